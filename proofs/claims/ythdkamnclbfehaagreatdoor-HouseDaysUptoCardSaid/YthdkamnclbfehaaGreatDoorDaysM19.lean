/- A part of the proof. -/
import Derived.Test.YthdkamnclbfehaaGreatDoorDaysM15
import Derived.Test.YthdkamnclbfehaaGreatDoorCards
import Derived.Test.YthdkamnclbfehaaGreatDoorDaysM18
set_option linter.all false
set_option maxRecDepth 100000
namespace Go.Proofs.YthdkamnclbfehaaGreatDoor
open Go Go.ChangeShapes Go.WideShapes Go.ChangeAt Go.WideMaps Go.WideElems Go.RowKit
theorem lift_upto {f:FuncId} {fn:Func} {s:ChangeSpec} {H:Type} {enc:TypeId × Value→H} {os:Os} {F:Stop.Interp} (started:os.Started) (hfn:Tryz.prog.funcs[f]?=some fn) (noInit:Tryz.prog.inits.idxOf? f=none)
    (hvars:s.vars=[]) (hres:fn.resultTypes=#[4]) (hpar:(fn.params.toList.all fun t=>Tryz.prog.readableRec t && decide (t < Tryz.prog.types.size))=true)
    (hspec:∀ ds:List (DataW H),ds.length=fn.params.toList.length→s.fn H ds = {results:=[.lit (.bool true)],args:=ds,vars:=[]})
    (witness:∃ (w:World) (tape:Tape) (i:Input),w.os=os∧(w.forCall tape i).Shaped Tryz.prog∧i.vars=[]∧Input.okWide Tryz.prog (w.forCall tape i) .any w.heap.size f i∧
      (Rows.OpenSpec.upto s).preRow enc Tryz.prog fn [] false laidL (w.forCall tape i).memory i.args∧({}:Assume).holds Tryz.prog (lone (Frame.enter Tryz.prog f i.args .normal) [] (w.forCall tape i)))
    (walk:∀ (W:World) (base:Nat) (args:Array Value) (ds:List (DataW H)) (ps:List MemPlace),(∀ (j:Nat) t v,fn.params[j]?=some t→args[j]?=some v→Value.okWide Tryz.prog W .any base t v)→
      DataW.TrodAll enc Tryz.prog W 0 (fun _=>true) true fn.params.toList args.toList ds ps→(∀ x∈ps,x.block < W.heap.size)→(∀ (j:Nat) (t:TypeId) (d:DataW H),fn.params.toList[j]?=some t→ds[j]?=some d→∀ n∈d.weights Tryz.prog t,n≤reachBytes)→Rows.uptoBulkAll ds≤1048576→Glob W→Calls Tryz.prog f args W (IdxPost W (.bool true))) :
    ReturnsInHanded {} Tryz.checked os f .any ((Rows.OpenSpec.upto s).preRow enc Tryz.prog fn [] false laidL) (((Rows.OpenSpec.upto s).at F).post enc Tryz.prog fn false true false false):=by
  refine returnsInHanded_of_calls (C:=Tryz.checked) own started noInit witness ?_
  intro w tape i _ ad _ ac O _
  obtain ⟨_,_,_,G,J,_,_,_,_,R⟩:=ac
  obtain rfl:G=fn:=Option.some.inj (J.symm.trans hfn)
  obtain ⟨⟨hp,hx⟩,hz⟩:=O
  obtain ⟨ds,gs,before,hw,_,hk⟩:=OpenSpec.pre_parts hp
  have M:Rows.uptoSmall H (ds++gs)=true:=hk _ rfl
  have ah:=hz.weights hw
  have hW:=DataW.Whole.of_heap (w':=w.forCall tape i) (by rfl) hw
  have hL:laidMetH Tryz.prog laidL (w.forCall tape i):=hx.of_heap (by rfl)
  have hG:=glob_of_laid hL ad
  have X:=hW
  obtain ⟨p,q,hA,hV,rfl,_,_⟩:=hW
  have ae:(Rows.OpenSpec.upto s).vars=[]:=hvars
  rw [ae] at hV
  obtain ⟨rfl,rfl⟩:=trodVars_none hV
  rw [List.append_nil] at M
  unfold Rows.uptoSmall at M
  have Z:=of_decide_eq_true M
  have Y:∀ x∈p,x.block < (w.forCall tape i).heap.size:=fun x hx=>X.lt x (by simpa using hx)
  have A:ds.length=G.params.toList.length:=trodAll_length hA
  have U:∀ (j:Nat) (t:TypeId) (d:DataW H),G.params.toList[j]?=some t→ds[j]?=some d→∀ n∈d.weights Tryz.prog t,n≤reachBytes:=fun j t d h1 h2 n hn=>by
    have hj:=(List.getElem?_eq_some_iff.1 h1).1
    have aa:=(List.getElem?_eq_some_iff.1 h2).1
    have:=DataW.weights_mem_each (P:=Tryz.prog) (ts:=G.params.toList++(Rows.OpenSpec.upto s).bare.plain.varTypes Tryz.prog) (ds:=ds++[]) (j:=j) (by rw [List.getElem?_append_left hj];exact h1) (by rw [List.getElem?_append_left aa];exact h2) n hn
    have h3:=List.all_eq_true.1 ah n this
    simpa using h3
  refine (walk (w.forCall tape i) w.heap.size i.args ds p R hA Y U Z hG).mono fun e W' ⟨he,hk⟩=>?_
  subst he
  have hs:∀ es:List (DataW H),((Rows.OpenSpec.upto s).at F).fn H es=s.fn H es:=fun _=>rfl
  refine ChangeSpec.post_blind ⟨ds,[],p++[],[],p,[],X,?_,?_,?_,hk.toBelow.frame _,fun h=>by cases h⟩
  · rw [List.append_nil,hs,hspec ds A,hres]
    exact trodAll_mk1 (shut_bool Tryz.underlying4 true)
  · rw [List.append_nil,hs,hspec ds A]
    exact args_stay hk.toBelow hpar hA Y
  · rw [List.append_nil,hs,hspec ds A]
    have ag:((Rows.OpenSpec.upto s).at F).vars=[]:=hvars
    rw [ag]
    exact rfl
theorem bulk_mem {H:Type} {d:DataW H}:∀ {l:List (DataW H)},d∈l→Rows.uptoBulk d≤Rows.uptoBulkAll l
  | x::r,h=>by
    simp only [Rows.uptoBulkAll]
    rcases List.mem_cons.1 h with rfl | q
    · omega
    · have:=bulk_mem q;omega
theorem bulk_at {H:Type} {l:List (DataW H)} {j:Nat} {d:DataW H} (h:l[j]?=some d):Rows.uptoBulk d≤Rows.uptoBulkAll l:=bulk_mem (List.mem_of_getElem? h)
def small {H:Type} (d:DataW H):Prop:=Rows.uptoBulk d≤1048576
theorem small_elems {H:Type} {d:DataW H} (h:small d) {elems spare:List (DataW H)} (e:d = .slice elems spare):∀ y∈elems,small y:=fun y hy=>by
  subst e
  have h1:Rows.uptoBulk (.slice elems spare)≤1048576:=h
  simp only [Rows.uptoBulk] at h1
  have:=bulk_mem hy
  unfold small
  omega
theorem small_str {H:Type} {y:DataW H} {s:ByteArray} (hy:y = .lit (.string s.data.toList)) (h:small y):s.size≤1048576:=by
 subst hy;have h1:Rows.uptoBulk (DataW.lit (H:=H) (.string s.data.toList))≤1048576:=h;simp only [Rows.uptoBulk] at h1;have e:s.data.toList.length=s.size:=(by simp);omega
theorem small_agg {H:Type} {d:DataW H} (h:small d) {parts:List (DataW H)} (e:d = .agg parts):∀ y∈parts,small y:=fun y hy=>by
  subst e
  have h1:Rows.uptoBulk (.agg parts)≤1048576:=h
  simp only [Rows.uptoBulk] at h1
  have:=bulk_mem hy
  unfold small
  omega
theorem rd_argS {H:Type} {enc:TypeId × Value→H} {W:World} {base size:Nat} {t e:TypeId} {v:Value} {d:DataW H} {ps:List MemPlace} (ht:Tryz.prog.underlying t=some (.slice e)) (hc:Tryz.prog.cellsOf e=size) (h0:0 < size) (hval:Value.okWide Tryz.prog W .any base t v) (h:DataW.Trod enc Tryz.prog W 0 (fun _=>true) true t v d ps) (hsm:small d) (G:List Value→Prop) (hG:∀ n cs y,DataW.trod enc Tryz.prog W 0 (fun _=>true) true n e cs=some y→cs.length=size→small y.1→G cs∧∀ u∈cs,u.oneCell'=true):∃ xss:List (List Value),(∀ c∈xss,G c)∧xss.length≤maxLen∧Rd W size v xss.length xss.flatten:=by
 obtain ⟨ao,len,Y,rfl⟩:=okWide_slice ht hval;obtain ⟨aa,hf⟩:=h;have hs:∀ a,ao=some a→a.spot=none:=fun a e=>(by subst e;simp only [Value.okWide,ht,Cell.okWide,Cell.ok] at hval;exact hval.2.2.2.1);rcases Deep.open_slice ht hf with ⟨M,_⟩ | ⟨a,ah,Z,m,n,D,Pl,M,_,hl,hm,ae,hx,X⟩
 ·simp [Value.cells] at M;obtain ⟨rfl,rfl,rfl⟩:=M;exact ⟨[],(fun c hc=>absurd hc (List.not_mem_nil)),Nat.zero_le _,Rd.nil _ _⟩
 ·simp [Value.cells] at M;obtain ⟨rfl,rfl,rfl⟩:=M;simp only [if_true] at ae;rw [hc] at X;obtain ⟨b,o,sp⟩:=a;obtain rfl:sp=none:=hs _ rfl;have ad:∀ i,i < len→∃ A,W.cells? 0 ((⟨b,o,none⟩:Addr).add (i * size)) size=some A∧A.length=size∧(G A∧∀ u∈A,u.oneCell'=true)∧∀ r,r < size→W.cell? ⟨b,o+(i * size+r),none⟩=A[r]?:=fun i hi=>by obtain ⟨A,h1,h2⟩:=X i (by omega);obtain ⟨_,h3,h4⟩:=World.cells?_some h1;have hd:d = .slice ((List.range len).map D) ((List.range (m - len)).map fun j=>D (len+j)):=(Prod.mk.inj hx).1;refine ⟨A,h1,h3,hG _ _ _ h2 h3 (small_elems hsm hd (D i) (List.mem_map.2 ⟨i,List.mem_range.2 hi,rfl⟩)),fun r hr=>?_⟩;rw [← h4 r hr,z_c,z_c,Nat.add_assoc]
  obtain ⟨f,R⟩:∃ f:Nat→List Value,∀ i,i < len→(f i).length=size∧(G (f i)∧∀ u∈f i,u.oneCell'=true)∧∀ r,r < size→W.cell? ⟨b,o+(i * size+r),none⟩=(f i)[r]?:=
    ⟨fun i=>(W.cells? 0 ((⟨b,o,none⟩:Addr).add (i * size)) size).getD [],fun i hi=>by
      obtain ⟨A,h1,h2,h3,h4⟩:=ad i hi
      simp only [h1,Option.getD_some]
      exact ⟨h2,h3,h4⟩⟩
  have J:∀ c∈(List.range len).map f,∃ i,i < len∧f i=c:=fun c C=>(by obtain ⟨i,hi,e⟩:=List.mem_map.1 C;exact ⟨i,List.mem_range.1 hi,e⟩);have O:∀ c∈(List.range len).map f,c.length=size:=fun c C=>(by obtain ⟨i,hi,rfl⟩:=J c C;exact (R i hi).1);have U:((List.range len).map f).length=len:=(by simp);refine ⟨(List.range len).map f,fun c C=>?_,by rw [U];omega,?_⟩
  ·obtain ⟨i,hi,rfl⟩:=J c C;exact (R i hi).2.1.1
  ·refine ⟨flatten_len _ O,fun u hu=>?_,.inr ⟨b,o,Y,by rw [U],by rw [U];exact hl,by omega,fun j u hu=>?_⟩⟩
   ·obtain ⟨c,C,ag⟩:=List.mem_flatten.1 hu;obtain ⟨i,hi,rfl⟩:=J c C;exact (R i hi).2.1.2 u ag
   ·obtain ⟨i,r,c,rfl,hr,h1,h2⟩:=flatten_at h0 _ O j u hu;have hi:i < len:=(by have:=(List.getElem?_eq_some_iff.1 h1).1;rwa [U] at this);have ac:f i=c:=(by rw [List.getElem?_map,List.getElem?_range hi] at h1;exact Option.some.inj h1);rw [(R i hi).2.2 r hr,ac];exact h2
theorem strs_argS {H:Type} {enc:TypeId × Value→H} {W:World} {base:Nat} {t:TypeId} {v:Value} {d:DataW H} {ps:List MemPlace} (ht:Tryz.prog.underlying t=some (.slice 9)) (hval:Value.okWide Tryz.prog W .any base t v) (h:DataW.Trod enc Tryz.prog W 0 (fun _=>true) true t v d ps) (hwt:∀ n∈d.weights Tryz.prog t,n≤reachBytes) (hsm:small d):∃ l:List ByteArray,(∀ s∈l,s.size≤1048576)∧l.length≤140737488355328∧Rd W 1 v l.length (strCells l):=by
 obtain ⟨R,C,M,G⟩:=rd_argS ht cellsStr (by omega) hval h hsm (fun c=>∃ s:ByteArray,c=[.string s]∧s.size≤1048576) (fun n cs y h hl hw=>by obtain ⟨s,e,hy,_⟩:=DataW.trod_string Tryz.underlying9 h;subst e;exact ⟨⟨s,rfl,small_str (y:=y.1) (by rw [hy]) hw⟩,fun u hu=>by rw [List.mem_singleton.1 hu];rfl⟩);obtain ⟨l,rfl,hl⟩:=map_of (fun s:ByteArray=>[Value.string s]) _ R C;rw [List.length_map,flat_strs] at G;obtain ⟨ao,len,X,O,hb⟩:=arg_len ht bytesStr hval h hwt;obtain ⟨U,J,A,_⟩:=G.shape;rw [O] at A;injection A with _ e _;exact ⟨l,hl,by omega,G⟩
theorem cells84D:Tryz.prog.cellsOf 84=2:=by kernel_rfl
theorem bytes84D:1≤Tryz.prog.bytesOf 84:=of_decide_eq_true (by kernel_rfl)
theorem flat_callsD (l:List CallR):(l.map callC).flatten=callsC l:=by
 induction l with
 | nil=>rfl
 | cons x l ih=>simp only [List.map_cons,List.flatten_cons,ih];rfl
theorem call_ofS {H:Type} {enc:TypeId × Value→H} {W:World} {n:Nat} {cs:List Value} {y:DataW H × List MemPlace} (h:DataW.trod enc Tryz.prog W 0 (fun _=>true) true n 84 cs=some y) (hl:cs.length=2) (hsm:small y.1):∃ a:CallR,cs=callC a∧a.2.size≤1048576:=by
 obtain ⟨xs,m,_,hy,_,C,hf⟩:=DataW.trod_struct Tryz.underlying84 h;match cs,hl with
 | [c0,c1],_=>
  have f0:DataW.trod enc Tryz.prog W 0 (fun _=>true) true m 3 (([c0,c1].drop 0).take (Tryz.prog.cellsOf 3))=xs[0]?:=hf 0 _ rfl;have f1:DataW.trod enc Tryz.prog W 0 (fun _=>true) true m 9 (([c0,c1].drop 1).take (Tryz.prog.cellsOf 9))=xs[1]?:=hf 1 _ rfl;rw [cellsInt] at f0;rw [cellsStr] at f1;match xs,C with
  | [x0,x1],_=>
   simp only [List.drop_zero,List.take_succ_cons,List.take_zero,List.drop_succ_cons,List.getElem?_cons_zero,List.getElem?_cons_succ] at f0 f1;obtain ⟨k,e0,_,G⟩:=DataW.trod_int Tryz.underlying3 f0;obtain ⟨s,e1,A,_⟩:=DataW.trod_string Tryz.underlying9 f1;simp only [List.cons.injEq,and_true] at e0 e1;subst e0 e1;exact ⟨(k,s),rfl,small_str (y:=x1.1) (by rw [A]) (small_agg hsm (congrArg Prod.fst hy) x1.1 (List.mem_cons_of_mem _ List.mem_cons_self))⟩
theorem calls_argS {H:Type} {enc:TypeId × Value→H} {W:World} {base:Nat} {v:Value} {d:DataW H} {ps:List MemPlace} (hval:Value.okWide Tryz.prog W .any base 28 v) (h:DataW.Trod enc Tryz.prog W 0 (fun _=>true) true 28 v d ps) (hwt:∀ n∈d.weights Tryz.prog 28,n≤reachBytes) (hsm:small d):∃ l:List CallR,(∀ c∈l,c.2.size≤1048576)∧l.length≤140737488355328∧Rd W 2 v l.length (callsC l):=by
 obtain ⟨R,C,M,G⟩:=rd_argS Tryz.underlying28 cells84D (by omega) hval h hsm (fun c=>∃ a:CallR,c=callC a∧a.2.size≤1048576) (fun n cs y h hl hw=>by obtain ⟨a,rfl,h2⟩:=call_ofS h hl hw;exact ⟨⟨a,rfl,h2⟩,fun u hu=>by simp [callC] at hu;rcases hu with rfl | rfl <;> rfl⟩);obtain ⟨l,rfl,hl⟩:=map_of callC _ R C;rw [List.length_map,flat_callsD] at G;obtain ⟨ao,len,X,O,hb⟩:=arg_len Tryz.underlying28 bytes84D hval h hwt;obtain ⟨U,J,A,_⟩:=G.shape;rw [O] at A;injection A with _ e _;exact ⟨l,hl,by omega,G⟩
end Go.Proofs.YthdkamnclbfehaaGreatDoor
