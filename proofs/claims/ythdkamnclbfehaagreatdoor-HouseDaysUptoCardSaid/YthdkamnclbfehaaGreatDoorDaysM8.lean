/- A part of the proof. -/
import Derived.Test.YthdkamnclbfehaaGreatDoorDaysM7
import Derived.Deep.Slices
set_option linter.all false
set_option maxRecDepth 100000
namespace Go.Proofs.YthdkamnclbfehaaGreatDoor
open Go Go.ChangeShapes Go.WideShapes Go.ChangeAt Go.WideMaps Go.WideElems Go.RowKit
theorem flatten_len {size:Nat}:∀ (xss:List (List Value)),(∀ c∈xss,c.length=size)→xss.flatten.length=xss.length * size:=by
 intro xss;induction xss with
 | nil=>intro _;simp
 | cons c cs ih=>
  intro h;rw [List.flatten_cons,List.length_append,ih (fun x hx=>h x (List.mem_cons_of_mem _ hx)),h c (List.mem_cons_self ..),List.length_cons,Nat.add_mul];omega
theorem flatten_at {size:Nat} (h0:0 < size):∀ (xss:List (List Value)),(∀ c∈xss,c.length=size)→∀ (j:Nat) (u:Value),xss.flatten[j]?=some u→∃ i r c,j=i * size+r∧r < size∧xss[i]?=some c∧c[r]?=some u:=by
 intro xss;induction xss with
 | nil=>intro _ j u h;simp at h
 | cons c cs ih=>
  intro hc j u h;have A:=hc c (List.mem_cons_self ..);rw [List.flatten_cons] at h;by_cases hj:j < size
  ·rw [List.getElem?_append_left (by omega)] at h;exact ⟨0,j,c,by omega,hj,rfl,h⟩
  ·rw [List.getElem?_append_right (by omega),A] at h;obtain ⟨i,r,c',e,hr,h1,h2⟩:=ih (fun x hx=>hc x (List.mem_cons_of_mem _ hx)) _ u h;exact ⟨i+1,r,c',by rw [Nat.add_mul];omega,hr,by simpa using h1,h2⟩
theorem weights_all {H:Type} {e:TypeId} {n:Nat}:∀ (l:List (DataW H)) (d:DataW H),d∈l→n∈d.weights Tryz.prog e→n∈DataW.weightsAll Tryz.prog e l:=by
 intro l;induction l with
 | nil=>intro d h;cases h
 | cons a l ih=>
  intro d h hn;unfold DataW.weightsAll;rcases List.mem_cons.1 h with rfl | h
  ·exact List.mem_append_left _ hn
  ·exact List.mem_append_right _ (ih d h hn)
theorem rd_arg {H:Type} {enc:TypeId × Value→H} {W:World} {base size:Nat} {t e:TypeId} {v:Value} {d:DataW H} {ps:List MemPlace} (ht:Tryz.prog.underlying t=some (.slice e)) (hc:Tryz.prog.cellsOf e=size) (h0:0 < size) (hval:Value.okWide Tryz.prog W .any base t v) (h:DataW.Trod enc Tryz.prog W 0 (fun _=>true) true t v d ps) (hwt:∀ n∈d.weights Tryz.prog t,n≤reachBytes) (G:List Value→Prop) (hG:∀ n cs y,DataW.trod enc Tryz.prog W 0 (fun _=>true) true n e cs=some y→cs.length=size→(∀ m∈y.1.weights Tryz.prog e,m≤reachBytes)→G cs∧∀ u∈cs,u.oneCell'=true):∃ xss:List (List Value),(∀ c∈xss,G c)∧xss.length≤maxLen∧Rd W size v xss.length xss.flatten:=by
 obtain ⟨ao,len,Y,rfl⟩:=okWide_slice ht hval;obtain ⟨aa,hf⟩:=h;have hs:∀ a,ao=some a→a.spot=none:=fun a e=>(by subst e;simp only [Value.okWide,ht,Cell.okWide,Cell.ok] at hval;exact hval.2.2.2.1);rcases Deep.open_slice ht hf with ⟨M,_⟩ | ⟨a,ah,Z,m,n,D,Pl,M,_,hl,hm,ae,hx,X⟩
 ·simp [Value.cells] at M;obtain ⟨rfl,rfl,rfl⟩:=M;exact ⟨[],(fun c hc=>absurd hc (List.not_mem_nil)),Nat.zero_le _,Rd.nil _ _⟩
 ·simp [Value.cells] at M;obtain ⟨rfl,rfl,rfl⟩:=M;simp only [if_true] at ae;rw [hc] at X;obtain ⟨b,o,sp⟩:=a;obtain rfl:sp=none:=hs _ rfl;have ad:∀ i,i < len→∃ A,W.cells? 0 ((⟨b,o,none⟩:Addr).add (i * size)) size=some A∧A.length=size∧(G A∧∀ u∈A,u.oneCell'=true)∧∀ r,r < size→W.cell? ⟨b,o+(i * size+r),none⟩=A[r]?:=fun i hi=>by obtain ⟨A,h1,h2⟩:=X i (by omega);obtain ⟨_,h3,h4⟩:=World.cells?_some h1;have hd:d = .slice ((List.range len).map D) ((List.range (m - len)).map fun j=>D (len+j)):=(Prod.mk.inj hx).1;have hw:∀ k∈(D i).weights Tryz.prog e,k≤reachBytes:=fun k hk=>hwt k (by rw [hd];unfold DataW.weights;rw [ht];exact List.mem_cons_of_mem _ (List.mem_append_left _ (weights_all _ (D i) (List.mem_map.2 ⟨i,List.mem_range.2 hi,rfl⟩) hk)));refine ⟨A,h1,h3,hG _ _ _ h2 h3 hw,fun r hr=>?_⟩;rw [← h4 r hr,z_c,z_c,Nat.add_assoc]
  obtain ⟨f,R⟩:∃ f:Nat→List Value,∀ i,i < len→(f i).length=size∧(G (f i)∧∀ u∈f i,u.oneCell'=true)∧∀ r,r < size→W.cell? ⟨b,o+(i * size+r),none⟩=(f i)[r]?:=
    ⟨fun i=>(W.cells? 0 ((⟨b,o,none⟩:Addr).add (i * size)) size).getD [],fun i hi=>by
      obtain ⟨A,h1,h2,h3,h4⟩:=ad i hi
      simp only [h1,Option.getD_some]
      exact ⟨h2,h3,h4⟩⟩
  have J:∀ c∈(List.range len).map f,∃ i,i < len∧f i=c:=fun c C=>(by obtain ⟨i,hi,e⟩:=List.mem_map.1 C;exact ⟨i,List.mem_range.1 hi,e⟩);have O:∀ c∈(List.range len).map f,c.length=size:=fun c C=>(by obtain ⟨i,hi,rfl⟩:=J c C;exact (R i hi).1);have U:((List.range len).map f).length=len:=(by simp);refine ⟨(List.range len).map f,fun c C=>?_,by rw [U];omega,?_⟩
  ·obtain ⟨i,hi,rfl⟩:=J c C;exact (R i hi).2.1.1
  ·refine ⟨flatten_len _ O,fun u hu=>?_,.inr ⟨b,o,Y,by rw [U],by rw [U];exact hl,by omega,fun j u hu=>?_⟩⟩
   ·obtain ⟨c,C,ag⟩:=List.mem_flatten.1 hu;obtain ⟨i,hi,rfl⟩:=J c C;exact (R i hi).2.1.2 u ag
   ·obtain ⟨i,r,c,rfl,hr,h1,h2⟩:=flatten_at h0 _ O j u hu;have hi:i < len:=(by have:=(List.getElem?_eq_some_iff.1 h1).1;rwa [U] at this);have ac:f i=c:=(by rw [List.getElem?_map,List.getElem?_range hi] at h1;exact Option.some.inj h1);rw [(R i hi).2.2 r hr,ac];exact h2
theorem map_of {A:Type} (f:A→List Value) (P:A→Prop):∀ (xss:List (List Value)),(∀ c∈xss,∃ a,c=f a∧P a)→∃ l:List A,xss=l.map f∧∀ a∈l,P a:=by
 intro xss;induction xss with
 | nil=>intro _;exact ⟨[],rfl,(fun a ha=>absurd ha (List.not_mem_nil))⟩
 | cons c cs ih=>
  intro h;obtain ⟨a,rfl,ha⟩:=h c (List.mem_cons_self ..);obtain ⟨l,rfl,hl⟩:=ih (fun x hx=>h x (List.mem_cons_of_mem _ hx))
  exact ⟨a::l,rfl,fun x hx=>by
   rcases List.mem_cons.1 hx with rfl | hx
   ·exact ha
   ·exact hl x hx⟩
end Go.Proofs.YthdkamnclbfehaaGreatDoor
