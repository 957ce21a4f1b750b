/- A part of the proof. -/
import Derived.Test.YthdkamnclbfehaaGreatDoorDaysM27
import Derived.Test.YthdkamnclbfehaaGreatDoorDaysM24
set_option linter.all false
namespace Go.Proofs.YthdkamnclbfehaaGreatDoor
open Go.RowKit Tryz
def runF (f:Nat) (S:St) (a:FA):Res:=
  if f=255 then takeF S a else if f=256 then blendF S a else if f=257 then putF S a else if f=258 then touchF S a else if f=259 then testF S a else shutF S a
def numB (n:Int):Prop:=0≤n∧n≤9223372036854775807
inductive Said (f:Nat) (a:FA):Prop where
  | take (h:f=255) (n:Int) (w:ByteArray) (e:a=⟨[n],w,true⟩) (hn:numB n) (hw:w.size≤8)
  | blend (h:f=256) (i j q:Int) (e:a=⟨[i,j,q],bs [],true⟩) (hi:numB i) (hj:numB j) (hq:numB q)
  | put (h:f=257) (i b:Int) (e:a=⟨[i,b],bs [],true⟩) (hi:numB i) (hb:numB b)
  | touch (h:f=258) (i j:Int) (e:a=⟨[i,j],bs [],true⟩) (hi:numB i) (hj:numB j)
  | test (h:f=259) (i:Int) (w:ByteArray) (e:a=⟨[i],w,true⟩) (hi:numB i) (hw:w=goodB∨w=badBs)
  | close (h:f=260) (i:Int) (e:a=⟨[i],bs [],true⟩) (hi:numB i)
theorem v_i (a:FA) (w:ByteArray):(stepF a (100,w)).n=a.n++[atoiN w]∧(stepF a (100,w)).word=a.word∧((stepF a (100,w)).ok=true→a.ok=true∧numB (atoiN w)):=by
 refine ⟨rfl,rfl,fun h=>?_⟩;have h':(a.ok && atoiOk w && decide (w.size≤6) && decide (0≤atoiN w) && decide (itoaB (atoiN w)=w))=true:=h;simp only [Bool.and_eq_true,decide_eq_true_eq] at h';exact ⟨h'.1.1.1.1,h'.1.2,(u_w w).2⟩
theorem step_s (a:FA) (w:ByteArray):(stepF a (115,w)).n=a.n∧(stepF a (115,w)).word=w∧((stepF a (115,w)).ok=true→a.ok=true∧w.size≤8):=by
 refine ⟨rfl,rfl,fun h=>?_⟩;have h':(a.ok && isSpiceB w)=true:=h;unfold isSpiceB at h';simp only [Bool.and_eq_true,decide_eq_true_eq] at h';exact ⟨h'.1,h'.2.1⟩
theorem step_t (a:FA) (w:ByteArray):(stepF a (116,w)).n=a.n∧(stepF a (116,w)).word=w∧((stepF a (116,w)).ok=true→a.ok=true∧(w=goodB∨w=badBs)):=by
 refine ⟨rfl,rfl,fun h=>?_⟩;have h':(a.ok && (decide (w=goodB) || decide (w=badBs)))=true:=h;simp only [Bool.and_eq_true,Bool.or_eq_true,decide_eq_true_eq] at h';exact h'
theorem FA.mk3 {a:FA} {n:List Int} {w:ByteArray} (h1:a.n=n) (h2:a.word=w) (h3:a.ok=true):a=⟨n,w,true⟩:=by
 obtain ⟨x,y,z⟩:=a;simp only at h1 h2 h3;subst h1 h2 h3;rfl
theorem fold_1 {c:UInt8} {ws:List ByteArray} (h:ws.length=1):∃ w,foldF [c] ws=stepF ⟨[],bs [],true⟩ (c,w):=by
 match ws,h with
 | [w],_=>exact ⟨w,rfl⟩
theorem fold_2 {c d:UInt8} {ws:List ByteArray} (h:ws.length=2):∃ w x,foldF [c,d] ws=stepF (stepF ⟨[],bs [],true⟩ (c,w)) (d,x):=by
 match ws,h with
 | [w,x],_=>exact ⟨w,x,rfl⟩
theorem fold_3 {c d e:UInt8} {ws:List ByteArray} (h:ws.length=3):∃ w x y,foldF [c,d,e] ws=stepF (stepF (stepF ⟨[],bs [],true⟩ (c,w)) (d,x)) (e,y):=by
 match ws,h with
 | [w,x,y],_=>exact ⟨w,x,y,rfl⟩
theorem said_of {line:ByteArray} {so:List UInt8} {f:Nat} {a:FA} (h:formF line=some (so,f,a)) (hok:a.ok=true):Said f a:=by
 unfold formF at h;split at h
 ·split at h
  ·rename_i J f' C;split at h
   ·rename_i G;simp only [Option.some.injEq,Prod.mk.injEq] at h;obtain ⟨rfl,rfl,rfl⟩:=h;have A:(words line).tail.length=J.length:=(by rw [List.length_tail];exact G);unfold chF at C;repeat' split at C
    all_goals first | (cases C;done) | (simp only [Option.some.injEq,Prod.mk.injEq] at C;obtain ⟨rfl,rfl⟩:=C)
    ·obtain ⟨w,x,e⟩:=fold_2 (c:=115) (d:=100) A;rw [e] at hok ⊢;obtain ⟨a1,a2,a3⟩:=step_s ⟨[],bs [],true⟩ w;obtain ⟨b1,b2,b3⟩:=v_i (stepF ⟨[],bs [],true⟩ (115,w)) x;exact .take rfl _ _ (FA.mk3 (b1.trans (by rw [a1];rfl)) (b2.trans a2) hok) (b3 hok).2 (a3 (b3 hok).1).2
    ·obtain ⟨w,x,y,e⟩:=fold_3 (c:=100) (d:=100) (e:=100) A;rw [e] at hok ⊢;obtain ⟨a1,a2,a3⟩:=v_i ⟨[],bs [],true⟩ w;obtain ⟨b1,b2,b3⟩:=v_i (stepF ⟨[],bs [],true⟩ (100,w)) x;obtain ⟨c1,c2,c3⟩:=v_i (stepF (stepF ⟨[],bs [],true⟩ (100,w)) (100,x)) y;exact .blend rfl _ _ _ (FA.mk3 (c1.trans (by rw [b1,a1];rfl)) (c2.trans (b2.trans a2)) hok) (a3 (b3 (c3 hok).1).1).2 (b3 (c3 hok).1).2 (c3 hok).2
    ·obtain ⟨w,x,e⟩:=fold_2 (c:=100) (d:=100) A;rw [e] at hok ⊢;obtain ⟨a1,a2,a3⟩:=v_i ⟨[],bs [],true⟩ w;obtain ⟨b1,b2,b3⟩:=v_i (stepF ⟨[],bs [],true⟩ (100,w)) x;exact .put rfl _ _ (FA.mk3 (b1.trans (by rw [a1];rfl)) (b2.trans a2) hok) (a3 (b3 hok).1).2 (b3 hok).2
    ·obtain ⟨w,x,e⟩:=fold_2 (c:=100) (d:=100) A;rw [e] at hok ⊢;obtain ⟨a1,a2,a3⟩:=v_i ⟨[],bs [],true⟩ w;obtain ⟨b1,b2,b3⟩:=v_i (stepF ⟨[],bs [],true⟩ (100,w)) x;exact .touch rfl _ _ (FA.mk3 (b1.trans (by rw [a1];rfl)) (b2.trans a2) hok) (a3 (b3 hok).1).2 (b3 hok).2
    ·obtain ⟨w,x,e⟩:=fold_2 (c:=100) (d:=116) A;rw [e] at hok ⊢;obtain ⟨a1,a2,a3⟩:=v_i ⟨[],bs [],true⟩ w;obtain ⟨b1,b2,b3⟩:=step_t (stepF ⟨[],bs [],true⟩ (100,w)) x;exact .test rfl _ _ (FA.mk3 (b1.trans a1) b2 hok) (a3 (b3 hok).1).2 (b3 hok).2
    ·obtain ⟨w,e⟩:=fold_1 (c:=100) A;rw [e] at hok ⊢;obtain ⟨a1,a2,a3⟩:=v_i ⟨[],bs [],true⟩ w;exact .close rfl _ (FA.mk3 (a1.trans rfl) a2 hok) (a3 hok).2
   ·cases h
  ·cases h
 ·cases h
theorem enters256:Enters 256:=enters_of func256 (by kernel_rfl) rfl
theorem enters257:Enters 257:=enters_of func257 (by kernel_rfl) rfl
theorem enters258:Enters 258:=enters_of func258 (by kernel_rfl) rfl
theorem enters259:Enters 259:=enters_of func259 (by kernel_rfl) rfl
theorem enters260:Enters 260:=enters_of func260 (by kernel_rfl) rfl
structure Lot.ok (x:Lot):Prop where
  s:x.spice.size≤8
  g:i64b x.grams
  b : -1≤x.bay∧x.bay≤7
structure Inv (k:Nat) (S:St):Prop where
  b:S.bays.length=8
  l:S.lots.length≤20
  c:S.contacts.length≤2 * k
  t:S.tests.length≤k
  n:S.notes.length≤2 * k
  lo:∀ x∈S.lots,x.ok
  no:∀ x∈S.notes,x.size≤100
theorem Inv.small {k:Nat} {S:St} (h:Inv k S) (hk:k≤100000000):S.small:=⟨by have:=h.l;omega,by have:=h.c;omega,by have:=h.t;omega,by have:=h.n;omega⟩
theorem run_ok {k:Nat} {S:St} (h:Inv k S) (hk:k≤100000000) (line:ByteArray):RunOK runF S line:=by
 intro so f a hf A;have hs:=h.small hk;have hl:=h.l;have hc:=h.c;have hn:=h.n;cases said_of hf A with
 | take e n w ha hn hw=>subst e ha;exact ⟨enters255,fun base w V vn hG ho hA=>take_any hG ho hl hA rfl⟩
 | blend e i j q ha hi hj hq=>subst e ha;exact ⟨enters256,fun base w V vn hG ho hA=>blend_any hG ho hs (by omega) (by omega) hl hA rfl (by simp;exact ⟨⟨by have:=hi.1;omega,hi.2⟩,⟨by have:=hj.1;omega,hj.2⟩,⟨by have:=hq.1;omega,hq.2⟩⟩)⟩
 | put e i b ha hi hb=>subst e ha;exact ⟨enters257,fun base w V vn hG ho hA=>put_any hG ho hs h.b hA rfl (by simp;exact ⟨hi,hb⟩)⟩
 | touch e i j ha hi hj=>subst e ha;exact ⟨enters258,fun base w V vn hG ho hA=>touch_any hG ho hs hA rfl (by simp;exact ⟨⟨by have:=hi.1;omega,hi.2⟩,⟨by have:=hj.1;omega,hj.2⟩⟩)⟩
 | test e i w ha hi hw=>subst e ha;exact ⟨enters259,fun base w' V vn hG ho hA=>test_any hG ho hs hA rfl (by simp;exact ⟨by have:=hi.1;omega,hi.2⟩) (by rcases hw with e | e <;> subst e <;> simp [goodB,badBs,bs,ByteArray.size])⟩
 | close e i ha hi=>subst e ha;exact ⟨enters260,fun base w V vn hG ho hA=>shut_any hG ho hs hA rfl⟩
end Go.Proofs.YthdkamnclbfehaaGreatDoor
namespace Go.Proofs.YthdkamnclbfehaaGreatDoor
open Go.RowKit
theorem index_split:∀ (l:List UInt8) (i:Nat),Lib.index l [32]=(i:Int)→l=l.take i++32::l.drop (i+1):=by
 intro l;induction l with
 | nil=>intro i h;simp [Lib.index] at h
 | cons x l ih=>
  intro i h;unfold Lib.index at h;by_cases hx:([32]:List UInt8).isPrefixOf (x::l)=true
  ·rw [if_pos hx] at h;have hi:i=0:=(by omega);subst hi;have:x=32:=(by have h2:((32:UInt8) == x && ([]:List UInt8).isPrefixOf l)=true:=hx;simp at h2;exact h2.symm);subst this;rfl
  ·rw [if_neg hx] at h;split at h
   ·omega
   ·rename_i C;have G:Lib.index l [32]≠-1:=fun e=>C (by rw [e];rfl);have J:=Lib.index_ge l [32];obtain ⟨j,hj⟩:∃ j:Nat,Lib.index l [32]=(j:Int):=⟨(Lib.index l [32]).toNat,by omega⟩;have A:i=j+1:=(by omega);subst A;have:=ih j hj;simp only [List.take_succ_cons,List.drop_succ_cons,List.cons_append];rw [← this]
theorem join_two (x y:List UInt8) (r:List (List UInt8)) (sep:List UInt8):Lib.join (x::y::r) sep=x++(sep++Lib.join (y::r) sep):=by
 rw [Lib.join_cons,Lib.join_cons];show x++((sep++y)++Lib.joinTail sep r)=_;simp [List.append_assoc]
theorem split_join:∀ (k:Nat) (s:ByteArray),Lib.countB s ⟨#[32]⟩=k→Lib.join ((Lib.splitB ⟨#[32]⟩ 0 k s).map (·.data.toList)) [32]=s.data.toList:=by
 intro k;induction k with
 | zero=>intro s _;rw [Lib.splitB_zero,List.map_cons,List.map_nil,Lib.join_one]
 | succ k ih=>
  intro s hk;rcases Lib.indexB_cases s ⟨#[32]⟩ with A | ⟨i,A,J⟩
  ·rw [Lib.countB_miss s _ A] at hk;omega
  ·have R:=Lib.countB_hit s ⟨#[32]⟩ i (by decide) A;rw [Lib.splitB_hit _ _ k s i A,List.map_cons];have G:=ih (s.extract (i+(⟨#[32]⟩:ByteArray).size) s.size) (by omega);have C:=Lib.splitB_all ⟨#[32]⟩ (by decide) 0 k (s.extract (i+(⟨#[32]⟩:ByteArray).size) s.size) (by omega);have M:=index_split s.data.toList i A;cases hw:Lib.splitB ⟨#[32]⟩ 0 k (s.extract (i+(⟨#[32]⟩:ByteArray).size) s.size) with
   | nil=>rw [hw] at C;simp at C
   | cons y r=>
    rw [hw,List.map_cons] at G;rw [List.map_cons,join_two,G];have e1:(s.extract 0 (i+0)).data.toList=s.data.toList.take i:=(by simp);have hz:s.data.toList.length=s.size:=(by simp);have e2:(s.extract (i+(⟨#[32]⟩:ByteArray).size) s.size).data.toList=s.data.toList.drop (i+1):=(by have O:(⟨#[32]⟩:ByteArray).size=1:=rfl;rw [O];simp;exact List.take_of_length_le (by simp));rw [e1,e2];exact M.symm
theorem words_join (s:ByteArray):Lib.join ((words s).map (·.data.toList)) [32]=s.data.toList:=split_join _ s rfl
theorem words_eq3 {s a b c:ByteArray} (h:words s=[a,b,c]):s=((a++bs [32])++b)++(bs [32]++c):=by
 have hj:=words_join s;rw [h] at hj;simp only [List.map_cons,List.map_nil,join_two,Lib.join_one] at hj;exact ByteArray.ext (by apply Array.toList_inj.1;rw [← hj];simp [bs])
theorem num_back {w:ByteArray} (h:numOk w=true):itoaB (atoiN w)=w:=by
 unfold numOk at h;rw [dec_same] at h;simp only [Bool.and_eq_true,decide_eq_true_eq] at h;exact h.2
theorem form_words {s:ByteArray} {so:List UInt8} {f:Nat} {a:FA} (h:formF s=some (so,f,a)):∃ w0 rest,words s=w0::rest∧chF w0.data.toList=some (so,f)∧rest.length=so.length∧a=foldF so rest:=by
 unfold formF at h;by_cases hl:isLineB s=true
 ·rw [if_pos hl] at h
  obtain ⟨w0,rest,C⟩:∃ w0 rest,words s=w0::rest:=by
   have:=x_v s;cases hw:words s with
   | nil=>rw [hw] at this;simp at this
   | cons a r=>exact ⟨a,r,rfl⟩
  rw [C] at h;simp only [List.headD_cons,List.tail_cons,List.length_cons,Nat.add_sub_cancel] at h;cases hc:chF w0.data.toList with
  | none=>rw [hc] at h;cases h
  | some x=>
   obtain ⟨G,f'⟩:=x;rw [hc] at h;simp only at h;by_cases A:rest.length=G.length
   ·rw [if_pos A] at h;simp only [Option.some.injEq,Prod.mk.injEq] at h;obtain ⟨rfl,rfl,rfl⟩:=h;exact ⟨w0,rest,C,hc,A,rfl⟩
   ·rw [if_neg A] at h;cases h
 ·rw [if_neg hl] at h;cases h
theorem chF_258 {l so:List UInt8} (h:chF l=some (so,258)):l=[116,111,117,99,104]∧so=[100,100]:=by
 unfold chF at h;repeat' split at h
 all_goals first | (rename_i e;simp only [Option.some.injEq,Prod.mk.injEq] at h;exact ⟨e,h.1.symm⟩) | (simp only [Option.some.injEq,Prod.mk.injEq] at h;omega) | cases h
theorem chF_259 {l so:List UInt8} (h:chF l=some (so,259)):l=[116,101,115,116]∧so=[100,116]:=by
 unfold chF at h;repeat' split at h
 all_goals first | (rename_i e;simp only [Option.some.injEq,Prod.mk.injEq] at h;exact ⟨e,h.1.symm⟩) | (simp only [Option.some.injEq,Prod.mk.injEq] at h;omega) | cases h
theorem touch_line {s:ByteArray} {so:List UInt8} {a:FA} (h:formF s=some (so,258,a)) (hok:a.ok=true):s=touchNote (a.n.getD 0 0) (a.n.getD 1 0):=by
 obtain ⟨w0,rest,G,hc,A,rfl⟩:=form_words h;obtain ⟨C,rfl⟩:=chF_258 hc;match rest,A with
 | [x,y],_=>
  have hf:foldF [100,100] [x,y]=⟨[atoiN x,atoiN y],bs [],numOk x && numOk y⟩:=(by show stepF (stepF ⟨[],bs [],true⟩ (100,x)) (100,y)=_;rw [stepD,stepD];rfl);rw [hf] at hok ⊢;simp only [Bool.and_eq_true] at hok;have he:=words_eq3 G;show s=touchNote (atoiN x) (atoiN y);unfold touchNote;rw [num_back hok.1,num_back hok.2,he];have h0:w0=bs [116,111,117,99,104]:=ByteArray.ext (by apply Array.toList_inj.1;rw [C];rfl);rw [h0];exact ByteArray.ext (by simp [bs])
theorem test_line {s:ByteArray} {so:List UInt8} {a:FA} (h:formF s=some (so,259,a)) (hok:a.ok=true):s=testNote (a.n.getD 0 0) a.word:=by
 obtain ⟨w0,rest,G,hc,A,rfl⟩:=form_words h;obtain ⟨C,rfl⟩:=chF_259 hc;match rest,A with
 | [x,y],_=>
  have hf:foldF [100,116] [x,y]=⟨[atoiN x],y,numOk x && (decide (y=goodB) || decide (y=badBs))⟩:=(by show stepF (stepF ⟨[],bs [],true⟩ (100,x)) (116,y)=_;rw [stepD,stepT];rfl);rw [hf] at hok ⊢;simp only [Bool.and_eq_true] at hok;have he:=words_eq3 G;show s=testNote (atoiN x) y;unfold testNote;rw [num_back hok.1,he];have h0:w0=bs [116,101,115,116]:=ByteArray.ext (by apply Array.toList_inj.1;rw [C];rfl);rw [h0];exact ByteArray.ext (by simp [bs])
def cat (ls:List ByteArray):List UInt8:=ls.flatMap (fun l=>l.data.toList++[10])
theorem cat_snoc (ls:List ByteArray) (s:ByteArray):cat (ls++[s])=cat ls++(s.data.toList++[10]):=by simp [cat]
inductive Rep (F:Nat→St→FA→Res):St→List ByteArray→St→Prop
  | nil (S:St):Rep F S [] S
  | cons {S S':St} {s:ByteArray} {ls:List ByteArray} (h:(doF F S s).err=0) (t:Rep F (doF F S s).st ls S'):Rep F S (s::ls) S'
theorem Rep.snoc {F:Nat→St→FA→Res} {S S':St} {ls:List ByteArray} (h:Rep F S ls S') {s:ByteArray} (hs:(doF F S' s).err=0):Rep F S (ls++[s]) (doF F S' s).st:=by
 induction h with
 | nil S=>exact .cons hs (.nil _)
 | cons h t ih=>exact .cons h (ih hs)
theorem y_r {F:Nat→St→FA→Res} {S S':St} {ls:List ByteArray} (h:Rep F S ls S'):(cat ls).length≤201 * ls.length:=by
 induction h with
 | nil S=>simp [cat]
 | @cons S S' s ls h t ih=>
  have h1:=doF_size h;have h2:s.data.toList.length=s.size:=(by simp);simp only [cat,List.flatMap_cons,List.length_append,List.length_cons,List.length_nil] at ih ⊢;omega
theorem size_bs (l:List UInt8):(bs l).size=l.length:=by simp [bs,ByteArray.size]
theorem z_o {i j:Int} (hi:i64b i) (hj:i64b j):(touchNote i j).size≤100:=by
 have h1:=x_r i hi.1 hi.2;have h2:=x_r j hj.1 hj.2;unfold touchNote;simp only [ByteArray.size_append,size_bs,List.length_cons,List.length_nil];omega
theorem testNote_size {i:Int} {w:ByteArray} (hi:i64b i) (hw:w.size≤10):(testNote i w).size≤100:=by
 have h1:=x_r i hi.1 hi.2;unfold testNote;simp only [ByteArray.size_append,size_bs,List.length_cons,List.length_nil];omega
theorem Inv.touch {k:Nat} {S:St} {i j:Int} (h:Inv k S) (hi:i64b i) (hj:i64b j) {c n:Nat} (hc:S.contacts.length≤c) (hn:S.notes.length≤n):(touchS S i j).contacts.length≤c+1∧(touchS S i j).notes.length≤n+1∧∀ x∈(touchS S i j).notes,x.size≤100:=by
 refine ⟨by simp [touchS];omega,by simp [touchS];omega,fun x hx=>?_⟩;simp only [touchS,List.mem_append,List.mem_singleton] at hx;rcases hx with e | e
 ·exact h.no x e
 ·rw [e];exact z_o hi hj
theorem wrap_i64b (x:Int):i64b (wrap64 x):=by unfold i64b wrap64;omega
theorem Lot.ok_set {l:List Lot} (h:∀ x∈l,x.ok) {i:Nat} {y:Lot} (hy:y.ok):∀ x∈l.set i y,x.ok:=fun x hx=>(List.mem_or_eq_of_mem_set hx).elim (h x) (fun e=>e ▸ hy)
theorem numB.b {n:Int} (h:numB n):i64b n:=⟨by have:=h.1;omega,h.2⟩
theorem inv_next {k:Nat} {S:St} (h:Inv k S) {line:ByteArray} (he:(doF runF S line).err=0):Inv (k+1) (doF runF S line).st:=by
 unfold doF at he ⊢;cases hf:formF line with
 | none=>rw [hf] at he;cases he
 | some x=>
  obtain ⟨so,f,a⟩:=x;rw [hf] at he;simp only at he ⊢;cases G:a.ok with
  | false=>rw [G] at he;cases he
  | true=>
   rw [G] at he;simp only [if_true] at he ⊢;have hs:=said_of hf G;by_cases hz:(runF f S a).err=0
   ·rw [if_pos hz];clear he;cases hs with
    | take e n w ha hn hw=>
     subst e ha;change (takeF S ⟨[n],w,true⟩).err=0 at hz;change Inv (k+1) (takeF S ⟨[n],w,true⟩).st;unfold takeF at hz ⊢;by_cases h1:S.lots.length=20
     ·rw [if_pos h1] at hz;cases hz
     rw [if_neg h1] at hz ⊢;by_cases h2:(FA.mk [n] w true).n.headD 0=0
     ·rw [if_pos h2] at hz;cases hz
     rw [if_neg h2];refine ⟨h.b,by have:=h.l;simp [addS];omega,by have:=h.c;simp only [addS];omega,by have:=h.t;simp only [addS];omega,by have:=h.n;simp only [addS];omega,fun x hx=>?_,h.no⟩;simp only [addS,List.mem_append,List.mem_singleton] at hx;rcases hx with e | e
     ·exact h.lo x e
     ·rw [e];exact ⟨hw,hn.b,by simp⟩
    | blend e i j q ha hi hj hq=>
     subst e ha;change (blendF S ⟨[i,j,q],bs [],true⟩).err=0 at hz;change Inv (k+1) (blendF S ⟨[i,j,q],bs [],true⟩).st;unfold blendF at hz ⊢;simp only [List.getD_cons_zero,List.getD_cons_succ] at hz ⊢;by_cases h1:S.lots.length=20
     ·rw [if_pos h1] at hz;cases hz
     rw [if_neg h1] at hz ⊢;by_cases h2:allLots S [i,j]=true
     ·rw [if_pos h2] at hz ⊢;by_cases h3:i=j∨q=0
      ·rw [if_pos h3] at hz;cases hz
      rw [if_neg h3] at hz ⊢;cases hx:S.lots[(i - 1).toNat]? with
      | none=>rw [hx] at hz;cases hz
      | some x=>
       cases hy:S.lots[(j - 1).toNat]? with
       | none=>rw [hx,hy] at hz;cases hz
       | some y=>
        rw [hx,hy] at hz;simp only at hz ⊢;by_cases h4:(x.closed || (y.closed || decide (min x.grams y.grams < q)))=true
        ·rw [if_pos h4] at hz;cases hz
        rw [if_neg h4];have A:=h.lo x (List.mem_of_getElem? hx);have J:=h.lo y (List.mem_of_getElem? hy);have hL:i64b ((S.lots.length:Int)+1):=(by have:=h.l;unfold i64b;omega);have hc:=h.c;have hn:=h.n;refine ⟨h.b,?_,?_,by have:=h.t;show S.tests.length≤k+1;omega,?_,?_,?_⟩
        ·have:=h.l;simp [blendT,touchS,addS,blendS];omega
        ·simp [blendT,touchS,addS,blendS];omega
        ·simp [blendT,touchS,addS,blendS];omega
        ·intro z C;simp only [blendT,touchS,addS,List.mem_append,List.mem_singleton] at C;rcases C with e | e
         ·exact Lot.ok_set (y:={y with grams:=wrap64 (y.grams - q)}) (Lot.ok_set (y:={x with grams:=wrap64 (x.grams - q)}) h.lo ⟨A.s,wrap_i64b _,A.b⟩) ⟨J.s,wrap_i64b _,J.b⟩ z e
         ·rw [e];exact ⟨by simp only [size_bs];decide,wrap_i64b _,by simp⟩
        ·intro z C;simp only [blendT,touchS,addS,blendS,List.mem_append,List.mem_singleton] at C;rcases C with (e | e) | e
         ·exact h.no z e
         ·rw [e];exact z_o hL hi.b
         ·rw [e];exact z_o hL hj.b
     ·rw [if_neg h2] at hz;cases hz
    | put e i b ha hi hb=>
     subst e ha;change (putF S ⟨[i,b],bs [],true⟩).err=0 at hz;change Inv (k+1) (putF S ⟨[i,b],bs [],true⟩).st;unfold putF at hz ⊢;simp only [List.getD_cons_zero,List.getD_cons_succ] at hz ⊢;by_cases h1:hasLot S i=true
     ·rw [if_pos h1] at hz ⊢;by_cases h2:7 < b
      ·rw [if_pos h2] at hz;cases hz
      rw [if_neg h2] at hz ⊢;cases hx:S.lots[(i - 1).toNat]? with
      | none=>rw [hx] at hz;cases hz
      | some x=>
       rw [hx] at hz;simp only at hz ⊢;by_cases h3:x.closed=true
       ·rw [if_pos h3] at hz;cases hz
       rw [if_neg h3] at hz ⊢;by_cases h4:(List.range S.lots.length).any (clashAt S i b x)=true
       ·rw [if_pos h4] at hz;cases hz
       rw [if_neg h4];have A:=h.lo x (List.mem_of_getElem? hx);exact ⟨h.b,by have:=h.l;simp;omega,by have:=h.c;simp only;omega,by have:=h.t;simp only;omega,by have:=h.n;simp only;omega,Lot.ok_set h.lo ⟨A.s,A.g,by have:=hb.1;simp only;omega⟩,h.no⟩
     ·rw [if_neg h1] at hz;cases hz
    | touch e i j ha hi hj=>
     subst e ha;change (touchF S ⟨[i,j],bs [],true⟩).err=0 at hz;change Inv (k+1) (touchF S ⟨[i,j],bs [],true⟩).st;unfold touchF at hz ⊢;simp only [List.getD_cons_zero,List.getD_cons_succ] at hz ⊢;by_cases h1:allLots S [i,j]=true
     ·rw [if_pos h1] at hz ⊢;by_cases h2:i=j
      ·rw [if_pos h2] at hz;cases hz
      rw [if_neg h2];obtain ⟨t1,t2,t3⟩:=h.touch hi.b hj.b h.c h.n;exact ⟨h.b,h.l,by simp only;omega,by have:=h.t;show S.tests.length≤k+1;omega,by simp only;omega,h.lo,t3⟩
     ·rw [if_neg h1] at hz;cases hz
    | test e i w ha hi hw=>
     subst e ha;change (testF S ⟨[i],w,true⟩).err=0 at hz;change Inv (k+1) (testF S ⟨[i],w,true⟩).st;unfold testF at hz ⊢;simp only [List.getD_cons_zero,List.getD_cons_succ] at hz ⊢;have M:w.size≤10:=by rcases hw with e | e <;> rw [e] <;> simp [goodB,badBs,bs,ByteArray.size]
     have hT:∀ g,Inv (k+1) (testS S i g w):=fun g=>⟨h.b,h.l,by have:=h.c;show S.contacts.length≤_;omega,by have:=h.t;simp [testS];omega,by have:=h.n;simp [testS];omega,h.lo,fun x hx=>by
      simp only [testS,List.mem_append,List.mem_singleton] at hx;rcases hx with e | e
      ·exact h.no x e
      ·rw [e];exact testNote_size hi.b M⟩
     by_cases h1:hasLot S i=true
     ·rw [if_pos h1];split
      ·exact hT 1
      ·exact hT 0
     ·rw [if_neg h1] at hz;cases hz
    | close e i ha hi=>
     subst e ha;change (shutF S ⟨[i],bs [],true⟩).err=0 at hz;change Inv (k+1) (shutF S ⟨[i],bs [],true⟩).st;unfold shutF at hz ⊢;simp only [List.getD_cons_zero,List.getD_cons_succ] at hz ⊢;by_cases h1:hasLot S i=true
     ·rw [if_pos h1] at hz ⊢;cases hx:S.lots[(i - 1).toNat]? with
      | none=>rw [hx] at hz;cases hz
      | some x=>
       rw [hx] at hz;simp only at hz ⊢;by_cases h3:x.closed=true
       ·rw [if_pos h3] at hz;cases hz
       rw [if_neg h3];have A:=h.lo x (List.mem_of_getElem? hx);exact ⟨h.b,by have:=h.l;simp;omega,by have:=h.c;simp only;omega,by have:=h.t;simp only;omega,by have:=h.n;simp only;omega,Lot.ok_set h.lo ⟨A.s,A.g,by simp⟩,h.no⟩
     ·rw [if_neg h1] at hz;cases hz
   ·rw [if_neg hz] at he;exact absurd he hz
theorem sys_all {n K:Nat} (hK:K≤1000000):Sys runF Inv n K:=
  ⟨fun k S line hk h _=>run_ok h (by omega) line,fun k S hk h=>h.small (by omega),fun k S line hk h _ he=>inv_next h he⟩
theorem inv_S0 {g:List Int} (h:g.length=8):Inv 0 (S0 g):=⟨h,by simp [S0],by simp [S0],by simp [S0],by simp [S0],by simp [S0],by simp [S0]⟩
theorem u_v {g:List Int} (h:baysB g=true):g.length=8:=by
 unfold baysB at h;simp only [Bool.and_eq_true,decide_eq_true_eq,beq_iff_eq] at h;first | exact h.2 | exact h.1 | omega
theorem rep_inv {g:List Int} (hg:g.length=8) {S:St} {ls:List ByteArray} (h:Rep runF (S0 g) ls S):Inv ls.length S:=by
 suffices ∀ S0 k,Inv k S0→Rep runF S0 ls S→Inv (k+ls.length) S by have:=this _ 0 (inv_S0 hg) h;rwa [Nat.zero_add] at this
 clear h;induction ls with
 | nil=>intro S0 k hI h;cases h;exact hI
 | cons s ls ih=>
  intro S0 k hI h;cases h with
  | cons he t=>
   have:=ih _ _ (inv_next hI he) t;rwa [show k+(s::ls).length=k+1+ls.length by simp;omega]
end Go.Proofs.YthdkamnclbfehaaGreatDoor
namespace Go.Proofs.YthdkamnclbfehaaGreatDoor
open Go.RowKit Tryz
theorem journal_any {base:Nat} {w:World} {H:HV} {D:Dsk} {S:St} {ls:List ByteArray} {lost:Bool} (h:HouseAt base w H D S ls lost) (hl:ls.length≤1000000000):Calls prog 19 #[.pointer (some ⟨H.h,0,none⟩)] w (ClonePost w 9 1 ls.length (strCells ls)):=by
 obtain ⟨lo,lc,A,_⟩:=x_a h.own;have c2:=h.blk.cell 2;simp at c2;rw [A] at c2;have HC:=hD (clone22 (x_g h.own (x_p ls)) (by omega));rw [A] at HC;have HH:=hD h;clear h A;go_enter func19,ntmps19
 go_wp2_with (first
   | (go_at_call 52;refine (y_d HH.out).mono ?_;rintro e w' ⟨rfl,rfl⟩)
   | (go_at_call 22;refine HC.out.mono ?_;rintro e w1 ⟨v1,rfl,G,C⟩;have M:=hD G;have J:=hD C;clear G C))
 go_ret;exact ⟨v1,rfl,M.out,J.out⟩
theorem HouseAt.tp_ge {base:Nat} {w:World} {H:HV} {D:Dsk} {S:St} {ls:List ByteArray} {lost:Bool} (h:HouseAt base w H D S ls lost):∀ k,H.tp k→base≤k:=fun k hk=>by
  rcases hk with e | e | e | e
  · rw [e];exact h.ge
  · rw [e];exact h.disk.ge
  · exact (x_d h.disk.own k e).1
  · exact (x_d h.own k e).1
theorem open_badBays {g:List Int} (hg:baysB g=false) (D:Dsk):openF runF D g=⟨2,D,S0 g,[]⟩:=by unfold openF;rw [hg];rfl
end Go.Proofs.YthdkamnclbfehaaGreatDoor
namespace Go.Proofs.YthdkamnclbfehaaGreatDoor
open Go.RowKit
structure Two (w:World) (H1 H2:HV) (D1 D2:Dsk) (S1 S2:St) (l1 l2:List ByteArray) (wx:World):Prop where
  h1:HouseAt w.heap.size wx H1 D1 S1 l1 false
  h2:HouseAt w.heap.size wx H2 D2 S2 l2 false
  f1:∀ k,H1.V.fp k→w.heap.size≤k
  f2:∀ k,H2.V.fp k→w.heap.size≤k
  ap:∀ k,H1.tp k→¬ H2.tp k∧¬ H2.V.fp k
  pa:∀ k,H2.tp k→¬ H1.V.fp k
  keep:Keep kF w wx
theorem Two.symm {w:World} {H1 H2:HV} {D1 D2:Dsk} {S1 S2:St} {l1 l2:List ByteArray} {wx:World} (h:Two w H1 H2 D1 D2 S1 S2 l1 l2 wx):Two w H2 H1 D2 D1 S2 S1 l2 l1 wx:=
  ⟨h.h2,h.h1,h.f2,h.f1,fun k hk=>⟨fun e=>(h.ap k e).1 hk,h.pa k hk⟩,fun k hk=>(h.ap k hk).2,h.keep⟩
end Go.Proofs.YthdkamnclbfehaaGreatDoor
namespace Go.Proofs.YthdkamnclbfehaaGreatDoor
open Go.RowKit Tryz
def jbs (xs:List ByteArray) (sep:ByteArray):ByteArray:=⟨(Lib.join (xs.map (·.data.toList)) sep.data.toList).toArray⟩
theorem jbs_size (x:ByteArray) (xs:List ByteArray) (c:UInt8) (n:Nat) (hn:∀ y∈xs,y.size≤n):(jbs (x::xs) (bs [c])).size≤x.size+xs.length * (n+1):=by
 have h:(jbs (x::xs) (bs [c])).size=x.size+(xs.length+Lib.lens (xs.map (·.data.toList))):=(by have e1:(jbs (x::xs) (bs [c])).size=(Lib.join ((x::xs).map (·.data.toList)) (bs [c]).data.toList).length:=(by simp [jbs,ByteArray.size]);have e2:x.data.toList.length=x.size:=(by simp);rw [e1,List.map_cons,Lib.join_cons,List.length_append,Lib.joinTail_length,e2];simp [bs]);rw [h]
 have:Lib.lens (xs.map (·.data.toList))≤xs.length * n:=by
  clear h;induction xs with
  | nil=>simp [Lib.lens]
  | cons y ys ih=>
   have h1:=ih (fun z hz=>hn z (List.mem_cons_of_mem _ hz));have h2:=hn y (List.mem_cons_self ..);have e2:y.data.toList.length=y.size:=(by simp);simp only [Lib.lens,List.map_cons,List.sum_cons,List.length_cons,Nat.add_mul] at h1 ⊢;omega
 rw [Nat.mul_add];omega
theorem jbs_len (xs:List ByteArray) (sep:ByteArray):(jbs xs sep).size=(Lib.join (xs.map (·.data.toList)) sep.data.toList).length:=by simp [jbs,ByteArray.size]
def bayS (x:Lot):ByteArray:=if 0≤x.bay then itoaB x.bay else bs [45]
def isS (x:Lot):ByteArray:=if x.closed then bs [99,108,111,115,101,100] else bs [111,112,101,110]
def lotS (i:Nat) (x:Lot):ByteArray:=jbs [itoaB ((i:Int)+1),x.spice,itoaB x.grams,bayS x,isS x] (bs [58])
def listN (l:List Lot):Nat→ByteArray
  | 0=>bs [108,111,116,115]
  | k+1=>listN l k++(bs [32]++lotS k (l.getD k ⟨bs [],0,0,false⟩))
def listF (l:List Lot):ByteArray:=listN l l.length
def textF (S:St):ByteArray:=jbs (listF S.lots::S.notes) (bs [10])++bs [10]
theorem bayS_size {x:Lot} (h:x.ok):(bayS x).size≤21:=by
 unfold bayS;split
 ·exact x_r _ (by omega) (by have:=h.b;omega)
 ·simp [bs,ByteArray.size]
theorem isS_size (x:Lot):(isS x).size≤6:=by unfold isS;split <;> simp [bs,ByteArray.size]
theorem lotS_size {x:Lot} (h:x.ok) {i:Nat} (hi:i≤1000000):(lotS i x).size≤120:=by
 have h1:=x_r ((i:Int)+1) (by omega) (by omega);have h2:=x_r x.grams h.g.1 h.g.2;have h3:=bayS_size h;have h4:=isS_size x;have h5:=h.s;have:=jbs_size (itoaB ((i:Int)+1)) [x.spice,itoaB x.grams,bayS x,isS x] 58 21 (fun y hy=>by simp only [List.mem_cons,List.not_mem_nil,or_false] at hy;rcases hy with rfl | rfl | rfl | rfl <;> omega);unfold lotS;simp only [List.length_cons,List.length_nil] at this;omega
theorem z_s {l:List Lot} (h:∀ x∈l,x.ok):∀ k,k≤l.length→k≤1000000→(listN l k).size≤4+121 * k:=by
 intro k;induction k with
 | zero=>intro _ _;simp [listN,bs,ByteArray.size]
 | succ k ih=>
  intro hk A;have h1:=ih (by omega) (by omega);have h2:(l.getD k ⟨bs [],0,0,false⟩).ok:=(by have e:l.getD k ⟨bs [],0,0,false⟩=l[k]'(by omega):=(by simp [List.getD,List.getElem?_eq_getElem (show k < l.length by omega)]);rw [e];exact h _ (by simp));have h3:=lotS_size h2 (i:=k) (by omega);simp only [listN,ByteArray.size_append,show (bs [32]).size=1 from rfl];omega
theorem textF_size {k:Nat} {S:St} (h:Inv k S) (hk:k≤100000000):(jbs (listF S.lots::S.notes) (bs [10])).size≤2424+S.notes.length * 101:=by
 have h1:=z_s h.lo S.lots.length (Nat.le_refl _) (by have:=h.l;omega);have h2:=jbs_size (listF S.lots) S.notes 10 100 h.no;have h3:=h.l;unfold listF at h2 ⊢;omega
theorem join_row {W:World} {base n:Nat} {v:Value} {xs:List ByteArray} {sep:ByteArray} (ho:W.ownsRow base 9 1 v n (strCells xs)) (hn:xs.length≤140737488355328) (hl:(jbs xs sep).size≤140737488355328):Calls prog 92 #[v,.string sep] W (IdxPost W (.string (jbs xs sep))):=by
 have A:n=xs.length:=(by have:=ho.1;simp [strCells] at this;omega);subst A;have J:=x_g ho (x_p xs);rcases ho.2 with ⟨rfl,h0⟩ | ⟨g,C,cur,rfl,hb,hg,G,O,R,U⟩
 ·obtain rfl:xs=[]:=List.eq_nil_of_length_eq_zero h0;exact (Tryz.strings_Join_none none 0 sep W).mono fun e w' ⟨he,hw⟩=>⟨he,hw ▸ Keep.refl _ _⟩
 ·rw [jbs_len] at hl;refine (Tryz.strings_Join g 0 C xs sep W (fun j x hx=>?_) (Array.getElem?_eq_some_iff.1 hg).1 hn G hl).mono fun e w' ⟨he,hw⟩=>⟨he,Keep.ofBelow hw _⟩;rcases J.2.2 with ⟨h,_⟩ | ⟨b,o,c,h,_,_,M⟩
  ·cases h
  ·cases h;exact M j _ (by simp [strCells,hx])
theorem ownsRow_one {w:World} {base b:Nat} {e:TypeId} {u:Array Value} {n:Nat} (h:Blk w b u e) (hb:base≤b) (hn:u.size=n) (hm:n≤maxLen):w.ownsRow base e 1 (.slice (some ⟨b,0,none⟩) n n) n u.toList:=by
 refine ⟨by simp [hn],.inr ⟨b,n,u,rfl,hb,h,Nat.le_refl _,hm,by omega,List.take_of_length_le (by rw [Array.length_toList];omega)⟩⟩
end Go.Proofs.YthdkamnclbfehaaGreatDoor
