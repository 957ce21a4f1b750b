/- A part of the proof. -/
import Derived.Test.YthdkamnclbfehaaGreatDoorDaysM2
import Derived.Test.YthdkamnclbfehaaGreatDoorProg
set_option linter.all false
namespace Go.Proofs.YthdkamnclbfehaaGreatDoor
open Go.RowKit Tryz
abbrev zLot:Value:=.agg #[.string ⟨#[]⟩,.int .i64 0,.int .i64 0,.bool false]
abbrev zPair:Value:=.agg #[.int .i64 0,.int .i64 0]
theorem info214:(prog.info? 214).map (fun i=>(i.zero,i.size,i.bytes))=some (some zLot,4,40):=by kernel_rfl
theorem info176:(prog.info? 176).map (fun i=>(i.zero,i.size,i.bytes))=some (some zPair,2,16):=by kernel_rfl
theorem y_t:(prog.info? 9).map (fun i=>(i.zero,i.size,i.bytes))=some (some (.string ⟨#[]⟩),1,16):=by kernel_rfl
theorem info3':(prog.info? 3).map (fun i=>(i.zero,i.size,i.bytes))=some (some (.int .i64 0),1,8):=by kernel_rfl
def ClonePost (w:World) (t:TypeId) (size n:Nat) (xs:List Value) (e:Ending) (w':World):Prop:=
  ∃ v',e = .returned v'∧w'.ownsRow w.heap.size t size v' n xs∧Keep kF w w'
theorem clone114 {w:World} {v:Value} {n:Nat} {xs:List Value} (hv:Rd w 4 v n xs) (hn:n * 40≤140737488355328):Calls prog 114 #[v] w (ClonePost w 214 4 n xs):=by
 obtain ⟨ao,R,M,_⟩:=hv.shape;have C:=(hv.keep ((Keep.refl kF w).alloc (.cells #[] 214)) n3).src (P:=prog) underlying111
 have O:ao=none→n=0∧xs=[]:=by
  intro h;rcases hv.2.2 with ⟨h1,h2⟩ | ⟨b,o,c,h1,_⟩
  ·exact ⟨h2,List.eq_nil_of_length_eq_zero (by rw [hv.1,h2,Nat.zero_mul])⟩
  ·rw [M,h] at h1;cases h1
 subst M;have J:=hD C;clear C;have G:=hD (World.ownsRow_made (base:=w.heap.size) (e:=214) (size:=4) w #[] 0 (Nat.le_refl _) (by unfold maxLen;omega) (by simp));clear hv;have U:=fun W=>Lib.run_eql_slice_nil (P:=prog) W 111 214 ao n R 0 0 underlying111;cases ao with
 | none=>
  obtain ⟨rfl,rfl⟩:=O rfl;go_enter func114,ntmps114;go_wp2
  go_ret;exact ⟨_,rfl,World.ownsRow_nil _ _ _ _,Keep.refl _ _⟩
 | some a=>
  clear O;go_enter func114,ntmps114;go_wp2_with (at_builtin;refine x_h (w:=w.alloc (.cells #[] 214)) rfl (.tmp 5) (.tmp 6) 111 111 rfl 214 zLot 4 40 underlying111 info214 rfl G.out rfl J.out rfl ?hb1 ?hb2 ?hb3 ?hgo)
  case hb1=>unfold maxLen;omega
  case hb2=>omega
  case hb3=>simp
  case hgo=>
  intro v' w1 A;have HA:=hD A;clear A;go_wp2
  go_ret;refine ⟨v',rfl,by simpa using HA.out.own,?_⟩;refine ((Keep.refl _ w).alloc _).trans HA.out.keep fun k hk e=>?_;have e':w.heap.size=k:=Option.some.inj e;omega
theorem clone115 {w:World} {v:Value} {n:Nat} {xs:List Value} (hv:Rd w 2 v n xs) (hn:n * 16≤140737488355328):Calls prog 115 #[v] w (ClonePost w 176 2 n xs):=by
 obtain ⟨ao,R,M,_⟩:=hv.shape;have C:=(hv.keep ((Keep.refl kF w).alloc (.cells #[] 176)) n3).src (P:=prog) underlying71
 have O:ao=none→n=0∧xs=[]:=by
  intro h;rcases hv.2.2 with ⟨h1,h2⟩ | ⟨b,o,c,h1,_⟩
  ·exact ⟨h2,List.eq_nil_of_length_eq_zero (by rw [hv.1,h2,Nat.zero_mul])⟩
  ·rw [M,h] at h1;cases h1
 subst M;have J:=hD C;clear C;have G:=hD (World.ownsRow_made (base:=w.heap.size) (e:=176) (size:=2) w #[] 0 (Nat.le_refl _) (by unfold maxLen;omega) (by simp));clear hv;have U:=fun W=>Lib.run_eql_slice_nil (P:=prog) W 71 176 ao n R 0 0 underlying71;cases ao with
 | none=>
  obtain ⟨rfl,rfl⟩:=O rfl;go_enter func115,ntmps115;go_wp2
  go_ret;exact ⟨_,rfl,World.ownsRow_nil _ _ _ _,Keep.refl _ _⟩
 | some a=>
  clear O;go_enter func115,ntmps115;go_wp2_with (at_builtin;refine x_h (w:=w.alloc (.cells #[] 176)) rfl (.tmp 5) (.tmp 6) 71 71 rfl 176 zPair 2 16 underlying71 info176 rfl G.out rfl J.out rfl ?hb1 ?hb2 ?hb3 ?hgo)
  case hb1=>unfold maxLen;omega
  case hb2=>omega
  case hb3=>simp
  case hgo=>
  intro v' w1 A;have HA:=hD A;clear A;go_wp2
  go_ret;refine ⟨v',rfl,by simpa using HA.out.own,?_⟩;refine ((Keep.refl _ w).alloc _).trans HA.out.keep fun k hk e=>?_;have e':w.heap.size=k:=Option.some.inj e;omega
theorem clone22 {w:World} {v:Value} {n:Nat} {xs:List Value} (hv:Rd w 1 v n xs) (hn:n * 16≤140737488355328):Calls prog 22 #[v] w (ClonePost w 9 1 n xs):=by
 obtain ⟨ao,R,M,_⟩:=hv.shape;have C:=(hv.keep ((Keep.refl kF w).alloc (.cells #[] 9)) n3).src (P:=prog) underlying44
 have O:ao=none→n=0∧xs=[]:=by
  intro h;rcases hv.2.2 with ⟨h1,h2⟩ | ⟨b,o,c,h1,_⟩
  ·exact ⟨h2,List.eq_nil_of_length_eq_zero (by rw [hv.1,h2,Nat.zero_mul])⟩
  ·rw [M,h] at h1;cases h1
 subst M;have J:=hD C;clear C;have G:=hD (World.ownsRow_made (base:=w.heap.size) (e:=9) (size:=1) w #[] 0 (Nat.le_refl _) (by unfold maxLen;omega) (by simp));clear hv;have U:=fun W=>Lib.run_eql_slice_nil (P:=prog) W 44 9 ao n R 0 0 underlying44;cases ao with
 | none=>
  obtain ⟨rfl,rfl⟩:=O rfl;go_enter func22,ntmps22;go_wp2
  go_ret;exact ⟨_,rfl,World.ownsRow_nil _ _ _ _,Keep.refl _ _⟩
 | some a=>
  clear O;go_enter func22,ntmps22;go_wp2_with (at_builtin;refine x_h (w:=w.alloc (.cells #[] 9)) rfl (.tmp 5) (.tmp 6) 44 44 rfl 9 (.string ⟨#[]⟩) 1 16 underlying44 y_t rfl G.out rfl J.out rfl ?hb1 ?hb2 ?hb3 ?hgo)
  case hb1=>unfold maxLen;omega
  case hb2=>omega
  case hb3=>simp
  case hgo=>
  intro v' w1 A;have HA:=hD A;clear A;go_wp2
  go_ret;refine ⟨v',rfl,by simpa using HA.out.own,?_⟩;refine ((Keep.refl _ w).alloc _).trans HA.out.keep fun k hk e=>?_;have e':w.heap.size=k:=Option.some.inj e;omega
theorem clone57 {w:World} {v:Value} {n:Nat} {xs:List Value} (hv:Rd w 1 v n xs) (hn:n * 8≤140737488355328):Calls prog 57 #[v] w (ClonePost w 3 1 n xs):=by
 obtain ⟨ao,R,M,_⟩:=hv.shape;have C:=(hv.keep ((Keep.refl kF w).alloc (.cells #[] 3)) n3).src (P:=prog) underlying35
 have O:ao=none→n=0∧xs=[]:=by
  intro h;rcases hv.2.2 with ⟨h1,h2⟩ | ⟨b,o,c,h1,_⟩
  ·exact ⟨h2,List.eq_nil_of_length_eq_zero (by rw [hv.1,h2,Nat.zero_mul])⟩
  ·rw [M,h] at h1;cases h1
 subst M;have J:=hD C;clear C;have G:=hD (World.ownsRow_made (base:=w.heap.size) (e:=3) (size:=1) w #[] 0 (Nat.le_refl _) (by unfold maxLen;omega) (by simp));clear hv;have U:=fun W=>Lib.run_eql_slice_nil (P:=prog) W 35 3 ao n R 0 0 underlying35;cases ao with
 | none=>
  obtain ⟨rfl,rfl⟩:=O rfl;go_enter func57,ntmps57;go_wp2
  go_ret;exact ⟨_,rfl,World.ownsRow_nil _ _ _ _,Keep.refl _ _⟩
 | some a=>
  clear O;go_enter func57,ntmps57;go_wp2_with (at_builtin;refine x_h (w:=w.alloc (.cells #[] 3)) rfl (.tmp 5) (.tmp 6) 35 35 rfl 3 (.int .i64 0) 1 8 underlying35 info3' rfl G.out rfl J.out rfl ?hb1 ?hb2 ?hb3 ?hgo)
  case hb1=>unfold maxLen;omega
  case hb2=>omega
  case hb3=>simp
  case hgo=>
  intro v' w1 A;have HA:=hD A;clear A;go_wp2
  go_ret;refine ⟨v',rfl,by simpa using HA.out.own,?_⟩;refine ((Keep.refl _ w).alloc _).trans HA.out.keep fun k hk e=>?_;have e':w.heap.size=k:=Option.some.inj e;omega
theorem clone55 {w:World} {v:Value} {n:Nat} {xs:List Value} (hv:Rd w 1 v n xs) (hn:n * 8≤140737488355328):Calls prog 55 #[v] w (ClonePost w 3 1 n xs):=by
 obtain ⟨ao,R,M,_⟩:=hv.shape;have C:=(hv.keep ((Keep.refl kF w).alloc (.cells #[] 3)) n3).src (P:=prog) underlying53
 have O:ao=none→n=0∧xs=[]:=by
  intro h;rcases hv.2.2 with ⟨h1,h2⟩ | ⟨b,o,c,h1,_⟩
  ·exact ⟨h2,List.eq_nil_of_length_eq_zero (by rw [hv.1,h2,Nat.zero_mul])⟩
  ·rw [M,h] at h1;cases h1
 subst M;have J:=hD C;clear C;have G:=hD (World.ownsRow_made (base:=w.heap.size) (e:=3) (size:=1) w #[] 0 (Nat.le_refl _) (by unfold maxLen;omega) (by simp));clear hv;have U:=fun W=>Lib.run_eql_slice_nil (P:=prog) W 53 3 ao n R 0 0 underlying53;cases ao with
 | none=>
  obtain ⟨rfl,rfl⟩:=O rfl;go_enter func55,ntmps55;go_wp2
  go_ret;exact ⟨_,rfl,World.ownsRow_nil _ _ _ _,Keep.refl _ _⟩
 | some a=>
  clear O;go_enter func55,ntmps55;go_wp2_with (at_builtin;refine x_h (w:=w.alloc (.cells #[] 3)) rfl (.tmp 5) (.tmp 6) 53 53 rfl 3 (.int .i64 0) 1 8 underlying53 info3' rfl G.out rfl J.out rfl ?hb1 ?hb2 ?hb3 ?hgo)
  case hb1=>unfold maxLen;omega
  case hb2=>omega
  case hb3=>simp
  case hgo=>
  intro v' w1 A;have HA:=hD A;clear A;go_wp2
  go_ret;refine ⟨v',rfl,by simpa using HA.out.own,?_⟩;refine ((Keep.refl _ w).alloc _).trans HA.out.keep fun k hk e=>?_;have e':w.heap.size=k:=Option.some.inj e;omega
end Go.Proofs.YthdkamnclbfehaaGreatDoor
namespace Go.Proofs.YthdkamnclbfehaaGreatDoor
open Go.RowKit Tryz
open Go.Maps (Keyed)
def rawE (v:Value):Option (DataW Value × List MemPlace):=some (.held v,[])
theorem keyI:Keyed prog 3:=Go.Maps.int_keyed underlying3
def kI (x:Int):Lit:=.int .i64 x
theorem keyOfI {x:Int} (h:(Lit.int .i64 x).wf=true):keyOf prog 3 (.int .i64 x)=some (kI x):=Go.Maps.keyOf_int_mk underlying3 h
def MapAt (w:World) (b n:Nat) (f:Int→Option Value):Prop:=
  ∃ D:DataW Value,w.ownsMap prog 3 rawE b n D∧(∀ x,(kI x).wf=true→Go.Maps.has D (kI x)=(f x).isSome)∧∀ x v,(kI x).wf=true→f x=some v→∀ z,D.atKey (kI x) z = .held v
theorem MapAt.lt {w:World} {b n:Nat} {f:Int→Option Value} (h:MapAt w b n f):b < w.heap.size:=by
 obtain ⟨D,h,_⟩:=h;exact h.lt
theorem MapAt.mono {w:World} {b n m:Nat} {f:Int→Option Value} (h:MapAt w b n f) (hn:n≤m):MapAt w b m f:=by
 obtain ⟨D,h,h2⟩:=h;exact ⟨D,h.mono hn,h2⟩
theorem MapAt.keep {S:Nat→Prop} {w w':World} {b n:Nat} {f:Int→Option Value} (h:MapAt w b n f) (k:Keep S w w') (hS:¬ S b):MapAt w' b n f:=by
 obtain ⟨D,h,h2⟩:=h;have C:=h.lt;obtain ⟨es,A,hb,F,hs,hD⟩:=h;exact ⟨D,⟨es,A,(k.block b C hS).trans hb,F,hs,hD⟩,h2⟩
theorem MapAt.made (w:World):MapAt (w.alloc (.map #[] 0)) w.heap.size 0 (fun _=>none):=
  ⟨.map [],World.ownsMap_made w _ _ _,fun x _=>rfl,fun x v _ h=>by cases h⟩
theorem MapAt.look {w:World} {b n:Nat} {f:Int→Option Value} (h:MapAt w b n f) {t e:TypeId} (ht:prog.underlying t=some (.map 3 e)) {z:Value} (hz:∀ W,(zeroValue e).run prog W = .ok z W) {x:Int} (hx:(kI x).wf=true):(Instr.lookup t (.map (some b)) (.int .i64 x) false).run prog w = .ok ((f x).getD z) w:=by
 obtain ⟨D,h,h1,h2⟩:=h;obtain ⟨v,ps,C,hv⟩:=h.lookup keyI ht (hz w) (R:=rawE) (zd:=.held z) (zp:=[]) rfl (keyOfI hx);rw [C];have A:DataW.held v=D.atKey (kI x) (.held z):=(by have e1:=Option.some.inj hv;exact congrArg Prod.fst e1);cases hf:f x with
 | none=>
  have h3:=h1 x hx;rw [hf] at h3;rw [Go.Maps.atKey_of_not_has h3] at A;cases A;rfl
 | some u=>
  rw [h2 x u hx hf] at A;cases A;rfl
theorem kI_ne {x y:Int} (h:x≠y):kI x≠kI y:=fun e=>by unfold kI at e;exact h (by injection e)
theorem kI_key {x:Int} (h:(kI x).wf=true):WideAt.IsKeyLit (kI x):=keyI.key (keyOfI h)
theorem MapAt.store {w:World} {b n:Nat} {f:Int→Option Value} (h:MapAt w b n f) {t e:TypeId} (ht:prog.underlying t=some (.map 3 e)) (hn:n < maxLen) {x:Int} (hx:(kI x).wf=true) (v:Value):∃ w',(Instr.mapUpdate t (.map (some b)) (.int .i64 x) v).run prog w = .ok () w'∧MapAt w' b (n+1) (fun y=>if y=x then some v else f y)∧Keep (fun k=>k=b) w w'∧w'.heap.size=w.heap.size:=by
 obtain ⟨D,h,h1,h2⟩:=h;have G:=h.isMap;obtain ⟨w',C,A,J⟩:=h.store keyI ht hn (R:=rawE) (keyOfI hx) (val:=v) (d:=.held v) (ps:=[]) rfl;have hg:=J.grown;refine ⟨w',C,⟨_,A,fun y hy=>?_,fun y u hy hu z=>?_⟩,⟨hg.os,hg.tape,hg.output,hg.size,fun i hi hn=>hg.block i hi (fun e=>hn (Option.some.inj e))⟩,?_⟩
 ·by_cases e:y=x
  ·subst e;simp [Go.Maps.has_put_same G (kI_key hy)]
  ·dsimp only;rw [if_neg e,Go.Maps.has_put_other (kI_ne e)];exact h1 y hy
 ·by_cases e:y=x
  ·subst e;simp at hu;subst hu;exact Go.Maps.atKey_put_same G (kI_key hy) _ _
  ·dsimp only at hu;rw [if_neg e] at hu;rw [Go.Maps.atKey_put_other (kI_ne e)];exact h2 y u hy hu z
 ·obtain ⟨_,_,_,_,_,rfl⟩:=J;simp [Go.ChangeMaps.setBlock]
theorem MapAt.drop {w:World} {b n:Nat} {f:Int→Option Value} (h:MapAt w b n f) {t e:TypeId} (ht:prog.underlying t=some (.map 3 e)) {x:Int} (hx:(kI x).wf=true) (ty:TypeId):∃ w',(Builtin.delete_ #[t,3] ty #[.map (some b),.int .i64 x]).run prog w = .ok (.tuple #[]) w'∧MapAt w' b n (fun y=>if y=x then none else f y)∧Keep (fun k=>k=b) w w'∧w'.heap.size=w.heap.size:=by
 obtain ⟨D,h,h1,h2⟩:=h;obtain ⟨w',C,A,G⟩:=h.drop keyI ht (R:=rawE) (keyOfI hx) ty;have hg:=G.grown;refine ⟨w',C,⟨_,A,fun y hy=>?_,fun y u hy hu z=>?_⟩,⟨hg.os,hg.tape,hg.output,hg.size,fun i hi hn=>hg.block i hi (fun e=>hn (Option.some.inj e))⟩,?_⟩
 ·by_cases e:y=x
  ·subst e;simp [Go.Maps.has_del_same]
  ·dsimp only;rw [if_neg e,Go.Maps.has_del_other (kI_ne e)];exact h1 y hy
 ·by_cases e:y=x
  ·subst e;simp at hu
  ·dsimp only at hu;rw [if_neg e] at hu;rw [Go.Maps.atKey_del_other (kI_ne e)];exact h2 y u hy hu z
 ·obtain ⟨_,_,_,_,_,rfl⟩:=G;simp [Go.ChangeMaps.setBlock]
def RangeAt (w:World) (b r n:Nat) (f:Int→Option Value) (left:Int→Bool) (cnt:Nat):Prop:=
  ∃ (D:DataW Value) (lf:Lit→Bool),w.ranges prog 3 rawE b r n D lf cnt∧(∀ x,(kI x).wf=true→Go.Maps.has D (kI x)=(f x).isSome)∧(∀ x v,(kI x).wf=true→f x=some v→∀ z,D.atKey (kI x) z = .held v)∧∀ x,(kI x).wf=true→lf (kI x)=left x
theorem MapAt.range {w:World} {b n:Nat} {f:Int→Option Value} (h:MapAt w b n f) {t e:TypeId} (ht:prog.underlying t=some (.map 3 e)):∃ w' cnt,(Instr.range t (.map (some b))).run prog w = .ok (.pointer (some ⟨w.heap.size,0,none⟩)) w'∧RangeAt w' b w.heap.size n f (fun x=>(f x).isSome) cnt∧cnt≤n∧Keep kF w w'∧w'.heap.size=w.heap.size+1:=by
 obtain ⟨D,h,h1,h2⟩:=h;obtain ⟨w',A,hr,hg,hs⟩:=h.range keyI ht;exact ⟨w',_,A,⟨D,_,hr,h1,h2,fun x hx=>h1 x hx⟩,h.size_le,⟨hg.os,hg.tape,hg.output,hg.size,fun i hi hn=>hg.block i hi (by simp)⟩,hs⟩
theorem RangeAt.left_eq {w:World} {b r n:Nat} {f:Int→Option Value} {left:Int→Bool} {cnt:Nat} (h:RangeAt w b r n f left cnt):w.rangeLeft b r=cnt:=by
 obtain ⟨D,lf,h,_⟩:=h;exact h.left_eq
theorem RangeAt.keep {S:Nat→Prop} {w w':World} {b r n:Nat} {f:Int→Option Value} {left:Int→Bool} {cnt:Nat} (h:RangeAt w b r n f left cnt) (k:Keep S w w') (hS:¬ S b) (hr:¬ S r):RangeAt w' b r n f left cnt:=by
 obtain ⟨D,lf,h,h1,h2,h3⟩:=h;have hb:=h.owns.lt;have G:=h.lt;obtain ⟨es,A,C,seen,c0,e1,F,e2,e3,e4,e5⟩:=h;exact ⟨D,lf,⟨es,A,C,seen,c0,(k.block b hb hS).trans e1,F,e2,e3,(k.block r G hr).trans e4,e5⟩,h1,h2,h3⟩
theorem x_j {w:World} {base:Nat} {e:TypeId} {size:Nat} {v:Value} {n:Nat} {xs:List Value} (h:w.ownsRow base e size v n xs) {g:Nat} (hg:v.ownBlock=some g):∃ cur fz,w.heap[g]?=some (.cells cur e fz):=by
 rcases h.2 with ⟨rfl,_⟩ | ⟨g',A,cur,rfl,hb,hh,_⟩
 ·cases hg
 ·cases hg;exact ⟨cur,_,hh⟩
theorem RangeAt.keepRow {w w':World} {b r n:Nat} {f:Int→Option Value} {left:Int→Bool} {cnt:Nat} (h:RangeAt w b r n f left cnt) {base:Nat} {e:TypeId} {size:Nat} {v:Value} {m:Nat} {xs:List Value} (ho:w.ownsRow base e size v m xs) (k:Keep (fun k=>v.ownBlock=some k) w w'):RangeAt w' b r n f left cnt:=by
 refine h.keep k (fun hb=>?_) fun hb=>?_
 ·obtain ⟨cur,fz,hc⟩:=x_j ho hb;obtain ⟨D,lf,⟨es,A,_,_,_,hm,_⟩,_⟩:=h;rw [hc] at hm;cases hm
 ·obtain ⟨cur,fz,hc⟩:=x_j ho hb;obtain ⟨D,lf,⟨es,A,C,seen,c0,hm,F,e2,e3,hr,_⟩,_⟩:=h;rw [hc] at hr;cases hr
theorem RangeAt.next {w:World} {b r n:Nat} {f:Int→Option Value} {left:Int→Bool} {cnt:Nat} (h:RangeAt w b r n f left cnt) (ty:TypeId):(cnt=0∧(∀ x,(kI x).wf=true→left x=false)∧(Instr.next (.pointer (some ⟨r,0,none⟩)) false ty).run prog w = .ok (.tuple #[.bool false]) w)∨∃ x v w' cnt',(kI x).wf=true∧left x=true∧f x=some v∧(Instr.next (.pointer (some ⟨r,0,none⟩)) false ty).run prog w = .ok (.tuple #[.bool true,.int .i64 x,v]) w'∧RangeAt w' b r n f (fun y=>left y && !(y == x)) cnt'∧cnt' < cnt∧Keep (fun k=>k=r) w w'∧w'.heap.size=w.heap.size∧(Instr.entry (.pointer (some ⟨r,0,none⟩))).run prog w' = .ok (.tuple #[.int .i64 x,v]) w':=by
 obtain ⟨D,lf,h,h1,h2,h3⟩:=h;rcases h.next keyI ty with ⟨h0,hl,A⟩ | ⟨key,v,kl,y,w',cnt',J,R,hv,M,A,W,U,C,X,O⟩
 ·exact .inl ⟨h0,fun x hx=>(h3 x hx).symm.trans (hl _),A⟩
 ·obtain ⟨x,rfl,rfl,hx⟩:=Go.Maps.keyOf_int_inv underlying3 J;have hy:y=(DataW.held v,[]):=(Option.some.inj hv).symm;subst hy;have G:Go.Maps.has D (kI x)=true:=Go.Maps.has_true_of_atKey (fun z=>M z);have hf:f x=some v:=(by have e1:=h1 x hx;rw [G] at e1;obtain ⟨u,hu⟩:=Option.isSome_iff_exists.1 e1.symm;have e2:=h2 x u hx hu .nil;have e3:=M .nil;have e4:DataW.held (H:=Value) u = .held v:=e2.symm.trans e3;rw [hu];cases e4;rfl);refine .inr ⟨x,v,w',cnt',hx,(h3 x hx).symm.trans R,hf,A,⟨D,_,W,h1,h2,fun z hz=>?_⟩,U,⟨C.os,C.tape,C.output,C.size,fun i hi hn=>C.block i hi (fun e=>hn (Option.some.inj e))⟩,X,O⟩;rw [h3 z hz];by_cases e:z=x
  ·subst e;rw [show (kI z).sameKey (.int .i64 z)=true from WideAt.sameKey_self (kI_key hz)];simp
  ·rw [Go.Maps.sameKey_ne (a:=kI z) (b:=.int .i64 x) (kI_ne e)];simp [e]
end Go.Proofs.YthdkamnclbfehaaGreatDoor
