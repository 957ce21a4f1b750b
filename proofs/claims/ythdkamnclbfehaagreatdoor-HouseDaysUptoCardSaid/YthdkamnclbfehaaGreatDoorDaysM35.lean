/- A part of the proof. -/
import Derived.Test.YthdkamnclbfehaaGreatDoorDaysM33
import Derived.Test.YthdkamnclbfehaaGreatDoorDaysM34
set_option linter.all false
set_option maxHeartbeats 20000000
set_option maxRecDepth 100000
namespace Go.Proofs.YthdkamnclbfehaaGreatDoor
open Go.RowKit Tryz
def boolA (on:Int→Bool):Array Value:=#[.bool (on 0),.bool (on 1),.bool (on 2),.bool (on 3),.bool (on 4),.bool (on 5)]
def onL (L:List Int) (x:Int):Bool:=decide (x∈L)
def f6:Array Value:=#[.bool false,.bool false,.bool false,.bool false,.bool false,.bool false]
theorem ext6 {A:Array Value} {on:Int→Bool} (hs:A.size=6) (h:∀ k:Nat,k < 6→A[k]?=some (.bool (on (k:Int)))):A=boolA on:=by
 refine Array.ext (by rw [hs];rfl) fun k h1 h2=>?_;have hk:k < 6:=(by omega);have e:=h k hk;rw [Array.getElem?_eq_getElem h1] at e;injection e with e;rw [e];have:k=0∨k=1∨k=2∨k=3∨k=4∨k=5:=(by omega);rcases this with rfl | rfl | rfl | rfl | rfl | rfl <;> rfl
theorem f6_at (k:Nat) (hk:k < 6):f6[k]?=some (.bool false):=by
 have:k=0∨k=1∨k=2∨k=3∨k=4∨k=5:=(by omega);rcases this with rfl | rfl | rfl | rfl | rfl | rfl <;> rfl
theorem on6_1 (a:Nat) (ha:a < 6):f6.setIfInBounds a (.bool true)=boolA (onL [(a:Int)]):=by
 refine ext6 (by simp [f6]) fun k hk=>?_;rw [Array.getElem?_setIfInBounds,f6_at k hk];unfold onL;by_cases h:a=k
 ·subst h;simp [f6];exact ha
 ·rw [if_neg h];simp;omega
theorem on6_2 (a b:Nat) (ha:a < 6) (hb:b < 6):(f6.setIfInBounds a (.bool true)).setIfInBounds b (.bool true)=boolA (onL [(a:Int),(b:Int)]):=by
 refine ext6 (by simp [f6]) fun k hk=>?_;rw [Array.getElem?_setIfInBounds,Array.getElem?_setIfInBounds,f6_at k hk];unfold onL;by_cases h:b=k
 ·subst h;simp [f6];exact hb
 ·rw [if_neg h];by_cases h':a=k
  ·subst h';simp [f6];exact ha
  ·rw [if_neg h'];simp;omega
theorem on6_3 (a b c:Nat) (ha:a < 6) (hb:b < 6) (hc:c < 6):((f6.setIfInBounds a (.bool true)).setIfInBounds b (.bool true)).setIfInBounds c (.bool true)=boolA (onL [(a:Int),(b:Int),(c:Int)]):=by
 refine ext6 (by simp [f6]) fun k hk=>?_;rw [Array.getElem?_setIfInBounds,Array.getElem?_setIfInBounds,Array.getElem?_setIfInBounds,f6_at k hk];unfold onL;by_cases h:c=k
 ·subst h;simp [f6];exact hc
 ·rw [if_neg h];by_cases h':b=k
  ·subst h';simp [f6];exact hb
  ·rw [if_neg h'];by_cases h2:a=k
   ·subst h2;simp [f6];exact ha
   ·rw [if_neg h2];simp;omega
theorem u_f {i:Int} (h:numB i):∃ k:Nat,k < 4∧Int.tmod i 4=(k:Int)∧itemOf i=((k+2:Nat):Int):=by
 have h1:=tmod4 i;have h0:0≤Int.tmod i 4:=Int.tmod_nonneg 4 h.1;refine ⟨(Int.tmod i 4).toNat,by omega,by omega,?_⟩;unfold itemOf;omega
def riseUp (on:Int→Bool) (n:Nat):List Int:=((List.range n).map fun (k:Nat)=>(k:Int)).filter on
theorem riseUp_succ (on:Int→Bool) (n:Nat):riseUp on (n+1)=riseUp on n++(if on (n:Int) then [(n:Int)] else []):=by
 unfold riseUp;rw [List.range_succ,List.map_append,List.filter_append];congr 1;by_cases h:on (n:Int) <;> simp [h]
theorem riseUp_len (on:Int→Bool) (n:Nat):(riseUp on n).length≤n:=by
 unfold riseUp;refine Nat.le_trans (List.length_filter_le _ _) (by simp)
theorem riseUp_six (on:Int→Bool):riseUp on 6=riseL on:=rfl
theorem y_u {s wd nm:ByteArray} {ns:List Int} (h:readR s=some (wd,nm,ns)):itemsF s=riseL (onL (touchL wd ns)):=by
 have C:=items_ok (s:=s) (.inl (by rw [okB_read,h];rfl));rw [read_same] at h;unfold readF at h;unfold itemsF at C ⊢;cases hf:formF s with
 | none=>rw [hf] at h;cases h
 | some p=>
  obtain ⟨so,f,a⟩:=p;rw [hf] at h C;dsimp only at h C ⊢;cases G:a.ok with
  | false=>rw [G] at h;cases h
  | true=>
   rw [G,if_pos rfl] at h;injection h with h;injection h with h1 h2;injection h2 with h2 h3;have J:=said_of hf G;unfold touchB;rw [h1,h3];have A:∀ i∈touchL wd ns,0≤i∧i≤5:=(by rw [← h1,← h3];exact touchL_ok (said_nonneg J));rw [compact_sort A];rfl
theorem bs_eq {x:ByteArray} {l:List UInt8} (h:x.data.toList=l):x=bs l:=by
 subst h;rfl
theorem run_index6 (W:World) (a0 a1 a2 a3 a4 a5:Bool):(∀ W,(Instr.index 240 (.agg #[.bool a0,.bool a1,.bool a2,.bool a3,.bool a4,.bool a5]) (.int .i64 0)).run prog W = .ok (.bool a0) W)∧(∀ W,(Instr.index 240 (.agg #[.bool a0,.bool a1,.bool a2,.bool a3,.bool a4,.bool a5]) (.int .i64 1)).run prog W = .ok (.bool a1) W)∧(∀ W,(Instr.index 240 (.agg #[.bool a0,.bool a1,.bool a2,.bool a3,.bool a4,.bool a5]) (.int .i64 2)).run prog W = .ok (.bool a2) W)∧(∀ W,(Instr.index 240 (.agg #[.bool a0,.bool a1,.bool a2,.bool a3,.bool a4,.bool a5]) (.int .i64 3)).run prog W = .ok (.bool a3) W)∧(∀ W,(Instr.index 240 (.agg #[.bool a0,.bool a1,.bool a2,.bool a3,.bool a4,.bool a5]) (.int .i64 4)).run prog W = .ok (.bool a4) W)∧(∀ W,(Instr.index 240 (.agg #[.bool a0,.bool a1,.bool a2,.bool a3,.bool a4,.bool a5]) (.int .i64 5)).run prog W = .ok (.bool a5) W):=
  ⟨fun _=>by kernel_rfl,fun _=>by kernel_rfl,fun _=>by kernel_rfl,fun _=>by kernel_rfl,fun _=>by kernel_rfl,fun _=>by kernel_rfl⟩
def ItemsPost (w:World) (L:List Int) (e:Ending) (w':World):Prop:=∃ v,e = .returned v∧w'.ownsRow w.heap.size 3 1 v L.length (icells L)∧Keep kF w w'
theorem run_index6g (W:World) (on:Int→Bool) (m:Nat) (hm:m < 6):(Instr.index 240 (.agg #[.bool (on 0),.bool (on 1),.bool (on 2),.bool (on 3),.bool (on 4),.bool (on 5)]) (.int .i64 (m:Int))).run prog W = .ok (.bool (on (m:Int))) W:=by
 obtain ⟨h0,h1,h2,h3,h4,h5⟩:=run_index6 W (on 0) (on 1) (on 2) (on 3) (on 4) (on 5);have:m=0∨m=1∨m=2∨m=3∨m=4∨m=5:=(by omega);rcases this with rfl | rfl | rfl | rfl | rfl | rfl
 ·exact h0 W
 ·exact h1 W
 ·exact h2 W
 ·exact h3 W
 ·exact h4 W
 ·exact h5 W
theorem items_any {w:World} {s:ByteArray} (hG:Glob w) (hs:s.size≤1048576) (hok:okB s=true):Calls prog 112 #[.string s] w (ItemsPost w (itemsF s)):=by
 rw [okB_read] at hok
 obtain ⟨⟨wd,nm,ns⟩,ac⟩:∃ x,readR s=some x:=by
  cases h:readR s with
  | none=>rw [h] at hok;cases hok
  | some x=>exact ⟨x,rfl⟩
 have aG:=read_cases ⟨[],[],[],[],[]⟩ ac;have aK:0 < ns.length:=(by rcases aG with ⟨_,n,h,_⟩ | ⟨_,i,j,q,h,_⟩ | ⟨_,i,b,h,_⟩ | ⟨_,i,j,h,_⟩ | ⟨_,i,h,_⟩ | ⟨_,i,h,_⟩ <;> rw [h] <;> simp);have aU:=hD aG;have aT:=hD (y_o hG hs);have G:=hD ac;clear aG hG hs hok ac;go_enter func112,ntmps112;go_upto_region 2 with (go_at_call 95;refine aT.out.mono ?_;rintro e w2 ⟨aQ,_,ax⟩;obtain ⟨br,rfl,ak⟩:=ax _ _ _ G.out;obtain ⟨oo,U,rfl,_⟩:=ak.shape;have aM:=hD aQ;have aE:=hD ak;clear aQ ax ak)
 go_upto_region 3 with fail
 obtain ⟨w5,ao⟩:∃ w5,w5=((w2.alloc (.cells #[.string wd,.string nm,.slice oo ns.length U] 169)).alloc (.cells #[.bool false,.bool false,.bool false,.bool false,.bool false,.bool false] 240)):=⟨_,rfl⟩;obtain ⟨r3,aw⟩:∃ r,r=w2.heap.size:=⟨_,rfl⟩;have aF:Blk w5 r3 #[.string wd,.string nm,.slice oo ns.length U] 169:=(by rw [ao,aw];exact (Blk.new _ _ _).alloc _);have C:Hid (Blk w5 (r3+1) f6 240):=hD (by rw [ao,aw];have:=Blk.new (w2.alloc (.cells #[.string wd,.string nm,.slice oo ns.length U] 169)) f6 240;rwa [World.size_alloc] at this);have Y:Hid (Keep kF w w5):=hD (by rw [ao];exact (aM.out.alloc _).alloc _);have Z:Hid (w.heap.size≤r3):=hD (by rw [aw];exact aM.out.size);have av:Keep kF w2 w5:=(by rw [ao];exact ((Keep.refl kF w2).alloc _).alloc _);obtain ⟨ng,no,rfl,aL⟩:=rd_ints aE.out aK;have aq:Hid (ng≠r3+1):=hD (by intro e;have h9:=World.block_lt_of_cell? _ _ (aL w2 0 (Keep.refl _ _) aK);simp only at h9;omega);rw [← ao,← aw];have d0:w5.cell? ⟨r3,0,none⟩=some (.string wd):=aF.cell 0;have fz:∀ o,w5.frozen? ⟨r3+1,o,none⟩=false:=C.out.free;have am:=hD aF;have ai:=hD aL;have X:=hD av;clear ao aw aF av aL aK;go_upto_block 0 with fail
 go_cut [] (fun wx=>∃ on,itemsF s=riseL on∧Blk wx (r3+1) (boolA on) 240∧Keep (fun _=>False) w wx)
 case first=>
  rename_i Jq Kq bj ar;rcases aU.out with ⟨A,i,O,hi,-⟩ | ⟨A,i,j,q,O,hi,hj,-⟩ | ⟨A,i,j,O,hi,-⟩ | ⟨A,i,j,O,hi,hj,-⟩ | ⟨A,i,O,hi,-⟩ | ⟨A,i,O,hi,-⟩
  ·have J:Hid (itemsF s=riseL (onL [((0:Nat):Int)])):=hD (by rw [y_u G.out];have he:touchL wd ns=[((0:Nat):Int)]:=(by have hw:wd=bs [116,97,107,101]:=bs_eq A;subst hw;rw [O];unfold touchL;rw [if_pos rfl];rfl);rw [he]);subst O;have R:(wd.toList == [116,97,107,101])=true:=z_a _ _ A;clear A;have d2:w5.cell? ⟨r3,2,none⟩=some (.slice (some ⟨ng,no,none⟩) 1 U):=am.out.cell 2;have p0:w5.cell? ⟨r3+1,0,none⟩=some (.bool false):=(C.out.cell _).trans (f6_at _ (by omega));go_wp2_with fail
   go_meet
   exact ⟨_,J.out,by rw [← on6_1 0 (by omega)];exact (C.out.set _ _),Y.out.trans (T:=fun k=>k=r3+1) kW (fun k hk e=>by have:=Z.out;omega)⟩
  ·obtain ⟨ki,a6,a7,aa⟩:=u_f hi;obtain ⟨kj,aZ,ba,ay⟩:=u_f hj;have J:Hid (itemsF s=riseL (onL [((0:Nat):Int),((ki+2:Nat):Int),((kj+2:Nat):Int)])):=hD (by rw [y_u G.out];have he:touchL wd ns=[((0:Nat):Int),((ki+2:Nat):Int),((kj+2:Nat):Int)]:=(by have hw:wd=bs [98,108,101,110,100]:=bs_eq A;subst hw;rw [O];unfold touchL;rw [if_neg (by decide),if_pos rfl];simp [aa,ay]);rw [he]);subst O;have R:(wd.toList == [116,97,107,101])=false:=x_u _ _ (by rw [A];decide);have M:(wd.toList == [98,108,101,110,100])=true:=z_a _ _ A;have a8:IntKind.i64.wrap (2+(ki:Int))=((ki+2:Nat):Int):=(by rw [show (2:Int)+(ki:Int)=((ki+2:Nat):Int) by omega];exact IntWalk.i64_in _ (by omega));have aA:(((ki+2:Nat):Int) < 6)=True:=eq_true (by omega);have aB:(0:Int)≤((ki+2:Nat):Int):=(by omega);have aC:(-9223372036854775808:Int)≤i:=(by have:=hi.1;omega);clear aa;have bf:IntKind.i64.wrap (2+(kj:Int))=((kj+2:Nat):Int):=(by rw [show (2:Int)+(kj:Int)=((kj+2:Nat):Int) by omega];exact IntWalk.i64_in _ (by omega));have bg:(((kj+2:Nat):Int) < 6)=True:=eq_true (by omega);have bh:(0:Int)≤((kj+2:Nat):Int):=(by omega);have bi:(-9223372036854775808:Int)≤j:=(by have:=hj.1;omega);clear ay;clear A;have d2:w5.cell? ⟨r3,2,none⟩=some (.slice (some ⟨ng,no,none⟩) 3 U):=am.out.cell 2;have ci:w5.cell? ⟨ng,no,none⟩=some (.int .i64 i):=ai.out w5 0 X.out (by simp);have cj:w5.cell? ⟨ng,no+1,none⟩=some (.int .i64 j):=ai.out w5 1 X.out (by simp);have p0:w5.cell? ⟨r3+1,0,none⟩=some (.bool false):=(C.out.cell _).trans (f6_at _ (by omega));have p1:w5.cell? ⟨r3+1,(ki+2),none⟩=some (.bool false):=(C.out.cell _).trans (f6_at _ (by omega));have p2:w5.cell? ⟨r3+1,(kj+2),none⟩=some (.bool false):=(C.out.cell _).trans (f6_at _ (by omega));have ah:Hid (∀ W,Keep (fun k=>k=r3+1) w5 W→W.cell? ⟨r3,2,none⟩=some (.slice (some ⟨ng,no,none⟩) 3 U)∧W.cell? ⟨ng,no,none⟩=some (.int .i64 i)∧W.cell? ⟨ng,no+1,none⟩=some (.int .i64 j)):=hD fun W hk=>⟨(hk.cell (p:=⟨r3,2,none⟩) (World.block_lt_of_cell? _ _ d2) (fun e=>absurd e (by simp))).trans d2,(hk.cell (p:=⟨ng,no+0,none⟩) (World.block_lt_of_cell? _ _ ci) (fun e=>aq.out e)).trans ci,(hk.cell (p:=⟨ng,no+1,none⟩) (World.block_lt_of_cell? _ _ cj) (fun e=>aq.out e)).trans cj⟩;by_cases aj:ki=kj
   ·subst aj;obtain ⟨kn,aX⟩:∃ kn,kn=ki:=⟨_,rfl⟩;have h4:ki=0∨ki=1∨ki=2∨ki=3:=(by omega);rcases h4 with rfl | rfl | rfl | rfl
    all_goals
     have n2:IntKind.i64.wrap 2=2:=rfl;have n3:IntKind.i64.wrap 3=3:=rfl;have n4:IntKind.i64.wrap 4=4:=rfl;have n5:IntKind.i64.wrap 5=5:=rfl;go_upto_region 8 with fail
     go_region_held3 (fun W=>W.cell? ⟨r3,2,none⟩=some (.slice (some ⟨ng,no,none⟩) 3 U)∧W.cell? ⟨ng,no,none⟩=some (.int .i64 i)∧W.cell? ⟨ng,no+1,none⟩=some (.int .i64 j)) ((refine ah.out _ ?_;exact kW)) (fail)
     refine ar _ _ ?_;go_meet
    ·exact ⟨_,J.out,by rw [← on6_3 0 (0+2) (0+2) (by omega) (by omega) (by omega)];exact (((C.out.set _ _).set _ _).set _ _),Y.out.trans (T:=fun k=>k=r3+1) kW (fun k hk e=>by have:=Z.out;omega)⟩
    ·exact ⟨_,J.out,by rw [← on6_3 0 (1+2) (1+2) (by omega) (by omega) (by omega)];exact (((C.out.set _ _).set _ _).set _ _),Y.out.trans (T:=fun k=>k=r3+1) kW (fun k hk e=>by have:=Z.out;omega)⟩
    ·exact ⟨_,J.out,by rw [← on6_3 0 (2+2) (2+2) (by omega) (by omega) (by omega)];exact (((C.out.set _ _).set _ _).set _ _),Y.out.trans (T:=fun k=>k=r3+1) kW (fun k hk e=>by have:=Z.out;omega)⟩
    ·exact ⟨_,J.out,by rw [← on6_3 0 (3+2) (3+2) (by omega) (by omega) (by omega)];exact (((C.out.set _ _).set _ _).set _ _),Y.out.trans (T:=fun k=>k=r3+1) kW (fun k hk e=>by have:=Z.out;omega)⟩
   ·have aH:(ki=kj)=False:=eq_false aj;have aI:(kj=ki)=False:=eq_false (fun e=>aj e.symm);have aJ:∀ (W:World) (v:Value),(W.setCell ⟨r3+1,ki+2,none⟩ v).cell? ⟨r3+1,kj+2,none⟩=W.cell? ⟨r3+1,kj+2,none⟩:=fun W v=>(by apply World.cell?_setCell_other;intro e;injection e with e1 e2 e3;omega);have m1:((ki:Int)+2 < 6)=True:=eq_true (by omega);have m2:(0:Int)≤(ki:Int)+2:=(by omega);have m3:((ki:Int)+2).toNat=ki+2:=(by omega);have m4:((kj:Int)+2 < 6)=True:=eq_true (by omega);have m5:(0:Int)≤(kj:Int)+2:=(by omega);have m6:((kj:Int)+2).toNat=kj+2:=(by omega);go_upto_region 8 with fail
    go_region_held3 (fun W=>W.cell? ⟨r3,2,none⟩=some (.slice (some ⟨ng,no,none⟩) 3 U)∧W.cell? ⟨ng,no,none⟩=some (.int .i64 i)∧W.cell? ⟨ng,no+1,none⟩=some (.int .i64 j)) ((refine ah.out _ ?_;exact kW)) (fail)
    refine ar _ _ ?_;go_meet
    exact ⟨_,J.out,by rw [← on6_3 0 (ki+2) (kj+2) (by omega) (by omega) (by omega)];exact (((C.out.set _ _).set _ _).set _ _),Y.out.trans (T:=fun k=>k=r3+1) kW (fun k hk e=>by have:=Z.out;omega)⟩
  ·obtain ⟨ki,a6,a7,aa⟩:=u_f hi;have J:Hid (itemsF s=riseL (onL [((1:Nat):Int),((ki+2:Nat):Int)])):=hD (by rw [y_u G.out];have he:touchL wd ns=[((1:Nat):Int),((ki+2:Nat):Int)]:=(by have hw:wd=bs [112,117,116]:=bs_eq A;subst hw;rw [O];unfold touchL;rw [if_neg (by decide),if_neg (by decide),if_pos rfl];simp [aa]);rw [he]);subst O;have R:(wd.toList == [116,97,107,101])=false:=x_u _ _ (by rw [A];decide);have M:(wd.toList == [98,108,101,110,100])=false:=x_u _ _ (by rw [A];decide);have al:(wd.toList == [112,117,116])=true:=z_a _ _ A;have a8:IntKind.i64.wrap (2+(ki:Int))=((ki+2:Nat):Int):=(by rw [show (2:Int)+(ki:Int)=((ki+2:Nat):Int) by omega];exact IntWalk.i64_in _ (by omega));have aA:(((ki+2:Nat):Int) < 6)=True:=eq_true (by omega);have aB:(0:Int)≤((ki+2:Nat):Int):=(by omega);have aC:(-9223372036854775808:Int)≤i:=(by have:=hi.1;omega);clear aa;clear A;have d2:w5.cell? ⟨r3,2,none⟩=some (.slice (some ⟨ng,no,none⟩) 2 U):=am.out.cell 2;have ci:w5.cell? ⟨ng,no,none⟩=some (.int .i64 i):=ai.out w5 0 X.out (by simp);have p0:w5.cell? ⟨r3+1,1,none⟩=some (.bool false):=(C.out.cell _).trans (f6_at _ (by omega));have p1:w5.cell? ⟨r3+1,(ki+2),none⟩=some (.bool false):=(C.out.cell _).trans (f6_at _ (by omega));have ah:Hid (∀ W,Keep (fun k=>k=r3+1) w5 W→W.cell? ⟨r3,2,none⟩=some (.slice (some ⟨ng,no,none⟩) 2 U)∧W.cell? ⟨ng,no,none⟩=some (.int .i64 i)):=hD fun W hk=>⟨(hk.cell (p:=⟨r3,2,none⟩) (World.block_lt_of_cell? _ _ d2) (fun e=>absurd e (by simp))).trans d2,(hk.cell (p:=⟨ng,no+0,none⟩) (World.block_lt_of_cell? _ _ ci) (fun e=>aq.out e)).trans ci⟩;have m1:((ki:Int)+2 < 6)=True:=eq_true (by omega);have m2:(0:Int)≤(ki:Int)+2:=(by omega);have m3:((ki:Int)+2).toNat=ki+2:=(by omega);go_upto_region 10 with fail
   go_region_held3 (fun W=>W.cell? ⟨r3,2,none⟩=some (.slice (some ⟨ng,no,none⟩) 2 U)∧W.cell? ⟨ng,no,none⟩=some (.int .i64 i)) ((refine ah.out _ ?_;exact kW)) (fail)
   refine ar _ _ ?_;go_meet
   exact ⟨_,J.out,by rw [← on6_2 1 (ki+2) (by omega) (by omega)];exact ((C.out.set _ _).set _ _),Y.out.trans (T:=fun k=>k=r3+1) kW (fun k hk e=>by have:=Z.out;omega)⟩
  ·obtain ⟨ki,a6,a7,aa⟩:=u_f hi;obtain ⟨kj,aZ,ba,ay⟩:=u_f hj;have J:Hid (itemsF s=riseL (onL [((ki+2:Nat):Int),((kj+2:Nat):Int)])):=hD (by rw [y_u G.out];have he:touchL wd ns=[((ki+2:Nat):Int),((kj+2:Nat):Int)]:=(by have hw:wd=bs [116,111,117,99,104]:=bs_eq A;subst hw;rw [O];unfold touchL;rw [if_neg (by decide),if_neg (by decide),if_neg (by decide)];simp [aa,ay]);rw [he]);subst O;have R:(wd.toList == [116,97,107,101])=false:=x_u _ _ (by rw [A];decide);have M:(wd.toList == [98,108,101,110,100])=false:=x_u _ _ (by rw [A];decide);have al:(wd.toList == [112,117,116])=false:=x_u _ _ (by rw [A];decide);have ad:(wd.toList == [116,111,117,99,104])=true:=z_a _ _ A;have a8:IntKind.i64.wrap (2+(ki:Int))=((ki+2:Nat):Int):=(by rw [show (2:Int)+(ki:Int)=((ki+2:Nat):Int) by omega];exact IntWalk.i64_in _ (by omega));have aA:(((ki+2:Nat):Int) < 6)=True:=eq_true (by omega);have aB:(0:Int)≤((ki+2:Nat):Int):=(by omega);have aC:(-9223372036854775808:Int)≤i:=(by have:=hi.1;omega);clear aa;have bf:IntKind.i64.wrap (2+(kj:Int))=((kj+2:Nat):Int):=(by rw [show (2:Int)+(kj:Int)=((kj+2:Nat):Int) by omega];exact IntWalk.i64_in _ (by omega));have bg:(((kj+2:Nat):Int) < 6)=True:=eq_true (by omega);have bh:(0:Int)≤((kj+2:Nat):Int):=(by omega);have bi:(-9223372036854775808:Int)≤j:=(by have:=hj.1;omega);clear ay;clear A;have d2:w5.cell? ⟨r3,2,none⟩=some (.slice (some ⟨ng,no,none⟩) 2 U):=am.out.cell 2;have ci:w5.cell? ⟨ng,no,none⟩=some (.int .i64 i):=ai.out w5 0 X.out (by simp);have cj:w5.cell? ⟨ng,no+1,none⟩=some (.int .i64 j):=ai.out w5 1 X.out (by simp);have p0:w5.cell? ⟨r3+1,(ki+2),none⟩=some (.bool false):=(C.out.cell _).trans (f6_at _ (by omega));have p1:w5.cell? ⟨r3+1,(kj+2),none⟩=some (.bool false):=(C.out.cell _).trans (f6_at _ (by omega));have ah:Hid (∀ W,Keep (fun k=>k=r3+1) w5 W→W.cell? ⟨r3,2,none⟩=some (.slice (some ⟨ng,no,none⟩) 2 U)∧W.cell? ⟨ng,no,none⟩=some (.int .i64 i)∧W.cell? ⟨ng,no+1,none⟩=some (.int .i64 j)):=hD fun W hk=>⟨(hk.cell (p:=⟨r3,2,none⟩) (World.block_lt_of_cell? _ _ d2) (fun e=>absurd e (by simp))).trans d2,(hk.cell (p:=⟨ng,no+0,none⟩) (World.block_lt_of_cell? _ _ ci) (fun e=>aq.out e)).trans ci,(hk.cell (p:=⟨ng,no+1,none⟩) (World.block_lt_of_cell? _ _ cj) (fun e=>aq.out e)).trans cj⟩;by_cases aj:ki=kj
   ·subst aj;obtain ⟨kn,aX⟩:∃ kn,kn=ki:=⟨_,rfl⟩;have h4:ki=0∨ki=1∨ki=2∨ki=3:=(by omega);rcases h4 with rfl | rfl | rfl | rfl
    all_goals
     have n2:IntKind.i64.wrap 2=2:=rfl;have n3:IntKind.i64.wrap 3=3:=rfl;have n4:IntKind.i64.wrap 4=4:=rfl;have n5:IntKind.i64.wrap 5=5:=rfl;go_upto_region 12 with fail
     go_region_held3 (fun W=>W.cell? ⟨r3,2,none⟩=some (.slice (some ⟨ng,no,none⟩) 2 U)∧W.cell? ⟨ng,no,none⟩=some (.int .i64 i)∧W.cell? ⟨ng,no+1,none⟩=some (.int .i64 j)) ((refine ah.out _ ?_;exact kW)) (fail)
     refine ar _ _ ?_;go_meet
    ·exact ⟨_,J.out,by rw [← on6_2 (0+2) (0+2) (by omega) (by omega)];exact ((C.out.set _ _).set _ _),Y.out.trans (T:=fun k=>k=r3+1) kW (fun k hk e=>by have:=Z.out;omega)⟩
    ·exact ⟨_,J.out,by rw [← on6_2 (1+2) (1+2) (by omega) (by omega)];exact ((C.out.set _ _).set _ _),Y.out.trans (T:=fun k=>k=r3+1) kW (fun k hk e=>by have:=Z.out;omega)⟩
    ·exact ⟨_,J.out,by rw [← on6_2 (2+2) (2+2) (by omega) (by omega)];exact ((C.out.set _ _).set _ _),Y.out.trans (T:=fun k=>k=r3+1) kW (fun k hk e=>by have:=Z.out;omega)⟩
    ·exact ⟨_,J.out,by rw [← on6_2 (3+2) (3+2) (by omega) (by omega)];exact ((C.out.set _ _).set _ _),Y.out.trans (T:=fun k=>k=r3+1) kW (fun k hk e=>by have:=Z.out;omega)⟩
   ·have aH:(ki=kj)=False:=eq_false aj;have aI:(kj=ki)=False:=eq_false (fun e=>aj e.symm);have aJ:∀ (W:World) (v:Value),(W.setCell ⟨r3+1,ki+2,none⟩ v).cell? ⟨r3+1,kj+2,none⟩=W.cell? ⟨r3+1,kj+2,none⟩:=fun W v=>(by apply World.cell?_setCell_other;intro e;injection e with e1 e2 e3;omega);have m1:((ki:Int)+2 < 6)=True:=eq_true (by omega);have m2:(0:Int)≤(ki:Int)+2:=(by omega);have m3:((ki:Int)+2).toNat=ki+2:=(by omega);have m4:((kj:Int)+2 < 6)=True:=eq_true (by omega);have m5:(0:Int)≤(kj:Int)+2:=(by omega);have m6:((kj:Int)+2).toNat=kj+2:=(by omega);go_upto_region 12 with fail
    go_region_held3 (fun W=>W.cell? ⟨r3,2,none⟩=some (.slice (some ⟨ng,no,none⟩) 2 U)∧W.cell? ⟨ng,no,none⟩=some (.int .i64 i)∧W.cell? ⟨ng,no+1,none⟩=some (.int .i64 j)) ((refine ah.out _ ?_;exact kW)) (fail)
    refine ar _ _ ?_;go_meet
    exact ⟨_,J.out,by rw [← on6_2 (ki+2) (kj+2) (by omega) (by omega)];exact ((C.out.set _ _).set _ _),Y.out.trans (T:=fun k=>k=r3+1) kW (fun k hk e=>by have:=Z.out;omega)⟩
  ·obtain ⟨ki,a6,a7,aa⟩:=u_f hi;have J:Hid (itemsF s=riseL (onL [((ki+2:Nat):Int)])):=hD (by rw [y_u G.out];have he:touchL wd ns=[((ki+2:Nat):Int)]:=(by have hw:wd=bs [116,101,115,116]:=bs_eq A;subst hw;rw [O];unfold touchL;rw [if_neg (by decide),if_neg (by decide),if_neg (by decide)];simp [aa]);rw [he]);subst O;have R:(wd.toList == [116,97,107,101])=false:=x_u _ _ (by rw [A];decide);have M:(wd.toList == [98,108,101,110,100])=false:=x_u _ _ (by rw [A];decide);have al:(wd.toList == [112,117,116])=false:=x_u _ _ (by rw [A];decide);have ad:(wd.toList == [116,111,117,99,104])=false:=x_u _ _ (by rw [A];decide);have a8:IntKind.i64.wrap (2+(ki:Int))=((ki+2:Nat):Int):=(by rw [show (2:Int)+(ki:Int)=((ki+2:Nat):Int) by omega];exact IntWalk.i64_in _ (by omega));have aA:(((ki+2:Nat):Int) < 6)=True:=eq_true (by omega);have aB:(0:Int)≤((ki+2:Nat):Int):=(by omega);have aC:(-9223372036854775808:Int)≤i:=(by have:=hi.1;omega);clear aa;clear A;have d2:w5.cell? ⟨r3,2,none⟩=some (.slice (some ⟨ng,no,none⟩) 1 U):=am.out.cell 2;have ci:w5.cell? ⟨ng,no,none⟩=some (.int .i64 i):=ai.out w5 0 X.out (by simp);have p0:w5.cell? ⟨r3+1,(ki+2),none⟩=some (.bool false):=(C.out.cell _).trans (f6_at _ (by omega));go_wp2_with fail
   go_meet
   exact ⟨_,J.out,by rw [← on6_1 (ki+2) (by omega)];exact (C.out.set _ _),Y.out.trans (T:=fun k=>k=r3+1) kW (fun k hk e=>by have:=Z.out;omega)⟩
  ·obtain ⟨ki,a6,a7,aa⟩:=u_f hi;have J:Hid (itemsF s=riseL (onL [((ki+2:Nat):Int)])):=hD (by rw [y_u G.out];have he:touchL wd ns=[((ki+2:Nat):Int)]:=(by have hw:wd=bs [99,108,111,115,101]:=bs_eq A;subst hw;rw [O];unfold touchL;rw [if_neg (by decide),if_neg (by decide),if_neg (by decide)];simp [aa]);rw [he]);subst O;have R:(wd.toList == [116,97,107,101])=false:=x_u _ _ (by rw [A];decide);have M:(wd.toList == [98,108,101,110,100])=false:=x_u _ _ (by rw [A];decide);have al:(wd.toList == [112,117,116])=false:=x_u _ _ (by rw [A];decide);have ad:(wd.toList == [116,111,117,99,104])=false:=x_u _ _ (by rw [A];decide);have a8:IntKind.i64.wrap (2+(ki:Int))=((ki+2:Nat):Int):=(by rw [show (2:Int)+(ki:Int)=((ki+2:Nat):Int) by omega];exact IntWalk.i64_in _ (by omega));have aA:(((ki+2:Nat):Int) < 6)=True:=eq_true (by omega);have aB:(0:Int)≤((ki+2:Nat):Int):=(by omega);have aC:(-9223372036854775808:Int)≤i:=(by have:=hi.1;omega);clear aa;clear A;have d2:w5.cell? ⟨r3,2,none⟩=some (.slice (some ⟨ng,no,none⟩) 1 U):=am.out.cell 2;have ci:w5.cell? ⟨ng,no,none⟩=some (.int .i64 i):=ai.out w5 0 X.out (by simp);have p0:w5.cell? ⟨r3+1,(ki+2),none⟩=some (.bool false):=(C.out.cell _).trans (f6_at _ (by omega));go_wp2_with fail
   go_meet
   exact ⟨_,J.out,by rw [← on6_1 (ki+2) (by omega)];exact (C.out.set _ _),Y.out.trans (T:=fun k=>k=r3+1) kW (fun k hk e=>by have:=Z.out;omega)⟩
 case rest=>
  obtain ⟨on,aP,aO,aS⟩:=hcut;have aD:=hD aP;have an:=hD aO;have aV:=hD aS;have e0:wc.cell? ⟨r3+1,0,none⟩=some (.bool (on 0)):=an.out.cell 0;have e1:wc.cell? ⟨r3+1,1,none⟩=some (.bool (on 1)):=an.out.cell 1;have e2:wc.cell? ⟨r3+1,2,none⟩=some (.bool (on 2)):=an.out.cell 2;have e3:wc.cell? ⟨r3+1,3,none⟩=some (.bool (on 3)):=an.out.cell 3;have e4:wc.cell? ⟨r3+1,4,none⟩=some (.bool (on 4)):=an.out.cell 4;have e5:wc.cell? ⟨r3+1,5,none⟩=some (.bool (on 5)):=an.out.cell 5;clear aP aO aS;go_wp2_with fail
  go_loopw [70,6] (fun s70 s6 wx=>∃ m:Nat,m≤6∧s70 = .int .i64 (m:Int)∧wx.ownsRow w.heap.size 3 1 s6 (riseUp on m).length (icells (riseUp on m))∧Keep (fun _=>False) w wx) (fun v _ _=>6 - (intOf v).toNat)
  case atStart=>exact ⟨0,by omega,rfl,World.ownsRow_nil _ _ 3 1,aV.out⟩
  case round=>
   obtain ⟨m,bn,rfl,ag,hk⟩:=hrel;obtain ⟨n,hn⟩:∃ n,riseUp on m=n:=⟨_,rfl⟩;have bp:n.length≤6:=(by rw [← hn];exact Nat.le_trans (riseUp_len _ _) (by omega));rw [hn] at ag;obtain ⟨bk,aW,rfl,_⟩:=x_a ag;have HN:=hD hn;have ae:=hD ag;have HK:=hD hk;have aN:Hid (riseUp on (m+1)=n++(if on (m:Int) then [(m:Int)] else [])):=hD (by rw [← HN.out];exact riseUp_succ on m);clear hn ag hk e0 e1 e2 e3 e4 e5 d0;by_cases a1:m < 6
   ·have aY:((m:Int) < 6)=True:=eq_true (by omega);have bl:(0:Int)≤(m:Int):=(by omega);have bq:IntKind.i64.wrap ((m:Int)+1)=((m+1:Nat):Int):=(by rw [show ((m:Int)+1)=((m+1:Nat):Int) by omega];exact IntWalk.i64_in _ (by omega));have hx:=fun W=>run_index6g W on m a1;have az:=hD a1;clear a1;cases hq:on (m:Int)
    ·have HQ:Hid (riseUp on (m+1)=n):=hD (by rw [aN.out,hq];simp);rw [hq] at hx;clear hq;go_wp2_with fail
     go_roundw
     case rel=>exact ⟨m+1,az.out,rfl,by rw [HQ.out];exact ae.out,HK.out⟩
     case measure=>have:=az.out;simp [intOf];omega
    ·have HQ:Hid (riseUp on (m+1)=n++[(m:Int)]):=hD (by rw [aN.out,hq];rfl);rw [hq] at hx;clear hq;go_wp2_with (at_builtin;refine x_h (w:=wr.alloc (.cells #[.int .i64 (m:Int)] 3)) rfl (.tmp 75) (.tmp 77) 34 34 rfl 3 (.int .i64 0) 1 8 underlying34 v_h rfl ((ae.out).alloc _) rfl (Src.new (P:=prog) underlying34 wr 1 [.int .i64 (m:Int)] 3 rfl (by simp [Value.oneCell'])) rfl (by unfold maxLen;omega) (by omega) (by have:=HK.out.size;simp;omega) ?_;intro v' wa au;have HA:=hD au;clear au)
     go_roundw
     case rel=>
      refine ⟨m+1,az.out,rfl,?_,(HK.out.alloc _).trans HA.out.keep (fun k hk e=>by have:=(x_d ae.out k e).1;omega)⟩;rw [HQ.out];have:=HA.out.own;simpa [icells] using this
     case measure=>have:=az.out;simp [intOf];omega
   ·have aY:((m:Int) < 6)=False:=eq_false (by omega);have HQ:Hid (n=itemsF s):=hD (by rw [← HN.out,aD.out,show m=6 by omega];exact riseUp_six on);clear a1;go_wp2_with fail
    go_ret;exact ⟨_,rfl,by rw [← HQ.out];exact ae.out,HK.out⟩
end Go.Proofs.YthdkamnclbfehaaGreatDoor
