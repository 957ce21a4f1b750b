/- A part of the proof. -/
import Derived.Test.YthdkamnclbfehaaGreatDoorDaysM25
import Derived.Deep.DeepCutAuto
set_option linter.all false
set_option maxHeartbeats 20000000
set_option maxRecDepth 100000
namespace Go.Proofs.YthdkamnclbfehaaGreatDoor
open Go.RowKit Tryz
theorem Rd.dropN {w:World} {ao:Option Addr} {n c:Nat} {xs:List Value} (h:Rd w 1 (.slice ao n c) n xs) (i:Nat) (hi:i≤n):Rd w 1 (.slice (if c=i then ao else ao.map (fun x=>x.add i)) (n - i) (c - i)) (n - i) (xs.drop i):=by
 have hn:xs.length=n:=(by have:=h.1;omega);refine ⟨by rw [List.length_drop];omega,fun u hu=>h.2.1 u (List.mem_of_mem_drop hu),?_⟩;rcases h.2.2 with ⟨e,h0⟩ | ⟨b,o,c',e,h1,h2,hx⟩
 ·injection e with e1 e2 e3;subst e1 e3;have:i=0:=(by omega);subst this;exact .inl ⟨by rw [if_pos rfl,h0],by rw [h0]⟩
 ·injection e with e1 e2 e3;subst e1 e3;by_cases A:c=i
  ·rw [if_pos A];refine .inr ⟨b,o,c - i,rfl,by omega,by omega,fun j u hu=>?_⟩;have:(xs.drop i)[j]?=none:=List.getElem?_eq_none (by rw [List.length_drop];omega);rw [this] at hu;cases hu
  ·rw [if_neg A];refine .inr ⟨b,o+i,c - i,?_,by omega,by omega,fun j u hu=>?_⟩
   ·simp [z_c]
   ·rw [List.getElem?_drop] at hu;rw [Nat.add_assoc];exact hx _ u hu
def ReadSaid (w:World) (s:ByteArray) (e:Ending) (w':World):Prop:=
  Keep kF w w'∧(readR s=none→∃ x y ao n cap,e = .returned (.tuple #[.agg #[.string x,.string y,.slice ao n cap],.bool false]))∧
  ∀ wd nm ns,readR s=some (wd,nm,ns)→∃ vn,e = .returned (.tuple #[.agg #[.string wd,.string nm,vn],.bool true])∧Rd w' 1 vn ns.length (icells ns)
theorem u_n {w w':World} {s x y:ByteArray} {ao:Option Addr} {n cap:Nat} (h:readR s=none) (hk:Keep kF w w'):ReadSaid w s (.returned (.tuple #[.agg #[.string x,.string y,.slice ao n cap],.bool false])) w':=
  ⟨hk,fun _=>⟨x,y,ao,n,cap,rfl⟩,fun wd nm ns h2=>by rw [h] at h2;cases h2⟩
theorem read_results (tmps:Array Value) (w:World) {b1:Nat} {v0 v1 v2 ok:Value} (h2:tmps[2]?.getD undef = .pointer (some ⟨b1,0,none⟩)) (h3:tmps[3]?.getD undef=ok) (c0:w.cell? ⟨b1,0,none⟩=some v0) (c1:w.cell? ⟨b1,1,none⟩=some v1) (c2:w.cell? ⟨b1,2,none⟩=some v2):(results Tryz.f95 tmps).run prog w = .ok (.tuple #[.agg #[v0,v1,v2],ok]) w:=by
 have hr:Tryz.f95.results=#[.cell 2 169,.tmp 3]:=(by kernel_rfl);unfold results;rw [hr];simp [h2,h3,go_sem,c0,c1,c2];try simp [go_sem,c0,c1,c2,Result.andThen]
theorem y_p {R:Ending→World→Prop} {a:Act} {w1:World} {b1:Nat} {c1:Array Value} {v0 v1 v2 ok:Value} (B1:Blk w1 b1 c1 169) (s1:c1.size=3) (h2:a.tmps[2]?.getD undef = .pointer (some ⟨b1,0,none⟩)) (h3:a.tmps[3]?.getD undef=ok) (hd:a.defers=[]) (hR:∀ wf,Keep (fun k=>k=b1) w1 wf→R (.returned (.tuple #[.agg #[v0,v1,v2],ok])) wf):bodyPost prog Tryz.f95 R .ret a (((w1.setCell ⟨b1,0,none⟩ v0).setCell ⟨b1,1,none⟩ v1).setCell ⟨b1,2,none⟩ v2):=by
 have D1:=((B1.set 0 v0).set 1 v1).set 2 v2;refine bodyPost_ret (read_results _ _ h2 h3 ((D1.cell 0).trans ?_) ((D1.cell 1).trans ?_) ((D1.cell 2).trans ?_)) hd (hR _ ?_)
 ·simp [s1]
 ·simp [s1]
 ·simp [s1]
 ·exact (((Keep.refl (fun k=>k=b1) w1).setCell _ _ (fun _=>rfl)).setCell _ _ (fun _=>rfl)).setCell _ _ (fun _=>rfl)
def RSp (w:World) (s:ByteArray) (e:Ending) (w1:World):Prop:=
  e = .returned (.slice (some ⟨w.heap.size+1,0,none⟩) (words s).length (words s).length)∧Keep kF w w1∧Blk w1 w.heap.size #[.string ⟨#[]⟩,.string ⟨#[]⟩,.slice none 0 0] 169∧w1.heap.size=w.heap.size+2∧∀ j,j < (words s).length→w1.cell? ⟨w.heap.size+1,j,none⟩=some (.string ((words s).getD j ByteArray.empty))
theorem rsp_any {w:World} {s:ByteArray} (hG:Glob w) (hs:s.size≤1048576):Calls prog 101 #[.string s,.string ⟨#[32]⟩] (w.alloc (.cells #[.string ⟨#[]⟩,.string ⟨#[]⟩,.slice none 0 0] 169)) (RSp w s):=by
 refine (splitL_any (hG.keep ((Keep.refl _ _).alloc _)) hs).mono ?_;rintro e w1 ⟨rfl,rfl⟩;refine ⟨by rw [World.size_alloc],((Keep.refl _ _).alloc _).alloc _,(Blk.new _ _ _).alloc _,by rw [World.size_alloc,World.size_alloc],fun j hj=>?_⟩;have:=u_x (w.alloc (.cells #[.string ⟨#[]⟩,.string ⟨#[]⟩,.slice none 0 0] 169)) s j hj;rwa [Nat.zero_add,World.size_alloc] at this
def RCut (w:World) (cb:Nat) (hd:ByteArray) (ws:List ByteArray) (s6 s7:Value) (wx:World):Prop:=
  ∃ nm nums cnt ao cap,refParts ws=some (nm,nums,cnt)∧s6 = .slice ao nums.length cap∧s7 = .int .i64 (cnt:Nat)∧Rd wx 1 (.slice ao nums.length cap) nums.length (strCells nums)∧(∀ b,(Value.slice ao nums.length cap).ownBlock=some b→b=w.heap.size+1)∧Blk wx cb #[.string hd,.string nm,.slice none 0 0] 169∧Blk wx w.heap.size #[.string ⟨#[]⟩,.string ⟨#[]⟩,.slice none 0 0] 169∧Keep kF w wx
theorem rcut_mk {w wx:World} {cb n cnt cap:Nat} {hd nm:ByteArray} {ws nums:List ByteArray} {ao:Option Addr} (hp:refParts ws=some (nm,nums,cnt)) (hn:nums.length=n) (hrd:Rd wx 1 (.slice ao n cap) n (strCells nums)) (ho:∀ b,(Value.slice ao n cap).ownBlock=some b→b=w.heap.size+1) (hb:Blk wx cb #[.string hd,.string nm,.slice none 0 0] 169) (hb0:Blk wx w.heap.size #[.string ⟨#[]⟩,.string ⟨#[]⟩,.slice none 0 0] 169) (hk:Keep kF w wx):RCut w cb hd ws (.slice ao n cap) (.int .i64 (cnt:Nat)) wx:=by
 subst hn;exact ⟨nm,nums,cnt,ao,cap,hp,rfl,rfl,hrd,ho,hb,hb0,hk⟩
theorem own_drop {B i n c c2 b:Nat} (h:(Value.slice (if c2=i then some (⟨B,0,none⟩:Addr) else (some (⟨B,0,none⟩:Addr)).map (fun x=>x.add i)) n c).ownBlock=some b):b=B:=by
 split at h
 ·cases h;rfl
 ·simp only [Option.map_some,Addr.add] at h;split at h <;> (cases h;rfl)
theorem u_b (ws:List ByteArray) (i:Nat):(strCells ws).drop i=strCells (ws.drop i):=by simp [strCells]
theorem strCells_take (ws:List ByteArray) (i:Nat):(strCells ws).take i=strCells (ws.take i):=by simp [strCells]
theorem not_or {p q:Prop} (hp:¬ p) (hq:¬ q):¬ (p∨q):=fun h=>h.elim hp hq
def RLp (wx:World) (cb:Nat) (hd nm:ByteArray) (ns:List Int) (W:World):Prop:=
  ∃ vn,W.ownsRow wx.heap.size 3 1 vn ns.length (icells ns)∧Blk W cb #[.string hd,.string nm,vn] 169∧Keep (fun b=>b=cb) wx W
theorem y_s {W:World} {cb rb:Nat} {hd nm:ByteArray} {v:Value} (hb:Blk W cb #[.string hd,.string nm,v] 169) (h0:Blk W rb #[.string ⟨#[]⟩,.string ⟨#[]⟩,.slice none 0 0] 169) :
    W.cell? ⟨cb,0,none⟩=some (.string hd)∧W.cell? ⟨cb,1,none⟩=some (.string nm)∧W.cell? ⟨cb,2,none⟩=some v∧W.cell? ⟨rb,0,none⟩=some (.string ⟨#[]⟩)∧W.cell? ⟨rb,1,none⟩=some (.string ⟨#[]⟩)∧W.cell? ⟨rb,2,none⟩=some (.slice none 0 0)∧
    W.frozen? ⟨cb,1,none⟩=false∧W.frozen? ⟨cb,2,none⟩=false∧W.frozen? ⟨rb,0,none⟩=false∧W.frozen? ⟨rb,1,none⟩=false∧W.frozen? ⟨rb,2,none⟩=false:=
  ⟨hb.cell 0,hb.cell 1,hb.cell 2,h0.cell 0,h0.cell 1,h0.cell 2,hb.free 1,hb.free 2,h0.free 0,h0.free 1,h0.free 2⟩
theorem refParts_small {ws nums:List ByteArray} {nm:ByteArray} {cnt:Nat} (h:refParts ws=some (nm,nums,cnt)):cnt≤3∧nums.length≤ws.length∧∀ x∈nums,x∈ws:=by
 unfold refParts at h;split at h
 ·split at h
  ·cases h;exact ⟨by omega,by simp,fun x hx=>List.mem_of_mem_drop hx⟩
  ·cases h
 split at h
 ·split at h
  ·cases h;exact ⟨by omega,by simp;omega,fun x hx=>List.mem_of_mem_drop (List.mem_of_mem_take hx)⟩
  ·cases h
 split at h
 ·cases h;exact ⟨by omega,by simp,fun x hx=>List.mem_of_mem_drop hx⟩
 split at h
 ·cases h;exact ⟨by omega,by simp,fun x hx=>List.mem_of_mem_drop hx⟩
 split at h
 ·cases h;exact ⟨by omega,by simp,fun x hx=>List.mem_of_mem_drop hx⟩
 split at h
 ·cases h;exact ⟨by omega,by simp,fun x hx=>List.mem_of_mem_drop hx⟩
 ·cases h
theorem z_a (x:ByteArray) (l:List UInt8) (h:x.data.toList=l):(x.toList == l)=true:=by rw [beq_iff_eq,Lib.toList_data];exact h
theorem x_u (x:ByteArray) (l:List UInt8) (h:x.data.toList≠l):(x.toList == l)=false:=by rw [beq_eq_false_iff_ne,Lib.toList_data];exact h
theorem y_o {w:World} {s:ByteArray} (hG:Glob w) (hs:s.size≤1048576):Calls prog 95 #[.string s] w (ReadSaid w s):=by
 have ax:=hD (rsp_any hG hs);have aV:=hD (fun W (hk:Keep kF w W)=>line_any (hG.keep hk) hs);have HG:=hD hG;have HS:=hD hs;have bj:1≤(words s).length:=(by rw [x_v];omega);have bK:(words s).length≤1048577:=(by have:=Lib.countB_le ⟨#[32]⟩ (by decide) s.size s (Nat.le_refl _);rw [x_v];omega);have bl:∀ x∈words s,x.size≤1048576:=fun x hx=>Nat.le_trans (splitB_size _ _ _ _ x hx) hs;unfold RSp at ax
 have HR:=hD (show readR s=match refParts (words s) with
   | none=>none
   | some (nm,nums,aM)=>if isLineB s=true∧nums.length=aM∧nums.all numOk=true then some ((words s).headD (bs []),nm,nums.map atoiN) else none from rfl)
 obtain ⟨ws,bQ⟩:∃ ws,words s=ws:=⟨_,rfl⟩;rw [bQ] at ax bj bK bl HR;have bF:=hD bl;obtain ⟨hd,bx⟩:∃ hd,ws.getD 0 ByteArray.empty=hd:=⟨_,rfl⟩
 have aC:ws.headD (bs [])=hd:=by
  cases ws with
  | nil=>simp at bj
  | cons a r=>rw [← bx];rfl
 rw [aC] at HR;have bY:=hD bx;have aX:=hD aC;obtain ⟨L,bk⟩:∃ L,ws.length=L:=⟨_,rfl⟩;rw [bk] at ax bj bK;have am:=hD bk;have bz:(1:Int)≤(L:Int):=(by omega);obtain ⟨sa,b5⟩:∃ sa,(if L=1 then some (⟨w.heap.size+1,0,none⟩:Addr) else (some (⟨w.heap.size+1,0,none⟩:Addr)).map (fun x=>x.add 1))=sa:=⟨_,rfl⟩;have ah:∀ W,(Instr.slice 44 (.slice (some ⟨w.heap.size+1,0,none⟩) L L) (some (.int .i64 1)) none none).run prog W = .ok (.slice sa (L - 1) (L - 1)) W:=fun W=>(by rw [run_slice_l W 44 (some ⟨w.heap.size+1,0,none⟩) L L (by kernel_rfl) .i64 1 (by omega) bz];have h1:(sizeOf (prog.elem 44)).run prog W = .ok 1 W:=(by kernel_rfl);rw [h1];rw [← b5];rfl);have bD:=hD b5;clear hG hs bQ bl bx aC bk b5;go_enter func95,ntmps95;go_upto_block 0 with (go_at_call 101;refine ax.out.mono ?_;rintro e w1 ⟨rfl,bN,aP,bR,bq⟩;have bZ:=hD bN;have bT:=hD aP;have cg:=hD bR;have bW:=hD bq;have bI:=bq 0 (by omega);rw [bY.out] at bI;clear bN aP bR bq)
 have aO:Blk (w1.alloc (.cells #[.string hd,.string ⟨#[]⟩,.slice none 0 0] 169)) w1.heap.size #[.string hd,.string ⟨#[]⟩,.slice none 0 0] 169:=Blk.new _ _ _;have aq:Keep (fun _=>False) w1 (w1.alloc (.cells #[.string hd,.string ⟨#[]⟩,.slice none 0 0] 169)):=(Keep.refl _ _).alloc _;obtain ⟨w2,b7⟩:∃ w2,w2=w1.alloc (.cells #[.string hd,.string ⟨#[]⟩,.slice none 0 0] 169):=⟨_,rfl⟩;rw [← b7] at aO aq;rw [← b7];have cz:=cg.out;have X:=hD (bT.out.keep aq (fun h=>h));have aW:Hid (∀ j,j < L→w2.cell? ⟨w.heap.size+1,j,none⟩=some (.string (ws.getD j ByteArray.empty))):=hD fun j hj=>(aq.cell (p:=⟨w.heap.size+1,j,none⟩) (show w.heap.size+1 < w1.heap.size by omega) (fun h=>h)).trans (bW.out j hj);have ai:=hD (bZ.out.trans aq n3);obtain ⟨cb,br⟩:∃ cb,w1.heap.size=cb:=⟨_,rfl⟩;rw [br] at aO;rw [br];have Y:=hD (show cb=w.heap.size+2 by omega);have aw:=hD aO;have bf:Hid (Rd w2 1 (.slice (some ⟨w.heap.size+1,0,none⟩) L L) L (strCells ws)):=hD ⟨by rw [u_m,am.out];omega,x_p _,.inr ⟨w.heap.size+1,0,L,rfl,Nat.le_refl _,by unfold maxLen;omega,fun j u hu=>by have hj:j < ws.length:=(by have:=(List.getElem?_eq_some_iff.1 hu).1;rwa [u_m] at this);rw [y_c ws j hj] at hu;cases hu;rw [Nat.zero_add];exact aW.out j (by rw [← am.out];exact hj)⟩⟩;clear b7 cz bI aO aq br;go_cut [6,7] (RCut w cb hd ws)
 case first=>
  have an:Hid (refParts ws=none→readR s=none):=hD fun h=>(by rw [HR.out,h]);have ak:Hid (refParts ws=_):=hD (by unfold refParts;rw [aX.out,am.out]);obtain ⟨b0,b1,b2,a0,a1,a2,f1,f2,g0,g1,g2⟩:=y_s aw.out X.out;by_cases h1:hd.data.toList=[116,97,107,101]
  ·have c1:=z_a _ _ h1;by_cases h3:L=3
   ·have b3:((L:Int) != 3)=false:=(by rw [h3];rfl);have aN:1 < L:=(by omega);have ci:(1:Int) < (L:Int):=(by omega);have bi:(2:Int)≤(L:Int):=(by omega);have cx:=aW.out 1 aN;obtain ⟨x,hx⟩:∃ x,ws.getD 1 ByteArray.empty=x:=⟨_,rfl⟩;rw [hx] at cx;have av:ws.getD 1 (bs [])=x:=hx;have aA:x∈ws:=(by rw [← hx];simp [List.getD,List.getElem?_eq_getElem (show 1 < ws.length by rw [am.out];exact aN)]);have ay:=hD (spice_any (w:=w2) (s:=x) (by have:=bF.out x aA;omega));cases aG:(decide (1≤x.size) && isSpiceB x)
    ·rw [aG] at ay;have A:Hid (refParts ws=none):=hD (by rw [ak.out,if_pos h1,av,if_neg (fun h=>by have:=h.2;unfold spiceOk at this;rw [aG] at this;cases this)]);clear h1 h3 hx av aA aG ah;go_wp2_with (go_at_call 132;refine ay.out.mono ?_;rintro e w3 ⟨rfl,C⟩;obtain ⟨b0,b1,b2,a0,a1,a2,f1,f2,g0,g1,g2⟩:=y_s (aw.out.keep C (fun h=>h)) (X.out.keep C (fun h=>h));have U:=hD C;clear C)
     (try simp only [Exit.inBlock,Exit.then]);refine y_p (X.out.keep U.out (fun h=>h)) rfl rfl rfl rfl fun wf G=>?_;exact u_n (an.out A.out) ((ai.out.trans U.out n3).trans G (fun k hk e=>by omega))
    ·rw [aG] at ay;have A:Hid (refParts ws=some (x,ws.drop 2,1)):=hD (by rw [ak.out,if_pos h1,av,if_pos ⟨h3,aG⟩]);obtain ⟨sb,au⟩:∃ sb,(if L=2 then some (⟨w.heap.size+1,0,none⟩:Addr) else (some (⟨w.heap.size+1,0,none⟩:Addr)).map (fun x=>x.add 2))=sb:=⟨_,rfl⟩;have b6:∀ W,(Instr.slice 44 (.slice (some ⟨w.heap.size+1,0,none⟩) L L) (some (.int .i64 2)) none none).run prog W = .ok (.slice sb (L - 2) (L - 2)) W:=fun W=>(by rw [run_slice_l W 44 (some ⟨w.heap.size+1,0,none⟩) L L (by kernel_rfl) .i64 2 (by omega) bi];have h1:(sizeOf (prog.elem 44)).run prog W = .ok 1 W:=(by kernel_rfl);rw [h1,← au];rfl);have M:Hid (Rd w2 1 (.slice sb (L - 2) (L - 2)) (L - 2) (strCells (ws.drop 2))):=hD (by rw [← au,← u_b];exact bf.out.dropN 2 (by omega));have aj:Hid (∀ b,(Value.slice sb (L - 2) (L - 2)).ownBlock=some b→b=w.heap.size+1):=hD fun b hb=>(by rw [← au] at hb;exact own_drop hb);have aB:w.heap.size+1 < w2.heap.size:=World.block_lt_of_cell? w2 _ cx;have a6:Hid (∀ W,Keep (fun k=>k=cb) w2 W→W.cell? ⟨w.heap.size+1,1,none⟩=some (.string x)):=hD fun W hk=>(hk.cell (p:=⟨w.heap.size+1,1,none⟩) aB (by have:=Y.out;show ¬ w.heap.size+1=cb;omega)).trans cx;clear h1 h3 hx av aA aG ah au aB;go_upto_region 11 with (go_at_call 132;refine ay.out.mono ?_;rintro e w3 ⟨rfl,C⟩;obtain ⟨b0,b1,b2,a0,a1,a2,f1,f2,g0,g1,g2⟩:=y_s (aw.out.keep C (fun h=>h)) (X.out.keep C (fun h=>h));have U:=hD C;have a6:=hD (fun W (hk:Keep (fun k=>k=cb) w3 W)=>a6.out W ((C.mono (fun _ _ h=>h.elim)).trans hk n3));clear C)
     refine wp_region_held_drew (S:=fun W=>W.cell? ⟨w.heap.size+1,1,none⟩=some (.string x)) (by kernel_rfl) (a6.out _ (Keep.refl _ _).drew) fun hHeld=>?_;refine wS 0 ?_;refine wS 1 ?_;refine wS 2 ?_;refine wS 3 ?_;refine wS 4 ?_;refine wS 5 ?_;refine wA 6 fun K hK=>?_;go_simp;refine hK.out _ _ ?_ fun hHeld=>?_
     ·(refine a6.out _ ?_;exact kW)
     clear hK K;(try simp only [tA]);refine wS 7 ?_;refine wpAnyH_done (by kernel_rfl) ?_ _;go_wp2_with fail
     go_meet
     have aa:=U.out.drew;have J:¬ cb=w.heap.size:=(by have:=Y.out;omega);exact rcut_mk A.out (by rw [List.length_drop,am.out]) ((M.out.keep aa n3).keep ((Keep.refl (fun k=>k=cb) _).setCell _ _ (fun _=>rfl)) (fun b hb h=>by have h1:=aj.out b hb;have h2:=Y.out;have h3:b=cb:=h;omega)) aj.out ((aw.out.keep aa (fun h=>h)).set 1 (.string x)) ((X.out.keep aa (fun h=>h)).setOther ⟨cb,1,none⟩ _ (fun h=>J h.symm)) ((ai.out.trans aa n3).setCell _ _ (fun h=>by have:=Y.out;have h2:cb < w.heap.size:=h;omega))
   ·have b3:((L:Int) != 3)=true:=(by simp;omega);have A:Hid (refParts ws=none):=hD (by rw [ak.out,if_pos h1,if_neg (fun h=>h3 h.1)]);clear h1 h3 ah;go_wp2_with fail
    (try simp only [Exit.inBlock,Exit.then]);refine y_p X.out rfl rfl rfl rfl fun wf G=>?_;exact u_n (an.out A.out) (ai.out.trans G (fun k hk e=>by omega))
  have ae:¬ hd.data.toList=[116,97,107,101]:=h1;have c1:=x_u _ _ h1;by_cases h2:hd.data.toList=[116,101,115,116]
  ·have c2:=z_a _ _ h2;by_cases h3:L=3
   ·have b3:((L:Int) != 3)=false:=(by rw [h3];rfl);have aN:2 < L:=(by omega);have ci:(2:Int) < (L:Int):=(by omega);have bi:(2:Int)≤(L:Int):=(by omega);have cx:=aW.out 2 aN;obtain ⟨x,hx⟩:∃ x,ws.getD 2 ByteArray.empty=x:=⟨_,rfl⟩;rw [hx] at cx;have av:ws.getD 2 (bs [])=x:=hx;obtain ⟨sb,au⟩:∃ sb,(if L=1 then some (⟨w.heap.size+1,0,none⟩:Addr) else (some (⟨w.heap.size+1,0,none⟩:Addr)).map (fun x=>x.add 1))=sb:=⟨_,rfl⟩;have b6:∀ W,(Instr.slice 44 (.slice (some ⟨w.heap.size+1,0,none⟩) L L) (some (.int .i64 1)) (some (.int .i64 2)) none).run prog W = .ok (.slice sb 1 (L - 1)) W:=fun W=>(by rw [run_slice_lh W 44 (some ⟨w.heap.size+1,0,none⟩) L L (by kernel_rfl) .i64 .i64 1 2 (by omega) (by omega) bi];have h1:(sizeOf (prog.elem 44)).run prog W = .ok 1 W:=(by kernel_rfl);rw [h1,← au];rfl);have M:Hid (Rd w2 1 (.slice sb 1 (L - 1)) 1 (strCells ((ws.drop 1).take 1))):=hD (by rw [← au,← strCells_take,← u_b];exact (bf.out.dropN 1 (by omega)).takeN 1 (by omega));have aj:Hid (∀ b,(Value.slice sb 1 (L - 1)).ownBlock=some b→b=w.heap.size+1):=hD fun b hb=>(by rw [← au] at hb;exact own_drop hb);have aB:w.heap.size+1 < w2.heap.size:=World.block_lt_of_cell? w2 _ cx;have a6:Hid (∀ W,Keep (fun k=>k=cb) w2 W→W.cell? ⟨w.heap.size+1,2,none⟩=some (.string x)):=hD fun W hk=>(hk.cell (p:=⟨w.heap.size+1,2,none⟩) aB (by have:=Y.out;show ¬ w.heap.size+1=cb;omega)).trans cx;have bE:=hD (show ((ws.drop 1).take 1).length=1 by rw [List.length_take,List.length_drop,am.out,h3];rfl);by_cases hg:x=goodB
    ·have bu:(x.toList == [103,111,111,100])=true:=beq_iff_eq.2 ((x_n _ _).2 hg);have ck:(x.toList != [103,111,111,100])=false:=(by rw [bne,bu];rfl);have cn:(x.toList=[103,111,111,100])=True:=eq_true ((x_n _ _).2 hg);have A:Hid (refParts ws=some (x,(ws.drop 1).take 1,1)):=hD (by rw [ak.out,if_neg ae,if_pos h2,av,if_pos ⟨h3,.inl hg⟩]);clear h1 ae h2 h3 hx av ah au aB hg;go_upto_region 16 with fail
     refine wp_region_held_drew (S:=fun W=>W.cell? ⟨w.heap.size+1,2,none⟩=some (.string x)) (by kernel_rfl) (a6.out _ (Keep.refl _ _).drew) fun hHeld=>?_;refine wS 0 ?_;refine wS 1 ?_;refine wS 2 ?_;refine wS 3 ?_;refine wS 4 ?_;refine wS 5 ?_;refine wA 6 fun K hK=>?_;go_simp;refine hK.out _ _ ?_ fun hHeld=>?_
     ·(refine a6.out _ ?_;exact kW)
     clear hK K;(try simp only [tA]);refine wS 7 ?_;refine wpAnyH_done (by kernel_rfl) ?_ _;go_wp2_with fail
     go_meet
     have aa:=(Keep.refl kF w2).drew;have J:¬ cb=w.heap.size:=(by have:=Y.out;omega);exact rcut_mk A.out bE.out ((M.out.keep aa n3).keep ((Keep.refl (fun k=>k=cb) _).setCell _ _ (fun _=>rfl)) (fun b hb h=>by have h1:=aj.out b hb;have h2:=Y.out;have h3:b=cb:=h;omega)) aj.out ((aw.out.keep aa (fun h=>h)).set 1 (.string x)) ((X.out.keep aa (fun h=>h)).setOther ⟨cb,1,none⟩ _ (fun h=>J h.symm)) ((ai.out.trans aa n3).setCell _ _ (fun h=>by have:=Y.out;have h2:cb < w.heap.size:=h;omega))
    ·have bu:(x.toList == [103,111,111,100])=false:=beq_eq_false_iff_ne.2 (fun h=>hg ((x_n _ _).1 h));have ck:(x.toList != [103,111,111,100])=true:=(by rw [bne,bu];rfl);have cn:(x.toList=[103,111,111,100])=False:=eq_false (fun h=>hg ((x_n _ _).1 h));by_cases hb:x=badBs
     ·have b4:(x.toList == [98,97,100])=true:=beq_iff_eq.2 ((x_n _ _).2 hb);have cu:(x.toList != [98,97,100])=false:=(by rw [bne,b4];rfl);have cv:(x.toList=[98,97,100])=True:=eq_true ((x_n _ _).2 hb);have A:Hid (refParts ws=some (x,(ws.drop 1).take 1,1)):=hD (by rw [ak.out,if_neg ae,if_pos h2,av,if_pos ⟨h3,.inr hb⟩]);clear h1 ae h2 h3 hx av ah au aB hg hb;go_upto_region 16 with fail
      refine wp_region_held_drew (S:=fun W=>W.cell? ⟨w.heap.size+1,2,none⟩=some (.string x)) (by kernel_rfl) (a6.out _ (Keep.refl _ _).drew) fun hHeld=>?_;refine wS 0 ?_;refine wS 1 ?_;refine wS 2 ?_;refine wS 3 ?_;refine wS 4 ?_;refine wS 5 ?_;refine wA 6 fun K hK=>?_;go_simp;refine hK.out _ _ ?_ fun hHeld=>?_
      ·(refine a6.out _ ?_;exact kW)
      clear hK K;(try simp only [tA]);refine wS 7 ?_;refine wpAnyH_done (by kernel_rfl) ?_ _;go_wp2_with fail
      go_meet
      have aa:=(Keep.refl kF w2).drew;have J:¬ cb=w.heap.size:=(by have:=Y.out;omega);exact rcut_mk A.out bE.out ((M.out.keep aa n3).keep ((Keep.refl (fun k=>k=cb) _).setCell _ _ (fun _=>rfl)) (fun b hb h=>by have h1:=aj.out b hb;have h2:=Y.out;have h3:b=cb:=h;omega)) aj.out ((aw.out.keep aa (fun h=>h)).set 1 (.string x)) ((X.out.keep aa (fun h=>h)).setOther ⟨cb,1,none⟩ _ (fun h=>J h.symm)) ((ai.out.trans aa n3).setCell _ _ (fun h=>by have:=Y.out;have h2:cb < w.heap.size:=h;omega))
     ·have b4:(x.toList == [98,97,100])=false:=beq_eq_false_iff_ne.2 (fun h=>hb ((x_n _ _).1 h));have cu:(x.toList != [98,97,100])=true:=(by rw [bne,b4];rfl);have cv:(x.toList=[98,97,100])=False:=eq_false (fun h=>hb ((x_n _ _).1 h));have A:Hid (refParts ws=none):=hD (by rw [ak.out,if_neg ae,if_pos h2,av,if_neg (fun h=>h.2.elim hg hb)]);clear h1 ae h2 h3 hx av ah au aB hg hb;go_wp2_with fail
      (try simp only [Exit.inBlock,Exit.then]);refine y_p X.out rfl rfl rfl rfl fun wf G=>?_;exact u_n (an.out A.out) (ai.out.trans G (fun k hk e=>by omega))
   ·have b3:((L:Int) != 3)=true:=(by simp;omega);have A:Hid (refParts ws=none):=hD (by rw [ak.out,if_neg ae,if_pos h2,if_neg (fun h=>h3 h.1)]);clear h1 ae h2 h3 ah;go_wp2_with fail
    (try simp only [Exit.inBlock,Exit.then]);refine y_p X.out rfl rfl rfl rfl fun wf G=>?_;exact u_n (an.out A.out) (ai.out.trans G (fun k hk e=>by omega))
  have c2:=x_u _ _ h2;have M:Hid (Rd w2 1 (.slice sa (L - 1) (L - 1)) (L - 1) (strCells (ws.drop 1))):=hD (by rw [← bD.out,← u_b];exact bf.out.dropN 1 (by omega));have aj:Hid (∀ b,(Value.slice sa (L - 1) (L - 1)).ownBlock=some b→b=w.heap.size+1):=hD fun b hb=>(by rw [← bD.out] at hb;exact own_drop hb);by_cases h3:hd.data.toList=[98,108,101,110,100]
  ·have c3:=z_a _ _ h3;have A:Hid (refParts ws=some (bs [],ws.drop 1,3)):=hD (by rw [ak.out,if_neg h1,if_neg h2,if_pos h3]);clear h1 h2 h3 ae ah;go_wp2_with fail
   go_meet
   exact rcut_mk A.out (by rw [List.length_drop,am.out]) M.out aj.out aw.out X.out ai.out
  have c3:=x_u _ _ h3;by_cases h4:hd.data.toList=[112,117,116]
  ·have c4:=z_a _ _ h4;have A:Hid (refParts ws=some (bs [],ws.drop 1,2)):=hD (by rw [ak.out,if_neg h1,if_neg h2,if_neg h3,if_pos h4]);clear h1 h2 h3 h4 ae ah;go_wp2_with fail
   go_meet
   exact rcut_mk A.out (by rw [List.length_drop,am.out]) M.out aj.out aw.out X.out ai.out
  have c4:=x_u _ _ h4;by_cases h5:hd.data.toList=[116,111,117,99,104]
  ·have c5:=z_a _ _ h5;have A:Hid (refParts ws=some (bs [],ws.drop 1,2)):=hD (by rw [ak.out,if_neg h1,if_neg h2,if_neg h3,if_neg h4,if_pos h5]);clear h1 h2 h3 h4 h5 ae ah;go_wp2_with fail
   go_meet
   exact rcut_mk A.out (by rw [List.length_drop,am.out]) M.out aj.out aw.out X.out ai.out
  have c5:=x_u _ _ h5;by_cases h6:hd.data.toList=[99,108,111,115,101]
  ·have c6:=z_a _ _ h6;have A:Hid (refParts ws=some (bs [],ws.drop 1,1)):=hD (by rw [ak.out,if_neg h1,if_neg h2,if_neg h3,if_neg h4,if_neg h5,if_pos h6]);clear h1 h2 h3 h4 h5 h6 ae ah;go_wp2_with fail
   go_meet
   exact rcut_mk A.out (by rw [List.length_drop,am.out]) M.out aj.out aw.out X.out ai.out
  have c6:=x_u _ _ h6;have A:Hid (refParts ws=none):=hD (by rw [ak.out,if_neg h1,if_neg h2,if_neg h3,if_neg h4,if_neg h5,if_neg h6]);clear h1 h2 h3 h4 h5 h6 ae ah;go_wp2_with fail
  (try simp only [Exit.inBlock,Exit.then]);refine y_p X.out rfl rfl rfl rfl fun wf G=>?_;exact u_n (an.out A.out) (ai.out.trans G (fun k hk e=>by omega))
 case rest=>
  obtain ⟨nm,nums,aM,ao,c8,hp,rfl,rfl,aF,ho,hb,bM,hk⟩:=hcut;have aT:=refParts_small hp;rw [hp] at HR;have HP:=hD hp;have bg:=hD aF;have cf:=hD ho;have HB:=hD hb;have ad:=hD bM;have HK:=hD hk;have cB:nums.length≤1048577:=(by have h1:=aT.2.1;have h2:=am.out;omega);have cd:=hD (fun x (hx:x∈nums)=>bF.out x (aT.2.2 x hx));have cA:=aT.1;have O:=hD (aV.out _ hk);clear hp aF ho hb bM hk aT ah;have bO:=Y.out;have bX:=hD bO;clear bO;cases hl:isLineB s
  ·rw [hl] at O;have an:Hid (readR s=none):=hD (by rw [HR.out];simp [hl]);clear hl;go_wp2_with (go_at_call 133;refine O.out.mono ?_;rintro e w3 ⟨rfl,C⟩;obtain ⟨b0,b1,b2,a0,a1,a2,f1,f2,g0,g1,g2⟩:=y_s (HB.out.keep C (fun h=>h)) (ad.out.keep C (fun h=>h));have U:=hD C;clear C)
   (try simp only [Exit.inBlock,Exit.then]);refine y_p (ad.out.keep U.out (fun h=>h)) rfl rfl rfl rfl fun wf G=>?_;exact u_n an.out ((HK.out.trans U.out n3).trans G (fun k hk e=>by omega))
  ·rw [hl] at O;by_cases hn:nums.length=aM
   ·subst hn;have bB:Hid (readR s=if nums.all numOk=true then some (hd,nm,nums.map atoiN) else none):=hD (by rw [HR.out];simp [hl]);have bP:((nums.length:Int) != (nums.length:Int))=false:=(by simp);clear hl;go_upto_block 1 with (go_at_call 133;refine O.out.mono ?_;rintro e w3 ⟨rfl,C⟩;have U:=hD C;clear C)
    clear bP;have ba:=hD (World.ownsRow_nil w3 w3.heap.size 3 1);have bU:=hD (HB.out.keep U.out (fun h=>h));have c7:=U.out.size;have cy:=HK.out.size;have bp:=ad.out.lt;have bt:=HB.out.lt;have HZ:=hD (show w.heap.size < w3.heap.size∧cb < w3.heap.size∧w.heap.size≤w3.heap.size from ⟨by omega,by omega,by omega⟩);clear c7 cy bp bt;go_wp2_with fail
    go_loopg [85] nums.length (fun gh s85 W=>∃ k:Nat,gh=nums.length - k∧k≤nums.length∧s85 = .int .i64 (k:Nat)∧(nums.take k).all numOk=true∧RLp w3 cb hd nm ((nums.take k).map atoiN) W)
    case atStart=>exact ⟨0,rfl,Nat.zero_le _,rfl,rfl,.slice none 0 0,ba.out,bU.out,Keep.refl _ _⟩
    case round=>
     obtain ⟨k,rfl,hk,rfl,a7,vn,ag,aQ,aD⟩:=hrel;have ar:((nums.take k).map atoiN).length=k:=(by rw [List.length_map,List.length_take];omega);rw [ar] at ag;have aH:=hD a7;have R:=hD ag;have aI:=hD aQ;have b9:=hD aD;have aY:=hD ar;have aK:Keep kF w wr:=((HK.out.trans U.out n3).mono (fun _ _ h=>h.elim)).trans aD (fun b h1 h2=>by have:=Y.out;omega);have bA:=hD aK;have J:¬ w.heap.size=cb:=(by have:=Y.out;omega);have ac:=hD ((ad.out.keep U.out (fun h=>h)).keep aD J);obtain ⟨vo,vc,cw,_⟩:=x_a ag;subst cw;by_cases aS:k < nums.length
     ·have cp:((k:Int) < (nums.length:Int))=True:=(by simp;omega);have aF:=(bg.out.keep U.out n3).keep aD (fun b hb h=>by have h1:=cf.out b hb;have h2:=Y.out;omega)
      obtain ⟨b,o,cj,aJ⟩:∃ b o,ao=some ⟨b,o,none⟩∧wr.cell? ⟨b,o+k,none⟩=some (.string (nums.getD k ByteArray.empty)):=by
       rcases aF.2.2 with ⟨h,h'⟩ | ⟨b,o,c,h,_,_,hx⟩
       ·omega
       ·injection h with h1 h2 h3;exact ⟨b,o,h1,hx _ _ (y_c nums k aS)⟩
      subst cj;have aA:nums.getD k ByteArray.empty∈nums:=(by simp [List.getD,List.getElem?_eq_getElem aS]);have aU:nums.take (k+1)=nums.take k++[nums.getD k ByteArray.empty]:=(by rw [List.take_add_one,List.getElem?_eq_getElem aS];simp [List.getD,List.getElem?_eq_getElem aS]);have b8:=cd.out _ aA;have bG:Hid (nums.all numOk=true→numOk (nums.getD k ByteArray.empty)=true):=hD fun h=>List.all_eq_true.1 h _ aA;obtain ⟨x,hx⟩:∃ x,nums.getD k ByteArray.empty=x:=⟨_,rfl⟩;rw [hx] at aJ aU b8 bG;have bH:=hD aU;have al:=hD (decimal_any (HG.out.keep aK) (s:=x) (by omega));unfold DecPost at al;cases aE:decOk x.data.toList
      ·rw [aE] at al;have an:Hid (readR s=none):=hD (by rw [bB.out,if_neg (fun h=>by have:=bG.out h;unfold numOk at this;rw [aE] at this;cases this)]);clear aE hx aU aA aF a7 ag aQ aD aK J ar b8;go_wp2_with (go_at_call 134;refine al.out.mono ?_;rintro e w5 ⟨rfl,a8⟩;simp only [Bool.false_eq_true,if_false];obtain ⟨b0,b1,b2,a0,a1,a2,f1,f2,g0,g1,g2⟩:=y_s (aI.out.keep a8 (fun h=>h)) (ac.out.keep a8 (fun h=>h));have az:=hD a8;clear a8)
       (try simp only [Exit.inBlock,Exit.then]);refine y_p (ac.out.keep az.out (fun h=>h)) rfl rfl rfl rfl fun wf G=>?_;exact u_n an.out ((bA.out.trans az.out n3).trans G (fun k hk e=>by omega))
      ·rw [aE] at al;have ce:=hD aE;clear aE hx aU aA aF a7 ag aQ aD aK J ar b8
       go_wp2_with (first
         | (go_at_call 134;refine al.out.mono ?_;rintro e w5 ⟨rfl,a8⟩;simp only [if_true];obtain ⟨b0,b1,b2,a0,a1,a2,f1,f2,g0,g1,g2⟩:=y_s (aI.out.keep a8 (fun h=>h)) (ac.out.keep a8 (fun h=>h));have az:=hD a8;clear a8)
         | (at_builtin;refine x_h (w:=w5.alloc (.cells #[.int .i64 (atoiN x)] 3)) rfl (.tmp 98) (.tmp 100) 34 34 rfl 3 (.int .i64 0) 1 8 underlying34 info3' rfl ((x_b R.out az.out n3).alloc _) rfl (Src.new (P:=prog) underlying34 w5 1 [.int .i64 (atoiN x)] 3 rfl (by simp [Value.oneCell'])) rfl ?aP ?hb2 ?hb3 ?hgo))
       case aP=>first | omega | (simp;omega) | (unfold maxLen;omega) | (unfold maxLen;simp;omega)
       case hb2=>first | omega | (simp;omega) | (unfold maxLen;omega) | (unfold maxLen;simp;omega)
       case hb3=>have z2:=az.out.size;have z4:=b9.out.size;simp;omega
       case hgo=>
       intro v' w7 Z;obtain ⟨ch,bh,rfl,_⟩:=x_a Z.own;have bn:=((aI.out.keep az.out (fun h=>h)).alloc (.cells #[.int .i64 (atoiN x)] 3)).keep Z.keep (fun e=>by have h1:=(x_d R.out _ e).1;have h2:=HZ.out;omega);have bJ:=((ac.out.keep az.out (fun h=>h)).alloc (.cells #[.int .i64 (atoiN x)] 3)).keep Z.keep (fun e=>by have h1:=(x_d R.out _ e).1;have h2:=HZ.out;omega)
       have aL:∀ b,(Value.slice ch (k+1) bh).ownBlock=some b→b≠cb:=fun b hb e=>by
        rcases Z.fresh with h1 | ⟨g,h1,h2⟩
        ·have h3:=(x_d R.out b (h1 ▸ hb)).1;have h4:=HZ.out;omega
        ·have h5:g=b:=Option.some.inj (h1.symm.trans hb);have z1:=aI.out.lt;have z2:=az.out.size;rw [World.size_alloc] at h2;omega
       have G:Keep (fun b=>b=cb) w3 w7:=((b9.out.trans az.out (fun _ _ h=>h.elim)).alloc _).trans Z.keep (fun g hg e=>by have h3:=x_d R.out g e;omega);obtain ⟨b0,b1,b2,a0,a1,a2,f1,f2,g0,g1,g2⟩:=y_s bn bJ;have bV:=hD bn;have aZ:=hD aL;have ca:=hD G;have bS:=hD Z.own;clear bn bJ aL G Z;go_wp2_with fail
       go_roundg (nums.length - (k+1))
       case measure=>omega
       case rel=>
        refine ⟨k+1,rfl,by omega,by go_num,by rw [bH.out,List.all_append,aH.out];simp [numOk,ce.out],?_⟩;have cr:((nums.take (k+1)).map atoiN)=(nums.take k).map atoiN++[atoiN x]:=(by rw [bH.out,List.map_append];rfl);rw [cr];refine ⟨_,?_,bV.out.set 2 _,ca.out.setCell _ _ (fun _=>rfl)⟩;have h3:((nums.take k).map atoiN++[atoiN x]).length=k+1:=(by rw [List.length_append,aY.out];rfl);rw [h3];have h4:icells ((nums.take k).map atoiN++[atoiN x])=icells ((nums.take k).map atoiN)++[.int .i64 (atoiN x)]:=(by simp [icells]);rw [h4];have bL:=bS.out;(try rw [← List.map_take] at bL);exact x_e bL ⟨cb,2,none⟩ _ (fun e=>aZ.out cb e rfl)
     ·have cq:k=nums.length:=(by omega);subst cq;have cp:((nums.length:Int) < (nums.length:Int))=False:=(by simp);have bC:Hid (readR s=some (hd,nm,nums.map atoiN)):=hD (by rw [bB.out,if_pos (by rw [← aH.out,List.take_length])]);obtain ⟨b0,b1,b2,a0,a1,a2,f1,f2,g0,g1,g2⟩:=y_s aI.out ac.out;clear a7 ag aQ aD aK J ar;go_wp2_with fail
      (try simp only [Exit.inBlock,Exit.then]);refine y_p ac.out rfl rfl rfl rfl fun wf G=>?_;refine ⟨bA.out.trans G (fun k hk e=>by omega),fun h=>(by rw [bC.out] at h;cases h),fun wd nm' ns h=>?_⟩;rw [bC.out] at h;cases h;rw [List.take_length] at R;refine ⟨_,rfl,?_⟩;rw [List.length_map];exact (x_g R.out (x_l _)).keep G (fun b hb e=>by have h1:=(x_d R.out b hb).1;have h2:=HZ.out;omega)
   ·have bP:((nums.length:Int) != (aM:Int))=true:=(by simp;omega);have an:Hid (readR s=none):=hD (by rw [HR.out];simp only;rw [if_neg (fun h=>hn h.2.1)]);clear hl hn;go_wp2_with (go_at_call 133;refine O.out.mono ?_;rintro e w3 ⟨rfl,C⟩;obtain ⟨b0,b1,b2,a0,a1,a2,f1,f2,g0,g1,g2⟩:=y_s (HB.out.keep C (fun h=>h)) (ad.out.keep C (fun h=>h));have U:=hD C;clear C)
    (try simp only [Exit.inBlock,Exit.then]);refine y_p (ad.out.keep U.out (fun h=>h)) rfl rfl rfl rfl fun wf G=>?_;exact u_n an.out ((HK.out.trans U.out n3).trans G (fun k hk e=>by omega))
end Go.Proofs.YthdkamnclbfehaaGreatDoor
