/- A part of the proof. -/
import Derived.Test.YthdkamnclbfehaaGreatDoorDaysM14
import Derived.Test.YthdkamnclbfehaaGreatDoorDaysM17
import Derived.Sort.OwnSortedInts
set_option linter.all false
set_option maxHeartbeats 20000000
set_option maxRecDepth 100000
namespace Go.Proofs.YthdkamnclbfehaaGreatDoor
open Go.RowKit Tryz
theorem rd_int {w:World} {v:Value} {l:List Int} (h:Rd w 1 v l.length (icells l)) {j:Nat} (hj:j < l.length):∃ g o c,v = .slice (some ⟨g,o,none⟩) l.length c∧w.cell? ⟨g,o+j,none⟩=some (.int .i64 (l.getD j 0)):=by
 rcases h.2.2 with ⟨_,h0⟩ | ⟨b,o,A,rfl,_,_,hx⟩
 ·omega
 ·exact ⟨b,o,A,rfl,hx j _ (y_f l j hj)⟩
def sortI (zs:List Int):List Int:=zs.mergeSort fun x y=>decide (x≤y)
theorem z_n (zs:List Int):(sortI zs).length=zs.length:=List.length_mergeSort _
theorem sort_own {w:World} {base:Nat} {v:Value} {zs:List Int} (h:w.ownsRow base 3 1 v zs.length (icells zs)) (hl:zs.length < 4611686018427387904):Calls prog 143 #[v] w (fun e w'=>e = .returned (.tuple #[])∧w'.ownsRow base 3 1 v zs.length (icells (sortI zs))∧Keep (fun k=>v.ownBlock=some k) w w'):=by
 rcases h.2 with ⟨rfl,h0⟩ | ⟨g,G,cur,rfl,hb,C,R,J,M,A⟩
 ·have hz:zs=[]:=List.eq_nil_of_length_eq_zero h0;subst hz;refine (Tryz.slices_Sort_int_none none 0 w).mono ?_;rintro e w' ⟨rfl,rfl⟩;have e0:sortI []=[]:=(by simp [sortI]);rw [e0];exact ⟨rfl,World.ownsRow_nil _ _ _ _,Keep.refl _ _⟩
 ·have ht:cur.toList.take zs.length=zs.map (Value.int .i64):=(by rw [Nat.mul_one] at A;exact A);have O:g < w.heap.size:=(Array.getElem?_eq_some_iff.1 C).1;refine (Tryz.slices_Sort_int g 0 G zs w (holds_of_blockI C ht) O hl).mono ?_;rintro e w' ⟨rfl,n,os,rfl⟩;exact ⟨rfl,ownsRow_sortedI (z_n zs) hb C R J M,Keep.grown (grownBy_sortedI _)⟩
theorem compact_len (zs:List Int):(Lib.compact zs).length≤zs.length:=by
 unfold Lib.compact Lib.compactUpTo;rw [List.length_map];exact Nat.le_trans (List.length_filter_le _ _) (by simp)
theorem compact_own {w:World} {base:Nat} {v:Value} {zs:List Int} (h:w.ownsRow base 3 1 v zs.length (icells zs)) (hl:zs.length≤9223372036854775807):Calls prog 144 #[v] w (fun e w'=>∃ v',e = .returned v'∧w'.ownsRow base 3 1 v' (Lib.compact zs).length (icells (Lib.compact zs))∧Keep (fun k=>v.ownBlock=some k) w w'):=by
 rcases h.2 with ⟨rfl,h0⟩ | ⟨g,M,cur,rfl,hb,G,J,O,R,A⟩
 ·have hz:zs=[]:=List.eq_nil_of_length_eq_zero h0;subst hz;refine (Tryz.slices_Compact_int_empty none 0 w).mono ?_;rintro e w' ⟨rfl,rfl⟩;exact ⟨_,rfl,World.ownsRow_nil _ _ _ _,Keep.refl _ _⟩
 ·have ht:cur.toList.take zs.length=zs.map (Value.int .i64):=(by rw [Nat.mul_one] at A;exact A);have hc:=compact_len zs;refine (Tryz.slices_Compact_int g 0 M zs w (holds_of_blockI G ht) hl J).mono ?_;rintro e w' ⟨rfl,q,rfl⟩;have C:=ownsRow_sortedI (w:=w) (n:=q) (os:=#[]) (ss:=zs) (ts:=Lib.compact zs++List.replicate (zs.length - (Lib.compact zs).length) 0) (by simp;omega) hb G J O R;rw [Sort.grow_empty] at C;have h2:=u_o C (Lib.compact zs).length hc;have e1:((Lib.compact zs++List.replicate (zs.length - (Lib.compact zs).length) 0).map (Value.int .i64)).take ((Lib.compact zs).length * 1)=icells (Lib.compact zs):=(by rw [Nat.mul_one,List.map_append,List.take_append_of_le_length (by simp),List.take_of_length_le (by simp)];rfl);rw [e1] at h2;have hg:=grownBy_sortedI (w:=w) (g:=g) (n:=q) (os:=#[]) (Lib.compact zs++List.replicate (zs.length - (Lib.compact zs).length) 0).toArray;rw [Sort.grow_empty] at hg;exact ⟨_,rfl,h2,Keep.grown hg⟩
theorem cut_word (s:ByteArray):(⟨(Lib.cut s.data.toList [32]).1.toArray⟩:ByteArray)=(words s).headD (bs []):=by
 rcases Lib.indexB_cases s ⟨#[32]⟩ with A | ⟨i,A,hr⟩
 ·have h:=(Lib.cutB_miss s ⟨#[32]⟩ A).1;rw [words,Lib.splitB_miss _ _ _ _ A];exact h
 ·have h:=(Lib.cutB_hit s ⟨#[32]⟩ i A).1;have hc:Lib.countB s ⟨#[32]⟩=Lib.countB (s.extract (i+1) s.size) ⟨#[32]⟩+1:=(by rw [Lib.countB_hit s ⟨#[32]⟩ i (by decide) A,Nat.add_comm];rfl);rw [words,hc,Lib.splitB_hit _ _ _ _ i A];exact h
def cntN (so:List UInt8):Nat:=(so.filter fun c=>!(decide (c=115) || decide (c=116))).length
theorem foldF_n:∀ (so:List UInt8) (ws:List ByteArray) (a:FA),ws.length=so.length→((so.zip ws).foldl stepF a).n.length=a.n.length+cntN so
  | [],_,a,_=>by simp [cntN]
  | c::so,[],a,h=>by simp at h
  | c::so,x::ws,a,h=>by
    have ih:=foldF_n so ws (stepF a (c,x)) (by simpa using h)
    rw [List.zip_cons_cons,List.foldl_cons,ih]
    unfold stepF cntN
    by_cases h1:c=115
    · simp [h1]
    · by_cases h2:c=116
      · simp [h1,h2]
      · simp [h1,h2];omega
theorem ch_n {l so:List UInt8} {f:Nat} (h:chF l=some (so,f)):cntN so≤3∧(l=[98,108,101,110,100]→2≤cntN so)∧(l=[112,117,116]→1≤cntN so):=by
 unfold chF at h;repeat' split at h
 all_goals cases h
 all_goals subst_vars
 all_goals decide
theorem form_n {s:ByteArray} {so:List UInt8} {f:Nat} {a:FA} (h:formF s=some (so,f,a)):isLineB s=true∧a.n.length≤3∧((words s).headD (bs [])=bs [98,108,101,110,100]→2≤a.n.length)∧((words s).headD (bs [])=bs [112,117,116]→1≤a.n.length):=by
 unfold formF at h;split at h
 ·rename_i C;split at h
  ·rename_i G f' hc;split at h
   ·rename_i A;cases h;have hn:=foldF_n so (words s).tail ⟨[],bs [],true⟩ (by rw [List.length_tail];exact A);obtain ⟨h1,h2,h3⟩:=ch_n hc;have e:(foldF so (words s).tail).n.length=cntN so:=(by unfold foldF;rw [hn];simp);rw [e];exact ⟨C,h1,fun q=>h2 (by rw [q];rfl),fun q=>h3 (by rw [q];rfl)⟩
   ·cases h
  ·cases h
 ·cases h
def itemOf (i:Int):Int:=2+Int.tmod i 4
def touchL (wd:ByteArray) (n:List Int):List Int:=
  if wd=bs [116,97,107,101] then [0]
  else if wd=bs [98,108,101,110,100] then 0::(n.take 2).map itemOf
  else if wd=bs [112,117,116] then 1::(n.take 1).map itemOf
  else n.map itemOf
def touchB (s:ByteArray) (a:FA):List Int:=Lib.compact (sortI (touchL ((words s).headD (bs [])) a.n))
theorem tmod4 (i:Int) : -4 < Int.tmod i 4∧Int.tmod i 4 < 4:=⟨Int.lt_tmod_of_pos i (by decide),Int.tmod_lt_of_pos i (by decide)⟩
def TouchesPost (w:World) (l:List Int) (e:Ending) (w':World):Prop:=∃ v,e = .returned v∧w'.ownsRow w.heap.size 3 1 v l.length (icells l)∧Keep kF w w'
def SwRel (w3:World) (L:List Int) (s9 s10:Value) (wx:World):Prop:=
  ∃ (ls hd:List Int),L=hd++ls.map itemOf∧ls.length≤3∧hd.length≤1∧Rd w3 1 s9 ls.length (icells ls)∧wx.ownsRow w3.heap.size 3 1 s10 hd.length (icells hd)∧Keep kF w3 wx
theorem touches_any {w:World} {s:ByteArray} {so:List UInt8} {f:Nat} {a:FA} (hG:Glob w) (hs:s.size≤9223372036854775807) (hf:formF s=some (so,f,a)):Calls prog 104 #[.string s] w (TouchesPost w (touchB s a)):=by
 have C:=form_any hG hs;unfold FormPost at C;rw [hf] at C;dsimp only at C;obtain ⟨ae,aE,ar,aq⟩:=form_n hf;have aX:s.size≤200:=(by unfold isLineB at ae;simp at ae;exact ae.1);have am:=cut_word s;obtain ⟨wd,ax⟩:∃ wd,(words s).headD (bs [])=wd:=⟨_,rfl⟩;rw [ax] at am ar aq;have HT:Hid (touchB s a=Lib.compact (sortI (touchL wd a.n))):=hD (by unfold touchB;rw [ax]);have ay:=hD C;clear C;have R:Hid (∀ w1,Keep kF w w1→Calls prog 66 #[.string s,.string ⟨#[32]⟩] w1 (fun e w'=>∃ t b,e = .returned (.tuple #[.string wd,.string t,.bool b])∧Keep kF w1 w')):=hD fun w1 hk=>(by obtain ⟨m,hm⟩:=(hG.keep hk).maxlen;refine (Tryz.strings_Cut s ⟨#[32]⟩ m w1 (by omega) hm).mono ?_;rintro e w' ⟨rfl,n,rfl⟩;have e0:(⟨(Lib.cut s.data.toList ((⟨#[32]⟩:ByteArray).data.toList)).1.toArray⟩:ByteArray)=wd:=am;rw [e0];exact ⟨_,_,rfl,(Keep.refl _ _).drewN n⟩);have aL:=hD aE;have aK:=hD ar;have aJ:=hD aq;clear ax am ae hG hf hs aX aE ar aq;go_enter func104,ntmps104
 go_upto_block 0 with (first
    | (go_at_call 71;refine ay.out.mono ?_;rintro e w1 ⟨vn,rfl,au,aA⟩;obtain ⟨ao,J,rfl,Y,_,aa,_⟩:=x_a au;have O:=hD Y;have U:=hD aa;clear Y aa;have a7:=hD au;clear au;have az:=hD aA;clear aA)
    | (go_at_call 66;refine Calls.mono (R.out _ ((az.out.alloc _).alloc _)) ?_;rintro e w3 ⟨t,b,rfl,an⟩;have X:=(Blk.new (w1.alloc (.cells #[.string (bs so),.func (.func f) #[] #[]] 132)) #[.slice ao a.n.length J,.string a.word] 134).keep an (fun h=>h);rw [World.size_alloc] at X;have d0:=X.cell 0;simp at d0;have a1:=hD an;clear an X))
 have a6:Hid (Keep (fun _=>False) w w3):=hD (((az.out.alloc _).alloc _).trans a1.out n3);have ai:Hid (w3.ownsRow w.heap.size 3 1 (.slice ao a.n.length J) a.n.length (icells a.n)):=hD ((((x_b a7.out ((Keep.refl (fun _=>False) w1).alloc _) n3) |> fun h=>x_b h ((Keep.refl (fun _=>False) _).alloc _) n3) |> fun h=>x_b h a1.out n3));clear a7 ay R;have bf:Hid (w3.cell? ⟨w1.heap.size+1,0,none⟩=some (.slice ao a.n.length J)):=hD d0;go_cut [9,10] from 28 to 48 (fun s9 s10 wx=>SwRel w3 (touchL wd a.n) s9 s10 wx)
 case first=>
  by_cases q1:wd=bs [116,97,107,101]
  ·have HL:Hid (touchL wd a.n=[0]):=hD (by unfold touchL;rw [if_pos q1]);have z1:(wd.toList == [116,97,107,101])=true:=beq_iff_eq.2 ((x_n _ _).2 q1);clear q1;go_wp2_with (at_builtin;refine x_h (w:=w3.alloc (.cells #[.int .i64 0] 3)) rfl (.tmp 30) (.tmp 31) 34 34 rfl 3 (.int .i64 0) 1 8 underlying34 v_h rfl (World.ownsRow_nil _ w3.heap.size 3 1) rfl (Src.new (P:=prog) underlying34 w3 1 [.int .i64 0] 3 rfl (by simp [Value.oneCell'])) rfl (by unfold maxLen;omega) (by omega) (by simp) ?_;intro v' wa A;have HA:=hD A;clear A)
   go_meet
   exact ⟨[],[0],by rw [HL.out];rfl,by simp,by simp,Rd.nil _ _,HA.out.own,((Keep.refl _ _).alloc _).trans HA.out.keep (fun k _ e=>by cases e)⟩
  ·have z1:(wd.toList == [116,97,107,101])=false:=beq_eq_false_iff_ne.2 (fun h=>q1 ((x_n _ _).1 h));by_cases q2:wd=bs [98,108,101,110,100]
   ·have HL:Hid (touchL wd a.n=0::(a.n.take 2).map itemOf):=hD (by unfold touchL;rw [if_neg q1,if_pos q2]);have h2:=aK.out q2;have hc:=O.out;rcases ao with _ | ⟨ab,ak,al⟩
    ·have:=U.out rfl;omega
    have hR:=x_g (u_o ai.out 2 h2) (fun u hu=>x_l _ u (List.mem_of_mem_take hu));have eT:(icells a.n).take (2 * 1)=icells (a.n.take 2):=(by unfold icells;rw [List.map_take]);rw [eT] at hR;have e2:(a.n.take 2).length=2:=(by rw [List.length_take];omega);have aj:Hid (Rd w3 1 (.slice (some ⟨ab,ak,al⟩) 2 J) (a.n.take 2).length (icells (a.n.take 2))):=hD (by rw [e2];exact hR);have ag:=hD e2;have aU:2≤J:=(by omega);clear hR eT e2 h2 hc;have z2:(wd.toList == [98,108,101,110,100])=true:=beq_iff_eq.2 ((x_n _ _).2 q2);clear q1 q2;go_wp2_with (at_builtin;refine x_h (w:=w3.alloc (.cells #[.int .i64 0] 3)) rfl (.tmp 38) (.tmp 39) 34 34 rfl 3 (.int .i64 0) 1 8 underlying34 v_h rfl (World.ownsRow_nil _ w3.heap.size 3 1) rfl (Src.new (P:=prog) underlying34 w3 1 [.int .i64 0] 3 rfl (by simp [Value.oneCell'])) rfl (by unfold maxLen;omega) (by omega) (by simp) ?_;intro v' wa A;have HA:=hD A;clear A)
    go_meet
    exact ⟨a.n.take 2,[0],by rw [HL.out];rfl,by rw [ag.out];omega,by simp,aj.out,HA.out.own,((Keep.refl _ _).alloc _).trans HA.out.keep (fun k _ e=>by cases e)⟩
   ·have z2:(wd.toList == [98,108,101,110,100])=false:=beq_eq_false_iff_ne.2 (fun h=>q2 ((x_n _ _).1 h));by_cases q3:wd=bs [112,117,116]
    ·have HL:Hid (touchL wd a.n=1::(a.n.take 1).map itemOf):=hD (by unfold touchL;rw [if_neg q1,if_neg q2,if_pos q3]);have h2:=aJ.out q3;have hc:=O.out;rcases ao with _ | ⟨ab,ak,al⟩
     ·have:=U.out rfl;omega
     have hR:=x_g (u_o ai.out 1 h2) (fun u hu=>x_l _ u (List.mem_of_mem_take hu));have eT:(icells a.n).take (1 * 1)=icells (a.n.take 1):=(by unfold icells;rw [List.map_take]);rw [eT] at hR;have e2:(a.n.take 1).length=1:=(by rw [List.length_take];omega);have aj:Hid (Rd w3 1 (.slice (some ⟨ab,ak,al⟩) 1 J) (a.n.take 1).length (icells (a.n.take 1))):=hD (by rw [e2];exact hR);have ag:=hD e2;have aU:1≤J:=(by omega);clear hR eT e2 h2 hc;have z3:(wd.toList == [112,117,116])=true:=beq_iff_eq.2 ((x_n _ _).2 q3);clear q1 q2 q3;go_wp2_with (at_builtin;refine x_h (w:=w3.alloc (.cells #[.int .i64 1] 3)) rfl (.tmp 46) (.tmp 47) 34 34 rfl 3 (.int .i64 0) 1 8 underlying34 v_h rfl (World.ownsRow_nil _ w3.heap.size 3 1) rfl (Src.new (P:=prog) underlying34 w3 1 [.int .i64 1] 3 rfl (by simp [Value.oneCell'])) rfl (by unfold maxLen;omega) (by omega) (by simp) ?_;intro v' wa A;have HA:=hD A;clear A)
     go_meet
     exact ⟨a.n.take 1,[1],by rw [HL.out];rfl,by rw [ag.out];omega,by simp,aj.out,HA.out.own,((Keep.refl _ _).alloc _).trans HA.out.keep (fun k _ e=>by cases e)⟩
    ·have z3:(wd.toList == [112,117,116])=false:=beq_eq_false_iff_ne.2 (fun h=>q3 ((x_n _ _).1 h));have HL:Hid (touchL wd a.n=a.n.map itemOf):=hD (by unfold touchL;rw [if_neg q1,if_neg q2,if_neg q3]);clear q1 q2 q3;go_wp2_with fail
     go_meet
     exact ⟨a.n,[],by rw [HL.out];rfl,aL.out,by simp,x_g ai.out (x_l _),World.ownsRow_nil _ _ _ _,Keep.refl _ _⟩
 case rest=>
  obtain ⟨ls,hd,hL,bk,a8,aw,G,hk⟩:=hcut;obtain ⟨bg,aQ,rfl,_⟩:=aw.shape;have HL:=hD hL;have aP:=hD aw;have aN:=hD G;have aH:=hD hk;have aG:=hD a8;clear hL aw G hk a8 d0;go_wp2_with fail
  go_loopw [51,10] (fun v51 v10 wr=>∃ (j:Nat) (out:List Int),j≤ls.length∧v51 = .int .i64 j∧out=hd++(ls.take j).map itemOf∧wr.ownsRow w3.heap.size 3 1 v10 out.length (icells out)∧Keep (fun _=>False) w3 wr) (fun v _ _=>ls.length - (intOf v).toNat)
  case atStart=>
   exact ⟨0,hd,Nat.zero_le _,rfl,by simp,aN.out,aH.out⟩
  case round=>
   obtain ⟨j,out,hj,rfl,M,G,hk⟩:=hrel;obtain ⟨bh,aS,rfl,_⟩:=x_a G;have aW:out.length≤4:=(by rw [M];have:=aG.out;simp;omega);have HO:=hD G;have HK:=hD hk;have W:=hD M;have bp:=HK.out.size;clear G hk M;by_cases ad:j < ls.length
   ·obtain ⟨g,o,c,aZ,Z⟩:=rd_int (aP.out.keep HK.out n3) ad;injection aZ with e1 e2 e3;subst e1;obtain ⟨x,hx⟩:∃ x,ls.getD j 0=x:=⟨_,rfl⟩;rw [hx] at Z;have HX:=hD hx;clear hx e2 e3;have aV:((j:Int) < (ls.length:Int))=True:=eq_true (by omega);have bj:((0:Int)≤(j:Int))=True:=eq_true (by omega);have hw:IntKind.i64.wrap ((j:Int)+1)=((j+1:Nat):Int):=(by rw [show ((j:Int)+1)=((j+1:Nat):Int) by omega];exact IntWalk.i64_in _ (by omega));have aY:=tmod4 x;have bl:IntKind.i64.wrap (Int.tmod x 4)=Int.tmod x 4:=IntWalk.i64_in _ (by omega);have bn:IntKind.i64.wrap (2+Int.tmod x 4)=itemOf x:=(by unfold itemOf;exact IntWalk.i64_in _ (by omega));clear aY;have ac:=hD ad;clear ad;go_wp2_with (at_builtin;refine x_h (w:=wr.alloc (.cells #[.int .i64 (itemOf x)] 3)) rfl (.tmp 55) (.tmp 59) 34 34 rfl 3 (.int .i64 0) 1 8 underlying34 v_h rfl (HO.out.alloc _) rfl (Src.new (P:=prog) underlying34 wr 1 [.int .i64 (itemOf x)] 3 rfl (by simp [Value.oneCell'])) rfl ?hb1 ?X ?hb3 ?hgo)
    case hb1=>unfold maxLen;omega
    case X=>omega
    case hb3=>simp;omega
    case hgo=>
     intro v' wa A;have HA:=hD A;clear A;go_wp2_with fail
     go_roundw
     case rel=>
      refine ⟨j+1,out++[itemOf x],ac.out,rfl,?_,?_,?_⟩
      ·rw [W.out,List.take_succ_eq_append_getElem ac.out,List.map_append,List.append_assoc];have:=HX.out;simp only [List.getD,List.getElem?_eq_getElem ac.out,Option.getD_some] at this;simp [this]
      ·have:=HA.out.own;simpa [icells] using this
      ·refine (HK.out.alloc _).trans HA.out.keep fun k hk e=>?_;have:=(x_d HO.out k e).1;omega
     case measure=>have:=ac.out;simp [intOf];omega
   ·have aV:((j:Int) < (ls.length:Int))=False:=eq_false (by omega);have HJ:Hid (out=touchL wd a.n):=hD (by rw [W.out,HL.out,List.take_of_length_le (by omega)]);clear ad
    go_wp2_with (first
      | (go_at_call 143;refine (sort_own HO.out (by omega)).mono ?_;rintro e wS ⟨rfl,aF,aC⟩;have aM:=hD aF;have aI:=hD aC;clear aF aC)
      | (go_at_call 144;refine (compact_own (zs:=sortI out) (by rw [z_n];exact aM.out) (by rw [z_n];omega)).mono ?_;rintro e wC ⟨vC,rfl,av,aB⟩;obtain ⟨bi,aT,rfl,_⟩:=x_a av;have aO:=hD av;have ah:=hD aB;clear av aB))
    go_ret;have aD:=x_d HO.out;have ba:=a6.out.size;refine ⟨_,rfl,?_,?_⟩
    ·rw [HT.out,← HJ.out];exact x_i aO.out (Nat.le_trans ba (Nat.le_refl _))
    ·refine ((a6.out.trans HK.out n3).trans aI.out (fun k hk e=>?_)).trans ah.out fun k hk e=>?_
     ·have:=(aD k e).1;omega
     ·have:=(aD k e).1;omega
abbrev CallR:=Int × ByteArray
def callC (c:CallR):List Value:=[.int .i64 c.1,.string c.2]
def callsC (l:List CallR):List Value:=l.flatMap callC
theorem callsC_at:∀ (l:List CallR) {j:Nat} {p:CallR},l[j]?=some p→(callsC l)[2 * j]?=some (.int .i64 p.1)∧(callsC l)[2 * j+1]?=some (.string p.2)
  | [],j,p,h=>by simp at h
  | a::l,0,p,h=>by
    simp at h;subst h
    exact ⟨rfl,rfl⟩
  | a::l,j+1,p,h=>by
    have ih:=callsC_at l (j:=j) (p:=p) (by simpa using h)
    have e:callsC (a::l) = .int .i64 a.1 :: .string a.2::callsC l:=rfl
    rw [e,show 2 * (j+1)=2 * j+1+1 by omega]
    simpa using ih
theorem rd_call {w:World} {v:Value} {l:List CallR} (h:Rd w 2 v l.length (callsC l)) {j:Nat} (hj:j < l.length):∃ g o cap p,v = .slice (some ⟨g,o,none⟩) l.length cap∧l[j]?=some p∧w.cell? ⟨g,o+j * 2,none⟩=some (.int .i64 p.1)∧w.cell? ⟨g,o+j * 2+1,none⟩=some (.string p.2):=by
 obtain ⟨p,hp⟩:∃ p,l[j]?=some p:=⟨_,List.getElem?_eq_getElem hj⟩;obtain ⟨h1,h2⟩:=callsC_at l hp;rcases h.2.2 with ⟨_,h0⟩ | ⟨g,o,cap,rfl,_,_,hx⟩
 ·omega
 ·refine ⟨g,o,cap,p,rfl,hp,?_,?_⟩
  ·rw [Nat.mul_comm j 2];exact hx _ _ h1
  ·rw [Nat.mul_comm j 2,Nat.add_assoc];exact hx _ _ h2
theorem info129:(prog.info? 129).map (fun i=>(i.zero,i.size,i.bytes))=some (some (.agg #[.int .i64 0,.string ⟨#[]⟩]),2,24):=by kernel_rfl
def CallsPost (w:World) (l:List CallR) (e:Ending) (w':World):Prop:=∃ v,e = .returned v∧w'.ownsRow w.heap.size 129 2 v l.length (callsC l)∧Keep kF w w'
theorem calls_any {w:World} {v:Value} {l:List CallR} (hr:Rd w 2 v l.length (callsC l)) (hl:l.length≤9223372036854775806):Calls prog 37 #[v] w (CallsPost w (l.take 14)):=by
 obtain ⟨ao,Z,rfl,_⟩:=hr.shape;have HR:=hD hr;clear hr;go_enter func37,ntmps37;go_wp2_with fail
 go_loopw [8,3] (fun v8 v3 wr=>∃ j:Nat,j≤l.length∧j≤14∧v8 = .int .i64 j∧wr.ownsRow w.heap.size 129 2 v3 j (callsC (l.take j))∧Keep (fun _=>False) w wr) (fun v _ _=>l.length - (intOf v).toNat)
 case atStart=>
  exact ⟨0,Nat.zero_le _,Nat.zero_le _,rfl,World.ownsRow_nil _ _ _ _,Keep.refl _ _⟩
 case round=>
  obtain ⟨j,hj,M,rfl,A,hk⟩:=hrel;obtain ⟨Y,O,rfl,_⟩:=x_a A;have HO:=hD A;have HK:=hD hk;have ac:=hk.size;clear A hk;by_cases J:j < l.length
  ·obtain ⟨g,o,c,p,X,hp,e0,e1⟩:=rd_call (HR.out.keep HK.out n3) J;obtain ⟨x,y⟩:=p;injection X with h1 h2 h3;subst h1;have W:((j:Int) < (l.length:Int))=True:=eq_true (by omega);have aa:((0:Int)≤(j:Int))=True:=eq_true (by omega);have HP:=hD hp;have C:=hD J;clear h2 h3 J hp;by_cases U:j≤13
   ·have hd:decide ((13:Int) < (j:Int))=false:=decide_eq_false (by omega);have hw:IntKind.i64.wrap ((j:Int)+1)=((j+1:Nat):Int):=(by rw [show ((j:Int)+1)=((j+1:Nat):Int) by omega];exact IntWalk.i64_in _ (by omega));go_wp2_with (at_builtin;refine x_h (w:=(wr.alloc (.cells #[.int .i64 x,.string y] 84)).alloc (.cells #[.int .i64 x,.string y] 129)) rfl (.tmp 15) (.tmp 21) 80 80 rfl 129 (.agg #[.int .i64 0,.string ⟨#[]⟩]) 2 24 underlying80 info129 rfl ((HO.out.alloc _).alloc _) rfl (Src.new (P:=prog) underlying80 (wr.alloc (.cells #[.int .i64 x,.string y] 84)) 1 [.int .i64 x,.string y] 129 rfl (by simp [Value.oneCell'])) (by rw [World.size_alloc];rfl) (by unfold maxLen;omega) (by omega) (by simp;omega) ?_;intro v' wa G;have HA:=hD G;clear G)
    ·skip;go_roundw
     case rel=>
      refine ⟨j+1,C.out,by omega,rfl,?_,?_⟩
      ·have hq:=HA.out.own;have e:callsC (l.take (j+1))=callsC (l.take j)++[.int .i64 x,.string y]:=(by have hp:=HP.out;rw [List.getElem?_eq_getElem C.out] at hp;rw [List.take_succ_eq_append_getElem C.out,Option.some.inj hp];simp [callsC,callC]);rw [e];exact hq
      ·refine ((HK.out.alloc _).alloc _).trans HA.out.keep fun k hk e=>?_;have:=(x_d HO.out k e).1;omega
     case measure=>have:=C.out;simp [intOf];omega
   ·have hd:decide ((13:Int) < (j:Int))=true:=decide_eq_true (by omega);have R:Hid (j=14):=hD (by omega);clear U;go_wp2_with fail
    go_ret;have ej:=R.out;subst ej;have hq:=HO.out.alloc (.cells #[.int .i64 x,.string y] 84);refine ⟨_,rfl,?_,HK.out.alloc _⟩;have e:(l.take 14).length=14:=(by have:=C.out;rw [List.length_take];omega);rw [e];exact hq
  ·have W:((j:Int) < (l.length:Int))=False:=eq_false (by omega);have EJ:Hid (j=l.length):=hD (by omega);clear J;go_wp2_with fail
   go_ret;have ej:=EJ.out;subst ej;refine ⟨_,rfl,?_,HK.out⟩;have hq:=HO.out;rw [List.take_of_length_le (Nat.le_refl _)] at hq;rw [List.take_of_length_le M];exact hq
def c0:CallR:=(0,bs [])
theorem any_idxs (l:List CallR) (q:CallR→Bool):((idxs l.length).any fun i=>q (l.getD i.toNat c0))=l.any q:=by
 have e:(idxs l.length).map (fun i=>l.getD i.toNat c0)=l:=by
  apply List.ext_getElem
  ·simp [idxs]
  ·intro i h1 h2;simp [idxs,List.getD,h2]
 conv=>rhs;rw [← e,List.any_map]
 rfl
def PredC (w:World) (F:Nat) (capt:Array Value) (l:List CallR) (q:CallR→Bool):Prop:=
  ∀ w1,Keep kF w w1→∀ c∈l,Calls prog F (#[.agg #[.int .i64 c.1,.string c.2]]++capt) w1 fun e w2=>e = .returned (.bool (q c))∧Keep kF w1 w2
theorem idxC_any {w:World} {v:Value} {l:List CallR} {F:Nat} {capt:Array Value} {q:CallR→Bool} (hv:Rd w 2 v l.length (callsC l)) (hF:Enters F) (hp:PredC w F capt l q) (hl:l.length < 9223372036854775807):Calls prog 99 #[v,.func (.func F) #[] capt] w (IdxPost w (.int .i64 (findI (fun i=>q (l.getD i.toNat c0)) (idxs l.length)))):=by
 obtain ⟨ao,ac,aa,hn,hm,Z⟩:=hv.shape;subst aa;have HV:=hD hv;clear hv;have HP:=hD hp;clear hp;clear Z;have eF:∀ (args:Array Value) (w:World),(callFunc F args).run prog w = .ok (.enter F args) w:=hF;clear hF;go_enter func99,ntmps99;go_wp2
 go_loopw [8] (fun i wr=>∃ k:Nat,k≤l.length∧i = .int .i64 k∧Keep (fun _=>False) w wr∧∀ j,j < k→q (l.getD j c0)=false) (fun i _=>l.length - (intOf i).toNat)
 case atStart=>exact ⟨0,Nat.zero_le _,rfl,Keep.refl _ _,fun j h=>by omega⟩
 case round=>
  obtain ⟨k,hk,rfl,A,h0⟩:=hrel;have HK:=hD A;clear A;have H0:=hD h0;clear h0;by_cases J:k < l.length
  ·have M:=HV.out.keep HK.out n3;obtain ⟨b,o,lk,X,G,R,C⟩:∃ b o lk,ao=some ⟨b,o,none⟩∧l[k]?=some lk∧wr.cell? ⟨b,o+k * 2,none⟩=some (.int .i64 lk.1)∧wr.cell? ⟨b,o+k * 2+1,none⟩=some (.string lk.2):=(by obtain ⟨b,o,c,p,h,hp,h1,h2⟩:=rd_call M J;cases h;exact ⟨b,o,p,rfl,hp,h1,h2⟩);subst X;have HR:=hD M;clear M;have HC:=hD (HP.out wr HK.out lk (List.mem_of_getElem? G));have HG:Hid (l.getD k c0=lk):=hD (by simp [List.getD,G]);clear G;obtain ⟨x,y⟩:=lk;cases W:q (x,y)
   all_goals
    have HX:=hD W;clear W;go_wp2
    refine HC.out.mono ?_;rintro e w2 ⟨he,U⟩;rw [HX.out] at he;subst he;have O:=hD (HK.out.trans U n3);clear U;go_wp2
   ·go_roundw
    case rel=>
     refine ⟨k+1,by omega,by go_num,O.out,fun j hj=>?_⟩;by_cases Y:j=k
     ·subst Y;rw [HG.out];exact HX.out
     ·exact H0.out j (by omega)
    case measure=>simp [intOf];omega
   ·go_ret;refine ⟨by rw [findI_at (j:=k) (by rw [idxs_len];exact J) (by rw [v_c _ _ J];show q (l.getD k c0)=true;rw [HG.out];exact HX.out) (fun i hi=>by rw [v_c _ _ (by omega)];exact H0.out i hi)];rfl,O.out⟩
  ·go_wp2
   go_ret;exact ⟨by rw [findI_none (fun i hi=>by rw [idxs_len] at hi;rw [v_c _ _ hi];exact H0.out i (by omega))];rfl,HK.out⟩
theorem contC_any {w:World} {v:Value} {l:List CallR} {F:Nat} {capt:Array Value} {q:CallR→Bool} (hv:Rd w 2 v l.length (callsC l)) (hF:Enters F) (hp:PredC w F capt l q) (hl:l.length < 9223372036854775807):Calls prog 69 #[v,.func (.func F) #[] capt] w (IdxPost w (.bool (l.any q))):=by
 have h:=hD (idxC_any hv hF hp hl)
 have hb:decide (0≤findI (fun i=>q (l.getD i.toNat c0)) (idxs l.length))=(idxs l.length).any fun i=>q (l.getD i.toNat c0):=by
  have:=findI_ge (p:=fun i=>q (l.getD i.toNat c0)) (l:=idxs l.length);cases A:(idxs l.length).any fun i=>q (l.getD i.toNat c0)
  ·rw [A] at this;simp at this;simp;omega
  ·rw [A] at this;simpa using this
 rw [any_idxs] at hb;have HB:=hD hb;clear hv hF hp hb;go_enter func69,ntmps69;go_wp2_with (go_at_call 99;refine h.out.mono ?_;rintro e w1 ⟨rfl,hk⟩;have HK:=hD hk;clear hk)
 go_ret;exact ⟨by rw [← HB.out];rfl,HK.out⟩
def okB (s:ByteArray):Bool:=match formF s with | none=>false | some (_,_,a)=>a.ok
def badCall (c:CallR):Bool:=decide (c.1 < 0) || (decide (3 < c.1) || (!okB c.2 && !decide (c.2=bs [101,110,100])))
theorem enters70:Enters 70:=enters_of func70 (by kernel_rfl) rfl
theorem bad_none {w1:World} {x:Int} {y:ByteArray} (hform:Calls prog 71 #[.string y] (w1.alloc (.cells #[.int .i64 x,.string y] 129)) (fun e w'=>e = .returned (.tuple #[.agg #[.string (bs []),.nilFunc],.agg #[.slice none 0 0,.string (bs [])],.bool false])∧Keep kF (w1.alloc (.cells #[.int .i64 x,.string y] 129)) w')):Calls prog 70 #[.agg #[.int .i64 x,.string y]] w1 (fun e w'=>e = .returned (.bool (decide (x < 0) || (decide (3 < x) || (!false && !(y.toList == [101,110,100])))))∧Keep kF w1 w'):=by
 have M:=hD hform;clear hform;by_cases t0:x < 0
 ·have u0:decide (x < 0)=true:=decide_eq_true t0;have HQ:Hid ((decide (x < 0) || (decide (3 < x) || (!false && !(y.toList == [101,110,100]))))=true):=hD (by rw [u0];rfl);clear t0;go_enter func70,ntmps70;go_wp2_with (go_at_call 71;refine M.out.mono ?_;rintro e w3 ⟨rfl,G⟩;have C:=(Blk.new w1 #[.int .i64 x,.string y] 129).keep G (fun h=>h);have d0:=C.cell 0;have d1:=C.cell 1;simp at d0 d1;have d2:∀ A B,((w3.alloc A).alloc B).cell? ⟨w1.heap.size,0,none⟩=some (.int .i64 x):=(fun A B=>((((Keep.refl kF w3).alloc A).alloc B).cell (p:=⟨w1.heap.size,0,none⟩) C.lt (fun e=>e)).trans d0);have d3:∀ A B,((w3.alloc A).alloc B).cell? ⟨w1.heap.size,1,none⟩=some (.string y):=(fun A B=>((((Keep.refl kF w3).alloc A).alloc B).cell (p:=⟨w1.heap.size,1,none⟩) C.lt (fun e=>e)).trans d1);have J:=hD G;clear G C)
  go_ret;exact ⟨by rw [HQ.out];rfl,((((Keep.refl _ _).alloc _).trans J.out n3).alloc _).alloc _⟩
 ·have u0:decide (x < 0)=false:=decide_eq_false t0;by_cases t1:3 < x
  ·have u1:decide (3 < x)=true:=decide_eq_true t1;have HQ:Hid ((decide (x < 0) || (decide (3 < x) || (!false && !(y.toList == [101,110,100]))))=true):=hD (by rw [u0,u1];rfl);clear t0 t1;go_enter func70,ntmps70;go_wp2_with (go_at_call 71;refine M.out.mono ?_;rintro e w3 ⟨rfl,G⟩;have C:=(Blk.new w1 #[.int .i64 x,.string y] 129).keep G (fun h=>h);have d0:=C.cell 0;have d1:=C.cell 1;simp at d0 d1;have d2:∀ A B,((w3.alloc A).alloc B).cell? ⟨w1.heap.size,0,none⟩=some (.int .i64 x):=(fun A B=>((((Keep.refl kF w3).alloc A).alloc B).cell (p:=⟨w1.heap.size,0,none⟩) C.lt (fun e=>e)).trans d0);have d3:∀ A B,((w3.alloc A).alloc B).cell? ⟨w1.heap.size,1,none⟩=some (.string y):=(fun A B=>((((Keep.refl kF w3).alloc A).alloc B).cell (p:=⟨w1.heap.size,1,none⟩) C.lt (fun e=>e)).trans d1);have J:=hD G;clear G C)
   go_ret;exact ⟨by rw [HQ.out];rfl,((((Keep.refl _ _).alloc _).trans J.out n3).alloc _).alloc _⟩
  ·have u1:decide (3 < x)=false:=decide_eq_false t1;obtain ⟨cb,O⟩:∃ cb,(y.toList == [101,110,100])=cb:=⟨_,rfl⟩;rcases cb with _ | _
   focus
    have HQ:Hid ((decide (x < 0) || (decide (3 < x) || (!false && !(y.toList == [101,110,100]))))=true):=hD (by rw [u0,u1,O];rfl)
   rotate_left
   focus
    have HQ:Hid ((decide (x < 0) || (decide (3 < x) || (!false && !(y.toList == [101,110,100]))))=false):=hD (by rw [u0,u1,O];rfl)
   rotate_left
   all_goals
    clear t0 t1;go_enter func70,ntmps70;go_wp2_with (go_at_call 71;refine M.out.mono ?_;rintro e w3 ⟨rfl,G⟩;have C:=(Blk.new w1 #[.int .i64 x,.string y] 129).keep G (fun h=>h);have d0:=C.cell 0;have d1:=C.cell 1;simp at d0 d1;have d2:∀ A B,((w3.alloc A).alloc B).cell? ⟨w1.heap.size,0,none⟩=some (.int .i64 x):=(fun A B=>((((Keep.refl kF w3).alloc A).alloc B).cell (p:=⟨w1.heap.size,0,none⟩) C.lt (fun e=>e)).trans d0);have d3:∀ A B,((w3.alloc A).alloc B).cell? ⟨w1.heap.size,1,none⟩=some (.string y):=(fun A B=>((((Keep.refl kF w3).alloc A).alloc B).cell (p:=⟨w1.heap.size,1,none⟩) C.lt (fun e=>e)).trans d1);have J:=hD G;clear G C)
    go_ret;exact ⟨by rw [HQ.out];rfl,((((Keep.refl _ _).alloc _).trans J.out n3).alloc _).alloc _⟩
theorem bad_some {w1:World} {x:Int} {y:ByteArray} {so:List UInt8} {f:Nat} {n:List Int} {wd:ByteArray} {ob:Bool} (hform:Calls prog 71 #[.string y] (w1.alloc (.cells #[.int .i64 x,.string y] 129)) (fun e w'=>∃ vn,e = .returned (.tuple #[.agg #[.string (bs so),.func (.func f) #[] #[]],.agg #[vn,.string wd],.bool ob])∧w'.ownsRow (w1.alloc (.cells #[.int .i64 x,.string y] 129)).heap.size 3 1 vn n.length (icells n)∧Keep kF (w1.alloc (.cells #[.int .i64 x,.string y] 129)) w')):Calls prog 70 #[.agg #[.int .i64 x,.string y]] w1 (fun e w'=>e = .returned (.bool (decide (x < 0) || (decide (3 < x) || (!ob && !(y.toList == [101,110,100])))))∧Keep kF w1 w'):=by
 have O:=hD hform;clear hform;by_cases t0:x < 0
 ·have u0:decide (x < 0)=true:=decide_eq_true t0;have HQ:Hid ((decide (x < 0) || (decide (3 < x) || (!ob && !(y.toList == [101,110,100]))))=true):=hD (by rw [u0];rfl);clear t0;go_enter func70,ntmps70;go_wp2_with (go_at_call 71;refine O.out.mono ?_;rintro e w3 ⟨vn,rfl,J,G⟩;obtain ⟨ao,R,rfl,_⟩:=x_a J;have C:=(Blk.new w1 #[.int .i64 x,.string y] 129).keep G (fun h=>h);have d0:=C.cell 0;have d1:=C.cell 1;simp at d0 d1;have d2:∀ A B,((w3.alloc A).alloc B).cell? ⟨w1.heap.size,0,none⟩=some (.int .i64 x):=(fun A B=>((((Keep.refl kF w3).alloc A).alloc B).cell (p:=⟨w1.heap.size,0,none⟩) C.lt (fun e=>e)).trans d0);have d3:∀ A B,((w3.alloc A).alloc B).cell? ⟨w1.heap.size,1,none⟩=some (.string y):=(fun A B=>((((Keep.refl kF w3).alloc A).alloc B).cell (p:=⟨w1.heap.size,1,none⟩) C.lt (fun e=>e)).trans d1);have M:=hD G;clear G C J)
  go_ret;exact ⟨by rw [HQ.out];rfl,((((Keep.refl _ _).alloc _).trans M.out n3).alloc _).alloc _⟩
 ·have u0:decide (x < 0)=false:=decide_eq_false t0;by_cases t1:3 < x
  ·have u1:decide (3 < x)=true:=decide_eq_true t1;have HQ:Hid ((decide (x < 0) || (decide (3 < x) || (!ob && !(y.toList == [101,110,100]))))=true):=hD (by rw [u0,u1];rfl);clear t0 t1;go_enter func70,ntmps70;go_wp2_with (go_at_call 71;refine O.out.mono ?_;rintro e w3 ⟨vn,rfl,J,G⟩;obtain ⟨ao,R,rfl,_⟩:=x_a J;have C:=(Blk.new w1 #[.int .i64 x,.string y] 129).keep G (fun h=>h);have d0:=C.cell 0;have d1:=C.cell 1;simp at d0 d1;have d2:∀ A B,((w3.alloc A).alloc B).cell? ⟨w1.heap.size,0,none⟩=some (.int .i64 x):=(fun A B=>((((Keep.refl kF w3).alloc A).alloc B).cell (p:=⟨w1.heap.size,0,none⟩) C.lt (fun e=>e)).trans d0);have d3:∀ A B,((w3.alloc A).alloc B).cell? ⟨w1.heap.size,1,none⟩=some (.string y):=(fun A B=>((((Keep.refl kF w3).alloc A).alloc B).cell (p:=⟨w1.heap.size,1,none⟩) C.lt (fun e=>e)).trans d1);have M:=hD G;clear G C J)
   go_ret;exact ⟨by rw [HQ.out];rfl,((((Keep.refl _ _).alloc _).trans M.out n3).alloc _).alloc _⟩
  ·have u1:decide (3 < x)=false:=decide_eq_false t1;cases ob
   ·obtain ⟨cb,U⟩:∃ cb,(y.toList == [101,110,100])=cb:=⟨_,rfl⟩;rcases cb with _ | _
    focus
     have HQ:Hid ((decide (x < 0) || (decide (3 < x) || (!false && !(y.toList == [101,110,100]))))=true):=hD (by rw [u0,u1,U];rfl)
    rotate_left
    focus
     have HQ:Hid ((decide (x < 0) || (decide (3 < x) || (!false && !(y.toList == [101,110,100]))))=false):=hD (by rw [u0,u1,U];rfl)
    rotate_left
    all_goals
     clear t0 t1;go_enter func70,ntmps70;go_wp2_with (go_at_call 71;refine O.out.mono ?_;rintro e w3 ⟨vn,rfl,J,G⟩;obtain ⟨ao,R,rfl,_⟩:=x_a J;have C:=(Blk.new w1 #[.int .i64 x,.string y] 129).keep G (fun h=>h);have d0:=C.cell 0;have d1:=C.cell 1;simp at d0 d1;have d2:∀ A B,((w3.alloc A).alloc B).cell? ⟨w1.heap.size,0,none⟩=some (.int .i64 x):=(fun A B=>((((Keep.refl kF w3).alloc A).alloc B).cell (p:=⟨w1.heap.size,0,none⟩) C.lt (fun e=>e)).trans d0);have d3:∀ A B,((w3.alloc A).alloc B).cell? ⟨w1.heap.size,1,none⟩=some (.string y):=(fun A B=>((((Keep.refl kF w3).alloc A).alloc B).cell (p:=⟨w1.heap.size,1,none⟩) C.lt (fun e=>e)).trans d1);have M:=hD G;clear G C J)
     go_ret;exact ⟨by rw [HQ.out];rfl,((((Keep.refl _ _).alloc _).trans M.out n3).alloc _).alloc _⟩
   ·have HQ:Hid ((decide (x < 0) || (decide (3 < x) || (!true && !(y.toList == [101,110,100]))))=false):=hD (by rw [u0,u1];rfl);clear t0 t1;go_enter func70,ntmps70;go_wp2_with (go_at_call 71;refine O.out.mono ?_;rintro e w3 ⟨vn,rfl,J,G⟩;obtain ⟨ao,R,rfl,_⟩:=x_a J;have C:=(Blk.new w1 #[.int .i64 x,.string y] 129).keep G (fun h=>h);have d0:=C.cell 0;have d1:=C.cell 1;simp at d0 d1;have d2:∀ A B,((w3.alloc A).alloc B).cell? ⟨w1.heap.size,0,none⟩=some (.int .i64 x):=(fun A B=>((((Keep.refl kF w3).alloc A).alloc B).cell (p:=⟨w1.heap.size,0,none⟩) C.lt (fun e=>e)).trans d0);have d3:∀ A B,((w3.alloc A).alloc B).cell? ⟨w1.heap.size,1,none⟩=some (.string y):=(fun A B=>((((Keep.refl kF w3).alloc A).alloc B).cell (p:=⟨w1.heap.size,1,none⟩) C.lt (fun e=>e)).trans d1);have M:=hD G;clear G C J)
    go_ret;exact ⟨by rw [HQ.out];rfl,((((Keep.refl _ _).alloc _).trans M.out n3).alloc _).alloc _⟩
theorem badCall_any {w:World} (hG:Glob w) (l:List CallR) (hl:∀ c∈l,c.2.size≤9223372036854775807):PredC w 70 #[] l badCall:=by
 rintro w1 hk ⟨x,y⟩ hm;have A:=form_any ((hG.keep hk).keep ((Keep.refl kF w1).alloc (.cells #[.int .i64 x,.string y] 129))) (hl _ hm);have hq:badCall (x,y)=(decide (x < 0) || (decide (3 < x) || (!okB y && !(y.toList == [101,110,100])))):=(by unfold badCall;dsimp only;rw [← beq_dec y (bs [101,110,100]),ByteArray.toList_eq (bs _)];rfl);show Calls prog 70 #[.agg #[.int .i64 x,.string y]] w1 _;rw [hq];unfold FormPost at A;cases hf:formF y with
 | none=>
  rw [hf] at A;have e:okB y=false:=(by unfold okB;rw [hf]);rw [e];exact bad_none A
 | some p=>
  obtain ⟨so,f,a⟩:=p;rw [hf] at A;have e:okB y=a.ok:=(by unfold okB;rw [hf]);rw [e];exact bad_some A
end Go.Proofs.YthdkamnclbfehaaGreatDoor
