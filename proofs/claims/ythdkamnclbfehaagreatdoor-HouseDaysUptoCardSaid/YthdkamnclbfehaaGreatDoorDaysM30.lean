/- A part of the proof. -/
import Derived.Test.YthdkamnclbfehaaGreatDoorDaysM11
import Derived.Test.YthdkamnclbfehaaGreatDoorDaysM17
import Derived.Deep.DeepCutAuto
import Derived.StillTailTactics
set_option linter.all false
set_option maxHeartbeats 20000000
set_option maxRecDepth 100000
namespace Go.Proofs.YthdkamnclbfehaaGreatDoor
open Go.RowKit Tryz
def HindP (x txn kind:Int) (f:Int→Option Value) (y:Int):Prop:=(x≠0∧x≠txn∧y=x)∨(kind=1∧(kI y).wf=true∧(f y).isSome=true∧y≠txn)
def HindPost (w:World) (x txn kind:Int) (f:Int→Option Value) (n:Nat) (e:Ending) (w':World):Prop:=
  ∃ v l,e = .returned v∧w'.ownsRow w.heap.size 3 1 v l.length (icells l)∧(∀ y,y∈l↔HindP x txn kind f y)∧l.length≤n+1∧Keep kF w w'
theorem hinders_some {w:World} {r b n k:Nat} {x txn kind:Int} {f:Int→Option Value} (hk:k < 6) (hm:w.cell? ⟨r,k,none⟩=some (.map (some b))) (hx:w.cell? ⟨r,6+k,none⟩=some (.int .i64 x)) (hf:MapAt w b n f) (hn:n≤1000):Calls prog 150 #[.pointer (some ⟨r,0,none⟩),.agg #[.int .i64 txn,.int .i64 kind,.int .i64 k]] w (HindPost w x txn kind f n):=by
 have bp:((k:Int) < 6)=True:=eq_true (by omega);have bn:((0:Int)≤(k:Int))=True:=eq_true (by omega);have hr:r < w.heap.size:=World.block_lt_of_cell? _ _ hm;have HF:=hD hf;clear hf;have HK:=hD hk;clear hk;go_enter func150,ntmps150;go_wp2_with fail
 obtain ⟨w1,al⟩:∃ w1,w1=w.alloc (.cells #[.int .i64 txn,.int .i64 kind,.int .i64 k] 146):=⟨_,rfl⟩;have am:Hid (Keep kF w w1):=hD (by rw [al];exact (Keep.refl _ _).alloc _);have M:Hid (Blk w1 w.heap.size #[.int .i64 txn,.int .i64 kind,.int .i64 k] 146):=hD (by rw [al];exact Blk.new _ _ _);have c0:w1.cell? ⟨w.heap.size,0,none⟩=some (.int .i64 txn):=M.out.cell 0;have c1:w1.cell? ⟨w.heap.size,1,none⟩=some (.int .i64 kind):=M.out.cell 1;have c2:w1.cell? ⟨w.heap.size,2,none⟩=some (.int .i64 k):=M.out.cell 2;have aY:w1.cell? ⟨r,k,none⟩=some (.map (some b)):=(am.out.cell (p:=⟨r,k,none⟩) hr (fun h=>h)).trans hm;have bg:w1.cell? ⟨r,6+k,none⟩=some (.int .i64 x):=(am.out.cell (p:=⟨r,6+k,none⟩) hr (fun h=>h)).trans hx;rw [← al];have HM:=hD hm;clear al hm hx;go_quiet (fail)
 go_upto_region 3 with fail
 go_cut [22] from 8 to 26 (fun s22 wx=>s22 = .bool (x != 0 && x != txn)∧Keep (fun _=>False) w1 wx)
 case first=>
  cases h0:(x != 0) with
  | false=>go_wp2_with fail;go_meet;exact ⟨by rw [h0];rfl,(Keep.refl _ _).drewN _⟩
  | true=>
   cases h1:(x != txn) with
   | false=>go_wp2_with fail;go_meet;exact ⟨by rw [h0,h1];rfl,(Keep.refl _ _).drewN _⟩
   | true=>go_wp2_with fail;go_meet;exact ⟨by rw [h0,h1];rfl,(Keep.refl _ _).drewN _⟩
 case rest=>
  obtain ⟨rfl,X⟩:=hcut;obtain ⟨w2,aG⟩:∃ w2,w2=wc:=⟨_,rfl⟩;rw [← aG] at X ⊢;clear aG;have d0:w2.cell? ⟨w.heap.size,0,none⟩=some (.int .i64 txn):=(M.out.keep X (fun h=>h)).cell 0;have d1:w2.cell? ⟨w.heap.size,1,none⟩=some (.int .i64 kind):=(M.out.keep X (fun h=>h)).cell 1;have d2:w2.cell? ⟨w.heap.size,2,none⟩=some (.int .i64 k):=(M.out.keep X (fun h=>h)).cell 2;have a6:=hD (M.out.keep X (fun h=>h));have ao:=hD (am.out.trans X n3);clear X;go_upto_if 22 with fail
  go_cut [5] from 8 to 26 (fun s5 wx=>∃ l:List Int,wx.ownsRow w.heap.size 3 1 s5 l.length (icells l)∧(∀ y,y∈l↔(x≠0∧x≠txn∧y=x))∧l.length≤1∧Keep (fun _=>False) w2 wx)
  case first=>
   cases hb:(x != 0 && x != txn)
   ·go_wp2_with fail
    go_meet
    refine ⟨[],World.ownsRow_nil _ _ _ _,fun y=>?_,by simp,Keep.refl _ _⟩;simp only [List.not_mem_nil,false_iff];rintro ⟨q1,q2,q3⟩;simp [q1,q2] at hb
   ·have aM:=hD hb;have bf:=ao.out.size;go_wp2_with (at_builtin;refine x_h (w:=w2.alloc (.cells #[.int .i64 x] 3)) rfl (.tmp 23) (.tmp 25) 34 34 rfl 3 (.int .i64 0) 1 8 underlying34 v_h rfl (World.ownsRow_nil _ w.heap.size 3 1) rfl (Src.new (P:=prog) underlying34 w2 1 [.int .i64 x] 3 rfl (by simp [Value.oneCell'])) rfl (by unfold maxLen;omega) (by omega) (Nat.le_trans bf ((Keep.refl kF w2).alloc (.cells #[.int .i64 x] 3)).size) (fun v' w7 happ=>?_))
    go_meet
    refine ⟨[x],by simpa [icells] using happ.own,fun y=>?_,by simp,((Keep.refl kF w2).alloc _).trans happ.keep (fun _ _ h=>by cases h)⟩;have aw:=aM.out;simp only [Bool.and_eq_true,bne_iff_ne] at aw;simp [aw.1,aw.2]
  case rest=>
   obtain ⟨l0,az,aB,br,O⟩:=hcut;obtain ⟨w3,aH⟩:∃ w3,w3=wc:=⟨_,rfl⟩;rw [← aH] at az O ⊢;clear aH;have aq:=hD (ao.out.trans O n3);have bh:=hD ((M.out.keep (Keep.refl kF _) (fun h=>h)));have e0:w3.cell? ⟨w.heap.size,0,none⟩=some (.int .i64 txn):=(O.cell (p:=⟨w.heap.size,0,none⟩) (World.block_lt_of_cell? _ _ d0) (fun h=>h)).trans d0;have e1:w3.cell? ⟨w.heap.size,1,none⟩=some (.int .i64 kind):=(O.cell (p:=⟨w.heap.size,1,none⟩) (World.block_lt_of_cell? _ _ d1) (fun h=>h)).trans d1;have e2:w3.cell? ⟨w.heap.size,2,none⟩=some (.int .i64 k):=(O.cell (p:=⟨w.heap.size,2,none⟩) (World.block_lt_of_cell? _ _ d2) (fun h=>h)).trans d2;have bq:w3.cell? ⟨r,k,none⟩=some (.map (some b)):=(aq.out.cell (p:=⟨r,k,none⟩) hr (fun h=>h)).trans HM.out;obtain ⟨w4,ah,ad,R,aW,ay,bu⟩:=((HF.out.keep aq.out (fun h=>h)).keep ((Keep.refl kF w3).drew) (fun h=>h)).range underlying194;have aT:=hD R;have ar:=hD (O.trans (((Keep.refl kF w3).drew).trans ay n3) n3);have aS:=hD (x_b az (((Keep.refl kF w3).drew).trans ay n3) n3);have aP:=hD aB;have av:=hD O.size;clear O ay R az aB c0 c1 c2 d0 d1 d2 aY bg;go_upto_region 5 with fail
   go_still_tail 7,(by kernel_rfl)
   change wpList _ _ _ _ _ w3.drew;go_wp2_with fail
   go_loopw [5] (fun v wr=>∃ (l:List Int) (left:Int→Bool) (ah:Nat),RangeAt wr b w3.heap.size n f left ah∧wr.ownsRow w.heap.size 3 1 v l.length (icells l)∧l.length+ah≤n+1∧(∀ y,y∈l↔(x≠0∧x≠txn∧y=x)∨(kind=1∧(kI y).wf=true∧(f y).isSome=true∧left y=false∧y≠txn))∧Keep (fun _=>False) w wr∧Blk wr w.heap.size #[.int .i64 txn,.int .i64 kind,.int .i64 k] 146) (fun _ wr=>wr.rangeLeft b w3.heap.size)
   case atStart=>
    refine ⟨l0,_,ah,aT.out,aS.out,by omega,fun y=>(aP.out y).trans ⟨fun h=>.inl h,fun h=>h.elim id ?_⟩,ao.out.trans ar.out n3,a6.out.keep ar.out (fun h=>h)⟩;rintro ⟨_,_,h1,h2,_⟩;rw [h1] at h2;cases h2
   case round=>
    obtain ⟨l,left,aV,R,J,aX,hl,ak,ax⟩:=hrel;have bl:w.heap.size≤w3.heap.size:=aq.out.size;have au:=hD J;have HL:=hD hl;have aO:=hD ak;obtain ⟨ov,oc,rfl,bt,_⟩:=x_a J;rcases R.next 0 with ⟨h0,aD,ad⟩ | ⟨y,v,w5,W,aI,aF,a8,ad,ac,aE,Z,ba,bk⟩
    ·have aQ:=hD aD;clear hl ak ax R aD J;go_wp2_with fail
     go_ret;refine ⟨_,l,rfl,au.out,fun y=>(HL.out y).trans ⟨fun h=>h.elim .inl (fun q=>.inr ⟨q.1,q.2.1,q.2.2.1,q.2.2.2.2⟩),fun h=>h.elim .inl (fun q=>.inr ⟨q.1,q.2.1,q.2.2.1,aQ.out y q.2.1,q.2.2.2⟩)⟩,by omega,aO.out⟩
    ·have aZ:w.heap.size≠w3.heap.size:=(by have:=a6.out.lt;have:=ar.out.size;have:=av.out;omega);have ai:=ax.keep Z aZ;have f0:=ai.cell 0;have f1:=ai.cell 1;simp at f0 f1;have Y:=hD ac;have bi:=hD Z;have U:=hD (x_b au.out Z (fun g hg e=>by obtain ⟨cur,fz,hc⟩:=x_j au.out hg;obtain ⟨D,lf,⟨es,a7,aL,seen,c0,hm,F,e2,e3,hr,_⟩,_⟩:=R;have e':g=w3.heap.size:=e;rw [e',hr] at hc;cases hc));have bj:=hD aF;have aN:=hD a8;have aU:=hD aI;have aa:=R.left_eq;have ag:=hD ai;have C:=hD (And.intro aa aE);have A:=hD (ak.trans Z (fun i hi e=>by have e':i=w3.heap.size:=e;omega));have a1:w.heap.size≤w5.heap.size:=A.out.size;clear hl ak ax R J ac Z ai aF a8 aI aa aE ba;cases aA:(kind == 1)
     ·go_wp2_with fail
      go_roundw
      case rel=>
       refine ⟨l,_,W,Y.out,U.out,by have:=C.out.2;omega,fun z=>(HL.out z).trans ?_,A.out,ag.out⟩;have aj:kind≠1:=(by simpa using aA);simp [aj]
      case measure=>rw [Y.out.left_eq,C.out.1];exact C.out.2
     ·have aj:kind=1:=(by simpa using aA);have an:=hD aj;clear aj;cases aJ:(y != txn)
      ·have ae:y=txn:=(by simpa using aJ);have HY:=hD ae;clear ae;go_wp2_with fail
       go_roundw
       case rel=>
        refine ⟨l,_,W,Y.out,U.out,by have:=C.out.2;omega,fun z=>(HL.out z).trans ?_,A.out,ag.out⟩;constructor
        ·rintro (h | ⟨q1,q2,q3,q4,q5⟩)
         ·exact .inl h
         ·exact .inr ⟨q1,q2,q3,by rw [q4];rfl,q5⟩
        ·rintro (h | ⟨q1,q2,q3,q4,q5⟩)
         ·exact .inl h
         ·refine .inr ⟨q1,q2,q3,?_,q5⟩;have:(z == y)=false:=(by rw [HY.out];simpa using q5);simpa [this] using q4
       case measure=>rw [Y.out.left_eq,C.out.1];exact C.out.2
      ·have ae:y≠txn:=(by simpa using aJ);have HY:=hD ae;clear ae;go_wp2_with (at_builtin;refine x_h (w:=w5.alloc (.cells #[.int .i64 y] 3)) rfl (.tmp 48) (.tmp 50) 34 34 rfl 3 (.int .i64 0) 1 8 underlying34 v_h rfl (U.out.alloc _) rfl (Src.new (P:=prog) underlying34 w5 1 [.int .i64 y] 3 rfl (by simp [Value.oneCell'])) rfl (by unfold maxLen;omega) (by omega) (Nat.le_trans a1 ((Keep.refl kF w5).alloc (.cells #[.int .i64 y] 3)).size) (fun v' w7 happ=>?_))
       have G:=((Keep.refl kF w5).alloc (.cells #[.int .i64 y] 3));go_roundw
       case rel=>
        have aC:=C.out.2;refine ⟨l++[y],_,W,(Y.out.keep G (fun h=>h) (fun h=>h)).keepRow (U.out.alloc _) happ.keep,by simpa [icells] using happ.own,by simp;omega,fun z=>?_,(A.out.trans G n3).trans happ.keep (fun i hi e=>by have:=(x_d U.out i e).1;omega),(ag.out.keep G (fun h=>h)).keep happ.keep (fun e=>x_c U.out ag.out (by decide) e)⟩;rw [List.mem_append,HL.out z];constructor
        ·rintro ((h | ⟨q1,q2,q3,q4,q5⟩) | h)
         ·exact .inl h
         ·exact .inr ⟨q1,q2,q3,by rw [q4];rfl,q5⟩
         ·have hz:z=y:=(by simpa using h);subst hz;exact .inr ⟨an.out,aU.out,by rw [aN.out];rfl,by simp,HY.out⟩
        ·rintro (h | ⟨q1,q2,q3,q4,q5⟩)
         ·exact .inl (.inl h)
         ·by_cases aK:z=y
          ·exact .inr (by simp [aK])
          ·refine .inl (.inr ⟨q1,q2,q3,?_,q5⟩);have:(z == y)=false:=(by simpa using aK);simpa [this] using q4
       case measure=>
        rw [((Y.out.keep G (fun h=>h) (fun h=>h)).keepRow (U.out.alloc _) happ.keep).left_eq,C.out.1];exact C.out.2
theorem hinders_nil {w:World} {r n k:Nat} {x txn kind:Int} (hk:k < 6) (hm:w.cell? ⟨r,k,none⟩=some (.map none)) (hx:w.cell? ⟨r,6+k,none⟩=some (.int .i64 x)):Calls prog 150 #[.pointer (some ⟨r,0,none⟩),.agg #[.int .i64 txn,.int .i64 kind,.int .i64 k]] w (HindPost w x txn kind (fun _=>none) n):=by
 have aq:((k:Int) < 6)=True:=eq_true (by omega);have ao:((0:Int)≤(k:Int))=True:=eq_true (by omega);have hr:r < w.heap.size:=World.block_lt_of_cell? _ _ hm;have HK:=hD hk;clear hk;go_enter func150,ntmps150;go_wp2_with fail
 obtain ⟨w1,J⟩:∃ w1,w1=w.alloc (.cells #[.int .i64 txn,.int .i64 kind,.int .i64 k] 146):=⟨_,rfl⟩;have O:Hid (Keep kF w w1):=hD (by rw [J];exact (Keep.refl _ _).alloc _);have A:Hid (Blk w1 w.heap.size #[.int .i64 txn,.int .i64 kind,.int .i64 k] 146):=hD (by rw [J];exact Blk.new _ _ _);have c0:w1.cell? ⟨w.heap.size,0,none⟩=some (.int .i64 txn):=A.out.cell 0;have c1:w1.cell? ⟨w.heap.size,1,none⟩=some (.int .i64 kind):=A.out.cell 1;have c2:w1.cell? ⟨w.heap.size,2,none⟩=some (.int .i64 k):=A.out.cell 2;have aj:w1.cell? ⟨r,k,none⟩=some (.map none):=(O.out.cell (p:=⟨r,k,none⟩) hr (fun h=>h)).trans hm;have al:w1.cell? ⟨r,6+k,none⟩=some (.int .i64 x):=(O.out.cell (p:=⟨r,6+k,none⟩) hr (fun h=>h)).trans hx;rw [← J];have HM:=hD hm;clear J hm hx;go_quiet (fail)
 go_upto_region 3 with fail
 go_cut [22] from 8 to 26 (fun s22 wx=>s22 = .bool (x != 0 && x != txn)∧Keep (fun _=>False) w1 wx)
 case first=>
  cases h0:(x != 0) with
  | false=>go_wp2_with fail;go_meet;exact ⟨by rw [h0];rfl,(Keep.refl _ _).drewN _⟩
  | true=>
   cases h1:(x != txn) with
   | false=>go_wp2_with fail;go_meet;exact ⟨by rw [h0,h1];rfl,(Keep.refl _ _).drewN _⟩
   | true=>go_wp2_with fail;go_meet;exact ⟨by rw [h0,h1];rfl,(Keep.refl _ _).drewN _⟩
 case rest=>
  obtain ⟨rfl,C⟩:=hcut;obtain ⟨w2,ac⟩:∃ w2,w2=wc:=⟨_,rfl⟩;rw [← ac] at C ⊢;clear ac;have d0:w2.cell? ⟨w.heap.size,0,none⟩=some (.int .i64 txn):=(A.out.keep C (fun h=>h)).cell 0;have d1:w2.cell? ⟨w.heap.size,1,none⟩=some (.int .i64 kind):=(A.out.keep C (fun h=>h)).cell 1;have d2:w2.cell? ⟨w.heap.size,2,none⟩=some (.int .i64 k):=(A.out.keep C (fun h=>h)).cell 2;have am:=hD (A.out.keep C (fun h=>h));have Y:=hD (O.out.trans C n3);clear C;go_upto_if 22 with fail
  go_cut [5] from 8 to 26 (fun s5 wx=>∃ l:List Int,wx.ownsRow w.heap.size 3 1 s5 l.length (icells l)∧(∀ y,y∈l↔(x≠0∧x≠txn∧y=x))∧l.length≤1∧Keep (fun _=>False) w2 wx)
  case first=>
   cases hb:(x != 0 && x != txn)
   ·go_wp2_with fail
    go_meet
    refine ⟨[],World.ownsRow_nil _ _ _ _,fun y=>?_,by simp,Keep.refl _ _⟩;simp only [List.not_mem_nil,false_iff];rintro ⟨q1,q2,q3⟩;simp [q1,q2] at hb
   ·have ae:=hD hb;have ak:=Y.out.size;go_wp2_with (at_builtin;refine x_h (w:=w2.alloc (.cells #[.int .i64 x] 3)) rfl (.tmp 23) (.tmp 25) 34 34 rfl 3 (.int .i64 0) 1 8 underlying34 v_h rfl (World.ownsRow_nil _ w.heap.size 3 1) rfl (Src.new (P:=prog) underlying34 w2 1 [.int .i64 x] 3 rfl (by simp [Value.oneCell'])) rfl (by unfold maxLen;omega) (by omega) (Nat.le_trans ak ((Keep.refl kF w2).alloc (.cells #[.int .i64 x] 3)).size) (fun v' w7 happ=>?_))
    go_meet
    refine ⟨[x],by simpa [icells] using happ.own,fun y=>?_,by simp,((Keep.refl kF w2).alloc _).trans happ.keep (fun _ _ h=>by cases h)⟩;have R:=ae.out;simp only [Bool.and_eq_true,bne_iff_ne] at R;simp [R.1,R.2]
  case rest=>
   obtain ⟨l0,W,aa,au,G⟩:=hcut;obtain ⟨w3,ad⟩:∃ w3,w3=wc:=⟨_,rfl⟩;rw [← ad] at W G ⊢;clear ad;have Z:=hD (Y.out.trans G n3);have an:=hD ((A.out.keep (Keep.refl kF _) (fun h=>h)));have e0:w3.cell? ⟨w.heap.size,0,none⟩=some (.int .i64 txn):=(G.cell (p:=⟨w.heap.size,0,none⟩) (World.block_lt_of_cell? _ _ d0) (fun h=>h)).trans d0;have e1:w3.cell? ⟨w.heap.size,1,none⟩=some (.int .i64 kind):=(G.cell (p:=⟨w.heap.size,1,none⟩) (World.block_lt_of_cell? _ _ d1) (fun h=>h)).trans d1;have e2:w3.cell? ⟨w.heap.size,2,none⟩=some (.int .i64 k):=(G.cell (p:=⟨w.heap.size,2,none⟩) (World.block_lt_of_cell? _ _ d2) (fun h=>h)).trans d2;have ar:w3.cell? ⟨r,k,none⟩=some (.map none):=(Z.out.cell (p:=⟨r,k,none⟩) hr (fun h=>h)).trans HM.out;have X:=run_range_nilMap (P:=prog) w3.drew 194 3 4 underlying194;obtain ⟨w4,M⟩:∃ w4,w4=w3.drew.alloc (.mapIter none 0 #[] 0):=⟨_,rfl⟩;have av:∀ ty,(Instr.next (.pointer (some ⟨w3.heap.size,0,none⟩)) false ty).run prog w4 = .ok (.tuple #[.bool false]) w4:=fun ty=>(by rw [M];exact run_next_nilMap w3.drew ty 0 0 #[]);have U:Keep kF w3 w4:=(by rw [M];exact ((Keep.refl kF w3).drew).alloc _);have ag:=hD (Z.out.trans U n3);have ai:=hD (x_b W U n3);have ah:=hD aa;rw [← M] at X;clear G U W aa c0 c1 c2 d0 d1 d2 aj al M;go_upto_region 5 with fail
   go_still_tail 7,(by kernel_rfl)
   change wpList _ _ _ _ _ w3.drew;go_wp2_with fail
   refine wp_loop_rounds 1 ?_;rw [rounds_succ];go_wp2_with fail
   go_ret;refine ⟨_,l0,rfl,ai.out,fun y=>(ah.out y).trans ⟨fun h=>.inl h,fun h=>h.elim id ?_⟩,by omega,ag.out⟩;rintro ⟨_,_,h1,_⟩;cases h1
def MapOr (w:World) (mb:Option Nat) (n:Nat) (f:Int→Option Value):Prop:=(mb=none∧f=fun _=>none)∨∃ b,mb=some b∧MapAt w b n f
theorem u_h {w:World} {r n k:Nat} {mb:Option Nat} {x txn kind:Int} {f:Int→Option Value} (hk:k < 6) (hm:w.cell? ⟨r,k,none⟩=some (.map mb)) (hx:w.cell? ⟨r,6+k,none⟩=some (.int .i64 x)) (hf:MapOr w mb n f) (hn:n≤1000):Calls prog 150 #[.pointer (some ⟨r,0,none⟩),.agg #[.int .i64 txn,.int .i64 kind,.int .i64 k]] w (HindPost w x txn kind f n):=by
 rcases hf with ⟨rfl,rfl⟩ | ⟨b,rfl,hf⟩
 ·exact hinders_nil hk hm hx
 ·exact hinders_some hk hm hx hf hn
def lockCells (mb:Nat→Option Nat) (ex:Nat→Int) (rest:List Value):Array Value:=
  #[.map (mb 0), .map (mb 1), .map (mb 2), .map (mb 3), .map (mb 4), .map (mb 5), .int .i64 (ex 0), .int .i64 (ex 1), .int .i64 (ex 2), .int .i64 (ex 3), .int .i64 (ex 4), .int .i64 (ex 5)] ++ rest.toArray
theorem z_g {mb:Nat→Option Nat} {ex:Nat→Int} {rest:List Value} {j:Nat} (h:j < 6):(lockCells mb ex rest)[j]?=some (.map (mb j)):=by
 match j,h with
 | 0,_ | 1,_ | 2,_ | 3,_ | 4,_ | 5,_=>simp [lockCells,Array.getElem?_append]
theorem lock_ex {mb:Nat→Option Nat} {ex:Nat→Int} {rest:List Value} {j:Nat} (h:j < 6):(lockCells mb ex rest)[6+j]?=some (.int .i64 (ex j)):=by
 match j,h with
 | 0,_ | 1,_ | 2,_ | 3,_ | 4,_ | 5,_=>simp [lockCells,Array.getElem?_append]
theorem lock_set_ex {mb:Nat→Option Nat} {ex:Nat→Int} {rest:List Value} {j:Nat} (h:j < 6) (v:Int):(lockCells mb ex rest).setIfInBounds (6+j) (.int .i64 v)=lockCells mb (fun i=>if i=j then v else ex i) rest:=by
 match j,h with
 | 0,_ | 1,_ | 2,_ | 3,_ | 4,_ | 5,_=>simp [lockCells,Array.setIfInBounds_append]
theorem lock_set_map {mb:Nat→Option Nat} {ex:Nat→Int} {rest:List Value} {j:Nat} (h:j < 6) (v:Option Nat):(lockCells mb ex rest).setIfInBounds j (.map v)=lockCells (fun i=>if i=j then v else mb i) ex rest:=by
 match j,h with
 | 0,_ | 1,_ | 2,_ | 3,_ | 4,_ | 5,_=>simp [lockCells,Array.setIfInBounds_append]
structure Lk (w:World) (r:Nat) (mb:Nat→Option Nat) (ex:Nat→Int) (f:Nat→Int→Option Value) (N:Nat) (rest:List Value):Prop where
  blk:Blk w r (lockCells mb ex rest) 200
  maps:∀ i,i < 6→MapOr w (mb i) N (f i)
  apart:∀ i j b,i < 6→j < 6→mb i=some b→mb j=some b→i=j
theorem MapOr.keep {S:Nat→Prop} {w w':World} {mb:Option Nat} {n:Nat} {f:Int→Option Value} (h:MapOr w mb n f) (k:Keep S w w') (hS:∀ b,mb=some b→¬ S b):MapOr w' mb n f:=by
 rcases h with h | ⟨b,rfl,h⟩
 ·exact .inl h
 ·exact .inr ⟨b,rfl,h.keep k (hS b rfl)⟩
theorem MapOr.mono {w:World} {mb:Option Nat} {n m:Nat} {f:Int→Option Value} (h:MapOr w mb n f) (hn:n≤m):MapOr w mb m f:=by
 rcases h with h | ⟨b,rfl,h⟩
 ·exact .inl h
 ·exact .inr ⟨b,rfl,h.mono hn⟩
theorem MapAt.ne_cells {w:World} {b n:Nat} {f:Int→Option Value} (h:MapAt w b n f) {g:Nat} {cs:Array Value} {t:TypeId} {fz:Nat × Nat} (hg:w.heap[g]?=some (.cells cs t fz)):b≠g:=by
 intro e;subst e;obtain ⟨D,⟨es,A,hm,_⟩,_⟩:=h;rw [hg] at hm;cases hm
theorem Lk.keep {S:Nat→Prop} {w w':World} {r N:Nat} {mb:Nat→Option Nat} {ex:Nat→Int} {f:Nat→Int→Option Value} {rest:List Value} (h:Lk w r mb ex f N rest) (k:Keep S w w') (hr:¬ S r) (hS:∀ i b,i < 6→mb i=some b→¬ S b):Lk w' r mb ex f N rest:=
  ⟨h.blk.keep k hr,fun i hi=>(h.maps i hi).keep k (fun b hb=>hS i b hi hb),h.apart⟩
theorem Lk.mono {w:World} {r N M:Nat} {mb:Nat→Option Nat} {ex:Nat→Int} {f:Nat→Int→Option Value} {rest:List Value} (h:Lk w r mb ex f N rest) (hn:N≤M):Lk w r mb ex f M rest:=
  ⟨h.blk,fun i hi=>(h.maps i hi).mono hn,h.apart⟩
theorem Lk.setEx {w:World} {r N:Nat} {mb:Nat→Option Nat} {ex:Nat→Int} {f:Nat→Int→Option Value} {rest:List Value} (h:Lk w r mb ex f N rest) {j:Nat} (hj:j < 6) (v:Int):Lk (w.setCell ⟨r,6+j,none⟩ (.int .i64 v)) r mb (fun i=>if i=j then v else ex i) f N rest:=by
 have k:Keep (fun k=>k=r) w (w.setCell ⟨r,6+j,none⟩ (.int .i64 v)):=(Keep.refl _ _).setCell _ _ (fun _=>rfl);refine ⟨by rw [← lock_set_ex hj];exact h.blk.set _ _,fun i hi=>(h.maps i hi).keep k (fun b hb e=>?_),h.apart⟩;rcases h.maps i hi with ⟨e1,_⟩ | ⟨b',e1,hm⟩
 ·rw [e1] at hb;cases hb
 ·rw [e1] at hb;cases hb;exact hm.ne_cells h.blk e
theorem Lk.upd {w w':World} {r N b:Nat} {mb:Nat→Option Nat} {ex:Nat→Int} {f:Nat→Int→Option Value} {rest:List Value} (h:Lk w r mb ex f N rest) {j:Nat} (hj:j < 6) (hb:mb j=some b) (k:Keep (fun k=>k=b) w w') {g:Int→Option Value} (hm:MapAt w' b N g):Lk w' r mb ex (fun i=>if i=j then g else f i) N rest:=by
 have A:MapAt w b N (f j):=by
  rcases h.maps j hj with ⟨e1,_⟩ | ⟨b',e1,hm⟩
  ·rw [e1] at hb;cases hb
  ·rw [e1] at hb;cases hb;exact hm
 refine ⟨h.blk.keep k (fun e=>A.ne_cells h.blk e.symm),fun i hi=>?_,h.apart⟩;by_cases e:i=j
 ·subst e;rw [if_pos rfl];exact .inr ⟨b,hb,hm⟩
 ·rw [if_neg e];exact (h.maps i hi).keep k (fun c hc e2=>e (h.apart i j b hi hj (by rw [hc];exact congrArg some e2) hb))
theorem Lk.setMap {w:World} {r N b:Nat} {mb:Nat→Option Nat} {ex:Nat→Int} {f:Nat→Int→Option Value} {rest:List Value} (h:Lk w r mb ex f N rest) {j:Nat} (hj:j < 6) {g:Int→Option Value} (hm:MapAt w b N g) (hb:∀ i,i < 6→mb i≠some b):Lk (w.setCell ⟨r,j,none⟩ (.map (some b))) r (fun i=>if i=j then some b else mb i) ex (fun i=>if i=j then g else f i) N rest:=by
 have k:Keep (fun k=>k=r) w (w.setCell ⟨r,j,none⟩ (.map (some b))):=(Keep.refl _ _).setCell _ _ (fun _=>rfl);refine ⟨by rw [← lock_set_map hj];exact h.blk.set _ _,fun i hi=>?_,fun i1 i2 c h1 h2 e1 e2=>?_⟩
 ·by_cases e:i=j
  ·subst e;rw [if_pos rfl,if_pos rfl];exact .inr ⟨b,rfl,hm.keep k (hm.ne_cells h.blk)⟩
  ·rw [if_neg e,if_neg e];refine (h.maps i hi).keep k fun c hc e2=>?_;rcases h.maps i hi with ⟨e1,_⟩ | ⟨b',e1,A⟩
   ·rw [e1] at hc;cases hc
   ·rw [e1] at hc;cases hc;exact A.ne_cells h.blk e2
 ·by_cases a1:i1=j <;> by_cases a2:i2=j
  ·rw [a1,a2]
  ·rw [if_pos a1] at e1;rw [if_neg a2] at e2;cases e1;exact absurd e2 (hb i2 h2)
  ·rw [if_neg a1] at e1;rw [if_pos a2] at e2;cases e2;exact absurd e1 (hb i1 h1)
  ·rw [if_neg a1] at e1;rw [if_neg a2] at e2;exact h.apart _ _ _ h1 h2 e1 e2
theorem MapOr.drop {w:World} {mb:Option Nat} {n:Nat} {f:Int→Option Value} (h:MapOr w mb n f) {x:Int} (hx:(kI x).wf=true) (ty:TypeId):∃ w',(Builtin.delete_ #[194,3] ty #[.map mb,.int .i64 x]).run prog w = .ok (.tuple #[]) w'∧MapOr w' mb n (fun y=>if y=x then none else f y)∧Keep (fun k=>mb=some k) w w':=by
 rcases h with ⟨rfl,rfl⟩ | ⟨b,rfl,h⟩
 ·exact ⟨w,Go.Maps.drop_nil keyI underlying194 (keyOfI hx) ty,.inl ⟨rfl,by funext y;simp⟩,Keep.refl _ _⟩
 ·obtain ⟨w',A,hm,hk,_⟩:=h.drop underlying194 hx ty;exact ⟨w',A,.inr ⟨b,rfl,hm⟩,hk.mono (fun k _ e=>by rw [e])⟩
theorem Lk.updOr {w w':World} {r N:Nat} {mb:Nat→Option Nat} {ex:Nat→Int} {f:Nat→Int→Option Value} {rest:List Value} (h:Lk w r mb ex f N rest) {j:Nat} (hj:j < 6) (k:Keep (fun k=>mb j=some k) w w') {g:Int→Option Value} (hm:MapOr w' (mb j) N g):Lk w' r mb ex (fun i=>if i=j then g else f i) N rest:=by
 have hr:mb j≠some r:=fun e=>by
  rcases h.maps j hj with ⟨e1,_⟩ | ⟨b',e1,hm⟩
  ·rw [e1] at e;cases e
  ·rw [e1] at e;cases e;exact hm.ne_cells h.blk rfl
 refine ⟨h.blk.keep k hr,fun i hi=>?_,h.apart⟩;by_cases e:i=j
 ·subst e;rw [if_pos rfl];exact hm
 ·rw [if_neg e];exact (h.maps i hi).keep k (fun c hc e2=>e (h.apart i j c hi hj hc e2))
def relEx (ex:Nat→Int) (t:Int) (j:Nat):Nat→Int:=fun i=>if i < j∧ex i=t then 0 else ex i
def relF (f:Nat→Int→Option Value) (t:Int) (j:Nat):Nat→Int→Option Value:=fun i y=>if i < j∧y=t then none else f i y
def LkPost (w:World) (r:Nat) (mb:Nat→Option Nat) (ex':Nat→Int) (f':Nat→Int→Option Value) (N:Nat) (rest:List Value) (e:Ending) (w':World):Prop:=
  e = .returned (.tuple #[])∧∃ mb',Lk w' r mb' ex' f' N rest∧(∀ i,i < 6→mb' i=mb i∨∃ b,mb' i=some b∧w.heap.size≤b)∧Keep (fun k=>k=r∨∃ i,i < 6∧mb i=some k) w w'
theorem release_any {w:World} {r N:Nat} {mb:Nat→Option Nat} {ex:Nat→Int} {f:Nat→Int→Option Value} {rest:List Value} {t:Int} (h:Lk w r mb ex f N rest) (ht:(kI t).wf=true):Calls prog 149 #[.pointer (some ⟨r,0,none⟩),.int .i64 t] w (LkPost w r mb (relEx ex t 6) (relF f t 6) N rest):=by
 have H:=hD h;clear h;have HT:=hD ht;clear ht;go_enter func149,ntmps149;go_wp2_with fail
 go_loopw [5] (fun v wr=>∃ j:Nat,j≤6∧v = .int .i64 j∧Lk wr r mb (relEx ex t j) (relF f t j) N rest∧Keep (fun k=>k=r∨∃ i,i < 6∧mb i=some k) w wr) (fun v _=>6 - (intOf v).toNat)
 case atStart=>
  refine ⟨0,by omega,rfl,?_,Keep.refl _ _⟩;have e1:relEx ex t 0=ex:=(by funext i;simp [relEx]);have e2:relF f t 0=f:=(by funext i y;simp [relF]);rw [e1,e2];exact H.out
 case round=>
  obtain ⟨j,hj,rfl,G,R⟩:=hrel;by_cases C:j < 6
  ·have Y:((j:Int) < 6)=True:=eq_true (by omega);have aa:((0:Int)≤(j:Int))=True:=eq_true (by omega);have c0:wr.cell? ⟨r,j,none⟩=some (.map (mb j)):=(by rw [G.blk.cell];exact z_g C);obtain ⟨w2,Z,X,U⟩:=(G.maps j C).drop HT.out 0;have A:=G.updOr C U X;have c1:w2.cell? ⟨r,6+j,none⟩=some (.int .i64 (ex j)):=(by rw [A.blk.cell,lock_ex C];simp [relEx]);have g1:=A.blk.free (6+j);have J:=hD C;have O:=hD (R.trans U (fun i _ e=>.inr ⟨j,C,e⟩));have W:=hD A
   have ef:(fun i=>if i=j then (fun y=>if y=t then none else relF f t j j y) else relF f t j i)=relF f t (j+1):=by
    funext i y;by_cases e:i=j
    ·subst e;simp [relF]
    ·have:(i < j+1)↔i < j:=(by omega);simp [relF,e,this]
   have EF:=hD ef;clear G R X U A C ef;have ac:IntKind.i64.wrap ((j:Int)+1)=((j+1:Nat):Int):=(by rw [show ((j:Int)+1)=((j+1:Nat):Int) by omega];exact IntWalk.i64_in _ (by omega));cases he:(ex j == t)
   ·go_wp2_with fail
    go_roundw
    case rel=>
     refine ⟨j+1,by have:=J.out;omega,rfl,?_,O.out⟩;rw [← EF.out]
     have ee:relEx ex t (j+1)=relEx ex t j:=by
      funext i;by_cases e:i=j
      ·subst e;have:¬ ex i=t:=(by simpa using he);simp [relEx,this]
      ·have:(i < j+1)↔i < j:=(by omega);simp [relEx,this]
     rw [ee];exact W.out
    case measure=>have:=J.out;simp [intOf];omega
   ·go_wp2_with fail
    go_roundw
    case rel=>
     refine ⟨j+1,by have:=J.out;omega,rfl,?_,O.out.setCell _ _ (fun _=>.inl rfl)⟩;rw [← EF.out]
     have ee:relEx ex t (j+1)=fun i=>if i=j then 0 else relEx ex t j i:=by
      funext i;by_cases e:i=j
      ·subst e;have:ex i=t:=(by simpa using he);simp [relEx,this]
      ·have:(i < j+1)↔i < j:=(by omega);simp [relEx,this,e]
     rw [ee];exact W.out.setEx J.out 0
    case measure=>have:=J.out;simp [intOf];omega
  ·have Y:((j:Int) < 6)=False:=eq_false (by omega);have M:j=6:=(by omega);have HJ:=hD M;have HL:=hD G;have O:=hD R;clear G R M C hj;go_wp2_with fail
   go_end0
   exact ⟨rfl,mb,by rw [← HJ.out];exact HL.out,fun i _=>.inl rfl,O.out⟩
theorem take_w {w:World} {r N k:Nat} {mb:Nat→Option Nat} {ex:Nat→Int} {f:Nat→Int→Option Value} {rest:List Value} {txn:Int} (h:Lk w r mb ex f N rest) (hk:k < 6):Calls prog 177 #[.pointer (some ⟨r,0,none⟩),.agg #[.int .i64 txn,.int .i64 1,.int .i64 k]] w (LkPost w r mb (fun i=>if i=k then txn else ex i) f (N+1) rest):=by
 have O:((k:Int) < 6)=True:=eq_true (by omega);have M:((0:Int)≤(k:Int))=True:=eq_true (by omega);obtain ⟨w1,C⟩:∃ w1,w1=w.alloc (.cells #[.int .i64 txn,.int .i64 1,.int .i64 k] 146):=⟨_,rfl⟩;have G:Keep kF w w1:=(by rw [C];exact (Keep.refl _ _).alloc _);have A:Blk w1 w.heap.size #[.int .i64 txn,.int .i64 1,.int .i64 k] 146:=(by rw [C];exact Blk.new _ _ _);have h1:=h.keep G (fun e=>e) (fun _ _ _ _ e=>e);have c0:w1.cell? ⟨w.heap.size,0,none⟩=some (.int .i64 txn):=A.cell 0;have c1:w1.cell? ⟨w.heap.size,1,none⟩=some (.int .i64 1):=A.cell 1;have c2:w1.cell? ⟨w.heap.size,2,none⟩=some (.int .i64 k):=A.cell 2;have d1:w1.cell? ⟨r,6+k,none⟩=some (.int .i64 (ex k)):=(by rw [h1.blk.cell,lock_ex hk]);have g1:=h1.blk.free (6+k);have H1:=hD h1;have J:=hD G;have HK:=hD hk;have HW:=hD C;clear h h1 G A hk C;go_enter func177,ntmps177;go_upto_region 1 with fail
 rw [← HW.out];go_wp2_with fail
 go_still_tail 8,(by kernel_rfl)
 change wpList _ _ _ _ _ w1.drew;go_wp2
 go_end0
 exact ⟨rfl,mb,(((H1.out.keep ((Keep.refl kF w1).drew) (fun e=>e) (fun _ _ _ _ e=>e)).setEx HK.out txn).mono (by omega)),fun i _=>.inl rfl,((J.out.drew).mono (fun _ _ e=>e.elim)).setCell _ _ (fun _=>.inl rfl)⟩
theorem Blk.ne {w:World} {b b':Nat} {cs cs':Array Value} {t t':TypeId} (h:Blk w b cs t) (h':Blk w b' cs' t') (hne:t≠t'):b≠b':=by
 intro e;subst e;unfold Blk at h h';rw [h] at h';have e2:=Option.some.inj h';injection e2 with _ e3;exact hne e3
theorem map_nil_eq (W:World):(Op.equal 194 (.map none) (.map none)).run prog W = .ok true W:=by kernel_rfl
theorem map_some_eq (W:World) (b:Nat):(Op.equal 194 (.map (some b)) (.map none)).run prog W = .ok false W:=by kernel_rfl
theorem map_nil_eq' (W:World):(binOp .eql 194 (.map none) (.map none)).run prog W = .ok (.bool true) W:=by kernel_rfl
theorem map_some_eq' (W:World) (b:Nat):(binOp .eql 194 (.map (some b)) (.map none)).run prog W = .ok (.bool false) W:=by kernel_rfl
theorem take_r {w:World} {r N k:Nat} {mb:Nat→Option Nat} {ex:Nat→Int} {f:Nat→Int→Option Value} {rest:List Value} {txn kind:Int} (h:Lk w r mb ex f N rest) (hk:k < 6) (hkind:(kind == 1)=false) (ht:(kI txn).wf=true) (hN:N≤1000):Calls prog 177 #[.pointer (some ⟨r,0,none⟩),.agg #[.int .i64 txn,.int .i64 kind,.int .i64 k]] w (LkPost w r mb ex (fun i=>if i=k then (fun y=>if y=txn then some (.bool true) else f k y) else f i) (N+1) rest):=by
 have aK:((k:Int) < 6)=True:=eq_true (by omega);have aJ:((0:Int)≤(k:Int))=True:=eq_true (by omega);obtain ⟨w1,an⟩:∃ w1,w1=w.alloc (.cells #[.int .i64 txn,.int .i64 kind,.int .i64 k] 146):=⟨_,rfl⟩;have aw:Keep kF w w1:=(by rw [an];exact (Keep.refl _ _).alloc _);have ag:Blk w1 w.heap.size #[.int .i64 txn,.int .i64 kind,.int .i64 k] 146:=(by rw [an];exact Blk.new _ _ _);have h1:=h.keep aw (fun e=>e) (fun _ _ _ _ e=>e);have c0:w1.cell? ⟨w.heap.size,0,none⟩=some (.int .i64 txn):=ag.cell 0;have c1:w1.cell? ⟨w.heap.size,1,none⟩=some (.int .i64 kind):=ag.cell 1;have c2:w1.cell? ⟨w.heap.size,2,none⟩=some (.int .i64 k):=ag.cell 2;have d0:w1.cell? ⟨r,k,none⟩=some (.map (mb k)):=(by rw [h1.blk.cell,z_g hk]);have H1:=hD h1;have ac:=hD ag;have aj:=hD aw;have HK:=hD hk;have HW:=hD an;have HM:=h1.maps k hk;clear h h1 aw ag hk an;rcases HM with ⟨U,hf⟩ | ⟨b,U,hm⟩
 ·rw [U] at d0;have aH:=hD U;have aC:=hD hf;clear U hf;have q0:=fun W=>map_nil_eq W;have q1:=fun W=>map_nil_eq' W;go_enter func177,ntmps177;go_upto_region 1 with fail
  rw [← HW.out];go_wp2_with fail
  go_quiet (fail)
  go_wp2_with fail
  have HC:Hid (∀ W,Keep (fun k=>k=r) w1 W→W.cell? ⟨w.heap.size,2,none⟩=some (.int .i64 k)):=hD fun W hk=>(ac.out.keep hk (ac.out.ne H1.out.blk (by decide))).cell 2;obtain ⟨w2,ao⟩:∃ w2,w2=w1.drewN nq:=⟨_,rfl⟩;have J:Hid (Keep (fun k=>k=r) w1 w2):=hD (by rw [ao];exact (Keep.refl _ _).drewN _);have H2:Hid (Lk w2 r mb ex f N rest):=hD (by rw [ao];exact H1.out.keep ((Keep.refl (fun _=>False) _).drewN _) (fun e=>e) (fun _ _ _ _ e=>e));rw [← ao];clear ao c0 c1 c2 d0;go_cut [] from 23 to 29 (fun wx=>∃ b,w1.heap.size≤b∧Lk wx r (fun i=>if i=k then some b else mb i) ex (fun i=>if i=k then (fun _=>none) else f i) N rest∧Keep (fun k=>k=r) w1 wx)
  case first=>
   rename_i Jq Kq aF aG;refine x_m fun Q1 hQ1=>?_;have aE:=hD hQ1;clear hQ1;refine wp_region_noPanic ?_;refine wp_region_held_drew (S:=(fun W=>W.cell? ⟨w.heap.size,2,none⟩=some (.int .i64 k))) (by kernel_rfl) (HC.out _ J.out.drew) fun hHeld=>?_;refine wL fun ac0 Z0=>?_;have HS:Hid (ac0.tmps.size=39):=hD (by rw [Z0.out];kernel_rfl);have e0:ac0.tmps[0]?.getD undef = .pointer (some ⟨r,0,none⟩):=(by rw [Z0.out];kernel_rfl);have e3:ac0.tmps[3]?.getD undef = .pointer (some ⟨w.heap.size,0,none⟩):=(by rw [Z0.out];kernel_rfl);refine wU 0 HS fun ac1 Z1 G HS=>?_;obtain ⟨e0,e3⟩:=p2 Z1 e0 e3;refine wU 1 HS fun ac2 Z2 M HS=>?_;obtain ⟨e0,e3,G⟩:=p3 Z2 e0 e3 G;refine wU 2 HS fun ac3 Z3 O HS=>?_;obtain ⟨e0,e3,G,M⟩:=p4 Z3 e0 e3 G M;refine wU 4 HS fun ac4 Z4 Y HS=>?_;obtain ⟨e0,e3,G,M,O⟩:=p5 Z4 e0 e3 G M O;refine wU 5 HS fun ac5 Z5 ak HS=>?_;obtain ⟨e0,e3,G,M,O,Y⟩:=p6 Z5 e0 e3 G M O Y;refine wA 3 fun K hK=>?_;have aL:=@run_makeMap prog;go_simp;refine hK.out _ _ ?_ fun hHeld=>?_
   ·first | exact HC.out _ (J.out.alloc _).drew | exact HC.out _ (J.out.drew.alloc _)
   clear hK K;refine wL fun ac6 Z6=>?_;obtain ⟨e0,e3,G,M,O⟩:=p5 Z6 e0 e3 G M O;obtain ⟨Y,ak⟩:=p2 Z6 Y ak;have a1:=pA Z6 HS;replace HS:=pS Z6 HS;have h3:=H2.out.keep (((Keep.refl kF w2).alloc (.map #[] 0)).drew) (fun e=>e) (fun _ _ _ _ e=>e);have d0:(w2.alloc (.map #[] 0)).drew.cell? ⟨r,k,none⟩=some (.map (mb k)):=(by rw [h3.blk.cell,z_g HK.out]);have g0:=h3.blk.free k;have ay:Hid (MapAt ((w2.alloc (.map #[] 0)).drew) w2.heap.size N (fun _=>none)):=hD ((MapAt.made w2).mono (Nat.zero_le _));have R:=hD ((J.out.alloc (.map #[] 0)).drew);obtain ⟨w3,a7⟩:∃ w3,w3=(w2.alloc (.map #[] 0)).drew:=⟨_,rfl⟩;rw [← a7] at h3 d0 g0 ay R hHeld ⊢;have H3:=hD h3;clear h3 a7;refine wU 6 HS fun ac7 Z7 aI HS=>?_;obtain ⟨e0,e3,G,M,O,Y⟩:=p6 Z7 e0 e3 G M O Y;obtain ⟨ak,a1⟩:=p2 Z7 ak a1;refine wA 7 fun K hK=>?_;go_simp;refine hK.out _ _ ?_ fun hHeld=>?_
   ·exact HC.out _ (R.out.setCell _ _ (fun _=>rfl))
   clear hK K;refine wpAnyH_done (by kernel_rfl) ?_ _;refine NoPanic.normal ?_;rw [aE.out];have g0:=uE0 ac0 [23,24,25,26,27,28,29];have g1:=uF Z1 g0;have g2:=uF Z2 g1;have g3:=uF Z3 g2;have g4:=uF Z4 g3;have g5:=uF Z5 g4;have g6:=uF Z6 g5;have g7:=uF Z7 g6;obtain ⟨f,hf⟩:=g7;rw [Z0.out] at hf;refine aG _ _ (Met.intro (aF _ _ ?_));refine ⟨f 23,f 24,f 25,f 26,f 27,f 28,f 29,⟨w2.heap.size,J.out.size,H3.out.setMap HK.out ay.out (fun i hi e=>?_),R.out.setCell _ _ (fun _=>rfl)⟩,hf.trans (by kernel_rfl)⟩;rcases H2.out.maps i hi with ⟨e1,_⟩ | ⟨b',e1,hm⟩
   ·rw [e1] at e;cases e
   ·rw [e1] at e;cases e;exact absurd hm.lt (Nat.lt_irrefl _)
  case rest=>
   obtain ⟨b4,Z,h4,am⟩:=hcut;obtain ⟨aq,C⟩:∃ m:Nat→Option Nat,m=fun i=>if i=k then some b4 else mb i:=⟨_,rfl⟩;obtain ⟨f4,al⟩:∃ m:Nat→Int→Option Value,m=fun i=>if i=k then (fun _=>none) else f i:=⟨_,rfl⟩;rw [← C,← al] at h4
   have a6:∀ i,i < 6→aq i=mb i∨∃ b,aq i=some b∧w.heap.size≤b:=by
    intro i hi;rw [C];by_cases e:i=k
    ·right;exact ⟨b4,by simp [e],Nat.le_trans aj.out.size Z⟩
    ·left;simp [e]
   have aA:=hD a6;clear a6;obtain ⟨w4,aa⟩:∃ w4,w4=wc:=⟨_,rfl⟩;rw [← aa] at h4 am ⊢;clear aa;have H4:=hD h4;have aD:=hD (aj.out.size);have ad:=hD (ac.out.keep am (ac.out.ne H1.out.blk (by decide)));have A:Hid (aq k=some b4):=hD (by rw [C];simp);have aB:=hD al
   have au:Hid (MapAt w4 b4 N (fun _=>none)):=hD (by
    rcases h4.maps k HK.out with ⟨e1,_⟩ | ⟨b',e1,hm⟩
    ·rw [C] at e1;simp at e1
    ·rw [C] at e1;simp at e1;subst e1;rw [al] at hm;simpa using hm)
   have ar:Hid (∀ y,(fun _=>none:Int→Option Value) y=f k y):=hD (by rw [aC.out];intro y;rfl);have HN:=hD hN;have HT:=hD ht;have X:=hD am;have a8:=hD Z;clear h4 am Z hN ht C al;have e0:w4.cell? ⟨w.heap.size,0,none⟩=some (.int .i64 txn):=ad.out.cell 0;have e2:w4.cell? ⟨w.heap.size,2,none⟩=some (.int .i64 k):=ad.out.cell 2;have x0:w4.cell? ⟨r,k,none⟩=some (.map (some b4)):=(by rw [H4.out.blk.cell,z_g HK.out];exact congrArg (fun z=>some (Value.map z)) A.out);obtain ⟨w5,ax,ai,ah,_⟩:=(au.out.keep ((Keep.refl kF w4).drew) (fun e=>e)).store underlying194 (by have:=HN.out;unfold maxLen;omega) HT.out (.bool true);have av:=hD ai;have ae:=hD (((Keep.refl (fun k=>k=b4) w4).drew).trans ah n3);clear ai ah;go_upto_region 5 with fail
   go_still_tail 9,(by kernel_rfl)
   change wpList _ _ _ _ _ w4.drew;go_wp2
   go_end0
   refine ⟨rfl,aq,?_,aA.out,(((aj.out.mono (fun _ _ e=>e.elim)).trans X.out (fun i hi e=>Or.inl e)).trans ae.out (fun i hi e=>by have:=aD.out;have:=a8.out;have e':i=b4:=e;omega))⟩;have hu:=(H4.out.mono (Nat.le_succ N)).upd HK.out A.out ae.out av.out
   have ef:(fun i=>if i=k then (fun y=>if y=txn then some (.bool true) else (fun _=>none:Int→Option Value) y) else f4 i)=(fun i=>if i=k then (fun y=>if y=txn then some (.bool true) else f k y) else f i):=by
    funext i y;by_cases e:i=k
    ·subst e;by_cases hy:y=txn
     ·simp [hy]
     ·simp [hy];(try exact ar.out y)
    ·simp [e,aB.out]
   rw [ef] at hu;exact hu
 ·rw [U] at d0;have A:=hD U;have q0:=fun W=>map_some_eq W b;have q1:=fun W=>map_some_eq' W b;have az:=hD hm;clear U hm;go_enter func177,ntmps177;go_upto_region 1 with fail
  rw [← HW.out];go_wp2_with fail
  go_quiet (fail)
  go_wp2_with fail
  obtain ⟨w4,aa⟩:∃ w4,w4=w1.drewN nq:=⟨_,rfl⟩;obtain ⟨b4,Z⟩:∃ b4,b4=b:=⟨_,rfl⟩;rw [← Z] at A az ⊢;have X:Hid (Keep kF w1 w4):=hD (by rw [aa];exact (Keep.refl _ _).drewN _);rw [← aa];clear aa c0 c1 c2 d0 q0 q1 Z;have H4:=hD (H1.out.keep X.out (fun e=>e) (fun _ _ _ _ e=>e));have ad:=hD (ac.out.keep X.out (fun e=>e));have au:=hD (az.out.keep X.out (fun e=>e));have ar:Hid (∀ y,f k y=f k y):=hD (fun y=>rfl);have HN:=hD hN;have HT:=hD ht;clear hN ht;have e0:w4.cell? ⟨w.heap.size,0,none⟩=some (.int .i64 txn):=ad.out.cell 0;have e2:w4.cell? ⟨w.heap.size,2,none⟩=some (.int .i64 k):=ad.out.cell 2;have x0:w4.cell? ⟨r,k,none⟩=some (.map (some b4)):=(by rw [H4.out.blk.cell,z_g HK.out];exact congrArg (fun z=>some (Value.map z)) A.out);obtain ⟨w5,ax,ai,ah,_⟩:=(au.out.keep ((Keep.refl kF w4).drew) (fun e=>e)).store underlying194 (by have:=HN.out;unfold maxLen;omega) HT.out (.bool true);have av:=hD ai;have ae:=hD (((Keep.refl (fun k=>k=b4) w4).drew).trans ah n3);clear ai ah;go_upto_region 5 with fail
  go_still_tail 9,(by kernel_rfl)
  change wpList _ _ _ _ _ w4.drew;go_wp2
  go_end0
  refine ⟨rfl,mb,?_,(fun i hi=>.inl rfl),(((aj.out.trans X.out n3).mono (fun _ _ e=>e.elim)).trans ae.out (fun i hi e=>.inr ⟨k,HK.out,by have e':i=b4:=e;rw [e'];exact A.out⟩))⟩;have hu:=(H4.out.mono (Nat.le_succ N)).upd HK.out A.out ae.out av.out
  have ef:(fun i=>if i=k then (fun y=>if y=txn then some (.bool true) else f k y) else f i)=(fun i=>if i=k then (fun y=>if y=txn then some (.bool true) else f k y) else f i):=by
   funext i y;by_cases e:i=k
   ·subst e;by_cases hy:y=txn
    ·simp [hy]
    ·simp [hy];(try exact ar.out y)
   ·simp [e]
  rw [ef] at hu;exact hu
theorem pair_le {α:Type} [DecidableEq α]:∀ (l ks:List α),l.Pairwise (fun a b=>a≠b)→(∀ x∈l,x∈ks)→l.length≤ks.length
  | [],_,_,_=>Nat.zero_le _
  | x::l,ks,h,hm=>by
    have hx:x∈ks:=hm x (by simp)
    have h1:=(List.pairwise_cons.1 h)
    have h2:=pair_le l (ks.erase x) h1.2 (fun y hy=>(List.mem_erase_of_ne (h1.1 y hy).symm).2 (hm y (by simp [hy])))
    rw [List.length_erase_of_mem hx] at h2
    have:0 < ks.length:=List.length_pos_of_mem hx
    simp only [List.length_cons]
    omega
theorem MapAt.tight {w:World} {b n:Nat} {f:Int→Option Value} (h:MapAt w b n f) (hk:∀ y,(kI y).wf=true→(f y).isSome=true→1≤y∧y≤6):MapAt w b 6 f:=by
 obtain ⟨D,⟨es,A,hb,F,hs,hD⟩,h1,h2⟩:=h;refine ⟨D,⟨es,A,hb,F,?_,hD⟩,h1,h2⟩;have O:=Go.Maps.fit_apart keyI F;have G:∀ z∈(es.toList.map (WideElems.rg prog 3 rawE)).map Prod.fst,z∈[kI 1,kI 2,kI 3,kI 4,kI 5,kI 6]:=(by intro z hz;obtain ⟨p,hp,rfl⟩:=List.mem_map.1 hz;obtain ⟨x,hx,rfl⟩:=List.mem_map.1 hp;obtain ⟨y0,M⟩:=F.reads x hx;obtain ⟨a,ha,hz,J⟩:=Go.Maps.keyOf_int_inv underlying3 (WideElems.rd_key M);have e1:(WideElems.rg prog 3 rawE x).1=kI a:=(by rw [WideElems.rg_of M];exact hz);have C:Go.Maps.has D (kI a)=true:=(by rw [hD];exact List.any_eq_true.2 ⟨WideElems.rg prog 3 rawE x,Go.mem_sorted.2 hp,by rw [e1];exact WideAt.sameKey_self (kI_key J)⟩);have h3:=h1 a J;rw [C] at h3;obtain ⟨q1,q2⟩:=hk a J h3.symm;rw [e1];have:a=1∨a=2∨a=3∨a=4∨a=5∨a=6:=(by omega);rcases this with rfl | rfl | rfl | rfl | rfl | rfl <;> simp);letI:DecidableEq Lit:=Classical.typeDecidableEq Lit;have hl:=pair_le _ [kI 1,kI 2,kI 3,kI 4,kI 5,kI 6] (List.pairwise_map.2 O) G;simpa using hl
abbrev LOp:=Int × Int × Int
def opC (o:LOp):List Value:=[.int .i64 o.1,.int .i64 o.2.1,.int .i64 o.2.2]
def opsC (l:List LOp):List Value:=l.flatMap opC
def heldC (l:List (LOp × Int)):List Value:=l.flatMap (fun x=>opC x.1++[.int .i64 x.2])
def OpOK (o:LOp):Prop:=1≤o.1∧o.1≤6∧0≤o.2.1∧o.2.1≤3∧0≤o.2.2∧o.2.2≤5
structure LS where
  done:List LOp
  ab:List Int
  ex:Nat→Int
  sh:Nat→Int→Bool
  wt:Int→List (LOp × Int)
structure WtAt (base:Nat) (w:World) (bw:Nat) (vw:Int→Option Value) (wt:Int→List (LOp × Int)):Prop where
  map:MapAt w bw 6 vw
  ge:base≤bw
  emp:∀ t,(kI t).wf=true→vw t=none→wt t=[]
  win:∀ t v,(kI t).wf=true→vw t=some v→Win w base 204 4 v (wt t).length (heldC (wt t))
  apart:∀ t u v v' g,(kI t).wf=true→(kI u).wf=true→vw t=some v→vw u=some v'→v.ownBlock=some g→v'.ownBlock=some g→t=u
  keys:∀ t v,(kI t).wf=true→vw t=some v→1≤t∧t≤6
structure RunV where
  mb:Nat→Option Nat
  f:Nat→Int→Option Value
  vd:Value
  va:Value
  bw:Nat
  vw:Int→Option Value
structure RunAt (base:Nat) (w:World) (r:Nat) (V:RunV) (s:LS):Prop where
  lk:Lk w r V.mb s.ex V.f 6 [V.vd,V.va,.map (some V.bw)]
  sh:∀ i y,i < 6→(kI y).wf=true→(V.f i y).isSome=s.sh i y
  keys:∀ i y,i < 6→(kI y).wf=true→s.sh i y=true→1≤y∧y≤6
  exs:∀ i,i < 6→0≤s.ex i∧s.ex i≤6
  done:w.ownsRow base 146 3 V.vd s.done.length (opsC s.done)
  ab:w.ownsRow base 3 1 V.va s.ab.length (icells s.ab)
  wt:WtAt base w V.bw V.vw s.wt
  ne:∀ i,i < 6→V.mb i≠some V.bw
  ge:base≤r
  mge:∀ i b,i < 6→V.mb i=some b→base≤b
theorem z_u {t:Int} (h1:0≤t) (h2:t≤100):(kI t).wf=true:=by
 unfold kI;exact WalkArith.wf_i64 (by omega)
theorem u_p (l:List LOp) (o:LOp):opsC (l++[o])=opsC l++opC o:=by simp [opsC]
theorem opsC_one (l:List LOp):∀ u∈opsC l,u.oneCell'=true:=by
 intro u hu;simp only [opsC,List.mem_flatMap] at hu;obtain ⟨o,_,h⟩:=hu;simp [opC] at h;rcases h with rfl | rfl | rfl <;> rfl
theorem heldC_snoc (l:List (LOp × Int)) (x:LOp × Int):heldC (l++[x])=heldC l++(opC x.1++[.int .i64 x.2]):=by simp [heldC]
theorem heldC_cons (l:List (LOp × Int)) (x:LOp × Int):heldC (x::l)=(opC x.1++[.int .i64 x.2])++heldC l:=by simp [heldC]
def RunV.fp (V:RunV) (r:Nat) (k:Nat):Prop:=k=r∨k=V.bw∨V.vd.ownBlock=some k∨V.va.ownBlock=some k∨(∃ i,i < 6∧V.mb i=some k)∨∃ t v,(kI t).wf=true∧V.vw t=some v∧v.ownBlock=some k
theorem WtAt.keep {S:Nat→Prop} {base:Nat} {w w':World} {bw:Nat} {vw:Int→Option Value} {wt:Int→List (LOp × Int)} (h:WtAt base w bw vw wt) (k:Keep S w w') (hb:¬ S bw) (hv:∀ t v g,(kI t).wf=true→vw t=some v→v.ownBlock=some g→¬ S g):WtAt base w' bw vw wt:=
  ⟨h.map.keep k hb,h.ge,h.emp,fun t v ht e=>(h.win t v ht e).keep k (fun g hg=>hv t v g ht e hg),h.apart,h.keys⟩
theorem RunAt.keep {S:Nat→Prop} {base:Nat} {w w':World} {r:Nat} {V:RunV} {s:LS} (h:RunAt base w r V s) (k:Keep S w w') (hS:∀ b,V.fp r b→¬ S b):RunAt base w' r V s:=
  ⟨h.lk.keep k (hS r (.inl rfl)) (fun i b hi e=>hS b (.inr (.inr (.inr (.inr (.inl ⟨i,hi,e⟩)))))),h.sh,h.keys,h.exs,x_b h.done k (fun g hg=>hS g (.inr (.inr (.inl hg)))),x_b h.ab k (fun g hg=>hS g (.inr (.inr (.inr (.inl hg))))),
   h.wt.keep k (hS _ (.inr (.inl rfl))) (fun t v g ht e hg=>hS g (.inr (.inr (.inr (.inr (.inr ⟨t,v,ht,e,hg⟩)))))),h.ne,h.ge,h.mge⟩
theorem RunAt.idle {base:Nat} {w w':World} {r:Nat} {V:RunV} {s:LS} (h:RunAt base w r V s) (k:Keep kF w w'):RunAt base w' r V s:=h.keep k n3
end Go.Proofs.YthdkamnclbfehaaGreatDoor
namespace Go.Proofs.YthdkamnclbfehaaGreatDoor
open Go.RowKit
def Hd (s:LS) (o:LOp) (y:Int):Prop:=(s.ex o.2.2.toNat≠0∧s.ex o.2.2.toNat≠o.1∧y=s.ex o.2.2.toNat)∨(o.2.1=1∧(kI y).wf=true∧s.sh o.2.2.toNat y=true∧y≠o.1)
def Hdd (s:LS) (o:LOp):Prop:=o.2.1≤1∧∃ y,Hd s o y
def takeS (s:LS) (o:LOp):LS:=if o.2.1=1 then {s with ex:=fun i=>if i=o.2.2.toNat then o.1 else s.ex i} else {s with sh:=fun i y=>if i=o.2.2.toNat∧y=o.1 then true else s.sh i y}
def relS (s:LS) (t:Int):LS:={s with ex:=relEx s.ex t 6,sh:=fun i y=>if i < 6∧y=t then false else s.sh i y}
def actS (s:LS) (o:LOp):LS:=if o.2.1≤1 then takeS s o else relS s o.1
def updW (wt:Int→List (LOp × Int)) (t:Int) (l:List (LOp × Int)):Int→List (LOp × Int):=fun u=>if u=t then l else wt u
def doS (s:LS) (t:Int) (o:LOp) (rest:List (LOp × Int)):LS:={actS s o with done:=s.done++[o],wt:=updW s.wt t rest}
def abortS (s:LS) (t:Int):LS:={relS s t with done:=s.done++[(t,3,0)],ab:=s.ab++[t],wt:=updW s.wt t []}
theorem actS_same (s:LS) (o:LOp):(actS s o).done=s.done∧(actS s o).ab=s.ab∧(actS s o).wt=s.wt:=by
 unfold actS takeS relS;split
 ·split <;> exact ⟨rfl,rfl,rfl⟩
 ·exact ⟨rfl,rfl,rfl⟩
theorem x_z {w:World} {base:Nat} {e:TypeId} {size:Nat} {v:Value} {n:Nat} {xs:List Value} (h:Win w base e size v n xs) {g:Nat} (hg:v.ownBlock=some g):∃ cur fz,w.heap[g]?=some (.cells cur e fz):=by
 rcases h.2 with ⟨rfl,_⟩ | ⟨g',o,A,cur,rfl,hb,hh,_⟩
 ·cases hg
 ·cases hg;exact ⟨cur,_,hh⟩
theorem MapOr.tight {w:World} {mb:Option Nat} {n:Nat} {f:Int→Option Value} (h:MapOr w mb n f) (hk:∀ y,(kI y).wf=true→(f y).isSome=true→1≤y∧y≤6):MapOr w mb 6 f:=by
 rcases h with h | ⟨b,rfl,h⟩
 ·exact .inl h
 ·exact .inr ⟨b,rfl,h.tight hk⟩
theorem MapOr.at {w:World} {mb:Option Nat} {n b:Nat} {f:Int→Option Value} (h:MapOr w mb n f) (e:mb=some b):MapAt w b n f:=by
 rcases h with ⟨e1,_⟩ | ⟨b',e1,h⟩
 ·rw [e] at e1;cases e1
 ·rw [e] at e1;cases e1;exact h
theorem RunAt.locks {base N:Nat} {w w':World} {r:Nat} {V:RunV} {s:LS} (h:RunAt base w r V s) {mb':Nat→Option Nat} {ex':Nat→Int} {f':Nat→Int→Option Value} {sh':Nat→Int→Bool} (hl:Lk w' r mb' ex' f' N [V.vd,V.va,.map (some V.bw)]) (hmb:∀ i,i < 6→mb' i=V.mb i∨∃ b,mb' i=some b∧w.heap.size≤b) (hk:Keep (fun k=>k=r∨∃ i,i < 6∧V.mb i=some k) w w') (hsh:∀ i y,i < 6→(kI y).wf=true→(f' i y).isSome=sh' i y) (hkeys:∀ i y,i < 6→(kI y).wf=true→sh' i y=true→1≤y∧y≤6) (hexs:∀ i,i < 6→0≤ex' i∧ex' i≤6) (hb:base≤w.heap.size):RunAt base w' r {V with mb:=mb',f:=f' } {s with ex:=ex',sh:=sh' }:=by
 have A:∀ g cur t fz,w.heap[g]?=some (.cells cur t fz)→t≠200→¬ (g=r∨∃ i,i < 6∧V.mb i=some g):=by
  intro g cur t fz hg ht;rintro (e | ⟨i,hi,e⟩)
  ·subst e;have hb:=h.lk.blk;unfold Blk at hb;rw [hg] at hb;have e2:=Option.some.inj hb;injection e2 with _ e3;exact ht e3
  ·exact ((h.lk.maps i hi).at e).ne_cells hg rfl
 have C:¬ (V.bw=r∨∃ i,i < 6∧V.mb i=some V.bw):=by
  rintro (e | ⟨i,hi,e⟩)
  ·exact h.wt.map.ne_cells h.lk.blk e
  ·exact h.ne i hi e
 refine ⟨⟨hl.blk,fun i hi=>(hl.maps i hi).tight (fun y hy e=>hkeys i y hi hy ((hsh i y hi hy).symm.trans e)),hl.apart⟩,hsh,hkeys,hexs,?_,?_,?_,?_,h.ge,?_⟩
 ·exact x_b h.done hk (fun g hg=>by obtain ⟨cur,fz,hc⟩:=x_j h.done hg;exact A g cur _ fz hc (by decide))
 ·exact x_b h.ab hk (fun g hg=>by obtain ⟨cur,fz,hc⟩:=x_j h.ab hg;exact A g cur _ fz hc (by decide))
 ·exact h.wt.keep hk C (fun t v g ht e hg=>by obtain ⟨cur,fz,hc⟩:=x_z (h.wt.win t v ht e) hg;exact A g cur _ fz hc (by decide))
 ·intro i hi e;rcases hmb i hi with e1 | ⟨b,e1,hb⟩
  ·exact h.ne i hi (e1.symm.trans e)
  ·have e2:b=V.bw:=Option.some.inj (e1.symm.trans e);have:=h.wt.map.lt;omega
 ·intro i b hi e;rcases hmb i hi with e1 | ⟨b',e1,G⟩
  ·exact h.mge i b hi (e1.symm.trans e)
  ·have e2:b'=b:=Option.some.inj (e1.symm.trans e);omega
theorem RunAt.fp_ge {base:Nat} {w:World} {r:Nat} {V:RunV} {s:LS} (h:RunAt base w r V s) {k:Nat} (hk:V.fp r k):base≤k∧k < w.heap.size:=by
 rcases hk with rfl | rfl | e | e | ⟨i,hi,e⟩ | ⟨t,v,ht,e,hg⟩
 ·exact ⟨h.ge,h.lk.blk.lt⟩
 ·exact ⟨h.wt.ge,h.wt.map.lt⟩
 ·exact x_d h.done k e
 ·exact x_d h.ab k e
 ·exact ⟨h.mge i k hi e,((h.lk.maps i hi).at e).lt⟩
 ·exact (h.wt.win t v ht e).lt k hg
theorem hind_of {base:Nat} {w:World} {r:Nat} {V:RunV} {s:LS} (h:RunAt base w r V s) {o:LOp} (ho:OpOK o) (y:Int):HindP (s.ex o.2.2.toNat) o.1 o.2.1 (V.f o.2.2.toNat) y↔Hd s o y:=by
 have hi:o.2.2.toNat < 6:=(by have:=ho.2.2.2.2;omega);unfold HindP Hd;constructor
 ·rintro (q | ⟨q1,q2,q3,q4⟩)
  ·exact .inl q
  ·exact .inr ⟨q1,q2,(h.sh _ y hi q2).symm.trans q3,q4⟩
 ·rintro (q | ⟨q1,q2,q3,q4⟩)
  ·exact .inl q
  ·exact .inr ⟨q1,q2,(h.sh _ y hi q2).trans q3,q4⟩
theorem x_s {mb:Nat→Option Nat} {ex:Nat→Int} {rest:List Value} {j:Nat}:(lockCells mb ex rest)[12+j]?=rest[j]?:=by
 unfold lockCells;rw [Array.getElem?_append_right (by simp)];simp
theorem lock_set_rest {mb:Nat→Option Nat} {ex:Nat→Int} {rest:List Value} {j:Nat} (v:Value):(lockCells mb ex rest).setIfInBounds (12+j) v=lockCells mb ex (rest.set j v):=by
 unfold lockCells;rw [Array.setIfInBounds_append_right (by simp)];simp
theorem Lk.setRest {w:World} {r N:Nat} {mb:Nat→Option Nat} {ex:Nat→Int} {f:Nat→Int→Option Value} {rest:List Value} (h:Lk w r mb ex f N rest) (j:Nat) (v:Value):Lk (w.setCell ⟨r,12+j,none⟩ v) r mb ex f N (rest.set j v):=by
 have k:Keep (fun k=>k=r) w (w.setCell ⟨r,12+j,none⟩ v):=(Keep.refl _ _).setCell _ _ (fun _=>rfl);refine ⟨by rw [← lock_set_rest];exact h.blk.set _ _,fun i hi=>(h.maps i hi).keep k (fun b hb e=>?_),h.apart⟩;exact ((h.maps i hi).at hb).ne_cells h.blk e
theorem RunAt.notLk {base:Nat} {w:World} {r:Nat} {V:RunV} {s:LS} (h:RunAt base w r V s) {g:Nat} {cur:Array Value} {t:TypeId} {fz:Nat × Nat} (hg:w.heap[g]?=some (.cells cur t fz)) (ht:t≠200):g≠r∧g≠V.bw∧∀ i,i < 6→V.mb i≠some g:=by
 refine ⟨fun e=>?_,fun e=>h.wt.map.ne_cells hg e.symm,fun i hi e=>((h.lk.maps i hi).at e).ne_cells hg rfl⟩;subst e;have hb:=h.lk.blk;unfold Blk at hb;rw [hg] at hb;have e2:=Option.some.inj hb;injection e2 with _ e3;exact ht e3
theorem y_h {w:World} {g g':Nat} {c c':Array Value} {t t':TypeId} {z z':Nat × Nat} (h:w.heap[g]?=some (.cells c t z)) (h':w.heap[g']?=some (.cells c' t' z')) (hne:t≠t'):g≠g':=by
 intro e;subst e;rw [h] at h';have e2:=Option.some.inj h';injection e2 with _ e3;exact hne e3
theorem RunAt.pushDone {base:Nat} {w w7:World} {r:Nat} {V:RunV} {s:LS} (h:RunAt base w r V s) {v':Value} {o:LOp} (hk:Keep (fun k=>V.vd.ownBlock=some k) w w7) (hown:w7.ownsRow base 146 3 v' (s.done.length+1) (opsC (s.done++[o]))):RunAt base (w7.setCell ⟨r,12,none⟩ v') r {V with vd:=v' } {s with done:=s.done++[o]}:=by
 have hd:∀ g,V.vd.ownBlock=some g→g≠r∧g≠V.bw∧∀ i,i < 6→V.mb i≠some g:=fun g hg=>(by obtain ⟨cur,fz,hc⟩:=x_j h.done hg;exact h.notLk hc (by decide));have M:Lk w7 r V.mb s.ex V.f 6 [V.vd,V.va,.map (some V.bw)]:=h.lk.keep hk (fun e=>(hd r e).1 rfl) (fun i b hi e e2=>(hd b e2).2.2 i hi e);have J:Keep (fun k=>k=r) w7 (w7.setCell ⟨r,12,none⟩ v'):=(Keep.refl _ _).setCell _ _ (fun _=>rfl);have C:=x_b h.ab hk (fun g hg e=>by obtain ⟨c1,z1,q1⟩:=x_j h.ab hg;obtain ⟨c2,z2,q2⟩:=x_j h.done e;exact y_h q1 q2 (by decide) rfl);have A:=h.wt.keep hk (fun e=>(hd _ e).2.1 rfl) (fun t v g ht e hg e2=>by obtain ⟨c1,z1,q1⟩:=x_z (h.wt.win t v ht e) hg;obtain ⟨c2,z2,q2⟩:=x_j h.done e2;exact y_h q1 q2 (by decide) rfl);have G:=M.blk;unfold Blk at G;refine ⟨M.setRest 0 v',h.sh,h.keys,h.exs,?_,?_,?_,h.ne,h.ge,h.mge⟩
 ·show (w7.setCell ⟨r,12,none⟩ v').ownsRow base 146 3 v' (s.done++[o]).length (opsC (s.done++[o]));rw [List.length_append];exact x_b hown J (fun g hg e=>by obtain ⟨c1,z1,q1⟩:=x_j hown hg;exact y_h q1 G (by decide) e)
 ·exact x_b C J (fun g hg e=>by obtain ⟨c1,z1,q1⟩:=x_j C hg;exact y_h q1 G (by decide) e)
 ·exact A.keep J (fun e=>A.map.ne_cells G e) (fun t v g ht e hg e2=>by obtain ⟨c1,z1,q1⟩:=x_z (A.win t v ht e) hg;exact y_h q1 G (by decide) e2)
theorem RunAt.pushAb {base:Nat} {w w7:World} {r:Nat} {V:RunV} {s:LS} (h:RunAt base w r V s) {v':Value} {t:Int} (hk:Keep (fun k=>V.va.ownBlock=some k) w w7) (hown:w7.ownsRow base 3 1 v' (s.ab.length+1) (icells (s.ab++[t]))):RunAt base (w7.setCell ⟨r,13,none⟩ v') r {V with va:=v' } {s with ab:=s.ab++[t]}:=by
 have hd:∀ g,V.va.ownBlock=some g→g≠r∧g≠V.bw∧∀ i,i < 6→V.mb i≠some g:=fun g hg=>(by obtain ⟨cur,fz,hc⟩:=x_j h.ab hg;exact h.notLk hc (by decide));have M:Lk w7 r V.mb s.ex V.f 6 [V.vd,V.va,.map (some V.bw)]:=h.lk.keep hk (fun e=>(hd r e).1 rfl) (fun i b hi e e2=>(hd b e2).2.2 i hi e);have J:Keep (fun k=>k=r) w7 (w7.setCell ⟨r,13,none⟩ v'):=(Keep.refl _ _).setCell _ _ (fun _=>rfl);have C:=x_b h.done hk (fun g hg e=>by obtain ⟨c1,z1,q1⟩:=x_j h.done hg;obtain ⟨c2,z2,q2⟩:=x_j h.ab e;exact y_h q1 q2 (by decide) rfl);have A:=h.wt.keep hk (fun e=>(hd _ e).2.1 rfl) (fun t v g ht e hg e2=>by obtain ⟨c1,z1,q1⟩:=x_z (h.wt.win t v ht e) hg;obtain ⟨c2,z2,q2⟩:=x_j h.ab e2;exact y_h q1 q2 (by decide) rfl);have G:=M.blk;unfold Blk at G;refine ⟨M.setRest 1 v',h.sh,h.keys,h.exs,?_,?_,?_,h.ne,h.ge,h.mge⟩
 ·exact x_b C J (fun g hg e=>by obtain ⟨c1,z1,q1⟩:=x_j C hg;exact y_h q1 G (by decide) e)
 ·show (w7.setCell ⟨r,13,none⟩ v').ownsRow base 3 1 v' (s.ab++[t]).length (icells (s.ab++[t]));rw [List.length_append];exact x_b hown J (fun g hg e=>by obtain ⟨c1,z1,q1⟩:=x_j hown hg;exact y_h q1 G (by decide) e)
 ·exact A.keep J (fun e=>A.map.ne_cells G e) (fun t v g ht e hg e2=>by obtain ⟨c1,z1,q1⟩:=x_z (A.win t v ht e) hg;exact y_h q1 G (by decide) e2)
theorem RunAt.setWt {base:Nat} {w w':World} {r:Nat} {V:RunV} {s:LS} (h:RunAt base w r V s) {t:Int} (ht:1≤t∧t≤6) {v':Value} {l:List (LOp × Int)} {n:Nat} (hm:MapAt w' V.bw n (fun y=>if y=t then some v' else V.vw y)) (hk:Keep (fun k=>k=V.bw∨∃ v0,V.vw t=some v0∧v0.ownBlock=some k) w w') (hwin:Win w' base 204 4 v' l.length (heldC l)) (hap:∀ u v g,(kI u).wf=true→u≠t→V.vw u=some v→v.ownBlock=some g→v'.ownBlock≠some g):RunAt base w' r {V with vw:=fun y=>if y=t then some v' else V.vw y} {s with wt:=updW s.wt t l}:=by
 have G:(kI t).wf=true:=z_u (by omega) (by omega)
 have A:∀ g cur t' fz,w.heap[g]?=some (.cells cur t' fz)→t'≠204→¬ (g=V.bw∨∃ v0,V.vw t=some v0∧v0.ownBlock=some g):=by
  intro g cur t' fz hg O;rintro (e | ⟨v0,e,C⟩)
  ·exact h.wt.map.ne_cells hg e.symm
  ·obtain ⟨c1,z1,q1⟩:=x_z (h.wt.win t v0 G e) C;exact y_h hg q1 O rfl
 have hr:=h.lk.blk;unfold Blk at hr;refine ⟨h.lk.keep hk (A r _ _ _ hr (by decide)) (fun i b hi e=>?_),h.sh,h.keys,h.exs,?_,?_,⟨?_,h.wt.ge,?_,?_,?_,?_⟩,h.ne,h.ge,h.mge⟩
 ·rintro (e2 | ⟨v0,e2,C⟩)
  ·exact h.ne i hi (by rw [e,e2])
  ·obtain ⟨c1,z1,q1⟩:=x_z (h.wt.win t v0 G e2) C;exact ((h.lk.maps i hi).at e).ne_cells q1 rfl
 ·exact x_b h.done hk (fun g hg=>by obtain ⟨cur,fz,hc⟩:=x_j h.done hg;exact A g cur _ fz hc (by decide))
 ·exact x_b h.ab hk (fun g hg=>by obtain ⟨cur,fz,hc⟩:=x_j h.ab hg;exact A g cur _ fz hc (by decide))
 ·refine hm.tight fun y hy e=>?_;by_cases ey:y=t
  ·subst ey;exact ht
  ·simp only [if_neg ey] at e;obtain ⟨v,hv⟩:=Option.isSome_iff_exists.1 e;exact h.wt.keys y v hy hv
 ·intro u hu e;unfold updW;by_cases eu:u=t
  ·simp [eu] at e
  ·simp only [if_neg eu] at e ⊢;exact h.wt.emp u hu e
 ·intro u v hu e;unfold updW;by_cases eu:u=t
  ·simp only [if_pos eu] at e ⊢;cases e;exact hwin
  ·simp only [if_neg eu] at e ⊢;refine (h.wt.win u v hu e).keep hk fun g hg=>?_;rintro (e2 | ⟨v0,e2,C⟩)
   ·obtain ⟨c1,z1,q1⟩:=x_z (h.wt.win u v hu e) hg;exact h.wt.map.ne_cells q1 e2.symm
   ·exact eu (h.wt.apart u t v v0 g hu G e e2 hg C)
 ·intro u1 u2 v1 v2 g J M e1 e2 g1 g2;by_cases a1:u1=t <;> by_cases a2:u2=t
  ·rw [a1,a2]
  ·simp only [if_pos a1] at e1;simp only [if_neg a2] at e2;cases e1;exact absurd g1 (hap u2 v2 g M a2 e2 g2)
  ·simp only [if_neg a1] at e1;simp only [if_pos a2] at e2;cases e2;exact absurd g2 (hap u1 v1 g J a1 e1 g1)
  ·simp only [if_neg a1] at e1;simp only [if_neg a2] at e2;exact h.wt.apart u1 u2 v1 v2 g J M e1 e2 g1 g2
 ·intro u v hu e;by_cases eu:u=t
  ·subst eu;exact ht
  ·simp only [if_neg eu] at e;exact h.wt.keys u v hu e
end Go.Proofs.YthdkamnclbfehaaGreatDoor
namespace Go.Proofs.YthdkamnclbfehaaGreatDoor
open Go.RowKit Tryz
theorem evalsL {a:Act} {k:Nat} {v:Value} (h:a.tmps[k]?.getD undef=v):a.eval (.tmp k)=v:=by rw [← h];simp [Act.eval]
theorem u_l (W:World):(zeroValue 202).run prog W = .ok (.slice none 0 0) W:=by kernel_rfl
theorem info146:(prog.info? 146).map (fun i=>(i.zero,i.size,i.bytes))=some (some (.agg #[.int .i64 0,.int .i64 0,.int .i64 0]),3,24):=by kernel_rfl
theorem run_tail (W:World) (g o n cap:Nat) (hn:1≤n):(Instr.slice 202 (.slice (some ⟨g,o,none⟩) n cap) (some (.int .i64 1)) none none).run prog W = .ok (.slice (some ⟨g,if cap=1 then o else o+4,none⟩) (n - 1) (cap - 1)) W:=by
 rw [run_slice_l W 202 (some ⟨g,o,none⟩) n cap (by kernel_rfl) .i64 1 (by omega) (by omega)];have h1:(sizeOf (prog.elem 202)).run prog W = .ok 4 W:=(by kernel_rfl);rw [h1];simp only [Result.andThen_ok,sliced];by_cases hc:cap=1
 ·subst hc;simp
 ·simp [hc,z_c]
theorem Win.tail' {w:World} {base:Nat} {e:TypeId} {size:Nat} {g o n cap:Nat} {xs:List Value} (h:Win w base e size (.slice (some ⟨g,o,none⟩) (n+1) cap) (n+1) xs):Win w base e size (.slice (some ⟨g,if cap=1 then o else o+size,none⟩) n (cap - 1)) n (xs.drop size):=by
 by_cases hc:cap=1
 ·rw [if_pos hc];have ht:=h.tail;rcases h.2 with ⟨hv,_⟩ | ⟨g',o',A,cur,hv,hb,hg,J,C,G,M⟩
  ·cases hv
  ·cases hv;have hn:n=0:=(by omega);subst hn;refine ⟨ht.1,.inr ⟨g,o,cap - 1,cur,rfl,hb,hg,by omega,by omega,?_,?_⟩⟩
   ·rw [hc];simp;omega
   ·have:=ht.1;simp at this;rw [hc] at *;simp;omega
 ·rw [if_neg hc];exact h.tail
def LkTryPost (base:Nat) (w:World) (r:Nat) (s:LS) (t:Int) (o:LOp) (rest:List (LOp × Int)) (e:Ending) (w':World):Prop:=
  (Hdd s o∧e = .returned (.bool false)∧Keep kF w w')∨(¬ Hdd s o∧e = .returned (.bool true)∧(∃ V',RunAt base w' r V' (doS s t o rest))∧Keep (fun k=>base≤k) w w')
theorem wt_first {base:Nat} {w:World} {r:Nat} {V:RunV} {s:LS} (h:RunAt base w r V s) {t:Int} (ht:1≤t∧t≤6) {x:LOp × Int} {rest:List (LOp × Int)} (hw:s.wt t=x::rest):∃ g o cap,V.vw t=some (.slice (some ⟨g,o,none⟩) (rest.length+1) cap)∧rest.length+1≤cap∧Win w base 204 4 (.slice (some ⟨g,o,none⟩) (rest.length+1) cap) (rest.length+1) (heldC (x::rest)):=by
 have C:(kI t).wf=true:=z_u (by omega) (by omega);cases hv:V.vw t with
 | none=>have:=h.wt.emp t C hv;rw [hw] at this;cases this
 | some v=>
  have A:=h.wt.win t v C hv;rw [hw] at A;rcases A.shape with ⟨_,h0⟩ | ⟨g,o,cap,rfl,hc,_⟩
  ·simp at h0
  ·exact ⟨g,o,cap,rfl,hc,A⟩
def takeEx (ex:Nat→Int) (k:Nat) (txn kind:Int):Nat→Int:=if kind=1 then (fun i=>if i=k then txn else ex i) else ex
def takeFn (f:Nat→Int→Option Value) (k:Nat) (txn kind:Int):Nat→Int→Option Value:=if kind=1 then f else (fun i=>if i=k then (fun y=>if y=txn then some (.bool true) else f k y) else f i)
theorem lkTake_any {w:World} {r N k:Nat} {mb:Nat→Option Nat} {ex:Nat→Int} {f:Nat→Int→Option Value} {rest:List Value} {txn kind:Int} (h:Lk w r mb ex f N rest) (hk:k < 6) (ht:(kI txn).wf=true) (hN:N≤1000):Calls prog 177 #[.pointer (some ⟨r,0,none⟩),.agg #[.int .i64 txn,.int .i64 kind,.int .i64 k]] w (LkPost w r mb (takeEx ex k txn kind) (takeFn f k txn kind) (N+1) rest):=by
 by_cases e:kind=1
 ·subst e;have h2:=take_w (txn:=txn) h hk;simpa [takeEx,takeFn] using h2
 ·have h2:=take_r (txn:=txn) (kind:=kind) h hk (by simpa using e) ht hN;simpa [takeEx,takeFn,e] using h2
theorem run_take {base:Nat} {w w':World} {r:Nat} {V:RunV} {s:LS} {e:Ending} (h:RunAt base w r V s) (hb:base≤w.heap.size) {txn kind:Int} {k:Nat} (ho:OpOK (txn,kind,(k:Int))) (hp:LkPost w r V.mb (takeEx s.ex k txn kind) (takeFn V.f k txn kind) 7 [V.vd,V.va,.map (some V.bw)] e w'):e = .returned (.tuple #[])∧(∃ V1,RunAt base w' r V1 (takeS s (txn,kind,(k:Int)))∧V1.bw=V.bw∧V1.vw=V.vw∧V1.vd=V.vd)∧Keep (fun j=>base≤j) w w'∧Keep (fun j=>j=r∨∃ i,i < 6∧V.mb i=some j) w w':=by
 obtain ⟨rfl,mb',hl,C,hk⟩:=hp;have ht:=ho.1;have G:=ho.2.1;have J:k < 6:=(by have:=ho.2.2.2.2.2;simp at this;omega);dsimp only at ht G
 have A:Keep (fun j=>base≤j) w w':=hk.mono (fun j hj q=>by
  rcases q with rfl | ⟨i,hi,q⟩
  ·exact h.ge
  ·exact h.mge i j hi q)
 by_cases ek:kind=1
 ·subst ek
  have hr:=h.locks (sh':=s.sh) (N:=7) (mb':=mb') (ex':=fun i=>if i=k then txn else s.ex i) (f':=V.f) (by simpa [takeEx,takeFn] using hl) C hk h.sh h.keys (fun i hi=>by
   by_cases e:i=k
   ·simp only [if_pos e];omega
   ·simp only [if_neg e];exact h.exs i hi) hb
  exact ⟨rfl,⟨{V with mb:=mb' },by simpa [takeS] using hr,rfl,rfl,rfl⟩,A,hk⟩
 ·have hr:=h.locks (sh':=fun i y=>if i=k∧y=txn then true else s.sh i y) (N:=7) (mb':=mb') (ex':=s.ex) (f':=takeFn V.f k txn kind) (by simpa [takeEx,ek] using hl) C hk (fun i y hi hy=>by
   simp only [takeFn,if_neg ek];by_cases e:i=k
   ·subst e;by_cases ey:y=txn
    ·simp [ey]
    ·simp [ey];exact h.sh i y hi hy
   ·simp [e];exact h.sh i y hi hy) (fun i y hi hy q=>by
   by_cases e:i=k∧y=txn
   ·omega
   ·rw [if_neg e] at q;exact h.keys i y hi hy q) h.exs hb
  exact ⟨rfl,⟨{V with mb:=mb',f:=takeFn V.f k txn kind},by simpa [takeS,ek] using hr,rfl,rfl,rfl⟩,A,hk⟩
theorem run_rel {base:Nat} {w w':World} {r:Nat} {V:RunV} {s:LS} {e:Ending} (h:RunAt base w r V s) (hb:base≤w.heap.size) {t:Int} (hp:LkPost w r V.mb (relEx s.ex t 6) (relF V.f t 6) 6 [V.vd,V.va,.map (some V.bw)] e w'):e = .returned (.tuple #[])∧(∃ V1,RunAt base w' r V1 (relS s t)∧V1.bw=V.bw∧V1.vw=V.vw∧V1.vd=V.vd)∧Keep (fun j=>base≤j) w w'∧Keep (fun j=>j=r∨∃ i,i < 6∧V.mb i=some j) w w':=by
 obtain ⟨rfl,mb',hl,C,hk⟩:=hp
 have A:Keep (fun j=>base≤j) w w':=hk.mono (fun j hj q=>by
  rcases q with rfl | ⟨i,hi,q⟩
  ·exact h.ge
  ·exact h.mge i j hi q)
 have hr:=h.locks (sh':=fun i y=>if i < 6∧y=t then false else s.sh i y) (N:=6) (mb':=mb') (ex':=relEx s.ex t 6) (f':=relF V.f t 6) hl C hk (fun i y hi hy=>by
  simp only [relF];by_cases e:i < 6∧y=t
  ·simp [e]
  ·rw [if_neg e,if_neg e];exact h.sh i y hi hy) (fun i y hi hy q=>by
  by_cases e:i < 6∧y=t
  ·rw [if_pos e] at q;cases q
  ·rw [if_neg e] at q;exact h.keys i y hi hy q) (fun i hi=>by
  unfold relEx;split
  ·omega
  ·exact h.exs i hi) hb
 exact ⟨rfl,⟨_,hr,rfl,rfl,rfl⟩,A,hk⟩
theorem lkTry_any {base:Nat} {w:World} {r:Nat} {V:RunV} {s:LS} {t at_:Int} {o:LOp} {rest:List (LOp × Int)} (h:RunAt base w r V s) (hb:base≤w.heap.size) (ht:1≤t∧t≤6) (hw:s.wt t=(o,at_)::rest) (ho:OpOK o) (hot:o.1=t) (hl:s.done.length≤1000) (hl2:rest.length≤1000):Calls prog 147 #[.pointer (some ⟨r,0,none⟩),.int .i64 t] w (LkTryPost base w r s t o rest):=by
 have aT:(kI t).wf=true:=z_u (by omega) (by omega);obtain ⟨g,oo,ad,hv,bA,Z⟩:=wt_first h ht hw;obtain ⟨txn,kind,aU⟩:=o;obtain ⟨k,hk⟩:=Int.eq_ofNat_of_zero_le ho.2.2.2.2.1;have bC:aU=(k:Int):=hk;subst bC;have ae:k < 6:=(by have:=ho.2.2.2.2.2;simp at this;omega);have bH:txn=t:=hot;subst bH;have aY:w.cell? ⟨r,14,none⟩=some (.map (some V.bw)):=(by rw [h.lk.blk.cell];exact x_s (j:=2));have ar:=h.wt.map.look underlying193 u_l aT;rw [hv] at ar;have d0:w.cell? ⟨g,oo,none⟩=some (.int .i64 txn):=Z.cell (j:=0) (by simp [heldC,opC]);have d1:w.cell? ⟨g,oo+1,none⟩=some (.int .i64 kind):=Z.cell (j:=1) (by simp [heldC,opC]);have d2:w.cell? ⟨g,oo+2,none⟩=some (.int .i64 k):=Z.cell (j:=2) (by simp [heldC,opC]);have bE:((0:Int) < ((rest.length+1:Nat):Int))=True:=eq_true (by omega);have H:=hD h;have aH:=hD hb;have HV:=hD hv;have bK:=hD Z;have HO:=hD ho;have HW:=hD hw;have aq:=hD aT;have hr:=h.lk.blk.lt;simp only [Option.getD_some] at ar;clear h hv Z ho hw aT hk hot hb;go_enter func147,ntmps147;go_upto_region 2 with fail
 obtain ⟨w1,aF⟩:∃ w1,w1=w.alloc (.cells #[.int .i64 txn,.int .i64 kind,.int .i64 k] 146):=⟨_,rfl⟩;have an:Hid (Keep kF w w1):=hD (by rw [aF];exact (Keep.refl _ _).alloc _);have ak:Hid (Blk w1 w.heap.size #[.int .i64 txn,.int .i64 kind,.int .i64 k] 146):=hD (by rw [aF];exact Blk.new _ _ _);have H1:=hD (H.out.idle an.out);have e0:w1.cell? ⟨w.heap.size,0,none⟩=some (.int .i64 txn):=ak.out.cell 0;have e1:w1.cell? ⟨w.heap.size,1,none⟩=some (.int .i64 kind):=ak.out.cell 1;have e2:w1.cell? ⟨w.heap.size,2,none⟩=some (.int .i64 k):=ak.out.cell 2;rw [← aF];clear aF aY ar d0 d1 d2 bE;go_upto_if 17 with fail
 go_cut [] from 15 to 34 (fun wx=>¬ Hdd s (txn,kind,(k:Int))∧(∃ V1,RunAt base wx r V1 (actS s (txn,kind,(k:Int)))∧V1.bw=V.bw∧V1.vw=V.vw∧V1.vd=V.vd)∧Blk wx w.heap.size #[.int .i64 txn,.int .i64 kind,.int .i64 k] 146∧Keep (fun k=>base≤k) w wx)
 case first=>
  by_cases bj:kind≤1
  ·by_cases hH:Hdd s (txn,kind,(k:Int))
   ·have HH:=hD hH;clear hH;go_upto_region 3 with fail
    go_still_tail 4,(by kernel_rfl)
    change wpList _ _ _ _ _ w1.drew;go_wp2_with (go_at_call 150;refine Calls.mono (u_h (n:=6) (f:=V.f k) (x:=s.ex k) ae (by have e:w1.drew.cell? ⟨r,k,none⟩=w1.cell? ⟨r,k,none⟩:=rfl;rw [e,H1.out.lk.blk.cell];exact z_g ae) (by have e:w1.drew.cell? ⟨r,6+k,none⟩=w1.cell? ⟨r,6+k,none⟩:=rfl;rw [e,H1.out.lk.blk.cell];exact lock_ex ae) ((H1.out.lk.maps k ae).keep ((Keep.refl kF w1).drew) n3) (by omega)) ?_;rintro e w3 ⟨v3,l3,rfl,az,ay,aQ,ax⟩;obtain ⟨b3,aL,rfl,_⟩:=x_a az;have bF:0 < l3.length:=(by obtain ⟨y,hy⟩:=HH.out.2;have q:=(ay y).2 ((hind_of H1.out HO.out y).2 hy);exact List.length_pos_of_mem q);have ao:=hD ax;clear az ay aQ ax)
    go_ret;exact .inl ⟨HH.out,rfl,(an.out.drew).trans ao.out n3⟩
   ·have HH:=hD hH;have aV:=hD bj;clear hH;go_upto_region 3 with fail
    go_still_tail 4,(by kernel_rfl)
    change wpList _ _ _ _ _ w1.drew;go_upto_region 5 with (go_at_call 150;refine Calls.mono (u_h (n:=6) (f:=V.f k) (x:=s.ex k) ae (by have e:w1.drew.cell? ⟨r,k,none⟩=w1.cell? ⟨r,k,none⟩:=rfl;rw [e,H1.out.lk.blk.cell];exact z_g ae) (by have e:w1.drew.cell? ⟨r,6+k,none⟩=w1.cell? ⟨r,6+k,none⟩:=rfl;rw [e,H1.out.lk.blk.cell];exact lock_ex ae) ((H1.out.lk.maps k ae).keep ((Keep.refl kF w1).drew) n3) (by omega)) ?_;rintro e w3 ⟨v3,l3,rfl,az,ay,aQ,ax⟩;obtain ⟨b3,aL,rfl,_⟩:=x_a az;have bF:¬ 0 < l3.length:=(by intro hp;obtain ⟨y,hy⟩:=List.exists_mem_of_length_pos hp;exact HH.out ⟨aV.out,y,(hind_of H1.out HO.out y).1 ((ay y).1 hy)⟩);have ao:=hD (((Keep.refl kF w1).drew).trans ax n3);clear az ay aQ ax)
    have HX:=hD ((H1.out.idle ao.out).idle ((Keep.refl kF w3).drew));have a8:=hD (ak.out.keep ao.out (fun e=>e));have bu:Hid (base≤w3.drew.heap.size):=hD (Nat.le_trans aH.out (Nat.le_trans an.out.size ao.out.size));have f0:w3.cell? ⟨w.heap.size,0,none⟩=some (.int .i64 txn):=a8.out.cell 0;have f1:w3.cell? ⟨w.heap.size,1,none⟩=some (.int .i64 kind):=a8.out.cell 1;have f2:w3.cell? ⟨w.heap.size,2,none⟩=some (.int .i64 k):=a8.out.cell 2;go_still_tail 4,(by kernel_rfl)
    change wpList _ _ _ _ _ w3.drew;go_wp2_with (go_at_call 177;refine Calls.mono (lkTake_any (N:=6) HX.out.lk ae aq.out (by omega)) ?_;intro e4 w4 a1;obtain ⟨rfl,av,U,X⟩:=run_take HX.out bu.out HO.out a1;have aK:=hD av;have al:=hD U;have am:=hD X;clear a1 av U X)
    go_meet
    refine ⟨HH.out,?_,?_,?_⟩
    ·have:=aK.out;unfold actS;rw [if_pos aV.out];exact this
    ·exact a8.out.keep (((Keep.refl _ w3).drew).trans am.out n3) (fun e=>by
      obtain ⟨q1,_,q3⟩:=H1.out.notLk ak.out (by decide);rcases e with e | ⟨i,hi,e⟩
      ·exact q1 e
      ·exact q3 i hi e)
    ·exact ((an.out.trans ao.out n3).mono (fun _ _ e=>e.elim)).trans (((Keep.refl _ w3).drew).trans al.out n3) n3
  ·have bD:1 < kind:=(by omega);clear bj;have bL:=hD (H1.out.idle ((Keep.refl kF w1).drew));go_wp2_with (go_at_call 149;refine Calls.mono (release_any (N:=6) H1.out.lk aq.out) ?_;intro e4 w4 a1;obtain ⟨rfl,av,U,X⟩:=run_rel H1.out (Nat.le_trans aH.out an.out.size) a1;have aK:=hD av;have al:=hD U;have am:=hD X;clear a1 av U X)
   go_meet
   refine ⟨fun q=>by have:=q.1;dsimp only at this;omega,?_,?_,?_⟩
   ·have:=aK.out;unfold actS;rw [if_neg (by dsimp only;omega)];exact this
   ·exact ak.out.keep am.out (fun e=>by
     obtain ⟨q1,_,q3⟩:=H1.out.notLk ak.out (by decide);rcases e with e | ⟨i,hi,e⟩
     ·exact q1 e
     ·exact q3 i hi e)
   ·exact (an.out.mono (fun _ _ e=>e.elim)).trans al.out n3
 case rest=>
  obtain ⟨bl,⟨V1,h4,bg,bq,bp⟩,aB,aC⟩:=hcut;obtain ⟨w4,br⟩:∃ w4,w4=wc:=⟨_,rfl⟩;rw [← br] at h4 aB aC ⊢;clear br;obtain ⟨s1,aD⟩:∃ s1,s1=actS s (txn,kind,(k:Int)):=⟨_,rfl⟩;rw [← aD] at h4;have hds:s1.done.length=s.done.length:=(by rw [aD,(actS_same _ _).1]);obtain ⟨ai,C,Y,_⟩:=x_a h4.done;have aO:∀ g,(Value.slice ai s1.done.length C).ownBlock=some g→g < w.heap.size:=fun g hg=>(by rw [← Y,bp] at hg;exact (x_d H.out.done g hg).2);have bN:w4.cell? ⟨r,12,none⟩=some (.slice ai s1.done.length C):=by rw [h4.lk.blk.cell,← Y];exact x_s (j:=0)
  have aw:∀ W,Keep (fun j=>j=r∨(Value.slice ai s1.done.length C).ownBlock=some j) w4 W→Blk W w.heap.size #[.int .i64 txn,.int .i64 kind,.int .i64 k] 146:=fun W hk=>aB.keep hk (fun e=>by
   rcases e with e | e
   ·exact (h4.notLk aB (by decide)).1 e
   ·exact absurd (aO _ e) (Nat.lt_irrefl _))
  have aG:=hD aw;have b1:=hD bl;have au:=hD (And.intro bg bq);have bJ:=hD Y;have aW:=hD aD;have b0:=hD aC;have bI:=hD aO;have ba:RunAt base w4 r {V1 with vd:=.slice ai s1.done.length C} s1:=(by rw [← Y];exact h4);have H4:=hD ba;have bB:s1.done.length≤1000:=(by omega);have b9:base≤w4.heap.size:=Nat.le_trans aH.out aC.size;have ah:Hid (∀ W,Keep (fun j=>j=r∨(Value.slice ai s1.done.length C).ownBlock=some j) w4 W→W.cell? ⟨w.heap.size,0,none⟩=some (.int .i64 txn)∧W.cell? ⟨w.heap.size,1,none⟩=some (.int .i64 kind)∧W.cell? ⟨w.heap.size,2,none⟩=some (.int .i64 k)):=hD fun W hk=>⟨(aG.out W hk).cell 0,(aG.out W hk).cell 1,(aG.out W hk).cell 2⟩;clear bl h4 ba bg bq bp aB aC aD hds Y aO aw e0 e1 e2;go_upto_region 7 with fail
  go_cut [] from 35 to 44 (fun wx=>(∃ V2,RunAt base wx r V2 {s1 with done:=s1.done++[(txn,kind,(k:Int))]}∧V2.bw=V1.bw∧V2.vw=V1.vw)∧Keep (fun j=>base≤j) w4 wx)
  case first=>
   rename_i Jq Kq b7 b8;refine x_m fun Q1 hQ1=>?_;have b2:=hD hQ1;clear hQ1;refine wp_region_noPanic ?_;refine wp_region_held_drew (S:=(fun W=>W.cell? ⟨w.heap.size,0,none⟩=some (.int .i64 txn)∧W.cell? ⟨w.heap.size,1,none⟩=some (.int .i64 kind)∧W.cell? ⟨w.heap.size,2,none⟩=some (.int .i64 k))) (by kernel_rfl) (ah.out _ ((Keep.refl _ _).drew)) fun hHeld=>?_;refine wL fun ac0 Z0=>?_;have HS:Hid (ac0.tmps.size=57):=hD (by rw [Z0.out];kernel_rfl);have e0:ac0.tmps[0]?.getD undef = .pointer (some ⟨r,0,none⟩):=(by rw [Z0.out];kernel_rfl);have e5:ac0.tmps[5]?.getD undef = .pointer (some ⟨w.heap.size,0,none⟩):=(by rw [Z0.out];kernel_rfl);refine wU 0 HS fun ac1 Z1 A HS=>?_;obtain ⟨e0,e5⟩:=p2 Z1 e0 e5;refine wU 1 HS fun ac2 Z2 G HS=>?_;obtain ⟨e0,e5,A⟩:=p3 Z2 e0 e5 A;refine wU 2 HS fun ac3 Z3 O HS=>?_;obtain ⟨e0,e5,A,G⟩:=p4 Z3 e0 e5 A G;refine wU 3 HS fun ac4 Z4 R HS=>?_;obtain ⟨e0,e5,A,G,O⟩:=p5 Z4 e0 e5 A G O;refine wU 5 HS fun ac5 Z5 ac HS=>?_;obtain ⟨e0,e5,A,G,O,R⟩:=p6 Z5 e0 e5 A G O R;refine wR (rs:=[4,6]) ?_;refine AllReadyH.cons (o:=_) rfl (fun K hK=>?_) (AllReadyH.cons (o:=_) rfl (fun K hK=>?_) AllReadyH.nil)
   focus
    go_simp;refine hK.out _ _ ?_ fun hHeld=>?_
    ·exact ah.out _ ((Keep.refl _ _).drew)
   rotate_left
   focus
    go_simp;refine hK.out _ _ ?_ fun hHeld=>?_
    ·first | exact ah.out _ (((Keep.refl _ _).alloc _).drew) | exact ah.out _ (((Keep.refl _ _).drew).alloc _)
   rotate_left
   all_goals
    clear hK K;refine wL fun ac6 Z6=>?_;obtain ⟨e0,e5,A,G,O,R⟩:=p6 Z6 e0 e5 A G O R;replace ac:=po Z6 ac
   focus
    have J:=pA Z6 HS;replace HS:=pS Z6 HS;refine wR (rs:=[6]) ?_
   rotate_left
   focus
    have M:=pA Z6 HS;replace HS:=pS Z6 HS;have b4:(w4.alloc (.cells #[.int .i64 txn,.int .i64 kind,.int .i64 k] 146)).cell? ⟨r,12,none⟩=some (.slice ai s1.done.length C):=(by rw [(H4.out.lk.blk.keep ((Keep.refl kF w4).alloc (.cells #[.int .i64 txn,.int .i64 kind,.int .i64 k] 146)) (fun e=>e)).cell];exact x_s (j:=0));refine wR (rs:=[4]) ?_
   rotate_left
   all_goals
    refine aR rfl fun K hK=>?_;go_simp;refine hK.out _ _ ?_ fun hHeld=>?_
    ·first | exact ah.out _ (((Keep.refl _ _).alloc _).drew) | exact ah.out _ (((Keep.refl _ _).drew).alloc _)
    clear hK K;refine wL fun ac7 Z7=>?_;obtain ⟨e0,e5,A,G,O,R⟩:=p6 Z7 e0 e5 A G O R;replace ac:=po Z7 ac
   focus
    replace J:=po Z7 J;have M:=pA Z7 HS
   rotate_left
   focus
    replace M:=po Z7 M;have J:=pA Z7 HS
   rotate_left
   all_goals
    replace HS:=pS Z7 HS;refine wB 7 fun K hK=>?_;have h6:=H4.out.idle (((Keep.refl kF w4).alloc (.cells #[.int .i64 txn,.int .i64 kind,.int .i64 k] 146)).drew);refine x_q (.tmp 39) (.tmp 41) 140 140 rfl 146 (.agg #[.int .i64 0,.int .i64 0,.int .i64 0]) 3 24 underlying140 info146 rfl h6.done (evalsL J) (((Rd.new w4 3 1 [.int .i64 txn,.int .i64 kind,.int .i64 k] 146 rfl (by simp [Value.oneCell']) (by unfold maxLen;omega)).keep ((Keep.refl kF _).drew) n3).src underlying140) (evalsL M) (by unfold maxLen;omega) (by omega) (Nat.le_trans b9 (((Keep.refl kF w4).alloc (.cells #[.int .i64 txn,.int .i64 kind,.int .i64 k] 146)).drew).size) (fun v' w7 happ=>?_);obtain ⟨bM,b5,rfl,_⟩:=x_a happ.own;have aM:=h6.lk.blk.keep happ.keep (fun e=>x_c h6.done h6.lk.blk (by decide) e);have d0:w7.cell? ⟨r,12,none⟩=some (.slice ai s1.done.length C):=(by rw [aM.cell];exact x_s (j:=0));have y0:=aM.free 12;have bh:Keep (fun j=>(Value.slice ai s1.done.length C).ownBlock=some j) w4 w7:=((((Keep.refl kF w4).alloc (.cells #[.int .i64 txn,.int .i64 kind,.int .i64 k] 146)).drew).mono (fun _ _ e=>e.elim)).trans happ.keep n3;have HP:=hD (h6.pushDone (o:=(txn,kind,(k:Int))) happ.keep (by have:=happ.own;rw [u_p];exact this));have aI:=hD bh;clear happ h6 aM bh;(try dsimp only);refine hK.out _ _ ?_ fun hHeld=>?_
    ·exact ah.out _ (aI.out.mono (fun _ _ e=>.inr e))
    clear hK K;refine wL fun ac8 Z8=>?_;obtain ⟨e0,e5,A,G,O,R⟩:=p6 Z8 e0 e5 A G O R;replace ac:=po Z8 ac
   focus
    replace J:=po Z8 J;replace M:=po Z8 M
   rotate_left
   focus
    replace M:=po Z8 M;replace J:=po Z8 J
   rotate_left
   all_goals
    have aA:=pA Z8 HS;replace HS:=pS Z8 HS;refine wt 8 ?_;refine wL fun ac9 Z9=>?_;obtain ⟨e0,e5,A,G,O,R⟩:=p6 Z9 e0 e5 A G O R;replace ac:=po Z9 ac
   focus
    replace J:=po Z9 J;replace M:=po Z9 M
   rotate_left
   focus
    replace M:=po Z9 M;replace J:=po Z9 J
   rotate_left
   all_goals
    replace aA:=po Z9 aA;have aZ:=pA Z9 HS;replace HS:=pS Z9 HS;refine wt 9 ?_;refine wL fun ac10 Z10=>?_;obtain ⟨e0,e5,A,G,O,R⟩:=p6 Z10 e0 e5 A G O R;replace ac:=po Z10 ac
   focus
    replace J:=po Z10 J;replace M:=po Z10 M
   rotate_left
   focus
    replace M:=po Z10 M;replace J:=po Z10 J
   rotate_left
   all_goals
    obtain ⟨aA,aZ⟩:=p2 Z10 aA aZ;have bO:=pA Z10 HS;replace HS:=pS Z10 HS;refine wA 10 fun K hK=>?_;go_simp;refine hK.out _ _ ?_ fun hHeld=>?_
    ·exact ah.out _ ((aI.out.mono (fun _ _ e=>.inr e)).setCell _ _ (fun _=>.inl rfl))
    clear hK K;refine wpAnyH_done (by kernel_rfl) ?_ _;refine NoPanic.normal ?_;rw [b2.out];have g0:=uE0 ac0 [35,36,37,38,39,40,41,42,43,44];have g1:=uF Z1 g0;have g2:=uF Z2 g1;have g3:=uF Z3 g2;have g4:=uF Z4 g3;have g5:=uF Z5 g4;have g6:=uF Z6 g5;have g7:=uF Z7 g6;have g8:=uF Z8 g7;have g9:=uF Z9 g8;have b6:=uF Z10 g9;obtain ⟨f,hf⟩:=b6;rw [Z0.out] at hf;refine b8 _ _ (Met.intro (b7 _ _ ?_));refine ⟨f 35,f 36,f 37,f 38,f 39,f 40,f 41,f 42,f 43,f 44,⟨⟨_,HP.out,rfl,rfl⟩,(aI.out.mono (fun g hg e=>(x_d H4.out.done g e).1)).setCell _ _ (fun _=>H4.out.ge)⟩,hf.trans (by kernel_rfl)⟩
  case rest=>
   obtain ⟨⟨V2,h8,bf,bn⟩,aP⟩:=hcut;obtain ⟨w8,bt⟩:∃ w8,w8=wc:=⟨_,rfl⟩;rw [← bt] at h8 aP ⊢;clear bt;have H8:=hD h8;have bx:=hD (b0.out.trans aP n3);have a6:V2.vw=V.vw:=bn.trans au.out.2;have aN:V2.bw=V.bw:=bf.trans au.out.1;have hst:s1.done=s.done∧s1.ab=s.ab∧s1.wt=s.wt:=(by rw [aW.out];exact actS_same _ _);have aE:V2.vw txn=some (.slice (some ⟨g,oo,none⟩) (rest.length+1) ad):=(by rw [a6];exact HV.out);have a7:s1.wt txn=((txn,kind,(k:Int)),at_)::rest:=(by rw [hst.2.2];exact HW.out);have aj:Win w8 base 204 4 (.slice (some ⟨g,oo,none⟩) (rest.length+1) ad) (rest.length+1) (heldC (((txn,kind,(k:Int)),at_)::rest)):=(by have:=h8.wt.win txn _ aq.out aE;simp only [a7] at this;exact this);obtain ⟨o2,aS⟩:∃ o2,o2=if ad=1 then oo else oo+4:=⟨_,rfl⟩;have bP:∀ W,(Instr.slice 202 (.slice (some ⟨g,oo,none⟩) (rest.length+1) ad) (some (.int .i64 1)) none none).run prog W = .ok (.slice (some ⟨g,o2,none⟩) rest.length (ad - 1)) W:=fun W=>(by rw [aS];exact run_tail W g oo (rest.length+1) ad (by omega));have aa:=aj.tail';rw [← aS] at aa;have ed:(heldC (((txn,kind,(k:Int)),at_)::rest)).drop 4=heldC rest:=(by rw [heldC_cons];simp [opC]);rw [ed] at aa;have aY:w8.cell? ⟨r,14,none⟩=some (.map (some V2.bw)):=(by rw [h8.lk.blk.cell];exact x_s (j:=2));have ar:=(h8.wt.map.keep ((Keep.refl kF w8).drew) (fun e=>e)).look underlying193 u_l aq.out;rw [aE] at ar;simp only [Option.getD_some] at ar;obtain ⟨w9,bG,bk,bi,_⟩:=(h8.wt.map.keep ((Keep.refl kF w8).drew) (fun e=>e)).store underlying193 (by unfold maxLen;omega) aq.out (.slice (some ⟨g,o2,none⟩) rest.length (ad - 1));have ag:Keep (fun k=>k=V2.bw) w8 w9:=((Keep.refl (fun k=>k=V2.bw) w8).drew).trans bi n3
   have aJ:Hid (RunAt base w9 r {V2 with vw:=fun y=>if y=txn then some (.slice (some ⟨g,o2,none⟩) rest.length (ad - 1)) else V2.vw y} {s1 with done:=s1.done++[(txn,kind,(k:Int))],wt:=updW s1.wt txn rest}):=hD (h8.setWt ht bk (ag.mono (fun _ _ e=>.inl e)) (aa.keep ag (fun g' hg' e=>by
    obtain ⟨c1,z1,q1⟩:=x_z aa hg';exact h8.wt.map.ne_cells q1 e.symm)) (fun u v g' hu hne hv hg' e=>by
    have eg:g=g':=Option.some.inj e;subst eg;exact hne (h8.wt.apart u txn v _ g hu aq.out hv aE hg' rfl)))
   have aX:=hD hst;have bz:=hD (bx.out.trans ag (fun _ _ e=>by rw [e];exact H8.out.wt.ge));clear h8 aP bf bn a6 aN hst aE a7 aj aS aa ed bk bi ag;go_upto_region 8 with fail
   go_still_tail 12,(by kernel_rfl)
   change wpList _ _ _ _ _ w8.drew;go_wp2
   go_ret;refine .inr ⟨b1.out,rfl,⟨{V2 with vw:=fun y=>if y=txn then some (.slice (some ⟨g,o2,none⟩) rest.length (ad - 1)) else V2.vw y},?_⟩,bz.out⟩;have hr:=aJ.out;rw [aX.out.1,aX.out.2.2] at hr;have e:doS s txn (txn,kind,(k:Int)) rest = {s1 with done:=s.done++[(txn,kind,(k:Int))],wt:=updW s.wt txn rest}:=(by unfold doS;rw [← aW.out]);rw [e];exact hr
end Go.Proofs.YthdkamnclbfehaaGreatDoor
namespace Go.Proofs.YthdkamnclbfehaaGreatDoor
open Go.RowKit
def Edge (s:LS) (x y:Int):Prop:=∃ o at_ rest,s.wt x=(o,at_)::rest∧Hd s o y
inductive Reach (s:LS) (t:Int):Int→Prop
  | one {y:Int}:Edge s t y→Reach s t y
  | more {x y:Int}:Reach s t x→Edge s x y→Reach s t y
def unseen (seen:Int→Bool):Nat:=(([1,2,3,4,5,6]:List Int).filter (fun y=>!seen y)).length
theorem u_s {p q:Int→Bool} {y:Int}:∀ (l:List Int),l.Pairwise (fun a b=>a≠b)→(∀ z∈l,z≠y→p z=q z)→y∈l→p y=true→q y=false→(l.filter p).length=(l.filter q).length+1
  | [],_,_,h,_,_=>by cases h
  | z::l,hp,h,hy,h1,h2=>by
    have hpc:=List.pairwise_cons.1 hp
    by_cases e:z=y
    · subst e
      have hl:l.filter p=l.filter q:=List.filter_congr (fun a ha=>h a (by simp [ha]) (hpc.1 a ha).symm)
      rw [List.filter_cons,List.filter_cons,h1,h2,hl]
      simp
    · have hy':y∈l:=by
        rcases List.mem_cons.1 hy with e2 | e2
        · exact absurd e2.symm e
        · exact e2
      have ih:=u_s l hpc.2 (fun a ha=>h a (by simp [ha])) hy' h1 h2
      rw [List.filter_cons,List.filter_cons,h z (by simp) e]
      cases q z <;> simp [ih]
theorem unseen_step {seen:Int→Bool} {y:Int} (hy:1≤y∧y≤6) (h:seen y=false):unseen seen=unseen (fun z=>if z=y then true else seen z)+1:=by
 unfold unseen;refine u_s (y:=y) _ (by decide) (fun z _ hz=>by simp [hz]) ?_ (by simp [h]) (by simp);have:y=1∨y=2∨y=3∨y=4∨y=5∨y=6:=(by omega);rcases this with rfl | rfl | rfl | rfl | rfl | rfl <;> simp
structure Bfs (s:LS) (t:Int) (seen:Int→Bool) (q:List Int):Prop where
  sr:∀ y,seen y=true→Reach s t y∧1≤y∧y≤6∧y≠t
  qr:∀ x∈q,x=t∨seen x=true
  cl:∀ x,(x=t∨seen x=true)→x∉q→∀ y,Edge s x y→seen y=true
structure BfsIn (s:LS) (t x:Int) (seen:Int→Bool) (q pre:List Int):Prop where
  sr:∀ y,seen y=true→Reach s t y∧1≤y∧y≤6∧y≠t
  qr:∀ z∈q,z=t∨seen z=true
  cl:∀ z,(z=t∨seen z=true)→z∉q→z≠x→∀ y,Edge s z y→seen y=true
  pre:∀ y∈pre,seen y=true
  xr:x=t∨seen x=true
theorem Bfs.start (s:LS) (t:Int):Bfs s t (fun _=>false) [t]:=by
 refine ⟨fun y h=>(by cases h),fun x hx=>.inl (by simpa using hx),fun x h hx=>?_⟩;rcases h with h | h
 ·subst h;simp at hx
 ·cases h
theorem Bfs.enter {s:LS} {t x:Int} {seen:Int→Bool} {q:List Int} (h:Bfs s t seen (x::q)):BfsIn s t x seen q []:=
  ⟨h.sr,fun z hz=>h.qr z (by simp [hz]),fun z hz hq hx=>h.cl z hz (by simp [hx,hq]),fun y hy=>(by cases hy),h.qr x (by simp)⟩
theorem BfsIn.seen {s:LS} {t x y:Int} {seen:Int→Bool} {q pre:List Int} (h:BfsIn s t x seen q pre) (hy:seen y=true):BfsIn s t x seen q (pre++[y]):=by
 refine ⟨h.sr,h.qr,h.cl,fun z hz=>?_,h.xr⟩;rcases List.mem_append.1 hz with e | e
 ·exact h.pre z e
 ·simp at e;rw [e];exact hy
theorem BfsIn.push {s:LS} {t x y:Int} {seen:Int→Bool} {q pre:List Int} (h:BfsIn s t x seen q pre) (he:Edge s x y) (hy:1≤y∧y≤6) (hyt:y≠t):BfsIn s t x (fun z=>if z=y then true else seen z) (q++[y]) (pre++[y]):=by
 have A:Reach s t y:=by
  rcases h.xr with e | e
  ·exact .one (e ▸ he)
  ·exact .more (h.sr x e).1 he
 refine ⟨fun z hz=>?_,fun z hz=>?_,fun z hz hq hx w hw=>?_,fun z hz=>?_,?_⟩
 ·by_cases e:z=y
  ·rw [e];exact ⟨A,hy.1,hy.2,hyt⟩
  ·simp only [if_neg e] at hz;exact h.sr z hz
 ·rcases List.mem_append.1 hz with e | e
  ·rcases h.qr z e with e2 | e2
   ·exact .inl e2
   ·right;by_cases e3:z=y <;> simp [e3,e2]
  ·simp at e;right;simp [e]
 ·have C:z∉q:=fun e=>hq (by simp [e]);have G:z≠y:=fun e=>hq (by simp [e]);simp only [if_neg G] at hz;have:=h.cl z hz C hx w hw;by_cases e:w=y <;> simp [e,this]
 ·rcases List.mem_append.1 hz with e | e
  ·have:=h.pre z e;by_cases e3:z=y <;> simp [e3,this]
  ·simp at e;simp [e]
 ·rcases h.xr with e | e
  ·exact .inl e
  ·right;by_cases e3:x=y <;> simp [e3,e]
theorem BfsIn.leave {s:LS} {t x:Int} {seen:Int→Bool} {q pre:List Int} (h:BfsIn s t x seen q pre) (hp:∀ y,Edge s x y→y∈pre):Bfs s t seen q:=
  ⟨h.sr,h.qr,fun z hz hq y hy=>by
    by_cases e:z=x
    · subst e;exact h.pre y (hp y hy)
    · exact h.cl z hz hq e y hy⟩
theorem Bfs.done {s:LS} {t:Int} {seen:Int→Bool} (h:Bfs s t seen []):¬ Reach s t t:=by
 have key:∀ y,Reach s t y→seen y=true:=by
  intro y hy;induction hy with
  | one he=>exact h.cl t (.inl rfl) (by simp) _ he
  | more _ he ih=>exact h.cl _ (.inr ih) (by simp) _ he
 intro hr;exact (h.sr t (key t hr)).2.2.2 rfl
theorem Hd_range {base:Nat} {w:World} {r:Nat} {V:RunV} {s:LS} (h:RunAt base w r V s) {o:LOp} (ho:OpOK o) {y:Int} (hy:Hd s o y):1≤y∧y≤6:=by
 have hi:o.2.2.toNat < 6:=(by have:=ho.2.2.2.2;omega);rcases hy with ⟨h0,_,e⟩ | ⟨_,hw,hs,_⟩
 ·have:=h.exs _ hi;rw [e];omega
 ·exact h.keys _ y hi hw hs
end Go.Proofs.YthdkamnclbfehaaGreatDoor
namespace Go.Proofs.YthdkamnclbfehaaGreatDoor
open Go.RowKit Tryz
theorem run_tail34 (W:World) (g o n cap:Nat) (hn:1≤n):(Instr.slice 34 (.slice (some ⟨g,o,none⟩) n cap) (some (.int .i64 1)) none none).run prog W = .ok (.slice (some ⟨g,if cap=1 then o else o+1,none⟩) (n - 1) (cap - 1)) W:=by
 rw [run_slice_l W 34 (some ⟨g,o,none⟩) n cap (by kernel_rfl) .i64 1 (by omega) (by omega)];have h1:(sizeOf (prog.elem 34)).run prog W = .ok 1 W:=(by kernel_rfl);rw [h1];simp only [Result.andThen_ok,sliced];by_cases hc:cap=1
 ·subst hc;simp
 ·simp [hc,z_c]
theorem zero4 (W:World):(zeroValue 4).run prog W = .ok (.bool false) W:=by kernel_rfl
def seenF (seen:Int→Bool):Int→Option Value:=fun y=>if seen y=true then some (.bool true) else none
def CRel (w:World) (s:LS) (t:Int) (gh:Nat) (v:Value) (wr:World):Prop:=
  ∃ (seen:Int→Bool) (q:List Int),gh=q.length+unseen seen∧gh≤7∧MapAt wr w.heap.size 6 (seenF seen)∧Win wr w.heap.size 3 1 v q.length (icells q)∧Bfs s t seen q∧Keep kF w wr
def CIn (w:World) (s:LS) (t x:Int) (l:List Int) (lv:Value) (B m gh:Nat) (v c:Value) (wx:World):Prop:=
  ∃ (i:Nat) (seen:Int→Bool) (q:List Int),gh=l.length - i∧i≤l.length∧c = .int .i64 i∧BfsIn s t x seen q (l.take i)∧q.length+unseen seen=m∧MapAt wx w.heap.size 6 (seenF seen)∧Win wx w.heap.size 3 1 v q.length (icells q)∧
    wx.ownsRow B 3 1 lv l.length (icells l)∧(∀ g,lv.ownBlock=some g→v.ownBlock≠some g)∧Keep kF w wx
def CirclePost (w:World) (s:LS) (t:Int) (e:Ending) (w':World):Prop:=∃ b:Bool,e = .returned (.bool b)∧(b=true↔Reach s t t)∧Keep kF w w'
theorem circle_any {base:Nat} {w:World} {r:Nat} {V:RunV} {s:LS} {t:Int} (h:RunAt base w r V s) (ht:1≤t∧t≤6) (hops:∀ x o a rest,s.wt x=(o,a)::rest→OpOK o):Calls prog 148 #[.pointer (some ⟨r,0,none⟩),.int .i64 t] w (CirclePost w s t):=by
 have H:=hD h;clear h;have HO:=hD hops;clear hops;have bS:=@run_makeMap prog;go_enter func148,ntmps148;go_wp2_with fail
 go_loopg [6] 7 (fun gh v wr=>CRel w s t gh v wr)
 case atStart=>
  have ks:=((Keep.refl kF w).alloc (.map #[] 0)).alloc (.cells #[.int .i64 t] 3);refine ⟨fun _=>false,[t],rfl,by omega,?_,?_,Bfs.start s t,ks⟩
  ·have:=((MapAt.made w).mono (Nat.zero_le 6)).keep ((Keep.refl kF (w.alloc (.map #[] 0))).alloc (.cells #[.int .i64 t] 3)) (fun e=>e);exact this
  ·refine ⟨rfl,.inr ⟨_,0,1,#[.int .i64 t],rfl,by simp,(by rw [show w.heap.size+1=(w.alloc (.map #[] 0)).heap.size by simp];exact heap_alloc_new _ _),by simp,by unfold maxLen;omega,by simp,by simp [icells]⟩⟩
 case round=>
  obtain ⟨seen,q,hgh,bD,hm,Z,C,hk⟩:=hrel;have an:=hD hk;have HM:=hD hm;have b7:=hD Z;cases q with
  | nil=>
   have HB:=hD C;clear hk hm Z C hgh;rcases b7.out.shape with ⟨rfl,_⟩ | ⟨g,o,ba,rfl,_,_⟩
   ·go_wp2_with fail
    go_ret;exact ⟨false,rfl,by simpa using HB.out.done,an.out⟩
   ·simp only [List.length_nil];go_wp2_with fail
    go_ret;exact ⟨false,rfl,by simpa using HB.out.done,an.out⟩
  | cons x q=>
   have hx:1≤x∧x≤6:=by
    rcases C.qr x (by simp) with e | e
    ·rw [e];exact ht
    ·exact ⟨(C.sr x e).2.1,(C.sr x e).2.2.1⟩
   have aK:(kI x).wf=true:=z_u (by omega) (by omega);have G:Win wr w.heap.size 3 1 _ (q.length+1) (icells (x::q)):=Z;rcases G.shape with ⟨_,h0⟩ | ⟨g,o,ba,rfl,hc,bK⟩
   ·exact absurd h0 (by omega)
   have cq:wr.cell? ⟨g,o,none⟩=some (.int .i64 x):=G.cell (j:=0) (by simp [icells]);have aY:=hD G.tail';have ai:=H.out.idle hk;have bA:wr.cell? ⟨r,14,none⟩=some (.map (some V.bw)):=(by rw [ai.lk.blk.cell];exact x_s (j:=2));have ar:=ai.wt.map.look underlying193 u_l aK;have bV:0 < q.length+1:=(by omega);have HR:=hD ai;have b8:=hD aK;have aO:=hD C;have bM:q.length+1+unseen seen=gk:=hgh.symm;(try simp only [List.length_cons]);clear hk hm Z G C hgh aK;go_upto_region 5 with fail
   go_cut [6] from 17 to 21 (fun s6 wx=>wx=wr∧∃ o2 c2,s6 = .slice (some ⟨g,o2,none⟩) q.length c2∧Win wr w.heap.size 3 1 (.slice (some ⟨g,o2,none⟩) q.length c2) q.length (icells q))
   case first=>
    have bh:(icells (x::q)).drop 1=icells q:=rfl;have aP:=hD bh;clear bh ar;by_cases aH:ba=1
    ·have hw:=aY.out;rw [if_pos aH,aP.out] at hw;subst aH;obtain rfl:q=[]:=List.eq_nil_of_length_eq_zero (by omega);have HW:=hD hw;clear hw;go_wp2_with fail
     go_meet
     exact ⟨rfl,_,_,rfl,HW.out⟩
    ·have hw:=aY.out;rw [if_neg aH,aP.out] at hw;have HW:=hD hw;clear hw;go_wp2_with fail
     go_meet
     exact ⟨rfl,_,_,rfl,HW.out⟩
   case rest=>
    obtain ⟨rfl,o2,c2,rfl,ac⟩:=hcut;have aC:=hD ac;clear ac;cases ak:s.wt x with
    | nil=>
     have HB:Hid (Bfs s t seen q):=hD (aO.out.enter.leave (fun y hy=>by obtain ⟨o,a,rs,e,_⟩:=hy;rw [ak] at e;cases e))
     have az:∃ lo lc,(V.vw x).getD (.slice none 0 0) = .slice lo 0 lc:=by
      cases hv:V.vw x with
      | none=>exact ⟨none,0,rfl⟩
      | some v=>
       have bt:=ai.wt.win x v b8.out hv;rw [ak] at bt;rcases bt.shape with ⟨e,_⟩ | ⟨g3,o3,c3,e,_⟩
       ·exact ⟨_,_,by rw [Option.getD_some,e]⟩
       ·exact ⟨_,_,by rw [Option.getD_some,e];rfl⟩
     obtain ⟨lo,lc,az⟩:=az;rw [az] at ar;clear ak az ai;go_wp2_with fail
     go_roundg (q.length+unseen seen)
     case measure=>omega
     case rel=>exact ⟨seen,q,rfl,by omega,HM.out,aC.out,HB.out,an.out⟩
    | cons p rest=>
     obtain ⟨⟨txn,kind,aM⟩,at_⟩:=p;have ho:=HO.out x _ _ _ ak;obtain ⟨k,hk⟩:=Int.eq_ofNat_of_zero_le ho.2.2.2.2.1;have bE:aM=(k:Int):=hk;subst bE;have ay:k < 6:=(by have:=ho.2.2.2.2.2;simp at this;omega);obtain ⟨g3,o3,bB,br,bg,J⟩:=wt_first ai hx ak;rw [br] at ar;simp only [Option.getD_some] at ar;have d0:wc.cell? ⟨g3,o3,none⟩=some (.int .i64 txn):=J.cell (j:=0) (by simp [heldC,opC]);have d1:wc.cell? ⟨g3,o3+1,none⟩=some (.int .i64 kind):=J.cell (j:=1) (by simp [heldC,opC]);have d2:wc.cell? ⟨g3,o3+2,none⟩=some (.int .i64 k):=J.cell (j:=2) (by simp [heldC,opC]);have bF:((0:Int) < ((rest.length+1:Nat):Int))=True:=eq_true (by omega);have bG:(((rest.length+1:Nat):Int) == 0)=false:=(by simp;omega);have aV:=hD ho;have aZ:=hD ak;clear ho ak br J ai hk;go_upto_region 8 with fail
     have bx:Hid (∀ W,Keep kF wc W→W.cell? ⟨g3,o3,none⟩=some (.int .i64 txn)∧W.cell? ⟨g3,o3+1,none⟩=some (.int .i64 kind)∧W.cell? ⟨g3,o3+2,none⟩=some (.int .i64 k)):=hD fun W hk=>⟨(hk.cell (p:=⟨g3,o3,none⟩) (World.block_lt_of_cell? _ _ d0) (fun e=>e)).trans d0,(hk.cell (p:=⟨g3,o3+1,none⟩) (World.block_lt_of_cell? _ _ d1) (fun e=>e)).trans d1,(hk.cell (p:=⟨g3,o3+2,none⟩) (World.block_lt_of_cell? _ _ d2) (fun e=>e)).trans d2⟩;have ad:Hid (Keep kF wc wc):=hD (Keep.refl _ _);have b4:Hid (∀ W,Keep kF wc W→Calls prog 150 #[.pointer (some ⟨r,0,none⟩),.agg #[.int .i64 txn,.int .i64 kind,.int .i64 k]] W (HindPost W (s.ex k) txn kind (V.f k) 6)):=hD fun W hk=>(by have hR:=HR.out.idle hk;exact u_h (n:=6) (f:=V.f k) (x:=s.ex k) ay (by rw [hR.lk.blk.cell];exact z_g ay) (by rw [hR.lk.blk.cell];exact lock_ex ay) (hR.lk.maps k ay) (by omega));go_region_held3 (fun W=>W.cell? ⟨g3,o3,none⟩=some (.int .i64 txn)∧W.cell? ⟨g3,o3+1,none⟩=some (.int .i64 kind)∧W.cell? ⟨g3,o3+2,none⟩=some (.int .i64 k)) ((refine bx.out _ ?_;exact kX ad.out)) ((go_at_call 150;refine Calls.mono (b4.out _ (by exact kX ad.out)) ?_;rintro e w5 ⟨v5,l,rfl,aI,bk,bT,bj⟩;obtain ⟨aN,a7,rfl,_⟩:=x_a aI;have ad:=hD (ad.out.trans ((((Keep.refl kF wc).drewN _)).trans bj n3) n3);have b3:=hD aI;have b0:=hD bk;clear aI bk bj))
     have aF:w5.ownsRow wc.heap.size 3 1 (.slice aN l.length a7) l.length (icells l):=b3.out;have aG:=hD aF;have bW:w.heap.size≤wc.heap.size:=an.out.size;have bf:∀ y,y∈l↔Hd s (txn,kind,(k:Int)) y:=fun y=>(by have h1:=b0.out y;exact h1.trans (hind_of HR.out aV.out y));have aQ:=hD bf;have bz:=hD (an.out.trans ad.out n3);have b1:=hD (HM.out.keep ad.out (fun e=>e));have b6:=hD (aC.out.keep ad.out n3);have aq:∀ g',(Value.slice aN l.length a7).ownBlock=some g'→(Value.slice (some ⟨g,o2,none⟩) q.length c2).ownBlock≠some g':=fun g' M e=>(by have h1:=(x_d aF g' M).1;have h2:=(aC.out.lt g' e).2;omega);have aA:=hD aq;clear aF bf aq bF bG ar d0 d1 d2 bA cq;go_wp2_with fail
     go_loopg [6,40] l.length (fun gh v c wx=>CIn w s t x l (.slice aN l.length a7) wc.heap.size (q.length+unseen seen) gh v c wx)
     case atStart=>
      exact ⟨0,seen,q,by omega,by omega,rfl,by rw [List.take_zero];exact aO.out.enter,rfl,b1.out,b6.out,aG.out,aA.out,bz.out⟩
     case round=>
      obtain ⟨i,A,q2,bL,bP,rfl,U,bn,R,aa,Y,ao,ag⟩:=hrel;by_cases hi:i < l.length
      ·obtain ⟨y,hy⟩:∃ y,l[i]?=some y:=⟨_,List.getElem?_eq_getElem hi⟩;have a6:y∈l:=List.mem_of_getElem? hy;have au:=(aQ.out y).1 a6;have al:=Hd_range HR.out aV.out au;have am:(kI y).wf=true:=z_u (by omega) (by omega);have hE:Edge s x y:=⟨_,_,_,aZ.out,au⟩;have a1:l.take (i+1)=l.take i++[y]:=(by rw [List.take_add_one,hy];rfl);have hms:=bn;rcases Y.2 with ⟨e,h0⟩ | ⟨g5,bC,cur,e,_⟩
       ·exact absurd hi (by omega)
       have e':=e;injection e' with e1 e2 e3;subst e1;have cy:=Y.cells (g:=g5) rfl i (.int .i64 y) (by simp [icells,hy]);rw [z_c,Nat.zero_add] at cy;have bO:((i:Int) < (l.length:Int))=True:=eq_true (by omega);have bN:((0:Int)≤(i:Int))=True:=eq_true (by omega);have bQ:IntKind.i64.wrap ((i:Int)+1)=((i+1:Nat):Int):=(by rw [show ((i:Int)+1)=((i+1:Nat):Int) by omega];exact IntWalk.i64_in _ (by omega));have av:=hD U;have aX:=hD a1;have HE:=hD hE;have b9:=hD al;have bJ:=hD am;have aB:=hD R;have ae:=hD aa;have b2:=hD Y;have a8:=hD ao;have aw:=hD ag;have ah:=R.look underlying194 zero4 am;cases bu:(y == t)
       ·have O:y≠t:=(by simpa using bu);have aE:=hD O;clear O;cases aj:A y
        ·rw [show (seenF A y).getD (.bool false) = .bool false by simp [seenF,aj]] at ah;have bq:=unseen_step al aj;obtain ⟨w6,bp,bl,X,bI⟩:=R.store underlying194 (by unfold maxLen;omega) am (.bool true);have b5:=hD bq
         have aT:Hid (MapAt w6 w.heap.size 6 (seenF (fun z=>if z=y then true else A z))):=hD (by
          have ef:(fun z=>if z=y then some (.bool true) else seenF A z)=seenF (fun z=>if z=y then true else A z):=(by funext z;by_cases e:z=y <;> simp [seenF,e]);rw [← ef];refine bl.tight fun z hz e=>?_;by_cases ez:z=y
          ·rw [ez];exact al
          ·simp only [if_neg ez,seenF] at e;cases aL:A z with
           | true=>exact ⟨(U.sr z aL).2.1,(U.sr z aL).2.2.1⟩
           | false=>simp [aL] at e)
         have aD:Hid (Win w6 w.heap.size 3 1 _ q2.length (icells q2)):=hD (aa.keep X (fun g' M e=>by obtain ⟨c1,z1,q1⟩:=x_z aa M;exact R.ne_cells q1 e.symm));have aU:Hid (w6.ownsRow wc.heap.size 3 1 (.slice (some ⟨g5,0,none⟩) l.length a7) l.length (icells l)):=hD (x_b Y X (fun g' M e=>by obtain ⟨c1,z1,q1⟩:=x_j Y M;exact R.ne_cells q1 e.symm));have aS:Hid (Keep kF w w6):=hD (ag.trans X (fun i hi e=>by have e':i=w.heap.size:=e;omega));have aJ:w.heap.size≤w6.heap.size:=aS.out.size;have bH:q2.length≤10:=(by omega);have aW:=hD aj;clear U R aa Y ao ag hy a6 au al am hE a1 e e2 e3 aj bl X bI bq;go_wp2_with (at_builtin;refine wpList_win (w:=w6.alloc (.cells #[.int .i64 y] 3)) rfl (.tmp 53) (.tmp 55) 34 34 rfl 3 (.int .i64 0) 1 8 underlying34 v_h rfl (aD.out.keep ((Keep.refl kF w6).alloc (.cells #[.int .i64 y] 3)) n3) rfl (Src.new (P:=prog) underlying34 w6 1 [.int .i64 y] 3 rfl (by simp [Value.oneCell'])) rfl (by unfold maxLen;omega) (by omega) (Nat.le_trans aJ ((Keep.refl kF w6).alloc (.cells #[.int .i64 y] 3)).size) (fun v' w7 happ=>?_))
         have ka:=(Keep.refl kF w6).alloc (.cells #[.int .i64 y] 3);go_roundg (l.length - (i+1))
         case measure=>omega
         case rel=>
          refine ⟨i+1,(fun z=>if z=y then true else A z),q2++[y],rfl,by omega,rfl,by rw [aX.out];exact av.out.push HE.out b9.out aE.out,by have:=b5.out;simp only [List.length_append,List.length_singleton];omega,?_,?_,?_,?_,?_⟩
          ·exact (aT.out.keep ka (fun e=>e)).keep happ.keep (fun e=>by obtain ⟨c1,z1,q1⟩:=x_z (aD.out.keep ka n3) e;exact (aT.out.keep ka (fun e=>e)).ne_cells q1 rfl)
          ·have:=happ.own;simpa [icells,List.map_append] using this
          ·exact x_b (aU.out.alloc _) happ.keep (fun g' M e=>a8.out g' M e)
          ·intro g' M e;have bR:=(x_d aU.out g' M).2;rcases happ.fresh with e2 | ⟨g7,e2,bD⟩
           ·rw [e2] at e;exact a8.out g' M e
           ·rw [e2] at e;cases e;have:=ka.size;omega
          ·exact (aS.out.trans ka n3).trans happ.keep (fun g' M e=>by have:=(aD.out.lt g' e).1;omega)
        ·rw [show (seenF A y).getD (.bool false) = .bool true by simp [seenF,aj]] at ah;have aW:=hD aj;clear U R aa Y ao ag hy a6 au al am hE a1 e e2 e3 aj;go_wp2_with fail
         go_roundg (l.length - (i+1))
         case measure=>omega
         case rel=>exact ⟨i+1,A,q2,rfl,by omega,rfl,by rw [aX.out];exact av.out.seen aW.out,hms,aB.out,ae.out,b2.out,a8.out,aw.out⟩
       ·clear U R aa Y ao ag hy a6 au al am hE a1 e e2 e3 ah bn hms;have O:y=t:=(by simpa using bu);have aE:=hD O;clear O;go_wp2_with fail
        go_ret;refine ⟨true,rfl,⟨fun _=>?_,fun _=>rfl⟩,aw.out⟩;have ax:=HE.out;rw [aE.out] at ax;rcases av.out.xr with e | e
        ·rw [e] at ax;exact .one ax
        ·exact .more (av.out.sr x e).1 ax
      ·have bi:i=l.length:=(by omega);have HB:Hid (Bfs s t A q2):=hD (by rw [bi,List.take_length] at U;exact U.leave (fun y hy=>by obtain ⟨o',a',bX,e',h'⟩:=hy;rw [aZ.out] at e';cases e';exact (aQ.out y).2 h'));have bU:((i:Int) < (l.length:Int))=False:=eq_false (by omega);have aB:=hD R;have ae:=hD aa;have aw:=hD ag;clear U R aa Y ao ag hi bi;go_wp2_with fail
       go_roundg (q2.length+unseen A)
       case measure=>omega
       case rel=>exact ⟨A,q2,rfl,by omega,aB.out,ae.out,HB.out,aw.out⟩
end Go.Proofs.YthdkamnclbfehaaGreatDoor
namespace Go.Proofs.YthdkamnclbfehaaGreatDoor
open Go.RowKit
def tot (s:LS):Nat:=s.done.length+(s.wt 1).length+(s.wt 2).length+(s.wt 3).length+(s.wt 4).length+(s.wt 5).length+(s.wt 6).length
structure Ok (s:LS):Prop where
  ops:∀ x p,p∈s.wt x→OpOK p.1∧p.1.1=x
  tot:tot s≤100
  ab:s.ab.length≤s.done.length
theorem Ok.keys {s:LS} (h:Ok s) {x:Int} {p:LOp × Int} {rest:List (LOp × Int)} (e:s.wt x=p::rest):1≤x∧x≤6∧OpOK p.1∧p.1.1=x:=by
 obtain ⟨h1,h2⟩:=h.ops x p (by rw [e];simp);rw [← h2];exact ⟨h1.1,h1.2.1,h1,rfl⟩
theorem tot_wt {s:LS} {x:Int} (hx:1≤x∧x≤6):s.done.length+(s.wt x).length≤tot s:=by
 have:x=1∨x=2∨x=3∨x=4∨x=5∨x=6:=(by omega);unfold tot;rcases this with rfl | rfl | rfl | rfl | rfl | rfl <;> omega
theorem tot_upd (d:List LOp) (wt:Int→List (LOp × Int)) (s:LS) {x:Int} (hx:1≤x∧x≤6) (l:List (LOp × Int)) (h:wt=updW s.wt x l) (h2:d.length+l.length≤s.done.length+(s.wt x).length) (ab:List Int) (ex:Nat→Int) (sh:Nat→Int→Bool):tot {done:=d,ab:=ab,ex:=ex,sh:=sh,wt:=wt}≤tot s:=by
 have:x=1∨x=2∨x=3∨x=4∨x=5∨x=6:=(by omega);subst h;unfold tot updW;rcases this with rfl | rfl | rfl | rfl | rfl | rfl <;> simp <;> omega
theorem Ok.do_ {s:LS} (h:Ok s) {t at_:Int} {o:LOp} {rest:List (LOp × Int)} (e:s.wt t=(o,at_)::rest):Ok (doS s t o rest):=by
 obtain ⟨h1,h2,h3,h4⟩:=h.keys e;refine ⟨fun x p hp=>?_,?_,by have:=h.ab;show (actS s o).ab.length≤(s.done++[o]).length;rw [(actS_same s o).2.1];simp;omega⟩
 ·have A:p∈updW s.wt t rest x:=hp;unfold updW at A;by_cases ex:x=t
  ·rw [if_pos ex] at A;subst ex;exact h.ops x p (by rw [e];simp [A])
  ·rw [if_neg ex] at A;exact h.ops x p A
 ·refine Nat.le_trans ?_ h.tot;exact tot_upd (s.done++[o]) (updW s.wt t rest) s ⟨h1,h2⟩ rest rfl (by rw [e];simp;omega) _ _ _
theorem Ok.abort {s:LS} (h:Ok s) {t:Int} {p:LOp × Int} {rest:List (LOp × Int)} (e:s.wt t=p::rest):Ok (abortS s t):=by
 obtain ⟨h1,h2,h3,h4⟩:=h.keys e;refine ⟨fun x p hp=>?_,?_,by have:=h.ab;show (s.ab++[t]).length≤(s.done++[(t,3,0)]).length;simp;omega⟩
 ·have A:p∈updW s.wt t [] x:=hp;unfold updW at A;by_cases ex:x=t
  ·rw [if_pos ex] at A;cases A
  ·rw [if_neg ex] at A;exact h.ops x p A
 ·refine Nat.le_trans ?_ h.tot;exact tot_upd (s.done++[(t,3,0)]) (updW s.wt t []) s ⟨h1,h2⟩ [] rfl (by rw [e];simp) _ _ _
open Classical in
noncomputable def goOnS:Nat→LS→Int→LS × Bool
  | 0,s,_=>(s,false)
  | n+1,s,t=>match s.wt t with
    | []=>(s,false)
    | (o,_)::rest=>if Hdd s o then (if Reach s t t then (abortS s t,true) else (s,false)) else ((goOnS n (doS s t o rest) t).1,decide (1 < o.2.1) || (goOnS n (doS s t o rest) t).2)
theorem y_e {s:LS} {t:Int} (e:s.wt t=[]) (n:Nat):goOnS n s t=(s,false):=by
 cases n with
 | zero=>rfl
 | succ n=>unfold goOnS;rw [e]
theorem x_x {s:LS} {t a:Int} {o:LOp} {rest:List (LOp × Int)} (e:s.wt t=(o,a)::rest) (h:Hdd s o) (hr:Reach s t t) (n:Nat):goOnS (n+1) s t=(abortS s t,true):=by
 unfold goOnS;rw [e];simp [h,hr]
theorem y_b {s:LS} {t a:Int} {o:LOp} {rest:List (LOp × Int)} (e:s.wt t=(o,a)::rest) (h:Hdd s o) (hr:¬ Reach s t t) (n:Nat):goOnS (n+1) s t=(s,false):=by
 unfold goOnS;rw [e];simp [h,hr]
theorem y_g {s:LS} {t a:Int} {o:LOp} {rest:List (LOp × Int)} (e:s.wt t=(o,a)::rest) (h:¬ Hdd s o) (n:Nat):goOnS (n+1) s t=((goOnS n (doS s t o rest) t).1,decide (1 < o.2.1) || (goOnS n (doS s t o rest) t).2):=by
 rw [goOnS];rw [e];simp [h]
theorem doS_wt (s:LS) (t:Int) (o:LOp) (rest:List (LOp × Int)):(doS s t o rest).wt t=rest:=by
 show updW s.wt t rest t=rest;simp [updW]
theorem goOnS_ok:∀ (n:Nat) (s:LS) (t:Int),Ok s→Ok (goOnS n s t).1:=by
 intro n;induction n with
 | zero=>intro s t h;exact h
 | succ n ih=>
  intro s t h;cases e:s.wt t with
  | nil=>rw [y_e e];exact h
  | cons p rest=>
   obtain ⟨o,a⟩:=p;by_cases hh:Hdd s o
   ·by_cases hr:Reach s t t
    ·rw [x_x e hh hr];exact h.abort e
    ·rw [y_b e hh hr];exact h
   ·rw [y_g e hh];exact ih _ t (h.do_ e)
end Go.Proofs.YthdkamnclbfehaaGreatDoor
namespace Go.Proofs.YthdkamnclbfehaaGreatDoor
open Go.RowKit Tryz
theorem wt_none {base:Nat} {w:World} {r:Nat} {V:RunV} {s:LS} (h:RunAt base w r V s) {x:Int} (hx:1≤x∧x≤6) (e:s.wt x=[]):∃ lo lc,(V.vw x).getD (.slice none 0 0) = .slice lo 0 lc:=by
 have C:(kI x).wf=true:=z_u (by omega) (by omega);cases hv:V.vw x with
 | none=>exact ⟨none,0,rfl⟩
 | some v=>
  have A:=h.wt.win x v C hv;rw [e] at A;rcases A.shape with ⟨e,_⟩ | ⟨g3,o3,c3,e,_⟩
  ·exact ⟨_,_,by rw [Option.getD_some,e]⟩
  ·exact ⟨_,_,by rw [Option.getD_some,e];rfl⟩
theorem circ_t {b:Bool} {P:Prop} (h:b=true↔P) (q:P):b=true:=h.2 q
theorem circ_f {b:Bool} {P:Prop} (h:b=true↔P) (q:¬ P):b=false:=by
 cases b with
 | false=>rfl
 | true=>exact absurd (h.1 rfl) q
def GoPost (base:Nat) (w:World) (r:Nat) (s:LS) (t:Int) (e:Ending) (w':World):Prop:=
  e = .returned (.bool (goOnS (s.wt t).length s t).2)∧(∃ V',RunAt base w' r V' (goOnS (s.wt t).length s t).1)∧Keep (fun k=>base≤k) w w'
def GRel (base:Nat) (w:World) (r:Nat) (s:LS) (t:Int) (gh:Nat) (v:Value) (wr:World):Prop:=
  ∃ (V':RunV) (s':LS) (b:Bool),gh=(s'.wt t).length∧v = .bool b∧RunAt base wr r V' s'∧Ok s'∧goOnS (s.wt t).length s t=((goOnS gh s' t).1,b || (goOnS gh s' t).2)∧Keep (fun k=>base≤k) w wr
theorem goOn_any {base:Nat} {w:World} {r:Nat} {V:RunV} {s:LS} {t:Int} (h:RunAt base w r V s) (hb:base≤w.heap.size) (ht:1≤t∧t≤6) (hok:Ok s):Calls prog 109 #[.pointer (some ⟨r,0,none⟩),.int .i64 t] w (GoPost base w r s t):=by
 have H:=hD h;clear h;have bg:=hD hok;clear hok;have ba:=hD hb;clear hb;have aW:(kI t).wf=true:=z_u (by omega) (by omega);have az:=hD aW;clear aW;go_enter func109,ntmps109;go_wp2_with fail
 go_loopg [5] (s.wt t).length (fun gh v wr=>GRel base w r s t gh v wr)
 case atStart=>exact ⟨V,s,false,rfl,rfl,H.out,bg.out,by simp,Keep.refl _ _⟩
 case round=>
  obtain ⟨V',s',b,hgh,rfl,M,A,aE,aq⟩:=hrel;have HR:=hD M;have ax:=hD A;have HG:=hD aE;have ad:=hD aq;have bp:wr.cell? ⟨r,14,none⟩=some (.map (some V'.bw)):=(by rw [M.lk.blk.cell];exact x_s (j:=2));have aH:=M.wt.map.look underlying193 u_l az.out;cases C:s'.wt t with
  | nil=>
   obtain ⟨lo,lc,aQ⟩:=wt_none M ht C;rw [aQ] at aH;have HW:=hD C;rw [C] at hgh;have R:=hD hgh;clear aQ M A aE aq C hgh;go_wp2_with fail
   go_ret;have hg:=HG.out;rw [y_e HW.out] at hg;exact ⟨by rw [hg];simp,⟨V',by rw [hg];exact HR.out⟩,ad.out⟩
  | cons p rest=>
   obtain ⟨⟨txn,kind,ao⟩,at_⟩:=p;obtain ⟨_,_,ho,aS⟩:=A.keys C;obtain ⟨g3,o3,bq,aX,aP,O⟩:=wt_first M ht C;rw [aX] at aH;simp only [Option.getD_some] at aH;have d1:wr.cell? ⟨g3,o3+1,none⟩=some (.int .i64 kind):=O.cell (j:=1) (by simp [heldC,opC]);have b0:((0:Int) < ((rest.length+1:Nat):Int))=True:=eq_true (by omega);have b1:0 < rest.length+1:=(by omega);have aV:=Nat.le_trans (tot_wt (s:=s') ht) A.tot;rw [C,List.length_cons] at aV;have bz:s'.done.length≤100:=(by omega);have bx:s'.ab.length≤100:=(by have:=A.ab;omega);have aD:base≤wr.heap.size:=Nat.le_trans ba.out aq.size;have a1:Hid (Calls prog 147 #[.pointer (some ⟨r,0,none⟩),.int .i64 t] wr (LkTryPost base wr r s' t (txn,kind,ao) rest)):=hD (lkTry_any M aD ht C ho aS (by omega) (by omega));rw [C,List.length_cons] at hgh;have R:=hD hgh;have HW:=hD C;have aZ:=hD aD;clear aX O M A aE aq C ho aS aV aD hgh;by_cases hH:Hdd s' (txn,kind,ao)
   ·have HH:=hD hH;clear hH;have ae:Hid (∀ x o a rest,s'.wt x=(o,a)::rest→OpOK o):=hD (fun x o a rs e=>(ax.out.keys e).2.2.1);by_cases ar:Reach s' t t
    ·have ah:=hD ar;clear ar;go_upto_region 7 with (first | (go_at_call 148;refine Calls.mono (circle_any (HR.out.idle G.out) ht ae.out) ?_;rintro e w4 ⟨b2,rfl,ai,ak⟩;obtain rfl:b2=true:=circ_t ai ah.out;have aa:=hD (G.out.trans ak n3);clear ai ak) | (go_at_call 147;refine Calls.mono a1.out ?_;rintro e w3 (⟨_,rfl,J⟩ | ⟨hh,_⟩);rotate_left;exact absurd HH.out hh;have G:=hD J;clear J))
     have h4:=HR.out.idle aa.out;obtain ⟨aA,W,aI,_⟩:=x_a h4.done;obtain ⟨a6,U,aY,_⟩:=x_a h4.ab;have aN:RunAt base w4 r {V' with vd:=.slice aA s'.done.length W,va:=.slice a6 s'.ab.length U} s':=(by rw [← aI,← aY];exact h4);have bl:w4.cell? ⟨r,12,none⟩=some (.slice aA s'.done.length W):=(by rw [h4.lk.blk.cell,← aI];exact x_s (j:=0));have H4:=hD aN;have aC:base≤w4.heap.size:=Nat.le_trans aZ.out aa.out.size;clear h4 aN aI aY;go_upto_region 8 with (at_builtin;go_loud (refine x_h (w:=w4.alloc (.cells #[.int .i64 t,.int .i64 3,.int .i64 0] 146)) rfl (.tmp 40) (.tmp 43) 140 140 rfl 146 (.agg #[.int .i64 0,.int .i64 0,.int .i64 0]) 3 24 underlying140 info146 rfl (H4.out.idle ((Keep.refl kF w4).alloc (.cells #[.int .i64 t,.int .i64 3,.int .i64 0] 146))).done rfl (Src.new (P:=prog) underlying140 w4 1 [.int .i64 t,.int .i64 3,.int .i64 0] 146 rfl (by simp [Value.oneCell'])) rfl (by unfold maxLen;omega) (by omega) (Nat.le_trans aC ((Keep.refl kF w4).alloc (.cells #[.int .i64 t,.int .i64 3,.int .i64 0] 146)).size) fun v7 w7 happ=>?_;obtain ⟨bj,a7,rfl,_⟩:=x_a happ.own;have h6:=H4.out.idle ((Keep.refl kF w4).alloc (.cells #[.int .i64 t,.int .i64 3,.int .i64 0] 146));have X:=h6.lk.blk.keep happ.keep (fun e=>x_c h6.done h6.lk.blk (by decide) e);have d0:w7.cell? ⟨r,12,none⟩=some (.slice aA s'.done.length W):=(X.cell 12).trans (x_s (j:=0));have y0:=X.free 12;have aK:=hD happ.keep;have HP:=hD (h6.pushDone (o:=(t,3,0)) happ.keep (by have:=happ.own;rw [u_p];exact this));clear happ h6 X))
     obtain ⟨w8,aJ⟩:∃ w8,w8=w7.setCell ⟨r,12,none⟩ (.slice bj (s'.done.length+1) a7):=⟨_,rfl⟩;have aF:Keep (fun k=>base≤k) w4 w8:=(by rw [aJ];exact ((((Keep.refl (fun k=>base≤k) w4).alloc (.cells #[.int .i64 t,.int .i64 3,.int .i64 0] 146)).trans aK.out (fun g hg e=>(x_d H4.out.done g e).1))).setCell _ _ (fun _=>H4.out.ge));have hp:=HP.out;rw [← aJ] at hp ⊢;have ay:=hD hp;have bf:=hD aF;have bn:w8.cell? ⟨r,13,none⟩=some (.slice a6 s'.ab.length U):=(hp.lk.blk.cell 13).trans (x_s (j:=1));have br:base≤w8.heap.size:=Nat.le_trans aC aF.size;clear hp aF aJ d0 y0 bl HP aK;go_upto_region 9 with (at_builtin;go_loud (refine x_h (w:=w8.alloc (.cells #[.int .i64 t] 3)) rfl (.tmp 51) (.tmp 53) 34 34 rfl 3 (.int .i64 0) 1 8 underlying34 v_h rfl (ay.out.idle ((Keep.refl kF w8).alloc (.cells #[.int .i64 t] 3))).ab rfl (Src.new (P:=prog) underlying34 w8 1 [.int .i64 t] 3 rfl (by simp [Value.oneCell'])) rfl (show s'.ab.length+1≤maxLen by unfold maxLen;omega) (show (s'.ab.length+1) * 8≤140737488355328 by omega) (Nat.le_trans br ((Keep.refl kF w8).alloc (.cells #[.int .i64 t] 3)).size) fun v9 w9 happ=>?_;obtain ⟨bk,a8,rfl,_⟩:=x_a happ.own;have h6:=ay.out.idle ((Keep.refl kF w8).alloc (.cells #[.int .i64 t] 3));have X:=h6.lk.blk.keep happ.keep (fun e=>x_c h6.ab h6.lk.blk (by decide) e);have d0:w9.cell? ⟨r,13,none⟩=some (.slice a6 s'.ab.length U):=(X.cell 13).trans (x_s (j:=1));have y0:=X.free 13;have aL:=hD happ.keep;have HP:=hD (h6.pushAb (t:=t) happ.keep (by have:=happ.own;simpa [icells,List.map_append] using this));clear happ h6 X))
     obtain ⟨au,Z⟩:∃ au,au=w9.setCell ⟨r,13,none⟩ (.slice bk (s'.ab.length+1) a8):=⟨_,rfl⟩;have aj:Keep (fun k=>base≤k) w8 au:=(by rw [Z];exact ((((Keep.refl (fun k=>base≤k) w8).alloc (.cells #[.int .i64 t] 3)).trans aL.out (fun g hg e=>(x_d ay.out.ab g e).1))).setCell _ _ (fun _=>H4.out.ge));have hp:=HP.out;rw [← Z] at hp ⊢;have bh:=hD hp;have av:=hD (bf.out.trans aj n3);have bp:au.cell? ⟨r,14,none⟩=some (.map (some V'.bw)):=(hp.lk.blk.cell 14).trans (x_s (j:=2));obtain ⟨bu,bt,am,Y,_⟩:=hp.wt.map.store underlying193 (by unfold maxLen;omega) az.out (.slice none 0 0);have an:=hp.setWt ht am (Y.mono (fun _ _ e=>.inl e)) (l:=[]) (Win.nil _ _ _ _) (fun u v g hu hne hv hg e=>by cases e);have ag:=hD an;have ac:=hD (av.out.trans Y (fun i hi e=>by have e':i=V'.bw:=e;rw [e'];exact H4.out.wt.ge));have aB:base≤bu.heap.size:=Nat.le_trans aC ac.out.size;clear hp aj Z d0 y0 bn HP aL am Y an;go_wp2_with (go_at_call 149;go_loud (refine Calls.mono (release_any (N:=6) ag.out.lk az.out) ?_;intro e4 b3 aT;obtain ⟨rfl,aO,al,aG⟩:=run_rel ag.out aB aT;have bi:=hD aO;have aw:=hD al;clear aT aO al aG))
     go_ret;have hg:=HG.out;rw [R.out,x_x HW.out HH.out ah.out] at hg;obtain ⟨V1,h1,_⟩:=bi.out;refine ⟨by rw [hg];simp,⟨V1,by rw [hg];exact h1⟩,?_⟩;exact ((ad.out.trans aa.out (fun _ _ e=>e.elim)).trans ac.out n3).trans aw.out n3
    ·have ah:=hD ar;clear ar;go_wp2_with (first | (go_at_call 148;refine Calls.mono (circle_any (HR.out.idle G.out) ht ae.out) ?_;rintro e w4 ⟨b2,rfl,ai,ak⟩;obtain rfl:b2=false:=circ_f ai ah.out;have aa:=hD (G.out.trans ak n3);clear ai ak) | (go_at_call 147;refine Calls.mono a1.out ?_;rintro e w3 (⟨_,rfl,J⟩ | ⟨hh,_⟩);rotate_left;exact absurd HH.out hh;have G:=hD J;clear J))
     go_ret;have hg:=HG.out;rw [R.out,y_b HW.out HH.out ah.out] at hg;exact ⟨by rw [hg];simp,⟨V',by rw [hg];exact HR.out.idle aa.out⟩,ad.out.trans aa.out (fun _ _ e=>e.elim)⟩
   ·have HH:=hD hH;clear hH;cases b
    all_goals
     go_wp2_with (go_at_call 147;refine Calls.mono a1.out ?_;rintro e w3 (⟨hh,_⟩ | ⟨_,rfl,⟨V3,aU⟩,J⟩);exact absurd hh HH.out;have aM:=hD aU;have G:=hD J;clear aU J)
    ·go_roundg rest.length
     case measure=>have:=R.out;omega
     case rel=>
      refine ⟨V3,_,decide (1 < kind),by rw [doS_wt],rfl,aM.out,ax.out.do_ HW.out,?_,ad.out.trans G.out n3⟩;have hg:=HG.out;rw [R.out,y_g HW.out HH.out] at hg;rw [hg];simp
    ·go_roundg rest.length
     case measure=>have:=R.out;omega
     case rel=>
      refine ⟨V3,_,true,by rw [doS_wt],rfl,aM.out,ax.out.do_ HW.out,?_,ad.out.trans G.out n3⟩;have hg:=HG.out;rw [R.out,y_g HW.out HH.out] at hg;rw [hg];simp
end Go.Proofs.YthdkamnclbfehaaGreatDoor
namespace Go.Proofs.YthdkamnclbfehaaGreatDoor
open Go.RowKit
def Ready (s:LS) (t a_:Int):Prop:=∃ o rest,s.wt t=(o,a_)::rest∧¬ Hdd s o
theorem Ready.one {s:LS} {t a b:Int} (h:Ready s t a) (h':Ready s t b):a=b:=by
 obtain ⟨o,r,e,_⟩:=h;obtain ⟨o',r',e',_⟩:=h';rw [e] at e';cases e';rfl
noncomputable def goOnT (s:LS) (t:Int):LS:=(goOnS (s.wt t).length s t).1
inductive RetryR:LS→LS→Prop
  | stop {s:LS}:(∀ t a,¬ Ready s t a)→RetryR s s
  | go {s s':LS} {t a:Int}:Ready s t a→(∀ u b,Ready s u b→a≤b)→RetryR (goOnT s t) s'→RetryR s s'
def wsum (s:LS):Nat:=(s.wt 1).length+(s.wt 2).length+(s.wt 3).length+(s.wt 4).length+(s.wt 5).length+(s.wt 6).length
theorem goOnS_wt:∀ (n:Nat) (s:LS) (t:Int),(∀ u,u≠t→(goOnS n s t).1.wt u=s.wt u)∧((goOnS n s t).1.wt t).length≤(s.wt t).length:=by
 intro n;induction n with
 | zero=>intro s t;exact ⟨fun _ _=>rfl,Nat.le_refl _⟩
 | succ n ih=>
  intro s t;cases e:s.wt t with
  | nil=>rw [y_e e];exact ⟨fun _ _=>rfl,by rw [e];exact Nat.le_refl _⟩
  | cons p rest=>
   obtain ⟨o,a⟩:=p;by_cases hh:Hdd s o
   ·by_cases hr:Reach s t t
    ·rw [x_x e hh hr];refine ⟨fun u hu=>?_,?_⟩
     ·show updW s.wt t [] u=s.wt u;simp [updW,hu]
     ·show (updW s.wt t [] t).length≤_;simp [updW]
    ·rw [y_b e hh hr];exact ⟨fun _ _=>rfl,by rw [e];exact Nat.le_refl _⟩
   ·rw [y_g e hh];obtain ⟨h1,h2⟩:=ih (doS s t o rest) t;refine ⟨fun u hu=>?_,?_⟩
    ·rw [h1 u hu];show updW s.wt t rest u=s.wt u;simp [updW,hu]
    ·rw [doS_wt] at h2;simp;omega
theorem goOnT_less {s:LS} (hok:Ok s) {t a:Int} (h:Ready s t a):wsum (goOnT s t) < wsum s:=by
 obtain ⟨o,rest,e,hn⟩:=h;obtain ⟨h1,h2,_⟩:=hok.keys e;have hw:=goOnS_wt (s.wt t).length s t;have hl:((goOnT s t).wt t).length < (s.wt t).length:=(by unfold goOnT;rw [e,List.length_cons,y_g e hn];have:=(goOnS_wt rest.length (doS s t o rest) t).2;rw [doS_wt] at this;show ((goOnS rest.length (doS s t o rest) t).1.wt t).length < rest.length+1;exact Nat.lt_succ_of_le this);have hu:∀ u,u≠t→(goOnT s t).wt u=s.wt u:=hw.1;have:t=1∨t=2∨t=3∨t=4∨t=5∨t=6:=(by omega);unfold wsum;rcases this with rfl | rfl | rfl | rfl | rfl | rfl
 ·rw [hu 2 (by decide),hu 3 (by decide),hu 4 (by decide),hu 5 (by decide),hu 6 (by decide)];omega
 ·rw [hu 1 (by decide),hu 3 (by decide),hu 4 (by decide),hu 5 (by decide),hu 6 (by decide)];omega
 ·rw [hu 1 (by decide),hu 2 (by decide),hu 4 (by decide),hu 5 (by decide),hu 6 (by decide)];omega
 ·rw [hu 1 (by decide),hu 2 (by decide),hu 3 (by decide),hu 5 (by decide),hu 6 (by decide)];omega
 ·rw [hu 1 (by decide),hu 2 (by decide),hu 3 (by decide),hu 4 (by decide),hu 6 (by decide)];omega
 ·rw [hu 1 (by decide),hu 2 (by decide),hu 3 (by decide),hu 4 (by decide),hu 5 (by decide)];omega
theorem y_l {s:LS} (h:Ok s) (t:Int):Ok (goOnT s t):=goOnS_ok _ s t h
theorem RetryR.ok {s s':LS} (h:RetryR s s') (hk:Ok s):Ok s':=by
 induction h with
 | stop _=>exact hk
 | go _ _ _ ih=>exact ih (y_l hk _)
def BestI (s:LS) (vw:Int→Option Value) (left:Int→Bool) (best:Int):Prop:=
  (best=0∧∀ u a,(kI u).wf=true→(vw u).isSome=true→left u=false→¬ Ready s u a)∨
  (best≠0∧∃ a,Ready s best a∧∀ u b,(kI u).wf=true→(vw u).isSome=true→left u=false→Ready s u b→a≤b)
theorem BestI.start (s:LS) (vw:Int→Option Value):BestI s vw (fun x=>(vw x).isSome) 0:=
  .inl ⟨rfl,fun u a _ h1 h2=>by
    have h3:(vw u).isSome=false:=h2
    rw [h1] at h3;cases h3⟩
theorem z_t {left:Int→Bool} {x u:Int} (h:(left u && !(u == x))=false):u=x∨left u=false:=by
 by_cases e:u=x
 ·exact .inl e
 ·right;have:(u == x)=false:=(by simpa using e);rw [this] at h;simpa using h
theorem BestI.skip {s:LS} {vw:Int→Option Value} {left:Int→Bool} {best x:Int} (h:BestI s vw left best) (hx:∀ a,¬ Ready s x a):BestI s vw (fun y=>left y && !(y == x)) best:=by
 rcases h with ⟨h0,h1⟩ | ⟨h0,a,ha,h1⟩
 ·refine .inl ⟨h0,fun u a hu hv hl hr=>?_⟩;rcases z_t hl with e | e
  ·subst e;exact hx a hr
  ·exact h1 u a hu hv e hr
 ·refine .inr ⟨h0,a,ha,fun u b hu hv hl hr=>?_⟩;rcases z_t hl with e | e
  ·subst e;exact absurd hr (hx b)
  ·exact h1 u b hu hv e hr
theorem BestI.first {s:LS} {vw:Int→Option Value} {left:Int→Bool} {x a:Int} (h:BestI s vw left 0) (hx:Ready s x a) (hx0:x≠0):BestI s vw (fun y=>left y && !(y == x)) x:=by
 rcases h with ⟨_,h1⟩ | ⟨h0,_⟩
 ·refine .inr ⟨hx0,a,hx,fun u b hu hv hl hr=>?_⟩;rcases z_t hl with e | e
  ·subst e;exact Int.le_of_eq (hx.one hr)
  ·exact absurd hr (h1 u b hu hv e)
 ·exact absurd rfl h0
theorem BestI.less {s:LS} {vw:Int→Option Value} {left:Int→Bool} {best x a b:Int} (h:BestI s vw left best) (hb:Ready s best b) (hb0:best≠0) (hx:Ready s x a) (hx0:x≠0) (hlt:a < b):BestI s vw (fun y=>left y && !(y == x)) x:=by
 rcases h with ⟨h0,_⟩ | ⟨_,b',A,h1⟩
 ·exact absurd h0 hb0
 ·have:=hb.one A;refine .inr ⟨hx0,a,hx,fun u c hu hv hl hr=>?_⟩;rcases z_t hl with e | e
  ·subst e;exact Int.le_of_eq (hx.one hr)
  ·have:=h1 u c hu hv e hr;omega
theorem BestI.more {s:LS} {vw:Int→Option Value} {left:Int→Bool} {best x a b:Int} (h:BestI s vw left best) (hb:Ready s best b) (hb0:best≠0) (hx:Ready s x a) (hle:b≤a):BestI s vw (fun y=>left y && !(y == x)) best:=by
 rcases h with ⟨h0,_⟩ | ⟨_,b',A,h1⟩
 ·exact absurd h0 hb0
 ·have:=hb.one A;refine .inr ⟨hb0,b',A,fun u c hu hv hl hr=>?_⟩;rcases z_t hl with e | e
  ·subst e;have:=hx.one hr;omega
  ·exact h1 u c hu hv e hr
end Go.Proofs.YthdkamnclbfehaaGreatDoor
namespace Go.Proofs.YthdkamnclbfehaaGreatDoor
open Go.RowKit Tryz
def RetryPost (base:Nat) (w:World) (r:Nat) (s:LS) (e:Ending) (w':World):Prop:=
  e = .returned (.tuple #[])∧∃ s' V',RetryR s s'∧RunAt base w' r V' s'∧Keep (fun k=>base≤k) w w'
def RtRel (base:Nat) (w:World) (r:Nat) (s:LS) (gh:Nat) (wr:World):Prop:=
  ∃ (V1:RunV) (s1:LS),gh=wsum s1∧RunAt base wr r V1 s1∧Ok s1∧(∀ s',RetryR s1 s'→RetryR s s')∧Keep (fun k=>base≤k) w wr
def IRel (s:LS) (vw:Int→Option Value) (bw:Nat) (wr:World) (v:Value) (wx:World):Prop:=
  ∃ (left:Int→Bool) (cnt:Nat) (best:Int),v = .int .i64 best∧RangeAt wx bw wr.heap.size 6 vw left cnt∧BestI s vw left best∧(best=0∨(1≤best∧best≤6))∧Keep (fun k=>wr.heap.size≤k) wr wx
theorem retry_any {base:Nat} {w:World} {r:Nat} {V:RunV} {s:LS} (h:RunAt base w r V s) (hb:base≤w.heap.size) (hok:Ok s):Calls prog 110 #[.pointer (some ⟨r,0,none⟩)] w (RetryPost base w r s):=by
 have H:=hD h;clear h;have b8:=hD hok;clear hok;have aE:=hD hb;clear hb;go_enter func110,ntmps110;go_wp2_with fail
 go_loopg [2] (wsum s) (fun gh v wr=>RtRel base w r s gh wr)
 case atStart=>exact ⟨V,s,rfl,H.out,b8.out,fun _ q=>q,Keep.refl _ _⟩
 case round=>
  obtain ⟨V1,s1,hgh,aD,a7,bp,bj⟩:=hrel;obtain ⟨w0,rfl⟩:∃ w0,w0=wr:=⟨_,rfl⟩;have HR:=hD aD;have ar:=hD a7;have aX:=hD bp;have am:=hD bj;have bB:w0.cell? ⟨r,14,none⟩=some (.map (some V1.bw)):=(by rw [aD.lk.blk.cell];exact x_s (j:=2));obtain ⟨w1,bD,bT,ad,aL,bi,bU⟩:=aD.wt.map.range underlying193;have bA:=hD ad;have b6:=hD bi;have b4:=hD hgh;clear aD a7 bp bj ad bi aL bU hgh;go_wp2_with fail
  go_loopw [2] (fun v wx=>IRel s1 V1.vw V1.bw w0 v wx) (fun _ wx=>wx.rangeLeft V1.bw w0.heap.size)
  case atStart=>exact ⟨_,bD,0,rfl,bA.out,BestI.start _ _,.inl rfl,b6.out.mono (fun _ _ e=>e.elim)⟩
  case round=>
   obtain ⟨left,bE,A,rfl,ad,J,aB,ax⟩:=hrel;have HB:=hD J;have an:=hD ax;have ak:=hD aB;have hle:=ad.left_eq;have ao:=hD hle;rcases ad.next 0 with ⟨h0,bk,a8⟩ | ⟨x,v,w5,X,b0,bl,aC,a8,ag,ai,aM,br,bZ⟩
   ·have aV:=hD bk;clear ad J ax aB bk hle
    have au:∀ u a,Ready s1 u a→(kI u).wf=true∧(V1.vw u).isSome=true:=fun u a q=>by
     obtain ⟨o,rs,e,_⟩:=q;obtain ⟨q1,q2,_⟩:=ar.out.keys e;have hw:(kI u).wf=true:=z_u (by omega) (by omega);refine ⟨hw,?_⟩;cases hv:V1.vw u with
     | none=>rw [HR.out.wt.emp u hw hv] at e;cases e
     | some _=>rfl
    have aj:=hD au;clear au;by_cases O:A=0
    ·have bY:=hD O;subst O;go_wp2_with fail
     go_end0
     refine ⟨rfl,s1,V1,aX.out _ (.stop (fun t a q=>?_)),HR.out.keep an.out (fun b hb e=>by have:=(HR.out.fp_ge hb).2;omega),am.out.trans an.out (fun i hi e=>by have:=aE.out;have:=am.out.size;have e':w0.heap.size≤i:=e;omega)⟩;obtain ⟨q1,q2⟩:=aj.out t a q;rcases HB.out with ⟨_,h1⟩ | ⟨h1,_⟩
     ·exact h1 t a q1 q2 (aV.out t q1) q
     ·exact h1 rfl
    ·have av:1≤A∧A≤6:=by
      rcases ak.out with e | e
      ·exact absurd e O
      ·exact e
     have bS:∃ a,Ready s1 A a∧∀ u b,Ready s1 u b→a≤b:=by
      rcases HB.out with ⟨h1,_⟩ | ⟨_,a,ha,h1⟩
      ·exact absurd h1 O
      ·exact ⟨a,ha,fun u b q=>by obtain ⟨q1,q2⟩:=aj.out u b q;exact h1 u b q1 q2 (aV.out u q1) q⟩
     obtain ⟨a,ha,a1⟩:=bS;have HA:=hD ha;have aG:=hD a1;have bF:(A == 0)=false:=(by simpa using O);have bq:=HR.out.keep an.out (fun b hb e=>by have:=(HR.out.fp_ge hb).2;omega);have bh:base≤wr.heap.size:=Nat.le_trans aE.out (Nat.le_trans am.out.size an.out.size);have b5:=hD (goOn_any bq bh av ar.out);have b2:=hD av;clear ha a1 bq bh av O;go_wp2_with (go_at_call 109;refine Calls.mono b5.out ?_;rintro e w6 ⟨rfl,⟨V6,bn⟩,ae⟩;have b9:=hD bn;have Z:=hD ae;clear bn ae)
     go_roundg (wsum (goOnT s1 A))
     case measure=>rw [b4.out];exact goOnT_less ar.out HA.out
     case rel=>
      refine ⟨V6,goOnT s1 A,rfl,b9.out,y_l ar.out A,fun s' q=>aX.out s' (.go HA.out aG.out q),?_⟩;exact (am.out.trans an.out (fun i hi e=>by have:=aE.out;have:=am.out.size;have e':w0.heap.size≤i:=e;omega)).trans Z.out n3
   ·have aN:∀ b,V1.fp r b→b < w0.heap.size:=fun b hb=>(HR.out.fp_ge hb).2;have aa:Keep (fun k=>w0.heap.size≤k) w0 w5:=ax.trans aM (fun i hi e=>by have e':i=w0.heap.size:=e;omega);have ac:=HR.out.keep aa (fun b hb e=>by have:=aN b hb;omega);have aP:=HR.out.wt.keys x v b0 aC;have al:=hD aa;have aA:=hD ac;have U:=hD ag;have aq:=hD ai;have bf:=hD aP;have aO:x≠0:=(by omega);have ba:=hD aO;have C:=ac.wt.win x v b0 aC;cases ah:s1.wt x with
    | nil=>
     rw [ah] at C;have bu:∀ a,¬ Ready s1 x a:=fun a q=>(by obtain ⟨o,rs,e,_⟩:=q;rw [ah] at e;cases e);have aJ:=hD bu
     have bV:∃ lo lc,v = .slice lo 0 lc:=by
      rcases C.shape with ⟨e,_⟩ | ⟨g3,o3,c3,e,_⟩
      ·exact ⟨_,_,e⟩
      ·exact ⟨_,_,e⟩
     obtain ⟨lo,lc,rfl⟩:=bV;clear ad J ax aB ag ai aM br aN aa ac aP aO C ah bu aC bl hle;go_wp2_with fail
     go_quiet (fail)
     go_wp2_with fail
     go_roundw
     case rel=>exact ⟨_,X,A,rfl,U.out,HB.out.skip aJ.out,ak.out,al.out.drewN _⟩
     case measure=>
      have e:(w5.drewN nq).rangeLeft V1.bw w0.heap.size=w5.rangeLeft V1.bw w0.heap.size:=rfl;rw [e,U.out.left_eq,ao.out];exact aq.out
    | cons p rest=>
     obtain ⟨⟨txn,kind,aQ⟩,at_⟩:=p;obtain ⟨_,_,ho,bP⟩:=ar.out.keys ah;obtain ⟨k,hk⟩:=Int.eq_ofNat_of_zero_le ho.2.2.2.2.1;have bJ:aQ=(k:Int):=hk;subst bJ;have ae:k < 6:=(by have:=ho.2.2.2.2.2;simp at this;omega);rw [ah] at C;rcases C.shape with ⟨_,h0⟩ | ⟨g3,o3,bC,rfl,bH,_⟩
     ·simp at h0
     have d0:w5.cell? ⟨g3,o3,none⟩=some (.int .i64 txn):=C.cell (j:=0) (by simp [heldC,opC]);have d1:w5.cell? ⟨g3,o3+1,none⟩=some (.int .i64 kind):=C.cell (j:=1) (by simp [heldC,opC]);have d2:w5.cell? ⟨g3,o3+2,none⟩=some (.int .i64 k):=C.cell (j:=2) (by simp [heldC,opC]);have d3:w5.cell? ⟨g3,o3+3,none⟩=some (.int .i64 at_):=C.cell (j:=3) (by simp [heldC,opC]);have aF:Hid (∀ W,Keep kF w5 W→W.cell? ⟨g3,o3,none⟩=some (.int .i64 txn)∧W.cell? ⟨g3,o3+1,none⟩=some (.int .i64 kind)∧W.cell? ⟨g3,o3+2,none⟩=some (.int .i64 k)):=hD fun W hk=>⟨(hk.cell (p:=⟨g3,o3,none⟩) (World.block_lt_of_cell? _ _ d0) (fun e=>e)).trans d0,(hk.cell (p:=⟨g3,o3+1,none⟩) (World.block_lt_of_cell? _ _ d1) (fun e=>e)).trans d1,(hk.cell (p:=⟨g3,o3+2,none⟩) (World.block_lt_of_cell? _ _ d2) (fun e=>e)).trans d2⟩;have b3:Hid (∀ W,Keep kF w5 W→W.cell? ⟨g3,o3+3,none⟩=some (.int .i64 at_)):=hD fun W hk=>(hk.cell (p:=⟨g3,o3+3,none⟩) (World.block_lt_of_cell? _ _ d3) (fun e=>e)).trans d3;have R:Hid (Keep kF w5 w5):=hD (Keep.refl _ _);have aY:Hid (∀ W,Keep kF w5 W→Calls prog 150 #[.pointer (some ⟨r,0,none⟩),.agg #[.int .i64 txn,.int .i64 kind,.int .i64 k]] W (HindPost W (s1.ex k) txn kind (V1.f k) 6)):=hD fun W hk=>(by have hR:=aA.out.idle hk;exact u_h (n:=6) (f:=V1.f k) (x:=s1.ex k) ae (by rw [hR.lk.blk.cell];exact z_g ae) (by rw [hR.lk.blk.cell];exact lock_ex ae) (hR.lk.maps k ae) (by omega));have cb:(((rest.length:Int)+1) == 0)=false:=(by simp;omega);have ca:((0:Int) < ((rest.length+1:Nat):Int))=True:=eq_true (by omega);have cd:0 < rest.length+1:=(by omega);have aW:=hD ho;have aZ:=hD ah;clear ad J ax aB ag ai aM br aN aa ac aP aO C ah aC bl hle ho bP hk d0 d1 d2 d3 bH;(try simp only [List.length_cons]);go_upto_region 4 with fail
     by_cases hH:Hdd s1 (txn,kind,(k:Int))
     ·have HH:=hD hH;have aw:kind≤1:=hH.1;clear hH;go_cut [37] from 15 to 37 (fun s37 wx=>s37 = .bool true∧Keep (fun _=>False) w5 wx)
      case first=>
       go_region_held3 (fun W=>W.cell? ⟨g3,o3,none⟩=some (.int .i64 txn)∧W.cell? ⟨g3,o3+1,none⟩=some (.int .i64 kind)∧W.cell? ⟨g3,o3+2,none⟩=some (.int .i64 k)) ((refine aF.out _ ?_;exact kX R.out)) ((go_at_call 150;refine Calls.mono (aY.out _ (by exact kX R.out)) ?_;rintro e w6 ⟨v6,l,rfl,a6,ay,bN,Y⟩;obtain ⟨bX,bW,rfl,_⟩:=x_a a6;have bQ:0 < l.length:=(by obtain ⟨y,hy⟩:=HH.out.2;have q:=(ay y).2 ((hind_of aA.out aW.out y).2 hy);exact List.length_pos_of_mem q);have R:=hD (R.out.trans ((((Keep.refl kF w5).drewN _)).trans Y n3) n3);clear a6 ay Y))
       go_wp2_with fail
       go_meet
       exact ⟨rfl,R.out⟩
      case rest=>
       obtain ⟨rfl,G⟩:=hcut;have Z:=hD G;have aJ:Hid (∀ a,¬ Ready s1 x a):=hD (fun a q=>by obtain ⟨o,rs,e,hn⟩:=q;rw [aZ.out] at e;cases e;exact hn HH.out);clear G aw;go_wp2_with fail
       go_roundw
       case rel=>exact ⟨_,X,A,rfl,U.out.keep Z.out (fun e=>e) (fun e=>e),HB.out.skip aJ.out,ak.out,al.out.trans Z.out (fun _ _ e=>e.elim)⟩
       case measure=>rw [(U.out.keep Z.out (fun e=>e) (fun e=>e)).left_eq,ao.out];exact aq.out
     ·have HH:=hD hH;clear hH;have aI:Hid (Ready s1 x at_):=hD ⟨_,_,aZ.out,HH.out⟩;go_cut [37] from 15 to 37 (fun s37 wx=>s37 = .bool false∧Keep (fun _=>False) w5 wx)
      case first=>
       by_cases aw:kind≤1
       ·have b7:=hD aw;go_region_held3 (fun W=>W.cell? ⟨g3,o3,none⟩=some (.int .i64 txn)∧W.cell? ⟨g3,o3+1,none⟩=some (.int .i64 kind)∧W.cell? ⟨g3,o3+2,none⟩=some (.int .i64 k)) ((refine aF.out _ ?_;exact kX R.out)) ((go_at_call 150;refine Calls.mono (aY.out _ (by exact kX R.out)) ?_;rintro e w6 ⟨v6,l,rfl,a6,ay,bN,Y⟩;obtain ⟨bX,bW,rfl,_⟩:=x_a a6;have bQ:¬ 0 < l.length:=(by intro hp;obtain ⟨y,hy⟩:=List.exists_mem_of_length_pos hp;exact HH.out ⟨b7.out,y,(hind_of aA.out aW.out y).1 ((ay y).1 hy)⟩);have R:=hD (R.out.trans ((((Keep.refl kF w5).drewN _)).trans Y n3) n3);clear a6 ay Y))
        go_wp2_with fail
        go_meet
        exact ⟨rfl,R.out⟩
       ·have bK:1 < kind:=(by omega);have bL:decide (kind≤1)=false:=decide_eq_false aw;have hq:=aF.out w5 (Keep.refl _ _);obtain ⟨d0,d1,d2⟩:=hq;clear aw;go_quiet (fail)
        go_wp2_with fail
        go_meet
        exact ⟨rfl,R.out.drewN _⟩
      case rest=>
       obtain ⟨rfl,G⟩:=hcut;have Z:=hD G;have aH:=hD (aA.out.idle G);have M:=hD (U.out.keep G (fun e=>e) (fun e=>e));have d3:=b3.out wc G;clear G;by_cases O:A=0
       ·subst O;go_upto_region 5 with fail
        go_quiet (fail)
        go_wp2_with fail
        go_roundw
        case rel=>exact ⟨_,X,x,rfl,M.out,HB.out.first aI.out ba.out,.inr bf.out,(al.out.trans Z.out (fun _ _ e=>e.elim)).drewN _⟩
        case measure=>
         have e:(wc.drewN nq).rangeLeft V1.bw w0.heap.size=wc.rangeLeft V1.bw w0.heap.size:=rfl;rw [e,M.out.left_eq,ao.out];exact aq.out
       ·have av:1≤A∧A≤6:=by
         rcases ak.out with e | e
         ·exact absurd e O
         ·exact e
        have bR:∃ b,Ready s1 A b:=by
         rcases HB.out with ⟨h1,_⟩ | ⟨_,a,ha,_⟩
         ·exact absurd h1 O
         ·exact ⟨a,ha⟩
        obtain ⟨bt,bg⟩:=bR;have aU:=hD bg;have aT:=hD O;obtain ⟨ob,aS,eb,_⟩:=bg;obtain ⟨gb,b1,aK,bx,bI,bz⟩:=wt_first aH.out av eb;have bG:(kI A).wf=true:=z_u (by omega) (by omega);have bM:∀ n,(Instr.lookup 193 (.map (some V1.bw)) (.int .i64 A) false).run prog (wc.drewN n) = .ok (.slice (some ⟨gb,b1,none⟩) (aS.length+1) aK) (wc.drewN n):=fun n=>(by have:=(aH.out.wt.map.keep ((Keep.refl kF wc).drewN n) (fun e=>e)).look underlying193 u_l bG;rw [bx] at this;simpa using this);have db:wc.cell? ⟨gb,b1+3,none⟩=some (.int .i64 bt):=bz.cell (j:=3) (by simp [heldC,opC]);have bB:wc.cell? ⟨r,14,none⟩=some (.map (some V1.bw)):=(by rw [aH.out.lk.blk.cell];exact x_s (j:=2));have ce:((0:Int) < ((aS.length+1:Nat):Int))=True:=eq_true (by omega);have bO:0 < aS.length+1:=(by omega);have bF:(A == 0)=false:=(by simpa using O);clear bx bI bz eb O;by_cases ai:at_ < bt
        ·have az:at_ < bt:=ai;go_upto_region 5 with fail
         go_quiet (fail)
         go_wp2_with fail
         go_roundw
         case rel=>exact ⟨_,X,x,rfl,M.out,HB.out.less aU.out aT.out aI.out ba.out ai,.inr bf.out,(al.out.trans Z.out (fun _ _ e=>e.elim)).drewN _⟩
         case measure=>
          have e:(wc.drewN nq).rangeLeft V1.bw w0.heap.size=wc.rangeLeft V1.bw w0.heap.size:=rfl;rw [e,M.out.left_eq,ao.out];exact aq.out
        ·have az:bt≤at_:=(by omega);go_upto_region 5 with fail
         go_quiet (fail)
         go_wp2_with fail
         go_roundw
         case rel=>exact ⟨_,X,A,rfl,M.out,HB.out.more aU.out aT.out aI.out az,ak.out,(al.out.trans Z.out (fun _ _ e=>e.elim)).drewN _⟩
         case measure=>
          have e:(wc.drewN nq).rangeLeft V1.bw w0.heap.size=wc.rangeLeft V1.bw w0.heap.size:=rfl;rw [e,M.out.left_eq,ao.out];exact aq.out
theorem rd_at {w:World} {v:Value} {l:List Int} (h:Rd w 1 v l.length (icells l)) {j:Nat} (hj:j < l.length):∃ g o cap y,v = .slice (some ⟨g,o,none⟩) l.length cap∧l[j]?=some y∧w.cell? ⟨g,o+j,none⟩=some (.int .i64 y):=by
 obtain ⟨y,hy⟩:∃ y,l[j]?=some y:=⟨_,List.getElem?_eq_getElem hj⟩;rcases h.2.2 with ⟨_,h0⟩ | ⟨g,o,cap,rfl,_,_,hx⟩
 ·omega
 ·exact ⟨g,o,cap,y,rfl,hy,hx j _ (by simp [icells,hy])⟩
theorem indexI_any {w:World} {v:Value} {l:List Int} {x:Int} (h:Rd w 1 v l.length (icells l)) (hl:l.length≤1000000):Calls prog 146 #[v,.int .i64 x] w (fun e w'=>(∃ i:Int,e = .returned (.int .i64 i)∧(0≤i↔x∈l))∧w'=w):=by
 obtain ⟨ao,W,rfl,_⟩:=h.shape;have H:=hD h;clear h;go_enter func146,ntmps146;go_wp2_with fail
 go_loopw [8] (fun v wr=>∃ j:Nat,j≤l.length∧v = .int .i64 j∧x∉l.take j∧wr=w) (fun v _=>l.length - (intOf v).toNat)
 case atStart=>exact ⟨0,by omega,rfl,by simp,rfl⟩
 case round=>
  obtain ⟨j,hj,rfl,hx,rfl⟩:=hrel;have HX:=hD hx;clear hx;by_cases C:j < l.length
  ·obtain ⟨g,o,c,y,hv,hy,hc⟩:=rd_at H.out C;injection hv with h1 h2 h3;subst h1;have U:((j:Int) < (l.length:Int))=True:=eq_true (by omega);have X:((0:Int)≤(j:Int))=True:=eq_true (by omega);have hw:IntKind.i64.wrap ((j:Int)+1)=((j+1:Nat):Int):=(by rw [show ((j:Int)+1)=((j+1:Nat):Int) by omega];exact IntWalk.i64_in _ (by omega));have HY:=hD hy;have J:=hD C;clear h2 h3 hy C;cases O:(x == y)
   ·have A:x≠y:=(by simpa using O);have G:=hD A;clear A;go_wp2_with fail
    go_roundw
    case rel=>
     refine ⟨j+1,by have:=J.out;omega,rfl,?_,(by first | rfl | trivial)⟩;rw [List.take_add_one,HY.out];intro hm;rcases List.mem_append.1 hm with e | e
     ·exact HX.out e
     ·simp at e;exact G.out e
    case measure=>have:=J.out;simp [intOf];omega
   ·have A:x=y:=(by simpa using O);have G:=hD A;clear A;go_wp2_with fail
    go_ret;exact ⟨⟨j,rfl,⟨fun _=>by rw [G.out];exact List.mem_of_getElem? HY.out,fun _=>by omega⟩⟩,rfl⟩
  ·have U:((j:Int) < (l.length:Int))=False:=eq_false (by omega);have M:j=l.length:=(by omega);have R:=hD M;clear M C;go_wp2_with fail
   go_ret;refine ⟨⟨-1,rfl,⟨fun h=>by omega,fun h=>?_⟩⟩,rfl⟩;have:=HX.out;rw [R.out,List.take_length] at this;exact absurd h this
theorem containsI_any {w:World} {v:Value} {l:List Int} {x:Int} (h:Rd w 1 v l.length (icells l)) (hl:l.length≤1000000):Calls prog 108 #[v,.int .i64 x] w (fun e w'=>(∃ b:Bool,e = .returned (.bool b)∧(b=true↔x∈l))∧w'=w):=by
 obtain ⟨ao,A,rfl,_⟩:=h.shape;have H:=hD (indexI_any (x:=x) h hl);clear h;go_enter func108,ntmps108;go_wp2_with (go_at_call 146;refine Calls.mono H.out ?_;rintro e w' ⟨⟨i,rfl,hi⟩,rfl⟩;have HI:=hD hi;clear hi)
 go_ret;exact ⟨⟨_,rfl,by rw [← HI.out];simp⟩,rfl⟩
def endsB (o:LOp):Bool:=decide (o.2.1=2) || decide (o.2.1=3)
def opOkB (o:LOp):Bool:=decide (1≤o.1∧o.1≤6∧0≤o.2.1∧o.2.1≤3∧0≤o.2.2∧o.2.2≤5) && !(endsB o && o.2.2 != 0)
def validL:(Int→Bool)→List LOp→Bool
  | _,[]=>true
  | ended,o::l=>opOkB o && !ended o.1 && validL (fun y=>if y=o.1 then endsB o else ended y) l
def validHB (h:List LOp):Bool:=decide (h.length≤40) && validL (fun _=>false) h
theorem validL_ok:∀ (l:List LOp) (e:Int→Bool),validL e l=true→∀ o∈l,OpOK o:=by
 intro l;induction l with
 | nil=>intro e _ o ho;cases ho
 | cons p l ih=>
  intro e h o ho;unfold validL at h;simp only [Bool.and_eq_true] at h;rcases List.mem_cons.1 ho with e1 | e1
  ·subst e1;have:=h.1.1;unfold opOkB at this;simp only [Bool.and_eq_true,decide_eq_true_eq] at this;obtain ⟨⟨q1,q2,q3,q4,q5,q6⟩,_⟩:=this;exact ⟨q1,q2,q3,q4,q5,q6⟩
  ·exact ih _ h.2 o e1
def endF (ended:Int→Bool) (dom:Int→Bool):Int→Option Value:=fun y=>if dom y=true then some (.bool (ended y)) else none
theorem opsC_at (l:List LOp) {j:Nat} {o:LOp} (h:l[j]?=some o):(opsC l)[3 * j]?=some (.int .i64 o.1)∧(opsC l)[3 * j+1]?=some (.int .i64 o.2.1)∧(opsC l)[3 * j+2]?=some (.int .i64 o.2.2):=by
 induction l generalizing j with
 | nil=>simp at h
 | cons p l ih=>
  cases j with
  | zero=>simp at h;subst h;simp [opsC,opC]
  | succ j=>
   simp at h;obtain ⟨h1,h2,h3⟩:=ih h;have e:opsC (p::l)=opC p++opsC l:=(by simp [opsC]);have hl:(opC p).length=3:=rfl;rw [e];refine ⟨?_,?_,?_⟩
   ·rw [List.getElem?_append_right (by rw [hl];omega),hl,show 3 * (j+1) - 3=3 * j by omega];exact h1
   ·rw [List.getElem?_append_right (by rw [hl];omega),hl,show 3 * (j+1)+1 - 3=3 * j+1 by omega];exact h2
   ·rw [List.getElem?_append_right (by rw [hl];omega),hl,show 3 * (j+1)+2 - 3=3 * j+2 by omega];exact h3
theorem rd_op {w:World} {v:Value} {l:List LOp} (h:Rd w 3 v l.length (opsC l)) {j:Nat} (hj:j < l.length):∃ g o cap p,v = .slice (some ⟨g,o,none⟩) l.length cap∧l[j]?=some p∧w.cell? ⟨g,o+3 * j,none⟩=some (.int .i64 p.1)∧w.cell? ⟨g,o+(3 * j+1),none⟩=some (.int .i64 p.2.1)∧w.cell? ⟨g,o+(3 * j+2),none⟩=some (.int .i64 p.2.2):=by
 obtain ⟨p,hp⟩:∃ p,l[j]?=some p:=⟨_,List.getElem?_eq_getElem hj⟩;obtain ⟨h1,h2,h3⟩:=opsC_at l hp;rcases h.2.2 with ⟨_,h0⟩ | ⟨g,o,cap,rfl,_,_,hx⟩
 ·omega
 ·exact ⟨g,o,cap,p,rfl,hp,hx _ _ h1,hx _ _ h2,hx _ _ h3⟩
theorem validH_any {w:World} {v:Value} {h:List LOp} (hr:Rd w 3 v h.length (opsC h)) (hl:h.length≤1000000):Calls prog 107 #[v] w (fun e w'=>e = .returned (.bool (validHB h))∧Keep kF w w'):=by
 obtain ⟨ao,a8,rfl,_⟩:=hr.shape;have HR:=hD hr;clear hr;have aB:=@run_makeMap prog;by_cases ad:h.length≤40
 ·have hd:decide ((40:Int) < (h.length:Int))=false:=decide_eq_false (by omega);have ax:¬ 40 < h.length:=(by omega);have Z:Hid (validHB h=validL (fun _=>false) h):=hD (by unfold validHB;rw [decide_eq_true ad];rfl);go_enter func107,ntmps107;go_wp2_with fail
  go_loopw [13] (fun v wr=>∃ (j:Nat) (C M:Int→Bool),j≤h.length∧v = .int .i64 j∧MapAt wr w.heap.size 6 (endF C M)∧(∀ y,M y=false→C y=false)∧(∀ y,M y=true→1≤y∧y≤6)∧validL (fun _=>false) h=validL C (h.drop j)∧Keep (fun _=>False) w wr) (fun v _=>h.length - (intOf v).toNat)
  case atStart=>
   exact ⟨0,fun _=>false,fun _=>false,by omega,rfl,(MapAt.made w).mono (Nat.zero_le _),fun _ _=>rfl,fun y h=>(by cases h),rfl,(Keep.refl _ _).alloc _⟩
  case round=>
   obtain ⟨j,C,M,hj,rfl,hm,ak,al,hv,hk⟩:=hrel;have HM:=hD hm;have ag:=hD ak;have ah:=hD al;have HV:=hD hv;have HK:=hD hk;clear hm ak al hv hk;by_cases U:j < h.length
   ·obtain ⟨g,o,c,p,a7,hp,e0,e1,e2⟩:=rd_op (HR.out.keep HK.out n3) U;obtain ⟨txn,kind,A⟩:=p;injection a7 with h1 h2 h3;subst h1;have az:((j:Int) < (h.length:Int))=True:=eq_true (by omega);have aA:((0:Int)≤(j:Int))=True:=eq_true (by omega);have hw:IntKind.i64.wrap ((j:Int)+1)=((j+1:Nat):Int):=(by rw [show ((j:Int)+1)=((j+1:Nat):Int) by omega];exact IntWalk.i64_in _ (by omega));have f0:wr.cell? ⟨g,o+j * 3,none⟩=some (.int .i64 txn):=(by rw [Nat.mul_comm j 3];exact e0);have f1:wr.cell? ⟨g,o+j * 3+1,none⟩=some (.int .i64 kind):=(by rw [Nat.mul_comm j 3,Nat.add_assoc];exact e1);have f2:wr.cell? ⟨g,o+j * 3+2,none⟩=some (.int .i64 A):=(by rw [Nat.mul_comm j 3,Nat.add_assoc];exact e2);have HP:Hid (h.drop j=(txn,kind,A)::h.drop (j+1)):=hD (by rw [List.drop_eq_getElem_cons U];congr 1;rw [List.getElem?_eq_getElem U] at hp;exact Option.some.inj hp);have ai:=hD U;clear hp h2 h3 U e0 e1 e2;go_upto_region 7 with fail
    obtain ⟨w1,aa⟩:∃ w1,w1=wr.alloc (.cells #[.int .i64 txn,.int .i64 kind,.int .i64 A] 146):=⟨_,rfl⟩;have Y:Hid (Keep (fun _=>False) wr w1):=hD (by rw [aa];exact (Keep.refl _ _).alloc _);have ac:Hid (Blk w1 wr.heap.size #[.int .i64 txn,.int .i64 kind,.int .i64 A] 146):=hD (by rw [aa];exact Blk.new _ _ _);have c0:w1.cell? ⟨wr.heap.size,0,none⟩=some (.int .i64 txn):=ac.out.cell 0;have c1:w1.cell? ⟨wr.heap.size,1,none⟩=some (.int .i64 kind):=ac.out.cell 1;have c2:w1.cell? ⟨wr.heap.size,2,none⟩=some (.int .i64 A):=ac.out.cell 2;rw [← aa];clear aa f0 f1 f2;go_cut [6] from 17 to 24 (fun s6 wx=>s6 = .bool (endsB (txn,kind,A))∧wx=w1)
    case first=>
     by_cases q2:kind=2
     ·have z:(kind == 2)=true:=(by simpa using q2);have HE:Hid (endsB (txn,kind,A)=true):=hD (by simp [endsB,q2]);clear q2;go_wp2_with fail
      go_meet
      exact ⟨by rw [HE.out],rfl⟩
     ·have z:(kind == 2)=false:=(by simpa using q2);by_cases q3:kind=3
      ·have z3:(kind == 3)=true:=(by simpa using q3);have HE:Hid (endsB (txn,kind,A)=true):=hD (by simp [endsB,q3]);clear q2 q3;go_wp2_with fail
       go_meet
       exact ⟨by rw [HE.out],rfl⟩
      ·have z3:(kind == 3)=false:=(by simpa using q3);have HE:Hid (endsB (txn,kind,A)=false):=hD (by simp [endsB,q2,q3]);clear q2 q3;go_wp2_with fail
       go_meet
       exact ⟨by rw [HE.out],rfl⟩
    case rest=>
     obtain ⟨rfl,rfl⟩:=hcut;go_upto_region 8 with fail
     obtain ⟨en,ae⟩:∃ en,en=endsB (txn,kind,A):=⟨_,rfl⟩;have X:=hD ae;rw [← ae];clear ae;go_cut [6,66] from 25 to 66 (fun s6 s66 wx=>s6 = .bool en∧s66 = .bool (!(opOkB (txn,kind,A) && !C txn))∧wx=wc)
     case first=>
      by_cases t0:txn < 1
      ·have u0:decide (txn < 1)=true:=decide_eq_true t0;have hb:opOkB (txn,kind,A)=false:=(by show (decide (1≤txn∧txn≤6∧0≤kind∧kind≤3∧0≤A∧A≤5) && _)=false;rw [decide_eq_false (by omega)];rfl);have HB:=hD hb;clear hb;go_wp2_with fail
       go_meet
       exact ⟨rfl,by rw [HB.out];rfl,rfl⟩
      ·have u0:decide (txn < 1)=false:=decide_eq_false t0;by_cases t1:6 < txn
       ·have u1:decide (6 < txn)=true:=decide_eq_true t1;have hb:opOkB (txn,kind,A)=false:=(by show (decide (1≤txn∧txn≤6∧0≤kind∧kind≤3∧0≤A∧A≤5) && _)=false;rw [decide_eq_false (by omega)];rfl);have HB:=hD hb;clear hb;go_wp2_with fail
        go_meet
        exact ⟨rfl,by rw [HB.out];rfl,rfl⟩
       ·have u1:decide (6 < txn)=false:=decide_eq_false t1;by_cases t2:kind < 0
        ·have u2:decide (kind < 0)=true:=decide_eq_true t2;have hb:opOkB (txn,kind,A)=false:=(by show (decide (1≤txn∧txn≤6∧0≤kind∧kind≤3∧0≤A∧A≤5) && _)=false;rw [decide_eq_false (by omega)];rfl);have HB:=hD hb;clear hb;go_wp2_with fail
         go_meet
         exact ⟨rfl,by rw [HB.out];rfl,rfl⟩
        ·have u2:decide (kind < 0)=false:=decide_eq_false t2;by_cases t3:3 < kind
         ·have u3:decide (3 < kind)=true:=decide_eq_true t3;have hb:opOkB (txn,kind,A)=false:=(by show (decide (1≤txn∧txn≤6∧0≤kind∧kind≤3∧0≤A∧A≤5) && _)=false;rw [decide_eq_false (by omega)];rfl);have HB:=hD hb;clear hb;go_wp2_with fail
          go_meet
          exact ⟨rfl,by rw [HB.out];rfl,rfl⟩
         ·have u3:decide (3 < kind)=false:=decide_eq_false t3;by_cases t4:A < 0
          ·have u4:decide (A < 0)=true:=decide_eq_true t4;have hb:opOkB (txn,kind,A)=false:=(by show (decide (1≤txn∧txn≤6∧0≤kind∧kind≤3∧0≤A∧A≤5) && _)=false;rw [decide_eq_false (by omega)];rfl);have HB:=hD hb;clear hb;go_wp2_with fail
           go_meet
           exact ⟨rfl,by rw [HB.out];rfl,rfl⟩
          ·have u4:decide (A < 0)=false:=decide_eq_false t4;by_cases t5:6≤A
           ·have u5:decide (6≤A)=true:=decide_eq_true t5;have hb:opOkB (txn,kind,A)=false:=(by show (decide (1≤txn∧txn≤6∧0≤kind∧kind≤3∧0≤A∧A≤5) && _)=false;rw [decide_eq_false (by omega)];rfl);have HB:=hD hb;clear hb;go_wp2_with fail
            go_meet
            exact ⟨rfl,by rw [HB.out];rfl,rfl⟩
           ·have u5:decide (6≤A)=false:=decide_eq_false t5;have G:decide (1≤txn∧txn≤6∧0≤kind∧kind≤3∧0≤A∧A≤5)=true:=decide_eq_true (by omega);have a1:=(HM.out.keep Y.out (fun e=>e)).look underlying194 zero4 (z_u (t:=txn) (by omega) (by omega))
            have R:(endF C M txn).getD (.bool false) = .bool (C txn):=by
             unfold endF;cases ay:M txn with
             | true=>simp
             | false=>simp [ag.out txn ay]
            rw [R] at a1;cases en
            ·have hb:opOkB (txn,kind,A)=true:=(by unfold opOkB;rw [G,← X.out];rfl);have HB:=hD hb;clear hb G R;(try clear ti);go_wp2_with fail
             go_meet
             exact ⟨rfl,by rw [HB.out];simp,rfl⟩
            ·by_cases ti:A=0
             ·have ui:(A != 0)=false:=(by simp [ti]);have hb:opOkB (txn,kind,A)=true:=(by unfold opOkB;rw [G,← X.out];simp [ti]);have HB:=hD hb;clear hb G R;(try clear ti);go_wp2_with fail
              go_meet
              exact ⟨rfl,by rw [HB.out];simp,rfl⟩
             ·have ui:(A != 0)=true:=(by simpa using ti);have hb:opOkB (txn,kind,A)=false:=(by unfold opOkB;rw [← X.out];simp [ti]);have HB:=hD hb;clear hb;go_wp2_with fail
              go_meet
              exact ⟨rfl,by rw [HB.out];rfl,rfl⟩
     case rest=>
      obtain ⟨rfl,rfl,rfl⟩:=hcut;cases J:(opOkB (txn,kind,A) && !C txn)
      ·have O:=hD J;clear J;go_wp2_with fail
       go_ret;refine ⟨?_,HK.out.trans Y.out n3⟩;rw [Z.out,HV.out,HP.out];unfold validL;rw [O.out];rfl
      ·have O:=hD J
       have W:opOkB (txn,kind,A)=true:=by
        cases hq:opOkB (txn,kind,A) with
        | true=>rfl
        | false=>rw [hq] at J;cases J
       have ar:1≤txn∧txn≤6:=(by unfold opOkB at W;simp only [Bool.and_eq_true,decide_eq_true_eq] at W;exact ⟨W.1.1,W.1.2.1⟩);have aj:=hD ar;obtain ⟨w5,a6,aq,an,_⟩:=(HM.out.keep Y.out (fun e=>e)).store underlying194 (by unfold maxLen;omega) (z_u (t:=txn) (by omega) (by omega)) (.bool en);have aw:=hD aq;have av:=hD (HK.out.trans ((Y.out.mono (T:=fun k=>k=w.heap.size) (fun _ _ e=>e.elim)).trans an n3) (fun i hi e=>by have e':i=w.heap.size:=e;omega));clear J W aq an ar;go_wp2_with fail
       go_roundw
       case rel=>
        refine ⟨j+1,(fun y=>if y=txn then en else C y),(fun y=>if y=txn then true else M y),by have:=ai.out;omega,rfl,?_,fun y q=>?_,fun y q=>?_,?_,av.out⟩
        ·have ef:(fun y=>if y=txn then some (.bool en) else endF C M y)=endF (fun y=>if y=txn then en else C y) (fun y=>if y=txn then true else M y):=(by funext y;by_cases e:y=txn <;> simp [endF,e]);have h5:=aw.out;rw [ef] at h5;refine h5.tight fun y hy q=>?_;by_cases e:y=txn
         ·rw [e];exact aj.out
         ·simp only [endF,if_neg e] at q;cases am:M y with
          | true=>exact ah.out y am
          | false=>simp [am] at q
        ·by_cases e:y=txn
         ·simp [e] at q
         ·simp only [if_neg e] at q ⊢;exact ag.out y q
        ·by_cases e:y=txn
         ·rw [e];exact aj.out
         ·simp only [if_neg e] at q;exact ah.out y q
        ·rw [HV.out,HP.out];conv=>lhs;unfold validL
         rw [O.out,X.out];rfl
       case measure=>have:=ai.out;simp [intOf];omega
   ·have az:((j:Int) < (h.length:Int))=False:=eq_false (by omega);have au:Hid (h.drop j=[]):=hD (List.drop_eq_nil_of_le (by omega));clear U;go_wp2_with fail
    go_ret;refine ⟨?_,HK.out⟩;rw [Z.out,HV.out,au.out];rfl
 ·have ax:40 < h.length:=(by omega);have Z:Hid (validHB h=false):=hD (by unfold validHB;rw [decide_eq_false ad];rfl);clear ad;go_enter func107,ntmps107;go_wp2_with fail
  go_ret;exact ⟨by rw [Z.out];rfl,(Keep.refl _ _).alloc _⟩
end Go.Proofs.YthdkamnclbfehaaGreatDoor
namespace Go.Proofs.YthdkamnclbfehaaGreatDoor
open Go.RowKit
theorem tot_do {s:LS} {t at_:Int} {o:LOp} {rest:List (LOp × Int)} (ht:1≤t∧t≤6) (e:s.wt t=(o,at_)::rest):tot (doS s t o rest)≤tot s:=
  tot_upd (s.done++[o]) (updW s.wt t rest) s ht rest rfl (by rw [e];simp;omega) _ _ _
theorem tot_abort {s:LS} {t:Int} {p:LOp × Int} {rest:List (LOp × Int)} (ht:1≤t∧t≤6) (e:s.wt t=p::rest):tot (abortS s t)≤tot s:=
  tot_upd (s.done++[(t,3,0)]) (updW s.wt t []) s ht [] rfl (by rw [e];simp) _ _ _
theorem goOnS_tot:∀ (n:Nat) (s:LS) (t:Int),1≤t∧t≤6→tot (goOnS n s t).1≤tot s:=by
 intro n;induction n with
 | zero=>intro s t _;exact Nat.le_refl _
 | succ n ih=>
  intro s t ht;cases e:s.wt t with
  | nil=>rw [y_e e];exact Nat.le_refl _
  | cons p rest=>
   obtain ⟨o,a⟩:=p;by_cases hh:Hdd s o
   ·by_cases hr:Reach s t t
    ·rw [x_x e hh hr];exact tot_abort ht e
    ·rw [y_b e hh hr];exact Nat.le_refl _
   ·rw [y_g e hh];exact Nat.le_trans (ih _ t ht) (tot_do ht e)
theorem RetryR.tot {s s':LS} (h:RetryR s s') (hok:Ok s):Go.Proofs.YthdkamnclbfehaaGreatDoor.tot s'≤Go.Proofs.YthdkamnclbfehaaGreatDoor.tot s:=by
 induction h with
 | stop _=>exact Nat.le_refl _
 | go hr _ _ ih=>
  obtain ⟨o,rest,e,_⟩:=hr;obtain ⟨h1,h2,_⟩:=hok.keys e;exact Nat.le_trans (ih (y_l hok _)) (goOnS_tot _ _ _ ⟨h1,h2⟩)
def s0L:LS:=⟨[],[],fun _=>0,fun _ _=>false,fun _=>[]⟩
def enq (s:LS) (o:LOp) (i:Int):LS:={s with wt:=updW s.wt o.1 (s.wt o.1++[(o,i)])}
inductive LStep (s:LS) (o:LOp) (i:Int):LS→Prop
  | gone:o.1∈s.ab→LStep s o i s
  | wait:o.1∉s.ab→s.wt o.1≠[]→LStep s o i (enq s o i)
  | go:o.1∉s.ab→s.wt o.1=[]→(goOnS ((enq s o i).wt o.1).length (enq s o i) o.1).2=false→LStep s o i (goOnT (enq s o i) o.1)
  | re {s':LS}:o.1∉s.ab→s.wt o.1=[]→(goOnS ((enq s o i).wt o.1).length (enq s o i) o.1).2=true→RetryR (goOnT (enq s o i) o.1) s'→LStep s o i s'
inductive LRun:Nat→LS→List LOp→LS→Prop
  | nil {i:Nat} {s:LS}:LRun i s [] s
  | cons {i:Nat} {s s1 s2:LS} {o:LOp} {l:List LOp}:LStep s o (i:Int) s1→LRun (i+1) s1 l s2→LRun i s (o::l) s2
theorem LRun.snoc {i:Nat} {s s1 s2:LS} {l:List LOp} (h:LRun i s l s1):∀ {o:LOp},LStep s1 o ((i+l.length:Nat):Int) s2→LRun i s (l++[o]) s2:=by
 induction h with
 | nil=>intro o h2;exact .cons (by simpa using h2) .nil
 | @cons i s s1 s2 o1 l h1 h3 ih=>
  intro o h2;refine .cons h1 (ih ?_);have e:i+1+l.length=i+(o1::l).length:=(by simp;omega);rw [e];exact h2
theorem Ok.enq {s:LS} (h:Ok s) {o:LOp} (ho:OpOK o) (i:Int) (ht:Go.Proofs.YthdkamnclbfehaaGreatDoor.tot s≤99):Ok (Go.Proofs.YthdkamnclbfehaaGreatDoor.enq s o i)∧Go.Proofs.YthdkamnclbfehaaGreatDoor.tot (Go.Proofs.YthdkamnclbfehaaGreatDoor.enq s o i)≤Go.Proofs.YthdkamnclbfehaaGreatDoor.tot s+1:=by
 have hx:o.1=1∨o.1=2∨o.1=3∨o.1=4∨o.1=5∨o.1=6:=(by have:=ho.1;have:=ho.2.1;omega);have C:Go.Proofs.YthdkamnclbfehaaGreatDoor.tot (Go.Proofs.YthdkamnclbfehaaGreatDoor.enq s o i)≤Go.Proofs.YthdkamnclbfehaaGreatDoor.tot s+1:=(by unfold Go.Proofs.YthdkamnclbfehaaGreatDoor.tot Go.Proofs.YthdkamnclbfehaaGreatDoor.enq updW;rcases hx with e | e | e | e | e | e <;> rw [e] <;> simp <;> omega);refine ⟨⟨fun x p hp=>?_,by omega,h.ab⟩,C⟩;have A:p∈updW s.wt o.1 (s.wt o.1++[(o,i)]) x:=hp;unfold updW at A;by_cases e:x=o.1
 ·rw [if_pos e] at A;rcases List.mem_append.1 A with q | q
  ·rw [e];exact h.ops _ p q
  ·simp at q;rw [q,e];exact ⟨ho,rfl⟩
 ·rw [if_neg e] at A;exact h.ops x p A
theorem LStep.ok {s s':LS} {o:LOp} {i:Int} (h:LStep s o i s') (hok:Ok s) (ho:OpOK o) (ht:Go.Proofs.YthdkamnclbfehaaGreatDoor.tot s≤99):Ok s'∧Go.Proofs.YthdkamnclbfehaaGreatDoor.tot s'≤Go.Proofs.YthdkamnclbfehaaGreatDoor.tot s+1:=by
 obtain ⟨h1,h2⟩:=hok.enq ho i ht;have hx:1≤o.1∧o.1≤6:=⟨ho.1,ho.2.1⟩;cases h with
 | gone _=>exact ⟨hok,by omega⟩
 | wait _ _=>exact ⟨h1,h2⟩
 | go _ _ _=>exact ⟨y_l h1 _,Nat.le_trans (goOnS_tot _ _ _ hx) h2⟩
 | re _ _ _ hr=>exact ⟨hr.ok (y_l h1 _),Nat.le_trans (hr.tot (y_l h1 _)) (Nat.le_trans (goOnS_tot _ _ _ hx) h2)⟩
theorem ok_s0:Ok s0L∧Go.Proofs.YthdkamnclbfehaaGreatDoor.tot s0L=0:=⟨⟨fun x p h=>(by cases h),by unfold Go.Proofs.YthdkamnclbfehaaGreatDoor.tot s0L;simp,Nat.le_refl _⟩,rfl⟩
end Go.Proofs.YthdkamnclbfehaaGreatDoor
namespace Go.Proofs.YthdkamnclbfehaaGreatDoor
open Go.RowKit Tryz
theorem info204:(prog.info? 204).map (fun i=>(i.zero,i.size,i.bytes))=some (some (.agg #[.int .i64 0,.int .i64 0,.int .i64 0,.int .i64 0]),4,32):=by kernel_rfl
theorem wt_val {base:Nat} {w:World} {r:Nat} {V:RunV} {s:LS} (h:RunAt base w r V s) {t:Int} (ht:1≤t∧t≤6):∃ ao cap,(V.vw t).getD (.slice none 0 0) = .slice ao (s.wt t).length cap∧Win w base 204 4 (.slice ao (s.wt t).length cap) (s.wt t).length (heldC (s.wt t))∧∀ g,(Value.slice ao (s.wt t).length cap).ownBlock=some g→∃ v0,V.vw t=some v0∧v0.ownBlock=some g:=by
 have A:(kI t).wf=true:=z_u (by omega) (by omega);cases hv:V.vw t with
 | none=>
  have e:=h.wt.emp t A hv;rw [e];exact ⟨none,0,rfl,Win.nil _ _ _ _,fun g hg=>by cases hg⟩
 | some v=>
  have hw:=h.wt.win t v A hv;rcases hw.shape with ⟨e,h0⟩ | ⟨g,o,cap,e,_⟩
  ·refine ⟨none,0,by rw [Option.getD_some,e,h0],?_,fun g hg=>by cases hg⟩;rw [e] at hw;rw [h0] at hw ⊢;exact hw
  ·refine ⟨_,cap,by rw [Option.getD_some,e],by rw [e] at hw;exact hw,fun g' hg'=>⟨v,rfl,by rw [e];exact hg'⟩⟩
def LockPost (w:World) (h:List LOp) (e:Ending) (w':World):Prop:=
  Keep kF w w'∧((validHB h=false∧e = .returned (.tuple #[.slice none 0 0,.slice none 0 0,.int .i64 2]))∨
    (validHB h=true∧∃ s' vd va,e = .returned (.tuple #[vd,va,.int .i64 0])∧LRun 0 s0L h s'∧Ok s'∧w'.ownsRow w.heap.size 146 3 vd s'.done.length (opsC s'.done)))
theorem run_start (w w1:World) (hw:w.heap.size≤w1.heap.size):RunAt w.heap.size ((w1.alloc (.map #[] 0)).alloc (.cells (lockCells (fun _=>none) (fun _=>0) [.slice none 0 0,.slice none 0 0,.map (some w1.heap.size)]) 200)) (w1.heap.size+1) ⟨fun _=>none,fun _ _=>none,.slice none 0 0,.slice none 0 0,w1.heap.size,fun _=>none⟩ s0L:=by
 have hb:=Blk.new (w1.alloc (.map #[] 0)) (lockCells (fun _=>none) (fun _=>0) [.slice none 0 0,.slice none 0 0,.map (some w1.heap.size)]) 200;rw [show (w1.alloc (.map #[] 0)).heap.size=w1.heap.size+1 by simp] at hb;refine ⟨⟨hb,fun i _=>.inl ⟨rfl,rfl⟩,fun i j b _ _ e=>(by cases e)⟩,fun i y _ _=>rfl,fun i y _ _ e=>(by cases e),fun i _=>⟨Int.le_refl _,by show (0:Int)≤6;decide⟩,World.ownsRow_nil _ _ _ _,World.ownsRow_nil _ _ _ _,⟨?_,hw,fun t _ _=>rfl,fun t v _ e=>(by cases e),fun t u v v' g _ _ e=>(by cases e),fun t v _ e=>(by cases e)⟩,fun i _ e=>(by cases e),by omega,fun i b _ e=>(by cases e)⟩;exact ((MapAt.made w1).mono (Nat.zero_le 6)).keep ((Keep.refl kF _).alloc _) (fun e=>e)
theorem lock_any {w:World} {v:Value} {h:List LOp} (hr:Rd w 3 v h.length (opsC h)) (hl:h.length≤1000000):Calls prog 73 #[v] w (LockPost w h):=by
 obtain ⟨ao,cV,rfl,_⟩:=hr.shape;have HR:=hD hr;have bP:=hD (validH_any hr hl);clear hr;have da:=@run_makeMap prog;cases ai:validHB h
 ·have aG:=hD ai;clear ai;go_enter func73,ntmps73;go_wp2_with (go_at_call 107;refine Calls.mono bP.out ?_;rintro e w1 ⟨rfl,aK⟩;rw [aG.out];have aW:=hD aK;clear aK)
  go_ret3;exact ⟨aW.out,.inl ⟨aG.out,rfl⟩⟩
 ·have aG:=hD ai;have cX:h.length≤40:=(by unfold validHB at ai;simp only [Bool.and_eq_true,decide_eq_true_eq] at ai;exact ai.1);have aI:∀ o∈h,OpOK o:=(by unfold validHB at ai;simp only [Bool.and_eq_true,decide_eq_true_eq] at ai;exact validL_ok h _ ai.2);have bl:=hD aI;clear ai aI hl;go_enter func73,ntmps73;go_wp2_with (go_at_call 107;refine Calls.mono bP.out ?_;rintro e w1 ⟨rfl,aK⟩;rw [aG.out];have aW:=hD aK;clear aK)
  have bB:=run_start w w1 aW.out.size;obtain ⟨w2,aT⟩:∃ w2,w2=(w1.alloc (.map #[] 0)).alloc (.cells (lockCells (fun _=>none) (fun _=>0) [.slice none 0 0,.slice none 0 0,.map (some w1.heap.size)]) 200):=⟨_,rfl⟩;have bV:Keep (fun _=>False) w w2:=(by rw [aT];exact (aW.out.alloc _).alloc _);rw [← aT] at bB;rw [show lockCells (fun _=>none) (fun _=>0) [.slice none 0 0,.slice none 0 0,.map (some w1.heap.size)]=#[.map none,.map none,.map none,.map none,.map none,.map none,.int .i64 0,.int .i64 0,.int .i64 0,.int .i64 0,.int .i64 0,.int .i64 0,.slice none 0 0,.slice none 0 0,.map (some w1.heap.size)] by simp [lockCells]] at aT;rw [← aT];have bO:=hD bB;have ci:=hD bV;obtain ⟨r,bZ⟩:∃ r,r=w1.heap.size+1:=⟨_,rfl⟩;rw [← bZ] at bO ⊢;clear bB bV aT bZ;go_loopw [17] (fun v wr=>∃ (j:Nat) (s:LS) (V:RunV),j≤h.length∧v = .int .i64 j∧RunAt w.heap.size wr r V s∧Ok s∧tot s≤j∧LRun 0 s0L (h.take j) s∧Keep (fun _=>False) w wr) (fun v _=>h.length - (intOf v).toNat)
  case atStart=>exact ⟨0,s0L,_,by omega,rfl,bO.out,ok_s0.1,by rw [ok_s0.2];exact Nat.zero_le _,.nil,ci.out⟩
  case round=>
   obtain ⟨j,s,V,hj,rfl,ca,bY,aS,aQ,hk⟩:=hrel;have a7:=hD ca;have aj:=hD bY;have au:=hD aS;have aF:=hD aQ;have HK:=hD hk;clear ca bY aS aQ hk;by_cases bh:j < h.length
   ·obtain ⟨g,o,c,p,cQ,hp,e0,e1,e2⟩:=rd_op (HR.out.keep HK.out n3) bh;obtain ⟨txn,kind,A⟩:=p;injection cQ with h1 h2 h3;subst h1;have cL:((j:Int) < (h.length:Int))=True:=eq_true (by omega);have cZ:((0:Int)≤(j:Int))=True:=eq_true (by omega);have hw:IntKind.i64.wrap ((j:Int)+1)=((j+1:Nat):Int):=(by rw [show ((j:Int)+1)=((j+1:Nat):Int) by omega];exact IntWalk.i64_in _ (by omega));have f0:wr.cell? ⟨g,o+j * 3,none⟩=some (.int .i64 txn):=(by rw [Nat.mul_comm j 3];exact e0);have f1:wr.cell? ⟨g,o+j * 3+1,none⟩=some (.int .i64 kind):=(by rw [Nat.mul_comm j 3,Nat.add_assoc];exact e1);have f2:wr.cell? ⟨g,o+j * 3+2,none⟩=some (.int .i64 A):=(by rw [Nat.mul_comm j 3,Nat.add_assoc];exact e2);have aZ:Hid (h.take (j+1)=h.take j++[(txn,kind,A)]):=hD (by rw [List.take_add_one,hp];rfl);have ho:=bl.out _ (List.mem_of_getElem? hp);have aY:=hD ho;have cO:1≤txn∧txn≤6:=⟨ho.1,ho.2.1⟩;have ad:=hD cO;have aq:=hD bh;have br:Hid (((0+(h.take j).length:Nat):Int)=(j:Int)):=hD (by rw [List.length_take];omega);clear hp h2 h3 bh e0 e1 e2 ho;go_upto_region 7 with fail
    obtain ⟨w3,bj⟩:∃ w3,w3=wr.alloc (.cells #[.int .i64 txn,.int .i64 kind,.int .i64 A] 146):=⟨_,rfl⟩;have b7:Keep kF wr w3:=(by rw [bj];exact (Keep.refl _ _).alloc _);have aV:Hid (Blk w3 wr.heap.size #[.int .i64 txn,.int .i64 kind,.int .i64 A] 146):=hD (by rw [bj];exact Blk.new _ _ _);have bq:=hD b7;have aB:=a7.out.idle b7;obtain ⟨ba,al,aC,_⟩:=x_a aB.ab;have bS:w3.cell? ⟨r,13,none⟩=some (.slice ba s.ab.length al):=(aB.lk.blk.cell 13).trans ((x_s (j:=1)).trans (by simp [aC]));have c6:w3.cell? ⟨r,14,none⟩=some (.map (some V.bw)):=(aB.lk.blk.cell 14).trans (x_s (j:=2));have b0:w3.cell? ⟨wr.heap.size,0,none⟩=some (.int .i64 txn):=aV.out.cell 0;have b1:w3.cell? ⟨wr.heap.size,1,none⟩=some (.int .i64 kind):=aV.out.cell 1;have b2:w3.cell? ⟨wr.heap.size,2,none⟩=some (.int .i64 A):=aV.out.cell 2;have bU:s.ab.length≤1000000:=(by have:=aj.out.ab;have:=aj.out.tot;unfold tot at this;omega);have bH:Hid (∀ n,Calls prog 108 #[.slice ba s.ab.length al,.int .i64 txn] (w3.drewN n) (fun e w'=>(∃ b:Bool,e = .returned (.bool b)∧(b=true↔txn∈s.ab))∧w'=w3.drewN n)):=hD fun n=>(by have hh:=x_g ((aB.idle ((Keep.refl kF w3).drewN n)).ab) (fun u hu=>by simp [icells] at hu;obtain ⟨y,_,rfl⟩:=hu;rfl);rw [aC] at hh;exact containsI_any hh bU);have bN:=hD aB;rw [← bj];clear bj f0 f1 f2 aB b7 aC bU;by_cases bg:txn∈s.ab
    ·have ay:=hD bg;clear bg;go_still_tail 6,(by kernel_rfl)
     change wpList _ _ _ _ _ w3.drew;go_wp2_with (go_at_call 108;refine Calls.mono (bH.out 1) ?_;rintro e w5 ⟨⟨b,rfl,hb⟩,rfl⟩;obtain rfl:b=true:=circ_t hb ay.out;clear hb)
     go_roundw
     case rel=>exact ⟨j+1,s,V,by have:=aq.out;omega,rfl,bN.out.idle ((Keep.refl _ _).drewN 1),aj.out,by have:=au.out;omega,by rw [aZ.out];exact aF.out.snoc (.gone ay.out),(HK.out.trans bq.out n3).drewN 1⟩
     case measure=>have:=aq.out;simp [intOf];omega
    ·have ay:=hD bg;clear bg;go_still_tail 6,(by kernel_rfl)
     change wpList _ _ _ _ _ w3.drew;go_upto_region 8 with (go_at_call 108;refine Calls.mono (bH.out 1) ?_;rintro e w5 ⟨⟨b,rfl,hb⟩,rfl⟩;obtain rfl:b=false:=circ_f hb ay.out;clear hb)
     obtain ⟨w4,bD⟩:∃ w4,w4=w3.drewN 1:=⟨_,rfl⟩;have bi:Keep kF w3 w4:=(by rw [bD];exact (Keep.refl _ _).drewN 1);have bJ:=hD bi;have aP:=bN.out.idle bi;rw [← bD];obtain ⟨bk,an,am,bG,az⟩:=wt_val aP ad.out;obtain ⟨nw,b9⟩:∃ nw,nw=(s.wt txn).length:=⟨_,rfl⟩;rw [← b9] at am bG az;have cM:∀ n,(Instr.lookup 193 (.map (some V.bw)) (.int .i64 txn) false).run prog (w4.drewN n) = .ok (.slice bk nw an) (w4.drewN n):=fun n=>(by have:=(aP.wt.map.keep ((Keep.refl kF w4).drewN n) (fun e=>e)).look underlying193 u_l (z_u (t:=txn) (by omega) (by omega));rw [am] at this;exact this);have bz:w4.cell? ⟨r,14,none⟩=some (.map (some V.bw)):=(aP.lk.blk.cell 14).trans (x_s (j:=2));have b4:=aV.out.keep bi (fun e=>e);have cz:w4.cell? ⟨wr.heap.size,0,none⟩=some (.int .i64 txn):=b4.cell 0;have cp:=hD aP;have aH:=hD am;have cx:=hD bG;have bM:=hD az;have bt:=hD b9;have cf:=hD b4;have cN:nw≤100:=(by have:=Nat.le_trans (tot_wt (s:=s) ad.out) aj.out.tot;omega);clear bS c6 b0 b1 b2 bD bi aP am bG az b9 b4;go_quiet (fail)
     go_upto_region 9 with fail
     obtain ⟨wb,bF⟩:∃ wb:Bool,wb=decide (0 < nw):=⟨_,rfl⟩;rw [← bF];have bR:=hD bF;clear bF;obtain ⟨w5,bE⟩:∃ w5,w5=(w4.drewN nq):=⟨_,rfl⟩;have aM:Keep kF w4 w5:=(by rw [bE];exact (Keep.refl _ _).drewN _);have bK:=hD aM;have a1:=cp.out.idle aM;have aJ:=cf.out.keep aM (fun e=>e);have a6:=cx.out.keep aM n3;rw [← bE]
     have aO:∀ b',(b'=V.bw∨(Value.slice bk nw an).ownBlock=some b')→wr.heap.size≠b'∧r≠b':=by
      rintro b' (e | e)
      ·exact ⟨fun q=>a1.wt.map.ne_cells aJ (by rw [← e,q]),fun q=>a1.wt.map.ne_cells a1.lk.blk (by rw [← e,q])⟩
      ·obtain ⟨c1,z1,q1⟩:=x_z a6 e;exact ⟨y_h aJ q1 (by decide),y_h a1.lk.blk q1 (by decide)⟩
     have ak:Hid (∀ W,Keep (fun b'=>b'=V.bw∨(Value.slice bk nw an).ownBlock=some b') w5 W→W.cell? ⟨wr.heap.size,0,none⟩=some (.int .i64 txn)∧W.cell? ⟨wr.heap.size,1,none⟩=some (.int .i64 kind)∧W.cell? ⟨wr.heap.size,2,none⟩=some (.int .i64 A)∧W.cell? ⟨r,14,none⟩=some (.map (some V.bw))):=hD fun W hk=>(by have q1:=aJ.keep hk (fun e=>(aO _ e).1 rfl);have q2:=a1.lk.blk.keep hk (fun e=>(aO _ e).2 rfl);exact ⟨q1.cell 0,q1.cell 1,q1.cell 2,(q2.cell 14).trans (x_s (j:=2))⟩);have ar:=hD a1;have cT:=hD aJ;have bx:=hD a6;have b5:w.heap.size≤w5.heap.size:=Nat.le_trans HK.out.size (Nat.le_trans bq.out.size (Nat.le_trans bJ.out.size bK.out.size));clear bE aM a1 aJ a6 aO cM bz cz;go_cut [] from 38 to 55 (fun wx=>(∃ V2,RunAt w.heap.size wx r V2 (enq s (txn,kind,A) (j:Int)))∧wx.cell? ⟨wr.heap.size,0,none⟩=some (.int .i64 txn)∧Keep (fun b'=>w.heap.size≤b') w5 wx)
     case first=>
      rename_i Jq Kq cI cJ;refine x_m fun Q1 hQ1=>?_;have cn:=hD hQ1;clear hQ1;refine wp_region_noPanic ?_;refine wp_region_held_drew (S:=(fun W=>W.cell? ⟨wr.heap.size,0,none⟩=some (.int .i64 txn)∧W.cell? ⟨wr.heap.size,1,none⟩=some (.int .i64 kind)∧W.cell? ⟨wr.heap.size,2,none⟩=some (.int .i64 A)∧W.cell? ⟨r,14,none⟩=some (.map (some V.bw)))) (by kernel_rfl) (ak.out _ ((Keep.refl _ _).drew)) fun hHeld=>?_;refine wL fun ac0 Z0=>?_;have HS:Hid (ac0.tmps.size=75):=hD (by rw [Z0.out];kernel_rfl);have e5:ac0.tmps[5]?.getD undef = .pointer (some ⟨r,0,none⟩):=(by rw [Z0.out];kernel_rfl);have e6:ac0.tmps[6]?.getD undef = .int .i64 j:=(by rw [Z0.out];kernel_rfl);have e7:ac0.tmps[7]?.getD undef = .pointer (some ⟨wr.heap.size,0,none⟩):=(by rw [Z0.out];kernel_rfl);refine wU 0 HS fun ac1 Z1 C HS=>?_;obtain ⟨e5,e6,e7⟩:=p3 Z1 e5 e6 e7;refine wU 1 HS fun ac2 Z2 G HS=>?_;obtain ⟨e5,e6,e7,C⟩:=p4 Z2 e5 e6 e7 C;refine wU 2 HS fun ac3 Z3 J HS=>?_;obtain ⟨e5,e6,e7,C,G⟩:=p5 Z3 e5 e6 e7 C G;refine wU 3 HS fun ac4 Z4 M HS=>?_;obtain ⟨e5,e6,e7,C,G,J⟩:=p6 Z4 e5 e6 e7 C G J;refine wU 4 HS fun ac5 Z5 O HS=>?_;obtain ⟨e5,e6,e7,C,G⟩:=p5 Z5 e5 e6 e7 C G;obtain ⟨J,M⟩:=p2 Z5 J M;refine wU 5 HS fun ac6 Z6 R HS=>?_;obtain ⟨e5,e6,e7,C,G,J⟩:=p6 Z6 e5 e6 e7 C G J;obtain ⟨M,O⟩:=p2 Z6 M O;refine wU 6 HS fun ac7 Z7 U HS=>?_;obtain ⟨e5,e6,e7,C,G,J⟩:=p6 Z7 e5 e6 e7 C G J;obtain ⟨M,O,R⟩:=p3 Z7 M O R;refine wU 7 HS fun ac8 Z8 X HS=>?_;obtain ⟨e5,e6,e7,C,G,J⟩:=p6 Z8 e5 e6 e7 C G J;obtain ⟨M,O,R,U⟩:=p4 Z8 M O R U;refine wU 8 HS fun ac9 Z9 Y HS=>?_;obtain ⟨e5,e6,e7,C,G,J⟩:=p6 Z9 e5 e6 e7 C G J;obtain ⟨M,O,R,U,X⟩:=p5 Z9 M O R U X;refine wU 9 HS fun ac10 Z10 aa HS=>?_;obtain ⟨e5,e6,e7,C,G,J⟩:=p6 Z10 e5 e6 e7 C G J;obtain ⟨M,O,R,U,X,Y⟩:=p6 Z10 M O R U X Y;refine wU 10 HS fun ac11 Z11 ac HS=>?_;obtain ⟨e5,e6,e7,C,G,J⟩:=p6 Z11 e5 e6 e7 C G J;obtain ⟨M,O,R,U,X⟩:=p5 Z11 M O R U X;obtain ⟨Y,aa⟩:=p2 Z11 Y aa;refine wU 11 HS fun ac12 Z12 ae HS=>?_;obtain ⟨e5,e6,e7,C,G,J⟩:=p6 Z12 e5 e6 e7 C G J;obtain ⟨M,O,R,U,X,Y⟩:=p6 Z12 M O R U X Y;obtain ⟨aa,ac⟩:=p2 Z12 aa ac;refine wU 13 HS fun ac13 Z13 ah HS=>?_;obtain ⟨e5,e6,e7,C,G,J⟩:=p6 Z13 e5 e6 e7 C G J;obtain ⟨M,O,R,U,X,Y⟩:=p6 Z13 M O R U X Y;obtain ⟨aa,ac,ae⟩:=p3 Z13 aa ac ae;refine wU 14 HS fun ac14 Z14 aw HS=>?_;obtain ⟨e5,e6,e7,C,G,J⟩:=p6 Z14 e5 e6 e7 C G J;obtain ⟨M,O,R,U,X,Y⟩:=p6 Z14 M O R U X Y;obtain ⟨aa,ac,ae,ah⟩:=p4 Z14 aa ac ae ah;refine wU 15 HS fun ac15 Z15 a8 HS=>?_;obtain ⟨e5,e6,e7,C,G,J⟩:=p6 Z15 e5 e6 e7 C G J;obtain ⟨M,O,R,U,X,Y⟩:=p6 Z15 M O R U X Y;obtain ⟨aa,ac,ae,ah,aw⟩:=p5 Z15 aa ac ae ah aw;refine wR (rs:=[12,16]) ?_;refine AllReadyH.cons (o:=_) rfl (fun K hK=>?_) (AllReadyH.cons (o:=_) rfl (fun K hK=>?_) AllReadyH.nil)
      focus
       have hl:=(ar.out.wt.map.keep ((Keep.refl kF w5).drew) (fun e=>e)).look underlying193 u_l (z_u (t:=txn) (by have:=ad.out;omega) (by have:=ad.out;omega));rw [aH.out] at hl;go_simp;refine hK.out _ _ ?_ fun hHeld=>?_
       ·exact ak.out _ ((Keep.refl _ _).drew)
      rotate_left
      focus
       go_simp;refine hK.out _ _ ?_ fun hHeld=>?_
       ·first | exact ak.out _ (((Keep.refl _ _).alloc _).drew) | exact ak.out _ (((Keep.refl _ _).drew).alloc _)
      rotate_left
      all_goals
       clear hK K;refine wL fun ac16 Z16=>?_;obtain ⟨e5,e6,e7,C,G,J⟩:=p6 Z16 e5 e6 e7 C G J;obtain ⟨M,O,R,U,X,Y⟩:=p6 Z16 M O R U X Y;obtain ⟨aa,ac,ae,ah,aw⟩:=p5 Z16 aa ac ae ah aw;replace a8:=po Z16 a8
      focus
       have av:=pA Z16 HS;replace HS:=pS Z16 HS;refine wA 16 fun K hK=>?_
      rotate_left
      focus
       have ax:=pA Z16 HS;replace HS:=pS Z16 HS;refine wA 12 fun K hK=>?_;have hl:=(ar.out.wt.map.keep (((Keep.refl kF w5).alloc (.cells #[.int .i64 txn,.int .i64 kind,.int .i64 A,.int .i64 j] 204)).drew) (fun e=>e)).look underlying193 u_l (z_u (t:=txn) (by have:=ad.out;omega) (by have:=ad.out;omega));rw [aH.out] at hl
      rotate_left
      all_goals
       go_simp;refine hK.out _ _ ?_ fun hHeld=>?_
       ·first | exact ak.out _ (((Keep.refl _ _).alloc _).drew) | exact ak.out _ (((Keep.refl _ _).drew).alloc _)
       clear hK K;refine wL fun ac17 Z17=>?_;obtain ⟨e5,e6,e7,C,G,J⟩:=p6 Z17 e5 e6 e7 C G J;obtain ⟨M,O,R,U,X,Y⟩:=p6 Z17 M O R U X Y;obtain ⟨aa,ac,ae,ah,aw⟩:=p5 Z17 aa ac ae ah aw;replace a8:=po Z17 a8
      focus
       replace av:=po Z17 av;have ax:=pA Z17 HS
      rotate_left
      focus
       replace ax:=po Z17 ax;have av:=pA Z17 HS
      rotate_left
      all_goals
       replace HS:=pS Z17 HS;refine wB 17 fun K hK=>?_;refine oper_win (.tmp 50) (.tmp 54) 202 202 rfl 204 (.agg #[.int .i64 0,.int .i64 0,.int .i64 0,.int .i64 0]) 4 32 underlying202 info204 rfl (bx.out.keep (((Keep.refl kF w5).alloc (.cells #[.int .i64 txn,.int .i64 kind,.int .i64 A,.int .i64 j] 204)).drew) n3) (evalsL av) (((Rd.new w5 4 1 [.int .i64 txn,.int .i64 kind,.int .i64 A,.int .i64 j] 204 rfl (by simp [Value.oneCell']) (by unfold maxLen;omega)).keep ((Keep.refl kF _).drew) n3).src underlying202) (evalsL ax) (by unfold maxLen;omega) (by omega) (Nat.le_trans b5 (((Keep.refl kF w5).alloc (.cells #[.int .i64 txn,.int .i64 kind,.int .i64 A,.int .i64 j] 204)).drew).size) (fun v' w7 happ=>?_);have b8:Keep (fun b'=>(Value.slice bk nw an).ownBlock=some b') w5 w7:=((((Keep.refl kF w5).alloc (.cells #[.int .i64 txn,.int .i64 kind,.int .i64 A,.int .i64 j] 204)).drew).mono (fun _ _ e=>e.elim)).trans happ.keep n3;have bW:MapAt w7 V.bw 6 V.vw:=ar.out.wt.map.keep b8 (fun e=>by obtain ⟨c1,z1,q1⟩:=x_z bx.out e;exact ar.out.wt.map.ne_cells q1 rfl);have bL:=hD bW;have aE:=hD b8;have bQ:=hD happ.own;have cg:=hD happ.fresh;clear happ b8 bW;(try dsimp only);refine hK.out _ _ ?_ fun hHeld=>?_
       ·exact ak.out _ (aE.out.mono (fun _ _ e=>.inr e))
       clear hK K;refine wL fun ac18 Z18=>?_;obtain ⟨e5,e6,e7,C,G,J⟩:=p6 Z18 e5 e6 e7 C G J;obtain ⟨M,O,R,U,X,Y⟩:=p6 Z18 M O R U X Y;obtain ⟨aa,ac,ae,ah,aw⟩:=p5 Z18 aa ac ae ah aw;replace a8:=po Z18 a8
      focus
       replace av:=po Z18 av;replace ax:=po Z18 ax
      rotate_left
      focus
       replace ax:=po Z18 ax;replace av:=po Z18 av
      rotate_left
      all_goals
       have cW:=pA Z18 HS;replace HS:=pS Z18 HS;obtain ⟨w8,cd,bX,aA,_⟩:=bL.out.store underlying193 (by unfold maxLen;omega) (z_u (t:=txn) (by have:=ad.out;omega) (by have:=ad.out;omega)) v';have cj:=hD bX;have ag:=hD aA;clear bX aA;refine wA 18 fun K hK=>?_;go_simp;refine hK.out _ _ ?_ fun hHeld=>?_
       ·exact ak.out _ ((aE.out.mono (fun _ _ e=>.inr e)).trans ag.out (fun _ _ e=>.inl e))
       clear hK K
       have bn:RunAt w.heap.size w8 r {V with vw:=fun y=>if y=txn then some v' else V.vw y} (enq s (txn,kind,A) (j:Int)):=by
        have aU:Win w8 w.heap.size 204 4 v' (s.wt txn++[((txn,kind,A),(j:Int))]).length (heldC (s.wt txn++[((txn,kind,A),(j:Int))])):=(by have h7:=bQ.out;rw [bt.out] at h7;rw [List.length_append,heldC_snoc];exact h7.keep ag.out (fun b' hb e=>by obtain ⟨c1,z1,q1⟩:=x_z bQ.out hb;exact bL.out.ne_cells q1 e.symm));refine ar.out.setWt ad.out cj.out ((aE.out.mono (fun b' hb e=>.inr (bM.out b' e))).trans ag.out (fun _ _ e=>.inl e)) aU (fun u v b' hu aO hv hg e=>?_);rcases cg.out with e2 | ⟨g7,e2,cY⟩
        ·rw [e2] at e;obtain ⟨v0,cP,cK⟩:=bM.out b' e;exact aO (ar.out.wt.apart u txn v v0 b' hu (z_u (t:=txn) (by have:=ad.out;omega) (by have:=ad.out;omega)) hv cP hg cK)
        ·rw [e2] at e;cases e;have h1:=((ar.out.wt.win u v hu hv).lt b' hg).2;have h2:=(((Keep.refl kF w5).alloc (.cells #[.int .i64 txn,.int .i64 kind,.int .i64 A,.int .i64 j] 204)).drew).size;omega
       refine wpAnyH_done (by kernel_rfl) ?_ _;refine NoPanic.normal ?_;rw [cn.out];have g0:=uE0 ac0 [38,39,40,41,42,43,44,45,46,47,48,49,50,51,52,53,54,55];have g1:=uF Z1 g0;have g2:=uF Z2 g1;have g3:=uF Z3 g2;have g4:=uF Z4 g3;have g5:=uF Z5 g4;have g6:=uF Z6 g5;have g7:=uF Z7 g6;have g8:=uF Z8 g7;have g9:=uF Z9 g8;have c8:=uF Z10 g9;have cA:=uF Z11 c8;have cB:=uF Z12 cA;have cC:=uF Z13 cB;have cD:=uF Z14 cC;have cE:=uF Z15 cD;have cF:=uF Z16 cE;have cG:=uF Z17 cF;have cH:=uF Z18 cG;obtain ⟨f,hf⟩:=cH;rw [Z0.out] at hf;refine cJ _ _ (Met.intro (cI _ _ ?_));refine ⟨f 38,f 39,f 40,f 41,f 42,f 43,f 44,f 45,f 46,f 47,f 48,f 49,f 50,f 51,f 52,f 53,f 54,f 55,⟨⟨_,bn⟩,(ak.out w8 ((aE.out.mono (fun _ _ e=>.inr e)).trans ag.out (fun _ _ e=>.inl e))).1,(aE.out.mono (fun b' hb e=>(bx.out.lt b' e).1)).trans ag.out (fun i hi e=>by have e':i=V.bw:=e;rw [e'];exact ar.out.wt.ge)⟩,hf.trans (by kernel_rfl)⟩
     case rest=>
      obtain ⟨⟨V2,h8⟩,b6,aA⟩:=hcut;obtain ⟨w8,ce⟩:∃ w8,w8=wc:=⟨_,rfl⟩;rw [← ce] at h8 b6 aA ⊢;clear ce;have cq:=hD h8;have ag:Hid (Keep kF w w8):=hD ((((HK.out.trans bq.out n3).trans bJ.out n3).trans bK.out n3).trans aA (fun i hi e=>by have e':w.heap.size≤i:=e;omega));have bA:=aj.out.enq aY.out (j:Int) (by have:=au.out;omega);have ck:=hD bA;have bI:=hD (goOn_any h8 ag.out.size ad.out bA.1);clear h8 aA bA;cases wb
      ·have h0:s.wt txn=[]:=(by have q:=bR.out.symm;simp only [decide_eq_false_iff_not,Nat.not_lt,Nat.le_zero] at q;exact List.eq_nil_of_length_eq_zero (bt.out.symm.trans q));have HE:=hD h0;clear h0;cases bf:(goOnS ((enq s (txn,kind,A) (j:Int)).wt txn).length (enq s (txn,kind,A) (j:Int)) txn).2
       ·have aD:=hD bf;clear bf;go_wp2_with (go_at_call 109;refine Calls.mono bI.out ?_;rintro e w9 ⟨rfl,⟨V9,h9⟩,aN⟩;rw [aD.out];have cr:=hD h9;have aX:=hD aN;clear h9 aN)
        go_roundw
        case rel=>
         have hst:LStep s (txn,kind,A) (j:Int) (goOnT (enq s (txn,kind,A) (j:Int)) txn):=.go ay.out HE.out aD.out;have Z:=hst.ok aj.out aY.out (by have:=au.out;omega);exact ⟨j+1,goOnT (enq s (txn,kind,A) (j:Int)) txn,V9,by have:=aq.out;omega,rfl,cr.out,Z.1,by have:=au.out;have:=Z.2;omega,by rw [aZ.out];exact aF.out.snoc (by rw [br.out];exact hst),ag.out.trans aX.out (fun i hi e=>by have e':w.heap.size≤i:=e;omega)⟩
        case measure=>have:=aq.out;simp [intOf];omega
       ·have aD:=hD bf;clear bf;go_upto_region 11 with (go_at_call 109;refine Calls.mono bI.out ?_;rintro e w9 ⟨rfl,⟨V9,h9⟩,aN⟩;rw [aD.out];have aX:Hid (Keep kF w w9):=hD (ag.out.trans aN (fun i hi e=>by have e':w.heap.size≤i:=e;omega));have cu:=hD (retry_any h9 aX.out.size (y_l ck.out.1 txn));clear h9 aN)
        go_wp2_with (go_at_call 110;refine Calls.mono cu.out ?_;rintro e cS ⟨rfl,cR,cy,cb,bT,aL⟩;have bu:=hD bT;have cv:=hD cb;have bp:Hid (Keep kF w cS):=hD (aX.out.trans aL (fun i hi e=>by have e':w.heap.size≤i:=e;omega));clear bT cb aL)
        go_roundw
        case rel=>
         have hst:LStep s (txn,kind,A) (j:Int) cR:=.re ay.out HE.out aD.out cv.out;have Z:=hst.ok aj.out aY.out (by have:=au.out;omega);exact ⟨j+1,_,cy,by have:=aq.out;omega,rfl,bu.out,Z.1,by have:=au.out;have:=Z.2;omega,by rw [aZ.out];exact aF.out.snoc (by rw [br.out];exact hst),bp.out⟩
        case measure=>have:=aq.out;simp [intOf];omega
      ·have h0:s.wt txn≠[]:=(by have q:=bR.out.symm;simp only [decide_eq_true_eq] at q;rw [bt.out] at q;exact List.length_pos_iff.1 q);have HE:=hD h0;clear h0;go_wp2_with fail
       go_roundw
       case rel=>
        have hst:LStep s (txn,kind,A) (j:Int) (enq s (txn,kind,A) (j:Int)):=.wait ay.out HE.out;have Z:=hst.ok aj.out aY.out (by have:=au.out;omega);exact ⟨j+1,_,V2,by have:=aq.out;omega,rfl,cq.out,Z.1,by have:=au.out;have:=Z.2;omega,by rw [aZ.out];exact aF.out.snoc (by rw [br.out];exact hst),ag.out⟩
       case measure=>have:=aq.out;simp [intOf];omega
   ·have cL:((j:Int) < (h.length:Int))=False:=eq_false (by omega);have ch:Hid (h.take j=h):=hD (List.take_of_length_le (by omega));obtain ⟨c7,b3,bC,_⟩:=x_a a7.out.done;obtain ⟨ba,al,aC,_⟩:=x_a a7.out.ab;have cU:wr.cell? ⟨r,12,none⟩=some (.slice c7 s.done.length b3):=(a7.out.lk.blk.cell 12).trans ((x_s (j:=0)).trans (by simp [bC]));have bS:wr.cell? ⟨r,13,none⟩=some (.slice ba s.ab.length al):=(a7.out.lk.blk.cell 13).trans ((x_s (j:=1)).trans (by simp [aC]));have cw:=hD bC;clear bh bC aC;go_wp2_with fail
    go_quiet (fail)
    go_wp2_with fail
    go_ret3;refine ⟨HK.out.drewN _,.inr ⟨aG.out,s,_,_,rfl,by have:=aF.out;rw [ch.out] at this;exact this,aj.out,?_⟩⟩;have:=a7.out.done;rw [cw.out] at this;exact this
end Go.Proofs.YthdkamnclbfehaaGreatDoor
namespace Go.Proofs.YthdkamnclbfehaaGreatDoor
open Go.RowKit
structure Plc (s:LS) (n:Int):Prop where
  lt:∀ t,∀ p∈s.wt t,p.2 < n
  one:∀ t u,∀ p∈s.wt t,∀ q∈s.wt u,p.2=q.2→t=u
theorem Plc.mono {s:LS} {n m:Int} (h:Plc s n) (hn:n≤m):Plc s m:=⟨fun t p hp=>by have:=h.lt t p hp;omega,h.one⟩
theorem Plc.sub {s s':LS} {n:Int} (h:Plc s n) (hs:∀ t,∀ p∈s'.wt t,p∈s.wt t):Plc s' n:=
  ⟨fun t p hp=>h.lt t p (hs t p hp),fun t u p hp q hq e=>h.one t u p (hs t p hp) q (hs u q hq) e⟩
theorem goOnS_sub:∀ (n:Nat) (s:LS) (t:Int) (u:Int),∀ p∈(goOnS n s t).1.wt u,p∈s.wt u:=by
 intro n;induction n with
 | zero=>intro s t u p hp;exact hp
 | succ n ih=>
  intro s t u p hp;cases e:s.wt t with
  | nil=>rw [y_e e] at hp;exact hp
  | cons x rest=>
   obtain ⟨o,a⟩:=x;by_cases hh:Hdd s o
   ·by_cases hr:Reach s t t
    ·rw [x_x e hh hr] at hp;have A:p∈updW s.wt t [] u:=hp;unfold updW at A;by_cases q:u=t
     ·rw [if_pos q] at A;cases A
     ·rw [if_neg q] at A;exact A
    ·rw [y_b e hh hr] at hp;exact hp
   ·rw [y_g e hh] at hp;have C:=ih _ t u p hp;have A:p∈updW s.wt t rest u:=C;unfold updW at A;by_cases q:u=t
    ·rw [if_pos q] at A;rw [q,e];exact List.mem_cons_of_mem _ A
    ·rw [if_neg q] at A;exact A
theorem Plc.goOnT {s:LS} {n:Int} (h:Plc s n) (t:Int):Plc (Go.Proofs.YthdkamnclbfehaaGreatDoor.goOnT s t) n:=h.sub (goOnS_sub _ s t)
theorem Plc.enq {s:LS} {n:Int} (h:Plc s n) (o:LOp):Plc (Go.Proofs.YthdkamnclbfehaaGreatDoor.enq s o n) (n+1):=by
 have hm:∀ t,∀ p∈(Go.Proofs.YthdkamnclbfehaaGreatDoor.enq s o n).wt t,p∈s.wt t∨(p.2=n∧t=o.1):=fun t p hp=>by
  have A:p∈updW s.wt o.1 (s.wt o.1++[(o,n)]) t:=hp;unfold updW at A;by_cases q:t=o.1
  ·rw [if_pos q] at A;rcases List.mem_append.1 A with r | r
   ·exact .inl (q ▸ r)
   ·simp at r;rw [r];exact .inr ⟨rfl,q⟩
  ·rw [if_neg q] at A;exact .inl A
 refine ⟨fun t p hp=>?_,fun t u p hp q hq e=>?_⟩
 ·rcases hm t p hp with r | r
  ·have:=h.lt t p r;omega
  ·omega
 ·rcases hm t p hp with r | r
  ·rcases hm u q hq with r' | r'
   ·exact h.one t u p r q r' e
   ·have:=h.lt t p r;omega
  ·rcases hm u q hq with r' | r'
   ·have:=h.lt u q r';omega
   ·rw [r.2,r'.2]
theorem Ready.mem {s:LS} {t a:Int} (h:Ready s t a):∃ p∈s.wt t,p.2=a:=by
 obtain ⟨o,rest,e,_⟩:=h;exact ⟨(o,a),by rw [e];exact List.mem_cons_self,rfl⟩
theorem RetryR.plc {s s':LS} (h:RetryR s s'):∀ {n:Int},Plc s n→Plc s' n:=by
 induction h with
 | stop _=>exact fun h=>h
 | go _ _ _ ih=>exact fun h=>ih (h.goOnT _)
theorem RetryR.det {s s1:LS} (h:RetryR s s1):∀ {n:Int} {s2:LS},Plc s n→RetryR s s2→s1=s2:=by
 induction h with
 | stop hn=>
  intro n s2 _ h2;cases h2 with
  | stop _=>rfl
  | go hr _ _=>exact absurd hr (hn _ _)
 | @go s s' t a hr hm _ ih=>
  intro n s2 hp h2;cases h2 with
  | stop hn=>exact absurd hr (hn _ _)
  | @go _ _ t' a' hr' hm' h2'=>
   have e1:=hm t' a' hr';have e2:=hm' t a hr;have ea:a=a':=(by omega);subst ea;obtain ⟨p,C,A⟩:=hr.mem;obtain ⟨q,J,G⟩:=hr'.mem;have et:t=t':=hp.one t t' p C q J (by rw [A,G]);subst et;exact ih (hp.goOnT _) h2'
theorem LStep.det {s s1 s2:LS} {o:LOp} {i:Int} (hp:Plc s i) (h1:LStep s o i s1) (h2:LStep s o i s2):s1=s2:=by
 cases h1 with
 | gone a=>
  cases h2 with
  | gone _=>rfl
  | wait b _=>exact absurd a b
  | go b _ _=>exact absurd a b
  | re b _ _ _=>exact absurd a b
 | wait a b=>
  cases h2 with
  | gone c=>exact absurd c a
  | wait _ _=>rfl
  | go _ c _=>exact absurd c b
  | re _ c _ _=>exact absurd c b
 | go a b c=>
  cases h2 with
  | gone d=>exact absurd d a
  | wait _ d=>exact absurd b d
  | go _ _ _=>rfl
  | re _ _ d _=>rw [c] at d;cases d
 | re a b c d=>
  cases h2 with
  | gone e=>exact absurd e a
  | wait _ e=>exact absurd b e
  | go _ _ e=>rw [c] at e;cases e
  | re _ _ _ e=>exact d.det ((hp.enq o).goOnT _) e
theorem LStep.plc {s s':LS} {o:LOp} {i:Int} (hp:Plc s i) (h:LStep s o i s'):Plc s' (i+1):=by
 cases h with
 | gone _=>exact hp.mono (by omega)
 | wait _ _=>exact hp.enq o
 | go _ _ _=>exact (hp.enq o).goOnT _
 | re _ _ _ hr=>exact hr.plc ((hp.enq o).goOnT _)
theorem LRun.det {i:Nat} {s s1:LS} {l:List LOp} (h:LRun i s l s1):∀ {s2:LS},Plc s (i:Int)→LRun i s l s2→s1=s2:=by
 induction h with
 | nil=>intro s2 _ h2;cases h2;rfl
 | cons h1 _ ih=>
  intro s2 hp h2;cases h2 with
  | cons h1' h2'=>
   have e:=h1.det hp h1';subst e;exact ih (by have:=h1.plc hp;rw [Int.natCast_add];exact this) h2'
theorem plc_start:Plc s0L 0:=⟨fun t p h=>(by cases h),fun t u p h=>(by cases h)⟩
theorem lock_one {h:List LOp} {s1 s2:LS} (h1:LRun 0 s0L h s1) (h2:LRun 0 s0L h s2):s1=s2:=h1.det plc_start h2
def Still (s:LS):Prop:=∀ t a,¬ Ready s t a
theorem RetryR.still {s s':LS} (h:RetryR s s'):Still s':=by
 induction h with
 | stop hn=>exact hn
 | go _ _ _ ih=>exact ih
theorem Plc.enqStill {s:LS} {o:LOp} {n:Int} (h:Still s) (hw:s.wt o.1≠[]):Still (Go.Proofs.YthdkamnclbfehaaGreatDoor.enq s o n):=by
 rintro t a ⟨p,rest,e,hn⟩;have e':updW s.wt o.1 (s.wt o.1++[(o,n)]) t=(p,a)::rest:=e;unfold updW at e';by_cases q:t=o.1
 ·rw [if_pos q] at e';cases hx:s.wt o.1 with
  | nil=>exact hw hx
  | cons y ys=>
   rw [hx,List.cons_append] at e';injection e' with e1 e2;exact h o.1 a ⟨p,ys,by rw [hx,e1],hn⟩
 ·rw [if_neg q] at e';exact h t a ⟨p,rest,e',hn⟩
theorem take_more {s:LS} {o p:LOp} (ho:o.2.1≤1) (hex:s.ex o.2.2.toNat=0∨s.ex o.2.2.toNat=o.1∨o.2.1≠1) (hp:Hdd s p):Hdd (actS s o) p:=by
 obtain ⟨h1,y,hy⟩:=hp;unfold actS;rw [if_pos ho];unfold takeS;by_cases hk:o.2.1=1
 ·rw [if_pos hk];refine ⟨h1,?_⟩;by_cases hi:p.2.2.toNat=o.2.2.toNat
  ·rcases hy with ⟨a,b,c⟩ | ⟨a,b,c,d⟩
   ·refine ⟨o.1,.inl ⟨?_,?_,?_⟩⟩
    ·dsimp only;rw [if_pos hi];rcases hex with e | e | e
     ·rw [hi] at a;exact absurd e a
     ·rw [← e,← hi];exact a
     ·exact absurd hk e
    ·dsimp only;rw [if_pos hi];rcases hex with e | e | e
     ·rw [hi] at a;exact absurd e a
     ·rw [← e,← hi];exact b
     ·exact absurd hk e
    ·dsimp only;rw [if_pos hi]
   ·exact ⟨y,.inr ⟨a,b,c,d⟩⟩
  ·rcases hy with ⟨a,b,c⟩ | ⟨a,b,c,d⟩
   ·exact ⟨y,.inl ⟨by dsimp only;rw [if_neg hi];exact a,by dsimp only;rw [if_neg hi];exact b,by dsimp only;rw [if_neg hi];exact c⟩⟩
   ·exact ⟨y,.inr ⟨a,b,c,d⟩⟩
 ·rw [if_neg hk];refine ⟨h1,y,?_⟩;rcases hy with ⟨a,b,c⟩ | ⟨a,b,c,d⟩
  ·exact .inl ⟨a,b,c⟩
  ·exact .inr ⟨a,b,by dsimp only;split;rfl;exact c,d⟩
theorem not_hdd_ex {s:LS} {o:LOp} (h:¬ Hdd s o) (hk:o.2.1≤1):s.ex o.2.2.toNat=0∨s.ex o.2.2.toNat=o.1:=by
 by_cases e:s.ex o.2.2.toNat=0
 ·exact .inl e
 ·by_cases e':s.ex o.2.2.toNat=o.1
  ·exact .inr e'
  ·exact absurd ⟨hk,_,.inl ⟨e,e',rfl⟩⟩ h
theorem goOnS_still:∀ (n:Nat) (s:LS) (t:Int),(s.wt t).length≤n→(∀ u a,u≠t→¬ Ready s u a)→(goOnS n s t).2=false→Still (goOnS n s t).1:=by
 have A:∀ (s:LS) (t:Int),s.wt t=[]→(∀ u a,u≠t→¬ Ready s u a)→Still s:=fun s t e h u a hr=>by
  by_cases q:u=t
  ·obtain ⟨o,rest,e',_⟩:=hr;rw [q,e] at e';cases e'
  ·exact h u a q hr
 intro n;induction n with
 | zero=>
  intro s t hl h _;exact A s t (List.eq_nil_of_length_eq_zero (by omega)) h
 | succ n ih=>
  intro s t hl h hf;cases e:s.wt t with
  | nil=>rw [y_e e];exact A s t e h
  | cons x rest=>
   obtain ⟨o,a⟩:=x;by_cases hh:Hdd s o
   ·by_cases hr:Reach s t t
    ·rw [x_x e hh hr] at hf;cases hf
    ·rw [y_b e hh hr];intro u b C;by_cases q:u=t
     ·obtain ⟨p,r,e',hn⟩:=C;rw [q,e] at e';cases e';exact hn hh
     ·exact h u b q C
   ·rw [y_g e hh] at hf ⊢;simp only [Bool.or_eq_false_iff,decide_eq_false_iff_not] at hf;have hk:o.2.1≤1:=(by omega);refine ih (doS s t o rest) t ?_ (fun u b q C=>?_) hf.2
    ·show (updW s.wt t rest t).length≤n;unfold updW;rw [if_pos rfl];rw [e,List.length_cons] at hl;omega
    ·obtain ⟨p,r,e',hn⟩:=C;have e2:updW s.wt t rest u=(p,b)::r:=e';unfold updW at e2;rw [if_neg q] at e2;have hp:Hdd s p:=Classical.byContradiction (fun hnp=>h u b q ⟨p,r,e2,hnp⟩);have hm:=take_more hk ((not_hdd_ex hh hk).imp_right .inl) hp;exact hn hm
theorem u_u {s:LS} {o:LOp} {i u:Int} (h:u≠o.1):(enq s o i).wt u=s.wt u:=by
 show updW s.wt o.1 (s.wt o.1++[(o,i)]) u=_;unfold updW;rw [if_neg h]
theorem enq_quiet {s:LS} {o:LOp} {i:Int} (h:Still s):∀ u a,u≠o.1→¬ Ready (enq s o i) u a:=fun u a q hr=>by
  obtain ⟨p,r,e,hn⟩:=hr
  rw [u_u q] at e
  exact h u a ⟨p,r,e,hn⟩
theorem LStep.still {s s':LS} {o:LOp} {i:Int} (h:LStep s o i s') (hs:Still s):Still s':=by
 cases h with
 | gone _=>exact hs
 | wait _ hw=>exact Plc.enqStill hs hw
 | go _ hw hf=>exact goOnS_still _ _ _ (Nat.le_refl _) (enq_quiet hs) hf
 | re _ _ _ hr=>exact hr.still
theorem step_of {s s':LS} {o:LOp} {i:Int} (hs:Still s) (ha:o.1∉s.ab) (hw:s.wt o.1=[]) (hr:RetryR (goOnT (enq s o i) o.1) s'):LStep s o i s':=by
 cases hf:(goOnS ((enq s o i).wt o.1).length (enq s o i) o.1).2 with
 | true=>exact .re ha hw hf hr
 | false=>
  have hst:Still (goOnT (enq s o i) o.1):=goOnS_still _ _ _ (Nat.le_refl _) (enq_quiet hs) hf;cases hr with
  | stop _=>exact .go ha hw hf
  | go h _ _=>exact absurd h (hst _ _)
theorem still_start:Still s0L:=fun t a h=>by obtain ⟨o,r,e,_⟩:=h;cases e
end Go.Proofs.YthdkamnclbfehaaGreatDoor
namespace Go.Proofs.YthdkamnclbfehaaGreatDoor
open Go.RowKit Tryz
structure TV where
  vd:Value
  vq:Nat→Value
  va:Value
  vh:Value
structure TB where
  sh:Nat→Nat→Bool
  own:Nat→Nat→Bool
  wts:Nat→Bool
def tcell (V:TV) (B:TB) (k:Nat):Value:=
  if k=0 then V.vd
  else if k < 43 then .bool (B.sh ((k - 1) / 6) ((k - 1) % 6))
  else if k < 85 then .bool (B.own ((k - 43) / 6) ((k - 43) % 6))
  else if k < 92 then V.vq (k - 85)
  else if k < 99 then .bool (B.wts (k - 92))
  else if k=99 then V.va else V.vh
def tabC (V:TV) (B:TB):Array Value:=Array.ofFn (n:=101) (fun k=>tcell V B k.val)
theorem tab_get (V:TV) (B:TB) {k:Nat} (hk:k < 101):(tabC V B)[k]?=some (tcell V B k):=by
 unfold tabC;rw [Array.getElem?_eq_getElem (by simpa using hk)];simp
theorem tab_size (V:TV) (B:TB):(tabC V B).size=101:=by unfold tabC;simp
theorem u_a {V V':TV} {B B':TB} {k:Nat} {v:Value} (h:∀ j,j < 101→tcell V' B' j=if j=k then v else tcell V B j):(tabC V B).setIfInBounds k v=tabC V' B':=by
 apply Array.ext_getElem?;intro j;rw [Array.getElem?_setIfInBounds];by_cases hj:j < 101
 ·rw [tab_get V' B' hj,tab_get V B hj,h j hj,tab_size];by_cases q:k=j
  ·rw [if_pos q,if_pos (by omega),if_pos q.symm]
  ·rw [if_neg q,if_neg (fun e=>q e.symm)]
 ·have n1:(tabC V' B')[j]?=none:=Array.getElem?_eq_none (by rw [tab_size];omega);have n2:(tabC V B)[j]?=none:=Array.getElem?_eq_none (by rw [tab_size];omega);rw [n1,n2,tab_size];by_cases q:k=j
  ·rw [if_pos q,if_neg (by omega)]
  ·rw [if_neg q]
theorem tc_sh (V:TV) (B:TB) {t i:Nat} (ht:t < 7) (hi:i < 6):tcell V B (1+t * 6+i) = .bool (B.sh t i):=by
 unfold tcell;rw [if_neg (by omega),if_pos (by omega),show (1+t * 6+i - 1) / 6=t by omega,show (1+t * 6+i - 1) % 6=i by omega]
theorem tc_own (V:TV) (B:TB) {t i:Nat} (ht:t < 7) (hi:i < 6):tcell V B (43+t * 6+i) = .bool (B.own t i):=by
 unfold tcell;rw [if_neg (by omega),if_neg (by omega),if_pos (by omega),show (43+t * 6+i - 43) / 6=t by omega,show (43+t * 6+i - 43) % 6=i by omega]
theorem tc_q (V:TV) (B:TB) {t:Nat} (ht:t < 7):tcell V B (85+t)=V.vq t:=by
 unfold tcell;rw [if_neg (by omega),if_neg (by omega),if_neg (by omega),if_pos (by omega),show 85+t - 85=t by omega]
theorem tc_w (V:TV) (B:TB) {t:Nat} (ht:t < 7):tcell V B (92+t) = .bool (B.wts t):=by
 unfold tcell;rw [if_neg (by omega),if_neg (by omega),if_neg (by omega),if_neg (by omega),if_pos (by omega),show 92+t - 92=t by omega]
theorem tc_d (V:TV) (B:TB):tcell V B 0=V.vd:=rfl
theorem tc_a (V:TV) (B:TB):tcell V B 99=V.va:=rfl
theorem tc_h (V:TV) (B:TB):tcell V B 100=V.vh:=rfl
def TB.clrS (B:TB) (t i:Nat):TB:={B with sh:=fun x y=>if x=t∧y < i then false else B.sh x y}
def TB.clrO (B:TB) (t i:Nat):TB:={B with own:=fun x y=>if x=t∧y < i then false else B.own x y}
theorem z_w (V:TV) (B:TB) {t i:Nat} (ht:t < 7) (hi:i < 6):(tabC V (B.clrS t i)).setIfInBounds (1+t * 6+i) (.bool false)=tabC V (B.clrS t (i+1)):=by
 refine u_a fun j hj=>?_;by_cases q:j=1+t * 6+i
 ·rw [if_pos q,q,tc_sh V _ ht hi];show Value.bool (if t=t∧i < i+1 then false else B.sh t i)=_;rw [if_pos ⟨rfl,by omega⟩]
 ·rw [if_neg q];unfold tcell TB.clrS;by_cases h0:j=0
  ·rw [if_pos h0,if_pos h0]
  ·rw [if_neg h0,if_neg h0];by_cases h1:j < 43
   ·rw [if_pos h1,if_pos h1];dsimp only;congr 1;by_cases e:(j - 1) / 6=t∧(j - 1) % 6 < i
    ·rw [if_pos e,if_pos ⟨e.1,by omega⟩]
    ·rw [if_neg e,if_neg (fun e'=>e ⟨e'.1,by omega⟩)]
   ·rw [if_neg h1,if_neg h1]
theorem z_x (V:TV) (B:TB) {t i:Nat} (ht:t < 7) (hi:i < 6):(tabC V (B.clrO t i)).setIfInBounds (43+t * 6+i) (.bool false)=tabC V (B.clrO t (i+1)):=by
 refine u_a fun j hj=>?_;by_cases q:j=43+t * 6+i
 ·rw [if_pos q,q,tc_own V _ ht hi];show Value.bool (if t=t∧i < i+1 then false else B.own t i)=_;rw [if_pos ⟨rfl,by omega⟩]
 ·rw [if_neg q];unfold tcell TB.clrO;by_cases h0:j=0
  ·rw [if_pos h0,if_pos h0]
  ·rw [if_neg h0,if_neg h0];by_cases h1:j < 43
   ·rw [if_pos h1,if_pos h1]
   ·rw [if_neg h1,if_neg h1];by_cases h2:j < 85
    ·rw [if_pos h2,if_pos h2];dsimp only;congr 1;by_cases e:(j - 43) / 6=t∧(j - 43) % 6 < i
     ·rw [if_pos e,if_pos ⟨e.1,by omega⟩]
     ·rw [if_neg e,if_neg (fun e'=>e ⟨e'.1,by omega⟩)]
    ·rw [if_neg h2,if_neg h2]
theorem clrS_zero (B:TB) (t:Nat):B.clrS t 0=B:=by unfold TB.clrS;congr;funext x y;rw [if_neg (by omega)]
theorem clrO_zero (B:TB) (t:Nat):B.clrO t 0=B:=by unfold TB.clrO;congr;funext x y;rw [if_neg (by omega)]
def clear6 (w:World) (b o:Nat):World:=
  (((((w.setCell ⟨b,o,none⟩ (.bool false)).setCell ⟨b,o+1,none⟩ (.bool false)).setCell ⟨b,o+2,none⟩ (.bool false)).setCell ⟨b,o+3,none⟩ (.bool false)).setCell ⟨b,o+4,none⟩ (.bool false)).setCell ⟨b,o+5,none⟩ (.bool false)
theorem clear6_keep (w:World) (b o:Nat):Keep (fun k=>k=b) w (clear6 w b o):=by
 have h:∀ (w':World) (o:Nat),Keep (fun k=>k=b) w w'→Keep (fun k=>k=b) w (w'.setCell ⟨b,o,none⟩ (.bool false)):=fun w' o k=>k.setCell ⟨b,o,none⟩ _ (fun _=>rfl);exact h _ _ (h _ _ (h _ _ (h _ _ (h _ _ (h _ _ (Keep.refl _ w))))))
theorem clearS {w:World} {b t:Nat} {V:TV} {B:TB} (h:Blk w b (tabC V B) 246) (ht:t < 7):Blk (clear6 w b (1+t * 6)) b (tabC V (B.clrS t 6)) 246:=by
 rw [← clrS_zero B t] at h;have h1:=h.set (1+t * 6+0) (.bool false);rw [z_w V B ht (by decide)] at h1;have h2:=h1.set (1+t * 6+1) (.bool false);rw [z_w V B ht (by decide)] at h2;have h3:=h2.set (1+t * 6+2) (.bool false);rw [z_w V B ht (by decide)] at h3;have h4:=h3.set (1+t * 6+3) (.bool false);rw [z_w V B ht (by decide)] at h4;have h5:=h4.set (1+t * 6+4) (.bool false);rw [z_w V B ht (by decide)] at h5;have h6:=h5.set (1+t * 6+5) (.bool false);rw [z_w V B ht (by decide)] at h6;exact h6
theorem clearO {w:World} {b t:Nat} {V:TV} {B:TB} (h:Blk w b (tabC V B) 246) (ht:t < 7):Blk (clear6 w b (43+t * 6)) b (tabC V (B.clrO t 6)) 246:=by
 rw [← clrO_zero B t] at h;have h1:=h.set (43+t * 6+0) (.bool false);rw [z_x V B ht (by decide)] at h1;have h2:=h1.set (43+t * 6+1) (.bool false);rw [z_x V B ht (by decide)] at h2;have h3:=h2.set (43+t * 6+2) (.bool false);rw [z_x V B ht (by decide)] at h3;have h4:=h3.set (43+t * 6+3) (.bool false);rw [z_x V B ht (by decide)] at h4;have h5:=h4.set (43+t * 6+4) (.bool false);rw [z_x V B ht (by decide)] at h5;have h6:=h5.set (43+t * 6+5) (.bool false);rw [z_x V B ht (by decide)] at h6;exact h6
theorem x_k {w:World} {b:Nat} {V:TV} {B:TB} (h:Blk w b (tabC V B) 246) {k:Nat} (hk:k < 101):w.cell? ⟨b,k,none⟩=some (tcell V B k)∧w.frozen? ⟨b,k,none⟩=false:=
  ⟨(h.cell k).trans (tab_get V B hk),h.free k⟩
theorem releaseT_any {w:World} {b:Nat} {V:TV} {B:TB} {t:Nat} (h:Blk w b (tabC V B) 246) (ht:t < 7):Calls prog 213 #[.pointer (some ⟨b,0,none⟩),.int .i64 (t:Int)] w (fun e w'=>e = .returned (.tuple #[])∧Blk w' b (tabC V ((B.clrS t 6).clrO t 6)) 246∧Keep (fun k=>k=b) w w'):=by
 have h0:(0:Int)≤(t:Int):=(by omega);have h7:(t:Int) < 7:=(by omega);have W:((t:Int) < 7)=True:=eq_true h7;obtain ⟨c0,f0⟩:=x_k h (k:=1+t * 6) (by omega);obtain ⟨c1,f1⟩:=x_k h (k:=1+t * 6+1) (by omega);obtain ⟨c2,f2⟩:=x_k h (k:=1+t * 6+2) (by omega);obtain ⟨c3,f3⟩:=x_k h (k:=1+t * 6+3) (by omega);obtain ⟨c4,f4⟩:=x_k h (k:=1+t * 6+4) (by omega);obtain ⟨c5,f5⟩:=x_k h (k:=1+t * 6+5) (by omega);have H:=hD h;clear h;go_enter func213,ntmps213;refine wp_region_noPanic ?_;refine wp_region_held_drew (S:=fun _=>True) (by kernel_rfl) trivial fun hHeld=>?_;refine wS 0 ?_;refine wS 1 ?_;refine wS 2 ?_;refine wS 3 ?_;refine wS 4 ?_;refine wS 5 ?_;refine wS 6 ?_;refine wS 7 ?_;refine wS 8 ?_;refine wS 10 ?_;refine wS 11 ?_;refine wA 9 fun K hK=>?_;go_simp;refine hK.out _ _ trivial fun hHeld=>?_;clear hK K;(try simp only [tA]);obtain ⟨w2,C⟩:∃ w2,w2=(clear6 w b (1+t * 6)).drew:=⟨_,rfl⟩;have A:Blk w2 b (tabC V (B.clrS t 6)) 246:=(by rw [C];exact (clearS H.out ht).drew);have J:Keep (fun k=>k=b) w w2:=(by rw [C];exact (clear6_keep w b _).drew);unfold clear6 at C;rw [← C];have M:=hD A;have R:=hD J;clear C J c0 c1 c2 c3 c4 c5 f0 f1 f2 f3 f4 f5;obtain ⟨c0,f0⟩:=x_k A (k:=43+t * 6) (by omega);obtain ⟨c1,f1⟩:=x_k A (k:=43+t * 6+1) (by omega);obtain ⟨c2,f2⟩:=x_k A (k:=43+t * 6+2) (by omega);obtain ⟨c3,f3⟩:=x_k A (k:=43+t * 6+3) (by omega);obtain ⟨c4,f4⟩:=x_k A (k:=43+t * 6+4) (by omega);obtain ⟨c5,f5⟩:=x_k A (k:=43+t * 6+5) (by omega);clear A;refine wS 12 ?_;refine wA 13 fun K hK=>?_;go_simp;refine hK.out _ _ trivial fun hHeld=>?_;clear hK K;(try simp only [tA]);refine wpAnyH_done (by kernel_rfl) ?_ _;refine NoPanic.normal ?_;obtain ⟨w3,G⟩:∃ w3,w3=clear6 w2 b (43+t * 6):=⟨_,rfl⟩;have O:Hid (Blk w3 b (tabC V ((B.clrS t 6).clrO t 6)) 246):=hD (by rw [G];exact clearO M.out ht);have U:Hid (Keep (fun k=>k=b) w w3):=hD (by rw [G];exact R.out.trans (clear6_keep w2 b _) n3);unfold clear6 at G;rw [← G];clear G c0 c1 c2 c3 c4 c5 f0 f1 f2 f3 f4 f5;go_wp2
 go_end0
 exact ⟨rfl,O.out,U.out⟩
end Go.Proofs.YthdkamnclbfehaaGreatDoor
