/- A part of the proof. -/
import Derived.Test.YthdkamnclbfehaaGreatDoorDaysM14
import Derived.Test.YthdkamnclbfehaaGreatDoorDaysM16
set_option linter.all false
set_option maxHeartbeats 20000000
set_option maxRecDepth 100000
namespace Go.Proofs.YthdkamnclbfehaaGreatDoor
open Go.RowKit Tryz
def adjB (S:St) (b c:Int):Bool:=S.bays.getD b.toNat 0 / 2 ^ min c.toNat 64 % 2 == 1
def clashAt (S:St) (i b:Int) (X:Lot) (k:Nat):Bool:=
  match S.lots[k]? with
  | some y=>!((k:Int) == i - 1) && (!y.closed && (!decide (y.bay < 0) && (y.bay == b || (!(y.spice.toList == X.spice.toList) && adjB S b y.bay))))
  | none=>false
def putF (S:St) (a:FA):Res:=
  if hasLot S (a.n.getD 0 0) then
    (if 7 < a.n.getD 1 0 then ⟨2,S,bs []⟩
     else match S.lots[(a.n.getD 0 0 - 1).toNat]? with
      | some X=>if X.closed then ⟨7,S,bs []⟩
          else if (List.range S.lots.length).any (clashAt S (a.n.getD 0 0) (a.n.getD 1 0) X) then ⟨7,S,bs []⟩
          else ⟨0,{S with lots:=S.lots.set (a.n.getD 0 0 - 1).toNat {X with bay:=a.n.getD 1 0} },bs [112,117,116]⟩
      | none=>⟨5,S,bs []⟩)
  else ⟨5,S,bs []⟩
theorem put_any {base:Nat} {w:World} {V:StV} {S:St} {vn:Value} {a:FA} (hG:GW base w) (h:OSt base w V S) (hl:S.small) (hbays:S.bays.length=8) (ha:Args base w vn a) (hn:a.n.length=2) (hbx:∀ x∈a.n,0≤x∧x≤9223372036854775807):Calls prog 257 #[.pointer (some ⟨V.b,0,none⟩),.agg #[vn,.string a.word]] w (RunPost base w V (putF S a)):=by
 obtain ⟨nb,no,nc,rfl,aj,hC⟩:=args_open h ha (by omega)
 obtain ⟨i,b,hx⟩:∃ i b,a.n=[i,b]:=by
  match a.n,hn with
  | [i,b],_=>exact ⟨i,b,rfl⟩
 obtain ⟨an,word,M⟩:=a;simp only at hx hn aj hC hbx;subst hx;have aI:=hbx i (by simp);have aG:=hbx b (by simp);obtain ⟨bn,rfl⟩:=Int.eq_ofNat_of_zero_le aG.1;change Calls prog 257 #[.pointer (some ⟨V.b,0,none⟩),.agg #[.slice (some ⟨nb,no,none⟩) 2 nc,.string word]] w (RunPost base w V (putF S ⟨[i,(bn:Int)],word,M⟩));obtain ⟨w0,ak⟩:∃ w0,w0=w.alloc (.cells #[.slice (some ⟨nb,no,none⟩) 2 nc,.string word] 134):=⟨_,rfl⟩;obtain ⟨b0,b1,b2⟩:=hC _ (Keep.refl _ _);have n0:=b2 0 (by simp);have n1:=b2 1 (by simp);simp only [Nat.add_zero,List.getD_cons_zero,List.getD_cons_succ] at n0 n1;have aO:(w.alloc (.cells #[.slice (some ⟨nb,no,none⟩) 2 nc,.string word] 134)).cell? ⟨w.heap.size,0,none⟩=some (.slice (some ⟨nb,no,none⟩) 2 nc):=b0;have bi:w0.cell? ⟨nb,no,none⟩=some (.int .i64 i):=(by rw [ak];exact n0);have bj:w0.cell? ⟨nb,no+1,none⟩=some (.int .i64 (bn:Int)):=(by rw [ak];exact n1);rw [← ak] at aO;have aX:2≤nc:=aj;have a8:Keep kF w w0:=(by rw [ak];exact (Keep.refl _ _).alloc _);have h0:=h.keep a8 n3;have HI:=hD aI;have HB:=hD aG;clear aI hbx;have H0:=hD h0;clear h0;have H:=hD h;clear h;have HL:=hD hl;clear hl;have ad:=hD a8;clear a8;have ax:=hD ak;clear ak;clear b0 b1 b2 n0 n1 hC ha aj hn;have aw:Hid (∀ nq,Calls prog 262 #[.pointer (some ⟨V.b,0,none⟩),.slice (some ⟨w0.heap.size,0,none⟩) 1 1] ((w0.drewN nq).alloc (.cells #[.int .i64 i] 3)) (IdxPost ((w0.drewN nq).alloc (.cells #[.int .i64 i] 3)) (.bool (hasLot S i)))):=hD fun nq=>(by have kk:=(((Keep.refl kF w0).drewN nq).alloc (.cells #[.int .i64 i] 3));have hh:=y_k (l:=[i]) ((H0.out.keep kk n3).at (Nat.le_trans H0.out.lt kk.size)) HL.out.l (Rd.new (w0.drewN nq) 1 1 (icells [i]) 3 rfl (x_l _) (by unfold maxLen;omega)) (by simp);rw [show allLots S [i]=hasLot S i by simp [allLots]] at hh;exact hh);cases hb:hasLot S i
 ·have HF:=hD (show putF S ⟨[i,(bn:Int)],word,M⟩=⟨5,S,bs []⟩ by unfold putF;simp only [List.getD_cons_zero,List.getD_cons_succ];rw [hb];rfl);have am:=hD hb;clear hb;go_enter func257,ntmps257;go_wp2
  rw [← ax.out];go_quiet (fail)
  go_wp2_with (go_at_call 262;have hh:=aw.out nq;rw [am.out] at hh;refine Calls.mono hh ?_;clear hh;rintro e w1 ⟨rfl,G⟩;have C:=hD ((((Keep.refl kF w0).drewN nq).alloc (.cells #[.int .i64 i] 3)).trans G n3);clear G)
  go_ret2;exact ⟨by rw [HF.out];rfl,V,(fun e=>by rw [HF.out] at e;cases e),(Chg.refl base w V).after (ad.out.trans C.out n3)⟩
 ·obtain ⟨ki,rfl,aA⟩:=z_b hb;obtain ⟨g,aZ,hv,aT,bf,aU⟩:=H.out.lotRow (by omega);obtain ⟨X,hX⟩:∃ X,S.lots[ki]?=some X:=⟨_,List.getElem?_eq_getElem aA⟩;have aH:S.lots[((ki:Int)+1 - 1).toNat]?=some X:=by rw [show ((ki:Int)+1 - 1).toNat=ki by omega];exact hX
  have ac:putF S ⟨[(ki:Int)+1,(bn:Int)],word,M⟩=if 7 < (bn:Int) then ⟨2,S,bs []⟩ else (if X.closed then ⟨7,S,bs []⟩
        else if (List.range S.lots.length).any (clashAt S ((ki:Int)+1) (bn:Int) X) then ⟨7,S,bs []⟩
        else ⟨0,{S with lots:=S.lots.set ki {X with bay:=(bn:Int)} },bs [112,117,116]⟩):=by
    unfold putF
    simp only [List.getD_cons_zero,List.getD_cons_succ]
    rw [hb,if_pos rfl,aH,show ((ki:Int)+1 - 1).toNat=ki by omega]
  have aE:Hid (∀ W,Keep kF w0 W→Calls prog 263 #[.pointer (some ⟨V.b,0,none⟩),.int .i64 ((ki:Int)+1)] W fun e w'=>e = .returned (.pointer (some ⟨g,ki * 4,none⟩))∧W=w'):=hD fun W hk=>(by have hh:=lot_any (i:=(ki:Int)+1) ((H0.out.keep hk n3).at (Nat.le_trans H0.out.lt hk.size)) HL.out.l;unfold LotPost at hh;rw [hb,if_pos rfl,lotPtr_at hv] at hh;exact hh);have am:=hD hb;clear hb;have HX:=hD hX;clear hX aH;have aN:=hD aA;clear aA;by_cases h7:7 < (bn:Int)
  ·have HF:=hD (show putF S ⟨[(ki:Int)+1,(bn:Int)],word,M⟩=⟨2,S,bs []⟩ by rw [ac,if_pos h7]);have aP:decide (7 < (bn:Int))=true:=decide_eq_true h7;clear ac h7;go_enter func257,ntmps257;go_wp2
   rw [← ax.out];go_quiet (fail)
   go_wp2_with (go_at_call 262;have hh:=aw.out nq;rw [am.out] at hh;refine Calls.mono hh ?_;clear hh;rintro e w1 ⟨rfl,G⟩;have C:=hD ((((Keep.refl kF w0).drewN nq).alloc (.cells #[.int .i64 ((ki:Int)+1)] 3)).trans G n3);clear G)
   go_ret2;exact ⟨by rw [HF.out];rfl,V,(fun e=>by rw [HF.out] at e;cases e),(Chg.refl base w V).after (ad.out.trans C.out n3)⟩
  rw [if_neg h7] at ac;have aP:decide (7 < (bn:Int))=false:=decide_eq_false h7;cases ag:X.closed
  ·have aF:putF S ⟨[(ki:Int)+1,(bn:Int)],word,M⟩=if (List.range S.lots.length).any (clashAt S ((ki:Int)+1) (bn:Int) X) then ⟨7,S,bs []⟩ else ⟨0,{S with lots:=S.lots.set ki {X with bay:=(bn:Int)} },bs [112,117,116]⟩:=(by rw [ac,ag];rfl);have a7:=hD aF;have a6:=hD ag;clear ac aF ag;go_enter func257,ntmps257;go_wp2
   rw [← ax.out];go_quiet (fail)
   go_wp2_with (first
     | (go_at_call 262;have hh:=aw.out nq;rw [am.out] at hh;refine Calls.mono hh ?_;clear hh;rintro e w1 ⟨rfl,G⟩;have C:=hD ((((Keep.refl kF w0).drewN nq).alloc (.cells #[.int .i64 ((ki:Int)+1)] 3)).trans G n3);clear G;obtain ⟨⟨x0,_,_,x3⟩,fr⟩:=(H0.out.keep C.out n3).lotCellX hv HX.out;rw [a6.out] at x3;have c1:=(H0.out.keep C.out n3).blk.cell 1;simp [StV.cells] at c1;rw [hv] at c1)
     | (go_at_call 263;refine Calls.mono (aE.out w1 C.out) ?_;rintro e w' ⟨rfl,rfl⟩))
   have aW:=aN.out;have bh:IntKind.i64.wrap ((ki:Int)+1 - 1)=(ki:Int):=(by rw [IntWalk.i64_in _ (by have:=HL.out.l;omega)];omega);have bg:=HL.out.l;go_loopw [43] (fun v wr=>∃ k:Nat,k≤S.lots.length∧v = .int .i64 k∧Keep (fun _=>False) w0 wr∧∀ j,j < k→clashAt S ((ki:Int)+1) (bn:Int) X j=false) (fun v _=>S.lots.length - (intOf v).toNat)
   case atStart=>exact ⟨0,Nat.zero_le _,rfl,C.out,fun j h=>by omega⟩
   case round=>
    obtain ⟨k,hk,rfl,aK,aj⟩:=hrel;have U:=hD aK;clear aK;have ae:=hD aj;clear aj;by_cases aa:k < S.lots.length
    ·obtain ⟨Y,hY⟩:∃ Y,S.lots[k]?=some Y:=⟨_,List.getElem?_eq_getElem aa⟩;obtain ⟨ys,yg,yb,yc⟩:=Y;have aB:((k:Int) < (S.lots.length:Int))=True:=(by simp;omega);obtain ⟨⟨y0,y1,y2,y3⟩,_⟩:=(H0.out.keep U.out n3).lotCellX hv hY;dsimp only at y0 y1 y2 y3;have Z:clashAt S ((ki:Int)+1) (bn:Int) X k=(!((k:Int) == (ki:Int)+1 - 1) && (!yc && (!decide (yb < 0) && (yb == (bn:Int) || (!(ys.toList == X.spice.toList) && adjB S (bn:Int) yb))))):=(by unfold clashAt;rw [hY]);clear hY;by_cases ai:k=ki
     ·have J:=hD (show clashAt S ((ki:Int)+1) (bn:Int) X k=false by rw [Z,ai];simp);have aV:((k:Int) == (ki:Int))=true:=(by rw [ai];simp);clear Z ai;go_wp2
      go_roundw
      case rel=>exact ⟨k+1,aa,by go_num,U.out.alloc _,fun j hj=>by
       by_cases O:j=k
       ·subst O;exact J.out
       ·exact ae.out j (by omega)⟩
      case measure=>simp [intOf];omega
     have aV:((k:Int) == (ki:Int))=false:=(by simp;omega);have R:((k:Int) == (ki:Int)+1 - 1)=false:=(by simp;omega);cases yc
     ·by_cases al:yb < 0
      ·have J:=hD (show clashAt S ((ki:Int)+1) (bn:Int) X k=false by rw [Z,decide_eq_true al];simp);have au:decide (yb < 0)=true:=decide_eq_true al;clear Z ai al R;go_wp2
       go_roundw
       case rel=>exact ⟨k+1,aa,by go_num,U.out.alloc _,fun j hj=>by
        by_cases O:j=k
        ·subst O;exact J.out
        ·exact ae.out j (by omega)⟩
       case measure=>simp [intOf];omega
      obtain ⟨c,rfl⟩:=Int.eq_ofNat_of_zero_le (show 0≤yb by omega);have A:clashAt S ((ki:Int)+1) (bn:Int) X k=(((c:Int) == (bn:Int)) || (!(ys.toList == X.spice.toList) && (S.bays.getD bn 0 / 2 ^ min c 64 % 2 == 1))):=(by rw [Z,R,decide_eq_false al];simp only [adjB,Int.toNat_natCast,Bool.not_false,Bool.true_and]);have au:decide ((c:Int) < 0)=false:=decide_eq_false al;clear ai Z R al;go_wp2
      have ah:=U.out.alloc (.cells #[.string ys,.int .i64 yg,.int .i64 (c:Int),.bool false] 214);have az:=Blk.new wr #[.string ys,.int .i64 yg,.int .i64 (c:Int),.bool false] 214;obtain ⟨wb,aD⟩:∃ wb,wb=wr.alloc (.cells #[.string ys,.int .i64 yg,.int .i64 (c:Int),.bool false] 214):=⟨_,rfl⟩;rw [← aD] at ah az;rw [← aD];clear aD y0 y1 y2 y3 au;have z0:=az.cell 0;have z2:=az.cell 2;simp at z0 z2;have xs:=((H0.out.keep ah n3).lotCellX hv HX.out).1.1;have aM:=(H0.out.keep ah n3).blk.cell 0;simp [StV.cells] at aM
      obtain ⟨gb,ob,cb,aL,aQ⟩:∃ gb ob cb,V.vb = .slice (some ⟨gb,ob,none⟩) 8 cb∧wb.cell? ⟨gb,ob+bn,none⟩=some (.int .i64 (S.bays.getD bn 0)):=by
       have aY:=(H0.out.keep ah n3).rb;rcases aY.2.2 with ⟨_,e⟩ | ⟨gb,ob,cb,e,_,_,hx⟩
       ·omega
       ·exact ⟨gb,ob,cb,by rw [e,hbays],hx bn _ (y_f _ _ (by omega))⟩
      rw [aL] at aM;have ba:((bn:Int) < 8)=True:=(by simp;omega);have av:=hD ah;clear ah az aL;obtain ⟨q,hq⟩:∃ q,S.bays.getD bn 0=q:=⟨_,rfl⟩;rw [hq] at aQ A;have HQ:=hD hq;clear hq;have a1:=u_g;by_cases ay:(c:Int)=(bn:Int)
      ·have HF:=hD (show putF S ⟨[(ki:Int)+1,(bn:Int)],word,M⟩=⟨7,S,bs []⟩ by rw [a7.out,if_pos (List.any_eq_true.2 ⟨k,List.mem_range.2 aa,by rw [A,ay];simp⟩)]);have aq:((c:Int) == (bn:Int))=true:=(by rw [ay];simp);clear A ay;go_quiet (fail)
       go_wp2
       go_ret2;exact ⟨by rw [HF.out];rfl,V,(fun e=>by rw [HF.out] at e;cases e),(Chg.refl base w V).after (ad.out.trans (av.out.drewN _) n3)⟩
      have aq:((c:Int) == (bn:Int))=false:=(by simp;omega);rw [aq,Bool.false_or] at A;clear ay;by_cases ar:ys=X.spice
      ·have J:=hD (show clashAt S ((ki:Int)+1) (bn:Int) X k=false by rw [A,ar];simp);rw [ar] at z0;clear A ar;go_quiet (fail)
       go_wp2
       go_roundw
       case rel=>exact ⟨k+1,aa,by go_num,av.out.drewN _,fun j hj=>by
        by_cases O:j=k
        ·subst O;exact J.out
        ·exact ae.out j (by omega)⟩
       case measure=>simp [intOf];omega
      have aC:(ys.toList == X.spice.toList)=false:=(by rw [beq_dec];exact decide_eq_false ar);rw [aC,Bool.not_false,Bool.true_and] at A;clear ar;cases ao:(q / 2 ^ min c 64 % 2 == 1)
      ·have J:=hD (show clashAt S ((ki:Int)+1) (bn:Int) X k=false by rw [A,ao]);clear A;go_quiet (fail)
       go_wp2
       go_roundw
       case rel=>exact ⟨k+1,aa,by go_num,av.out.drewN _,fun j hj=>by
        by_cases O:j=k
        ·subst O;exact J.out
        ·exact ae.out j (by omega)⟩
       case measure=>simp [intOf];omega
      ·have HF:=hD (show putF S ⟨[(ki:Int)+1,(bn:Int)],word,M⟩=⟨7,S,bs []⟩ by rw [a7.out,if_pos (List.any_eq_true.2 ⟨k,List.mem_range.2 aa,by rw [A,ao]⟩)]);clear A;go_quiet (fail)
       go_wp2
       go_ret2;exact ⟨by rw [HF.out];rfl,V,(fun e=>by rw [HF.out] at e;cases e),(Chg.refl base w V).after (ad.out.trans (av.out.drewN _) n3)⟩
     ·have J:=hD (show clashAt S ((ki:Int)+1) (bn:Int) X k=false by rw [Z];simp);clear Z ai R;go_wp2
      go_roundw
      case rel=>exact ⟨k+1,aa,by go_num,U.out.alloc _,fun j hj=>by
       by_cases O:j=k
       ·subst O;exact J.out
       ·exact ae.out j (by omega)⟩
      case measure=>simp [intOf];omega
    ·have aJ:k=S.lots.length:=(by omega);have HF:=hD (show putF S ⟨[(ki:Int)+1,(bn:Int)],word,M⟩=⟨0,{S with lots:=S.lots.set ki {X with bay:=(bn:Int)} },bs [112,117,116]⟩ by rw [a7.out,if_neg];intro e;obtain ⟨j,hj,e⟩:=List.any_eq_true.1 e;rw [ae.out j (by rw [aJ];exact List.mem_range.1 hj)] at e;cases e);have aB:((k:Int) < (S.lots.length:Int))=False:=(by simp;omega);obtain ⟨⟨_,_,z2,_⟩,fr⟩:=(H0.out.keep U.out n3).lotCellX hv HX.out;have f2:=fr (ki * 4+2);clear fr aJ;go_wp2
     go_ret2;obtain ⟨h1,aS⟩:=(H0.out.keep U.out n3).setLotX hv HX.out 2 (by omega) {X with bay:=(bn:Int)} (.int .i64 (bn:Int)) rfl;refine ⟨by rw [HF.out];rfl,V,fun _=>?_,aS.before (ad.out.trans U.out n3)⟩;rw [HF.out];exact h1
  ·have HF:=hD (show putF S ⟨[(ki:Int)+1,(bn:Int)],word,M⟩=⟨7,S,bs []⟩ by rw [ac,ag];rfl);have a6:=hD ag;clear ac h7 ag;go_enter func257,ntmps257;go_wp2
   rw [← ax.out];go_quiet (fail)
   go_wp2_with (first
     | (go_at_call 262;have hh:=aw.out nq;rw [am.out] at hh;refine Calls.mono hh ?_;clear hh;rintro e w1 ⟨rfl,G⟩;have C:=hD ((((Keep.refl kF w0).drewN nq).alloc (.cells #[.int .i64 ((ki:Int)+1)] 3)).trans G n3);clear G;obtain ⟨⟨x0,_,_,x3⟩,fr⟩:=(H0.out.keep C.out n3).lotCellX hv HX.out;rw [a6.out] at x3)
     | (go_at_call 263;refine Calls.mono (aE.out w1 C.out) ?_;rintro e w' ⟨rfl,rfl⟩))
   go_ret2;exact ⟨by rw [HF.out];rfl,V,(fun e=>by rw [HF.out] at e;cases e),(Chg.refl base w V).after (ad.out.trans C.out n3)⟩
end Go.Proofs.YthdkamnclbfehaaGreatDoor
