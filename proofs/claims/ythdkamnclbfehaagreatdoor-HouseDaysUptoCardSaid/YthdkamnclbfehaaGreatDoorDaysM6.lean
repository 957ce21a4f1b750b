/- A part of the proof. -/
import Derived.Test.YthdkamnclbfehaaGreatDoorDaysM2
import Derived.Test.YthdkamnclbfehaaGreatDoorProg
import Derived.BigQuiet
set_option linter.all false
set_option maxHeartbeats 20000000
set_option maxRecDepth 100000
namespace Go.Proofs.YthdkamnclbfehaaGreatDoor
open Go.RowKit Tryz
def icells (l:List Int):List Value:=l.map (Value.int .i64)
theorem icells_length (l:List Int):(icells l).length=l.length:=by simp [icells]
theorem x_l (l:List Int):∀ u∈icells l,u.oneCell'=true:=by
 intro u hu;obtain ⟨_,_,rfl⟩:=List.mem_map.1 hu;rfl
theorem y_f (l:List Int) (j:Nat) (h:j < l.length):(icells l)[j]?=some (.int .i64 (l.getD j 0)):=by
 simp [icells,List.getD,h]
def findFrom (p:Int→Bool) (l:List Int) (k:Nat):Int:=
  match l with
  | []=>-1
  | x::r=>if p x then k else findFrom p r (k+1)
def findI (p:Int→Bool) (l:List Int):Int:=findFrom p l 0
theorem y_x (p:Int→Bool):∀ (l:List Int) (k:Nat),(findFrom p l k = -1∧∀ j,j < l.length→p (l.getD j 0)=false)∨
    ∃ j,j < l.length∧findFrom p l k=((k+j:Nat):Int)∧p (l.getD j 0)=true∧∀ i,i < j→p (l.getD i 0)=false
  | [],k=>.inl ⟨rfl,fun j h=>by simp at h⟩
  | x::r,k=>by
    unfold findFrom
    by_cases hx:p x=true
    · exact .inr ⟨0,by simp,by simp [hx],by simpa using hx,fun i hi=>by omega⟩
    · have hx':p x=false:=by simpa using hx
      rcases y_x p r (k+1) with ⟨h1,h2⟩ | ⟨j,h1,h2,h3,h4⟩
      · refine .inl ⟨by simp [hx',h1],fun j hj=>?_⟩
        cases j with
        | zero=>simpa using hx'
        | succ j=>simpa using h2 j (by simpa using hj)
      · refine .inr ⟨j+1,by simpa using h1,by simp [hx',h2];omega,by simpa using h3,fun i hi=>?_⟩
        cases i with
        | zero=>simpa using hx'
        | succ i=>simpa using h4 i (by omega)
theorem findI_at {p:Int→Bool} {l:List Int} {j:Nat} (hj:j < l.length) (h1:p (l.getD j 0)=true) (h0:∀ i,i < j→p (l.getD i 0)=false):findI p l=j:=by
 rcases y_x p l 0 with ⟨_,h⟩ | ⟨i,hi,h,h3,h4⟩
 ·rw [h j hj] at h1;cases h1
 ·unfold findI;rw [h]
  have:i=j:=by
   rcases Nat.lt_trichotomy i j with hl | he | hg
   ·rw [h0 i hl] at h3;cases h3
   ·exact he
   ·rw [h4 j hg] at h1;cases h1
  simp [this]
theorem findI_none {p:Int→Bool} {l:List Int} (h0:∀ i,i < l.length→p (l.getD i 0)=false):findI p l = -1:=by
 rcases y_x p l 0 with ⟨h,_⟩ | ⟨i,hi,h,h3,_⟩
 ·exact h
 ·rw [h0 i hi] at h3;cases h3
theorem findI_ge {p:Int→Bool} {l:List Int}:(0≤findI p l)=(l.any p=true):=by
 rcases y_x p l 0 with ⟨h,h0⟩ | ⟨i,hi,h,h3,_⟩
 ·unfold findI;rw [h];simp;intro x hx;obtain ⟨j,hj,rfl⟩:=List.getElem_of_mem hx;have:=h0 j hj;simpa [List.getD,hj] using this
 ·unfold findI;rw [h];simp only [Nat.zero_add,eq_iff_iff];constructor
  ·intro _;rw [List.any_eq_true];exact ⟨l.getD i 0,by simp [List.getD,hi],h3⟩
  ·intro _;omega
def PredOk (w:World) (F:Nat) (capt:Array Value) (l:List Int) (p:Int→Bool):Prop:=
  ∀ w1,Keep kF w w1→∀ x∈l,Calls prog F (#[.int .i64 x]++capt) w1 fun e w2=>e = .returned (.bool (p x))∧Keep kF w1 w2
def Enters (F:Nat):Prop:=∀ (args:Array Value) (w:World),(callFunc F args).run prog w = .ok (.enter F args) w
def IdxPost (w:World) (r:Value) (e:Ending) (w':World):Prop:=e = .returned r∧Keep kF w w'
theorem indexFunc_any {w:World} {v:Value} {l:List Int} {F:Nat} {capt:Array Value} {p:Int→Bool} (hv:Rd w 1 v l.length (icells l)) (hF:Enters F) (hp:PredOk w F capt l p) (hl:l.length < 9223372036854775807):Calls prog 126 #[v,.func (.func F) #[] capt] w (IdxPost w (.int .i64 (findI p l))):=by
 obtain ⟨ao,aa,Z,hn,hm,Y⟩:=hv.shape;subst Z;have HV:=hD hv;clear hv;have HP:=hD hp;clear hp;clear Y;have eF:∀ (args:Array Value) (w:World),(callFunc F args).run prog w = .ok (.enter F args) w:=hF;clear hF;go_enter func126,ntmps126;go_wp2
 go_loopw [8] (fun i wr=>∃ k:Nat,k≤l.length∧i = .int .i64 k∧Keep (fun _=>False) w wr∧∀ j,j < k→p (l.getD j 0)=false) (fun i _=>l.length - (intOf i).toNat)
 case atStart=>exact ⟨0,Nat.zero_le _,rfl,Keep.refl _ _,fun j h=>by omega⟩
 case round=>
  obtain ⟨k,hk,rfl,A,h0⟩:=hrel;have HK:=hD A;clear A;have H0:=hD h0;clear h0;by_cases G:k < l.length
  ·have J:=HV.out.keep HK.out n3
   obtain ⟨b,o,W,O⟩:∃ b o,ao=some ⟨b,o,none⟩∧wr.cell? ⟨b,o+k,none⟩=some (.int .i64 (l.getD k 0)):=by
    rcases J.2.2 with ⟨h,h'⟩ | ⟨b,o,c,h,_,_,hx⟩
    ·omega
    ·cases h;exact ⟨b,o,rfl,hx k _ (y_f l k G)⟩
   subst W;have HR:=hD J;clear J;have C:l[k]∈l:=(by simp);have HC:=hD (HP.out wr HK.out _ C);clear C;have HG:=hD (show l.getD k 0=l[k] by simp [List.getD,G]);cases U:p (l.getD k 0)
   all_goals
    have HX:=hD U;clear U;go_wp2
    refine HC.out.mono ?_;rintro e w2 ⟨he,R⟩;rw [← HG.out,HX.out] at he;subst he;have M:=hD (HK.out.trans R n3);clear R;go_wp2
   ·go_roundw
    case rel=>
     refine ⟨k+1,by omega,by go_num,M.out,fun j hj=>?_⟩;by_cases X:j=k
     ·subst X;exact HX.out
     ·exact H0.out j (by omega)
    case measure=>simp [intOf];omega
   ·go_ret;exact ⟨by rw [findI_at G HX.out H0.out];rfl,M.out⟩
  ·go_wp2
   go_ret;exact ⟨by rw [findI_none (fun i hi=>H0.out i (by omega))];rfl,HK.out⟩
theorem u_k {w:World} {v:Value} {l:List Int} {F:Nat} {capt:Array Value} {p:Int→Bool} (hv:Rd w 1 v l.length (icells l)) (hF:Enters F) (hp:PredOk w F capt l p) (hl:l.length < 9223372036854775807):Calls prog 85 #[v,.func (.func F) #[] capt] w (IdxPost w (.bool (l.any p))):=by
 have h:=hD (indexFunc_any hv hF hp hl)
 have hb:decide (0≤findI p l)=l.any p:=by
  have:=findI_ge (p:=p) (l:=l);cases A:l.any p
  ·rw [A] at this;simp at this;simp;omega
  ·rw [A] at this;simpa using this
 have HB:=hD hb;clear hv hF hp hb;go_enter func85,ntmps85;go_wp2_with (go_at_call 126;refine h.out.mono ?_;rintro e w1 ⟨rfl,hk⟩;have HK:=hD hk;clear hk)
 go_ret;exact ⟨by rw [← HB.out];rfl,HK.out⟩
structure Dsk where
  off:Bool
  left:Int
  size:Nat
  safe:Nat
  bytes:List UInt8
structure Dsk.ok (D:Dsk):Prop where
  left0 : -1≤D.left
  left1:D.left≤9223372036854775807
  size0:1≤D.size
  size1:D.size≤1000000
  safe:D.safe≤D.bytes.length
  fits:D.bytes.length≤D.size
def bcells (l:List UInt8):List Value:=l.map fun b=>.int .u8 b.toNat
theorem y_i (l:List UInt8):(bcells l).length=l.length:=by simp [bcells]
theorem y_w (l:List UInt8):∀ u∈bcells l,u.oneCell'=true:=by
 intro u hu;obtain ⟨_,_,rfl⟩:=List.mem_map.1 hu;rfl
theorem bcells_append (a b:List UInt8):bcells (a++b)=bcells a++bcells b:=by simp [bcells]
theorem bcells_take (a:List UInt8) (k:Nat):bcells (a.take k)=(bcells a).take k:=by simp [bcells,List.map_take]
def onF (D:Dsk):Bool × Dsk:=
  if D.left=0 then (false,{D with off:=true})
  else if D.off then (false,D) else (true,{D with left:=if D.left < 0 then -1 else D.left - 1})
def appendF (D:Dsk) (l:List UInt8):Int × Dsk:=
  if D.size < D.bytes.length+l.length then (9,D)
  else if (onF D).1 then (0,{ (onF D).2 with bytes:=D.bytes++l}) else (10,(onF D).2)
def syncF (D:Dsk):Int × Dsk:=
  if (onF D).1 then (0,{ (onF D).2 with safe:=D.bytes.length}) else (10,(onF D).2)
def cutF (D:Dsk) (n:Int):Int × Dsk:=
  if n < 0∨(D.bytes.length:Int) < n then (2,D)
  else if (onF D).1 then (0,{ (onF D).2 with bytes:=D.bytes.take n.toNat,safe:=n.toNat}) else (10,(onF D).2)
structure DiskAt (base:Nat) (w:World) (bd:Nat) (D:Dsk) (v:Value):Prop where
  blk:Blk w bd #[.bool D.off,.int .i64 D.left,.int .i64 D.size,.int .i64 D.safe,v] 103
  own:w.ownsRow base 5 1 v D.bytes.length (bcells D.bytes)
  ge:base≤bd
  ne:v.ownBlock≠some bd
  ok:D.ok
theorem z_r (D:Dsk):(onF D).2.bytes=D.bytes∧(onF D).2.size=D.size∧(onF D).2.safe=D.safe:=by
 unfold onF;split <;> (try split) <;> exact ⟨rfl,rfl,rfl⟩
theorem onF_ok {D:Dsk} (h:D.ok):(onF D).2.ok:=by
 obtain ⟨a,b,c,d,e,f⟩:=h;unfold onF;split
 ·exact ⟨a,b,c,d,e,f⟩
 ·split
  ·exact ⟨a,b,c,d,e,f⟩
  ·exact ⟨by simp;split <;> omega,by simp;split <;> omega,c,d,e,f⟩
def OnPost (base:Nat) (w:World) (bd:Nat) (D:Dsk) (v:Value) (e:Ending) (w':World):Prop:=
  e = .returned (.bool (onF D).1)∧DiskAt base w' bd (onF D).2 v∧Keep (fun k=>k=bd) w w'
theorem on_any {base bd:Nat} {D:Dsk} {v:Value} {w:World} (h:DiskAt base w bd D v):Calls prog 64 #[.pointer (some ⟨bd,0,none⟩)] w (OnPost base w bd D v):=by
 obtain ⟨off,left,size,safe,bytes⟩:=D;have A:=onF_ok h.ok;obtain ⟨hb,ho,C,J,G⟩:=h;have h0:=hb.cell 0;have h1:=hb.cell 1;have f0:=hb.free 0;have f1:=hb.free 1;have l0:=G.left0;have l1:=G.left1;simp at h0 h1 l0 l1;have HB:=hD hb;clear hb;have HO:=hD ho;clear ho;have HN:=hD J;clear J;have HK:=hD A;clear A;clear G;by_cases hl:left=0
 ·subst hl;go_enter func64,ntmps64;go_wp2
  go_ret;exact ⟨rfl,⟨by simpa [onF] using HB.out.set 0 (.bool true),x_e HO.out _ _ HN.out,C,HN.out,HK.out⟩,(Keep.refl _ _).setCell _ _ (fun _=>rfl)⟩
 have M:(left == 0)=false:=(by simpa using hl);cases off
 ·by_cases hm:left < 0
  ·obtain rfl:left = -1:=(by omega);clear hl hm M;go_enter func64,ntmps64;go_wp2
   go_ret;exact ⟨rfl,⟨by simpa [onF] using HB.out.set 1 (.int .i64 (-1)),x_e HO.out _ _ HN.out,C,HN.out,HK.out⟩,(Keep.refl _ _).setCell _ _ (fun _=>rfl)⟩
  ·have hF:onF ⟨false,left,size,safe,bytes⟩=(true,⟨false,left - 1,size,safe,bytes⟩):=(by simp [onF,hl,hm]);have HF:=hD hF;clear hF;have O:1≤left:=(by omega);clear hl hm;go_enter func64,ntmps64;go_wp2
   go_ret;refine ⟨by rw [HF.out];rfl,⟨?_,?_,C,HN.out,HK.out⟩,(Keep.refl _ _).setCell _ _ (fun _=>rfl)⟩
   ·rw [HF.out];simpa using HB.out.set 1 (.int .i64 (left - 1))
   ·rw [HF.out];exact x_e HO.out _ _ HN.out
 ·have hF:onF ⟨true,left,size,safe,bytes⟩=(false,⟨true,left,size,safe,bytes⟩):=(by simp [onF,hl]);have HF:=hD hF;clear hF;clear hl;go_enter func64,ntmps64;go_wp2
  go_ret;refine ⟨by rw [HF.out];rfl,⟨?_,?_,C,HN.out,HK.out⟩,Keep.refl _ _⟩
  ·rw [HF.out];exact HB.out
  ·rw [HF.out];exact HO.out
theorem DiskAt.drewN {base bd:Nat} {D:Dsk} {v:Value} {w:World} (h:DiskAt base w bd D v) (n:Nat):DiskAt base (w.drewN n) bd D v:=
  ⟨h.blk,h.own,h.ge,h.ne,h.ok⟩
theorem DiskAt.keep {base bd:Nat} {D:Dsk} {v:Value} {w w':World} {S:Nat→Prop} (h:DiskAt base w bd D v) (k:Keep S w w') (h1:¬ S bd) (h2:∀ g,v.ownBlock=some g→¬ S g):DiskAt base w' bd D v:=
  ⟨h.blk.keep k h1,x_b h.own k h2,h.ge,h.ne,h.ok⟩
theorem z_f {base bd:Nat} {D:Dsk} {v:Value} {w:World} (h:DiskAt base w bd D v):Calls prog 51 #[.pointer (some ⟨bd,0,none⟩)] w fun e w'=>e = .returned (.bool false)∧w=w':=by
 obtain ⟨hb,ho,G,C,A⟩:=h;have h2:=hb.cell 2;have l0:=A.size0;simp at h2;have hs:((D.size:Int) == 0)=false:=(by simp;omega);clear hb ho C A;go_enter func51,ntmps51;go_wp2
 go_ret;exact ⟨rfl,rfl⟩
theorem info5:(prog.info? 5).map (fun i=>(i.zero,i.size,i.bytes))=some (some (.int .u8 0),1,1):=by kernel_rfl
def AppendPost (base:Nat) (w:World) (bd:Nat) (D:Dsk) (v:Value) (l:List UInt8) (e:Ending) (w':World):Prop:=
  e = .returned (.int .i64 (appendF D l).1)∧(∃ v',DiskAt base w' bd (appendF D l).2 v'∧(v'.ownBlock=v.ownBlock∨∃ g,v'.ownBlock=some g∧w.heap.size≤g))∧
    Keep (fun k=>k=bd∨v.ownBlock=some k) w w'
theorem append_any {base bd:Nat} {D:Dsk} {v x:Value} {w:World} {l:List UInt8} (h:DiskAt base w bd D v) (hx:Rd w 1 x l.length (bcells l)) (hxd:x.ownBlock≠some bd) (hbase:base≤w.heap.size):Calls prog 31 #[.pointer (some ⟨bd,0,none⟩),x] w (AppendPost base w bd D v l):=by
 have hd:=h;have l4:=h.ok.size1;have l5:=h.ok.fits;have hb:=h.blk;have h2:=hb.cell 2;have h4:=hb.cell 4;simp at h2 h4;obtain ⟨xo,xc,ai,an,aj,_⟩:=hx.shape;subst ai;obtain ⟨vo,vc,ah,_⟩:=x_a h.own;subst ah;unfold maxLen at aj;have HD:=hD hd;clear hd;have HX:=hD hx;clear hx;have ae:=hD hxd;clear hxd;have HH:=hD h;clear h hb;by_cases A:D.size < D.bytes.length+l.length
 ·have hF:appendF D l=(9,D):=(by simp [appendF,A]);have HF:=hD hF;clear hF;go_enter func31,ntmps31;go_wp2_with (go_at_call 51;refine (z_f HD.out).mono ?_;rintro e w' ⟨rfl,rfl⟩)
  go_quiet (fail)
  go_wp2
  go_ret;exact ⟨by rw [HF.out];rfl,⟨_,by rw [HF.out];exact HD.out.drewN _,.inl rfl⟩,(Keep.refl _ _).drewN _⟩
 ·have ad:(D.bytes.length:Int)+l.length≤D.size:=(by omega);by_cases W:(onF D).1=true
  ·have hF:appendF D l=(0,{ (onF D).2 with bytes:=D.bytes++l}):=(by simp [appendF,A,W]);have HF:=hD hF;clear hF;have Y:=hD W;clear W A;go_enter func31,ntmps31;go_wp2_with (go_at_call 51;refine (z_f HD.out).mono ?_;rintro e w' ⟨rfl,rfl⟩)
   go_quiet (fail)
   go_wp2_with (first | (go_at_call 64;refine (on_any (HD.out.drewN _)).mono ?_;rintro e w1 ⟨he,O,R⟩;rw [Y.out] at he;subst he;have c4:=O.blk.cell 4;simp at c4;have C:=hD O;clear O;have am:w.heap.size≤w1.heap.size:=R.size;have X:=hD R;clear R;have Z:=hD (show w1.ownsRow base 5 1 (.slice vo D.bytes.length vc) D.bytes.length (bcells D.bytes) by have:=C.out.own;rwa [(z_r D).1] at this);have aa:=hD ((HX.out.keep (S:=fun k=>k=bd) (((Keep.refl _ w).drewN nq).trans X.out n3) (fun b hb e=>ae.out (by rw [hb,e]))).src (P:=prog) underlying61)) | (at_builtin;refine x_h (w:=w1) rfl (.tmp 32) (.tmp 33) 61 61 rfl 5 (.int .u8 0) 1 1 underlying61 info5 rfl Z.out rfl aa.out rfl ?hb1 ?hb2 ?hb3 ?hgo))
   case hb1=>unfold maxLen;omega
   case hb2=>omega
   case hb3=>omega
   case hgo=>
   intro v' w2 G;obtain ⟨ao,ac,ag,_⟩:=x_a G.own;have J:¬ ((Value.slice vo D.bytes.length vc).ownBlock=some bd):=C.out.ne;have k2:=G.keep;have ak:=(k2.cell (p:=⟨bd,4,none⟩) C.out.blk.lt J).trans c4;have al:=(k2.frozen (p:=⟨bd,4,none⟩) C.out.blk.lt J).trans (C.out.blk.free 4);subst ag;have HA:=hD G;clear G k2 J;go_wp2
   go_ret
   have U:(Value.slice ao (D.bytes.length+l.length) ac).ownBlock≠some bd:=by
    rcases HA.out.fresh with h | ⟨g,h,hg⟩
    ·rw [h];exact C.out.ne
    ·rw [h];intro e;cases e;have:=C.out.blk.lt;omega
   refine ⟨by rw [HF.out];rfl,⟨_,⟨?_,?_,HD.out.ge,U,?_⟩,?_⟩,?_⟩
   ·rw [HF.out];have:=(C.out.blk.keep HA.out.keep C.out.ne).set 4 (.slice ao (D.bytes.length+l.length) ac);simpa using this
   ·rw [HF.out];have:=x_e HA.out.own ⟨bd,4,none⟩ (.slice ao (D.bytes.length+l.length) ac) U;simpa [bcells_append] using this
   ·rw [HF.out];obtain ⟨q1,q2,q3,q4,q5,q6⟩:=C.out.ok;obtain ⟨r1,r2,r3⟩:=z_r D;refine ⟨q1,q2,q3,q4,?_,?_⟩
    ·rw [r1] at q5;simp;omega
    ·simp;rw [r2];omega
   ·rcases HA.out.fresh with h | ⟨g,h,hg⟩
    ·exact .inl h
    ·exact .inr ⟨g,h,by omega⟩
   ·refine Keep.setCell ?_ _ _ (fun _=>.inl rfl);refine (((Keep.refl _ w).drewN nq).trans X.out (fun _ _ h=>.inl h)).trans HA.out.keep (fun _ _ h=>.inr h)
  ·have M:(onF D).1=false:=(by simpa using W);have hF:appendF D l=(10,(onF D).2):=(by simp [appendF,A,M]);have HF:=hD hF;clear hF;have Y:=hD M;clear W M A;go_enter func31,ntmps31;go_wp2_with (go_at_call 51;refine (z_f HD.out).mono ?_;rintro e w' ⟨rfl,rfl⟩)
   go_quiet (fail)
   go_wp2_with (go_at_call 64;refine (on_any (HD.out.drewN _)).mono ?_;rintro e w1 ⟨he,O,R⟩;rw [Y.out] at he;subst he;have C:=hD O;clear O;have X:=hD R;clear R)
   go_ret;exact ⟨by rw [HF.out];rfl,⟨_,by rw [HF.out];exact C.out,.inl rfl⟩,((Keep.refl _ w).drewN nq).trans X.out (fun _ _ h=>.inl h)⟩
theorem v_f (l:List UInt8) (j:Nat) (h:j < l.length):(bcells l)[j]?=some (.int .u8 (l.getD j 0).toNat):=by
 simp [bcells,List.getD,h]
def findFromB (p:UInt8→Bool) (l:List UInt8) (k:Nat):Int:=
  match l with
  | []=>-1
  | x::r=>if p x then k else findFromB p r (k+1)
def findIB (p:UInt8→Bool) (l:List UInt8):Int:=findFromB p l 0
theorem y_q (p:UInt8→Bool):∀ (l:List UInt8) (k:Nat),(findFromB p l k = -1∧∀ j,j < l.length→p (l.getD j 0)=false)∨
    ∃ j,j < l.length∧findFromB p l k=((k+j:Nat):Int)∧p (l.getD j 0)=true∧∀ i,i < j→p (l.getD i 0)=false
  | [],k=>.inl ⟨rfl,fun j h=>by simp at h⟩
  | x::r,k=>by
    unfold findFromB
    by_cases hx:p x=true
    · exact .inr ⟨0,by simp,by simp [hx],by simpa using hx,fun i hi=>by omega⟩
    · have hx':p x=false:=by simpa using hx
      rcases y_q p r (k+1) with ⟨h1,h2⟩ | ⟨j,h1,h2,h3,h4⟩
      · refine .inl ⟨by simp [hx',h1],fun j hj=>?_⟩
        cases j with
        | zero=>simpa using hx'
        | succ j=>simpa using h2 j (by simpa using hj)
      · refine .inr ⟨j+1,by simpa using h1,by simp [hx',h2];omega,by simpa using h3,fun i hi=>?_⟩
        cases i with
        | zero=>simpa using hx'
        | succ i=>simpa using h4 i (by omega)
theorem findI_atB {p:UInt8→Bool} {l:List UInt8} {j:Nat} (hj:j < l.length) (h1:p (l.getD j 0)=true) (h0:∀ i,i < j→p (l.getD i 0)=false):findIB p l=j:=by
 rcases y_q p l 0 with ⟨_,h⟩ | ⟨i,hi,h,h3,h4⟩
 ·rw [h j hj] at h1;cases h1
 ·unfold findIB;rw [h]
  have:i=j:=by
   rcases Nat.lt_trichotomy i j with hl | he | hg
   ·rw [h0 i hl] at h3;cases h3
   ·exact he
   ·rw [h4 j hg] at h1;cases h1
  simp [this]
theorem findI_noneB {p:UInt8→Bool} {l:List UInt8} (h0:∀ i,i < l.length→p (l.getD i 0)=false):findIB p l = -1:=by
 rcases y_q p l 0 with ⟨h,_⟩ | ⟨i,hi,h,h3,_⟩
 ·exact h
 ·rw [h0 i hi] at h3;cases h3
theorem findI_geB {p:UInt8→Bool} {l:List UInt8}:(0≤findIB p l)=(l.any p=true):=by
 rcases y_q p l 0 with ⟨h,h0⟩ | ⟨i,hi,h,h3,_⟩
 ·unfold findIB;rw [h];simp;intro x hx;obtain ⟨j,hj,rfl⟩:=List.getElem_of_mem hx;have:=h0 j hj;simpa [List.getD,hj] using this
 ·unfold findIB;rw [h];simp only [Nat.zero_add,eq_iff_iff];constructor
  ·intro _;rw [List.any_eq_true];exact ⟨l.getD i 0,by simp [List.getD,hi],h3⟩
  ·intro _;omega
def PredOkB (w:World) (F:Nat) (capt:Array Value) (l:List UInt8) (p:UInt8→Bool):Prop:=
  ∀ w1,Keep kF w w1→∀ x∈l,Calls prog F (#[.int .u8 x.toNat]++capt) w1 fun e w2=>e = .returned (.bool (p x))∧Keep kF w1 w2
theorem indexFunc_anyB {w:World} {v:Value} {l:List UInt8} {F:Nat} {capt:Array Value} {p:UInt8→Bool} (hv:Rd w 1 v l.length (bcells l)) (hF:Enters F) (hp:PredOkB w F capt l p) (hl:l.length < 9223372036854775807):Calls prog 166 #[v,.func (.func F) #[] capt] w (IdxPost w (.int .i64 (findIB p l))):=by
 obtain ⟨ao,aa,Z,hn,hm,Y⟩:=hv.shape;subst Z;have HV:=hD hv;clear hv;have HP:=hD hp;clear hp;clear Y;have eF:∀ (args:Array Value) (w:World),(callFunc F args).run prog w = .ok (.enter F args) w:=hF;clear hF;go_enter func166,ntmps166;go_wp2
 go_loopw [8] (fun i wr=>∃ k:Nat,k≤l.length∧i = .int .i64 k∧Keep (fun _=>False) w wr∧∀ j,j < k→p (l.getD j 0)=false) (fun i _=>l.length - (intOf i).toNat)
 case atStart=>exact ⟨0,Nat.zero_le _,rfl,Keep.refl _ _,fun j h=>by omega⟩
 case round=>
  obtain ⟨k,hk,rfl,A,h0⟩:=hrel;have HK:=hD A;clear A;have H0:=hD h0;clear h0;by_cases G:k < l.length
  ·have J:=HV.out.keep HK.out n3
   obtain ⟨b,o,W,O⟩:∃ b o,ao=some ⟨b,o,none⟩∧wr.cell? ⟨b,o+k,none⟩=some (.int .u8 (l.getD k 0).toNat):=by
    rcases J.2.2 with ⟨h,h'⟩ | ⟨b,o,c,h,_,_,hx⟩
    ·omega
    ·cases h;exact ⟨b,o,rfl,hx k _ (v_f l k G)⟩
   subst W;have HR:=hD J;clear J;have C:l[k]∈l:=(by simp);have HC:=hD (HP.out wr HK.out _ C);clear C;have HG:=hD (show l.getD k 0=l[k] by simp [List.getD,G]);cases U:p (l.getD k 0)
   all_goals
    have HX:=hD U;clear U;go_wp2
    refine HC.out.mono ?_;rintro e w2 ⟨he,R⟩;rw [← HG.out,HX.out] at he;subst he;have M:=hD (HK.out.trans R n3);clear R;go_wp2
   ·go_roundw
    case rel=>
     refine ⟨k+1,by omega,by go_num,M.out,fun j hj=>?_⟩;by_cases X:j=k
     ·subst X;exact HX.out
     ·exact H0.out j (by omega)
    case measure=>simp [intOf];omega
   ·go_ret;exact ⟨by rw [findI_atB G HX.out H0.out];rfl,M.out⟩
  ·go_wp2
   go_ret;exact ⟨by rw [findI_noneB (fun i hi=>H0.out i (by omega))];rfl,HK.out⟩
theorem z_v {w:World} {v:Value} {l:List UInt8} {F:Nat} {capt:Array Value} {p:UInt8→Bool} (hv:Rd w 1 v l.length (bcells l)) (hF:Enters F) (hp:PredOkB w F capt l p) (hl:l.length < 9223372036854775807):Calls prog 137 #[v,.func (.func F) #[] capt] w (IdxPost w (.bool (l.any p))):=by
 have h:=hD (indexFunc_anyB hv hF hp hl)
 have hb:decide (0≤findIB p l)=l.any p:=by
  have:=findI_geB (p:=p) (l:=l);cases A:l.any p
  ·rw [A] at this;simp at this;simp;omega
  ·rw [A] at this;simpa using this
 have HB:=hD hb;clear hv hF hp hb;go_enter func137,ntmps137;go_wp2_with (go_at_call 166;refine h.out.mono ?_;rintro e w1 ⟨rfl,hk⟩;have HK:=hD hk;clear hk)
 go_ret;exact ⟨by rw [← HB.out];rfl,HK.out⟩
def idxs (n:Nat):List Int:=(List.range n).map Int.ofNat
theorem idxs_len (n:Nat):(idxs n).length=n:=by simp [idxs]
theorem v_c (n k:Nat) (h:k < n):(idxs n).getD k 0=(k:Int):=by simp [idxs,List.getD,h]
def PredT (w:World) (F:Nat) (capt:Array Value) (l:List Value) (q:Nat→Bool):Prop:=
  ∀ w1,Keep kF w w1→∀ k x,l[k]?=some x→Calls prog F (#[.agg #[x]]++capt) w1 fun e w2=>e = .returned (.bool (q k))∧Keep kF w1 w2
theorem idxT_any {w:World} {v:Value} {l:List Value} {F:Nat} {capt:Array Value} {q:Nat→Bool} (hv:Rd w 1 v l.length l) (hF:Enters F) (hp:PredT w F capt l q) (hl:l.length < 9223372036854775807):Calls prog 145 #[v,.func (.func F) #[] capt] w (IdxPost w (.int .i64 (findI (fun i=>q i.toNat) (idxs l.length)))):=by
 obtain ⟨ao,Z,Y,hn,hm,X⟩:=hv.shape;subst Y;have HV:=hD hv;clear hv;have HP:=hD hp;clear hp;clear X;have eF:∀ (args:Array Value) (w:World),(callFunc F args).run prog w = .ok (.enter F args) w:=hF;clear hF;go_enter func145,ntmps145;go_wp2
 go_loopw [8] (fun i wr=>∃ k:Nat,k≤l.length∧i = .int .i64 k∧Keep (fun _=>False) w wr∧∀ j,j < k→q j=false) (fun i _=>l.length - (intOf i).toNat)
 case atStart=>exact ⟨0,Nat.zero_le _,rfl,Keep.refl _ _,fun j h=>by omega⟩
 case round=>
  obtain ⟨k,hk,rfl,A,h0⟩:=hrel;have HK:=hD A;clear A;have H0:=hD h0;clear h0;by_cases G:k < l.length
  ·have J:=HV.out.keep HK.out n3
   obtain ⟨b,o,U,C⟩:∃ b o,ao=some ⟨b,o,none⟩∧wr.cell? ⟨b,o+k,none⟩=some l[k]:=by
    rcases J.2.2 with ⟨h,h'⟩ | ⟨b,o,c,h,_,_,hx⟩
    ·omega
    ·cases h;exact ⟨b,o,rfl,hx k _ (List.getElem?_eq_getElem G)⟩
   subst U;have HR:=hD J;clear J;have HC:=hD (HP.out wr HK.out k l[k] (List.getElem?_eq_getElem G));generalize l[k]=lk at HC C;cases R:q k
   all_goals
    have HX:=hD R;clear R;go_wp2
    refine HC.out.mono ?_;rintro e w2 ⟨he,O⟩;rw [HX.out] at he;subst he;have M:=hD (HK.out.trans O n3);clear O;go_wp2
   ·go_roundw
    case rel=>
     refine ⟨k+1,by omega,by go_num,M.out,fun j hj=>?_⟩;by_cases W:j=k
     ·subst W;exact HX.out
     ·exact H0.out j (by omega)
    case measure=>simp [intOf];omega
   ·go_ret;refine ⟨by rw [findI_at (j:=k) (by rw [idxs_len];exact G) (by rw [v_c _ _ G];exact HX.out) (fun i hi=>by rw [v_c _ _ (by omega)];exact H0.out i hi)];rfl,M.out⟩
  ·go_wp2
   go_ret;exact ⟨by rw [findI_none (fun i hi=>by rw [idxs_len] at hi;rw [v_c _ _ hi];exact H0.out i (by omega))];rfl,HK.out⟩
theorem contT_any {w:World} {v:Value} {l:List Value} {F:Nat} {capt:Array Value} {q:Nat→Bool} (hv:Rd w 1 v l.length l) (hF:Enters F) (hp:PredT w F capt l q) (hl:l.length < 9223372036854775807):Calls prog 105 #[v,.func (.func F) #[] capt] w (IdxPost w (.bool ((idxs l.length).any fun i=>q i.toNat))):=by
 have h:=hD (idxT_any hv hF hp hl)
 have hb:decide (0≤findI (fun i=>q i.toNat) (idxs l.length))=(idxs l.length).any fun i=>q i.toNat:=by
  have:=findI_ge (p:=fun i=>q i.toNat) (l:=idxs l.length);cases A:(idxs l.length).any fun i=>q i.toNat
  ·rw [A] at this;simp at this;simp;omega
  ·rw [A] at this;simpa using this
 have HB:=hD hb;clear hv hF hp hb;go_enter func105,ntmps105;go_wp2_with (go_at_call 145;refine h.out.mono ?_;rintro e w1 ⟨rfl,hk⟩;have HK:=hD hk;clear hk)
 go_ret;exact ⟨by rw [← HB.out];rfl,HK.out⟩
theorem large_any {w:World} (ao:Option Addr) (n cap:Nat):Calls prog 106 #[.agg #[.slice ao n cap]] w (fun e w'=>e = .returned (.bool (decide (6 < n)))∧Keep kF w w'):=by
 have e6:Hid (decide ((6:Int) < (n:Int))=decide (6 < n)):=hD (by rw [decide_eq_decide];omega);go_enter func106,ntmps106;go_wp2_with fail
 go_ret;exact ⟨by rw [← e6.out];rfl,(Keep.refl _ _).alloc _⟩
end Go.Proofs.YthdkamnclbfehaaGreatDoor
