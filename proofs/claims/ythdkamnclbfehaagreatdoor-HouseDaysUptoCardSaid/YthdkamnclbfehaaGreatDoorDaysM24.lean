/- A part of the proof. -/
import Derived.Test.YthdkamnclbfehaaGreatDoorDaysM14
import Derived.Test.YthdkamnclbfehaaGreatDoorDaysM22
import Derived.Test.YthdkamnclbfehaaGreatDoorDaysM23
set_option linter.all false
set_option maxHeartbeats 20000000
set_option maxRecDepth 100000
namespace Go.Proofs.YthdkamnclbfehaaGreatDoor
open Go.RowKit
structure HV where
  h:Nat
  d:Nat
  v:Value
  V:StV
  vl:Value
structure HouseAt (base:Nat) (w:World) (H:HV) (D:Dsk) (S:St) (ls:List ByteArray) (lost:Bool):Prop where
  blk:Blk w H.h #[.pointer (some ⟨H.d,0,none⟩),.pointer (some ⟨H.V.b,0,none⟩),H.vl,.bool lost] 106
  disk:DiskAt base w H.d D H.v
  st:StAt w H.V S
  own:w.ownsRow base 9 1 H.vl ls.length (strCells ls)
  ge:base≤H.h
  sep:∀ k,H.V.fp k→k≠H.h∧k≠H.d∧H.v.ownBlock≠some k∧H.vl.ownBlock≠some k
def HV.tp (H:HV) (k:Nat):Prop:=k=H.h∨k=H.d∨H.v.ownBlock=some k∨H.vl.ownBlock=some k
theorem HouseAt.keep {T:Nat→Prop} {base:Nat} {w w':World} {H:HV} {D:Dsk} {S:St} {ls:List ByteArray} {lost:Bool} (h:HouseAt base w H D S ls lost) (k:Keep T w w') (h1:∀ i,H.tp i→¬ T i) (h2:∀ i,H.V.fp i→¬ T i):HouseAt base w' H D S ls lost:=
  ⟨h.blk.keep k (h1 _ (.inl rfl)),h.disk.keep k (h1 _ (.inr (.inl rfl))) (fun g e=>h1 g (.inr (.inr (.inl e)))),h.st.keep k h2,x_b h.own k (fun g e=>h1 g (.inr (.inr (.inr e)))),h.ge,h.sep⟩
theorem Blk.types {w:World} {b b':Nat} {c c':Array Value} {t t':TypeId} (h:Blk w b c t) (h':Blk w b' c' t') (ht:t≠t'):b≠b':=fun e=>by
  subst e
  unfold Blk at h h'
  rw [h] at h'
  cases h'
  exact ht rfl
structure Sys (F:Nat→St→FA→Res) (I:Nat→St→Prop) (n K:Nat):Prop where
  run:∀ k S line,k≤K→I k S→line.size≤n→RunOK F S line
  small:∀ k S,k≤K→I k S→S.small
  next:∀ k S line,k≤K→I k S→line.size≤n→(doF F S line).err=0→I (k+1) (doF F S line).st
def openLoop (F:Nat→St→FA→Res):Nat→List UInt8→St→List ByteArray→Nat→St × List ByteArray × Nat
  | 0,_,S,ls,at_=>(S,ls,at_)
  | k+1,rest,S,ls,at_=>
    match cutNL rest with
    | none=>(S,ls,at_)
    | some (a,b)=>if (doF F S (bs a)).err=0 then openLoop F k b (doF F S (bs a)).st (ls++[bs a]) (at_+(a.length+1)) else (S,ls,at_)
theorem cutNL_true {l:List UInt8} (h:(cutNL l).isSome=true):cutNL l=some (cutPre l,l.drop ((cutPre l).length+1))∧(cutPre l).length+1≤l.length:=by
 cases hc:cutNL l with
 | none=>rw [hc] at h;cases h
 | some x=>
  obtain ⟨a,b⟩:=x;have h1:=cutNL_some hc;have h2:cutPre l=a:=(by unfold cutPre;rw [hc]);rw [h2];exact ⟨by rw [h1.2.2],h1.1⟩
theorem openLoop_step {F:Nat→St→FA→Res} {fuel:Nat} {rest:List UInt8} {S rs:St} {ls:List ByteArray} {at_:Nat} {ro:ByteArray} (hf:rest.length < fuel) (h:(cutNL rest).isSome=true) (hR:doF F S (bs (cutPre rest))=⟨0,rs,ro⟩):openLoop F fuel rest S ls at_=openLoop F (fuel - 1) (rest.drop ((cutPre rest).length+1)) rs (ls++[bs (cutPre rest)]) (at_+((cutPre rest).length+1)):=by
 obtain ⟨k,rfl⟩:∃ k,fuel=k+1:=⟨fuel - 1,by omega⟩;show (match cutNL rest with | none=>_ | some (a,b)=>_)=_;rw [(cutNL_true h).1];simp only [hR,if_true,Nat.add_sub_cancel]
theorem u_c {F:Nat→St→FA→Res} {fuel:Nat} {rest:List UInt8} {S:St} {ls:List ByteArray} {at_:Nat} (hf:rest.length < fuel) (h:(cutNL rest).isSome=false):openLoop F fuel rest S ls at_=(S,ls,at_):=by
 obtain ⟨k,rfl⟩:∃ k,fuel=k+1:=⟨fuel - 1,by omega⟩;cases hc:cutNL rest with
 | none=>show (match cutNL rest with | none=>_ | some (a,b)=>_)=_;rw [hc]
 | some x=>rw [hc] at h;cases h
structure OpenR where
  err:Int
  D:Dsk
  st:St
  ls:List ByteArray
def S0 (g:List Int):St:=⟨g,[],[],[],[]⟩
def openEnd (D:Dsk) (r:St × List ByteArray × Nat):OpenR:=
  if r.2.2 < D.bytes.length then
    if (cutF D r.2.2).1=0 then ⟨(syncF (cutF D r.2.2).2).1,(syncF (cutF D r.2.2).2).2,r.1,r.2.1⟩ else ⟨(cutF D r.2.2).1,(cutF D r.2.2).2,r.1,r.2.1⟩
  else ⟨(syncF D).1,(syncF D).2,r.1,r.2.1⟩
def openF (F:Nat→St→FA→Res) (D:Dsk) (g:List Int):OpenR:=
  if baysB g then
    if D.off then ⟨10,D,S0 g,[]⟩ else openEnd D (openLoop F (D.bytes.length+1) D.bytes (S0 g) [] 0)
  else ⟨2,D,S0 g,[]⟩
def OpenPost (base:Nat) (w:World) (bd:Nat) (v:Value) (r:OpenR) (e:Ending) (w':World):Prop:=
  ∃ v',DiskAt base w' bd r.D v'∧(v'.ownBlock=v.ownBlock∨∃ g,v'.ownBlock=some g∧w.heap.size≤g)∧Keep (fun k=>k=bd∨v.ownBlock=some k) w w'∧
    (r.err≠0→e = .returned (.tuple #[.pointer none,.int .i64 r.err]))∧
    (r.err=0→∃ H,e = .returned (.tuple #[.pointer (some ⟨H.h,0,none⟩),.int .i64 0])∧H.d=bd∧H.v=v'∧HouseAt base w' H r.D r.st r.ls false∧(∀ k,H.V.fp k→w.heap.size≤k)∧w.heap.size≤H.h∧∀ k,H.vl.ownBlock=some k→w.heap.size≤k)
theorem Rd.drop1 {w:World} {ao:Option Addr} {n c:Nat} {l:List UInt8} (h:Rd w 1 (.slice ao n c) l.length (bcells l)) (i:Nat) (hi:i≤l.length):Rd w 1 (.slice (if c=i then ao else ao.map (fun x=>x.add i)) (l.drop i).length (c - i)) (l.drop i).length (bcells (l.drop i)):=by
 have A:(l.drop i).length=l.length - i:=List.length_drop;refine ⟨by simp [y_i],y_w _,?_⟩;rcases h.2.2 with ⟨e,h0⟩ | ⟨b,o,c',e,h1,h2,hx⟩
 ·injection e with e1 e2 e3;subst e1 e3;have:i=0:=(by omega);subst this;exact .inl ⟨by rw [if_pos rfl,A,h0],by rw [A,h0]⟩
 ·injection e with e1 e2 e3;subst e1 e3;by_cases C:c=i
  ·rw [if_pos C];have h0:(l.drop i).length=0:=(by omega);refine .inr ⟨b,o,c - i,rfl,by omega,by omega,fun j u hu=>?_⟩;have:(bcells (l.drop i))[j]?=none:=List.getElem?_eq_none (by rw [y_i];omega);rw [this] at hu;cases hu
  ·rw [if_neg C];refine .inr ⟨b,o+i,c - i,?_,by omega,by omega,fun j u hu=>?_⟩
   ·simp [z_c]
   ·have:(bcells (l.drop i))[j]?=(bcells l)[i+j]?:=(by simp [bcells,List.map_drop]);rw [this] at hu;rw [Nat.add_assoc];exact hx _ u hu
theorem open_fin {base bd hb:Nat} {w W W':World} {D D2:Dsk} {v v' vl:Value} {V:StV} {S:St} {ls:List ByteArray} (hd:DiskAt base w bd D v) (hbase:base≤w.heap.size) (hblk:Blk W hb #[.pointer (some ⟨bd,0,none⟩),.pointer (some ⟨V.b,0,none⟩),vl,.bool false] 106) (hst:StAt W V S) (hsep:∀ k,V.fp k→w.heap.size≤k∧k≠hb∧vl.ownBlock≠some k) (hown:W.ownsRow w.heap.size 9 1 vl ls.length (strCells ls)) (hbw:w.heap.size≤hb) (hkw:Keep kF w W) (hk:Keep (fun k=>k=bd∨v.ownBlock=some k) W W') (hd2:DiskAt base W' bd D2 v') (hf:v'.ownBlock=v.ownBlock∨∃ g,v'.ownBlock=some g∧W.heap.size≤g):OpenPost base w bd v ⟨0,D2,S,ls⟩ (.returned (.tuple #[.pointer (some ⟨hb,0,none⟩),.int .i64 0])) W':=by
 have G:=hd.blk.lt;have A:∀ k,v.ownBlock=some k→k < w.heap.size:=fun k e=>(x_d hd.own k e).2;have J:=hkw.size;refine ⟨v',hd2,hf.imp id (fun ⟨g,h1,h2⟩=>⟨g,h1,by omega⟩),(hkw.mono (fun _ _ h=>h.elim)).trans hk n3,fun h=>absurd rfl h,fun _=>⟨⟨hb,bd,v',V,vl⟩,rfl,rfl,rfl,⟨?_,hd2,?_,?_,by show base≤hb;omega,?_⟩,fun k h=>(hsep k h).1,hbw,fun k h=>(x_d hown k h).1⟩⟩
 ·exact hblk.keep hk (fun e=>e.elim (fun e=>by omega) (fun e=>by have:=A _ e;omega))
 ·exact hst.keep hk (fun i hi e=>e.elim (fun e=>by have:=(hsep i hi).1;omega) (fun e=>by have:=A _ e;have:=(hsep i hi).1;omega))
 ·exact x_i (x_b hown hk (fun g hg e=>by have h5:=(x_d hown g hg).1;exact e.elim (fun e=>by omega) (fun e=>by have:=A _ e;omega))) hbase
 ·intro k C;have h1:=hsep k C;refine ⟨h1.2.1,fun e=>by have e':k=bd:=e;omega,fun e=>?_,h1.2.2⟩;have e':v'.ownBlock=some k:=e;rcases hf with h2 | ⟨g,h2,h3⟩
  ·have:=A k (h2 ▸ e');omega
  ·have h4:g=k:=Option.some.inj (h2.symm.trans e');have:=hst.lt k C;omega
end Go.Proofs.YthdkamnclbfehaaGreatDoor
namespace Go.Proofs.YthdkamnclbfehaaGreatDoor
open Go.RowKit Tryz
theorem u_m (l:List ByteArray):(strCells l).length=l.length:=by simp [strCells]
theorem y_c (l:List ByteArray) (j:Nat) (h:j < l.length):(strCells l)[j]?=some (.string (l.getD j ByteArray.empty)):=by
 simp [strCells,List.getD,h]
def eqL (l m:List ByteArray):Bool:=decide (l=m)
theorem eqL_of {l m:List ByteArray} (hl:l.length=m.length) (h:∀ i,i < l.length→l.getD i ByteArray.empty=m.getD i ByteArray.empty):eqL l m=true:=by
 unfold eqL;refine decide_eq_true (List.ext_getElem hl fun i h1 h2=>?_);have:=h i h1;simpa [List.getD,h1,h2] using this
theorem eqL_ne {l m:List ByteArray} {i:Nat} (h:l.getD i ByteArray.empty≠m.getD i ByteArray.empty):eqL l m=false:=decide_eq_false fun e=>h (by rw [e])
theorem eqS_any {w:World} {u v:Value} {l m:List ByteArray} (hu:Rd w 1 u l.length (strCells l)) (hv:Rd w 1 v m.length (strCells m)) (hl:l.length < 9223372036854775807):Calls prog 21 #[u,v] w (DrawPost w (.bool (eqL l m))):=by
 obtain ⟨ao,Z,X,_⟩:=hu.shape;obtain ⟨bo,O,Y,_⟩:=hv.shape;subst X Y;have HU:=hD hu;clear hu;have HV:=hD hv;clear hv;by_cases A:l.length=m.length
 ·obtain ⟨n,hn⟩:∃ n,n=l.length:=⟨_,rfl⟩;have hm:m.length=n:=(by omega);rw [← hn] at hl;have HN:=hD hn;have HM:=hD hm;rw [← hn,hm];clear A hn hm;go_enter func21,ntmps21;go_wp2
  go_loopw [13] (fun i wr=>∃ k q:Nat,k≤n∧i = .int .i64 k∧wr=w.drewN q∧∀ i,i < k→l.getD i ByteArray.empty=m.getD i ByteArray.empty) (fun i _=>n - (intOf i).toNat)
  case atStart=>exact ⟨0,0,Nat.zero_le _,rfl,rfl,fun i h=>by omega⟩
  case round=>
   obtain ⟨k,q,hk,rfl,rfl,h0⟩:=hrel;have H0:=hD h0;clear h0;by_cases ac:k < n
   ·obtain ⟨b,o,R,ha⟩:∃ b o,ao=some ⟨b,o,none⟩∧w.cell? ⟨b,o+k,none⟩=some (.string (l.getD k ByteArray.empty)):=by
     rcases HU.out.2.2 with ⟨h,h'⟩ | ⟨b,o,c,h,_,_,hx⟩
     ·have:=HN.out;omega
     ·cases h;exact ⟨b,o,rfl,hx k _ (y_c l k (by have:=HN.out;omega))⟩
    obtain ⟨b2,o2,U,hb⟩:∃ b o,bo=some ⟨b,o,none⟩∧w.cell? ⟨b,o+k,none⟩=some (.string (m.getD k ByteArray.empty)):=by
     rcases HV.out.2.2 with ⟨h,h'⟩ | ⟨b,o,c,h,_,_,hx⟩
     ·have:=HM.out;omega
     ·cases h;exact ⟨b,o,rfl,hx k _ (y_c m k (by have:=HM.out;omega))⟩
    subst R U;obtain ⟨x,hx⟩:∃ x,l.getD k ByteArray.empty=x:=⟨_,rfl⟩;obtain ⟨y,hy⟩:∃ x,m.getD k ByteArray.empty=x:=⟨_,rfl⟩;rw [hx] at ha;rw [hy] at hb;have HX:=hD hx;have HY:=hD hy;clear hx hy;have G:((k:Int) < (n:Int))=True:=(by simp;omega);by_cases C:x=y
    ·have J:(x.toList == y.toList)=true:=(by rw [beq_dec];exact decide_eq_true C);have M:=hD C;clear C;go_wp2
     go_quiet (fail)
     go_wp2
     go_roundw
     case rel=>
      refine ⟨k+1,_,by omega,by go_num,rfl,fun i hi=>?_⟩;by_cases W:i=k
      ·subst W;rw [HX.out,HY.out];exact M.out
      ·exact H0.out i (by omega)
     case measure=>simp [intOf];omega
    ·have J:(x.toList == y.toList)=false:=(by rw [beq_dec];exact decide_eq_false C);have hF:=hD (eqL_ne (l:=l) (m:=m) (i:=k) (by rw [HX.out,HY.out];exact C));clear C;go_wp2
     go_quiet (fail)
     go_wp2
     go_ret;exact ⟨by rw [hF.out];rfl,q+nq,by simp [World.drewN,Nat.add_assoc]⟩
   ·have G:((k:Int) < (n:Int))=False:=(by simp;omega);have hF:=hD (eqL_of (l:=l) (m:=m) (by rw [← HN.out,HM.out]) fun i hi=>H0.out i (by have:=HN.out;omega));go_wp2
    go_ret;exact ⟨by rw [hF.out];rfl,q,rfl⟩
 ·have hF:=hD (show eqL l m=false from decide_eq_false fun e=>A (by rw [e]));have hd:((l.length:Int) == (m.length:Int))=false:=(by simp;omega);have aa:((l.length:Int)=(m.length:Int))=False:=(by simp;omega);clear A;go_enter func21,ntmps21;go_wp2
  go_ret;exact ⟨by rw [hF.out];rfl,0,rfl⟩
end Go.Proofs.YthdkamnclbfehaaGreatDoor
namespace Go.Proofs.YthdkamnclbfehaaGreatDoor
open Go.RowKit
structure HChg (w:World) (H H':HV) (w':World):Prop where
  h:H'.h=H.h
  d:H'.d=H.d
  tp:∀ k,H'.tp k→H.tp k∨w.heap.size≤k
  fp:∀ k,H'.V.fp k→H.V.fp k∨w.heap.size≤k
  keep:Keep H.tp w w'
theorem HChg.refl (w:World) (H:HV):HChg w H H w:=⟨rfl,rfl,fun _ h=>.inl h,fun _ h=>.inl h,Keep.refl _ _⟩
theorem HChg.trans {w w1 w2:World} {H H1 H2:HV} (a:HChg w H H1 w1) (b:HChg w1 H1 H2 w2):HChg w H H2 w2:=
  ⟨b.h.trans a.h,b.d.trans a.d,fun k hk=>(b.tp k hk).elim (a.tp k) (fun e=>.inr (Nat.le_trans a.keep.size e)),fun k hk=>(b.fp k hk).elim (a.fp k) (fun e=>.inr (Nat.le_trans a.keep.size e)),
   a.keep.trans b.keep (fun k hk e=>(a.tp k e).elim id (fun e'=>absurd hk (by omega)))⟩
theorem HChg.idle {w w':World} (H:HV) (k:Keep kF w w'):HChg w H H w':=⟨rfl,rfl,fun _ h=>.inl h,fun _ h=>.inl h,k.mono (fun _ _ h=>h.elim)⟩
theorem HouseAt.fp_lt {base:Nat} {w:World} {H:HV} {D:Dsk} {S:St} {ls:List ByteArray} {lost:Bool} (h:HouseAt base w H D S ls lost):∀ k,H.V.fp k→k < w.heap.size:=h.st.lt
theorem HouseAt.tp_lt {base:Nat} {w:World} {H:HV} {D:Dsk} {S:St} {ls:List ByteArray} {lost:Bool} (h:HouseAt base w H D S ls lost):∀ k,H.tp k→k < w.heap.size:=fun k hk=>by
  rcases hk with e | e | e | e
  · rw [e];exact h.blk.lt
  · rw [e];exact h.disk.blk.lt
  · exact (x_d h.disk.own k e).2
  · exact (x_d h.own k e).2
theorem HouseAt.hd {base:Nat} {w:World} {H:HV} {D:Dsk} {S:St} {ls:List ByteArray} {lost:Bool} (h:HouseAt base w H D S ls lost):H.h≠H.d:=h.blk.types h.disk.blk (by decide)
theorem HouseAt.vh {base:Nat} {w:World} {H:HV} {D:Dsk} {S:St} {ls:List ByteArray} {lost:Bool} (h:HouseAt base w H D S ls lost):H.v.ownBlock≠some H.h:=x_c h.disk.own h.blk (by decide)
theorem HouseAt.lh {base:Nat} {w:World} {H:HV} {D:Dsk} {S:St} {ls:List ByteArray} {lost:Bool} (h:HouseAt base w H D S ls lost):H.vl.ownBlock≠some H.h:=x_c h.own h.blk (by decide)
theorem HouseAt.ld {base:Nat} {w:World} {H:HV} {D:Dsk} {S:St} {ls:List ByteArray} {lost:Bool} (h:HouseAt base w H D S ls lost):H.vl.ownBlock≠some H.d:=x_c h.own h.disk.blk (by decide)
theorem HouseAt.lv {base:Nat} {w:World} {H:HV} {D:Dsk} {S:St} {ls:List ByteArray} {lost:Bool} (h:HouseAt base w H D S ls lost):∀ k,H.vl.ownBlock=some k→H.v.ownBlock≠some k:=x_f h.own h.disk.own (by decide)
theorem HouseAt.idle {base:Nat} {w w':World} {H:HV} {D:Dsk} {S:St} {ls:List ByteArray} {lost:Bool} (h:HouseAt base w H D S ls lost) (k:Keep kF w w'):HouseAt base w' H D S ls lost:=
  h.keep k n3 n3
theorem HouseAt.onDisk {base:Nat} {w w':World} {H:HV} {D D':Dsk} {S:St} {ls:List ByteArray} {lost:Bool} {v':Value} (h:HouseAt base w H D S ls lost) (k:Keep (fun k=>k=H.d∨H.v.ownBlock=some k) w w') (hd:DiskAt base w' H.d D' v') (hf:v'.ownBlock=H.v.ownBlock∨∃ g,v'.ownBlock=some g∧w.heap.size≤g):HouseAt base w' {H with v:=v' } D' S ls lost∧HChg w H {H with v:=v' } w':=by
 refine ⟨⟨h.blk.keep k (fun e=>e.elim h.hd h.vh),hd,h.st.keep k (fun i hi e=>e.elim (h.sep i hi).2.1 (h.sep i hi).2.2.1),x_b h.own k (fun g hg e=>e.elim (fun e=>h.ld (e ▸ hg)) (h.lv g hg)),h.ge,fun i hi=>⟨(h.sep i hi).1,(h.sep i hi).2.1,fun e=>?_,(h.sep i hi).2.2.2⟩⟩,rfl,rfl,fun i hi=>?_,fun _ h=>.inl h,k.mono (fun i _ e=>e.elim (fun e=>.inr (.inl e)) (fun e=>.inr (.inr (.inl e))))⟩
 ·have e':v'.ownBlock=some i:=e;rcases hf with h1 | ⟨g,h1,h2⟩
  ·exact (h.sep i hi).2.2.1 (h1 ▸ e')
  ·have h3:g=i:=Option.some.inj (h1.symm.trans e');have:=h.fp_lt i hi;omega
 ·rcases hi with e | e | e | e
  ·exact .inl (.inl e)
  ·exact .inl (.inr (.inl e))
  ·have e':v'.ownBlock=some i:=e;rcases hf with h1 | ⟨g,h1,h2⟩
   ·exact .inl (.inr (.inr (.inl (h1 ▸ e'))))
   ·have h3:g=i:=Option.some.inj (h1.symm.trans e');exact .inr (by omega)
  ·exact .inl (.inr (.inr (.inr e)))
theorem HouseAt.setH {base:Nat} {w:World} {H:HV} {D:Dsk} {S:St} {ls:List ByteArray} {lost:Bool} (h:HouseAt base w H D S ls lost) (o:Nat) (u:Value):DiskAt base (w.setCell ⟨H.h,o,none⟩ u) H.d D H.v∧StAt (w.setCell ⟨H.h,o,none⟩ u) H.V S∧(w.setCell ⟨H.h,o,none⟩ u).ownsRow base 9 1 H.vl ls.length (strCells ls)∧Keep (fun k=>k=H.h) w (w.setCell ⟨H.h,o,none⟩ u):=by
 have hk:Keep (fun k=>k=H.h) w (w.setCell ⟨H.h,o,none⟩ u):=(Keep.refl _ _).setCell _ _ (fun _=>rfl);exact ⟨h.disk.keep hk (fun e=>h.hd e.symm) (fun g hg e=>h.vh (e ▸ hg)),h.st.keep hk (fun i hi e=>(h.sep i hi).1 e),x_b h.own hk (fun g hg e=>h.lh (e ▸ hg)),hk⟩
theorem HouseAt.setLost {base:Nat} {w:World} {H:HV} {D:Dsk} {S:St} {ls:List ByteArray} {lost:Bool} (h:HouseAt base w H D S ls lost) (b:Bool):HouseAt base (w.setCell ⟨H.h,3,none⟩ (.bool b)) H D S ls b∧HChg w H H (w.setCell ⟨H.h,3,none⟩ (.bool b)):=by
 obtain ⟨h1,h2,h3,hk⟩:=h.setH 3 (.bool b);exact ⟨⟨by simpa using h.blk.set 3 (.bool b),h1,h2,h3,h.ge,h.sep⟩,rfl,rfl,fun _ h=>.inl h,fun _ h=>.inl h,hk.mono (fun _ _ e=>.inl e)⟩
theorem HouseAt.setState {base:Nat} {w:World} {H:HV} {D:Dsk} {S S':St} {ls:List ByteArray} {lost:Bool} {V':StV} (h:HouseAt base w H D S ls lost) (hs:StAt w V' S') (hf:∀ k,V'.fp k→k≠H.h∧k≠H.d∧H.v.ownBlock≠some k∧H.vl.ownBlock≠some k):HouseAt base (w.setCell ⟨H.h,1,none⟩ (.pointer (some ⟨V'.b,0,none⟩))) {H with V:=V' } D S' ls lost:=by
 obtain ⟨h1,h2,h3,hk⟩:=h.setH 1 (.pointer (some ⟨V'.b,0,none⟩));exact ⟨by simpa using h.blk.set 1 (.pointer (some ⟨V'.b,0,none⟩)),h1,hs.keep hk (fun i hi e=>(hf i hi).1 e),h3,h.ge,hf⟩
theorem HouseAt.setLines {base:Nat} {w w1:World} {H:HV} {D:Dsk} {S:St} {ls:List ByteArray} {lost:Bool} {vl':Value} {ls':List ByteArray} (h:HouseAt base w H D S ls lost) (k:Keep (fun k=>H.vl.ownBlock=some k) w w1) (ho:w1.ownsRow base 9 1 vl' ls'.length (strCells ls')) (hf:vl'.ownBlock=H.vl.ownBlock∨∃ g,vl'.ownBlock=some g∧w.heap.size≤g):HouseAt base (w1.setCell ⟨H.h,2,none⟩ vl') {H with vl:=vl' } D S ls' lost∧HChg w H {H with vl:=vl' } (w1.setCell ⟨H.h,2,none⟩ vl'):=by
 have hk:Keep (fun k=>k=H.h) w1 (w1.setCell ⟨H.h,2,none⟩ vl'):=(Keep.refl _ _).setCell _ _ (fun _=>rfl);have A:=h.blk.keep k h.lh
 have hn:∀ i,vl'.ownBlock=some i→(H.V.fp i→False):=fun i e hi=>by
  rcases hf with h1 | ⟨g,h1,h2⟩
  ·exact (h.sep i hi).2.2.2 (h1 ▸ e)
  ·have h3:g=i:=Option.some.inj (h1.symm.trans e);have:=h.fp_lt i hi;omega
 refine ⟨⟨by simpa using A.set 2 vl',(h.disk.keep k h.ld (fun g hg e=>h.lv g e hg)).keep hk (fun e=>h.hd e.symm) (fun g hg e=>h.vh (e ▸ hg)),(h.st.keep k (fun i hi e=>(h.sep i hi).2.2.2 e)).keep hk (fun i hi e=>(h.sep i hi).1 e),x_b ho hk (fun g hg e=>x_c ho A (by decide) (e ▸ hg)),h.ge,fun i hi=>⟨(h.sep i hi).1,(h.sep i hi).2.1,(h.sep i hi).2.2.1,fun e=>hn i e hi⟩⟩,rfl,rfl,fun i hi=>?_,fun _ h=>.inl h,(k.mono (fun i _ e=>.inr (.inr (.inr e)))).trans hk (fun i _ e=>.inl e)⟩;rcases hi with e | e | e | e
 ·exact .inl (.inl e)
 ·exact .inl (.inr (.inl e))
 ·exact .inl (.inr (.inr (.inl e)))
 ·have e':vl'.ownBlock=some i:=e;rcases hf with h1 | ⟨g,h1,h2⟩
  ·exact .inl (.inr (.inr (.inr (h1 ▸ e'))))
  ·have h3:g=i:=Option.some.inj (h1.symm.trans e');exact .inr (by omega)
theorem hdo_fin {base:Nat} {w w3 wc w5 w6:World} {H H5 H6:HV} {D D2:Dsk} {S rs:St} {ls:List ByteArray} {lost:Bool} {V':StV} (h:HouseAt base w H D S ls lost) (hk3:Keep kF w w3) (hkc:Keep kF w3 wc) (hst:StAt w3 V' rs) (hfp:∀ k,V'.fp k→H.V.fp k∨w.heap.size≤k) (hc5:HChg wc H H5 w5) (hc6:HChg w5 H5 H6 w6) (h6:HouseAt base w6 H6 D2 S ls lost):HouseAt base (w6.setCell ⟨H6.h,1,none⟩ (.pointer (some ⟨V'.b,0,none⟩))) {H6 with V:=V' } D2 rs ls lost∧HChg w H {H6 with V:=V' } (w6.setCell ⟨H6.h,1,none⟩ (.pointer (some ⟨V'.b,0,none⟩))):=by
 have A:=hc5.trans hc6;have R:=hk3.size;have U:=hkc.size
 have J:∀ k,V'.fp k→¬ H.tp k:=fun k hk e=>by
  rcases hfp k hk with e' | e'
  ·have:=h.sep k e';rcases e with e | e | e | e
   ·exact this.1 e
   ·exact this.2.1 e
   ·exact this.2.2.1 e
   ·exact this.2.2.2 e
  ·have:=h.tp_lt k e;omega
 have O:∀ k,V'.fp k→k < wc.heap.size:=fun k hk=>by have:=hst.lt k hk;omega
 have C:∀ k,V'.fp k→¬ H6.tp k:=fun k hk e=>by
  rcases A.tp k e with e' | e'
  ·exact J k hk e'
  ·have:=O k hk;omega
 have G:StAt w6 V' rs:=(hst.keep hkc n3).keep A.keep J;refine ⟨h6.setState G (fun k hk=>⟨fun e=>C k hk (.inl e),fun e=>C k hk (.inr (.inl e)),fun e=>C k hk (.inr (.inr (.inl e))),fun e=>C k hk (.inr (.inr (.inr e)))⟩),A.h,A.d,fun k hk=>?_,fun k hk=>hfp k hk,?_⟩
 ·rcases A.tp k hk with e | e
  ·exact .inl e
  ·exact .inr (by omega)
 ·have M:Keep H.tp w w6:=((hk3.trans hkc n3).mono (fun _ _ h=>h.elim)).trans A.keep n3;refine M.setCell _ _ fun hl=>?_;rw [A.h];exact .inl rfl
structure HRes where
  err:Int
  out:ByteArray
  D:Dsk
  st:St
  ls:List ByteArray
  lost:Bool
def hdoF (F:Nat→St→FA→Res) (D:Dsk) (S:St) (ls:List ByteArray) (lost:Bool) (s:ByteArray):HRes:=
  if lost then ⟨7,bs [],D,S,ls,true⟩
  else if (doF F S s).err=0 then
    if (appendF D (s.data.toList++[10])).1=0 then
      if (syncF (appendF D (s.data.toList++[10])).2).1=0 then ⟨0,(doF F S s).out,(syncF (appendF D (s.data.toList++[10])).2).2,(doF F S s).st,ls++[s],false⟩
      else ⟨(syncF (appendF D (s.data.toList++[10])).2).1,bs [],(syncF (appendF D (s.data.toList++[10])).2).2,S,ls,true⟩
    else ⟨(appendF D (s.data.toList++[10])).1,bs [],(appendF D (s.data.toList++[10])).2,S,ls,(appendF D (s.data.toList++[10])).1 == 10⟩
  else ⟨(doF F S s).err,bs [],D,S,ls,false⟩
def HDoPost (base:Nat) (w:World) (H:HV) (r:HRes) (e:Ending) (w':World):Prop:=
  ∃ H',e = .returned (.tuple #[.string r.out,.int .i64 r.err])∧HouseAt base w' H' r.D r.st r.ls r.lost∧HChg w H H' w'
theorem doF_size {F:Nat→St→FA→Res} {S:St} {s:ByteArray} (h:(doF F S s).err=0):s.size≤200:=by
 unfold doF formF at h;by_cases hl:isLineB s=true
 ·unfold isLineB at hl;simp at hl;exact hl.1
 ·simp [hl] at h
end Go.Proofs.YthdkamnclbfehaaGreatDoor
namespace Go.Proofs.YthdkamnclbfehaaGreatDoor
open Go.RowKit Tryz
theorem y_d {base:Nat} {w:World} {H:HV} {D:Dsk} {S:St} {ls:List ByteArray} {lost:Bool} (h:HouseAt base w H D S ls lost):Calls prog 52 #[.pointer (some ⟨H.h,0,none⟩)] w fun e w'=>e = .returned (.bool false)∧w=w':=by
 have c1:=h.blk.cell 1;simp at c1;clear h;go_enter func52,ntmps52;go_wp2
 go_ret;exact ⟨rfl,rfl⟩
theorem hdo_any {base:Nat} {w:World} {H:HV} {D:Dsk} {S:St} {ls:List ByteArray} {lost:Bool} {s:ByteArray} {F:Nat→St→FA→Res} (hG:Glob w) (hb:base≤w.heap.size) (h:HouseAt base w H D S ls lost) (hs:S.small) (hls:ls.length≤1000000000) (hsz:s.size≤9223372036854775807) (hrun:RunOK F S s):Calls prog 20 #[.pointer (some ⟨H.h,0,none⟩),.string s] w (HDoPost base w H (hdoF F D S ls lost s)):=by
 obtain ⟨a8,hd,v,V,vl⟩:=H;obtain ⟨lo,lc,aE,_⟩:=x_a h.own;simp only at aE;subst aE;have c0:=h.blk.cell 0;have c1:=h.blk.cell 1;have c2:=h.blk.cell 2;have c3:=h.blk.cell 3;simp at c0 c1 c2 c3;have H:=hD h;clear h;have HG:=hD hG;clear hG;have HS:=hD hs;clear hs;have aa:=hD hrun;clear hrun;cases lost
 ·obtain ⟨R,hR⟩:∃ R,doF F S s=R:=⟨_,rfl⟩;have O:hdoF F D S ls false s=if R.err=0 then if (appendF D (s.data.toList++[10])).1=0 then if (syncF (appendF D (s.data.toList++[10])).2).1=0 then ⟨0,R.out,(syncF (appendF D (s.data.toList++[10])).2).2,R.st,ls++[s],false⟩ else ⟨(syncF (appendF D (s.data.toList++[10])).2).1,bs [],(syncF (appendF D (s.data.toList++[10])).2).2,S,ls,true⟩ else ⟨(appendF D (s.data.toList++[10])).1,bs [],(appendF D (s.data.toList++[10])).2,S,ls,(appendF D (s.data.toList++[10])).1 == 10⟩ else ⟨R.err,bs [],D,S,ls,false⟩:=(by unfold hdoF;rw [if_neg (by simp),hR]);have ak:R.err=0→s.size≤200:=fun e=>doF_size (F:=F) (S:=S) (by rw [hR];exact e);have au:=hD hR;clear hR;obtain ⟨re,rs,ro⟩:=R;by_cases hz:re=0
  ·subst hz;have aD:s.size≤200:=ak rfl;clear ak;rw [if_pos rfl] at O;have aJ:(9223372036854775807 < s.size+1)=False:=eq_false (by omega);have aL:=fun W=>Lib.run_convert_string_bytes (P:=prog) W 9 61 5 (s++⟨#[10]⟩) underlying9 underlying61 underlying5;have a6:(s++(⟨#[10]⟩:ByteArray)).size=s.size+1:=(by rw [ByteArray.size_append];rfl);have ax:Hid (∀ w3,Rd (Lib.bytesWorld w3 5 (s++⟨#[10]⟩)) 1 (.slice (some ⟨w3.heap.size,0,none⟩) (s.size+1) (grownCap w3 (s.size+1) 0 5)) (s.data.toList++[10]).length (bcells (s.data.toList++[10]))):=hD fun w3=>(by have:=convCell w3 (s++⟨#[10]⟩) (by rw [a6];omega);rw [a6,show (s++(⟨#[10]⟩:ByteArray)).data.toList=s.data.toList++[10] by simp] at this;exact this);have Z:Hid (∀ w3,Keep kF w3 (Lib.bytesWorld w3 5 (s++(⟨#[10]⟩:ByteArray)))):=hD fun w3=>convKeep w3 5 _;clear a6;obtain ⟨A,hA⟩:∃ A,appendF D (s.data.toList++[10])=A:=⟨_,rfl⟩;rw [hA] at O;have av:=hD hA;clear hA;obtain ⟨ae,D1⟩:=A;by_cases ha:ae=0
   ·subst ha;rw [if_pos rfl] at O;dsimp only at O;obtain ⟨Y,hY⟩:∃ Y,syncF D1=Y:=⟨_,rfl⟩;rw [hY] at O;have HY:=hD hY;clear hY;obtain ⟨ye,D2⟩:=Y;by_cases hy:ye=0
    ·subst hy;rw [if_pos rfl] at O;have HF:=hD O;clear O;go_enter func20,ntmps20
     go_wp2_with (first
       | (go_at_call 52;refine (y_d H.out).mono ?_;rintro e w' ⟨rfl,rfl⟩)
       | (go_at_call 53;have hh:=do_any (F:=F) HG.out H.out.st HS.out (by omega) aa.out;rw [au.out] at hh;refine Calls.mono hh ?_;clear hh;rintro e w3 ⟨V',rfl,J,U,aj,C,G⟩;have c0:=(H.out.blk.keep G (fun h=>h)).cell 0;have c1:=(H.out.blk.keep G (fun h=>h)).cell 1;have c2:=(H.out.blk.keep G (fun h=>h)).cell 2;simp at c0 c1 c2;have ac:=hD J;have ar:=hD C;have M:=hD G;clear J U aj C G)
       | (go_at_call 31;have hX:=(H.out.idle M.out).idle (Z.out w3);have hh:=append_any hX.disk (ax.out w3) (fun e=>by have e2:w3.heap.size=hd:=Option.some.inj e;have:=H.out.disk.blk.lt;have:=M.out.size;simp only at *;omega) (by have h5:=(Z.out w3).size;have:=M.out.size;omega);unfold AppendPost at hh;rw [av.out] at hh;dsimp only at hh;refine Calls.mono hh ?_;clear hh;rintro e w5 ⟨rfl,⟨v1,ag,ah⟩,ai⟩;obtain ⟨h5,ad⟩:=hX.onDisk ai ag ah;have c0:=h5.blk.cell 0;have c1:=h5.blk.cell 1;have c2:=h5.blk.cell 2;have c3:=h5.blk.cell 3;have f1:=h5.blk.free 1;have f2:=h5.blk.free 2;have f3:=h5.blk.free 3;simp at c0 c1 c2 c3;have H5:=hD h5;have al:=hD ad;clear hX ag ah ai h5 ad)
       | (go_at_call 48;have hh:=sync_any H5.out.disk;rw [HY.out] at hh;dsimp only at hh;refine Calls.mono hh ?_;clear hh;rintro e w6 ⟨rfl,⟨v2,an,ao⟩,aq⟩;obtain ⟨h6,am⟩:=H5.out.onDisk aq an ao;have c0:=h6.blk.cell 0;have c1:=h6.blk.cell 1;have c2:=h6.blk.cell 2;have c3:=h6.blk.cell 3;have f1:=h6.blk.free 1;have f2:=h6.blk.free 2;have f3:=h6.blk.free 3;simp at c0 c1 c2 c3;have H6:=hD h6;have aw:=hD am;clear an ao aq h6 am;obtain ⟨h7,aA⟩:=hdo_fin H.out M.out (Z.out w3) ac.out ar.out al.out aw.out H6.out;have aC:=x_b h7.own ((Keep.refl kF _).alloc (.cells #[.string s] 9)) n3;have a1:=Rd.new (w6.setCell ⟨a8,1,none⟩ (.pointer (some ⟨V'.b,0,none⟩))) 1 1 [.string s] 9 rfl (by simp [Value.oneCell']) (by unfold maxLen;omega);rw [World.size_setCell] at a1;have aH:=hD (a1.src (P:=prog) underlying44);have aG:=hD aC;have H7:=hD h7;have a7:=hD aA;clear h7 aA aC a1)
       | (at_builtin;refine x_h (w:=(w6.setCell ⟨a8,1,none⟩ (.pointer (some ⟨V'.b,0,none⟩))).alloc (.cells #[.string s] 9)) rfl (.tmp 67) (.tmp 69) 44 44 rfl 9 (.string ⟨#[]⟩) 1 16 underlying44 y_t rfl aG.out rfl aH.out rfl ?hb1 ?hb2 ?hb3 ?hgo))
     case hb1=>unfold maxLen;omega
     case hb2=>omega
     case hb3=>exact Nat.le_trans hb (Nat.le_trans a7.out.keep.size (by simp))
     case hgo=>
     intro v' w9 X;obtain ⟨aI,ay,rfl,_⟩:=x_a X.own;have h8:=H7.out.idle ((Keep.refl kF _).alloc (.cells #[.string s] 9));obtain ⟨h9,aB⟩:=h8.setLines (vl':=.slice aI (ls.length+1) ay) (ls':=ls++[s]) X.keep (by have:=X.own;simpa [strCells] using this) X.fresh;have az:=h8.blk.keep X.keep h8.lh;have c2:=az.cell 2;have f2:=az.free 2;simp at c2;have H9:=hD h9;have aF:=hD aB;clear h8 h9 aB az X;go_wp2
     go_ret2;rw [HF.out];exact ⟨_,rfl,H9.out,(a7.out.trans (HChg.idle _ ((Keep.refl kF _).alloc (.cells #[.string s] 9)))).trans aF.out⟩
    ·rw [if_neg hy] at O;have HF:=hD O;clear O;have aM:(ye != 0)=true:=(by simpa using hy);go_enter func20,ntmps20
     go_wp2_with (first
       | (go_at_call 52;refine (y_d H.out).mono ?_;rintro e w' ⟨rfl,rfl⟩)
       | (go_at_call 53;have hh:=do_any (F:=F) HG.out H.out.st HS.out (by omega) aa.out;rw [au.out] at hh;refine Calls.mono hh ?_;clear hh;rintro e w3 ⟨V',rfl,J,U,aj,C,G⟩;have c0:=(H.out.blk.keep G (fun h=>h)).cell 0;have c1:=(H.out.blk.keep G (fun h=>h)).cell 1;have c2:=(H.out.blk.keep G (fun h=>h)).cell 2;simp at c0 c1 c2;have ac:=hD J;have ar:=hD C;have M:=hD G;clear J U aj C G)
       | (go_at_call 31;have hX:=(H.out.idle M.out).idle (Z.out w3);have hh:=append_any hX.disk (ax.out w3) (fun e=>by have e2:w3.heap.size=hd:=Option.some.inj e;have:=H.out.disk.blk.lt;have:=M.out.size;simp only at *;omega) (by have h5:=(Z.out w3).size;have:=M.out.size;omega);unfold AppendPost at hh;rw [av.out] at hh;dsimp only at hh;refine Calls.mono hh ?_;clear hh;rintro e w5 ⟨rfl,⟨v1,ag,ah⟩,ai⟩;obtain ⟨h5,ad⟩:=hX.onDisk ai ag ah;have c0:=h5.blk.cell 0;have c1:=h5.blk.cell 1;have c2:=h5.blk.cell 2;have c3:=h5.blk.cell 3;have f1:=h5.blk.free 1;have f2:=h5.blk.free 2;have f3:=h5.blk.free 3;simp at c0 c1 c2 c3;have H5:=hD h5;have al:=hD ad;clear hX ag ah ai h5 ad)
       | (go_at_call 48;have hh:=sync_any H5.out.disk;rw [HY.out] at hh;dsimp only at hh;refine Calls.mono hh ?_;clear hh;rintro e w6 ⟨rfl,⟨v2,an,ao⟩,aq⟩;obtain ⟨h6,am⟩:=H5.out.onDisk aq an ao;have c0:=h6.blk.cell 0;have c1:=h6.blk.cell 1;have c2:=h6.blk.cell 2;have c3:=h6.blk.cell 3;have f1:=h6.blk.free 1;have f2:=h6.blk.free 2;have f3:=h6.blk.free 3;simp at c0 c1 c2 c3;have H6:=hD h6;have aw:=hD am;clear an ao aq h6 am))
     go_ret2;rw [HF.out];exact ⟨_,rfl,(H6.out.setLost true).1,((HChg.idle _ (M.out.trans (Z.out w3) n3) |>.trans al.out).trans aw.out).trans (H6.out.setLost true).2⟩
   ·rw [if_neg ha] at O;have HF:=hD O;clear O;have aK:(ae != 0)=true:=(by simpa using ha);go_enter func20,ntmps20
    go_wp2_with (first
      | (go_at_call 52;refine (y_d H.out).mono ?_;rintro e w' ⟨rfl,rfl⟩)
      | (go_at_call 53;have hh:=do_any (F:=F) HG.out H.out.st HS.out (by omega) aa.out;rw [au.out] at hh;refine Calls.mono hh ?_;clear hh;rintro e w3 ⟨V',rfl,J,U,aj,C,G⟩;have c0:=(H.out.blk.keep G (fun h=>h)).cell 0;have c1:=(H.out.blk.keep G (fun h=>h)).cell 1;have c2:=(H.out.blk.keep G (fun h=>h)).cell 2;simp at c0 c1 c2;have ac:=hD J;have ar:=hD C;have M:=hD G;clear J U aj C G)
      | (go_at_call 31;have hX:=(H.out.idle M.out).idle (Z.out w3);have hh:=append_any hX.disk (ax.out w3) (fun e=>by have e2:w3.heap.size=hd:=Option.some.inj e;have:=H.out.disk.blk.lt;have:=M.out.size;simp only at *;omega) (by have h5:=(Z.out w3).size;have:=M.out.size;omega);unfold AppendPost at hh;rw [av.out] at hh;dsimp only at hh;refine Calls.mono hh ?_;clear hh;rintro e w5 ⟨rfl,⟨v1,ag,ah⟩,ai⟩;obtain ⟨h5,ad⟩:=hX.onDisk ai ag ah;have c0:=h5.blk.cell 0;have c1:=h5.blk.cell 1;have c2:=h5.blk.cell 2;have c3:=h5.blk.cell 3;have f1:=h5.blk.free 1;have f2:=h5.blk.free 2;have f3:=h5.blk.free 3;simp at c0 c1 c2 c3;have H5:=hD h5;have al:=hD ad;clear hX ag ah ai h5 ad))
    go_ret2;rw [HF.out];exact ⟨_,rfl,(H5.out.setLost (ae == 10)).1,(HChg.idle _ (M.out.trans (Z.out w3) n3) |>.trans al.out).trans (H5.out.setLost (ae == 10)).2⟩
  ·rw [if_neg hz] at O;have HF:=hD O;clear O ak;have aN:(re != 0)=true:=(by simpa using hz);go_enter func20,ntmps20
   go_wp2_with (first
     | (go_at_call 52;refine (y_d H.out).mono ?_;rintro e w' ⟨rfl,rfl⟩)
     | (go_at_call 53;have hh:=do_any (F:=F) HG.out H.out.st HS.out (by omega) aa.out;rw [au.out] at hh;refine Calls.mono hh ?_;clear hh;rintro e w3 ⟨V',rfl,J,U,aj,C,G⟩;have c0:=(H.out.blk.keep G (fun h=>h)).cell 0;have c1:=(H.out.blk.keep G (fun h=>h)).cell 1;have c2:=(H.out.blk.keep G (fun h=>h)).cell 2;simp at c0 c1 c2;have ac:=hD J;have ar:=hD C;have M:=hD G;clear J U aj C G))
   go_ret2;rw [HF.out];exact ⟨_,rfl,H.out.idle M.out,HChg.idle _ M.out⟩
 ·have HF:=hD (show hdoF F D S ls true s=⟨7,bs [],D,S,ls,true⟩ by unfold hdoF;rw [if_pos rfl]);go_enter func20,ntmps20
  go_wp2_with (first
    | (go_at_call 52;refine (y_d H.out).mono ?_;rintro e w' ⟨rfl,rfl⟩))
  go_ret2;rw [HF.out];exact ⟨_,rfl,H.out,HChg.refl _ _⟩
end Go.Proofs.YthdkamnclbfehaaGreatDoor
namespace Go.Proofs.YthdkamnclbfehaaGreatDoor
open Go.RowKit
end Go.Proofs.YthdkamnclbfehaaGreatDoor
namespace Go.Proofs.YthdkamnclbfehaaGreatDoor
open Go.RowKit Tryz
def DisksPost (base:Nat) (w:World) (n:Int) (e:Ending) (w':World):Prop:=
  Keep (fun _=>False) w w'∧
  (1≤n∧n≤1000000→∃ d x,e = .returned (.tuple #[.pointer (some ⟨d,0,none⟩),.pointer (some ⟨x,0,none⟩),.bool true])∧DiskAt base w' d (newD n.toNat) (.slice none 0 0)∧RDiskAt base w' x (newD n.toNat) (.slice none 0 0)∧w.heap.size≤d∧w.heap.size≤x∧d≠x)∧
  (¬ (1≤n∧n≤1000000)→e = .returned (.tuple #[.pointer none,.pointer none,.bool true]))
theorem disks_any {base:Nat} {w:World} (n:Int) (hb:base≤w.heap.size):Calls prog 12 #[.int .i64 n] w (DisksPost base w n):=by
 have h1:=newDisk_any (base:=base) (w:=w) n hb;unfold NewPost at h1;by_cases hn:1≤n∧n≤1000000
 ·have C:¬ (n < 1∨1000000 < n):=(by omega);simp only [if_neg C] at h1;have H1:=hD h1;clear h1;have HN:=hD hn;go_enter func12,ntmps12
  go_wp2_with (first
    | (go_at_call 42;refine H1.out.mono ?_;rintro e w1 ⟨rfl,G,O⟩;have A:=hD G;have U:=hD (O HN.out.1 HN.out.2);clear G O)
    | (go_at_call 43;have hh:=rnewDisk_any (base:=base) (w:=w1) n (Nat.le_trans hb A.out.size);unfold RNewPost at hh;simp only [if_neg C] at hh;refine Calls.mono hh ?_;clear hh;rintro e w2 ⟨rfl,J,R⟩;have M:=hD J;have W:=hD (R HN.out.1 HN.out.2);clear J R))
  go_ret3;have Y:=A.out.size;refine ⟨A.out.trans M.out n3,fun _=>⟨w.heap.size,w1.heap.size,rfl,U.out.2.keep M.out (fun h=>h) n3,W.out.2,Nat.le_refl _,Y,by have:=U.out.1;omega⟩,fun h=>absurd HN.out h⟩
 ·have C:n < 1∨1000000 < n:=(by omega);simp only [if_pos C] at h1;have H1:=hD h1;clear h1;have HN:=hD hn;have X:=hD C;clear hn C;go_enter func12,ntmps12
  go_wp2_with (first
    | (go_at_call 42;refine H1.out.mono ?_;rintro e w1 ⟨rfl,G,O⟩;have A:=hD G;clear G O)
    | (go_at_call 43;have hh:=rnewDisk_any (base:=base) (w:=w1) n (Nat.le_trans hb A.out.size);unfold RNewPost at hh;simp only [if_pos X.out] at hh;refine Calls.mono hh ?_;clear hh;rintro e w2 ⟨rfl,J,R⟩;have M:=hD J;clear J R))
  go_ret3;exact ⟨A.out.trans M.out n3,fun h=>absurd h HN.out,fun _=>rfl⟩
def pathG:List Int:=[2,5,10,20,40,80,160,64]
theorem path_any {w:World}:Calls prog 44 #[] w fun e w'=>e = .returned (.slice (some ⟨w.heap.size,0,none⟩) 8 8)∧w'=w.alloc (.cells (icells pathG).toArray 3):=by
 go_enter func44,ntmps44;go_wp2
 go_ret;exact ⟨rfl,rfl⟩
theorem Rd.takeN {w:World} {ao:Option Addr} {n c:Nat} {xs:List Value} (h:Rd w 1 (.slice ao n c) n xs) (k:Nat) (hk:k≤n):Rd w 1 (.slice ao k c) k (xs.take k):=by
 refine ⟨by have:=h.1;rw [List.length_take];omega,fun u hu=>h.2.1 u (List.mem_of_mem_take hu),?_⟩;rcases h.2.2 with ⟨e,h0⟩ | ⟨b,o,c',e,h1,h2,hx⟩
 ·injection e with e1 e2 e3;subst e1 e3;have:k=0:=(by omega);subst this;exact .inl ⟨rfl,rfl⟩
 ·injection e with e1 e2 e3;subst e1 e3;refine .inr ⟨b,o,c,rfl,by omega,h2,fun j u hu=>hx j u ?_⟩;rw [List.getElem?_take] at hu;split at hu
  ·exact hu
  ·cases hu
theorem graph_any {w:World} {v:Value} {g:List Int} (hv:Rd w 1 v g.length (icells g)) (hl:g.length≤9223372036854775807):Calls prog 25 #[v] w (ClonePost w 3 1 (g.take 10).length (icells (g.take 10))):=by
 obtain ⟨ao,M,O,R,_⟩:=hv.shape;subst O;have hm:(min (g.length:Int) 10).toNat=(g.take 10).length:=(by rw [List.length_take];omega);have hr:=hv.takeN (g.take 10).length (by rw [List.length_take];omega)
 have ht:(icells g).take (g.take 10).length=icells (g.take 10):=by
  rw [List.length_take];by_cases h:g.length≤10
  ·rw [List.take_of_length_le h,List.take_of_length_le (by rw [icells_length];omega)]
  ·rw [show min 10 g.length=10 by omega];simp [icells,List.map_take]
 rw [ht] at hr;have HC:=hD (clone57 hr (by rw [List.length_take];omega));have HM:=hD hm;clear hv ht hr hm;have h0:(0:Int)≤min (g.length:Int) 10:=(by omega);have h1:min (g.length:Int) 10≤(M:Int):=(by omega);go_enter func25,ntmps25;go_wp2_with (go_at_call 57;rw [HM.out];refine HC.out.mono ?_;rintro e w1 ⟨v',rfl,C,A⟩;have J:=hD C;have G:=hD A;clear C A)
 go_ret;exact ⟨_,rfl,J.out,G.out⟩
theorem form_mace:formF (bs [116,97,107,101,32,109,97,99,101,32,53])=some ([115,100],255,⟨[5],bs [109,97,99,101],true⟩):=by kernel_rfl
theorem form_empty:formF (bs [])=none:=by kernel_rfl
def F0 (f:Nat) (S:St) (a:FA):Res:=if f=255 then takeF S a else ⟨1,S,bs []⟩
theorem enters255:Enters 255:=enters_of func255 (by kernel_rfl) rfl
theorem size_zero {s:ByteArray} (h:s.size≤0):s=bs []:=ByteArray.ext (Array.eq_empty_of_size_eq_zero (Nat.le_zero.1 h))
theorem run_mace:RunOK F0 (S0 pathG) (bs [116,97,107,101,32,109,97,99,101,32,53]):=by
 intro so f a hf A;rw [form_mace] at hf;simp only [Option.some.injEq,Prod.mk.injEq] at hf;obtain ⟨_,rfl,rfl⟩:=hf;refine ⟨enters255,fun base w V vn hG h ha=>?_⟩;exact take_any hG h (by simp [S0]) ha rfl
def openE:OpenR:=⟨0,newD 100,S0 pathG,[]⟩
theorem sys_empty:Sys F0 (fun _ S=>S=S0 pathG) 0 0:=by
 refine ⟨fun k S line hk hS hl=>?_,fun k S hk hS=>?_,fun k S line hk hS hl he=>?_⟩
 ·intro so f a hf;have:line=bs []:=size_zero hl;rw [this,form_empty] at hf;cases hf
 ·rw [hS];exact ⟨by simp [S0],by simp [S0],by simp [S0],by simp [S0]⟩
 ·have:line=bs []:=size_zero hl;rw [this] at he;unfold doF at he;rw [form_empty] at he;cases he
theorem open_path:openF F0 (newD 100) pathG=openE:=by kernel_rfl
theorem do_mace:hdoF F0 (newD 100) (S0 pathG) [] false (bs [116,97,107,101,32,109,97,99,101,32,53]) =
    ⟨0,bs [116,97,107,101,32,49],{newD 100 with bytes:=[116,97,107,101,32,109,97,99,101,32,53,10],safe:=12},addS (S0 pathG) ⟨bs [109,97,99,101],5,-1,false⟩,[bs [116,97,107,101,32,109,97,99,101,32,53]],false⟩:=by kernel_rfl
theorem full_any {base:Nat} {w:World} {H:HV} {D:Dsk} {S:St} {ls:List ByteArray} {lost:Bool} {s:ByteArray} {F:Nat→St→FA→Res} (hG:Glob w) (h:HouseAt base w H D S ls lost) (hs:S.small) (hsz:s.size≤9223372036854775807) (hrun:RunOK F S s):Calls prog 74 #[.pointer (some ⟨H.h,0,none⟩),.string s] w (fun e w'=>e = .returned (.bool ((doF F S s).err != 0))∧Keep kF w w'):=by
 have c1:=h.blk.cell 1;simp at c1;have A:=do_any (F:=F) hG h.st hs hsz hrun;unfold DoPost at A;have HD:=hD A;obtain ⟨C,hd,v,V,vl⟩:=H;clear A hrun hs h hG;go_enter func74,ntmps74;go_wp2_with (go_at_call 53;refine HD.out.mono ?_;rintro e w1 ⟨V',rfl,_,_,_,_,hk⟩;have HK:=hD hk;clear hk)
 go_ret;exact ⟨rfl,HK.out⟩
end Go.Proofs.YthdkamnclbfehaaGreatDoor
namespace Go.Proofs.YthdkamnclbfehaaGreatDoor
open Go.RowKit
structure Pair (base:Nat) (w:World) (d x:Nat) (D E:Dsk) (v u:Value):Prop where
  a:DiskAt base w d D v
  b:RDiskAt base w x E u
  ne:∀ k,v.ownBlock=some k→u.ownBlock≠some k
def PT (d x:Nat) (v u:Value) (k:Nat):Prop:=(k=d∨v.ownBlock=some k)∨(k=x∨u.ownBlock=some k)
theorem Pair.dx {base:Nat} {w:World} {d x:Nat} {D E:Dsk} {v u:Value} (h:Pair base w d x D E v u):d≠x:=h.a.blk.types h.b.blk (by decide)
theorem Pair.vx {base:Nat} {w:World} {d x:Nat} {D E:Dsk} {v u:Value} (h:Pair base w d x D E v u):v.ownBlock≠some x:=x_c h.a.own h.b.blk (by decide)
theorem Pair.ud {base:Nat} {w:World} {d x:Nat} {D E:Dsk} {v u:Value} (h:Pair base w d x D E v u):u.ownBlock≠some d:=x_c h.b.own h.a.blk (by decide)
theorem Pair.keep {T:Nat→Prop} {base:Nat} {w w':World} {d x:Nat} {D E:Dsk} {v u:Value} (h:Pair base w d x D E v u) (k:Keep T w w') (hT:∀ i,PT d x v u i→¬ T i):Pair base w' d x D E v u:=
  ⟨h.a.keep k (hT _ (.inl (.inl rfl))) (fun g e=>hT g (.inl (.inr e))),h.b.keep k (hT _ (.inr (.inl rfl))) (fun g e=>hT g (.inr (.inr e))),h.ne⟩
structure PChg (w:World) (d x:Nat) (v u v' u':Value) (w':World):Prop where
  keep:Keep (PT d x v u) w w'
  fp:∀ k,PT d x v' u' k→PT d x v u k∨w.heap.size≤k
theorem Pair.stepA {base:Nat} {w w1:World} {d x:Nat} {D E D':Dsk} {v u v':Value} (h:Pair base w d x D E v u) (k1:Keep (fun k=>k=d∨v.ownBlock=some k) w w1) (h1:DiskAt base w1 d D' v') (f1:v'.ownBlock=v.ownBlock∨∃ g,v'.ownBlock=some g∧w.heap.size≤g):Pair base w1 d x D' E v' u∧PChg w d x v u v' u w1:=by
 refine ⟨⟨h1,h.b.keep k1 (fun e=>e.elim (fun e=>h.dx e.symm) h.vx) (fun g e e'=>e'.elim (fun e'=>h.ud (e' ▸ e)) (fun e'=>h.ne g e' e)),fun k e e'=>?_⟩,k1.mono (fun _ _ e=>.inl e),fun k hk=>?_⟩
 ·rcases f1 with e1 | ⟨g,e1,e2⟩
  ·exact h.ne k (e1 ▸ e) e'
  ·have h5:g=k:=Option.some.inj (e1.symm.trans e);have:=(x_d h.b.own k e').2;omega
 ·rcases hk with (e | e) | e
  ·exact .inl (.inl (.inl e))
  ·rcases f1 with e1 | ⟨g,e1,e2⟩
   ·exact .inl (.inl (.inr (e1 ▸ e)))
   ·have h5:g=k:=Option.some.inj (e1.symm.trans e);exact .inr (by omega)
  ·exact .inl (.inr e)
theorem Pair.stepB {base:Nat} {w w1:World} {d x:Nat} {D E E':Dsk} {v u u':Value} (h:Pair base w d x D E v u) (k1:Keep (fun k=>k=x∨u.ownBlock=some k) w w1) (h1:RDiskAt base w1 x E' u') (f1:u'.ownBlock=u.ownBlock∨∃ g,u'.ownBlock=some g∧w.heap.size≤g):Pair base w1 d x D E' v u'∧PChg w d x v u v u' w1:=by
 refine ⟨⟨h.a.keep k1 (fun e=>e.elim h.dx h.ud) (fun g e e'=>e'.elim (fun e'=>h.vx (e' ▸ e)) (h.ne g e)),h1,fun k e e'=>?_⟩,k1.mono (fun _ _ e=>.inr e),fun k hk=>?_⟩
 ·rcases f1 with e1 | ⟨g,e1,e2⟩
  ·exact h.ne k e (e1 ▸ e')
  ·have h5:g=k:=Option.some.inj (e1.symm.trans e');have:=(x_d h.a.own k e).2;omega
 ·rcases hk with e | (e | e)
  ·exact .inl (.inl e)
  ·exact .inl (.inr (.inl e))
  ·rcases f1 with e1 | ⟨g,e1,e2⟩
   ·exact .inl (.inr (.inr (e1 ▸ e)))
   ·have h5:g=k:=Option.some.inj (e1.symm.trans e);exact .inr (by omega)
end Go.Proofs.YthdkamnclbfehaaGreatDoor
namespace Go.Proofs.YthdkamnclbfehaaGreatDoor
open Go.RowKit Tryz
def OpenRelE (F:Nat→St→FA→Res) (I:Nat→St→Prop) (w:World) (D:Dsk) (g:List Int) (bd hb:Nat) (bv:Value) (i:Value) (wr:World):Prop:=
  ∃ (rest:List UInt8) (S:St) (ls:List ByteArray) (at_ fuel:Nat) (V:StV) (lo:Option Addr) (lc:Nat),
    i = .int .i64 at_∧at_≤D.bytes.length∧rest=D.bytes.drop at_∧rest.length < fuel∧openLoop F fuel rest S ls at_=openLoop F (D.bytes.length+1) D.bytes (S0 g) [] 0∧I ls.length S∧ls.length≤at_∧
    Blk wr hb #[.pointer (some ⟨bd,0,none⟩),.pointer (some ⟨V.b,0,none⟩),.slice lo ls.length lc,.bool false] 106∧StAt wr V S∧
    (∀ k,V.fp k→w.heap.size≤k∧k≠hb∧(Value.slice lo ls.length lc).ownBlock≠some k)∧
    wr.ownsRow w.heap.size 9 1 (.slice lo ls.length lc) ls.length (strCells ls)∧wr.ownsRow w.heap.size 5 1 bv D.bytes.length (bcells D.bytes)∧Keep kF w wr
theorem open_emp {base bd:Nat} {w:World} {D:Dsk} {v gv:Value} {g:List Int} {F:Nat→St→FA→Res} {I:Nat→St→Prop} (hG:Glob w) (hbe:D.bytes=[]) (hof:D.off=false) (hsy:syncF D=(0,D)) (hd:DiskAt base w bd D v) (hg:Rd w 1 gv g.length (icells g)) (hgl:g.length≤1000000) (hglt:∀ k,gv.ownBlock=some k→k < w.heap.size) (hb:base≤w.heap.size) (hI:baysB g=true→I 0 (S0 g)) (hsys:Sys F I D.bytes.length D.bytes.length):Calls prog 24 #[.pointer (some ⟨bd,0,none⟩),gv] w (OpenPost base w bd v (openF F D g)):=by
 obtain ⟨go,gc,b5,_⟩:=hg.shape;subst b5;have aT:=hD hbe;clear hbe;have aE:=hD hof;clear hof;have bx:=hD hsy;clear hsy;have C:=bays_any hg (by omega) hG.tab (by have:=hG.size;omega);have HD:=hD hd;clear hd;have HG:=hD hG;clear hG;have bk:=hD hg;clear hg;have b8:=hD hglt;clear hglt;cases G:baysB g
 ·have HF:=hD (show openF F D g=⟨2,D,S0 g,[]⟩ by unfold openF;rw [G];rfl);rw [G] at C;have HB:=hD C;clear C G;go_enter func24,ntmps24
  go_wp2_with (first
    | (go_at_call 51;refine (z_f HD.out).mono ?_;rintro e w' ⟨rfl,rfl⟩)
    | (go_at_call 54;refine HB.out.mono ?_;rintro e w1 ⟨rfl,au⟩;have ad:=hD au;clear au))
  go_ret2;refine ⟨v,?_,.inl rfl,ad.out.mono (fun _ _ h=>h.elim),fun _=>by rw [HF.out];rfl,fun e=>by rw [HF.out] at e;cases e⟩;rw [HF.out];exact HD.out.keep ad.out (fun h=>h) n3
 ·replace hI:=hI G;rw [G] at C;have HB:=hD C;clear C;have ah:=aE.out;have HF:=hD (show openF F D g=openEnd D (openLoop F (D.bytes.length+1) D.bytes (S0 g) [] 0) by unfold openF;rw [G,ah];rfl);have ak:=hD ah;clear ah G;go_enter func24,ntmps24
  go_wp2_with (first
    | (go_at_call 51;refine (z_f HD.out).mono ?_;rintro e w' ⟨rfl,rfl⟩)
    | (go_at_call 54;refine HB.out.mono ?_;rintro e w1 ⟨rfl,au⟩;have ad:=hD au;clear au)
    | (go_at_call 29;have hh:=read_any (HD.out.keep ad.out (fun h=>h) n3);refine Calls.mono hh ?_;clear hh;rintro e w2 ⟨v',rfl,ax,aZ⟩;rw [ak.out] at ax;rw [ak.out];simp only [Bool.false_eq_true,if_false] at ax;simp only [Bool.false_eq_true,if_false];obtain ⟨bo,bc,rfl,bC⟩:=x_a ax;have bp:=hD ax;clear ax;have aB:=hD aZ;clear aZ)
    | (go_at_call 55;have hh:=clone55 ((bk.out.keep ad.out n3).keep aB.out n3) (by omega);refine Calls.mono hh ?_;clear hh;rintro e w3 ⟨bB,rfl,aM,av⟩;obtain ⟨X,U,rfl,bF⟩:=x_a aM;have aD:=hD aM;clear aM;have aC:=hD av;clear av))
  have b6:=ad.out.size;have bL:=aB.out.size;have bM:=aC.out.size;have a8:Blk ((w3.alloc (.cells #[.slice X g.length U,.slice none 0 0,.slice none 0 0,.slice none 0 0,.slice none 0 0] 113)).alloc (.cells #[.pointer (some ⟨bd,0,none⟩),.pointer (some ⟨w3.heap.size,0,none⟩),.slice none 0 0,.bool false] 106)) w3.heap.size (StV.cells ⟨w3.heap.size,.slice X g.length U,.slice none 0 0,.slice none 0 0,.slice none 0 0,.slice none 0 0⟩) 113:=(Blk.new _ _ _).alloc _;have aL:Blk ((w3.alloc (.cells #[.slice X g.length U,.slice none 0 0,.slice none 0 0,.slice none 0 0,.slice none 0 0] 113)).alloc (.cells #[.pointer (some ⟨bd,0,none⟩),.pointer (some ⟨w3.heap.size,0,none⟩),.slice none 0 0,.bool false] 106)) (w3.heap.size+1) #[.pointer (some ⟨bd,0,none⟩),.pointer (some ⟨w3.heap.size,0,none⟩),.slice none 0 0,.bool false] 106:=(by have:=Blk.new (w3.alloc (.cells #[.slice X g.length U,.slice none 0 0,.slice none 0 0,.slice none 0 0,.slice none 0 0] 113)) #[.pointer (some ⟨bd,0,none⟩),.pointer (some ⟨w3.heap.size,0,none⟩),.slice none 0 0,.bool false] 106;rwa [World.size_alloc] at this);have M:Keep kF w3 ((w3.alloc (.cells #[.slice X g.length U,.slice none 0 0,.slice none 0 0,.slice none 0 0,.slice none 0 0] 113)).alloc (.cells #[.pointer (some ⟨bd,0,none⟩),.pointer (some ⟨w3.heap.size,0,none⟩),.slice none 0 0,.bool false] 106)):=((Keep.refl _ _).alloc _).alloc _;obtain ⟨w4,aS⟩:∃ w4,w4=((w3.alloc (.cells #[.slice X g.length U,.slice none 0 0,.slice none 0 0,.slice none 0 0,.slice none 0 0] 113)).alloc (.cells #[.pointer (some ⟨bd,0,none⟩),.pointer (some ⟨w3.heap.size,0,none⟩),.slice none 0 0,.bool false] 106)):=⟨_,rfl⟩;rw [← aS] at a8 aL M;rw [← aS];clear aS;have ar:Keep kF w w4:=((ad.out.trans aB.out n3).trans aC.out n3).trans M n3
  have a1:StAt w4 ⟨w3.heap.size,.slice X g.length U,.slice none 0 0,.slice none 0 0,.slice none 0 0,.slice none 0 0⟩ (S0 g):=by
   refine ⟨a8,x_g (x_b aD.out M n3) (x_l _),Rd.nil _ _,Rd.nil _ _,Rd.nil _ _,Rd.nil _ _,fun k hk=>?_⟩;have h5:=a8.lt;rcases hk with e | e | e | e | e | e
   ·rw [e];exact h5
   ·have:=(x_d aD.out k e).2;omega
   ·cases e
   ·cases e
   ·cases e
   ·cases e
  have ag:∀ k,StV.fp ⟨w3.heap.size,.slice X g.length U,.slice none 0 0,.slice none 0 0,.slice none 0 0,.slice none 0 0⟩ k→w.heap.size≤k∧k≠w3.heap.size+1:=fun k hk=>by
   rcases hk with e | e | e | e | e | e
   ·exact ⟨by rw [e];show w.heap.size≤w3.heap.size;omega,by rw [e];show w3.heap.size≠w3.heap.size+1;omega⟩
   ·have h6:=x_d aD.out k e;exact ⟨by omega,by omega⟩
   ·cases e
   ·cases e
   ·cases e
   ·cases e
  have aH:Hid (OpenRelE F I w D g bd (w3.heap.size+1) (.slice bo D.bytes.length bc) (.int .i64 0) w4):=hD ⟨D.bytes,S0 g,[],0,D.bytes.length+1,_,none,0,rfl,Nat.zero_le _,rfl,by omega,rfl,hI,Nat.le_refl _,aL,a1,fun k hk=>⟨(ag k hk).1,(ag k hk).2,fun h=>by cases h⟩,World.ownsRow_nil _ _ _ _,x_i (x_b (x_b bp.out aC.out n3) M n3) b6,ar⟩;clear a1 ag a8 aL M ar;have am:=hD hsys;clear hsys hI;go_loopw [9] (OpenRelE F I w D g bd (w3.heap.size+1) (.slice bo D.bytes.length bc)) (fun i _=>D.bytes.length - (intOf i).toNat)
  ·exact aH.out
  case round=>
   obtain ⟨rest,S,ls,at_,bz,V,lo,lc,rfl,b0,A,Z,ac,aq,bG,an,hst,az,ay,aW,aa⟩:=hrel;have O:=hD ac;clear ac;have aj:=hD aq;clear aq;have ai:=hD an;clear an;have aU:=hD hst;clear hst;have aI:=hD az;clear az;have aG:=hD ay;clear ay;have bh:=hD aW;clear aW;have J:=hD aa;clear aa;subst A;have aK:(at_:Int)≤(D.bytes.length:Int):=(by omega);have bD:=HD.out.ok.size1;have bE:=HD.out.ok.fits;obtain ⟨rest,A⟩:∃ rest,D.bytes.drop at_=rest:=⟨_,rfl⟩;obtain ⟨so,aA⟩:∃ so,(if bc=at_ then bo else bo.map (fun x=>x.add at_))=so:=⟨_,rfl⟩;have aO:rest.length=D.bytes.length - at_:=(by rw [← A,List.length_drop]);have bK:∀ W,(Instr.slice 61 (.slice bo D.bytes.length bc) (some (.int .i64 (at_:Int))) none none).run prog W = .ok (.slice so rest.length (bc - at_)) W:=fun W=>(by rw [run_slice_l W 61 bo D.bytes.length bc (by kernel_rfl) .i64 (at_:Int) (by omega) aK];have h1:(sizeOf (prog.elem 61)).run prog W = .ok 1 W:=(by kernel_rfl);rw [h1];simp only [Result.andThen_ok,sliced,Int.toNat_natCast,Nat.mul_one,aA,aO]);have aN:Rd wr 1 (.slice so rest.length (bc - at_)) rest.length (bcells rest):=(by have:=(x_g bh.out (y_w _)).drop1 at_ b0;rwa [aA,A] at this);rw [A] at Z O;have bq:=hD aN
   have aP:∀ b,(Value.slice so (cutPre rest).length (bc - at_)).ownBlock=some b→(Value.slice bo D.bytes.length bc).ownBlock=some b:=fun b e=>by
    rw [← aA] at e;split at e
    ·cases bo <;> exact e
    ·cases bo with
     | none=>exact e
     | some x=>obtain ⟨xb,xo,xs⟩:=x;simp only [Option.map_some,Addr.add] at e;split at e <;> exact e
   have al:=hD A;clear A aA;have bI:=u_i rest
   have b3:Hid (∀ W,Keep (fun k=>¬ (Value.slice bo D.bytes.length bc).ownBlock=some k) wr W→(convert 61 9 (.slice so (cutPre rest).length (bc - at_))).run prog W = .ok (.string (bs (cutPre rest))) W):=hD fun W hk=>
    convRd ((cutPre_rd aN).keep hk (fun b e h=>h (aP b e)))
   clear aN
   have bt:Hid (∀ W,Keep kF wr W→W.cell? ⟨w3.heap.size+1,1,none⟩=some (.pointer (some ⟨V.b,0,none⟩))∧(convert 61 9 (.slice so (cutPre rest).length (bc - at_))).run prog W = .ok (.string (bs (cutPre rest))) W):=hD fun W hk=>
    ⟨(ai.out.keep hk (fun h=>h)).cell 1,b3.out W (hk.mono (fun _ _ h=>h.elim))⟩
   have ae:Hid (Keep kF wr wr):=hD (Keep.refl _ _);have bJ:rest.length≤D.bytes.length:=(by omega);have b9:=hD aO;clear aO;have aw:ls.length≤D.bytes.length:=(by omega);obtain ⟨ok,bf⟩:∃ ok,(cutNL rest).isSome=ok:=⟨_,rfl⟩;obtain ⟨R,hR⟩:∃ R,doF F S (bs (cutPre rest))=R:=⟨_,rfl⟩;obtain ⟨re,rs,ro⟩:=R;have aF:=hD bf;clear bf;have br:=hD hR;clear hR;cases ok
   ·have HL:=hD (show openF F D g=openEnd D (S,ls,at_) by rw [HF.out,← O.out];rw [u_c Z aF.out]);have HF:=HL;have b1:w.heap.size≤w3.heap.size+1:=(by omega);have aJ:¬ at_ < D.bytes.length:=(by rw [aT.out];simp);have bH:((at_:Int) < (D.bytes.length:Int))=False:=eq_false (by omega);obtain ⟨Y,hY⟩:∃ Y,syncF D=Y:=⟨_,rfl⟩;obtain ⟨se,D2⟩:=Y;have HY:=hD hY;have bn:=hD (show openEnd D (S,ls,at_)=⟨se,D2,S,ls⟩ by unfold openEnd;rw [if_neg aJ];simp only [hY]);clear hY;have b4:se=0:=(by have h:=HY.out;rw [bx.out] at h;exact (congrArg Prod.fst h).symm);subst b4
    go_wp2_with (first
      | (go_at_call 56;have hh:=bcut_any (w:=wr.alloc (.cells #[.int .u8 10] 5)) (b2:=wr.heap.size) ((HG.out.keep J.out).keep ((Keep.refl _ _).alloc _)) rfl (bq.out.keep ((Keep.refl kF _).alloc _) n3) (by rw [World.cell?_alloc_new];rfl) (by omega);refine Calls.mono hh ?_;clear hh;rintro e w' ⟨v2,rfl,q,rfl⟩;rw [aF.out]))
    go_region_held3 (fun W=>W.cell? ⟨w3.heap.size+1,1,none⟩=some (.pointer (some ⟨V.b,0,none⟩))∧(convert 61 9 (.slice so (cutPre rest).length (bc - at_))).run prog W = .ok (.string (bs (cutPre rest))) W) ((refine bt.out _ ?_;exact kX ae.out)) ((go_at_call 53;have kk:=((((Keep.refl kF wr).alloc (.cells #[.int .u8 10] 5)).drewN q).drew);have hh:=do_any (F:=F) (line:=bs (cutPre rest)) ((HG.out.keep J.out).keep kk) (aU.out.keep kk n3) (am.out.small _ _ aw aj.out) (by simp [bs,ByteArray.size];omega) (am.out.run _ _ _ aw aj.out (by simp [bs,ByteArray.size];omega));rw [br.out] at hh;refine Calls.mono hh ?_;clear hh;rintro e W3 ⟨V',rfl,a6,aQ,aV,ao,av⟩;have ae:=hD (kk.trans av n3);have a7:=ai.out.keep ae.out (fun h=>h);have c1:=a7.cell 1;have f1:=a7.free 1;simp at c1;have bg:=hD a7;have bu:=hD a6;have bA:=hD aV;have b7:=hD ao;clear a6 aQ aV ao av kk a7;dsimp only))
    go_wp2_with (first
      | (go_at_call 48;have hh:=sync_any (HD.out.keep (J.out.trans ae.out n3) (fun h=>h) n3);rw [HY.out] at hh;dsimp only at hh;refine Calls.mono hh ?_;clear hh;rintro e W5 ⟨rfl,⟨v2,aX,aY⟩,ba⟩;have bi:=hD aX;have bj:=hD aY;have bl:=hD ba;clear aX aY ba))
    go_ret2;rw [HF.out,bn.out];exact open_fin HD.out hb bg.out (aU.out.keep ae.out n3) aI.out (x_b aG.out ae.out n3) b1 (J.out.trans ae.out n3) bl.out bi.out bj.out
   ·exfalso;have h1:=aF.out;rw [← al.out,aT.out,List.drop_nil] at h1;exact absurd h1 (by decide)
theorem awake_new {w:World} (hG:Glob w):Calls prog 13 #[] w (IdxPost w (.bool true)):=by
 have Y:=disks_any (base:=w.heap.size) (w:=w) 100 (Nat.le_refl _);have HG:=hD hG;clear hG;have al:=hD Y;clear Y;go_enter func13,ntmps13
 go_wp2_with (first
   | (go_at_call 12;refine al.out.mono ?_;rintro e w1 ⟨ai,ad,_⟩;obtain ⟨d,x,rfl,hd,hx,ae,_,_⟩:=ad (by omega);have an:=hD ai;have HD:=hD (show DiskAt w.heap.size w1 d (newD 100) (.slice none 0 0) from hd);have W:=hD ae;clear ai ad hd hx ae)
   | (go_at_call 44;refine path_any.mono ?_;rintro e w2 ⟨rfl,rfl⟩;have hr:=Rd.new w1 1 8 (icells pathG) 3 rfl (x_l _) (by unfold maxLen;omega);have HR:=hD hr;clear hr)
   | (go_at_call 25;have hh:=graph_any (g:=pathG) HR.out (by decide);refine Calls.mono hh ?_;clear hh;rintro e w3 ⟨gv,rfl,ak,U⟩;have X:=hD ak;have G:=hD (((an.out.alloc (.cells (icells pathG).toArray 3)).trans U n3));have J:=hD ((((Keep.refl (fun _=>False) w1).alloc (.cells (icells pathG).toArray 3)).trans U n3));clear ak U)
   | (go_at_call 24;have hh:=open_emp (F:=F0) (I:=fun _ S=>S=S0 pathG) (g:=pathG) (HG.out.keep G.out) rfl rfl (by rfl) (HD.out.keep J.out (fun h=>h) n3) (x_g X.out (x_l _)) (by decide) (fun k e=>(x_d X.out k e).2) G.out.size (fun _=>rfl) sys_empty;rw [open_path] at hh;refine Calls.mono hh ?_;clear hh;rintro e w4 ⟨v4,aq,ag,aj,_,A⟩;obtain ⟨H,rfl,Z,aa,ah,R,O,C⟩:=A rfl;have HH:=hD ah;have M:=hD (G.out.trans (aj.mono (T:=fun k=>w.heap.size≤k) (fun k _ e=>e.elim (fun e=>e ▸ W.out) (fun e=>by cases e))) (fun k hk e=>by omega));have ao:Hid (∀ k,H.tp k→w.heap.size≤k):=hD (fun k hk=>by
       have hz:=G.out.size
       rcases hk with e | e | e | e
       · omega
       · rw [e,Z];exact W.out
       · rw [aa] at e
         rcases ag with h1 | ⟨g,h1,h2⟩
         · rw [h1] at e;cases e
         · have h3:g=k:=Option.some.inj (h1.symm.trans e)
           omega
       · have:=C k e;omega);clear aq ag aj A Z aa ah R O C)
   | (go_at_call 20;have hh:=hdo_any (F:=F0) (s:=bs [116,97,107,101,32,109,97,99,101,32,53]) ((GW.start HG.out).keep M.out (fun i hi e=>by omega)).glob M.out.size HH.out ⟨by simp [openE,S0],by simp [openE,S0],by simp [openE,S0],by simp [openE,S0]⟩ (by simp [openE]) (by decide) run_mace;rw [show hdoF F0 openE.D openE.st openE.ls false (bs [116,97,107,101,32,109,97,99,101,32,53])=_ from do_mace] at hh;refine Calls.mono hh ?_;clear hh;rintro e w5 ⟨H',rfl,_,ac⟩;have am:=hD ac;clear ac))
 go_ret;refine ⟨?_,(M.out.mono (T:=fun k=>w.heap.size≤k) (fun _ _ e=>e.elim)).trans am.out.keep (fun k _ e=>ao.out k e) |>.mono (fun k hk e=>by omega)⟩;show Ending.returned (.bool ((bs [116,97,107,101,32,49]).toList == [116,97,107,101,32,49]))=_;rw [beq_iff_eq.2 ((x_n _ _).2 rfl)]
end Go.Proofs.YthdkamnclbfehaaGreatDoor
