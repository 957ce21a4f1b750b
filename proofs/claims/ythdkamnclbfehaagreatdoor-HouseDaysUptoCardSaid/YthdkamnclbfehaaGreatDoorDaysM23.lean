/- A part of the proof. -/
import Derived.Test.YthdkamnclbfehaaGreatDoorDaysM6
import Derived.StillTailTactics
set_option linter.all false
set_option maxHeartbeats 20000000
namespace Go.Proofs.YthdkamnclbfehaaGreatDoor
open Go.RowKit Tryz
def DiskPost (base:Nat) (w:World) (bd:Nat) (r:Value) (D:Dsk) (v:Value) (e:Ending) (w':World):Prop:=
  e = .returned r∧(∃ v',DiskAt base w' bd D v'∧(v'.ownBlock=v.ownBlock∨∃ g,v'.ownBlock=some g∧w.heap.size≤g))∧
    Keep (fun k=>k=bd∨v.ownBlock=some k) w w'
theorem sync_any {base bd:Nat} {D:Dsk} {v:Value} {w:World} (h:DiskAt base w bd D v):Calls prog 48 #[.pointer (some ⟨bd,0,none⟩)] w (DiskPost base w bd (.int .i64 (syncF D).1) (syncF D).2 v):=by
 obtain ⟨vo,vc,U,_⟩:=x_a h.own;subst U;have l4:=h.ok.size1;have l5:=h.ok.fits;have HD:=hD h;clear h;by_cases M:(onF D).1=true
 ·have hF:syncF D=(0,{ (onF D).2 with safe:=D.bytes.length}):=(by simp [syncF,M]);have HF:=hD hF;clear hF;have R:=hD M;clear M;go_enter func48,ntmps48;go_wp2_with (first | (go_at_call 51;refine (z_f HD.out).mono ?_;rintro e w' ⟨rfl,rfl⟩) | (go_at_call 64;refine (on_any HD.out).mono ?_;rintro e w1 ⟨he,A,J⟩;rw [R.out] at he;subst he;have c4:=A.blk.cell 4;have c3:=A.blk.cell 3;simp at c4 c3;have f3:=A.blk.free 3;have G:=hD A;clear A;have O:=hD J;clear J))
  go_ret;refine ⟨by rw [HF.out];rfl,⟨_,⟨?_,?_,HD.out.ge,HD.out.ne,?_⟩,.inl rfl⟩,?_⟩
  ·rw [HF.out];simpa using G.out.blk.set 3 (.int .i64 D.bytes.length)
  ·rw [HF.out];exact x_e G.out.own _ _ G.out.ne
  ·rw [HF.out];obtain ⟨q1,q2,q3,q4,q5,q6⟩:=G.out.ok;obtain ⟨r1,r2,r3⟩:=z_r D;exact ⟨q1,q2,q3,q4,by simp [r1],q6⟩
  ·exact (O.out.mono (fun _ _ h=>.inl h)).setCell _ _ (fun _=>.inl rfl)
 ·have C:(onF D).1=false:=(by simpa using M);have hF:syncF D=(10,(onF D).2):=(by simp [syncF,C]);have HF:=hD hF;clear hF;have R:=hD C;clear M C;go_enter func48,ntmps48;go_wp2_with (first | (go_at_call 51;refine (z_f HD.out).mono ?_;rintro e w' ⟨rfl,rfl⟩) | (go_at_call 64;refine (on_any HD.out).mono ?_;rintro e w1 ⟨he,A,J⟩;rw [R.out] at he;subst he;have G:=hD A;clear A;have O:=hD J;clear J))
  go_ret;exact ⟨by rw [HF.out];rfl,⟨_,by rw [HF.out];exact G.out,.inl rfl⟩,O.out.mono (fun _ _ h=>.inl h)⟩
def ReadPost (w:World) (D:Dsk) (e:Ending) (w':World):Prop:=
  ∃ v',e = .returned (.tuple #[v',.int .i64 (if D.off then 10 else 0)])∧w'.ownsRow w.heap.size 5 1 v' (if D.off then [] else D.bytes).length (bcells (if D.off then [] else D.bytes))∧Keep kF w w'
theorem read_any {base bd:Nat} {D:Dsk} {v:Value} {w:World} (h:DiskAt base w bd D v):Calls prog 29 #[.pointer (some ⟨bd,0,none⟩)] w (ReadPost w D):=by
 have l4:=h.ok.size1;have l5:=h.ok.fits;have c0:=h.blk.cell 0;have c4:=h.blk.cell 4;simp at c0 c4;have G:=(x_g h.own (y_w _)).src (P:=prog) underlying61;obtain ⟨vo,vc,J,R,O,M,_⟩:=x_a h.own;subst J;have HD:=hD h;clear h M;have HS:=hD G;clear G;have A:D.off=true∨D.off=false:=(by cases D.off <;> simp);rcases A with A | A
 ·rw [A] at c0;have HO:=hD A;clear A;go_enter func29,ntmps29;go_wp2_with (go_at_call 51;refine (z_f HD.out).mono ?_;rintro e w' ⟨rfl,rfl⟩)
  go_ret2;exact ⟨_,by rw [HO.out];rfl,by rw [HO.out];exact World.ownsRow_nil _ _ _ _,Keep.refl _ _⟩
 ·rw [A] at c0;have HO:=hD A;clear A;go_enter func29,ntmps29;go_wp2_with (first | (go_at_call 51;refine (z_f HD.out).mono ?_;rintro e w' ⟨rfl,rfl⟩) | (at_builtin;refine x_h rfl (.const (.slice none 0 0)) (.tmp 16) 61 61 rfl 5 (.int .u8 0) 1 1 underlying61 info5 rfl (World.ownsRow_nil w w.heap.size 5 1) rfl HS.out rfl ?hb1 ?hb2 ?hb3 ?hgo))
  case hb1=>unfold maxLen;omega
  case hb2=>omega
  case hb3=>omega
  case hgo=>
  intro v' w1 C;have HA:=hD C;clear C;go_wp2
  go_ret2;refine ⟨_,by rw [HO.out];rfl,by rw [HO.out];simpa using HA.out.own,HA.out.keep.mono (fun _ _ h=>by cases h)⟩
end Go.Proofs.YthdkamnclbfehaaGreatDoor
namespace Go.Proofs.YthdkamnclbfehaaGreatDoor
open Go.RowKit
end Go.Proofs.YthdkamnclbfehaaGreatDoor
namespace Go.Proofs.YthdkamnclbfehaaGreatDoor
open Go.RowKit Tryz
structure RDiskAt (base:Nat) (w:World) (bd:Nat) (D:Dsk) (v:Value):Prop where
  blk:Blk w bd #[.int .i64 D.size,v,.int .i64 D.safe,.bool D.off,.int .i64 D.left] 98
  own:w.ownsRow base 5 1 v D.bytes.length (bcells D.bytes)
  ge:base≤bd
  ne:v.ownBlock≠some bd
  ok:D.ok
theorem RDiskAt.drewN {base bd:Nat} {D:Dsk} {v:Value} {w:World} (h:RDiskAt base w bd D v) (n:Nat):RDiskAt base (w.drewN n) bd D v:=
  ⟨h.blk,h.own,h.ge,h.ne,h.ok⟩
theorem RDiskAt.keep {base bd:Nat} {D:Dsk} {v:Value} {w w':World} {S:Nat→Prop} (h:RDiskAt base w bd D v) (k:Keep S w w') (h1:¬ S bd) (h2:∀ g,v.ownBlock=some g→¬ S g):RDiskAt base w' bd D v:=
  ⟨h.blk.keep k h1,x_b h.own k h2,h.ge,h.ne,h.ok⟩
def ROnPost (base:Nat) (w:World) (bd:Nat) (D:Dsk) (v:Value) (e:Ending) (w':World):Prop:=
  e = .returned (.bool (onF D).1)∧RDiskAt base w' bd (onF D).2 v∧Keep (fun k=>k=bd) w w'
theorem done_any {base bd:Nat} {D:Dsk} {v:Value} {w:World} (h:RDiskAt base w bd D v):Calls prog 65 #[.pointer (some ⟨bd,0,none⟩)] w (ROnPost base w bd D v):=by
 obtain ⟨off,left,size,safe,bytes⟩:=D;have A:=onF_ok h.ok;obtain ⟨hb,ho,C,J,G⟩:=h;have h3:=hb.cell 3;have h4:=hb.cell 4;have f3:=hb.free 3;have f4:=hb.free 4;have l0:=G.left0;have l1:=G.left1;simp at h3 h4 l0 l1;have HB:=hD hb;clear hb;have HO:=hD ho;clear ho;have HN:=hD J;clear J;have HK:=hD A;clear A;clear G;cases off
 ·by_cases hl:left=0
  ·subst hl;go_enter func65,ntmps65;go_wp2
   go_ret;exact ⟨rfl,⟨by simpa [onF] using HB.out.set 3 (.bool true),x_e HO.out _ _ HN.out,C,HN.out,HK.out⟩,(Keep.refl _ _).setCell _ _ (fun _=>rfl)⟩
  have M:(left == 0)=false:=(by simpa using hl);by_cases hm:left < 0
  ·obtain rfl:left = -1:=(by omega);clear hl hm M;go_enter func65,ntmps65;go_wp2
   go_ret;exact ⟨rfl,⟨by simpa [onF] using HB.out,HO.out,C,HN.out,HK.out⟩,Keep.refl _ _⟩
  ·have hF:onF ⟨false,left,size,safe,bytes⟩=(true,⟨false,left - 1,size,safe,bytes⟩):=(by simp [onF,hl,hm]);have HF:=hD hF;clear hF;have O:1≤left:=(by omega);have R:decide (0 < left)=true:=(by simp;omega);clear hl hm;go_enter func65,ntmps65;go_wp2
   go_ret;refine ⟨by rw [HF.out];rfl,⟨?_,?_,C,HN.out,HK.out⟩,(Keep.refl _ _).setCell _ _ (fun _=>rfl)⟩
   ·rw [HF.out];simpa using HB.out.set 4 (.int .i64 (left - 1))
   ·rw [HF.out];exact x_e HO.out _ _ HN.out
 ·have hF:onF ⟨true,left,size,safe,bytes⟩=(false,⟨true,left,size,safe,bytes⟩):=(by simp [onF]);have HF:=hD hF;clear hF;go_enter func65,ntmps65;go_wp2
  go_ret;refine ⟨by rw [HF.out];rfl,⟨?_,?_,C,HN.out,HK.out⟩,Keep.refl _ _⟩
  ·rw [HF.out];exact HB.out
  ·rw [HF.out];exact HO.out
def RDiskPost (base:Nat) (w:World) (bd:Nat) (r:Value) (D:Dsk) (v:Value) (e:Ending) (w':World):Prop:=
  e = .returned r∧(∃ v',RDiskAt base w' bd D v'∧(v'.ownBlock=v.ownBlock∨∃ g,v'.ownBlock=some g∧w.heap.size≤g))∧
    Keep (fun k=>k=bd∨v.ownBlock=some k) w w'
theorem rsync_any {base bd:Nat} {D:Dsk} {v:Value} {w:World} (h:RDiskAt base w bd D v):Calls prog 49 #[.pointer (some ⟨bd,0,none⟩)] w (RDiskPost base w bd (.int .i64 (syncF D).1) (syncF D).2 v):=by
 obtain ⟨vo,vc,U,_⟩:=x_a h.own;subst U;have l4:=h.ok.size1;have l5:=h.ok.fits;have HD:=hD h;clear h;by_cases M:(onF D).1=true
 ·have hF:syncF D=(0,{ (onF D).2 with safe:=D.bytes.length}):=(by simp [syncF,M]);have HF:=hD hF;clear hF;have R:=hD M;clear M;go_enter func49,ntmps49;go_wp2_with (go_at_call 65;refine (done_any HD.out).mono ?_;rintro e w1 ⟨he,A,J⟩;rw [R.out] at he;subst he;have c1:=A.blk.cell 1;have c2:=A.blk.cell 2;simp at c1 c2;have f2:=A.blk.free 2;have G:=hD A;clear A;have O:=hD J;clear J)
  go_ret;refine ⟨by rw [HF.out];rfl,⟨_,⟨?_,?_,HD.out.ge,HD.out.ne,?_⟩,.inl rfl⟩,?_⟩
  ·rw [HF.out];simpa using G.out.blk.set 2 (.int .i64 D.bytes.length)
  ·rw [HF.out];exact x_e G.out.own _ _ G.out.ne
  ·rw [HF.out];obtain ⟨q1,q2,q3,q4,q5,q6⟩:=G.out.ok;obtain ⟨r1,r2,r3⟩:=z_r D;exact ⟨q1,q2,q3,q4,by simp [r1],q6⟩
  ·exact (O.out.mono (fun _ _ h=>.inl h)).setCell _ _ (fun _=>.inl rfl)
 ·have C:(onF D).1=false:=(by simpa using M);have hF:syncF D=(10,(onF D).2):=(by simp [syncF,C]);have HF:=hD hF;clear hF;have R:=hD C;clear M C;go_enter func49,ntmps49;go_wp2_with (go_at_call 65;refine (done_any HD.out).mono ?_;rintro e w1 ⟨he,A,J⟩;rw [R.out] at he;subst he;have G:=hD A;clear A;have O:=hD J;clear J)
  go_ret;exact ⟨by rw [HF.out];rfl,⟨_,by rw [HF.out];exact G.out,.inl rfl⟩,O.out.mono (fun _ _ h=>.inl h)⟩
theorem rappend_any {base bd:Nat} {D:Dsk} {v x:Value} {w:World} {l:List UInt8} (h:RDiskAt base w bd D v) (hx:Rd w 1 x l.length (bcells l)) (hxd:x.ownBlock≠some bd) (hxl:∀ g,x.ownBlock=some g→g < w.heap.size) (hll:l.length≤140737488355328) (hbase:base≤w.heap.size):Calls prog 32 #[.pointer (some ⟨bd,0,none⟩),x] w (RDiskPost base w bd (.int .i64 (appendF D l).1) (appendF D l).2 v):=by
 have hd:=h;have l4:=h.ok.size1;have l5:=h.ok.fits;have hb:=h.blk;have h0:=hb.cell 0;have h1:=hb.cell 1;simp at h0 h1;obtain ⟨xo,xc,aw,aA,ax,_⟩:=hx.shape;subst aw;obtain ⟨vo,vc,av,_⟩:=x_a h.own;subst av;unfold maxLen at ax;have HD:=hD hd;clear hd;have HX:=hD hx;clear hx;have ar:=hD hxd;clear hxd;have ay:=hD hxl;clear hxl;clear h hb;have e1:IntKind.i64.wrap ((D.bytes.length:Int)+l.length)=(D.bytes.length:Int)+l.length:=IntWalk.i64_in _ (by omega);by_cases C:D.size < D.bytes.length+l.length
 ·have hF:appendF D l=(9,D):=(by simp [appendF,C]);have HF:=hD hF;clear hF;have a6:(D.size:Int) < D.bytes.length+l.length:=(by omega);go_enter func32,ntmps32;go_wp2
  go_quiet (fail)
  go_wp2
  go_ret;exact ⟨by rw [HF.out];rfl,⟨_,by rw [HF.out];exact HD.out.drewN _,.inl rfl⟩,(Keep.refl _ _).drewN _⟩
 ·have al:(D.bytes.length:Int)+l.length≤D.size:=(by omega);by_cases U:(onF D).1=true
  ·have hF:appendF D l=(0,{ (onF D).2 with bytes:=D.bytes++l}):=(by simp [appendF,C,U]);have HF:=hD hF;clear hF;have ac:=hD U;clear U C;have HE:=hD e1;go_enter func32,ntmps32;go_wp2
   go_quiet (fail)
   clear e1;go_wp2_with (first | (go_at_call 65;refine (done_any (HD.out.drewN _)).mono ?_;rintro e w1 ⟨he,G,O⟩;rw [ac.out] at he;subst he;have c1:=G.blk.cell 1;simp at c1;have aj:=G.blk.lt;have M:=hD G;clear G;have a7:w.heap.size≤w1.heap.size:=O.size;have W:=hD O;clear O;have ad:=hD (show w1.ownsRow base 5 1 (.slice vo D.bytes.length vc) D.bytes.length (bcells D.bytes) by have:=M.out.own;rwa [(z_r D).1] at this);have an:=hD (HX.out.keep (S:=fun k=>k=bd) (((Keep.refl _ w).drewN nq).trans W.out n3) (fun b hb e=>ar.out (by rw [hb,e])));have ae:=hD (((x_g ad.out (y_w _)).keep ((Keep.refl kF w1).alloc (.cells #[] 5)) n3).src (P:=prog) underlying61);have aa:=hD (World.ownsRow_made (base:=w1.heap.size) (e:=5) (size:=1) w1 #[] 0 (Nat.le_refl _) (by unfold maxLen;omega) rfl)) | (at_builtin;refine x_h (w:=w1.alloc (.cells #[] 5)) rfl (.tmp 22) (.tmp 26) 61 61 rfl 5 (.int .u8 0) 1 1 underlying61 info5 rfl aa.out rfl ae.out rfl ?hb1 ?hb2 ?hb3 ?hgo))
   case hb1=>unfold maxLen;omega
   case hb2=>omega
   case hb3=>simp
   case hgo=>
   intro v1 w2 A;have Y:Keep kF w1 w2:=((Keep.refl kF w1).alloc (.cells #[] 5)).trans A.keep (fun k hk e=>by have e':w1.heap.size=k:=Option.some.inj e;omega);have a8:w1.heap.size≤w2.heap.size:=Y.size;have aq:=hD ((an.out.keep Y n3).src (P:=prog) underlying61);have HA:=hD A;clear A;have am:=hD Y;clear Y;go_wp2_with (at_builtin;refine x_h (w:=w2) rfl (.tmp 27) (.tmp 28) 61 61 rfl 5 (.int .u8 0) 1 1 underlying61 info5 rfl HA.out.own rfl aq.out rfl ?hb1 ?hb2 ?hb3 ?hgo)
   case hb1=>unfold maxLen;omega
   case hb2=>omega
   case hb3=>omega
   case hgo=>
   intro v2 w3 A;have ak:∀ g,v2.ownBlock=some g→w1.heap.size≤g:=(by intro g hg;exact (A.own.lt g hg).1);have Z:Keep kF w1 w3:=am.out.trans A.keep (fun k hk e=>by have:=(HA.out.own.lt k e).1;omega);obtain ⟨ao,X,au,_⟩:=x_a A.own;have az:=(Z.cell (p:=⟨bd,1,none⟩) aj (fun h=>h)).trans c1;have a1:=(Z.frozen (p:=⟨bd,1,none⟩) aj (fun h=>h)).trans (M.out.blk.free 1);subst au;have HB:=hD A;clear A;have ah:=hD Z;clear Z;have ai:=hD ak;clear ak;go_wp2
   go_ret;have R:(Value.slice ao (D.bytes.length+l.length) X).ownBlock≠some bd:=(by intro e;have:=ai.out _ e;omega);refine ⟨by rw [HF.out];rfl,⟨_,⟨?_,?_,HD.out.ge,R,?_⟩,?_⟩,?_⟩
   ·rw [HF.out];have:=(M.out.blk.keep ah.out (fun h=>h)).set 1 (.slice ao (D.bytes.length+l.length) X);simpa using this
   ·rw [HF.out];have:=x_e HB.out.own ⟨bd,1,none⟩ (.slice ao (D.bytes.length+l.length) X) R;obtain ⟨h1,h2⟩:=this;refine ⟨by simp [y_i],?_⟩;rcases h2 with ⟨h2,h3⟩ | ⟨g,c,cur,h2,h3,h4⟩
    ·exact .inl ⟨by simpa using h2,by simpa using h3⟩
    ·refine .inr ⟨g,c,cur,by simpa using h2,by omega,?_⟩;simpa [bcells_append] using h4
   ·rw [HF.out];obtain ⟨q1,q2,q3,q4,q5,q6⟩:=M.out.ok;obtain ⟨r1,r2,r3⟩:=z_r D;refine ⟨q1,q2,q3,q4,?_,?_⟩
    ·rw [r1] at q5;simp;omega
    ·simp;rw [r2];omega
   ·cases ag:(Value.slice ao (D.bytes.length+l.length) X).ownBlock with
    | none=>
     exfalso;rcases HB.out.fresh with h | ⟨g,h,_⟩
     ·rw [ag] at h;rcases HA.out.fresh with h' | ⟨g,h',_⟩
      ·rw [h'] at h;cases h
      ·rw [h'] at h;cases h
     ·rw [ag] at h;cases h
    | some g=>exact .inr ⟨g,rfl,by have:=ai.out g ag;omega⟩
   ·refine Keep.setCell ?_ _ _ (fun _=>.inl rfl);exact (((Keep.refl _ w).drewN nq).trans W.out (fun _ _ h=>.inl h)).trans ah.out (fun _ _ h=>h.elim)
  ·have J:(onF D).1=false:=(by simpa using U);have hF:appendF D l=(10,(onF D).2):=(by simp [appendF,C,J]);have HF:=hD hF;clear hF;have ac:=hD J;clear U J C;go_enter func32,ntmps32;go_wp2
   go_quiet (fail)
   clear e1;go_wp2_with (go_at_call 65;refine (done_any (HD.out.drewN _)).mono ?_;rintro e w1 ⟨he,G,O⟩;rw [ac.out] at he;subst he;have M:=hD G;clear G;have W:=hD O;clear O)
   go_ret;exact ⟨by rw [HF.out];rfl,⟨_,by rw [HF.out];exact M.out,.inl rfl⟩,((Keep.refl _ w).drewN nq).trans W.out (fun _ _ h=>.inl h)⟩
def newD (n:Nat):Dsk:=⟨false,-1,n,0,[]⟩
def NewPost (base:Nat) (w:World) (n:Int) (e:Ending) (w':World):Prop:=
  (e = .returned (.tuple #[if n < 1∨1000000 < n then .pointer none else .pointer (some ⟨w.heap.size,0,none⟩),.int .i64 (if n < 1∨1000000 < n then 2 else 0)]))∧Keep kF w w'∧
  (1≤n→n≤1000000→w.heap.size < w'.heap.size∧DiskAt base w' w.heap.size (newD n.toNat) (.slice none 0 0))
def RNewPost (base:Nat) (w:World) (n:Int) (e:Ending) (w':World):Prop:=
  (e = .returned (.tuple #[if n < 1∨1000000 < n then .pointer none else .pointer (some ⟨w.heap.size,0,none⟩),.int .i64 (if n < 1∨1000000 < n then 2 else 0)]))∧Keep kF w w'∧
  (1≤n→n≤1000000→w.heap.size < w'.heap.size∧RDiskAt base w' w.heap.size (newD n.toNat) (.slice none 0 0))
theorem newD_ok {n:Nat} (h0:1≤n) (h1:n≤1000000):(newD n).ok:=⟨by simp [newD],by simp [newD],h0,h1,by simp [newD],by simp [newD]⟩
theorem newDisk_any {base:Nat} {w:World} (n:Int) (hb:base≤w.heap.size):Calls prog 42 #[.int .i64 n] w (NewPost base w n):=by
 by_cases h1:n < 1
 ·have HN:=hD h1;go_enter func42,ntmps42;go_wp2
  go_ret2;exact ⟨by simp only [if_pos (show n < 1∨1000000 < n from .inl HN.out)];rfl,Keep.refl _ _,fun h=>by omega⟩
 have A:decide (n < 1)=false:=(by simp;omega);by_cases h2:1000000 < n
 ·go_enter func42,ntmps42;go_wp2
  go_ret2;exact ⟨by simp only [if_pos (show n < 1∨1000000 < n from .inr h2)];rfl,Keep.refl _ _,fun _ h=>by omega⟩
 ·obtain ⟨m,rfl⟩:=Int.eq_ofNat_of_zero_le (show 0≤n by omega);go_enter func42,ntmps42;go_wp2
  go_ret2;refine ⟨by simp only [if_neg (show ¬ ((m:Int) < 1∨1000000 < (m:Int)) by omega)];rfl,(Keep.refl _ _).alloc _,fun _ _=>⟨by simp,Blk.new _ _ _,World.ownsRow_nil _ _ _ _,hb,by simp [Value.ownBlock],newD_ok (by omega) (by omega)⟩⟩
theorem rnewDisk_any {base:Nat} {w:World} (n:Int) (hb:base≤w.heap.size):Calls prog 43 #[.int .i64 n] w (RNewPost base w n):=by
 by_cases h1:n < 1
 ·have HN:=hD h1;go_enter func43,ntmps43;go_wp2
  go_ret2;exact ⟨by simp only [if_pos (show n < 1∨1000000 < n from .inl HN.out)];rfl,Keep.refl _ _,fun h=>by omega⟩
 have A:decide (n < 1)=false:=(by simp;omega);by_cases h2:1000000 < n
 ·go_enter func43,ntmps43;go_wp2
  go_ret2;exact ⟨by simp only [if_pos (show n < 1∨1000000 < n from .inr h2)];rfl,Keep.refl _ _,fun _ h=>by omega⟩
 ·obtain ⟨m,rfl⟩:=Int.eq_ofNat_of_zero_le (show 0≤n by omega);go_enter func43,ntmps43;go_wp2
  go_ret2;refine ⟨by simp only [if_neg (show ¬ ((m:Int) < 1∨1000000 < (m:Int)) by omega)];rfl,(Keep.refl _ _).alloc _,fun _ _=>⟨by simp,Blk.new _ _ _,World.ownsRow_nil _ _ _ _,hb,by simp [Value.ownBlock],newD_ok (by omega) (by omega)⟩⟩
end Go.Proofs.YthdkamnclbfehaaGreatDoor
