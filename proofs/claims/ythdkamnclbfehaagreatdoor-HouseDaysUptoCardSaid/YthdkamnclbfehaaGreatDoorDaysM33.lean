/- A part of the proof. -/
import Derived.Test.YthdkamnclbfehaaGreatDoorDaysM29
import Derived.Test.YthdkamnclbfehaaGreatDoorDaysM32
set_option linter.all false
set_option maxHeartbeats 20000000
set_option maxRecDepth 100000
namespace Go.Proofs.YthdkamnclbfehaaGreatDoor
open Go.RowKit
structure RHV where
  h:Nat
  d:Nat
  v:Value
  bv:Value
  vl:Value
  vc:Value
  vt:Value
  vn:Value
  ln:Value
def RHV.tp (H:RHV) (k:Nat):Prop:=k=H.h∨k=H.d∨H.v.ownBlock=some k
def RHV.fp (H:RHV) (k:Nat):Prop:=H.vl.ownBlock=some k∨H.vc.ownBlock=some k∨H.vt.ownBlock=some k∨H.vn.ownBlock=some k∨H.ln.ownBlock=some k
structure RHouseAt (base:Nat) (w:World) (H:RHV) (D:Dsk) (S:St) (ls:List ByteArray):Prop where
  blk:Blk w H.h #[.pointer (some ⟨H.d,0,none⟩),H.bv,H.vl,H.vc,H.vt,H.vn,H.ln,.bool false] 76
  disk:RDiskAt base w H.d D H.v
  rows:RRows base w H.vl H.vc H.vt H.vn H.ln S ls
  ge:base≤H.h
  bays:Rd w 1 H.bv S.bays.length (icells S.bays)
  low:∀ k,H.bv.ownBlock=some k→k < base
theorem RRows.keepT {base:Nat} {w w':World} {H:RHV} {S:St} {ls:List ByteArray} (h:RRows base w H.vl H.vc H.vt H.vn H.ln S ls) {T:Nat→Prop} (k:Keep T w w') (hT:∀ b,H.fp b→¬ T b):RRows base w' H.vl H.vc H.vt H.vn H.ln S ls:=
  ⟨x_b h.l k (fun b e=>hT b (.inl e)),x_b h.c k (fun b e=>hT b (.inr (.inl e))),x_b h.t k (fun b e=>hT b (.inr (.inr (.inl e)))),x_b h.n k (fun b e=>hT b (.inr (.inr (.inr (.inl e))))),
    x_b h.lr k (fun b e=>hT b (.inr (.inr (.inr (.inr e))))),h.sep⟩
theorem RHouseAt.keep {T:Nat→Prop} {base:Nat} {w w':World} {H:RHV} {D:Dsk} {S:St} {ls:List ByteArray} (h:RHouseAt base w H D S ls) (k:Keep T w w') (h1:∀ i,H.tp i→¬ T i) (h2:∀ i,H.fp i→¬ T i) (h3:∀ i,T i→base≤i):RHouseAt base w' H D S ls:=
  ⟨h.blk.keep k (h1 _ (.inl rfl)),h.disk.keep k (h1 _ (.inr (.inl rfl))) (fun g e=>h1 g (.inr (.inr e))),h.rows.keepT k h2,h.ge,h.bays.keep k (fun i e q=>by have:=h.low i e;have:=h3 i q;omega),h.low⟩
theorem RHouseAt.idle {base:Nat} {w w':World} {H:RHV} {D:Dsk} {S:St} {ls:List ByteArray} (h:RHouseAt base w H D S ls) (k:Keep kF w w'):RHouseAt base w' H D S ls:=
  h.keep k n3 n3 (fun _ e=>e.elim)
theorem RHouseAt.tp_ge {base:Nat} {w:World} {H:RHV} {D:Dsk} {S:St} {ls:List ByteArray} (h:RHouseAt base w H D S ls):∀ k,H.tp k→base≤k:=fun k hk=>by
  rcases hk with e | e | e
  · rw [e];exact h.ge
  · rw [e];exact h.disk.ge
  · exact (x_d h.disk.own k e).1
theorem RHouseAt.tp_lt {base:Nat} {w:World} {H:RHV} {D:Dsk} {S:St} {ls:List ByteArray} (h:RHouseAt base w H D S ls):∀ k,H.tp k→k < w.heap.size:=fun k hk=>by
  rcases hk with e | e | e
  · rw [e];exact h.blk.lt
  · rw [e];exact h.disk.blk.lt
  · exact (x_d h.disk.own k e).2
theorem RHouseAt.fp_lt {base:Nat} {w:World} {H:RHV} {D:Dsk} {S:St} {ls:List ByteArray} (h:RHouseAt base w H D S ls):∀ k,H.fp k→k < w.heap.size:=fun k hk=>by
  rcases hk with e | e | e | e | e
  · exact (x_d h.rows.l k e).2
  · exact (x_d h.rows.c k e).2
  · exact (x_d h.rows.t k e).2
  · exact (x_d h.rows.n k e).2
  · exact (x_d h.rows.lr k e).2
theorem RHouseAt.apart {base:Nat} {w:World} {H:RHV} {D:Dsk} {S:St} {ls:List ByteArray} (h:RHouseAt base w H D S ls):∀ k,H.fp k→¬ H.tp k:=fun k hk e=>by
  have hr:=h.rows
  have hd:=h.disk
  rcases e with e | e | e
  · rcases hk with q | q | q | q | q
    · exact x_c hr.l h.blk (by decide) (e ▸ q)
    · exact x_c hr.c h.blk (by decide) (e ▸ q)
    · exact x_c hr.t h.blk (by decide) (e ▸ q)
    · exact x_c hr.n h.blk (by decide) (e ▸ q)
    · exact x_c hr.lr h.blk (by decide) (e ▸ q)
  · rcases hk with q | q | q | q | q
    · exact x_c hr.l hd.blk (by decide) (e ▸ q)
    · exact x_c hr.c hd.blk (by decide) (e ▸ q)
    · exact x_c hr.t hd.blk (by decide) (e ▸ q)
    · exact x_c hr.n hd.blk (by decide) (e ▸ q)
    · exact x_c hr.lr hd.blk (by decide) (e ▸ q)
  · rcases hk with q | q | q | q | q
    · exact x_f hr.l hd.own (by decide) k q e
    · exact x_f hr.c hd.own (by decide) k q e
    · exact x_f hr.t hd.own (by decide) k q e
    · exact x_f hr.n hd.own (by decide) k q e
    · exact x_f hr.lr hd.own (by decide) k q e
structure RHChg (w:World) (H H':RHV) (w':World):Prop where
  h:H'.h=H.h
  d:H'.d=H.d
  tp:∀ k,H'.tp k→H.tp k∨w.heap.size≤k
  fp:∀ k,H'.fp k→H.fp k∨w.heap.size≤k
  keep:Keep H.tp w w'
theorem RHChg.refl (w:World) (H:RHV):RHChg w H H w:=⟨rfl,rfl,fun _ h=>.inl h,fun _ h=>.inl h,Keep.refl _ _⟩
theorem RHChg.trans {w w1 w2:World} {H H1 H2:RHV} (a:RHChg w H H1 w1) (b:RHChg w1 H1 H2 w2):RHChg w H H2 w2:=
  ⟨b.h.trans a.h,b.d.trans a.d,fun k hk=>(b.tp k hk).elim (a.tp k) (fun e=>.inr (Nat.le_trans a.keep.size e)),fun k hk=>(b.fp k hk).elim (a.fp k) (fun e=>.inr (Nat.le_trans a.keep.size e)),
   a.keep.trans b.keep (fun k hk e=>(a.tp k e).elim id (fun e'=>absurd hk (by omega)))⟩
theorem RHChg.idle {w w':World} (H:RHV) (k:Keep kF w w'):RHChg w H H w':=⟨rfl,rfl,fun _ h=>.inl h,fun _ h=>.inl h,k.mono (fun _ _ h=>h.elim)⟩
theorem RHouseAt.onDisk {base:Nat} {w w':World} {H:RHV} {D D':Dsk} {S:St} {ls:List ByteArray} {v':Value} (h:RHouseAt base w H D S ls) (k:Keep (fun k=>k=H.d∨H.v.ownBlock=some k) w w') (hd:RDiskAt base w' H.d D' v') (hf:v'.ownBlock=H.v.ownBlock∨∃ g,v'.ownBlock=some g∧w.heap.size≤g):RHouseAt base w' {H with v:=v' } D' S ls∧RHChg w H {H with v:=v' } w':=by
 have A:∀ i,H.fp i→¬ (i=H.d∨H.v.ownBlock=some i):=fun i hi e=>h.apart i hi (.inr e);refine ⟨⟨h.blk.keep k (fun e=>e.elim (fun e=>h.blk.types h.disk.blk (by decide) e) (fun e=>x_c h.disk.own h.blk (by decide) e)),hd,h.rows.keepT k A,h.ge,h.bays.keep k (fun i e q=>?_),h.low⟩,rfl,rfl,fun i hi=>?_,fun _ h=>.inl h,k.mono (fun i _ e=>.inr e)⟩
 ·have h1:=h.low i e;have h2:=h.tp_ge i (.inr q);omega
 ·rcases hi with e | e | e
  ·exact .inl (.inl e)
  ·exact .inl (.inr (.inl e))
  ·have e':v'.ownBlock=some i:=e;rcases hf with h1 | ⟨g,h1,h2⟩
   ·exact .inl (.inr (.inr (h1 ▸ e')))
   ·have h3:g=i:=Option.some.inj (h1.symm.trans e');exact .inr (by omega)
theorem RHouseAt.setH {base:Nat} {w:World} {H:RHV} {D:Dsk} {S:St} {ls:List ByteArray} (h:RHouseAt base w H D S ls) (o:Nat) (u:Value) :
    Keep (fun k=>k=H.h) w (w.setCell ⟨H.h,o,none⟩ u):=(Keep.refl _ _).setCell _ _ (fun _=>rfl)
theorem RHouseAt.setNow {base b:Nat} {w:World} {H:RHV} {D:Dsk} {S S':St} {ls:List ByteArray} {ul uc ut un:Value} {nb:Nat} (h:RHouseAt base w H D S ls) (hb:base≤b) (ho:RO b w nb ul uc ut un S') (hl:∀ k,H.ln.ownBlock=some k→k < b) (hbay:S'.bays=S.bays) :
    RHouseAt base ((((w.setCell ⟨H.h,2,none⟩ ul).setCell ⟨H.h,3,none⟩ uc).setCell ⟨H.h,4,none⟩ ut).setCell ⟨H.h,5,none⟩ un) {H with vl:=ul,vc:=uc,vt:=ut,vn:=un} D S' ls∧
      Keep (fun k=>k=H.h) w ((((w.setCell ⟨H.h,2,none⟩ ul).setCell ⟨H.h,3,none⟩ uc).setCell ⟨H.h,4,none⟩ ut).setCell ⟨H.h,5,none⟩ un):=by
  have hk:Keep (fun k=>k=H.h) w ((((w.setCell ⟨H.h,2,none⟩ ul).setCell ⟨H.h,3,none⟩ uc).setCell ⟨H.h,4,none⟩ ut).setCell ⟨H.h,5,none⟩ un):=
    ((((Keep.refl (fun k=>k=H.h) w).setCell _ _ (fun _=>rfl)).setCell _ _ (fun _=>rfl)).setCell _ _ (fun _=>rfl)).setCell _ _ (fun _=>rfl)
  refine ⟨⟨?_,h.disk.keep hk (fun e=>h.blk.types h.disk.blk (by decide) e.symm) (fun g hg e=>x_c h.disk.own h.blk (by decide) (e ▸ hg)),?_,h.ge,?_,h.low⟩,hk⟩
  · have:=(((h.blk.set 2 ul).set 3 uc).set 4 ut).set 5 un
    simpa using this
  · refine ⟨x_i (x_b ho.l hk (fun k e q=>x_c ho.l h.blk (by decide) (q ▸ e))) hb,x_i (x_b ho.c hk (fun k e q=>x_c ho.c h.blk (by decide) (q ▸ e))) hb,x_i (x_b ho.t hk (fun k e q=>x_c ho.t h.blk (by decide) (q ▸ e))) hb,
      x_i (x_b ho.n hk (fun k e q=>x_c ho.n h.blk (by decide) (q ▸ e))) hb,x_b h.rows.lr hk (fun k e q=>x_c h.rows.lr h.blk (by decide) (q ▸ e)),fun k e q=>?_⟩
    have h1:=hl k q
    have h2:=(x_d ho.n k e).1
    omega
  · rw [hbay]
    exact h.bays.keep hk (fun i e q=>by have:=h.low i e;have:=h.ge;omega)
theorem RHouseAt.setLines {base b:Nat} {w:World} {H:RHV} {D:Dsk} {S:St} {ls ls':List ByteArray} {ln:Value} (h:RHouseAt base w H D S ls) (hb:base≤b) (ho:w.ownsRow b 9 1 ln ls'.length (strCells ls')) (hl:∀ k,H.vn.ownBlock=some k→k < b):RHouseAt base (w.setCell ⟨H.h,6,none⟩ ln) {H with ln:=ln} D S ls'∧Keep (fun k=>k=H.h) w (w.setCell ⟨H.h,6,none⟩ ln):=by
 have hk:=h.setH 6 ln;have hr:=h.rows;refine ⟨⟨?_,h.disk.keep hk (fun e=>h.blk.types h.disk.blk (by decide) e.symm) (fun g hg e=>x_c h.disk.own h.blk (by decide) (e ▸ hg)),?_,h.ge,?_,h.low⟩,hk⟩
 ·have:=h.blk.set 6 ln;simpa using this
 ·refine ⟨x_b hr.l hk (fun k e q=>x_c hr.l h.blk (by decide) (q ▸ e)),x_b hr.c hk (fun k e q=>x_c hr.c h.blk (by decide) (q ▸ e)),x_b hr.t hk (fun k e q=>x_c hr.t h.blk (by decide) (q ▸ e)),x_b hr.n hk (fun k e q=>x_c hr.n h.blk (by decide) (q ▸ e)),x_i (x_b ho hk (fun k e q=>x_c ho h.blk (by decide) (q ▸ e))) hb,fun k e q=>?_⟩;have h1:=hl k e;have h2:=(x_d ho k q).1;omega
 ·exact h.bays.keep hk (fun i e q=>by have:=h.low i e;have:=h.ge;omega)
structure Duo (w:World) (n:Nat) (H:HV) (Q:RHV) (S:St) (ls:List ByteArray) (wx:World):Prop where
  h1:HouseAt w.heap.size wx H (gN n ls) S ls false
  h2:RHouseAt w.heap.size wx Q (gN n ls) S ls
  f1:∀ k,H.V.fp k→w.heap.size≤k
  ap:∀ k,H.tp k→¬ Q.tp k∧¬ Q.fp k
  pa:∀ k,Q.tp k→¬ H.V.fp k
  keep:Keep kF w wx
theorem Duo.idle {w:World} {n:Nat} {H:HV} {Q:RHV} {S:St} {ls:List ByteArray} {wx wy:World} (h:Duo w n H Q S ls wx) (k:Keep kF wx wy):Duo w n H Q S ls wy:=
  ⟨h.h1.idle k,h.h2.idle k,h.f1,h.ap,h.pa,h.keep.trans k n3⟩
theorem Duo.p {w:World} {n:Nat} {H H':HV} {Q:RHV} {S:St} {ls:List ByteArray} {wx wy:World} (h:Duo w n H Q S ls wx) (c:HChg wx H H' wy):RHouseAt w.heap.size wy Q (gN n ls) S ls∧(∀ k,H'.V.fp k→w.heap.size≤k)∧(∀ k,H'.tp k→¬ Q.tp k∧¬ Q.fp k)∧(∀ k,Q.tp k→¬ H'.V.fp k)∧Keep kF w wy:=by
 refine ⟨h.h2.keep c.keep (fun i hi e=>(h.ap i e).1 hi) (fun i hi e=>(h.ap i e).2 hi) (fun i e=>h.h1.tp_ge i e),fun k hk=>(c.fp k hk).elim (h.f1 k) (fun e=>Nat.le_trans h.keep.size e),fun k hk=>?_,fun k hk e=>?_,h.keep.trans c.keep (fun k hk e=>by have:=h.h1.tp_ge k e;omega)⟩
 ·rcases c.tp k hk with e | e
  ·exact h.ap k e
  ·exact ⟨fun t=>by have:=h.h2.tp_lt k t;omega,fun t=>by have:=h.h2.fp_lt k t;omega⟩
 ·rcases c.fp k e with e' | e'
  ·exact h.pa k hk e'
  ·have:=h.h2.tp_lt k hk;omega
theorem Duo.step {w:World} {n:Nat} {H H':HV} {Q Q':RHV} {S S':St} {ls ls':List ByteArray} {wx wy wz:World} (h:Duo w n H Q S ls wx) (c:HChg wx H H' wy) (h1:HouseAt w.heap.size wy H' (gN n ls') S' ls' false) (c2:RHChg wy Q Q' wz) (h2:RHouseAt w.heap.size wz Q' (gN n ls') S' ls'):Duo w n H' Q' S' ls' wz:=by
 obtain ⟨p1,p2,p3,p4,p5⟩:=h.p c;refine ⟨h1.keep c2.keep (fun i hi e=>(p3 i hi).1 e) (fun i hi e=>p4 i e hi),h2,p2,fun k hk=>⟨fun e=>?_,fun e=>?_⟩,fun k hk e=>?_,p5.trans c2.keep (fun k hk e=>by have:=p1.tp_ge k e;omega)⟩
 ·rcases c2.tp k e with q | q
  ·exact (p3 k hk).1 q
  ·have:=h1.tp_lt k hk;omega
 ·rcases c2.fp k e with q | q
  ·exact (p3 k hk).2 q
  ·have:=h1.tp_lt k hk;omega
 ·rcases c2.tp k hk with q | q
  ·exact p4 k q e
  ·have:=h1.fp_lt k e;omega
end Go.Proofs.YthdkamnclbfehaaGreatDoor
namespace Go.Proofs.YthdkamnclbfehaaGreatDoor
open Go.RowKit Tryz
def RHDoPost (base:Nat) (w:World) (H:RHV) (r:HRes) (e:Ending) (w':World):Prop:=
  ∃ H',e = .returned (.tuple #[.string r.out,.bool false,.int .i64 r.err])∧RHouseAt base w' H' r.D r.st r.ls∧RHChg w H H' w'
theorem RHChg.tail {w w1 w2:World} {H H1 H2:RHV} (a:RHChg w H H1 w1) (h:H2.h=H1.h) (d:H2.d=H1.d) (v:H2.v=H1.v) (fp:∀ k,H2.fp k→w.heap.size≤k) (k:Keep (fun k=>k=H1.h) w1 w2):RHChg w H H2 w2:=by
 refine ⟨h.trans a.h,d.trans a.d,fun i hi=>a.tp i ?_,fun i hi=>.inr (fp i hi),a.keep.trans k (fun i _ e=>?_)⟩
 ·rcases hi with e | e | e
  ·exact .inl (e.trans h)
  ·exact .inr (.inl (e.trans d))
  ·exact .inr (.inr (v ▸ e))
 ·exact .inl (e.trans a.h)
theorem RO.low {b b' nb:Nat} {w:World} {ul uc ut un:Value} {S:St} (hb:b≤b') (h:RO b' w nb ul uc ut un S):RO b w nb ul uc ut un S:=
  ⟨Nat.le_trans hb h.ge,h.blk,x_i h.l hb,x_i h.c hb,x_i h.t hb,x_i h.n hb⟩
theorem RO.keepD {b base d nb:Nat} {w w':World} {D:Dsk} {v ul uc ut un:Value} {S:St} (h:RO b w nb ul uc ut un S) (hd:RDiskAt base w d D v) (k:Keep (fun k=>k=d∨v.ownBlock=some k) w w'):RO b w' nb ul uc ut un S:=
  ⟨h.ge,h.blk.keep k (fun e=>e.elim (fun e=>h.blk.types hd.blk (by decide) e) (fun e=>x_c hd.own h.blk (by decide) e)),
    x_b h.l k (fun i e q=>q.elim (fun q=>x_c h.l hd.blk (by decide) (q ▸ e)) (fun q=>x_f h.l hd.own (by decide) i e q)),
    x_b h.c k (fun i e q=>q.elim (fun q=>x_c h.c hd.blk (by decide) (q ▸ e)) (fun q=>x_f h.c hd.own (by decide) i e q)),
    x_b h.t k (fun i e q=>q.elim (fun q=>x_c h.t hd.blk (by decide) (q ▸ e)) (fun q=>x_f h.t hd.own (by decide) i e q)),
    x_b h.n k (fun i e q=>q.elim (fun q=>x_c h.n hd.blk (by decide) (q ▸ e)) (fun q=>x_f h.n hd.own (by decide) i e q))⟩
theorem Blk.keepD {base d i:Nat} {c:Array Value} {w w':World} {D:Dsk} {v:Value} (h:Blk w i c 74) (hd:RDiskAt base w d D v) (k:Keep (fun k=>k=d∨v.ownBlock=some k) w w'):Blk w' i c 74:=
  h.keep k (fun e=>e.elim (fun e=>h.types hd.blk (by decide) e) (fun e=>x_c hd.own h (by decide) e))
theorem RHouseAt.past {base:Nat} {w w':World} {H:RHV} {D:Dsk} {S:St} {ls:List ByteArray} (h:RHouseAt base w H D S ls) (hb:base≤w.heap.size) (k:Keep (fun i=>w.heap.size≤i) w w'):RHouseAt base w' H D S ls:=
  h.keep k (fun i hi e=>by have:=h.tp_lt i hi;omega) (fun i hi e=>by have:=h.fp_lt i hi;omega) (fun i e=>by omega)
theorem rhdo_any {base n m:Nat} {w:World} {Q:RHV} {S:St} {ls:List ByteArray} {s:ByteArray} (hG:Glob w) (hb:base≤w.heap.size) (h:RHouseAt base w Q (gN n ls) S ls) (hI:Inv m S) (hm:m≤1000000) (hs:s.size≤1048576) (hls:ls.length≤1000000) (hn:(cat ls).length+201≤n):Calls prog 40 #[.pointer (some ⟨Q.h,0,none⟩),.string s] w (RHDoPost base w Q (hdoF runF (gN n ls) S ls false s)):=by
 obtain ⟨qh,qd,qv,qb,ql,qc,qt,qn,qs⟩:=Q;have au:=v_e (S:=S) hn s;have aZ:Hid (∀ W,Keep kF w W→Calls prog 67 #[qb,.agg #[ql,qc,qt,qn],.string s] W (RDoPost W (doF runF S s))):=hD fun W hk=>rdo_any (hG.keep hk) (h.bays.keep hk n3) (h.rows.st.keep hk) hI hm hs;obtain ⟨bo,bc,b8,_⟩:=h.bays.shape;obtain ⟨lo,lc,hle,_⟩:=x_a h.rows.l;obtain ⟨co,cc,bB,_⟩:=x_a h.rows.c;obtain ⟨to_,tc,bM,_⟩:=x_a h.rows.t;obtain ⟨no,nc,bI,_⟩:=x_a h.rows.n;obtain ⟨so,sc,bK,_⟩:=x_a h.rows.lr;simp only at b8 hle bB bM bI bK;subst b8 hle bB bM bI bK;have b0:=h.blk.cell 0;have b1:=h.blk.cell 1;have b2:=h.blk.cell 2;have b3:=h.blk.cell 3;have b4:=h.blk.cell 4;have b5:=h.blk.cell 5;have b7:=h.blk.cell 7;simp at b0 b1 b2 b3 b4 b5 b7;have HH:=hD h;have cv:=hD hG;have aw:=doF_bays S s;have al:(doF runF S s).err=0→s.size≤200:=fun e=>doF_size e;clear h hG;obtain ⟨R,hR⟩:∃ R,doF runF S s=R:=⟨_,rfl⟩;rw [hR] at au aw al;rw [hR] at aZ;have aY:=hD aw;clear hR aw;obtain ⟨re,rs,ro⟩:=R;have ao:Hid (∀ W,Keep kF w W→W.cell? ⟨qh,1,none⟩=some (.slice bo S.bays.length bc)∧W.cell? ⟨qh,2,none⟩=some (.slice lo S.lots.length lc)∧W.cell? ⟨qh,3,none⟩=some (.slice co S.contacts.length cc)∧W.cell? ⟨qh,4,none⟩=some (.slice to_ S.tests.length tc)∧W.cell? ⟨qh,5,none⟩=some (.slice no S.notes.length nc)):=hD fun W hk=>(by have hb:=HH.out.blk.keep hk (fun e=>e);have b1:=hb.cell 1;have b2:=hb.cell 2;have b3:=hb.cell 3;have b4:=hb.cell 4;have b5:=hb.cell 5;simp at b1 b2 b3 b4 b5;exact ⟨b1,b2,b3,b4,b5⟩);go_enter func40,ntmps40;go_upto_region 3 with fail
 rename_i K9 ck;clear b0 b1 b2 b3 b4 b5;go_cut [7,8,9] from 14 to 27 (fun s7 s8 s9 wx=>∃ b1 ul uc ut un,s7 = .pointer (some ⟨b1,0,none⟩)∧s8 = .string ro∧s9 = .int .i64 re∧Blk wx b1 #[ul,uc,ut,un] 74∧Keep (fun _=>False) w wx∧(re=0→∃ nb,RO w.heap.size wx nb ul uc ut un rs))
 case first=>
  rename_i Jq Kq cj cn;refine x_m fun Q1 hQ1=>?_;have bW:=hD hQ1;clear hQ1;refine wp_region_noPanic ?_;refine wp_region_held_drew (S:=(fun W=>W.cell? ⟨qh,1,none⟩=some (.slice bo S.bays.length bc)∧W.cell? ⟨qh,2,none⟩=some (.slice lo S.lots.length lc)∧W.cell? ⟨qh,3,none⟩=some (.slice co S.contacts.length cc)∧W.cell? ⟨qh,4,none⟩=some (.slice to_ S.tests.length tc)∧W.cell? ⟨qh,5,none⟩=some (.slice no S.notes.length nc))) (by kernel_rfl) (ao.out _ ((Keep.refl _ _).drew)) fun hHeld=>?_;refine wL fun ac0 Z0=>?_;have HS:Hid (ac0.tmps.size=71):=hD (by rw [Z0.out];kernel_rfl);have e0:ac0.tmps[0]?.getD undef = .pointer (some ⟨qh,0,none⟩):=(by rw [Z0.out];kernel_rfl);have e1:ac0.tmps[1]?.getD undef = .string s:=(by rw [Z0.out];kernel_rfl);refine wU 0 HS fun ac1 Z1 M HS=>?_;obtain ⟨e0,e1⟩:=p2 Z1 e0 e1;refine wU 1 HS fun ac2 Z2 X HS=>?_;obtain ⟨e0,e1,M⟩:=p3 Z2 e0 e1 M;refine wU 2 HS fun ac3 Z3 Y HS=>?_;obtain ⟨e0,e1,M,X⟩:=p4 Z3 e0 e1 M X;refine wU 3 HS fun ac4 Z4 A HS=>?_;obtain ⟨e0,e1,M,X,Y⟩:=p5 Z4 e0 e1 M X Y;refine wU 4 HS fun ac5 Z5 ai HS=>?_;obtain ⟨e0,e1,M,X,Y,A⟩:=p6 Z5 e0 e1 M X Y A;refine wU 5 HS fun ac6 Z6 aq HS=>?_;obtain ⟨e0,e1,M,X,Y⟩:=p5 Z6 e0 e1 M X Y;obtain ⟨A,ai⟩:=p2 Z6 A ai;refine wU 6 HS fun ac7 Z7 aM HS=>?_;obtain ⟨e0,e1,M,X,Y,A⟩:=p6 Z7 e0 e1 M X Y A;obtain ⟨ai,aq⟩:=p2 Z7 ai aq;refine wU 7 HS fun ac8 Z8 G HS=>?_;obtain ⟨e0,e1,M,X,Y,A⟩:=p6 Z8 e0 e1 M X Y A;obtain ⟨ai,aq,aM⟩:=p3 Z8 ai aq aM;refine wU 8 HS fun ac9 Z9 O HS=>?_;obtain ⟨e0,e1,M,X,Y,A⟩:=p6 Z9 e0 e1 M X Y A;obtain ⟨ai,aq,aM,G⟩:=p4 Z9 ai aq aM G;clear M;clear X;clear Y;clear ai;clear aq;clear aM;refine wR (rs:=[9,14]) ?_;refine AllReadyH.cons (o:=_) rfl (fun K hK=>?_) (AllReadyH.cons (o:=_) rfl (fun K hK=>?_) AllReadyH.nil)
  focus
   go_simp;refine Calls.mono (aZ.out _ ((Keep.refl kF w).drew)) ?_;rintro e wq ⟨ul,uc,ut,un,rfl,hst,aD,Z⟩;obtain ⟨a7,a6,rfl,_⟩:=hst.l.shape;obtain ⟨a1,az,rfl,_⟩:=hst.c.shape;obtain ⟨aC,aB,rfl,_⟩:=hst.t.shape;obtain ⟨aA,a8,rfl,_⟩:=hst.n.shape;have an:Hid (Keep kF w wq):=hD (((Keep.refl kF w).drew).trans aD n3);have bg:=hD Z;clear hst aD Z;(try dsimp only);refine hK.out _ _ ?_ fun hHeld=>?_
   ·exact ao.out _ an.out
  rotate_left
  focus
   go_simp;refine hK.out _ _ ?_ fun hHeld=>?_
   ·exact ao.out _ (((Keep.refl _ _).drew).alloc _)
  rotate_left
  all_goals
   clear hK K;refine wL fun ac10 Z10=>?_;obtain ⟨e0,e1,A,G⟩:=p4 Z10 e0 e1 A G;replace O:=po Z10 O
  focus
   have C:=pA Z10 HS;replace HS:=pS Z10 HS;refine wt 10 ?_
  rotate_left
  focus
   have e7:=pA Z10 HS;replace HS:=pS Z10 HS;refine wA 9 fun K hK=>?_;go_simp;refine Calls.mono (aZ.out _ (((Keep.refl kF w).drew).alloc (.cells #[.slice none 0 0,.slice none 0 0,.slice none 0 0,.slice none 0 0] 74))) ?_;rintro e wq ⟨ul,uc,ut,un,rfl,hst,aD,Z⟩;obtain ⟨a7,a6,rfl,_⟩:=hst.l.shape;obtain ⟨a1,az,rfl,_⟩:=hst.c.shape;obtain ⟨aC,aB,rfl,_⟩:=hst.t.shape;obtain ⟨aA,a8,rfl,_⟩:=hst.n.shape;have an:Hid (Keep kF w wq):=hD ((((Keep.refl kF w).drew).alloc (.cells #[.slice none 0 0,.slice none 0 0,.slice none 0 0,.slice none 0 0] 74)).trans aD n3);have bg:=hD Z;have ah:Blk wq w.heap.size #[.slice none 0 0,.slice none 0 0,.slice none 0 0,.slice none 0 0] 74:=(Blk.new (w.drew) #[.slice none 0 0,.slice none 0 0,.slice none 0 0,.slice none 0 0] 74).keep aD (fun e=>e);have z0:=ah.cell 0;have z1:=ah.cell 1;have z2:=ah.cell 2;have z3:=ah.cell 3;simp at z0 z1 z2 z3;have y0:=ah.free 0;have y1:=ah.free 1;have y2:=ah.free 2;have y3:=ah.free 3;have bP:=hD ah;clear hst aD Z ah;(try dsimp only);refine hK.out _ _ ?_ fun hHeld=>?_
   ·exact ao.out _ an.out
   clear hK K
  rotate_left
  all_goals
   refine wL fun ac11 Z11=>?_;obtain ⟨e0,e1,A,G⟩:=p4 Z11 e0 e1 A G;replace O:=po Z11 O
  focus
   replace C:=po Z11 C;have U:=pA Z11 HS;replace HS:=pS Z11 HS;refine wt 11 ?_
  rotate_left
  focus
   replace e7:=po Z11 e7;have C:=pA Z11 HS;replace HS:=pS Z11 HS;refine wt 10 ?_
  rotate_left
  all_goals
   refine wL fun ac12 Z12=>?_;obtain ⟨e0,e1,A,G⟩:=p4 Z12 e0 e1 A G;replace O:=po Z12 O
  focus
   obtain ⟨C,U⟩:=p2 Z12 C U;have ac:=pA Z12 HS;replace HS:=pS Z12 HS;refine wt 12 ?_
  rotate_left
  focus
   obtain ⟨e7,C⟩:=p2 Z12 e7 C;have U:=pA Z12 HS;replace HS:=pS Z12 HS;refine wt 11 ?_
  rotate_left
  all_goals
   refine wL fun ac13 Z13=>?_;obtain ⟨e0,e1,A,G⟩:=p4 Z13 e0 e1 A G;replace O:=po Z13 O
  focus
   obtain ⟨C,U,ac⟩:=p3 Z13 C U ac;have aj:=pA Z13 HS;replace HS:=pS Z13 HS;refine wt 13 ?_
  rotate_left
  focus
   obtain ⟨e7,C,U⟩:=p3 Z13 e7 C U;have ac:=pA Z13 HS;replace HS:=pS Z13 HS;refine wt 12 ?_
  rotate_left
  all_goals
   refine wL fun ac14 Z14=>?_;obtain ⟨e0,e1,A,G⟩:=p4 Z14 e0 e1 A G;replace O:=po Z14 O
  rotate_left
  focus
   replace e7:=po Z14 e7
  rotate_left
  all_goals
   obtain ⟨C,U⟩:=p2 Z14 C U;replace ac:=po Z14 ac
  focus
   replace aj:=po Z14 aj;have ar:=pA Z14 HS;replace HS:=pS Z14 HS;refine wA 14 fun K hK=>?_;go_simp;refine hK.out _ _ ?_ fun hHeld=>?_
   ·exact ao.out _ (an.out.alloc _)
   clear hK K
  rotate_left
  focus
   have aj:=pA Z14 HS;replace HS:=pS Z14 HS;refine wt 13 ?_
  rotate_left
  all_goals
   refine wL fun ac15 Z15=>?_;obtain ⟨e0,e1,A,G⟩:=p4 Z15 e0 e1 A G;replace O:=po Z15 O
  rotate_left
  focus
   replace e7:=po Z15 e7
  rotate_left
  all_goals
   obtain ⟨C,U,ac⟩:=p3 Z15 C U ac;replace aj:=po Z15 aj
  focus
   replace ar:=po Z15 ar;have e7:=pA Z15 HS
  rotate_left
  focus
   have ar:=pA Z15 HS
  rotate_left
  all_goals
   replace HS:=pS Z15 HS;refine wA 15 fun K hK=>?_
  focus
   go_simp;refine hK.out _ _ ?_ fun hHeld=>?_
   ·exact ao.out _ (an.out.alloc _)
  rotate_left
  focus
   have aO:Blk ((((wq.setCell ⟨w.heap.size,0,none⟩ (.slice a7 rs.lots.length a6)).setCell ⟨w.heap.size,1,none⟩ (.slice a1 rs.contacts.length az)).setCell ⟨w.heap.size,2,none⟩ (.slice aC rs.tests.length aB)).setCell ⟨w.heap.size,3,none⟩ (.slice aA rs.notes.length a8)) w.heap.size #[.slice a7 rs.lots.length a6,.slice a1 rs.contacts.length az,.slice aC rs.tests.length aB,.slice aA rs.notes.length a8] 74:=(by have:=(((bP.out.set 0 (.slice a7 rs.lots.length a6)).set 1 (.slice a1 rs.contacts.length az)).set 2 (.slice aC rs.tests.length aB)).set 3 (.slice aA rs.notes.length a8);simpa using this);have bq:Keep (fun k=>k=w.heap.size) wq ((((wq.setCell ⟨w.heap.size,0,none⟩ (.slice a7 rs.lots.length a6)).setCell ⟨w.heap.size,1,none⟩ (.slice a1 rs.contacts.length az)).setCell ⟨w.heap.size,2,none⟩ (.slice aC rs.tests.length aB)).setCell ⟨w.heap.size,3,none⟩ (.slice aA rs.notes.length a8)):=((((Keep.refl (fun k=>k=w.heap.size) wq).setCell _ _ (fun _=>rfl)).setCell _ _ (fun _=>rfl)).setCell _ _ (fun _=>rfl)).setCell _ _ (fun _=>rfl);have bk:=hD aO;have bS:=hD bq;have bu:=hD (an.out.trans bq (fun k hk e=>by omega));clear aO bq;go_simp;refine hK.out _ _ ?_ fun hHeld=>?_
   ·exact ao.out _ bu.out
  rotate_left
  all_goals
   clear hK K;refine wt 16 ?_;refine wL fun ac16 Z16=>?_;obtain ⟨e0,e1,A,G⟩:=p4 Z16 e0 e1 A G;replace O:=po Z16 O
  rotate_left
  focus
   replace e7:=po Z16 e7
  rotate_left
  all_goals
   obtain ⟨C,U,ac,aj⟩:=p4 Z16 C U ac aj;replace ar:=po Z16 ar
  focus
   replace e7:=po Z16 e7
  rotate_left;rotate_left
  all_goals
   have e8:=pA Z16 HS;replace HS:=pS Z16 HS;refine wt 17 ?_;refine wL fun ac17 Z17=>?_;obtain ⟨e0,e1,A,G⟩:=p4 Z17 e0 e1 A G;replace O:=po Z17 O
  rotate_left
  focus
   replace e7:=po Z17 e7
  rotate_left
  all_goals
   obtain ⟨C,U,ac,aj⟩:=p4 Z17 C U ac aj;replace ar:=po Z17 ar
  focus
   replace e7:=po Z17 e7
  rotate_left;rotate_left
  all_goals
   replace e8:=po Z17 e8;have e9:=pA Z17 HS;replace HS:=pS Z17 HS;refine wpAnyH_done (by kernel_rfl) ?_ _;refine NoPanic.normal ?_;rw [bW.out];have g0:=uE0 ac0 [7,8,9,14,15,16,17,18,19,20,21,22,23,24,25,26,27];have g1:=uF Z1 g0;have g2:=uF Z2 g1;have g3:=uF Z3 g2;have g4:=uF Z4 g3;have g5:=uF Z5 g4;have g6:=uF Z6 g5;have g7:=uF Z7 g6;have g8:=uF Z8 g7;have g9:=uF Z9 g8;have bZ:=uF Z10 g9;have ca:=uF Z11 bZ;have cb:=uF Z12 ca;have cd:=uF Z13 cb;have ce:=uF Z14 cd;have cf:=uF Z15 ce;have cg:=uF Z16 cf;have ch:=uF Z17 cg;obtain ⟨f,hf⟩:=ch;rw [Z0.out] at hf;have v7:=(v_o (k:=7) (n:=71) (by kernel_rfl) (by rfl)).symm.trans ((congrArg (fun a:Act=>a.tmps[7]?.getD undef) hf.symm).trans e7);have v8:=(v_o (k:=8) (n:=71) (by kernel_rfl) (by rfl)).symm.trans ((congrArg (fun a:Act=>a.tmps[8]?.getD undef) hf.symm).trans e8);have v9:=(v_o (k:=9) (n:=71) (by kernel_rfl) (by rfl)).symm.trans ((congrArg (fun a:Act=>a.tmps[9]?.getD undef) hf.symm).trans e9);refine cn _ _ (Met.intro (cj _ _ ?_))
  ·refine ⟨f 7,f 8,f 9,f 14,f 15,f 16,f 17,f 18,f 19,f 20,f 21,f 22,f 23,f 24,f 25,f 26,f 27,⟨_,_,_,_,_,v7.trans rfl,v8.trans rfl,v9.trans rfl,Blk.new _ _ _,an.out.alloc _,fun e=>(bg.out e).elim fun nb h=>⟨nb,h.keep ((Keep.refl kF wq).alloc _) (fun _ e=>e.elim)⟩⟩,hf.trans (by kernel_rfl)⟩
  ·refine ⟨f 7,f 8,f 9,f 14,f 15,f 16,f 17,f 18,f 19,f 20,f 21,f 22,f 23,f 24,f 25,f 26,f 27,⟨_,_,_,_,_,v7.trans rfl,v8.trans rfl,v9.trans rfl,bk.out,bu.out,fun e=>(bg.out e).elim fun nb h=>⟨nb,RO.low (by simp) (h.keep bS.out (fun _ e=>by rw [e];simp))⟩⟩,hf.trans (by kernel_rfl)⟩
 case rest=>
  obtain ⟨b1,ul,uc,ut,un,rfl,rfl,rfl,bH,bG,aN⟩:=hcut;have am:=hD bG;have bU:=hD bH;have aK:=hD aN;clear bH bG aN;refine ck _ _ ?_;(try simp only [Exit.inBlock,Exit.then]);by_cases hz:re=0
  case neg=>
   rw [if_neg hz] at au;have HF:=hD au;have cx:(re != 0)=true:=(by simpa using hz);clear au al;go_wp2_with fail
   go_ret3;rw [HF.out];exact ⟨_,rfl,HH.out.idle am.out,RHChg.idle _ am.out⟩
  case pos=>
   subst hz;rw [if_pos rfl] at au;have HF:=hD au;have bJ:s.size≤200:=al rfl;have HN:=hD hn;clear au al hn;have cq:s.data.toList.length=s.size:=(by simp);have ea:appendF (gN n ls) (s.data.toList++[10])=(0,{gN n ls with bytes:=cat ls++(s.data.toList++[10])}):=(by have:=HN.out;unfold appendF;rw [if_neg (by simp only [gN,List.length_append,List.length_cons,List.length_nil];omega)];simp [onF,gN]);have es:syncF {gN n ls with bytes:=cat ls++(s.data.toList++[10])}=(0,gN n (ls++[s])):=(by simp [syncF,onF,gN,cat_snoc]);obtain ⟨D1,bz⟩:∃ D1,({gN n ls with bytes:=cat ls++(s.data.toList++[10])}:Dsk)=D1:=⟨_,rfl⟩;rw [bz] at ea es;have bO:=hD ea;have HY:=hD es;clear ea es bz cq;have cp:(9223372036854775807 < s.size+1)=False:=eq_false (by omega);have cw:=fun W=>Lib.run_convert_string_bytes (P:=prog) W 9 61 5 (s++⟨#[10]⟩) underlying9 underlying61 underlying5;have br:(s++(⟨#[10]⟩:ByteArray)).size=s.size+1:=(by rw [ByteArray.size_append];rfl);have bt:Hid (∀ w3,Rd (Lib.bytesWorld w3 5 (s++⟨#[10]⟩)) 1 (.slice (some ⟨w3.heap.size,0,none⟩) (s.size+1) (grownCap w3 (s.size+1) 0 5)) (s.data.toList++[10]).length (bcells (s.data.toList++[10]))):=hD fun w3=>(by have:=convCell w3 (s++⟨#[10]⟩) (by rw [br];omega);rw [br,show (s++(⟨#[10]⟩:ByteArray)).data.toList=s.data.toList++[10] by simp] at this;exact this);have aH:Hid (∀ w3,Keep kF w3 (Lib.bytesWorld w3 5 (s++(⟨#[10]⟩:ByteArray)))):=hD fun w3=>convKeep w3 5 _
   have bT:Hid (∀ w3,w3.heap.size < (Lib.bytesWorld w3 5 (s++(⟨#[10]⟩:ByteArray))).heap.size):=hD fun w3=>by
    rcases (bt.out w3).2.2 with ⟨hv,_⟩ | ⟨b,o,c,hv,_,_,hx⟩
    ·cases hv
    ·have:=hx 0 _ (v_f (s.data.toList++[10]) 0 (by simp));have h2:=World.block_lt_of_cell? _ _ this;injection hv with h3 h4 h5;injection h3 with h3;injection h3 with h3 h6 h7;rw [h3];exact h2
   clear br;obtain ⟨nb,Z⟩:=aK.out rfl;have bh:=hD Z;obtain ⟨a7,a6,rfl,_⟩:=x_a Z.l;obtain ⟨a1,az,rfl,_⟩:=x_a Z.c;obtain ⟨aC,aB,rfl,_⟩:=x_a Z.t;obtain ⟨aA,a8,rfl,_⟩:=x_a Z.n;clear Z aK;have b0:=(HH.out.idle am.out).blk.cell 0;simp at b0
   go_upto_region 12 with (first
     | (go_at_call 49;have hh:=rsync_any H8.out.disk;rw [HY.out] at hh;dsimp only at hh;refine Calls.mono hh ?_;clear hh;rintro e w9 ⟨rfl,⟨v2,bD,bF⟩,aW⟩;obtain ⟨h9,bA⟩:=H8.out.onDisk aW bD bF;have aQ:=hD (bV.out.keepD H8.out.disk aW);have aa:=hD (bi.out.keepD H8.out.disk aW);have H9:=hD h9;have bR:=hD bA;clear bD bF aW h9 bA)
     | (go_at_call 32;go_loud (have hX:=(HH.out.idle am.out).idle (aH.out wc);have hh:=rappend_any hX.disk (bt.out wc) (fun e=>by have e2:wc.heap.size=qd:=Option.some.inj e;have:=HH.out.disk.blk.lt;have:=am.out.size;simp only at *;omega) (fun g e=>by have e2:wc.heap.size=g:=Option.some.inj e;have:=bT.out wc;omega) (by simp;omega) (by have h5:=(aH.out wc).size;have:=am.out.size;omega);rw [bO.out] at hh;dsimp only at hh;refine Calls.mono hh ?_;clear hh;rintro e w8 ⟨rfl,⟨v1,bC,bE⟩,aV⟩;obtain ⟨h8,b9⟩:=hX.onDisk aV bC bE;have b0:=h8.blk.cell 0;simp at b0;have bV:=hD ((bU.out.keep (aH.out wc) (fun h=>h)).keepD hX.disk aV);have bi:=hD ((bh.out.keep (aH.out wc) (fun _ e=>e.elim)).keepD hX.disk aV);have H8:=hD h8;have bQ:=hD b9;clear hX bC bE aV h8 b9)))
   have m0:=aQ.out.cell 0;have m1:=aQ.out.cell 1;have m2:=aQ.out.cell 2;have m3:=aQ.out.cell 3;simp at m0 m1 m2 m3;have b2:=H9.out.blk.cell 2;have b3:=H9.out.blk.cell 3;have b4:=H9.out.blk.cell 4;have b5:=H9.out.blk.cell 5;simp at b2 b3 b4 b5;have f2:=H9.out.blk.free 2;have f3:=H9.out.blk.free 3;have f4:=H9.out.blk.free 4;have f5:=H9.out.blk.free 5;go_upto_region 13 with fail
   obtain ⟨aS,ae⟩:=H9.out.setNow hb aa.out (fun k e=>(x_d HH.out.rows.lr k e).2) aY.out;obtain ⟨J,aP⟩:∃ J,J=(((w9.setCell ⟨qh,2,none⟩ (.slice a7 rs.lots.length a6)).setCell ⟨qh,3,none⟩ (.slice a1 rs.contacts.length az)).setCell ⟨qh,4,none⟩ (.slice aC rs.tests.length aB)).setCell ⟨qh,5,none⟩ (.slice aA rs.notes.length a8):=⟨_,rfl⟩;simp only at aS ae;rw [← aP] at aS ae ⊢;clear aP m0 m1 m2 m3 b2 b3 b4 b5 f2 f3 f4 f5;have aF:=hD (((RHChg.idle _ (am.out.trans (aH.out wc) n3)).trans bQ.out).trans bR.out);have bL:w.heap.size≤J.heap.size:=Nat.le_trans aF.out.keep.size ae.size;have aX:=hD aS;have aG:=hD ae;clear aS ae;have hE:(J.alloc (.cells #[] 9)).ownsRow J.heap.size 9 1 (.slice (some ⟨J.heap.size,0,none⟩) 0 0) 0 []:=z_p J J.heap.size 9 1 (Nat.le_refl _);have HE:=hD hE;have aU:=aX.out.idle ((Keep.refl kF J).alloc (.cells #[] 9));have b6:=aU.blk.cell 6;simp at b6;have cu:=hD aU;have bX:=hD ((x_g aU.rows.lr (x_p _)).src (P:=prog) underlying44);clear hE aU
   go_wp2_with (first
     | (at_builtin;refine x_h (w:=aE.alloc (.cells #[.string s] 9)) rfl (.tmp 64) (.tmp 66) 44 44 rfl 9 (.string ⟨#[]⟩) 1 16 underlying44 y_t rfl aI.out rfl (bj.out.src underlying44) rfl (by unfold maxLen;omega) (by omega) (Nat.le_trans bl.out ((Keep.refl kF aE).alloc (.cells #[.string s] 9)).size) ?_;intro cz cr ad;have ag:=ad.own;obtain ⟨bn,aL,rfl,_⟩:=x_a ag;have ay:Keep (fun k=>J.heap.size≤k) J cr:=ba.out.trans ((((Keep.refl kF aE).alloc (.cells #[.string s] 9)).mono (T:=fun k=>J.heap.size≤k) (fun _ _ e=>e.elim)).trans ad.keep (fun k _ e=>(x_d aI.out k e).1)) n3;have aT:=aX.out.past (by omega) ay;have d6:=aT.blk.cell 6;have y6:=aT.blk.free 6;simp at d6;have bN:=hD aT;have bf:=hD ay;have aJ:=hD ag;clear aT ay ag ad)
     | (at_builtin;go_loud (refine x_h (w:=J.alloc (.cells #[] 9)) rfl (.tmp 59) (.tmp 63) 44 44 rfl 9 (.string ⟨#[]⟩) 1 16 underlying44 y_t rfl HE.out rfl bX.out rfl (by unfold maxLen;omega) (by omega) (by simp) ?_);intro cy aE av;have ak:=av.own;rw [Nat.zero_add,List.nil_append] at ak;obtain ⟨bY,bx,rfl,_⟩:=x_a ak;have ax:Keep (fun k=>J.heap.size≤k) J aE:=(((Keep.refl kF J).alloc (.cells #[] 9)).mono (T:=fun k=>J.heap.size≤k) (fun _ _ e=>e.elim)).trans av.keep (fun k _ e=>(x_d HE.out k e).1);have aI:=hD (x_b ak ((Keep.refl kF aE).alloc (.cells #[.string s] 9)) n3);have bj:=hD (Rd.new aE 1 1 [.string s] 9 rfl (by simp [Value.oneCell']) (by unfold maxLen;omega));have bl:=hD ax.size;have ba:=hD ax;clear ak ax av))
   go_ret3;rw [HF.out];obtain ⟨ci,bp⟩:=bN.out.setLines (b:=J.heap.size) (ls':=ls++[s]) (ln:=.slice bn (ls.length+1) aL) (by omega) (by have:=aJ.out;simpa [strCells] using this) (fun k e=>(x_d aX.out.rows.n k e).2);refine ⟨_,rfl,ci,aF.out.tail rfl rfl rfl (fun k hk=>?_) ((aG.out.trans bf.out (fun k hk e=>by have:=aG.out.size;omega)).trans bp n3)⟩;rcases hk with e | e | e | e | e
   ·exact (x_d aa.out.l k e).1
   ·exact (x_d aa.out.c k e).1
   ·exact (x_d aa.out.t k e).1
   ·exact (x_d aa.out.n k e).1
   ·have:=(x_d aJ.out k e).1;omega
theorem okB_read (s:ByteArray):okB s=(readR s).isSome:=by
 rw [read_same];unfold okB readF;cases formF s with
 | none=>rfl
 | some p=>
  obtain ⟨so,f,a⟩:=p;dsimp only;cases a.ok <;> rfl
theorem isChange_any {w:World} {s:ByteArray} (hG:Glob w) (hs:s.size≤1048576):Calls prog 111 #[.string s] w (IdxPost w (.bool (okB s))):=by
 have HR:=hD (y_o hG hs);rw [okB_read];clear hG hs;cases hr:readR s with
 | none=>
  have J:=hD hr;clear hr;go_enter func111,ntmps111;go_wp2_with (go_at_call 95;refine Calls.mono HR.out ?_;rintro e w1 ⟨A,M,_⟩;obtain ⟨x,y,ao,n,R,rfl⟩:=M J.out;have G:=hD A;clear A M)
  go_ret;exact ⟨rfl,G.out.alloc _⟩
 | some p=>
  obtain ⟨wd,nm,ns⟩:=p;have J:=hD hr;clear hr;go_enter func111,ntmps111;go_wp2_with (go_at_call 95;refine Calls.mono HR.out ?_;rintro e w1 ⟨A,_,C⟩;obtain ⟨vn,rfl,O⟩:=C _ _ _ J.out;obtain ⟨ao,R,rfl,_⟩:=O.shape;have G:=hD A;clear A C O)
  go_ret;exact ⟨rfl,G.out.alloc _⟩
end Go.Proofs.YthdkamnclbfehaaGreatDoor
