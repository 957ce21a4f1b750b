/- A part of the proof. -/
import Derived.Test.YthdkamnclbfehaaGreatDoorDaysM9
import Derived.Test.YthdkamnclbfehaaGreatDoorDaysM10
import Derived.Test.YthdkamnclbfehaaGreatDoorDaysM6
set_option linter.all false
set_option maxHeartbeats 20000000
set_option maxRecDepth 100000
namespace Go.Proofs.YthdkamnclbfehaaGreatDoor
open Go.RowKit Tryz
structure Lot where
  spice:ByteArray
  grams:Int
  bay:Int
  closed:Bool
structure St where
  bays:List Int
  lots:List Lot
  contacts:List (Int × Int)
  tests:List (Int × Int)
  notes:List ByteArray
def lotCell (x:Lot):List Value:=[.string x.spice,.int .i64 x.grams,.int .i64 x.bay,.bool x.closed]
def lotCells (l:List Lot):List Value:=l.flatMap lotCell
def pairCell (p:Int × Int):List Value:=[.int .i64 p.1,.int .i64 p.2]
def pairCells (l:List (Int × Int)):List Value:=l.flatMap pairCell
def strCells (l:List ByteArray):List Value:=l.map Value.string
theorem u_r (l:List Lot):(lotCells l).length=l.length * 4:=by
 induction l with
 | nil=>rfl
 | cons x l ih=>simp only [lotCells,List.flatMap_cons,List.length_append,List.length_cons] at ih ⊢;rw [ih];simp [lotCell];omega
structure StV where
  b:Nat
  vb:Value
  vl:Value
  vc:Value
  vt:Value
  vn:Value
def StV.cells (V:StV):Array Value:=#[V.vb,V.vl,V.vc,V.vt,V.vn]
def StV.fp (V:StV) (k:Nat):Prop:=k=V.b∨V.vb.ownBlock=some k∨V.vl.ownBlock=some k∨V.vc.ownBlock=some k∨V.vt.ownBlock=some k∨V.vn.ownBlock=some k
structure StAt (w:World) (V:StV) (S:St):Prop where
  blk:Blk w V.b V.cells 113
  rb:Rd w 1 V.vb S.bays.length (icells S.bays)
  rl:Rd w 4 V.vl S.lots.length (lotCells S.lots)
  rc:Rd w 2 V.vc S.contacts.length (pairCells S.contacts)
  rt:Rd w 2 V.vt S.tests.length (pairCells S.tests)
  rn:Rd w 1 V.vn S.notes.length (strCells S.notes)
  lt:∀ k,V.fp k→k < w.heap.size
theorem StAt.keep {T:Nat→Prop} {w w':World} {V:StV} {S:St} (h:StAt w V S) (k:Keep T w w') (hT:∀ i,V.fp i→¬ T i):StAt w' V S:=
  ⟨h.blk.keep k (hT _ (.inl rfl)),h.rb.keep k fun b e=>hT b (.inr (.inl e)),h.rl.keep k fun b e=>hT b (.inr (.inr (.inl e))),h.rc.keep k fun b e=>hT b (.inr (.inr (.inr (.inl e)))),
   h.rt.keep k fun b e=>hT b (.inr (.inr (.inr (.inr (.inl e))))),h.rn.keep k fun b e=>hT b (.inr (.inr (.inr (.inr (.inr e))))),fun i hi=>Nat.lt_of_lt_of_le (h.lt i hi) k.size⟩
structure St.small (S:St):Prop where
  l:S.lots.length≤1000000000
  c:S.contacts.length≤1000000000
  t:S.tests.length≤1000000000
  n:S.notes.length≤1000000000
structure OSt (base:Nat) (w:World) (V:StV) (S:St):Prop where
  blk:Blk w V.b V.cells 113
  ge:base≤V.b
  rb:Rd w 1 V.vb S.bays.length (icells S.bays)
  bb:∀ k,V.vb.ownBlock=some k→k < base
  ol:w.ownsRow base 214 4 V.vl S.lots.length (lotCells S.lots)
  oc:w.ownsRow base 176 2 V.vc S.contacts.length (pairCells S.contacts)
  ot:w.ownsRow base 176 2 V.vt S.tests.length (pairCells S.tests)
  on:w.ownsRow base 9 1 V.vn S.notes.length (strCells S.notes)
  ct:∀ k,V.vc.ownBlock=some k→V.vt.ownBlock≠some k
theorem y_n (l:List Lot):∀ u∈lotCells l,u.oneCell'=true:=by
 intro u hu;obtain ⟨x,_,hx⟩:=List.mem_flatMap.1 hu;simp [lotCell] at hx;rcases hx with rfl | rfl | rfl | rfl <;> rfl
theorem z_e (l:List (Int × Int)):∀ u∈pairCells l,u.oneCell'=true:=by
 intro u hu;obtain ⟨x,_,hx⟩:=List.mem_flatMap.1 hu;simp [pairCell] at hx;rcases hx with rfl | rfl <;> rfl
theorem x_p (l:List ByteArray):∀ u∈strCells l,u.oneCell'=true:=by
 intro u hu;obtain ⟨_,_,rfl⟩:=List.mem_map.1 hu;rfl
theorem x_f {w:World} {b1 b2:Nat} {e1 e2:TypeId} {s1 s2:Nat} {v1 v2:Value} {n1 n2:Nat} {x1 x2:List Value} (h1:w.ownsRow b1 e1 s1 v1 n1 x1) (h2:w.ownsRow b2 e2 s2 v2 n2 x2) (hne:e1≠e2):∀ k,v1.ownBlock=some k→v2.ownBlock≠some k:=by
 intro k h h';rcases h1.2 with ⟨rfl,_⟩ | ⟨g,c,cur,rfl,_,hg,_⟩
 ·cases h
 ·rcases h2.2 with ⟨rfl,_⟩ | ⟨g',c',C,rfl,_,A,_⟩
  ·cases h'
  ·cases h;cases h';rw [hg] at A;cases A;exact hne rfl
theorem x_c {w:World} {b1:Nat} {e1:TypeId} {s1:Nat} {v1:Value} {n1:Nat} {x1:List Value} (h1:w.ownsRow b1 e1 s1 v1 n1 x1) {b:Nat} {cs:Array Value} {t:TypeId} (hb:Blk w b cs t) (hne:e1≠t):v1.ownBlock≠some b:=by
 intro h;rcases h1.2 with ⟨rfl,_⟩ | ⟨g,c,cur,rfl,_,hg,_⟩
 ·cases h
 ·cases h;unfold Blk at hb;rw [hg] at hb;cases hb;exact hne rfl
theorem OSt.at {base:Nat} {w:World} {V:StV} {S:St} (h:OSt base w V S) (hb:base≤w.heap.size):StAt w V S:=
  ⟨h.blk,h.rb,x_g h.ol (y_n _),x_g h.oc (z_e _),x_g h.ot (z_e _),x_g h.on (x_p _),fun k hk=>by
    rcases hk with rfl | h1 | h1 | h1 | h1 | h1
    · exact h.blk.lt
    · exact Nat.lt_of_lt_of_le (h.bb k h1) hb
    · exact (h.ol.lt k h1).2
    · exact (h.oc.lt k h1).2
    · exact (h.ot.lt k h1).2
    · exact (h.on.lt k h1).2⟩
theorem x_i {w:World} {b b':Nat} {e:TypeId} {s n:Nat} {v:Value} {x:List Value} (h:w.ownsRow b e s v n x) (hb:b'≤b):w.ownsRow b' e s v n x:=by
 refine ⟨h.1,?_⟩;rcases h.2 with hn | ⟨g,A,cur,rfl,h1,rest⟩
 ·exact .inl hn
 ·exact .inr ⟨g,A,cur,rfl,Nat.le_trans hb h1,rest⟩
def StClonePost (w:World) (V:StV) (S:St) (e:Ending) (w':World):Prop:=
  ∃ V',e = .returned (.pointer (some ⟨V'.b,0,none⟩))∧OSt w.heap.size w' V' S∧V'.vb=V.vb∧Keep kF w w'
theorem stClone_any {w:World} {V:StV} {S:St} (h:StAt w V S) (hs:S.small):Calls prog 77 #[.pointer (some ⟨V.b,0,none⟩)] w (StClonePost w V S):=by
 obtain ⟨b,vb,vl,vc,vt,vn⟩:=V;have hb:=h.blk;have R:=hb.lt;have c0:=hb.cell 0;have c1:=hb.cell 1;have c2:=hb.cell 2;have c3:=hb.cell 3;have c4:=hb.cell 4;simp [StV.cells] at c0 c1 c2 c3 c4 R;obtain ⟨bo,bc,aA,_⟩:=h.rb.shape;obtain ⟨lo,lc,aC,_⟩:=h.rl.shape;obtain ⟨co,cc,aB,_⟩:=h.rc.shape;obtain ⟨to,tc,aE,_⟩:=h.rt.shape;obtain ⟨no,nc,aD,_⟩:=h.rn.shape;simp only at aA aC aB aE aD;subst aA aC aB aE aD;have H:=hD h;clear h hb;obtain ⟨w0,U⟩:∃ w0,w0=w.alloc (.cells #[.slice bo S.bays.length bc,.slice lo S.lots.length lc,.slice co S.contacts.length cc,.slice to S.tests.length tc,.slice no S.notes.length nc] 113):=⟨_,rfl⟩;have J:Keep kF w w0:=(by rw [U];exact (Keep.refl _ _).alloc _);have aN:Blk w0 w.heap.size #[.slice bo S.bays.length bc,.slice lo S.lots.length lc,.slice co S.contacts.length cc,.slice to S.tests.length tc,.slice no S.notes.length nc] 113:=(by rw [U];exact Blk.new _ _ _);have G:w0.heap.size=w.heap.size+1:=by rw [U];simp
 have aI:Hid (∀ W,Keep (fun k=>k=w.heap.size) w0 W→Rd W 4 (.slice lo S.lots.length lc) S.lots.length (lotCells S.lots)):=hD fun W hk=>
  (H.out.rl.keep J n3).keep hk (fun i hi e=>by have:=H.out.lt i (.inr (.inr (.inl hi)));omega)
 have aH:Hid (∀ W,Keep (fun k=>k=w.heap.size) w0 W→Rd W 2 (.slice co S.contacts.length cc) S.contacts.length (pairCells S.contacts)):=hD fun W hk=>
  (H.out.rc.keep J n3).keep hk (fun i hi e=>by have:=H.out.lt i (.inr (.inr (.inr (.inl hi))));omega)
 have aK:Hid (∀ W,Keep (fun k=>k=w.heap.size) w0 W→Rd W 2 (.slice to S.tests.length tc) S.tests.length (pairCells S.tests)):=hD fun W hk=>
  (H.out.rt.keep J n3).keep hk (fun i hi e=>by have:=H.out.lt i (.inr (.inr (.inr (.inr (.inl hi)))));omega)
 have aJ:Hid (∀ W,Keep (fun k=>k=w.heap.size) w0 W→Rd W 1 (.slice no S.notes.length nc) S.notes.length (strCells S.notes)):=hD fun W hk=>
  (H.out.rn.keep J n3).keep hk (fun i hi e=>by have:=H.out.lt i (.inr (.inr (.inr (.inr (.inr hi)))));omega)
 have X:=hD hs;clear hs;have d1:=(J.cell (p:=⟨b,1,none⟩) R (fun h=>h)).trans c1;have d2:=(J.cell (p:=⟨b,2,none⟩) R (fun h=>h)).trans c2;have d3:=(J.cell (p:=⟨b,3,none⟩) R (fun h=>h)).trans c3;have d4:=(J.cell (p:=⟨b,4,none⟩) R (fun h=>h)).trans c4;have aL:=hD U;have aw:=hD J;clear J;have M:=hD aN;clear U;go_enter func77,ntmps77;go_wp2
 rw [← aL.out];have C:Hid (Keep (fun k=>k=w.heap.size) w0 w0.drew):=hD (Keep.refl _ _).drew;have A:Hid (Keep kF w0 w0.drew):=hD (Keep.refl _ _).drew
 have aF:Hid (∀ W,Keep (fun k=>k=w.heap.size) w0 W→W.cell? ⟨b,1,none⟩=some (.slice lo S.lots.length lc)∧W.cell? ⟨b,2,none⟩=some (.slice co S.contacts.length cc)∧W.cell? ⟨b,3,none⟩=some (.slice to S.tests.length tc)∧W.cell? ⟨b,4,none⟩=some (.slice no S.notes.length nc)):=hD fun W hk=>
  ⟨(hk.cell (p:=⟨b,1,none⟩) (by show b < w0.heap.size;rw [G];omega) (by show ¬ b=w.heap.size;omega)).trans d1,(hk.cell (p:=⟨b,2,none⟩) (by show b < w0.heap.size;rw [G];omega) (by show ¬ b=w.heap.size;omega)).trans d2,(hk.cell (p:=⟨b,3,none⟩) (by show b < w0.heap.size;rw [G];omega) (by show ¬ b=w.heap.size;omega)).trans d3,(hk.cell (p:=⟨b,4,none⟩) (by show b < w0.heap.size;rw [G];omega) (by show ¬ b=w.heap.size;omega)).trans d4⟩
 clear c0 c1 c2 c3 c4
 go_region_held3 (fun W=>W.cell? ⟨b,1,none⟩=some (.slice lo S.lots.length lc)∧W.cell? ⟨b,2,none⟩=some (.slice co S.contacts.length cc)∧W.cell? ⟨b,3,none⟩=some (.slice to S.tests.length tc)∧W.cell? ⟨b,4,none⟩=some (.slice no S.notes.length nc))
   (first | exact ⟨d1,d2,d3,d4⟩ | (refine aF.out _ ?_;exact kX C.out))
   (first
     | (go_at_call 114;have hh:=clone114 (aI.out _ C.out) (by have:=X.out.l;omega);refine Calls.mono hh ?_;clear hh;intro e W1 hq;obtain ⟨v1,rfl,ao,ai⟩:=hq;obtain ⟨ad,Y,rfl,_⟩:=x_a ao;have az:=hD ao;clear ao;have C:=hD (C.out.trans ai (fun _ _ h=>h.elim));have A:=hD (A.out.trans ai (fun _ _ h=>h.elim));have aG:=hD ai;clear ai;dsimp only)
     | (go_at_call 115;have hh:=clone115 (aH.out _ C.out) (by have:=X.out.c;omega);refine Calls.mono hh ?_;clear hh;intro e W2 hq;obtain ⟨v2,rfl,aq,aj⟩:=hq;obtain ⟨ae,Z,rfl,_⟩:=x_a aq;have a1:=hD aq;clear aq;have C:=hD (C.out.trans aj (fun _ _ h=>h.elim));have A:=hD (A.out.trans aj (fun _ _ h=>h.elim));have ax:=hD aj;clear aj;dsimp only)
     | (go_at_call 115;have hh:=clone115 (aK.out _ C.out) (by have:=X.out.t;omega);refine Calls.mono hh ?_;clear hh;intro e W3 hq;obtain ⟨v3,rfl,ar,ak⟩:=hq;obtain ⟨ag,aa,rfl,_⟩:=x_a ar;have a6:=hD ar;clear ar;have C:=hD (C.out.trans ak (fun _ _ h=>h.elim));have A:=hD (A.out.trans ak (fun _ _ h=>h.elim));have am:=hD ak;clear ak;dsimp only)
     | (go_at_call 22;have hh:=clone22 (aJ.out _ C.out) (by have:=X.out.n;omega);refine Calls.mono hh ?_;clear hh;intro e W4 hq;obtain ⟨v4,rfl,au,al⟩:=hq;obtain ⟨ah,ac,rfl,_⟩:=x_a au;have a7:=hD au;clear au;have C:=hD (C.out.trans al (fun _ _ h=>h.elim));have A:=hD (A.out.trans al (fun _ _ h=>h.elim));have an:=hD al;clear al;have e1:=(A.out.cell (p:=⟨w.heap.size,1,none⟩) (by show w.heap.size < w0.heap.size;rw [G];omega) (fun h=>h)).trans (M.out.cell 1);have e2:=(A.out.cell (p:=⟨w.heap.size,2,none⟩) (by show w.heap.size < w0.heap.size;rw [G];omega) (fun h=>h)).trans (M.out.cell 2);have e3:=(A.out.cell (p:=⟨w.heap.size,3,none⟩) (by show w.heap.size < w0.heap.size;rw [G];omega) (fun h=>h)).trans (M.out.cell 3);have e4:=(A.out.cell (p:=⟨w.heap.size,4,none⟩) (by show w.heap.size < w0.heap.size;rw [G];omega) (fun h=>h)).trans (M.out.cell 4);have f1:=(A.out.frozen (p:=⟨w.heap.size,1,none⟩) (by show w.heap.size < w0.heap.size;rw [G];omega) (fun h=>h)).trans (M.out.free 1);have f2:=(A.out.frozen (p:=⟨w.heap.size,2,none⟩) (by show w.heap.size < w0.heap.size;rw [G];omega) (fun h=>h)).trans (M.out.free 2);have f3:=(A.out.frozen (p:=⟨w.heap.size,3,none⟩) (by show w.heap.size < w0.heap.size;rw [G];omega) (fun h=>h)).trans (M.out.free 3);have f4:=(A.out.frozen (p:=⟨w.heap.size,4,none⟩) (by show w.heap.size < w0.heap.size;rw [G];omega) (fun h=>h)).trans (M.out.free 4);simp at e1 e2 e3 e4;dsimp only)
     )
 have ay:=hD (((M.out.keep A.out (fun h=>h)).set 1 (.slice ad S.lots.length Y)).set 2 (.slice ae S.contacts.length Z) |>.set 3 (.slice ag S.tests.length aa) |>.set 4 (.slice ah S.notes.length ac));have O:=hD ((((Keep.refl (fun k=>k=w.heap.size) W4).setCell ⟨w.heap.size,1,none⟩ (.slice ad S.lots.length Y) (fun _=>rfl)).setCell ⟨w.heap.size,2,none⟩ (.slice ae S.contacts.length Z) (fun _=>rfl)).setCell ⟨w.heap.size,3,none⟩ (.slice ag S.tests.length aa) (fun _=>rfl) |>.setCell ⟨w.heap.size,4,none⟩ (.slice ah S.notes.length ac) (fun _=>rfl));obtain ⟨wf,av⟩:∃ wf,wf=((((W4.setCell ⟨w.heap.size,1,none⟩ (.slice ad S.lots.length Y)).setCell ⟨w.heap.size,2,none⟩ (.slice ae S.contacts.length Z)).setCell ⟨w.heap.size,3,none⟩ (.slice ag S.tests.length aa)).setCell ⟨w.heap.size,4,none⟩ (.slice ah S.notes.length ac)):=⟨_,rfl⟩;rw [← av] at ay O;rw [← av];clear av e1 e2 e3 e4 f1 f2 f3 f4 d1 d2 d3 d4;go_wp2
 go_ret;have aO:=aG.out.size;have aQ:=ax.out.size;have aS:=am.out.size;have aP:w0.drew.heap.size=w.heap.size+1:=G;rw [aP] at aO;have b1:=x_d az.out;have b2:=x_d a1.out;have b3:=x_d a6.out;have b4:=x_d a7.out;have a8:Keep (fun k=>k=w.heap.size) w0 wf:=A.out.mono (fun _ _ h=>h.elim) |>.trans O.out n3;refine ⟨⟨w.heap.size,.slice bo S.bays.length bc,.slice ad S.lots.length Y,.slice ae S.contacts.length Z,.slice ag S.tests.length aa,.slice ah S.notes.length ac⟩,rfl,⟨by simpa [StV.cells] using ay.out,Nat.le_refl _,?_,fun k hk=>H.out.lt k (.inr (.inl hk)),?_,?_,?_,?_,?_⟩,rfl,?_⟩
 ·exact (H.out.rb.keep aw.out n3).keep a8 (fun i hi e=>by have:=H.out.lt i (.inr (.inl hi));omega)
 ·exact x_i (x_b (x_b (x_b (x_b az.out ax.out n3) am.out n3) an.out n3) O.out (fun k hk e=>by have:=b1 k hk;omega)) (by omega)
 ·exact x_i (x_b (x_b (x_b a1.out am.out n3) an.out n3) O.out (fun k hk e=>by have:=b2 k hk;omega)) (by omega)
 ·exact x_i (x_b (x_b a6.out an.out n3) O.out (fun k hk e=>by have:=b3 k hk;omega)) (by omega)
 ·exact x_i (x_b a7.out O.out (fun k hk e=>by have:=b4 k hk;omega)) (by omega)
 ·intro k hk aM;have:=b2 k hk;have:=b3 k aM;omega
 ·exact aw.out.trans a8 (fun k hk e=>by have e':k=w.heap.size:=e;omega)
end Go.Proofs.YthdkamnclbfehaaGreatDoor
namespace Go.Proofs.YthdkamnclbfehaaGreatDoor
open Go.RowKit
theorem OSt.keep {T:Nat→Prop} {base:Nat} {w w':World} {V:StV} {S:St} (h:OSt base w V S) (k:Keep T w w') (hT:∀ i,V.fp i→¬ T i):OSt base w' V S:=
  ⟨h.blk.keep k (hT _ (.inl rfl)),h.ge,h.rb.keep k fun b e=>hT b (.inr (.inl e)),h.bb,x_b h.ol k fun b e=>hT b (.inr (.inr (.inl e))),
   x_b h.oc k fun b e=>hT b (.inr (.inr (.inr (.inl e)))),x_b h.ot k fun b e=>hT b (.inr (.inr (.inr (.inr (.inl e))))),x_b h.on k fun b e=>hT b (.inr (.inr (.inr (.inr (.inr e))))),h.ct⟩
theorem OSt.lt {base:Nat} {w:World} {V:StV} {S:St} (h:OSt base w V S):base≤w.heap.size:=by
 have:=h.blk.lt;have:=h.ge;omega
theorem OSt.fp_lt {base:Nat} {w:World} {V:StV} {S:St} (h:OSt base w V S):∀ k,V.fp k→k < w.heap.size:=(h.at h.lt).lt
theorem OSt.bne {base:Nat} {w:World} {V:StV} {S:St} (h:OSt base w V S):∀ k,V.vb.ownBlock=some k→k≠V.b:=fun k e e'=>by
  have:=h.bb k e;have:=h.ge;omega
theorem OSt.lne {base:Nat} {w:World} {V:StV} {S:St} (h:OSt base w V S):V.vl.ownBlock≠some V.b:=x_c h.ol h.blk (by decide)
theorem OSt.cne {base:Nat} {w:World} {V:StV} {S:St} (h:OSt base w V S):V.vc.ownBlock≠some V.b:=x_c h.oc h.blk (by decide)
theorem OSt.tne {base:Nat} {w:World} {V:StV} {S:St} (h:OSt base w V S):V.vt.ownBlock≠some V.b:=x_c h.ot h.blk (by decide)
theorem OSt.nne {base:Nat} {w:World} {V:StV} {S:St} (h:OSt base w V S):V.vn.ownBlock≠some V.b:=x_c h.on h.blk (by decide)
theorem OSt.fp_ge {base:Nat} {w:World} {V:StV} {S:St} (h:OSt base w V S):(∀ k,V.vl.ownBlock=some k→base≤k)∧(∀ k,V.vc.ownBlock=some k→base≤k)∧(∀ k,V.vt.ownBlock=some k→base≤k)∧(∀ k,V.vn.ownBlock=some k→base≤k):=
  ⟨fun k e=>(h.ol.lt k e).1,fun k e=>(h.oc.lt k e).1,fun k e=>(h.ot.lt k e).1,fun k e=>(h.on.lt k e).1⟩
theorem OSt.setLots {base:Nat} {w w1:World} {V:StV} {S:St} {v':Value} {ls:List Lot} (h:OSt base w V S) (hk:Keep (fun k=>V.vl.ownBlock=some k) w w1) (ho:w1.ownsRow base 214 4 v' ls.length (lotCells ls)) (hf:v'.ownBlock=V.vl.ownBlock∨∃ g,v'.ownBlock=some g∧w.heap.size≤g):OSt base (w1.setCell ⟨V.b,1,none⟩ v') {V with vl:=v' } {S with lots:=ls}:=by
 have hs:Keep (fun k=>k=V.b) w1 (w1.setCell ⟨V.b,1,none⟩ v'):=(Keep.refl _ _).setCell _ _ (fun _=>rfl)
 have hv:v'.ownBlock≠some V.b:=by
  intro e;rcases hf with h1 | ⟨g,h1,h2⟩
  ·exact h.lne (h1 ▸ e)
  ·have:g=V.b:=Option.some.inj (h1.symm.trans e);have:=h.blk.lt;omega
 refine ⟨?_,h.ge,?_,h.bb,x_e ho _ _ hv,?_,?_,?_,h.ct⟩
 ·have:=(h.blk.keep hk h.lne).set 1 v';simpa [StV.cells] using this
 ·exact (h.rb.keep hk (fun b e e'=>by have:=h.bb b e;have:=h.fp_ge.1 b e';omega)).keep hs (fun b e e'=>h.bne b e e')
 ·exact x_e (x_b h.oc hk (fun b e e'=>x_f h.ol h.oc (by decide) b e' e)) _ _ h.cne
 ·exact x_e (x_b h.ot hk (fun b e e'=>x_f h.ol h.ot (by decide) b e' e)) _ _ h.tne
 ·exact x_e (x_b h.on hk (fun b e e'=>x_f h.ol h.on (by decide) b e' e)) _ _ h.nne
theorem OSt.setContacts {base:Nat} {w w1:World} {V:StV} {S:St} {v':Value} {ls:List (Int × Int)} (h:OSt base w V S) (hk:Keep (fun k=>V.vc.ownBlock=some k) w w1) (ho:w1.ownsRow base 176 2 v' ls.length (pairCells ls)) (hf:v'.ownBlock=V.vc.ownBlock∨∃ g,v'.ownBlock=some g∧w.heap.size≤g):OSt base (w1.setCell ⟨V.b,2,none⟩ v') {V with vc:=v' } {S with contacts:=ls}:=by
 have hs:Keep (fun k=>k=V.b) w1 (w1.setCell ⟨V.b,2,none⟩ v'):=(Keep.refl _ _).setCell _ _ (fun _=>rfl)
 have hv:v'.ownBlock≠some V.b:=by
  intro e;rcases hf with h1 | ⟨g,h1,h2⟩
  ·exact h.cne (h1 ▸ e)
  ·have:g=V.b:=Option.some.inj (h1.symm.trans e);have:=h.blk.lt;omega
 refine ⟨?_,h.ge,?_,h.bb,?_,x_e ho _ _ hv,?_,?_,?_⟩
 ·have:=(h.blk.keep hk h.cne).set 2 v';simpa [StV.cells] using this
 ·exact (h.rb.keep hk (fun b e e'=>by have:=h.bb b e;have:=h.fp_ge.2.1 b e';omega)).keep hs (fun b e e'=>h.bne b e e')
 ·exact x_e (x_b h.ol hk (fun b e e'=>x_f h.oc h.ol (by decide) b e' e)) _ _ h.lne
 ·exact x_e (x_b h.ot hk (fun b e e'=>h.ct b e' e)) _ _ h.tne
 ·exact x_e (x_b h.on hk (fun b e e'=>x_f h.oc h.on (by decide) b e' e)) _ _ h.nne
 ·intro k e e';rcases hf with h1 | ⟨g,h1,h2⟩
  ·exact h.ct k (h1 ▸ e) e'
  ·have:g=k:=Option.some.inj (h1.symm.trans e);have:=(h.ot.lt k e').2;omega
theorem OSt.setTests {base:Nat} {w w1:World} {V:StV} {S:St} {v':Value} {ls:List (Int × Int)} (h:OSt base w V S) (hk:Keep (fun k=>V.vt.ownBlock=some k) w w1) (ho:w1.ownsRow base 176 2 v' ls.length (pairCells ls)) (hf:v'.ownBlock=V.vt.ownBlock∨∃ g,v'.ownBlock=some g∧w.heap.size≤g):OSt base (w1.setCell ⟨V.b,3,none⟩ v') {V with vt:=v' } {S with tests:=ls}:=by
 have hs:Keep (fun k=>k=V.b) w1 (w1.setCell ⟨V.b,3,none⟩ v'):=(Keep.refl _ _).setCell _ _ (fun _=>rfl)
 have hv:v'.ownBlock≠some V.b:=by
  intro e;rcases hf with h1 | ⟨g,h1,h2⟩
  ·exact h.tne (h1 ▸ e)
  ·have:g=V.b:=Option.some.inj (h1.symm.trans e);have:=h.blk.lt;omega
 refine ⟨?_,h.ge,?_,h.bb,?_,?_,x_e ho _ _ hv,?_,?_⟩
 ·have:=(h.blk.keep hk h.tne).set 3 v';simpa [StV.cells] using this
 ·exact (h.rb.keep hk (fun b e e'=>by have:=h.bb b e;have:=h.fp_ge.2.2.1 b e';omega)).keep hs (fun b e e'=>h.bne b e e')
 ·exact x_e (x_b h.ol hk (fun b e e'=>x_f h.ot h.ol (by decide) b e' e)) _ _ h.lne
 ·exact x_e (x_b h.oc hk (fun b e e'=>h.ct b e e')) _ _ h.cne
 ·exact x_e (x_b h.on hk (fun b e e'=>x_f h.ot h.on (by decide) b e' e)) _ _ h.nne
 ·intro k e e';rcases hf with h1 | ⟨g,h1,h2⟩
  ·exact h.ct k e (h1 ▸ e')
  ·have:g=k:=Option.some.inj (h1.symm.trans e');have:=(h.oc.lt k e).2;omega
theorem OSt.setNotes {base:Nat} {w w1:World} {V:StV} {S:St} {v':Value} {ls:List ByteArray} (h:OSt base w V S) (hk:Keep (fun k=>V.vn.ownBlock=some k) w w1) (ho:w1.ownsRow base 9 1 v' ls.length (strCells ls)) (hf:v'.ownBlock=V.vn.ownBlock∨∃ g,v'.ownBlock=some g∧w.heap.size≤g):OSt base (w1.setCell ⟨V.b,4,none⟩ v') {V with vn:=v' } {S with notes:=ls}:=by
 have hs:Keep (fun k=>k=V.b) w1 (w1.setCell ⟨V.b,4,none⟩ v'):=(Keep.refl _ _).setCell _ _ (fun _=>rfl)
 have hv:v'.ownBlock≠some V.b:=by
  intro e;rcases hf with h1 | ⟨g,h1,h2⟩
  ·exact h.nne (h1 ▸ e)
  ·have:g=V.b:=Option.some.inj (h1.symm.trans e);have:=h.blk.lt;omega
 refine ⟨?_,h.ge,?_,h.bb,?_,?_,?_,x_e ho _ _ hv,h.ct⟩
 ·have:=(h.blk.keep hk h.nne).set 4 v';simpa [StV.cells] using this
 ·exact (h.rb.keep hk (fun b e e'=>by have:=h.bb b e;have:=h.fp_ge.2.2.2 b e';omega)).keep hs (fun b e e'=>h.bne b e e')
 ·exact x_e (x_b h.ol hk (fun b e e'=>x_f h.on h.ol (by decide) b e' e)) _ _ h.lne
 ·exact x_e (x_b h.oc hk (fun b e e'=>x_f h.on h.oc (by decide) b e' e)) _ _ h.cne
 ·exact x_e (x_b h.ot hk (fun b e e'=>x_f h.on h.ot (by decide) b e' e)) _ _ h.tne
theorem OSt.fp_new {base:Nat} {w:World} {V:StV} {S:St} (h:OSt base w V S):∀ k,V.fp k→V.vb.ownBlock=some k∨base≤k:=fun k hk=>by
  rcases hk with e | e | e | e | e | e
  · exact .inr (e ▸ h.ge)
  · exact .inl e
  · exact .inr (h.fp_ge.1 k e)
  · exact .inr (h.fp_ge.2.1 k e)
  · exact .inr (h.fp_ge.2.2.1 k e)
  · exact .inr (h.fp_ge.2.2.2 k e)
structure Chg (base:Nat) (w:World) (V V':StV) (w':World):Prop where
  b:V'.b=V.b
  vb:V'.vb=V.vb
  fp:∀ k,V'.fp k→V.fp k∨w.heap.size≤k
  keep:Keep (fun k=>base≤k∧V.fp k) w w'
theorem Chg.refl (base:Nat) (w:World) (V:StV):Chg base w V V w:=⟨rfl,rfl,fun _ h=>.inl h,Keep.refl _ _⟩
theorem Chg.trans {base:Nat} {w w1 w2:World} {V V1 V2:StV} (h:Chg base w V V1 w1) (h':Chg base w1 V1 V2 w2):Chg base w V V2 w2:=
  ⟨h'.b.trans h.b,h'.vb.trans h.vb,fun k hk=>(h'.fp k hk).elim (h.fp k) (fun e=>.inr (Nat.le_trans h.keep.size e)),
   h.keep.trans h'.keep (fun k hk e=>⟨e.1,(h.fp k e.2).elim id (fun e'=>absurd hk (by omega))⟩)⟩
theorem Chg.before {base:Nat} {w w1 w2:World} {V V2:StV} (k:Keep kF w w1) (h':Chg base w1 V V2 w2):Chg base w V V2 w2:=
  ⟨h'.b,h'.vb,fun i hi=>(h'.fp i hi).elim .inl (fun e=>.inr (Nat.le_trans k.size e)),(k.mono (fun _ _ e=>e.elim)).trans h'.keep n3⟩
theorem Chg.after {base:Nat} {w w1 w2:World} {V V2:StV} (h':Chg base w V V2 w1) (k:Keep kF w1 w2):Chg base w V V2 w2:=
  ⟨h'.b,h'.vb,h'.fp,h'.keep.trans k (fun _ _ e=>e.elim)⟩
end Go.Proofs.YthdkamnclbfehaaGreatDoor
