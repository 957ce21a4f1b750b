/- A part of the proof. -/
import Derived.Test.YthdkamnclbfehaaGreatDoorDaysM31
import Derived.Test.YthdkamnclbfehaaGreatDoorDaysM29
set_option linter.all false
set_option maxHeartbeats 20000000
set_option maxRecDepth 100000
namespace Go.Proofs.YthdkamnclbfehaaGreatDoor
open Go.RowKit Tryz
theorem rstate_any {w:World} {hb bd base m:Nat} {bv vl vc vt vn ln:Value} {S:St} {ls:List ByteArray} (hG:Glob w) (hblk:Blk w hb #[.pointer (some ⟨bd,0,none⟩),bv,vl,vc,vt,vn,ln,.bool false] 76) (hr:RRows base w vl vc vt vn ln S ls) (hI:Inv m S) (hm:m≤100000000):Calls prog 35 #[.pointer (some ⟨hb,0,none⟩)] w (IdxPost w (.string (textF S))):=by
 have C:=hD (rtext_any (vc:=vc) (vt:=vt) hG (x_g hr.l (y_n _)) (x_g hr.n (x_p _)) hI hm);obtain ⟨lo,lc,rfl,_⟩:=x_a hr.l;obtain ⟨co,cc,rfl,_⟩:=x_a hr.c;obtain ⟨to_,tc,rfl,_⟩:=x_a hr.t;obtain ⟨no,nc,rfl,_⟩:=x_a hr.n;have b2:=hblk.cell 2;have b3:=hblk.cell 3;have b4:=hblk.cell 4;have b5:=hblk.cell 5;simp at b2 b3 b4 b5;clear hr hI hG hblk;go_enter func35,ntmps35;go_wp2_with (go_at_call 68;refine C.out.mono ?_;rintro e w1 ⟨rfl,A⟩;have G:=hD A;clear A)
 go_ret;exact ⟨rfl,G.out⟩
structure Twin (w0 w:World) (d x:Nat) (D E:Dsk) (v u:Value):Prop where
  pair:Pair w0.heap.size w d x D E v u
  pt:∀ k,PT d x v u k→w0.heap.size≤k
  keep:Keep kF w0 w
theorem Twin.idle {w0 w w':World} {d x:Nat} {D E:Dsk} {v u:Value} (h:Twin w0 w d x D E v u) (k:Keep kF w w'):Twin w0 w' d x D E v u:=
  ⟨h.pair.keep k n3,h.pt,h.keep.trans k n3⟩
theorem Twin.chg {w0 w w1:World} {d x:Nat} {D E D' E':Dsk} {v u v' u':Value} (h:Twin w0 w d x D E v u) (p:Pair w0.heap.size w1 d x D' E' v' u'∧PChg w d x v u v' u' w1):Twin w0 w1 d x D' E' v' u':=
  ⟨p.1,fun k hk=>(p.2.fp k hk).elim (h.pt k) (fun e=>Nat.le_trans h.keep.size e),h.keep.trans p.2.keep (fun k hk e=>by have:=h.pt k e;omega)⟩
theorem Twin.a {w0 w w1:World} {d x:Nat} {D E D':Dsk} {v u v':Value} (h:Twin w0 w d x D E v u) (k1:Keep (fun k=>k=d∨v.ownBlock=some k) w w1) (h1:DiskAt w0.heap.size w1 d D' v')
    (f1:v'.ownBlock=v.ownBlock∨∃ g,v'.ownBlock=some g∧w.heap.size≤g):Twin w0 w1 d x D' E v' u:=h.chg (h.pair.stepA k1 h1 f1)
theorem Twin.b {w0 w w1:World} {d x:Nat} {D E E':Dsk} {v u u':Value} (h:Twin w0 w d x D E v u) (k1:Keep (fun k=>k=x∨u.ownBlock=some k) w w1) (h1:RDiskAt w0.heap.size w1 x E' u')
    (f1:u'.ownBlock=u.ownBlock∨∃ g,u'.ownBlock=some g∧w.heap.size≤g):Twin w0 w1 d x D E' v u':=h.chg (h.pair.stepB k1 h1 f1)
end Go.Proofs.YthdkamnclbfehaaGreatDoor
