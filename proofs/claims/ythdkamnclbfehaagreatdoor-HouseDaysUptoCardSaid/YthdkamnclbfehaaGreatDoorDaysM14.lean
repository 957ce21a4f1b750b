/- A part of the proof. -/
import Derived.Test.YthdkamnclbfehaaGreatDoorDaysM11
import Derived.Test.YthdkamnclbfehaaGreatDoorDaysM13
set_option linter.all false
set_option maxHeartbeats 20000000
set_option maxRecDepth 100000
namespace Go.Proofs.YthdkamnclbfehaaGreatDoor
open Go.RowKit Tryz
def addS (S:St) (x:Lot):St:={S with lots:=S.lots++[x]}
def AddPost (base:Nat) (w:World) (V:StV) (S:St) (x:Lot) (e:Ending) (w':World):Prop:=
  ∃ V',e = .returned (.string (⟨#[32]⟩++itoaB ((S.lots.length:Int)+1)))∧OSt base w' V' (addS S x)∧Chg base w V V' w'
theorem add_any {base:Nat} {w:World} {V:StV} {S:St} {x:Lot} (hG:GW base w) (h:OSt base w V S) (hl:S.lots.length≤1000):Calls prog 261 #[.pointer (some ⟨V.b,0,none⟩),.agg #[.string x.spice,.int .i64 x.grams,.int .i64 x.bay,.bool x.closed]] w (AddPost base w V S x):=by
 obtain ⟨b,vb,vl,vc,vt,vn⟩:=V;obtain ⟨lo,lc,aj,av,_⟩:=x_a h.ol;simp only at aj;subst aj;have U:=h.blk.lt;simp only at U;obtain ⟨w0,J⟩:∃ w0,w0=w.alloc (.cells #[.string x.spice,.int .i64 x.grams,.int .i64 x.bay,.bool x.closed] 214):=⟨_,rfl⟩;have X:Keep kF w w0:=(by rw [J];exact (Keep.refl _ _).alloc _);have aq:Blk w0 w.heap.size #[.string x.spice,.int .i64 x.grams,.int .i64 x.bay,.bool x.closed] 214:=(by rw [J];exact Blk.new _ _ _);have h0:=h.keep X n3;have ar:w0.heap.size=w.heap.size+1:=(by rw [J];simp);have c1:=h0.blk.cell 1;have f1:=h0.blk.free 1;simp [StV.cells] at c1 f1;have al:=hD (fun k e=>(h.ol.lt k e).2);have an:=hD J;clear J;have H0:=hD h0;clear h0;have H:=hD h;clear h;have ac:=hD X;clear X
 have A:Hid (∀ W,Keep (fun k=>k=b∨(Value.slice lo S.lots.length lc).ownBlock=some k) w0 W→W.cell? ⟨w.heap.size,0,none⟩=some (.string x.spice)∧W.cell? ⟨w.heap.size,1,none⟩=some (.int .i64 x.grams)∧W.cell? ⟨w.heap.size,2,none⟩=some (.int .i64 x.bay)∧W.cell? ⟨w.heap.size,3,none⟩=some (.bool x.closed)):=
   hD fun W hk=>by
     have hn:=aq.keep hk (fun e=>e.elim (fun e=>by omega) (fun e=>by have:=al.out _ e;omega))
     exact ⟨hn.cell 0,hn.cell 1,hn.cell 2,hn.cell 3⟩
 have C:Hid (Keep (fun k=>k=b∨(Value.slice lo S.lots.length lc).ownBlock=some k) w0 w0):=hD (Keep.refl _ _);obtain ⟨w1,M⟩:∃ w1,w1=w0.alloc (.cells #[.string x.spice,.int .i64 x.grams,.int .i64 x.bay,.bool x.closed] 214):=⟨_,rfl⟩;have Y:Keep kF w0 w1:=(by rw [M];exact (Keep.refl _ _).alloc _);have H1:=hD (H0.out.keep Y n3);have O:Hid (Src prog 4 111 (.slice (some ⟨w.heap.size+1,0,none⟩) 1 1) 1 (lotCell x) w1.drew):=hD (by have:=Rd.new w0 4 1 (lotCell x) 214 rfl (by simp [lotCell,Value.oneCell']) (by unfold maxLen;omega);rw [ar] at this;rw [M];exact this.drew.src underlying111);have ad:=hD Y;clear Y;have ao:=hD M;clear M;have ai:=(H.out.ol.lt);have am:Hid (w1.drew.ownsRow base 214 4 (.slice lo S.lots.length lc) S.lots.length (lotCells S.lots)):=hD H1.out.ol;go_enter func261,ntmps261;go_wp2
 rw [← an.out];refine wp_region_noPanic ?_;refine wp_region_held_drew (S:=fun W=>W.cell? ⟨w.heap.size,0,none⟩=some (.string x.spice)∧W.cell? ⟨w.heap.size,1,none⟩=some (.int .i64 x.grams)∧W.cell? ⟨w.heap.size,2,none⟩=some (.int .i64 x.bay)∧W.cell? ⟨w.heap.size,3,none⟩=some (.bool x.closed)) (by kernel_rfl) (A.out _ C.out.drew) fun hHeld=>?_;refine wS 0 ?_;refine wS 1 ?_;refine wS 2 ?_;refine wS 3 ?_;refine wS 5 ?_;refine wR (rs:=[4,6]) ?_;refine AllReadyH.cons (o:=_) rfl (fun K hK=>?_) (AllReadyH.cons (o:=_) rfl (fun K hK=>?_) AllReadyH.nil)
 all_goals
  go_simp;refine hK.out _ _ ?_ fun hHeld=>?_
  ·((try dsimp only);refine A.out _ ?_;exact kX C.out)
  clear hK K;(try simp only [tA])
 focus
  refine wR (rs:=[6]) ?_
 rotate_left
 focus
  refine wR (rs:=[4]) ?_
 rotate_left
 all_goals
  refine aR rfl fun K hK=>?_;go_simp;refine hK.out _ _ ?_ fun hHeld=>?_
  ·((try dsimp only);refine A.out _ ?_;exact kX C.out)
  clear hK K;(try simp only [tA]);refine wB 7 fun K hK=>?_;rw [← ao.out];refine x_q (w:=w1.drew) (.tmp 9) (.tmp 11) 111 111 rfl 214 zLot 4 40 underlying111 info214 rfl am.out rfl O.out rfl (by unfold maxLen;omega) (by omega) H1.out.lt (fun v' w7 happ=>?_);obtain ⟨R,G,rfl,_⟩:=x_a happ.own;have C:=hD ((ad.out.drew.mono (fun _ _ h=>h.elim)).trans happ.keep (fun _ _ h=>.inr h):Keep (fun k=>k=b∨(Value.slice lo S.lots.length lc).ownBlock=some k) w0 w7);have c1:=(happ.keep.cell (p:=⟨b,1,none⟩) H1.out.blk.lt H1.out.lne).trans (H1.out.blk.cell 1);have f1:=(happ.keep.frozen (p:=⟨b,1,none⟩) H1.out.blk.lt H1.out.lne).trans (H1.out.blk.free 1);simp [StV.cells] at c1;have HA:=hD happ;clear happ;refine hK.out _ _ ?_ fun hHeld=>?_
  ·((try dsimp only);refine A.out _ ?_;exact kX C.out)
  clear hK K;(try simp only [tA]);refine wS 8 ?_;refine wS 9 ?_;refine wA 10 fun K hK=>?_;go_simp;refine hK.out _ _ ?_ fun hHeld=>?_
  ·((try dsimp only);refine A.out _ ?_;exact kX C.out)
  clear hK K;(try simp only [tA]);refine wpAnyH_done (by kernel_rfl) ?_ _;refine NoPanic.normal ?_;have h7:=(H1.out.keep (Keep.refl kF w1).drew n3).setLots (w1:=w7) (v':=.slice R (S.lots.length+1) G) (ls:=S.lots++[x]) (HA.out.keep) (by have:=HA.out.own;simpa [lotCells,lotCell] using this) HA.out.fresh;have Z:Keep (fun k=>k=b∨(Value.slice lo S.lots.length lc).ownBlock=some k) w0 (w7.setCell ⟨b,1,none⟩ (.slice R (S.lots.length+1) G)):=C.out.setCell _ _ (fun _=>.inl rfl);obtain ⟨w8,aa⟩:∃ w8,w8=w7.setCell ⟨b,1,none⟩ (.slice R (S.lots.length+1) G):=⟨_,rfl⟩;rw [← aa] at h7 Z;rw [← aa];clear aa c1 f1;have c1:=h7.blk.cell 1;simp [StV.cells] at c1;have H7:=hD h7;clear h7;have ak:=hD Z;clear Z;have ae:=hD ((ac.out.mono (T:=fun k=>base≤k∧StV.fp ⟨b,vb,.slice lo S.lots.length lc,vc,vt,vn⟩ k) (fun _ _ h=>h.elim)).trans ak.out (fun k _ e=>e.elim (fun e=>⟨e ▸ H.out.ge,.inl e⟩) (fun e=>⟨H.out.fp_ge.1 k e,.inr (.inr (.inl e))⟩)));have au:(9223372036854775807 < 1+(itoaB ((S.lots.length:Int)+1)).size)=False:=eq_false (by have:=x_r ((S.lots.length:Int)+1) (by omega) (by omega);omega);go_wp2_with (go_at_call 96;have hh:=x_y (w:=w8) (n:=(S.lots.length:Int)+1) (hG.keep ae.out (fun i hi e=>by have:=e.1;omega)).glob (by omega) (by omega);refine Calls.mono hh ?_;clear hh;rintro e w9 ⟨rfl,ah⟩;have ag:=hD ah;clear ah)
  go_ret;refine ⟨_,rfl,H7.out.keep ag.out n3,rfl,rfl,fun k hk=>?_,ae.out.trans ag.out (fun _ _ h=>h.elim)⟩;rcases hk with e | e | e | e
  ·exact .inl (.inl e)
  ·exact .inl (.inr (.inl e))
  ·rcases HA.out.fresh with h1 | ⟨g,h1,h2⟩
   ·exact .inl (.inr (.inr (.inl (h1.symm.trans e))))
   ·have h3:g=k:=Option.some.inj (h1.symm.trans e);have h4:=ad.out.size;have h5:=ac.out.size;have h6:w1.heap.size≤g:=h2;exact .inr (by omega)
  ·exact .inl (.inr (.inr (.inr e)))
structure FA where
  n:List Int
  word:ByteArray
  ok:Bool
def goodB:ByteArray:=bs [103,111,111,100]
def badBs:ByteArray:=bs [98,97,100]
def stepF (a:FA) (p:UInt8 × ByteArray):FA:=
  if p.1=115 then ⟨a.n,p.2,a.ok && isSpiceB p.2⟩
  else if p.1=116 then ⟨a.n,p.2,a.ok && (decide (p.2=goodB) || decide (p.2=badBs))⟩
  else ⟨a.n++[atoiN p.2],a.word,a.ok && atoiOk p.2 && decide (p.2.size≤6) && decide (0≤atoiN p.2) && decide (itoaB (atoiN p.2)=p.2)⟩
def foldF (so:List UInt8) (ws:List ByteArray):FA:=(so.zip ws).foldl stepF ⟨[],bs [],true⟩
def formF (s:ByteArray):Option (List UInt8 × Nat × FA):=
  if isLineB s then
    match chF ((words s).headD (bs [])).data.toList with
    | some (so,f)=>if (words s).length - 1=so.length then some (so,f,foldF so (words s).tail) else none
    | none=>none
  else none
def FormPost (w:World) (s:ByteArray) (e:Ending) (w':World):Prop:=
  match formF s with
  | none=>e = .returned (.tuple #[.agg #[.string (bs []),.nilFunc],.agg #[.slice none 0 0,.string (bs [])],.bool false])∧Keep kF w w'
  | some (so,f,a)=>∃ vn,e = .returned (.tuple #[.agg #[.string (bs so),.func (.func f) #[] #[]],.agg #[vn,.string a.word],.bool a.ok])∧w'.ownsRow w.heap.size 3 1 vn a.n.length (icells a.n)∧Keep kF w w'
@[go_sem] theorem run_store_nilFunc (P:Program) (w:World) (a:Addr) (m:Mode):(store a .nilFunc m).run P w=stored P w a .nilFunc m:=run_store P w a _ m rfl
@[go_sem] theorem run_store_func (P:Program) (w:World) (a:Addr) (m:Mode) (f:Fn) (x y:Array Value):(store a (.func f x y) m).run P w=stored P w a (.func f x y) m:=run_store P w a _ m rfl
theorem form_results (tmps:Array Value) (w:World) {b1 b2:Nat} {v0 v1 u0 u1 ok:Value} (h2:tmps[2]?.getD undef = .pointer (some ⟨b1,0,none⟩)) (h3:tmps[3]?.getD undef = .pointer (some ⟨b2,0,none⟩)) (h4:tmps[4]?.getD undef=ok) (c0:w.cell? ⟨b1,0,none⟩=some v0) (c1:w.cell? ⟨b1,1,none⟩=some v1) (d0:w.cell? ⟨b2,0,none⟩=some u0) (d1:w.cell? ⟨b2,1,none⟩=some u1):(results Tryz.f71 tmps).run prog w = .ok (.tuple #[.agg #[v0,v1],.agg #[u0,u1],ok]) w:=by
 have hr:Tryz.f71.results=#[.cell 2 132,.cell 3 134,.tmp 4]:=(by kernel_rfl);unfold results;rw [hr];simp [h2,h3,h4,go_sem,c0,c1,d0,d1];try simp [go_sem,c0,c1,d0,d1,Result.andThen]
theorem form_back {R:Ending→World→Prop} {a:Act} {w1:World} {b1 b2:Nat} {c1 c2:Array Value} {v0 v1 u0 u1 ok:Value} (B1:Blk w1 b1 c1 132) (B2:Blk w1 b2 c2 134) (s1:c1.size=2) (s2:c2.size=2) (hne:b1≠b2) (h2:a.tmps[2]?.getD undef = .pointer (some ⟨b1,0,none⟩)) (h3:a.tmps[3]?.getD undef = .pointer (some ⟨b2,0,none⟩)) (h4:a.tmps[4]?.getD undef=ok) (hd:a.defers=[]) (hR:∀ wf,Keep (fun k=>k=b1∨k=b2) w1 wf→R (.returned (.tuple #[.agg #[v0,v1],.agg #[u0,u1],ok])) wf):bodyPost prog Tryz.f71 R .ret a ((((w1.setCell ⟨b1,0,none⟩ v0).setCell ⟨b1,1,none⟩ v1).setCell ⟨b2,0,none⟩ u0).setCell ⟨b2,1,none⟩ u1):=by
 have D1:=(((B1.set 0 v0).set 1 v1).setOther ⟨b2,0,none⟩ u0 hne).setOther ⟨b2,1,none⟩ u1 hne;have D2:=(((B2.setOther ⟨b1,0,none⟩ v0 (fun h=>hne h.symm)).setOther ⟨b1,1,none⟩ v1 (fun h=>hne h.symm)).set 0 u0).set 1 u1;refine bodyPost_ret (form_results _ _ h2 h3 h4 ((D1.cell 0).trans ?_) ((D1.cell 1).trans ?_) ((D2.cell 0).trans ?_) ((D2.cell 1).trans ?_)) hd (hR _ ?_)
 ·simp [s1]
 ·simp [s1]
 ·simp [s2]
 ·simp [s2]
 ·exact ((((Keep.refl _ _).setCell _ _ (fun _=>.inl rfl)).setCell _ _ (fun _=>.inl rfl)).setCell _ _ (fun _=>.inr rfl)).setCell _ _ (fun _=>.inr rfl)
theorem form_backd {R:Ending→World→Prop} {a:Act} {w1:World} {b1 b2:Nat} {c1 c2:Array Value} {v0 v1 u0 u1 ok:Value} (B1:Blk w1 b1 c1 132) (B2:Blk w1 b2 c2 134) (s1:c1.size=2) (s2:c2.size=2) (hne:b1≠b2) (h2:a.tmps[2]?.getD undef = .pointer (some ⟨b1,0,none⟩)) (h3:a.tmps[3]?.getD undef = .pointer (some ⟨b2,0,none⟩)) (h4:a.tmps[4]?.getD undef=ok) (hd:a.defers=[]) (hR:∀ wf,Keep (fun k=>k=b1∨k=b2) w1 wf→R (.returned (.tuple #[.agg #[v0,v1],.agg #[u0,u1],ok])) wf):bodyPost prog Tryz.f71 R .ret a ((((w1.setCell ⟨b1,0,none⟩ v0).setCell ⟨b1,1,none⟩ v1).setCell ⟨b2,0,none⟩ u0).setCell ⟨b2,1,none⟩ u1).drew:=by
 have D1:=(((B1.set 0 v0).set 1 v1).setOther ⟨b2,0,none⟩ u0 hne).setOther ⟨b2,1,none⟩ u1 hne;have D2:=(((B2.setOther ⟨b1,0,none⟩ v0 (fun h=>hne h.symm)).setOther ⟨b1,1,none⟩ v1 (fun h=>hne h.symm)).set 0 u0).set 1 u1;refine bodyPost_ret (form_results _ _ h2 h3 h4 ((D1.drew.cell 0).trans ?_) ((D1.drew.cell 1).trans ?_) ((D2.drew.cell 0).trans ?_) ((D2.drew.cell 1).trans ?_)) hd (hR _ ?_)
 ·simp [s1]
 ·simp [s1]
 ·simp [s2]
 ·simp [s2]
 ·exact (((((Keep.refl _ _).setCell _ _ (fun _=>.inl rfl)).setCell _ _ (fun _=>.inl rfl)).setCell _ _ (fun _=>.inr rfl)).setCell _ _ (fun _=>.inr rfl)).drew
theorem x_n (s:ByteArray) (l:List UInt8):s.toList=l↔s=bs l:=by
 rw [ByteArray.toList_eq];constructor
 ·intro h;exact ByteArray.ext (by rw [← h];rfl)
 ·intro h;rw [h];rfl
theorem beq_dec (s t:ByteArray):(s.toList == t.toList)=decide (s=t):=by
 by_cases h:s=t
 ·rw [h];simp
 ·rw [decide_eq_false h];exact beq_eq_false_iff_ne.2 (fun h'=>h (by rw [ByteArray.toList_eq,ByteArray.toList_eq] at h';exact ByteArray.ext (Array.toList_inj.1 h')))
theorem chF_len {s so:List UInt8} {f:Nat} (h:chF s=some (so,f)):1≤so.length∧so.length≤3:=by
 unfold chF at h;repeat' split at h
 all_goals first | (cases h;simp;done) | (cases h)
theorem splitB_size (sep:ByteArray) (save:Nat):∀ (k:Nat) (s:ByteArray),∀ x∈Lib.splitB sep save k s,x.size≤s.size:=by
 intro k;induction k with
 | zero=>intro s x hx;simp [Lib.splitB] at hx;rw [hx];exact Nat.le_refl _
 | succ k ih=>
  intro s x hx;unfold Lib.splitB at hx;split at hx
  ·simp at hx;rw [hx];exact Nat.le_refl _
  ·rcases List.mem_cons.1 hx with h | h
   ·rw [h,ByteArray.size_extract];omega
   ·have:=ih _ x h;rw [ByteArray.size_extract] at this;omega
theorem word_size {s:ByteArray} {j:Nat} (hj:j < (words s).length):((words s).getD j ByteArray.empty).size≤s.size:=by
 have e:(words s).getD j ByteArray.empty=(words s)[j]:=(by simp [List.getD,hj]);rw [e];exact splitB_size _ _ _ _ _ (List.getElem_mem hj)
def SplitPost2 (w0 w1:World) (s:ByteArray) (bm:Nat) (e:Ending) (w2:World):Prop:=
  e = .returned (.slice (some ⟨w1.heap.size,0,none⟩) (words s).length (words s).length)∧Keep kF w0 w2∧w2.cell? ⟨0,0,none⟩=some (.map (some bm))∧
  (∀ j,j < (words s).length→w2.cell? ⟨w1.heap.size,j,none⟩=some (.string ((words s).getD j ByteArray.empty)))∧
  (∀ W,Keep kF w2 W→(Instr.lookup 182 (.map (some bm)) (.string ((words s).getD 0 ByteArray.empty)) true).run prog W = .ok (.tuple #[chV ((words s).getD 0 ByteArray.empty).data.toList,.bool (chF ((words s).getD 0 ByteArray.empty).data.toList).isSome]) W)
theorem split2_any {w w0 w1:World} {s:ByteArray} {bm:Nat} (hG:Glob w) (hk0:Keep kF w w0) (hk1:Keep kF w0 w1) (hs:s.size≤4096) (hm:w.cell? ⟨0,0,none⟩=some (.map (some bm))) (hbm:bm < w.heap.size) (hch:ChAt bm w.heap[bm]?):Calls prog 101 #[.string s,.string ⟨#[32]⟩] w1 (SplitPost2 w0 w1 s bm):=by
 have hk:=hk0.trans hk1 n3;refine (split_any (hG.keep hk) hs).mono ?_;rintro e w2 ⟨rfl,rfl⟩;have h9:=hG.size;refine ⟨rfl,hk1.alloc _,?_,fun j hj=>?_,fun W hW=>?_⟩
 ·rw [((hk.alloc _).cell (p:=⟨0,0,none⟩) (show 0 < w.heap.size by omega) (fun h=>h))];exact hm
 ·have:=u_x w1 s j hj;rwa [Nat.zero_add] at this
 ·have h1:0 < (words s).length:=(by rw [x_v];omega);exact hch W (((hk.alloc _).trans hW n3).block bm hbm (fun h=>h)) _ (Nat.le_trans (word_size h1) hs)
theorem form_any {w:World} {s:ByteArray} (hG:Glob w) (hs:s.size≤9223372036854775807):Calls prog 71 #[.string s] w (FormPost w s):=by
 obtain ⟨w0,aX⟩:∃ w0,w0=(w.alloc (.cells #[.string ⟨#[]⟩,.nilFunc] 132)).alloc (.cells #[.slice none 0 0,.string ⟨#[]⟩] 134):=⟨_,rfl⟩;have b1:Keep kF w w0:=(by rw [aX];exact ((Keep.refl _ _).alloc _).alloc _);have a7:Blk w0 w.heap.size #[.string ⟨#[]⟩,.nilFunc] 132:=(by rw [aX];exact (Blk.new _ _ _).alloc _);have a8:Blk w0 (w.heap.size+1) #[.slice none 0 0,.string ⟨#[]⟩] 134:=by rw [aX];have:=Blk.new (w.alloc (.cells #[.string ⟨#[]⟩,.nilFunc] 132)) #[.slice none 0 0,.string ⟨#[]⟩] 134;rwa [World.size_alloc] at this
 have HR:Hid (∀ W,Keep kF w0 W→(W.cell? ⟨w.heap.size,0,none⟩=some (.string ⟨#[]⟩)∧W.cell? ⟨w.heap.size,1,none⟩=some .nilFunc∧W.cell? ⟨w.heap.size+1,0,none⟩=some (.slice none 0 0)∧W.cell? ⟨w.heap.size+1,1,none⟩=some (.string ⟨#[]⟩))∧
     W.frozen? ⟨w.heap.size,0,none⟩=false∧W.frozen? ⟨w.heap.size,1,none⟩=false∧W.frozen? ⟨w.heap.size+1,0,none⟩=false∧W.frozen? ⟨w.heap.size+1,1,none⟩=false):=hD fun W hk=>
   ⟨⟨((a7.keep hk (fun h=>h)).cell 0),((a7.keep hk (fun h=>h)).cell 1),((a8.keep hk (fun h=>h)).cell 0),((a8.keep hk (fun h=>h)).cell 1)⟩,
     ((a7.keep hk (fun h=>h)).free 0),((a7.keep hk (fun h=>h)).free 1),((a8.keep hk (fun h=>h)).free 0),((a8.keep hk (fun h=>h)).free 1)⟩
 have HL:=hD (isLine_any (w:=w0) (s:=s) (hG.keep b1) hs);have HG:=hD hG;clear hG;have bx:=hD aX;clear aX;have ad:=hD b1;clear b1;cases hl:isLineB s
 ·have HF:=hD (show formF s=none by unfold formF;rw [hl];rfl);rw [hl] at HL;clear hl;go_enter func71,ntmps71;go_wp2_with (go_at_call 100;rw [← bx.out];refine HL.out.mono ?_;rintro e w1 ⟨rfl,ag⟩;obtain ⟨⟨r0,r1,r2,r3⟩,g0,g1,g2,g3⟩:=HR.out w1 ag;have am:=hD ag;clear ag)
  (try simp only [Exit.inBlock,Exit.then]);refine form_back (a7.keep am.out (fun h=>h)) (a8.keep am.out (fun h=>h)) rfl rfl (by omega) rfl rfl rfl rfl fun wf Y=>?_;show FormPost _ _ _ _;unfold FormPost;rw [HF.out];exact ⟨rfl,(ad.out.trans am.out n3).trans Y (fun k hk e=>by omega)⟩
 ·have ch:s.size≤200:=(by unfold isLineB at hl;simp at hl;exact hl.1);obtain ⟨bm,hm,bD,bF⟩:=HG.out.changes;have aa:Hid (∀ w1,Keep kF w0 w1→Calls prog 101 #[.string s,.string ⟨#[32]⟩] w1 (SplitPost2 w0 w1 s bm)):=hD fun w1 ag=>split2_any HG.out ad.out ag (by omega) hm bD bF;clear hm bD bF;have aJ:1≤(words s).length:=(by rw [x_v];omega);have bJ:(words s).length≤201:=(by have:=Lib.countB_le ⟨#[32]⟩ (by decide) s.size s (Nat.le_refl _);rw [x_v];omega);unfold SplitPost2 at aa
  have bn:=hD (show formF s=match chF ((words s).getD 0 ByteArray.empty).data.toList with
    | some (so,f)=>if (words s).length - 1=so.length then some (so,f,foldF so (words s).tail) else none
    | none=>none by unfold formF;rw [hl];rw [if_pos rfl];cases hw:words s with | nil=>rw [hw] at aJ;exact absurd aJ (by simp) | cons a b=>rfl)
  rw [hl] at HL;clear hl;obtain ⟨ws,b8⟩:∃ ws,words s=ws:=⟨_,rfl⟩;rw [b8] at aa aJ bJ bn;have bB:=hD b8;clear b8;obtain ⟨hd,ay⟩:∃ hd,ws.getD 0 ByteArray.empty=hd:=⟨_,rfl⟩;have ba:=hD ay;have bq:=hD a7;clear a7;have bf:=hD a8;clear a8;cases hc:chF hd.data.toList with
  | none=>
   have HF:=hD (show formF s=none by rw [bn.out,ay,hc]);rw [ay] at aa;have aM:chV hd.data.toList = .agg #[.string ⟨#[]⟩,.nilFunc]:=(by unfold chV;rw [hc];rfl);rw [hc,aM] at aa;clear hc ay aM;go_enter func71,ntmps71
   go_wp2_with (first
     | (go_at_call 100;rw [← bx.out];refine HL.out.mono ?_;rintro e w1 ⟨rfl,ag⟩;have am:=hD ag;clear ag)
     | (go_at_call 101;refine (aa.out w1 am.out).mono ?_;rintro e w2 ⟨rfl,aQ,cg,cw,aU⟩;have aE:=hD aQ;clear aQ;have au:=cw 0 (by omega);rw [ba.out] at au;have aH:=hD aU;(try rw [ba.out] at aH);clear aU;have bA:=hD cw;clear cw;obtain ⟨⟨r0,r1,r2,r3⟩,g0,g1,g2,g3⟩:=HR.out w2 aE.out))
   have b9:w1.heap.size < w2.heap.size:=(by have:=World.block_lt_of_cell? w2 _ au;exact this);have h9:=HG.out.size;have bZ:=am.out.size;have bY:=ad.out.size;have HS:Hid (∀ W,Keep (fun k=>k=w2.heap.size) w2 W→W.cell? ⟨0,0,none⟩=some (.map (some bm))∧W.cell? ⟨w1.heap.size,0,none⟩=some (.string hd)∧(Instr.lookup 182 (.map (some bm)) (.string hd) true).run prog W = .ok (.tuple #[.agg #[.string ⟨#[]⟩,.nilFunc],.bool false]) W):=hD fun W hk=>(by have az:Keep kF w2 W:=hk.mono (fun k h1 h2=>by omega);exact ⟨(az.cell (p:=⟨0,0,none⟩) (show 0 < w2.heap.size by omega) (fun h=>h)).trans cg,(az.cell (p:=⟨w1.heap.size,0,none⟩) b9 (fun h=>h)).trans au,by rw [aH.out W az];rfl⟩);refine wp_region_held_drew (S:=fun W=>W.cell? ⟨0,0,none⟩=some (.map (some bm))∧W.cell? ⟨w1.heap.size,0,none⟩=some (.string hd)∧(Instr.lookup 182 (.map (some bm)) (.string hd) true).run prog W = .ok (.tuple #[.agg #[.string ⟨#[]⟩,.nilFunc],.bool false]) W) (by kernel_rfl) (HS.out _ (Keep.refl _ _).drew) fun hHeld=>?_;have bI:0 < ws.length:=aJ;refine wS 0 ?_;refine wS 1 ?_;refine wS 2 ?_;refine wS 3 ?_;refine wS 4 ?_;refine wS 5 ?_;refine wS 6 ?_;refine wS 7 ?_;refine wA 8 fun K hK=>?_;go_simp;refine hK.out _ _ ?_ fun hHeld=>?_
   ·(refine HS.out _ ?_;exact kW)
   clear hK K;(try simp only [tA]);refine wA 9 fun K hK=>?_;go_simp;refine hK.out _ _ ?_ fun hHeld=>?_
   ·(refine HS.out _ ?_;exact kW)
   clear hK K;(try simp only [tA]);refine wS 10 ?_;refine wpAnyH_done (by kernel_rfl) ?_ _;have aj:Keep kF w0 (w2.alloc (.cells #[.string ⟨#[]⟩,.nilFunc] 132)).drew:=(aE.out.alloc _).drew;obtain ⟨w3,aB⟩:∃ w3,w3=(w2.alloc (.cells #[.string ⟨#[]⟩,.nilFunc] 132)).drew:=⟨_,rfl⟩;rw [← aB] at aj;rw [← aB];clear aB r0 r1 r2 r3 g0 g1 g2 g3 au cg HS;obtain ⟨⟨r0,r1,r2,r3⟩,g0,g1,g2,g3⟩:=HR.out w3 aj;have an:=hD aj;clear aj;go_wp2
   (try simp only [Exit.inBlock,Exit.then]);refine form_back (bq.out.keep an.out (fun h=>h)) (bf.out.keep an.out (fun h=>h)) rfl rfl (by omega) rfl rfl rfl rfl fun wf Y=>?_;show FormPost _ _ _ _;unfold FormPost;rw [HF.out];exact ⟨rfl,(ad.out.trans an.out n3).trans Y (fun k hk e=>by omega)⟩
  | some x=>
   obtain ⟨so,f⟩:=x;rw [ay] at aa;have aM:chV hd.data.toList = .agg #[.string (bs so),.func (.func f) #[] #[]]:=(by unfold chV;rw [hc]);have HF:=hD (show formF s=(if ws.length - 1=so.length then some (so,f,foldF so ws.tail) else none) by rw [bn.out,ay,hc]);rw [hc,aM] at aa;have HC:=hD hc;clear hc;have b6:(bs so).size=so.length:=(by simp [bs,ByteArray.size]);clear ay aM;go_enter func71,ntmps71
   go_wp2_with (first
     | (go_at_call 100;rw [← bx.out];refine HL.out.mono ?_;rintro e w1 ⟨rfl,ag⟩;have am:=hD ag;clear ag)
     | (go_at_call 101;refine (aa.out w1 am.out).mono ?_;rintro e w2 ⟨rfl,aQ,cg,cw,aU⟩;have aE:=hD aQ;clear aQ;have au:=cw 0 (by omega);rw [ba.out] at au;have aH:=hD aU;(try rw [ba.out] at aH);clear aU;have bA:=hD cw;clear cw;obtain ⟨⟨r0,r1,r2,r3⟩,g0,g1,g2,g3⟩:=HR.out w2 aE.out))
   have b9:w1.heap.size < w2.heap.size:=(by have:=World.block_lt_of_cell? w2 _ au;exact this);have h9:=HG.out.size;have bZ:=am.out.size;have bY:=ad.out.size;have HS:Hid (∀ W,Keep (fun k=>k=w2.heap.size) w2 W→W.cell? ⟨0,0,none⟩=some (.map (some bm))∧W.cell? ⟨w1.heap.size,0,none⟩=some (.string hd)∧(Instr.lookup 182 (.map (some bm)) (.string hd) true).run prog W = .ok (.tuple #[.agg #[.string (bs so),.func (.func f) #[] #[]],.bool true]) W):=hD fun W hk=>(by have az:Keep kF w2 W:=hk.mono (fun k h1 h2=>by omega);exact ⟨(az.cell (p:=⟨0,0,none⟩) (show 0 < w2.heap.size by omega) (fun h=>h)).trans cg,(az.cell (p:=⟨w1.heap.size,0,none⟩) b9 (fun h=>h)).trans au,by rw [aH.out W az];rfl⟩);refine wp_region_held_drew (S:=fun W=>W.cell? ⟨0,0,none⟩=some (.map (some bm))∧W.cell? ⟨w1.heap.size,0,none⟩=some (.string hd)∧(Instr.lookup 182 (.map (some bm)) (.string hd) true).run prog W = .ok (.tuple #[.agg #[.string (bs so),.func (.func f) #[] #[]],.bool true]) W) (by kernel_rfl) (HS.out _ (Keep.refl _ _).drew) fun hHeld=>?_;have bI:0 < ws.length:=aJ;refine wS 0 ?_;refine wS 1 ?_;refine wS 2 ?_;refine wS 3 ?_;refine wS 4 ?_;refine wS 5 ?_;refine wS 6 ?_;refine wS 7 ?_;refine wA 8 fun K hK=>?_;go_simp;refine hK.out _ _ ?_ fun hHeld=>?_
   ·(refine HS.out _ ?_;exact kW)
   clear hK K;(try simp only [tA]);refine wA 9 fun K hK=>?_;go_simp;refine hK.out _ _ ?_ fun hHeld=>?_
   ·(refine HS.out _ ?_;exact kW)
   clear hK K;(try simp only [tA]);refine wS 10 ?_;refine wpAnyH_done (by kernel_rfl) ?_ _;have aj:Keep kF w0 (w2.alloc (.cells #[.string (bs so),.func (.func f) #[] #[]] 132)).drew:=(aE.out.alloc _).drew;have aW:Blk (w2.alloc (.cells #[.string (bs so),.func (.func f) #[] #[]] 132)).drew w2.heap.size #[.string (bs so),.func (.func f) #[] #[]] 132:=(Blk.new _ _ _).drew;have a1:Keep kF w2 (w2.alloc (.cells #[.string (bs so),.func (.func f) #[] #[]] 132)).drew:=((Keep.refl _ _).alloc _).drew;obtain ⟨w3,aB⟩:∃ w3,w3=(w2.alloc (.cells #[.string (bs so),.func (.func f) #[] #[]] 132)).drew:=⟨_,rfl⟩;rw [← aB] at aj aW a1;rw [← aB];clear aB r0 r1 r2 r3 g0 g1 g2 g3 au cg HS;have s0:=aW.cell 0;have s1:=aW.cell 1;simp at s0 s1;have br:=hD aW;clear aW;have aF:=hD a1;clear a1;have e1:IntKind.i64.wrap ((ws.length:Int) - 1)=(ws.length:Int) - 1:=IntWalk.i64_in _ (by omega);by_cases aT:ws.length - 1=so.length
   ·have b5:(((ws.length:Int) - 1) != ((bs so).size:Int))=false:=(by rw [b6];simp;omega);have an:=hD aj;clear aj;have b2:(1:Int)≤(ws.length:Int):=(by omega);rw [if_pos aT] at HF;have ck:=aF.out.size;have ci:=chF_len HC.out;have bX:(ws.length=1)=False:=eq_false (by omega);have bW:(so.length=0)=False:=eq_false (by omega);have a6:Keep kF w3 (w3.alloc (.cells #[.slice none 0 0,.string ⟨#[]⟩] 134)):=(Keep.refl _ _).alloc _;have b3:Blk (w3.alloc (.cells #[.slice none 0 0,.string ⟨#[]⟩] 134)) w3.heap.size #[.slice none 0 0,.string ⟨#[]⟩] 134:=Blk.new _ _ _;have aC:(w3.alloc (.cells #[.slice none 0 0,.string ⟨#[]⟩] 134)).heap.size=w3.heap.size+1:=(by simp);have aI:=hD (World.ownsRow_nil (w3.alloc (.cells #[.slice none 0 0,.string ⟨#[]⟩] 134)) (w3.alloc (.cells #[.slice none 0 0,.string ⟨#[]⟩] 134)).heap.size 3 1);go_wp2
    obtain ⟨w4,b7⟩:∃ w4,w4=(w3.alloc (.cells #[.slice none 0 0,.string ⟨#[]⟩] 134)):=⟨_,rfl⟩;rw [← b7] at a6 b3 aC aI;rw [← b7];clear b7 s0 s1;rw [show (((ws.length:Int) - 1) != (so.length:Int))=false by rw [← b6];exact b5];clear b5 e1 b2;have bH:=hD b3;clear b3;have aq:=hD a6;clear a6;go_loopw [7,44] (fun o i wr=>∃ (k:Nat) (a:FA) (vn:Value),k≤so.length∧i = .int .i64 k∧o = .bool a.ok∧a=((so.zip ws.tail).take k).foldl stepF ⟨[],bs [],true⟩∧a.n.length≤k∧wr.ownsRow w4.heap.size 3 1 vn a.n.length (icells a.n)∧Blk wr w3.heap.size #[vn,.string a.word] 134∧Keep (fun b=>b=w3.heap.size) w4 wr) (fun _ i _=>so.length - (intOf i).toNat)
    ·exact ⟨0,⟨[],bs [],true⟩,.slice none 0 0,by omega,rfl,rfl,by simp,by simp,aI.out,bH.out,Keep.refl _ _⟩
    case round=>
     obtain ⟨k,a,vn,hk,rfl,rfl,ha,aD,aA,aK,ax⟩:=hrel;have HA:=hD ha;clear ha;obtain ⟨ao,bz,hv,bM,_⟩:=x_a aA;subst hv;have HO:=hD aA;clear aA;have HB:=hD aK;clear aK;have HK:=hD ax;clear ax;have hz:=HK.out.size;have cf:=br.out.lt;have ce:=bf.out.lt;have aP:Keep (fun b=>b=w3.heap.size) w0 wr:=((an.out.trans aq.out n3).mono (fun _ _ h=>h.elim)).trans HK.out n3;have aO:Keep kF w0 wr:=aP.mono (fun k h1 h2=>by omega);have U:=hD aO;clear aP aO;by_cases aV:k < so.length
     ·have B6:=((br.out.keep aq.out (fun h=>h)).keep HK.out (show ¬ w2.heap.size=w3.heap.size by omega));have d0:=B6.cell 0;have d2:=HB.out.cell 0;have d3:=HB.out.cell 1;have f2:=HB.out.free 0;have f3:=HB.out.free 1;simp at d0 d2 d3;clear B6;have aS:Keep (fun b=>b=w3.heap.size) w2 wr:=((aF.out.trans aq.out n3).mono (fun _ _ h=>h.elim)).trans HK.out n3;have bC:=(aS.cell (p:=⟨w1.heap.size,k+1,none⟩) (show w1.heap.size < w2.heap.size by omega) (show ¬ w1.heap.size=w3.heap.size by omega)).trans (bA.out (k+1) (by omega));clear aS;rw [Nat.add_comm k 1] at bC;obtain ⟨wd,bl⟩:∃ wd,ws.getD (1+k) ByteArray.empty=wd:=⟨_,rfl⟩;rw [bl] at bC;obtain ⟨c,aL⟩:∃ c,so[k]?=some c:=⟨so[k],List.getElem?_eq_getElem aV⟩;have bR:((k:Int) < (so.length:Int))=True:=(by simp;omega);have cj:IntKind.i64.wrap ((k:Int)+1)=(k:Int)+1:=IntWalk.i64_in _ (by omega);have aY:((so.zip ws.tail).take (k+1)).foldl stepF ⟨[],bs [],true⟩=stepF a (c,wd):=(by have ag:k < (so.zip ws.tail).length:=(by rw [List.length_zip,List.length_tail];omega);rw [List.take_succ_eq_append_getElem ag,List.foldl_append,← HA.out];have h1:so[k]=c:=(by rw [List.getElem?_eq_getElem aV] at aL;exact Option.some.inj aL);have h2:ws.tail[k]'(by rw [List.length_tail];omega)=wd:=(by rw [← bl,List.getElem_tail,Nat.add_comm 1 k];simp [List.getD,show k+1 < ws.length by omega]);simp only [List.getElem_zip,List.foldl_cons,List.foldl_nil,h1,h2]);have HZ:=hD aY;clear aY;have bE:(bs so)[k]'(by omega)=c:=(by rw [List.getElem?_eq_getElem aV] at aL;rw [← Option.some.inj aL];rfl);have bV:wd.size≤200:=(by have:=word_size (s:=s) (j:=1+k) (by rw [bB.out];omega);rw [bB.out,bl] at this;omega);have av:∀ W,(Instr.index 9 (.string (bs so)) (.int .i64 k)).run prog W = .ok (.int .u8 c.toNat) W:=fun W=>(by rw [run_index_string W 9 (bs so) .i64 k underlying9,dif_pos (by omega)];simp only [Int.toNat_natCast,bE]);clear bE aL bl;have ac:Hid ((Value.slice ao a.n.length bz).ownBlock≠some w3.heap.size):=hD fun h=>(by have:=(x_d HO.out _ h).1;rw [aC] at this;omega);have X:Hid (∀ (a':FA) (vn:Value) (w6:World),a'=stepF a (c,wd)→a'.n.length≤k+1→w6.ownsRow w4.heap.size 3 1 vn a'.n.length (icells a'.n)→Blk w6 w3.heap.size #[vn,.string a'.word] 134→Keep (fun b=>b=w3.heap.size) w4 w6→∃ (k_1:Nat) (a:FA) (vn:Value),k_1≤so.length∧Value.int .i64 ((k:Int)+1) = .int .i64 k_1∧Value.bool a'.ok = .bool a.ok∧a=((so.zip ws.tail).take k_1).foldl stepF ⟨[],bs [],true⟩∧a.n.length≤k_1∧w6.ownsRow w4.heap.size 3 1 vn a.n.length (icells a.n)∧Blk w6 w3.heap.size #[vn,.string a.word] 134∧Keep (fun b=>b=w3.heap.size) w4 w6):=hD fun a' vn w6 h1 h2 h3 h4 h5=>⟨k+1,a',vn,aV,rfl,rfl,by rw [h1,HZ.out],h2,h3,h4,h5⟩;by_cases bh:c=115
      ·subst bh;have aN:∀ W,(Instr.index 9 (.string (bs so)) (.int .i64 k)).run prog W = .ok (.int .u8 115) W:=av;clear av;have hst:stepF a (115,wd)=⟨a.n,wd,a.ok && isSpiceB wd⟩:=rfl;have ae:=hD hst;clear hst;cases ah:a.ok
       ·go_wp2
        go_roundw
        case rel=>exact X.out ⟨a.n,wd,false⟩ _ _ (by rw [ae.out,ah];rfl) (Nat.le_succ_of_le aD) (x_e HO.out _ _ ac.out) (by simpa using HB.out.set 1 (.string wd)) (HK.out.setCell _ _ (fun _=>rfl))
        case measure=>simp [intOf];omega
       ·go_wp2_with (go_at_call 102;have hh:=isSpice_any (w:=wr) (s:=wd) (by omega);refine Calls.mono hh ?_;clear hh;rintro e w5 ⟨rfl,J⟩;have d3:=(J.cell (p:=⟨w3.heap.size,1,none⟩) HB.out.lt (fun h=>h)).trans d3;have f3:=(J.frozen (p:=⟨w3.heap.size,1,none⟩) HB.out.lt (fun h=>h)).trans f3;have G:=hD J;clear J)
        go_roundw
        case rel=>exact X.out ⟨a.n,wd,isSpiceB wd⟩ _ _ (by rw [ae.out,ah];rfl) (Nat.le_succ_of_le aD) (x_e (x_b HO.out G.out n3) _ _ ac.out) (by simpa using (HB.out.keep G.out (fun h=>h)).set 1 (.string wd)) ((HK.out.trans G.out (fun _ _ h=>h.elim)).setCell _ _ (fun _=>rfl))
        case measure=>simp [intOf];omega
      by_cases bi:c=116
      ·subst bi;have aN:∀ W,(Instr.index 9 (.string (bs so)) (.int .i64 k)).run prog W = .ok (.int .u8 116) W:=av;clear av;have hst:stepF a (116,wd)=⟨a.n,wd,a.ok && (decide (wd=goodB) || decide (wd=badBs))⟩:=rfl;have ae:=hD hst;clear hst;cases ah:a.ok
       ·go_wp2
        go_roundw
        case rel=>exact X.out ⟨a.n,wd,false⟩ _ _ (by rw [ae.out,ah];rfl) (Nat.le_succ_of_le aD) (x_e HO.out _ _ ac.out) (by simpa using HB.out.set 1 (.string wd)) (HK.out.setCell _ _ (fun _=>rfl))
        case measure=>simp [intOf];omega
       ·by_cases hg:wd=goodB
        ·have bO:(wd.toList=[103,111,111,100])=True:=eq_true ((x_n _ _).2 hg);have aZ:=hD (show decide (wd=goodB)=true from decide_eq_true hg);clear hg;go_wp2
         go_roundw
         case rel=>exact X.out ⟨a.n,wd,true⟩ _ _ (by rw [ae.out,ah,aZ.out];rfl) (Nat.le_succ_of_le aD) (x_e HO.out _ _ ac.out) (by simpa using HB.out.set 1 (.string wd)) (HK.out.setCell _ _ (fun _=>rfl))
         case measure=>simp [intOf];omega
        ·have bO:(wd.toList=[103,111,111,100])=False:=eq_false (fun h=>hg ((x_n _ _).1 h));have bK:(wd.toList == [103,111,111,100])=false:=beq_eq_false_iff_ne.2 (fun h=>hg ((x_n _ _).1 h));have aZ:=hD (show decide (wd=goodB)=false from decide_eq_false hg);clear hg;by_cases hb:wd=badBs
         ·have bL:(wd.toList=[98,97,100])=True:=eq_true ((x_n _ _).2 hb);have b0:(wd.toList == [98,97,100])=true:=beq_iff_eq.2 ((x_n _ _).2 hb);have bp:=hD (show decide (wd=badBs)=true from decide_eq_true hb);clear hb;go_wp2
          go_roundw
          case rel=>exact X.out ⟨a.n,wd,true⟩ _ _ (by rw [ae.out,ah,aZ.out,bp.out];rfl) (Nat.le_succ_of_le aD) (x_e HO.out _ _ ac.out) (by simpa using HB.out.set 1 (.string wd)) (HK.out.setCell _ _ (fun _=>rfl))
          case measure=>simp [intOf];omega
         ·have bL:(wd.toList=[98,97,100])=False:=eq_false (fun h=>hb ((x_n _ _).1 h));have b0:(wd.toList == [98,97,100])=false:=beq_eq_false_iff_ne.2 (fun h=>hb ((x_n _ _).1 h));have bp:=hD (show decide (wd=badBs)=false from decide_eq_false hb);clear hb;go_wp2
          go_roundw
          case rel=>exact X.out ⟨a.n,wd,false⟩ _ _ (by rw [ae.out,ah,aZ.out,bp.out];rfl) (Nat.le_succ_of_le aD) (x_e HO.out _ _ ac.out) (by simpa using HB.out.set 1 (.string wd)) (HK.out.setCell _ _ (fun _=>rfl))
          case measure=>simp [intOf];omega
      have ca:((c.toNat:Int) == 115)=false:=(by have:c.toNat≠115:=fun h=>bh (UInt8.toNat.inj h);simp;omega);have cb:((c.toNat:Int) == 116)=false:=(by have:c.toNat≠116:=fun h=>bi (UInt8.toNat.inj h);simp;omega);have hst:stepF a (c,wd)=⟨a.n++[atoiN wd],a.word,a.ok && atoiOk wd && decide (wd.size≤6) && decide (0≤atoiN wd) && decide (itoaB (atoiN wd)=wd)⟩:=(by unfold stepF;rw [if_neg bh,if_neg bi]);have ae:=hD hst;clear hst bh bi;cases ah:a.ok
      ·cases aw:atoiOk wd
       focus
        have ai:=hD (show atoiOk wd=false from aw)
       rotate_left
       focus
        have ai:=hD (show atoiOk wd=true from aw)
       rotate_left
       all_goals
        clear aw;go_wp2_with (first | (go_at_call 103;have hh:=v_g (w:=wr) (s:=wd) (HG.out.keep (ad.out.trans U.out n3)) (by omega);refine Calls.mono hh ?_;clear hh;rintro e w5 ⟨N,rfl,J⟩;rw [ai.out];simp only [errV];have d2:=(J.cell (p:=⟨w3.heap.size,0,none⟩) HB.out.lt (fun h=>h)).trans d2;have f2:=(J.frozen (p:=⟨w3.heap.size,0,none⟩) HB.out.lt (fun h=>h)).trans f2;have G:=hD J;clear J) | (at_builtin;refine x_h (w:=w5.alloc (.cells #[.int .i64 (atoiN wd)] 3)) rfl (.tmp 79) (.tmp 81) 34 34 rfl 3 (.int .i64 0) 1 8 underlying34 info3' rfl ((x_b HO.out G.out n3).alloc _) rfl (Src.new (P:=prog) underlying34 w5 1 [.int .i64 (atoiN wd)] 3 rfl (by simp [Value.oneCell'])) rfl ?hb1 ?hb2 ?hb3 ?hgo))
        case hb1=>first | omega | (simp;omega) | (unfold maxLen;omega) | (unfold maxLen;simp;omega)
        case hb2=>first | omega | (simp;omega) | (unfold maxLen;omega) | (unfold maxLen;simp;omega)
        case hb3=>have z2:=G.out.size;have z4:=HK.out.size;simp;omega
        case hgo=>
        intro v' w7 A;obtain ⟨O,C,rfl,_⟩:=x_a A.own;have R:=(((HB.out.keep G.out (fun h=>h)).alloc (.cells #[.int .i64 (atoiN wd)] 3)).keep A.keep (fun e=>ac.out e))
        have M:(Value.slice O (a.n.length+1) C).ownBlock≠some w3.heap.size:=by
         intro h;rcases A.fresh with h1 | ⟨g,h1,h2⟩
         ·exact ac.out (h1 ▸ h)
         ·have h5:g=w3.heap.size:=Option.some.inj (h1.symm.trans h);have z1:=HB.out.lt;have z2:=G.out.size;rw [World.size_alloc] at h2;omega
        have Y:Keep (fun b=>b=w3.heap.size) w4 w7:=((HK.out.trans G.out (fun _ _ h=>h.elim)).alloc _).trans A.keep (fun g hg e=>by have h3:=x_d HO.out g e;omega);have ar:=hD Y;clear Y;have Z:=hD M;clear M;have d2:=R.cell 0;have f2:=R.free 0;simp at d2;have al:=hD R;clear R;have ak:=hD A;clear A;go_wp2
        go_roundw
        case rel=>exact X.out ⟨a.n++[atoiN wd],a.word,false⟩ (.slice O (a.n.length+1) C) _ (by rw [ae.out,ah];rfl) (by simp;omega) (by simpa [icells,aC] using x_e ak.out.own ⟨w3.heap.size,0,none⟩ (.slice O (a.n.length+1) C) Z.out) (by simpa using al.out.set 0 (.slice O (a.n.length+1) C)) (ar.out.setCell _ _ (fun _=>rfl))
        case measure=>simp [intOf];omega
      ·cases aw:atoiOk wd
       ·have ai:=hD (show atoiOk wd=false from aw);clear aw;go_wp2_with (first | (go_at_call 103;have hh:=v_g (w:=wr) (s:=wd) (HG.out.keep (ad.out.trans U.out n3)) (by omega);refine Calls.mono hh ?_;clear hh;rintro e w5 ⟨N,rfl,J⟩;rw [ai.out];simp only [errV];have d2:=(J.cell (p:=⟨w3.heap.size,0,none⟩) HB.out.lt (fun h=>h)).trans d2;have f2:=(J.frozen (p:=⟨w3.heap.size,0,none⟩) HB.out.lt (fun h=>h)).trans f2;have G:=hD J;clear J) | (at_builtin;refine x_h (w:=w5.alloc (.cells #[.int .i64 (atoiN wd)] 3)) rfl (.tmp 79) (.tmp 81) 34 34 rfl 3 (.int .i64 0) 1 8 underlying34 info3' rfl ((x_b HO.out G.out n3).alloc _) rfl (Src.new (P:=prog) underlying34 w5 1 [.int .i64 (atoiN wd)] 3 rfl (by simp [Value.oneCell'])) rfl ?hb1 ?hb2 ?hb3 ?hgo))
        case hb1=>first | omega | (simp;omega) | (unfold maxLen;omega) | (unfold maxLen;simp;omega)
        case hb2=>first | omega | (simp;omega) | (unfold maxLen;omega) | (unfold maxLen;simp;omega)
        case hb3=>have z2:=G.out.size;have z4:=HK.out.size;simp;omega
        case hgo=>
        intro v' w7 A;obtain ⟨O,C,rfl,_⟩:=x_a A.own;have R:=(((HB.out.keep G.out (fun h=>h)).alloc (.cells #[.int .i64 (atoiN wd)] 3)).keep A.keep (fun e=>ac.out e))
        have M:(Value.slice O (a.n.length+1) C).ownBlock≠some w3.heap.size:=by
         intro h;rcases A.fresh with h1 | ⟨g,h1,h2⟩
         ·exact ac.out (h1 ▸ h)
         ·have h5:g=w3.heap.size:=Option.some.inj (h1.symm.trans h);have z1:=HB.out.lt;have z2:=G.out.size;rw [World.size_alloc] at h2;omega
        have Y:Keep (fun b=>b=w3.heap.size) w4 w7:=((HK.out.trans G.out (fun _ _ h=>h.elim)).alloc _).trans A.keep (fun g hg e=>by have h3:=x_d HO.out g e;omega);have ar:=hD Y;clear Y;have Z:=hD M;clear M;have d2:=R.cell 0;have f2:=R.free 0;simp at d2;have al:=hD R;clear R;have ak:=hD A;clear A;go_wp2
        go_roundw
        case rel=>exact X.out ⟨a.n++[atoiN wd],a.word,false⟩ (.slice O (a.n.length+1) C) _ (by rw [ae.out,ah,ai.out];rfl) (by simp;omega) (by simpa [icells,aC] using x_e ak.out.own ⟨w3.heap.size,0,none⟩ (.slice O (a.n.length+1) C) Z.out) (by simpa using al.out.set 0 (.slice O (a.n.length+1) C)) (ar.out.setCell _ _ (fun _=>rfl))
        case measure=>simp [intOf];omega
       ·have ai:=hD (show atoiOk wd=true from aw);clear aw;by_cases bk:wd.size≤6
        ·have bU:decide ((wd.size:Int)≤6)=true:=decide_eq_true (by omega);have bg:=hD (show decide (wd.size≤6)=true from decide_eq_true bk);clear bk;by_cases bG:0≤atoiN wd
         ·have b4:decide ((0:Int)≤atoiN wd)=true:=decide_eq_true bG;have bt:=hD b4;go_wp2_with (first | (go_at_call 103;have hh:=v_g (w:=wr) (s:=wd) (HG.out.keep (ad.out.trans U.out n3)) (by omega);refine Calls.mono hh ?_;clear hh;rintro e w5 ⟨N,rfl,J⟩;rw [ai.out];simp only [errV];have d2:=(J.cell (p:=⟨w3.heap.size,0,none⟩) HB.out.lt (fun h=>h)).trans d2;have f2:=(J.frozen (p:=⟨w3.heap.size,0,none⟩) HB.out.lt (fun h=>h)).trans f2;have G:=hD J;clear J) | (go_at_call 96;have hh:=x_y (w:=w5) (n:=atoiN wd) ((HG.out.keep (ad.out.trans U.out n3)).keep G.out) (u_w wd).1 (u_w wd).2;refine Calls.mono hh ?_;clear hh;rintro e w6 ⟨rfl,bj⟩;have d2:=(bj.cell (p:=⟨w3.heap.size,0,none⟩) (Nat.lt_of_lt_of_le HB.out.lt G.out.size) (fun h=>h)).trans d2;have f2:=(bj.frozen (p:=⟨w3.heap.size,0,none⟩) (Nat.lt_of_lt_of_le HB.out.lt G.out.size) (fun h=>h)).trans f2;have aG:=hD bj;clear bj) | (at_builtin;refine x_h (w:=w6.alloc (.cells #[.int .i64 (atoiN wd)] 3)) rfl (.tmp 79) (.tmp 81) 34 34 rfl 3 (.int .i64 0) 1 8 underlying34 info3' rfl ((x_b (x_b HO.out G.out n3) aG.out n3).alloc _) rfl (Src.new (P:=prog) underlying34 w6 1 [.int .i64 (atoiN wd)] 3 rfl (by simp [Value.oneCell'])) rfl ?hb1 ?hb2 ?hb3 ?hgo))
          case hb1=>first | omega | (simp;omega) | (unfold maxLen;omega) | (unfold maxLen;simp;omega)
          case hb2=>first | omega | (simp;omega) | (unfold maxLen;omega) | (unfold maxLen;simp;omega)
          case hb3=>have z2:=G.out.size;have z3:=aG.out.size;have z4:=HK.out.size;simp;omega
          case hgo=>
          intro v' w7 A;obtain ⟨O,C,rfl,_⟩:=x_a A.own;have R:=((((HB.out.keep G.out (fun h=>h)).keep aG.out (fun h=>h)).alloc (.cells #[.int .i64 (atoiN wd)] 3)).keep A.keep (fun e=>ac.out e))
          have M:(Value.slice O (a.n.length+1) C).ownBlock≠some w3.heap.size:=by
           intro h;rcases A.fresh with h1 | ⟨g,h1,h2⟩
           ·exact ac.out (h1 ▸ h)
           ·have h5:g=w3.heap.size:=Option.some.inj (h1.symm.trans h);have z1:=HB.out.lt;have z2:=G.out.size;have z3:=aG.out.size;rw [World.size_alloc] at h2;omega
          have Y:Keep (fun b=>b=w3.heap.size) w4 w7:=(((HK.out.trans G.out (fun _ _ h=>h.elim)).trans aG.out (fun _ _ h=>h.elim)).alloc _).trans A.keep (fun g hg e=>by have h3:=x_d HO.out g e;omega);have ar:=hD Y;clear Y;have Z:=hD M;clear M;have d2:=R.cell 0;have f2:=R.free 0;simp at d2;have al:=hD R;clear R;have ak:=hD A;clear A;go_wp2
          go_roundw
          case rel=>rw [beq_dec];exact X.out ⟨a.n++[atoiN wd],a.word,decide (itoaB (atoiN wd)=wd)⟩ (.slice O (a.n.length+1) C) _ (by rw [ae.out,ah,ai.out,bg.out,bt.out];simp) (by simp;omega) (by simpa [icells,aC] using x_e ak.out.own ⟨w3.heap.size,0,none⟩ (.slice O (a.n.length+1) C) Z.out) (by simpa using al.out.set 0 (.slice O (a.n.length+1) C)) (ar.out.setCell _ _ (fun _=>rfl))
          case measure=>simp [intOf];omega
         ·have b4:decide ((0:Int)≤atoiN wd)=false:=decide_eq_false bG;have bt:=hD b4;go_wp2_with (first | (go_at_call 103;have hh:=v_g (w:=wr) (s:=wd) (HG.out.keep (ad.out.trans U.out n3)) (by omega);refine Calls.mono hh ?_;clear hh;rintro e w5 ⟨N,rfl,J⟩;rw [ai.out];simp only [errV];have d2:=(J.cell (p:=⟨w3.heap.size,0,none⟩) HB.out.lt (fun h=>h)).trans d2;have f2:=(J.frozen (p:=⟨w3.heap.size,0,none⟩) HB.out.lt (fun h=>h)).trans f2;have G:=hD J;clear J) | (at_builtin;refine x_h (w:=w5.alloc (.cells #[.int .i64 (atoiN wd)] 3)) rfl (.tmp 79) (.tmp 81) 34 34 rfl 3 (.int .i64 0) 1 8 underlying34 info3' rfl ((x_b HO.out G.out n3).alloc _) rfl (Src.new (P:=prog) underlying34 w5 1 [.int .i64 (atoiN wd)] 3 rfl (by simp [Value.oneCell'])) rfl ?hb1 ?hb2 ?hb3 ?hgo))
          case hb1=>first | omega | (simp;omega) | (unfold maxLen;omega) | (unfold maxLen;simp;omega)
          case hb2=>first | omega | (simp;omega) | (unfold maxLen;omega) | (unfold maxLen;simp;omega)
          case hb3=>have z2:=G.out.size;have z4:=HK.out.size;simp;omega
          case hgo=>
          intro v' w7 A;obtain ⟨O,C,rfl,_⟩:=x_a A.own;have R:=(((HB.out.keep G.out (fun h=>h)).alloc (.cells #[.int .i64 (atoiN wd)] 3)).keep A.keep (fun e=>ac.out e))
          have M:(Value.slice O (a.n.length+1) C).ownBlock≠some w3.heap.size:=by
           intro h;rcases A.fresh with h1 | ⟨g,h1,h2⟩
           ·exact ac.out (h1 ▸ h)
           ·have h5:g=w3.heap.size:=Option.some.inj (h1.symm.trans h);have z1:=HB.out.lt;have z2:=G.out.size;rw [World.size_alloc] at h2;omega
          have Y:Keep (fun b=>b=w3.heap.size) w4 w7:=((HK.out.trans G.out (fun _ _ h=>h.elim)).alloc _).trans A.keep (fun g hg e=>by have h3:=x_d HO.out g e;omega);have ar:=hD Y;clear Y;have Z:=hD M;clear M;have d2:=R.cell 0;have f2:=R.free 0;simp at d2;have al:=hD R;clear R;have ak:=hD A;clear A;go_wp2
          go_roundw
          case rel=>exact X.out ⟨a.n++[atoiN wd],a.word,false⟩ (.slice O (a.n.length+1) C) _ (by rw [ae.out,ah,ai.out,bg.out,bt.out];simp) (by simp;omega) (by simpa [icells,aC] using x_e ak.out.own ⟨w3.heap.size,0,none⟩ (.slice O (a.n.length+1) C) Z.out) (by simpa using al.out.set 0 (.slice O (a.n.length+1) C)) (ar.out.setCell _ _ (fun _=>rfl))
          case measure=>simp [intOf];omega
        ·have bU:decide ((wd.size:Int)≤6)=false:=decide_eq_false (by omega);have bg:=hD (show decide (wd.size≤6)=false from decide_eq_false bk);clear bk;go_wp2_with (first | (go_at_call 103;have hh:=v_g (w:=wr) (s:=wd) (HG.out.keep (ad.out.trans U.out n3)) (by omega);refine Calls.mono hh ?_;clear hh;rintro e w5 ⟨N,rfl,J⟩;rw [ai.out];simp only [errV];have d2:=(J.cell (p:=⟨w3.heap.size,0,none⟩) HB.out.lt (fun h=>h)).trans d2;have f2:=(J.frozen (p:=⟨w3.heap.size,0,none⟩) HB.out.lt (fun h=>h)).trans f2;have G:=hD J;clear J) | (at_builtin;refine x_h (w:=w5.alloc (.cells #[.int .i64 (atoiN wd)] 3)) rfl (.tmp 79) (.tmp 81) 34 34 rfl 3 (.int .i64 0) 1 8 underlying34 info3' rfl ((x_b HO.out G.out n3).alloc _) rfl (Src.new (P:=prog) underlying34 w5 1 [.int .i64 (atoiN wd)] 3 rfl (by simp [Value.oneCell'])) rfl ?hb1 ?hb2 ?hb3 ?hgo))
         case hb1=>first | omega | (simp;omega) | (unfold maxLen;omega) | (unfold maxLen;simp;omega)
         case hb2=>first | omega | (simp;omega) | (unfold maxLen;omega) | (unfold maxLen;simp;omega)
         case hb3=>have z2:=G.out.size;have z4:=HK.out.size;simp;omega
         case hgo=>
         intro v' w7 A;obtain ⟨O,C,rfl,_⟩:=x_a A.own;have R:=(((HB.out.keep G.out (fun h=>h)).alloc (.cells #[.int .i64 (atoiN wd)] 3)).keep A.keep (fun e=>ac.out e))
         have M:(Value.slice O (a.n.length+1) C).ownBlock≠some w3.heap.size:=by
          intro h;rcases A.fresh with h1 | ⟨g,h1,h2⟩
          ·exact ac.out (h1 ▸ h)
          ·have h5:g=w3.heap.size:=Option.some.inj (h1.symm.trans h);have z1:=HB.out.lt;have z2:=G.out.size;rw [World.size_alloc] at h2;omega
         have Y:Keep (fun b=>b=w3.heap.size) w4 w7:=((HK.out.trans G.out (fun _ _ h=>h.elim)).alloc _).trans A.keep (fun g hg e=>by have h3:=x_d HO.out g e;omega);have ar:=hD Y;clear Y;have Z:=hD M;clear M;have d2:=R.cell 0;have f2:=R.free 0;simp at d2;have al:=hD R;clear R;have ak:=hD A;clear A;go_wp2
         go_roundw
         case rel=>exact X.out ⟨a.n++[atoiN wd],a.word,false⟩ (.slice O (a.n.length+1) C) _ (by rw [ae.out,ah,ai.out,bg.out];simp) (by simp;omega) (by simpa [icells,aC] using x_e ak.out.own ⟨w3.heap.size,0,none⟩ (.slice O (a.n.length+1) C) Z.out) (by simpa using al.out.set 0 (.slice O (a.n.length+1) C)) (ar.out.setCell _ _ (fun _=>rfl))
         case measure=>simp [intOf];omega
     ·have bQ:k=so.length:=(by omega);subst bQ;clear aV;have bu:Hid (∀ W,Keep (fun k=>k=w.heap.size∨k=w.heap.size+1) wr W→W.cell? ⟨w2.heap.size,0,none⟩=some (.string (bs so))∧W.cell? ⟨w2.heap.size,1,none⟩=some (.func (.func f) #[] #[])∧W.cell? ⟨w3.heap.size,0,none⟩=some (.slice ao a.n.length bz)∧W.cell? ⟨w3.heap.size,1,none⟩=some (.string a.word)):=hD fun W hW=>(by have B6:=(((br.out.keep aq.out (fun h=>h)).keep HK.out (show ¬ w2.heap.size=w3.heap.size by omega)).keep hW (show ¬ (w2.heap.size=w.heap.size∨w2.heap.size=w.heap.size+1) by omega));have B8:=HB.out.keep hW (show ¬ (w3.heap.size=w.heap.size∨w3.heap.size=w.heap.size+1) by omega);exact ⟨B6.cell 0,B6.cell 1,B8.cell 0,B8.cell 1⟩);obtain ⟨d0,d1,d2,d3⟩:=bu.out wr (Keep.refl _ _);have cd:Keep kF w0 wr.drew:=U.out.drew;obtain ⟨⟨r0,r1,r2,r3⟩,g0,g1,g2,g3⟩:=HR.out wr U.out;have bP:((so.length:Int) < (so.length:Int))=False:=(by simp);go_wp2
      go_region_held3 (fun W=>W.cell? ⟨w2.heap.size,0,none⟩=some (.string (bs so))∧W.cell? ⟨w2.heap.size,1,none⟩=some (.func (.func f) #[] #[])∧W.cell? ⟨w3.heap.size,0,none⟩=some (.slice ao a.n.length bz)∧W.cell? ⟨w3.heap.size,1,none⟩=some (.string a.word)) (first | exact ⟨d0,d1,d2,d3⟩ | ((refine bu.out _ ?_;exact kW))) (fail)
      clear d0 d1 d2 d3 r0 r1 r2 r3 g0 g1 g2 g3 bP bu;go_wp2
      (try simp only [Exit.inBlock,Exit.then]);refine form_backd (bq.out.keep U.out (fun h=>h)) (bf.out.keep U.out (fun h=>h)) rfl rfl (by omega) rfl rfl rfl rfl fun wf Y=>?_;show FormPost _ _ _ _;unfold FormPost;rw [HF.out];have bN:a=foldF so ws.tail:=(by rw [HA.out];unfold foldF;rw [List.take_of_length_le (by rw [List.length_zip];omega)]);rw [← bN];refine ⟨_,rfl,?_,(ad.out.trans U.out n3).trans Y (fun k hk e=>by omega)⟩;exact x_i (x_b HO.out Y (fun g hg e=>by have:=x_d HO.out g hg;omega)) (by omega)
   ·have b5:(((ws.length:Int) - 1) != ((bs so).size:Int))=true:=(by rw [b6];simp;omega);have bS:(((ws.length:Int) - 1) != (so.length:Int))=true:=(by simp;omega);have bT:(((ws.length:Int) - 1)=(so.length:Int))=False:=(by simp;omega);rw [if_neg aT] at HF;obtain ⟨⟨r0,r1,r2,r3⟩,g0,g1,g2,g3⟩:=HR.out w3 aj;have an:=hD aj;clear aj;go_wp2
    (try simp only [Exit.inBlock,Exit.then]);refine form_back (bq.out.keep an.out (fun h=>h)) (bf.out.keep an.out (fun h=>h)) rfl rfl (by omega) rfl rfl rfl rfl fun wf Y=>?_;show FormPost _ _ _ _;unfold FormPost;rw [HF.out];exact ⟨rfl,(ad.out.trans an.out n3).trans Y (fun k hk e=>by omega)⟩
structure Res where
  err:Int
  st:St
  out:ByteArray
def RunPost (base:Nat) (w:World) (V:StV) (r:Res) (e:Ending) (w':World):Prop:=
  e = .returned (.tuple #[.string r.out,.int .i64 r.err])∧∃ V',(r.err=0→OSt base w' V' r.st)∧Chg base w V V' w'
structure Args (base:Nat) (w:World) (vn:Value) (a:FA):Prop where
  rd:Rd w 1 vn a.n.length (icells a.n)
  lt:∀ k,vn.ownBlock=some k→k < base
def takeF (S:St) (a:FA):Res:=
  if S.lots.length=20 then ⟨9,S,bs []⟩ else if a.n.headD 0=0 then ⟨2,S,bs []⟩ else ⟨0,addS S ⟨a.word,a.n.headD 0,-1,false⟩,bs [116,97,107,101]++(bs [32]++itoaB ((S.lots.length:Int)+1))⟩
theorem take_any {base:Nat} {w:World} {V:StV} {S:St} {vn:Value} {a:FA} (hG:GW base w) (h:OSt base w V S) (hl:S.lots.length≤20) (ha:Args base w vn a) (hn:a.n.length=1):Calls prog 255 #[.pointer (some ⟨V.b,0,none⟩),.agg #[vn,.string a.word]] w (RunPost base w V (takeF S a)):=by
 obtain ⟨x,hx⟩:∃ x,a.n=[x]:=List.length_eq_one_iff.1 hn;obtain ⟨an,word,Y⟩:=a;simp only at hx hn;subst hx;have M:=ha.rd;rcases M.2.2 with ⟨_,h1⟩ | ⟨nb,no,nc,rfl,ao,aq,A⟩
 ·simp at h1
 have R:=A 0 (.int .i64 x) (by simp [icells]);rw [Nat.add_zero] at R;simp only [List.length_singleton] at *;obtain ⟨w0,J⟩:∃ w0,w0=w.alloc (.cells #[.slice (some ⟨nb,no,none⟩) 1 nc,.string word] 134):=⟨_,rfl⟩;have G:Keep kF w w0:=(by rw [J];exact (Keep.refl _ _).alloc _);have ae:Blk w0 w.heap.size #[.slice (some ⟨nb,no,none⟩) 1 nc,.string word] 134:=(by rw [J];exact Blk.new _ _ _);have h0:=h.keep G n3;obtain ⟨lo,lc,ah,au,_⟩:=x_a h.ol;have C:=World.block_lt_of_cell? w _ R;simp only at C;have av:nb < base:=ha.lt nb rfl;have c1:=h0.blk.cell 1;simp [StV.cells] at c1;rw [ah,J] at c1;have ac:Hid (Keep (fun k=>base≤k∧V.fp k) w0 w0):=hD (Keep.refl _ _)
 have HC:Hid (∀ W,Keep (fun k=>base≤k∧V.fp k) w0 W→W.cell? ⟨w.heap.size,0,none⟩=some (.slice (some ⟨nb,no,none⟩) 1 nc)∧W.cell? ⟨w.heap.size,1,none⟩=some (.string word)∧W.cell? ⟨nb,no,none⟩=some (.int .i64 x)):=
   hD fun W hk=>by
     have hB:=ae.keep hk (fun e=>by have:=h.fp_lt _ e.2;omega)
     refine ⟨hB.cell 0,hB.cell 1,(hk.cell (p:=⟨nb,no,none⟩) (Nat.lt_of_lt_of_le C G.size) (fun e=>by have:=e.1;simp at this;omega)).trans ((G.cell (p:=⟨nb,no,none⟩) C (fun h=>h)).trans R)⟩
 obtain ⟨a0,a1,a2⟩:=HC.out w0 (Keep.refl _ _);have b0:=a0;have b1:=a1;have b2:=a2;rw [J] at b0 b1 b2;have ad:=hG.keep G n3;have aj:=hD ad;clear ad;have H0:=hD h0;clear h0;have H:=hD h;clear h;have U:=hD G;clear G;have X:=hD J;clear J;clear R ae M A ha ah hn;by_cases Z:S.lots.length=20
 ·have al:((S.lots.length:Int) == 20)=true:=(by simp;omega);have HF:=hD (show takeF S ⟨[x],word,Y⟩=⟨9,S,bs []⟩ by unfold takeF;rw [if_pos Z]);go_enter func255,ntmps255;go_wp2
  rw [← X.out];go_ret2;exact ⟨by rw [HF.out];rfl,V,(fun e=>by rw [HF.out] at e;cases e),(Chg.refl base w V).after U.out⟩
 have al:((S.lots.length:Int) == 20)=false:=(by simp;omega);by_cases O:x=0
 ·have am:(x == 0)=true:=(by simp [O]);have HF:=hD (show takeF S ⟨[x],word,Y⟩=⟨2,S,bs []⟩ by unfold takeF;rw [if_neg Z,if_pos (by simp [O])]);subst O;go_enter func255,ntmps255;go_wp2
  rw [← X.out];go_ret2;exact ⟨by rw [HF.out];rfl,V,(fun e=>by rw [HF.out] at e;cases e),(Chg.refl base w V).after U.out⟩
 have am:(x == 0)=false:=(by simp [O]);have HF:=hD (show takeF S ⟨[x],word,Y⟩=⟨0,addS S ⟨word,x,-1,false⟩,bs [116,97,107,101]++(bs [32]++itoaB ((S.lots.length:Int)+1))⟩ by unfold takeF;rw [if_neg Z,if_neg (by simpa using O)];rfl);have ar:(9223372036854775807 < 4+(1+(itoaB ((S.lots.length:Int)+1)).size))=False:=eq_false (by have:=x_r ((S.lots.length:Int)+1) (by omega) (by omega);omega);go_enter func255,ntmps255;go_wp2
 rw [← X.out];clear b0 b1 b2 c1;go_region_held3 (fun W=>W.cell? ⟨w.heap.size,0,none⟩=some (.slice (some ⟨nb,no,none⟩) 1 nc)∧W.cell? ⟨w.heap.size,1,none⟩=some (.string word)∧W.cell? ⟨nb,no,none⟩=some (.int .i64 x)) (first | exact ⟨a0,a1,a2⟩ | (refine HC.out _ ?_;exact kX ac.out)) ((go_at_call 261;have hh:=add_any (x:=⟨word,x,-1,false⟩) (aj.out.keep (Keep.refl kF w0).drew n3) (H0.out.keep (Keep.refl kF w0).drew n3) (by omega);refine Calls.mono hh ?_;clear hh;rintro e W1 ⟨V1,rfl,ag,aa⟩;have ac:=hD (((Keep.refl (fun k=>base≤k∧V.fp k) w0).drew).trans aa.keep n3);have ak:=hD ag;clear ag;have ai:=hD aa;clear aa;dsimp only))
 go_wp2
 go_ret2;exact ⟨by rw [HF.out];rfl,V1,fun _=>by rw [HF.out];exact ak.out,(ai.out.before (U.out.drew))⟩
def hasLot (S:St) (i:Int):Bool:=decide (1≤i) && decide (i≤(S.lots.length:Int))
def lotPtr (V:StV) (i:Int):Value:=
  match V.vl with
  | .slice (some a) _ _=>.pointer (some ⟨a.block,a.off+(i - 1).toNat * 4,none⟩)
  | _=>.pointer none
def LotPost (w:World) (V:StV) (S:St) (i:Int) (e:Ending) (w':World):Prop:=e = .returned (if hasLot S i then lotPtr V i else .pointer none)∧w=w'
theorem lot_any {w:World} {V:StV} {S:St} {i:Int} (h:StAt w V S) (hl:S.lots.length≤1000000000):Calls prog 263 #[.pointer (some ⟨V.b,0,none⟩),.int .i64 i] w (LotPost w V S i):=by
 obtain ⟨b,vb,vl,vc,vt,vn⟩:=V;have c1:=h.blk.cell 1;simp [StV.cells] at c1;have A:=h.rl;obtain ⟨lo,lc,G,M,_,J⟩:=A.shape;simp only at G;subst G
 have C:0 < S.lots.length→∃ g o,lo=some ⟨g,o,none⟩:=fun hp=>by
  rcases A.2.2 with ⟨_,e⟩ | ⟨g,o,c,e,_⟩
  ·omega
  ·injection e with e1;exact ⟨g,o,e1⟩
 clear h A J;by_cases h1:i < 1
 ·have e1:decide (i < 1)=true:=decide_eq_true h1;have HF:=hD (show hasLot S i=false by unfold hasLot;rw [decide_eq_false (by omega)];rfl);clear h1;go_enter func263,ntmps263;go_wp2
  go_ret;exact ⟨by rw [HF.out];rfl,rfl⟩
 have e1:decide (i < 1)=false:=decide_eq_false h1;by_cases h2:(S.lots.length:Int) < i
 ·have e2:decide ((S.lots.length:Int) < i)=true:=decide_eq_true h2;have HF:=hD (show hasLot S i=false by unfold hasLot;rw [decide_eq_false (show ¬ i≤(S.lots.length:Int) by omega)];simp);go_enter func263,ntmps263;go_wp2
  go_ret;exact ⟨by rw [HF.out];rfl,rfl⟩
 have e2:decide ((S.lots.length:Int) < i)=false:=decide_eq_false h2;have HF:=hD (show hasLot S i=true by unfold hasLot;rw [decide_eq_true (by omega),decide_eq_true (by omega)];rfl);obtain ⟨k,rfl⟩:∃ k:Nat,i=(k:Int)+1:=⟨(i - 1).toNat,by omega⟩;have hk:k < S.lots.length:=(by omega);have hw:IntKind.i64.wrap ((k:Int)+1 - 1)=(k:Int):=(by rw [IntWalk.i64_in _ (by omega)];omega);obtain ⟨g,o,rfl⟩:=C (by omega);clear C;go_enter func263,ntmps263;go_wp2
 go_ret;refine ⟨?_,rfl⟩;rw [HF.out,if_pos rfl];unfold lotPtr;simp only [];rw [show ((k:Int)+1 - 1).toNat=k by omega];rfl
theorem enters265:Enters 265:=enters_of func265 (by kernel_rfl) rfl
theorem thereOne_any {w:World} {V:StV} {S:St} {i:Int} {c:Nat} (h:StAt w V S) (hl:S.lots.length≤1000000000) (hc:w.cell? ⟨c,0,none⟩=some (.pointer (some ⟨V.b,0,none⟩))):Calls prog 265 #[.int .i64 i,.pointer (some ⟨c,0,none⟩)] w fun e w'=>e = .returned (.bool (!hasLot S i))∧w=w':=by
 have A:=lot_any (i:=i) h hl
 have hp:hasLot S i=true→∃ a,lotPtr V i = .pointer (some a):=fun hh=>by
  unfold lotPtr;have C:=h.rl;rcases C.2.2 with ⟨_,e⟩ | ⟨g,o,cp,e,_⟩
  ·unfold hasLot at hh;simp at hh;omega
  ·rw [e];exact ⟨_,rfl⟩
 unfold LotPost at A;cases hb:hasLot S i
 ·rw [hb,if_neg (by simp)] at A;have HL:=hD A;clear A hp h hb;go_enter func265,ntmps265
  go_wp2_with (first
    | (go_at_call 263;refine HL.out.mono ?_;rintro e w' ⟨rfl,rfl⟩))
  go_ret;exact ⟨rfl,rfl⟩
 ·obtain ⟨a,ha⟩:=hp hb;rw [hb,if_pos rfl,ha] at A;have HL:=hD A;clear A hp ha h hb;go_enter func265,ntmps265
  go_wp2_with (first
    | (go_at_call 263;refine HL.out.mono ?_;rintro e w' ⟨rfl,rfl⟩))
  go_ret;exact ⟨rfl,rfl⟩
def allLots (S:St) (l:List Int):Bool:=l.all (hasLot S)
theorem y_k {w:World} {V:StV} {S:St} {v:Value} {l:List Int} (h:StAt w V S) (hl:S.lots.length≤1000000000) (hv:Rd w 1 v l.length (icells l)) (hll:l.length < 9223372036854775807):Calls prog 262 #[.pointer (some ⟨V.b,0,none⟩),v] w (IdxPost w (.bool (allLots S l))):=by
 obtain ⟨ao,U,R,_⟩:=hv.shape;subst R;have C:Keep kF w (w.alloc (.cells #[.pointer (some ⟨V.b,0,none⟩)] 104)):=(Keep.refl _ _).alloc _;have G:=Blk.new w #[.pointer (some ⟨V.b,0,none⟩)] 104;have A:=u_k (p:=fun i=>!hasLot S i) (hv.keep C n3) enters265 (capt:=#[.pointer (some ⟨w.heap.size,0,none⟩)]) (fun w1 hk x _=>(thereOne_any (i:=x) ((h.keep C n3).keep hk n3) hl ((G.keep hk (fun h=>h)).cell 0)).mono (fun e w2 hh=>⟨hh.1,hh.2 ▸ Keep.refl _ _⟩)) hll;have HC:=hD A;clear A G;have M:=hD C;clear C;have HN:=hD (show (!l.any (fun i=>!hasLot S i))=allLots S l by unfold allLots;rw [List.not_any_eq_all_not];simp);clear h hv;go_enter func262,ntmps262
 go_wp2_with (first
   | (go_at_call 85;refine HC.out.mono ?_;rintro e w2 ⟨rfl,J⟩;have O:=hD J;clear J))
 go_ret;refine ⟨?_,M.out.trans O.out n3⟩;rw [← HN.out];rfl
def touchNote (i j:Int):ByteArray:=((bs [116,111,117,99,104,32]++itoaB i)++bs [32])++itoaB j
def touchS (S:St) (i j:Int):St:={S with contacts:=S.contacts++[(i,j)],notes:=S.notes++[touchNote i j]}
def TouchedPost (base:Nat) (w:World) (V:StV) (S:St) (i j:Int) (e:Ending) (w':World):Prop:=
  ∃ V',e = .returned (.tuple #[])∧OSt base w' V' (touchS S i j)∧Chg base w V V' w'
theorem addTouch_any {base:Nat} {w:World} {V:StV} {S:St} {i j:Int} (hG:GW base w) (h:OSt base w V S) (hc:S.contacts.length≤1000000000) (hn:S.notes.length≤1000000000) (hi : -9223372036854775808≤i∧i≤9223372036854775807) (hj : -9223372036854775808≤j∧j≤9223372036854775807):Calls prog 264 #[.pointer (some ⟨V.b,0,none⟩),.int .i64 i,.int .i64 j] w (TouchedPost base w V S i j):=by
 obtain ⟨b,vb,vl,vc,vt,vn⟩:=V;obtain ⟨co,cc,ai,an,_⟩:=x_a h.oc;simp only at ai;subst ai;obtain ⟨no,nc,aj,ao,_⟩:=x_a h.on;simp only at aj;subst aj;have c2:=h.blk.cell 2;have f2:=h.blk.free 2;simp [StV.cells] at c2 f2;have si:=x_r i hi.1 hi.2;have sj:=x_r j hj.1 hj.2;have aq:(9223372036854775807 < 6+(itoaB i).size)=False:=eq_false (by omega);have ar:(9223372036854775807 < 6+(itoaB i).size+1)=False:=eq_false (by omega);have au:(9223372036854775807 < 6+(itoaB i).size+1+(itoaB j).size)=False:=eq_false (by omega);have HI:=hD hi;clear hi;have HJ:=hD hj;clear hj;have H:=hD h;clear h;have am:=hD (Rd.new w 2 1 (pairCell (i,j)) 176 rfl (by simp [pairCell,Value.oneCell']) (by unfold maxLen;omega));have ac:=hD ((Keep.refl kF w).alloc (.cells #[.int .i64 i,.int .i64 j] 176));have al:=hD (x_b H.out.oc ac.out n3);go_enter func264,ntmps264
 go_wp2_with (first
   | (at_builtin;refine x_h (w:=w.alloc (.cells #[.int .i64 i,.int .i64 j] 176)) rfl (.tmp 10) (.tmp 14) 71 71 rfl 176 zPair 2 16 underlying71 info176 rfl al.out rfl (am.out.src underlying71) rfl ?hb1 ?Y ?hb3 ?hgo))
 case hb1=>unfold maxLen;omega
 case Y=>omega
 case hb3=>have:=H.out.lt;omega
 case hgo=>
 intro v2 w2 A;obtain ⟨R,O,rfl,_⟩:=x_a A.own;have h1:=H.out.keep ac.out n3;have h3:=h1.setContacts (w1:=w2) (v':=.slice R (S.contacts.length+1) O) (ls:=S.contacts++[(i,j)]) A.keep (by have:=A.own;simpa [pairCells,pairCell] using this) A.fresh;have Y:=h1.blk.keep A.keep h1.cne;have c2:=Y.cell 2;have f2:=Y.free 2;simp [StV.cells] at c2 f2
 have ah:Chg base w ⟨b,vb,vl,.slice co S.contacts.length cc,vt,.slice no S.notes.length nc⟩ ⟨b,vb,vl,.slice R (S.contacts.length+1) O,vt,.slice no S.notes.length nc⟩ (w2.setCell ⟨b,2,none⟩ (.slice R (S.contacts.length+1) O)):=by
  refine ⟨rfl,rfl,fun k hk=>?_,((ac.out.mono (fun _ _ h=>h.elim)).trans (A.keep.mono (T:=fun k=>base≤k∧StV.fp ⟨b,vb,vl,.slice co S.contacts.length cc,vt,.slice no S.notes.length nc⟩ k) (fun k _ e=>⟨H.out.fp_ge.2.1 k e,.inr (.inr (.inr (.inl e)))⟩)) n3).setCell _ _ (fun _=>⟨H.out.ge,.inl rfl⟩)⟩;rcases hk with e | e | e | e | e | e
  ·exact .inl (.inl e)
  ·exact .inl (.inr (.inl e))
  ·exact .inl (.inr (.inr (.inl e)))
  ·rcases A.fresh with h1 | ⟨g,h1,h2⟩
   ·exact .inl (.inr (.inr (.inr (.inl (h1.symm.trans e)))))
   ·have h3:g=k:=Option.some.inj (h1.symm.trans e);have h4:=ac.out.size;exact .inr (by omega)
  ·exact .inl (.inr (.inr (.inr (.inr (.inl e)))))
  ·exact .inl (.inr (.inr (.inr (.inr (.inr e)))))
 have H3:=hD h3;clear h1 h3 Y;have ag:=hD ah;clear ah A;go_wp2
 obtain ⟨w4,ae⟩:∃ w4,w4=w2.setCell ⟨b,2,none⟩ (.slice R (S.contacts.length+1) O):=⟨_,rfl⟩;have H4:=H3;have U:=ag;rw [← ae] at H4 U;rw [← ae];clear H3 ag ae c2 f2;have d4:=H4.out.blk.cell 4;simp [StV.cells] at d4;have ak:=hD (hG.keep U.out.keep (fun i hi e=>by have:=e.1;omega))
 have ad:Hid (∀ W n,Keep kF w4 W→(n=i∨n=j)→Calls prog 96 #[.int .i64 n] W (ItoaPost W n)):=hD fun W n hk hn=>
  x_y (ak.out.glob.keep hk) (by rcases hn with rfl | rfl;exact HI.out.1;exact HJ.out.1) (by rcases hn with rfl | rfl;exact HI.out.2;exact HJ.out.2)
 have C:Hid (Keep kF w4 w4.drew):=hD (Keep.refl _ _).drew;refine wp_region_noPanic ?_;refine wp_region_held_drew (S:=fun _=>True) (by kernel_rfl) trivial fun hHeld=>?_;refine wS 0 ?_;refine wS 1 ?_;refine wS 2 ?_;refine wS 3 ?_;refine wS 5 ?_;refine wS 9 ?_;refine wR (rs:=[4,6]) ?_;refine AllReadyH.cons (o:=_) rfl (fun K hK=>?_) (AllReadyH.cons (o:=_) rfl (fun K hK=>?_) AllReadyH.nil)
 focus
  go_simp;refine hK.out _ _ ?_ fun hHeld=>?_
  ·exact trivial
  clear hK K;(try simp only [tA]);refine wA 6 fun K hK=>?_
 rotate_left;rotate_left
 all_goals
  go_simp;refine Calls.mono (ad.out _ _ C.out (by first | exact .inl rfl | exact .inr rfl)) ?_;rintro e Wc ⟨rfl,M⟩;have C:=hD (C.out.trans M n3);have d4:=(H4.out.keep C.out n3).blk.cell 4;simp [StV.cells] at d4;have Z:b < Wc.heap.size:=(H4.out.keep C.out n3).blk.lt;clear M;(try dsimp only);refine hK.out _ _ ?_ fun hHeld=>?_
  ·exact trivial
  clear hK K;(try simp only [tA]);refine wS 7 ?_;refine wS 8 ?_
 ·refine wA 10 fun K hK=>?_;go_simp;refine Calls.mono (ad.out _ _ C.out (by first | exact .inl rfl | exact .inr rfl)) ?_;rintro e Wc ⟨rfl,M⟩;have C:=hD (C.out.trans M n3);have d4:=(H4.out.keep C.out n3).blk.cell 4;simp [StV.cells] at d4;have Z:b < Wc.heap.size:=(H4.out.keep C.out n3).blk.lt;clear M;(try dsimp only);refine hK.out _ _ ?_ fun hHeld=>?_
  ·exact trivial
  clear hK K;(try simp only [tA]);refine wS 11 ?_;refine wA 12 fun K hK=>?_;go_simp;refine hK.out _ _ ?_ fun hHeld=>?_
  ·exact trivial
  clear hK K;(try simp only [tA]);refine wB 13 fun K hK=>?_;have aa:(Wc.alloc (.cells #[.string (touchNote i j)] 9)).ownsRow base 9 1 (.slice no S.notes.length nc) S.notes.length (strCells S.notes):=x_b (H4.out.on) (C.out.alloc (.cells #[.string (touchNote i j)] 9)) n3;refine x_q (.tmp 22) (.tmp 30) 44 44 rfl 9 (.string ⟨#[]⟩) 1 16 underlying44 y_t rfl aa rfl ((Rd.new Wc 1 1 [.string (touchNote i j)] 9 rfl (by simp [Value.oneCell']) (by unfold maxLen;omega)).src underlying44) rfl (by unfold maxLen;omega) (by omega) (Nat.le_trans H4.out.lt (C.out.alloc (.cells #[.string (touchNote i j)] 9)).size) (fun v' w7 A=>?_);obtain ⟨X,G,rfl,_⟩:=x_a A.own;have h6:=H4.out.keep (C.out.alloc (.cells #[.string (touchNote i j)] 9)) n3;have h7:=h6.setNotes (w1:=w7) (v':=.slice X (S.notes.length+1) G) (ls:=S.notes++[touchNote i j]) A.keep (by have:=A.own;simpa [strCells] using this) A.fresh;have J:=h6.blk.keep A.keep h6.nne;have d4:=J.cell 4;have f4:=J.free 4;simp [StV.cells] at d4 f4;have HA:=hD A;have H6:=hD h6;have H7:=hD h7;clear A h6 h7 J;(try dsimp only);refine hK.out _ _ ?_ fun hHeld=>?_
  ·exact trivial
  clear hK K;(try simp only [tA]);refine wS 14 ?_;refine wS 15 ?_;refine wA 16 fun K hK=>?_;go_simp;refine hK.out _ _ ?_ fun hHeld=>?_
  ·exact trivial
  clear hK K;(try simp only [tA]);refine wpAnyH_done (by kernel_rfl) ?_ _;refine NoPanic.normal ?_;go_wp2
  go_end0
  refine ⟨_,rfl,H7.out,?_⟩;refine U.out.trans ⟨rfl,rfl,fun k hk=>?_,(C.out.alloc (.cells #[.string (touchNote i j)] 9)).mono (fun _ _ h=>h.elim) |>.trans (HA.out.keep.mono (T:=fun k=>base≤k∧StV.fp ⟨b,vb,vl,.slice R (S.contacts.length+1) O,vt,.slice no S.notes.length nc⟩ k) (fun k _ e=>⟨H6.out.fp_ge.2.2.2 k e,.inr (.inr (.inr (.inr (.inr e))))⟩)) n3 |>.setCell _ _ (fun _=>⟨H4.out.ge,.inl rfl⟩)⟩;rcases hk with e | e | e | e | e | e
  ·exact .inl (.inl e)
  ·exact .inl (.inr (.inl e))
  ·exact .inl (.inr (.inr (.inl e)))
  ·exact .inl (.inr (.inr (.inr (.inl e))))
  ·exact .inl (.inr (.inr (.inr (.inr (.inl e)))))
  ·rcases HA.out.fresh with h1 | ⟨g,h1,h2⟩
   ·exact .inl (.inr (.inr (.inr (.inr (.inr (h1.symm.trans e))))))
   ·have h3:g=k:=Option.some.inj (h1.symm.trans e);have h4:=(C.out.alloc (.cells #[.string (touchNote i j)] 9)).size;have h5:(Wc.alloc (.cells #[.string (touchNote i j)] 9)).heap.size≤g:=h2;exact .inr (by omega)
 ·refine wR (rs:=[4,10]) ?_;refine AllReadyH.cons (o:=_) rfl (fun K hK=>?_) (AllReadyH.cons (o:=_) rfl (fun K hK=>?_) AllReadyH.nil)
  focus
   go_simp;refine hK.out _ _ ?_ fun hHeld=>?_
   ·exact trivial
   clear hK K;(try simp only [tA]);refine wA 10 fun K hK=>?_
  rotate_left;rotate_left
  all_goals
   go_simp;refine Calls.mono (ad.out _ _ C.out (by first | exact .inl rfl | exact .inr rfl)) ?_;rintro e Wc ⟨rfl,M⟩;have C:=hD (C.out.trans M n3);have d4:=(H4.out.keep C.out n3).blk.cell 4;simp [StV.cells] at d4;have Z:b < Wc.heap.size:=(H4.out.keep C.out n3).blk.lt;clear M;(try dsimp only);refine hK.out _ _ ?_ fun hHeld=>?_
   ·exact trivial
   clear hK K;(try simp only [tA]);refine wS 11 ?_
  ·refine wA 12 fun K hK=>?_;go_simp;refine hK.out _ _ ?_ fun hHeld=>?_
   ·exact trivial
   clear hK K;(try simp only [tA]);refine wB 13 fun K hK=>?_;have aa:(Wc.alloc (.cells #[.string (touchNote i j)] 9)).ownsRow base 9 1 (.slice no S.notes.length nc) S.notes.length (strCells S.notes):=x_b (H4.out.on) (C.out.alloc (.cells #[.string (touchNote i j)] 9)) n3;refine x_q (.tmp 22) (.tmp 30) 44 44 rfl 9 (.string ⟨#[]⟩) 1 16 underlying44 y_t rfl aa rfl ((Rd.new Wc 1 1 [.string (touchNote i j)] 9 rfl (by simp [Value.oneCell']) (by unfold maxLen;omega)).src underlying44) rfl (by unfold maxLen;omega) (by omega) (Nat.le_trans H4.out.lt (C.out.alloc (.cells #[.string (touchNote i j)] 9)).size) (fun v' w7 A=>?_);obtain ⟨X,G,rfl,_⟩:=x_a A.own;have h6:=H4.out.keep (C.out.alloc (.cells #[.string (touchNote i j)] 9)) n3;have h7:=h6.setNotes (w1:=w7) (v':=.slice X (S.notes.length+1) G) (ls:=S.notes++[touchNote i j]) A.keep (by have:=A.own;simpa [strCells] using this) A.fresh;have J:=h6.blk.keep A.keep h6.nne;have d4:=J.cell 4;have f4:=J.free 4;simp [StV.cells] at d4 f4;have HA:=hD A;have H6:=hD h6;have H7:=hD h7;clear A h6 h7 J;(try dsimp only);refine hK.out _ _ ?_ fun hHeld=>?_
   ·exact trivial
   clear hK K;(try simp only [tA]);refine wS 14 ?_;refine wS 15 ?_;refine wA 16 fun K hK=>?_;go_simp;refine hK.out _ _ ?_ fun hHeld=>?_
   ·exact trivial
   clear hK K;(try simp only [tA]);refine wpAnyH_done (by kernel_rfl) ?_ _;refine NoPanic.normal ?_;go_wp2
   go_end0
   refine ⟨_,rfl,H7.out,?_⟩;refine U.out.trans ⟨rfl,rfl,fun k hk=>?_,(C.out.alloc (.cells #[.string (touchNote i j)] 9)).mono (fun _ _ h=>h.elim) |>.trans (HA.out.keep.mono (T:=fun k=>base≤k∧StV.fp ⟨b,vb,vl,.slice R (S.contacts.length+1) O,vt,.slice no S.notes.length nc⟩ k) (fun k _ e=>⟨H6.out.fp_ge.2.2.2 k e,.inr (.inr (.inr (.inr (.inr e))))⟩)) n3 |>.setCell _ _ (fun _=>⟨H4.out.ge,.inl rfl⟩)⟩;rcases hk with e | e | e | e | e | e
   ·exact .inl (.inl e)
   ·exact .inl (.inr (.inl e))
   ·exact .inl (.inr (.inr (.inl e)))
   ·exact .inl (.inr (.inr (.inr (.inl e))))
   ·exact .inl (.inr (.inr (.inr (.inr (.inl e)))))
   ·rcases HA.out.fresh with h1 | ⟨g,h1,h2⟩
    ·exact .inl (.inr (.inr (.inr (.inr (.inr (h1.symm.trans e))))))
    ·have h3:g=k:=Option.some.inj (h1.symm.trans e);have h4:=(C.out.alloc (.cells #[.string (touchNote i j)] 9)).size;have h5:(Wc.alloc (.cells #[.string (touchNote i j)] 9)).heap.size≤g:=h2;exact .inr (by omega)
  ·refine wR (rs:=[4,12]) ?_;refine AllReadyH.cons (o:=_) rfl (fun K hK=>?_) (AllReadyH.cons (o:=_) rfl (fun K hK=>?_) AllReadyH.nil)
   all_goals
    go_simp;refine hK.out _ _ ?_ fun hHeld=>?_
    ·exact trivial
    clear hK K;(try simp only [tA])
   focus
    refine wR (rs:=[12]) ?_
   rotate_left
   focus
    refine wR (rs:=[4]) ?_
   rotate_left
   all_goals
    refine aR rfl fun K hK=>?_;go_simp;refine hK.out _ _ ?_ fun hHeld=>?_
    ·exact trivial
    clear hK K;(try simp only [tA]);refine wB 13 fun K hK=>?_;have aa:(Wc.alloc (.cells #[.string (touchNote i j)] 9)).ownsRow base 9 1 (.slice no S.notes.length nc) S.notes.length (strCells S.notes):=x_b (H4.out.on) (C.out.alloc (.cells #[.string (touchNote i j)] 9)) n3;refine x_q (.tmp 22) (.tmp 30) 44 44 rfl 9 (.string ⟨#[]⟩) 1 16 underlying44 y_t rfl aa rfl ((Rd.new Wc 1 1 [.string (touchNote i j)] 9 rfl (by simp [Value.oneCell']) (by unfold maxLen;omega)).src underlying44) rfl (by unfold maxLen;omega) (by omega) (Nat.le_trans H4.out.lt (C.out.alloc (.cells #[.string (touchNote i j)] 9)).size) (fun v' w7 A=>?_);obtain ⟨X,G,rfl,_⟩:=x_a A.own;have h6:=H4.out.keep (C.out.alloc (.cells #[.string (touchNote i j)] 9)) n3;have h7:=h6.setNotes (w1:=w7) (v':=.slice X (S.notes.length+1) G) (ls:=S.notes++[touchNote i j]) A.keep (by have:=A.own;simpa [strCells] using this) A.fresh;have J:=h6.blk.keep A.keep h6.nne;have d4:=J.cell 4;have f4:=J.free 4;simp [StV.cells] at d4 f4;have HA:=hD A;have H6:=hD h6;have H7:=hD h7;clear A h6 h7 J;(try dsimp only);refine hK.out _ _ ?_ fun hHeld=>?_
    ·exact trivial
    clear hK K;(try simp only [tA]);refine wS 14 ?_;refine wS 15 ?_;refine wA 16 fun K hK=>?_;go_simp;refine hK.out _ _ ?_ fun hHeld=>?_
    ·exact trivial
    clear hK K;(try simp only [tA]);refine wpAnyH_done (by kernel_rfl) ?_ _;refine NoPanic.normal ?_;go_wp2
    go_end0
    refine ⟨_,rfl,H7.out,?_⟩;refine U.out.trans ⟨rfl,rfl,fun k hk=>?_,(C.out.alloc (.cells #[.string (touchNote i j)] 9)).mono (fun _ _ h=>h.elim) |>.trans (HA.out.keep.mono (T:=fun k=>base≤k∧StV.fp ⟨b,vb,vl,.slice R (S.contacts.length+1) O,vt,.slice no S.notes.length nc⟩ k) (fun k _ e=>⟨H6.out.fp_ge.2.2.2 k e,.inr (.inr (.inr (.inr (.inr e))))⟩)) n3 |>.setCell _ _ (fun _=>⟨H4.out.ge,.inl rfl⟩)⟩;rcases hk with e | e | e | e | e | e
    ·exact .inl (.inl e)
    ·exact .inl (.inr (.inl e))
    ·exact .inl (.inr (.inr (.inl e)))
    ·exact .inl (.inr (.inr (.inr (.inl e))))
    ·exact .inl (.inr (.inr (.inr (.inr (.inl e)))))
    ·rcases HA.out.fresh with h1 | ⟨g,h1,h2⟩
     ·exact .inl (.inr (.inr (.inr (.inr (.inr (h1.symm.trans e))))))
     ·have h3:g=k:=Option.some.inj (h1.symm.trans e);have h4:=(C.out.alloc (.cells #[.string (touchNote i j)] 9)).size;have h5:(Wc.alloc (.cells #[.string (touchNote i j)] 9)).heap.size≤g:=h2;exact .inr (by omega)
def touchF (S:St) (a:FA):Res:=
  if allLots S a.n then (if a.n.getD 0 0=a.n.getD 1 0 then ⟨7,S,bs []⟩ else ⟨0,touchS S (a.n.getD 0 0) (a.n.getD 1 0),bs [116,111,117,99,104]⟩) else ⟨5,S,bs []⟩
def i64b (x:Int):Prop:=-9223372036854775808≤x∧x≤9223372036854775807
theorem touch_any {base:Nat} {w:World} {V:StV} {S:St} {vn:Value} {a:FA} (hG:GW base w) (h:OSt base w V S) (hl:S.small) (ha:Args base w vn a) (hn:a.n.length=2) (hb:∀ x∈a.n,i64b x):Calls prog 258 #[.pointer (some ⟨V.b,0,none⟩),.agg #[vn,.string a.word]] w (RunPost base w V (touchF S a)):=by
 obtain ⟨x,y,hx⟩:∃ x y,a.n=[x,y]:=by
  match a.n,hn with
  | [x,y],_=>exact ⟨x,y,rfl⟩
 obtain ⟨an,word,aa⟩:=a;simp only at hx hn hb;subst hx;have O:=ha.rd;rcases O.2.2 with ⟨_,h1⟩ | ⟨nb,no,nc,rfl,aw,ax,C⟩
 ·simp at h1
 have ac:=C 0 (.int .i64 x) (by simp [icells]);have ak:=C 1 (.int .i64 y) (by simp [icells]);rw [Nat.add_zero] at ac;have G:=World.block_lt_of_cell? w _ ac;change Calls prog 258 #[.pointer (some ⟨V.b,0,none⟩),.agg #[.slice (some ⟨nb,no,none⟩) 2 nc,.string word]] w (RunPost base w V (touchF S ⟨[x,y],word,aa⟩));simp only at G;have ay:nb < base:=ha.lt nb rfl;obtain ⟨w0,X⟩:∃ w0,w0=w.alloc (.cells #[.slice (some ⟨nb,no,none⟩) 2 nc,.string word] 134):=⟨_,rfl⟩;have J:Keep kF w w0:=(by rw [X];exact (Keep.refl _ _).alloc _);have ah:Blk w0 w.heap.size #[.slice (some ⟨nb,no,none⟩) 2 nc,.string word] 134:=(by rw [X];exact Blk.new _ _ _);have h0:=h.keep J n3;have Z:Hid (Keep (fun k=>base≤k∧V.fp k) w0 w0):=hD (Keep.refl _ _)
 have HC:Hid (∀ W,Keep (fun k=>base≤k∧V.fp k) w0 W→W.cell? ⟨w.heap.size,0,none⟩=some (.slice (some ⟨nb,no,none⟩) 2 nc)∧W.cell? ⟨nb,no,none⟩=some (.int .i64 x)∧W.cell? ⟨nb,no+1,none⟩=some (.int .i64 y)):=
   hD fun W hk=>by
     have hB:=ah.keep hk (fun e=>by have:=h.fp_lt _ e.2;omega)
     refine ⟨hB.cell 0,(hk.cell (p:=⟨nb,no,none⟩) (Nat.lt_of_lt_of_le G J.size) (fun e=>by have:=e.1;simp at this;omega)).trans ((J.cell (p:=⟨nb,no,none⟩) G (fun h=>h)).trans ac),(hk.cell (p:=⟨nb,no+1,none⟩) (Nat.lt_of_lt_of_le G J.size) (fun e=>by have:=e.1;simp at this;omega)).trans ((J.cell (p:=⟨nb,no+1,none⟩) G (fun h=>h)).trans ak)⟩
 obtain ⟨b0,b1,b2⟩:=HC.out w0 (Keep.refl _ _);rw [X] at b0 b1 b2;have U:=y_k (h0.at h0.lt) hl.l ((show Rd w 1 (.slice (some ⟨nb,no,none⟩) 2 nc) [x,y].length (icells [x,y]) from O).keep J n3) (by simp);have ar:=hD (hG.keep J n3);have H0:=hD h0;clear h0;have H:=hD h;clear h;have ad:=hD J;clear J;have ag:=hD X;clear X;have HL:=hD hl;clear hl;have ai:=hb x (by simp);have aj:=hb y (by simp);have am:=hD ai;have ao:=hD aj;clear ac ak ah O C ha hn hb ai aj;cases A:allLots S [x,y]
 ·have HF:=hD (show touchF S ⟨[x,y],word,aa⟩=⟨5,S,bs []⟩ by unfold touchF;simp only [];rw [A];rfl);rw [A] at U;have HT:=hD U;clear U A;go_enter func258,ntmps258;go_wp2_with (go_at_call 262;rw [← ag.out];refine HT.out.mono ?_;rintro e w1 ⟨rfl,R⟩;have M:=hD R;clear R)
  go_ret2;exact ⟨by rw [HF.out];rfl,V,(fun e=>by rw [HF.out] at e;cases e),(Chg.refl base w V).after (ad.out.trans M.out n3)⟩
 ·rw [A] at U;have HT:=hD U;clear U;by_cases Y:x=y
  focus
   have HF:=hD (show touchF S ⟨[x,y],word,aa⟩=⟨7,S,bs []⟩ by unfold touchF;simp only [];rw [A,if_pos rfl];exact if_pos Y);have av:(x == y)=true:=by simpa using Y
  rotate_left
  focus
   have HF:=hD (show touchF S ⟨[x,y],word,aa⟩=⟨0,touchS S x y,bs [116,111,117,99,104]⟩ by unfold touchF;simp only [];rw [A,if_pos rfl];exact if_neg Y);have av:(x == y)=false:=by simpa using Y
  rotate_left
  all_goals
   clear A Y;go_enter func258,ntmps258;go_wp2_with (go_at_call 262;rw [← ag.out];refine HT.out.mono ?_;rintro e w1 ⟨rfl,R⟩;have M:=hD R;obtain ⟨a0,a1,a2⟩:=HC.out w1 (R.mono (fun _ _ h=>h.elim));clear R)
   go_quiet (fail)
   go_wp2
  ·go_ret2;exact ⟨by rw [HF.out];rfl,V,(fun e=>by rw [HF.out] at e;cases e),(Chg.refl base w V).after ((ad.out.trans M.out n3).trans ((Keep.refl kF w1).drewN nq) n3)⟩
  ·have Z:Hid (Keep (fun k=>base≤k∧V.fp k) w0 ((w1.drewN nq).drew)):=hD (((M.out.drewN nq).drew).mono (fun _ _ h=>h.elim));go_region_held3 (fun W=>W.cell? ⟨w.heap.size,0,none⟩=some (.slice (some ⟨nb,no,none⟩) 2 nc)∧W.cell? ⟨nb,no,none⟩=some (.int .i64 x)∧W.cell? ⟨nb,no+1,none⟩=some (.int .i64 y)) (first | exact ⟨a0,a1,a2⟩ | (refine HC.out _ ?_;exact kX Z.out)) ((go_at_call 264;have hh:=addTouch_any (i:=x) (j:=y) (ar.out.keep ((M.out.drewN nq).drew) n3) (H0.out.keep ((M.out.drewN nq).drew) n3) HL.out.c HL.out.n am.out ao.out;refine Calls.mono hh ?_;clear hh;rintro e W1 ⟨V1,rfl,al,ae⟩;have Z:=hD (Z.out.trans ae.keep n3);have au:=hD al;clear al;have aq:=hD ae;clear ae;dsimp only))
   go_wp2
   go_ret2;exact ⟨by rw [HF.out];rfl,V1,fun _=>by rw [HF.out];exact au.out,(aq.out.before ((ad.out.trans M.out n3).drewN nq |>.drew))⟩
end Go.Proofs.YthdkamnclbfehaaGreatDoor
namespace Go.Proofs.YthdkamnclbfehaaGreatDoor
open Go.RowKit
theorem ownsRow_set {w:World} {base:Nat} {e:TypeId} {size n g cap:Nat} {xs:List Value} (h:w.ownsRow base e size (.slice (some ⟨g,0,none⟩) n cap) n xs) (k:Nat) (hk:k < xs.length) (u:Value):(w.setCell ⟨g,k,none⟩ u).ownsRow base e size (.slice (some ⟨g,0,none⟩) n cap) n (xs.set k u):=by
 obtain ⟨hl,h2⟩:=h;refine ⟨by rw [List.length_set];exact hl,?_⟩;rcases h2 with ⟨hv,_⟩ | ⟨g',c,cur,hv,hb,J,M,C,G,A⟩
 ·cases hv
 ·cases hv;refine .inr ⟨g,cap,cur.setIfInBounds k u,rfl,hb,?_,M,C,by simp [G],?_⟩
  ·simp [World.setCell,Array.getElem?_modify,J]
  ·rw [Array.toList_setIfInBounds,← A,List.take_set]
theorem y_z (l:List Lot) (i f:Nat) (hi:i < l.length) (hf:f < 4):(lotCells l)[i * 4+f]?=(lotCell l[i])[f]?:=by
 induction l generalizing i with
 | nil=>exact absurd hi (by simp)
 | cons x l ih=>
  simp only [lotCells,List.flatMap_cons];cases i with
  | zero=>rw [Nat.zero_mul,Nat.zero_add,List.getElem?_append_left (by simp [lotCell];omega)];rfl
  | succ i=>
   rw [List.getElem?_append_right (by simp [lotCell];omega)];have:(i+1) * 4+f - (lotCell x).length=i * 4+f:=(by simp [lotCell];omega);rw [this];exact ih i (by simpa using hi)
theorem lotCells_set (l:List Lot) (i f:Nat) (hi:i < l.length) (hf:f < 4) (x:Lot) (u:Value) (hx:lotCell x=(lotCell l[i]).set f u):lotCells (l.set i x)=(lotCells l).set (i * 4+f) u:=by
 induction l generalizing i with
 | nil=>exact absurd hi (by simp)
 | cons y l ih=>
  cases i with
  | zero=>
   simp only [lotCells,List.set_cons_zero,List.flatMap_cons,Nat.zero_mul,Nat.zero_add];rw [hx,List.set_append_left _ _ (by simp [lotCell];omega)];rfl
  | succ i=>
   simp only [lotCells,List.set_cons_succ,List.flatMap_cons];rw [List.set_append_right _ _ (by simp [lotCell];omega)];have:(i+1) * 4+f - (lotCell y).length=i * 4+f:=(by simp [lotCell];omega);rw [this];have:=ih i (by simpa using hi) (by simpa using hx);simp only [lotCells] at this;rw [this]
theorem OSt.lotRow {base:Nat} {w:World} {V:StV} {S:St} (h:OSt base w V S) (hp:0 < S.lots.length):∃ g cap,V.vl = .slice (some ⟨g,0,none⟩) S.lots.length cap∧g < w.heap.size∧base≤g∧g≠V.b:=by
 rcases h.ol.2 with ⟨_,e⟩ | ⟨g,cap,cur,hv,hb,A,_⟩
 ·omega
 ·refine ⟨g,cap,hv,(Array.getElem?_eq_some_iff.1 A).1,hb,fun e=>h.lne ?_⟩;rw [hv,e];rfl
theorem OSt.lotCell {base:Nat} {w:World} {V:StV} {S:St} (h:OSt base w V S) {g cap:Nat} (hv:V.vl = .slice (some ⟨g,0,none⟩) S.lots.length cap) {i:Nat} (hi:i < S.lots.length):(w.cell? ⟨g,i * 4,none⟩=some (.string S.lots[i].spice)∧w.cell? ⟨g,i * 4+1,none⟩=some (.int .i64 S.lots[i].grams)∧w.cell? ⟨g,i * 4+2,none⟩=some (.int .i64 S.lots[i].bay)∧w.cell? ⟨g,i * 4+3,none⟩=some (.bool S.lots[i].closed))∧∀ o,w.frozen? ⟨g,o,none⟩=false:=by
 have hr:=x_g h.ol (y_n _)
 have hc:∀ f u,f < 4→(Go.Proofs.YthdkamnclbfehaaGreatDoor.lotCell S.lots[i])[f]?=some u→w.cell? ⟨g,i * 4+f,none⟩=some u:=fun f u hf hu=>by
  rcases hr.2.2 with ⟨_,e⟩ | ⟨g',o,c,e,_,_,hx⟩
  ·omega
  ·rw [hv] at e;cases e;have:=hx (i * 4+f) u (by rw [y_z _ _ _ hi hf];exact hu);rwa [Nat.zero_add] at this
 refine ⟨⟨hc 0 _ (by omega) rfl,hc 1 _ (by omega) rfl,hc 2 _ (by omega) rfl,hc 3 _ (by omega) rfl⟩,fun o=>?_⟩;rcases h.ol.2 with ⟨e,_⟩ | ⟨g',A,cur,e,_,C,_⟩
 ·rw [hv] at e;cases e
 ·rw [hv] at e;cases e;simp [World.frozen?,C]
theorem OSt.setLot {base:Nat} {w:World} {V:StV} {S:St} (h:OSt base w V S) {g cap:Nat} (hv:V.vl = .slice (some ⟨g,0,none⟩) S.lots.length cap) {i:Nat} (hi:i < S.lots.length) (f:Nat) (hf:f < 4) (x:Lot) (u:Value) (hx:Go.Proofs.YthdkamnclbfehaaGreatDoor.lotCell x=(Go.Proofs.YthdkamnclbfehaaGreatDoor.lotCell S.lots[i]).set f u):OSt base (w.setCell ⟨g,i * 4+f,none⟩ u) V {S with lots:=S.lots.set i x}∧Chg base w V V (w.setCell ⟨g,i * 4+f,none⟩ u):=by
 have hk:Keep (fun k=>k=g) w (w.setCell ⟨g,i * 4+f,none⟩ u):=(Keep.refl _ _).setCell _ _ (fun _=>rfl);have ho:V.vl.ownBlock=some g:=(by rw [hv];rfl);have A:g≠V.b:=fun e=>h.lne (e ▸ ho);refine ⟨⟨h.blk.keep hk (fun e=>A e.symm),h.ge,h.rb.keep hk (fun b e e'=>by have:=h.bb b e;have:=h.fp_ge.1 g ho;omega),h.bb,?_,x_b h.oc hk (fun b e e'=>x_f h.ol h.oc (by decide) b (e' ▸ ho) e),x_b h.ot hk (fun b e e'=>x_f h.ol h.ot (by decide) b (e' ▸ ho) e),x_b h.on hk (fun b e e'=>x_f h.ol h.on (by decide) b (e' ▸ ho) e),h.ct⟩,rfl,rfl,fun _ e=>.inl e,hk.mono (fun k _ e=>⟨h.fp_ge.1 k (e ▸ ho),.inr (.inr (.inl (e ▸ ho)))⟩)⟩;have C:=h.ol;rw [hv] at C;have:=ownsRow_set C (i * 4+f) (by rw [u_r];omega) u;rw [← lotCells_set _ _ _ hi hf x u hx] at this;simp only [List.length_set,hv];exact this
theorem args_open {base:Nat} {w:World} {V:StV} {S:St} {vn:Value} {a:FA} (h:OSt base w V S) (ha:Args base w vn a) (hp:0 < a.n.length):∃ nb no nc,vn = .slice (some ⟨nb,no,none⟩) a.n.length nc∧a.n.length≤nc∧∀ W,Keep (fun k=>base≤k∧V.fp k) (w.alloc (.cells #[.slice (some ⟨nb,no,none⟩) a.n.length nc,.string a.word] 134)) W→W.cell? ⟨w.heap.size,0,none⟩=some (.slice (some ⟨nb,no,none⟩) a.n.length nc)∧W.cell? ⟨w.heap.size,1,none⟩=some (.string a.word)∧∀ j,j < a.n.length→W.cell? ⟨nb,no+j,none⟩=some (.int .i64 (a.n.getD j 0)):=by
 rcases ha.rd.2.2 with ⟨_,h1⟩ | ⟨nb,no,nc,rfl,C,O,A⟩
 ·omega
 refine ⟨nb,no,nc,rfl,C,fun W hk=>?_⟩;have G:Keep kF w (w.alloc (.cells #[.slice (some ⟨nb,no,none⟩) a.n.length nc,.string a.word] 134)):=(Keep.refl _ _).alloc _;have hB:=(Blk.new w #[.slice (some ⟨nb,no,none⟩) a.n.length nc,.string a.word] 134).keep hk (fun e=>by have:=h.fp_lt _ e.2;omega);refine ⟨hB.cell 0,hB.cell 1,fun j hj=>?_⟩;have M:=A j _ (y_f a.n j hj);have J:=World.block_lt_of_cell? w _ M;have R:nb < base:=ha.lt nb rfl;exact (hk.cell (p:=⟨nb,no+j,none⟩) (Nat.lt_of_lt_of_le J G.size) (fun e=>by have:=e.1;simp at this;omega)).trans ((G.cell (p:=⟨nb,no+j,none⟩) J (fun h=>h)).trans M)
def shutF (S:St) (a:FA):Res:=
  if hasLot S (a.n.getD 0 0) then
    match S.lots[(a.n.getD 0 0 - 1).toNat]? with
    | some x=>if x.closed then ⟨7,S,bs []⟩ else ⟨0,{S with lots:=S.lots.set (a.n.getD 0 0 - 1).toNat {x with bay:=-1,closed:=true} },bs [99,108,111,115,101]⟩
    | none=>⟨5,S,bs []⟩
  else ⟨5,S,bs []⟩
def digB (c:UInt8):Bool:=decide (48≤c.toNat) && decide (c.toNat≤57)
def numV (acc:Nat) (l:List UInt8):Nat:=l.foldl (fun a c=>a * 10+(c.toNat - 48)) acc
def decOk (l:List UInt8):Bool:=decide (1≤l.length) && decide (l.length≤6) && l.all digB && !(decide (1 < l.length) && (l.headD 0 == 48))
theorem z_i {c:UInt8}:digB c=true↔48≤c.toNat∧c.toNat≤57:=by unfold digB;simp
theorem parse_digits:∀ (l:List UInt8) (acc k:Nat),l.all digB=true→acc < 10 ^ k→l.length+k≤18→Lib.parseUint10 acc l = .ok (numV acc l):=by
 intro l;induction l with
 | nil=>intro acc k _ _ _;rfl
 | cons c l ih=>
  intro acc k hd ha hk;simp only [List.all_cons,Bool.and_eq_true] at hd;simp only [List.length_cons] at hk;have hc:=z_i.1 hd.1;have hp:10 ^ (k+1)≤10 ^ 18:=Nat.pow_le_pow_right (by decide) (by omega);have C:10 ^ (k+1)=10 ^ k * 10:=Nat.pow_succ 10 k;have A:(10:Nat) ^ 18=1000000000000000000:=(by decide);unfold Lib.parseUint10;rw [if_pos hc,if_neg (by omega),if_neg (by omega)];exact ih _ (k+1) hd.2 (by omega) (by omega)
theorem atoi_digits {l:List UInt8} (hne:l≠[]) (hd:l.all digB=true) (hl:l.length≤6):Lib.atoiAll l = .ok (numV 0 l:Nat):=by
 have hp:=parse_digits l 0 0 hd (by decide) (by omega)
 have C:numV 0 l < 10 ^ 6:=by
  have:∀ (l:List UInt8) (A k:Nat),l.all digB=true→A < 10 ^ k→numV A l < 10 ^ (k+l.length):=by
   intro l;induction l with
   | nil=>intro A k _ ha;exact ha
   | cons c l ih=>
    intro A k hd ha;simp only [List.all_cons,Bool.and_eq_true] at hd;have hc:=z_i.1 hd.1;have G:10 ^ (k+1)=10 ^ k * 10:=Nat.pow_succ 10 k;have:=ih (A * 10+(c.toNat - 48)) (k+1) hd.2 (by omega);rw [List.length_cons,show k+(l.length+1)=k+1+l.length by omega];exact this
  have h1:=this l 0 0 hd (by decide);exact Nat.lt_of_lt_of_le h1 (Nat.pow_le_pow_right (by decide) (by omega))
 have h6:(10:Nat) ^ 6=1000000:=(by decide);cases l with
 | nil=>exact absurd rfl hne
 | cons c r=>
  have hc:=z_i.1 (List.all_eq_true.1 hd c (List.mem_cons_self ..));have hm:Lib.parseMag (c::r) = .ok (numV 0 (c::r)):=(by unfold Lib.parseMag;rw [if_neg (by simp),hp]);unfold Lib.atoiAll;simp only;rw [if_neg (by omega:¬ (c.toNat=43∨c.toNat=45)),hm];simp only;rw [if_neg (by omega),if_neg (by omega),if_neg (by omega)]
theorem dig_of {c:UInt8} (h:digB c=true):UInt8.ofNat (48+(c.toNat - 48))=c:=by
 have hc:=z_i.1 h;rw [show 48+(c.toNat - 48)=c.toNat by omega];simp
theorem numV_snoc (l:List UInt8) (c:UInt8):numV 0 (l++[c])=numV 0 l * 10+(c.toNat - 48):=by simp [numV,List.foldl_append]
theorem dec_back:∀ (n:Nat) (l:List UInt8),l.length=n+1→l.all digB=true→l.headD 0≠48→1≤numV 0 l∧Lib.decDigits (numV 0 l)=l:=by
 intro n;induction n with
 | zero=>
  intro l hl hd hh;match l,hl with
  | [c],_=>
   have hc:=z_i.1 (List.all_eq_true.1 hd c (List.mem_cons_self ..));have G:c.toNat≠48:=fun e=>hh (by show c=48;exact UInt8.toNat_inj.1 e);have e:numV 0 [c]=c.toNat - 48:=(by simp [numV]);rw [e];refine ⟨by omega,?_⟩;rw [Lib.decDigits,dif_pos (by omega)];rw [dig_of (List.all_eq_true.1 hd c (List.mem_cons_self ..))]
 | succ n ih=>
  intro l hl hd hh;obtain ⟨l',c,rfl⟩:∃ l' c,l=l'++[c]:=⟨l.dropLast,l.getLast (by intro e;rw [e] at hl;simp at hl),(List.dropLast_concat_getLast _).symm⟩;simp only [List.length_append,List.length_cons,List.length_nil] at hl;rw [List.all_append,Bool.and_eq_true] at hd
  have C:l'.headD 0≠48:=by
   cases l' with
   | nil=>simp at hl
   | cons a t=>simpa using hh
  obtain ⟨h1,h2⟩:=ih l' (by omega) hd.1 C;have A:digB c=true:=(by simpa using hd.2);have hc:=z_i.1 A;rw [numV_snoc];refine ⟨by omega,?_⟩;rw [Lib.decDigits,dif_neg (by omega)];rw [show (numV 0 l' * 10+(c.toNat - 48)) / 10=numV 0 l' by omega,show (numV 0 l' * 10+(c.toNat - 48)) % 10=c.toNat - 48 by omega,h2,dig_of A]
theorem dec_digits:∀ (u:Nat),(Lib.decDigits u).all digB=true∧1≤(Lib.decDigits u).length∧(1≤u→(Lib.decDigits u).headD 0≠48):=by
 intro u;induction u using Nat.strongRecOn with
 | _ u ih=>
  rw [Lib.decDigits];by_cases h:u < 10
  ·rw [dif_pos h];have e:(UInt8.ofNat (48+u)).toNat=48+u:=(by simp;omega);refine ⟨by simp only [List.all_cons,List.all_nil,Bool.and_true];exact z_i.2 (by omega),by simp,fun h1 h2=>?_⟩;have h3:(UInt8.ofNat (48+u))=48:=h2;have h4:=congrArg UInt8.toNat h3;rw [e] at h4;have:(48:UInt8).toNat=48:=rfl;omega
  ·rw [dif_neg h];obtain ⟨h1,h2,h3⟩:=ih (u / 10) (by omega);have e:(UInt8.ofNat (48+u % 10)).toNat=48+u % 10:=(by simp;omega);refine ⟨by rw [List.all_append,h1];simp only [List.all_cons,List.all_nil,Bool.and_true,Bool.true_and];exact z_i.2 (by omega),by simp,fun _=>?_⟩;have h4:=h3 (by omega);cases hd:Lib.decDigits (u / 10) with
   | nil=>rw [hd] at h2;simp at h2
   | cons a t=>rw [hd] at h4;simpa using h4
theorem dec_same (s:ByteArray):decOk s.data.toList=(atoiOk s && decide (s.size≤6) && decide (0≤atoiN s) && decide (itoaB (atoiN s)=s)):=by
 have hz:s.data.toList.length=s.size:=by simp
 have A:∀ n,itoaB n=s↔Lib.itoa n=s.data.toList:=fun n=>by
  unfold itoaB;constructor
  ·intro h;rw [← h]
  ·intro h;exact ByteArray.ext (by rw [h])
 rw [Bool.eq_iff_iff];constructor
 ·intro h;unfold decOk at h;simp only [Bool.and_eq_true,decide_eq_true_eq,Bool.not_eq_true',Bool.and_eq_false_iff,decide_eq_false_iff_not] at h;obtain ⟨⟨⟨h1,h6⟩,hd⟩,hh⟩:=h;have C:=atoi_digits (fun e=>by rw [e] at h1;simp at h1) hd h6;have hN:atoiN s=(numV 0 s.data.toList:Nat):=(by unfold atoiN;rw [C]);have hO:atoiOk s=true:=by unfold atoiOk;rw [C]
  have hI:itoaB (atoiN s)=s:=by
   rw [A,hN,Lib.itoa_nonneg];by_cases h0:s.data.toList.headD 0=48
   ·have G:s.data.toList.length=1:=by
     rcases hh with hh | hh
     ·omega
     ·rw [h0] at hh;simp at hh
    match hs:s.data.toList,G with
    | [c],_=>
     rw [hs] at h0;have hc:c=48:=h0;subst hc;rw [show numV 0 [48]=0 from rfl,Lib.decDigits,dif_pos (by omega)];rfl
   ·exact (dec_back (s.data.toList.length - 1) _ (by omega) hd h0).2
  simp only [Bool.and_eq_true,decide_eq_true_eq];exact ⟨⟨⟨hO,by omega⟩,by rw [hN];omega⟩,hI⟩
 ·intro h;simp only [Bool.and_eq_true,decide_eq_true_eq] at h;obtain ⟨⟨⟨hO,h6⟩,h0⟩,hI⟩:=h;obtain ⟨u,hu⟩:=Int.eq_ofNat_of_zero_le h0;rw [A,hu,Lib.itoa_nonneg] at hI;obtain ⟨d1,d2,d3⟩:=dec_digits u;rw [hI] at d1 d2 d3;unfold decOk;simp only [Bool.and_eq_true,decide_eq_true_eq,Bool.not_eq_true',Bool.and_eq_false_iff,decide_eq_false_iff_not];refine ⟨⟨⟨d2,by omega⟩,d1⟩,?_⟩;by_cases J:1≤u
  ·exact .inr (beq_eq_false_iff_ne.2 (d3 J))
  ·have:u=0:=(by omega);subst this;rw [← hI];exact .inl (by rw [Lib.decDigits,dif_pos (by omega)];simp)
def numOk (w:ByteArray):Bool:=decOk w.data.toList
def spiceOk (w:ByteArray):Bool:=decide (1≤w.size) && isSpiceB w
def refParts (ws:List ByteArray):Option (ByteArray × List ByteArray × Nat):=
  if (ws.headD (bs [])).data.toList=[116,97,107,101] then (if ws.length=3∧spiceOk (ws.getD 1 (bs []))=true then some (ws.getD 1 (bs []),ws.drop 2,1) else none)
  else if (ws.headD (bs [])).data.toList=[116,101,115,116] then (if ws.length=3∧(ws.getD 2 (bs [])=goodB∨ws.getD 2 (bs [])=badBs) then some (ws.getD 2 (bs []),(ws.drop 1).take 1,1) else none)
  else if (ws.headD (bs [])).data.toList=[98,108,101,110,100] then some (bs [],ws.drop 1,3)
  else if (ws.headD (bs [])).data.toList=[112,117,116] then some (bs [],ws.drop 1,2)
  else if (ws.headD (bs [])).data.toList=[116,111,117,99,104] then some (bs [],ws.drop 1,2)
  else if (ws.headD (bs [])).data.toList=[99,108,111,115,101] then some (bs [],ws.drop 1,1)
  else none
def readR (s:ByteArray):Option (ByteArray × ByteArray × List Int):=
  match refParts (words s) with
  | none=>none
  | some (nm,nums,cnt)=>if isLineB s=true∧nums.length=cnt∧nums.all numOk=true then some ((words s).headD (bs []),nm,nums.map atoiN) else none
def readF (s:ByteArray):Option (ByteArray × ByteArray × List Int):=
  match formF s with
  | none=>none
  | some (_,_,a)=>if a.ok=true then some ((words s).headD (bs []),a.word,a.n) else none
theorem stepD (a:FA) (w:ByteArray):stepF a (100,w)=⟨a.n++[atoiN w],a.word,a.ok && numOk w⟩:=by
 unfold numOk;rw [dec_same];show FA.mk _ _ (a.ok && atoiOk w && decide (w.size≤6) && decide (0≤atoiN w) && decide (itoaB (atoiN w)=w))=_;congr 1;simp only [Bool.and_assoc]
theorem stepS (a:FA) (w:ByteArray):stepF a (115,w)=⟨a.n,w,a.ok && isSpiceB w⟩:=rfl
theorem stepT (a:FA) (w:ByteArray):stepF a (116,w)=⟨a.n,w,a.ok && (decide (w=goodB) || decide (w=badBs))⟩:=rfl
theorem read_same (s:ByteArray):readR s=readF s:=by
 unfold readR readF formF;by_cases hl:isLineB s=true
 ·rw [if_pos hl]
  have A:∀ w∈words s,1≤w.size:=fun w hw=>by
   unfold isLineB at hl;simp only [Bool.and_eq_true,Bool.not_eq_true',decide_eq_true_eq] at hl;rcases Nat.eq_zero_or_pos w.size with h0 | h0
   ·have he:w=⟨#[]⟩:=ByteArray.ext (Array.eq_empty_of_size_eq_zero h0);have:=(Lib.containsS_iff (words s) ⟨#[]⟩).2 (he ▸ hw);rw [hl.2.1] at this;cases this
   ·exact h0
  obtain ⟨w0,rest,C⟩:∃ w0 rest,words s=w0::rest:=by
   have:=x_v s;cases hw:words s with
   | nil=>rw [hw] at this;simp at this
   | cons a r=>exact ⟨a,r,rfl⟩
  rw [C] at A ⊢;simp only [List.headD_cons,List.tail_cons,List.length_cons,Nat.add_sub_cancel];unfold refParts chF;simp only [List.headD_cons,List.length_cons,List.drop_succ_cons,List.drop_zero,List.getD_cons_succ];by_cases h1:w0.data.toList=[116,97,107,101]
  ·simp only [h1,if_true];by_cases hr:rest.length=2
   ·match rest,hr with
    | [a,b],_=>
     have ha:decide (1≤a.size)=true:=decide_eq_true (A a (by simp));have hf:foldF [115,100] [a,b]=⟨[atoiN b],a,isSpiceB a && numOk b⟩:=(by show stepF (stepF ⟨[],bs [],true⟩ (115,a)) (100,b)=_;rw [stepS,stepD];rfl);simp only [List.length_cons,List.length_nil,if_true,List.getD_cons_zero,List.drop_succ_cons,List.drop_zero,hf,spiceOk,ha,Bool.true_and];cases isSpiceB a <;> cases hb:numOk b <;> simp [hb,hl]
   ·rw [if_neg (by omega),if_neg (by simpa using hr)]
  ·by_cases h2:w0.data.toList=[116,101,115,116]
   ·have e1:(([116,101,115,116]:List UInt8)=[116,97,107,101])=False:=eq_false (by decide);have e2:(([116,101,115,116]:List UInt8)=[98,108,101,110,100])=False:=eq_false (by decide);have e3:(([116,101,115,116]:List UInt8)=[112,117,116])=False:=eq_false (by decide);have e4:(([116,101,115,116]:List UInt8)=[116,111,117,99,104])=False:=eq_false (by decide);simp only [h2,if_true,e1,e2,e3,e4,if_false];by_cases hr:rest.length=2
    ·match rest,hr with
     | [a,b],_=>
      have hf:foldF [100,116] [a,b]=⟨[atoiN a],b,numOk a && (decide (b=goodB) || decide (b=badBs))⟩:=(by show stepF (stepF ⟨[],bs [],true⟩ (100,a)) (116,b)=_;rw [stepD,stepT];rfl);simp only [List.length_cons,List.length_nil,if_true,List.getD_cons_zero,List.getD_cons_succ,List.take_succ_cons,List.take_zero,hf];by_cases hg:b=goodB <;> by_cases hb:b=badBs <;> cases ha:numOk a <;> simp [hg,hb,ha,hl]
    ·rw [if_neg (fun h=>hr (by omega)),if_neg (by simpa using hr)]
   ·rw [if_neg h1,if_neg h2,if_neg h1];by_cases h3:w0.data.toList=[98,108,101,110,100]
    ·rw [if_pos h3,if_pos h3];by_cases hr:rest.length=3
     ·match rest,hr with
      | [a,b,c],_=>
       have hf:foldF [100,100,100] [a,b,c]=⟨[atoiN a,atoiN b,atoiN c],bs [],numOk a && numOk b && numOk c⟩:=(by show stepF (stepF (stepF ⟨[],bs [],true⟩ (100,a)) (100,b)) (100,c)=_;rw [stepD,stepD,stepD];rfl);simp only [List.length_cons,List.length_nil,if_true,hf];cases ha:numOk a <;> cases hb:numOk b <;> cases hc:numOk c <;> simp [ha,hb,hc,hl]
     ·simp only [List.length_cons,List.length_nil];rw [if_neg (fun h=>hr h.2.1),if_neg (by omega)]
    ·rw [if_neg h3,if_neg h3];by_cases h4:w0.data.toList=[112,117,116]
     ·rw [if_pos h4,if_pos h4];by_cases hr:rest.length=2
      ·match rest,hr with
       | [a,b],_=>
        have hf:foldF [100,100] [a,b]=⟨[atoiN a,atoiN b],bs [],numOk a && numOk b⟩:=(by show stepF (stepF ⟨[],bs [],true⟩ (100,a)) (100,b)=_;rw [stepD,stepD];rfl);simp only [List.length_cons,List.length_nil,if_true,hf];cases ha:numOk a <;> cases hb:numOk b <;> simp [ha,hb,hl]
      ·simp only [List.length_cons,List.length_nil];rw [if_neg (fun h=>hr h.2.1),if_neg (by omega)]
     ·rw [if_neg h4,if_neg h4];by_cases h5:w0.data.toList=[116,111,117,99,104]
      ·rw [if_pos h5,if_pos h5];by_cases hr:rest.length=2
       ·match rest,hr with
        | [a,b],_=>
         have hf:foldF [100,100] [a,b]=⟨[atoiN a,atoiN b],bs [],numOk a && numOk b⟩:=(by show stepF (stepF ⟨[],bs [],true⟩ (100,a)) (100,b)=_;rw [stepD,stepD];rfl);simp only [List.length_cons,List.length_nil,if_true,hf];cases ha:numOk a <;> cases hb:numOk b <;> simp [ha,hb,hl]
       ·simp only [List.length_cons,List.length_nil];rw [if_neg (fun h=>hr h.2.1),if_neg (by omega)]
      ·rw [if_neg h5,if_neg h5,if_neg h2];by_cases h6:w0.data.toList=[99,108,111,115,101]
       ·rw [if_pos h6,if_pos h6];by_cases hr:rest.length=1
        ·match rest,hr with
         | [a],_=>
          have hf:foldF [100] [a]=⟨[atoiN a],bs [],numOk a⟩:=(by show stepF ⟨[],bs [],true⟩ (100,a)=_;rw [stepD];rfl);simp only [List.length_cons,List.length_nil,if_true,hf];cases ha:numOk a <;> simp [ha,hl]
        ·simp only [List.length_cons,List.length_nil];rw [if_neg (fun h=>hr h.2.1),if_neg (by omega)]
       ·rw [if_neg h6,if_neg h6]
 ·rw [if_neg hl];cases refParts (words s) with
  | none=>rfl
  | some x=>obtain ⟨nm,nums,G⟩:=x;simp only;rw [if_neg (fun h=>hl h.1)]
end Go.Proofs.YthdkamnclbfehaaGreatDoor
namespace Go.Proofs.YthdkamnclbfehaaGreatDoor
open Go.RowKit Tryz
def doF (F:Nat→St→FA→Res) (S:St) (line:ByteArray):Res:=
  match formF line with
  | none=>⟨4,S,bs []⟩
  | some (_,f,a)=>if a.ok then (if (F f S a).err=0 then F f S a else ⟨(F f S a).err,S,bs []⟩) else ⟨4,S,bs []⟩
def DoPost (w:World) (V:StV) (r:Res) (e:Ending) (w':World):Prop:=
  ∃ V',e = .returned (.tuple #[.pointer (some ⟨V'.b,0,none⟩),.string r.out,.int .i64 r.err])∧StAt w' V' r.st∧V'.vb=V.vb∧(r.err≠0→V'=V)∧
    (∀ k,V'.fp k→V.fp k∨w.heap.size≤k)∧Keep kF w w'
def RunOK (F:Nat→St→FA→Res) (S:St) (line:ByteArray):Prop:=
  ∀ so f a,formF line=some (so,f,a)→a.ok=true→Enters f∧∀ base w V vn,GW base w→OSt base w V S→Args base w vn a→
    Calls prog f #[.pointer (some ⟨V.b,0,none⟩),.agg #[vn,.string a.word]] w (RunPost base w V (F f S a))
theorem do_any {w:World} {V:StV} {S:St} {line:ByteArray} {F:Nat→St→FA→Res} (hG:Glob w) (h:StAt w V S) (hs:S.small) (hl:line.size≤9223372036854775807) (hrun:RunOK F S line):Calls prog 53 #[.pointer (some ⟨V.b,0,none⟩),.string line] w (DoPost w V (doF F S line)):=by
 have A:=form_any hG hl;cases hf:formF line with
 | none=>
  have HR:=hD (show doF F S line=⟨4,S,bs []⟩ by unfold doF;rw [hf]);unfold FormPost at A;rw [hf] at A;have ad:=hD A;clear A;have H:=hD h;clear h;clear hrun hf;go_enter func53,ntmps53;go_wp2_with (go_at_call 71;refine ad.out.mono ?_;rintro e w1 ⟨rfl,G⟩;have C:=hD G;clear G)
  go_ret3;have hk:=C.out;refine ⟨V,by rw [HR.out];rfl,?_,rfl,fun _=>rfl,fun _ e=>.inl e,(C.out.alloc _).alloc _⟩;rw [HR.out];exact H.out.keep ((C.out.alloc _).alloc _) n3
 | some x=>
  obtain ⟨so,f,a⟩:=x;unfold FormPost at A;rw [hf] at A;dsimp only at A;cases Z:a.ok
  ·have HR:=hD (show doF F S line=⟨4,S,bs []⟩ by unfold doF;rw [hf];simp only [];rw [Z];rfl);rw [Z] at A;have ad:=hD A;clear A;have H:=hD h;clear h;clear hrun hf Z;go_enter func53,ntmps53;go_wp2_with (go_at_call 71;refine ad.out.mono ?_;rintro e w1 ⟨vn,rfl,J,G⟩;obtain ⟨ao,W,rfl,_⟩:=x_a J;have ae:=hD J;clear J;have C:=hD G;clear G)
   go_ret3;refine ⟨V,by rw [HR.out];rfl,?_,rfl,fun _=>rfl,fun _ e=>.inl e,(C.out.alloc _).alloc _⟩;rw [HR.out];exact H.out.keep ((C.out.alloc _).alloc _) n3
  ·have HR:=hD (show doF F S line=if (F f S a).err=0 then F f S a else ⟨(F f S a).err,S,bs []⟩ by unfold doF;rw [hf];simp only [];rw [Z,if_pos rfl]);obtain ⟨ah,X⟩:=hrun so f a hf Z;have eF:∀ (args:Array Value) (w:World),(callFunc f args).run prog w = .ok (.enter f args) w:=ah;clear ah hrun hf;rw [Z] at A;clear Z;have ad:=hD A;clear A;have HC:=hD X;clear X;have H:=hD h;clear h;have HS:=hD hs;clear hs;obtain ⟨R,hR⟩:∃ R,F f S a=R:=⟨_,rfl⟩;rw [hR] at HR HC;clear hR;obtain ⟨re,rs,ro⟩:=R;by_cases hz:re=0
   ·subst hz;rw [if_pos rfl] at HR;go_enter func53,ntmps53
    go_wp2_with (first
      | (go_at_call 71;refine ad.out.mono ?_;rintro e w1 ⟨vn,rfl,J,G⟩;obtain ⟨ao,W,rfl,_⟩:=x_a J;have ae:=hD J;clear J;have C:=hD G;clear G)
      | (go_at_call 77;refine Calls.mono (stClone_any (H.out.keep ((C.out.alloc _).alloc _) n3) HS.out) ?_;rintro e w3 ⟨V1,rfl,ai,aa,U⟩;have Y:=((Blk.new w1 #[.string (bs so),.func (.func f) #[] #[]] 132).alloc (.cells #[.slice ao a.n.length W,.string a.word] 134)).keep U (fun h=>h);have O:=(Blk.new (w1.alloc (.cells #[.string (bs so),.func (.func f) #[] #[]] 132)) #[.slice ao a.n.length W,.string a.word] 134).keep U (fun h=>h);rw [World.size_alloc] at O;have c0:=Y.cell 0;have c1:=Y.cell 1;have d0:=O.cell 0;have d1:=O.cell 1;simp at c0 c1 d0 d1;have aj:=hD ai;clear ai;have M:=hD U;clear U Y O)
      | (refine Calls.mono (HC.out _ w3 V1 (.slice ao a.n.length W) ((GW.start (hG.keep ((C.out.alloc _).alloc _))).keep M.out n3) aj.out ⟨(x_g (((x_b ae.out ((Keep.refl kF w1).alloc _) n3) |> fun h=>x_b h ((Keep.refl kF _).alloc _) n3) |> fun h=>x_b h M.out n3) (x_l _)),fun k e=>by have:=x_d ae.out k e;simp;omega⟩) ?_;rintro e w4 ⟨rfl,V2,ak,ag⟩;have an:=hD (ak rfl);clear ak;have ac:=hD ag;clear ag))
    go_ret3;have ar:=C.out.size;have am:=M.out.size;simp only [World.size_alloc] at am;have al:Keep kF w w3:=((C.out.alloc _).alloc _).trans M.out n3;refine ⟨V2,by rw [HR.out,ac.out.b];rfl,?_,ac.out.vb.trans aa,fun e=>?_,fun k hk=>?_,?_⟩
    ·rw [HR.out];exact an.out.at an.out.lt
    ·rw [HR.out] at e;exact absurd rfl e
    ·rcases ac.out.fp k hk with e | e
     ·rcases aj.out.fp_new k e with e | e
      ·exact .inl (.inr (.inl (aa ▸ e)))
      ·simp only [World.size_alloc] at e;exact .inr (by omega)
     ·exact .inr (by omega)
    ·exact al.trans ac.out.keep (fun k hk e=>by have:=e.1;simp only [World.size_alloc] at this;omega)
   ·rw [if_neg hz] at HR;have ez:(re != 0)=true:=(by simpa using hz);go_enter func53,ntmps53
    go_wp2_with (first
      | (go_at_call 71;refine ad.out.mono ?_;rintro e w1 ⟨vn,rfl,J,G⟩;obtain ⟨ao,W,rfl,_⟩:=x_a J;have ae:=hD J;clear J;have C:=hD G;clear G)
      | (go_at_call 77;refine Calls.mono (stClone_any (H.out.keep ((C.out.alloc _).alloc _) n3) HS.out) ?_;rintro e w3 ⟨V1,rfl,ai,aa,U⟩;have Y:=((Blk.new w1 #[.string (bs so),.func (.func f) #[] #[]] 132).alloc (.cells #[.slice ao a.n.length W,.string a.word] 134)).keep U (fun h=>h);have O:=(Blk.new (w1.alloc (.cells #[.string (bs so),.func (.func f) #[] #[]] 132)) #[.slice ao a.n.length W,.string a.word] 134).keep U (fun h=>h);rw [World.size_alloc] at O;have c0:=Y.cell 0;have c1:=Y.cell 1;have d0:=O.cell 0;have d1:=O.cell 1;simp at c0 c1 d0 d1;have aj:=hD ai;clear ai;have M:=hD U;clear U Y O)
      | (refine Calls.mono (HC.out _ w3 V1 (.slice ao a.n.length W) ((GW.start (hG.keep ((C.out.alloc _).alloc _))).keep M.out n3) aj.out ⟨(x_g (((x_b ae.out ((Keep.refl kF w1).alloc _) n3) |> fun h=>x_b h ((Keep.refl kF _).alloc _) n3) |> fun h=>x_b h M.out n3) (x_l _)),fun k e=>by have:=x_d ae.out k e;simp;omega⟩) ?_;rintro e w4 ⟨rfl,V2,ak,ag⟩;clear ak;have ac:=hD ag;clear ag))
    go_ret3;have ar:=C.out.size;have am:=M.out.size;simp only [World.size_alloc] at am;have al:Keep kF w w3:=((C.out.alloc _).alloc _).trans M.out n3;have aq:Keep kF w w4:=al.trans ac.out.keep (fun k hk e=>by have:=e.1;simp only [World.size_alloc] at this;omega);refine ⟨V,by rw [HR.out];rfl,?_,rfl,fun _=>rfl,fun _ e=>.inl e,aq⟩;rw [HR.out];exact H.out.keep aq n3
theorem z_b {S:St} {i:Int} (h:hasLot S i=true):∃ k:Nat,i=(k:Int)+1∧k < S.lots.length:=by
 unfold hasLot at h;simp at h;exact ⟨(i - 1).toNat,by omega,by omega⟩
theorem lotPtr_at {V:StV} {g cap n k:Nat} (hv:V.vl = .slice (some ⟨g,0,none⟩) n cap):lotPtr V ((k:Int)+1) = .pointer (some ⟨g,k * 4,none⟩):=by
 unfold lotPtr;rw [hv];simp only [];rw [show ((k:Int)+1 - 1).toNat=k by omega,Nat.zero_add]
theorem shut_any {base:Nat} {w:World} {V:StV} {S:St} {vn:Value} {a:FA} (hG:GW base w) (h:OSt base w V S) (hl:S.small) (ha:Args base w vn a) (hn:a.n.length=1):Calls prog 260 #[.pointer (some ⟨V.b,0,none⟩),.agg #[vn,.string a.word]] w (RunPost base w V (shutF S a)):=by
 obtain ⟨nb,no,nc,rfl,Z,hC⟩:=args_open h ha (by omega);have hd:∃ x,a.n=[x]:=List.length_eq_one_iff.1 hn;obtain ⟨x,hx⟩:=hd;obtain ⟨an,word,M⟩:=a;simp only at hx hn Z hC;subst hx;change Calls prog 260 #[.pointer (some ⟨V.b,0,none⟩),.agg #[.slice (some ⟨nb,no,none⟩) 1 nc,.string word]] w (RunPost base w V (shutF S ⟨[x],word,M⟩));have aa:∀ W,Keep (fun k=>base≤k∧V.fp k) (w.alloc (.cells #[.slice (some ⟨nb,no,none⟩) 1 nc,.string word] 134)) W→W.cell? ⟨w.heap.size,0,none⟩=some (.slice (some ⟨nb,no,none⟩) 1 nc)∧W.cell? ⟨nb,no,none⟩=some (.int .i64 x):=fun W hk=>(by obtain ⟨h1,_,h3⟩:=hC W hk;exact ⟨h1,h3 0 (by simp)⟩);obtain ⟨b0,b2⟩:=aa _ (Keep.refl _ _);have ah:1≤nc:=Z;obtain ⟨w0,G⟩:∃ w0,w0=w.alloc (.cells #[.slice (some ⟨nb,no,none⟩) 1 nc,.string word] 134):=⟨_,rfl⟩;have Y:Keep kF w w0:=(by rw [G];exact (Keep.refl _ _).alloc _);have h0:=h.keep Y n3;have A:=lot_any (i:=x) (h0.at h0.lt) hl.l;unfold LotPost at A;have U:=hD G;have R:=hD Y;clear Y;clear hC aa ha Z hn;cases hb:hasLot S x
 ·have HF:=hD (show shutF S ⟨[x],word,M⟩=⟨5,S,bs []⟩ by unfold shutF;simp only [List.getD_cons_zero];rw [hb];rfl);rw [hb,if_neg (by simp)] at A;have J:=hD A;clear A hb h h0 G;go_enter func260,ntmps260;go_wp2_with (go_at_call 263;rw [← U.out];refine J.out.mono ?_;rintro e w1 ⟨rfl,rfl⟩)
  go_ret2;exact ⟨by rw [HF.out];rfl,V,(fun e=>by rw [HF.out] at e;cases e),(Chg.refl base w V).after R.out⟩
 ·obtain ⟨k,rfl,hk⟩:=z_b hb;obtain ⟨g,cap,hv,ae,ai,ag⟩:=h.lotRow (by omega);rw [hb,if_pos rfl,lotPtr_at hv] at A;have C:S.lots[((k:Int)+1 - 1).toNat]?=some S.lots[k]:=(by rw [show ((k:Int)+1 - 1).toNat=k by omega];exact List.getElem?_eq_getElem hk);have J:=hD A;clear A;obtain ⟨⟨_,_,c2,c3⟩,X⟩:=h0.lotCell hv hk;have f2:=X (k * 4+2);have f3:=X (k * 4+3);clear X;cases O:S.lots[k].closed
  ·have HF:=hD (show shutF S ⟨[(k:Int)+1],word,M⟩=⟨0,{S with lots:=S.lots.set k {S.lots[k] with bay:=-1,closed:=true} },bs [99,108,111,115,101]⟩ by unfold shutF;simp only [List.getD_cons_zero];rw [hb,C];simp only [if_true];rw [O,show ((k:Int)+1 - 1).toNat=k by omega];rfl);rw [O] at c3;have H0:=hD h0;clear hb h h0 G C;go_enter func260,ntmps260;go_wp2_with (go_at_call 263;rw [← U.out];refine J.out.mono ?_;rintro e w1 ⟨rfl,rfl⟩)
   go_ret2;obtain ⟨h1,ac⟩:=H0.out.setLot hv hk 3 (by omega) {S.lots[k] with closed:=true} (.bool true) rfl;obtain ⟨h2,ad⟩:=h1.setLot (g:=g) (cap:=cap) (by simpa using hv) (i:=k) (by simpa using hk) 2 (by omega) {S.lots[k] with bay:=-1,closed:=true} (.int .i64 (-1)) (by simp [lotCell]);refine ⟨by rw [HF.out];rfl,V,fun _=>?_,(ac.trans ad).before R.out⟩;rw [HF.out];simpa using h2
  ·have HF:=hD (show shutF S ⟨[(k:Int)+1],word,M⟩=⟨7,S,bs []⟩ by unfold shutF;simp only [List.getD_cons_zero];rw [hb,C];simp only [if_true];rw [O];rfl);rw [O] at c3;clear hb h h0 G C;go_enter func260,ntmps260;go_wp2_with (go_at_call 263;rw [← U.out];refine J.out.mono ?_;rintro e w1 ⟨rfl,rfl⟩)
   go_ret2;exact ⟨by rw [HF.out];rfl,V,(fun e=>by rw [HF.out] at e;cases e),(Chg.refl base w V).after R.out⟩
def blendS (S:St) (i j q:Int) (x y:Lot):St:=
  {S with lots:=(S.lots.set (i - 1).toNat {x with grams:=wrap64 (x.grams - q)}).set (j - 1).toNat {y with grams:=wrap64 (y.grams - q)} }
def blendT (S:St) (i j q:Int) (x y:Lot):St:=
  touchS (touchS (addS (blendS S i j q x y) ⟨bs [98,108,101,110,100],wrap64 (2 * q),-1,false⟩) ((S.lots.length:Int)+1) i) ((S.lots.length:Int)+1) j
def blendF (S:St) (a:FA):Res:=
  if S.lots.length=20 then ⟨9,S,bs []⟩
  else if allLots S [a.n.getD 0 0,a.n.getD 1 0] then
    (if a.n.getD 0 0=a.n.getD 1 0∨a.n.getD 2 0=0 then ⟨7,S,bs []⟩
     else match S.lots[(a.n.getD 0 0 - 1).toNat]?,S.lots[(a.n.getD 1 0 - 1).toNat]? with
      | some x,some y=>if x.closed || (y.closed || decide (min x.grams y.grams < a.n.getD 2 0)) then ⟨7,S,bs []⟩
          else ⟨0,blendT S (a.n.getD 0 0) (a.n.getD 1 0) (a.n.getD 2 0) x y,bs [98,108,101,110,100]++(bs [32]++itoaB ((S.lots.length:Int)+1))⟩
      | _,_=>⟨5,S,bs []⟩)
  else ⟨5,S,bs []⟩
theorem touch_step {base b:Nat} {w:World} {V:StV} {S:St} {i j:Int} (hb:V.b=b) (hG:GW base w) (h:OSt base w V S) (hc:S.contacts.length≤1000000000) (hn:S.notes.length≤1000000000) (hi:i64b i) (hj:i64b j):Calls prog 264 #[.pointer (some ⟨b,0,none⟩),.int .i64 i,.int .i64 j] w (TouchedPost base w V S i j):=by
 subst hb;exact addTouch_any hG h hc hn hi hj
theorem OSt.lotCellX {base:Nat} {w:World} {V:StV} {S:St} (h:OSt base w V S) {g cap:Nat} (hv:V.vl = .slice (some ⟨g,0,none⟩) S.lots.length cap) {i:Nat} {X:Lot} (hX:S.lots[i]?=some X):(w.cell? ⟨g,i * 4,none⟩=some (.string X.spice)∧w.cell? ⟨g,i * 4+1,none⟩=some (.int .i64 X.grams)∧w.cell? ⟨g,i * 4+2,none⟩=some (.int .i64 X.bay)∧w.cell? ⟨g,i * 4+3,none⟩=some (.bool X.closed))∧∀ o,w.frozen? ⟨g,o,none⟩=false:=by
 obtain ⟨hi,rfl⟩:=List.getElem?_eq_some_iff.1 hX;exact h.lotCell hv hi
theorem OSt.setLotX {base:Nat} {w:World} {V:StV} {S:St} (h:OSt base w V S) {g cap:Nat} (hv:V.vl = .slice (some ⟨g,0,none⟩) S.lots.length cap) {i:Nat} {X:Lot} (hX:S.lots[i]?=some X) (f:Nat) (hf:f < 4) (x:Lot) (u:Value) (hx:Go.Proofs.YthdkamnclbfehaaGreatDoor.lotCell x=(Go.Proofs.YthdkamnclbfehaaGreatDoor.lotCell X).set f u):OSt base (w.setCell ⟨g,i * 4+f,none⟩ u) V {S with lots:=S.lots.set i x}∧Chg base w V V (w.setCell ⟨g,i * 4+f,none⟩ u):=by
 obtain ⟨hi,rfl⟩:=List.getElem?_eq_some_iff.1 hX;exact h.setLot hv hi f hf x u hx
theorem blend_any {base:Nat} {w:World} {V:StV} {S:St} {vn:Value} {a:FA} (hG:GW base w) (h:OSt base w V S) (hl:S.small) (hcs:S.contacts.length≤999999999) (hns:S.notes.length≤999999999) (hl20:S.lots.length≤20) (ha:Args base w vn a) (hn:a.n.length=3) (hbx:∀ x∈a.n,i64b x):Calls prog 256 #[.pointer (some ⟨V.b,0,none⟩),.agg #[vn,.string a.word]] w (RunPost base w V (blendF S a)):=by
 obtain ⟨nb,no,nc,rfl,aA,hC⟩:=args_open h ha (by omega)
 obtain ⟨i,j,q,hx⟩:∃ i j q,a.n=[i,j,q]:=by
  match a.n,hn with
  | [i,j,q],_=>exact ⟨i,j,q,rfl⟩
 obtain ⟨an,word,ae⟩:=a;simp only at hx hn aA hC hbx;subst hx;have aL:=hbx i (by simp);have aM:=hbx j (by simp);have aP:=hbx q (by simp);change Calls prog 256 #[.pointer (some ⟨V.b,0,none⟩),.agg #[.slice (some ⟨nb,no,none⟩) 3 nc,.string word]] w (RunPost base w V (blendF S ⟨[i,j,q],word,ae⟩));obtain ⟨w0,am⟩:∃ w0,w0=w.alloc (.cells #[.slice (some ⟨nb,no,none⟩) 3 nc,.string word] 134):=⟨_,rfl⟩;obtain ⟨b0,b1,b2⟩:=hC _ (Keep.refl _ _);have n0:=b2 0 (by simp);have n1:=b2 1 (by simp);have n2:=b2 2 (by simp);simp only [Nat.add_zero,List.getD_cons_zero,List.getD_cons_succ] at n0 n1 n2;have aZ:(w.alloc (.cells #[.slice (some ⟨nb,no,none⟩) 3 nc,.string word] 134)).cell? ⟨w.heap.size,0,none⟩=some (.slice (some ⟨nb,no,none⟩) 3 nc):=b0;have bz:w0.cell? ⟨nb,no,none⟩=some (.int .i64 i):=(by rw [am];exact n0);have b3:w0.cell? ⟨nb,no+1,none⟩=some (.int .i64 j):=(by rw [am];exact n1);have b4:w0.cell? ⟨nb,no+2,none⟩=some (.int .i64 q):=(by rw [am];exact n2);rw [← am] at aZ;have bk:3≤nc:=aA;have a7:Keep kF w w0:=(by rw [am];exact (Keep.refl _ _).alloc _);have h0:=h.keep a7 n3;obtain ⟨lo,lc,aT,bu,_⟩:=x_a h.ol;have c1:=h0.blk.cell 1;simp [StV.cells] at c1;rw [aT] at c1;have HI:=hD aL;have HJ:=hD aM;have HQ:=hD aP;clear aL aM aP hbx;have H0:=hD h0;clear h0;have H:=hD h;clear h;have HL:=hD hl;clear hl;have aa:=hD a7;clear a7;have ad:=hD am;clear am;clear b0 b1 b2 n0 n1 n2 hC ha aA hn;by_cases ay:S.lots.length=20
 ·have ba:((S.lots.length:Int) == 20)=true:=(by simp;omega);have HF:=hD (show blendF S ⟨[i,j,q],word,ae⟩=⟨9,S,bs []⟩ by unfold blendF;rw [if_pos ay]);go_enter func256,ntmps256;go_wp2
  rw [← ad.out];go_quiet (fail)
  go_wp2
  go_ret2;exact ⟨by rw [HF.out];rfl,V,(fun e=>by rw [HF.out] at e;cases e),(Chg.refl base w V).after (aa.out.drewN _)⟩
 have ba:((S.lots.length:Int) == 20)=false:=(by simp;omega);cases M:allLots S [i,j]
 ·have HF:=hD (show blendF S ⟨[i,j,q],word,ae⟩=⟨5,S,bs []⟩ by unfold blendF;rw [if_neg ay];simp only [List.getD_cons_zero,List.getD_cons_succ];rw [M];rfl);go_enter func256,ntmps256;go_wp2
  rw [← ad.out];go_quiet (fail)
  have J:=hD M;clear M;go_wp2_with (go_at_call 262;have kk:=(((Keep.refl kF w0).drewN nq).alloc (.cells #[.int .i64 i,.int .i64 j] 3));have hh:=y_k (l:=[i,j]) ((H0.out.keep kk n3).at (Nat.le_trans H0.out.lt kk.size)) HL.out.l (Rd.new (w0.drewN nq) 1 2 (icells [i,j]) 3 rfl (x_l _) (by unfold maxLen;omega)) (by simp);rw [J.out] at hh;refine Calls.mono hh ?_;clear hh;rintro e w1 ⟨rfl,C⟩;have A:=hD (kk.trans C n3);clear C kk)
  go_ret2;exact ⟨by rw [HF.out];rfl,V,(fun e=>by rw [HF.out] at e;cases e),(Chg.refl base w V).after (aa.out.trans A.out n3)⟩
 ·have a6:hasLot S i=true∧hasLot S j=true:=(by unfold allLots at M;simpa using M);obtain ⟨k1,rfl,C⟩:=z_b a6.1;obtain ⟨k2,rfl,aN⟩:=z_b a6.2;clear a6;obtain ⟨g,cap,hv,bf,br,bg⟩:=H.out.lotRow (by omega);obtain ⟨X,hX⟩:∃ X,S.lots[k1]?=some X:=⟨_,List.getElem?_eq_getElem C⟩;obtain ⟨Y,hY⟩:∃ Y,S.lots[k2]?=some Y:=⟨_,List.getElem?_eq_getElem aN⟩;have aJ:S.lots[((k1:Int)+1 - 1).toNat]?=some X:=(by rw [show ((k1:Int)+1 - 1).toNat=k1 by omega];exact hX);have aK:S.lots[((k2:Int)+1 - 1).toNat]?=some Y:=(by rw [show ((k2:Int)+1 - 1).toNat=k2 by omega];exact hY);have ai:Hid (∀ W,Keep kF w0 W→∀ k,k < S.lots.length→Calls prog 263 #[.pointer (some ⟨V.b,0,none⟩),.int .i64 ((k:Int)+1)] W fun e w'=>e = .returned (.pointer (some ⟨g,k * 4,none⟩))∧W=w'):=hD fun W hk k hkl=>by have hh:=lot_any (i:=(k:Int)+1) ((H0.out.keep hk n3).at (Nat.le_trans H0.out.lt hk.size)) HL.out.l;unfold LotPost at hh;rw [show hasLot S ((k:Int)+1)=true by unfold hasLot;rw [decide_eq_true (by omega),decide_eq_true (by omega)];rfl,if_pos rfl,lotPtr_at hv] at hh;exact hh
  have Z:blendF S ⟨[(k1:Int)+1,(k2:Int)+1,q],word,ae⟩=if (k1:Int)+1=(k2:Int)+1∨q=0 then ⟨7,S,bs []⟩ else
      (if X.closed || (Y.closed || decide (min X.grams Y.grams < q)) then ⟨7,S,bs []⟩ else ⟨0,blendT S ((k1:Int)+1) ((k2:Int)+1) q X Y,bs [98,108,101,110,100]++(bs [32]++itoaB ((S.lots.length:Int)+1))⟩):=by
    unfold blendF
    rw [if_neg ay]
    simp only [List.getD_cons_zero,List.getD_cons_succ]
    rw [M,if_pos rfl,aJ,aK]
  have J:=hD M;clear M;have O:=hD C;have R:=hD aN;clear aJ aK aT;have HX:=hD hX;clear hX;have HY:=hD hY;clear hY;by_cases h7:(k1:Int)+1=(k2:Int)+1∨q=0
  ·rw [if_pos h7] at Z;have HF:=hD Z;clear Z;by_cases hk:k1=k2
   ·subst hk;clear h7;go_enter func256,ntmps256;go_wp2
    rw [← ad.out];go_quiet (fail)
    go_wp2_with (first
      | (go_at_call 262;have kk:=(((Keep.refl kF w0).drewN nq).alloc (.cells #[.int .i64 ((k1:Int)+1),.int .i64 ((k1:Int)+1)] 3));have hh:=y_k (l:=[((k1:Int)+1),((k1:Int)+1)]) ((H0.out.keep kk n3).at (Nat.le_trans H0.out.lt kk.size)) HL.out.l (Rd.new (w0.drewN nq) 1 2 (icells [((k1:Int)+1),((k1:Int)+1)]) 3 rfl (x_l _) (by unfold maxLen;omega)) (by simp);rw [J.out] at hh;refine Calls.mono hh ?_;clear hh;rintro e w1 ⟨rfl,C⟩;have A:=hD (kk.trans C n3);clear C kk)
      | (go_at_call 263;refine Calls.mono (ai.out w1 A.out _ (by first | exact O.out | exact R.out)) ?_;rintro e w' ⟨rfl,rfl⟩)
      | (go_at_call 263;refine Calls.mono (ai.out w1 A.out _ (by first | exact O.out | exact R.out)) ?_;rintro e w' ⟨rfl,rfl⟩))
    go_ret2;exact ⟨by rw [HF.out];rfl,V,(fun e=>by rw [HF.out] at e;cases e),(Chg.refl base w V).after (aa.out.trans A.out n3)⟩
   ·obtain rfl:q=0:=(by omega);have aB:((k1:Int) == (k2:Int))=false:=(by simp;omega);clear h7;go_enter func256,ntmps256;go_wp2
    rw [← ad.out];go_quiet (fail)
    go_wp2_with (first
      | (go_at_call 262;have kk:=(((Keep.refl kF w0).drewN nq).alloc (.cells #[.int .i64 ((k1:Int)+1),.int .i64 ((k2:Int)+1)] 3));have hh:=y_k (l:=[((k1:Int)+1),((k2:Int)+1)]) ((H0.out.keep kk n3).at (Nat.le_trans H0.out.lt kk.size)) HL.out.l (Rd.new (w0.drewN nq) 1 2 (icells [((k1:Int)+1),((k2:Int)+1)]) 3 rfl (x_l _) (by unfold maxLen;omega)) (by simp);rw [J.out] at hh;refine Calls.mono hh ?_;clear hh;rintro e w1 ⟨rfl,C⟩;have A:=hD (kk.trans C n3);clear C kk)
      | (go_at_call 263;refine Calls.mono (ai.out w1 A.out _ (by first | exact O.out | exact R.out)) ?_;rintro e w' ⟨rfl,rfl⟩))
    go_ret2;exact ⟨by rw [HF.out];rfl,V,(fun e=>by rw [HF.out] at e;cases e),(Chg.refl base w V).after (aa.out.trans A.out n3)⟩
  ·rw [if_neg h7] at Z;have bx:(q == 0)=false:=(by simp;omega);have aB:((k1:Int) == (k2:Int))=false:=(by simp;omega);have a8:k1≠k2:=(by omega);clear h7;by_cases al:X.closed=true
   ·have HF:=hD (show blendF S ⟨[(k1:Int)+1,(k2:Int)+1,q],word,ae⟩=⟨7,S,bs []⟩ by rw [Z,al];rfl);have ah:=hD al;clear al Z;go_enter func256,ntmps256;go_wp2
    rw [← ad.out];go_quiet (fail)
    go_wp2_with (first
      | (go_at_call 262;have kk:=(((Keep.refl kF w0).drewN nq).alloc (.cells #[.int .i64 ((k1:Int)+1),.int .i64 ((k2:Int)+1)] 3));have hh:=y_k (l:=[((k1:Int)+1),((k2:Int)+1)]) ((H0.out.keep kk n3).at (Nat.le_trans H0.out.lt kk.size)) HL.out.l (Rd.new (w0.drewN nq) 1 2 (icells [((k1:Int)+1),((k2:Int)+1)]) 3 rfl (x_l _) (by unfold maxLen;omega)) (by simp);rw [J.out] at hh;refine Calls.mono hh ?_;clear hh;rintro e w1 ⟨rfl,C⟩;have A:=hD (kk.trans C n3);clear C kk;obtain ⟨⟨_,x1,_,x3⟩,fr⟩:=(H0.out.keep A.out n3).lotCellX hv HX.out;obtain ⟨⟨_,y1,_,y3⟩,_⟩:=(H0.out.keep A.out n3).lotCellX hv HY.out;rw [ah.out] at x3)
      | (go_at_call 263;refine Calls.mono (ai.out w1 A.out _ (by first | exact O.out | exact R.out)) ?_;rintro e w' ⟨rfl,rfl⟩))
    go_quiet (fail)
    go_wp2
    go_ret2;exact ⟨by rw [HF.out];rfl,V,(fun e=>by rw [HF.out] at e;cases e),(Chg.refl base w V).after ((aa.out.trans A.out n3).drewN _)⟩
   have G:X.closed=false:=(by simpa using al);by_cases ao:Y.closed=true
   ·have HF:=hD (show blendF S ⟨[(k1:Int)+1,(k2:Int)+1,q],word,ae⟩=⟨7,S,bs []⟩ by rw [Z,G,ao];rfl);have ah:=hD G;have aq:=hD ao;clear al G ao Z;go_enter func256,ntmps256;go_wp2
    rw [← ad.out];go_quiet (fail)
    go_wp2_with (first
      | (go_at_call 262;have kk:=(((Keep.refl kF w0).drewN nq).alloc (.cells #[.int .i64 ((k1:Int)+1),.int .i64 ((k2:Int)+1)] 3));have hh:=y_k (l:=[((k1:Int)+1),((k2:Int)+1)]) ((H0.out.keep kk n3).at (Nat.le_trans H0.out.lt kk.size)) HL.out.l (Rd.new (w0.drewN nq) 1 2 (icells [((k1:Int)+1),((k2:Int)+1)]) 3 rfl (x_l _) (by unfold maxLen;omega)) (by simp);rw [J.out] at hh;refine Calls.mono hh ?_;clear hh;rintro e w1 ⟨rfl,C⟩;have A:=hD (kk.trans C n3);clear C kk;obtain ⟨⟨_,x1,_,x3⟩,fr⟩:=(H0.out.keep A.out n3).lotCellX hv HX.out;obtain ⟨⟨_,y1,_,y3⟩,_⟩:=(H0.out.keep A.out n3).lotCellX hv HY.out;rw [ah.out] at x3;rw [aq.out] at y3)
      | (go_at_call 263;refine Calls.mono (ai.out w1 A.out _ (by first | exact O.out | exact R.out)) ?_;rintro e w' ⟨rfl,rfl⟩))
    go_quiet (fail)
    go_wp2
    go_ret2;exact ⟨by rw [HF.out];rfl,V,(fun e=>by rw [HF.out] at e;cases e),(Chg.refl base w V).after ((aa.out.trans A.out n3).drewN _)⟩
   have U:Y.closed=false:=(by simpa using ao);by_cases hm:min X.grams Y.grams < q
   ·have HF:=hD (show blendF S ⟨[(k1:Int)+1,(k2:Int)+1,q],word,ae⟩=⟨7,S,bs []⟩ by rw [Z,G,U,decide_eq_true hm];rfl);have ah:=hD G;have aq:=hD U;clear al G ao U Z;have bh:decide (min X.grams Y.grams < q)=true:=decide_eq_true hm;clear hm;go_enter func256,ntmps256;go_wp2
    rw [← ad.out];go_quiet (fail)
    go_wp2_with (first
      | (go_at_call 262;have kk:=(((Keep.refl kF w0).drewN nq).alloc (.cells #[.int .i64 ((k1:Int)+1),.int .i64 ((k2:Int)+1)] 3));have hh:=y_k (l:=[((k1:Int)+1),((k2:Int)+1)]) ((H0.out.keep kk n3).at (Nat.le_trans H0.out.lt kk.size)) HL.out.l (Rd.new (w0.drewN nq) 1 2 (icells [((k1:Int)+1),((k2:Int)+1)]) 3 rfl (x_l _) (by unfold maxLen;omega)) (by simp);rw [J.out] at hh;refine Calls.mono hh ?_;clear hh;rintro e w1 ⟨rfl,C⟩;have A:=hD (kk.trans C n3);clear C kk;obtain ⟨⟨_,x1,_,x3⟩,fr⟩:=(H0.out.keep A.out n3).lotCellX hv HX.out;obtain ⟨⟨_,y1,_,y3⟩,_⟩:=(H0.out.keep A.out n3).lotCellX hv HY.out;rw [ah.out] at x3;rw [aq.out] at y3)
      | (go_at_call 263;refine Calls.mono (ai.out w1 A.out _ (by first | exact O.out | exact R.out)) ?_;rintro e w' ⟨rfl,rfl⟩))
    go_quiet (fail)
    go_wp2
    go_ret2;exact ⟨by rw [HF.out];rfl,V,(fun e=>by rw [HF.out] at e;cases e),(Chg.refl base w V).after ((aa.out.trans A.out n3).drewN _)⟩
   have HF:=hD (show blendF S ⟨[(k1:Int)+1,(k2:Int)+1,q],word,ae⟩=⟨0,blendT S ((k1:Int)+1) ((k2:Int)+1) q X Y,bs [98,108,101,110,100]++(bs [32]++itoaB ((S.lots.length:Int)+1))⟩ by rw [Z,G,U,decide_eq_false hm];rfl);have ah:=hD G;have aq:=hD U;clear al G ao U Z;have bh:decide (min X.grams Y.grams < q)=false:=decide_eq_false hm;clear hm;have bi:k1 * 4+1≠k2 * 4+1:=(by omega);have bj:k2 * 4+1≠k1 * 4+1:=(by omega);have bt:(9223372036854775807 < 5+(1+(itoaB ((S.lots.length:Int)+1)).size))=False:=eq_false (by have:=x_r ((S.lots.length:Int)+1) (by omega) (by omega);omega);go_enter func256,ntmps256;go_wp2
   rw [← ad.out];go_quiet (fail)
   go_wp2_with (first
     | (go_at_call 262;have kk:=(((Keep.refl kF w0).drewN nq).alloc (.cells #[.int .i64 ((k1:Int)+1),.int .i64 ((k2:Int)+1)] 3));have hh:=y_k (l:=[((k1:Int)+1),((k2:Int)+1)]) ((H0.out.keep kk n3).at (Nat.le_trans H0.out.lt kk.size)) HL.out.l (Rd.new (w0.drewN nq) 1 2 (icells [((k1:Int)+1),((k2:Int)+1)]) 3 rfl (x_l _) (by unfold maxLen;omega)) (by simp);rw [J.out] at hh;refine Calls.mono hh ?_;clear hh;rintro e w1 ⟨rfl,C⟩;have A:=hD (kk.trans C n3);clear C kk;obtain ⟨⟨_,x1,_,x3⟩,fr⟩:=(H0.out.keep A.out n3).lotCellX hv HX.out;obtain ⟨⟨_,y1,_,y3⟩,_⟩:=(H0.out.keep A.out n3).lotCellX hv HY.out;rw [ah.out] at x3;rw [aq.out] at y3;have bp:=fr (k1 * 4+1);have bq:=fr (k2 * 4+1))
     | (go_at_call 263;refine Calls.mono (ai.out w1 A.out _ (by first | exact O.out | exact R.out)) ?_;rintro e w' ⟨rfl,rfl⟩))
   go_quiet (fail)
   have ag:(blendS S ((k1:Int)+1) ((k2:Int)+1) q X Y).lots.length=S.lots.length:=(by simp [blendS]);have ar:(addS (blendS S ((k1:Int)+1) ((k2:Int)+1) q X Y) ⟨⟨#[98,108,101,110,100]⟩,wrap64 (2 * q),-1,false⟩).lots.length=S.lots.length+1:=(by simp [addS,blendS]);have au:(touchS (addS (blendS S ((k1:Int)+1) ((k2:Int)+1) q X Y) ⟨⟨#[98,108,101,110,100]⟩,wrap64 (2 * q),-1,false⟩) ((S.lots.length:Int)+1) ((k1:Int)+1)).lots.length=S.lots.length+1:=by simp [touchS,addS,blendS]
   go_wp2_with (first
     | (go_at_call 261;have h2:=(H0.out.keep A.out n3).keep ((Keep.refl kF w1).drewN nq) n3;obtain ⟨h3,aG⟩:=h2.setLotX hv HX.out 1 (by omega) {X with grams:=wrap64 (X.grams - q)} (.int .i64 (wrap64 (X.grams - q))) rfl;obtain ⟨h4,aH⟩:=h3.setLotX (g:=g) (cap:=cap) (by simpa using hv) (i:=k2) (X:=Y) (by rw [List.getElem?_set_ne a8];exact HY.out) 1 (by omega) {Y with grams:=wrap64 (Y.grams - q)} (.int .i64 (wrap64 (Y.grams - q))) rfl;have aE:OSt base (((w1.drewN nq).setCell ⟨g,k1 * 4+1,none⟩ (.int .i64 (wrap64 (X.grams - q)))).setCell ⟨g,k2 * 4+1,none⟩ (.int .i64 (wrap64 (Y.grams - q)))) V (blendS S ((k1:Int)+1) ((k2:Int)+1) q X Y):=(by unfold blendS;rw [show ((k1:Int)+1 - 1).toNat=k1 by omega,show ((k2:Int)+1 - 1).toNat=k2 by omega];exact h4);have a1:=(aG.trans aH).before ((aa.out.trans A.out n3).drewN nq);have hh:=add_any (x:=⟨⟨#[98,108,101,110,100]⟩,wrap64 (2 * q),-1,false⟩) (hG.keep a1.keep (fun i hi e=>by have:=e.1;omega)) aE (by rw [ag];omega);refine Calls.mono hh ?_;clear hh;rintro e w5 ⟨V5,rfl,av,ax⟩;rw [ag];have aj:=a1.trans ax;obtain ⟨l5,q5,aQ,_⟩:=x_a av.ol;have c5:=av.blk.cell 1;simp [StV.cells] at c5;rw [aQ,ar,ax.b] at c5;have aX:Hid (∀ jj,(jj=((k1:Int)+1)∨jj=((k2:Int)+1))→Calls prog 264 #[.pointer (some ⟨V.b,0,none⟩),.int .i64 ((S.lots.length:Int)+1),.int .i64 jj] w5 (TouchedPost base w5 V5 (addS (blendS S ((k1:Int)+1) ((k2:Int)+1) q X Y) ⟨⟨#[98,108,101,110,100]⟩,wrap64 (2 * q),-1,false⟩) ((S.lots.length:Int)+1) jj)):=hD (fun jj hjj=>touch_step ax.b (hG.keep aj.keep (fun i hi e=>by have:=e.1;omega)) av (by simp [addS,blendS];omega) (by simp [addS,blendS];omega) (by unfold i64b;omega) (by rcases hjj with rfl | rfl;exact HI.out;exact HJ.out));have ac:Hid True:=hD trivial;have aD:=hD aj;have bl:=hD av;clear h2 h3 h4 aG aH aE a1 ax av aQ aj)
     | (go_at_call 264;have aC:=ac.out;clear ac;refine Calls.mono (aX.out _ (by simp)) ?_;rintro e w6 ⟨V6,rfl,aw,az⟩;have aF:V6.b=V.b:=az.b.trans aD.out.b;have ak:=aD.out.trans az;obtain ⟨l6,q6,aS,_⟩:=x_a aw.ol;have c6:=aw.blk.cell 1;simp [StV.cells] at c6;rw [aS,aF,au] at c6;have aY:Hid (∀ jj,(jj=((k1:Int)+1)∨jj=((k2:Int)+1))→Calls prog 264 #[.pointer (some ⟨V.b,0,none⟩),.int .i64 ((S.lots.length:Int)+1),.int .i64 jj] w6 (TouchedPost base w6 V6 (touchS (addS (blendS S ((k1:Int)+1) ((k2:Int)+1) q X Y) ⟨⟨#[98,108,101,110,100]⟩,wrap64 (2 * q),-1,false⟩) ((S.lots.length:Int)+1) ((k1:Int)+1)) ((S.lots.length:Int)+1) jj)):=hD (fun jj hjj=>touch_step aF (hG.keep ak.keep (fun i hi e=>by have:=e.1;omega)) aw (by simp [touchS,addS,blendS];omega) (by simp [touchS,addS,blendS];omega) (by unfold i64b;omega) (by rcases hjj with rfl | rfl;exact HI.out;exact HJ.out));have aU:=hD ak;have bn:=hD aw;clear az aw aS ak aC)
     | (go_at_call 264;refine Calls.mono (aY.out _ (by simp)) ?_;rintro e w7 ⟨V7,rfl,aO,aI⟩;have aV:=hD (aU.out.trans aI);have aW:=hD aO;clear aO aI))
   go_ret2;exact ⟨by rw [HF.out];rfl,V7,fun _=>by rw [HF.out];exact aW.out,aV.out⟩
def testNote (x:Int) (word:ByteArray):ByteArray:=((bs [116,101,115,116,32]++itoaB x)++bs [32])++word
def testS (S:St) (x g:Int) (word:ByteArray):St:={S with tests:=S.tests++[(x,g)],notes:=S.notes++[testNote x word]}
def testF (S:St) (a:FA):Res:=
  if hasLot S (a.n.getD 0 0) then (if a.word=goodB then ⟨0,testS S (a.n.getD 0 0) 1 a.word,bs [116,101,115,116]⟩ else ⟨0,testS S (a.n.getD 0 0) 0 a.word,bs [116,101,115,116]⟩) else ⟨5,S,bs []⟩
theorem test_any {base:Nat} {w:World} {V:StV} {S:St} {vn:Value} {a:FA} (hG:GW base w) (h:OSt base w V S) (hl:S.small) (ha:Args base w vn a) (hn:a.n.length=1) (hbx:∀ x∈a.n,i64b x) (hwz:a.word.size≤1000):Calls prog 259 #[.pointer (some ⟨V.b,0,none⟩),.agg #[vn,.string a.word]] w (RunPost base w V (testF S a)):=by
 obtain ⟨nb,no,nc,rfl,az,hC⟩:=args_open h ha (by omega);obtain ⟨x,hx⟩:∃ x,a.n=[x]:=List.length_eq_one_iff.1 hn;obtain ⟨an,word,aq⟩:=a;simp only at hx hn az hC hbx hwz;subst hx;have ar:=hbx x (by simp);obtain ⟨b,vb,vl,vc,vt,vn⟩:=V;obtain ⟨ag,tc,aF,aW,_⟩:=x_a h.ot;simp only at aF;subst aF;obtain ⟨M,J,aE,aS,_⟩:=x_a h.on;simp only at aE;subst aE;change Calls prog 259 #[.pointer (some ⟨b,0,none⟩),.agg #[.slice (some ⟨nb,no,none⟩) 1 nc,.string word]] w (RunPost base w ⟨b,vb,vl,vc,.slice ag S.tests.length tc,.slice M S.notes.length J⟩ (testF S ⟨[x],word,aq⟩));obtain ⟨w0,ah⟩:∃ w0,w0=w.alloc (.cells #[.slice (some ⟨nb,no,none⟩) 1 nc,.string word] 134):=⟨_,rfl⟩;have HC:Hid (∀ W,Keep (fun k=>base≤k∧StV.fp ⟨b,vb,vl,vc,.slice ag S.tests.length tc,.slice M S.notes.length J⟩ k) w0 W→W.cell? ⟨w.heap.size,0,none⟩=some (.slice (some ⟨nb,no,none⟩) 1 nc)∧W.cell? ⟨w.heap.size,1,none⟩=some (.string word)∧W.cell? ⟨nb,no,none⟩=some (.int .i64 x)):=hD fun W hk=>(by rw [ah] at hk;obtain ⟨h1,h2,h3⟩:=hC W hk;exact ⟨h1,h2,h3 0 (by simp)⟩);obtain ⟨b0,b1,b2⟩:=HC.out w0 (Keep.refl _ _);rw [ah] at b0 b1 b2;have aT:1≤nc:=az;have ax:Keep kF w w0:=(by rw [ah];exact (Keep.refl _ _).alloc _);have h0:=h.keep ax n3;have aG:w0.heap.size=w.heap.size+1:=(by rw [ah];simp);have aD:=Rd.new w0 1 1 (icells [x]) 3 rfl (x_l _) (by unfold maxLen;omega);have ad:=y_k (l:=[x]) ((h0.keep ((Keep.refl kF w0).alloc (.cells (icells [x]).toArray 3)) n3).at (by have:=h0.lt;simp;omega)) hl.l aD (by simp);rw [aG,show allLots S [x]=hasLot S x by simp [allLots]] at ad;have si:=x_r x ar.1 ar.2;have aX:(9223372036854775807 < 5+(itoaB x).size)=False:=eq_false (by omega);have aY:(9223372036854775807 < 5+(itoaB x).size+1)=False:=eq_false (by omega);have aZ:(9223372036854775807 < 5+(itoaB x).size+1+word.size)=False:=eq_false (by omega);have aV:=hl.t;have aU:=hl.n;have HX:=hD ar;clear ar hbx;have H0:=hD h0;clear h0;have HV:=hD h;clear h;have a8:=hD ax;clear ax;have aA:=hD ah;clear ah;clear hC ha az hn hl aD aG;cases hb:hasLot S x
 ·have HF:=hD (show testF S ⟨[x],word,aq⟩=⟨5,S,bs []⟩ by unfold testF;simp only [List.getD_cons_zero];rw [hb];rfl);rw [hb] at ad;have av:=hD ad;clear ad hb;go_enter func259,ntmps259;go_wp2_with (go_at_call 262;rw [← aA.out];refine av.out.mono ?_;rintro e w1 ⟨rfl,ak⟩;have aK:=hD ak;clear ak)
  go_ret2;exact ⟨by rw [HF.out];rfl,_,(fun e=>by rw [HF.out] at e;cases e),(Chg.refl base w _).after ((a8.out.alloc (.cells #[.int .i64 x] 3)).trans aK.out n3)⟩
 ·rw [hb] at ad;have av:=hD ad;clear ad;by_cases ae:word=goodB
  focus
   have HF:=hD (show testF S ⟨[x],word,aq⟩=⟨0,testS S x 1 word,bs [116,101,115,116]⟩ by unfold testF;simp only [List.getD_cons_zero];rw [hb,if_pos rfl,if_pos ae]);have aP:(word.toList=[103,111,111,100])=True:=eq_true ((x_n _ _).2 ae);have aO:(word.toList == [103,111,111,100])=true:=beq_iff_eq.2 ((x_n _ _).2 ae);obtain ⟨gd,aj⟩:∃ gd:Int,gd=1:=⟨_,rfl⟩;rw [show testS S x 1 word=testS S x gd word by rw [aj]] at HF
  rotate_left
  focus
   have HF:=hD (show testF S ⟨[x],word,aq⟩=⟨0,testS S x 0 word,bs [116,101,115,116]⟩ by unfold testF;simp only [List.getD_cons_zero];rw [hb,if_pos rfl,if_neg ae]);have aP:(word.toList=[103,111,111,100])=False:=eq_false (fun h=>ae ((x_n _ _).1 h));have aO:(word.toList == [103,111,111,100])=false:=beq_eq_false_iff_ne.2 (fun h=>ae ((x_n _ _).1 h));obtain ⟨gd,aj⟩:∃ gd:Int,gd=0:=⟨_,rfl⟩;rw [show testS S x 0 word=testS S x gd word by rw [aj]] at HF
  rotate_left
  all_goals
   have aI:=hD aj;clear aj;clear hb ae;go_enter func259,ntmps259;go_wp2_with (go_at_call 262;rw [← aA.out];refine av.out.mono ?_;rintro e w1 ⟨rfl,ak⟩;have R:=hD (((Keep.refl kF w0).alloc (.cells #[.int .i64 x] 3)).trans ak n3);obtain ⟨a0,a1,a2⟩:=HC.out w1 (R.out.mono (fun _ _ h=>h.elim));clear ak)
   have h1:=H0.out.keep R.out n3;have d3:=h1.blk.cell 3;have ay:=h1.blk.lt;simp [StV.cells] at d3 ay;have H1:=hD h1;clear h1;obtain ⟨w2,am⟩:∃ w2,w2=w1.alloc (.cells #[.int .i64 x,.int .i64 gd] 176):=⟨_,rfl⟩;have al:Keep kF w1 w2:=(by rw [am];exact (Keep.refl _ _).alloc _);have O:=hD al;clear al;have aM:Hid (Src prog 2 71 (.slice (some ⟨w1.heap.size,0,none⟩) 1 1) 1 (pairCell (x,gd)) w2.drew):=hD (by have:=Rd.new w1 2 1 (pairCell (x,gd)) 176 rfl (by simp [pairCell,Value.oneCell']) (by unfold maxLen;omega);rw [am];exact this.drew.src underlying71);have aL:Hid (w2.drew.ownsRow base 176 2 (.slice ag S.tests.length tc) S.tests.length (pairCells S.tests)):=hD (x_b H1.out.ot O.out.drew n3);rw [aI.out] at am;have aN:=hD am;clear am;have Y:Hid (Keep (fun k=>base≤k∧StV.fp ⟨b,vb,vl,vc,.slice ag S.tests.length tc,.slice M S.notes.length J⟩ k) w0 w1):=hD (R.out.mono (fun _ _ h=>h.elim));refine wp_region_noPanic ?_;refine wp_region_held_drew (S:=fun W=>W.cell? ⟨w.heap.size,0,none⟩=some (.slice (some ⟨nb,no,none⟩) 1 nc)∧W.cell? ⟨w.heap.size,1,none⟩=some (.string word)∧W.cell? ⟨nb,no,none⟩=some (.int .i64 x)) (by kernel_rfl) (HC.out _ Y.out.drew) fun hHeld=>?_;refine wS 0 ?_;refine wS 1 ?_;refine wS 2 ?_;refine wS 3 ?_;refine wS 5 ?_;refine wS 6 ?_;refine wS 7 ?_;refine wS 8 ?_;refine wS 9 ?_;refine wS 10 ?_;refine wR (rs:=[4,11]) ?_;refine AllReadyH.cons (o:=_) rfl (fun K hK=>?_) (AllReadyH.cons (o:=_) rfl (fun K hK=>?_) AllReadyH.nil)
   all_goals
    go_simp;refine hK.out _ _ ?_ fun hHeld=>?_
    ·((try dsimp only);refine HC.out _ ?_;repeat (first | exact Y.out | apply Keep.drew | apply Keep.alloc | refine Keep.setCell ?_ _ _ (fun _=>⟨HV.out.ge,.inl rfl⟩)))
    clear hK K;(try simp only [tA])
   focus
    refine wR (rs:=[11]) ?_
   rotate_left
   focus
    refine wR (rs:=[4]) ?_
   rotate_left
   all_goals
    refine aR rfl fun K hK=>?_;go_simp;refine hK.out _ _ ?_ fun hHeld=>?_
    ·((try dsimp only);refine HC.out _ ?_;repeat (first | exact Y.out | apply Keep.drew | apply Keep.alloc | refine Keep.setCell ?_ _ _ (fun _=>⟨HV.out.ge,.inl rfl⟩)))
    clear hK K;(try simp only [tA]);refine wB 12 fun K hK=>?_;rw [← aN.out];refine x_q (w:=w2.drew) (.tmp 22) (.tmp 29) 71 71 rfl 176 zPair 2 16 underlying71 info176 rfl aL.out rfl aM.out rfl (by unfold maxLen;omega) (by omega) (Nat.le_trans H1.out.lt O.out.size) (fun v' w7 happ=>?_);obtain ⟨Z,G,rfl,_⟩:=x_a happ.own;have h6:=H1.out.keep O.out.drew n3;have h7:=h6.setTests (w1:=w7) (v':=.slice Z (S.tests.length+1) G) (ls:=S.tests++[(x,gd)]) happ.keep (by have:=happ.own;simpa [pairCells,pairCell] using this) happ.fresh;have aw:=h6.blk.keep happ.keep h6.tne;have d3:=aw.cell 3;have f3:=aw.free 3;simp [StV.cells] at d3 f3;have Y:=hD (((R.out.trans O.out.drew n3).mono (T:=fun k=>base≤k∧StV.fp ⟨b,vb,vl,vc,.slice ag S.tests.length tc,.slice M S.notes.length J⟩ k) (fun _ _ h=>h.elim)).trans happ.keep (fun k _ e=>⟨h6.fp_ge.2.2.1 k e,.inr (.inr (.inr (.inr (.inl e))))⟩));have HA:=hD happ;have H6:=hD h6;have H7:=hD h7;clear happ h6 h7 aw;(try dsimp only);refine hK.out _ _ ?_ fun hHeld=>?_
    ·((try dsimp only);refine HC.out _ ?_;repeat (first | exact Y.out | apply Keep.drew | apply Keep.alloc | refine Keep.setCell ?_ _ _ (fun _=>⟨HV.out.ge,.inl rfl⟩)))
    clear hK K;(try simp only [tA]);refine wS 13 ?_;refine wS 14 ?_;refine wA 15 fun K hK=>?_;go_simp;refine hK.out _ _ ?_ fun hHeld=>?_
    ·((try dsimp only);refine HC.out _ ?_;repeat (first | exact Y.out | apply Keep.drew | apply Keep.alloc | refine Keep.setCell ?_ _ _ (fun _=>⟨HV.out.ge,.inl rfl⟩)))
    clear hK K;(try simp only [tA]);refine wpAnyH_done (by kernel_rfl) ?_ _;refine NoPanic.normal ?_;go_wp2
    obtain ⟨w4,a7⟩:∃ w4,w4=w7.setCell ⟨b,3,none⟩ (.slice Z (S.tests.length+1) G):=⟨_,rfl⟩
    have aB:Chg base w1 ⟨b,vb,vl,vc,.slice ag S.tests.length tc,.slice M S.notes.length J⟩ ⟨b,vb,vl,vc,.slice Z (S.tests.length+1) G,.slice M S.notes.length J⟩ (w7.setCell ⟨b,3,none⟩ (.slice Z (S.tests.length+1) G)):=by
     refine ⟨rfl,rfl,fun k hk=>?_,((O.out.drew.mono (fun _ _ h=>h.elim)).trans (HA.out.keep.mono (T:=fun k=>base≤k∧StV.fp ⟨b,vb,vl,vc,.slice ag S.tests.length tc,.slice M S.notes.length J⟩ k) (fun k _ e=>⟨H6.out.fp_ge.2.2.1 k e,.inr (.inr (.inr (.inr (.inl e))))⟩)) n3).setCell _ _ (fun _=>⟨H1.out.ge,.inl rfl⟩)⟩;rcases hk with e | e | e | e | e | e
     ·exact .inl (.inl e)
     ·exact .inl (.inr (.inl e))
     ·exact .inl (.inr (.inr (.inl e)))
     ·exact .inl (.inr (.inr (.inr (.inl e))))
     ·rcases HA.out.fresh with h1 | ⟨g,h1,h2⟩
      ·exact .inl (.inr (.inr (.inr (.inr (.inl (h1.symm.trans e))))))
      ·have h3:g=k:=Option.some.inj (h1.symm.trans e);have h4:=O.out.size;have h5:w2.heap.size≤g:=h2;exact .inr (by omega)
     ·exact .inl (.inr (.inr (.inr (.inr (.inr e)))))
    have ao:=hD ((Chg.before (a8.out.trans R.out n3) aB));have ac:=Y.out.setCell ⟨b,3,none⟩ (.slice Z (S.tests.length+1) G) (fun _=>⟨HV.out.ge,.inl rfl⟩);have H4:=H7;rw [← a7] at H4 ao ac;rw [← a7];have au:=hD ac;clear H7 a7 d3 f3 aB ac;have d4:=H4.out.blk.cell 4;simp [StV.cells] at d4;have aH:=hD (hG.keep ao.out.keep (fun i hi e=>by have:=e.1;omega));have aJ:Hid (∀ W,Keep kF w4 W→Calls prog 96 #[.int .i64 x] W (ItoaPost W x)):=hD fun W hk=>x_y (aH.out.glob.keep hk) HX.out.1 HX.out.2;have A:Hid (Keep kF w4 w4.drew):=hD (Keep.refl _ _).drew;have C:Hid (Keep (fun k=>k=b∨(Value.slice M S.notes.length J).ownBlock=some k) w4 w4.drew):=hD (Keep.refl _ _).drew;have X:Hid (∀ W,Keep (fun k=>k=b∨(Value.slice M S.notes.length J).ownBlock=some k) w4 W→(fun W=>W.cell? ⟨w.heap.size,0,none⟩=some (.slice (some ⟨nb,no,none⟩) 1 nc)∧W.cell? ⟨w.heap.size,1,none⟩=some (.string word)∧W.cell? ⟨nb,no,none⟩=some (.int .i64 x)) W):=hD fun W hk=>HC.out W (au.out.trans hk (fun k _ e=>e.elim (fun e=>⟨e ▸ HV.out.ge,.inl e⟩) (fun e=>⟨HV.out.fp_ge.2.2.2 k e,.inr (.inr (.inr (.inr (.inr e))))⟩)));refine wp_region_noPanic ?_;refine wp_region_held_drew (S:=fun W=>W.cell? ⟨w.heap.size,0,none⟩=some (.slice (some ⟨nb,no,none⟩) 1 nc)∧W.cell? ⟨w.heap.size,1,none⟩=some (.string word)∧W.cell? ⟨nb,no,none⟩=some (.int .i64 x)) (by kernel_rfl) (X.out _ C.out) fun hHeld=>?_;refine wS 0 ?_;refine wS 1 ?_;refine wS 2 ?_;refine wS 3 ?_;refine wS 5 ?_;refine wS 6 ?_;refine wS 7 ?_;refine wS 8 ?_;refine wS 12 ?_;refine wS 13 ?_;refine wR (rs:=[4,9]) ?_;refine AllReadyH.cons (o:=_) rfl (fun K hK=>?_) (AllReadyH.cons (o:=_) rfl (fun K hK=>?_) AllReadyH.nil)
    focus
     go_simp;refine hK.out _ _ ?_ fun hHeld=>?_
     ·((try dsimp only);refine X.out _ ?_;exact kX C.out)
     clear hK K;(try simp only [tA]);refine wA 9 fun K hK=>?_
    rotate_left;rotate_left
    all_goals
     go_simp;refine Calls.mono (aJ.out _ A.out) ?_;rintro e Wc ⟨rfl,aC⟩;have A:=hD (A.out.trans aC n3);have C:=hD (A.out.mono (T:=fun k=>k=b∨(Value.slice M S.notes.length J).ownBlock=some k) (fun _ _ h=>h.elim));have d4:=(H4.out.keep A.out n3).blk.cell 4;simp [StV.cells] at d4;have aQ:b < Wc.heap.size:=(H4.out.keep A.out n3).blk.lt;clear aC;(try dsimp only);refine hK.out _ _ ?_ fun hHeld=>?_
     ·((try dsimp only);refine X.out _ ?_;exact kX C.out)
     clear hK K;(try simp only [tA]);refine wS 10 ?_;refine wS 11 ?_;refine wS 14 ?_
    ·refine wA 15 fun K hK=>?_;go_simp;refine hK.out _ _ ?_ fun hHeld=>?_
     ·((try dsimp only);refine X.out _ ?_;exact kX C.out)
     clear hK K;(try simp only [tA]);refine wB 16 fun K hK=>?_;have a6:(Wc.alloc (.cells #[.string (testNote x word)] 9)).ownsRow base 9 1 (.slice M S.notes.length J) S.notes.length (strCells S.notes):=x_b (H4.out.on) (A.out.alloc (.cells #[.string (testNote x word)] 9)) n3;refine x_q (.tmp 37) (.tmp 48) 44 44 rfl 9 (.string ⟨#[]⟩) 1 16 underlying44 y_t rfl a6 rfl ((Rd.new Wc 1 1 [.string (testNote x word)] 9 rfl (by simp [Value.oneCell']) (by unfold maxLen;omega)).src underlying44) rfl (by unfold maxLen;omega) (by omega) (Nat.le_trans H4.out.lt (A.out.alloc (.cells #[.string (testNote x word)] 9)).size) (fun v' w8 happ=>?_);obtain ⟨ai,U,rfl,_⟩:=x_a happ.own;have h6:=H4.out.keep (A.out.alloc (.cells #[.string (testNote x word)] 9)) n3;have h8:=h6.setNotes (w1:=w8) (v':=.slice ai (S.notes.length+1) U) (ls:=S.notes++[testNote x word]) happ.keep (by have:=happ.own;simpa [strCells] using this) happ.fresh;have aa:=h6.blk.keep happ.keep h6.nne;have d4:=aa.cell 4;have f4:=aa.free 4;simp [StV.cells] at d4 f4;have C:=hD (((A.out.alloc (.cells #[.string (testNote x word)] 9)).mono (T:=fun k=>k=b∨(Value.slice M S.notes.length J).ownBlock=some k) (fun _ _ h=>h.elim)).trans happ.keep (fun _ _ e=>.inr e));have HB:=hD happ;have H5:=hD h6;have H8:=hD h8;clear happ h6 h8 aa;(try dsimp only);refine hK.out _ _ ?_ fun hHeld=>?_
     ·((try dsimp only);refine X.out _ ?_;exact kX C.out)
     clear hK K;(try simp only [tA]);refine wS 17 ?_;refine wS 18 ?_;refine wA 19 fun K hK=>?_;go_simp;refine hK.out _ _ ?_ fun hHeld=>?_
     ·((try dsimp only);refine X.out _ ?_;exact kX C.out)
     clear hK K;(try simp only [tA]);refine wpAnyH_done (by kernel_rfl) ?_ _;refine NoPanic.normal ?_;go_wp2
     go_ret2;refine ⟨by rw [HF.out];rfl,⟨b,vb,vl,vc,.slice Z (S.tests.length+1) G,.slice ai (S.notes.length+1) U⟩,fun _=>by rw [HF.out];exact H8.out,?_⟩;refine ao.out.trans ⟨rfl,rfl,fun k hk=>?_,(C.out.setCell _ _ (fun _=>.inl rfl)).mono (fun k _ e=>e.elim (fun e=>⟨e ▸ H4.out.ge,.inl e⟩) (fun e=>⟨H4.out.fp_ge.2.2.2 k e,.inr (.inr (.inr (.inr (.inr e))))⟩))⟩;rcases hk with e | e | e | e | e | e
     ·exact .inl (.inl e)
     ·exact .inl (.inr (.inl e))
     ·exact .inl (.inr (.inr (.inl e)))
     ·exact .inl (.inr (.inr (.inr (.inl e))))
     ·exact .inl (.inr (.inr (.inr (.inr (.inl e)))))
     ·rcases HB.out.fresh with h1 | ⟨g,h1,h2⟩
      ·exact .inl (.inr (.inr (.inr (.inr (.inr (h1.symm.trans e))))))
      ·have h3:g=k:=Option.some.inj (h1.symm.trans e);have h4:=(A.out.alloc (.cells #[.string (testNote x word)] 9)).size;have h5:(Wc.alloc (.cells #[.string (testNote x word)] 9)).heap.size≤g:=h2;exact .inr (by omega)
    ·refine wR (rs:=[4,15]) ?_;refine AllReadyH.cons (o:=_) rfl (fun K hK=>?_) (AllReadyH.cons (o:=_) rfl (fun K hK=>?_) AllReadyH.nil)
     all_goals
      go_simp;refine hK.out _ _ ?_ fun hHeld=>?_
      ·((try dsimp only);refine X.out _ ?_;exact kX C.out)
      clear hK K;(try simp only [tA])
     focus
      refine wR (rs:=[15]) ?_
     rotate_left
     focus
      refine wR (rs:=[4]) ?_
     rotate_left
     all_goals
      refine aR rfl fun K hK=>?_;go_simp;refine hK.out _ _ ?_ fun hHeld=>?_
      ·((try dsimp only);refine X.out _ ?_;exact kX C.out)
      clear hK K;(try simp only [tA]);refine wB 16 fun K hK=>?_;have a6:(Wc.alloc (.cells #[.string (testNote x word)] 9)).ownsRow base 9 1 (.slice M S.notes.length J) S.notes.length (strCells S.notes):=x_b (H4.out.on) (A.out.alloc (.cells #[.string (testNote x word)] 9)) n3;refine x_q (.tmp 37) (.tmp 48) 44 44 rfl 9 (.string ⟨#[]⟩) 1 16 underlying44 y_t rfl a6 rfl ((Rd.new Wc 1 1 [.string (testNote x word)] 9 rfl (by simp [Value.oneCell']) (by unfold maxLen;omega)).src underlying44) rfl (by unfold maxLen;omega) (by omega) (Nat.le_trans H4.out.lt (A.out.alloc (.cells #[.string (testNote x word)] 9)).size) (fun v' w8 happ=>?_);obtain ⟨ai,U,rfl,_⟩:=x_a happ.own;have h6:=H4.out.keep (A.out.alloc (.cells #[.string (testNote x word)] 9)) n3;have h8:=h6.setNotes (w1:=w8) (v':=.slice ai (S.notes.length+1) U) (ls:=S.notes++[testNote x word]) happ.keep (by have:=happ.own;simpa [strCells] using this) happ.fresh;have aa:=h6.blk.keep happ.keep h6.nne;have d4:=aa.cell 4;have f4:=aa.free 4;simp [StV.cells] at d4 f4;have C:=hD (((A.out.alloc (.cells #[.string (testNote x word)] 9)).mono (T:=fun k=>k=b∨(Value.slice M S.notes.length J).ownBlock=some k) (fun _ _ h=>h.elim)).trans happ.keep (fun _ _ e=>.inr e));have HB:=hD happ;have H5:=hD h6;have H8:=hD h8;clear happ h6 h8 aa;(try dsimp only);refine hK.out _ _ ?_ fun hHeld=>?_
      ·((try dsimp only);refine X.out _ ?_;exact kX C.out)
      clear hK K;(try simp only [tA]);refine wS 17 ?_;refine wS 18 ?_;refine wA 19 fun K hK=>?_;go_simp;refine hK.out _ _ ?_ fun hHeld=>?_
      ·((try dsimp only);refine X.out _ ?_;exact kX C.out)
      clear hK K;(try simp only [tA]);refine wpAnyH_done (by kernel_rfl) ?_ _;refine NoPanic.normal ?_;go_wp2
      go_ret2;refine ⟨by rw [HF.out];rfl,⟨b,vb,vl,vc,.slice Z (S.tests.length+1) G,.slice ai (S.notes.length+1) U⟩,fun _=>by rw [HF.out];exact H8.out,?_⟩;refine ao.out.trans ⟨rfl,rfl,fun k hk=>?_,(C.out.setCell _ _ (fun _=>.inl rfl)).mono (fun k _ e=>e.elim (fun e=>⟨e ▸ H4.out.ge,.inl e⟩) (fun e=>⟨H4.out.fp_ge.2.2.2 k e,.inr (.inr (.inr (.inr (.inr e))))⟩))⟩;rcases hk with e | e | e | e | e | e
      ·exact .inl (.inl e)
      ·exact .inl (.inr (.inl e))
      ·exact .inl (.inr (.inr (.inl e)))
      ·exact .inl (.inr (.inr (.inr (.inl e))))
      ·exact .inl (.inr (.inr (.inr (.inr (.inl e)))))
      ·rcases HB.out.fresh with h1 | ⟨g,h1,h2⟩
       ·exact .inl (.inr (.inr (.inr (.inr (.inr (h1.symm.trans e))))))
       ·have h3:g=k:=Option.some.inj (h1.symm.trans e);have h4:=(A.out.alloc (.cells #[.string (testNote x word)] 9)).size;have h5:(Wc.alloc (.cells #[.string (testNote x word)] 9)).heap.size≤g:=h2;exact .inr (by omega)
def HasPost (w:World) (b:Bool) (e:Ending) (w':World):Prop:=e = .returned (.bool b)∧Keep kF w w'
theorem y_v {w:World} {lo co to_ no:Option Addr} {cn tn nn lc cc tc nc:Nat} {S:St} {i:Int}:Calls prog 97 #[.agg #[.slice lo S.lots.length lc,.slice co cn cc,.slice to_ tn tc,.slice no nn nc],.int .i64 i] w (HasPost w (hasLot S i)):=by
 have hk:Keep kF w (w.alloc (.cells #[.slice lo S.lots.length lc,.slice co cn cc,.slice to_ tn tc,.slice no nn nc] 74)):=(Keep.refl _ _).alloc _;by_cases h1:1≤i
 ·have A:decide ((1:Int)≤i)=true:=decide_eq_true h1;by_cases h2:i≤(S.lots.length:Int)
  ·have C:decide (i≤(S.lots.length:Int))=true:=decide_eq_true h2;have HF:hasLot S i=true:=(by unfold hasLot;simp [h1,h2]);have HF:=hD HF;have HK:=hD hk;clear hk h1 h2;go_enter func97,ntmps97;go_wp2
   go_ret;exact ⟨by rw [HF.out];try rfl,HK.out⟩
  ·have C:decide (i≤(S.lots.length:Int))=false:=decide_eq_false h2;have HF:hasLot S i=false:=(by unfold hasLot;simp [h1];omega);have HF:=hD HF;have HK:=hD hk;clear hk h1 h2;go_enter func97,ntmps97;go_wp2
   go_ret;exact ⟨by rw [HF.out];try rfl,HK.out⟩
 ·have A:decide ((1:Int)≤i)=false:=decide_eq_false h1;have HF:hasLot S i=false:=(by unfold hasLot;simp [h1]);have HF:=hD HF;have HK:=hD hk;clear hk h1;go_enter func97,ntmps97;go_wp2
  go_ret;exact ⟨by rw [HF.out];try rfl,HK.out⟩
end Go.Proofs.YthdkamnclbfehaaGreatDoor
