/- A part of the proof. -/
import Derived.Test.YthdkamnclbfehaaGreatDoorDaysM6
import Derived.Test.YthdkamnclbfehaaGreatDoorDaysM16
set_option linter.all false
set_option maxHeartbeats 20000000
set_option maxRecDepth 100000
namespace Go.Proofs.YthdkamnclbfehaaGreatDoor
open Go.RowKit Tryz
def rowOk (g:List Int) (i:Nat):Prop:=
  0≤g.getD i 0∧g.getD i 0 < 2 ^ g.length∧g.getD i 0 / 2 ^ i % 2≠1∧∀ j,j < g.length→g.getD i 0 / 2 ^ j % 2=g.getD j 0 / 2 ^ i % 2
instance (g:List Int) (i:Nat):Decidable (rowOk g i):=by unfold rowOk;infer_instance
def Graph (g:List Int):Prop:=1≤g.length∧g.length≤12∧∀ i,i < g.length→rowOk g i
instance (g:List Int):Decidable (Graph g):=by unfold Graph;infer_instance
def validB (g:List Int):Bool:=decide (Graph g)
theorem v_m {g:List Int}:validB g=true↔Graph g:=by unfold validB;exact decide_eq_true_iff
theorem y_m {g:List Int}:validB g=false↔¬ Graph g:=by unfold validB;exact decide_eq_false_iff_not
theorem wrap64_pow {n:Nat} (h:n≤12):wrap64 (2 ^ n)=2 ^ n:=by
 have h1:(2:Int) ^ n=((2 ^ n:Nat):Int):=(by push_cast;rfl);have h2:(2:Nat) ^ n≤2 ^ 12:=Nat.pow_le_pow_right (by decide) h;rw [h1];generalize (2:Nat) ^ n=q at *;unfold wrap64;omega
def DrawPost (w:World) (r:Value) (e:Ending) (w':World):Prop:=e = .returned r∧∃ n,w'=w.drewN n
theorem DrawPost.keep {w w':World} {r:Value} {e:Ending} (h:DrawPost w r e w'):e = .returned r∧Keep kF w w':=by
 obtain ⟨h,n,rfl⟩:=h;exact ⟨h,(Keep.refl _ _).drewN n⟩
theorem valid_any {w:World} {v:Value} {g:List Int} (hv:Rd w 1 v g.length (icells g)) (hlen:g.length < 9223372036854775807):Calls prog 116 #[v] w (DrawPost w (.bool (validB g))):=by
 obtain ⟨ao,aq,an,hn,hm,av⟩:=hv.shape;subst an;have HV:=hD hv;clear hv;by_cases hl:g.length < 1
 ·have hF:=hD (show validB g=false from y_m.2 fun h=>by have:=h.1;have:=h.2.1;omega);go_enter func116,ntmps116;go_wp2
  go_ret;exact ⟨by rw [hF.out];rfl,0,rfl⟩
 have au:decide ((g.length:Int) < 1)=false:=(by simp;omega);by_cases ak:12 < g.length
 ·have hF:=hD (show validB g=false from y_m.2 fun h=>by have:=h.1;have:=h.2.1;omega);go_enter func116,ntmps116;go_wp2
  go_ret;exact ⟨by rw [hF.out];rfl,0,rfl⟩
 have al:decide ((12:Int) < (g.length:Int))=false:=(by simp;omega);have a1:=u_g;have HP:=hD (wrap64_pow (show g.length≤12 by omega));have am:g.length≤12:=(by omega);have aj:1≤g.length:=(by omega);clear hl ak;go_enter func116,ntmps116;go_wp2
 go_loopw [17] (fun i wr=>∃ k n:Nat,k≤g.length∧i = .int .i64 k∧wr=w.drewN n∧∀ i,i < k→rowOk g i) (fun i _=>g.length - (intOf i).toNat)
 case atStart=>exact ⟨0,0,Nat.zero_le _,rfl,rfl,fun i h=>by omega⟩
 case round=>
  obtain ⟨k,n,hk,rfl,rfl,h0⟩:=hrel;have H0:=hD h0;clear h0;by_cases aa:k < g.length
  ·obtain ⟨b,o,ag,G⟩:∃ b o,ao=some ⟨b,o,none⟩∧∀ j,j < g.length→w.cell? ⟨b,o+j,none⟩=some (.int .i64 (g.getD j 0)):=by
    rcases HV.out.2.2 with ⟨h,h'⟩ | ⟨b,o,c,h,_,_,hx⟩
    ·omega
    ·cases h;exact ⟨b,o,rfl,fun j hj=>hx j _ (y_f g j hj)⟩
   subst ag;have HC:=hD G;clear G;have X:=HC.out k aa;have J:Hid (¬ rowOk g k→validB g=false):=hD (fun h=>y_m.2 fun hg=>h (hg.2.2 k aa));obtain ⟨x,hx⟩:∃ x:Int,g.getD k 0=x:=⟨_,rfl⟩;rw [hx] at X;have HX:=hD hx;clear hx;by_cases O:x < 0
   ·have hF:=hD (J.out (fun h=>by have:=h.1;rw [HX.out] at this;omega));go_wp2
    go_ret;exact ⟨by rw [hF.out];rfl,n,rfl⟩
   have ac:decide (x < 0)=false:=(by simp;omega);by_cases C:2 ^ g.length≤x
   ·have hF:=hD (J.out (fun h=>by have:=h.2.1;rw [HX.out] at this;omega));have W:decide (wrap64 (2 ^ g.length)≤x)=true:=(by rw [HP.out];simpa using C);clear O C;go_wp2
    go_ret;exact ⟨by rw [hF.out];rfl,n,rfl⟩
   have W:decide (wrap64 (2 ^ g.length)≤x)=false:=(by rw [HP.out];simpa using C);by_cases A:x / 2 ^ k % 2=1
   ·have hF:=hD (J.out (fun h=>by have:=h.2.2.1;rw [HX.out] at this;exact this A));have R:(x / 2 ^ k % 2 == 1)=true:=(by simpa using A);clear O C A;go_wp2
    go_ret;exact ⟨by rw [hF.out];rfl,n,rfl⟩
   have R:(x / 2 ^ k % 2 == 1)=false:=(by simpa using A);have ae:Hid (0≤x∧x < 2 ^ g.length∧x / 2 ^ k % 2≠1):=hD ⟨by omega,by omega,A⟩;clear O C A;go_wp2
   go_loopw [38] (fun i wr=>∃ j m:Nat,j≤g.length∧i = .int .i64 j∧wr=w.drewN m∧∀ i,i < j→x / 2 ^ i % 2=g.getD i 0 / 2 ^ k % 2) (fun i _=>g.length - (intOf i).toNat)
   case atStart=>exact ⟨0,n,Nat.zero_le _,rfl,rfl,fun i h=>by omega⟩
   case round=>
    obtain ⟨j,m,hj,rfl,rfl,h1⟩:=hrel;have H1:=hD h1;clear h1;by_cases Z:j < g.length
    ·have M:=HC.out j Z;obtain ⟨y,hy⟩:∃ y:Int,g.getD j 0=y:=⟨_,rfl⟩;rw [hy] at M;have HY:=hD hy;clear hy;have ar:(j:Int) < g.length:=(by omega);by_cases U:x / 2 ^ j % 2=y / 2 ^ k % 2
     ·have Y:(x / 2 ^ j % 2 != y / 2 ^ k % 2)=false:=(by simpa using U);have ad:=hD U;clear U;go_wp2
      go_quiet (fail)
      go_wp2
      go_roundw
      case rel=>
       refine ⟨j+1,_,by omega,by go_num,rfl,fun i hi=>?_⟩;by_cases ah:i=j
       ·subst ah;rw [HY.out];exact ad.out
       ·exact H1.out i (by omega)
      case measure=>simp [intOf];omega
     ·have Y:(x / 2 ^ j % 2 != y / 2 ^ k % 2)=true:=(by simpa using U);have hF:=hD (J.out (fun h=>by have:=h.2.2.2 j Z;rw [HX.out,HY.out] at this;exact U this));clear U;go_wp2
      go_quiet (fail)
      go_wp2
      go_ret;exact ⟨by rw [hF.out];rfl,m+nq,by simp [World.drewN,Nat.add_assoc]⟩
    ·go_wp2
     go_roundw
     case rel=>
      refine ⟨k+1,m,by omega,by go_num,rfl,fun i hi=>?_⟩;by_cases ai:i=k
      ·subst ai;obtain ⟨q1,q2,q3⟩:=ae.out;unfold rowOk;rw [HX.out];exact ⟨q1,q2,q3,fun j' hj'=>H1.out j' (by omega)⟩
      ·exact H0.out i (by omega)
     case measure=>simp [intOf];omega
  ·have hF:=hD (show validB g=true from v_m.2 (by exact ⟨aj,am,fun i hi=>H0.out i (by omega)⟩));go_wp2
   go_ret;exact ⟨by rw [hF.out];rfl,n,rfl⟩
def rowR (g:List Int) (i:Nat):Prop:=
  0≤g.getD i 0∧g.getD i 0 < 2 ^ g.length∧g.getD i 0 / 2 ^ i % 2≠1∧∀ j,j < g.length→g.getD i 0 / 2 ^ j % 2=1→0≤g.getD j 0∧g.getD j 0 / 2 ^ i % 2≠0
theorem graph_rowR (g:List Int):Graph g↔1≤g.length∧g.length≤12∧∀ i,i < g.length→rowR g i:=by
 constructor
 ·rintro ⟨h1,h2,h3⟩;refine ⟨h1,h2,fun i hi=>?_⟩;obtain ⟨a,b,c,d⟩:=h3 i hi;exact ⟨a,b,c,fun j hj hb=>⟨(h3 j hj).1,by rw [← d j hj,hb];decide⟩⟩
 ·rintro ⟨h1,h2,h3⟩;refine ⟨h1,h2,fun i hi=>?_⟩;obtain ⟨a,b,c,d⟩:=h3 i hi;refine ⟨a,b,c,fun j hj=>?_⟩;obtain ⟨a',b',c',d'⟩:=h3 j hj;have e1:∀ q:Int,q % 2=0∨q % 2=1:=fun q=>(by omega);rcases e1 (g.getD i 0 / 2 ^ j) with h | h
  ·rcases e1 (g.getD j 0 / 2 ^ i) with h' | h'
   ·rw [h,h']
   ·exact absurd h (d' i hi h').2
  ·rcases e1 (g.getD j 0 / 2 ^ i) with h' | h'
   ·exact absurd h' (d j hj h).2
   ·rw [h,h']
theorem rvalid_any {w:World} {v:Value} {g:List Int} (hv:Rd w 1 v g.length (icells g)) (hlen:g.length < 9223372036854775807):Calls prog 17 #[v] w (DrawPost w (.bool (validB g))):=by
 obtain ⟨ao,au,aq,hn,hm,aw⟩:=hv.shape;subst aq;have HV:=hD hv;clear hv;by_cases hl:g.length < 1
 ·have hF:=hD (show validB g=false from y_m.2 fun h=>by have:=h.1;have:=h.2.1;omega);have al:decide ((g.length:Int) < 1)=true:=(by simp;omega);clear hl;go_enter func17,ntmps17;go_wp2
  go_ret;exact ⟨by rw [hF.out];rfl,0,rfl⟩
 have al:decide ((g.length:Int) < 1)=false:=(by simp;omega);by_cases ad:12 < g.length
 ·have hF:=hD (show validB g=false from y_m.2 fun h=>by have:=h.1;have:=h.2.1;omega);have aa:decide ((12:Int) < (g.length:Int))=true:=(by simp;omega);clear hl ad;go_enter func17,ntmps17;go_wp2
  go_ret;exact ⟨by rw [hF.out];rfl,0,rfl⟩
 have aa:decide ((12:Int) < (g.length:Int))=false:=(by simp;omega);have a1:=u_g;have HP:=hD (wrap64_pow (show g.length≤12 by omega));have an:g.length≤12:=(by omega);have am:1≤g.length:=(by omega);clear hl ad;go_enter func17,ntmps17;go_wp2
 go_loopw [16] (fun i wr=>∃ k n:Nat,k≤g.length∧i = .int .i64 k∧wr=w.drewN n∧∀ i,i < k→rowR g i) (fun i _=>g.length - (intOf i).toNat)
 case atStart=>exact ⟨0,0,Nat.zero_le _,rfl,rfl,fun i h=>by omega⟩
 case round=>
  obtain ⟨k,n,hk,rfl,rfl,h0⟩:=hrel;have H0:=hD h0;clear h0;by_cases ae:k < g.length
  ·obtain ⟨b,o,ai,J⟩:∃ b o,ao=some ⟨b,o,none⟩∧∀ j,j < g.length→w.cell? ⟨b,o+j,none⟩=some (.int .i64 (g.getD j 0)):=by
    rcases HV.out.2.2 with ⟨h,h'⟩ | ⟨b,o,c,h,_,_,hx⟩
    ·omega
    ·cases h;exact ⟨b,o,rfl,fun j hj=>hx j _ (y_f g j hj)⟩
   subst ai;have HC:=hD J;clear J;have W:=HC.out k ae;have C:Hid (¬ rowR g k→validB g=false):=hD (fun h=>y_m.2 fun hg=>h (((graph_rowR g).1 hg).2.2 k ae));obtain ⟨x,hx⟩:∃ x:Int,g.getD k 0=x:=⟨_,rfl⟩;rw [hx] at W;have HX:=hD hx;clear hx;by_cases O:x < 0
   ·have hF:=hD (C.out (fun h=>by have:=h.1;rw [HX.out] at this;omega));go_wp2
    go_ret;exact ⟨by rw [hF.out];rfl,n,rfl⟩
   have ag:decide (x < 0)=false:=(by simp;omega);by_cases G:2 ^ g.length≤x
   ·have hF:=hD (C.out (fun h=>by have:=h.2.1;rw [HX.out] at this;omega));have U:decide (wrap64 (2 ^ g.length)≤x)=true:=(by rw [HP.out];simpa using G);clear O G;go_wp2
    go_ret;exact ⟨by rw [hF.out];rfl,n,rfl⟩
   have U:decide (wrap64 (2 ^ g.length)≤x)=false:=(by rw [HP.out];simpa using G);by_cases A:x / 2 ^ k % 2=1
   ·have hF:=hD (C.out (fun h=>by have:=h.2.2.1;rw [HX.out] at this;exact this A));have R:(x / 2 ^ k % 2 == 1)=true:=(by simpa using A);clear O G A;go_wp2
    go_ret;exact ⟨by rw [hF.out];rfl,n,rfl⟩
   have R:(x / 2 ^ k % 2 == 1)=false:=(by simpa using A);have ah:Hid (0≤x∧x < 2 ^ g.length∧x / 2 ^ k % 2≠1):=hD ⟨by omega,by omega,A⟩;clear O G A;go_wp2
   go_loopw [39] (fun i wr=>∃ j m:Nat,j≤g.length∧i = .int .i64 j∧wr=w.drewN m∧∀ i,i < j→x / 2 ^ i % 2=1→0≤g.getD i 0∧g.getD i 0 / 2 ^ k % 2≠0) (fun i _=>g.length - (intOf i).toNat)
   case atStart=>exact ⟨0,n,Nat.zero_le _,rfl,rfl,fun i h=>by omega⟩
   case round=>
    obtain ⟨j,m,hj,rfl,rfl,h1⟩:=hrel;have H1:=hD h1;clear h1;by_cases Z:j < g.length
    ·have M:=HC.out j Z;obtain ⟨y,hy⟩:∃ y:Int,g.getD j 0=y:=⟨_,rfl⟩;rw [hy] at M;have HY:=hD hy;clear hy;have av:(j:Int) < g.length:=(by omega);by_cases hb:x / 2 ^ j % 2=1
     ·have aj:(x / 2 ^ j % 2 == 1)=true:=(by simpa using hb);have HB:=hD hb;clear hb;by_cases X:y < 0
      ·have ac:decide (y < 0)=true:=decide_eq_true X;have hF:=hD (C.out (fun h=>by have:=(h.2.2.2 j Z (by rw [HX.out];exact HB.out)).1;rw [HY.out] at this;omega));clear X;go_wp2
       go_ret;exact ⟨by rw [hF.out];rfl,m,rfl⟩
      have ac:decide (y < 0)=false:=decide_eq_false X;by_cases hz:y / 2 ^ k % 2=0
      ·have ar:(y / 2 ^ k % 2 == 0)=true:=(by simpa using hz);have hF:=hD (C.out (fun h=>by have:=(h.2.2.2 j Z (by rw [HX.out];exact HB.out)).2;rw [HY.out] at this;exact this hz));clear X hz;go_wp2
       go_ret;exact ⟨by rw [hF.out];rfl,m,rfl⟩
      have ar:(y / 2 ^ k % 2 == 0)=false:=(by simpa using hz);have HZ:Hid (0≤y∧y / 2 ^ k % 2≠0):=hD ⟨by omega,hz⟩;clear X hz;go_wp2
      go_roundw
      case rel=>
       refine ⟨j+1,m,by omega,by go_num,rfl,fun i hi=>?_⟩;by_cases Y:i=j
       ·subst Y;rw [HY.out];exact fun _=>HZ.out
       ·exact H1.out i (by omega)
      case measure=>simp [intOf];omega
     ·have aj:(x / 2 ^ j % 2 == 1)=false:=(by simpa using hb);have HB:=hD hb;clear hb;go_wp2
      go_roundw
      case rel=>
       refine ⟨j+1,m,by omega,by go_num,rfl,fun i hi=>?_⟩;by_cases Y:i=j
       ·subst Y;exact fun e=>absurd e HB.out
       ·exact H1.out i (by omega)
      case measure=>simp [intOf];omega
    ·go_wp2
     go_roundw
     case rel=>
      refine ⟨k+1,m,by omega,by go_num,rfl,fun i hi=>?_⟩;by_cases ak:i=k
      ·subst ak;obtain ⟨q1,q2,q3⟩:=ah.out;unfold rowR;rw [HX.out];exact ⟨q1,q2,q3,fun j' hj'=>H1.out j' (by omega)⟩
      ·exact H0.out i (by omega)
     case measure=>simp [intOf];omega
  ·have hF:=hD (show validB g=true from v_m.2 ((graph_rowR g).2 ⟨am,an,fun i hi=>H0.out i (by omega)⟩));go_wp2
   go_ret;exact ⟨by rw [hF.out];rfl,n,rfl⟩
end Go.Proofs.YthdkamnclbfehaaGreatDoor
