/- A part of the proof. -/
import Derived.Test.YthdkamnclbfehaaGreatDoorDaysM24
import Derived.Shelf.Strings.SlTrimAscii
set_option linter.all false
set_option maxHeartbeats 20000000
set_option maxRecDepth 100000
namespace Go.Proofs.YthdkamnclbfehaaGreatDoor
open Go.RowKit Tryz
theorem zero275:∀ w,(zeroValue 275).run prog w = .ok (.agg (Array.replicate 256 (.bool false))) w:=by
 intro w;have h:(prog.info? 275).map (·.zero)=some (some (.agg (Array.replicate 256 (.bool false)))):=(by kernel_rfl);obtain ⟨i,hi,hz⟩:=Option.map_eq_some_iff.1 h;simp [zeroValue,typeInfo,hi,hz]
theorem trim_any {w:World} {s cut:ByteArray} (h2:2≤cut.size) (h0:0 < s.size) (hs:s.size≤9223372036854775807) (hcs:cut.size < 4294967281) (hascii:∀ (j:Nat) b,cut.data.toList[j]?=some b→b.toNat < 128):Calls prog 163 #[.string s,.string cut] w (IdxPost w (.string ⟨(Lib.trimS s.data.toList cut.data.toList).toArray⟩)):=by
 have h:=Any.strings_Trim_set Tryz.lays160 zero275 (by kernel_rfl) s cut w h2 h0 hs hcs hascii;refine h.mono ?_;rintro e w' ⟨rfl,q,rfl⟩;exact ⟨rfl,(((Keep.refl _ _).alloc _).alloc _).drewN q⟩
theorem dropWhile_nil {p:UInt8→Bool}:∀ (l:List UInt8),l.dropWhile p=[]↔l.all p=true:=by
 intro l;induction l with
 | nil=>simp
 | cons x l ih=>
  rw [List.dropWhile_cons,List.all_cons];cases hp:p x with
  | true=>simpa using ih
  | false=>simp
theorem trimS_nil (l cs:List UInt8):Lib.trimS l cs=[]↔l.all (cs.contains ·)=true:=by
 unfold Lib.trimS Lib.trimLeftS Lib.trimRightS;rw [dropWhile_nil];have h:=List.takeWhile_append_dropWhile (p:=(cs.contains ·)) (l:=l.reverse);have hl:l=(l.reverse.dropWhile (cs.contains ·)).reverse++(l.reverse.takeWhile (cs.contains ·)).reverse:=(by rw [← List.reverse_append,h,List.reverse_reverse]);constructor
 ·intro ha;rw [hl,List.all_append,ha,Bool.true_and,List.all_reverse];exact List.all_takeWhile
 ·intro ha;have h2:=ha;rw [hl,List.all_append,Bool.and_eq_true] at h2;exact h2.1
def lettersS:ByteArray:=⟨#[97,98,99,100,101,102,103,104,105,106,107,108,109,110,111,112,113,114,115,116,117,118,119,120,121,122]⟩
def digitsS:ByteArray:=⟨#[48,49,50,51,52,53,54,55,56,57]⟩
theorem v_l {lo hi:Nat} (cs:List UInt8) (h:∀ c:Fin 256,cs.contains (UInt8.ofNat c.val)=(decide (lo≤c.val) && decide (c.val≤hi))) (c:UInt8):cs.contains c=(decide (lo≤c.toNat) && decide (c.toNat≤hi)):=by
 have:=h ⟨c.toNat,c.toNat_lt⟩;simpa using this
theorem letters_has (c:UInt8):lettersS.data.toList.contains c = !badS c:=by
 rw [v_l (lo:=97) (hi:=122) _ (by decide) c];unfold badS;by_cases h1:c.toNat < 97 <;> by_cases h2:122 < c.toNat <;> simp [h1,h2] <;> omega
theorem digits_has (c:UInt8):digitsS.data.toList.contains c=digB c:=v_l (lo:=48) (hi:=57) _ (by decide) c
theorem all_not {p:UInt8→Bool} (l:List UInt8):l.all (fun c=>!p c) = !l.any p:=by
 induction l with
 | nil=>rfl
 | cons x l ih=>simp only [List.all_cons,List.any_cons,ih,Bool.not_or]
theorem trim_letters (s:ByteArray):Lib.trimS s.data.toList lettersS.data.toList=[]↔s.data.toList.any badS=false:=by
 rw [trimS_nil,show (fun c=>lettersS.data.toList.contains c)=(fun c=>!badS c) from funext letters_has,all_not];simp
theorem trim_digits (s:ByteArray):Lib.trimS s.data.toList digitsS.data.toList=[]↔s.data.toList.all digB=true:=by
 rw [trimS_nil,show (fun c=>digitsS.data.toList.contains c)=digB from funext digits_has]
theorem str_nil (l:List UInt8):(⟨l.toArray⟩:ByteArray).toList=l:=by rw [Lib.toList_data]
theorem spice_any {w:World} {s:ByteArray} (hs:s.size≤2000000):Calls prog 132 #[.string s] w (IdxPost w (.bool (decide (1≤s.size) && isSpiceB s))):=by
 by_cases h1:1≤s.size
 ·have U:((1:Int)≤(s.size:Int))=True:=(by simp;omega);by_cases h8:s.size≤8
  ·have W:((s.size:Int)≤8)=True:=(by simp;omega);have ht:=trim_any (w:=w) (s:=s) (cut:=lettersS) (by decide) (by omega) (by omega) (by decide) (by intro j b hb;have hm:=List.mem_of_getElem? hb;have hc:=letters_has b;rw [List.contains_iff_mem.2 hm] at hc;unfold badS at hc;simp at hc;omega);obtain ⟨t,C⟩:∃ t,(⟨(Lib.trimS s.data.toList lettersS.data.toList).toArray⟩:ByteArray)=t:=⟨_,rfl⟩;have J:t.toList=Lib.trimS s.data.toList lettersS.data.toList:=(by rw [← C,str_nil]);rw [C] at ht;have HT:=hD ht;have HS:=hD (show isSpiceB s = !s.data.toList.any badS by unfold isSpiceB;simp [h8]);have A:=trim_letters s;rw [← J] at A;cases hb:s.data.toList.any badS
   focus
    have O:t.toList=[]:=A.2 hb;have G:(t.toList == [])=true:=(by rw [O];rfl);have hF:=hD (show (decide (1≤s.size) && isSpiceB s)=true by rw [HS.out,hb];simp;exact h1);clear A hb O C J ht h1 h8
   rotate_left
   focus
    have G:(t.toList == [])=false:=by
     cases X:(t.toList == []) with
     | false=>rfl
     | true=>have:=A.1 (beq_iff_eq.1 X);rw [hb] at this;cases this
    have hF:=hD (show (decide (1≤s.size) && isSpiceB s)=false by rw [HS.out,hb];simp);clear A hb C J ht h1 h8
   rotate_left
   all_goals
    go_enter func132,ntmps132;go_wp2_with (go_at_call 163;refine HT.out.mono ?_;rintro e w1 ⟨rfl,M⟩;have R:=hD M;clear M)
    go_ret;exact ⟨by rw [hF.out];rfl,R.out⟩
  ·have W:((s.size:Int)≤8)=False:=(by simp;omega);have hF:=hD (show (decide (1≤s.size) && isSpiceB s)=false by unfold isSpiceB;simp [h8]);clear h1 h8;go_enter func132,ntmps132;go_wp2
   go_ret;exact ⟨by rw [hF.out];rfl,Keep.refl _ _⟩
 ·have U:((1:Int)≤(s.size:Int))=False:=(by simp;omega);have hF:=hD (show (decide (1≤s.size) && isSpiceB s)=false by simp [h1]);clear h1;go_enter func132,ntmps132;go_wp2
  go_ret;exact ⟨by rw [hF.out];rfl,Keep.refl _ _⟩
def DecPost (w:World) (s:ByteArray) (e:Ending) (w':World):Prop:=IdxPost w (.tuple #[.int .i64 (if decOk s.data.toList then atoiN s else 0),.bool (decOk s.data.toList)]) e w'
theorem dec_no {w w':World} {s:ByteArray} (h:decOk s.data.toList=false) (hk:Keep kF w w'):DecPost w s (.returned (.tuple #[.int .i64 0,.bool false])) w':=⟨by rw [h];rfl,hk⟩
theorem decimal_any {w:World} {s:ByteArray} (hG:Glob w) (hs:s.size≤2000000):Calls prog 134 #[.string s] w (DecPost w s):=by
 have hz:s.data.toList.length=s.size:=(by simp);have HG:=hD hG;clear hG;by_cases h1:1≤s.size
 ·have ae:((s.size:Int) < 1)=False:=(by simp;omega);by_cases h6:s.size≤6
  ·have ah:((6:Int) < (s.size:Int))=False:=(by simp;omega);have ht:=trim_any (w:=w) (s:=s) (cut:=digitsS) (by decide) (by omega) (by omega) (by decide) (by intro j b hb;have hm:=List.mem_of_getElem? hb;have hc:=digits_has b;rw [List.contains_iff_mem.2 hm] at hc;have:=z_i.1 hc.symm;omega);obtain ⟨t,O⟩:∃ t,(⟨(Lib.trimS s.data.toList digitsS.data.toList).toArray⟩:ByteArray)=t:=⟨_,rfl⟩;have Y:t.toList=Lib.trimS s.data.toList digitsS.data.toList:=(by rw [← O,str_nil]);rw [O] at ht;have HT:=hD ht;have A:=trim_digits s;rw [← Y] at A;cases hd:s.data.toList.all digB
   ·have M:(t.toList != [])=true:=(by rw [bne_iff_ne];intro e;have:=A.1 e;rw [hd] at this;cases this);have aa:(t.toList == [])=false:=(by rw [beq_eq_false_iff_ne];exact bne_iff_ne.1 M);have ai:(t.toList=[])=False:=eq_false (bne_iff_ne.1 M);have hF:=hD (show decOk s.data.toList=false by unfold decOk;rw [hd];simp);clear A hd O Y ht h1 h6 hz;go_enter func134,ntmps134;go_wp2_with (go_at_call 163;refine HT.out.mono ?_;rintro e w1 ⟨rfl,C⟩;have G:=hD C;clear C)
    go_ret2;exact dec_no hF.out G.out
   ·have ad:t.toList=[]:=A.2 hd;have M:(t.toList != [])=false:=(by rw [ad];rfl);have aa:(t.toList == [])=true:=(by rw [ad];rfl);have hp:0 < s.size:=(by omega);obtain ⟨x,hx⟩:∃ x:UInt8,s[0]=x:=⟨_,rfl⟩
    have U:s.data.toList.headD 0=x:=by
     have:=Lib.data_getElem? s 0 hp;rw [hx] at this;cases hl:s.data.toList with
     | nil=>rw [hl] at this;cases this
     | cons a r=>rw [hl] at this;simpa using this
    have R:=hD (fun W (hk:Keep kF w W)=>v_g (HG.out.keep hk) (s:=s) (by omega));by_cases h2:1 < s.size
    ·have ag:((1:Int) < (s.size:Int))=True:=(by simp;omega);cases J:(x == 48)
     ·have ac:(((x.toNat:Nat):Int) == 48)=false:=(by rw [beq_eq_false_iff_ne];intro e;have:x=48:=UInt8.toNat_inj.1 (by show x.toNat=48;omega);rw [this] at J;cases J);have hF:=hD (show decOk s.data.toList=true by unfold decOk;rw [hd,U,J,hz];simp [h1,h6]);clear A hd O Y ht h1 h6 hz U J h2;go_enter func134,ntmps134
      go_wp2_with (first
        | (go_at_call 163;refine HT.out.mono ?_;rintro e w1 ⟨rfl,C⟩;have G:=hD C;clear C)
        | (go_at_call 103;refine (R.out _ G.out).mono ?_;rintro e w2 ⟨N,rfl,X⟩;have Z:=hD (G.out.trans X n3);clear X))
      go_ret2;exact ⟨by rw [hF.out];rfl,Z.out⟩
     ·have ac:(((x.toNat:Nat):Int) == 48)=true:=(by have:x=48:=(by simpa using J);subst this;rfl);have hF:=hD (show decOk s.data.toList=false by unfold decOk;rw [hd,U,J,hz];simp [h2]);clear A hd O Y ht h1 h6 hz U J h2;go_enter func134,ntmps134;go_wp2_with (go_at_call 163;refine HT.out.mono ?_;rintro e w1 ⟨rfl,C⟩;have G:=hD C;clear C)
      go_ret2;exact dec_no hF.out G.out
    ·have ag:((1:Int) < (s.size:Int))=False:=(by simp;omega);have hF:=hD (show decOk s.data.toList=true by unfold decOk;rw [hd,hz];simp [h1,h6,h2]);clear A hd O Y ht h1 h6 hz U h2;go_enter func134,ntmps134
     go_wp2_with (first
       | (go_at_call 163;refine HT.out.mono ?_;rintro e w1 ⟨rfl,C⟩;have G:=hD C;clear C)
       | (go_at_call 103;refine (R.out _ G.out).mono ?_;rintro e w2 ⟨N,rfl,X⟩;have Z:=hD (G.out.trans X n3);clear X))
     go_ret2;exact ⟨by rw [hF.out];rfl,Z.out⟩
  ·have ah:((6:Int) < (s.size:Int))=True:=(by simp;omega);have hF:=hD (show decOk s.data.toList=false by unfold decOk;rw [hz];simp [h6]);clear h1 h6 hz;go_enter func134,ntmps134;go_wp2
   go_ret2;exact dec_no hF.out (Keep.refl _ _)
 ·have ae:((s.size:Int) < 1)=True:=(by simp;omega);have hF:=hD (show decOk s.data.toList=false by unfold decOk;rw [hz];simp [h1]);clear h1 hz;go_enter func134,ntmps134;go_wp2
  go_ret2;exact dec_no hF.out (Keep.refl _ _)
theorem any_at {p:UInt8→Bool} {l:List UInt8} {i:Nat} {x:UInt8} (h:l[i]?=some x) (hp:p x=true):l.any p=true:=List.any_eq_true.2 ⟨x,List.mem_of_getElem? h,hp⟩
theorem any_none {p:UInt8→Bool} {l:List UInt8} (h:∀ (i:Nat) (x:UInt8),l[i]?=some x→p x=false):l.any p=false:=by
 rw [List.any_eq_false];intro x hx;obtain ⟨i,hi⟩:=List.getElem?_of_mem hx;rw [h i x hi];exact Bool.false_ne_true
theorem splitL_any {w:World} {s:ByteArray} (hG:Glob w) (hs:s.size≤1048576):Calls prog 101 #[.string s,.string ⟨#[32]⟩] w (SplitPost w s):=by
 obtain ⟨m,hm⟩:=hG.maxlen;refine (Tryz.strings_Split s ⟨#[32]⟩ m w (by omega) hm (by decide)).mono ?_;rintro e w' ⟨rfl,rfl⟩;exact ⟨by rw [x_v],rfl⟩
theorem line_any {w:World} {s:ByteArray} (hG:Glob w) (hs:s.size≤1048576):Calls prog 133 #[.string s] w (IdxPost w (.bool (isLineB s))):=by
 have hz:s.data.toList.length=s.size:=(by simp);have HZ:=hD hz;have Z:=hD (splitL_any hG hs);obtain ⟨R,hR⟩:∃ R,isLineB s=R:=⟨_,rfl⟩;have HR:=hD hR;rw [hR];clear hG hz hR;go_enter func133,ntmps133;go_wp2
 go_loopg [8] s.size (fun gh s8 wx=>∃ i:Nat,gh=s.size - i∧i≤s.size∧s8 = .int .i64 (i:Nat)∧w=wx∧∀ j x,j < i→s.data.toList[j]?=some x→badB x=false)
 case atStart=>exact ⟨0,rfl,Nat.zero_le _,rfl,rfl,fun j x h=>by omega⟩
 case round=>
  obtain ⟨i,rfl,hi,rfl,rfl,h0⟩:=hrel;have H0:=hD h0;clear h0;by_cases an:i < s.size
  ·have am:((i:Int) < (s.size:Int))=True:=(by simp;omega);obtain ⟨x,hx⟩:∃ x:UInt8,s[i]=x:=⟨_,rfl⟩;have M:s.data.toList[i]?=some x:=(by rw [← hx];exact Lib.data_getElem? s i an);have al:=hD M;by_cases W:x.toNat < 32
   ·have ag:(((x.toNat:Nat):Int) < 32)=True:=(by simp;omega);have hr:R=false:=(by rw [← HR.out];unfold isLineB;rw [any_at M (show badB x=true by unfold badB;simp [W])];simp);have A:=hD hr;clear M hr W;go_wp2
    go_ret;exact ⟨by rw [A.out];rfl,Keep.refl _ _⟩
   ·have ag:(((x.toNat:Nat):Int) < 32)=False:=(by simp;omega);by_cases C:126 < x.toNat
    ·have X:((126:Int) < ((x.toNat:Nat):Int))=True:=(by simp;omega);have hr:R=false:=(by rw [← HR.out];unfold isLineB;rw [any_at M (show badB x=true by unfold badB;simp [C])];simp);have A:=hD hr;clear M hr W C;go_wp2
     go_ret;exact ⟨by rw [A.out];rfl,Keep.refl _ _⟩
    ·have X:((126:Int) < ((x.toNat:Nat):Int))=False:=(by simp;omega);have HB:=hD (show badB x=false by unfold badB;simp [W,C]);clear M W C;go_wp2
     go_roundg (s.size - (i+1))
     case measure=>omega
     case rel=>exact ⟨i+1,rfl,by omega,by go_num,rfl,fun j y hj hy=>by
      (by_cases e:j=i
       · subst e;rw [al.out] at hy;cases hy;exact HB.out
       · exact H0.out j y (by omega) hy)⟩
  ·have ad:i=s.size:=(by omega);subst ad;have am:((s.size:Int) < (s.size:Int))=False:=(by simp);have aa:=hD (any_none (p:=badB) (l:=s.data.toList) (fun j x hj=>H0.out j x (by have:=(List.getElem?_eq_some_iff.1 hj).1;rw [HZ.out] at this;exact this) hj));obtain ⟨ws,O⟩:∃ ws,words s=ws:=⟨_,rfl⟩;have ao:ws.length≤1048577:=(by have:=Lib.countB_le ⟨#[32]⟩ (by decide) s.size s (Nat.le_refl _);rw [← O,x_v];omega);have ai:=hD O;go_wp2_with (go_at_call 101;refine Z.out.mono ?_;unfold SplitPost;rw [O];rintro e w1 ⟨rfl,ah⟩;have J:∀ j,j < ws.length→w1.cell? ⟨w.heap.size,0+j,none⟩=some (.string (ws.getD j ByteArray.empty)):=(fun j hj=>by rw [ah,← O];exact u_x w s j (by rw [O];exact hj));have aj:=hD J;have ac:=hD (show Keep kF w w1 by rw [ah];exact (Keep.refl _ _).alloc _);clear ah J)
   clear O;go_loopg [25] ws.length (fun gh s25 wx=>∃ i:Nat,gh=ws.length - i∧i≤ws.length∧s25 = .int .i64 (i:Nat)∧w1=wx∧∀ j,j < i→ws.getD j ByteArray.empty≠⟨#[]⟩)
   case atStart=>exact ⟨0,rfl,Nat.zero_le _,rfl,rfl,fun j h=>by omega⟩
   case round=>
    obtain ⟨i,rfl,hi,rfl,rfl,h0⟩:=hrel;have H1:=hD h0;clear h0;by_cases Y:i < ws.length
    ·have ae:((i:Int) < (ws.length:Int))=True:=(by simp;omega);have ci:=aj.out i Y;rw [Nat.zero_add] at ci;obtain ⟨x,hx⟩:∃ x,ws.getD i ByteArray.empty=x:=⟨_,rfl⟩;rw [hx] at ci;have HX:=hD hx;clear hx;by_cases U:x=⟨#[]⟩
     ·have M:(x.toList == [])=true:=(by rw [U,Lib.toList_data];rfl);have hr:R=false:=(by rw [← HR.out];unfold isLineB;rw [ai.out,(Lib.containsS_iff ws ⟨#[]⟩).2 (by rw [← U,← HX.out];simp [List.getD,List.getElem?_eq_getElem Y])];simp);have A:=hD hr;clear hr U;go_wp2
      go_ret;exact ⟨by rw [A.out];rfl,ac.out⟩
     ·have M:(x.toList == [])=false:=(by rw [beq_eq_false_iff_ne];intro e;exact U (by rw [Lib.toList_data] at e;exact ByteArray.ext (Array.toList_inj.1 e)));have ak:=hD U;clear U;go_wp2
      go_roundg (ws.length - (i+1))
      case measure=>omega
      case rel=>exact ⟨i+1,rfl,by omega,by go_num,rfl,fun j hj=>by
       (by_cases e:j=i
        · subst e;rw [HX.out];exact ak.out
        · exact H1.out j (by omega))⟩
    ·have ad:i=ws.length:=(by omega);subst ad;have ae:((ws.length:Int) < (ws.length:Int))=False:=by simp
     have hc:Lib.containsS ws ⟨#[]⟩=false:=by
      cases hc:Lib.containsS ws ⟨#[]⟩ with
      | false=>rfl
      | true=>
       obtain ⟨j,hj,e⟩:=List.getElem_of_mem ((Lib.containsS_iff ws ⟨#[]⟩).1 hc);exact absurd (by simp [List.getD,List.getElem?_eq_getElem hj,e]) (H1.out j hj)
     have hr:R=decide (s.size≤200):=(by rw [← HR.out];unfold isLineB;rw [ai.out,hc,aa.out];simp);by_cases G:s.size≤200
     ·have hle:((s.size:Int)≤200)=True:=(by simp;omega);have A:=hD (show R=true by rw [hr];simpa using G);clear hr hc G;go_wp2
      go_ret;exact ⟨by rw [A.out];rfl,ac.out⟩
     ·have hle:((s.size:Int)≤200)=False:=(by simp;omega);have A:=hD (show R=false by rw [hr];simpa using G);clear hr hc G;go_wp2
      go_ret;exact ⟨by rw [A.out];rfl,ac.out⟩
end Go.Proofs.YthdkamnclbfehaaGreatDoor
