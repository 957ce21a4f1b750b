/- A part of the proof. -/
import Derived.Test.YthdkamnclbfehaaGreatDoorDaysM19
import Derived.Test.YthdkamnclbfehaaGreatDoorDaysM20
import Derived.Test.YthdkamnclbfehaaGreatDoorDaysM39
set_option linter.all false
set_option maxRecDepth 100000
namespace Go.Proofs.YthdkamnclbfehaaGreatDoor
open Go Go.ChangeShapes Go.WideShapes Go.ChangeAt Go.WideMaps Go.WideElems Go.RowKit
theorem houseDays_reads (os:Os) {H:Type} (enc:TypeId × Value→H):∃ places,DataW.whole enc Tryz.prog ((WL os).forCall (fun _ _=>0) ⟨#[],#[.slice none 0 0,.slice none 0 0,.slice none 0 0],[]⟩).memory Tryz.f11.params.toList (Rows.OpenSpec.upto Rows.houseDaysSpec).vars false #[Value.slice none 0 0,Value.slice none 0 0,Value.slice none 0 0].toList 8=some ([.nil,.nil,.nil],[],places):=
  ⟨[],by kernel_rfl⟩
theorem houseDays_witness (os:Os) (H:Type) (enc:TypeId × Value→H):∃ (w:World) (tape:Tape) (i:Input),w.os=os∧(w.forCall tape i).Shaped Tryz.prog∧i.vars=[]∧Input.okWide Tryz.prog (w.forCall tape i) .any w.heap.size 11 i∧(Rows.OpenSpec.upto Rows.houseDaysSpec).preRow enc Tryz.prog Tryz.f11 [] false laidL (w.forCall tape i).memory i.args∧({}:Assume).holds Tryz.prog (lone (Frame.enter Tryz.prog 11 i.args .normal) [] (w.forCall tape i)):=by
 obtain ⟨A,hx⟩:=houseDays_reads os enc;have C:Input.okWideB Tryz.prog ((WL os).forCall (fun _ _=>0) ⟨#[],#[.slice none 0 0,.slice none 0 0,.slice none 0 0],[]⟩) 11 ⟨#[],#[.slice none 0 0,.slice none 0 0,.slice none 0 0],[]⟩=true:=by kernel_rfl
 exact ⟨WL os,fun _ _=>0,⟨#[],#[.slice none 0 0,.slice none 0 0,.slice none 0 0],[]⟩,WL_os os,World.shaped_of_ZipB (by kernel_rfl) (by kernel_rfl),(Input.okWide_of_okWideB (base:=0) C).1,(Input.okWide_of_okWideB C).2,
   OpenSpec.preRow_of_cond 8 hx rfl (fun k hk=>by cases hk;kernel_rfl) (by kernel_rfl) (door_met os _),by
   simp only [Assume.holds]
   exact ⟨by simp,by simp,fun _=>Modest.zero,by simp,by simp⟩⟩
theorem houseDays_lifted (os:Os) (started:os.Started) (H:Type) (enc:TypeId × Value→H) (F:Stop.Interp):ReturnsInHanded {} Tryz.checked os 11 .any ((Rows.OpenSpec.upto Rows.houseDaysSpec).preRow enc Tryz.prog Tryz.f11 [] false laidL) (((Rows.OpenSpec.upto Rows.houseDaysSpec).at F).post enc Tryz.prog Tryz.f11 false true false false):=by
 refine lift_upto started Tryz.func11 (by kernel_rfl) rfl (by kernel_rfl) (by kernel_rfl) (fun ds hd=>?_) (houseDays_witness os H enc) ?_
 ·rw [Tryz.params11] at hd;match ds,hd with
  | [d0,d1,d2],_=>rfl
 intro W base args ds ps C M _ G J hG;have A:∀ (j:Nat) t v,Tryz.f11.params[j]?=some t→args[j]?=some v→Value.okWide Tryz.prog W .any base t v:=C;have hA:DataW.TrodAll enc Tryz.prog W 0 (fun _=>true) true Tryz.f11.params.toList args.toList ds ps:=M;rw [Tryz.params11] at hA A;obtain ⟨v0,v1,v2,d0,d1,d2,p0,p1,p2,rfl,rfl,rfl,h0,h1,h2⟩:=trodAll_three hA;obtain ⟨g,_,Z,U⟩:=ints_arg Tryz.underlying35 (A 0 35 v0 rfl rfl) h0 (G 0 35 d0 rfl rfl);obtain ⟨l,hl,aa,X⟩:=strs_argS Tryz.underlying44 (A 1 44 v1 rfl rfl) h1 (G 1 44 d1 rfl rfl) (Nat.le_trans (bulk_at (j:=1) rfl) J);obtain ⟨cl,R,Y,O⟩:=calls_argS (A 2 28 v2 rfl rfl) h2 (G 2 28 d2 rfl rfl) (Nat.le_trans (bulk_at (j:=2) rfl) J);exact houseDays_any hG U (by omega) X hl (by omega) O R (by omega)
theorem houseDays_row:Rows.HouseDaysUptoSaid:=
  OpenClaim.holds_of_cond 11 Tryz.f11 rfl rfl rfl rfl rfl rfl rfl ⟨rfl,rfl,rfl,rfl,rfl⟩ rfl rfl rfl rfl rfl houseDays_name Tryz.func11 houseDays_closed houseDays_inst houseDays_wrap
    (fun os started H enc _ F=>by rw [OpenClaim.pre_eq_preRow];exact houseDays_lifted os started H enc F)
theorem houseDays_card:Rows.HouseDaysUptoCardSaid:=
  Claim7.holds_tied_plain_at .later [] [.data, .data, .data, .data, .sentinel, .sentinel, .funcs, .pinned] true (true, "e1f9eaf7faf200dff0944b4f49cc5ee0ac1904f278e3ecd769f4d01c586ff77e") true
    houseDays_row (fun _ h=>by cases h) (by kernel_rfl) (fun _ h=>by cases h) houseDaysUpto_row_tie rfl ⟨rfl,rfl⟩ (by kernel_rfl) rfl
    (fun f fn hf hfn=>by
      obtain rfl : f = 11 := Option.some.inj ((show Tryz.prog.funcNamed "cubeb/cubeblaw09.HouseDays" = some 11 by kernel_rfl).symm.trans hf) |>.symm
      obtain rfl:fn=Tryz.f11:=(Option.some.inj (Tryz.func11.symm.trans hfn)).symm
      exact ⟨by kernel_rfl,fun j t ht=>by
        rw [Tryz.params11] at ht
        have hm:t∈[35,44,28]:=by simpa using Array.mem_of_getElem? ht
        have A:([35,44,28].all fun u=>!Tryz.prog.wantsStandIn u)=true:=by kernel_rfl
        exact (show Tryz.prog.wantsStandIn t=false by simpa using List.all_eq_true.1 A t hm)⟩)
    (by kernel_rfl)
#print axioms houseDays_card
end Go.Proofs.YthdkamnclbfehaaGreatDoor
