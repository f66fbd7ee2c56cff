/- Part of a proof that a law returns true for every input. No condition. -/
import Derived.Test.YtpdplcdnpaoceaaRows
import Derived.Test.YtpdplcdnpaoceaaW3
import Derived.Test.YtpdplcdnpaoceaaFwI
import Derived.Test.YtpdplcdnpaoceaaUV2x
import Derived.WalkKit
import Derived.ProofKit
import Derived.OpenShut
import Derived.ChangeOld
import Derived.Below
import Derived.Carry
namespace Go.Proofs.Ytpdplcdnpaoceaa.fnExactUnrollSums
open List Option Go.IntKind Nat Or
open Go.ChangeShapes Go.WideShapes Go.ChangeAt Go.RowKit
open Go.cV Go.nB
set_option linter.unusedVariables false
theorem own:ownKnob Try.prog.godebug=none:=by kernel_rfl
theorem laidOut:laidOutB Try.prog=true:=by kernel_rfl
theorem xH {H:Type} {enc:TypeId×Value->H} {w:World} {base:Nat} {sp:Nat->Bool} {held:Bool}:jM enc Try.prog w base sp held 2 (λx:Int=>.int .i64 x) (λx:Int=>(-9223372036854775808<=x/\x<=9223372036854775807)):=MU Try.underlying2
theorem HH {H:Type} {enc:TypeId×Value->H} {w:World} {base:Nat} {sp:Nat->Bool} {held:Bool}:jM enc Try.prog w base sp held 22 (λx:List Int=>.slice (x.map aH)) (λx:List Int=>(x.length<=9223372036854775807/\∀y∈x,(-9223372036854775808<=y/\y<=9223372036854775807))):=wD (sz:=1) (ec:=aH) Try.underlying22 (by kernel_rfl) (by decide) (λ_=>rfl) xH
theorem SG {H:Type} {enc:TypeId×Value->H} {w:World} {base:Nat} {sp:Nat->Bool} {held:Bool}:jM enc Try.prog w base sp held 120 ha (λx:fJ=>pw x):=by
 intro fuel cs x ae;obtain⟨xs,n,_,_,hl,a2,bd⟩:=DataW.trod_struct Try.underlying120 ae;have gD:cs.length=2:=hl.trans (by kernel_rfl);obtain⟨gY,w0,aF⟩:=nu xH (bd 0 _ rfl) (by rw[getElem?_eq_getElem (by rw[a2];decide)];rfl);change aj w (F0 w) (.int .i64 gY) ((cs.drop 0).take (Try.prog.cellsOf 2)) _ at aF;rw[show Try.prog.cellsOf 2=1 by kernel_rfl]at aF;obtain⟨fR,jN,c5⟩:=nu xH (bd 1 _ rfl) (by rw[getElem?_eq_getElem (by rw[a2];decide)];rfl);change aj w (F0 w) (.int .i64 fR) ((cs.drop 1).take (Try.prog.cellsOf 2)) _ at c5;rw[show Try.prog.cellsOf 2=1 by kernel_rfl]at c5;have key:=z3 [(.int .i64 gY,0,1),(.int .i64 fR,1,1)] 0 (by rw[gD];rfl) ⟨aF,c5,trivial⟩;refine⟨⟨gY,fR⟩,⟨w0,jN⟩,?_⟩;show aj w (F0 w) (.agg [.int .i64 gY,.int .i64 fR]) cs _;rw[aj];exact key
theorem HI {H:Type} {enc:TypeId×Value->H} {w:World} {base:Nat} {sp:Nat->Bool} {held:Bool}:jM enc Try.prog w base sp held 67 (λx:List fJ=>.slice (x.map ha)) (λx:List fJ=>(x.length<=9223372036854775807/\∀y∈x,pw y)):=wD (sz:=2) (ec:=ha) Try.underlying67 (by kernel_rfl) (by decide) (λ_=>rfl) SG
theorem SH {H:Type} {enc:TypeId×Value->H} {w:World} {base:Nat} {sp:Nat->Bool} {held:Bool}:jM enc Try.prog w base sp held 9 (λx:List UInt8=>.str x) (λx:List UInt8=>x.length<=9223372036854775807):=MV Try.underlying9
theorem HJ {H:Type} {enc:TypeId×Value->H} {w:World} {base:Nat} {sp:Nat->Bool} {held:Bool}:jM enc Try.prog w base sp held 68 (λx:List (Vu)=>.slice (x.map g0)) (λx:List (Vu)=>(x.length<=9223372036854775807/\∀y∈x,(y.length<=9223372036854775807/\∀z∈y,pw z))):=wD (sz:=1) (ec:=g0) Try.underlying68 (by kernel_rfl) (by decide) (λ_=>rfl) HI
theorem SI {H:Type} {enc:TypeId×Value->H} {w:World} {base:Nat} {sp:Nat->Bool} {held:Bool}:jM enc Try.prog w base sp held 70 gK (λx:hC=>uB x):=by
 intro fuel cs x ae;obtain⟨xs,n,_,_,hl,a2,bd⟩:=DataW.trod_struct Try.underlying70 ae;have gD:cs.length=5:=hl.trans (by kernel_rfl);obtain⟨gY,w0,aF⟩:=nu HH (bd 0 _ rfl) (by rw[getElem?_eq_getElem (by rw[a2];decide)];rfl);change aj w (F0 w) (.slice (gY.map aH)) ((cs.drop 0).take (Try.prog.cellsOf 22)) _ at aF;rw[show Try.prog.cellsOf 22=1 by kernel_rfl]at aF;obtain⟨fR,jN,c5⟩:=nu HI (bd 1 _ rfl) (by rw[getElem?_eq_getElem (by rw[a2];decide)];rfl);change aj w (F0 w) (.slice (fR.map ha)) ((cs.drop 1).take (Try.prog.cellsOf 67)) _ at c5;rw[show Try.prog.cellsOf 67=1 by kernel_rfl]at c5;obtain⟨hi,ke,bz⟩:=nu SH (bd 2 _ rfl) (by rw[getElem?_eq_getElem (by rw[a2];decide)];rfl);change aj w (F0 w) (.str hi) ((cs.drop 2).take (Try.prog.cellsOf 9)) _ at bz;rw[show Try.prog.cellsOf 9=1 by kernel_rfl]at bz;obtain⟨sf,nz,dC⟩:=nu HJ (bd 3 _ rfl) (by rw[getElem?_eq_getElem (by rw[a2];decide)];rfl);change aj w (F0 w) (.slice (sf.map g0)) ((cs.drop 3).take (Try.prog.cellsOf 68)) _ at dC;rw[show Try.prog.cellsOf 68=1 by kernel_rfl]at dC;obtain⟨sT,B5,ct⟩:=nu HJ (bd 4 _ rfl) (by rw[getElem?_eq_getElem (by rw[a2];decide)];rfl);change aj w (F0 w) (.slice (sT.map g0)) ((cs.drop 4).take (Try.prog.cellsOf 68)) _ at ct;rw[show Try.prog.cellsOf 68=1 by kernel_rfl]at ct;have key:=z3 [(.slice (gY.map aH),0,1),(.slice (fR.map ha),1,1),(.str hi,2,1),(.slice (sf.map g0),3,1),(.slice (sT.map g0),4,1)] 0 (by rw[gD];rfl) ⟨aF,c5,bz,dC,ct,trivial⟩;refine⟨⟨gY,fR,hi,sf,sT⟩,⟨w0,jN,ke,nz,B5⟩,?_⟩;show aj w (F0 w) (.agg [.slice (gY.map aH),.slice (fR.map ha),.str hi,.slice (sf.map g0),.slice (sT.map g0)]) cs _;rw[aj];exact key
theorem SJ {H:Type} {enc:TypeId×Value->H} {w:World} {base:Nat} {sp:Nat->Bool} {held:Bool}:jM enc Try.prog w base sp held 23 (λx:List hC=>.slice (x.map gK)) (λx:List hC=>(x.length<=9223372036854775807/\∀y∈x,uB y)):=wD (sz:=5) (ec:=gK) Try.underlying23 (by kernel_rfl) (by decide) (λ_=>rfl) SI
theorem SK {H:Type} {enc:TypeId×Value->H} {w:World} {base:Nat} {sp:Nat->Bool} {held:Bool}:jM enc Try.prog w base sp held 25 jQ (λx:kg=>wQ x):=by
 intro fuel cs x ae;obtain⟨xs,n,_,_,hl,a2,bd⟩:=DataW.trod_struct Try.underlying25 ae;have gD:cs.length=3:=hl.trans (by kernel_rfl);obtain⟨gY,w0,aF⟩:=nu xH (bd 0 _ rfl) (by rw[getElem?_eq_getElem (by rw[a2];decide)];rfl);change aj w (F0 w) (.int .i64 gY) ((cs.drop 0).take (Try.prog.cellsOf 2)) _ at aF;rw[show Try.prog.cellsOf 2=1 by kernel_rfl]at aF;obtain⟨fR,jN,c5⟩:=nu HH (bd 1 _ rfl) (by rw[getElem?_eq_getElem (by rw[a2];decide)];rfl);change aj w (F0 w) (.slice (fR.map aH)) ((cs.drop 1).take (Try.prog.cellsOf 22)) _ at c5;rw[show Try.prog.cellsOf 22=1 by kernel_rfl]at c5;obtain⟨hi,ke,bz⟩:=nu SJ (bd 2 _ rfl) (by rw[getElem?_eq_getElem (by rw[a2];decide)];rfl);change aj w (F0 w) (.slice (hi.map gK)) ((cs.drop 2).take (Try.prog.cellsOf 23)) _ at bz;rw[show Try.prog.cellsOf 23=1 by kernel_rfl]at bz;have key:=z3 [(.int .i64 gY,0,1),(.slice (fR.map aH),1,1),(.slice (hi.map gK),2,1)] 0 (by rw[gD];rfl) ⟨aF,c5,bz,trivial⟩;refine⟨⟨gY,fR,hi⟩,⟨w0,jN,ke⟩,?_⟩;show aj w (F0 w) (.agg [.int .i64 gY,.slice (fR.map aH),.slice (hi.map gK)]) cs _;rw[aj];exact key
theorem walk (w:World) (gY:kg) (tS:wQ gY) (v0:Value) (fg:Arg w (.agg [.int .i64 gY.a7,.slice (gY.Start.map aH),.slice (gY.bJ.map gK)]) v0):
  Calls Try.prog 3 #[v0] w λe aw=>e= .returned (.bool true)/\RowKit.Below w.heap.size w aw:=
 bq.law (C:=aA) (Sj gY true (SL gY tS)) Try.func3 rfl rfl (.cons fg (.nil))
set_option maxRecDepth 100000 in
theorem lifted (os:Os) (started:os.Started) (H:Type) (enc:TypeId×Value->H):
  ReturnsInHanded {} Try.checked os 3 .any (Rows.fnExactUnrollSumsSpec.pre6 enc Try.prog Try.f3 Rows.fnExactUnrollSumsRow.domain false) (Rows.fnExactUnrollSumsSpec.post enc Try.prog Try.f3 false true false false):=by
 refine returnsInHanded_of_change (C:=Try.checked) own started (by kernel_rfl) Try.func3
  (ChangeSpec.witness6 (enc:=enc) (C:=Try.checked) false ⟨#[],#[.agg #[.int .i64 0,.slice none 0 0,.slice none 0 0]],[]⟩ 8 (by kernel_rfl) (by kernel_rfl) (by kernel_rfl) (by kernel_rfl)) ?_
 intro W base args ds gs before HK HL Va _;have qA:∀(aD:Nat) t v,Try.f3.params[aD]? =some t->args[aD]? =some v->Value.okWide Try.prog W .any base t v:=HK;have SM:=HL;obtain⟨p,q,rS,mg,rfl,Vb,pc⟩:=HL;have hh:DataW.TrodAll enc Try.prog W 0 (λ_=>true) true Try.f3.params.toList args.toList ds p:=rS;rw[Try.params3]at hh qA;obtain⟨v0,Vc,d0,Vd,fY,vD,i5,rfl,rfl,bt,aF⟩:=trodAll_cons hh;obtain⟨rfl,rfl,rfl⟩:=trodAll_nil aF;obtain rfl:args= #[v0]:=by cases args;simp_all
 obtain⟨rfl,rfl⟩:=trodVars_none mg;have B6:∀x∈fY,x.block<W.heap.size:=by obtain⟨m,hm⟩:=bt;exact DataW.trod_lt m _ _ _ hm
 obtain⟨gY,fg,tS⟩:=MZ (es:=λy:kg=>[.int .i64 y.a7,.slice (y.Start.map aH),.slice (y.bJ.map gK)]) Try.underlying25 SK (qA 0 25 v0 rfl rfl) bt;clear rS HK;refine(walk W gY tS v0 fg).mono λe Ve ⟨he,HM⟩=>?_;subst he;exact⟨_,rfl,_,_,_,[],_,[],SM,trodAll_mk1 (shut_bool Try.underlying4 _),(trodAll_cons_mk (Below.trod laidOut (by kernel_rfl) (of_decide_eq_true (by kernel_rfl)) bt HM B6) trodAll_mk0),rfl,HM.frame _,λh=>by cases h⟩
def xI:List Char:=map Char.ofNat [104,97,114,110,101,115,115,32,101,102,57,99,100,55,48,51,56,100,101,49,48,102,49,52,57,50,48,54,55,51,54,99,48,101,102,54,52,57,51,99,98,100,50,101,52,56,50,50,51,97,100,55,57,49,53,99,101,54,99,100,50,48,51,99,55,53,57,49,50,99,53,53,32,99,117,116,32,97,116,32,108,111,111,112,46,101,120,97,109,112,108,101,47,103,48,49,48,55,53,47,108,97,119,115,46,70,110,69,120,97,99,116,85,110,114,111,108,108,83,117,109,115,32,108,111,111,112,46,101,120,97,109,112,108,101,47,103,48,49,48,55,53,47,108,97,119,115,46,70,110,69,120,97,99,116,67,111,110,115,116,97,110,116,80,97,114,97,109,101,116,101,114,115]
def vj:List Char:=map Char.ofNat [99,117,116]
theorem SN:Try.prog.initOrder=String.ofList xI:=by kernel_rfl
theorem B7:Try.prog.initOrder.toList=xI:=by rw[SN];exact String.toList_ofList
theorem HN:behindMainWord (wordsSigns xI)=vj::(behindMainWord (wordsSigns xI)).tail:=by kernel_rfl
theorem SO {P:Program} {L:List Char} {r:List (List Char)} (h:P.initOrder.toList=L) (hw:behindMainWord (wordsSigns L)=vj::r):P.make=some .cut:=by
 unfold Program.make;rw[h,hw];rfl
theorem SP {P:Program} {L:List Char} {r:List (List Char)} (h:P.initOrder.toList=L) (hw:behindMainWord (wordsSigns L)=vj::r) (U:P.laysLater=false) (aa:P.bearsReflect=false) (ax:P.doorFits []=true):P.mayEnter=true:=by
 unfold Program.mayEnter;rw[h,hw];have e:stripLifts liftWords (vj::r)=([],vj::r):=rfl;simp only[e,U,aa,ax];rfl
theorem SQ:Try.prog.liftsFinal=false:=by unfold Program.liftsFinal Program.headLifts;rw[B7];kernel_rfl
theorem SR:Try.prog.mayEnter=true:=SP B7 HN (by kernel_rfl) (by kernel_rfl) (by kernel_rfl)
theorem SS:Try.prog.make=some .cut:=SO B7 HN
theorem SU:joinedFacts Try.prog 3 Try.f3 Rows.fnExactUnrollSumsSpec Rows.fnExactUnrollSumsRow=true:=by
 unfold joinedFacts;rw[SQ,SR,SS];kernel_rfl
theorem over:Rows.fnExactUnrollSumsRow.holds Try.pinned (OpenSpec.ofChange Rows.fnExactUnrollSumsSpec):=
 OpenClaim.holds_of_wide 3 Try.f3 rfl rfl rfl rfl rfl rfl rfl ⟨rfl,rfl,rfl,rfl,rfl⟩ rfl rfl rfl rfl rfl (by kernel_rfl) Try.func3 SU
  (of_decide_eq_true (by kernel_rfl)) (by unfold Func.isWrapper;first|(rw[if_pos (by decide+kernel)];kernel_rfl)|(rw[if_neg (by decide+kernel)];exact⟨rfl,rfl⟩))
  (λos started H enc _=>lifted os started H enc)
theorem proved:Rows.FnExactUnrollSumsSaid:=over
end Go.Proofs.Ytpdplcdnpaoceaa.fnExactUnrollSums
