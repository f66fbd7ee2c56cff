/- Part of a proof that a law returns true for every input. No condition. -/
import Derived.Test.YtpdplcdnpaoceaaRows
import Derived.Test.YtpdplcdnpaoceaaW4
import Derived.Test.YtpdplcdnpaoceaaFwI
import Derived.Test.YtpdplcdnpaoceaaUV2x
import Derived.WalkKit
import Derived.ProofKit
import Derived.OpenShut
import Derived.ChangeOld
import Derived.Below
import Derived.Carry
namespace Go.Proofs.Ytpdplcdnpaoceaa.fnExactConstantParameters
open List Option Go.IntKind Nat Or
open Go.ChangeShapes Go.WideShapes Go.ChangeAt Go.RowKit
open Go.cM Go.nI
set_option linter.unusedVariables false
theorem own:ownKnob Try.prog.godebug=none:=by kernel_rfl
theorem laidOut:laidOutB Try.prog=true:=by kernel_rfl
theorem ym {H:Type} {enc:TypeId×Value->H} {w:World} {base:Nat} {sp:Nat->Bool} {held:Bool}:j9 enc Try.prog w base sp held 2 (λx:Int=>.int .i64 x) (λx:Int=>(-9223372036854775808<=x/\x<=9223372036854775807)):=NH Try.underlying2
theorem Iv {H:Type} {enc:TypeId×Value->H} {w:World} {base:Nat} {sp:Nat->Bool} {held:Bool}:j9 enc Try.prog w base sp held 22 (λx:List Int=>.slice (x.map aR)) (λx:List Int=>(x.length<=9223372036854775807/\∀y∈x,(-9223372036854775808<=y/\y<=9223372036854775807))):=wQ (sz:=1) (ec:=aR) Try.underlying22 (by kernel_rfl) (by decide) (λ_=>rfl) ym
theorem TY {H:Type} {enc:TypeId×Value->H} {w:World} {base:Nat} {sp:Nat->Bool} {held:Bool}:j9 enc Try.prog w base sp held 120 hb (λx:fI=>pI x):=by
 intro fuel cs x an;obtain⟨xs,n,_,_,hl,aU,bk⟩:=DataW.trod_struct Try.underlying120 an;have hB:cs.length=2:=hl.trans (by kernel_rfl);obtain⟨g1,w0,aC⟩:=nC ym (bk 0 _ rfl) (by rw[getElem?_eq_getElem (by rw[aU];decide)];rfl);change al w (F0 w) (.int .i64 g1) ((cs.drop 0).take (Try.prog.cellsOf 2)) _ at aC;rw[show Try.prog.cellsOf 2=1 by kernel_rfl]at aC;obtain⟨gC,iG,dx⟩:=nC ym (bk 1 _ rfl) (by rw[getElem?_eq_getElem (by rw[aU];decide)];rfl);change al w (F0 w) (.int .i64 gC) ((cs.drop 1).take (Try.prog.cellsOf 2)) _ at dx;rw[show Try.prog.cellsOf 2=1 by kernel_rfl]at dx;have key:=AB [(.int .i64 g1,0,1),(.int .i64 gC,1,1)] 0 (by rw[hB];rfl) ⟨aC,dx,trivial⟩;refine⟨⟨g1,gC⟩,⟨w0,iG⟩,?_⟩;show al w (F0 w) (.agg [.int .i64 g1,.int .i64 gC]) cs _;rw[al];exact key
theorem Iw {H:Type} {enc:TypeId×Value->H} {w:World} {base:Nat} {sp:Nat->Bool} {held:Bool}:j9 enc Try.prog w base sp held 67 (λx:List fI=>.slice (x.map hb)) (λx:List fI=>(x.length<=9223372036854775807/\∀y∈x,pI y)):=wQ (sz:=2) (ec:=hb) Try.underlying67 (by kernel_rfl) (by decide) (λ_=>rfl) TY
theorem TZ {H:Type} {enc:TypeId×Value->H} {w:World} {base:Nat} {sp:Nat->Bool} {held:Bool}:j9 enc Try.prog w base sp held 9 (λx:List UInt8=>.str x) (λx:List UInt8=>x.length<=9223372036854775807):=NI Try.underlying9
theorem Ix {H:Type} {enc:TypeId×Value->H} {w:World} {base:Nat} {sp:Nat->Bool} {held:Bool}:j9 enc Try.prog w base sp held 68 (λx:List (XB)=>.slice (x.map gS)) (λx:List (XB)=>(x.length<=9223372036854775807/\∀y∈x,(y.length<=9223372036854775807/\∀z∈y,pI z))):=wQ (sz:=1) (ec:=gS) Try.underlying68 (by kernel_rfl) (by decide) (λ_=>rfl) Iw
theorem T0 {H:Type} {enc:TypeId×Value->H} {w:World} {base:Nat} {sp:Nat->Bool} {held:Bool}:j9 enc Try.prog w base sp held 70 gI (λx:hF=>uF x):=by
 intro fuel cs x an;obtain⟨xs,n,_,_,hl,aU,bk⟩:=DataW.trod_struct Try.underlying70 an;have hB:cs.length=5:=hl.trans (by kernel_rfl);obtain⟨g1,w0,aC⟩:=nC Iv (bk 0 _ rfl) (by rw[getElem?_eq_getElem (by rw[aU];decide)];rfl);change al w (F0 w) (.slice (g1.map aR)) ((cs.drop 0).take (Try.prog.cellsOf 22)) _ at aC;rw[show Try.prog.cellsOf 22=1 by kernel_rfl]at aC;obtain⟨gC,iG,dx⟩:=nC Iw (bk 1 _ rfl) (by rw[getElem?_eq_getElem (by rw[aU];decide)];rfl);change al w (F0 w) (.slice (gC.map hb)) ((cs.drop 1).take (Try.prog.cellsOf 67)) _ at dx;rw[show Try.prog.cellsOf 67=1 by kernel_rfl]at dx;obtain⟨h3,ll,br⟩:=nC TZ (bk 2 _ rfl) (by rw[getElem?_eq_getElem (by rw[aU];decide)];rfl);change al w (F0 w) (.str h3) ((cs.drop 2).take (Try.prog.cellsOf 9)) _ at br;rw[show Try.prog.cellsOf 9=1 by kernel_rfl]at br;obtain⟨yn,qR,e5⟩:=nC Ix (bk 3 _ rfl) (by rw[getElem?_eq_getElem (by rw[aU];decide)];rfl);change al w (F0 w) (.slice (yn.map gS)) ((cs.drop 3).take (Try.prog.cellsOf 68)) _ at e5;rw[show Try.prog.cellsOf 68=1 by kernel_rfl]at e5;obtain⟨s5,CP,bV⟩:=nC Ix (bk 4 _ rfl) (by rw[getElem?_eq_getElem (by rw[aU];decide)];rfl);change al w (F0 w) (.slice (s5.map gS)) ((cs.drop 4).take (Try.prog.cellsOf 68)) _ at bV;rw[show Try.prog.cellsOf 68=1 by kernel_rfl]at bV;have key:=AB [(.slice (g1.map aR),0,1),(.slice (gC.map hb),1,1),(.str h3,2,1),(.slice (yn.map gS),3,1),(.slice (s5.map gS),4,1)] 0 (by rw[hB];rfl) ⟨aC,dx,br,e5,bV,trivial⟩;refine⟨⟨g1,gC,h3,yn,s5⟩,⟨w0,iG,ll,qR,CP⟩,?_⟩;show al w (F0 w) (.agg [.slice (g1.map aR),.slice (gC.map hb),.str h3,.slice (yn.map gS),.slice (s5.map gS)]) cs _;rw[al];exact key
theorem T1 {H:Type} {enc:TypeId×Value->H} {w:World} {base:Nat} {sp:Nat->Bool} {held:Bool}:j9 enc Try.prog w base sp held 23 (λx:List hF=>.slice (x.map gI)) (λx:List hF=>(x.length<=9223372036854775807/\∀y∈x,uF y)):=wQ (sz:=5) (ec:=gI) Try.underlying23 (by kernel_rfl) (by decide) (λ_=>rfl) T0
theorem T2 {H:Type} {enc:TypeId×Value->H} {w:World} {base:Nat} {sp:Nat->Bool} {held:Bool}:j9 enc Try.prog w base sp held 25 ka (λx:kx=>w7 x):=by
 intro fuel cs x an;obtain⟨xs,n,_,_,hl,aU,bk⟩:=DataW.trod_struct Try.underlying25 an;have hB:cs.length=3:=hl.trans (by kernel_rfl);obtain⟨g1,w0,aC⟩:=nC ym (bk 0 _ rfl) (by rw[getElem?_eq_getElem (by rw[aU];decide)];rfl);change al w (F0 w) (.int .i64 g1) ((cs.drop 0).take (Try.prog.cellsOf 2)) _ at aC;rw[show Try.prog.cellsOf 2=1 by kernel_rfl]at aC;obtain⟨gC,iG,dx⟩:=nC Iv (bk 1 _ rfl) (by rw[getElem?_eq_getElem (by rw[aU];decide)];rfl);change al w (F0 w) (.slice (gC.map aR)) ((cs.drop 1).take (Try.prog.cellsOf 22)) _ at dx;rw[show Try.prog.cellsOf 22=1 by kernel_rfl]at dx;obtain⟨h3,ll,br⟩:=nC T1 (bk 2 _ rfl) (by rw[getElem?_eq_getElem (by rw[aU];decide)];rfl);change al w (F0 w) (.slice (h3.map gI)) ((cs.drop 2).take (Try.prog.cellsOf 23)) _ at br;rw[show Try.prog.cellsOf 23=1 by kernel_rfl]at br;have key:=AB [(.int .i64 g1,0,1),(.slice (gC.map aR),1,1),(.slice (h3.map gI),2,1)] 0 (by rw[hB];rfl) ⟨aC,dx,br,trivial⟩;refine⟨⟨g1,gC,h3⟩,⟨w0,iG,ll⟩,?_⟩;show al w (F0 w) (.agg [.int .i64 g1,.slice (gC.map aR),.slice (h3.map gI)]) cs _;rw[al];exact key
theorem walk (w:World) (g1:kx) (wy:w7 g1) (v0:Value) (e4:Arg w (.agg [.int .i64 g1.c1,.slice (g1.Start.map aR),.slice (g1.cY.map gI)]) v0):
  Calls Try.prog 4 #[v0] w λe az=>e= .returned (.bool true)/\RowKit.Below w.heap.size w az:=
 bb.law (C:=ay) (TE g1 true (T3 g1 wy)) Try.func4 rfl rfl (.cons e4 (.nil))
set_option maxRecDepth 100000 in
theorem lifted (os:Os) (started:os.Started) (H:Type) (enc:TypeId×Value->H):
  ReturnsInHanded {} Try.checked os 4 .any (Rows.fnExactConstantParametersSpec.pre6 enc Try.prog Try.f4 Rows.fnExactConstantParametersRow.domain false) (Rows.fnExactConstantParametersSpec.post enc Try.prog Try.f4 false true false false):=by
 refine returnsInHanded_of_change (C:=Try.checked) own started (by kernel_rfl) Try.func4
  (ChangeSpec.witness6 (enc:=enc) (C:=Try.checked) false ⟨#[],#[.agg #[.int .i64 0,.slice none 0 0,.slice none 0 0]],[]⟩ 8 (by kernel_rfl) (by kernel_rfl) (by kernel_rfl) (by kernel_rfl)) ?_
 intro W base args ds gs before Iy w6 Xb _;have ov:∀(j:Nat) t v,Try.f4.params[j]? =some t->args[j]? =some v->Value.okWide Try.prog W .any base t v:=Iy;have T4:=w6;obtain⟨p,q,rO,mu,rfl,T5,rZ⟩:=w6;have hj:DataW.TrodAll enc Try.prog W 0 (λ_=>true) true Try.f4.params.toList args.toList ds p:=rO;rw[Try.params4]at hj ov;obtain⟨v0,Xc,d0,Xd,fW,lL,kQ,rfl,rfl,ba,aC⟩:=trodAll_cons hj;obtain⟨rfl,rfl,rfl⟩:=trodAll_nil aC;obtain rfl:args= #[v0]:=by cases args;simp_all
 obtain⟨rfl,rfl⟩:=trodVars_none mu;have CQ:∀x∈fW,x.block<W.heap.size:=by obtain⟨m,hm⟩:=ba;exact DataW.trod_lt m _ _ _ hm
 obtain⟨g1,e4,wy⟩:=NM (es:=λy:kx=>[.int .i64 y.c1,.slice (y.Start.map aR),.slice (y.cY.map gI)]) Try.underlying25 T2 (ov 0 25 v0 rfl rfl) ba;clear rO Iy;refine(walk W g1 wy v0 e4).mono λe Xe ⟨he,Iz⟩=>?_;subst he;exact⟨_,rfl,_,_,_,[],_,[],T4,trodAll_mk1 (shut_bool Try.underlying4 _),(trodAll_cons_mk (Below.trod laidOut (by kernel_rfl) (of_decide_eq_true (by kernel_rfl)) ba Iz CQ) trodAll_mk0),rfl,Iz.frame _,λh=>by cases h⟩
def yo:List Char:=map Char.ofNat [104,97,114,110,101,115,115,32,101,102,57,99,100,55,48,51,56,100,101,49,48,102,49,52,57,50,48,54,55,51,54,99,48,101,102,54,52,57,51,99,98,100,50,101,52,56,50,50,51,97,100,55,57,49,53,99,101,54,99,100,50,48,51,99,55,53,57,49,50,99,53,53,32,99,117,116,32,97,116,32,108,111,111,112,46,101,120,97,109,112,108,101,47,103,48,49,48,55,53,47,108,97,119,115,46,70,110,69,120,97,99,116,85,110,114,111,108,108,83,117,109,115,32,108,111,111,112,46,101,120,97,109,112,108,101,47,103,48,49,48,55,53,47,108,97,119,115,46,70,110,69,120,97,99,116,67,111,110,115,116,97,110,116,80,97,114,97,109,101,116,101,114,115]
def vj:List Char:=map Char.ofNat [99,117,116]
theorem T6:Try.prog.initOrder=String.ofList yo:=by kernel_rfl
theorem CR:Try.prog.initOrder.toList=yo:=by rw[T6];exact String.toList_ofList
theorem IA:behindMainWord (wordsSigns yo)=vj::(behindMainWord (wordsSigns yo)).tail:=by kernel_rfl
theorem T7 {P:Program} {L:List Char} {r:List (List Char)} (h:P.initOrder.toList=L) (hw:behindMainWord (wordsSigns L)=vj::r):P.make=some .cut:=by
 unfold Program.make;rw[h,hw];rfl
theorem T8 {P:Program} {L:List Char} {r:List (List Char)} (h:P.initOrder.toList=L) (hw:behindMainWord (wordsSigns L)=vj::r) (ab:P.laysLater=false) (ad:P.bearsReflect=false) (aB:P.doorFits []=true):P.mayEnter=true:=by
 unfold Program.mayEnter;rw[h,hw];have e:stripLifts liftWords (vj::r)=([],vj::r):=rfl;simp only[e,ab,ad,aB];rfl
theorem T9:Try.prog.liftsFinal=false:=by unfold Program.liftsFinal Program.headLifts;rw[CR];kernel_rfl
theorem T_:Try.prog.mayEnter=true:=T8 CR IA (by kernel_rfl) (by kernel_rfl) (by kernel_rfl)
theorem Ua:Try.prog.make=some .cut:=T7 CR IA
theorem Ub:joinedFacts Try.prog 4 Try.f4 Rows.fnExactConstantParametersSpec Rows.fnExactConstantParametersRow=true:=by
 unfold joinedFacts;rw[T9,T_,Ua];kernel_rfl
theorem over:Rows.fnExactConstantParametersRow.holds Try.pinned (OpenSpec.ofChange Rows.fnExactConstantParametersSpec):=
 OpenClaim.holds_of_wide 4 Try.f4 rfl rfl rfl rfl rfl rfl rfl ⟨rfl,rfl,rfl,rfl,rfl⟩ rfl rfl rfl rfl rfl (by kernel_rfl) Try.func4 Ub
  (of_decide_eq_true (by kernel_rfl)) (by unfold Func.isWrapper;first|(rw[if_pos (by decide+kernel)];kernel_rfl)|(rw[if_neg (by decide+kernel)];exact⟨rfl,rfl⟩))
  (λos started H enc _=>lifted os started H enc)
theorem proved:Rows.FnExactConstantParametersSaid:=over
end Go.Proofs.Ytpdplcdnpaoceaa.fnExactConstantParameters
