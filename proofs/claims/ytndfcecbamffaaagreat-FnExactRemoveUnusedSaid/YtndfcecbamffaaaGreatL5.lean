/- Part of a proof that a law returns true for every input. No condition. -/
import Derived.Test.YtndfcecbamffaaaGreatRows
import Derived.Test.YtndfcecbamffaaaGreatW5
import Derived.Test.YtndfcecbamffaaaGreatFwI
import Derived.Test.YtndfcecbamffaaaGreatUV3x
import Derived.WalkKit
import Derived.ProofKit
import Derived.OpenShut
import Derived.ChangeOld
import Derived.Below
import Derived.Carry
namespace Go.Proofs.YtndfcecbamffaaaGreat.fnExactRemoveUnused
open List Option Go.IntKind Nat Or
open Go.ChangeShapes Go.WideShapes Go.ChangeAt Go.RowKit
open Go.cW Go.mn
set_option linter.unusedVariables false
theorem own:ownKnob Tryz.prog.godebug=none:=by kernel_rfl
theorem laidOut:laidOutB Tryz.prog=true:=by kernel_rfl
theorem AM {H:Type} {enc:TypeId×Value->H} {w:World} {base:Nat} {sp:Nat->Bool} {held:Bool}:kF enc Tryz.prog w base sp held 2 (λx:Int=>.int .i64 x) (λx:Int=>(-9223372036854775808<=x/\x<=9223372036854775807)):=RW Tryz.underlying2
theorem Mr {H:Type} {enc:TypeId×Value->H} {w:World} {base:Nat} {sp:Nat->Bool} {held:Bool}:kF enc Tryz.prog w base sp held 22 (λx:List Int=>.slice (x.map aC)) (λx:List Int=>(x.length<=9223372036854775807/\∀y∈x,(-9223372036854775808<=y/\y<=9223372036854775807))):=zt (sz:=1) (ec:=aC) Tryz.underlying22 (by kernel_rfl) (by decide) (λ_=>rfl) AM
theorem Yn {H:Type} {enc:TypeId×Value->H} {w:World} {base:Nat} {sp:Nat->Bool} {held:Bool}:kF enc Tryz.prog w base sp held 173 hE (λx:gu=>q9 x):=by
 intro fuel cs x ag;obtain⟨xs,n,_,_,hl,a7,a6⟩:=DataW.trod_struct Tryz.underlying173 ag;have ga:cs.length=2:=hl.trans (by kernel_rfl);obtain⟨hf,w0,aE⟩:=pa AM (a6 0 _ rfl) (by rw[getElem?_eq_getElem (by rw[a7];decide)];rfl);change ai w (F0 w) (.int .i64 hf) ((cs.drop 0).take (Tryz.prog.cellsOf 2)) _ at aE;rw[show Tryz.prog.cellsOf 2=1 by kernel_rfl]at aE;obtain⟨e7,ik,dK⟩:=pa AM (a6 1 _ rfl) (by rw[getElem?_eq_getElem (by rw[a7];decide)];rfl);change ai w (F0 w) (.int .i64 e7) ((cs.drop 1).take (Tryz.prog.cellsOf 2)) _ at dK;rw[show Tryz.prog.cellsOf 2=1 by kernel_rfl]at dK;have key:=Df [(.int .i64 hf,0,1),(.int .i64 e7,1,1)] 0 (by rw[ga];rfl) ⟨aE,dK,trivial⟩;refine⟨⟨hf,e7⟩,⟨w0,ik⟩,?_⟩;show ai w (F0 w) (.agg [.int .i64 hf,.int .i64 e7]) cs _;rw[ai];exact key
theorem Ms {H:Type} {enc:TypeId×Value->H} {w:World} {base:Nat} {sp:Nat->Bool} {held:Bool}:kF enc Tryz.prog w base sp held 80 (λx:List gu=>.slice (x.map hE)) (λx:List gu=>(x.length<=9223372036854775807/\∀y∈x,q9 y)):=zt (sz:=2) (ec:=hE) Tryz.underlying80 (by kernel_rfl) (by decide) (λ_=>rfl) Yn
theorem Yo {H:Type} {enc:TypeId×Value->H} {w:World} {base:Nat} {sp:Nat->Bool} {held:Bool}:kF enc Tryz.prog w base sp held 9 (λx:List UInt8=>.str x) (λx:List UInt8=>x.length<=9223372036854775807):=RX Tryz.underlying9
theorem Mt {H:Type} {enc:TypeId×Value->H} {w:World} {base:Nat} {sp:Nat->Bool} {held:Bool}:kF enc Tryz.prog w base sp held 81 (λx:List (abQ)=>.slice (x.map hg)) (λx:List (abQ)=>(x.length<=9223372036854775807/\∀y∈x,(y.length<=9223372036854775807/\∀z∈y,q9 z))):=zt (sz:=1) (ec:=hg) Tryz.underlying81 (by kernel_rfl) (by decide) (λ_=>rfl) Ms
theorem Yp {H:Type} {enc:TypeId×Value->H} {w:World} {base:Nat} {sp:Nat->Bool} {held:Bool}:kF enc Tryz.prog w base sp held 83 g3 (λx:h5=>xe x):=by
 intro fuel cs x ag;obtain⟨xs,n,_,_,hl,a7,a6⟩:=DataW.trod_struct Tryz.underlying83 ag;have ga:cs.length=5:=hl.trans (by kernel_rfl);obtain⟨hf,w0,aE⟩:=pa Mr (a6 0 _ rfl) (by rw[getElem?_eq_getElem (by rw[a7];decide)];rfl);change ai w (F0 w) (.slice (hf.map aC)) ((cs.drop 0).take (Tryz.prog.cellsOf 22)) _ at aE;rw[show Tryz.prog.cellsOf 22=1 by kernel_rfl]at aE;obtain⟨e7,ik,dK⟩:=pa Ms (a6 1 _ rfl) (by rw[getElem?_eq_getElem (by rw[a7];decide)];rfl);change ai w (F0 w) (.slice (e7.map hE)) ((cs.drop 1).take (Tryz.prog.cellsOf 80)) _ at dK;rw[show Tryz.prog.cellsOf 80=1 by kernel_rfl]at dK;obtain⟨ia,j0,bL⟩:=pa Yo (a6 2 _ rfl) (by rw[getElem?_eq_getElem (by rw[a7];decide)];rfl);change ai w (F0 w) (.str ia) ((cs.drop 2).take (Tryz.prog.cellsOf 9)) _ at bL;rw[show Tryz.prog.cellsOf 9=1 by kernel_rfl]at bL;obtain⟨AN,pf,eZ⟩:=pa Mt (a6 3 _ rfl) (by rw[getElem?_eq_getElem (by rw[a7];decide)];rfl);change ai w (F0 w) (.slice (AN.map hg)) ((cs.drop 3).take (Tryz.prog.cellsOf 81)) _ at eZ;rw[show Tryz.prog.cellsOf 81=1 by kernel_rfl]at eZ;obtain⟨vD,FY,cy⟩:=pa Mt (a6 4 _ rfl) (by rw[getElem?_eq_getElem (by rw[a7];decide)];rfl);change ai w (F0 w) (.slice (vD.map hg)) ((cs.drop 4).take (Tryz.prog.cellsOf 81)) _ at cy;rw[show Tryz.prog.cellsOf 81=1 by kernel_rfl]at cy;have key:=Df [(.slice (hf.map aC),0,1),(.slice (e7.map hE),1,1),(.str ia,2,1),(.slice (AN.map hg),3,1),(.slice (vD.map hg),4,1)] 0 (by rw[ga];rfl) ⟨aE,dK,bL,eZ,cy,trivial⟩;refine⟨⟨hf,e7,ia,AN,vD⟩,⟨w0,ik,j0,pf,FY⟩,?_⟩;show ai w (F0 w) (.agg [.slice (hf.map aC),.slice (e7.map hE),.str ia,.slice (AN.map hg),.slice (vD.map hg)]) cs _;rw[ai];exact key
theorem Yq {H:Type} {enc:TypeId×Value->H} {w:World} {base:Nat} {sp:Nat->Bool} {held:Bool}:kF enc Tryz.prog w base sp held 23 (λx:List h5=>.slice (x.map g3)) (λx:List h5=>(x.length<=9223372036854775807/\∀y∈x,xe y)):=zt (sz:=5) (ec:=g3) Tryz.underlying23 (by kernel_rfl) (by decide) (λ_=>rfl) Yp
theorem Yr {H:Type} {enc:TypeId×Value->H} {w:World} {base:Nat} {sp:Nat->Bool} {held:Bool}:kF enc Tryz.prog w base sp held 25 jh (λx:lb=>zH x):=by
 intro fuel cs x ag;obtain⟨xs,n,_,_,hl,a7,a6⟩:=DataW.trod_struct Tryz.underlying25 ag;have ga:cs.length=3:=hl.trans (by kernel_rfl);obtain⟨hf,w0,aE⟩:=pa AM (a6 0 _ rfl) (by rw[getElem?_eq_getElem (by rw[a7];decide)];rfl);change ai w (F0 w) (.int .i64 hf) ((cs.drop 0).take (Tryz.prog.cellsOf 2)) _ at aE;rw[show Tryz.prog.cellsOf 2=1 by kernel_rfl]at aE;obtain⟨e7,ik,dK⟩:=pa Mr (a6 1 _ rfl) (by rw[getElem?_eq_getElem (by rw[a7];decide)];rfl);change ai w (F0 w) (.slice (e7.map aC)) ((cs.drop 1).take (Tryz.prog.cellsOf 22)) _ at dK;rw[show Tryz.prog.cellsOf 22=1 by kernel_rfl]at dK;obtain⟨ia,j0,bL⟩:=pa Yq (a6 2 _ rfl) (by rw[getElem?_eq_getElem (by rw[a7];decide)];rfl);change ai w (F0 w) (.slice (ia.map g3)) ((cs.drop 2).take (Tryz.prog.cellsOf 23)) _ at bL;rw[show Tryz.prog.cellsOf 23=1 by kernel_rfl]at bL;have key:=Df [(.int .i64 hf,0,1),(.slice (e7.map aC),1,1),(.slice (ia.map g3),2,1)] 0 (by rw[ga];rfl) ⟨aE,dK,bL,trivial⟩;refine⟨⟨hf,e7,ia⟩,⟨w0,ik,j0⟩,?_⟩;show ai w (F0 w) (.agg [.int .i64 hf,.slice (e7.map aC),.slice (ia.map g3)]) cs _;rw[ai];exact key
theorem walk (w:World) (hf:lb) (wQ:zH hf) (v0:Value) (e9:Arg w (.agg [.int .i64 hf.a8,.slice (hf.Start.map aC),.slice (hf.aW.map g3)]) v0):
  Calls Tryz.prog 5 #[v0] w λe ax=>e= .returned (.bool true)/\RowKit.Below w.heap.size w ax:=
 bx.law (C:=az) (X4 hf true (Ys hf wQ)) Tryz.func5 rfl rfl (.cons e9 (.nil))
set_option maxRecDepth 100000 in
theorem lifted (os:Os) (started:os.Started) (H:Type) (enc:TypeId×Value->H):
  ReturnsInHanded {} Tryz.checked os 5 .any (Rows.fnExactRemoveUnusedSpec.pre6 enc Tryz.prog Tryz.f5 Rows.fnExactRemoveUnusedRow.domain false) (Rows.fnExactRemoveUnusedSpec.post enc Tryz.prog Tryz.f5 false true false false):=by
 refine returnsInHanded_of_change (C:=Tryz.checked) own started (by kernel_rfl) Tryz.func5
  (ChangeSpec.witness6 (enc:=enc) (C:=Tryz.checked) false ⟨#[],#[.agg #[.int .i64 0,.slice none 0 0,.slice none 0 0]],[]⟩ 8 (by kernel_rfl) (by kernel_rfl) (by kernel_rfl) (by kernel_rfl)) ?_
 intro W base args ds gs before Mu vE abu _;have sk:∀(au:Nat) t v,Tryz.f5.params[au]? =some t->args[au]? =some v->Value.okWide Tryz.prog W .any base t v:=Mu;have Yt:=vE;obtain⟨p,q,tS,l8,rfl,abv,o5⟩:=vE;have e5:DataW.TrodAll enc Tryz.prog W 0 (λ_=>true) true Tryz.f5.params.toList args.toList ds p:=tS;rw[Tryz.params5]at e5 sk;obtain⟨v0,abw,d0,abx,eN,yE,lJ,rfl,rfl,bq,aE⟩:=trodAll_cons e5;obtain⟨rfl,rfl,rfl⟩:=trodAll_nil aE;obtain rfl:args= #[v0]:=by cases args;simp_all
 obtain⟨rfl,rfl⟩:=trodVars_none l8;have FZ:∀x∈eN,x.block<W.heap.size:=by obtain⟨m,hm⟩:=bq;exact DataW.trod_lt m _ _ _ hm
 obtain⟨hf,e9,wQ⟩:=R1 (es:=λy:lb=>[.int .i64 y.a8,.slice (y.Start.map aC),.slice (y.aW.map g3)]) Tryz.underlying25 Yr (sk 0 25 v0 rfl rfl) bq;clear tS Mu;refine(walk W hf wQ v0 e9).mono λe aby ⟨he,Mv⟩=>?_;subst he;exact⟨_,rfl,_,_,_,[],_,[],Yt,trodAll_mk1 (shut_bool Tryz.underlying4 _),(trodAll_cons_mk (Below.trod laidOut (by kernel_rfl) (of_decide_eq_true (by kernel_rfl)) bq Mv FZ) trodAll_mk0),rfl,Mv.frame _,λh=>by cases h⟩
def AO:List Char:=map Char.ofNat [104,97,114,110,101,115,115,32,56,98,55,56,55,100,101,100,56,56,55,56,101,100,51,97,51,50,50,52,48,52,97,50,54,53,101,52,99,101,101,55,97,49,98,98,50,53,100,53,55,97,101,52,102,54,98,99,50,52,53,102,49,102,51,49,99,98,98,100,54,48,51,99,32,99,117,116,32,97,116,32,108,111,111,112,46,101,120,97,109,112,108,101,47,103,48,49,48,55,53,47,108,97,119,115,46,70,110,69,120,97,99,116,82,101,109,111,118,101,67,111,110,115,116,97,110,116,115,32,108,111,111,112,46,101,120,97,109,112,108,101,47,103,48,49,48,55,53,47,108,97,119,115,46,70,110,69,120,97,99,116,77,101,101,116,76,105,110,101,97,114,32,108,111,111,112,46,101,120,97,109,112,108,101,47,103,48,49,48,55,53,47,108,97,119,115,46,70,110,69,120,97,99,116,82,101,109,111,118,101,85,110,117,115,101,100]
def yb:List Char:=map Char.ofNat [99,117,116]
theorem Yu:Tryz.prog.initOrder=String.ofList AO:=by kernel_rfl
theorem F1:Tryz.prog.initOrder.toList=AO:=by rw[Yu];exact String.toList_ofList
theorem Mw:behindMainWord (wordsSigns AO)=yb::(behindMainWord (wordsSigns AO)).tail:=by kernel_rfl
theorem Yv {P:Program} {L:List Char} {r:List (List Char)} (h:P.initOrder.toList=L) (hw:behindMainWord (wordsSigns L)=yb::r):P.make=some .cut:=by
 unfold Program.make;rw[h,hw];rfl
theorem Yw {P:Program} {L:List Char} {r:List (List Char)} (h:P.initOrder.toList=L) (hw:behindMainWord (wordsSigns L)=yb::r) (R:P.laysLater=false) (U:P.bearsReflect=false) (aA:P.doorFits []=true):P.mayEnter=true:=by
 unfold Program.mayEnter;rw[h,hw];have e:stripLifts liftWords (yb::r)=([],yb::r):=rfl;simp only[e,R,U,aA];rfl
theorem Yx:Tryz.prog.liftsFinal=false:=by unfold Program.liftsFinal Program.headLifts;rw[F1];kernel_rfl
theorem Yy:Tryz.prog.mayEnter=true:=Yw F1 Mw (by kernel_rfl) (by kernel_rfl) (by kernel_rfl)
theorem Yz:Tryz.prog.make=some .cut:=Yv F1 Mw
theorem YA:joinedFacts Tryz.prog 5 Tryz.f5 Rows.fnExactRemoveUnusedSpec Rows.fnExactRemoveUnusedRow=true:=by
 unfold joinedFacts;rw[Yx,Yy,Yz];kernel_rfl
theorem over:Rows.fnExactRemoveUnusedRow.holds Tryz.pinned (OpenSpec.ofChange Rows.fnExactRemoveUnusedSpec):=
 OpenClaim.holds_of_wide 5 Tryz.f5 rfl rfl rfl rfl rfl rfl rfl ⟨rfl,rfl,rfl,rfl,rfl⟩ rfl rfl rfl rfl rfl (by kernel_rfl) Tryz.func5 YA
  (of_decide_eq_true (by kernel_rfl)) (by unfold Func.isWrapper;first|(rw[if_pos (by decide+kernel)];kernel_rfl)|(rw[if_neg (by decide+kernel)];exact⟨rfl,rfl⟩))
  (λos started H enc _=>lifted os started H enc)
theorem proved:Rows.FnExactRemoveUnusedSaid:=over
end Go.Proofs.YtndfcecbamffaaaGreat.fnExactRemoveUnused
