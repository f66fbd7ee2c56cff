/- Part of a proof that a law returns true for every input. No condition. -/
import Derived.Test.YtndfcecbamffaaaGreatRows
import Derived.Test.YtndfcecbamffaaaGreatW3
import Derived.Test.YtndfcecbamffaaaGreatFwI
import Derived.Test.YtndfcecbamffaaaGreatUV3x
import Derived.WalkKit
import Derived.ProofKit
import Derived.OpenShut
import Derived.ChangeOld
import Derived.Below
import Derived.Carry
namespace Go.Proofs.YtndfcecbamffaaaGreat.fnExactRemoveConstants
open List Option Go.IntKind Nat Or
open Go.ChangeShapes Go.WideShapes Go.ChangeAt Go.RowKit
open Go.c3 Go.nc
set_option linter.unusedVariables false
theorem own:ownKnob Tryz.prog.godebug=none:=by kernel_rfl
theorem laidOut:laidOutB Tryz.prog=true:=by kernel_rfl
theorem B2 {H:Type} {enc:TypeId×Value->H} {w:World} {base:Nat} {sp:Nat->Bool} {held:Bool}:lx enc Tryz.prog w base sp held 2 (λx:Int=>.int .i64 x) (λx:Int=>(-9223372036854775808<=x/\x<=9223372036854775807)):=S9 Tryz.underlying2
theorem NT {H:Type} {enc:TypeId×Value->H} {w:World} {base:Nat} {sp:Nat->Bool} {held:Bool}:lx enc Tryz.prog w base sp held 22 (λx:List Int=>.slice (x.map ax)) (λx:List Int=>(x.length<=9223372036854775807/\∀y∈x,(-9223372036854775808<=y/\y<=9223372036854775807))):=Al (sz:=1) (ec:=ax) Tryz.underlying22 (by kernel_rfl) (by decide) (λ_=>rfl) B2
theorem abj {H:Type} {enc:TypeId×Value->H} {w:World} {base:Nat} {sp:Nat->Bool} {held:Bool}:lx enc Tryz.prog w base sp held 173 iw (λx:gX=>r2 x):=by
 intro fuel cs x al;obtain⟨xs,n,_,_,hl,a4,a8⟩:=DataW.trod_struct Tryz.underlying173 al;have ho:cs.length=2:=hl.trans (by kernel_rfl);obtain⟨hV,w0,aE⟩:=pV B2 (a8 0 _ rfl) (by rw[getElem?_eq_getElem (by rw[a4];decide)];rfl);change ao w (F0 w) (.int .i64 hV) ((cs.drop 0).take (Tryz.prog.cellsOf 2)) _ at aE;rw[show Tryz.prog.cellsOf 2=1 by kernel_rfl]at aE;obtain⟨e_,hW,dR⟩:=pV B2 (a8 1 _ rfl) (by rw[getElem?_eq_getElem (by rw[a4];decide)];rfl);change ao w (F0 w) (.int .i64 e_) ((cs.drop 1).take (Tryz.prog.cellsOf 2)) _ at dR;rw[show Tryz.prog.cellsOf 2=1 by kernel_rfl]at dR;have key:=Ep [(.int .i64 hV,0,1),(.int .i64 e_,1,1)] 0 (by rw[ho];rfl) ⟨aE,dR,trivial⟩;refine⟨⟨hV,e_⟩,⟨w0,hW⟩,?_⟩;show ao w (F0 w) (.agg [.int .i64 hV,.int .i64 e_]) cs _;rw[ao];exact key
theorem NU {H:Type} {enc:TypeId×Value->H} {w:World} {base:Nat} {sp:Nat->Bool} {held:Bool}:lx enc Tryz.prog w base sp held 80 (λx:List gX=>.slice (x.map iw)) (λx:List gX=>(x.length<=9223372036854775807/\∀y∈x,r2 y)):=Al (sz:=2) (ec:=iw) Tryz.underlying80 (by kernel_rfl) (by decide) (λ_=>rfl) abj
theorem abk {H:Type} {enc:TypeId×Value->H} {w:World} {base:Nat} {sp:Nat->Bool} {held:Bool}:lx enc Tryz.prog w base sp held 9 (λx:List UInt8=>.str x) (λx:List UInt8=>x.length<=9223372036854775807):=S_ Tryz.underlying9
theorem NV {H:Type} {enc:TypeId×Value->H} {w:World} {base:Nat} {sp:Nat->Bool} {held:Bool}:lx enc Tryz.prog w base sp held 81 (λx:List (afk)=>.slice (x.map hX)) (λx:List (afk)=>(x.length<=9223372036854775807/\∀y∈x,(y.length<=9223372036854775807/\∀z∈y,r2 z))):=Al (sz:=1) (ec:=hX) Tryz.underlying81 (by kernel_rfl) (by decide) (λ_=>rfl) NU
theorem abl {H:Type} {enc:TypeId×Value->H} {w:World} {base:Nat} {sp:Nat->Bool} {held:Bool}:lx enc Tryz.prog w base sp held 83 hF (λx:i0=>xT x):=by
 intro fuel cs x al;obtain⟨xs,n,_,_,hl,a4,a8⟩:=DataW.trod_struct Tryz.underlying83 al;have ho:cs.length=5:=hl.trans (by kernel_rfl);obtain⟨hV,w0,aE⟩:=pV NT (a8 0 _ rfl) (by rw[getElem?_eq_getElem (by rw[a4];decide)];rfl);change ao w (F0 w) (.slice (hV.map ax)) ((cs.drop 0).take (Tryz.prog.cellsOf 22)) _ at aE;rw[show Tryz.prog.cellsOf 22=1 by kernel_rfl]at aE;obtain⟨e_,hW,dR⟩:=pV NU (a8 1 _ rfl) (by rw[getElem?_eq_getElem (by rw[a4];decide)];rfl);change ao w (F0 w) (.slice (e_.map iw)) ((cs.drop 1).take (Tryz.prog.cellsOf 80)) _ at dR;rw[show Tryz.prog.cellsOf 80=1 by kernel_rfl]at dR;obtain⟨iD,kG,bx⟩:=pV abk (a8 2 _ rfl) (by rw[getElem?_eq_getElem (by rw[a4];decide)];rfl);change ao w (F0 w) (.str iD) ((cs.drop 2).take (Tryz.prog.cellsOf 9)) _ at bx;rw[show Tryz.prog.cellsOf 9=1 by kernel_rfl]at bx;obtain⟨wg,pY,e1⟩:=pV NV (a8 3 _ rfl) (by rw[getElem?_eq_getElem (by rw[a4];decide)];rfl);change ao w (F0 w) (.slice (wg.map hX)) ((cs.drop 3).take (Tryz.prog.cellsOf 81)) _ at e1;rw[show Tryz.prog.cellsOf 81=1 by kernel_rfl]at e1;obtain⟨rk,Hl,bR⟩:=pV NV (a8 4 _ rfl) (by rw[getElem?_eq_getElem (by rw[a4];decide)];rfl);change ao w (F0 w) (.slice (rk.map hX)) ((cs.drop 4).take (Tryz.prog.cellsOf 81)) _ at bR;rw[show Tryz.prog.cellsOf 81=1 by kernel_rfl]at bR;have key:=Ep [(.slice (hV.map ax),0,1),(.slice (e_.map iw),1,1),(.str iD,2,1),(.slice (wg.map hX),3,1),(.slice (rk.map hX),4,1)] 0 (by rw[ho];rfl) ⟨aE,dR,bx,e1,bR,trivial⟩;refine⟨⟨hV,e_,iD,wg,rk⟩,⟨w0,hW,kG,pY,Hl⟩,?_⟩;show ao w (F0 w) (.agg [.slice (hV.map ax),.slice (e_.map iw),.str iD,.slice (wg.map hX),.slice (rk.map hX)]) cs _;rw[ao];exact key
theorem abm {H:Type} {enc:TypeId×Value->H} {w:World} {base:Nat} {sp:Nat->Bool} {held:Bool}:lx enc Tryz.prog w base sp held 23 (λx:List i0=>.slice (x.map hF)) (λx:List i0=>(x.length<=9223372036854775807/\∀y∈x,xT y)):=Al (sz:=5) (ec:=hF) Tryz.underlying23 (by kernel_rfl) (by decide) (λ_=>rfl) abl
theorem abn {H:Type} {enc:TypeId×Value->H} {w:World} {base:Nat} {sp:Nat->Bool} {held:Bool}:lx enc Tryz.prog w base sp held 25 j0 (λx:lZ=>AG x):=by
 intro fuel cs x al;obtain⟨xs,n,_,_,hl,a4,a8⟩:=DataW.trod_struct Tryz.underlying25 al;have ho:cs.length=3:=hl.trans (by kernel_rfl);obtain⟨hV,w0,aE⟩:=pV B2 (a8 0 _ rfl) (by rw[getElem?_eq_getElem (by rw[a4];decide)];rfl);change ao w (F0 w) (.int .i64 hV) ((cs.drop 0).take (Tryz.prog.cellsOf 2)) _ at aE;rw[show Tryz.prog.cellsOf 2=1 by kernel_rfl]at aE;obtain⟨e_,hW,dR⟩:=pV NT (a8 1 _ rfl) (by rw[getElem?_eq_getElem (by rw[a4];decide)];rfl);change ao w (F0 w) (.slice (e_.map ax)) ((cs.drop 1).take (Tryz.prog.cellsOf 22)) _ at dR;rw[show Tryz.prog.cellsOf 22=1 by kernel_rfl]at dR;obtain⟨iD,kG,bx⟩:=pV abm (a8 2 _ rfl) (by rw[getElem?_eq_getElem (by rw[a4];decide)];rfl);change ao w (F0 w) (.slice (iD.map hF)) ((cs.drop 2).take (Tryz.prog.cellsOf 23)) _ at bx;rw[show Tryz.prog.cellsOf 23=1 by kernel_rfl]at bx;have key:=Ep [(.int .i64 hV,0,1),(.slice (e_.map ax),1,1),(.slice (iD.map hF),2,1)] 0 (by rw[ho];rfl) ⟨aE,dR,bx,trivial⟩;refine⟨⟨hV,e_,iD⟩,⟨w0,hW,kG⟩,?_⟩;show ao w (F0 w) (.agg [.int .i64 hV,.slice (e_.map ax),.slice (iD.map hF)]) cs _;rw[ao];exact key
theorem walk (w:World) (hV:lZ) (xj:AG hV) (v0:Value) (fB:Arg w (.agg [.int .i64 hV.bz,.slice (hV.Start.map ax),.slice (hV.bu.map hF)]) v0):
  Calls Tryz.prog 3 #[v0] w λe aB=>e= .returned (.bool true)/\RowKit.Below w.heap.size w aB:=
 bk.law (C:=aq) (aaS hV true (abo hV xj)) Tryz.func3 rfl rfl (.cons fB (.nil))
set_option maxRecDepth 100000 in
theorem lifted (os:Os) (started:os.Started) (H:Type) (enc:TypeId×Value->H):
  ReturnsInHanded {} Tryz.checked os 3 .any (Rows.fnExactRemoveConstantsSpec.pre6 enc Tryz.prog Tryz.f3 Rows.fnExactRemoveConstantsRow.domain false) (Rows.fnExactRemoveConstantsSpec.post enc Tryz.prog Tryz.f3 false true false false):=by
 refine returnsInHanded_of_change (C:=Tryz.checked) own started (by kernel_rfl) Tryz.func3
  (ChangeSpec.witness6 (enc:=enc) (C:=Tryz.checked) false ⟨#[],#[.agg #[.int .i64 0,.slice none 0 0,.slice none 0 0]],[]⟩ 8 (by kernel_rfl) (by kernel_rfl) (by kernel_rfl) (by kernel_rfl)) ?_
 intro W base args ds gs before NW AA aeV _;have qK:∀(j:Nat) t v,Tryz.f3.params[j]? =some t->args[j]? =some v->Value.okWide Tryz.prog W .any base t v:=NW;have abp:=AA;obtain⟨p,q,uB,mV,rfl,abq,rR⟩:=AA;have iC:DataW.TrodAll enc Tryz.prog W 0 (λ_=>true) true Tryz.f3.params.toList args.toList ds p:=uB;rw[Tryz.params3]at iC qK;obtain⟨v0,aeW,d0,aeX,eZ,nS,mq,rfl,rfl,bo,aE⟩:=trodAll_cons iC;obtain⟨rfl,rfl,rfl⟩:=trodAll_nil aE;obtain rfl:args= #[v0]:=by cases args;simp_all
 obtain⟨rfl,rfl⟩:=trodVars_none mV;have Hm:∀x∈eZ,x.block<W.heap.size:=by obtain⟨m,hm⟩:=bo;exact DataW.trod_lt m _ _ _ hm
 obtain⟨hV,fB,xj⟩:=Td (es:=λy:lZ=>[.int .i64 y.bz,.slice (y.Start.map ax),.slice (y.bu.map hF)]) Tryz.underlying25 abn (qK 0 25 v0 rfl rfl) bo;clear uB NW;refine(walk W hV xj v0 fB).mono λe aeY ⟨he,NX⟩=>?_;subst he;exact⟨_,rfl,_,_,_,[],_,[],abp,trodAll_mk1 (shut_bool Tryz.underlying4 _),(trodAll_cons_mk (Below.trod laidOut (by kernel_rfl) (of_decide_eq_true (by kernel_rfl)) bo NX Hm) trodAll_mk0),rfl,NX.frame _,λh=>by cases h⟩
def B3:List Char:=map Char.ofNat [104,97,114,110,101,115,115,32,56,98,55,56,55,100,101,100,56,56,55,56,101,100,51,97,51,50,50,52,48,52,97,50,54,53,101,52,99,101,101,55,97,49,98,98,50,53,100,53,55,97,101,52,102,54,98,99,50,52,53,102,49,102,51,49,99,98,98,100,54,48,51,99,32,99,117,116,32,97,116,32,108,111,111,112,46,101,120,97,109,112,108,101,47,103,48,49,48,55,53,47,108,97,119,115,46,70,110,69,120,97,99,116,82,101,109,111,118,101,67,111,110,115,116,97,110,116,115,32,108,111,111,112,46,101,120,97,109,112,108,101,47,103,48,49,48,55,53,47,108,97,119,115,46,70,110,69,120,97,99,116,77,101,101,116,76,105,110,101,97,114,32,108,111,111,112,46,101,120,97,109,112,108,101,47,103,48,49,48,55,53,47,108,97,119,115,46,70,110,69,120,97,99,116,82,101,109,111,118,101,85,110,117,115,101,100]
def y0:List Char:=map Char.ofNat [99,117,116]
theorem abr:Tryz.prog.initOrder=String.ofList B3:=by kernel_rfl
theorem Hn:Tryz.prog.initOrder.toList=B3:=by rw[abr];exact String.toList_ofList
theorem NY:behindMainWord (wordsSigns B3)=y0::(behindMainWord (wordsSigns B3)).tail:=by kernel_rfl
theorem abt {P:Program} {L:List Char} {r:List (List Char)} (h:P.initOrder.toList=L) (hw:behindMainWord (wordsSigns L)=y0::r):P.make=some .cut:=by
 unfold Program.make;rw[h,hw];rfl
theorem abu {P:Program} {L:List Char} {r:List (List Char)} (h:P.initOrder.toList=L) (hw:behindMainWord (wordsSigns L)=y0::r) (ae:P.laysLater=false) (af:P.bearsReflect=false) (aF:P.doorFits []=true):P.mayEnter=true:=by
 unfold Program.mayEnter;rw[h,hw];have e:stripLifts liftWords (y0::r)=([],y0::r):=rfl;simp only[e,ae,af,aF];rfl
theorem abv:Tryz.prog.liftsFinal=false:=by unfold Program.liftsFinal Program.headLifts;rw[Hn];kernel_rfl
theorem abw:Tryz.prog.mayEnter=true:=abu Hn NY (by kernel_rfl) (by kernel_rfl) (by kernel_rfl)
theorem abx:Tryz.prog.make=some .cut:=abt Hn NY
theorem aby:joinedFacts Tryz.prog 3 Tryz.f3 Rows.fnExactRemoveConstantsSpec Rows.fnExactRemoveConstantsRow=true:=by
 unfold joinedFacts;rw[abv,abw,abx];kernel_rfl
theorem over:Rows.fnExactRemoveConstantsRow.holds Tryz.pinned (OpenSpec.ofChange Rows.fnExactRemoveConstantsSpec):=
 OpenClaim.holds_of_wide 3 Tryz.f3 rfl rfl rfl rfl rfl rfl rfl ⟨rfl,rfl,rfl,rfl,rfl⟩ rfl rfl rfl rfl rfl (by kernel_rfl) Tryz.func3 aby
  (of_decide_eq_true (by kernel_rfl)) (by unfold Func.isWrapper;first|(rw[if_pos (by decide+kernel)];kernel_rfl)|(rw[if_neg (by decide+kernel)];exact⟨rfl,rfl⟩))
  (λos started H enc _=>lifted os started H enc)
theorem proved:Rows.FnExactRemoveConstantsSaid:=over
end Go.Proofs.YtndfcecbamffaaaGreat.fnExactRemoveConstants
