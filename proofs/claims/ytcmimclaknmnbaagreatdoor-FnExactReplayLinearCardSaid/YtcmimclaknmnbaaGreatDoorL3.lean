/- Part of a proof that a law returns true for every input. No condition. -/
import Derived.Test.YtcmimclaknmnbaaGreatDoorRows
import Derived.Test.YtcmimclaknmnbaaGreatDoorTie
import Derived.Test.YtcmimclaknmnbaaGreatDoorCards
import Derived.SevenTiedAt
import Derived.MakeChecks
import Derived.LaidMore
import Derived.Stop.Joined
import Derived.Test.YtcmimclaknmnbaaGreatDoorFwR
import Derived.Lay
import Derived.Test.YtcmimclaknmnbaaGreatDoorW3
import Derived.Test.YtcmimclaknmnbaaGreatDoorFwI
import Derived.Test.YtcmimclaknmnbaaGreatDoorUV5x
import Derived.WalkKit
import Derived.ProofKit
import Derived.OpenShut
import Derived.ChangeOld
import Derived.Below
import Derived.Carry
namespace Go.Proofs.YtcmimclaknmnbaaGreatDoor.fnExactReplayLinearCard
open List Option Go.IntKind Nat Or
open Go.ChangeShapes Go.WideShapes Go.ChangeAt Go.RowKit
open Go.cC Go.lT
set_option linter.unusedVariables false
theorem own:ownKnob Tryz.prog.godebug=none:=by kernel_rfl
theorem laidOut:laidOutB Tryz.prog=true:=by kernel_rfl
theorem aja (os:Os) (args:Array Value):laidMetH Tryz.prog Rows.fnExactReplayLinearRow.laid ((World.laidAll Tryz.prog os Rows.fnExactReplayLinearRow.laid).forCall (λ_ _=>0) ⟨#[],args,[]⟩).memory:=by
 have h:=laidMet_laidAll (P:=Tryz.prog) (os:=os) (laid:=Rows.fnExactReplayLinearRow.laid) args (by kernel_rfl) (by kernel_rfl);unfold laidMetH;rw[show(Rows.fnExactReplayLinearRow.laid.filter λx=>x.2.handleName?.isSome)=[] by kernel_rfl];exact h
theorem FV {H:Type} {enc:TypeId×Value->H} {w:World} {base:Nat} {sp:Nat->Bool} {held:Bool}:lQ enc Tryz.prog w base sp held 2 (λx:Int=>.int .i64 x) (λx:Int=>(-9223372036854775808<=x/\x<=9223372036854775807)):=ZG Tryz.underlying2
theorem TT {H:Type} {enc:TypeId×Value->H} {w:World} {base:Nat} {sp:Nat->Bool} {held:Bool}:lQ enc Tryz.prog w base sp held 22 (λx:List Int=>.slice (x.map aG)) (λx:List Int=>(x.length<=9223372036854775807/\∀y∈x,(-9223372036854775808<=y/\y<=9223372036854775807))):=AV (sz:=1) (ec:=aG) Tryz.underlying22 (by kernel_rfl) (by decide) (λ_=>rfl) FV
theorem ajb {H:Type} {enc:TypeId×Value->H} {w:World} {base:Nat} {sp:Nat->Bool} {held:Bool}:lQ enc Tryz.prog w base sp held 138 i1 (λx:hi=>um x):=by
 intro fuel cs x ag;obtain⟨xs,n,_,_,hl,aN,bc⟩:=DataW.trod_struct Tryz.underlying138 ag;have fZ:cs.length=2:=hl.trans (by kernel_rfl);obtain⟨iC,w0,az⟩:=rT FV (bc 0 _ rfl) (by rw[getElem?_eq_getElem (by rw[aN];decide)];rfl);change ar w (F0 w) (.int .i64 iC) ((cs.drop 0).take (Tryz.prog.cellsOf 2)) _ at az;rw[show Tryz.prog.cellsOf 2=1 by kernel_rfl]at az;obtain⟨f_,mB,cY⟩:=rT FV (bc 1 _ rfl) (by rw[getElem?_eq_getElem (by rw[aN];decide)];rfl);change ar w (F0 w) (.int .i64 f_) ((cs.drop 1).take (Tryz.prog.cellsOf 2)) _ at cY;rw[show Tryz.prog.cellsOf 2=1 by kernel_rfl]at cY;have key:=H_ [(.int .i64 iC,0,1),(.int .i64 f_,1,1)] 0 (by rw[fZ];rfl) ⟨az,cY,trivial⟩;refine⟨⟨iC,f_⟩,⟨w0,mB⟩,?_⟩;show ar w (F0 w) (.agg [.int .i64 iC,.int .i64 f_]) cs _;rw[ar];exact key
theorem TU {H:Type} {enc:TypeId×Value->H} {w:World} {base:Nat} {sp:Nat->Bool} {held:Bool}:lQ enc Tryz.prog w base sp held 63 (λx:List hi=>.slice (x.map i1)) (λx:List hi=>(x.length<=9223372036854775807/\∀y∈x,um y)):=AV (sz:=2) (ec:=i1) Tryz.underlying63 (by kernel_rfl) (by decide) (λ_=>rfl) ajb
theorem TV {H:Type} {enc:TypeId×Value->H} {w:World} {base:Nat} {sp:Nat->Bool} {held:Bool}:lQ enc Tryz.prog w base sp held 9 (λx:List UInt8=>.str x) (λx:List UInt8=>x.length<=9223372036854775807):=ZH Tryz.underlying9
theorem TW {H:Type} {enc:TypeId×Value->H} {w:World} {base:Nat} {sp:Nat->Bool} {held:Bool}:lQ enc Tryz.prog w base sp held 64 (λx:List (aoc)=>.slice (x.map ix)) (λx:List (aoc)=>(x.length<=9223372036854775807/\∀y∈x,(y.length<=9223372036854775807/\∀z∈y,um z))):=AV (sz:=1) (ec:=ix) Tryz.underlying64 (by kernel_rfl) (by decide) (λ_=>rfl) TU
theorem ajc {H:Type} {enc:TypeId×Value->H} {w:World} {base:Nat} {sp:Nat->Bool} {held:Bool}:lQ enc Tryz.prog w base sp held 66 h9 (λx:jH=>Bg x):=by
 intro fuel cs x ag;obtain⟨xs,n,_,_,hl,aN,bc⟩:=DataW.trod_struct Tryz.underlying66 ag;have fZ:cs.length=5:=hl.trans (by kernel_rfl);obtain⟨iC,w0,az⟩:=rT TT (bc 0 _ rfl) (by rw[getElem?_eq_getElem (by rw[aN];decide)];rfl);change ar w (F0 w) (.slice (iC.map aG)) ((cs.drop 0).take (Tryz.prog.cellsOf 22)) _ at az;rw[show Tryz.prog.cellsOf 22=1 by kernel_rfl]at az;obtain⟨f_,mB,cY⟩:=rT TU (bc 1 _ rfl) (by rw[getElem?_eq_getElem (by rw[aN];decide)];rfl);change ar w (F0 w) (.slice (f_.map i1)) ((cs.drop 1).take (Tryz.prog.cellsOf 63)) _ at cY;rw[show Tryz.prog.cellsOf 63=1 by kernel_rfl]at cY;obtain⟨iW,mz,bl⟩:=rT TV (bc 2 _ rfl) (by rw[getElem?_eq_getElem (by rw[aN];decide)];rfl);change ar w (F0 w) (.str iW) ((cs.drop 2).take (Tryz.prog.cellsOf 9)) _ at bl;rw[show Tryz.prog.cellsOf 9=1 by kernel_rfl]at bl;obtain⟨ya,mA,cz⟩:=rT TW (bc 3 _ rfl) (by rw[getElem?_eq_getElem (by rw[aN];decide)];rfl);change ar w (F0 w) (.slice (ya.map ix)) ((cs.drop 3).take (Tryz.prog.cellsOf 64)) _ at cz;rw[show Tryz.prog.cellsOf 64=1 by kernel_rfl]at cz;obtain⟨zu,LS,b0⟩:=rT TW (bc 4 _ rfl) (by rw[getElem?_eq_getElem (by rw[aN];decide)];rfl);change ar w (F0 w) (.slice (zu.map ix)) ((cs.drop 4).take (Tryz.prog.cellsOf 64)) _ at b0;rw[show Tryz.prog.cellsOf 64=1 by kernel_rfl]at b0;have key:=H_ [(.slice (iC.map aG),0,1),(.slice (f_.map i1),1,1),(.str iW,2,1),(.slice (ya.map ix),3,1),(.slice (zu.map ix),4,1)] 0 (by rw[fZ];rfl) ⟨az,cY,bl,cz,b0,trivial⟩;refine⟨⟨iC,f_,iW,ya,zu⟩,⟨w0,mB,mz,mA,LS⟩,?_⟩;show ar w (F0 w) (.agg [.slice (iC.map aG),.slice (f_.map i1),.str iW,.slice (ya.map ix),.slice (zu.map ix)]) cs _;rw[ar];exact key
theorem ajd {H:Type} {enc:TypeId×Value->H} {w:World} {base:Nat} {sp:Nat->Bool} {held:Bool}:lQ enc Tryz.prog w base sp held 23 (λx:List jH=>.slice (x.map h9)) (λx:List jH=>(x.length<=9223372036854775807/\∀y∈x,Bg y)):=AV (sz:=5) (ec:=h9) Tryz.underlying23 (by kernel_rfl) (by decide) (λ_=>rfl) ajc
theorem aje {H:Type} {enc:TypeId×Value->H} {w:World} {base:Nat} {sp:Nat->Bool} {held:Bool}:lQ enc Tryz.prog w base sp held 25 l9 (λx:nP=>Ec x):=by
 intro fuel cs x ag;obtain⟨xs,n,_,_,hl,aN,bc⟩:=DataW.trod_struct Tryz.underlying25 ag;have fZ:cs.length=3:=hl.trans (by kernel_rfl);obtain⟨iC,w0,az⟩:=rT FV (bc 0 _ rfl) (by rw[getElem?_eq_getElem (by rw[aN];decide)];rfl);change ar w (F0 w) (.int .i64 iC) ((cs.drop 0).take (Tryz.prog.cellsOf 2)) _ at az;rw[show Tryz.prog.cellsOf 2=1 by kernel_rfl]at az;obtain⟨f_,mB,cY⟩:=rT TT (bc 1 _ rfl) (by rw[getElem?_eq_getElem (by rw[aN];decide)];rfl);change ar w (F0 w) (.slice (f_.map aG)) ((cs.drop 1).take (Tryz.prog.cellsOf 22)) _ at cY;rw[show Tryz.prog.cellsOf 22=1 by kernel_rfl]at cY;obtain⟨iW,mz,bl⟩:=rT ajd (bc 2 _ rfl) (by rw[getElem?_eq_getElem (by rw[aN];decide)];rfl);change ar w (F0 w) (.slice (iW.map h9)) ((cs.drop 2).take (Tryz.prog.cellsOf 23)) _ at bl;rw[show Tryz.prog.cellsOf 23=1 by kernel_rfl]at bl;have key:=H_ [(.int .i64 iC,0,1),(.slice (f_.map aG),1,1),(.slice (iW.map h9),2,1)] 0 (by rw[fZ];rfl) ⟨az,cY,bl,trivial⟩;refine⟨⟨iC,f_,iW⟩,⟨w0,mB,mz⟩,?_⟩;show ar w (F0 w) (.agg [.int .i64 iC,.slice (f_.map aG),.slice (iW.map h9)]) cs _;rw[ar];exact key
theorem ajf {H:Type} {enc:TypeId×Value->H} {w:World} {base:Nat} {sp:Nat->Bool} {held:Bool}:lQ enc Tryz.prog w base sp held 26 (λx:List (anR)=>.slice (x.map b3)) (λx:List (anR)=>(x.length<=9223372036854775807/\∀y∈x,y.length<=9223372036854775807)):=AV (sz:=1) (ec:=b3) Tryz.underlying26 (by kernel_rfl) (by decide) (λ_=>rfl) TV
theorem e4 {W:World} (jC:laidMetH Tryz.prog Rows.fnExactReplayLinearRow.laid W):rf W λ_=>False:=λp al=>by
 rcases mem_cons.1 al with rfl|al
 .exact aaw (name:= "strconv.ErrSyntax") (x:=Rows.laid_strconv_ErrSyntax) (t:=183) jC (by kernel_rfl) (by kernel_rfl) Tryz.underlying183 ⟨_,_,rfl⟩ (by kernel_rfl)
 .rcases mem_cons.1 al with rfl|al
  .exact aay (name:= "internal/strconv.uint64pow10") (x:=Rows.laid_internal_strconv_uint64pow10) (t:=223) (e:=164) jC (by kernel_rfl) (by kernel_rfl) Tryz.underlying223 Tryz.underlying164 (by kernel_rfl) (by kernel_rfl) (by kernel_rfl) (by kernel_rfl)
  .cases al
theorem walk (w:World) (hg:rf w λ_=>False) (iC:nP) (Dx:Ec iC) (v0:Value) (f_:anQ) (xA:(f_.length<=9223372036854775807/\∀y∈f_,y.length<=9223372036854775807)) (v1:Value) (g0:Arg w (.agg [.int .i64 iC.eY,.slice (iC.Start.map aG),.slice (iC.cG.map h9)]) v0) (g1:Arg w (.slice (f_.map b3)) v1):
  Calls Tryz.prog 3 #[v0,v1] w λe aq=>e= .returned (.bool true)/\RowKit.Below w.heap.size w aq:=
 aY.law (C:=ao) (aiV iC f_ true (ajg iC f_ Dx xA)) Tryz.func3 rfl rfl (.cons g0 (.cons g1 (.nil))) (hg:=hg)
set_option maxRecDepth 100000 in
theorem lifted (os:Os) (started:os.Started) (H:Type) (enc:TypeId×Value->H):
  ReturnsInHanded {} Tryz.checked os 3 .any (λw args=>(Rows.fnExactReplayLinearSpec.pre enc Tryz.prog Tryz.f3 Rows.fnExactReplayLinearRow.domain false w args/\laidMetH Tryz.prog Rows.fnExactReplayLinearRow.laid w)/\sizedMet enc Tryz.prog Tryz.f3 (OpenSpec.ofChange Rows.fnExactReplayLinearSpec) false w args) (Rows.fnExactReplayLinearSpec.post enc Tryz.prog Tryz.f3 false true false false):=by
 refine returnsInHanded_of_change_and (C:=Tryz.checked) (X:=λw _=>laidMetH Tryz.prog Rows.fnExactReplayLinearRow.laid w) (λ_ _ _ hN h=>h.of_heap hN) own started (by kernel_rfl) Tryz.func3
  (ChangeSpec.witness_shaped (enc:=enc) (C:=Tryz.checked) (os:=os) (X:=λw _=>laidMetH Tryz.prog Rows.fnExactReplayLinearRow.laid w) false (World.laidAll Tryz.prog os Rows.fnExactReplayLinearRow.laid) #[.agg #[.int .i64 0,.slice none 0 0,.slice none 0 0],.slice none 0 0] 8 rfl (World.shaped_of_RefB (by kernel_rfl) (by kernel_rfl)) (by kernel_rfl) (by kernel_rfl) (by kernel_rfl) (aja os _)) ?_
 intro W base args ds gs before TX ui _ _ jC _;have pR:∀(j:Nat) t v,Tryz.f3.params[j]? =some t->args[j]? =some v->Value.okWide Tryz.prog W .any base t v:=TX;have ajh:=ui;obtain⟨p,q,xB,qg,rfl,anB,tS⟩:=ui;have iS:DataW.TrodAll enc Tryz.prog W 0 (λ_=>true) true Tryz.f3.params.toList args.toList ds p:=xB;rw[Tryz.params3]at iS pR;obtain⟨v0,anC,d0,anD,hJ,eG,lf,rfl,rfl,ba,az⟩:=trodAll_cons iS;obtain⟨v1,anE,d1,anF,eF,eH,rfl,rfl,rfl,h1,cY⟩:=trodAll_cons az;obtain⟨rfl,rfl,rfl⟩:=trodAll_nil cY;obtain rfl:args= #[v0,v1]:=by cases args;simp_all
 obtain⟨rfl,rfl⟩:=trodVars_none qg;have FW:∀x∈hJ,x.block<W.heap.size:=by obtain⟨m,hm⟩:=ba;exact DataW.trod_lt m _ _ _ hm
 obtain⟨iC,g0,Dx⟩:=ZM (es:=λy:nP=>[.int .i64 y.eY,.slice (y.Start.map aG),.slice (y.cG.map h9)]) Tryz.underlying25 aje (pR 0 25 v0 rfl rfl) ba;have aji:∀x∈eF,x.block<W.heap.size:=by obtain⟨m,hm⟩:=h1;exact DataW.trod_lt m _ _ _ hm
 obtain⟨f_,g1,xA⟩:=ZL Tryz.underlying26 ajf (pR 1 26 v1 rfl rfl) h1;clear xB TX;refine(walk W (e4 jC) iC Dx v0 f_ xA v1 g0 g1).mono λe anG ⟨he,LU⟩=>?_;subst he;exact⟨_,rfl,_,_,_,[],_,[],ajh,trodAll_mk1 (shut_bool Tryz.underlying4 _),(trodAll_cons_mk (Below.trod laidOut (by kernel_rfl) (of_decide_eq_true (by kernel_rfl)) ba LU FW) (trodAll_cons_mk (Below.trod laidOut (by kernel_rfl) (of_decide_eq_true (by kernel_rfl)) h1 LU aji) trodAll_mk0)),rfl,LU.frame _,λh=>by cases h⟩
def FX:List Char:=map Char.ofNat [104,97,114,110,101,115,115,32,54,99,100,101,50,100,53,102,99,52,48,51,100,57,54,52,97,53,98,98,56,98,97,51,48,98,48,98,55,100,97,50,57,101,49,54,55,52,50,102,55,50,98,100,53,57,51,102,49,54,100,48,57,53,57,51,98,48,55,55,57,100,97,48,32,99,117,116,32,97,116,32,108,111,111,112,46,101,120,97,109,112,108,101,47,103,48,49,48,55,53,47,108,97,119,115,46,70,110,69,120,97,99,116,82,101,112,108,97,121,76,105,110,101,97,114]
def Cs:List Char:=map Char.ofNat [99,117,116]
theorem ajj:Tryz.prog.initOrder=String.ofList FX:=by kernel_rfl
theorem FY:Tryz.prog.initOrder.toList=FX:=by rw[ajj];exact String.toList_ofList
theorem TY:behindMainWord (wordsSigns FX)=Cs::(behindMainWord (wordsSigns FX)).tail:=by kernel_rfl
theorem ajk {P:Program} {L:List Char} {r:List (List Char)} (h:P.initOrder.toList=L) (hw:behindMainWord (wordsSigns L)=Cs::r):P.make=some .cut:=by
 unfold Program.make;rw[h,hw];rfl
theorem ajl {P:Program} {L:List Char} {r:List (List Char)} (h:P.initOrder.toList=L) (hw:behindMainWord (wordsSigns L)=Cs::r) (h1:P.laysLater=false) (ab:P.bearsReflect=false) (ay:P.doorFits []=true):P.mayEnter=true:=by
 unfold Program.mayEnter;rw[h,hw];have e:stripLifts liftWords (Cs::r)=([],Cs::r):=rfl;simp only[e,h1,ab,ay];rfl
theorem ajm:Tryz.prog.liftsFinal=false:=by unfold Program.liftsFinal Program.headLifts;rw[FY];kernel_rfl
theorem ajn:Tryz.prog.mayEnter=true:=ajl FY TY (by kernel_rfl) (by kernel_rfl) (by kernel_rfl)
theorem ajo:Tryz.prog.make=some .cut:=ajk FY TY
theorem ajp:joinedFacts Tryz.prog 3 Tryz.f3 Rows.fnExactReplayLinearSpec Rows.fnExactReplayLinearRow=true:=by
 unfold joinedFacts;rw[ajm,ajn,ajo];kernel_rfl
theorem over:Rows.fnExactReplayLinearRow.holds Tryz.pinned (OpenSpec.ofChange Rows.fnExactReplayLinearSpec):=
 OpenClaim.holds_of_wide 3 Tryz.f3 rfl rfl rfl rfl rfl rfl rfl ⟨rfl,rfl,rfl,rfl,rfl⟩ rfl rfl rfl rfl rfl (by kernel_rfl) Tryz.func3 ajp
  (of_decide_eq_true (by kernel_rfl)) (by unfold Func.isWrapper;first|(rw[if_pos (by decide+kernel)];kernel_rfl)|(rw[if_neg (by decide+kernel)];exact⟨rfl,rfl⟩))
  (λos started H enc _=>lifted os started H enc)
theorem ajq:Tryz.prog.mainIs=some (Rows.fnExactReplayLinearCard.stood.harness.1,Rows.fnExactReplayLinearCard.stood.harness.2.toList):=by
 unfold Program.mainIs;rw[FY];kernel_rfl
theorem proved:Rows.FnExactReplayLinearCardSaid:=
 Claim7.holds_tied_plain_at .later [] Rows.fnExactReplayLinearCard.laidKinds true Rows.fnExactReplayLinearCard.stood.harness Rows.fnExactReplayLinearCard.stood.looks
  over (λ_ h=>by cases h) (by kernel_rfl) (λ_ h=>by cases h) fnExactReplayLinear_row_tie rfl ⟨rfl,rfl⟩ ajq rfl
  (λf fn bc I1=>by
   obtain rfl:f=3:=some.inj ((show Tryz.prog.funcNamed Rows.fnExactReplayLinearRow.func=some 3 by kernel_rfl).symm.trans bc)|>.symm;obtain rfl:fn=Tryz.f3:=(some.inj (Tryz.func3.symm.trans I1)).symm;exact⟨by kernel_rfl,λj t aL=>by
    rw[Tryz.params3]at aL;have hm:t∈[25,26]:=by simpa using Array.mem_of_getElem? aL
    have ja:([25,26].all λu=> !Tryz.prog.wantsStandIn u)=true:=by kernel_rfl
    exact(show Tryz.prog.wantsStandIn t=false by simpa using List.all_eq_true.1 ja t hm)⟩)
  (by kernel_rfl)
end Go.Proofs.YtcmimclaknmnbaaGreatDoor.fnExactReplayLinearCard
