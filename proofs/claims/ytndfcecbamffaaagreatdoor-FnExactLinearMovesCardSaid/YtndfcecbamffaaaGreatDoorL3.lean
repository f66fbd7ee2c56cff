/- Part of a proof that a law returns true for every input. No condition. -/
import Derived.Test.YtndfcecbamffaaaGreatDoorRows
import Derived.Test.YtndfcecbamffaaaGreatDoorTie
import Derived.Test.YtndfcecbamffaaaGreatDoorCards
import Derived.SevenTiedAt
import Derived.MakeChecks
import Derived.LaidMore
import Derived.Stop.Joined
import Derived.Test.YtndfcecbamffaaaGreatDoorW3
import Derived.Test.YtndfcecbamffaaaGreatDoorFwI
import Derived.Test.YtndfcecbamffaaaGreatDoorUV3x
import Derived.WalkKit
import Derived.ProofKit
import Derived.OpenShut
import Derived.ChangeOld
import Derived.Below
import Derived.Carry
namespace Go.Proofs.YtndfcecbamffaaaGreatDoor.fnExactLinearMovesCard
open List Option Go.IntKind Nat Or
open Go.ChangeShapes Go.WideShapes Go.ChangeAt Go.RowKit
open Go.cG Go.mY
set_option linter.unusedVariables false
theorem own:ownKnob Tryz.prog.godebug=none:=by kernel_rfl
theorem laidOut:laidOutB Tryz.prog=true:=by kernel_rfl
theorem YK (os:Os) (args:Array Value):laidMetH Tryz.prog Rows.fnExactLinearMovesRow.laid ((World.doorLaid Tryz.prog 400 os).forCall (λ_ _=>0) ⟨#[],args,[]⟩).memory:=
 laidMetH_of_parts3 (fuel:=8) (laidMet_of_run' 8 (by kernel_rfl) (by kernel_rfl)) (by kernel_rfl) (by kernel_rfl)
theorem A0 {H:Type} {enc:TypeId×Value->H} {w:World} {base:Nat} {sp:Nat->Bool} {held:Bool}:kN enc Tryz.prog w base sp held 2 (λx:Int=>.int .i64 x) (λx:Int=>(-9223372036854775808<=x/\x<=9223372036854775807)):=RQ Tryz.underlying2
theorem F2 {H:Type} {enc:TypeId×Value->H} {w:World} {base:Nat} {sp:Nat->Bool} {held:Bool}:kN enc Tryz.prog w base sp held 22 (λx:List Int=>.slice (x.map aC)) (λx:List Int=>(x.length<=9223372036854775807/\∀y∈x,(-9223372036854775808<=y/\y<=9223372036854775807))):=zp (sz:=1) (ec:=aC) Tryz.underlying22 (by kernel_rfl) (by decide) (λ_=>rfl) A0
theorem YL {H:Type} {enc:TypeId×Value->H} {w:World} {base:Nat} {sp:Nat->Bool} {held:Bool}:kN enc Tryz.prog w base sp held 120 hM (λx:gw=>rq x):=by
 intro fuel cs x ae;obtain⟨xs,n,_,_,hl,aO,bf⟩:=DataW.trod_struct Tryz.underlying120 ae;have gY:cs.length=2:=hl.trans (by kernel_rfl);obtain⟨hB,w0,aF⟩:=py A0 (bf 0 _ rfl) (by rw[getElem?_eq_getElem (by rw[aO];decide)];rfl);change al w (F0 w) (.int .i64 hB) ((cs.drop 0).take (Tryz.prog.cellsOf 2)) _ at aF;rw[show Tryz.prog.cellsOf 2=1 by kernel_rfl]at aF;obtain⟨fy,kf,cQ⟩:=py A0 (bf 1 _ rfl) (by rw[getElem?_eq_getElem (by rw[aO];decide)];rfl);change al w (F0 w) (.int .i64 fy) ((cs.drop 1).take (Tryz.prog.cellsOf 2)) _ at cQ;rw[show Tryz.prog.cellsOf 2=1 by kernel_rfl]at cQ;have key:=Dd [(.int .i64 hB,0,1),(.int .i64 fy,1,1)] 0 (by rw[gY];rfl) ⟨aF,cQ,trivial⟩;refine⟨⟨hB,fy⟩,⟨w0,kf⟩,?_⟩;show al w (F0 w) (.agg [.int .i64 hB,.int .i64 fy]) cs _;rw[al];exact key
theorem MF {H:Type} {enc:TypeId×Value->H} {w:World} {base:Nat} {sp:Nat->Bool} {held:Bool}:kN enc Tryz.prog w base sp held 58 (λx:List gw=>.slice (x.map hM)) (λx:List gw=>(x.length<=9223372036854775807/\∀y∈x,rq y)):=zp (sz:=2) (ec:=hM) Tryz.underlying58 (by kernel_rfl) (by decide) (λ_=>rfl) YL
theorem YM {H:Type} {enc:TypeId×Value->H} {w:World} {base:Nat} {sp:Nat->Bool} {held:Bool}:kN enc Tryz.prog w base sp held 9 (λx:List UInt8=>.str x) (λx:List UInt8=>x.length<=9223372036854775807):=RR Tryz.underlying9
theorem MG {H:Type} {enc:TypeId×Value->H} {w:World} {base:Nat} {sp:Nat->Bool} {held:Bool}:kN enc Tryz.prog w base sp held 59 (λx:List (acn)=>.slice (x.map ht)) (λx:List (acn)=>(x.length<=9223372036854775807/\∀y∈x,(y.length<=9223372036854775807/\∀z∈y,rq z))):=zp (sz:=1) (ec:=ht) Tryz.underlying59 (by kernel_rfl) (by decide) (λ_=>rfl) MF
theorem YN {H:Type} {enc:TypeId×Value->H} {w:World} {base:Nat} {sp:Nat->Bool} {held:Bool}:kN enc Tryz.prog w base sp held 61 hc (λx:iu=>xn x):=by
 intro fuel cs x ae;obtain⟨xs,n,_,_,hl,aO,bf⟩:=DataW.trod_struct Tryz.underlying61 ae;have gY:cs.length=5:=hl.trans (by kernel_rfl);obtain⟨hB,w0,aF⟩:=py F2 (bf 0 _ rfl) (by rw[getElem?_eq_getElem (by rw[aO];decide)];rfl);change al w (F0 w) (.slice (hB.map aC)) ((cs.drop 0).take (Tryz.prog.cellsOf 22)) _ at aF;rw[show Tryz.prog.cellsOf 22=1 by kernel_rfl]at aF;obtain⟨fy,kf,cQ⟩:=py MF (bf 1 _ rfl) (by rw[getElem?_eq_getElem (by rw[aO];decide)];rfl);change al w (F0 w) (.slice (fy.map hM)) ((cs.drop 1).take (Tryz.prog.cellsOf 58)) _ at cQ;rw[show Tryz.prog.cellsOf 58=1 by kernel_rfl]at cQ;obtain⟨hn,lP,bl⟩:=py YM (bf 2 _ rfl) (by rw[getElem?_eq_getElem (by rw[aO];decide)];rfl);change al w (F0 w) (.str hn) ((cs.drop 2).take (Tryz.prog.cellsOf 9)) _ at bl;rw[show Tryz.prog.cellsOf 9=1 by kernel_rfl]at bl;obtain⟨uS,mu,cA⟩:=py MG (bf 3 _ rfl) (by rw[getElem?_eq_getElem (by rw[aO];decide)];rfl);change al w (F0 w) (.slice (uS.map ht)) ((cs.drop 3).take (Tryz.prog.cellsOf 59)) _ at cA;rw[show Tryz.prog.cellsOf 59=1 by kernel_rfl]at cA;obtain⟨vE,F3,cc⟩:=py MG (bf 4 _ rfl) (by rw[getElem?_eq_getElem (by rw[aO];decide)];rfl);change al w (F0 w) (.slice (vE.map ht)) ((cs.drop 4).take (Tryz.prog.cellsOf 59)) _ at cc;rw[show Tryz.prog.cellsOf 59=1 by kernel_rfl]at cc;have key:=Dd [(.slice (hB.map aC),0,1),(.slice (fy.map hM),1,1),(.str hn,2,1),(.slice (uS.map ht),3,1),(.slice (vE.map ht),4,1)] 0 (by rw[gY];rfl) ⟨aF,cQ,bl,cA,cc,trivial⟩;refine⟨⟨hB,fy,hn,uS,vE⟩,⟨w0,kf,lP,mu,F3⟩,?_⟩;show al w (F0 w) (.agg [.slice (hB.map aC),.slice (fy.map hM),.str hn,.slice (uS.map ht),.slice (vE.map ht)]) cs _;rw[al];exact key
theorem YO {H:Type} {enc:TypeId×Value->H} {w:World} {base:Nat} {sp:Nat->Bool} {held:Bool}:kN enc Tryz.prog w base sp held 23 (λx:List iu=>.slice (x.map hc)) (λx:List iu=>(x.length<=9223372036854775807/\∀y∈x,xn y)):=zp (sz:=5) (ec:=hc) Tryz.underlying23 (by kernel_rfl) (by decide) (λ_=>rfl) YN
theorem YP {H:Type} {enc:TypeId×Value->H} {w:World} {base:Nat} {sp:Nat->Bool} {held:Bool}:kN enc Tryz.prog w base sp held 25 ku (λx:lS=>zJ x):=by
 intro fuel cs x ae;obtain⟨xs,n,_,_,hl,aO,bf⟩:=DataW.trod_struct Tryz.underlying25 ae;have gY:cs.length=3:=hl.trans (by kernel_rfl);obtain⟨hB,w0,aF⟩:=py A0 (bf 0 _ rfl) (by rw[getElem?_eq_getElem (by rw[aO];decide)];rfl);change al w (F0 w) (.int .i64 hB) ((cs.drop 0).take (Tryz.prog.cellsOf 2)) _ at aF;rw[show Tryz.prog.cellsOf 2=1 by kernel_rfl]at aF;obtain⟨fy,kf,cQ⟩:=py F2 (bf 1 _ rfl) (by rw[getElem?_eq_getElem (by rw[aO];decide)];rfl);change al w (F0 w) (.slice (fy.map aC)) ((cs.drop 1).take (Tryz.prog.cellsOf 22)) _ at cQ;rw[show Tryz.prog.cellsOf 22=1 by kernel_rfl]at cQ;obtain⟨hn,lP,bl⟩:=py YO (bf 2 _ rfl) (by rw[getElem?_eq_getElem (by rw[aO];decide)];rfl);change al w (F0 w) (.slice (hn.map hc)) ((cs.drop 2).take (Tryz.prog.cellsOf 23)) _ at bl;rw[show Tryz.prog.cellsOf 23=1 by kernel_rfl]at bl;have key:=Dd [(.int .i64 hB,0,1),(.slice (fy.map aC),1,1),(.slice (hn.map hc),2,1)] 0 (by rw[gY];rfl) ⟨aF,cQ,bl,trivial⟩;refine⟨⟨hB,fy,hn⟩,⟨w0,kf,lP⟩,?_⟩;show al w (F0 w) (.agg [.int .i64 hB,.slice (fy.map aC),.slice (hn.map hc)]) cs _;rw[al];exact key
theorem walk (w:World) (hB:lS) (zc:zJ hB) (v0:Value) (fy:acd) (ub:(fy.length<=9223372036854775807/\∀y∈fy,(-9223372036854775808<=y/\y<=9223372036854775807))) (v1:Value) (g0:Arg w (.agg [.int .i64 hB.dS,.slice (hB.Start.map aC),.slice (hB.cC.map hc)]) v0) (g1:Arg w (.slice (fy.map aC)) v1):
  Calls Tryz.prog 3 #[v0,v1] w λe au=>e= .returned (.bool true)/\RowKit.Below w.heap.size w au:=
 bb.law (C:=ay) (Yk hB fy true (YQ hB fy zc ub)) Tryz.func3 rfl rfl (.cons g0 (.cons g1 (.nil)))
set_option maxRecDepth 100000 in
theorem lifted (os:Os) (started:os.Started) (H:Type) (enc:TypeId×Value->H):
  ReturnsInHanded {} Tryz.checked os 3 .any (λw args=>(Rows.fnExactLinearMovesSpec.pre enc Tryz.prog Tryz.f3 Rows.fnExactLinearMovesRow.domain false w args/\laidMetH Tryz.prog Rows.fnExactLinearMovesRow.laid w)/\sizedMet enc Tryz.prog Tryz.f3 (OpenSpec.ofChange Rows.fnExactLinearMovesSpec) false w args) (Rows.fnExactLinearMovesSpec.post enc Tryz.prog Tryz.f3 false true false false):=by
 refine returnsInHanded_of_change_and (C:=Tryz.checked) (X:=λw _=>laidMetH Tryz.prog Rows.fnExactLinearMovesRow.laid w) (λ_ _ _ j5 h=>h.of_heap j5) own started (by kernel_rfl) Tryz.func3
  (ChangeSpec.witness_shaped (enc:=enc) (C:=Tryz.checked) (os:=os) (X:=λw _=>laidMetH Tryz.prog Rows.fnExactLinearMovesRow.laid w) false (World.doorLaid Tryz.prog 400 os) #[.agg #[.int .i64 0,.slice none 0 0,.slice none 0 0],.slice none 0 0] 8 rfl (World.shaped_of_RefB (by kernel_rfl) (by kernel_rfl)) (by kernel_rfl) (by kernel_rfl) (by kernel_rfl) (YK os _)) ?_
 intro W base args ds gs before MH zG _ _ nL _;have nO:∀(aB:Nat) t v,Tryz.f3.params[aB]? =some t->args[aB]? =some v->Value.okWide Tryz.prog W .any base t v:=MH;have YR:=zG;obtain⟨p,q,uc,n6,rfl,abP,q_⟩:=zG;have hW:DataW.TrodAll enc Tryz.prog W 0 (λ_=>true) true Tryz.f3.params.toList args.toList ds p:=uc;rw[Tryz.params3]at hW nO;obtain⟨v0,abQ,d0,abR,gL,yH,jR,rfl,rfl,bg,aF⟩:=trodAll_cons hW;obtain⟨v1,abS,d1,abT,e0,eR,rfl,rfl,rfl,R,cQ⟩:=trodAll_cons aF;obtain⟨rfl,rfl,rfl⟩:=trodAll_nil cQ;obtain rfl:args= #[v0,v1]:=by cases args;simp_all
 obtain⟨rfl,rfl⟩:=trodVars_none n6;have F4:∀x∈gL,x.block<W.heap.size:=by obtain⟨m,hm⟩:=bg;exact DataW.trod_lt m _ _ _ hm
 obtain⟨hB,g0,zc⟩:=RW (es:=λy:lS=>[.int .i64 y.dS,.slice (y.Start.map aC),.slice (y.cC.map hc)]) Tryz.underlying25 YP (nO 0 25 v0 rfl rfl) bg;have YS:∀x∈e0,x.block<W.heap.size:=by obtain⟨m,hm⟩:=R;exact DataW.trod_lt m _ _ _ hm
 obtain⟨fy,g1,ub⟩:=RV Tryz.underlying22 F2 (nO 1 22 v1 rfl rfl) R;clear uc MH;refine(walk W hB zc v0 fy ub v1 g0 g1).mono λe abU ⟨he,F5⟩=>?_;subst he;exact⟨_,rfl,_,_,_,[],_,[],YR,trodAll_mk1 (shut_bool Tryz.underlying4 _),(trodAll_cons_mk (Below.trod laidOut (by kernel_rfl) (of_decide_eq_true (by kernel_rfl)) bg F5 F4) (trodAll_cons_mk (Below.trod laidOut (by kernel_rfl) (of_decide_eq_true (by kernel_rfl)) R F5 YS) trodAll_mk0)),rfl,F5.frame _,λh=>by cases h⟩
def A1:List Char:=map Char.ofNat [104,97,114,110,101,115,115,32,102,48,100,56,56,50,48,49,97,97,56,49,98,102,53,49,49,53,97,49,50,102,57,52,100,55,49,54,51,57,102,52,54,51,100,54,55,53,100,102,57,101,48,97,99,54,51,49,100,55,102,49,54,48,97,51,56,101,98,52,48,55,50,50,32,99,117,116,32,97,116,32,108,111,111,112,46,101,120,97,109,112,108,101,47,103,48,49,48,55,53,47,108,97,119,115,46,70,110,69,120,97,99,116,76,105,110,101,97,114,77,111,118,101,115]
def yf:List Char:=map Char.ofNat [99,117,116]
theorem YT:Tryz.prog.initOrder=String.ofList A1:=by kernel_rfl
theorem A2:Tryz.prog.initOrder.toList=A1:=by rw[YT];exact String.toList_ofList
theorem MI:behindMainWord (wordsSigns A1)=yf::(behindMainWord (wordsSigns A1)).tail:=by kernel_rfl
theorem YU {P:Program} {L:List Char} {r:List (List Char)} (h:P.initOrder.toList=L) (hw:behindMainWord (wordsSigns L)=yf::r):P.make=some .cut:=by
 unfold Program.make;rw[h,hw];rfl
theorem YV {P:Program} {L:List Char} {r:List (List Char)} (h:P.initOrder.toList=L) (hw:behindMainWord (wordsSigns L)=yf::r) (R:P.laysLater=false) (U:P.bearsReflect=false) (aw:P.doorFits []=true):P.mayEnter=true:=by
 unfold Program.mayEnter;rw[h,hw];have e:stripLifts liftWords (yf::r)=([],yf::r):=rfl;simp only[e,R,U,aw];rfl
theorem YW:Tryz.prog.liftsFinal=false:=by unfold Program.liftsFinal Program.headLifts;rw[A2];kernel_rfl
theorem YX:Tryz.prog.mayEnter=true:=YV A2 MI (by kernel_rfl) (by kernel_rfl) (by kernel_rfl)
theorem YY:Tryz.prog.make=some .cut:=YU A2 MI
theorem YZ:joinedFacts Tryz.prog 3 Tryz.f3 Rows.fnExactLinearMovesSpec Rows.fnExactLinearMovesRow=true:=by
 unfold joinedFacts;rw[YW,YX,YY];kernel_rfl
theorem over:Rows.fnExactLinearMovesRow.holds Tryz.pinned (OpenSpec.ofChange Rows.fnExactLinearMovesSpec):=
 OpenClaim.holds_of_wide 3 Tryz.f3 rfl rfl rfl rfl rfl rfl rfl ⟨rfl,rfl,rfl,rfl,rfl⟩ rfl rfl rfl rfl rfl (by kernel_rfl) Tryz.func3 YZ
  (of_decide_eq_true (by kernel_rfl)) (by unfold Func.isWrapper;first|(rw[if_pos (by decide+kernel)];kernel_rfl)|(rw[if_neg (by decide+kernel)];exact⟨rfl,rfl⟩))
  (λos started H enc _=>lifted os started H enc)
theorem Y0:Tryz.prog.mainIs=some (Rows.fnExactLinearMovesCard.stood.harness.1,Rows.fnExactLinearMovesCard.stood.harness.2.toList):=by
 unfold Program.mainIs;rw[A2];kernel_rfl
theorem proved:Rows.FnExactLinearMovesCardSaid:=
 Claim7.holds_tied_plain_at .later [] Rows.fnExactLinearMovesCard.laidKinds true Rows.fnExactLinearMovesCard.stood.harness false
  over (λ_ h=>by cases h) (by kernel_rfl) (λ_ h=>by cases h) fnExactLinearMoves_row_tie rfl ⟨rfl,rfl⟩ Y0 rfl
  (λf fn bf DM=>by
   obtain rfl:f=3:=some.inj ((show Tryz.prog.funcNamed Rows.fnExactLinearMovesRow.func=some 3 by kernel_rfl).symm.trans bf)|>.symm;obtain rfl:fn=Tryz.f3:=(some.inj (Tryz.func3.symm.trans DM)).symm;exact⟨by kernel_rfl,λaB t aK=>by
    rw[Tryz.params3]at aK;have hm:t∈[25,22]:=by simpa using Array.mem_of_getElem? aK
    have l_:([25,22].all λu=> !Tryz.prog.wantsStandIn u)=true:=by kernel_rfl
    exact(show Tryz.prog.wantsStandIn t=false by simpa using List.all_eq_true.1 l_ t hm)⟩)
  (by kernel_rfl)
end Go.Proofs.YtndfcecbamffaaaGreatDoor.fnExactLinearMovesCard
