/- Part of a proof that a law returns true for every input. No condition. -/
import Derived.Test.YtpddiknnnoomoaaRows
import Derived.Test.YtpddiknnnoomoaaW4
import Derived.Test.YtpddiknnnoomoaaFwI
import Derived.Test.YtpddiknnnoomoaaUPI
import Derived.WalkKit
import Derived.ProofKit
import Derived.OpenShut
import Derived.ChangeOld
import Derived.Below
import Derived.Carry
namespace Go.Proofs.Ytpddiknnnoomoaa.fnExactPutItem
open Go.ChangeShapes Go.WideShapes Go.ChangeAt Go.RowKit
open Go.bZ Go.fm
set_option linter.unusedVariables false
theorem own:ownKnob Try.prog.godebug=none:=by kernel_rfl
theorem laidOut:laidOutB Try.prog=true:=by kernel_rfl
theorem C2 {H:Type} {enc:TypeId×Value→H} {w:World} {base:Nat} {sp:Nat→Bool} {held:Bool}:mJ enc Try.prog w base sp held 9 (fun x:List UInt8=>.str x) (fun x:List UInt8=>x.length≤9223372036854775807):=HS Try.underlying9
theorem C3 {H:Type} {enc:TypeId×Value→H} {w:World} {base:Nat} {sp:Nat→Bool} {held:Bool}:mJ enc Try.prog w base sp held 30 dz (fun x:eA=>nO x):=by
 intro fuel cs x ao
 obtain⟨xs,n,_,_,hl,aR,bc⟩:=DataW.trod_struct Try.underlying30 ao
 have eQ:cs.length=2:=hl.trans (by kernel_rfl)
 obtain⟨jQ,w0,bl⟩:=Bk C2 (bc 0 _ rfl) (by rw[List.getElem?_eq_getElem (by rw[aR];decide)];rfl)
 change ai w (F0 w) (.str jQ) ((cs.drop 0).take (Try.prog.cellsOf 9)) _ at bl
 rw[show Try.prog.cellsOf 9=1 by kernel_rfl]at bl
 obtain⟨hy,oO,dw⟩:=Bk C2 (bc 1 _ rfl) (by rw[List.getElem?_eq_getElem (by rw[aR];decide)];rfl)
 change ai w (F0 w) (.str hy) ((cs.drop 1).take (Try.prog.cellsOf 9)) _ at dw
 rw[show Try.prog.cellsOf 9=1 by kernel_rfl]at dw
 have key:=HX [(.str jQ,0,1),(.str hy,1,1)] 0 (by rw[eQ];rfl) ⟨bl,dw,trivial⟩
 refine⟨⟨jQ,hy⟩,⟨w0,oO⟩,?_⟩
 show ai w (F0 w) (.agg [.str jQ,.str hy]) cs _
 rw[ai]
 exact key
theorem QA {H:Type} {enc:TypeId×Value→H} {w:World} {base:Nat} {sp:Nat→Bool} {held:Bool}:mJ enc Try.prog w base sp held 28 (fun x:List eA=>.slice (x.map dz)) (fun x:List eA=>(x.length≤9223372036854775807∧∀y∈x,nO y)):=HV (sz:=2) (ec:=dz) Try.underlying28 (by kernel_rfl) (by decide) (fun _=>rfl) C3
theorem walk (w:World) (jQ:List eA) (pJ:(jQ.length≤9223372036854775807∧∀y∈jQ,nO y)) (v0:Value) (hy:eA) (nm:nO hy) (v1:Value) (dL:Arg w (.slice (jQ.map dz)) v0) (aE:Arg w (.agg [.str hy.Name,.str hy.ck]) v1):
  Calls Try.prog 4 #[v0,v1] w fun e aq=>e= .returned (.bool true)∧RowKit.Below w.heap.size w aq:=
 b8.law (C:=aZ) (Qe jQ hy true (QB jQ hy pJ nm)) Try.func4 rfl rfl (.cons dL (.cons aE (.nil)))
set_option maxRecDepth 100000 in
theorem lifted (os:Os) (started:os.Started) (H:Type) (enc:TypeId×Value→H):
  ReturnsInHanded {} Try.checked os 4 .any (Rows.fnExactPutItemSpec.pre6 enc Try.prog Try.f4 Rows.fnExactPutItemRow.domain false) (Rows.fnExactPutItemSpec.post enc Try.prog Try.f4 false true false false):=by
 refine returnsInHanded_of_change (C:=Try.checked) own started (by kernel_rfl) Try.func4
  (ChangeSpec.witness6 (enc:=enc) (C:=Try.checked) false ⟨#[],#[.slice none 0 0,.agg #[.string ⟨#[]⟩,.string ⟨#[]⟩]],[]⟩ 8 (by kernel_rfl) (by kernel_rfl) (by kernel_rfl) (by kernel_rfl)) ?_
 intro W base args ds gs before C4 uA SJ _
 have lR:∀(ad:Nat) t v,Try.f4.params[ad]? =some t→args[ad]? =some v→Value.okWide Try.prog W .any base t v:=C4
 have QC:=uA
 obtain⟨p,q,pA,kD,rfl,ss,pP⟩:=uA
 have fR:DataW.TrodAll enc Try.prog W 0 (fun _=>true) true Try.f4.params.toList args.toList ds p:=pA
 rw[Try.params4]at fR lR
 obtain⟨v0,SK,d0,SL,e1,sU,jo,rfl,rfl,bu,bl⟩:=trodAll_cons fR
 obtain⟨v1,SM,d1,SN,dD,fe,rfl,rfl,rfl,U,dw⟩:=trodAll_cons bl
 obtain⟨rfl,rfl,rfl⟩:=trodAll_nil dw
 obtain rfl:args= #[v0,v1]:=by cases args;simp_all
 obtain⟨rfl,rfl⟩:=trodVars_none kD
 have xT:∀x∈e1,x.block<W.heap.size:=by obtain⟨m,hm⟩:=bu;exact DataW.trod_lt m _ _ _ hm
 obtain⟨jQ,dL,pJ⟩:=HY Try.underlying28 QA (lR 0 28 v0 rfl rfl) bu
 have QD:∀x∈dD,x.block<W.heap.size:=by obtain⟨m,hm⟩:=U;exact DataW.trod_lt m _ _ _ hm
 obtain⟨hy,aE,nm⟩:=HZ (es:=fun y:eA=>[.str y.Name,.str y.ck]) Try.underlying30 C3 (lR 1 30 v1 rfl rfl) U
 clear pA C4
 refine(walk W jQ pJ v0 hy nm v1 dL aE).mono fun e SO ⟨he,xU⟩=> ?_
 subst he
 exact⟨_,rfl,_,_,_,[],_,[],QC,trodAll_mk1 (shut_bool Try.underlying4 _),(trodAll_cons_mk (Below.trod laidOut (by kernel_rfl) (of_decide_eq_true (by kernel_rfl)) bu xU xT) (trodAll_cons_mk (Below.trod laidOut (by kernel_rfl) (of_decide_eq_true (by kernel_rfl)) U xU QD) trodAll_mk0)),rfl,xU.frame _,fun h=>by cases h⟩
def uB:List Char:=List.map Char.ofNat [104,97,114,110,101,115,115,32,101,57,54,99,53,56,55,53,102,98,57,52,52,56,50,102,53,49,102,57,55,50,48,101,99,52,99,97,102,51,98,99,49,56,55,100,102,102,55,49,100,98,54,49,51,50,48,50,97,102,48,99,50,49,98,48,57,50,53,50,55,50,97,53,32,99,117,116,32,97,116,32,108,111,111,112,46,101,120,97,109,112,108,101,47,103,48,49,48,55,53,47,108,97,119,115,46,70,110,69,120,97,99,116,83,97,108,118,97,103,101,73,116,101,109,115,32,108,111,111,112,46,101,120,97,109,112,108,101,47,103,48,49,48,55,53,47,108,97,119,115,46,70,110,69,120,97,99,116,80,117,116,73,116,101,109,32,108,111,111,112,46,101,120,97,109,112,108,101,47,103,48,49,48,55,53,47,108,97,119,115,46,70,110,69,120,97,99,116,85,110,114,111,108,108,83,117,109,115,32,108,111,111,112,46,101,120,97,109,112,108,101,47,103,48,49,48,55,53,47,108,97,119,115,46,70,110,69,120,97,99,116,67,111,110,115,116,97,110,116,80,97,114,97,109,101,116,101,114,115]
def sF:List Char:=List.map Char.ofNat [99,117,116]
theorem QE:Try.prog.initOrder=String.ofList uB:=by kernel_rfl
theorem xV:Try.prog.initOrder.toList=uB:=by rw[QE];exact String.toList_ofList
theorem C5:behindMainWord (wordsSigns uB)=sF::(behindMainWord (wordsSigns uB)).tail:=by kernel_rfl
theorem QF {P:Program} {L:List Char} {r:List (List Char)} (h:P.initOrder.toList=L) (hw:behindMainWord (wordsSigns L)=sF::r):P.make=some .cut:=by
 unfold Program.make;rw[h,hw];rfl
theorem QG {P:Program} {L:List Char} {r:List (List Char)} (h:P.initOrder.toList=L) (hw:behindMainWord (wordsSigns L)=sF::r) (U:P.laysLater=false) (aa:P.bearsReflect=false) (aw:P.doorFits []=true):P.mayEnter=true:=by
 unfold Program.mayEnter;rw[h,hw]
 have e:stripLifts liftWords (sF::r)=([],sF::r):=rfl
 simp only[e,U,aa,aw]
 rfl
theorem QH:Try.prog.liftsFinal=false:=by unfold Program.liftsFinal Program.headLifts;rw[xV];kernel_rfl
theorem QI:Try.prog.mayEnter=true:=QG xV C5 (by kernel_rfl) (by kernel_rfl) (by kernel_rfl)
theorem QJ:Try.prog.make=some .cut:=QF xV C5
theorem QK:joinedFacts Try.prog 4 Try.f4 Rows.fnExactPutItemSpec Rows.fnExactPutItemRow=true:=by
 unfold joinedFacts
 rw[QH,QI,QJ]
 kernel_rfl
theorem over:Rows.fnExactPutItemRow.holds Try.pinned (OpenSpec.ofChange Rows.fnExactPutItemSpec):=
 OpenClaim.holds_of_wide 4 Try.f4 rfl rfl rfl rfl rfl rfl rfl ⟨rfl,rfl,rfl,rfl,rfl⟩ rfl rfl rfl rfl rfl (by kernel_rfl) Try.func4 QK
  (of_decide_eq_true (by kernel_rfl)) (by unfold Func.isWrapper;first|(rw[if_pos (by decide+kernel)];kernel_rfl)|(rw[if_neg (by decide+kernel)];exact⟨rfl,rfl⟩))
  (fun os started H enc _=>lifted os started H enc)
theorem proved:Rows.FnExactPutItemSaid:=over
end Go.Proofs.Ytpddiknnnoomoaa.fnExactPutItem
