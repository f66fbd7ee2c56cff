/- Part of a proof that a law returns true for every input. No condition. -/
import Derived.Test.YtpddiknnnoomoaaRows
import Derived.Test.YtpddiknnnoomoaaW3
import Derived.Test.YtpddiknnnoomoaaFwI
import Derived.Test.YtpddiknnnoomoaaUSI
import Derived.WalkKit
import Derived.ProofKit
import Derived.OpenShut
import Derived.ChangeOld
import Derived.Below
import Derived.Carry
namespace Go.Proofs.Ytpddiknnnoomoaa.fnExactSalvageItems
open Go.ChangeShapes Go.WideShapes Go.ChangeAt Go.RowKit
open Go.bV Go.eF
set_option linter.unusedVariables false
theorem own:ownKnob Try.prog.godebug=none:=by kernel_rfl
theorem laidOut:laidOutB Try.prog=true:=by kernel_rfl
theorem walk (w:World) (p1:List UInt8) (vu:p1.length≤maxLen) (v0:Value) (dI:Arg w (.str p1) v0):
  Calls Try.prog 3 #[v0] w fun e aq=>e= .returned (.bool true)∧RowKit.Below w.heap.size w aq:=
 cb.law (C:=a1) (Ou p1 true (OE p1)) Try.func3 rfl rfl (.cons dI (.nil))
set_option maxRecDepth 100000 in
theorem lifted (os:Os) (started:os.Started) (H:Type) (enc:TypeId×Value→H):
  ReturnsInHanded {} Try.checked os 3 .any (Rows.fnExactSalvageItemsSpec.pre6 enc Try.prog Try.f3 Rows.fnExactSalvageItemsRow.domain false) (Rows.fnExactSalvageItemsSpec.post enc Try.prog Try.f3 false true false false):=by
 refine returnsInHanded_of_change (C:=Try.checked) own started (by kernel_rfl) Try.func3
  (ChangeSpec.witness6 (enc:=enc) (C:=Try.checked) false ⟨#[],#[.string ⟨#[]⟩],[]⟩ 8 (by kernel_rfl) (by kernel_rfl) (by kernel_rfl) (by kernel_rfl)) ?_
 intro W base args ds gs before Ca Cb Qy _
 have nM:∀(ad:Nat) t v,Try.f3.params[ad]? =some t→args[ad]? =some v→Value.okWide Try.prog W .any base t v:=Ca
 have OG:=Cb
 obtain⟨p,q,oA,jX,rfl,ry,oO⟩:=Cb
 have fF:DataW.TrodAll enc Try.prog W 0 (fun _=>true) true Try.f3.params.toList args.toList ds p:=oA
 rw[Try.params3]at fF nM
 obtain⟨v0,Qz,d0,QA,eT,r6,iN,rfl,rfl,bI,bC⟩:=trodAll_cons fF
 obtain⟨rfl,rfl,rfl⟩:=trodAll_nil bC
 obtain rfl:args= #[v0]:=by cases args;simp_all
 obtain⟨rfl,rfl⟩:=trodVars_none jX
 have xb:∀x∈eT,x.block<W.heap.size:=by obtain⟨m,hm⟩:=bI;exact DataW.trod_lt m _ _ _ hm
 obtain⟨p1,dI,vu⟩:=arg_str Try.underlying9 (nM 0 9 v0 rfl rfl) bI
 clear oA Ca
 refine(walk W p1 vu v0 dI).mono fun e QB ⟨he,Cc⟩=> ?_
 subst he
 exact⟨_,rfl,_,_,_,[],_,[],OG,trodAll_mk1 (shut_bool Try.underlying4 _),(trodAll_cons_mk (Below.trod laidOut (by kernel_rfl) (of_decide_eq_true (by kernel_rfl)) bI Cc xb) trodAll_mk0),rfl,Cc.frame _,fun h=>by cases h⟩
def tE:List Char:=List.map Char.ofNat [104,97,114,110,101,115,115,32,101,57,54,99,53,56,55,53,102,98,57,52,52,56,50,102,53,49,102,57,55,50,48,101,99,52,99,97,102,51,98,99,49,56,55,100,102,102,55,49,100,98,54,49,51,50,48,50,97,102,48,99,50,49,98,48,57,50,53,50,55,50,97,53,32,99,117,116,32,97,116,32,108,111,111,112,46,101,120,97,109,112,108,101,47,103,48,49,48,55,53,47,108,97,119,115,46,70,110,69,120,97,99,116,83,97,108,118,97,103,101,73,116,101,109,115,32,108,111,111,112,46,101,120,97,109,112,108,101,47,103,48,49,48,55,53,47,108,97,119,115,46,70,110,69,120,97,99,116,80,117,116,73,116,101,109,32,108,111,111,112,46,101,120,97,109,112,108,101,47,103,48,49,48,55,53,47,108,97,119,115,46,70,110,69,120,97,99,116,85,110,114,111,108,108,83,117,109,115,32,108,111,111,112,46,101,120,97,109,112,108,101,47,103,48,49,48,55,53,47,108,97,119,115,46,70,110,69,120,97,99,116,67,111,110,115,116,97,110,116,80,97,114,97,109,101,116,101,114,115]
def rT:List Char:=List.map Char.ofNat [99,117,116]
theorem OH:Try.prog.initOrder=String.ofList tE:=by kernel_rfl
theorem xc:Try.prog.initOrder.toList=tE:=by rw[OH];exact String.toList_ofList
theorem Cd:behindMainWord (wordsSigns tE)=rT::(behindMainWord (wordsSigns tE)).tail:=by kernel_rfl
theorem OI {P:Program} {L:List Char} {r:List (List Char)} (h:P.initOrder.toList=L) (hw:behindMainWord (wordsSigns L)=rT::r):P.make=some .cut:=by
 unfold Program.make;rw[h,hw];rfl
theorem OJ {P:Program} {L:List Char} {r:List (List Char)} (h:P.initOrder.toList=L) (hw:behindMainWord (wordsSigns L)=rT::r) (U:P.laysLater=false) (aa:P.bearsReflect=false) (aw:P.doorFits []=true):P.mayEnter=true:=by
 unfold Program.mayEnter;rw[h,hw]
 have e:stripLifts liftWords (rT::r)=([],rT::r):=rfl
 simp only[e,U,aa,aw]
 rfl
theorem OK:Try.prog.liftsFinal=false:=by unfold Program.liftsFinal Program.headLifts;rw[xc];kernel_rfl
theorem OL:Try.prog.mayEnter=true:=OJ xc Cd (by kernel_rfl) (by kernel_rfl) (by kernel_rfl)
theorem OM:Try.prog.make=some .cut:=OI xc Cd
theorem ON:joinedFacts Try.prog 3 Try.f3 Rows.fnExactSalvageItemsSpec Rows.fnExactSalvageItemsRow=true:=by
 unfold joinedFacts
 rw[OK,OL,OM]
 kernel_rfl
theorem over:Rows.fnExactSalvageItemsRow.holds Try.pinned (OpenSpec.ofChange Rows.fnExactSalvageItemsSpec):=
 OpenClaim.holds_of_wide 3 Try.f3 rfl rfl rfl rfl rfl rfl rfl ⟨rfl,rfl,rfl,rfl,rfl⟩ rfl rfl rfl rfl rfl (by kernel_rfl) Try.func3 ON
  (of_decide_eq_true (by kernel_rfl)) (by unfold Func.isWrapper;first|(rw[if_pos (by decide+kernel)];kernel_rfl)|(rw[if_neg (by decide+kernel)];exact⟨rfl,rfl⟩))
  (fun os started H enc _=>lifted os started H enc)
theorem proved:Rows.FnExactSalvageItemsSaid:=over
end Go.Proofs.Ytpddiknnnoomoaa.fnExactSalvageItems
