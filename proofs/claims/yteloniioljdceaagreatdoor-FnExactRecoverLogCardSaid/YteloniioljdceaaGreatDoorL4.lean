/- Part of a proof that a law returns true for every input. No condition. -/
import Derived.Test.YteloniioljdceaaGreatDoorRows
import Derived.Test.YteloniioljdceaaGreatDoorTie
import Derived.Test.YteloniioljdceaaGreatDoorCards
import Derived.SevenTiedAt
import Derived.MakeChecks
import Derived.LaidMore
import Derived.Stop.Joined
import Derived.Test.YteloniioljdceaaGreatDoorFwR
import Derived.Lay
import Derived.Test.YteloniioljdceaaGreatDoorW4
import Derived.Test.YteloniioljdceaaGreatDoorFwI
import Derived.Test.YteloniioljdceaaGreatDoorUV2x
import Derived.WalkKit
import Derived.ProofKit
import Derived.OpenShut
import Derived.ChangeOld
import Derived.Below
import Derived.Carry
namespace Go.Proofs.YteloniioljdceaaGreatDoor.fnExactRecoverLogCard
open List Option Go.IntKind Nat Or
open Go.ChangeShapes Go.WideShapes Go.ChangeAt Go.RowKit
open Go.ca Go.lh
set_option linter.unusedVariables false
theorem own:ownKnob Tryz.prog.godebug=none:=by kernel_rfl
theorem laidOut:laidOutB Tryz.prog=true:=by kernel_rfl
theorem Po (os:Os) (args:Array Value):laidMetH Tryz.prog Rows.fnExactRecoverLogRow.laid ((World.laidAll Tryz.prog os Rows.fnExactRecoverLogRow.laid).forCall (λ_ _=>0) ⟨#[],args,[]⟩).memory:=by
 have h:=laidMet_laidAll (P:=Tryz.prog) (os:=os) (laid:=Rows.fnExactRecoverLogRow.laid) args (by kernel_rfl) (by kernel_rfl);unfold laidMetH;rw[show(Rows.fnExactRecoverLogRow.laid.filter λx=>x.2.handleName?.isSome)=[] by kernel_rfl];exact h
theorem ef {W:World} (jo:laidMetH Tryz.prog Rows.fnExactRecoverLogRow.laid W):gz W λ_=>False:=λp af=>by
 rcases mem_cons.1 af with rfl|af
 .exact Lf (name:= "strconv.ErrSyntax") (x:=Rows.laid_strconv_ErrSyntax) (t:=171) jo (by kernel_rfl) (by kernel_rfl) Tryz.underlying171 ⟨_,_,rfl⟩ (by kernel_rfl)
 .rcases mem_cons.1 af with rfl|af
  .exact Lh (name:= "internal/strconv.uint64pow10") (x:=Rows.laid_internal_strconv_uint64pow10) (t:=207) (e:=191) jo (by kernel_rfl) (by kernel_rfl) Tryz.underlying207 Tryz.underlying191 (by kernel_rfl) (by kernel_rfl) (by kernel_rfl) (by kernel_rfl)
  .cases af
theorem walk (w:World) (hg:gz w λ_=>False) (qZ:RD) (xC:qZ.length<=maxLen) (v0:Value) (g0:Arg w (.str qZ) v0):
  Calls Tryz.prog 4 #[v0] w λe an=>e= .returned (.bool true)/\RowKit.Below w.heap.size w an:=
 bf.law (C:=aF) (Pj qZ true (Pp qZ)) Tryz.func4 rfl rfl (.cons g0 (.nil)) (hg:=hg)
set_option maxRecDepth 100000 in
theorem lifted (os:Os) (started:os.Started) (H:Type) (enc:TypeId×Value->H):
  ReturnsInHanded {} Tryz.checked os 4 .any (λw args=>(Rows.fnExactRecoverLogSpec.pre enc Tryz.prog Tryz.f4 Rows.fnExactRecoverLogRow.domain false w args/\laidMetH Tryz.prog Rows.fnExactRecoverLogRow.laid w)/\sizedMet enc Tryz.prog Tryz.f4 (OpenSpec.ofChange Rows.fnExactRecoverLogSpec) false w args) (Rows.fnExactRecoverLogSpec.post enc Tryz.prog Tryz.f4 false true false false):=by
 refine returnsInHanded_of_change_and (C:=Tryz.checked) (X:=λw _=>laidMetH Tryz.prog Rows.fnExactRecoverLogRow.laid w) (λ_ _ _ gm h=>h.of_heap gm) own started (by kernel_rfl) Tryz.func4
  (ChangeSpec.witness_shaped (enc:=enc) (C:=Tryz.checked) (os:=os) (X:=λw _=>laidMetH Tryz.prog Rows.fnExactRecoverLogRow.laid w) false (World.laidAll Tryz.prog os Rows.fnExactRecoverLogRow.laid) #[.string ⟨#[]⟩] 8 rfl (World.shaped_of_RefB (by kernel_rfl) (by kernel_rfl)) (by kernel_rfl) (by kernel_rfl) (by kernel_rfl) (Po os _)) ?_
 intro W base args ds gs before E_ vk _ _ jo _;have oV:∀(j:Nat) t v,Tryz.f4.params[j]? =some t->args[j]? =some v->Value.okWide Tryz.prog W .any base t v:=E_;have Pq:=vk;obtain⟨p,q,pX,kT,rfl,Rv,p9⟩:=vk;have fH:DataW.TrodAll enc Tryz.prog W 0 (λ_=>true) true Tryz.f4.params.toList args.toList ds p:=pX;rw[Tryz.params4]at fH oV;obtain⟨v0,Rw,d0,Rx,eR,cv,kl,rfl,rfl,bj,aO⟩:=trodAll_cons fH;obtain⟨rfl,rfl,rfl⟩:=trodAll_nil aO;obtain rfl:args= #[v0]:=by cases args;simp_all
 obtain⟨rfl,rfl⟩:=trodVars_none kT;have vK:∀x∈eR,x.block<W.heap.size:=by obtain⟨m,hm⟩:=bj;exact DataW.trod_lt m _ _ _ hm
 obtain⟨qZ,g0,xC⟩:=arg_str Tryz.underlying9 (oV 0 9 v0 rfl rfl) bj;clear pX E_;refine(walk W (ef jo) qZ xC v0 g0).mono λe da ⟨he,Fa⟩=>?_;subst he;exact⟨_,rfl,_,_,_,[],_,[],Pq,trodAll_mk1 (shut_bool Tryz.underlying4 _),(trodAll_cons_mk (Below.trod laidOut (by kernel_rfl) (of_decide_eq_true (by kernel_rfl)) bj Fa vK) trodAll_mk0),rfl,Fa.frame _,λh=>by cases h⟩
def vL:List Char:=map Char.ofNat [104,97,114,110,101,115,115,32,57,98,48,100,51,48,48,51,102,56,53,55,55,52,48,54,54,102,56,53,99,57,49,56,53,101,98,49,97,52,57,50,97,99,57,53,54,50,102,102,48,51,100,97,49,50,55,49,100,54,54,48,53,101,52,52,51,54,101,54,99,48,54,51,32,99,117,116,32,97,116,32,108,111,111,112,46,101,120,97,109,112,108,101,47,103,48,49,48,55,53,47,108,97,119,115,46,70,110,69,120,97,99,116,76,105,110,101,97,114,77,111,118,101,115,32,108,111,111,112,46,101,120,97,109,112,108,101,47,103,48,49,48,55,53,47,108,97,119,115,46,70,110,69,120,97,99,116,82,101,99,111,118,101,114,76,111,103,32,108,111,111,112,46,101,120,97,109,112,108,101,47,103,48,49,48,55,53,47,108,97,119,115,46,70,110,69,120,97,99,116,82,101,97,100,76,111,103]
def tf:List Char:=map Char.ofNat [99,117,116]
theorem Pr:Tryz.prog.initOrder=String.ofList vL:=by kernel_rfl
theorem vM:Tryz.prog.initOrder.toList=vL:=by rw[Pr];exact String.toList_ofList
theorem Fb:behindMainWord (wordsSigns vL)=tf::(behindMainWord (wordsSigns vL)).tail:=by kernel_rfl
theorem Ps {P:Program} {L:List Char} {r:List (List Char)} (h:P.initOrder.toList=L) (hw:behindMainWord (wordsSigns L)=tf::r):P.make=some .cut:=by
 unfold Program.make;rw[h,hw];rfl
theorem Pt {P:Program} {L:List Char} {r:List (List Char)} (h:P.initOrder.toList=L) (hw:behindMainWord (wordsSigns L)=tf::r) (U:P.laysLater=false) (ab:P.bearsReflect=false) (ay:P.doorFits []=true):P.mayEnter=true:=by
 unfold Program.mayEnter;rw[h,hw];have e:stripLifts liftWords (tf::r)=([],tf::r):=rfl;simp only[e,U,ab,ay];rfl
theorem Pu:Tryz.prog.liftsFinal=false:=by unfold Program.liftsFinal Program.headLifts;rw[vM];kernel_rfl
theorem Pv:Tryz.prog.mayEnter=true:=Pt vM Fb (by kernel_rfl) (by kernel_rfl) (by kernel_rfl)
theorem Pw:Tryz.prog.make=some .cut:=Ps vM Fb
theorem Px:joinedFacts Tryz.prog 4 Tryz.f4 Rows.fnExactRecoverLogSpec Rows.fnExactRecoverLogRow=true:=by
 unfold joinedFacts;rw[Pu,Pv,Pw];kernel_rfl
theorem over:Rows.fnExactRecoverLogRow.holds Tryz.pinned (OpenSpec.ofChange Rows.fnExactRecoverLogSpec):=
 OpenClaim.holds_of_wide 4 Tryz.f4 rfl rfl rfl rfl rfl rfl rfl ⟨rfl,rfl,rfl,rfl,rfl⟩ rfl rfl rfl rfl rfl (by kernel_rfl) Tryz.func4 Px
  (of_decide_eq_true (by kernel_rfl)) (by unfold Func.isWrapper;first|(rw[if_pos (by decide+kernel)];kernel_rfl)|(rw[if_neg (by decide+kernel)];exact⟨rfl,rfl⟩))
  (λos started H enc _=>lifted os started H enc)
theorem Py:Tryz.prog.mainIs=some (Rows.fnExactRecoverLogCard.stood.harness.1,Rows.fnExactRecoverLogCard.stood.harness.2.toList):=by
 unfold Program.mainIs;rw[vM];kernel_rfl
theorem proved:Rows.FnExactRecoverLogCardSaid:=
 Claim7.holds_tied_plain_at .later [] Rows.fnExactRecoverLogCard.laidKinds true Rows.fnExactRecoverLogCard.stood.harness true
  over (λ_ h=>by cases h) (by kernel_rfl) (λ_ h=>by cases h) fnExactRecoverLog_row_tie rfl ⟨rfl,rfl⟩ Py rfl
  (λf fn bq yn=>by
   obtain rfl:f=4:=some.inj ((show Tryz.prog.funcNamed Rows.fnExactRecoverLogRow.func=some 4 by kernel_rfl).symm.trans bq)|>.symm;obtain rfl:fn=Tryz.f4:=(some.inj (Tryz.func4.symm.trans yn)).symm;exact⟨by kernel_rfl,λj t aI=>by
    rw[Tryz.params4]at aI;have hm:t∈[9]:=by simpa using Array.mem_of_getElem? aI
    have fk:([9].all λu=> !Tryz.prog.wantsStandIn u)=true:=by kernel_rfl
    exact(show Tryz.prog.wantsStandIn t=false by simpa using List.all_eq_true.1 fk t hm)⟩)
  (by kernel_rfl)
end Go.Proofs.YteloniioljdceaaGreatDoor.fnExactRecoverLogCard
