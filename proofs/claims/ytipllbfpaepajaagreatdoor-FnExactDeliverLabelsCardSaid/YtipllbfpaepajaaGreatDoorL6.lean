/- Part of a proof that a law returns true for every input. No condition. -/
import Derived.Test.YtipllbfpaepajaaGreatDoorRows
import Derived.Test.YtipllbfpaepajaaGreatDoorTie
import Derived.Test.YtipllbfpaepajaaGreatDoorCards
import Derived.SevenTiedAt
import Derived.MakeChecks
import Derived.LaidMore
import Derived.Stop.Joined
import Derived.Test.YtipllbfpaepajaaGreatDoorFwR
import Derived.Lay
import Derived.Test.YtipllbfpaepajaaGreatDoorW6
import Derived.Test.YtipllbfpaepajaaGreatDoorFwI
import Derived.Test.YtipllbfpaepajaaGreatDoorUH8
import Derived.WalkKit
import Derived.ProofKit
import Derived.OpenShut
import Derived.ChangeOld
import Derived.Below
import Derived.Carry
namespace Go.Proofs.YtipllbfpaepajaaGreatDoor.fnExactDeliverLabelsCard
open Go.ChangeShapes Go.WideShapes Go.ChangeAt Go.RowKit
open Go.ca Go.ff
set_option linter.unusedVariables false
theorem own:ownKnob Tryz.prog.godebug=none:=by kernel_rfl
theorem laidOut:laidOutB Tryz.prog=true:=by kernel_rfl
theorem ZK (os:Os) (args:Array Value):laidMetH Tryz.prog Rows.fnExactDeliverLabelsRow.laid ((World.laidAll Tryz.prog os Rows.fnExactDeliverLabelsRow.laid).forCall (fun _ _=>0) ⟨#[],args,[]⟩).memory:=by
 have h:=laidMet_laidAll (P:=Tryz.prog) (os:=os) (laid:=Rows.fnExactDeliverLabelsRow.laid) args (by kernel_rfl) (by kernel_rfl)
 unfold laidMetH
 rw[show(Rows.fnExactDeliverLabelsRow.laid.filter fun x=>x.2.handleName?.isSome)=[] by kernel_rfl]
 exact h
theorem ZL {H:Type} {enc:TypeId×Value→H} {w:World} {base:Nat} {sp:Nat→Bool} {held:Bool}:ng enc Tryz.prog w base sp held 9 (fun x:List UInt8=>.str x) (fun x:List UInt8=>x.length≤9223372036854775807):=LU Tryz.underlying9
theorem ZM {H:Type} {enc:TypeId×Value→H} {w:World} {base:Nat} {sp:Nat→Bool} {held:Bool}:ng enc Tryz.prog w base sp held 22 (fun x:List (List UInt8)=>.slice (x.map aL)) (fun x:List (List UInt8)=>(x.length≤9223372036854775807∧∀y∈x,y.length≤9223372036854775807)):=Eo (sz:=1) (ec:=aL) Tryz.underlying22 (by kernel_rfl) (by decide) (fun _=>rfl) ZL
theorem ZN {H:Type} {enc:TypeId×Value→H} {w:World} {base:Nat} {sp:Nat→Bool} {held:Bool}:ng enc Tryz.prog w base sp held 2 (fun x:Int=>.int .i64 x) (fun x:Int=>(-9223372036854775808≤x∧x≤9223372036854775807)):=LS Tryz.underlying2
theorem ZO {H:Type} {enc:TypeId×Value→H} {w:World} {base:Nat} {sp:Nat→Bool} {held:Bool}:ng enc Tryz.prog w base sp held 23 (fun x:List Int=>.slice (x.map a7)) (fun x:List Int=>(x.length≤9223372036854775807∧∀y∈x,(-9223372036854775808≤y∧y≤9223372036854775807))):=Eo (sz:=1) (ec:=a7) Tryz.underlying23 (by kernel_rfl) (by decide) (fun _=>rfl) ZN
theorem eT {W:World} (jA:laidMetH Tryz.prog Rows.fnExactDeliverLabelsRow.laid W):nH W fun _=>False:=fun p ak=>by
 rcases List.mem_cons.1 ak with rfl|ak
 ·exact ME (name:= "strconv.ErrSyntax") (x:=Rows.laid_strconv_ErrSyntax) (t:=236) jA (by kernel_rfl) (by kernel_rfl) Tryz.underlying236 ⟨_,_,rfl⟩ (by kernel_rfl)
 ·rcases List.mem_cons.1 ak with rfl|ak
  ·exact MG (name:= "internal/strconv.uint64pow10") (x:=Rows.laid_internal_strconv_uint64pow10) (t:=325) (e:=307) jA (by kernel_rfl) (by kernel_rfl) Tryz.underlying325 Tryz.underlying307 (by kernel_rfl) (by kernel_rfl) (by kernel_rfl) (by kernel_rfl)
  ·cases ak
theorem walk (w:World) (hg:nH w fun _=>False) (oX:List (List UInt8)) (vA:(oX.length≤9223372036854775807∧∀y∈oX,y.length≤9223372036854775807)) (v0:Value) (kW:List Int) (s8:(kW.length≤9223372036854775807∧∀y∈kW,(-9223372036854775808≤y∧y≤9223372036854775807))) (v1:Value) (g0:Arg w (.slice (oX.map aL)) v0) (g1:Arg w (.slice (kW.map a7)) v1):
  Calls Tryz.prog 6 #[v0,v1] w fun e aw=>e= .returned (.bool true)∧RowKit.Below w.heap.size w aw:=
 bq.law (C:=aP) (Zf oX kW true (ZP oX kW vA)) Tryz.func6 rfl rfl (.cons g0 (.cons g1 (.nil))) (hg:=hg)
set_option maxRecDepth 100000 in
theorem lifted (os:Os) (started:os.Started) (H:Type) (enc:TypeId×Value→H):
  ReturnsInHanded {} Tryz.checked os 6 .any (fun w args=>(Rows.fnExactDeliverLabelsSpec.pre enc Tryz.prog Tryz.f6 Rows.fnExactDeliverLabelsRow.domain false w args∧laidMetH Tryz.prog Rows.fnExactDeliverLabelsRow.laid w)∧sizedMet enc Tryz.prog Tryz.f6 (OpenSpec.ofChange Rows.fnExactDeliverLabelsSpec) false w args) (Rows.fnExactDeliverLabelsSpec.post enc Tryz.prog Tryz.f6 false true false false):=by
 refine returnsInHanded_of_change_and (C:=Tryz.checked) (X:=fun w _=>laidMetH Tryz.prog Rows.fnExactDeliverLabelsRow.laid w) (fun _ _ _ fu h=>h.of_heap fu) own started (by kernel_rfl) Tryz.func6
  (ChangeSpec.witness_shaped (enc:=enc) (C:=Tryz.checked) (os:=os) (X:=fun w _=>laidMetH Tryz.prog Rows.fnExactDeliverLabelsRow.laid w) false (World.laidAll Tryz.prog os Rows.fnExactDeliverLabelsRow.laid) #[.slice none 0 0,.slice none 0 0] 8 rfl (World.shaped_of_RefB (by kernel_rfl) (by kernel_rfl)) (by kernel_rfl) (by kernel_rfl) (by kernel_rfl) (ZK os _)) ?_
 intro W base args ds gs before GH GI _ _ jA _
 have oR:∀(j:Nat) t v,Tryz.f6.params[j]? =some t→args[j]? =some v→Value.okWide Tryz.prog W .any base t v:=GH
 have ZQ:=GI
 obtain⟨p,q,qZ,l5,rfl,acy,rb⟩:=GI
 have dS:DataW.TrodAll enc Tryz.prog W 0 (fun _=>true) true Tryz.f6.params.toList args.toList ds p:=qZ
 rw[Tryz.params6]at dS oR
 obtain⟨v0,acz,d0,acA,ft,da,ks,rfl,rfl,bm,aQ⟩:=trodAll_cons dS
 obtain⟨v1,acB,d1,acC,ee,e_,rfl,rfl,rfl,ab,eF⟩:=trodAll_cons aQ
 obtain⟨rfl,rfl,rfl⟩:=trodAll_nil eF
 obtain rfl:args= #[v0,v1]:=by cases args;simp_all
 obtain⟨rfl,rfl⟩:=trodVars_none l5
 have xt:∀x∈ft,x.block<W.heap.size:=by obtain⟨m,hm⟩:=bm;exact DataW.trod_lt m _ _ _ hm
 obtain⟨oX,g0,vA⟩:=Er Tryz.underlying22 ZM (oR 0 22 v0 rfl rfl) bm
 have ZR:∀x∈ee,x.block<W.heap.size:=by obtain⟨m,hm⟩:=ab;exact DataW.trod_lt m _ _ _ hm
 obtain⟨kW,g1,s8⟩:=Er Tryz.underlying23 ZO (oR 1 23 v1 rfl rfl) ab
 clear qZ GH
 refine(walk W (eT jA) oX vA v0 kW s8 v1 g0 g1).mono fun e acD ⟨he,AQ⟩=> ?_
 subst he
 exact⟨_,rfl,_,_,_,[],_,[],ZQ,trodAll_mk1 (shut_bool Tryz.underlying4 _),(trodAll_cons_mk (Below.trod laidOut (by kernel_rfl) (of_decide_eq_true (by kernel_rfl)) bm AQ xt) (trodAll_cons_mk (Below.trod laidOut (by kernel_rfl) (of_decide_eq_true (by kernel_rfl)) ab AQ ZR) trodAll_mk0)),rfl,AQ.frame _,fun h=>by cases h⟩
def xu:List Char:=List.map Char.ofNat [104,97,114,110,101,115,115,32,56,54,98,97,101,54,48,54,98,50,56,99,49,53,56,51,100,54,97,99,49,98,51,52,52,48,48,99,56,98,56,100,49,50,98,56,52,55,100,57,99,102,97,57,54,102,52,57,56,97,53,97,99,100,101,99,101,55,102,99,49,54,56,52,32,99,117,116,32,97,116,32,108,111,111,112,46,101,120,97,109,112,108,101,47,103,48,49,48,55,53,47,108,97,119,115,46,70,110,69,120,97,99,116,82,111,117,110,100,115,84,111,68,101,108,105,118,101,114,32,108,111,111,112,46,101,120,97,109,112,108,101,47,103,48,49,48,55,53,47,108,97,119,115,46,70,110,69,120,97,99,116,82,101,99,111,118,101,114,76,111,103,32,108,111,111,112,46,101,120,97,109,112,108,101,47,103,48,49,48,55,53,47,108,97,119,115,46,70,110,69,120,97,99,116,82,101,97,100,76,111,103,32,108,111,111,112,46,101,120,97,109,112,108,101,47,103,48,49,48,55,53,47,108,97,119,115,46,70,110,69,120,97,99,116,68,101,108,105,118,101,114,76,97,98,101,108,115,32,108,111,111,112,46,101,120,97,109,112,108,101,47,103,48,49,48,55,53,47,108,97,119,115,46,70,110,69,120,97,99,116,83,116,101,112,115,79,102,32,108,111,111,112,46,101,120,97,109,112,108,101,47,103,48,49,48,55,53,47,108,97,119,115,46,70,110,69,120,97,99,116,83,116,97,116,101,84,101,120,116]
def uO:List Char:=List.map Char.ofNat [99,117,116]
theorem ZS:Tryz.prog.initOrder=String.ofList xu:=by kernel_rfl
theorem xv:Tryz.prog.initOrder.toList=xu:=by rw[ZS];exact String.toList_ofList
theorem GJ:behindMainWord (wordsSigns xu)=uO::(behindMainWord (wordsSigns xu)).tail:=by kernel_rfl
theorem ZT {P:Program} {L:List Char} {r:List (List Char)} (h:P.initOrder.toList=L) (hw:behindMainWord (wordsSigns L)=uO::r):P.make=some .cut:=by
 unfold Program.make;rw[h,hw];rfl
theorem ZU {P:Program} {L:List Char} {r:List (List Char)} (h:P.initOrder.toList=L) (hw:behindMainWord (wordsSigns L)=uO::r) (ab:P.laysLater=false) (ad:P.bearsReflect=false) (aB:P.doorFits []=true):P.mayEnter=true:=by
 unfold Program.mayEnter;rw[h,hw]
 have e:stripLifts liftWords (uO::r)=([],uO::r):=rfl
 simp only[e,ab,ad,aB]
 rfl
theorem ZV:Tryz.prog.liftsFinal=false:=by unfold Program.liftsFinal Program.headLifts;rw[xv];kernel_rfl
theorem ZW:Tryz.prog.mayEnter=true:=ZU xv GJ (by kernel_rfl) (by kernel_rfl) (by kernel_rfl)
theorem ZX:Tryz.prog.make=some .cut:=ZT xv GJ
theorem ZY:joinedFacts Tryz.prog 6 Tryz.f6 Rows.fnExactDeliverLabelsSpec Rows.fnExactDeliverLabelsRow=true:=by
 unfold joinedFacts
 rw[ZV,ZW,ZX]
 kernel_rfl
theorem over:Rows.fnExactDeliverLabelsRow.holds Tryz.pinned (OpenSpec.ofChange Rows.fnExactDeliverLabelsSpec):=
 OpenClaim.holds_of_wide 6 Tryz.f6 rfl rfl rfl rfl rfl rfl rfl ⟨rfl,rfl,rfl,rfl,rfl⟩ rfl rfl rfl rfl rfl (by kernel_rfl) Tryz.func6 ZY
  (of_decide_eq_true (by kernel_rfl)) (by unfold Func.isWrapper;first|(rw[if_pos (by decide+kernel)];kernel_rfl)|(rw[if_neg (by decide+kernel)];exact⟨rfl,rfl⟩))
  (fun os started H enc _=>lifted os started H enc)
theorem ZZ:Tryz.prog.mainIs=some (Rows.fnExactDeliverLabelsCard.stood.harness.1,Rows.fnExactDeliverLabelsCard.stood.harness.2.toList):=by
 unfold Program.mainIs
 rw[xv]
 kernel_rfl
theorem proved:Rows.FnExactDeliverLabelsCardSaid:=
 Claim7.holds_tied_plain_at .later [] Rows.fnExactDeliverLabelsCard.laidKinds true Rows.fnExactDeliverLabelsCard.stood.harness true
  over (fun _ h=>by cases h) (by kernel_rfl) (fun _ h=>by cases h) fnExactDeliverLabels_row_tie rfl ⟨rfl,rfl⟩ ZZ rfl
  (fun f fn bk Z0=>by
   obtain rfl:f=6:=Option.some.inj ((show Tryz.prog.funcNamed Rows.fnExactDeliverLabelsRow.func=some 6 by kernel_rfl).symm.trans bk)|>.symm
   obtain rfl:fn=Tryz.f6:=(Option.some.inj (Tryz.func6.symm.trans Z0)).symm
   exact⟨by kernel_rfl,fun j t aO=>by
    rw[Tryz.params6]at aO
    have hm:t∈[22,23]:=by simpa using Array.mem_of_getElem? aO
    have h5:([22,23].all fun u=> !Tryz.prog.wantsStandIn u)=true:=by kernel_rfl
    exact(show Tryz.prog.wantsStandIn t=false by simpa using List.all_eq_true.1 h5 t hm)⟩)
  (by kernel_rfl)
end Go.Proofs.YtipllbfpaepajaaGreatDoor.fnExactDeliverLabelsCard
