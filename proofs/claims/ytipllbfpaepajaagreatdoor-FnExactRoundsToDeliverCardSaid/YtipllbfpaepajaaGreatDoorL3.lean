/- Part of a proof that a law returns true for every input. No condition. -/
import Derived.Test.YtipllbfpaepajaaGreatDoorRows
import Derived.Test.YtipllbfpaepajaaGreatDoorTie
import Derived.Test.YtipllbfpaepajaaGreatDoorCards
import Derived.SevenTiedAt
import Derived.MakeChecks
import Derived.LaidMore
import Derived.Stop.Joined
import Derived.Test.YtipllbfpaepajaaGreatDoorFwR
import Derived.Lay
import Derived.Test.YtipllbfpaepajaaGreatDoorW3
import Derived.Test.YtipllbfpaepajaaGreatDoorFwI
import Derived.Test.YtipllbfpaepajaaGreatDoorUH7
import Derived.WalkKit
import Derived.ProofKit
import Derived.OpenShut
import Derived.ChangeOld
import Derived.Below
import Derived.Carry
namespace Go.Proofs.YtipllbfpaepajaaGreatDoor.fnExactRoundsToDeliverCard
open Go.ChangeShapes Go.WideShapes Go.ChangeAt Go.RowKit
open Go.b9 Go.e3
set_option linter.unusedVariables false
theorem own:ownKnob Tryz.prog.godebug=none:=by kernel_rfl
theorem laidOut:laidOutB Tryz.prog=true:=by kernel_rfl
theorem Xg (os:Os) (args:Array Value):laidMetH Tryz.prog Rows.fnExactRoundsToDeliverRow.laid ((World.laidAll Tryz.prog os Rows.fnExactRoundsToDeliverRow.laid).forCall (fun _ _=>0) ⟨#[],args,[]⟩).memory:=by
 have h:=laidMet_laidAll (P:=Tryz.prog) (os:=os) (laid:=Rows.fnExactRoundsToDeliverRow.laid) args (by kernel_rfl) (by kernel_rfl)
 unfold laidMetH
 rw[show(Rows.fnExactRoundsToDeliverRow.laid.filter fun x=>x.2.handleName?.isSome)=[] by kernel_rfl]
 exact h
theorem Xh {H:Type} {enc:TypeId×Value→H} {w:World} {base:Nat} {sp:Nat→Bool} {held:Bool}:my enc Tryz.prog w base sp held 9 (fun x:List UInt8=>.str x) (fun x:List UInt8=>x.length≤9223372036854775807):=KO Tryz.underlying9
theorem Xi {H:Type} {enc:TypeId×Value→H} {w:World} {base:Nat} {sp:Nat→Bool} {held:Bool}:my enc Tryz.prog w base sp held 22 (fun x:List (List UInt8)=>.slice (x.map bg)) (fun x:List (List UInt8)=>(x.length≤9223372036854775807∧∀y∈x,y.length≤9223372036854775807)):=DC (sz:=1) (ec:=bg) Tryz.underlying22 (by kernel_rfl) (by decide) (fun _=>rfl) Xh
theorem Xj {H:Type} {enc:TypeId×Value→H} {w:World} {base:Nat} {sp:Nat→Bool} {held:Bool}:my enc Tryz.prog w base sp held 2 (fun x:Int=>.int .i64 x) (fun x:Int=>(-9223372036854775808≤x∧x≤9223372036854775807)):=KN Tryz.underlying2
theorem Xk {H:Type} {enc:TypeId×Value→H} {w:World} {base:Nat} {sp:Nat→Bool} {held:Bool}:my enc Tryz.prog w base sp held 23 (fun x:List Int=>.slice (x.map ba)) (fun x:List Int=>(x.length≤9223372036854775807∧∀y∈x,(-9223372036854775808≤y∧y≤9223372036854775807))):=DC (sz:=1) (ec:=ba) Tryz.underlying23 (by kernel_rfl) (by decide) (fun _=>rfl) Xj
theorem eN {W:World} (i7:laidMetH Tryz.prog Rows.fnExactRoundsToDeliverRow.laid W):mZ W fun _=>False:=fun p ak=>by
 rcases List.mem_cons.1 ak with rfl|ak
 ·exact Ly (name:= "strconv.ErrSyntax") (x:=Rows.laid_strconv_ErrSyntax) (t:=236) i7 (by kernel_rfl) (by kernel_rfl) Tryz.underlying236 ⟨_,_,rfl⟩ (by kernel_rfl)
 ·rcases List.mem_cons.1 ak with rfl|ak
  ·exact LA (name:= "internal/strconv.uint64pow10") (x:=Rows.laid_internal_strconv_uint64pow10) (t:=325) (e:=307) i7 (by kernel_rfl) (by kernel_rfl) Tryz.underlying325 Tryz.underlying307 (by kernel_rfl) (by kernel_rfl) (by kernel_rfl) (by kernel_rfl)
  ·cases ak
theorem walk (w:World) (hg:mZ w fun _=>False) (ow:List (List UInt8)) (uX:(ow.length≤9223372036854775807∧∀y∈ow,y.length≤9223372036854775807)) (v0:Value) (kq:List Int) (sD:(kq.length≤9223372036854775807∧∀y∈kq,(-9223372036854775808≤y∧y≤9223372036854775807))) (v1:Value) (g0:Arg w (.slice (ow.map bg)) v0) (g1:Arg w (.slice (kq.map ba)) v1):
  Calls Tryz.prog 3 #[v0,v1] w fun e aw=>e= .returned (.bool true)∧RowKit.Below w.heap.size w aw:=
 br.law (C:=aS) (Xb ow kq true (Xl ow kq uX)) Tryz.func3 rfl rfl (.cons g0 (.cons g1 (.nil))) (hg:=hg)
set_option maxRecDepth 100000 in
theorem lifted (os:Os) (started:os.Started) (H:Type) (enc:TypeId×Value→H):
  ReturnsInHanded {} Tryz.checked os 3 .any (fun w args=>(Rows.fnExactRoundsToDeliverSpec.pre enc Tryz.prog Tryz.f3 Rows.fnExactRoundsToDeliverRow.domain false w args∧laidMetH Tryz.prog Rows.fnExactRoundsToDeliverRow.laid w)∧sizedMet enc Tryz.prog Tryz.f3 (OpenSpec.ofChange Rows.fnExactRoundsToDeliverSpec) false w args) (Rows.fnExactRoundsToDeliverSpec.post enc Tryz.prog Tryz.f3 false true false false):=by
 refine returnsInHanded_of_change_and (C:=Tryz.checked) (X:=fun w _=>laidMetH Tryz.prog Rows.fnExactRoundsToDeliverRow.laid w) (fun _ _ _ fb h=>h.of_heap fb) own started (by kernel_rfl) Tryz.func3
  (ChangeSpec.witness_shaped (enc:=enc) (C:=Tryz.checked) (os:=os) (X:=fun w _=>laidMetH Tryz.prog Rows.fnExactRoundsToDeliverRow.laid w) false (World.laidAll Tryz.prog os Rows.fnExactRoundsToDeliverRow.laid) #[.slice none 0 0,.slice none 0 0] 8 rfl (World.shaped_of_RefB (by kernel_rfl) (by kernel_rfl)) (by kernel_rfl) (by kernel_rfl) (by kernel_rfl) (Xg os _)) ?_
 intro W base args ds gs before FJ FK _ _ i7 _
 have oh:∀(j:Nat) t v,Tryz.f3.params[j]? =some t→args[j]? =some v→Value.okWide Tryz.prog W .any base t v:=FJ
 have Xm:=FK
 obtain⟨p,q,qw,lq,rfl,ZM,qJ⟩:=FK
 have er:DataW.TrodAll enc Tryz.prog W 0 (fun _=>true) true Tryz.f3.params.toList args.toList ds p:=qw
 rw[Tryz.params3]at er oh
 obtain⟨v0,ZN,d0,ZO,fa,cZ,j1,rfl,rfl,bz,aR⟩:=trodAll_cons er
 obtain⟨v1,ZP,d1,ZQ,dV,e0,rfl,rfl,rfl,aa,ev⟩:=trodAll_cons aR
 obtain⟨rfl,rfl,rfl⟩:=trodAll_nil ev
 obtain rfl:args= #[v0,v1]:=by cases args;simp_all
 obtain⟨rfl,rfl⟩:=trodVars_none lq
 have wI:∀x∈fa,x.block<W.heap.size:=by obtain⟨m,hm⟩:=bz;exact DataW.trod_lt m _ _ _ hm
 obtain⟨ow,g0,uX⟩:=DE Tryz.underlying22 Xi (oh 0 22 v0 rfl rfl) bz
 have Xn:∀x∈dV,x.block<W.heap.size:=by obtain⟨m,hm⟩:=aa;exact DataW.trod_lt m _ _ _ hm
 obtain⟨kq,g1,sD⟩:=DE Tryz.underlying23 Xk (oh 1 23 v1 rfl rfl) aa
 clear qw FJ
 refine(walk W (eN i7) ow uX v0 kq sD v1 g0 g1).mono fun e ZR ⟨he,z_⟩=> ?_
 subst he
 exact⟨_,rfl,_,_,_,[],_,[],Xm,trodAll_mk1 (shut_bool Tryz.underlying4 _),(trodAll_cons_mk (Below.trod laidOut (by kernel_rfl) (of_decide_eq_true (by kernel_rfl)) bz z_ wI) (trodAll_cons_mk (Below.trod laidOut (by kernel_rfl) (of_decide_eq_true (by kernel_rfl)) aa z_ Xn) trodAll_mk0)),rfl,z_.frame _,fun h=>by cases h⟩
def wJ:List Char:=List.map Char.ofNat [104,97,114,110,101,115,115,32,56,54,98,97,101,54,48,54,98,50,56,99,49,53,56,51,100,54,97,99,49,98,51,52,52,48,48,99,56,98,56,100,49,50,98,56,52,55,100,57,99,102,97,57,54,102,52,57,56,97,53,97,99,100,101,99,101,55,102,99,49,54,56,52,32,99,117,116,32,97,116,32,108,111,111,112,46,101,120,97,109,112,108,101,47,103,48,49,48,55,53,47,108,97,119,115,46,70,110,69,120,97,99,116,82,111,117,110,100,115,84,111,68,101,108,105,118,101,114,32,108,111,111,112,46,101,120,97,109,112,108,101,47,103,48,49,48,55,53,47,108,97,119,115,46,70,110,69,120,97,99,116,82,101,99,111,118,101,114,76,111,103,32,108,111,111,112,46,101,120,97,109,112,108,101,47,103,48,49,48,55,53,47,108,97,119,115,46,70,110,69,120,97,99,116,82,101,97,100,76,111,103,32,108,111,111,112,46,101,120,97,109,112,108,101,47,103,48,49,48,55,53,47,108,97,119,115,46,70,110,69,120,97,99,116,68,101,108,105,118,101,114,76,97,98,101,108,115,32,108,111,111,112,46,101,120,97,109,112,108,101,47,103,48,49,48,55,53,47,108,97,119,115,46,70,110,69,120,97,99,116,83,116,101,112,115,79,102,32,108,111,111,112,46,101,120,97,109,112,108,101,47,103,48,49,48,55,53,47,108,97,119,115,46,70,110,69,120,97,99,116,83,116,97,116,101,84,101,120,116]
def tY:List Char:=List.map Char.ofNat [99,117,116]
theorem Xo:Tryz.prog.initOrder=String.ofList wJ:=by kernel_rfl
theorem wK:Tryz.prog.initOrder.toList=wJ:=by rw[Xo];exact String.toList_ofList
theorem FL:behindMainWord (wordsSigns wJ)=tY::(behindMainWord (wordsSigns wJ)).tail:=by kernel_rfl
theorem Xp {P:Program} {L:List Char} {r:List (List Char)} (h:P.initOrder.toList=L) (hw:behindMainWord (wordsSigns L)=tY::r):P.make=some .cut:=by
 unfold Program.make;rw[h,hw];rfl
theorem Xq {P:Program} {L:List Char} {r:List (List Char)} (h:P.initOrder.toList=L) (hw:behindMainWord (wordsSigns L)=tY::r) (aa:P.laysLater=false) (ad:P.bearsReflect=false) (aB:P.doorFits []=true):P.mayEnter=true:=by
 unfold Program.mayEnter;rw[h,hw]
 have e:stripLifts liftWords (tY::r)=([],tY::r):=rfl
 simp only[e,aa,ad,aB]
 rfl
theorem Xr:Tryz.prog.liftsFinal=false:=by unfold Program.liftsFinal Program.headLifts;rw[wK];kernel_rfl
theorem Xs:Tryz.prog.mayEnter=true:=Xq wK FL (by kernel_rfl) (by kernel_rfl) (by kernel_rfl)
theorem Xt:Tryz.prog.make=some .cut:=Xp wK FL
theorem Xu:joinedFacts Tryz.prog 3 Tryz.f3 Rows.fnExactRoundsToDeliverSpec Rows.fnExactRoundsToDeliverRow=true:=by
 unfold joinedFacts
 rw[Xr,Xs,Xt]
 kernel_rfl
theorem over:Rows.fnExactRoundsToDeliverRow.holds Tryz.pinned (OpenSpec.ofChange Rows.fnExactRoundsToDeliverSpec):=
 OpenClaim.holds_of_wide 3 Tryz.f3 rfl rfl rfl rfl rfl rfl rfl ⟨rfl,rfl,rfl,rfl,rfl⟩ rfl rfl rfl rfl rfl (by kernel_rfl) Tryz.func3 Xu
  (of_decide_eq_true (by kernel_rfl)) (by unfold Func.isWrapper;first|(rw[if_pos (by decide+kernel)];kernel_rfl)|(rw[if_neg (by decide+kernel)];exact⟨rfl,rfl⟩))
  (fun os started H enc _=>lifted os started H enc)
theorem Xv:Tryz.prog.mainIs=some (Rows.fnExactRoundsToDeliverCard.stood.harness.1,Rows.fnExactRoundsToDeliverCard.stood.harness.2.toList):=by
 unfold Program.mainIs
 rw[wK]
 kernel_rfl
theorem proved:Rows.FnExactRoundsToDeliverCardSaid:=
 Claim7.holds_tied_plain_at .later [] Rows.fnExactRoundsToDeliverCard.laidKinds true Rows.fnExactRoundsToDeliverCard.stood.harness true
  over (fun _ h=>by cases h) (by kernel_rfl) (fun _ h=>by cases h) fnExactRoundsToDeliver_row_tie rfl ⟨rfl,rfl⟩ Xv rfl
  (fun f fn bh Xw=>by
   obtain rfl:f=3:=Option.some.inj ((show Tryz.prog.funcNamed Rows.fnExactRoundsToDeliverRow.func=some 3 by kernel_rfl).symm.trans bh)|>.symm
   obtain rfl:fn=Tryz.f3:=(Option.some.inj (Tryz.func3.symm.trans Xw)).symm
   exact⟨by kernel_rfl,fun j t aN=>by
    rw[Tryz.params3]at aN
    have hm:t∈[22,23]:=by simpa using Array.mem_of_getElem? aN
    have hH:([22,23].all fun u=> !Tryz.prog.wantsStandIn u)=true:=by kernel_rfl
    exact(show Tryz.prog.wantsStandIn t=false by simpa using List.all_eq_true.1 hH t hm)⟩)
  (by kernel_rfl)
end Go.Proofs.YtipllbfpaepajaaGreatDoor.fnExactRoundsToDeliverCard
