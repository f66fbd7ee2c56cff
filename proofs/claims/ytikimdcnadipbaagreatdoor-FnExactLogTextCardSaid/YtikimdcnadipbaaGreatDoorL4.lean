/- Part of a proof that a law returns true for every input. No condition. -/
import Derived.Test.YtikimdcnadipbaaGreatDoorRows
import Derived.Test.YtikimdcnadipbaaGreatDoorTie
import Derived.Test.YtikimdcnadipbaaGreatDoorCards
import Derived.SevenTiedAt
import Derived.MakeChecks
import Derived.LaidMore
import Derived.Stop.Joined
import Derived.Test.YtikimdcnadipbaaGreatDoorFwR
import Derived.Lay
import Derived.Test.YtikimdcnadipbaaGreatDoorW4
import Derived.Test.YtikimdcnadipbaaGreatDoorFwI
import Derived.Test.YtikimdcnadipbaaGreatDoorUHG
import Derived.WalkKit
import Derived.ProofKit
import Derived.OpenShut
import Derived.ChangeOld
import Derived.Below
import Derived.Carry
namespace Go.Proofs.YtikimdcnadipbaaGreatDoor.fnExactLogTextCard
open Go.ChangeShapes Go.WideShapes Go.ChangeAt Go.RowKit
open Go.bZ Go.eL
set_option linter.unusedVariables false
theorem own:ownKnob Tryz.prog.godebug=none:=by kernel_rfl
theorem laidOut:laidOutB Tryz.prog=true:=by kernel_rfl
theorem WG (os:Os) (args:Array Value):laidMetH Tryz.prog Rows.fnExactLogTextRow.laid ((World.laidAll Tryz.prog os Rows.fnExactLogTextRow.laid).forCall (fun _ _=>0) ⟨#[],args,[]⟩).memory:=by
 have h:=laidMet_laidAll (P:=Tryz.prog) (os:=os) (laid:=Rows.fnExactLogTextRow.laid) args (by kernel_rfl) (by kernel_rfl)
 unfold laidMetH
 rw[show(Rows.fnExactLogTextRow.laid.filter fun x=>x.2.handleName?.isSome)=[] by kernel_rfl]
 exact h
theorem zQ {H:Type} {enc:TypeId×Value→H} {w:World} {base:Nat} {sp:Nat→Bool} {held:Bool}:lM enc Tryz.prog w base sp held 2 (fun x:Int=>.int .i64 x) (fun x:Int=>(-9223372036854775808≤x∧x≤9223372036854775807)):=KJ Tryz.underlying2
theorem WH {H:Type} {enc:TypeId×Value→H} {w:World} {base:Nat} {sp:Nat→Bool} {held:Bool}:lM enc Tryz.prog w base sp held 9 (fun x:List UInt8=>.str x) (fun x:List UInt8=>x.length≤9223372036854775807):=KK Tryz.underlying9
theorem WI {H:Type} {enc:TypeId×Value→H} {w:World} {base:Nat} {sp:Nat→Bool} {held:Bool}:lM enc Tryz.prog w base sp held 66 fK (fun x:fl=>q4 x):=by
 intro fuel cs x ai
 obtain⟨xs,n,_,_,aI,aQ,bc⟩:=DataW.trod_struct Tryz.underlying66 ai
 have fO:cs.length=4:=aI.trans (by kernel_rfl)
 obtain⟨ks,w0,aR⟩:=uY zQ (bc 0 _ rfl) (by rw[List.getElem?_eq_getElem (by rw[aQ];decide)];rfl)
 change ak w (F0 w) (.int .i64 ks) ((cs.drop 0).take (Tryz.prog.cellsOf 2)) _ at aR
 rw[show Tryz.prog.cellsOf 2=1 by kernel_rfl]at aR
 obtain⟨l_,j3,ed⟩:=uY zQ (bc 1 _ rfl) (by rw[List.getElem?_eq_getElem (by rw[aQ];decide)];rfl)
 change ak w (F0 w) (.int .i64 l_) ((cs.drop 1).take (Tryz.prog.cellsOf 2)) _ at ed
 rw[show Tryz.prog.cellsOf 2=1 by kernel_rfl]at ed
 obtain⟨ma,jy,cn⟩:=uY zQ (bc 2 _ rfl) (by rw[List.getElem?_eq_getElem (by rw[aQ];decide)];rfl)
 change ak w (F0 w) (.int .i64 ma) ((cs.drop 2).take (Tryz.prog.cellsOf 2)) _ at cn
 rw[show Tryz.prog.cellsOf 2=1 by kernel_rfl]at cn
 obtain⟨wx,sY,e8⟩:=uY WH (bc 3 _ rfl) (by rw[List.getElem?_eq_getElem (by rw[aQ];decide)];rfl)
 change ak w (F0 w) (.str wx) ((cs.drop 3).take (Tryz.prog.cellsOf 9)) _ at e8
 rw[show Tryz.prog.cellsOf 9=1 by kernel_rfl]at e8
 have key:=KP [(.int .i64 ks,0,1),(.int .i64 l_,1,1),(.int .i64 ma,2,1),(.str wx,3,1)] 0 (by rw[fO];rfl) ⟨aR,ed,cn,e8,trivial⟩
 refine⟨⟨ks,l_,ma,wx⟩,⟨w0,j3,jy,sY⟩,?_⟩
 show ak w (F0 w) (.agg [.int .i64 ks,.int .i64 l_,.int .i64 ma,.str wx]) cs _
 rw[ak]
 exact key
theorem WJ {H:Type} {enc:TypeId×Value→H} {w:World} {base:Nat} {sp:Nat→Bool} {held:Bool}:lM enc Tryz.prog w base sp held 42 (fun x:List fl=>.slice (x.map fK)) (fun x:List fl=>(x.length≤9223372036854775807∧∀y∈x,q4 y)):=KN (sz:=4) (ec:=fK) Tryz.underlying42 (by kernel_rfl) (by decide) (fun _=>rfl) WI
theorem dW {W:World} (iQ:laidMetH Tryz.prog Rows.fnExactLogTextRow.laid W):lY W fun _=>False:=fun p ah=>by
 rcases List.mem_cons.1 ah with rfl|ah
 ·exact LQ (name:= "strconv.ErrSyntax") (x:=Rows.laid_strconv_ErrSyntax) (t:=77) iQ (by kernel_rfl) (by kernel_rfl) Tryz.underlying77 ⟨_,_,rfl⟩ (by kernel_rfl)
 ·rcases List.mem_cons.1 ah with rfl|ah
  ·exact LS (name:= "internal/strconv.uint64pow10") (x:=Rows.laid_internal_strconv_uint64pow10) (t:=196) (e:=187) iQ (by kernel_rfl) (by kernel_rfl) Tryz.underlying196 Tryz.underlying187 (by kernel_rfl) (by kernel_rfl) (by kernel_rfl) (by kernel_rfl)
  ·cases ah
theorem walk (w:World) (hg:lY w fun _=>False) (ks:List fl) (uK:(ks.length≤9223372036854775807∧∀y∈ks,q4 y)) (v0:Value) (g0:Arg w (.slice (ks.map fK)) v0):
  Calls Tryz.prog 4 #[v0] w fun e ar=>e= .returned (.bool true)∧RowKit.Below w.heap.size w ar:=
 bj.law (C:=aO) (WE ks true (WK ks uK)) Tryz.func4 rfl rfl (.cons g0 (.nil)) (hg:=hg)
set_option maxRecDepth 100000 in
theorem lifted (os:Os) (started:os.Started) (H:Type) (enc:TypeId×Value→H):
  ReturnsInHanded {} Tryz.checked os 4 .any (fun w args=>(Rows.fnExactLogTextSpec.pre enc Tryz.prog Tryz.f4 Rows.fnExactLogTextRow.domain false w args∧laidMetH Tryz.prog Rows.fnExactLogTextRow.laid w)∧sizedMet enc Tryz.prog Tryz.f4 (OpenSpec.ofChange Rows.fnExactLogTextSpec) false w args) (Rows.fnExactLogTextSpec.post enc Tryz.prog Tryz.f4 false true false false):=by
 refine returnsInHanded_of_change_and (C:=Tryz.checked) (X:=fun w _=>laidMetH Tryz.prog Rows.fnExactLogTextRow.laid w) (fun _ _ _ fs h=>h.of_heap fs) own started (by kernel_rfl) Tryz.func4
  (ChangeSpec.witness_shaped (enc:=enc) (C:=Tryz.checked) (os:=os) (X:=fun w _=>laidMetH Tryz.prog Rows.fnExactLogTextRow.laid w) false (World.laidAll Tryz.prog os Rows.fnExactLogTextRow.laid) #[.slice none 0 0] 8 rfl (World.shaped_of_RefB (by kernel_rfl) (by kernel_rfl)) (by kernel_rfl) (by kernel_rfl) (by kernel_rfl) (WG os _)) ?_
 intro W base args ds gs before FB FC _ _ iQ _
 have pj:∀(j:Nat) t v,Tryz.f4.params[j]? =some t→args[j]? =some v→Value.okWide Tryz.prog W .any base t v:=FB
 have WL:=FC
 obtain⟨p,q,qe,lo,rfl,Zi,qs⟩:=FC
 have fY:DataW.TrodAll enc Tryz.prog W 0 (fun _=>true) true Tryz.f4.params.toList args.toList ds p:=qe
 rw[Tryz.params4]at fY pj
 obtain⟨v0,Zj,d0,Zk,e6,c6,jS,rfl,rfl,bl,aR⟩:=trodAll_cons fY
 obtain⟨rfl,rfl,rfl⟩:=trodAll_nil aR
 obtain rfl:args= #[v0]:=by cases args;simp_all
 obtain⟨rfl,rfl⟩:=trodVars_none lo
 have wy:∀x∈e6,x.block<W.heap.size:=by obtain⟨m,hm⟩:=bl;exact DataW.trod_lt m _ _ _ hm
 obtain⟨ks,g0,uK⟩:=KQ Tryz.underlying42 WJ (pj 0 42 v0 rfl rfl) bl
 clear qe FB
 refine(walk W (dW iQ) ks uK v0 g0).mono fun e Zl ⟨he,FD⟩=> ?_
 subst he
 exact⟨_,rfl,_,_,_,[],_,[],WL,trodAll_mk1 (shut_bool Tryz.underlying4 _),(trodAll_cons_mk (Below.trod laidOut (by kernel_rfl) (of_decide_eq_true (by kernel_rfl)) bl FD wy) trodAll_mk0),rfl,FD.frame _,fun h=>by cases h⟩
def wz:List Char:=List.map Char.ofNat [104,97,114,110,101,115,115,32,97,101,51,53,48,51,102,97,101,52,50,50,51,55,51,97,101,97,99,100,55,55,50,50,54,53,102,49,57,49,49,50,55,100,101,54,55,51,102,100,53,57,99,55,102,99,49,48,54,102,56,50,99,52,56,97,50,52,56,101,51,57,55,97,32,99,117,116,32,97,116,32,108,111,111,112,46,101,120,97,109,112,108,101,47,103,48,49,48,55,53,47,108,97,119,115,46,70,110,69,120,97,99,116,76,105,110,101,97,114,77,111,118,101,115,32,108,111,111,112,46,101,120,97,109,112,108,101,47,103,48,49,48,55,53,47,108,97,119,115,46,70,110,69,120,97,99,116,76,111,103,84,101,120,116]
def tJ:List Char:=List.map Char.ofNat [99,117,116]
theorem WM:Tryz.prog.initOrder=String.ofList wz:=by kernel_rfl
theorem wA:Tryz.prog.initOrder.toList=wz:=by rw[WM];exact String.toList_ofList
theorem FE:behindMainWord (wordsSigns wz)=tJ::(behindMainWord (wordsSigns wz)).tail:=by kernel_rfl
theorem WN {P:Program} {L:List Char} {r:List (List Char)} (h:P.initOrder.toList=L) (hw:behindMainWord (wordsSigns L)=tJ::r):P.make=some .cut:=by
 unfold Program.make;rw[h,hw];rfl
theorem WO {P:Program} {L:List Char} {r:List (List Char)} (h:P.initOrder.toList=L) (hw:behindMainWord (wordsSigns L)=tJ::r) (aa:P.laysLater=false) (ab:P.bearsReflect=false) (aB:P.doorFits []=true):P.mayEnter=true:=by
 unfold Program.mayEnter;rw[h,hw]
 have e:stripLifts liftWords (tJ::r)=([],tJ::r):=rfl
 simp only[e,aa,ab,aB]
 rfl
theorem WQ:Tryz.prog.liftsFinal=false:=by unfold Program.liftsFinal Program.headLifts;rw[wA];kernel_rfl
theorem WR:Tryz.prog.mayEnter=true:=WO wA FE (by kernel_rfl) (by kernel_rfl) (by kernel_rfl)
theorem WS:Tryz.prog.make=some .cut:=WN wA FE
theorem WT:joinedFacts Tryz.prog 4 Tryz.f4 Rows.fnExactLogTextSpec Rows.fnExactLogTextRow=true:=by
 unfold joinedFacts
 rw[WQ,WR,WS]
 kernel_rfl
theorem over:Rows.fnExactLogTextRow.holds Tryz.pinned (OpenSpec.ofChange Rows.fnExactLogTextSpec):=
 OpenClaim.holds_of_wide 4 Tryz.f4 rfl rfl rfl rfl rfl rfl rfl ⟨rfl,rfl,rfl,rfl,rfl⟩ rfl rfl rfl rfl rfl (by kernel_rfl) Tryz.func4 WT
  (of_decide_eq_true (by kernel_rfl)) (by unfold Func.isWrapper;first|(rw[if_pos (by decide+kernel)];kernel_rfl)|(rw[if_neg (by decide+kernel)];exact⟨rfl,rfl⟩))
  (fun os started H enc _=>lifted os started H enc)
theorem WU:Tryz.prog.mainIs=some (Rows.fnExactLogTextCard.stood.harness.1,Rows.fnExactLogTextCard.stood.harness.2.toList):=by
 unfold Program.mainIs
 rw[wA]
 kernel_rfl
theorem proved:Rows.FnExactLogTextCardSaid:=
 Claim7.holds_tied_plain_at .later [] Rows.fnExactLogTextCard.laidKinds true Rows.fnExactLogTextCard.stood.harness true
  over (fun _ h=>by cases h) (by kernel_rfl) (fun _ h=>by cases h) fnExactLogText_row_tie rfl ⟨rfl,rfl⟩ WU rfl
  (fun f fn bc WV=>by
   obtain rfl:f=4:=Option.some.inj ((show Tryz.prog.funcNamed Rows.fnExactLogTextRow.func=some 4 by kernel_rfl).symm.trans bc)|>.symm
   obtain rfl:fn=Tryz.f4:=(Option.some.inj (Tryz.func4.symm.trans WV)).symm
   exact⟨by kernel_rfl,fun j t aK=>by
    rw[Tryz.params4]at aK
    have hm:t∈[42]:=by simpa using Array.mem_of_getElem? aK
    have gR:([42].all fun u=> !Tryz.prog.wantsStandIn u)=true:=by kernel_rfl
    exact(show Tryz.prog.wantsStandIn t=false by simpa using List.all_eq_true.1 gR t hm)⟩)
  (by kernel_rfl)
end Go.Proofs.YtikimdcnadipbaaGreatDoor.fnExactLogTextCard
