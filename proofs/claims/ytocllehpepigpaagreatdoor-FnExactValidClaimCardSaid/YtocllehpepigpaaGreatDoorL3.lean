/- Part of a proof that a law returns true for every input. No condition. -/
import Derived.Test.YtocllehpepigpaaGreatDoorRows
import Derived.Test.YtocllehpepigpaaGreatDoorTie
import Derived.Test.YtocllehpepigpaaGreatDoorCards
import Derived.SevenTiedAt
import Derived.MakeChecks
import Derived.LaidMore
import Derived.Stop.Joined
import Derived.Test.YtocllehpepigpaaGreatDoorFwR
import Derived.Lay
import Derived.Test.YtocllehpepigpaaGreatDoorW3
import Derived.Test.YtocllehpepigpaaGreatDoorFwI
import Derived.Test.YtocllehpepigpaaGreatDoorUVC
import Derived.WalkKit
import Derived.ProofKit
import Derived.OpenShut
import Derived.ChangeOld
import Derived.Below
import Derived.Carry
namespace Go.Proofs.YtocllehpepigpaaGreatDoor.fnExactValidClaimCard
open Go.ChangeShapes Go.WideShapes Go.ChangeAt Go.RowKit
open Go.cI Go.gB
set_option linter.unusedVariables false
theorem own:ownKnob Tryz.prog.godebug=none:=by kernel_rfl
theorem laidOut:laidOutB Tryz.prog=true:=by kernel_rfl
theorem ajy (os:Os) (args:Array Value):laidMetH Tryz.prog Rows.fnExactValidClaimRow.laid ((World.laidAll Tryz.prog os Rows.fnExactValidClaimRow.laid).forCall (fun _ _=>0) ⟨#[],args,[]⟩).memory:=by
 have h:=laidMet_laidAll (P:=Tryz.prog) (os:=os) (laid:=Rows.fnExactValidClaimRow.laid) args (by kernel_rfl) (by kernel_rfl)
 unfold laidMetH
 rw[show(Rows.fnExactValidClaimRow.laid.filter fun x=>x.2.handleName?.isSome)=[] by kernel_rfl]
 exact h
theorem J1 {H:Type} {enc:TypeId×Value→H} {w:World} {base:Nat} {sp:Nat→Bool} {held:Bool}:iX enc Tryz.prog w base sp held 9 (fun x:List UInt8=>.str x) (fun x:List UInt8=>x.length≤9223372036854775807):=O9 Tryz.underlying9
theorem J2 {H:Type} {enc:TypeId×Value→H} {w:World} {base:Nat} {sp:Nat→Bool} {held:Bool}:iX enc Tryz.prog w base sp held 22 (fun x:List (List UInt8)=>.slice (x.map a1)) (fun x:List (List UInt8)=>(x.length≤9223372036854775807∧∀y∈x,y.length≤9223372036854775807)):=rD (sz:=1) (ec:=a1) Tryz.underlying22 (by kernel_rfl) (by decide) (fun _=>rfl) J1
theorem om {H:Type} {enc:TypeId×Value→H} {w:World} {base:Nat} {sp:Nat→Bool} {held:Bool}:iX enc Tryz.prog w base sp held 2 (fun x:Int=>.int .i64 x) (fun x:Int=>(-9223372036854775808≤x∧x≤9223372036854775807)):=O7 Tryz.underlying2
theorem ajz {H:Type} {enc:TypeId×Value→H} {w:World} {base:Nat} {sp:Nat→Bool} {held:Bool}:iX enc Tryz.prog w base sp held 114 fI (fun x:jh=>xT x):=by
 intro fuel cs x ai
 obtain⟨xs,n,_,_,aO,aV,br⟩:=DataW.trod_struct Tryz.underlying114 ai
 have hs:cs.length=3:=aO.trans (by kernel_rfl)
 obtain⟨gH,w0,az⟩:=kf om (br 0 _ rfl) (by rw[List.getElem?_eq_getElem (by rw[aV];decide)];rfl)
 change ak w (F0 w) (.int .i64 gH) ((cs.drop 0).take (Tryz.prog.cellsOf 2)) _ at az
 rw[show Tryz.prog.cellsOf 2=1 by kernel_rfl]at az
 obtain⟨fB,kg,ea⟩:=kf om (br 1 _ rfl) (by rw[List.getElem?_eq_getElem (by rw[aV];decide)];rfl)
 change ak w (F0 w) (.int .i64 fB) ((cs.drop 1).take (Tryz.prog.cellsOf 2)) _ at ea
 rw[show Tryz.prog.cellsOf 2=1 by kernel_rfl]at ea
 obtain⟨hx,ir,bD⟩:=kf om (br 2 _ rfl) (by rw[List.getElem?_eq_getElem (by rw[aV];decide)];rfl)
 change ak w (F0 w) (.int .i64 hx) ((cs.drop 2).take (Tryz.prog.cellsOf 2)) _ at bD
 rw[show Tryz.prog.cellsOf 2=1 by kernel_rfl]at bD
 have key:=vn [(.int .i64 gH,0,1),(.int .i64 fB,1,1),(.int .i64 hx,2,1)] 0 (by rw[hs];rfl) ⟨az,ea,bD,trivial⟩
 refine⟨⟨gH,fB,hx⟩,⟨w0,kg,ir⟩,?_⟩
 show ak w (F0 w) (.agg [.int .i64 gH,.int .i64 fB,.int .i64 hx]) cs _
 rw[ak]
 exact key
theorem ajA {H:Type} {enc:TypeId×Value→H} {w:World} {base:Nat} {sp:Nat→Bool} {held:Bool}:iX enc Tryz.prog w base sp held 68 (fun x:List jh=>.slice (x.map fI)) (fun x:List jh=>(x.length≤9223372036854775807∧∀y∈x,xT y)):=rD (sz:=3) (ec:=fI) Tryz.underlying68 (by kernel_rfl) (by decide) (fun _=>rfl) ajz
theorem ajB {H:Type} {enc:TypeId×Value→H} {w:World} {base:Nat} {sp:Nat→Bool} {held:Bool}:iX enc Tryz.prog w base sp held 70 fX (fun x:hS=>vt x):=by
 intro fuel cs x ai
 obtain⟨xs,n,_,_,aO,aV,br⟩:=DataW.trod_struct Tryz.underlying70 ai
 have hs:cs.length=4:=aO.trans (by kernel_rfl)
 obtain⟨gH,w0,az⟩:=kf om (br 0 _ rfl) (by rw[List.getElem?_eq_getElem (by rw[aV];decide)];rfl)
 change ak w (F0 w) (.int .i64 gH) ((cs.drop 0).take (Tryz.prog.cellsOf 2)) _ at az
 rw[show Tryz.prog.cellsOf 2=1 by kernel_rfl]at az
 obtain⟨fB,kg,ea⟩:=kf om (br 1 _ rfl) (by rw[List.getElem?_eq_getElem (by rw[aV];decide)];rfl)
 change ak w (F0 w) (.int .i64 fB) ((cs.drop 1).take (Tryz.prog.cellsOf 2)) _ at ea
 rw[show Tryz.prog.cellsOf 2=1 by kernel_rfl]at ea
 obtain⟨hx,ir,bD⟩:=kf J2 (br 2 _ rfl) (by rw[List.getElem?_eq_getElem (by rw[aV];decide)];rfl)
 change ak w (F0 w) (.slice (hx.map a1)) ((cs.drop 2).take (Tryz.prog.cellsOf 22)) _ at bD
 rw[show Tryz.prog.cellsOf 22=1 by kernel_rfl]at bD
 obtain⟨mv,ll,dt⟩:=kf ajA (br 3 _ rfl) (by rw[List.getElem?_eq_getElem (by rw[aV];decide)];rfl)
 change ak w (F0 w) (.slice (mv.map fI)) ((cs.drop 3).take (Tryz.prog.cellsOf 68)) _ at dt
 rw[show Tryz.prog.cellsOf 68=1 by kernel_rfl]at dt
 have key:=vn [(.int .i64 gH,0,1),(.int .i64 fB,1,1),(.slice (hx.map a1),2,1),(.slice (mv.map fI),3,1)] 0 (by rw[hs];rfl) ⟨az,ea,bD,dt,trivial⟩
 refine⟨⟨gH,fB,hx,mv⟩,⟨w0,kg,ir,ll⟩,?_⟩
 show ak w (F0 w) (.agg [.int .i64 gH,.int .i64 fB,.slice (hx.map a1),.slice (mv.map fI)]) cs _
 rw[ak]
 exact key
theorem ajC {H:Type} {enc:TypeId×Value→H} {w:World} {base:Nat} {sp:Nat→Bool} {held:Bool}:iX enc Tryz.prog w base sp held 23 (fun x:List hS=>.slice (x.map fX)) (fun x:List hS=>(x.length≤9223372036854775807∧∀y∈x,vt y)):=rD (sz:=4) (ec:=fX) Tryz.underlying23 (by kernel_rfl) (by decide) (fun _=>rfl) ajB
theorem ajD {H:Type} {enc:TypeId×Value→H} {w:World} {base:Nat} {sp:Nat→Bool} {held:Bool}:iX enc Tryz.prog w base sp held 72 (fun x:List Int=>.slice (x.map bB)) (fun x:List Int=>(x.length≤9223372036854775807∧∀y∈x,(-9223372036854775808≤y∧y≤9223372036854775807))):=rD (sz:=1) (ec:=bB) Tryz.underlying72 (by kernel_rfl) (by decide) (fun _=>rfl) om
theorem ajE {H:Type} {enc:TypeId×Value→H} {w:World} {base:Nat} {sp:Nat→Bool} {held:Bool}:iX enc Tryz.prog w base sp held 27 (fun x:List (List Int)=>.slice (x.map di)) (fun x:List (List Int)=>(x.length≤9223372036854775807∧∀y∈x,(y.length≤9223372036854775807∧∀z∈y,(-9223372036854775808≤z∧z≤9223372036854775807)))):=rD (sz:=1) (ec:=di) Tryz.underlying27 (by kernel_rfl) (by decide) (fun _=>rfl) ajD
theorem ajF {H:Type} {enc:TypeId×Value→H} {w:World} {base:Nat} {sp:Nat→Bool} {held:Bool}:iX enc Tryz.prog w base sp held 4 (fun x:Bool=>.bool x) (fun x:Bool=>True):=O8 Tryz.underlying4
theorem ajG {H:Type} {enc:TypeId×Value→H} {w:World} {base:Nat} {sp:Nat→Bool} {held:Bool}:iX enc Tryz.prog w base sp held 75 eX (fun x:hH=>vu x):=by
 intro fuel cs x ai
 obtain⟨xs,n,_,_,aO,aV,br⟩:=DataW.trod_struct Tryz.underlying75 ai
 have hs:cs.length=4:=aO.trans (by kernel_rfl)
 obtain⟨gH,w0,az⟩:=kf om (br 0 _ rfl) (by rw[List.getElem?_eq_getElem (by rw[aV];decide)];rfl)
 change ak w (F0 w) (.int .i64 gH) ((cs.drop 0).take (Tryz.prog.cellsOf 2)) _ at az
 rw[show Tryz.prog.cellsOf 2=1 by kernel_rfl]at az
 obtain⟨fB,kg,ea⟩:=kf om (br 1 _ rfl) (by rw[List.getElem?_eq_getElem (by rw[aV];decide)];rfl)
 change ak w (F0 w) (.int .i64 fB) ((cs.drop 1).take (Tryz.prog.cellsOf 2)) _ at ea
 rw[show Tryz.prog.cellsOf 2=1 by kernel_rfl]at ea
 obtain⟨hx,ir,bD⟩:=kf J1 (br 2 _ rfl) (by rw[List.getElem?_eq_getElem (by rw[aV];decide)];rfl)
 change ak w (F0 w) (.str hx) ((cs.drop 2).take (Tryz.prog.cellsOf 9)) _ at bD
 rw[show Tryz.prog.cellsOf 9=1 by kernel_rfl]at bD
 obtain⟨mv,ll,dt⟩:=kf ajF (br 3 _ rfl) (by rw[List.getElem?_eq_getElem (by rw[aV];decide)];rfl)
 change ak w (F0 w) (.bool mv) ((cs.drop 3).take (Tryz.prog.cellsOf 4)) _ at dt
 rw[show Tryz.prog.cellsOf 4=1 by kernel_rfl]at dt
 have key:=vn [(.int .i64 gH,0,1),(.int .i64 fB,1,1),(.str hx,2,1),(.bool mv,3,1)] 0 (by rw[hs];rfl) ⟨az,ea,bD,dt,trivial⟩
 refine⟨⟨gH,fB,hx,mv⟩,⟨w0,kg,ir,ll⟩,?_⟩
 show ak w (F0 w) (.agg [.int .i64 gH,.int .i64 fB,.str hx,.bool mv]) cs _
 rw[ak]
 exact key
theorem ajH {H:Type} {enc:TypeId×Value→H} {w:World} {base:Nat} {sp:Nat→Bool} {held:Bool}:iX enc Tryz.prog w base sp held 28 (fun x:List hH=>.slice (x.map eX)) (fun x:List hH=>(x.length≤9223372036854775807∧∀y∈x,vu y)):=rD (sz:=4) (ec:=eX) Tryz.underlying28 (by kernel_rfl) (by decide) (fun _=>rfl) ajG
theorem J3 {H:Type} {enc:TypeId×Value→H} {w:World} {base:Nat} {sp:Nat→Bool} {held:Bool}:iX enc Tryz.prog w base sp held 30 e_ (fun x:gQ=>rG x):=by
 intro fuel cs x ai
 obtain⟨xs,n,_,_,aO,aV,br⟩:=DataW.trod_struct Tryz.underlying30 ai
 have hs:cs.length=5:=aO.trans (by kernel_rfl)
 obtain⟨gH,w0,az⟩:=kf om (br 0 _ rfl) (by rw[List.getElem?_eq_getElem (by rw[aV];decide)];rfl)
 change ak w (F0 w) (.int .i64 gH) ((cs.drop 0).take (Tryz.prog.cellsOf 2)) _ at az
 rw[show Tryz.prog.cellsOf 2=1 by kernel_rfl]at az
 obtain⟨fB,kg,ea⟩:=kf om (br 1 _ rfl) (by rw[List.getElem?_eq_getElem (by rw[aV];decide)];rfl)
 change ak w (F0 w) (.int .i64 fB) ((cs.drop 1).take (Tryz.prog.cellsOf 2)) _ at ea
 rw[show Tryz.prog.cellsOf 2=1 by kernel_rfl]at ea
 obtain⟨hx,ir,bD⟩:=kf om (br 2 _ rfl) (by rw[List.getElem?_eq_getElem (by rw[aV];decide)];rfl)
 change ak w (F0 w) (.int .i64 hx) ((cs.drop 2).take (Tryz.prog.cellsOf 2)) _ at bD
 rw[show Tryz.prog.cellsOf 2=1 by kernel_rfl]at bD
 obtain⟨mv,ll,dt⟩:=kf ajE (br 3 _ rfl) (by rw[List.getElem?_eq_getElem (by rw[aV];decide)];rfl)
 change ak w (F0 w) (.slice (mv.map di)) ((cs.drop 3).take (Tryz.prog.cellsOf 27)) _ at dt
 rw[show Tryz.prog.cellsOf 27=1 by kernel_rfl]at dt
 obtain⟨zT,r3,cT⟩:=kf ajH (br 4 _ rfl) (by rw[List.getElem?_eq_getElem (by rw[aV];decide)];rfl)
 change ak w (F0 w) (.slice (zT.map eX)) ((cs.drop 4).take (Tryz.prog.cellsOf 28)) _ at cT
 rw[show Tryz.prog.cellsOf 28=1 by kernel_rfl]at cT
 have key:=vn [(.int .i64 gH,0,1),(.int .i64 fB,1,1),(.int .i64 hx,2,1),(.slice (mv.map di),3,1),(.slice (zT.map eX),4,1)] 0 (by rw[hs];rfl) ⟨az,ea,bD,dt,cT,trivial⟩
 refine⟨⟨gH,fB,hx,mv,zT⟩,⟨w0,kg,ir,ll,r3⟩,?_⟩
 show ak w (F0 w) (.agg [.int .i64 gH,.int .i64 fB,.int .i64 hx,.slice (mv.map di),.slice (zT.map eX)]) cs _
 rw[ak]
 exact key
theorem ajI {H:Type} {enc:TypeId×Value→H} {w:World} {base:Nat} {sp:Nat→Bool} {held:Bool}:iX enc Tryz.prog w base sp held 24 (fun x:List gQ=>.slice (x.map e_)) (fun x:List gQ=>(x.length≤9223372036854775807∧∀y∈x,rG y)):=rD (sz:=5) (ec:=e_) Tryz.underlying24 (by kernel_rfl) (by decide) (fun _=>rfl) J3
theorem ajJ {H:Type} {enc:TypeId×Value→H} {w:World} {base:Nat} {sp:Nat→Bool} {held:Bool}:iX enc Tryz.prog w base sp held 26 mr (fun x:ky=>xU x):=by
 intro fuel cs x ai
 obtain⟨xs,n,_,_,aO,aV,br⟩:=DataW.trod_struct Tryz.underlying26 ai
 have hs:cs.length=3:=aO.trans (by kernel_rfl)
 obtain⟨gH,w0,az⟩:=kf J2 (br 0 _ rfl) (by rw[List.getElem?_eq_getElem (by rw[aV];decide)];rfl)
 change ak w (F0 w) (.slice (gH.map a1)) ((cs.drop 0).take (Tryz.prog.cellsOf 22)) _ at az
 rw[show Tryz.prog.cellsOf 22=1 by kernel_rfl]at az
 obtain⟨fB,kg,ea⟩:=kf ajC (br 1 _ rfl) (by rw[List.getElem?_eq_getElem (by rw[aV];decide)];rfl)
 change ak w (F0 w) (.slice (fB.map fX)) ((cs.drop 1).take (Tryz.prog.cellsOf 23)) _ at ea
 rw[show Tryz.prog.cellsOf 23=1 by kernel_rfl]at ea
 obtain⟨hx,ir,bD⟩:=kf ajI (br 2 _ rfl) (by rw[List.getElem?_eq_getElem (by rw[aV];decide)];rfl)
 change ak w (F0 w) (.slice (hx.map e_)) ((cs.drop 2).take (Tryz.prog.cellsOf 24)) _ at bD
 rw[show Tryz.prog.cellsOf 24=1 by kernel_rfl]at bD
 have key:=vn [(.slice (gH.map a1),0,1),(.slice (fB.map fX),1,1),(.slice (hx.map e_),2,1)] 0 (by rw[hs];rfl) ⟨az,ea,bD,trivial⟩
 refine⟨⟨gH,fB,hx⟩,⟨w0,kg,ir⟩,?_⟩
 show ak w (F0 w) (.agg [.slice (gH.map a1),.slice (fB.map fX),.slice (hx.map e_)]) cs _
 rw[ak]
 exact key
theorem gn {W:World} (jT:laidMetH Tryz.prog Rows.fnExactValidClaimRow.laid W):o3 W fun _=>False:=fun p ao=>by
 rcases List.mem_cons.1 ao with rfl|ao
 ·exact PV (name:= "strconv.ErrSyntax") (x:=Rows.laid_strconv_ErrSyntax) (t:=141) jT (by kernel_rfl) (by kernel_rfl) Tryz.underlying141 ⟨_,_,rfl⟩ (by kernel_rfl)
 ·rcases List.mem_cons.1 ao with rfl|ao
  ·exact PX (name:= "internal/strconv.uint64pow10") (x:=Rows.laid_internal_strconv_uint64pow10) (t:=198) (e:=169) jT (by kernel_rfl) (by kernel_rfl) Tryz.underlying198 Tryz.underlying169 (by kernel_rfl) (by kernel_rfl) (by kernel_rfl) (by kernel_rfl)
  ·cases ao
theorem walk (w:World) (hg:o3 w fun _=>False) (gH:ky) (xz:xU gH) (v0:Value) (fB:gQ) (sw:rG fB) (v1:Value) (g0:Arg w (.agg [.slice (gH.Names.map a1),.slice (gH.dB.map fX),.slice (gH.ji.map e_)]) v0) (g1:Arg w (.agg [.int .i64 fB.Kind,.int .i64 fB.Left,.int .i64 fB.hT,.slice (fB.gz.map di),.slice (fB.Formula.map eX)]) v1):
  Calls Tryz.prog 3 #[v0,v1] w fun e aA=>e= .returned (.bool true)∧RowKit.Below w.heap.size w aA:=
 bh.law (C:=aN) (aju gH fB true (ajK gH fB xz sw)) Tryz.func3 rfl rfl (.cons g0 (.cons g1 (.nil))) (hg:=hg)
set_option maxRecDepth 100000 in
theorem lifted (os:Os) (started:os.Started) (H:Type) (enc:TypeId×Value→H):
  ReturnsInHanded {} Tryz.checked os 3 .any (fun w args=>(Rows.fnExactValidClaimSpec.pre enc Tryz.prog Tryz.f3 Rows.fnExactValidClaimRow.domain false w args∧laidMetH Tryz.prog Rows.fnExactValidClaimRow.laid w)∧sizedMet enc Tryz.prog Tryz.f3 (OpenSpec.ofChange Rows.fnExactValidClaimSpec) false w args) (Rows.fnExactValidClaimSpec.post enc Tryz.prog Tryz.f3 false true false false):=by
 refine returnsInHanded_of_change_and (C:=Tryz.checked) (X:=fun w _=>laidMetH Tryz.prog Rows.fnExactValidClaimRow.laid w) (fun _ _ _ hD h=>h.of_heap hD) own started (by kernel_rfl) Tryz.func3
  (ChangeSpec.witness_shaped (enc:=enc) (C:=Tryz.checked) (os:=os) (X:=fun w _=>laidMetH Tryz.prog Rows.fnExactValidClaimRow.laid w) false (World.laidAll Tryz.prog os Rows.fnExactValidClaimRow.laid) #[.agg #[.slice none 0 0,.slice none 0 0,.slice none 0 0],.agg #[.int .i64 0,.int .i64 0,.int .i64 0,.slice none 0 0,.slice none 0 0]] 8 rfl (World.shaped_of_RefB (by kernel_rfl) (by kernel_rfl)) (by kernel_rfl) (by kernel_rfl) (by kernel_rfl) (ajy os _)) ?_
 intro W base args ds gs before J4 nJ _ _ jT _
 have qf:∀(j:Nat) t v,Tryz.f3.params[j]? =some t→args[j]? =some v→Value.okWide Tryz.prog W .any base t v:=J4
 have ajL:=nJ
 obtain⟨p,q,sx,nP,rfl,am6,sL⟩:=nJ
 have jS:DataW.TrodAll enc Tryz.prog W 0 (fun _=>true) true Tryz.f3.params.toList args.toList ds p:=sx
 rw[Tryz.params3]at jS qf
 obtain⟨v0,am7,d0,am8,hd,eb,mg,rfl,rfl,bm,az⟩:=trodAll_cons jS
 obtain⟨v1,am9,d1,am_,fg,hh,rfl,rfl,rfl,ad,ea⟩:=trodAll_cons az
 obtain⟨rfl,rfl,rfl⟩:=trodAll_nil ea
 obtain rfl:args= #[v0,v1]:=by cases args;simp_all
 obtain⟨rfl,rfl⟩:=trodVars_none nP
 have zU:∀x∈hd,x.block<W.heap.size:=by obtain⟨m,hm⟩:=bm;exact DataW.trod_lt m _ _ _ hm
 obtain⟨gH,g0,xz⟩:=Hi (es:=fun y:ky=>[.slice (y.Names.map a1),.slice (y.dB.map fX),.slice (y.ji.map e_)]) Tryz.underlying26 ajJ (qf 0 26 v0 rfl rfl) bm
 have ajM:∀x∈fg,x.block<W.heap.size:=by obtain⟨m,hm⟩:=ad;exact DataW.trod_lt m _ _ _ hm
 obtain⟨fB,g1,sw⟩:=Hi (es:=fun y:gQ=>[.int .i64 y.Kind,.int .i64 y.Left,.int .i64 y.hT,.slice (y.gz.map di),.slice (y.Formula.map eX)]) Tryz.underlying30 J3 (qf 1 30 v1 rfl rfl) ad
 clear sx J4
 refine(walk W (gn jT) gH xz v0 fB sw v1 g0 g1).mono fun e ana ⟨he,DN⟩=> ?_
 subst he
 exact⟨_,rfl,_,_,_,[],_,[],ajL,trodAll_mk1 (shut_bool Tryz.underlying4 _),(trodAll_cons_mk (Below.trod laidOut (by kernel_rfl) (of_decide_eq_true (by kernel_rfl)) bm DN zU) (trodAll_cons_mk (Below.trod laidOut (by kernel_rfl) (of_decide_eq_true (by kernel_rfl)) ad DN ajM) trodAll_mk0)),rfl,DN.frame _,fun h=>by cases h⟩
def zV:List Char:=List.map Char.ofNat [104,97,114,110,101,115,115,32,56,101,55,56,97,48,52,55,54,100,98,53,55,100,55,102,55,51,50,54,52,99,49,97,54,52,50,98,97,52,100,51,57,52,55,54,57,56,52,53,48,97,57,48,50,56,98,50,51,51,50,97,51,50,102,57,101,53,55,101,50,56,55,54,32,99,117,116,32,97,116,32,108,111,111,112,46,101,120,97,109,112,108,101,47,103,48,49,48,55,53,47,108,97,119,115,46,70,110,69,120,97,99,116,86,97,108,105,100,67,108,97,105,109]
def wJ:List Char:=List.map Char.ofNat [99,117,116]
theorem ajN:Tryz.prog.initOrder=String.ofList zV:=by kernel_rfl
theorem zW:Tryz.prog.initOrder.toList=zV:=by rw[ajN];exact String.toList_ofList
theorem J5:behindMainWord (wordsSigns zV)=wJ::(behindMainWord (wordsSigns zV)).tail:=by kernel_rfl
theorem ajO {P:Program} {L:List Char} {r:List (List Char)} (h:P.initOrder.toList=L) (hw:behindMainWord (wordsSigns L)=wJ::r):P.make=some .cut:=by
 unfold Program.make;rw[h,hw];rfl
theorem ajP {P:Program} {L:List Char} {r:List (List Char)} (h:P.initOrder.toList=L) (hw:behindMainWord (wordsSigns L)=wJ::r) (ad:P.laysLater=false) (ag:P.bearsReflect=false) (aF:P.doorFits []=true):P.mayEnter=true:=by
 unfold Program.mayEnter;rw[h,hw]
 have e:stripLifts liftWords (wJ::r)=([],wJ::r):=rfl
 simp only[e,ad,ag,aF]
 rfl
theorem ajQ:Tryz.prog.liftsFinal=false:=by unfold Program.liftsFinal Program.headLifts;rw[zW];kernel_rfl
theorem ajR:Tryz.prog.mayEnter=true:=ajP zW J5 (by kernel_rfl) (by kernel_rfl) (by kernel_rfl)
theorem ajS:Tryz.prog.make=some .cut:=ajO zW J5
theorem ajT:joinedFacts Tryz.prog 3 Tryz.f3 Rows.fnExactValidClaimSpec Rows.fnExactValidClaimRow=true:=by
 unfold joinedFacts
 rw[ajQ,ajR,ajS]
 kernel_rfl
theorem over:Rows.fnExactValidClaimRow.holds Tryz.pinned (OpenSpec.ofChange Rows.fnExactValidClaimSpec):=
 OpenClaim.holds_of_wide 3 Tryz.f3 rfl rfl rfl rfl rfl rfl rfl ⟨rfl,rfl,rfl,rfl,rfl⟩ rfl rfl rfl rfl rfl (by kernel_rfl) Tryz.func3 ajT
  (of_decide_eq_true (by kernel_rfl)) (by unfold Func.isWrapper;first|(rw[if_pos (by decide+kernel)];kernel_rfl)|(rw[if_neg (by decide+kernel)];exact⟨rfl,rfl⟩))
  (fun os started H enc _=>lifted os started H enc)
theorem ajU:Tryz.prog.mainIs=some (Rows.fnExactValidClaimCard.stood.harness.1,Rows.fnExactValidClaimCard.stood.harness.2.toList):=by
 unfold Program.mainIs
 rw[zW]
 kernel_rfl
theorem proved:Rows.FnExactValidClaimCardSaid:=
 Claim7.holds_tied_plain_at .later [] Rows.fnExactValidClaimCard.laidKinds true Rows.fnExactValidClaimCard.stood.harness true
  over (fun _ h=>by cases h) (by kernel_rfl) (fun _ h=>by cases h) fnExactValidClaim_row_tie rfl ⟨rfl,rfl⟩ ajU rfl
  (fun f fn br ajV=>by
   obtain rfl:f=3:=Option.some.inj ((show Tryz.prog.funcNamed Rows.fnExactValidClaimRow.func=some 3 by kernel_rfl).symm.trans br)|>.symm
   obtain rfl:fn=Tryz.f3:=(Option.some.inj (Tryz.func3.symm.trans ajV)).symm
   exact⟨by kernel_rfl,fun j t aY=>by
    rw[Tryz.params3]at aY
    have hm:t∈[26,30]:=by simpa using Array.mem_of_getElem? aY
    have iE:([26,30].all fun u=> !Tryz.prog.wantsStandIn u)=true:=by kernel_rfl
    exact(show Tryz.prog.wantsStandIn t=false by simpa using List.all_eq_true.1 iE t hm)⟩)
  (by kernel_rfl)
end Go.Proofs.YtocllehpepigpaaGreatDoor.fnExactValidClaimCard
