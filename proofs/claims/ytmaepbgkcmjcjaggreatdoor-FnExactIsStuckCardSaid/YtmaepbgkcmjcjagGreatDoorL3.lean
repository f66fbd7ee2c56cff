/- Part of a proof that a law returns true for every input. No condition. -/
import Derived.Test.YtmaepbgkcmjcjagGreatDoorRows
import Derived.Test.YtmaepbgkcmjcjagGreatDoorTie
import Derived.Test.YtmaepbgkcmjcjagGreatDoorCards
import Derived.SevenTiedAt
import Derived.MakeChecks
import Derived.LaidMore
import Derived.Stop.Joined
import Derived.Test.YtmaepbgkcmjcjagGreatDoorFwR
import Derived.Lay
import Derived.Test.YtmaepbgkcmjcjagGreatDoorW3
import Derived.Test.YtmaepbgkcmjcjagGreatDoorFwI
import Derived.Test.YtmaepbgkcmjcjagGreatDoorUV7x
import Derived.WalkKit
import Derived.ProofKit
import Derived.OpenShut
import Derived.ChangeOld
import Derived.Below
import Derived.Carry
namespace Go.Proofs.YtmaepbgkcmjcjagGreatDoor.fnExactIsStuckCard
open List Option Go.IntKind Nat
open Go.ChangeShapes Go.WideShapes Go.ChangeAt Go.RowKit
open Go.ef Go.lZ
set_option linter.unusedVariables false
theorem own:ownKnob Tryz.prog.godebug=none:=by kernel_rfl
theorem laidOut:laidOutB Tryz.prog=true:=by kernel_rfl
theorem apD (os:Os) (args:Array Value):laidMetH Tryz.prog Rows.fnExactIsStuckRow.laid ((World.laidAll Tryz.prog os Rows.fnExactIsStuckRow.laid).forCall (λ_ _=>0) ⟨#[],args,[]⟩).memory:=by
 have h:=laidMet_laidAll (P:=Tryz.prog) (os:=os) (laid:=Rows.fnExactIsStuckRow.laid) args (by kernel_rfl) (by kernel_rfl);unfold laidMetH;rw[show(Rows.fnExactIsStuckRow.laid.filter λx=>x.2.handleName?.isSome)=[] by kernel_rfl];exact h
theorem CQ {H:Type} {enc:TypeId×Value->H} {w:World} {base:Nat} {sp:Nat->Bool} {held:Bool}:kA enc Tryz.prog w base sp held 9 (λx:List UInt8=>.str x) (λx:List UInt8=>x.length<=9223372036854775807):=aeH Tryz.underlying9
theorem vV {H:Type} {enc:TypeId×Value->H} {w:World} {base:Nat} {sp:Nat->Bool} {held:Bool}:kA enc Tryz.prog w base sp held 2 (λx:Int=>.int .i64 x) (λx:Int=>(-9223372036854775808<=x/\x<=9223372036854775807)):=aeG Tryz.underlying2
theorem apE {H:Type} {enc:TypeId×Value->H} {w:World} {base:Nat} {sp:Nat->Bool} {held:Bool}:kA enc Tryz.prog w base sp held 251 mQ (λx:ja=>A8 x):=by
 intro fuel cs x an;obtain⟨xs,n,_,_,aC,aS,bF⟩:=DataW.trod_struct Tryz.underlying251 an;have iX:cs.length=2:=aC.trans (by kernel_rfl);obtain⟨gy,w0,ai⟩:=lX vV (bF 0 _ rfl) (by rw[getElem?_eq_getElem (by rw[aS];decide)];rfl);change aA w (F0 w) (.int .i64 gy) ((cs.drop 0).take (Tryz.prog.cellsOf 2)) _ at ai;rw[show Tryz.prog.cellsOf 2=1 by kernel_rfl]at ai;obtain⟨fG,hl,ea⟩:=lX vV (bF 1 _ rfl) (by rw[getElem?_eq_getElem (by rw[aS];decide)];rfl);change aA w (F0 w) (.int .i64 fG) ((cs.drop 1).take (Tryz.prog.cellsOf 2)) _ at ea;rw[show Tryz.prog.cellsOf 2=1 by kernel_rfl]at ea;have key:=yS [(.int .i64 gy,0,1),(.int .i64 fG,1,1)] 0 (by rw[iX];rfl) ⟨ai,ea,trivial⟩;refine⟨⟨gy,fG⟩,⟨w0,hl⟩,?_⟩;show aA w (F0 w) (.agg [.int .i64 gy,.int .i64 fG]) cs _;rw[aA];exact key
theorem apF {H:Type} {enc:TypeId×Value->H} {w:World} {base:Nat} {sp:Nat->Bool} {held:Bool}:kA enc Tryz.prog w base sp held 212 (λx:List ja=>.slice (x.map mQ)) (λx:List ja=>(x.length<=9223372036854775807/\∀y∈x,A8 y)):=va (sz:=2) (ec:=mQ) Tryz.underlying212 (by kernel_rfl) (by decide) (λ_=>rfl) apE
theorem apG {H:Type} {enc:TypeId×Value->H} {w:World} {base:Nat} {sp:Nat->Bool} {held:Bool}:kA enc Tryz.prog w base sp held 136 (λx:List (axm)=>.slice (x.map lf)) (λx:List (axm)=>(x.length<=9223372036854775807/\∀y∈x,(y.length<=9223372036854775807/\∀z∈y,A8 z))):=va (sz:=1) (ec:=lf) Tryz.underlying136 (by kernel_rfl) (by decide) (λ_=>rfl) apF
theorem apH {H:Type} {enc:TypeId×Value->H} {w:World} {base:Nat} {sp:Nat->Bool} {held:Bool}:kA enc Tryz.prog w base sp held 138 kh (λx:k7=>Ev x):=by
 intro fuel cs x an;obtain⟨xs,n,_,_,aC,aS,bF⟩:=DataW.trod_struct Tryz.underlying138 an;have iX:cs.length=4:=aC.trans (by kernel_rfl);obtain⟨gy,w0,ai⟩:=lX vV (bF 0 _ rfl) (by rw[getElem?_eq_getElem (by rw[aS];decide)];rfl);change aA w (F0 w) (.int .i64 gy) ((cs.drop 0).take (Tryz.prog.cellsOf 2)) _ at ai;rw[show Tryz.prog.cellsOf 2=1 by kernel_rfl]at ai;obtain⟨fG,hl,ea⟩:=lX vV (bF 1 _ rfl) (by rw[getElem?_eq_getElem (by rw[aS];decide)];rfl);change aA w (F0 w) (.int .i64 fG) ((cs.drop 1).take (Tryz.prog.cellsOf 2)) _ at ea;rw[show Tryz.prog.cellsOf 2=1 by kernel_rfl]at ea;obtain⟨ie,jR,bf⟩:=lX CQ (bF 2 _ rfl) (by rw[getElem?_eq_getElem (by rw[aS];decide)];rfl);change aA w (F0 w) (.str ie) ((cs.drop 2).take (Tryz.prog.cellsOf 9)) _ at bf;rw[show Tryz.prog.cellsOf 9=1 by kernel_rfl]at bf;obtain⟨sj,vc,de⟩:=lX apG (bF 3 _ rfl) (by rw[getElem?_eq_getElem (by rw[aS];decide)];rfl);change aA w (F0 w) (.slice (sj.map lf)) ((cs.drop 3).take (Tryz.prog.cellsOf 136)) _ at de;rw[show Tryz.prog.cellsOf 136=1 by kernel_rfl]at de;have key:=yS [(.int .i64 gy,0,1),(.int .i64 fG,1,1),(.str ie,2,1),(.slice (sj.map lf),3,1)] 0 (by rw[iX];rfl) ⟨ai,ea,bf,de,trivial⟩;refine⟨⟨gy,fG,ie,sj⟩,⟨w0,hl,jR,vc⟩,?_⟩;show aA w (F0 w) (.agg [.int .i64 gy,.int .i64 fG,.str ie,.slice (sj.map lf)]) cs _;rw[aA];exact key
theorem apI {H:Type} {enc:TypeId×Value->H} {w:World} {base:Nat} {sp:Nat->Bool} {held:Bool}:kA enc Tryz.prog w base sp held 70 (λx:List k7=>.slice (x.map kh)) (λx:List k7=>(x.length<=9223372036854775807/\∀y∈x,Ev y)):=va (sz:=4) (ec:=kh) Tryz.underlying70 (by kernel_rfl) (by decide) (λ_=>rfl) apH
theorem apJ {H:Type} {enc:TypeId×Value->H} {w:World} {base:Nat} {sp:Nat->Bool} {held:Bool}:kA enc Tryz.prog w base sp held 72 jF (λx:k8=>Ew x):=by
 intro fuel cs x an;obtain⟨xs,n,_,_,aC,aS,bF⟩:=DataW.trod_struct Tryz.underlying72 an;have iX:cs.length=3:=aC.trans (by kernel_rfl);obtain⟨gy,w0,ai⟩:=lX CQ (bF 0 _ rfl) (by rw[getElem?_eq_getElem (by rw[aS];decide)];rfl);change aA w (F0 w) (.str gy) ((cs.drop 0).take (Tryz.prog.cellsOf 9)) _ at ai;rw[show Tryz.prog.cellsOf 9=1 by kernel_rfl]at ai;obtain⟨fG,hl,ea⟩:=lX vV (bF 1 _ rfl) (by rw[getElem?_eq_getElem (by rw[aS];decide)];rfl);change aA w (F0 w) (.int .i64 fG) ((cs.drop 1).take (Tryz.prog.cellsOf 2)) _ at ea;rw[show Tryz.prog.cellsOf 2=1 by kernel_rfl]at ea;obtain⟨ie,jR,bf⟩:=lX apI (bF 2 _ rfl) (by rw[getElem?_eq_getElem (by rw[aS];decide)];rfl);change aA w (F0 w) (.slice (ie.map kh)) ((cs.drop 2).take (Tryz.prog.cellsOf 70)) _ at bf;rw[show Tryz.prog.cellsOf 70=1 by kernel_rfl]at bf;have key:=yS [(.str gy,0,1),(.int .i64 fG,1,1),(.slice (ie.map kh),2,1)] 0 (by rw[iX];rfl) ⟨ai,ea,bf,trivial⟩;refine⟨⟨gy,fG,ie⟩,⟨w0,hl,jR⟩,?_⟩;show aA w (F0 w) (.agg [.str gy,.int .i64 fG,.slice (ie.map kh)]) cs _;rw[aA];exact key
theorem apK {H:Type} {enc:TypeId×Value->H} {w:World} {base:Nat} {sp:Nat->Bool} {held:Bool}:kA enc Tryz.prog w base sp held 22 (λx:List k8=>.slice (x.map jF)) (λx:List k8=>(x.length<=9223372036854775807/\∀y∈x,Ew y)):=va (sz:=3) (ec:=jF) Tryz.underlying22 (by kernel_rfl) (by decide) (λ_=>rfl) apJ
theorem YP {H:Type} {enc:TypeId×Value->H} {w:World} {base:Nat} {sp:Nat->Bool} {held:Bool}:kA enc Tryz.prog w base sp held 48 (λx:List Int=>.slice (x.map a1)) (λx:List Int=>(x.length<=9223372036854775807/\∀y∈x,(-9223372036854775808<=y/\y<=9223372036854775807))):=va (sz:=1) (ec:=a1) Tryz.underlying48 (by kernel_rfl) (by decide) (λ_=>rfl) vV
theorem apL {H:Type} {enc:TypeId×Value->H} {w:World} {base:Nat} {sp:Nat->Bool} {held:Bool}:kA enc Tryz.prog w base sp held 75 jG (λx:k9=>Ex x):=by
 intro fuel cs x an;obtain⟨xs,n,_,_,aC,aS,bF⟩:=DataW.trod_struct Tryz.underlying75 an;have iX:cs.length=2:=aC.trans (by kernel_rfl);obtain⟨gy,w0,ai⟩:=lX vV (bF 0 _ rfl) (by rw[getElem?_eq_getElem (by rw[aS];decide)];rfl);change aA w (F0 w) (.int .i64 gy) ((cs.drop 0).take (Tryz.prog.cellsOf 2)) _ at ai;rw[show Tryz.prog.cellsOf 2=1 by kernel_rfl]at ai;obtain⟨fG,hl,ea⟩:=lX YP (bF 1 _ rfl) (by rw[getElem?_eq_getElem (by rw[aS];decide)];rfl);change aA w (F0 w) (.slice (fG.map a1)) ((cs.drop 1).take (Tryz.prog.cellsOf 48)) _ at ea;rw[show Tryz.prog.cellsOf 48=1 by kernel_rfl]at ea;have key:=yS [(.int .i64 gy,0,1),(.slice (fG.map a1),1,1)] 0 (by rw[iX];rfl) ⟨ai,ea,trivial⟩;refine⟨⟨gy,fG⟩,⟨w0,hl⟩,?_⟩;show aA w (F0 w) (.agg [.int .i64 gy,.slice (fG.map a1)]) cs _;rw[aA];exact key
theorem apM {H:Type} {enc:TypeId×Value->H} {w:World} {base:Nat} {sp:Nat->Bool} {held:Bool}:kA enc Tryz.prog w base sp held 23 (λx:List k9=>.slice (x.map jG)) (λx:List k9=>(x.length<=9223372036854775807/\∀y∈x,Ex y)):=va (sz:=2) (ec:=jG) Tryz.underlying23 (by kernel_rfl) (by decide) (λ_=>rfl) apL
theorem apN {H:Type} {enc:TypeId×Value->H} {w:World} {base:Nat} {sp:Nat->Bool} {held:Bool}:kA enc Tryz.prog w base sp held 78 jk (λx:kQ=>Ey x):=by
 intro fuel cs x an;obtain⟨xs,n,_,_,aC,aS,bF⟩:=DataW.trod_struct Tryz.underlying78 an;have iX:cs.length=3:=aC.trans (by kernel_rfl);obtain⟨gy,w0,ai⟩:=lX CQ (bF 0 _ rfl) (by rw[getElem?_eq_getElem (by rw[aS];decide)];rfl);change aA w (F0 w) (.str gy) ((cs.drop 0).take (Tryz.prog.cellsOf 9)) _ at ai;rw[show Tryz.prog.cellsOf 9=1 by kernel_rfl]at ai;obtain⟨fG,hl,ea⟩:=lX CQ (bF 1 _ rfl) (by rw[getElem?_eq_getElem (by rw[aS];decide)];rfl);change aA w (F0 w) (.str fG) ((cs.drop 1).take (Tryz.prog.cellsOf 9)) _ at ea;rw[show Tryz.prog.cellsOf 9=1 by kernel_rfl]at ea;obtain⟨ie,jR,bf⟩:=lX CQ (bF 2 _ rfl) (by rw[getElem?_eq_getElem (by rw[aS];decide)];rfl);change aA w (F0 w) (.str ie) ((cs.drop 2).take (Tryz.prog.cellsOf 9)) _ at bf;rw[show Tryz.prog.cellsOf 9=1 by kernel_rfl]at bf;have key:=yS [(.str gy,0,1),(.str fG,1,1),(.str ie,2,1)] 0 (by rw[iX];rfl) ⟨ai,ea,bf,trivial⟩;refine⟨⟨gy,fG,ie⟩,⟨w0,hl,jR⟩,?_⟩;show aA w (F0 w) (.agg [.str gy,.str fG,.str ie]) cs _;rw[aA];exact key
theorem apO {H:Type} {enc:TypeId×Value->H} {w:World} {base:Nat} {sp:Nat->Bool} {held:Bool}:kA enc Tryz.prog w base sp held 24 (λx:List kQ=>.slice (x.map jk)) (λx:List kQ=>(x.length<=9223372036854775807/\∀y∈x,Ey y)):=va (sz:=3) (ec:=jk) Tryz.underlying24 (by kernel_rfl) (by decide) (λ_=>rfl) apN
theorem YQ {H:Type} {enc:TypeId×Value->H} {w:World} {base:Nat} {sp:Nat->Bool} {held:Bool}:kA enc Tryz.prog w base sp held 25 (λx:List (axa)=>.slice (x.map aW)) (λx:List (axa)=>(x.length<=9223372036854775807/\∀y∈x,y.length<=9223372036854775807)):=va (sz:=1) (ec:=aW) Tryz.underlying25 (by kernel_rfl) (by decide) (λ_=>rfl) CQ
theorem apP {H:Type} {enc:TypeId×Value->H} {w:World} {base:Nat} {sp:Nat->Bool} {held:Bool}:kA enc Tryz.prog w base sp held 27 uD (λx:oy=>Ez x):=by
 intro fuel cs x an;obtain⟨xs,n,_,_,aC,aS,bF⟩:=DataW.trod_struct Tryz.underlying27 an;have iX:cs.length=5:=aC.trans (by kernel_rfl);obtain⟨gy,w0,ai⟩:=lX apK (bF 0 _ rfl) (by rw[getElem?_eq_getElem (by rw[aS];decide)];rfl);change aA w (F0 w) (.slice (gy.map jF)) ((cs.drop 0).take (Tryz.prog.cellsOf 22)) _ at ai;rw[show Tryz.prog.cellsOf 22=1 by kernel_rfl]at ai;obtain⟨fG,hl,ea⟩:=lX apM (bF 1 _ rfl) (by rw[getElem?_eq_getElem (by rw[aS];decide)];rfl);change aA w (F0 w) (.slice (fG.map jG)) ((cs.drop 1).take (Tryz.prog.cellsOf 23)) _ at ea;rw[show Tryz.prog.cellsOf 23=1 by kernel_rfl]at ea;obtain⟨ie,jR,bf⟩:=lX apO (bF 2 _ rfl) (by rw[getElem?_eq_getElem (by rw[aS];decide)];rfl);change aA w (F0 w) (.slice (ie.map jk)) ((cs.drop 2).take (Tryz.prog.cellsOf 24)) _ at bf;rw[show Tryz.prog.cellsOf 24=1 by kernel_rfl]at bf;obtain⟨sj,vc,de⟩:=lX YQ (bF 3 _ rfl) (by rw[getElem?_eq_getElem (by rw[aS];decide)];rfl);change aA w (F0 w) (.slice (sj.map aW)) ((cs.drop 3).take (Tryz.prog.cellsOf 25)) _ at de;rw[show Tryz.prog.cellsOf 25=1 by kernel_rfl]at de;obtain⟨Kz,Rc,bR⟩:=lX YQ (bF 4 _ rfl) (by rw[getElem?_eq_getElem (by rw[aS];decide)];rfl);change aA w (F0 w) (.slice (Kz.map aW)) ((cs.drop 4).take (Tryz.prog.cellsOf 25)) _ at bR;rw[show Tryz.prog.cellsOf 25=1 by kernel_rfl]at bR;have key:=yS [(.slice (gy.map jF),0,1),(.slice (fG.map jG),1,1),(.slice (ie.map jk),2,1),(.slice (sj.map aW),3,1),(.slice (Kz.map aW),4,1)] 0 (by rw[iX];rfl) ⟨ai,ea,bf,de,bR,trivial⟩;refine⟨⟨gy,fG,ie,sj,Kz⟩,⟨w0,hl,jR,vc,Rc⟩,?_⟩;show aA w (F0 w) (.agg [.slice (gy.map jF),.slice (fG.map jG),.slice (ie.map jk),.slice (sj.map aW),.slice (Kz.map aW)]) cs _;rw[aA];exact key
theorem apQ {H:Type} {enc:TypeId×Value->H} {w:World} {base:Nat} {sp:Nat->Bool} {held:Bool}:kA enc Tryz.prog w base sp held 50 lF (λx:k_=>A9 x):=by
 intro fuel cs x an;obtain⟨xs,n,_,_,aC,aS,bF⟩:=DataW.trod_struct Tryz.underlying50 an;have iX:cs.length=3:=aC.trans (by kernel_rfl);obtain⟨gy,w0,ai⟩:=lX vV (bF 0 _ rfl) (by rw[getElem?_eq_getElem (by rw[aS];decide)];rfl);change aA w (F0 w) (.int .i64 gy) ((cs.drop 0).take (Tryz.prog.cellsOf 2)) _ at ai;rw[show Tryz.prog.cellsOf 2=1 by kernel_rfl]at ai;obtain⟨fG,hl,ea⟩:=lX vV (bF 1 _ rfl) (by rw[getElem?_eq_getElem (by rw[aS];decide)];rfl);change aA w (F0 w) (.int .i64 fG) ((cs.drop 1).take (Tryz.prog.cellsOf 2)) _ at ea;rw[show Tryz.prog.cellsOf 2=1 by kernel_rfl]at ea;obtain⟨ie,jR,bf⟩:=lX YP (bF 2 _ rfl) (by rw[getElem?_eq_getElem (by rw[aS];decide)];rfl);change aA w (F0 w) (.slice (ie.map a1)) ((cs.drop 2).take (Tryz.prog.cellsOf 48)) _ at bf;rw[show Tryz.prog.cellsOf 48=1 by kernel_rfl]at bf;have key:=yS [(.int .i64 gy,0,1),(.int .i64 fG,1,1),(.slice (ie.map a1),2,1)] 0 (by rw[iX];rfl) ⟨ai,ea,bf,trivial⟩;refine⟨⟨gy,fG,ie⟩,⟨w0,hl,jR⟩,?_⟩;show aA w (F0 w) (.agg [.int .i64 gy,.int .i64 fG,.slice (ie.map a1)]) cs _;rw[aA];exact key
theorem apR {H:Type} {enc:TypeId×Value->H} {w:World} {base:Nat} {sp:Nat->Bool} {held:Bool}:kA enc Tryz.prog w base sp held 28 (λx:List k_=>.slice (x.map lF)) (λx:List k_=>(x.length<=9223372036854775807/\∀y∈x,A9 y)):=va (sz:=3) (ec:=lF) Tryz.underlying28 (by kernel_rfl) (by decide) (λ_=>rfl) apQ
theorem gS {W:World} (o1:laidMetH Tryz.prog Rows.fnExactIsStuckRow.laid W):tj W λ_=>False:=λp ax=>by
 rcases mem_cons.1 ax with rfl|ax
 .exact age (name:= "strconv.ErrSyntax") (x:=Rows.laid_strconv_ErrSyntax) (t:=233) o1 (by kernel_rfl) (by kernel_rfl) Tryz.underlying233 ⟨_,_,rfl⟩ (by kernel_rfl)
 .rcases mem_cons.1 ax with rfl|ax
  .exact agh (name:= "internal/strconv.uint64pow10") (x:=Rows.laid_internal_strconv_uint64pow10) (t:=290) (e:=269) o1 (by kernel_rfl) (by kernel_rfl) Tryz.underlying290 Tryz.underlying269 (by kernel_rfl) (by kernel_rfl) (by kernel_rfl) (by kernel_rfl)
  .cases ax
theorem walk (w:World) (hg:tj w λ_=>False) (gy:oy) (AM:Ez gy) (v0:Value) (fG:axr) (u_:(fG.length<=9223372036854775807/\∀y∈fG,A9 y)) (v1:Value) (g0:Arg w (.agg [.slice (gy.cq.map jF),.slice (gy.b_.map jG),.slice (gy.b2.map jk),.slice (gy.cw.map aW),.slice (gy.ct.map aW)]) v0) (g1:Arg w (.slice (fG.map lF)) v1):
  Calls Tryz.prog 3 #[v0,v1] w λe aL=>e= .returned (.bool true)/\RowKit.Below w.heap.size w aL:=
 aV.law (C:=ah) (apC gy fG true (apS gy fG AM u_)) Tryz.func3 rfl rfl (.cons g0 (.cons g1 (.nil))) (hg:=hg)
set_option maxRecDepth 100000 in
theorem lifted (os:Os) (started:os.Started) (H:Type) (enc:TypeId×Value->H):
  ReturnsInHanded {} Tryz.checked os 3 .any (λw args=>(Rows.fnExactIsStuckSpec.pre enc Tryz.prog Tryz.f3 Rows.fnExactIsStuckRow.domain false w args/\laidMetH Tryz.prog Rows.fnExactIsStuckRow.laid w)/\sizedMet enc Tryz.prog Tryz.f3 (OpenSpec.ofChange Rows.fnExactIsStuckSpec) false w args) (Rows.fnExactIsStuckSpec.post enc Tryz.prog Tryz.f3 false true false false):=by
 refine returnsInHanded_of_change_and (C:=Tryz.checked) (X:=λw _=>laidMetH Tryz.prog Rows.fnExactIsStuckRow.laid w) (λ_ _ _ lQ h=>h.of_heap lQ) own started (by kernel_rfl) Tryz.func3
  (ChangeSpec.witness_shaped (enc:=enc) (C:=Tryz.checked) (os:=os) (X:=λw _=>laidMetH Tryz.prog Rows.fnExactIsStuckRow.laid w) false (World.laidAll Tryz.prog os Rows.fnExactIsStuckRow.laid) #[.agg #[.slice none 0 0,.slice none 0 0,.slice none 0 0,.slice none 0 0,.slice none 0 0],.slice none 0 0] 8 rfl (World.shaped_of_RefB (by kernel_rfl) (by kernel_rfl)) (by kernel_rfl) (by kernel_rfl) (by kernel_rfl) (apD os _)) ?_
 intro W base args ds gs before YR YS _ _ o1 _;have tE:∀(j:Nat) t v,Tryz.f3.params[j]? =some t->args[j]? =some v->Value.okWide Tryz.prog W .any base t v:=YR;have apT:=YS;obtain⟨p,q,AE,rU,rfl,awG,AR⟩:=YS;have iL:DataW.TrodAll enc Tryz.prog W 0 (λ_=>true) true Tryz.f3.params.toList args.toList ds p:=AE;rw[Tryz.params3]at iL tE;obtain⟨v0,awH,d0,awI,iU,At,qR,rfl,rfl,bb,ai⟩:=trodAll_cons iL;obtain⟨v1,awJ,d1,awK,hp,hj,rfl,rfl,rfl,ad,ea⟩:=trodAll_cons ai;obtain⟨rfl,rfl,rfl⟩:=trodAll_nil ea;obtain rfl:args= #[v0,v1]:=by cases args;simp_all
 obtain⟨rfl,rfl⟩:=trodVars_none rU;have zO:∀x∈iU,x.block<W.heap.size:=by obtain⟨m,hm⟩:=bb;exact DataW.trod_lt m _ _ _ hm
 obtain⟨gy,g0,AM⟩:=aeN (es:=λy:oy=>[.slice (y.cq.map jF),.slice (y.b_.map jG),.slice (y.b2.map jk),.slice (y.cw.map aW),.slice (y.ct.map aW)]) Tryz.underlying27 apP (tE 0 27 v0 rfl rfl) bb;have apU:∀x∈hp,x.block<W.heap.size:=by obtain⟨m,hm⟩:=ad;exact DataW.trod_lt m _ _ _ hm
 obtain⟨fG,g1,u_⟩:=aeM Tryz.underlying28 apR (tE 1 28 v1 rfl rfl) ad;clear AE YR;refine(walk W (gS o1) gy AM v0 fG u_ v1 g0 g1).mono λe awL ⟨he,Rd⟩=>?_;subst he;exact⟨_,rfl,_,_,_,[],_,[],apT,trodAll_mk1 (shut_bool Tryz.underlying4 _),(trodAll_cons_mk (Below.trod laidOut (by kernel_rfl) (of_decide_eq_true (by kernel_rfl)) bb Rd zO) (trodAll_cons_mk (Below.trod laidOut (by kernel_rfl) (of_decide_eq_true (by kernel_rfl)) ad Rd apU) trodAll_mk0)),rfl,Rd.frame _,λh=>by cases h⟩
def KA:List Char:=map Char.ofNat [104,97,114,110,101,115,115,32,49,99,50,99,56,98,99,56,48,100,101,53,52,98,98,97,52,101,49,49,54,100,100,101,54,98,55,98,57,54,55,98,55,55,56,49,56,53,98,50,51,101,100,97,102,100,56,48,57,56,54,54,100,53,54,50,51,99,102,48,48,102,99,99,32,99,117,116,32,97,116,32,108,111,111,112,46,101,120,97,109,112,108,101,47,103,48,49,48,55,53,47,108,97,119,115,46,70,110,69,120,97,99,116,73,115,83,116,117,99,107]
def GH:List Char:=map Char.ofNat [99,117,116]
theorem apV:Tryz.prog.initOrder=String.ofList KA:=by kernel_rfl
theorem KB:Tryz.prog.initOrder.toList=KA:=by rw[apV];exact String.toList_ofList
theorem YT:behindMainWord (wordsSigns KA)=GH::(behindMainWord (wordsSigns KA)).tail:=by kernel_rfl
theorem apW {P:Program} {L:List Char} {r:List (List Char)} (h:P.initOrder.toList=L) (hw:behindMainWord (wordsSigns L)=GH::r):P.make=some .cut:=by
 unfold Program.make;rw[h,hw];rfl
theorem apX {P:Program} {L:List Char} {r:List (List Char)} (h:P.initOrder.toList=L) (hw:behindMainWord (wordsSigns L)=GH::r) (ad:P.laysLater=false) (ae:P.bearsReflect=false) (aI:P.doorFits []=true):P.mayEnter=true:=by
 unfold Program.mayEnter;rw[h,hw];have e:stripLifts liftWords (GH::r)=([],GH::r):=rfl;simp only[e,ad,ae,aI];rfl
theorem apY:Tryz.prog.liftsFinal=false:=by unfold Program.liftsFinal Program.headLifts;rw[KB];kernel_rfl
theorem apZ:Tryz.prog.mayEnter=true:=apX KB YT (by kernel_rfl) (by kernel_rfl) (by kernel_rfl)
theorem ap0:Tryz.prog.make=some .cut:=apW KB YT
theorem ap1:joinedFacts Tryz.prog 3 Tryz.f3 Rows.fnExactIsStuckSpec Rows.fnExactIsStuckRow=true:=by
 unfold joinedFacts;rw[apY,apZ,ap0];kernel_rfl
theorem over:Rows.fnExactIsStuckRow.holds Tryz.pinned (OpenSpec.ofChange Rows.fnExactIsStuckSpec):=
 OpenClaim.holds_of_wide 3 Tryz.f3 rfl rfl rfl rfl rfl rfl rfl ⟨rfl,rfl,rfl,rfl,rfl⟩ rfl rfl rfl rfl rfl (by kernel_rfl) Tryz.func3 ap1
  (of_decide_eq_true (by kernel_rfl)) (by unfold Func.isWrapper;first|(rw[if_pos (by decide+kernel)];kernel_rfl)|(rw[if_neg (by decide+kernel)];exact⟨rfl,rfl⟩))
  (λos started H enc _=>lifted os started H enc)
theorem ap2:Tryz.prog.mainIs=some (Rows.fnExactIsStuckCard.stood.harness.1,Rows.fnExactIsStuckCard.stood.harness.2.toList):=by
 unfold Program.mainIs;rw[KB];kernel_rfl
theorem proved:Rows.FnExactIsStuckCardSaid:=
 Claim7.holds_tied_plain_at .later [] Rows.fnExactIsStuckCard.laidKinds true Rows.fnExactIsStuckCard.stood.harness true
  over (λ_ h=>by cases h) (by kernel_rfl) (λ_ h=>by cases h) fnExactIsStuck_row_tie rfl ⟨rfl,rfl⟩ ap2 rfl
  (λf fn bF ap3=>by
   obtain rfl:f=3:=some.inj ((show Tryz.prog.funcNamed Rows.fnExactIsStuckRow.func=some 3 by kernel_rfl).symm.trans bF)|>.symm;obtain rfl:fn=Tryz.f3:=(some.inj (Tryz.func3.symm.trans ap3)).symm;exact⟨by kernel_rfl,λj t aZ=>by
    rw[Tryz.params3]at aZ;have hm:t∈[27,28]:=by simpa using Array.mem_of_getElem? aZ
    have mY:([27,28].all λu=> !Tryz.prog.wantsStandIn u)=true:=by kernel_rfl
    exact(show Tryz.prog.wantsStandIn t=false by simpa using List.all_eq_true.1 mY t hm)⟩)
  (by kernel_rfl)
end Go.Proofs.YtmaepbgkcmjcjagGreatDoor.fnExactIsStuckCard
