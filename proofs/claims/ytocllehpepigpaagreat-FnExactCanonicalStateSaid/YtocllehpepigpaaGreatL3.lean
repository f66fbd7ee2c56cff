/- Part of a proof that a law returns true for every input. No condition. -/
import Derived.Test.YtocllehpepigpaaGreatRows
import Derived.Test.YtocllehpepigpaaGreatW3
import Derived.Test.YtocllehpepigpaaGreatFwI
import Derived.Test.YtocllehpepigpaaGreatUZ9
import Derived.WalkKit
import Derived.ProofKit
import Derived.OpenShut
import Derived.ChangeOld
import Derived.Below
import Derived.Carry
namespace Go.Proofs.YtocllehpepigpaaGreat.fnExactCanonicalState
open Go.ChangeShapes Go.WideShapes Go.ChangeAt Go.RowKit
open Go.cZ Go.eN
set_option linter.unusedVariables false
theorem own:ownKnob Tryz.prog.godebug=none:=by kernel_rfl
theorem laidOut:laidOutB Tryz.prog=true:=by kernel_rfl
theorem xb {H:Type} {enc:TypeId×Value→H} {w:World} {base:Nat} {sp:Nat→Bool} {held:Bool}:jh enc Tryz.prog w base sp held 9 (fun x:List UInt8=>.str x) (fun x:List UInt8=>x.length≤9223372036854775807):=Vn Tryz.underlying9
theorem q_ {H:Type} {enc:TypeId×Value→H} {w:World} {base:Nat} {sp:Nat→Bool} {held:Bool}:jh enc Tryz.prog w base sp held 2 (fun x:Int=>.int .i64 x) (fun x:Int=>(-9223372036854775808≤x∧x≤9223372036854775807)):=Vm Tryz.underlying2
theorem aAz {H:Type} {enc:TypeId×Value→H} {w:World} {base:Nat} {sp:Nat→Bool} {held:Bool}:jh enc Tryz.prog w base sp held 316 fN (fun x:ht=>wx x):=by
 intro fuel cs x aw
 obtain⟨xs,n,_,_,hl,a6,bC⟩:=DataW.trod_struct Tryz.underlying316 aw
 have hb:cs.length=2:=hl.trans (by kernel_rfl)
 obtain⟨fu,w0,al⟩:=j9 q_ (bC 0 _ rfl) (by rw[List.getElem?_eq_getElem (by rw[a6];decide)];rfl)
 change ax w (F0 w) (.int .i64 fu) ((cs.drop 0).take (Tryz.prog.cellsOf 2)) _ at al
 rw[show Tryz.prog.cellsOf 2=1 by kernel_rfl]at al
 obtain⟨eT,fe,dw⟩:=j9 q_ (bC 1 _ rfl) (by rw[List.getElem?_eq_getElem (by rw[a6];decide)];rfl)
 change ax w (F0 w) (.int .i64 eT) ((cs.drop 1).take (Tryz.prog.cellsOf 2)) _ at dw
 rw[show Tryz.prog.cellsOf 2=1 by kernel_rfl]at dw
 have key:=tt [(.int .i64 fu,0,1),(.int .i64 eT,1,1)] 0 (by rw[hb];rfl) ⟨al,dw,trivial⟩
 refine⟨⟨fu,eT⟩,⟨w0,fe⟩,?_⟩
 show ax w (F0 w) (.agg [.int .i64 fu,.int .i64 eT]) cs _
 rw[ax]
 exact key
theorem aAA {H:Type} {enc:TypeId×Value→H} {w:World} {base:Nat} {sp:Nat→Bool} {held:Bool}:jh enc Tryz.prog w base sp held 301 (fun x:List ht=>.slice (x.map fN)) (fun x:List ht=>(x.length≤9223372036854775807∧∀y∈x,wx y)):=qW (sz:=2) (ec:=fN) Tryz.underlying301 (by kernel_rfl) (by decide) (fun _=>rfl) aAz
theorem aAB {H:Type} {enc:TypeId×Value→H} {w:World} {base:Nat} {sp:Nat→Bool} {held:Bool}:jh enc Tryz.prog w base sp held 218 (fun x:List (List ht)=>.slice (x.map fT)) (fun x:List (List ht)=>(x.length≤9223372036854775807∧∀y∈x,(y.length≤9223372036854775807∧∀z∈y,wx z))):=qW (sz:=1) (ec:=fT) Tryz.underlying218 (by kernel_rfl) (by decide) (fun _=>rfl) aAA
theorem aAC {H:Type} {enc:TypeId×Value→H} {w:World} {base:Nat} {sp:Nat→Bool} {held:Bool}:jh enc Tryz.prog w base sp held 220 gi (fun x:iT=>yK x):=by
 intro fuel cs x aw
 obtain⟨xs,n,_,_,hl,a6,bC⟩:=DataW.trod_struct Tryz.underlying220 aw
 have hb:cs.length=4:=hl.trans (by kernel_rfl)
 obtain⟨fu,w0,al⟩:=j9 q_ (bC 0 _ rfl) (by rw[List.getElem?_eq_getElem (by rw[a6];decide)];rfl)
 change ax w (F0 w) (.int .i64 fu) ((cs.drop 0).take (Tryz.prog.cellsOf 2)) _ at al
 rw[show Tryz.prog.cellsOf 2=1 by kernel_rfl]at al
 obtain⟨eT,fe,dw⟩:=j9 q_ (bC 1 _ rfl) (by rw[List.getElem?_eq_getElem (by rw[a6];decide)];rfl)
 change ax w (F0 w) (.int .i64 eT) ((cs.drop 1).take (Tryz.prog.cellsOf 2)) _ at dw
 rw[show Tryz.prog.cellsOf 2=1 by kernel_rfl]at dw
 obtain⟨gV,gg,bg⟩:=j9 xb (bC 2 _ rfl) (by rw[List.getElem?_eq_getElem (by rw[a6];decide)];rfl)
 change ax w (F0 w) (.str gV) ((cs.drop 2).take (Tryz.prog.cellsOf 9)) _ at bg
 rw[show Tryz.prog.cellsOf 9=1 by kernel_rfl]at bg
 obtain⟨kE,mJ,di⟩:=j9 aAB (bC 3 _ rfl) (by rw[List.getElem?_eq_getElem (by rw[a6];decide)];rfl)
 change ax w (F0 w) (.slice (kE.map fT)) ((cs.drop 3).take (Tryz.prog.cellsOf 218)) _ at di
 rw[show Tryz.prog.cellsOf 218=1 by kernel_rfl]at di
 have key:=tt [(.int .i64 fu,0,1),(.int .i64 eT,1,1),(.str gV,2,1),(.slice (kE.map fT),3,1)] 0 (by rw[hb];rfl) ⟨al,dw,bg,di,trivial⟩
 refine⟨⟨fu,eT,gV,kE⟩,⟨w0,fe,gg,mJ⟩,?_⟩
 show ax w (F0 w) (.agg [.int .i64 fu,.int .i64 eT,.str gV,.slice (kE.map fT)]) cs _
 rw[ax]
 exact key
theorem aAD {H:Type} {enc:TypeId×Value→H} {w:World} {base:Nat} {sp:Nat→Bool} {held:Bool}:jh enc Tryz.prog w base sp held 107 (fun x:List iT=>.slice (x.map gi)) (fun x:List iT=>(x.length≤9223372036854775807∧∀y∈x,yK y)):=qW (sz:=4) (ec:=gi) Tryz.underlying107 (by kernel_rfl) (by decide) (fun _=>rfl) aAC
theorem aAE {H:Type} {enc:TypeId×Value→H} {w:World} {base:Nat} {sp:Nat→Bool} {held:Bool}:jh enc Tryz.prog w base sp held 109 gJ (fun x:iU=>yL x):=by
 intro fuel cs x aw
 obtain⟨xs,n,_,_,hl,a6,bC⟩:=DataW.trod_struct Tryz.underlying109 aw
 have hb:cs.length=3:=hl.trans (by kernel_rfl)
 obtain⟨fu,w0,al⟩:=j9 xb (bC 0 _ rfl) (by rw[List.getElem?_eq_getElem (by rw[a6];decide)];rfl)
 change ax w (F0 w) (.str fu) ((cs.drop 0).take (Tryz.prog.cellsOf 9)) _ at al
 rw[show Tryz.prog.cellsOf 9=1 by kernel_rfl]at al
 obtain⟨eT,fe,dw⟩:=j9 q_ (bC 1 _ rfl) (by rw[List.getElem?_eq_getElem (by rw[a6];decide)];rfl)
 change ax w (F0 w) (.int .i64 eT) ((cs.drop 1).take (Tryz.prog.cellsOf 2)) _ at dw
 rw[show Tryz.prog.cellsOf 2=1 by kernel_rfl]at dw
 obtain⟨gV,gg,bg⟩:=j9 aAD (bC 2 _ rfl) (by rw[List.getElem?_eq_getElem (by rw[a6];decide)];rfl)
 change ax w (F0 w) (.slice (gV.map gi)) ((cs.drop 2).take (Tryz.prog.cellsOf 107)) _ at bg
 rw[show Tryz.prog.cellsOf 107=1 by kernel_rfl]at bg
 have key:=tt [(.str fu,0,1),(.int .i64 eT,1,1),(.slice (gV.map gi),2,1)] 0 (by rw[hb];rfl) ⟨al,dw,bg,trivial⟩
 refine⟨⟨fu,eT,gV⟩,⟨w0,fe,gg⟩,?_⟩
 show ax w (F0 w) (.agg [.str fu,.int .i64 eT,.slice (gV.map gi)]) cs _
 rw[ax]
 exact key
theorem aAF {H:Type} {enc:TypeId×Value→H} {w:World} {base:Nat} {sp:Nat→Bool} {held:Bool}:jh enc Tryz.prog w base sp held 22 (fun x:List iU=>.slice (x.map gJ)) (fun x:List iU=>(x.length≤9223372036854775807∧∀y∈x,yL y)):=qW (sz:=3) (ec:=gJ) Tryz.underlying22 (by kernel_rfl) (by decide) (fun _=>rfl) aAE
theorem Qi {H:Type} {enc:TypeId×Value→H} {w:World} {base:Nat} {sp:Nat→Bool} {held:Bool}:jh enc Tryz.prog w base sp held 46 (fun x:List Int=>.slice (x.map bs)) (fun x:List Int=>(x.length≤9223372036854775807∧∀y∈x,(-9223372036854775808≤y∧y≤9223372036854775807))):=qW (sz:=1) (ec:=bs) Tryz.underlying46 (by kernel_rfl) (by decide) (fun _=>rfl) q_
theorem aAG {H:Type} {enc:TypeId×Value→H} {w:World} {base:Nat} {sp:Nat→Bool} {held:Bool}:jh enc Tryz.prog w base sp held 111 gK (fun x:iV=>yM x):=by
 intro fuel cs x aw
 obtain⟨xs,n,_,_,hl,a6,bC⟩:=DataW.trod_struct Tryz.underlying111 aw
 have hb:cs.length=2:=hl.trans (by kernel_rfl)
 obtain⟨fu,w0,al⟩:=j9 q_ (bC 0 _ rfl) (by rw[List.getElem?_eq_getElem (by rw[a6];decide)];rfl)
 change ax w (F0 w) (.int .i64 fu) ((cs.drop 0).take (Tryz.prog.cellsOf 2)) _ at al
 rw[show Tryz.prog.cellsOf 2=1 by kernel_rfl]at al
 obtain⟨eT,fe,dw⟩:=j9 Qi (bC 1 _ rfl) (by rw[List.getElem?_eq_getElem (by rw[a6];decide)];rfl)
 change ax w (F0 w) (.slice (eT.map bs)) ((cs.drop 1).take (Tryz.prog.cellsOf 46)) _ at dw
 rw[show Tryz.prog.cellsOf 46=1 by kernel_rfl]at dw
 have key:=tt [(.int .i64 fu,0,1),(.slice (eT.map bs),1,1)] 0 (by rw[hb];rfl) ⟨al,dw,trivial⟩
 refine⟨⟨fu,eT⟩,⟨w0,fe⟩,?_⟩
 show ax w (F0 w) (.agg [.int .i64 fu,.slice (eT.map bs)]) cs _
 rw[ax]
 exact key
theorem aAH {H:Type} {enc:TypeId×Value→H} {w:World} {base:Nat} {sp:Nat→Bool} {held:Bool}:jh enc Tryz.prog w base sp held 23 (fun x:List iV=>.slice (x.map gK)) (fun x:List iV=>(x.length≤9223372036854775807∧∀y∈x,yM y)):=qW (sz:=2) (ec:=gK) Tryz.underlying23 (by kernel_rfl) (by decide) (fun _=>rfl) aAG
theorem aAI {H:Type} {enc:TypeId×Value→H} {w:World} {base:Nat} {sp:Nat→Bool} {held:Bool}:jh enc Tryz.prog w base sp held 114 gx (fun x:iG=>yN x):=by
 intro fuel cs x aw
 obtain⟨xs,n,_,_,hl,a6,bC⟩:=DataW.trod_struct Tryz.underlying114 aw
 have hb:cs.length=3:=hl.trans (by kernel_rfl)
 obtain⟨fu,w0,al⟩:=j9 xb (bC 0 _ rfl) (by rw[List.getElem?_eq_getElem (by rw[a6];decide)];rfl)
 change ax w (F0 w) (.str fu) ((cs.drop 0).take (Tryz.prog.cellsOf 9)) _ at al
 rw[show Tryz.prog.cellsOf 9=1 by kernel_rfl]at al
 obtain⟨eT,fe,dw⟩:=j9 xb (bC 1 _ rfl) (by rw[List.getElem?_eq_getElem (by rw[a6];decide)];rfl)
 change ax w (F0 w) (.str eT) ((cs.drop 1).take (Tryz.prog.cellsOf 9)) _ at dw
 rw[show Tryz.prog.cellsOf 9=1 by kernel_rfl]at dw
 obtain⟨gV,gg,bg⟩:=j9 xb (bC 2 _ rfl) (by rw[List.getElem?_eq_getElem (by rw[a6];decide)];rfl)
 change ax w (F0 w) (.str gV) ((cs.drop 2).take (Tryz.prog.cellsOf 9)) _ at bg
 rw[show Tryz.prog.cellsOf 9=1 by kernel_rfl]at bg
 have key:=tt [(.str fu,0,1),(.str eT,1,1),(.str gV,2,1)] 0 (by rw[hb];rfl) ⟨al,dw,bg,trivial⟩
 refine⟨⟨fu,eT,gV⟩,⟨w0,fe,gg⟩,?_⟩
 show ax w (F0 w) (.agg [.str fu,.str eT,.str gV]) cs _
 rw[ax]
 exact key
theorem aAJ {H:Type} {enc:TypeId×Value→H} {w:World} {base:Nat} {sp:Nat→Bool} {held:Bool}:jh enc Tryz.prog w base sp held 24 (fun x:List iG=>.slice (x.map gx)) (fun x:List iG=>(x.length≤9223372036854775807∧∀y∈x,yN y)):=qW (sz:=3) (ec:=gx) Tryz.underlying24 (by kernel_rfl) (by decide) (fun _=>rfl) aAI
theorem Qj {H:Type} {enc:TypeId×Value→H} {w:World} {base:Nat} {sp:Nat→Bool} {held:Bool}:jh enc Tryz.prog w base sp held 25 (fun x:List (List UInt8)=>.slice (x.map bE)) (fun x:List (List UInt8)=>(x.length≤9223372036854775807∧∀y∈x,y.length≤9223372036854775807)):=qW (sz:=1) (ec:=bE) Tryz.underlying25 (by kernel_rfl) (by decide) (fun _=>rfl) xb
theorem aAK {H:Type} {enc:TypeId×Value→H} {w:World} {base:Nat} {sp:Nat→Bool} {held:Bool}:jh enc Tryz.prog w base sp held 27 jy (fun x:k6=>yO x):=by
 intro fuel cs x aw
 obtain⟨xs,n,_,_,hl,a6,bC⟩:=DataW.trod_struct Tryz.underlying27 aw
 have hb:cs.length=5:=hl.trans (by kernel_rfl)
 obtain⟨fu,w0,al⟩:=j9 aAF (bC 0 _ rfl) (by rw[List.getElem?_eq_getElem (by rw[a6];decide)];rfl)
 change ax w (F0 w) (.slice (fu.map gJ)) ((cs.drop 0).take (Tryz.prog.cellsOf 22)) _ at al
 rw[show Tryz.prog.cellsOf 22=1 by kernel_rfl]at al
 obtain⟨eT,fe,dw⟩:=j9 aAH (bC 1 _ rfl) (by rw[List.getElem?_eq_getElem (by rw[a6];decide)];rfl)
 change ax w (F0 w) (.slice (eT.map gK)) ((cs.drop 1).take (Tryz.prog.cellsOf 23)) _ at dw
 rw[show Tryz.prog.cellsOf 23=1 by kernel_rfl]at dw
 obtain⟨gV,gg,bg⟩:=j9 aAJ (bC 2 _ rfl) (by rw[List.getElem?_eq_getElem (by rw[a6];decide)];rfl)
 change ax w (F0 w) (.slice (gV.map gx)) ((cs.drop 2).take (Tryz.prog.cellsOf 24)) _ at bg
 rw[show Tryz.prog.cellsOf 24=1 by kernel_rfl]at bg
 obtain⟨kE,mJ,di⟩:=j9 Qj (bC 3 _ rfl) (by rw[List.getElem?_eq_getElem (by rw[a6];decide)];rfl)
 change ax w (F0 w) (.slice (kE.map bE)) ((cs.drop 3).take (Tryz.prog.cellsOf 25)) _ at di
 rw[show Tryz.prog.cellsOf 25=1 by kernel_rfl]at di
 obtain⟨pC,IP,cd⟩:=j9 Qj (bC 4 _ rfl) (by rw[List.getElem?_eq_getElem (by rw[a6];decide)];rfl)
 change ax w (F0 w) (.slice (pC.map bE)) ((cs.drop 4).take (Tryz.prog.cellsOf 25)) _ at cd
 rw[show Tryz.prog.cellsOf 25=1 by kernel_rfl]at cd
 have key:=tt [(.slice (fu.map gJ),0,1),(.slice (eT.map gK),1,1),(.slice (gV.map gx),2,1),(.slice (kE.map bE),3,1),(.slice (pC.map bE),4,1)] 0 (by rw[hb];rfl) ⟨al,dw,bg,di,cd,trivial⟩
 refine⟨⟨fu,eT,gV,kE,pC⟩,⟨w0,fe,gg,mJ,IP⟩,?_⟩
 show ax w (F0 w) (.agg [.slice (fu.map gJ),.slice (eT.map gK),.slice (gV.map gx),.slice (kE.map bE),.slice (pC.map bE)]) cs _
 rw[ax]
 exact key
theorem aAL {H:Type} {enc:TypeId×Value→H} {w:World} {base:Nat} {sp:Nat→Bool} {held:Bool}:jh enc Tryz.prog w base sp held 73 gy (fun x:iH=>wy x):=by
 intro fuel cs x aw
 obtain⟨xs,n,_,_,hl,a6,bC⟩:=DataW.trod_struct Tryz.underlying73 aw
 have hb:cs.length=3:=hl.trans (by kernel_rfl)
 obtain⟨fu,w0,al⟩:=j9 q_ (bC 0 _ rfl) (by rw[List.getElem?_eq_getElem (by rw[a6];decide)];rfl)
 change ax w (F0 w) (.int .i64 fu) ((cs.drop 0).take (Tryz.prog.cellsOf 2)) _ at al
 rw[show Tryz.prog.cellsOf 2=1 by kernel_rfl]at al
 obtain⟨eT,fe,dw⟩:=j9 q_ (bC 1 _ rfl) (by rw[List.getElem?_eq_getElem (by rw[a6];decide)];rfl)
 change ax w (F0 w) (.int .i64 eT) ((cs.drop 1).take (Tryz.prog.cellsOf 2)) _ at dw
 rw[show Tryz.prog.cellsOf 2=1 by kernel_rfl]at dw
 obtain⟨gV,gg,bg⟩:=j9 Qi (bC 2 _ rfl) (by rw[List.getElem?_eq_getElem (by rw[a6];decide)];rfl)
 change ax w (F0 w) (.slice (gV.map bs)) ((cs.drop 2).take (Tryz.prog.cellsOf 46)) _ at bg
 rw[show Tryz.prog.cellsOf 46=1 by kernel_rfl]at bg
 have key:=tt [(.int .i64 fu,0,1),(.int .i64 eT,1,1),(.slice (gV.map bs),2,1)] 0 (by rw[hb];rfl) ⟨al,dw,bg,trivial⟩
 refine⟨⟨fu,eT,gV⟩,⟨w0,fe,gg⟩,?_⟩
 show ax w (F0 w) (.agg [.int .i64 fu,.int .i64 eT,.slice (gV.map bs)]) cs _
 rw[ax]
 exact key
theorem aAM {H:Type} {enc:TypeId×Value→H} {w:World} {base:Nat} {sp:Nat→Bool} {held:Bool}:jh enc Tryz.prog w base sp held 28 (fun x:List iH=>.slice (x.map gy)) (fun x:List iH=>(x.length≤9223372036854775807∧∀y∈x,wy y)):=qW (sz:=3) (ec:=gy) Tryz.underlying28 (by kernel_rfl) (by decide) (fun _=>rfl) aAL
theorem walk (w:World) (fu:k6) (Bp:yO fu) (v0:Value) (eT:List iH) (rL:(eT.length≤9223372036854775807∧∀y∈eT,wy y)) (v1:Value) (g0:Arg w (.agg [.slice (fu.ew.map gJ),.slice (fu.c8.map gK),.slice (fu.hE.map gx),.slice (fu.hv.map bE),.slice (fu.hx.map bE)]) v0) (g1:Arg w (.slice (eT.map gy)) v1):
  Calls Tryz.prog 3 #[v0,v1] w fun e aG=>e= .returned (.bool true)∧RowKit.Below w.heap.size w aG:=
 bl.law (C:=aB) (aAg fu eT true (aAN fu eT Bp rL)) Tryz.func3 rfl rfl (.cons g0 (.cons g1 (.nil)))
set_option maxRecDepth 100000 in
theorem lifted (os:Os) (started:os.Started) (H:Type) (enc:TypeId×Value→H):
  ReturnsInHanded {} Tryz.checked os 3 .any (Rows.fnExactCanonicalStateSpec.pre6 enc Tryz.prog Tryz.f3 Rows.fnExactCanonicalStateRow.domain false) (Rows.fnExactCanonicalStateSpec.post enc Tryz.prog Tryz.f3 false true false false):=by
 refine returnsInHanded_of_change (C:=Tryz.checked) own started (by kernel_rfl) Tryz.func3
  (ChangeSpec.witness6 (enc:=enc) (C:=Tryz.checked) false ⟨#[],#[.agg #[.slice none 0 0,.slice none 0 0,.slice none 0 0,.slice none 0 0,.slice none 0 0],.slice none 0 0],[]⟩ 8 (by kernel_rfl) (by kernel_rfl) (by kernel_rfl) (by kernel_rfl)) ?_
 intro W base args ds gs before Qk wm aFD _
 have p8:∀(j:Nat) t v,Tryz.f3.params[j]? =some t→args[j]? =some v→Value.okWide Tryz.prog W .any base t v:=Qk
 have aAO:=wm
 obtain⟨p,q,vm,oW,rfl,aFE,vA⟩:=wm
 have iQ:DataW.TrodAll enc Tryz.prog W 0 (fun _=>true) true Tryz.f3.params.toList args.toList ds p:=vm
 rw[Tryz.params3]at iQ p8
 obtain⟨v0,aFF,d0,aFG,h5,AX,na,rfl,rfl,bf,al⟩:=trodAll_cons iQ
 obtain⟨v1,aFH,d1,aFI,fQ,hd,rfl,rfl,rfl,h1,dw⟩:=trodAll_cons al
 obtain⟨rfl,rfl,rfl⟩:=trodAll_nil dw
 obtain rfl:args= #[v0,v1]:=by cases args;simp_all
 obtain⟨rfl,rfl⟩:=trodVars_none oW
 have xc:∀x∈h5,x.block<W.heap.size:=by obtain⟨m,hm⟩:=bf;exact DataW.trod_lt m _ _ _ hm
 obtain⟨fu,g0,Bp⟩:=Vt (es:=fun y:k6=>[.slice (y.ew.map gJ),.slice (y.c8.map gK),.slice (y.hE.map gx),.slice (y.hv.map bE),.slice (y.hx.map bE)]) Tryz.underlying27 aAK (p8 0 27 v0 rfl rfl) bf
 have aAP:∀x∈fQ,x.block<W.heap.size:=by obtain⟨m,hm⟩:=h1;exact DataW.trod_lt m _ _ _ hm
 obtain⟨eT,g1,rL⟩:=Vs Tryz.underlying28 aAM (p8 1 28 v1 rfl rfl) h1
 clear vm Qk
 refine(walk W fu Bp v0 eT rL v1 g0 g1).mono fun e aFJ ⟨he,IQ⟩=> ?_
 subst he
 exact⟨_,rfl,_,_,_,[],_,[],aAO,trodAll_mk1 (shut_bool Tryz.underlying4 _),(trodAll_cons_mk (Below.trod laidOut (by kernel_rfl) (of_decide_eq_true (by kernel_rfl)) bf IQ xc) (trodAll_cons_mk (Below.trod laidOut (by kernel_rfl) (of_decide_eq_true (by kernel_rfl)) h1 IQ aAP) trodAll_mk0)),rfl,IQ.frame _,fun h=>by cases h⟩
def EI:List Char:=List.map Char.ofNat [104,97,114,110,101,115,115,32,55,99,49,49,52,50,54,50,55,53,57,101,48,102,51,53,54,48,48,100,54,48,54,51,53,50,97,99,50,54,98,53,98,55,53,48,97,100,54,102,55,55,97,54,56,50,51,55,99,100,100,100,54,48,100,97,48,55,53,48,97,99,99,102,32,99,117,116,32,97,116,32,108,111,111,112,46,101,120,97,109,112,108,101,47,103,48,49,48,55,53,47,108,97,119,115,46,70,110,69,120,97,99,116,67,97,110,111,110,105,99,97,108,83,116,97,116,101,32,108,111,111,112,46,101,120,97,109,112,108,101,47,103,48,49,48,55,53,47,108,97,119,115,46,70,110,69,120,97,99,116,76,105,110,101,97,114,79,102,32,108,111,111,112,46,101,120,97,109,112,108,101,47,103,48,49,48,55,53,47,108,97,119,115,46,70,110,69,120,97,99,116,80,101,114,109,117,116,101,83,116,97,116,101,32,108,111,111,112,46,101,120,97,109,112,108,101,47,103,48,49,48,55,53,47,108,97,119,115,46,70,110,69,120,97,99,116,79,114,98,105,116,83,105,122,101,32,108,111,111,112,46,101,120,97,109,112,108,101,47,103,48,49,48,55,53,47,108,97,119,115,46,70,110,69,120,97,99,116,79,114,98,105,116,79,102]
def Az:List Char:=List.map Char.ofNat [99,117,116]
theorem aAQ:Tryz.prog.initOrder=String.ofList EI:=by kernel_rfl
theorem IU:Tryz.prog.initOrder.toList=EI:=by rw[aAQ];exact String.toList_ofList
theorem Ql:behindMainWord (wordsSigns EI)=Az::(behindMainWord (wordsSigns EI)).tail:=by kernel_rfl
theorem aAR {P:Program} {L:List Char} {r:List (List Char)} (h:P.initOrder.toList=L) (hw:behindMainWord (wordsSigns L)=Az::r):P.make=some .cut:=by
 unfold Program.make;rw[h,hw];rfl
theorem aAS {P:Program} {L:List Char} {r:List (List Char)} (h:P.initOrder.toList=L) (hw:behindMainWord (wordsSigns L)=Az::r) (h1:P.laysLater=false) (ah:P.bearsReflect=false) (aC:P.doorFits []=true):P.mayEnter=true:=by
 unfold Program.mayEnter;rw[h,hw]
 have e:stripLifts liftWords (Az::r)=([],Az::r):=rfl
 simp only[e,h1,ah,aC]
 rfl
theorem aAT:Tryz.prog.liftsFinal=false:=by unfold Program.liftsFinal Program.headLifts;rw[IU];kernel_rfl
theorem aAU:Tryz.prog.mayEnter=true:=aAS IU Ql (by kernel_rfl) (by kernel_rfl) (by kernel_rfl)
theorem aAV:Tryz.prog.make=some .cut:=aAR IU Ql
theorem aAW:joinedFacts Tryz.prog 3 Tryz.f3 Rows.fnExactCanonicalStateSpec Rows.fnExactCanonicalStateRow=true:=by
 unfold joinedFacts
 rw[aAT,aAU,aAV]
 kernel_rfl
theorem over:Rows.fnExactCanonicalStateRow.holds Tryz.pinned (OpenSpec.ofChange Rows.fnExactCanonicalStateSpec):=
 OpenClaim.holds_of_wide 3 Tryz.f3 rfl rfl rfl rfl rfl rfl rfl ⟨rfl,rfl,rfl,rfl,rfl⟩ rfl rfl rfl rfl rfl (by kernel_rfl) Tryz.func3 aAW
  (of_decide_eq_true (by kernel_rfl)) (by unfold Func.isWrapper;first|(rw[if_pos (by decide+kernel)];kernel_rfl)|(rw[if_neg (by decide+kernel)];exact⟨rfl,rfl⟩))
  (fun os started H enc _=>lifted os started H enc)
theorem proved:Rows.FnExactCanonicalStateSaid:=over
end Go.Proofs.YtocllehpepigpaaGreat.fnExactCanonicalState
