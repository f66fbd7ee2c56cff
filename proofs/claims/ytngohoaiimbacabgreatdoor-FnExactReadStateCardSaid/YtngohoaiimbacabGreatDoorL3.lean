/- Part of a proof that a law returns true for every input. No condition. -/
import Derived.Test.YtngohoaiimbacabGreatDoorRows
import Derived.Test.YtngohoaiimbacabGreatDoorTie
import Derived.Test.YtngohoaiimbacabGreatDoorCards
import Derived.SevenTiedAt
import Derived.MakeChecks
import Derived.LaidMore
import Derived.Stop.Joined
import Derived.Test.YtngohoaiimbacabGreatDoorFwR
import Derived.Lay
import Derived.Test.YtngohoaiimbacabGreatDoorW3
import Derived.Test.YtngohoaiimbacabGreatDoorFwI
import Derived.Test.YtngohoaiimbacabGreatDoorUV4x
import Derived.WalkKit
import Derived.ProofKit
import Derived.OpenShut
import Derived.ChangeOld
import Derived.Below
import Derived.Carry
namespace Go.Proofs.YtngohoaiimbacabGreatDoor.fnExactReadStateCard
open List Option Go.IntKind Nat Or
open Go.ChangeShapes Go.WideShapes Go.ChangeAt Go.RowKit
open Go.c_ Go.lV
set_option linter.unusedVariables false
theorem own:ownKnob Tryz.prog.godebug=none:=by kernel_rfl
theorem laidOut:laidOutB Tryz.prog=true:=by kernel_rfl
theorem acH (os:Os) (args:Array Value):laidMetH Tryz.prog Rows.fnExactReadStateRow.laid ((World.laidAll Tryz.prog os Rows.fnExactReadStateRow.laid).forCall (λ_ _=>0) ⟨#[],args,[]⟩).memory:=by
 have h:=laidMet_laidAll (P:=Tryz.prog) (os:=os) (laid:=Rows.fnExactReadStateRow.laid) args (by kernel_rfl) (by kernel_rfl);unfold laidMetH;rw[show(Rows.fnExactReadStateRow.laid.filter λx=>x.2.handleName?.isSome)=[] by kernel_rfl];exact h
theorem vQ {H:Type} {enc:TypeId×Value->H} {w:World} {base:Nat} {sp:Nat->Bool} {held:Bool}:jt enc Tryz.prog w base sp held 9 (λx:List UInt8=>.str x) (λx:List UInt8=>x.length<=9223372036854775807):=TZ Tryz.underlying9
theorem tL {H:Type} {enc:TypeId×Value->H} {w:World} {base:Nat} {sp:Nat->Bool} {held:Bool}:jt enc Tryz.prog w base sp held 2 (λx:Int=>.int .i64 x) (λx:Int=>(-9223372036854775808<=x/\x<=9223372036854775807)):=TY Tryz.underlying2
theorem acI {H:Type} {enc:TypeId×Value->H} {w:World} {base:Nat} {sp:Nat->Bool} {held:Bool}:jt enc Tryz.prog w base sp held 257 kl (λx:hA=>u0 x):=by
 intro fuel cs x ar;obtain⟨xs,n,_,_,hl,aU,bd⟩:=DataW.trod_struct Tryz.underlying257 ar;have hj:cs.length=2:=hl.trans (by kernel_rfl);obtain⟨fB,w0,ah⟩:=kH tL (bd 0 _ rfl) (by rw[getElem?_eq_getElem (by rw[aU];decide)];rfl);change au w (F0 w) (.int .i64 fB) ((cs.drop 0).take (Tryz.prog.cellsOf 2)) _ at ah;rw[show Tryz.prog.cellsOf 2=1 by kernel_rfl]at ah;obtain⟨eL,fs,dm⟩:=kH tL (bd 1 _ rfl) (by rw[getElem?_eq_getElem (by rw[aU];decide)];rfl);change au w (F0 w) (.int .i64 eL) ((cs.drop 1).take (Tryz.prog.cellsOf 2)) _ at dm;rw[show Tryz.prog.cellsOf 2=1 by kernel_rfl]at dm;have key:=uR [(.int .i64 fB,0,1),(.int .i64 eL,1,1)] 0 (by rw[hj];rfl) ⟨ah,dm,trivial⟩;refine⟨⟨fB,eL⟩,⟨w0,fs⟩,?_⟩;show au w (F0 w) (.agg [.int .i64 fB,.int .i64 eL]) cs _;rw[au];exact key
theorem acJ {H:Type} {enc:TypeId×Value->H} {w:World} {base:Nat} {sp:Nat->Bool} {held:Bool}:jt enc Tryz.prog w base sp held 227 (λx:List hA=>.slice (x.map kl)) (λx:List hA=>(x.length<=9223372036854775807/\∀y∈x,u0 y)):=rA (sz:=2) (ec:=kl) Tryz.underlying227 (by kernel_rfl) (by decide) (λ_=>rfl) acI
theorem acK {H:Type} {enc:TypeId×Value->H} {w:World} {base:Nat} {sp:Nat->Bool} {held:Bool}:jt enc Tryz.prog w base sp held 154 (λx:List (ahE)=>.slice (x.map jd)) (λx:List (ahE)=>(x.length<=9223372036854775807/\∀y∈x,(y.length<=9223372036854775807/\∀z∈y,u0 z))):=rA (sz:=1) (ec:=jd) Tryz.underlying154 (by kernel_rfl) (by decide) (λ_=>rfl) acJ
theorem acL {H:Type} {enc:TypeId×Value->H} {w:World} {base:Nat} {sp:Nat->Bool} {held:Bool}:jt enc Tryz.prog w base sp held 156 ie (λx:i_=>xB x):=by
 intro fuel cs x ar;obtain⟨xs,n,_,_,hl,aU,bd⟩:=DataW.trod_struct Tryz.underlying156 ar;have hj:cs.length=4:=hl.trans (by kernel_rfl);obtain⟨fB,w0,ah⟩:=kH tL (bd 0 _ rfl) (by rw[getElem?_eq_getElem (by rw[aU];decide)];rfl);change au w (F0 w) (.int .i64 fB) ((cs.drop 0).take (Tryz.prog.cellsOf 2)) _ at ah;rw[show Tryz.prog.cellsOf 2=1 by kernel_rfl]at ah;obtain⟨eL,fs,dm⟩:=kH tL (bd 1 _ rfl) (by rw[getElem?_eq_getElem (by rw[aU];decide)];rfl);change au w (F0 w) (.int .i64 eL) ((cs.drop 1).take (Tryz.prog.cellsOf 2)) _ at dm;rw[show Tryz.prog.cellsOf 2=1 by kernel_rfl]at dm;obtain⟨gT,gO,a7⟩:=kH vQ (bd 2 _ rfl) (by rw[getElem?_eq_getElem (by rw[aU];decide)];rfl);change au w (F0 w) (.str gT) ((cs.drop 2).take (Tryz.prog.cellsOf 9)) _ at a7;rw[show Tryz.prog.cellsOf 9=1 by kernel_rfl]at a7;obtain⟨kj,nb,db⟩:=kH acK (bd 3 _ rfl) (by rw[getElem?_eq_getElem (by rw[aU];decide)];rfl);change au w (F0 w) (.slice (kj.map jd)) ((cs.drop 3).take (Tryz.prog.cellsOf 154)) _ at db;rw[show Tryz.prog.cellsOf 154=1 by kernel_rfl]at db;have key:=uR [(.int .i64 fB,0,1),(.int .i64 eL,1,1),(.str gT,2,1),(.slice (kj.map jd),3,1)] 0 (by rw[hj];rfl) ⟨ah,dm,a7,db,trivial⟩;refine⟨⟨fB,eL,gT,kj⟩,⟨w0,fs,gO,nb⟩,?_⟩;show au w (F0 w) (.agg [.int .i64 fB,.int .i64 eL,.str gT,.slice (kj.map jd)]) cs _;rw[au];exact key
theorem acM {H:Type} {enc:TypeId×Value->H} {w:World} {base:Nat} {sp:Nat->Bool} {held:Bool}:jt enc Tryz.prog w base sp held 78 (λx:List i_=>.slice (x.map ie)) (λx:List i_=>(x.length<=9223372036854775807/\∀y∈x,xB y)):=rA (sz:=4) (ec:=ie) Tryz.underlying78 (by kernel_rfl) (by decide) (λ_=>rfl) acL
theorem acN {H:Type} {enc:TypeId×Value->H} {w:World} {base:Nat} {sp:Nat->Bool} {held:Bool}:jt enc Tryz.prog w base sp held 80 h0 (λx:ja=>xC x):=by
 intro fuel cs x ar;obtain⟨xs,n,_,_,hl,aU,bd⟩:=DataW.trod_struct Tryz.underlying80 ar;have hj:cs.length=3:=hl.trans (by kernel_rfl);obtain⟨fB,w0,ah⟩:=kH vQ (bd 0 _ rfl) (by rw[getElem?_eq_getElem (by rw[aU];decide)];rfl);change au w (F0 w) (.str fB) ((cs.drop 0).take (Tryz.prog.cellsOf 9)) _ at ah;rw[show Tryz.prog.cellsOf 9=1 by kernel_rfl]at ah;obtain⟨eL,fs,dm⟩:=kH tL (bd 1 _ rfl) (by rw[getElem?_eq_getElem (by rw[aU];decide)];rfl);change au w (F0 w) (.int .i64 eL) ((cs.drop 1).take (Tryz.prog.cellsOf 2)) _ at dm;rw[show Tryz.prog.cellsOf 2=1 by kernel_rfl]at dm;obtain⟨gT,gO,a7⟩:=kH acM (bd 2 _ rfl) (by rw[getElem?_eq_getElem (by rw[aU];decide)];rfl);change au w (F0 w) (.slice (gT.map ie)) ((cs.drop 2).take (Tryz.prog.cellsOf 78)) _ at a7;rw[show Tryz.prog.cellsOf 78=1 by kernel_rfl]at a7;have key:=uR [(.str fB,0,1),(.int .i64 eL,1,1),(.slice (gT.map ie),2,1)] 0 (by rw[hj];rfl) ⟨ah,dm,a7,trivial⟩;refine⟨⟨fB,eL,gT⟩,⟨w0,fs,gO⟩,?_⟩;show au w (F0 w) (.agg [.str fB,.int .i64 eL,.slice (gT.map ie)]) cs _;rw[au];exact key
theorem acO {H:Type} {enc:TypeId×Value->H} {w:World} {base:Nat} {sp:Nat->Bool} {held:Bool}:jt enc Tryz.prog w base sp held 22 (λx:List ja=>.slice (x.map h0)) (λx:List ja=>(x.length<=9223372036854775807/\∀y∈x,xC y)):=rA (sz:=3) (ec:=h0) Tryz.underlying22 (by kernel_rfl) (by decide) (λ_=>rfl) acN
theorem acP {H:Type} {enc:TypeId×Value->H} {w:World} {base:Nat} {sp:Nat->Bool} {held:Bool}:jt enc Tryz.prog w base sp held 50 (λx:List Int=>.slice (x.map cA)) (λx:List Int=>(x.length<=9223372036854775807/\∀y∈x,(-9223372036854775808<=y/\y<=9223372036854775807))):=rA (sz:=1) (ec:=cA) Tryz.underlying50 (by kernel_rfl) (by decide) (λ_=>rfl) tL
theorem acQ {H:Type} {enc:TypeId×Value->H} {w:World} {base:Nat} {sp:Nat->Bool} {held:Bool}:jt enc Tryz.prog w base sp held 83 h1 (λx:jb=>xD x):=by
 intro fuel cs x ar;obtain⟨xs,n,_,_,hl,aU,bd⟩:=DataW.trod_struct Tryz.underlying83 ar;have hj:cs.length=2:=hl.trans (by kernel_rfl);obtain⟨fB,w0,ah⟩:=kH tL (bd 0 _ rfl) (by rw[getElem?_eq_getElem (by rw[aU];decide)];rfl);change au w (F0 w) (.int .i64 fB) ((cs.drop 0).take (Tryz.prog.cellsOf 2)) _ at ah;rw[show Tryz.prog.cellsOf 2=1 by kernel_rfl]at ah;obtain⟨eL,fs,dm⟩:=kH acP (bd 1 _ rfl) (by rw[getElem?_eq_getElem (by rw[aU];decide)];rfl);change au w (F0 w) (.slice (eL.map cA)) ((cs.drop 1).take (Tryz.prog.cellsOf 50)) _ at dm;rw[show Tryz.prog.cellsOf 50=1 by kernel_rfl]at dm;have key:=uR [(.int .i64 fB,0,1),(.slice (eL.map cA),1,1)] 0 (by rw[hj];rfl) ⟨ah,dm,trivial⟩;refine⟨⟨fB,eL⟩,⟨w0,fs⟩,?_⟩;show au w (F0 w) (.agg [.int .i64 fB,.slice (eL.map cA)]) cs _;rw[au];exact key
theorem acR {H:Type} {enc:TypeId×Value->H} {w:World} {base:Nat} {sp:Nat->Bool} {held:Bool}:jt enc Tryz.prog w base sp held 23 (λx:List jb=>.slice (x.map h1)) (λx:List jb=>(x.length<=9223372036854775807/\∀y∈x,xD y)):=rA (sz:=2) (ec:=h1) Tryz.underlying23 (by kernel_rfl) (by decide) (λ_=>rfl) acQ
theorem acS {H:Type} {enc:TypeId×Value->H} {w:World} {base:Nat} {sp:Nat->Bool} {held:Bool}:jt enc Tryz.prog w base sp held 86 hH (λx:iJ=>xE x):=by
 intro fuel cs x ar;obtain⟨xs,n,_,_,hl,aU,bd⟩:=DataW.trod_struct Tryz.underlying86 ar;have hj:cs.length=3:=hl.trans (by kernel_rfl);obtain⟨fB,w0,ah⟩:=kH vQ (bd 0 _ rfl) (by rw[getElem?_eq_getElem (by rw[aU];decide)];rfl);change au w (F0 w) (.str fB) ((cs.drop 0).take (Tryz.prog.cellsOf 9)) _ at ah;rw[show Tryz.prog.cellsOf 9=1 by kernel_rfl]at ah;obtain⟨eL,fs,dm⟩:=kH vQ (bd 1 _ rfl) (by rw[getElem?_eq_getElem (by rw[aU];decide)];rfl);change au w (F0 w) (.str eL) ((cs.drop 1).take (Tryz.prog.cellsOf 9)) _ at dm;rw[show Tryz.prog.cellsOf 9=1 by kernel_rfl]at dm;obtain⟨gT,gO,a7⟩:=kH vQ (bd 2 _ rfl) (by rw[getElem?_eq_getElem (by rw[aU];decide)];rfl);change au w (F0 w) (.str gT) ((cs.drop 2).take (Tryz.prog.cellsOf 9)) _ at a7;rw[show Tryz.prog.cellsOf 9=1 by kernel_rfl]at a7;have key:=uR [(.str fB,0,1),(.str eL,1,1),(.str gT,2,1)] 0 (by rw[hj];rfl) ⟨ah,dm,a7,trivial⟩;refine⟨⟨fB,eL,gT⟩,⟨w0,fs,gO⟩,?_⟩;show au w (F0 w) (.agg [.str fB,.str eL,.str gT]) cs _;rw[au];exact key
theorem acT {H:Type} {enc:TypeId×Value->H} {w:World} {base:Nat} {sp:Nat->Bool} {held:Bool}:jt enc Tryz.prog w base sp held 24 (λx:List iJ=>.slice (x.map hH)) (λx:List iJ=>(x.length<=9223372036854775807/\∀y∈x,xE y)):=rA (sz:=3) (ec:=hH) Tryz.underlying24 (by kernel_rfl) (by decide) (λ_=>rfl) acS
theorem OA {H:Type} {enc:TypeId×Value->H} {w:World} {base:Nat} {sp:Nat->Bool} {held:Bool}:jt enc Tryz.prog w base sp held 25 (λx:List (aht)=>.slice (x.map bn)) (λx:List (aht)=>(x.length<=9223372036854775807/\∀y∈x,y.length<=9223372036854775807)):=rA (sz:=1) (ec:=bn) Tryz.underlying25 (by kernel_rfl) (by decide) (λ_=>rfl) vQ
theorem acU {H:Type} {enc:TypeId×Value->H} {w:World} {base:Nat} {sp:Nat->Bool} {held:Bool}:jt enc Tryz.prog w base sp held 27 l0 (λx:lW=>xF x):=by
 intro fuel cs x ar;obtain⟨xs,n,_,_,hl,aU,bd⟩:=DataW.trod_struct Tryz.underlying27 ar;have hj:cs.length=5:=hl.trans (by kernel_rfl);obtain⟨fB,w0,ah⟩:=kH acO (bd 0 _ rfl) (by rw[getElem?_eq_getElem (by rw[aU];decide)];rfl);change au w (F0 w) (.slice (fB.map h0)) ((cs.drop 0).take (Tryz.prog.cellsOf 22)) _ at ah;rw[show Tryz.prog.cellsOf 22=1 by kernel_rfl]at ah;obtain⟨eL,fs,dm⟩:=kH acR (bd 1 _ rfl) (by rw[getElem?_eq_getElem (by rw[aU];decide)];rfl);change au w (F0 w) (.slice (eL.map h1)) ((cs.drop 1).take (Tryz.prog.cellsOf 23)) _ at dm;rw[show Tryz.prog.cellsOf 23=1 by kernel_rfl]at dm;obtain⟨gT,gO,a7⟩:=kH acT (bd 2 _ rfl) (by rw[getElem?_eq_getElem (by rw[aU];decide)];rfl);change au w (F0 w) (.slice (gT.map hH)) ((cs.drop 2).take (Tryz.prog.cellsOf 24)) _ at a7;rw[show Tryz.prog.cellsOf 24=1 by kernel_rfl]at a7;obtain⟨kj,nb,db⟩:=kH OA (bd 3 _ rfl) (by rw[getElem?_eq_getElem (by rw[aU];decide)];rfl);change au w (F0 w) (.slice (kj.map bn)) ((cs.drop 3).take (Tryz.prog.cellsOf 25)) _ at db;rw[show Tryz.prog.cellsOf 25=1 by kernel_rfl]at db;obtain⟨oQ,Ij,bJ⟩:=kH OA (bd 4 _ rfl) (by rw[getElem?_eq_getElem (by rw[aU];decide)];rfl);change au w (F0 w) (.slice (oQ.map bn)) ((cs.drop 4).take (Tryz.prog.cellsOf 25)) _ at bJ;rw[show Tryz.prog.cellsOf 25=1 by kernel_rfl]at bJ;have key:=uR [(.slice (fB.map h0),0,1),(.slice (eL.map h1),1,1),(.slice (gT.map hH),2,1),(.slice (kj.map bn),3,1),(.slice (oQ.map bn),4,1)] 0 (by rw[hj];rfl) ⟨ah,dm,a7,db,bJ,trivial⟩;refine⟨⟨fB,eL,gT,kj,oQ⟩,⟨w0,fs,gO,nb,Ij⟩,?_⟩;show au w (F0 w) (.agg [.slice (fB.map h0),.slice (eL.map h1),.slice (gT.map hH),.slice (kj.map bn),.slice (oQ.map bn)]) cs _;rw[au];exact key
theorem fW {W:World} (lT:laidMetH Tryz.prog Rows.fnExactReadStateRow.laid W):o2 W λ_=>False:=λp an=>by
 rcases mem_cons.1 an with rfl|an
 .exact Vm (name:= "strconv.ErrSyntax") (x:=Rows.laid_strconv_ErrSyntax) (t:=104) lT (by kernel_rfl) (by kernel_rfl) Tryz.underlying104 ⟨_,_,rfl⟩ (by kernel_rfl)
 .rcases mem_cons.1 an with rfl|an
  .exact Vo (name:= "internal/strconv.uint64pow10") (x:=Rows.laid_internal_strconv_uint64pow10) (t:=245) (e:=174) lT (by kernel_rfl) (by kernel_rfl) Tryz.underlying245 Tryz.underlying174 (by kernel_rfl) (by kernel_rfl) (by kernel_rfl) (by kernel_rfl)
  .cases an
theorem walk (w:World) (hg:o2 w λ_=>False) (fB:lW) (z_:xF fB) (v0:Value) (eL:aht) (uL:eL.length<=maxLen) (v1:Value) (g0:Arg w (.agg [.slice (fB.br.map h0),.slice (fB.cw.map h1),.slice (fB.gP.map hH),.slice (fB.gF.map bn),.slice (fB.gG.map bn)]) v0) (g1:Arg w (.str eL) v1):
  Calls Tryz.prog 3 #[v0,v1] w λe aD=>e= .returned (.bool true)/\RowKit.Below w.heap.size w aD:=
 aX.law (C:=al) (acs fB eL true (acV fB eL z_)) Tryz.func3 rfl rfl (.cons g0 (.cons g1 (.nil))) (hg:=hg)
set_option maxRecDepth 100000 in
theorem lifted (os:Os) (started:os.Started) (H:Type) (enc:TypeId×Value->H):
  ReturnsInHanded {} Tryz.checked os 3 .any (λw args=>(Rows.fnExactReadStateSpec.pre enc Tryz.prog Tryz.f3 Rows.fnExactReadStateRow.domain false w args/\laidMetH Tryz.prog Rows.fnExactReadStateRow.laid w)/\sizedMet enc Tryz.prog Tryz.f3 (OpenSpec.ofChange Rows.fnExactReadStateSpec) false w args) (Rows.fnExactReadStateSpec.post enc Tryz.prog Tryz.f3 false true false false):=by
 refine returnsInHanded_of_change_and (C:=Tryz.checked) (X:=λw _=>laidMetH Tryz.prog Rows.fnExactReadStateRow.laid w) (λ_ _ _ gy h=>h.of_heap gy) own started (by kernel_rfl) Tryz.func3
  (ChangeSpec.witness_shaped (enc:=enc) (C:=Tryz.checked) (os:=os) (X:=λw _=>laidMetH Tryz.prog Rows.fnExactReadStateRow.laid w) false (World.laidAll Tryz.prog os Rows.fnExactReadStateRow.laid) #[.agg #[.slice none 0 0,.slice none 0 0,.slice none 0 0,.slice none 0 0,.slice none 0 0],.string ⟨#[]⟩] 8 rfl (World.shaped_of_RefB (by kernel_rfl) (by kernel_rfl)) (by kernel_rfl) (by kernel_rfl) (by kernel_rfl) (acH os _)) ?_
 intro W base args ds gs before OB pU _ _ lT _;have pn:∀(j:Nat) t v,Tryz.f3.params[j]? =some t->args[j]? =some v->Value.okWide Tryz.prog W .any base t v:=OB;have acW:=pU;obtain⟨p,q,uu,n9,rfl,ahj,uH⟩:=pU;have ib:DataW.TrodAll enc Tryz.prog W 0 (λ_=>true) true Tryz.f3.params.toList args.toList ds p:=uu;rw[Tryz.params3]at ib pn;obtain⟨v0,ahk,d0,ahl,hr,zz,nE,rfl,rfl,aV,ah⟩:=trodAll_cons ib;obtain⟨v1,ahm,d1,ahn,fl,fA,rfl,rfl,rfl,ab,dm⟩:=trodAll_cons ah;obtain⟨rfl,rfl,rfl⟩:=trodAll_nil dm;obtain rfl:args= #[v0,v1]:=by cases args;simp_all
 obtain⟨rfl,rfl⟩:=trodVars_none n9;have tM:∀x∈hr,x.block<W.heap.size:=by obtain⟨m,hm⟩:=aV;exact DataW.trod_lt m _ _ _ hm
 obtain⟨fB,g0,z_⟩:=T3 (es:=λy:lW=>[.slice (y.br.map h0),.slice (y.cw.map h1),.slice (y.gP.map hH),.slice (y.gF.map bn),.slice (y.gG.map bn)]) Tryz.underlying27 acU (pn 0 27 v0 rfl rfl) aV;have acX:∀x∈fl,x.block<W.heap.size:=by obtain⟨m,hm⟩:=ab;exact DataW.trod_lt m _ _ _ hm
 obtain⟨eL,g1,uL⟩:=arg_str Tryz.underlying9 (pn 1 9 v1 rfl rfl) ab;clear uu OB;refine(walk W (fW lT) fB z_ v0 eL uL v1 g0 g1).mono λe aho ⟨he,Ik⟩=>?_;subst he;exact⟨_,rfl,_,_,_,[],_,[],acW,trodAll_mk1 (shut_bool Tryz.underlying4 _),(trodAll_cons_mk (Below.trod laidOut (by kernel_rfl) (of_decide_eq_true (by kernel_rfl)) aV Ik tM) (trodAll_cons_mk (Below.trod laidOut (by kernel_rfl) (of_decide_eq_true (by kernel_rfl)) ab Ik acX) trodAll_mk0)),rfl,Ik.frame _,λh=>by cases h⟩
def Cy:List Char:=map Char.ofNat [104,97,114,110,101,115,115,32,97,56,100,51,56,99,102,97,51,100,53,56,50,97,57,48,57,52,102,98,97,48,51,48,48,50,48,102,57,100,57,98,49,97,56,98,49,53,52,98,98,100,53,98,97,57,51,97,52,55,56,56,53,98,56,52,99,102,100,97,56,49,101,100,32,99,117,116,32,97,116,32,108,111,111,112,46,101,120,97,109,112,108,101,47,103,48,49,48,55,53,47,108,97,119,115,46,70,110,69,120,97,99,116,82,101,97,100,83,116,97,116,101]
def y8:List Char:=map Char.ofNat [99,117,116]
theorem acY:Tryz.prog.initOrder=String.ofList Cy:=by kernel_rfl
theorem Cz:Tryz.prog.initOrder.toList=Cy:=by rw[acY];exact String.toList_ofList
theorem OC:behindMainWord (wordsSigns Cy)=y8::(behindMainWord (wordsSigns Cy)).tail:=by kernel_rfl
theorem acZ {P:Program} {L:List Char} {r:List (List Char)} (h:P.initOrder.toList=L) (hw:behindMainWord (wordsSigns L)=y8::r):P.make=some .cut:=by
 unfold Program.make;rw[h,hw];rfl
theorem ac0 {P:Program} {L:List Char} {r:List (List Char)} (h:P.initOrder.toList=L) (hw:behindMainWord (wordsSigns L)=y8::r) (ab:P.laysLater=false) (ad:P.bearsReflect=false) (aC:P.doorFits []=true):P.mayEnter=true:=by
 unfold Program.mayEnter;rw[h,hw];have e:stripLifts liftWords (y8::r)=([],y8::r):=rfl;simp only[e,ab,ad,aC];rfl
theorem ac1:Tryz.prog.liftsFinal=false:=by unfold Program.liftsFinal Program.headLifts;rw[Cz];kernel_rfl
theorem ac2:Tryz.prog.mayEnter=true:=ac0 Cz OC (by kernel_rfl) (by kernel_rfl) (by kernel_rfl)
theorem ac3:Tryz.prog.make=some .cut:=acZ Cz OC
theorem ac4:joinedFacts Tryz.prog 3 Tryz.f3 Rows.fnExactReadStateSpec Rows.fnExactReadStateRow=true:=by
 unfold joinedFacts;rw[ac1,ac2,ac3];kernel_rfl
theorem over:Rows.fnExactReadStateRow.holds Tryz.pinned (OpenSpec.ofChange Rows.fnExactReadStateSpec):=
 OpenClaim.holds_of_wide 3 Tryz.f3 rfl rfl rfl rfl rfl rfl rfl ⟨rfl,rfl,rfl,rfl,rfl⟩ rfl rfl rfl rfl rfl (by kernel_rfl) Tryz.func3 ac4
  (of_decide_eq_true (by kernel_rfl)) (by unfold Func.isWrapper;first|(rw[if_pos (by decide+kernel)];kernel_rfl)|(rw[if_neg (by decide+kernel)];exact⟨rfl,rfl⟩))
  (λos started H enc _=>lifted os started H enc)
theorem ac5:Tryz.prog.mainIs=some (Rows.fnExactReadStateCard.stood.harness.1,Rows.fnExactReadStateCard.stood.harness.2.toList):=by
 unfold Program.mainIs;rw[Cz];kernel_rfl
theorem proved:Rows.FnExactReadStateCardSaid:=
 Claim7.holds_tied_plain_at .later [] Rows.fnExactReadStateCard.laidKinds true Rows.fnExactReadStateCard.stood.harness true
  over (λ_ h=>by cases h) (by kernel_rfl) (λ_ h=>by cases h) fnExactReadState_row_tie rfl ⟨rfl,rfl⟩ ac5 rfl
  (λf fn bd ac6=>by
   obtain rfl:f=3:=some.inj ((show Tryz.prog.funcNamed Rows.fnExactReadStateRow.func=some 3 by kernel_rfl).symm.trans bd)|>.symm;obtain rfl:fn=Tryz.f3:=(some.inj (Tryz.func3.symm.trans ac6)).symm;exact⟨by kernel_rfl,λj t aY=>by
    rw[Tryz.params3]at aY;have hm:t∈[27,9]:=by simpa using Array.mem_of_getElem? aY
    have ks:([27,9].all λu=> !Tryz.prog.wantsStandIn u)=true:=by kernel_rfl
    exact(show Tryz.prog.wantsStandIn t=false by simpa using List.all_eq_true.1 ks t hm)⟩)
  (by kernel_rfl)
end Go.Proofs.YtngohoaiimbacabGreatDoor.fnExactReadStateCard
