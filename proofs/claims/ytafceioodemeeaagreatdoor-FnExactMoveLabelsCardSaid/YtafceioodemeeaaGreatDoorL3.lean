/- Part of a proof that a law is true. No condition. -/
import Derived.Test.YtafceioodemeeaaGreatDoorRows
import Derived.Test.YtafceioodemeeaaGreatDoorTie
import Derived.Test.YtafceioodemeeaaGreatDoorCards
import Derived.SevenTiedAt
import Derived.MakeChecks
import Derived.LaidMore
import Derived.Stop.Joined
import Derived.Test.YtafceioodemeeaaGreatDoorFwE
import Derived.Lay
import Derived.Test.YtafceioodemeeaaGreatDoorW2x3
import Derived.Test.YtafceioodemeeaaGreatDoorFwH
import Derived.Test.YtafceioodemeeaaGreatDoorUV2x
import Derived.WalkKit
import Derived.ProofKit
import Derived.OpenShut
import Derived.ChangeOld
import Derived.Below
import Derived.Carry
namespace Go.Proofs.YtafceioodemeeaaGreatDoor.fnExactMoveLabelsCard
open List Option Go.IntKind Nat Or
open Go.ChangeShapes Go.WideShapes Go.ChangeAt Go.RowKit
open Go.en Go.pO
set_option linter.unusedVariables false
theorem own:ownKnob Tryz.prog.godebug=none:=by kernel_rfl
theorem laidOut:laidOutB Tryz.prog=true:=by kernel_rfl
theorem atn (os:Os) (args:Array Value):laidMetH Tryz.prog Rows.fnExactMoveLabelsRow.laid ((World.laidAll Tryz.prog os Rows.fnExactMoveLabelsRow.laid).forCall (λ_ _=>0) ⟨#[],args,[]⟩).memory:=by
 have h:=laidMet_laidAll (P:=Tryz.prog) (os:=os) (laid:=Rows.fnExactMoveLabelsRow.laid) args (by kernel_rfl) (by kernel_rfl);unfold laidMetH;rw[show(Rows.fnExactMoveLabelsRow.laid.filter λx=>x.2.handleName?.isSome)=[] by kernel_rfl];exact h
theorem D0 {H:Type} {enc:TypeId×Value->H} {w:World} {base:Nat} {sp:Nat->Bool} {held:Bool}:kW enc Tryz.prog w base sp held 9 (λx:List UInt8=>.str x) (λx:List UInt8=>x.length<=9223372036854775807):=ahC Tryz.underlying9
theorem xb {H:Type} {enc:TypeId×Value->H} {w:World} {base:Nat} {sp:Nat->Bool} {held:Bool}:kW enc Tryz.prog w base sp held 2 (λx:Int=>.int .i64 x) (λx:Int=>(-9223372036854775808<=x/\x<=9223372036854775807)):=ahB Tryz.underlying2
theorem ato {H:Type} {enc:TypeId×Value->H} {w:World} {base:Nat} {sp:Nat->Bool} {held:Bool}:kW enc Tryz.prog w base sp held 288 nh (λx:jx=>Cd x):=by
 intro fuel cs x aq;obtain⟨xs,n,_,_,hl,aV,bI⟩:=DataW.trod_struct Tryz.underlying288 aq;have hM:cs.length=2:=hl.trans (by kernel_rfl);obtain⟨gf,w0,ak⟩:=mj xb (bI 0 _ rfl) (by rw[getElem?_eq_getElem (by rw[aV];decide)];rfl);change az w (F0 w) (.int .i64 gf) ((cs.drop 0).take (Tryz.prog.cellsOf 2)) _ at ak;rw[show Tryz.prog.cellsOf 2=1 by kernel_rfl]at ak;obtain⟨fs,fw,ef⟩:=mj xb (bI 1 _ rfl) (by rw[getElem?_eq_getElem (by rw[aV];decide)];rfl);change az w (F0 w) (.int .i64 fs) ((cs.drop 1).take (Tryz.prog.cellsOf 2)) _ at ef;rw[show Tryz.prog.cellsOf 2=1 by kernel_rfl]at ef;have key:=zT [(.int .i64 gf,0,1),(.int .i64 fs,1,1)] 0 (by rw[hM];rfl) ⟨ak,ef,trivial⟩;refine⟨⟨gf,fs⟩,⟨w0,fw⟩,?_⟩;show az w (F0 w) (.agg [.int .i64 gf,.int .i64 fs]) cs _;rw[az];exact key
theorem atp {H:Type} {enc:TypeId×Value->H} {w:World} {base:Nat} {sp:Nat->Bool} {held:Bool}:kW enc Tryz.prog w base sp held 251 (λx:List jx=>.slice (x.map nh)) (λx:List jx=>(x.length<=9223372036854775807/\∀y∈x,Cd y)):=wg (sz:=2) (ec:=nh) Tryz.underlying251 (by kernel_rfl) (by decide) (λ_=>rfl) ato
theorem atq {H:Type} {enc:TypeId×Value->H} {w:World} {base:Nat} {sp:Nat->Bool} {held:Bool}:kW enc Tryz.prog w base sp held 164 (λx:List (aAp)=>.slice (x.map lJ)) (λx:List (aAp)=>(x.length<=9223372036854775807/\∀y∈x,(y.length<=9223372036854775807/\∀z∈y,Cd z))):=wg (sz:=1) (ec:=lJ) Tryz.underlying164 (by kernel_rfl) (by decide) (λ_=>rfl) atp
theorem atr {H:Type} {enc:TypeId×Value->H} {w:World} {base:Nat} {sp:Nat->Bool} {held:Bool}:kW enc Tryz.prog w base sp held 166 kK (λx:ly=>FQ x):=by
 intro fuel cs x aq;obtain⟨xs,n,_,_,hl,aV,bI⟩:=DataW.trod_struct Tryz.underlying166 aq;have hM:cs.length=4:=hl.trans (by kernel_rfl);obtain⟨gf,w0,ak⟩:=mj xb (bI 0 _ rfl) (by rw[getElem?_eq_getElem (by rw[aV];decide)];rfl);change az w (F0 w) (.int .i64 gf) ((cs.drop 0).take (Tryz.prog.cellsOf 2)) _ at ak;rw[show Tryz.prog.cellsOf 2=1 by kernel_rfl]at ak;obtain⟨fs,fw,ef⟩:=mj xb (bI 1 _ rfl) (by rw[getElem?_eq_getElem (by rw[aV];decide)];rfl);change az w (F0 w) (.int .i64 fs) ((cs.drop 1).take (Tryz.prog.cellsOf 2)) _ at ef;rw[show Tryz.prog.cellsOf 2=1 by kernel_rfl]at ef;obtain⟨hn,hR,bg⟩:=mj D0 (bI 2 _ rfl) (by rw[getElem?_eq_getElem (by rw[aV];decide)];rfl);change az w (F0 w) (.str hn) ((cs.drop 2).take (Tryz.prog.cellsOf 9)) _ at bg;rw[show Tryz.prog.cellsOf 9=1 by kernel_rfl]at bg;obtain⟨mZ,qZ,dt⟩:=mj atq (bI 3 _ rfl) (by rw[getElem?_eq_getElem (by rw[aV];decide)];rfl);change az w (F0 w) (.slice (mZ.map lJ)) ((cs.drop 3).take (Tryz.prog.cellsOf 164)) _ at dt;rw[show Tryz.prog.cellsOf 164=1 by kernel_rfl]at dt;have key:=zT [(.int .i64 gf,0,1),(.int .i64 fs,1,1),(.str hn,2,1),(.slice (mZ.map lJ),3,1)] 0 (by rw[hM];rfl) ⟨ak,ef,bg,dt,trivial⟩;refine⟨⟨gf,fs,hn,mZ⟩,⟨w0,fw,hR,qZ⟩,?_⟩;show az w (F0 w) (.agg [.int .i64 gf,.int .i64 fs,.str hn,.slice (mZ.map lJ)]) cs _;rw[az];exact key
theorem ats {H:Type} {enc:TypeId×Value->H} {w:World} {base:Nat} {sp:Nat->Bool} {held:Bool}:kW enc Tryz.prog w base sp held 84 (λx:List ly=>.slice (x.map kK)) (λx:List ly=>(x.length<=9223372036854775807/\∀y∈x,FQ y)):=wg (sz:=4) (ec:=kK) Tryz.underlying84 (by kernel_rfl) (by decide) (λ_=>rfl) atr
theorem att {H:Type} {enc:TypeId×Value->H} {w:World} {base:Nat} {sp:Nat->Bool} {held:Bool}:kW enc Tryz.prog w base sp held 86 j6 (λx:lz=>FR x):=by
 intro fuel cs x aq;obtain⟨xs,n,_,_,hl,aV,bI⟩:=DataW.trod_struct Tryz.underlying86 aq;have hM:cs.length=3:=hl.trans (by kernel_rfl);obtain⟨gf,w0,ak⟩:=mj D0 (bI 0 _ rfl) (by rw[getElem?_eq_getElem (by rw[aV];decide)];rfl);change az w (F0 w) (.str gf) ((cs.drop 0).take (Tryz.prog.cellsOf 9)) _ at ak;rw[show Tryz.prog.cellsOf 9=1 by kernel_rfl]at ak;obtain⟨fs,fw,ef⟩:=mj xb (bI 1 _ rfl) (by rw[getElem?_eq_getElem (by rw[aV];decide)];rfl);change az w (F0 w) (.int .i64 fs) ((cs.drop 1).take (Tryz.prog.cellsOf 2)) _ at ef;rw[show Tryz.prog.cellsOf 2=1 by kernel_rfl]at ef;obtain⟨hn,hR,bg⟩:=mj ats (bI 2 _ rfl) (by rw[getElem?_eq_getElem (by rw[aV];decide)];rfl);change az w (F0 w) (.slice (hn.map kK)) ((cs.drop 2).take (Tryz.prog.cellsOf 84)) _ at bg;rw[show Tryz.prog.cellsOf 84=1 by kernel_rfl]at bg;have key:=zT [(.str gf,0,1),(.int .i64 fs,1,1),(.slice (hn.map kK),2,1)] 0 (by rw[hM];rfl) ⟨ak,ef,bg,trivial⟩;refine⟨⟨gf,fs,hn⟩,⟨w0,fw,hR⟩,?_⟩;show az w (F0 w) (.agg [.str gf,.int .i64 fs,.slice (hn.map kK)]) cs _;rw[az];exact key
theorem atu {H:Type} {enc:TypeId×Value->H} {w:World} {base:Nat} {sp:Nat->Bool} {held:Bool}:kW enc Tryz.prog w base sp held 22 (λx:List lz=>.slice (x.map j6)) (λx:List lz=>(x.length<=9223372036854775807/\∀y∈x,FR y)):=wg (sz:=3) (ec:=j6) Tryz.underlying22 (by kernel_rfl) (by decide) (λ_=>rfl) att
theorem abm {H:Type} {enc:TypeId×Value->H} {w:World} {base:Nat} {sp:Nat->Bool} {held:Bool}:kW enc Tryz.prog w base sp held 52 (λx:List Int=>.slice (x.map a8)) (λx:List Int=>(x.length<=9223372036854775807/\∀y∈x,(-9223372036854775808<=y/\y<=9223372036854775807))):=wg (sz:=1) (ec:=a8) Tryz.underlying52 (by kernel_rfl) (by decide) (λ_=>rfl) xb
theorem atv {H:Type} {enc:TypeId×Value->H} {w:World} {base:Nat} {sp:Nat->Bool} {held:Bool}:kW enc Tryz.prog w base sp held 89 j8 (λx:lA=>FT x):=by
 intro fuel cs x aq;obtain⟨xs,n,_,_,hl,aV,bI⟩:=DataW.trod_struct Tryz.underlying89 aq;have hM:cs.length=2:=hl.trans (by kernel_rfl);obtain⟨gf,w0,ak⟩:=mj xb (bI 0 _ rfl) (by rw[getElem?_eq_getElem (by rw[aV];decide)];rfl);change az w (F0 w) (.int .i64 gf) ((cs.drop 0).take (Tryz.prog.cellsOf 2)) _ at ak;rw[show Tryz.prog.cellsOf 2=1 by kernel_rfl]at ak;obtain⟨fs,fw,ef⟩:=mj abm (bI 1 _ rfl) (by rw[getElem?_eq_getElem (by rw[aV];decide)];rfl);change az w (F0 w) (.slice (fs.map a8)) ((cs.drop 1).take (Tryz.prog.cellsOf 52)) _ at ef;rw[show Tryz.prog.cellsOf 52=1 by kernel_rfl]at ef;have key:=zT [(.int .i64 gf,0,1),(.slice (fs.map a8),1,1)] 0 (by rw[hM];rfl) ⟨ak,ef,trivial⟩;refine⟨⟨gf,fs⟩,⟨w0,fw⟩,?_⟩;show az w (F0 w) (.agg [.int .i64 gf,.slice (fs.map a8)]) cs _;rw[az];exact key
theorem atw {H:Type} {enc:TypeId×Value->H} {w:World} {base:Nat} {sp:Nat->Bool} {held:Bool}:kW enc Tryz.prog w base sp held 23 (λx:List lA=>.slice (x.map j8)) (λx:List lA=>(x.length<=9223372036854775807/\∀y∈x,FT y)):=wg (sz:=2) (ec:=j8) Tryz.underlying23 (by kernel_rfl) (by decide) (λ_=>rfl) atv
theorem atx {H:Type} {enc:TypeId×Value->H} {w:World} {base:Nat} {sp:Nat->Bool} {held:Bool}:kW enc Tryz.prog w base sp held 92 jK (λx:k8=>FU x):=by
 intro fuel cs x aq;obtain⟨xs,n,_,_,hl,aV,bI⟩:=DataW.trod_struct Tryz.underlying92 aq;have hM:cs.length=3:=hl.trans (by kernel_rfl);obtain⟨gf,w0,ak⟩:=mj D0 (bI 0 _ rfl) (by rw[getElem?_eq_getElem (by rw[aV];decide)];rfl);change az w (F0 w) (.str gf) ((cs.drop 0).take (Tryz.prog.cellsOf 9)) _ at ak;rw[show Tryz.prog.cellsOf 9=1 by kernel_rfl]at ak;obtain⟨fs,fw,ef⟩:=mj D0 (bI 1 _ rfl) (by rw[getElem?_eq_getElem (by rw[aV];decide)];rfl);change az w (F0 w) (.str fs) ((cs.drop 1).take (Tryz.prog.cellsOf 9)) _ at ef;rw[show Tryz.prog.cellsOf 9=1 by kernel_rfl]at ef;obtain⟨hn,hR,bg⟩:=mj D0 (bI 2 _ rfl) (by rw[getElem?_eq_getElem (by rw[aV];decide)];rfl);change az w (F0 w) (.str hn) ((cs.drop 2).take (Tryz.prog.cellsOf 9)) _ at bg;rw[show Tryz.prog.cellsOf 9=1 by kernel_rfl]at bg;have key:=zT [(.str gf,0,1),(.str fs,1,1),(.str hn,2,1)] 0 (by rw[hM];rfl) ⟨ak,ef,bg,trivial⟩;refine⟨⟨gf,fs,hn⟩,⟨w0,fw,hR⟩,?_⟩;show az w (F0 w) (.agg [.str gf,.str fs,.str hn]) cs _;rw[az];exact key
theorem aty {H:Type} {enc:TypeId×Value->H} {w:World} {base:Nat} {sp:Nat->Bool} {held:Bool}:kW enc Tryz.prog w base sp held 24 (λx:List k8=>.slice (x.map jK)) (λx:List k8=>(x.length<=9223372036854775807/\∀y∈x,FU y)):=wg (sz:=3) (ec:=jK) Tryz.underlying24 (by kernel_rfl) (by decide) (λ_=>rfl) atx
theorem abn {H:Type} {enc:TypeId×Value->H} {w:World} {base:Nat} {sp:Nat->Bool} {held:Bool}:kW enc Tryz.prog w base sp held 25 (λx:List (aAc)=>.slice (x.map aE)) (λx:List (aAc)=>(x.length<=9223372036854775807/\∀y∈x,y.length<=9223372036854775807)):=wg (sz:=1) (ec:=aE) Tryz.underlying25 (by kernel_rfl) (by decide) (λ_=>rfl) D0
theorem atz {H:Type} {enc:TypeId×Value->H} {w:World} {base:Nat} {sp:Nat->Bool} {held:Bool}:kW enc Tryz.prog w base sp held 27 od (λx:o9=>FV x):=by
 intro fuel cs x aq;obtain⟨xs,n,_,_,hl,aV,bI⟩:=DataW.trod_struct Tryz.underlying27 aq;have hM:cs.length=5:=hl.trans (by kernel_rfl);obtain⟨gf,w0,ak⟩:=mj atu (bI 0 _ rfl) (by rw[getElem?_eq_getElem (by rw[aV];decide)];rfl);change az w (F0 w) (.slice (gf.map j6)) ((cs.drop 0).take (Tryz.prog.cellsOf 22)) _ at ak;rw[show Tryz.prog.cellsOf 22=1 by kernel_rfl]at ak;obtain⟨fs,fw,ef⟩:=mj atw (bI 1 _ rfl) (by rw[getElem?_eq_getElem (by rw[aV];decide)];rfl);change az w (F0 w) (.slice (fs.map j8)) ((cs.drop 1).take (Tryz.prog.cellsOf 23)) _ at ef;rw[show Tryz.prog.cellsOf 23=1 by kernel_rfl]at ef;obtain⟨hn,hR,bg⟩:=mj aty (bI 2 _ rfl) (by rw[getElem?_eq_getElem (by rw[aV];decide)];rfl);change az w (F0 w) (.slice (hn.map jK)) ((cs.drop 2).take (Tryz.prog.cellsOf 24)) _ at bg;rw[show Tryz.prog.cellsOf 24=1 by kernel_rfl]at bg;obtain⟨mZ,qZ,dt⟩:=mj abn (bI 3 _ rfl) (by rw[getElem?_eq_getElem (by rw[aV];decide)];rfl);change az w (F0 w) (.slice (mZ.map aE)) ((cs.drop 3).take (Tryz.prog.cellsOf 25)) _ at dt;rw[show Tryz.prog.cellsOf 25=1 by kernel_rfl]at dt;obtain⟨tJ,To,bQ⟩:=mj abn (bI 4 _ rfl) (by rw[getElem?_eq_getElem (by rw[aV];decide)];rfl);change az w (F0 w) (.slice (tJ.map aE)) ((cs.drop 4).take (Tryz.prog.cellsOf 25)) _ at bQ;rw[show Tryz.prog.cellsOf 25=1 by kernel_rfl]at bQ;have key:=zT [(.slice (gf.map j6),0,1),(.slice (fs.map j8),1,1),(.slice (hn.map jK),2,1),(.slice (mZ.map aE),3,1),(.slice (tJ.map aE),4,1)] 0 (by rw[hM];rfl) ⟨ak,ef,bg,dt,bQ,trivial⟩;refine⟨⟨gf,fs,hn,mZ,tJ⟩,⟨w0,fw,hR,qZ,To⟩,?_⟩;show az w (F0 w) (.agg [.slice (gf.map j6),.slice (fs.map j8),.slice (hn.map jK),.slice (mZ.map aE),.slice (tJ.map aE)]) cs _;rw[az];exact key
theorem atA {H:Type} {enc:TypeId×Value->H} {w:World} {base:Nat} {sp:Nat->Bool} {held:Bool}:kW enc Tryz.prog w base sp held 54 jL (λx:lB=>Ce x):=by
 intro fuel cs x aq;obtain⟨xs,n,_,_,hl,aV,bI⟩:=DataW.trod_struct Tryz.underlying54 aq;have hM:cs.length=3:=hl.trans (by kernel_rfl);obtain⟨gf,w0,ak⟩:=mj xb (bI 0 _ rfl) (by rw[getElem?_eq_getElem (by rw[aV];decide)];rfl);change az w (F0 w) (.int .i64 gf) ((cs.drop 0).take (Tryz.prog.cellsOf 2)) _ at ak;rw[show Tryz.prog.cellsOf 2=1 by kernel_rfl]at ak;obtain⟨fs,fw,ef⟩:=mj xb (bI 1 _ rfl) (by rw[getElem?_eq_getElem (by rw[aV];decide)];rfl);change az w (F0 w) (.int .i64 fs) ((cs.drop 1).take (Tryz.prog.cellsOf 2)) _ at ef;rw[show Tryz.prog.cellsOf 2=1 by kernel_rfl]at ef;obtain⟨hn,hR,bg⟩:=mj abm (bI 2 _ rfl) (by rw[getElem?_eq_getElem (by rw[aV];decide)];rfl);change az w (F0 w) (.slice (hn.map a8)) ((cs.drop 2).take (Tryz.prog.cellsOf 52)) _ at bg;rw[show Tryz.prog.cellsOf 52=1 by kernel_rfl]at bg;have key:=zT [(.int .i64 gf,0,1),(.int .i64 fs,1,1),(.slice (hn.map a8),2,1)] 0 (by rw[hM];rfl) ⟨ak,ef,bg,trivial⟩;refine⟨⟨gf,fs,hn⟩,⟨w0,fw,hR⟩,?_⟩;show az w (F0 w) (.agg [.int .i64 gf,.int .i64 fs,.slice (hn.map a8)]) cs _;rw[az];exact key
theorem atB {H:Type} {enc:TypeId×Value->H} {w:World} {base:Nat} {sp:Nat->Bool} {held:Bool}:kW enc Tryz.prog w base sp held 28 (λx:List lB=>.slice (x.map jL)) (λx:List lB=>(x.length<=9223372036854775807/\∀y∈x,Ce y)):=wg (sz:=3) (ec:=jL) Tryz.underlying28 (by kernel_rfl) (by decide) (λ_=>rfl) atA
theorem fU {W:World} (mW:laidMetH Tryz.prog Rows.fnExactMoveLabelsRow.laid W):ub W λ_=>False:=λp aw=>by
 rcases mem_cons.1 aw with rfl|aw
 .exact ajc (name:= "strconv.ErrSyntax") (x:=Rows.laid_strconv_ErrSyntax) (t:=269) mW (by kernel_rfl) (by kernel_rfl) Tryz.underlying269 ⟨_,_,rfl⟩ (by kernel_rfl)
 .rcases mem_cons.1 aw with rfl|aw
  .exact aje (name:= "internal/strconv.uint64pow10") (x:=Rows.laid_internal_strconv_uint64pow10) (t:=324) (e:=157) mW (by kernel_rfl) (by kernel_rfl) Tryz.underlying324 Tryz.underlying157 (by kernel_rfl) (by kernel_rfl) (by kernel_rfl) (by kernel_rfl)
  .cases aw
theorem walk (w:World) (hg:ub w λ_=>False) (gf:o9) (BS:FV gf) (v0:Value) (fs:aAu) (v_:(fs.length<=9223372036854775807/\∀y∈fs,Ce y)) (v1:Value) (g0:Arg w (.agg [.slice (gf.cz.map j6),.slice (gf.cj.map j8),.slice (gf.b9.map jK),.slice (gf.cC.map aE),.slice (gf.cA.map aE)]) v0) (g1:Arg w (.slice (fs.map jL)) v1):
  Calls Tryz.prog 3 #[v0,v1] w λe aJ=>e= .returned (.bool true)/\RowKit.Below w.heap.size w aJ:=
 aW.law (C:=ai) (atb gf fs true (atC gf fs BS v_)) Tryz.func3 rfl rfl (.cons g0 (.cons g1 (.nil))) (hg:=hg)
set_option maxRecDepth 100000 in
theorem lifted (os:Os) (started:os.Started) (H:Type) (enc:TypeId×Value->H):
  ReturnsInHanded {} Tryz.checked os 3 .any (λw args=>(Rows.fnExactMoveLabelsSpec.pre enc Tryz.prog Tryz.f3 Rows.fnExactMoveLabelsRow.domain false w args/\laidMetH Tryz.prog Rows.fnExactMoveLabelsRow.laid w)/\sizedMet enc Tryz.prog Tryz.f3 (OpenSpec.ofChange Rows.fnExactMoveLabelsSpec) false w args) (Rows.fnExactMoveLabelsSpec.post enc Tryz.prog Tryz.f3 false true false false):=by
 refine returnsInHanded_of_change_and (C:=Tryz.checked) (X:=λw _=>laidMetH Tryz.prog Rows.fnExactMoveLabelsRow.laid w) (λ_ _ _ kz h=>h.of_heap kz) own started (by kernel_rfl) Tryz.func3
  (ChangeSpec.witness_shaped (enc:=enc) (C:=Tryz.checked) (os:=os) (X:=λw _=>laidMetH Tryz.prog Rows.fnExactMoveLabelsRow.laid w) false (World.laidAll Tryz.prog os Rows.fnExactMoveLabelsRow.laid) #[.agg #[.slice none 0 0,.slice none 0 0,.slice none 0 0,.slice none 0 0,.slice none 0 0],.slice none 0 0] 8 rfl (World.shaped_of_RefB (by kernel_rfl) (by kernel_rfl)) (by kernel_rfl) (by kernel_rfl) (by kernel_rfl) (atn os _)) ?_
 intro W base args ds gs before abo abp _ _ mW _;have uy:∀(j:Nat) t v,Tryz.f3.params[j]? =some t->args[j]? =some v->Value.okWide Tryz.prog W .any base t v:=abo;have atD:=abp;obtain⟨p,q,BM,qJ,rfl,azR,BX⟩:=abp;have jh:DataW.TrodAll enc Tryz.prog W 0 (λ_=>true) true Tryz.f3.params.toList args.toList ds p:=BM;rw[Tryz.params3]at jh uy;obtain⟨v0,azS,d0,azT,jr,BC,rK,rfl,rfl,a7,ak⟩:=trodAll_cons jh;obtain⟨v1,azU,d1,azV,gO,gP,rfl,rfl,rfl,h1,ef⟩:=trodAll_cons ak;obtain⟨rfl,rfl,rfl⟩:=trodAll_nil ef;obtain rfl:args= #[v0,v1]:=by cases args;simp_all
 obtain⟨rfl,rfl⟩:=trodVars_none qJ;have A5:∀x∈jr,x.block<W.heap.size:=by obtain⟨m,hm⟩:=a7;exact DataW.trod_lt m _ _ _ hm
 obtain⟨gf,g0,BS⟩:=ahI (es:=λy:o9=>[.slice (y.cz.map j6),.slice (y.cj.map j8),.slice (y.b9.map jK),.slice (y.cC.map aE),.slice (y.cA.map aE)]) Tryz.underlying27 atz (uy 0 27 v0 rfl rfl) a7;have atE:∀x∈gO,x.block<W.heap.size:=by obtain⟨m,hm⟩:=h1;exact DataW.trod_lt m _ _ _ hm
 obtain⟨fs,g1,v_⟩:=ahH Tryz.underlying28 atB (uy 1 28 v1 rfl rfl) h1;clear BM abo;refine(walk W (fU mW) gf BS v0 fs v_ v1 g0 g1).mono λe azW ⟨he,Tp⟩=>?_;subst he;exact⟨_,rfl,_,_,_,[],_,[],atD,trodAll_mk1 (shut_bool Tryz.underlying4 _),(trodAll_cons_mk (Below.trod laidOut (by kernel_rfl) (of_decide_eq_true (by kernel_rfl)) a7 Tp A5) (trodAll_cons_mk (Below.trod laidOut (by kernel_rfl) (of_decide_eq_true (by kernel_rfl)) h1 Tp atE) trodAll_mk0)),rfl,Tp.frame _,λh=>by cases h⟩
def L2:List Char:=map Char.ofNat [104,97,114,110,101,115,115,32,52,101,102,48,48,97,52,55,52,101,48,53,50,102,55,48,56,52,50,100,102,56,51,97,51,52,98,101,99,53,53,51,52,97,51,97,50,53,102,49,102,100,99,53,98,51,54,97,52,56,98,99,49,100,49,98,97,55,48,54,54,56,56,49,32,99,117,116,32,97,116,32,108,111,111,112,46,101,120,97,109,112,108,101,47,103,48,49,48,55,53,47,108,97,119,115,46,70,110,69,120,97,99,116,77,111,118,101,76,97,98,101,108,115]
def H4:List Char:=map Char.ofNat [99,117,116]
theorem atF:Tryz.prog.initOrder=String.ofList L2:=by kernel_rfl
theorem L3:Tryz.prog.initOrder.toList=L2:=by rw[atF];exact String.toList_ofList
theorem abq:behindMainWord (wordsSigns L2)=H4::(behindMainWord (wordsSigns L2)).tail:=by kernel_rfl
theorem atG {P:Program} {L:List Char} {r:List (List Char)} (h:P.initOrder.toList=L) (hw:behindMainWord (wordsSigns L)=H4::r):P.make=some .cut:=by
 unfold Program.make;rw[h,hw];rfl
theorem atH {P:Program} {L:List Char} {r:List (List Char)} (h:P.initOrder.toList=L) (hw:behindMainWord (wordsSigns L)=H4::r) (h1:P.laysLater=false) (af:P.bearsReflect=false) (ay:P.doorFits []=true):P.mayEnter=true:=by
 unfold Program.mayEnter;rw[h,hw];have e:stripLifts liftWords (H4::r)=([],H4::r):=rfl;simp only[e,h1,af,ay];rfl
theorem atI:Tryz.prog.liftsFinal=false:=by unfold Program.liftsFinal Program.headLifts;rw[L3];kernel_rfl
theorem atJ:Tryz.prog.mayEnter=true:=atH L3 abq (by kernel_rfl) (by kernel_rfl) (by kernel_rfl)
theorem atK:Tryz.prog.make=some .cut:=atG L3 abq
theorem atL:joinedFacts Tryz.prog 3 Tryz.f3 Rows.fnExactMoveLabelsSpec Rows.fnExactMoveLabelsRow=true:=by
 unfold joinedFacts;rw[atI,atJ,atK];kernel_rfl
theorem over:Rows.fnExactMoveLabelsRow.holds Tryz.pinned (OpenSpec.ofChange Rows.fnExactMoveLabelsSpec):=
 OpenClaim.holds_of_wide 3 Tryz.f3 rfl rfl rfl rfl rfl rfl rfl ⟨rfl,rfl,rfl,rfl,rfl⟩ rfl rfl rfl rfl rfl (by kernel_rfl) Tryz.func3 atL
  (of_decide_eq_true (by kernel_rfl)) (by unfold Func.isWrapper;first|(rw[if_pos (by decide+kernel)];kernel_rfl)|(rw[if_neg (by decide+kernel)];exact⟨rfl,rfl⟩))
  (λos started H enc _=>lifted os started H enc)
theorem atM:Tryz.prog.mainIs=some (Rows.fnExactMoveLabelsCard.stood.harness.1,Rows.fnExactMoveLabelsCard.stood.harness.2.toList):=by
 unfold Program.mainIs;rw[L3];kernel_rfl
theorem proved:Rows.FnExactMoveLabelsCardSaid:=
 Claim7.holds_tied_plain_at .later [] Rows.fnExactMoveLabelsCard.laidKinds true Rows.fnExactMoveLabelsCard.stood.harness true
  over (λ_ h=>by cases h) (by kernel_rfl) (λ_ h=>by cases h) fnExactMoveLabels_row_tie rfl ⟨rfl,rfl⟩ atM rfl
  (λf fn bI atN=>by
   obtain rfl:f=3:=some.inj ((show Tryz.prog.funcNamed Rows.fnExactMoveLabelsRow.func=some 3 by kernel_rfl).symm.trans bI)|>.symm;obtain rfl:fn=Tryz.f3:=(some.inj (Tryz.func3.symm.trans atN)).symm;exact⟨by kernel_rfl,λj t a6=>by
    rw[Tryz.params3]at a6;have hm:t∈[27,28]:=by simpa using Array.mem_of_getElem? a6
    have nu:([27,28].all λu=> !Tryz.prog.wantsStandIn u)=true:=by kernel_rfl
    exact(show Tryz.prog.wantsStandIn t=false by simpa using List.all_eq_true.1 nu t hm)⟩)
  (by kernel_rfl)
end Go.Proofs.YtafceioodemeeaaGreatDoor.fnExactMoveLabelsCard
