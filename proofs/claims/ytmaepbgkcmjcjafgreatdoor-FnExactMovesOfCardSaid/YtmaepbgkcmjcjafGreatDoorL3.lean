/- Part of a proof that a law returns true for every input. No condition. -/
import Derived.Test.YtmaepbgkcmjcjafGreatDoorRows
import Derived.Test.YtmaepbgkcmjcjafGreatDoorTie
import Derived.Test.YtmaepbgkcmjcjafGreatDoorCards
import Derived.SevenTiedAt
import Derived.MakeChecks
import Derived.LaidMore
import Derived.Stop.Joined
import Derived.Test.YtmaepbgkcmjcjafGreatDoorFwR
import Derived.Lay
import Derived.Test.YtmaepbgkcmjcjafGreatDoorW3
import Derived.Test.YtmaepbgkcmjcjafGreatDoorFwI
import Derived.Test.YtmaepbgkcmjcjafGreatDoorUV8x
import Derived.WalkKit
import Derived.ProofKit
import Derived.OpenShut
import Derived.ChangeOld
import Derived.Below
import Derived.Carry
namespace Go.Proofs.YtmaepbgkcmjcjafGreatDoor.fnExactMovesOfCard
open List Option Go.IntKind Nat
open Go.ChangeShapes Go.WideShapes Go.ChangeAt Go.RowKit
open Go.eg Go.kX
set_option linter.unusedVariables false
theorem own:ownKnob Tryz.prog.godebug=none:=by kernel_rfl
theorem laidOut:laidOutB Tryz.prog=true:=by kernel_rfl
theorem arM (os:Os) (args:Array Value):laidMetH Tryz.prog Rows.fnExactMovesOfRow.laid ((World.laidAll Tryz.prog os Rows.fnExactMovesOfRow.laid).forCall (λ_ _=>0) ⟨#[],args,[]⟩).memory:=by
 have h:=laidMet_laidAll (P:=Tryz.prog) (os:=os) (laid:=Rows.fnExactMovesOfRow.laid) args (by kernel_rfl) (by kernel_rfl);unfold laidMetH;rw[show(Rows.fnExactMovesOfRow.laid.filter λx=>x.2.handleName?.isSome)=[] by kernel_rfl];exact h
theorem Dj {H:Type} {enc:TypeId×Value->H} {w:World} {base:Nat} {sp:Nat->Bool} {held:Bool}:kK enc Tryz.prog w base sp held 9 (λx:List UInt8=>.str x) (λx:List UInt8=>x.length<=9223372036854775807):=af0 Tryz.underlying9
theorem wq {H:Type} {enc:TypeId×Value->H} {w:World} {base:Nat} {sp:Nat->Bool} {held:Bool}:kK enc Tryz.prog w base sp held 2 (λx:Int=>.int .i64 x) (λx:Int=>(-9223372036854775808<=x/\x<=9223372036854775807)):=afZ Tryz.underlying2
theorem arN {H:Type} {enc:TypeId×Value->H} {w:World} {base:Nat} {sp:Nat->Bool} {held:Bool}:kK enc Tryz.prog w base sp held 285 mW (λx:jq=>Br x):=by
 intro fuel cs x ao;obtain⟨xs,n,_,_,hl,aV,bD⟩:=DataW.trod_struct Tryz.underlying285 ao;have iC:cs.length=2:=hl.trans (by kernel_rfl);obtain⟨gg,w0,ai⟩:=l8 wq (bD 0 _ rfl) (by rw[getElem?_eq_getElem (by rw[aV];decide)];rfl);change aB w (F0 w) (.int .i64 gg) ((cs.drop 0).take (Tryz.prog.cellsOf 2)) _ at ai;rw[show Tryz.prog.cellsOf 2=1 by kernel_rfl]at ai;obtain⟨ft,fe,eh⟩:=l8 wq (bD 1 _ rfl) (by rw[getElem?_eq_getElem (by rw[aV];decide)];rfl);change aB w (F0 w) (.int .i64 ft) ((cs.drop 1).take (Tryz.prog.cellsOf 2)) _ at eh;rw[show Tryz.prog.cellsOf 2=1 by kernel_rfl]at eh;have key:=y8 [(.int .i64 gg,0,1),(.int .i64 ft,1,1)] 0 (by rw[iC];rfl) ⟨ai,eh,trivial⟩;refine⟨⟨gg,ft⟩,⟨w0,fe⟩,?_⟩;show aB w (F0 w) (.agg [.int .i64 gg,.int .i64 ft]) cs _;rw[aB];exact key
theorem arO {H:Type} {enc:TypeId×Value->H} {w:World} {base:Nat} {sp:Nat->Bool} {held:Bool}:kK enc Tryz.prog w base sp held 250 (λx:List jq=>.slice (x.map mW)) (λx:List jq=>(x.length<=9223372036854775807/\∀y∈x,Br y)):=vu (sz:=2) (ec:=mW) Tryz.underlying250 (by kernel_rfl) (by decide) (λ_=>rfl) arN
theorem arP {H:Type} {enc:TypeId×Value->H} {w:World} {base:Nat} {sp:Nat->Bool} {held:Bool}:kK enc Tryz.prog w base sp held 175 (λx:List (ayo)=>.slice (x.map ly)) (λx:List (ayo)=>(x.length<=9223372036854775807/\∀y∈x,(y.length<=9223372036854775807/\∀z∈y,Br z))):=vu (sz:=1) (ec:=ly) Tryz.underlying175 (by kernel_rfl) (by decide) (λ_=>rfl) arO
theorem arQ {H:Type} {enc:TypeId×Value->H} {w:World} {base:Nat} {sp:Nat->Bool} {held:Bool}:kK enc Tryz.prog w base sp held 177 ky (λx:ll=>E3 x):=by
 intro fuel cs x ao;obtain⟨xs,n,_,_,hl,aV,bD⟩:=DataW.trod_struct Tryz.underlying177 ao;have iC:cs.length=4:=hl.trans (by kernel_rfl);obtain⟨gg,w0,ai⟩:=l8 wq (bD 0 _ rfl) (by rw[getElem?_eq_getElem (by rw[aV];decide)];rfl);change aB w (F0 w) (.int .i64 gg) ((cs.drop 0).take (Tryz.prog.cellsOf 2)) _ at ai;rw[show Tryz.prog.cellsOf 2=1 by kernel_rfl]at ai;obtain⟨ft,fe,eh⟩:=l8 wq (bD 1 _ rfl) (by rw[getElem?_eq_getElem (by rw[aV];decide)];rfl);change aB w (F0 w) (.int .i64 ft) ((cs.drop 1).take (Tryz.prog.cellsOf 2)) _ at eh;rw[show Tryz.prog.cellsOf 2=1 by kernel_rfl]at eh;obtain⟨hr,hf,bc⟩:=l8 Dj (bD 2 _ rfl) (by rw[getElem?_eq_getElem (by rw[aV];decide)];rfl);change aB w (F0 w) (.str hr) ((cs.drop 2).take (Tryz.prog.cellsOf 9)) _ at bc;rw[show Tryz.prog.cellsOf 9=1 by kernel_rfl]at bc;obtain⟨mP,oL,dm⟩:=l8 arP (bD 3 _ rfl) (by rw[getElem?_eq_getElem (by rw[aV];decide)];rfl);change aB w (F0 w) (.slice (mP.map ly)) ((cs.drop 3).take (Tryz.prog.cellsOf 175)) _ at dm;rw[show Tryz.prog.cellsOf 175=1 by kernel_rfl]at dm;have key:=y8 [(.int .i64 gg,0,1),(.int .i64 ft,1,1),(.str hr,2,1),(.slice (mP.map ly),3,1)] 0 (by rw[iC];rfl) ⟨ai,eh,bc,dm,trivial⟩;refine⟨⟨gg,ft,hr,mP⟩,⟨w0,fe,hf,oL⟩,?_⟩;show aB w (F0 w) (.agg [.int .i64 gg,.int .i64 ft,.str hr,.slice (mP.map ly)]) cs _;rw[aB];exact key
theorem arR {H:Type} {enc:TypeId×Value->H} {w:World} {base:Nat} {sp:Nat->Bool} {held:Bool}:kK enc Tryz.prog w base sp held 83 (λx:List ll=>.slice (x.map ky)) (λx:List ll=>(x.length<=9223372036854775807/\∀y∈x,E3 y)):=vu (sz:=4) (ec:=ky) Tryz.underlying83 (by kernel_rfl) (by decide) (λ_=>rfl) arQ
theorem arS {H:Type} {enc:TypeId×Value->H} {w:World} {base:Nat} {sp:Nat->Bool} {held:Bool}:kK enc Tryz.prog w base sp held 85 jU (λx:ln=>E4 x):=by
 intro fuel cs x ao;obtain⟨xs,n,_,_,hl,aV,bD⟩:=DataW.trod_struct Tryz.underlying85 ao;have iC:cs.length=3:=hl.trans (by kernel_rfl);obtain⟨gg,w0,ai⟩:=l8 Dj (bD 0 _ rfl) (by rw[getElem?_eq_getElem (by rw[aV];decide)];rfl);change aB w (F0 w) (.str gg) ((cs.drop 0).take (Tryz.prog.cellsOf 9)) _ at ai;rw[show Tryz.prog.cellsOf 9=1 by kernel_rfl]at ai;obtain⟨ft,fe,eh⟩:=l8 wq (bD 1 _ rfl) (by rw[getElem?_eq_getElem (by rw[aV];decide)];rfl);change aB w (F0 w) (.int .i64 ft) ((cs.drop 1).take (Tryz.prog.cellsOf 2)) _ at eh;rw[show Tryz.prog.cellsOf 2=1 by kernel_rfl]at eh;obtain⟨hr,hf,bc⟩:=l8 arR (bD 2 _ rfl) (by rw[getElem?_eq_getElem (by rw[aV];decide)];rfl);change aB w (F0 w) (.slice (hr.map ky)) ((cs.drop 2).take (Tryz.prog.cellsOf 83)) _ at bc;rw[show Tryz.prog.cellsOf 83=1 by kernel_rfl]at bc;have key:=y8 [(.str gg,0,1),(.int .i64 ft,1,1),(.slice (hr.map ky),2,1)] 0 (by rw[iC];rfl) ⟨ai,eh,bc,trivial⟩;refine⟨⟨gg,ft,hr⟩,⟨w0,fe,hf⟩,?_⟩;show aB w (F0 w) (.agg [.str gg,.int .i64 ft,.slice (hr.map ky)]) cs _;rw[aB];exact key
theorem arT {H:Type} {enc:TypeId×Value->H} {w:World} {base:Nat} {sp:Nat->Bool} {held:Bool}:kK enc Tryz.prog w base sp held 22 (λx:List ln=>.slice (x.map jU)) (λx:List ln=>(x.length<=9223372036854775807/\∀y∈x,E4 y)):=vu (sz:=3) (ec:=jU) Tryz.underlying22 (by kernel_rfl) (by decide) (λ_=>rfl) arS
theorem Z0 {H:Type} {enc:TypeId×Value->H} {w:World} {base:Nat} {sp:Nat->Bool} {held:Bool}:kK enc Tryz.prog w base sp held 54 (λx:List Int=>.slice (x.map a8)) (λx:List Int=>(x.length<=9223372036854775807/\∀y∈x,(-9223372036854775808<=y/\y<=9223372036854775807))):=vu (sz:=1) (ec:=a8) Tryz.underlying54 (by kernel_rfl) (by decide) (λ_=>rfl) wq
theorem arU {H:Type} {enc:TypeId×Value->H} {w:World} {base:Nat} {sp:Nat->Bool} {held:Bool}:kK enc Tryz.prog w base sp held 88 jW (λx:lo=>E5 x):=by
 intro fuel cs x ao;obtain⟨xs,n,_,_,hl,aV,bD⟩:=DataW.trod_struct Tryz.underlying88 ao;have iC:cs.length=2:=hl.trans (by kernel_rfl);obtain⟨gg,w0,ai⟩:=l8 wq (bD 0 _ rfl) (by rw[getElem?_eq_getElem (by rw[aV];decide)];rfl);change aB w (F0 w) (.int .i64 gg) ((cs.drop 0).take (Tryz.prog.cellsOf 2)) _ at ai;rw[show Tryz.prog.cellsOf 2=1 by kernel_rfl]at ai;obtain⟨ft,fe,eh⟩:=l8 Z0 (bD 1 _ rfl) (by rw[getElem?_eq_getElem (by rw[aV];decide)];rfl);change aB w (F0 w) (.slice (ft.map a8)) ((cs.drop 1).take (Tryz.prog.cellsOf 54)) _ at eh;rw[show Tryz.prog.cellsOf 54=1 by kernel_rfl]at eh;have key:=y8 [(.int .i64 gg,0,1),(.slice (ft.map a8),1,1)] 0 (by rw[iC];rfl) ⟨ai,eh,trivial⟩;refine⟨⟨gg,ft⟩,⟨w0,fe⟩,?_⟩;show aB w (F0 w) (.agg [.int .i64 gg,.slice (ft.map a8)]) cs _;rw[aB];exact key
theorem arV {H:Type} {enc:TypeId×Value->H} {w:World} {base:Nat} {sp:Nat->Bool} {held:Bool}:kK enc Tryz.prog w base sp held 23 (λx:List lo=>.slice (x.map jW)) (λx:List lo=>(x.length<=9223372036854775807/\∀y∈x,E5 y)):=vu (sz:=2) (ec:=jW) Tryz.underlying23 (by kernel_rfl) (by decide) (λ_=>rfl) arU
theorem arW {H:Type} {enc:TypeId×Value->H} {w:World} {base:Nat} {sp:Nat->Bool} {held:Bool}:kK enc Tryz.prog w base sp held 91 jA (λx:kY=>E6 x):=by
 intro fuel cs x ao;obtain⟨xs,n,_,_,hl,aV,bD⟩:=DataW.trod_struct Tryz.underlying91 ao;have iC:cs.length=3:=hl.trans (by kernel_rfl);obtain⟨gg,w0,ai⟩:=l8 Dj (bD 0 _ rfl) (by rw[getElem?_eq_getElem (by rw[aV];decide)];rfl);change aB w (F0 w) (.str gg) ((cs.drop 0).take (Tryz.prog.cellsOf 9)) _ at ai;rw[show Tryz.prog.cellsOf 9=1 by kernel_rfl]at ai;obtain⟨ft,fe,eh⟩:=l8 Dj (bD 1 _ rfl) (by rw[getElem?_eq_getElem (by rw[aV];decide)];rfl);change aB w (F0 w) (.str ft) ((cs.drop 1).take (Tryz.prog.cellsOf 9)) _ at eh;rw[show Tryz.prog.cellsOf 9=1 by kernel_rfl]at eh;obtain⟨hr,hf,bc⟩:=l8 Dj (bD 2 _ rfl) (by rw[getElem?_eq_getElem (by rw[aV];decide)];rfl);change aB w (F0 w) (.str hr) ((cs.drop 2).take (Tryz.prog.cellsOf 9)) _ at bc;rw[show Tryz.prog.cellsOf 9=1 by kernel_rfl]at bc;have key:=y8 [(.str gg,0,1),(.str ft,1,1),(.str hr,2,1)] 0 (by rw[iC];rfl) ⟨ai,eh,bc,trivial⟩;refine⟨⟨gg,ft,hr⟩,⟨w0,fe,hf⟩,?_⟩;show aB w (F0 w) (.agg [.str gg,.str ft,.str hr]) cs _;rw[aB];exact key
theorem arX {H:Type} {enc:TypeId×Value->H} {w:World} {base:Nat} {sp:Nat->Bool} {held:Bool}:kK enc Tryz.prog w base sp held 24 (λx:List kY=>.slice (x.map jA)) (λx:List kY=>(x.length<=9223372036854775807/\∀y∈x,E6 y)):=vu (sz:=3) (ec:=jA) Tryz.underlying24 (by kernel_rfl) (by decide) (λ_=>rfl) arW
theorem Z1 {H:Type} {enc:TypeId×Value->H} {w:World} {base:Nat} {sp:Nat->Bool} {held:Bool}:kK enc Tryz.prog w base sp held 25 (λx:List (ayc)=>.slice (x.map bm)) (λx:List (ayc)=>(x.length<=9223372036854775807/\∀y∈x,y.length<=9223372036854775807)):=vu (sz:=1) (ec:=bm) Tryz.underlying25 (by kernel_rfl) (by decide) (λ_=>rfl) Dj
theorem arY {H:Type} {enc:TypeId×Value->H} {w:World} {base:Nat} {sp:Nat->Bool} {held:Bool}:kK enc Tryz.prog w base sp held 27 nN (λx:oN=>E7 x):=by
 intro fuel cs x ao;obtain⟨xs,n,_,_,hl,aV,bD⟩:=DataW.trod_struct Tryz.underlying27 ao;have iC:cs.length=5:=hl.trans (by kernel_rfl);obtain⟨gg,w0,ai⟩:=l8 arT (bD 0 _ rfl) (by rw[getElem?_eq_getElem (by rw[aV];decide)];rfl);change aB w (F0 w) (.slice (gg.map jU)) ((cs.drop 0).take (Tryz.prog.cellsOf 22)) _ at ai;rw[show Tryz.prog.cellsOf 22=1 by kernel_rfl]at ai;obtain⟨ft,fe,eh⟩:=l8 arV (bD 1 _ rfl) (by rw[getElem?_eq_getElem (by rw[aV];decide)];rfl);change aB w (F0 w) (.slice (ft.map jW)) ((cs.drop 1).take (Tryz.prog.cellsOf 23)) _ at eh;rw[show Tryz.prog.cellsOf 23=1 by kernel_rfl]at eh;obtain⟨hr,hf,bc⟩:=l8 arX (bD 2 _ rfl) (by rw[getElem?_eq_getElem (by rw[aV];decide)];rfl);change aB w (F0 w) (.slice (hr.map jA)) ((cs.drop 2).take (Tryz.prog.cellsOf 24)) _ at bc;rw[show Tryz.prog.cellsOf 24=1 by kernel_rfl]at bc;obtain⟨mP,oL,dm⟩:=l8 Z1 (bD 3 _ rfl) (by rw[getElem?_eq_getElem (by rw[aV];decide)];rfl);change aB w (F0 w) (.slice (mP.map bm)) ((cs.drop 3).take (Tryz.prog.cellsOf 25)) _ at dm;rw[show Tryz.prog.cellsOf 25=1 by kernel_rfl]at dm;obtain⟨qM,Sk,bG⟩:=l8 Z1 (bD 4 _ rfl) (by rw[getElem?_eq_getElem (by rw[aV];decide)];rfl);change aB w (F0 w) (.slice (qM.map bm)) ((cs.drop 4).take (Tryz.prog.cellsOf 25)) _ at bG;rw[show Tryz.prog.cellsOf 25=1 by kernel_rfl]at bG;have key:=y8 [(.slice (gg.map jU),0,1),(.slice (ft.map jW),1,1),(.slice (hr.map jA),2,1),(.slice (mP.map bm),3,1),(.slice (qM.map bm),4,1)] 0 (by rw[iC];rfl) ⟨ai,eh,bc,dm,bG,trivial⟩;refine⟨⟨gg,ft,hr,mP,qM⟩,⟨w0,fe,hf,oL,Sk⟩,?_⟩;show aB w (F0 w) (.agg [.slice (gg.map jU),.slice (ft.map jW),.slice (hr.map jA),.slice (mP.map bm),.slice (qM.map bm)]) cs _;rw[aB];exact key
theorem arZ {H:Type} {enc:TypeId×Value->H} {w:World} {base:Nat} {sp:Nat->Bool} {held:Bool}:kK enc Tryz.prog w base sp held 56 jB (λx:lp=>Bs x):=by
 intro fuel cs x ao;obtain⟨xs,n,_,_,hl,aV,bD⟩:=DataW.trod_struct Tryz.underlying56 ao;have iC:cs.length=3:=hl.trans (by kernel_rfl);obtain⟨gg,w0,ai⟩:=l8 wq (bD 0 _ rfl) (by rw[getElem?_eq_getElem (by rw[aV];decide)];rfl);change aB w (F0 w) (.int .i64 gg) ((cs.drop 0).take (Tryz.prog.cellsOf 2)) _ at ai;rw[show Tryz.prog.cellsOf 2=1 by kernel_rfl]at ai;obtain⟨ft,fe,eh⟩:=l8 wq (bD 1 _ rfl) (by rw[getElem?_eq_getElem (by rw[aV];decide)];rfl);change aB w (F0 w) (.int .i64 ft) ((cs.drop 1).take (Tryz.prog.cellsOf 2)) _ at eh;rw[show Tryz.prog.cellsOf 2=1 by kernel_rfl]at eh;obtain⟨hr,hf,bc⟩:=l8 Z0 (bD 2 _ rfl) (by rw[getElem?_eq_getElem (by rw[aV];decide)];rfl);change aB w (F0 w) (.slice (hr.map a8)) ((cs.drop 2).take (Tryz.prog.cellsOf 54)) _ at bc;rw[show Tryz.prog.cellsOf 54=1 by kernel_rfl]at bc;have key:=y8 [(.int .i64 gg,0,1),(.int .i64 ft,1,1),(.slice (hr.map a8),2,1)] 0 (by rw[iC];rfl) ⟨ai,eh,bc,trivial⟩;refine⟨⟨gg,ft,hr⟩,⟨w0,fe,hf⟩,?_⟩;show aB w (F0 w) (.agg [.int .i64 gg,.int .i64 ft,.slice (hr.map a8)]) cs _;rw[aB];exact key
theorem ar0 {H:Type} {enc:TypeId×Value->H} {w:World} {base:Nat} {sp:Nat->Bool} {held:Bool}:kK enc Tryz.prog w base sp held 28 (λx:List lp=>.slice (x.map jB)) (λx:List lp=>(x.length<=9223372036854775807/\∀y∈x,Bs y)):=vu (sz:=3) (ec:=jB) Tryz.underlying28 (by kernel_rfl) (by decide) (λ_=>rfl) arZ
theorem gq {W:World} (nk:laidMetH Tryz.prog Rows.fnExactMovesOfRow.laid W):tx W λ_=>False:=λp ax=>by
 rcases mem_cons.1 ax with rfl|ax
 .exact ahx (name:= "strconv.ErrSyntax") (x:=Rows.laid_strconv_ErrSyntax) (t:=234) nk (by kernel_rfl) (by kernel_rfl) Tryz.underlying234 ⟨_,_,rfl⟩ (by kernel_rfl)
 .rcases mem_cons.1 ax with rfl|ax
  .exact ahz (name:= "internal/strconv.uint64pow10") (x:=Rows.laid_internal_strconv_uint64pow10) (t:=299) (e:=273) nk (by kernel_rfl) (by kernel_rfl) Tryz.underlying299 Tryz.underlying273 (by kernel_rfl) (by kernel_rfl) (by kernel_rfl) (by kernel_rfl)
  .cases ax
theorem walk (w:World) (hg:tx w λ_=>False) (gg:oN) (A6:E7 gg) (v0:Value) (ft:ayt) (vq:(ft.length<=9223372036854775807/\∀y∈ft,Bs y)) (v1:Value) (g0:Arg w (.agg [.slice (gg.c8.map jU),.slice (gg.cL.map jW),.slice (gg.cz.map jA),.slice (gg.dj.map bm),.slice (gg.dk.map bm)]) v0) (g1:Arg w (.slice (ft.map jB)) v1):
  Calls Tryz.prog 3 #[v0,v1] w λe aN=>e= .returned (.bool true)/\RowKit.Below w.heap.size w aN:=
 aW.law (C:=ah) (ary gg ft true (ar1 gg ft A6 vq)) Tryz.func3 rfl rfl (.cons g0 (.cons g1 (.nil))) (hg:=hg)
set_option maxRecDepth 100000 in
theorem lifted (os:Os) (started:os.Started) (H:Type) (enc:TypeId×Value->H):
  ReturnsInHanded {} Tryz.checked os 3 .any (λw args=>(Rows.fnExactMovesOfSpec.pre enc Tryz.prog Tryz.f3 Rows.fnExactMovesOfRow.domain false w args/\laidMetH Tryz.prog Rows.fnExactMovesOfRow.laid w)/\sizedMet enc Tryz.prog Tryz.f3 (OpenSpec.ofChange Rows.fnExactMovesOfSpec) false w args) (Rows.fnExactMovesOfSpec.post enc Tryz.prog Tryz.f3 false true false false):=by
 refine returnsInHanded_of_change_and (C:=Tryz.checked) (X:=λw _=>laidMetH Tryz.prog Rows.fnExactMovesOfRow.laid w) (λ_ _ _ kj h=>h.of_heap kj) own started (by kernel_rfl) Tryz.func3
  (ChangeSpec.witness_shaped (enc:=enc) (C:=Tryz.checked) (os:=os) (X:=λw _=>laidMetH Tryz.prog Rows.fnExactMovesOfRow.laid w) false (World.laidAll Tryz.prog os Rows.fnExactMovesOfRow.laid) #[.agg #[.slice none 0 0,.slice none 0 0,.slice none 0 0,.slice none 0 0,.slice none 0 0],.slice none 0 0] 8 rfl (World.shaped_of_RefB (by kernel_rfl) (by kernel_rfl)) (by kernel_rfl) (by kernel_rfl) (by kernel_rfl) (arM os _)) ?_
 intro W base args ds gs before Z2 Z3 _ _ nk _;have tQ:∀(j:Nat) t v,Tryz.f3.params[j]? =some t->args[j]? =some v->Value.okWide Tryz.prog W .any base t v:=Z2;have ar2:=Z3;obtain⟨p,q,AZ,r8,rfl,axT,Ba⟩:=Z3;have ja:DataW.TrodAll enc Tryz.prog W 0 (λ_=>true) true Tryz.f3.params.toList args.toList ds p:=AZ;rw[Tryz.params3]at ja tQ;obtain⟨v0,axU,d0,axV,jj,AN,q6,rfl,rfl,a_,ai⟩:=trodAll_cons ja;obtain⟨v1,axW,d1,axX,gT,gU,rfl,rfl,rfl,ad,eh⟩:=trodAll_cons ai;obtain⟨rfl,rfl,rfl⟩:=trodAll_nil eh;obtain rfl:args= #[v0,v1]:=by cases args;simp_all
 obtain⟨rfl,rfl⟩:=trodVars_none r8;have Ad:∀x∈jj,x.block<W.heap.size:=by obtain⟨m,hm⟩:=a_;exact DataW.trod_lt m _ _ _ hm
 obtain⟨gg,g0,A6⟩:=af6 (es:=λy:oN=>[.slice (y.c8.map jU),.slice (y.cL.map jW),.slice (y.cz.map jA),.slice (y.dj.map bm),.slice (y.dk.map bm)]) Tryz.underlying27 arY (tQ 0 27 v0 rfl rfl) a_;have ar3:∀x∈gT,x.block<W.heap.size:=by obtain⟨m,hm⟩:=ad;exact DataW.trod_lt m _ _ _ hm
 obtain⟨ft,g1,vq⟩:=af5 Tryz.underlying28 ar0 (tQ 1 28 v1 rfl rfl) ad;clear AZ Z2;refine(walk W (gq nk) gg A6 v0 ft vq v1 g0 g1).mono λe axY ⟨he,Sl⟩=>?_;subst he;exact⟨_,rfl,_,_,_,[],_,[],ar2,trodAll_mk1 (shut_bool Tryz.underlying4 _),(trodAll_cons_mk (Below.trod laidOut (by kernel_rfl) (of_decide_eq_true (by kernel_rfl)) a_ Sl Ad) (trodAll_cons_mk (Below.trod laidOut (by kernel_rfl) (of_decide_eq_true (by kernel_rfl)) ad Sl ar3) trodAll_mk0)),rfl,Sl.frame _,λh=>by cases h⟩
def Lg:List Char:=map Char.ofNat [104,97,114,110,101,115,115,32,54,50,53,56,101,100,55,97,52,50,99,53,51,51,56,100,56,52,56,53,100,100,52,55,57,51,52,102,54,51,99,101,102,100,51,49,50,98,50,56,53,55,57,57,56,51,50,52,55,99,53,101,102,100,49,57,55,97,100,98,52,51,97,49,32,99,117,116,32,97,116,32,108,111,111,112,46,101,120,97,109,112,108,101,47,103,48,49,48,55,53,47,108,97,119,115,46,70,110,69,120,97,99,116,77,111,118,101,115,79,102]
def Ho:List Char:=map Char.ofNat [99,117,116]
theorem ar4:Tryz.prog.initOrder=String.ofList Lg:=by kernel_rfl
theorem Lh:Tryz.prog.initOrder.toList=Lg:=by rw[ar4];exact String.toList_ofList
theorem Z4:behindMainWord (wordsSigns Lg)=Ho::(behindMainWord (wordsSigns Lg)).tail:=by kernel_rfl
theorem ar5 {P:Program} {L:List Char} {r:List (List Char)} (h:P.initOrder.toList=L) (hw:behindMainWord (wordsSigns L)=Ho::r):P.make=some .cut:=by
 unfold Program.make;rw[h,hw];rfl
theorem ar6 {P:Program} {L:List Char} {r:List (List Char)} (h:P.initOrder.toList=L) (hw:behindMainWord (wordsSigns L)=Ho::r) (ad:P.laysLater=false) (af:P.bearsReflect=false) (aG:P.doorFits []=true):P.mayEnter=true:=by
 unfold Program.mayEnter;rw[h,hw];have e:stripLifts liftWords (Ho::r)=([],Ho::r):=rfl;simp only[e,ad,af,aG];rfl
theorem ar7:Tryz.prog.liftsFinal=false:=by unfold Program.liftsFinal Program.headLifts;rw[Lh];kernel_rfl
theorem ar8:Tryz.prog.mayEnter=true:=ar6 Lh Z4 (by kernel_rfl) (by kernel_rfl) (by kernel_rfl)
theorem ar9:Tryz.prog.make=some .cut:=ar5 Lh Z4
theorem ar_:joinedFacts Tryz.prog 3 Tryz.f3 Rows.fnExactMovesOfSpec Rows.fnExactMovesOfRow=true:=by
 unfold joinedFacts;rw[ar7,ar8,ar9];kernel_rfl
theorem over:Rows.fnExactMovesOfRow.holds Tryz.pinned (OpenSpec.ofChange Rows.fnExactMovesOfSpec):=
 OpenClaim.holds_of_wide 3 Tryz.f3 rfl rfl rfl rfl rfl rfl rfl ⟨rfl,rfl,rfl,rfl,rfl⟩ rfl rfl rfl rfl rfl (by kernel_rfl) Tryz.func3 ar_
  (of_decide_eq_true (by kernel_rfl)) (by unfold Func.isWrapper;first|(rw[if_pos (by decide+kernel)];kernel_rfl)|(rw[if_neg (by decide+kernel)];exact⟨rfl,rfl⟩))
  (λos started H enc _=>lifted os started H enc)
theorem asa:Tryz.prog.mainIs=some (Rows.fnExactMovesOfCard.stood.harness.1,Rows.fnExactMovesOfCard.stood.harness.2.toList):=by
 unfold Program.mainIs;rw[Lh];kernel_rfl
theorem proved:Rows.FnExactMovesOfCardSaid:=
 Claim7.holds_tied_plain_at .later [] Rows.fnExactMovesOfCard.laidKinds true Rows.fnExactMovesOfCard.stood.harness true
  over (λ_ h=>by cases h) (by kernel_rfl) (λ_ h=>by cases h) fnExactMovesOf_row_tie rfl ⟨rfl,rfl⟩ asa rfl
  (λf fn bD asb=>by
   obtain rfl:f=3:=some.inj ((show Tryz.prog.funcNamed Rows.fnExactMovesOfRow.func=some 3 by kernel_rfl).symm.trans bD)|>.symm;obtain rfl:fn=Tryz.f3:=(some.inj (Tryz.func3.symm.trans asb)).symm;exact⟨by kernel_rfl,λj t ba=>by
    rw[Tryz.params3]at ba;have hm:t∈[27,28]:=by simpa using Array.mem_of_getElem? ba
    have nd:([27,28].all λu=> !Tryz.prog.wantsStandIn u)=true:=by kernel_rfl
    exact(show Tryz.prog.wantsStandIn t=false by simpa using List.all_eq_true.1 nd t hm)⟩)
  (by kernel_rfl)
end Go.Proofs.YtmaepbgkcmjcjafGreatDoor.fnExactMovesOfCard
