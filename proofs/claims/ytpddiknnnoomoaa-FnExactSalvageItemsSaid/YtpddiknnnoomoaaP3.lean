/- Part of a proof that a law returns true for every input. No condition. -/
import Derived.Test.YtpddiknnnoomoaaFwA
namespace Go.eF
open Go Go.bV
set_option linter.unusedVariables false
noncomputable section
structure aP where
 Name:List UInt8
 dP:List UInt8
def PZ (x:aP):Prop:=x.Name.length≤9223372036854775807∧x.dP.length≤9223372036854775807
def rf (a0:UInt8):Option Bool:=
 some ((decide (97≤(a0.toNat:Int)))&&(decide ((a0.toNat:Int)≤122)))
def wB (a0:UInt8):Option Bool:=
 some ((decide (48≤(a0.toNat:Int)))&&(decide ((a0.toNat:Int)≤57)))
def sX (pD:Int→Option Bool) (a0:List UInt8) (eG:Int):Option Bool:=
 cond (decide (eG<(a0.length:Int))) ((c7 a0 eG).bind fun bQ=>(rf bQ).bind fun cC=>cond (!cC) ((wB bQ).bind fun cO=>cond (!cO) (some false) (pD (IntKind.i64.wrap (eG+1)))) (pD (IntKind.i64.wrap (eG+1)))) (some true)
def pE (a0:List UInt8):Nat→Int→Option Bool
 |0,_=>none
 |n+1,eG=>sX (pE a0 n) a0 eG
def sY (a0:List UInt8):Option Bool:=
 cond (a0==([]:List UInt8)) (some false) (cond (decide (10<(a0.length:Int))) (some false) ((c7 a0 0).bind fun aU=>(rf aU).bind fun a8=>cond (!a8) (some false) (fU fun n=>pE a0 n 0)))
def rh (cZ:Int→Int→Option Int) (sZ:Int→Int→Int→Option Int) (a0:List UInt8) (pF:Int) (pG:Int) (pH:Int):Option Int:=
 sZ pF pG (IntKind.i64.wrap (pH+1))
def ri (cZ:Int→Int→Option Int) (sZ:Int→Int→Int→Option Int) (a0:List UInt8) (hO:Int) (ir:Int) (iV:Int):Option Int:=
 cond (decide (iV<8)) (cond (decide (65535<(IntKind.i64.wrap (hO*2)))) (rh cZ sZ a0 (bitsOf .xor .i64 (bitsOf .and .i64 (IntKind.i64.wrap (hO*2)) 65535) 4129) ir iV) (rh cZ sZ a0 (IntKind.i64.wrap (hO*2)) ir iV)) (cZ hO (IntKind.i64.wrap (ir+1)))
def la (cZ:Int→Int→Option Int) (a0:List UInt8):Nat→Int→Int→Int→Option Int
 |0,_,_,_=>none
 |n+1,hO,ir,iV=>ri cZ (la cZ a0 n) a0 hO ir iV
def rj (cZ:Int→Int→Option Int) (a0:List UInt8) (cW:Int) (cG:Int):Option Int:=
 cond (decide (cG<(a0.length:Int))) ((c7 a0 cG).bind fun aU=>fU fun n=>la cZ a0 n (bitsOf .xor .i64 cW (IntKind.i64.wrap ((aU.toNat:Int)*256))) cG 0) (some cW)
def hP (a0:List UInt8):Nat→Int→Int→Option Int
 |0,_,_=>none
 |n+1,cW,cG=>rj (hP a0 n) a0 cW cG
def pI (a0:List UInt8) (aF:Int):Option Int:=
 fU fun n=>hP a0 n aF 0
def s0 (a0:Int) (aF:Int) (cj:Int):Option Bool:=
 some ((decide (aF≤a0))&&(decide (a0≤cj)))
def rk (a0:List UInt8):Option (Int×Int):=
 cond (decide ((a0.length:Int)<3)) (some (0,11)) ((eQ a0 0 (IntKind.i64.wrap ((a0.length:Int)-2))).bind fun aU=>(pI aU 65535).bind fun a8=>(c7 a0 (IntKind.i64.wrap ((a0.length:Int)-2))).bind fun bQ=>(c7 a0 (IntKind.i64.wrap ((a0.length:Int)-1))).bind fun cC=>cond (a8 !=(IntKind.i64.wrap ((IntKind.i64.wrap ((bQ.toNat:Int)*256))+(cC.toNat:Int)))) (some (0,10)) ((c7 a0 0).bind fun cO=>(s0 (cO.toNat:Int) 1 3).bind fun cu=>cond ((!cu)||(decide (6000<(a0.length:Int)))) (some (0,9)) (some ((cO.toNat:Int),0))))
def s3 (a0:List UInt8) (aF:Int):Option (aP×Int×Bool):=
 cond (decide ((a0.length:Int)<(IntKind.i64.wrap (aF+2)))) (some ((aP.mk ([]:List UInt8) ([]:List UInt8)),aF,false)) ((c7 a0 aF).bind fun aU=>cond ((aU.toNat:Int) !=35) (some ((aP.mk ([]:List UInt8) ([]:List UInt8)),aF,false)) ((c7 a0 (IntKind.i64.wrap (aF+1))).bind fun a8=>cond ((decide (10<(a8.toNat:Int)))||(decide ((a0.length:Int)<(IntKind.i64.wrap ((IntKind.i64.wrap ((IntKind.i64.wrap (aF+2))+(a8.toNat:Int)))+2))))) (some ((aP.mk ([]:List UInt8) ([]:List UInt8)),aF,false)) ((eQ a0 (IntKind.i64.wrap (aF+2)) (IntKind.i64.wrap ((IntKind.i64.wrap (aF+2))+(a8.toNat:Int)))).bind fun bQ=>(c7 a0 (IntKind.i64.wrap ((IntKind.i64.wrap (aF+2))+(a8.toNat:Int)))).bind fun cC=>(c7 a0 (IntKind.i64.wrap ((IntKind.i64.wrap ((IntKind.i64.wrap (aF+2))+(a8.toNat:Int)))+1))).bind fun cO=>(sY bQ).bind fun cu=>cond ((!cu)||(decide ((a0.length:Int)<(IntKind.i64.wrap ((IntKind.i64.wrap ((IntKind.i64.wrap ((IntKind.i64.wrap (aF+2))+(a8.toNat:Int)))+2))+(IntKind.i64.wrap ((IntKind.i64.wrap ((cC.toNat:Int)*256))+(cO.toNat:Int)))))))) (some ((aP.mk ([]:List UInt8) ([]:List UInt8)),aF,false)) ((eQ a0 (IntKind.i64.wrap ((IntKind.i64.wrap ((IntKind.i64.wrap (aF+2))+(a8.toNat:Int)))+2)) (IntKind.i64.wrap ((IntKind.i64.wrap ((IntKind.i64.wrap ((IntKind.i64.wrap (aF+2))+(a8.toNat:Int)))+2))+(IntKind.i64.wrap ((IntKind.i64.wrap ((cC.toNat:Int)*256))+(cO.toNat:Int)))))).bind fun eH=>(rk eH).bind fun hQ=>some ((aP.mk bQ eH),(IntKind.i64.wrap ((IntKind.i64.wrap ((IntKind.i64.wrap ((IntKind.i64.wrap (aF+2))+(a8.toNat:Int)))+2))+(IntKind.i64.wrap ((IntKind.i64.wrap ((cC.toNat:Int)*256))+(cO.toNat:Int))))),(hQ.2==0))))))
def s4 (hp:(List aP)→Bool→Int→Option ((List aP))) (a0:List aP) (aF:aP) (gi:List aP) (pJ:Bool) (pK:Int):Option ((List aP)):=
 hp gi pJ (IntKind.i64.wrap (pK+1))
def rl (hp:(List aP)→Bool→Int→Option ((List aP))) (a0:List aP) (aF:aP) (ko:List aP) (lb:Bool) (kp:Int):Option ((List aP)):=
 (c7 a0 kp).bind fun aU=>cond (!(aU.Name==aF.Name)) ((room 32 (ko.length+1)).bind fun _=>s4 hp a0 aF (ko++[aU]) lb kp) (s4 hp a0 aF ko lb kp)
def s5 (pL:List aP):Option ((List aP)):=
 some pL
def s6 (hp:(List aP)→Bool→Int→Option ((List aP))) (a0:List aP) (aF:aP) (fJ:List aP) (ld:Bool) (gJ:Int):Option ((List aP)):=
 cond (decide (gJ<(a0.length:Int))) (cond (!ld) ((c7 a0 gJ).bind fun a8=>cond (!(Op.bytesLess a8.Name aF.Name)) ((room 32 (fJ.length+1)).bind fun _=>rl hp a0 aF (fJ++[aF]) true gJ) (rl hp a0 aF fJ false gJ)) (rl hp a0 aF fJ true gJ)) (cond (!ld) ((room 32 (fJ.length+1)).bind fun _=>s5 (fJ++[aF])) (s5 fJ))
def lW (a0:List aP) (aF:aP):Nat→(List aP)→Bool→Int→Option ((List aP))
 |0,_,_,_=>none
 |n+1,fJ,ld,gJ=>s6 (lW a0 aF n) a0 aF fJ ld gJ
def pM (a0:List aP) (aF:aP):Option ((List aP)):=
 fU fun n=>lW a0 aF n [] false 0
def s7 (dr:(List aP)→Int→Option ((List aP)×Int)) (A7:(List aP)→Bool→Int→Option ((List aP)×Int)) (a0:List UInt8) (aU:aP×Int×Bool) (gK:List aP) (lf:Bool) (hR:Int):Option ((List aP)×Int):=
 cond (decide (hR<(gK.length:Int))) (cond lf (A7 gK true (IntKind.i64.wrap (hR+1))) ((c7 gK hR).bind fun a8=>A7 gK (a8.Name==aU.1.Name) (IntKind.i64.wrap (hR+1)))) (cond (!lf) ((pM gK aU.1).bind fun bQ=>dr bQ aU.2.1) (dr gK aU.2.1))
def mR (dr:(List aP)→Int→Option ((List aP)×Int)) (a0:List UInt8) (aU:aP×Int×Bool):Nat→(List aP)→Bool→Int→Option ((List aP)×Int)
 |0,_,_,_=>none
 |n+1,gK,lf,hR=>s7 dr (mR dr a0 aU n) a0 aU gK lf hR
def wC (dr:(List aP)→Int→Option ((List aP)×Int)) (a0:List UInt8) (dG:List aP) (d_:Int):Option ((List aP)×Int):=
 cond ((decide (d_<(a0.length:Int)))&&(decide ((dG.length:Int)<16))) ((s3 a0 d_).bind fun aU=>cond (!aU.2.2) (dr dG (IntKind.i64.wrap (d_+1))) (fU fun n=>mR dr a0 aU n dG false 0)) (cond ((dG.length:Int)==0) (some ([],3)) (some (dG,0)))
def lX (a0:List UInt8):Nat→(List aP)→Int→Option ((List aP)×Int)
 |0,_,_=>none
 |n+1,dG,d_=>wC (lX a0 n) a0 dG d_
def wD (a0:List UInt8):Option ((List aP)×Int):=
 fU fun n=>lX a0 n [] 0
def mS (mT:List UInt8) (s8:Bool):Option (Int×(List UInt8)×Bool):=
 cond (mT==([]:List UInt8)) (some (0,mT,true)) ((c7 mT 0).bind fun aU=>(eQ mT 1 (mT.length:Int)).bind fun a8=>some ((aU.toNat:Int),a8,s8))
def wE (a0:UInt8):Option Bool:=
 some ((decide (48≤(a0.toNat:Int)))&&(decide ((a0.toNat:Int)≤57)))
def rm (cZ:Int→Option Bool) (a0:List UInt8) (g9:Int):Option Bool:=
 cond (decide (g9<(a0.length:Int))) ((c7 a0 g9).bind fun aU=>cond (!((decide (97≤(aU.toNat:Int)))&&(decide ((aU.toNat:Int)≤122)))) (cond (g9==0) (some false) ((wE aU).bind fun a8=>cond (!a8) (some false) (cZ (IntKind.i64.wrap (g9+1))))) (cZ (IntKind.i64.wrap (g9+1)))) (some ((decide (1≤(a0.length:Int)))&&(decide ((a0.length:Int)≤10))))
def lY (a0:List UInt8):Nat→Int→Option Bool
 |0,_=>none
 |n+1,g9=>rm (lY a0 n) a0 g9
def s9 (a0:List UInt8):Option Bool:=
 fU fun n=>lY a0 n 0
def rn (a0:Int) (aF:Int) (cj:Int):Option Bool:=
 some ((decide (aF≤a0))&&(decide (a0≤cj)))
def s_ (lZ:Int→Int→Option Int) (ta:Int→Int→Int→Option Int) (a0:List UInt8) (pN:Int) (pO:Int) (pP:Int):Option Int:=
 ta pN pO (IntKind.i64.wrap (pP+1))
def wF (lZ:Int→Int→Option Int) (ta:Int→Int→Int→Option Int) (a0:List UInt8) (gi:Int) (iW:Int) (jc:Int):Option Int:=
 cond (decide (jc<8)) (cond (decide (65535<(IntKind.i64.wrap (gi*2)))) (s_ lZ ta a0 (bitsOf .xor .i64 (bitsOf .and .i64 (IntKind.i64.wrap (gi*2)) 65535) 4129) iW jc) (s_ lZ ta a0 (IntKind.i64.wrap (gi*2)) iW jc)) (lZ gi (IntKind.i64.wrap (iW+1)))
def n1 (lZ:Int→Int→Option Int) (a0:List UInt8):Nat→Int→Int→Int→Option Int
 |0,_,_,_=>none
 |n+1,gi,iW,jc=>wF lZ (n1 lZ a0 n) a0 gi iW jc
def wG (lZ:Int→Int→Option Int) (a0:List UInt8) (jL:Int) (jM:Int):Option Int:=
 cond (decide (jM<(a0.length:Int))) ((c7 a0 jM).bind fun a8=>fU fun n=>n1 lZ a0 n (bitsOf .xor .i64 jL (IntKind.i64.wrap ((a8.toNat:Int)*256))) jM 0) (some jL)
def jN (a0:List UInt8):Nat→Int→Int→Option Int
 |0,_,_=>none
 |n+1,jL,jM=>wG (jN a0 n) a0 jL jM
def tb (a0:List UInt8) (aF:Int):Option Int:=
 (rn aF 0 65535).bind fun aU=>cond (!aU) (some 0) (fU fun n=>jN a0 n aF 0)
def tc (a0:List UInt8):Option (Int×Int):=
 cond (decide ((a0.length:Int)<3)) (some (0,11)) ((eQ a0 0 (IntKind.i64.wrap ((a0.length:Int)-2))).bind fun aU=>(tb aU 65535).bind fun a8=>(c7 a0 0).bind fun bQ=>(c7 a0 (IntKind.i64.wrap ((a0.length:Int)-2))).bind fun cC=>(c7 a0 (IntKind.i64.wrap ((a0.length:Int)-1))).bind fun cO=>cond ((IntKind.i64.wrap ((IntKind.i64.wrap ((cC.toNat:Int)*256))+(cO.toNat:Int))) !=a8) (some (0,10)) ((rn (bQ.toNat:Int) 1 3).bind fun cu=>cond ((!cu)||(decide (6000<(a0.length:Int)))) (some (0,9)) (some ((bQ.toNat:Int),0))))
def td (a0:List UInt8):Option Bool:=
 (tc a0).bind fun aU=>some (aU.2==0)
def te (a0:List UInt8):Option (aP×Int×Bool):=
 (mS a0 false).bind fun aU=>(mS aU.2.1 aU.2.2).bind fun a8=>cond ((aU.1 !=35)||(decide ((a8.2.1.length:Int)<a8.1))) (some ((aP.mk ([]:List UInt8) ([]:List UInt8)),0,false)) ((eQ a8.2.1 0 a8.1).bind fun bQ=>(eQ a8.2.1 a8.1 (a8.2.1.length:Int)).bind fun cC=>(mS cC a8.2.2).bind fun cO=>(mS cO.2.1 cO.2.2).bind fun cu=>cond (cu.2.2||(decide ((cu.2.1.length:Int)<(IntKind.i64.wrap ((IntKind.i64.wrap (cO.1*256))+cu.1))))) (some ((aP.mk ([]:List UInt8) ([]:List UInt8)),0,false)) ((eQ cu.2.1 0 (IntKind.i64.wrap ((IntKind.i64.wrap (cO.1*256))+cu.1))).bind fun eH=>(s9 bQ).bind fun hQ=>cond hQ ((td eH).bind fun jO=>some ((aP.mk bQ eH),(IntKind.i64.wrap ((IntKind.i64.wrap ((a0.length:Int)-(cu.2.1.length:Int)))+(IntKind.i64.wrap ((IntKind.i64.wrap (cO.1*256))+cu.1)))),jO)) (some ((aP.mk bQ eH),(IntKind.i64.wrap ((IntKind.i64.wrap ((a0.length:Int)-(cu.2.1.length:Int)))+(IntKind.i64.wrap ((IntKind.i64.wrap (cO.1*256))+cu.1)))),false))))
def dQ:List UInt8→List UInt8→Int
 |[],[]=>0
 |[],_::_=> -1
 |_::_,[]=>1
 |a::x,b::y=>if a<b then-1 else if b<a then 1 else dQ x y
def A8 (a0:List UInt8) (aF:List UInt8):Option Int:=some (dQ a0 aF)
def A9 (a0:List UInt8) (aF:List UInt8):Option Int:=
 (A8 a0 aF).bind fun aU=>some aU
def A_ (a0:List UInt8) (aF:List UInt8):Option Int:=
 (A9 a0 aF).bind fun aU=>some aU
def tf (a0:aP) (aF:List UInt8):Option Int:=
 (A_ a0.Name aF).bind fun aU=>some aU
def tg (dr:Int→Int→Option (Int×Bool)) (a0:List aP) (aF:List UInt8) (fK:Int) (g_:Int):Option (Int×Bool):=
 cond (decide (fK<g_)) ((c7 a0 (IntKind.i64.wrap (Int.fdiv (IntKind.u64.wrap (IntKind.i64.wrap (fK+g_))) 2))).bind fun aU=>(tf aU aF).bind fun a8=>cond (decide (a8<0)) (dr (IntKind.i64.wrap ((IntKind.i64.wrap (Int.fdiv (IntKind.u64.wrap (IntKind.i64.wrap (fK+g_))) 2))+1)) g_) (dr fK (IntKind.i64.wrap (Int.fdiv (IntKind.u64.wrap (IntKind.i64.wrap (fK+g_))) 2)))) (cond (decide (fK<(a0.length:Int))) ((c7 a0 fK).bind fun bQ=>(tf bQ aF).bind fun cC=>some (fK,(cC==0))) (some (fK,false)))
def n2 (a0:List aP) (aF:List UInt8):Nat→Int→Int→Option (Int×Bool)
 |0,_,_=>none
 |n+1,fK,g_=>tg (n2 a0 aF n) a0 aF fK g_
def wH (a0:List aP) (aF:List UInt8):Option (Int×Bool):=
 fU fun n=>n2 a0 aF n 0 (a0.length:Int)
def pQ (a0:List aP) (aF:Int) (cj:List aP):Option (List aP):=if 0≤aF∧aF≤a0.length∧cj.length=1∧(a0.length+1)*32≤140737488355328 then some (a0.take aF.toNat++(cj++a0.drop aF.toNat))else none
def wI (dr:(List aP)→Int→Option ((List aP)×Int)) (a0:List UInt8) (dG:List aP) (d_:Int):Option ((List aP)×Int):=
 cond ((decide (d_<(a0.length:Int)))&&(decide ((dG.length:Int)<16))) ((eQ a0 d_ (a0.length:Int)).bind fun aU=>(te aU).bind fun a8=>cond (!a8.2.2) (dr dG (IntKind.i64.wrap (d_+1))) ((wH dG a8.1.Name).bind fun bQ=>cond (!bQ.2) ((pQ dG bQ.1 [a8.1]).bind fun cC=>dr cC (IntKind.i64.wrap (d_+a8.2.1))) (dr dG (IntKind.i64.wrap (d_+a8.2.1))))) (cond ((dG.length:Int)==0) (some ([],3)) (some (dG,0)))
def pR (a0:List UInt8):Nat→(List aP)→Int→Option ((List aP)×Int)
 |0,_,_=>none
 |n+1,dG,d_=>wI (pR a0 n) a0 dG d_
def th (a0:List UInt8):Option ((List aP)×Int):=
 fU fun n=>pR a0 n [] 0
def ti (a0:aP) (aF:aP):Option Bool:=
 cond (!(a0.Name==aF.Name)) (some false) (cond (!(a0.dP==aF.dP)) (some false) (some true))
def tj (pD:Int→Option Bool) (a0:List aP) (aF:List aP) (iX:Int):Option Bool:=
 cond (decide (iX<(a0.length:Int))) ((c7 a0 iX).bind fun aU=>(c7 aF iX).bind fun a8=>(ti aU a8).bind fun bQ=>cond (!bQ) (some false) (pD (IntKind.i64.wrap (iX+1)))) (some true)
def pS (a0:List aP) (aF:List aP):Nat→Int→Option Bool
 |0,_=>none
 |n+1,iX=>tj (pS a0 aF n) a0 aF iX
def pT (a0:List aP) (aF:List aP):Option Bool:=
 cond ((a0.length:Int) !=(aF.length:Int)) (some false) (fU fun n=>pS a0 aF n 0)
def rp (pD:Int→(List UInt8)→Option ((List UInt8))) (gy:Int) (eG:List UInt8):Option ((List UInt8)):=
 cond (decide (0<gy)) ((kD (1+eG.length)).bind fun _=>pD (IntKind.i64.wrap (Int.tdiv gy 10)) ([(lu (IntKind.i64.wrap (48+(Int.tmod gy 10))))]++eG)) ((kD (1+eG.length)).bind fun _=>some (([109]:List UInt8)++eG))
def mU:Nat→Int→(List UInt8)→Option ((List UInt8))
 |0,_,_=>none
 |n+1,gy,eG=>rp (mU n) gy eG
def n3 (a0:Int):Option ((List UInt8)):=
 cond (decide (a0≤0)) (some ([109,48]:List UInt8)) (fU fun n=>mU n a0 ([]:List UInt8))
def tk (cZ:(List aP)→Int→Int→Option (Int×(List aP))) (gV:List aP) (cW:Int) (cG:Int):Option (Int×(List aP)):=
 cond (decide (cG<(gV.length:Int))) ((n3 cW).bind fun aU=>(c7 gV cG).bind fun a8=>(n3 (IntKind.i64.wrap (cW+1))).bind fun bQ=>(c7 (List.set gV (Int.toNat cG) (aP.mk aU a8.dP)) cG).bind fun cC=>cZ (List.set (List.set gV (Int.toNat cG) (aP.mk aU a8.dP)) (Int.toNat cG) (aP.mk cC.Name bQ)) (IntKind.i64.wrap ((IntKind.i64.wrap (cW+1))+1)) (IntKind.i64.wrap (cG+1))) (some (cW,gV))
def n4:Nat→(List aP)→Int→Int→Option (Int×(List aP))
 |0,_,_,_=>none
 |n+1,gV,cW,cG=>tk (n4 n) gV cW cG
def tl (a0:List aP) (aF:Int):Option (Int×(List aP)):=
 fU fun n=>n4 n a0 aF 0
def tm (cZ:Int→Int→Option Int) (a0:List aP) (cW:Int) (cG:Int):Option Int:=
 cond (decide (cG<(a0.length:Int))) ((c7 a0 cG).bind fun aU=>(n3 cW).bind fun a8=>cond (!(aU.Name==a8)) (some (-1)) ((n3 (IntKind.i64.wrap (cW+1))).bind fun bQ=>cond (!(aU.dP==bQ)) (some (-1)) (cZ (IntKind.i64.wrap ((IntKind.i64.wrap (cW+1))+1)) (IntKind.i64.wrap (cG+1))))) (some cW)
def n5 (a0:List aP):Nat→Int→Int→Option Int
 |0,_,_=>none
 |n+1,cW,cG=>tm (n5 a0 n) a0 cW cG
def rq (a0:List aP) (aF:Int):Option Int:=
 fU fun n=>n5 a0 n aF 0
def wJ (a0:List UInt8):Option Bool:=
 cond (decide (1048576<(a0.length:Int))) (some true) ((wD a0).bind fun aU=>(th a0).bind fun a8=>(pT a8.1 aU.1).bind fun bQ=>cond ((!bQ)||(a8.2 !=aU.2)) (some false) ((tl a8.1 1).bind fun cC=>(rq cC.2 1).bind fun cO=>cond (decide (cO<0)) (some false) (cond (cO !=cC.1) (some false) ((th a0).bind fun cu=>(pT cu.1 aU.1).bind fun eH=>cond ((!eH)||(cu.2 !=aU.2)) (some false) ((rq cC.2 1).bind fun hQ=>cond (decide (hQ<0)) (some false) (cond (hQ !=cC.1) (some false) (some true)))))))
end
end Go.eF
