/- Part of a proof that a law returns true for every input. No condition. -/
import Derived.Test.YtpdplcdnpaoceaaFwA
namespace Go.nB
open List Option Go.IntKind Nat Or
open Go Go.cV
set_option linter.unusedVariables false
noncomputable section
structure fJ where
 Kind:Int
 Value:Int
def pw (x:fJ):Prop:=(-9223372036854775808<=x.Kind/\x.Kind<=9223372036854775807)/\(-9223372036854775808<=x.Value/\x.Value<=9223372036854775807)
structure hC where
 aY:Vl
 Guard:List fJ
 Name:Vj
 bG:List (List fJ)
 Next:List (List fJ)
def uB (x:hC):Prop:=(x.aY.length<=9223372036854775807/\∀y∈x.aY,(-9223372036854775808<=y/\y<=9223372036854775807))/\(x.Guard.length<=9223372036854775807/\∀y∈x.Guard,pw y)/\x.Name.length<=9223372036854775807/\(x.bG.length<=9223372036854775807/\∀y∈x.bG,(y.length<=9223372036854775807/\∀z∈y,pw z))/\(x.Next.length<=9223372036854775807/\∀y∈x.Next,(y.length<=9223372036854775807/\∀z∈y,pw z))
structure kg where
 a7:Int
 Start:Vl
 bJ:List hC
def wQ (x:kg):Prop:=(-9223372036854775808<=x.a7/\x.a7<=9223372036854775807)/\(x.Start.length<=9223372036854775807/\∀y∈x.Start,(-9223372036854775808<=y/\y<=9223372036854775807))/\(x.bJ.length<=9223372036854775807/\∀y∈x.bJ,uB y)
structure aW where
 Kind:Int
 Value:Int
def AD (x:aW):Prop:=(-9223372036854775808<=x.Kind/\x.Kind<=9223372036854775807)/\(-9223372036854775808<=x.Value/\x.Value<=9223372036854775807)
structure aN where
 aY:Vl
 Guard:List aW
 Name:Vj
 bG:List (List aW)
 Next:List (List aW)
def OC (x:aN):Prop:=(x.aY.length<=9223372036854775807/\∀y∈x.aY,(-9223372036854775808<=y/\y<=9223372036854775807))/\(x.Guard.length<=9223372036854775807/\∀y∈x.Guard,AD y)/\x.Name.length<=9223372036854775807/\(x.bG.length<=9223372036854775807/\∀y∈x.bG,(y.length<=9223372036854775807/\∀z∈y,AD z))/\(x.Next.length<=9223372036854775807/\∀y∈x.Next,(y.length<=9223372036854775807/\∀z∈y,AD z))
structure b5 where
 a7:Int
 Start:Vl
 bJ:List aN
abbrev Vu:=List fJ
abbrev Vv:=List hC
abbrev Vw:=List aW
abbrev Vx:=List aN
abbrev Vs:=List (List fJ)
abbrev Vt:=List (List aW)
def UG (x:b5):Prop:=(-9223372036854775808<=x.a7/\x.a7<=9223372036854775807)/\(x.Start.length<=9223372036854775807/\∀y∈x.Start,(-9223372036854775808<=y/\y<=9223372036854775807))/\(x.bJ.length<=9223372036854775807/\∀y∈x.bJ,OC y)
def uC (I:Vl) (ar:Int):Vo:=
 cond (decide ((i64.wrap (ar-(I.length:Int)))<0)) (some (-1)) (some (i64.wrap (ar-(I.length:Int))))
def sg (I:Vu) (ar:Int):Vo:=
 cond (decide ((i64.wrap (ar-(I.length:Int)))<0)) (some (-1)) (some (i64.wrap (ar-(I.length:Int))))
def OD (ju:Int->Int->Vo) (I:Vs) (iw fT:Int):Vo:=
 cond (decide (fT<(I.length:Int))) ((ca I fT).bind λah=>(sg ah iw).bind λaC=>cond (decide (aC<0)) (some (-1)) (ju aC (i64.wrap (fT+1)))) (some iw)
def AE (I:Vs):Nat->Int->Int->Vo
 |0,_,_=>none
 |n+1,iw,fT=>OD (AE I n) I iw fT
def uD (I:Vs) (ar:Int):Vo:=
 cond (decide ((i64.wrap (ar-(I.length:Int)))<0)) (some (-1)) (cX λn=>AE I n (i64.wrap (ar-(I.length:Int))) 0)
def uE (I:hC) (ar:Int):Vo:=
 (uC I.aY ar).bind λah=>cond (decide (ah<0)) (some (-1)) ((sg I.Guard ah).bind λaC=>cond (decide (aC<0)) (some (-1)) (cond (decide ((i64.wrap (aC-(I.Name.length:Int)))<0)) (some (-1)) ((uD I.bG (i64.wrap (aC-(I.Name.length:Int)))).bind λaV=>cond (decide (aV<0)) (some (-1)) ((uD I.Next aV).bind λbL=>cond (decide (bL<0)) (some (-1)) (some bL)))))
def OE (ju:Int->Int->Vo) (I:Vv) (iw fT:Int):Vo:=
 cond (decide (fT<(I.length:Int))) ((ca I fT).bind λah=>(uE ah iw).bind λaC=>cond (decide (aC<0)) (some (-1)) (ju aC (i64.wrap (fT+1)))) (some iw)
def AF (I:Vv):Nat->Int->Int->Vo
 |0,_,_=>none
 |n+1,iw,fT=>OE (AF I n) I iw fT
def wR (I:Vv) (ar:Int):Vo:=
 cond (decide ((i64.wrap (ar-(I.length:Int)))<0)) (some (-1)) (cX λn=>AF I n (i64.wrap (ar-(I.length:Int))) 0)
def wS (I:kg) (ar:Int):Vo:=
 (uC I.Start ar).bind λah=>cond (decide (ah<0)) (some (-1)) ((wR I.bJ ah).bind λaC=>cond (decide (aC<0)) (some (-1)) (some aC))
def OG (ed:Vl->Int->Option Vl) (I cw:Vl) (cT:Int):Option Vl:=
 cond (decide (cT<(I.length:Int))) ((ca I cT).bind λah=>(ca cw cT).bind λaC=>ed (List.set cw (Int.toNat cT) ah) (i64.wrap (cT+1))) (some cw)
def AG (I:Vl):Nat->Vl->Int->Option Vl
 |0,_,_=>none
 |n+1,cw,cT=>OG (AG I n) I cw cT
def uF (I:Vl):Option Vl:=
 (kT 8 (I.length:Int)).bind λ_=>cX λn=>AG I n (replicate (Int.toNat (I.length:Int)) 0) 0
def uG (I:fJ):Option aW:=
 some (aW.mk I.Kind I.Value)
def OH (ed:Vw->Int->Option Vw) (I:Vu) (cw:Vw) (cT:Int):Option Vw:=
 cond (decide (cT<(I.length:Int))) ((ca I cT).bind λah=>(uG ah).bind λaC=>(ca cw cT).bind λaV=>ed (List.set cw (Int.toNat cT) aC) (i64.wrap (cT+1))) (some cw)
def AH (I:Vu):Nat->Vw->Int->Option Vw
 |0,_,_=>none
 |n+1,cw,cT=>OH (AH I n) I cw cT
def si (I:Vu):Option Vw:=
 (kT 16 (I.length:Int)).bind λ_=>cX λn=>AH I n (replicate (Int.toNat (I.length:Int)) (aW.mk 0 0)) 0
def OI (ed:Vt->Int->Option Vt) (I:Vs) (cw:Vt) (cT:Int):Option Vt:=
 cond (decide (cT<(I.length:Int))) ((ca I cT).bind λah=>(si ah).bind λaC=>(ca cw cT).bind λaV=>ed (List.set cw (Int.toNat cT) aC) (i64.wrap (cT+1))) (some cw)
def AJ (I:Vs):Nat->Vt->Int->Option Vt
 |0,_,_=>none
 |n+1,cw,cT=>OI (AJ I n) I cw cT
def uH (I:Vs):Option Vt:=
 (kT 24 (I.length:Int)).bind λ_=>cX λn=>AJ I n (replicate (Int.toNat (I.length:Int)) []) 0
def uI (I:hC):Option aN:=
 (uF I.aY).bind λah=>(si I.Guard).bind λaC=>(uH I.bG).bind λaV=>(uH I.Next).bind λbL=>some (aN.mk ah aC I.Name aV bL)
def OJ (ed:Vx->Int->Option Vx) (I:Vv) (cw:Vx) (cT:Int):Option Vx:=
 cond (decide (cT<(I.length:Int))) ((ca I cT).bind λah=>(uI ah).bind λaC=>(ca cw cT).bind λaV=>ed (List.set cw (Int.toNat cT) aC) (i64.wrap (cT+1))) (some cw)
def AK (I:Vv):Nat->Vx->Int->Option Vx
 |0,_,_=>none
 |n+1,cw,cT=>OJ (AK I n) I cw cT
def wT (I:Vv):Option Vx:=
 (kT 112 (I.length:Int)).bind λ_=>cX λn=>AK I n (replicate (Int.toNat (I.length:Int)) (aN.mk [] [] ([]:Vj) [] [])) 0
def qZ (I:kg):Option b5:=
 (uF I.Start).bind λah=>(wT I.bJ).bind λaC=>some (b5.mk I.a7 ah aC)
def l4 (I ar bw:Int):Vn:=
 some ((decide (ar<=I))&&(decide (I<=bw)))
def AL (dD:Int->Vn) (I:Vl) (nC:Int):Vn:=
 cond (decide (nC<(I.length:Int))) ((ca I nC).bind λah=>(l4 ah 0 63).bind λaC=>cond (!aC) (some false) (dD (i64.wrap (nC+1)))) (some true)
def uJ (I:Vl):Nat->Int->Vn
 |0,_=>none
 |n+1,nC=>AL (uJ I n) I nC
def wU (I:Vl):Vn:=
 cX λn=>uJ I n 0
def wV (I:Vl) (ar:Int):Vn:=
 cond ((I.length:Int)==ar) ((wU I).bind λah=>some ah) (some false)
def uK (ju:Int->Int->Vo) (I:Vl) (mQ gb:Int):Vo:=
 cond (decide (gb<(I.length:Int))) ((ca I gb).bind λah=>(l4 ah 1 7).bind λaC=>cond (!aC) (some 0) (ju (i64.wrap (mQ*(i64.wrap (ah+1)))) (i64.wrap (gb+1)))) (cond (decide (4096<mQ)) (some 0) (some mQ))
def oq (I:Vl):Nat->Int->Int->Vo
 |0,_,_=>none
 |n+1,mQ,gb=>uK (oq I n) I mQ gb
def q0 (I:Vl):Vo:=
 cond (decide (8<(I.length:Int))) (some 0) (cX λn=>oq I n 1 0)
def wW (I:aW) (ar:Int):Vn:=
 cond (I.Kind==0) ((l4 I.Value 0 63).bind λah=>some ah) (cond (I.Kind==1) ((l4 I.Value 0 (i64.wrap (ar-1))).bind λaC=>some aC) (cond (I.Kind==2) ((l4 I.Value 0 8).bind λaV=>some aV) (cond (I.Kind==3) (some (I.Value==0)) (some false))))
def AM (I:aW):Vo:=
 cond (I.Kind==2) (some 2) (cond (I.Kind==3) (some 1) (some 0))
def AN (ju:Int->Int->Vn) (I:Vw) (ar hO nD:Int):Vn:=
 cond (decide (nD<(I.length:Int))) (cond (hO==0) (some false) ((ca I nD).bind λah=>(wW ah ar).bind λaC=>cond (!aC) (some false) ((AM ah).bind λaV=>ju (i64.wrap (hO+(i64.wrap (aV-1)))) (i64.wrap (nD+1))))) (some (hO==0))
def sj (I:Vw) (ar:Int):Nat->Int->Int->Vn
 |0,_,_=>none
 |n+1,hO,nD=>AN (sj I ar n) I ar hO nD
def uL (I:Vw) (ar bw:Int):Vn:=
 cond (decide (bw<(I.length:Int))) (some false) (cX λn=>sj I ar n 1 0)
def AO (dD:Int->Vn) (I:Vt) (ar aZ:Int):Vn:=
 cond (decide (aZ<(I.length:Int))) ((ca I aZ).bind λah=>(uL ah ar 60).bind λaC=>cond (!aC) (some false) (dD (i64.wrap (aZ+1)))) (some true)
def uM (I:Vt) (ar:Int):Nat->Int->Vn
 |0,_=>none
 |n+1,aZ=>AO (uM I ar n) I ar aZ
def q1 (I:Vt) (ar:Int):Vn:=
 cX λn=>uM I ar n 0
def uN (I:UInt8):Vn:=
 some ((decide (97<=(I.toNat:Int)))&&(decide ((I.toNat:Int)<=122)))
def AP (I:UInt8):Vn:=
 some ((decide (48<=(I.toNat:Int)))&&(decide ((I.toNat:Int)<=57)))
def AQ (kJ:Int->Vn) (I:Vj) (e2:Int):Vn:=
 cond (decide (e2<(I.length:Int))) ((ca I e2).bind λaV=>(uN aV).bind λbL=>cond (!bL) ((AP aV).bind λbM=>cond (!bM) (some false) (kJ (i64.wrap (e2+1)))) (kJ (i64.wrap (e2+1)))) (some true)
def uO (I:Vj):Nat->Int->Vn
 |0,_=>none
 |n+1,e2=>AQ (uO I n) I e2
def wX (I:Vj):Vn:=
 cond (I==([]:Vj)) (some false) (cond (decide (10<(I.length:Int))) (some false) ((ca I 0).bind λah=>(uN ah).bind λaC=>cond (!aC) (some false) (cX λn=>uO I n 0)))
def wY (I:Vj):Vn:=
 (wX I).bind λah=>some (ah&&(!(I==([116,97,117]:Vj))))
def wZ (I:aN) (ar:Int):Vn:=
 (q0 I.aY).bind λah=>cond (ah==0) (some false) ((uL I.Guard (i64.wrap (ar+(I.aY.length:Int))) 60).bind λaC=>cond ((!aC)||((I.Next.length:Int) !=ar)) (some false) (cond (I.Name==([116,97,117]:Vj)) (cond (decide (0<(I.bG.length:Int))) (some false) (cond (decide (2<(I.bG.length:Int))) (some false) ((q1 I.bG (i64.wrap (ar+(I.aY.length:Int)))).bind λaV=>cond aV ((q1 I.Next (i64.wrap (ar+(I.aY.length:Int)))).bind λbL=>some bL) (some false)))) ((wY I.Name).bind λbM=>cond (!bM) (some false) (cond (decide (2<(I.bG.length:Int))) (some false) ((q1 I.bG (i64.wrap (ar+(I.aY.length:Int)))).bind λb1=>cond b1 ((q1 I.Next (i64.wrap (ar+(I.aY.length:Int)))).bind λcE=>some cE) (some false))))))
def AR (kJ:Int->Vn) (I:b5) (e2:Int):Vn:=
 cond (decide (e2<(I.bJ.length:Int))) ((ca I.bJ e2).bind λaV=>(wZ aV I.a7).bind λbL=>cond (!bL) (some false) (kJ (i64.wrap (e2+1)))) (some true)
def uP (I:b5):Nat->Int->Vn
 |0,_=>none
 |n+1,e2=>AR (uP I n) I e2
def w1 (I:b5):Vn:=
 (l4 I.a7 0 21).bind λah=>cond (!ah) (some false) ((wV I.Start I.a7).bind λaC=>cond ((!aC)||(decide (60<(I.bJ.length:Int)))) (some false) (cX λn=>uP I n 0))
def w2 (I:Vl):Option Vl:=
 (room 8 (I.length)).bind λ_=>some I
def w3 (I:Vw):Option Vw:=
 (room 16 (I.length)).bind λ_=>some I
def w4 (ed:Vw->Int->Option Vw) (ar:Int) (bw:Vl) (sk:Vw) (sl:Int):Option Vw:=
 ed sk (i64.wrap (sl+1))
def AS (ed:Vw->Int->Option Vw) (ar:Int) (bw:Vl) (gn:Vw) (gp:Int):Option Vw:=
 cond (decide (gp<(gn.length:Int))) ((ca gn gp).bind λaC=>cond ((aC.Kind==1)&&(decide (ar<=aC.Value))) ((ca bw (i64.wrap (aC.Value-ar))).bind λaV=>w4 ed ar bw (List.set gn (Int.toNat gp) (aW.mk 0 aV)) gp) (w4 ed ar bw gn gp)) (some gn)
def q2 (ar:Int) (bw:Vl):Nat->Vw->Int->Option Vw
 |0,_,_=>none
 |n+1,gn,gp=>AS (q2 ar bw n) ar bw gn gp
def uQ (I:Vw) (ar:Int) (bw:Vl):Option Vw:=
 (w3 I).bind λah=>cX λn=>q2 ar bw n ah 0
def AU (ed:Vt->Int->Option Vt) (I:Vt) (ar:Int) (bw:Vl) (gn:Vt) (gp:Int):Option Vt:=
 cond (decide (gp<(I.length:Int))) ((ca I gp).bind λah=>(uQ ah ar bw).bind λaC=>(room 24 (gn.length+1)).bind λ_=>ed (gn++[aC]) (i64.wrap (gp+1))) (some gn)
def sm (I:Vt) (ar:Int) (bw:Vl):Nat->Vt->Int->Option Vt
 |0,_,_=>none
 |n+1,gn,gp=>AU (sm I ar bw n) I ar bw gn gp
def uR (I:Vt) (ar:Int) (bw:Vl):Option Vt:=
 cX λn=>sm I ar bw n [] 0
def AV (dD:Vl->Int->Option (Bool×Vl)) (ar cp:Vl) (aZ:Int):Option (Bool×Vl):=
 cond (decide (0<=aZ)) ((ca cp aZ).bind λah=>(ca ar aZ).bind λaC=>cond (decide (ah<aC)) (some (true,(List.set cp (Int.toNat aZ) (i64.wrap (ah+1))))) (dD (List.set cp (Int.toNat aZ) 0) (i64.wrap (aZ-1)))) (some (false,cp))
def sn (ar:Vl):Nat->Vl->Int->Option (Bool×Vl)
 |0,_,_=>none
 |n+1,cp,aZ=>AV (sn ar n) ar cp aZ
def w5 (I ar:Vl):Option (Bool×Vl):=
 cX λn=>sn ar n I (i64.wrap ((I.length:Int)-1))
def AW (lb:Vx->Int->Option (b5×Int)) (OK:Vx->Int->Vl->Option (b5×Int)) (I:b5) (bL:Vl) (bM:aN) (jv:Vx) (kK:Int) (jP:Vl):Option (b5×Int):=
 (uQ bM.Guard I.a7 jP).bind λb1=>(uR bM.bG I.a7 jP).bind λcE=>(uR bM.Next I.a7 jP).bind λdL=>(room 112 (jv.length+1)).bind λ_=>(w5 jP bM.aY).bind λee=>cond (!ee.1) (lb (jv++[(aN.mk [] b1 bM.Name cE dL)]) (i64.wrap (kK+1))) (OK (jv++[(aN.mk [] b1 bM.Name cE dL)]) kK ee.2)
def q3 (lb:Vx->Int->Option (b5×Int)) (I:b5) (bL:Vl) (bM:aN):Nat->Vx->Int->Vl->Option (b5×Int)
 |0,_,_,_=>none
 |n+1,jv,kK,jP=>AW lb (q3 lb I bL bM n) I bL bM jv kK jP
def AX (lb:Vx->Int->Option (b5×Int)) (I:b5) (bL:Vl) (mR:Vx) (mS:Int):Option (b5×Int):=
 cond (decide (mS<(I.bJ.length:Int))) ((ca I.bJ mS).bind λbM=>(kT 8 (bM.aY.length:Int)).bind λ_=>cX λn=>q3 lb I bL bM n mR mS (replicate (Int.toNat (bM.aY.length:Int)) 0)) (some ((b5.mk I.a7 bL mR),0))
def q4 (I:b5) (bL:Vl):Nat->Vx->Int->Option (b5×Int)
 |0,_,_=>none
 |n+1,mR,mS=>AX (q4 I bL n) I bL mR mS
def AY (ju:Int->Int->Option (b5×Int)) (I:b5) (gb fT:Int):Option (b5×Int):=
 cond (decide (fT<(I.bJ.length:Int))) ((ca I.bJ fT).bind λaC=>(q0 aC.aY).bind λaV=>ju (i64.wrap (gb+aV)) (i64.wrap (fT+1))) (cond (decide (60<gb)) (some ((b5.mk 0 [] []),5)) ((w2 I.Start).bind λbL=>cX λn=>q4 I bL n [] 0))
def so (I:b5):Nat->Int->Int->Option (b5×Int)
 |0,_,_=>none
 |n+1,gb,fT=>AY (so I n) I gb fT
def w6 (I:b5):Option (b5×Int):=
 (w1 I).bind λah=>cond (!ah) (some ((b5.mk 0 [] []),1)) (cX λn=>so I n 0 0)
def ld (I ar bw:Int):Vn:=
 some ((decide (ar<=I))&&(decide (I<=bw)))
def w7 (I:Int):Vn:=
 (ld I 0 63).bind λah=>some ah
def AZ (I:Int):Vn:=
 (w7 I).bind λah=>some (!ah)
def GB (dD:Int->Vo) (I:Vl) (ff:Int):Vo:=
 cond (decide (ff<(I.length:Int))) ((ca I ff).bind λah=>(AZ ah).bind λaC=>cond aC (some ff) (dD (i64.wrap (ff+1)))) (some (-1))
def w8 (I:Vl):Nat->Int->Vo
 |0,_=>none
 |n+1,ff=>GB (w8 I n) I ff
def A0 (I:Vl):Vo:=
 cX λn=>w8 I n 0
def A1 (I:Vl):Vn:=
 (A0 I).bind λah=>some (decide (0<=ah))
def A2 (I:Vl):Vn:=
 (A1 I).bind λah=>some (!ah)
def w9 (I:b5) (ar:Vl):Vn:=
 cond ((ar.length:Int)==I.a7) ((A2 ar).bind λah=>some ah) (some false)
def A3 (ed:Int->Int->Vn) (I:aN) (cw nE:Int):Vn:=
 cond (decide (nE<(I.aY.length:Int))) ((ca I.aY nE).bind λah=>(ld ah 1 7).bind λaC=>cond (!aC) (some false) (ed (i64.wrap (cw*(i64.wrap (ah+1)))) (i64.wrap (nE+1)))) (some ((decide ((I.aY.length:Int)<=8))&&(decide (cw<=4096))))
def sq (I:aN):Nat->Int->Int->Vn
 |0,_,_=>none
 |n+1,cw,nE=>A3 (sq I n) I cw nE
def w_ (I:aN):Vn:=
 cX λn=>sq I n 1 0
def A4 (I:UInt8):Vn:=
 some ((decide (48<=(I.toNat:Int)))&&(decide ((I.toNat:Int)<=57)))
def xa (dD:Int->Vn) (I:Vj) (kh:Int):Vn:=
 cond (decide (kh<(I.length:Int))) ((ca I kh).bind λah=>cond (!((decide (97<=(ah.toNat:Int)))&&(decide ((ah.toNat:Int)<=122)))) (cond (kh==0) (some false) ((A4 ah).bind λaC=>cond (!aC) (some false) (dD (i64.wrap (kh+1))))) (dD (i64.wrap (kh+1)))) (some ((decide (1<=(I.length:Int)))&&(decide ((I.length:Int)<=10))))
def px (I:Vj):Nat->Int->Vn
 |0,_=>none
 |n+1,kh=>xa (px I n) I kh
def xb (I:Vj):Vn:=
 cX λn=>px I n 0
def uS (I:Vj):Vn:=
 (xb I).bind λah=>some (ah&&(!(I==([116,97,117]:Vj))))
def xc:Option Unit:=
 some ()
def A5 (ar:Int):Option Unit:=
 cond (decide (0<(i64.wrap (ar-(i64.wrap 0))))) ((kT 24 (i64.wrap (ar-(i64.wrap 0)))).bind λ_=>xc) (xc)
def xd (ar:Int):Option Unit:=
 cond (decide (ar<0)) (none) (A5 ar)
def A6 (ed:Int->Int->Option Vt) (I:List Vt) (sr ss:Int) (xe:Bool):Option Vt:=
 ed sr (i64.wrap (ss+1))
def A7 (A8:Vt->Int->Option Vt) (I:List Vt) (lf:Vt) (l5:Int):Option Vt:=
 cond (decide (l5<(I.length:Int))) ((ca I l5).bind λaV=>(room 24 (lf.length+aV.length)).bind λ_=>A8 (lf++aV) (i64.wrap (l5+1))) (some lf)
def q5 (I:List Vt):Nat->Vt->Int->Option Vt
 |0,_,_=>none
 |n+1,lf,l5=>A7 (q5 I n) I lf l5
def A9 (ed:Int->Int->Option Vt) (I:List Vt) (cw gd:Int):Option Vt:=
 cond (decide (gd<(I.length:Int))) ((ca I gd).bind λah=>cond (decide ((i64.wrap (cw+(ah.length:Int)))<0)) (none) (A6 ed I (i64.wrap (cw+(ah.length:Int))) gd (decide ((i64.wrap (cw+(ah.length:Int)))<0)))) ((xd cw).bind λaC=>cX λn=>q5 I n [] 0)
def q6 (I:List Vt):Nat->Int->Int->Option Vt
 |0,_,_=>none
 |n+1,cw,gd=>A9 (q6 I n) I cw gd
def xf (I:List Vt):Option Vt:=
 cX λn=>q6 I n 0 0
def su (I:aN):Option Vt:=
 (xf [[I.Guard],I.bG,I.Next]).bind λah=>some ah
def xg (I:aW) (ar:Int):Vn:=
 cond (I.Kind==0) ((w7 I.Value).bind λah=>some ah) (cond (I.Kind==1) ((ld I.Value 0 (i64.wrap (ar-1))).bind λaC=>some aC) (cond (I.Kind==2) ((ld I.Value 0 8).bind λaV=>some aV) (cond (I.Kind==3) (some (I.Value==0)) (some false))))
def A_ (I:aW):Vo:=
 cond (I.Kind==2) (some 2) (cond (I.Kind==3) (some 1) (some 0))
def Ba (ju:Int->Int->Vn) (I:Vw) (ar hO nF:Int):Vn:=
 cond (decide (nF<(I.length:Int))) ((ca I nF).bind λbL=>cond (hO==0) (some false) ((xg bL ar).bind λbM=>cond (!bM) (some false) ((A_ bL).bind λb1=>ju (i64.wrap (hO+(i64.wrap (b1-1)))) (i64.wrap (nF+1))))) (some (hO==0))
def sv (I:Vw) (ar:Int):Nat->Int->Int->Vn
 |0,_,_=>none
 |n+1,hO,nF=>Ba (sv I ar n) I ar hO nF
def xh (I:Vw) (ar bw:Int):Vn:=
 (ld ar 0 29).bind λah=>cond (!ah) (some false) ((ld bw 1 60).bind λaC=>cond (!aC) (some false) ((ld (I.length:Int) 1 bw).bind λaV=>cond (!aV) (some false) (cX λn=>sv I ar n 1 0)))
def xi (I:Vw) (ar:Int) (bw:aN):Vn:=
 (xh I (i64.wrap (ar+(bw.aY.length:Int))) 60).bind λah=>some (!ah)
def GC (dD:Int->Vo) (I:Vt) (bD:Int) (bF:aN) (ff:Int):Vo:=
 cond (decide (ff<(I.length:Int))) ((ca I ff).bind λah=>(xi ah bD bF).bind λaC=>cond aC (some ff) (dD (i64.wrap (ff+1)))) (some (-1))
def xj (I:Vt) (bD:Int) (bF:aN):Nat->Int->Vo
 |0,_=>none
 |n+1,ff=>GC (xj I bD bF n) I bD bF ff
def Bb (I:Vt) (bD:Int) (bF:aN):Vo:=
 cX λn=>xj I bD bF n 0
def q7 (I:Vt) (bD:Int) (bF:aN):Vn:=
 (Bb I bD bF).bind λah=>some (decide (0<=ah))
def xk (I:aN) (ar:Int):Vn:=
 (w_ I).bind λah=>cond ((!ah)||((I.Next.length:Int) !=ar)) (some false) (cond (decide (0<(I.bG.length:Int))) (cond (I.Name==([116,97,117]:Vj)) (some false) (cond (decide (2<(I.bG.length:Int))) (some false) ((uS I.Name).bind λaC=>cond (!aC) (some false) ((su I).bind λaV=>(q7 aV ar I).bind λbL=>some (!bL))))) (cond (!(I.Name==([116,97,117]:Vj))) ((uS I.Name).bind λbM=>cond (!bM) (some false) ((su I).bind λb1=>(q7 b1 ar I).bind λcE=>some (!cE))) ((su I).bind λdL=>(q7 dL ar I).bind λee=>some (!ee))))
def xl (I:aN) (ar:b5):Vn:=
 (xk I ar.a7).bind λah=>some (!ah)
def GD (dD:Int->Vo) (I:Vx) (ar:b5) (ff:Int):Vo:=
 cond (decide (ff<(I.length:Int))) ((ca I ff).bind λah=>(xl ah ar).bind λaC=>cond aC (some ff) (dD (i64.wrap (ff+1)))) (some (-1))
def xm (I:Vx) (ar:b5):Nat->Int->Vo
 |0,_=>none
 |n+1,ff=>GD (xm I ar n) I ar ff
def Bc (I:Vx) (ar:b5):Vo:=
 cX λn=>xm I ar n 0
def Bd (I:Vx) (ar:b5):Vn:=
 (Bc I ar).bind λah=>some (decide (0<=ah))
def xn (I:b5):Vn:=
 (ld I.a7 0 21).bind λah=>cond (!ah) (some false) ((w9 I I.Start).bind λaC=>cond ((!aC)||(decide (60<(I.bJ.length:Int)))) (some false) ((Bd I.bJ I).bind λaV=>some (!aV)))
def sw (I:Vl):Option Vl:=
 cond I.isEmpty (both (some []) ((room 8 (I.length)).bind λ_=>some I)) ((room 8 (I.length)).bind λ_=>some I)
def Be (I:Int):Option Vw:=
 some [(aW.mk 0 I)]
def Bf (I bD:Int) (bF:Vl) (bS:Vx) (bw:Vl):Option ((Option Vw)):=
 cond (decide (I<bD)) (some none) ((ca bw (i64.wrap (I-bD))).bind λah=>(Be ah).bind λaC=>some (some aC))
def ot (ed:Vw->Int->Option Vw) (I:Vw) (bD:Int) (bF:Vl) (bS:Vx) (cv:Vl) (hP hQ:Vw) (h5:Int):Option Vw:=
 (room 16 (hP.length+hQ.length)).bind λ_=>ed (hP++hQ) (i64.wrap (h5+1))
def Bg (ed:Vw->Int->Option Vw) (I:Vw) (bD:Int) (bF:Vl) (bS:Vx) (cv:Vl) (ef:Vw) (gd:Int):Option Vw:=
 cond (decide (gd<(I.length:Int))) ((ca I gd).bind λah=>cond (ah.Kind==1) ((Bf ah.Value bD bF bS cv).bind λaC=>Option.elim aC (ot ed I bD bF bS cv ef [ah] gd) (λaV=>cond aV.isEmpty (both (ot ed I bD bF bS cv ef [ah] gd) (ot ed I bD bF bS cv ef aV gd)) (ot ed I bD bF bS cv ef aV gd))) (ot ed I bD bF bS cv ef [ah] gd)) (some ef)
def ou (I:Vw) (bD:Int) (bF:Vl) (bS:Vx) (cv:Vl):Nat->Vw->Int->Option Vw
 |0,_,_=>none
 |n+1,ef,gd=>Bg (ou I bD bF bS cv n) I bD bF bS cv ef gd
def Bh (I:Vw) (bD:Int) (bF:Vl) (bS:Vx) (cv:Vl):Option Vw:=
 cX λn=>ou I bD bF bS cv n [] 0
def uT (I:aN) (ar:Vw) (mT:Int) (mU:Vl) (mV:Vx) (fG:Vl):Option Vw:=
 (Bh ar mT mU mV fG).bind λah=>some ah
def Bi (ed:Vt->Int->Option Vt) (I:Vt) (bw:aN) (bD:Int) (bF:Vl) (bS:Vx) (cv:Vl) (ef:Vt) (l6:Int):Option Vt:=
 cond (decide (l6<(I.length:Int))) ((ca I l6).bind λah=>(uT bw ah bD bF bS cv).bind λaC=>(room 24 (ef.length+1)).bind λ_=>ed (ef++[aC]) (i64.wrap (l6+1))) (some ef)
def sx (I:Vt) (bw:aN) (bD:Int) (bF:Vl) (bS:Vx) (cv:Vl):Nat->Vt->Int->Option Vt
 |0,_,_=>none
 |n+1,ef,l6=>Bi (sx I bw bD bF bS cv n) I bw bD bF bS cv ef l6
def uU (I:Vt) (bD:Int) (bF:Vl) (bS:Vx) (cv:Vl) (bw:aN):Option Vt:=
 cX λn=>sx I bw bD bF bS cv n [] 0
def GF (ed:Vx->Int->Option b5) (I:b5) (bD:Int) (bF:Vl) (bS:Vx) (cv:Vl) (ah:Vl) (ef:Vx) (l7:Int):Option b5:=
 cond (decide (l7<(I.bJ.length:Int))) ((ca I.bJ l7).bind λaC=>(sw aC.aY).bind λaV=>(uT aC aC.Guard bD bF bS cv).bind λbL=>(uU aC.bG bD bF bS cv aC).bind λbM=>(uU aC.Next bD bF bS cv aC).bind λb1=>(room 112 (ef.length+1)).bind λ_=>ed (ef++[(aN.mk aV bL aC.Name bM b1)]) (i64.wrap (l7+1))) (some (b5.mk I.a7 ah ef))
def xo (I:b5) (bD:Int) (bF:Vl) (bS:Vx) (cv:Vl) (ah:Vl):Nat->Vx->Int->Option b5
 |0,_,_=>none
 |n+1,ef,l7=>GF (xo I bD bF bS cv ah n) I bD bF bS cv ah ef l7
def xp (I:b5) (bD:Int) (bF:Vl) (bS:Vx) (cv:Vl):Option b5:=
 (sw I.Start).bind λah=>cX λn=>xo I bD bF bS cv ah n [] 0
def xq (I:Vl) (bD:Int) (bF:Vx) (mT:Int) (mU:Vl) (mV:Vx) (ov:Int) (ow:Vl) (lg:Vx):Option (Bool×Int×Vl×Vx):=
 (xp (b5.mk bD [] bF) mT mU mV I).bind λah=>(ca ah.bJ 0).bind λaC=>(ca (List.set ah.bJ 0 (aN.mk [] aC.Guard aC.Name aC.bG aC.Next)) 0).bind λaV=>(room 112 (lg.length+1)).bind λ_=>some ((decide (((lg++[aV]).length:Int)<=60)),ov,ow,(lg++[aV]))
def Bj (cR:Int->Vl->Vx->Vl->Option (Int×Vx×Int×Vl×Vx×Int×Vl×Vx)) (OL:Vl->Int->Option (Int×Vx×Int×Vl×Vx×Int×Vl×Vx)) (I:Vl) (bD:Int) (bF:Vx) (bS:b5) (ah:Bool×Int×Vl×Vx) (jb:Vl) (g_:Int):Option (Int×Vx×Int×Vl×Vx×Int×Vl×Vx):=
 cond (decide (0<=g_)) ((ca jb g_).bind λaC=>(ca I g_).bind λaV=>cond (aC==aV) (OL (List.set jb (Int.toNat g_) 0) (i64.wrap (g_-1))) (cond (decide (g_<0)) (some (bD,bF,bS.a7,bS.Start,bS.bJ,ah.2.1,ah.2.2.1,ah.2.2.2)) (cR ah.2.1 ah.2.2.1 ah.2.2.2 (List.set jb (Int.toNat g_) (i64.wrap (aC+1)))))) (cond (decide (g_<0)) (some (bD,bF,bS.a7,bS.Start,bS.bJ,ah.2.1,ah.2.2.1,ah.2.2.2)) ((ca jb g_).bind λbL=>cR ah.2.1 ah.2.2.1 ah.2.2.2 (List.set jb (Int.toNat g_) (i64.wrap (bL+1)))))
def q8 (cR:Int->Vl->Vx->Vl->Option (Int×Vx×Int×Vl×Vx×Int×Vl×Vx)) (I:Vl) (bD:Int) (bF:Vx) (bS:b5) (ah:Bool×Int×Vl×Vx):Nat->Vl->Int->Option (Int×Vx×Int×Vl×Vx×Int×Vl×Vx)
 |0,_,_=>none
 |n+1,jb,g_=>Bj cR (q8 cR I bD bF bS ah n) I bD bF bS ah jb g_
def Bk (cR:Int->Vl->Vx->Vl->Option (Int×Vx×Int×Vl×Vx×Int×Vl×Vx)) (I:Vl) (bD:Int) (bF:Vx) (bS:b5) (py:Int) (pz:Vl) (pA:Vx) (lh:Vl):Option (Int×Vx×Int×Vl×Vx×Int×Vl×Vx):=
 (xq lh bD bF bS.a7 bS.Start bS.bJ py pz pA).bind λah=>cond ah.1 (cX λn=>q8 cR I bD bF bS ah n lh (i64.wrap ((lh.length:Int)-1))) (some (bD,bF,bS.a7,bS.Start,bS.bJ,ah.2.1,ah.2.2.1,ah.2.2.2))
def ox (I:Vl) (bD:Int) (bF:Vx) (bS:b5):Nat->Int->Vl->Vx->Vl->Option (Int×Vx×Int×Vl×Vx×Int×Vl×Vx)
 |0,_,_,_,_=>none
 |n+1,py,pz,pA,lh=>Bk (ox I bD bF bS n) I bD bF bS py pz pA lh
def xr (I:Vl) (bD:Int) (bF:Vx) (bS:b5) (cv:Int) (q9:Vl) (q_:Vx):Option (Int×Vx×Int×Vl×Vx×Int×Vl×Vx):=
 (kT 8 (I.length:Int)).bind λ_=>cX λn=>ox I bD bF bS n cv q9 q_ (replicate (Int.toNat (I.length:Int)) 0)
def Bl (ju:Int->Vl->Vx->Int->Option (b5×Int)) (I:b5) (gb:Int) (nG:Vl) (mW:Vx) (mX:Int):Option (b5×Int):=
 cond (decide (mX<(I.bJ.length:Int))) ((ca I.bJ mX).bind λaV=>(xr aV.aY I.a7 [aV] I gb nG mW).bind λbL=>ju bL.2.2.2.2.2.1 bL.2.2.2.2.2.2.1 bL.2.2.2.2.2.2.2 (i64.wrap (mX+1))) (cond (decide (60<(mW.length:Int))) (some ((b5.mk 0 [] []),5)) (some ((b5.mk gb nG mW),0)))
def sy (I:b5):Nat->Int->Vl->Vx->Int->Option (b5×Int)
 |0,_,_,_,_=>none
 |n+1,gb,nG,mW,mX=>Bl (sy I n) I gb nG mW mX
def uV (I:b5):Option (b5×Int):=
 (xn I).bind λah=>cond (!ah) (some ((b5.mk 0 [] []),1)) ((sw I.Start).bind λaC=>cX λn=>sy I n I.a7 aC [] 0)
def OM (kJ:Int->Vn) (I ar:Vl) (ei:Int):Vn:=
 cond (decide (ei<(I.length:Int))) ((ca I ei).bind λah=>(ca ar ei).bind λaC=>cond (ah !=aC) (some false) (kJ (i64.wrap (ei+1)))) (some true)
def Bm (I ar:Vl):Nat->Int->Vn
 |0,_=>none
 |n+1,ei=>OM (Bm I ar n) I ar ei
def uW (I ar:Vl):Vn:=
 cond ((I.length:Int) !=(ar.length:Int)) (some false) (cX λn=>Bm I ar n 0)
def uX (I ar:aW):Vn:=
 cond (I.Kind !=ar.Kind) (some false) (cond (I.Value !=ar.Value) (some false) (some true))
def ON (kJ:Int->Vn) (I ar:Vw) (ei:Int):Vn:=
 cond (decide (ei<(I.length:Int))) ((ca I ei).bind λah=>(ca ar ei).bind λaC=>(uX ah aC).bind λaV=>cond (!aV) (some false) (kJ (i64.wrap (ei+1)))) (some true)
def Bn (I ar:Vw):Nat->Int->Vn
 |0,_=>none
 |n+1,ei=>ON (Bn I ar n) I ar ei
def sA (I ar:Vw):Vn:=
 cond ((I.length:Int) !=(ar.length:Int)) (some false) (cX λn=>Bn I ar n 0)
def OO (kJ:Int->Vn) (I ar:Vt) (ei:Int):Vn:=
 cond (decide (ei<(I.length:Int))) ((ca I ei).bind λah=>(ca ar ei).bind λaC=>(sA ah aC).bind λaV=>cond (!aV) (some false) (kJ (i64.wrap (ei+1)))) (some true)
def Bo (I ar:Vt):Nat->Int->Vn
 |0,_=>none
 |n+1,ei=>OO (Bo I ar n) I ar ei
def uY (I ar:Vt):Vn:=
 cond ((I.length:Int) !=(ar.length:Int)) (some false) (cX λn=>Bo I ar n 0)
def uZ (I ar:aN):Vn:=
 (uW I.aY ar.aY).bind λah=>cond (!ah) (some false) ((sA I.Guard ar.Guard).bind λaC=>cond (!aC) (some false) (cond (!(I.Name==ar.Name)) (some false) ((uY I.bG ar.bG).bind λaV=>cond (!aV) (some false) ((uY I.Next ar.Next).bind λbL=>cond (!bL) (some false) (some true)))))
def OP (kJ:Int->Vn) (I ar:Vx) (ei:Int):Vn:=
 cond (decide (ei<(I.length:Int))) ((ca I ei).bind λah=>(ca ar ei).bind λaC=>(uZ ah aC).bind λaV=>cond (!aV) (some false) (kJ (i64.wrap (ei+1)))) (some true)
def Bp (I ar:Vx):Nat->Int->Vn
 |0,_=>none
 |n+1,ei=>OP (Bp I ar n) I ar ei
def xt (I ar:Vx):Vn:=
 cond ((I.length:Int) !=(ar.length:Int)) (some false) (cX λn=>Bp I ar n 0)
def ra (I ar:b5):Vn:=
 cond (I.a7 !=ar.a7) (some false) ((uW I.Start ar.Start).bind λah=>cond (!ah) (some false) ((xt I.bJ ar.bJ).bind λaC=>cond (!aC) (some false) (some true)))
def Bq (dD:Vl->Int->Int->Option (Int×Vl)) (cp:Vl) (bV aZ:Int):Option (Int×Vl):=
 cond (decide (aZ<(cp.length:Int))) ((ca cp aZ).bind λah=>dD (List.set cp (Int.toNat aZ) bV) (i64.wrap (bV+1)) (i64.wrap (aZ+1))) (some (bV,cp))
def sB:Nat->Vl->Int->Int->Option (Int×Vl)
 |0,_,_,_=>none
 |n+1,cp,bV,aZ=>Bq (sB n) cp bV aZ
def u0 (I:Vl) (ar:Int):Option (Int×Vl):=
 cX λn=>sB n I ar 0
def Br (dD:Vw->Int->Int->Option (Int×Vw)) (cp:Vw) (bV aZ:Int):Option (Int×Vw):=
 cond (decide (aZ<(cp.length:Int))) ((ca cp aZ).bind λah=>(ca (List.set cp (Int.toNat aZ) (aW.mk bV ah.Value)) aZ).bind λaC=>dD (List.set (List.set cp (Int.toNat aZ) (aW.mk bV ah.Value)) (Int.toNat aZ) (aW.mk aC.Kind (i64.wrap (bV+1)))) (i64.wrap ((i64.wrap (bV+1))+1)) (i64.wrap (aZ+1))) (some (bV,cp))
def sC:Nat->Vw->Int->Int->Option (Int×Vw)
 |0,_,_,_=>none
 |n+1,cp,bV,aZ=>Br (sC n) cp bV aZ
def u1 (I:Vw) (ar:Int):Option (Int×Vw):=
 cX λn=>sC n I ar 0
def xu (kJ:Int->Vj->Option Vj) (jw:Int) (e2:Vj):Option Vj:=
 cond (decide (0<jw)) ((m7 (1+e2.length)).bind λ_=>kJ (i64.wrap (Int.tdiv jw 10)) ([(nL (i64.wrap (48+(Int.tmod jw 10))))]++e2)) ((m7 (1+e2.length)).bind λ_=>some (([109]:Vj)++e2))
def rb:Nat->Int->Vj->Option Vj
 |0,_,_=>none
 |n+1,jw,e2=>xu (rb n) jw e2
def u2 (I:Int):Option Vj:=
 cond (decide (I<=0)) (some ([109,48]:Vj)) (cX λn=>rb n I ([]:Vj))
def Bs (dD:Vt->Int->Int->Option (Int×Vt)) (cp:Vt) (bV aZ:Int):Option (Int×Vt):=
 cond (decide (aZ<(cp.length:Int))) ((ca cp aZ).bind λah=>(u1 ah bV).bind λaC=>dD (List.set cp (Int.toNat aZ) aC.2) aC.1 (i64.wrap (aZ+1))) (some (bV,cp))
def sD:Nat->Vt->Int->Int->Option (Int×Vt)
 |0,_,_,_=>none
 |n+1,cp,bV,aZ=>Bs (sD n) cp bV aZ
def u3 (I:Vt) (ar:Int):Option (Int×Vt):=
 cX λn=>sD n I ar 0
def Bt (dD:Vx->Int->Int->Option (Int×Vx)) (cp:Vx) (bV aZ:Int):Option (Int×Vx):=
 cond (decide (aZ<(cp.length:Int))) ((ca cp aZ).bind λah=>(u0 ah.aY bV).bind λaC=>(ca (List.set cp (Int.toNat aZ) (aN.mk aC.2 ah.Guard ah.Name ah.bG ah.Next)) aZ).bind λaV=>(u1 aV.Guard aC.1).bind λbL=>(u2 bL.1).bind λbM=>(ca (List.set (List.set cp (Int.toNat aZ) (aN.mk aC.2 ah.Guard ah.Name ah.bG ah.Next)) (Int.toNat aZ) (aN.mk aV.aY bL.2 aV.Name aV.bG aV.Next)) aZ).bind λb1=>(ca (List.set (List.set (List.set cp (Int.toNat aZ) (aN.mk aC.2 ah.Guard ah.Name ah.bG ah.Next)) (Int.toNat aZ) (aN.mk aV.aY bL.2 aV.Name aV.bG aV.Next)) (Int.toNat aZ) (aN.mk b1.aY b1.Guard bM b1.bG b1.Next)) aZ).bind λcE=>(u3 cE.bG (i64.wrap (bL.1+1))).bind λdL=>(ca (List.set (List.set (List.set (List.set cp (Int.toNat aZ) (aN.mk aC.2 ah.Guard ah.Name ah.bG ah.Next)) (Int.toNat aZ) (aN.mk aV.aY bL.2 aV.Name aV.bG aV.Next)) (Int.toNat aZ) (aN.mk b1.aY b1.Guard bM b1.bG b1.Next)) (Int.toNat aZ) (aN.mk cE.aY cE.Guard cE.Name dL.2 cE.Next)) aZ).bind λee=>(u3 ee.Next dL.1).bind λfK=>dD (List.set (List.set (List.set (List.set (List.set cp (Int.toNat aZ) (aN.mk aC.2 ah.Guard ah.Name ah.bG ah.Next)) (Int.toNat aZ) (aN.mk aV.aY bL.2 aV.Name aV.bG aV.Next)) (Int.toNat aZ) (aN.mk b1.aY b1.Guard bM b1.bG b1.Next)) (Int.toNat aZ) (aN.mk cE.aY cE.Guard cE.Name dL.2 cE.Next)) (Int.toNat aZ) (aN.mk ee.aY ee.Guard ee.Name ee.bG fK.2)) fK.1 (i64.wrap (aZ+1))) (some (bV,cp))
def sE:Nat->Vx->Int->Int->Option (Int×Vx)
 |0,_,_,_=>none
 |n+1,cp,bV,aZ=>Bt (sE n) cp bV aZ
def xv (I:Vx) (ar:Int):Option (Int×Vx):=
 cX λn=>sE n I ar 0
def u4 (re:Int) (sF:Vl) (rf:Vx) (ar:Int):Option (Int×Int×Vl×Vx):=
 (u0 sF ar).bind λah=>(xv rf ah.1).bind λaC=>some (aC.1,re,ah.2,aC.2)
def Bu (dD:Int->Int->Vo) (I:Vl) (bV aZ:Int):Vo:=
 cond (decide (aZ<(I.length:Int))) ((ca I aZ).bind λah=>cond (ah !=bV) (some (-1)) (dD (i64.wrap (bV+1)) (i64.wrap (aZ+1)))) (some bV)
def sG (I:Vl):Nat->Int->Int->Vo
 |0,_,_=>none
 |n+1,bV,aZ=>Bu (sG I n) I bV aZ
def u5 (I:Vl) (ar:Int):Vo:=
 cX λn=>sG I n ar 0
def Bv (dD:Int->Int->Vo) (I:Vw) (bV aZ:Int):Vo:=
 cond (decide (aZ<(I.length:Int))) ((ca I aZ).bind λah=>cond (ah.Kind !=bV) (some (-1)) (cond (ah.Value !=(i64.wrap (bV+1))) (some (-1)) (dD (i64.wrap ((i64.wrap (bV+1))+1)) (i64.wrap (aZ+1))))) (some bV)
def sH (I:Vw):Nat->Int->Int->Vo
 |0,_,_=>none
 |n+1,bV,aZ=>Bv (sH I n) I bV aZ
def u6 (I:Vw) (ar:Int):Vo:=
 cX λn=>sH I n ar 0
def Bw (dD:Int->Int->Vo) (I:Vt) (bV aZ:Int):Vo:=
 cond (decide (aZ<(I.length:Int))) ((ca I aZ).bind λah=>(u6 ah bV).bind λaC=>cond (decide (aC<0)) (some (-1)) (dD aC (i64.wrap (aZ+1)))) (some bV)
def sI (I:Vt):Nat->Int->Int->Vo
 |0,_,_=>none
 |n+1,bV,aZ=>Bw (sI I n) I bV aZ
def u7 (I:Vt) (ar:Int):Vo:=
 cX λn=>sI I n ar 0
def Bx (dD:Int->Int->Vo) (I:Vx) (bV aZ:Int):Vo:=
 cond (decide (aZ<(I.length:Int))) ((ca I aZ).bind λah=>(u5 ah.aY bV).bind λaC=>cond (decide (aC<0)) (some (-1)) ((u6 ah.Guard aC).bind λaV=>cond (decide (aV<0)) (some (-1)) ((u2 aV).bind λbL=>cond (!(ah.Name==bL)) (some (-1)) ((u7 ah.bG (i64.wrap (aV+1))).bind λbM=>cond (decide (bM<0)) (some (-1)) ((u7 ah.Next bM).bind λb1=>cond (decide (b1<0)) (some (-1)) (dD b1 (i64.wrap (aZ+1)))))))) (some bV)
def sJ (I:Vx):Nat->Int->Int->Vo
 |0,_,_=>none
 |n+1,bV,aZ=>Bx (sJ I n) I bV aZ
def xw (I:Vx) (ar:Int):Vo:=
 cX λn=>sJ I n ar 0
def u9 (I:b5) (ar:Int):Vo:=
 (u5 I.Start ar).bind λah=>cond (decide (ah<0)) (some (-1)) ((xw I.bJ ah).bind λaC=>cond (decide (aC<0)) (some (-1)) (some aC))
def Bz (I:kg):Vn:=
 (wS I 1048576).bind λah=>cond (decide (ah<0)) (some true) ((qZ I).bind λaC=>(w6 aC).bind λaV=>(qZ I).bind λbL=>(uV bL).bind λbM=>(ra bM.1 aV.1).bind λb1=>cond ((!b1)||(bM.2 !=aV.2)) (some false) ((qZ I).bind λcE=>(ra bL cE).bind λdL=>cond (!dL) (some false) ((u4 bL.a7 bL.Start bL.bJ 1).bind λee=>cond (decide (ee.1<0)) (some false) ((ra bM.1 aV.1).bind λfK=>cond ((!fK)||(bM.2 !=aV.2)) (some false) ((u4 bM.1.a7 bM.1.Start bM.1.bJ 1).bind λeU=>(u9 (b5.mk eU.2.1 eU.2.2.1 eU.2.2.2) 1).bind λpB=>cond (decide (pB<0)) (some false) (cond (pB !=eU.1) (some false) ((qZ I).bind λsK=>(uV sK).bind λki=>(ra ki.1 aV.1).bind λpC=>cond ((!pC)||(ki.2 !=aV.2)) (some false) ((u9 (b5.mk eU.2.1 eU.2.2.1 eU.2.2.2) 1).bind λrh=>cond (decide (rh<0)) (some false) (cond (rh !=eU.1) (some false) (some true))))))))))
end
end Go.nB
