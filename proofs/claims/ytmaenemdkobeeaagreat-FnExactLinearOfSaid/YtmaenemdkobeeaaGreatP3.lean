/- Part of a proof that a law returns true for every input. No condition. -/
import Derived.Test.YtmaenemdkobeeaaGreatFwA
namespace Go.mc
open List Option Go.IntKind Nat Or
open Go Go.ek
set_option linter.unusedVariables false
noncomputable section
structure iQ where
 Kind:Int
 Value:Int
def yU (x:iQ):Prop:=(-9223372036854775808<=x.Kind/\x.Kind<=9223372036854775807)/\(-9223372036854775808<=x.Value/\x.Value<=9223372036854775807)
structure kq where
 Kind:Int
 Number:Int
 Name:arE
 a9:List (List iQ)
def BP (x:kq):Prop:=(-9223372036854775808<=x.Kind/\x.Kind<=9223372036854775807)/\(-9223372036854775808<=x.Number/\x.Number<=9223372036854775807)/\x.Name.length<=9223372036854775807/\(x.a9.length<=9223372036854775807/\∀y∈x.a9,(y.length<=9223372036854775807/\∀z∈y,yU z))
structure kr where
 Name:arE
 bW:Int
 Body:List kq
def BQ (x:kr):Prop:=x.Name.length<=9223372036854775807/\(-9223372036854775808<=x.bW/\x.bW<=9223372036854775807)/\(x.Body.length<=9223372036854775807/\∀y∈x.Body,BP y)
structure ks where
 gl:Int
 e7:arG
def BR (x:ks):Prop:=(-9223372036854775808<=x.gl/\x.gl<=9223372036854775807)/\(x.e7.length<=9223372036854775807/\∀y∈x.e7,(-9223372036854775808<=y/\y<=9223372036854775807))
structure j9 where
 Left:arE
 ct:arE
 Result:arE
def BS (x:j9):Prop:=x.Left.length<=9223372036854775807/\x.ct.length<=9223372036854775807/\x.Result.length<=9223372036854775807
structure nA where
 aC:List kr
 b7:List ks
 hA:List j9
 hg:arD
 hh:arD
def BT (x:nA):Prop:=(x.aC.length<=9223372036854775807/\∀y∈x.aC,BQ y)/\(x.b7.length<=9223372036854775807/\∀y∈x.b7,BR y)/\(x.hA.length<=9223372036854775807/\∀y∈x.hA,BS y)/\(x.hg.length<=9223372036854775807/\∀y∈x.hg,y.length<=9223372036854775807)/\(x.hh.length<=9223372036854775807/\∀y∈x.hh,y.length<=9223372036854775807)
structure aF where
 Kind:Int
 Value:Int
def BU (x:aF):Prop:=(-9223372036854775808<=x.Kind/\x.Kind<=9223372036854775807)/\(-9223372036854775808<=x.Value/\x.Value<=9223372036854775807)
structure bk where
 Kind:Int
 Number:Int
 Name:arE
 a9:List (List aF)
def ac8 (x:bk):Prop:=(-9223372036854775808<=x.Kind/\x.Kind<=9223372036854775807)/\(-9223372036854775808<=x.Number/\x.Number<=9223372036854775807)/\x.Name.length<=9223372036854775807/\(x.a9.length<=9223372036854775807/\∀y∈x.a9,(y.length<=9223372036854775807/\∀z∈y,BU z))
structure bg where
 Name:arE
 bW:Int
 Body:List bk
def ac9 (x:bg):Prop:=x.Name.length<=9223372036854775807/\(-9223372036854775808<=x.bW/\x.bW<=9223372036854775807)/\(x.Body.length<=9223372036854775807/\∀y∈x.Body,ac8 y)
structure dn where
 gl:Int
 e7:arG
def ac_ (x:dn):Prop:=(-9223372036854775808<=x.gl/\x.gl<=9223372036854775807)/\(x.e7.length<=9223372036854775807/\∀y∈x.e7,(-9223372036854775808<=y/\y<=9223372036854775807))
structure cq where
 Left:arE
 ct:arE
 Result:arE
def ada (x:cq):Prop:=x.Left.length<=9223372036854775807/\x.ct.length<=9223372036854775807/\x.Result.length<=9223372036854775807
structure cG where
 aC:List bg
 b7:List dn
 hA:List cq
 hg:arD
 hh:arD
def adb (x:cG):Prop:=(x.aC.length<=9223372036854775807/\∀y∈x.aC,ac9 y)/\(x.b7.length<=9223372036854775807/\∀y∈x.b7,ac_ y)/\(x.hA.length<=9223372036854775807/\∀y∈x.hA,ada y)/\(x.hg.length<=9223372036854775807/\∀y∈x.hg,y.length<=9223372036854775807)/\(x.hh.length<=9223372036854775807/\∀y∈x.hh,y.length<=9223372036854775807)
structure bH where
 cx:arG
 Guard:List aF
 Name:arE
 a9:List (List aF)
 Next:List (List aF)
def ade (x:bH):Prop:=(x.cx.length<=9223372036854775807/\∀y∈x.cx,(-9223372036854775808<=y/\y<=9223372036854775807))/\(x.Guard.length<=9223372036854775807/\∀y∈x.Guard,BU y)/\x.Name.length<=9223372036854775807/\(x.a9.length<=9223372036854775807/\∀y∈x.a9,(y.length<=9223372036854775807/\∀z∈y,BU z))/\(x.Next.length<=9223372036854775807/\∀y∈x.Next,(y.length<=9223372036854775807/\∀z∈y,BU z))
structure cr where
 bW:Int
 Start:arG
 g3:List bH
def adf (x:cr):Prop:=(-9223372036854775808<=x.bW/\x.bW<=9223372036854775807)/\(x.Start.length<=9223372036854775807/\∀y∈x.Start,(-9223372036854775808<=y/\y<=9223372036854775807))/\(x.g3.length<=9223372036854775807/\∀y∈x.g3,ade y)
structure dv where
 scope:Int
 behind:Bool
def aqa (x:dv):Prop:=(-9223372036854775808<=x.scope/\x.scope<=9223372036854775807)/\True
structure hS where
 s:cG
 places:List arG
 out:cr
def aqb (x:hS):Prop:=adb x.s/\(x.places.length<=9223372036854775807/\∀y∈x.places,(y.length<=9223372036854775807/\∀z∈y,(-9223372036854775808<=z/\z<=9223372036854775807)))/\adf x.out
structure fE where
 hB:arG
 guards:List (List aF)
abbrev arP:=List iQ
abbrev arQ:=List kq
abbrev arR:=List kr
abbrev arS:=List ks
abbrev arT:=List j9
abbrev arU:=List aF
abbrev arV:=List bk
abbrev arW:=List bg
abbrev arX:=List dn
abbrev arY:=List cq
abbrev arZ:=List bH
abbrev asa:=List dv
abbrev arN:=List (List iQ)
abbrev arO:=List (List aF)
def aqc (x:fE):Prop:=(x.hB.length<=9223372036854775807/\∀y∈x.hB,(-9223372036854775808<=y/\y<=9223372036854775807))/\(x.guards.length<=9223372036854775807/\∀y∈x.guards,(y.length<=9223372036854775807/\∀z∈y,BU z))
def BV (I:arP) (R:Int):arJ:=
 cond (decide ((i64.wrap (R-(I.length:Int)))<0)) (some (-1)) (some (i64.wrap (R-(I.length:Int))))
def adg (js:Int->Int->arJ) (I:arN) (eV eG:Int):arJ:=
 cond (decide (eG<(I.length:Int))) ((a_ I eG).bind λU=>(BV U eV).bind λai=>cond (decide (ai<0)) (some (-1)) (js ai (i64.wrap (eG+1)))) (some eV)
def KV (I:arN):Nat->Int->Int->arJ
 |0,_,_=>none
 |n+1,eV,eG=>adg (KV I n) I eV eG
def FB (I:arN) (R:Int):arJ:=
 cond (decide ((i64.wrap (R-(I.length:Int)))<0)) (some (-1)) (bU λn=>KV I n (i64.wrap (R-(I.length:Int))) 0)
def BW (I:kq) (R:Int):arJ:=
 cond (decide ((i64.wrap (R-(I.Name.length:Int)))<0)) (some (-1)) ((FB I.a9 (i64.wrap (R-(I.Name.length:Int)))).bind λU=>cond (decide (U<0)) (some (-1)) (some U))
def adh (js:Int->Int->arJ) (I:arQ) (eV eG:Int):arJ:=
 cond (decide (eG<(I.length:Int))) ((a_ I eG).bind λU=>(BW U eV).bind λai=>cond (decide (ai<0)) (some (-1)) (js ai (i64.wrap (eG+1)))) (some eV)
def KW (I:arQ):Nat->Int->Int->arJ
 |0,_,_=>none
 |n+1,eV,eG=>adh (KW I n) I eV eG
def FC (I:arQ) (R:Int):arJ:=
 cond (decide ((i64.wrap (R-(I.length:Int)))<0)) (some (-1)) (bU λn=>KW I n (i64.wrap (R-(I.length:Int))) 0)
def BX (I:kr) (R:Int):arJ:=
 cond (decide ((i64.wrap (R-(I.Name.length:Int)))<0)) (some (-1)) ((FC I.Body (i64.wrap (R-(I.Name.length:Int)))).bind λU=>cond (decide (U<0)) (some (-1)) (some U))
def adi (js:Int->Int->arJ) (I:arR) (eV eG:Int):arJ:=
 cond (decide (eG<(I.length:Int))) ((a_ I eG).bind λU=>(BX U eV).bind λai=>cond (decide (ai<0)) (some (-1)) (js ai (i64.wrap (eG+1)))) (some eV)
def KX (I:arR):Nat->Int->Int->arJ
 |0,_,_=>none
 |n+1,eV,eG=>adi (KX I n) I eV eG
def FD (I:arR) (R:Int):arJ:=
 cond (decide ((i64.wrap (R-(I.length:Int)))<0)) (some (-1)) (bU λn=>KX I n (i64.wrap (R-(I.length:Int))) 0)
def FE (I:arG) (R:Int):arJ:=
 cond (decide ((i64.wrap (R-(I.length:Int)))<0)) (some (-1)) (some (i64.wrap (R-(I.length:Int))))
def BZ (I:ks) (R:Int):arJ:=
 (FE I.e7 R).bind λU=>cond (decide (U<0)) (some (-1)) (some U)
def adj (js:Int->Int->arJ) (I:arS) (eV eG:Int):arJ:=
 cond (decide (eG<(I.length:Int))) ((a_ I eG).bind λU=>(BZ U eV).bind λai=>cond (decide (ai<0)) (some (-1)) (js ai (i64.wrap (eG+1)))) (some eV)
def KY (I:arS):Nat->Int->Int->arJ
 |0,_,_=>none
 |n+1,eV,eG=>adj (KY I n) I eV eG
def FF (I:arS) (R:Int):arJ:=
 cond (decide ((i64.wrap (R-(I.length:Int)))<0)) (some (-1)) (bU λn=>KY I n (i64.wrap (R-(I.length:Int))) 0)
def B0 (I:j9) (R:Int):arJ:=
 cond (decide ((i64.wrap (R-(I.Left.length:Int)))<0)) (some (-1)) (cond (decide ((i64.wrap ((i64.wrap (R-(I.Left.length:Int)))-(I.ct.length:Int)))<0)) (some (-1)) (cond (decide ((i64.wrap ((i64.wrap ((i64.wrap (R-(I.Left.length:Int)))-(I.ct.length:Int)))-(I.Result.length:Int)))<0)) (some (-1)) (some (i64.wrap ((i64.wrap ((i64.wrap (R-(I.Left.length:Int)))-(I.ct.length:Int)))-(I.Result.length:Int))))))
def adk (js:Int->Int->arJ) (I:arT) (eV eG:Int):arJ:=
 cond (decide (eG<(I.length:Int))) ((a_ I eG).bind λU=>(B0 U eV).bind λai=>cond (decide (ai<0)) (some (-1)) (js ai (i64.wrap (eG+1)))) (some eV)
def KZ (I:arT):Nat->Int->Int->arJ
 |0,_,_=>none
 |n+1,eV,eG=>adk (KZ I n) I eV eG
def FG (I:arT) (R:Int):arJ:=
 cond (decide ((i64.wrap (R-(I.length:Int)))<0)) (some (-1)) (bU λn=>KZ I n (i64.wrap (R-(I.length:Int))) 0)
def adl (js:Int->Int->arJ) (I:arD) (eV eG:Int):arJ:=
 cond (decide (eG<(I.length:Int))) ((a_ I eG).bind λU=>cond (decide ((i64.wrap (eV-(U.length:Int)))<0)) (some (-1)) (js (i64.wrap (eV-(U.length:Int))) (i64.wrap (eG+1)))) (some eV)
def K0 (I:arD):Nat->Int->Int->arJ
 |0,_,_=>none
 |n+1,eV,eG=>adl (K0 I n) I eV eG
def B1 (I:arD) (R:Int):arJ:=
 cond (decide ((i64.wrap (R-(I.length:Int)))<0)) (some (-1)) (bU λn=>K0 I n (i64.wrap (R-(I.length:Int))) 0)
def B2 (I:nA) (R:Int):arJ:=
 (FD I.aC R).bind λU=>cond (decide (U<0)) (some (-1)) ((FF I.b7 U).bind λai=>cond (decide (ai<0)) (some (-1)) ((FG I.hA ai).bind λaB=>cond (decide (aB<0)) (some (-1)) ((B1 I.hg aB).bind λa7=>cond (decide (a7<0)) (some (-1)) ((B1 I.hh a7).bind λaP=>cond (decide (aP<0)) (some (-1)) (some aP)))))
def B3 (I:iQ):Option aF:=
 some (aF.mk I.Kind I.Value)
def adm (dx:arU->Int->Option arU) (I:arP) (bA:arU) (bS:Int):Option arU:=
 cond (decide (bS<(I.length:Int))) ((a_ I bS).bind λU=>(B3 U).bind λai=>(a_ bA bS).bind λaB=>dx (List.set bA (Int.toNat bS) ai) (i64.wrap (bS+1))) (some bA)
def K1 (I:arP):Nat->arU->Int->Option arU
 |0,_,_=>none
 |n+1,bA,bS=>adm (K1 I n) I bA bS
def B4 (I:arP):Option arU:=
 (l0 16 (I.length:Int)).bind λ_=>bU λn=>K1 I n (replicate (Int.toNat (I.length:Int)) (aF.mk 0 0)) 0
def adn (dx:arO->Int->Option arO) (I:arN) (bA:arO) (bS:Int):Option arO:=
 cond (decide (bS<(I.length:Int))) ((a_ I bS).bind λU=>(B4 U).bind λai=>(a_ bA bS).bind λaB=>dx (List.set bA (Int.toNat bS) ai) (i64.wrap (bS+1))) (some bA)
def K2 (I:arN):Nat->arO->Int->Option arO
 |0,_,_=>none
 |n+1,bA,bS=>adn (K2 I n) I bA bS
def FH (I:arN):Option arO:=
 (l0 24 (I.length:Int)).bind λ_=>bU λn=>K2 I n (replicate (Int.toNat (I.length:Int)) []) 0
def B5 (I:kq):Option bk:=
 (FH I.a9).bind λU=>some (bk.mk I.Kind I.Number I.Name U)
def ado (dx:arV->Int->Option arV) (I:arQ) (bA:arV) (bS:Int):Option arV:=
 cond (decide (bS<(I.length:Int))) ((a_ I bS).bind λU=>(B5 U).bind λai=>(a_ bA bS).bind λaB=>dx (List.set bA (Int.toNat bS) ai) (i64.wrap (bS+1))) (some bA)
def K3 (I:arQ):Nat->arV->Int->Option arV
 |0,_,_=>none
 |n+1,bA,bS=>ado (K3 I n) I bA bS
def FI (I:arQ):Option arV:=
 (l0 56 (I.length:Int)).bind λ_=>bU λn=>K3 I n (replicate (Int.toNat (I.length:Int)) (bk.mk 0 0 ([]:arE) [])) 0
def B6 (I:kr):Option bg:=
 (FI I.Body).bind λU=>some (bg.mk I.Name I.bW U)
def adp (dx:arW->Int->Option arW) (I:arR) (bA:arW) (bS:Int):Option arW:=
 cond (decide (bS<(I.length:Int))) ((a_ I bS).bind λU=>(B6 U).bind λai=>(a_ bA bS).bind λaB=>dx (List.set bA (Int.toNat bS) ai) (i64.wrap (bS+1))) (some bA)
def K4 (I:arR):Nat->arW->Int->Option arW
 |0,_,_=>none
 |n+1,bA,bS=>adp (K4 I n) I bA bS
def FJ (I:arR):Option arW:=
 (l0 48 (I.length:Int)).bind λ_=>bU λn=>K4 I n (replicate (Int.toNat (I.length:Int)) (bg.mk ([]:arE) 0 [])) 0
def adq (dx:arG->Int->Option arG) (I bA:arG) (bS:Int):Option arG:=
 cond (decide (bS<(I.length:Int))) ((a_ I bS).bind λU=>(a_ bA bS).bind λai=>dx (List.set bA (Int.toNat bS) U) (i64.wrap (bS+1))) (some bA)
def K5 (I:arG):Nat->arG->Int->Option arG
 |0,_,_=>none
 |n+1,bA,bS=>adq (K5 I n) I bA bS
def FK (I:arG):Option arG:=
 (l0 8 (I.length:Int)).bind λ_=>bU λn=>K5 I n (replicate (Int.toNat (I.length:Int)) 0) 0
def B7 (I:ks):Option dn:=
 (FK I.e7).bind λU=>some (dn.mk I.gl U)
def adr (dx:arX->Int->Option arX) (I:arS) (bA:arX) (bS:Int):Option arX:=
 cond (decide (bS<(I.length:Int))) ((a_ I bS).bind λU=>(B7 U).bind λai=>(a_ bA bS).bind λaB=>dx (List.set bA (Int.toNat bS) ai) (i64.wrap (bS+1))) (some bA)
def K6 (I:arS):Nat->arX->Int->Option arX
 |0,_,_=>none
 |n+1,bA,bS=>adr (K6 I n) I bA bS
def FL (I:arS):Option arX:=
 (l0 32 (I.length:Int)).bind λ_=>bU λn=>K6 I n (replicate (Int.toNat (I.length:Int)) (dn.mk 0 [])) 0
def B8 (I:j9):Option cq:=
 some (cq.mk I.Left I.ct I.Result)
def ads (dx:arY->Int->Option arY) (I:arT) (bA:arY) (bS:Int):Option arY:=
 cond (decide (bS<(I.length:Int))) ((a_ I bS).bind λU=>(B8 U).bind λai=>(a_ bA bS).bind λaB=>dx (List.set bA (Int.toNat bS) ai) (i64.wrap (bS+1))) (some bA)
def K7 (I:arT):Nat->arY->Int->Option arY
 |0,_,_=>none
 |n+1,bA,bS=>ads (K7 I n) I bA bS
def FM (I:arT):Option arY:=
 (l0 48 (I.length:Int)).bind λ_=>bU λn=>K7 I n (replicate (Int.toNat (I.length:Int)) (cq.mk ([]:arE) ([]:arE) ([]:arE))) 0
def adt (dx:arD->Int->Option arD) (I bA:arD) (bS:Int):Option arD:=
 cond (decide (bS<(I.length:Int))) ((a_ I bS).bind λU=>(a_ bA bS).bind λai=>dx (List.set bA (Int.toNat bS) U) (i64.wrap (bS+1))) (some bA)
def K8 (I:arD):Nat->arD->Int->Option arD
 |0,_,_=>none
 |n+1,bA,bS=>adt (K8 I n) I bA bS
def B9 (I:arD):Option arD:=
 (l0 16 (I.length:Int)).bind λ_=>bU λn=>K8 I n (replicate (Int.toNat (I.length:Int)) ([]:arE)) 0
def vf (I:nA):Option cG:=
 (FJ I.aC).bind λU=>(FL I.b7).bind λai=>(FM I.hA).bind λaB=>(B9 I.hg).bind λa7=>(B9 I.hh).bind λaP=>some (cG.mk U ai aB a7 aP)
def B_ (I:UInt8):arI:=
 some ((decide (97<=(I.toNat:Int)))&&(decide ((I.toNat:Int)<=122)))
def K9 (I:UInt8):arI:=
 some ((decide (48<=(I.toNat:Int)))&&(decide ((I.toNat:Int)<=57)))
def K_ (ga:Int->arI) (I:arE) (dA:Int):arI:=
 cond (decide (dA<(I.length:Int))) ((a_ I dA).bind λaB=>(B_ aB).bind λa7=>cond (!a7) ((K9 aB).bind λaP=>cond (!aP) (some false) (ga (i64.wrap (dA+1)))) (ga (i64.wrap (dA+1)))) (some true)
def Ca (I:arE):Nat->Int->arI
 |0,_=>none
 |n+1,dA=>K_ (Ca I n) I dA
def w3 (I:arE):arI:=
 cond (I==([]:arE)) (some false) (cond (decide (10<(I.length:Int))) (some false) ((a_ I 0).bind λU=>(B_ U).bind λai=>cond (!ai) (some false) (bU λn=>Ca I n 0)))
def kF (I R aM:Int):arI:=
 some ((decide (R<=I))&&(decide (I<=aM)))
def Cb (I:bk) (jg:Bool):arJ:=
 cond jg (some 1) (cond (I.Kind==2) (some 2) (some 0))
def Cc (I:bk):arJ:=
 cond (I.Kind==1) (Cb I true) (cond (I.Kind==3) (Cb I true) (Cb I (I.Kind==4)))
def La (js:Int->Int->arI) (I:arV) (hG h6:Int):arI:=
 cond (decide (h6<(I.length:Int))) (cond (hG==0) (some false) ((a_ I h6).bind λU=>(Cc U).bind λai=>js (i64.wrap (hG+(i64.wrap (ai-1)))) (i64.wrap (h6+1)))) (some (hG==0))
def yV (I:arV):Nat->Int->Int->arI
 |0,_,_=>none
 |n+1,hG,h6=>La (yV I n) I hG h6
def FN (I:arV):arI:=
 cond (((I.length:Int)==0)||(decide (20<(I.length:Int)))) (some false) (bU λn=>yV I n 1 0)
def Cd (I:bk) (Ce:Bool):arI:=
 cond Ce (some (((I.Number==0)&&(I.Name==([]:arE)))&&((I.a9.length:Int)==0))) (cond (I.Kind==1) (some (I.Number==0)) (cond (I.Kind==3) (some ((I.Number==0)&&(I.Name==([]:arE)))) (cond (I.Kind==4) (some ((I.Name==([]:arE))&&((I.a9.length:Int)==0))) (cond (I.Kind==5) (some (I.Name==([]:arE))) (some false)))))
def Cf (I:bk):arI:=
 cond (I.Kind==0) (Cd I true) (Cd I (I.Kind==2))
def Lb (dj:Int->Int->arJ) (I:arV) (a1 aL:Int):arJ:=
 cond (decide (0<aL)) ((a_ I a1).bind λU=>(Cc U).bind λai=>dj (i64.wrap (a1+1)) (i64.wrap (aL+(i64.wrap (ai-1))))) (some a1)
def yW (I:arV):Nat->Int->Int->arJ
 |0,_,_=>none
 |n+1,a1,aL=>Lb (yW I n) I a1 aL
def FO (I:arV) (R:Int):arJ:=
 bU λn=>yW I n R 1
def Cg (dx:Int->Int->arJ) (I:bg) (R pt pv:Int):arJ:=
 dx pt (i64.wrap (pv+1))
def Lc (dx:Int->Int->arJ) (I:bg) (R gm ix:Int):arJ:=
 cond (decide (ix<R)) ((a_ I.Body ix).bind λU=>cond (U.Kind==4) ((FO I.Body ix).bind λai=>cond (decide (R<ai)) (Cg dx I R (i64.wrap (gm+1)) ix) (Cg dx I R gm ix)) (Cg dx I R gm ix)) (some gm)
def w4 (I:bg) (R:Int):Nat->Int->Int->arJ
 |0,_,_=>none
 |n+1,gm,ix=>Lc (w4 I R n) I R gm ix
def vg (I:bg) (R:Int):arJ:=
 bU λn=>w4 I R n I.bW 0
def FP (I:aF) (R:Int):arI:=
 cond (I.Kind==0) ((kF I.Value 0 63).bind λU=>some U) (cond (I.Kind==1) ((kF I.Value 0 (i64.wrap (R-1))).bind λai=>some ai) (cond (I.Kind==2) ((kF I.Value 0 8).bind λaB=>some aB) (cond (I.Kind==3) (some (I.Value==0)) (some false))))
def Ld (I:aF):arJ:=
 cond (I.Kind==2) (some 2) (cond (I.Kind==3) (some 1) (some 0))
def Le (js:Int->Int->arI) (I:arU) (R jg sM:Int):arI:=
 cond (decide (sM<(I.length:Int))) (cond (jg==0) (some false) ((a_ I sM).bind λU=>(FP U R).bind λai=>cond (!ai) (some false) ((Ld U).bind λaB=>js (i64.wrap (jg+(i64.wrap (aB-1)))) (i64.wrap (sM+1))))) (some (jg==0))
def yX (I:arU) (R:Int):Nat->Int->Int->arI
 |0,_,_=>none
 |n+1,jg,sM=>Le (yX I R n) I R jg sM
def yY (I:arU) (R aM:Int):arI:=
 cond (decide (aM<(I.length:Int))) (some false) (bU λn=>yX I R n 1 0)
def Lf (adu:Int->Int->arJ) (U:bk) (sN sO:Int):arJ:=
 cond (decide (sO<(U.a9.length:Int))) ((a_ U.a9 sO).bind λa7=>(yY a7 sN 15).bind λaP=>cond (!aP) (some 8) (adu sN (i64.wrap (sO+1)))) (some 0)
def vh (U:bk):Nat->Int->Int->arJ
 |0,_,_=>none
 |n+1,sN,sO=>Lf (vh U n) U sN sO
def rE (R:bg) (aM:Int) (U:bk) (Ch:Bool):arJ:=
 cond Ch (some 6) ((vg R aM).bind λaB=>cond ((U.Kind==4)&&(decide (6<=aB))) (some 7) (bU λn=>vh U n aB 0))
def tG (R:bg) (aM:Int) (U:bk):arJ:=
 cond (U.Kind==5) (cond (aM==0) (rE R aM U true) ((a_ R.Body (i64.wrap (aM-1))).bind λaV=>rE R aM U (aV.Kind !=1))) (rE R aM U false)
def sP (I:arW) (R:bg) (aM:Int) (U:bk) (Ci:Bool):arJ:=
 cond Ci (some 4) (cond (U.Kind==1) (cond ((decide (2<(U.a9.length:Int)))||((decide (0<(U.a9.length:Int)))&&(U.Name==([116,97,117]:arE)))) (some 5) (tG R aM U)) (cond (U.Kind==3) (cond ((U.a9.length:Int) !=1) (some 5) (tG R aM U)) (cond (U.Kind==5) ((a_ I U.Number).bind λbp=>cond ((U.a9.length:Int) !=bp.bW) (some 5) (tG R aM U)) (tG R aM U))))
def yZ (I:arW) (R:bg) (aM:Int) (U:bk) (Cj:Bool):arJ:=
 cond Cj (some 3) (cond (U.Kind==4) ((kF U.Number 1 7).bind λcp=>cond (!cp) (sP I R aM U true) (cond (U.Kind==5) ((kF U.Number 0 (i64.wrap ((I.length:Int)-1))).bind λdi=>sP I R aM U (!di)) (sP I R aM U false))) (cond (U.Kind==5) ((kF U.Number 0 (i64.wrap ((I.length:Int)-1))).bind λcE=>sP I R aM U (!cE)) (sP I R aM U false)))
def pw (I:arW) (R:bg) (aM:Int):arJ:=
 (a_ R.Body aM).bind λU=>(Cf U).bind λai=>cond (!ai) (some 2) (cond (U.Kind==1) ((w3 U.Name).bind λde=>yZ I R aM U (!de)) (yZ I R aM U false))
def Ck (ga:Int->Option (Int×Int)) (I:arW) (R:bg) (px:Int):Option (Int×Int):=
 cond (decide (px<(R.Body.length:Int))) ((pw I R px).bind λai=>cond (decide (0<ai)) (some (px,ai)) (ga (i64.wrap (px+1)))) (some (0,0))
def tH (I:arW) (R:bg):Nat->Int->Option (Int×Int)
 |0,_=>none
 |n+1,px=>Ck (tH I R n) I R px
def tI (I:arW) (R:bg):Option (Int×Int):=
 (FN R.Body).bind λU=>cond (!U) (some (0,1)) (bU λn=>tH I R n 0)
def Lg (ga:Int->arI) (adv:Int->Int->arI) (I:arW) (qp sQ:Int):arI:=
 cond (decide (sQ<qp)) ((a_ I sQ).bind λa7=>(a_ I qp).bind λaP=>cond (a7.Name==aP.Name) (some false) (adv qp (i64.wrap (sQ+1)))) (ga (i64.wrap (qp+1)))
def y0 (ga:Int->arI) (I:arW):Nat->Int->Int->arI
 |0,_,_=>none
 |n+1,qp,sQ=>Lg ga (y0 ga I n) I qp sQ
def Lh (adw:Int->arI) (I:arW) (sR:Int):arI:=
 cond (decide (sR<(I.length:Int))) ((a_ I sR).bind λaV=>(tI I aV).bind λbp=>cond (decide (0<bp.2)) (some false) (adw (i64.wrap (sR+1)))) (some true)
def w5 (I:arW):Nat->Int->arI
 |0,_=>none
 |n+1,sR=>Lh (w5 I n) I sR
def Li (ga:Int->arI) (I:arW) (dA:Int):arI:=
 cond (decide (dA<(I.length:Int))) ((a_ I dA).bind λU=>(w3 U.Name).bind λai=>cond (!ai) (some false) ((kF U.bW 0 3).bind λaB=>cond (!aB) (some false) (bU λn=>y0 ga I n dA 0))) (bU λn=>w5 I n 0)
def tJ (I:arW):Nat->Int->arI
 |0,_=>none
 |n+1,dA=>Li (tJ I n) I dA
def FQ (I:arW):arI:=
 cond (((I.length:Int)==0)||(decide (4<(I.length:Int)))) (some false) (bU λn=>tJ I n 0)
def Cl (dj:Int->arI) (I:arG) (lo:Int):arI:=
 cond (decide (lo<(I.length:Int))) ((a_ I lo).bind λU=>(kF U 0 63).bind λai=>cond (!ai) (some false) (dj (i64.wrap (lo+1)))) (some true)
def vi (I:arG):Nat->Int->arI
 |0,_=>none
 |n+1,lo=>Cl (vi I n) I lo
def w6 (I:arG):arI:=
 bU λn=>vi I n 0
def Lj (ga:Int->arI) (I:cG) (dA:Int):arI:=
 cond (decide (dA<(I.b7.length:Int))) ((a_ I.b7 dA).bind λU=>(kF U.gl 0 (i64.wrap ((I.aC.length:Int)-1))).bind λai=>cond (!ai) (some false) ((a_ I.aC U.gl).bind λaB=>cond ((U.e7.length:Int) !=aB.bW) (some false) ((w6 U.e7).bind λa7=>cond (!a7) (some false) (ga (i64.wrap (dA+1)))))) (some true)
def y1 (I:cG):Nat->Int->arI
 |0,_=>none
 |n+1,dA=>Lj (y1 I n) I dA
def FR (I:cG):arI:=
 cond (((I.b7.length:Int)==0)||(decide (3<(I.b7.length:Int)))) (some false) (bU λn=>y1 I n 0)
def sS (I:arE):arI:=
 (w3 I).bind λU=>some (U&&(!(I==([116,97,117]:arE))))
def Lk (ga:Int->arI) (adx:Int->Int->arI) (I:arY) (U:cq) (mF m7:Int):arI:=
 cond (decide (m7<(I.length:Int))) ((a_ I m7).bind λbp=>cond ((bp.Left==U.Result)||(bp.ct==U.Result)) (some false) (adx mF (i64.wrap (m7+1)))) (ga (i64.wrap (mF+1)))
def tK (ga:Int->arI) (I:arY) (U:cq):Nat->Int->Int->arI
 |0,_,_=>none
 |n+1,mF,m7=>Lk ga (tK ga I U n) I U mF m7
def Ll (ga:Int->arI) (I:arY) (dA:Int):arI:=
 cond (decide (dA<(I.length:Int))) ((a_ I dA).bind λU=>(sS U.Left).bind λai=>cond (!ai) (some false) ((sS U.ct).bind λaB=>cond (!aB) (some false) ((sS U.Result).bind λa7=>cond ((!a7)||(!(Op.bytesLess U.Left U.ct||U.Left==U.ct))) (some false) (cond (decide (0<dA)) ((a_ I (i64.wrap (dA-1))).bind λaP=>cond ((!(Op.bytesLess aP.Left U.Left||aP.Left==U.Left))||((aP.Left==U.Left)&&(!(Op.bytesLess aP.ct U.ct)))) (some false) (bU λn=>tK ga I U n dA 0)) (bU λn=>tK ga I U n dA 0))))) (some true)
def rF (I:arY):Nat->Int->arI
 |0,_=>none
 |n+1,dA=>Ll (rF I n) I dA
def FT (I:arY):arI:=
 cond (decide (6<(I.length:Int))) (some false) (bU λn=>rF I n 0)
def Lm (dj:Int->arI) (I:arD) (lo:Int):arI:=
 cond (decide (lo<(I.length:Int))) ((a_ I lo).bind λU=>(sS U).bind λai=>cond (!ai) (some false) (dj (i64.wrap (lo+1)))) (some true)
def y2 (I:arD):Nat->Int->arI
 |0,_=>none
 |n+1,lo=>Lm (y2 I n) I lo
def FU (I:arD):arI:=
 bU λn=>y2 I n 0
def FV (ga:Int->arI) (I:arD) (dA:Int):arI:=
 cond (decide (dA<(I.length:Int))) ((a_ I (i64.wrap (dA-1))).bind λai=>(a_ I dA).bind λaB=>cond (!(Op.bytesLess ai aB)) (some false) (ga (i64.wrap (dA+1)))) (some true)
def qq (I:arD):Nat->Int->arI
 |0,_=>none
 |n+1,dA=>FV (qq I n) I dA
def Cm (I:arD):arI:=
 cond (decide (12<(I.length:Int))) (some false) ((FU I).bind λU=>cond (!U) (some false) (bU λn=>qq I n 1))
def FW (I:cG):arJ:=
 (FQ I.aC).bind λU=>cond (!U) (some 1) ((FR I).bind λai=>cond (!ai) (some 2) ((FT I.hA).bind λaB=>cond (!aB) (some 3) ((Cm I.hg).bind λa7=>cond (!a7) (some 4) ((Cm I.hh).bind λaP=>cond (!aP) (some 5) (some 0)))))
def FX (I:cG):arI:=
 (FW I).bind λU=>some (U==0)
def aqd:arG:=[0,0]
def aqe:arG:=[0,1]
def Cn (dx:(List arG)->Int->Option ((List arG))) (Co:(List arG)->Int->Int->Option ((List arG))) (I:cG) (U:bg) (py:List arG) (pz y3:Int):Option ((List arG)):=
 Co py pz (i64.wrap (y3+1))
def Ln (dx:(List arG)->Int->Option ((List arG))) (Co:(List arG)->Int->Int->Option ((List arG))) (I:cG) (U:bg) (nB:List arG) (kX kG:Int):Option ((List arG)):=
 cond (decide (kG<(U.Body.length:Int))) ((a_ U.Body (i64.wrap (kG-1))).bind λai=>cond (ai.Kind==1) ((a_ U.Body kG).bind λaB=>cond (aB.Kind !=5) ((room 24 (nB.length+1)).bind λ_=>Cn dx Co I U (nB++[[kX,kG]]) kX kG) (Cn dx Co I U nB kX kG)) (Cn dx Co I U nB kX kG)) (dx nB (i64.wrap (kX+1)))
def vj (dx:(List arG)->Int->Option ((List arG))) (I:cG) (U:bg):Nat->(List arG)->Int->Int->Option ((List arG))
 |0,_,_,_=>none
 |n+1,nB,kX,kG=>Ln dx (vj dx I U n) I U nB kX kG
def Lo (dx:(List arG)->Int->Option ((List arG))) (I:cG) (bA:List arG) (bS:Int):Option ((List arG)):=
 cond (decide (bS<(I.aC.length:Int))) ((a_ I.aC bS).bind λU=>(room 24 (bA.length+1)).bind λ_=>bU λn=>vj dx I U n (bA++[[bS,0]]) bS 1) (some bA)
def tL (I:cG):Nat->(List arG)->Int->Option ((List arG))
 |0,_,_=>none
 |n+1,bA,bS=>Lo (tL I n) I bA bS
def FY (I:cG):Option ((List arG)):=
 bU λn=>tL I n [] 0
def Lp (I:Int) (Cp:Bool):arJ:=
 cond Cp (some 0) (cond (I==2) (some 2) (some 1))
def FZ (I:Int):arJ:=
 cond (I==0) (Lp I true) (Lp I (I==5))
def Lq (dj:Int->Int->arJ) (I:arV) (a1 aL:Int):arJ:=
 cond (decide (0<aL)) ((a_ I a1).bind λU=>(FZ U.Kind).bind λai=>dj (i64.wrap (a1+1)) (i64.wrap (aL+(i64.wrap (ai-1))))) (some a1)
def y4 (I:arV):Nat->Int->Int->arJ
 |0,_,_=>none
 |n+1,a1,aL=>Lq (y4 I n) I a1 aL
def vk (I:arV) (R:Int):arJ:=
 bU λn=>y4 I n R 1
def Cq (dx:Int->Int->arJ) (I:bg) (R pt pv:Int):arJ:=
 dx pt (i64.wrap (pv+1))
def Lr (dx:Int->Int->arJ) (I:bg) (R gm ix:Int):arJ:=
 cond (decide (ix<R)) ((a_ I.Body ix).bind λU=>cond (U.Kind==4) ((vk I.Body ix).bind λai=>cond (decide (R<ai)) (Cq dx I R (i64.wrap (gm+1)) ix) (Cq dx I R gm ix)) (Cq dx I R gm ix)) (some gm)
def w7 (I:bg) (R:Int):Nat->Int->Int->arJ
 |0,_,_=>none
 |n+1,gm,ix=>Lr (w7 I R n) I R gm ix
def Cr (I:bg) (R:Int):arJ:=
 bU λn=>w7 I R n I.bW 0
def Ls (I R:Int):arJ:=
 cond (decide (R<I)) (some I) (some R)
def Lt (dj:Int->arJ) (I:List arG) (R aM dW:Int):arJ:=
 cond (decide (dW<(I.length:Int))) ((a_ I dW).bind λU=>(a_ U 0).bind λai=>cond (ai==R) ((a_ U 1).bind λaB=>cond (aB==aM) (some dW) (dj (i64.wrap (dW+1)))) (dj (i64.wrap (dW+1)))) (some 0)
def Cs (I:List arG) (R aM:Int):Nat->Int->arJ
 |0,_=>none
 |n+1,dW=>Lt (Cs I R aM n) I R aM dW
def y5 (I:List arG) (R aM:Int):arJ:=
 bU λn=>Cs I R aM n 0
def F1 (I:arG) (R:Int):arI:=
 cond ((I.length:Int)==R) ((w6 I).bind λU=>some U) (some false)
def Lu (js:Int->Int->arJ) (I:arG) (hG h6:Int):arJ:=
 cond (decide (h6<(I.length:Int))) ((a_ I h6).bind λU=>(kF U 1 7).bind λai=>cond (!ai) (some 0) (js (i64.wrap (hG*(i64.wrap (U+1)))) (i64.wrap (h6+1)))) (cond (decide (4096<hG)) (some 0) (some hG))
def y6 (I:arG):Nat->Int->Int->arJ
 |0,_,_=>none
 |n+1,hG,h6=>Lu (y6 I n) I hG h6
def F2 (I:arG):arJ:=
 cond (decide (8<(I.length:Int))) (some 0) (bU λn=>y6 I n 1 0)
def Lv (dj:Int->arI) (I:arO) (R aL:Int):arI:=
 cond (decide (aL<(I.length:Int))) ((a_ I aL).bind λU=>(yY U R 60).bind λai=>cond (!ai) (some false) (dj (i64.wrap (aL+1)))) (some true)
def Ct (I:arO) (R:Int):Nat->Int->arI
 |0,_=>none
 |n+1,aL=>Lv (Ct I R n) I R aL
def w8 (I:arO) (R:Int):arI:=
 bU λn=>Ct I R n 0
def F3 (I:bH) (R:Int):arI:=
 (F2 I.cx).bind λU=>cond (U==0) (some false) ((yY I.Guard (i64.wrap (R+(I.cx.length:Int))) 60).bind λai=>cond ((!ai)||((I.Next.length:Int) !=R)) (some false) (cond (I.Name==([116,97,117]:arE)) (cond (decide (0<(I.a9.length:Int))) (some false) (cond (decide (2<(I.a9.length:Int))) (some false) ((w8 I.a9 (i64.wrap (R+(I.cx.length:Int)))).bind λaB=>cond aB ((w8 I.Next (i64.wrap (R+(I.cx.length:Int)))).bind λa7=>some a7) (some false)))) ((sS I.Name).bind λaP=>cond (!aP) (some false) (cond (decide (2<(I.a9.length:Int))) (some false) ((w8 I.a9 (i64.wrap (R+(I.cx.length:Int)))).bind λaV=>cond aV ((w8 I.Next (i64.wrap (R+(I.cx.length:Int)))).bind λbp=>some bp) (some false))))))
def Lw (ga:Int->arI) (I:cr) (dA:Int):arI:=
 cond (decide (dA<(I.g3.length:Int))) ((a_ I.g3 dA).bind λaB=>(F3 aB I.bW).bind λa7=>cond (!a7) (some false) (ga (i64.wrap (dA+1)))) (some true)
def Cu (I:cr):Nat->Int->arI
 |0,_=>none
 |n+1,dA=>Lw (Cu I n) I dA
def Cv (I:cr):arI:=
 (kF I.bW 0 21).bind λU=>cond (!U) (some false) ((F1 I.Start I.bW).bind λai=>cond ((!ai)||(decide (60<(I.g3.length:Int)))) (some false) (bU λn=>Cu I n 0))
def Lx (ga:Int->arI) (I:arV) (aM oQ:Int):arI:=
 cond (decide (oQ<aM)) ((a_ I oQ).bind λaB=>cond (aB.Kind==1) ((vk I oQ).bind λa7=>cond (decide (aM<a7)) (some false) (ga (i64.wrap (oQ+1)))) (ga (i64.wrap (oQ+1)))) (some true)
def y7 (I:arV) (aM:Int):Nat->Int->arI
 |0,_=>none
 |n+1,oQ=>Lx (y7 I aM n) I aM oQ
def F4 (I:arV) (R aM:Int):arI:=
 (a_ I aM).bind λU=>cond (U.Kind !=1) (some false) ((vk I R).bind λai=>cond (decide (ai<=aM)) (some false) (bU λn=>y7 I aM n R))
def Cw (I:Int):Option arU:=
 some [(aF.mk 1 I)]
def tM (I:Int):Option arU:=
 some [(aF.mk 0 I)]
def F5 (js:arU->Int->Option arU) (I:arO) (tN:arU) (tO:Int):Option arU:=
 (a_ I tO).bind λU=>(room 16 (tN.length+U.length)).bind λ_=>js (tN++U) (i64.wrap (tO+1))
def Ly (js:arU->Int->Option arU) (I:arO) (hG:arU) (h6:Int):Option arU:=
 cond (decide (h6<(I.length:Int))) (cond (decide ((i64.wrap (h6+1))<(I.length:Int))) ((room 16 (hG.length+1)).bind λ_=>F5 js I (hG++[(aF.mk 2 7)]) h6) (F5 js I hG h6)) (some hG)
def w9 (I:arO):Nat->arU->Int->Option arU
 |0,_,_=>none
 |n+1,hG,h6=>Ly (w9 I n) I hG h6
def F6 (I:arO):Option arU:=
 cond ((I.length:Int)==0) (some [(aF.mk 0 1)]) (bU λn=>w9 I n [] 0)
def F7 (I:arU):Option arU:=
 (room 16 (I.length)).bind λ_=>some I
def Cx (dx:arU->Int->Option arU) (R aM:Int) (y8:arU) (y9:Int):Option arU:=
 dx y8 (i64.wrap (y9+1))
def Lz (dx:arU->Int->Option arU) (R aM:Int) (iF:arU) (kY:Int):Option arU:=
 cond (decide (kY<(iF.length:Int))) ((a_ iF kY).bind λai=>cond (ai.Kind !=1) (Cx dx R aM iF kY) (cond (decide (ai.Value<R)) (Cx dx R aM (List.set iF (Int.toNat kY) (aF.mk ai.Kind (i64.wrap (ai.Value+1)))) kY) (Cx dx R aM (List.set iF (Int.toNat kY) (aF.mk ai.Kind (i64.wrap ((i64.wrap (aM+ai.Value))-R)))) kY))) (some iF)
def w_ (R aM:Int):Nat->arU->Int->Option arU
 |0,_,_=>none
 |n+1,iF,kY=>Lz (w_ R aM n) R aM iF kY
def xa (I:arU) (R aM:Int):Option arU:=
 (F7 I).bind λU=>bU λn=>w_ R aM n U 0
def Cy (sT:arG->arO->Int->Option bH) (R:List arG) (bG dM ai:Int) (aB:bg) (aP:Int) (aV:bk) (y_:arG) (za:arO) (zb:Int):Option bH:=
 sT y_ za (i64.wrap (zb+1))
def F8 (sT:arG->arO->Int->Option bH) (R:List arG) (bG dM ai:Int) (aB:bg) (aP:Int) (aV:bk) (tP:arG) (sU:arO) (sV:Int):Option bH:=
 (a_ aB.Body sV).bind λcE=>cond (cE.Kind==3) ((a_ cE.a9 0).bind λde=>(xa de aP dM).bind λgx=>(room 24 (sU.length+1)).bind λ_=>Cy sT R bG dM ai aB aP aV tP (sU++[gx]) sV) (Cy sT R bG dM ai aB aP aV tP sU sV)
def TE (ady:arG->arU->arO->arO->Option bH) (dM:Int) (aV:bk) (rG:arG) (rH:arU) (rI pA:arO):Option bH:=
 cond (decide ((pA.length:Int)<dM)) ((tM 0).bind λme=>(room 24 (pA.length+1)).bind λ_=>ady rG rH rI (pA++[me])) (some (bH.mk rG rH aV.Name rI pA))
def Cz (dM:Int) (aV:bk):Nat->arG->arU->arO->arO->Option bH
 |0,_,_,_,_=>none
 |n+1,rG,rH,rI,pA=>TE (Cz dM aV n) dM aV rG rH rI pA
def xb (dM aP:Int) (aV:bk) (zc:arG) (zd:arU) (ze zf:arO):Option bH:=
 bU λn=>Cz dM aV n zc zd ze zf
def LA (adz:arG->arU->arO->arO->Int->Option bH) (dM aP:Int) (aV i3:bk) (qs:arG) (qt:arU) (qu pB:arO) (qv:Int):Option bH:=
 cond (decide (qv<(i3.a9.length:Int))) ((a_ i3.a9 qv).bind λCA=>(xa CA aP dM).bind λxc=>(room 24 (pB.length+1)).bind λ_=>adz qs qt qu (pB++[xc]) (i64.wrap (qv+1))) (xb dM aP aV qs qt qu pB)
def xd (dM aP:Int) (aV i3:bk):Nat->arG->arU->arO->arO->Int->Option bH
 |0,_,_,_,_,_=>none
 |n+1,qs,qt,qu,pB,qv=>LA (xd dM aP aV i3 n) dM aP aV i3 qs qt qu pB qv
def LB (adA:arG->arU->arO->arO->Int->Int->Option bH) (dM aP:Int) (aV:bk) (qw:arG) (qx:arU) (qy pC:arO) (rJ pD:Int):Option bH:=
 cond (decide (pD<rJ)) ((Cw pD).bind λqz=>(xa qz aP dM).bind λtQ=>(room 24 (pC.length+1)).bind λ_=>adA qw qx qy (pC++[tQ]) rJ (i64.wrap (pD+1))) (xb dM aP aV qw qx qy pC)
def xe (dM aP:Int) (aV:bk):Nat->arG->arU->arO->arO->Int->Int->Option bH
 |0,_,_,_,_,_,_=>none
 |n+1,qw,qx,qy,pC,rJ,pD=>LB (xe dM aP aV n) dM aP aV qw qx qy pC rJ pD
def LC (adB:arG->arU->arO->Int->Option bH) (R:List arG) (bG dM ai:Int) (aB:bg) (aP:Int) (aV:bk) (mG:arG) (nC:arU) (m8:arO) (qA:Int):Option bH:=
 (a_ aB.Body bG).bind λik=>cond (decide (qA<(ik.a9.length:Int))) ((a_ ik.a9 qA).bind λkH=>(xa kH aP dM).bind λkI=>(room 24 (m8.length+1)).bind λ_=>adB mG nC (m8++[kI]) (i64.wrap (qA+1))) ((a_ aB.Body (i64.wrap (bG+1))).bind λi3=>cond (i3.Kind==5) ((y5 R i3.Number 0).bind λLD=>(tM LD).bind λCB=>bU λn=>xd dM aP aV i3 n mG nC m8 [CB] 0) ((y5 R ai (i64.wrap (bG+1))).bind λtR=>(tM tR).bind λF9=>bU λn=>xe dM aP aV n mG nC m8 [F9] (i64.wrap (aP+(mG.length:Int))) 0))
def xf (R:List arG) (bG dM ai:Int) (aB:bg) (aP:Int) (aV:bk):Nat->arG->arU->arO->Int->Option bH
 |0,_,_,_,_=>none
 |n+1,mG,nC,m8,qA=>LC (xf R bG dM ai aB aP aV n) R bG dM ai aB aP aV mG nC m8 qA
def LF (sT:arG->arO->Int->Option bH) (R:List arG) (bG dM ai:Int) (aB:bg) (aP:Int) (aV:bk) (mf:arG) (ob:arO) (m9:Int):Option bH:=
 cond (decide (m9<bG)) ((vk aB.Body m9).bind λdi=>cond (decide (di<=bG)) (Cy sT R bG dM ai aB aP aV mf ob m9) ((a_ aB.Body m9).bind λeK=>cond (eK.Kind==4) ((room 8 (mf.length+1)).bind λ_=>F8 sT R bG dM ai aB aP aV (mf++[eK.Number]) ob m9) (F8 sT R bG dM ai aB aP aV mf ob m9))) ((F6 ob).bind λgA=>bU λn=>xf R bG dM ai aB aP aV n mf gA [] 0)
def tS (R:List arG) (bG dM ai:Int) (aB:bg) (aP:Int) (aV:bk):Nat->arG->arO->Int->Option bH
 |0,_,_,_=>none
 |n+1,mf,ob,m9=>LF (tS R bG dM ai aB aP aV n) R bG dM ai aB aP aV mf ob m9
def F_ (I:cG) (R:List arG) (aM bG dM:Int):Option bH:=
 (a_ R aM).bind λU=>(a_ U 0).bind λai=>(a_ I.aC ai).bind λaB=>(a_ U 1).bind λa7=>(Cr aB a7).bind λaP=>(a_ aB.Body bG).bind λaV=>(Cw 0).bind λbp=>(room 16 (1+bp.length)).bind λ_=>(tM aM).bind λcp=>(room 16 (([(aF.mk 2 3)]++bp).length+cp.length)).bind λ_=>bU λn=>tS R bG dM ai aB aP aV n [] [(([(aF.mk 2 3)]++bp)++cp)] a7
def Ga (tT:Int->arG->arZ->Int->Option (cr×Bool)) (Gb:Int->arG->arZ->Int->Int->Option (cr×Bool)) (I:cG) (U:(List arG)) (gx:bg) (eK gA zg:Int) (zh:arG) (zi:arZ) (zj zk:Int):Option (cr×Bool):=
 Gb zg zh zi zj (i64.wrap (zk+1))
def LG (tT:Int->arG->arZ->Int->Option (cr×Bool)) (Gb:Int->arG->arZ->Int->Int->Option (cr×Bool)) (I:cG) (U:(List arG)) (gx:bg) (eK gA oc:Int) (pE:arG) (od:arZ) (oe nD:Int):Option (cr×Bool):=
 cond (decide (nD<gA)) ((F4 gx.Body eK nD).bind λik=>cond ik (cond ((od.length:Int)==60) (some ((cr.mk 0 [] []),false)) ((F_ I U oe nD oc).bind λkH=>(room 112 (od.length+1)).bind λ_=>Ga tT Gb I U gx eK gA oc pE (od++[kH]) oe nD)) (Ga tT Gb I U gx eK gA oc pE od oe nD)) (tT oc pE od (i64.wrap (oe+1)))
def vl (tT:Int->arG->arZ->Int->Option (cr×Bool)) (I:cG) (U:(List arG)) (gx:bg) (eK gA:Int):Nat->Int->arG->arZ->Int->Int->Option (cr×Bool)
 |0,_,_,_,_,_=>none
 |n+1,oc,pE,od,oe,nD=>LG tT (vl tT I U gx eK gA n) I U gx eK gA oc pE od oe nD
def LH (tT:Int->arG->arZ->Int->Option (cr×Bool)) (I:cG) (U:(List arG)) (pF:Int) (pG:arG) (pH:arZ) (sW:Int):Option (cr×Bool):=
 cond (decide (sW<(U.length:Int))) ((a_ U sW).bind λcE=>(a_ cE 0).bind λde=>(a_ I.aC de).bind λgx=>(a_ cE 1).bind λeK=>(vk gx.Body eK).bind λgA=>bU λn=>vl tT I U gx eK gA n pF pG pH sW eK) ((Cv (cr.mk pF pG pH)).bind λkI=>cond (!kI) (some ((cr.mk 0 [] []),false)) (some ((cr.mk pF pG pH),true)))
def rK (I:cG) (U:(List arG)):Nat->Int->arG->arZ->Int->Option (cr×Bool)
 |0,_,_,_,_=>none
 |n+1,pF,pG,pH,sW=>LH (rK I U n) I U pF pG pH sW
def TF (adC:Int->arG->Option (cr×Bool)) (I:cG) (U:(List arG)) (oR:Int) (og:arG):Option (cr×Bool):=
 cond (decide ((og.length:Int)<oR)) ((room 8 (og.length+1)).bind λ_=>adC oR (og++[0])) (bU λn=>rK I U n oR og [] 0)
def CC (I:cG) (U:(List arG)):Nat->Int->arG->Option (cr×Bool)
 |0,_,_=>none
 |n+1,oR,og=>TF (CC I U n) I U oR og
def LI (adD:Int->Int->Option (cr×Bool)) (I:cG) (R:Int) (U:(List arG)) (pI rL:Int):Option (cr×Bool):=
 cond (decide (rL<(U.length:Int))) ((a_ U rL).bind λai=>(a_ ai 0).bind λaB=>(a_ I.aC aB).bind λa7=>(a_ ai 1).bind λaP=>(Cr a7 aP).bind λaV=>(Ls pI aV).bind λbp=>adD bp (i64.wrap (rL+1))) ((a_ I.b7 R).bind λcp=>(y5 U cp.gl 0).bind λdi=>(room 8 (1+cp.e7.length)).bind λ_=>bU λn=>CC I U n (i64.wrap (pI+1)) ([di]++cp.e7))
def zl (I:cG) (R:Int) (U:(List arG)):Nat->Int->Int->Option (cr×Bool)
 |0,_,_=>none
 |n+1,pI,rL=>LI (zl I R U n) I R U pI rL
def Gc (I:cG) (R:Int):Option (cr×Bool):=
 (FY I).bind λU=>cond (decide (64<(U.length:Int))) (some ((cr.mk 0 [] []),false)) (bU λn=>zl I R U n 0 0)
def Gd (I:cG) (R:Int):Option (cr×Int):=
 (FX I).bind λU=>cond (!U) (some ((cr.mk 0 [] []),1)) ((kF R 0 (i64.wrap ((I.b7.length:Int)-1))).bind λai=>cond (!ai) (some ((cr.mk 0 [] []),2)) ((Gc I R).bind λaB=>cond (!aB.2) (some ((cr.mk 0 [] []),5)) (some (aB.1,0))))
def jD (I R aM:Int):arI:=
 some ((decide (R<=I))&&(decide (I<=aM)))
def LJ (I:bg):arI:=
 (jD I.bW 0 3).bind λU=>some (!U)
def LK (dj:Int->arJ) (I:arW) (cI:Int):arJ:=
 cond (decide (cI<(I.length:Int))) ((a_ I cI).bind λU=>(LJ U).bind λai=>cond ai (some cI) (dj (i64.wrap (cI+1)))) (some (-1))
def CD (I:arW):Nat->Int->arJ
 |0,_=>none
 |n+1,cI=>LK (CD I n) I cI
def LL (I:arW):arJ:=
 bU λn=>CD I n 0
def LM (I:arW):arI:=
 (LL I).bind λU=>some (decide (0<=U))
def Ge (I:arW):arI:=
 (LM I).bind λU=>some (!U)
def LN (I:UInt8):arI:=
 some ((decide (48<=(I.toNat:Int)))&&(decide ((I.toNat:Int)<=57)))
def Gf (dj:Int->arI) (I:arE) (dW:Int):arI:=
 cond (decide (dW<(I.length:Int))) ((a_ I dW).bind λU=>cond (!((decide (97<=(U.toNat:Int)))&&(decide ((U.toNat:Int)<=122)))) (cond (dW==0) (some false) ((LN U).bind λai=>cond (!ai) (some false) (dj (i64.wrap (dW+1))))) (dj (i64.wrap (dW+1)))) (some ((decide (1<=(I.length:Int)))&&(decide ((I.length:Int)<=10))))
def vm (I:arE):Nat->Int->arI
 |0,_=>none
 |n+1,dW=>Gf (vm I n) I dW
def CE (I:arE):arI:=
 bU λn=>vm I n 0
def LO (I:bg) (R:arE):arI:=
 some (I.Name==R)
def LP (dj:Int->arJ) (I:arW) (R:arE) (cI:Int):arJ:=
 cond (decide (cI<(I.length:Int))) ((a_ I cI).bind λU=>(LO U R).bind λai=>cond ai (some cI) (dj (i64.wrap (cI+1)))) (some (-1))
def CF (I:arW) (R:arE):Nat->Int->arJ
 |0,_=>none
 |n+1,cI=>LP (CF I R n) I R cI
def LQ (I:arW) (R:arE):arJ:=
 bU λn=>CF I R n 0
def Gg (I:arW) (R:arE):arJ:=
 (LQ I R).bind λU=>some U
def CG (I:bk) (eG:Bool):arJ:=
 cond eG (some 1) (cond (I.Kind==2) (some 2) (some 0))
def CH (I:bk):arJ:=
 cond (I.Kind==1) (CG I true) (cond (I.Kind==3) (CG I true) (CG I (I.Kind==4)))
def LR (dj:Int->Int->arJ) (I:bg) (a1 aL:Int):arJ:=
 cond (decide (0<aL)) (cond (decide ((I.Body.length:Int)<=a1)) (some (-1)) ((a_ I.Body a1).bind λU=>(CH U).bind λai=>dj (i64.wrap (a1+1)) (i64.wrap (aL+(i64.wrap (ai-1)))))) (some a1)
def zm (I:bg):Nat->Int->Int->arJ
 |0,_,_=>none
 |n+1,a1,aL=>LR (zm I n) I a1 aL
def CI (I:bg) (R:Int):arJ:=
 bU λn=>zm I n R 1
def LS (oS:Int->dv->asa->bg->Option (Int×asa)) (sT:asa->Int->Int->Option (Int×asa)) (bG:bg) (na:Int) (ai:bk) (aB:Int) (tU:asa) (rM sX:Int):Option (Int×asa):=
 cond (decide (sX<aB)) ((oS rM (dv.mk na (ai.Kind==1)) tU bG).bind λa7=>sT a7.2 a7.1 (i64.wrap (sX+1))) (some (rM,tU))
def xg (oS:Int->dv->asa->bg->Option (Int×asa)) (bG:bg) (na:Int) (ai:bk) (aB:Int):Nat->asa->Int->Int->Option (Int×asa)
 |0,_,_,_=>none
 |n+1,tU,rM,sX=>LS oS (xg oS bG na ai aB n) bG na ai aB tU rM sX
def Gh (oS:Int->dv->asa->bg->Option (Int×asa)) (I:Int) (R:dv) (aM:asa) (bG:bg) (ai:bk) (na:Int):Option (Int×asa):=
 (CH ai).bind λaB=>bU λn=>xg oS bG na ai aB n (List.set aM (Int.toNat I) R) (i64.wrap (I+1)) 0
def LU (oS:Int->dv->asa->bg->Option (Int×asa)) (I:Int) (R:dv) (aM:asa) (bG:bg):Option (Int×asa):=
 (a_ aM I).bind λU=>(a_ bG.Body I).bind λai=>cond (ai.Kind==4) (Gh oS I R aM bG ai (i64.wrap (R.scope+1))) (Gh oS I R aM bG ai R.scope)
def xh:Nat->Int->dv->asa->bg->Option (Int×asa)
 |0,_,_,_,_=>none
 |n+1,I,R,aM,bG=>LU (xh n) I R aM bG
def Gi (I:Int) (R:dv) (aM:asa) (bG:bg):Option (Int×asa):=
 bU λn=>xh n I R aM bG
def vn (I:bg):Option asa:=
 (l0 16 (I.Body.length:Int)).bind λ_=>(Gi 0 (dv.mk I.bW false) (replicate (Int.toNat (I.Body.length:Int)) (dv.mk 0 false)) I).bind λU=>some U.2
def LV (I:bk):arI:=
 (jD I.Kind 0 5).bind λU=>some (((U&&(((I.Kind==4)||(I.Kind==5))||(I.Number==0)))&&((I.Kind==1)||(I.Name==([]:arE))))&&((((I.Kind==1)||(I.Kind==3))||(I.Kind==5))||((I.a9.length:Int)==0)))
def pJ (I:arE):arI:=
 (CE I).bind λU=>some (U&&(!(I==([116,97,117]:arE))))
def xi (I R:Int):arI:=
 (jD I 0 (i64.wrap (R-1))).bind λU=>some U
def LW (I:bk) (R:arW):arI:=
 cond (I.Kind==1) (some (((I.a9.length:Int)==0)||((!(I.Name==([116,97,117]:arE)))&&(decide ((I.a9.length:Int)<=2))))) (cond (I.Kind==3) (some ((I.a9.length:Int)==1)) (cond (I.Kind==5) ((a_ R I.Number).bind λU=>some ((I.a9.length:Int)==U.bW)) (some true)))
def CJ (I:Int):arI:=
 (jD I 0 63).bind λU=>some U
def Gj (I:aF) (R:Int):arI:=
 cond (I.Kind==0) ((CJ I.Value).bind λU=>some U) (cond (I.Kind==1) ((jD I.Value 0 (i64.wrap (R-1))).bind λai=>some ai) (cond (I.Kind==2) ((jD I.Value 0 8).bind λaB=>some aB) (cond (I.Kind==3) (some (I.Value==0)) (some false))))
def LX (I:aF):arJ:=
 cond (I.Kind==2) (some 2) (cond (I.Kind==3) (some 1) (some 0))
def LY (js:Int->Int->arI) (I:arU) (R jg sY:Int):arI:=
 cond (decide (sY<(I.length:Int))) ((a_ I sY).bind λa7=>cond (jg==0) (some false) ((Gj a7 R).bind λaP=>cond (!aP) (some false) ((LX a7).bind λaV=>js (i64.wrap (jg+(i64.wrap (aV-1)))) (i64.wrap (sY+1))))) (some (jg==0))
def zn (I:arU) (R:Int):Nat->Int->Int->arI
 |0,_,_=>none
 |n+1,jg,sY=>LY (zn I R n) I R jg sY
def CK (I:arU) (R aM:Int):arI:=
 (jD R 0 29).bind λU=>cond (!U) (some false) ((jD aM 1 60).bind λai=>cond (!ai) (some false) ((jD (I.length:Int) 1 aM).bind λaB=>cond (!aB) (some false) (bU λn=>zn I R n 1 0)))
def LZ (I:arU) (R:dv):arI:=
 (CK I R.scope 15).bind λU=>some (!U)
def L0 (dj:Int->arJ) (I:arO) (R:dv) (cI:Int):arJ:=
 cond (decide (cI<(I.length:Int))) ((a_ I cI).bind λU=>(LZ U R).bind λai=>cond ai (some cI) (dj (i64.wrap (cI+1)))) (some (-1))
def CL (I:arO) (R:dv):Nat->Int->arJ
 |0,_=>none
 |n+1,cI=>L0 (CL I R n) I R cI
def L1 (I:arO) (R:dv):arJ:=
 bU λn=>CL I R n 0
def Gk (I:arO) (R:dv):arI:=
 (L1 I R).bind λU=>some (decide (0<=U))
def xj (I:bk) (R:arW) (aM:dv) (CM:Bool):arJ:=
 cond CM (some 4) ((LW I R).bind λai=>cond (!ai) (some 5) (cond ((I.Kind==5)&&(!aM.behind)) (some 6) (cond ((I.Kind==4)&&(decide (6<=aM.scope))) (some 7) ((Gk I.a9 aM).bind λaB=>cond aB (some 8) (some 0)))))
def CN (I:bk) (R:arW) (aM:dv) (CO:Bool):arJ:=
 cond CO (some 3) (cond (I.Kind==4) ((jD I.Number 1 7).bind λa7=>cond (!a7) (xj I R aM true) (cond (I.Kind==5) ((xi I.Number (R.length:Int)).bind λaP=>xj I R aM (!aP)) (xj I R aM false))) (cond (I.Kind==5) ((xi I.Number (R.length:Int)).bind λaV=>xj I R aM (!aV)) (xj I R aM false)))
def CP (I:bk) (R:arW) (aM:dv):arJ:=
 (LV I).bind λU=>cond (!U) (some 2) (cond (I.Kind==1) (cond (!(I.Name==([116,97,117]:arE))) ((pJ I.Name).bind λbp=>CN I R aM (!bp)) (CN I R aM false)) (CN I R aM false))
def Gl (js:Int->Option (Int×Int)) (I:arW) (R:bg) (aB:asa) (pK:Int):Option (Int×Int):=
 cond (decide (pK<(R.Body.length:Int))) ((a_ R.Body pK).bind λa7=>(a_ aB pK).bind λaP=>(CP a7 I aP).bind λaV=>cond (aV !=0) (some (pK,aV)) (js (i64.wrap (pK+1)))) (some (0,0))
def xk (I:arW) (R:bg) (aB:asa):Nat->Int->Option (Int×Int)
 |0,_=>none
 |n+1,pK=>Gl (xk I R aB n) I R aB pK
def CQ (I:arW) (R:bg):Option (Int×Int):=
 (jD (R.Body.length:Int) 1 20).bind λU=>cond (!U) (some (0,1)) ((CI R 0).bind λai=>cond (ai !=(R.Body.length:Int)) (some (0,1)) ((vn R).bind λaB=>bU λn=>xk I R aB n 0))
def L2 (ga:Int->arI) (I:arW) (qB:Int):arI:=
 cond (decide (qB<(I.length:Int))) ((a_ I qB).bind λaB=>(CE aB.Name).bind λa7=>cond (!a7) (some false) ((jY I 0 qB).bind λaP=>(Gg aP aB.Name).bind λaV=>cond (decide (0<=aV)) (some false) ((CQ I aB).bind λbp=>cond (bp.2 !=0) (some false) (ga (i64.wrap (qB+1)))))) (some true)
def zo (I:arW):Nat->Int->arI
 |0,_=>none
 |n+1,qB=>L2 (zo I n) I qB
def Gm (I:arW):arI:=
 (jD (I.length:Int) 1 4).bind λU=>cond (!U) (some false) ((Ge I).bind λai=>cond (!ai) (some false) (bU λn=>zo I n 0))
def Gn (I:Int):arI:=
 (CJ I).bind λU=>some (!U)
def Gp (dj:Int->arJ) (I:arG) (cI:Int):arJ:=
 cond (decide (cI<(I.length:Int))) ((a_ I cI).bind λU=>(Gn U).bind λai=>cond ai (some cI) (dj (i64.wrap (cI+1)))) (some (-1))
def zp (I:arG):Nat->Int->arJ
 |0,_=>none
 |n+1,cI=>Gp (zp I n) I cI
def Gq (I:arG):arJ:=
 bU λn=>zp I n 0
def Gr (I:arG):arI:=
 (Gq I).bind λU=>some (decide (0<=U))
def zq (I:arG):arI:=
 (Gr I).bind λU=>some (!U)
def Gs (I:arW) (R:dn):arI:=
 (xi R.gl (I.length:Int)).bind λU=>cond U ((a_ I R.gl).bind λai=>cond ((R.e7.length:Int)==ai.bW) ((zq R.e7).bind λaB=>some aB) (some false)) (some false)
def L3 (I:dn) (R:cG):arI:=
 (Gs R.aC I).bind λU=>some (!U)
def L4 (dj:Int->arJ) (I:arX) (R:cG) (cI:Int):arJ:=
 cond (decide (cI<(I.length:Int))) ((a_ I cI).bind λU=>(L3 U R).bind λai=>cond ai (some cI) (dj (i64.wrap (cI+1)))) (some (-1))
def CR (I:arX) (R:cG):Nat->Int->arJ
 |0,_=>none
 |n+1,cI=>L4 (CR I R n) I R cI
def L5 (I:arX) (R:cG):arJ:=
 bU λn=>CR I R n 0
def Gt (I:arX) (R:cG):arI:=
 (L5 I R).bind λU=>some (decide (0<=U))
def Gu (I:arE):arI:=
 some false
def Gv (I R:arE):arJ:=
 (Gu I).bind λU=>(Gu R).bind λai=>cond U (cond ai (some 0) (some (-1))) (cond ai (some 1) (cond (Op.bytesLess I R) (some (-1)) (cond (!(Op.bytesLess I R||I==R)) (some 1) (some 0))))
def TG (dj:Int->arJ) (I R:arD) (qC:Int):arJ:=
 cond (decide (qC<(I.length:Int))) ((a_ I qC).bind λU=>cond (decide ((R.length:Int)<=qC)) (some 1) ((a_ R qC).bind λai=>(Gv U ai).bind λaB=>cond (aB !=0) (some aB) (dj (i64.wrap (qC+1))))) (cond (decide ((I.length:Int)<(R.length:Int))) (some (-1)) (some 0))
def Gw (I R:arD):Nat->Int->arJ
 |0,_=>none
 |n+1,qC=>TG (Gw I R n) I R qC
def Gx (I R:arD):arJ:=
 bU λn=>Gw I R n 0
def Gy (I R:cq):arJ:=
 (Gx [I.Left,I.ct] [R.Left,R.ct]).bind λU=>some U
def L6 (I R:cq):arI:=
 some ((I.Left==R.Result)||(I.ct==R.Result))
def L7 (dj:Int->arJ) (I:arY) (R:cq) (cI:Int):arJ:=
 cond (decide (cI<(I.length:Int))) ((a_ I cI).bind λU=>(L6 U R).bind λai=>cond ai (some cI) (dj (i64.wrap (cI+1)))) (some (-1))
def CS (I:arY) (R:cq):Nat->Int->arJ
 |0,_=>none
 |n+1,cI=>L7 (CS I R n) I R cI
def L8 (I:arY) (R:cq):arJ:=
 bU λn=>CS I R n 0
def CT (I:arY) (R:cq):arI:=
 (L8 I R).bind λU=>some (decide (0<=U))
def L9 (dj:Int->arI) (I:arY) (dW:Int):arI:=
 cond (decide (dW<(I.length:Int))) ((a_ I dW).bind λU=>(pJ U.Left).bind λaP=>cond (!aP) (some false) ((pJ U.ct).bind λaV=>cond (!aV) (some false) ((pJ U.Result).bind λbp=>cond (!bp) (some false) (cond (!(Op.bytesLess U.Left U.ct||U.Left==U.ct)) (some false) (cond (decide (0<dW)) ((a_ I (i64.wrap (dW-1))).bind λcp=>(Gy cp U).bind λdi=>cond (decide (0<=di)) (some false) ((CT I U).bind λcE=>cond cE (some false) (dj (i64.wrap (dW+1))))) ((CT I U).bind λde=>cond de (some false) (dj (i64.wrap (dW+1))))))))) (some (decide ((I.length:Int)<=6)))
def zr (I:arY):Nat->Int->arI
 |0,_=>none
 |n+1,dW=>L9 (zr I n) I dW
def Gz (I:arY):arI:=
 bU λn=>zr I n 0
def L_ (dj:Int->arI) (I:arD) (dW:Int):arI:=
 cond (decide (dW<(I.length:Int))) ((a_ I dW).bind λU=>(pJ U).bind λai=>cond (!ai) (some false) (cond (decide (0<dW)) ((a_ I (i64.wrap (dW-1))).bind λaB=>cond (Op.bytesLess U aB||U==aB) (some false) (dj (i64.wrap (dW+1)))) (dj (i64.wrap (dW+1))))) (some (decide ((I.length:Int)<=12)))
def zs (I:arD):Nat->Int->arI
 |0,_=>none
 |n+1,dW=>L_ (zs I n) I dW
def CU (I:arD):arI:=
 bU λn=>zs I n 0
def GA (I:cG):arJ:=
 (Gm I.aC).bind λU=>cond (!U) (some 1) ((jD (I.b7.length:Int) 1 3).bind λai=>cond (!ai) (some 2) ((Gt I.b7 I).bind λaB=>cond aB (some 2) ((Gz I.hA).bind λa7=>cond (!a7) (some 3) ((CU I.hg).bind λaP=>cond (!aP) (some 4) ((CU I.hh).bind λaV=>cond (!aV) (some 5) (some 0))))))
def GB (I:cG):arI:=
 (GA I).bind λU=>some (U==0)
def aqf:arG:=[0,0]
def xl (dx:(List arG)->Int->Option ((List arG))) (zt:(List arG)->Int->Int->Int->Option ((List arG))) (I:cG) (U:bg) (ai:asa) (py:List arG) (pz zu zv:Int):Option ((List arG)):=
 zt py pz zu (i64.wrap (zv+1))
def GC (dx:(List arG)->Int->Option ((List arG))) (zt:(List arG)->Int->Int->Int->Option ((List arG))) (I:cG) (U:bg) (ai:asa) (lL:List arG) (i4 mH il:Int):Option ((List arG)):=
 cond (decide (il<(ai.length:Int))) ((a_ ai il).bind λaB=>cond (il==0) ((room 24 (lL.length+1)).bind λ_=>xl dx zt I U ai (lL++[[i4,il]]) i4 mH il) (cond aB.behind ((a_ U.Body il).bind λa7=>cond (a7.Kind !=5) ((room 24 (lL.length+1)).bind λ_=>xl dx zt I U ai (lL++[[i4,il]]) i4 mH il) (xl dx zt I U ai lL i4 mH il)) (xl dx zt I U ai lL i4 mH il))) (dx lL (i64.wrap (mH+1)))
def tV (dx:(List arG)->Int->Option ((List arG))) (I:cG) (U:bg) (ai:asa):Nat->(List arG)->Int->Int->Int->Option ((List arG))
 |0,_,_,_,_=>none
 |n+1,lL,i4,mH,il=>GC dx (tV dx I U ai n) I U ai lL i4 mH il
def Ma (dx:(List arG)->Int->Option ((List arG))) (I:cG) (bA:List arG) (e5:Int):Option ((List arG)):=
 cond (decide (e5<(I.aC.length:Int))) ((a_ I.aC e5).bind λU=>(vn U).bind λai=>bU λn=>tV dx I U ai n bA e5 e5 0) (some bA)
def tW (I:cG):Nat->(List arG)->Int->Option ((List arG))
 |0,_,_=>none
 |n+1,bA,e5=>Ma (tW I n) I bA e5
def GD (I:cG):Option ((List arG)):=
 bU λn=>tW I n [] 0
def CV (I:hS) (R:arG):arJ:=
 (a_ R 0).bind λU=>(a_ I.s.aC U).bind λai=>(vn ai).bind λaB=>(a_ R 1).bind λa7=>(a_ aB a7).bind λaP=>some aP.scope
def Mb (I:arG) (R aM:Int):arI:=
 (a_ I 0).bind λU=>cond (U==R) ((a_ I 1).bind λai=>some (ai==aM)) (some false)
def Mc (dj:Int->arJ) (I:List arG) (e_ fa cI:Int):arJ:=
 cond (decide (cI<(I.length:Int))) ((a_ I cI).bind λU=>(Mb U e_ fa).bind λai=>cond ai (some cI) (dj (i64.wrap (cI+1)))) (some (-1))
def zw (I:List arG) (e_ fa:Int):Nat->Int->arJ
 |0,_=>none
 |n+1,cI=>Mc (zw I e_ fa n) I e_ fa cI
def Md (I:List arG) (e_ fa:Int):arJ:=
 bU λn=>zw I e_ fa n 0
def zx (I:hS) (R aM:Int):arJ:=
 (Md I.places R aM).bind λU=>some U
def CW (I:arG):Option arG:=
 cond I.isEmpty (both (some []) ((room 8 (I.length)).bind λ_=>some I)) ((room 8 (I.length)).bind λ_=>some I)
def Me (I R:Int) (aM:hS):Option arU:=
 cond (decide (I<R)) (some [(aF.mk 1 (i64.wrap (1+I)))]) (some [(aF.mk 1 (i64.wrap ((i64.wrap (aM.out.bW+I))-R)))])
def xm (dx:arU->Int->Option arU) (I:arU) (e_:Int) (fa:hS) (nE nF:arU) (oh:Int):Option arU:=
 (room 16 (nE.length+nF.length)).bind λ_=>dx (nE++nF) (i64.wrap (oh+1))
def Mf (dx:arU->Int->Option arU) (I:arU) (e_:Int) (fa:hS) (gm:arU) (e5:Int):Option arU:=
 cond (decide (e5<(I.length:Int))) ((a_ I e5).bind λU=>cond (U.Kind==1) ((Me U.Value e_ fa).bind λai=>cond ai.isEmpty (both (xm dx I e_ fa gm [U] e5) (xm dx I e_ fa gm ai e5)) (xm dx I e_ fa gm ai e5)) (xm dx I e_ fa gm [U] e5)) (some gm)
def vo (I:arU) (e_:Int) (fa:hS):Nat->arU->Int->Option arU
 |0,_,_=>none
 |n+1,gm,e5=>Mf (vo I e_ fa n) I e_ fa gm e5
def Mg (I:arU) (e_:Int) (fa:hS):Option arU:=
 bU λn=>vo I e_ fa n [] 0
def GF (I:hS) (R:arU) (aM:Int):Option arU:=
 (Mg R aM I).bind λU=>some U
def Mh (dx:arO->Int->Option arO) (I:hS) (R:arO) (aM:Int) (iF:arO) (qD:Int):Option arO:=
 cond (decide (qD<(R.length:Int))) ((a_ R qD).bind λU=>(GF I U aM).bind λai=>(room 24 (iF.length+1)).bind λ_=>dx (iF++[ai]) (i64.wrap (qD+1))) (some iF)
def zy (I:hS) (R:arO) (aM:Int):Nat->arO->Int->Option arO
 |0,_,_=>none
 |n+1,iF,qD=>Mh (zy I R aM n) I R aM iF qD
def vp (I:hS) (R:arO) (aM:Int):Option arO:=
 bU λn=>zy I R aM n [] 0
def GG (I:arU):Option arU:=
 cond I.isEmpty (both (some []) ((room 16 (I.length)).bind λ_=>some I)) ((room 16 (I.length)).bind λ_=>some I)
def GH:Option arU:=
 some []
def Mi (R:Int):Option arU:=
 cond (decide (0<(i64.wrap (R-(i64.wrap 0))))) ((l0 16 (i64.wrap (R-(i64.wrap 0)))).bind λ_=>GH) (GH)
def GI (R:Int):Option arU:=
 cond (decide (R<0)) (none) (Mi R)
def Mj (dx:Int->Int->Option arU) (I:arO) (lM lN:Int) (oT:Bool):Option arU:=
 dx lM (i64.wrap (lN+1))
def Mk (pL:arU->Int->Option arU) (I:arO) (fu:arU) (gL:Int):Option arU:=
 cond (decide (gL<(I.length:Int))) ((a_ I gL).bind λaB=>(room 16 (fu.length+aB.length)).bind λ_=>pL (fu++aB) (i64.wrap (gL+1))) (some fu)
def xn (I:arO):Nat->arU->Int->Option arU
 |0,_,_=>none
 |n+1,fu,gL=>Mk (xn I n) I fu gL
def Ml (dx:Int->Int->Option arU) (I:arO) (bA e5:Int):Option arU:=
 cond (decide (e5<(I.length:Int))) ((a_ I e5).bind λU=>cond (decide ((i64.wrap (bA+(U.length:Int)))<0)) (none) (Mj dx I (i64.wrap (bA+(U.length:Int))) e5 (decide ((i64.wrap (bA+(U.length:Int)))<0)))) ((GI bA).bind λai=>bU λn=>xn I n ai 0)
def xo (I:arO):Nat->Int->Int->Option arU
 |0,_,_=>none
 |n+1,bA,e5=>Ml (xo I n) I bA e5
def GJ (I:arO):Option arU:=
 bU λn=>xo I n 0 0
def GK (GL:arO->Option arU) (I:arO):Option arU:=
 cond ((I.length:Int)==0) (some [(aF.mk 0 1)]) (cond ((I.length:Int)==1) ((a_ I 0).bind λU=>(GG U).bind λai=>some ai) ((a_ I 0).bind λaB=>(jY I 1 (I.length:Int)).bind λa7=>(GL a7).bind λaP=>(GJ [[(aF.mk 2 7)],aB,aP]).bind λaV=>some aV))
def xp:Nat->arO->Option arU
 |0,_=>none
 |n+1,I=>GK (xp n) I
def GM (I:arO):Option arU:=
 bU λn=>xp n I
def CX (I:Int):Option arU:=
 some [(aF.mk 0 I)]
def GN:Option Unit:=
 some ()
def Mm (R:Int):Option Unit:=
 cond (decide (0<(i64.wrap (R-(i64.wrap 0))))) ((l0 24 (i64.wrap (R-(i64.wrap 0)))).bind λ_=>GN) (GN)
def CY (R:Int):Option Unit:=
 cond (decide (R<0)) (none) (Mm R)
def Mn (dx:Int->Int->Option arO) (I:List arO) (lM lN:Int) (oT:Bool):Option arO:=
 dx lM (i64.wrap (lN+1))
def Mo (pL:arO->Int->Option arO) (I:List arO) (fu:arO) (gL:Int):Option arO:=
 cond (decide (gL<(I.length:Int))) ((a_ I gL).bind λaB=>(room 24 (fu.length+aB.length)).bind λ_=>pL (fu++aB) (i64.wrap (gL+1))) (some fu)
def xq (I:List arO):Nat->arO->Int->Option arO
 |0,_,_=>none
 |n+1,fu,gL=>Mo (xq I n) I fu gL
def Mp (dx:Int->Int->Option arO) (I:List arO) (bA e5:Int):Option arO:=
 cond (decide (e5<(I.length:Int))) ((a_ I e5).bind λU=>cond (decide ((i64.wrap (bA+(U.length:Int)))<0)) (none) (Mn dx I (i64.wrap (bA+(U.length:Int))) e5 (decide ((i64.wrap (bA+(U.length:Int)))<0)))) ((CY bA).bind λai=>bU λn=>xq I n [] 0)
def xr (I:List arO):Nat->Int->Int->Option arO
 |0,_,_=>none
 |n+1,bA,e5=>Mp (xr I n) I bA e5
def GO (I:List arO):Option arO:=
 bU λn=>xr I n 0 0
def Mq (dx:Int->Int->Option arO) (I:List arO) (lM lN:Int) (oT:Bool):Option arO:=
 dx lM (i64.wrap (lN+1))
def Mr (pL:(List (Bool×arO))->arO->Int->Option arO) (I:List arO) (qE:List (Bool×arO)) (fu:arO) (gL:Int):Option arO:=
 cond (decide (gL<(I.length:Int))) ((a_ qE gL).bind λaB=>(Iq (!aB.1)).bind λ_=>(room 24 (fu.length+aB.2.length)).bind λ_=>pL (List.set qE (Int.toNat gL) (true,aB.2)) (fu++aB.2) (i64.wrap (gL+1))) (some fu)
def xt (I:List arO):Nat->(List (Bool×arO))->arO->Int->Option arO
 |0,_,_,_=>none
 |n+1,qE,fu,gL=>Mr (xt I n) I qE fu gL
def Ms (dx:Int->Int->Option arO) (I:List arO) (bA e5:Int):Option arO:=
 cond (decide (e5<(I.length:Int))) ((a_ I e5).bind λU=>cond (decide ((i64.wrap (bA+(U.length:Int)))<0)) (none) (Mq dx I (i64.wrap (bA+(U.length:Int))) e5 (decide ((i64.wrap (bA+(U.length:Int)))<0)))) ((CY bA).bind λai=>bU λn=>xt I n (map (λx=>(false,x)) I) [] 0)
def xu (I:List arO):Nat->Int->Int->Option arO
 |0,_,_=>none
 |n+1,bA,e5=>Ms (xu I n) I bA e5
def GP (I:List arO):Option arO:=
 bU λn=>xu I n 0 0
def TH (dj:arO->Option arO) (cW:arW) (c1:arX) (cX:arY) (db c9:arD) (dB:List arG) (dD:Int) (dI:arG) (dE:arZ) (dW:arO):Option arO:=
 cond (decide ((dW.length:Int)<dD)) ((CX 0).bind λaB=>(room 24 (dW.length+1)).bind λ_=>dj (dW++[aB])) (some dW)
def CZ (cW:arW) (c1:arX) (cX:arY) (db c9:arD) (dB:List arG) (dD:Int) (dI:arG) (dE:arZ):Nat->arO->Option arO
 |0,_=>none
 |n+1,dW=>TH (CZ cW c1 cX db c9 dB dD dI dE n) cW c1 cX db c9 dB dD dI dE dW
def zz (cW:arW) (c1:arX) (cX:arY) (db c9:arD) (dB:List arG) (dD:Int) (dI:arG) (dE:arZ) (R:Int) (aM:arO):Option arO:=
 (CX R).bind λU=>(GP [[U],aM]).bind λai=>bU λn=>CZ cW c1 cX db c9 dB dD dI dE n ai
def Mt (I:Int):Option arU:=
 some [(aF.mk 1 I)]
def xv (cW:arW) (c1:arX) (cX:arY) (db c9:arD) (dB:List arG) (dD:Int) (dI:arG) (dE:arZ) (aP:bk) (bp:arG) (cp:arO) (cE:arU) (zA:arO):Option (arW×arX×arY×arD×arD×(List arG)×Int×arG×arZ):=
 (room 112 (dE.length+1)).bind λ_=>some (cW,c1,cX,db,c9,dB,dD,dI,(dE++[(bH.mk bp cE aP.Name cp zA)]))
def Mu (adE:arO->Int->Option (arW×arX×arY×arD×arD×(List arG)×Int×arG×arZ)) (aM:Int) (cW:arW) (c1:arX) (cX:arY) (db c9:arD) (dB:List arG) (dD:Int) (dI:arG) (dE:arZ) (ai aB:Int) (aP:bk) (bp:arG) (cp:arO) (cE:arU) (ik:dv) (pM:arO) (pN:Int):Option (arW×arX×arY×arD×arD×(List arG)×Int×arG×arZ):=
 cond (decide (pN<ik.scope)) ((Mt pN).bind λkH=>(room 24 (pM.length+1)).bind λ_=>adE (pM++[kH]) (i64.wrap (pN+1))) ((zx (hS.mk (cG.mk cW c1 cX db c9) dB (cr.mk dD dI dE)) ai (i64.wrap (aM+1))).bind λkI=>(vp (hS.mk (cG.mk cW c1 cX db c9) dB (cr.mk dD dI dE)) pM aB).bind λi3=>(zz cW c1 cX db c9 dB dD dI dE kI i3).bind λme=>xv cW c1 cX db c9 dB dD dI dE aP bp cp cE me)
def zB (aM:Int) (cW:arW) (c1:arX) (cX:arY) (db c9:arD) (dB:List arG) (dD:Int) (dI:arG) (dE:arZ) (ai aB:Int) (aP:bk) (bp:arG) (cp:arO) (cE:arU) (ik:dv):Nat->arO->Int->Option (arW×arX×arY×arD×arD×(List arG)×Int×arG×arZ)
 |0,_,_=>none
 |n+1,pM,pN=>Mu (zB aM cW c1 cX db c9 dB dD dI dE ai aB aP bp cp cE ik n) aM cW c1 cX db c9 dB dD dI dE ai aB aP bp cp cE ik pM pN
def GQ (cW:arW) (c1:arX) (cX:arY) (db c9:arD) (dB:List arG) (dD:Int) (dI:arG) (dE:arZ) (R aM:Int) (bG:fE):Option (arW×arX×arY×arD×arD×(List arG)×Int×arG×arZ):=
 (a_ dB R).bind λU=>(a_ U 0).bind λai=>(CV (hS.mk (cG.mk cW c1 cX db c9) dB (cr.mk dD dI dE)) U).bind λaB=>(a_ cW ai).bind λa7=>(a_ a7.Body aM).bind λaP=>(a_ a7.Body (i64.wrap (aM+1))).bind λaV=>(CW bG.hB).bind λbp=>(vp (hS.mk (cG.mk cW c1 cX db c9) dB (cr.mk dD dI dE)) aP.a9 aB).bind λcp=>(vp (hS.mk (cG.mk cW c1 cX db c9) dB (cr.mk dD dI dE)) bG.guards aB).bind λdi=>(room 24 (1+di.length)).bind λ_=>(GM ([[(aF.mk 2 3),(aF.mk 1 0),(aF.mk 0 R)]]++di)).bind λcE=>cond (aV.Kind==5) ((zx (hS.mk (cG.mk cW c1 cX db c9) dB (cr.mk dD dI dE)) aV.Number 0).bind λde=>(vp (hS.mk (cG.mk cW c1 cX db c9) dB (cr.mk dD dI dE)) aV.a9 aB).bind λgx=>(zz cW c1 cX db c9 dB dD dI dE de gx).bind λeK=>xv cW c1 cX db c9 dB dD dI dE aP bp cp cE eK) ((vn a7).bind λgA=>(a_ gA (i64.wrap (aM+1))).bind λik=>bU λn=>zB aM cW c1 cX db c9 dB dD dI dE ai aB aP bp cp cE ik n [] 0)
def GR (I:arO):Option arO:=
 cond I.isEmpty (both (some []) ((room 24 (I.length)).bind λ_=>some I)) ((room 24 (I.length)).bind λ_=>some I)
def Mv (xw:arW->arX->arY->arD->arD->(List arG)->Int->arG->arZ->Int->Int->fE->Option (arW×arX×arY×arD×arD×(List arG)×Int×arG×arZ)) (cW:arW) (c1:arX) (cX:arY) (db c9:arD) (dB:List arG) (dD:Int) (dI:arG) (dE:arZ) (R aM:Int) (bG:fE):Option (arW×arX×arY×arD×arD×(List arG)×Int×arG×arZ):=
 (a_ dB R).bind λU=>(a_ U 0).bind λai=>(a_ cW ai).bind λaB=>(a_ aB.Body aM).bind λa7=>cond (a7.Kind==1) ((GQ cW c1 cX db c9 dB dD dI dE R aM bG).bind λaP=>some (aP.1,aP.2.1,aP.2.2.1,aP.2.2.2.1,aP.2.2.2.2.1,aP.2.2.2.2.2.1,aP.2.2.2.2.2.2.1,aP.2.2.2.2.2.2.2.1,aP.2.2.2.2.2.2.2.2)) (cond (a7.Kind==2) ((xw cW c1 cX db c9 dB dD dI dE R (i64.wrap (aM+1)) bG).bind λaV=>(CI aB (i64.wrap (aM+1))).bind λbp=>(xw aV.1 aV.2.1 aV.2.2.1 aV.2.2.2.1 aV.2.2.2.2.1 aV.2.2.2.2.2.1 aV.2.2.2.2.2.2.1 aV.2.2.2.2.2.2.2.1 aV.2.2.2.2.2.2.2.2 R bp bG).bind λcp=>some (cp.1,cp.2.1,cp.2.2.1,cp.2.2.2.1,cp.2.2.2.2.1,cp.2.2.2.2.2.1,cp.2.2.2.2.2.2.1,cp.2.2.2.2.2.2.2.1,cp.2.2.2.2.2.2.2.2)) (cond (a7.Kind==3) ((GR bG.guards).bind λdi=>(a_ a7.a9 0).bind λcE=>(room 24 (di.length+1)).bind λ_=>(xw cW c1 cX db c9 dB dD dI dE R (i64.wrap (aM+1)) (fE.mk bG.hB (di++[cE]))).bind λde=>some (de.1,de.2.1,de.2.2.1,de.2.2.2.1,de.2.2.2.2.1,de.2.2.2.2.2.1,de.2.2.2.2.2.2.1,de.2.2.2.2.2.2.2.1,de.2.2.2.2.2.2.2.2)) (cond (a7.Kind==4) ((CW bG.hB).bind λgx=>(room 8 (gx.length+1)).bind λ_=>(xw cW c1 cX db c9 dB dD dI dE R (i64.wrap (aM+1)) (fE.mk (gx++[a7.Number]) bG.guards)).bind λeK=>some (eK.1,eK.2.1,eK.2.2.1,eK.2.2.2.1,eK.2.2.2.2.1,eK.2.2.2.2.2.1,eK.2.2.2.2.2.2.1,eK.2.2.2.2.2.2.2.1,eK.2.2.2.2.2.2.2.2)) (some (cW,c1,cX,db,c9,dB,dD,dI,dE)))))
def zC:Nat->arW->arX->arY->arD->arD->(List arG)->Int->arG->arZ->Int->Int->fE->Option (arW×arX×arY×arD×arD×(List arG)×Int×arG×arZ)
 |0,_,_,_,_,_,_,_,_,_,_,_,_=>none
 |n+1,cW,c1,cX,db,c9,dB,dD,dI,dE,R,aM,bG=>Mv (zC n) cW c1 cX db c9 dB dD dI dE R aM bG
def GS (cW:arW) (c1:arX) (cX:arY) (db c9:arD) (dB:List arG) (dD:Int) (dI:arG) (dE:arZ) (R aM:Int) (bG:fE):Option (arW×arX×arY×arD×arD×(List arG)×Int×arG×arZ):=
 bU λn=>zC n cW c1 cX db c9 dB dD dI dE R aM bG
def GU (I:cr) (R:arG):arI:=
 cond ((R.length:Int)==I.bW) ((zq R).bind λU=>some U) (some false)
def Mw (dx:Int->Int->arI) (I:bH) (bA sZ:Int):arI:=
 cond (decide (sZ<(I.cx.length:Int))) ((a_ I.cx sZ).bind λU=>(jD U 1 7).bind λai=>cond (!ai) (some false) (dx (i64.wrap (bA*(i64.wrap (U+1)))) (i64.wrap (sZ+1)))) (some ((decide ((I.cx.length:Int)<=8))&&(decide (bA<=4096))))
def zD (I:bH):Nat->Int->Int->arI
 |0,_,_=>none
 |n+1,bA,sZ=>Mw (zD I n) I bA sZ
def GV (I:bH):arI:=
 bU λn=>zD I n 1 0
def zE (I:bH):Option arO:=
 (GO [[I.Guard],I.a9,I.Next]).bind λU=>some U
def GW (I:arU) (R:Int) (aM:bH):arI:=
 (CK I (i64.wrap (R+(aM.cx.length:Int))) 60).bind λU=>some (!U)
def TI (dj:Int->arJ) (I:arO) (e_:Int) (fa:bH) (cI:Int):arJ:=
 cond (decide (cI<(I.length:Int))) ((a_ I cI).bind λU=>(GW U e_ fa).bind λai=>cond ai (some cI) (dj (i64.wrap (cI+1)))) (some (-1))
def GX (I:arO) (e_:Int) (fa:bH):Nat->Int->arJ
 |0,_=>none
 |n+1,cI=>TI (GX I e_ fa n) I e_ fa cI
def Mx (I:arO) (e_:Int) (fa:bH):arJ:=
 bU λn=>GX I e_ fa n 0
def xx (I:arO) (e_:Int) (fa:bH):arI:=
 (Mx I e_ fa).bind λU=>some (decide (0<=U))
def GY (I:bH) (R:Int):arI:=
 (GV I).bind λU=>cond ((!U)||((I.Next.length:Int) !=R)) (some false) (cond (decide (0<(I.a9.length:Int))) (cond (I.Name==([116,97,117]:arE)) (some false) (cond (decide (2<(I.a9.length:Int))) (some false) ((pJ I.Name).bind λai=>cond (!ai) (some false) ((zE I).bind λaB=>(xx aB R I).bind λa7=>some (!a7))))) (cond (!(I.Name==([116,97,117]:arE))) ((pJ I.Name).bind λaP=>cond (!aP) (some false) ((zE I).bind λaV=>(xx aV R I).bind λbp=>some (!bp))) ((zE I).bind λcp=>(xx cp R I).bind λdi=>some (!di))))
def GZ (I:bH) (R:cr):arI:=
 (GY I R.bW).bind λU=>some (!U)
def TJ (dj:Int->arJ) (I:arZ) (R:cr) (cI:Int):arJ:=
 cond (decide (cI<(I.length:Int))) ((a_ I cI).bind λU=>(GZ U R).bind λai=>cond ai (some cI) (dj (i64.wrap (cI+1)))) (some (-1))
def G0 (I:arZ) (R:cr):Nat->Int->arJ
 |0,_=>none
 |n+1,cI=>TJ (G0 I R n) I R cI
def My (I:arZ) (R:cr):arJ:=
 bU λn=>G0 I R n 0
def Mz (I:arZ) (R:cr):arI:=
 (My I R).bind λU=>some (decide (0<=U))
def C0 (I:cr):arI:=
 (jD I.bW 0 21).bind λU=>cond (!U) (some false) ((GU I I.Start).bind λai=>cond ((!ai)||(decide (60<(I.g3.length:Int)))) (some false) ((Mz I.g3 I).bind λaB=>some (!aB)))
def MA (adF:cG->(List arG)->Int->arG->arZ->Int->Option (cr×Bool)) (U:(List arG)) (nG:cG) (vq:List arG) (pO:Int) (pP:arG) (pQ:arZ) (oU:Int):Option (cr×Bool):=
 cond (decide (oU<(U.length:Int))) ((a_ U oU).bind λaP=>(a_ aP 1).bind λaV=>(GS nG.aC nG.b7 nG.hA nG.hg nG.hh vq pO pP pQ oU aV (fE.mk [] [])).bind λbp=>adF (cG.mk bp.1 bp.2.1 bp.2.2.1 bp.2.2.2.1 bp.2.2.2.2.1) bp.2.2.2.2.2.1 bp.2.2.2.2.2.2.1 bp.2.2.2.2.2.2.2.1 bp.2.2.2.2.2.2.2.2 (i64.wrap (oU+1))) ((C0 (cr.mk pO pP pQ)).bind λcp=>some ((cr.mk pO pP pQ),cp))
def vr (U:(List arG)):Nat->cG->(List arG)->Int->arG->arZ->Int->Option (cr×Bool)
 |0,_,_,_,_,_,_=>none
 |n+1,nG,vq,pO,pP,pQ,oU=>MA (vr U n) U nG vq pO pP pQ oU
def TK (pL:Int->arG->Option (cr×Bool)) (I:cG) (U:(List arG)) (oV:Int) (fu:arG):Option (cr×Bool):=
 cond (decide ((fu.length:Int)<oV)) ((room 8 (fu.length+1)).bind λ_=>pL oV (fu++[0])) (bU λn=>vr U n I U oV fu [] 0)
def C1 (I:cG) (U:(List arG)):Nat->Int->arG->Option (cr×Bool)
 |0,_,_=>none
 |n+1,oV,fu=>TK (C1 I U n) I U oV fu
def MB (js:Int->Int->Option (cr×Bool)) (I:cG) (R:dn) (U:(List arG)) (nH rN:Int):Option (cr×Bool):=
 cond (decide (rN<(U.length:Int))) ((a_ U rN).bind λai=>(CV (hS.mk I U (cr.mk nH [] [])) ai).bind λaB=>js (ti true nH (i64.wrap (1+aB))) (i64.wrap (rN+1))) ((zx (hS.mk I U (cr.mk nH [] [])) R.gl 0).bind λa7=>(room 8 (1+R.e7.length)).bind λ_=>bU λn=>C1 I U n nH ([a7]++R.e7))
def zF (I:cG) (R:dn) (U:(List arG)):Nat->Int->Int->Option (cr×Bool)
 |0,_,_=>none
 |n+1,nH,rN=>MB (zF I R U n) I R U nH rN
def G1 (I:cG) (R:dn):Option (cr×Bool):=
 (GD I).bind λU=>cond (decide (64<(U.length:Int))) (some ((cr.mk 0 [] []),false)) (bU λn=>zF I R U n 0 0)
def C2 (I:cG) (R:Int):Option (cr×Int):=
 (GB I).bind λU=>cond (!U) (some ((cr.mk 0 [] []),1)) ((xi R (I.b7.length:Int)).bind λai=>cond (!ai) (some ((cr.mk 0 [] []),2)) ((a_ I.b7 R).bind λaB=>(G1 I aB).bind λa7=>cond (!a7.2) (some ((cr.mk 0 [] []),5)) (some (a7.1,0))))
def adG (ga:Int->arI) (I R:arG) (c0:Int):arI:=
 cond (decide (c0<(I.length:Int))) ((a_ I c0).bind λU=>(a_ R c0).bind λai=>cond (U !=ai) (some false) (ga (i64.wrap (c0+1)))) (some true)
def MC (I R:arG):Nat->Int->arI
 |0,_=>none
 |n+1,c0=>adG (MC I R n) I R c0
def zG (I R:arG):arI:=
 cond ((I.length:Int) !=(R.length:Int)) (some false) (bU λn=>MC I R n 0)
def C3 (I R:aF):arI:=
 cond (I.Kind !=R.Kind) (some false) (cond (I.Value !=R.Value) (some false) (some true))
def adH (ga:Int->arI) (I R:arU) (c0:Int):arI:=
 cond (decide (c0<(I.length:Int))) ((a_ I c0).bind λU=>(a_ R c0).bind λai=>(C3 U ai).bind λaB=>cond (!aB) (some false) (ga (i64.wrap (c0+1)))) (some true)
def MD (I R:arU):Nat->Int->arI
 |0,_=>none
 |n+1,c0=>adH (MD I R n) I R c0
def zH (I R:arU):arI:=
 cond ((I.length:Int) !=(R.length:Int)) (some false) (bU λn=>MD I R n 0)
def adI (ga:Int->arI) (I R:arO) (c0:Int):arI:=
 cond (decide (c0<(I.length:Int))) ((a_ I c0).bind λU=>(a_ R c0).bind λai=>(zH U ai).bind λaB=>cond (!aB) (some false) (ga (i64.wrap (c0+1)))) (some true)
def ME (I R:arO):Nat->Int->arI
 |0,_=>none
 |n+1,c0=>adI (ME I R n) I R c0
def zI (I R:arO):arI:=
 cond ((I.length:Int) !=(R.length:Int)) (some false) (bU λn=>ME I R n 0)
def C4 (I R:bH):arI:=
 (zG I.cx R.cx).bind λU=>cond (!U) (some false) ((zH I.Guard R.Guard).bind λai=>cond (!ai) (some false) (cond (!(I.Name==R.Name)) (some false) ((zI I.a9 R.a9).bind λaB=>cond (!aB) (some false) ((zI I.Next R.Next).bind λa7=>cond (!a7) (some false) (some true)))))
def adJ (ga:Int->arI) (I R:arZ) (c0:Int):arI:=
 cond (decide (c0<(I.length:Int))) ((a_ I c0).bind λU=>(a_ R c0).bind λai=>(C4 U ai).bind λaB=>cond (!aB) (some false) (ga (i64.wrap (c0+1)))) (some true)
def MF (I R:arZ):Nat->Int->arI
 |0,_=>none
 |n+1,c0=>adJ (MF I R n) I R c0
def G2 (I R:arZ):arI:=
 cond ((I.length:Int) !=(R.length:Int)) (some false) (bU λn=>MF I R n 0)
def zJ (I R:cr):arI:=
 cond (I.bW !=R.bW) (some false) ((zG I.Start R.Start).bind λU=>cond (!U) (some false) ((G2 I.g3 R.g3).bind λai=>cond (!ai) (some false) (some true)))
def C5 (I R:bk):arI:=
 cond (I.Kind !=R.Kind) (some false) (cond (I.Number !=R.Number) (some false) (cond (!(I.Name==R.Name)) (some false) ((zI I.a9 R.a9).bind λU=>cond (!U) (some false) (some true))))
def adK (ga:Int->arI) (I R:arV) (c0:Int):arI:=
 cond (decide (c0<(I.length:Int))) ((a_ I c0).bind λU=>(a_ R c0).bind λai=>(C5 U ai).bind λaB=>cond (!aB) (some false) (ga (i64.wrap (c0+1)))) (some true)
def MG (I R:arV):Nat->Int->arI
 |0,_=>none
 |n+1,c0=>adK (MG I R n) I R c0
def G3 (I R:arV):arI:=
 cond ((I.length:Int) !=(R.length:Int)) (some false) (bU λn=>MG I R n 0)
def C6 (I R:bg):arI:=
 cond (!(I.Name==R.Name)) (some false) (cond (I.bW !=R.bW) (some false) ((G3 I.Body R.Body).bind λU=>cond (!U) (some false) (some true)))
def adL (ga:Int->arI) (I R:arW) (c0:Int):arI:=
 cond (decide (c0<(I.length:Int))) ((a_ I c0).bind λU=>(a_ R c0).bind λai=>(C6 U ai).bind λaB=>cond (!aB) (some false) (ga (i64.wrap (c0+1)))) (some true)
def MH (I R:arW):Nat->Int->arI
 |0,_=>none
 |n+1,c0=>adL (MH I R n) I R c0
def G4 (I R:arW):arI:=
 cond ((I.length:Int) !=(R.length:Int)) (some false) (bU λn=>MH I R n 0)
def C7 (I R:dn):arI:=
 cond (I.gl !=R.gl) (some false) ((zG I.e7 R.e7).bind λU=>cond (!U) (some false) (some true))
def adM (ga:Int->arI) (I R:arX) (c0:Int):arI:=
 cond (decide (c0<(I.length:Int))) ((a_ I c0).bind λU=>(a_ R c0).bind λai=>(C7 U ai).bind λaB=>cond (!aB) (some false) (ga (i64.wrap (c0+1)))) (some true)
def MI (I R:arX):Nat->Int->arI
 |0,_=>none
 |n+1,c0=>adM (MI I R n) I R c0
def G5 (I R:arX):arI:=
 cond ((I.length:Int) !=(R.length:Int)) (some false) (bU λn=>MI I R n 0)
def C8 (I R:cq):arI:=
 cond (!(I.Left==R.Left)) (some false) (cond (!(I.ct==R.ct)) (some false) (cond (!(I.Result==R.Result)) (some false) (some true)))
def adN (ga:Int->arI) (I R:arY) (c0:Int):arI:=
 cond (decide (c0<(I.length:Int))) ((a_ I c0).bind λU=>(a_ R c0).bind λai=>(C8 U ai).bind λaB=>cond (!aB) (some false) (ga (i64.wrap (c0+1)))) (some true)
def MJ (I R:arY):Nat->Int->arI
 |0,_=>none
 |n+1,c0=>adN (MJ I R n) I R c0
def G6 (I R:arY):arI:=
 cond ((I.length:Int) !=(R.length:Int)) (some false) (bU λn=>MJ I R n 0)
def adO (ga:Int->arI) (I R:arD) (c0:Int):arI:=
 cond (decide (c0<(I.length:Int))) ((a_ I c0).bind λU=>(a_ R c0).bind λai=>cond (!(U==ai)) (some false) (ga (i64.wrap (c0+1)))) (some true)
def MK (I R:arD):Nat->Int->arI
 |0,_=>none
 |n+1,c0=>adO (MK I R n) I R c0
def C9 (I R:arD):arI:=
 cond ((I.length:Int) !=(R.length:Int)) (some false) (bU λn=>MK I R n 0)
def C_ (I R:cG):arI:=
 (G4 I.aC R.aC).bind λU=>cond (!U) (some false) ((G5 I.b7 R.b7).bind λai=>cond (!ai) (some false) ((G6 I.hA R.hA).bind λaB=>cond (!aB) (some false) ((C9 I.hg R.hg).bind λa7=>cond (!a7) (some false) ((C9 I.hh R.hh).bind λaP=>cond (!aP) (some false) (some true)))))
def G7 (ga:Int->arE->Option arE) (nb:Int) (dA:arE):Option arE:=
 cond (decide (0<nb)) ((sa (1+dA.length)).bind λ_=>ga (i64.wrap (Int.tdiv nb 10)) ([(th (i64.wrap (48+(Int.tmod nb 10))))]++dA)) ((sa (1+dA.length)).bind λ_=>some (([109]:arE)++dA))
def xy:Nat->Int->arE->Option arE
 |0,_,_=>none
 |n+1,nb,dA=>G7 (xy n) nb dA
def rO (I:Int):Option arE:=
 cond (decide (I<=0)) (some ([109,48]:arE)) (bU λn=>xy n I ([]:arE))
def ML (dj:arU->Int->Int->Option (Int×arU)) (bQ:arU) (a1 aL:Int):Option (Int×arU):=
 cond (decide (aL<(bQ.length:Int))) ((a_ bQ aL).bind λU=>(a_ (List.set bQ (Int.toNat aL) (aF.mk a1 U.Value)) aL).bind λai=>dj (List.set (List.set bQ (Int.toNat aL) (aF.mk a1 U.Value)) (Int.toNat aL) (aF.mk ai.Kind (i64.wrap (a1+1)))) (i64.wrap ((i64.wrap (a1+1))+1)) (i64.wrap (aL+1))) (some (a1,bQ))
def zK:Nat->arU->Int->Int->Option (Int×arU)
 |0,_,_,_=>none
 |n+1,bQ,a1,aL=>ML (zK n) bQ a1 aL
def Da (I:arU) (R:Int):Option (Int×arU):=
 bU λn=>zK n I R 0
def MM (dj:arO->Int->Int->Option (Int×arO)) (bQ:arO) (a1 aL:Int):Option (Int×arO):=
 cond (decide (aL<(bQ.length:Int))) ((a_ bQ aL).bind λU=>(Da U a1).bind λai=>dj (List.set bQ (Int.toNat aL) ai.2) ai.1 (i64.wrap (aL+1))) (some (a1,bQ))
def zL:Nat->arO->Int->Int->Option (Int×arO)
 |0,_,_,_=>none
 |n+1,bQ,a1,aL=>MM (zL n) bQ a1 aL
def zM (I:arO) (R:Int):Option (Int×arO):=
 bU λn=>zL n I R 0
def MN (dj:arV->Int->Int->Option (Int×arV)) (bQ:arV) (a1 aL:Int):Option (Int×arV):=
 cond (decide (aL<(bQ.length:Int))) ((a_ bQ aL).bind λU=>(a_ (List.set bQ (Int.toNat aL) (bk.mk a1 U.Number U.Name U.a9)) aL).bind λai=>(rO (i64.wrap ((i64.wrap (a1+1))+1))).bind λaB=>(a_ (List.set (List.set bQ (Int.toNat aL) (bk.mk a1 U.Number U.Name U.a9)) (Int.toNat aL) (bk.mk ai.Kind (i64.wrap (a1+1)) ai.Name ai.a9)) aL).bind λa7=>(a_ (List.set (List.set (List.set bQ (Int.toNat aL) (bk.mk a1 U.Number U.Name U.a9)) (Int.toNat aL) (bk.mk ai.Kind (i64.wrap (a1+1)) ai.Name ai.a9)) (Int.toNat aL) (bk.mk a7.Kind a7.Number aB a7.a9)) aL).bind λaP=>(zM aP.a9 (i64.wrap ((i64.wrap ((i64.wrap (a1+1))+1))+1))).bind λaV=>dj (List.set (List.set (List.set (List.set bQ (Int.toNat aL) (bk.mk a1 U.Number U.Name U.a9)) (Int.toNat aL) (bk.mk ai.Kind (i64.wrap (a1+1)) ai.Name ai.a9)) (Int.toNat aL) (bk.mk a7.Kind a7.Number aB a7.a9)) (Int.toNat aL) (bk.mk aP.Kind aP.Number aP.Name aV.2)) aV.1 (i64.wrap (aL+1))) (some (a1,bQ))
def zN:Nat->arV->Int->Int->Option (Int×arV)
 |0,_,_,_=>none
 |n+1,bQ,a1,aL=>MN (zN n) bQ a1 aL
def G8 (I:arV) (R:Int):Option (Int×arV):=
 bU λn=>zN n I R 0
def MO (dj:arW->Int->Int->Option (Int×arW)) (bQ:arW) (a1 aL:Int):Option (Int×arW):=
 cond (decide (aL<(bQ.length:Int))) ((rO a1).bind λU=>(a_ bQ aL).bind λai=>(a_ (List.set bQ (Int.toNat aL) (bg.mk U ai.bW ai.Body)) aL).bind λaB=>(a_ (List.set (List.set bQ (Int.toNat aL) (bg.mk U ai.bW ai.Body)) (Int.toNat aL) (bg.mk aB.Name (i64.wrap (a1+1)) aB.Body)) aL).bind λa7=>(G8 a7.Body (i64.wrap ((i64.wrap (a1+1))+1))).bind λaP=>dj (List.set (List.set (List.set bQ (Int.toNat aL) (bg.mk U ai.bW ai.Body)) (Int.toNat aL) (bg.mk aB.Name (i64.wrap (a1+1)) aB.Body)) (Int.toNat aL) (bg.mk a7.Name a7.bW aP.2)) aP.1 (i64.wrap (aL+1))) (some (a1,bQ))
def zO:Nat->arW->Int->Int->Option (Int×arW)
 |0,_,_,_=>none
 |n+1,bQ,a1,aL=>MO (zO n) bQ a1 aL
def G9 (I:arW) (R:Int):Option (Int×arW):=
 bU λn=>zO n I R 0
def MP (dj:arG->Int->Int->Option (Int×arG)) (bQ:arG) (a1 aL:Int):Option (Int×arG):=
 cond (decide (aL<(bQ.length:Int))) ((a_ bQ aL).bind λU=>dj (List.set bQ (Int.toNat aL) a1) (i64.wrap (a1+1)) (i64.wrap (aL+1))) (some (a1,bQ))
def zP:Nat->arG->Int->Int->Option (Int×arG)
 |0,_,_,_=>none
 |n+1,bQ,a1,aL=>MP (zP n) bQ a1 aL
def zQ (I:arG) (R:Int):Option (Int×arG):=
 bU λn=>zP n I R 0
def MQ (dj:arX->Int->Int->Option (Int×arX)) (bQ:arX) (a1 aL:Int):Option (Int×arX):=
 cond (decide (aL<(bQ.length:Int))) ((a_ bQ aL).bind λU=>(a_ (List.set bQ (Int.toNat aL) (dn.mk a1 U.e7)) aL).bind λai=>(zQ ai.e7 (i64.wrap (a1+1))).bind λaB=>dj (List.set (List.set bQ (Int.toNat aL) (dn.mk a1 U.e7)) (Int.toNat aL) (dn.mk ai.gl aB.2)) aB.1 (i64.wrap (aL+1))) (some (a1,bQ))
def zR:Nat->arX->Int->Int->Option (Int×arX)
 |0,_,_,_=>none
 |n+1,bQ,a1,aL=>MQ (zR n) bQ a1 aL
def G_ (I:arX) (R:Int):Option (Int×arX):=
 bU λn=>zR n I R 0
def MR (dj:arY->Int->Int->Option (Int×arY)) (bQ:arY) (a1 aL:Int):Option (Int×arY):=
 cond (decide (aL<(bQ.length:Int))) ((rO a1).bind λU=>(a_ bQ aL).bind λai=>(rO (i64.wrap (a1+1))).bind λaB=>(a_ (List.set bQ (Int.toNat aL) (cq.mk U ai.ct ai.Result)) aL).bind λa7=>(rO (i64.wrap ((i64.wrap (a1+1))+1))).bind λaP=>(a_ (List.set (List.set bQ (Int.toNat aL) (cq.mk U ai.ct ai.Result)) (Int.toNat aL) (cq.mk a7.Left aB a7.Result)) aL).bind λaV=>dj (List.set (List.set (List.set bQ (Int.toNat aL) (cq.mk U ai.ct ai.Result)) (Int.toNat aL) (cq.mk a7.Left aB a7.Result)) (Int.toNat aL) (cq.mk aV.Left aV.ct aP)) (i64.wrap ((i64.wrap ((i64.wrap (a1+1))+1))+1)) (i64.wrap (aL+1))) (some (a1,bQ))
def zS:Nat->arY->Int->Int->Option (Int×arY)
 |0,_,_,_=>none
 |n+1,bQ,a1,aL=>MR (zS n) bQ a1 aL
def Ha (I:arY) (R:Int):Option (Int×arY):=
 bU λn=>zS n I R 0
def MS (dj:arD->Int->Int->Option (Int×arD)) (bQ:arD) (a1 aL:Int):Option (Int×arD):=
 cond (decide (aL<(bQ.length:Int))) ((rO a1).bind λU=>(a_ bQ aL).bind λai=>dj (List.set bQ (Int.toNat aL) U) (i64.wrap (a1+1)) (i64.wrap (aL+1))) (some (a1,bQ))
def zT:Nat->arD->Int->Int->Option (Int×arD)
 |0,_,_,_=>none
 |n+1,bQ,a1,aL=>MS (zT n) bQ a1 aL
def Db (I:arD) (R:Int):Option (Int×arD):=
 bU λn=>zT n I R 0
def Hb (cW:arW) (c1:arX) (cX:arY) (db c9:arD) (R:Int):Option (Int×arW×arX×arY×arD×arD):=
 (G9 cW R).bind λU=>(G_ c1 U.1).bind λai=>(Ha cX ai.1).bind λaB=>(Db db aB.1).bind λa7=>(Db c9 a7.1).bind λaP=>some (aP.1,U.2,ai.2,aB.2,a7.2,aP.2)
def MT (dj:arZ->Int->Int->Option (Int×arZ)) (bQ:arZ) (a1 aL:Int):Option (Int×arZ):=
 cond (decide (aL<(bQ.length:Int))) ((a_ bQ aL).bind λU=>(zQ U.cx a1).bind λai=>(a_ (List.set bQ (Int.toNat aL) (bH.mk ai.2 U.Guard U.Name U.a9 U.Next)) aL).bind λaB=>(Da aB.Guard ai.1).bind λa7=>(rO a7.1).bind λaP=>(a_ (List.set (List.set bQ (Int.toNat aL) (bH.mk ai.2 U.Guard U.Name U.a9 U.Next)) (Int.toNat aL) (bH.mk aB.cx a7.2 aB.Name aB.a9 aB.Next)) aL).bind λaV=>(a_ (List.set (List.set (List.set bQ (Int.toNat aL) (bH.mk ai.2 U.Guard U.Name U.a9 U.Next)) (Int.toNat aL) (bH.mk aB.cx a7.2 aB.Name aB.a9 aB.Next)) (Int.toNat aL) (bH.mk aV.cx aV.Guard aP aV.a9 aV.Next)) aL).bind λbp=>(zM bp.a9 (i64.wrap (a7.1+1))).bind λcp=>(a_ (List.set (List.set (List.set (List.set bQ (Int.toNat aL) (bH.mk ai.2 U.Guard U.Name U.a9 U.Next)) (Int.toNat aL) (bH.mk aB.cx a7.2 aB.Name aB.a9 aB.Next)) (Int.toNat aL) (bH.mk aV.cx aV.Guard aP aV.a9 aV.Next)) (Int.toNat aL) (bH.mk bp.cx bp.Guard bp.Name cp.2 bp.Next)) aL).bind λdi=>(zM di.Next cp.1).bind λcE=>dj (List.set (List.set (List.set (List.set (List.set bQ (Int.toNat aL) (bH.mk ai.2 U.Guard U.Name U.a9 U.Next)) (Int.toNat aL) (bH.mk aB.cx a7.2 aB.Name aB.a9 aB.Next)) (Int.toNat aL) (bH.mk aV.cx aV.Guard aP aV.a9 aV.Next)) (Int.toNat aL) (bH.mk bp.cx bp.Guard bp.Name cp.2 bp.Next)) (Int.toNat aL) (bH.mk di.cx di.Guard di.Name di.a9 cE.2)) cE.1 (i64.wrap (aL+1))) (some (a1,bQ))
def zU:Nat->arZ->Int->Int->Option (Int×arZ)
 |0,_,_,_=>none
 |n+1,bQ,a1,aL=>MT (zU n) bQ a1 aL
def Hc (I:arZ) (R:Int):Option (Int×arZ):=
 bU λn=>zU n I R 0
def Hd (cW:Int) (c1:arG) (cX:arZ) (R:Int):Option (Int×Int×arG×arZ):=
 (zQ c1 R).bind λU=>(Hc cX U.1).bind λai=>some (ai.1,cW,U.2,ai.2)
def MU (dj:Int->Int->arJ) (I:arG) (a1 aL:Int):arJ:=
 cond (decide (aL<(I.length:Int))) ((a_ I aL).bind λU=>cond (U !=a1) (some (-1)) (dj (i64.wrap (a1+1)) (i64.wrap (aL+1)))) (some a1)
def zV (I:arG):Nat->Int->Int->arJ
 |0,_,_=>none
 |n+1,a1,aL=>MU (zV I n) I a1 aL
def Dc (I:arG) (R:Int):arJ:=
 bU λn=>zV I n R 0
def MV (dj:Int->Int->arJ) (I:arU) (a1 aL:Int):arJ:=
 cond (decide (aL<(I.length:Int))) ((a_ I aL).bind λU=>cond (U.Kind !=a1) (some (-1)) (cond (U.Value !=(i64.wrap (a1+1))) (some (-1)) (dj (i64.wrap ((i64.wrap (a1+1))+1)) (i64.wrap (aL+1))))) (some a1)
def zW (I:arU):Nat->Int->Int->arJ
 |0,_,_=>none
 |n+1,a1,aL=>MV (zW I n) I a1 aL
def Dd (I:arU) (R:Int):arJ:=
 bU λn=>zW I n R 0
def MW (dj:Int->Int->arJ) (I:arO) (a1 aL:Int):arJ:=
 cond (decide (aL<(I.length:Int))) ((a_ I aL).bind λU=>(Dd U a1).bind λai=>cond (decide (ai<0)) (some (-1)) (dj ai (i64.wrap (aL+1)))) (some a1)
def zX (I:arO):Nat->Int->Int->arJ
 |0,_,_=>none
 |n+1,a1,aL=>MW (zX I n) I a1 aL
def De (I:arO) (R:Int):arJ:=
 bU λn=>zX I n R 0
def MX (dj:Int->Int->arJ) (I:arZ) (a1 aL:Int):arJ:=
 cond (decide (aL<(I.length:Int))) ((a_ I aL).bind λU=>(Dc U.cx a1).bind λai=>cond (decide (ai<0)) (some (-1)) ((Dd U.Guard ai).bind λaB=>cond (decide (aB<0)) (some (-1)) ((rO aB).bind λa7=>cond (!(U.Name==a7)) (some (-1)) ((De U.a9 (i64.wrap (aB+1))).bind λaP=>cond (decide (aP<0)) (some (-1)) ((De U.Next aP).bind λaV=>cond (decide (aV<0)) (some (-1)) (dj aV (i64.wrap (aL+1)))))))) (some a1)
def zY (I:arZ):Nat->Int->Int->arJ
 |0,_,_=>none
 |n+1,a1,aL=>MX (zY I n) I a1 aL
def He (I:arZ) (R:Int):arJ:=
 bU λn=>zY I n R 0
def Df (I:cr) (R:Int):arJ:=
 (Dc I.Start R).bind λU=>cond (decide (U<0)) (some (-1)) ((He I.g3 U).bind λai=>cond (decide (ai<0)) (some (-1)) (some ai))
def MY (I:nA) (R:Int):arI:=
 (B2 I 1048576).bind λU=>cond (decide (U<0)) (some true) ((vf I).bind λai=>(Gd ai R).bind λaB=>(vf I).bind λa7=>(C2 a7 R).bind λaP=>(zJ aP.1 aB.1).bind λaV=>cond ((!aV)||(aP.2 !=aB.2)) (some false) ((vf I).bind λbp=>(C_ a7 bp).bind λcp=>cond (!cp) (some false) ((Hb a7.aC a7.b7 a7.hA a7.hg a7.hh 1).bind λdi=>cond (decide (di.1<0)) (some false) ((zJ aP.1 aB.1).bind λcE=>cond ((!cE)||(aP.2 !=aB.2)) (some false) ((Hd aP.1.bW aP.1.Start aP.1.g3 1).bind λde=>(Df (cr.mk de.2.1 de.2.2.1 de.2.2.2) 1).bind λgx=>cond (decide (gx<0)) (some false) (cond (gx !=de.1) (some false) ((vf I).bind λeK=>(C2 eK R).bind λgA=>(zJ gA.1 aB.1).bind λik=>cond ((!ik)||(gA.2 !=aB.2)) (some false) ((Df (cr.mk de.2.1 de.2.2.1 de.2.2.2) 1).bind λkH=>cond (decide (kH<0)) (some false) (cond (kH !=de.1) (some false) (some true))))))))))
end
end Go.mc
