/- Part of a proof that a law returns true for every input. No condition. -/
import Derived.Test.YtndfcecbamffaaaGreatFwA
namespace Go.ob
open List Option Go.IntKind Nat Or
open Go Go.dD
set_option linter.unusedVariables false
noncomputable section
structure hA where
 Kind:Int
 Value:Int
def te (x:hA):Prop:=(-9223372036854775808<=x.Kind/\x.Kind<=9223372036854775807)/\(-9223372036854775808<=x.Value/\x.Value<=9223372036854775807)
structure jT where
 a5:ahB
 Guard:List hA
 Name:ahz
 aW:List (List hA)
 Next:List (List hA)
def zm (x:jT):Prop:=(x.a5.length<=9223372036854775807/\∀y∈x.a5,(-9223372036854775808<=y/\y<=9223372036854775807))/\(x.Guard.length<=9223372036854775807/\∀y∈x.Guard,te y)/\x.Name.length<=9223372036854775807/\(x.aW.length<=9223372036854775807/\∀y∈x.aW,(y.length<=9223372036854775807/\∀z∈y,te z))/\(x.Next.length<=9223372036854775807/\∀y∈x.Next,(y.length<=9223372036854775807/\∀z∈y,te z))
structure l4 where
 aE:Int
 Start:ahB
 aU:List jT
def wI (x:l4):Prop:=(-9223372036854775808<=x.aE/\x.aE<=9223372036854775807)/\(x.Start.length<=9223372036854775807/\∀y∈x.Start,(-9223372036854775808<=y/\y<=9223372036854775807))/\(x.aU.length<=9223372036854775807/\∀y∈x.aU,zm y)
structure jz where
 Left:ahz
 cf:ahz
 Result:ahz
def wJ (x:jz):Prop:=x.Left.length<=9223372036854775807/\x.cf.length<=9223372036854775807/\x.Result.length<=9223372036854775807
structure ar where
 Kind:Int
 Value:Int
def B3 (x:ar):Prop:=(-9223372036854775808<=x.Kind/\x.Kind<=9223372036854775807)/\(-9223372036854775808<=x.Value/\x.Value<=9223372036854775807)
structure aN where
 a5:ahB
 Guard:List ar
 Name:ahz
 aW:List (List ar)
 Next:List (List ar)
def XH (x:aN):Prop:=(x.a5.length<=9223372036854775807/\∀y∈x.a5,(-9223372036854775808<=y/\y<=9223372036854775807))/\(x.Guard.length<=9223372036854775807/\∀y∈x.Guard,B3 y)/\x.Name.length<=9223372036854775807/\(x.aW.length<=9223372036854775807/\∀y∈x.aW,(y.length<=9223372036854775807/\∀z∈y,B3 z))/\(x.Next.length<=9223372036854775807/\∀y∈x.Next,(y.length<=9223372036854775807/\∀z∈y,B3 z))
structure a8 where
 aE:Int
 Start:ahB
 aU:List aN
def agM (x:a8):Prop:=(-9223372036854775808<=x.aE/\x.aE<=9223372036854775807)/\(x.Start.length<=9223372036854775807/\∀y∈x.Start,(-9223372036854775808<=y/\y<=9223372036854775807))/\(x.aU.length<=9223372036854775807/\∀y∈x.aU,XH y)
structure bQ where
 Left:ahz
 cf:ahz
 Result:ahz
def XI (x:bQ):Prop:=x.Left.length<=9223372036854775807/\x.cf.length<=9223372036854775807/\x.Result.length<=9223372036854775807
structure wK where
 Kind:Int
 Number:Int
 Name:ahz
 aW:List (List ar)
def XJ (x:wK):Prop:=(-9223372036854775808<=x.Kind/\x.Kind<=9223372036854775807)/\(-9223372036854775808<=x.Number/\x.Number<=9223372036854775807)/\x.Name.length<=9223372036854775807/\(x.aW.length<=9223372036854775807/\∀y∈x.aW,(y.length<=9223372036854775807/\∀z∈y,B3 z))
structure wL where
 Name:ahz
 aE:Int
 Body:List wK
def XK (x:wL):Prop:=x.Name.length<=9223372036854775807/\(-9223372036854775808<=x.aE/\x.aE<=9223372036854775807)/\(x.Body.length<=9223372036854775807/\∀y∈x.Body,XJ y)
structure wM where
 Gv:Int
 Gw:ahB
def XL (x:wM):Prop:=(-9223372036854775808<=x.Gv/\x.Gv<=9223372036854775807)/\(x.Gw.length<=9223372036854775807/\∀y∈x.Gw,(-9223372036854775808<=y/\y<=9223372036854775807))
structure uV where
 Gx:List wL
 Gy:List wM
 lK:List bQ
 Gz:nq
 GA:nq
abbrev ahL:=List hA
abbrev ahM:=List jT
abbrev ahN:=List jz
abbrev ahO:=List ar
abbrev ahP:=List aN
abbrev ahQ:=List bQ
abbrev ahJ:=List (List hA)
abbrev ahK:=List (List ar)
def agN (x:uV):Prop:=(x.Gx.length<=9223372036854775807/\∀y∈x.Gx,XK y)/\(x.Gy.length<=9223372036854775807/\∀y∈x.Gy,XL y)/\(x.lK.length<=9223372036854775807/\∀y∈x.lK,XI y)/\(x.Gz.length<=9223372036854775807/\∀y∈x.Gz,y.length<=9223372036854775807)/\(x.GA.length<=9223372036854775807/\∀y∈x.GA,y.length<=9223372036854775807)
def zn (j:ahB) (J:Int):ahE:=
 cond (decide ((i64.wrap (J-(j.length:Int)))<0)) (some (-1)) (some (i64.wrap (J-(j.length:Int))))
def wN (j:ahL) (J:Int):ahE:=
 cond (decide ((i64.wrap (J-(j.length:Int)))<0)) (some (-1)) (some (i64.wrap (J-(j.length:Int))))
def XM (lL:Int->Int->ahE) (j:ahJ) (hN hO:Int):ahE:=
 cond (decide (hO<(j.length:Int))) ((bZ j hO).bind λaa=>(wN aa hN).bind λak=>cond (decide (ak<0)) (some (-1)) (lL ak (i64.wrap (hO+1)))) (some hN)
def GB (j:ahJ):Nat->Int->Int->ahE
 |0,_,_=>none
 |n+1,hN,hO=>XM (GB j n) j hN hO
def zo (j:ahJ) (J:Int):ahE:=
 cond (decide ((i64.wrap (J-(j.length:Int)))<0)) (some (-1)) (cm λn=>GB j n (i64.wrap (J-(j.length:Int))) 0)
def zp (j:jT) (J:Int):ahE:=
 (zn j.a5 J).bind λaa=>cond (decide (aa<0)) (some (-1)) ((wN j.Guard aa).bind λak=>cond (decide (ak<0)) (some (-1)) (cond (decide ((i64.wrap (ak-(j.Name.length:Int)))<0)) (some (-1)) ((zo j.aW (i64.wrap (ak-(j.Name.length:Int)))).bind λaL=>cond (decide (aL<0)) (some (-1)) ((zo j.Next aL).bind λa2=>cond (decide (a2<0)) (some (-1)) (some a2)))))
def XN (lL:Int->Int->ahE) (j:ahM) (hN hO:Int):ahE:=
 cond (decide (hO<(j.length:Int))) ((bZ j hO).bind λaa=>(zp aa hN).bind λak=>cond (decide (ak<0)) (some (-1)) (lL ak (i64.wrap (hO+1)))) (some hN)
def GC (j:ahM):Nat->Int->Int->ahE
 |0,_,_=>none
 |n+1,hN,hO=>XN (GC j n) j hN hO
def B4 (j:ahM) (J:Int):ahE:=
 cond (decide ((i64.wrap (J-(j.length:Int)))<0)) (some (-1)) (cm λn=>GC j n (i64.wrap (J-(j.length:Int))) 0)
def zq (j:l4) (J:Int):ahE:=
 (zn j.Start J).bind λaa=>cond (decide (aa<0)) (some (-1)) ((B4 j.aU aa).bind λak=>cond (decide (ak<0)) (some (-1)) (some ak))
def zr (j:jz) (J:Int):ahE:=
 cond (decide ((i64.wrap (J-(j.Left.length:Int)))<0)) (some (-1)) (cond (decide ((i64.wrap ((i64.wrap (J-(j.Left.length:Int)))-(j.cf.length:Int)))<0)) (some (-1)) (cond (decide ((i64.wrap ((i64.wrap ((i64.wrap (J-(j.Left.length:Int)))-(j.cf.length:Int)))-(j.Result.length:Int)))<0)) (some (-1)) (some (i64.wrap ((i64.wrap ((i64.wrap (J-(j.Left.length:Int)))-(j.cf.length:Int)))-(j.Result.length:Int))))))
def XO (lL:Int->Int->ahE) (j:ahN) (hN hO:Int):ahE:=
 cond (decide (hO<(j.length:Int))) ((bZ j hO).bind λaa=>(zr aa hN).bind λak=>cond (decide (ak<0)) (some (-1)) (lL ak (i64.wrap (hO+1)))) (some hN)
def GD (j:ahN):Nat->Int->Int->ahE
 |0,_,_=>none
 |n+1,hN,hO=>XO (GD j n) j hN hO
def B5 (j:ahN) (J:Int):ahE:=
 cond (decide ((i64.wrap (J-(j.length:Int)))<0)) (some (-1)) (cm λn=>GD j n (i64.wrap (J-(j.length:Int))) 0)
def XP (c0:ahB->Int->Option ahB) (j bH:ahB) (cN:Int):Option ahB:=
 cond (decide (cN<(j.length:Int))) ((bZ j cN).bind λaa=>(bZ bH cN).bind λak=>c0 (List.set bH (Int.toNat cN) aa) (i64.wrap (cN+1))) (some bH)
def GF (j:ahB):Nat->ahB->Int->Option ahB
 |0,_,_=>none
 |n+1,bH,cN=>XP (GF j n) j bH cN
def zs (j:ahB):Option ahB:=
 (lv 8 (j.length:Int)).bind λ_=>cm λn=>GF j n (replicate (Int.toNat (j.length:Int)) 0) 0
def zt (j:hA):Option ar:=
 some (ar.mk j.Kind j.Value)
def XQ (c0:ahO->Int->Option ahO) (j:ahL) (bH:ahO) (cN:Int):Option ahO:=
 cond (decide (cN<(j.length:Int))) ((bZ j cN).bind λaa=>(zt aa).bind λak=>(bZ bH cN).bind λaL=>c0 (List.set bH (Int.toNat cN) ak) (i64.wrap (cN+1))) (some bH)
def GG (j:ahL):Nat->ahO->Int->Option ahO
 |0,_,_=>none
 |n+1,bH,cN=>XQ (GG j n) j bH cN
def wO (j:ahL):Option ahO:=
 (lv 16 (j.length:Int)).bind λ_=>cm λn=>GG j n (replicate (Int.toNat (j.length:Int)) (ar.mk 0 0)) 0
def XR (c0:ahK->Int->Option ahK) (j:ahJ) (bH:ahK) (cN:Int):Option ahK:=
 cond (decide (cN<(j.length:Int))) ((bZ j cN).bind λaa=>(wO aa).bind λak=>(bZ bH cN).bind λaL=>c0 (List.set bH (Int.toNat cN) ak) (i64.wrap (cN+1))) (some bH)
def GH (j:ahJ):Nat->ahK->Int->Option ahK
 |0,_,_=>none
 |n+1,bH,cN=>XR (GH j n) j bH cN
def zu (j:ahJ):Option ahK:=
 (lv 24 (j.length:Int)).bind λ_=>cm λn=>GH j n (replicate (Int.toNat (j.length:Int)) []) 0
def zv (j:jT):Option aN:=
 (zs j.a5).bind λaa=>(wO j.Guard).bind λak=>(zu j.aW).bind λaL=>(zu j.Next).bind λa2=>some (aN.mk aa ak j.Name aL a2)
def XS (c0:ahP->Int->Option ahP) (j:ahM) (bH:ahP) (cN:Int):Option ahP:=
 cond (decide (cN<(j.length:Int))) ((bZ j cN).bind λaa=>(zv aa).bind λak=>(bZ bH cN).bind λaL=>c0 (List.set bH (Int.toNat cN) ak) (i64.wrap (cN+1))) (some bH)
def GI (j:ahM):Nat->ahP->Int->Option ahP
 |0,_,_=>none
 |n+1,bH,cN=>XS (GI j n) j bH cN
def B6 (j:ahM):Option ahP:=
 (lv 112 (j.length:Int)).bind λ_=>cm λn=>GI j n (replicate (Int.toNat (j.length:Int)) (aN.mk [] [] ([]:ahz) [] [])) 0
def p8 (j:l4):Option a8:=
 (zs j.Start).bind λaa=>(B6 j.aU).bind λak=>some (a8.mk j.aE aa ak)
def zw (j:jz):Option bQ:=
 some (bQ.mk j.Left j.cf j.Result)
def XT (c0:ahQ->Int->Option ahQ) (j:ahN) (bH:ahQ) (cN:Int):Option ahQ:=
 cond (decide (cN<(j.length:Int))) ((bZ j cN).bind λaa=>(zw aa).bind λak=>(bZ bH cN).bind λaL=>c0 (List.set bH (Int.toNat cN) ak) (i64.wrap (cN+1))) (some bH)
def GJ (j:ahN):Nat->ahQ->Int->Option ahQ
 |0,_,_=>none
 |n+1,bH,cN=>XT (GJ j n) j bH cN
def uW (j:ahN):Option ahQ:=
 (lv 48 (j.length:Int)).bind λ_=>cm λn=>GJ j n (replicate (Int.toNat (j.length:Int)) (bQ.mk ([]:ahz) ([]:ahz) ([]:ahz))) 0
def p9 (j J aB:Int):ahD:=
 some ((decide (J<=j))&&(decide (j<=aB)))
def GK (dW:Int->ahD) (j:ahB) (qY:Int):ahD:=
 cond (decide (qY<(j.length:Int))) ((bZ j qY).bind λaa=>(p9 aa 0 63).bind λak=>cond (!ak) (some false) (dW (i64.wrap (qY+1)))) (some true)
def zx (j:ahB):Nat->Int->ahD
 |0,_=>none
 |n+1,qY=>GK (zx j n) j qY
def B7 (j:ahB):ahD:=
 cm λn=>zx j n 0
def B8 (j:ahB) (J:Int):ahD:=
 cond ((j.length:Int)==J) ((B7 j).bind λaa=>some aa) (some false)
def GL (lL:Int->Int->ahE) (j:ahB) (jk jU:Int):ahE:=
 cond (decide (jU<(j.length:Int))) ((bZ j jU).bind λaa=>(p9 aa 1 7).bind λak=>cond (!ak) (some 0) (lL (i64.wrap (jk*(i64.wrap (aa+1)))) (i64.wrap (jU+1)))) (cond (decide (4096<jk)) (some 0) (some jk))
def wP (j:ahB):Nat->Int->Int->ahE
 |0,_,_=>none
 |n+1,jk,jU=>GL (wP j n) j jk jU
def B9 (j:ahB):ahE:=
 cond (decide (8<(j.length:Int))) (some 0) (cm λn=>wP j n 1 0)
def B_ (j:ar) (J:Int):ahD:=
 cond (j.Kind==0) ((p9 j.Value 0 63).bind λaa=>some aa) (cond (j.Kind==1) ((p9 j.Value 0 (i64.wrap (J-1))).bind λak=>some ak) (cond (j.Kind==2) ((p9 j.Value 0 8).bind λaL=>some aL) (cond (j.Kind==3) (some (j.Value==0)) (some false))))
def GM (j:ar):ahE:=
 cond (j.Kind==2) (some 2) (cond (j.Kind==3) (some 1) (some 0))
def GN (lL:Int->Int->ahD) (j:ahO) (J kb qZ:Int):ahD:=
 cond (decide (qZ<(j.length:Int))) (cond (kb==0) (some false) ((bZ j qZ).bind λaa=>(B_ aa J).bind λak=>cond (!ak) (some false) ((GM aa).bind λaL=>lL (i64.wrap (kb+(i64.wrap (aL-1)))) (i64.wrap (qZ+1))))) (some (kb==0))
def wQ (j:ahO) (J:Int):Nat->Int->Int->ahD
 |0,_,_=>none
 |n+1,kb,qZ=>GN (wQ j J n) j J kb qZ
def zy (j:ahO) (J aB:Int):ahD:=
 cond (decide (aB<(j.length:Int))) (some false) (cm λn=>wQ j J n 1 0)
def GO (dW:Int->ahD) (j:ahK) (J bd:Int):ahD:=
 cond (decide (bd<(j.length:Int))) ((bZ j bd).bind λaa=>(zy aa J 60).bind λak=>cond (!ak) (some false) (dW (i64.wrap (bd+1)))) (some true)
def zz (j:ahK) (J:Int):Nat->Int->ahD
 |0,_=>none
 |n+1,bd=>GO (zz j J n) j J bd
def uX (j:ahK) (J:Int):ahD:=
 cm λn=>zz j J n 0
def zA (j:UInt8):ahD:=
 some ((decide (97<=(j.toNat:Int)))&&(decide ((j.toNat:Int)<=122)))
def GP (j:UInt8):ahD:=
 some ((decide (48<=(j.toNat:Int)))&&(decide ((j.toNat:Int)<=57)))
def GQ (jl:Int->ahD) (j:ahz) (eM:Int):ahD:=
 cond (decide (eM<(j.length:Int))) ((bZ j eM).bind λaL=>(zA aL).bind λa2=>cond (!a2) ((GP aL).bind λaY=>cond (!aY) (some false) (jl (i64.wrap (eM+1)))) (jl (i64.wrap (eM+1)))) (some true)
def zB (j:ahz):Nat->Int->ahD
 |0,_=>none
 |n+1,eM=>GQ (zB j n) j eM
def Ca (j:ahz):ahD:=
 cond (j==([]:ahz)) (some false) (cond (decide (10<(j.length:Int))) (some false) ((bZ j 0).bind λaa=>(zA aa).bind λak=>cond (!ak) (some false) (cm λn=>zB j n 0)))
def tf (j:ahz):ahD:=
 (Ca j).bind λaa=>some (aa&&(!(j==([116,97,117]:ahz))))
def Cb (j:aN) (J:Int):ahD:=
 (B9 j.a5).bind λaa=>cond (aa==0) (some false) ((zy j.Guard (i64.wrap (J+(j.a5.length:Int))) 60).bind λak=>cond ((!ak)||((j.Next.length:Int) !=J)) (some false) (cond (j.Name==([116,97,117]:ahz)) (cond (decide (0<(j.aW.length:Int))) (some false) (cond (decide (2<(j.aW.length:Int))) (some false) ((uX j.aW (i64.wrap (J+(j.a5.length:Int)))).bind λaL=>cond aL ((uX j.Next (i64.wrap (J+(j.a5.length:Int)))).bind λa2=>some a2) (some false)))) ((tf j.Name).bind λaY=>cond (!aY) (some false) (cond (decide (2<(j.aW.length:Int))) (some false) ((uX j.aW (i64.wrap (J+(j.a5.length:Int)))).bind λbj=>cond bj ((uX j.Next (i64.wrap (J+(j.a5.length:Int)))).bind λbq=>some bq) (some false))))))
def GR (jl:Int->ahD) (j:a8) (eM:Int):ahD:=
 cond (decide (eM<(j.aU.length:Int))) ((bZ j.aU eM).bind λaL=>(Cb aL j.aE).bind λa2=>cond (!a2) (some false) (jl (i64.wrap (eM+1)))) (some true)
def zC (j:a8):Nat->Int->ahD
 |0,_=>none
 |n+1,eM=>GR (zC j n) j eM
def uY (j:a8):ahD:=
 (p9 j.aE 0 21).bind λaa=>cond (!aa) (some false) ((B8 j.Start j.aE).bind λak=>cond ((!ak)||(decide (60<(j.aU.length:Int)))) (some false) (cm λn=>zC j n 0))
def GS (jl:Int->ahD) (GU:Int->Int->ahD) (j:ahQ) (aa:bQ) (lM g9:Int):ahD:=
 cond (decide (g9<(j.length:Int))) ((bZ j g9).bind λbq=>cond ((bq.Left==aa.Result)||(bq.cf==aa.Result)) (some false) (GU lM (i64.wrap (g9+1)))) (jl (i64.wrap (lM+1)))
def r0 (jl:Int->ahD) (j:ahQ) (aa:bQ):Nat->Int->Int->ahD
 |0,_,_=>none
 |n+1,lM,g9=>GS jl (r0 jl j aa n) j aa lM g9
def GV (jl:Int->ahD) (j:ahQ) (eM:Int):ahD:=
 cond (decide (eM<(j.length:Int))) ((bZ j eM).bind λaa=>(tf aa.Left).bind λak=>cond (!ak) (some false) ((tf aa.cf).bind λaL=>cond (!aL) (some false) ((tf aa.Result).bind λa2=>cond ((!a2)||(!(Op.bytesLess aa.Left aa.cf||aa.Left==aa.cf))) (some false) (cond (decide (0<eM)) ((bZ j (i64.wrap (eM-1))).bind λaY=>cond ((!(Op.bytesLess aY.Left aa.Left||aY.Left==aa.Left))||((aY.Left==aa.Left)&&(!(Op.bytesLess aY.cf aa.cf)))) (some false) (cm λn=>r0 jl j aa n eM 0)) (cm λn=>r0 jl j aa n eM 0))))) (some true)
def p_ (j:ahQ):Nat->Int->ahD
 |0,_=>none
 |n+1,eM=>GV (p_ j n) j eM
def Cc (j:ahQ):ahD:=
 cond (decide (6<(j.length:Int))) (some false) (cm λn=>p_ j n 0)
def zD (j:ahB):Option ahB:=
 (room 8 (j.length)).bind λ_=>some j
def wR (j:ahO):Option ahO:=
 (room 16 (j.length)).bind λ_=>some j
def GW (c0:ahK->Int->Option ahK) (j bH:ahK) (cN:Int):Option ahK:=
 cond (decide (cN<(j.length:Int))) ((bZ j cN).bind λaa=>(wR aa).bind λak=>(room 24 (bH.length+1)).bind λ_=>c0 (bH++[ak]) (i64.wrap (cN+1))) (some bH)
def wS (j:ahK):Nat->ahK->Int->Option ahK
 |0,_,_=>none
 |n+1,bH,cN=>GW (wS j n) j bH cN
def zE (j:ahK):Option ahK:=
 cm λn=>wS j n [] 0
def GX (j:aN):Option aN:=
 (zD j.a5).bind λaa=>(wR j.Guard).bind λak=>(zE j.aW).bind λaL=>(zE j.Next).bind λa2=>some (aN.mk aa ak j.Name aL a2)
def Cd (c0:ahO->Int->Option ahO) (J aB:Int) (wT:ahO) (wU:Int):Option ahO:=
 c0 wT (i64.wrap (wU+1))
def GY (c0:ahO->Int->Option ahO) (J aB:Int) (mB:ahO) (fZ:Int):Option ahO:=
 cond (decide (fZ<(mB.length:Int))) ((bZ mB fZ).bind λak=>cond ((ak.Kind==1)&&(decide (J<=ak.Value))) (Cd c0 J aB (List.set mB (Int.toNat fZ) (ar.mk ak.Kind (i64.wrap (ak.Value+aB)))) fZ) (Cd c0 J aB mB fZ)) (some mB)
def uZ (J aB:Int):Nat->ahO->Int->Option ahO
 |0,_,_=>none
 |n+1,mB,fZ=>GY (uZ J aB n) J aB mB fZ
def wV (j:ahO) (J aB:Int):Option ahO:=
 (wR j).bind λaa=>cm λn=>uZ J aB n aa 0
def GZ (G0:ahK->ahK->Int->Option aN) (j:aN) (J aB:Int) (aa:aN) (ak:ahO) (o8 oc:ahK) (l5:Int):Option aN:=
 cond (decide (l5<(j.Next.length:Int))) ((bZ j.Next l5).bind λbj=>(wV bj J aB).bind λbq=>(bZ oc l5).bind λcn=>G0 o8 (List.set oc (Int.toNat l5) bq) (i64.wrap (l5+1))) (some (aN.mk aa.a5 ak aa.Name o8 oc))
def u0 (j:aN) (J aB:Int) (aa:aN) (ak:ahO):Nat->ahK->ahK->Int->Option aN
 |0,_,_,_=>none
 |n+1,o8,oc,l5=>GZ (u0 j J aB aa ak n) j J aB aa ak o8 oc l5
def G1 (iD:ahK->Int->Option aN) (j:aN) (J aB:Int) (aa:aN) (ak:ahO) (od:ahK) (iT:Int):Option aN:=
 cond (decide (iT<(j.aW.length:Int))) ((bZ j.aW iT).bind λaL=>(wV aL J aB).bind λa2=>(bZ od iT).bind λaY=>iD (List.set od (Int.toNat iT) a2) (i64.wrap (iT+1))) (cm λn=>u0 j J aB aa ak n od aa.Next 0)
def wW (j:aN) (J aB:Int) (aa:aN) (ak:ahO):Nat->ahK->Int->Option aN
 |0,_,_=>none
 |n+1,od,iT=>G1 (wW j J aB aa ak n) j J aB aa ak od iT
def tg (j:aN) (J aB:Int):Option aN:=
 (GX j).bind λaa=>(wV j.Guard J aB).bind λak=>cm λn=>wW j J aB aa ak n aa.aW 0
def G2 (j:Int):Option ahO:=
 some [(ar.mk 1 j)]
def G3 (c0:ahK->Int->Option ahK) (j J:Int) (bX:ahK) (oe:Int):Option ahK:=
 cond (decide (oe<J)) ((G2 (i64.wrap (j+oe))).bind λaa=>(room 24 (bX.length+1)).bind λ_=>c0 (bX++[aa]) (i64.wrap (oe+1))) (some bX)
def wX (j J:Int):Nat->ahK->Int->Option ahK
 |0,_,_=>none
 |n+1,bX,oe=>G3 (wX j J n) j J bX oe
def zF (j J:Int):Option ahK:=
 cm λn=>wX j J n [] 0
def G4 (XU:ahP->Int->Option a8) (j J:a8) (aa:ahB) (l6:ahP) (mC:Int):Option a8:=
 cond (decide (mC<(J.aU.length:Int))) ((bZ J.aU mC).bind λaY=>(tg aY 0 j.aE).bind λbj=>(zF 0 j.aE).bind λbq=>(room 24 (bq.length+bj.Next.length)).bind λ_=>(room 112 (l6.length+1)).bind λ_=>XU (l6++[(aN.mk bj.a5 bj.Guard bj.Name bj.aW (bq++bj.Next))]) (i64.wrap (mC+1))) (some (a8.mk (i64.wrap (j.aE+J.aE)) (aa++J.Start) l6))
def wY (j J:a8) (aa:ahB):Nat->ahP->Int->Option a8
 |0,_,_=>none
 |n+1,l6,mC=>G4 (wY j J aa n) j J aa l6 mC
def G5 (iD:ahP->Int->Option a8) (j J:a8) (aa:ahB) (l7:ahP) (h2:Int):Option a8:=
 cond (decide (h2<(j.aU.length:Int))) ((bZ j.aU h2).bind λak=>(tg ak j.aE J.aE).bind λaL=>(zF j.aE J.aE).bind λa2=>(room 24 (aL.Next.length+a2.length)).bind λ_=>(room 112 (l7.length+1)).bind λ_=>iD (l7++[(aN.mk aL.a5 aL.Guard aL.Name aL.aW (aL.Next++a2))]) (i64.wrap (h2+1))) (cm λn=>wY j J aa n l7 0)
def wZ (j J:a8) (aa:ahB):Nat->ahP->Int->Option a8
 |0,_,_=>none
 |n+1,l7,h2=>G5 (wZ j J aa n) j J aa l7 h2
def Ce (j J:a8):Option a8:=
 (zD j.Start).bind λaa=>(room 8 (aa.length+J.Start.length)).bind λ_=>cm λn=>wZ j J aa n [] 0
def G6 (q0:ahQ->ahz->ahz->Option ahz) (jl:Int->Option ahz) (j:ahQ) (J aB:ahz) (qa:Int):Option ahz:=
 cond (decide (qa<(j.length:Int))) ((bZ j qa).bind λak=>cond ((ak.Left==J)&&(ak.cf==aB)) (some ak.Result) (jl (i64.wrap (qa+1)))) (some ([]:ahz))
def w1 (q0:ahQ->ahz->ahz->Option ahz) (j:ahQ) (J aB:ahz):Nat->Int->Option ahz
 |0,_=>none
 |n+1,qa=>G6 q0 (w1 q0 j J aB n) j J aB qa
def u1 (q0:ahQ->ahz->ahz->Option ahz) (j:ahQ) (J aB:ahz):Option ahz:=
 cond (!(Op.bytesLess J aB||J==aB)) ((q0 j aB J).bind λaa=>some aa) (cm λn=>w1 q0 j J aB n 0)
def w2:Nat->ahQ->ahz->ahz->Option ahz
 |0,_,_,_=>none
 |n+1,j,J,aB=>u1 (w2 n) j J aB
def Cf (j:ahQ) (J aB:ahz):Option ahz:=
 cm λn=>w2 n j J aB
def Cg (lL:ahO->Int->Option ahO) (j:ahK) (r1:ahO) (r2:Int):Option ahO:=
 (bZ j r2).bind λaa=>(room 16 (r1.length+aa.length)).bind λ_=>lL (r1++aa) (i64.wrap (r2+1))
def G7 (lL:ahO->Int->Option ahO) (j:ahK) (jk:ahO) (jU:Int):Option ahO:=
 cond (decide (jU<(j.length:Int))) (cond (decide ((i64.wrap (jU+1))<(j.length:Int))) ((room 16 (jk.length+1)).bind λ_=>Cg lL j (jk++[(ar.mk 2 7)]) jU) (Cg lL j jk jU)) (some jk)
def u2 (j:ahK):Nat->ahO->Int->Option ahO
 |0,_,_=>none
 |n+1,jk,jU=>G7 (u2 j n) j jk jU
def w3 (j:ahK):Option ahO:=
 cond ((j.length:Int)==0) (some [(ar.mk 0 1)]) (cm λn=>u2 j n [] 0)
def G8 (XV:(List (Bool×ahO))->ahK->Int->Option (ahB×ahO×ahz×ahK×ahK)) (ed:ahz) (dd:Int) (dA:ahB) (dt:ahP) (a6:Int) (a7:ahB) (cF:ahP) (hP:ahB) (ic:ahO) (ie:ahz) (ig ij:ahK) (ik:ahB) (il:ahO) (im:ahz) (iq ir:ahK) (aa aL:aN) (nJ:List (Bool×ahO)) (m8:ahK) (kX:Int):Option (ahB×ahO×ahz×ahK×ahK):=
 cond (decide (kX<(aa.aW.length:Int))) ((bZ aa.aW kX).bind λa2=>(room 16 (1+a2.length)).bind λ_=>(bZ nJ kX).bind λaY=>(nk (!aY.1)).bind λ_=>(room 16 (([(ar.mk 2 3)]++a2).length+aY.2.length)).bind λ_=>(room 24 (m8.length+1)).bind λ_=>XV (List.set nJ (Int.toNat kX) (true,aY.2)) (m8++[(([(ar.mk 2 3)]++a2)++aY.2)]) (i64.wrap (kX+1))) ((w3 m8).bind λbj=>(room 24 (aa.Next.length+aL.Next.length)).bind λ_=>some ((aa.a5++aL.a5),bj,ed,aa.aW,(aa.Next++aL.Next)))
def u3 (ed:ahz) (dd:Int) (dA:ahB) (dt:ahP) (a6:Int) (a7:ahB) (cF:ahP) (hP:ahB) (ic:ahO) (ie:ahz) (ig ij:ahK) (ik:ahB) (il:ahO) (im:ahz) (iq ir:ahK) (aa aL:aN):Nat->(List (Bool×ahO))->ahK->Int->Option (ahB×ahO×ahz×ahK×ahK)
 |0,_,_,_=>none
 |n+1,nJ,m8,kX=>G8 (u3 ed dd dA dt a6 a7 cF hP ic ie ig ij ik il im iq ir aa aL n) ed dd dA dt a6 a7 cF hP ic ie ig ij ik il im iq ir aa aL nJ m8 kX
def Ch (dd:Int) (dA:ahB) (dt:ahP) (a6:Int) (a7:ahB) (cF:ahP) (hP:ahB) (ic:ahO) (ie:ahz) (ig ij:ahK) (ik:ahB) (il:ahO) (im:ahz) (iq ir:ahK) (ed:ahz):Option (ahB×ahO×ahz×ahK×ahK):=
 (tg (aN.mk hP ic ie ig ij) dd a6).bind λaa=>(tg (aN.mk ik il im iq ir) 0 dd).bind λak=>(tg ak (i64.wrap (dd+a6)) (hP.length:Int)).bind λaL=>(room 8 (aa.a5.length+aL.a5.length)).bind λ_=>cm λn=>u3 ed dd dA dt a6 a7 cF hP ic ie ig ij ik il im iq ir aa aL n (map (λx=>(false,x)) aL.aW) [aa.Guard,aL.Guard] 0
def Ci (c0:ahP->Int->Option (Int×ahB×ahP×Bool)) (Cj:ahP->Int->Int->Option (Int×ahB×ahP×Bool)) (aB:ahQ) (dd:Int) (dA:ahB) (dt:ahP) (a6:Int) (a7:ahB) (cF:ahP) (aa:a8) (w4:ahP) (w5 w6:Int):Option (Int×ahB×ahP×Bool):=
 Cj w4 w5 (i64.wrap (w6+1))
def G9 (c0:ahP->Int->Option (Int×ahB×ahP×Bool)) (Cj:ahP->Int->Int->Option (Int×ahB×ahP×Bool)) (aB:ahQ) (dd:Int) (dA:ahB) (dt:ahP) (a6:Int) (a7:ahB) (cF:ahP) (aa:a8) (ll:ahP) (l8 mD:Int):Option (Int×ahB×ahP×Bool):=
 cond (decide (mD<(cF.length:Int))) ((bZ dt l8).bind λak=>(bZ cF mD).bind λaL=>(Cf aB ak.Name aL.Name).bind λa2=>cond ((a2==([]:ahz))||((ak.aW.length:Int) !=(aL.aW.length:Int))) (Ci c0 Cj aB dd dA dt a6 a7 cF aa ll l8 mD) ((Ch dd dA dt a6 a7 cF ak.a5 ak.Guard ak.Name ak.aW ak.Next aL.a5 aL.Guard aL.Name aL.aW aL.Next a2).bind λaY=>(room 112 (ll.length+1)).bind λ_=>cond (decide (60<((ll++[(aN.mk aY.1 aY.2.1 aY.2.2.1 aY.2.2.2.1 aY.2.2.2.2)]).length:Int))) (some (0,[],[],false)) (Ci c0 Cj aB dd dA dt a6 a7 cF aa (ll++[(aN.mk aY.1 aY.2.1 aY.2.2.1 aY.2.2.2.1 aY.2.2.2.2)]) l8 mD))) (c0 ll (i64.wrap (l8+1)))
def r3 (c0:ahP->Int->Option (Int×ahB×ahP×Bool)) (aB:ahQ) (dd:Int) (dA:ahB) (dt:ahP) (a6:Int) (a7:ahB) (cF:ahP) (aa:a8):Nat->ahP->Int->Int->Option (Int×ahB×ahP×Bool)
 |0,_,_,_=>none
 |n+1,ll,l8,mD=>G9 c0 (r3 c0 aB dd dA dt a6 a7 cF aa n) aB dd dA dt a6 a7 cF aa ll l8 mD
def G_ (c0:ahP->Int->Option (Int×ahB×ahP×Bool)) (aB:ahQ) (dd:Int) (dA:ahB) (dt:ahP) (a6:Int) (a7:ahB) (cF:ahP) (aa:a8) (fZ:ahP) (kY:Int):Option (Int×ahB×ahP×Bool):=
 cond (decide (kY<(dt.length:Int))) (cm λn=>r3 c0 aB dd dA dt a6 a7 cF aa n fZ kY 0) ((uY (a8.mk aa.aE aa.Start fZ)).bind λbj=>some (aa.aE,aa.Start,fZ,bj))
def qb (aB:ahQ) (dd:Int) (dA:ahB) (dt:ahP) (a6:Int) (a7:ahB) (cF:ahP) (aa:a8):Nat->ahP->Int->Option (Int×ahB×ahP×Bool)
 |0,_,_=>none
 |n+1,fZ,kY=>G_ (qb aB dd dA dt a6 a7 cF aa n) aB dd dA dt a6 a7 cF aa fZ kY
def Ck (dd:Int) (dA:ahB) (dt:ahP) (a6:Int) (a7:ahB) (cF:ahP) (aB:ahQ):Option (Int×ahB×ahP×Bool):=
 (Ce (a8.mk dd dA dt) (a8.mk a6 a7 cF)).bind λaa=>cm λn=>qb aB dd dA dt a6 a7 cF aa n aa.aU 0
def Cl (j J:a8) (aB:ahQ):Option (Int×ahB×ahP×Int):=
 (uY j).bind λaa=>cond (!aa) (some (0,[],[],1)) ((uY J).bind λak=>cond (!ak) (some (0,[],[],1)) ((Cc aB).bind λaL=>cond (!aL) (some (0,[],[],2)) ((Ck j.aE j.Start j.aU J.aE J.Start J.aU aB).bind λa2=>cond (!a2.2.2.2) (some (0,[],[],5)) (some (a2.1,a2.2.1,a2.2.2.1,0)))))
def og (j J aB:Int):ahD:=
 some ((decide (J<=j))&&(decide (j<=aB)))
def Cm (j:Int):ahD:=
 (og j 0 63).bind λaa=>some aa
def Ha (j:Int):ahD:=
 (Cm j).bind λaa=>some (!aa)
def N5 (dW:Int->ahE) (j:ahB) (eg:Int):ahE:=
 cond (decide (eg<(j.length:Int))) ((bZ j eg).bind λaa=>(Ha aa).bind λak=>cond ak (some eg) (dW (i64.wrap (eg+1)))) (some (-1))
def Cn (j:ahB):Nat->Int->ahE
 |0,_=>none
 |n+1,eg=>N5 (Cn j n) j eg
def Hb (j:ahB):ahE:=
 cm λn=>Cn j n 0
def Hc (j:ahB):ahD:=
 (Hb j).bind λaa=>some (decide (0<=aa))
def Hd (j:ahB):ahD:=
 (Hc j).bind λaa=>some (!aa)
def Co (j:a8) (J:ahB):ahD:=
 cond ((J.length:Int)==j.aE) ((Hd J).bind λaa=>some aa) (some false)
def He (c0:Int->Int->ahD) (j:aN) (bH kY:Int):ahD:=
 cond (decide (kY<(j.a5.length:Int))) ((bZ j.a5 kY).bind λaa=>(og aa 1 7).bind λak=>cond (!ak) (some false) (c0 (i64.wrap (bH*(i64.wrap (aa+1)))) (i64.wrap (kY+1)))) (some ((decide ((j.a5.length:Int)<=8))&&(decide (bH<=4096))))
def w7 (j:aN):Nat->Int->Int->ahD
 |0,_,_=>none
 |n+1,bH,kY=>He (w7 j n) j bH kY
def Cp (j:aN):ahD:=
 cm λn=>w7 j n 1 0
def Hf (j:UInt8):ahD:=
 some ((decide (48<=(j.toNat:Int)))&&(decide ((j.toNat:Int)<=57)))
def Cq (dW:Int->ahD) (j:ahz) (gT:Int):ahD:=
 cond (decide (gT<(j.length:Int))) ((bZ j gT).bind λaa=>cond (!((decide (97<=(aa.toNat:Int)))&&(decide ((aa.toNat:Int)<=122)))) (cond (gT==0) (some false) ((Hf aa).bind λak=>cond (!ak) (some false) (dW (i64.wrap (gT+1))))) (dW (i64.wrap (gT+1)))) (some ((decide (1<=(j.length:Int)))&&(decide ((j.length:Int)<=10))))
def th (j:ahz):Nat->Int->ahD
 |0,_=>none
 |n+1,gT=>Cq (th j n) j gT
def Cr (j:ahz):ahD:=
 cm λn=>th j n 0
def r4 (j:ahz):ahD:=
 (Cr j).bind λaa=>some (aa&&(!(j==([116,97,117]:ahz))))
def Cs:Option Unit:=
 some ()
def Hg (J:Int):Option Unit:=
 cond (decide (0<(i64.wrap (J-(i64.wrap 0))))) ((lv 24 (i64.wrap (J-(i64.wrap 0)))).bind λ_=>Cs) (Cs)
def zG (J:Int):Option Unit:=
 cond (decide (J<0)) (none) (Hg J)
def Hh (c0:Int->Int->Option ahK) (j:List ahK) (i5 i6:Int) (ln:Bool):Option ahK:=
 c0 i5 (i64.wrap (i6+1))
def Hi (m9:ahK->Int->Option ahK) (j:List ahK) (eV:ahK) (eO:Int):Option ahK:=
 cond (decide (eO<(j.length:Int))) ((bZ j eO).bind λaL=>(room 24 (eV.length+aL.length)).bind λ_=>m9 (eV++aL) (i64.wrap (eO+1))) (some eV)
def u4 (j:List ahK):Nat->ahK->Int->Option ahK
 |0,_,_=>none
 |n+1,eV,eO=>Hi (u4 j n) j eV eO
def Hj (c0:Int->Int->Option ahK) (j:List ahK) (bH eh:Int):Option ahK:=
 cond (decide (eh<(j.length:Int))) ((bZ j eh).bind λaa=>cond (decide ((i64.wrap (bH+(aa.length:Int)))<0)) (none) (Hh c0 j (i64.wrap (bH+(aa.length:Int))) eh (decide ((i64.wrap (bH+(aa.length:Int)))<0)))) ((zG bH).bind λak=>cm λn=>u4 j n [] 0)
def u5 (j:List ahK):Nat->Int->Int->Option ahK
 |0,_,_=>none
 |n+1,bH,eh=>Hj (u5 j n) j bH eh
def Ct (j:List ahK):Option ahK:=
 cm λn=>u5 j n 0 0
def w8 (j:aN):Option ahK:=
 (Ct [[j.Guard],j.aW,j.Next]).bind λaa=>some aa
def Cu (j:ar) (J:Int):ahD:=
 cond (j.Kind==0) ((Cm j.Value).bind λaa=>some aa) (cond (j.Kind==1) ((og j.Value 0 (i64.wrap (J-1))).bind λak=>some ak) (cond (j.Kind==2) ((og j.Value 0 8).bind λaL=>some aL) (cond (j.Kind==3) (some (j.Value==0)) (some false))))
def Hk (j:ar):ahE:=
 cond (j.Kind==2) (some 2) (cond (j.Kind==3) (some 1) (some 0))
def Hl (lL:Int->Int->ahD) (j:ahO) (J kb q1:Int):ahD:=
 cond (decide (q1<(j.length:Int))) ((bZ j q1).bind λa2=>cond (kb==0) (some false) ((Cu a2 J).bind λaY=>cond (!aY) (some false) ((Hk a2).bind λbj=>lL (i64.wrap (kb+(i64.wrap (bj-1)))) (i64.wrap (q1+1))))) (some (kb==0))
def w9 (j:ahO) (J:Int):Nat->Int->Int->ahD
 |0,_,_=>none
 |n+1,kb,q1=>Hl (w9 j J n) j J kb q1
def Cv (j:ahO) (J aB:Int):ahD:=
 (og J 0 29).bind λaa=>cond (!aa) (some false) ((og aB 1 60).bind λak=>cond (!ak) (some false) ((og (j.length:Int) 1 aB).bind λaL=>cond (!aL) (some false) (cm λn=>w9 j J n 1 0)))
def Cw (j:ahO) (J:Int) (aB:aN):ahD:=
 (Cv j (i64.wrap (J+(aB.a5.length:Int))) 60).bind λaa=>some (!aa)
def N6 (dW:Int->ahE) (j:ahK) (a6:Int) (a7:aN) (eg:Int):ahE:=
 cond (decide (eg<(j.length:Int))) ((bZ j eg).bind λaa=>(Cw aa a6 a7).bind λak=>cond ak (some eg) (dW (i64.wrap (eg+1)))) (some (-1))
def Cx (j:ahK) (a6:Int) (a7:aN):Nat->Int->ahE
 |0,_=>none
 |n+1,eg=>N6 (Cx j a6 a7 n) j a6 a7 eg
def Hm (j:ahK) (a6:Int) (a7:aN):ahE:=
 cm λn=>Cx j a6 a7 n 0
def u6 (j:ahK) (a6:Int) (a7:aN):ahD:=
 (Hm j a6 a7).bind λaa=>some (decide (0<=aa))
def Cy (j:aN) (J:Int):ahD:=
 (Cp j).bind λaa=>cond ((!aa)||((j.Next.length:Int) !=J)) (some false) (cond (decide (0<(j.aW.length:Int))) (cond (j.Name==([116,97,117]:ahz)) (some false) (cond (decide (2<(j.aW.length:Int))) (some false) ((r4 j.Name).bind λak=>cond (!ak) (some false) ((w8 j).bind λaL=>(u6 aL J j).bind λa2=>some (!a2))))) (cond (!(j.Name==([116,97,117]:ahz))) ((r4 j.Name).bind λaY=>cond (!aY) (some false) ((w8 j).bind λbj=>(u6 bj J j).bind λbq=>some (!bq))) ((w8 j).bind λcn=>(u6 cn J j).bind λcC=>some (!cC))))
def Cz (j:aN) (J:a8):ahD:=
 (Cy j J.aE).bind λaa=>some (!aa)
def N7 (dW:Int->ahE) (j:ahP) (J:a8) (eg:Int):ahE:=
 cond (decide (eg<(j.length:Int))) ((bZ j eg).bind λaa=>(Cz aa J).bind λak=>cond ak (some eg) (dW (i64.wrap (eg+1)))) (some (-1))
def CA (j:ahP) (J:a8):Nat->Int->ahE
 |0,_=>none
 |n+1,eg=>N7 (CA j J n) j J eg
def Hn (j:ahP) (J:a8):ahE:=
 cm λn=>CA j J n 0
def Ho (j:ahP) (J:a8):ahD:=
 (Hn j J).bind λaa=>some (decide (0<=aa))
def w_ (j:a8):ahD:=
 (og j.aE 0 21).bind λaa=>cond (!aa) (some false) ((Co j j.Start).bind λak=>cond ((!ak)||(decide (60<(j.aU.length:Int)))) (some false) ((Ho j.aU j).bind λaL=>some (!aL)))
def CB (j:ahz):ahD:=
 some false
def CC (j J:ahz):ahE:=
 (CB j).bind λaa=>(CB J).bind λak=>cond aa (cond ak (some 0) (some (-1))) (cond ak (some 1) (cond (Op.bytesLess j J) (some (-1)) (cond (!(Op.bytesLess j J||j==J)) (some 1) (some 0))))
def N8 (dW:Int->ahE) (j J:nq) (o9:Int):ahE:=
 cond (decide (o9<(j.length:Int))) ((bZ j o9).bind λaa=>cond (decide ((J.length:Int)<=o9)) (some 1) ((bZ J o9).bind λak=>(CC aa ak).bind λaL=>cond (aL !=0) (some aL) (dW (i64.wrap (o9+1))))) (cond (decide ((j.length:Int)<(J.length:Int))) (some (-1)) (some 0))
def CD (j J:nq):Nat->Int->ahE
 |0,_=>none
 |n+1,o9=>N8 (CD j J n) j J o9
def CE (j J:nq):ahE:=
 cm λn=>CD j J n 0
def CF (j J:bQ):ahE:=
 (CE [j.Left,j.cf] [J.Left,J.cf]).bind λaa=>some aa
def Hp (j J:bQ):ahD:=
 some ((j.Left==J.Result)||(j.cf==J.Result))
def Hq (dW:Int->ahE) (j:ahQ) (J:bQ) (eg:Int):ahE:=
 cond (decide (eg<(j.length:Int))) ((bZ j eg).bind λaa=>(Hp aa J).bind λak=>cond ak (some eg) (dW (i64.wrap (eg+1)))) (some (-1))
def zH (j:ahQ) (J:bQ):Nat->Int->ahE
 |0,_=>none
 |n+1,eg=>Hq (zH j J n) j J eg
def Hr (j:ahQ) (J:bQ):ahE:=
 cm λn=>zH j J n 0
def zI (j:ahQ) (J:bQ):ahD:=
 (Hr j J).bind λaa=>some (decide (0<=aa))
def Hs (dW:Int->ahD) (j:ahQ) (gT:Int):ahD:=
 cond (decide (gT<(j.length:Int))) ((bZ j gT).bind λaa=>(r4 aa.Left).bind λaY=>cond (!aY) (some false) ((r4 aa.cf).bind λbj=>cond (!bj) (some false) ((r4 aa.Result).bind λbq=>cond (!bq) (some false) (cond (!(Op.bytesLess aa.Left aa.cf||aa.Left==aa.cf)) (some false) (cond (decide (0<gT)) ((bZ j (i64.wrap (gT-1))).bind λcn=>(CF cn aa).bind λcC=>cond (decide (0<=cC)) (some false) ((zI j aa).bind λdw=>cond dw (some false) (dW (i64.wrap (gT+1))))) ((zI j aa).bind λey=>cond ey (some false) (dW (i64.wrap (gT+1))))))))) (some (decide ((j.length:Int)<=6)))
def xa (j:ahQ):Nat->Int->ahD
 |0,_=>none
 |n+1,gT=>Hs (xa j n) j gT
def CG (j:ahQ):ahD:=
 cm λn=>xa j n 0
def CH:Option ahB:=
 some []
def Ht (J:Int):Option ahB:=
 cond (decide (0<(i64.wrap (J-(i64.wrap 0))))) ((lv 8 (i64.wrap (J-(i64.wrap 0)))).bind λ_=>CH) (CH)
def CI (J:Int):Option ahB:=
 cond (decide (J<0)) (none) (Ht J)
def Hu (c0:Int->Int->Option ahB) (j:List ahB) (i5 i6:Int) (ln:Bool):Option ahB:=
 c0 i5 (i64.wrap (i6+1))
def Hv (m9:ahB->Int->Option ahB) (j:List ahB) (eV:ahB) (eO:Int):Option ahB:=
 cond (decide (eO<(j.length:Int))) ((bZ j eO).bind λaL=>(room 8 (eV.length+aL.length)).bind λ_=>m9 (eV++aL) (i64.wrap (eO+1))) (some eV)
def u7 (j:List ahB):Nat->ahB->Int->Option ahB
 |0,_,_=>none
 |n+1,eV,eO=>Hv (u7 j n) j eV eO
def Hw (c0:Int->Int->Option ahB) (j:List ahB) (bH eh:Int):Option ahB:=
 cond (decide (eh<(j.length:Int))) ((bZ j eh).bind λaa=>cond (decide ((i64.wrap (bH+(aa.length:Int)))<0)) (none) (Hu c0 j (i64.wrap (bH+(aa.length:Int))) eh (decide ((i64.wrap (bH+(aa.length:Int)))<0)))) ((CI bH).bind λak=>cm λn=>u7 j n ak 0)
def u9 (j:List ahB):Nat->Int->Int->Option ahB
 |0,_,_=>none
 |n+1,bH,eh=>Hw (u9 j n) j bH eh
def ti (j:List ahB):Option ahB:=
 cm λn=>u9 j n 0 0
def zJ (j:Int):Option ahO:=
 some [(ar.mk 1 j)]
def qc (j:ahB):Option ahB:=
 cond j.isEmpty (both (some []) ((room 8 (j.length)).bind λ_=>some j)) ((room 8 (j.length)).bind λ_=>some j)
def Hx (j J aB:Int):Option ((Option ahO)):=
 cond (decide (j<J)) (some none) (some (some [(ar.mk 1 (i64.wrap (j+aB)))]))
def r5 (c0:ahO->Int->Option ahO) (j:ahO) (a6 a7:Int) (kc kd:ahO) (kr:Int):Option ahO:=
 (room 16 (kc.length+kd.length)).bind λ_=>c0 (kc++kd) (i64.wrap (kr+1))
def Hy (c0:ahO->Int->Option ahO) (j:ahO) (a6 a7:Int) (bX:ahO) (eh:Int):Option ahO:=
 cond (decide (eh<(j.length:Int))) ((bZ j eh).bind λaa=>cond (aa.Kind==1) ((Hx aa.Value a6 a7).bind λak=>Option.elim ak (r5 c0 j a6 a7 bX [aa] eh) (λaL=>cond aL.isEmpty (both (r5 c0 j a6 a7 bX [aa] eh) (r5 c0 j a6 a7 bX aL eh)) (r5 c0 j a6 a7 bX aL eh))) (r5 c0 j a6 a7 bX [aa] eh)) (some bX)
def r6 (j:ahO) (a6 a7:Int):Nat->ahO->Int->Option ahO
 |0,_,_=>none
 |n+1,bX,eh=>Hy (r6 j a6 a7 n) j a6 a7 bX eh
def Hz (j:ahO) (a6 a7:Int):Option ahO:=
 cm λn=>r6 j a6 a7 n [] 0
def tj (j:ahO) (J aB:Int):Option ahO:=
 (Hz j J aB).bind λaa=>some aa
def zK (j:aN) (J:ahO) (aB eb:a8):Option ahO:=
 (tj J aB.aE eb.aE).bind λaa=>some aa
def HA (c0:ahK->Int->Option ahK) (j:ahK) (aB:aN) (a6 a7:a8) (bX:ahK) (fi:Int):Option ahK:=
 cond (decide (fi<(j.length:Int))) ((bZ j fi).bind λaa=>(zK aB aa a6 a7).bind λak=>(room 24 (bX.length+1)).bind λ_=>c0 (bX++[ak]) (i64.wrap (fi+1))) (some bX)
def xb (j:ahK) (aB:aN) (a6 a7:a8):Nat->ahK->Int->Option ahK
 |0,_,_=>none
 |n+1,bX,fi=>HA (xb j aB a6 a7 n) j aB a6 a7 bX fi
def zL (j:ahK) (a6 a7:a8) (aB:aN):Option ahK:=
 cm λn=>xb j aB a6 a7 n [] 0
def HB (c0:ahP->Int->Option a8) (j a6 a7:a8) (aa:ahB) (bX:ahP) (fj:Int):Option a8:=
 cond (decide (fj<(j.aU.length:Int))) ((bZ j.aU fj).bind λak=>(qc ak.a5).bind λaL=>(zK ak ak.Guard a6 a7).bind λa2=>(zL ak.aW a6 a7 ak).bind λaY=>(zL ak.Next a6 a7 ak).bind λbj=>(room 112 (bX.length+1)).bind λ_=>c0 (bX++[(aN.mk aL a2 ak.Name aY bj)]) (i64.wrap (fj+1))) (some (a8.mk j.aE aa bX))
def xc (j a6 a7:a8) (aa:ahB):Nat->ahP->Int->Option a8
 |0,_,_=>none
 |n+1,bX,fj=>HB (xc j a6 a7 aa n) j a6 a7 aa bX fj
def zM (j a6 a7:a8):Option a8:=
 (qc j.Start).bind λaa=>cm λn=>xc j a6 a7 aa n [] 0
def zN (j:ahO):Option ahO:=
 cond j.isEmpty (both (some []) ((room 16 (j.length)).bind λ_=>some j)) ((room 16 (j.length)).bind λ_=>some j)
def HC (c0:ahK->Int->Option ahK) (j bH:ahK) (fZ:Int):Option ahK:=
 cond (decide (fZ<(j.length:Int))) ((bZ j fZ).bind λaa=>(zN aa).bind λak=>(room 24 (bH.length+1)).bind λ_=>c0 (bH++[ak]) (i64.wrap (fZ+1))) (some bH)
def xd (j:ahK):Nat->ahK->Int->Option ahK
 |0,_,_=>none
 |n+1,bH,fZ=>HC (xd j n) j bH fZ
def zO (j:ahK):Option ahK:=
 cm λn=>xd j n [] 0
def HD (c0:Int->Int->Option ahK) (j:List ahK) (i5 i6:Int) (ln:Bool):Option ahK:=
 c0 i5 (i64.wrap (i6+1))
def HE (m9:(List (Bool×ahK))->ahK->Int->Option ahK) (j:List ahK) (o_:List (Bool×ahK)) (eV:ahK) (eO:Int):Option ahK:=
 cond (decide (eO<(j.length:Int))) ((bZ o_ eO).bind λaL=>(nk (!aL.1)).bind λ_=>(room 24 (eV.length+aL.2.length)).bind λ_=>m9 (List.set o_ (Int.toNat eO) (true,aL.2)) (eV++aL.2) (i64.wrap (eO+1))) (some eV)
def u_ (j:List ahK):Nat->(List (Bool×ahK))->ahK->Int->Option ahK
 |0,_,_,_=>none
 |n+1,o_,eV,eO=>HE (u_ j n) j o_ eV eO
def HF (c0:Int->Int->Option ahK) (j:List ahK) (bH eh:Int):Option ahK:=
 cond (decide (eh<(j.length:Int))) ((bZ j eh).bind λaa=>cond (decide ((i64.wrap (bH+(aa.length:Int)))<0)) (none) (HD c0 j (i64.wrap (bH+(aa.length:Int))) eh (decide ((i64.wrap (bH+(aa.length:Int)))<0)))) ((zG bH).bind λak=>cm λn=>u_ j n (map (λx=>(false,x)) j) [] 0)
def va (j:List ahK):Nat->Int->Int->Option ahK
 |0,_,_=>none
 |n+1,bH,eh=>HF (va j n) j bH eh
def tk (j:List ahK):Option ahK:=
 cm λn=>va j n 0 0
def zP (j:aN) (J:ahO) (aB:a8):Option ahO:=
 (tj J 0 aB.aE).bind λaa=>some aa
def HG (c0:ahK->Int->Option ahK) (j:ahK) (J:a8) (aB:aN) (bX:ahK) (fi:Int):Option ahK:=
 cond (decide (fi<(j.length:Int))) ((bZ j fi).bind λaa=>(zP aB aa J).bind λak=>(room 24 (bX.length+1)).bind λ_=>c0 (bX++[ak]) (i64.wrap (fi+1))) (some bX)
def xe (j:ahK) (J:a8) (aB:aN):Nat->ahK->Int->Option ahK
 |0,_,_=>none
 |n+1,bX,fi=>HG (xe j J aB n) j J aB bX fi
def zQ (j:ahK) (J:a8) (aB:aN):Option ahK:=
 cm λn=>xe j J aB n [] 0
def HH (c0:ahP->Int->Option a8) (j J:a8) (aa:ahB) (bX:ahP) (fj:Int):Option a8:=
 cond (decide (fj<(j.aU.length:Int))) ((bZ j.aU fj).bind λak=>(qc ak.a5).bind λaL=>(zP ak ak.Guard J).bind λa2=>(zQ ak.aW J ak).bind λaY=>(zQ ak.Next J ak).bind λbj=>(room 112 (bX.length+1)).bind λ_=>c0 (bX++[(aN.mk aL a2 ak.Name aY bj)]) (i64.wrap (fj+1))) (some (a8.mk j.aE aa bX))
def xf (j J:a8) (aa:ahB):Nat->ahP->Int->Option a8
 |0,_,_=>none
 |n+1,bX,fj=>HH (xf j J aa n) j J aa bX fj
def CJ (j J:a8):Option a8:=
 (qc j.Start).bind λaa=>cm λn=>xf j J aa n [] 0
def HI (XW:ahP->ahK->(List (Bool×aN))->Int->Option a8) (j J:a8) (aa:ahB) (cn:a8) (na:ahP) (nK:ahK) (oh:List (Bool×aN)) (kZ:Int):Option a8:=
 cond (decide (kZ<(cn.aU.length:Int))) ((bZ oh kZ).bind λcC=>(nk (!cC.1)).bind λ_=>(zO nK).bind λdw=>(tk [dw,cC.2.Next]).bind λey=>(room 112 (na.length+1)).bind λ_=>XW (na++[(aN.mk cC.2.a5 cC.2.Guard cC.2.Name cC.2.aW ey)]) nK (List.set oh (Int.toNat kZ) (true,cC.2)) (i64.wrap (kZ+1))) (some (a8.mk (i64.wrap (j.aE+J.aE)) aa na))
def vb (j J:a8) (aa:ahB) (cn:a8):Nat->ahP->ahK->(List (Bool×aN))->Int->Option a8
 |0,_,_,_,_=>none
 |n+1,na,nK,oh,kZ=>HI (vb j J aa cn n) j J aa cn na nK oh kZ
def HJ (GU:ahP->ahK->ahK->(List (Bool×aN))->Int->Option a8) (j J:a8) (aa:ahB) (a2:a8) (g9:ahP) (mE nL:ahK) (oj:List (Bool×aN)) (k1:Int):Option a8:=
 cond (decide (k1<(a2.aU.length:Int))) ((bZ oj k1).bind λaY=>(nk (!aY.1)).bind λ_=>(zO nL).bind λbj=>(tk [aY.2.Next,bj]).bind λbq=>(room 112 (g9.length+1)).bind λ_=>GU (g9++[(aN.mk aY.2.a5 aY.2.Guard aY.2.Name aY.2.aW bq)]) mE nL (List.set oj (Int.toNat k1) (true,aY.2)) (i64.wrap (k1+1))) ((CJ J j).bind λcn=>cm λn=>vb j J aa cn n g9 mE (map (λx=>(false,x)) cn.aU) 0)
def tm (j J:a8) (aa:ahB) (a2:a8):Nat->ahP->ahK->ahK->(List (Bool×aN))->Int->Option a8
 |0,_,_,_,_,_=>none
 |n+1,g9,mE,nL,oj,k1=>HJ (tm j J aa a2 n) j J aa a2 g9 mE nL oj k1
def HK (XX:ahK->ahK->Int->Option a8) (j J:a8) (aa:ahB) (nM nb:ahK) (om:Int):Option a8:=
 cond (decide (om<J.aE)) ((zJ (i64.wrap (j.aE+om))).bind λaL=>(room 24 (nb.length+1)).bind λ_=>XX nM (nb++[aL]) (i64.wrap (om+1))) ((zM j j J).bind λa2=>cm λn=>tm j J aa a2 n [] nM nb (map (λx=>(false,x)) a2.aU) 0)
def tn (j J:a8) (aa:ahB):Nat->ahK->ahK->Int->Option a8
 |0,_,_,_=>none
 |n+1,nM,nb,om=>HK (tn j J aa n) j J aa nM nb om
def HL (iD:ahK->Int->Option a8) (j J:a8) (aa:ahB) (h2:ahK) (oo:Int):Option a8:=
 cond (decide (oo<j.aE)) ((zJ oo).bind λak=>(room 24 (h2.length+1)).bind λ_=>iD (h2++[ak]) (i64.wrap (oo+1))) (cm λn=>tn j J aa n h2 [] 0)
def xg (j J:a8) (aa:ahB):Nat->ahK->Int->Option a8
 |0,_,_=>none
 |n+1,h2,oo=>HL (xg j J aa n) j J aa h2 oo
def CK (j J:a8):Option a8:=
 (ti [j.Start,J.Start]).bind λaa=>cm λn=>xg j J aa n [] 0
def N9 (j:bQ) (J aB:ahz):ahD:=
 some ((j.Left==(g4 false J aB))&&(j.cf==(g4 true J aB)))
def HM (dW:Int->ahE) (j:ahQ) (a6 a7:ahz) (eg:Int):ahE:=
 cond (decide (eg<(j.length:Int))) ((bZ j eg).bind λaa=>(N9 aa a6 a7).bind λak=>cond ak (some eg) (dW (i64.wrap (eg+1)))) (some (-1))
def xh (j:ahQ) (a6 a7:ahz):Nat->Int->ahE
 |0,_=>none
 |n+1,eg=>HM (xh j a6 a7 n) j a6 a7 eg
def HN (j:ahQ) (a6 a7:ahz):ahE:=
 cm λn=>xh j a6 a7 n 0
def CL (j:uV) (J aB:ahz):Option (ahz×Bool):=
 (HN j.lK J aB).bind λaa=>cond (decide (aa<0)) (some (([]:ahz),false)) ((bZ j.lK aa).bind λak=>some (ak.Result,true))
def zR (j:aN) (J:ahO) (aB eb:a8):Option ahO:=
 (tj J aB.aE eb.aE).bind λaa=>some aa
def HO (c0:ahK->Int->Option ahK) (j:ahK) (aB:aN) (a6 a7:a8) (bX:ahK) (fi:Int):Option ahK:=
 cond (decide (fi<(j.length:Int))) ((bZ j fi).bind λaa=>(zR aB aa a6 a7).bind λak=>(room 24 (bX.length+1)).bind λ_=>c0 (bX++[ak]) (i64.wrap (fi+1))) (some bX)
def xi (j:ahK) (aB:aN) (a6 a7:a8):Nat->ahK->Int->Option ahK
 |0,_,_=>none
 |n+1,bX,fi=>HO (xi j aB a6 a7 n) j aB a6 a7 bX fi
def zS (j:ahK) (a6 a7:a8) (aB:aN):Option ahK:=
 cm λn=>xi j aB a6 a7 n [] 0
def HP (c0:ahP->Int->Option a8) (j a6 a7:a8) (aa:ahB) (bX:ahP) (fj:Int):Option a8:=
 cond (decide (fj<(j.aU.length:Int))) ((bZ j.aU fj).bind λak=>(qc ak.a5).bind λaL=>(zR ak ak.Guard a6 a7).bind λa2=>(zS ak.aW a6 a7 ak).bind λaY=>(zS ak.Next a6 a7 ak).bind λbj=>(room 112 (bX.length+1)).bind λ_=>c0 (bX++[(aN.mk aL a2 ak.Name aY bj)]) (i64.wrap (fj+1))) (some (a8.mk j.aE aa bX))
def xj (j a6 a7:a8) (aa:ahB):Nat->ahP->Int->Option a8
 |0,_,_=>none
 |n+1,bX,fj=>HP (xj j a6 a7 aa n) j a6 a7 aa bX fj
def CM (j a6 a7:a8):Option a8:=
 (qc j.Start).bind λaa=>cm λn=>xj j a6 a7 aa n [] 0
def zT (j:aN) (J:ahO) (aB:a8) (eb:aN) (ed:a8):Option ahO:=
 (tj J aB.aE (eb.a5.length:Int)).bind λaa=>(tj aa 0 ed.aE).bind λak=>some ak
def HQ (c0:ahK->Int->Option ahK) (j:ahK) (aB:aN) (a6:a8) (a7:aN) (cF:a8) (bX:ahK) (fi:Int):Option ahK:=
 cond (decide (fi<(j.length:Int))) ((bZ j fi).bind λaa=>(zT aB aa a6 a7 cF).bind λak=>(room 24 (bX.length+1)).bind λ_=>c0 (bX++[ak]) (i64.wrap (fi+1))) (some bX)
def xk (j:ahK) (aB:aN) (a6:a8) (a7:aN) (cF:a8):Nat->ahK->Int->Option ahK
 |0,_,_=>none
 |n+1,bX,fi=>HQ (xk j aB a6 a7 cF n) j aB a6 a7 cF bX fi
def zU (j:ahK) (a6:a8) (a7:aN) (cF:a8) (aB:aN):Option ahK:=
 cm λn=>xk j aB a6 a7 cF n [] 0
def HR (c0:ahP->Int->Option a8) (j a6:a8) (a7:aN) (cF:a8) (aa:ahB) (bX:ahP) (fj:Int):Option a8:=
 cond (decide (fj<(j.aU.length:Int))) ((bZ j.aU fj).bind λak=>(qc ak.a5).bind λaL=>(zT ak ak.Guard a6 a7 cF).bind λa2=>(zU ak.aW a6 a7 cF ak).bind λaY=>(zU ak.Next a6 a7 cF ak).bind λbj=>(room 112 (bX.length+1)).bind λ_=>c0 (bX++[(aN.mk aL a2 ak.Name aY bj)]) (i64.wrap (fj+1))) (some (a8.mk j.aE aa bX))
def xl (j a6:a8) (a7:aN) (cF:a8) (aa:ahB):Nat->ahP->Int->Option a8
 |0,_,_=>none
 |n+1,bX,fj=>HR (xl j a6 a7 cF aa n) j a6 a7 cF aa bX fj
def CN (j a6:a8) (a7:aN) (cF:a8):Option a8:=
 (qc j.Start).bind λaa=>cm λn=>xl j a6 a7 cF aa n [] 0
def CO:Option ahO:=
 some []
def HS (J:Int):Option ahO:=
 cond (decide (0<(i64.wrap (J-(i64.wrap 0))))) ((lv 16 (i64.wrap (J-(i64.wrap 0)))).bind λ_=>CO) (CO)
def CP (J:Int):Option ahO:=
 cond (decide (J<0)) (none) (HS J)
def HT (c0:Int->Int->Option ahO) (j:ahK) (i5 i6:Int) (ln:Bool):Option ahO:=
 c0 i5 (i64.wrap (i6+1))
def HU (m9:ahO->Int->Option ahO) (j:ahK) (eV:ahO) (eO:Int):Option ahO:=
 cond (decide (eO<(j.length:Int))) ((bZ j eO).bind λaL=>(room 16 (eV.length+aL.length)).bind λ_=>m9 (eV++aL) (i64.wrap (eO+1))) (some eV)
def vc (j:ahK):Nat->ahO->Int->Option ahO
 |0,_,_=>none
 |n+1,eV,eO=>HU (vc j n) j eV eO
def HV (c0:Int->Int->Option ahO) (j:ahK) (bH eh:Int):Option ahO:=
 cond (decide (eh<(j.length:Int))) ((bZ j eh).bind λaa=>cond (decide ((i64.wrap (bH+(aa.length:Int)))<0)) (none) (HT c0 j (i64.wrap (bH+(aa.length:Int))) eh (decide ((i64.wrap (bH+(aa.length:Int)))<0)))) ((CP bH).bind λak=>cm λn=>vc j n ak 0)
def vd (j:ahK):Nat->Int->Int->Option ahO
 |0,_,_=>none
 |n+1,bH,eh=>HV (vd j n) j bH eh
def zV (j:ahK):Option ahO:=
 cm λn=>vd j n 0 0
def CQ (j J:ahO):Option ahO:=
 (zV [[(ar.mk 2 3)],j,J]).bind λaa=>some aa
def xm (CR:ahK->Option ahO) (j:ahK):Option ahO:=
 cond ((j.length:Int)==0) (some [(ar.mk 0 1)]) (cond ((j.length:Int)==1) ((bZ j 0).bind λaa=>(zN aa).bind λak=>some ak) ((bZ j 0).bind λaL=>(kv j 1 (j.length:Int)).bind λa2=>(CR a2).bind λaY=>(zV [[(ar.mk 2 7)],aL,aY]).bind λbj=>some bj))
def zW:Nat->ahK->Option ahO
 |0,_=>none
 |n+1,j=>xm (zW n) j
def xn (j:ahK):Option ahO:=
 cm λn=>zW n j
def HW (lL:ahK->Int->Option aN) (ed:ahz) (ak a2:aN) (nN:ahK) (nc:Int):Option aN:=
 cond (decide (nc<(ak.aW.length:Int))) ((bZ ak.aW nc).bind λaY=>(bZ a2.aW nc).bind λbj=>(CQ aY bj).bind λbq=>(room 24 (nN.length+1)).bind λ_=>lL (nN++[bq]) (i64.wrap (nc+1))) ((ti [ak.a5,a2.a5]).bind λcn=>(xn nN).bind λcC=>(tk [ak.Next,a2.Next]).bind λdw=>some (aN.mk cn cC ed ak.aW dw))
def ve (ed:ahz) (ak a2:aN):Nat->ahK->Int->Option aN
 |0,_,_=>none
 |n+1,nN,nc=>HW (ve ed ak a2 n) ed ak a2 nN nc
def CS (j J:a8) (aB eb:aN) (ed:ahz):Option aN:=
 (CM (a8.mk j.aE [] [aB]) j J).bind λaa=>(bZ aa.aU 0).bind λak=>(CN (a8.mk J.aE [] [eb]) J aB j).bind λaL=>(bZ aL.aU 0).bind λa2=>cm λn=>ve ed ak a2 n [ak.Guard,a2.Guard] 0
def CT (iD:a8->Int->Option a8) (CU:a8->Int->Int->Option a8) (j J:a8) (aB:ahQ) (ak:aN) (xo:a8) (xp xq:Int):Option a8:=
 CU xo xp (i64.wrap (xq+1))
def HX (iD:a8->Int->Option a8) (CU:a8->Int->Int->Option a8) (j J:a8) (aB:ahQ) (ak:aN) (ke:a8) (nO nP:Int):Option a8:=
 cond (decide (nP<(J.aU.length:Int))) ((bZ J.aU nP).bind λaL=>(CL (uV.mk [] [] aB [] []) ak.Name aL.Name).bind λa2=>cond ((a2.2&&((ak.aW.length:Int)==(aL.aW.length:Int)))&&(decide ((ke.aU.length:Int)<=60))) ((CS j J ak aL a2.1).bind λaY=>(room 112 (ke.aU.length+1)).bind λ_=>CT iD CU j J aB ak (a8.mk ke.aE ke.Start (ke.aU++[aY])) nO nP) (CT iD CU j J aB ak ke nO nP)) (iD ke (i64.wrap (nO+1)))
def tp (iD:a8->Int->Option a8) (j J:a8) (aB:ahQ) (ak:aN):Nat->a8->Int->Int->Option a8
 |0,_,_,_=>none
 |n+1,ke,nO,nP=>HX iD (tp iD j J aB ak n) j J aB ak ke nO nP
def HY (iD:a8->Int->Option a8) (j J:a8) (aB:ahQ) (iT:a8) (q2:Int):Option a8:=
 cond (decide (q2<(j.aU.length:Int))) ((bZ j.aU q2).bind λak=>cm λn=>tp iD j J aB ak n iT q2 0) (some iT)
def qd (j J:a8) (aB:ahQ):Nat->a8->Int->Option a8
 |0,_,_=>none
 |n+1,iT,q2=>HY (qd j J aB n) j J aB iT q2
def CV (j J:a8) (aB:ahQ):Option a8:=
 (CK j J).bind λaa=>cm λn=>qd j J aB n aa 0
def zX (j J:a8) (aB:ahQ):Option (a8×Int):=
 (w_ j).bind λaa=>cond (!aa) (some ((a8.mk 0 [] []),1)) ((w_ J).bind λak=>cond (!ak) (some ((a8.mk 0 [] []),1)) ((CG aB).bind λaL=>cond (!aL) (some ((a8.mk 0 [] []),2)) ((CV j J aB).bind λa2=>(w_ a2).bind λaY=>cond (!aY) (some ((a8.mk 0 [] []),5)) (some (a2,0)))))
def XY (jl:Int->ahD) (j J:ahB) (eE:Int):ahD:=
 cond (decide (eE<(j.length:Int))) ((bZ j eE).bind λaa=>(bZ J eE).bind λak=>cond (aa !=ak) (some false) (jl (i64.wrap (eE+1)))) (some true)
def HZ (j J:ahB):Nat->Int->ahD
 |0,_=>none
 |n+1,eE=>XY (HZ j J n) j J eE
def zY (j J:ahB):ahD:=
 cond ((j.length:Int) !=(J.length:Int)) (some false) (cm λn=>HZ j J n 0)
def zZ (j J:ar):ahD:=
 cond (j.Kind !=J.Kind) (some false) (cond (j.Value !=J.Value) (some false) (some true))
def XZ (jl:Int->ahD) (j J:ahO) (eE:Int):ahD:=
 cond (decide (eE<(j.length:Int))) ((bZ j eE).bind λaa=>(bZ J eE).bind λak=>(zZ aa ak).bind λaL=>cond (!aL) (some false) (jl (i64.wrap (eE+1)))) (some true)
def H0 (j J:ahO):Nat->Int->ahD
 |0,_=>none
 |n+1,eE=>XZ (H0 j J n) j J eE
def xr (j J:ahO):ahD:=
 cond ((j.length:Int) !=(J.length:Int)) (some false) (cm λn=>H0 j J n 0)
def X0 (jl:Int->ahD) (j J:ahK) (eE:Int):ahD:=
 cond (decide (eE<(j.length:Int))) ((bZ j eE).bind λaa=>(bZ J eE).bind λak=>(xr aa ak).bind λaL=>cond (!aL) (some false) (jl (i64.wrap (eE+1)))) (some true)
def H2 (j J:ahK):Nat->Int->ahD
 |0,_=>none
 |n+1,eE=>X0 (H2 j J n) j J eE
def z0 (j J:ahK):ahD:=
 cond ((j.length:Int) !=(J.length:Int)) (some false) (cm λn=>H2 j J n 0)
def z1 (j J:aN):ahD:=
 (zY j.a5 J.a5).bind λaa=>cond (!aa) (some false) ((xr j.Guard J.Guard).bind λak=>cond (!ak) (some false) (cond (!(j.Name==J.Name)) (some false) ((z0 j.aW J.aW).bind λaL=>cond (!aL) (some false) ((z0 j.Next J.Next).bind λa2=>cond (!a2) (some false) (some true)))))
def X1 (jl:Int->ahD) (j J:ahP) (eE:Int):ahD:=
 cond (decide (eE<(j.length:Int))) ((bZ j eE).bind λaa=>(bZ J eE).bind λak=>(z1 aa ak).bind λaL=>cond (!aL) (some false) (jl (i64.wrap (eE+1)))) (some true)
def H3 (j J:ahP):Nat->Int->ahD
 |0,_=>none
 |n+1,eE=>X1 (H3 j J n) j J eE
def CW (j J:ahP):ahD:=
 cond ((j.length:Int) !=(J.length:Int)) (some false) (cm λn=>H3 j J n 0)
def tq (j J:a8):ahD:=
 cond (j.aE !=J.aE) (some false) ((zY j.Start J.Start).bind λaa=>cond (!aa) (some false) ((CW j.aU J.aU).bind λak=>cond (!ak) (some false) (some true)))
def z2 (j J:bQ):ahD:=
 cond (!(j.Left==J.Left)) (some false) (cond (!(j.cf==J.cf)) (some false) (cond (!(j.Result==J.Result)) (some false) (some true)))
def X2 (jl:Int->ahD) (j J:ahQ) (eE:Int):ahD:=
 cond (decide (eE<(j.length:Int))) ((bZ j eE).bind λaa=>(bZ J eE).bind λak=>(z2 aa ak).bind λaL=>cond (!aL) (some false) (jl (i64.wrap (eE+1)))) (some true)
def H4 (j J:ahQ):Nat->Int->ahD
 |0,_=>none
 |n+1,eE=>X2 (H4 j J n) j J eE
def CX (j J:ahQ):ahD:=
 cond ((j.length:Int) !=(J.length:Int)) (some false) (cm λn=>H4 j J n 0)
def H5 (dW:ahB->Int->Int->Option (Int×ahB)) (c6:ahB) (b4 bd:Int):Option (Int×ahB):=
 cond (decide (bd<(c6.length:Int))) ((bZ c6 bd).bind λaa=>dW (List.set c6 (Int.toNat bd) b4) (i64.wrap (b4+1)) (i64.wrap (bd+1))) (some (b4,c6))
def xt:Nat->ahB->Int->Int->Option (Int×ahB)
 |0,_,_,_=>none
 |n+1,c6,b4,bd=>H5 (xt n) c6 b4 bd
def z3 (j:ahB) (J:Int):Option (Int×ahB):=
 cm λn=>xt n j J 0
def H6 (dW:ahO->Int->Int->Option (Int×ahO)) (c6:ahO) (b4 bd:Int):Option (Int×ahO):=
 cond (decide (bd<(c6.length:Int))) ((bZ c6 bd).bind λaa=>(bZ (List.set c6 (Int.toNat bd) (ar.mk b4 aa.Value)) bd).bind λak=>dW (List.set (List.set c6 (Int.toNat bd) (ar.mk b4 aa.Value)) (Int.toNat bd) (ar.mk ak.Kind (i64.wrap (b4+1)))) (i64.wrap ((i64.wrap (b4+1))+1)) (i64.wrap (bd+1))) (some (b4,c6))
def xu:Nat->ahO->Int->Int->Option (Int×ahO)
 |0,_,_,_=>none
 |n+1,c6,b4,bd=>H6 (xu n) c6 b4 bd
def z4 (j:ahO) (J:Int):Option (Int×ahO):=
 cm λn=>xu n j J 0
def CY (jl:Int->ahz->Option ahz) (l9:Int) (eM:ahz):Option ahz:=
 cond (decide (0<l9)) ((qw (1+eM.length)).bind λ_=>jl (i64.wrap (Int.tdiv l9 10)) ([(rm (i64.wrap (48+(Int.tmod l9 10))))]++eM)) ((qw (1+eM.length)).bind λ_=>some (([109]:ahz)++eM))
def vf:Nat->Int->ahz->Option ahz
 |0,_,_=>none
 |n+1,l9,eM=>CY (vf n) l9 eM
def tr (j:Int):Option ahz:=
 cond (decide (j<=0)) (some ([109,48]:ahz)) (cm λn=>vf n j ([]:ahz))
def H7 (dW:ahK->Int->Int->Option (Int×ahK)) (c6:ahK) (b4 bd:Int):Option (Int×ahK):=
 cond (decide (bd<(c6.length:Int))) ((bZ c6 bd).bind λaa=>(z4 aa b4).bind λak=>dW (List.set c6 (Int.toNat bd) ak.2) ak.1 (i64.wrap (bd+1))) (some (b4,c6))
def xv:Nat->ahK->Int->Int->Option (Int×ahK)
 |0,_,_,_=>none
 |n+1,c6,b4,bd=>H7 (xv n) c6 b4 bd
def z5 (j:ahK) (J:Int):Option (Int×ahK):=
 cm λn=>xv n j J 0
def H8 (dW:ahP->Int->Int->Option (Int×ahP)) (c6:ahP) (b4 bd:Int):Option (Int×ahP):=
 cond (decide (bd<(c6.length:Int))) ((bZ c6 bd).bind λaa=>(z3 aa.a5 b4).bind λak=>(bZ (List.set c6 (Int.toNat bd) (aN.mk ak.2 aa.Guard aa.Name aa.aW aa.Next)) bd).bind λaL=>(z4 aL.Guard ak.1).bind λa2=>(tr a2.1).bind λaY=>(bZ (List.set (List.set c6 (Int.toNat bd) (aN.mk ak.2 aa.Guard aa.Name aa.aW aa.Next)) (Int.toNat bd) (aN.mk aL.a5 a2.2 aL.Name aL.aW aL.Next)) bd).bind λbj=>(bZ (List.set (List.set (List.set c6 (Int.toNat bd) (aN.mk ak.2 aa.Guard aa.Name aa.aW aa.Next)) (Int.toNat bd) (aN.mk aL.a5 a2.2 aL.Name aL.aW aL.Next)) (Int.toNat bd) (aN.mk bj.a5 bj.Guard aY bj.aW bj.Next)) bd).bind λbq=>(z5 bq.aW (i64.wrap (a2.1+1))).bind λcn=>(bZ (List.set (List.set (List.set (List.set c6 (Int.toNat bd) (aN.mk ak.2 aa.Guard aa.Name aa.aW aa.Next)) (Int.toNat bd) (aN.mk aL.a5 a2.2 aL.Name aL.aW aL.Next)) (Int.toNat bd) (aN.mk bj.a5 bj.Guard aY bj.aW bj.Next)) (Int.toNat bd) (aN.mk bq.a5 bq.Guard bq.Name cn.2 bq.Next)) bd).bind λcC=>(z5 cC.Next cn.1).bind λdw=>dW (List.set (List.set (List.set (List.set (List.set c6 (Int.toNat bd) (aN.mk ak.2 aa.Guard aa.Name aa.aW aa.Next)) (Int.toNat bd) (aN.mk aL.a5 a2.2 aL.Name aL.aW aL.Next)) (Int.toNat bd) (aN.mk bj.a5 bj.Guard aY bj.aW bj.Next)) (Int.toNat bd) (aN.mk bq.a5 bq.Guard bq.Name cn.2 bq.Next)) (Int.toNat bd) (aN.mk cC.a5 cC.Guard cC.Name cC.aW dw.2)) dw.1 (i64.wrap (bd+1))) (some (b4,c6))
def xw:Nat->ahP->Int->Int->Option (Int×ahP)
 |0,_,_,_=>none
 |n+1,c6,b4,bd=>H8 (xw n) c6 b4 bd
def CZ (j:ahP) (J:Int):Option (Int×ahP):=
 cm λn=>xw n j J 0
def xx (dd:Int) (dA:ahB) (dt:ahP) (J:Int):Option (Int×Int×ahB×ahP):=
 (z3 dA J).bind λaa=>(CZ dt aa.1).bind λak=>some (ak.1,dd,aa.2,ak.2)
def H9 (dW:ahQ->Int->Int->Option (Int×ahQ)) (c6:ahQ) (b4 bd:Int):Option (Int×ahQ):=
 cond (decide (bd<(c6.length:Int))) ((tr b4).bind λaa=>(bZ c6 bd).bind λak=>(tr (i64.wrap (b4+1))).bind λaL=>(bZ (List.set c6 (Int.toNat bd) (bQ.mk aa ak.cf ak.Result)) bd).bind λa2=>(tr (i64.wrap ((i64.wrap (b4+1))+1))).bind λaY=>(bZ (List.set (List.set c6 (Int.toNat bd) (bQ.mk aa ak.cf ak.Result)) (Int.toNat bd) (bQ.mk a2.Left aL a2.Result)) bd).bind λbj=>dW (List.set (List.set (List.set c6 (Int.toNat bd) (bQ.mk aa ak.cf ak.Result)) (Int.toNat bd) (bQ.mk a2.Left aL a2.Result)) (Int.toNat bd) (bQ.mk bj.Left bj.cf aY)) (i64.wrap ((i64.wrap ((i64.wrap (b4+1))+1))+1)) (i64.wrap (bd+1))) (some (b4,c6))
def xy:Nat->ahQ->Int->Int->Option (Int×ahQ)
 |0,_,_,_=>none
 |n+1,c6,b4,bd=>H9 (xy n) c6 b4 bd
def C0 (j:ahQ) (J:Int):Option (Int×ahQ):=
 cm λn=>xy n j J 0
def H_ (dW:Int->Int->ahE) (j:ahB) (b4 bd:Int):ahE:=
 cond (decide (bd<(j.length:Int))) ((bZ j bd).bind λaa=>cond (aa !=b4) (some (-1)) (dW (i64.wrap (b4+1)) (i64.wrap (bd+1)))) (some b4)
def xz (j:ahB):Nat->Int->Int->ahE
 |0,_,_=>none
 |n+1,b4,bd=>H_ (xz j n) j b4 bd
def z6 (j:ahB) (J:Int):ahE:=
 cm λn=>xz j n J 0
def Ia (dW:Int->Int->ahE) (j:ahO) (b4 bd:Int):ahE:=
 cond (decide (bd<(j.length:Int))) ((bZ j bd).bind λaa=>cond (aa.Kind !=b4) (some (-1)) (cond (aa.Value !=(i64.wrap (b4+1))) (some (-1)) (dW (i64.wrap ((i64.wrap (b4+1))+1)) (i64.wrap (bd+1))))) (some b4)
def xA (j:ahO):Nat->Int->Int->ahE
 |0,_,_=>none
 |n+1,b4,bd=>Ia (xA j n) j b4 bd
def z7 (j:ahO) (J:Int):ahE:=
 cm λn=>xA j n J 0
def Ib (dW:Int->Int->ahE) (j:ahK) (b4 bd:Int):ahE:=
 cond (decide (bd<(j.length:Int))) ((bZ j bd).bind λaa=>(z7 aa b4).bind λak=>cond (decide (ak<0)) (some (-1)) (dW ak (i64.wrap (bd+1)))) (some b4)
def xB (j:ahK):Nat->Int->Int->ahE
 |0,_,_=>none
 |n+1,b4,bd=>Ib (xB j n) j b4 bd
def z8 (j:ahK) (J:Int):ahE:=
 cm λn=>xB j n J 0
def Ic (dW:Int->Int->ahE) (j:ahP) (b4 bd:Int):ahE:=
 cond (decide (bd<(j.length:Int))) ((bZ j bd).bind λaa=>(z6 aa.a5 b4).bind λak=>cond (decide (ak<0)) (some (-1)) ((z7 aa.Guard ak).bind λaL=>cond (decide (aL<0)) (some (-1)) ((tr aL).bind λa2=>cond (!(aa.Name==a2)) (some (-1)) ((z8 aa.aW (i64.wrap (aL+1))).bind λaY=>cond (decide (aY<0)) (some (-1)) ((z8 aa.Next aY).bind λbj=>cond (decide (bj<0)) (some (-1)) (dW bj (i64.wrap (bd+1)))))))) (some b4)
def xC (j:ahP):Nat->Int->Int->ahE
 |0,_,_=>none
 |n+1,b4,bd=>Ic (xC j n) j b4 bd
def C1 (j:ahP) (J:Int):ahE:=
 cm λn=>xC j n J 0
def z9 (j:a8) (J:Int):ahE:=
 (z6 j.Start J).bind λaa=>cond (decide (aa<0)) (some (-1)) ((C1 j.aU aa).bind λak=>cond (decide (ak<0)) (some (-1)) (some ak))
def Ie (j J:l4) (aB:ahN):ahD:=
 (zq j 1048576).bind λaa=>cond (decide (aa<0)) (some true) ((zq J aa).bind λak=>cond (decide (ak<0)) (some true) ((B5 aB ak).bind λaL=>cond (decide (aL<0)) (some true) ((p8 j).bind λa2=>(p8 J).bind λaY=>(uW aB).bind λbj=>(Cl a2 aY bj).bind λbq=>(p8 j).bind λcn=>(p8 J).bind λcC=>(uW aB).bind λdw=>(zX cn cC dw).bind λey=>(tq ey.1 (a8.mk bq.1 bq.2.1 bq.2.2.1)).bind λC2=>cond ((!C2)||(ey.2 !=bq.2.2.2)) (some false) ((p8 j).bind λIg=>(tq cn Ig).bind λvg=>cond (!vg) (some false) ((p8 J).bind λqe=>(tq cC qe).bind λqf=>cond (!qf) (some false) ((uW aB).bind λxD=>(CX dw xD).bind λz_=>cond (!z_) (some false) ((xx cn.aE cn.Start cn.aU 1).bind λvh=>(xx cC.aE cC.Start cC.aU vh.1).bind λvi=>(C0 dw vi.1).bind λIh=>cond (decide (Ih.1<0)) (some false) ((tq ey.1 (a8.mk bq.1 bq.2.1 bq.2.2.1)).bind λxE=>cond ((!xE)||(ey.2 !=bq.2.2.2)) (some false) ((xx ey.1.aE ey.1.Start ey.1.aU 1).bind λhh=>(z9 (a8.mk hh.2.1 hh.2.2.1 hh.2.2.2) 1).bind λmF=>cond (decide (mF<0)) (some false) (cond (mF !=hh.1) (some false) ((p8 j).bind λC3=>(p8 J).bind λpa=>(uW aB).bind λxF=>(zX C3 pa xF).bind λpb=>(tq pb.1 (a8.mk bq.1 bq.2.1 bq.2.2.1)).bind λC4=>cond ((!C4)||(pb.2 !=bq.2.2.2)) (some false) ((z9 (a8.mk hh.2.1 hh.2.2.1 hh.2.2.2) 1).bind λC5=>cond (decide (C5<0)) (some false) (cond (C5 !=hh.1) (some false) (some true))))))))))))))
end
end Go.ob
