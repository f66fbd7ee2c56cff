/- Part of a proof that a law returns true for every input. No condition. -/
import Derived.Test.YtklcmlnabkfneaaGreatFwA
namespace Go.ll
open List Option Go.IntKind Nat Or
open Go Go.cU
set_option linter.unusedVariables false
noncomputable section
structure hj where
 Kind:Int
 Value:Int
def ui (x:hj):Prop:=(-9223372036854775808<=x.Kind/\x.Kind<=9223372036854775807)/\(-9223372036854775808<=x.Value/\x.Value<=9223372036854775807)
structure iN where
 Kind:Int
 Number:Int
 Name:aix
 da:List (List hj)
def w_ (x:iN):Prop:=(-9223372036854775808<=x.Kind/\x.Kind<=9223372036854775807)/\(-9223372036854775808<=x.Number/\x.Number<=9223372036854775807)/\x.Name.length<=9223372036854775807/\(x.da.length<=9223372036854775807/\∀y∈x.da,(y.length<=9223372036854775807/\∀z∈y,ui z))
structure iO where
 Name:aix
 dr:Int
 Body:List iN
def xa (x:iO):Prop:=x.Name.length<=9223372036854775807/\(-9223372036854775808<=x.dr/\x.dr<=9223372036854775807)/\(x.Body.length<=9223372036854775807/\∀y∈x.Body,w_ y)
structure iP where
 b7:Int
 b4:aiz
def xb (x:iP):Prop:=(-9223372036854775808<=x.b7/\x.b7<=9223372036854775807)/\(x.b4.length<=9223372036854775807/\∀y∈x.b4,(-9223372036854775808<=y/\y<=9223372036854775807))
structure ix where
 Left:aix
 b8:aix
 Result:aix
def xc (x:ix):Prop:=x.Left.length<=9223372036854775807/\x.b8.length<=9223372036854775807/\x.Result.length<=9223372036854775807
structure ln where
 dQ:List iO
 cv:List iP
 hk:List ix
 gV:aiw
 gW:aiw
def xd (x:ln):Prop:=(x.dQ.length<=9223372036854775807/\∀y∈x.dQ,xa y)/\(x.cv.length<=9223372036854775807/\∀y∈x.cv,xb y)/\(x.hk.length<=9223372036854775807/\∀y∈x.hk,xc y)/\(x.gV.length<=9223372036854775807/\∀y∈x.gV,y.length<=9223372036854775807)/\(x.gW.length<=9223372036854775807/\∀y∈x.gW,y.length<=9223372036854775807)
structure iQ where
 b7:Int
 Part:Int
 b4:aiz
def uj (x:iQ):Prop:=(-9223372036854775808<=x.b7/\x.b7<=9223372036854775807)/\(-9223372036854775808<=x.Part/\x.Part<=9223372036854775807)/\(x.b4.length<=9223372036854775807/\∀y∈x.b4,(-9223372036854775808<=y/\y<=9223372036854775807))
structure c8 where
 Kind:Int
 Value:Int
def VE (x:c8):Prop:=(-9223372036854775808<=x.Kind/\x.Kind<=9223372036854775807)/\(-9223372036854775808<=x.Value/\x.Value<=9223372036854775807)
structure ck where
 Kind:Int
 Number:Int
 Name:aix
 da:List (List c8)
def VF (x:ck):Prop:=(-9223372036854775808<=x.Kind/\x.Kind<=9223372036854775807)/\(-9223372036854775808<=x.Number/\x.Number<=9223372036854775807)/\x.Name.length<=9223372036854775807/\(x.da.length<=9223372036854775807/\∀y∈x.da,(y.length<=9223372036854775807/\∀z∈y,VE z))
structure bI where
 Name:aix
 dr:Int
 Body:List ck
def VG (x:bI):Prop:=x.Name.length<=9223372036854775807/\(-9223372036854775808<=x.dr/\x.dr<=9223372036854775807)/\(x.Body.length<=9223372036854775807/\∀y∈x.Body,VF y)
structure fo where
 b7:Int
 b4:aiz
def VH (x:fo):Prop:=(-9223372036854775808<=x.b7/\x.b7<=9223372036854775807)/\(x.b4.length<=9223372036854775807/\∀y∈x.b4,(-9223372036854775808<=y/\y<=9223372036854775807))
structure dy where
 Left:aix
 b8:aix
 Result:aix
def VI (x:dy):Prop:=x.Left.length<=9223372036854775807/\x.b8.length<=9223372036854775807/\x.Result.length<=9223372036854775807
structure eC where
 dQ:List bI
 cv:List fo
 hk:List dy
 gV:aiw
 gW:aiw
def ahs (x:eC):Prop:=(x.dQ.length<=9223372036854775807/\∀y∈x.dQ,VG y)/\(x.cv.length<=9223372036854775807/\∀y∈x.cv,VH y)/\(x.hk.length<=9223372036854775807/\∀y∈x.hk,VI y)/\(x.gV.length<=9223372036854775807/\∀y∈x.gV,y.length<=9223372036854775807)/\(x.gW.length<=9223372036854775807/\∀y∈x.gW,y.length<=9223372036854775807)
structure aU where
 b7:Int
 Part:Int
 b4:aiz
def aht (x:aU):Prop:=(-9223372036854775808<=x.b7/\x.b7<=9223372036854775807)/\(-9223372036854775808<=x.Part/\x.Part<=9223372036854775807)/\(x.b4.length<=9223372036854775807/\∀y∈x.b4,(-9223372036854775808<=y/\y<=9223372036854775807))
structure cD where
 scope:Int
 behind:Bool
abbrev aiJ:=List hj
abbrev aiK:=List iN
abbrev aiL:=List iO
abbrev aiM:=List iP
abbrev aiN:=List ix
abbrev aiO:=List iQ
abbrev aiP:=List c8
abbrev aiQ:=List ck
abbrev aiR:=List bI
abbrev aiS:=List fo
abbrev aiT:=List dy
abbrev aiU:=List aU
abbrev aiV:=List cD
abbrev aiG:=List (List hj)
abbrev aiH:=List (List c8)
abbrev aiI:=List (List aU)
def ahu (x:cD):Prop:=(-9223372036854775808<=x.scope/\x.scope<=9223372036854775807)/\True
def xe (a0:aiJ) (J:Int):aiC:=
 cond (decide ((i64.wrap (J-(a0.length:Int)))<0)) (some (-1)) (some (i64.wrap (J-(a0.length:Int))))
def VJ (jH:Int->Int->aiC) (a0:aiG) (c6 cX:Int):aiC:=
 cond (decide (cX<(a0.length:Int))) ((bm a0 cX).bind λae=>(xe ae c6).bind λan=>cond (decide (an<0)) (some (-1)) (jH an (i64.wrap (cX+1)))) (some c6)
def ES (a0:aiG):Nat->Int->Int->aiC
 |0,_,_=>none
 |n+1,c6,cX=>VJ (ES a0 n) a0 c6 cX
def Ar (a0:aiG) (J:Int):aiC:=
 cond (decide ((i64.wrap (J-(a0.length:Int)))<0)) (some (-1)) (lim λn=>ES a0 n (i64.wrap (J-(a0.length:Int))) 0)
def xf (a0:iN) (J:Int):aiC:=
 cond (decide ((i64.wrap (J-(a0.Name.length:Int)))<0)) (some (-1)) ((Ar a0.da (i64.wrap (J-(a0.Name.length:Int)))).bind λae=>cond (decide (ae<0)) (some (-1)) (some ae))
def VK (jH:Int->Int->aiC) (a0:aiK) (c6 cX:Int):aiC:=
 cond (decide (cX<(a0.length:Int))) ((bm a0 cX).bind λae=>(xf ae c6).bind λan=>cond (decide (an<0)) (some (-1)) (jH an (i64.wrap (cX+1)))) (some c6)
def ET (a0:aiK):Nat->Int->Int->aiC
 |0,_,_=>none
 |n+1,c6,cX=>VK (ET a0 n) a0 c6 cX
def As (a0:aiK) (J:Int):aiC:=
 cond (decide ((i64.wrap (J-(a0.length:Int)))<0)) (some (-1)) (lim λn=>ET a0 n (i64.wrap (J-(a0.length:Int))) 0)
def xg (a0:iO) (J:Int):aiC:=
 cond (decide ((i64.wrap (J-(a0.Name.length:Int)))<0)) (some (-1)) ((As a0.Body (i64.wrap (J-(a0.Name.length:Int)))).bind λae=>cond (decide (ae<0)) (some (-1)) (some ae))
def VL (jH:Int->Int->aiC) (a0:aiL) (c6 cX:Int):aiC:=
 cond (decide (cX<(a0.length:Int))) ((bm a0 cX).bind λae=>(xg ae c6).bind λan=>cond (decide (an<0)) (some (-1)) (jH an (i64.wrap (cX+1)))) (some c6)
def EU (a0:aiL):Nat->Int->Int->aiC
 |0,_,_=>none
 |n+1,c6,cX=>VL (EU a0 n) a0 c6 cX
def Au (a0:aiL) (J:Int):aiC:=
 cond (decide ((i64.wrap (J-(a0.length:Int)))<0)) (some (-1)) (lim λn=>EU a0 n (i64.wrap (J-(a0.length:Int))) 0)
def xh (a0:aiz) (J:Int):aiC:=
 cond (decide ((i64.wrap (J-(a0.length:Int)))<0)) (some (-1)) (some (i64.wrap (J-(a0.length:Int))))
def xi (a0:iP) (J:Int):aiC:=
 (xh a0.b4 J).bind λae=>cond (decide (ae<0)) (some (-1)) (some ae)
def VM (jH:Int->Int->aiC) (a0:aiM) (c6 cX:Int):aiC:=
 cond (decide (cX<(a0.length:Int))) ((bm a0 cX).bind λae=>(xi ae c6).bind λan=>cond (decide (an<0)) (some (-1)) (jH an (i64.wrap (cX+1)))) (some c6)
def EV (a0:aiM):Nat->Int->Int->aiC
 |0,_,_=>none
 |n+1,c6,cX=>VM (EV a0 n) a0 c6 cX
def Av (a0:aiM) (J:Int):aiC:=
 cond (decide ((i64.wrap (J-(a0.length:Int)))<0)) (some (-1)) (lim λn=>EV a0 n (i64.wrap (J-(a0.length:Int))) 0)
def xj (a0:ix) (J:Int):aiC:=
 cond (decide ((i64.wrap (J-(a0.Left.length:Int)))<0)) (some (-1)) (cond (decide ((i64.wrap ((i64.wrap (J-(a0.Left.length:Int)))-(a0.b8.length:Int)))<0)) (some (-1)) (cond (decide ((i64.wrap ((i64.wrap ((i64.wrap (J-(a0.Left.length:Int)))-(a0.b8.length:Int)))-(a0.Result.length:Int)))<0)) (some (-1)) (some (i64.wrap ((i64.wrap ((i64.wrap (J-(a0.Left.length:Int)))-(a0.b8.length:Int)))-(a0.Result.length:Int))))))
def VN (jH:Int->Int->aiC) (a0:aiN) (c6 cX:Int):aiC:=
 cond (decide (cX<(a0.length:Int))) ((bm a0 cX).bind λae=>(xj ae c6).bind λan=>cond (decide (an<0)) (some (-1)) (jH an (i64.wrap (cX+1)))) (some c6)
def EW (a0:aiN):Nat->Int->Int->aiC
 |0,_,_=>none
 |n+1,c6,cX=>VN (EW a0 n) a0 c6 cX
def Aw (a0:aiN) (J:Int):aiC:=
 cond (decide ((i64.wrap (J-(a0.length:Int)))<0)) (some (-1)) (lim λn=>EW a0 n (i64.wrap (J-(a0.length:Int))) 0)
def VO (jH:Int->Int->aiC) (a0:aiw) (c6 cX:Int):aiC:=
 cond (decide (cX<(a0.length:Int))) ((bm a0 cX).bind λae=>cond (decide ((i64.wrap (c6-(ae.length:Int)))<0)) (some (-1)) (jH (i64.wrap (c6-(ae.length:Int))) (i64.wrap (cX+1)))) (some c6)
def EX (a0:aiw):Nat->Int->Int->aiC
 |0,_,_=>none
 |n+1,c6,cX=>VO (EX a0 n) a0 c6 cX
def xk (a0:aiw) (J:Int):aiC:=
 cond (decide ((i64.wrap (J-(a0.length:Int)))<0)) (some (-1)) (lim λn=>EX a0 n (i64.wrap (J-(a0.length:Int))) 0)
def xl (a0:ln) (J:Int):aiC:=
 (Au a0.dQ J).bind λae=>cond (decide (ae<0)) (some (-1)) ((Av a0.cv ae).bind λan=>cond (decide (an<0)) (some (-1)) ((Aw a0.hk an).bind λaT=>cond (decide (aT<0)) (some (-1)) ((xk a0.gV aT).bind λcx=>cond (decide (cx<0)) (some (-1)) ((xk a0.gW cx).bind λbL=>cond (decide (bL<0)) (some (-1)) (some bL)))))
def xm (a0:iQ) (J:Int):aiC:=
 (xh a0.b4 J).bind λae=>cond (decide (ae<0)) (some (-1)) (some ae)
def VP (jH:Int->Int->aiC) (a0:aiO) (c6 cX:Int):aiC:=
 cond (decide (cX<(a0.length:Int))) ((bm a0 cX).bind λae=>(xm ae c6).bind λan=>cond (decide (an<0)) (some (-1)) (jH an (i64.wrap (cX+1)))) (some c6)
def EY (a0:aiO):Nat->Int->Int->aiC
 |0,_,_=>none
 |n+1,c6,cX=>VP (EY a0 n) a0 c6 cX
def Ax (a0:aiO) (J:Int):aiC:=
 cond (decide ((i64.wrap (J-(a0.length:Int)))<0)) (some (-1)) (lim λn=>EY a0 n (i64.wrap (J-(a0.length:Int))) 0)
def xn (a0:hj):Option c8:=
 some (c8.mk a0.Kind a0.Value)
def VQ (dq:aiP->Int->Option aiP) (a0:aiJ) (bo:aiP) (bk:Int):Option aiP:=
 cond (decide (bk<(a0.length:Int))) ((bm a0 bk).bind λae=>(xn ae).bind λan=>(bm bo bk).bind λaT=>dq (List.set bo (Int.toNat bk) an) (i64.wrap (bk+1))) (some bo)
def EZ (a0:aiJ):Nat->aiP->Int->Option aiP
 |0,_,_=>none
 |n+1,bo,bk=>VQ (EZ a0 n) a0 bo bk
def xo (a0:aiJ):Option aiP:=
 (lW 16 (a0.length:Int)).bind λ_=>lim λn=>EZ a0 n (replicate (Int.toNat (a0.length:Int)) (c8.mk 0 0)) 0
def VR (dq:aiH->Int->Option aiH) (a0:aiG) (bo:aiH) (bk:Int):Option aiH:=
 cond (decide (bk<(a0.length:Int))) ((bm a0 bk).bind λae=>(xo ae).bind λan=>(bm bo bk).bind λaT=>dq (List.set bo (Int.toNat bk) an) (i64.wrap (bk+1))) (some bo)
def E0 (a0:aiG):Nat->aiH->Int->Option aiH
 |0,_,_=>none
 |n+1,bo,bk=>VR (E0 a0 n) a0 bo bk
def Ay (a0:aiG):Option aiH:=
 (lW 24 (a0.length:Int)).bind λ_=>lim λn=>E0 a0 n (replicate (Int.toNat (a0.length:Int)) []) 0
def xp (a0:iN):Option ck:=
 (Ay a0.da).bind λae=>some (ck.mk a0.Kind a0.Number a0.Name ae)
def VS (dq:aiQ->Int->Option aiQ) (a0:aiK) (bo:aiQ) (bk:Int):Option aiQ:=
 cond (decide (bk<(a0.length:Int))) ((bm a0 bk).bind λae=>(xp ae).bind λan=>(bm bo bk).bind λaT=>dq (List.set bo (Int.toNat bk) an) (i64.wrap (bk+1))) (some bo)
def E1 (a0:aiK):Nat->aiQ->Int->Option aiQ
 |0,_,_=>none
 |n+1,bo,bk=>VS (E1 a0 n) a0 bo bk
def Az (a0:aiK):Option aiQ:=
 (lW 56 (a0.length:Int)).bind λ_=>lim λn=>E1 a0 n (replicate (Int.toNat (a0.length:Int)) (ck.mk 0 0 ([]:aix) [])) 0
def xq (a0:iO):Option bI:=
 (Az a0.Body).bind λae=>some (bI.mk a0.Name a0.dr ae)
def VT (dq:aiR->Int->Option aiR) (a0:aiL) (bo:aiR) (bk:Int):Option aiR:=
 cond (decide (bk<(a0.length:Int))) ((bm a0 bk).bind λae=>(xq ae).bind λan=>(bm bo bk).bind λaT=>dq (List.set bo (Int.toNat bk) an) (i64.wrap (bk+1))) (some bo)
def E2 (a0:aiL):Nat->aiR->Int->Option aiR
 |0,_,_=>none
 |n+1,bo,bk=>VT (E2 a0 n) a0 bo bk
def AA (a0:aiL):Option aiR:=
 (lW 48 (a0.length:Int)).bind λ_=>lim λn=>E2 a0 n (replicate (Int.toNat (a0.length:Int)) (bI.mk ([]:aix) 0 [])) 0
def VU (dq:aiz->Int->Option aiz) (a0 bo:aiz) (bk:Int):Option aiz:=
 cond (decide (bk<(a0.length:Int))) ((bm a0 bk).bind λae=>(bm bo bk).bind λan=>dq (List.set bo (Int.toNat bk) ae) (i64.wrap (bk+1))) (some bo)
def E3 (a0:aiz):Nat->aiz->Int->Option aiz
 |0,_,_=>none
 |n+1,bo,bk=>VU (E3 a0 n) a0 bo bk
def xr (a0:aiz):Option aiz:=
 (lW 8 (a0.length:Int)).bind λ_=>lim λn=>E3 a0 n (replicate (Int.toNat (a0.length:Int)) 0) 0
def xt (a0:iP):Option fo:=
 (xr a0.b4).bind λae=>some (fo.mk a0.b7 ae)
def VV (dq:aiS->Int->Option aiS) (a0:aiM) (bo:aiS) (bk:Int):Option aiS:=
 cond (decide (bk<(a0.length:Int))) ((bm a0 bk).bind λae=>(xt ae).bind λan=>(bm bo bk).bind λaT=>dq (List.set bo (Int.toNat bk) an) (i64.wrap (bk+1))) (some bo)
def E4 (a0:aiM):Nat->aiS->Int->Option aiS
 |0,_,_=>none
 |n+1,bo,bk=>VV (E4 a0 n) a0 bo bk
def AB (a0:aiM):Option aiS:=
 (lW 32 (a0.length:Int)).bind λ_=>lim λn=>E4 a0 n (replicate (Int.toNat (a0.length:Int)) (fo.mk 0 [])) 0
def xu (a0:ix):Option dy:=
 some (dy.mk a0.Left a0.b8 a0.Result)
def VW (dq:aiT->Int->Option aiT) (a0:aiN) (bo:aiT) (bk:Int):Option aiT:=
 cond (decide (bk<(a0.length:Int))) ((bm a0 bk).bind λae=>(xu ae).bind λan=>(bm bo bk).bind λaT=>dq (List.set bo (Int.toNat bk) an) (i64.wrap (bk+1))) (some bo)
def E5 (a0:aiN):Nat->aiT->Int->Option aiT
 |0,_,_=>none
 |n+1,bo,bk=>VW (E5 a0 n) a0 bo bk
def AD (a0:aiN):Option aiT:=
 (lW 48 (a0.length:Int)).bind λ_=>lim λn=>E5 a0 n (replicate (Int.toNat (a0.length:Int)) (dy.mk ([]:aix) ([]:aix) ([]:aix))) 0
def VX (dq:aiw->Int->Option aiw) (a0 bo:aiw) (bk:Int):Option aiw:=
 cond (decide (bk<(a0.length:Int))) ((bm a0 bk).bind λae=>(bm bo bk).bind λan=>dq (List.set bo (Int.toNat bk) ae) (i64.wrap (bk+1))) (some bo)
def E6 (a0:aiw):Nat->aiw->Int->Option aiw
 |0,_,_=>none
 |n+1,bo,bk=>VX (E6 a0 n) a0 bo bk
def xv (a0:aiw):Option aiw:=
 (lW 16 (a0.length:Int)).bind λ_=>lim λn=>E6 a0 n (replicate (Int.toNat (a0.length:Int)) ([]:aix)) 0
def sJ (a0:ln):Option eC:=
 (AA a0.dQ).bind λae=>(AB a0.cv).bind λan=>(AD a0.hk).bind λaT=>(xv a0.gV).bind λcx=>(xv a0.gW).bind λbL=>some (eC.mk ae an aT cx bL)
def xw (a0:iQ):Option aU:=
 (xr a0.b4).bind λae=>some (aU.mk a0.b7 a0.Part ae)
def VY (dq:aiU->Int->Option aiU) (a0:aiO) (bo:aiU) (bk:Int):Option aiU:=
 cond (decide (bk<(a0.length:Int))) ((bm a0 bk).bind λae=>(xw ae).bind λan=>(bm bo bk).bind λaT=>dq (List.set bo (Int.toNat bk) an) (i64.wrap (bk+1))) (some bo)
def E7 (a0:aiO):Nat->aiU->Int->Option aiU
 |0,_,_=>none
 |n+1,bo,bk=>VY (E7 a0 n) a0 bo bk
def uk (a0:aiO):Option aiU:=
 (lW 40 (a0.length:Int)).bind λ_=>lim λn=>E7 a0 n (replicate (Int.toNat (a0.length:Int)) (aU.mk 0 0 [])) 0
def xx (a0:UInt8):aiB:=
 some ((decide (97<=(a0.toNat:Int)))&&(decide ((a0.toNat:Int)<=122)))
def E8 (a0:UInt8):aiB:=
 some ((decide (48<=(a0.toNat:Int)))&&(decide ((a0.toNat:Int)<=57)))
def E9 (eN:Int->aiB) (a0:aix) (dD:Int):aiB:=
 cond (decide (dD<(a0.length:Int))) ((bm a0 dD).bind λaT=>(xx aT).bind λcx=>cond (!cx) ((E8 aT).bind λbL=>cond (!bL) (some false) (eN (i64.wrap (dD+1)))) (eN (i64.wrap (dD+1)))) (some true)
def xy (a0:aix):Nat->Int->aiB
 |0,_=>none
 |n+1,dD=>E9 (xy a0 n) a0 dD
def um (a0:aix):aiB:=
 cond (a0==([]:aix)) (some false) (cond (decide (10<(a0.length:Int))) (some false) ((bm a0 0).bind λae=>(xx ae).bind λan=>cond (!an) (some false) (lim λn=>xy a0 n 0)))
def kB (a0 J a2:Int):aiB:=
 some ((decide (J<=a0))&&(decide (a0<=a2)))
def xz (a0:ck) (hN:Bool):aiC:=
 cond hN (some 1) (cond (a0.Kind==2) (some 2) (some 0))
def xA (a0:ck):aiC:=
 cond (a0.Kind==1) (xz a0 true) (cond (a0.Kind==3) (xz a0 true) (xz a0 (a0.Kind==4)))
def E_ (jH:Int->Int->aiB) (a0:aiQ) (oe pg:Int):aiB:=
 cond (decide (pg<(a0.length:Int))) (cond (oe==0) (some false) ((bm a0 pg).bind λae=>(xA ae).bind λan=>jH (i64.wrap (oe+(i64.wrap (an-1)))) (i64.wrap (pg+1)))) (some (oe==0))
def uo (a0:aiQ):Nat->Int->Int->aiB
 |0,_,_=>none
 |n+1,oe,pg=>E_ (uo a0 n) a0 oe pg
def AE (a0:aiQ):aiB:=
 cond (((a0.length:Int)==0)||(decide (20<(a0.length:Int)))) (some false) (lim λn=>uo a0 n 1 0)
def AF (a0:ck) (xB:Bool):aiB:=
 cond xB (some (((a0.Number==0)&&(a0.Name==([]:aix)))&&((a0.da.length:Int)==0))) (cond (a0.Kind==1) (some (a0.Number==0)) (cond (a0.Kind==3) (some ((a0.Number==0)&&(a0.Name==([]:aix)))) (cond (a0.Kind==4) (some ((a0.Name==([]:aix))&&((a0.da.length:Int)==0))) (cond (a0.Kind==5) (some (a0.Name==([]:aix))) (some false)))))
def Fa (a0:ck):aiB:=
 cond (a0.Kind==0) (AF a0 true) (AF a0 (a0.Kind==2))
def Fb (dv:Int->Int->aiC) (a0:aiQ) (iR eU:Int):aiC:=
 cond (decide (0<eU)) ((bm a0 iR).bind λae=>(xA ae).bind λan=>dv (i64.wrap (iR+1)) (i64.wrap (eU+(i64.wrap (an-1))))) (some iR)
def uq (a0:aiQ):Nat->Int->Int->aiC
 |0,_,_=>none
 |n+1,iR,eU=>Fb (uq a0 n) a0 iR eU
def AG (a0:aiQ) (J:Int):aiC:=
 lim λn=>uq a0 n J 1
def xC (dq:Int->Int->aiC) (a0:bI) (J ur uu:Int):aiC:=
 dq ur (i64.wrap (uu+1))
def Fe (dq:Int->Int->aiC) (a0:bI) (J fC hP:Int):aiC:=
 cond (decide (hP<J)) ((bm a0.Body hP).bind λae=>cond (ae.Kind==4) ((AG a0.Body hP).bind λan=>cond (decide (J<an)) (xC dq a0 J (i64.wrap (fC+1)) hP) (xC dq a0 J fC hP)) (xC dq a0 J fC hP)) (some fC)
def sK (a0:bI) (J:Int):Nat->Int->Int->aiC
 |0,_,_=>none
 |n+1,fC,hP=>Fe (sK a0 J n) a0 J fC hP
def rp (a0:bI) (J:Int):aiC:=
 lim λn=>sK a0 J n a0.dr 0
def AH (a0:c8) (J:Int):aiB:=
 cond (a0.Kind==0) ((kB a0.Value 0 63).bind λae=>some ae) (cond (a0.Kind==1) ((kB a0.Value 0 (i64.wrap (J-1))).bind λan=>some an) (cond (a0.Kind==2) ((kB a0.Value 0 8).bind λaT=>some aT) (cond (a0.Kind==3) (some (a0.Value==0)) (some false))))
def Ff (a0:c8):aiC:=
 cond (a0.Kind==2) (some 2) (cond (a0.Kind==3) (some 1) (some 0))
def Fg (jH:Int->Int->aiB) (a0:aiP) (J hN ph:Int):aiB:=
 cond (decide (ph<(a0.length:Int))) (cond (hN==0) (some false) ((bm a0 ph).bind λae=>(AH ae J).bind λan=>cond (!an) (some false) ((Ff ae).bind λaT=>jH (i64.wrap (hN+(i64.wrap (aT-1)))) (i64.wrap (ph+1))))) (some (hN==0))
def uv (a0:aiP) (J:Int):Nat->Int->Int->aiB
 |0,_,_=>none
 |n+1,hN,ph=>Fg (uv a0 J n) a0 J hN ph
def AJ (a0:aiP) (J a2:Int):aiB:=
 cond (decide (a2<(a0.length:Int))) (some false) (lim λn=>uv a0 J n 1 0)
def Fh (VZ:Int->Int->aiC) (ae:ck) (pj pk:Int):aiC:=
 cond (decide (pk<(ae.da.length:Int))) ((bm ae.da pk).bind λcx=>(AJ cx pj 15).bind λbL=>cond (!bL) (some 8) (VZ pj (i64.wrap (pk+1)))) (some 0)
def sL (ae:ck):Nat->Int->Int->aiC
 |0,_,_=>none
 |n+1,pj,pk=>Fh (sL ae n) ae pj pk
def uw (J:bI) (a2:Int) (ae:ck) (xD:Bool):aiC:=
 cond xD (some 6) ((rp J a2).bind λaT=>cond ((ae.Kind==4)&&(decide (6<=aT))) (some 7) (lim λn=>sL ae n aT 0))
def sM (J:bI) (a2:Int) (ae:ck):aiC:=
 cond (ae.Kind==5) (cond (a2==0) (uw J a2 ae true) ((bm J.Body (i64.wrap (a2-1))).bind λcy=>uw J a2 ae (cy.Kind !=1))) (uw J a2 ae false)
def sN (a0:aiR) (J:bI) (a2:Int) (ae:ck) (xE:Bool):aiC:=
 cond xE (some 4) (cond (ae.Kind==1) (cond ((decide (2<(ae.da.length:Int)))||((decide (0<(ae.da.length:Int)))&&(ae.Name==([116,97,117]:aix)))) (some 5) (sM J a2 ae)) (cond (ae.Kind==3) (cond ((ae.da.length:Int) !=1) (some 5) (sM J a2 ae)) (cond (ae.Kind==5) ((bm a0 ae.Number).bind λcn=>cond ((ae.da.length:Int) !=cn.dr) (some 5) (sM J a2 ae)) (sM J a2 ae))))
def AK (a0:aiR) (J:bI) (a2:Int) (ae:ck) (xF:Bool):aiC:=
 cond xF (some 3) (cond (ae.Kind==4) ((kB ae.Number 1 7).bind λfM=>cond (!fM) (sN a0 J a2 ae true) (cond (ae.Kind==5) ((kB ae.Number 0 (i64.wrap ((a0.length:Int)-1))).bind λdN=>sN a0 J a2 ae (!dN)) (sN a0 J a2 ae false))) (cond (ae.Kind==5) ((kB ae.Number 0 (i64.wrap ((a0.length:Int)-1))).bind λc4=>sN a0 J a2 ae (!c4)) (sN a0 J a2 ae false)))
def xG (a0:aiR) (J:bI) (a2:Int):aiC:=
 (bm J.Body a2).bind λae=>(Fa ae).bind λan=>cond (!an) (some 2) (cond (ae.Kind==1) ((um ae.Name).bind λgf=>AK a0 J a2 ae (!gf)) (AK a0 J a2 ae false))
def AL (eN:Int->Option (Int×Int)) (a0:aiR) (J:bI) (mB:Int):Option (Int×Int):=
 cond (decide (mB<(J.Body.length:Int))) ((xG a0 J mB).bind λan=>cond (decide (0<an)) (some (mB,an)) (eN (i64.wrap (mB+1)))) (some (0,0))
def sO (a0:aiR) (J:bI):Nat->Int->Option (Int×Int)
 |0,_=>none
 |n+1,mB=>AL (sO a0 J n) a0 J mB
def sP (a0:aiR) (J:bI):Option (Int×Int):=
 (AE J.Body).bind λae=>cond (!ae) (some (0,1)) (lim λn=>sO a0 J n 0)
def Fi (eN:Int->aiB) (Fj:Int->Int->aiB) (a0:aiR) (dZ er:Int):aiB:=
 cond (decide (er<dZ)) ((bm a0 er).bind λcx=>(bm a0 dZ).bind λbL=>cond (cx.Name==bL.Name) (some false) (Fj dZ (i64.wrap (er+1)))) (eN (i64.wrap (dZ+1)))
def ux (eN:Int->aiB) (a0:aiR):Nat->Int->Int->aiB
 |0,_,_=>none
 |n+1,dZ,er=>Fi eN (ux eN a0 n) a0 dZ er
def Fk (V0:Int->aiB) (a0:aiR) (pn:Int):aiB:=
 cond (decide (pn<(a0.length:Int))) ((bm a0 pn).bind λcy=>(sP a0 cy).bind λcn=>cond (decide (0<cn.2)) (some false) (V0 (i64.wrap (pn+1)))) (some true)
def sQ (a0:aiR):Nat->Int->aiB
 |0,_=>none
 |n+1,pn=>Fk (sQ a0 n) a0 pn
def Fl (eN:Int->aiB) (a0:aiR) (dD:Int):aiB:=
 cond (decide (dD<(a0.length:Int))) ((bm a0 dD).bind λae=>(um ae.Name).bind λan=>cond (!an) (some false) ((kB ae.dr 0 3).bind λaT=>cond (!aT) (some false) (lim λn=>ux eN a0 n dD 0))) (lim λn=>sQ a0 n 0)
def qd (a0:aiR):Nat->Int->aiB
 |0,_=>none
 |n+1,dD=>Fl (qd a0 n) a0 dD
def AM (a0:aiR):aiB:=
 cond (((a0.length:Int)==0)||(decide (4<(a0.length:Int)))) (some false) (lim λn=>qd a0 n 0)
def Fm (dv:Int->aiB) (a0:aiz) (fU:Int):aiB:=
 cond (decide (fU<(a0.length:Int))) ((bm a0 fU).bind λae=>(kB ae 0 63).bind λan=>cond (!an) (some false) (dv (i64.wrap (fU+1)))) (some true)
def uy (a0:aiz):Nat->Int->aiB
 |0,_=>none
 |n+1,fU=>Fm (uy a0 n) a0 fU
def xH (a0:aiz):aiB:=
 lim λn=>uy a0 n 0
def Fo (eN:Int->aiB) (a0:eC) (dD:Int):aiB:=
 cond (decide (dD<(a0.cv.length:Int))) ((bm a0.cv dD).bind λae=>(kB ae.b7 0 (i64.wrap ((a0.dQ.length:Int)-1))).bind λan=>cond (!an) (some false) ((bm a0.dQ ae.b7).bind λaT=>cond ((ae.b4.length:Int) !=aT.dr) (some false) ((xH ae.b4).bind λcx=>cond (!cx) (some false) (eN (i64.wrap (dD+1)))))) (some true)
def uz (a0:eC):Nat->Int->aiB
 |0,_=>none
 |n+1,dD=>Fo (uz a0 n) a0 dD
def AN (a0:eC):aiB:=
 cond (((a0.cv.length:Int)==0)||(decide (3<(a0.cv.length:Int)))) (some false) (lim λn=>uz a0 n 0)
def sR (a0:aix):aiB:=
 (um a0).bind λae=>some (ae&&(!(a0==([116,97,117]:aix))))
def Fp (eN:Int->aiB) (V1:Int->Int->aiB) (a0:aiT) (ae:dy) (kC kY:Int):aiB:=
 cond (decide (kY<(a0.length:Int))) ((bm a0 kY).bind λcn=>cond ((cn.Left==ae.Result)||(cn.b8==ae.Result)) (some false) (V1 kC (i64.wrap (kY+1)))) (eN (i64.wrap (kC+1)))
def qe (eN:Int->aiB) (a0:aiT) (ae:dy):Nat->Int->Int->aiB
 |0,_,_=>none
 |n+1,kC,kY=>Fp eN (qe eN a0 ae n) a0 ae kC kY
def Fq (eN:Int->aiB) (a0:aiT) (dD:Int):aiB:=
 cond (decide (dD<(a0.length:Int))) ((bm a0 dD).bind λae=>(sR ae.Left).bind λan=>cond (!an) (some false) ((sR ae.b8).bind λaT=>cond (!aT) (some false) ((sR ae.Result).bind λcx=>cond ((!cx)||(!(Op.bytesLess ae.Left ae.b8||ae.Left==ae.b8))) (some false) (cond (decide (0<dD)) ((bm a0 (i64.wrap (dD-1))).bind λbL=>cond ((!(Op.bytesLess bL.Left ae.Left||bL.Left==ae.Left))||((bL.Left==ae.Left)&&(!(Op.bytesLess bL.b8 ae.b8)))) (some false) (lim λn=>qe eN a0 ae n dD 0)) (lim λn=>qe eN a0 ae n dD 0))))) (some true)
def og (a0:aiT):Nat->Int->aiB
 |0,_=>none
 |n+1,dD=>Fq (og a0 n) a0 dD
def AO (a0:aiT):aiB:=
 cond (decide (6<(a0.length:Int))) (some false) (lim λn=>og a0 n 0)
def Fs (dv:Int->aiB) (a0:aiw) (fU:Int):aiB:=
 cond (decide (fU<(a0.length:Int))) ((bm a0 fU).bind λae=>(sR ae).bind λan=>cond (!an) (some false) (dv (i64.wrap (fU+1)))) (some true)
def uA (a0:aiw):Nat->Int->aiB
 |0,_=>none
 |n+1,fU=>Fs (uA a0 n) a0 fU
def AP (a0:aiw):aiB:=
 lim λn=>uA a0 n 0
def AQ (eN:Int->aiB) (a0:aiw) (dD:Int):aiB:=
 cond (decide (dD<(a0.length:Int))) ((bm a0 (i64.wrap (dD-1))).bind λan=>(bm a0 dD).bind λaT=>cond (!(Op.bytesLess an aT)) (some false) (eN (i64.wrap (dD+1)))) (some true)
def nv (a0:aiw):Nat->Int->aiB
 |0,_=>none
 |n+1,dD=>AQ (nv a0 n) a0 dD
def xI (a0:aiw):aiB:=
 cond (decide (12<(a0.length:Int))) (some false) ((AP a0).bind λae=>cond (!ae) (some false) (lim λn=>nv a0 n 1))
def AR (a0:eC):aiC:=
 (AM a0.dQ).bind λae=>cond (!ae) (some 1) ((AN a0).bind λan=>cond (!an) (some 2) ((AO a0.hk).bind λaT=>cond (!aT) (some 3) ((xI a0.gV).bind λcx=>cond (!cx) (some 4) ((xI a0.gW).bind λbL=>cond (!bL) (some 5) (some 0)))))
def AS (a0:eC):aiB:=
 (AR a0).bind λae=>some (ae==0)
def uB (a0:aiR) (J:aU):aiB:=
 (kB J.b7 0 (i64.wrap ((a0.length:Int)-1))).bind λae=>cond (!ae) (some false) ((bm a0 J.b7).bind λan=>(kB J.Part 0 (i64.wrap ((an.Body.length:Int)-1))).bind λaT=>cond (!aT) (some false) ((bm an.Body J.Part).bind λcx=>cond (cx.Kind==5) (some false) ((rp an J.Part).bind λbL=>cond ((J.b4.length:Int)==bL) ((xH J.b4).bind λcy=>some cy) (some false))))
def Ft (eN:Int->aiB) (a0:eC) (J:aiU) (bG:Int):aiB:=
 cond (decide (bG<(J.length:Int))) ((bm J bG).bind λae=>(uB a0.dQ ae).bind λan=>cond (!an) (some false) (eN (i64.wrap (bG+1)))) (some true)
def uC (a0:eC) (J:aiU):Nat->Int->aiB
 |0,_=>none
 |n+1,bG=>Ft (uC a0 J n) a0 J bG
def AU (a0:eC) (J:aiU):aiB:=
 cond ((J.length:Int) !=(a0.cv.length:Int)) (some false) (lim λn=>uC a0 J n 0)
def Fu (dq:aiz->Int->Option aiz) (a0:Int) (bo:aiz) (bk:Int):Option aiz:=
 cond (decide (bk<a0)) ((room 8 (bo.length+1)).bind λ_=>dq (bo++[bk]) (i64.wrap (bk+1))) (some bo)
def uD (a0:Int):Nat->aiz->Int->Option aiz
 |0,_,_=>none
 |n+1,bo,bk=>Fu (uD a0 n) a0 bo bk
def AV (a0:Int):Option aiz:=
 lim λn=>uD a0 n [] 0
def xJ (a0:aiz):Option aiz:=
 (room 8 (a0.length)).bind λ_=>some a0
def MA (dq:aiU->Int->Option aiU) (a0:aiU) (J:aiz) (fC:aiU) (hP:Int):Option aiU:=
 cond (decide (hP<(J.length:Int))) ((bm J hP).bind λae=>(bm a0 ae).bind λan=>(xJ an.b4).bind λaT=>(room 40 (fC.length+1)).bind λ_=>dq (fC++[(aU.mk an.b7 an.Part aT)]) (i64.wrap (hP+1))) (some fC)
def AW (a0:aiU) (J:aiz):Nat->aiU->Int->Option aiU
 |0,_,_=>none
 |n+1,fC,hP=>MA (AW a0 J n) a0 J fC hP
def AX (a0:aiU) (J:aiz):Option aiU:=
 lim λn=>AW a0 J n [] 0
def Fv (dv:Int->aiC) (a0 J:aiz) (eU:Int):aiC:=
 cond ((decide (eU<(a0.length:Int)))&&(decide (eU<(J.length:Int)))) ((bm a0 eU).bind λae=>(bm J eU).bind λan=>cond (decide (ae<an)) (some (-1)) (cond (decide (an<ae)) (some 1) (dv (i64.wrap (eU+1))))) (cond (decide ((a0.length:Int)<(J.length:Int))) (some (-1)) (cond (decide ((J.length:Int)<(a0.length:Int))) (some 1) (some 0)))
def uE (a0 J:aiz):Nat->Int->aiC
 |0,_=>none
 |n+1,eU=>Fv (uE a0 J n) a0 J eU
def xK (a0 J:aiz):aiC:=
 lim λn=>uE a0 J n 0
def AY (a0 J:aU):aiC:=
 (xK [a0.b7,a0.Part] [J.b7,J.Part]).bind λae=>cond (ae !=0) (some ae) ((xK a0.b4 J.b4).bind λan=>some an)
def Fw (dv:Int->aiB) (a0 J:aiU) (eU:Int):aiB:=
 cond (decide (eU<(a0.length:Int))) ((bm a0 eU).bind λae=>(bm J eU).bind λan=>(AY ae an).bind λaT=>cond (aT !=0) (some (decide (aT<0))) (dv (i64.wrap (eU+1)))) (some false)
def uF (a0 J:aiU):Nat->Int->aiB
 |0,_=>none
 |n+1,eU=>Fw (uF a0 J n) a0 J eU
def AZ (a0 J:aiU):aiB:=
 lim λn=>uF a0 J n 0
def Fx (eN:Int->aiB) (a0 J:aiz) (bG:Int):aiB:=
 cond (decide (bG<(a0.length:Int))) ((bm a0 bG).bind λae=>(bm J bG).bind λan=>cond (ae !=an) (some false) (eN (i64.wrap (bG+1)))) (some true)
def uG (a0 J:aiz):Nat->Int->aiB
 |0,_=>none
 |n+1,bG=>Fx (uG a0 J n) a0 J bG
def A0 (a0 J:aiz):aiB:=
 cond ((a0.length:Int) !=(J.length:Int)) (some false) (lim λn=>uG a0 J n 0)
def A1 (a0 J:aU):aiB:=
 cond (a0.b7==J.b7) (cond (a0.Part==J.Part) ((A0 a0.b4 J.b4).bind λae=>some ae) (some false)) (some false)
def Fy (eN:Int->aiB) (a0 J:aiU) (bG:Int):aiB:=
 cond (decide (bG<(a0.length:Int))) ((bm a0 bG).bind λae=>(bm J bG).bind λan=>(A1 ae an).bind λaT=>cond (!aT) (some false) (eN (i64.wrap (bG+1)))) (some true)
def uH (a0 J:aiU):Nat->Int->aiB
 |0,_=>none
 |n+1,bG=>Fy (uH a0 J n) a0 J bG
def xL (a0 J:aiU):aiB:=
 cond ((a0.length:Int) !=(J.length:Int)) (some false) (lim λn=>uH a0 J n 0)
def V2 (V3:aiz->Int->Int->Option (Bool×aiz)) (iy:aiz) (gA gN:Int):Option (Bool×aiz):=
 cond (decide (gA<gN)) ((bm iy gA).bind λlo=>(bm iy gN).bind λiS=>(bm (List.set iy (Int.toNat gA) iS) gN).bind λqf=>V3 (List.set (List.set iy (Int.toNat gA) iS) (Int.toNat gN) lo) (i64.wrap (gA+1)) (i64.wrap (gN-1))) (some (true,iy))
def po:Nat->aiz->Int->Int->Option (Bool×aiz)
 |0,_,_,_=>none
 |n+1,iy,gA,gN=>V2 (po n) iy gA gN
def V4 (V5:Int->Int->Option (Bool×aiz)) (a0:aiz) (fD hl:Int):Option (Bool×aiz):=
 (bm a0 hl).bind λdN=>(bm a0 fD).bind λc4=>cond (decide (dN<c4)) (V5 fD (i64.wrap (hl-1))) ((bm (List.set a0 (Int.toNat fD) dN) hl).bind λgf=>lim λn=>po n (List.set (List.set a0 (Int.toNat fD) dN) (Int.toNat hl) c4) (i64.wrap (fD+1)) (i64.wrap (((List.set (List.set a0 (Int.toNat fD) dN) (Int.toNat hl) c4).length:Int)-1)))
def oh (a0:aiz):Nat->Int->Int->Option (Bool×aiz)
 |0,_,_=>none
 |n+1,fD,hl=>V4 (oh a0 n) a0 fD hl
def V6 (dv:Int->Option (Bool×aiz)) (a0:aiz) (fU:Int):Option (Bool×aiz):=
 cond (decide (0<=fU)) ((bm a0 fU).bind λae=>(bm a0 (i64.wrap (fU+1))).bind λan=>cond (decide (an<ae)) (dv (i64.wrap (fU-1))) (cond (decide (fU<0)) (some (false,a0)) (lim λn=>oh a0 n fU (i64.wrap ((a0.length:Int)-1))))) (cond (decide (fU<0)) (some (false,a0)) (lim λn=>oh a0 n fU (i64.wrap ((a0.length:Int)-1))))
def Fz (a0:aiz):Nat->Int->Option (Bool×aiz)
 |0,_=>none
 |n+1,fU=>V6 (Fz a0 n) a0 fU
def jr (a0:aiz):Option (Bool×aiz):=
 lim λn=>Fz a0 n (i64.wrap ((a0.length:Int)-2))
def oi (k7:aiI->aiz->Option aiI) (a0:aiU) (lp:aiI) (oj:aiz):Option aiI:=
 (jr oj).bind λiS=>cond (!iS.1) (some lp) (k7 lp iS.2)
def FA (k7:aiI->aiz->Option aiI) (Fj:aiI->aiz->Int->Int->Option aiI) (a0:aiU) (an:aiU) (dZ:aiI) (er:aiz) (eK et:Int):Option aiI:=
 cond (decide (eK<et)) ((bm dZ (i64.wrap (et-1))).bind λsS=>(bm dZ et).bind λMB=>Fj (List.set dZ (Int.toNat et) sS) er eK (i64.wrap (et-1))) ((bm dZ eK).bind λFB=>oi k7 a0 (List.set dZ (Int.toNat eK) an) er)
def mC (k7:aiI->aiz->Option aiI) (a0:aiU) (an:aiU):Nat->aiI->aiz->Int->Int->Option aiI
 |0,_,_,_,_=>none
 |n+1,dZ,er,eK,et=>FA k7 (mC k7 a0 an n) a0 an dZ er eK et
def A2 (k7:aiI->aiz->Option aiI) (V7:aiI->aiz->Int->Option aiI) (a0:aiU) (an:aiU) (dU:aiI) (gB:aiz) (gv:Int):Option aiI:=
 cond (decide (0<gv)) ((bm dU (i64.wrap (gv-1))).bind λaT=>(AZ an aT).bind λcx=>cond cx (V7 dU gB (i64.wrap (gv-1))) (cond (gv==0) ((room 24 (dU.length+1)).bind λ_=>lim λn=>mC k7 a0 an n (dU++[[]]) gB gv (i64.wrap (((dU++[[]]).length:Int)-1))) ((xL aT an).bind λdN=>cond (!dN) ((room 24 (dU.length+1)).bind λ_=>lim λn=>mC k7 a0 an n (dU++[[]]) gB gv (i64.wrap (((dU++[[]]).length:Int)-1))) (oi k7 a0 dU gB)))) (cond (gv==0) ((room 24 (dU.length+1)).bind λ_=>lim λn=>mC k7 a0 an n (dU++[[]]) gB gv (i64.wrap (((dU++[[]]).length:Int)-1))) ((bm dU (i64.wrap (gv-1))).bind λsT=>(xL sT an).bind λxM=>cond (!xM) ((room 24 (dU.length+1)).bind λ_=>lim λn=>mC k7 a0 an n (dU++[[]]) gB gv (i64.wrap (((dU++[[]]).length:Int)-1))) (oi k7 a0 dU gB)))
def rq (k7:aiI->aiz->Option aiI) (a0:aiU) (an:aiU):Nat->aiI->aiz->Int->Option aiI
 |0,_,_,_=>none
 |n+1,dU,gB,gv=>A2 k7 (rq k7 a0 an n) a0 an dU gB gv
def FC (k7:aiI->aiz->Option aiI) (a0:aiU) (om:aiI) (oo:aiz):Option aiI:=
 (AX a0 oo).bind λan=>lim λn=>rq k7 a0 an n om oo (om.length:Int)
def lP (a0:aiU):Nat->aiI->aiz->Option aiI
 |0,_,_=>none
 |n+1,om,oo=>FC (lP a0 n) a0 om oo
def xN (a0:aiU):Option aiI:=
 (AV (a0.length:Int)).bind λae=>lim λn=>lP a0 n [] ae
def A3 (a0:eC) (J:aiU):Option (Int×Int):=
 (AS a0).bind λae=>cond (!ae) (some (0,1)) ((AU a0 J).bind λan=>cond (!an) (some (0,1)) ((xN J).bind λaT=>some ((aT.length:Int),0)))
def ja (a0 J a2:Int):aiB:=
 some ((decide (J<=a0))&&(decide (a0<=a2)))
def FD (a0:bI):aiB:=
 (ja a0.dr 0 3).bind λae=>some (!ae)
def FE (dv:Int->aiC) (a0:aiR) (ch:Int):aiC:=
 cond (decide (ch<(a0.length:Int))) ((bm a0 ch).bind λae=>(FD ae).bind λan=>cond an (some ch) (dv (i64.wrap (ch+1)))) (some (-1))
def xO (a0:aiR):Nat->Int->aiC
 |0,_=>none
 |n+1,ch=>FE (xO a0 n) a0 ch
def FF (a0:aiR):aiC:=
 lim λn=>xO a0 n 0
def FG (a0:aiR):aiB:=
 (FF a0).bind λae=>some (decide (0<=ae))
def A4 (a0:aiR):aiB:=
 (FG a0).bind λae=>some (!ae)
def FH (a0:UInt8):aiB:=
 some ((decide (48<=(a0.toNat:Int)))&&(decide ((a0.toNat:Int)<=57)))
def A5 (dv:Int->aiB) (a0:aix) (eD:Int):aiB:=
 cond (decide (eD<(a0.length:Int))) ((bm a0 eD).bind λae=>cond (!((decide (97<=(ae.toNat:Int)))&&(decide ((ae.toNat:Int)<=122)))) (cond (eD==0) (some false) ((FH ae).bind λan=>cond (!an) (some false) (dv (i64.wrap (eD+1))))) (dv (i64.wrap (eD+1)))) (some ((decide (1<=(a0.length:Int)))&&(decide ((a0.length:Int)<=10))))
def rr (a0:aix):Nat->Int->aiB
 |0,_=>none
 |n+1,eD=>A5 (rr a0 n) a0 eD
def xP (a0:aix):aiB:=
 lim λn=>rr a0 n 0
def FI (a0:bI) (J:aix):aiB:=
 some (a0.Name==J)
def FJ (dv:Int->aiC) (a0:aiR) (J:aix) (ch:Int):aiC:=
 cond (decide (ch<(a0.length:Int))) ((bm a0 ch).bind λae=>(FI ae J).bind λan=>cond an (some ch) (dv (i64.wrap (ch+1)))) (some (-1))
def xQ (a0:aiR) (J:aix):Nat->Int->aiC
 |0,_=>none
 |n+1,ch=>FJ (xQ a0 J n) a0 J ch
def FK (a0:aiR) (J:aix):aiC:=
 lim λn=>xQ a0 J n 0
def A6 (a0:aiR) (J:aix):aiC:=
 (FK a0 J).bind λae=>some ae
def xR (a0:ck) (cX:Bool):aiC:=
 cond cX (some 1) (cond (a0.Kind==2) (some 2) (some 0))
def xS (a0:ck):aiC:=
 cond (a0.Kind==1) (xR a0 true) (cond (a0.Kind==3) (xR a0 true) (xR a0 (a0.Kind==4)))
def FL (dv:Int->Int->aiC) (a0:bI) (iR eU:Int):aiC:=
 cond (decide (0<eU)) (cond (decide ((a0.Body.length:Int)<=iR)) (some (-1)) ((bm a0.Body iR).bind λae=>(xS ae).bind λan=>dv (i64.wrap (iR+1)) (i64.wrap (eU+(i64.wrap (an-1)))))) (some iR)
def uI (a0:bI):Nat->Int->Int->aiC
 |0,_,_=>none
 |n+1,iR,eU=>FL (uI a0 n) a0 iR eU
def A7 (a0:bI) (J:Int):aiC:=
 lim λn=>uI a0 n J 1
def FM (ma:Int->cD->aiV->bI->Option (Int×aiV)) (V8:aiV->Int->Int->Option (Int×aiV)) (a3:bI) (kZ:Int) (an:ck) (aT:Int) (qg:aiV) (oq pq:Int):Option (Int×aiV):=
 cond (decide (pq<aT)) ((ma oq (cD.mk kZ (an.Kind==1)) qg a3).bind λcx=>V8 cx.2 cx.1 (i64.wrap (pq+1))) (some (oq,qg))
def sU (ma:Int->cD->aiV->bI->Option (Int×aiV)) (a3:bI) (kZ:Int) (an:ck) (aT:Int):Nat->aiV->Int->Int->Option (Int×aiV)
 |0,_,_,_=>none
 |n+1,qg,oq,pq=>FM ma (sU ma a3 kZ an aT n) a3 kZ an aT qg oq pq
def A8 (ma:Int->cD->aiV->bI->Option (Int×aiV)) (a0:Int) (J:cD) (a2:aiV) (a3:bI) (an:ck) (kZ:Int):Option (Int×aiV):=
 (xS an).bind λaT=>lim λn=>sU ma a3 kZ an aT n (List.set a2 (Int.toNat a0) J) (i64.wrap (a0+1)) 0
def FN (ma:Int->cD->aiV->bI->Option (Int×aiV)) (a0:Int) (J:cD) (a2:aiV) (a3:bI):Option (Int×aiV):=
 (bm a2 a0).bind λae=>(bm a3.Body a0).bind λan=>cond (an.Kind==4) (A8 ma a0 J a2 a3 an (i64.wrap (J.scope+1))) (A8 ma a0 J a2 a3 an J.scope)
def sV:Nat->Int->cD->aiV->bI->Option (Int×aiV)
 |0,_,_,_,_=>none
 |n+1,a0,J,a2,a3=>FN (sV n) a0 J a2 a3
def A9 (a0:Int) (J:cD) (a2:aiV) (a3:bI):Option (Int×aiV):=
 lim λn=>sV n a0 J a2 a3
def uJ (a0:bI):Option aiV:=
 (lW 16 (a0.Body.length:Int)).bind λ_=>(A9 0 (cD.mk a0.dr false) (replicate (Int.toNat (a0.Body.length:Int)) (cD.mk 0 false)) a0).bind λae=>some ae.2
def FO (a0:ck):aiB:=
 (ja a0.Kind 0 5).bind λae=>some (((ae&&(((a0.Kind==4)||(a0.Kind==5))||(a0.Number==0)))&&((a0.Kind==1)||(a0.Name==([]:aix))))&&((((a0.Kind==1)||(a0.Kind==3))||(a0.Kind==5))||((a0.da.length:Int)==0)))
def qh (a0:aix):aiB:=
 (xP a0).bind λae=>some (ae&&(!(a0==([116,97,117]:aix))))
def ru (a0 J:Int):aiB:=
 (ja a0 0 (i64.wrap (J-1))).bind λae=>some ae
def FP (a0:ck) (J:aiR):aiB:=
 cond (a0.Kind==1) (some (((a0.da.length:Int)==0)||((!(a0.Name==([116,97,117]:aix)))&&(decide ((a0.da.length:Int)<=2))))) (cond (a0.Kind==3) (some ((a0.da.length:Int)==1)) (cond (a0.Kind==5) ((bm J a0.Number).bind λae=>some ((a0.da.length:Int)==ae.dr)) (some true)))
def xT (a0:Int):aiB:=
 (ja a0 0 63).bind λae=>some ae
def A_ (a0:c8) (J:Int):aiB:=
 cond (a0.Kind==0) ((xT a0.Value).bind λae=>some ae) (cond (a0.Kind==1) ((ja a0.Value 0 (i64.wrap (J-1))).bind λan=>some an) (cond (a0.Kind==2) ((ja a0.Value 0 8).bind λaT=>some aT) (cond (a0.Kind==3) (some (a0.Value==0)) (some false))))
def FQ (a0:c8):aiC:=
 cond (a0.Kind==2) (some 2) (cond (a0.Kind==3) (some 1) (some 0))
def FR (jH:Int->Int->aiB) (a0:aiP) (J hN pr:Int):aiB:=
 cond (decide (pr<(a0.length:Int))) ((bm a0 pr).bind λcx=>cond (hN==0) (some false) ((A_ cx J).bind λbL=>cond (!bL) (some false) ((FQ cx).bind λcy=>jH (i64.wrap (hN+(i64.wrap (cy-1)))) (i64.wrap (pr+1))))) (some (hN==0))
def uK (a0:aiP) (J:Int):Nat->Int->Int->aiB
 |0,_,_=>none
 |n+1,hN,pr=>FR (uK a0 J n) a0 J hN pr
def Ba (a0:aiP) (J a2:Int):aiB:=
 (ja J 0 29).bind λae=>cond (!ae) (some false) ((ja a2 1 60).bind λan=>cond (!an) (some false) ((ja (a0.length:Int) 1 a2).bind λaT=>cond (!aT) (some false) (lim λn=>uK a0 J n 1 0)))
def FT (a0:aiP) (J:cD):aiB:=
 (Ba a0 J.scope 15).bind λae=>some (!ae)
def FU (dv:Int->aiC) (a0:aiH) (J:cD) (ch:Int):aiC:=
 cond (decide (ch<(a0.length:Int))) ((bm a0 ch).bind λae=>(FT ae J).bind λan=>cond an (some ch) (dv (i64.wrap (ch+1)))) (some (-1))
def xU (a0:aiH) (J:cD):Nat->Int->aiC
 |0,_=>none
 |n+1,ch=>FU (xU a0 J n) a0 J ch
def FV (a0:aiH) (J:cD):aiC:=
 lim λn=>xU a0 J n 0
def Bb (a0:aiH) (J:cD):aiB:=
 (FV a0 J).bind λae=>some (decide (0<=ae))
def sW (a0:ck) (J:aiR) (a2:cD) (xV:Bool):aiC:=
 cond xV (some 4) ((FP a0 J).bind λan=>cond (!an) (some 5) (cond ((a0.Kind==5)&&(!a2.behind)) (some 6) (cond ((a0.Kind==4)&&(decide (6<=a2.scope))) (some 7) ((Bb a0.da a2).bind λaT=>cond aT (some 8) (some 0)))))
def xW (a0:ck) (J:aiR) (a2:cD) (xX:Bool):aiC:=
 cond xX (some 3) (cond (a0.Kind==4) ((ja a0.Number 1 7).bind λcx=>cond (!cx) (sW a0 J a2 true) (cond (a0.Kind==5) ((ru a0.Number (J.length:Int)).bind λbL=>sW a0 J a2 (!bL)) (sW a0 J a2 false))) (cond (a0.Kind==5) ((ru a0.Number (J.length:Int)).bind λcy=>sW a0 J a2 (!cy)) (sW a0 J a2 false)))
def xY (a0:ck) (J:aiR) (a2:cD):aiC:=
 (FO a0).bind λae=>cond (!ae) (some 2) (cond (a0.Kind==1) (cond (!(a0.Name==([116,97,117]:aix))) ((qh a0.Name).bind λcn=>xW a0 J a2 (!cn)) (xW a0 J a2 false)) (xW a0 J a2 false))
def Bc (jH:Int->Option (Int×Int)) (a0:aiR) (J:bI) (aT:aiV) (mD:Int):Option (Int×Int):=
 cond (decide (mD<(J.Body.length:Int))) ((bm J.Body mD).bind λcx=>(bm aT mD).bind λbL=>(xY cx a0 bL).bind λcy=>cond (cy !=0) (some (mD,cy)) (jH (i64.wrap (mD+1)))) (some (0,0))
def sX (a0:aiR) (J:bI) (aT:aiV):Nat->Int->Option (Int×Int)
 |0,_=>none
 |n+1,mD=>Bc (sX a0 J aT n) a0 J aT mD
def xZ (a0:aiR) (J:bI):Option (Int×Int):=
 (ja (J.Body.length:Int) 1 20).bind λae=>cond (!ae) (some (0,1)) ((A7 J 0).bind λan=>cond (an !=(J.Body.length:Int)) (some (0,1)) ((uJ J).bind λaT=>lim λn=>sX a0 J aT n 0))
def FW (eN:Int->aiB) (a0:aiR) (nw:Int):aiB:=
 cond (decide (nw<(a0.length:Int))) ((bm a0 nw).bind λaT=>(xP aT.Name).bind λcx=>cond (!cx) (some false) ((kJ a0 0 nw).bind λbL=>(A6 bL aT.Name).bind λcy=>cond (decide (0<=cy)) (some false) ((xZ a0 aT).bind λcn=>cond (cn.2 !=0) (some false) (eN (i64.wrap (nw+1)))))) (some true)
def uL (a0:aiR):Nat->Int->aiB
 |0,_=>none
 |n+1,nw=>FW (uL a0 n) a0 nw
def Bd (a0:aiR):aiB:=
 (ja (a0.length:Int) 1 4).bind λae=>cond (!ae) (some false) ((A4 a0).bind λan=>cond (!an) (some false) (lim λn=>uL a0 n 0))
def FX (a0:Int):aiB:=
 (xT a0).bind λae=>some (!ae)
def FY (dv:Int->aiC) (a0:aiz) (ch:Int):aiC:=
 cond (decide (ch<(a0.length:Int))) ((bm a0 ch).bind λae=>(FX ae).bind λan=>cond an (some ch) (dv (i64.wrap (ch+1)))) (some (-1))
def x0 (a0:aiz):Nat->Int->aiC
 |0,_=>none
 |n+1,ch=>FY (x0 a0 n) a0 ch
def FZ (a0:aiz):aiC:=
 lim λn=>x0 a0 n 0
def F1 (a0:aiz):aiB:=
 (FZ a0).bind λae=>some (decide (0<=ae))
def x1 (a0:aiz):aiB:=
 (F1 a0).bind λae=>some (!ae)
def Be (a0:aiR) (J:fo):aiB:=
 (ru J.b7 (a0.length:Int)).bind λae=>cond ae ((bm a0 J.b7).bind λan=>cond ((J.b4.length:Int)==an.dr) ((x1 J.b4).bind λaT=>some aT) (some false)) (some false)
def F2 (a0:fo) (J:eC):aiB:=
 (Be J.dQ a0).bind λae=>some (!ae)
def F3 (dv:Int->aiC) (a0:aiS) (J:eC) (ch:Int):aiC:=
 cond (decide (ch<(a0.length:Int))) ((bm a0 ch).bind λae=>(F2 ae J).bind λan=>cond an (some ch) (dv (i64.wrap (ch+1)))) (some (-1))
def x2 (a0:aiS) (J:eC):Nat->Int->aiC
 |0,_=>none
 |n+1,ch=>F3 (x2 a0 J n) a0 J ch
def F4 (a0:aiS) (J:eC):aiC:=
 lim λn=>x2 a0 J n 0
def Bf (a0:aiS) (J:eC):aiB:=
 (F4 a0 J).bind λae=>some (decide (0<=ae))
def cmp_isNaN_string (a0:aix):aiB:=
 some false
def Bg (a0 J:aix):aiC:=
 (cmp_isNaN_string a0).bind λae=>(cmp_isNaN_string J).bind λan=>cond ae (cond an (some 0) (some (-1))) (cond an (some 1) (cond (Op.bytesLess a0 J) (some (-1)) (cond (!(Op.bytesLess a0 J||a0==J)) (some 1) (some 0))))
def MC (dv:Int->aiC) (a0 J:aiw) (iz:Int):aiC:=
 cond (decide (iz<(a0.length:Int))) ((bm a0 iz).bind λae=>cond (decide ((J.length:Int)<=iz)) (some 1) ((bm J iz).bind λan=>(Bg ae an).bind λaT=>cond (aT !=0) (some aT) (dv (i64.wrap (iz+1))))) (cond (decide ((a0.length:Int)<(J.length:Int))) (some (-1)) (some 0))
def Bh (a0 J:aiw):Nat->Int->aiC
 |0,_=>none
 |n+1,iz=>MC (Bh a0 J n) a0 J iz
def Bi (a0 J:aiw):aiC:=
 lim λn=>Bh a0 J n 0
def Bj (a0 J:dy):aiC:=
 (Bi [a0.Left,a0.b8] [J.Left,J.b8]).bind λae=>some ae
def F5 (a0 J:dy):aiB:=
 some ((a0.Left==J.Result)||(a0.b8==J.Result))
def F6 (dv:Int->aiC) (a0:aiT) (J:dy) (ch:Int):aiC:=
 cond (decide (ch<(a0.length:Int))) ((bm a0 ch).bind λae=>(F5 ae J).bind λan=>cond an (some ch) (dv (i64.wrap (ch+1)))) (some (-1))
def x3 (a0:aiT) (J:dy):Nat->Int->aiC
 |0,_=>none
 |n+1,ch=>F6 (x3 a0 J n) a0 J ch
def F7 (a0:aiT) (J:dy):aiC:=
 lim λn=>x3 a0 J n 0
def x4 (a0:aiT) (J:dy):aiB:=
 (F7 a0 J).bind λae=>some (decide (0<=ae))
def F8 (dv:Int->aiB) (a0:aiT) (eD:Int):aiB:=
 cond (decide (eD<(a0.length:Int))) ((bm a0 eD).bind λae=>(qh ae.Left).bind λbL=>cond (!bL) (some false) ((qh ae.b8).bind λcy=>cond (!cy) (some false) ((qh ae.Result).bind λcn=>cond (!cn) (some false) (cond (!(Op.bytesLess ae.Left ae.b8||ae.Left==ae.b8)) (some false) (cond (decide (0<eD)) ((bm a0 (i64.wrap (eD-1))).bind λfM=>(Bj fM ae).bind λdN=>cond (decide (0<=dN)) (some false) ((x4 a0 ae).bind λc4=>cond c4 (some false) (dv (i64.wrap (eD+1))))) ((x4 a0 ae).bind λgf=>cond gf (some false) (dv (i64.wrap (eD+1))))))))) (some (decide ((a0.length:Int)<=6)))
def uM (a0:aiT):Nat->Int->aiB
 |0,_=>none
 |n+1,eD=>F8 (uM a0 n) a0 eD
def Bk (a0:aiT):aiB:=
 lim λn=>uM a0 n 0
def F9 (dv:Int->aiB) (a0:aiw) (eD:Int):aiB:=
 cond (decide (eD<(a0.length:Int))) ((bm a0 eD).bind λae=>(qh ae).bind λan=>cond (!an) (some false) (cond (decide (0<eD)) ((bm a0 (i64.wrap (eD-1))).bind λaT=>cond (Op.bytesLess ae aT||ae==aT) (some false) (dv (i64.wrap (eD+1)))) (dv (i64.wrap (eD+1))))) (some (decide ((a0.length:Int)<=12)))
def uN (a0:aiw):Nat->Int->aiB
 |0,_=>none
 |n+1,eD=>F9 (uN a0 n) a0 eD
def x5 (a0:aiw):aiB:=
 lim λn=>uN a0 n 0
def Bl (a0:eC):aiC:=
 (Bd a0.dQ).bind λae=>cond (!ae) (some 1) ((ja (a0.cv.length:Int) 1 3).bind λan=>cond (!an) (some 2) ((Bf a0.cv a0).bind λaT=>cond aT (some 2) ((Bk a0.hk).bind λcx=>cond (!cx) (some 3) ((x5 a0.gV).bind λbL=>cond (!bL) (some 4) ((x5 a0.gW).bind λcy=>cond (!cy) (some 5) (some 0))))))
def Bm (a0:eC):aiB:=
 (Bl a0).bind λae=>some (ae==0)
def x6 (a0:aiR) (J:aU):aiB:=
 (ru J.b7 (a0.length:Int)).bind λae=>cond (!ae) (some false) ((bm a0 J.b7).bind λan=>(ru J.Part (an.Body.length:Int)).bind λaT=>cond (!aT) (some false) ((bm an.Body J.Part).bind λcx=>cond (cx.Kind !=5) ((uJ an).bind λbL=>(bm bL J.Part).bind λcy=>cond ((J.b4.length:Int)==cy.scope) ((x1 J.b4).bind λcn=>some cn) (some false)) (some false)))
def F_ (a0:aU) (J:eC):aiB:=
 (x6 J.dQ a0).bind λae=>some (!ae)
def Ga (dv:Int->aiC) (a0:aiU) (J:eC) (ch:Int):aiC:=
 cond (decide (ch<(a0.length:Int))) ((bm a0 ch).bind λae=>(F_ ae J).bind λan=>cond an (some ch) (dv (i64.wrap (ch+1)))) (some (-1))
def x7 (a0:aiU) (J:eC):Nat->Int->aiC
 |0,_=>none
 |n+1,ch=>Ga (x7 a0 J n) a0 J ch
def Gb (a0:aiU) (J:eC):aiC:=
 lim λn=>x7 a0 J n 0
def Bn (a0:aiU) (J:eC):aiB:=
 (Gb a0 J).bind λae=>some (decide (0<=ae))
def Gc (a0:eC) (J:aiU):aiB:=
 (Bm a0).bind λan=>cond an (cond ((J.length:Int)==(a0.cv.length:Int)) ((Bn J a0).bind λaT=>some (!aT)) (some false)) (some false)
def Gd (dv:Int->aiC) (a0:aiz) (J ch:Int):aiC:=
 cond (decide (ch<(a0.length:Int))) ((bm a0 ch).bind λae=>cond (J==ae) (some ch) (dv (i64.wrap (ch+1)))) (some (-1))
def x8 (a0:aiz) (J:Int):Nat->Int->aiC
 |0,_=>none
 |n+1,ch=>Gd (x8 a0 J n) a0 J ch
def Ge (a0:aiz) (J:Int):aiC:=
 lim λn=>x8 a0 J n 0
def Bo (a0:aiz) (J:Int):aiB:=
 (Ge a0 J).bind λae=>some (decide (0<=ae))
def x9 (a0:aiz):Option aiz:=
 cond a0.isEmpty (both (some []) ((room 8 (a0.length)).bind λ_=>some a0)) ((room 8 (a0.length)).bind λ_=>some a0)
def x_ (dq:(List aiz)->Int->Option ((List aiz))) (nx:(List aiz)->(List aiz)->Int->Int->Int->Option ((List aiz))) (Bp:(List aiz)->(List aiz)->Int->Int->Int->Int->Option ((List aiz))) (a0:Int) (ae:aiz) (uO uP:List aiz) (uQ uR:Int) (uS uT:Int):Option ((List aiz)):=
 Bp uO uP uQ uR uS (i64.wrap (uT+1))
def Gf (dq:(List aiz)->Int->Option ((List aiz))) (nx:(List aiz)->(List aiz)->Int->Int->Int->Option ((List aiz))) (Bp:(List aiz)->(List aiz)->Int->Int->Int->Int->Option ((List aiz))) (a0:Int) (ae:aiz) (mE mb:List aiz) (mF mG:Int) (mH jb:Int):Option ((List aiz)):=
 cond (decide (jb<a0)) ((Bo ae jb).bind λan=>cond (!an) ((x9 ae).bind λaT=>(room 8 (aT.length+1)).bind λ_=>(room 24 (mb.length+1)).bind λ_=>x_ dq nx Bp a0 ae mE (mb++[(aT++[jb])]) mF mG mH jb) (x_ dq nx Bp a0 ae mE mb mF mG mH jb)) (nx mE mb mF mG (i64.wrap (mH+1)))
def sY (dq:(List aiz)->Int->Option ((List aiz))) (nx:(List aiz)->(List aiz)->Int->Int->Int->Option ((List aiz))) (a0:Int) (ae:aiz):Nat->(List aiz)->(List aiz)->Int->Int->Int->Int->Option ((List aiz))
 |0,_,_,_,_,_,_=>none
 |n+1,mE,mb,mF,mG,mH,jb=>Gf dq nx (sY dq nx a0 ae n) a0 ae mE mb mF mG mH jb
def Gg (dq:(List aiz)->Int->Option ((List aiz))) (nx:(List aiz)->(List aiz)->Int->Int->Int->Option ((List aiz))) (a0:Int) (qi pt:List aiz) (pv qj pw:Int):Option ((List aiz)):=
 cond (decide (pw<qj)) ((bm qi pw).bind λae=>lim λn=>sY dq nx a0 ae n qi pt pv qj pw 0) (dq pt (i64.wrap (pv+1)))
def px (dq:(List aiz)->Int->Option ((List aiz))) (a0:Int):Nat->(List aiz)->(List aiz)->Int->Int->Int->Option ((List aiz))
 |0,_,_,_,_,_=>none
 |n+1,qi,pt,pv,qj,pw=>Gg dq (px dq a0 n) a0 qi pt pv qj pw
def Gh (dq:(List aiz)->Int->Option ((List aiz))) (a0:Int) (bo:List aiz) (f_:Int):Option ((List aiz)):=
 cond (decide (f_<a0)) (lim λn=>px dq a0 n bo [] f_ (bo.length:Int) 0) (some bo)
def mc (a0:Int):Nat->(List aiz)->Int->Option ((List aiz))
 |0,_,_=>none
 |n+1,bo,f_=>Gh (mc a0 n) a0 bo f_
def Bq (a0:Int):Option ((List aiz)):=
 lim λn=>mc a0 n [[]] 0
def Br (a0:aU):Option aU:=
 (x9 a0.b4).bind λae=>some (aU.mk a0.b7 a0.Part ae)
def V9 (dq:aiU->Int->Option aiU) (a0:aiU) (J:aiz) (fC:aiU) (f_:Int):Option aiU:=
 cond (decide (f_<(J.length:Int))) ((bm J f_).bind λae=>(bm a0 ae).bind λan=>(Br an).bind λaT=>(room 40 (fC.length+1)).bind λ_=>dq (fC++[aT]) (i64.wrap (f_+1))) (some fC)
def Gi (a0:aiU) (J:aiz):Nat->aiU->Int->Option aiU
 |0,_,_=>none
 |n+1,fC,f_=>V9 (Gi a0 J n) a0 J fC f_
def Bs (a0:aiU) (J:aiz):Option aiU:=
 lim λn=>Gi a0 J n [] 0
def Bt (a0:Int):aiB:=
 some (a0 !=a0)
def uU (a0 J:Int):aiC:=
 (Bt a0).bind λae=>(Bt J).bind λan=>cond ae (cond an (some 0) (some (-1))) (cond an (some 1) (cond (decide (a0<J)) (some (-1)) (cond (decide (J<a0)) (some 1) (some 0))))
def Gj (dv:Int->aiC) (a0 J:aiz) (iz:Int):aiC:=
 cond (decide (iz<(a0.length:Int))) ((bm a0 iz).bind λae=>cond (decide ((J.length:Int)<=iz)) (some 1) ((bm J iz).bind λan=>(uU ae an).bind λaT=>cond (aT !=0) (some aT) (dv (i64.wrap (iz+1))))) (cond (decide ((a0.length:Int)<(J.length:Int))) (some (-1)) (some 0))
def uV (a0 J:aiz):Nat->Int->aiC
 |0,_=>none
 |n+1,iz=>Gj (uV a0 J n) a0 J iz
def Bu (a0 J:aiz):aiC:=
 lim λn=>uV a0 J n 0
def MD (dq:Int->aiC) (a0:aiz) (py:Int):aiC:=
 cond (decide (py<(a0.length:Int))) ((bm a0 py).bind λae=>cond (ae !=0) (some ae) (dq (i64.wrap (py+1)))) (some 0)
def ya (a0:aiz):Nat->Int->aiC
 |0,_=>none
 |n+1,py=>MD (ya a0 n) a0 py
def Gk (a0:aiz):aiC:=
 lim λn=>ya a0 n 0
def Bv (a0 J:aU):aiC:=
 (uU a0.b7 J.b7).bind λae=>(uU a0.Part J.Part).bind λan=>(Bu a0.b4 J.b4).bind λaT=>(Gk [ae,an,aT]).bind λcx=>some cx
def Gl (dv:Int->aiC) (a0 J:aiU) (ny:Int):aiC:=
 cond (decide (ny<(a0.length:Int))) ((bm a0 ny).bind λae=>cond (decide ((J.length:Int)<=ny)) (some 1) ((bm J ny).bind λan=>(Bv ae an).bind λaT=>cond (aT !=0) (some aT) (dv (i64.wrap (ny+1))))) (cond (decide ((a0.length:Int)<(J.length:Int))) (some (-1)) (some 0))
def uW (a0 J:aiU):Nat->Int->aiC
 |0,_=>none
 |n+1,ny=>Gl (uW a0 J n) a0 J ny
def Bw (a0 J:aiU):aiC:=
 lim λn=>uW a0 J n 0
def uX (a0 J:aiU):aiC:=
 (Bw a0 J).bind λae=>some ae
def lQ (p:aiU):Bool:=decide (p.length<=1099511627776)&&p.all λq=>decide (q.b4.length<=1099511627776)
def yb (x y:aiU):Int:=(uX x y).getD 0
def uY (a0:aiI):Option aiI:=if a0≠[]/\a0.length<4611686018427387904/\a0.all lQ=true then some (a0.mergeSort λx y=>decide (yb x y<=0))else none
def yc (a0 J:aiU):aiB:=
 (uX a0 J).bind λae=>some (ae==0)
def mI {α:Type} (eq:α->α->Bool) (p:α):List α->List α
 |[]=>[]
 |x::l=>if eq x p=true then mI eq x l else x::mI eq x l
def Gm {α:Type} (eq:α->α->Bool):List α->List α
 |[]=>[]
 |x::l=>x::mI eq x l
def pz (x y:aiU):Bool:=(yc x y).getD false
def uZ (a0:aiI):Option aiI:=if a0.length<=4611686018427387904/\a0.all lQ=true then some (Gm pz a0)else none
def Gn (dq:aiI->Int->Option aiI) (a0:aiU) (ae:(List aiz)) (bo:aiI) (f_:Int):Option aiI:=
 cond (decide (f_<(ae.length:Int))) ((bm ae f_).bind λan=>(Bs a0 an).bind λaT=>(room 24 (bo.length+1)).bind λ_=>dq (bo++[aT]) (i64.wrap (f_+1))) ((uY bo).bind λcx=>(uZ cx).bind λbL=>some bL)
def u0 (a0:aiU) (ae:(List aiz)):Nat->aiI->Int->Option aiI
 |0,_,_=>none
 |n+1,bo,f_=>Gn (u0 a0 ae n) a0 ae bo f_
def yd (a0:aiU):Option aiI:=
 (Bq (a0.length:Int)).bind λae=>lim λn=>u0 a0 ae n [] 0
def Bx (a0:eC) (J:aiU):Option (Int×Int):=
 (Gc a0 J).bind λae=>cond (!ae) (some (0,1)) ((yd J).bind λan=>some ((an.length:Int),0))
def ye (a0 J:c8):aiB:=
 cond (a0.Kind !=J.Kind) (some false) (cond (a0.Value !=J.Value) (some false) (some true))
def V_ (eN:Int->aiB) (a0 J:aiP) (bG:Int):aiB:=
 cond (decide (bG<(a0.length:Int))) ((bm a0 bG).bind λae=>(bm J bG).bind λan=>(ye ae an).bind λaT=>cond (!aT) (some false) (eN (i64.wrap (bG+1)))) (some true)
def Gp (a0 J:aiP):Nat->Int->aiB
 |0,_=>none
 |n+1,bG=>V_ (Gp a0 J n) a0 J bG
def yf (a0 J:aiP):aiB:=
 cond ((a0.length:Int) !=(J.length:Int)) (some false) (lim λn=>Gp a0 J n 0)
def Wa (eN:Int->aiB) (a0 J:aiH) (bG:Int):aiB:=
 cond (decide (bG<(a0.length:Int))) ((bm a0 bG).bind λae=>(bm J bG).bind λan=>(yf ae an).bind λaT=>cond (!aT) (some false) (eN (i64.wrap (bG+1)))) (some true)
def Gq (a0 J:aiH):Nat->Int->aiB
 |0,_=>none
 |n+1,bG=>Wa (Gq a0 J n) a0 J bG
def Bz (a0 J:aiH):aiB:=
 cond ((a0.length:Int) !=(J.length:Int)) (some false) (lim λn=>Gq a0 J n 0)
def yg (a0 J:ck):aiB:=
 cond (a0.Kind !=J.Kind) (some false) (cond (a0.Number !=J.Number) (some false) (cond (!(a0.Name==J.Name)) (some false) ((Bz a0.da J.da).bind λae=>cond (!ae) (some false) (some true))))
def Wb (eN:Int->aiB) (a0 J:aiQ) (bG:Int):aiB:=
 cond (decide (bG<(a0.length:Int))) ((bm a0 bG).bind λae=>(bm J bG).bind λan=>(yg ae an).bind λaT=>cond (!aT) (some false) (eN (i64.wrap (bG+1)))) (some true)
def Gr (a0 J:aiQ):Nat->Int->aiB
 |0,_=>none
 |n+1,bG=>Wb (Gr a0 J n) a0 J bG
def BA (a0 J:aiQ):aiB:=
 cond ((a0.length:Int) !=(J.length:Int)) (some false) (lim λn=>Gr a0 J n 0)
def yh (a0 J:bI):aiB:=
 cond (!(a0.Name==J.Name)) (some false) (cond (a0.dr !=J.dr) (some false) ((BA a0.Body J.Body).bind λae=>cond (!ae) (some false) (some true)))
def Wc (eN:Int->aiB) (a0 J:aiR) (bG:Int):aiB:=
 cond (decide (bG<(a0.length:Int))) ((bm a0 bG).bind λae=>(bm J bG).bind λan=>(yh ae an).bind λaT=>cond (!aT) (some false) (eN (i64.wrap (bG+1)))) (some true)
def Gs (a0 J:aiR):Nat->Int->aiB
 |0,_=>none
 |n+1,bG=>Wc (Gs a0 J n) a0 J bG
def BB (a0 J:aiR):aiB:=
 cond ((a0.length:Int) !=(J.length:Int)) (some false) (lim λn=>Gs a0 J n 0)
def Wd (eN:Int->aiB) (a0 J:aiz) (bG:Int):aiB:=
 cond (decide (bG<(a0.length:Int))) ((bm a0 bG).bind λae=>(bm J bG).bind λan=>cond (ae !=an) (some false) (eN (i64.wrap (bG+1)))) (some true)
def Gt (a0 J:aiz):Nat->Int->aiB
 |0,_=>none
 |n+1,bG=>Wd (Gt a0 J n) a0 J bG
def yi (a0 J:aiz):aiB:=
 cond ((a0.length:Int) !=(J.length:Int)) (some false) (lim λn=>Gt a0 J n 0)
def yj (a0 J:fo):aiB:=
 cond (a0.b7 !=J.b7) (some false) ((yi a0.b4 J.b4).bind λae=>cond (!ae) (some false) (some true))
def We (eN:Int->aiB) (a0 J:aiS) (bG:Int):aiB:=
 cond (decide (bG<(a0.length:Int))) ((bm a0 bG).bind λae=>(bm J bG).bind λan=>(yj ae an).bind λaT=>cond (!aT) (some false) (eN (i64.wrap (bG+1)))) (some true)
def Gu (a0 J:aiS):Nat->Int->aiB
 |0,_=>none
 |n+1,bG=>We (Gu a0 J n) a0 J bG
def BC (a0 J:aiS):aiB:=
 cond ((a0.length:Int) !=(J.length:Int)) (some false) (lim λn=>Gu a0 J n 0)
def yk (a0 J:dy):aiB:=
 cond (!(a0.Left==J.Left)) (some false) (cond (!(a0.b8==J.b8)) (some false) (cond (!(a0.Result==J.Result)) (some false) (some true)))
def Wf (eN:Int->aiB) (a0 J:aiT) (bG:Int):aiB:=
 cond (decide (bG<(a0.length:Int))) ((bm a0 bG).bind λae=>(bm J bG).bind λan=>(yk ae an).bind λaT=>cond (!aT) (some false) (eN (i64.wrap (bG+1)))) (some true)
def Gv (a0 J:aiT):Nat->Int->aiB
 |0,_=>none
 |n+1,bG=>Wf (Gv a0 J n) a0 J bG
def BD (a0 J:aiT):aiB:=
 cond ((a0.length:Int) !=(J.length:Int)) (some false) (lim λn=>Gv a0 J n 0)
def Wg (eN:Int->aiB) (a0 J:aiw) (bG:Int):aiB:=
 cond (decide (bG<(a0.length:Int))) ((bm a0 bG).bind λae=>(bm J bG).bind λan=>cond (!(ae==an)) (some false) (eN (i64.wrap (bG+1)))) (some true)
def Gw (a0 J:aiw):Nat->Int->aiB
 |0,_=>none
 |n+1,bG=>Wg (Gw a0 J n) a0 J bG
def yl (a0 J:aiw):aiB:=
 cond ((a0.length:Int) !=(J.length:Int)) (some false) (lim λn=>Gw a0 J n 0)
def ym (a0 J:eC):aiB:=
 (BB a0.dQ J.dQ).bind λae=>cond (!ae) (some false) ((BC a0.cv J.cv).bind λan=>cond (!an) (some false) ((BD a0.hk J.hk).bind λaT=>cond (!aT) (some false) ((yl a0.gV J.gV).bind λcx=>cond (!cx) (some false) ((yl a0.gW J.gW).bind λbL=>cond (!bL) (some false) (some true)))))
def yn (a0 J:aU):aiB:=
 cond (a0.b7 !=J.b7) (some false) (cond (a0.Part !=J.Part) (some false) ((yi a0.b4 J.b4).bind λae=>cond (!ae) (some false) (some true)))
def Wh (eN:Int->aiB) (a0 J:aiU) (bG:Int):aiB:=
 cond (decide (bG<(a0.length:Int))) ((bm a0 bG).bind λae=>(bm J bG).bind λan=>(yn ae an).bind λaT=>cond (!aT) (some false) (eN (i64.wrap (bG+1)))) (some true)
def Gx (a0 J:aiU):Nat->Int->aiB
 |0,_=>none
 |n+1,bG=>Wh (Gx a0 J n) a0 J bG
def BE (a0 J:aiU):aiB:=
 cond ((a0.length:Int) !=(J.length:Int)) (some false) (lim λn=>Gx a0 J n 0)
def Gy (a0:ln) (J:aiO):aiB:=
 (xl a0 1048576).bind λae=>cond (decide (ae<0)) (some true) ((Ax J ae).bind λan=>cond (decide (an<0)) (some true) ((sJ a0).bind λaT=>(uk J).bind λcx=>(A3 aT cx).bind λbL=>(sJ a0).bind λcy=>(uk J).bind λcn=>(Bx cy cn).bind λfM=>cond ((fM.1 !=bL.1)||(fM.2 !=bL.2)) (some false) ((sJ a0).bind λdN=>(ym cy dN).bind λc4=>cond (!c4) (some false) ((uk J).bind λgf=>(BE cn gf).bind λlo=>cond (!lo) (some false) (some true)))))
end
end Go.ll
