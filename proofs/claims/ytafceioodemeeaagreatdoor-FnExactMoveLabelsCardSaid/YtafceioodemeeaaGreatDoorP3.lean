/- Part of a proof that a law is true. No condition. -/
import Derived.Test.YtafceioodemeeaaGreatDoorFwA
import Derived.IntWalk
import GoSem.Op.String
import Derived.Lib.ParseIntB
import Derived.Lib.ItoaNum
namespace Go.pO
open List Option Go.IntKind Nat Or
open Go Go.en
set_option linter.unusedVariables false
noncomputable section
structure jx where
 Kind:Int
 Value:Int
def Cd (x:jx):Prop:=(-9223372036854775808<=x.Kind/\x.Kind<=9223372036854775807)/\(-9223372036854775808<=x.Value/\x.Value<=9223372036854775807)
structure ly where
 Kind:Int
 Number:Int
 Name:aAc
 cm:List (List jx)
def FQ (x:ly):Prop:=(-9223372036854775808<=x.Kind/\x.Kind<=9223372036854775807)/\(-9223372036854775808<=x.Number/\x.Number<=9223372036854775807)/\x.Name.length<=9223372036854775807/\(x.cm.length<=9223372036854775807/\∀y∈x.cm,(y.length<=9223372036854775807/\∀z∈y,Cd z))
structure lz where
 Name:aAc
 dW:Int
 Body:List ly
def FR (x:lz):Prop:=x.Name.length<=9223372036854775807/\(-9223372036854775808<=x.dW/\x.dW<=9223372036854775807)/\(x.Body.length<=9223372036854775807/\∀y∈x.Body,FQ y)
structure lA where
 cy:Int
 bP:aAe
def FT (x:lA):Prop:=(-9223372036854775808<=x.cy/\x.cy<=9223372036854775807)/\(x.bP.length<=9223372036854775807/\∀y∈x.bP,(-9223372036854775808<=y/\y<=9223372036854775807))
structure k8 where
 Left:aAc
 cH:aAc
 Result:aAc
def FU (x:k8):Prop:=x.Left.length<=9223372036854775807/\x.cH.length<=9223372036854775807/\x.Result.length<=9223372036854775807
structure o9 where
 cz:List lz
 cj:List lA
 b9:List k8
 cC:aAb
 cA:aAb
def FV (x:o9):Prop:=(x.cz.length<=9223372036854775807/\∀y∈x.cz,FR y)/\(x.cj.length<=9223372036854775807/\∀y∈x.cj,FT y)/\(x.b9.length<=9223372036854775807/\∀y∈x.b9,FU y)/\(x.cC.length<=9223372036854775807/\∀y∈x.cC,y.length<=9223372036854775807)/\(x.cA.length<=9223372036854775807/\∀y∈x.cA,y.length<=9223372036854775807)
structure lB where
 cy:Int
 Part:Int
 bP:aAe
def Ce (x:lB):Prop:=(-9223372036854775808<=x.cy/\x.cy<=9223372036854775807)/\(-9223372036854775808<=x.Part/\x.Part<=9223372036854775807)/\(x.bP.length<=9223372036854775807/\∀y∈x.bP,(-9223372036854775808<=y/\y<=9223372036854775807))
structure bX where
 Kind:Int
 Value:Int
def aj9 (x:bX):Prop:=(-9223372036854775808<=x.Kind/\x.Kind<=9223372036854775807)/\(-9223372036854775808<=x.Value/\x.Value<=9223372036854775807)
structure b8 where
 Kind:Int
 Number:Int
 Name:aAc
 cm:List (List bX)
def aj_ (x:b8):Prop:=(-9223372036854775808<=x.Kind/\x.Kind<=9223372036854775807)/\(-9223372036854775808<=x.Number/\x.Number<=9223372036854775807)/\x.Name.length<=9223372036854775807/\(x.cm.length<=9223372036854775807/\∀y∈x.cm,(y.length<=9223372036854775807/\∀z∈y,aj9 z))
structure a1 where
 Name:aAc
 dW:Int
 Body:List b8
def aka (x:a1):Prop:=x.Name.length<=9223372036854775807/\(-9223372036854775808<=x.dW/\x.dW<=9223372036854775807)/\(x.Body.length<=9223372036854775807/\∀y∈x.Body,aj_ y)
structure cM where
 cy:Int
 bP:aAe
def akb (x:cM):Prop:=(-9223372036854775808<=x.cy/\x.cy<=9223372036854775807)/\(x.bP.length<=9223372036854775807/\∀y∈x.bP,(-9223372036854775808<=y/\y<=9223372036854775807))
structure bW where
 Left:aAc
 cH:aAc
 Result:aAc
def akc (x:bW):Prop:=x.Left.length<=9223372036854775807/\x.cH.length<=9223372036854775807/\x.Result.length<=9223372036854775807
structure cT where
 cz:List a1
 cj:List cM
 b9:List bW
 cC:aAb
 cA:aAb
def ayT (x:cT):Prop:=(x.cz.length<=9223372036854775807/\∀y∈x.cz,aka y)/\(x.cj.length<=9223372036854775807/\∀y∈x.cj,akb y)/\(x.b9.length<=9223372036854775807/\∀y∈x.b9,akc y)/\(x.cC.length<=9223372036854775807/\∀y∈x.cC,y.length<=9223372036854775807)/\(x.cA.length<=9223372036854775807/\∀y∈x.cA,y.length<=9223372036854775807)
structure ba where
 cy:Int
 Part:Int
 bP:aAe
def YY (x:ba):Prop:=(-9223372036854775808<=x.cy/\x.cy<=9223372036854775807)/\(-9223372036854775808<=x.Part/\x.Part<=9223372036854775807)/\(x.bP.length<=9223372036854775807/\∀y∈x.bP,(-9223372036854775808<=y/\y<=9223372036854775807))
structure bm where
 Label:aAc
 na:Int
 Second:Int
 State:List ba
def ayU (x:bm):Prop:=x.Label.length<=9223372036854775807/\(-9223372036854775808<=x.na/\x.na<=9223372036854775807)/\(-9223372036854775808<=x.Second/\x.Second<=9223372036854775807)/\(x.State.length<=9223372036854775807/\∀y∈x.State,YY y)
structure bl where
 Label:aAc
 Next:ba
def ayV (x:bl):Prop:=x.Label.length<=9223372036854775807/\YY x.Next
structure dR where
 scope:Int
 behind:Bool
abbrev aAp:=List jx
abbrev aAq:=List ly
abbrev aAr:=List lz
abbrev aAs:=List lA
abbrev aAt:=List k8
abbrev aAu:=List lB
abbrev aAv:=List bX
abbrev aAw:=List b8
abbrev aAx:=List a1
abbrev aAy:=List cM
abbrev aAz:=List bW
abbrev aAA:=List ba
abbrev aAB:=List bm
abbrev aAC:=List bl
abbrev aAD:=List dR
abbrev aAl:=List (List jx)
abbrev aAm:=List (List bX)
abbrev aAn:=List (List ba)
abbrev aAo:=List (List bl)
def ayW (x:dR):Prop:=(-9223372036854775808<=x.scope/\x.scope<=9223372036854775807)/\True
inductive dE where
 |mk (term:bX) (args:List dE)
def dE.term:dE->bX
 | .mk a _=>a
def dE.args:dE->List dE
 | .mk _ a=>a
def FW (a0:aAp) (J:Int):aAh:=
 cond (decide ((i64.wrap (J-(a0.length:Int)))<0)) (some (-1)) (some (i64.wrap (J-(a0.length:Int))))
def akd (jy:Int->Int->aAh) (a0:aAl) (eB ep:Int):aAh:=
 cond (decide (ep<(a0.length:Int))) ((bh a0 ep).bind λaa=>(FW aa eB).bind λah=>cond (decide (ah<0)) (some (-1)) (jy ah (i64.wrap (ep+1)))) (some eB)
def Pe (a0:aAl):Nat->Int->Int->aAh
 |0,_,_=>none
 |n+1,eB,ep=>akd (Pe a0 n) a0 eB ep
def JN (a0:aAl) (J:Int):aAh:=
 cond (decide ((i64.wrap (J-(a0.length:Int)))<0)) (some (-1)) (lim λn=>Pe a0 n (i64.wrap (J-(a0.length:Int))) 0)
def FX (a0:ly) (J:Int):aAh:=
 cond (decide ((i64.wrap (J-(a0.Name.length:Int)))<0)) (some (-1)) ((JN a0.cm (i64.wrap (J-(a0.Name.length:Int)))).bind λaa=>cond (decide (aa<0)) (some (-1)) (some aa))
def ake (jy:Int->Int->aAh) (a0:aAq) (eB ep:Int):aAh:=
 cond (decide (ep<(a0.length:Int))) ((bh a0 ep).bind λaa=>(FX aa eB).bind λah=>cond (decide (ah<0)) (some (-1)) (jy ah (i64.wrap (ep+1)))) (some eB)
def Pf (a0:aAq):Nat->Int->Int->aAh
 |0,_,_=>none
 |n+1,eB,ep=>ake (Pf a0 n) a0 eB ep
def JO (a0:aAq) (J:Int):aAh:=
 cond (decide ((i64.wrap (J-(a0.length:Int)))<0)) (some (-1)) (lim λn=>Pf a0 n (i64.wrap (J-(a0.length:Int))) 0)
def FY (a0:lz) (J:Int):aAh:=
 cond (decide ((i64.wrap (J-(a0.Name.length:Int)))<0)) (some (-1)) ((JO a0.Body (i64.wrap (J-(a0.Name.length:Int)))).bind λaa=>cond (decide (aa<0)) (some (-1)) (some aa))
def akf (jy:Int->Int->aAh) (a0:aAr) (eB ep:Int):aAh:=
 cond (decide (ep<(a0.length:Int))) ((bh a0 ep).bind λaa=>(FY aa eB).bind λah=>cond (decide (ah<0)) (some (-1)) (jy ah (i64.wrap (ep+1)))) (some eB)
def Pg (a0:aAr):Nat->Int->Int->aAh
 |0,_,_=>none
 |n+1,eB,ep=>akf (Pg a0 n) a0 eB ep
def JP (a0:aAr) (J:Int):aAh:=
 cond (decide ((i64.wrap (J-(a0.length:Int)))<0)) (some (-1)) (lim λn=>Pg a0 n (i64.wrap (J-(a0.length:Int))) 0)
def FZ (a0:aAe) (J:Int):aAh:=
 cond (decide ((i64.wrap (J-(a0.length:Int)))<0)) (some (-1)) (some (i64.wrap (J-(a0.length:Int))))
def F1 (a0:lA) (J:Int):aAh:=
 (FZ a0.bP J).bind λaa=>cond (decide (aa<0)) (some (-1)) (some aa)
def akg (jy:Int->Int->aAh) (a0:aAs) (eB ep:Int):aAh:=
 cond (decide (ep<(a0.length:Int))) ((bh a0 ep).bind λaa=>(F1 aa eB).bind λah=>cond (decide (ah<0)) (some (-1)) (jy ah (i64.wrap (ep+1)))) (some eB)
def Ph (a0:aAs):Nat->Int->Int->aAh
 |0,_,_=>none
 |n+1,eB,ep=>akg (Ph a0 n) a0 eB ep
def JQ (a0:aAs) (J:Int):aAh:=
 cond (decide ((i64.wrap (J-(a0.length:Int)))<0)) (some (-1)) (lim λn=>Ph a0 n (i64.wrap (J-(a0.length:Int))) 0)
def F2 (a0:k8) (J:Int):aAh:=
 cond (decide ((i64.wrap (J-(a0.Left.length:Int)))<0)) (some (-1)) (cond (decide ((i64.wrap ((i64.wrap (J-(a0.Left.length:Int)))-(a0.cH.length:Int)))<0)) (some (-1)) (cond (decide ((i64.wrap ((i64.wrap ((i64.wrap (J-(a0.Left.length:Int)))-(a0.cH.length:Int)))-(a0.Result.length:Int)))<0)) (some (-1)) (some (i64.wrap ((i64.wrap ((i64.wrap (J-(a0.Left.length:Int)))-(a0.cH.length:Int)))-(a0.Result.length:Int))))))
def akh (jy:Int->Int->aAh) (a0:aAt) (eB ep:Int):aAh:=
 cond (decide (ep<(a0.length:Int))) ((bh a0 ep).bind λaa=>(F2 aa eB).bind λah=>cond (decide (ah<0)) (some (-1)) (jy ah (i64.wrap (ep+1)))) (some eB)
def Pj (a0:aAt):Nat->Int->Int->aAh
 |0,_,_=>none
 |n+1,eB,ep=>akh (Pj a0 n) a0 eB ep
def JR (a0:aAt) (J:Int):aAh:=
 cond (decide ((i64.wrap (J-(a0.length:Int)))<0)) (some (-1)) (lim λn=>Pj a0 n (i64.wrap (J-(a0.length:Int))) 0)
def aki (jy:Int->Int->aAh) (a0:aAb) (eB ep:Int):aAh:=
 cond (decide (ep<(a0.length:Int))) ((bh a0 ep).bind λaa=>cond (decide ((i64.wrap (eB-(aa.length:Int)))<0)) (some (-1)) (jy (i64.wrap (eB-(aa.length:Int))) (i64.wrap (ep+1)))) (some eB)
def Pk (a0:aAb):Nat->Int->Int->aAh
 |0,_,_=>none
 |n+1,eB,ep=>aki (Pk a0 n) a0 eB ep
def F3 (a0:aAb) (J:Int):aAh:=
 cond (decide ((i64.wrap (J-(a0.length:Int)))<0)) (some (-1)) (lim λn=>Pk a0 n (i64.wrap (J-(a0.length:Int))) 0)
def F4 (a0:o9) (J:Int):aAh:=
 (JP a0.cz J).bind λaa=>cond (decide (aa<0)) (some (-1)) ((JQ a0.cj aa).bind λah=>cond (decide (ah<0)) (some (-1)) ((JR a0.b9 ah).bind λaI=>cond (decide (aI<0)) (some (-1)) ((F3 a0.cC aI).bind λaZ=>cond (decide (aZ<0)) (some (-1)) ((F3 a0.cA aZ).bind λaX=>cond (decide (aX<0)) (some (-1)) (some aX)))))
def F5 (a0:lB) (J:Int):aAh:=
 (FZ a0.bP J).bind λaa=>cond (decide (aa<0)) (some (-1)) (some aa)
def akj (jy:Int->Int->aAh) (a0:aAu) (eB ep:Int):aAh:=
 cond (decide (ep<(a0.length:Int))) ((bh a0 ep).bind λaa=>(F5 aa eB).bind λah=>cond (decide (ah<0)) (some (-1)) (jy ah (i64.wrap (ep+1)))) (some eB)
def Pl (a0:aAu):Nat->Int->Int->aAh
 |0,_,_=>none
 |n+1,eB,ep=>akj (Pl a0 n) a0 eB ep
def JS (a0:aAu) (J:Int):aAh:=
 cond (decide ((i64.wrap (J-(a0.length:Int)))<0)) (some (-1)) (lim λn=>Pl a0 n (i64.wrap (J-(a0.length:Int))) 0)
def F6 (a0:jx):Option bX:=
 some (bX.mk a0.Kind a0.Value)
def akk (e1:aAv->Int->Option aAv) (a0:aAp) (bY:aAv) (bK:Int):Option aAv:=
 cond (decide (bK<(a0.length:Int))) ((bh a0 bK).bind λaa=>(F6 aa).bind λah=>(bh bY bK).bind λaI=>e1 (List.set bY (Int.toNat bK) ah) (i64.wrap (bK+1))) (some bY)
def Pm (a0:aAp):Nat->aAv->Int->Option aAv
 |0,_,_=>none
 |n+1,bY,bK=>akk (Pm a0 n) a0 bY bK
def F7 (a0:aAp):Option aAv:=
 (nR 16 (a0.length:Int)).bind λ_=>lim λn=>Pm a0 n (replicate (Int.toNat (a0.length:Int)) (bX.mk 0 0)) 0
def akl (e1:aAm->Int->Option aAm) (a0:aAl) (bY:aAm) (bK:Int):Option aAm:=
 cond (decide (bK<(a0.length:Int))) ((bh a0 bK).bind λaa=>(F7 aa).bind λah=>(bh bY bK).bind λaI=>e1 (List.set bY (Int.toNat bK) ah) (i64.wrap (bK+1))) (some bY)
def Pn (a0:aAl):Nat->aAm->Int->Option aAm
 |0,_,_=>none
 |n+1,bY,bK=>akl (Pn a0 n) a0 bY bK
def JT (a0:aAl):Option aAm:=
 (nR 24 (a0.length:Int)).bind λ_=>lim λn=>Pn a0 n (replicate (Int.toNat (a0.length:Int)) []) 0
def F8 (a0:ly):Option b8:=
 (JT a0.cm).bind λaa=>some (b8.mk a0.Kind a0.Number a0.Name aa)
def akm (e1:aAw->Int->Option aAw) (a0:aAq) (bY:aAw) (bK:Int):Option aAw:=
 cond (decide (bK<(a0.length:Int))) ((bh a0 bK).bind λaa=>(F8 aa).bind λah=>(bh bY bK).bind λaI=>e1 (List.set bY (Int.toNat bK) ah) (i64.wrap (bK+1))) (some bY)
def Po (a0:aAq):Nat->aAw->Int->Option aAw
 |0,_,_=>none
 |n+1,bY,bK=>akm (Po a0 n) a0 bY bK
def JU (a0:aAq):Option aAw:=
 (nR 56 (a0.length:Int)).bind λ_=>lim λn=>Po a0 n (replicate (Int.toNat (a0.length:Int)) (b8.mk 0 0 ([]:aAc) [])) 0
def F9 (a0:lz):Option a1:=
 (JU a0.Body).bind λaa=>some (a1.mk a0.Name a0.dW aa)
def akn (e1:aAx->Int->Option aAx) (a0:aAr) (bY:aAx) (bK:Int):Option aAx:=
 cond (decide (bK<(a0.length:Int))) ((bh a0 bK).bind λaa=>(F9 aa).bind λah=>(bh bY bK).bind λaI=>e1 (List.set bY (Int.toNat bK) ah) (i64.wrap (bK+1))) (some bY)
def Pp (a0:aAr):Nat->aAx->Int->Option aAx
 |0,_,_=>none
 |n+1,bY,bK=>akn (Pp a0 n) a0 bY bK
def JV (a0:aAr):Option aAx:=
 (nR 48 (a0.length:Int)).bind λ_=>lim λn=>Pp a0 n (replicate (Int.toNat (a0.length:Int)) (a1.mk ([]:aAc) 0 [])) 0
def ako (e1:aAe->Int->Option aAe) (a0 bY:aAe) (bK:Int):Option aAe:=
 cond (decide (bK<(a0.length:Int))) ((bh a0 bK).bind λaa=>(bh bY bK).bind λah=>e1 (List.set bY (Int.toNat bK) aa) (i64.wrap (bK+1))) (some bY)
def Pq (a0:aAe):Nat->aAe->Int->Option aAe
 |0,_,_=>none
 |n+1,bY,bK=>ako (Pq a0 n) a0 bY bK
def F_ (a0:aAe):Option aAe:=
 (nR 8 (a0.length:Int)).bind λ_=>lim λn=>Pq a0 n (replicate (Int.toNat (a0.length:Int)) 0) 0
def Ga (a0:lA):Option cM:=
 (F_ a0.bP).bind λaa=>some (cM.mk a0.cy aa)
def akp (e1:aAy->Int->Option aAy) (a0:aAs) (bY:aAy) (bK:Int):Option aAy:=
 cond (decide (bK<(a0.length:Int))) ((bh a0 bK).bind λaa=>(Ga aa).bind λah=>(bh bY bK).bind λaI=>e1 (List.set bY (Int.toNat bK) ah) (i64.wrap (bK+1))) (some bY)
def Pr (a0:aAs):Nat->aAy->Int->Option aAy
 |0,_,_=>none
 |n+1,bY,bK=>akp (Pr a0 n) a0 bY bK
def JW (a0:aAs):Option aAy:=
 (nR 32 (a0.length:Int)).bind λ_=>lim λn=>Pr a0 n (replicate (Int.toNat (a0.length:Int)) (cM.mk 0 [])) 0
def Gb (a0:k8):Option bW:=
 some (bW.mk a0.Left a0.cH a0.Result)
def akq (e1:aAz->Int->Option aAz) (a0:aAt) (bY:aAz) (bK:Int):Option aAz:=
 cond (decide (bK<(a0.length:Int))) ((bh a0 bK).bind λaa=>(Gb aa).bind λah=>(bh bY bK).bind λaI=>e1 (List.set bY (Int.toNat bK) ah) (i64.wrap (bK+1))) (some bY)
def Ps (a0:aAt):Nat->aAz->Int->Option aAz
 |0,_,_=>none
 |n+1,bY,bK=>akq (Ps a0 n) a0 bY bK
def JX (a0:aAt):Option aAz:=
 (nR 48 (a0.length:Int)).bind λ_=>lim λn=>Ps a0 n (replicate (Int.toNat (a0.length:Int)) (bW.mk ([]:aAc) ([]:aAc) ([]:aAc))) 0
def akr (e1:aAb->Int->Option aAb) (a0 bY:aAb) (bK:Int):Option aAb:=
 cond (decide (bK<(a0.length:Int))) ((bh a0 bK).bind λaa=>(bh bY bK).bind λah=>e1 (List.set bY (Int.toNat bK) aa) (i64.wrap (bK+1))) (some bY)
def Pt (a0:aAb):Nat->aAb->Int->Option aAb
 |0,_,_=>none
 |n+1,bY,bK=>akr (Pt a0 n) a0 bY bK
def Gc (a0:aAb):Option aAb:=
 (nR 16 (a0.length:Int)).bind λ_=>lim λn=>Pt a0 n (replicate (Int.toNat (a0.length:Int)) ([]:aAc)) 0
def yn (a0:o9):Option cT:=
 (JV a0.cz).bind λaa=>(JW a0.cj).bind λah=>(JX a0.b9).bind λaI=>(Gc a0.cC).bind λaZ=>(Gc a0.cA).bind λaX=>some (cT.mk aa ah aI aZ aX)
def Gd (a0:lB):Option ba:=
 (F_ a0.bP).bind λaa=>some (ba.mk a0.cy a0.Part aa)
def aks (e1:aAA->Int->Option aAA) (a0:aAu) (bY:aAA) (bK:Int):Option aAA:=
 cond (decide (bK<(a0.length:Int))) ((bh a0 bK).bind λaa=>(Gd aa).bind λah=>(bh bY bK).bind λaI=>e1 (List.set bY (Int.toNat bK) ah) (i64.wrap (bK+1))) (some bY)
def Pu (a0:aAu):Nat->aAA->Int->Option aAA
 |0,_,_=>none
 |n+1,bY,bK=>aks (Pu a0 n) a0 bY bK
def zX (a0:aAu):Option aAA:=
 (nR 40 (a0.length:Int)).bind λ_=>lim λn=>Pu a0 n (replicate (Int.toNat (a0.length:Int)) (ba.mk 0 0 [])) 0
def Ge (a0:UInt8):aAg:=
 some ((decide (97<=(a0.toNat:Int)))&&(decide ((a0.toNat:Int)<=122)))
def Cf (a0:UInt8):aAg:=
 some ((decide (48<=(a0.toNat:Int)))&&(decide ((a0.toNat:Int)<=57)))
def Pv (fE:Int->aAg) (a0:aAc) (er:Int):aAg:=
 cond (decide (er<(a0.length:Int))) ((bh a0 er).bind λaI=>(Ge aI).bind λaZ=>cond (!aZ) ((Cf aI).bind λaX=>cond (!aX) (some false) (fE (i64.wrap (er+1)))) (fE (i64.wrap (er+1)))) (some true)
def Gf (a0:aAc):Nat->Int->aAg
 |0,_=>none
 |n+1,er=>Pv (Gf a0 n) a0 er
def yo (a0:aAc):aAg:=
 cond (a0==([]:aAc)) (some false) (cond (decide (10<(a0.length:Int))) (some false) ((bh a0 0).bind λaa=>(Ge aa).bind λah=>cond (!ah) (some false) (lim λn=>Gf a0 n 0)))
def ml (a0 J a2:Int):aAg:=
 some ((decide (J<=a0))&&(decide (a0<=a2)))
def Gg (a0:b8) (j2:Bool):aAh:=
 cond j2 (some 1) (cond (a0.Kind==2) (some 2) (some 0))
def Gh (a0:b8):aAh:=
 cond (a0.Kind==1) (Gg a0 true) (cond (a0.Kind==3) (Gg a0 true) (Gg a0 (a0.Kind==4)))
def Pw (jy:Int->Int->aAg) (a0:aAw) (gT ho:Int):aAg:=
 cond (decide (ho<(a0.length:Int))) (cond (gT==0) (some false) ((bh a0 ho).bind λaa=>(Gh aa).bind λah=>jy (i64.wrap (gT+(i64.wrap (ah-1)))) (i64.wrap (ho+1)))) (some (gT==0))
def Cg (a0:aAw):Nat->Int->Int->aAg
 |0,_,_=>none
 |n+1,gT,ho=>Pw (Cg a0 n) a0 gT ho
def JY (a0:aAw):aAg:=
 cond (((a0.length:Int)==0)||(decide (20<(a0.length:Int)))) (some false) (lim λn=>Cg a0 n 1 0)
def JZ (a0:b8) (Gi:Bool):aAg:=
 cond Gi (some (((a0.Number==0)&&(a0.Name==([]:aAc)))&&((a0.cm.length:Int)==0))) (cond (a0.Kind==1) (some (a0.Number==0)) (cond (a0.Kind==3) (some ((a0.Number==0)&&(a0.Name==([]:aAc)))) (cond (a0.Kind==4) (some ((a0.Name==([]:aAc))&&((a0.cm.length:Int)==0))) (cond (a0.Kind==5) (some (a0.Name==([]:aAc))) (some false)))))
def Px (a0:b8):aAg:=
 cond (a0.Kind==0) (JZ a0 true) (JZ a0 (a0.Kind==2))
def Py (dB:Int->Int->aAh) (a0:aAw) (bc aO:Int):aAh:=
 cond (decide (0<aO)) ((bh a0 bc).bind λaa=>(Gh aa).bind λah=>dB (i64.wrap (bc+1)) (i64.wrap (aO+(i64.wrap (ah-1))))) (some bc)
def Ch (a0:aAw):Nat->Int->Int->aAh
 |0,_,_=>none
 |n+1,bc,aO=>Py (Ch a0 n) a0 bc aO
def Gj (a0:aAw) (J:Int):aAh:=
 lim λn=>Ch a0 n J 1
def Gk (e1:Int->Int->aAh) (a0:a1) (J Ci Cj:Int):aAh:=
 e1 Ci (i64.wrap (Cj+1))
def Pz (e1:Int->Int->aAh) (a0:a1) (J fD j3:Int):aAh:=
 cond (decide (j3<J)) ((bh a0.Body j3).bind λaa=>cond (aa.Kind==4) ((Gj a0.Body j3).bind λah=>cond (decide (J<ah)) (Gk e1 a0 J (i64.wrap (fD+1)) j3) (Gk e1 a0 J fD j3)) (Gk e1 a0 J fD j3)) (some fD)
def zY (a0:a1) (J:Int):Nat->Int->Int->aAh
 |0,_,_=>none
 |n+1,fD,j3=>Pz (zY a0 J n) a0 J fD j3
def wm (a0:a1) (J:Int):aAh:=
 lim λn=>zY a0 J n a0.dW 0
def J0 (a0:bX) (J:Int):aAg:=
 cond (a0.Kind==0) ((ml a0.Value 0 63).bind λaa=>some aa) (cond (a0.Kind==1) ((ml a0.Value 0 (i64.wrap (J-1))).bind λah=>some ah) (cond (a0.Kind==2) ((ml a0.Value 0 8).bind λaI=>some aI) (cond (a0.Kind==3) (some (a0.Value==0)) (some false))))
def J1 (a0:bX):aAh:=
 cond (a0.Kind==2) (some 2) (cond (a0.Kind==3) (some 1) (some 0))
def PA (jy:Int->Int->aAg) (a0:aAv) (J j2 uJ:Int):aAg:=
 cond (decide (uJ<(a0.length:Int))) (cond (j2==0) (some false) ((bh a0 uJ).bind λaa=>(J0 aa J).bind λah=>cond (!ah) (some false) ((J1 aa).bind λaI=>jy (i64.wrap (j2+(i64.wrap (aI-1)))) (i64.wrap (uJ+1))))) (some (j2==0))
def Ck (a0:aAv) (J:Int):Nat->Int->Int->aAg
 |0,_,_=>none
 |n+1,j2,uJ=>PA (Ck a0 J n) a0 J j2 uJ
def J2 (a0:aAv) (J a2:Int):aAg:=
 cond (decide (a2<(a0.length:Int))) (some false) (lim λn=>Ck a0 J n 1 0)
def PB (kY:Int->Int->aAh) (aa:b8) (uK uL:Int):aAh:=
 cond (decide (uL<(aa.cm.length:Int))) ((bh aa.cm uL).bind λaZ=>(J2 aZ uK 15).bind λaX=>cond (!aX) (some 8) (kY uK (i64.wrap (uL+1)))) (some 0)
def yp (aa:b8):Nat->Int->Int->aAh
 |0,_,_=>none
 |n+1,uK,uL=>PB (yp aa n) aa uK uL
def ta (J:a1) (a2:Int) (aa:b8) (Gl:Bool):aAh:=
 cond Gl (some 6) ((wm J a2).bind λaI=>cond ((aa.Kind==4)&&(decide (6<=aI))) (some 7) (lim λn=>yp aa n aI 0))
def wo (J:a1) (a2:Int) (aa:b8):aAh:=
 cond (aa.Kind==5) (cond (a2==0) (ta J a2 aa true) ((bh J.Body (i64.wrap (a2-1))).bind λbz=>ta J a2 aa (bz.Kind !=1))) (ta J a2 aa false)
def uM (a0:aAx) (J:a1) (a2:Int) (aa:b8) (Gm:Bool):aAh:=
 cond Gm (some 4) (cond (aa.Kind==1) (cond ((decide (2<(aa.cm.length:Int)))||((decide (0<(aa.cm.length:Int)))&&(aa.Name==([116,97,117]:aAc)))) (some 5) (wo J a2 aa)) (cond (aa.Kind==3) (cond ((aa.cm.length:Int) !=1) (some 5) (wo J a2 aa)) (cond (aa.Kind==5) ((bh a0 aa.Number).bind λbw=>cond ((aa.cm.length:Int) !=bw.dW) (some 5) (wo J a2 aa)) (wo J a2 aa))))
def Cl (a0:aAx) (J:a1) (a2:Int) (aa:b8) (Gn:Bool):aAh:=
 cond Gn (some 3) (cond (aa.Kind==4) ((ml aa.Number 1 7).bind λcD=>cond (!cD) (uM a0 J a2 aa true) (cond (aa.Kind==5) ((ml aa.Number 0 (i64.wrap ((a0.length:Int)-1))).bind λdu=>uM a0 J a2 aa (!du)) (uM a0 J a2 aa false))) (cond (aa.Kind==5) ((ml aa.Number 0 (i64.wrap ((a0.length:Int)-1))).bind λdH=>uM a0 J a2 aa (!dH)) (uM a0 J a2 aa false)))
def tb (a0:aAx) (J:a1) (a2:Int):aAh:=
 (bh J.Body a2).bind λaa=>(Px aa).bind λah=>cond (!ah) (some 2) (cond (aa.Kind==1) ((yo aa.Name).bind λeY=>Cl a0 J a2 aa (!eY)) (Cl a0 J a2 aa false))
def Gp (fE:Int->Option (Int×Int)) (a0:aAx) (J:a1) (q3:Int):Option (Int×Int):=
 cond (decide (q3<(J.Body.length:Int))) ((tb a0 J q3).bind λah=>cond (decide (0<ah)) (some (q3,ah)) (fE (i64.wrap (q3+1)))) (some (0,0))
def wq (a0:aAx) (J:a1):Nat->Int->Option (Int×Int)
 |0,_=>none
 |n+1,q3=>Gp (wq a0 J n) a0 J q3
def wt (a0:aAx) (J:a1):Option (Int×Int):=
 (JY J.Body).bind λaa=>cond (!aa) (some (0,1)) (lim λn=>wq a0 J n 0)
def PC (fE:Int->aAg) (PD:Int->Int->aAg) (a0:aAx) (rT uN:Int):aAg:=
 cond (decide (uN<rT)) ((bh a0 uN).bind λaZ=>(bh a0 rT).bind λaX=>cond (aZ.Name==aX.Name) (some false) (PD rT (i64.wrap (uN+1)))) (fE (i64.wrap (rT+1)))
def Cm (fE:Int->aAg) (a0:aAx):Nat->Int->Int->aAg
 |0,_,_=>none
 |n+1,rT,uN=>PC fE (Cm fE a0 n) a0 rT uN
def PE (q4:Int->aAg) (a0:aAx) (uO:Int):aAg:=
 cond (decide (uO<(a0.length:Int))) ((bh a0 uO).bind λbz=>(wt a0 bz).bind λbw=>cond (decide (0<bw.2)) (some false) (q4 (i64.wrap (uO+1)))) (some true)
def zZ (a0:aAx):Nat->Int->aAg
 |0,_=>none
 |n+1,uO=>PE (zZ a0 n) a0 uO
def PF (fE:Int->aAg) (a0:aAx) (er:Int):aAg:=
 cond (decide (er<(a0.length:Int))) ((bh a0 er).bind λaa=>(yo aa.Name).bind λah=>cond (!ah) (some false) ((ml aa.dW 0 3).bind λaI=>cond (!aI) (some false) (lim λn=>Cm fE a0 n er 0))) (lim λn=>zZ a0 n 0)
def wu (a0:aAx):Nat->Int->aAg
 |0,_=>none
 |n+1,er=>PF (wu a0 n) a0 er
def J3 (a0:aAx):aAg:=
 cond (((a0.length:Int)==0)||(decide (4<(a0.length:Int)))) (some false) (lim λn=>wu a0 n 0)
def PG (dB:Int->aAg) (a0:aAe) (iR:Int):aAg:=
 cond (decide (iR<(a0.length:Int))) ((bh a0 iR).bind λaa=>(ml aa 0 63).bind λah=>cond (!ah) (some false) (dB (i64.wrap (iR+1)))) (some true)
def Cn (a0:aAe):Nat->Int->aAg
 |0,_=>none
 |n+1,iR=>PG (Cn a0 n) a0 iR
def Gq (a0:aAe):aAg:=
 lim λn=>Cn a0 n 0
def PH (fE:Int->aAg) (a0:cT) (er:Int):aAg:=
 cond (decide (er<(a0.cj.length:Int))) ((bh a0.cj er).bind λaa=>(ml aa.cy 0 (i64.wrap ((a0.cz.length:Int)-1))).bind λah=>cond (!ah) (some false) ((bh a0.cz aa.cy).bind λaI=>cond ((aa.bP.length:Int) !=aI.dW) (some false) ((Gq aa.bP).bind λaZ=>cond (!aZ) (some false) (fE (i64.wrap (er+1)))))) (some true)
def Co (a0:cT):Nat->Int->aAg
 |0,_=>none
 |n+1,er=>PH (Co a0 n) a0 er
def J4 (a0:cT):aAg:=
 cond (((a0.cj.length:Int)==0)||(decide (3<(a0.cj.length:Int)))) (some false) (lim λn=>Co a0 n 0)
def uP (a0:aAc):aAg:=
 (yo a0).bind λaa=>some (aa&&(!(a0==([116,97,117]:aAc))))
def PI (fE:Int->aAg) (akt:Int->Int->aAg) (a0:aAz) (aa:bW) (n4 oK:Int):aAg:=
 cond (decide (oK<(a0.length:Int))) ((bh a0 oK).bind λbw=>cond ((bw.Left==aa.Result)||(bw.cH==aa.Result)) (some false) (akt n4 (i64.wrap (oK+1)))) (fE (i64.wrap (n4+1)))
def wv (fE:Int->aAg) (a0:aAz) (aa:bW):Nat->Int->Int->aAg
 |0,_,_=>none
 |n+1,n4,oK=>PI fE (wv fE a0 aa n) a0 aa n4 oK
def PJ (fE:Int->aAg) (a0:aAz) (er:Int):aAg:=
 cond (decide (er<(a0.length:Int))) ((bh a0 er).bind λaa=>(uP aa.Left).bind λah=>cond (!ah) (some false) ((uP aa.cH).bind λaI=>cond (!aI) (some false) ((uP aa.Result).bind λaZ=>cond ((!aZ)||(!(Op.bytesLess aa.Left aa.cH||aa.Left==aa.cH))) (some false) (cond (decide (0<er)) ((bh a0 (i64.wrap (er-1))).bind λaX=>cond ((!(Op.bytesLess aX.Left aa.Left||aX.Left==aa.Left))||((aX.Left==aa.Left)&&(!(Op.bytesLess aX.cH aa.cH)))) (some false) (lim λn=>wv fE a0 aa n er 0)) (lim λn=>wv fE a0 aa n er 0))))) (some true)
def tc (a0:aAz):Nat->Int->aAg
 |0,_=>none
 |n+1,er=>PJ (tc a0 n) a0 er
def J5 (a0:aAz):aAg:=
 cond (decide (6<(a0.length:Int))) (some false) (lim λn=>tc a0 n 0)
def PK (dB:Int->aAg) (a0:aAb) (iR:Int):aAg:=
 cond (decide (iR<(a0.length:Int))) ((bh a0 iR).bind λaa=>(uP aa).bind λah=>cond (!ah) (some false) (dB (i64.wrap (iR+1)))) (some true)
def Cp (a0:aAb):Nat->Int->aAg
 |0,_=>none
 |n+1,iR=>PK (Cp a0 n) a0 iR
def J6 (a0:aAb):aAg:=
 lim λn=>Cp a0 n 0
def J7 (fE:Int->aAg) (a0:aAb) (er:Int):aAg:=
 cond (decide (er<(a0.length:Int))) ((bh a0 (i64.wrap (er-1))).bind λah=>(bh a0 er).bind λaI=>cond (!(Op.bytesLess ah aI)) (some false) (fE (i64.wrap (er+1)))) (some true)
def rU (a0:aAb):Nat->Int->aAg
 |0,_=>none
 |n+1,er=>J7 (rU a0 n) a0 er
def Gr (a0:aAb):aAg:=
 cond (decide (12<(a0.length:Int))) (some false) ((J6 a0).bind λaa=>cond (!aa) (some false) (lim λn=>rU a0 n 1))
def J8 (a0:cT):aAh:=
 (J3 a0.cz).bind λaa=>cond (!aa) (some 1) ((J4 a0).bind λah=>cond (!ah) (some 2) ((J5 a0.b9).bind λaI=>cond (!aI) (some 3) ((Gr a0.cC).bind λaZ=>cond (!aZ) (some 4) ((Gr a0.cA).bind λaX=>cond (!aX) (some 5) (some 0)))))
def J9 (a0:cT):aAg:=
 (J8 a0).bind λaa=>some (aa==0)
def td (a0:aAx) (J:ba):aAg:=
 (ml J.cy 0 (i64.wrap ((a0.length:Int)-1))).bind λaa=>cond (!aa) (some false) ((bh a0 J.cy).bind λah=>(ml J.Part 0 (i64.wrap ((ah.Body.length:Int)-1))).bind λaI=>cond (!aI) (some false) ((bh ah.Body J.Part).bind λaZ=>cond (aZ.Kind==5) (some false) ((wm ah J.Part).bind λaX=>cond ((J.bP.length:Int)==aX) ((Gq J.bP).bind λbz=>some bz) (some false))))
def PL (fE:Int->aAg) (a0:cT) (J:aAA) (ct:Int):aAg:=
 cond (decide (ct<(J.length:Int))) ((bh J ct).bind λaa=>(td a0.cz aa).bind λah=>cond (!ah) (some false) (fE (i64.wrap (ct+1)))) (some true)
def Cq (a0:cT) (J:aAA):Nat->Int->aAg
 |0,_=>none
 |n+1,ct=>PL (Cq a0 J n) a0 J ct
def J_ (a0:cT) (J:aAA):aAg:=
 cond ((J.length:Int) !=(a0.cj.length:Int)) (some false) (lim λn=>Cq a0 J n 0)
def Ka (a0:cT) (J:aAA):aAh:=
 (J9 a0).bind λaa=>cond (!aa) (some 1) ((J_ a0 J).bind λah=>cond (!ah) (some 1) (some 0))
def Cr (a0:aAe):Option aAe:=
 (room 8 (a0.length)).bind λ_=>some a0
def rV (a0:Bool):aAh:=
 cond a0 (some 1) (some 0)
def PM (dB:Int->Int->aAh) (a0:aAv) (bc aO:Int):aAh:=
 cond (decide (0<aO)) ((bh a0 bc).bind λaa=>(J1 aa).bind λah=>dB (i64.wrap (bc+1)) (i64.wrap (aO+(i64.wrap (ah-1))))) (some bc)
def Cs (a0:aAv):Nat->Int->Int->aAh
 |0,_,_=>none
 |n+1,bc,aO=>PM (Cs a0 n) a0 bc aO
def Kb (a0:aAv) (J:Int):aAh:=
 lim λn=>Cs a0 n J 1
def Kc (a0 J a2:Int):aAh:=
 cond (a0==0) (some (Int.tmod (i64.wrap (J+a2)) 64)) (cond (a0==1) (some (Int.tmod (i64.wrap ((i64.wrap (J-a2))+64)) 64)) (cond (a0==2) (some (Int.tmod (i64.wrap (J*a2)) 64)) (cond (a0==3) ((rV (J==a2)).bind λaa=>some aa) (cond (a0==4) ((rV (J !=a2)).bind λah=>some ah) (cond (a0==5) ((rV (decide (J<a2))).bind λaI=>some aI) (cond (a0==6) ((rV (decide (J<=a2))).bind λaZ=>some aZ) (cond (a0==7) (cond (J !=0) ((rV (a2 !=0)).bind λaX=>some aX) ((rV false).bind λbz=>some bz)) (cond (J !=0) ((rV true).bind λbw=>some bw) ((rV (a2 !=0)).bind λcD=>some cD)))))))))
def PN (Ct:aAv->aAe->Int->aAh) (a0:aAv) (J:aAe) (a2:Int):aAh:=
 (bh a0 a2).bind λaa=>cond (aa.Kind==0) (some aa.Value) (cond (aa.Kind==1) ((bh J aa.Value).bind λah=>some ah) (cond (aa.Kind==3) ((Ct a0 J (i64.wrap (a2+1))).bind λaI=>(rV (aI==0)).bind λaZ=>some aZ) ((Ct a0 J (i64.wrap (a2+1))).bind λaX=>(Kb a0 (i64.wrap (a2+1))).bind λbz=>(Ct a0 J bz).bind λbw=>(Kc aa.Value aX bw).bind λcD=>some cD)))
def z1:Nat->aAv->aAe->Int->aAh
 |0,_,_,_=>none
 |n+1,a0,J,a2=>PN (z1 n) a0 J a2
def PO (a0:aAv) (J:aAe) (a2:Int):aAh:=
 lim λn=>z1 n a0 J a2
def z6 (a0:aAv) (J:aAe):aAh:=
 (PO a0 J 0).bind λaa=>some aa
def PQ (e1:aAe->Int->Option aAe) (a0:aAm) (J fD:aAe) (j3:Int):Option aAe:=
 cond (decide (j3<(a0.length:Int))) ((bh a0 j3).bind λaa=>(z6 aa J).bind λah=>(room 8 (fD.length+1)).bind λ_=>e1 (fD++[ah]) (i64.wrap (j3+1))) (some fD)
def Cu (a0:aAm) (J:aAe):Nat->aAe->Int->Option aAe
 |0,_,_=>none
 |n+1,fD,j3=>PQ (Cu a0 J n) a0 J fD j3
def Gs (a0:aAm) (J:aAe):Option aAe:=
 lim λn=>Cu a0 J n [] 0
def Kd (jy:aAc->Int->Option aAc) (a0:Int) (wx:aAc) (yq uQ:Int):Option aAc:=
 (room 1 (wx.length+1)).bind λ_=>jy (wx++[(pr (i64.wrap (48+uQ)))]) (i64.wrap (Int.tdiv yq 10))
def aku (z7:aAc->Int->Option aAc) (o_ ix:aAc) (h4:Int):Option aAc:=
 cond (decide (0<=h4)) ((bh o_ h4).bind λaa=>(room 1 (ix.length+1)).bind λ_=>z7 (ix++[aa]) (i64.wrap (h4-1))) (some ix)
def PR (o_:aAc):Nat->aAc->Int->Option aAc
 |0,_,_=>none
 |n+1,ix,h4=>aku (PR o_ n) o_ ix h4
def yr (o_:aAc):Option aAc:=
 lim λn=>PR o_ n [] (i64.wrap ((o_.length:Int)-1))
def PS (jy:aAc->Int->Option aAc) (a0:Int) (gT:aAc) (ho:Int):Option aAc:=
 cond (ho !=0) (cond (decide ((Int.tmod ho 10)<0)) (Kd jy a0 gT ho (i64.wrap (0-(Int.tmod ho 10)))) (Kd jy a0 gT ho (Int.tmod ho 10))) (cond (decide (a0<0)) ((room 1 (gT.length+1)).bind λ_=>yr (gT++[(45:UInt8)])) (yr gT))
def wy (a0:Int):Nat->aAc->Int->Option aAc
 |0,_,_=>none
 |n+1,gT,ho=>PS (wy a0 n) a0 gT ho
def Gt (a0:Int):Option aAc:=
 cond (a0==0) (some ([48]:aAc)) (lim λn=>wy a0 n [] a0)
def Ke (jy:aAc->Int->Option aAc) (a0:aAe) (wz:aAc) (wA:Int):Option aAc:=
 (bh a0 wA).bind λaa=>(Gt aa).bind λah=>(iG (wz.length+ah.length)).bind λ_=>jy (wz++ah) (i64.wrap (wA+1))
def PT (jy:aAc->Int->Option aAc) (a0:aAe) (gT:aAc) (ho:Int):Option aAc:=
 cond (decide (ho<(a0.length:Int))) (cond (decide (0<ho)) ((iG (gT.length+1)).bind λ_=>Ke jy a0 (gT++([44]:aAc)) ho) (Ke jy a0 gT ho)) (some gT)
def z8 (a0:aAe):Nat->aAc->Int->Option aAc
 |0,_,_=>none
 |n+1,gT,ho=>PT (z8 a0 n) a0 gT ho
def Kf (a0:aAe):Option aAc:=
 cond ((a0.length:Int)==0) (some ([45]:aAc)) (lim λn=>z8 a0 n ([]:aAc) 0)
def Gu (a0:aAc) (J:aAe):Option aAc:=
 cond ((J.length:Int)==0) (some a0) ((iG (a0.length+1)).bind λ_=>(Kf J).bind λaa=>(iG ((a0++([40]:aAc)).length+aa.length)).bind λ_=>(iG (((a0++([40]:aAc))++aa).length+1)).bind λ_=>some (((a0++([40]:aAc))++aa)++([41]:aAc)))
def PU (fE:Int->aAg) (a0 J:aAe) (ct:Int):aAg:=
 cond (decide (ct<(a0.length:Int))) ((bh a0 ct).bind λaa=>(bh J ct).bind λah=>cond (aa !=ah) (some false) (fE (i64.wrap (ct+1)))) (some true)
def Cv (a0 J:aAe):Nat->Int->aAg
 |0,_=>none
 |n+1,ct=>PU (Cv a0 J n) a0 J ct
def Gv (a0 J:aAe):aAg:=
 cond ((a0.length:Int) !=(J.length:Int)) (some false) (lim λn=>Cv a0 J n 0)
def Cw (a0 J:ba):aAg:=
 cond (a0.cy==J.cy) (cond (a0.Part==J.Part) ((Gv a0.bP J.bP).bind λaa=>some aa) (some false)) (some false)
def PV (dB:Int->Option aAC) (a0:aAC) (J:bl) (aO:Int):Option aAC:=
 cond (decide (aO<(a0.length:Int))) ((bh a0 aO).bind λaa=>cond (aa.Label==J.Label) ((Cw aa.Next J.Next).bind λah=>cond ah (some a0) (dB (i64.wrap (aO+1)))) (dB (i64.wrap (aO+1)))) ((room 56 (a0.length+1)).bind λ_=>some (a0++[J]))
def Cx (a0:aAC) (J:bl):Nat->Int->Option aAC
 |0,_=>none
 |n+1,aO=>PV (Cx a0 J n) a0 J aO
def Kg (a0:aAC) (J:bl):Option aAC:=
 lim λn=>Cx a0 J n 0
def z_ (mm:aAx->Int->Int->aAe->aAC->Option aAC) (a0:aAx) (J a2:Int) (a3:aAe) (Cy:aAC):Option aAC:=
 some Cy
def Gw (mm:aAx->Int->Int->aAe->aAC->Option aAC) (a3:aAe) (a4:aAC) (ah:b8) (Aa Ab:Int) (Ac:aAe):Option aAC:=
 (Gs ah.cm a3).bind λaZ=>(Gu ah.Name aZ).bind λaX=>(Kg a4 (bl.mk aX (ba.mk Aa Ab Ac))).bind λbz=>some bz
def PW (mm:aAx->Int->Int->aAe->aAC->Option aAC) (q4:aAC->Int->Option aAC) (a0:aAx) (J a2:Int) (a3:aAe) (ah:b8) (uR:aAC) (k9:Int):Option aAC:=
 cond (decide (k9<=ah.Number)) ((Cr a3).bind λhf=>(room 8 (hf.length+1)).bind λ_=>(mm a0 J (i64.wrap (a2+1)) (hf++[k9]) uR).bind λji=>q4 ji (i64.wrap (k9+1))) (z_ mm a0 J a2 a3 uR)
def Cz (mm:aAx->Int->Int->aAe->aAC->Option aAC) (a0:aAx) (J a2:Int) (a3:aAe) (ah:b8):Nat->aAC->Int->Option aAC
 |0,_,_=>none
 |n+1,uR,k9=>PW mm (Cz mm a0 J a2 a3 ah n) a0 J a2 a3 ah uR k9
def ys (mm:aAx->Int->Int->aAe->aAC->Option aAC) (a0:aAx) (J a2:Int) (a3:aAe) (a4:aAC):Option aAC:=
 (bh a0 J).bind λaa=>(bh aa.Body a2).bind λah=>cond (decide (200<(a4.length:Int))) (some a4) (cond (ah.Kind==1) ((Cr a3).bind λaI=>(bh aa.Body (i64.wrap (a2+1))).bind λbw=>cond (bw.Kind==5) ((Gs bw.cm a3).bind λcD=>Gw mm a3 a4 ah bw.Number 0 cD) (Gw mm a3 a4 ah J (i64.wrap (a2+1)) aI)) (cond (ah.Kind==2) ((mm a0 J (i64.wrap (a2+1)) a3 a4).bind λdu=>(Gj aa.Body (i64.wrap (a2+1))).bind λdH=>(mm a0 J dH a3 du).bind λeY=>some eY) (cond (ah.Kind==3) ((bh ah.cm 0).bind λjj=>(z6 jj a3).bind λl3=>cond (l3 !=0) ((mm a0 J (i64.wrap (a2+1)) a3 a4).bind λiy=>some iy) (z_ mm a0 J a2 a3 a4)) (cond (ah.Kind==4) (lim λn=>Cz mm a0 J a2 a3 ah n a4 0) (z_ mm a0 J a2 a3 a4)))))
def rW:Nat->aAx->Int->Int->aAe->aAC->Option aAC
 |0,_,_,_,_,_=>none
 |n+1,a0,J,a2,a3,a4=>ys (rW n) a0 J a2 a3 a4
def Kh (a0:aAx) (J a2:Int) (a3:aAe) (a4:aAC):Option aAC:=
 lim λn=>rW n a0 J a2 a3 a4
def uS (a0:aAx) (J:ba):Option (aAC×Bool):=
 (Kh a0 J.cy J.Part J.bP []).bind λaa=>some (aa,(decide ((aa.length:Int)<=200)))
def PX (dB:Int->aAh) (a0:aAc) (iR:Int):aAh:=
 cond (decide (iR<(a0.length:Int))) ((bh a0 iR).bind λaa=>cond ((aa.toNat:Int)==40) (some iR) (dB (i64.wrap (iR+1)))) (some (a0.length:Int))
def yt (a0:aAc):Nat->Int->aAh
 |0,_=>none
 |n+1,iR=>PX (yt a0 n) a0 iR
def Ad (a0:aAc):aAh:=
 lim λn=>yt a0 n 0
def te (a0:aAc):Option aAc:=
 (Ad a0).bind λaa=>(gp a0 0 aa).bind λah=>some ah
def Gx (dB:Int->aAh) (a0:aAb) (J:aAc) (aO:Int):aAh:=
 cond (decide (aO<(a0.length:Int))) ((bh a0 aO).bind λaa=>cond (aa==J) (some aO) (dB (i64.wrap (aO+1)))) (some (-1))
def yu (a0:aAb) (J:aAc):Nat->Int->aAh
 |0,_=>none
 |n+1,aO=>Gx (yu a0 J n) a0 J aO
def uT (a0:aAb) (J:aAc):aAh:=
 lim λn=>yu a0 J n 0
def PY (e1:aAA->Int->Option aAA) (a0 bY:aAA) (bK:Int):Option aAA:=
 cond (decide (bK<(a0.length:Int))) ((bh a0 bK).bind λaa=>(Cr aa.bP).bind λah=>(room 40 (bY.length+1)).bind λ_=>e1 (bY++[(ba.mk aa.cy aa.Part ah)]) (i64.wrap (bK+1))) (some bY)
def CA (a0:aAA):Nat->aAA->Int->Option aAA
 |0,_,_=>none
 |n+1,bY,bK=>PY (CA a0 n) a0 bY bK
def wB (a0:aAA):Option aAA:=
 lim λn=>CA a0 n [] 0
def CB (a0:cT) (J:aAc):Option aAc:=
 (te J).bind λaa=>(uT a0.cA aa).bind λah=>cond (decide (0<=ah)) (some ([116,97,117]:aAc)) (some J)
def PZ (fE:Int->aAg) (a0 J:aAA) (ct:Int):aAg:=
 cond (decide (ct<(a0.length:Int))) ((bh a0 ct).bind λaa=>(bh J ct).bind λah=>(Cw aa ah).bind λaI=>cond (!aI) (some false) (fE (i64.wrap (ct+1)))) (some true)
def CC (a0 J:aAA):Nat->Int->aAg
 |0,_=>none
 |n+1,ct=>PZ (CC a0 J n) a0 J ct
def Ki (a0 J:aAA):aAg:=
 cond ((a0.length:Int) !=(J.length:Int)) (some false) (lim λn=>CC a0 J n 0)
def P0 (dB:Int->Option aAB) (a0:aAB) (J:bm) (aO:Int):Option aAB:=
 cond (decide (aO<(a0.length:Int))) ((bh a0 aO).bind λaa=>cond (aa.Label==J.Label) (cond (aa.na==J.na) (cond (aa.Second==J.Second) ((Ki aa.State J.State).bind λah=>cond ah (some a0) (dB (i64.wrap (aO+1)))) (dB (i64.wrap (aO+1)))) (dB (i64.wrap (aO+1)))) (dB (i64.wrap (aO+1)))) ((room 56 (a0.length+1)).bind λ_=>some (a0++[J]))
def CD (a0:aAB) (J:bm):Nat->Int->Option aAB
 |0,_=>none
 |n+1,aO=>P0 (CD a0 J n) a0 J aO
def Ae (a0:aAB) (J:bm):Option aAB:=
 lim λn=>CD a0 J n 0
def Kj (kE:aAb->Int->Int->Option aAb) (a0:aAc) (J:UInt8) (CE:aAb) (CF CG:Int):Option aAb:=
 kE CE CF (i64.wrap (CG+1))
def P1 (kE:aAb->Int->Int->Option aAb) (a0:aAc) (J:UInt8) (kn:aAb) (lC gg:Int):Option aAb:=
 cond (decide (gg<(a0.length:Int))) ((bh a0 gg).bind λaa=>cond ((aa.toNat:Int)==(J.toNat:Int)) ((gp a0 lC gg).bind λah=>(room 16 (kn.length+1)).bind λ_=>Kj kE a0 J (kn++[ah]) (i64.wrap (gg+1)) gg) (Kj kE a0 J kn lC gg)) ((gp a0 lC (a0.length:Int)).bind λaI=>(room 16 (kn.length+1)).bind λ_=>some (kn++[aI]))
def Af (a0:aAc) (J:UInt8):Nat->aAb->Int->Int->Option aAb
 |0,_,_,_=>none
 |n+1,kn,lC,gg=>P1 (Af a0 J n) a0 J kn lC gg
def Kk (a0:aAc) (J:UInt8):Option aAb:=
 lim λn=>Af a0 J n [] 0 0
def Gy (tf:Int):Option (Int×Bool):=
 some (tf,true)
def P2 (akv:Int->Int->Option (Int×Bool)) (a0:aAc) (ig nI pP:Int):Option (Int×Bool):=
 cond (decide (pP<(a0.length:Int))) ((bh a0 pP).bind λaZ=>(Cf aZ).bind λaX=>cond (!aX) (some (0,false)) (akv (i64.wrap ((i64.wrap (10*nI))+(i64.wrap (u8.wrap ((aZ.toNat:Int)-48))))) (i64.wrap (pP+1)))) (cond (ig==1) (Gy (i64.wrap (0-nI))) (Gy nI))
def wC (a0:aAc) (ig:Int):Nat->Int->Int->Option (Int×Bool)
 |0,_,_=>none
 |n+1,nI,pP=>P2 (wC a0 ig n) a0 ig nI pP
def CH (a0:aAc) (ig:Int):Option (Int×Bool):=
 cond ((a0.length:Int)==ig) (some (0,false)) (cond (decide (18<(i64.wrap ((a0.length:Int)-ig)))) (some (0,false)) ((bh a0 ig).bind λaa=>cond ((aa.toNat:Int)==48) (cond (decide (1<(a0.length:Int))) (some (0,false)) (lim λn=>wC a0 ig n 0 ig)) (lim λn=>wC a0 ig n 0 ig)))
def Kl (a0:aAc):Option (Int×Bool):=
 cond (decide (0<(a0.length:Int))) ((bh a0 0).bind λbz=>cond ((bz.toNat:Int)==45) (CH a0 1) (CH a0 0)) (CH a0 0)
def P3 (akw:aAe->Int->Option (aAe×Bool)) (bw:aAb) (pQ:aAe) (rX:Int):Option (aAe×Bool):=
 cond (decide (rX<(bw.length:Int))) ((bh bw rX).bind λcD=>(Kl cD).bind λdu=>cond (!du.2) (some ([],false)) ((ml du.1 0 63).bind λdH=>cond (!dH) (some ([],false)) ((room 8 (pQ.length+1)).bind λ_=>akw (pQ++[du.1]) (i64.wrap (rX+1))))) (some (pQ,(decide ((pQ.length:Int)<=2))))
def Ag (bw:aAb):Nat->aAe->Int->Option (aAe×Bool)
 |0,_,_=>none
 |n+1,pQ,rX=>P3 (Ag bw n) bw pQ rX
def Ah (a0:aAc):Option (aAe×Bool):=
 (Ad a0).bind λaa=>cond (aa==(a0.length:Int)) ((yo a0).bind λah=>some ([],ah)) ((gp a0 0 aa).bind λaI=>(uP aI).bind λaZ=>cond (!aZ) (some ([],false)) ((bh a0 (i64.wrap ((a0.length:Int)-1))).bind λaX=>cond ((aX.toNat:Int) !=41) (some ([],false)) ((gp a0 (i64.wrap (aa+1)) (i64.wrap ((a0.length:Int)-1))).bind λbz=>(Kk bz (44:UInt8)).bind λbw=>lim λn=>Ag bw n [] 0)))
def P4 (uU:aAz->aAc->aAc->Option aAc) (fE:Int->Option aAc) (a0:aAz) (J a2:aAc) (tg:Int):Option aAc:=
 cond (decide (tg<(a0.length:Int))) ((bh a0 tg).bind λah=>cond ((ah.Left==J)&&(ah.cH==a2)) (some ah.Result) (fE (i64.wrap (tg+1)))) (some ([]:aAc))
def CI (uU:aAz->aAc->aAc->Option aAc) (a0:aAz) (J a2:aAc):Nat->Int->Option aAc
 |0,_=>none
 |n+1,tg=>P4 uU (CI uU a0 J a2 n) a0 J a2 tg
def Ai (uU:aAz->aAc->aAc->Option aAc) (a0:aAz) (J a2:aAc):Option aAc:=
 cond (!(Op.bytesLess J a2||J==a2)) ((uU a0 a2 J).bind λaa=>some aa) (lim λn=>CI uU a0 J a2 n 0)
def CJ:Nat->aAz->aAc->aAc->Option aAc
 |0,_,_,_=>none
 |n+1,a0,J,a2=>Ai (CJ n) a0 J a2
def Gz (a0:aAz) (J a2:aAc):Option aAc:=
 lim λn=>CJ n a0 J a2
def Km (a0:cT) (J a2:aAc):Option aAc:=
 (Ah J).bind λaa=>(Ah a2).bind λah=>(Gv aa.1 ah.1).bind λaI=>cond (!aI) (some ([]:aAc)) ((te J).bind λaZ=>(te a2).bind λaX=>(Gz a0.b9 aZ aX).bind λbz=>cond (bz==([]:aAc)) (some ([]:aAc)) ((uT a0.cC bz).bind λbw=>cond (decide (bw<0)) (some ([]:aAc)) ((Gu bz aa.1).bind λcD=>some cD)))
def GA (q5:aAB->aAo->Int->Option (aAB×Bool)) (z7:aAB->aAo->Int->Int->Option (aAB×Bool)) (J:aAA) (bo:aAx) (bq:aAy) (bp:aAz) (bO bM:aAb) (CK:aAB) (CL:aAo) (CM CN:Int):Option (aAB×Bool):=
 z7 CK CL CM (i64.wrap (CN+1))
def P5 (q5:aAB->aAo->Int->Option (aAB×Bool)) (z7:aAB->aAo->Int->Int->Option (aAB×Bool)) (J:aAA) (bo:aAx) (bq:aAy) (bp:aAz) (bO bM:aAb) (ix:aAB) (h4:aAo) (hT l4:Int):Option (aAB×Bool):=
 (bh h4 hT).bind λaI=>cond (decide (l4<(aI.length:Int))) ((bh aI l4).bind λaZ=>cond (!(aZ.Label==([116,97,117]:aAc))) ((te aZ.Label).bind λaX=>(uT bO aX).bind λbz=>cond (decide (bz<0)) (GA q5 z7 J bo bq bp bO bM ix h4 hT l4) ((wB J).bind λbw=>(bh bw hT).bind λcD=>(CB (cT.mk bo bq bp bO bM) aZ.Label).bind λdu=>(wB (List.set bw (Int.toNat hT) aZ.Next)).bind λdH=>(Ae ix (bm.mk du hT (-1) dH)).bind λeY=>GA q5 z7 J bo bq bp bO bM eY h4 hT l4)) ((wB J).bind λjj=>(bh jj hT).bind λl3=>(CB (cT.mk bo bq bp bO bM) aZ.Label).bind λiy=>(wB (List.set jj (Int.toNat hT) aZ.Next)).bind λhf=>(Ae ix (bm.mk iy hT (-1) hf)).bind λji=>GA q5 z7 J bo bq bp bO bM ji h4 hT l4)) (q5 ix h4 (i64.wrap (hT+1)))
def yv (q5:aAB->aAo->Int->Option (aAB×Bool)) (J:aAA) (bo:aAx) (bq:aAy) (bp:aAz) (bO bM:aAb):Nat->aAB->aAo->Int->Int->Option (aAB×Bool)
 |0,_,_,_,_=>none
 |n+1,ix,h4,hT,l4=>P5 q5 (yv q5 J bo bq bp bO bM n) J bo bq bp bO bM ix h4 hT l4
def Kn (iz:aAB->aAo->Int->Option (aAB×Bool)) (kY:aAB->aAo->Int->Int->Option (aAB×Bool)) (qh:aAB->aAo->Int->Int->Int->Option (aAB×Bool)) (Ko:aAB->aAo->Int->Int->Int->Int->Option (aAB×Bool)) (J:aAA) (bo:aAx) (bq:aAy) (bp:aAz) (bO bM:aAb) (CO:aAB) (CP:aAo) (CQ CR:Int) (CS CT:Int):Option (aAB×Bool):=
 Ko CO CP CQ CR CS (i64.wrap (CT+1))
def Kp (iz:aAB->aAo->Int->Option (aAB×Bool)) (kY:aAB->aAo->Int->Int->Option (aAB×Bool)) (qh:aAB->aAo->Int->Int->Int->Option (aAB×Bool)) (Ko:aAB->aAo->Int->Int->Int->Int->Option (aAB×Bool)) (J:aAA) (bo:aAx) (bq:aAy) (bp:aAz) (bO bM:aAb) (nb:aAB) (mH:aAo) (j4 kH:Int) (nc mI:Int):Option (aAB×Bool):=
 (bh mH kH).bind λqi=>cond ((decide (mI<(qi.length:Int)))&&(decide ((nb.length:Int)<=200))) ((bh mH j4).bind λlD=>(bh lD nc).bind λlE=>(bh qi mI).bind λko=>(Km (cT.mk bo bq bp bO bM) lE.Label ko.Label).bind λlF=>cond (lF==([]:aAc)) (Kn iz kY qh Ko J bo bq bp bO bM nb mH j4 kH nc mI) ((wB J).bind λlG=>(bh lG j4).bind λP6=>(bh (List.set lG (Int.toNat j4) lE.Next) kH).bind λwD=>(CB (cT.mk bo bq bp bO bM) lF).bind λrY=>(wB (List.set (List.set lG (Int.toNat j4) lE.Next) (Int.toNat kH) ko.Next)).bind λuV=>(Ae nb (bm.mk rY j4 kH uV)).bind λKq=>Kn iz kY qh Ko J bo bq bp bO bM Kq mH j4 kH nc mI)) (qh nb mH j4 kH (i64.wrap (nc+1)))
def uW (iz:aAB->aAo->Int->Option (aAB×Bool)) (kY:aAB->aAo->Int->Int->Option (aAB×Bool)) (qh:aAB->aAo->Int->Int->Int->Option (aAB×Bool)) (J:aAA) (bo:aAx) (bq:aAy) (bp:aAz) (bO bM:aAb):Nat->aAB->aAo->Int->Int->Int->Int->Option (aAB×Bool)
 |0,_,_,_,_,_,_=>none
 |n+1,nb,mH,j4,kH,nc,mI=>Kp iz kY qh (uW iz kY qh J bo bq bp bO bM n) J bo bq bp bO bM nb mH j4 kH nc mI
def P7 (iz:aAB->aAo->Int->Option (aAB×Bool)) (kY:aAB->aAo->Int->Int->Option (aAB×Bool)) (qh:aAB->aAo->Int->Int->Int->Option (aAB×Bool)) (J:aAA) (bo:aAx) (bq:aAy) (bp:aAz) (bO bM:aAb) (uX:aAB) (th:aAo) (ti uY wE:Int):Option (aAB×Bool):=
 (bh th ti).bind λiA=>cond (decide (wE<(iA.length:Int))) (lim λn=>uW iz kY qh J bo bq bp bO bM n uX th ti uY wE 0) (kY uX th ti (i64.wrap (uY+1)))
def rZ (iz:aAB->aAo->Int->Option (aAB×Bool)) (kY:aAB->aAo->Int->Int->Option (aAB×Bool)) (J:aAA) (bo:aAx) (bq:aAy) (bp:aAz) (bO bM:aAb):Nat->aAB->aAo->Int->Int->Int->Option (aAB×Bool)
 |0,_,_,_,_,_=>none
 |n+1,uX,th,ti,uY,wE=>P7 iz kY (rZ iz kY J bo bq bp bO bM n) J bo bq bp bO bM uX th ti uY wE
def P8 (iz:aAB->aAo->Int->Option (aAB×Bool)) (kY:aAB->aAo->Int->Int->Option (aAB×Bool)) (J:aAA) (bo:aAx) (bq:aAy) (bp:aAz) (bO bM:aAb) (uZ:aAB) (u0:aAo) (u1 wF:Int):Option (aAB×Bool):=
 cond (decide (wF<(J.length:Int))) (lim λn=>rZ iz kY J bo bq bp bO bM n uZ u0 u1 wF 0) (iz uZ u0 (i64.wrap (u1+1)))
def pa (iz:aAB->aAo->Int->Option (aAB×Bool)) (J:aAA) (bo:aAx) (bq:aAy) (bp:aAz) (bO bM:aAb):Nat->aAB->aAo->Int->Int->Option (aAB×Bool)
 |0,_,_,_,_=>none
 |n+1,uZ,u0,u1,wF=>P8 iz (pa iz J bo bq bp bO bM n) J bo bq bp bO bM uZ u0 u1 wF
def P9 (iz:aAB->aAo->Int->Option (aAB×Bool)) (J:aAA) (bo:aAx) (bq:aAy) (bp:aAz) (bO bM:aAb) (r0:aAB) (yw:aAo) (tj:Int):Option (aAB×Bool):=
 cond (decide (tj<(J.length:Int))) (lim λn=>pa iz J bo bq bp bO bM n r0 yw tj (i64.wrap (tj+1))) (some (r0,(decide ((r0.length:Int)<=200))))
def l5 (J:aAA) (bo:aAx) (bq:aAy) (bp:aAz) (bO bM:aAb):Nat->aAB->aAo->Int->Option (aAB×Bool)
 |0,_,_,_=>none
 |n+1,r0,yw,tj=>P9 (l5 J bo bq bp bO bM n) J bo bq bp bO bM r0 yw tj
def P_ (q5:aAB->aAo->Int->Option (aAB×Bool)) (J:aAA) (bo:aAx) (bq:aAy) (bp:aAz) (bO bM:aAb) (u2:aAB) (u3:aAo) (wG:Int):Option (aAB×Bool):=
 cond (decide (wG<(J.length:Int))) (lim λn=>yv q5 J bo bq bp bO bM n u2 u3 wG 0) (lim λn=>l5 J bo bq bp bO bM n u2 u3 0)
def tk (J:aAA) (bo:aAx) (bq:aAy) (bp:aAz) (bO bM:aAb):Nat->aAB->aAo->Int->Option (aAB×Bool)
 |0,_,_,_=>none
 |n+1,u2,u3,wG=>P_ (tk J bo bq bp bO bM n) J bo bq bp bO bM u2 u3 wG
def GB (kE:aAo->Int->Option (aAB×Bool)) (J:aAA) (bo:aAx) (bq:aAy) (bp:aAz) (bO bM:aAb) (gg:aAo) (qj:Int):Option (aAB×Bool):=
 cond (decide (qj<(J.length:Int))) ((bh J qj).bind λaa=>(uS bo aa).bind λah=>cond (!ah.2) (some ([],false)) ((room 24 (gg.length+1)).bind λ_=>kE (gg++[ah.1]) (i64.wrap (qj+1)))) (lim λn=>tk J bo bq bp bO bM n [] gg 0)
def wH (J:aAA) (bo:aAx) (bq:aAy) (bp:aAz) (bO bM:aAb):Nat->aAo->Int->Option (aAB×Bool)
 |0,_,_=>none
 |n+1,gg,qj=>GB (wH J bo bq bp bO bM n) J bo bq bp bO bM gg qj
def GC (bo:aAx) (bq:aAy) (bp:aAz) (bO bM:aAb) (J:aAA):Option (aAB×Bool):=
 lim λn=>wH J bo bq bp bO bM n [] 0
def Qa (akx:aAb->aAn->Int->Option (aAb×aAn×Bool)) (bo:aAx) (bq:aAy) (bp:aAz) (bO bM:aAb) (aa:aAB×Bool) (qk:aAb) (ql:aAn) (nJ:Int):Option (aAb×aAn×Bool):=
 cond (decide (nJ<(aa.1.length:Int))) ((bh aa.1 nJ).bind λah=>(room 16 (qk.length+1)).bind λ_=>(room 24 (ql.length+1)).bind λ_=>akx (qk++[ah.Label]) (ql++[ah.State]) (i64.wrap (nJ+1))) (some (qk,ql,aa.2))
def CU (bo:aAx) (bq:aAy) (bp:aAz) (bO bM:aAb) (aa:aAB×Bool):Nat->aAb->aAn->Int->Option (aAb×aAn×Bool)
 |0,_,_,_=>none
 |n+1,qk,ql,nJ=>Qa (CU bo bq bp bO bM aa n) bo bq bp bO bM aa qk ql nJ
def Kr (bo:aAx) (bq:aAy) (bp:aAz) (bO bM:aAb) (J:aAA):Option (aAb×aAn×Bool):=
 (GC bo bq bp bO bM J).bind λaa=>lim λn=>CU bo bq bp bO bM aa n [] [] 0
def GD (e1:aAb->Int->Option aAb) (a0 CV:aAb) (CW:Int):Option aAb:=
 e1 CV (i64.wrap (CW+1))
def Qb (e1:aAb->Int->Option aAb) (aky:aAb->Int->Int->Int->Option aAb) (a0 k_:aAb) (l6 lH kI:Int):Option aAb:=
 cond (decide (lH<kI)) ((bh k_ (i64.wrap (kI-1))).bind λdu=>(bh k_ kI).bind λdH=>aky (List.set k_ (Int.toNat kI) du) l6 lH (i64.wrap (kI-1))) ((bh a0 l6).bind λeY=>(bh k_ lH).bind λjj=>GD e1 a0 (List.set k_ (Int.toNat lH) eY) l6)
def wI (e1:aAb->Int->Option aAb) (a0:aAb):Nat->aAb->Int->Int->Int->Option aAb
 |0,_,_,_,_=>none
 |n+1,k_,l6,lH,kI=>Qb e1 (wI e1 a0 n) a0 k_ l6 lH kI
def Qc (e1:aAb->Int->Option aAb) (akz:aAb->Int->Int->Option aAb) (a0 kZ:aAb) (oL n5:Int):Option aAb:=
 cond (decide (n5<(kZ.length:Int))) ((bh kZ n5).bind λaI=>(bh a0 oL).bind λaZ=>cond (Op.bytesLess aI aZ) (akz kZ oL (i64.wrap (n5+1))) ((room 16 (kZ.length+1)).bind λ_=>lim λn=>wI e1 a0 n (kZ++[([]:aAc)]) oL n5 (i64.wrap (((kZ++[([]:aAc)]).length:Int)-1)))) ((room 16 (kZ.length+1)).bind λ_=>lim λn=>wI e1 a0 n (kZ++[([]:aAc)]) oL n5 (i64.wrap (((kZ++[([]:aAc)]).length:Int)-1)))
def Aj (e1:aAb->Int->Option aAb) (a0:aAb):Nat->aAb->Int->Int->Option aAb
 |0,_,_,_=>none
 |n+1,kZ,oL,n5=>Qc e1 (Aj e1 a0 n) a0 kZ oL n5
def Qd (e1:aAb->Int->Option aAb) (a0 bY:aAb) (bK:Int):Option aAb:=
 cond (decide (bK<(a0.length:Int))) ((bh a0 bK).bind λaa=>(uT bY aa).bind λah=>cond (decide (0<=ah)) (GD e1 a0 bY bK) (lim λn=>Aj e1 a0 n bY bK 1)) (some bY)
def u4 (a0:aAb):Nat->aAb->Int->Option aAb
 |0,_,_=>none
 |n+1,bY,bK=>Qd (u4 a0 n) a0 bY bK
def Ks (a0:aAb):Option aAb:=
 lim λn=>u4 a0 n [([116,97,117]:aAc)] 0
def GF (Ak:aAb):Option (aAb×Int):=
 (room 16 (Ak.length)).bind λ_=>some (Ak,0)
def Kt (a0:cT) (J:aAA):Option (aAb×Int):=
 (Ka a0 J).bind λaa=>cond (aa !=0) (some ([],aa)) ((Kr a0.cz a0.cj a0.b9 a0.cC a0.cA J).bind λah=>cond (!ah.2.2) (some ([],5)) ((Ks ah.1).bind λaI=>(uT ah.1 ([116,97,117]:aAc)).bind λaZ=>cond (decide (aZ<0)) ((gp aI 1 (aI.length:Int)).bind λaX=>GF aX) (GF aI)))
def la (a0 J a2:Int):aAg:=
 some ((decide (J<=a0))&&(decide (a0<=a2)))
def Qe (a0:a1):aAg:=
 (la a0.dW 0 3).bind λaa=>some (!aa)
def Qf (dB:Int->aAh) (a0:aAx) (cI:Int):aAh:=
 cond (decide (cI<(a0.length:Int))) ((bh a0 cI).bind λaa=>(Qe aa).bind λah=>cond ah (some cI) (dB (i64.wrap (cI+1)))) (some (-1))
def GG (a0:aAx):Nat->Int->aAh
 |0,_=>none
 |n+1,cI=>Qf (GG a0 n) a0 cI
def Qg (a0:aAx):aAh:=
 lim λn=>GG a0 n 0
def Qh (a0:aAx):aAg:=
 (Qg a0).bind λaa=>some (decide (0<=aa))
def Ku (a0:aAx):aAg:=
 (Qh a0).bind λaa=>some (!aa)
def Qi (a0:UInt8):aAg:=
 some ((decide (48<=(a0.toNat:Int)))&&(decide ((a0.toNat:Int)<=57)))
def Kv (dB:Int->aAg) (a0:aAc) (fR:Int):aAg:=
 cond (decide (fR<(a0.length:Int))) ((bh a0 fR).bind λaa=>cond (!((decide (97<=(aa.toNat:Int)))&&(decide ((aa.toNat:Int)<=122)))) (cond (fR==0) (some false) ((Qi aa).bind λah=>cond (!ah) (some false) (dB (i64.wrap (fR+1))))) (dB (i64.wrap (fR+1)))) (some ((decide (1<=(a0.length:Int)))&&(decide ((a0.length:Int)<=10))))
def yx (a0:aAc):Nat->Int->aAg
 |0,_=>none
 |n+1,fR=>Kv (yx a0 n) a0 fR
def GH (a0:aAc):aAg:=
 lim λn=>yx a0 n 0
def Qj (a0:a1) (J:aAc):aAg:=
 some (a0.Name==J)
def Qk (dB:Int->aAh) (a0:aAx) (J:aAc) (cI:Int):aAh:=
 cond (decide (cI<(a0.length:Int))) ((bh a0 cI).bind λaa=>(Qj aa J).bind λah=>cond ah (some cI) (dB (i64.wrap (cI+1)))) (some (-1))
def GI (a0:aAx) (J:aAc):Nat->Int->aAh
 |0,_=>none
 |n+1,cI=>Qk (GI a0 J n) a0 J cI
def Ql (a0:aAx) (J:aAc):aAh:=
 lim λn=>GI a0 J n 0
def Kw (a0:aAx) (J:aAc):aAh:=
 (Ql a0 J).bind λaa=>some aa
def GJ (a0:b8) (ep:Bool):aAh:=
 cond ep (some 1) (cond (a0.Kind==2) (some 2) (some 0))
def GK (a0:b8):aAh:=
 cond (a0.Kind==1) (GJ a0 true) (cond (a0.Kind==3) (GJ a0 true) (GJ a0 (a0.Kind==4)))
def Qm (dB:Int->Int->aAh) (a0:a1) (bc aO:Int):aAh:=
 cond (decide (0<aO)) (cond (decide ((a0.Body.length:Int)<=bc)) (some (-1)) ((bh a0.Body bc).bind λaa=>(GK aa).bind λah=>dB (i64.wrap (bc+1)) (i64.wrap (aO+(i64.wrap (ah-1)))))) (some bc)
def CX (a0:a1):Nat->Int->Int->aAh
 |0,_,_=>none
 |n+1,bc,aO=>Qm (CX a0 n) a0 bc aO
def GL (a0:a1) (J:Int):aAh:=
 lim λn=>CX a0 n J 1
def Qn (qm:Int->dR->aAD->a1->Option (Int×aAD)) (akA:aAD->Int->Int->Option (Int×aAD)) (a3:a1) (oM:Int) (ah:b8) (aI:Int) (wJ:aAD) (tl u5:Int):Option (Int×aAD):=
 cond (decide (u5<aI)) ((qm tl (dR.mk oM (ah.Kind==1)) wJ a3).bind λaZ=>akA aZ.2 aZ.1 (i64.wrap (u5+1))) (some (tl,wJ))
def Al (qm:Int->dR->aAD->a1->Option (Int×aAD)) (a3:a1) (oM:Int) (ah:b8) (aI:Int):Nat->aAD->Int->Int->Option (Int×aAD)
 |0,_,_,_=>none
 |n+1,wJ,tl,u5=>Qn qm (Al qm a3 oM ah aI n) a3 oM ah aI wJ tl u5
def Kx (qm:Int->dR->aAD->a1->Option (Int×aAD)) (a0:Int) (J:dR) (a2:aAD) (a3:a1) (ah:b8) (oM:Int):Option (Int×aAD):=
 (GK ah).bind λaI=>lim λn=>Al qm a3 oM ah aI n (List.set a2 (Int.toNat a0) J) (i64.wrap (a0+1)) 0
def Qo (qm:Int->dR->aAD->a1->Option (Int×aAD)) (a0:Int) (J:dR) (a2:aAD) (a3:a1):Option (Int×aAD):=
 (bh a2 a0).bind λaa=>(bh a3.Body a0).bind λah=>cond (ah.Kind==4) (Kx qm a0 J a2 a3 ah (i64.wrap (J.scope+1))) (Kx qm a0 J a2 a3 ah J.scope)
def Am:Nat->Int->dR->aAD->a1->Option (Int×aAD)
 |0,_,_,_,_=>none
 |n+1,a0,J,a2,a3=>Qo (Am n) a0 J a2 a3
def Ky (a0:Int) (J:dR) (a2:aAD) (a3:a1):Option (Int×aAD):=
 lim λn=>Am n a0 J a2 a3
def CY (a0:a1):Option aAD:=
 (nR 16 (a0.Body.length:Int)).bind λ_=>(Ky 0 (dR.mk a0.dW false) (replicate (Int.toNat (a0.Body.length:Int)) (dR.mk 0 false)) a0).bind λaa=>some aa.2
def Qp (a0:b8):aAg:=
 (la a0.Kind 0 5).bind λaa=>some (((aa&&(((a0.Kind==4)||(a0.Kind==5))||(a0.Number==0)))&&((a0.Kind==1)||(a0.Name==([]:aAc))))&&((((a0.Kind==1)||(a0.Kind==3))||(a0.Kind==5))||((a0.cm.length:Int)==0)))
def u6 (a0:aAc):aAg:=
 (GH a0).bind λaa=>some (aa&&(!(a0==([116,97,117]:aAc))))
def yy (a0 J:Int):aAg:=
 (la a0 0 (i64.wrap (J-1))).bind λaa=>some aa
def Qq (a0:b8) (J:aAx):aAg:=
 cond (a0.Kind==1) (some (((a0.cm.length:Int)==0)||((!(a0.Name==([116,97,117]:aAc)))&&(decide ((a0.cm.length:Int)<=2))))) (cond (a0.Kind==3) (some ((a0.cm.length:Int)==1)) (cond (a0.Kind==5) ((bh J a0.Number).bind λaa=>some ((a0.cm.length:Int)==aa.dW)) (some true)))
def GM (a0:Int):aAg:=
 (la a0 0 63).bind λaa=>some aa
def Kz (a0:bX) (J:Int):aAg:=
 cond (a0.Kind==0) ((GM a0.Value).bind λaa=>some aa) (cond (a0.Kind==1) ((la a0.Value 0 (i64.wrap (J-1))).bind λah=>some ah) (cond (a0.Kind==2) ((la a0.Value 0 8).bind λaI=>some aI) (cond (a0.Kind==3) (some (a0.Value==0)) (some false))))
def KA (a0:bX):aAh:=
 cond (a0.Kind==2) (some 2) (cond (a0.Kind==3) (some 1) (some 0))
def Qr (jy:Int->Int->aAg) (a0:aAv) (J j2 u7:Int):aAg:=
 cond (decide (u7<(a0.length:Int))) ((bh a0 u7).bind λaZ=>cond (j2==0) (some false) ((Kz aZ J).bind λaX=>cond (!aX) (some false) ((KA aZ).bind λbz=>jy (i64.wrap (j2+(i64.wrap (bz-1)))) (i64.wrap (u7+1))))) (some (j2==0))
def CZ (a0:aAv) (J:Int):Nat->Int->Int->aAg
 |0,_,_=>none
 |n+1,j2,u7=>Qr (CZ a0 J n) a0 J j2 u7
def KB (a0:aAv) (J a2:Int):aAg:=
 (la J 0 29).bind λaa=>cond (!aa) (some false) ((la a2 1 60).bind λah=>cond (!ah) (some false) ((la (a0.length:Int) 1 a2).bind λaI=>cond (!aI) (some false) (lim λn=>CZ a0 J n 1 0)))
def Qs (a0:aAv) (J:dR):aAg:=
 (KB a0 J.scope 15).bind λaa=>some (!aa)
def Qt (dB:Int->aAh) (a0:aAm) (J:dR) (cI:Int):aAh:=
 cond (decide (cI<(a0.length:Int))) ((bh a0 cI).bind λaa=>(Qs aa J).bind λah=>cond ah (some cI) (dB (i64.wrap (cI+1)))) (some (-1))
def GN (a0:aAm) (J:dR):Nat->Int->aAh
 |0,_=>none
 |n+1,cI=>Qt (GN a0 J n) a0 J cI
def Qu (a0:aAm) (J:dR):aAh:=
 lim λn=>GN a0 J n 0
def KC (a0:aAm) (J:dR):aAg:=
 (Qu a0 J).bind λaa=>some (decide (0<=aa))
def An (a0:b8) (J:aAx) (a2:dR) (GO:Bool):aAh:=
 cond GO (some 4) ((Qq a0 J).bind λah=>cond (!ah) (some 5) (cond ((a0.Kind==5)&&(!a2.behind)) (some 6) (cond ((a0.Kind==4)&&(decide (6<=a2.scope))) (some 7) ((KC a0.cm a2).bind λaI=>cond aI (some 8) (some 0)))))
def GP (a0:b8) (J:aAx) (a2:dR) (nJ:Bool):aAh:=
 cond nJ (some 3) (cond (a0.Kind==4) ((la a0.Number 1 7).bind λaZ=>cond (!aZ) (An a0 J a2 true) (cond (a0.Kind==5) ((yy a0.Number (J.length:Int)).bind λaX=>An a0 J a2 (!aX)) (An a0 J a2 false))) (cond (a0.Kind==5) ((yy a0.Number (J.length:Int)).bind λbz=>An a0 J a2 (!bz)) (An a0 J a2 false)))
def GQ (a0:b8) (J:aAx) (a2:dR):aAh:=
 (Qp a0).bind λaa=>cond (!aa) (some 2) (cond (a0.Kind==1) (cond (!(a0.Name==([116,97,117]:aAc))) ((u6 a0.Name).bind λbw=>GP a0 J a2 (!bw)) (GP a0 J a2 false)) (GP a0 J a2 false))
def KD (jy:Int->Option (Int×Int)) (a0:aAx) (J:a1) (aI:aAD) (q6:Int):Option (Int×Int):=
 cond (decide (q6<(J.Body.length:Int))) ((bh J.Body q6).bind λaZ=>(bh aI q6).bind λaX=>(GQ aZ a0 aX).bind λbz=>cond (bz !=0) (some (q6,bz)) (jy (i64.wrap (q6+1)))) (some (0,0))
def Ao (a0:aAx) (J:a1) (aI:aAD):Nat->Int->Option (Int×Int)
 |0,_=>none
 |n+1,q6=>KD (Ao a0 J aI n) a0 J aI q6
def GR (a0:aAx) (J:a1):Option (Int×Int):=
 (la (J.Body.length:Int) 1 20).bind λaa=>cond (!aa) (some (0,1)) ((GL J 0).bind λah=>cond (ah !=(J.Body.length:Int)) (some (0,1)) ((CY J).bind λaI=>lim λn=>Ao a0 J aI n 0))
def Qv (fE:Int->aAg) (a0:aAx) (r1:Int):aAg:=
 cond (decide (r1<(a0.length:Int))) ((bh a0 r1).bind λaI=>(GH aI.Name).bind λaZ=>cond (!aZ) (some false) ((gp a0 0 r1).bind λaX=>(Kw aX aI.Name).bind λbz=>cond (decide (0<=bz)) (some false) ((GR a0 aI).bind λbw=>cond (bw.2 !=0) (some false) (fE (i64.wrap (r1+1)))))) (some true)
def C0 (a0:aAx):Nat->Int->aAg
 |0,_=>none
 |n+1,r1=>Qv (C0 a0 n) a0 r1
def KE (a0:aAx):aAg:=
 (la (a0.length:Int) 1 4).bind λaa=>cond (!aa) (some false) ((Ku a0).bind λah=>cond (!ah) (some false) (lim λn=>C0 a0 n 0))
def Qw (a0:Int):aAg:=
 (GM a0).bind λaa=>some (!aa)
def Qx (dB:Int->aAh) (a0:aAe) (cI:Int):aAh:=
 cond (decide (cI<(a0.length:Int))) ((bh a0 cI).bind λaa=>(Qw aa).bind λah=>cond ah (some cI) (dB (i64.wrap (cI+1)))) (some (-1))
def GS (a0:aAe):Nat->Int->aAh
 |0,_=>none
 |n+1,cI=>Qx (GS a0 n) a0 cI
def Qy (a0:aAe):aAh:=
 lim λn=>GS a0 n 0
def Qz (a0:aAe):aAg:=
 (Qy a0).bind λaa=>some (decide (0<=aa))
def C1 (a0:aAe):aAg:=
 (Qz a0).bind λaa=>some (!aa)
def KF (a0:aAx) (J:cM):aAg:=
 (yy J.cy (a0.length:Int)).bind λaa=>cond aa ((bh a0 J.cy).bind λah=>cond ((J.bP.length:Int)==ah.dW) ((C1 J.bP).bind λaI=>some aI) (some false)) (some false)
def QA (a0:cM) (J:cT):aAg:=
 (KF J.cz a0).bind λaa=>some (!aa)
def QB (dB:Int->aAh) (a0:aAy) (J:cT) (cI:Int):aAh:=
 cond (decide (cI<(a0.length:Int))) ((bh a0 cI).bind λaa=>(QA aa J).bind λah=>cond ah (some cI) (dB (i64.wrap (cI+1)))) (some (-1))
def GU (a0:aAy) (J:cT):Nat->Int->aAh
 |0,_=>none
 |n+1,cI=>QB (GU a0 J n) a0 J cI
def QC (a0:aAy) (J:cT):aAh:=
 lim λn=>GU a0 J n 0
def KG (a0:aAy) (J:cT):aAg:=
 (QC a0 J).bind λaa=>some (decide (0<=aa))
def cmp_isNaN_string (a0:aAc):aAg:=
 some false
def KH (a0 J:aAc):aAh:=
 (cmp_isNaN_string a0).bind λaa=>(cmp_isNaN_string J).bind λah=>cond aa (cond ah (some 0) (some (-1))) (cond ah (some 1) (cond (Op.bytesLess a0 J) (some (-1)) (cond (!(Op.bytesLess a0 J||a0==J)) (some 1) (some 0))))
def YZ (dB:Int->aAh) (a0 J:aAb) (r2:Int):aAh:=
 cond (decide (r2<(a0.length:Int))) ((bh a0 r2).bind λaa=>cond (decide ((J.length:Int)<=r2)) (some 1) ((bh J r2).bind λah=>(KH aa ah).bind λaI=>cond (aI !=0) (some aI) (dB (i64.wrap (r2+1))))) (cond (decide ((a0.length:Int)<(J.length:Int))) (some (-1)) (some 0))
def KI (a0 J:aAb):Nat->Int->aAh
 |0,_=>none
 |n+1,r2=>YZ (KI a0 J n) a0 J r2
def KJ (a0 J:aAb):aAh:=
 lim λn=>KI a0 J n 0
def KK (a0 J:bW):aAh:=
 (KJ [a0.Left,a0.cH] [J.Left,J.cH]).bind λaa=>some aa
def QD (a0 J:bW):aAg:=
 some ((a0.Left==J.Result)||(a0.cH==J.Result))
def QE (dB:Int->aAh) (a0:aAz) (J:bW) (cI:Int):aAh:=
 cond (decide (cI<(a0.length:Int))) ((bh a0 cI).bind λaa=>(QD aa J).bind λah=>cond ah (some cI) (dB (i64.wrap (cI+1)))) (some (-1))
def GV (a0:aAz) (J:bW):Nat->Int->aAh
 |0,_=>none
 |n+1,cI=>QE (GV a0 J n) a0 J cI
def QF (a0:aAz) (J:bW):aAh:=
 lim λn=>GV a0 J n 0
def GW (a0:aAz) (J:bW):aAg:=
 (QF a0 J).bind λaa=>some (decide (0<=aa))
def QG (dB:Int->aAg) (a0:aAz) (fR:Int):aAg:=
 cond (decide (fR<(a0.length:Int))) ((bh a0 fR).bind λaa=>(u6 aa.Left).bind λaX=>cond (!aX) (some false) ((u6 aa.cH).bind λbz=>cond (!bz) (some false) ((u6 aa.Result).bind λbw=>cond (!bw) (some false) (cond (!(Op.bytesLess aa.Left aa.cH||aa.Left==aa.cH)) (some false) (cond (decide (0<fR)) ((bh a0 (i64.wrap (fR-1))).bind λcD=>(KK cD aa).bind λdu=>cond (decide (0<=du)) (some false) ((GW a0 aa).bind λdH=>cond dH (some false) (dB (i64.wrap (fR+1))))) ((GW a0 aa).bind λeY=>cond eY (some false) (dB (i64.wrap (fR+1))))))))) (some (decide ((a0.length:Int)<=6)))
def C2 (a0:aAz):Nat->Int->aAg
 |0,_=>none
 |n+1,fR=>QG (C2 a0 n) a0 fR
def KL (a0:aAz):aAg:=
 lim λn=>C2 a0 n 0
def QH (dB:Int->aAg) (a0:aAb) (fR:Int):aAg:=
 cond (decide (fR<(a0.length:Int))) ((bh a0 fR).bind λaa=>(u6 aa).bind λah=>cond (!ah) (some false) (cond (decide (0<fR)) ((bh a0 (i64.wrap (fR-1))).bind λaI=>cond (Op.bytesLess aa aI||aa==aI) (some false) (dB (i64.wrap (fR+1)))) (dB (i64.wrap (fR+1))))) (some (decide ((a0.length:Int)<=12)))
def C3 (a0:aAb):Nat->Int->aAg
 |0,_=>none
 |n+1,fR=>QH (C3 a0 n) a0 fR
def GX (a0:aAb):aAg:=
 lim λn=>C3 a0 n 0
def KM (a0:cT):aAh:=
 (KE a0.cz).bind λaa=>cond (!aa) (some 1) ((la (a0.cj.length:Int) 1 3).bind λah=>cond (!ah) (some 2) ((KG a0.cj a0).bind λaI=>cond aI (some 2) ((KL a0.b9).bind λaZ=>cond (!aZ) (some 3) ((GX a0.cC).bind λaX=>cond (!aX) (some 4) ((GX a0.cA).bind λbz=>cond (!bz) (some 5) (some 0))))))
def KN (a0:cT):aAg:=
 (KM a0).bind λaa=>some (aa==0)
def GY (a0:aAx) (J:ba):aAg:=
 (yy J.cy (a0.length:Int)).bind λaa=>cond (!aa) (some false) ((bh a0 J.cy).bind λah=>(yy J.Part (ah.Body.length:Int)).bind λaI=>cond (!aI) (some false) ((bh ah.Body J.Part).bind λaZ=>cond (aZ.Kind !=5) ((CY ah).bind λaX=>(bh aX J.Part).bind λbz=>cond ((J.bP.length:Int)==bz.scope) ((C1 J.bP).bind λbw=>some bw) (some false)) (some false)))
def QI (a0:ba) (J:cT):aAg:=
 (GY J.cz a0).bind λaa=>some (!aa)
def QJ (dB:Int->aAh) (a0:aAA) (J:cT) (cI:Int):aAh:=
 cond (decide (cI<(a0.length:Int))) ((bh a0 cI).bind λaa=>(QI aa J).bind λah=>cond ah (some cI) (dB (i64.wrap (cI+1)))) (some (-1))
def GZ (a0:aAA) (J:cT):Nat->Int->aAh
 |0,_=>none
 |n+1,cI=>QJ (GZ a0 J n) a0 J cI
def QK (a0:aAA) (J:cT):aAh:=
 lim λn=>GZ a0 J n 0
def KO (a0:aAA) (J:cT):aAg:=
 (QK a0 J).bind λaa=>some (decide (0<=aa))
def KP (a0:cT) (J:aAA):aAg:=
 (KN a0).bind λah=>cond ah (cond ((J.length:Int)==(a0.cj.length:Int)) ((KO J a0).bind λaI=>some (!aI)) (some false)) (some false)
def QL (u9:aAv->Option (bX×(List dE)×aAv)) (kE:(List dE)->aAv->Int->Option (bX×(List dE)×aAv)) (aa:bX) (aI:Int) (ig:List dE) (kn:aAv) (tm:Int):Option (bX×(List dE)×aAv):=
 cond (decide (tm<aI)) ((u9 kn).bind λaZ=>(room 8 (ig.length+1)).bind λ_=>kE (ig++[(dE.mk aZ.1 aZ.2.1)]) aZ.2.2 (i64.wrap (tm+1))) (some (aa,ig,kn))
def Ap (u9:aAv->Option (bX×(List dE)×aAv)) (aa:bX) (aI:Int):Nat->(List dE)->aAv->Int->Option (bX×(List dE)×aAv)
 |0,_,_,_=>none
 |n+1,ig,kn,tm=>QL u9 (Ap u9 aa aI n) aa aI ig kn tm
def QM (u9:aAv->Option (bX×(List dE)×aAv)) (a0:aAv):Option (bX×(List dE)×aAv):=
 (bh a0 0).bind λaa=>(gp a0 1 (a0.length:Int)).bind λah=>(KA aa).bind λaI=>lim λn=>Ap u9 aa aI n [] ah 0
def C4:Nat->aAv->Option (bX×(List dE)×aAv)
 |0,_=>none
 |n+1,a0=>QM (C4 n) a0
def QN (a0:aAv):Option (bX×(List dE)×aAv):=
 lim λn=>C4 n a0
def KQ (a0:aAv):Option (bX×(List dE)):=
 (QN a0).bind λaa=>some (aa.1,aa.2.1)
def r3 (a0:Bool):aAh:=
 cond a0 (some 1) (some 0)
def KR (a0 J a2:Int):aAh:=
 cond (a0==0) (some (Int.tmod (i64.wrap (J+a2)) 64)) (cond (a0==1) (some (Int.tmod (i64.wrap ((i64.wrap (J-a2))+64)) 64)) (cond (a0==2) (some (Int.tmod (i64.wrap (J*a2)) 64)) (cond (a0==3) ((r3 (J==a2)).bind λaa=>some aa) (cond (a0==4) ((r3 (J !=a2)).bind λah=>some ah) (cond (a0==5) ((r3 (decide (J<a2))).bind λaI=>some aI) (cond (a0==6) ((r3 (decide (J<=a2))).bind λaZ=>some aZ) (cond (a0==7) (cond (J !=0) ((r3 (a2 !=0)).bind λaX=>some aX) ((r3 false).bind λbz=>some bz)) (cond (J !=0) ((r3 true).bind λbw=>some bw) ((r3 (a2 !=0)).bind λcD=>some cD)))))))))
def QO (C5:dE->aAe->aAh) (a0:dE) (J:aAe):aAh:=
 cond (a0.term.Kind==0) (some a0.term.Value) (cond (a0.term.Kind==1) ((bh J a0.term.Value).bind λaa=>some aa) (cond (a0.term.Kind==3) ((bh a0.args 0).bind λah=>(C5 ah J).bind λaI=>(r3 (aI==0)).bind λaZ=>some aZ) ((bh a0.args 0).bind λaX=>(C5 aX J).bind λbz=>(bh a0.args 1).bind λbw=>(C5 bw J).bind λcD=>(KR a0.term.Value bz cD).bind λdu=>some du)))
def Aq:Nat->dE->aAe->aAh
 |0,_,_=>none
 |n+1,a0,J=>QO (Aq n) a0 J
def QP (a0:dE) (J:aAe):aAh:=
 lim λn=>Aq n a0 J
def C6 (a0:aAv) (J:aAe):aAh:=
 (KQ a0).bind λaa=>(QP (dE.mk aa.1 aa.2) J).bind λah=>some ah
def QQ (e1:aAe->Int->Option aAe) (a0:aAm) (J fD:aAe) (r4:Int):Option aAe:=
 cond (decide (r4<(a0.length:Int))) ((bh a0 r4).bind λaa=>(C6 aa J).bind λah=>(room 8 (fD.length+1)).bind λ_=>e1 (fD++[ah]) (i64.wrap (r4+1))) (some fD)
def C7 (a0:aAm) (J:aAe):Nat->aAe->Int->Option aAe
 |0,_,_=>none
 |n+1,fD,r4=>QQ (C7 a0 J n) a0 J fD r4
def G0 (a0:aAm) (J:aAe):Option aAe:=
 lim λn=>C7 a0 J n [] 0
def yz (n:Nat):aAc:=if h:n<10 then [UInt8.ofNat (48+n)]else yz (n/10)++[UInt8.ofNat (48+n%10)]
 termination_by n
 decreasing_by omega
def G1 (n:Int):aAc:=if n<0 then 45::yz n.natAbs else yz n.toNat
def C8 (a0 J:Int):Option aAc:=if-9223372036854775808<=a0/\a0<=9223372036854775807/\J=10 then some (G1 a0)else none
def r5 (a0:Int):Option aAc:=
 (C8 a0 10).bind λaa=>some aa
def strings_Join (a0:aAb) (J:aAc):Option aAc:=if a0.length<=140737488355328/\(jQ a0 J).length<=140737488355328 then some (jQ a0 J)else none
def QR (e1:aAb->Int->Option aAc) (a0:aAe) (J:aAc) (fD:aAb) (oN:Int):Option aAc:=
 cond (decide (oN<(a0.length:Int))) ((bh a0 oN).bind λaa=>(r5 aa).bind λah=>(bh fD oN).bind λaI=>e1 (List.set fD (Int.toNat oN) ah) (i64.wrap (oN+1))) ((strings_Join fD J).bind λaZ=>some aZ)
def C9 (a0:aAe) (J:aAc):Nat->aAb->Int->Option aAc
 |0,_,_=>none
 |n+1,fD,oN=>QR (C9 a0 J n) a0 J fD oN
def Ar (a0:aAe) (J:aAc):Option aAc:=
 (nR 16 (a0.length:Int)).bind λ_=>lim λn=>C9 a0 J n (replicate (Int.toNat (a0.length:Int)) ([]:aAc)) 0
def As (a0:aAc) (J:aAe):Option (aAc×Bool):=
 cond (a0==([116,97,117]:aAc)) (some (([116,97,117]:aAc),((J.length:Int)==0))) ((u6 a0).bind λah=>cond (!ah) (some (([]:aAc),false)) (cond (decide (2<(J.length:Int))) (some (([]:aAc),false)) ((C1 J).bind λaI=>cond (!aI) (some (([]:aAc),false)) (cond ((J.length:Int)==0) (some (a0,true)) ((iG (a0.length+1)).bind λ_=>(Ar J ([44]:aAc)).bind λaZ=>(iG ((a0++([40]:aAc)).length+aZ.length)).bind λ_=>(iG (((a0++([40]:aAc))++aZ).length+1)).bind λ_=>some ((((a0++([40]:aAc))++aZ)++([41]:aAc)),true))))))
def C_ (a0:aAe):Option aAe:=
 cond a0.isEmpty (both (some []) ((room 8 (a0.length)).bind λ_=>some a0)) ((room 8 (a0.length)).bind λ_=>some a0)
def QS (a0:Int):aAg:=
 (la a0 (-1000000000000) 1000000000000).bind λaa=>some (!aa)
def QT (dB:Int->aAh) (a0:aAe) (cI:Int):aAh:=
 cond (decide (cI<(a0.length:Int))) ((bh a0 cI).bind λaa=>(QS aa).bind λah=>cond ah (some cI) (dB (i64.wrap (cI+1)))) (some (-1))
def Da (a0:aAe):Nat->Int->aAh
 |0,_=>none
 |n+1,cI=>QT (Da a0 n) a0 cI
def QU (a0:aAe):aAh:=
 lim λn=>Da a0 n 0
def QV (a0:aAe):aAg:=
 (QU a0).bind λaa=>some (decide (0<=aa))
def KS (a0:aAe):aAg:=
 cond (decide ((a0.length:Int)<=64)) ((QV a0).bind λaa=>some (!aa)) (some false)
def G2 (a0:aAe):Option aAc:=
 (KS a0).bind λaa=>cond (!aa) (some ([]:aAc)) (cond ((a0.length:Int)==0) (some ([45]:aAc)) ((Ar a0 ([44]:aAc)).bind λah=>some ah))
def KT (a0:ba):Option aAc:=
 (r5 a0.Part).bind λaa=>(iG (aa.length+1)).bind λ_=>(G2 a0.bP).bind λah=>(iG ((aa++([58]:aAc)).length+ah.length)).bind λ_=>some ((aa++([58]:aAc))++ah)
def Au (a0:ba):Option aAc:=
 (r5 a0.cy).bind λaa=>(iG (aa.length+1)).bind λ_=>(KT a0).bind λah=>(iG ((aa++([58]:aAc)).length+ah.length)).bind λ_=>some ((aa++([58]:aAc))++ah)
def KU (bo:aAx) (bq:aAC) (bp:aAa) (iS:aAc) (kJ qn:Int) (u_:aAe):Option (aAx×aAC×aAa):=
 (iG (iS.length+1)).bind λ_=>(Au (ba.mk kJ qn u_)).bind λaa=>(iG ((iS++([32]:aAc)).length+aa.length)).bind λ_=>cond (!(kc ((iS++([32]:aAc))++aa) bp)) ((room 56 (bq.length+1)).bind λ_=>some (bo,(bq++[(bl.mk iS (ba.mk kJ qn u_))]),(kx ((iS++([32]:aAc))++aa) true bp))) (some (bo,bq,bp))
def KV (oO:aAx->aAC->aAa->Int->Int->aAe->Option (aAx×aAC×aAa)) (bo:aAx) (bq:aAC) (bp:aAa) (aZ:aAc×Bool) (Db Dc:Int) (Dd:aAe):Option (aAx×aAC×aAa):=
 (KU bo bq bp aZ.1 Db Dc Dd).bind λbz=>some (bz.1,bz.2.1,bz.2.2)
def QW (oO:aAx->aAC->aAa->Int->Int->aAe->Option (aAx×aAC×aAa)) (akB:aAx->aAC->aAa->Int->Option (aAx×aAC×aAa)) (J a2:Int) (a3:aAe) (ah:b8) (wK:aAx) (wL:aAC) (wM:aAa) (lb:Int):Option (aAx×aAC×aAa):=
 cond (decide (lb<(i64.wrap (ah.Number+1)))) ((C_ a3).bind λhf=>(room 8 (hf.length+1)).bind λ_=>(oO wK wL wM J (i64.wrap (a2+1)) (hf++[lb])).bind λji=>akB ji.1 ji.2.1 ji.2.2 (i64.wrap (lb+1))) (some (wK,wL,wM))
def De (oO:aAx->aAC->aAa->Int->Int->aAe->Option (aAx×aAC×aAa)) (J a2:Int) (a3:aAe) (ah:b8):Nat->aAx->aAC->aAa->Int->Option (aAx×aAC×aAa)
 |0,_,_,_,_=>none
 |n+1,wK,wL,wM,lb=>QW oO (De oO J a2 a3 ah n) J a2 a3 ah wK wL wM lb
def yA (oO:aAx->aAC->aAa->Int->Int->aAe->Option (aAx×aAC×aAa)) (bo:aAx) (bq:aAC) (bp:aAa) (J a2:Int) (a3:aAe):Option (aAx×aAC×aAa):=
 (bh bo J).bind λaa=>(bh aa.Body a2).bind λah=>cond (ah.Kind==1) ((G0 ah.cm a3).bind λaI=>(As ah.Name aI).bind λaZ=>(C_ a3).bind λaX=>(bh aa.Body (i64.wrap (a2+1))).bind λbw=>cond (bw.Kind==5) ((G0 bw.cm a3).bind λcD=>KV oO bo bq bp aZ bw.Number 0 cD) (KV oO bo bq bp aZ J (i64.wrap (a2+1)) aX)) (cond (ah.Kind==2) ((oO bo bq bp J (i64.wrap (a2+1)) a3).bind λdu=>(GL aa (i64.wrap (a2+1))).bind λdH=>(oO du.1 du.2.1 du.2.2 J dH a3).bind λeY=>some (eY.1,eY.2.1,eY.2.2)) (cond (ah.Kind==3) ((bh ah.cm 0).bind λjj=>(C6 jj a3).bind λl3=>cond (l3 !=0) ((oO bo bq bp J (i64.wrap (a2+1)) a3).bind λiy=>some (iy.1,iy.2.1,iy.2.2)) (some (bo,bq,bp))) (cond (ah.Kind==4) (lim λn=>De oO J a2 a3 ah n bo bq bp 0) (some (bo,bq,bp)))))
def r6:Nat->aAx->aAC->aAa->Int->Int->aAe->Option (aAx×aAC×aAa)
 |0,_,_,_,_,_,_=>none
 |n+1,bo,bq,bp,J,a2,a3=>yA (r6 n) bo bq bp J a2 a3
def KW (bo:aAx) (bq:aAC) (bp:aAa) (J a2:Int) (a3:aAe):Option (aAx×aAC×aAa):=
 lim λn=>r6 n bo bq bp J a2 a3
def va (a0:aAx) (J:ba):Option (aAC×Bool):=
 (KW a0 [] [] J.cy J.Part J.bP).bind λaa=>some (aa.2.1,(decide ((aa.2.1.length:Int)<=200)))
def tn:aAc->UInt8->Int
 |[],_=> -1
 |b::l,c=>if b==c then 0 else if tn l c== -1 then-1 else tn l c+1
def QX (a0:aAc) (J:UInt8):aAh:=some (tn a0 J)
def QY (a0:aAc) (J:UInt8):aAh:=
 (QX a0 J).bind λaa=>some aa
def wN (a0 J:aAc):aAh:=
 cond (((J.length:Int)==0)||(J==a0)) (some 0) (cond ((J.length:Int)==1) ((bh J 0).bind λaa=>(QY a0 aa).bind λah=>some ah) (cond (decide ((a0.length:Int)<=(J.length:Int))) (some (-1)) (none)))
def KX (a0 J:aAc):Option (aAc×aAc×Bool):=
 (wN a0 J).bind λaa=>cond (decide (0<=aa)) ((gp a0 0 aa).bind λah=>(gp a0 (i64.wrap (aa+(J.length:Int))) (a0.length:Int)).bind λaI=>some (ah,aI,true)) (some (a0,([]:aAc),false))
def Df (a0 J:aAc):Option (aAc×aAc×Bool):=
 (KX a0 J).bind λaa=>some (aa.1,aa.2.1,aa.2.2)
def QZ (a0 J:aAc):aAg:=
 cond (decide ((J.length:Int)<=(a0.length:Int))) ((gp a0 (i64.wrap ((a0.length:Int)-(J.length:Int))) (a0.length:Int)).bind λaa=>some (aa==J)) (some false)
def Q0 (a0 J:aAc):Option aAc:=
 (QZ a0 J).bind λaa=>cond aa ((gp a0 0 (i64.wrap ((a0.length:Int)-(J.length:Int)))).bind λah=>some ah) (some a0)
def strings_TrimSuffix (a0 J:aAc):Option aAc:=
 (Q0 a0 J).bind λaa=>some aa
def Q1 (a0:aAc) (J:UInt8):aAh:=some (a0.count J:Nat)
def G3 (a0 J:aAc):aAh:=
 (wN a0 J).bind λaa=>some aa
def akC (akD:aAc->Int->aAh) (J vb:aAc) (vc:Int):aAh:=
 (G3 vb J).bind λaI=>cond (aI==(-1)) (some vc) ((gp vb (i64.wrap (aI+(J.length:Int))) (vb.length:Int)).bind λaZ=>akD aZ (i64.wrap (vc+1)))
def Q2 (J:aAc):Nat->aAc->Int->aAh
 |0,_,_=>none
 |n+1,vb,vc=>akC (Q2 J n) J vb vc
def Q3 (a0 J:aAc):aAh:=
 cond ((J.length:Int)==0) (none) (cond ((J.length:Int)==1) ((bh J 0).bind λaa=>(Q1 a0 aa).bind λah=>some ah) (lim λn=>Q2 J n a0 0))
def G4 (a0 J:aAc) (a2 j5:Int) (Dg:aAc) (Av:aAb) (wO:Int):Option aAb:=
 (bh Av wO).bind λaa=>(gp (List.set Av (Int.toNat wO) Dg) 0 (i64.wrap (wO+1))).bind λah=>some ah
def Q4 (PD:aAc->aAb->Int->Option aAb) (a0 J:aAc) (a2 j5:Int) (pb:aAc) (n9:aAb) (lI:Int):Option aAb:=
 cond (decide (lI<(i64.wrap ((k1 false j5 (i64.wrap ((a0.length:Int)+1)))-1)))) ((G3 pb J).bind λaI=>cond (decide (aI<0)) (G4 a0 J a2 j5 pb n9 lI) ((gp pb 0 (i64.wrap (aI+a2))).bind λaZ=>(bh n9 lI).bind λaX=>(gp pb (i64.wrap (aI+(J.length:Int))) (pb.length:Int)).bind λbz=>PD bz (List.set n9 (Int.toNat lI) aZ) (i64.wrap (lI+1)))) (G4 a0 J a2 j5 pb n9 lI)
def Aw (a0 J:aAc) (a2 j5:Int):Nat->aAc->aAb->Int->Option aAb
 |0,_,_,_=>none
 |n+1,pb,n9,lI=>Q4 (Aw a0 J a2 j5 n) a0 J a2 j5 pb n9 lI
def KY (a0 J:aAc) (a2 j5:Int):Option aAb:=
 (nR 16 (k1 false j5 (i64.wrap ((a0.length:Int)+1)))).bind λ_=>lim λn=>Aw a0 J a2 j5 n a0 (replicate (Int.toNat (k1 false j5 (i64.wrap ((a0.length:Int)+1)))) ([]:aAc)) 0
def Q5 (a0 J:aAc) (a2 a3:Int):Option aAb:=
 cond (a3==0) (some []) (cond (J==([]:aAc)) (none) (cond (decide (a3<0)) ((Q3 a0 J).bind λbw=>KY a0 J a2 (i64.wrap (bw+1))) (KY a0 J a2 a3)))
def KZ (a0 J:aAc):Option aAb:=
 (Q5 a0 J 0 (-1)).bind λaa=>some aa
def gL (c:UInt8):Bool:=decide (48<=c.toNat)&&decide (c.toNat<=57)
def nd (d:aAc):Nat:=d.foldl (λn c=>10*n+(c.toNat-48)) 0
def qo (k:Nat) (d:aAc):Int×Bool:=if d≠[]/\d.length<=18/\d.all gL=true/\¬(d.head? =some 48/\1<d.length+k)then(if k=1 then-(nd d:Int)else nd d,true)else(0,false)
def kp (s:aAc):Int×Bool:=if s.head? =some 45 then qo 1 s.tail else qo 0 s
def K0 (a0:aAc):Option (Int×Bool):=some (kp a0)
def Q6 (e1:aAe->Int->Option (aAe×Bool)) (a0:aAb) (bK:aAe) (r7:Int):Option (aAe×Bool):=
 cond (decide (r7<(a0.length:Int))) ((bh a0 r7).bind λaa=>(K0 aa).bind λah=>cond (!ah.2) (some ([],false)) ((room 8 (bK.length+1)).bind λ_=>e1 (bK++[ah.1]) (i64.wrap (r7+1)))) (some (bK,true))
def Dh (a0:aAb):Nat->aAe->Int->Option (aAe×Bool)
 |0,_,_=>none
 |n+1,bK,r7=>Q6 (Dh a0 n) a0 bK r7
def K1 (a0:aAb):Option (aAe×Bool):=
 lim λn=>Dh a0 n [] 0
def G5 (a0:aAc) (aa:aAc×aAc×Bool) (vd:aAe):Option (aAc×aAe×Bool):=
 (As aa.1 vd).bind λah=>cond ((!ah.2)||(!(ah.1==a0))) (some (([]:aAc),[],false)) (some (aa.1,vd,true))
def Ax (a0:aAc):Option (aAc×aAe×Bool):=
 (Df a0 ([40]:aAc)).bind λaa=>cond aa.2.2 ((strings_TrimSuffix aa.2.1 ([41]:aAc)).bind λaI=>(KZ aI ([44]:aAc)).bind λaZ=>(K1 aZ).bind λaX=>cond (!aX.2) (some (([]:aAc),[],false)) (G5 a0 aa aX.1)) (G5 a0 aa [])
def Q7 (dB:Int->aAh) (a0:aAb) (J:aAc) (cI:Int):aAh:=
 cond (decide (cI<(a0.length:Int))) ((bh a0 cI).bind λaa=>cond (J==aa) (some cI) (dB (i64.wrap (cI+1)))) (some (-1))
def Ay (a0:aAb) (J:aAc):Nat->Int->aAh
 |0,_=>none
 |n+1,cI=>Q7 (Ay a0 J n) a0 J cI
def Q8 (a0:aAb) (J:aAc):aAh:=
 lim λn=>Ay a0 J n 0
def Di (a0:aAb) (J:aAc):aAg:=
 (Q8 a0 J).bind λaa=>some (decide (0<=aa))
def Az (a0:ba):Option ba:=
 (C_ a0.bP).bind λaa=>some (ba.mk a0.cy a0.Part aa)
def Q9 (e1:aAA->Int->Option aAA) (a0 bY:aAA) (lf:Int):Option aAA:=
 cond (decide (lf<(a0.length:Int))) ((bh a0 lf).bind λaa=>(Az aa).bind λah=>(room 40 (bY.length+1)).bind λ_=>e1 (bY++[ah]) (i64.wrap (lf+1))) (some bY)
def Dj (a0:aAA):Nat->aAA->Int->Option aAA
 |0,_,_=>none
 |n+1,bY,lf=>Q9 (Dj a0 n) a0 bY lf
def K2 (a0:aAA):Option aAA:=
 lim λn=>Dj a0 n [] 0
def Q_ (e1:aAb->Int->Option aAc) (a0:aAA) (bY:aAb) (lf:Int):Option aAc:=
 cond (decide (lf<(a0.length:Int))) ((bh a0 lf).bind λaa=>(Au aa).bind λah=>(room 16 (bY.length+1)).bind λ_=>e1 (bY++[ah]) (i64.wrap (lf+1))) ((strings_Join bY ([32]:aAc)).bind λaI=>some aI)
def Dk (a0:aAA):Nat->aAb->Int->Option aAc
 |0,_,_=>none
 |n+1,bY,lf=>Q_ (Dk a0 n) a0 bY lf
def K3 (a0:aAA):Option aAc:=
 lim λn=>Dk a0 n [] 0
def Dl (a3 a4:Int) (bo:aAx) (bq:aAy) (bp:aAz) (bO bM:aAb) (gx:aAA) (gF:aAB) (gy:aAa) (iB:aAc) (nf:aAA):Option (aAx×aAy×aAz×aAb×aAb×aAA×aAB×aAa):=
 (iG (iB.length+1)).bind λ_=>(r5 a3).bind λlD=>(iG ((iB++([32]:aAc)).length+lD.length)).bind λ_=>(iG (((iB++([32]:aAc))++lD).length+1)).bind λ_=>(r5 a4).bind λlE=>(iG ((((iB++([32]:aAc))++lD)++([32]:aAc)).length+lE.length)).bind λ_=>(iG (((((iB++([32]:aAc))++lD)++([32]:aAc))++lE).length+1)).bind λ_=>(K3 nf).bind λko=>(iG ((((((iB++([32]:aAc))++lD)++([32]:aAc))++lE)++([32]:aAc)).length+ko.length)).bind λ_=>cond (!(kc ((((((iB++([32]:aAc))++lD)++([32]:aAc))++lE)++([32]:aAc))++ko) gy)) ((room 56 (gF.length+1)).bind λ_=>some (bo,bq,bp,bO,bM,gx,(gF++[(bm.mk iB a3 a4 nf)]),(kx ((((((iB++([32]:aAc))++lD)++([32]:aAc))++lE)++([32]:aAc))++ko) true gy))) (some (bo,bq,bp,bO,bM,gx,gF,gy))
def q7 (a3 a4:Int) (a5:aAA) (bo:aAx) (bq:aAy) (bp:aAz) (bO bM:aAb) (gx:aAA) (gF:aAB) (gy:aAa) (tp:aAc) (tq:aAe):Option (aAx×aAy×aAz×aAb×aAb×aAA×aAB×aAa):=
 (As tp tq).bind λiy=>(K2 gx).bind λhf=>(bh a5 0).bind λji=>(Az ji).bind λiA=>(bh hf a3).bind λqi=>cond (decide (0<=a4)) ((bh a5 1).bind λlF=>(Az lF).bind λlG=>(bh (List.set hf (Int.toNat a3) iA) a4).bind λP6=>Dl a3 a4 bo bq bp bO bM gx gF gy iy.1 (List.set (List.set hf (Int.toNat a3) iA) (Int.toNat a4) lG)) (Dl a3 a4 bo bq bp bO bM gx gF gy iy.1 (List.set hf (Int.toNat a3) iA))
def Dm (bo:aAx) (bq:aAy) (bp:aAz) (bO bM:aAb) (gx:aAA) (gF:aAB) (gy:aAa) (J:aAc) (a2:aAe) (a3 a4:Int) (a5:aAA):Option (aAx×aAy×aAz×aAb×aAb×aAA×aAB×aAa):=
 cond (!(J==([116,97,117]:aAc))) ((Di bO J).bind λaa=>cond (!aa) (some (bo,bq,bp,bO,bM,gx,gF,gy)) ((Di bM J).bind λl3=>cond l3 (q7 a3 a4 a5 bo bq bp bO bM gx gF gy ([116,97,117]:aAc) []) (q7 a3 a4 a5 bo bq bp bO bM gx gF gy J a2))) ((Di bM J).bind λwD=>cond wD (q7 a3 a4 a5 bo bq bp bO bM gx gF gy ([116,97,117]:aAc) []) (q7 a3 a4 a5 bo bq bp bO bM gx gF gy J a2))
def Y0 (a0:bW) (J a2:aAc):aAg:=
 some ((a0.Left==(hU false J a2))&&(a0.cH==(hU true J a2)))
def Ra (dB:Int->aAh) (a0:aAz) (iS kJ:aAc) (cI:Int):aAh:=
 cond (decide (cI<(a0.length:Int))) ((bh a0 cI).bind λaa=>(Y0 aa iS kJ).bind λah=>cond ah (some cI) (dB (i64.wrap (cI+1)))) (some (-1))
def Dn (a0:aAz) (iS kJ:aAc):Nat->Int->aAh
 |0,_=>none
 |n+1,cI=>Ra (Dn a0 iS kJ n) a0 iS kJ cI
def Rb (a0:aAz) (iS kJ:aAc):aAh:=
 lim λn=>Dn a0 iS kJ n 0
def AA (a0:cT) (J a2:aAc):Option (aAc×Bool):=
 (Rb a0.b9 J a2).bind λaa=>cond (decide (aa<0)) (some (([]:aAc),false)) ((bh a0.b9 aa).bind λah=>some (ah.Result,true))
def Rc (fE:Int->aAg) (a0 J:aAe) (tr:Int):aAg:=
 cond (decide (tr<(a0.length:Int))) ((bh a0 tr).bind λaa=>(bh J tr).bind λah=>cond (aa !=ah) (some false) (fE (i64.wrap (tr+1)))) (some true)
def Dp (a0 J:aAe):Nat->Int->aAg
 |0,_=>none
 |n+1,tr=>Rc (Dp a0 J n) a0 J tr
def G6 (a0 J:aAe):aAg:=
 cond ((a0.length:Int) !=(J.length:Int)) (some false) (lim λn=>Dp a0 J n 0)
def G7 (dV:aAx->aAy->aAz->aAb->aAb->aAA->aAB->aAa->Int->Option (aAx×aAy×aAz×aAb×aAb×aAA×aAB×aAa)) (G8:aAx->aAy->aAz->aAb->aAb->aAA->aAB->aAa->Int->Int->Option (aAx×aAy×aAz×aAb×aAb×aAA×aAB×aAa)) (J a2:Int) (a3 a4:aAC) (aa:bl) (ah:aAc×aAe×Bool) (Dq:aAx) (Dr:aAy) (Ds:aAz) (Dt Du:aAb) (Dv:aAA) (Dw:aAB) (Dx:aAa) (Dy Dz:Int):Option (aAx×aAy×aAz×aAb×aAb×aAA×aAB×aAa):=
 G8 Dq Dr Ds Dt Du Dv Dw Dx Dy (i64.wrap (Dz+1))
def Re (dV:aAx->aAy->aAz->aAb->aAb->aAA->aAB->aAa->Int->Option (aAx×aAy×aAz×aAb×aAb×aAA×aAB×aAa)) (G8:aAx->aAy->aAz->aAb->aAb->aAA->aAB->aAa->Int->Int->Option (aAx×aAy×aAz×aAb×aAb×aAA×aAB×aAa)) (J a2:Int) (a3 a4:aAC) (aa:bl) (ah:aAc×aAe×Bool) (oP:aAx) (oQ:aAy) (oR:aAz) (oS oT:aAb) (pR:aAA) (pS:aAB) (pT:aAa) (pc pd:Int):Option (aAx×aAy×aAz×aAb×aAb×aAA×aAB×aAa):=
 cond (decide (pd<(a4.length:Int))) ((bh a4 pd).bind λaI=>(Ax aI.Label).bind λaZ=>(AA (cT.mk oP oQ oR oS oT) ah.1 aZ.1).bind λaX=>cond aX.2 ((G6 ah.2.1 aZ.2.1).bind λbz=>cond bz ((Dm oP oQ oR oS oT pR pS pT aX.1 ah.2.1 J a2 [aa.Next,aI.Next]).bind λbw=>G7 dV G8 J a2 a3 a4 aa ah bw.1 bw.2.1 bw.2.2.1 bw.2.2.2.1 bw.2.2.2.2.1 bw.2.2.2.2.2.1 bw.2.2.2.2.2.2.1 bw.2.2.2.2.2.2.2 pc pd) (G7 dV G8 J a2 a3 a4 aa ah oP oQ oR oS oT pR pS pT pc pd)) (G7 dV G8 J a2 a3 a4 aa ah oP oQ oR oS oT pR pS pT pc pd)) (dV oP oQ oR oS oT pR pS pT (i64.wrap (pc+1)))
def wP (dV:aAx->aAy->aAz->aAb->aAb->aAA->aAB->aAa->Int->Option (aAx×aAy×aAz×aAb×aAb×aAA×aAB×aAa)) (J a2:Int) (a3 a4:aAC) (aa:bl) (ah:aAc×aAe×Bool):Nat->aAx->aAy->aAz->aAb->aAb->aAA->aAB->aAa->Int->Int->Option (aAx×aAy×aAz×aAb×aAb×aAA×aAB×aAa)
 |0,_,_,_,_,_,_,_,_,_,_=>none
 |n+1,oP,oQ,oR,oS,oT,pR,pS,pT,pc,pd=>Re dV (wP dV J a2 a3 a4 aa ah n) J a2 a3 a4 aa ah oP oQ oR oS oT pR pS pT pc pd
def Rf (dV:aAx->aAy->aAz->aAb->aAb->aAA->aAB->aAa->Int->Option (aAx×aAy×aAz×aAb×aAb×aAA×aAB×aAa)) (J a2:Int) (a3 a4:aAC) (ve:aAx) (vf:aAy) (vg:aAz) (vh vi:aAb) (vj:aAA) (vk:aAB) (vl:aAa) (ts:Int):Option (aAx×aAy×aAz×aAb×aAb×aAA×aAB×aAa):=
 cond (decide (ts<(a3.length:Int))) ((bh a3 ts).bind λaa=>(Ax aa.Label).bind λah=>lim λn=>wP dV J a2 a3 a4 aa ah n ve vf vg vh vi vj vk vl ts 0) (some (ve,vf,vg,vh,vi,vj,vk,vl))
def tt (J a2:Int) (a3 a4:aAC):Nat->aAx->aAy->aAz->aAb->aAb->aAA->aAB->aAa->Int->Option (aAx×aAy×aAz×aAb×aAb×aAA×aAB×aAa)
 |0,_,_,_,_,_,_,_,_,_=>none
 |n+1,ve,vf,vg,vh,vi,vj,vk,vl,ts=>Rf (tt J a2 a3 a4 n) J a2 a3 a4 ve vf vg vh vi vj vk vl ts
def Rg (bo:aAx) (bq:aAy) (bp:aAz) (bO bM:aAb) (gx:aAA) (gF:aAB) (gy:aAa) (J a2:Int) (a3 a4:aAC):Option (aAx×aAy×aAz×aAb×aAb×aAA×aAB×aAa):=
 lim λn=>tt J a2 a3 a4 n bo bq bp bO bM gx gF gy 0
def Rh (kE:cT->aAA->aAB->aAa->aAo->Int->Option (aAB×Bool)) (akE:cT->aAA->aAB->aAa->aAo->Int->Int->Int->Option (aAB×Bool)) (a0:cT) (J:aAA) (ah:aAC×Bool) (ng:cT) (r8:aAA) (r9:aAB) (r_:aAa) (q8:aAo) (qp q9 q_:Int):Option (aAB×Bool):=
 cond (decide (q_<(ah.1.length:Int))) ((bh ah.1 q_).bind λaI=>(Ax aI.Label).bind λaZ=>(Dm ng.cz ng.cj ng.b9 ng.cC ng.cA r8 r9 r_ aZ.1 aZ.2.1 qp (-1) [aI.Next]).bind λaX=>akE (cT.mk aX.1 aX.2.1 aX.2.2.1 aX.2.2.2.1 aX.2.2.2.2.1) aX.2.2.2.2.2.1 aX.2.2.2.2.2.2.1 aX.2.2.2.2.2.2.2 q8 qp q9 (i64.wrap (q_+1))) (kE ng r8 r9 r_ q8 (i64.wrap (q9+1)))
def yB (kE:cT->aAA->aAB->aAa->aAo->Int->Option (aAB×Bool)) (a0:cT) (J:aAA) (ah:aAC×Bool):Nat->cT->aAA->aAB->aAa->aAo->Int->Int->Int->Option (aAB×Bool)
 |0,_,_,_,_,_,_,_,_=>none
 |n+1,ng,r8,r9,r_,q8,qp,q9,q_=>Rh kE (yB kE a0 J ah n) a0 J ah ng r8 r9 r_ q8 qp q9 q_
def Ri (q4:cT->aAA->aAB->aAa->aAo->Int->Option (aAB×Bool)) (akF:cT->aAA->aAB->aAa->aAo->Int->Int->Int->Option (aAB×Bool)) (J:aAA) (n_:cT) (vm:aAA) (vn:aAB) (vo:aAa) (ra:aAo) (rb qq tu:Int):Option (aAB×Bool):=
 cond (decide (qq<(J.length:Int))) ((bh ra rb).bind λbz=>(bh ra qq).bind λbw=>(Rg n_.cz n_.cj n_.b9 n_.cC n_.cA vm vn vo rb qq bz bw).bind λcD=>akF (cT.mk cD.1 cD.2.1 cD.2.2.1 cD.2.2.2.1 cD.2.2.2.2.1) cD.2.2.2.2.2.1 cD.2.2.2.2.2.2.1 cD.2.2.2.2.2.2.2 ra rb (i64.wrap (qq+1)) tu) (q4 n_ vm vn vo ra (i64.wrap (tu+1)))
def AB (q4:cT->aAA->aAB->aAa->aAo->Int->Option (aAB×Bool)) (J:aAA):Nat->cT->aAA->aAB->aAa->aAo->Int->Int->Int->Option (aAB×Bool)
 |0,_,_,_,_,_,_,_,_=>none
 |n+1,n_,vm,vn,vo,ra,rb,qq,tu=>Ri q4 (AB q4 J n) J n_ vm vn vo ra rb qq tu
def Rj (q4:cT->aAA->aAB->aAa->aAo->Int->Option (aAB×Bool)) (J:aAA) (yC:cT) (yD:aAA) (sa:aAB) (yE:aAa) (yF:aAo) (re:Int):Option (aAB×Bool):=
 cond (decide (re<(J.length:Int))) (lim λn=>AB q4 J n yC yD sa yE yF re (i64.wrap (re+1)) re) (some (sa,(decide ((sa.length:Int)<=200))))
def wQ (J:aAA):Nat->cT->aAA->aAB->aAa->aAo->Int->Option (aAB×Bool)
 |0,_,_,_,_,_,_=>none
 |n+1,yC,yD,sa,yE,yF,re=>Rj (wQ J n) J yC yD sa yE yF re
def G9 (kE:cT->aAA->aAB->aAa->aAo->Int->Option (aAB×Bool)) (a0:cT) (J:aAA) (lC:cT) (rf:aAA) (rh:aAB) (ri:aAa) (gg:aAo) (oa:Int):Option (aAB×Bool):=
 cond (decide (oa<(J.length:Int))) ((bh J oa).bind λaa=>(va a0.cz aa).bind λah=>cond (!ah.2) (some ([],false)) ((room 24 (gg.length+1)).bind λ_=>lim λn=>yB kE a0 J ah n lC rf rh ri (gg++[ah.1]) oa oa 0)) (lim λn=>wQ J n lC rf rh ri gg 0)
def qs (a0:cT) (J:aAA):Nat->cT->aAA->aAB->aAa->aAo->Int->Option (aAB×Bool)
 |0,_,_,_,_,_,_=>none
 |n+1,lC,rf,rh,ri,gg,oa=>G9 (qs a0 J n) a0 J lC rf rh ri gg oa
def K4 (a0:cT) (J:aAA):Option (aAB×Bool):=
 lim λn=>qs a0 J n a0 J [] [] [] 0
def Rk (a0:cT) (J:aAA):Option (aAB×Int):=
 (KP a0 J).bind λaa=>cond (!aa) (some ([],1)) ((K4 a0 J).bind λah=>cond (!ah.2) (some ([],5)) (some (ah.1,0)))
def yG:aAc->aAc->Int
 |[],[]=>0
 |[],_::_=> -1
 |_::_,[]=>1
 |a::x,b::y=>if a<b then-1 else if b<a then 1 else yG x y
def ob (a b:aAc):Int:=if a=b then 0 else if a=[116,97,117]then-1 else if b=[116,97,117]then 1 else yG a b
def G_ (a0:aAb):Option aAb:=if a0.length<4611686018427387904 then some (a0.mergeSort λx y=> !(decide (ob y x<0)))else none
def K5 (a0:aAb):Option aAb:=some (nS none a0)
def Rl (akG:(List (Bool×bm))->aAb->Int->Option (aAb×Int)) (aa:aAB×Int) (sb:List (Bool×bm)) (qt:aAb) (oc:Int):Option (aAb×Int):=
 cond (decide (oc<(aa.1.length:Int))) ((bh sb oc).bind λah=>(ME (!ah.1)).bind λ_=>(room 16 (qt.length+1)).bind λ_=>akG (List.set sb (Int.toNat oc) (true,ah.2)) (qt++[ah.2.Label]) (i64.wrap (oc+1))) ((G_ qt).bind λaI=>(K5 aI).bind λaZ=>some (aZ,0))
def AD (aa:aAB×Int):Nat->(List (Bool×bm))->aAb->Int->Option (aAb×Int)
 |0,_,_,_=>none
 |n+1,sb,qt,oc=>Rl (AD aa n) aa sb qt oc
def Ha (a0:cT) (J:aAA):Option (aAb×Int):=
 (Rk a0 J).bind λaa=>cond (aa.2 !=0) (some ([],aa.2)) (lim λn=>AD aa n (map (λx=>(false,x)) aa.1) [] 0)
def akH (fE:Int->aAg) (a0 J:aAb) (ct:Int):aAg:=
 cond (decide (ct<(a0.length:Int))) ((bh a0 ct).bind λaa=>(bh J ct).bind λah=>cond (!(aa==ah)) (some false) (fE (i64.wrap (ct+1)))) (some true)
def Rm (a0 J:aAb):Nat->Int->aAg
 |0,_=>none
 |n+1,ct=>akH (Rm a0 J n) a0 J ct
def yH (a0 J:aAb):aAg:=
 cond ((a0.length:Int) !=(J.length:Int)) (some false) (lim λn=>Rm a0 J n 0)
def Hb (a0 J:bX):aAg:=
 cond (a0.Kind !=J.Kind) (some false) (cond (a0.Value !=J.Value) (some false) (some true))
def akI (fE:Int->aAg) (a0 J:aAv) (ct:Int):aAg:=
 cond (decide (ct<(a0.length:Int))) ((bh a0 ct).bind λaa=>(bh J ct).bind λah=>(Hb aa ah).bind λaI=>cond (!aI) (some false) (fE (i64.wrap (ct+1)))) (some true)
def Rn (a0 J:aAv):Nat->Int->aAg
 |0,_=>none
 |n+1,ct=>akI (Rn a0 J n) a0 J ct
def Hc (a0 J:aAv):aAg:=
 cond ((a0.length:Int) !=(J.length:Int)) (some false) (lim λn=>Rn a0 J n 0)
def akJ (fE:Int->aAg) (a0 J:aAm) (ct:Int):aAg:=
 cond (decide (ct<(a0.length:Int))) ((bh a0 ct).bind λaa=>(bh J ct).bind λah=>(Hc aa ah).bind λaI=>cond (!aI) (some false) (fE (i64.wrap (ct+1)))) (some true)
def Ro (a0 J:aAm):Nat->Int->aAg
 |0,_=>none
 |n+1,ct=>akJ (Ro a0 J n) a0 J ct
def K6 (a0 J:aAm):aAg:=
 cond ((a0.length:Int) !=(J.length:Int)) (some false) (lim λn=>Ro a0 J n 0)
def Hd (a0 J:b8):aAg:=
 cond (a0.Kind !=J.Kind) (some false) (cond (a0.Number !=J.Number) (some false) (cond (!(a0.Name==J.Name)) (some false) ((K6 a0.cm J.cm).bind λaa=>cond (!aa) (some false) (some true))))
def akK (fE:Int->aAg) (a0 J:aAw) (ct:Int):aAg:=
 cond (decide (ct<(a0.length:Int))) ((bh a0 ct).bind λaa=>(bh J ct).bind λah=>(Hd aa ah).bind λaI=>cond (!aI) (some false) (fE (i64.wrap (ct+1)))) (some true)
def Rp (a0 J:aAw):Nat->Int->aAg
 |0,_=>none
 |n+1,ct=>akK (Rp a0 J n) a0 J ct
def K7 (a0 J:aAw):aAg:=
 cond ((a0.length:Int) !=(J.length:Int)) (some false) (lim λn=>Rp a0 J n 0)
def He (a0 J:a1):aAg:=
 cond (!(a0.Name==J.Name)) (some false) (cond (a0.dW !=J.dW) (some false) ((K7 a0.Body J.Body).bind λaa=>cond (!aa) (some false) (some true)))
def akL (fE:Int->aAg) (a0 J:aAx) (ct:Int):aAg:=
 cond (decide (ct<(a0.length:Int))) ((bh a0 ct).bind λaa=>(bh J ct).bind λah=>(He aa ah).bind λaI=>cond (!aI) (some false) (fE (i64.wrap (ct+1)))) (some true)
def Rq (a0 J:aAx):Nat->Int->aAg
 |0,_=>none
 |n+1,ct=>akL (Rq a0 J n) a0 J ct
def K8 (a0 J:aAx):aAg:=
 cond ((a0.length:Int) !=(J.length:Int)) (some false) (lim λn=>Rq a0 J n 0)
def akM (fE:Int->aAg) (a0 J:aAe) (ct:Int):aAg:=
 cond (decide (ct<(a0.length:Int))) ((bh a0 ct).bind λaa=>(bh J ct).bind λah=>cond (aa !=ah) (some false) (fE (i64.wrap (ct+1)))) (some true)
def Rr (a0 J:aAe):Nat->Int->aAg
 |0,_=>none
 |n+1,ct=>akM (Rr a0 J n) a0 J ct
def Hf (a0 J:aAe):aAg:=
 cond ((a0.length:Int) !=(J.length:Int)) (some false) (lim λn=>Rr a0 J n 0)
def Hg (a0 J:cM):aAg:=
 cond (a0.cy !=J.cy) (some false) ((Hf a0.bP J.bP).bind λaa=>cond (!aa) (some false) (some true))
def akN (fE:Int->aAg) (a0 J:aAy) (ct:Int):aAg:=
 cond (decide (ct<(a0.length:Int))) ((bh a0 ct).bind λaa=>(bh J ct).bind λah=>(Hg aa ah).bind λaI=>cond (!aI) (some false) (fE (i64.wrap (ct+1)))) (some true)
def Rs (a0 J:aAy):Nat->Int->aAg
 |0,_=>none
 |n+1,ct=>akN (Rs a0 J n) a0 J ct
def K9 (a0 J:aAy):aAg:=
 cond ((a0.length:Int) !=(J.length:Int)) (some false) (lim λn=>Rs a0 J n 0)
def Hh (a0 J:bW):aAg:=
 cond (!(a0.Left==J.Left)) (some false) (cond (!(a0.cH==J.cH)) (some false) (cond (!(a0.Result==J.Result)) (some false) (some true)))
def akO (fE:Int->aAg) (a0 J:aAz) (ct:Int):aAg:=
 cond (decide (ct<(a0.length:Int))) ((bh a0 ct).bind λaa=>(bh J ct).bind λah=>(Hh aa ah).bind λaI=>cond (!aI) (some false) (fE (i64.wrap (ct+1)))) (some true)
def Rt (a0 J:aAz):Nat->Int->aAg
 |0,_=>none
 |n+1,ct=>akO (Rt a0 J n) a0 J ct
def K_ (a0 J:aAz):aAg:=
 cond ((a0.length:Int) !=(J.length:Int)) (some false) (lim λn=>Rt a0 J n 0)
def Hi (a0 J:cT):aAg:=
 (K8 a0.cz J.cz).bind λaa=>cond (!aa) (some false) ((K9 a0.cj J.cj).bind λah=>cond (!ah) (some false) ((K_ a0.b9 J.b9).bind λaI=>cond (!aI) (some false) ((yH a0.cC J.cC).bind λaZ=>cond (!aZ) (some false) ((yH a0.cA J.cA).bind λaX=>cond (!aX) (some false) (some true)))))
def Hj (a0 J:ba):aAg:=
 cond (a0.cy !=J.cy) (some false) (cond (a0.Part !=J.Part) (some false) ((Hf a0.bP J.bP).bind λaa=>cond (!aa) (some false) (some true)))
def akP (fE:Int->aAg) (a0 J:aAA) (ct:Int):aAg:=
 cond (decide (ct<(a0.length:Int))) ((bh a0 ct).bind λaa=>(bh J ct).bind λah=>(Hj aa ah).bind λaI=>cond (!aI) (some false) (fE (i64.wrap (ct+1)))) (some true)
def Ru (a0 J:aAA):Nat->Int->aAg
 |0,_=>none
 |n+1,ct=>akP (Ru a0 J n) a0 J ct
def La (a0 J:aAA):aAg:=
 cond ((a0.length:Int) !=(J.length:Int)) (some false) (lim λn=>Ru a0 J n 0)
def Lb (fE:Int->aAc->Option aAc) (oU:Int) (er:aAc):Option aAc:=
 cond (decide (0<oU)) ((iG (1+er.length)).bind λ_=>fE (i64.wrap (Int.tdiv oU 10)) ([(pr (i64.wrap (48+(Int.tmod oU 10))))]++er)) ((iG (1+er.length)).bind λ_=>some (([109]:aAc)++er))
def AE:Nat->Int->aAc->Option aAc
 |0,_,_=>none
 |n+1,oU,er=>Lb (AE n) oU er
def vp (a0:Int):Option aAc:=
 cond (decide (a0<=0)) (some ([109,48]:aAc)) (lim λn=>AE n a0 ([]:aAc))
def Rv (dB:aAv->Int->Int->Option (Int×aAv)) (b7:aAv) (bc aO:Int):Option (Int×aAv):=
 cond (decide (aO<(b7.length:Int))) ((bh b7 aO).bind λaa=>(bh (List.set b7 (Int.toNat aO) (bX.mk bc aa.Value)) aO).bind λah=>dB (List.set (List.set b7 (Int.toNat aO) (bX.mk bc aa.Value)) (Int.toNat aO) (bX.mk ah.Kind (i64.wrap (bc+1)))) (i64.wrap ((i64.wrap (bc+1))+1)) (i64.wrap (aO+1))) (some (bc,b7))
def DA:Nat->aAv->Int->Int->Option (Int×aAv)
 |0,_,_,_=>none
 |n+1,b7,bc,aO=>Rv (DA n) b7 bc aO
def Lc (a0:aAv) (J:Int):Option (Int×aAv):=
 lim λn=>DA n a0 J 0
def Rw (dB:aAm->Int->Int->Option (Int×aAm)) (b7:aAm) (bc aO:Int):Option (Int×aAm):=
 cond (decide (aO<(b7.length:Int))) ((bh b7 aO).bind λaa=>(Lc aa bc).bind λah=>dB (List.set b7 (Int.toNat aO) ah.2) ah.1 (i64.wrap (aO+1))) (some (bc,b7))
def DB:Nat->aAm->Int->Int->Option (Int×aAm)
 |0,_,_,_=>none
 |n+1,b7,bc,aO=>Rw (DB n) b7 bc aO
def Ld (a0:aAm) (J:Int):Option (Int×aAm):=
 lim λn=>DB n a0 J 0
def Rx (dB:aAw->Int->Int->Option (Int×aAw)) (b7:aAw) (bc aO:Int):Option (Int×aAw):=
 cond (decide (aO<(b7.length:Int))) ((bh b7 aO).bind λaa=>(bh (List.set b7 (Int.toNat aO) (b8.mk bc aa.Number aa.Name aa.cm)) aO).bind λah=>(vp (i64.wrap ((i64.wrap (bc+1))+1))).bind λaI=>(bh (List.set (List.set b7 (Int.toNat aO) (b8.mk bc aa.Number aa.Name aa.cm)) (Int.toNat aO) (b8.mk ah.Kind (i64.wrap (bc+1)) ah.Name ah.cm)) aO).bind λaZ=>(bh (List.set (List.set (List.set b7 (Int.toNat aO) (b8.mk bc aa.Number aa.Name aa.cm)) (Int.toNat aO) (b8.mk ah.Kind (i64.wrap (bc+1)) ah.Name ah.cm)) (Int.toNat aO) (b8.mk aZ.Kind aZ.Number aI aZ.cm)) aO).bind λaX=>(Ld aX.cm (i64.wrap ((i64.wrap ((i64.wrap (bc+1))+1))+1))).bind λbz=>dB (List.set (List.set (List.set (List.set b7 (Int.toNat aO) (b8.mk bc aa.Number aa.Name aa.cm)) (Int.toNat aO) (b8.mk ah.Kind (i64.wrap (bc+1)) ah.Name ah.cm)) (Int.toNat aO) (b8.mk aZ.Kind aZ.Number aI aZ.cm)) (Int.toNat aO) (b8.mk aX.Kind aX.Number aX.Name bz.2)) bz.1 (i64.wrap (aO+1))) (some (bc,b7))
def DC:Nat->aAw->Int->Int->Option (Int×aAw)
 |0,_,_,_=>none
 |n+1,b7,bc,aO=>Rx (DC n) b7 bc aO
def Le (a0:aAw) (J:Int):Option (Int×aAw):=
 lim λn=>DC n a0 J 0
def Ry (dB:aAx->Int->Int->Option (Int×aAx)) (b7:aAx) (bc aO:Int):Option (Int×aAx):=
 cond (decide (aO<(b7.length:Int))) ((vp bc).bind λaa=>(bh b7 aO).bind λah=>(bh (List.set b7 (Int.toNat aO) (a1.mk aa ah.dW ah.Body)) aO).bind λaI=>(bh (List.set (List.set b7 (Int.toNat aO) (a1.mk aa ah.dW ah.Body)) (Int.toNat aO) (a1.mk aI.Name (i64.wrap (bc+1)) aI.Body)) aO).bind λaZ=>(Le aZ.Body (i64.wrap ((i64.wrap (bc+1))+1))).bind λaX=>dB (List.set (List.set (List.set b7 (Int.toNat aO) (a1.mk aa ah.dW ah.Body)) (Int.toNat aO) (a1.mk aI.Name (i64.wrap (bc+1)) aI.Body)) (Int.toNat aO) (a1.mk aZ.Name aZ.dW aX.2)) aX.1 (i64.wrap (aO+1))) (some (bc,b7))
def DD:Nat->aAx->Int->Int->Option (Int×aAx)
 |0,_,_,_=>none
 |n+1,b7,bc,aO=>Ry (DD n) b7 bc aO
def Lf (a0:aAx) (J:Int):Option (Int×aAx):=
 lim λn=>DD n a0 J 0
def Rz (dB:aAe->Int->Int->Option (Int×aAe)) (b7:aAe) (bc aO:Int):Option (Int×aAe):=
 cond (decide (aO<(b7.length:Int))) ((bh b7 aO).bind λaa=>dB (List.set b7 (Int.toNat aO) bc) (i64.wrap (bc+1)) (i64.wrap (aO+1))) (some (bc,b7))
def DE:Nat->aAe->Int->Int->Option (Int×aAe)
 |0,_,_,_=>none
 |n+1,b7,bc,aO=>Rz (DE n) b7 bc aO
def Hk (a0:aAe) (J:Int):Option (Int×aAe):=
 lim λn=>DE n a0 J 0
def RA (dB:aAy->Int->Int->Option (Int×aAy)) (b7:aAy) (bc aO:Int):Option (Int×aAy):=
 cond (decide (aO<(b7.length:Int))) ((bh b7 aO).bind λaa=>(bh (List.set b7 (Int.toNat aO) (cM.mk bc aa.bP)) aO).bind λah=>(Hk ah.bP (i64.wrap (bc+1))).bind λaI=>dB (List.set (List.set b7 (Int.toNat aO) (cM.mk bc aa.bP)) (Int.toNat aO) (cM.mk ah.cy aI.2)) aI.1 (i64.wrap (aO+1))) (some (bc,b7))
def DF:Nat->aAy->Int->Int->Option (Int×aAy)
 |0,_,_,_=>none
 |n+1,b7,bc,aO=>RA (DF n) b7 bc aO
def Lg (a0:aAy) (J:Int):Option (Int×aAy):=
 lim λn=>DF n a0 J 0
def RB (dB:aAz->Int->Int->Option (Int×aAz)) (b7:aAz) (bc aO:Int):Option (Int×aAz):=
 cond (decide (aO<(b7.length:Int))) ((vp bc).bind λaa=>(bh b7 aO).bind λah=>(vp (i64.wrap (bc+1))).bind λaI=>(bh (List.set b7 (Int.toNat aO) (bW.mk aa ah.cH ah.Result)) aO).bind λaZ=>(vp (i64.wrap ((i64.wrap (bc+1))+1))).bind λaX=>(bh (List.set (List.set b7 (Int.toNat aO) (bW.mk aa ah.cH ah.Result)) (Int.toNat aO) (bW.mk aZ.Left aI aZ.Result)) aO).bind λbz=>dB (List.set (List.set (List.set b7 (Int.toNat aO) (bW.mk aa ah.cH ah.Result)) (Int.toNat aO) (bW.mk aZ.Left aI aZ.Result)) (Int.toNat aO) (bW.mk bz.Left bz.cH aX)) (i64.wrap ((i64.wrap ((i64.wrap (bc+1))+1))+1)) (i64.wrap (aO+1))) (some (bc,b7))
def DG:Nat->aAz->Int->Int->Option (Int×aAz)
 |0,_,_,_=>none
 |n+1,b7,bc,aO=>RB (DG n) b7 bc aO
def Lh (a0:aAz) (J:Int):Option (Int×aAz):=
 lim λn=>DG n a0 J 0
def RC (dB:aAb->Int->Int->Option (Int×aAb)) (b7:aAb) (bc aO:Int):Option (Int×aAb):=
 cond (decide (aO<(b7.length:Int))) ((vp bc).bind λaa=>(bh b7 aO).bind λah=>dB (List.set b7 (Int.toNat aO) aa) (i64.wrap (bc+1)) (i64.wrap (aO+1))) (some (bc,b7))
def DH:Nat->aAb->Int->Int->Option (Int×aAb)
 |0,_,_,_=>none
 |n+1,b7,bc,aO=>RC (DH n) b7 bc aO
def DI (a0:aAb) (J:Int):Option (Int×aAb):=
 lim λn=>DH n a0 J 0
def Li (bo:aAx) (bq:aAy) (bp:aAz) (bO bM:aAb) (J:Int):Option (Int×aAx×aAy×aAz×aAb×aAb):=
 (Lf bo J).bind λaa=>(Lg bq aa.1).bind λah=>(Lh bp ah.1).bind λaI=>(DI bO aI.1).bind λaZ=>(DI bM aZ.1).bind λaX=>some (aX.1,aa.2,ah.2,aI.2,aZ.2,aX.2)
def RD (dB:aAA->Int->Int->Option (Int×aAA)) (b7:aAA) (bc aO:Int):Option (Int×aAA):=
 cond (decide (aO<(b7.length:Int))) ((bh b7 aO).bind λaa=>(bh (List.set b7 (Int.toNat aO) (ba.mk bc aa.Part aa.bP)) aO).bind λah=>(bh (List.set (List.set b7 (Int.toNat aO) (ba.mk bc aa.Part aa.bP)) (Int.toNat aO) (ba.mk ah.cy (i64.wrap (bc+1)) ah.bP)) aO).bind λaI=>(Hk aI.bP (i64.wrap ((i64.wrap (bc+1))+1))).bind λaZ=>dB (List.set (List.set (List.set b7 (Int.toNat aO) (ba.mk bc aa.Part aa.bP)) (Int.toNat aO) (ba.mk ah.cy (i64.wrap (bc+1)) ah.bP)) (Int.toNat aO) (ba.mk aI.cy aI.Part aZ.2)) aZ.1 (i64.wrap (aO+1))) (some (bc,b7))
def DJ:Nat->aAA->Int->Int->Option (Int×aAA)
 |0,_,_,_=>none
 |n+1,b7,bc,aO=>RD (DJ n) b7 bc aO
def Lj (a0:aAA) (J:Int):Option (Int×aAA):=
 lim λn=>DJ n a0 J 0
def RE (dB:Int->Int->aAh) (a0:aAb) (bc aO:Int):aAh:=
 cond (decide (aO<(a0.length:Int))) ((bh a0 aO).bind λaa=>(vp bc).bind λah=>cond (!(aa==ah)) (some (-1)) (dB (i64.wrap (bc+1)) (i64.wrap (aO+1)))) (some bc)
def DK (a0:aAb):Nat->Int->Int->aAh
 |0,_,_=>none
 |n+1,bc,aO=>RE (DK a0 n) a0 bc aO
def Hl (a0:aAb) (J:Int):aAh:=
 lim λn=>DK a0 n J 0
def RF (a0:o9) (J:aAu):aAg:=
 (F4 a0 1048576).bind λaa=>cond (decide (aa<0)) (some true) ((JS J aa).bind λah=>cond (decide (ah<0)) (some true) ((yn a0).bind λaI=>(zX J).bind λaZ=>(Kt aI aZ).bind λaX=>(yn a0).bind λbz=>(zX J).bind λbw=>(Ha bz bw).bind λcD=>(yH cD.1 aX.1).bind λdu=>cond ((!du)||(cD.2 !=aX.2)) (some false) ((yn a0).bind λdH=>(Hi bz dH).bind λeY=>cond (!eY) (some false) ((zX J).bind λjj=>(La bw jj).bind λl3=>cond (!l3) (some false) ((Li bz.cz bz.cj bz.b9 bz.cC bz.cA 1).bind λiy=>(Lj bw iy.1).bind λhf=>cond (decide (hf.1<0)) (some false) ((yH cD.1 aX.1).bind λji=>cond ((!ji)||(cD.2 !=aX.2)) (some false) ((DI cD.1 1).bind λiA=>(Hl iA.2 1).bind λqi=>cond (decide (qi<0)) (some false) (cond (qi !=iA.1) (some false) ((yn a0).bind λlD=>(zX J).bind λlE=>(Ha lD lE).bind λko=>(yH ko.1 aX.1).bind λlF=>cond ((!lF)||(ko.2 !=aX.2)) (some false) ((Hl iA.2 1).bind λlG=>cond (decide (lG<0)) (some false) (cond (lG !=iA.1) (some false) (some true))))))))))))
end
end Go.pO
namespace Go.pO
open Option Nat Or
open Go Go.en
theorem eF (n:Int) (h: -9223372036854775808<=n/\n<=9223372036854775807):IntKind.i64.wrap n=n:=IntWalk.i64_in n h
theorem mr {α:Type} (a:List α) (i:Nat) (d:α) (h:i<a.length):bh a (i:Int)=some (a.getD i d):=by
 rw[UB (by omega) (by simpa using h)];simp[List.getD,h]
theorem dO {α:Type} (a:List α) (i:Nat) (h:i<a.length):bh a (i:Int)=some a[i]:=by
 rw[UB (by omega) (by simpa using h)];rfl
theorem xc {α:Type} (a:List α) (n:Nat) (h:n<=a.length):gp a 0 (n:Int)=some (a.take n):=by
 unfold gp;rw[if_pos (by omega)];simp
theorem ed (i n:Nat) (h:i<n) (aV:n<=4611686018427387904):IntKind.i64.wrap ((i:Int)+1)=((i+1:Nat):Int):=by
 rw[eF _ (by omega)];omega
theorem ek {i n:Nat} (h:i<n):decide ((i:Int)<(n:Int))=true:=by simp;omega
theorem ee {i n:Nat} (h:n<=i):decide ((i:Int)<(n:Int))=false:=by simp;omega
theorem H5 {α:Type} (c:α) (r:List α):bh (c::r) 0=some c:=rfl
theorem A5 {n:Nat} (h:0<n):decide ((0:Int)<(n:Int))=true:=by simp;omega
theorem atO:IntKind.i64.wrap (0+1)=1:=by decide
theorem down (n:Nat) {P:Nat->Prop} (a7:P n) (ae:∀i,i<n->P (i+1)->P i):∀i,i<=n->P i:=by
 have key:∀d,d<=n->P (n-d):=by
  intro d;induction d with
  |zero=>intro _;exact a7
  |succ d ih=>
   intro ao;have:=ih (by omega);refine ae _ (by omega) ?_;rw[show n-(d+1)+1=n-d by omega];exact this
 intro i aj;have:=key (n-i) (by omega)
 rwa [show n-(n-i)=i by omega]at this
theorem up {β:Type} {l:Nat->Int->Option β} {n:Nat} (F:Nat->Option β) (a7:∀m,l (m+1) (n:Int)=F n)
  (ae:∀i,i<n->∀m,(l m ((i+1:Nat):Int)=F (i+1))->l (m+1) (i:Int)=F i):∀i,i<=n->∀m,n-i<m->l m (i:Int)=F i:=by
 refine down n ?_ ?_
 .intro m hm;obtain⟨k,rfl⟩:∃k,m=k+1:=⟨m-1,by omega⟩
  exact a7 k
 .intro i aj ih m hm;obtain⟨k,rfl⟩:∃k,m=k+1:=⟨m-1,by omega⟩
  exact ae i aj k (ih k (by omega))
theorem qA {β:Type} {l:Nat->Int->Option β} {n:Nat} (F:Nat->Option β) (a7:∀m,l (m+1) (n:Int)=F n)
  (ae:∀i,i<n->∀m,(l m ((i+1:Nat):Int)=F (i+1))->l (m+1) (i:Int)=F i):lim (λm=>l m 0)=F 0:=
 e0 (n+1) λm hm=>up F a7 ae 0 (by omega) m (by omega)
theorem drop_cons {α:Type} (a:List α) (i:Nat) (h:i<a.length):a.drop i=a[i]::a.drop (i+1):=List.drop_eq_getElem_cons h
def jc (n:Int) (s:Nat):Int:=if(s:Int)<=n then n-s else-1
theorem H6 {n:Int} {s:Nat} (h:(s:Int)<=n):jc n s=n-s:=if_pos h
theorem H7 {n:Int} {s:Nat} (h:n<s):jc n s= -1:=if_neg (by omega)
theorem atP {n:Int} (h:0<=n):jc n 0=n:=by rw[H6 (by simpa using h)];simp
theorem vw {f:aAh} {k:Int->aAh} {n:Int} {s t:Nat} (bI:f=some (jc n s)) (hk:(s:Int)<=n->k (n-s)=some (jc (n-s) t)):
  (f.bind λx=>cond (decide (x<0)) (some (-1)) (k x))=some (jc n (s+t)):=by
 rw[bI];simp only[bind_some];by_cases h:(s:Int)<=n
 .rw[H6 h];have:decide (n-(s:Int)<0)=false:=by simp;omega
  rw[this,cond_false,hk h];congr 1;unfold jc;by_cases af:(t:Int)<=n-s
  .rw[if_pos af,if_pos (by omega)];omega
  .rw[if_neg af,if_neg (by omega)]
 .rw[H7 (by omega)];have:decide ((-1:Int)<0)=true:=by decide
  rw[this,cond_true,H7 (by omega)]
theorem p1 {K:aAh} {n:Int} {s t:Nat} (ae:s<=9223372036854775807) (a7:0<=n) (aV:n<=1048576) (hk:(s:Int)<=n->K=some (jc (n-s) t)):
  cond (decide (IntKind.i64.wrap (n-(s:Int))<0)) (some (-1)) K=some (jc n (s+t)):=by
 rw[eF _ (by omega)];by_cases h:(s:Int)<=n
 .have:decide (n-(s:Int)<0)=false:=by simp;omega
  rw[this,cond_false,hk h];congr 1;unfold jc;by_cases af:(t:Int)<=n-s
  .rw[if_pos af,if_pos (by omega)];omega
  .rw[if_neg af,if_neg (by omega)]
 .have:decide (n-(s:Int)<0)=true:=by simp;omega
  rw[this,cond_true,H7 (by omega)]
theorem xd {n:Int} (h:0<=n):some n=some (jc n 0):=by rw[atP h]
def gn {α:Type} (f:α->Nat):List α->Nat
 |[]=>0
 |x::r=>f x+gn f r
theorem abr {α:Type} {f:α->Nat}:∀{l:List α} {x:α},x∈l->f x<=gn f l
 |y::r,x,h=>by
  simp only[gn];rcases List.mem_cons.1 h with rfl|h
  .omega
  .have:=abr (f:=f) h;omega
theorem abt {α β:Type} {f:β->Nat} {g:α->β}:∀l:List α,gn f (l.map g)=gn (λx=>f (g x)) l
 |[]=>rfl
 |x::r=>by simp only[List.map_cons,gn,abt r]
def dm {α:Type} (f:α->Nat) (l:List α):Nat:=l.length+gn f l
theorem A6 {α β:Type} (f:β->Nat) (g:α->β) (l:List α):dm f (l.map g)=dm (λx=>f (g x)) l:=by simp only[dm,List.length_map,abt]
theorem jM {α:Type} (f:α->Nat) (l:List α):l.length<=dm f l:=le_add_right _ _
theorem nk {α:Type} {f:α->Nat} {l:List α} {x:α} (h:x∈l):f x<=dm f l:=Nat.le_trans (abr h) (le_add_left _ _)
theorem abu {α:Type} {l:Nat->Int->Int->aAh} {B:α->Int->(Int->aAh)->aAh} (sz:α->Nat) (a:List α)
  (p2:∀m n i,l (m+1) n i=cond (decide (i<(a.length:Int))) ((bh a i).bind λx=>B x n λy=>l m y (IntKind.i64.wrap (i+1))) (some n))
  (bI:∀x∈a,∀(n:Int) (k:Int->aAh) (t:Nat),0<=n->n<=1048576->((sz x:Int)<=n->k (n-sz x)=some (jc (n-sz x) t))->B x n k=some (jc n (sz x+t)))
  (bs:a.length<=1048576) (n:Int) (a7:0<=n) (aV:n<=1048576):lim (λm=>l m n 0)=some (jc n (gn sz a)):=by
 have key:∀i,i<=a.length->∀n:Int,0<=n->n<=1048576->∀m,a.length-i<m->l m n (i:Int)=some (jc n (gn sz (a.drop i))):=by
  refine down a.length ?_ ?_
  .intro n a7 _ m hm;obtain⟨k,rfl⟩:∃k,m=k+1:=⟨m-1,by omega⟩
   rw[p2,ee (Nat.le_refl _),cond_false,List.drop_of_length_le (Nat.le_refl _)];exact xd a7
  .intro i aj ih n a7 aV m hm;obtain⟨k,rfl⟩:∃k,m=k+1:=⟨m-1,by omega⟩
   rw[p2,ek aj,cond_true,dO _ i aj,ed i _ aj (by omega),drop_cons a i aj];simp only[bind_some,gn];exact bI _ (List.getElem_mem aj) n _ _ a7 aV λh=>ih _ (by omega) (by omega) k (by omega)
 refine e0 (a.length+1) λm hm=>?_;have:=key 0 (by omega) n a7 aV m (by omega);simpa using this
theorem D1 {α:Type} {l:Nat->Int->Int->aAh} {f:α->Int->aAh} (sz:α->Nat) (a:List α)
  (p2:∀m n i,l (m+1) n i=cond (decide (i<(a.length:Int))) ((bh a i).bind λx=>(f x n).bind λy=>cond (decide (y<0)) (some (-1)) (l m y (IntKind.i64.wrap (i+1)))) (some n))
  (bI:∀x∈a,∀n:Int,0<=n->n<=1048576->f x n=some (jc n (sz x))) (bs:a.length<=1048576) (n:Int) (a7:0<=n) (aV:n<=1048576):lim (λm=>l m n 0)=some (jc n (gn sz a)):=
 abu (B:=λx n k=>(f x n).bind λy=>cond (decide (y<0)) (some (-1)) (k y)) sz a p2 (λx aq n _ _ a7 aV hk=>vw (bI x aq n a7 aV) hk) bs n a7 aV
theorem atQ {l:Nat->Int->Int->aAh} (a:aAb)
  (p2:∀m n i,l (m+1) n i=cond (decide (i<(a.length:Int))) ((bh a i).bind λx=>cond (decide (IntKind.i64.wrap (n-(x.length:Int))<0)) (some (-1)) (l m (IntKind.i64.wrap (n-(x.length:Int))) (IntKind.i64.wrap (i+1)))) (some n))
  (bI:∀x∈a,x.length<=9223372036854775807) (bs:a.length<=1048576) (n:Int) (a7:0<=n) (aV:n<=1048576):lim (λm=>l m n 0)=some (jc n (gn List.length a)):=
 abu (B:=λx n k=>cond (decide (IntKind.i64.wrap (n-(x.length:Int))<0)) (some (-1)) (k (IntKind.i64.wrap (n-(x.length:Int))))) List.length a (by intro m n i;rw[p2]) (by
  intro x aq n k t a7 aV hk;have hl:=bI x aq;refine p1 hl a7 aV λh=>?_;have e:IntKind.i64.wrap (n-(x.length:Int))=n-(x.length:Int):=eF _ (by omega);rw[e];exact hk h) bs n a7 aV
theorem xe {α β:Type} {l:Nat->List β->Int->Option (List β)} {f:α->Option β} (g:α->β) (a:List α) (z:β)
  (p2:∀m v i,l (m+1) v i=cond (decide (i<(a.length:Int))) ((bh a i).bind λx=>(f x).bind λy=>(bh v i).bind λ_=>l m (List.set v (Int.toNat i) y) (IntKind.i64.wrap (i+1))) (some v))
  (bI:∀x∈a,f x=some (g x)) (bs:a.length<=1048576):lim (λm=>l m (List.replicate (Int.toNat (a.length:Int)) z) 0)=some (a.map g):=by
 have key:∀i,i<=a.length->∀(v:List β) m,v.length=a.length->a.length-i<m->l m v (i:Int)=some (v.take i++(a.drop i).map g):=by
  refine down a.length ?_ ?_
  .intro v m aB hm;obtain⟨k,rfl⟩:∃k,m=k+1:=⟨m-1,by omega⟩
   rw[p2,ee (Nat.le_refl _)];simp[<-aB]
  .intro i aj ih v m aB hm;obtain⟨k,rfl⟩:∃k,m=k+1:=⟨m-1,by omega⟩
   rw[p2,ek aj,dO _ i aj,ed i _ aj (by omega)];simp only[cond_true,bind_some,bI _ (List.getElem_mem aj)];rw[dO v i (by omega)];simp only[bind_some,Int.toNat_natCast];rw[ih _ k (by simp[aB]) (by omega),drop_cons a i aj,List.map_cons,List.take_set,List.take_succ_eq_append_getElem (by omega),List.set_append_right _ _ (by simp;omega)];simp[show min i v.length=i by omega]
 refine e0 (a.length+1) λm hm=>?_;have:=key 0 (by omega) (List.replicate (Int.toNat (a.length:Int)) z) m (by simp) (by omega);simpa using this
theorem tK (b:Nat) {n:Nat} (h:n<=1048576) (ab:b<=4096):nR b (n:Int)=some ():=by
 have h1:b*n<=4096*1048576:=Nat.mul_le_mul ab h;have af:((b:Int)*(n:Int))=((b*n:Nat):Int):=by simp
 unfold nR;rw[if_pos ⟨by omega,by rw[af];omega,by omega⟩]
theorem A7 {α:Type} {l:Nat->Int->aAg} {f:α->α->aAg} (a:List α)
  (p2:∀m i,l (m+1) i=cond (decide (i<(a.length:Int))) ((bh a i).bind λx=>(bh a i).bind λy=>(f x y).bind λz=>cond (!z) (some false) (l m (IntKind.i64.wrap (i+1)))) (some true))
  (bI:∀x∈a,f x x=some true) (bs:a.length<=1048576):lim (λm=>l m 0)=some true:=by
 rw[qA (n:=a.length) (λ_=>some true)]
 .intro m;rw[p2,ee (Nat.le_refl _)];rfl
 .intro i aj m ih;rw[p2,ek aj,dO _ i aj,ed i _ aj (by omega),ih];simp only[cond_true,bind_some,bI _ (List.getElem_mem aj),Bool.not_true,cond_false]
theorem abv {α:Type} {d:α->α->Bool} {l:Nat->Int->aAg} (a:List α)
  (p2:∀m i,l (m+1) i=cond (decide (i<(a.length:Int))) ((bh a i).bind λx=>(bh a i).bind λy=>cond (d x y) (some false) (l m (IntKind.i64.wrap (i+1)))) (some true))
  (ao:∀x,d x x=false) (bs:a.length<=1048576):lim (λm=>l m 0)=some true:=by
 rw[qA (n:=a.length) (λ_=>some true)]
 .intro m;rw[p2,ee (Nat.le_refl _)];rfl
 .intro i aj m ih;rw[p2,ek aj,dO _ i aj,ed i _ aj (by omega),ih];simp only[cond_true,bind_some,ao,cond_false]
theorem yY (x:Int):(x !=x)=false:=by simp
theorem yZ (x:aAc):(!(x==x))=false:=by simp
theorem A8 (x:Bool):(!(x==x))=false:=by simp
theorem xf (n:Nat):((n:Int) !=(n:Int))=false:=by simp
def ga (p:Nat->Bool) (n:Nat):Bool:=(List.range n).all p
theorem pk {p:Nat->Bool} {n:Nat}:ga p n=true↔∀i,i<n->p i=true:=by simp[ga]
theorem H8 {l:Nat->Int->aAg} {n:Nat} (p:Nat->Bool) (a7:∀m,l (m+1) (n:Int)=some true)
  (ae:∀i,i<n->∀m,l (m+1) (i:Int)=cond (p i) (l m ((i+1:Nat):Int)) (some false)):lim (λm=>l m 0)=some (ga p n):=by
 rw[qA (n:=n) (λi=>some ((List.range' i (n-i)).all p))]
 .simp[ga,List.range_eq_range']
 .intro m;rw[a7];simp
 .intro i aj m ih;rw[ae i aj,ih,show n-i=(n-(i+1))+1 by omega,List.range'_succ];cases aw:p i<;>simp[aw]
def kt (p:Nat->Bool):Nat->Nat->Int
 |_,0=> -1
 |i,k+1=>if p i=true then(i:Int)else kt p (i+1) k
theorem abw {p:Nat->Bool}:∀(k i:Nat),(∀j,i<=j->j<i+k->p j=false)->kt p i k= -1
 |0,_,_=>rfl
 |k+1,i,h=>by
  simp only[kt,h i (Nat.le_refl _) (by omega)];exact abw k (i+1) λj h1 af=>h j (by omega) (by omega)
theorem abx {p:Nat->Bool}:∀(k i j:Nat),i<=j->j<i+k->p j=true->0<=kt p i k
 |0,i,j,h1,af,_=>by omega
 |k+1,i,j,h1,af,ay=>by
  simp only[kt];split
  .omega
  .rename_i h;refine abx k (i+1) j ?_ (by omega) ay;rcases Nat.lt_or_ge i j with h|h
   .exact h
   .have:i=j:=by omega
    subst this;exact absurd ay (by assumption)
theorem xg (p:Nat->Bool) (n:Nat):decide (0<=kt p 0 n)= !(ga (λi=> !p i) n):=by
 by_cases h:∃j,j<n/\p j=true
 .obtain⟨j,h1,af⟩:=h;have ay:=abx n 0 j (zero_le _) (by omega) af;have a_:ga (λi=> !p i) n=false:=by
   rw[Bool.eq_false_iff];intro kz;have:=pk.1 kz j h1;simp[af]at this
  rw[a_];simpa using ay
 .have ay:∀j,j<n->p j=false:=λj bE=>by
   cases aw:p j
   .rfl
   .exact absurd ⟨j,bE,aw⟩ h
  rw[abw n 0 λj _ af=>ay j (by omega)];have a_:ga (λi=> !p i) n=true:=pk.2 λi aj=>by simp[ay i aj]
  rw[a_];rfl
theorem tL {l:Nat->Int->aAh} {n:Nat} (p:Nat->Bool) (a7:∀m,l (m+1) (n:Int)=some (-1))
  (ae:∀i,i<n->∀m,l (m+1) (i:Int)=cond (p i) (some (i:Int)) (l m ((i+1:Nat):Int))):lim (λm=>l m 0)=some (kt p 0 n):=by
 rw[qA (n:=n) (λi=>some (kt p i (n-i)))]
 .simp
 .intro m;rw[a7];simp[kt]
 .intro i aj m ih;rw[ae i aj,ih,show n-i=(n-(i+1))+1 by omega];cases aw:p i<;>simp[aw,kt]
theorem D2 (i:Nat) (h:0<i) (aV:i<=4611686018427387904):IntKind.i64.wrap ((i:Int)-1)=((i-1:Nat):Int):=by
 rw[eF _ (by omega)];omega
theorem A9:decide ((0:Int)<((0:Nat):Int))=false:=by decide
theorem Tq {i:Nat} (h:i≠0):decide ((0:Int)<(i:Int))=true:=by simp;omega
def xh (b:Bool):Int:=cond b 1 0
theorem L4 (b:Bool):(cond b (some 1) (some 0):aAh)=some (xh b):=by cases b<;>rfl
theorem aby {α:Type} (x:α) (l:List α):gp (x::l) 1 (((x::l).length:Nat):Int)=some l:=by
 unfold gp;rw[if_pos (by simp only[List.length_cons];omega)];simp
theorem L5 {α:Type} (a b c:List α) {i j:Int} (aj:i=(a.length:Int)) (bE:j=((a.length+b.length:Nat):Int)):gp (a++(b++c)) i j=some b:=by
 unfold gp;have aK:i.toNat=a.length:=by omega
 have aT:j.toNat=a.length+b.length:=by omega
 rw[if_pos (by simp only[List.length_append];omega),aK,aT,<-List.append_assoc,List.take_left' (by simp),List.drop_left' rfl]
theorem jN {b n:Nat} (h:n*b<=140737488355328) (af:n<=9223372036854775807):room b n=some ():=by unfold room;rw[if_pos ⟨h,af⟩]
theorem vx {α:Type} (d:List α) (x:α) (r:List α):bh (d++x::r) (d.length:Int)=some x:=by
 rw[dO _ _ (by simp)];simp
theorem xi {α:Type} (d:List α) (x y:α) (r:List α):List.set (d++x::r) (Int.toNat (d.length:Int)) y=d++y::r:=by
 simp
theorem abz {k:Int} (h:0<=k):decide (k<0)=false:=by simp;omega
theorem vy {α:Type} (d:List α) (x:α) (r:List α):decide ((d.length:Int)<((d++x::r).length:Int))=true:=by simp;omega
theorem vz {α:Type} {d:List α} (h:d.length<=1099511627776):IntKind.i64.wrap ((d.length:Int)+1)=((d.length+1:Nat):Int):=by rw[eF _ (by omega)];omega
theorem y0 {α:Type} (f:α->Nat):∀a:List α,gn (λx=>64*(f x+1)) a=64*dm f a
 |[]=>rfl
 |x::r=>by
  have:=y0 f r;unfold dm at this⊢;simp only[gn,List.length_cons];omega
theorem Tr {α:Type} (n:Nat):∀a:List α,gn (λ_=>n) a=n*a.length
 |[]=>rfl
 |x::r=>by simp only[gn,Tr n r,List.length_cons,Nat.mul_add];omega
theorem y1 {α:Type} {l:Nat->List α->Int->Int->Option (Int×List α)} (w:α->Nat) (a7:∀m (v:List α) k,l (m+1) v k (v.length:Int)=some (k,v))
  (ae:∀x (k:Int),0<=k->k+w x<=1099511627776->∃cV c,c<=w x/\∀m (d r:List α),d.length<=1099511627776->l (m+1) (d++x::r) k (d.length:Int)=l m (d++cV::r) (k+(c:Nat)) ((d.length+1:Nat):Int))
  (a:List α) (k:Int) (hk:0<=k) (hl:a.length<=1099511627776) (ab:k+gn w a<=1099511627776):∃dF c,c<=gn w a/\lim (λn=>l n a k 0)=some (k+(c:Nat),dF):=by
 have key:∀(r:List α) (k:Int),0<=k->k+gn w r<=1099511627776->∃jf c,c<=gn w r/\∀(d:List α) (m:Nat),d.length+r.length<=1099511627776->r.length<m->l m (d++r) k (d.length:Int)=some (k+(c:Nat),d++jf):=by
  intro r;induction r with
  |nil=>
   intro k _ _;refine⟨[],0,Nat.le_refl _,λd m _ hm=>?_⟩;obtain⟨m,rfl⟩:∃j,m=j+1:=⟨m-1,by omega⟩
   rw[List.append_nil,a7];simp
  |cons x r ih=>
   intro k h1 af;simp only[gn]at af;obtain⟨cV,c,c1,c2⟩:=ae x k h1 (by omega);obtain⟨jf,xV,aK,aT⟩:=ih (k+c) (by omega) (by omega);refine⟨cV::jf,c+xV,by simp only[gn];omega,λd m ao hm=>?_⟩;simp only[List.length_cons]at ao hm;obtain⟨m,rfl⟩:∃j,m=j+1:=⟨m-1,by omega⟩
   rw[c2 m d r (by omega)];have:=aT (d++[cV]) m (by simp only[List.length_append,List.length_cons,List.length_nil];omega) (by omega);simp only[List.length_append,List.length_cons,List.length_nil,List.append_assoc,List.cons_append,List.nil_append,Nat.zero_add]at this;rw[this];simp only[some.injEq,Prod.mk.injEq,and_true];omega
 obtain⟨dF,c,aK,aT⟩:=key a k hk ab;refine⟨dF,c,aK,e0 (a.length+1) λm hm=>?_⟩;have:=aT [] m (by simpa using hl) (by omega);simpa using this
theorem atS {α:Type} {l:Nat->List α->Int->Int->Option (Int×List α)} {hl:List α->Nat->Int->Int->aAh} (w:α->Nat) (a7:∀m (v:List α) k,l (m+1) v k (v.length:Int)=some (k,v))
  (g0:∀(a:List α) m k,hl a (m+1) k (a.length:Int)=some k)
  (ae:∀x (k:Int),0<=k->k+w x<=1099511627776->∃cV c,c<=w x/\∀m (d r:List α),d.length<=1099511627776->l (m+1) (d++x::r) k (d.length:Int)=l m (d++cV::r) (k+(c:Nat)) ((d.length+1:Nat):Int)/\
   hl (d++cV::r) (m+1) k (d.length:Int)=hl (d++cV::r) m (k+(c:Nat)) ((d.length+1:Nat):Int))
  (a:List α) (k:Int) (hk:0<=k) (vA:a.length<=1099511627776) (ab:k+gn w a<=1099511627776):∃dF c,c<=gn w a/\lim (λn=>l n a k 0)=some (k+(c:Nat),dF)/\lim (λn=>hl dF n k 0)=some (k+(c:Nat)):=by
 have key:∀(r:List α) (k:Int),0<=k->k+gn w r<=1099511627776->∃jf c,c<=gn w r/\jf.length=r.length/\∀(d:List α) (m:Nat),d.length+r.length<=1099511627776->r.length<m->l m (d++r) k (d.length:Int)=some (k+(c:Nat),d++jf)/\
   hl (d++jf) m k (d.length:Int)=some (k+(c:Nat)):=by
  intro r;induction r with
  |nil=>
   intro k _ _;refine⟨[],0,Nat.le_refl _,rfl,λd m _ hm=>?_⟩;obtain⟨m,rfl⟩:∃j,m=j+1:=⟨m-1,by omega⟩
   rw[List.append_nil,a7,g0];simp
  |cons x r ih=>
   intro k h1 af;simp only[gn]at af;obtain⟨cV,c,c1,c2⟩:=ae x k h1 (by omega);obtain⟨jf,xV,aK,aU,aT⟩:=ih (k+c) (by omega) (by omega);refine⟨cV::jf,c+xV,by simp only[gn];omega,by simp only[List.length_cons,aU],λd m ao hm=>?_⟩;simp only[List.length_cons]at ao hm;obtain⟨m,rfl⟩:∃j,m=j+1:=⟨m-1,by omega⟩
   rw[(c2 m d r (by omega)).1,(c2 m d jf (by omega)).2];have:=aT (d++[cV]) m (by simp only[List.length_append,List.length_cons,List.length_nil];omega) (by omega);simp only[List.length_append,List.length_cons,List.length_nil,List.append_assoc,List.cons_append,List.nil_append,Nat.zero_add]at this;rw[this.1,this.2];simp only[some.injEq,Prod.mk.injEq,and_true];exact⟨by omega,by omega⟩
 obtain⟨dF,c,aK,aU,aT⟩:=key a k hk ab;refine⟨dF,c,aK,e0 (a.length+1) λm hm=>?_,e0 (a.length+1) λm hm=>?_⟩
 .have:=(aT [] m (by simpa using vA) (by omega)).1;simpa using this
 .have:=(aT [] m (by simpa using vA) (by omega)).2;simpa using this
section
variable {α:Type}
structure Ord (lt:α->α->Bool):Prop where
 tz:∀a,lt a a=false
 qI:∀a b c,lt a b=true->lt b c=true->lt a c=true
 tx:∀a b,lt a b=true\/a=b\/lt b a=true
def nN (lt:α->α->Bool) (l:List α):Prop:=l.Pairwise (λa b=>lt a b=true)
variable {lt:α->α->Bool}
theorem L6 (h:Ord lt):∀{l m:List α},nN lt l->nN lt m->(∀x,x∈l↔x∈m)->l=m
 |[],[],_,_,_=>rfl
 |[],y::m,_,_,e=>by have:=(e y).2 (by simp);simp at this
 |x::l,[],_,_,e=>by have:=(e x).1 (by simp);simp at this
 |x::l,y::m,hl,hm,e=>by
  have nO:=List.pairwise_cons.1 hl;have o5:=List.pairwise_cons.1 hm;have Ts:x=y:=by
   have h1:=(e x).1 (by simp);have af:=(e y).2 (by simp);rcases List.mem_cons.1 h1 with h1|h1
   .exact h1
   .rcases List.mem_cons.1 af with af|af
    .exact af.symm
    .have:=h.qI _ _ _ (o5.1 x h1) (nO.1 y af);rw[h.tz]at this;cases this
  subst Ts;have:l=m:=L6 h nO.2 o5.2 λz=>by
   have:=e z;constructor
   .intro b3;have dP:z≠x:=λfS=>by have:=nO.1 z b3;rw[fS,h.tz]at this;cases this
    rcases List.mem_cons.1 (this.1 (by simp[b3]))with ay|ay
    .exact(dP ay).elim
    .exact ay
   .intro b3;have dP:z≠x:=λfS=>by have:=o5.1 z b3;rw[fS,h.tz]at this;cases this
    rcases List.mem_cons.1 (this.2 (by simp[b3]))with ay|ay
    .exact(dP ay).elim
    .exact ay
  rw[this]
variable [DecidableEq α]
def ins (lt:α->α->Bool) (x:α):List α->List α
 |[]=>[x]
 |y::r=>if lt x y=true then x::y::r else if x=y then y::r else y::ins lt x r
theorem L7 (x y:α):∀l:List α,y∈ins lt x l↔y=x\/y∈l
 |[]=>by simp[ins]
 |z::r=>by
  simp only[ins];split
  .simp
  .split
   .rename_i h;subst h;simp
   .have:=L7 x y r;simp only[List.mem_cons,this];constructor
    .rintro(h|h|h)
     .exact .inr (.inl h)
     .exact .inl h
     .exact .inr (.inr h)
    .rintro(h|h|h)
     .exact .inr (.inl h)
     .exact .inl h
     .exact .inr (.inr h)
theorem abA (x:α):∀l:List α,(ins lt x l).length<=l.length+1
 |[]=>by simp[ins]
 |z::r=>by
  have:=abA x r;simp only[ins];split
  .simp
  .split<;>simp only[List.length_cons]<;>omega
theorem L8 (h:Ord lt) (x:α):∀l:List α,nN lt l->nN lt (ins lt x l)
 |[],_=>by simp[ins,nN]
 |y::r,hl=>by
  unfold nN at hl⊢;have nO:=List.pairwise_cons.1 hl;simp only[ins];split
  .rename_i aq;refine List.pairwise_cons.2 ⟨λz b3=>?_,hl⟩;rcases List.mem_cons.1 b3 with rfl|b3
   .exact aq
   .exact h.qI _ _ _ aq (nO.1 z b3)
  .split
   .exact hl
   .rename_i h1 af;refine List.pairwise_cons.2 ⟨λz b3=>?_,L8 h x r nO.2⟩;rcases(L7 x z r).1 b3 with rfl|b3
    .rcases h.tx y z with e|e|e
     .exact e
     .exact(af e.symm).elim
     .exact(h1 e).elim
    .exact nO.1 z b3
def qB (lt:α->α->Bool) (o l:List α):List α:=l.foldl (λo x=>ins lt x o) o
theorem L9 (h:Ord lt):∀(l o:List α),nN lt o->nN lt (qB lt o l)
 |[],_,bG=>bG
 |x::l,o,bG=>L9 h l _ (L8 h x o bG)
theorem L_ (y:α):∀(l o:List α),y∈qB lt o l↔y∈o\/y∈l
 |[],o=>by simp[qB]
 |x::l,o=>by
  have:=L_ y l (ins lt x o);simp only[qB,List.foldl_cons]at this⊢;rw[this,L7];simp only[List.mem_cons];constructor
  .rintro((h|h)|h)
   .exact .inr (.inl h)
   .exact .inl h
   .exact .inr (.inr h)
  .rintro(h|h|h)
   .exact .inl (.inr h)
   .exact .inl (.inl h)
   .exact .inr h
theorem abB (h:Ord lt):∀(l:List α) (p:α),l.Pairwise (λa b=>lt b a=false)->(∀x∈l,lt x p=false)->
  nN lt (nS (some p) l)/\∀x,x∈nS (some p) l↔x∈l/\x≠p
 |[],p,_,_=>by simp[nS,nN]
 |y::r,p,hl,aw=>by
  have nO:=List.pairwise_cons.1 hl;obtain⟨pt,i2⟩:=abB h r y nO.2 nO.1;simp only[nS];by_cases e:p=y
  .rw[if_pos (congrArg some e)];subst e;refine⟨pt,λx=>?_⟩;rw[i2 x];simp only[List.mem_cons];constructor
   .rintro⟨h1,af⟩;exact⟨.inr h1,af⟩
   .rintro⟨h1|h1,af⟩
    .exact(af h1).elim
    .exact⟨h1,af⟩
  .rw[if_neg (λfS=>e (some.inj fS))];have abC:lt p y=true:=by
    rcases h.tx p y with aK|aK|aK
    .exact aK
    .exact(e aK).elim
    .rw[aw y (by simp)]at aK;cases aK
   refine⟨List.pairwise_cons.2 ⟨λx aq=>?_,pt⟩,λx=>?_⟩
   .obtain⟨h1,af⟩:=(i2 x).1 aq;rcases h.tx y x with aK|aK|aK
    .exact aK
    .exact(af aK.symm).elim
    .rw[nO.1 x h1]at aK;cases aK
   .simp only[List.mem_cons,i2 x];constructor
    .rintro(h1|⟨h1,af⟩)
     .subst h1;exact⟨.inl rfl,λfS=>e fS.symm⟩
     .refine⟨.inr h1,λfS=>?_⟩;subst fS;rw[nO.1 x h1]at abC;cases abC
    .rintro⟨h1|h1,af⟩
     .exact .inl h1
     .by_cases aT:x=y
      .exact .inl aT
      .exact .inr ⟨h1,aT⟩
theorem atT (h:Ord lt) (l:List α) (hl:l.Pairwise (λa b=>lt b a=false)):nN lt (nS none l)/\∀x,x∈nS none l↔x∈l:=by
 cases l with
 |nil=>simp[nS,nN]
 |cons y r=>
  have nO:=List.pairwise_cons.1 hl;obtain⟨pt,i2⟩:=abB h r y nO.2 nO.1;simp only[nS];rw[if_neg (by simp)];refine⟨List.pairwise_cons.2 ⟨λx aq=>?_,pt⟩,λx=>?_⟩
  .obtain⟨h1,af⟩:=(i2 x).1 aq;rcases h.tx y x with aK|aK|aK
   .exact aK
   .exact(af aK.symm).elim
   .rw[nO.1 x h1]at aK;cases aK
  .simp only[List.mem_cons,i2 x];constructor
   .rintro(h1|⟨h1,_⟩)
    .exact .inl h1
    .exact .inr h1
   .rintro(h1|h1)
    .exact .inl h1
    .by_cases aT:x=y
     .exact .inl aT
     .exact .inr ⟨h1,aT⟩
theorem atU (h:Ord lt) {le:α->α->Bool} (hle:∀a b,le a b= !lt b a) (l:List α):nS none (l.mergeSort le)=qB lt [] l:=by
 have ae:(l.mergeSort le).Pairwise (λa b=>lt b a=false):=by
  have:=List.pairwise_mergeSort (le:=le) (λa b c h1 af=>by
   rw[hle]at h1 af⊢;simp only[Bool.not_eq_true']at h1 af⊢;cases e:lt c a with
   |false=>rfl
   |true=>
    rcases h.tx a b with aK|aK|aK
    .have:=h.qI _ _ _ e aK;rw[af]at this;cases this
    .subst aK;rw[af]at e;cases e
    .rw[h1]at aK;cases aK) (λa b=>by
   rw[hle,hle];cases aK:lt b a with
   |false=>rfl
   |true=>
    cases aT:lt a b with
    |false=>rfl
    |true=>have:=h.qI _ _ _ aK aT;rw[h.tz]at this;cases this) l
  refine this.imp λ{a b} jS=>?_;rw[hle]at jS;simpa using jS
 obtain⟨pt,i2⟩:=atT h _ ae;refine L6 h pt (L9 h l [] (by simp[nN])) λx=>?_;rw[i2,L_,List.mem_mergeSort];simp
end
section
variable {α β:Type}
def sw (p:α->Bool):Nat->List α->Int
 |_,[]=> -1
 |i,x::r=>if p x=true then(i:Int)else sw p (i+1) r
theorem Tt (p:α->Bool):∀(r:List α) (i:Nat),decide (0<=sw p i r)=r.any p
 |[],i=>by simp[sw]
 |x::r,i=>by
  simp only[sw,List.any_cons];by_cases h:p x=true
  .simp[h]
  .have e:p x=false:=by simpa using h
   simp[e,Tt p r (i+1)]
theorem atV {l:Nat->Int->aAh} (a:List α) (p:α->Bool) (a7:∀m,l (m+1) (a.length:Int)=some (-1))
  (ae:∀i (h:i<a.length) m,l (m+1) (i:Int)=cond (p a[i]) (some (i:Int)) (l m ((i+1:Nat):Int))):lim (λm=>l m 0)=some (sw p 0 a):=by
 have key:∀i,i<=a.length->∀m,a.length-i<m->l m (i:Int)=some (sw p i (a.drop i)):=by
  refine down a.length ?_ ?_
  .intro m hm;obtain⟨m,rfl⟩:∃j,m=j+1:=⟨m-1,by omega⟩
   rw[a7,List.drop_of_length_le (Nat.le_refl _)];rfl
  .intro i aj ih m hm;obtain⟨m,rfl⟩:∃j,m=j+1:=⟨m-1,by omega⟩
   rw[ae i aj m,ih m (by omega),drop_cons a i aj];simp only[sw];cases p a[i]<;>rfl
 refine e0 (a.length+1) λm hm=>?_;have:=key 0 (by omega) m (by omega);simpa using this
end
set_option linter.unusedSimpArgs false
theorem Ma (a b:aAc):(!(Op.bytesLess a b))=(Op.bytesLess b a||b==a):=by
 induction a generalizing b with
 |nil=>cases b<;>simp[Op.bytesLess]
 |cons x a ih=>
  cases b with
  |nil=>simp[Op.bytesLess]
  |cons y b=>
   simp only[Op.bytesLess];have:=ih b;by_cases h1:x<y
   .have af:¬y<x:=λh=>by have:=UInt8.lt_asymm h1 h;exact this
    have ay:y≠x:=λh=>by subst h;exact absurd h1 (UInt8.lt_irrefl _)
    simp[h1,af,ay]
   .by_cases af:y<x
    .have ay:x≠y:=λh=>by subst h;exact absurd af (UInt8.lt_irrefl _)
     simp[h1,af,ay]
    .have ay:x=y:=by
      have aK:=UInt8.not_lt.1 h1;have aT:=UInt8.not_lt.1 af;exact UInt8.le_antisymm aT aK
     subst ay;simp[h1,this]
theorem abD (a:aAc):Op.bytesLess a a=false:=by
 have:=Ma a a;cases h:Op.bytesLess a a with
 |false=>rfl
 |true=>rw[h]at this;simp at this
abbrev ik:aAc->aAc->Bool:=Op.bytesLess
theorem abE:∀(a b c:aAc),ik a b=true->ik b c=true->ik a c=true
 |[],[],c,h,_=>by simp[ik,Op.bytesLess]at h
 |[],_::_,[],_,h=>by simp[ik,Op.bytesLess]at h
 |[],_::_,_::_,_,_=>by simp[ik,Op.bytesLess]
 |_::_,[],c,h,_=>by simp[ik,Op.bytesLess]at h
 |_::_,_::_,[],_,h=>by simp[ik,Op.bytesLess]at h
 |x::a,y::b,z::c,h1,af=>by
  have ih:=abE a b c;simp only[ik,Op.bytesLess,Bool.or_eq_true,Bool.and_eq_true,decide_eq_true_eq,beq_iff_eq]at h1 af ih⊢;rcases h1 with h1|⟨rfl,h1⟩
  .rcases af with af|⟨rfl,af⟩
   .exact .inl (UInt8.lt_trans h1 af)
   .exact .inl h1
  .rcases af with af|⟨rfl,af⟩
   .exact .inl af
   .exact .inr ⟨rfl,ih h1 af⟩
theorem rn:Ord ik where
 tz:=abD
 qI:=abE
 tx:=λa b=>by
  have:=Ma a b;cases h:Op.bytesLess a b
  .rw[h]at this;simp only[Bool.not_false,Bool.true_eq,Bool.or_eq_true,beq_iff_eq]at this;rcases this with h|h
   .exact .inr (.inr h)
   .exact .inr (.inl h.symm)
  .exact .inl h
theorem Tu {α:Type} (x y:α) (B:List α):∀A:List α,(A++y::B).set A.length x=A++x::B
 |[]=>rfl
 |a::A=>by simp only[List.cons_append,List.length_cons,List.set_cons_succ,Tu x y B A]
theorem abF {α:Type} (A:List α) (y:α) (B:List α) {k:Nat} (h:k=A.length):bh (A++y::B) (k:Int)=some y:=by
 subst h;rw[dO _ A.length (by simp)];simp
def ku:aAc:=[116,97,117]
def D3 (x:aAc):aAb->aAb
 |[]=>[x]
 |y::r=>if ik y x=true then y::D3 x r else x::y::r
theorem abG (x:aAc):∀eL:aAb,x∉eL->nN ik eL->D3 x eL=ins ik x eL
 |[],_,_=>rfl
 |y::r,aq,fq=>by
  have ih:=abG x r (λh=>aq (by simp[h])) (List.Pairwise.tail fq);simp only[D3,ins];have dP:¬x=y:=λe=>aq (by simp[e]);rcases rn.tx x y with h|h|h
  .have af:¬ik y x=true:=λaf=>by
    have:=rn.qI _ _ _ h af;rw[rn.tz]at this;cases this
   rw[if_neg af,if_pos h]
  .exact absurd h dP
  .have af:¬ik x y=true:=λaf=>by
    have:=rn.qI _ _ _ h af;rw[rn.tz]at this;cases this
   rw[if_pos h,if_neg af,if_neg dP,ih]
theorem atW (x:aAc) (eL:aAb) (aq:x∈eL) (fq:nN ik eL):ins ik x eL=eL:=
 L6 rn (L8 rn x eL fq) fq λy=>by
  rw[L7];exact⟨λh=>h.elim (λe=>e▸aq) id,.inr⟩
theorem abH (v:aAb) (x:aAc) (h:v.length<=4194304):uT v x=some (sw (λy=>y==x) 0 v):=by
 unfold uT;refine atV v (λy=>y==x) (λm=>?_) λi aj m=>?_
 .simp only[yu,Gx];rw[ee (Nat.le_refl _)];rfl
 .simp only[yu,Gx];rw[ek aj,dO _ i aj,ed i _ aj (by omega)];rfl
section
variable (a:aAb) (i:Nat) (aj:i<a.length) (hl:a.length<=1048576) (K:aAb->Int->Option aAb)
include aj hl
theorem abI (v:aAb) (at_:Nat) (aB:v.length<=2097152):∀(j:Nat) (y:aAc) (m:Nat),at_+j<=v.length->j<m->
  wI K a m (v.take (at_+j)++y::v.drop (at_+j)) (i:Int) (at_:Int) ((at_+j:Nat):Int)=K (v.take at_++a[i]::v.drop at_) ((i+1:Nat):Int)
 |0,y,m,bE,hm=>by
  obtain⟨m,rfl⟩:∃j,m=j+1:=⟨m-1,by omega⟩
  have hlen:(v.take at_).length=at_:=by rw[List.length_take];omega
  simp only[wI,Qb,GD,Nat.add_zero];rw[ee (Nat.le_refl _),dO _ i aj,abF _ y _ (k:=at_) hlen.symm,ed i _ aj (by omega)];simp only[cond_false,bind_some,Int.toNat_natCast];have:=Tu a[i] y (v.drop at_) (v.take at_);rw[hlen]at this;rw[this]
 |j+1,y,m,bE,hm=>by
  obtain⟨m,rfl⟩:∃j,m=j+1:=⟨m-1,by omega⟩
  have hk:at_+j<v.length:=by omega
  have hlen:(v.take (at_+(j+1))).length=at_+(j+1):=by rw[List.length_take];omega
  have ih:=abI v at_ aB j v[at_+j] m (by omega) (by omega);simp only[wI,Qb];rw[ek (by omega),D2 (at_+(j+1)) (by omega) (by omega),show at_+(j+1)-1=at_+j by omega,abF _ y _ (k:=at_+(j+1)) hlen.symm];have hg:bh (v.take (at_+(j+1))++y::v.drop (at_+(j+1))) ((at_+j:Nat):Int)=some v[at_+j]:=by
   rw[dO _ (at_+j) (by rw[List.length_append,hlen];omega)];rw[List.getElem_append_left (by omega),List.getElem_take]
  rw[hg];simp only[cond_true,bind_some,Int.toNat_natCast];have ae:=Tu v[at_+j] y (v.drop (at_+(j+1))) (v.take (at_+(j+1)));rw[hlen]at ae;rw[ae];have aK:v.take (at_+(j+1))=v.take (at_+j)++[v[at_+j]]:=by
   rw[show at_+(j+1)=(at_+j)+1 by omega,List.take_add_one,List.getElem?_eq_getElem hk];rfl
  have aT:v.drop (at_+j)=v[at_+j]::v.drop (at_+(j+1)):=drop_cons v (at_+j) hk;have aU:v.take (at_+(j+1))++v[at_+j]::v.drop (at_+(j+1))=v.take (at_+j)++v[at_+j]::v.drop (at_+j):=by
   rw[aK,List.append_assoc,<-aT];rfl
  rw[aU];exact ih
theorem abJ (v:aAb) (at_:Nat) (bs:at_<=v.length) (aB:v.length<=2097152):
  lim (λn=>wI K a n (v++[([]:aAc)]) (i:Int) (at_:Int) (IntKind.i64.wrap (((v++[([]:aAc)]).length:Int)-1)))=K (v.take at_++a[i]::v.drop at_) ((i+1:Nat):Int):=by
 have hw:IntKind.i64.wrap (((v++[([]:aAc)]).length:Int)-1)=(v.length:Int):=by
  rw[List.length_append,List.length_cons,List.length_nil,eF _ (by omega)];omega
 rw[hw];refine e0 (v.length+1) λm hm=>?_;have:=abI a i aj hl K v at_ aB (v.length-at_) [] m (by omega) (by omega);rw[show at_+(v.length-at_)=v.length by omega,List.take_length,List.drop_length]at this;exact this
theorem atX (v:aAb) (aB:v.length<=2097152) (h1:1<=v.length):
  lim (λn=>Aj K a n v (i:Int) 1)=K (v.take 1++D3 a[i] (v.drop 1)) ((i+1:Nat):Int):=by
 have key:∀j,j<=v.length->∀m,v.length-j<m->Aj K a m v (i:Int) (j:Int)=K (v.take j++D3 a[i] (v.drop j)) ((i+1:Nat):Int):=by
  refine down v.length ?_ ?_
  .intro m hm;obtain⟨m,rfl⟩:∃j,m=j+1:=⟨m-1,by omega⟩
   simp only[Aj,Qc];rw[ee (Nat.le_refl _),jN (by omega) (by omega)];simp only[cond_false,bind_some];rw[abJ a i aj hl K v v.length (Nat.le_refl _) aB,List.drop_length];rfl
  .intro j bE ih m hm;obtain⟨m,rfl⟩:∃j,m=j+1:=⟨m-1,by omega⟩
   simp only[Aj,Qc];rw[ek bE,dO _ j bE,dO _ i aj,jN (by omega) (by omega),ed j _ bE (by omega)];simp only[cond_true,bind_some];rw[abJ a i aj hl K v j (by omega) aB,ih m (by omega),drop_cons v j bE];simp only[D3];cases ab:Op.bytesLess v[j] a[i]
   .rw[if_neg (by rw[show ik v[j] a[i]=false from ab];decide)];rfl
   .rw[if_pos (show ik v[j] a[i]=true from ab)];simp only[cond_true];congr 1;rw[List.take_add_one,List.getElem?_eq_getElem bE,List.append_assoc];rfl
 refine e0 (v.length+1) λm hm=>?_;exact key 1 h1 m (by omega)
end
def tM (x:aAc):Bool:= !(x==ku)
theorem atY (a:aAb) (hl:a.length<=1048576):Ks a=some (ku::qB ik [] (a.filter tM)):=by
 unfold Ks;have key:∀i,i<=a.length->∀(eL:aAb) m,nN ik eL->eL.length<=i->a.length-i<m->u4 a m (ku::eL) (i:Int)=some (ku::qB ik eL ((a.drop i).filter tM)):=by
  refine down a.length ?_ ?_
  .intro eL m fq atZ hm;obtain⟨m,rfl⟩:∃j,m=j+1:=⟨m-1,by omega⟩
   simp only[u4,Qd];rw[ee (Nat.le_refl _),List.drop_of_length_le (Nat.le_refl _)];rfl
  .intro i aj ih eL m fq atZ hm;obtain⟨m,rfl⟩:∃j,m=j+1:=⟨m-1,by omega⟩
   simp only[u4,Qd,GD];rw[ek aj,dO _ i aj,ed i _ aj (by omega)];simp only[cond_true,bind_some];rw[abH _ _ (by simp only[List.length_cons];omega)];simp only[bind_some];rw[Tt,atX a i aj hl _ (ku::eL) (by simp only[List.length_cons];omega) (by simp),drop_cons a i aj,List.filter_cons];simp only[List.take_succ_cons,List.take_zero,List.drop_succ_cons,List.drop_zero,List.cons_append,List.nil_append];have azX:=abA (lt:=ik) a[i] eL;by_cases a6:a[i]=ku
   .have aK:((ku::eL).any λy=>y==a[i])=true:=by simp[a6]
    have aT:tM a[i]=false:=by unfold tM;simp[a6]
    rw[aK,aT,cond_true];exact ih eL m fq (by omega) (by omega)
   .have aT:tM a[i]=true:=by unfold tM;simp[a6]
    rw[aT];by_cases o5:a[i]∈eL
    .have aK:((ku::eL).any λy=>y==a[i])=true:=by
      rw[List.any_eq_true];exact⟨a[i],by simp[o5],by simp⟩
     rw[aK,cond_true,ih eL m fq (by omega) (by omega)];show _=some (ku::qB ik (ins ik a[i] eL) _);rw[atW _ eL o5 fq]
    .have aK:((ku::eL).any λy=>y==a[i])=false:=by
      rw[Bool.eq_false_iff];intro au;obtain⟨y,hy,at0⟩:=List.any_eq_true.1 au;have:y=a[i]:=by simpa using at0
      subst this;rcases List.mem_cons.1 hy with h|h
      .exact a6 h
      .exact o5 h
     rw[aK,cond_false,abG _ eL o5 fq,ih (ins ik a[i] eL) m (L8 rn _ eL fq) (by omega) (by omega)];rfl
 refine e0 (a.length+1) λm hm=>?_;have:=key 0 (by omega) [] m List.Pairwise.nil (by simp) (by omega);simpa [ku]using this
theorem abK (x:aAc):∀eL:aAb,dm List.length (ins ik x eL)<=x.length+1+dm List.length eL
 |[]=>by simp[ins,dm,gn];omega
 |y::r=>by
  have ih:=abK x r;simp only[ins];split
  .simp only[dm,gn,List.length_cons];omega
  .split
   .omega
   .simp only[dm,gn,List.length_cons]at ih⊢;omega
theorem abL:∀(l eL:aAb),dm List.length (qB ik eL l)<=dm List.length l+dm List.length eL
 |[],eL=>by simp[qB,dm,gn]
 |x::l,eL=>by
  have h1:=abL l (ins ik x eL);have af:=abK x eL;have e:qB ik eL (x::l)=qB ik (ins ik x eL) l:=rfl;rw[e];have aT:dm List.length (x::l)=x.length+1+dm List.length l:=by simp only[dm,gn,List.length_cons];omega
  omega
theorem abM (p:aAc->Bool):∀l:aAb,dm List.length (l.filter p)<=dm List.length l
 |[]=>Nat.le_refl _
 |x::l=>by
  have ih:=abM p l;have aT:∀m:aAb,dm List.length (x::m)=x.length+1+dm List.length m:=λm=>by simp only[dm,gn,List.length_cons];omega
  rw[List.filter_cons];split
  .rw[aT,aT];omega
  .rw[aT];omega
def qC (l:aAb):aAb:=qB ik [] (l.filter tM)
theorem at1 (l:aAb):dm List.length (qC l)<=dm List.length l:=by
 have h1:=abL (l.filter tM) [];have af:=abM tM l;have ay:dm List.length ([]:aAb)=0:=rfl;unfold qC;omega
theorem at2 (l:aAb):gp (ku::qC l) 1 (((ku::qC l).length:Nat):Int)=some (qC l):=aby _ _
theorem at3 (a b:aAc):yG a b<0↔Op.bytesLess a b=true:=by
 induction a generalizing b with
 |nil=>cases b<;>simp[yG,Op.bytesLess]
 |cons x a ih=>
  cases b with
  |nil=>simp[yG,Op.bytesLess]
  |cons y b=>
   simp only[yG,Op.bytesLess];by_cases h1:x<y
   .simp[h1]
   .by_cases af:y<x
    .have ay:x≠y:=λh=>by subst h;exact absurd af (UInt8.lt_irrefl _)
     simp[h1,af,ay]
    .have ay:x=y:=UInt8.le_antisymm (UInt8.not_lt.1 af) (UInt8.not_lt.1 h1);subst ay;simp[ih b]
def AJ (a b:aAc):Bool:=decide (ob a b<0)
theorem y2 (a b:aAc):AJ a b=true↔a≠b/\(a=ku\/(b≠ku/\ik a b=true)):=by
 unfold AJ;rw[decide_eq_true_eq,ob];by_cases h:a=b
 .rw[if_pos h];exact⟨λh=>by omega,λe=>absurd h e.1⟩
 .rw[if_neg h];by_cases h1:a=[116,97,117]
  .rw[if_pos h1];exact⟨λ_=>⟨h,.inl h1⟩,λ_=>by omega⟩
  .rw[if_neg h1];by_cases af:b=[116,97,117]
   .rw[if_pos af];refine⟨λh=>by omega,λe=>?_⟩;rcases e.2 with e|e
    .exact absurd e h1
    .exact absurd af e.1
   .rw[if_neg af,at3];refine⟨λe=>⟨h,.inr ⟨af,e⟩⟩,λe=>?_⟩;rcases e.2 with e|e
    .exact absurd e h1
    .exact e.2
theorem yK:Ord AJ where
 tz a:=by
  rw[Bool.eq_false_iff];intro h;exact((y2 a a).1 h).1 rfl
 qI a b c h1 af:=by
  rw[y2]at h1 af⊢;obtain⟨lV,bV⟩:=h1;obtain⟨bJ,cn⟩:=af;rcases bV with rfl|⟨m1,bV⟩
  .rcases cn with cn|⟨m2,cn⟩
   .exact absurd cn.symm lV
   .exact⟨Ne.symm m2,.inl rfl⟩
  .rcases cn with cn|⟨m2,cn⟩
   .exact absurd cn m1
   .have ay:=rn.qI _ _ _ bV cn;refine⟨λe=>?_,.inr ⟨m2,ay⟩⟩;subst e;rw[rn.tz]at ay;cases ay
 tx a b:=by
  by_cases h:a=b
  .exact .inr (.inl h)
  .by_cases h1:a=ku
   .exact .inl ((y2 a b).2 ⟨h,.inl h1⟩)
   .by_cases af:b=ku
    .exact .inr (.inr ((y2 b a).2 ⟨Ne.symm h,.inl af⟩))
    .rcases rn.tx a b with ay|ay|ay
     .exact .inl ((y2 a b).2 ⟨h,.inr ⟨af,ay⟩⟩)
     .exact absurd ay h
     .exact .inr (.inr ((y2 b a).2 ⟨Ne.symm h,.inr ⟨h1,ay⟩⟩))
def glue (p:aAc):aAb->aAb
 |[]=>[p]
 |h::t=>(p++h)::t
def l8 (c:UInt8):aAc->aAb
 |[]=>[[]]
 |x::r=>if x=c then []::l8 c r else glue [x] (l8 c r)
theorem abN:∀{l:aAb},l≠[]->glue [] l=l
 |[],h=>(h rfl).elim
 |_::_,_=>rfl
theorem at4 (p q:aAc):∀l:aAb,glue p (glue q l)=glue (p++q) l
 |[]=>rfl
 |h::t=>by simp only[glue,List.append_assoc]
theorem abO (c:UInt8):∀s,l8 c s≠[]
 |[]=>by simp[l8]
 |x::r=>by
  simp only[l8];split
  .simp
  .cases h:l8 c r<;>simp[glue]
theorem Tv (c:UInt8):∀s,c∉s->l8 c s=[s]
 |[],_=>rfl
 |x::r,h=>by
  simp only[List.mem_cons,not_or]at h;simp only[l8];rw[if_neg (λe=>h.1 e.symm),Tv c r h.2];rfl
theorem Tw (c:UInt8):∀p q,c∉p->l8 c (p++c::q)=p::l8 c q
 |[],q,_=>by simp[l8]
 |x::r,q,h=>by
  simp only[List.mem_cons,not_or]at h;simp only[List.cons_append,l8];rw[if_neg (λe=>h.1 e.symm),Tw c r q h.2];rfl
theorem abP (c:UInt8):∀s,c∉s->tn s c= -1
 |[],_=>rfl
 |x::r,h=>by
  simp only[List.mem_cons,not_or]at h;have kz:(x==c)=false:=by simpa using λe=>h.1 e.symm
  simp only[tn,kz,abP c r h.2];rfl
theorem abQ (c:UInt8):∀p q,c∉p->tn (p++c::q) c=(p.length:Int)
 |[],q,_=>by simp[tn]
 |x::r,q,h=>by
  simp only[List.mem_cons,not_or]at h;have kz:(x==c)=false:=by simpa using λe=>h.1 e.symm
  have ih:=abQ c r q h.2;simp only[List.cons_append,tn,kz,ih];have:((r.length:Int)== -1)=false:=by simp
  rw[this];simp
theorem abR {c:UInt8}:∀{s:aAc},c∈s->∃p q,s=p++c::q/\c∉p
 |x::r,h=>by
  by_cases e:x=c
  .subst e;exact⟨[],r,rfl,by simp⟩
  .have bL:c∈r:=by
    rcases List.mem_cons.1 h with h|h
    .exact(e h.symm).elim
    .exact h
   obtain⟨p,q,rfl,aw⟩:=abR bL;exact⟨x::p,q,rfl,by simp only[List.mem_cons,not_or];exact⟨λh=>e h.symm,aw⟩⟩
theorem abS (s:aAc) (c:UInt8) (ae:1<=s.length\/True):wN s [c]=some (if s=[c]then 0 else tn s c):=by
 unfold wN QY QX;by_cases h:s=[c]
 .subst h;simp
 .have e:([c]==s)=false:=by simpa using λbL=>h bL.symm
  rw[if_neg h,e];rfl
theorem at5 {s:aAc} {c:UInt8} (h:c∉s):wN s [c]=some (-1):=by
 rw[abS s c (.inr trivial),if_neg (by rintro rfl;simp at h),abP c s h]
theorem abT (p q:aAc) {c:UInt8} (h:c∉p):wN (p++c::q) [c]=some (p.length:Int):=by
 rw[abS _ c (.inr trivial),abQ c p q h];split
 .rename_i e;cases p with
  |nil=>rfl
  |cons x r=>have:=congrArg List.length e;simp at this
 .rfl
theorem at6 (s t:aAc):G3 s t=wN s t:=by
 unfold G3;cases wN s t<;>rfl
theorem at7 {s:aAc} {c:UInt8} (h:c∉s):Df s [c]=some (s,[],false):=by
 unfold Df KX;rw[at5 h];rfl
theorem aua (p q:aAc) {c:UInt8} (h:c∉p) (hl:(p++c::q).length<=1048576):Df (p++c::q) [c]=some (p,q,true):=by
 unfold Df KX;rw[abT p q h];simp only[List.length_append,List.length_cons]at hl;have e:decide ((0:Int)<=(p.length:Int))=true:=by simp
 simp only[bind_some,e,cond_true];rw[xc _ _ (by simp),eF ((p.length:Int)+([c].length:Int)) (by simp;omega)];have aT:gp (p++c::q) ((p.length:Int)+([c].length:Int)) ((p++c::q).length:Int)=some q:=by
  have:=L5 (p++[c]) q [] (i:=((p.length:Int)+([c].length:Int))) (j:=(((p++c::q).length:Nat):Int)) (by simp) (by simp;omega);simpa using this
 rw[aT];simp
theorem aub (q:aAc) {c:UInt8} (hl:q.length<=1048576):strings_TrimSuffix (q++[c]) [c]=some q:=by
 unfold strings_TrimSuffix Q0 QZ;have e:decide (([c].length:Int)<=((q++[c]).length:Int))=true:=by simp;omega
 have auc:IntKind.i64.wrap (((q++[c]).length:Int)-([c].length:Int))=(q.length:Int):=by
  rw[eF _ (by simp;omega)];simp
 rw[e,auc];have aT:=L5 q [c] [] (i:=(q.length:Int)) (j:=(((q++[c]).length:Nat):Int)) rfl (by simp);simp only[List.append_nil]at aT;rw[aT,xc _ _ (by simp)];simp
theorem abU {α:Type} (a:List α) (x y:α) (b:List α):(a++x::b).set a.length y=a++y::b:=by
 rw[List.set_append_right _ _ (Nat.le_refl _),Nat.sub_self,List.set_cons_zero]
theorem abV {α:Type} (a:List α) (x:α) (b:List α):bh (a++x::b) (a.length:Int)=some x:=by
 rw[dO _ _ (by simp)];simp
theorem aud {α:Type} (a:List α) (x:α) (b:List α):gp (a++x::b) 0 ((a.length+1:Nat):Int)=some (a++[x]):=by
 rw[xc _ _ (by simp)];congr 1;rw[show a++x::b=(a++[x])++b by simp,List.take_left' (by simp)]
theorem aue (c:UInt8) (s:aAc) (ae:s.length<=1048576) (N:Nat) (A_:N=s.count c+1):
  ∀(k:Nat) (r:aAc) (d:aAb),r.count c=k->d.length+k+1=N->r.length<=s.length->∀m,k<m->
   Aw s [c] 0 (N:Int) m r (d++List.replicate (k+1) []) (d.length:Int)=some (d++l8 c r):=by
 have au:s.count c<=s.length:=List.count_le_length;have abW:k1 false (N:Int) (IntKind.i64.wrap ((s.length:Int)+1))=(N:Int):=by
  rw[eF _ (by omega)];unfold k1;simp;omega
 have H9:∀(r:aAc) (d:aAb),d.length<N->c∉r->G4 s [c] 0 (N:Int) r (d++List.replicate 1 []) (d.length:Int)=some (d++l8 c r):=by
  intro r d ao aR;unfold G4;simp only[List.replicate_succ,List.replicate_zero];rw[abV,bind_some,Int.toNat_natCast,abU,eF _ (by omega),show((d.length:Int)+1)=((d.length+1:Nat):Int) by omega,aud,Tv c r aR];rfl
 intro k;induction k with
 |zero=>
  intro r d aR ao hl m hm;obtain⟨m,rfl⟩:∃j,m=j+1:=⟨m-1,by omega⟩
  simp only[Aw,Q4];have e:decide ((d.length:Int)<IntKind.i64.wrap (k1 false (N:Int) (IntKind.i64.wrap ((s.length:Int)+1))-1))=false:=by
   rw[abW,eF _ (by omega)];simp;omega
  rw[e,cond_false];exact H9 r d (by omega) (List.count_eq_zero.1 aR)
 |succ k ih=>
  intro r d aR ao hl m hm;obtain⟨m,rfl⟩:∃j,m=j+1:=⟨m-1,by omega⟩
  obtain⟨p,q,rfl,aw⟩:=abR (c:=c) (s:=r) (List.count_pos_iff.1 (by omega));simp only[Aw,Q4];have e:decide ((d.length:Int)<IntKind.i64.wrap (k1 false (N:Int) (IntKind.i64.wrap ((s.length:Int)+1))-1))=true:=by
   rw[abW,eF _ (by omega)];simp;omega
  simp only[List.length_append,List.length_cons]at hl;rw[e,cond_true,at6,abT p q aw,bind_some];have aT:decide ((p.length:Int)<0)=false:=by simp
  rw[aT,cond_false,eF ((p.length:Int)+0) (by omega),Int.add_zero,xc _ _ (by simp)];have aU:gp (p++c::q) (IntKind.i64.wrap ((p.length:Int)+([c].length:Int))) ((p++c::q).length:Int)=some q:=by
   rw[eF _ (by simp;omega)];have:=L5 (p++[c]) q [] (i:=((p.length:Int)+([c].length:Int))) (j:=(((p++c::q).length:Nat):Int)) (by simp) (by simp;omega);simpa using this
  rw[bind_some,List.take_left' rfl,show List.replicate (k+1+1) ([]:aAc)=[]::List.replicate (k+1) []from rfl,abV,bind_some,aU,bind_some,Int.toNat_natCast,abU,eF ((d.length:Int)+1) (by omega)];have auf:q.count c=k:=by
   rw[List.count_append,List.count_cons_self,List.count_eq_zero.2 aw]at aR;omega
  have:=ih q (d++[p]) auf (by simp;omega) (by omega) m (by omega);simp only[List.append_assoc,List.singleton_append,List.length_append,List.length_cons,List.length_nil]at this;rw[Tw c p q aw,<-this];congr 1
theorem aug (c:UInt8) (s:aAc) (ae:s.length<=1048576):KZ s [c]=some (l8 c s):=by
 have au:s.count c<=s.length:=List.count_le_length;unfold KZ Q5 Q3 Q1 KY;have aK:((-1:Int)==0)=false:=by decide
 have aT:([c]==([]:aAc))=false:=rfl;have aU:decide ((-1:Int)<0)=true:=by decide
 have b_:(([c].length:Int)==0)=false:=rfl;have cY:(([c].length:Int)==1)=true:=rfl;rw[aK,aT,aU,b_,cY];simp only[cond_false,cond_true,H5,bind_some];rw[eF ((s.count c:Int)+1) (by omega),eF ((s.length:Int)+1) (by omega)];have hm:k1 false ((s.count c:Int)+1) ((s.length:Int)+1)=((s.count c+1:Nat):Int):=by
  unfold k1;simp;omega
 have hk:nR 16 ((s.count c+1:Nat):Int)=some ():=by
  unfold nR;rw[if_pos ⟨by omega,by omega,by omega⟩]
 have hl:lim (λn=>Aw s [c] 0 ((s.count c:Int)+1) n s (List.replicate (s.count c+1) []) 0)=some (l8 c s):=by
  refine e0 (s.count c+1) λm hm=>?_;have:=aue c s ae (s.count c+1) rfl (s.count c) s [] rfl (by simp) (Nat.le_refl _) m (by omega);simpa using this
 rw[hm,hk];simp only[bind_some,Int.toNat_natCast];rw[hl];rfl
theorem auh (c:UInt8) (s:aAc) (ae:s.length<=1048576):Kk s c=some (l8 c s):=by
 have key:∀i,i<=s.length->∀m,s.length-i<m->∀(v:aAb) (f:Nat),f<=i->v.length<=i->
   Af s c m v (f:Int) (i:Int)=some (v++glue ((s.take i).drop f) (l8 c (s.drop i))):=by
  refine down s.length ?_ ?_
  .intro m hm v f bI aB;obtain⟨m,rfl⟩:∃j,m=j+1:=⟨m-1,by omega⟩
   simp only[Af,P1];rw[ee (Nat.le_refl _),cond_false];have e:gp s (f:Int) (s.length:Int)=some (s.drop f):=by
    unfold gp;rw[if_pos ⟨by omega,by omega,by omega⟩];simp
   rw[e,bind_some,jN (by omega) (by omega),bind_some,List.take_length,List.drop_length];simp[l8,glue]
  .intro i aj ih m hm v f bI aB;obtain⟨m,rfl⟩:∃j,m=j+1:=⟨m-1,by omega⟩
   simp only[Af,P1,Kj];rw[ek aj,cond_true,dO s i aj,bind_some,drop_cons s i aj];simp only[l8];by_cases au:s[i]=c
   .have e:((s[i].toNat:Int)==(c.toNat:Int))=true:=by rw[au];simp
    have aT:gp s (f:Int) (i:Int)=some ((s.take i).drop f):=by
     unfold gp;rw[if_pos ⟨by omega,by omega,by omega⟩];simp
    rw[e,cond_true,aT,bind_some,jN (by omega) (by omega),bind_some,if_pos au,ed i s.length aj (by omega),ih m (by omega) _ (i+1) (Nat.le_refl _) (by simp;omega)];rw[List.drop_of_length_le (l:=List.take (i+1) s) (by rw[List.length_take];omega),abN (abO _ _)];simp[glue]
   .have e:((s[i].toNat:Int)==(c.toNat:Int))=false:=by
     simp only[beq_eq_false_iff_ne,ne_eq];intro h;exact au (UInt8.toNat_inj.1 (by omega))
    rw[e,cond_false,if_neg au,ed i s.length aj (by omega),ih m (by omega) _ f (by omega) (by omega),at4];congr 3;rw[List.take_succ_eq_append_getElem aj,List.drop_append_of_le_length (by simp;omega)]
 unfold Kk;refine e0 (s.length+1) λm hm=>?_;have:=key 0 (by omega) m (by omega) [] 0 (Nat.le_refl _) (zero_le _);simpa [abN (abO c s)]using this
theorem aui:∀d:Fin 10,IntKind.i64.wrap (IntKind.u8.wrap (((48+d.val:Nat):Int)-48))=((d.val:Nat):Int):=by decide
theorem u8_in:∀c:UInt8,gL c=true->IntKind.i64.wrap (IntKind.u8.wrap ((c.toNat:Int)-48))=((c.toNat-48:Nat):Int):=by
 intro c h;simp only[gL,Bool.and_eq_true,decide_eq_true_eq]at h;have:=aui ⟨c.toNat-48,by omega⟩;simp only at this
 rwa [show 48+(c.toNat-48)=c.toNat by omega]at this
theorem auj (c:UInt8):Cf c=some (gL c):=by
 unfold Cf gL;congr 2
 .rw[decide_eq_decide];omega
 .rw[decide_eq_decide];omega
def nP (n:Nat) (d:aAc):Nat:=d.foldl (λn c=>10*n+(c.toNat-48)) n
theorem abX:∀(d:aAc) (n k:Nat),d.all gL=true->n<10^k->nP n d<10^(k+d.length)
 |[],n,k,_,h=>by simpa [nP]using h
 |c::r,n,k,ao,h=>by
  simp only[List.all_cons,Bool.and_eq_true]at ao;have au:=ao.1;simp only[gL,Bool.and_eq_true,decide_eq_true_eq]at au;have:=abX r (10*n+(c.toNat-48)) (k+1) ao.2 (by rw[Nat.pow_succ];omega);rw[List.length_cons,show k+(r.length+1)=k+1+r.length by omega];exact this
theorem abY (s:aAc) (a:Int) (ae:s.length<=1048576):∀(d:aAc) (i n k:Nat),s.drop i=d->i<=s.length->n<10^k->k+d.length<=18->∀m,d.length<m->
  wC s a m (n:Int) (i:Int)=some (if d.all gL=true then(if a=1 then-(nP n d:Int)else nP n d,true)else(0,false))
 |[],i,n,k,ao,aj,aV,hk,m,hm=>by
  obtain⟨m,rfl⟩:∃j,m=j+1:=⟨m-1,by simp at hm;omega⟩
  have auk:i=s.length:=by
   have:=congrArg List.length ao;rw[List.length_drop]at this;simp at this;omega
  subst auk;have xT:n<10^18:=Nat.lt_of_lt_of_le aV (Nat.pow_le_pow_right (by omega) (by simpa using hk));simp only[wC,P2,Gy];rw[ee (Nat.le_refl _),cond_false];by_cases bs:a=1
  .subst bs;simp only[BEq.rfl,cond_true];rw[eF _ (by omega)];simp[nP]
  .have:(a==1)=false:=by simpa using bs
   rw[this,cond_false];simp[nP,bs]
 |c::r,i,n,k,ao,aj,aV,hk,m,hm=>by
  obtain⟨m,rfl⟩:∃j,m=j+1:=⟨m-1,by simp at hm;omega⟩
  have xj:i<s.length:=by
   have:=congrArg List.length ao;rw[List.length_drop]at this;simp at this;omega
  rw[drop_cons s i xj]at ao;injection ao with h1 af;simp only[List.length_cons]at hk hm;have xT:n<10^17:=Nat.lt_of_lt_of_le aV (Nat.pow_le_pow_right (by omega) (by omega));simp only[wC,P2];rw[ek xj,cond_true,dO s i xj,bind_some,h1,auj,bind_some,List.all_cons];cases au:gL c
  .simp
  .have D4:=au;simp only[gL,Bool.and_eq_true,decide_eq_true_eq]at D4;simp only[Bool.not_true,cond_false,Bool.true_and];rw[u8_in c au,eF (10*(n:Int)) (by omega),eF _ (by omega),ed i s.length xj (by omega),show(10*(n:Int)+((c.toNat-48:Nat):Int))=((10*n+(c.toNat-48):Nat):Int) by omega];exact abY s a ae r (i+1) (10*n+(c.toNat-48)) (k+1) af xj (by rw[Nat.pow_succ];omega) (by omega) m (by omega)
theorem Tx (s:aAc) (k:Nat) (ae:s.length<=1048576) (hk:k<=1) (hl:k<=s.length):CH s (k:Int)=some (qo k (s.drop k)):=by
 unfold CH qo;by_cases a7:s.length=k
 .have e:((s.length:Int)==(k:Int))=true:=by simp;omega
  rw[e,cond_true,List.drop_of_length_le (by omega)];simp
 have e:((s.length:Int)==(k:Int))=false:=by simp;omega
 rw[e,cond_false,eF _ (by omega)];have abZ:(s.drop k).length=s.length-k:=List.length_drop;have dP:s.drop k≠[]:=by
  intro h;rw[h]at abZ;simp at abZ;omega
 by_cases h1:18<s.length-k
 .have e:decide (18<(s.length:Int)-(k:Int))=true:=by simp;omega
  rw[e,cond_true,if_neg (by intro h;omega)]
 have e:decide (18<(s.length:Int)-(k:Int))=false:=by simp;omega
 have FH:k<s.length:=by omega
 rw[e,cond_false,dO s k FH,bind_some];have kz:(s.drop k).head? =some s[k]:=by rw[drop_cons s k FH];rfl
 have ab0:lim (λn=>wC s (k:Int) n 0 (k:Int))=some (if(s.drop k).all gL=true then(if(k:Int)=1 then-(nP 0 (s.drop k):Int)else nP 0 (s.drop k),true)else(0,false)):=by
  refine e0 (s.length+1) λm hm=>?_;exact abY s (k:Int) ae (s.drop k) k 0 0 rfl hl (by omega) (by omega) m (by omega)
 have aB:nd (s.drop k)=nP 0 (s.drop k):=rfl;have uF:((k:Int)=1)=(k=1):=by apply propext;omega
 simp only[uF]at ab0;rw[ab0,kz,aB];by_cases oW:s[k]=48
 .have e:((s[k].toNat:Int)==48)=true:=by rw[oW];rfl
  rw[e,cond_true];by_cases af:1<s.length
  .have e:decide ((1:Int)<(s.length:Int))=true:=by simp;omega
   rw[e,cond_true,if_neg (by intro h;exact h.2.2.2 ⟨by rw[oW],by omega⟩)]
  .have e:decide ((1:Int)<(s.length:Int))=false:=by simp;omega
   rw[e,cond_false];by_cases bs:(s.drop k).all gL=true
   .rw[if_pos bs,if_pos (show s.drop k≠[]/\(s.drop k).length<=18/\(s.drop k).all gL=true/\¬(some s[k]=some 48/\1<(s.drop k).length+k)from⟨dP,by omega,bs,by rintro⟨_,h⟩;omega⟩)]
   .rw[if_neg bs,if_neg (λh=>bs h.2.2.1)]
 .have e:((s[k].toNat:Int)==48)=false:=by
   simp only[beq_eq_false_iff_ne,ne_eq];intro h;exact oW (UInt8.toNat_inj.1 (by rw[show(48:UInt8).toNat=48 from rfl];omega))
  rw[e,cond_false];by_cases bs:(s.drop k).all gL=true
  .rw[if_pos bs,if_pos (show s.drop k≠[]/\(s.drop k).length<=18/\(s.drop k).all gL=true/\¬(some s[k]=some 48/\1<(s.drop k).length+k)from⟨dP,by omega,bs,by rintro⟨h,_⟩;exact oW (some.inj h)⟩)]
  .rw[if_neg bs,if_neg (λh=>bs h.2.2.1)]
theorem aul (s:aAc) (ae:s.length<=1048576):Kl s=some (kp s):=by
 unfold Kl kp;cases s with
 |nil=>exact Tx [] 0 (by simp) (by omega) (by simp)
 |cons c r=>
  rw[show decide ((0:Int)<(((c::r).length:Nat):Int))=true from A5 (by simp),cond_true,H5,bind_some];by_cases h:c=45
  .subst h;have e:(((45:UInt8).toNat:Int)==45)=true:=rfl;rw[e,cond_true,if_pos (show(45::r).head? =some 45 from rfl)];exact Tx (45::r) 1 ae (by omega) (by simp)
  .have e:((c.toNat:Int)==45)=false:=by
    simp only[beq_eq_false_iff_ne,ne_eq];intro bL;exact h (UInt8.toNat_inj.1 (by rw[show(45:UInt8).toNat=45 from rfl];omega))
   rw[e,cond_false,if_neg (by intro bL;exact h (some.inj bL))];exact Tx (c::r) 0 ae (by omega) (by simp)
theorem ab1:∀c:UInt8,gL c=true->UInt8.ofNat (48+(c.toNat-48))=c:=by
 intro c h;simp only[gL,Bool.and_eq_true,decide_eq_true_eq]at h;rw[show 48+(c.toNat-48)=c.toNat by omega];exact UInt8.ofNat_toNat
def H_:Lib.NumEnd Nat:=Lib.parseUintB 64 []
theorem ab2:∀(d:aAc) (n k:Nat),n<10^k->k+d.length<=18->Lib.parseUintM 18446744073709551615 n d=if d.all gL=true then .ok (nP n d)else H_
 |[],n,k,_,_=>by simp[Lib.parseUintM,nP]
 |c::r,n,k,aV,hk=>by
  simp only[List.length_cons]at hk;have xT:n<10^17:=Nat.lt_of_lt_of_le aV (Nat.pow_le_pow_right (by omega) (by omega));simp only[Lib.parseUintM];have nu:(c::r).all gL=(gL c&&r.all gL):=rfl;by_cases au:gL c=true
  .have D4:=au;simp only[gL,Bool.and_eq_true,decide_eq_true_eq]at D4;have Ty:(c::r).all gL=r.all gL:=by rw[nu,au];rfl
   rw[if_pos D4,if_neg (by omega),if_neg (by omega),Ty,show n*10+(c.toNat-48)=10*n+(c.toNat-48) by omega,ab2 r _ (k+1) (by rw[Nat.pow_succ];omega) (by omega)];rfl
  .have D4:¬(48<=c.toNat/\c.toNat<=57):=λh=>au (by simp only[gL,Bool.and_eq_true,decide_eq_true_eq];exact h);have aum:gL c=false:=by simpa using au
   have Ty:(c::r).all gL=false:=by rw[nu,aum];rfl
   rw[if_neg D4,Ty];simp;rfl
theorem aun (n x:Nat) (aV:1<=n) (aq:x<=9):Lib.decDigits (10*n+x)=Lib.decDigits n++[UInt8.ofNat (48+x)]:=by
 rw[Lib.decDigits,dif_neg (by omega),show(10*n+x)/10=n by omega,show(10*n+x)%10=x by omega]
theorem ab3:∀(d:aAc) (n:Nat),1<=n->d.all gL=true->Lib.decDigits (nP n d)=Lib.decDigits n++d
 |[],n,_,_=>by simp[nP]
 |c::r,n,aV,ao=>by
  simp only[List.all_cons,Bool.and_eq_true]at ao;have au:=ao.1;have e:=ab1 c ao.1;simp only[gL,Bool.and_eq_true,decide_eq_true_eq]at au;show Lib.decDigits (nP (10*n+(c.toNat-48)) r)=_;rw[ab3 r _ (by omega) ao.2,aun n (c.toNat-48) aV (by omega),e];simp
theorem Tz (u:Nat):∃c t,Lib.decDigits u=c::t/\gL c=true/\(1<=u->c≠48):=by
 induction u using Nat.strongRecOn with
 |_ u ih=>
  rw[Lib.decDigits];by_cases h:u<10
  .rw[dif_pos h];refine⟨_,_,rfl,?_,?_⟩
   .have:∀i:Fin 10,gL (UInt8.ofNat (48+i.val))=true:=by decide
    exact this ⟨u,h⟩
   .have:∀i:Fin 10,1<=i.val->UInt8.ofNat (48+i.val)≠48:=by decide
    exact this ⟨u,h⟩
  .rw[dif_neg h];obtain⟨c,t,h1,af,ay⟩:=ih (u/10) (by omega);exact⟨c,t++_,by rw[h1];rfl,af,λ_=>ay (by omega)⟩
theorem ab4 (c:UInt8) (r:aAc) (ao:(c::r).all gL=true):Lib.decDigits (nd (c::r))=c::r↔(c≠48\/r=[]):=by
 simp only[List.all_cons,Bool.and_eq_true]at ao;have au:=ao.1;have e:=ab1 c ao.1;simp only[gL,Bool.and_eq_true,decide_eq_true_eq]at au;have aB:nd (c::r)=nP (c.toNat-48) r:=by
  show nP (10*0+(c.toNat-48)) r=_;rw[Nat.mul_zero,Nat.zero_add]
 rw[aB];by_cases oW:c=48
 .subst oW;constructor
  .intro h;cases r with
   |nil=>exact .inr rfl
   |cons x t=>
    exfalso;obtain⟨xV,Pc,h1,af,ay⟩:=Tz (nP ((48:UInt8).toNat-48) (x::t));rw[h1]at h;injection h with a_ b1;by_cases dn:1<=nP ((48:UInt8).toNat-48) (x::t)
    .exact ay dn a_
    .have a7:nP ((48:UInt8).toNat-48) (x::t)=0:=by omega
     rw[a7,Lib.decDigits,dif_pos (by omega)]at h1;injection h1 with _ dc;rw[<-dc]at b1;cases b1
  .rintro(h|rfl)
   .exact(h rfl).elim
   .show Lib.decDigits 0=_;rw[Lib.decDigits,dif_pos (by omega)];rfl
 .have h1:1<=c.toNat-48:=by
   rcases Nat.lt_or_ge 48 c.toNat with h|h
   .omega
   .exact(oW (UInt8.toNat_inj.1 (by rw[show(48:UInt8).toNat=48 from rfl];omega))).elim
  refine⟨λ_=>.inl oW,λ_=>?_⟩;rw[ab3 r _ h1 ao.2,Lib.decDigits,dif_pos (by omega),e];rfl
theorem TA (d:aAc) (h:d.all gL=true) (hl:d.length<=18):nd d<10^18:=by
 have:=abX d 0 0 h (by omega);have af:(10:Nat)^(0+d.length)<=10^18:=Nat.pow_le_pow_right (by omega) (by omega);exact Nat.lt_of_lt_of_le this af
theorem TB (d:aAc) (hl:d.length<=18):Lib.parseUintB 64 d=if d≠[]/\d.all gL=true then .ok (nd d)else H_:=by
 unfold Lib.parseUintB;by_cases h:d=[]
 .rw[if_pos h,if_neg (λbL=>bL.1 h)];rfl
 .rw[if_neg h,show(2^64-1:Nat)=18446744073709551615 from rfl,ab2 d 0 0 (by omega) (by omega)];by_cases ao:d.all gL=true
  .rw[if_pos ao,if_pos ⟨h,ao⟩];rfl
  .rw[if_neg ao,if_neg (λbL=>ao bL.2)]
def vq (s:aAc):Int×Bool:=match Lib.parseIntB 64 s with
 | .ok v=>if Lib.itoa v=s then(v,true)else(0,false)
 |_=>(0,false)
theorem TC {k:Nat} {d:aAc} (h:¬(d≠[]/\d.all gL=true)):qo k d=(0,false):=by
 unfold qo;rw[if_neg (λbL=>h ⟨bL.1,bL.2.2.1⟩)]
theorem ab5 {k:Nat} {d:aAc} (h1:d.head? =some 48) (af:1<d.length+k):qo k d=(0,false):=by
 unfold qo;rw[if_neg (λbL=>bL.2.2.2 ⟨h1,af⟩)]
theorem ab6 {k:Nat} {d:aAc} (h:d≠[]/\d.length<=18/\d.all gL=true/\¬(d.head? =some 48/\1<d.length+k)):qo k d=(if k=1 then-(nd d:Int)else nd d,true):=by
 unfold qo;rw[if_pos h]
theorem aop (s:aAc) (h:(if s.head? =some 45 then s.tail else s).length<=18):Lib.parseIntB 64 s≠.range/\vq s=kp s:=by
 unfold vq kp;cases s with
 |nil=>exact⟨by simp[Lib.parseIntB],by simp[Lib.parseIntB,qo]⟩
 |cons c r=>
  by_cases TD:c=45
  .subst TD;rw[if_pos (show(45::r).head? =some 45 from rfl)]at h⊢;simp only[List.tail_cons]at h⊢;have yP:(45:UInt8).toNat=45:=rfl;simp only[Lib.parseIntB,yP,or_true,if_true];rw[TB r h];by_cases aR:r≠[]/\r.all gL=true
   .rw[if_pos aR];have eA:=TA r aR.2 h;have zB:(2:Nat)^(64-1)=9223372036854775808:=by decide
    simp only[not_true,false_and,if_false,zB,true_and];rw[if_neg (by omega)];refine⟨by simp,?_⟩;simp only;obtain⟨x,t,rfl⟩:∃x t,r=x::t:=by
     cases r with
     |nil=>exact(aR.1 rfl).elim
     |cons x t=>exact⟨x,t,rfl⟩
    have Ia:=ab4 x t aR.2;by_cases oW:x=48
    .rw[ab5 (by rw[oW];rfl) (by simp)];rw[if_neg];intro aj;by_cases a7:nd (x::t)=0
     .rw[a7]at aj;have iq:Lib.decDigits 0=[48]:=by rw[Lib.decDigits,dif_pos (by omega)];rfl
      simp[Lib.itoa,iq]at aj
     .unfold Lib.itoa at aj;rw[if_pos (by omega)]at aj;injection aj with _ aj;rw[show(-(nd (x::t):Int)).natAbs=nd (x::t) by omega]at aj;obtain⟨xV,Pc,gP,gA,je⟩:=Tz (nd (x::t));rw[gP]at aj;injection aj with Fi _;exact je (by omega) (Fi.trans oW)
    .have ahF:1<=nd (x::t):=by
      have:=(Ia.2 (.inl oW))
      rcases eq_zero_or_pos (nd (x::t))with a7|a7
      .rw[a7,Lib.decDigits,dif_pos (by omega)]at this;injection this with this _;exact(oW this.symm).elim
      .exact a7
     rw[ab6 ⟨by simp,h,aR.2,λbL=>oW (some.inj bL.1)⟩];rw[if_pos]
     .simp
     .unfold Lib.itoa;rw[if_pos (by omega),show(-(nd (x::t):Int)).natAbs=nd (x::t) by omega,Ia.2 (.inl oW)]
   .rw[if_neg aR,TC aR];exact⟨by simp[H_,Lib.parseUintB],rfl⟩
  .have kz:¬((c::r).head? =some 45):=λe=>TD (some.inj e);rw[if_neg kz]at h⊢;have n45:c.toNat≠45:=λe=>TD (UInt8.toNat_inj.1 (by rw[show(45:UInt8).toNat=45 from rfl];exact e));have zB:(2:Nat)^(64-1)=9223372036854775808:=by decide
   by_cases ab7:c.toNat=43
   .simp only[Lib.parseIntB,ab7,true_or,if_true];have ab8:r.length<=18:=by simp at h;omega
    rw[TB r ab8];have nU:qo 0 (c::r)=(0,false):=TC λbL=>by
     have:=bL.2;simp only[List.all_cons,Bool.and_eq_true]at this;have:=this.1;simp only[gL,Bool.and_eq_true,decide_eq_true_eq]at this;omega
    rw[nU];by_cases aR:r≠[]/\r.all gL=true
    .rw[if_pos aR];have eA:=TA r aR.2 ab8;simp only[show¬((43:Nat)=45)from by decide,not_false_eq_true,true_and,false_and,if_false,zB];rw[if_neg (by omega)];refine⟨by simp,?_⟩;simp only;rw[if_neg];intro aj;unfold Lib.itoa at aj;rw[if_neg (by omega),Int.toNat_natCast]at aj;obtain⟨xV,Pc,gP,gA,_⟩:=Tz (nd r);rw[gP]at aj;injection aj with aj _;rw[aj]at gA;simp only[gL,Bool.and_eq_true,decide_eq_true_eq]at gA;omega
    .rw[if_neg aR];exact⟨by simp[H_,Lib.parseUintB],rfl⟩
   .simp only[Lib.parseIntB,ab7,n45,_root_.or_self,if_false];rw[TB (c::r) h];by_cases aR:(c::r)≠[]/\(c::r).all gL=true
    .rw[if_pos aR];have eA:=TA (c::r) aR.2 h;simp only[not_false_eq_true,true_and,false_and,if_false,zB];rw[if_neg (by omega)];refine⟨by simp,?_⟩;simp only;have Ia:=ab4 c r aR.2;have auo:Lib.itoa (nd (c::r):Int)=Lib.decDigits (nd (c::r)):=by
      unfold Lib.itoa;rw[if_neg (by omega),Int.toNat_natCast]
     rw[auo];by_cases Ib:c≠48\/r=[]
     .rw[if_pos (Ia.2 Ib),ab6 ⟨by simp,h,aR.2,λbL=>by
       rcases Ib with h1|h1
       .exact h1 (some.inj bL.1)
       .subst h1;simp at bL⟩]
      simp
     .have oW:c=48:=by
       by_cases q:c=48
       .exact q
       .exact(Ib (.inl q)).elim
      have dP:r≠[]:=λq=>Ib (.inr q);rw[if_neg (λbL=>Ib (Ia.1 bL)),ab5 (by rw[oW];rfl) (by
       cases r with
       |nil=>exact(dP rfl).elim
       |cons x t=>simp)]
    .rw[if_neg aR,TC aR];exact⟨by simp[H_,Lib.parseUintB],rfl⟩
theorem join_one (x s:aAc):jQ [x] s=x:=by simp[jQ,List.intercalate,List.intersperse]
theorem join_cons (x y:aAc) (r:aAb) (s:aAc):jQ (x::y::r) s=x++(s++jQ (y::r) s):=by simp[jQ,List.intercalate,List.intersperse]
theorem ab9 (s:aAc):∀(l:aAb) (y:aAc),l≠[]->jQ (l++[y]) s=jQ l s++(s++y)
 |[],_,h=>(h rfl).elim
 |[x],y,_=>by rw[List.singleton_append,join_cons,join_one,join_one]
 |x::z::r,y,_=>by
  rw[List.cons_append,List.cons_append,join_cons,join_cons,<-List.cons_append,ab9 s (z::r) y (by simp)];simp only[List.append_assoc]
theorem Ic (c:UInt8) (k:Nat):∀l:aAb,(∀x∈l,x.length<=k)->(jQ l [c]).length<=l.length*(k+1)
 |[],_=>by simp[jQ,List.intercalate,List.intersperse]
 |[x],h=>by rw[join_one];have:=h x (by simp);simp only[List.length_cons,List.length_nil];omega
 |x::y::r,h=>by
  rw[join_cons];have h1:=h x (by simp);have af:=Ic c k (y::r) λz b3=>h z (by simp[b3]);simp only[List.length_append,List.length_cons,List.length_nil,Nat.add_mul]at af⊢;omega
theorem Ba (n:Nat) (h:n<100):r5 (n:Int)=some (jn n):=by
 unfold r5 C8;first
 |(rw[if_pos ⟨by omega,by omega,rfl⟩];rfl)
 |(rw[if_pos ⟨by omega,by omega,rfl⟩]
   unfold G1 jn yz;rw[if_neg (by omega),Int.toNat_natCast];by_cases h1:n<10
   .rw[dif_pos h1,if_pos h1];rfl
   .unfold yz;rw[dif_neg h1,if_neg h1,dif_pos (by omega)];rfl)
theorem xk (n:Nat):(jn n).length<=2:=by unfold jn;split<;>simp
theorem aup {α γ β:Type} {L:Nat->List γ->Int->Option β} (a:List α) (t:α->γ) (w:List γ) (hw:w.length=a.length) (E:List γ->Option β)
  (a7:∀m v,L (m+1) v (a.length:Int)=E v)
  (ae:∀i (h:i<a.length) m v,v.length=a.length->L (m+1) v (i:Int)=L m (v.set i (t a[i])) ((i+1:Nat):Int)):lim (λm=>L m w 0)=E (a.map t):=by
 have key:∀i,i<=a.length->∀m,a.length-i<m->L m ((a.take i).map t++w.drop i) (i:Int)=E (a.map t):=by
  refine down a.length ?_ ?_
  .intro m hm;obtain⟨m,rfl⟩:∃j,m=j+1:=⟨m-1,by omega⟩
   rw[a7,List.take_length,List.drop_of_length_le (by omega),List.append_nil]
  .intro i aj ih m hm;obtain⟨m,rfl⟩:∃j,m=j+1:=⟨m-1,by omega⟩
   have e:((a.take i).map t).length=i:=by simp;omega
   rw[ae i aj m _ (by simp only[List.length_append,e,List.length_drop];omega),<-ih m (by omega)];congr 1;rw[List.set_append_right i _ (by rw[e];omega),e,Nat.sub_self,drop_cons w i (by omega),List.set_cons_zero,List.take_succ_eq_append_getElem aj,List.map_append];simp
 refine e0 (a.length+1) λm hm=>?_;have:=key 0 (by omega) m (by omega);simpa using this
def kv (n:Int):aAc:=jn n.toNat
theorem Ie (n:Int):(kv n).length<=2:=xk _
theorem auq {x:Int} (h:0<=x/\x<=63):r5 x=some (kv x):=by
 have:=Ba x.toNat (by omega)
 rwa [Int.toNat_of_nonneg h.1]at this
theorem ab_ (a:aAe) (h:a.length<=64) (aB:∀x∈a,0<=x/\x<=63):Ar a [44]=some (jQ (a.map kv) [44]):=by
 unfold Ar;rw[tK 16 (by omega) (by omega)];simp only[bind_some,Int.toNat_natCast];have bE:strings_Join (a.map kv) [44]=some (jQ (a.map kv) [44]):=by
  unfold strings_Join;have:=Ic 44 2 (a.map kv) λx aq=>by
   obtain⟨y,_,rfl⟩:=List.mem_map.1 aq;exact Ie y
  rw[List.length_map]at this;rw[if_pos ⟨by rw[List.length_map];omega,by omega⟩]
 rw[aup (L:=C9 a [44]) a kv (List.replicate a.length []) (by simp) (λv=>(strings_Join v [44]).bind λaZ=>some aZ) (λm v=>?_) (λi aj m v hl=>?_),bE]
 .rfl
 .simp only[C9,QR];rw[ee (Nat.le_refl _)];rfl
 .simp only[C9,QR];rw[ek aj,dO _ i aj,ed i _ aj (by omega),dO v i (by omega)];simp only[cond_true,bind_some];rw[auq (aB _ (List.getElem_mem aj))];simp only[bind_some,Int.toNat_natCast]
def small (c:UInt8):Bool:=decide (97<=(c.toNat:Int))&&decide ((c.toNat:Int)<=122)
def digit (c:UInt8):Bool:=decide (48<=(c.toNat:Int))&&decide ((c.toNat:Int)<=57)
def hB (s:aAc):Bool:=decide (s.length<=10)&&(match s with|[]=>false|c::r=>small c&&r.all λc=>small c||digit c)
theorem D5 (s:aAc):yo s=some (hB s):=by
 unfold yo;cases s with
 |nil=>rfl
 |cons c r=>
  have gb:((c::r)==([]:aAc))=false:=rfl;rw[gb];simp only[cond_false];by_cases k2:10<(c::r).length
  .have:decide ((10:Int)<((c::r).length:Int))=true:=by simp at k2⊢;omega
   rw[this];have af:decide ((c::r).length<=10)=false:=by simp at k2⊢;omega
   simp only[hB,af];rfl
  .have:decide ((10:Int)<((c::r).length:Int))=false:=by simp at k2⊢;omega
   rw[this];have af:decide ((c::r).length<=10)=true:=by simp at k2⊢;omega
   rw[H5];simp only[cond_false,bind_some,Ge];simp only[hB,af,Bool.true_and];show cond (!small c) _ _=_;cases ae:small c with
   |false=>rfl
   |true=>
    simp only[Bool.not_true,cond_false];rw[qA (n:=(c::r).length) (λi=>some (((c::r).drop i).all λc=>small c||digit c))]
    .simp[ae]
    .intro m;simp only[Gf,Pv];rw[ee (Nat.le_refl _)];simp
    .intro i aj m ih;simp only[Gf,Pv];rw[ek aj,dO _ i aj,ed i _ aj (by omega),ih,drop_cons _ i aj];simp only[cond_true,bind_some,Ge,Cf,List.all_cons];show cond (!small _) (cond (!digit _) _ _) _=_;cases small (c::r)[i]<;>cases digit (c::r)[i]<;>rfl
theorem aca (s:aAc) (ae:s.length<=140737488355328):GH s=some (hB s):=by
 unfold GH;have bC:∀m,s.length-1<m->1<=s.length->yx s m ((1:Nat):Int)=some (((s.drop 1).all λc=>small c||digit c)&&(decide (1<=(s.length:Int))&&decide ((s.length:Int)<=10))):=by
  intro m hm h1;refine down s.length (P:=λi=>1<=i->∀m,s.length-i<m->yx s m (i:Int)=some (((s.drop i).all λc=>small c||digit c)&&(decide (1<=(s.length:Int))&&decide ((s.length:Int)<=10)))) ?_ ?_ 1 h1 (Nat.le_refl _) m hm
  .intro _ m hm;obtain⟨k,rfl⟩:∃k,m=k+1:=⟨m-1,by omega⟩
   simp only[yx,Kv];rw[ee (Nat.le_refl _)];simp
  .intro i aj ih Fi m hm;obtain⟨k,rfl⟩:∃k,m=k+1:=⟨m-1,by omega⟩
   simp only[yx,Kv];rw[ek aj,dO _ i aj,ed i _ aj (by omega),ih (by omega) k (by omega),drop_cons _ i aj];have e:((i:Int)==0)=false:=by simp;omega
   rw[e];simp only[cond_true,cond_false,bind_some,Qi,List.all_cons];show cond (!small _) (cond (!digit _) _ _) _=_;cases small s[i]<;>cases digit s[i]<;>rfl
 refine e0 (s.length+1) λm hm=>?_;obtain⟨k,rfl⟩:∃k,m=k+1:=⟨m-1,by omega⟩
 simp only[yx,Kv];cases s with
 |nil=>rfl
 |cons c r=>
  have hk:=bC k (by simp at hm⊢;omega) (by simp);rw[show((1:Nat):Int)=1 from rfl]at hk;rw[A5 (by simp),H5,atO,hk];have e:((0:Int)==0)=true:=rfl;rw[e];simp only[cond_true,hB];show cond (!small c) _ _=_;have h1:decide (1<=((c::r).length:Int))=true:=by simp;omega
  have af:decide (((c::r).length:Int)<=10)=decide ((c::r).length<=10):=by
   by_cases h:(c::r).length<=10<;>simp at h⊢<;>omega
  rw[h1,af];cases small c with
  |false=>simp
  |true=>simp[Bool.and_comm]
def Bb (ws:aAb):Bool:=ws.all λw=>(kp w).2
def tN (ws:aAb):aAe:=ws.map λw=>(kp w).1
def Bc (x:Int):Bool:=decide (0<=x)&&decide (x<=63)
theorem aur (ws:aAb) (h:ws.length<=1048577):K1 ws=some (if Bb ws=true then(tN ws,true)else([],false)):=by
 have key:∀i,i<=ws.length->∀m,ws.length-i<m->∀v:aAe,v.length=i->
   Dh ws m v (i:Int)=some (if Bb (ws.drop i)=true then(v++tN (ws.drop i),true)else([],false)):=by
  refine down ws.length ?_ ?_
  .intro m hm v aB;obtain⟨m,rfl⟩:∃j,m=j+1:=⟨m-1,by omega⟩
   simp only[Dh,Q6];rw[ee (Nat.le_refl _),List.drop_length];simp[Bb,tN]
  .intro i aj ih m hm v aB;obtain⟨m,rfl⟩:∃j,m=j+1:=⟨m-1,by omega⟩
   simp only[Dh,Q6,K0];rw[ek aj,cond_true,dO ws i aj,bind_some,bind_some,drop_cons ws i aj];simp only[Bb,tN,List.all_cons,List.map_cons];cases ao:(kp ws[i]).2
   .simp
   .simp only[Bool.not_true,cond_false,Bool.true_and];rw[jN (by omega) (by omega),bind_some,ed i _ aj (by omega),ih m (by omega) _ (by simp[aB])];simp[Bb,tN]
 unfold K1;refine e0 (ws.length+1) λm hm=>?_;have:=key 0 (by omega) m (by omega) [] rfl;simpa using this
def xl (ws:aAb):Bool:=ws.all λw=>(kp w).2&&Bc (kp w).1
theorem aus (ws:aAb) (h:ws.length<=1048577) (hw:∀w∈ws,w.length<=1048576):
  lim (λn=>Ag ws n [] 0)=some (if xl ws=true then tN ws else [],xl ws&&decide (ws.length<=2)):=by
 have key:∀i,i<=ws.length->∀m,ws.length-i<m->∀v:aAe,v.length=i->
   Ag ws m v (i:Int)=some (if xl (ws.drop i)=true then v++tN (ws.drop i)else [],xl (ws.drop i)&&decide (ws.length<=2)):=by
  refine down ws.length ?_ ?_
  .intro m hm v aB;obtain⟨m,rfl⟩:∃j,m=j+1:=⟨m-1,by omega⟩
   simp only[Ag,P3];rw[ee (Nat.le_refl _),List.drop_length,cond_false];have e:decide ((v.length:Int)<=2)=decide (ws.length<=2):=by rw[decide_eq_decide];omega
   rw[e];simp[xl,tN]
  .intro i aj ih m hm v aB;obtain⟨m,rfl⟩:∃j,m=j+1:=⟨m-1,by omega⟩
   simp only[Ag,P3];rw[ek aj,cond_true,dO ws i aj,bind_some,aul _ (hw _ (List.getElem_mem aj)),bind_some,drop_cons ws i aj];have aut:xl (ws[i]::ws.drop (i+1))=((kp ws[i]).2&&Bc (kp ws[i]).1&&xl (ws.drop (i+1))):=rfl;rw[aut];by_cases ao:(kp ws[i]).2=true
   .simp only[ao,Bool.not_true,cond_false,Bool.true_and,ml,bind_some];by_cases iU:Bc (kp ws[i]).1=true
    .have Ig:=iU;unfold Bc at Ig;rw[Ig,iU];simp only[Bool.not_true,cond_false,Bool.true_and];rw[jN (by omega) (by omega),bind_some,ed i _ aj (by omega),ih m (by omega) _ (by simp[aB])];simp only[tN,List.append_assoc,List.map_cons,List.singleton_append]
    .have acb:Bc (kp ws[i]).1=false:=by simpa using iU
     have Ig:=acb;unfold Bc at Ig;rw[Ig,acb];simp
   .have hr:(kp ws[i]).2=false:=by simpa using ao
    simp[hr]
 refine e0 (ws.length+1) λm hm=>?_;have:=key 0 (by omega) m (by omega) [] rfl;simpa using this
theorem Ih (s:aAc) (ae:s.length<=1048576):(40∉s->Ad s=some (s.length:Int))/\∀p q,s=p++40::q->40∉p->Ad s=some (p.length:Int):=by
 have step:∀i (aj:i<s.length) m,yt s (m+1) (i:Int)=cond (s[i]==40) (some (i:Int)) (yt s m ((i+1:Nat):Int)):=by
  intro i aj m;simp only[yt,PX];rw[ek aj,cond_true,dO s i aj,bind_some,ed i _ aj (by omega)];have e:((s[i].toNat:Int)==40)=(s[i]==40):=by
   rw[Bool.eq_iff_iff];simp only[beq_iff_eq];constructor
   .intro h;exact UInt8.toNat_inj.1 (by rw[show(40:UInt8).toNat=40 from rfl];omega)
   .intro h;rw[h];rfl
  rw[e]
 constructor
 .intro h;unfold Ad;rw[qA (n:=s.length) (λ_=>some (s.length:Int))]
  .intro m;simp only[yt,PX];rw[ee (Nat.le_refl _)];rfl
  .intro i aj m ih;rw[step i aj m,ih];have:(s[i]==40)=false:=by
    simp only[beq_eq_false_iff_ne,ne_eq];intro e;exact h (e▸List.getElem_mem aj)
   rw[this];rfl
 .rintro p q rfl aw;unfold Ad;refine e0 (p.length+1) λm hm=>?_;have key:∀k,k<=p.length->∀m,k<m->yt (p++40::q) m ((p.length-k:Nat):Int)=some (p.length:Int):=by
   intro k;induction k with
   |zero=>
    intro _ m hm;obtain⟨m,rfl⟩:∃j,m=j+1:=⟨m-1,by omega⟩
    rw[Nat.sub_zero,step p.length (by simp) m];have:((p++40::q)[p.length]'(by simp))=40:=by simp
    rw[this];rfl
   |succ k ih=>
    intro hk m hm;obtain⟨m,rfl⟩:∃j,m=j+1:=⟨m-1,by omega⟩
    rw[step (p.length-(k+1)) (by simp;omega) m];have:((p++40::q)[p.length-(k+1)]'(by simp;omega)==40)=false:=by
     simp only[beq_eq_false_iff_ne,ne_eq];rw[List.getElem_append_left (by omega)];intro e;exact aw (e▸List.getElem_mem (by omega))
    rw[this,cond_false,show p.length-(k+1)+1=p.length-k by omega];exact ih (by omega) m (by omega)
  have:=key p.length (Nat.le_refl _) m (by omega);simpa using this
def nm (t:bX):Nat:=if t.Kind=2 then 2 else if t.Kind=3 then 1 else 0
theorem Mb (t:bX):nm t<=2:=by unfold nm;split<;>(try split)<;>omega
theorem acd (t:bX):cond (t.Kind==2) (some 2) (cond (t.Kind==3) (some 1) (some 0))=some (nm t:Int):=by
 unfold nm;by_cases af:t.Kind=2
 .simp[af]
 .by_cases ay:t.Kind=3
  .simp[ay]
  .have aT:(t.Kind==2)=false:=by simpa using af
   have aU:(t.Kind==3)=false:=by simpa using ay
   rw[aT,aU,if_neg af,if_neg ay];rfl
def sx (n fP aj:Int):Bool:=decide (fP<=n)&&decide (n<=aj)
def pn (t:bX) (v:Int):Bool:=cond (t.Kind==0) (sx t.Value 0 63) (cond (t.Kind==1) (sx t.Value 0 (v-1)) (cond (t.Kind==2) (sx t.Value 0 8) (cond (t.Kind==3) (t.Value==0) false)))
def sy (v:Int):aAv->Nat->Bool
 |[],k=>k==0
 |t::r,k=> !(k==0)&&(pn t v&&sy v r (k+nm t-1))
def p3 (e:aAv) (v most:Int):Bool:=decide ((e.length:Int)<=most)&&sy v e 1
theorem auu (t:bX) (v:Int) (aB: -1000000<=v/\v<=1000000):J0 t v=some (pn t v):=by
 unfold J0 ml pn sx;rw[eF (v-1) (by omega)];cases t.Kind==0<;>cases t.Kind==1<;>cases t.Kind==2<;>cases t.Kind==3<;>rfl
theorem auv (t:bX) (v:Int) (aB: -1000000<=v/\v<=1000000):Kz t v=some (pn t v):=by
 unfold Kz GM la pn sx;rw[eF (v-1) (by omega)];cases t.Kind==0<;>cases t.Kind==1<;>cases t.Kind==2<;>cases t.Kind==3<;>rfl
theorem ace (t:bX):J1 t=some (nm t:Int):=acd t
theorem acf (t:bX):KA t=some (nm t:Int):=acd t
theorem TE {k a:Nat} (hk:1<=k) (py:k<=100000000) (bs:a<=2):IntKind.i64.wrap ((k:Int)+IntKind.i64.wrap ((a:Int)-1))=((k+a-1:Nat):Int):=by
 rw[eF ((a:Int)-1) (by omega),eF _ (by omega)];omega
theorem D6 (k:Nat):((k:Int)==0)=(k==0):=by
 by_cases h:k=0
 .subst h;rfl
 .have h1:((k:Int)==0)=false:=by simp;omega
  have af:(k==0)=false:=by simpa using h
  rw[h1,af]
theorem auw (e:aAv) (v most:Int) (aB: -1000000<=v/\v<=1000000) (he:e.length<=1048576):J2 e v most=some (p3 e v most):=by
 unfold J2 p3;by_cases hm:(e.length:Int)<=most
 .have d1:decide (most<(e.length:Int))=false:=by simp;omega
  have d2:decide ((e.length:Int)<=most)=true:=by simpa using hm
  rw[d1,d2,cond_false,Bool.true_and];have key:∀i,i<=e.length->∀(k:Nat) m,k<=1+2*i->e.length-i<m->Ck e v m (k:Int) (i:Int)=some (sy v (e.drop i) k):=by
   refine down e.length ?_ ?_
   .intro k m _ hm;obtain⟨m,rfl⟩:∃j,m=j+1:=⟨m-1,by omega⟩
    simp only[Ck,PA];rw[ee (Nat.le_refl _),List.drop_of_length_le (Nat.le_refl _),D6];rfl
   .intro i aj ih k m hk hm;obtain⟨m,rfl⟩:∃j,m=j+1:=⟨m-1,by omega⟩
    simp only[Ck,PA];rw[ek aj,dO _ i aj,ed i _ aj (by omega),drop_cons e i aj,D6];simp only[cond_true,bind_some,auu _ v aB,ace,sy];by_cases a7:k=0
    .subst a7;rfl
    .have ab:(k==0)=false:=by simpa using a7
     have bs:=Mb e[i];rw[ab,TE (by omega) (by omega) bs,ih _ m (by omega) (by omega)];simp only[cond_false,Bool.not_false,Bool.true_and];cases pn e[i] v<;>rfl
  refine e0 (e.length+1) λm hm=>?_;have:=key 0 (by omega) 1 m (by omega) (by omega);simpa using this
 .have d1:decide (most<(e.length:Int))=true:=by simp;omega
  have d2:decide ((e.length:Int)<=most)=false:=by simpa using hm
  rw[d1,d2];rfl
theorem auy (e:aAv) (v most:Int) (aB:0<=v/\v<=29) (azY:1<=most/\most<=60) (he:e.length<=1048576):KB e v most=some (p3 e v most):=by
 unfold KB la p3;have d1:(!(decide (0<=v)&&decide (v<=29)))=false:=by simp;omega
 have d2:(!(decide (1<=most)&&decide (most<=60)))=false:=by simp;omega
 simp only[bind_some,d1,d2,cond_false];by_cases h1:e.length=0
 .have:e=[]:=List.length_eq_zero_iff.1 h1;subst this;simp[sy]
 .by_cases hm:(e.length:Int)<=most
  .have d3:(!(decide ((1:Int)<=(e.length:Int))&&decide ((e.length:Int)<=most)))=false:=by simp;omega
   have d4:decide ((e.length:Int)<=most)=true:=by simpa using hm
   rw[d3,d4,cond_false,Bool.true_and];have key:∀i,i<=e.length->∀(k:Nat) m,k<=1+2*i->e.length-i<m->CZ e v m (k:Int) (i:Int)=some (sy v (e.drop i) k):=by
    refine down e.length ?_ ?_
    .intro k m _ hm;obtain⟨m,rfl⟩:∃j,m=j+1:=⟨m-1,by omega⟩
     simp only[CZ,Qr];rw[ee (Nat.le_refl _),List.drop_of_length_le (Nat.le_refl _),D6];rfl
    .intro i aj ih k m hk hm;obtain⟨m,rfl⟩:∃j,m=j+1:=⟨m-1,by omega⟩
     simp only[CZ,Qr];rw[ek aj,dO _ i aj,ed i _ aj (by omega),drop_cons e i aj,D6];simp only[cond_true,bind_some,auv _ v (by omega),acf,sy];by_cases a7:k=0
     .subst a7;rfl
     .have ab:(k==0)=false:=by simpa using a7
      have bs:=Mb e[i];rw[ab,TE (by omega) (by omega) bs,ih _ m (by omega) (by omega)];simp only[cond_false,Bool.not_false,Bool.true_and];cases pn e[i] v<;>rfl
   refine e0 (e.length+1) λm hm=>?_;have:=key 0 (by omega) 1 m (by omega) (by omega);simpa using this
  .have d3:(!(decide ((1:Int)<=(e.length:Int))&&decide ((e.length:Int)<=most)))=true:=by simp;omega
   have d4:decide ((e.length:Int)<=most)=false:=by simpa using hm
   rw[d3,d4];rfl
def eK (p:b8):Nat:=if p.Kind=1\/p.Kind=3\/p.Kind=4 then 1 else if p.Kind=2 then 2 else 0
theorem D7 (p:b8):eK p<=2:=by unfold eK;split<;>(try split)<;>omega
theorem acg (p:b8) (K:Bool->aAh) (hK:∀b,K b=cond b (some 1) (cond (p.Kind==2) (some 2) (some 0))):
  cond (p.Kind==1) (K true) (cond (p.Kind==3) (K true) (K (p.Kind==4)))=some (eK p:Int):=by
 simp only[hK,eK];by_cases h1:p.Kind=1
 .simp[h1]
 .by_cases ay:p.Kind=3
  .simp[ay]
  .by_cases a_:p.Kind=4
   .simp[a_]
   .by_cases af:p.Kind=2
    .simp[af]
    .have aK:(p.Kind==1)=false:=by simpa using h1
     have aU:(p.Kind==3)=false:=by simpa using ay
     have b_:(p.Kind==4)=false:=by simpa using a_
     have aT:(p.Kind==2)=false:=by simpa using af
     simp[aK,aU,b_,aT,h1,ay,a_,af]
theorem ach (p:b8):Gh p=some (eK p:Int):=by
 unfold Gh;exact acg p (Gg p) λ_=>rfl
theorem aci (p:b8):GK p=some (eK p:Int):=by
 unfold GK;exact acg p (GJ p) λ_=>rfl
def y3:aAw->Nat->Bool
 |[],k=>k==0
 |p::r,k=> !(k==0)&&y3 r (k+eK p-1)
def fm:aAw->Nat->Option Nat
 |[],0=>some 0
 |[],_+1=>none
 |_::_,0=>some 0
 |p::r,k+1=>(fm r (k+eK p)).map (·+1)
theorem Bd (l:aAw):fm l 0=some 0:=by cases l<;>rfl
theorem sA {p:b8} {r:aAw} {a k:Nat}:fm (p::r) (a+1)=some k↔∃dr,fm r (a+eK p)=some dr/\k=dr+1:=by
 simp only[fm,map_eq_some_iff];constructor
 .rintro⟨dr,h,rfl⟩;exact⟨dr,h,rfl⟩
 .rintro⟨dr,h,rfl⟩;exact⟨dr,h,rfl⟩
theorem vB:∀{l:aAw} {a k:Nat},fm l a=some k->a<=k/\k<=l.length
 |[],0,k,h=>by simp only[fm,some.injEq]at h;subst h;simp
 |[],a+1,k,h=>by simp[fm]at h
 |_::_,0,k,h=>by simp only[fm,some.injEq]at h;subst h;simp
 |p::r,a+1,k,h=>by
  obtain⟨dr,bL,rfl⟩:=sA.1 h;have:=vB bL;simp only[List.length_cons];omega
theorem TF:∀(l:aAw) (k:Nat),y3 l k=(fm l k==some l.length)
 |[],0=>rfl
 |[],k+1=>rfl
 |p::r,0=>rfl
 |p::r,k+1=>by
  have e:k+1+eK p-1=k+eK p:=by omega
  simp only[y3,e,TF r (k+eK p)];have gb:(k+1==0)=false:=rfl;rw[gb];simp only[Bool.not_false,Bool.true_and,fm];cases fm r (k+eK p)with
  |none=>rfl
  |some n=>simp
theorem D8:∀{l:aAw} {a b k:Nat},fm l (a+b)=some k->∃bV cn,fm l a=some bV/\fm (l.drop bV) b=some cn/\k=bV+cn
 |l,0,b,k,h=>⟨0,k,Bd l,by simpa using h,by omega⟩
 |[],a+1,b,k,h=>by rw[show a+1+b=(a+b)+1 by omega]at h;simp[fm]at h
 |p::r,a+1,b,k,h=>by
  rw[show a+1+b=(a+b)+1 by omega]at h;obtain⟨dr,bL,rfl⟩:=sA.1 h;rw[show a+b+eK p=(a+eK p)+b by omega]at bL;obtain⟨bV,cn,h1,af,rfl⟩:=D8 bL;exact⟨bV+1,cn,sA.2 ⟨bV,h1,rfl⟩,by simpa using af,by omega⟩
theorem acj:∀{l:aAw} {a k:Nat},fm l a=some k->∀i,i<k->∃m,1<=m/\fm (l.drop i) m=some (k-i)
 |[],0,k,h,i,aj=>by simp only[fm,some.injEq]at h;omega
 |[],a+1,k,h,i,aj=>by simp[fm]at h
 |_::_,0,k,h,i,aj=>by simp only[fm,some.injEq]at h;omega
 |p::r,a+1,k,h,i,aj=>by
  cases i with
  |zero=>exact⟨a+1,by omega,by simpa using h⟩
  |succ i=>
   obtain⟨dr,bL,rfl⟩:=sA.1 h;obtain⟨m,h1,af⟩:=acj bL i (by omega);exact⟨m,h1,by simp only[List.drop_succ_cons];rw[af];congr 1;omega⟩
theorem auz {l:aAw} {a k i:Nat} (h:fm l a=some k) (aj:i<k):∃e,fm (l.drop i) 1=some e/\i+e<=k/\1<=e:=by
 obtain⟨m,h1,af⟩:=acj h i aj;obtain⟨m,rfl⟩:∃j,m=1+j:=⟨m-1,by omega⟩
 obtain⟨bV,cn,ay,a_,b1⟩:=D8 af;have:=vB ay;exact⟨bV,ay,by omega,by omega⟩
theorem TG {k a:Nat} (hk:1<=k) (py:k<=100000000) (bs:a<=2):IntKind.i64.wrap ((k:Int)+IntKind.i64.wrap ((a:Int)-1))=((k+a-1:Nat):Int):=by
 rw[eF ((a:Int)-1) (by omega),eF _ (by omega)];omega
theorem auA (e:aAw) (he:e.length<=1048576):JY e=some ((decide (1<=e.length)&&decide (e.length<=20))&&y3 e 1):=by
 unfold JY;by_cases hm:1<=e.length/\e.length<=20
 .have d1:(((e.length:Int)==0)||decide ((20:Int)<(e.length:Int)))=false:=by
   rw[Bool.or_eq_false_iff,beq_eq_false_iff_ne,decide_eq_false_iff_not];omega
  have d2:(decide (1<=e.length)&&decide (e.length<=20))=true:=by simp;omega
  rw[d1,d2,cond_false,Bool.true_and];have key:∀i,i<=e.length->∀(k:Nat) m,k<=1+2*i->e.length-i<m->Cg e m (k:Int) (i:Int)=some (y3 (e.drop i) k):=by
   refine down e.length ?_ ?_
   .intro k m _ hm;obtain⟨m,rfl⟩:∃j,m=j+1:=⟨m-1,by omega⟩
    simp only[Cg,Pw];rw[ee (Nat.le_refl _),List.drop_of_length_le (Nat.le_refl _),D6];rfl
   .intro i aj ih k m hk hm;obtain⟨m,rfl⟩:∃j,m=j+1:=⟨m-1,by omega⟩
    simp only[Cg,Pw];rw[ek aj,dO _ i aj,ed i _ aj (by omega),drop_cons e i aj,D6];simp only[cond_true,bind_some,ach,y3];by_cases a7:k=0
    .subst a7;rfl
    .have ab:(k==0)=false:=by simpa using a7
     have bs:=D7 e[i];rw[ab,TG (by omega) (by omega) bs,ih _ m (by omega) (by omega)];simp only[cond_false,Bool.not_false,Bool.true_and]
  refine e0 (e.length+1) λm hm=>?_;have:=key 0 (by omega) 1 m (by omega) (by omega);simpa using this
 .have d1:(((e.length:Int)==0)||decide ((20:Int)<(e.length:Int)))=true:=by
   by_cases h:e.length=0
   .simp[h]
   .have:decide ((20:Int)<(e.length:Int))=true:=by simp;omega
    rw[this,Bool.or_true]
  have d2:(decide (1<=e.length)&&decide (e.length<=20))=false:=by
   rw[Bool.and_eq_false_iff,decide_eq_false_iff_not,decide_eq_false_iff_not];omega
  rw[d1,d2];rfl
def tO (i:Nat):Option Nat->Int
 |none=> -1
 |some n=>((i+n:Nat):Int)
theorem ack (d:a1) (ao:d.Body.length<=1048576) (i0:Nat) (a7:i0<=d.Body.length):GL d (i0:Int)=some (tO i0 (fm (d.Body.drop i0) 1)):=by
 unfold GL;have key:∀i,i<=d.Body.length->∀(k:Nat) m,k<=1+2*i->d.Body.length-i<m->CX d m (i:Int) (k:Int)=some (tO i (fm (d.Body.drop i) k)):=by
  refine down d.Body.length ?_ ?_
  .intro k m _ hm;obtain⟨m,rfl⟩:∃j,m=j+1:=⟨m-1,by omega⟩
   simp only[CX,Qm];rw[List.drop_of_length_le (Nat.le_refl _)];cases k with
   |zero=>rw[A9];simp[fm,tO]
   |succ k=>
    rw[A5 (succ_pos k)];have:decide ((d.Body.length:Int)<=(d.Body.length:Int))=true:=by simp
    rw[this];rfl
  .intro i aj ih k m hk hm;obtain⟨m,rfl⟩:∃j,m=j+1:=⟨m-1,by omega⟩
   simp only[CX,Qm];cases k with
   |zero=>rw[A9,Bd];simp[tO]
   |succ k=>
    have d1:decide ((d.Body.length:Int)<=(i:Int))=false:=by simp;omega
    rw[A5 (succ_pos k),d1,dO _ i aj,ed i _ aj (by omega),drop_cons _ i aj];simp only[cond_true,cond_false,bind_some,aci];have bs:=D7 d.Body[i];rw[TG (by omega) (by omega) bs,ih _ m (by omega) (by omega),show k+1+eK d.Body[i]-1=k+eK d.Body[i] by omega];simp only[fm];cases fm (d.Body.drop (i+1)) (k+eK d.Body[i])with
    |none=>rfl
    |some n=>simp only[map_some,tO];congr 2;omega
 refine e0 (d.Body.length+1) λm hm=>?_;refine down d.Body.length (P:=λ_=>True) trivial (λ_ _ _=>trivial) 0 (zero_le _)|>λ_=>?_;have bV:=key i0 a7 1 m (by omega) (by omega);simpa using bV
theorem acm (b:aAw) (ab:b.length<=1048576) (i0 n:Nat) (h:fm (b.drop i0) 1=some n):Gj b (i0:Int)=some ((i0+n:Nat):Int):=by
 unfold Gj;have a7:i0<b.length:=by
  have:=vB h;rw[List.length_drop]at this;omega
 have key:∀i,i<=b.length->∀(k n:Nat) m,k<=1+2*i->b.length-i<m->fm (b.drop i) k=some n->Ch b m (i:Int) (k:Int)=some ((i+n:Nat):Int):=by
  refine down b.length ?_ ?_
  .intro k n m _ hm he;obtain⟨m,rfl⟩:∃j,m=j+1:=⟨m-1,by omega⟩
   simp only[Ch,Py];rw[List.drop_of_length_le (Nat.le_refl _)]at he;cases k with
   |zero=>rw[A9];simp only[fm,some.injEq]at he;subst he;simp
   |succ k=>simp[fm]at he
  .intro i aj ih k n m hk hm he;obtain⟨m,rfl⟩:∃j,m=j+1:=⟨m-1,by omega⟩
   simp only[Ch,Py];cases k with
   |zero=>rw[Bd]at he;cases he;rw[A9];simp
   |succ k=>
    rw[drop_cons _ i aj]at he;obtain⟨Ny,qW,rfl⟩:=sA.1 he;rw[A5 (succ_pos k),dO _ i aj,ed i _ aj (by omega)];simp only[cond_true,bind_some,ach];have bs:=D7 b[i];rw[TG (by omega) (by omega) bs,show k+1+eK b[i]-1=k+eK b[i] by omega,ih _ Ny m (by omega) (by omega) qW];congr 2;omega
 refine e0 (b.length+1) λm hm=>?_;have bV:=key i0 (by omega) 1 n m (by omega) (by omega) h;simpa using bV
def below (p:b8) (s:dR):dR:=⟨if p.Kind=4 then s.scope+1 else s.scope,p.Kind==1⟩
def gX:aAw->aAD->aAD
 |[],_=>[]
 |_::_,[]=>[]
 |p::r,s::st=>s::gX r (List.replicate (eK p) (below p s)++st)
theorem auB (l:aAw):gX l []=[]:=by cases l<;>rfl
theorem Be:∀{l:aAw} {st:aAD} {k:Nat},fm l st.length=some k->(gX l st).length=k
 |[],[],k,h=>by simp only[List.length_nil,fm,some.injEq]at h;subst h;rfl
 |[],s::st,k,h=>by simp[fm]at h
 |p::r,[],k,h=>by simp only[List.length_nil,fm,some.injEq]at h;subst h;rfl
 |p::r,s::st,k,h=>by
  obtain⟨dr,bL,rfl⟩:=sA.1 h;simp only[gX,List.length_cons];rw[Be (k:=dr) (by rw[List.length_append,List.length_replicate,Nat.add_comm];exact bL)]
theorem TH:∀{l:aAw} {s1 s2:aAD} {k:Nat},fm l s1.length=some k->gX l (s1++s2)=gX l s1++gX (l.drop k) s2
 |[],[],s2,k,h=>by simp only[List.length_nil,fm,some.injEq]at h;subst h;rfl
 |[],s::st,s2,k,h=>by simp[fm]at h
 |p::r,[],s2,k,h=>by simp only[List.length_nil,fm,some.injEq]at h;subst h;simp[gX]
 |p::r,s::st,s2,k,h=>by
  obtain⟨dr,bL,rfl⟩:=sA.1 h;simp only[gX,List.cons_append,List.drop_succ_cons];rw[<-List.append_assoc,TH (k:=dr) (by rw[List.length_append,List.length_replicate,Nat.add_comm];exact bL)]
def patch (out:aAD) (i:Nat) (new:aAD):aAD:=out.take i++(new++out.drop (i+new.length))
theorem auC (out:aAD) (i:Nat):patch out i []=out:=by simp[patch]
theorem acn {out:aAD} {i:Nat} {new:aAD} (h:i+new.length<=out.length):(patch out i new).length=out.length:=by
 simp[patch];omega
theorem aco {out:aAD} {i j:Nat} {a b:aAD} (bE:j=i+a.length) (h:i+a.length+b.length<=out.length):patch (patch out i a) j b=patch out i (a++b):=by
 subst bE;unfold patch;have aK:(out.take i).length=i:=by rw[List.length_take];omega
 have t1:(out.take i++(a++out.drop (i+a.length))).take (i+a.length)=out.take i++a:=by
  rw[<-List.append_assoc,List.take_left' (by rw[List.length_append,aK])]
 have t2:(out.take i++(a++out.drop (i+a.length))).drop (i+a.length+b.length)=out.drop (i+a.length+b.length):=by
  rw[<-List.append_assoc,<-List.drop_drop,List.drop_left' (by rw[List.length_append,aK]),List.drop_drop]
 rw[t1,t2];simp only[List.append_assoc,List.length_append,Nat.add_assoc]
theorem auD {out:aAD} {i:Nat} {s:dR} (h:i<out.length):out.set i s=patch out i [s]:=by
 unfold patch;apply List.ext_getElem?;intro j;rw[List.getElem?_set];rcases Nat.lt_trichotomy i j with Mc|Mc|Mc
 .rw[if_neg (by omega),List.getElem?_append_right (by simp;omega)];have aK:(out.take i).length=i:=by simp;omega
  rw[aK];obtain⟨d,rfl⟩:∃d,j=i+(d+1):=⟨j-i-1,by omega⟩
  rw[show i+(d+1)-i=d+1 by omega];simp only[List.singleton_append,List.getElem?_cons_succ,List.length_singleton,List.getElem?_drop];congr 1;omega
 .subst Mc;rw[if_pos rfl,if_pos h,List.getElem?_append_right (by simp;omega)];have aK:(out.take i).length=i:=by simp;omega
  rw[aK];simp
 .rw[if_neg (by omega),List.getElem?_append_left (by simp;omega),List.getElem?_take,if_pos Mc]
theorem auE (n:Int) (h:0<=n) (af:n<=1000000):IntKind.i64.wrap (n+1)=n+1:=eF _ (by omega)
theorem acp {rec:Int->dR->aAD->a1->Option (Int×aAD)} {d:a1} {n:Nat} (ao:d.Body.length<=1048576)
  (Md:∀(at_ k:Nat) (s:dR) (out:aAD),out.length=d.Body.length->fm (d.Body.drop at_) 1=some k->k<=n->0<=s.scope->s.scope+k<=1000000->
   rec (at_:Int) s out d=some (((at_+k:Nat):Int),patch out at_ (gX (d.Body.drop at_) [s])))
  (eb:Int) (p:b8) (f:Nat) (bI:f<=2):∀(c j at_ k:Nat) (out:aAD) (m:Nat),j+c=f->c<m->out.length=d.Body.length->fm (d.Body.drop at_) c=some k->k<=n->0<=eb->eb+k<=1000000->
   Al rec d eb p (f:Int) m out (at_:Int) (j:Int)=some (((at_+k:Nat):Int),patch out at_ (gX (d.Body.drop at_) (List.replicate c ⟨eb,p.Kind==1⟩)))
 |0,j,at_,k,out,m,bE,hm,bG,he,hk,a7,h1=>by
  obtain⟨m,rfl⟩:∃i,m=i+1:=⟨m-1,by omega⟩
  rw[Bd]at he;cases he;simp only[Al,Qn];rw[ee (by omega)];simp[auB,auC]
 |c+1,j,at_,k,out,m,bE,hm,bG,he,hk,a7,h1=>by
  obtain⟨m,rfl⟩:∃i,m=i+1:=⟨m-1,by omega⟩
  rw[Nat.add_comm c 1]at he;obtain⟨bV,cn,aK,aT,rfl⟩:=D8 he;have fO:=vB aK;have l2:=vB aT;rw[List.length_drop]at fO;rw[List.drop_drop,List.length_drop]at l2;have hlen:(gX (d.Body.drop at_) [⟨eb,p.Kind==1⟩]).length=bV:=Be (st:=[_]) aK;simp only[Al,Qn];rw[ek (by omega),Md at_ bV _ out bG aK (by omega) a7 (by show eb+(bV:Int)<=_;omega),ed j f (by omega) (by omega)];simp only[cond_true,bind_some];have fL:(patch out at_ (gX (d.Body.drop at_) [⟨eb,p.Kind==1⟩])).length=d.Body.length:=by
   rw[acn (by rw[hlen];omega),bG]
  rw[List.drop_drop]at aT;rw[acp ao Md eb p f bI c (j+1) (at_+bV) cn _ m (by omega) (by omega) fL aT (by omega) a7 (by omega)];have auF:(gX (d.Body.drop (at_+bV)) (List.replicate c ⟨eb,p.Kind==1⟩)).length=cn:=Be (by rw[List.length_replicate];exact aT);have auG:gX (d.Body.drop at_) (List.replicate (c+1) ⟨eb,p.Kind==1⟩)=gX (d.Body.drop at_) [⟨eb,p.Kind==1⟩]++gX (d.Body.drop (at_+bV)) (List.replicate c ⟨eb,p.Kind==1⟩):=by
   rw[List.replicate_succ,<-List.singleton_append,TH (k:=bV) (s1:=[_]) aK,List.drop_drop]
  rw[auG,aco (by rw[hlen]) (by rw[hlen,auF];omega),Nat.add_assoc]
end Go.pO
namespace Go.pO
open Option Go.IntKind Nat Or
open Go Go.en
theorem acq (d:a1) (ao:d.Body.length<=1048576):∀(n at_ k:Nat) (s:dR) (out:aAD),out.length=d.Body.length->fm (d.Body.drop at_) 1=some k->k<=n->0<=s.scope->s.scope+k<=1000000->
  Am n (at_:Int) s out d=some (((at_+k:Nat):Int),patch out at_ (gX (d.Body.drop at_) [s]))
 |0,at_,k,s,out,bG,he,hk,a7,h1=>by have:=vB he;omega
 |n+1,at_,k,s,out,bG,he,hk,a7,h1=>by
  have l:=vB he;rw[List.length_drop]at l;have aj:at_<d.Body.length:=by omega
  rw[drop_cons _ at_ aj]at he⊢;obtain⟨dr,qW,rfl⟩:=sA.1 he;simp only[Nat.zero_add]at qW;have bI:=D7 d.Body[at_];have auH:=acp (n:=n) ao (acq d ao n) (below d.Body[at_] s).scope d.Body[at_] (eK d.Body[at_]) bI (eK d.Body[at_]) 0 (at_+1) dr (patch out at_ [s]);have hlen:(gX (d.Body.drop (at_+1)) (List.replicate (eK d.Body[at_]) (below d.Body[at_] s)++[])).length=dr:=by
   rw[List.append_nil];exact Be (by rw[List.length_replicate];exact qW)
  have auI:(at_+1+dr:Nat)=at_+(dr+1):=by omega
  have ab:0<=(below d.Body[at_] s).scope/\(below d.Body[at_] s).scope+dr<=1000000:=by
   unfold below;simp only;split<;>omega
  have key:(lim λm=>Al (Am n) d (below d.Body[at_] s).scope d.Body[at_] ((eK d.Body[at_]:Nat):Int) m (List.set out (Int.toNat (at_:Int)) s) (i64.wrap ((at_:Int)+1)) 0)=
    some (((at_+(dr+1):Nat):Int),patch out at_ (gX (d.Body[at_]::d.Body.drop (at_+1)) [s])):=by
   refine e0 (eK d.Body[at_]+1) λm hm=>?_;rw[Int.toNat_natCast,auD (by omega),ed at_ _ aj (by omega)];have h:=auH m (by omega) (by omega) (by rw[acn (by simp;omega),bG]) qW (by omega) ab.1 ab.2;rw[show((0:Nat):Int)=0 from rfl]at h;rw[h,auI];congr 2;have auJ:(gX (d.Body.drop (at_+1)) (List.replicate (eK d.Body[at_]) ⟨(below d.Body[at_] s).scope,d.Body[at_].Kind==1⟩)).length=dr:=Be (by rw[List.length_replicate];exact qW);rw[aco (i:=at_) (a:=[s]) (j:=at_+1) rfl (by rw[auJ,List.length_singleton];omega)];simp only[gX,List.append_nil,List.singleton_append];rfl
  simp only[Am,Qo];rw[dO out at_ (by omega),dO _ at_ aj];simp only[bind_some,Kx,aci];by_cases a_:d.Body[at_].Kind=4
  .have e:(d.Body[at_].Kind==4)=true:=by simpa using a_
   have aT:(below d.Body[at_] s).scope=s.scope+1:=by simp[below,a_]
   rw[e,cond_true,auE s.scope a7 (by omega),<-aT];exact key
  .have e:(d.Body[at_].Kind==4)=false:=by simpa using a_
   have aT:(below d.Body[at_] s).scope=s.scope:=by simp[below,a_]
   rw[e,cond_false];conv=>lhs;rw[show s.scope=(below d.Body[at_] s).scope from aT.symm]
   exact key
theorem acr (d:a1) (ao:d.Body.length<=1048576) (ae:fm d.Body 1=some d.Body.length) (a7:0<=d.dW) (h1:d.dW+d.Body.length<=1000000):
  CY d=some (gX d.Body [⟨d.dW,false⟩]):=by
 unfold CY;rw[tK 16 ao (by decide)];simp only[bind_some];have hlen:(gX d.Body [⟨d.dW,false⟩]).length=d.Body.length:=Be (st:=[_]) ae;have:Ky 0 ⟨d.dW,false⟩ (List.replicate (Int.toNat (d.Body.length:Int)) ⟨0,false⟩) d=some ((d.Body.length:Int),gX d.Body [⟨d.dW,false⟩]):=by
  unfold Ky;refine e0 d.Body.length λm hm=>?_;have:=acq d ao m 0 d.Body.length ⟨d.dW,false⟩ (List.replicate (Int.toNat (d.Body.length:Int)) ⟨0,false⟩) (by simp) (by simpa using ae) hm a7 h1;rw[show((0:Nat):Int)=0 from rfl]at this;rw[this,Nat.zero_add,List.drop_zero];congr 2;unfold patch;rw[Nat.zero_add,hlen,List.drop_of_length_le (by simp)];simp
 rw[this];rfl
def TI (l:aAw) (q:Nat):Bool:=match fm l 1 with
 |some e=>decide (q<e)
 |none=>false
def qD:aAw->Nat->Nat
 |[],_=>0
 |_::_,0=>0
 |p::r,q+1=>(if p.Kind=4/\TI (p::r) (q+1)=true then 1 else 0)+qD r q
theorem auK (l:aAw):qD l 0=0:=by cases l<;>rfl
theorem acs:∀(l:aAw) (q:Nat),qD l q<=q
 |[],q=>by simp[qD]
 |_::_,0=>by simp[qD]
 |p::r,q+1=>by
  have:=acs r q;simp only[qD];split<;>omega
theorem auL (d:a1) (ao:d.Body.length<=1048576) (ae:fm d.Body 1=some d.Body.length) (a7: -1000000<=d.dW/\d.dW<=1000000) (q:Nat) (cF:q<d.Body.length):
  wm d (q:Int)=some (d.dW+(qD d.Body q:Nat)):=by
 unfold wm;have key:∀i,i<=q->∀(c:Int) m,-1000000<=c->c<=1000000+i->q-i<m->zY d (q:Int) m c (i:Int)=some (c+(qD (d.Body.drop i) (q-i):Nat)):=by
  refine down q ?_ ?_
  .intro c m _ _ hm;obtain⟨m,rfl⟩:∃j,m=j+1:=⟨m-1,by omega⟩
   simp only[zY,Pz];rw[ee (Nat.le_refl _),Nat.sub_self,auK];simp
  .intro i aj ih c m nA lq hm;obtain⟨m,rfl⟩:∃j,m=j+1:=⟨m-1,by omega⟩
   simp only[zY,Pz];have xj:i<d.Body.length:=by omega
   rw[ek aj,dO _ i xj];simp only[cond_true,bind_some,Gk];obtain⟨e,Fl,Wq,BT⟩:=auz ae xj;rw[acm _ ao i e Fl,ed i q aj (by omega)];simp only[bind_some];have auM:qD (d.Body.drop i) (q-i)=(if d.Body[i].Kind=4/\q<i+e then 1 else 0)+qD (d.Body.drop (i+1)) (q-(i+1)):=by
    have acu:=Fl;rw[drop_cons _ i xj]at acu⊢;rw[show q-i=(q-(i+1))+1 by omega];simp only[qD,TI,acu];congr 1;by_cases hk:d.Body[i].Kind=4
    .by_cases xm:q<i+e
     .rw[if_pos ⟨hk,by simp;omega⟩,if_pos ⟨hk,xm⟩]
     .rw[if_neg (λh=>by simp at h;omega),if_neg (λh=>xm h.2)]
    .rw[if_neg (λh=>hk h.1),if_neg (λh=>hk h.1)]
   rw[auM];by_cases hk:d.Body[i].Kind=4
   .have tP:(d.Body[i].Kind==4)=true:=by simpa using hk
    rw[tP,cond_true];by_cases xm:q<i+e
    .rw[ek xm,cond_true,eF (c+1) (by omega),ih (c+1) m (by omega) (by omega) (by omega),if_pos ⟨hk,xm⟩];congr 1;omega
    .rw[ee (by omega),cond_false,ih c m nA (by omega) (by omega),if_neg (λh=>xm h.2)];congr 1;omega
   .have tP:(d.Body[i].Kind==4)=false:=by simpa using hk
    rw[tP,cond_false,ih c m nA (by omega) (by omega),if_neg (λh=>hk h.1)];congr 1;omega
 refine e0 (q+1) λm hm=>?_;have:=key 0 (by omega) d.dW m (by omega) (by omega) (by omega);simpa using this
def y4:aAw->aAD->Nat->Option dR
 |_,[],_=>none
 |l,s::st,q=>match fm l 1 with
  |none=>none
  |some k=>if q<k then some s else y4 (l.drop k) st (q-k)
theorem acv:∀(f:Nat) (r:aAw) (b:dR) (st:aAD) (k q:Nat),fm r f=some k->y4 r (List.replicate f b++st) q=if q<k then some b else y4 (r.drop k) st (q-k)
 |0,r,b,st,k,q,h=>by rw[Bd]at h;cases h;simp
 |f+1,r,b,st,k,q,h=>by
  rw[Nat.add_comm f 1]at h;obtain⟨bV,cn,h1,af,rfl⟩:=D8 h;rw[List.replicate_succ,List.cons_append];simp only[y4,h1];by_cases cF:q<bV
  .rw[if_pos cF,if_pos (by omega)]
  .rw[if_neg cF,acv f _ b st cn (q-bV) af];by_cases acw:q-bV<cn
   .rw[if_pos acw,if_pos (by omega)]
   .rw[if_neg acw,if_neg (by omega),List.drop_drop,Nat.sub_sub]
theorem acx:∀(l:aAw) (st:aAD) (k:Nat),fm l st.length=some k->∀q,q<k->∃s pl,y4 l st q=some s/\(gX l st)[q]? =some pl/\pl.scope=s.scope+(qD l q:Nat)
 |[],[],k,h,q,cF=>by simp only[List.length_nil,fm,some.injEq]at h;omega
 |[],s::st,k,h,q,cF=>by simp[fm]at h
 |p::r,[],k,h,q,cF=>by simp only[List.length_nil,fm,some.injEq]at h;omega
 |p::r,s::st,k,h,q,cF=>by
  have a7:=h;obtain⟨dr,bL,rfl⟩:=sA.1 h;rw[List.length_cons,Nat.add_comm st.length 1]at a7;obtain⟨e,cn,he,py,hk⟩:=D8 a7;obtain⟨fS,qW,rfl⟩:=sA.1 he;simp only[Nat.zero_add]at qW;cases q with
  |zero=>
   refine⟨s,s,?_,rfl,?_⟩
   .simp only[y4,he];rw[if_pos (by omega)]
   .simp[qD]
  |succ q=>
   have hl:fm r (List.replicate (eK p) (below p s)++st).length=some dr:=by
    rw[List.length_append,List.length_replicate,Nat.add_comm];exact bL
   obtain⟨aC,pl,h1,af,ay⟩:=acx r _ dr hl q (by omega);rw[acv _ _ _ _ fS q qW]at h1;simp only[gX,List.getElem?_cons_succ,y4,he,qD,TI,decide_eq_true_eq];by_cases xm:q<fS
   .rw[if_pos xm]at h1;simp only[some.injEq]at h1;subst h1;refine⟨s,pl,by rw[if_pos (by omega)],af,?_⟩;rw[ay];by_cases Me:p.Kind=4
    .rw[if_pos ⟨Me,by omega⟩];simp only[below,if_pos Me];omega
    .rw[if_neg (λh=>Me h.1)];simp only[below,if_neg Me];omega
   .rw[if_neg xm]at h1;refine⟨aC,pl,?_,af,?_⟩
    .rw[if_neg (by omega),List.drop_succ_cons,show q+1-(fS+1)=q-fS by omega];exact h1
    .rw[ay,if_neg (λh=>by omega)];omega
theorem auN {p:b8} (h:eK p=0):(p.Kind==1)=false:=by
 unfold eK at h;split at h
 .omega
 .rename_i aV;simp only[beq_eq_false_iff_ne];exact λe=>aV (.inl e)
theorem auO {p:b8} (h:eK p=2):(p.Kind==1)=false:=by
 unfold eK at h;split at h
 .omega
 .rename_i aV;simp only[beq_eq_false_iff_ne];exact λe=>aV (.inl e)
def TJ (b:aAw):Nat->Bool
 |0=>false
 |q+1=>match b[q]? with
  |some p=>p.Kind==1
  |none=>false
theorem acy:∀(l:aAw) (st:aAD),(∀s∈st.tail,s.behind=false)->∀(q:Nat) (pl:dR),(gX l st)[q]? =some pl->
  pl.behind=match q with
   |0=>match st with
    |s::_=>s.behind
    |[]=>false
   |q+1=>match l[q]? with
    |some p=>p.Kind==1
    |none=>false
 |[],st,_,q,pl,h=>by simp[gX]at h
 |p::r,[],_,q,pl,h=>by simp[gX]at h
 |p::r,s::st,D9,q,pl,h=>by
  cases q with
  |zero=>simp only[gX,List.getElem?_cons_zero,some.injEq]at h;subst h;rfl
  |succ q=>
   simp only[gX,List.getElem?_cons_succ]at h;have auP:∀aC∈(List.replicate (eK p) (below p s)++st).tail,aC.behind=false:=by
    intro aC fZ;have bI:=D7 p;rcases(by omega:eK p=0\/eK p=1\/eK p=2)with bI|bI|bI
    .rw[bI]at fZ;simp only[List.replicate_zero,List.nil_append]at fZ;exact D9 aC (by simpa using List.mem_of_mem_tail fZ)
    .rw[bI]at fZ;simp only[List.replicate_succ,List.replicate_zero,List.cons_append,List.nil_append,List.tail_cons]at fZ;exact D9 aC (by simpa using fZ)
    .rw[bI]at fZ;simp only[List.replicate_succ,List.replicate_zero,List.cons_append,List.nil_append,List.tail_cons,List.mem_cons]at fZ;rcases fZ with rfl|fZ
     .exact auO bI
     .exact D9 aC (by simpa using fZ)
   have ih:=acy r _ auP q pl h;rw[ih];cases q with
   |succ q=>rfl
   |zero=>
    simp only[List.getElem?_cons_zero];have bI:=D7 p;rcases(by omega:eK p=0\/eK p=1\/eK p=2)with bI|bI|bI
    .rw[bI,auN bI];simp only[List.replicate_zero,List.nil_append];cases st with
     |nil=>rfl
     |cons s2 st=>exact D9 s2 (by simp)
    .rw[bI];rfl
    .rw[bI];rfl
theorem auQ (l:aAw) (s:dR) (ae:s.behind=false) (q:Nat) (pl:dR) (h:(gX l [s])[q]? =some pl):pl.behind=TJ l q:=by
 rw[acy l [s] (λs ae=>by simp at ae) q pl h];cases q with
 |zero=>exact ae
 |succ q=>rfl
theorem auR {l:Nat->Int->aAh} {n:Nat} (p:Nat->Bool) (mu bad:Int) (a7:∀m,l (m+1) (n:Int)=some mu)
  (ae:∀i,i<n->∀m,l (m+1) (i:Int)=cond (p i) (l m ((i+1:Nat):Int)) (some bad)):lim (λm=>l m 0)=some (cond (ga p n) mu bad):=by
 rw[qA (n:=n) (λi=>some (cond ((List.range' i (n-i)).all p) mu bad))]
 .simp[ga,List.range_eq_range']
 .intro m;rw[a7];simp
 .intro i aj m ih;rw[ae i aj,ih,show n-i=(n-(i+1))+1 by omega,List.range'_succ];cases aw:p i<;>simp[aw]
def Bf (p:b8):Prop:=p.Name.length<=1048576/\p.cm.length<=1048576/\∀e∈p.cm,e.length<=1048576
def vC (p:b8) (eb:Int):Bool:=ga (λi=>p3 (p.cm.getD i []) eb 15) p.cm.length
theorem acz (p:b8) (aw:Bf p) (eb:Int) (h:0<=eb/\eb<=29):lim (λn=>yp p n eb 0)=some (cond (vC p eb) 0 8):=by
 refine auR (l:=λm i=>yp p m eb i) _ _ _ (λm=>?_) (λi aj m=>?_)
 .simp only[yp,PB];rw[ee (Nat.le_refl _)];rfl
 .simp only[yp,PB];rw[ek aj,mr _ i [] aj,ed i _ aj (by have:=aw.2.1;omega)];simp only[cond_true,bind_some];rw[auw _ eb 15 (by omega) (by
   have:p.cm.getD i []=p.cm[i]:=by simp[List.getD,aj]
   rw[this];exact aw.2.2 _ (List.getElem_mem aj))]
  simp only[bind_some];cases p3 (p.cm.getD i []) eb 15<;>rfl
theorem auS (p:b8) (aw:Bf p) (pl:dR) (h:0<=pl.scope/\pl.scope<=29):KC p.cm pl=some (!(vC p pl.scope)):=by
 unfold KC Qu;rw[tL (n:=p.cm.length) (λi=> !p3 (p.cm.getD i []) pl.scope 15)]
 .simp only[bind_some,xg,Bool.not_not];rfl
 .intro m;simp only[GN,Qt];rw[ee (Nat.le_refl _)];rfl
 .intro i aj m;simp only[GN,Qt];rw[ek aj,mr _ i [] aj,ed i _ aj (by have:=aw.2.1;omega)];simp only[cond_true,bind_some,Qs];rw[auy _ pl.scope 15 h (by omega) (by
   have:p.cm.getD i []=p.cm[i]:=by simp[List.getD,aj]
   rw[this];exact aw.2.2 _ (List.getElem_mem aj))]
  simp only[bind_some]
theorem TK (s:aAc) (ae:s.length<=1048576):u6 s=some (hB s&& !(s==([116,97,117]:aAc))):=by
 unfold u6;rw[aca s (by omega)];rfl
theorem auT {s:aAc} (h:(s==([116,97,117]:aAc))=true):hB s=true:=by
 have:s=[116,97,117]:=by simpa using h
 subst this;decide
theorem Mf (n:Int) (l:Nat) (hl:l<=1048576):yy n (l:Int)=some (decide (0<=n)&&decide (n<=(l:Int)-1)):=by
 unfold yy la;rw[eF ((l:Int)-1) (by omega)];rfl
theorem acA (list:aAx) (hl:list.length<=4) (d:a1) (at_:Nat) (auU:at_<d.Body.length) (ab:d.Body.length<=20) (aw:Bf d.Body[at_]) (pl:dR)
  (mQ:wm d (at_:Int)=some pl.scope) (acB:0<=pl.scope/\pl.scope<=29)
  (y5:pl.behind=TJ d.Body at_):
  ∃r,tb list d (at_:Int)=some r/\GQ d.Body[at_] list pl=some r/\0<=r:=by
 have auV:∀p,Bf p->p=d.Body[at_]->∃r,tb list d (at_:Int)=some r/\GQ p list pl=some r/\0<=r:=by
  intro p aw M3;have O1:=acz p aw pl.scope acB;have Jl:=auS p aw pl acB;have sB:=TK p.Name aw.1;have auW:=D5 p.Name;have auX:wo d (at_:Int) p=some (cond ((p.Kind==5)&& !pl.behind) 6 (cond ((p.Kind==4)&&decide (6<=pl.scope)) 7 (cond (vC p pl.scope) 0 8))):=by
   have auY:∀v,ta d (at_:Int) p v=some (cond v 6 (cond ((p.Kind==4)&&decide (6<=pl.scope)) 7 (cond (vC p pl.scope) 0 8))):=by
    intro v;unfold ta;rw[mQ];simp only[bind_some,O1];cases v<;>cases(p.Kind==4&&decide (6<=pl.scope))<;>rfl
   unfold wo;simp only[auY];cases at_ with
   |zero=>
    replace y5:pl.behind=false:=y5;rw[y5];simp only[Bool.not_false,Bool.and_true];cases p.Kind==5<;>rfl
   |succ q=>
    have cF:q<d.Body.length:=by omega
    have gb:(((q+1:Nat):Int)==0)=false:=by rw[beq_eq_false_iff_ne];omega
    rw[gb,D2 (q+1) (by omega) (by omega),show q+1-1=q from rfl,dO _ q cF];replace y5:pl.behind=(match d.Body[q]? with|some p=>p.Kind==1|none=>false):=y5;rw[List.getElem?_eq_getElem cF]at y5;simp only[cond_false,bind_some];simp only at y5;rw[y5];have dP:(d.Body[q].Kind !=1)= !(d.Body[q].Kind==1):=rfl;rw[dP];cases p.Kind==5<;>cases d.Body[q].Kind==1<;>rfl
  have rQ:bh d.Body (at_:Int)=some p:=by rw[dO _ at_ auU,M3]
  have Mg:((p.cm.length:Int)==0)=true->vC p pl.scope=true:=by
   intro h;have:p.cm.length=0:=by simpa using h
   unfold vC;rw[this];rfl
  unfold tb GQ Qp Px JZ;rw[rQ];simp only[Cl,uM,GP,An,bind_some,auX,Jl,sB,auW,la,ml,Mf _ _ (show list.length<=1048576 by omega),Qq];rw[eF ((list.length:Int)-1) (by omega)];obtain⟨K,N,Nm,lN⟩:=p;simp only at*;by_cases a7:K=0
  .subst a7;simp only[Int.reduceBEq,Int.reduceLE,decide_true,decide_false,Bool.false_and,Bool.true_and,Bool.and_true,Bool.false_or,Bool.or_false,cond_true,cond_false,Bool.and_self,bind_some];cases N==0
   .exact⟨2,rfl,rfl,by decide⟩
   .cases Nm==[]
    .exact⟨2,rfl,rfl,by decide⟩
    .cases bs:((lN.length:Int)==0)
     .exact⟨2,rfl,rfl,by decide⟩
     .simp only[Bool.and_true,Bool.not_true,Bool.not_false,cond_true,cond_false,Mg bs];exact⟨0,rfl,rfl,by decide⟩
  .by_cases h1:K=1
   .subst h1;simp only[Int.reduceBEq,Int.reduceLE,decide_true,decide_false,Bool.false_and,Bool.true_and,Bool.and_true,Bool.false_or,Bool.or_false,Bool.true_or,cond_true,cond_false,Bool.and_self,bind_some];cases N==0
    .exact⟨2,rfl,rfl,by decide⟩
    .simp only[Bool.not_true,cond_false];cases a6:(Nm==([116,97,117]:aAc))
     .simp only[Bool.not_false,Bool.and_true,cond_true];cases hB Nm
      .exact⟨3,rfl,rfl,by decide⟩
      .simp only[Bool.not_true,cond_false,Bool.and_false,Bool.or_false,Bool.true_and];by_cases aV:lN.length<=2
       .have aK:decide ((2:Int)<(lN.length:Int))=false:=decide_eq_false (by omega);have aT:decide ((lN.length:Int)<=2)=true:=decide_eq_true (by omega);rw[aK,aT,Bool.or_true];cases vC ⟨1,N,Nm,lN⟩ pl.scope
        .exact⟨8,rfl,rfl,by decide⟩
        .exact⟨0,rfl,rfl,by decide⟩
       .have aK:decide ((2:Int)<(lN.length:Int))=true:=decide_eq_true (by omega);have aT:decide ((lN.length:Int)<=2)=false:=decide_eq_false (by omega);have aU:((lN.length:Int)==0)=false:=by rw[beq_eq_false_iff_ne];omega
        rw[aK,aT,aU];exact⟨5,rfl,rfl,by decide⟩
     .rw[auT a6];simp only[Bool.not_true,cond_false,Bool.and_true,Bool.false_and,Bool.or_false];by_cases aV:lN.length=0
      .have aK:decide ((2:Int)<(lN.length:Int))=false:=decide_eq_false (by omega);have aT:decide ((0:Int)<(lN.length:Int))=false:=decide_eq_false (by omega);have aU:((lN.length:Int)==0)=true:=by rw[aV];rfl
       rw[aK,aT,Mg aU,aU];exact⟨0,rfl,rfl,by decide⟩
      .have aT:decide ((0:Int)<(lN.length:Int))=true:=decide_eq_true (by omega);have aU:((lN.length:Int)==0)=false:=by rw[beq_eq_false_iff_ne];omega
       rw[aT,aU,Bool.or_true];exact⟨5,rfl,rfl,by decide⟩
   .by_cases af:K=2
    .subst af;simp only[Int.reduceBEq,Int.reduceLE,decide_true,decide_false,Bool.false_and,Bool.true_and,Bool.and_true,Bool.false_or,Bool.or_false,cond_true,cond_false,Bool.and_self,bind_some];cases N==0
     .exact⟨2,rfl,rfl,by decide⟩
     .cases Nm==[]
      .exact⟨2,rfl,rfl,by decide⟩
      .cases bs:((lN.length:Int)==0)
       .exact⟨2,rfl,rfl,by decide⟩
       .simp only[Bool.and_true,Bool.not_true,Bool.not_false,cond_true,cond_false,Mg bs];exact⟨0,rfl,rfl,by decide⟩
    .by_cases ay:K=3
     .subst ay;simp only[Int.reduceBEq,Int.reduceLE,decide_true,decide_false,Bool.false_and,Bool.true_and,Bool.and_true,Bool.false_or,Bool.or_false,Bool.true_or,Bool.or_true,cond_true,cond_false,Bool.and_self,bind_some];cases N==0
      .exact⟨2,rfl,rfl,by decide⟩
      .cases Nm==[]
       .exact⟨2,rfl,rfl,by decide⟩
       .have dP:((lN.length:Int) !=1)= !((lN.length:Int)==1):=rfl;rw[dP];cases((lN.length:Int)==1)
        .exact⟨5,rfl,rfl,by decide⟩
        .cases vC ⟨3,N,Nm,lN⟩ pl.scope
         .exact⟨8,rfl,rfl,by decide⟩
         .exact⟨0,rfl,rfl,by decide⟩
     .by_cases a_:K=4
      .subst a_;simp only[Int.reduceBEq,Int.reduceLE,decide_true,decide_false,Bool.false_and,Bool.true_and,Bool.and_true,Bool.false_or,Bool.or_false,Bool.true_or,Bool.or_true,cond_true,cond_false,Bool.and_self,bind_some];cases Nm==[]
       .exact⟨2,rfl,rfl,by decide⟩
       .cases bs:((lN.length:Int)==0)
        .exact⟨2,rfl,rfl,by decide⟩
        .rw[Mg bs];cases(decide (1<=N)&&decide (N<=7))
         .exact⟨4,rfl,rfl,by decide⟩
         .cases decide (6<=pl.scope)
          .exact⟨0,rfl,rfl,by decide⟩
          .exact⟨7,rfl,rfl,by decide⟩
      .by_cases b1:K=5
       .subst b1;simp only[Int.reduceBEq,Int.reduceLE,decide_true,decide_false,Bool.false_and,Bool.true_and,Bool.and_true,Bool.false_or,Bool.or_false,Bool.true_or,Bool.or_true,cond_true,cond_false,Bool.and_self,bind_some];cases Nm==[]
        .exact⟨2,rfl,rfl,by decide⟩
        .cases aj:(decide (0<=N)&&decide (N<=(list.length:Int)-1))
         .exact⟨4,rfl,rfl,by decide⟩
         .simp only[Bool.and_eq_true,decide_eq_true_eq]at aj;obtain⟨i,rfl⟩:∃i:Nat,N=i:=⟨N.toNat,by omega⟩
          rw[dO list i (by omega)];simp only[bind_some,Bool.not_true,cond_false];have dP:((lN.length:Int) !=list[i].dW)= !((lN.length:Int)==list[i].dW):=rfl;rw[dP];cases((lN.length:Int)==list[i].dW)
          .exact⟨5,rfl,rfl,by decide⟩
          .cases pl.behind
           .exact⟨6,rfl,rfl,by decide⟩
           .cases vC ⟨5,i,Nm,lN⟩ pl.scope
            .exact⟨8,rfl,rfl,by decide⟩
            .exact⟨0,rfl,rfl,by decide⟩
       .have gb:(K==0)=false:=by simpa using a7
        have aK:(K==1)=false:=by simpa using h1
        have aT:(K==2)=false:=by simpa using af
        have aU:(K==3)=false:=by simpa using ay
        have b_:(K==4)=false:=by simpa using a_
        have cY:(K==5)=false:=by simpa using b1
        have cv:(decide (0<=K)&&decide (K<=5))=false:=by
         rw[Bool.and_eq_false_iff,decide_eq_false_iff_not,decide_eq_false_iff_not];omega
        simp only[gb,aK,aT,aU,b_,cY,cv,Bool.false_and,cond_false,bind_some];exact⟨2,rfl,rfl,by decide⟩
 exact auV _ aw rfl
theorem Bg {β:Type} {l:Nat->Int->Option β} {n:Nat} (p:Nat->Bool) (mu bad:Option β) (a7:∀m,l (m+1) (n:Int)=mu)
  (ae:∀i,i<n->∀m,l (m+1) (i:Int)=cond (p i) (l m ((i+1:Nat):Int)) bad):lim (λm=>l m 0)=cond (ga p n) mu bad:=by
 rw[qA (n:=n) (λi=>cond ((List.range' i (n-i)).all p) mu bad)]
 .simp[ga,List.range_eq_range']
 .intro m;rw[a7];simp
 .intro i aj m ih;rw[ae i aj,ih,show n-i=(n-(i+1))+1 by omega,List.range'_succ];cases aw:p i<;>simp[aw]
def acC (d:a1):Prop:=d.Name.length<=1048576/\d.Body.length<=1048576/\∀p∈d.Body,Bf p
def xn (b:aAw):Bool:=(decide (1<=b.length)&&decide (b.length<=20))&&y3 b 1
theorem Bh {b:aAw} (h:xn b=true):fm b 1=some b.length/\1<=b.length/\b.length<=20:=by
 simp only[xn,TF,Bool.and_eq_true,decide_eq_true_eq,beq_iff_eq]at h;exact⟨h.2,h.1.1,h.1.2⟩
def jO (d:a1) (i:Nat):dR:=(gX d.Body [⟨d.dW,false⟩]).getD i ⟨0,false⟩
theorem Mh (d:a1) (h:xn d.Body=true) (aw:0<=d.dW/\d.dW<=3) (i:Nat) (aj:i<d.Body.length):
  wm d (i:Int)=some (jO d i).scope/\0<=(jO d i).scope/\(jO d i).scope<=29/\
   (jO d i).behind=TJ d.Body i/\
   (gX d.Body [⟨d.dW,false⟩])[i]? =some (jO d i):=by
 obtain⟨h1,af,ay⟩:=Bh h;obtain⟨s,pl,aK,aT,aU⟩:=acx d.Body [⟨d.dW,false⟩] d.Body.length h1 i aj;have ae:s=⟨d.dW,false⟩:=by
  simp only[y4,h1]at aK;rw[if_pos aj]at aK;exact(some.inj aK).symm
 subst ae;have fL:jO d i=pl:=by unfold jO;rw[List.getD_eq_getElem?_getD,aT];rfl
 have au:=acs d.Body i;simp only at aU;refine⟨?_,?_,?_,?_,?_⟩
 .rw[auL d (by omega) h1 (by omega) i aj,fL,aU]
 .rw[fL,aU];omega
 .rw[fL,aU];omega
 .rw[fL];exact auQ d.Body ⟨d.dW,false⟩ rfl i pl aT
 .rw[fL];exact aT
theorem auZ (list:aAx) (hl:list.length<=4) (d:a1) (ao:acC d) (aw:0<=d.dW/\d.dW<=3):
  ∃r,wt list d=some r/\GR list d=some r/\0<=r.2/\(r.2=0->xn d.Body=true):=by
 unfold wt GR la;rw[auA _ ao.2.1];have H9:=ack d ao.2.1 0 (zero_le _);rw[show((0:Nat):Int)=0 from rfl,List.drop_zero]at H9;simp only[bind_some];have nA:decide ((1:Int)<=(d.Body.length:Int))=decide (1<=d.Body.length):=decide_eq_decide.2 (by omega);have lq:decide ((d.Body.length:Int)<=20)=decide (d.Body.length<=20):=decide_eq_decide.2 (by omega);rw[nA,lq];show∃r,cond (!xn d.Body) _ _=_/\_;cases ae:xn d.Body
 .refine⟨(0,1),rfl,?_,by decide,λh=>by cases h⟩;cases au:(decide (1<=d.Body.length)&&decide (d.Body.length<=20))
  .rfl
  .rw[H9];have hw:y3 d.Body 1=false:=by
    unfold xn at ae;rw[au,Bool.true_and]at ae;exact ae
   have:(tO 0 (fm d.Body 1) !=(d.Body.length:Int))=true:=by
    rw[TF]at hw;cases he:fm d.Body 1 with
    |none=>simp only[tO,bne_iff_ne];omega
    |some n=>
     rw[he]at hw;have dP:n≠d.Body.length:=λe=>by simp[e]at hw
     simp only[tO,bne_iff_ne];omega
   simp only[Bool.not_true,cond_false,bind_some,this,cond_true]
 .obtain⟨h1,af,ay⟩:=Bh ae;have au:(decide (1<=d.Body.length)&&decide (d.Body.length<=20))=true:=by simp;omega
  have dP:(tO 0 (some d.Body.length) !=(d.Body.length:Int))=false:=by simp[tO]
  rw[au,H9,h1];simp only[Bool.not_true,cond_false,bind_some,dP];rw[acr d ao.2.1 h1 aw.1 (by omega)];simp only[bind_some];have key:∀i,i<=d.Body.length->∃r:Int×Int,(∀m,d.Body.length-i<m->wq list d m (i:Int)=some r)/\
    (∀m,d.Body.length-i<m->Ao list d (gX d.Body [⟨d.dW,false⟩]) m (i:Int)=some r)/\0<=r.2:=by
   refine down d.Body.length ⟨(0,0),λm hm=>?_,λm hm=>?_,by decide⟩ ?_
   .obtain⟨m,rfl⟩:∃j,m=j+1:=⟨m-1,by omega⟩
    simp only[wq,Gp];rw[ee (Nat.le_refl _)];rfl
   .obtain⟨m,rfl⟩:∃j,m=j+1:=⟨m-1,by omega⟩
    simp only[Ao,KD];rw[ee (Nat.le_refl _)];rfl
   .rintro i aj ⟨r,ef,bg,dt⟩;obtain⟨gP,gA,je,jG,rB⟩:=Mh d ae aw i aj;obtain⟨v,v1,v2,v3⟩:=acA list hl d i aj ay (ao.2.2 _ (List.getElem_mem aj)) (jO d i) gP ⟨gA,je⟩ jG;have hg:bh (gX d.Body [⟨d.dW,false⟩]) (i:Int)=some (jO d i):=by
     unfold bh;rw[if_pos (by omega)];exact rB
    by_cases aB:v=0
    .subst aB;refine⟨r,λm hm=>?_,λm hm=>?_,dt⟩
     .obtain⟨m,rfl⟩:∃j,m=j+1:=⟨m-1,by omega⟩
      simp only[wq,Gp];rw[ek aj,v1,ed i _ aj (by omega),<-ef m (by omega)];rfl
     .obtain⟨m,rfl⟩:∃j,m=j+1:=⟨m-1,by omega⟩
      simp only[Ao,KD];rw[ek aj,dO _ i aj,hg];simp only[cond_true,bind_some,v2];rw[ed i _ aj (by omega),<-bg m (by omega)];rfl
    .have zV:decide (0<v)=true:=decide_eq_true (by omega);have Bi:(v !=0)=true:=by simpa using aB
     refine⟨((i:Int),v),λm hm=>?_,λm hm=>?_,v3⟩
     .obtain⟨m,rfl⟩:∃j,m=j+1:=⟨m-1,by omega⟩
      simp only[wq,Gp];rw[ek aj,v1];simp only[cond_true,bind_some,zV]
     .obtain⟨m,rfl⟩:∃j,m=j+1:=⟨m-1,by omega⟩
      simp only[Ao,KD];rw[ek aj,dO _ i aj,hg];simp only[cond_true,bind_some,v2,Bi]
  obtain⟨r,ef,bg,dt⟩:=key 0 (zero_le _);refine⟨r,e0 (d.Body.length+1) λm hm=>ef m (by omega),e0 (d.Body.length+1) λm hm=>bg m (by omega),dt,λ_=>trivial⟩
def xo (d:a1):Bool:=decide (0<=d.dW)&&decide (d.dW<=3)
def D_ (list:aAx):Bool:=ga (λi=>xo (list.getD i ⟨[],0,[]⟩)) list.length
theorem acD {list:aAx} (h:D_ list=true) (i:Nat) (aj:i<list.length):0<=list[i].dW/\list[i].dW<=3:=by
 have:=pk.1 h i aj;have e:list.getD i ⟨[],0,[]⟩=list[i]:=by simp[List.getD,aj]
 rw[e]at this;simpa [xo]using this
theorem au0 (list:aAx) (hl:list.length<=1048576):Ku list=some (D_ list):=by
 unfold Ku Qh Qg;rw[tL (n:=list.length) (λi=> !xo (list.getD i ⟨[],0,[]⟩))]
 .simp only[bind_some,xg,Bool.not_not];rfl
 .intro m;simp only[GG,Qf];rw[ee (Nat.le_refl _)];rfl
 .intro i aj m;simp only[GG,Qf];rw[ek aj,mr _ i ⟨[],0,[]⟩ aj,ed i _ aj (by omega)];simp only[cond_true,bind_some,Qe,la];rfl
def p4 (list:aAx):Prop:=list.length<=1048576/\∀d∈list,acC d
set_option linter.unusedSimpArgs false
theorem au1 (x:aAp) (n:Int) (aq:(x.length<=9223372036854775807/\∀y∈x,Cd y)) (a7:0<=n) (aV:n<=1048576):FW x n=some (jc n (x.length+0)):=by
 unfold FW;refine p1 aq.1 a7 aV λh=>?_;rw[eF _ (by omega)];exact xd (by omega)
theorem au2 (x:aAl) (n:Int) (aq:(x.length<=9223372036854775807/\∀y∈x,(y.length<=9223372036854775807/\∀z∈y,Cd z))) (a7:0<=n) (aV:n<=1048576):JN x n=some (jc n (dm (λx=>x.length+0) x)):=by
 unfold JN;refine p1 aq.1 a7 aV λh=>?_;rw[eF _ (by omega)];exact D1 (f:=FW) (λx=>x.length+0) x (λ_ _ _=>rfl) (λy hy n a7 aV=>au1 y n (aq.2 y hy) a7 aV) (by omega) _ (by omega) (by omega)
def tQ (x:ly):Nat:=(x.Name.length+((dm (λx=>x.length+0) x.cm)+0))
theorem au3 (x:ly) (n:Int) (aq:FQ x) (a7:0<=n) (aV:n<=1048576):FX x n=some (jc n (tQ x)):=by
 unfold FX;unfold tQ;obtain⟨w0,fw,hR,qZ⟩:=aq;refine p1 hR (by omega) (by omega) λc2=>?_;rw[eF (n-(x.Name.length:Int)) (by omega)];refine vw (au2 _ _ qZ (by omega) (by omega)) λc3=>?_;exact xd (by omega)
theorem au4 (x:aAq) (n:Int) (aq:(x.length<=9223372036854775807/\∀y∈x,FQ y)) (a7:0<=n) (aV:n<=1048576):JO x n=some (jc n (dm tQ x)):=by
 unfold JO;refine p1 aq.1 a7 aV λh=>?_;rw[eF _ (by omega)];exact D1 (f:=FX) tQ x (λ_ _ _=>rfl) (λy hy n a7 aV=>au3 y n (aq.2 y hy) a7 aV) (by omega) _ (by omega) (by omega)
def tR (x:lz):Nat:=(x.Name.length+((dm tQ x.Body)+0))
theorem au5 (x:lz) (n:Int) (aq:FR x) (a7:0<=n) (aV:n<=1048576):FY x n=some (jc n (tR x)):=by
 unfold FY;unfold tR;obtain⟨w0,fw,hR⟩:=aq;refine p1 w0 (by omega) (by omega) λc0=>?_;rw[eF (n-(x.Name.length:Int)) (by omega)];refine vw (au4 _ _ hR (by omega) (by omega)) λc2=>?_;exact xd (by omega)
theorem au6 (x:aAr) (n:Int) (aq:(x.length<=9223372036854775807/\∀y∈x,FR y)) (a7:0<=n) (aV:n<=1048576):JP x n=some (jc n (dm tR x)):=by
 unfold JP;refine p1 aq.1 a7 aV λh=>?_;rw[eF _ (by omega)];exact D1 (f:=FY) tR x (λ_ _ _=>rfl) (λy hy n a7 aV=>au5 y n (aq.2 y hy) a7 aV) (by omega) _ (by omega) (by omega)
theorem acE (x:aAe) (n:Int) (aq:(x.length<=9223372036854775807/\∀y∈x,(-9223372036854775808<=y/\y<=9223372036854775807))) (a7:0<=n) (aV:n<=1048576):FZ x n=some (jc n (x.length+0)):=by
 unfold FZ;refine p1 aq.1 a7 aV λh=>?_;rw[eF _ (by omega)];exact xd (by omega)
def tS (x:lA):Nat:=((x.bP.length+0)+0)
theorem au7 (x:lA) (n:Int) (aq:FT x) (a7:0<=n) (aV:n<=1048576):F1 x n=some (jc n (tS x)):=by
 unfold F1;unfold tS;obtain⟨w0,fw⟩:=aq;refine vw (acE _ _ fw (by omega) (by omega)) λc1=>?_;exact xd (by omega)
theorem au8 (x:aAs) (n:Int) (aq:(x.length<=9223372036854775807/\∀y∈x,FT y)) (a7:0<=n) (aV:n<=1048576):JQ x n=some (jc n (dm tS x)):=by
 unfold JQ;refine p1 aq.1 a7 aV λh=>?_;rw[eF _ (by omega)];exact D1 (f:=F1) tS x (λ_ _ _=>rfl) (λy hy n a7 aV=>au7 y n (aq.2 y hy) a7 aV) (by omega) _ (by omega) (by omega)
def tT (x:k8):Nat:=(x.Left.length+(x.cH.length+(x.Result.length+0)))
theorem au9 (x:k8) (n:Int) (aq:FU x) (a7:0<=n) (aV:n<=1048576):F2 x n=some (jc n (tT x)):=by
 unfold F2;unfold tT;obtain⟨w0,fw,hR⟩:=aq;refine p1 w0 (by omega) (by omega) λc0=>?_;rw[eF (n-(x.Left.length:Int)) (by omega)];refine p1 fw (by omega) (by omega) λc1=>?_;rw[eF ((n-(x.Left.length:Int))-(x.cH.length:Int)) (by omega)];refine p1 hR (by omega) (by omega) λc2=>?_;rw[eF (((n-(x.Left.length:Int))-(x.cH.length:Int))-(x.Result.length:Int)) (by omega)];exact xd (by omega)
theorem au_ (x:aAt) (n:Int) (aq:(x.length<=9223372036854775807/\∀y∈x,FU y)) (a7:0<=n) (aV:n<=1048576):JR x n=some (jc n (dm tT x)):=by
 unfold JR;refine p1 aq.1 a7 aV λh=>?_;rw[eF _ (by omega)];exact D1 (f:=F2) tT x (λ_ _ _=>rfl) (λy hy n a7 aV=>au9 y n (aq.2 y hy) a7 aV) (by omega) _ (by omega) (by omega)
theorem acF (x:aAb) (n:Int) (aq:(x.length<=9223372036854775807/\∀y∈x,y.length<=9223372036854775807)) (a7:0<=n) (aV:n<=1048576):F3 x n=some (jc n (dm List.length x)):=by
 unfold F3;refine p1 aq.1 a7 aV λh=>?_;rw[eF _ (by omega)];exact atQ x (λ_ _ _=>rfl) aq.2 (by omega) _ (by omega) (by omega)
def y6 (x:o9):Nat:=((dm tR x.cz)+((dm tS x.cj)+((dm tT x.b9)+((dm List.length x.cC)+((dm List.length x.cA)+0)))))
theorem ava (x:o9) (n:Int) (aq:FV x) (a7:0<=n) (aV:n<=1048576):F4 x n=some (jc n (y6 x)):=by
 unfold F4;unfold y6;obtain⟨w0,fw,hR,qZ,To⟩:=aq;refine vw (au6 _ _ w0 (by omega) (by omega)) λc0=>?_;refine vw (au8 _ _ fw (by omega) (by omega)) λc1=>?_;refine vw (au_ _ _ hR (by omega) (by omega)) λc2=>?_;refine vw (acF _ _ qZ (by omega) (by omega)) λc3=>?_;refine vw (acF _ _ To (by omega) (by omega)) λc4=>?_;exact xd (by omega)
def rp (x:lB):Nat:=((x.bP.length+0)+0)
theorem avb (x:lB) (n:Int) (aq:Ce x) (a7:0<=n) (aV:n<=1048576):F5 x n=some (jc n (rp x)):=by
 unfold F5;unfold rp;obtain⟨w0,fw,hR⟩:=aq;refine vw (acE _ _ hR (by omega) (by omega)) λc2=>?_;exact xd (by omega)
theorem avc (x:aAu) (n:Int) (aq:(x.length<=9223372036854775807/\∀y∈x,Ce y)) (a7:0<=n) (aV:n<=1048576):JS x n=some (jc n (dm rp x)):=by
 unfold JS;refine p1 aq.1 a7 aV λh=>?_;rw[eF _ (by omega)];exact D1 (f:=F5) rp x (λ_ _ _=>rfl) (λy hy n a7 aV=>avb y n (aq.2 y hy) a7 aV) (by omega) _ (by omega) (by omega)
def Ea (x:jx):bX:=⟨x.Kind,x.Value⟩
theorem avd (x:jx):F6 x=some (Ea x):=by
 unfold F6;rfl
theorem ave (x:aAp) (h:(x.length+0)<=1048576):F7 x=some (x.map Ea):=by
 unfold F7;have hl:x.length<=1048576:=by omega
 rw[tK _ hl (by decide)];simp only[bind_some];rw[xe (f:=F6) Ea x _ (λ_ _ _=>rfl) (λy hy=>avd y) hl]
theorem avf (x:aAl) (h:(dm (λx=>x.length+0) x)<=1048576):JT x=some (x.map (List.map Ea)):=by
 unfold JT;have hl:x.length<=1048576:=Nat.le_trans (jM _ _) h;rw[tK _ hl (by decide)];simp only[bind_some];rw[xe (f:=F7) (List.map Ea) x _ (λ_ _ _=>rfl) (λy hy=>ave y (Nat.le_trans (nk (f:=(λx=>x.length+0)) hy) h)) hl]
def Eb (x:ly):b8:=⟨x.Kind,x.Number,x.Name,(x.cm.map (List.map Ea))⟩
def nn (x:b8):Nat:=(x.Name.length+((dm (λx=>x.length+0) x.cm)+0))
theorem avg (x:ly):nn (Eb x)=tQ x:=by
 simp only[nn,tQ,Eb,A6,List.length_map]
theorem avh (x:ly) (h:(tQ x)<=1048576):F8 x=some (Eb x):=by
 unfold F8;unfold tQ at h;rw[avf _ (by omega)];rfl
theorem avi (x:aAq) (h:(dm tQ x)<=1048576):JU x=some (x.map Eb):=by
 unfold JU;have hl:x.length<=1048576:=Nat.le_trans (jM _ _) h;rw[tK _ hl (by decide)];simp only[bind_some];rw[xe (f:=F8) Eb x _ (λ_ _ _=>rfl) (λy hy=>avh y (Nat.le_trans (nk (f:=tQ) hy) h)) hl]
def Ec (x:lz):a1:=⟨x.Name,x.dW,(x.Body.map Eb)⟩
def oo (x:a1):Nat:=(x.Name.length+((dm nn x.Body)+0))
theorem avj (x:lz):oo (Ec x)=tR x:=by
 simp only[oo,tR,Ec,A6,List.length_map,avg]
theorem avk (x:lz) (h:(tR x)<=1048576):F9 x=some (Ec x):=by
 unfold F9;unfold tR at h;rw[avi _ (by omega)];rfl
theorem avl (x:aAr) (h:(dm tR x)<=1048576):JV x=some (x.map Ec):=by
 unfold JV;have hl:x.length<=1048576:=Nat.le_trans (jM _ _) h;rw[tK _ hl (by decide)];simp only[bind_some];rw[xe (f:=F9) Ec x _ (λ_ _ _=>rfl) (λy hy=>avk y (Nat.le_trans (nk (f:=tR) hy) h)) hl]
theorem acG (x:aAe) (h:(x.length+0)<=1048576):F_ x=some x:=by
 unfold F_;have hl:x.length<=1048576:=by omega
 rw[tK _ hl (by decide)];simp only[bind_some];rw[xe (f:=some) id x _ (λ_ _ _=>rfl) (λ_ _=>rfl) hl,List.map_id]
def Ed (x:lA):cM:=⟨x.cy,x.bP⟩
def np (x:cM):Nat:=((x.bP.length+0)+0)
theorem avm (x:lA):np (Ed x)=tS x:=by
 simp only[np,tS,Ed,A6,List.length_map]
theorem avn (x:lA) (h:(tS x)<=1048576):Ga x=some (Ed x):=by
 unfold Ga;unfold tS at h;rw[acG _ (by omega)];rfl
theorem avo (x:aAs) (h:(dm tS x)<=1048576):JW x=some (x.map Ed):=by
 unfold JW;have hl:x.length<=1048576:=Nat.le_trans (jM _ _) h;rw[tK _ hl (by decide)];simp only[bind_some];rw[xe (f:=Ga) Ed x _ (λ_ _ _=>rfl) (λy hy=>avn y (Nat.le_trans (nk (f:=tS) hy) h)) hl]
def Ee (x:k8):bW:=⟨x.Left,x.cH,x.Result⟩
def nr (x:bW):Nat:=(x.Left.length+(x.cH.length+(x.Result.length+0)))
theorem avp (x:k8):nr (Ee x)=tT x:=by
 simp only[nr,tT,Ee,A6,List.length_map]
theorem avq (x:k8) (h:(tT x)<=1048576):Gb x=some (Ee x):=by
 unfold Gb;unfold tT at h;rfl
theorem avr (x:aAt) (h:(dm tT x)<=1048576):JX x=some (x.map Ee):=by
 unfold JX;have hl:x.length<=1048576:=Nat.le_trans (jM _ _) h;rw[tK _ hl (by decide)];simp only[bind_some];rw[xe (f:=Gb) Ee x _ (λ_ _ _=>rfl) (λy hy=>avq y (Nat.le_trans (nk (f:=tT) hy) h)) hl]
theorem acH (x:aAb) (h:(dm List.length x)<=1048576):Gc x=some x:=by
 unfold Gc;have hl:x.length<=1048576:=Nat.le_trans (jM _ _) h;rw[tK _ hl (by decide)];simp only[bind_some];rw[xe (f:=some) id x _ (λ_ _ _=>rfl) (λ_ _=>rfl) hl,List.map_id]
def vD (x:o9):cT:=⟨(x.cz.map Ec),(x.cj.map Ed),(x.b9.map Ee),x.cC,x.cA⟩
def tU (x:cT):Nat:=((dm oo x.cz)+((dm np x.cj)+((dm nr x.b9)+((dm List.length x.cC)+((dm List.length x.cA)+0)))))
theorem acI (x:o9):tU (vD x)=y6 x:=by
 simp only[tU,y6,vD,A6,List.length_map,avj,avm,avp]
theorem avs (x:o9) (h:(y6 x)<=1048576):yn x=some (vD x):=by
 unfold yn;unfold y6 at h;rw[avl _ (by omega),avo _ (by omega),avr _ (by omega),acH _ (by omega),acH _ (by omega)];rfl
def vE (x:lB):ba:=⟨x.cy,x.Part,x.bP⟩
def ns (x:ba):Nat:=((x.bP.length+0)+0)
theorem avt (x:lB):ns (vE x)=rp x:=by
 simp only[ns,rp,vE,A6,List.length_map]
theorem avu (x:lB) (h:(rp x)<=1048576):Gd x=some (vE x):=by
 unfold Gd;unfold rp at h;rw[acG _ (by omega)];rfl
theorem avv (x:aAu) (h:(dm rp x)<=1048576):zX x=some (x.map vE):=by
 unfold zX;have hl:x.length<=1048576:=Nat.le_trans (jM _ _) h;rw[tK _ hl (by decide)];simp only[bind_some];rw[xe (f:=Gd) vE x _ (λ_ _ _=>rfl) (λy hy=>avu y (Nat.le_trans (nk (f:=rp) hy) h)) hl]
theorem TL (x:aAb) (h:(dm List.length x)<=1048576):yH x x=some true:=by
 unfold yH;have hl:x.length<=1048576:=Nat.le_trans (jM _ _) h;rw[xf,cond_false];exact abv x (λ_ _=>rfl) yZ hl
theorem avw (x:bX):Hb x x=some true:=by
 unfold Hb;simp only[yY,yZ,A8,cond_false,bind_some,Bool.not_true]
theorem avx (x:aAv) (h:(x.length+0)<=1048576):Hc x x=some true:=by
 unfold Hc;have hl:x.length<=1048576:=by omega
 rw[xf,cond_false];exact A7 (f:=Hb) x (λ_ _=>rfl) (λy hy=>avw y) hl
theorem avy (x:aAm) (h:(dm (λx=>x.length+0) x)<=1048576):K6 x x=some true:=by
 unfold K6;have hl:x.length<=1048576:=Nat.le_trans (jM _ _) h;rw[xf,cond_false];exact A7 (f:=Hc) x (λ_ _=>rfl) (λy hy=>avx y (Nat.le_trans (nk (f:=(λx=>x.length+0)) hy) h)) hl
theorem avz (x:b8) (h:(nn x)<=1048576):Hd x x=some true:=by
 unfold Hd;unfold nn at h;simp only[yY,yZ,A8,cond_false,bind_some,Bool.not_true,avy x.cm (by omega)]
theorem avA (x:aAw) (h:(dm nn x)<=1048576):K7 x x=some true:=by
 unfold K7;have hl:x.length<=1048576:=Nat.le_trans (jM _ _) h;rw[xf,cond_false];exact A7 (f:=Hd) x (λ_ _=>rfl) (λy hy=>avz y (Nat.le_trans (nk (f:=nn) hy) h)) hl
theorem avB (x:a1) (h:(oo x)<=1048576):He x x=some true:=by
 unfold He;unfold oo at h;simp only[yY,yZ,A8,cond_false,bind_some,Bool.not_true,avA x.Body (by omega)]
theorem avC (x:aAx) (h:(dm oo x)<=1048576):K8 x x=some true:=by
 unfold K8;have hl:x.length<=1048576:=Nat.le_trans (jM _ _) h;rw[xf,cond_false];exact A7 (f:=He) x (λ_ _=>rfl) (λy hy=>avB y (Nat.le_trans (nk (f:=oo) hy) h)) hl
theorem acJ (x:aAe) (h:(x.length+0)<=1048576):Hf x x=some true:=by
 unfold Hf;have hl:x.length<=1048576:=by omega
 rw[xf,cond_false];exact abv x (λ_ _=>rfl) yY hl
theorem avD (x:cM) (h:(np x)<=1048576):Hg x x=some true:=by
 unfold Hg;unfold np at h;simp only[yY,yZ,A8,cond_false,bind_some,Bool.not_true,acJ x.bP (by omega)]
theorem avE (x:aAy) (h:(dm np x)<=1048576):K9 x x=some true:=by
 unfold K9;have hl:x.length<=1048576:=Nat.le_trans (jM _ _) h;rw[xf,cond_false];exact A7 (f:=Hg) x (λ_ _=>rfl) (λy hy=>avD y (Nat.le_trans (nk (f:=np) hy) h)) hl
theorem avF (x:bW) (h:(nr x)<=1048576):Hh x x=some true:=by
 unfold Hh;unfold nr at h;simp only[yY,yZ,A8,cond_false,bind_some,Bool.not_true]
theorem avG (x:aAz) (h:(dm nr x)<=1048576):K_ x x=some true:=by
 unfold K_;have hl:x.length<=1048576:=Nat.le_trans (jM _ _) h;rw[xf,cond_false];exact A7 (f:=Hh) x (λ_ _=>rfl) (λy hy=>avF y (Nat.le_trans (nk (f:=nr) hy) h)) hl
theorem avH (x:cT) (h:(tU x)<=1048576):Hi x x=some true:=by
 unfold Hi;unfold tU at h;simp only[yY,yZ,A8,cond_false,bind_some,Bool.not_true,avC x.cz (by omega),avE x.cj (by omega),avG x.b9 (by omega),TL x.cC (by omega),TL x.cA (by omega)]
theorem avI (x:ba) (h:(ns x)<=1048576):Hj x x=some true:=by
 unfold Hj;unfold ns at h;simp only[yY,yZ,A8,cond_false,bind_some,Bool.not_true,acJ x.bP (by omega)]
theorem avJ (x:aAA) (h:(dm ns x)<=1048576):La x x=some true:=by
 unfold La;have hl:x.length<=1048576:=Nat.le_trans (jM _ _) h;rw[xf,cond_false];exact A7 (f:=Hj) x (λ_ _=>rfl) (λy hy=>avI y (Nat.le_trans (nk (f:=ns) hy) h)) hl
theorem Ef (k:Int) (a7:0<=k) (ab:k<=1099511627776):∃t,vp k=some t:=by
 have key:∀(n:Nat) (k:Int),0<=k->k<=n->n<=1099511627776->∀t:aAc,t.length+n<=1099511627776->∃r,∀m,n<m->AE m k t=some r:=by
  intro n;induction n with
  |zero=>
   intro k h1 af ay t a6;refine⟨[109]++t,λm hm=>?_⟩;obtain⟨m,rfl⟩:∃j,m=j+1:=⟨m-1,by omega⟩
   simp only[AE,Lb];rw[show decide (0<k)=false by simp;omega,cond_false,show iG (1+t.length)=some () by unfold iG;rw[if_pos (by omega)]];rfl
  |succ n ih=>
   intro k h1 af ay t a6;by_cases hk:0<k
   .have ao:Int.tdiv k 10=k/10:=Int.tdiv_eq_ediv_of_nonneg h1;have hw:i64.wrap (Int.tdiv k 10)=k/10:=by rw[ao];exact eF _ (by omega)
    obtain⟨r,aR⟩:=ih (k/10) (by omega) (by omega) (by omega) ([(pr (i64.wrap (48+(Int.tmod k 10))))]++t) (by simp only[List.length_append,List.length_cons,List.length_nil];omega);refine⟨r,λm hm=>?_⟩;obtain⟨m,rfl⟩:∃j,m=j+1:=⟨m-1,by omega⟩
    simp only[AE,Lb];rw[show decide (0<k)=true by simp;omega,cond_true,show iG (1+t.length)=some () by unfold iG;rw[if_pos (by omega)]];simp only[bind_some,hw];exact aR m (by omega)
   .refine⟨[109]++t,λm hm=>?_⟩;obtain⟨m,rfl⟩:∃j,m=j+1:=⟨m-1,by omega⟩
    simp only[AE,Lb];rw[show decide (0<k)=false by simp;omega,cond_false,show iG (1+t.length)=some () by unfold iG;rw[if_pos (by omega)]];rfl
 unfold vp;by_cases hk:k<=0
 .exact⟨_,by rw[show decide (k<=0)=true by simpa using hk];rfl⟩
 .obtain⟨r,aR⟩:=key k.toNat k a7 (by omega) (by omega) [] (by simp only[List.length_nil];omega);exact⟨r,by rw[show decide (k<=0)=false by simp;omega,cond_false];exact e0 (k.toNat+1) λm hm=>aR m (by omega)⟩
theorem avK (x:aAv) (k:Int) (a7:0<=k) (ab:k+64*(x.length+0)<=1099511627776):∃(cV:aAv) (c:Nat),c<=64*(x.length+0)/\Lc x k=some (k+(c:Int),cV):=by
 unfold Lc;have e:gn (λ_=>64) x=64*x.length:=Tr 64 x;obtain⟨cV,c,h1,af⟩:=y1 (l:=DA) (λ_=>64) (λm v k=>by simp only[DA,Rv];rw[ee (Nat.le_refl _)];rfl) (λx k a7 ab=>by
  have fw:i64.wrap (k+1)=k+1:=eF _ (by omega);have hR:i64.wrap ((k+1)+1)=(k+1)+1:=eF _ (by omega);refine⟨(bX.mk k (k+1)),1+1,by omega,λm d r ao=>?_⟩;simp only[DA,Rv];rw[vy];simp only[cond_true,vx,xi,bind_some,fw,hR];rw[vz ao];rw[show(((k+1)+1):Int)=k+((1+1:Nat):Int) by omega]) x k a7 (by omega) (by omega)
 exact⟨cV,c,by omega,af⟩
theorem avL (x:aAm) (k:Int) (a7:0<=k) (ab:k+64*(dm (λx=>x.length+0) x)<=1099511627776):∃(cV:aAm) (c:Nat),c<=64*(dm (λx=>x.length+0) x)/\Ld x k=some (k+(c:Int),cV):=by
 unfold Ld;have e:gn (λx=>64*((x.length+0)+1)) x=64*dm (λx=>x.length+0) x:=y0 (λx=>x.length+0) x;have hl:x.length<=dm (λx=>x.length+0) x:=jM _ _;obtain⟨cV,c,h1,af⟩:=y1 (l:=DB) (λx=>64*((x.length+0)+1)) (λm v k=>by simp only[DB,Rw];rw[ee (Nat.le_refl _)];rfl) (λx k a7 ab=>by
  obtain⟨fs,c1,ha,m1⟩:=avK x k (by omega) (by omega);refine⟨fs,c1,by omega,λm d r ao=>?_⟩;simp only[DB,Rw];rw[vy];simp only[cond_true,vx,xi,bind_some,m1];rw[vz ao]) x k a7 (by omega) (by omega)
 exact⟨cV,c,by omega,af⟩
theorem avM (x:aAw) (k:Int) (a7:0<=k) (ab:k+64*(dm nn x)<=1099511627776):∃(cV:aAw) (c:Nat),c<=64*(dm nn x)/\Le x k=some (k+(c:Int),cV):=by
 unfold Le;have e:gn (λx=>64*((nn x)+1)) x=64*dm nn x:=y0 nn x;have hl:x.length<=dm nn x:=jM _ _;obtain⟨cV,c,h1,af⟩:=y1 (l:=DC) (λx=>64*((nn x)+1)) (λm v k=>by simp only[DC,Rx];rw[ee (Nat.le_refl _)];rfl) (λx k a7 ab=>by
  simp only[nn]at ab⊢;have fw:i64.wrap (k+1)=k+1:=eF _ (by omega);have hR:i64.wrap ((k+1)+1)=(k+1)+1:=eF _ (by omega);obtain⟨pI,t3⟩:=Ef ((k+1)+1) (by omega) (by omega);have qZ:i64.wrap (((k+1)+1)+1)=((k+1)+1)+1:=eF _ (by omega);obtain⟨tJ,c4,bZ,m4⟩:=avL x.cm (((k+1)+1)+1) (by omega) (by omega);refine⟨(b8.mk k (k+1) pI tJ),1+1+1+c4,by omega,λm d r ao=>?_⟩;simp only[DC,Rx];rw[vy];simp only[cond_true,vx,xi,bind_some,fw,hR,t3,qZ,m4];rw[vz ao];rw[show(((((k+1)+1)+1)+(c4:Int)):Int)=k+((1+1+1+c4:Nat):Int) by omega]) x k a7 (by omega) (by omega)
 exact⟨cV,c,by omega,af⟩
theorem avN (x:aAx) (k:Int) (a7:0<=k) (ab:k+64*(dm oo x)<=1099511627776):∃(cV:aAx) (c:Nat),c<=64*(dm oo x)/\Lf x k=some (k+(c:Int),cV):=by
 unfold Lf;have e:gn (λx=>64*((oo x)+1)) x=64*dm oo x:=y0 oo x;have hl:x.length<=dm oo x:=jM _ _;obtain⟨cV,c,h1,af⟩:=y1 (l:=DD) (λx=>64*((oo x)+1)) (λm v k=>by simp only[DD,Ry];rw[ee (Nat.le_refl _)];rfl) (λx k a7 ab=>by
  simp only[oo]at ab⊢;obtain⟨s1,t1⟩:=Ef k (by omega) (by omega);have fw:i64.wrap (k+1)=k+1:=eF _ (by omega);have hR:i64.wrap ((k+1)+1)=(k+1)+1:=eF _ (by omega);obtain⟨mZ,c3,fV,m3⟩:=avM x.Body ((k+1)+1) (by omega) (by omega);refine⟨(a1.mk s1 (k+1) mZ),1+1+c3,by omega,λm d r ao=>?_⟩;simp only[DD,Ry];rw[vy];simp only[cond_true,vx,xi,bind_some,t1,fw,hR,m3];rw[vz ao];rw[show((((k+1)+1)+(c3:Int)):Int)=k+((1+1+c3:Nat):Int) by omega]) x k a7 (by omega) (by omega)
 exact⟨cV,c,by omega,af⟩
theorem acK (x:aAe) (k:Int) (a7:0<=k) (ab:k+64*(x.length+0)<=1099511627776):∃(cV:aAe) (c:Nat),c<=64*(x.length+0)/\Hk x k=some (k+(c:Int),cV):=by
 unfold Hk;have e:gn (λ_=>64) x=64*x.length:=Tr 64 x;obtain⟨cV,c,h1,af⟩:=y1 (l:=DE) (λ_=>64) (λm v k=>by simp only[DE,Rz];rw[ee (Nat.le_refl _)];rfl) (λx k a7 ab=>by
  have fw:i64.wrap (k+1)=k+1:=eF _ (by omega);refine⟨k,1,by omega,λm d r ao=>?_⟩;simp only[DE,Rz];rw[vy];simp only[cond_true,vx,xi,bind_some,fw];rw[vz ao];rw[show((k+1):Int)=k+((1:Nat):Int) by omega]) x k a7 (by omega) (by omega)
 exact⟨cV,c,by omega,af⟩
theorem avO (x:aAy) (k:Int) (a7:0<=k) (ab:k+64*(dm np x)<=1099511627776):∃(cV:aAy) (c:Nat),c<=64*(dm np x)/\Lg x k=some (k+(c:Int),cV):=by
 unfold Lg;have e:gn (λx=>64*((np x)+1)) x=64*dm np x:=y0 np x;have hl:x.length<=dm np x:=jM _ _;obtain⟨cV,c,h1,af⟩:=y1 (l:=DF) (λx=>64*((np x)+1)) (λm v k=>by simp only[DF,RA];rw[ee (Nat.le_refl _)];rfl) (λx k a7 ab=>by
  simp only[np]at ab⊢;have fw:i64.wrap (k+1)=k+1:=eF _ (by omega);obtain⟨hn,c2,fI,m2⟩:=acK x.bP (k+1) (by omega) (by omega);refine⟨(cM.mk k hn),1+c2,by omega,λm d r ao=>?_⟩;simp only[DF,RA];rw[vy];simp only[cond_true,vx,xi,bind_some,fw,m2];rw[vz ao];rw[show(((k+1)+(c2:Int)):Int)=k+((1+c2:Nat):Int) by omega]) x k a7 (by omega) (by omega)
 exact⟨cV,c,by omega,af⟩
theorem avP (x:aAz) (k:Int) (a7:0<=k) (ab:k+64*(dm nr x)<=1099511627776):∃(cV:aAz) (c:Nat),c<=64*(dm nr x)/\Lh x k=some (k+(c:Int),cV):=by
 unfold Lh;have e:gn (λx=>64*((nr x)+1)) x=64*dm nr x:=y0 nr x;have hl:x.length<=dm nr x:=jM _ _;obtain⟨cV,c,h1,af⟩:=y1 (l:=DG) (λx=>64*((nr x)+1)) (λm v k=>by simp only[DG,RB];rw[ee (Nat.le_refl _)];rfl) (λx k a7 ab=>by
  simp only[nr]at ab⊢;obtain⟨s1,t1⟩:=Ef k (by omega) (by omega);have fw:i64.wrap (k+1)=k+1:=eF _ (by omega);obtain⟨s2,t2⟩:=Ef (k+1) (by omega) (by omega);have hR:i64.wrap ((k+1)+1)=(k+1)+1:=eF _ (by omega);obtain⟨pI,t3⟩:=Ef ((k+1)+1) (by omega) (by omega);have qZ:i64.wrap (((k+1)+1)+1)=((k+1)+1)+1:=eF _ (by omega);refine⟨(bW.mk s1 s2 pI),1+1+1,by omega,λm d r ao=>?_⟩;simp only[DG,RB];rw[vy];simp only[cond_true,vx,xi,bind_some,t1,fw,t2,hR,t3,qZ];rw[vz ao];rw[show((((k+1)+1)+1):Int)=k+((1+1+1:Nat):Int) by omega]) x k a7 (by omega) (by omega)
 exact⟨cV,c,by omega,af⟩
theorem TM (x:aAb) (k:Int) (a7:0<=k) (ab:k+64*(dm List.length x)<=1099511627776):∃(cV:aAb) (c:Nat),c<=64*(dm List.length x)/\DI x k=some (k+(c:Int),cV)/\Hl cV k=some (k+(c:Int)):=by
 unfold DI Hl;have e:gn (λx=>64*(x.length+1)) x=64*dm List.length x:=y0 List.length x;have hl:x.length<=dm List.length x:=jM _ _;obtain⟨cV,c,h1,af,ay⟩:=atS (l:=DH) (hl:=DK) (λx=>64*(x.length+1)) (λm v k=>by simp only[DH,RC];rw[ee (Nat.le_refl _)];rfl) (λa m k=>by simp only[DK,RE];rw[ee (Nat.le_refl _)];rfl) (λx k a7 ab=>by
  obtain⟨s1,t1⟩:=Ef k (by omega) (by omega);have fw:i64.wrap (k+1)=k+1:=eF _ (by omega);refine⟨s1,1,by omega,λm d r ao=>⟨?_,?_⟩⟩
  .simp only[DH,RC];rw[vy];simp only[cond_true,vx,xi,bind_some,t1,fw];rw[vz ao];rw[show((k+1):Int)=k+((1:Nat):Int) by omega]
  .simp only[DK,RE];rw[vy];simp only[cond_true,cond_false,vx,bind_some,bne_self_eq_false,beq_self_eq_true,Bool.not_true,t1,fw];rw[vz ao];rw[show((k+1):Int)=k+((1:Nat):Int) by omega]) x k a7 (by omega) (by omega)
 exact⟨cV,c,by omega,af,ay⟩
theorem avQ (x:cT) (k:Int) (a7:0<=k) (ab:k+64*((tU x)+1)<=1099511627776):∃(gf:aAx) (fs:aAy) (hn:aAz) (mZ:aAb) (tJ:aAb) (c:Nat),c<=64*((tU x)+1)/\Li x.cz x.cj x.b9 x.cC x.cA k=some (k+(c:Int),gf,fs,hn,mZ,tJ):=by
 unfold Li;simp only[tU]at ab⊢;obtain⟨fs,c1,ha,m1⟩:=avN x.cz k (by omega) (by omega);obtain⟨hn,c2,fI,m2⟩:=avO x.cj (k+(c1:Int)) (by omega) (by omega);obtain⟨mZ,c3,fV,m3⟩:=avP x.b9 ((k+(c1:Int))+(c2:Int)) (by omega) (by omega);obtain⟨tJ,c4,bZ,m4⟩:=TM x.cC (((k+(c1:Int))+(c2:Int))+(c3:Int)) (by omega) (by omega);obtain⟨avR,c5,c7,m5⟩:=TM x.cA ((((k+(c1:Int))+(c2:Int))+(c3:Int))+(c4:Int)) (by omega) (by omega);refine⟨fs,hn,mZ,tJ,avR,c1+c2+c3+c4+c5,by omega,?_⟩;simp only[bind_some,m1,m2,m3,m4,m5];rw[show(k+((c1+c2+c3+c4+c5:Nat):Int))=(((((k+(c1:Int))+(c2:Int))+(c3:Int))+(c4:Int))+(c5:Int)) by omega]
theorem avS (x:aAA) (k:Int) (a7:0<=k) (ab:k+64*(dm ns x)<=1099511627776):∃(cV:aAA) (c:Nat),c<=64*(dm ns x)/\Lj x k=some (k+(c:Int),cV):=by
 unfold Lj;have e:gn (λx=>64*((ns x)+1)) x=64*dm ns x:=y0 ns x;have hl:x.length<=dm ns x:=jM _ _;obtain⟨cV,c,h1,af⟩:=y1 (l:=DJ) (λx=>64*((ns x)+1)) (λm v k=>by simp only[DJ,RD];rw[ee (Nat.le_refl _)];rfl) (λx k a7 ab=>by
  simp only[ns]at ab⊢;have fw:i64.wrap (k+1)=k+1:=eF _ (by omega);have hR:i64.wrap ((k+1)+1)=(k+1)+1:=eF _ (by omega);obtain⟨mZ,c3,fV,m3⟩:=acK x.bP ((k+1)+1) (by omega) (by omega);refine⟨(ba.mk k (k+1) mZ),1+1+c3,by omega,λm d r ao=>?_⟩;simp only[DJ,RD];rw[vy];simp only[cond_true,vx,xi,bind_some,fw,hR,m3];rw[vz ao];rw[show((((k+1)+1)+(c3:Int)):Int)=k+((1+1+c3:Nat):Int) by omega]) x k a7 (by omega) (by omega)
 exact⟨cV,c,by omega,af⟩
theorem avT {list:aAx} (h:dm oo list<=1048576):p4 list:=by
 refine⟨Nat.le_trans (jM _ _) h,λd ao=>?_⟩;have h1:=Nat.le_trans (nk (f:=oo) ao) h;unfold oo at h1;refine⟨by omega,Nat.le_trans (jM nn _) (by omega),λp aw=>?_⟩;have a7:nn p<=dm nn d.Body:=nk aw;have af:nn p<=1048576:=by omega
 clear a7;unfold nn at af;have ay:=jM (λx:List bX=>x.length+0) p.cm;refine⟨by omega,by omega,λe he=>?_⟩;have a_:e.length+0<=_:=nk (f:=λx:List bX=>x.length+0) he;omega
def mK (e:aAx) (i:Nat):aAc:=(e.getD i ⟨[],0,[]⟩).Name
theorem xp {e:aAx} {i:Nat} (aj:i<e.length):e.getD i ⟨[],0,[]⟩=e[i]:=by simp[List.getD,aj]
def tV (e:aAx) (i:Nat):Bool:=ga (λj=> !(mK e j==mK e i)) i
noncomputable def sC (e:aAx) (i:Nat):Bool:=match wt e (e.getD i ⟨[],0,[]⟩)with
 |some r=>r.2==0
 |none=>false
noncomputable def l9 (e:aAx):Bool:=((decide (1<=e.length)&&decide (e.length<=4))&&ga (λi=>(hB (mK e i)&&xo (e.getD i ⟨[],0,[]⟩))&&tV e i) e.length)&&ga (sC e) e.length
theorem TN {e:aAx} (h:p4 e) (a_:e.length<=4) (aw:D_ e=true) {i:Nat} (aj:i<e.length):
  ∃r,wt e e[i]=some r/\GR e e[i]=some r/\decide (0<r.2)= !(sC e i)/\(r.2 !=0)= !(sC e i)/\(sC e i=true->xn e[i].Body=true/\r.2=0):=by
 obtain⟨r,ef,bg,dt,bQ⟩:=auZ e a_ e[i] (h.2 _ (List.getElem_mem aj)) (acD aw i aj);have ab:sC e i=(r.2==0):=by unfold sC;rw[xp aj,ef]
 refine⟨r,ef,bg,?_,?_,λkz=>?_⟩
 .rw[ab];by_cases a7:r.2=0
  .rw[a7];rfl
  .have aK:(r.2==0)=false:=by simpa using a7
   rw[aK];exact decide_eq_true (by omega)
 .rw[ab];rfl
 .rw[ab]at kz;have a7:r.2=0:=by simpa using kz
  exact⟨bQ a7,a7⟩
theorem xq {p q:Nat->Bool} {n:Nat}:ga (λi=>p i&&q i) n=(ga p n&&ga q n):=by
 rw[Bool.eq_iff_iff,Bool.and_eq_true,pk,pk,pk];constructor
 .intro h;exact⟨λi aj=>((Bool.and_eq_true _ _).mp (h i aj)).1,λi aj=>((Bool.and_eq_true _ _).mp (h i aj)).2⟩
 .rintro⟨h1,af⟩ i aj;rw[h1 i aj,af i aj];rfl
theorem avU (e:aAx) (h:p4 e):J3 e=some (l9 e):=by
 unfold J3 l9;by_cases hl:1<=e.length/\e.length<=4
 .have d1:(((e.length:Int)==0)||decide ((4:Int)<(e.length:Int)))=false:=by
   rw[Bool.or_eq_false_iff,beq_eq_false_iff_ne,decide_eq_false_iff_not];omega
  have d2:(decide (1<=e.length)&&decide (e.length<=4))=true:=by simp;omega
  rw[d1,d2,cond_false,Bool.true_and];rw[Bg (l:=λm i=>wu e m i) (n:=e.length) (λi=>(hB (mK e i)&&xo (e.getD i ⟨[],0,[]⟩))&&tV e i) (lim λn=>zZ e n 0) (some false)]
  .cases bs:ga (λi=>(hB (mK e i)&&xo (e.getD i ⟨[],0,[]⟩))&&tV e i) e.length
   .rfl
   .have aw:D_ e=true:=by
     rw[xq,xq,Bool.and_eq_true,Bool.and_eq_true]at bs;exact bs.1.2
    rw[cond_true,Bool.true_and];rw[Bg (l:=λm i=>zZ e m i) (n:=e.length) (sC e) (some true) (some false)]
    .cases ga (sC e) e.length<;>rfl
    .intro m;simp only[zZ,PE];rw[ee (Nat.le_refl _)];rfl
    .intro i aj m;obtain⟨r,ef,_,dt,_⟩:=TN h hl.2 aw aj;simp only[zZ,PE];rw[ek aj,dO _ i aj,ed i _ aj (by omega)];simp only[cond_true,bind_some,ef,dt];cases sC e i<;>rfl
  .intro m;simp only[wu,PF];rw[ee (Nat.le_refl _)];rfl
  .intro i aj m;simp only[wu,PF];rw[ek aj,dO _ i aj];simp only[cond_true,bind_some,D5,ml];rw[Bg (l:=λjT j=>Cm (wu e m) e jT (i:Int) j) (n:=i) (λj=> !(mK e j==mK e i)) (wu e m ((i+1:Nat):Int)) (some false)]
   .have aK:mK e i=e[i].Name:=by unfold mK;rw[xp aj]
    rw[<-aK,xp aj];show cond (!hB (mK e i)) _ (cond (!xo e[i]) _ (cond (tV e i) _ _))=_;cases hB (mK e i)<;>cases xo e[i]<;>cases tV e i<;>rfl
   .intro jT;simp only[Cm,PC];rw[ee (Nat.le_refl _),ed i _ aj (by omega)];rfl
   .intro j bE jT;have Mi:j<e.length:=by omega
    simp only[Cm,PC];rw[ek bE,dO _ j Mi,dO _ i aj,ed j _ bE (by omega)];simp only[cond_true,bind_some,mK,xp aj,xp Mi];cases e[j].Name==e[i].Name<;>rfl
 .have d1:(((e.length:Int)==0)||decide ((4:Int)<(e.length:Int)))=true:=by
   by_cases a7:e.length=0
   .simp[a7]
   .have:decide ((4:Int)<(e.length:Int))=true:=decide_eq_true (by omega);rw[this,Bool.or_true]
  have d2:(decide (1<=e.length)&&decide (e.length<=4))=false:=by
   rw[Bool.and_eq_false_iff,decide_eq_false_iff_not,decide_eq_false_iff_not];omega
  rw[d1,d2];rfl
theorem avV (e:aAx) (i:Nat) (aj:i<e.length) (a_:e.length<=4):((gp e 0 (i:Int)).bind λaX=>(Kw aX e[i].Name).bind λbz=>some (decide (0<=bz)))=some (!(tV e i)):=by
 rw[xc e i (by omega)];simp only[bind_some];unfold Kw Ql;have hlen:(e.take i).length=i:=by rw[List.length_take];omega
 rw[tL (n:=i) (λj=>mK e j==mK e i)]
 .simp only[bind_some,xg];rfl
 .intro m;simp only[GI,Qk];rw[hlen,ee (Nat.le_refl _)];rfl
 .intro j bE m;have Mi:j<e.length:=by omega
  simp only[GI,Qk];rw[hlen,ek bE,dO _ j (by omega),ed j _ bE (by omega)];have:(e.take i)[j]'(by omega)=e[j]:=by simp
  simp only[cond_true,bind_some,Qj,this,mK,xp aj,xp Mi]
theorem avW (e:aAx) (h:p4 e):KE e=some (l9 e):=by
 unfold KE la l9;have nA:decide ((1:Int)<=(e.length:Int))=decide (1<=e.length):=decide_eq_decide.2 (by omega);have lq:decide ((e.length:Int)<=4)=decide (e.length<=4):=decide_eq_decide.2 (by omega);simp only[bind_some];rw[nA,lq];cases hl:(decide (1<=e.length)&&decide (e.length<=4))
 .rfl
 .have nO:1<=e.length/\e.length<=4:=by simpa using hl
  rw[au0 e h.1];simp only[Bool.not_true,cond_false,bind_some,Bool.true_and];have avX:ga (λi=>(hB (mK e i)&&xo (e.getD i ⟨[],0,[]⟩))&&tV e i) e.length=((ga (λi=>hB (mK e i)) e.length&&D_ e)&&ga (tV e) e.length):=by
   rw[xq,xq];rfl
  rw[avX];cases aw:D_ e
  .simp
  .simp only[Bool.not_true,cond_false,Bool.and_true];rw[Bg (l:=λm i=>C0 e m i) (n:=e.length) (λi=>(hB (mK e i)&&tV e i)&&sC e i) (some true) (some false)]
   .rw[xq,xq];cases((ga (λi=>hB (mK e i)) e.length&&ga (λi=>tV e i) e.length)&&ga (λi=>sC e i) e.length)<;>rfl
   .intro m;simp only[C0,Qv];rw[ee (Nat.le_refl _)];rfl
   .intro i aj m;obtain⟨r,_,bg,_,bQ,_⟩:=TN h nO.2 aw aj;have aV:=avV e i aj nO.2;have TO:=(h.2 _ (List.getElem_mem aj)).1;simp only[C0,Qv];rw[ek aj,dO _ i aj,ed i _ aj (by omega)];simp only[cond_true,bind_some,aca _ (show e[i].Name.length<=140737488355328 by omega),mK,xp aj];cases hB e[i].Name
    .rfl
    .simp only[Bool.not_true,cond_false,Bool.true_and];rw[xc e i (by omega)]at aV⊢;simp only[bind_some]at aV⊢;obtain⟨v,aB,Bi⟩:=aM aV;rw[aB];simp only[some.injEq]at Bi;simp only[bind_some,Bi,bg,bQ];cases tV e i<;>cases sC e i<;>rfl
theorem Eg {e:aAx} (h:p4 e) (aB:l9 e=true):1<=e.length/\e.length<=4/\∀i (aj:i<e.length),(0<=e[i].dW/\e[i].dW<=3)/\xn e[i].Body=true/\hB e[i].Name=true/\
  ∃r,wt e e[i]=some r/\r.2=0:=by
 unfold l9 at aB;rw[Bool.and_eq_true,Bool.and_eq_true,Bool.and_eq_true,decide_eq_true_eq,decide_eq_true_eq,xq,xq,Bool.and_eq_true,Bool.and_eq_true]at aB;obtain⟨⟨⟨h1,af⟩,⟨ay,a_⟩,b1⟩,dn⟩:=aB;refine⟨h1,af,λi aj=>?_⟩;obtain⟨r,ef,_,_,_,cG⟩:=TN h af a_ aj;obtain⟨s1,s2⟩:=cG (pk.1 dn i aj);have aV:=pk.1 ay i aj;rw[mK,xp aj]at aV;exact⟨acD a_ i aj,s1,aV,r,ef,s2⟩
theorem acL {e:aAx} (h:p4 e) (aB:l9 e=true) {i j:Nat} (aj:i<e.length) (bE:j<e[i].Body.length):
  wm e[i] (j:Int)=some (jO e[i] j).scope/\∃ps,CY e[i]=some ps/\bh ps (j:Int)=some (jO e[i] j):=by
 obtain⟨_,_,ao⟩:=Eg h aB;obtain⟨aw,ae,_⟩:=ao i aj;obtain⟨s1,s2,pI⟩:=Bh ae;have ab:=(h.2 _ (List.getElem_mem aj)).2.1;obtain⟨gP,_,_,_,rB⟩:=Mh e[i] ae aw j bE;exact⟨gP,_,acr e[i] ab s1 aw.1 (by omega),by unfold bh;rw[if_pos (by omega)];exact rB⟩
theorem avY {α:Type} {L:Nat->aAc->Int->Option aAc} (a:List α) (t:α->aAc) (c:UInt8) (k:Nat) (hk:∀x∈a,(t x).length<=k)
  (a7:∀m v,L (m+1) v (a.length:Int)=some v)
  (ae:∀i (h:i<a.length) m v,v.length<=i*(k+1)->L (m+1) v (i:Int)=L m ((if i=0 then v else v++[c])++t a[i]) ((i+1:Nat):Int)):lim (λm=>L m [] 0)=some (jQ (a.map t) [c]):=by
 have key:∀i,i<=a.length->∀m,a.length-i<m->L m (jQ ((a.take i).map t) [c]) (i:Int)=some (jQ (a.map t) [c]):=by
  refine down a.length ?_ ?_
  .intro m hm;obtain⟨m,rfl⟩:∃j,m=j+1:=⟨m-1,by omega⟩
   rw[a7,List.take_length]
  .intro i aj ih m hm;obtain⟨m,rfl⟩:∃j,m=j+1:=⟨m-1,by omega⟩
   have hl:(jQ ((a.take i).map t) [c]).length<=i*(k+1):=by
    have:=Ic c k ((a.take i).map t) λx aq=>by
     obtain⟨y,hy,rfl⟩:=List.mem_map.1 aq;exact hk y (List.mem_of_mem_take hy)
    rwa [List.length_map,List.length_take,Nat.min_eq_left (Nat.le_of_lt aj)]at this
   rw[ae i aj m _ hl,<-ih m (by omega)];congr 1;rw[List.take_succ_eq_append_getElem aj,List.map_append,List.map_cons,List.map_nil];by_cases h:i=0
   .subst h;rw[if_pos rfl,List.take_zero,List.map_nil,List.nil_append,join_one];rfl
   .rw[if_neg h,ab9 _ _ _ (by simp;exact⟨h,by intro e;subst e;simp at aj⟩),List.append_assoc]
 refine e0 (a.length+1) λm hm=>?_;have:=key 0 (by omega) m (by omega);simpa [jQ,List.intercalate,List.intersperse]using this
theorem avZ:∀d:Fin 10,pr (i64.wrap (48+((d:Nat):Int)))=UInt8.ofNat (48+d):=by decide
theorem av0 (n:Nat) (h:n<10):pr (i64.wrap (48+(n:Int)))=UInt8.ofNat (48+n):=avZ ⟨n,h⟩
theorem av1 (a:UInt8):yr [a]=some [a]:=by
 unfold yr;refine e0 2 λm hm=>?_;obtain⟨m,rfl⟩:∃j,m=j+2:=⟨m-2,by omega⟩
 rfl
theorem av2 (a b:UInt8):yr [a,b]=some [b,a]:=by
 unfold yr;refine e0 3 λm hm=>?_;obtain⟨m,rfl⟩:∃j,m=j+3:=⟨m-3,by omega⟩
 rfl
theorem acM (a:Int) (m:Nat) (v:aAc) (n:Nat) (aV:n≠0) (azZ:n<1000) (aB:v.length<=10):wy a (m+1) v (n:Int)=wy a m (v++[UInt8.ofNat (48+n%10)]) ((n/10:Nat):Int):=by
 simp only[wy,PS,Kd];have aK:((n:Int) !=0)=true:=by simp;omega
 have aT:Int.tmod (n:Int) 10=((n%10:Nat):Int):=rfl;have aU:decide (((n%10:Nat):Int)<0)=false:=by simp only[decide_eq_false_iff_not];omega
 have b_:Int.tdiv (n:Int) 10=((n/10:Nat):Int):=rfl;rw[aK,aT,aU,b_,av0 (n%10) (by omega),eF ((n/10:Nat):Int) (by omega),jN (by omega) (by omega)];rfl
theorem acN (a:Int) (bs:0<=a) (m:Nat) (v:aAc):wy a (m+1) v 0=yr v:=by
 simp only[wy,PS];have e:decide (a<0)=false:=by simp only[decide_eq_false_iff_not];omega
 rw[e];rfl
theorem av3 (n:Nat) (h:n<100):Gt (n:Int)=some (jn n):=by
 unfold Gt;by_cases a7:n=0
 .subst a7;rfl
 have e:((n:Int)==0)=false:=by simp;omega
 rw[e,cond_false];refine e0 3 λm hm=>?_;obtain⟨m,rfl⟩:∃j,m=j+3:=⟨m-3,by omega⟩
 rw[acM _ _ _ n a7 (by omega) (by simp)];by_cases h1:n<10
 .have aK:n/10=0:=by omega
  have aT:n%10=n:=by omega
  rw[aK,aT];rw[show(((0:Nat):Int))=0 from rfl,acN _ (by omega),List.nil_append,av1,jn,if_pos h1]
 .rw[acM _ _ _ (n/10) (by omega) (by omega) (by simp)];have aK:n/10/10=0:=by omega
  have aT:n/10%10=n/10:=by omega
  rw[aK,aT];rw[show(((0:Nat):Int))=0 from rfl,acN _ (by omega),List.nil_append,List.singleton_append,av2,jn,if_neg h1]
def iV (a:aAe):aAc:=if a=[]then [45]else jQ (a.map kv) [44]
theorem xr (a:aAe):(iV a).length<=a.length*3+1:=by
 unfold iV;split
 .simp
 .have:=Ic 44 2 (a.map kv) λx aq=>by
   obtain⟨y,_,rfl⟩:=List.mem_map.1 aq;exact Ie y
  rw[List.length_map]at this;omega
theorem av4 {x:Int} (h:0<=x/\x<=63):Gt x=some (kv x):=by
 have:=av3 x.toNat (by omega)
 rwa [Int.toNat_of_nonneg h.1]at this
theorem av5 (a:aAe) (h:a.length<=64) (aB:∀x∈a,0<=x/\x<=63):Kf a=some (iV a):=by
 unfold Kf iV;by_cases bs:a=[]
 .subst bs;rfl
 have e:((a.length:Int)==0)=false:=by
  have:a.length≠0:=λh=>bs (List.length_eq_zero_iff.1 h);simp;exact bs
 rw[e,cond_false,if_neg bs];refine avY (L:=z8 a) a kv 44 2 (λx _=>Ie x) (λm v=>?_) (λi aj m v hl=>?_)
 .simp only[z8,PT];rw[ee (Nat.le_refl _)];rfl
 .simp only[z8,PT,Ke];have aq:=Ie a[i];have ok:∀n,n<=1048576->iG n=some ():=λn aV=>by unfold iG;rw[if_pos (by omega)]
  rw[ek aj,dO _ i aj,ed i _ aj (by omega),ok _ (by omega)];simp only[cond_true,bind_some];rw[av4 (aB _ (List.getElem_mem aj))];simp only[bind_some];by_cases a7:i=0
  .subst a7;rw[if_pos rfl,show decide ((0:Int)<((0:Nat):Int))=false from by decide,cond_false,ok _ (by omega)];rfl
  .rw[if_neg a7,show decide ((0:Int)<(i:Int))=true from by simp;omega,cond_true,ok _ (by simp only[List.length_append,List.length_cons,List.length_nil];omega)];rfl
theorem acO (a:aAe) (h:a.length<=64) (aB:∀x∈a,0<=x/\x<=63):KS a=some true:=by
 unfold KS QV QU;have e:decide ((a.length:Int)<=64)=true:=by simp;omega
 rw[e,cond_true];have:=tL (n:=a.length) (l:=Da a) (λ_=>false) (λm=>?_) (λi aj m=>?_)
 .rw[this];simp only[bind_some,xg];have:ga (λ_=> !false) a.length=true:=by simp[ga]
  rw[this];rfl
 .simp only[Da,QT];rw[ee (Nat.le_refl _)];rfl
 .have aq:=aB _ (List.getElem_mem aj);simp only[Da,QT,QS,la];rw[ek aj,dO _ i aj,ed i _ aj (by omega)];simp only[cond_true,bind_some,show decide (-1000000000000<=a[i])=true from by simp;omega,show decide (a[i]<=1000000000000)=true from by simp;omega,Bool.and_self,Bool.not_true,cond_false]
theorem TP (a:aAe) (h:a.length<=64) (aB:∀x∈a,0<=x/\x<=63):G2 a=some (iV a):=by
 unfold G2 iV;rw[acO a h aB];simp only[bind_some,Bool.not_true,cond_false];by_cases bs:a=[]
 .subst bs;rfl
 have e:((a.length:Int)==0)=false:=by
  have:a.length≠0:=λh=>bs (List.length_eq_zero_iff.1 h);simp;exact bs
 rw[e,cond_false,if_neg bs];first|exact ab_ a h aB|(rw[ab_ a h aB];rfl)
mutual
def jP:dE->aAv
 | .mk t a=>t::ka a
def ka:List dE->aAv
 |[]=>[]
 |x::r=>jP x++ka r
end
mutual
def lj:dE->Nat
 | .mk _ a=>1+mv a
def mv:List dE->Nat
 |[]=>0
 |x::r=>lj x+mv r
end
mutual
def tW:dE->Prop
 | .mk t a=>a.length=nm t/\tX a
def tX:List dE->Prop
 |[]=>True
 |x::r=>tW x/\tX r
end
theorem acP (x:dE):dE.mk x.term x.args=x:=by cases x;rfl
theorem av6 (x:dE):jP x=x.term::ka x.args:=by cases x;simp[jP,dE.term,dE.args]
mutual
theorem TQ:∀x,(jP x).length=lj x
 | .mk t a=>by simp only[jP,lj,List.length_cons,Ii a];omega
theorem Ii:∀a,(ka a).length=mv a
 |[]=>by simp only[ka,mv,List.length_nil]
 |x::r=>by simp only[ka,mv,List.length_append,TQ x,Ii r]
end
theorem Mj:∀a b,ka (a++b)=ka a++ka b
 |[],b=>by simp only[ka,List.nil_append]
 |x::r,b=>by simp only[List.cons_append,ka,Mj r b,List.append_assoc]
theorem TR:∀a b,tX (a++b)↔tX a/\tX b
 |[],b=>by simp[tX]
 |x::r,b=>by simp only[List.cons_append,tX,TR r b];exact⟨λ⟨a,b,c⟩=>⟨⟨a,b⟩,c⟩,λ⟨⟨a,b⟩,c⟩=>⟨a,b,c⟩⟩
theorem TS:∀{a:List dE},tX a->∀x∈a,tW x
 |y::r,h,x,aq=>by
  rcases List.mem_cons.1 aq with rfl|aq
  .exact h.1
  .exact TS h.2 x aq
theorem TT:∀{a:List dE},∀x∈a,lj x<=mv a
 |y::r,x,aq=>by
  simp only[mv];rcases List.mem_cons.1 aq with rfl|aq
  .omega
  .have:=TT x aq;omega
theorem Eh (x:dE):1<=lj x:=by cases x;simp only[lj];omega
theorem av7 (x:dE):lj x=1+mv x.args:=by cases x;simp[lj,dE.args]
theorem av8 (x:dE):tW x↔x.args.length=nm x.term/\tX x.args:=by cases x;simp[tW,dE.args,dE.term]
theorem acQ (v:Int):∀(e:aAv) (k:Nat),sy v e k=true->∃xs:List dE,xs.length=k/\tX xs/\ka xs=e
 |[],k,h=>by
  simp only[sy,beq_iff_eq]at h;subst h;exact⟨[],rfl,trivial,by simp only[ka]⟩
 |t::r,k,h=>by
  simp only[sy,Bool.and_eq_true,Bool.not_eq_true',beq_eq_false_iff_ne]at h;obtain⟨hk,a6,aR⟩:=h;obtain⟨cq,h1,af,ay⟩:=acQ v r _ aR;refine⟨.mk t (cq.take (nm t))::cq.drop (nm t),?_,?_,?_⟩
  .simp;omega
  .have ae:=List.take_append_drop (nm t) cq;have hw:=(TR (cq.take (nm t)) (cq.drop (nm t))).1 (by rw[ae];exact af);exact⟨⟨by simp;omega,hw.1⟩,hw.2⟩
  .simp only[ka,jP,List.cons_append];rw[<-Mj,List.take_append_drop,ay]
theorem av9 {v most:Int} {e:aAv} (h:p3 e v most=true):∃x,tW x/\jP x=e:=by
 simp only[p3,Bool.and_eq_true]at h;obtain⟨xs,h1,af,ay⟩:=acQ v e 1 h.2;cases xs with
 |nil=>simp at h1
 |cons x r=>
  cases r with
  |nil=>exact⟨x,af.1,by simpa [ka]using ay⟩
  |cons y r=>simp at h1
theorem av_ (rec:aAv->Option (bX×List dE×aAv)) (t:bX) (a:List dE) (rest:aAv) (bs:a.length<=1000)
  (Md:∀x∈a,∀rest,rec (jP x++rest)=some (x.term,x.args,rest)):lim (λn=>Ap rec t (a.length:Int) n [] (ka a++rest) 0)=some (t,a,rest):=by
 have key:∀i,i<=a.length->∀m,a.length-i<m->Ap rec t (a.length:Int) m (a.take i) (ka (a.drop i)++rest) (i:Int)=some (t,a,rest):=by
  refine down a.length ?_ ?_
  .intro m hm;obtain⟨m,rfl⟩:∃j,m=j+1:=⟨m-1,by omega⟩
   simp only[Ap,QL];rw[ee (Nat.le_refl _)];simp[ka]
  .intro i aj ih m hm;obtain⟨m,rfl⟩:∃j,m=j+1:=⟨m-1,by omega⟩
   simp only[Ap,QL];rw[ek aj,ed i _ aj (by omega),drop_cons a i aj];simp only[cond_true,ka,List.append_assoc];rw[Md _ (List.getElem_mem aj)];simp only[bind_some];rw[jN (by simp;omega) (by simp;omega),acP];simp only[bind_some];have acR:=ih m (by omega);rw[List.take_succ_eq_append_getElem aj]at acR;exact acR
 refine e0 (a.length+1) λm hm=>?_;have:=key 0 (by omega) m (by omega);simpa using this
theorem awa (n:Nat):∀x,tW x->lj x<=n->∀rest,C4 n (jP x++rest)=some (x.term,x.args,rest):=by
 induction n with
 |zero=>intro x _ h;have:=Eh x;omega
 |succ n ih=>
  intro x hw ae rest;obtain⟨h1,af⟩:=(av8 x).1 hw;have eX:=av7 x;simp only[C4,QM,av6,List.cons_append,H5,bind_some,aby,acf,<-h1];refine av_ _ _ _ _ (by have:=Mb x.term;omega) λy hy rest=>ih y (TS af y hy) ?_ rest;have:=TT y hy;omega
theorem awb (x:dE) (hw:tW x):KQ (jP x)=some (x.term,x.args):=by
 unfold KQ QN;rw[e0 (x:=some (x.term,x.args,[])) (lj x) λn aV=>by
  have:=awa n x hw aV [];simpa using this]
 rfl
def Bj (op a b:Int):Int:=
 cond (op==0) (Int.tmod (i64.wrap (a+b)) 64) (cond (op==1) (Int.tmod (i64.wrap ((i64.wrap (a-b))+64)) 64) (cond (op==2) (Int.tmod (i64.wrap (a*b)) 64) (cond (op==3) (xh (a==b)) (cond (op==4) (xh (a !=b)) (cond (op==5) (xh (decide (a<b))) (cond (op==6) (xh (decide (a<=b))) (cond (op==7) (xh ((a !=0)&&(b !=0))) (xh ((a !=0)||(b !=0))))))))))
theorem awc (op a b:Int):KR op a b=some (Bj op a b):=by
 unfold KR Bj r3;simp only[L4,bind_some];cases op==0<;>cases op==1<;>cases op==2<;>cases op==3<;>cases op==4<;>cases op==5<;>cases op==6<;>cases op==7<;>cases a !=0<;>cases b !=0<;>rfl
theorem awd (op a b:Int):Kc op a b=some (Bj op a b):=by
 unfold Kc Bj rV;simp only[L4,bind_some];cases op==0<;>cases op==1<;>cases op==2<;>cases op==3<;>cases op==4<;>cases op==5<;>cases op==6<;>cases op==7<;>cases a !=0<;>cases b !=0<;>rfl
def Bk (t:bX) (l:aAe):Int:=cond (t.Kind==3) (xh (l.getD 0 0==0)) (Bj t.Value (l.getD 0 0) (l.getD 1 0))
theorem TU:∀a:List dE,a.length<=mv a
 |[]=>zero_le _
 |x::r=>by have:=TU r;have:=Eh x;simp only[List.length_cons,mv];omega
theorem awe (e:aAv) (he:e.length<=1048576) (rest:aAv):∀(n:Nat) (xs:List dE) (i:Nat),tX xs->mv xs=n->n<=1000000->i<=e.length->e.drop i=ka xs++rest->∀m,n<m->
  Cs e m (i:Int) (xs.length:Int)=some ((i+n:Nat):Int):=by
 intro n;induction n with
 |zero=>
  intro xs i _ ae _ _ _ m hm;obtain⟨m,rfl⟩:∃j,m=j+1:=⟨m-1,by omega⟩
  have:xs=[]:=by
   cases xs with
   |nil=>rfl
   |cons x r=>simp only[mv]at ae;have:=Eh x;omega
  subst this;simp only[Cs,PM];have:decide ((0:Int)<(([]:List dE).length:Int))=false:=by decide
  rw[this];rfl
 |succ n ih=>
  intro xs i hw ae aq aj ao m hm;obtain⟨m,rfl⟩:∃j,m=j+1:=⟨m-1,by omega⟩
  cases xs with
  |nil=>simp[mv]at ae
  |cons x r=>
   obtain⟨t,a⟩:=x;have acS:=hw.1;simp only[ka,jP,List.cons_append,List.append_assoc]at ao;have eA:i<e.length:=by
    rcases Nat.lt_or_ge i e.length with h|h
    .exact h
    .rw[List.drop_of_length_le h]at ao;cases ao
   rw[drop_cons e i eA]at ao;injection ao with h1 af;simp only[Cs,PM];have d1:decide ((0:Int)<((dE.mk t a::r).length:Int))=true:=by simp
   have bs:=Mb t;have ym:a.length=nm t:=acS.1;rw[d1,dO _ i eA,h1,ed i _ eA (by omega)];simp only[cond_true,bind_some,ace];rw[TE (k:=(dE.mk t a::r).length) (by simp) (by have:=TU (dE.mk t a::r);omega) bs];have hlen:(dE.mk t a::r).length+nm t-1=(a++r).length:=by simp;omega
   have az0:=TU (dE.mk t a::r);rw[hlen,ih (a++r) (i+1) ((TR a r).2 ⟨acS.2,hw.2⟩) (by
    have:∀a b,mv (a++b)=mv a+mv b:=by
     intro a b;rw[<-Ii,<-Ii,<-Ii,Mj,List.length_append]
    rw[this];simp only[mv,lj]at ae;omega) (by omega) (by omega) (by rw[Mj,List.append_assoc];exact af) m (by omega)]
   congr 1;omega
mutual
def nQ (a:aAe):dE->Int
 | .mk t xs=>cond (t.Kind==0) t.Value (cond (t.Kind==1) (a.getD t.Value.toNat 0) (Bk t (tY a xs)))
def tY (a:aAe):List dE->aAe
 |[]=>[]
 |x::r=>nQ a x::tY a r
end
theorem acT (v:Int):∀(e:aAv) (k:Nat),sy v e k=true->∀t∈e,pn t v=true
 |[],_,_,_,h=>by cases h
 |t::r,k,h,u,hu=>by
  simp only[sy,Bool.and_eq_true]at h;rcases List.mem_cons.1 hu with rfl|hu
  .exact h.2.1
  .exact acT v r _ h.2.2 u hu
theorem TV {t:bX} {v:Int} (h:pn t v=true):(t.Kind=0/\0<=t.Value/\t.Value<=63)\/(t.Kind=1/\0<=t.Value/\t.Value<=v-1)\/(t.Kind=2/\nm t=2)\/(t.Kind=3/\nm t=1):=by
 unfold pn sx at h;by_cases a7:t.Kind=0
 .simp only[a7,beq_self_eq_true,cond_true,Bool.and_eq_true,decide_eq_true_eq]at h;exact .inl ⟨a7,h⟩
 .have gb:(t.Kind==0)=false:=by simpa using a7
  rw[gb,cond_false]at h;by_cases h1:t.Kind=1
  .simp only[h1,beq_self_eq_true,cond_true,Bool.and_eq_true,decide_eq_true_eq]at h;exact .inr (.inl ⟨h1,h⟩)
  .have aK:(t.Kind==1)=false:=by simpa using h1
   rw[aK,cond_false]at h;by_cases af:t.Kind=2
   .exact .inr (.inr (.inl ⟨af,by simp[nm,af]⟩))
   .have aT:(t.Kind==2)=false:=by simpa using af
    rw[aT,cond_false]at h;by_cases ay:t.Kind=3
    .exact .inr (.inr (.inr ⟨ay,by simp[nm,ay]⟩))
    .have aU:(t.Kind==3)=false:=by simpa using ay
     rw[aU,cond_false]at h;cases h
theorem acU {α:Type} {l:List α} (h:l.length=1):∃x,l=[x]:=by
 match l,h with
 |[x],_=>exact⟨x,rfl⟩
theorem acV {α:Type} {l:List α} (h:l.length=2):∃x y,l=[x,y]:=by
 match l,h with
 |[x,y],_=>exact⟨x,y,rfl⟩
theorem awf (a:aAe):∀(n:Nat) (x:dE),tW x->lj x<=n->(∀t∈jP x,pn t a.length=true)->Aq n x a=some (nQ a x):=by
 intro n;induction n with
 |zero=>intro x _ h;have:=Eh x;omega
 |succ n ih=>
  rintro⟨t,xs⟩ hw ae a6;obtain⟨h1,af⟩:=hw;simp only[lj]at ae;simp only[jP,List.mem_cons]at a6;have iU:∀y∈xs,Aq n y a=some (nQ a y):=λy hy=>by
   refine ih y (TS af y hy) (by have:=TT y hy;omega) λu hu=>a6 u (.inr ?_);have fY:∀(l:List dE),y∈l->u∈ka l:=by
    intro l;induction l with
    |nil=>intro h;cases h
    |cons z r TW=>
     intro h;simp only[ka,List.mem_append];rcases List.mem_cons.1 h with rfl|h
     .exact .inl hu
     .exact .inr (TW h)
   exact fY xs hy
  simp only[Aq,QO,dE.term,dE.args];rcases TV (a6 t (.inl rfl))with⟨k,bV,cn⟩|⟨k,bV,cn⟩|⟨k,bV⟩|⟨k,bV⟩
  .simp only[nQ,k,beq_self_eq_true,cond_true]
  .obtain⟨j,bE⟩:∃j:Nat,t.Value=j:=⟨t.Value.toNat,by omega⟩
   have qV:j<a.length:=by omega
   simp only[nQ,k,bE,dO a j qV,Int.toNat_natCast,List.getD_eq_getElem?_getD,List.getElem?_eq_getElem qV,getD_some,bind_some,beq_self_eq_true,cond_true,show((1:Int)==0)=false from rfl,cond_false]
  .obtain⟨y,z,rfl⟩:=acV (h1.trans bV);have aK:bh [y,z] 0=some y:=rfl;have aT:bh [y,z] 1=some z:=rfl;simp only[nQ,tY,Bk,k,aK,aT,iU y (by simp),iU z (by simp),awc,bind_some,show((2:Int)==0)=false from rfl,show((2:Int)==1)=false from rfl,show((2:Int)==3)=false from rfl,cond_false];rfl
  .obtain⟨y,rfl⟩:=acU (h1.trans bV);have aK:bh [y] 0=some y:=rfl;simp only[nQ,tY,Bk,k,aK,iU y (by simp),r3,L4,bind_some,show((3:Int)==0)=false from rfl,show((3:Int)==1)=false from rfl,beq_self_eq_true,cond_true,cond_false];rfl
theorem awg (a:aAe) (x:dE) (hw:tW x) (a6:∀t∈jP x,pn t a.length=true):C6 (jP x) a=some (nQ a x):=by
 unfold C6;rw[awb x hw];simp only[bind_some,acP];unfold QP;rw[e0 (x:=some (nQ a x)) (lj x) λn aV=>awf a n x hw aV a6];rfl
theorem awh (a:aAe) (e:aAv) (he:e.length<=1000000):∀(n:Nat) (x:dE) (i:Nat) (rest:aAv),tW x->lj x<=n->(∀t∈jP x,pn t a.length=true)->e.drop i=jP x++rest->
  z1 n e a (i:Int)=some (nQ a x):=by
 intro n;induction n with
 |zero=>intro x _ _ _ h;have:=Eh x;omega
 |succ n ih=>
  rintro⟨t,xs⟩ i rest hw ae a6 ao;obtain⟨h1,af⟩:=hw;simp only[lj]at ae;simp only[jP,List.mem_cons,List.cons_append]at a6 ao;have eA:i<e.length:=by
   rcases Nat.lt_or_ge i e.length with h|h
   .exact h
   .rw[List.drop_of_length_le h]at ao;cases ao
  have hr:e.drop (i+1)=ka xs++rest:=by
   rw[drop_cons e i eA]at ao;injection ao
  have hg:bh e (i:Int)=some t:=by
   rw[dO e i eA];rw[drop_cons e i eA]at ao;injection ao with h _;rw[h]
  simp only[z1,PN,hg,bind_some];rw[ed i _ eA (by omega)];rcases TV (a6 t (.inl rfl))with⟨k,bV,cn⟩|⟨k,bV,cn⟩|⟨k,bV⟩|⟨k,bV⟩
  .simp only[nQ,k,beq_self_eq_true,cond_true]
  .obtain⟨j,bE⟩:∃j:Nat,t.Value=j:=⟨t.Value.toNat,by omega⟩
   have qV:j<a.length:=by omega
   simp only[nQ,k,bE,dO a j qV,Int.toNat_natCast,List.getD_eq_getElem?_getD,List.getElem?_eq_getElem qV,getD_some,bind_some,beq_self_eq_true,cond_true,show((1:Int)==0)=false from rfl,cond_false]
  .obtain⟨y,z,rfl⟩:=acV (h1.trans bV);simp only[ka,List.append_nil,List.append_assoc,List.mem_append]at a6 hr;simp only[mv]at ae;have ef:=ih y (i+1) (jP z++rest) af.1 (by omega) (λu hu=>a6 u (.inr (.inl hu))) hr;have az1:lj y<=e.length:=by
    have:=congrArg List.length hr;simp only[List.length_drop,List.length_append,TQ]at this;omega
   have bg:Kb e ((i+1:Nat):Int)=some ((i+1+lj y:Nat):Int):=by
    unfold Kb;refine e0 (lj y+1) λm hm=>?_;exact awe e (by omega) (jP z++rest) (lj y) [y] (i+1) ⟨af.1,trivial⟩ (by simp[mv]) (by omega) (by omega) (by simpa [ka]using hr) m (by omega)
   have awi:e.drop (i+1+lj y)=jP z++rest:=by
    rw[<-List.drop_drop,hr,<-TQ,List.drop_left]
   have dt:=ih z (i+1+lj y) rest af.2.1 (by omega) (λu hu=>a6 u (.inr (.inr hu))) awi;simp only[nQ,tY,Bk,k,ef,bg,dt,awd,bind_some,show((2:Int)==0)=false from rfl,show((2:Int)==1)=false from rfl,show((2:Int)==3)=false from rfl,cond_false];rfl
  .obtain⟨y,rfl⟩:=acU (h1.trans bV);simp only[ka,List.append_nil,List.mem_append]at a6 hr;simp only[mv]at ae;have ef:=ih y (i+1) rest af.1 (by omega) (λu hu=>a6 u (.inr hu)) hr;simp only[nQ,tY,Bk,k,ef,rV,L4,bind_some,show((3:Int)==0)=false from rfl,show((3:Int)==1)=false from rfl,beq_self_eq_true,cond_true,cond_false];rfl
theorem awj (a:aAe) (x:dE) (hw:tW x) (hl:(jP x).length<=1000000) (a6:∀t∈jP x,pn t a.length=true):z6 (jP x) a=some (nQ a x):=by
 unfold z6 PO;have gb:=e0 (f:=λn=>z1 n (jP x) a 0) (x:=some (nQ a x)) (lj x) λn aV=>awh a (jP x) hl n x 0 [] hw aV a6 (by simp);rw[gb];rfl
def gj (x:Int):Prop:=0<=x/\x<=63
theorem Ei (b:Bool):gj (xh b):=by cases b<;>exact⟨by decide,by decide⟩
theorem awk (op a b:Int) (bs:gj a) (ab:gj b):gj (Bj op a b):=by
 unfold gj at bs ab;unfold Bj;cases op==0
 .cases op==1
  .cases op==2
   .cases op==3<;>(try exact Ei _)
    cases op==4<;>(try exact Ei _)
    cases op==5<;>(try exact Ei _)
    cases op==6<;>(try exact Ei _)
    cases op==7<;>exact Ei _
   .have h1:0<=a*b:=Int.mul_nonneg bs.1 ab.1;have af:a*b<=63*63:=Int.mul_le_mul bs.2 ab.2 ab.1 (by decide);show gj (Int.tmod (i64.wrap (a*b)) 64);rw[eF _ (by omega)];unfold gj;rw[Int.tmod_eq_emod_of_nonneg h1];omega
  .show gj (Int.tmod (i64.wrap ((i64.wrap (a-b))+64)) 64);rw[eF (a-b) (by omega),eF _ (by omega)];unfold gj;rw[Int.tmod_eq_emod_of_nonneg (by omega)];omega
 .show gj (Int.tmod (i64.wrap (a+b)) 64);rw[eF _ (by omega)];unfold gj;rw[Int.tmod_eq_emod_of_nonneg (by omega)];omega
theorem awl (a:aAe) (bs:∀x∈a,gj x):∀(n:Nat) (x:dE),lj x<=n->(∀t∈jP x,pn t a.length=true)->gj (nQ a x):=by
 intro n;induction n with
 |zero=>intro x h;have:=Eh x;omega
 |succ n ih=>
  rintro⟨t,xs⟩ ae a6;simp only[lj]at ae;simp only[jP,List.mem_cons]at a6;have iU:∀i,gj ((tY a xs).getD i 0):=by
   have key:∀l:List dE,mv l<=n->(∀t∈ka l,pn t a.length=true)->∀i,gj ((tY a l).getD i 0):=by
    intro l;induction l with
    |nil=>intro _ _ i;simp only[tY,List.getD_nil];exact⟨by decide,by decide⟩
    |cons y r TW=>
     intro h1 af i;simp only[mv]at h1;simp only[ka,List.mem_append]at af;cases i with
     |zero=>simp only[tY,List.getD_cons_zero];exact ih y (by omega) λu hu=>af u (.inl hu)
     |succ i=>simp only[tY,List.getD_cons_succ];exact TW (by omega) (λu hu=>af u (.inr hu)) i
   exact key xs (by omega) λu hu=>a6 u (.inr hu)
  simp only[nQ];rcases TV (a6 t (.inl rfl))with⟨k,bV,cn⟩|⟨k,bV,cn⟩|⟨k,bV⟩|⟨k,bV⟩
  .simp only[k,beq_self_eq_true,cond_true];exact⟨bV,cn⟩
  .have qV:t.Value.toNat<a.length:=by omega
   simp only[k,show((1:Int)==0)=false from rfl,beq_self_eq_true,cond_true,cond_false,List.getD_eq_getElem?_getD,List.getElem?_eq_getElem qV,getD_some];exact bs _ (List.getElem_mem qV)
  .simp only[k,show((2:Int)==0)=false from rfl,show((2:Int)==1)=false from rfl,show((2:Int)==3)=false from rfl,cond_false,Bk];exact awk _ _ _ (iU 0) (iU 1)
  .simp only[k,show((3:Int)==0)=false from rfl,show((3:Int)==1)=false from rfl,beq_self_eq_true,cond_true,cond_false,Bk];exact Ei _
noncomputable def sD (a:aAe) (e:aAv):Int:=(z6 e a).getD 0
theorem Mk {a:aAe} {e:aAv} {most:Int} (hm:most<=1000) (h:p3 e a.length most=true):z6 e a=some (sD a e)/\C6 e a=some (sD a e)/\((∀x∈a,gj x)->gj (sD a e)):=by
 obtain⟨x,hw,rfl⟩:=av9 h;simp only[p3,Bool.and_eq_true,decide_eq_true_eq]at h;have a6:=acT _ _ _ h.2;have he:(jP x).length<=1000000:=by omega
 have aK:=awj a x hw he a6;have aT:sD a (jP x)=nQ a x:=by unfold sD;rw[aK];rfl
 rw[aT];exact⟨aK,awg a x hw a6,λbs=>awl a bs _ x (Nat.le_refl _) a6⟩
theorem xt {n:Int} {P:Prop} (h:some n=some (0:Int)) (aV:n≠0):P:=absurd (some.inj h) aV
theorem awm {d:a1} {a2:Int} {p:b8} {v:Bool} (h:ta d a2 p v=some 0):
  ∃aI,wm d a2=some aI/\((p.Kind==4)&&decide (6<=aI))=false/\lim (λn=>yp p n aI 0)=some 0:=by
 unfold ta at h;rcases dL h with⟨_,h⟩|⟨_,h⟩
 .exact xt h (by decide)
 obtain⟨aI,aU,h⟩:=aM h;rcases dL h with⟨_,h⟩|⟨a_,h⟩
 .exact xt h (by decide)
 exact⟨aI,aU,a_,h⟩
theorem Ml {d:a1} {a2:Int} {p:b8} (h:wo d a2 p=some 0):∃v,ta d a2 p v=some 0:=by
 unfold wo at h;rcases dL h with⟨_,h⟩|⟨_,h⟩
 .rcases dL h with⟨_,h⟩|⟨_,h⟩
  .exact⟨_,h⟩
  .obtain⟨bz,_,h⟩:=aM h;exact⟨_,h⟩
 .exact⟨_,h⟩
theorem Mm {e:aAx} {d:a1} {a2:Int} {p:b8} {v:Bool} (h:uM e d a2 p v=some 0):
  v=false/\(p.Kind=1->p.cm.length<=2/\((p.Name==([116,97,117]:aAc))=true->p.cm.length=0))/\(p.Kind=3->p.cm.length=1)/\
   (p.Kind=5->∃bw,bh e p.Number=some bw/\(p.cm.length:Int)=bw.dW)/\∃v,ta d a2 p v=some 0:=by
 unfold uM at h;rcases dL h with⟨_,h⟩|⟨aB,h⟩
 .exact xt h (by decide)
 refine⟨aB,?_⟩;rcases dL h with⟨k,h⟩|⟨k,h⟩
 .have k:=eq_of_beq k;rcases dL h with⟨_,h⟩|⟨g,h⟩
  .exact xt h (by decide)
  rw[Bool.or_eq_false_iff,Bool.and_eq_false_iff,decide_eq_false_iff_not,decide_eq_false_iff_not]at g;refine⟨λ_=>⟨by omega,λa6=>?_⟩,λay=>by omega,λb1=>by omega,Ml h⟩;rcases g.2 with g|g
  .omega
  .rw[a6]at g;cases g
 have bV:p.Kind≠1:=by simpa using k
 rcases dL h with⟨k,h⟩|⟨k,h⟩
 .have k:=eq_of_beq k;rcases dL h with⟨_,h⟩|⟨g,h⟩
  .exact xt h (by decide)
  have g:(p.cm.length:Int)=1:=by simpa using g
  exact⟨λh1=>(bV h1).elim,λ_=>by omega,λb1=>by omega,Ml h⟩
 have dV:p.Kind≠3:=by simpa using k
 rcases dL h with⟨k,h⟩|⟨k,h⟩
 .obtain⟨bw,cd,h⟩:=aM h;rcases dL h with⟨_,h⟩|⟨g,h⟩
  .exact xt h (by decide)
  have g:(p.cm.length:Int)=bw.dW:=by simpa using g
  exact⟨λh1=>(bV h1).elim,λay=>(dV ay).elim,λ_=>⟨bw,cd,g⟩,Ml h⟩
 .have eC:p.Kind≠5:=by simpa using k
  exact⟨λh1=>(bV h1).elim,λay=>(dV ay).elim,λb1=>(eC b1).elim,Ml h⟩
theorem awn {e:aAx} {d:a1} {a2:Int} (h:tb e d a2=some 0):
  ∃p,bh d.Body a2=some p/\(p.Kind=1->yo p.Name=some true/\p.cm.length<=2/\((p.Name==([116,97,117]:aAc))=true->p.cm.length=0))/\(p.Kind=3->p.cm.length=1)/\
   (p.Kind=4->1<=p.Number/\p.Number<=7)/\(p.Kind=5->∃bw,bh e p.Number=some bw/\(p.cm.length:Int)=bw.dW)/\∃v,ta d a2 p v=some 0:=by
 unfold tb at h;obtain⟨p,aK,h⟩:=aM h;obtain⟨ah,_,h⟩:=aM h;rcases dL h with⟨_,h⟩|⟨_,h⟩
 .exact xt h (by decide)
 have key:∀v,Cl e d a2 p v=some 0->v=false/\(p.Kind=4->1<=p.Number/\p.Number<=7)/\uM e d a2 p false=some 0:=by
  intro v h;unfold Cl at h;rcases dL h with⟨_,h⟩|⟨aB,h⟩
  .exact xt h (by decide)
  refine⟨aB,?_⟩;rcases dL h with⟨k,h⟩|⟨k,h⟩
  .have k:=eq_of_beq k;obtain⟨cD,fH,h⟩:=aM h;rcases dL h with⟨_,h⟩|⟨g,iq⟩
   .exact absurd (Mm h).1 (by simp)
   have g:cD=true:=by simpa using g
   rw[g]at fH;unfold ml at fH;have fH:=some.inj fH;rw[Bool.and_eq_true,decide_eq_true_eq,decide_eq_true_eq]at fH;refine⟨λ_=>fH,?_⟩;rcases dL iq with⟨eC,_⟩|⟨_,iq⟩
   .have:=eq_of_beq eC;omega
   .exact iq
  .have ea:p.Kind≠4:=by simpa using k
   refine⟨λa_=>(ea a_).elim,?_⟩;rcases dL h with⟨k,h⟩|⟨k,h⟩
   .obtain⟨dH,_,h⟩:=aM h;have g:=(Mm h).1
    rwa [g]at h
   .exact h
 rcases dL h with⟨k,h⟩|⟨k,h⟩
 .obtain⟨eY,kD,h⟩:=aM h;obtain⟨h1,af,ay⟩:=key _ h;obtain⟨_,g1,g2,g3,g4⟩:=Mm ay;have h1:eY=true:=by simpa using h1
  subst h1;exact⟨p,aK,λhk=>⟨kD,g1 hk⟩,g2,af,g3,g4⟩
 .obtain⟨h1,af,ay⟩:=key _ h;obtain⟨_,g1,g2,g3,g4⟩:=Mm ay;have bV:p.Kind≠1:=by simpa using k
  exact⟨p,aK,λhk=>(bV hk).elim,g2,af,g3,g4⟩
theorem awo {e:aAx} {d:a1} {r:Int×Int} (hl:d.Body.length<=1000) (aR:∀j,j<d.Body.length->∃v,tb e d (j:Int)=some v/\0<=v) (h:wt e d=some r) (a7:r.2=0):
  ∀j,j<d.Body.length->tb e d (j:Int)=some 0:=by
 unfold wt at h;obtain⟨aa,_,h⟩:=aM h;rcases dL h with⟨_,h⟩|⟨_,h⟩
 .have:=some.inj h;subst this;exact absurd a7 (by decide)
 obtain⟨n,h⟩:=ma h;have key:∀i,i<=d.Body.length->∀m,wq e d m (i:Int)=some r->∀j,i<=j->j<d.Body.length->tb e d (j:Int)=some 0:=by
  refine down d.Body.length ?_ ?_
  .intro m _ j h1 af;omega
  .intro i aj ih m hm j h1 af;cases m with
   |zero=>cases hm
   |succ m=>
    simp only[wq,Gp]at hm;obtain⟨v,aB,nX⟩:=aR i aj;rw[ek aj,cond_true,aB]at hm;simp only[bind_some]at hm;rcases dL hm with⟨g,hm⟩|⟨g,hm⟩
    .have:=some.inj hm;subst this;simp only[decide_eq_true_eq]at g;simp only at a7;omega
    .have g:v=0:=by simp at g;omega
     subst g;by_cases bE:j=i
     .subst bE;exact aB
     .rw[ed i _ aj (by omega)]at hm;exact ih m hm j (by omega) af
 exact λj bE=>key 0 (by omega) n h j (by omega) bE
structure awp (e:aAx) (d:a1) (j:Nat) (p:b8) (eb:Int):Prop where
 small:Bf p
 acW:0<=eb/\eb<=29
 args:∀a∈p.cm,p3 a eb 15=true
 act:p.Kind=1->hB p.Name=true/\p.cm.length<=2/\((p.Name==([116,97,117]:aAc))=true->p.cm.length=0)
 awq:p.Kind=3->p.cm.length=1
 sum:p.Kind=4->1<=p.Number/\p.Number<=7/\eb<=5
 call:p.Kind=5->∃bw,bh e p.Number=some bw/\(p.cm.length:Int)=bw.dW
theorem TX {e:aAx} (h:p4 e) (aB:l9 e=true) {i:Nat} (aj:i<e.length) {j:Nat} (bE:j<e[i].Body.length):awp e e[i] j e[i].Body[j] (jO e[i] j).scope:=by
 obtain⟨h1,a_,ao⟩:=Eg h aB;obtain⟨aw,ae,aV,r,ef,bg⟩:=ao i aj;obtain⟨s1,s2,pI⟩:=Bh ae;have TO:=h.2 _ (List.getElem_mem aj);have aR:∀j,j<e[i].Body.length->∃v,tb e e[i] (j:Int)=some v/\0<=v:=λj bE=>by
  obtain⟨gP,gA,je,jG,rB⟩:=Mh e[i] ae aw j bE;obtain⟨v,v1,_,v3⟩:=acA e a_ e[i] j bE pI (TO.2.2 _ (List.getElem_mem bE)) (jO e[i] j) gP ⟨gA,je⟩ jG;exact⟨v,v1,v3⟩
 obtain⟨p,aK,f1,f2,f3,f4,v,f5⟩:=awn (awo (by omega) aR ef bg j bE);rw[dO _ j bE]at aK;have aK:=some.inj aK;subst aK;obtain⟨aI,g1,g2,g3⟩:=awm f5;obtain⟨gP,gA,je,jG,rB⟩:=Mh e[i] ae aw j bE;rw[gP]at g1;have g1:=some.inj g1;subst g1;have FC:=TO.2.2 _ (List.getElem_mem bE);rw[acz _ FC _ ⟨gA,je⟩]at g3;refine⟨FC,⟨gA,je⟩,?_,λk=>?_,f2,λk=>⟨(f3 k).1,(f3 k).2,?_⟩,f4⟩
 .cases bs:vC e[i].Body[j] (jO e[i] j).scope
  .rw[bs]at g3;exact xt g3 (by decide)
  .intro a hm;obtain⟨k,hk,rfl⟩:=List.mem_iff_getElem.1 hm;have:=pk.1 bs k hk
   rwa [List.getD_eq_getElem?_getD,List.getElem?_eq_getElem hk]at this
 .obtain⟨J,a2,a3⟩:=f1 k;rw[D5]at J;exact⟨some.inj J,a2,a3⟩
 .rw[k]at g2;simp only[beq_self_eq_true,Bool.true_and,decide_eq_false_iff_not]at g2;omega
theorem acX:∀(j:Nat) (l:aAw) (st:aAD) (k:Nat),fm l st.length=some k->j<k->
  ∃s Mn,(gX l st).drop j=gX (l.drop j) (s::Mn)/\fm (l.drop j) (Mn.length+1)=some (k-j)
 |0,l,st,k,h,bE=>by
  cases st with
  |nil=>rw[List.length_nil,Bd]at h;have:=some.inj h;omega
  |cons s Mn=>exact⟨s,Mn,rfl,h⟩
 |j+1,[],st,k,h,bE=>by have:=(vB h).2;simp at this;omega
 |j+1,p::r,[],k,h,bE=>by rw[List.length_nil,Bd]at h;have:=some.inj h;omega
 |j+1,p::r,s::st,k,h,bE=>by
  obtain⟨dr,bL,rfl⟩:=sA.1 h;obtain⟨s2,st2,aK,aT⟩:=acX j r (List.replicate (eK p) (below p s)++st) dr (by rw[List.length_append,List.length_replicate,Nat.add_comm];exact bL) (by omega);exact⟨s2,st2,by simp only[gX,List.drop_succ_cons];exact aK,by simp only[List.drop_succ_cons];rw[aT];congr 1;omega⟩
theorem TY {α:Type} (l:List α) (i:Nat) (d:α):l.getD i d=(l.drop i).headD d:=by
 rw[List.getD_eq_getElem?_getD];cases h:l.drop i with
 |nil=>rw[List.drop_eq_nil_iff]at h;rw[List.getElem?_eq_none h];rfl
 |cons x r=>
  have:l[i]? =some x:=by
   have:=congrArg (λz=>z[0]?) h;simpa using this
  rw[this];rfl
theorem acY {l:aAw} (s:dR) (st:aAD) (d:dR) (h:l≠[]):(gX l (s::st)).headD d=s:=by
 cases l with
 |nil=>exact(h rfl).elim
 |cons p r=>rfl
theorem awr (d:a1) (ae:fm d.Body 1=some d.Body.length) {j:Nat} (bE:j<d.Body.length):
  (1<=eK d.Body[j]->j+1<d.Body.length/\(jO d (j+1)).scope=(below d.Body[j] (jO d j)).scope)/\
  (eK d.Body[j]=2->∃n,fm (d.Body.drop (j+1)) 1=some n/\j+1+n<d.Body.length/\(jO d (j+1+n)).scope=(below d.Body[j] (jO d j)).scope):=by
 obtain⟨s,st,aK,aT⟩:=acX j d.Body [⟨d.dW,false⟩] d.Body.length ae bE;have ao:=drop_cons d.Body j bE;rw[ao]at aK aT;obtain⟨dr,bL,hk⟩:=sA.1 aT;have aw:jO d j=s:=by
  unfold jO;rw[TY,aK];rfl
 have aU:(gX d.Body [⟨d.dW,false⟩]).drop (j+1)=gX (d.Body.drop (j+1)) (List.replicate (eK d.Body[j]) (below d.Body[j] s)++st):=by
  rw[<-List.drop_drop,aK];rfl
 rw[aw];constructor
 .intro bI;have h1:=vB bL;have hlen:j+1<d.Body.length:=by omega
  refine⟨hlen,?_⟩;obtain⟨f,aws⟩:∃f,eK d.Body[j]=f+1:=⟨eK d.Body[j]-1,by omega⟩
  unfold jO;rw[TY,aU,aws,List.replicate_succ,List.cons_append,acY _ _ _ (by intro h;rw[List.drop_eq_nil_iff]at h;omega)]
 .intro bI;rw[bI]at bL aU;obtain⟨n,bJ,g1,g2,g3⟩:=D8 (l:=d.Body.drop (j+1)) (a:=1) (b:=st.length+1) (k:=dr) (by rw[<-bL];congr 1;omega);have af:=vB g2;have hlen:j+1+n<d.Body.length:=by omega
  refine⟨n,g1,hlen,?_⟩;unfold jO;rw[TY,<-List.drop_drop,aU,show List.replicate 2 (below d.Body[j] s)++st=[below d.Body[j] s]++(below d.Body[j] s::st)from rfl,TH (s1:=[below d.Body[j] s]) g1];have hl:=Be (l:=d.Body.drop (j+1)) (st:=[below d.Body[j] s]) g1;rw[<-hl,List.drop_left,hl,List.drop_drop,acY _ _ _ (by intro h;rw[List.drop_eq_nil_iff]at h;omega)]
noncomputable def oq (l:aAm) (a:aAe):aAe:=l.map (sD a)
def iW (n:aAc) (a:aAe):aAc:=if a.length=0 then n else((n++[40])++iV a)++[41]
def fA (d:a1) (j:Nat):b8:=d.Body.getD j ⟨0,0,[],[]⟩
def TZ (d:a1) (j:Nat):Nat:=j+(fm (d.Body.drop j) 1).getD 0
noncomputable def xu (d:a1) (i j:Nat) (a:aAe):bl:=
 ⟨iW (fA d j).Name (oq (fA d j).cm a),if(fA d (j+1)).Kind=5 then⟨(fA d (j+1)).Number,0,oq (fA d (j+1)).cm a⟩else⟨(i:Int),((j+1:Nat):Int),a⟩⟩
noncomputable def jl (d:a1) (i:Nat):Nat->Nat->aAe->aAC
 |0,_,_=>[]
 |n+1,j,a=>
  if(fA d j).Kind=1 then [xu d i j a]
  else if(fA d j).Kind=2 then jl d i n (j+1) a++jl d i n (TZ d (j+1)) a
  else if(fA d j).Kind=3 then(if sD a ((fA d j).cm.getD 0 [])≠0 then jl d i n (j+1) a else [])
  else if(fA d j).Kind=4 then(List.range' 0 ((fA d j).Number.toNat+1)).flatMap λ(v:Nat)=>jl d i n (j+1) (a++[((v:Nat):Int)])
  else []
def y7 (a:aAe):Bool:=ga (λi=>sx (a.getD i 0) 0 63) a.length
theorem T0 (a:aAe) (h:a.length<=1048576):Gq a=some (y7 a):=by
 unfold Gq;refine H8 (l:=λm i=>Cn a m i) _ (λm=>?_) (λi aj m=>?_)
 .simp only[Cn,PG];rw[ee (Nat.le_refl _)];rfl
 .simp only[Cn,PG,ml];rw[ek aj,mr _ i 0 aj,ed i _ aj (by omega)];simp only[cond_true,bind_some];show cond (!sx (a.getD i 0) 0 63) _ _=_;cases sx (a.getD i 0) 0 63<;>rfl
theorem T1 (a:aAe) (h:a.length<=1048576):C1 a=some (y7 a):=by
 unfold C1 Qz Qy;rw[tL (n:=a.length) (λi=> !sx (a.getD i 0) 0 63)]
 .simp only[bind_some,xg,Bool.not_not];rfl
 .intro m;simp only[GS,Qx];rw[ee (Nat.le_refl _)];rfl
 .intro i aj m;simp only[GS,Qx];rw[ek aj,mr _ i 0 aj,ed i _ aj (by omega)];simp only[cond_true,bind_some,Qw,GM,la];rfl
end Go.pO
