/- Part of a proof that a law returns true for every input. No condition. -/
import Derived.Test.YtmaepbgkcmjcjajGreatDoorFwA
namespace Go.ld
open List Option Go.IntKind Nat Or
open Go Go.ep
set_option linter.unusedVariables false
noncomputable section
structure jE where
 Kind:Int
 Value:Int
def B5 (x:jE):Prop:=(-9223372036854775808<=x.Kind/\x.Kind<=9223372036854775807)/\(-9223372036854775808<=x.Value/\x.Value<=9223372036854775807)
structure lE where
 Kind:Int
 Number:Int
 Name:azq
 ck:List (List jE)
def FJ (x:lE):Prop:=(-9223372036854775808<=x.Kind/\x.Kind<=9223372036854775807)/\(-9223372036854775808<=x.Number/\x.Number<=9223372036854775807)/\x.Name.length<=9223372036854775807/\(x.ck.length<=9223372036854775807/\∀y∈x.ck,(y.length<=9223372036854775807/\∀z∈y,B5 z))
structure lF where
 Name:azq
 dV:Int
 Body:List lE
def FK (x:lF):Prop:=x.Name.length<=9223372036854775807/\(-9223372036854775808<=x.dV/\x.dV<=9223372036854775807)/\(x.Body.length<=9223372036854775807/\∀y∈x.Body,FJ y)
structure lG where
 cJ:Int
 b5:azs
def FL (x:lG):Prop:=(-9223372036854775808<=x.cJ/\x.cJ<=9223372036854775807)/\(x.b5.length<=9223372036854775807/\∀y∈x.b5,(-9223372036854775808<=y/\y<=9223372036854775807))
structure lf where
 Left:azq
 cH:azq
 Result:azq
def FM (x:lf):Prop:=x.Left.length<=9223372036854775807/\x.cH.length<=9223372036854775807/\x.Result.length<=9223372036854775807
structure oZ where
 cI:List lF
 b0:List lG
 cb:List lf
 cD:azp
 cA:azp
def FN (x:oZ):Prop:=(x.cI.length<=9223372036854775807/\∀y∈x.cI,FK y)/\(x.b0.length<=9223372036854775807/\∀y∈x.b0,FL y)/\(x.cb.length<=9223372036854775807/\∀y∈x.cb,FM y)/\(x.cD.length<=9223372036854775807/\∀y∈x.cD,y.length<=9223372036854775807)/\(x.cA.length<=9223372036854775807/\∀y∈x.cA,y.length<=9223372036854775807)
structure lg where
 Choice:Int
 ef:Int
 Second:Int
 Label:azq
def B6 (x:lg):Prop:=(-9223372036854775808<=x.Choice/\x.Choice<=9223372036854775807)/\(-9223372036854775808<=x.ef/\x.ef<=9223372036854775807)/\(-9223372036854775808<=x.Second/\x.Second<=9223372036854775807)/\x.Label.length<=9223372036854775807
structure bY where
 Kind:Int
 Value:Int
def ai0 (x:bY):Prop:=(-9223372036854775808<=x.Kind/\x.Kind<=9223372036854775807)/\(-9223372036854775808<=x.Value/\x.Value<=9223372036854775807)
structure b_ where
 Kind:Int
 Number:Int
 Name:azq
 ck:List (List bY)
def ai1 (x:b_):Prop:=(-9223372036854775808<=x.Kind/\x.Kind<=9223372036854775807)/\(-9223372036854775808<=x.Number/\x.Number<=9223372036854775807)/\x.Name.length<=9223372036854775807/\(x.ck.length<=9223372036854775807/\∀y∈x.ck,(y.length<=9223372036854775807/\∀z∈y,ai0 z))
structure a1 where
 Name:azq
 dV:Int
 Body:List b_
def ai2 (x:a1):Prop:=x.Name.length<=9223372036854775807/\(-9223372036854775808<=x.dV/\x.dV<=9223372036854775807)/\(x.Body.length<=9223372036854775807/\∀y∈x.Body,ai1 y)
structure cQ where
 cJ:Int
 b5:azs
def ai3 (x:cQ):Prop:=(-9223372036854775808<=x.cJ/\x.cJ<=9223372036854775807)/\(x.b5.length<=9223372036854775807/\∀y∈x.b5,(-9223372036854775808<=y/\y<=9223372036854775807))
structure bX where
 Left:azq
 cH:azq
 Result:azq
def ai4 (x:bX):Prop:=x.Left.length<=9223372036854775807/\x.cH.length<=9223372036854775807/\x.Result.length<=9223372036854775807
structure cY where
 cI:List a1
 b0:List cQ
 cb:List bX
 cD:azp
 cA:azp
def ax8 (x:cY):Prop:=(x.cI.length<=9223372036854775807/\∀y∈x.cI,ai2 y)/\(x.b0.length<=9223372036854775807/\∀y∈x.b0,ai3 y)/\(x.cb.length<=9223372036854775807/\∀y∈x.cb,ai4 y)/\(x.cD.length<=9223372036854775807/\∀y∈x.cD,y.length<=9223372036854775807)/\(x.cA.length<=9223372036854775807/\∀y∈x.cA,y.length<=9223372036854775807)
structure dC where
 Choice:Int
 ef:Int
 Second:Int
 Label:azq
def ax9 (x:dC):Prop:=(-9223372036854775808<=x.Choice/\x.Choice<=9223372036854775807)/\(-9223372036854775808<=x.ef/\x.ef<=9223372036854775807)/\(-9223372036854775808<=x.Second/\x.Second<=9223372036854775807)/\x.Label.length<=9223372036854775807
structure ba where
 cJ:Int
 Part:Int
 b5:azs
def Yc (x:ba):Prop:=(-9223372036854775808<=x.cJ/\x.cJ<=9223372036854775807)/\(-9223372036854775808<=x.Part/\x.Part<=9223372036854775807)/\(x.b5.length<=9223372036854775807/\∀y∈x.b5,(-9223372036854775808<=y/\y<=9223372036854775807))
structure br where
 Label:azq
 ef:Int
 Second:Int
 State:List ba
def ax_ (x:br):Prop:=x.Label.length<=9223372036854775807/\(-9223372036854775808<=x.ef/\x.ef<=9223372036854775807)/\(-9223372036854775808<=x.Second/\x.Second<=9223372036854775807)/\(x.State.length<=9223372036854775807/\∀y∈x.State,Yc y)
structure bl where
 Label:azq
 Next:ba
def aya (x:bl):Prop:=x.Label.length<=9223372036854775807/\Yc x.Next
structure dQ where
 scope:Int
 behind:Bool
abbrev azC:=List jE
abbrev azD:=List lE
abbrev azE:=List lF
abbrev azF:=List lG
abbrev azG:=List lf
abbrev azH:=List lg
abbrev azI:=List bY
abbrev azJ:=List b_
abbrev azK:=List a1
abbrev azL:=List cQ
abbrev azM:=List bX
abbrev azN:=List dC
abbrev azO:=List ba
abbrev azP:=List br
abbrev azQ:=List bl
abbrev azR:=List dQ
abbrev azz:=List (List jE)
abbrev azA:=List (List bY)
abbrev azB:=List (List bl)
def ayb (x:dQ):Prop:=(-9223372036854775808<=x.scope/\x.scope<=9223372036854775807)/\True
inductive dD where
 |mk (term:bY) (args:List dD)
def dD.term:dD->bY
 | .mk a _=>a
def dD.args:dD->List dD
 | .mk _ a=>a
def FO (a0:azC) (J:Int):azv:=
 cond (decide ((i64.wrap (J-(a0.length:Int)))<0)) (some (-1)) (some (i64.wrap (J-(a0.length:Int))))
def ai5 (jF:Int->Int->azv) (a0:azz) (eI ey:Int):azv:=
 cond (decide (ey<(a0.length:Int))) ((bj a0 ey).bind λR=>(FO R eI).bind λae=>cond (decide (ae<0)) (some (-1)) (jF ae (i64.wrap (ey+1)))) (some eI)
def O4 (a0:azz):Nat->Int->Int->azv
 |0,_,_=>none
 |n+1,eI,ey=>ai5 (O4 a0 n) a0 eI ey
def Jw (a0:azz) (J:Int):azv:=
 cond (decide ((i64.wrap (J-(a0.length:Int)))<0)) (some (-1)) (b3 λn=>O4 a0 n (i64.wrap (J-(a0.length:Int))) 0)
def FP (a0:lE) (J:Int):azv:=
 cond (decide ((i64.wrap (J-(a0.Name.length:Int)))<0)) (some (-1)) ((Jw a0.ck (i64.wrap (J-(a0.Name.length:Int)))).bind λR=>cond (decide (R<0)) (some (-1)) (some R))
def ai6 (jF:Int->Int->azv) (a0:azD) (eI ey:Int):azv:=
 cond (decide (ey<(a0.length:Int))) ((bj a0 ey).bind λR=>(FP R eI).bind λae=>cond (decide (ae<0)) (some (-1)) (jF ae (i64.wrap (ey+1)))) (some eI)
def O5 (a0:azD):Nat->Int->Int->azv
 |0,_,_=>none
 |n+1,eI,ey=>ai6 (O5 a0 n) a0 eI ey
def Jx (a0:azD) (J:Int):azv:=
 cond (decide ((i64.wrap (J-(a0.length:Int)))<0)) (some (-1)) (b3 λn=>O5 a0 n (i64.wrap (J-(a0.length:Int))) 0)
def FQ (a0:lF) (J:Int):azv:=
 cond (decide ((i64.wrap (J-(a0.Name.length:Int)))<0)) (some (-1)) ((Jx a0.Body (i64.wrap (J-(a0.Name.length:Int)))).bind λR=>cond (decide (R<0)) (some (-1)) (some R))
def ai7 (jF:Int->Int->azv) (a0:azE) (eI ey:Int):azv:=
 cond (decide (ey<(a0.length:Int))) ((bj a0 ey).bind λR=>(FQ R eI).bind λae=>cond (decide (ae<0)) (some (-1)) (jF ae (i64.wrap (ey+1)))) (some eI)
def O6 (a0:azE):Nat->Int->Int->azv
 |0,_,_=>none
 |n+1,eI,ey=>ai7 (O6 a0 n) a0 eI ey
def Jy (a0:azE) (J:Int):azv:=
 cond (decide ((i64.wrap (J-(a0.length:Int)))<0)) (some (-1)) (b3 λn=>O6 a0 n (i64.wrap (J-(a0.length:Int))) 0)
def Jz (a0:azs) (J:Int):azv:=
 cond (decide ((i64.wrap (J-(a0.length:Int)))<0)) (some (-1)) (some (i64.wrap (J-(a0.length:Int))))
def FR (a0:lG) (J:Int):azv:=
 (Jz a0.b5 J).bind λR=>cond (decide (R<0)) (some (-1)) (some R)
def ai8 (jF:Int->Int->azv) (a0:azF) (eI ey:Int):azv:=
 cond (decide (ey<(a0.length:Int))) ((bj a0 ey).bind λR=>(FR R eI).bind λae=>cond (decide (ae<0)) (some (-1)) (jF ae (i64.wrap (ey+1)))) (some eI)
def O7 (a0:azF):Nat->Int->Int->azv
 |0,_,_=>none
 |n+1,eI,ey=>ai8 (O7 a0 n) a0 eI ey
def JA (a0:azF) (J:Int):azv:=
 cond (decide ((i64.wrap (J-(a0.length:Int)))<0)) (some (-1)) (b3 λn=>O7 a0 n (i64.wrap (J-(a0.length:Int))) 0)
def FT (a0:lf) (J:Int):azv:=
 cond (decide ((i64.wrap (J-(a0.Left.length:Int)))<0)) (some (-1)) (cond (decide ((i64.wrap ((i64.wrap (J-(a0.Left.length:Int)))-(a0.cH.length:Int)))<0)) (some (-1)) (cond (decide ((i64.wrap ((i64.wrap ((i64.wrap (J-(a0.Left.length:Int)))-(a0.cH.length:Int)))-(a0.Result.length:Int)))<0)) (some (-1)) (some (i64.wrap ((i64.wrap ((i64.wrap (J-(a0.Left.length:Int)))-(a0.cH.length:Int)))-(a0.Result.length:Int))))))
def ai9 (jF:Int->Int->azv) (a0:azG) (eI ey:Int):azv:=
 cond (decide (ey<(a0.length:Int))) ((bj a0 ey).bind λR=>(FT R eI).bind λae=>cond (decide (ae<0)) (some (-1)) (jF ae (i64.wrap (ey+1)))) (some eI)
def O8 (a0:azG):Nat->Int->Int->azv
 |0,_,_=>none
 |n+1,eI,ey=>ai9 (O8 a0 n) a0 eI ey
def JB (a0:azG) (J:Int):azv:=
 cond (decide ((i64.wrap (J-(a0.length:Int)))<0)) (some (-1)) (b3 λn=>O8 a0 n (i64.wrap (J-(a0.length:Int))) 0)
def ai_ (jF:Int->Int->azv) (a0:azp) (eI ey:Int):azv:=
 cond (decide (ey<(a0.length:Int))) ((bj a0 ey).bind λR=>cond (decide ((i64.wrap (eI-(R.length:Int)))<0)) (some (-1)) (jF (i64.wrap (eI-(R.length:Int))) (i64.wrap (ey+1)))) (some eI)
def O9 (a0:azp):Nat->Int->Int->azv
 |0,_,_=>none
 |n+1,eI,ey=>ai_ (O9 a0 n) a0 eI ey
def FU (a0:azp) (J:Int):azv:=
 cond (decide ((i64.wrap (J-(a0.length:Int)))<0)) (some (-1)) (b3 λn=>O9 a0 n (i64.wrap (J-(a0.length:Int))) 0)
def FV (a0:oZ) (J:Int):azv:=
 (Jy a0.cI J).bind λR=>cond (decide (R<0)) (some (-1)) ((JA a0.b0 R).bind λae=>cond (decide (ae<0)) (some (-1)) ((JB a0.cb ae).bind λaz=>cond (decide (az<0)) (some (-1)) ((FU a0.cD az).bind λaY=>cond (decide (aY<0)) (some (-1)) ((FU a0.cA aY).bind λaU=>cond (decide (aU<0)) (some (-1)) (some aU)))))
def FW (a0:lg) (J:Int):azv:=
 cond (decide ((i64.wrap (J-(a0.Label.length:Int)))<0)) (some (-1)) (some (i64.wrap (J-(a0.Label.length:Int))))
def aja (jF:Int->Int->azv) (a0:azH) (eI ey:Int):azv:=
 cond (decide (ey<(a0.length:Int))) ((bj a0 ey).bind λR=>(FW R eI).bind λae=>cond (decide (ae<0)) (some (-1)) (jF ae (i64.wrap (ey+1)))) (some eI)
def O_ (a0:azH):Nat->Int->Int->azv
 |0,_,_=>none
 |n+1,eI,ey=>aja (O_ a0 n) a0 eI ey
def JC (a0:azH) (J:Int):azv:=
 cond (decide ((i64.wrap (J-(a0.length:Int)))<0)) (some (-1)) (b3 λn=>O_ a0 n (i64.wrap (J-(a0.length:Int))) 0)
def FX (a0:jE):Option bY:=
 some (bY.mk a0.Kind a0.Value)
def ajb (fp:azI->Int->Option azI) (a0:azC) (bP:azI) (bL:Int):Option azI:=
 cond (decide (bL<(a0.length:Int))) ((bj a0 bL).bind λR=>(FX R).bind λae=>(bj bP bL).bind λaz=>fp (List.set bP (Int.toNat bL) ae) (i64.wrap (bL+1))) (some bP)
def Pa (a0:azC):Nat->azI->Int->Option azI
 |0,_,_=>none
 |n+1,bP,bL=>ajb (Pa a0 n) a0 bP bL
def FY (a0:azC):Option azI:=
 (nP 16 (a0.length:Int)).bind λ_=>b3 λn=>Pa a0 n (replicate (Int.toNat (a0.length:Int)) (bY.mk 0 0)) 0
def ajc (fp:azA->Int->Option azA) (a0:azz) (bP:azA) (bL:Int):Option azA:=
 cond (decide (bL<(a0.length:Int))) ((bj a0 bL).bind λR=>(FY R).bind λae=>(bj bP bL).bind λaz=>fp (List.set bP (Int.toNat bL) ae) (i64.wrap (bL+1))) (some bP)
def Pb (a0:azz):Nat->azA->Int->Option azA
 |0,_,_=>none
 |n+1,bP,bL=>ajc (Pb a0 n) a0 bP bL
def JD (a0:azz):Option azA:=
 (nP 24 (a0.length:Int)).bind λ_=>b3 λn=>Pb a0 n (replicate (Int.toNat (a0.length:Int)) []) 0
def FZ (a0:lE):Option b_:=
 (JD a0.ck).bind λR=>some (b_.mk a0.Kind a0.Number a0.Name R)
def ajd (fp:azJ->Int->Option azJ) (a0:azD) (bP:azJ) (bL:Int):Option azJ:=
 cond (decide (bL<(a0.length:Int))) ((bj a0 bL).bind λR=>(FZ R).bind λae=>(bj bP bL).bind λaz=>fp (List.set bP (Int.toNat bL) ae) (i64.wrap (bL+1))) (some bP)
def Pc (a0:azD):Nat->azJ->Int->Option azJ
 |0,_,_=>none
 |n+1,bP,bL=>ajd (Pc a0 n) a0 bP bL
def JE (a0:azD):Option azJ:=
 (nP 56 (a0.length:Int)).bind λ_=>b3 λn=>Pc a0 n (replicate (Int.toNat (a0.length:Int)) (b_.mk 0 0 ([]:azq) [])) 0
def F1 (a0:lF):Option a1:=
 (JE a0.Body).bind λR=>some (a1.mk a0.Name a0.dV R)
def aje (fp:azK->Int->Option azK) (a0:azE) (bP:azK) (bL:Int):Option azK:=
 cond (decide (bL<(a0.length:Int))) ((bj a0 bL).bind λR=>(F1 R).bind λae=>(bj bP bL).bind λaz=>fp (List.set bP (Int.toNat bL) ae) (i64.wrap (bL+1))) (some bP)
def Pd (a0:azE):Nat->azK->Int->Option azK
 |0,_,_=>none
 |n+1,bP,bL=>aje (Pd a0 n) a0 bP bL
def JF (a0:azE):Option azK:=
 (nP 48 (a0.length:Int)).bind λ_=>b3 λn=>Pd a0 n (replicate (Int.toNat (a0.length:Int)) (a1.mk ([]:azq) 0 [])) 0
def ajf (fp:azs->Int->Option azs) (a0 bP:azs) (bL:Int):Option azs:=
 cond (decide (bL<(a0.length:Int))) ((bj a0 bL).bind λR=>(bj bP bL).bind λae=>fp (List.set bP (Int.toNat bL) R) (i64.wrap (bL+1))) (some bP)
def Pe (a0:azs):Nat->azs->Int->Option azs
 |0,_,_=>none
 |n+1,bP,bL=>ajf (Pe a0 n) a0 bP bL
def JG (a0:azs):Option azs:=
 (nP 8 (a0.length:Int)).bind λ_=>b3 λn=>Pe a0 n (replicate (Int.toNat (a0.length:Int)) 0) 0
def F2 (a0:lG):Option cQ:=
 (JG a0.b5).bind λR=>some (cQ.mk a0.cJ R)
def ajg (fp:azL->Int->Option azL) (a0:azF) (bP:azL) (bL:Int):Option azL:=
 cond (decide (bL<(a0.length:Int))) ((bj a0 bL).bind λR=>(F2 R).bind λae=>(bj bP bL).bind λaz=>fp (List.set bP (Int.toNat bL) ae) (i64.wrap (bL+1))) (some bP)
def Pf (a0:azF):Nat->azL->Int->Option azL
 |0,_,_=>none
 |n+1,bP,bL=>ajg (Pf a0 n) a0 bP bL
def JH (a0:azF):Option azL:=
 (nP 32 (a0.length:Int)).bind λ_=>b3 λn=>Pf a0 n (replicate (Int.toNat (a0.length:Int)) (cQ.mk 0 [])) 0
def F3 (a0:lf):Option bX:=
 some (bX.mk a0.Left a0.cH a0.Result)
def ajh (fp:azM->Int->Option azM) (a0:azG) (bP:azM) (bL:Int):Option azM:=
 cond (decide (bL<(a0.length:Int))) ((bj a0 bL).bind λR=>(F3 R).bind λae=>(bj bP bL).bind λaz=>fp (List.set bP (Int.toNat bL) ae) (i64.wrap (bL+1))) (some bP)
def Pg (a0:azG):Nat->azM->Int->Option azM
 |0,_,_=>none
 |n+1,bP,bL=>ajh (Pg a0 n) a0 bP bL
def JI (a0:azG):Option azM:=
 (nP 48 (a0.length:Int)).bind λ_=>b3 λn=>Pg a0 n (replicate (Int.toNat (a0.length:Int)) (bX.mk ([]:azq) ([]:azq) ([]:azq))) 0
def aji (fp:azp->Int->Option azp) (a0 bP:azp) (bL:Int):Option azp:=
 cond (decide (bL<(a0.length:Int))) ((bj a0 bL).bind λR=>(bj bP bL).bind λae=>fp (List.set bP (Int.toNat bL) R) (i64.wrap (bL+1))) (some bP)
def Ph (a0:azp):Nat->azp->Int->Option azp
 |0,_,_=>none
 |n+1,bP,bL=>aji (Ph a0 n) a0 bP bL
def F4 (a0:azp):Option azp:=
 (nP 16 (a0.length:Int)).bind λ_=>b3 λn=>Ph a0 n (replicate (Int.toNat (a0.length:Int)) ([]:azq)) 0
def ye (a0:oZ):Option cY:=
 (JF a0.cI).bind λR=>(JH a0.b0).bind λae=>(JI a0.cb).bind λaz=>(F4 a0.cD).bind λaY=>(F4 a0.cA).bind λaU=>some (cY.mk R ae az aY aU)
def F5 (a0:lg):Option dC:=
 some (dC.mk a0.Choice a0.ef a0.Second a0.Label)
def ajj (fp:azN->Int->Option azN) (a0:azH) (bP:azN) (bL:Int):Option azN:=
 cond (decide (bL<(a0.length:Int))) ((bj a0 bL).bind λR=>(F5 R).bind λae=>(bj bP bL).bind λaz=>fp (List.set bP (Int.toNat bL) ae) (i64.wrap (bL+1))) (some bP)
def Pj (a0:azH):Nat->azN->Int->Option azN
 |0,_,_=>none
 |n+1,bP,bL=>ajj (Pj a0 n) a0 bP bL
def zK (a0:azH):Option azN:=
 (nP 40 (a0.length:Int)).bind λ_=>b3 λn=>Pj a0 n (replicate (Int.toNat (a0.length:Int)) (dC.mk 0 0 0 ([]:azq))) 0
def F6 (a0:UInt8):azu:=
 some ((decide (97<=(a0.toNat:Int)))&&(decide ((a0.toNat:Int)<=122)))
def B7 (a0:UInt8):azu:=
 some ((decide (48<=(a0.toNat:Int)))&&(decide ((a0.toNat:Int)<=57)))
def Pk (fH:Int->azu) (a0:azq) (dW:Int):azu:=
 cond (decide (dW<(a0.length:Int))) ((bj a0 dW).bind λaz=>(F6 az).bind λaY=>cond (!aY) ((B7 az).bind λaU=>cond (!aU) (some false) (fH (i64.wrap (dW+1)))) (fH (i64.wrap (dW+1)))) (some true)
def F7 (a0:azq):Nat->Int->azu
 |0,_=>none
 |n+1,dW=>Pk (F7 a0 n) a0 dW
def yf (a0:azq):azu:=
 cond (a0==([]:azq)) (some false) (cond (decide (10<(a0.length:Int))) (some false) ((bj a0 0).bind λR=>(F6 R).bind λae=>cond (!ae) (some false) (b3 λn=>F7 a0 n 0)))
def mr (a0 J a2:Int):azu:=
 some ((decide (J<=a0))&&(decide (a0<=a2)))
def F8 (a0:b_) (j9:Bool):azv:=
 cond j9 (some 1) (cond (a0.Kind==2) (some 2) (some 0))
def F9 (a0:b_):azv:=
 cond (a0.Kind==1) (F8 a0 true) (cond (a0.Kind==3) (F8 a0 true) (F8 a0 (a0.Kind==4)))
def Pl (jF:Int->Int->azu) (a0:azJ) (hi hJ:Int):azu:=
 cond (decide (hJ<(a0.length:Int))) (cond (hi==0) (some false) ((bj a0 hJ).bind λR=>(F9 R).bind λae=>jF (i64.wrap (hi+(i64.wrap (ae-1)))) (i64.wrap (hJ+1)))) (some (hi==0))
def B8 (a0:azJ):Nat->Int->Int->azu
 |0,_,_=>none
 |n+1,hi,hJ=>Pl (B8 a0 n) a0 hi hJ
def JJ (a0:azJ):azu:=
 cond (((a0.length:Int)==0)||(decide (20<(a0.length:Int)))) (some false) (b3 λn=>B8 a0 n 1 0)
def JK (a0:b_) (F_:Bool):azu:=
 cond F_ (some (((a0.Number==0)&&(a0.Name==([]:azq)))&&((a0.ck.length:Int)==0))) (cond (a0.Kind==1) (some (a0.Number==0)) (cond (a0.Kind==3) (some ((a0.Number==0)&&(a0.Name==([]:azq)))) (cond (a0.Kind==4) (some ((a0.Name==([]:azq))&&((a0.ck.length:Int)==0))) (cond (a0.Kind==5) (some (a0.Name==([]:azq))) (some false)))))
def Pm (a0:b_):azu:=
 cond (a0.Kind==0) (JK a0 true) (JK a0 (a0.Kind==2))
def Pn (dx:Int->Int->azv) (a0:azJ) (aT aC:Int):azv:=
 cond (decide (0<aC)) ((bj a0 aT).bind λR=>(F9 R).bind λae=>dx (i64.wrap (aT+1)) (i64.wrap (aC+(i64.wrap (ae-1))))) (some aT)
def B9 (a0:azJ):Nat->Int->Int->azv
 |0,_,_=>none
 |n+1,aT,aC=>Pn (B9 a0 n) a0 aT aC
def Ga (a0:azJ) (J:Int):azv:=
 b3 λn=>B9 a0 n J 1
def Gb (fp:Int->Int->azv) (a0:a1) (J B_ Ca:Int):azv:=
 fp B_ (i64.wrap (Ca+1))
def Po (fp:Int->Int->azv) (a0:a1) (J fK fT:Int):azv:=
 cond (decide (fT<J)) ((bj a0.Body fT).bind λR=>cond (R.Kind==4) ((Ga a0.Body fT).bind λae=>cond (decide (J<ae)) (Gb fp a0 J (i64.wrap (fK+1)) fT) (Gb fp a0 J fK fT)) (Gb fp a0 J fK fT)) (some fK)
def zL (a0:a1) (J:Int):Nat->Int->Int->azv
 |0,_,_=>none
 |n+1,fK,fT=>Po (zL a0 J n) a0 J fK fT
def zM (a0:a1) (J:Int):azv:=
 b3 λn=>zL a0 J n a0.dV 0
def JL (a0:bY) (J:Int):azu:=
 cond (a0.Kind==0) ((mr a0.Value 0 63).bind λR=>some R) (cond (a0.Kind==1) ((mr a0.Value 0 (i64.wrap (J-1))).bind λae=>some ae) (cond (a0.Kind==2) ((mr a0.Value 0 8).bind λaz=>some az) (cond (a0.Kind==3) (some (a0.Value==0)) (some false))))
def JM (a0:bY):azv:=
 cond (a0.Kind==2) (some 2) (cond (a0.Kind==3) (some 1) (some 0))
def Pp (jF:Int->Int->azu) (a0:azI) (J j9 uF:Int):azu:=
 cond (decide (uF<(a0.length:Int))) (cond (j9==0) (some false) ((bj a0 uF).bind λR=>(JL R J).bind λae=>cond (!ae) (some false) ((JM R).bind λaz=>jF (i64.wrap (j9+(i64.wrap (az-1)))) (i64.wrap (uF+1))))) (some (j9==0))
def Cb (a0:azI) (J:Int):Nat->Int->Int->azu
 |0,_,_=>none
 |n+1,j9,uF=>Pp (Cb a0 J n) a0 J j9 uF
def JN (a0:azI) (J a2:Int):azu:=
 cond (decide (a2<(a0.length:Int))) (some false) (b3 λn=>Cb a0 J n 1 0)
def Pq (k2:Int->Int->azv) (R:b_) (uG uH:Int):azv:=
 cond (decide (uH<(R.ck.length:Int))) ((bj R.ck uH).bind λaY=>(JN aY uG 15).bind λaU=>cond (!aU) (some 8) (k2 uG (i64.wrap (uH+1)))) (some 0)
def yg (R:b_):Nat->Int->Int->azv
 |0,_,_=>none
 |n+1,uG,uH=>Pq (yg R n) R uG uH
def s6 (J:a1) (a2:Int) (R:b_) (Gc:Bool):azv:=
 cond Gc (some 6) ((zM J a2).bind λaz=>cond ((R.Kind==4)&&(decide (6<=az))) (some 7) (b3 λn=>yg R n az 0))
def wa (J:a1) (a2:Int) (R:b_):azv:=
 cond (R.Kind==5) (cond (a2==0) (s6 J a2 R true) ((bj J.Body (i64.wrap (a2-1))).bind λbB=>s6 J a2 R (bB.Kind !=1))) (s6 J a2 R false)
def uI (a0:azK) (J:a1) (a2:Int) (R:b_) (Gd:Bool):azv:=
 cond Gd (some 4) (cond (R.Kind==1) (cond ((decide (2<(R.ck.length:Int)))||((decide (0<(R.ck.length:Int)))&&(R.Name==([116,97,117]:azq)))) (some 5) (wa J a2 R)) (cond (R.Kind==3) (cond ((R.ck.length:Int) !=1) (some 5) (wa J a2 R)) (cond (R.Kind==5) ((bj a0 R.Number).bind λbu=>cond ((R.ck.length:Int) !=bu.dV) (some 5) (wa J a2 R)) (wa J a2 R))))
def Cc (a0:azK) (J:a1) (a2:Int) (R:b_) (Ge:Bool):azv:=
 cond Ge (some 3) (cond (R.Kind==4) ((mr R.Number 1 7).bind λcy=>cond (!cy) (uI a0 J a2 R true) (cond (R.Kind==5) ((mr R.Number 0 (i64.wrap ((a0.length:Int)-1))).bind λdE=>uI a0 J a2 R (!dE)) (uI a0 J a2 R false))) (cond (R.Kind==5) ((mr R.Number 0 (i64.wrap ((a0.length:Int)-1))).bind λdN=>uI a0 J a2 R (!dN)) (uI a0 J a2 R false)))
def s7 (a0:azK) (J:a1) (a2:Int):azv:=
 (bj J.Body a2).bind λR=>(Pm R).bind λae=>cond (!ae) (some 2) (cond (R.Kind==1) ((yf R.Name).bind λfa=>Cc a0 J a2 R (!fa)) (Cc a0 J a2 R false))
def Gf (fH:Int->Option (Int×Int)) (a0:azK) (J:a1) (qL:Int):Option (Int×Int):=
 cond (decide (qL<(J.Body.length:Int))) ((s7 a0 J qL).bind λae=>cond (decide (0<ae)) (some (qL,ae)) (fH (i64.wrap (qL+1)))) (some (0,0))
def wb (a0:azK) (J:a1):Nat->Int->Option (Int×Int)
 |0,_=>none
 |n+1,qL=>Gf (wb a0 J n) a0 J qL
def wc (a0:azK) (J:a1):Option (Int×Int):=
 (JJ J.Body).bind λR=>cond (!R) (some (0,1)) (b3 λn=>wb a0 J n 0)
def Pr (fH:Int->azu) (Ps:Int->Int->azu) (a0:azK) (rz uJ:Int):azu:=
 cond (decide (uJ<rz)) ((bj a0 uJ).bind λaY=>(bj a0 rz).bind λaU=>cond (aY.Name==aU.Name) (some false) (Ps rz (i64.wrap (uJ+1)))) (fH (i64.wrap (rz+1)))
def Cd (fH:Int->azu) (a0:azK):Nat->Int->Int->azu
 |0,_,_=>none
 |n+1,rz,uJ=>Pr fH (Cd fH a0 n) a0 rz uJ
def Pt (qM:Int->azu) (a0:azK) (uK:Int):azu:=
 cond (decide (uK<(a0.length:Int))) ((bj a0 uK).bind λbB=>(wc a0 bB).bind λbu=>cond (decide (0<bu.2)) (some false) (qM (i64.wrap (uK+1)))) (some true)
def zN (a0:azK):Nat->Int->azu
 |0,_=>none
 |n+1,uK=>Pt (zN a0 n) a0 uK
def Pu (fH:Int->azu) (a0:azK) (dW:Int):azu:=
 cond (decide (dW<(a0.length:Int))) ((bj a0 dW).bind λR=>(yf R.Name).bind λae=>cond (!ae) (some false) ((mr R.dV 0 3).bind λaz=>cond (!az) (some false) (b3 λn=>Cd fH a0 n dW 0))) (b3 λn=>zN a0 n 0)
def we (a0:azK):Nat->Int->azu
 |0,_=>none
 |n+1,dW=>Pu (we a0 n) a0 dW
def JO (a0:azK):azu:=
 cond (((a0.length:Int)==0)||(decide (4<(a0.length:Int)))) (some false) (b3 λn=>we a0 n 0)
def Pv (dx:Int->azu) (a0:azs) (iV:Int):azu:=
 cond (decide (iV<(a0.length:Int))) ((bj a0 iV).bind λR=>(mr R 0 63).bind λae=>cond (!ae) (some false) (dx (i64.wrap (iV+1)))) (some true)
def Ce (a0:azs):Nat->Int->azu
 |0,_=>none
 |n+1,iV=>Pv (Ce a0 n) a0 iV
def JP (a0:azs):azu:=
 b3 λn=>Ce a0 n 0
def Pw (fH:Int->azu) (a0:cY) (dW:Int):azu:=
 cond (decide (dW<(a0.b0.length:Int))) ((bj a0.b0 dW).bind λR=>(mr R.cJ 0 (i64.wrap ((a0.cI.length:Int)-1))).bind λae=>cond (!ae) (some false) ((bj a0.cI R.cJ).bind λaz=>cond ((R.b5.length:Int) !=az.dV) (some false) ((JP R.b5).bind λaY=>cond (!aY) (some false) (fH (i64.wrap (dW+1)))))) (some true)
def Cf (a0:cY):Nat->Int->azu
 |0,_=>none
 |n+1,dW=>Pw (Cf a0 n) a0 dW
def JQ (a0:cY):azu:=
 cond (((a0.b0.length:Int)==0)||(decide (3<(a0.b0.length:Int)))) (some false) (b3 λn=>Cf a0 n 0)
def rA (a0:azq):azu:=
 (yf a0).bind λR=>some (R&&(!(a0==([116,97,117]:azq))))
def Px (fH:Int->azu) (ajk:Int->Int->azu) (a0:azM) (R:bX) (n0 oz:Int):azu:=
 cond (decide (oz<(a0.length:Int))) ((bj a0 oz).bind λbu=>cond ((bu.Left==R.Result)||(bu.cH==R.Result)) (some false) (ajk n0 (i64.wrap (oz+1)))) (fH (i64.wrap (n0+1)))
def wg (fH:Int->azu) (a0:azM) (R:bX):Nat->Int->Int->azu
 |0,_,_=>none
 |n+1,n0,oz=>Px fH (wg fH a0 R n) a0 R n0 oz
def Py (fH:Int->azu) (a0:azM) (dW:Int):azu:=
 cond (decide (dW<(a0.length:Int))) ((bj a0 dW).bind λR=>(rA R.Left).bind λae=>cond (!ae) (some false) ((rA R.cH).bind λaz=>cond (!az) (some false) ((rA R.Result).bind λaY=>cond ((!aY)||(!(Op.bytesLess R.Left R.cH||R.Left==R.cH))) (some false) (cond (decide (0<dW)) ((bj a0 (i64.wrap (dW-1))).bind λaU=>cond ((!(Op.bytesLess aU.Left R.Left||aU.Left==R.Left))||((aU.Left==R.Left)&&(!(Op.bytesLess aU.cH R.cH)))) (some false) (b3 λn=>wg fH a0 R n dW 0)) (b3 λn=>wg fH a0 R n dW 0))))) (some true)
def s8 (a0:azM):Nat->Int->azu
 |0,_=>none
 |n+1,dW=>Py (s8 a0 n) a0 dW
def JR (a0:azM):azu:=
 cond (decide (6<(a0.length:Int))) (some false) (b3 λn=>s8 a0 n 0)
def Pz (dx:Int->azu) (a0:azp) (iV:Int):azu:=
 cond (decide (iV<(a0.length:Int))) ((bj a0 iV).bind λR=>(rA R).bind λae=>cond (!ae) (some false) (dx (i64.wrap (iV+1)))) (some true)
def Cg (a0:azp):Nat->Int->azu
 |0,_=>none
 |n+1,iV=>Pz (Cg a0 n) a0 iV
def JS (a0:azp):azu:=
 b3 λn=>Cg a0 n 0
def JT (fH:Int->azu) (a0:azp) (dW:Int):azu:=
 cond (decide (dW<(a0.length:Int))) ((bj a0 (i64.wrap (dW-1))).bind λae=>(bj a0 dW).bind λaz=>cond (!(Op.bytesLess ae az)) (some false) (fH (i64.wrap (dW+1)))) (some true)
def rB (a0:azp):Nat->Int->azu
 |0,_=>none
 |n+1,dW=>JT (rB a0 n) a0 dW
def Gg (a0:azp):azu:=
 cond (decide (12<(a0.length:Int))) (some false) ((JS a0).bind λR=>cond (!R) (some false) (b3 λn=>rB a0 n 1))
def JU (a0:cY):azv:=
 (JO a0.cI).bind λR=>cond (!R) (some 1) ((JQ a0).bind λae=>cond (!ae) (some 2) ((JR a0.cb).bind λaz=>cond (!az) (some 3) ((Gg a0.cD).bind λaY=>cond (!aY) (some 4) ((Gg a0.cA).bind λaU=>cond (!aU) (some 5) (some 0)))))
def JV (a0:cY):azu:=
 (JU a0).bind λR=>some (R==0)
def PA (dx:Int->azv) (a0:azq) (iV:Int):azv:=
 cond (decide (iV<(a0.length:Int))) ((bj a0 iV).bind λR=>cond ((R.toNat:Int)==40) (some iV) (dx (i64.wrap (iV+1)))) (some (a0.length:Int))
def yh (a0:azq):Nat->Int->azv
 |0,_=>none
 |n+1,iV=>PA (yh a0 n) a0 iV
def zO (a0:azq):azv:=
 b3 λn=>yh a0 n 0
def JW (kA:azp->Int->Int->Option azp) (a0:azq) (J:UInt8) (Ch:azp) (Ci Cj:Int):Option azp:=
 kA Ch Ci (i64.wrap (Cj+1))
def PB (kA:azp->Int->Int->Option azp) (a0:azq) (J:UInt8) (kn:azp) (lH gn:Int):Option azp:=
 cond (decide (gn<(a0.length:Int))) ((bj a0 gn).bind λR=>cond ((R.toNat:Int)==(J.toNat:Int)) ((gG a0 lH gn).bind λae=>(room 16 (kn.length+1)).bind λ_=>JW kA a0 J (kn++[ae]) (i64.wrap (gn+1)) gn) (JW kA a0 J kn lH gn)) ((gG a0 lH (a0.length:Int)).bind λaz=>(room 16 (kn.length+1)).bind λ_=>some (kn++[az]))
def zP (a0:azq) (J:UInt8):Nat->azp->Int->Int->Option azp
 |0,_,_,_=>none
 |n+1,kn,lH,gn=>PB (zP a0 J n) a0 J kn lH gn
def JX (a0:azq) (J:UInt8):Option azp:=
 b3 λn=>zP a0 J n [] 0 0
def Gh (s9:Int):Option (Int×Bool):=
 some (s9,true)
def PC (ajl:Int->Int->Option (Int×Bool)) (a0:azq) (iC nL pD:Int):Option (Int×Bool):=
 cond (decide (pD<(a0.length:Int))) ((bj a0 pD).bind λaY=>(B7 aY).bind λaU=>cond (!aU) (some (0,false)) (ajl (i64.wrap ((i64.wrap (10*nL))+(i64.wrap (u8.wrap ((aY.toNat:Int)-48))))) (i64.wrap (pD+1)))) (cond (iC==1) (Gh (i64.wrap (0-nL))) (Gh nL))
def wh (a0:azq) (iC:Int):Nat->Int->Int->Option (Int×Bool)
 |0,_,_=>none
 |n+1,nL,pD=>PC (wh a0 iC n) a0 iC nL pD
def Ck (a0:azq) (iC:Int):Option (Int×Bool):=
 cond ((a0.length:Int)==iC) (some (0,false)) (cond (decide (18<(i64.wrap ((a0.length:Int)-iC)))) (some (0,false)) ((bj a0 iC).bind λR=>cond ((R.toNat:Int)==48) (cond (decide (1<(a0.length:Int))) (some (0,false)) (b3 λn=>wh a0 iC n 0 iC)) (b3 λn=>wh a0 iC n 0 iC)))
def JY (a0:azq):Option (Int×Bool):=
 cond (decide (0<(a0.length:Int))) ((bj a0 0).bind λbB=>cond ((bB.toNat:Int)==45) (Ck a0 1) (Ck a0 0)) (Ck a0 0)
def PD (ajm:azs->Int->Option (azs×Bool)) (bu:azp) (pE:azs) (rC:Int):Option (azs×Bool):=
 cond (decide (rC<(bu.length:Int))) ((bj bu rC).bind λcy=>(JY cy).bind λdE=>cond (!dE.2) (some ([],false)) ((mr dE.1 0 63).bind λdN=>cond (!dN) (some ([],false)) ((room 8 (pE.length+1)).bind λ_=>ajm (pE++[dE.1]) (i64.wrap (rC+1))))) (some (pE,(decide ((pE.length:Int)<=2))))
def zQ (bu:azp):Nat->azs->Int->Option (azs×Bool)
 |0,_,_=>none
 |n+1,pE,rC=>PD (zQ bu n) bu pE rC
def s_ (a0:azq):Option (azs×Bool):=
 (zO a0).bind λR=>cond (R==(a0.length:Int)) ((yf a0).bind λae=>some ([],ae)) ((gG a0 0 R).bind λaz=>(rA az).bind λaY=>cond (!aY) (some ([],false)) ((bj a0 (i64.wrap ((a0.length:Int)-1))).bind λaU=>cond ((aU.toNat:Int) !=41) (some ([],false)) ((gG a0 (i64.wrap (R+1)) (i64.wrap ((a0.length:Int)-1))).bind λbB=>(JX bB (44:UInt8)).bind λbu=>b3 λn=>zQ bu n [] 0)))
def uL (a0:azq):azu:=
 (s_ a0).bind λR=>some R.2
def JZ (a0:dC):azu:=
 (mr a0.Choice 0 199).bind λR=>cond R ((mr a0.ef 0 2).bind λae=>cond ae ((mr a0.Second (-1) 2).bind λaz=>cond az ((uL a0.Label).bind λaY=>some aY) (some false)) (some false)) (some false)
def PE (fH:Int->azu) (a0:azN) (dW:Int):azu:=
 cond (decide (dW<(a0.length:Int))) ((bj a0 dW).bind λR=>(JZ R).bind λae=>cond (!ae) (some false) (fH (i64.wrap (dW+1)))) (some true)
def Cl (a0:azN):Nat->Int->azu
 |0,_=>none
 |n+1,dW=>PE (Cl a0 n) a0 dW
def J0 (a0:azN):azu:=
 cond (decide (60<(a0.length:Int))) (some false) (b3 λn=>Cl a0 n 0)
def wi (a0:azs):Option azs:=
 (room 8 (a0.length)).bind λ_=>some a0
def PF (fp:azO->Int->Option azO) (a0:cY) (bP:azO) (bL:Int):Option azO:=
 cond (decide (bL<(a0.b0.length:Int))) ((bj a0.b0 bL).bind λR=>(wi R.b5).bind λae=>(room 40 (bP.length+1)).bind λ_=>fp (bP++[(ba.mk R.cJ 0 ae)]) (i64.wrap (bL+1))) (some bP)
def Cm (a0:cY):Nat->azO->Int->Option azO
 |0,_,_=>none
 |n+1,bP,bL=>PF (Cm a0 n) a0 bP bL
def J1 (a0:cY):Option azO:=
 b3 λn=>Cm a0 n [] 0
def rD (a0:Bool):azv:=
 cond a0 (some 1) (some 0)
def PG (dx:Int->Int->azv) (a0:azI) (aT aC:Int):azv:=
 cond (decide (0<aC)) ((bj a0 aT).bind λR=>(JM R).bind λae=>dx (i64.wrap (aT+1)) (i64.wrap (aC+(i64.wrap (ae-1))))) (some aT)
def Cn (a0:azI):Nat->Int->Int->azv
 |0,_,_=>none
 |n+1,aT,aC=>PG (Cn a0 n) a0 aT aC
def J2 (a0:azI) (J:Int):azv:=
 b3 λn=>Cn a0 n J 1
def J3 (a0 J a2:Int):azv:=
 cond (a0==0) (some (Int.tmod (i64.wrap (J+a2)) 64)) (cond (a0==1) (some (Int.tmod (i64.wrap ((i64.wrap (J-a2))+64)) 64)) (cond (a0==2) (some (Int.tmod (i64.wrap (J*a2)) 64)) (cond (a0==3) ((rD (J==a2)).bind λR=>some R) (cond (a0==4) ((rD (J !=a2)).bind λae=>some ae) (cond (a0==5) ((rD (decide (J<a2))).bind λaz=>some az) (cond (a0==6) ((rD (decide (J<=a2))).bind λaY=>some aY) (cond (a0==7) (cond (J !=0) ((rD (a2 !=0)).bind λaU=>some aU) ((rD false).bind λbB=>some bB)) (cond (J !=0) ((rD true).bind λbu=>some bu) ((rD (a2 !=0)).bind λcy=>some cy)))))))))
def PH (Co:azI->azs->Int->azv) (a0:azI) (J:azs) (a2:Int):azv:=
 (bj a0 a2).bind λR=>cond (R.Kind==0) (some R.Value) (cond (R.Kind==1) ((bj J R.Value).bind λae=>some ae) (cond (R.Kind==3) ((Co a0 J (i64.wrap (a2+1))).bind λaz=>(rD (az==0)).bind λaY=>some aY) ((Co a0 J (i64.wrap (a2+1))).bind λaU=>(J2 a0 (i64.wrap (a2+1))).bind λbB=>(Co a0 J bB).bind λbu=>(J3 R.Value aU bu).bind λcy=>some cy)))
def zR:Nat->azI->azs->Int->azv
 |0,_,_,_=>none
 |n+1,a0,J,a2=>PH (zR n) a0 J a2
def PI (a0:azI) (J:azs) (a2:Int):azv:=
 b3 λn=>zR n a0 J a2
def zS (a0:azI) (J:azs):azv:=
 (PI a0 J 0).bind λR=>some R
def PJ (fp:azs->Int->Option azs) (a0:azA) (J fK:azs) (fT:Int):Option azs:=
 cond (decide (fT<(a0.length:Int))) ((bj a0 fT).bind λR=>(zS R J).bind λae=>(room 8 (fK.length+1)).bind λ_=>fp (fK++[ae]) (i64.wrap (fT+1))) (some fK)
def Cp (a0:azA) (J:azs):Nat->azs->Int->Option azs
 |0,_,_=>none
 |n+1,fK,fT=>PJ (Cp a0 J n) a0 J fK fT
def Gi (a0:azA) (J:azs):Option azs:=
 b3 λn=>Cp a0 J n [] 0
def J4 (jF:azq->Int->Option azq) (a0:Int) (wj:azq) (yi uM:Int):Option azq:=
 (room 1 (wj.length+1)).bind λ_=>jF (wj++[(pe (i64.wrap (48+uM)))]) (i64.wrap (Int.tdiv yi 10))
def ajn (zT:azq->Int->Option azq) (o0 iI:azq) (ie:Int):Option azq:=
 cond (decide (0<=ie)) ((bj o0 ie).bind λR=>(room 1 (iI.length+1)).bind λ_=>zT (iI++[R]) (i64.wrap (ie-1))) (some iI)
def PK (o0:azq):Nat->azq->Int->Option azq
 |0,_,_=>none
 |n+1,iI,ie=>ajn (PK o0 n) o0 iI ie
def yj (o0:azq):Option azq:=
 b3 λn=>PK o0 n [] (i64.wrap ((o0.length:Int)-1))
def PL (jF:azq->Int->Option azq) (a0:Int) (hi:azq) (hJ:Int):Option azq:=
 cond (hJ !=0) (cond (decide ((Int.tmod hJ 10)<0)) (J4 jF a0 hi hJ (i64.wrap (0-(Int.tmod hJ 10)))) (J4 jF a0 hi hJ (Int.tmod hJ 10))) (cond (decide (a0<0)) ((room 1 (hi.length+1)).bind λ_=>yj (hi++[(45:UInt8)])) (yj hi))
def wk (a0:Int):Nat->azq->Int->Option azq
 |0,_,_=>none
 |n+1,hi,hJ=>PL (wk a0 n) a0 hi hJ
def Gj (a0:Int):Option azq:=
 cond (a0==0) (some ([48]:azq)) (b3 λn=>wk a0 n [] a0)
def J5 (jF:azq->Int->Option azq) (a0:azs) (wm:azq) (wo:Int):Option azq:=
 (bj a0 wo).bind λR=>(Gj R).bind λae=>(il (wm.length+ae.length)).bind λ_=>jF (wm++ae) (i64.wrap (wo+1))
def PM (jF:azq->Int->Option azq) (a0:azs) (hi:azq) (hJ:Int):Option azq:=
 cond (decide (hJ<(a0.length:Int))) (cond (decide (0<hJ)) ((il (hi.length+1)).bind λ_=>J5 jF a0 (hi++([44]:azq)) hJ) (J5 jF a0 hi hJ)) (some hi)
def zU (a0:azs):Nat->azq->Int->Option azq
 |0,_,_=>none
 |n+1,hi,hJ=>PM (zU a0 n) a0 hi hJ
def J6 (a0:azs):Option azq:=
 cond ((a0.length:Int)==0) (some ([45]:azq)) (b3 λn=>zU a0 n ([]:azq) 0)
def Gk (a0:azq) (J:azs):Option azq:=
 cond ((J.length:Int)==0) (some a0) ((il (a0.length+1)).bind λ_=>(J6 J).bind λR=>(il ((a0++([40]:azq)).length+R.length)).bind λ_=>(il (((a0++([40]:azq))++R).length+1)).bind λ_=>some (((a0++([40]:azq))++R)++([41]:azq)))
def PN (fH:Int->azu) (a0 J:azs) (cr:Int):azu:=
 cond (decide (cr<(a0.length:Int))) ((bj a0 cr).bind λR=>(bj J cr).bind λae=>cond (R !=ae) (some false) (fH (i64.wrap (cr+1)))) (some true)
def Cq (a0 J:azs):Nat->Int->azu
 |0,_=>none
 |n+1,cr=>PN (Cq a0 J n) a0 J cr
def Gl (a0 J:azs):azu:=
 cond ((a0.length:Int) !=(J.length:Int)) (some false) (b3 λn=>Cq a0 J n 0)
def Cr (a0 J:ba):azu:=
 cond (a0.cJ==J.cJ) (cond (a0.Part==J.Part) ((Gl a0.b5 J.b5).bind λR=>some R) (some false)) (some false)
def PO (dx:Int->Option azQ) (a0:azQ) (J:bl) (aC:Int):Option azQ:=
 cond (decide (aC<(a0.length:Int))) ((bj a0 aC).bind λR=>cond (R.Label==J.Label) ((Cr R.Next J.Next).bind λae=>cond ae (some a0) (dx (i64.wrap (aC+1)))) (dx (i64.wrap (aC+1)))) ((room 56 (a0.length+1)).bind λ_=>some (a0++[J]))
def Cs (a0:azQ) (J:bl):Nat->Int->Option azQ
 |0,_=>none
 |n+1,aC=>PO (Cs a0 J n) a0 J aC
def J7 (a0:azQ) (J:bl):Option azQ:=
 b3 λn=>Cs a0 J n 0
def zV (mu:azK->Int->Int->azs->azQ->Option azQ) (a0:azK) (J a2:Int) (a3:azs) (Ct:azQ):Option azQ:=
 some Ct
def Gm (mu:azK->Int->Int->azs->azQ->Option azQ) (a3:azs) (a4:azQ) (ae:b_) (zW zX:Int) (zY:azs):Option azQ:=
 (Gi ae.ck a3).bind λaY=>(Gk ae.Name aY).bind λaU=>(J7 a4 (bl.mk aU (ba.mk zW zX zY))).bind λbB=>some bB
def PQ (mu:azK->Int->Int->azs->azQ->Option azQ) (qM:azQ->Int->Option azQ) (a0:azK) (J a2:Int) (a3:azs) (ae:b_) (uN:azQ) (lh:Int):Option azQ:=
 cond (decide (lh<=ae.Number)) ((wi a3).bind λhB=>(room 8 (hB.length+1)).bind λ_=>(mu a0 J (i64.wrap (a2+1)) (hB++[lh]) uN).bind λju=>qM ju (i64.wrap (lh+1))) (zV mu a0 J a2 a3 uN)
def Cu (mu:azK->Int->Int->azs->azQ->Option azQ) (a0:azK) (J a2:Int) (a3:azs) (ae:b_):Nat->azQ->Int->Option azQ
 |0,_,_=>none
 |n+1,uN,lh=>PQ mu (Cu mu a0 J a2 a3 ae n) a0 J a2 a3 ae uN lh
def yk (mu:azK->Int->Int->azs->azQ->Option azQ) (a0:azK) (J a2:Int) (a3:azs) (a4:azQ):Option azQ:=
 (bj a0 J).bind λR=>(bj R.Body a2).bind λae=>cond (decide (200<(a4.length:Int))) (some a4) (cond (ae.Kind==1) ((wi a3).bind λaz=>(bj R.Body (i64.wrap (a2+1))).bind λbu=>cond (bu.Kind==5) ((Gi bu.ck a3).bind λcy=>Gm mu a3 a4 ae bu.Number 0 cy) (Gm mu a3 a4 ae J (i64.wrap (a2+1)) az)) (cond (ae.Kind==2) ((mu a0 J (i64.wrap (a2+1)) a3 a4).bind λdE=>(Ga R.Body (i64.wrap (a2+1))).bind λdN=>(mu a0 J dN a3 dE).bind λfa=>some fa) (cond (ae.Kind==3) ((bj ae.ck 0).bind λkH=>(zS kH a3).bind λmK=>cond (mK !=0) ((mu a0 J (i64.wrap (a2+1)) a3 a4).bind λje=>some je) (zV mu a0 J a2 a3 a4)) (cond (ae.Kind==4) (b3 λn=>Cu mu a0 J a2 a3 ae n a4 0) (zV mu a0 J a2 a3 a4)))))
def rE:Nat->azK->Int->Int->azs->azQ->Option azQ
 |0,_,_,_,_,_=>none
 |n+1,a0,J,a2,a3,a4=>yk (rE n) a0 J a2 a3 a4
def J8 (a0:azK) (J a2:Int) (a3:azs) (a4:azQ):Option azQ:=
 b3 λn=>rE n a0 J a2 a3 a4
def uO (a0:azK) (J:ba):Option (azQ×Bool):=
 (J8 a0 J.cJ J.Part J.b5 []).bind λR=>some (R,(decide ((R.length:Int)<=200)))
def ta (a0:azq):Option azq:=
 (zO a0).bind λR=>(gG a0 0 R).bind λae=>some ae
def PR (dx:Int->azv) (a0:azp) (J:azq) (aC:Int):azv:=
 cond (decide (aC<(a0.length:Int))) ((bj a0 aC).bind λR=>cond (R==J) (some aC) (dx (i64.wrap (aC+1)))) (some (-1))
def Cv (a0:azp) (J:azq):Nat->Int->azv
 |0,_=>none
 |n+1,aC=>PR (Cv a0 J n) a0 J aC
def Cw (a0:azp) (J:azq):azv:=
 b3 λn=>Cv a0 J n 0
def PS (fp:azO->Int->Option azO) (a0 bP:azO) (bL:Int):Option azO:=
 cond (decide (bL<(a0.length:Int))) ((bj a0 bL).bind λR=>(wi R.b5).bind λae=>(room 40 (bP.length+1)).bind λ_=>fp (bP++[(ba.mk R.cJ R.Part ae)]) (i64.wrap (bL+1))) (some bP)
def Cx (a0:azO):Nat->azO->Int->Option azO
 |0,_,_=>none
 |n+1,bP,bL=>PS (Cx a0 n) a0 bP bL
def wq (a0:azO):Option azO:=
 b3 λn=>Cx a0 n [] 0
def Cy (a0:cY) (J:azq):Option azq:=
 (ta J).bind λR=>(Cw a0.cA R).bind λae=>cond (decide (0<=ae)) (some ([116,97,117]:azq)) (some J)
def PT (fH:Int->azu) (a0 J:azO) (cr:Int):azu:=
 cond (decide (cr<(a0.length:Int))) ((bj a0 cr).bind λR=>(bj J cr).bind λae=>(Cr R ae).bind λaz=>cond (!az) (some false) (fH (i64.wrap (cr+1)))) (some true)
def Cz (a0 J:azO):Nat->Int->azu
 |0,_=>none
 |n+1,cr=>PT (Cz a0 J n) a0 J cr
def J9 (a0 J:azO):azu:=
 cond ((a0.length:Int) !=(J.length:Int)) (some false) (b3 λn=>Cz a0 J n 0)
def PU (dx:Int->Option azP) (a0:azP) (J:br) (aC:Int):Option azP:=
 cond (decide (aC<(a0.length:Int))) ((bj a0 aC).bind λR=>cond (R.Label==J.Label) (cond (R.ef==J.ef) (cond (R.Second==J.Second) ((J9 R.State J.State).bind λae=>cond ae (some a0) (dx (i64.wrap (aC+1)))) (dx (i64.wrap (aC+1)))) (dx (i64.wrap (aC+1)))) (dx (i64.wrap (aC+1)))) ((room 56 (a0.length+1)).bind λ_=>some (a0++[J]))
def CA (a0:azP) (J:br):Nat->Int->Option azP
 |0,_=>none
 |n+1,aC=>PU (CA a0 J n) a0 J aC
def zZ (a0:azP) (J:br):Option azP:=
 b3 λn=>CA a0 J n 0
def PV (uP:azM->azq->azq->Option azq) (fH:Int->Option azq) (a0:azM) (J a2:azq) (tb:Int):Option azq:=
 cond (decide (tb<(a0.length:Int))) ((bj a0 tb).bind λae=>cond ((ae.Left==J)&&(ae.cH==a2)) (some ae.Result) (fH (i64.wrap (tb+1)))) (some ([]:azq))
def CB (uP:azM->azq->azq->Option azq) (a0:azM) (J a2:azq):Nat->Int->Option azq
 |0,_=>none
 |n+1,tb=>PV uP (CB uP a0 J a2 n) a0 J a2 tb
def z1 (uP:azM->azq->azq->Option azq) (a0:azM) (J a2:azq):Option azq:=
 cond (!(Op.bytesLess J a2||J==a2)) ((uP a0 a2 J).bind λR=>some R) (b3 λn=>CB uP a0 J a2 n 0)
def CC:Nat->azM->azq->azq->Option azq
 |0,_,_,_=>none
 |n+1,a0,J,a2=>z1 (CC n) a0 J a2
def Gn (a0:azM) (J a2:azq):Option azq:=
 b3 λn=>CC n a0 J a2
def J_ (a0:cY) (J a2:azq):Option azq:=
 (s_ J).bind λR=>(s_ a2).bind λae=>(Gl R.1 ae.1).bind λaz=>cond (!az) (some ([]:azq)) ((ta J).bind λaY=>(ta a2).bind λaU=>(Gn a0.cb aY aU).bind λbB=>cond (bB==([]:azq)) (some ([]:azq)) ((Cw a0.cD bB).bind λbu=>cond (decide (bu<0)) (some ([]:azq)) ((Gk bB R.1).bind λcy=>some cy)))
def Gp (qN:azP->azB->Int->Option (azP×Bool)) (zT:azP->azB->Int->Int->Option (azP×Bool)) (J:azO) (bn:azK) (bp:azL) (bo:azM) (bH bG:azp) (CD:azP) (CE:azB) (CF CG:Int):Option (azP×Bool):=
 zT CD CE CF (i64.wrap (CG+1))
def PW (qN:azP->azB->Int->Option (azP×Bool)) (zT:azP->azB->Int->Int->Option (azP×Bool)) (J:azO) (bn:azK) (bp:azL) (bo:azM) (bH bG:azp) (iI:azP) (ie:azB) (h6 l1:Int):Option (azP×Bool):=
 (bj ie h6).bind λaz=>cond (decide (l1<(az.length:Int))) ((bj az l1).bind λaY=>cond (!(aY.Label==([116,97,117]:azq))) ((ta aY.Label).bind λaU=>(Cw bH aU).bind λbB=>cond (decide (bB<0)) (Gp qN zT J bn bp bo bH bG iI ie h6 l1) ((wq J).bind λbu=>(bj bu h6).bind λcy=>(Cy (cY.mk bn bp bo bH bG) aY.Label).bind λdE=>(wq (List.set bu (Int.toNat h6) aY.Next)).bind λdN=>(zZ iI (br.mk dE h6 (-1) dN)).bind λfa=>Gp qN zT J bn bp bo bH bG fa ie h6 l1)) ((wq J).bind λkH=>(bj kH h6).bind λmK=>(Cy (cY.mk bn bp bo bH bG) aY.Label).bind λje=>(wq (List.set kH (Int.toNat h6) aY.Next)).bind λhB=>(zZ iI (br.mk je h6 (-1) hB)).bind λju=>Gp qN zT J bn bp bo bH bG ju ie h6 l1)) (qN iI ie (i64.wrap (h6+1)))
def yl (qN:azP->azB->Int->Option (azP×Bool)) (J:azO) (bn:azK) (bp:azL) (bo:azM) (bH bG:azp):Nat->azP->azB->Int->Int->Option (azP×Bool)
 |0,_,_,_,_=>none
 |n+1,iI,ie,h6,l1=>PW qN (yl qN J bn bp bo bH bG n) J bn bp bo bH bG iI ie h6 l1
def Ka (iJ:azP->azB->Int->Option (azP×Bool)) (k2:azP->azB->Int->Int->Option (azP×Bool)) (qa:azP->azB->Int->Int->Int->Option (azP×Bool)) (Kb:azP->azB->Int->Int->Int->Int->Option (azP×Bool)) (J:azO) (bn:azK) (bp:azL) (bo:azM) (bH bG:azp) (CH:azP) (CI:azB) (CJ CK:Int) (CL CM:Int):Option (azP×Bool):=
 Kb CH CI CJ CK CL (i64.wrap (CM+1))
def Kc (iJ:azP->azB->Int->Option (azP×Bool)) (k2:azP->azB->Int->Int->Option (azP×Bool)) (qa:azP->azB->Int->Int->Int->Option (azP×Bool)) (Kb:azP->azB->Int->Int->Int->Int->Option (azP×Bool)) (J:azO) (bn:azK) (bp:azL) (bo:azM) (bH bG:azp) (nh:azP) (mL:azB) (j_ kI:Int) (ni mM:Int):Option (azP×Bool):=
 (bj mL kI).bind λqb=>cond ((decide (mM<(qb.length:Int)))&&(decide ((nh.length:Int)<=200))) ((bj mL j_).bind λlI=>(bj lI ni).bind λlJ=>(bj qb mM).bind λlj=>(J_ (cY.mk bn bp bo bH bG) lJ.Label lj.Label).bind λmN=>cond (mN==([]:azq)) (Ka iJ k2 qa Kb J bn bp bo bH bG nh mL j_ kI ni mM) ((wq J).bind λlK=>(bj lK j_).bind λPX=>(bj (List.set lK (Int.toNat j_) lJ.Next) kI).bind λwt=>(Cy (cY.mk bn bp bo bH bG) mN).bind λrF=>(wq (List.set (List.set lK (Int.toNat j_) lJ.Next) (Int.toNat kI) lj.Next)).bind λuQ=>(zZ nh (br.mk rF j_ kI uQ)).bind λKd=>Ka iJ k2 qa Kb J bn bp bo bH bG Kd mL j_ kI ni mM)) (qa nh mL j_ kI (i64.wrap (ni+1)))
def uR (iJ:azP->azB->Int->Option (azP×Bool)) (k2:azP->azB->Int->Int->Option (azP×Bool)) (qa:azP->azB->Int->Int->Int->Option (azP×Bool)) (J:azO) (bn:azK) (bp:azL) (bo:azM) (bH bG:azp):Nat->azP->azB->Int->Int->Int->Int->Option (azP×Bool)
 |0,_,_,_,_,_,_=>none
 |n+1,nh,mL,j_,kI,ni,mM=>Kc iJ k2 qa (uR iJ k2 qa J bn bp bo bH bG n) J bn bp bo bH bG nh mL j_ kI ni mM
def PY (iJ:azP->azB->Int->Option (azP×Bool)) (k2:azP->azB->Int->Int->Option (azP×Bool)) (qa:azP->azB->Int->Int->Int->Option (azP×Bool)) (J:azO) (bn:azK) (bp:azL) (bo:azM) (bH bG:azp) (uS:azP) (tc:azB) (td uT wu:Int):Option (azP×Bool):=
 (bj tc td).bind λiK=>cond (decide (wu<(iK.length:Int))) (b3 λn=>uR iJ k2 qa J bn bp bo bH bG n uS tc td uT wu 0) (k2 uS tc td (i64.wrap (uT+1)))
def rG (iJ:azP->azB->Int->Option (azP×Bool)) (k2:azP->azB->Int->Int->Option (azP×Bool)) (J:azO) (bn:azK) (bp:azL) (bo:azM) (bH bG:azp):Nat->azP->azB->Int->Int->Int->Option (azP×Bool)
 |0,_,_,_,_,_=>none
 |n+1,uS,tc,td,uT,wu=>PY iJ k2 (rG iJ k2 J bn bp bo bH bG n) J bn bp bo bH bG uS tc td uT wu
def PZ (iJ:azP->azB->Int->Option (azP×Bool)) (k2:azP->azB->Int->Int->Option (azP×Bool)) (J:azO) (bn:azK) (bp:azL) (bo:azM) (bH bG:azp) (uU:azP) (uV:azB) (uW wv:Int):Option (azP×Bool):=
 cond (decide (wv<(J.length:Int))) (b3 λn=>rG iJ k2 J bn bp bo bH bG n uU uV uW wv 0) (iJ uU uV (i64.wrap (uW+1)))
def o1 (iJ:azP->azB->Int->Option (azP×Bool)) (J:azO) (bn:azK) (bp:azL) (bo:azM) (bH bG:azp):Nat->azP->azB->Int->Int->Option (azP×Bool)
 |0,_,_,_,_=>none
 |n+1,uU,uV,uW,wv=>PZ iJ (o1 iJ J bn bp bo bH bG n) J bn bp bo bH bG uU uV uW wv
def P0 (iJ:azP->azB->Int->Option (azP×Bool)) (J:azO) (bn:azK) (bp:azL) (bo:azM) (bH bG:azp) (rH:azP) (ym:azB) (te:Int):Option (azP×Bool):=
 cond (decide (te<(J.length:Int))) (b3 λn=>o1 iJ J bn bp bo bH bG n rH ym te (i64.wrap (te+1))) (some (rH,(decide ((rH.length:Int)<=200))))
def l3 (J:azO) (bn:azK) (bp:azL) (bo:azM) (bH bG:azp):Nat->azP->azB->Int->Option (azP×Bool)
 |0,_,_,_=>none
 |n+1,rH,ym,te=>P0 (l3 J bn bp bo bH bG n) J bn bp bo bH bG rH ym te
def P1 (qN:azP->azB->Int->Option (azP×Bool)) (J:azO) (bn:azK) (bp:azL) (bo:azM) (bH bG:azp) (uX:azP) (uY:azB) (wx:Int):Option (azP×Bool):=
 cond (decide (wx<(J.length:Int))) (b3 λn=>yl qN J bn bp bo bH bG n uX uY wx 0) (b3 λn=>l3 J bn bp bo bH bG n uX uY 0)
def tf (J:azO) (bn:azK) (bp:azL) (bo:azM) (bH bG:azp):Nat->azP->azB->Int->Option (azP×Bool)
 |0,_,_,_=>none
 |n+1,uX,uY,wx=>P1 (tf J bn bp bo bH bG n) J bn bp bo bH bG uX uY wx
def Gq (kA:azB->Int->Option (azP×Bool)) (J:azO) (bn:azK) (bp:azL) (bo:azM) (bH bG:azp) (gn:azB) (qc:Int):Option (azP×Bool):=
 cond (decide (qc<(J.length:Int))) ((bj J qc).bind λR=>(uO bn R).bind λae=>cond (!ae.2) (some ([],false)) ((room 24 (gn.length+1)).bind λ_=>kA (gn++[ae.1]) (i64.wrap (qc+1)))) (b3 λn=>tf J bn bp bo bH bG n [] gn 0)
def wy (J:azO) (bn:azK) (bp:azL) (bo:azM) (bH bG:azp):Nat->azB->Int->Option (azP×Bool)
 |0,_,_=>none
 |n+1,gn,qc=>Gq (wy J bn bp bo bH bG n) J bn bp bo bH bG gn qc
def Ke (bn:azK) (bp:azL) (bo:azM) (bH bG:azp) (J:azO):Option (azP×Bool):=
 b3 λn=>wy J bn bp bo bH bG n [] 0
def CN (fp:azO->Int->Option (azO×Int)) (J:azN) (bn:azK) (bp:azL) (bo:azM) (bH bG:azp) (fT:azO) (rI:Int):Option (azO×Int):=
 cond (decide (rI<(J.length:Int))) ((Ke bn bp bo bH bG fT).bind λae=>cond (!ae.2) (some ([],5)) ((bj J rI).bind λaz=>cond (decide ((ae.1.length:Int)<=az.Choice)) (some ([],9)) ((bj ae.1 az.Choice).bind λaY=>cond (((aY.ef !=az.ef)||(aY.Second !=az.Second))||(!(aY.Label==az.Label))) (some ([],9)) (fp aY.State (i64.wrap (rI+1)))))) (some (fT,0))
def wz (J:azN) (bn:azK) (bp:azL) (bo:azM) (bH bG:azp):Nat->azO->Int->Option (azO×Int)
 |0,_,_=>none
 |n+1,fT,rI=>CN (wz J bn bp bo bH bG n) J bn bp bo bH bG fT rI
def Kf (bn:azK) (bp:azL) (bo:azM) (bH bG:azp) (J:azN):Option (azO×Int):=
 (J1 (cY.mk bn bp bo bH bG)).bind λR=>b3 λn=>wz J bn bp bo bH bG n R 0
def Kg (a0:cY) (J:azN):Option (azO×Int):=
 (JV a0).bind λR=>cond (!R) (some ([],1)) ((J0 J).bind λae=>cond (!ae) (some ([],7)) ((Kf a0.cI a0.b0 a0.cb a0.cD a0.cA J).bind λaz=>some (az.1,az.2)))
def jG (a0 J a2:Int):azu:=
 some ((decide (J<=a0))&&(decide (a0<=a2)))
def P2 (a0:a1):azu:=
 (jG a0.dV 0 3).bind λR=>some (!R)
def P3 (dx:Int->azv) (a0:azK) (cK:Int):azv:=
 cond (decide (cK<(a0.length:Int))) ((bj a0 cK).bind λR=>(P2 R).bind λae=>cond ae (some cK) (dx (i64.wrap (cK+1)))) (some (-1))
def Gr (a0:azK):Nat->Int->azv
 |0,_=>none
 |n+1,cK=>P3 (Gr a0 n) a0 cK
def P4 (a0:azK):azv:=
 b3 λn=>Gr a0 n 0
def P5 (a0:azK):azu:=
 (P4 a0).bind λR=>some (decide (0<=R))
def Kh (a0:azK):azu:=
 (P5 a0).bind λR=>some (!R)
def P6 (a0:UInt8):azu:=
 some ((decide (48<=(a0.toNat:Int)))&&(decide ((a0.toNat:Int)<=57)))
def Ki (dx:Int->azu) (a0:azq) (fU:Int):azu:=
 cond (decide (fU<(a0.length:Int))) ((bj a0 fU).bind λR=>cond (!((decide (97<=(R.toNat:Int)))&&(decide ((R.toNat:Int)<=122)))) (cond (fU==0) (some false) ((P6 R).bind λae=>cond (!ae) (some false) (dx (i64.wrap (fU+1))))) (dx (i64.wrap (fU+1)))) (some ((decide (1<=(a0.length:Int)))&&(decide ((a0.length:Int)<=10))))
def yn (a0:azq):Nat->Int->azu
 |0,_=>none
 |n+1,fU=>Ki (yn a0 n) a0 fU
def Gs (a0:azq):azu:=
 b3 λn=>yn a0 n 0
def P7 (a0:a1) (J:azq):azu:=
 some (a0.Name==J)
def P8 (dx:Int->azv) (a0:azK) (J:azq) (cK:Int):azv:=
 cond (decide (cK<(a0.length:Int))) ((bj a0 cK).bind λR=>(P7 R J).bind λae=>cond ae (some cK) (dx (i64.wrap (cK+1)))) (some (-1))
def Gt (a0:azK) (J:azq):Nat->Int->azv
 |0,_=>none
 |n+1,cK=>P8 (Gt a0 J n) a0 J cK
def P9 (a0:azK) (J:azq):azv:=
 b3 λn=>Gt a0 J n 0
def Kj (a0:azK) (J:azq):azv:=
 (P9 a0 J).bind λR=>some R
def Gu (a0:b_) (ey:Bool):azv:=
 cond ey (some 1) (cond (a0.Kind==2) (some 2) (some 0))
def Gv (a0:b_):azv:=
 cond (a0.Kind==1) (Gu a0 true) (cond (a0.Kind==3) (Gu a0 true) (Gu a0 (a0.Kind==4)))
def P_ (dx:Int->Int->azv) (a0:a1) (aT aC:Int):azv:=
 cond (decide (0<aC)) (cond (decide ((a0.Body.length:Int)<=aT)) (some (-1)) ((bj a0.Body aT).bind λR=>(Gv R).bind λae=>dx (i64.wrap (aT+1)) (i64.wrap (aC+(i64.wrap (ae-1)))))) (some aT)
def CO (a0:a1):Nat->Int->Int->azv
 |0,_,_=>none
 |n+1,aT,aC=>P_ (CO a0 n) a0 aT aC
def Gw (a0:a1) (J:Int):azv:=
 b3 λn=>CO a0 n J 1
def Qa (qd:Int->dQ->azR->a1->Option (Int×azR)) (ajo:azR->Int->Int->Option (Int×azR)) (a3:a1) (oA:Int) (ae:b_) (az:Int) (wA:azR) (tg uZ:Int):Option (Int×azR):=
 cond (decide (uZ<az)) ((qd tg (dQ.mk oA (ae.Kind==1)) wA a3).bind λaY=>ajo aY.2 aY.1 (i64.wrap (uZ+1))) (some (tg,wA))
def z6 (qd:Int->dQ->azR->a1->Option (Int×azR)) (a3:a1) (oA:Int) (ae:b_) (az:Int):Nat->azR->Int->Int->Option (Int×azR)
 |0,_,_,_=>none
 |n+1,wA,tg,uZ=>Qa qd (z6 qd a3 oA ae az n) a3 oA ae az wA tg uZ
def Kk (qd:Int->dQ->azR->a1->Option (Int×azR)) (a0:Int) (J:dQ) (a2:azR) (a3:a1) (ae:b_) (oA:Int):Option (Int×azR):=
 (Gv ae).bind λaz=>b3 λn=>z6 qd a3 oA ae az n (List.set a2 (Int.toNat a0) J) (i64.wrap (a0+1)) 0
def Qb (qd:Int->dQ->azR->a1->Option (Int×azR)) (a0:Int) (J:dQ) (a2:azR) (a3:a1):Option (Int×azR):=
 (bj a2 a0).bind λR=>(bj a3.Body a0).bind λae=>cond (ae.Kind==4) (Kk qd a0 J a2 a3 ae (i64.wrap (J.scope+1))) (Kk qd a0 J a2 a3 ae J.scope)
def z7:Nat->Int->dQ->azR->a1->Option (Int×azR)
 |0,_,_,_,_=>none
 |n+1,a0,J,a2,a3=>Qb (z7 n) a0 J a2 a3
def Kl (a0:Int) (J:dQ) (a2:azR) (a3:a1):Option (Int×azR):=
 b3 λn=>z7 n a0 J a2 a3
def Km (a0:a1):Option azR:=
 (nP 16 (a0.Body.length:Int)).bind λ_=>(Kl 0 (dQ.mk a0.dV false) (replicate (Int.toNat (a0.Body.length:Int)) (dQ.mk 0 false)) a0).bind λR=>some R.2
def Qc (a0:b_):azu:=
 (jG a0.Kind 0 5).bind λR=>some (((R&&(((a0.Kind==4)||(a0.Kind==5))||(a0.Number==0)))&&((a0.Kind==1)||(a0.Name==([]:azq))))&&((((a0.Kind==1)||(a0.Kind==3))||(a0.Kind==5))||((a0.ck.length:Int)==0)))
def rJ (a0:azq):azu:=
 (Gs a0).bind λR=>some (R&&(!(a0==([116,97,117]:azq))))
def wB (a0 J:Int):azu:=
 (jG a0 0 (i64.wrap (J-1))).bind λR=>some R
def Qd (a0:b_) (J:azK):azu:=
 cond (a0.Kind==1) (some (((a0.ck.length:Int)==0)||((!(a0.Name==([116,97,117]:azq)))&&(decide ((a0.ck.length:Int)<=2))))) (cond (a0.Kind==3) (some ((a0.ck.length:Int)==1)) (cond (a0.Kind==5) ((bj J a0.Number).bind λR=>some ((a0.ck.length:Int)==R.dV)) (some true)))
def CP (a0:Int):azu:=
 (jG a0 0 63).bind λR=>some R
def Kn (a0:bY) (J:Int):azu:=
 cond (a0.Kind==0) ((CP a0.Value).bind λR=>some R) (cond (a0.Kind==1) ((jG a0.Value 0 (i64.wrap (J-1))).bind λae=>some ae) (cond (a0.Kind==2) ((jG a0.Value 0 8).bind λaz=>some az) (cond (a0.Kind==3) (some (a0.Value==0)) (some false))))
def Ko (a0:bY):azv:=
 cond (a0.Kind==2) (some 2) (cond (a0.Kind==3) (some 1) (some 0))
def Qe (jF:Int->Int->azu) (a0:azI) (J j9 u0:Int):azu:=
 cond (decide (u0<(a0.length:Int))) ((bj a0 u0).bind λaY=>cond (j9==0) (some false) ((Kn aY J).bind λaU=>cond (!aU) (some false) ((Ko aY).bind λbB=>jF (i64.wrap (j9+(i64.wrap (bB-1)))) (i64.wrap (u0+1))))) (some (j9==0))
def CQ (a0:azI) (J:Int):Nat->Int->Int->azu
 |0,_,_=>none
 |n+1,j9,u0=>Qe (CQ a0 J n) a0 J j9 u0
def Kp (a0:azI) (J a2:Int):azu:=
 (jG J 0 29).bind λR=>cond (!R) (some false) ((jG a2 1 60).bind λae=>cond (!ae) (some false) ((jG (a0.length:Int) 1 a2).bind λaz=>cond (!az) (some false) (b3 λn=>CQ a0 J n 1 0)))
def Qf (a0:azI) (J:dQ):azu:=
 (Kp a0 J.scope 15).bind λR=>some (!R)
def Qg (dx:Int->azv) (a0:azA) (J:dQ) (cK:Int):azv:=
 cond (decide (cK<(a0.length:Int))) ((bj a0 cK).bind λR=>(Qf R J).bind λae=>cond ae (some cK) (dx (i64.wrap (cK+1)))) (some (-1))
def Gx (a0:azA) (J:dQ):Nat->Int->azv
 |0,_=>none
 |n+1,cK=>Qg (Gx a0 J n) a0 J cK
def Qh (a0:azA) (J:dQ):azv:=
 b3 λn=>Gx a0 J n 0
def Kq (a0:azA) (J:dQ):azu:=
 (Qh a0 J).bind λR=>some (decide (0<=R))
def z8 (a0:b_) (J:azK) (a2:dQ) (Gy:Bool):azv:=
 cond Gy (some 4) ((Qd a0 J).bind λae=>cond (!ae) (some 5) (cond ((a0.Kind==5)&&(!a2.behind)) (some 6) (cond ((a0.Kind==4)&&(decide (6<=a2.scope))) (some 7) ((Kq a0.ck a2).bind λaz=>cond az (some 8) (some 0)))))
def Gz (a0:b_) (J:azK) (a2:dQ) (GA:Bool):azv:=
 cond GA (some 3) (cond (a0.Kind==4) ((jG a0.Number 1 7).bind λaY=>cond (!aY) (z8 a0 J a2 true) (cond (a0.Kind==5) ((wB a0.Number (J.length:Int)).bind λaU=>z8 a0 J a2 (!aU)) (z8 a0 J a2 false))) (cond (a0.Kind==5) ((wB a0.Number (J.length:Int)).bind λbB=>z8 a0 J a2 (!bB)) (z8 a0 J a2 false)))
def GB (a0:b_) (J:azK) (a2:dQ):azv:=
 (Qc a0).bind λR=>cond (!R) (some 2) (cond (a0.Kind==1) (cond (!(a0.Name==([116,97,117]:azq))) ((rJ a0.Name).bind λbu=>Gz a0 J a2 (!bu)) (Gz a0 J a2 false)) (Gz a0 J a2 false))
def Kr (jF:Int->Option (Int×Int)) (a0:azK) (J:a1) (az:azR) (qO:Int):Option (Int×Int):=
 cond (decide (qO<(J.Body.length:Int))) ((bj J.Body qO).bind λaY=>(bj az qO).bind λaU=>(GB aY a0 aU).bind λbB=>cond (bB !=0) (some (qO,bB)) (jF (i64.wrap (qO+1)))) (some (0,0))
def z_ (a0:azK) (J:a1) (az:azR):Nat->Int->Option (Int×Int)
 |0,_=>none
 |n+1,qO=>Kr (z_ a0 J az n) a0 J az qO
def GC (a0:azK) (J:a1):Option (Int×Int):=
 (jG (J.Body.length:Int) 1 20).bind λR=>cond (!R) (some (0,1)) ((Gw J 0).bind λae=>cond (ae !=(J.Body.length:Int)) (some (0,1)) ((Km J).bind λaz=>b3 λn=>z_ a0 J az n 0))
def Qi (fH:Int->azu) (a0:azK) (rK:Int):azu:=
 cond (decide (rK<(a0.length:Int))) ((bj a0 rK).bind λaz=>(Gs az.Name).bind λaY=>cond (!aY) (some false) ((gG a0 0 rK).bind λaU=>(Kj aU az.Name).bind λbB=>cond (decide (0<=bB)) (some false) ((GC a0 az).bind λbu=>cond (bu.2 !=0) (some false) (fH (i64.wrap (rK+1)))))) (some true)
def CR (a0:azK):Nat->Int->azu
 |0,_=>none
 |n+1,rK=>Qi (CR a0 n) a0 rK
def Ks (a0:azK):azu:=
 (jG (a0.length:Int) 1 4).bind λR=>cond (!R) (some false) ((Kh a0).bind λae=>cond (!ae) (some false) (b3 λn=>CR a0 n 0))
def Kt (a0:Int):azu:=
 (CP a0).bind λR=>some (!R)
def GD (dx:Int->azv) (a0:azs) (cK:Int):azv:=
 cond (decide (cK<(a0.length:Int))) ((bj a0 cK).bind λR=>(Kt R).bind λae=>cond ae (some cK) (dx (i64.wrap (cK+1)))) (some (-1))
def yo (a0:azs):Nat->Int->azv
 |0,_=>none
 |n+1,cK=>GD (yo a0 n) a0 cK
def Ku (a0:azs):azv:=
 b3 λn=>yo a0 n 0
def Kv (a0:azs):azu:=
 (Ku a0).bind λR=>some (decide (0<=R))
def Aa (a0:azs):azu:=
 (Kv a0).bind λR=>some (!R)
def Kw (a0:azK) (J:cQ):azu:=
 (wB J.cJ (a0.length:Int)).bind λR=>cond R ((bj a0 J.cJ).bind λae=>cond ((J.b5.length:Int)==ae.dV) ((Aa J.b5).bind λaz=>some az) (some false)) (some false)
def Qj (a0:cQ) (J:cY):azu:=
 (Kw J.cI a0).bind λR=>some (!R)
def Qk (dx:Int->azv) (a0:azL) (J:cY) (cK:Int):azv:=
 cond (decide (cK<(a0.length:Int))) ((bj a0 cK).bind λR=>(Qj R J).bind λae=>cond ae (some cK) (dx (i64.wrap (cK+1)))) (some (-1))
def GF (a0:azL) (J:cY):Nat->Int->azv
 |0,_=>none
 |n+1,cK=>Qk (GF a0 J n) a0 J cK
def Ql (a0:azL) (J:cY):azv:=
 b3 λn=>GF a0 J n 0
def Kx (a0:azL) (J:cY):azu:=
 (Ql a0 J).bind λR=>some (decide (0<=R))
def Ky (a0:azq):azu:=
 some false
def Kz (a0 J:azq):azv:=
 (Ky a0).bind λR=>(Ky J).bind λae=>cond R (cond ae (some 0) (some (-1))) (cond ae (some 1) (cond (Op.bytesLess a0 J) (some (-1)) (cond (!(Op.bytesLess a0 J||a0==J)) (some 1) (some 0))))
def Yd (dx:Int->azv) (a0 J:azp) (rL:Int):azv:=
 cond (decide (rL<(a0.length:Int))) ((bj a0 rL).bind λR=>cond (decide ((J.length:Int)<=rL)) (some 1) ((bj J rL).bind λae=>(Kz R ae).bind λaz=>cond (az !=0) (some az) (dx (i64.wrap (rL+1))))) (cond (decide ((a0.length:Int)<(J.length:Int))) (some (-1)) (some 0))
def KA (a0 J:azp):Nat->Int->azv
 |0,_=>none
 |n+1,rL=>Yd (KA a0 J n) a0 J rL
def KB (a0 J:azp):azv:=
 b3 λn=>KA a0 J n 0
def KC (a0 J:bX):azv:=
 (KB [a0.Left,a0.cH] [J.Left,J.cH]).bind λR=>some R
def Qm (a0 J:bX):azu:=
 some ((a0.Left==J.Result)||(a0.cH==J.Result))
def Qn (dx:Int->azv) (a0:azM) (J:bX) (cK:Int):azv:=
 cond (decide (cK<(a0.length:Int))) ((bj a0 cK).bind λR=>(Qm R J).bind λae=>cond ae (some cK) (dx (i64.wrap (cK+1)))) (some (-1))
def GG (a0:azM) (J:bX):Nat->Int->azv
 |0,_=>none
 |n+1,cK=>Qn (GG a0 J n) a0 J cK
def Qo (a0:azM) (J:bX):azv:=
 b3 λn=>GG a0 J n 0
def GH (a0:azM) (J:bX):azu:=
 (Qo a0 J).bind λR=>some (decide (0<=R))
def Qp (dx:Int->azu) (a0:azM) (fU:Int):azu:=
 cond (decide (fU<(a0.length:Int))) ((bj a0 fU).bind λR=>(rJ R.Left).bind λaU=>cond (!aU) (some false) ((rJ R.cH).bind λbB=>cond (!bB) (some false) ((rJ R.Result).bind λbu=>cond (!bu) (some false) (cond (!(Op.bytesLess R.Left R.cH||R.Left==R.cH)) (some false) (cond (decide (0<fU)) ((bj a0 (i64.wrap (fU-1))).bind λcy=>(KC cy R).bind λdE=>cond (decide (0<=dE)) (some false) ((GH a0 R).bind λdN=>cond dN (some false) (dx (i64.wrap (fU+1))))) ((GH a0 R).bind λfa=>cond fa (some false) (dx (i64.wrap (fU+1))))))))) (some (decide ((a0.length:Int)<=6)))
def CS (a0:azM):Nat->Int->azu
 |0,_=>none
 |n+1,fU=>Qp (CS a0 n) a0 fU
def KD (a0:azM):azu:=
 b3 λn=>CS a0 n 0
def Qq (dx:Int->azu) (a0:azp) (fU:Int):azu:=
 cond (decide (fU<(a0.length:Int))) ((bj a0 fU).bind λR=>(rJ R).bind λae=>cond (!ae) (some false) (cond (decide (0<fU)) ((bj a0 (i64.wrap (fU-1))).bind λaz=>cond (Op.bytesLess R az||R==az) (some false) (dx (i64.wrap (fU+1)))) (dx (i64.wrap (fU+1))))) (some (decide ((a0.length:Int)<=12)))
def CT (a0:azp):Nat->Int->azu
 |0,_=>none
 |n+1,fU=>Qq (CT a0 n) a0 fU
def GI (a0:azp):azu:=
 b3 λn=>CT a0 n 0
def KE (a0:cY):azv:=
 (Ks a0.cI).bind λR=>cond (!R) (some 1) ((jG (a0.b0.length:Int) 1 3).bind λae=>cond (!ae) (some 2) ((Kx a0.b0 a0).bind λaz=>cond az (some 2) ((KD a0.cb).bind λaY=>cond (!aY) (some 3) ((GI a0.cD).bind λaU=>cond (!aU) (some 4) ((GI a0.cA).bind λbB=>cond (!bB) (some 5) (some 0))))))
def KF (a0:cY):azu:=
 (KE a0).bind λR=>some (R==0)
def th:azq->UInt8->Int
 |[],_=> -1
 |b::l,c=>if b==c then 0 else if th l c== -1 then-1 else th l c+1
def Qr (a0:azq) (J:UInt8):azv:=some (th a0 J)
def Qs (a0:azq) (J:UInt8):azv:=
 (Qr a0 J).bind λR=>some R
def wC (a0 J:azq):azv:=
 cond (((J.length:Int)==0)||(J==a0)) (some 0) (cond ((J.length:Int)==1) ((bj J 0).bind λR=>(Qs a0 R).bind λae=>some ae) (cond (decide ((a0.length:Int)<=(J.length:Int))) (some (-1)) (none)))
def KG (a0 J:azq):Option (azq×azq×Bool):=
 (wC a0 J).bind λR=>cond (decide (0<=R)) ((gG a0 0 R).bind λae=>(gG a0 (i64.wrap (R+(J.length:Int))) (a0.length:Int)).bind λaz=>some (ae,az,true)) (some (a0,([]:azq),false))
def CU (a0 J:azq):Option (azq×azq×Bool):=
 (KG a0 J).bind λR=>some (R.1,R.2.1,R.2.2)
def KH (a0 J:azq):azu:=
 cond (decide ((J.length:Int)<=(a0.length:Int))) ((gG a0 (i64.wrap ((a0.length:Int)-(J.length:Int))) (a0.length:Int)).bind λR=>some (R==J)) (some false)
def KI (a0 J:azq):Option azq:=
 (KH a0 J).bind λR=>cond R ((gG a0 0 (i64.wrap ((a0.length:Int)-(J.length:Int)))).bind λae=>some ae) (some a0)
def strings_TrimSuffix (a0 J:azq):Option azq:=
 (KI a0 J).bind λR=>some R
def Qt (a0:azq) (J:UInt8):azv:=some (a0.count J:Nat)
def GJ (a0 J:azq):azv:=
 (wC a0 J).bind λR=>some R
def ajp (ajq:azq->Int->azv) (J u1:azq) (u2:Int):azv:=
 (GJ u1 J).bind λaz=>cond (az==(-1)) (some u2) ((gG u1 (i64.wrap (az+(J.length:Int))) (u1.length:Int)).bind λaY=>ajq aY (i64.wrap (u2+1)))
def Qu (J:azq):Nat->azq->Int->azv
 |0,_,_=>none
 |n+1,u1,u2=>ajp (Qu J n) J u1 u2
def Qv (a0 J:azq):azv:=
 cond ((J.length:Int)==0) (none) (cond ((J.length:Int)==1) ((bj J 0).bind λR=>(Qt a0 R).bind λae=>some ae) (b3 λn=>Qu J n a0 0))
def GK (a0 J:azq) (a2 ka:Int) (CV:azq) (Ab:azp) (wD:Int):Option azp:=
 (bj Ab wD).bind λR=>(gG (List.set Ab (Int.toNat wD) CV) 0 (i64.wrap (wD+1))).bind λae=>some ae
def Qw (Ps:azq->azp->Int->Option azp) (a0 J:azq) (a2 ka:Int) (o2:azq) (n1:azp) (lL:Int):Option azp:=
 cond (decide (lL<(i64.wrap ((k4 false ka (i64.wrap ((a0.length:Int)+1)))-1)))) ((GJ o2 J).bind λaz=>cond (decide (az<0)) (GK a0 J a2 ka o2 n1 lL) ((gG o2 0 (i64.wrap (az+a2))).bind λaY=>(bj n1 lL).bind λaU=>(gG o2 (i64.wrap (az+(J.length:Int))) (o2.length:Int)).bind λbB=>Ps bB (List.set n1 (Int.toNat lL) aY) (i64.wrap (lL+1)))) (GK a0 J a2 ka o2 n1 lL)
def Ac (a0 J:azq) (a2 ka:Int):Nat->azq->azp->Int->Option azp
 |0,_,_,_=>none
 |n+1,o2,n1,lL=>Qw (Ac a0 J a2 ka n) a0 J a2 ka o2 n1 lL
def KJ (a0 J:azq) (a2 ka:Int):Option azp:=
 (nP 16 (k4 false ka (i64.wrap ((a0.length:Int)+1)))).bind λ_=>b3 λn=>Ac a0 J a2 ka n a0 (replicate (Int.toNat (k4 false ka (i64.wrap ((a0.length:Int)+1)))) ([]:azq)) 0
def Qx (a0 J:azq) (a2 a3:Int):Option azp:=
 cond (a3==0) (some []) (cond (J==([]:azq)) (none) (cond (decide (a3<0)) ((Qv a0 J).bind λbu=>KJ a0 J a2 (i64.wrap (bu+1))) (KJ a0 J a2 a3)))
def KK (a0 J:azq):Option azp:=
 (Qx a0 J 0 (-1)).bind λR=>some R
def gA (c:UInt8):Bool:=decide (48<=c.toNat)&&decide (c.toNat<=57)
def kJ (d:azq):Nat:=d.foldl (λn c=>10*n+(c.toNat-48)) 0
def o3 (k:Nat) (d:azq):Int×Bool:=if d≠[]/\d.length<=18/\d.all gA=true/\¬(d.head? =some 48/\1<d.length+k)then(if k=1 then-(kJ d:Int)else kJ d,true)else(0,false)
def jv (s:azq):Int×Bool:=if s.head? =some 45 then o3 1 s.tail else o3 0 s
def KL (a0:azq):Option (Int×Bool):=some (jv a0)
def Qy (fp:azs->Int->Option (azs×Bool)) (a0:azp) (bL:azs) (rM:Int):Option (azs×Bool):=
 cond (decide (rM<(a0.length:Int))) ((bj a0 rM).bind λR=>(KL R).bind λae=>cond (!ae.2) (some ([],false)) ((room 8 (bL.length+1)).bind λ_=>fp (bL++[ae.1]) (i64.wrap (rM+1)))) (some (bL,true))
def CW (a0:azp):Nat->azs->Int->Option (azs×Bool)
 |0,_,_=>none
 |n+1,bL,rM=>Qy (CW a0 n) a0 bL rM
def KM (a0:azp):Option (azs×Bool):=
 b3 λn=>CW a0 n [] 0
def yp (n:Nat):azq:=if h:n<10 then [UInt8.ofNat (48+n)]else yp (n/10)++[UInt8.ofNat (48+n%10)]
 termination_by n
 decreasing_by omega
def GL (n:Int):azq:=if n<0 then 45::yp n.natAbs else yp n.toNat
def CX (a0 J:Int):Option azq:=if-9223372036854775808<=a0/\a0<=9223372036854775807/\J=10 then some (GL a0)else none
def rN (a0:Int):Option azq:=
 (CX a0 10).bind λR=>some R
def strings_Join (a0:azp) (J:azq):Option azq:=if a0.length<=140737488355328/\(h1 a0 J).length<=140737488355328 then some (h1 a0 J)else none
def Qz (fp:azp->Int->Option azq) (a0:azs) (J:azq) (fK:azp) (oB:Int):Option azq:=
 cond (decide (oB<(a0.length:Int))) ((bj a0 oB).bind λR=>(rN R).bind λae=>(bj fK oB).bind λaz=>fp (List.set fK (Int.toNat oB) ae) (i64.wrap (oB+1))) ((strings_Join fK J).bind λaY=>some aY)
def CY (a0:azs) (J:azq):Nat->azp->Int->Option azq
 |0,_,_=>none
 |n+1,fK,oB=>Qz (CY a0 J n) a0 J fK oB
def Ad (a0:azs) (J:azq):Option azq:=
 (nP 16 (a0.length:Int)).bind λ_=>b3 λn=>CY a0 J n (replicate (Int.toNat (a0.length:Int)) ([]:azq)) 0
def wE (a0:azq) (J:azs):Option (azq×Bool):=
 cond (a0==([116,97,117]:azq)) (some (([116,97,117]:azq),((J.length:Int)==0))) ((rJ a0).bind λae=>cond (!ae) (some (([]:azq),false)) (cond (decide (2<(J.length:Int))) (some (([]:azq),false)) ((Aa J).bind λaz=>cond (!az) (some (([]:azq),false)) (cond ((J.length:Int)==0) (some (a0,true)) ((il (a0.length+1)).bind λ_=>(Ad J ([44]:azq)).bind λaY=>(il ((a0++([40]:azq)).length+aY.length)).bind λ_=>(il (((a0++([40]:azq))++aY).length+1)).bind λ_=>some ((((a0++([40]:azq))++aY)++([41]:azq)),true))))))
def Ae (a0:azq) (R:azq×azq×Bool) (u3:azs):Option (azq×azs×Bool):=
 (wE R.1 u3).bind λae=>cond ((!ae.2)||(!(ae.1==a0))) (some (([]:azq),[],false)) (some (R.1,u3,true))
def u4 (a0:azq):Option (azq×azs×Bool):=
 (CU a0 ([40]:azq)).bind λR=>cond R.2.2 ((strings_TrimSuffix R.2.1 ([41]:azq)).bind λaz=>(KK az ([44]:azq)).bind λaY=>(KM aY).bind λaU=>cond (!aU.2) (some (([]:azq),[],false)) (Ae a0 R aU.1)) (Ae a0 R [])
def Af (a0:azq):azu:=
 (u4 a0).bind λR=>some R.2.2
def KN (a0:dC):azu:=
 (jG a0.Choice 0 199).bind λR=>cond R ((jG a0.ef 0 2).bind λae=>cond ae ((jG a0.Second (-1) 2).bind λaz=>cond az ((Af a0.Label).bind λaY=>some aY) (some false)) (some false)) (some false)
def QA (a0:dC):azu:=
 (KN a0).bind λR=>some (!R)
def QB (dx:Int->azv) (a0:azN) (cK:Int):azv:=
 cond (decide (cK<(a0.length:Int))) ((bj a0 cK).bind λR=>(QA R).bind λae=>cond ae (some cK) (dx (i64.wrap (cK+1)))) (some (-1))
def CZ (a0:azN):Nat->Int->azv
 |0,_=>none
 |n+1,cK=>QB (CZ a0 n) a0 cK
def QC (a0:azN):azv:=
 b3 λn=>CZ a0 n 0
def QD (a0:azN):azu:=
 (QC a0).bind λR=>some (decide (0<=R))
def KO (a0:azN):azu:=
 cond (decide ((a0.length:Int)<=60)) ((QD a0).bind λR=>some (!R)) (some false)
def wF (a0:azs):Option azs:=
 cond a0.isEmpty (both (some []) ((room 8 (a0.length)).bind λ_=>some a0)) ((room 8 (a0.length)).bind λ_=>some a0)
def QE (fp:azO->Int->Option azO) (a0:cY) (bP:azO) (rO:Int):Option azO:=
 cond (decide (rO<(a0.b0.length:Int))) ((bj a0.b0 rO).bind λR=>(wF R.b5).bind λae=>(room 40 (bP.length+1)).bind λ_=>fp (bP++[(ba.mk R.cJ 0 ae)]) (i64.wrap (rO+1))) (some bP)
def C0 (a0:cY):Nat->azO->Int->Option azO
 |0,_,_=>none
 |n+1,bP,rO=>QE (C0 a0 n) a0 bP rO
def KP (a0:cY):Option azO:=
 b3 λn=>C0 a0 n [] 0
def QF (u5:azI->Option (bY×(List dD)×azI)) (kA:(List dD)->azI->Int->Option (bY×(List dD)×azI)) (R:bY) (az:Int) (iC:List dD) (kn:azI) (ti:Int):Option (bY×(List dD)×azI):=
 cond (decide (ti<az)) ((u5 kn).bind λaY=>(room 8 (iC.length+1)).bind λ_=>kA (iC++[(dD.mk aY.1 aY.2.1)]) aY.2.2 (i64.wrap (ti+1))) (some (R,iC,kn))
def Ag (u5:azI->Option (bY×(List dD)×azI)) (R:bY) (az:Int):Nat->(List dD)->azI->Int->Option (bY×(List dD)×azI)
 |0,_,_,_=>none
 |n+1,iC,kn,ti=>QF u5 (Ag u5 R az n) R az iC kn ti
def QG (u5:azI->Option (bY×(List dD)×azI)) (a0:azI):Option (bY×(List dD)×azI):=
 (bj a0 0).bind λR=>(gG a0 1 (a0.length:Int)).bind λae=>(Ko R).bind λaz=>b3 λn=>Ag u5 R az n [] ae 0
def C1:Nat->azI->Option (bY×(List dD)×azI)
 |0,_=>none
 |n+1,a0=>QG (C1 n) a0
def QH (a0:azI):Option (bY×(List dD)×azI):=
 b3 λn=>C1 n a0
def KQ (a0:azI):Option (bY×(List dD)):=
 (QH a0).bind λR=>some (R.1,R.2.1)
def rP (a0:Bool):azv:=
 cond a0 (some 1) (some 0)
def KR (a0 J a2:Int):azv:=
 cond (a0==0) (some (Int.tmod (i64.wrap (J+a2)) 64)) (cond (a0==1) (some (Int.tmod (i64.wrap ((i64.wrap (J-a2))+64)) 64)) (cond (a0==2) (some (Int.tmod (i64.wrap (J*a2)) 64)) (cond (a0==3) ((rP (J==a2)).bind λR=>some R) (cond (a0==4) ((rP (J !=a2)).bind λae=>some ae) (cond (a0==5) ((rP (decide (J<a2))).bind λaz=>some az) (cond (a0==6) ((rP (decide (J<=a2))).bind λaY=>some aY) (cond (a0==7) (cond (J !=0) ((rP (a2 !=0)).bind λaU=>some aU) ((rP false).bind λbB=>some bB)) (cond (J !=0) ((rP true).bind λbu=>some bu) ((rP (a2 !=0)).bind λcy=>some cy)))))))))
def QI (C2:dD->azs->azv) (a0:dD) (J:azs):azv:=
 cond (a0.term.Kind==0) (some a0.term.Value) (cond (a0.term.Kind==1) ((bj J a0.term.Value).bind λR=>some R) (cond (a0.term.Kind==3) ((bj a0.args 0).bind λae=>(C2 ae J).bind λaz=>(rP (az==0)).bind λaY=>some aY) ((bj a0.args 0).bind λaU=>(C2 aU J).bind λbB=>(bj a0.args 1).bind λbu=>(C2 bu J).bind λcy=>(KR a0.term.Value bB cy).bind λdE=>some dE)))
def Ah:Nat->dD->azs->azv
 |0,_,_=>none
 |n+1,a0,J=>QI (Ah n) a0 J
def QJ (a0:dD) (J:azs):azv:=
 b3 λn=>Ah n a0 J
def C3 (a0:azI) (J:azs):azv:=
 (KQ a0).bind λR=>(QJ (dD.mk R.1 R.2) J).bind λae=>some ae
def QK (fp:azs->Int->Option azs) (a0:azA) (J fK:azs) (rQ:Int):Option azs:=
 cond (decide (rQ<(a0.length:Int))) ((bj a0 rQ).bind λR=>(C3 R J).bind λae=>(room 8 (fK.length+1)).bind λ_=>fp (fK++[ae]) (i64.wrap (rQ+1))) (some fK)
def C4 (a0:azA) (J:azs):Nat->azs->Int->Option azs
 |0,_,_=>none
 |n+1,fK,rQ=>QK (C4 a0 J n) a0 J fK rQ
def GM (a0:azA) (J:azs):Option azs:=
 b3 λn=>C4 a0 J n [] 0
def QL (a0:Int):azu:=
 (jG a0 (-1000000000000) 1000000000000).bind λR=>some (!R)
def QM (dx:Int->azv) (a0:azs) (cK:Int):azv:=
 cond (decide (cK<(a0.length:Int))) ((bj a0 cK).bind λR=>(QL R).bind λae=>cond ae (some cK) (dx (i64.wrap (cK+1)))) (some (-1))
def C5 (a0:azs):Nat->Int->azv
 |0,_=>none
 |n+1,cK=>QM (C5 a0 n) a0 cK
def QN (a0:azs):azv:=
 b3 λn=>C5 a0 n 0
def QO (a0:azs):azu:=
 (QN a0).bind λR=>some (decide (0<=R))
def KS (a0:azs):azu:=
 cond (decide ((a0.length:Int)<=64)) ((QO a0).bind λR=>some (!R)) (some false)
def GN (a0:azs):Option azq:=
 (KS a0).bind λR=>cond (!R) (some ([]:azq)) (cond ((a0.length:Int)==0) (some ([45]:azq)) ((Ad a0 ([44]:azq)).bind λae=>some ae))
def KT (a0:ba):Option azq:=
 (rN a0.Part).bind λR=>(il (R.length+1)).bind λ_=>(GN a0.b5).bind λae=>(il ((R++([58]:azq)).length+ae.length)).bind λ_=>some ((R++([58]:azq))++ae)
def Ai (a0:ba):Option azq:=
 (rN a0.cJ).bind λR=>(il (R.length+1)).bind λ_=>(KT a0).bind λae=>(il ((R++([58]:azq)).length+ae.length)).bind λ_=>some ((R++([58]:azq))++ae)
def KU (bn:azK) (bp:azQ) (bo:azo) (iW:azq) (kK qe:Int) (u6:azs):Option (azK×azQ×azo):=
 (il (iW.length+1)).bind λ_=>(Ai (ba.mk kK qe u6)).bind λR=>(il ((iW++([32]:azq)).length+R.length)).bind λ_=>cond (!(kh ((iW++([32]:azq))++R) bo)) ((room 56 (bp.length+1)).bind λ_=>some (bn,(bp++[(bl.mk iW (ba.mk kK qe u6))]),(ku ((iW++([32]:azq))++R) true bo))) (some (bn,bp,bo))
def KV (oC:azK->azQ->azo->Int->Int->azs->Option (azK×azQ×azo)) (bn:azK) (bp:azQ) (bo:azo) (aY:azq×Bool) (C6 C7:Int) (C8:azs):Option (azK×azQ×azo):=
 (KU bn bp bo aY.1 C6 C7 C8).bind λbB=>some (bB.1,bB.2.1,bB.2.2)
def QP (oC:azK->azQ->azo->Int->Int->azs->Option (azK×azQ×azo)) (ajr:azK->azQ->azo->Int->Option (azK×azQ×azo)) (J a2:Int) (a3:azs) (ae:b_) (wG:azK) (wH:azQ) (wI:azo) (lk:Int):Option (azK×azQ×azo):=
 cond (decide (lk<(i64.wrap (ae.Number+1)))) ((wF a3).bind λhB=>(room 8 (hB.length+1)).bind λ_=>(oC wG wH wI J (i64.wrap (a2+1)) (hB++[lk])).bind λju=>ajr ju.1 ju.2.1 ju.2.2 (i64.wrap (lk+1))) (some (wG,wH,wI))
def C9 (oC:azK->azQ->azo->Int->Int->azs->Option (azK×azQ×azo)) (J a2:Int) (a3:azs) (ae:b_):Nat->azK->azQ->azo->Int->Option (azK×azQ×azo)
 |0,_,_,_,_=>none
 |n+1,wG,wH,wI,lk=>QP oC (C9 oC J a2 a3 ae n) J a2 a3 ae wG wH wI lk
def yq (oC:azK->azQ->azo->Int->Int->azs->Option (azK×azQ×azo)) (bn:azK) (bp:azQ) (bo:azo) (J a2:Int) (a3:azs):Option (azK×azQ×azo):=
 (bj bn J).bind λR=>(bj R.Body a2).bind λae=>cond (ae.Kind==1) ((GM ae.ck a3).bind λaz=>(wE ae.Name az).bind λaY=>(wF a3).bind λaU=>(bj R.Body (i64.wrap (a2+1))).bind λbu=>cond (bu.Kind==5) ((GM bu.ck a3).bind λcy=>KV oC bn bp bo aY bu.Number 0 cy) (KV oC bn bp bo aY J (i64.wrap (a2+1)) aU)) (cond (ae.Kind==2) ((oC bn bp bo J (i64.wrap (a2+1)) a3).bind λdE=>(Gw R (i64.wrap (a2+1))).bind λdN=>(oC dE.1 dE.2.1 dE.2.2 J dN a3).bind λfa=>some (fa.1,fa.2.1,fa.2.2)) (cond (ae.Kind==3) ((bj ae.ck 0).bind λkH=>(C3 kH a3).bind λmK=>cond (mK !=0) ((oC bn bp bo J (i64.wrap (a2+1)) a3).bind λje=>some (je.1,je.2.1,je.2.2)) (some (bn,bp,bo))) (cond (ae.Kind==4) (b3 λn=>C9 oC J a2 a3 ae n bn bp bo 0) (some (bn,bp,bo)))))
def rR:Nat->azK->azQ->azo->Int->Int->azs->Option (azK×azQ×azo)
 |0,_,_,_,_,_,_=>none
 |n+1,bn,bp,bo,J,a2,a3=>yq (rR n) bn bp bo J a2 a3
def KW (bn:azK) (bp:azQ) (bo:azo) (J a2:Int) (a3:azs):Option (azK×azQ×azo):=
 b3 λn=>rR n bn bp bo J a2 a3
def u7 (a0:azK) (J:ba):Option (azQ×Bool):=
 (KW a0 [] [] J.cJ J.Part J.b5).bind λR=>some (R.2.1,(decide ((R.2.1.length:Int)<=200)))
def QQ (dx:Int->azv) (a0:azp) (J:azq) (cK:Int):azv:=
 cond (decide (cK<(a0.length:Int))) ((bj a0 cK).bind λR=>cond (J==R) (some cK) (dx (i64.wrap (cK+1)))) (some (-1))
def Aj (a0:azp) (J:azq):Nat->Int->azv
 |0,_=>none
 |n+1,cK=>QQ (Aj a0 J n) a0 J cK
def QR (a0:azp) (J:azq):azv:=
 b3 λn=>Aj a0 J n 0
def C_ (a0:azp) (J:azq):azu:=
 (QR a0 J).bind λR=>some (decide (0<=R))
def Ak (a0:ba):Option ba:=
 (wF a0.b5).bind λR=>some (ba.mk a0.cJ a0.Part R)
def QS (fp:azO->Int->Option azO) (a0 bP:azO) (ll:Int):Option azO:=
 cond (decide (ll<(a0.length:Int))) ((bj a0 ll).bind λR=>(Ak R).bind λae=>(room 40 (bP.length+1)).bind λ_=>fp (bP++[ae]) (i64.wrap (ll+1))) (some bP)
def Da (a0:azO):Nat->azO->Int->Option azO
 |0,_,_=>none
 |n+1,bP,ll=>QS (Da a0 n) a0 bP ll
def KX (a0:azO):Option azO:=
 b3 λn=>Da a0 n [] 0
def QT (fp:azp->Int->Option azq) (a0:azO) (bP:azp) (ll:Int):Option azq:=
 cond (decide (ll<(a0.length:Int))) ((bj a0 ll).bind λR=>(Ai R).bind λae=>(room 16 (bP.length+1)).bind λ_=>fp (bP++[ae]) (i64.wrap (ll+1))) ((strings_Join bP ([32]:azq)).bind λaz=>some az)
def Db (a0:azO):Nat->azp->Int->Option azq
 |0,_,_=>none
 |n+1,bP,ll=>QT (Db a0 n) a0 bP ll
def KY (a0:azO):Option azq:=
 b3 λn=>Db a0 n [] 0
def Dc (a3 a4:Int) (bn:azK) (bp:azL) (bo:azM) (bH bG:azp) (gB:azO) (gR:azP) (gC:azo) (iL:azq) (nj:azO):Option (azK×azL×azM×azp×azp×azO×azP×azo):=
 (il (iL.length+1)).bind λ_=>(rN a3).bind λlI=>(il ((iL++([32]:azq)).length+lI.length)).bind λ_=>(il (((iL++([32]:azq))++lI).length+1)).bind λ_=>(rN a4).bind λlJ=>(il ((((iL++([32]:azq))++lI)++([32]:azq)).length+lJ.length)).bind λ_=>(il (((((iL++([32]:azq))++lI)++([32]:azq))++lJ).length+1)).bind λ_=>(KY nj).bind λlj=>(il ((((((iL++([32]:azq))++lI)++([32]:azq))++lJ)++([32]:azq)).length+lj.length)).bind λ_=>cond (!(kh ((((((iL++([32]:azq))++lI)++([32]:azq))++lJ)++([32]:azq))++lj) gC)) ((room 56 (gR.length+1)).bind λ_=>some (bn,bp,bo,bH,bG,gB,(gR++[(br.mk iL a3 a4 nj)]),(ku ((((((iL++([32]:azq))++lI)++([32]:azq))++lJ)++([32]:azq))++lj) true gC))) (some (bn,bp,bo,bH,bG,gB,gR,gC))
def qP (a3 a4:Int) (a5:azO) (bn:azK) (bp:azL) (bo:azM) (bH bG:azp) (gB:azO) (gR:azP) (gC:azo) (tj:azq) (tk:azs):Option (azK×azL×azM×azp×azp×azO×azP×azo):=
 (wE tj tk).bind λje=>(KX gB).bind λhB=>(bj a5 0).bind λju=>(Ak ju).bind λiK=>(bj hB a3).bind λqb=>cond (decide (0<=a4)) ((bj a5 1).bind λmN=>(Ak mN).bind λlK=>(bj (List.set hB (Int.toNat a3) iK) a4).bind λPX=>Dc a3 a4 bn bp bo bH bG gB gR gC je.1 (List.set (List.set hB (Int.toNat a3) iK) (Int.toNat a4) lK)) (Dc a3 a4 bn bp bo bH bG gB gR gC je.1 (List.set hB (Int.toNat a3) iK))
def Dd (bn:azK) (bp:azL) (bo:azM) (bH bG:azp) (gB:azO) (gR:azP) (gC:azo) (J:azq) (a2:azs) (a3 a4:Int) (a5:azO):Option (azK×azL×azM×azp×azp×azO×azP×azo):=
 cond (!(J==([116,97,117]:azq))) ((C_ bH J).bind λR=>cond (!R) (some (bn,bp,bo,bH,bG,gB,gR,gC)) ((C_ bG J).bind λmK=>cond mK (qP a3 a4 a5 bn bp bo bH bG gB gR gC ([116,97,117]:azq) []) (qP a3 a4 a5 bn bp bo bH bG gB gR gC J a2))) ((C_ bG J).bind λwt=>cond wt (qP a3 a4 a5 bn bp bo bH bG gB gR gC ([116,97,117]:azq) []) (qP a3 a4 a5 bn bp bo bH bG gB gR gC J a2))
def Ye (a0:bX) (J a2:azq):azu:=
 some ((a0.Left==(h8 false J a2))&&(a0.cH==(h8 true J a2)))
def QU (dx:Int->azv) (a0:azM) (iW kK:azq) (cK:Int):azv:=
 cond (decide (cK<(a0.length:Int))) ((bj a0 cK).bind λR=>(Ye R iW kK).bind λae=>cond ae (some cK) (dx (i64.wrap (cK+1)))) (some (-1))
def De (a0:azM) (iW kK:azq):Nat->Int->azv
 |0,_=>none
 |n+1,cK=>QU (De a0 iW kK n) a0 iW kK cK
def QV (a0:azM) (iW kK:azq):azv:=
 b3 λn=>De a0 iW kK n 0
def Al (a0:cY) (J a2:azq):Option (azq×Bool):=
 (QV a0.cb J a2).bind λR=>cond (decide (R<0)) (some (([]:azq),false)) ((bj a0.cb R).bind λae=>some (ae.Result,true))
def QW (fH:Int->azu) (a0 J:azs) (tl:Int):azu:=
 cond (decide (tl<(a0.length:Int))) ((bj a0 tl).bind λR=>(bj J tl).bind λae=>cond (R !=ae) (some false) (fH (i64.wrap (tl+1)))) (some true)
def Df (a0 J:azs):Nat->Int->azu
 |0,_=>none
 |n+1,tl=>QW (Df a0 J n) a0 J tl
def GO (a0 J:azs):azu:=
 cond ((a0.length:Int) !=(J.length:Int)) (some false) (b3 λn=>Df a0 J n 0)
def GP (dY:azK->azL->azM->azp->azp->azO->azP->azo->Int->Option (azK×azL×azM×azp×azp×azO×azP×azo)) (GQ:azK->azL->azM->azp->azp->azO->azP->azo->Int->Int->Option (azK×azL×azM×azp×azp×azO×azP×azo)) (J a2:Int) (a3 a4:azQ) (R:bl) (ae:azq×azs×Bool) (Dg:azK) (Dh:azL) (Di:azM) (Dj Dk:azp) (Dl:azO) (Dm:azP) (Dn:azo) (Dp Dq:Int):Option (azK×azL×azM×azp×azp×azO×azP×azo):=
 GQ Dg Dh Di Dj Dk Dl Dm Dn Dp (i64.wrap (Dq+1))
def QX (dY:azK->azL->azM->azp->azp->azO->azP->azo->Int->Option (azK×azL×azM×azp×azp×azO×azP×azo)) (GQ:azK->azL->azM->azp->azp->azO->azP->azo->Int->Int->Option (azK×azL×azM×azp×azp×azO×azP×azo)) (J a2:Int) (a3 a4:azQ) (R:bl) (ae:azq×azs×Bool) (oD:azK) (oE:azL) (oF:azM) (oG oH:azp) (pF:azO) (pG:azP) (pH:azo) (o4 o5:Int):Option (azK×azL×azM×azp×azp×azO×azP×azo):=
 cond (decide (o5<(a4.length:Int))) ((bj a4 o5).bind λaz=>(u4 az.Label).bind λaY=>(Al (cY.mk oD oE oF oG oH) ae.1 aY.1).bind λaU=>cond aU.2 ((GO ae.2.1 aY.2.1).bind λbB=>cond bB ((Dd oD oE oF oG oH pF pG pH aU.1 ae.2.1 J a2 [R.Next,az.Next]).bind λbu=>GP dY GQ J a2 a3 a4 R ae bu.1 bu.2.1 bu.2.2.1 bu.2.2.2.1 bu.2.2.2.2.1 bu.2.2.2.2.2.1 bu.2.2.2.2.2.2.1 bu.2.2.2.2.2.2.2 o4 o5) (GP dY GQ J a2 a3 a4 R ae oD oE oF oG oH pF pG pH o4 o5)) (GP dY GQ J a2 a3 a4 R ae oD oE oF oG oH pF pG pH o4 o5)) (dY oD oE oF oG oH pF pG pH (i64.wrap (o4+1)))
def wJ (dY:azK->azL->azM->azp->azp->azO->azP->azo->Int->Option (azK×azL×azM×azp×azp×azO×azP×azo)) (J a2:Int) (a3 a4:azQ) (R:bl) (ae:azq×azs×Bool):Nat->azK->azL->azM->azp->azp->azO->azP->azo->Int->Int->Option (azK×azL×azM×azp×azp×azO×azP×azo)
 |0,_,_,_,_,_,_,_,_,_,_=>none
 |n+1,oD,oE,oF,oG,oH,pF,pG,pH,o4,o5=>QX dY (wJ dY J a2 a3 a4 R ae n) J a2 a3 a4 R ae oD oE oF oG oH pF pG pH o4 o5
def QY (dY:azK->azL->azM->azp->azp->azO->azP->azo->Int->Option (azK×azL×azM×azp×azp×azO×azP×azo)) (J a2:Int) (a3 a4:azQ) (u9:azK) (u_:azL) (va:azM) (vb vc:azp) (vd:azO) (ve:azP) (vf:azo) (tm:Int):Option (azK×azL×azM×azp×azp×azO×azP×azo):=
 cond (decide (tm<(a3.length:Int))) ((bj a3 tm).bind λR=>(u4 R.Label).bind λae=>b3 λn=>wJ dY J a2 a3 a4 R ae n u9 u_ va vb vc vd ve vf tm 0) (some (u9,u_,va,vb,vc,vd,ve,vf))
def tn (J a2:Int) (a3 a4:azQ):Nat->azK->azL->azM->azp->azp->azO->azP->azo->Int->Option (azK×azL×azM×azp×azp×azO×azP×azo)
 |0,_,_,_,_,_,_,_,_,_=>none
 |n+1,u9,u_,va,vb,vc,vd,ve,vf,tm=>QY (tn J a2 a3 a4 n) J a2 a3 a4 u9 u_ va vb vc vd ve vf tm
def QZ (bn:azK) (bp:azL) (bo:azM) (bH bG:azp) (gB:azO) (gR:azP) (gC:azo) (J a2:Int) (a3 a4:azQ):Option (azK×azL×azM×azp×azp×azO×azP×azo):=
 b3 λn=>tn J a2 a3 a4 n bn bp bo bH bG gB gR gC 0
def Q0 (kA:cY->azO->azP->azo->azB->Int->Option (azP×Bool)) (ajs:cY->azO->azP->azo->azB->Int->Int->Int->Option (azP×Bool)) (a0:cY) (J:azO) (ae:azQ×Bool) (nk:cY) (rS:azO) (rT:azP) (rU:azo) (qQ:azB) (qf qR qS:Int):Option (azP×Bool):=
 cond (decide (qS<(ae.1.length:Int))) ((bj ae.1 qS).bind λaz=>(u4 az.Label).bind λaY=>(Dd nk.cI nk.b0 nk.cb nk.cD nk.cA rS rT rU aY.1 aY.2.1 qf (-1) [az.Next]).bind λaU=>ajs (cY.mk aU.1 aU.2.1 aU.2.2.1 aU.2.2.2.1 aU.2.2.2.2.1) aU.2.2.2.2.2.1 aU.2.2.2.2.2.2.1 aU.2.2.2.2.2.2.2 qQ qf qR (i64.wrap (qS+1))) (kA nk rS rT rU qQ (i64.wrap (qR+1)))
def yr (kA:cY->azO->azP->azo->azB->Int->Option (azP×Bool)) (a0:cY) (J:azO) (ae:azQ×Bool):Nat->cY->azO->azP->azo->azB->Int->Int->Int->Option (azP×Bool)
 |0,_,_,_,_,_,_,_,_=>none
 |n+1,nk,rS,rT,rU,qQ,qf,qR,qS=>Q0 kA (yr kA a0 J ae n) a0 J ae nk rS rT rU qQ qf qR qS
def Q1 (qM:cY->azO->azP->azo->azB->Int->Option (azP×Bool)) (ajt:cY->azO->azP->azo->azB->Int->Int->Int->Option (azP×Bool)) (J:azO) (n2:cY) (vg:azO) (vh:azP) (vi:azo) (qT:azB) (qU qg tp:Int):Option (azP×Bool):=
 cond (decide (qg<(J.length:Int))) ((bj qT qU).bind λbB=>(bj qT qg).bind λbu=>(QZ n2.cI n2.b0 n2.cb n2.cD n2.cA vg vh vi qU qg bB bu).bind λcy=>ajt (cY.mk cy.1 cy.2.1 cy.2.2.1 cy.2.2.2.1 cy.2.2.2.2.1) cy.2.2.2.2.2.1 cy.2.2.2.2.2.2.1 cy.2.2.2.2.2.2.2 qT qU (i64.wrap (qg+1)) tp) (qM n2 vg vh vi qT (i64.wrap (tp+1)))
def Am (qM:cY->azO->azP->azo->azB->Int->Option (azP×Bool)) (J:azO):Nat->cY->azO->azP->azo->azB->Int->Int->Int->Option (azP×Bool)
 |0,_,_,_,_,_,_,_,_=>none
 |n+1,n2,vg,vh,vi,qT,qU,qg,tp=>Q1 qM (Am qM J n) J n2 vg vh vi qT qU qg tp
def Q2 (qM:cY->azO->azP->azo->azB->Int->Option (azP×Bool)) (J:azO) (ys:cY) (yt:azO) (rV:azP) (yu:azo) (yv:azB) (qV:Int):Option (azP×Bool):=
 cond (decide (qV<(J.length:Int))) (b3 λn=>Am qM J n ys yt rV yu yv qV (i64.wrap (qV+1)) qV) (some (rV,(decide ((rV.length:Int)<=200))))
def wK (J:azO):Nat->cY->azO->azP->azo->azB->Int->Option (azP×Bool)
 |0,_,_,_,_,_,_=>none
 |n+1,ys,yt,rV,yu,yv,qV=>Q2 (wK J n) J ys yt rV yu yv qV
def GR (kA:cY->azO->azP->azo->azB->Int->Option (azP×Bool)) (a0:cY) (J:azO) (lH:cY) (qW:azO) (qX:azP) (qY:azo) (gn:azB) (n3:Int):Option (azP×Bool):=
 cond (decide (n3<(J.length:Int))) ((bj J n3).bind λR=>(u7 a0.cI R).bind λae=>cond (!ae.2) (some ([],false)) ((room 24 (gn.length+1)).bind λ_=>b3 λn=>yr kA a0 J ae n lH qW qX qY (gn++[ae.1]) n3 n3 0)) (b3 λn=>wK J n lH qW qX qY gn 0)
def qh (a0:cY) (J:azO):Nat->cY->azO->azP->azo->azB->Int->Option (azP×Bool)
 |0,_,_,_,_,_,_=>none
 |n+1,lH,qW,qX,qY,gn,n3=>GR (qh a0 J n) a0 J lH qW qX qY gn n3
def KZ (a0:cY) (J:azO):Option (azP×Bool):=
 b3 λn=>qh a0 J n a0 J [] [] [] 0
def Dr (fp:azO->Int->Option (azO×Int)) (a0:cY) (J:azN) (fT:azO) (rW:Int):Option (azO×Int):=
 cond (decide (rW<(J.length:Int))) ((bj J rW).bind λae=>(KZ a0 fT).bind λaz=>cond (!az.2) (some ([],5)) ((wB ae.Choice (az.1.length:Int)).bind λaY=>cond (!aY) (some ([],9)) ((bj az.1 ae.Choice).bind λaU=>cond (((aU.ef !=ae.ef)||(aU.Second !=ae.Second))||(!(aU.Label==ae.Label))) (some ([],9)) (fp aU.State (i64.wrap (rW+1)))))) (some (fT,0))
def wL (a0:cY) (J:azN):Nat->azO->Int->Option (azO×Int)
 |0,_,_=>none
 |n+1,fT,rW=>Dr (wL a0 J n) a0 J fT rW
def K0 (a0:cY) (J:azN):Option (azO×Int):=
 (KP a0).bind λR=>b3 λn=>wL a0 J n R 0
def GS (a0:cY) (J:azN):Option (azO×Int):=
 (KF a0).bind λR=>cond (!R) (some ([],1)) ((KO J).bind λae=>cond (!ae) (some ([],7)) ((K0 a0 J).bind λaz=>some (az.1,az.2)))
def aju (fH:Int->azu) (a0 J:azs) (cr:Int):azu:=
 cond (decide (cr<(a0.length:Int))) ((bj a0 cr).bind λR=>(bj J cr).bind λae=>cond (R !=ae) (some false) (fH (i64.wrap (cr+1)))) (some true)
def Q3 (a0 J:azs):Nat->Int->azu
 |0,_=>none
 |n+1,cr=>aju (Q3 a0 J n) a0 J cr
def GU (a0 J:azs):azu:=
 cond ((a0.length:Int) !=(J.length:Int)) (some false) (b3 λn=>Q3 a0 J n 0)
def GV (a0 J:ba):azu:=
 cond (a0.cJ !=J.cJ) (some false) (cond (a0.Part !=J.Part) (some false) ((GU a0.b5 J.b5).bind λR=>cond (!R) (some false) (some true)))
def ajv (fH:Int->azu) (a0 J:azO) (cr:Int):azu:=
 cond (decide (cr<(a0.length:Int))) ((bj a0 cr).bind λR=>(bj J cr).bind λae=>(GV R ae).bind λaz=>cond (!az) (some false) (fH (i64.wrap (cr+1)))) (some true)
def Q4 (a0 J:azO):Nat->Int->azu
 |0,_=>none
 |n+1,cr=>ajv (Q4 a0 J n) a0 J cr
def Ds (a0 J:azO):azu:=
 cond ((a0.length:Int) !=(J.length:Int)) (some false) (b3 λn=>Q4 a0 J n 0)
def GW (a0 J:bY):azu:=
 cond (a0.Kind !=J.Kind) (some false) (cond (a0.Value !=J.Value) (some false) (some true))
def ajw (fH:Int->azu) (a0 J:azI) (cr:Int):azu:=
 cond (decide (cr<(a0.length:Int))) ((bj a0 cr).bind λR=>(bj J cr).bind λae=>(GW R ae).bind λaz=>cond (!az) (some false) (fH (i64.wrap (cr+1)))) (some true)
def Q5 (a0 J:azI):Nat->Int->azu
 |0,_=>none
 |n+1,cr=>ajw (Q5 a0 J n) a0 J cr
def GX (a0 J:azI):azu:=
 cond ((a0.length:Int) !=(J.length:Int)) (some false) (b3 λn=>Q5 a0 J n 0)
def ajx (fH:Int->azu) (a0 J:azA) (cr:Int):azu:=
 cond (decide (cr<(a0.length:Int))) ((bj a0 cr).bind λR=>(bj J cr).bind λae=>(GX R ae).bind λaz=>cond (!az) (some false) (fH (i64.wrap (cr+1)))) (some true)
def Q6 (a0 J:azA):Nat->Int->azu
 |0,_=>none
 |n+1,cr=>ajx (Q6 a0 J n) a0 J cr
def K1 (a0 J:azA):azu:=
 cond ((a0.length:Int) !=(J.length:Int)) (some false) (b3 λn=>Q6 a0 J n 0)
def GY (a0 J:b_):azu:=
 cond (a0.Kind !=J.Kind) (some false) (cond (a0.Number !=J.Number) (some false) (cond (!(a0.Name==J.Name)) (some false) ((K1 a0.ck J.ck).bind λR=>cond (!R) (some false) (some true))))
def ajy (fH:Int->azu) (a0 J:azJ) (cr:Int):azu:=
 cond (decide (cr<(a0.length:Int))) ((bj a0 cr).bind λR=>(bj J cr).bind λae=>(GY R ae).bind λaz=>cond (!az) (some false) (fH (i64.wrap (cr+1)))) (some true)
def Q7 (a0 J:azJ):Nat->Int->azu
 |0,_=>none
 |n+1,cr=>ajy (Q7 a0 J n) a0 J cr
def K2 (a0 J:azJ):azu:=
 cond ((a0.length:Int) !=(J.length:Int)) (some false) (b3 λn=>Q7 a0 J n 0)
def GZ (a0 J:a1):azu:=
 cond (!(a0.Name==J.Name)) (some false) (cond (a0.dV !=J.dV) (some false) ((K2 a0.Body J.Body).bind λR=>cond (!R) (some false) (some true)))
def ajz (fH:Int->azu) (a0 J:azK) (cr:Int):azu:=
 cond (decide (cr<(a0.length:Int))) ((bj a0 cr).bind λR=>(bj J cr).bind λae=>(GZ R ae).bind λaz=>cond (!az) (some false) (fH (i64.wrap (cr+1)))) (some true)
def Q8 (a0 J:azK):Nat->Int->azu
 |0,_=>none
 |n+1,cr=>ajz (Q8 a0 J n) a0 J cr
def K3 (a0 J:azK):azu:=
 cond ((a0.length:Int) !=(J.length:Int)) (some false) (b3 λn=>Q8 a0 J n 0)
def G0 (a0 J:cQ):azu:=
 cond (a0.cJ !=J.cJ) (some false) ((GU a0.b5 J.b5).bind λR=>cond (!R) (some false) (some true))
def ajA (fH:Int->azu) (a0 J:azL) (cr:Int):azu:=
 cond (decide (cr<(a0.length:Int))) ((bj a0 cr).bind λR=>(bj J cr).bind λae=>(G0 R ae).bind λaz=>cond (!az) (some false) (fH (i64.wrap (cr+1)))) (some true)
def Q9 (a0 J:azL):Nat->Int->azu
 |0,_=>none
 |n+1,cr=>ajA (Q9 a0 J n) a0 J cr
def K4 (a0 J:azL):azu:=
 cond ((a0.length:Int) !=(J.length:Int)) (some false) (b3 λn=>Q9 a0 J n 0)
def G1 (a0 J:bX):azu:=
 cond (!(a0.Left==J.Left)) (some false) (cond (!(a0.cH==J.cH)) (some false) (cond (!(a0.Result==J.Result)) (some false) (some true)))
def ajB (fH:Int->azu) (a0 J:azM) (cr:Int):azu:=
 cond (decide (cr<(a0.length:Int))) ((bj a0 cr).bind λR=>(bj J cr).bind λae=>(G1 R ae).bind λaz=>cond (!az) (some false) (fH (i64.wrap (cr+1)))) (some true)
def Q_ (a0 J:azM):Nat->Int->azu
 |0,_=>none
 |n+1,cr=>ajB (Q_ a0 J n) a0 J cr
def K5 (a0 J:azM):azu:=
 cond ((a0.length:Int) !=(J.length:Int)) (some false) (b3 λn=>Q_ a0 J n 0)
def ajC (fH:Int->azu) (a0 J:azp) (cr:Int):azu:=
 cond (decide (cr<(a0.length:Int))) ((bj a0 cr).bind λR=>(bj J cr).bind λae=>cond (!(R==ae)) (some false) (fH (i64.wrap (cr+1)))) (some true)
def Ra (a0 J:azp):Nat->Int->azu
 |0,_=>none
 |n+1,cr=>ajC (Ra a0 J n) a0 J cr
def G2 (a0 J:azp):azu:=
 cond ((a0.length:Int) !=(J.length:Int)) (some false) (b3 λn=>Ra a0 J n 0)
def G3 (a0 J:cY):azu:=
 (K3 a0.cI J.cI).bind λR=>cond (!R) (some false) ((K4 a0.b0 J.b0).bind λae=>cond (!ae) (some false) ((K5 a0.cb J.cb).bind λaz=>cond (!az) (some false) ((G2 a0.cD J.cD).bind λaY=>cond (!aY) (some false) ((G2 a0.cA J.cA).bind λaU=>cond (!aU) (some false) (some true)))))
def G4 (a0 J:dC):azu:=
 cond (a0.Choice !=J.Choice) (some false) (cond (a0.ef !=J.ef) (some false) (cond (a0.Second !=J.Second) (some false) (cond (!(a0.Label==J.Label)) (some false) (some true))))
def ajD (fH:Int->azu) (a0 J:azN) (cr:Int):azu:=
 cond (decide (cr<(a0.length:Int))) ((bj a0 cr).bind λR=>(bj J cr).bind λae=>(G4 R ae).bind λaz=>cond (!az) (some false) (fH (i64.wrap (cr+1)))) (some true)
def Rb (a0 J:azN):Nat->Int->azu
 |0,_=>none
 |n+1,cr=>ajD (Rb a0 J n) a0 J cr
def K6 (a0 J:azN):azu:=
 cond ((a0.length:Int) !=(J.length:Int)) (some false) (b3 λn=>Rb a0 J n 0)
def K7 (fH:Int->azq->Option azq) (oI:Int) (dW:azq):Option azq:=
 cond (decide (0<oI)) ((il (1+dW.length)).bind λ_=>fH (i64.wrap (Int.tdiv oI 10)) ([(pe (i64.wrap (48+(Int.tmod oI 10))))]++dW)) ((il (1+dW.length)).bind λ_=>some (([109]:azq)++dW))
def An:Nat->Int->azq->Option azq
 |0,_,_=>none
 |n+1,oI,dW=>K7 (An n) oI dW
def vj (a0:Int):Option azq:=
 cond (decide (a0<=0)) (some ([109,48]:azq)) (b3 λn=>An n a0 ([]:azq))
def Rc (dx:azI->Int->Int->Option (Int×azI)) (bV:azI) (aT aC:Int):Option (Int×azI):=
 cond (decide (aC<(bV.length:Int))) ((bj bV aC).bind λR=>(bj (List.set bV (Int.toNat aC) (bY.mk aT R.Value)) aC).bind λae=>dx (List.set (List.set bV (Int.toNat aC) (bY.mk aT R.Value)) (Int.toNat aC) (bY.mk ae.Kind (i64.wrap (aT+1)))) (i64.wrap ((i64.wrap (aT+1))+1)) (i64.wrap (aC+1))) (some (aT,bV))
def Dt:Nat->azI->Int->Int->Option (Int×azI)
 |0,_,_,_=>none
 |n+1,bV,aT,aC=>Rc (Dt n) bV aT aC
def K8 (a0:azI) (J:Int):Option (Int×azI):=
 b3 λn=>Dt n a0 J 0
def Rd (dx:azA->Int->Int->Option (Int×azA)) (bV:azA) (aT aC:Int):Option (Int×azA):=
 cond (decide (aC<(bV.length:Int))) ((bj bV aC).bind λR=>(K8 R aT).bind λae=>dx (List.set bV (Int.toNat aC) ae.2) ae.1 (i64.wrap (aC+1))) (some (aT,bV))
def Du:Nat->azA->Int->Int->Option (Int×azA)
 |0,_,_,_=>none
 |n+1,bV,aT,aC=>Rd (Du n) bV aT aC
def K9 (a0:azA) (J:Int):Option (Int×azA):=
 b3 λn=>Du n a0 J 0
def Re (dx:azJ->Int->Int->Option (Int×azJ)) (bV:azJ) (aT aC:Int):Option (Int×azJ):=
 cond (decide (aC<(bV.length:Int))) ((bj bV aC).bind λR=>(bj (List.set bV (Int.toNat aC) (b_.mk aT R.Number R.Name R.ck)) aC).bind λae=>(vj (i64.wrap ((i64.wrap (aT+1))+1))).bind λaz=>(bj (List.set (List.set bV (Int.toNat aC) (b_.mk aT R.Number R.Name R.ck)) (Int.toNat aC) (b_.mk ae.Kind (i64.wrap (aT+1)) ae.Name ae.ck)) aC).bind λaY=>(bj (List.set (List.set (List.set bV (Int.toNat aC) (b_.mk aT R.Number R.Name R.ck)) (Int.toNat aC) (b_.mk ae.Kind (i64.wrap (aT+1)) ae.Name ae.ck)) (Int.toNat aC) (b_.mk aY.Kind aY.Number az aY.ck)) aC).bind λaU=>(K9 aU.ck (i64.wrap ((i64.wrap ((i64.wrap (aT+1))+1))+1))).bind λbB=>dx (List.set (List.set (List.set (List.set bV (Int.toNat aC) (b_.mk aT R.Number R.Name R.ck)) (Int.toNat aC) (b_.mk ae.Kind (i64.wrap (aT+1)) ae.Name ae.ck)) (Int.toNat aC) (b_.mk aY.Kind aY.Number az aY.ck)) (Int.toNat aC) (b_.mk aU.Kind aU.Number aU.Name bB.2)) bB.1 (i64.wrap (aC+1))) (some (aT,bV))
def Dv:Nat->azJ->Int->Int->Option (Int×azJ)
 |0,_,_,_=>none
 |n+1,bV,aT,aC=>Re (Dv n) bV aT aC
def K_ (a0:azJ) (J:Int):Option (Int×azJ):=
 b3 λn=>Dv n a0 J 0
def Rf (dx:azK->Int->Int->Option (Int×azK)) (bV:azK) (aT aC:Int):Option (Int×azK):=
 cond (decide (aC<(bV.length:Int))) ((vj aT).bind λR=>(bj bV aC).bind λae=>(bj (List.set bV (Int.toNat aC) (a1.mk R ae.dV ae.Body)) aC).bind λaz=>(bj (List.set (List.set bV (Int.toNat aC) (a1.mk R ae.dV ae.Body)) (Int.toNat aC) (a1.mk az.Name (i64.wrap (aT+1)) az.Body)) aC).bind λaY=>(K_ aY.Body (i64.wrap ((i64.wrap (aT+1))+1))).bind λaU=>dx (List.set (List.set (List.set bV (Int.toNat aC) (a1.mk R ae.dV ae.Body)) (Int.toNat aC) (a1.mk az.Name (i64.wrap (aT+1)) az.Body)) (Int.toNat aC) (a1.mk aY.Name aY.dV aU.2)) aU.1 (i64.wrap (aC+1))) (some (aT,bV))
def Dw:Nat->azK->Int->Int->Option (Int×azK)
 |0,_,_,_=>none
 |n+1,bV,aT,aC=>Rf (Dw n) bV aT aC
def La (a0:azK) (J:Int):Option (Int×azK):=
 b3 λn=>Dw n a0 J 0
def Rg (dx:azs->Int->Int->Option (Int×azs)) (bV:azs) (aT aC:Int):Option (Int×azs):=
 cond (decide (aC<(bV.length:Int))) ((bj bV aC).bind λR=>dx (List.set bV (Int.toNat aC) aT) (i64.wrap (aT+1)) (i64.wrap (aC+1))) (some (aT,bV))
def Dx:Nat->azs->Int->Int->Option (Int×azs)
 |0,_,_,_=>none
 |n+1,bV,aT,aC=>Rg (Dx n) bV aT aC
def G5 (a0:azs) (J:Int):Option (Int×azs):=
 b3 λn=>Dx n a0 J 0
def Rh (dx:azL->Int->Int->Option (Int×azL)) (bV:azL) (aT aC:Int):Option (Int×azL):=
 cond (decide (aC<(bV.length:Int))) ((bj bV aC).bind λR=>(bj (List.set bV (Int.toNat aC) (cQ.mk aT R.b5)) aC).bind λae=>(G5 ae.b5 (i64.wrap (aT+1))).bind λaz=>dx (List.set (List.set bV (Int.toNat aC) (cQ.mk aT R.b5)) (Int.toNat aC) (cQ.mk ae.cJ az.2)) az.1 (i64.wrap (aC+1))) (some (aT,bV))
def Dy:Nat->azL->Int->Int->Option (Int×azL)
 |0,_,_,_=>none
 |n+1,bV,aT,aC=>Rh (Dy n) bV aT aC
def Lb (a0:azL) (J:Int):Option (Int×azL):=
 b3 λn=>Dy n a0 J 0
def Ri (dx:azM->Int->Int->Option (Int×azM)) (bV:azM) (aT aC:Int):Option (Int×azM):=
 cond (decide (aC<(bV.length:Int))) ((vj aT).bind λR=>(bj bV aC).bind λae=>(vj (i64.wrap (aT+1))).bind λaz=>(bj (List.set bV (Int.toNat aC) (bX.mk R ae.cH ae.Result)) aC).bind λaY=>(vj (i64.wrap ((i64.wrap (aT+1))+1))).bind λaU=>(bj (List.set (List.set bV (Int.toNat aC) (bX.mk R ae.cH ae.Result)) (Int.toNat aC) (bX.mk aY.Left az aY.Result)) aC).bind λbB=>dx (List.set (List.set (List.set bV (Int.toNat aC) (bX.mk R ae.cH ae.Result)) (Int.toNat aC) (bX.mk aY.Left az aY.Result)) (Int.toNat aC) (bX.mk bB.Left bB.cH aU)) (i64.wrap ((i64.wrap ((i64.wrap (aT+1))+1))+1)) (i64.wrap (aC+1))) (some (aT,bV))
def Dz:Nat->azM->Int->Int->Option (Int×azM)
 |0,_,_,_=>none
 |n+1,bV,aT,aC=>Ri (Dz n) bV aT aC
def Lc (a0:azM) (J:Int):Option (Int×azM):=
 b3 λn=>Dz n a0 J 0
def Rj (dx:azp->Int->Int->Option (Int×azp)) (bV:azp) (aT aC:Int):Option (Int×azp):=
 cond (decide (aC<(bV.length:Int))) ((vj aT).bind λR=>(bj bV aC).bind λae=>dx (List.set bV (Int.toNat aC) R) (i64.wrap (aT+1)) (i64.wrap (aC+1))) (some (aT,bV))
def DA:Nat->azp->Int->Int->Option (Int×azp)
 |0,_,_,_=>none
 |n+1,bV,aT,aC=>Rj (DA n) bV aT aC
def G6 (a0:azp) (J:Int):Option (Int×azp):=
 b3 λn=>DA n a0 J 0
def Ld (bn:azK) (bp:azL) (bo:azM) (bH bG:azp) (J:Int):Option (Int×azK×azL×azM×azp×azp):=
 (La bn J).bind λR=>(Lb bp R.1).bind λae=>(Lc bo ae.1).bind λaz=>(G6 bH az.1).bind λaY=>(G6 bG aY.1).bind λaU=>some (aU.1,R.2,ae.2,az.2,aY.2,aU.2)
def Rk (dx:azN->Int->Int->Option (Int×azN)) (bV:azN) (aT aC:Int):Option (Int×azN):=
 cond (decide (aC<(bV.length:Int))) ((bj bV aC).bind λR=>(bj (List.set bV (Int.toNat aC) (dC.mk aT R.ef R.Second R.Label)) aC).bind λae=>(bj (List.set (List.set bV (Int.toNat aC) (dC.mk aT R.ef R.Second R.Label)) (Int.toNat aC) (dC.mk ae.Choice (i64.wrap (aT+1)) ae.Second ae.Label)) aC).bind λaz=>(vj (i64.wrap ((i64.wrap ((i64.wrap (aT+1))+1))+1))).bind λaY=>(bj (List.set (List.set (List.set bV (Int.toNat aC) (dC.mk aT R.ef R.Second R.Label)) (Int.toNat aC) (dC.mk ae.Choice (i64.wrap (aT+1)) ae.Second ae.Label)) (Int.toNat aC) (dC.mk az.Choice az.ef (i64.wrap ((i64.wrap (aT+1))+1)) az.Label)) aC).bind λaU=>dx (List.set (List.set (List.set (List.set bV (Int.toNat aC) (dC.mk aT R.ef R.Second R.Label)) (Int.toNat aC) (dC.mk ae.Choice (i64.wrap (aT+1)) ae.Second ae.Label)) (Int.toNat aC) (dC.mk az.Choice az.ef (i64.wrap ((i64.wrap (aT+1))+1)) az.Label)) (Int.toNat aC) (dC.mk aU.Choice aU.ef aU.Second aY)) (i64.wrap ((i64.wrap ((i64.wrap ((i64.wrap (aT+1))+1))+1))+1)) (i64.wrap (aC+1))) (some (aT,bV))
def DB:Nat->azN->Int->Int->Option (Int×azN)
 |0,_,_,_=>none
 |n+1,bV,aT,aC=>Rk (DB n) bV aT aC
def Le (a0:azN) (J:Int):Option (Int×azN):=
 b3 λn=>DB n a0 J 0
def Rl (dx:azO->Int->Int->Option (Int×azO)) (bV:azO) (aT aC:Int):Option (Int×azO):=
 cond (decide (aC<(bV.length:Int))) ((bj bV aC).bind λR=>(bj (List.set bV (Int.toNat aC) (ba.mk aT R.Part R.b5)) aC).bind λae=>(bj (List.set (List.set bV (Int.toNat aC) (ba.mk aT R.Part R.b5)) (Int.toNat aC) (ba.mk ae.cJ (i64.wrap (aT+1)) ae.b5)) aC).bind λaz=>(G5 az.b5 (i64.wrap ((i64.wrap (aT+1))+1))).bind λaY=>dx (List.set (List.set (List.set bV (Int.toNat aC) (ba.mk aT R.Part R.b5)) (Int.toNat aC) (ba.mk ae.cJ (i64.wrap (aT+1)) ae.b5)) (Int.toNat aC) (ba.mk az.cJ az.Part aY.2)) aY.1 (i64.wrap (aC+1))) (some (aT,bV))
def DC:Nat->azO->Int->Int->Option (Int×azO)
 |0,_,_,_=>none
 |n+1,bV,aT,aC=>Rl (DC n) bV aT aC
def Lf (a0:azO) (J:Int):Option (Int×azO):=
 b3 λn=>DC n a0 J 0
def Rm (dx:Int->Int->azv) (a0:azs) (aT aC:Int):azv:=
 cond (decide (aC<(a0.length:Int))) ((bj a0 aC).bind λR=>cond (R !=aT) (some (-1)) (dx (i64.wrap (aT+1)) (i64.wrap (aC+1)))) (some aT)
def DD (a0:azs):Nat->Int->Int->azv
 |0,_,_=>none
 |n+1,aT,aC=>Rm (DD a0 n) a0 aT aC
def Lg (a0:azs) (J:Int):azv:=
 b3 λn=>DD a0 n J 0
def Rn (dx:Int->Int->azv) (a0:azO) (aT aC:Int):azv:=
 cond (decide (aC<(a0.length:Int))) ((bj a0 aC).bind λR=>cond (R.cJ !=aT) (some (-1)) (cond (R.Part !=(i64.wrap (aT+1))) (some (-1)) ((Lg R.b5 (i64.wrap ((i64.wrap (aT+1))+1))).bind λae=>cond (decide (ae<0)) (some (-1)) (dx ae (i64.wrap (aC+1)))))) (some aT)
def DE (a0:azO):Nat->Int->Int->azv
 |0,_,_=>none
 |n+1,aT,aC=>Rn (DE a0 n) a0 aT aC
def G7 (a0:azO) (J:Int):azv:=
 b3 λn=>DE a0 n J 0
def Ro (a0:oZ) (J:azH):azu:=
 (FV a0 1048576).bind λR=>cond (decide (R<0)) (some true) ((JC J R).bind λae=>cond (decide (ae<0)) (some true) ((ye a0).bind λaz=>(zK J).bind λaY=>(Kg az aY).bind λaU=>(ye a0).bind λbB=>(zK J).bind λbu=>(GS bB bu).bind λcy=>(Ds cy.1 aU.1).bind λdE=>cond ((!dE)||(cy.2 !=aU.2)) (some false) ((ye a0).bind λdN=>(G3 bB dN).bind λfa=>cond (!fa) (some false) ((zK J).bind λkH=>(K6 bu kH).bind λmK=>cond (!mK) (some false) ((Ld bB.cI bB.b0 bB.cb bB.cD bB.cA 1).bind λje=>(Le bu je.1).bind λhB=>cond (decide (hB.1<0)) (some false) ((Ds cy.1 aU.1).bind λju=>cond ((!ju)||(cy.2 !=aU.2)) (some false) ((Lf cy.1 1).bind λiK=>(G7 iK.2 1).bind λqb=>cond (decide (qb<0)) (some false) (cond (qb !=iK.1) (some false) ((ye a0).bind λlI=>(zK J).bind λlJ=>(GS lI lJ).bind λlj=>(Ds lj.1 aU.1).bind λmN=>cond ((!mN)||(lj.2 !=aU.2)) (some false) ((G7 iK.2 1).bind λlK=>cond (decide (lK<0)) (some false) (cond (lK !=iK.1) (some false) (some true))))))))))))
end
end Go.ld
