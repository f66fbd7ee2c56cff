/- Part of a proof that a law returns true for every input. No condition. -/
import Derived.Test.YtngohoaiimbacabGreatDoorFwA
namespace Go.lV
open List Option Go.IntKind Nat Or
open Go Go.c_
set_option linter.unusedVariables false
noncomputable section
structure hA where
 Kind:Int
 Value:Int
def u0 (x:hA):Prop:=(-9223372036854775808<=x.Kind/\x.Kind<=9223372036854775807)/\(-9223372036854775808<=x.Value/\x.Value<=9223372036854775807)
structure i_ where
 Kind:Int
 Number:Int
 Name:aht
 ck:List (List hA)
def xB (x:i_):Prop:=(-9223372036854775808<=x.Kind/\x.Kind<=9223372036854775807)/\(-9223372036854775808<=x.Number/\x.Number<=9223372036854775807)/\x.Name.length<=9223372036854775807/\(x.ck.length<=9223372036854775807/\∀y∈x.ck,(y.length<=9223372036854775807/\∀z∈y,u0 z))
structure ja where
 Name:aht
 cU:Int
 Body:List i_
def xC (x:ja):Prop:=x.Name.length<=9223372036854775807/\(-9223372036854775808<=x.cU/\x.cU<=9223372036854775807)/\(x.Body.length<=9223372036854775807/\∀y∈x.Body,xB y)
structure jb where
 dd:Int
 b5:ahv
def xD (x:jb):Prop:=(-9223372036854775808<=x.dd/\x.dd<=9223372036854775807)/\(x.b5.length<=9223372036854775807/\∀y∈x.b5,(-9223372036854775808<=y/\y<=9223372036854775807))
structure iJ where
 Left:aht
 b0:aht
 Result:aht
def xE (x:iJ):Prop:=x.Left.length<=9223372036854775807/\x.b0.length<=9223372036854775807/\x.Result.length<=9223372036854775807
structure lW where
 br:List ja
 cw:List jb
 gP:List iJ
 gF:nq
 gG:nq
def xF (x:lW):Prop:=(x.br.length<=9223372036854775807/\∀y∈x.br,xC y)/\(x.cw.length<=9223372036854775807/\∀y∈x.cw,xD y)/\(x.gP.length<=9223372036854775807/\∀y∈x.gP,xE y)/\(x.gF.length<=9223372036854775807/\∀y∈x.gF,y.length<=9223372036854775807)/\(x.gG.length<=9223372036854775807/\∀y∈x.gG,y.length<=9223372036854775807)
structure cj where
 Kind:Int
 Value:Int
def V4 (x:cj):Prop:=(-9223372036854775808<=x.Kind/\x.Kind<=9223372036854775807)/\(-9223372036854775808<=x.Value/\x.Value<=9223372036854775807)
structure bD where
 Kind:Int
 Number:Int
 Name:aht
 ck:List (List cj)
def V5 (x:bD):Prop:=(-9223372036854775808<=x.Kind/\x.Kind<=9223372036854775807)/\(-9223372036854775808<=x.Number/\x.Number<=9223372036854775807)/\x.Name.length<=9223372036854775807/\(x.ck.length<=9223372036854775807/\∀y∈x.ck,(y.length<=9223372036854775807/\∀z∈y,V4 z))
structure bl where
 Name:aht
 cU:Int
 Body:List bD
def V6 (x:bl):Prop:=x.Name.length<=9223372036854775807/\(-9223372036854775808<=x.cU/\x.cU<=9223372036854775807)/\(x.Body.length<=9223372036854775807/\∀y∈x.Body,V5 y)
structure dG where
 dd:Int
 b5:ahv
def V7 (x:dG):Prop:=(-9223372036854775808<=x.dd/\x.dd<=9223372036854775807)/\(x.b5.length<=9223372036854775807/\∀y∈x.b5,(-9223372036854775808<=y/\y<=9223372036854775807))
structure cp where
 Left:aht
 b0:aht
 Result:aht
def V8 (x:cp):Prop:=x.Left.length<=9223372036854775807/\x.b0.length<=9223372036854775807/\x.Result.length<=9223372036854775807
structure dH where
 br:List bl
 cw:List dG
 gP:List cp
 gF:nq
 gG:nq
def agB (x:dH):Prop:=(x.br.length<=9223372036854775807/\∀y∈x.br,V6 y)/\(x.cw.length<=9223372036854775807/\∀y∈x.cw,V7 y)/\(x.gP.length<=9223372036854775807/\∀y∈x.gP,V8 y)/\(x.gF.length<=9223372036854775807/\∀y∈x.gF,y.length<=9223372036854775807)/\(x.gG.length<=9223372036854775807/\∀y∈x.gG,y.length<=9223372036854775807)
structure bY where
 dd:Int
 Part:Int
 b5:ahv
def agC (x:bY):Prop:=(-9223372036854775808<=x.dd/\x.dd<=9223372036854775807)/\(-9223372036854775808<=x.Part/\x.Part<=9223372036854775807)/\(x.b5.length<=9223372036854775807/\∀y∈x.b5,(-9223372036854775808<=y/\y<=9223372036854775807))
structure cM where
 scope:Int
 behind:Bool
abbrev ahE:=List hA
abbrev ahF:=List i_
abbrev ahG:=List ja
abbrev ahH:=List jb
abbrev ahI:=List iJ
abbrev ahJ:=List cj
abbrev ahK:=List bD
abbrev ahL:=List bl
abbrev ahM:=List dG
abbrev ahN:=List cp
abbrev ahO:=List bY
abbrev ahP:=List cM
abbrev ahC:=List (List hA)
abbrev ahD:=List (List cj)
def agD (x:cM):Prop:=(-9223372036854775808<=x.scope/\x.scope<=9223372036854775807)/\True
def xG (a0:ahE) (J:Int):ahy:=
 cond (decide ((i64.wrap (J-(a0.length:Int)))<0)) (some (-1)) (some (i64.wrap (J-(a0.length:Int))))
def V9 (j0:Int->Int->ahy) (a0:ahC) (dO dC:Int):ahy:=
 cond (decide (dC<(a0.length:Int))) ((bh a0 dC).bind λaa=>(xG aa dO).bind λag=>cond (decide (ag<0)) (some (-1)) (j0 ag (i64.wrap (dC+1)))) (some dO)
def Fl (a0:ahC):Nat->Int->Int->ahy
 |0,_,_=>none
 |n+1,dO,dC=>V9 (Fl a0 n) a0 dO dC
def AJ (a0:ahC) (J:Int):ahy:=
 cond (decide ((i64.wrap (J-(a0.length:Int)))<0)) (some (-1)) (ca λn=>Fl a0 n (i64.wrap (J-(a0.length:Int))) 0)
def xH (a0:i_) (J:Int):ahy:=
 cond (decide ((i64.wrap (J-(a0.Name.length:Int)))<0)) (some (-1)) ((AJ a0.ck (i64.wrap (J-(a0.Name.length:Int)))).bind λaa=>cond (decide (aa<0)) (some (-1)) (some aa))
def V_ (j0:Int->Int->ahy) (a0:ahF) (dO dC:Int):ahy:=
 cond (decide (dC<(a0.length:Int))) ((bh a0 dC).bind λaa=>(xH aa dO).bind λag=>cond (decide (ag<0)) (some (-1)) (j0 ag (i64.wrap (dC+1)))) (some dO)
def Fm (a0:ahF):Nat->Int->Int->ahy
 |0,_,_=>none
 |n+1,dO,dC=>V_ (Fm a0 n) a0 dO dC
def AK (a0:ahF) (J:Int):ahy:=
 cond (decide ((i64.wrap (J-(a0.length:Int)))<0)) (some (-1)) (ca λn=>Fm a0 n (i64.wrap (J-(a0.length:Int))) 0)
def xI (a0:ja) (J:Int):ahy:=
 cond (decide ((i64.wrap (J-(a0.Name.length:Int)))<0)) (some (-1)) ((AK a0.Body (i64.wrap (J-(a0.Name.length:Int)))).bind λaa=>cond (decide (aa<0)) (some (-1)) (some aa))
def Wa (j0:Int->Int->ahy) (a0:ahG) (dO dC:Int):ahy:=
 cond (decide (dC<(a0.length:Int))) ((bh a0 dC).bind λaa=>(xI aa dO).bind λag=>cond (decide (ag<0)) (some (-1)) (j0 ag (i64.wrap (dC+1)))) (some dO)
def Fo (a0:ahG):Nat->Int->Int->ahy
 |0,_,_=>none
 |n+1,dO,dC=>Wa (Fo a0 n) a0 dO dC
def AL (a0:ahG) (J:Int):ahy:=
 cond (decide ((i64.wrap (J-(a0.length:Int)))<0)) (some (-1)) (ca λn=>Fo a0 n (i64.wrap (J-(a0.length:Int))) 0)
def AM (a0:ahv) (J:Int):ahy:=
 cond (decide ((i64.wrap (J-(a0.length:Int)))<0)) (some (-1)) (some (i64.wrap (J-(a0.length:Int))))
def xJ (a0:jb) (J:Int):ahy:=
 (AM a0.b5 J).bind λaa=>cond (decide (aa<0)) (some (-1)) (some aa)
def Wb (j0:Int->Int->ahy) (a0:ahH) (dO dC:Int):ahy:=
 cond (decide (dC<(a0.length:Int))) ((bh a0 dC).bind λaa=>(xJ aa dO).bind λag=>cond (decide (ag<0)) (some (-1)) (j0 ag (i64.wrap (dC+1)))) (some dO)
def Fp (a0:ahH):Nat->Int->Int->ahy
 |0,_,_=>none
 |n+1,dO,dC=>Wb (Fp a0 n) a0 dO dC
def AN (a0:ahH) (J:Int):ahy:=
 cond (decide ((i64.wrap (J-(a0.length:Int)))<0)) (some (-1)) (ca λn=>Fp a0 n (i64.wrap (J-(a0.length:Int))) 0)
def xK (a0:iJ) (J:Int):ahy:=
 cond (decide ((i64.wrap (J-(a0.Left.length:Int)))<0)) (some (-1)) (cond (decide ((i64.wrap ((i64.wrap (J-(a0.Left.length:Int)))-(a0.b0.length:Int)))<0)) (some (-1)) (cond (decide ((i64.wrap ((i64.wrap ((i64.wrap (J-(a0.Left.length:Int)))-(a0.b0.length:Int)))-(a0.Result.length:Int)))<0)) (some (-1)) (some (i64.wrap ((i64.wrap ((i64.wrap (J-(a0.Left.length:Int)))-(a0.b0.length:Int)))-(a0.Result.length:Int))))))
def Wc (j0:Int->Int->ahy) (a0:ahI) (dO dC:Int):ahy:=
 cond (decide (dC<(a0.length:Int))) ((bh a0 dC).bind λaa=>(xK aa dO).bind λag=>cond (decide (ag<0)) (some (-1)) (j0 ag (i64.wrap (dC+1)))) (some dO)
def Fq (a0:ahI):Nat->Int->Int->ahy
 |0,_,_=>none
 |n+1,dO,dC=>Wc (Fq a0 n) a0 dO dC
def AO (a0:ahI) (J:Int):ahy:=
 cond (decide ((i64.wrap (J-(a0.length:Int)))<0)) (some (-1)) (ca λn=>Fq a0 n (i64.wrap (J-(a0.length:Int))) 0)
def Wd (j0:Int->Int->ahy) (a0:nq) (dO dC:Int):ahy:=
 cond (decide (dC<(a0.length:Int))) ((bh a0 dC).bind λaa=>cond (decide ((i64.wrap (dO-(aa.length:Int)))<0)) (some (-1)) (j0 (i64.wrap (dO-(aa.length:Int))) (i64.wrap (dC+1)))) (some dO)
def Fs (a0:nq):Nat->Int->Int->ahy
 |0,_,_=>none
 |n+1,dO,dC=>Wd (Fs a0 n) a0 dO dC
def xL (a0:nq) (J:Int):ahy:=
 cond (decide ((i64.wrap (J-(a0.length:Int)))<0)) (some (-1)) (ca λn=>Fs a0 n (i64.wrap (J-(a0.length:Int))) 0)
def xM (a0:lW) (J:Int):ahy:=
 (AL a0.br J).bind λaa=>cond (decide (aa<0)) (some (-1)) ((AN a0.cw aa).bind λag=>cond (decide (ag<0)) (some (-1)) ((AO a0.gP ag).bind λaK=>cond (decide (aK<0)) (some (-1)) ((xL a0.gF aK).bind λa6=>cond (decide (a6<0)) (some (-1)) ((xL a0.gG a6).bind λba=>cond (decide (ba<0)) (some (-1)) (some ba)))))
def xN (a0:hA):Option cj:=
 some (cj.mk a0.Kind a0.Value)
def We (fF:ahJ->Int->Option ahJ) (a0:ahE) (cg:ahJ) (bz:Int):Option ahJ:=
 cond (decide (bz<(a0.length:Int))) ((bh a0 bz).bind λaa=>(xN aa).bind λag=>(bh cg bz).bind λaK=>fF (List.set cg (Int.toNat bz) ag) (i64.wrap (bz+1))) (some cg)
def Ft (a0:ahE):Nat->ahJ->Int->Option ahJ
 |0,_,_=>none
 |n+1,cg,bz=>We (Ft a0 n) a0 cg bz
def xO (a0:ahE):Option ahJ:=
 (la 16 (a0.length:Int)).bind λ_=>ca λn=>Ft a0 n (replicate (Int.toNat (a0.length:Int)) (cj.mk 0 0)) 0
def Wf (fF:ahD->Int->Option ahD) (a0:ahC) (cg:ahD) (bz:Int):Option ahD:=
 cond (decide (bz<(a0.length:Int))) ((bh a0 bz).bind λaa=>(xO aa).bind λag=>(bh cg bz).bind λaK=>fF (List.set cg (Int.toNat bz) ag) (i64.wrap (bz+1))) (some cg)
def Fu (a0:ahC):Nat->ahD->Int->Option ahD
 |0,_,_=>none
 |n+1,cg,bz=>Wf (Fu a0 n) a0 cg bz
def AP (a0:ahC):Option ahD:=
 (la 24 (a0.length:Int)).bind λ_=>ca λn=>Fu a0 n (replicate (Int.toNat (a0.length:Int)) []) 0
def xP (a0:i_):Option bD:=
 (AP a0.ck).bind λaa=>some (bD.mk a0.Kind a0.Number a0.Name aa)
def Wg (fF:ahK->Int->Option ahK) (a0:ahF) (cg:ahK) (bz:Int):Option ahK:=
 cond (decide (bz<(a0.length:Int))) ((bh a0 bz).bind λaa=>(xP aa).bind λag=>(bh cg bz).bind λaK=>fF (List.set cg (Int.toNat bz) ag) (i64.wrap (bz+1))) (some cg)
def Fv (a0:ahF):Nat->ahK->Int->Option ahK
 |0,_,_=>none
 |n+1,cg,bz=>Wg (Fv a0 n) a0 cg bz
def AQ (a0:ahF):Option ahK:=
 (la 56 (a0.length:Int)).bind λ_=>ca λn=>Fv a0 n (replicate (Int.toNat (a0.length:Int)) (bD.mk 0 0 ([]:aht) [])) 0
def xQ (a0:ja):Option bl:=
 (AQ a0.Body).bind λaa=>some (bl.mk a0.Name a0.cU aa)
def Wh (fF:ahL->Int->Option ahL) (a0:ahG) (cg:ahL) (bz:Int):Option ahL:=
 cond (decide (bz<(a0.length:Int))) ((bh a0 bz).bind λaa=>(xQ aa).bind λag=>(bh cg bz).bind λaK=>fF (List.set cg (Int.toNat bz) ag) (i64.wrap (bz+1))) (some cg)
def Fw (a0:ahG):Nat->ahL->Int->Option ahL
 |0,_,_=>none
 |n+1,cg,bz=>Wh (Fw a0 n) a0 cg bz
def AR (a0:ahG):Option ahL:=
 (la 48 (a0.length:Int)).bind λ_=>ca λn=>Fw a0 n (replicate (Int.toNat (a0.length:Int)) (bl.mk ([]:aht) 0 [])) 0
def Wi (fF:ahv->Int->Option ahv) (a0 cg:ahv) (bz:Int):Option ahv:=
 cond (decide (bz<(a0.length:Int))) ((bh a0 bz).bind λaa=>(bh cg bz).bind λag=>fF (List.set cg (Int.toNat bz) aa) (i64.wrap (bz+1))) (some cg)
def Fx (a0:ahv):Nat->ahv->Int->Option ahv
 |0,_,_=>none
 |n+1,cg,bz=>Wi (Fx a0 n) a0 cg bz
def AU (a0:ahv):Option ahv:=
 (la 8 (a0.length:Int)).bind λ_=>ca λn=>Fx a0 n (replicate (Int.toNat (a0.length:Int)) 0) 0
def xR (a0:jb):Option dG:=
 (AU a0.b5).bind λaa=>some (dG.mk a0.dd aa)
def Wj (fF:ahM->Int->Option ahM) (a0:ahH) (cg:ahM) (bz:Int):Option ahM:=
 cond (decide (bz<(a0.length:Int))) ((bh a0 bz).bind λaa=>(xR aa).bind λag=>(bh cg bz).bind λaK=>fF (List.set cg (Int.toNat bz) ag) (i64.wrap (bz+1))) (some cg)
def Fy (a0:ahH):Nat->ahM->Int->Option ahM
 |0,_,_=>none
 |n+1,cg,bz=>Wj (Fy a0 n) a0 cg bz
def AV (a0:ahH):Option ahM:=
 (la 32 (a0.length:Int)).bind λ_=>ca λn=>Fy a0 n (replicate (Int.toNat (a0.length:Int)) (dG.mk 0 [])) 0
def xS (a0:iJ):Option cp:=
 some (cp.mk a0.Left a0.b0 a0.Result)
def Wk (fF:ahN->Int->Option ahN) (a0:ahI) (cg:ahN) (bz:Int):Option ahN:=
 cond (decide (bz<(a0.length:Int))) ((bh a0 bz).bind λaa=>(xS aa).bind λag=>(bh cg bz).bind λaK=>fF (List.set cg (Int.toNat bz) ag) (i64.wrap (bz+1))) (some cg)
def Fz (a0:ahI):Nat->ahN->Int->Option ahN
 |0,_,_=>none
 |n+1,cg,bz=>Wk (Fz a0 n) a0 cg bz
def AW (a0:ahI):Option ahN:=
 (la 48 (a0.length:Int)).bind λ_=>ca λn=>Fz a0 n (replicate (Int.toNat (a0.length:Int)) (cp.mk ([]:aht) ([]:aht) ([]:aht))) 0
def Wl (fF:nq->Int->Option nq) (a0 cg:nq) (bz:Int):Option nq:=
 cond (decide (bz<(a0.length:Int))) ((bh a0 bz).bind λaa=>(bh cg bz).bind λag=>fF (List.set cg (Int.toNat bz) aa) (i64.wrap (bz+1))) (some cg)
def FA (a0:nq):Nat->nq->Int->Option nq
 |0,_,_=>none
 |n+1,cg,bz=>Wl (FA a0 n) a0 cg bz
def xT (a0:nq):Option nq:=
 (la 16 (a0.length:Int)).bind λ_=>ca λn=>FA a0 n (replicate (Int.toNat (a0.length:Int)) ([]:aht)) 0
def rK (a0:lW):Option dH:=
 (AR a0.br).bind λaa=>(AV a0.cw).bind λag=>(AW a0.gP).bind λaK=>(xT a0.gF).bind λa6=>(xT a0.gG).bind λba=>some (dH.mk aa ag aK a6 ba)
def xU (a0:UInt8):ahx:=
 some ((decide (97<=(a0.toNat:Int)))&&(decide ((a0.toNat:Int)<=122)))
def u1 (a0:UInt8):ahx:=
 some ((decide (48<=(a0.toNat:Int)))&&(decide ((a0.toNat:Int)<=57)))
def FB (ft:Int->ahx) (a0:aht) (cY:Int):ahx:=
 cond (decide (cY<(a0.length:Int))) ((bh a0 cY).bind λaK=>(xU aK).bind λa6=>cond (!a6) ((u1 aK).bind λba=>cond (!ba) (some false) (ft (i64.wrap (cY+1)))) (ft (i64.wrap (cY+1)))) (some true)
def xV (a0:aht):Nat->Int->ahx
 |0,_=>none
 |n+1,cY=>FB (xV a0 n) a0 cY
def u2 (a0:aht):ahx:=
 cond (a0==([]:aht)) (some false) (cond (decide (10<(a0.length:Int))) (some false) ((bh a0 0).bind λaa=>(xU aa).bind λag=>cond (!ag) (some false) (ca λn=>xV a0 n 0)))
def j1 (a0 J a2:Int):ahx:=
 some ((decide (J<=a0))&&(decide (a0<=a2)))
def xW (a0:bD) (hY:Bool):ahy:=
 cond hY (some 1) (cond (a0.Kind==2) (some 2) (some 0))
def xX (a0:bD):ahy:=
 cond (a0.Kind==1) (xW a0 true) (cond (a0.Kind==3) (xW a0 true) (xW a0 (a0.Kind==4)))
def FC (j0:Int->Int->ahx) (a0:ahK) (oE py:Int):ahx:=
 cond (decide (py<(a0.length:Int))) (cond (oE==0) (some false) ((bh a0 py).bind λaa=>(xX aa).bind λag=>j0 (i64.wrap (oE+(i64.wrap (ag-1)))) (i64.wrap (py+1)))) (some (oE==0))
def u3 (a0:ahK):Nat->Int->Int->ahx
 |0,_,_=>none
 |n+1,oE,py=>FC (u3 a0 n) a0 oE py
def AX (a0:ahK):ahx:=
 cond (((a0.length:Int)==0)||(decide (20<(a0.length:Int)))) (some false) (ca λn=>u3 a0 n 1 0)
def AY (a0:bD) (xY:Bool):ahx:=
 cond xY (some (((a0.Number==0)&&(a0.Name==([]:aht)))&&((a0.ck.length:Int)==0))) (cond (a0.Kind==1) (some (a0.Number==0)) (cond (a0.Kind==3) (some ((a0.Number==0)&&(a0.Name==([]:aht)))) (cond (a0.Kind==4) (some ((a0.Name==([]:aht))&&((a0.ck.length:Int)==0))) (cond (a0.Kind==5) (some (a0.Name==([]:aht))) (some false)))))
def FD (a0:bD):ahx:=
 cond (a0.Kind==0) (AY a0 true) (AY a0 (a0.Kind==2))
def FE (cZ:Int->Int->ahy) (a0:ahK) (aQ aJ:Int):ahy:=
 cond (decide (0<aJ)) ((bh a0 aQ).bind λaa=>(xX aa).bind λag=>cZ (i64.wrap (aQ+1)) (i64.wrap (aJ+(i64.wrap (ag-1))))) (some aQ)
def u4 (a0:ahK):Nat->Int->Int->ahy
 |0,_,_=>none
 |n+1,aQ,aJ=>FE (u4 a0 n) a0 aQ aJ
def AZ (a0:ahK) (J:Int):ahy:=
 ca λn=>u4 a0 n J 1
def xZ (fF:Int->Int->ahy) (a0:bl) (J u5 u6:Int):ahy:=
 fF u5 (i64.wrap (u6+1))
def FF (fF:Int->Int->ahy) (a0:bl) (J fR lX:Int):ahy:=
 cond (decide (lX<J)) ((bh a0.Body lX).bind λaa=>cond (aa.Kind==4) ((AZ a0.Body lX).bind λag=>cond (decide (J<ag)) (xZ fF a0 J (i64.wrap (fR+1)) lX) (xZ fF a0 J fR lX)) (xZ fF a0 J fR lX)) (some fR)
def ta (a0:bl) (J:Int):Nat->Int->Int->ahy
 |0,_,_=>none
 |n+1,fR,lX=>FF (ta a0 J n) a0 J fR lX
def rL (a0:bl) (J:Int):ahy:=
 ca λn=>ta a0 J n a0.cU 0
def A0 (a0:cj) (J:Int):ahx:=
 cond (a0.Kind==0) ((j1 a0.Value 0 63).bind λaa=>some aa) (cond (a0.Kind==1) ((j1 a0.Value 0 (i64.wrap (J-1))).bind λag=>some ag) (cond (a0.Kind==2) ((j1 a0.Value 0 8).bind λaK=>some aK) (cond (a0.Kind==3) (some (a0.Value==0)) (some false))))
def FG (a0:cj):ahy:=
 cond (a0.Kind==2) (some 2) (cond (a0.Kind==3) (some 1) (some 0))
def FH (j0:Int->Int->ahx) (a0:ahJ) (J hY pz:Int):ahx:=
 cond (decide (pz<(a0.length:Int))) (cond (hY==0) (some false) ((bh a0 pz).bind λaa=>(A0 aa J).bind λag=>cond (!ag) (some false) ((FG aa).bind λaK=>j0 (i64.wrap (hY+(i64.wrap (aK-1)))) (i64.wrap (pz+1))))) (some (hY==0))
def u7 (a0:ahJ) (J:Int):Nat->Int->Int->ahx
 |0,_,_=>none
 |n+1,hY,pz=>FH (u7 a0 J n) a0 J hY pz
def A1 (a0:ahJ) (J a2:Int):ahx:=
 cond (decide (a2<(a0.length:Int))) (some false) (ca λn=>u7 a0 J n 1 0)
def FI (Wm:Int->Int->ahy) (aa:bD) (pA pB:Int):ahy:=
 cond (decide (pB<(aa.ck.length:Int))) ((bh aa.ck pB).bind λa6=>(A1 a6 pA 15).bind λba=>cond (!ba) (some 8) (Wm pA (i64.wrap (pB+1)))) (some 0)
def tb (aa:bD):Nat->Int->Int->ahy
 |0,_,_=>none
 |n+1,pA,pB=>FI (tb aa n) aa pA pB
def u9 (J:bl) (a2:Int) (aa:bD) (x0:Bool):ahy:=
 cond x0 (some 6) ((rL J a2).bind λaK=>cond ((aa.Kind==4)&&(decide (6<=aK))) (some 7) (ca λn=>tb aa n aK 0))
def tc (J:bl) (a2:Int) (aa:bD):ahy:=
 cond (aa.Kind==5) (cond (a2==0) (u9 J a2 aa true) ((bh J.Body (i64.wrap (a2-1))).bind λbP=>u9 J a2 aa (bP.Kind !=1))) (u9 J a2 aa false)
def td (a0:ahL) (J:bl) (a2:Int) (aa:bD) (x1:Bool):ahy:=
 cond x1 (some 4) (cond (aa.Kind==1) (cond ((decide (2<(aa.ck.length:Int)))||((decide (0<(aa.ck.length:Int)))&&(aa.Name==([116,97,117]:aht)))) (some 5) (tc J a2 aa)) (cond (aa.Kind==3) (cond ((aa.ck.length:Int) !=1) (some 5) (tc J a2 aa)) (cond (aa.Kind==5) ((bh a0 aa.Number).bind λcG=>cond ((aa.ck.length:Int) !=cG.cU) (some 5) (tc J a2 aa)) (tc J a2 aa))))
def A2 (a0:ahL) (J:bl) (a2:Int) (aa:bD) (x2:Bool):ahy:=
 cond x2 (some 3) (cond (aa.Kind==4) ((j1 aa.Number 1 7).bind λe9=>cond (!e9) (td a0 J a2 aa true) (cond (aa.Kind==5) ((j1 aa.Number 0 (i64.wrap ((a0.length:Int)-1))).bind λe_=>td a0 J a2 aa (!e_)) (td a0 J a2 aa false))) (cond (aa.Kind==5) ((j1 aa.Number 0 (i64.wrap ((a0.length:Int)-1))).bind λdV=>td a0 J a2 aa (!dV)) (td a0 J a2 aa false)))
def x3 (a0:ahL) (J:bl) (a2:Int):ahy:=
 (bh J.Body a2).bind λaa=>(FD aa).bind λag=>cond (!ag) (some 2) (cond (aa.Kind==1) ((u2 aa.Name).bind λeZ=>A2 a0 J a2 aa (!eZ)) (A2 a0 J a2 aa false))
def A3 (ft:Int->Option (Int×Int)) (a0:ahL) (J:bl) (nf:Int):Option (Int×Int):=
 cond (decide (nf<(J.Body.length:Int))) ((x3 a0 J nf).bind λag=>cond (decide (0<ag)) (some (nf,ag)) (ft (i64.wrap (nf+1)))) (some (0,0))
def te (a0:ahL) (J:bl):Nat->Int->Option (Int×Int)
 |0,_=>none
 |n+1,nf=>A3 (te a0 J n) a0 J nf
def tf (a0:ahL) (J:bl):Option (Int×Int):=
 (AX J.Body).bind λaa=>cond (!aa) (some (0,1)) (ca λn=>te a0 J n 0)
def FJ (ft:Int->ahx) (FK:Int->Int->ahx) (a0:ahL) (nS pC:Int):ahx:=
 cond (decide (pC<nS)) ((bh a0 pC).bind λa6=>(bh a0 nS).bind λba=>cond (a6.Name==ba.Name) (some false) (FK nS (i64.wrap (pC+1)))) (ft (i64.wrap (nS+1)))
def u_ (ft:Int->ahx) (a0:ahL):Nat->Int->Int->ahx
 |0,_,_=>none
 |n+1,nS,pC=>FJ ft (u_ ft a0 n) a0 nS pC
def FL (Wn:Int->ahx) (a0:ahL) (pD:Int):ahx:=
 cond (decide (pD<(a0.length:Int))) ((bh a0 pD).bind λbP=>(tf a0 bP).bind λcG=>cond (decide (0<cG.2)) (some false) (Wn (i64.wrap (pD+1)))) (some true)
def tg (a0:ahL):Nat->Int->ahx
 |0,_=>none
 |n+1,pD=>FL (tg a0 n) a0 pD
def FM (ft:Int->ahx) (a0:ahL) (cY:Int):ahx:=
 cond (decide (cY<(a0.length:Int))) ((bh a0 cY).bind λaa=>(u2 aa.Name).bind λag=>cond (!ag) (some false) ((j1 aa.cU 0 3).bind λaK=>cond (!aK) (some false) (ca λn=>u_ ft a0 n cY 0))) (ca λn=>tg a0 n 0)
def qv (a0:ahL):Nat->Int->ahx
 |0,_=>none
 |n+1,cY=>FM (qv a0 n) a0 cY
def A4 (a0:ahL):ahx:=
 cond (((a0.length:Int)==0)||(decide (4<(a0.length:Int)))) (some false) (ca λn=>qv a0 n 0)
def FN (cZ:Int->ahx) (a0:ahv) (j2:Int):ahx:=
 cond (decide (j2<(a0.length:Int))) ((bh a0 j2).bind λaa=>(j1 aa 0 63).bind λag=>cond (!ag) (some false) (cZ (i64.wrap (j2+1)))) (some true)
def va (a0:ahv):Nat->Int->ahx
 |0,_=>none
 |n+1,j2=>FN (va a0 n) a0 j2
def x4 (a0:ahv):ahx:=
 ca λn=>va a0 n 0
def FO (ft:Int->ahx) (a0:dH) (cY:Int):ahx:=
 cond (decide (cY<(a0.cw.length:Int))) ((bh a0.cw cY).bind λaa=>(j1 aa.dd 0 (i64.wrap ((a0.br.length:Int)-1))).bind λag=>cond (!ag) (some false) ((bh a0.br aa.dd).bind λaK=>cond ((aa.b5.length:Int) !=aK.cU) (some false) ((x4 aa.b5).bind λa6=>cond (!a6) (some false) (ft (i64.wrap (cY+1)))))) (some true)
def vb (a0:dH):Nat->Int->ahx
 |0,_=>none
 |n+1,cY=>FO (vb a0 n) a0 cY
def A5 (a0:dH):ahx:=
 cond (((a0.cw.length:Int)==0)||(decide (3<(a0.cw.length:Int)))) (some false) (ca λn=>vb a0 n 0)
def th (a0:aht):ahx:=
 (u2 a0).bind λaa=>some (aa&&(!(a0==([116,97,117]:aht))))
def FP (ft:Int->ahx) (Wo:Int->Int->ahx) (a0:ahN) (aa:cp) (k1 lv:Int):ahx:=
 cond (decide (lv<(a0.length:Int))) ((bh a0 lv).bind λcG=>cond ((cG.Left==aa.Result)||(cG.b0==aa.Result)) (some false) (Wo k1 (i64.wrap (lv+1)))) (ft (i64.wrap (k1+1)))
def qw (ft:Int->ahx) (a0:ahN) (aa:cp):Nat->Int->Int->ahx
 |0,_,_=>none
 |n+1,k1,lv=>FP ft (qw ft a0 aa n) a0 aa k1 lv
def FQ (ft:Int->ahx) (a0:ahN) (cY:Int):ahx:=
 cond (decide (cY<(a0.length:Int))) ((bh a0 cY).bind λaa=>(th aa.Left).bind λag=>cond (!ag) (some false) ((th aa.b0).bind λaK=>cond (!aK) (some false) ((th aa.Result).bind λa6=>cond ((!a6)||(!(Op.bytesLess aa.Left aa.b0||aa.Left==aa.b0))) (some false) (cond (decide (0<cY)) ((bh a0 (i64.wrap (cY-1))).bind λba=>cond ((!(Op.bytesLess ba.Left aa.Left||ba.Left==aa.Left))||((ba.Left==aa.Left)&&(!(Op.bytesLess ba.b0 aa.b0)))) (some false) (ca λn=>qw ft a0 aa n cY 0)) (ca λn=>qw ft a0 aa n cY 0))))) (some true)
def oF (a0:ahN):Nat->Int->ahx
 |0,_=>none
 |n+1,cY=>FQ (oF a0 n) a0 cY
def A6 (a0:ahN):ahx:=
 cond (decide (6<(a0.length:Int))) (some false) (ca λn=>oF a0 n 0)
def FR (cZ:Int->ahx) (a0:nq) (j2:Int):ahx:=
 cond (decide (j2<(a0.length:Int))) ((bh a0 j2).bind λaa=>(th aa).bind λag=>cond (!ag) (some false) (cZ (i64.wrap (j2+1)))) (some true)
def vc (a0:nq):Nat->Int->ahx
 |0,_=>none
 |n+1,j2=>FR (vc a0 n) a0 j2
def A7 (a0:nq):ahx:=
 ca λn=>vc a0 n 0
def A8 (ft:Int->ahx) (a0:nq) (cY:Int):ahx:=
 cond (decide (cY<(a0.length:Int))) ((bh a0 (i64.wrap (cY-1))).bind λag=>(bh a0 cY).bind λaK=>cond (!(Op.bytesLess ag aK)) (some false) (ft (i64.wrap (cY+1)))) (some true)
def nT (a0:nq):Nat->Int->ahx
 |0,_=>none
 |n+1,cY=>A8 (nT a0 n) a0 cY
def x5 (a0:nq):ahx:=
 cond (decide (12<(a0.length:Int))) (some false) ((A7 a0).bind λaa=>cond (!aa) (some false) (ca λn=>nT a0 n 1))
def A9 (a0:dH):ahy:=
 (A4 a0.br).bind λaa=>cond (!aa) (some 1) ((A5 a0).bind λag=>cond (!ag) (some 2) ((A6 a0.gP).bind λaK=>cond (!aK) (some 3) ((x5 a0.gF).bind λa6=>cond (!a6) (some 4) ((x5 a0.gG).bind λba=>cond (!ba) (some 5) (some 0)))))
def A_ (a0:dH):ahx:=
 (A9 a0).bind λaa=>some (aa==0)
def Ba (mT:nq->Int->Int->Option nq) (a0:aht) (J:UInt8) (kk:nq) (kJ ju:Int):Option nq:=
 mT kk kJ (i64.wrap (ju+1))
def FT (mT:nq->Int->Int->Option nq) (a0:aht) (J:UInt8) (lx:nq) (pE k2:Int):Option nq:=
 cond (decide (k2<(a0.length:Int))) ((bh a0 k2).bind λaa=>cond ((aa.toNat:Int)==(J.toNat:Int)) ((gR a0 pE k2).bind λag=>(room 16 (lx.length+1)).bind λ_=>Ba mT a0 J (lx++[ag]) (i64.wrap (k2+1)) k2) (Ba mT a0 J lx pE k2)) ((gR a0 pE (a0.length:Int)).bind λaK=>(room 16 (lx.length+1)).bind λ_=>some (lx++[aK]))
def ti (a0:aht) (J:UInt8):Nat->nq->Int->Int->Option nq
 |0,_,_,_=>none
 |n+1,lx,pE,k2=>FT (ti a0 J n) a0 J lx pE k2
def vd (a0:aht) (J:UInt8):Option nq:=
 ca λn=>ti a0 J n [] 0 0
def x6 (oG:Int):Option (Int×Bool):=
 some (oG,true)
def FU (Wp:Int->Int->Option (Int×Bool)) (a0:aht) (jJ kK mh:Int):Option (Int×Bool):=
 cond (decide (mh<(a0.length:Int))) ((bh a0 mh).bind λa6=>(u1 a6).bind λba=>cond (!ba) (some (0,false)) (Wp (i64.wrap ((i64.wrap (10*kK))+(i64.wrap (u8.wrap ((a6.toNat:Int)-48))))) (i64.wrap (mh+1)))) (cond (jJ==1) (x6 (i64.wrap (0-kK))) (x6 kK))
def qx (a0:aht) (jJ:Int):Nat->Int->Int->Option (Int×Bool)
 |0,_,_=>none
 |n+1,kK,mh=>FU (qx a0 jJ n) a0 jJ kK mh
def ve (a0:aht) (jJ:Int):Option (Int×Bool):=
 cond ((a0.length:Int)==jJ) (some (0,false)) (cond (decide (18<(i64.wrap ((a0.length:Int)-jJ)))) (some (0,false)) ((bh a0 jJ).bind λaa=>cond ((aa.toNat:Int)==48) (cond (decide (1<(a0.length:Int))) (some (0,false)) (ca λn=>qx a0 jJ n 0 jJ)) (ca λn=>qx a0 jJ n 0 jJ)))
def x7 (a0:aht):Option (Int×Bool):=
 cond (decide (0<(a0.length:Int))) ((bh a0 0).bind λbP=>cond ((bP.toNat:Int)==45) (ve a0 1) (ve a0 0)) (ve a0 0)
def FV (FW:ahv->Int->Option (ahv×Bool)) (aa:nq) (kk:ahv) (kJ:Int):Option (ahv×Bool):=
 cond (decide (kJ<(aa.length:Int))) ((bh aa kJ).bind λag=>(x7 ag).bind λaK=>cond (!aK.2) (some ([],false)) ((j1 aK.1 (-1000000000000) 1000000000000).bind λa6=>cond (!a6) (some ([],false)) ((room 8 (kk.length+1)).bind λ_=>FW (kk++[aK.1]) (i64.wrap (kJ+1))))) (some (kk,true))
def tj (aa:nq):Nat->ahv->Int->Option (ahv×Bool)
 |0,_,_=>none
 |n+1,kk,kJ=>FV (tj aa n) aa kk kJ
def Bb (a0:aht):Option (ahv×Bool):=
 cond (a0==([45]:aht)) (some ([],true)) ((vd a0 (44:UInt8)).bind λaa=>cond (decide (64<(aa.length:Int))) (some ([],false)) (ca λn=>tj aa n [] 0))
def rM (a0:ahL) (J:bY):ahx:=
 (j1 J.dd 0 (i64.wrap ((a0.length:Int)-1))).bind λaa=>cond (!aa) (some false) ((bh a0 J.dd).bind λag=>(j1 J.Part 0 (i64.wrap ((ag.Body.length:Int)-1))).bind λaK=>cond (!aK) (some false) ((bh ag.Body J.Part).bind λa6=>cond (a6.Kind==5) (some false) ((rL ag J.Part).bind λba=>cond ((J.b5.length:Int)==ba) ((x4 J.b5).bind λbP=>some bP) (some false))))
def Bc (Bd:Int->Int->Option (bY×Bool)) (a0:dH) (aa:nq) (vf vg:Int):Option (bY×Bool):=
 Bd vf (i64.wrap (vg+1))
def FX (Bd:Int->Int->Option (bY×Bool)) (a0:dH) (aa:nq) (ly mI:Int):Option (bY×Bool):=
 cond (decide (mI<(a0.br.length:Int))) ((bh a0.br mI).bind λag=>(bh aa 0).bind λaK=>cond (ag.Name==aK) (Bc Bd a0 aa mI mI) (Bc Bd a0 aa ly mI)) ((bh aa 1).bind λa6=>(x7 a6).bind λba=>(bh aa 2).bind λbP=>(Bb bP).bind λcG=>cond ba.2 (cond cG.2 ((rM a0.br (bY.mk ly ba.1 cG.1)).bind λe9=>some ((bY.mk ly ba.1 cG.1),e9)) (some ((bY.mk ly ba.1 cG.1),false))) (some ((bY.mk ly ba.1 cG.1),false)))
def rN (a0:dH) (aa:nq):Nat->Int->Int->Option (bY×Bool)
 |0,_,_=>none
 |n+1,ly,mI=>FX (rN a0 aa n) a0 aa ly mI
def Be (a0:dH) (J:aht):Option (bY×Bool):=
 (vd J (58:UInt8)).bind λaa=>cond ((aa.length:Int) !=3) (some ((bY.mk 0 0 []),false)) (ca λn=>rN a0 aa n (-1) 0)
def FY (FW:ahO->Int->Option (ahO×Bool)) (a0:dH) (ag:nq) (ju:ahO) (ng:Int):Option (ahO×Bool):=
 cond (decide (ng<(ag.length:Int))) ((bh ag ng).bind λaK=>(Be a0 aK).bind λa6=>cond (!a6.2) (some ([],false)) ((room 40 (ju.length+1)).bind λ_=>FW (ju++[a6.1]) (i64.wrap (ng+1)))) (some (ju,true))
def rO (a0:dH) (ag:nq):Nat->ahO->Int->Option (ahO×Bool)
 |0,_,_=>none
 |n+1,ju,ng=>FY (rO a0 ag n) a0 ag ju ng
def Bf (a0:dH) (J:aht):Option (ahO×Bool):=
 (A_ a0).bind λaa=>cond (!aa) (some ([],false)) ((vd J (32:UInt8)).bind λag=>cond ((ag.length:Int) !=(a0.cw.length:Int)) (some ([],false)) (ca λn=>rO a0 ag n [] 0))
def iw (a0 J a2:Int):ahx:=
 some ((decide (J<=a0))&&(decide (a0<=a2)))
def FZ (a0:bl):ahx:=
 (iw a0.cU 0 3).bind λaa=>some (!aa)
def F1 (cZ:Int->ahy) (a0:ahL) (cx:Int):ahy:=
 cond (decide (cx<(a0.length:Int))) ((bh a0 cx).bind λaa=>(FZ aa).bind λag=>cond ag (some cx) (cZ (i64.wrap (cx+1)))) (some (-1))
def x8 (a0:ahL):Nat->Int->ahy
 |0,_=>none
 |n+1,cx=>F1 (x8 a0 n) a0 cx
def F2 (a0:ahL):ahy:=
 ca λn=>x8 a0 n 0
def F3 (a0:ahL):ahx:=
 (F2 a0).bind λaa=>some (decide (0<=aa))
def Bg (a0:ahL):ahx:=
 (F3 a0).bind λaa=>some (!aa)
def F4 (a0:UInt8):ahx:=
 some ((decide (48<=(a0.toNat:Int)))&&(decide ((a0.toNat:Int)<=57)))
def Bh (cZ:Int->ahx) (a0:aht) (eS:Int):ahx:=
 cond (decide (eS<(a0.length:Int))) ((bh a0 eS).bind λaa=>cond (!((decide (97<=(aa.toNat:Int)))&&(decide ((aa.toNat:Int)<=122)))) (cond (eS==0) (some false) ((F4 aa).bind λag=>cond (!ag) (some false) (cZ (i64.wrap (eS+1))))) (cZ (i64.wrap (eS+1)))) (some ((decide (1<=(a0.length:Int)))&&(decide ((a0.length:Int)<=10))))
def rP (a0:aht):Nat->Int->ahx
 |0,_=>none
 |n+1,eS=>Bh (rP a0 n) a0 eS
def x9 (a0:aht):ahx:=
 ca λn=>rP a0 n 0
def Bi (a0:bl) (J:aht):ahx:=
 some (a0.Name==J)
def x_ (cZ:Int->ahy) (a0:ahL) (J:aht) (cx:Int):ahy:=
 cond (decide (cx<(a0.length:Int))) ((bh a0 cx).bind λaa=>(Bi aa J).bind λag=>cond ag (some cx) (cZ (i64.wrap (cx+1)))) (some (-1))
def rQ (a0:ahL) (J:aht):Nat->Int->ahy
 |0,_=>none
 |n+1,cx=>x_ (rQ a0 J n) a0 J cx
def Bj (a0:ahL) (J:aht):ahy:=
 ca λn=>rQ a0 J n 0
def tk (a0:ahL) (J:aht):ahy:=
 (Bj a0 J).bind λaa=>some aa
def ya (a0:bD) (dC:Bool):ahy:=
 cond dC (some 1) (cond (a0.Kind==2) (some 2) (some 0))
def yb (a0:bD):ahy:=
 cond (a0.Kind==1) (ya a0 true) (cond (a0.Kind==3) (ya a0 true) (ya a0 (a0.Kind==4)))
def F5 (cZ:Int->Int->ahy) (a0:bl) (aQ aJ:Int):ahy:=
 cond (decide (0<aJ)) (cond (decide ((a0.Body.length:Int)<=aQ)) (some (-1)) ((bh a0.Body aQ).bind λaa=>(yb aa).bind λag=>cZ (i64.wrap (aQ+1)) (i64.wrap (aJ+(i64.wrap (ag-1)))))) (some aQ)
def vh (a0:bl):Nat->Int->Int->ahy
 |0,_,_=>none
 |n+1,aQ,aJ=>F5 (vh a0 n) a0 aQ aJ
def Bk (a0:bl) (J:Int):ahy:=
 ca λn=>vh a0 n J 1
def F6 (mJ:Int->cM->ahP->bl->Option (Int×ahP)) (Wq:ahP->Int->Int->Option (Int×ahP)) (a3:bl) (lz:Int) (ag:bD) (aK:Int) (qy:ahP) (oH pF:Int):Option (Int×ahP):=
 cond (decide (pF<aK)) ((mJ oH (cM.mk lz (ag.Kind==1)) qy a3).bind λa6=>Wq a6.2 a6.1 (i64.wrap (pF+1))) (some (oH,qy))
def tl (mJ:Int->cM->ahP->bl->Option (Int×ahP)) (a3:bl) (lz:Int) (ag:bD) (aK:Int):Nat->ahP->Int->Int->Option (Int×ahP)
 |0,_,_,_=>none
 |n+1,qy,oH,pF=>F6 mJ (tl mJ a3 lz ag aK n) a3 lz ag aK qy oH pF
def Bl (mJ:Int->cM->ahP->bl->Option (Int×ahP)) (a0:Int) (J:cM) (a2:ahP) (a3:bl) (ag:bD) (lz:Int):Option (Int×ahP):=
 (yb ag).bind λaK=>ca λn=>tl mJ a3 lz ag aK n (List.set a2 (Int.toNat a0) J) (i64.wrap (a0+1)) 0
def F7 (mJ:Int->cM->ahP->bl->Option (Int×ahP)) (a0:Int) (J:cM) (a2:ahP) (a3:bl):Option (Int×ahP):=
 (bh a2 a0).bind λaa=>(bh a3.Body a0).bind λag=>cond (ag.Kind==4) (Bl mJ a0 J a2 a3 ag (i64.wrap (J.scope+1))) (Bl mJ a0 J a2 a3 ag J.scope)
def tm:Nat->Int->cM->ahP->bl->Option (Int×ahP)
 |0,_,_,_,_=>none
 |n+1,a0,J,a2,a3=>F7 (tm n) a0 J a2 a3
def Bm (a0:Int) (J:cM) (a2:ahP) (a3:bl):Option (Int×ahP):=
 ca λn=>tm n a0 J a2 a3
def vi (a0:bl):Option ahP:=
 (la 16 (a0.Body.length:Int)).bind λ_=>(Bm 0 (cM.mk a0.cU false) (replicate (Int.toNat (a0.Body.length:Int)) (cM.mk 0 false)) a0).bind λaa=>some aa.2
def F8 (a0:bD):ahx:=
 (iw a0.Kind 0 5).bind λaa=>some (((aa&&(((a0.Kind==4)||(a0.Kind==5))||(a0.Number==0)))&&((a0.Kind==1)||(a0.Name==([]:aht))))&&((((a0.Kind==1)||(a0.Kind==3))||(a0.Kind==5))||((a0.ck.length:Int)==0)))
def qz (a0:aht):ahx:=
 (x9 a0).bind λaa=>some (aa&&(!(a0==([116,97,117]:aht))))
def rR (a0 J:Int):ahx:=
 (iw a0 0 (i64.wrap (J-1))).bind λaa=>some aa
def F9 (a0:bD) (J:ahL):ahx:=
 cond (a0.Kind==1) (some (((a0.ck.length:Int)==0)||((!(a0.Name==([116,97,117]:aht)))&&(decide ((a0.ck.length:Int)<=2))))) (cond (a0.Kind==3) (some ((a0.ck.length:Int)==1)) (cond (a0.Kind==5) ((bh J a0.Number).bind λaa=>some ((a0.ck.length:Int)==aa.cU)) (some true)))
def yc (a0:Int):ahx:=
 (iw a0 0 63).bind λaa=>some aa
def Bn (a0:cj) (J:Int):ahx:=
 cond (a0.Kind==0) ((yc a0.Value).bind λaa=>some aa) (cond (a0.Kind==1) ((iw a0.Value 0 (i64.wrap (J-1))).bind λag=>some ag) (cond (a0.Kind==2) ((iw a0.Value 0 8).bind λaK=>some aK) (cond (a0.Kind==3) (some (a0.Value==0)) (some false))))
def F_ (a0:cj):ahy:=
 cond (a0.Kind==2) (some 2) (cond (a0.Kind==3) (some 1) (some 0))
def Ga (j0:Int->Int->ahx) (a0:ahJ) (J hY pG:Int):ahx:=
 cond (decide (pG<(a0.length:Int))) ((bh a0 pG).bind λa6=>cond (hY==0) (some false) ((Bn a6 J).bind λba=>cond (!ba) (some false) ((F_ a6).bind λbP=>j0 (i64.wrap (hY+(i64.wrap (bP-1)))) (i64.wrap (pG+1))))) (some (hY==0))
def vj (a0:ahJ) (J:Int):Nat->Int->Int->ahx
 |0,_,_=>none
 |n+1,hY,pG=>Ga (vj a0 J n) a0 J hY pG
def Bo (a0:ahJ) (J a2:Int):ahx:=
 (iw J 0 29).bind λaa=>cond (!aa) (some false) ((iw a2 1 60).bind λag=>cond (!ag) (some false) ((iw (a0.length:Int) 1 a2).bind λaK=>cond (!aK) (some false) (ca λn=>vj a0 J n 1 0)))
def Gb (a0:ahJ) (J:cM):ahx:=
 (Bo a0 J.scope 15).bind λaa=>some (!aa)
def Gc (cZ:Int->ahy) (a0:ahD) (J:cM) (cx:Int):ahy:=
 cond (decide (cx<(a0.length:Int))) ((bh a0 cx).bind λaa=>(Gb aa J).bind λag=>cond ag (some cx) (cZ (i64.wrap (cx+1)))) (some (-1))
def yd (a0:ahD) (J:cM):Nat->Int->ahy
 |0,_=>none
 |n+1,cx=>Gc (yd a0 J n) a0 J cx
def Gd (a0:ahD) (J:cM):ahy:=
 ca λn=>yd a0 J n 0
def Bp (a0:ahD) (J:cM):ahx:=
 (Gd a0 J).bind λaa=>some (decide (0<=aa))
def tn (a0:bD) (J:ahL) (a2:cM) (ye:Bool):ahy:=
 cond ye (some 4) ((F9 a0 J).bind λag=>cond (!ag) (some 5) (cond ((a0.Kind==5)&&(!a2.behind)) (some 6) (cond ((a0.Kind==4)&&(decide (6<=a2.scope))) (some 7) ((Bp a0.ck a2).bind λaK=>cond aK (some 8) (some 0)))))
def yf (a0:bD) (J:ahL) (a2:cM) (yg:Bool):ahy:=
 cond yg (some 3) (cond (a0.Kind==4) ((iw a0.Number 1 7).bind λa6=>cond (!a6) (tn a0 J a2 true) (cond (a0.Kind==5) ((rR a0.Number (J.length:Int)).bind λba=>tn a0 J a2 (!ba)) (tn a0 J a2 false))) (cond (a0.Kind==5) ((rR a0.Number (J.length:Int)).bind λbP=>tn a0 J a2 (!bP)) (tn a0 J a2 false)))
def yh (a0:bD) (J:ahL) (a2:cM):ahy:=
 (F8 a0).bind λaa=>cond (!aa) (some 2) (cond (a0.Kind==1) (cond (!(a0.Name==([116,97,117]:aht))) ((qz a0.Name).bind λcG=>yf a0 J a2 (!cG)) (yf a0 J a2 false)) (yf a0 J a2 false))
def Bq (j0:Int->Option (Int×Int)) (a0:ahL) (J:bl) (aK:ahP) (nh:Int):Option (Int×Int):=
 cond (decide (nh<(J.Body.length:Int))) ((bh J.Body nh).bind λa6=>(bh aK nh).bind λba=>(yh a6 a0 ba).bind λbP=>cond (bP !=0) (some (nh,bP)) (j0 (i64.wrap (nh+1)))) (some (0,0))
def tp (a0:ahL) (J:bl) (aK:ahP):Nat->Int->Option (Int×Int)
 |0,_=>none
 |n+1,nh=>Bq (tp a0 J aK n) a0 J aK nh
def yi (a0:ahL) (J:bl):Option (Int×Int):=
 (iw (J.Body.length:Int) 1 20).bind λaa=>cond (!aa) (some (0,1)) ((Bk J 0).bind λag=>cond (ag !=(J.Body.length:Int)) (some (0,1)) ((vi J).bind λaK=>ca λn=>tp a0 J aK n 0))
def Ge (ft:Int->ahx) (a0:ahL) (nU:Int):ahx:=
 cond (decide (nU<(a0.length:Int))) ((bh a0 nU).bind λaK=>(x9 aK.Name).bind λa6=>cond (!a6) (some false) ((gR a0 0 nU).bind λba=>(tk ba aK.Name).bind λbP=>cond (decide (0<=bP)) (some false) ((yi a0 aK).bind λcG=>cond (cG.2 !=0) (some false) (ft (i64.wrap (nU+1)))))) (some true)
def vk (a0:ahL):Nat->Int->ahx
 |0,_=>none
 |n+1,nU=>Ge (vk a0 n) a0 nU
def Br (a0:ahL):ahx:=
 (iw (a0.length:Int) 1 4).bind λaa=>cond (!aa) (some false) ((Bg a0).bind λag=>cond (!ag) (some false) (ca λn=>vk a0 n 0))
def Gf (a0:Int):ahx:=
 (yc a0).bind λaa=>some (!aa)
def Gg (cZ:Int->ahy) (a0:ahv) (cx:Int):ahy:=
 cond (decide (cx<(a0.length:Int))) ((bh a0 cx).bind λaa=>(Gf aa).bind λag=>cond ag (some cx) (cZ (i64.wrap (cx+1)))) (some (-1))
def yj (a0:ahv):Nat->Int->ahy
 |0,_=>none
 |n+1,cx=>Gg (yj a0 n) a0 cx
def Gh (a0:ahv):ahy:=
 ca λn=>yj a0 n 0
def Gi (a0:ahv):ahx:=
 (Gh a0).bind λaa=>some (decide (0<=aa))
def yk (a0:ahv):ahx:=
 (Gi a0).bind λaa=>some (!aa)
def Bs (a0:ahL) (J:dG):ahx:=
 (rR J.dd (a0.length:Int)).bind λaa=>cond aa ((bh a0 J.dd).bind λag=>cond ((J.b5.length:Int)==ag.cU) ((yk J.b5).bind λaK=>some aK) (some false)) (some false)
def Gj (a0:dG) (J:dH):ahx:=
 (Bs J.br a0).bind λaa=>some (!aa)
def Gk (cZ:Int->ahy) (a0:ahM) (J:dH) (cx:Int):ahy:=
 cond (decide (cx<(a0.length:Int))) ((bh a0 cx).bind λaa=>(Gj aa J).bind λag=>cond ag (some cx) (cZ (i64.wrap (cx+1)))) (some (-1))
def yl (a0:ahM) (J:dH):Nat->Int->ahy
 |0,_=>none
 |n+1,cx=>Gk (yl a0 J n) a0 J cx
def Gl (a0:ahM) (J:dH):ahy:=
 ca λn=>yl a0 J n 0
def Bt (a0:ahM) (J:dH):ahx:=
 (Gl a0 J).bind λaa=>some (decide (0<=aa))
def cmp_isNaN_string (a0:aht):ahx:=
 some false
def Bu (a0 J:aht):ahy:=
 (cmp_isNaN_string a0).bind λaa=>(cmp_isNaN_string J).bind λag=>cond aa (cond ag (some 0) (some (-1))) (cond ag (some 1) (cond (Op.bytesLess a0 J) (some (-1)) (cond (!(Op.bytesLess a0 J||a0==J)) (some 1) (some 0))))
def M4 (cZ:Int->ahy) (a0 J:nq) (nV:Int):ahy:=
 cond (decide (nV<(a0.length:Int))) ((bh a0 nV).bind λaa=>cond (decide ((J.length:Int)<=nV)) (some 1) ((bh J nV).bind λag=>(Bu aa ag).bind λaK=>cond (aK !=0) (some aK) (cZ (i64.wrap (nV+1))))) (cond (decide ((a0.length:Int)<(J.length:Int))) (some (-1)) (some 0))
def Bv (a0 J:nq):Nat->Int->ahy
 |0,_=>none
 |n+1,nV=>M4 (Bv a0 J n) a0 J nV
def Bw (a0 J:nq):ahy:=
 ca λn=>Bv a0 J n 0
def Bx (a0 J:cp):ahy:=
 (Bw [a0.Left,a0.b0] [J.Left,J.b0]).bind λaa=>some aa
def Gm (a0 J:cp):ahx:=
 some ((a0.Left==J.Result)||(a0.b0==J.Result))
def Gn (cZ:Int->ahy) (a0:ahN) (J:cp) (cx:Int):ahy:=
 cond (decide (cx<(a0.length:Int))) ((bh a0 cx).bind λaa=>(Gm aa J).bind λag=>cond ag (some cx) (cZ (i64.wrap (cx+1)))) (some (-1))
def ym (a0:ahN) (J:cp):Nat->Int->ahy
 |0,_=>none
 |n+1,cx=>Gn (ym a0 J n) a0 J cx
def Gp (a0:ahN) (J:cp):ahy:=
 ca λn=>ym a0 J n 0
def yn (a0:ahN) (J:cp):ahx:=
 (Gp a0 J).bind λaa=>some (decide (0<=aa))
def Gq (cZ:Int->ahx) (a0:ahN) (eS:Int):ahx:=
 cond (decide (eS<(a0.length:Int))) ((bh a0 eS).bind λaa=>(qz aa.Left).bind λba=>cond (!ba) (some false) ((qz aa.b0).bind λbP=>cond (!bP) (some false) ((qz aa.Result).bind λcG=>cond (!cG) (some false) (cond (!(Op.bytesLess aa.Left aa.b0||aa.Left==aa.b0)) (some false) (cond (decide (0<eS)) ((bh a0 (i64.wrap (eS-1))).bind λe9=>(Bx e9 aa).bind λe_=>cond (decide (0<=e_)) (some false) ((yn a0 aa).bind λdV=>cond dV (some false) (cZ (i64.wrap (eS+1))))) ((yn a0 aa).bind λeZ=>cond eZ (some false) (cZ (i64.wrap (eS+1))))))))) (some (decide ((a0.length:Int)<=6)))
def vl (a0:ahN):Nat->Int->ahx
 |0,_=>none
 |n+1,eS=>Gq (vl a0 n) a0 eS
def Bz (a0:ahN):ahx:=
 ca λn=>vl a0 n 0
def Gr (cZ:Int->ahx) (a0:nq) (eS:Int):ahx:=
 cond (decide (eS<(a0.length:Int))) ((bh a0 eS).bind λaa=>(qz aa).bind λag=>cond (!ag) (some false) (cond (decide (0<eS)) ((bh a0 (i64.wrap (eS-1))).bind λaK=>cond (Op.bytesLess aa aK||aa==aK) (some false) (cZ (i64.wrap (eS+1)))) (cZ (i64.wrap (eS+1))))) (some (decide ((a0.length:Int)<=12)))
def vm (a0:nq):Nat->Int->ahx
 |0,_=>none
 |n+1,eS=>Gr (vm a0 n) a0 eS
def yo (a0:nq):ahx:=
 ca λn=>vm a0 n 0
def BA (a0:dH):ahy:=
 (Br a0.br).bind λaa=>cond (!aa) (some 1) ((iw (a0.cw.length:Int) 1 3).bind λag=>cond (!ag) (some 2) ((Bt a0.cw a0).bind λaK=>cond aK (some 2) ((Bz a0.gP).bind λa6=>cond (!a6) (some 3) ((yo a0.gF).bind λba=>cond (!ba) (some 4) ((yo a0.gG).bind λbP=>cond (!bP) (some 5) (some 0))))))
def yp (a0:dH):ahx:=
 (BA a0).bind λaa=>some (aa==0)
def k3:aht->aht->nq
 |c,[]=>if c=[]then []else [c]
 |c,b::t=>if b=32 then(if c=[]then k3 [] t else c::k3 [] t)else k3 (c++[b]) t
def strings_FieldsFunc (a0:aht):Option nq:=if a0.length<=4294967296 then some (k3 [] a0)else none
def BB (a0:aht):Option nq:=
 (strings_FieldsFunc a0).bind λaa=>some aa
def Gs (a0:aht) (J:UInt8):ahy:=some (a0.count J:Nat)
def qA:aht->UInt8->Int
 |[],_=> -1
 |b::l,c=>if b==c then 0 else if qA l c== -1 then-1 else qA l c+1
def Gt (a0:aht) (J:UInt8):ahy:=some (qA a0 J)
def Gu (a0:aht) (J:UInt8):ahy:=
 (Gt a0 J).bind λaa=>some aa
def tq (a0 J:aht):ahy:=
 cond (((J.length:Int)==0)||(J==a0)) (some 0) (cond ((J.length:Int)==1) ((bh J 0).bind λaa=>(Gu a0 aa).bind λag=>some ag) (cond (decide ((a0.length:Int)<=(J.length:Int))) (some (-1)) (none)))
def yq (a0 J:aht):ahy:=
 (tq a0 J).bind λaa=>some aa
def Wr (Ws:aht->Int->ahy) (J pH:aht) (pI:Int):ahy:=
 (yq pH J).bind λaK=>cond (aK==(-1)) (some pI) ((gR pH (i64.wrap (aK+(J.length:Int))) (pH.length:Int)).bind λa6=>Ws a6 (i64.wrap (pI+1)))
def Gv (J:aht):Nat->aht->Int->ahy
 |0,_,_=>none
 |n+1,pH,pI=>Wr (Gv J n) J pH pI
def Gw (a0 J:aht):ahy:=
 cond ((J.length:Int)==0) (none) (cond ((J.length:Int)==1) ((bh J 0).bind λaa=>(Gs a0 aa).bind λag=>some ag) (ca λn=>Gv J n a0 0))
def yr (a0 J:aht) (a2 hZ:Int) (vn:aht) (tr:nq) (qB:Int):Option nq:=
 (bh tr qB).bind λaa=>(gR (List.set tr (Int.toNat qB) vn) 0 (i64.wrap (qB+1))).bind λag=>some ag
def Gx (FK:aht->nq->Int->Option nq) (a0 J:aht) (a2 hZ:Int) (lY:aht) (k4:nq) (jc:Int):Option nq:=
 cond (decide (jc<(i64.wrap ((iy false hZ (i64.wrap ((a0.length:Int)+1)))-1)))) ((yq lY J).bind λaK=>cond (decide (aK<0)) (yr a0 J a2 hZ lY k4 jc) ((gR lY 0 (i64.wrap (aK+a2))).bind λa6=>(bh k4 jc).bind λba=>(gR lY (i64.wrap (aK+(J.length:Int))) (lY.length:Int)).bind λbP=>FK bP (List.set k4 (Int.toNat jc) a6) (i64.wrap (jc+1)))) (yr a0 J a2 hZ lY k4 jc)
def ts (a0 J:aht) (a2 hZ:Int):Nat->aht->nq->Int->Option nq
 |0,_,_,_=>none
 |n+1,lY,k4,jc=>Gx (ts a0 J a2 hZ n) a0 J a2 hZ lY k4 jc
def BC (a0 J:aht) (a2 hZ:Int):Option nq:=
 (la 16 (iy false hZ (i64.wrap ((a0.length:Int)+1)))).bind λ_=>ca λn=>ts a0 J a2 hZ n a0 (replicate (Int.toNat (iy false hZ (i64.wrap ((a0.length:Int)+1)))) ([]:aht)) 0
def Gy (a0 J:aht) (a2 a3:Int):Option nq:=
 cond (a3==0) (some []) (cond (J==([]:aht)) (none) (cond (decide (a3<0)) ((Gw a0 J).bind λcG=>BC a0 J a2 (i64.wrap (cG+1))) (BC a0 J a2 a3)))
def ys (a0 J:aht):Option nq:=
 (Gy a0 J 0 (-1)).bind λaa=>some aa
def fa (c:UInt8):Bool:=decide (48<=c.toNat)&&decide (c.toNat<=57)
def ic (d:aht):Nat:=d.foldl (λn c=>10*n+(c.toNat-48)) 0
def lZ (k:Nat) (d:aht):Int×Bool:=if d≠[]/\d.length<=18/\d.all fa=true/\¬(d.head? =some 48/\1<d.length+k)then(if k=1 then-(ic d:Int)else ic d,true)else(0,false)
def fi (s:aht):Int×Bool:=if s.head? =some 45 then lZ 1 s.tail else lZ 0 s
def vo (a0:aht):Option (Int×Bool):=some (fi a0)
def Gz (fF:ahv->Int->Option (ahv×Bool)) (a0:nq) (bz:ahv) (nW:Int):Option (ahv×Bool):=
 cond (decide (nW<(a0.length:Int))) ((bh a0 nW).bind λaa=>(vo aa).bind λag=>cond (!ag.2) (some ([],false)) ((room 8 (bz.length+1)).bind λ_=>fF (bz++[ag.1]) (i64.wrap (nW+1)))) (some (bz,true))
def vp (a0:nq):Nat->ahv->Int->Option (ahv×Bool)
 |0,_,_=>none
 |n+1,bz,nW=>Gz (vp a0 n) a0 bz nW
def BD (a0:nq):Option (ahv×Bool):=
 ca λn=>vp a0 n [] 0
def BE (a0:Int):ahx:=
 (iw a0 (-1000000000000) 1000000000000).bind λaa=>some (!aa)
def yt (cZ:Int->ahy) (a0:ahv) (cx:Int):ahy:=
 cond (decide (cx<(a0.length:Int))) ((bh a0 cx).bind λaa=>(BE aa).bind λag=>cond ag (some cx) (cZ (i64.wrap (cx+1)))) (some (-1))
def qC (a0:ahv):Nat->Int->ahy
 |0,_=>none
 |n+1,cx=>yt (qC a0 n) a0 cx
def BF (a0:ahv):ahy:=
 ca λn=>qC a0 n 0
def BG (a0:ahv):ahx:=
 (BF a0).bind λaa=>some (decide (0<=aa))
def tt (a0:ahv):ahx:=
 cond (decide ((a0.length:Int)<=64)) ((BG a0).bind λaa=>some (!aa)) (some false)
def BH (a0:aht):Option (ahv×Bool):=
 cond (a0==([45]:aht)) (some ([],true)) ((ys a0 ([44]:aht)).bind λaa=>(BD aa).bind λag=>cond (!ag.2) (some ([],false)) ((tt ag.1).bind λaK=>cond (!aK) (some ([],false)) (some (ag.1,true))))
def yu (a0:ahL) (J:bY):ahx:=
 (rR J.dd (a0.length:Int)).bind λaa=>cond (!aa) (some false) ((bh a0 J.dd).bind λag=>(rR J.Part (ag.Body.length:Int)).bind λaK=>cond (!aK) (some false) ((bh ag.Body J.Part).bind λa6=>cond (a6.Kind !=5) ((vi ag).bind λba=>(bh ba J.Part).bind λbP=>cond ((J.b5.length:Int)==bP.scope) ((yk J.b5).bind λcG=>some cG) (some false)) (some false)))
def GA (a0:bY) (J:dH):ahx:=
 (yu J.br a0).bind λaa=>some (!aa)
def GB (cZ:Int->ahy) (a0:ahO) (J:dH) (cx:Int):ahy:=
 cond (decide (cx<(a0.length:Int))) ((bh a0 cx).bind λaa=>(GA aa J).bind λag=>cond ag (some cx) (cZ (i64.wrap (cx+1)))) (some (-1))
def yv (a0:ahO) (J:dH):Nat->Int->ahy
 |0,_=>none
 |n+1,cx=>GB (yv a0 J n) a0 J cx
def GC (a0:ahO) (J:dH):ahy:=
 ca λn=>yv a0 J n 0
def BI (a0:ahO) (J:dH):ahx:=
 (GC a0 J).bind λaa=>some (decide (0<=aa))
def GD (a0:dH) (J:ahO):ahx:=
 (yp a0).bind λag=>cond ag (cond ((J.length:Int)==(a0.cw.length:Int)) ((BI J a0).bind λaK=>some (!aK)) (some false)) (some false)
def tu (n:Nat):aht:=if h:n<10 then [UInt8.ofNat (48+n)]else tu (n/10)++[UInt8.ofNat (48+n%10)]
 termination_by n
 decreasing_by omega
def BJ (n:Int):aht:=if n<0 then 45::tu n.natAbs else tu n.toNat
def yw (a0 J:Int):Option aht:=if-9223372036854775808<=a0/\a0<=9223372036854775807/\J=10 then some (BJ a0)else none
def vq (a0:Int):Option aht:=
 (yw a0 10).bind λaa=>some aa
def strings_Join (a0:nq) (J:aht):Option aht:=if a0.length<=140737488355328/\(h8 a0 J).length<=140737488355328 then some (h8 a0 J)else none
def GF (fF:nq->Int->Option aht) (a0:ahv) (J:aht) (fR:nq) (lA:Int):Option aht:=
 cond (decide (lA<(a0.length:Int))) ((bh a0 lA).bind λaa=>(vq aa).bind λag=>(bh fR lA).bind λaK=>fF (List.set fR (Int.toNat lA) ag) (i64.wrap (lA+1))) ((strings_Join fR J).bind λa6=>some a6)
def vr (a0:ahv) (J:aht):Nat->nq->Int->Option aht
 |0,_,_=>none
 |n+1,fR,lA=>GF (vr a0 J n) a0 J fR lA
def BK (a0:ahv) (J:aht):Option aht:=
 (la 16 (a0.length:Int)).bind λ_=>ca λn=>vr a0 J n (replicate (Int.toNat (a0.length:Int)) ([]:aht)) 0
def BL (a0:ahv):Option aht:=
 (tt a0).bind λaa=>cond (!aa) (some ([]:aht)) (cond ((a0.length:Int)==0) (some ([45]:aht)) ((BK a0 ([44]:aht)).bind λag=>some ag))
def GG (a0:bY):Option aht:=
 (vq a0.Part).bind λaa=>(lH (aa.length+1)).bind λ_=>(BL a0.b5).bind λag=>(lH ((aa++([58]:aht)).length+ag.length)).bind λ_=>some ((aa++([58]:aht))++ag)
def GH (fF:nq->Int->Option aht) (a0:dH) (J:ahO) (fR:nq) (nX:Int):Option aht:=
 cond (decide (nX<(J.length:Int))) ((bh J nX).bind λaa=>(bh a0.br aa.dd).bind λag=>(lH (ag.Name.length+1)).bind λ_=>(GG aa).bind λaK=>(lH ((ag.Name++([58]:aht)).length+aK.length)).bind λ_=>(room 16 (fR.length+1)).bind λ_=>fF (fR++[((ag.Name++([58]:aht))++aK)]) (i64.wrap (nX+1))) ((strings_Join fR ([32]:aht)).bind λa6=>some a6)
def vt (a0:dH) (J:ahO):Nat->nq->Int->Option aht
 |0,_,_=>none
 |n+1,fR,nX=>GH (vt a0 J n) a0 J fR nX
def BM (a0:dH) (J:ahO):Option aht:=
 ca λn=>vt a0 J n [] 0
def yx (a0:dH) (J:ahO):Option aht:=
 (GD a0 J).bind λaa=>cond (!aa) (some ([]:aht)) ((BM a0 J).bind λag=>some ag)
def GI (j0:ahO->Int->Option (ahO×Bool)) (a0:dH) (J:aht) (ag:nq) (k5:ahO) (ni:Int):Option (ahO×Bool):=
 cond (decide (ni<(ag.length:Int))) ((bh ag ni).bind λaK=>(ys aK ([58]:aht)).bind λa6=>cond ((a6.length:Int) !=3) (some ([],false)) ((bh a6 1).bind λba=>(vo ba).bind λbP=>(bh a6 2).bind λcG=>(BH cG).bind λe9=>cond ((!bP.2)||(!e9.2)) (some ([],false)) ((bh a6 0).bind λe_=>(tk a0.br e_).bind λdV=>(room 40 (k5.length+1)).bind λ_=>j0 (k5++[(bY.mk dV bP.1 e9.1)]) (i64.wrap (ni+1))))) ((yx a0 k5).bind λeZ=>cond ((!(eZ==J))||(J==([]:aht))) (some ([],false)) (some (k5,true)))
def tv (a0:dH) (J:aht) (ag:nq):Nat->ahO->Int->Option (ahO×Bool)
 |0,_,_=>none
 |n+1,k5,ni=>GI (tv a0 J ag n) a0 J ag k5 ni
def yy (a0:dH) (J:aht):Option (ahO×Bool):=
 (yp a0).bind λaa=>cond (!aa) (some ([],false)) ((BB J).bind λag=>ca λn=>tv a0 J ag n [] 0)
def Wt (ft:Int->ahx) (a0 J:ahv) (cm:Int):ahx:=
 cond (decide (cm<(a0.length:Int))) ((bh a0 cm).bind λaa=>(bh J cm).bind λag=>cond (aa !=ag) (some false) (ft (i64.wrap (cm+1)))) (some true)
def GJ (a0 J:ahv):Nat->Int->ahx
 |0,_=>none
 |n+1,cm=>Wt (GJ a0 J n) a0 J cm
def yz (a0 J:ahv):ahx:=
 cond ((a0.length:Int) !=(J.length:Int)) (some false) (ca λn=>GJ a0 J n 0)
def yA (a0 J:bY):ahx:=
 cond (a0.dd !=J.dd) (some false) (cond (a0.Part !=J.Part) (some false) ((yz a0.b5 J.b5).bind λaa=>cond (!aa) (some false) (some true)))
def Wu (ft:Int->ahx) (a0 J:ahO) (cm:Int):ahx:=
 cond (decide (cm<(a0.length:Int))) ((bh a0 cm).bind λaa=>(bh J cm).bind λag=>(yA aa ag).bind λaK=>cond (!aK) (some false) (ft (i64.wrap (cm+1)))) (some true)
def GK (a0 J:ahO):Nat->Int->ahx
 |0,_=>none
 |n+1,cm=>Wu (GK a0 J n) a0 J cm
def vu (a0 J:ahO):ahx:=
 cond ((a0.length:Int) !=(J.length:Int)) (some false) (ca λn=>GK a0 J n 0)
def yB (a0 J:cj):ahx:=
 cond (a0.Kind !=J.Kind) (some false) (cond (a0.Value !=J.Value) (some false) (some true))
def Wv (ft:Int->ahx) (a0 J:ahJ) (cm:Int):ahx:=
 cond (decide (cm<(a0.length:Int))) ((bh a0 cm).bind λaa=>(bh J cm).bind λag=>(yB aa ag).bind λaK=>cond (!aK) (some false) (ft (i64.wrap (cm+1)))) (some true)
def GL (a0 J:ahJ):Nat->Int->ahx
 |0,_=>none
 |n+1,cm=>Wv (GL a0 J n) a0 J cm
def yC (a0 J:ahJ):ahx:=
 cond ((a0.length:Int) !=(J.length:Int)) (some false) (ca λn=>GL a0 J n 0)
def Ww (ft:Int->ahx) (a0 J:ahD) (cm:Int):ahx:=
 cond (decide (cm<(a0.length:Int))) ((bh a0 cm).bind λaa=>(bh J cm).bind λag=>(yC aa ag).bind λaK=>cond (!aK) (some false) (ft (i64.wrap (cm+1)))) (some true)
def GM (a0 J:ahD):Nat->Int->ahx
 |0,_=>none
 |n+1,cm=>Ww (GM a0 J n) a0 J cm
def BN (a0 J:ahD):ahx:=
 cond ((a0.length:Int) !=(J.length:Int)) (some false) (ca λn=>GM a0 J n 0)
def yD (a0 J:bD):ahx:=
 cond (a0.Kind !=J.Kind) (some false) (cond (a0.Number !=J.Number) (some false) (cond (!(a0.Name==J.Name)) (some false) ((BN a0.ck J.ck).bind λaa=>cond (!aa) (some false) (some true))))
def Wx (ft:Int->ahx) (a0 J:ahK) (cm:Int):ahx:=
 cond (decide (cm<(a0.length:Int))) ((bh a0 cm).bind λaa=>(bh J cm).bind λag=>(yD aa ag).bind λaK=>cond (!aK) (some false) (ft (i64.wrap (cm+1)))) (some true)
def GN (a0 J:ahK):Nat->Int->ahx
 |0,_=>none
 |n+1,cm=>Wx (GN a0 J n) a0 J cm
def BO (a0 J:ahK):ahx:=
 cond ((a0.length:Int) !=(J.length:Int)) (some false) (ca λn=>GN a0 J n 0)
def yE (a0 J:bl):ahx:=
 cond (!(a0.Name==J.Name)) (some false) (cond (a0.cU !=J.cU) (some false) ((BO a0.Body J.Body).bind λaa=>cond (!aa) (some false) (some true)))
def Wy (ft:Int->ahx) (a0 J:ahL) (cm:Int):ahx:=
 cond (decide (cm<(a0.length:Int))) ((bh a0 cm).bind λaa=>(bh J cm).bind λag=>(yE aa ag).bind λaK=>cond (!aK) (some false) (ft (i64.wrap (cm+1)))) (some true)
def GO (a0 J:ahL):Nat->Int->ahx
 |0,_=>none
 |n+1,cm=>Wy (GO a0 J n) a0 J cm
def BP (a0 J:ahL):ahx:=
 cond ((a0.length:Int) !=(J.length:Int)) (some false) (ca λn=>GO a0 J n 0)
def yF (a0 J:dG):ahx:=
 cond (a0.dd !=J.dd) (some false) ((yz a0.b5 J.b5).bind λaa=>cond (!aa) (some false) (some true))
def Wz (ft:Int->ahx) (a0 J:ahM) (cm:Int):ahx:=
 cond (decide (cm<(a0.length:Int))) ((bh a0 cm).bind λaa=>(bh J cm).bind λag=>(yF aa ag).bind λaK=>cond (!aK) (some false) (ft (i64.wrap (cm+1)))) (some true)
def GP (a0 J:ahM):Nat->Int->ahx
 |0,_=>none
 |n+1,cm=>Wz (GP a0 J n) a0 J cm
def BQ (a0 J:ahM):ahx:=
 cond ((a0.length:Int) !=(J.length:Int)) (some false) (ca λn=>GP a0 J n 0)
def yG (a0 J:cp):ahx:=
 cond (!(a0.Left==J.Left)) (some false) (cond (!(a0.b0==J.b0)) (some false) (cond (!(a0.Result==J.Result)) (some false) (some true)))
def WA (ft:Int->ahx) (a0 J:ahN) (cm:Int):ahx:=
 cond (decide (cm<(a0.length:Int))) ((bh a0 cm).bind λaa=>(bh J cm).bind λag=>(yG aa ag).bind λaK=>cond (!aK) (some false) (ft (i64.wrap (cm+1)))) (some true)
def GQ (a0 J:ahN):Nat->Int->ahx
 |0,_=>none
 |n+1,cm=>WA (GQ a0 J n) a0 J cm
def BR (a0 J:ahN):ahx:=
 cond ((a0.length:Int) !=(J.length:Int)) (some false) (ca λn=>GQ a0 J n 0)
def WB (ft:Int->ahx) (a0 J:nq) (cm:Int):ahx:=
 cond (decide (cm<(a0.length:Int))) ((bh a0 cm).bind λaa=>(bh J cm).bind λag=>cond (!(aa==ag)) (some false) (ft (i64.wrap (cm+1)))) (some true)
def GR (a0 J:nq):Nat->Int->ahx
 |0,_=>none
 |n+1,cm=>WB (GR a0 J n) a0 J cm
def yH (a0 J:nq):ahx:=
 cond ((a0.length:Int) !=(J.length:Int)) (some false) (ca λn=>GR a0 J n 0)
def yI (a0 J:dH):ahx:=
 (BP a0.br J.br).bind λaa=>cond (!aa) (some false) ((BQ a0.cw J.cw).bind λag=>cond (!ag) (some false) ((BR a0.gP J.gP).bind λaK=>cond (!aK) (some false) ((yH a0.gF J.gF).bind λa6=>cond (!a6) (some false) ((yH a0.gG J.gG).bind λba=>cond (!ba) (some false) (some true)))))
def BS (ft:Int->aht->Option aht) (lB:Int) (cY:aht):Option aht:=
 cond (decide (0<lB)) ((lH (1+cY.length)).bind λ_=>ft (i64.wrap (Int.tdiv lB 10)) ([(p5 (i64.wrap (48+(Int.tmod lB 10))))]++cY)) ((lH (1+cY.length)).bind λ_=>some (([109]:aht)++cY))
def tw:Nat->Int->aht->Option aht
 |0,_,_=>none
 |n+1,lB,cY=>BS (tw n) lB cY
def qD (a0:Int):Option aht:=
 cond (decide (a0<=0)) (some ([109,48]:aht)) (ca λn=>tw n a0 ([]:aht))
def GS (cZ:ahJ->Int->Int->Option (Int×ahJ)) (bt:ahJ) (aQ aJ:Int):Option (Int×ahJ):=
 cond (decide (aJ<(bt.length:Int))) ((bh bt aJ).bind λaa=>(bh (List.set bt (Int.toNat aJ) (cj.mk aQ aa.Value)) aJ).bind λag=>cZ (List.set (List.set bt (Int.toNat aJ) (cj.mk aQ aa.Value)) (Int.toNat aJ) (cj.mk ag.Kind (i64.wrap (aQ+1)))) (i64.wrap ((i64.wrap (aQ+1))+1)) (i64.wrap (aJ+1))) (some (aQ,bt))
def vv:Nat->ahJ->Int->Int->Option (Int×ahJ)
 |0,_,_,_=>none
 |n+1,bt,aQ,aJ=>GS (vv n) bt aQ aJ
def BT (a0:ahJ) (J:Int):Option (Int×ahJ):=
 ca λn=>vv n a0 J 0
def GU (cZ:ahD->Int->Int->Option (Int×ahD)) (bt:ahD) (aQ aJ:Int):Option (Int×ahD):=
 cond (decide (aJ<(bt.length:Int))) ((bh bt aJ).bind λaa=>(BT aa aQ).bind λag=>cZ (List.set bt (Int.toNat aJ) ag.2) ag.1 (i64.wrap (aJ+1))) (some (aQ,bt))
def vw:Nat->ahD->Int->Int->Option (Int×ahD)
 |0,_,_,_=>none
 |n+1,bt,aQ,aJ=>GU (vw n) bt aQ aJ
def BU (a0:ahD) (J:Int):Option (Int×ahD):=
 ca λn=>vw n a0 J 0
def GV (cZ:ahK->Int->Int->Option (Int×ahK)) (bt:ahK) (aQ aJ:Int):Option (Int×ahK):=
 cond (decide (aJ<(bt.length:Int))) ((bh bt aJ).bind λaa=>(bh (List.set bt (Int.toNat aJ) (bD.mk aQ aa.Number aa.Name aa.ck)) aJ).bind λag=>(qD (i64.wrap ((i64.wrap (aQ+1))+1))).bind λaK=>(bh (List.set (List.set bt (Int.toNat aJ) (bD.mk aQ aa.Number aa.Name aa.ck)) (Int.toNat aJ) (bD.mk ag.Kind (i64.wrap (aQ+1)) ag.Name ag.ck)) aJ).bind λa6=>(bh (List.set (List.set (List.set bt (Int.toNat aJ) (bD.mk aQ aa.Number aa.Name aa.ck)) (Int.toNat aJ) (bD.mk ag.Kind (i64.wrap (aQ+1)) ag.Name ag.ck)) (Int.toNat aJ) (bD.mk a6.Kind a6.Number aK a6.ck)) aJ).bind λba=>(BU ba.ck (i64.wrap ((i64.wrap ((i64.wrap (aQ+1))+1))+1))).bind λbP=>cZ (List.set (List.set (List.set (List.set bt (Int.toNat aJ) (bD.mk aQ aa.Number aa.Name aa.ck)) (Int.toNat aJ) (bD.mk ag.Kind (i64.wrap (aQ+1)) ag.Name ag.ck)) (Int.toNat aJ) (bD.mk a6.Kind a6.Number aK a6.ck)) (Int.toNat aJ) (bD.mk ba.Kind ba.Number ba.Name bP.2)) bP.1 (i64.wrap (aJ+1))) (some (aQ,bt))
def vx:Nat->ahK->Int->Int->Option (Int×ahK)
 |0,_,_,_=>none
 |n+1,bt,aQ,aJ=>GV (vx n) bt aQ aJ
def BV (a0:ahK) (J:Int):Option (Int×ahK):=
 ca λn=>vx n a0 J 0
def GW (cZ:ahL->Int->Int->Option (Int×ahL)) (bt:ahL) (aQ aJ:Int):Option (Int×ahL):=
 cond (decide (aJ<(bt.length:Int))) ((qD aQ).bind λaa=>(bh bt aJ).bind λag=>(bh (List.set bt (Int.toNat aJ) (bl.mk aa ag.cU ag.Body)) aJ).bind λaK=>(bh (List.set (List.set bt (Int.toNat aJ) (bl.mk aa ag.cU ag.Body)) (Int.toNat aJ) (bl.mk aK.Name (i64.wrap (aQ+1)) aK.Body)) aJ).bind λa6=>(BV a6.Body (i64.wrap ((i64.wrap (aQ+1))+1))).bind λba=>cZ (List.set (List.set (List.set bt (Int.toNat aJ) (bl.mk aa ag.cU ag.Body)) (Int.toNat aJ) (bl.mk aK.Name (i64.wrap (aQ+1)) aK.Body)) (Int.toNat aJ) (bl.mk a6.Name a6.cU ba.2)) ba.1 (i64.wrap (aJ+1))) (some (aQ,bt))
def vy:Nat->ahL->Int->Int->Option (Int×ahL)
 |0,_,_,_=>none
 |n+1,bt,aQ,aJ=>GW (vy n) bt aQ aJ
def BW (a0:ahL) (J:Int):Option (Int×ahL):=
 ca λn=>vy n a0 J 0
def GX (cZ:ahv->Int->Int->Option (Int×ahv)) (bt:ahv) (aQ aJ:Int):Option (Int×ahv):=
 cond (decide (aJ<(bt.length:Int))) ((bh bt aJ).bind λaa=>cZ (List.set bt (Int.toNat aJ) aQ) (i64.wrap (aQ+1)) (i64.wrap (aJ+1))) (some (aQ,bt))
def vz:Nat->ahv->Int->Int->Option (Int×ahv)
 |0,_,_,_=>none
 |n+1,bt,aQ,aJ=>GX (vz n) bt aQ aJ
def yJ (a0:ahv) (J:Int):Option (Int×ahv):=
 ca λn=>vz n a0 J 0
def GY (cZ:ahM->Int->Int->Option (Int×ahM)) (bt:ahM) (aQ aJ:Int):Option (Int×ahM):=
 cond (decide (aJ<(bt.length:Int))) ((bh bt aJ).bind λaa=>(bh (List.set bt (Int.toNat aJ) (dG.mk aQ aa.b5)) aJ).bind λag=>(yJ ag.b5 (i64.wrap (aQ+1))).bind λaK=>cZ (List.set (List.set bt (Int.toNat aJ) (dG.mk aQ aa.b5)) (Int.toNat aJ) (dG.mk ag.dd aK.2)) aK.1 (i64.wrap (aJ+1))) (some (aQ,bt))
def vA:Nat->ahM->Int->Int->Option (Int×ahM)
 |0,_,_,_=>none
 |n+1,bt,aQ,aJ=>GY (vA n) bt aQ aJ
def BX (a0:ahM) (J:Int):Option (Int×ahM):=
 ca λn=>vA n a0 J 0
def GZ (cZ:ahN->Int->Int->Option (Int×ahN)) (bt:ahN) (aQ aJ:Int):Option (Int×ahN):=
 cond (decide (aJ<(bt.length:Int))) ((qD aQ).bind λaa=>(bh bt aJ).bind λag=>(qD (i64.wrap (aQ+1))).bind λaK=>(bh (List.set bt (Int.toNat aJ) (cp.mk aa ag.b0 ag.Result)) aJ).bind λa6=>(qD (i64.wrap ((i64.wrap (aQ+1))+1))).bind λba=>(bh (List.set (List.set bt (Int.toNat aJ) (cp.mk aa ag.b0 ag.Result)) (Int.toNat aJ) (cp.mk a6.Left aK a6.Result)) aJ).bind λbP=>cZ (List.set (List.set (List.set bt (Int.toNat aJ) (cp.mk aa ag.b0 ag.Result)) (Int.toNat aJ) (cp.mk a6.Left aK a6.Result)) (Int.toNat aJ) (cp.mk bP.Left bP.b0 ba)) (i64.wrap ((i64.wrap ((i64.wrap (aQ+1))+1))+1)) (i64.wrap (aJ+1))) (some (aQ,bt))
def vB:Nat->ahN->Int->Int->Option (Int×ahN)
 |0,_,_,_=>none
 |n+1,bt,aQ,aJ=>GZ (vB n) bt aQ aJ
def BZ (a0:ahN) (J:Int):Option (Int×ahN):=
 ca λn=>vB n a0 J 0
def G0 (cZ:nq->Int->Int->Option (Int×nq)) (bt:nq) (aQ aJ:Int):Option (Int×nq):=
 cond (decide (aJ<(bt.length:Int))) ((qD aQ).bind λaa=>(bh bt aJ).bind λag=>cZ (List.set bt (Int.toNat aJ) aa) (i64.wrap (aQ+1)) (i64.wrap (aJ+1))) (some (aQ,bt))
def vC:Nat->nq->Int->Int->Option (Int×nq)
 |0,_,_,_=>none
 |n+1,bt,aQ,aJ=>G0 (vC n) bt aQ aJ
def yK (a0:nq) (J:Int):Option (Int×nq):=
 ca λn=>vC n a0 J 0
def B0 (vD:ahL) (tx:ahM) (rS:ahN) (qE pJ:nq) (J:Int):Option (Int×ahL×ahM×ahN×nq×nq):=
 (BW vD J).bind λaa=>(BX tx aa.1).bind λag=>(BZ rS ag.1).bind λaK=>(yK qE aK.1).bind λa6=>(yK pJ a6.1).bind λba=>some (ba.1,aa.2,ag.2,aK.2,a6.2,ba.2)
def G1 (cZ:ahO->Int->Int->Option (Int×ahO)) (bt:ahO) (aQ aJ:Int):Option (Int×ahO):=
 cond (decide (aJ<(bt.length:Int))) ((bh bt aJ).bind λaa=>(bh (List.set bt (Int.toNat aJ) (bY.mk aQ aa.Part aa.b5)) aJ).bind λag=>(bh (List.set (List.set bt (Int.toNat aJ) (bY.mk aQ aa.Part aa.b5)) (Int.toNat aJ) (bY.mk ag.dd (i64.wrap (aQ+1)) ag.b5)) aJ).bind λaK=>(yJ aK.b5 (i64.wrap ((i64.wrap (aQ+1))+1))).bind λa6=>cZ (List.set (List.set (List.set bt (Int.toNat aJ) (bY.mk aQ aa.Part aa.b5)) (Int.toNat aJ) (bY.mk ag.dd (i64.wrap (aQ+1)) ag.b5)) (Int.toNat aJ) (bY.mk aK.dd aK.Part a6.2)) a6.1 (i64.wrap (aJ+1))) (some (aQ,bt))
def vE:Nat->ahO->Int->Int->Option (Int×ahO)
 |0,_,_,_=>none
 |n+1,bt,aQ,aJ=>G1 (vE n) bt aQ aJ
def B1 (a0:ahO) (J:Int):Option (Int×ahO):=
 ca λn=>vE n a0 J 0
def G2 (cZ:Int->Int->ahy) (a0:ahv) (aQ aJ:Int):ahy:=
 cond (decide (aJ<(a0.length:Int))) ((bh a0 aJ).bind λaa=>cond (aa !=aQ) (some (-1)) (cZ (i64.wrap (aQ+1)) (i64.wrap (aJ+1)))) (some aQ)
def vF (a0:ahv):Nat->Int->Int->ahy
 |0,_,_=>none
 |n+1,aQ,aJ=>G2 (vF a0 n) a0 aQ aJ
def B2 (a0:ahv) (J:Int):ahy:=
 ca λn=>vF a0 n J 0
def G3 (cZ:Int->Int->ahy) (a0:ahO) (aQ aJ:Int):ahy:=
 cond (decide (aJ<(a0.length:Int))) ((bh a0 aJ).bind λaa=>cond (aa.dd !=aQ) (some (-1)) (cond (aa.Part !=(i64.wrap (aQ+1))) (some (-1)) ((B2 aa.b5 (i64.wrap ((i64.wrap (aQ+1))+1))).bind λag=>cond (decide (ag<0)) (some (-1)) (cZ ag (i64.wrap (aJ+1)))))) (some aQ)
def vG (a0:ahO):Nat->Int->Int->ahy
 |0,_,_=>none
 |n+1,aQ,aJ=>G3 (vG a0 n) a0 aQ aJ
def yL (a0:ahO) (J:Int):ahy:=
 ca λn=>vG a0 n J 0
def G4 (a0:lW) (J:aht):ahx:=
 cond (decide (1048576<(J.length:Int))) (some true) ((xM a0 1048576).bind λaa=>cond (decide (aa<0)) (some true) ((rK a0).bind λag=>(Bf ag J).bind λaK=>(rK a0).bind λa6=>(yy a6 J).bind λba=>(vu ba.1 aK.1).bind λbP=>cond ((!bP)||(!(ba.2==aK.2))) (some false) ((rK a0).bind λcG=>(yI a6 cG).bind λe9=>cond (!e9) (some false) ((B0 a6.br a6.cw a6.gP a6.gF a6.gG 1).bind λe_=>cond (decide (e_.1<0)) (some false) ((vu ba.1 aK.1).bind λdV=>cond ((!dV)||(!(ba.2==aK.2))) (some false) ((B1 ba.1 1).bind λeZ=>(yL eZ.2 1).bind λpK=>cond (decide (pK<0)) (some false) (cond (pK !=eZ.1) (some false) ((rK a0).bind λoI=>(yy oI J).bind λpL=>(vu pL.1 aK.1).bind λnY=>cond ((!nY)||(!(pL.2==aK.2))) (some false) ((yL eZ.2 1).bind λrT=>cond (decide (rT<0)) (some false) (cond (rT !=eZ.1) (some false) (some true)))))))))))
end
end Go.lV
