/- Part of a proof that a law returns true for every input. No condition. -/
import Derived.Test.YtmaepbgkcmjcjafGreatDoorFwA
namespace Go.kX
open List Option Go.IntKind Nat
open Go Go.eg
set_option linter.unusedVariables false
noncomputable section
structure jq where
 Kind:Int
 Value:Int
def Br (x:jq):Prop:=(-9223372036854775808<=x.Kind/\x.Kind<=9223372036854775807)/\(-9223372036854775808<=x.Value/\x.Value<=9223372036854775807)
structure ll where
 Kind:Int
 Number:Int
 Name:ayc
 cd:List (List jq)
def E3 (x:ll):Prop:=(-9223372036854775808<=x.Kind/\x.Kind<=9223372036854775807)/\(-9223372036854775808<=x.Number/\x.Number<=9223372036854775807)/\x.Name.length<=9223372036854775807/\(x.cd.length<=9223372036854775807/\∀y∈x.cd,(y.length<=9223372036854775807/\∀z∈y,Br z))
structure ln where
 Name:ayc
 dP:Int
 Body:List ll
def E4 (x:ln):Prop:=x.Name.length<=9223372036854775807/\(-9223372036854775808<=x.dP/\x.dP<=9223372036854775807)/\(x.Body.length<=9223372036854775807/\∀y∈x.Body,E3 y)
structure lo where
 cp:Int
 bH:aye
def E5 (x:lo):Prop:=(-9223372036854775808<=x.cp/\x.cp<=9223372036854775807)/\(x.bH.length<=9223372036854775807/\∀y∈x.bH,(-9223372036854775808<=y/\y<=9223372036854775807))
structure kY where
 Left:ayc
 cx:ayc
 Result:ayc
def E6 (x:kY):Prop:=x.Left.length<=9223372036854775807/\x.cx.length<=9223372036854775807/\x.Result.length<=9223372036854775807
structure oN where
 c8:List ln
 cL:List lo
 cz:List kY
 dj:ayb
 dk:ayb
def E7 (x:oN):Prop:=(x.c8.length<=9223372036854775807/\∀y∈x.c8,E4 y)/\(x.cL.length<=9223372036854775807/\∀y∈x.cL,E5 y)/\(x.cz.length<=9223372036854775807/\∀y∈x.cz,E6 y)/\(x.dj.length<=9223372036854775807/\∀y∈x.dj,y.length<=9223372036854775807)/\(x.dk.length<=9223372036854775807/\∀y∈x.dk,y.length<=9223372036854775807)
structure lp where
 cp:Int
 Part:Int
 bH:aye
def Bs (x:lp):Prop:=(-9223372036854775808<=x.cp/\x.cp<=9223372036854775807)/\(-9223372036854775808<=x.Part/\x.Part<=9223372036854775807)/\(x.bH.length<=9223372036854775807/\∀y∈x.bH,(-9223372036854775808<=y/\y<=9223372036854775807))
structure bQ where
 Kind:Int
 Value:Int
def aiq (x:bQ):Prop:=(-9223372036854775808<=x.Kind/\x.Kind<=9223372036854775807)/\(-9223372036854775808<=x.Value/\x.Value<=9223372036854775807)
structure b1 where
 Kind:Int
 Number:Int
 Name:ayc
 cd:List (List bQ)
def air (x:b1):Prop:=(-9223372036854775808<=x.Kind/\x.Kind<=9223372036854775807)/\(-9223372036854775808<=x.Number/\x.Number<=9223372036854775807)/\x.Name.length<=9223372036854775807/\(x.cd.length<=9223372036854775807/\∀y∈x.cd,(y.length<=9223372036854775807/\∀z∈y,aiq z))
structure bb where
 Name:ayc
 dP:Int
 Body:List b1
def ais (x:bb):Prop:=x.Name.length<=9223372036854775807/\(-9223372036854775808<=x.dP/\x.dP<=9223372036854775807)/\(x.Body.length<=9223372036854775807/\∀y∈x.Body,air y)
structure df where
 cp:Int
 bH:aye
def ait (x:df):Prop:=(-9223372036854775808<=x.cp/\x.cp<=9223372036854775807)/\(x.bH.length<=9223372036854775807/\∀y∈x.bH,(-9223372036854775808<=y/\y<=9223372036854775807))
structure b0 where
 Left:ayc
 cx:ayc
 Result:ayc
def aiu (x:b0):Prop:=x.Left.length<=9223372036854775807/\x.cx.length<=9223372036854775807/\x.Result.length<=9223372036854775807
structure cE where
 c8:List bb
 cL:List df
 cz:List b0
 dj:ayb
 dk:ayb
def aw1 (x:cE):Prop:=(x.c8.length<=9223372036854775807/\∀y∈x.c8,ais y)/\(x.cL.length<=9223372036854775807/\∀y∈x.cL,ait y)/\(x.cz.length<=9223372036854775807/\∀y∈x.cz,aiu y)/\(x.dj.length<=9223372036854775807/\∀y∈x.dj,y.length<=9223372036854775807)/\(x.dk.length<=9223372036854775807/\∀y∈x.dk,y.length<=9223372036854775807)
structure bd where
 cp:Int
 Part:Int
 bH:aye
def Xy (x:bd):Prop:=(-9223372036854775808<=x.cp/\x.cp<=9223372036854775807)/\(-9223372036854775808<=x.Part/\x.Part<=9223372036854775807)/\(x.bH.length<=9223372036854775807/\∀y∈x.bH,(-9223372036854775808<=y/\y<=9223372036854775807))
structure a1 where
 Label:ayc
 gH:Int
 Second:Int
 State:List bd
def aw2 (x:a1):Prop:=x.Label.length<=9223372036854775807/\(-9223372036854775808<=x.gH/\x.gH<=9223372036854775807)/\(-9223372036854775808<=x.Second/\x.Second<=9223372036854775807)/\(x.State.length<=9223372036854775807/\∀y∈x.State,Xy y)
structure bk where
 Label:ayc
 Next:bd
def aw3 (x:bk):Prop:=x.Label.length<=9223372036854775807/\Xy x.Next
structure dM where
 scope:Int
 behind:Bool
abbrev ayo:=List jq
abbrev ayp:=List ll
abbrev ayq:=List ln
abbrev ayr:=List lo
abbrev ays:=List kY
abbrev ayt:=List lp
abbrev ayu:=List bQ
abbrev ayv:=List b1
abbrev ayw:=List bb
abbrev ayx:=List df
abbrev ayy:=List b0
abbrev ayz:=List bd
abbrev ayA:=List a1
abbrev ayB:=List bk
abbrev ayC:=List dM
abbrev ayl:=List (List jq)
abbrev aym:=List (List bQ)
abbrev ayn:=List (List bk)
def aw4 (x:dM):Prop:=(-9223372036854775808<=x.scope/\x.scope<=9223372036854775807)/\True
inductive dr where
 |mk (term:bQ) (args:List dr)
def dr.term:dr->bQ
 | .mk a _=>a
def dr.args:dr->List dr
 | .mk _ a=>a
def E8 (a0:ayo) (J:Int):ayh:=
 cond (decide ((i64.wrap (J-(a0.length:Int)))<0)) (some (-1)) (some (i64.wrap (J-(a0.length:Int))))
def aiv (jr:Int->Int->ayh) (a0:ayl) (eB ej:Int):ayh:=
 cond (decide (ej<(a0.length:Int))) ((bh a0 ej).bind λR=>(E8 R eB).bind λae=>cond (decide (ae<0)) (some (-1)) (jr ae (i64.wrap (ej+1)))) (some eB)
def Ok (a0:ayl):Nat->Int->Int->ayh
 |0,_,_=>none
 |n+1,eB,ej=>aiv (Ok a0 n) a0 eB ej
def I4 (a0:ayl) (J:Int):ayh:=
 cond (decide ((i64.wrap (J-(a0.length:Int)))<0)) (some (-1)) (bZ λn=>Ok a0 n (i64.wrap (J-(a0.length:Int))) 0)
def E9 (a0:ll) (J:Int):ayh:=
 cond (decide ((i64.wrap (J-(a0.Name.length:Int)))<0)) (some (-1)) ((I4 a0.cd (i64.wrap (J-(a0.Name.length:Int)))).bind λR=>cond (decide (R<0)) (some (-1)) (some R))
def aiw (jr:Int->Int->ayh) (a0:ayp) (eB ej:Int):ayh:=
 cond (decide (ej<(a0.length:Int))) ((bh a0 ej).bind λR=>(E9 R eB).bind λae=>cond (decide (ae<0)) (some (-1)) (jr ae (i64.wrap (ej+1)))) (some eB)
def Ol (a0:ayp):Nat->Int->Int->ayh
 |0,_,_=>none
 |n+1,eB,ej=>aiw (Ol a0 n) a0 eB ej
def I5 (a0:ayp) (J:Int):ayh:=
 cond (decide ((i64.wrap (J-(a0.length:Int)))<0)) (some (-1)) (bZ λn=>Ol a0 n (i64.wrap (J-(a0.length:Int))) 0)
def E_ (a0:ln) (J:Int):ayh:=
 cond (decide ((i64.wrap (J-(a0.Name.length:Int)))<0)) (some (-1)) ((I5 a0.Body (i64.wrap (J-(a0.Name.length:Int)))).bind λR=>cond (decide (R<0)) (some (-1)) (some R))
def aix (jr:Int->Int->ayh) (a0:ayq) (eB ej:Int):ayh:=
 cond (decide (ej<(a0.length:Int))) ((bh a0 ej).bind λR=>(E_ R eB).bind λae=>cond (decide (ae<0)) (some (-1)) (jr ae (i64.wrap (ej+1)))) (some eB)
def Om (a0:ayq):Nat->Int->Int->ayh
 |0,_,_=>none
 |n+1,eB,ej=>aix (Om a0 n) a0 eB ej
def I6 (a0:ayq) (J:Int):ayh:=
 cond (decide ((i64.wrap (J-(a0.length:Int)))<0)) (some (-1)) (bZ λn=>Om a0 n (i64.wrap (J-(a0.length:Int))) 0)
def Fa (a0:aye) (J:Int):ayh:=
 cond (decide ((i64.wrap (J-(a0.length:Int)))<0)) (some (-1)) (some (i64.wrap (J-(a0.length:Int))))
def Fb (a0:lo) (J:Int):ayh:=
 (Fa a0.bH J).bind λR=>cond (decide (R<0)) (some (-1)) (some R)
def aiy (jr:Int->Int->ayh) (a0:ayr) (eB ej:Int):ayh:=
 cond (decide (ej<(a0.length:Int))) ((bh a0 ej).bind λR=>(Fb R eB).bind λae=>cond (decide (ae<0)) (some (-1)) (jr ae (i64.wrap (ej+1)))) (some eB)
def On (a0:ayr):Nat->Int->Int->ayh
 |0,_,_=>none
 |n+1,eB,ej=>aiy (On a0 n) a0 eB ej
def I7 (a0:ayr) (J:Int):ayh:=
 cond (decide ((i64.wrap (J-(a0.length:Int)))<0)) (some (-1)) (bZ λn=>On a0 n (i64.wrap (J-(a0.length:Int))) 0)
def Fe (a0:kY) (J:Int):ayh:=
 cond (decide ((i64.wrap (J-(a0.Left.length:Int)))<0)) (some (-1)) (cond (decide ((i64.wrap ((i64.wrap (J-(a0.Left.length:Int)))-(a0.cx.length:Int)))<0)) (some (-1)) (cond (decide ((i64.wrap ((i64.wrap ((i64.wrap (J-(a0.Left.length:Int)))-(a0.cx.length:Int)))-(a0.Result.length:Int)))<0)) (some (-1)) (some (i64.wrap ((i64.wrap ((i64.wrap (J-(a0.Left.length:Int)))-(a0.cx.length:Int)))-(a0.Result.length:Int))))))
def aiz (jr:Int->Int->ayh) (a0:ays) (eB ej:Int):ayh:=
 cond (decide (ej<(a0.length:Int))) ((bh a0 ej).bind λR=>(Fe R eB).bind λae=>cond (decide (ae<0)) (some (-1)) (jr ae (i64.wrap (ej+1)))) (some eB)
def Oo (a0:ays):Nat->Int->Int->ayh
 |0,_,_=>none
 |n+1,eB,ej=>aiz (Oo a0 n) a0 eB ej
def I8 (a0:ays) (J:Int):ayh:=
 cond (decide ((i64.wrap (J-(a0.length:Int)))<0)) (some (-1)) (bZ λn=>Oo a0 n (i64.wrap (J-(a0.length:Int))) 0)
def aiA (jr:Int->Int->ayh) (a0:ayb) (eB ej:Int):ayh:=
 cond (decide (ej<(a0.length:Int))) ((bh a0 ej).bind λR=>cond (decide ((i64.wrap (eB-(R.length:Int)))<0)) (some (-1)) (jr (i64.wrap (eB-(R.length:Int))) (i64.wrap (ej+1)))) (some eB)
def Oq (a0:ayb):Nat->Int->Int->ayh
 |0,_,_=>none
 |n+1,eB,ej=>aiA (Oq a0 n) a0 eB ej
def Ff (a0:ayb) (J:Int):ayh:=
 cond (decide ((i64.wrap (J-(a0.length:Int)))<0)) (some (-1)) (bZ λn=>Oq a0 n (i64.wrap (J-(a0.length:Int))) 0)
def Fg (a0:oN) (J:Int):ayh:=
 (I6 a0.c8 J).bind λR=>cond (decide (R<0)) (some (-1)) ((I7 a0.cL R).bind λae=>cond (decide (ae<0)) (some (-1)) ((I8 a0.cz ae).bind λaD=>cond (decide (aD<0)) (some (-1)) ((Ff a0.dj aD).bind λaX=>cond (decide (aX<0)) (some (-1)) ((Ff a0.dk aX).bind λaT=>cond (decide (aT<0)) (some (-1)) (some aT)))))
def Fh (a0:lp) (J:Int):ayh:=
 (Fa a0.bH J).bind λR=>cond (decide (R<0)) (some (-1)) (some R)
def aiB (jr:Int->Int->ayh) (a0:ayt) (eB ej:Int):ayh:=
 cond (decide (ej<(a0.length:Int))) ((bh a0 ej).bind λR=>(Fh R eB).bind λae=>cond (decide (ae<0)) (some (-1)) (jr ae (i64.wrap (ej+1)))) (some eB)
def Ot (a0:ayt):Nat->Int->Int->ayh
 |0,_,_=>none
 |n+1,eB,ej=>aiB (Ot a0 n) a0 eB ej
def I9 (a0:ayt) (J:Int):ayh:=
 cond (decide ((i64.wrap (J-(a0.length:Int)))<0)) (some (-1)) (bZ λn=>Ot a0 n (i64.wrap (J-(a0.length:Int))) 0)
def Fi (a0:jq):Option bQ:=
 some (bQ.mk a0.Kind a0.Value)
def aiC (fK:ayu->Int->Option ayu) (a0:ayo) (bY:ayu) (bN:Int):Option ayu:=
 cond (decide (bN<(a0.length:Int))) ((bh a0 bN).bind λR=>(Fi R).bind λae=>(bh bY bN).bind λaD=>fK (List.set bY (Int.toNat bN) ae) (i64.wrap (bN+1))) (some bY)
def Ou (a0:ayo):Nat->ayu->Int->Option ayu
 |0,_,_=>none
 |n+1,bY,bN=>aiC (Ou a0 n) a0 bY bN
def Fj (a0:ayo):Option ayu:=
 (nz 16 (a0.length:Int)).bind λ_=>bZ λn=>Ou a0 n (replicate (Int.toNat (a0.length:Int)) (bQ.mk 0 0)) 0
def aiD (fK:aym->Int->Option aym) (a0:ayl) (bY:aym) (bN:Int):Option aym:=
 cond (decide (bN<(a0.length:Int))) ((bh a0 bN).bind λR=>(Fj R).bind λae=>(bh bY bN).bind λaD=>fK (List.set bY (Int.toNat bN) ae) (i64.wrap (bN+1))) (some bY)
def Ov (a0:ayl):Nat->aym->Int->Option aym
 |0,_,_=>none
 |n+1,bY,bN=>aiD (Ov a0 n) a0 bY bN
def I_ (a0:ayl):Option aym:=
 (nz 24 (a0.length:Int)).bind λ_=>bZ λn=>Ov a0 n (replicate (Int.toNat (a0.length:Int)) []) 0
def Fk (a0:ll):Option b1:=
 (I_ a0.cd).bind λR=>some (b1.mk a0.Kind a0.Number a0.Name R)
def aiE (fK:ayv->Int->Option ayv) (a0:ayp) (bY:ayv) (bN:Int):Option ayv:=
 cond (decide (bN<(a0.length:Int))) ((bh a0 bN).bind λR=>(Fk R).bind λae=>(bh bY bN).bind λaD=>fK (List.set bY (Int.toNat bN) ae) (i64.wrap (bN+1))) (some bY)
def Ow (a0:ayp):Nat->ayv->Int->Option ayv
 |0,_,_=>none
 |n+1,bY,bN=>aiE (Ow a0 n) a0 bY bN
def Ja (a0:ayp):Option ayv:=
 (nz 56 (a0.length:Int)).bind λ_=>bZ λn=>Ow a0 n (replicate (Int.toNat (a0.length:Int)) (b1.mk 0 0 ([]:ayc) [])) 0
def Fl (a0:ln):Option bb:=
 (Ja a0.Body).bind λR=>some (bb.mk a0.Name a0.dP R)
def aiF (fK:ayw->Int->Option ayw) (a0:ayq) (bY:ayw) (bN:Int):Option ayw:=
 cond (decide (bN<(a0.length:Int))) ((bh a0 bN).bind λR=>(Fl R).bind λae=>(bh bY bN).bind λaD=>fK (List.set bY (Int.toNat bN) ae) (i64.wrap (bN+1))) (some bY)
def Ox (a0:ayq):Nat->ayw->Int->Option ayw
 |0,_,_=>none
 |n+1,bY,bN=>aiF (Ox a0 n) a0 bY bN
def Jb (a0:ayq):Option ayw:=
 (nz 48 (a0.length:Int)).bind λ_=>bZ λn=>Ox a0 n (replicate (Int.toNat (a0.length:Int)) (bb.mk ([]:ayc) 0 [])) 0
def aiG (fK:aye->Int->Option aye) (a0 bY:aye) (bN:Int):Option aye:=
 cond (decide (bN<(a0.length:Int))) ((bh a0 bN).bind λR=>(bh bY bN).bind λae=>fK (List.set bY (Int.toNat bN) R) (i64.wrap (bN+1))) (some bY)
def Oy (a0:aye):Nat->aye->Int->Option aye
 |0,_,_=>none
 |n+1,bY,bN=>aiG (Oy a0 n) a0 bY bN
def Fm (a0:aye):Option aye:=
 (nz 8 (a0.length:Int)).bind λ_=>bZ λn=>Oy a0 n (replicate (Int.toNat (a0.length:Int)) 0) 0
def Fo (a0:lo):Option df:=
 (Fm a0.bH).bind λR=>some (df.mk a0.cp R)
def aiH (fK:ayx->Int->Option ayx) (a0:ayr) (bY:ayx) (bN:Int):Option ayx:=
 cond (decide (bN<(a0.length:Int))) ((bh a0 bN).bind λR=>(Fo R).bind λae=>(bh bY bN).bind λaD=>fK (List.set bY (Int.toNat bN) ae) (i64.wrap (bN+1))) (some bY)
def Oz (a0:ayr):Nat->ayx->Int->Option ayx
 |0,_,_=>none
 |n+1,bY,bN=>aiH (Oz a0 n) a0 bY bN
def Jc (a0:ayr):Option ayx:=
 (nz 32 (a0.length:Int)).bind λ_=>bZ λn=>Oz a0 n (replicate (Int.toNat (a0.length:Int)) (df.mk 0 [])) 0
def Fp (a0:kY):Option b0:=
 some (b0.mk a0.Left a0.cx a0.Result)
def aiI (fK:ayy->Int->Option ayy) (a0:ays) (bY:ayy) (bN:Int):Option ayy:=
 cond (decide (bN<(a0.length:Int))) ((bh a0 bN).bind λR=>(Fp R).bind λae=>(bh bY bN).bind λaD=>fK (List.set bY (Int.toNat bN) ae) (i64.wrap (bN+1))) (some bY)
def OA (a0:ays):Nat->ayy->Int->Option ayy
 |0,_,_=>none
 |n+1,bY,bN=>aiI (OA a0 n) a0 bY bN
def Jd (a0:ays):Option ayy:=
 (nz 48 (a0.length:Int)).bind λ_=>bZ λn=>OA a0 n (replicate (Int.toNat (a0.length:Int)) (b0.mk ([]:ayc) ([]:ayc) ([]:ayc))) 0
def aiJ (fK:ayb->Int->Option ayb) (a0 bY:ayb) (bN:Int):Option ayb:=
 cond (decide (bN<(a0.length:Int))) ((bh a0 bN).bind λR=>(bh bY bN).bind λae=>fK (List.set bY (Int.toNat bN) R) (i64.wrap (bN+1))) (some bY)
def OB (a0:ayb):Nat->ayb->Int->Option ayb
 |0,_,_=>none
 |n+1,bY,bN=>aiJ (OB a0 n) a0 bY bN
def Fq (a0:ayb):Option ayb:=
 (nz 16 (a0.length:Int)).bind λ_=>bZ λn=>OB a0 n (replicate (Int.toNat (a0.length:Int)) ([]:ayc)) 0
def xH (a0:oN):Option cE:=
 (Jb a0.c8).bind λR=>(Jc a0.cL).bind λae=>(Jd a0.cz).bind λaD=>(Fq a0.dj).bind λaX=>(Fq a0.dk).bind λaT=>some (cE.mk R ae aD aX aT)
def Fs (a0:lp):Option bd:=
 (Fm a0.bH).bind λR=>some (bd.mk a0.cp a0.Part R)
def aiK (fK:ayz->Int->Option ayz) (a0:ayt) (bY:ayz) (bN:Int):Option ayz:=
 cond (decide (bN<(a0.length:Int))) ((bh a0 bN).bind λR=>(Fs R).bind λae=>(bh bY bN).bind λaD=>fK (List.set bY (Int.toNat bN) ae) (i64.wrap (bN+1))) (some bY)
def OC (a0:ayt):Nat->ayz->Int->Option ayz
 |0,_,_=>none
 |n+1,bY,bN=>aiK (OC a0 n) a0 bY bN
def za (a0:ayt):Option ayz:=
 (nz 40 (a0.length:Int)).bind λ_=>bZ λn=>OC a0 n (replicate (Int.toNat (a0.length:Int)) (bd.mk 0 0 [])) 0
def Ft (a0:UInt8):ayg:=
 some ((decide (97<=(a0.toNat:Int)))&&(decide ((a0.toNat:Int)<=122)))
def Bt (a0:UInt8):ayg:=
 some ((decide (48<=(a0.toNat:Int)))&&(decide ((a0.toNat:Int)<=57)))
def OD (fA:Int->ayg) (a0:ayc) (ek:Int):ayg:=
 cond (decide (ek<(a0.length:Int))) ((bh a0 ek).bind λaD=>(Ft aD).bind λaX=>cond (!aX) ((Bt aD).bind λaT=>cond (!aT) (some false) (fA (i64.wrap (ek+1)))) (fA (i64.wrap (ek+1)))) (some true)
def Fu (a0:ayc):Nat->Int->ayg
 |0,_=>none
 |n+1,ek=>OD (Fu a0 n) a0 ek
def xI (a0:ayc):ayg:=
 cond (a0==([]:ayc)) (some false) (cond (decide (10<(a0.length:Int))) (some false) ((bh a0 0).bind λR=>(Ft R).bind λae=>cond (!ae) (some false) (bZ λn=>Fu a0 n 0)))
def l_ (a0 J a2:Int):ayg:=
 some ((decide (J<=a0))&&(decide (a0<=a2)))
def Fv (a0:b1) (jR:Bool):ayh:=
 cond jR (some 1) (cond (a0.Kind==2) (some 2) (some 0))
def Fw (a0:b1):ayh:=
 cond (a0.Kind==1) (Fv a0 true) (cond (a0.Kind==3) (Fv a0 true) (Fv a0 (a0.Kind==4)))
def OE (jr:Int->Int->ayg) (a0:ayv) (gV ht:Int):ayg:=
 cond (decide (ht<(a0.length:Int))) (cond (gV==0) (some false) ((bh a0 ht).bind λR=>(Fw R).bind λae=>jr (i64.wrap (gV+(i64.wrap (ae-1)))) (i64.wrap (ht+1)))) (some (gV==0))
def Bu (a0:ayv):Nat->Int->Int->ayg
 |0,_,_=>none
 |n+1,gV,ht=>OE (Bu a0 n) a0 gV ht
def Je (a0:ayv):ayg:=
 cond (((a0.length:Int)==0)||(decide (20<(a0.length:Int)))) (some false) (bZ λn=>Bu a0 n 1 0)
def Jf (a0:b1) (Fx:Bool):ayg:=
 cond Fx (some (((a0.Number==0)&&(a0.Name==([]:ayc)))&&((a0.cd.length:Int)==0))) (cond (a0.Kind==1) (some (a0.Number==0)) (cond (a0.Kind==3) (some ((a0.Number==0)&&(a0.Name==([]:ayc)))) (cond (a0.Kind==4) (some ((a0.Name==([]:ayc))&&((a0.cd.length:Int)==0))) (cond (a0.Kind==5) (some (a0.Name==([]:ayc))) (some false)))))
def OG (a0:b1):ayg:=
 cond (a0.Kind==0) (Jf a0 true) (Jf a0 (a0.Kind==2))
def OH (de:Int->Int->ayh) (a0:ayv) (aR aA:Int):ayh:=
 cond (decide (0<aA)) ((bh a0 aR).bind λR=>(Fw R).bind λae=>de (i64.wrap (aR+1)) (i64.wrap (aA+(i64.wrap (ae-1))))) (some aR)
def Bv (a0:ayv):Nat->Int->Int->ayh
 |0,_,_=>none
 |n+1,aR,aA=>OH (Bv a0 n) a0 aR aA
def Fy (a0:ayv) (J:Int):ayh:=
 bZ λn=>Bv a0 n J 1
def Fz (fK:Int->Int->ayh) (a0:bb) (J Bw Bx:Int):ayh:=
 fK Bw (i64.wrap (Bx+1))
def OI (fK:Int->Int->ayh) (a0:bb) (J fC jS:Int):ayh:=
 cond (decide (jS<J)) ((bh a0.Body jS).bind λR=>cond (R.Kind==4) ((Fy a0.Body jS).bind λae=>cond (decide (J<ae)) (Fz fK a0 J (i64.wrap (fC+1)) jS) (Fz fK a0 J fC jS)) (Fz fK a0 J fC jS)) (some fC)
def zb (a0:bb) (J:Int):Nat->Int->Int->ayh
 |0,_,_=>none
 |n+1,fC,jS=>OI (zb a0 J n) a0 J fC jS
def vy (a0:bb) (J:Int):ayh:=
 bZ λn=>zb a0 J n a0.dP 0
def Jg (a0:bQ) (J:Int):ayg:=
 cond (a0.Kind==0) ((l_ a0.Value 0 63).bind λR=>some R) (cond (a0.Kind==1) ((l_ a0.Value 0 (i64.wrap (J-1))).bind λae=>some ae) (cond (a0.Kind==2) ((l_ a0.Value 0 8).bind λaD=>some aD) (cond (a0.Kind==3) (some (a0.Value==0)) (some false))))
def Jh (a0:bQ):ayh:=
 cond (a0.Kind==2) (some 2) (cond (a0.Kind==3) (some 1) (some 0))
def OJ (jr:Int->Int->ayg) (a0:ayu) (J jR tZ:Int):ayg:=
 cond (decide (tZ<(a0.length:Int))) (cond (jR==0) (some false) ((bh a0 tZ).bind λR=>(Jg R J).bind λae=>cond (!ae) (some false) ((Jh R).bind λaD=>jr (i64.wrap (jR+(i64.wrap (aD-1)))) (i64.wrap (tZ+1))))) (some (jR==0))
def Bz (a0:ayu) (J:Int):Nat->Int->Int->ayg
 |0,_,_=>none
 |n+1,jR,tZ=>OJ (Bz a0 J n) a0 J jR tZ
def Ji (a0:ayu) (J a2:Int):ayg:=
 cond (decide (a2<(a0.length:Int))) (some false) (bZ λn=>Bz a0 J n 1 0)
def OK (kN:Int->Int->ayh) (R:b1) (t_ ua:Int):ayh:=
 cond (decide (ua<(R.cd.length:Int))) ((bh R.cd ua).bind λaX=>(Ji aX t_ 15).bind λaT=>cond (!aT) (some 8) (kN t_ (i64.wrap (ua+1)))) (some 0)
def xJ (R:b1):Nat->Int->Int->ayh
 |0,_,_=>none
 |n+1,t_,ua=>OK (xJ R n) R t_ ua
def sE (J:bb) (a2:Int) (R:b1) (FA:Bool):ayh:=
 cond FA (some 6) ((vy J a2).bind λaD=>cond ((R.Kind==4)&&(decide (6<=aD))) (some 7) (bZ λn=>xJ R n aD 0))
def vz (J:bb) (a2:Int) (R:b1):ayh:=
 cond (R.Kind==5) (cond (a2==0) (sE J a2 R true) ((bh J.Body (i64.wrap (a2-1))).bind λbp=>sE J a2 R (bp.Kind !=1))) (sE J a2 R false)
def ub (a0:ayw) (J:bb) (a2:Int) (R:b1) (FB:Bool):ayh:=
 cond FB (some 4) (cond (R.Kind==1) (cond ((decide (2<(R.cd.length:Int)))||((decide (0<(R.cd.length:Int)))&&(R.Name==([116,97,117]:ayc)))) (some 5) (vz J a2 R)) (cond (R.Kind==3) (cond ((R.cd.length:Int) !=1) (some 5) (vz J a2 R)) (cond (R.Kind==5) ((bh a0 R.Number).bind λbs=>cond ((R.cd.length:Int) !=bs.dP) (some 5) (vz J a2 R)) (vz J a2 R))))
def BA (a0:ayw) (J:bb) (a2:Int) (R:b1) (FC:Bool):ayh:=
 cond FC (some 3) (cond (R.Kind==4) ((l_ R.Number 1 7).bind λcv=>cond (!cv) (ub a0 J a2 R true) (cond (R.Kind==5) ((l_ R.Number 0 (i64.wrap ((a0.length:Int)-1))).bind λdE=>ub a0 J a2 R (!dE)) (ub a0 J a2 R false))) (cond (R.Kind==5) ((l_ R.Number 0 (i64.wrap ((a0.length:Int)-1))).bind λdI=>ub a0 J a2 R (!dI)) (ub a0 J a2 R false)))
def sF (a0:ayw) (J:bb) (a2:Int):ayh:=
 (bh J.Body a2).bind λR=>(OG R).bind λae=>cond (!ae) (some 2) (cond (R.Kind==1) ((xI R.Name).bind λe6=>BA a0 J a2 R (!e6)) (BA a0 J a2 R false))
def FD (fA:Int->Option (Int×Int)) (a0:ayw) (J:bb) (qt:Int):Option (Int×Int):=
 cond (decide (qt<(J.Body.length:Int))) ((sF a0 J qt).bind λae=>cond (decide (0<ae)) (some (qt,ae)) (fA (i64.wrap (qt+1)))) (some (0,0))
def vA (a0:ayw) (J:bb):Nat->Int->Option (Int×Int)
 |0,_=>none
 |n+1,qt=>FD (vA a0 J n) a0 J qt
def vB (a0:ayw) (J:bb):Option (Int×Int):=
 (Je J.Body).bind λR=>cond (!R) (some (0,1)) (bZ λn=>vA a0 J n 0)
def OL (fA:Int->ayg) (OM:Int->Int->ayg) (a0:ayw) (rh uc:Int):ayg:=
 cond (decide (uc<rh)) ((bh a0 uc).bind λaX=>(bh a0 rh).bind λaT=>cond (aX.Name==aT.Name) (some false) (OM rh (i64.wrap (uc+1)))) (fA (i64.wrap (rh+1)))
def BB (fA:Int->ayg) (a0:ayw):Nat->Int->Int->ayg
 |0,_,_=>none
 |n+1,rh,uc=>OL fA (BB fA a0 n) a0 rh uc
def ON (qu:Int->ayg) (a0:ayw) (ud:Int):ayg:=
 cond (decide (ud<(a0.length:Int))) ((bh a0 ud).bind λbp=>(vB a0 bp).bind λbs=>cond (decide (0<bs.2)) (some false) (qu (i64.wrap (ud+1)))) (some true)
def zc (a0:ayw):Nat->Int->ayg
 |0,_=>none
 |n+1,ud=>ON (zc a0 n) a0 ud
def OO (fA:Int->ayg) (a0:ayw) (ek:Int):ayg:=
 cond (decide (ek<(a0.length:Int))) ((bh a0 ek).bind λR=>(xI R.Name).bind λae=>cond (!ae) (some false) ((l_ R.dP 0 3).bind λaD=>cond (!aD) (some false) (bZ λn=>BB fA a0 n ek 0))) (bZ λn=>zc a0 n 0)
def vC (a0:ayw):Nat->Int->ayg
 |0,_=>none
 |n+1,ek=>OO (vC a0 n) a0 ek
def Jj (a0:ayw):ayg:=
 cond (((a0.length:Int)==0)||(decide (4<(a0.length:Int)))) (some false) (bZ λn=>vC a0 n 0)
def OP (de:Int->ayg) (a0:aye) (iG:Int):ayg:=
 cond (decide (iG<(a0.length:Int))) ((bh a0 iG).bind λR=>(l_ R 0 63).bind λae=>cond (!ae) (some false) (de (i64.wrap (iG+1)))) (some true)
def BC (a0:aye):Nat->Int->ayg
 |0,_=>none
 |n+1,iG=>OP (BC a0 n) a0 iG
def FE (a0:aye):ayg:=
 bZ λn=>BC a0 n 0
def OQ (fA:Int->ayg) (a0:cE) (ek:Int):ayg:=
 cond (decide (ek<(a0.cL.length:Int))) ((bh a0.cL ek).bind λR=>(l_ R.cp 0 (i64.wrap ((a0.c8.length:Int)-1))).bind λae=>cond (!ae) (some false) ((bh a0.c8 R.cp).bind λaD=>cond ((R.bH.length:Int) !=aD.dP) (some false) ((FE R.bH).bind λaX=>cond (!aX) (some false) (fA (i64.wrap (ek+1)))))) (some true)
def BD (a0:cE):Nat->Int->ayg
 |0,_=>none
 |n+1,ek=>OQ (BD a0 n) a0 ek
def Jk (a0:cE):ayg:=
 cond (((a0.cL.length:Int)==0)||(decide (3<(a0.cL.length:Int)))) (some false) (bZ λn=>BD a0 n 0)
def ue (a0:ayc):ayg:=
 (xI a0).bind λR=>some (R&&(!(a0==([116,97,117]:ayc))))
def OR (fA:Int->ayg) (aiL:Int->Int->ayg) (a0:ayy) (R:b0) (nJ ob:Int):ayg:=
 cond (decide (ob<(a0.length:Int))) ((bh a0 ob).bind λbs=>cond ((bs.Left==R.Result)||(bs.cx==R.Result)) (some false) (aiL nJ (i64.wrap (ob+1)))) (fA (i64.wrap (nJ+1)))
def vD (fA:Int->ayg) (a0:ayy) (R:b0):Nat->Int->Int->ayg
 |0,_,_=>none
 |n+1,nJ,ob=>OR fA (vD fA a0 R n) a0 R nJ ob
def OS (fA:Int->ayg) (a0:ayy) (ek:Int):ayg:=
 cond (decide (ek<(a0.length:Int))) ((bh a0 ek).bind λR=>(ue R.Left).bind λae=>cond (!ae) (some false) ((ue R.cx).bind λaD=>cond (!aD) (some false) ((ue R.Result).bind λaX=>cond ((!aX)||(!(Op.bytesLess R.Left R.cx||R.Left==R.cx))) (some false) (cond (decide (0<ek)) ((bh a0 (i64.wrap (ek-1))).bind λaT=>cond ((!(Op.bytesLess aT.Left R.Left||aT.Left==R.Left))||((aT.Left==R.Left)&&(!(Op.bytesLess aT.cx R.cx)))) (some false) (bZ λn=>vD fA a0 R n ek 0)) (bZ λn=>vD fA a0 R n ek 0))))) (some true)
def sG (a0:ayy):Nat->Int->ayg
 |0,_=>none
 |n+1,ek=>OS (sG a0 n) a0 ek
def Jl (a0:ayy):ayg:=
 cond (decide (6<(a0.length:Int))) (some false) (bZ λn=>sG a0 n 0)
def OT (de:Int->ayg) (a0:ayb) (iG:Int):ayg:=
 cond (decide (iG<(a0.length:Int))) ((bh a0 iG).bind λR=>(ue R).bind λae=>cond (!ae) (some false) (de (i64.wrap (iG+1)))) (some true)
def BE (a0:ayb):Nat->Int->ayg
 |0,_=>none
 |n+1,iG=>OT (BE a0 n) a0 iG
def Jm (a0:ayb):ayg:=
 bZ λn=>BE a0 n 0
def Jn (fA:Int->ayg) (a0:ayb) (ek:Int):ayg:=
 cond (decide (ek<(a0.length:Int))) ((bh a0 (i64.wrap (ek-1))).bind λae=>(bh a0 ek).bind λaD=>cond (!(Op.bytesLess ae aD)) (some false) (fA (i64.wrap (ek+1)))) (some true)
def ri (a0:ayb):Nat->Int->ayg
 |0,_=>none
 |n+1,ek=>Jn (ri a0 n) a0 ek
def FF (a0:ayb):ayg:=
 cond (decide (12<(a0.length:Int))) (some false) ((Jm a0).bind λR=>cond (!R) (some false) (bZ λn=>ri a0 n 1))
def Jo (a0:cE):ayh:=
 (Jj a0.c8).bind λR=>cond (!R) (some 1) ((Jk a0).bind λae=>cond (!ae) (some 2) ((Jl a0.cz).bind λaD=>cond (!aD) (some 3) ((FF a0.dj).bind λaX=>cond (!aX) (some 4) ((FF a0.dk).bind λaT=>cond (!aT) (some 5) (some 0)))))
def Jp (a0:cE):ayg:=
 (Jo a0).bind λR=>some (R==0)
def sH (a0:ayw) (J:bd):ayg:=
 (l_ J.cp 0 (i64.wrap ((a0.length:Int)-1))).bind λR=>cond (!R) (some false) ((bh a0 J.cp).bind λae=>(l_ J.Part 0 (i64.wrap ((ae.Body.length:Int)-1))).bind λaD=>cond (!aD) (some false) ((bh ae.Body J.Part).bind λaX=>cond (aX.Kind==5) (some false) ((vy ae J.Part).bind λaT=>cond ((J.bH.length:Int)==aT) ((FE J.bH).bind λbp=>some bp) (some false))))
def OU (fA:Int->ayg) (a0:cE) (J:ayz) (ca:Int):ayg:=
 cond (decide (ca<(J.length:Int))) ((bh J ca).bind λR=>(sH a0.c8 R).bind λae=>cond (!ae) (some false) (fA (i64.wrap (ca+1)))) (some true)
def BF (a0:cE) (J:ayz):Nat->Int->ayg
 |0,_=>none
 |n+1,ca=>OU (BF a0 J n) a0 J ca
def Jq (a0:cE) (J:ayz):ayg:=
 cond ((J.length:Int) !=(a0.cL.length:Int)) (some false) (bZ λn=>BF a0 J n 0)
def Jr (a0:cE) (J:ayz):ayh:=
 (Jp a0).bind λR=>cond (!R) (some 1) ((Jq a0 J).bind λae=>cond (!ae) (some 1) (some 0))
def BG (a0:aye):Option aye:=
 (room 8 (a0.length)).bind λ_=>some a0
def rj (a0:Bool):ayh:=
 cond a0 (some 1) (some 0)
def OV (de:Int->Int->ayh) (a0:ayu) (aR aA:Int):ayh:=
 cond (decide (0<aA)) ((bh a0 aR).bind λR=>(Jh R).bind λae=>de (i64.wrap (aR+1)) (i64.wrap (aA+(i64.wrap (ae-1))))) (some aR)
def BH (a0:ayu):Nat->Int->Int->ayh
 |0,_,_=>none
 |n+1,aR,aA=>OV (BH a0 n) a0 aR aA
def Js (a0:ayu) (J:Int):ayh:=
 bZ λn=>BH a0 n J 1
def Jt (a0 J a2:Int):ayh:=
 cond (a0==0) (some (Int.tmod (i64.wrap (J+a2)) 64)) (cond (a0==1) (some (Int.tmod (i64.wrap ((i64.wrap (J-a2))+64)) 64)) (cond (a0==2) (some (Int.tmod (i64.wrap (J*a2)) 64)) (cond (a0==3) ((rj (J==a2)).bind λR=>some R) (cond (a0==4) ((rj (J !=a2)).bind λae=>some ae) (cond (a0==5) ((rj (decide (J<a2))).bind λaD=>some aD) (cond (a0==6) ((rj (decide (J<=a2))).bind λaX=>some aX) (cond (a0==7) (cond (J !=0) ((rj (a2 !=0)).bind λaT=>some aT) ((rj false).bind λbp=>some bp)) (cond (J !=0) ((rj true).bind λbs=>some bs) ((rj (a2 !=0)).bind λcv=>some cv)))))))))
def OW (BI:ayu->aye->Int->ayh) (a0:ayu) (J:aye) (a2:Int):ayh:=
 (bh a0 a2).bind λR=>cond (R.Kind==0) (some R.Value) (cond (R.Kind==1) ((bh J R.Value).bind λae=>some ae) (cond (R.Kind==3) ((BI a0 J (i64.wrap (a2+1))).bind λaD=>(rj (aD==0)).bind λaX=>some aX) ((BI a0 J (i64.wrap (a2+1))).bind λaT=>(Js a0 (i64.wrap (a2+1))).bind λbp=>(BI a0 J bp).bind λbs=>(Jt R.Value aT bs).bind λcv=>some cv)))
def zd:Nat->ayu->aye->Int->ayh
 |0,_,_,_=>none
 |n+1,a0,J,a2=>OW (zd n) a0 J a2
def OX (a0:ayu) (J:aye) (a2:Int):ayh:=
 bZ λn=>zd n a0 J a2
def ze (a0:ayu) (J:aye):ayh:=
 (OX a0 J 0).bind λR=>some R
def OY (fK:aye->Int->Option aye) (a0:aym) (J fC:aye) (jS:Int):Option aye:=
 cond (decide (jS<(a0.length:Int))) ((bh a0 jS).bind λR=>(ze R J).bind λae=>(room 8 (fC.length+1)).bind λ_=>fK (fC++[ae]) (i64.wrap (jS+1))) (some fC)
def BJ (a0:aym) (J:aye):Nat->aye->Int->Option aye
 |0,_,_=>none
 |n+1,fC,jS=>OY (BJ a0 J n) a0 J fC jS
def FG (a0:aym) (J:aye):Option aye:=
 bZ λn=>BJ a0 J n [] 0
def Ju (jr:ayc->Int->Option ayc) (a0:Int) (vE:ayc) (xK uf:Int):Option ayc:=
 (room 1 (vE.length+1)).bind λ_=>jr (vE++[(o3 (i64.wrap (48+uf)))]) (i64.wrap (Int.tdiv xK 10))
def aiM (zf:ayc->Int->Option ayc) (oO ir:ayc) (hZ:Int):Option ayc:=
 cond (decide (0<=hZ)) ((bh oO hZ).bind λR=>(room 1 (ir.length+1)).bind λ_=>zf (ir++[R]) (i64.wrap (hZ-1))) (some ir)
def OZ (oO:ayc):Nat->ayc->Int->Option ayc
 |0,_,_=>none
 |n+1,ir,hZ=>aiM (OZ oO n) oO ir hZ
def xL (oO:ayc):Option ayc:=
 bZ λn=>OZ oO n [] (i64.wrap ((oO.length:Int)-1))
def O0 (jr:ayc->Int->Option ayc) (a0:Int) (gV:ayc) (ht:Int):Option ayc:=
 cond (ht !=0) (cond (decide ((Int.tmod ht 10)<0)) (Ju jr a0 gV ht (i64.wrap (0-(Int.tmod ht 10)))) (Ju jr a0 gV ht (Int.tmod ht 10))) (cond (decide (a0<0)) ((room 1 (gV.length+1)).bind λ_=>xL (gV++[(45:UInt8)])) (xL gV))
def vF (a0:Int):Nat->ayc->Int->Option ayc
 |0,_,_=>none
 |n+1,gV,ht=>O0 (vF a0 n) a0 gV ht
def FH (a0:Int):Option ayc:=
 cond (a0==0) (some ([48]:ayc)) (bZ λn=>vF a0 n [] a0)
def Jv (jr:ayc->Int->Option ayc) (a0:aye) (vG:ayc) (vH:Int):Option ayc:=
 (bh a0 vH).bind λR=>(FH R).bind λae=>(iz (vG.length+ae.length)).bind λ_=>jr (vG++ae) (i64.wrap (vH+1))
def O1 (jr:ayc->Int->Option ayc) (a0:aye) (gV:ayc) (ht:Int):Option ayc:=
 cond (decide (ht<(a0.length:Int))) (cond (decide (0<ht)) ((iz (gV.length+1)).bind λ_=>Jv jr a0 (gV++([44]:ayc)) ht) (Jv jr a0 gV ht)) (some gV)
def zg (a0:aye):Nat->ayc->Int->Option ayc
 |0,_,_=>none
 |n+1,gV,ht=>O1 (zg a0 n) a0 gV ht
def Jw (a0:aye):Option ayc:=
 cond ((a0.length:Int)==0) (some ([45]:ayc)) (bZ λn=>zg a0 n ([]:ayc) 0)
def FI (a0:ayc) (J:aye):Option ayc:=
 cond ((J.length:Int)==0) (some a0) ((iz (a0.length+1)).bind λ_=>(Jw J).bind λR=>(iz ((a0++([40]:ayc)).length+R.length)).bind λ_=>(iz (((a0++([40]:ayc))++R).length+1)).bind λ_=>some (((a0++([40]:ayc))++R)++([41]:ayc)))
def O2 (fA:Int->ayg) (a0 J:aye) (ca:Int):ayg:=
 cond (decide (ca<(a0.length:Int))) ((bh a0 ca).bind λR=>(bh J ca).bind λae=>cond (R !=ae) (some false) (fA (i64.wrap (ca+1)))) (some true)
def BK (a0 J:aye):Nat->Int->ayg
 |0,_=>none
 |n+1,ca=>O2 (BK a0 J n) a0 J ca
def FJ (a0 J:aye):ayg:=
 cond ((a0.length:Int) !=(J.length:Int)) (some false) (bZ λn=>BK a0 J n 0)
def BL (a0 J:bd):ayg:=
 cond (a0.cp==J.cp) (cond (a0.Part==J.Part) ((FJ a0.bH J.bH).bind λR=>some R) (some false)) (some false)
def O3 (de:Int->Option ayB) (a0:ayB) (J:bk) (aA:Int):Option ayB:=
 cond (decide (aA<(a0.length:Int))) ((bh a0 aA).bind λR=>cond (R.Label==J.Label) ((BL R.Next J.Next).bind λae=>cond ae (some a0) (de (i64.wrap (aA+1)))) (de (i64.wrap (aA+1)))) ((room 56 (a0.length+1)).bind λ_=>some (a0++[J]))
def BM (a0:ayB) (J:bk):Nat->Int->Option ayB
 |0,_=>none
 |n+1,aA=>O3 (BM a0 J n) a0 J aA
def Jx (a0:ayB) (J:bk):Option ayB:=
 bZ λn=>BM a0 J n 0
def zh (ma:ayw->Int->Int->aye->ayB->Option ayB) (a0:ayw) (J a2:Int) (a3:aye) (BN:ayB):Option ayB:=
 some BN
def FK (ma:ayw->Int->Int->aye->ayB->Option ayB) (a3:aye) (a4:ayB) (ae:b1) (zi zj:Int) (zk:aye):Option ayB:=
 (FG ae.cd a3).bind λaX=>(FI ae.Name aX).bind λaT=>(Jx a4 (bk.mk aT (bd.mk zi zj zk))).bind λbp=>some bp
def O4 (ma:ayw->Int->Int->aye->ayB->Option ayB) (qu:ayB->Int->Option ayB) (a0:ayw) (J a2:Int) (a3:aye) (ae:b1) (ug:ayB) (kZ:Int):Option ayB:=
 cond (decide (kZ<=ae.Number)) ((BG a3).bind λhk=>(room 8 (hk.length+1)).bind λ_=>(ma a0 J (i64.wrap (a2+1)) (hk++[kZ]) ug).bind λjd=>qu jd (i64.wrap (kZ+1))) (zh ma a0 J a2 a3 ug)
def BO (ma:ayw->Int->Int->aye->ayB->Option ayB) (a0:ayw) (J a2:Int) (a3:aye) (ae:b1):Nat->ayB->Int->Option ayB
 |0,_,_=>none
 |n+1,ug,kZ=>O4 ma (BO ma a0 J a2 a3 ae n) a0 J a2 a3 ae ug kZ
def xM (ma:ayw->Int->Int->aye->ayB->Option ayB) (a0:ayw) (J a2:Int) (a3:aye) (a4:ayB):Option ayB:=
 (bh a0 J).bind λR=>(bh R.Body a2).bind λae=>cond (decide (200<(a4.length:Int))) (some a4) (cond (ae.Kind==1) ((BG a3).bind λaD=>(bh R.Body (i64.wrap (a2+1))).bind λbs=>cond (bs.Kind==5) ((FG bs.cd a3).bind λcv=>FK ma a3 a4 ae bs.Number 0 cv) (FK ma a3 a4 ae J (i64.wrap (a2+1)) aD)) (cond (ae.Kind==2) ((ma a0 J (i64.wrap (a2+1)) a3 a4).bind λdE=>(Fy R.Body (i64.wrap (a2+1))).bind λdI=>(ma a0 J dI a3 dE).bind λe6=>some e6) (cond (ae.Kind==3) ((bh ae.cd 0).bind λkv=>(ze kv a3).bind λmy=>cond (my !=0) ((ma a0 J (i64.wrap (a2+1)) a3 a4).bind λiW=>some iW) (zh ma a0 J a2 a3 a4)) (cond (ae.Kind==4) (bZ λn=>BO ma a0 J a2 a3 ae n a4 0) (zh ma a0 J a2 a3 a4)))))
def rk:Nat->ayw->Int->Int->aye->ayB->Option ayB
 |0,_,_,_,_,_=>none
 |n+1,a0,J,a2,a3,a4=>xM (rk n) a0 J a2 a3 a4
def Jy (a0:ayw) (J a2:Int) (a3:aye) (a4:ayB):Option ayB:=
 bZ λn=>rk n a0 J a2 a3 a4
def uh (a0:ayw) (J:bd):Option (ayB×Bool):=
 (Jy a0 J.cp J.Part J.bH []).bind λR=>some (R,(decide ((R.length:Int)<=200)))
def O5 (de:Int->ayh) (a0:ayc) (iG:Int):ayh:=
 cond (decide (iG<(a0.length:Int))) ((bh a0 iG).bind λR=>cond ((R.toNat:Int)==40) (some iG) (de (i64.wrap (iG+1)))) (some (a0.length:Int))
def xN (a0:ayc):Nat->Int->ayh
 |0,_=>none
 |n+1,iG=>O5 (xN a0 n) a0 iG
def zl (a0:ayc):ayh:=
 bZ λn=>xN a0 n 0
def sI (a0:ayc):Option ayc:=
 (zl a0).bind λR=>(gB a0 0 R).bind λae=>some ae
def O6 (de:Int->ayh) (a0:ayb) (J:ayc) (aA:Int):ayh:=
 cond (decide (aA<(a0.length:Int))) ((bh a0 aA).bind λR=>cond (R==J) (some aA) (de (i64.wrap (aA+1)))) (some (-1))
def BP (a0:ayb) (J:ayc):Nat->Int->ayh
 |0,_=>none
 |n+1,aA=>O6 (BP a0 J n) a0 J aA
def BQ (a0:ayb) (J:ayc):ayh:=
 bZ λn=>BP a0 J n 0
def O7 (fK:ayz->Int->Option ayz) (a0 bY:ayz) (bN:Int):Option ayz:=
 cond (decide (bN<(a0.length:Int))) ((bh a0 bN).bind λR=>(BG R.bH).bind λae=>(room 40 (bY.length+1)).bind λ_=>fK (bY++[(bd.mk R.cp R.Part ae)]) (i64.wrap (bN+1))) (some bY)
def BR (a0:ayz):Nat->ayz->Int->Option ayz
 |0,_,_=>none
 |n+1,bY,bN=>O7 (BR a0 n) a0 bY bN
def vI (a0:ayz):Option ayz:=
 bZ λn=>BR a0 n [] 0
def BS (a0:cE) (J:ayc):Option ayc:=
 (sI J).bind λR=>(BQ a0.dk R).bind λae=>cond (decide (0<=ae)) (some ([116,97,117]:ayc)) (some J)
def O8 (fA:Int->ayg) (a0 J:ayz) (ca:Int):ayg:=
 cond (decide (ca<(a0.length:Int))) ((bh a0 ca).bind λR=>(bh J ca).bind λae=>(BL R ae).bind λaD=>cond (!aD) (some false) (fA (i64.wrap (ca+1)))) (some true)
def BT (a0 J:ayz):Nat->Int->ayg
 |0,_=>none
 |n+1,ca=>O8 (BT a0 J n) a0 J ca
def Jz (a0 J:ayz):ayg:=
 cond ((a0.length:Int) !=(J.length:Int)) (some false) (bZ λn=>BT a0 J n 0)
def O9 (de:Int->Option ayA) (a0:ayA) (J:a1) (aA:Int):Option ayA:=
 cond (decide (aA<(a0.length:Int))) ((bh a0 aA).bind λR=>cond (R.Label==J.Label) (cond (R.gH==J.gH) (cond (R.Second==J.Second) ((Jz R.State J.State).bind λae=>cond ae (some a0) (de (i64.wrap (aA+1)))) (de (i64.wrap (aA+1)))) (de (i64.wrap (aA+1)))) (de (i64.wrap (aA+1)))) ((room 56 (a0.length+1)).bind λ_=>some (a0++[J]))
def BU (a0:ayA) (J:a1):Nat->Int->Option ayA
 |0,_=>none
 |n+1,aA=>O9 (BU a0 J n) a0 J aA
def zm (a0:ayA) (J:a1):Option ayA:=
 bZ λn=>BU a0 J n 0
def JA (ko:ayb->Int->Int->Option ayb) (a0:ayc) (J:UInt8) (BV:ayb) (BW BX:Int):Option ayb:=
 ko BV BW (i64.wrap (BX+1))
def O_ (ko:ayb->Int->Int->Option ayb) (a0:ayc) (J:UInt8) (j7:ayb) (lq gh:Int):Option ayb:=
 cond (decide (gh<(a0.length:Int))) ((bh a0 gh).bind λR=>cond ((R.toNat:Int)==(J.toNat:Int)) ((gB a0 lq gh).bind λae=>(room 16 (j7.length+1)).bind λ_=>JA ko a0 J (j7++[ae]) (i64.wrap (gh+1)) gh) (JA ko a0 J j7 lq gh)) ((gB a0 lq (a0.length:Int)).bind λaD=>(room 16 (j7.length+1)).bind λ_=>some (j7++[aD]))
def zn (a0:ayc) (J:UInt8):Nat->ayb->Int->Int->Option ayb
 |0,_,_,_=>none
 |n+1,j7,lq,gh=>O_ (zn a0 J n) a0 J j7 lq gh
def JB (a0:ayc) (J:UInt8):Option ayb:=
 bZ λn=>zn a0 J n [] 0 0
def FL (sJ:Int):Option (Int×Bool):=
 some (sJ,true)
def Pa (aiN:Int->Int->Option (Int×Bool)) (a0:ayc) (ib nt pq:Int):Option (Int×Bool):=
 cond (decide (pq<(a0.length:Int))) ((bh a0 pq).bind λaX=>(Bt aX).bind λaT=>cond (!aT) (some (0,false)) (aiN (i64.wrap ((i64.wrap (10*nt))+(i64.wrap (u8.wrap ((aX.toNat:Int)-48))))) (i64.wrap (pq+1)))) (cond (ib==1) (FL (i64.wrap (0-nt))) (FL nt))
def vJ (a0:ayc) (ib:Int):Nat->Int->Int->Option (Int×Bool)
 |0,_,_=>none
 |n+1,nt,pq=>Pa (vJ a0 ib n) a0 ib nt pq
def BZ (a0:ayc) (ib:Int):Option (Int×Bool):=
 cond ((a0.length:Int)==ib) (some (0,false)) (cond (decide (18<(i64.wrap ((a0.length:Int)-ib)))) (some (0,false)) ((bh a0 ib).bind λR=>cond ((R.toNat:Int)==48) (cond (decide (1<(a0.length:Int))) (some (0,false)) (bZ λn=>vJ a0 ib n 0 ib)) (bZ λn=>vJ a0 ib n 0 ib)))
def JC (a0:ayc):Option (Int×Bool):=
 cond (decide (0<(a0.length:Int))) ((bh a0 0).bind λbp=>cond ((bp.toNat:Int)==45) (BZ a0 1) (BZ a0 0)) (BZ a0 0)
def Pb (aiO:aye->Int->Option (aye×Bool)) (bs:ayb) (pr:aye) (rl:Int):Option (aye×Bool):=
 cond (decide (rl<(bs.length:Int))) ((bh bs rl).bind λcv=>(JC cv).bind λdE=>cond (!dE.2) (some ([],false)) ((l_ dE.1 0 63).bind λdI=>cond (!dI) (some ([],false)) ((room 8 (pr.length+1)).bind λ_=>aiO (pr++[dE.1]) (i64.wrap (rl+1))))) (some (pr,(decide ((pr.length:Int)<=2))))
def zo (bs:ayb):Nat->aye->Int->Option (aye×Bool)
 |0,_,_=>none
 |n+1,pr,rl=>Pb (zo bs n) bs pr rl
def zp (a0:ayc):Option (aye×Bool):=
 (zl a0).bind λR=>cond (R==(a0.length:Int)) ((xI a0).bind λae=>some ([],ae)) ((gB a0 0 R).bind λaD=>(ue aD).bind λaX=>cond (!aX) (some ([],false)) ((bh a0 (i64.wrap ((a0.length:Int)-1))).bind λaT=>cond ((aT.toNat:Int) !=41) (some ([],false)) ((gB a0 (i64.wrap (R+1)) (i64.wrap ((a0.length:Int)-1))).bind λbp=>(JB bp (44:UInt8)).bind λbs=>bZ λn=>zo bs n [] 0)))
def Pc (ui:ayy->ayc->ayc->Option ayc) (fA:Int->Option ayc) (a0:ayy) (J a2:ayc) (sK:Int):Option ayc:=
 cond (decide (sK<(a0.length:Int))) ((bh a0 sK).bind λae=>cond ((ae.Left==J)&&(ae.cx==a2)) (some ae.Result) (fA (i64.wrap (sK+1)))) (some ([]:ayc))
def B0 (ui:ayy->ayc->ayc->Option ayc) (a0:ayy) (J a2:ayc):Nat->Int->Option ayc
 |0,_=>none
 |n+1,sK=>Pc ui (B0 ui a0 J a2 n) a0 J a2 sK
def zq (ui:ayy->ayc->ayc->Option ayc) (a0:ayy) (J a2:ayc):Option ayc:=
 cond (!(Op.bytesLess J a2||J==a2)) ((ui a0 a2 J).bind λR=>some R) (bZ λn=>B0 ui a0 J a2 n 0)
def B1:Nat->ayy->ayc->ayc->Option ayc
 |0,_,_,_=>none
 |n+1,a0,J,a2=>zq (B1 n) a0 J a2
def FM (a0:ayy) (J a2:ayc):Option ayc:=
 bZ λn=>B1 n a0 J a2
def JD (a0:cE) (J a2:ayc):Option ayc:=
 (zp J).bind λR=>(zp a2).bind λae=>(FJ R.1 ae.1).bind λaD=>cond (!aD) (some ([]:ayc)) ((sI J).bind λaX=>(sI a2).bind λaT=>(FM a0.cz aX aT).bind λbp=>cond (bp==([]:ayc)) (some ([]:ayc)) ((BQ a0.dj bp).bind λbs=>cond (decide (bs<0)) (some ([]:ayc)) ((FI bp R.1).bind λcv=>some cv)))
def FN (qv:ayA->ayn->Int->Option (ayA×Bool)) (zf:ayA->ayn->Int->Int->Option (ayA×Bool)) (a0:cE) (J:ayz) (B2:ayA) (B3:ayn) (B4 B5:Int):Option (ayA×Bool):=
 zf B2 B3 B4 (i64.wrap (B5+1))
def Pd (qv:ayA->ayn->Int->Option (ayA×Bool)) (zf:ayA->ayn->Int->Int->Option (ayA×Bool)) (a0:cE) (J:ayz) (ir:ayA) (hZ:ayn) (hR lO:Int):Option (ayA×Bool):=
 (bh hZ hR).bind λaD=>cond (decide (lO<(aD.length:Int))) ((bh aD lO).bind λaX=>cond (!(aX.Label==([116,97,117]:ayc))) ((sI aX.Label).bind λaT=>(BQ a0.dj aT).bind λbp=>cond (decide (bp<0)) (FN qv zf a0 J ir hZ hR lO) ((vI J).bind λbs=>(bh bs hR).bind λcv=>(BS a0 aX.Label).bind λdE=>(vI (List.set bs (Int.toNat hR) aX.Next)).bind λdI=>(zm ir (a1.mk dE hR (-1) dI)).bind λe6=>FN qv zf a0 J e6 hZ hR lO)) ((vI J).bind λkv=>(bh kv hR).bind λmy=>(BS a0 aX.Label).bind λiW=>(vI (List.set kv (Int.toNat hR) aX.Next)).bind λhk=>(zm ir (a1.mk iW hR (-1) hk)).bind λjd=>FN qv zf a0 J jd hZ hR lO)) (qv ir hZ (i64.wrap (hR+1)))
def xO (qv:ayA->ayn->Int->Option (ayA×Bool)) (a0:cE) (J:ayz):Nat->ayA->ayn->Int->Int->Option (ayA×Bool)
 |0,_,_,_,_=>none
 |n+1,ir,hZ,hR,lO=>Pd qv (xO qv a0 J n) a0 J ir hZ hR lO
def JE (iu:ayA->ayn->Int->Option (ayA×Bool)) (kN:ayA->ayn->Int->Int->Option (ayA×Bool)) (pT:ayA->ayn->Int->Int->Int->Option (ayA×Bool)) (JF:ayA->ayn->Int->Int->Int->Int->Option (ayA×Bool)) (a0:cE) (J:ayz) (B6:ayA) (B7:ayn) (B8 B9:Int) (B_ Ca:Int):Option (ayA×Bool):=
 JF B6 B7 B8 B9 B_ (i64.wrap (Ca+1))
def JG (iu:ayA->ayn->Int->Option (ayA×Bool)) (kN:ayA->ayn->Int->Int->Option (ayA×Bool)) (pT:ayA->ayn->Int->Int->Int->Option (ayA×Bool)) (JF:ayA->ayn->Int->Int->Int->Int->Option (ayA×Bool)) (a0:cE) (J:ayz) (nu:ayA) (mQ:ayn) (j8 kO:Int) (nv mR:Int):Option (ayA×Bool):=
 (bh mQ kO).bind λpU=>cond ((decide (mR<(pU.length:Int)))&&(decide ((nu.length:Int)<=200))) ((bh mQ j8).bind λlr=>(bh lr nv).bind λlu=>(bh pU mR).bind λk1=>(JD a0 lu.Label k1.Label).bind λmS=>cond (mS==([]:ayc)) (JE iu kN pT JF a0 J nu mQ j8 kO nv mR) ((vI J).bind λlv=>(bh lv j8).bind λPe=>(bh (List.set lv (Int.toNat j8) lu.Next) kO).bind λvK=>(BS a0 mS).bind λrm=>(vI (List.set (List.set lv (Int.toNat j8) lu.Next) (Int.toNat kO) k1.Next)).bind λuj=>(zm nu (a1.mk rm j8 kO uj)).bind λJH=>JE iu kN pT JF a0 J JH mQ j8 kO nv mR)) (pT nu mQ j8 kO (i64.wrap (nv+1)))
def uk (iu:ayA->ayn->Int->Option (ayA×Bool)) (kN:ayA->ayn->Int->Int->Option (ayA×Bool)) (pT:ayA->ayn->Int->Int->Int->Option (ayA×Bool)) (a0:cE) (J:ayz):Nat->ayA->ayn->Int->Int->Int->Int->Option (ayA×Bool)
 |0,_,_,_,_,_,_=>none
 |n+1,nu,mQ,j8,kO,nv,mR=>JG iu kN pT (uk iu kN pT a0 J n) a0 J nu mQ j8 kO nv mR
def Pf (iu:ayA->ayn->Int->Option (ayA×Bool)) (kN:ayA->ayn->Int->Int->Option (ayA×Bool)) (pT:ayA->ayn->Int->Int->Int->Option (ayA×Bool)) (a0:cE) (J:ayz) (um:ayA) (sL:ayn) (sM uo vL:Int):Option (ayA×Bool):=
 (bh sL sM).bind λiv=>cond (decide (vL<(iv.length:Int))) (bZ λn=>uk iu kN pT a0 J n um sL sM uo vL 0) (kN um sL sM (i64.wrap (uo+1)))
def rn (iu:ayA->ayn->Int->Option (ayA×Bool)) (kN:ayA->ayn->Int->Int->Option (ayA×Bool)) (a0:cE) (J:ayz):Nat->ayA->ayn->Int->Int->Int->Option (ayA×Bool)
 |0,_,_,_,_,_=>none
 |n+1,um,sL,sM,uo,vL=>Pf iu kN (rn iu kN a0 J n) a0 J um sL sM uo vL
def Pg (iu:ayA->ayn->Int->Option (ayA×Bool)) (kN:ayA->ayn->Int->Int->Option (ayA×Bool)) (a0:cE) (J:ayz) (uq:ayA) (ur:ayn) (uu vM:Int):Option (ayA×Bool):=
 cond (decide (vM<(J.length:Int))) (bZ λn=>rn iu kN a0 J n uq ur uu vM 0) (iu uq ur (i64.wrap (uu+1)))
def oP (iu:ayA->ayn->Int->Option (ayA×Bool)) (a0:cE) (J:ayz):Nat->ayA->ayn->Int->Int->Option (ayA×Bool)
 |0,_,_,_,_=>none
 |n+1,uq,ur,uu,vM=>Pg iu (oP iu a0 J n) a0 J uq ur uu vM
def Ph (iu:ayA->ayn->Int->Option (ayA×Bool)) (a0:cE) (J:ayz) (rp:ayA) (xP:ayn) (sN:Int):Option (ayA×Bool):=
 cond (decide (sN<(J.length:Int))) (bZ λn=>oP iu a0 J n rp xP sN (i64.wrap (sN+1))) (some (rp,(decide ((rp.length:Int)<=200))))
def lP (a0:cE) (J:ayz):Nat->ayA->ayn->Int->Option (ayA×Bool)
 |0,_,_,_=>none
 |n+1,rp,xP,sN=>Ph (lP a0 J n) a0 J rp xP sN
def Pj (qv:ayA->ayn->Int->Option (ayA×Bool)) (a0:cE) (J:ayz) (uv:ayA) (uw:ayn) (vN:Int):Option (ayA×Bool):=
 cond (decide (vN<(J.length:Int))) (bZ λn=>xO qv a0 J n uv uw vN 0) (bZ λn=>lP a0 J n uv uw 0)
def sO (a0:cE) (J:ayz):Nat->ayA->ayn->Int->Option (ayA×Bool)
 |0,_,_,_=>none
 |n+1,uv,uw,vN=>Pj (sO a0 J n) a0 J uv uw vN
def FO (ko:ayn->Int->Option (ayA×Bool)) (a0:cE) (J:ayz) (gh:ayn) (pV:Int):Option (ayA×Bool):=
 cond (decide (pV<(J.length:Int))) ((bh J pV).bind λR=>(uh a0.c8 R).bind λae=>cond (!ae.2) (some ([],false)) ((room 24 (gh.length+1)).bind λ_=>ko (gh++[ae.1]) (i64.wrap (pV+1)))) (bZ λn=>sO a0 J n [] gh 0)
def vO (a0:cE) (J:ayz):Nat->ayn->Int->Option (ayA×Bool)
 |0,_,_=>none
 |n+1,gh,pV=>FO (vO a0 J n) a0 J gh pV
def JI (a0:cE) (J:ayz):Option (ayA×Bool):=
 bZ λn=>vO a0 J n [] 0
def JJ (a0:cE) (J:ayz):Option (ayA×Int):=
 (Jr a0 J).bind λR=>cond (R !=0) (some ([],R)) ((JI a0 J).bind λae=>cond (!ae.2) (some ([],5)) (some (ae.1,0)))
def k2 (a0 J a2:Int):ayg:=
 some ((decide (J<=a0))&&(decide (a0<=a2)))
def Pk (a0:bb):ayg:=
 (k2 a0.dP 0 3).bind λR=>some (!R)
def Pl (de:Int->ayh) (a0:ayw) (cA:Int):ayh:=
 cond (decide (cA<(a0.length:Int))) ((bh a0 cA).bind λR=>(Pk R).bind λae=>cond ae (some cA) (de (i64.wrap (cA+1)))) (some (-1))
def FP (a0:ayw):Nat->Int->ayh
 |0,_=>none
 |n+1,cA=>Pl (FP a0 n) a0 cA
def Pm (a0:ayw):ayh:=
 bZ λn=>FP a0 n 0
def Pn (a0:ayw):ayg:=
 (Pm a0).bind λR=>some (decide (0<=R))
def JK (a0:ayw):ayg:=
 (Pn a0).bind λR=>some (!R)
def Po (a0:UInt8):ayg:=
 some ((decide (48<=(a0.toNat:Int)))&&(decide ((a0.toNat:Int)<=57)))
def JL (de:Int->ayg) (a0:ayc) (fR:Int):ayg:=
 cond (decide (fR<(a0.length:Int))) ((bh a0 fR).bind λR=>cond (!((decide (97<=(R.toNat:Int)))&&(decide ((R.toNat:Int)<=122)))) (cond (fR==0) (some false) ((Po R).bind λae=>cond (!ae) (some false) (de (i64.wrap (fR+1))))) (de (i64.wrap (fR+1)))) (some ((decide (1<=(a0.length:Int)))&&(decide ((a0.length:Int)<=10))))
def xQ (a0:ayc):Nat->Int->ayg
 |0,_=>none
 |n+1,fR=>JL (xQ a0 n) a0 fR
def FQ (a0:ayc):ayg:=
 bZ λn=>xQ a0 n 0
def Pp (a0:bb) (J:ayc):ayg:=
 some (a0.Name==J)
def Pq (de:Int->ayh) (a0:ayw) (J:ayc) (cA:Int):ayh:=
 cond (decide (cA<(a0.length:Int))) ((bh a0 cA).bind λR=>(Pp R J).bind λae=>cond ae (some cA) (de (i64.wrap (cA+1)))) (some (-1))
def FR (a0:ayw) (J:ayc):Nat->Int->ayh
 |0,_=>none
 |n+1,cA=>Pq (FR a0 J n) a0 J cA
def Pr (a0:ayw) (J:ayc):ayh:=
 bZ λn=>FR a0 J n 0
def JM (a0:ayw) (J:ayc):ayh:=
 (Pr a0 J).bind λR=>some R
def FT (a0:b1) (ej:Bool):ayh:=
 cond ej (some 1) (cond (a0.Kind==2) (some 2) (some 0))
def FU (a0:b1):ayh:=
 cond (a0.Kind==1) (FT a0 true) (cond (a0.Kind==3) (FT a0 true) (FT a0 (a0.Kind==4)))
def Ps (de:Int->Int->ayh) (a0:bb) (aR aA:Int):ayh:=
 cond (decide (0<aA)) (cond (decide ((a0.Body.length:Int)<=aR)) (some (-1)) ((bh a0.Body aR).bind λR=>(FU R).bind λae=>de (i64.wrap (aR+1)) (i64.wrap (aA+(i64.wrap (ae-1)))))) (some aR)
def Cb (a0:bb):Nat->Int->Int->ayh
 |0,_,_=>none
 |n+1,aR,aA=>Ps (Cb a0 n) a0 aR aA
def FV (a0:bb) (J:Int):ayh:=
 bZ λn=>Cb a0 n J 1
def Pt (pW:Int->dM->ayC->bb->Option (Int×ayC)) (aiP:ayC->Int->Int->Option (Int×ayC)) (a3:bb) (oc:Int) (ae:b1) (aD:Int) (vP:ayC) (sP ux:Int):Option (Int×ayC):=
 cond (decide (ux<aD)) ((pW sP (dM.mk oc (ae.Kind==1)) vP a3).bind λaX=>aiP aX.2 aX.1 (i64.wrap (ux+1))) (some (sP,vP))
def zr (pW:Int->dM->ayC->bb->Option (Int×ayC)) (a3:bb) (oc:Int) (ae:b1) (aD:Int):Nat->ayC->Int->Int->Option (Int×ayC)
 |0,_,_,_=>none
 |n+1,vP,sP,ux=>Pt pW (zr pW a3 oc ae aD n) a3 oc ae aD vP sP ux
def JN (pW:Int->dM->ayC->bb->Option (Int×ayC)) (a0:Int) (J:dM) (a2:ayC) (a3:bb) (ae:b1) (oc:Int):Option (Int×ayC):=
 (FU ae).bind λaD=>bZ λn=>zr pW a3 oc ae aD n (List.set a2 (Int.toNat a0) J) (i64.wrap (a0+1)) 0
def Pu (pW:Int->dM->ayC->bb->Option (Int×ayC)) (a0:Int) (J:dM) (a2:ayC) (a3:bb):Option (Int×ayC):=
 (bh a2 a0).bind λR=>(bh a3.Body a0).bind λae=>cond (ae.Kind==4) (JN pW a0 J a2 a3 ae (i64.wrap (J.scope+1))) (JN pW a0 J a2 a3 ae J.scope)
def zs:Nat->Int->dM->ayC->bb->Option (Int×ayC)
 |0,_,_,_,_=>none
 |n+1,a0,J,a2,a3=>Pu (zs n) a0 J a2 a3
def JO (a0:Int) (J:dM) (a2:ayC) (a3:bb):Option (Int×ayC):=
 bZ λn=>zs n a0 J a2 a3
def Cc (a0:bb):Option ayC:=
 (nz 16 (a0.Body.length:Int)).bind λ_=>(JO 0 (dM.mk a0.dP false) (replicate (Int.toNat (a0.Body.length:Int)) (dM.mk 0 false)) a0).bind λR=>some R.2
def Pv (a0:b1):ayg:=
 (k2 a0.Kind 0 5).bind λR=>some (((R&&(((a0.Kind==4)||(a0.Kind==5))||(a0.Number==0)))&&((a0.Kind==1)||(a0.Name==([]:ayc))))&&((((a0.Kind==1)||(a0.Kind==3))||(a0.Kind==5))||((a0.cd.length:Int)==0)))
def uy (a0:ayc):ayg:=
 (FQ a0).bind λR=>some (R&&(!(a0==([116,97,117]:ayc))))
def xR (a0 J:Int):ayg:=
 (k2 a0 0 (i64.wrap (J-1))).bind λR=>some R
def Pw (a0:b1) (J:ayw):ayg:=
 cond (a0.Kind==1) (some (((a0.cd.length:Int)==0)||((!(a0.Name==([116,97,117]:ayc)))&&(decide ((a0.cd.length:Int)<=2))))) (cond (a0.Kind==3) (some ((a0.cd.length:Int)==1)) (cond (a0.Kind==5) ((bh J a0.Number).bind λR=>some ((a0.cd.length:Int)==R.dP)) (some true)))
def FW (a0:Int):ayg:=
 (k2 a0 0 63).bind λR=>some R
def JP (a0:bQ) (J:Int):ayg:=
 cond (a0.Kind==0) ((FW a0.Value).bind λR=>some R) (cond (a0.Kind==1) ((k2 a0.Value 0 (i64.wrap (J-1))).bind λae=>some ae) (cond (a0.Kind==2) ((k2 a0.Value 0 8).bind λaD=>some aD) (cond (a0.Kind==3) (some (a0.Value==0)) (some false))))
def JQ (a0:bQ):ayh:=
 cond (a0.Kind==2) (some 2) (cond (a0.Kind==3) (some 1) (some 0))
def Px (jr:Int->Int->ayg) (a0:ayu) (J jR uz:Int):ayg:=
 cond (decide (uz<(a0.length:Int))) ((bh a0 uz).bind λaX=>cond (jR==0) (some false) ((JP aX J).bind λaT=>cond (!aT) (some false) ((JQ aX).bind λbp=>jr (i64.wrap (jR+(i64.wrap (bp-1)))) (i64.wrap (uz+1))))) (some (jR==0))
def Cd (a0:ayu) (J:Int):Nat->Int->Int->ayg
 |0,_,_=>none
 |n+1,jR,uz=>Px (Cd a0 J n) a0 J jR uz
def JR (a0:ayu) (J a2:Int):ayg:=
 (k2 J 0 29).bind λR=>cond (!R) (some false) ((k2 a2 1 60).bind λae=>cond (!ae) (some false) ((k2 (a0.length:Int) 1 a2).bind λaD=>cond (!aD) (some false) (bZ λn=>Cd a0 J n 1 0)))
def Py (a0:ayu) (J:dM):ayg:=
 (JR a0 J.scope 15).bind λR=>some (!R)
def Pz (de:Int->ayh) (a0:aym) (J:dM) (cA:Int):ayh:=
 cond (decide (cA<(a0.length:Int))) ((bh a0 cA).bind λR=>(Py R J).bind λae=>cond ae (some cA) (de (i64.wrap (cA+1)))) (some (-1))
def FX (a0:aym) (J:dM):Nat->Int->ayh
 |0,_=>none
 |n+1,cA=>Pz (FX a0 J n) a0 J cA
def PA (a0:aym) (J:dM):ayh:=
 bZ λn=>FX a0 J n 0
def JS (a0:aym) (J:dM):ayg:=
 (PA a0 J).bind λR=>some (decide (0<=R))
def zt (a0:b1) (J:ayw) (a2:dM) (FY:Bool):ayh:=
 cond FY (some 4) ((Pw a0 J).bind λae=>cond (!ae) (some 5) (cond ((a0.Kind==5)&&(!a2.behind)) (some 6) (cond ((a0.Kind==4)&&(decide (6<=a2.scope))) (some 7) ((JS a0.cd a2).bind λaD=>cond aD (some 8) (some 0)))))
def FZ (a0:b1) (J:ayw) (a2:dM) (F1:Bool):ayh:=
 cond F1 (some 3) (cond (a0.Kind==4) ((k2 a0.Number 1 7).bind λaX=>cond (!aX) (zt a0 J a2 true) (cond (a0.Kind==5) ((xR a0.Number (J.length:Int)).bind λaT=>zt a0 J a2 (!aT)) (zt a0 J a2 false))) (cond (a0.Kind==5) ((xR a0.Number (J.length:Int)).bind λbp=>zt a0 J a2 (!bp)) (zt a0 J a2 false)))
def F2 (a0:b1) (J:ayw) (a2:dM):ayh:=
 (Pv a0).bind λR=>cond (!R) (some 2) (cond (a0.Kind==1) (cond (!(a0.Name==([116,97,117]:ayc))) ((uy a0.Name).bind λbs=>FZ a0 J a2 (!bs)) (FZ a0 J a2 false)) (FZ a0 J a2 false))
def JT (jr:Int->Option (Int×Int)) (a0:ayw) (J:bb) (aD:ayC) (qw:Int):Option (Int×Int):=
 cond (decide (qw<(J.Body.length:Int))) ((bh J.Body qw).bind λaX=>(bh aD qw).bind λaT=>(F2 aX a0 aT).bind λbp=>cond (bp !=0) (some (qw,bp)) (jr (i64.wrap (qw+1)))) (some (0,0))
def zu (a0:ayw) (J:bb) (aD:ayC):Nat->Int->Option (Int×Int)
 |0,_=>none
 |n+1,qw=>JT (zu a0 J aD n) a0 J aD qw
def F3 (a0:ayw) (J:bb):Option (Int×Int):=
 (k2 (J.Body.length:Int) 1 20).bind λR=>cond (!R) (some (0,1)) ((FV J 0).bind λae=>cond (ae !=(J.Body.length:Int)) (some (0,1)) ((Cc J).bind λaD=>bZ λn=>zu a0 J aD n 0))
def PB (fA:Int->ayg) (a0:ayw) (rq:Int):ayg:=
 cond (decide (rq<(a0.length:Int))) ((bh a0 rq).bind λaD=>(FQ aD.Name).bind λaX=>cond (!aX) (some false) ((gB a0 0 rq).bind λaT=>(JM aT aD.Name).bind λbp=>cond (decide (0<=bp)) (some false) ((F3 a0 aD).bind λbs=>cond (bs.2 !=0) (some false) (fA (i64.wrap (rq+1)))))) (some true)
def Ce (a0:ayw):Nat->Int->ayg
 |0,_=>none
 |n+1,rq=>PB (Ce a0 n) a0 rq
def JU (a0:ayw):ayg:=
 (k2 (a0.length:Int) 1 4).bind λR=>cond (!R) (some false) ((JK a0).bind λae=>cond (!ae) (some false) (bZ λn=>Ce a0 n 0))
def PC (a0:Int):ayg:=
 (FW a0).bind λR=>some (!R)
def PD (de:Int->ayh) (a0:aye) (cA:Int):ayh:=
 cond (decide (cA<(a0.length:Int))) ((bh a0 cA).bind λR=>(PC R).bind λae=>cond ae (some cA) (de (i64.wrap (cA+1)))) (some (-1))
def F4 (a0:aye):Nat->Int->ayh
 |0,_=>none
 |n+1,cA=>PD (F4 a0 n) a0 cA
def PE (a0:aye):ayh:=
 bZ λn=>F4 a0 n 0
def PF (a0:aye):ayg:=
 (PE a0).bind λR=>some (decide (0<=R))
def Cf (a0:aye):ayg:=
 (PF a0).bind λR=>some (!R)
def JV (a0:ayw) (J:df):ayg:=
 (xR J.cp (a0.length:Int)).bind λR=>cond R ((bh a0 J.cp).bind λae=>cond ((J.bH.length:Int)==ae.dP) ((Cf J.bH).bind λaD=>some aD) (some false)) (some false)
def PG (a0:df) (J:cE):ayg:=
 (JV J.c8 a0).bind λR=>some (!R)
def PH (de:Int->ayh) (a0:ayx) (J:cE) (cA:Int):ayh:=
 cond (decide (cA<(a0.length:Int))) ((bh a0 cA).bind λR=>(PG R J).bind λae=>cond ae (some cA) (de (i64.wrap (cA+1)))) (some (-1))
def F5 (a0:ayx) (J:cE):Nat->Int->ayh
 |0,_=>none
 |n+1,cA=>PH (F5 a0 J n) a0 J cA
def PI (a0:ayx) (J:cE):ayh:=
 bZ λn=>F5 a0 J n 0
def JW (a0:ayx) (J:cE):ayg:=
 (PI a0 J).bind λR=>some (decide (0<=R))
def JX (a0:ayc):ayg:=
 some false
def JY (a0 J:ayc):ayh:=
 (JX a0).bind λR=>(JX J).bind λae=>cond R (cond ae (some 0) (some (-1))) (cond ae (some 1) (cond (Op.bytesLess a0 J) (some (-1)) (cond (!(Op.bytesLess a0 J||a0==J)) (some 1) (some 0))))
def Xz (de:Int->ayh) (a0 J:ayb) (rr:Int):ayh:=
 cond (decide (rr<(a0.length:Int))) ((bh a0 rr).bind λR=>cond (decide ((J.length:Int)<=rr)) (some 1) ((bh J rr).bind λae=>(JY R ae).bind λaD=>cond (aD !=0) (some aD) (de (i64.wrap (rr+1))))) (cond (decide ((a0.length:Int)<(J.length:Int))) (some (-1)) (some 0))
def JZ (a0 J:ayb):Nat->Int->ayh
 |0,_=>none
 |n+1,rr=>Xz (JZ a0 J n) a0 J rr
def J0 (a0 J:ayb):ayh:=
 bZ λn=>JZ a0 J n 0
def J1 (a0 J:b0):ayh:=
 (J0 [a0.Left,a0.cx] [J.Left,J.cx]).bind λR=>some R
def PJ (a0 J:b0):ayg:=
 some ((a0.Left==J.Result)||(a0.cx==J.Result))
def PK (de:Int->ayh) (a0:ayy) (J:b0) (cA:Int):ayh:=
 cond (decide (cA<(a0.length:Int))) ((bh a0 cA).bind λR=>(PJ R J).bind λae=>cond ae (some cA) (de (i64.wrap (cA+1)))) (some (-1))
def F6 (a0:ayy) (J:b0):Nat->Int->ayh
 |0,_=>none
 |n+1,cA=>PK (F6 a0 J n) a0 J cA
def PL (a0:ayy) (J:b0):ayh:=
 bZ λn=>F6 a0 J n 0
def F7 (a0:ayy) (J:b0):ayg:=
 (PL a0 J).bind λR=>some (decide (0<=R))
def PM (de:Int->ayg) (a0:ayy) (fR:Int):ayg:=
 cond (decide (fR<(a0.length:Int))) ((bh a0 fR).bind λR=>(uy R.Left).bind λaT=>cond (!aT) (some false) ((uy R.cx).bind λbp=>cond (!bp) (some false) ((uy R.Result).bind λbs=>cond (!bs) (some false) (cond (!(Op.bytesLess R.Left R.cx||R.Left==R.cx)) (some false) (cond (decide (0<fR)) ((bh a0 (i64.wrap (fR-1))).bind λcv=>(J1 cv R).bind λdE=>cond (decide (0<=dE)) (some false) ((F7 a0 R).bind λdI=>cond dI (some false) (de (i64.wrap (fR+1))))) ((F7 a0 R).bind λe6=>cond e6 (some false) (de (i64.wrap (fR+1))))))))) (some (decide ((a0.length:Int)<=6)))
def Cg (a0:ayy):Nat->Int->ayg
 |0,_=>none
 |n+1,fR=>PM (Cg a0 n) a0 fR
def J2 (a0:ayy):ayg:=
 bZ λn=>Cg a0 n 0
def PN (de:Int->ayg) (a0:ayb) (fR:Int):ayg:=
 cond (decide (fR<(a0.length:Int))) ((bh a0 fR).bind λR=>(uy R).bind λae=>cond (!ae) (some false) (cond (decide (0<fR)) ((bh a0 (i64.wrap (fR-1))).bind λaD=>cond (Op.bytesLess R aD||R==aD) (some false) (de (i64.wrap (fR+1)))) (de (i64.wrap (fR+1))))) (some (decide ((a0.length:Int)<=12)))
def Ch (a0:ayb):Nat->Int->ayg
 |0,_=>none
 |n+1,fR=>PN (Ch a0 n) a0 fR
def F8 (a0:ayb):ayg:=
 bZ λn=>Ch a0 n 0
def J3 (a0:cE):ayh:=
 (JU a0.c8).bind λR=>cond (!R) (some 1) ((k2 (a0.cL.length:Int) 1 3).bind λae=>cond (!ae) (some 2) ((JW a0.cL a0).bind λaD=>cond aD (some 2) ((J2 a0.cz).bind λaX=>cond (!aX) (some 3) ((F8 a0.dj).bind λaT=>cond (!aT) (some 4) ((F8 a0.dk).bind λbp=>cond (!bp) (some 5) (some 0))))))
def J4 (a0:cE):ayg:=
 (J3 a0).bind λR=>some (R==0)
def F9 (a0:ayw) (J:bd):ayg:=
 (xR J.cp (a0.length:Int)).bind λR=>cond (!R) (some false) ((bh a0 J.cp).bind λae=>(xR J.Part (ae.Body.length:Int)).bind λaD=>cond (!aD) (some false) ((bh ae.Body J.Part).bind λaX=>cond (aX.Kind !=5) ((Cc ae).bind λaT=>(bh aT J.Part).bind λbp=>cond ((J.bH.length:Int)==bp.scope) ((Cf J.bH).bind λbs=>some bs) (some false)) (some false)))
def PO (a0:bd) (J:cE):ayg:=
 (F9 J.c8 a0).bind λR=>some (!R)
def PQ (de:Int->ayh) (a0:ayz) (J:cE) (cA:Int):ayh:=
 cond (decide (cA<(a0.length:Int))) ((bh a0 cA).bind λR=>(PO R J).bind λae=>cond ae (some cA) (de (i64.wrap (cA+1)))) (some (-1))
def F_ (a0:ayz) (J:cE):Nat->Int->ayh
 |0,_=>none
 |n+1,cA=>PQ (F_ a0 J n) a0 J cA
def PR (a0:ayz) (J:cE):ayh:=
 bZ λn=>F_ a0 J n 0
def J5 (a0:ayz) (J:cE):ayg:=
 (PR a0 J).bind λR=>some (decide (0<=R))
def J6 (a0:cE) (J:ayz):ayg:=
 (J4 a0).bind λae=>cond ae (cond ((J.length:Int)==(a0.cL.length:Int)) ((J5 J a0).bind λaD=>some (!aD)) (some false)) (some false)
def PS (uA:ayu->Option (bQ×(List dr)×ayu)) (ko:(List dr)->ayu->Int->Option (bQ×(List dr)×ayu)) (R:bQ) (aD:Int) (ib:List dr) (j7:ayu) (sQ:Int):Option (bQ×(List dr)×ayu):=
 cond (decide (sQ<aD)) ((uA j7).bind λaX=>(room 8 (ib.length+1)).bind λ_=>ko (ib++[(dr.mk aX.1 aX.2.1)]) aX.2.2 (i64.wrap (sQ+1))) (some (R,ib,j7))
def zv (uA:ayu->Option (bQ×(List dr)×ayu)) (R:bQ) (aD:Int):Nat->(List dr)->ayu->Int->Option (bQ×(List dr)×ayu)
 |0,_,_,_=>none
 |n+1,ib,j7,sQ=>PS uA (zv uA R aD n) R aD ib j7 sQ
def PT (uA:ayu->Option (bQ×(List dr)×ayu)) (a0:ayu):Option (bQ×(List dr)×ayu):=
 (bh a0 0).bind λR=>(gB a0 1 (a0.length:Int)).bind λae=>(JQ R).bind λaD=>bZ λn=>zv uA R aD n [] ae 0
def Ci:Nat->ayu->Option (bQ×(List dr)×ayu)
 |0,_=>none
 |n+1,a0=>PT (Ci n) a0
def PU (a0:ayu):Option (bQ×(List dr)×ayu):=
 bZ λn=>Ci n a0
def J7 (a0:ayu):Option (bQ×(List dr)):=
 (PU a0).bind λR=>some (R.1,R.2.1)
def ru (a0:Bool):ayh:=
 cond a0 (some 1) (some 0)
def J8 (a0 J a2:Int):ayh:=
 cond (a0==0) (some (Int.tmod (i64.wrap (J+a2)) 64)) (cond (a0==1) (some (Int.tmod (i64.wrap ((i64.wrap (J-a2))+64)) 64)) (cond (a0==2) (some (Int.tmod (i64.wrap (J*a2)) 64)) (cond (a0==3) ((ru (J==a2)).bind λR=>some R) (cond (a0==4) ((ru (J !=a2)).bind λae=>some ae) (cond (a0==5) ((ru (decide (J<a2))).bind λaD=>some aD) (cond (a0==6) ((ru (decide (J<=a2))).bind λaX=>some aX) (cond (a0==7) (cond (J !=0) ((ru (a2 !=0)).bind λaT=>some aT) ((ru false).bind λbp=>some bp)) (cond (J !=0) ((ru true).bind λbs=>some bs) ((ru (a2 !=0)).bind λcv=>some cv)))))))))
def PV (Cj:dr->aye->ayh) (a0:dr) (J:aye):ayh:=
 cond (a0.term.Kind==0) (some a0.term.Value) (cond (a0.term.Kind==1) ((bh J a0.term.Value).bind λR=>some R) (cond (a0.term.Kind==3) ((bh a0.args 0).bind λae=>(Cj ae J).bind λaD=>(ru (aD==0)).bind λaX=>some aX) ((bh a0.args 0).bind λaT=>(Cj aT J).bind λbp=>(bh a0.args 1).bind λbs=>(Cj bs J).bind λcv=>(J8 a0.term.Value bp cv).bind λdE=>some dE)))
def zw:Nat->dr->aye->ayh
 |0,_,_=>none
 |n+1,a0,J=>PV (zw n) a0 J
def PW (a0:dr) (J:aye):ayh:=
 bZ λn=>zw n a0 J
def Ck (a0:ayu) (J:aye):ayh:=
 (J7 a0).bind λR=>(PW (dr.mk R.1 R.2) J).bind λae=>some ae
def PX (fK:aye->Int->Option aye) (a0:aym) (J fC:aye) (rv:Int):Option aye:=
 cond (decide (rv<(a0.length:Int))) ((bh a0 rv).bind λR=>(Ck R J).bind λae=>(room 8 (fC.length+1)).bind λ_=>fK (fC++[ae]) (i64.wrap (rv+1))) (some fC)
def Cl (a0:aym) (J:aye):Nat->aye->Int->Option aye
 |0,_,_=>none
 |n+1,fC,rv=>PX (Cl a0 J n) a0 J fC rv
def Ga (a0:aym) (J:aye):Option aye:=
 bZ λn=>Cl a0 J n [] 0
def xS (n:Nat):ayc:=if h:n<10 then [UInt8.ofNat (48+n)]else xS (n/10)++[UInt8.ofNat (48+n%10)]
 termination_by n
 decreasing_by omega
def Gb (n:Int):ayc:=if n<0 then 45::xS n.natAbs else xS n.toNat
def Cm (a0 J:Int):Option ayc:=if-9223372036854775808<=a0/\a0<=9223372036854775807/\J=10 then some (Gb a0)else none
def ry (a0:Int):Option ayc:=
 (Cm a0 10).bind λR=>some R
def strings_Join (a0:ayb) (J:ayc):Option ayc:=if a0.length<=140737488355328/\(jE a0 J).length<=140737488355328 then some (jE a0 J)else none
def PY (fK:ayb->Int->Option ayc) (a0:aye) (J:ayc) (fC:ayb) (od:Int):Option ayc:=
 cond (decide (od<(a0.length:Int))) ((bh a0 od).bind λR=>(ry R).bind λae=>(bh fC od).bind λaD=>fK (List.set fC (Int.toNat od) ae) (i64.wrap (od+1))) ((strings_Join fC J).bind λaX=>some aX)
def Cn (a0:aye) (J:ayc):Nat->ayb->Int->Option ayc
 |0,_,_=>none
 |n+1,fC,od=>PY (Cn a0 J n) a0 J fC od
def zx (a0:aye) (J:ayc):Option ayc:=
 (nz 16 (a0.length:Int)).bind λ_=>bZ λn=>Cn a0 J n (replicate (Int.toNat (a0.length:Int)) ([]:ayc)) 0
def zy (a0:ayc) (J:aye):Option (ayc×Bool):=
 cond (a0==([116,97,117]:ayc)) (some (([116,97,117]:ayc),((J.length:Int)==0))) ((uy a0).bind λae=>cond (!ae) (some (([]:ayc),false)) (cond (decide (2<(J.length:Int))) (some (([]:ayc),false)) ((Cf J).bind λaD=>cond (!aD) (some (([]:ayc),false)) (cond ((J.length:Int)==0) (some (a0,true)) ((iz (a0.length+1)).bind λ_=>(zx J ([44]:ayc)).bind λaX=>(iz ((a0++([40]:ayc)).length+aX.length)).bind λ_=>(iz (((a0++([40]:ayc))++aX).length+1)).bind λ_=>some ((((a0++([40]:ayc))++aX)++([41]:ayc)),true))))))
def Co (a0:aye):Option aye:=
 cond a0.isEmpty (both (some []) ((room 8 (a0.length)).bind λ_=>some a0)) ((room 8 (a0.length)).bind λ_=>some a0)
def PZ (a0:Int):ayg:=
 (k2 a0 (-1000000000000) 1000000000000).bind λR=>some (!R)
def P0 (de:Int->ayh) (a0:aye) (cA:Int):ayh:=
 cond (decide (cA<(a0.length:Int))) ((bh a0 cA).bind λR=>(PZ R).bind λae=>cond ae (some cA) (de (i64.wrap (cA+1)))) (some (-1))
def Cp (a0:aye):Nat->Int->ayh
 |0,_=>none
 |n+1,cA=>P0 (Cp a0 n) a0 cA
def P1 (a0:aye):ayh:=
 bZ λn=>Cp a0 n 0
def P2 (a0:aye):ayg:=
 (P1 a0).bind λR=>some (decide (0<=R))
def J9 (a0:aye):ayg:=
 cond (decide ((a0.length:Int)<=64)) ((P2 a0).bind λR=>some (!R)) (some false)
def Gc (a0:aye):Option ayc:=
 (J9 a0).bind λR=>cond (!R) (some ([]:ayc)) (cond ((a0.length:Int)==0) (some ([45]:ayc)) ((zx a0 ([44]:ayc)).bind λae=>some ae))
def J_ (a0:bd):Option ayc:=
 (ry a0.Part).bind λR=>(iz (R.length+1)).bind λ_=>(Gc a0.bH).bind λae=>(iz ((R++([58]:ayc)).length+ae.length)).bind λ_=>some ((R++([58]:ayc))++ae)
def zz (a0:bd):Option ayc:=
 (ry a0.cp).bind λR=>(iz (R.length+1)).bind λ_=>(J_ a0).bind λae=>(iz ((R++([58]:ayc)).length+ae.length)).bind λ_=>some ((R++([58]:ayc))++ae)
def Ka (dF:ayw) (dv:ayB) (dq:aya) (iH:ayc) (kx pX:Int) (uB:aye):Option (ayw×ayB×aya):=
 (iz (iH.length+1)).bind λ_=>(zz (bd.mk kx pX uB)).bind λR=>(iz ((iH++([32]:ayc)).length+R.length)).bind λ_=>cond (!(j1 ((iH++([32]:ayc))++R) dq)) ((room 56 (dv.length+1)).bind λ_=>some (dF,(dv++[(bk.mk iH (bd.mk kx pX uB))]),(kh ((iH++([32]:ayc))++R) true dq))) (some (dF,dv,dq))
def Kb (oe:ayw->ayB->aya->Int->Int->aye->Option (ayw×ayB×aya)) (dF:ayw) (dv:ayB) (dq:aya) (aX:ayc×Bool) (Cq Cr:Int) (Cs:aye):Option (ayw×ayB×aya):=
 (Ka dF dv dq aX.1 Cq Cr Cs).bind λbp=>some (bp.1,bp.2.1,bp.2.2)
def P3 (oe:ayw->ayB->aya->Int->Int->aye->Option (ayw×ayB×aya)) (aiQ:ayw->ayB->aya->Int->Option (ayw×ayB×aya)) (J a2:Int) (a3:aye) (ae:b1) (vQ:ayw) (vR:ayB) (vS:aya) (k3:Int):Option (ayw×ayB×aya):=
 cond (decide (k3<(i64.wrap (ae.Number+1)))) ((Co a3).bind λhk=>(room 8 (hk.length+1)).bind λ_=>(oe vQ vR vS J (i64.wrap (a2+1)) (hk++[k3])).bind λjd=>aiQ jd.1 jd.2.1 jd.2.2 (i64.wrap (k3+1))) (some (vQ,vR,vS))
def Ct (oe:ayw->ayB->aya->Int->Int->aye->Option (ayw×ayB×aya)) (J a2:Int) (a3:aye) (ae:b1):Nat->ayw->ayB->aya->Int->Option (ayw×ayB×aya)
 |0,_,_,_,_=>none
 |n+1,vQ,vR,vS,k3=>P3 oe (Ct oe J a2 a3 ae n) J a2 a3 ae vQ vR vS k3
def xT (oe:ayw->ayB->aya->Int->Int->aye->Option (ayw×ayB×aya)) (dF:ayw) (dv:ayB) (dq:aya) (J a2:Int) (a3:aye):Option (ayw×ayB×aya):=
 (bh dF J).bind λR=>(bh R.Body a2).bind λae=>cond (ae.Kind==1) ((Ga ae.cd a3).bind λaD=>(zy ae.Name aD).bind λaX=>(Co a3).bind λaT=>(bh R.Body (i64.wrap (a2+1))).bind λbs=>cond (bs.Kind==5) ((Ga bs.cd a3).bind λcv=>Kb oe dF dv dq aX bs.Number 0 cv) (Kb oe dF dv dq aX J (i64.wrap (a2+1)) aT)) (cond (ae.Kind==2) ((oe dF dv dq J (i64.wrap (a2+1)) a3).bind λdE=>(FV R (i64.wrap (a2+1))).bind λdI=>(oe dE.1 dE.2.1 dE.2.2 J dI a3).bind λe6=>some (e6.1,e6.2.1,e6.2.2)) (cond (ae.Kind==3) ((bh ae.cd 0).bind λkv=>(Ck kv a3).bind λmy=>cond (my !=0) ((oe dF dv dq J (i64.wrap (a2+1)) a3).bind λiW=>some (iW.1,iW.2.1,iW.2.2)) (some (dF,dv,dq))) (cond (ae.Kind==4) (bZ λn=>Ct oe J a2 a3 ae n dF dv dq 0) (some (dF,dv,dq)))))
def rz:Nat->ayw->ayB->aya->Int->Int->aye->Option (ayw×ayB×aya)
 |0,_,_,_,_,_,_=>none
 |n+1,dF,dv,dq,J,a2,a3=>xT (rz n) dF dv dq J a2 a3
def Kc (dF:ayw) (dv:ayB) (dq:aya) (J a2:Int) (a3:aye):Option (ayw×ayB×aya):=
 bZ λn=>rz n dF dv dq J a2 a3
def uC (a0:ayw) (J:bd):Option (ayB×Bool):=
 (Kc a0 [] [] J.cp J.Part J.bH).bind λR=>some (R.2.1,(decide ((R.2.1.length:Int)<=200)))
def sR:ayc->UInt8->Int
 |[],_=> -1
 |b::l,c=>if b==c then 0 else if sR l c== -1 then-1 else sR l c+1
def P4 (a0:ayc) (J:UInt8):ayh:=some (sR a0 J)
def P5 (a0:ayc) (J:UInt8):ayh:=
 (P4 a0 J).bind λR=>some R
def vT (a0 J:ayc):ayh:=
 cond (((J.length:Int)==0)||(J==a0)) (some 0) (cond ((J.length:Int)==1) ((bh J 0).bind λR=>(P5 a0 R).bind λae=>some ae) (cond (decide ((a0.length:Int)<=(J.length:Int))) (some (-1)) (none)))
def Kd (a0 J:ayc):Option (ayc×ayc×Bool):=
 (vT a0 J).bind λR=>cond (decide (0<=R)) ((gB a0 0 R).bind λae=>(gB a0 (i64.wrap (R+(J.length:Int))) (a0.length:Int)).bind λaD=>some (ae,aD,true)) (some (a0,([]:ayc),false))
def Cu (a0 J:ayc):Option (ayc×ayc×Bool):=
 (Kd a0 J).bind λR=>some (R.1,R.2.1,R.2.2)
def P6 (a0 J:ayc):ayg:=
 cond (decide ((J.length:Int)<=(a0.length:Int))) ((gB a0 (i64.wrap ((a0.length:Int)-(J.length:Int))) (a0.length:Int)).bind λR=>some (R==J)) (some false)
def P7 (a0 J:ayc):Option ayc:=
 (P6 a0 J).bind λR=>cond R ((gB a0 0 (i64.wrap ((a0.length:Int)-(J.length:Int)))).bind λae=>some ae) (some a0)
def strings_TrimSuffix (a0 J:ayc):Option ayc:=
 (P7 a0 J).bind λR=>some R
def P8 (a0:ayc) (J:UInt8):ayh:=some (a0.count J:Nat)
def Gd (a0 J:ayc):ayh:=
 (vT a0 J).bind λR=>some R
def aiR (aiS:ayc->Int->ayh) (J uD:ayc) (uE:Int):ayh:=
 (Gd uD J).bind λaD=>cond (aD==(-1)) (some uE) ((gB uD (i64.wrap (aD+(J.length:Int))) (uD.length:Int)).bind λaX=>aiS aX (i64.wrap (uE+1)))
def P9 (J:ayc):Nat->ayc->Int->ayh
 |0,_,_=>none
 |n+1,uD,uE=>aiR (P9 J n) J uD uE
def P_ (a0 J:ayc):ayh:=
 cond ((J.length:Int)==0) (none) (cond ((J.length:Int)==1) ((bh J 0).bind λR=>(P8 a0 R).bind λae=>some ae) (bZ λn=>P9 J n a0 0))
def Ge (a0 J:ayc) (a2 jT:Int) (Cv:ayc) (zA:ayb) (vU:Int):Option ayb:=
 (bh zA vU).bind λR=>(gB (List.set zA (Int.toNat vU) Cv) 0 (i64.wrap (vU+1))).bind λae=>some ae
def Qa (OM:ayc->ayb->Int->Option ayb) (a0 J:ayc) (a2 jT:Int) (oQ:ayc) (nK:ayb) (lx:Int):Option ayb:=
 cond (decide (lx<(i64.wrap ((kQ false jT (i64.wrap ((a0.length:Int)+1)))-1)))) ((Gd oQ J).bind λaD=>cond (decide (aD<0)) (Ge a0 J a2 jT oQ nK lx) ((gB oQ 0 (i64.wrap (aD+a2))).bind λaX=>(bh nK lx).bind λaT=>(gB oQ (i64.wrap (aD+(J.length:Int))) (oQ.length:Int)).bind λbp=>OM bp (List.set nK (Int.toNat lx) aX) (i64.wrap (lx+1)))) (Ge a0 J a2 jT oQ nK lx)
def zB (a0 J:ayc) (a2 jT:Int):Nat->ayc->ayb->Int->Option ayb
 |0,_,_,_=>none
 |n+1,oQ,nK,lx=>Qa (zB a0 J a2 jT n) a0 J a2 jT oQ nK lx
def Ke (a0 J:ayc) (a2 jT:Int):Option ayb:=
 (nz 16 (kQ false jT (i64.wrap ((a0.length:Int)+1)))).bind λ_=>bZ λn=>zB a0 J a2 jT n a0 (replicate (Int.toNat (kQ false jT (i64.wrap ((a0.length:Int)+1)))) ([]:ayc)) 0
def Qb (a0 J:ayc) (a2 a3:Int):Option ayb:=
 cond (a3==0) (some []) (cond (J==([]:ayc)) (none) (cond (decide (a3<0)) ((P_ a0 J).bind λbs=>Ke a0 J a2 (i64.wrap (bs+1))) (Ke a0 J a2 a3)))
def Kf (a0 J:ayc):Option ayb:=
 (Qb a0 J 0 (-1)).bind λR=>some R
def gR (c:UInt8):Bool:=decide (48<=c.toNat)&&decide (c.toNat<=57)
def mT (d:ayc):Nat:=d.foldl (λn c=>10*n+(c.toNat-48)) 0
def pY (k:Nat) (d:ayc):Int×Bool:=if d≠[]/\d.length<=18/\d.all gR=true/\¬(d.head? =some 48/\1<d.length+k)then(if k=1 then-(mT d:Int)else mT d,true)else(0,false)
def j9 (s:ayc):Int×Bool:=if s.head? =some 45 then pY 1 s.tail else pY 0 s
def Kg (a0:ayc):Option (Int×Bool):=some (j9 a0)
def Qc (fK:aye->Int->Option (aye×Bool)) (a0:ayb) (bN:aye) (rA:Int):Option (aye×Bool):=
 cond (decide (rA<(a0.length:Int))) ((bh a0 rA).bind λR=>(Kg R).bind λae=>cond (!ae.2) (some ([],false)) ((room 8 (bN.length+1)).bind λ_=>fK (bN++[ae.1]) (i64.wrap (rA+1)))) (some (bN,true))
def Cw (a0:ayb):Nat->aye->Int->Option (aye×Bool)
 |0,_,_=>none
 |n+1,bN,rA=>Qc (Cw a0 n) a0 bN rA
def Kh (a0:ayb):Option (aye×Bool):=
 bZ λn=>Cw a0 n [] 0
def Gf (a0:ayc) (R:ayc×ayc×Bool) (uF:aye):Option (ayc×aye×Bool):=
 (zy R.1 uF).bind λae=>cond ((!ae.2)||(!(ae.1==a0))) (some (([]:ayc),[],false)) (some (R.1,uF,true))
def zC (a0:ayc):Option (ayc×aye×Bool):=
 (Cu a0 ([40]:ayc)).bind λR=>cond R.2.2 ((strings_TrimSuffix R.2.1 ([41]:ayc)).bind λaD=>(Kf aD ([44]:ayc)).bind λaX=>(Kh aX).bind λaT=>cond (!aT.2) (some (([]:ayc),[],false)) (Gf a0 R aT.1)) (Gf a0 R [])
def Qd (de:Int->ayh) (a0:ayb) (J:ayc) (cA:Int):ayh:=
 cond (decide (cA<(a0.length:Int))) ((bh a0 cA).bind λR=>cond (J==R) (some cA) (de (i64.wrap (cA+1)))) (some (-1))
def zD (a0:ayb) (J:ayc):Nat->Int->ayh
 |0,_=>none
 |n+1,cA=>Qd (zD a0 J n) a0 J cA
def Qe (a0:ayb) (J:ayc):ayh:=
 bZ λn=>zD a0 J n 0
def Cx (a0:ayb) (J:ayc):ayg:=
 (Qe a0 J).bind λR=>some (decide (0<=R))
def zE (a0:bd):Option bd:=
 (Co a0.bH).bind λR=>some (bd.mk a0.cp a0.Part R)
def Qf (fK:ayz->Int->Option ayz) (a0 bY:ayz) (k4:Int):Option ayz:=
 cond (decide (k4<(a0.length:Int))) ((bh a0 k4).bind λR=>(zE R).bind λae=>(room 40 (bY.length+1)).bind λ_=>fK (bY++[ae]) (i64.wrap (k4+1))) (some bY)
def Cy (a0:ayz):Nat->ayz->Int->Option ayz
 |0,_,_=>none
 |n+1,bY,k4=>Qf (Cy a0 n) a0 bY k4
def Ki (a0:ayz):Option ayz:=
 bZ λn=>Cy a0 n [] 0
def Qg (fK:ayb->Int->Option ayc) (a0:ayz) (bY:ayb) (k4:Int):Option ayc:=
 cond (decide (k4<(a0.length:Int))) ((bh a0 k4).bind λR=>(zz R).bind λae=>(room 16 (bY.length+1)).bind λ_=>fK (bY++[ae]) (i64.wrap (k4+1))) ((strings_Join bY ([32]:ayc)).bind λaD=>some aD)
def Cz (a0:ayz):Nat->ayb->Int->Option ayc
 |0,_,_=>none
 |n+1,bY,k4=>Qg (Cz a0 n) a0 bY k4
def Kj (a0:ayz):Option ayc:=
 bZ λn=>Cz a0 n [] 0
def CA (a3 a4:Int) (dF:ayw) (dv:ayx) (dq:ayy) (fD fu:ayb) (gr:ayz) (gI:ayA) (gu:aya) (iw:ayc) (mU:ayz):Option (ayw×ayx×ayy×ayb×ayb×ayz×ayA×aya):=
 (iz (iw.length+1)).bind λ_=>(ry a3).bind λlr=>(iz ((iw++([32]:ayc)).length+lr.length)).bind λ_=>(iz (((iw++([32]:ayc))++lr).length+1)).bind λ_=>(ry a4).bind λlu=>(iz ((((iw++([32]:ayc))++lr)++([32]:ayc)).length+lu.length)).bind λ_=>(iz (((((iw++([32]:ayc))++lr)++([32]:ayc))++lu).length+1)).bind λ_=>(Kj mU).bind λk1=>(iz ((((((iw++([32]:ayc))++lr)++([32]:ayc))++lu)++([32]:ayc)).length+k1.length)).bind λ_=>cond (!(j1 ((((((iw++([32]:ayc))++lr)++([32]:ayc))++lu)++([32]:ayc))++k1) gu)) ((room 56 (gI.length+1)).bind λ_=>some (dF,dv,dq,fD,fu,gr,(gI++[(a1.mk iw a3 a4 mU)]),(kh ((((((iw++([32]:ayc))++lr)++([32]:ayc))++lu)++([32]:ayc))++k1) true gu))) (some (dF,dv,dq,fD,fu,gr,gI,gu))
def qx (a3 a4:Int) (a5:ayz) (dF:ayw) (dv:ayx) (dq:ayy) (fD fu:ayb) (gr:ayz) (gI:ayA) (gu:aya) (sS:ayc) (sT:aye):Option (ayw×ayx×ayy×ayb×ayb×ayz×ayA×aya):=
 (zy sS sT).bind λiW=>(Ki gr).bind λhk=>(bh a5 0).bind λjd=>(zE jd).bind λiv=>(bh hk a3).bind λpU=>cond (decide (0<=a4)) ((bh a5 1).bind λmS=>(zE mS).bind λlv=>(bh (List.set hk (Int.toNat a3) iv) a4).bind λPe=>CA a3 a4 dF dv dq fD fu gr gI gu iW.1 (List.set (List.set hk (Int.toNat a3) iv) (Int.toNat a4) lv)) (CA a3 a4 dF dv dq fD fu gr gI gu iW.1 (List.set hk (Int.toNat a3) iv))
def CB (dF:ayw) (dv:ayx) (dq:ayy) (fD fu:ayb) (gr:ayz) (gI:ayA) (gu:aya) (J:ayc) (a2:aye) (a3 a4:Int) (a5:ayz):Option (ayw×ayx×ayy×ayb×ayb×ayz×ayA×aya):=
 cond (!(J==([116,97,117]:ayc))) ((Cx fD J).bind λR=>cond (!R) (some (dF,dv,dq,fD,fu,gr,gI,gu)) ((Cx fu J).bind λmy=>cond my (qx a3 a4 a5 dF dv dq fD fu gr gI gu ([116,97,117]:ayc) []) (qx a3 a4 a5 dF dv dq fD fu gr gI gu J a2))) ((Cx fu J).bind λvK=>cond vK (qx a3 a4 a5 dF dv dq fD fu gr gI gu ([116,97,117]:ayc) []) (qx a3 a4 a5 dF dv dq fD fu gr gI gu J a2))
def XA (a0:b0) (J a2:ayc):ayg:=
 some ((a0.Left==(hT false J a2))&&(a0.cx==(hT true J a2)))
def Qh (de:Int->ayh) (a0:ayy) (iH kx:ayc) (cA:Int):ayh:=
 cond (decide (cA<(a0.length:Int))) ((bh a0 cA).bind λR=>(XA R iH kx).bind λae=>cond ae (some cA) (de (i64.wrap (cA+1)))) (some (-1))
def CC (a0:ayy) (iH kx:ayc):Nat->Int->ayh
 |0,_=>none
 |n+1,cA=>Qh (CC a0 iH kx n) a0 iH kx cA
def Qi (a0:ayy) (iH kx:ayc):ayh:=
 bZ λn=>CC a0 iH kx n 0
def zF (a0:cE) (J a2:ayc):Option (ayc×Bool):=
 (Qi a0.cz J a2).bind λR=>cond (decide (R<0)) (some (([]:ayc),false)) ((bh a0.cz R).bind λae=>some (ae.Result,true))
def Qj (fA:Int->ayg) (a0 J:aye) (sU:Int):ayg:=
 cond (decide (sU<(a0.length:Int))) ((bh a0 sU).bind λR=>(bh J sU).bind λae=>cond (R !=ae) (some false) (fA (i64.wrap (sU+1)))) (some true)
def CD (a0 J:aye):Nat->Int->ayg
 |0,_=>none
 |n+1,sU=>Qj (CD a0 J n) a0 J sU
def Gg (a0 J:aye):ayg:=
 cond ((a0.length:Int) !=(J.length:Int)) (some false) (bZ λn=>CD a0 J n 0)
def Gh (dT:ayw->ayx->ayy->ayb->ayb->ayz->ayA->aya->Int->Option (ayw×ayx×ayy×ayb×ayb×ayz×ayA×aya)) (Gi:ayw->ayx->ayy->ayb->ayb->ayz->ayA->aya->Int->Int->Option (ayw×ayx×ayy×ayb×ayb×ayz×ayA×aya)) (J a2:Int) (a3 a4:ayB) (R:bk) (ae:ayc×aye×Bool) (CE:ayw) (CF:ayx) (CG:ayy) (CH CI:ayb) (CJ:ayz) (CK:ayA) (CL:aya) (CM CN:Int):Option (ayw×ayx×ayy×ayb×ayb×ayz×ayA×aya):=
 Gi CE CF CG CH CI CJ CK CL CM (i64.wrap (CN+1))
def Qk (dT:ayw->ayx->ayy->ayb->ayb->ayz->ayA->aya->Int->Option (ayw×ayx×ayy×ayb×ayb×ayz×ayA×aya)) (Gi:ayw->ayx->ayy->ayb->ayb->ayz->ayA->aya->Int->Int->Option (ayw×ayx×ayy×ayb×ayb×ayz×ayA×aya)) (J a2:Int) (a3 a4:ayB) (R:bk) (ae:ayc×aye×Bool) (og:ayw) (oh:ayx) (oi:ayy) (oj om:ayb) (pt:ayz) (pv:ayA) (pw:aya) (oR oS:Int):Option (ayw×ayx×ayy×ayb×ayb×ayz×ayA×aya):=
 cond (decide (oS<(a4.length:Int))) ((bh a4 oS).bind λaD=>(zC aD.Label).bind λaX=>(zF (cE.mk og oh oi oj om) ae.1 aX.1).bind λaT=>cond aT.2 ((Gg ae.2.1 aX.2.1).bind λbp=>cond bp ((CB og oh oi oj om pt pv pw aT.1 ae.2.1 J a2 [R.Next,aD.Next]).bind λbs=>Gh dT Gi J a2 a3 a4 R ae bs.1 bs.2.1 bs.2.2.1 bs.2.2.2.1 bs.2.2.2.2.1 bs.2.2.2.2.2.1 bs.2.2.2.2.2.2.1 bs.2.2.2.2.2.2.2 oR oS) (Gh dT Gi J a2 a3 a4 R ae og oh oi oj om pt pv pw oR oS)) (Gh dT Gi J a2 a3 a4 R ae og oh oi oj om pt pv pw oR oS)) (dT og oh oi oj om pt pv pw (i64.wrap (oR+1)))
def vV (dT:ayw->ayx->ayy->ayb->ayb->ayz->ayA->aya->Int->Option (ayw×ayx×ayy×ayb×ayb×ayz×ayA×aya)) (J a2:Int) (a3 a4:ayB) (R:bk) (ae:ayc×aye×Bool):Nat->ayw->ayx->ayy->ayb->ayb->ayz->ayA->aya->Int->Int->Option (ayw×ayx×ayy×ayb×ayb×ayz×ayA×aya)
 |0,_,_,_,_,_,_,_,_,_,_=>none
 |n+1,og,oh,oi,oj,om,pt,pv,pw,oR,oS=>Qk dT (vV dT J a2 a3 a4 R ae n) J a2 a3 a4 R ae og oh oi oj om pt pv pw oR oS
def Ql (dT:ayw->ayx->ayy->ayb->ayb->ayz->ayA->aya->Int->Option (ayw×ayx×ayy×ayb×ayb×ayz×ayA×aya)) (J a2:Int) (a3 a4:ayB) (uG:ayw) (uH:ayx) (uI:ayy) (uJ uK:ayb) (uL:ayz) (uM:ayA) (uN:aya) (sV:Int):Option (ayw×ayx×ayy×ayb×ayb×ayz×ayA×aya):=
 cond (decide (sV<(a3.length:Int))) ((bh a3 sV).bind λR=>(zC R.Label).bind λae=>bZ λn=>vV dT J a2 a3 a4 R ae n uG uH uI uJ uK uL uM uN sV 0) (some (uG,uH,uI,uJ,uK,uL,uM,uN))
def sW (J a2:Int) (a3 a4:ayB):Nat->ayw->ayx->ayy->ayb->ayb->ayz->ayA->aya->Int->Option (ayw×ayx×ayy×ayb×ayb×ayz×ayA×aya)
 |0,_,_,_,_,_,_,_,_,_=>none
 |n+1,uG,uH,uI,uJ,uK,uL,uM,uN,sV=>Ql (sW J a2 a3 a4 n) J a2 a3 a4 uG uH uI uJ uK uL uM uN sV
def Qm (dF:ayw) (dv:ayx) (dq:ayy) (fD fu:ayb) (gr:ayz) (gI:ayA) (gu:aya) (J a2:Int) (a3 a4:ayB):Option (ayw×ayx×ayy×ayb×ayb×ayz×ayA×aya):=
 bZ λn=>sW J a2 a3 a4 n dF dv dq fD fu gr gI gu 0
def Qn (ko:cE->ayz->ayA->aya->ayn->Int->Option (ayA×Bool)) (aiT:cE->ayz->ayA->aya->ayn->Int->Int->Int->Option (ayA×Bool)) (a0:cE) (J:ayz) (ae:ayB×Bool) (mV:cE) (rB:ayz) (rC:ayA) (rD:aya) (qy:ayn) (pZ qz qA:Int):Option (ayA×Bool):=
 cond (decide (qA<(ae.1.length:Int))) ((bh ae.1 qA).bind λaD=>(zC aD.Label).bind λaX=>(CB mV.c8 mV.cL mV.cz mV.dj mV.dk rB rC rD aX.1 aX.2.1 pZ (-1) [aD.Next]).bind λaT=>aiT (cE.mk aT.1 aT.2.1 aT.2.2.1 aT.2.2.2.1 aT.2.2.2.2.1) aT.2.2.2.2.2.1 aT.2.2.2.2.2.2.1 aT.2.2.2.2.2.2.2 qy pZ qz (i64.wrap (qA+1))) (ko mV rB rC rD qy (i64.wrap (qz+1)))
def xU (ko:cE->ayz->ayA->aya->ayn->Int->Option (ayA×Bool)) (a0:cE) (J:ayz) (ae:ayB×Bool):Nat->cE->ayz->ayA->aya->ayn->Int->Int->Int->Option (ayA×Bool)
 |0,_,_,_,_,_,_,_,_=>none
 |n+1,mV,rB,rC,rD,qy,pZ,qz,qA=>Qn ko (xU ko a0 J ae n) a0 J ae mV rB rC rD qy pZ qz qA
def Qo (qu:cE->ayz->ayA->aya->ayn->Int->Option (ayA×Bool)) (aiU:cE->ayz->ayA->aya->ayn->Int->Int->Int->Option (ayA×Bool)) (J:ayz) (nL:cE) (uO:ayz) (uP:ayA) (uQ:aya) (qB:ayn) (qC p0 sX:Int):Option (ayA×Bool):=
 cond (decide (p0<(J.length:Int))) ((bh qB qC).bind λbp=>(bh qB p0).bind λbs=>(Qm nL.c8 nL.cL nL.cz nL.dj nL.dk uO uP uQ qC p0 bp bs).bind λcv=>aiU (cE.mk cv.1 cv.2.1 cv.2.2.1 cv.2.2.2.1 cv.2.2.2.2.1) cv.2.2.2.2.2.1 cv.2.2.2.2.2.2.1 cv.2.2.2.2.2.2.2 qB qC (i64.wrap (p0+1)) sX) (qu nL uO uP uQ qB (i64.wrap (sX+1)))
def zG (qu:cE->ayz->ayA->aya->ayn->Int->Option (ayA×Bool)) (J:ayz):Nat->cE->ayz->ayA->aya->ayn->Int->Int->Int->Option (ayA×Bool)
 |0,_,_,_,_,_,_,_,_=>none
 |n+1,nL,uO,uP,uQ,qB,qC,p0,sX=>Qo qu (zG qu J n) J nL uO uP uQ qB qC p0 sX
def Qp (qu:cE->ayz->ayA->aya->ayn->Int->Option (ayA×Bool)) (J:ayz) (xV:cE) (xW:ayz) (rE:ayA) (xX:aya) (xY:ayn) (qD:Int):Option (ayA×Bool):=
 cond (decide (qD<(J.length:Int))) (bZ λn=>zG qu J n xV xW rE xX xY qD (i64.wrap (qD+1)) qD) (some (rE,(decide ((rE.length:Int)<=200))))
def vW (J:ayz):Nat->cE->ayz->ayA->aya->ayn->Int->Option (ayA×Bool)
 |0,_,_,_,_,_,_=>none
 |n+1,xV,xW,rE,xX,xY,qD=>Qp (vW J n) J xV xW rE xX xY qD
def Gj (ko:cE->ayz->ayA->aya->ayn->Int->Option (ayA×Bool)) (a0:cE) (J:ayz) (lq:cE) (qE:ayz) (qF:ayA) (qG:aya) (gh:ayn) (nM:Int):Option (ayA×Bool):=
 cond (decide (nM<(J.length:Int))) ((bh J nM).bind λR=>(uC a0.c8 R).bind λae=>cond (!ae.2) (some ([],false)) ((room 24 (gh.length+1)).bind λ_=>bZ λn=>xU ko a0 J ae n lq qE qF qG (gh++[ae.1]) nM nM 0)) (bZ λn=>vW J n lq qE qF qG gh 0)
def p1 (a0:cE) (J:ayz):Nat->cE->ayz->ayA->aya->ayn->Int->Option (ayA×Bool)
 |0,_,_,_,_,_,_=>none
 |n+1,lq,qE,qF,qG,gh,nM=>Gj (p1 a0 J n) a0 J lq qE qF qG gh nM
def Kk (a0:cE) (J:ayz):Option (ayA×Bool):=
 bZ λn=>p1 a0 J n a0 J [] [] [] 0
def Gk (a0:cE) (J:ayz):Option (ayA×Int):=
 (J6 a0 J).bind λR=>cond (!R) (some ([],1)) ((Kk a0 J).bind λae=>cond (!ae.2) (some ([],5)) (some (ae.1,0)))
def aiV (fA:Int->ayg) (a0 J:aye) (ca:Int):ayg:=
 cond (decide (ca<(a0.length:Int))) ((bh a0 ca).bind λR=>(bh J ca).bind λae=>cond (R !=ae) (some false) (fA (i64.wrap (ca+1)))) (some true)
def Qq (a0 J:aye):Nat->Int->ayg
 |0,_=>none
 |n+1,ca=>aiV (Qq a0 J n) a0 J ca
def Gl (a0 J:aye):ayg:=
 cond ((a0.length:Int) !=(J.length:Int)) (some false) (bZ λn=>Qq a0 J n 0)
def Gm (a0 J:bd):ayg:=
 cond (a0.cp !=J.cp) (some false) (cond (a0.Part !=J.Part) (some false) ((Gl a0.bH J.bH).bind λR=>cond (!R) (some false) (some true)))
def aiW (fA:Int->ayg) (a0 J:ayz) (ca:Int):ayg:=
 cond (decide (ca<(a0.length:Int))) ((bh a0 ca).bind λR=>(bh J ca).bind λae=>(Gm R ae).bind λaD=>cond (!aD) (some false) (fA (i64.wrap (ca+1)))) (some true)
def Qr (a0 J:ayz):Nat->Int->ayg
 |0,_=>none
 |n+1,ca=>aiW (Qr a0 J n) a0 J ca
def Gn (a0 J:ayz):ayg:=
 cond ((a0.length:Int) !=(J.length:Int)) (some false) (bZ λn=>Qr a0 J n 0)
def Gp (a0 J:a1):ayg:=
 cond (!(a0.Label==J.Label)) (some false) (cond (a0.gH !=J.gH) (some false) (cond (a0.Second !=J.Second) (some false) ((Gn a0.State J.State).bind λR=>cond (!R) (some false) (some true))))
def aiX (fA:Int->ayg) (a0 J:ayA) (ca:Int):ayg:=
 cond (decide (ca<(a0.length:Int))) ((bh a0 ca).bind λR=>(bh J ca).bind λae=>(Gp R ae).bind λaD=>cond (!aD) (some false) (fA (i64.wrap (ca+1)))) (some true)
def Qs (a0 J:ayA):Nat->Int->ayg
 |0,_=>none
 |n+1,ca=>aiX (Qs a0 J n) a0 J ca
def CO (a0 J:ayA):ayg:=
 cond ((a0.length:Int) !=(J.length:Int)) (some false) (bZ λn=>Qs a0 J n 0)
def Gq (a0 J:bQ):ayg:=
 cond (a0.Kind !=J.Kind) (some false) (cond (a0.Value !=J.Value) (some false) (some true))
def aiY (fA:Int->ayg) (a0 J:ayu) (ca:Int):ayg:=
 cond (decide (ca<(a0.length:Int))) ((bh a0 ca).bind λR=>(bh J ca).bind λae=>(Gq R ae).bind λaD=>cond (!aD) (some false) (fA (i64.wrap (ca+1)))) (some true)
def Qt (a0 J:ayu):Nat->Int->ayg
 |0,_=>none
 |n+1,ca=>aiY (Qt a0 J n) a0 J ca
def Gr (a0 J:ayu):ayg:=
 cond ((a0.length:Int) !=(J.length:Int)) (some false) (bZ λn=>Qt a0 J n 0)
def aiZ (fA:Int->ayg) (a0 J:aym) (ca:Int):ayg:=
 cond (decide (ca<(a0.length:Int))) ((bh a0 ca).bind λR=>(bh J ca).bind λae=>(Gr R ae).bind λaD=>cond (!aD) (some false) (fA (i64.wrap (ca+1)))) (some true)
def Qu (a0 J:aym):Nat->Int->ayg
 |0,_=>none
 |n+1,ca=>aiZ (Qu a0 J n) a0 J ca
def Kl (a0 J:aym):ayg:=
 cond ((a0.length:Int) !=(J.length:Int)) (some false) (bZ λn=>Qu a0 J n 0)
def Gs (a0 J:b1):ayg:=
 cond (a0.Kind !=J.Kind) (some false) (cond (a0.Number !=J.Number) (some false) (cond (!(a0.Name==J.Name)) (some false) ((Kl a0.cd J.cd).bind λR=>cond (!R) (some false) (some true))))
def ai0 (fA:Int->ayg) (a0 J:ayv) (ca:Int):ayg:=
 cond (decide (ca<(a0.length:Int))) ((bh a0 ca).bind λR=>(bh J ca).bind λae=>(Gs R ae).bind λaD=>cond (!aD) (some false) (fA (i64.wrap (ca+1)))) (some true)
def Qv (a0 J:ayv):Nat->Int->ayg
 |0,_=>none
 |n+1,ca=>ai0 (Qv a0 J n) a0 J ca
def Km (a0 J:ayv):ayg:=
 cond ((a0.length:Int) !=(J.length:Int)) (some false) (bZ λn=>Qv a0 J n 0)
def Gt (a0 J:bb):ayg:=
 cond (!(a0.Name==J.Name)) (some false) (cond (a0.dP !=J.dP) (some false) ((Km a0.Body J.Body).bind λR=>cond (!R) (some false) (some true)))
def ai1 (fA:Int->ayg) (a0 J:ayw) (ca:Int):ayg:=
 cond (decide (ca<(a0.length:Int))) ((bh a0 ca).bind λR=>(bh J ca).bind λae=>(Gt R ae).bind λaD=>cond (!aD) (some false) (fA (i64.wrap (ca+1)))) (some true)
def Qw (a0 J:ayw):Nat->Int->ayg
 |0,_=>none
 |n+1,ca=>ai1 (Qw a0 J n) a0 J ca
def Kn (a0 J:ayw):ayg:=
 cond ((a0.length:Int) !=(J.length:Int)) (some false) (bZ λn=>Qw a0 J n 0)
def Gu (a0 J:df):ayg:=
 cond (a0.cp !=J.cp) (some false) ((Gl a0.bH J.bH).bind λR=>cond (!R) (some false) (some true))
def ai2 (fA:Int->ayg) (a0 J:ayx) (ca:Int):ayg:=
 cond (decide (ca<(a0.length:Int))) ((bh a0 ca).bind λR=>(bh J ca).bind λae=>(Gu R ae).bind λaD=>cond (!aD) (some false) (fA (i64.wrap (ca+1)))) (some true)
def Qx (a0 J:ayx):Nat->Int->ayg
 |0,_=>none
 |n+1,ca=>ai2 (Qx a0 J n) a0 J ca
def Ko (a0 J:ayx):ayg:=
 cond ((a0.length:Int) !=(J.length:Int)) (some false) (bZ λn=>Qx a0 J n 0)
def Gv (a0 J:b0):ayg:=
 cond (!(a0.Left==J.Left)) (some false) (cond (!(a0.cx==J.cx)) (some false) (cond (!(a0.Result==J.Result)) (some false) (some true)))
def ai3 (fA:Int->ayg) (a0 J:ayy) (ca:Int):ayg:=
 cond (decide (ca<(a0.length:Int))) ((bh a0 ca).bind λR=>(bh J ca).bind λae=>(Gv R ae).bind λaD=>cond (!aD) (some false) (fA (i64.wrap (ca+1)))) (some true)
def Qy (a0 J:ayy):Nat->Int->ayg
 |0,_=>none
 |n+1,ca=>ai3 (Qy a0 J n) a0 J ca
def Kp (a0 J:ayy):ayg:=
 cond ((a0.length:Int) !=(J.length:Int)) (some false) (bZ λn=>Qy a0 J n 0)
def ai4 (fA:Int->ayg) (a0 J:ayb) (ca:Int):ayg:=
 cond (decide (ca<(a0.length:Int))) ((bh a0 ca).bind λR=>(bh J ca).bind λae=>cond (!(R==ae)) (some false) (fA (i64.wrap (ca+1)))) (some true)
def Qz (a0 J:ayb):Nat->Int->ayg
 |0,_=>none
 |n+1,ca=>ai4 (Qz a0 J n) a0 J ca
def Gw (a0 J:ayb):ayg:=
 cond ((a0.length:Int) !=(J.length:Int)) (some false) (bZ λn=>Qz a0 J n 0)
def Gx (a0 J:cE):ayg:=
 (Kn a0.c8 J.c8).bind λR=>cond (!R) (some false) ((Ko a0.cL J.cL).bind λae=>cond (!ae) (some false) ((Kp a0.cz J.cz).bind λaD=>cond (!aD) (some false) ((Gw a0.dj J.dj).bind λaX=>cond (!aX) (some false) ((Gw a0.dk J.dk).bind λaT=>cond (!aT) (some false) (some true)))))
def Kq (fA:Int->ayc->Option ayc) (oo:Int) (ek:ayc):Option ayc:=
 cond (decide (0<oo)) ((iz (1+ek.length)).bind λ_=>fA (i64.wrap (Int.tdiv oo 10)) ([(o3 (i64.wrap (48+(Int.tmod oo 10))))]++ek)) ((iz (1+ek.length)).bind λ_=>some (([109]:ayc)++ek))
def zH:Nat->Int->ayc->Option ayc
 |0,_,_=>none
 |n+1,oo,ek=>Kq (zH n) oo ek
def sY (a0:Int):Option ayc:=
 cond (decide (a0<=0)) (some ([109,48]:ayc)) (bZ λn=>zH n a0 ([]:ayc))
def QA (de:ayu->Int->Int->Option (Int×ayu)) (bO:ayu) (aR aA:Int):Option (Int×ayu):=
 cond (decide (aA<(bO.length:Int))) ((bh bO aA).bind λR=>(bh (List.set bO (Int.toNat aA) (bQ.mk aR R.Value)) aA).bind λae=>de (List.set (List.set bO (Int.toNat aA) (bQ.mk aR R.Value)) (Int.toNat aA) (bQ.mk ae.Kind (i64.wrap (aR+1)))) (i64.wrap ((i64.wrap (aR+1))+1)) (i64.wrap (aA+1))) (some (aR,bO))
def CP:Nat->ayu->Int->Int->Option (Int×ayu)
 |0,_,_,_=>none
 |n+1,bO,aR,aA=>QA (CP n) bO aR aA
def Kr (a0:ayu) (J:Int):Option (Int×ayu):=
 bZ λn=>CP n a0 J 0
def QB (de:aym->Int->Int->Option (Int×aym)) (bO:aym) (aR aA:Int):Option (Int×aym):=
 cond (decide (aA<(bO.length:Int))) ((bh bO aA).bind λR=>(Kr R aR).bind λae=>de (List.set bO (Int.toNat aA) ae.2) ae.1 (i64.wrap (aA+1))) (some (aR,bO))
def CQ:Nat->aym->Int->Int->Option (Int×aym)
 |0,_,_,_=>none
 |n+1,bO,aR,aA=>QB (CQ n) bO aR aA
def Ks (a0:aym) (J:Int):Option (Int×aym):=
 bZ λn=>CQ n a0 J 0
def QC (de:ayv->Int->Int->Option (Int×ayv)) (bO:ayv) (aR aA:Int):Option (Int×ayv):=
 cond (decide (aA<(bO.length:Int))) ((bh bO aA).bind λR=>(bh (List.set bO (Int.toNat aA) (b1.mk aR R.Number R.Name R.cd)) aA).bind λae=>(sY (i64.wrap ((i64.wrap (aR+1))+1))).bind λaD=>(bh (List.set (List.set bO (Int.toNat aA) (b1.mk aR R.Number R.Name R.cd)) (Int.toNat aA) (b1.mk ae.Kind (i64.wrap (aR+1)) ae.Name ae.cd)) aA).bind λaX=>(bh (List.set (List.set (List.set bO (Int.toNat aA) (b1.mk aR R.Number R.Name R.cd)) (Int.toNat aA) (b1.mk ae.Kind (i64.wrap (aR+1)) ae.Name ae.cd)) (Int.toNat aA) (b1.mk aX.Kind aX.Number aD aX.cd)) aA).bind λaT=>(Ks aT.cd (i64.wrap ((i64.wrap ((i64.wrap (aR+1))+1))+1))).bind λbp=>de (List.set (List.set (List.set (List.set bO (Int.toNat aA) (b1.mk aR R.Number R.Name R.cd)) (Int.toNat aA) (b1.mk ae.Kind (i64.wrap (aR+1)) ae.Name ae.cd)) (Int.toNat aA) (b1.mk aX.Kind aX.Number aD aX.cd)) (Int.toNat aA) (b1.mk aT.Kind aT.Number aT.Name bp.2)) bp.1 (i64.wrap (aA+1))) (some (aR,bO))
def CR:Nat->ayv->Int->Int->Option (Int×ayv)
 |0,_,_,_=>none
 |n+1,bO,aR,aA=>QC (CR n) bO aR aA
def Kt (a0:ayv) (J:Int):Option (Int×ayv):=
 bZ λn=>CR n a0 J 0
def QD (de:ayw->Int->Int->Option (Int×ayw)) (bO:ayw) (aR aA:Int):Option (Int×ayw):=
 cond (decide (aA<(bO.length:Int))) ((sY aR).bind λR=>(bh bO aA).bind λae=>(bh (List.set bO (Int.toNat aA) (bb.mk R ae.dP ae.Body)) aA).bind λaD=>(bh (List.set (List.set bO (Int.toNat aA) (bb.mk R ae.dP ae.Body)) (Int.toNat aA) (bb.mk aD.Name (i64.wrap (aR+1)) aD.Body)) aA).bind λaX=>(Kt aX.Body (i64.wrap ((i64.wrap (aR+1))+1))).bind λaT=>de (List.set (List.set (List.set bO (Int.toNat aA) (bb.mk R ae.dP ae.Body)) (Int.toNat aA) (bb.mk aD.Name (i64.wrap (aR+1)) aD.Body)) (Int.toNat aA) (bb.mk aX.Name aX.dP aT.2)) aT.1 (i64.wrap (aA+1))) (some (aR,bO))
def CS:Nat->ayw->Int->Int->Option (Int×ayw)
 |0,_,_,_=>none
 |n+1,bO,aR,aA=>QD (CS n) bO aR aA
def Ku (a0:ayw) (J:Int):Option (Int×ayw):=
 bZ λn=>CS n a0 J 0
def QE (de:aye->Int->Int->Option (Int×aye)) (bO:aye) (aR aA:Int):Option (Int×aye):=
 cond (decide (aA<(bO.length:Int))) ((bh bO aA).bind λR=>de (List.set bO (Int.toNat aA) aR) (i64.wrap (aR+1)) (i64.wrap (aA+1))) (some (aR,bO))
def CT:Nat->aye->Int->Int->Option (Int×aye)
 |0,_,_,_=>none
 |n+1,bO,aR,aA=>QE (CT n) bO aR aA
def Gy (a0:aye) (J:Int):Option (Int×aye):=
 bZ λn=>CT n a0 J 0
def QF (de:ayx->Int->Int->Option (Int×ayx)) (bO:ayx) (aR aA:Int):Option (Int×ayx):=
 cond (decide (aA<(bO.length:Int))) ((bh bO aA).bind λR=>(bh (List.set bO (Int.toNat aA) (df.mk aR R.bH)) aA).bind λae=>(Gy ae.bH (i64.wrap (aR+1))).bind λaD=>de (List.set (List.set bO (Int.toNat aA) (df.mk aR R.bH)) (Int.toNat aA) (df.mk ae.cp aD.2)) aD.1 (i64.wrap (aA+1))) (some (aR,bO))
def CU:Nat->ayx->Int->Int->Option (Int×ayx)
 |0,_,_,_=>none
 |n+1,bO,aR,aA=>QF (CU n) bO aR aA
def Kv (a0:ayx) (J:Int):Option (Int×ayx):=
 bZ λn=>CU n a0 J 0
def QG (de:ayy->Int->Int->Option (Int×ayy)) (bO:ayy) (aR aA:Int):Option (Int×ayy):=
 cond (decide (aA<(bO.length:Int))) ((sY aR).bind λR=>(bh bO aA).bind λae=>(sY (i64.wrap (aR+1))).bind λaD=>(bh (List.set bO (Int.toNat aA) (b0.mk R ae.cx ae.Result)) aA).bind λaX=>(sY (i64.wrap ((i64.wrap (aR+1))+1))).bind λaT=>(bh (List.set (List.set bO (Int.toNat aA) (b0.mk R ae.cx ae.Result)) (Int.toNat aA) (b0.mk aX.Left aD aX.Result)) aA).bind λbp=>de (List.set (List.set (List.set bO (Int.toNat aA) (b0.mk R ae.cx ae.Result)) (Int.toNat aA) (b0.mk aX.Left aD aX.Result)) (Int.toNat aA) (b0.mk bp.Left bp.cx aT)) (i64.wrap ((i64.wrap ((i64.wrap (aR+1))+1))+1)) (i64.wrap (aA+1))) (some (aR,bO))
def CV:Nat->ayy->Int->Int->Option (Int×ayy)
 |0,_,_,_=>none
 |n+1,bO,aR,aA=>QG (CV n) bO aR aA
def Kw (a0:ayy) (J:Int):Option (Int×ayy):=
 bZ λn=>CV n a0 J 0
def QH (de:ayb->Int->Int->Option (Int×ayb)) (bO:ayb) (aR aA:Int):Option (Int×ayb):=
 cond (decide (aA<(bO.length:Int))) ((sY aR).bind λR=>(bh bO aA).bind λae=>de (List.set bO (Int.toNat aA) R) (i64.wrap (aR+1)) (i64.wrap (aA+1))) (some (aR,bO))
def CW:Nat->ayb->Int->Int->Option (Int×ayb)
 |0,_,_,_=>none
 |n+1,bO,aR,aA=>QH (CW n) bO aR aA
def Gz (a0:ayb) (J:Int):Option (Int×ayb):=
 bZ λn=>CW n a0 J 0
def Kx (dF:ayw) (dv:ayx) (dq:ayy) (fD fu:ayb) (J:Int):Option (Int×ayw×ayx×ayy×ayb×ayb):=
 (Ku dF J).bind λR=>(Kv dv R.1).bind λae=>(Kw dq ae.1).bind λaD=>(Gz fD aD.1).bind λaX=>(Gz fu aX.1).bind λaT=>some (aT.1,R.2,ae.2,aD.2,aX.2,aT.2)
def QI (de:ayz->Int->Int->Option (Int×ayz)) (bO:ayz) (aR aA:Int):Option (Int×ayz):=
 cond (decide (aA<(bO.length:Int))) ((bh bO aA).bind λR=>(bh (List.set bO (Int.toNat aA) (bd.mk aR R.Part R.bH)) aA).bind λae=>(bh (List.set (List.set bO (Int.toNat aA) (bd.mk aR R.Part R.bH)) (Int.toNat aA) (bd.mk ae.cp (i64.wrap (aR+1)) ae.bH)) aA).bind λaD=>(Gy aD.bH (i64.wrap ((i64.wrap (aR+1))+1))).bind λaX=>de (List.set (List.set (List.set bO (Int.toNat aA) (bd.mk aR R.Part R.bH)) (Int.toNat aA) (bd.mk ae.cp (i64.wrap (aR+1)) ae.bH)) (Int.toNat aA) (bd.mk aD.cp aD.Part aX.2)) aX.1 (i64.wrap (aA+1))) (some (aR,bO))
def CX:Nat->ayz->Int->Int->Option (Int×ayz)
 |0,_,_,_=>none
 |n+1,bO,aR,aA=>QI (CX n) bO aR aA
def GA (a0:ayz) (J:Int):Option (Int×ayz):=
 bZ λn=>CX n a0 J 0
def QJ (de:ayA->Int->Int->Option (Int×ayA)) (bO:ayA) (aR aA:Int):Option (Int×ayA):=
 cond (decide (aA<(bO.length:Int))) ((sY aR).bind λR=>(bh bO aA).bind λae=>(bh (List.set bO (Int.toNat aA) (a1.mk R ae.gH ae.Second ae.State)) aA).bind λaD=>(bh (List.set (List.set bO (Int.toNat aA) (a1.mk R ae.gH ae.Second ae.State)) (Int.toNat aA) (a1.mk aD.Label (i64.wrap (aR+1)) aD.Second aD.State)) aA).bind λaX=>(bh (List.set (List.set (List.set bO (Int.toNat aA) (a1.mk R ae.gH ae.Second ae.State)) (Int.toNat aA) (a1.mk aD.Label (i64.wrap (aR+1)) aD.Second aD.State)) (Int.toNat aA) (a1.mk aX.Label aX.gH (i64.wrap ((i64.wrap (aR+1))+1)) aX.State)) aA).bind λaT=>(GA aT.State (i64.wrap ((i64.wrap ((i64.wrap (aR+1))+1))+1))).bind λbp=>de (List.set (List.set (List.set (List.set bO (Int.toNat aA) (a1.mk R ae.gH ae.Second ae.State)) (Int.toNat aA) (a1.mk aD.Label (i64.wrap (aR+1)) aD.Second aD.State)) (Int.toNat aA) (a1.mk aX.Label aX.gH (i64.wrap ((i64.wrap (aR+1))+1)) aX.State)) (Int.toNat aA) (a1.mk aT.Label aT.gH aT.Second bp.2)) bp.1 (i64.wrap (aA+1))) (some (aR,bO))
def CY:Nat->ayA->Int->Int->Option (Int×ayA)
 |0,_,_,_=>none
 |n+1,bO,aR,aA=>QJ (CY n) bO aR aA
def Ky (a0:ayA) (J:Int):Option (Int×ayA):=
 bZ λn=>CY n a0 J 0
def QK (de:Int->Int->ayh) (a0:aye) (aR aA:Int):ayh:=
 cond (decide (aA<(a0.length:Int))) ((bh a0 aA).bind λR=>cond (R !=aR) (some (-1)) (de (i64.wrap (aR+1)) (i64.wrap (aA+1)))) (some aR)
def CZ (a0:aye):Nat->Int->Int->ayh
 |0,_,_=>none
 |n+1,aR,aA=>QK (CZ a0 n) a0 aR aA
def Kz (a0:aye) (J:Int):ayh:=
 bZ λn=>CZ a0 n J 0
def QL (de:Int->Int->ayh) (a0:ayz) (aR aA:Int):ayh:=
 cond (decide (aA<(a0.length:Int))) ((bh a0 aA).bind λR=>cond (R.cp !=aR) (some (-1)) (cond (R.Part !=(i64.wrap (aR+1))) (some (-1)) ((Kz R.bH (i64.wrap ((i64.wrap (aR+1))+1))).bind λae=>cond (decide (ae<0)) (some (-1)) (de ae (i64.wrap (aA+1)))))) (some aR)
def C0 (a0:ayz):Nat->Int->Int->ayh
 |0,_,_=>none
 |n+1,aR,aA=>QL (C0 a0 n) a0 aR aA
def KA (a0:ayz) (J:Int):ayh:=
 bZ λn=>C0 a0 n J 0
def QM (de:Int->Int->ayh) (a0:ayA) (aR aA:Int):ayh:=
 cond (decide (aA<(a0.length:Int))) ((bh a0 aA).bind λR=>(sY aR).bind λae=>cond (!(R.Label==ae)) (some (-1)) (cond (R.gH !=(i64.wrap (aR+1))) (some (-1)) (cond (R.Second !=(i64.wrap ((i64.wrap (aR+1))+1))) (some (-1)) ((KA R.State (i64.wrap ((i64.wrap ((i64.wrap (aR+1))+1))+1))).bind λaD=>cond (decide (aD<0)) (some (-1)) (de aD (i64.wrap (aA+1))))))) (some aR)
def C1 (a0:ayA):Nat->Int->Int->ayh
 |0,_,_=>none
 |n+1,aR,aA=>QM (C1 a0 n) a0 aR aA
def GB (a0:ayA) (J:Int):ayh:=
 bZ λn=>C1 a0 n J 0
def QN (a0:oN) (J:ayt):ayg:=
 (Fg a0 1048576).bind λR=>cond (decide (R<0)) (some true) ((I9 J R).bind λae=>cond (decide (ae<0)) (some true) ((xH a0).bind λaD=>(za J).bind λaX=>(JJ aD aX).bind λaT=>(xH a0).bind λbp=>(za J).bind λbs=>(Gk bp bs).bind λcv=>(CO cv.1 aT.1).bind λdE=>cond ((!dE)||(cv.2 !=aT.2)) (some false) ((xH a0).bind λdI=>(Gx bp dI).bind λe6=>cond (!e6) (some false) ((za J).bind λkv=>(Gn bs kv).bind λmy=>cond (!my) (some false) ((Kx bp.c8 bp.cL bp.cz bp.dj bp.dk 1).bind λiW=>(GA bs iW.1).bind λhk=>cond (decide (hk.1<0)) (some false) ((CO cv.1 aT.1).bind λjd=>cond ((!jd)||(cv.2 !=aT.2)) (some false) ((Ky cv.1 1).bind λiv=>(GB iv.2 1).bind λpU=>cond (decide (pU<0)) (some false) (cond (pU !=iv.1) (some false) ((xH a0).bind λlr=>(za J).bind λlu=>(Gk lr lu).bind λk1=>(CO k1.1 aT.1).bind λmS=>cond ((!mS)||(k1.2 !=aT.2)) (some false) ((GB iv.2 1).bind λlv=>cond (decide (lv<0)) (some false) (cond (lv !=iv.1) (some false) (some true))))))))))))
end
end Go.kX
