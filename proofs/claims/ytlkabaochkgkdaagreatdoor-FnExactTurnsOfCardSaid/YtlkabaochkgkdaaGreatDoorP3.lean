/- Part of a proof that a law returns true for every input. No condition. -/
import Derived.Test.YtlkabaochkgkdaaGreatDoorFwA
namespace Go.eU
open Go Go.c_
set_option linter.unusedVariables false
noncomputable section
structure hL where
 Kind:Int
 Value:Int
def xx (x:hL):Prop:=(-9223372036854775808<=x.Kind/\x.Kind<=9223372036854775807)/\(-9223372036854775808<=x.Value/\x.Value<=9223372036854775807)
structure jf where
 Kind:Int
 Number:Int
 Name:List UInt8
 cN:List (List hL)
def zL (x:jf):Prop:=(-9223372036854775808<=x.Kind/\x.Kind<=9223372036854775807)/\(-9223372036854775808<=x.Number/\x.Number<=9223372036854775807)/\x.Name.length<=9223372036854775807/\(x.cN.length<=9223372036854775807/\∀y∈x.cN,(y.length<=9223372036854775807/\∀z∈y,xx z))
structure jg where
 Name:List UInt8
 dE:Int
 Body:List jf
def zM (x:jg):Prop:=x.Name.length<=9223372036854775807/\(-9223372036854775808<=x.dE/\x.dE<=9223372036854775807)/\(x.Body.length<=9223372036854775807/\∀y∈x.Body,zL y)
structure jh where
 hM:Int
 fE:List Int
def zN (x:jh):Prop:=(-9223372036854775808<=x.hM/\x.hM<=9223372036854775807)/\(x.fE.length<=9223372036854775807/\∀y∈x.fE,(-9223372036854775808<=y/\y<=9223372036854775807))
structure iZ where
 Left:List UInt8
 ch:List UInt8
 Result:List UInt8
def zO (x:iZ):Prop:=x.Left.length<=9223372036854775807/\x.ch.length<=9223372036854775807/\x.Result.length<=9223372036854775807
structure lL where
 fv:List jg
 bK:List jh
 hZ:List iZ
 hN:List (List UInt8)
 hO:List (List UInt8)
def zP (x:lL):Prop:=(x.fv.length<=9223372036854775807/\∀y∈x.fv,zM y)/\(x.bK.length<=9223372036854775807/\∀y∈x.bK,zN y)/\(x.hZ.length<=9223372036854775807/\∀y∈x.hZ,zO y)/\(x.hN.length<=9223372036854775807/\∀y∈x.hN,y.length<=9223372036854775807)/\(x.hO.length<=9223372036854775807/\∀y∈x.hO,y.length<=9223372036854775807)
structure iG where
 Choice:Int
 c8:Int
 Second:Int
 Label:List UInt8
def xy (x:iG):Prop:=(-9223372036854775808<=x.Choice/\x.Choice<=9223372036854775807)/\(-9223372036854775808<=x.c8/\x.c8<=9223372036854775807)/\(-9223372036854775808<=x.Second/\x.Second<=9223372036854775807)/\x.Label.length<=9223372036854775807
structure b1 where
 Kind:Int
 Value:Int
def YN (x:b1):Prop:=(-9223372036854775808<=x.Kind/\x.Kind<=9223372036854775807)/\(-9223372036854775808<=x.Value/\x.Value<=9223372036854775807)
structure bH where
 Kind:Int
 Number:Int
 Name:List UInt8
 cN:List (List b1)
def YO (x:bH):Prop:=(-9223372036854775808<=x.Kind/\x.Kind<=9223372036854775807)/\(-9223372036854775808<=x.Number/\x.Number<=9223372036854775807)/\x.Name.length<=9223372036854775807/\(x.cN.length<=9223372036854775807/\∀y∈x.cN,(y.length<=9223372036854775807/\∀z∈y,YN z))
structure bs where
 Name:List UInt8
 dE:Int
 Body:List bH
def YP (x:bs):Prop:=x.Name.length<=9223372036854775807/\(-9223372036854775808<=x.dE/\x.dE<=9223372036854775807)/\(x.Body.length<=9223372036854775807/\∀y∈x.Body,YO y)
structure dr where
 hM:Int
 fE:List Int
def YQ (x:dr):Prop:=(-9223372036854775808<=x.hM/\x.hM<=9223372036854775807)/\(x.fE.length<=9223372036854775807/\∀y∈x.fE,(-9223372036854775808<=y/\y<=9223372036854775807))
structure b9 where
 Left:List UInt8
 ch:List UInt8
 Result:List UInt8
def YR (x:b9):Prop:=x.Left.length<=9223372036854775807/\x.ch.length<=9223372036854775807/\x.Result.length<=9223372036854775807
structure eI where
 fv:List bs
 bK:List dr
 hZ:List b9
 hN:List (List UInt8)
 hO:List (List UInt8)
def aHM (x:eI):Prop:=(x.fv.length<=9223372036854775807/\∀y∈x.fv,YP y)/\(x.bK.length<=9223372036854775807/\∀y∈x.bK,YQ y)/\(x.hZ.length<=9223372036854775807/\∀y∈x.hZ,YR y)/\(x.hN.length<=9223372036854775807/\∀y∈x.hN,y.length<=9223372036854775807)/\(x.hO.length<=9223372036854775807/\∀y∈x.hO,y.length<=9223372036854775807)
structure b_ where
 Choice:Int
 c8:Int
 Second:Int
 Label:List UInt8
def aHN (x:b_):Prop:=(-9223372036854775808<=x.Choice/\x.Choice<=9223372036854775807)/\(-9223372036854775808<=x.c8/\x.c8<=9223372036854775807)/\(-9223372036854775808<=x.Second/\x.Second<=9223372036854775807)/\x.Label.length<=9223372036854775807
structure cL where
 scope:Int
 behind:Bool
def aHO (x:cL):Prop:=(-9223372036854775808<=x.scope/\x.scope<=9223372036854775807)/\True
def zQ (a0:List hL) (R:Int):Option Int:=
 cond (decide ((IntKind.i64.wrap (R-(a0.length:Int)))<0)) (some (-1)) (some (IntKind.i64.wrap (R-(a0.length:Int))))
def O1 (kR:Int->Int->Option Int) (a0:List (List hL)) (dq:Int) (dh:Int):Option Int:=
 cond (decide (dh<(a0.length:Int))) ((bF a0 dh).bind λaf=>(zQ af dq).bind λak=>cond (decide (ak<0)) (some (-1)) (kR ak (IntKind.i64.wrap (dh+1)))) (some dq)
def C1 (a0:List (List hL)):Nat->Int->Int->Option Int
 |0,_,_=>none
 |n+1,dq,dh=>O1 (C1 a0 n) a0 dq dh
def C2 (a0:List (List hL)) (R:Int):Option Int:=
 cond (decide ((IntKind.i64.wrap (R-(a0.length:Int)))<0)) (some (-1)) (cB λn=>C1 a0 n (IntKind.i64.wrap (R-(a0.length:Int))) 0)
def zR (a0:jf) (R:Int):Option Int:=
 cond (decide ((IntKind.i64.wrap (R-(a0.Name.length:Int)))<0)) (some (-1)) ((C2 a0.cN (IntKind.i64.wrap (R-(a0.Name.length:Int)))).bind λaf=>cond (decide (af<0)) (some (-1)) (some af))
def O2 (kR:Int->Int->Option Int) (a0:List jf) (dq:Int) (dh:Int):Option Int:=
 cond (decide (dh<(a0.length:Int))) ((bF a0 dh).bind λaf=>(zR af dq).bind λak=>cond (decide (ak<0)) (some (-1)) (kR ak (IntKind.i64.wrap (dh+1)))) (some dq)
def C3 (a0:List jf):Nat->Int->Int->Option Int
 |0,_,_=>none
 |n+1,dq,dh=>O2 (C3 a0 n) a0 dq dh
def C4 (a0:List jf) (R:Int):Option Int:=
 cond (decide ((IntKind.i64.wrap (R-(a0.length:Int)))<0)) (some (-1)) (cB λn=>C3 a0 n (IntKind.i64.wrap (R-(a0.length:Int))) 0)
def zS (a0:jg) (R:Int):Option Int:=
 cond (decide ((IntKind.i64.wrap (R-(a0.Name.length:Int)))<0)) (some (-1)) ((C4 a0.Body (IntKind.i64.wrap (R-(a0.Name.length:Int)))).bind λaf=>cond (decide (af<0)) (some (-1)) (some af))
def O3 (kR:Int->Int->Option Int) (a0:List jg) (dq:Int) (dh:Int):Option Int:=
 cond (decide (dh<(a0.length:Int))) ((bF a0 dh).bind λaf=>(zS af dq).bind λak=>cond (decide (ak<0)) (some (-1)) (kR ak (IntKind.i64.wrap (dh+1)))) (some dq)
def C5 (a0:List jg):Nat->Int->Int->Option Int
 |0,_,_=>none
 |n+1,dq,dh=>O3 (C5 a0 n) a0 dq dh
def C6 (a0:List jg) (R:Int):Option Int:=
 cond (decide ((IntKind.i64.wrap (R-(a0.length:Int)))<0)) (some (-1)) (cB λn=>C5 a0 n (IntKind.i64.wrap (R-(a0.length:Int))) 0)
def C7 (a0:List Int) (R:Int):Option Int:=
 cond (decide ((IntKind.i64.wrap (R-(a0.length:Int)))<0)) (some (-1)) (some (IntKind.i64.wrap (R-(a0.length:Int))))
def zT (a0:jh) (R:Int):Option Int:=
 (C7 a0.fE R).bind λaf=>cond (decide (af<0)) (some (-1)) (some af)
def O4 (kR:Int->Int->Option Int) (a0:List jh) (dq:Int) (dh:Int):Option Int:=
 cond (decide (dh<(a0.length:Int))) ((bF a0 dh).bind λaf=>(zT af dq).bind λak=>cond (decide (ak<0)) (some (-1)) (kR ak (IntKind.i64.wrap (dh+1)))) (some dq)
def C8 (a0:List jh):Nat->Int->Int->Option Int
 |0,_,_=>none
 |n+1,dq,dh=>O4 (C8 a0 n) a0 dq dh
def C9 (a0:List jh) (R:Int):Option Int:=
 cond (decide ((IntKind.i64.wrap (R-(a0.length:Int)))<0)) (some (-1)) (cB λn=>C8 a0 n (IntKind.i64.wrap (R-(a0.length:Int))) 0)
def zU (a0:iZ) (R:Int):Option Int:=
 cond (decide ((IntKind.i64.wrap (R-(a0.Left.length:Int)))<0)) (some (-1)) (cond (decide ((IntKind.i64.wrap ((IntKind.i64.wrap (R-(a0.Left.length:Int)))-(a0.ch.length:Int)))<0)) (some (-1)) (cond (decide ((IntKind.i64.wrap ((IntKind.i64.wrap ((IntKind.i64.wrap (R-(a0.Left.length:Int)))-(a0.ch.length:Int)))-(a0.Result.length:Int)))<0)) (some (-1)) (some (IntKind.i64.wrap ((IntKind.i64.wrap ((IntKind.i64.wrap (R-(a0.Left.length:Int)))-(a0.ch.length:Int)))-(a0.Result.length:Int))))))
def O5 (kR:Int->Int->Option Int) (a0:List iZ) (dq:Int) (dh:Int):Option Int:=
 cond (decide (dh<(a0.length:Int))) ((bF a0 dh).bind λaf=>(zU af dq).bind λak=>cond (decide (ak<0)) (some (-1)) (kR ak (IntKind.i64.wrap (dh+1)))) (some dq)
def C_ (a0:List iZ):Nat->Int->Int->Option Int
 |0,_,_=>none
 |n+1,dq,dh=>O5 (C_ a0 n) a0 dq dh
def Da (a0:List iZ) (R:Int):Option Int:=
 cond (decide ((IntKind.i64.wrap (R-(a0.length:Int)))<0)) (some (-1)) (cB λn=>C_ a0 n (IntKind.i64.wrap (R-(a0.length:Int))) 0)
def O6 (kR:Int->Int->Option Int) (a0:List (List UInt8)) (dq:Int) (dh:Int):Option Int:=
 cond (decide (dh<(a0.length:Int))) ((bF a0 dh).bind λaf=>cond (decide ((IntKind.i64.wrap (dq-(af.length:Int)))<0)) (some (-1)) (kR (IntKind.i64.wrap (dq-(af.length:Int))) (IntKind.i64.wrap (dh+1)))) (some dq)
def Db (a0:List (List UInt8)):Nat->Int->Int->Option Int
 |0,_,_=>none
 |n+1,dq,dh=>O6 (Db a0 n) a0 dq dh
def zV (a0:List (List UInt8)) (R:Int):Option Int:=
 cond (decide ((IntKind.i64.wrap (R-(a0.length:Int)))<0)) (some (-1)) (cB λn=>Db a0 n (IntKind.i64.wrap (R-(a0.length:Int))) 0)
def zW (a0:lL) (R:Int):Option Int:=
 (C6 a0.fv R).bind λaf=>cond (decide (af<0)) (some (-1)) ((C9 a0.bK af).bind λak=>cond (decide (ak<0)) (some (-1)) ((Da a0.hZ ak).bind λaJ=>cond (decide (aJ<0)) (some (-1)) ((zV a0.hN aJ).bind λa8=>cond (decide (a8<0)) (some (-1)) ((zV a0.hO a8).bind λbb=>cond (decide (bb<0)) (some (-1)) (some bb)))))
def zX (a0:iG) (R:Int):Option Int:=
 cond (decide ((IntKind.i64.wrap (R-(a0.Label.length:Int)))<0)) (some (-1)) (some (IntKind.i64.wrap (R-(a0.Label.length:Int))))
def O7 (kR:Int->Int->Option Int) (a0:List iG) (dq:Int) (dh:Int):Option Int:=
 cond (decide (dh<(a0.length:Int))) ((bF a0 dh).bind λaf=>(zX af dq).bind λak=>cond (decide (ak<0)) (some (-1)) (kR ak (IntKind.i64.wrap (dh+1)))) (some dq)
def Dc (a0:List iG):Nat->Int->Int->Option Int
 |0,_,_=>none
 |n+1,dq,dh=>O7 (Dc a0 n) a0 dq dh
def Dd (a0:List iG) (R:Int):Option Int:=
 cond (decide ((IntKind.i64.wrap (R-(a0.length:Int)))<0)) (some (-1)) (cB λn=>Dc a0 n (IntKind.i64.wrap (R-(a0.length:Int))) 0)
def zY (a0:hL):Option b1:=
 some (b1.mk a0.Kind a0.Value)
def O8 (gy:(List b1)->Int->Option ((List b1))) (a0:List hL) (b2:List b1) (bu:Int):Option ((List b1)):=
 cond (decide (bu<(a0.length:Int))) ((bF a0 bu).bind λaf=>(zY af).bind λak=>(bF b2 bu).bind λaJ=>gy (List.set b2 (Int.toNat bu) ak) (IntKind.i64.wrap (bu+1))) (some b2)
def De (a0:List hL):Nat->(List b1)->Int->Option ((List b1))
 |0,_,_=>none
 |n+1,b2,bu=>O8 (De a0 n) a0 b2 bu
def zZ (a0:List hL):Option ((List b1)):=
 (k4 16 (a0.length:Int)).bind λ_=>cB λn=>De a0 n (List.replicate (Int.toNat (a0.length:Int)) (b1.mk 0 0)) 0
def O9 (gy:(List (List b1))->Int->Option ((List (List b1)))) (a0:List (List hL)) (b2:List (List b1)) (bu:Int):Option ((List (List b1))):=
 cond (decide (bu<(a0.length:Int))) ((bF a0 bu).bind λaf=>(zZ af).bind λak=>(bF b2 bu).bind λaJ=>gy (List.set b2 (Int.toNat bu) ak) (IntKind.i64.wrap (bu+1))) (some b2)
def Df (a0:List (List hL)):Nat->(List (List b1))->Int->Option ((List (List b1)))
 |0,_,_=>none
 |n+1,b2,bu=>O9 (Df a0 n) a0 b2 bu
def Dg (a0:List (List hL)):Option ((List (List b1))):=
 (k4 24 (a0.length:Int)).bind λ_=>cB λn=>Df a0 n (List.replicate (Int.toNat (a0.length:Int)) []) 0
def z1 (a0:jf):Option bH:=
 (Dg a0.cN).bind λaf=>some (bH.mk a0.Kind a0.Number a0.Name af)
def O_ (gy:(List bH)->Int->Option ((List bH))) (a0:List jf) (b2:List bH) (bu:Int):Option ((List bH)):=
 cond (decide (bu<(a0.length:Int))) ((bF a0 bu).bind λaf=>(z1 af).bind λak=>(bF b2 bu).bind λaJ=>gy (List.set b2 (Int.toNat bu) ak) (IntKind.i64.wrap (bu+1))) (some b2)
def Dh (a0:List jf):Nat->(List bH)->Int->Option ((List bH))
 |0,_,_=>none
 |n+1,b2,bu=>O_ (Dh a0 n) a0 b2 bu
def Di (a0:List jf):Option ((List bH)):=
 (k4 56 (a0.length:Int)).bind λ_=>cB λn=>Dh a0 n (List.replicate (Int.toNat (a0.length:Int)) (bH.mk 0 0 ([]:List UInt8) [])) 0
def z6 (a0:jg):Option bs:=
 (Di a0.Body).bind λaf=>some (bs.mk a0.Name a0.dE af)
def Pa (gy:(List bs)->Int->Option ((List bs))) (a0:List jg) (b2:List bs) (bu:Int):Option ((List bs)):=
 cond (decide (bu<(a0.length:Int))) ((bF a0 bu).bind λaf=>(z6 af).bind λak=>(bF b2 bu).bind λaJ=>gy (List.set b2 (Int.toNat bu) ak) (IntKind.i64.wrap (bu+1))) (some b2)
def Dj (a0:List jg):Nat->(List bs)->Int->Option ((List bs))
 |0,_,_=>none
 |n+1,b2,bu=>Pa (Dj a0 n) a0 b2 bu
def Dk (a0:List jg):Option ((List bs)):=
 (k4 48 (a0.length:Int)).bind λ_=>cB λn=>Dj a0 n (List.replicate (Int.toNat (a0.length:Int)) (bs.mk ([]:List UInt8) 0 [])) 0
def Pb (gy:(List Int)->Int->Option ((List Int))) (a0:List Int) (b2:List Int) (bu:Int):Option ((List Int)):=
 cond (decide (bu<(a0.length:Int))) ((bF a0 bu).bind λaf=>(bF b2 bu).bind λak=>gy (List.set b2 (Int.toNat bu) af) (IntKind.i64.wrap (bu+1))) (some b2)
def Dl (a0:List Int):Nat->(List Int)->Int->Option ((List Int))
 |0,_,_=>none
 |n+1,b2,bu=>Pb (Dl a0 n) a0 b2 bu
def Dm (a0:List Int):Option ((List Int)):=
 (k4 8 (a0.length:Int)).bind λ_=>cB λn=>Dl a0 n (List.replicate (Int.toNat (a0.length:Int)) 0) 0
def z7 (a0:jh):Option dr:=
 (Dm a0.fE).bind λaf=>some (dr.mk a0.hM af)
def Pc (gy:(List dr)->Int->Option ((List dr))) (a0:List jh) (b2:List dr) (bu:Int):Option ((List dr)):=
 cond (decide (bu<(a0.length:Int))) ((bF a0 bu).bind λaf=>(z7 af).bind λak=>(bF b2 bu).bind λaJ=>gy (List.set b2 (Int.toNat bu) ak) (IntKind.i64.wrap (bu+1))) (some b2)
def Dn (a0:List jh):Nat->(List dr)->Int->Option ((List dr))
 |0,_,_=>none
 |n+1,b2,bu=>Pc (Dn a0 n) a0 b2 bu
def Dp (a0:List jh):Option ((List dr)):=
 (k4 32 (a0.length:Int)).bind λ_=>cB λn=>Dn a0 n (List.replicate (Int.toNat (a0.length:Int)) (dr.mk 0 [])) 0
def z8 (a0:iZ):Option b9:=
 some (b9.mk a0.Left a0.ch a0.Result)
def Pd (gy:(List b9)->Int->Option ((List b9))) (a0:List iZ) (b2:List b9) (bu:Int):Option ((List b9)):=
 cond (decide (bu<(a0.length:Int))) ((bF a0 bu).bind λaf=>(z8 af).bind λak=>(bF b2 bu).bind λaJ=>gy (List.set b2 (Int.toNat bu) ak) (IntKind.i64.wrap (bu+1))) (some b2)
def Dq (a0:List iZ):Nat->(List b9)->Int->Option ((List b9))
 |0,_,_=>none
 |n+1,b2,bu=>Pd (Dq a0 n) a0 b2 bu
def Dr (a0:List iZ):Option ((List b9)):=
 (k4 48 (a0.length:Int)).bind λ_=>cB λn=>Dq a0 n (List.replicate (Int.toNat (a0.length:Int)) (b9.mk ([]:List UInt8) ([]:List UInt8) ([]:List UInt8))) 0
def Pe (gy:(List (List UInt8))->Int->Option ((List (List UInt8)))) (a0:List (List UInt8)) (b2:List (List UInt8)) (bu:Int):Option ((List (List UInt8))):=
 cond (decide (bu<(a0.length:Int))) ((bF a0 bu).bind λaf=>(bF b2 bu).bind λak=>gy (List.set b2 (Int.toNat bu) af) (IntKind.i64.wrap (bu+1))) (some b2)
def Ds (a0:List (List UInt8)):Nat->(List (List UInt8))->Int->Option ((List (List UInt8)))
 |0,_,_=>none
 |n+1,b2,bu=>Pe (Ds a0 n) a0 b2 bu
def z_ (a0:List (List UInt8)):Option ((List (List UInt8))):=
 (k4 16 (a0.length:Int)).bind λ_=>cB λn=>Ds a0 n (List.replicate (Int.toNat (a0.length:Int)) ([]:List UInt8)) 0
def tb (a0:lL):Option eI:=
 (Dk a0.fv).bind λaf=>(Dp a0.bK).bind λak=>(Dr a0.hZ).bind λaJ=>(z_ a0.hN).bind λa8=>(z_ a0.hO).bind λbb=>some (eI.mk af ak aJ a8 bb)
def Aa (a0:iG):Option b_:=
 some (b_.mk a0.Choice a0.c8 a0.Second a0.Label)
def Pf (gy:(List b_)->Int->Option ((List b_))) (a0:List iG) (b2:List b_) (bu:Int):Option ((List b_)):=
 cond (decide (bu<(a0.length:Int))) ((bF a0 bu).bind λaf=>(Aa af).bind λak=>(bF b2 bu).bind λaJ=>gy (List.set b2 (Int.toNat bu) ak) (IntKind.i64.wrap (bu+1))) (some b2)
def Dt (a0:List iG):Nat->(List b_)->Int->Option ((List b_))
 |0,_,_=>none
 |n+1,b2,bu=>Pf (Dt a0 n) a0 b2 bu
def uH (a0:List iG):Option ((List b_)):=
 (k4 40 (a0.length:Int)).bind λ_=>cB λn=>Dt a0 n (List.replicate (Int.toNat (a0.length:Int)) (b_.mk 0 0 0 ([]:List UInt8))) 0
def Ab (a0:UInt8):Option Bool:=
 some ((decide (97<=(a0.toNat:Int)))&&(decide ((a0.toNat:Int)<=122)))
def xz (a0:UInt8):Option Bool:=
 some ((decide (48<=(a0.toNat:Int)))&&(decide ((a0.toNat:Int)<=57)))
def Du (fV:Int->Option Bool) (a0:List UInt8) (cG:Int):Option Bool:=
 cond (decide (cG<(a0.length:Int))) ((bF a0 cG).bind λaJ=>(Ab aJ).bind λa8=>cond (!a8) ((xz aJ).bind λbb=>cond (!bb) (some false) (fV (IntKind.i64.wrap (cG+1)))) (fV (IntKind.i64.wrap (cG+1)))) (some true)
def xA (a0:List UInt8):Nat->Int->Option Bool
 |0,_=>none
 |n+1,cG=>Du (xA a0 n) a0 cG
def uI (a0:List UInt8):Option Bool:=
 cond (a0==([]:List UInt8)) (some false) (cond (decide (10<(a0.length:Int))) (some false) ((bF a0 0).bind λaf=>(Ab af).bind λak=>cond (!ak) (some false) (cB λn=>xA a0 n 0)))
def kS (a0:Int) (R:Int) (a2:Int):Option Bool:=
 some ((decide (R<=a0))&&(decide (a0<=a2)))
def Ac (a0:bH) (h0:Bool):Option Int:=
 cond h0 (some 1) (cond (a0.Kind==2) (some 2) (some 0))
def Ad (a0:bH):Option Int:=
 cond (a0.Kind==1) (Ac a0 true) (cond (a0.Kind==3) (Ac a0 true) (Ac a0 (a0.Kind==4)))
def Dv (kR:Int->Int->Option Bool) (a0:List bH) (oB:Int) (pe:Int):Option Bool:=
 cond (decide (pe<(a0.length:Int))) (cond (oB==0) (some false) ((bF a0 pe).bind λaf=>(Ad af).bind λak=>kR (IntKind.i64.wrap (oB+(IntKind.i64.wrap (ak-1)))) (IntKind.i64.wrap (pe+1)))) (some (oB==0))
def uJ (a0:List bH):Nat->Int->Int->Option Bool
 |0,_,_=>none
 |n+1,oB,pe=>Dv (uJ a0 n) a0 oB pe
def Dw (a0:List bH):Option Bool:=
 cond (((a0.length:Int)==0)||(decide (20<(a0.length:Int)))) (some false) (cB λn=>uJ a0 n 1 0)
def Dx (a0:bH) (Ae:Bool):Option Bool:=
 cond Ae (some (((a0.Number==0)&&(a0.Name==([]:List UInt8)))&&((a0.cN.length:Int)==0))) (cond (a0.Kind==1) (some (a0.Number==0)) (cond (a0.Kind==3) (some ((a0.Number==0)&&(a0.Name==([]:List UInt8)))) (cond (a0.Kind==4) (some ((a0.Name==([]:List UInt8))&&((a0.cN.length:Int)==0))) (cond (a0.Kind==5) (some (a0.Name==([]:List UInt8))) (some false)))))
def Jd (a0:bH):Option Bool:=
 cond (a0.Kind==0) (Dx a0 true) (Dx a0 (a0.Kind==2))
def Dy (dM:Int->Int->Option Int) (a0:List bH) (aU:Int) (aK:Int):Option Int:=
 cond (decide (0<aK)) ((bF a0 aU).bind λaf=>(Ad af).bind λak=>dM (IntKind.i64.wrap (aU+1)) (IntKind.i64.wrap (aK+(IntKind.i64.wrap (ak-1))))) (some aU)
def uK (a0:List bH):Nat->Int->Int->Option Int
 |0,_,_=>none
 |n+1,aU,aK=>Dy (uK a0 n) a0 aU aK
def Dz (a0:List bH) (R:Int):Option Int:=
 cB λn=>uK a0 n R 1
def Af (gy:Int->Int->Option Int) (a0:bs) (R:Int) (xB:Int) (xC:Int):Option Int:=
 gy xB (IntKind.i64.wrap (xC+1))
def DA (gy:Int->Int->Option Int) (a0:bs) (R:Int) (ic:Int) (lM:Int):Option Int:=
 cond (decide (lM<R)) ((bF a0.Body lM).bind λaf=>cond (af.Kind==4) ((Dz a0.Body lM).bind λak=>cond (decide (R<ak)) (Af gy a0 R (IntKind.i64.wrap (ic+1)) lM) (Af gy a0 R ic lM)) (Af gy a0 R ic lM)) (some ic)
def tc (a0:bs) (R:Int):Nat->Int->Int->Option Int
 |0,_,_=>none
 |n+1,ic,lM=>DA (tc a0 R n) a0 R ic lM
def xD (a0:bs) (R:Int):Option Int:=
 cB λn=>tc a0 R n a0.dE 0
def DB (a0:b1) (R:Int):Option Bool:=
 cond (a0.Kind==0) ((kS a0.Value 0 63).bind λaf=>some af) (cond (a0.Kind==1) ((kS a0.Value 0 (IntKind.i64.wrap (R-1))).bind λak=>some ak) (cond (a0.Kind==2) ((kS a0.Value 0 8).bind λaJ=>some aJ) (cond (a0.Kind==3) (some (a0.Value==0)) (some false))))
def Je (a0:b1):Option Int:=
 cond (a0.Kind==2) (some 2) (cond (a0.Kind==3) (some 1) (some 0))
def DC (kR:Int->Int->Option Bool) (a0:List b1) (R:Int) (h0:Int) (oC:Int):Option Bool:=
 cond (decide (oC<(a0.length:Int))) (cond (h0==0) (some false) ((bF a0 oC).bind λaf=>(DB af R).bind λak=>cond (!ak) (some false) ((Je af).bind λaJ=>kR (IntKind.i64.wrap (h0+(IntKind.i64.wrap (aJ-1)))) (IntKind.i64.wrap (oC+1))))) (some (h0==0))
def uL (a0:List b1) (R:Int):Nat->Int->Int->Option Bool
 |0,_,_=>none
 |n+1,h0,oC=>DC (uL a0 R n) a0 R h0 oC
def DD (a0:List b1) (R:Int) (a2:Int):Option Bool:=
 cond (decide (a2<(a0.length:Int))) (some false) (cB λn=>uL a0 R n 1 0)
def DE (YS:Int->Int->Option Int) (af:bH) (pf:Int) (pg:Int):Option Int:=
 cond (decide (pg<(af.cN.length:Int))) ((bF af.cN pg).bind λa8=>(DD a8 pf 15).bind λbb=>cond (!bb) (some 8) (YS pf (IntKind.i64.wrap (pg+1)))) (some 0)
def td (af:bH):Nat->Int->Int->Option Int
 |0,_,_=>none
 |n+1,pf,pg=>DE (td af n) af pf pg
def xE (R:bs) (a2:Int) (af:bH) (Ag:Bool):Option Int:=
 cond Ag (some 6) ((xD R a2).bind λaJ=>cond ((af.Kind==4)&&(decide (6<=aJ))) (some 7) (cB λn=>td af n aJ 0))
def uM (R:bs) (a2:Int) (af:bH):Option Int:=
 cond (af.Kind==5) (cond (a2==0) (xE R a2 af true) ((bF R.Body (IntKind.i64.wrap (a2-1))).bind λbO=>xE R a2 af (bO.Kind !=1))) (xE R a2 af false)
def uN (a0:List bs) (R:bs) (a2:Int) (af:bH) (Ah:Bool):Option Int:=
 cond Ah (some 4) (cond (af.Kind==1) (cond ((decide (2<(af.cN.length:Int)))||((decide (0<(af.cN.length:Int)))&&(af.Name==([116,97,117]:List UInt8)))) (some 5) (uM R a2 af)) (cond (af.Kind==3) (cond ((af.cN.length:Int) !=1) (some 5) (uM R a2 af)) (cond (af.Kind==5) ((bF a0 af.Number).bind λcx=>cond ((af.cN.length:Int) !=cx.dE) (some 5) (uM R a2 af)) (uM R a2 af))))
def DF (a0:List bs) (R:bs) (a2:Int) (af:bH) (Ai:Bool):Option Int:=
 cond Ai (some 3) (cond (af.Kind==4) ((kS af.Number 1 7).bind λeg=>cond (!eg) (uN a0 R a2 af true) (cond (af.Kind==5) ((kS af.Number 0 (IntKind.i64.wrap ((a0.length:Int)-1))).bind λde=>uN a0 R a2 af (!de)) (uN a0 R a2 af false))) (cond (af.Kind==5) ((kS af.Number 0 (IntKind.i64.wrap ((a0.length:Int)-1))).bind λdf=>uN a0 R a2 af (!df)) (uN a0 R a2 af false)))
def Aj (a0:List bs) (R:bs) (a2:Int):Option Int:=
 (bF R.Body a2).bind λaf=>(Jd af).bind λak=>cond (!ak) (some 2) (cond (af.Kind==1) ((uI af.Name).bind λfo=>DF a0 R a2 af (!fo)) (DF a0 R a2 af false))
def Ak (fV:Int->Option (Int×Int)) (a0:List bs) (R:bs) (nn:Int):Option (Int×Int):=
 cond (decide (nn<(R.Body.length:Int))) ((Aj a0 R nn).bind λak=>cond (decide (0<ak)) (some (nn,ak)) (fV (IntKind.i64.wrap (nn+1)))) (some (0,0))
def te (a0:List bs) (R:bs):Nat->Int->Option (Int×Int)
 |0,_=>none
 |n+1,nn=>Ak (te a0 R n) a0 R nn
def xF (a0:List bs) (R:bs):Option (Int×Int):=
 (Dw R.Body).bind λaf=>cond (!af) (some (0,1)) (cB λn=>te a0 R n 0)
def DG (fV:Int->Option Bool) (Jf:Int->Int->Option Bool) (a0:List bs) (np:Int) (oD:Int):Option Bool:=
 cond (decide (oD<np)) ((bF a0 oD).bind λa8=>(bF a0 np).bind λbb=>cond (a8.Name==bb.Name) (some false) (Jf np (IntKind.i64.wrap (oD+1)))) (fV (IntKind.i64.wrap (np+1)))
def uO (fV:Int->Option Bool) (a0:List bs):Nat->Int->Int->Option Bool
 |0,_,_=>none
 |n+1,np,oD=>DG fV (uO fV a0 n) a0 np oD
def DH (YT:Int->Option Bool) (a0:List bs) (ph:Int):Option Bool:=
 cond (decide (ph<(a0.length:Int))) ((bF a0 ph).bind λbO=>(xF a0 bO).bind λcx=>cond (decide (0<cx.2)) (some false) (YT (IntKind.i64.wrap (ph+1)))) (some true)
def tf (a0:List bs):Nat->Int->Option Bool
 |0,_=>none
 |n+1,ph=>DH (tf a0 n) a0 ph
def DI (fV:Int->Option Bool) (a0:List bs) (cG:Int):Option Bool:=
 cond (decide (cG<(a0.length:Int))) ((bF a0 cG).bind λaf=>(uI af.Name).bind λak=>cond (!ak) (some false) ((kS af.dE 0 3).bind λaJ=>cond (!aJ) (some false) (cB λn=>uO fV a0 n cG 0))) (cB λn=>tf a0 n 0)
def pj (a0:List bs):Nat->Int->Option Bool
 |0,_=>none
 |n+1,cG=>DI (pj a0 n) a0 cG
def DJ (a0:List bs):Option Bool:=
 cond (((a0.length:Int)==0)||(decide (4<(a0.length:Int)))) (some false) (cB λn=>pj a0 n 0)
def DK (dM:Int->Option Bool) (a0:List Int) (gX:Int):Option Bool:=
 cond (decide (gX<(a0.length:Int))) ((bF a0 gX).bind λaf=>(kS af 0 63).bind λak=>cond (!ak) (some false) (dM (IntKind.i64.wrap (gX+1)))) (some true)
def uP (a0:List Int):Nat->Int->Option Bool
 |0,_=>none
 |n+1,gX=>DK (uP a0 n) a0 gX
def DL (a0:List Int):Option Bool:=
 cB λn=>uP a0 n 0
def DM (fV:Int->Option Bool) (a0:eI) (cG:Int):Option Bool:=
 cond (decide (cG<(a0.bK.length:Int))) ((bF a0.bK cG).bind λaf=>(kS af.hM 0 (IntKind.i64.wrap ((a0.fv.length:Int)-1))).bind λak=>cond (!ak) (some false) ((bF a0.fv af.hM).bind λaJ=>cond ((af.fE.length:Int) !=aJ.dE) (some false) ((DL af.fE).bind λa8=>cond (!a8) (some false) (fV (IntKind.i64.wrap (cG+1)))))) (some true)
def uQ (a0:eI):Nat->Int->Option Bool
 |0,_=>none
 |n+1,cG=>DM (uQ a0 n) a0 cG
def DN (a0:eI):Option Bool:=
 cond (((a0.bK.length:Int)==0)||(decide (3<(a0.bK.length:Int)))) (some false) (cB λn=>uQ a0 n 0)
def qV (a0:List UInt8):Option Bool:=
 (uI a0).bind λaf=>some (af&&(!(a0==([116,97,117]:List UInt8))))
def Al (fV:Int->Option Bool) (YU:Int->Int->Option Bool) (a0:List b9) (af:b9) (kx:Int) (kT:Int):Option Bool:=
 cond (decide (kT<(a0.length:Int))) ((bF a0 kT).bind λcx=>cond ((cx.Left==af.Result)||(cx.ch==af.Result)) (some false) (YU kx (IntKind.i64.wrap (kT+1)))) (fV (IntKind.i64.wrap (kx+1)))
def p9 (fV:Int->Option Bool) (a0:List b9) (af:b9):Nat->Int->Int->Option Bool
 |0,_,_=>none
 |n+1,kx,kT=>Al fV (p9 fV a0 af n) a0 af kx kT
def DO (fV:Int->Option Bool) (a0:List b9) (cG:Int):Option Bool:=
 cond (decide (cG<(a0.length:Int))) ((bF a0 cG).bind λaf=>(qV af.Left).bind λak=>cond (!ak) (some false) ((qV af.ch).bind λaJ=>cond (!aJ) (some false) ((qV af.Result).bind λa8=>cond ((!a8)||(!(Op.bytesLess af.Left af.ch||af.Left==af.ch))) (some false) (cond (decide (0<cG)) ((bF a0 (IntKind.i64.wrap (cG-1))).bind λbb=>cond ((!(Op.bytesLess bb.Left af.Left||bb.Left==af.Left))||((bb.Left==af.Left)&&(!(Op.bytesLess bb.ch af.ch)))) (some false) (cB λn=>p9 fV a0 af n cG 0)) (cB λn=>p9 fV a0 af n cG 0))))) (some true)
def mL (a0:List b9):Nat->Int->Option Bool
 |0,_=>none
 |n+1,cG=>DO (mL a0 n) a0 cG
def DP (a0:List b9):Option Bool:=
 cond (decide (6<(a0.length:Int))) (some false) (cB λn=>mL a0 n 0)
def DQ (dM:Int->Option Bool) (a0:List (List UInt8)) (gX:Int):Option Bool:=
 cond (decide (gX<(a0.length:Int))) ((bF a0 gX).bind λaf=>(qV af).bind λak=>cond (!ak) (some false) (dM (IntKind.i64.wrap (gX+1)))) (some true)
def uR (a0:List (List UInt8)):Nat->Int->Option Bool
 |0,_=>none
 |n+1,gX=>DQ (uR a0 n) a0 gX
def DR (a0:List (List UInt8)):Option Bool:=
 cB λn=>uR a0 n 0
def Am (fV:Int->Option Bool) (a0:List (List UInt8)) (cG:Int):Option Bool:=
 cond (decide (cG<(a0.length:Int))) ((bF a0 (IntKind.i64.wrap (cG-1))).bind λak=>(bF a0 cG).bind λaJ=>cond (!(Op.bytesLess ak aJ)) (some false) (fV (IntKind.i64.wrap (cG+1)))) (some true)
def oE (a0:List (List UInt8)):Nat->Int->Option Bool
 |0,_=>none
 |n+1,cG=>Am (oE a0 n) a0 cG
def An (a0:List (List UInt8)):Option Bool:=
 cond (decide (12<(a0.length:Int))) (some false) ((DR a0).bind λaf=>cond (!af) (some false) (cB λn=>oE a0 n 1))
def DS (a0:eI):Option Int:=
 (DJ a0.fv).bind λaf=>cond (!af) (some 1) ((DN a0).bind λak=>cond (!ak) (some 2) ((DP a0.hZ).bind λaJ=>cond (!aJ) (some 3) ((An a0.hN).bind λa8=>cond (!a8) (some 4) ((An a0.hO).bind λbb=>cond (!bb) (some 5) (some 0)))))
def DT (a0:eI):Option Bool:=
 (DS a0).bind λaf=>some (af==0)
def DU (dM:Int->Option Int) (a0:List UInt8) (gX:Int):Option Int:=
 cond (decide (gX<(a0.length:Int))) ((bF a0 gX).bind λaf=>cond ((af.toNat:Int)==40) (some gX) (dM (IntKind.i64.wrap (gX+1)))) (some (a0.length:Int))
def rU (a0:List UInt8):Nat->Int->Option Int
 |0,_=>none
 |n+1,gX=>DU (rU a0 n) a0 gX
def xG (a0:List UInt8):Option Int:=
 cB λn=>rU a0 n 0
def DV (oi:(List (List UInt8))->Int->Int->Option ((List (List UInt8)))) (a0:List UInt8) (R:UInt8) (xH:List (List UInt8)) (ji:Int) (xI:Int):Option ((List (List UInt8))):=
 oi xH ji (IntKind.i64.wrap (xI+1))
def DW (oi:(List (List UInt8))->Int->Int->Option ((List (List UInt8)))) (a0:List UInt8) (R:UInt8) (lN:List (List UInt8)) (pk:Int) (ll:Int):Option ((List (List UInt8))):=
 cond (decide (ll<(a0.length:Int))) ((bF a0 ll).bind λaf=>cond ((af.toNat:Int)==(R.toNat:Int)) ((gB a0 pk ll).bind λak=>(room 16 (lN.length+1)).bind λ_=>DV oi a0 R (lN++[ak]) (IntKind.i64.wrap (ll+1)) ll) (DV oi a0 R lN pk ll)) ((gB a0 pk (a0.length:Int)).bind λaJ=>(room 16 (lN.length+1)).bind λ_=>some (lN++[aJ]))
def tg (a0:List UInt8) (R:UInt8):Nat->(List (List UInt8))->Int->Int->Option ((List (List UInt8)))
 |0,_,_,_=>none
 |n+1,lN,pk,ll=>DW (tg a0 R n) a0 R lN pk ll
def DX (a0:List UInt8) (R:UInt8):Option ((List (List UInt8))):=
 cB λn=>tg a0 R n [] 0 0
def Ao (p_:Int):Option (Int×Bool):=
 some (p_,true)
def Ap (YV:Int->Int->Option (Int×Bool)) (a0:List UInt8) (jK:Int) (ki:Int) (lO:Int):Option (Int×Bool):=
 cond (decide (lO<(a0.length:Int))) ((bF a0 lO).bind λa8=>(xz a8).bind λbb=>cond (!bb) (some (0,false)) (YV (IntKind.i64.wrap ((IntKind.i64.wrap (10*ki))+(IntKind.i64.wrap (IntKind.u8.wrap ((a8.toNat:Int)-48))))) (IntKind.i64.wrap (lO+1)))) (cond (jK==1) (Ao (IntKind.i64.wrap (0-ki))) (Ao ki))
def qa (a0:List UInt8) (jK:Int):Nat->Int->Int->Option (Int×Bool)
 |0,_,_=>none
 |n+1,ki,lO=>Ap (qa a0 jK n) a0 jK ki lO
def xJ (a0:List UInt8) (jK:Int):Option (Int×Bool):=
 cond ((a0.length:Int)==jK) (some (0,false)) (cond (decide (18<(IntKind.i64.wrap ((a0.length:Int)-jK)))) (some (0,false)) ((bF a0 jK).bind λaf=>cond ((af.toNat:Int)==48) (cond (decide (1<(a0.length:Int))) (some (0,false)) (cB λn=>qa a0 jK n 0 jK)) (cB λn=>qa a0 jK n 0 jK)))
def DY (a0:List UInt8):Option (Int×Bool):=
 cond (decide (0<(a0.length:Int))) ((bF a0 0).bind λbO=>cond ((bO.toNat:Int)==45) (xJ a0 1) (xJ a0 0)) (xJ a0 0)
def DZ (YW:(List Int)->Int->Option ((List Int)×Bool)) (cx:(List (List UInt8))) (l3:List Int) (nq:Int):Option ((List Int)×Bool):=
 cond (decide (nq<(cx.length:Int))) ((bF cx nq).bind λeg=>(DY eg).bind λde=>cond (!de.2) (some ([],false)) ((kS de.1 0 63).bind λdf=>cond (!df) (some ([],false)) ((room 8 (l3.length+1)).bind λ_=>YW (l3++[de.1]) (IntKind.i64.wrap (nq+1))))) (some (l3,(decide ((l3.length:Int)<=2))))
def th (cx:(List (List UInt8))):Nat->(List Int)->Int->Option ((List Int)×Bool)
 |0,_,_=>none
 |n+1,l3,nq=>DZ (th cx n) cx l3 nq
def Aq (a0:List UInt8):Option ((List Int)×Bool):=
 (xG a0).bind λaf=>cond (af==(a0.length:Int)) ((uI a0).bind λak=>some ([],ak)) ((gB a0 0 af).bind λaJ=>(qV aJ).bind λa8=>cond (!a8) (some ([],false)) ((bF a0 (IntKind.i64.wrap ((a0.length:Int)-1))).bind λbb=>cond ((bb.toNat:Int) !=41) (some ([],false)) ((gB a0 (IntKind.i64.wrap (af+1)) (IntKind.i64.wrap ((a0.length:Int)-1))).bind λbO=>(DX bO (44:UInt8)).bind λcx=>cB λn=>th cx n [] 0)))
def qW (a0:List UInt8):Option Bool:=
 (Aq a0).bind λaf=>some af.2
def D0 (a0:b_):Option Bool:=
 (kS a0.Choice 0 199).bind λaf=>cond af ((kS a0.c8 0 2).bind λak=>cond ak ((kS a0.Second (-1) 2).bind λaJ=>cond aJ ((qW a0.Label).bind λa8=>some a8) (some false)) (some false)) (some false)
def D1 (fV:Int->Option Bool) (a0:List b_) (cG:Int):Option Bool:=
 cond (decide (cG<(a0.length:Int))) ((bF a0 cG).bind λaf=>(D0 af).bind λak=>cond (!ak) (some false) (fV (IntKind.i64.wrap (cG+1)))) (some true)
def uS (a0:List b_):Nat->Int->Option Bool
 |0,_=>none
 |n+1,cG=>D1 (uS a0 n) a0 cG
def D2 (a0:List b_):Option Bool:=
 cond (decide (60<(a0.length:Int))) (some false) (cB λn=>uS a0 n 0)
def D3 (D4:(List Int)->Int->Option ((List Int)×Int)) (a0:eI) (R:List b_) (uT:List Int) (uU:Int):Option ((List Int)×Int):=
 D4 uT (IntKind.i64.wrap (uU+1))
def D5 (D4:(List Int)->Int->Option ((List Int)×Int)) (a0:eI) (R:List b_) (ji:List Int) (ln:Int):Option ((List Int)×Int):=
 cond (decide (ln<(R.length:Int))) ((bF R ln).bind λaJ=>cond ((decide (((List.replicate (Int.toNat (a0.bK.length:Int)) 0).length:Int)<=aJ.c8))||(decide (((List.replicate (Int.toNat (a0.bK.length:Int)) 0).length:Int)<=aJ.Second))) (some ([],9)) ((bF ji aJ.c8).bind λa8=>cond ((decide (0<=aJ.Second))&&(aJ.Second !=aJ.c8)) ((bF (List.set ji (Int.toNat aJ.c8) (IntKind.i64.wrap (a8+1))) aJ.Second).bind λbb=>D3 D4 a0 R (List.set (List.set ji (Int.toNat aJ.c8) (IntKind.i64.wrap (a8+1))) (Int.toNat aJ.Second) (IntKind.i64.wrap (bb+1))) ln) (D3 D4 a0 R (List.set ji (Int.toNat aJ.c8) (IntKind.i64.wrap (a8+1))) ln))) (some (ji,0))
def rV (a0:eI) (R:List b_):Nat->(List Int)->Int->Option ((List Int)×Int)
 |0,_,_=>none
 |n+1,ji,ln=>D5 (rV a0 R n) a0 R ji ln
def D6 (a0:eI) (R:List b_):Option ((List Int)×Int):=
 (DT a0).bind λaf=>cond (!af) (some ([],1)) ((D2 R).bind λak=>cond (!ak) (some ([],7)) ((k4 8 (a0.bK.length:Int)).bind λ_=>cB λn=>rV a0 R n (List.replicate (Int.toNat (a0.bK.length:Int)) 0) 0))
def jj (a0:Int) (R:Int) (a2:Int):Option Bool:=
 some ((decide (R<=a0))&&(decide (a0<=a2)))
def Jg (a0:bs):Option Bool:=
 (jj a0.dE 0 3).bind λaf=>some (!af)
def D7 (dM:Int->Option Int) (a0:List bs) (cV:Int):Option Int:=
 cond (decide (cV<(a0.length:Int))) ((bF a0 cV).bind λaf=>(Jg af).bind λak=>cond ak (some cV) (dM (IntKind.i64.wrap (cV+1)))) (some (-1))
def xK (a0:List bs):Nat->Int->Option Int
 |0,_=>none
 |n+1,cV=>D7 (xK a0 n) a0 cV
def Jh (a0:List bs):Option Int:=
 cB λn=>xK a0 n 0
def Ji (a0:List bs):Option Bool:=
 (Jh a0).bind λaf=>some (decide (0<=af))
def D8 (a0:List bs):Option Bool:=
 (Ji a0).bind λaf=>some (!af)
def Jj (a0:UInt8):Option Bool:=
 some ((decide (48<=(a0.toNat:Int)))&&(decide ((a0.toNat:Int)<=57)))
def Ar (dM:Int->Option Bool) (a0:List UInt8) (eV:Int):Option Bool:=
 cond (decide (eV<(a0.length:Int))) ((bF a0 eV).bind λaf=>cond (!((decide (97<=(af.toNat:Int)))&&(decide ((af.toNat:Int)<=122)))) (cond (eV==0) (some false) ((Jj af).bind λak=>cond (!ak) (some false) (dM (IntKind.i64.wrap (eV+1))))) (dM (IntKind.i64.wrap (eV+1)))) (some ((decide (1<=(a0.length:Int)))&&(decide ((a0.length:Int)<=10))))
def rW (a0:List UInt8):Nat->Int->Option Bool
 |0,_=>none
 |n+1,eV=>Ar (rW a0 n) a0 eV
def As (a0:List UInt8):Option Bool:=
 cB λn=>rW a0 n 0
def Jk (a0:bs) (R:List UInt8):Option Bool:=
 some (a0.Name==R)
def D9 (dM:Int->Option Int) (a0:List bs) (R:List UInt8) (cV:Int):Option Int:=
 cond (decide (cV<(a0.length:Int))) ((bF a0 cV).bind λaf=>(Jk af R).bind λak=>cond ak (some cV) (dM (IntKind.i64.wrap (cV+1)))) (some (-1))
def xL (a0:List bs) (R:List UInt8):Nat->Int->Option Int
 |0,_=>none
 |n+1,cV=>D9 (xL a0 R n) a0 R cV
def Jl (a0:List bs) (R:List UInt8):Option Int:=
 cB λn=>xL a0 R n 0
def D_ (a0:List bs) (R:List UInt8):Option Int:=
 (Jl a0 R).bind λaf=>some af
def At (a0:bH) (dh:Bool):Option Int:=
 cond dh (some 1) (cond (a0.Kind==2) (some 2) (some 0))
def Au (a0:bH):Option Int:=
 cond (a0.Kind==1) (At a0 true) (cond (a0.Kind==3) (At a0 true) (At a0 (a0.Kind==4)))
def Ea (dM:Int->Int->Option Int) (a0:bs) (aU:Int) (aK:Int):Option Int:=
 cond (decide (0<aK)) (cond (decide ((a0.Body.length:Int)<=aU)) (some (-1)) ((bF a0.Body aU).bind λaf=>(Au af).bind λak=>dM (IntKind.i64.wrap (aU+1)) (IntKind.i64.wrap (aK+(IntKind.i64.wrap (ak-1)))))) (some aU)
def uV (a0:bs):Nat->Int->Int->Option Int
 |0,_,_=>none
 |n+1,aU,aK=>Ea (uV a0 n) a0 aU aK
def Eb (a0:bs) (R:Int):Option Int:=
 cB λn=>uV a0 n R 1
def Ec (mM:Int->cL->(List cL)->bs->Option (Int×(List cL))) (YX:(List cL)->Int->Int->Option (Int×(List cL))) (a3:bs) (lP:Int) (ak:bH) (aJ:Int) (qb:List cL) (oF:Int) (pn:Int):Option (Int×(List cL)):=
 cond (decide (pn<aJ)) ((mM oF (cL.mk lP (ak.Kind==1)) qb a3).bind λa8=>YX a8.2 a8.1 (IntKind.i64.wrap (pn+1))) (some (oF,qb))
def ti (mM:Int->cL->(List cL)->bs->Option (Int×(List cL))) (a3:bs) (lP:Int) (ak:bH) (aJ:Int):Nat->(List cL)->Int->Int->Option (Int×(List cL))
 |0,_,_,_=>none
 |n+1,qb,oF,pn=>Ec mM (ti mM a3 lP ak aJ n) a3 lP ak aJ qb oF pn
def Ed (mM:Int->cL->(List cL)->bs->Option (Int×(List cL))) (a0:Int) (R:cL) (a2:List cL) (a3:bs) (ak:bH) (lP:Int):Option (Int×(List cL)):=
 (Au ak).bind λaJ=>cB λn=>ti mM a3 lP ak aJ n (List.set a2 (Int.toNat a0) R) (IntKind.i64.wrap (a0+1)) 0
def Jm (mM:Int->cL->(List cL)->bs->Option (Int×(List cL))) (a0:Int) (R:cL) (a2:List cL) (a3:bs):Option (Int×(List cL)):=
 (bF a2 a0).bind λaf=>(bF a3.Body a0).bind λak=>cond (ak.Kind==4) (Ed mM a0 R a2 a3 ak (IntKind.i64.wrap (R.scope+1))) (Ed mM a0 R a2 a3 ak R.scope)
def uW:Nat->Int->cL->(List cL)->bs->Option (Int×(List cL))
 |0,_,_,_,_=>none
 |n+1,a0,R,a2,a3=>Jm (uW n) a0 R a2 a3
def Ee (a0:Int) (R:cL) (a2:List cL) (a3:bs):Option (Int×(List cL)):=
 cB λn=>uW n a0 R a2 a3
def Ef (a0:bs):Option ((List cL)):=
 (k4 16 (a0.Body.length:Int)).bind λ_=>(Ee 0 (cL.mk a0.dE false) (List.replicate (Int.toNat (a0.Body.length:Int)) (cL.mk 0 false)) a0).bind λaf=>some af.2
def Jn (a0:bH):Option Bool:=
 (jj a0.Kind 0 5).bind λaf=>some (((af&&(((a0.Kind==4)||(a0.Kind==5))||(a0.Number==0)))&&((a0.Kind==1)||(a0.Name==([]:List UInt8))))&&((((a0.Kind==1)||(a0.Kind==3))||(a0.Kind==5))||((a0.cN.length:Int)==0)))
def po (a0:List UInt8):Option Bool:=
 (As a0).bind λaf=>some (af&&(!(a0==([116,97,117]:List UInt8))))
def uX (a0:Int) (R:Int):Option Bool:=
 (jj a0 0 (IntKind.i64.wrap (R-1))).bind λaf=>some af
def Jo (a0:bH) (R:List bs):Option Bool:=
 cond (a0.Kind==1) (some (((a0.cN.length:Int)==0)||((!(a0.Name==([116,97,117]:List UInt8)))&&(decide ((a0.cN.length:Int)<=2))))) (cond (a0.Kind==3) (some ((a0.cN.length:Int)==1)) (cond (a0.Kind==5) ((bF R a0.Number).bind λaf=>some ((a0.cN.length:Int)==af.dE)) (some true)))
def xM (a0:Int):Option Bool:=
 (jj a0 0 63).bind λaf=>some af
def Eg (a0:b1) (R:Int):Option Bool:=
 cond (a0.Kind==0) ((xM a0.Value).bind λaf=>some af) (cond (a0.Kind==1) ((jj a0.Value 0 (IntKind.i64.wrap (R-1))).bind λak=>some ak) (cond (a0.Kind==2) ((jj a0.Value 0 8).bind λaJ=>some aJ) (cond (a0.Kind==3) (some (a0.Value==0)) (some false))))
def Jp (a0:b1):Option Int:=
 cond (a0.Kind==2) (some 2) (cond (a0.Kind==3) (some 1) (some 0))
def Eh (kR:Int->Int->Option Bool) (a0:List b1) (R:Int) (h0:Int) (oG:Int):Option Bool:=
 cond (decide (oG<(a0.length:Int))) ((bF a0 oG).bind λa8=>cond (h0==0) (some false) ((Eg a8 R).bind λbb=>cond (!bb) (some false) ((Jp a8).bind λbO=>kR (IntKind.i64.wrap (h0+(IntKind.i64.wrap (bO-1)))) (IntKind.i64.wrap (oG+1))))) (some (h0==0))
def uY (a0:List b1) (R:Int):Nat->Int->Int->Option Bool
 |0,_,_=>none
 |n+1,h0,oG=>Eh (uY a0 R n) a0 R h0 oG
def Ei (a0:List b1) (R:Int) (a2:Int):Option Bool:=
 (jj R 0 29).bind λaf=>cond (!af) (some false) ((jj a2 1 60).bind λak=>cond (!ak) (some false) ((jj (a0.length:Int) 1 a2).bind λaJ=>cond (!aJ) (some false) (cB λn=>uY a0 R n 1 0)))
def Jq (a0:List b1) (R:cL):Option Bool:=
 (Ei a0 R.scope 15).bind λaf=>some (!af)
def Ej (dM:Int->Option Int) (a0:List (List b1)) (R:cL) (cV:Int):Option Int:=
 cond (decide (cV<(a0.length:Int))) ((bF a0 cV).bind λaf=>(Jq af R).bind λak=>cond ak (some cV) (dM (IntKind.i64.wrap (cV+1)))) (some (-1))
def xN (a0:List (List b1)) (R:cL):Nat->Int->Option Int
 |0,_=>none
 |n+1,cV=>Ej (xN a0 R n) a0 R cV
def Jr (a0:List (List b1)) (R:cL):Option Int:=
 cB λn=>xN a0 R n 0
def Ek (a0:List (List b1)) (R:cL):Option Bool:=
 (Jr a0 R).bind λaf=>some (decide (0<=af))
def uZ (a0:bH) (R:List bs) (a2:cL) (Av:Bool):Option Int:=
 cond Av (some 4) ((Jo a0 R).bind λak=>cond (!ak) (some 5) (cond ((a0.Kind==5)&&(!a2.behind)) (some 6) (cond ((a0.Kind==4)&&(decide (6<=a2.scope))) (some 7) ((Ek a0.cN a2).bind λaJ=>cond aJ (some 8) (some 0)))))
def Aw (a0:bH) (R:List bs) (a2:cL) (Ax:Bool):Option Int:=
 cond Ax (some 3) (cond (a0.Kind==4) ((jj a0.Number 1 7).bind λa8=>cond (!a8) (uZ a0 R a2 true) (cond (a0.Kind==5) ((uX a0.Number (R.length:Int)).bind λbb=>uZ a0 R a2 (!bb)) (uZ a0 R a2 false))) (cond (a0.Kind==5) ((uX a0.Number (R.length:Int)).bind λbO=>uZ a0 R a2 (!bO)) (uZ a0 R a2 false)))
def Ay (a0:bH) (R:List bs) (a2:cL):Option Int:=
 (Jn a0).bind λaf=>cond (!af) (some 2) (cond (a0.Kind==1) (cond (!(a0.Name==([116,97,117]:List UInt8))) ((po a0.Name).bind λcx=>Aw a0 R a2 (!cx)) (Aw a0 R a2 false)) (Aw a0 R a2 false))
def Az (kR:Int->Option (Int×Int)) (a0:List bs) (R:bs) (aJ:(List cL)) (my:Int):Option (Int×Int):=
 cond (decide (my<(R.Body.length:Int))) ((bF R.Body my).bind λa8=>(bF aJ my).bind λbb=>(Ay a8 a0 bb).bind λbO=>cond (bO !=0) (some (my,bO)) (kR (IntKind.i64.wrap (my+1)))) (some (0,0))
def tj (a0:List bs) (R:bs) (aJ:(List cL)):Nat->Int->Option (Int×Int)
 |0,_=>none
 |n+1,my=>Az (tj a0 R aJ n) a0 R aJ my
def AA (a0:List bs) (R:bs):Option (Int×Int):=
 (jj (R.Body.length:Int) 1 20).bind λaf=>cond (!af) (some (0,1)) ((Eb R 0).bind λak=>cond (ak !=(R.Body.length:Int)) (some (0,1)) ((Ef R).bind λaJ=>cB λn=>tj a0 R aJ n 0))
def El (fV:Int->Option Bool) (a0:List bs) (nr:Int):Option Bool:=
 cond (decide (nr<(a0.length:Int))) ((bF a0 nr).bind λaJ=>(As aJ.Name).bind λa8=>cond (!a8) (some false) ((gB a0 0 nr).bind λbb=>(D_ bb aJ.Name).bind λbO=>cond (decide (0<=bO)) (some false) ((AA a0 aJ).bind λcx=>cond (cx.2 !=0) (some false) (fV (IntKind.i64.wrap (nr+1)))))) (some true)
def u0 (a0:List bs):Nat->Int->Option Bool
 |0,_=>none
 |n+1,nr=>El (u0 a0 n) a0 nr
def Em (a0:List bs):Option Bool:=
 (jj (a0.length:Int) 1 4).bind λaf=>cond (!af) (some false) ((D8 a0).bind λak=>cond (!ak) (some false) (cB λn=>u0 a0 n 0))
def En (a0:Int):Option Bool:=
 (xM a0).bind λaf=>some (!af)
def xO (dM:Int->Option Int) (a0:List Int) (cV:Int):Option Int:=
 cond (decide (cV<(a0.length:Int))) ((bF a0 cV).bind λaf=>(En af).bind λak=>cond ak (some cV) (dM (IntKind.i64.wrap (cV+1)))) (some (-1))
def rX (a0:List Int):Nat->Int->Option Int
 |0,_=>none
 |n+1,cV=>xO (rX a0 n) a0 cV
def Eo (a0:List Int):Option Int:=
 cB λn=>rX a0 n 0
def Ep (a0:List Int):Option Bool:=
 (Eo a0).bind λaf=>some (decide (0<=af))
def u1 (a0:List Int):Option Bool:=
 (Ep a0).bind λaf=>some (!af)
def Er (a0:List bs) (R:dr):Option Bool:=
 (uX R.hM (a0.length:Int)).bind λaf=>cond af ((bF a0 R.hM).bind λak=>cond ((R.fE.length:Int)==ak.dE) ((u1 R.fE).bind λaJ=>some aJ) (some false)) (some false)
def Js (a0:dr) (R:eI):Option Bool:=
 (Er R.fv a0).bind λaf=>some (!af)
def Es (dM:Int->Option Int) (a0:List dr) (R:eI) (cV:Int):Option Int:=
 cond (decide (cV<(a0.length:Int))) ((bF a0 cV).bind λaf=>(Js af R).bind λak=>cond ak (some cV) (dM (IntKind.i64.wrap (cV+1)))) (some (-1))
def xP (a0:List dr) (R:eI):Nat->Int->Option Int
 |0,_=>none
 |n+1,cV=>Es (xP a0 R n) a0 R cV
def Jt (a0:List dr) (R:eI):Option Int:=
 cB λn=>xP a0 R n 0
def Et (a0:List dr) (R:eI):Option Bool:=
 (Jt a0 R).bind λaf=>some (decide (0<=af))
def Eu (a0:List UInt8):Option Bool:=
 some false
def Ev (a0:List UInt8) (R:List UInt8):Option Int:=
 (Eu a0).bind λaf=>(Eu R).bind λak=>cond af (cond ak (some 0) (some (-1))) (cond ak (some 1) (cond (Op.bytesLess a0 R) (some (-1)) (cond (!(Op.bytesLess a0 R||a0==R)) (some 1) (some 0))))
def Ju (dM:Int->Option Int) (a0:List (List UInt8)) (R:List (List UInt8)) (n2:Int):Option Int:=
 cond (decide (n2<(a0.length:Int))) ((bF a0 n2).bind λaf=>cond (decide ((R.length:Int)<=n2)) (some 1) ((bF R n2).bind λak=>(Ev af ak).bind λaJ=>cond (aJ !=0) (some aJ) (dM (IntKind.i64.wrap (n2+1))))) (cond (decide ((a0.length:Int)<(R.length:Int))) (some (-1)) (some 0))
def AB (a0:List (List UInt8)) (R:List (List UInt8)):Nat->Int->Option Int
 |0,_=>none
 |n+1,n2=>Ju (AB a0 R n) a0 R n2
def Ew (a0:List (List UInt8)) (R:List (List UInt8)):Option Int:=
 cB λn=>AB a0 R n 0
def Ex (a0:b9) (R:b9):Option Int:=
 (Ew [a0.Left,a0.ch] [R.Left,R.ch]).bind λaf=>some af
def Jv (a0:b9) (R:b9):Option Bool:=
 some ((a0.Left==R.Result)||(a0.ch==R.Result))
def Ey (dM:Int->Option Int) (a0:List b9) (R:b9) (cV:Int):Option Int:=
 cond (decide (cV<(a0.length:Int))) ((bF a0 cV).bind λaf=>(Jv af R).bind λak=>cond ak (some cV) (dM (IntKind.i64.wrap (cV+1)))) (some (-1))
def xQ (a0:List b9) (R:b9):Nat->Int->Option Int
 |0,_=>none
 |n+1,cV=>Ey (xQ a0 R n) a0 R cV
def Jw (a0:List b9) (R:b9):Option Int:=
 cB λn=>xQ a0 R n 0
def AD (a0:List b9) (R:b9):Option Bool:=
 (Jw a0 R).bind λaf=>some (decide (0<=af))
def Ez (dM:Int->Option Bool) (a0:List b9) (eV:Int):Option Bool:=
 cond (decide (eV<(a0.length:Int))) ((bF a0 eV).bind λaf=>(po af.Left).bind λbb=>cond (!bb) (some false) ((po af.ch).bind λbO=>cond (!bO) (some false) ((po af.Result).bind λcx=>cond (!cx) (some false) (cond (!(Op.bytesLess af.Left af.ch||af.Left==af.ch)) (some false) (cond (decide (0<eV)) ((bF a0 (IntKind.i64.wrap (eV-1))).bind λeg=>(Ex eg af).bind λde=>cond (decide (0<=de)) (some false) ((AD a0 af).bind λdf=>cond df (some false) (dM (IntKind.i64.wrap (eV+1))))) ((AD a0 af).bind λfo=>cond fo (some false) (dM (IntKind.i64.wrap (eV+1))))))))) (some (decide ((a0.length:Int)<=6)))
def u2 (a0:List b9):Nat->Int->Option Bool
 |0,_=>none
 |n+1,eV=>Ez (u2 a0 n) a0 eV
def EA (a0:List b9):Option Bool:=
 cB λn=>u2 a0 n 0
def EB (dM:Int->Option Bool) (a0:List (List UInt8)) (eV:Int):Option Bool:=
 cond (decide (eV<(a0.length:Int))) ((bF a0 eV).bind λaf=>(po af).bind λak=>cond (!ak) (some false) (cond (decide (0<eV)) ((bF a0 (IntKind.i64.wrap (eV-1))).bind λaJ=>cond (Op.bytesLess af aJ||af==aJ) (some false) (dM (IntKind.i64.wrap (eV+1)))) (dM (IntKind.i64.wrap (eV+1))))) (some (decide ((a0.length:Int)<=12)))
def u3 (a0:List (List UInt8)):Nat->Int->Option Bool
 |0,_=>none
 |n+1,eV=>EB (u3 a0 n) a0 eV
def AE (a0:List (List UInt8)):Option Bool:=
 cB λn=>u3 a0 n 0
def EC (a0:eI):Option Int:=
 (Em a0.fv).bind λaf=>cond (!af) (some 1) ((jj (a0.bK.length:Int) 1 3).bind λak=>cond (!ak) (some 2) ((Et a0.bK a0).bind λaJ=>cond aJ (some 2) ((EA a0.hZ).bind λa8=>cond (!a8) (some 3) ((AE a0.hN).bind λbb=>cond (!bb) (some 4) ((AE a0.hO).bind λbO=>cond (!bO) (some 5) (some 0))))))
def ED (a0:eI):Option Bool:=
 (EC a0).bind λaf=>some (af==0)
def qc:List UInt8->UInt8->Int
 |[],_=> -1
 |b::l,c=>if b==c then 0 else if qc l c== -1 then-1 else qc l c+1
def Jx (a0:List UInt8) (R:UInt8):Option Int:=some (qc a0 R)
def Jy (a0:List UInt8) (R:UInt8):Option Int:=
 (Jx a0 R).bind λaf=>some af
def rY (a0:List UInt8) (R:List UInt8):Option Int:=
 cond (((R.length:Int)==0)||(R==a0)) (some 0) (cond ((R.length:Int)==1) ((bF R 0).bind λaf=>(Jy a0 af).bind λak=>some ak) (cond (decide ((a0.length:Int)<=(R.length:Int))) (some (-1)) (none)))
def EE (a0:List UInt8) (R:List UInt8):Option ((List UInt8)×(List UInt8)×Bool):=
 (rY a0 R).bind λaf=>cond (decide (0<=af)) ((gB a0 0 af).bind λak=>(gB a0 (IntKind.i64.wrap (af+(R.length:Int))) (a0.length:Int)).bind λaJ=>some (ak,aJ,true)) (some (a0,([]:List UInt8),false))
def xR (a0:List UInt8) (R:List UInt8):Option ((List UInt8)×(List UInt8)×Bool):=
 (EE a0 R).bind λaf=>some (af.1,af.2.1,af.2.2)
def EF (a0:List UInt8) (R:List UInt8):Option Bool:=
 cond (decide ((R.length:Int)<=(a0.length:Int))) ((gB a0 (IntKind.i64.wrap ((a0.length:Int)-(R.length:Int))) (a0.length:Int)).bind λaf=>some (af==R)) (some false)
def EG (a0:List UInt8) (R:List UInt8):Option ((List UInt8)):=
 (EF a0 R).bind λaf=>cond af ((gB a0 0 (IntKind.i64.wrap ((a0.length:Int)-(R.length:Int)))).bind λak=>some ak) (some a0)
def strings_TrimSuffix (a0:List UInt8) (R:List UInt8):Option ((List UInt8)):=
 (EG a0 R).bind λaf=>some af
def Jz (a0:List UInt8) (R:UInt8):Option Int:=some (a0.count R:Nat)
def AF (a0:List UInt8) (R:List UInt8):Option Int:=
 (rY a0 R).bind λaf=>some af
def Pg (YY:(List UInt8)->Int->Option Int) (R:List UInt8) (pq:List UInt8) (pr:Int):Option Int:=
 (AF pq R).bind λaJ=>cond (aJ==(-1)) (some pr) ((gB pq (IntKind.i64.wrap (aJ+(R.length:Int))) (pq.length:Int)).bind λa8=>YY a8 (IntKind.i64.wrap (pr+1)))
def EH (R:List UInt8):Nat->(List UInt8)->Int->Option Int
 |0,_,_=>none
 |n+1,pq,pr=>Pg (EH R n) R pq pr
def JA (a0:List UInt8) (R:List UInt8):Option Int:=
 cond ((R.length:Int)==0) (none) (cond ((R.length:Int)==1) ((bF R 0).bind λaf=>(Jz a0 af).bind λak=>some ak) (cB λn=>EH R n a0 0))
def AG (a0:List UInt8) (R:List UInt8) (a2:Int) (im:Int) (xS:List UInt8) (u4:List (List UInt8)) (rZ:Int):Option ((List (List UInt8))):=
 (bF u4 rZ).bind λaf=>(gB (List.set u4 (Int.toNat rZ) xS) 0 (IntKind.i64.wrap (rZ+1))).bind λak=>some ak
def EI (Jf:(List UInt8)->(List (List UInt8))->Int->Option ((List (List UInt8)))) (a0:List UInt8) (R:List UInt8) (a2:Int) (im:Int) (l4:List UInt8) (lo:List (List UInt8)) (jL:Int):Option ((List (List UInt8))):=
 cond (decide (jL<(IntKind.i64.wrap ((ju false im (IntKind.i64.wrap ((a0.length:Int)+1)))-1)))) ((AF l4 R).bind λaJ=>cond (decide (aJ<0)) (AG a0 R a2 im l4 lo jL) ((gB l4 0 (IntKind.i64.wrap (aJ+a2))).bind λa8=>(bF lo jL).bind λbb=>(gB l4 (IntKind.i64.wrap (aJ+(R.length:Int))) (l4.length:Int)).bind λbO=>Jf bO (List.set lo (Int.toNat jL) a8) (IntKind.i64.wrap (jL+1)))) (AG a0 R a2 im l4 lo jL)
def tk (a0:List UInt8) (R:List UInt8) (a2:Int) (im:Int):Nat->(List UInt8)->(List (List UInt8))->Int->Option ((List (List UInt8)))
 |0,_,_,_=>none
 |n+1,l4,lo,jL=>EI (tk a0 R a2 im n) a0 R a2 im l4 lo jL
def EJ (a0:List UInt8) (R:List UInt8) (a2:Int) (im:Int):Option ((List (List UInt8))):=
 (k4 16 (ju false im (IntKind.i64.wrap ((a0.length:Int)+1)))).bind λ_=>cB λn=>tk a0 R a2 im n a0 (List.replicate (Int.toNat (ju false im (IntKind.i64.wrap ((a0.length:Int)+1)))) ([]:List UInt8)) 0
def JB (a0:List UInt8) (R:List UInt8) (a2:Int) (a3:Int):Option ((List (List UInt8))):=
 cond (a3==0) (some []) (cond (R==([]:List UInt8)) (none) (cond (decide (a3<0)) ((JA a0 R).bind λcx=>EJ a0 R a2 (IntKind.i64.wrap (cx+1))) (EJ a0 R a2 a3)))
def EK (a0:List UInt8) (R:List UInt8):Option ((List (List UInt8))):=
 (JB a0 R 0 (-1)).bind λaf=>some af
def fW (c:UInt8):Bool:=decide (48<=c.toNat)&&decide (c.toNat<=57)
def jo (d:List UInt8):Nat:=d.foldl (λn c=>10*n+(c.toNat-48)) 0
def mN (k:Nat) (d:List UInt8):Int×Bool:=if d≠[]/\d.length<=18/\d.all fW=true/\¬(d.head? =some 48/\1<d.length+k)then(if k=1 then-(jo d:Int)else jo d,true)else(0,false)
def iH (s:List UInt8):Int×Bool:=if s.head? =some 45 then mN 1 s.tail else mN 0 s
def EL (a0:List UInt8):Option (Int×Bool):=some (iH a0)
def EM (gy:(List Int)->Int->Option ((List Int)×Bool)) (a0:List (List UInt8)) (bu:List Int) (n3:Int):Option ((List Int)×Bool):=
 cond (decide (n3<(a0.length:Int))) ((bF a0 n3).bind λaf=>(EL af).bind λak=>cond (!ak.2) (some ([],false)) ((room 8 (bu.length+1)).bind λ_=>gy (bu++[ak.1]) (IntKind.i64.wrap (n3+1)))) (some (bu,true))
def u5 (a0:List (List UInt8)):Nat->(List Int)->Int->Option ((List Int)×Bool)
 |0,_,_=>none
 |n+1,bu,n3=>EM (u5 a0 n) a0 bu n3
def EN (a0:List (List UInt8)):Option ((List Int)×Bool):=
 cB λn=>u5 a0 n [] 0
def AH (a0 R:Int):Option (List UInt8):=if 0<=a0/\a0<100/\R=10 then some (pF a0.toNat)else none
def AJ (a0:Int):Option ((List UInt8)):=
 (AH a0 10).bind λaf=>some af
def strings_Join (a0:List (List UInt8)) (R:List UInt8):Option (List UInt8):=if a0.length<=140737488355328/\(k5 a0 R).length<=140737488355328 then some (k5 a0 R)else none
def EO (gy:(List (List UInt8))->Int->Option ((List UInt8))) (a0:List Int) (R:List UInt8) (ic:List (List UInt8)) (lQ:Int):Option ((List UInt8)):=
 cond (decide (lQ<(a0.length:Int))) ((bF a0 lQ).bind λaf=>(AJ af).bind λak=>(bF ic lQ).bind λaJ=>gy (List.set ic (Int.toNat lQ) ak) (IntKind.i64.wrap (lQ+1))) ((strings_Join ic R).bind λa8=>some a8)
def u6 (a0:List Int) (R:List UInt8):Nat->(List (List UInt8))->Int->Option ((List UInt8))
 |0,_,_=>none
 |n+1,ic,lQ=>EO (u6 a0 R n) a0 R ic lQ
def EP (a0:List Int) (R:List UInt8):Option ((List UInt8)):=
 (k4 16 (a0.length:Int)).bind λ_=>cB λn=>u6 a0 R n (List.replicate (Int.toNat (a0.length:Int)) ([]:List UInt8)) 0
def ER (a0:List UInt8) (R:List Int):Option ((List UInt8)×Bool):=
 cond (a0==([116,97,117]:List UInt8)) (some (([116,97,117]:List UInt8),((R.length:Int)==0))) ((po a0).bind λak=>cond (!ak) (some (([]:List UInt8),false)) (cond (decide (2<(R.length:Int))) (some (([]:List UInt8),false)) ((u1 R).bind λaJ=>cond (!aJ) (some (([]:List UInt8),false)) (cond ((R.length:Int)==0) (some (a0,true)) ((mU (a0.length+1)).bind λ_=>(EP R ([44]:List UInt8)).bind λa8=>(mU ((a0++([40]:List UInt8)).length+a8.length)).bind λ_=>(mU (((a0++([40]:List UInt8))++a8).length+1)).bind λ_=>some ((((a0++([40]:List UInt8))++a8)++([41]:List UInt8)),true))))))
def AK (a0:List UInt8) (af:(List UInt8)×(List UInt8)×Bool) (qX:List Int):Option ((List UInt8)×(List Int)×Bool):=
 (ER af.1 qX).bind λak=>cond ((!ak.2)||(!(ak.1==a0))) (some (([]:List UInt8),[],false)) (some (af.1,qX,true))
def ES (a0:List UInt8):Option ((List UInt8)×(List Int)×Bool):=
 (xR a0 ([40]:List UInt8)).bind λaf=>cond af.2.2 ((strings_TrimSuffix af.2.1 ([41]:List UInt8)).bind λaJ=>(EK aJ ([44]:List UInt8)).bind λa8=>(EN a8).bind λbb=>cond (!bb.2) (some (([]:List UInt8),[],false)) (AK a0 af bb.1)) (AK a0 af [])
def u7 (a0:List UInt8):Option Bool:=
 (ES a0).bind λaf=>some af.2.2
def ET (a0:b_):Option Bool:=
 (jj a0.Choice 0 199).bind λaf=>cond af ((jj a0.c8 0 2).bind λak=>cond ak ((jj a0.Second (-1) 2).bind λaJ=>cond aJ ((u7 a0.Label).bind λa8=>some a8) (some false)) (some false)) (some false)
def JC (a0:b_):Option Bool:=
 (ET a0).bind λaf=>some (!af)
def EU (dM:Int->Option Int) (a0:List b_) (cV:Int):Option Int:=
 cond (decide (cV<(a0.length:Int))) ((bF a0 cV).bind λaf=>(JC af).bind λak=>cond ak (some cV) (dM (IntKind.i64.wrap (cV+1)))) (some (-1))
def u9 (a0:List b_):Nat->Int->Option Int
 |0,_=>none
 |n+1,cV=>EU (u9 a0 n) a0 cV
def JD (a0:List b_):Option Int:=
 cB λn=>u9 a0 n 0
def JE (a0:List b_):Option Bool:=
 (JD a0).bind λaf=>some (decide (0<=af))
def EV (a0:List b_):Option Bool:=
 cond (decide ((a0.length:Int)<=60)) ((JE a0).bind λaf=>some (!af)) (some false)
def EW (r0:(List Int)->Int->Option ((List Int)×Int)) (EX:(List Int)->Int->Int->Int->Option ((List Int)×Int)) (a0:eI) (R:List b_) (aJ:b_) (xT:List Int) (xU:Int) (xV:Int) (xW:Int):Option ((List Int)×Int):=
 EX xT xU xV (IntKind.i64.wrap (xW+1))
def EY (r0:(List Int)->Int->Option ((List Int)×Int)) (EX:(List Int)->Int->Int->Int->Option ((List Int)×Int)) (a0:eI) (R:List b_) (aJ:b_) (mz:List Int) (mO:Int) (ns:Int) (jU:Int):Option ((List Int)×Int):=
 cond (decide (jU<ns)) (cond ((aJ.c8==jU)||(aJ.Second==jU)) ((bF mz jU).bind λbb=>EW r0 EX a0 R aJ (List.set mz (Int.toNat jU) (IntKind.i64.wrap (bb+1))) mO ns jU) (EW r0 EX a0 R aJ mz mO ns jU)) (r0 mz (IntKind.i64.wrap (mO+1)))
def r1 (r0:(List Int)->Int->Option ((List Int)×Int)) (a0:eI) (R:List b_) (aJ:b_):Nat->(List Int)->Int->Int->Int->Option ((List Int)×Int)
 |0,_,_,_,_=>none
 |n+1,mz,mO,ns,jU=>EY r0 (r1 r0 a0 R aJ n) a0 R aJ mz mO ns jU
def EZ (r0:(List Int)->Int->Option ((List Int)×Int)) (a0:eI) (R:List b_) (nt:List Int) (oH:Int):Option ((List Int)×Int):=
 cond (decide (oH<(R.length:Int))) ((bF R oH).bind λaJ=>(uX aJ.c8 (a0.bK.length:Int)).bind λa8=>cond ((!a8)||(decide ((a0.bK.length:Int)<=aJ.Second))) (some ([],9)) (cB λn=>r1 r0 a0 R aJ n nt oH (nt.length:Int) 0)) (some (nt,0))
def nu (a0:eI) (R:List b_):Nat->(List Int)->Int->Option ((List Int)×Int)
 |0,_,_=>none
 |n+1,nt,oH=>EZ (nu a0 R n) a0 R nt oH
def AL (a0:eI) (R:List b_):Option ((List Int)×Int):=
 (ED a0).bind λaf=>cond (!af) (some ([],1)) ((EV R).bind λak=>cond (!ak) (some ([],7)) ((k4 8 (a0.bK.length:Int)).bind λ_=>cB λn=>nu a0 R n (List.replicate (Int.toNat (a0.bK.length:Int)) 0) 0))
def Ph (fV:Int->Option Bool) (a0:List Int) (R:List Int) (ca:Int):Option Bool:=
 cond (decide (ca<(a0.length:Int))) ((bF a0 ca).bind λaf=>(bF R ca).bind λak=>cond (af !=ak) (some false) (fV (IntKind.i64.wrap (ca+1)))) (some true)
def E0 (a0:List Int) (R:List Int):Nat->Int->Option Bool
 |0,_=>none
 |n+1,ca=>Ph (E0 a0 R n) a0 R ca
def u_ (a0:List Int) (R:List Int):Option Bool:=
 cond ((a0.length:Int) !=(R.length:Int)) (some false) (cB λn=>E0 a0 R n 0)
def AM (a0:b1) (R:b1):Option Bool:=
 cond (a0.Kind !=R.Kind) (some false) (cond (a0.Value !=R.Value) (some false) (some true))
def Pj (fV:Int->Option Bool) (a0:List b1) (R:List b1) (ca:Int):Option Bool:=
 cond (decide (ca<(a0.length:Int))) ((bF a0 ca).bind λaf=>(bF R ca).bind λak=>(AM af ak).bind λaJ=>cond (!aJ) (some false) (fV (IntKind.i64.wrap (ca+1)))) (some true)
def E1 (a0:List b1) (R:List b1):Nat->Int->Option Bool
 |0,_=>none
 |n+1,ca=>Pj (E1 a0 R n) a0 R ca
def AN (a0:List b1) (R:List b1):Option Bool:=
 cond ((a0.length:Int) !=(R.length:Int)) (some false) (cB λn=>E1 a0 R n 0)
def Pk (fV:Int->Option Bool) (a0:List (List b1)) (R:List (List b1)) (ca:Int):Option Bool:=
 cond (decide (ca<(a0.length:Int))) ((bF a0 ca).bind λaf=>(bF R ca).bind λak=>(AN af ak).bind λaJ=>cond (!aJ) (some false) (fV (IntKind.i64.wrap (ca+1)))) (some true)
def E2 (a0:List (List b1)) (R:List (List b1)):Nat->Int->Option Bool
 |0,_=>none
 |n+1,ca=>Pk (E2 a0 R n) a0 R ca
def E3 (a0:List (List b1)) (R:List (List b1)):Option Bool:=
 cond ((a0.length:Int) !=(R.length:Int)) (some false) (cB λn=>E2 a0 R n 0)
def AO (a0:bH) (R:bH):Option Bool:=
 cond (a0.Kind !=R.Kind) (some false) (cond (a0.Number !=R.Number) (some false) (cond (!(a0.Name==R.Name)) (some false) ((E3 a0.cN R.cN).bind λaf=>cond (!af) (some false) (some true))))
def Pl (fV:Int->Option Bool) (a0:List bH) (R:List bH) (ca:Int):Option Bool:=
 cond (decide (ca<(a0.length:Int))) ((bF a0 ca).bind λaf=>(bF R ca).bind λak=>(AO af ak).bind λaJ=>cond (!aJ) (some false) (fV (IntKind.i64.wrap (ca+1)))) (some true)
def E4 (a0:List bH) (R:List bH):Nat->Int->Option Bool
 |0,_=>none
 |n+1,ca=>Pl (E4 a0 R n) a0 R ca
def E5 (a0:List bH) (R:List bH):Option Bool:=
 cond ((a0.length:Int) !=(R.length:Int)) (some false) (cB λn=>E4 a0 R n 0)
def AP (a0:bs) (R:bs):Option Bool:=
 cond (!(a0.Name==R.Name)) (some false) (cond (a0.dE !=R.dE) (some false) ((E5 a0.Body R.Body).bind λaf=>cond (!af) (some false) (some true)))
def Pm (fV:Int->Option Bool) (a0:List bs) (R:List bs) (ca:Int):Option Bool:=
 cond (decide (ca<(a0.length:Int))) ((bF a0 ca).bind λaf=>(bF R ca).bind λak=>(AP af ak).bind λaJ=>cond (!aJ) (some false) (fV (IntKind.i64.wrap (ca+1)))) (some true)
def E6 (a0:List bs) (R:List bs):Nat->Int->Option Bool
 |0,_=>none
 |n+1,ca=>Pm (E6 a0 R n) a0 R ca
def E7 (a0:List bs) (R:List bs):Option Bool:=
 cond ((a0.length:Int) !=(R.length:Int)) (some false) (cB λn=>E6 a0 R n 0)
def AQ (a0:dr) (R:dr):Option Bool:=
 cond (a0.hM !=R.hM) (some false) ((u_ a0.fE R.fE).bind λaf=>cond (!af) (some false) (some true))
def Pn (fV:Int->Option Bool) (a0:List dr) (R:List dr) (ca:Int):Option Bool:=
 cond (decide (ca<(a0.length:Int))) ((bF a0 ca).bind λaf=>(bF R ca).bind λak=>(AQ af ak).bind λaJ=>cond (!aJ) (some false) (fV (IntKind.i64.wrap (ca+1)))) (some true)
def E8 (a0:List dr) (R:List dr):Nat->Int->Option Bool
 |0,_=>none
 |n+1,ca=>Pn (E8 a0 R n) a0 R ca
def E9 (a0:List dr) (R:List dr):Option Bool:=
 cond ((a0.length:Int) !=(R.length:Int)) (some false) (cB λn=>E8 a0 R n 0)
def AR (a0:b9) (R:b9):Option Bool:=
 cond (!(a0.Left==R.Left)) (some false) (cond (!(a0.ch==R.ch)) (some false) (cond (!(a0.Result==R.Result)) (some false) (some true)))
def Po (fV:Int->Option Bool) (a0:List b9) (R:List b9) (ca:Int):Option Bool:=
 cond (decide (ca<(a0.length:Int))) ((bF a0 ca).bind λaf=>(bF R ca).bind λak=>(AR af ak).bind λaJ=>cond (!aJ) (some false) (fV (IntKind.i64.wrap (ca+1)))) (some true)
def E_ (a0:List b9) (R:List b9):Nat->Int->Option Bool
 |0,_=>none
 |n+1,ca=>Po (E_ a0 R n) a0 R ca
def Fa (a0:List b9) (R:List b9):Option Bool:=
 cond ((a0.length:Int) !=(R.length:Int)) (some false) (cB λn=>E_ a0 R n 0)
def Pp (fV:Int->Option Bool) (a0:List (List UInt8)) (R:List (List UInt8)) (ca:Int):Option Bool:=
 cond (decide (ca<(a0.length:Int))) ((bF a0 ca).bind λaf=>(bF R ca).bind λak=>cond (!(af==ak)) (some false) (fV (IntKind.i64.wrap (ca+1)))) (some true)
def Fb (a0:List (List UInt8)) (R:List (List UInt8)):Nat->Int->Option Bool
 |0,_=>none
 |n+1,ca=>Pp (Fb a0 R n) a0 R ca
def AU (a0:List (List UInt8)) (R:List (List UInt8)):Option Bool:=
 cond ((a0.length:Int) !=(R.length:Int)) (some false) (cB λn=>Fb a0 R n 0)
def AV (a0:eI) (R:eI):Option Bool:=
 (E7 a0.fv R.fv).bind λaf=>cond (!af) (some false) ((E9 a0.bK R.bK).bind λak=>cond (!ak) (some false) ((Fa a0.hZ R.hZ).bind λaJ=>cond (!aJ) (some false) ((AU a0.hN R.hN).bind λa8=>cond (!a8) (some false) ((AU a0.hO R.hO).bind λbb=>cond (!bb) (some false) (some true)))))
def AW (a0:b_) (R:b_):Option Bool:=
 cond (a0.Choice !=R.Choice) (some false) (cond (a0.c8 !=R.c8) (some false) (cond (a0.Second !=R.Second) (some false) (cond (!(a0.Label==R.Label)) (some false) (some true))))
def Pq (fV:Int->Option Bool) (a0:List b_) (R:List b_) (ca:Int):Option Bool:=
 cond (decide (ca<(a0.length:Int))) ((bF a0 ca).bind λaf=>(bF R ca).bind λak=>(AW af ak).bind λaJ=>cond (!aJ) (some false) (fV (IntKind.i64.wrap (ca+1)))) (some true)
def Fe (a0:List b_) (R:List b_):Nat->Int->Option Bool
 |0,_=>none
 |n+1,ca=>Pq (Fe a0 R n) a0 R ca
def Ff (a0:List b_) (R:List b_):Option Bool:=
 cond ((a0.length:Int) !=(R.length:Int)) (some false) (cB λn=>Fe a0 R n 0)
def AX (fV:Int->(List UInt8)->Option ((List UInt8))) (kU:Int) (cG:List UInt8):Option ((List UInt8)):=
 cond (decide (0<kU)) ((mU (1+cG.length)).bind λ_=>fV (IntKind.i64.wrap (Int.tdiv kU 10)) ([(rn (IntKind.i64.wrap (48+(Int.tmod kU 10))))]++cG)) ((mU (1+cG.length)).bind λ_=>some (([109]:List UInt8)++cG))
def tl:Nat->Int->(List UInt8)->Option ((List UInt8))
 |0,_,_=>none
 |n+1,kU,cG=>AX (tl n) kU cG
def qY (a0:Int):Option ((List UInt8)):=
 cond (decide (a0<=0)) (some ([109,48]:List UInt8)) (cB λn=>tl n a0 ([]:List UInt8))
def Fg (dM:(List b1)->Int->Int->Option (Int×(List b1))) (bA:List b1) (aU:Int) (aK:Int):Option (Int×(List b1)):=
 cond (decide (aK<(bA.length:Int))) ((bF bA aK).bind λaf=>(bF (List.set bA (Int.toNat aK) (b1.mk aU af.Value)) aK).bind λak=>dM (List.set (List.set bA (Int.toNat aK) (b1.mk aU af.Value)) (Int.toNat aK) (b1.mk ak.Kind (IntKind.i64.wrap (aU+1)))) (IntKind.i64.wrap ((IntKind.i64.wrap (aU+1))+1)) (IntKind.i64.wrap (aK+1))) (some (aU,bA))
def va:Nat->(List b1)->Int->Int->Option (Int×(List b1))
 |0,_,_,_=>none
 |n+1,bA,aU,aK=>Fg (va n) bA aU aK
def Fh (a0:List b1) (R:Int):Option (Int×(List b1)):=
 cB λn=>va n a0 R 0
def Fi (dM:(List (List b1))->Int->Int->Option (Int×(List (List b1)))) (bA:List (List b1)) (aU:Int) (aK:Int):Option (Int×(List (List b1))):=
 cond (decide (aK<(bA.length:Int))) ((bF bA aK).bind λaf=>(Fh af aU).bind λak=>dM (List.set bA (Int.toNat aK) ak.2) ak.1 (IntKind.i64.wrap (aK+1))) (some (aU,bA))
def vb:Nat->(List (List b1))->Int->Int->Option (Int×(List (List b1)))
 |0,_,_,_=>none
 |n+1,bA,aU,aK=>Fi (vb n) bA aU aK
def Fj (a0:List (List b1)) (R:Int):Option (Int×(List (List b1))):=
 cB λn=>vb n a0 R 0
def Fk (dM:(List bH)->Int->Int->Option (Int×(List bH))) (bA:List bH) (aU:Int) (aK:Int):Option (Int×(List bH)):=
 cond (decide (aK<(bA.length:Int))) ((bF bA aK).bind λaf=>(bF (List.set bA (Int.toNat aK) (bH.mk aU af.Number af.Name af.cN)) aK).bind λak=>(qY (IntKind.i64.wrap ((IntKind.i64.wrap (aU+1))+1))).bind λaJ=>(bF (List.set (List.set bA (Int.toNat aK) (bH.mk aU af.Number af.Name af.cN)) (Int.toNat aK) (bH.mk ak.Kind (IntKind.i64.wrap (aU+1)) ak.Name ak.cN)) aK).bind λa8=>(bF (List.set (List.set (List.set bA (Int.toNat aK) (bH.mk aU af.Number af.Name af.cN)) (Int.toNat aK) (bH.mk ak.Kind (IntKind.i64.wrap (aU+1)) ak.Name ak.cN)) (Int.toNat aK) (bH.mk a8.Kind a8.Number aJ a8.cN)) aK).bind λbb=>(Fj bb.cN (IntKind.i64.wrap ((IntKind.i64.wrap ((IntKind.i64.wrap (aU+1))+1))+1))).bind λbO=>dM (List.set (List.set (List.set (List.set bA (Int.toNat aK) (bH.mk aU af.Number af.Name af.cN)) (Int.toNat aK) (bH.mk ak.Kind (IntKind.i64.wrap (aU+1)) ak.Name ak.cN)) (Int.toNat aK) (bH.mk a8.Kind a8.Number aJ a8.cN)) (Int.toNat aK) (bH.mk bb.Kind bb.Number bb.Name bO.2)) bO.1 (IntKind.i64.wrap (aK+1))) (some (aU,bA))
def vc:Nat->(List bH)->Int->Int->Option (Int×(List bH))
 |0,_,_,_=>none
 |n+1,bA,aU,aK=>Fk (vc n) bA aU aK
def Fl (a0:List bH) (R:Int):Option (Int×(List bH)):=
 cB λn=>vc n a0 R 0
def Fm (dM:(List bs)->Int->Int->Option (Int×(List bs))) (bA:List bs) (aU:Int) (aK:Int):Option (Int×(List bs)):=
 cond (decide (aK<(bA.length:Int))) ((qY aU).bind λaf=>(bF bA aK).bind λak=>(bF (List.set bA (Int.toNat aK) (bs.mk af ak.dE ak.Body)) aK).bind λaJ=>(bF (List.set (List.set bA (Int.toNat aK) (bs.mk af ak.dE ak.Body)) (Int.toNat aK) (bs.mk aJ.Name (IntKind.i64.wrap (aU+1)) aJ.Body)) aK).bind λa8=>(Fl a8.Body (IntKind.i64.wrap ((IntKind.i64.wrap (aU+1))+1))).bind λbb=>dM (List.set (List.set (List.set bA (Int.toNat aK) (bs.mk af ak.dE ak.Body)) (Int.toNat aK) (bs.mk aJ.Name (IntKind.i64.wrap (aU+1)) aJ.Body)) (Int.toNat aK) (bs.mk a8.Name a8.dE bb.2)) bb.1 (IntKind.i64.wrap (aK+1))) (some (aU,bA))
def vd:Nat->(List bs)->Int->Int->Option (Int×(List bs))
 |0,_,_,_=>none
 |n+1,bA,aU,aK=>Fm (vd n) bA aU aK
def Fo (a0:List bs) (R:Int):Option (Int×(List bs)):=
 cB λn=>vd n a0 R 0
def Fp (dM:(List Int)->Int->Int->Option (Int×(List Int))) (bA:List Int) (aU:Int) (aK:Int):Option (Int×(List Int)):=
 cond (decide (aK<(bA.length:Int))) ((bF bA aK).bind λaf=>dM (List.set bA (Int.toNat aK) aU) (IntKind.i64.wrap (aU+1)) (IntKind.i64.wrap (aK+1))) (some (aU,bA))
def ve:Nat->(List Int)->Int->Int->Option (Int×(List Int))
 |0,_,_,_=>none
 |n+1,bA,aU,aK=>Fp (ve n) bA aU aK
def AY (a0:List Int) (R:Int):Option (Int×(List Int)):=
 cB λn=>ve n a0 R 0
def Fq (dM:(List dr)->Int->Int->Option (Int×(List dr))) (bA:List dr) (aU:Int) (aK:Int):Option (Int×(List dr)):=
 cond (decide (aK<(bA.length:Int))) ((bF bA aK).bind λaf=>(bF (List.set bA (Int.toNat aK) (dr.mk aU af.fE)) aK).bind λak=>(AY ak.fE (IntKind.i64.wrap (aU+1))).bind λaJ=>dM (List.set (List.set bA (Int.toNat aK) (dr.mk aU af.fE)) (Int.toNat aK) (dr.mk ak.hM aJ.2)) aJ.1 (IntKind.i64.wrap (aK+1))) (some (aU,bA))
def vf:Nat->(List dr)->Int->Int->Option (Int×(List dr))
 |0,_,_,_=>none
 |n+1,bA,aU,aK=>Fq (vf n) bA aU aK
def Fs (a0:List dr) (R:Int):Option (Int×(List dr)):=
 cB λn=>vf n a0 R 0
def Ft (dM:(List b9)->Int->Int->Option (Int×(List b9))) (bA:List b9) (aU:Int) (aK:Int):Option (Int×(List b9)):=
 cond (decide (aK<(bA.length:Int))) ((qY aU).bind λaf=>(bF bA aK).bind λak=>(qY (IntKind.i64.wrap (aU+1))).bind λaJ=>(bF (List.set bA (Int.toNat aK) (b9.mk af ak.ch ak.Result)) aK).bind λa8=>(qY (IntKind.i64.wrap ((IntKind.i64.wrap (aU+1))+1))).bind λbb=>(bF (List.set (List.set bA (Int.toNat aK) (b9.mk af ak.ch ak.Result)) (Int.toNat aK) (b9.mk a8.Left aJ a8.Result)) aK).bind λbO=>dM (List.set (List.set (List.set bA (Int.toNat aK) (b9.mk af ak.ch ak.Result)) (Int.toNat aK) (b9.mk a8.Left aJ a8.Result)) (Int.toNat aK) (b9.mk bO.Left bO.ch bb)) (IntKind.i64.wrap ((IntKind.i64.wrap ((IntKind.i64.wrap (aU+1))+1))+1)) (IntKind.i64.wrap (aK+1))) (some (aU,bA))
def vg:Nat->(List b9)->Int->Int->Option (Int×(List b9))
 |0,_,_,_=>none
 |n+1,bA,aU,aK=>Ft (vg n) bA aU aK
def Fu (a0:List b9) (R:Int):Option (Int×(List b9)):=
 cB λn=>vg n a0 R 0
def Fv (dM:(List (List UInt8))->Int->Int->Option (Int×(List (List UInt8)))) (bA:List (List UInt8)) (aU:Int) (aK:Int):Option (Int×(List (List UInt8))):=
 cond (decide (aK<(bA.length:Int))) ((qY aU).bind λaf=>(bF bA aK).bind λak=>dM (List.set bA (Int.toNat aK) af) (IntKind.i64.wrap (aU+1)) (IntKind.i64.wrap (aK+1))) (some (aU,bA))
def vh:Nat->(List (List UInt8))->Int->Int->Option (Int×(List (List UInt8)))
 |0,_,_,_=>none
 |n+1,bA,aU,aK=>Fv (vh n) bA aU aK
def AZ (a0:List (List UInt8)) (R:Int):Option (Int×(List (List UInt8))):=
 cB λn=>vh n a0 R 0
def Fw (xX:List bs) (vi:List dr) (tm:List b9) (r2:List (List UInt8)) (qZ:List (List UInt8)) (R:Int):Option (Int×(List bs)×(List dr)×(List b9)×(List (List UInt8))×(List (List UInt8))):=
 (Fo xX R).bind λaf=>(Fs vi af.1).bind λak=>(Fu tm ak.1).bind λaJ=>(AZ r2 aJ.1).bind λa8=>(AZ qZ a8.1).bind λbb=>some (bb.1,af.2,ak.2,aJ.2,a8.2,bb.2)
def Fx (dM:(List b_)->Int->Int->Option (Int×(List b_))) (bA:List b_) (aU:Int) (aK:Int):Option (Int×(List b_)):=
 cond (decide (aK<(bA.length:Int))) ((bF bA aK).bind λaf=>(bF (List.set bA (Int.toNat aK) (b_.mk aU af.c8 af.Second af.Label)) aK).bind λak=>(bF (List.set (List.set bA (Int.toNat aK) (b_.mk aU af.c8 af.Second af.Label)) (Int.toNat aK) (b_.mk ak.Choice (IntKind.i64.wrap (aU+1)) ak.Second ak.Label)) aK).bind λaJ=>(qY (IntKind.i64.wrap ((IntKind.i64.wrap ((IntKind.i64.wrap (aU+1))+1))+1))).bind λa8=>(bF (List.set (List.set (List.set bA (Int.toNat aK) (b_.mk aU af.c8 af.Second af.Label)) (Int.toNat aK) (b_.mk ak.Choice (IntKind.i64.wrap (aU+1)) ak.Second ak.Label)) (Int.toNat aK) (b_.mk aJ.Choice aJ.c8 (IntKind.i64.wrap ((IntKind.i64.wrap (aU+1))+1)) aJ.Label)) aK).bind λbb=>dM (List.set (List.set (List.set (List.set bA (Int.toNat aK) (b_.mk aU af.c8 af.Second af.Label)) (Int.toNat aK) (b_.mk ak.Choice (IntKind.i64.wrap (aU+1)) ak.Second ak.Label)) (Int.toNat aK) (b_.mk aJ.Choice aJ.c8 (IntKind.i64.wrap ((IntKind.i64.wrap (aU+1))+1)) aJ.Label)) (Int.toNat aK) (b_.mk bb.Choice bb.c8 bb.Second a8)) (IntKind.i64.wrap ((IntKind.i64.wrap ((IntKind.i64.wrap ((IntKind.i64.wrap (aU+1))+1))+1))+1)) (IntKind.i64.wrap (aK+1))) (some (aU,bA))
def vj:Nat->(List b_)->Int->Int->Option (Int×(List b_))
 |0,_,_,_=>none
 |n+1,bA,aU,aK=>Fx (vj n) bA aU aK
def Fy (a0:List b_) (R:Int):Option (Int×(List b_)):=
 cB λn=>vj n a0 R 0
def Fz (dM:Int->Int->Option Int) (a0:List Int) (aU:Int) (aK:Int):Option Int:=
 cond (decide (aK<(a0.length:Int))) ((bF a0 aK).bind λaf=>cond (af !=aU) (some (-1)) (dM (IntKind.i64.wrap (aU+1)) (IntKind.i64.wrap (aK+1)))) (some aU)
def vk (a0:List Int):Nat->Int->Int->Option Int
 |0,_,_=>none
 |n+1,aU,aK=>Fz (vk a0 n) a0 aU aK
def A0 (a0:List Int) (R:Int):Option Int:=
 cB λn=>vk a0 n R 0
def JF (a0:lL) (R:List iG):Option Bool:=
 (zW a0 1048576).bind λaf=>cond (decide (af<0)) (some true) ((Dd R af).bind λak=>cond (decide (ak<0)) (some true) ((tb a0).bind λaJ=>(uH R).bind λa8=>(D6 aJ a8).bind λbb=>(tb a0).bind λbO=>(uH R).bind λcx=>(AL bO cx).bind λeg=>(u_ eg.1 bb.1).bind λde=>cond ((!de)||(eg.2 !=bb.2)) (some false) ((tb a0).bind λdf=>(AV bO df).bind λfo=>cond (!fo) (some false) ((uH R).bind λjV=>(Ff cx jV).bind λjM=>cond (!jM) (some false) ((Fw bO.fv bO.bK bO.hZ bO.hN bO.hO 1).bind λh6=>(Fy cx h6.1).bind λjq=>cond (decide (jq.1<0)) (some false) ((u_ eg.1 bb.1).bind λnv=>cond ((!nv)||(eg.2 !=bb.2)) (some false) ((AY eg.1 1).bind λiz=>(A0 iz.2 1).bind λnw=>cond (decide (nw<0)) (some false) (cond (nw !=iz.1) (some false) ((tb a0).bind λqd=>(uH R).bind λvl=>(AL qd vl).bind λqe=>(u_ qe.1 bb.1).bind λmA=>cond ((!mA)||(qe.2 !=bb.2)) (some false) ((A0 iz.2 1).bind λtn=>cond (decide (tn<0)) (some false) (cond (tn !=iz.1) (some false) (some true))))))))))))
end
end Go.eU
