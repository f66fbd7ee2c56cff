/- Part of a proof that a law returns true for every input. No condition. -/
import Derived.Test.YtocllehpepigpaaGreatFwA
namespace Go.eN
open Go Go.cZ
set_option linter.unusedVariables false
noncomputable section
structure ht where
 Kind:Int
 Value:Int
def wx (x:ht):Prop:=(-9223372036854775808≤x.Kind∧x.Kind≤9223372036854775807)∧(-9223372036854775808≤x.Value∧x.Value≤9223372036854775807)
structure iT where
 Kind:Int
 Number:Int
 Name:List UInt8
 cO:List (List ht)
def yK (x:iT):Prop:=(-9223372036854775808≤x.Kind∧x.Kind≤9223372036854775807)∧(-9223372036854775808≤x.Number∧x.Number≤9223372036854775807)∧x.Name.length≤9223372036854775807∧(x.cO.length≤9223372036854775807∧∀y∈x.cO,(y.length≤9223372036854775807∧∀z∈y,wx z))
structure iU where
 Name:List UInt8
 dt:Int
 Body:List iT
def yL (x:iU):Prop:=x.Name.length≤9223372036854775807∧(-9223372036854775808≤x.dt∧x.dt≤9223372036854775807)∧(x.Body.length≤9223372036854775807∧∀y∈x.Body,yK y)
structure iV where
 cm:Int
 bS:List Int
def yM (x:iV):Prop:=(-9223372036854775808≤x.cm∧x.cm≤9223372036854775807)∧(x.bS.length≤9223372036854775807∧∀y∈x.bS,(-9223372036854775808≤y∧y≤9223372036854775807))
structure iG where
 Left:List UInt8
 cp:List UInt8
 Result:List UInt8
def yN (x:iG):Prop:=x.Left.length≤9223372036854775807∧x.cp.length≤9223372036854775807∧x.Result.length≤9223372036854775807
structure k6 where
 ew:List iU
 c8:List iV
 hE:List iG
 hv:List (List UInt8)
 hx:List (List UInt8)
def yO (x:k6):Prop:=(x.ew.length≤9223372036854775807∧∀y∈x.ew,yL y)∧(x.c8.length≤9223372036854775807∧∀y∈x.c8,yM y)∧(x.hE.length≤9223372036854775807∧∀y∈x.hE,yN y)∧(x.hv.length≤9223372036854775807∧∀y∈x.hv,y.length≤9223372036854775807)∧(x.hx.length≤9223372036854775807∧∀y∈x.hx,y.length≤9223372036854775807)
structure iH where
 cm:Int
 Part:Int
 bS:List Int
def wy (x:iH):Prop:=(-9223372036854775808≤x.cm∧x.cm≤9223372036854775807)∧(-9223372036854775808≤x.Part∧x.Part≤9223372036854775807)∧(x.bS.length≤9223372036854775807∧∀y∈x.bS,(-9223372036854775808≤y∧y≤9223372036854775807))
structure b7 where
 Kind:Int
 Value:Int
def Xb (x:b7):Prop:=(-9223372036854775808≤x.Kind∧x.Kind≤9223372036854775807)∧(-9223372036854775808≤x.Value∧x.Value≤9223372036854775807)
structure bJ where
 Kind:Int
 Number:Int
 Name:List UInt8
 cO:List (List b7)
def Xc (x:bJ):Prop:=(-9223372036854775808≤x.Kind∧x.Kind≤9223372036854775807)∧(-9223372036854775808≤x.Number∧x.Number≤9223372036854775807)∧x.Name.length≤9223372036854775807∧(x.cO.length≤9223372036854775807∧∀y∈x.cO,(y.length≤9223372036854775807∧∀z∈y,Xb z))
structure bj where
 Name:List UInt8
 dt:Int
 Body:List bJ
def Xd (x:bj):Prop:=x.Name.length≤9223372036854775807∧(-9223372036854775808≤x.dt∧x.dt≤9223372036854775807)∧(x.Body.length≤9223372036854775807∧∀y∈x.Body,Xc y)
structure dk where
 cm:Int
 bS:List Int
def Xe (x:dk):Prop:=(-9223372036854775808≤x.cm∧x.cm≤9223372036854775807)∧(x.bS.length≤9223372036854775807∧∀y∈x.bS,(-9223372036854775808≤y∧y≤9223372036854775807))
structure cb where
 Left:List UInt8
 cp:List UInt8
 Result:List UInt8
def Xf (x:cb):Prop:=x.Left.length≤9223372036854775807∧x.cp.length≤9223372036854775807∧x.Result.length≤9223372036854775807
structure ea where
 ew:List bj
 c8:List dk
 hE:List cb
 hv:List (List UInt8)
 hx:List (List UInt8)
def aEh (x:ea):Prop:=(x.ew.length≤9223372036854775807∧∀y∈x.ew,Xd y)∧(x.c8.length≤9223372036854775807∧∀y∈x.c8,Xe y)∧(x.hE.length≤9223372036854775807∧∀y∈x.hE,Xf y)∧(x.hv.length≤9223372036854775807∧∀y∈x.hv,y.length≤9223372036854775807)∧(x.hx.length≤9223372036854775807∧∀y∈x.hx,y.length≤9223372036854775807)
structure aW where
 cm:Int
 Part:Int
 bS:List Int
def aEi (x:aW):Prop:=(-9223372036854775808≤x.cm∧x.cm≤9223372036854775807)∧(-9223372036854775808≤x.Part∧x.Part≤9223372036854775807)∧(x.bS.length≤9223372036854775807∧∀y∈x.bS,(-9223372036854775808≤y∧y≤9223372036854775807))
structure cM where
 scope:Int
 behind:Bool
def aEj (x:cM):Prop:=(-9223372036854775808≤x.scope∧x.scope≤9223372036854775807)∧True
def yP (a0:List ht) (R:Int):Option Int:=
 cond (decide ((IntKind.i64.wrap (R-(a0.length:Int)))<0)) (some (-1)) (some (IntKind.i64.wrap (R-(a0.length:Int))))
def Ni (kn:Int→Int→Option Int) (a0:List (List ht)) (dg:Int) (db:Int):Option Int:=
 cond (decide (db<(a0.length:Int))) ((bF a0 db).bind fun af=>(yP af dg).bind fun ak=>cond (decide (ak<0)) (some (-1)) (kn ak (IntKind.i64.wrap (db+1)))) (some dg)
def B3 (a0:List (List ht)):Nat→Int→Int→Option Int
 |0,_,_=>none
 |n+1,dg,db=>Ni (B3 a0 n) a0 dg db
def B4 (a0:List (List ht)) (R:Int):Option Int:=
 cond (decide ((IntKind.i64.wrap (R-(a0.length:Int)))<0)) (some (-1)) (lim fun n=>B3 a0 n (IntKind.i64.wrap (R-(a0.length:Int))) 0)
def yQ (a0:iT) (R:Int):Option Int:=
 cond (decide ((IntKind.i64.wrap (R-(a0.Name.length:Int)))<0)) (some (-1)) ((B4 a0.cO (IntKind.i64.wrap (R-(a0.Name.length:Int)))).bind fun af=>cond (decide (af<0)) (some (-1)) (some af))
def Nj (kn:Int→Int→Option Int) (a0:List iT) (dg:Int) (db:Int):Option Int:=
 cond (decide (db<(a0.length:Int))) ((bF a0 db).bind fun af=>(yQ af dg).bind fun ak=>cond (decide (ak<0)) (some (-1)) (kn ak (IntKind.i64.wrap (db+1)))) (some dg)
def B5 (a0:List iT):Nat→Int→Int→Option Int
 |0,_,_=>none
 |n+1,dg,db=>Nj (B5 a0 n) a0 dg db
def B6 (a0:List iT) (R:Int):Option Int:=
 cond (decide ((IntKind.i64.wrap (R-(a0.length:Int)))<0)) (some (-1)) (lim fun n=>B5 a0 n (IntKind.i64.wrap (R-(a0.length:Int))) 0)
def yR (a0:iU) (R:Int):Option Int:=
 cond (decide ((IntKind.i64.wrap (R-(a0.Name.length:Int)))<0)) (some (-1)) ((B6 a0.Body (IntKind.i64.wrap (R-(a0.Name.length:Int)))).bind fun af=>cond (decide (af<0)) (some (-1)) (some af))
def Nk (kn:Int→Int→Option Int) (a0:List iU) (dg:Int) (db:Int):Option Int:=
 cond (decide (db<(a0.length:Int))) ((bF a0 db).bind fun af=>(yR af dg).bind fun ak=>cond (decide (ak<0)) (some (-1)) (kn ak (IntKind.i64.wrap (db+1)))) (some dg)
def B7 (a0:List iU):Nat→Int→Int→Option Int
 |0,_,_=>none
 |n+1,dg,db=>Nk (B7 a0 n) a0 dg db
def B8 (a0:List iU) (R:Int):Option Int:=
 cond (decide ((IntKind.i64.wrap (R-(a0.length:Int)))<0)) (some (-1)) (lim fun n=>B7 a0 n (IntKind.i64.wrap (R-(a0.length:Int))) 0)
def yS (a0:List Int) (R:Int):Option Int:=
 cond (decide ((IntKind.i64.wrap (R-(a0.length:Int)))<0)) (some (-1)) (some (IntKind.i64.wrap (R-(a0.length:Int))))
def yT (a0:iV) (R:Int):Option Int:=
 (yS a0.bS R).bind fun af=>cond (decide (af<0)) (some (-1)) (some af)
def Nl (kn:Int→Int→Option Int) (a0:List iV) (dg:Int) (db:Int):Option Int:=
 cond (decide (db<(a0.length:Int))) ((bF a0 db).bind fun af=>(yT af dg).bind fun ak=>cond (decide (ak<0)) (some (-1)) (kn ak (IntKind.i64.wrap (db+1)))) (some dg)
def B9 (a0:List iV):Nat→Int→Int→Option Int
 |0,_,_=>none
 |n+1,dg,db=>Nl (B9 a0 n) a0 dg db
def B_ (a0:List iV) (R:Int):Option Int:=
 cond (decide ((IntKind.i64.wrap (R-(a0.length:Int)))<0)) (some (-1)) (lim fun n=>B9 a0 n (IntKind.i64.wrap (R-(a0.length:Int))) 0)
def yU (a0:iG) (R:Int):Option Int:=
 cond (decide ((IntKind.i64.wrap (R-(a0.Left.length:Int)))<0)) (some (-1)) (cond (decide ((IntKind.i64.wrap ((IntKind.i64.wrap (R-(a0.Left.length:Int)))-(a0.cp.length:Int)))<0)) (some (-1)) (cond (decide ((IntKind.i64.wrap ((IntKind.i64.wrap ((IntKind.i64.wrap (R-(a0.Left.length:Int)))-(a0.cp.length:Int)))-(a0.Result.length:Int)))<0)) (some (-1)) (some (IntKind.i64.wrap ((IntKind.i64.wrap ((IntKind.i64.wrap (R-(a0.Left.length:Int)))-(a0.cp.length:Int)))-(a0.Result.length:Int))))))
def Nn (kn:Int→Int→Option Int) (a0:List iG) (dg:Int) (db:Int):Option Int:=
 cond (decide (db<(a0.length:Int))) ((bF a0 db).bind fun af=>(yU af dg).bind fun ak=>cond (decide (ak<0)) (some (-1)) (kn ak (IntKind.i64.wrap (db+1)))) (some dg)
def Ca (a0:List iG):Nat→Int→Int→Option Int
 |0,_,_=>none
 |n+1,dg,db=>Nn (Ca a0 n) a0 dg db
def Cb (a0:List iG) (R:Int):Option Int:=
 cond (decide ((IntKind.i64.wrap (R-(a0.length:Int)))<0)) (some (-1)) (lim fun n=>Ca a0 n (IntKind.i64.wrap (R-(a0.length:Int))) 0)
def Np (kn:Int→Int→Option Int) (a0:List (List UInt8)) (dg:Int) (db:Int):Option Int:=
 cond (decide (db<(a0.length:Int))) ((bF a0 db).bind fun af=>cond (decide ((IntKind.i64.wrap (dg-(af.length:Int)))<0)) (some (-1)) (kn (IntKind.i64.wrap (dg-(af.length:Int))) (IntKind.i64.wrap (db+1)))) (some dg)
def Cc (a0:List (List UInt8)):Nat→Int→Int→Option Int
 |0,_,_=>none
 |n+1,dg,db=>Np (Cc a0 n) a0 dg db
def yV (a0:List (List UInt8)) (R:Int):Option Int:=
 cond (decide ((IntKind.i64.wrap (R-(a0.length:Int)))<0)) (some (-1)) (lim fun n=>Cc a0 n (IntKind.i64.wrap (R-(a0.length:Int))) 0)
def yW (a0:k6) (R:Int):Option Int:=
 (B8 a0.ew R).bind fun af=>cond (decide (af<0)) (some (-1)) ((B_ a0.c8 af).bind fun ak=>cond (decide (ak<0)) (some (-1)) ((Cb a0.hE ak).bind fun aV=>cond (decide (aV<0)) (some (-1)) ((yV a0.hv aV).bind fun bm=>cond (decide (bm<0)) (some (-1)) ((yV a0.hx bm).bind fun bh=>cond (decide (bh<0)) (some (-1)) (some bh)))))
def yX (a0:iH) (R:Int):Option Int:=
 (yS a0.bS R).bind fun af=>cond (decide (af<0)) (some (-1)) (some af)
def Nq (kn:Int→Int→Option Int) (a0:List iH) (dg:Int) (db:Int):Option Int:=
 cond (decide (db<(a0.length:Int))) ((bF a0 db).bind fun af=>(yX af dg).bind fun ak=>cond (decide (ak<0)) (some (-1)) (kn ak (IntKind.i64.wrap (db+1)))) (some dg)
def Cd (a0:List iH):Nat→Int→Int→Option Int
 |0,_,_=>none
 |n+1,dg,db=>Nq (Cd a0 n) a0 dg db
def Ce (a0:List iH) (R:Int):Option Int:=
 cond (decide ((IntKind.i64.wrap (R-(a0.length:Int)))<0)) (some (-1)) (lim fun n=>Cd a0 n (IntKind.i64.wrap (R-(a0.length:Int))) 0)
def yY (a0:ht):Option b7:=
 some (b7.mk a0.Kind a0.Value)
def Nr (fV:(List b7)→Int→Option ((List b7))) (a0:List ht) (bG:List b7) (br:Int):Option ((List b7)):=
 cond (decide (br<(a0.length:Int))) ((bF a0 br).bind fun af=>(yY af).bind fun ak=>(bF bG br).bind fun aV=>fV (List.set bG (Int.toNat br) ak) (IntKind.i64.wrap (br+1))) (some bG)
def Cf (a0:List ht):Nat→(List b7)→Int→Option ((List b7))
 |0,_,_=>none
 |n+1,bG,br=>Nr (Cf a0 n) a0 bG br
def yZ (a0:List ht):Option ((List b7)):=
 (mU 16 (a0.length:Int)).bind fun _=>lim fun n=>Cf a0 n (List.replicate (Int.toNat (a0.length:Int)) (b7.mk 0 0)) 0
def Ns (fV:(List (List b7))→Int→Option ((List (List b7)))) (a0:List (List ht)) (bG:List (List b7)) (br:Int):Option ((List (List b7))):=
 cond (decide (br<(a0.length:Int))) ((bF a0 br).bind fun af=>(yZ af).bind fun ak=>(bF bG br).bind fun aV=>fV (List.set bG (Int.toNat br) ak) (IntKind.i64.wrap (br+1))) (some bG)
def Cg (a0:List (List ht)):Nat→(List (List b7))→Int→Option ((List (List b7)))
 |0,_,_=>none
 |n+1,bG,br=>Ns (Cg a0 n) a0 bG br
def Ch (a0:List (List ht)):Option ((List (List b7))):=
 (mU 24 (a0.length:Int)).bind fun _=>lim fun n=>Cg a0 n (List.replicate (Int.toNat (a0.length:Int)) []) 0
def y0 (a0:iT):Option bJ:=
 (Ch a0.cO).bind fun af=>some (bJ.mk a0.Kind a0.Number a0.Name af)
def Nt (fV:(List bJ)→Int→Option ((List bJ))) (a0:List iT) (bG:List bJ) (br:Int):Option ((List bJ)):=
 cond (decide (br<(a0.length:Int))) ((bF a0 br).bind fun af=>(y0 af).bind fun ak=>(bF bG br).bind fun aV=>fV (List.set bG (Int.toNat br) ak) (IntKind.i64.wrap (br+1))) (some bG)
def Ci (a0:List iT):Nat→(List bJ)→Int→Option ((List bJ))
 |0,_,_=>none
 |n+1,bG,br=>Nt (Ci a0 n) a0 bG br
def Cj (a0:List iT):Option ((List bJ)):=
 (mU 56 (a0.length:Int)).bind fun _=>lim fun n=>Ci a0 n (List.replicate (Int.toNat (a0.length:Int)) (bJ.mk 0 0 ([]:List UInt8) [])) 0
def y1 (a0:iU):Option bj:=
 (Cj a0.Body).bind fun af=>some (bj.mk a0.Name a0.dt af)
def Nu (fV:(List bj)→Int→Option ((List bj))) (a0:List iU) (bG:List bj) (br:Int):Option ((List bj)):=
 cond (decide (br<(a0.length:Int))) ((bF a0 br).bind fun af=>(y1 af).bind fun ak=>(bF bG br).bind fun aV=>fV (List.set bG (Int.toNat br) ak) (IntKind.i64.wrap (br+1))) (some bG)
def Ck (a0:List iU):Nat→(List bj)→Int→Option ((List bj))
 |0,_,_=>none
 |n+1,bG,br=>Nu (Ck a0 n) a0 bG br
def Cl (a0:List iU):Option ((List bj)):=
 (mU 48 (a0.length:Int)).bind fun _=>lim fun n=>Ck a0 n (List.replicate (Int.toNat (a0.length:Int)) (bj.mk ([]:List UInt8) 0 [])) 0
def Nv (fV:(List Int)→Int→Option ((List Int))) (a0:List Int) (bG:List Int) (br:Int):Option ((List Int)):=
 cond (decide (br<(a0.length:Int))) ((bF a0 br).bind fun af=>(bF bG br).bind fun ak=>fV (List.set bG (Int.toNat br) af) (IntKind.i64.wrap (br+1))) (some bG)
def Cm (a0:List Int):Nat→(List Int)→Int→Option ((List Int))
 |0,_,_=>none
 |n+1,bG,br=>Nv (Cm a0 n) a0 bG br
def y2 (a0:List Int):Option ((List Int)):=
 (mU 8 (a0.length:Int)).bind fun _=>lim fun n=>Cm a0 n (List.replicate (Int.toNat (a0.length:Int)) 0) 0
def y3 (a0:iV):Option dk:=
 (y2 a0.bS).bind fun af=>some (dk.mk a0.cm af)
def Nw (fV:(List dk)→Int→Option ((List dk))) (a0:List iV) (bG:List dk) (br:Int):Option ((List dk)):=
 cond (decide (br<(a0.length:Int))) ((bF a0 br).bind fun af=>(y3 af).bind fun ak=>(bF bG br).bind fun aV=>fV (List.set bG (Int.toNat br) ak) (IntKind.i64.wrap (br+1))) (some bG)
def Cn (a0:List iV):Nat→(List dk)→Int→Option ((List dk))
 |0,_,_=>none
 |n+1,bG,br=>Nw (Cn a0 n) a0 bG br
def Co (a0:List iV):Option ((List dk)):=
 (mU 32 (a0.length:Int)).bind fun _=>lim fun n=>Cn a0 n (List.replicate (Int.toNat (a0.length:Int)) (dk.mk 0 [])) 0
def y4 (a0:iG):Option cb:=
 some (cb.mk a0.Left a0.cp a0.Result)
def Nx (fV:(List cb)→Int→Option ((List cb))) (a0:List iG) (bG:List cb) (br:Int):Option ((List cb)):=
 cond (decide (br<(a0.length:Int))) ((bF a0 br).bind fun af=>(y4 af).bind fun ak=>(bF bG br).bind fun aV=>fV (List.set bG (Int.toNat br) ak) (IntKind.i64.wrap (br+1))) (some bG)
def Cp (a0:List iG):Nat→(List cb)→Int→Option ((List cb))
 |0,_,_=>none
 |n+1,bG,br=>Nx (Cp a0 n) a0 bG br
def Cq (a0:List iG):Option ((List cb)):=
 (mU 48 (a0.length:Int)).bind fun _=>lim fun n=>Cp a0 n (List.replicate (Int.toNat (a0.length:Int)) (cb.mk ([]:List UInt8) ([]:List UInt8) ([]:List UInt8))) 0
def Ny (fV:(List (List UInt8))→Int→Option ((List (List UInt8)))) (a0:List (List UInt8)) (bG:List (List UInt8)) (br:Int):Option ((List (List UInt8))):=
 cond (decide (br<(a0.length:Int))) ((bF a0 br).bind fun af=>(bF bG br).bind fun ak=>fV (List.set bG (Int.toNat br) af) (IntKind.i64.wrap (br+1))) (some bG)
def Cr (a0:List (List UInt8)):Nat→(List (List UInt8))→Int→Option ((List (List UInt8)))
 |0,_,_=>none
 |n+1,bG,br=>Ny (Cr a0 n) a0 bG br
def y5 (a0:List (List UInt8)):Option ((List (List UInt8))):=
 (mU 16 (a0.length:Int)).bind fun _=>lim fun n=>Cr a0 n (List.replicate (Int.toNat (a0.length:Int)) ([]:List UInt8)) 0
def r6 (a0:k6):Option ea:=
 (Cl a0.ew).bind fun af=>(Co a0.c8).bind fun ak=>(Cq a0.hE).bind fun aV=>(y5 a0.hv).bind fun bm=>(y5 a0.hx).bind fun bh=>some (ea.mk af ak aV bm bh)
def y6 (a0:iH):Option aW:=
 (y2 a0.bS).bind fun af=>some (aW.mk a0.cm a0.Part af)
def Nz (fV:(List aW)→Int→Option ((List aW))) (a0:List iH) (bG:List aW) (br:Int):Option ((List aW)):=
 cond (decide (br<(a0.length:Int))) ((bF a0 br).bind fun af=>(y6 af).bind fun ak=>(bF bG br).bind fun aV=>fV (List.set bG (Int.toNat br) ak) (IntKind.i64.wrap (br+1))) (some bG)
def Cs (a0:List iH):Nat→(List aW)→Int→Option ((List aW))
 |0,_,_=>none
 |n+1,bG,br=>Nz (Cs a0 n) a0 bG br
def tE (a0:List iH):Option ((List aW)):=
 (mU 40 (a0.length:Int)).bind fun _=>lim fun n=>Cs a0 n (List.replicate (Int.toNat (a0.length:Int)) (aW.mk 0 0 [])) 0
def y7 (a0:UInt8):Option Bool:=
 some ((decide (97≤(a0.toNat:Int)))&&(decide ((a0.toNat:Int)≤122)))
def Hq (a0:UInt8):Option Bool:=
 some ((decide (48≤(a0.toNat:Int)))&&(decide ((a0.toNat:Int)≤57)))
def Ct (fM:Int→Option Bool) (a0:List UInt8) (c9:Int):Option Bool:=
 cond (decide (c9<(a0.length:Int))) ((bF a0 c9).bind fun aV=>(y7 aV).bind fun bm=>cond (!bm) ((Hq aV).bind fun bh=>cond (!bh) (some false) (fM (IntKind.i64.wrap (c9+1)))) (fM (IntKind.i64.wrap (c9+1)))) (some true)
def wz (a0:List UInt8):Nat→Int→Option Bool
 |0,_=>none
 |n+1,c9=>Ct (wz a0 n) a0 c9
def wA (a0:List UInt8):Option Bool:=
 cond (a0==([]:List UInt8)) (some false) (cond (decide (10<(a0.length:Int))) (some false) ((bF a0 0).bind fun af=>(y7 af).bind fun ak=>cond (!ak) (some false) (lim fun n=>wz a0 n 0)))
def lv (a0:Int) (R:Int) (a2:Int):Option Bool:=
 some ((decide (R≤a0))&&(decide (a0≤a2)))
def y8 (a0:bJ) (hF:Bool):Option Int:=
 cond hF (some 1) (cond (a0.Kind==2) (some 2) (some 0))
def y9 (a0:bJ):Option Int:=
 cond (a0.Kind==1) (y8 a0 true) (cond (a0.Kind==3) (y8 a0 true) (y8 a0 (a0.Kind==4)))
def Cu (kn:Int→Int→Option Bool) (a0:List bJ) (nQ:Int) (oH:Int):Option Bool:=
 cond (decide (oH<(a0.length:Int))) (cond (nQ==0) (some false) ((bF a0 oH).bind fun af=>(y9 af).bind fun ak=>kn (IntKind.i64.wrap (nQ+(IntKind.i64.wrap (ak-1)))) (IntKind.i64.wrap (oH+1)))) (some (nQ==0))
def tF (a0:List bJ):Nat→Int→Int→Option Bool
 |0,_,_=>none
 |n+1,nQ,oH=>Cu (tF a0 n) a0 nQ oH
def Cv (a0:List bJ):Option Bool:=
 cond (((a0.length:Int)==0)||(decide (20<(a0.length:Int)))) (some false) (lim fun n=>tF a0 n 1 0)
def Cw (a0:bJ) (y_:Bool):Option Bool:=
 cond y_ (some (((a0.Number==0)&&(a0.Name==([]:List UInt8)))&&((a0.cO.length:Int)==0))) (cond (a0.Kind==1) (some (a0.Number==0)) (cond (a0.Kind==3) (some ((a0.Number==0)&&(a0.Name==([]:List UInt8)))) (cond (a0.Kind==4) (some ((a0.Name==([]:List UInt8))&&((a0.cO.length:Int)==0))) (cond (a0.Kind==5) (some (a0.Name==([]:List UInt8))) (some false)))))
def Hr (a0:bJ):Option Bool:=
 cond (a0.Kind==0) (Cw a0 true) (Cw a0 (a0.Kind==2))
def Cx (dr:Int→Int→Option Int) (a0:List bJ) (aU:Int) (aF:Int):Option Int:=
 cond (decide (0<aF)) ((bF a0 aU).bind fun af=>(y9 af).bind fun ak=>dr (IntKind.i64.wrap (aU+1)) (IntKind.i64.wrap (aF+(IntKind.i64.wrap (ak-1))))) (some aU)
def tG (a0:List bJ):Nat→Int→Int→Option Int
 |0,_,_=>none
 |n+1,aU,aF=>Cx (tG a0 n) a0 aU aF
def Cy (a0:List bJ) (R:Int):Option Int:=
 lim fun n=>tG a0 n R 1
def za (fV:Int→Int→Option Int) (a0:bj) (R:Int) (wB:Int) (wC:Int):Option Int:=
 fV wB (IntKind.i64.wrap (wC+1))
def Cz (fV:Int→Int→Option Int) (a0:bj) (R:Int) (lR:Int) (k7:Int):Option Int:=
 cond (decide (k7<R)) ((bF a0.Body k7).bind fun af=>cond (af.Kind==4) ((Cy a0.Body k7).bind fun ak=>cond (decide (R<ak)) (za fV a0 R (IntKind.i64.wrap (lR+1)) k7) (za fV a0 R lR k7)) (za fV a0 R lR k7)) (some lR)
def r7 (a0:bj) (R:Int):Nat→Int→Int→Option Int
 |0,_,_=>none
 |n+1,lR,k7=>Cz (r7 a0 R n) a0 R lR k7
def r8 (a0:bj) (R:Int):Option Int:=
 lim fun n=>r7 a0 R n a0.dt 0
def CA (a0:b7) (R:Int):Option Bool:=
 cond (a0.Kind==0) ((lv a0.Value 0 63).bind fun af=>some af) (cond (a0.Kind==1) ((lv a0.Value 0 (IntKind.i64.wrap (R-1))).bind fun ak=>some ak) (cond (a0.Kind==2) ((lv a0.Value 0 8).bind fun aV=>some aV) (cond (a0.Kind==3) (some (a0.Value==0)) (some false))))
def Hs (a0:b7):Option Int:=
 cond (a0.Kind==2) (some 2) (cond (a0.Kind==3) (some 1) (some 0))
def CB (kn:Int→Int→Option Bool) (a0:List b7) (R:Int) (hF:Int) (nR:Int):Option Bool:=
 cond (decide (nR<(a0.length:Int))) (cond (hF==0) (some false) ((bF a0 nR).bind fun af=>(CA af R).bind fun ak=>cond (!ak) (some false) ((Hs af).bind fun aV=>kn (IntKind.i64.wrap (hF+(IntKind.i64.wrap (aV-1)))) (IntKind.i64.wrap (nR+1))))) (some (hF==0))
def tH (a0:List b7) (R:Int):Nat→Int→Int→Option Bool
 |0,_,_=>none
 |n+1,hF,nR=>CB (tH a0 R n) a0 R hF nR
def CC (a0:List b7) (R:Int) (a2:Int):Option Bool:=
 cond (decide (a2<(a0.length:Int))) (some false) (lim fun n=>tH a0 R n 1 0)
def CD (Xg:Int→Int→Option Int) (af:bJ) (oI:Int) (oJ:Int):Option Int:=
 cond (decide (oJ<(af.cO.length:Int))) ((bF af.cO oJ).bind fun bm=>(CC bm oI 15).bind fun bh=>cond (!bh) (some 8) (Xg oI (IntKind.i64.wrap (oJ+1)))) (some 0)
def r9 (af:bJ):Nat→Int→Int→Option Int
 |0,_,_=>none
 |n+1,oI,oJ=>CD (r9 af n) af oI oJ
def wD (R:bj) (a2:Int) (af:bJ) (zb:Bool):Option Int:=
 cond zb (some 6) ((r8 R a2).bind fun aV=>cond ((af.Kind==4)&&(decide (6≤aV))) (some 7) (lim fun n=>r9 af n aV 0))
def tI (R:bj) (a2:Int) (af:bJ):Option Int:=
 cond (af.Kind==5) (cond (a2==0) (wD R a2 af true) ((bF R.Body (IntKind.i64.wrap (a2-1))).bind fun bM=>wD R a2 af (bM.Kind !=1))) (wD R a2 af false)
def tJ (a0:List bj) (R:bj) (a2:Int) (af:bJ) (zc:Bool):Option Int:=
 cond zc (some 4) (cond (af.Kind==1) (cond ((decide (2<(af.cO.length:Int)))||((decide (0<(af.cO.length:Int)))&&(af.Name==([116,97,117]:List UInt8)))) (some 5) (tI R a2 af)) (cond (af.Kind==3) (cond ((af.cO.length:Int) !=1) (some 5) (tI R a2 af)) (cond (af.Kind==5) ((bF a0 af.Number).bind fun cQ=>cond ((af.cO.length:Int) !=cQ.dt) (some 5) (tI R a2 af)) (tI R a2 af))))
def CE (a0:List bj) (R:bj) (a2:Int) (af:bJ) (zd:Bool):Option Int:=
 cond zd (some 3) (cond (af.Kind==4) ((lv af.Number 1 7).bind fun eb=>cond (!eb) (tJ a0 R a2 af true) (cond (af.Kind==5) ((lv af.Number 0 (IntKind.i64.wrap ((a0.length:Int)-1))).bind fun dh=>tJ a0 R a2 af (!dh)) (tJ a0 R a2 af false))) (cond (af.Kind==5) ((lv af.Number 0 (IntKind.i64.wrap ((a0.length:Int)-1))).bind fun c_=>tJ a0 R a2 af (!c_)) (tJ a0 R a2 af false)))
def ze (a0:List bj) (R:bj) (a2:Int):Option Int:=
 (bF R.Body a2).bind fun af=>(Hr af).bind fun ak=>cond (!ak) (some 2) (cond (af.Kind==1) ((wA af.Name).bind fun eO=>CE a0 R a2 af (!eO)) (CE a0 R a2 af false))
def zf (fM:Int→Option (Int×Int)) (a0:List bj) (R:bj) (mK:Int):Option (Int×Int):=
 cond (decide (mK<(R.Body.length:Int))) ((ze a0 R mK).bind fun ak=>cond (decide (0<ak)) (some (mK,ak)) (fM (IntKind.i64.wrap (mK+1)))) (some (0,0))
def r_ (a0:List bj) (R:bj):Nat→Int→Option (Int×Int)
 |0,_=>none
 |n+1,mK=>zf (r_ a0 R n) a0 R mK
def tK (a0:List bj) (R:bj):Option (Int×Int):=
 (Cv R.Body).bind fun af=>cond (!af) (some (0,1)) (lim fun n=>r_ a0 R n 0)
def CF (fM:Int→Option Bool) (Xh:Int→Int→Option Bool) (a0:List bj) (mL:Int) (nS:Int):Option Bool:=
 cond (decide (nS<mL)) ((bF a0 nS).bind fun bm=>(bF a0 mL).bind fun bh=>cond (bm.Name==bh.Name) (some false) (Xh mL (IntKind.i64.wrap (nS+1)))) (fM (IntKind.i64.wrap (mL+1)))
def tL (fM:Int→Option Bool) (a0:List bj):Nat→Int→Int→Option Bool
 |0,_,_=>none
 |n+1,mL,nS=>CF fM (tL fM a0 n) a0 mL nS
def CG (Xi:Int→Option Bool) (a0:List bj) (oK:Int):Option Bool:=
 cond (decide (oK<(a0.length:Int))) ((bF a0 oK).bind fun bM=>(tK a0 bM).bind fun cQ=>cond (decide (0<cQ.2)) (some false) (Xi (IntKind.i64.wrap (oK+1)))) (some true)
def sa (a0:List bj):Nat→Int→Option Bool
 |0,_=>none
 |n+1,oK=>CG (sa a0 n) a0 oK
def CH (fM:Int→Option Bool) (a0:List bj) (c9:Int):Option Bool:=
 cond (decide (c9<(a0.length:Int))) ((bF a0 c9).bind fun af=>(wA af.Name).bind fun ak=>cond (!ak) (some false) ((lv af.dt 0 3).bind fun aV=>cond (!aV) (some false) (lim fun n=>tL fM a0 n c9 0))) (lim fun n=>sa a0 n 0)
def oL (a0:List bj):Nat→Int→Option Bool
 |0,_=>none
 |n+1,c9=>CH (oL a0 n) a0 c9
def CI (a0:List bj):Option Bool:=
 cond (((a0.length:Int)==0)||(decide (4<(a0.length:Int)))) (some false) (lim fun n=>oL a0 n 0)
def CJ (dr:Int→Option Bool) (a0:List Int) (jx:Int):Option Bool:=
 cond (decide (jx<(a0.length:Int))) ((bF a0 jx).bind fun af=>(lv af 0 63).bind fun ak=>cond (!ak) (some false) (dr (IntKind.i64.wrap (jx+1)))) (some true)
def tM (a0:List Int):Nat→Int→Option Bool
 |0,_=>none
 |n+1,jx=>CJ (tM a0 n) a0 jx
def zg (a0:List Int):Option Bool:=
 lim fun n=>tM a0 n 0
def CK (fM:Int→Option Bool) (a0:ea) (c9:Int):Option Bool:=
 cond (decide (c9<(a0.c8.length:Int))) ((bF a0.c8 c9).bind fun af=>(lv af.cm 0 (IntKind.i64.wrap ((a0.ew.length:Int)-1))).bind fun ak=>cond (!ak) (some false) ((bF a0.ew af.cm).bind fun aV=>cond ((af.bS.length:Int) !=aV.dt) (some false) ((zg af.bS).bind fun bm=>cond (!bm) (some false) (fM (IntKind.i64.wrap (c9+1)))))) (some true)
def tN (a0:ea):Nat→Int→Option Bool
 |0,_=>none
 |n+1,c9=>CK (tN a0 n) a0 c9
def CL (a0:ea):Option Bool:=
 cond (((a0.c8.length:Int)==0)||(decide (3<(a0.c8.length:Int)))) (some false) (lim fun n=>tN a0 n 0)
def tO (a0:List UInt8):Option Bool:=
 (wA a0).bind fun af=>some (af&&(!(a0==([116,97,117]:List UInt8))))
def zh (fM:Int→Option Bool) (Xj:Int→Int→Option Bool) (a0:List cb) (af:cb) (ka:Int) (ko:Int):Option Bool:=
 cond (decide (ko<(a0.length:Int))) ((bF a0 ko).bind fun cQ=>cond ((cQ.Left==af.Result)||(cQ.cp==af.Result)) (some false) (Xj ka (IntKind.i64.wrap (ko+1)))) (fM (IntKind.i64.wrap (ka+1)))
def po (fM:Int→Option Bool) (a0:List cb) (af:cb):Nat→Int→Int→Option Bool
 |0,_,_=>none
 |n+1,ka,ko=>zh fM (po fM a0 af n) a0 af ka ko
def CM (fM:Int→Option Bool) (a0:List cb) (c9:Int):Option Bool:=
 cond (decide (c9<(a0.length:Int))) ((bF a0 c9).bind fun af=>(tO af.Left).bind fun ak=>cond (!ak) (some false) ((tO af.cp).bind fun aV=>cond (!aV) (some false) ((tO af.Result).bind fun bm=>cond ((!bm)||(!(Op.bytesLess af.Left af.cp||af.Left==af.cp))) (some false) (cond (decide (0<c9)) ((bF a0 (IntKind.i64.wrap (c9-1))).bind fun bh=>cond ((!(Op.bytesLess bh.Left af.Left||bh.Left==af.Left))||((bh.Left==af.Left)&&(!(Op.bytesLess bh.cp af.cp)))) (some false) (lim fun n=>po fM a0 af n c9 0)) (lim fun n=>po fM a0 af n c9 0))))) (some true)
def mh (a0:List cb):Nat→Int→Option Bool
 |0,_=>none
 |n+1,c9=>CM (mh a0 n) a0 c9
def CN (a0:List cb):Option Bool:=
 cond (decide (6<(a0.length:Int))) (some false) (lim fun n=>mh a0 n 0)
def CO (dr:Int→Option Bool) (a0:List (List UInt8)) (jx:Int):Option Bool:=
 cond (decide (jx<(a0.length:Int))) ((bF a0 jx).bind fun af=>(tO af).bind fun ak=>cond (!ak) (some false) (dr (IntKind.i64.wrap (jx+1)))) (some true)
def tP (a0:List (List UInt8)):Nat→Int→Option Bool
 |0,_=>none
 |n+1,jx=>CO (tP a0 n) a0 jx
def CP (a0:List (List UInt8)):Option Bool:=
 lim fun n=>tP a0 n 0
def zi (fM:Int→Option Bool) (a0:List (List UInt8)) (c9:Int):Option Bool:=
 cond (decide (c9<(a0.length:Int))) ((bF a0 (IntKind.i64.wrap (c9-1))).bind fun ak=>(bF a0 c9).bind fun aV=>cond (!(Op.bytesLess ak aV)) (some false) (fM (IntKind.i64.wrap (c9+1)))) (some true)
def nT (a0:List (List UInt8)):Nat→Int→Option Bool
 |0,_=>none
 |n+1,c9=>zi (nT a0 n) a0 c9
def zj (a0:List (List UInt8)):Option Bool:=
 cond (decide (12<(a0.length:Int))) (some false) ((CP a0).bind fun af=>cond (!af) (some false) (lim fun n=>nT a0 n 1))
def CQ (a0:ea):Option Int:=
 (CI a0.ew).bind fun af=>cond (!af) (some 1) ((CL a0).bind fun ak=>cond (!ak) (some 2) ((CN a0.hE).bind fun aV=>cond (!aV) (some 3) ((zj a0.hv).bind fun bm=>cond (!bm) (some 4) ((zj a0.hx).bind fun bh=>cond (!bh) (some 5) (some 0)))))
def CR (a0:ea):Option Bool:=
 (CQ a0).bind fun af=>some (af==0)
def wE (a0:List bj) (R:aW):Option Bool:=
 (lv R.cm 0 (IntKind.i64.wrap ((a0.length:Int)-1))).bind fun af=>cond (!af) (some false) ((bF a0 R.cm).bind fun ak=>(lv R.Part 0 (IntKind.i64.wrap ((ak.Body.length:Int)-1))).bind fun aV=>cond (!aV) (some false) ((bF ak.Body R.Part).bind fun bm=>cond (bm.Kind==5) (some false) ((r8 ak R.Part).bind fun bh=>cond ((R.bS.length:Int)==bh) ((zg R.bS).bind fun bM=>some bM) (some false))))
def CS (fM:Int→Option Bool) (a0:ea) (R:List aW) (bY:Int):Option Bool:=
 cond (decide (bY<(R.length:Int))) ((bF R bY).bind fun af=>(wE a0.ew af).bind fun ak=>cond (!ak) (some false) (fM (IntKind.i64.wrap (bY+1)))) (some true)
def tQ (a0:ea) (R:List aW):Nat→Int→Option Bool
 |0,_=>none
 |n+1,bY=>CS (tQ a0 R n) a0 R bY
def CT (a0:ea) (R:List aW):Option Bool:=
 cond ((R.length:Int) !=(a0.c8.length:Int)) (some false) (lim fun n=>tQ a0 R n 0)
def CU (a0:List Int):Option ((List Int)):=
 (room 8 (a0.length)).bind fun _=>some a0
def CV (fV:(List aW)→Int→Option ((List aW))) (a0:List aW) (bG:List aW) (br:Int):Option ((List aW)):=
 cond (decide (br<(a0.length:Int))) ((bF a0 br).bind fun af=>(CU af.bS).bind fun ak=>(room 40 (bG.length+1)).bind fun _=>fV (bG++[(aW.mk af.cm af.Part ak)]) (IntKind.i64.wrap (br+1))) (some bG)
def tR (a0:List aW):Nat→(List aW)→Int→Option ((List aW))
 |0,_,_=>none
 |n+1,bG,br=>CV (tR a0 n) a0 bG br
def CW (a0:List aW):Option ((List aW)):=
 lim fun n=>tR a0 n [] 0
def CX (dr:Int→Option Int) (a0:List Int) (R:List Int) (aF:Int):Option Int:=
 cond ((decide (aF<(a0.length:Int)))&&(decide (aF<(R.length:Int)))) ((bF a0 aF).bind fun af=>(bF R aF).bind fun ak=>cond (decide (af<ak)) (some (-1)) (cond (decide (ak<af)) (some 1) (dr (IntKind.i64.wrap (aF+1))))) (cond (decide ((a0.length:Int)<(R.length:Int))) (some (-1)) (cond (decide ((R.length:Int)<(a0.length:Int))) (some 1) (some 0)))
def tS (a0:List Int) (R:List Int):Nat→Int→Option Int
 |0,_=>none
 |n+1,aF=>CX (tS a0 R n) a0 R aF
def zk (a0:List Int) (R:List Int):Option Int:=
 lim fun n=>tS a0 R n 0
def CY (a0:aW) (R:aW):Option Int:=
 (zk [a0.cm,a0.Part] [R.cm,R.Part]).bind fun af=>cond (af !=0) (some af) ((zk a0.bS R.bS).bind fun ak=>some ak)
def zl (k10:(List aW)→Int→Option ((List aW))) (Xk:(List aW)→Int→Int→Int→Option ((List aW))) (a0:List aW) (af:(List aW)) (h_:List aW) (iI:Int) (il:Int) (ia:Int):Option ((List aW)):=
 cond (decide (il<ia)) ((bF h_ (IntKind.i64.wrap (ia-1))).bind fun dh=>(bF h_ ia).bind fun c_=>Xk (List.set h_ (Int.toNat ia) dh) iI il (IntKind.i64.wrap (ia-1))) ((bF af iI).bind fun eO=>(bF h_ il).bind fun iW=>k10 (List.set h_ (Int.toNat il) eO) (IntKind.i64.wrap (iI+1)))
def pq (k10:(List aW)→Int→Option ((List aW))) (a0:List aW) (af:(List aW)):Nat→(List aW)→Int→Int→Int→Option ((List aW))
 |0,_,_,_,_=>none
 |n+1,h_,iI,il,ia=>zl k10 (pq k10 a0 af n) a0 af h_ iI il ia
def zm (k10:(List aW)→Int→Option ((List aW))) (Xl:(List aW)→Int→Int→Option ((List aW))) (a0:List aW) (af:(List aW)) (hG:List aW) (jW:Int) (jN:Int):Option ((List aW)):=
 cond (decide (0<jN)) ((bF af jW).bind fun ak=>(bF hG (IntKind.i64.wrap (jN-1))).bind fun aV=>(CY ak aV).bind fun bm=>cond (decide (bm<0)) (Xl hG jW (IntKind.i64.wrap (jN-1))) ((room 40 (hG.length+1)).bind fun _=>lim fun n=>pq k10 a0 af n (hG++[(aW.mk 0 0 [])]) jW jN (IntKind.i64.wrap (((hG++[(aW.mk 0 0 [])]).length:Int)-1)))) ((room 40 (hG.length+1)).bind fun _=>lim fun n=>pq k10 a0 af n (hG++[(aW.mk 0 0 [])]) jW jN (IntKind.i64.wrap (((hG++[(aW.mk 0 0 [])]).length:Int)-1)))
def q2 (k10:(List aW)→Int→Option ((List aW))) (a0:List aW) (af:(List aW)):Nat→(List aW)→Int→Int→Option ((List aW))
 |0,_,_,_=>none
 |n+1,hG,jW,jN=>zm k10 (q2 k10 a0 af n) a0 af hG jW jN
def CZ (k10:(List aW)→Int→Option ((List aW))) (a0:List aW) (af:(List aW)) (nm:List aW) (pr:Int):Option ((List aW)):=
 cond (decide (pr<(af.length:Int))) (lim fun n=>q2 k10 a0 af n nm pr (nm.length:Int)) (some nm)
def kH (a0:List aW) (af:(List aW)):Nat→(List aW)→Int→Option ((List aW))
 |0,_,_=>none
 |n+1,nm,pr=>CZ (kH a0 af n) a0 af nm pr
def C0 (a0:List aW):Option ((List aW)):=
 (CW a0).bind fun af=>lim fun n=>kH a0 af n [] 0
def C1 (a0:ea) (R:List aW):Option ((List aW)×Int):=
 (CR a0).bind fun af=>cond (!af) (some ([],1)) ((CT a0 R).bind fun ak=>cond (!ak) (some ([],1)) ((C0 R).bind fun aV=>some (aV,0)))
def jX (a0:Int) (R:Int) (a2:Int):Option Bool:=
 some ((decide (R≤a0))&&(decide (a0≤a2)))
def Ht (a0:bj):Option Bool:=
 (jX a0.dt 0 3).bind fun af=>some (!af)
def C2 (dr:Int→Option Int) (a0:List bj) (cY:Int):Option Int:=
 cond (decide (cY<(a0.length:Int))) ((bF a0 cY).bind fun af=>(Ht af).bind fun ak=>cond ak (some cY) (dr (IntKind.i64.wrap (cY+1)))) (some (-1))
def wF (a0:List bj):Nat→Int→Option Int
 |0,_=>none
 |n+1,cY=>C2 (wF a0 n) a0 cY
def Hu (a0:List bj):Option Int:=
 lim fun n=>wF a0 n 0
def Hv (a0:List bj):Option Bool:=
 (Hu a0).bind fun af=>some (decide (0≤af))
def C3 (a0:List bj):Option Bool:=
 (Hv a0).bind fun af=>some (!af)
def Hw (a0:UInt8):Option Bool:=
 some ((decide (48≤(a0.toNat:Int)))&&(decide ((a0.toNat:Int)≤57)))
def zn (dr:Int→Option Bool) (a0:List UInt8) (eP:Int):Option Bool:=
 cond (decide (eP<(a0.length:Int))) ((bF a0 eP).bind fun af=>cond (!((decide (97≤(af.toNat:Int)))&&(decide ((af.toNat:Int)≤122)))) (cond (eP==0) (some false) ((Hw af).bind fun ak=>cond (!ak) (some false) (dr (IntKind.i64.wrap (eP+1))))) (dr (IntKind.i64.wrap (eP+1)))) (some ((decide (1≤(a0.length:Int)))&&(decide ((a0.length:Int)≤10))))
def q3 (a0:List UInt8):Nat→Int→Option Bool
 |0,_=>none
 |n+1,eP=>zn (q3 a0 n) a0 eP
def zo (a0:List UInt8):Option Bool:=
 lim fun n=>q3 a0 n 0
def Hx (a0:bj) (R:List UInt8):Option Bool:=
 some (a0.Name==R)
def C4 (dr:Int→Option Int) (a0:List bj) (R:List UInt8) (cY:Int):Option Int:=
 cond (decide (cY<(a0.length:Int))) ((bF a0 cY).bind fun af=>(Hx af R).bind fun ak=>cond ak (some cY) (dr (IntKind.i64.wrap (cY+1)))) (some (-1))
def wG (a0:List bj) (R:List UInt8):Nat→Int→Option Int
 |0,_=>none
 |n+1,cY=>C4 (wG a0 R n) a0 R cY
def Hy (a0:List bj) (R:List UInt8):Option Int:=
 lim fun n=>wG a0 R n 0
def C5 (a0:List bj) (R:List UInt8):Option Int:=
 (Hy a0 R).bind fun af=>some af
def zp (a0:bJ) (db:Bool):Option Int:=
 cond db (some 1) (cond (a0.Kind==2) (some 2) (some 0))
def zq (a0:bJ):Option Int:=
 cond (a0.Kind==1) (zp a0 true) (cond (a0.Kind==3) (zp a0 true) (zp a0 (a0.Kind==4)))
def C6 (dr:Int→Int→Option Int) (a0:bj) (aU:Int) (aF:Int):Option Int:=
 cond (decide (0<aF)) (cond (decide ((a0.Body.length:Int)≤aU)) (some (-1)) ((bF a0.Body aU).bind fun af=>(zq af).bind fun ak=>dr (IntKind.i64.wrap (aU+1)) (IntKind.i64.wrap (aF+(IntKind.i64.wrap (ak-1)))))) (some aU)
def tT (a0:bj):Nat→Int→Int→Option Int
 |0,_,_=>none
 |n+1,aU,aF=>C6 (tT a0 n) a0 aU aF
def C7 (a0:bj) (R:Int):Option Int:=
 lim fun n=>tT a0 n R 1
def C8 (mi:Int→cM→(List cM)→bj→Option (Int×(List cM))) (Xm:(List cM)→Int→Int→Option (Int×(List cM))) (a3:bj) (k8:Int) (ak:bJ) (aV:Int) (pt:List cM) (nU:Int) (oM:Int):Option (Int×(List cM)):=
 cond (decide (oM<aV)) ((mi nU (cM.mk k8 (ak.Kind==1)) pt a3).bind fun bm=>Xm bm.2 bm.1 (IntKind.i64.wrap (oM+1))) (some (nU,pt))
def sb (mi:Int→cM→(List cM)→bj→Option (Int×(List cM))) (a3:bj) (k8:Int) (ak:bJ) (aV:Int):Nat→(List cM)→Int→Int→Option (Int×(List cM))
 |0,_,_,_=>none
 |n+1,pt,nU,oM=>C8 mi (sb mi a3 k8 ak aV n) a3 k8 ak aV pt nU oM
def C9 (mi:Int→cM→(List cM)→bj→Option (Int×(List cM))) (a0:Int) (R:cM) (a2:List cM) (a3:bj) (ak:bJ) (k8:Int):Option (Int×(List cM)):=
 (zq ak).bind fun aV=>lim fun n=>sb mi a3 k8 ak aV n (List.set a2 (Int.toNat a0) R) (IntKind.i64.wrap (a0+1)) 0
def Hz (mi:Int→cM→(List cM)→bj→Option (Int×(List cM))) (a0:Int) (R:cM) (a2:List cM) (a3:bj):Option (Int×(List cM)):=
 (bF a2 a0).bind fun af=>(bF a3.Body a0).bind fun ak=>cond (ak.Kind==4) (C9 mi a0 R a2 a3 ak (IntKind.i64.wrap (R.scope+1))) (C9 mi a0 R a2 a3 ak R.scope)
def tU:Nat→Int→cM→(List cM)→bj→Option (Int×(List cM))
 |0,_,_,_,_=>none
 |n+1,a0,R,a2,a3=>Hz (tU n) a0 R a2 a3
def C_ (a0:Int) (R:cM) (a2:List cM) (a3:bj):Option (Int×(List cM)):=
 lim fun n=>tU n a0 R a2 a3
def wH (a0:bj):Option ((List cM)):=
 (mU 16 (a0.Body.length:Int)).bind fun _=>(C_ 0 (cM.mk a0.dt false) (List.replicate (Int.toNat (a0.Body.length:Int)) (cM.mk 0 false)) a0).bind fun af=>some af.2
def HA (a0:bJ):Option Bool:=
 (jX a0.Kind 0 5).bind fun af=>some (((af&&(((a0.Kind==4)||(a0.Kind==5))||(a0.Number==0)))&&((a0.Kind==1)||(a0.Name==([]:List UInt8))))&&((((a0.Kind==1)||(a0.Kind==3))||(a0.Kind==5))||((a0.cO.length:Int)==0)))
def q4 (a0:List UInt8):Option Bool:=
 (zo a0).bind fun af=>some (af&&(!(a0==([116,97,117]:List UInt8))))
def sc (a0:Int) (R:Int):Option Bool:=
 (jX a0 0 (IntKind.i64.wrap (R-1))).bind fun af=>some af
def HB (a0:bJ) (R:List bj):Option Bool:=
 cond (a0.Kind==1) (some (((a0.cO.length:Int)==0)||((!(a0.Name==([116,97,117]:List UInt8)))&&(decide ((a0.cO.length:Int)≤2))))) (cond (a0.Kind==3) (some ((a0.cO.length:Int)==1)) (cond (a0.Kind==5) ((bF R a0.Number).bind fun af=>some ((a0.cO.length:Int)==af.dt)) (some true)))
def zr (a0:Int):Option Bool:=
 (jX a0 0 63).bind fun af=>some af
def Da (a0:b7) (R:Int):Option Bool:=
 cond (a0.Kind==0) ((zr a0.Value).bind fun af=>some af) (cond (a0.Kind==1) ((jX a0.Value 0 (IntKind.i64.wrap (R-1))).bind fun ak=>some ak) (cond (a0.Kind==2) ((jX a0.Value 0 8).bind fun aV=>some aV) (cond (a0.Kind==3) (some (a0.Value==0)) (some false))))
def HC (a0:b7):Option Int:=
 cond (a0.Kind==2) (some 2) (cond (a0.Kind==3) (some 1) (some 0))
def Db (kn:Int→Int→Option Bool) (a0:List b7) (R:Int) (hF:Int) (nV:Int):Option Bool:=
 cond (decide (nV<(a0.length:Int))) ((bF a0 nV).bind fun bm=>cond (hF==0) (some false) ((Da bm R).bind fun bh=>cond (!bh) (some false) ((HC bm).bind fun bM=>kn (IntKind.i64.wrap (hF+(IntKind.i64.wrap (bM-1)))) (IntKind.i64.wrap (nV+1))))) (some (hF==0))
def tV (a0:List b7) (R:Int):Nat→Int→Int→Option Bool
 |0,_,_=>none
 |n+1,hF,nV=>Db (tV a0 R n) a0 R hF nV
def Dc (a0:List b7) (R:Int) (a2:Int):Option Bool:=
 (jX R 0 29).bind fun af=>cond (!af) (some false) ((jX a2 1 60).bind fun ak=>cond (!ak) (some false) ((jX (a0.length:Int) 1 a2).bind fun aV=>cond (!aV) (some false) (lim fun n=>tV a0 R n 1 0)))
def HD (a0:List b7) (R:cM):Option Bool:=
 (Dc a0 R.scope 15).bind fun af=>some (!af)
def Dd (dr:Int→Option Int) (a0:List (List b7)) (R:cM) (cY:Int):Option Int:=
 cond (decide (cY<(a0.length:Int))) ((bF a0 cY).bind fun af=>(HD af R).bind fun ak=>cond ak (some cY) (dr (IntKind.i64.wrap (cY+1)))) (some (-1))
def wI (a0:List (List b7)) (R:cM):Nat→Int→Option Int
 |0,_=>none
 |n+1,cY=>Dd (wI a0 R n) a0 R cY
def HE (a0:List (List b7)) (R:cM):Option Int:=
 lim fun n=>wI a0 R n 0
def De (a0:List (List b7)) (R:cM):Option Bool:=
 (HE a0 R).bind fun af=>some (decide (0≤af))
def tW (a0:bJ) (R:List bj) (a2:cM) (zs:Bool):Option Int:=
 cond zs (some 4) ((HB a0 R).bind fun ak=>cond (!ak) (some 5) (cond ((a0.Kind==5)&&(!a2.behind)) (some 6) (cond ((a0.Kind==4)&&(decide (6≤a2.scope))) (some 7) ((De a0.cO a2).bind fun aV=>cond aV (some 8) (some 0)))))
def zt (a0:bJ) (R:List bj) (a2:cM) (zu:Bool):Option Int:=
 cond zu (some 3) (cond (a0.Kind==4) ((jX a0.Number 1 7).bind fun bm=>cond (!bm) (tW a0 R a2 true) (cond (a0.Kind==5) ((sc a0.Number (R.length:Int)).bind fun bh=>tW a0 R a2 (!bh)) (tW a0 R a2 false))) (cond (a0.Kind==5) ((sc a0.Number (R.length:Int)).bind fun bM=>tW a0 R a2 (!bM)) (tW a0 R a2 false)))
def zv (a0:bJ) (R:List bj) (a2:cM):Option Int:=
 (HA a0).bind fun af=>cond (!af) (some 2) (cond (a0.Kind==1) (cond (!(a0.Name==([116,97,117]:List UInt8))) ((q4 a0.Name).bind fun cQ=>zt a0 R a2 (!cQ)) (zt a0 R a2 false)) (zt a0 R a2 false))
def zw (kn:Int→Option (Int×Int)) (a0:List bj) (R:bj) (aV:(List cM)) (lS:Int):Option (Int×Int):=
 cond (decide (lS<(R.Body.length:Int))) ((bF R.Body lS).bind fun bm=>(bF aV lS).bind fun bh=>(zv bm a0 bh).bind fun bM=>cond (bM !=0) (some (lS,bM)) (kn (IntKind.i64.wrap (lS+1)))) (some (0,0))
def sd (a0:List bj) (R:bj) (aV:(List cM)):Nat→Int→Option (Int×Int)
 |0,_=>none
 |n+1,lS=>zw (sd a0 R aV n) a0 R aV lS
def zx (a0:List bj) (R:bj):Option (Int×Int):=
 (jX (R.Body.length:Int) 1 20).bind fun af=>cond (!af) (some (0,1)) ((C7 R 0).bind fun ak=>cond (ak !=(R.Body.length:Int)) (some (0,1)) ((wH R).bind fun aV=>lim fun n=>sd a0 R aV n 0))
def Df (fM:Int→Option Bool) (a0:List bj) (mM:Int):Option Bool:=
 cond (decide (mM<(a0.length:Int))) ((bF a0 mM).bind fun aV=>(zo aV.Name).bind fun bm=>cond (!bm) (some false) ((lA a0 0 mM).bind fun bh=>(C5 bh aV.Name).bind fun bM=>cond (decide (0≤bM)) (some false) ((zx a0 aV).bind fun cQ=>cond (cQ.2 !=0) (some false) (fM (IntKind.i64.wrap (mM+1)))))) (some true)
def tX (a0:List bj):Nat→Int→Option Bool
 |0,_=>none
 |n+1,mM=>Df (tX a0 n) a0 mM
def Dg (a0:List bj):Option Bool:=
 (jX (a0.length:Int) 1 4).bind fun af=>cond (!af) (some false) ((C3 a0).bind fun ak=>cond (!ak) (some false) (lim fun n=>tX a0 n 0))
def HF (a0:Int):Option Bool:=
 (zr a0).bind fun af=>some (!af)
def Dh (dr:Int→Option Int) (a0:List Int) (cY:Int):Option Int:=
 cond (decide (cY<(a0.length:Int))) ((bF a0 cY).bind fun af=>(HF af).bind fun ak=>cond ak (some cY) (dr (IntKind.i64.wrap (cY+1)))) (some (-1))
def wJ (a0:List Int):Nat→Int→Option Int
 |0,_=>none
 |n+1,cY=>Dh (wJ a0 n) a0 cY
def HG (a0:List Int):Option Int:=
 lim fun n=>wJ a0 n 0
def HH (a0:List Int):Option Bool:=
 (HG a0).bind fun af=>some (decide (0≤af))
def zy (a0:List Int):Option Bool:=
 (HH a0).bind fun af=>some (!af)
def Di (a0:List bj) (R:dk):Option Bool:=
 (sc R.cm (a0.length:Int)).bind fun af=>cond af ((bF a0 R.cm).bind fun ak=>cond ((R.bS.length:Int)==ak.dt) ((zy R.bS).bind fun aV=>some aV) (some false)) (some false)
def HI (a0:dk) (R:ea):Option Bool:=
 (Di R.ew a0).bind fun af=>some (!af)
def Dj (dr:Int→Option Int) (a0:List dk) (R:ea) (cY:Int):Option Int:=
 cond (decide (cY<(a0.length:Int))) ((bF a0 cY).bind fun af=>(HI af R).bind fun ak=>cond ak (some cY) (dr (IntKind.i64.wrap (cY+1)))) (some (-1))
def wK (a0:List dk) (R:ea):Nat→Int→Option Int
 |0,_=>none
 |n+1,cY=>Dj (wK a0 R n) a0 R cY
def HJ (a0:List dk) (R:ea):Option Int:=
 lim fun n=>wK a0 R n 0
def Dk (a0:List dk) (R:ea):Option Bool:=
 (HJ a0 R).bind fun af=>some (decide (0≤af))
def cmp_isNaN_string (a0:List UInt8):Option Bool:=
 some false
def Dl (a0:List UInt8) (R:List UInt8):Option Int:=
 (cmp_isNaN_string a0).bind fun af=>(cmp_isNaN_string R).bind fun ak=>cond af (cond ak (some 0) (some (-1))) (cond ak (some 1) (cond (Op.bytesLess a0 R) (some (-1)) (cond (!(Op.bytesLess a0 R||a0==R)) (some 1) (some 0))))
def HK (dr:Int→Option Int) (a0:List (List UInt8)) (R:List (List UInt8)) (iJ:Int):Option Int:=
 cond (decide (iJ<(a0.length:Int))) ((bF a0 iJ).bind fun af=>cond (decide ((R.length:Int)≤iJ)) (some 1) ((bF R iJ).bind fun ak=>(Dl af ak).bind fun aV=>cond (aV !=0) (some aV) (dr (IntKind.i64.wrap (iJ+1))))) (cond (decide ((a0.length:Int)<(R.length:Int))) (some (-1)) (some 0))
def zz (a0:List (List UInt8)) (R:List (List UInt8)):Nat→Int→Option Int
 |0,_=>none
 |n+1,iJ=>HK (zz a0 R n) a0 R iJ
def Dm (a0:List (List UInt8)) (R:List (List UInt8)):Option Int:=
 lim fun n=>zz a0 R n 0
def Dn (a0:cb) (R:cb):Option Int:=
 (Dm [a0.Left,a0.cp] [R.Left,R.cp]).bind fun af=>some af
def HL (a0:cb) (R:cb):Option Bool:=
 some ((a0.Left==R.Result)||(a0.cp==R.Result))
def Dp (dr:Int→Option Int) (a0:List cb) (R:cb) (cY:Int):Option Int:=
 cond (decide (cY<(a0.length:Int))) ((bF a0 cY).bind fun af=>(HL af R).bind fun ak=>cond ak (some cY) (dr (IntKind.i64.wrap (cY+1)))) (some (-1))
def wL (a0:List cb) (R:cb):Nat→Int→Option Int
 |0,_=>none
 |n+1,cY=>Dp (wL a0 R n) a0 R cY
def HM (a0:List cb) (R:cb):Option Int:=
 lim fun n=>wL a0 R n 0
def zA (a0:List cb) (R:cb):Option Bool:=
 (HM a0 R).bind fun af=>some (decide (0≤af))
def Dq (dr:Int→Option Bool) (a0:List cb) (eP:Int):Option Bool:=
 cond (decide (eP<(a0.length:Int))) ((bF a0 eP).bind fun af=>(q4 af.Left).bind fun bh=>cond (!bh) (some false) ((q4 af.cp).bind fun bM=>cond (!bM) (some false) ((q4 af.Result).bind fun cQ=>cond (!cQ) (some false) (cond (!(Op.bytesLess af.Left af.cp||af.Left==af.cp)) (some false) (cond (decide (0<eP)) ((bF a0 (IntKind.i64.wrap (eP-1))).bind fun eb=>(Dn eb af).bind fun dh=>cond (decide (0≤dh)) (some false) ((zA a0 af).bind fun c_=>cond c_ (some false) (dr (IntKind.i64.wrap (eP+1))))) ((zA a0 af).bind fun eO=>cond eO (some false) (dr (IntKind.i64.wrap (eP+1))))))))) (some (decide ((a0.length:Int)≤6)))
def tY (a0:List cb):Nat→Int→Option Bool
 |0,_=>none
 |n+1,eP=>Dq (tY a0 n) a0 eP
def Dr (a0:List cb):Option Bool:=
 lim fun n=>tY a0 n 0
def Ds (dr:Int→Option Bool) (a0:List (List UInt8)) (eP:Int):Option Bool:=
 cond (decide (eP<(a0.length:Int))) ((bF a0 eP).bind fun af=>(q4 af).bind fun ak=>cond (!ak) (some false) (cond (decide (0<eP)) ((bF a0 (IntKind.i64.wrap (eP-1))).bind fun aV=>cond (Op.bytesLess af aV||af==aV) (some false) (dr (IntKind.i64.wrap (eP+1)))) (dr (IntKind.i64.wrap (eP+1))))) (some (decide ((a0.length:Int)≤12)))
def tZ (a0:List (List UInt8)):Nat→Int→Option Bool
 |0,_=>none
 |n+1,eP=>Ds (tZ a0 n) a0 eP
def zB (a0:List (List UInt8)):Option Bool:=
 lim fun n=>tZ a0 n 0
def Dt (a0:ea):Option Int:=
 (Dg a0.ew).bind fun af=>cond (!af) (some 1) ((jX (a0.c8.length:Int) 1 3).bind fun ak=>cond (!ak) (some 2) ((Dk a0.c8 a0).bind fun aV=>cond aV (some 2) ((Dr a0.hE).bind fun bm=>cond (!bm) (some 3) ((zB a0.hv).bind fun bh=>cond (!bh) (some 4) ((zB a0.hx).bind fun bM=>cond (!bM) (some 5) (some 0))))))
def Du (a0:ea):Option Bool:=
 (Dt a0).bind fun af=>some (af==0)
def zC (a0:List bj) (R:aW):Option Bool:=
 (sc R.cm (a0.length:Int)).bind fun af=>cond (!af) (some false) ((bF a0 R.cm).bind fun ak=>(sc R.Part (ak.Body.length:Int)).bind fun aV=>cond (!aV) (some false) ((bF ak.Body R.Part).bind fun bm=>cond (bm.Kind !=5) ((wH ak).bind fun bh=>(bF bh R.Part).bind fun bM=>cond ((R.bS.length:Int)==bM.scope) ((zy R.bS).bind fun cQ=>some cQ) (some false)) (some false)))
def HN (a0:aW) (R:ea):Option Bool:=
 (zC R.ew a0).bind fun af=>some (!af)
def Dv (dr:Int→Option Int) (a0:List aW) (R:ea) (cY:Int):Option Int:=
 cond (decide (cY<(a0.length:Int))) ((bF a0 cY).bind fun af=>(HN af R).bind fun ak=>cond ak (some cY) (dr (IntKind.i64.wrap (cY+1)))) (some (-1))
def wM (a0:List aW) (R:ea):Nat→Int→Option Int
 |0,_=>none
 |n+1,cY=>Dv (wM a0 R n) a0 R cY
def HO (a0:List aW) (R:ea):Option Int:=
 lim fun n=>wM a0 R n 0
def Dw (a0:List aW) (R:ea):Option Bool:=
 (HO a0 R).bind fun af=>some (decide (0≤af))
def HP (a0:ea) (R:List aW):Option Bool:=
 (Du a0).bind fun ak=>cond ak (cond ((R.length:Int)==(a0.c8.length:Int)) ((Dw R a0).bind fun aV=>some (!aV)) (some false)) (some false)
def Dx (a0:List Int):Option ((List Int)):=
 cond a0.isEmpty (both (some []) ((room 8 (a0.length)).bind fun _=>some a0)) ((room 8 (a0.length)).bind fun _=>some a0)
def HQ (a0:aW):Option aW:=
 (Dx a0.bS).bind fun af=>some (aW.mk a0.cm a0.Part af)
def Dy (fV:(List aW)→Int→Option ((List aW))) (a0:List aW) (bG:List aW) (iZ:Int):Option ((List aW)):=
 cond (decide (iZ<(a0.length:Int))) ((bF a0 iZ).bind fun af=>(HQ af).bind fun ak=>(room 40 (bG.length+1)).bind fun _=>fV (bG++[ak]) (IntKind.i64.wrap (iZ+1))) (some bG)
def t_ (a0:List aW):Nat→(List aW)→Int→Option ((List aW))
 |0,_,_=>none
 |n+1,bG,iZ=>Dy (t_ a0 n) a0 bG iZ
def Dz (a0:List aW):Option ((List aW)):=
 lim fun n=>t_ a0 n [] 0
def DA (a0:Int):Option Bool:=
 some (a0 !=a0)
def wN (a0:Int) (R:Int):Option Int:=
 (DA a0).bind fun af=>(DA R).bind fun ak=>cond af (cond ak (some 0) (some (-1))) (cond ak (some 1) (cond (decide (a0<R)) (some (-1)) (cond (decide (R<a0)) (some 1) (some 0))))
def DB (dr:Int→Option Int) (a0:List Int) (R:List Int) (iJ:Int):Option Int:=
 cond (decide (iJ<(a0.length:Int))) ((bF a0 iJ).bind fun af=>cond (decide ((R.length:Int)≤iJ)) (some 1) ((bF R iJ).bind fun ak=>(wN af ak).bind fun aV=>cond (aV !=0) (some aV) (dr (IntKind.i64.wrap (iJ+1))))) (cond (decide ((a0.length:Int)<(R.length:Int))) (some (-1)) (some 0))
def ua (a0:List Int) (R:List Int):Nat→Int→Option Int
 |0,_=>none
 |n+1,iJ=>DB (ua a0 R n) a0 R iJ
def DC (a0:List Int) (R:List Int):Option Int:=
 lim fun n=>ua a0 R n 0
def HR (fV:Int→Option Int) (a0:List Int) (iZ:Int):Option Int:=
 cond (decide (iZ<(a0.length:Int))) ((bF a0 iZ).bind fun af=>cond (af !=0) (some af) (fV (IntKind.i64.wrap (iZ+1)))) (some 0)
def wO (a0:List Int):Nat→Int→Option Int
 |0,_=>none
 |n+1,iZ=>HR (wO a0 n) a0 iZ
def HS (a0:List Int):Option Int:=
 lim fun n=>wO a0 n 0
def zD (a0:aW) (R:aW):Option Int:=
 (wN a0.cm R.cm).bind fun af=>(wN a0.Part R.Part).bind fun ak=>(DC a0.bS R.bS).bind fun aV=>(HS [af,ak,aV]).bind fun bm=>some bm
def zE (x y:aW):Int:=(zD x y).getD 0
def wP (a0:List aW):Option (List aW):=if a0≠[]∧a0.length<4611686018427387904∧(a0.all fun p=>decide (p.bS.length≤1099511627776))=true then some (a0.mergeSort fun x y=>decide (zE x y≤0))else none
def DD (a0:List aW):Option ((List aW)):=
 (Dz a0).bind fun af=>(wP af).bind fun ak=>some ak
def zF (a0:ea) (R:List aW):Option ((List aW)×Int):=
 (HP a0 R).bind fun af=>cond (!af) (some ([],1)) ((DD R).bind fun ak=>some (ak,0))
def NA (fM:Int→Option Bool) (a0:List Int) (R:List Int) (bY:Int):Option Bool:=
 cond (decide (bY<(a0.length:Int))) ((bF a0 bY).bind fun af=>(bF R bY).bind fun ak=>cond (af !=ak) (some false) (fM (IntKind.i64.wrap (bY+1)))) (some true)
def DE (a0:List Int) (R:List Int):Nat→Int→Option Bool
 |0,_=>none
 |n+1,bY=>NA (DE a0 R n) a0 R bY
def zG (a0:List Int) (R:List Int):Option Bool:=
 cond ((a0.length:Int) !=(R.length:Int)) (some false) (lim fun n=>DE a0 R n 0)
def zH (a0:aW) (R:aW):Option Bool:=
 cond (a0.cm !=R.cm) (some false) (cond (a0.Part !=R.Part) (some false) ((zG a0.bS R.bS).bind fun af=>cond (!af) (some false) (some true)))
def NB (fM:Int→Option Bool) (a0:List aW) (R:List aW) (bY:Int):Option Bool:=
 cond (decide (bY<(a0.length:Int))) ((bF a0 bY).bind fun af=>(bF R bY).bind fun ak=>(zH af ak).bind fun aV=>cond (!aV) (some false) (fM (IntKind.i64.wrap (bY+1)))) (some true)
def DF (a0:List aW) (R:List aW):Nat→Int→Option Bool
 |0,_=>none
 |n+1,bY=>NB (DF a0 R n) a0 R bY
def ub (a0:List aW) (R:List aW):Option Bool:=
 cond ((a0.length:Int) !=(R.length:Int)) (some false) (lim fun n=>DF a0 R n 0)
def zI (a0:b7) (R:b7):Option Bool:=
 cond (a0.Kind !=R.Kind) (some false) (cond (a0.Value !=R.Value) (some false) (some true))
def NC (fM:Int→Option Bool) (a0:List b7) (R:List b7) (bY:Int):Option Bool:=
 cond (decide (bY<(a0.length:Int))) ((bF a0 bY).bind fun af=>(bF R bY).bind fun ak=>(zI af ak).bind fun aV=>cond (!aV) (some false) (fM (IntKind.i64.wrap (bY+1)))) (some true)
def DG (a0:List b7) (R:List b7):Nat→Int→Option Bool
 |0,_=>none
 |n+1,bY=>NC (DG a0 R n) a0 R bY
def zJ (a0:List b7) (R:List b7):Option Bool:=
 cond ((a0.length:Int) !=(R.length:Int)) (some false) (lim fun n=>DG a0 R n 0)
def ND (fM:Int→Option Bool) (a0:List (List b7)) (R:List (List b7)) (bY:Int):Option Bool:=
 cond (decide (bY<(a0.length:Int))) ((bF a0 bY).bind fun af=>(bF R bY).bind fun ak=>(zJ af ak).bind fun aV=>cond (!aV) (some false) (fM (IntKind.i64.wrap (bY+1)))) (some true)
def DH (a0:List (List b7)) (R:List (List b7)):Nat→Int→Option Bool
 |0,_=>none
 |n+1,bY=>ND (DH a0 R n) a0 R bY
def DI (a0:List (List b7)) (R:List (List b7)):Option Bool:=
 cond ((a0.length:Int) !=(R.length:Int)) (some false) (lim fun n=>DH a0 R n 0)
def zK (a0:bJ) (R:bJ):Option Bool:=
 cond (a0.Kind !=R.Kind) (some false) (cond (a0.Number !=R.Number) (some false) (cond (!(a0.Name==R.Name)) (some false) ((DI a0.cO R.cO).bind fun af=>cond (!af) (some false) (some true))))
def NF (fM:Int→Option Bool) (a0:List bJ) (R:List bJ) (bY:Int):Option Bool:=
 cond (decide (bY<(a0.length:Int))) ((bF a0 bY).bind fun af=>(bF R bY).bind fun ak=>(zK af ak).bind fun aV=>cond (!aV) (some false) (fM (IntKind.i64.wrap (bY+1)))) (some true)
def DJ (a0:List bJ) (R:List bJ):Nat→Int→Option Bool
 |0,_=>none
 |n+1,bY=>NF (DJ a0 R n) a0 R bY
def DK (a0:List bJ) (R:List bJ):Option Bool:=
 cond ((a0.length:Int) !=(R.length:Int)) (some false) (lim fun n=>DJ a0 R n 0)
def zL (a0:bj) (R:bj):Option Bool:=
 cond (!(a0.Name==R.Name)) (some false) (cond (a0.dt !=R.dt) (some false) ((DK a0.Body R.Body).bind fun af=>cond (!af) (some false) (some true)))
def NG (fM:Int→Option Bool) (a0:List bj) (R:List bj) (bY:Int):Option Bool:=
 cond (decide (bY<(a0.length:Int))) ((bF a0 bY).bind fun af=>(bF R bY).bind fun ak=>(zL af ak).bind fun aV=>cond (!aV) (some false) (fM (IntKind.i64.wrap (bY+1)))) (some true)
def DL (a0:List bj) (R:List bj):Nat→Int→Option Bool
 |0,_=>none
 |n+1,bY=>NG (DL a0 R n) a0 R bY
def DM (a0:List bj) (R:List bj):Option Bool:=
 cond ((a0.length:Int) !=(R.length:Int)) (some false) (lim fun n=>DL a0 R n 0)
def zM (a0:dk) (R:dk):Option Bool:=
 cond (a0.cm !=R.cm) (some false) ((zG a0.bS R.bS).bind fun af=>cond (!af) (some false) (some true))
def NH (fM:Int→Option Bool) (a0:List dk) (R:List dk) (bY:Int):Option Bool:=
 cond (decide (bY<(a0.length:Int))) ((bF a0 bY).bind fun af=>(bF R bY).bind fun ak=>(zM af ak).bind fun aV=>cond (!aV) (some false) (fM (IntKind.i64.wrap (bY+1)))) (some true)
def DN (a0:List dk) (R:List dk):Nat→Int→Option Bool
 |0,_=>none
 |n+1,bY=>NH (DN a0 R n) a0 R bY
def DO (a0:List dk) (R:List dk):Option Bool:=
 cond ((a0.length:Int) !=(R.length:Int)) (some false) (lim fun n=>DN a0 R n 0)
def zN (a0:cb) (R:cb):Option Bool:=
 cond (!(a0.Left==R.Left)) (some false) (cond (!(a0.cp==R.cp)) (some false) (cond (!(a0.Result==R.Result)) (some false) (some true)))
def NI (fM:Int→Option Bool) (a0:List cb) (R:List cb) (bY:Int):Option Bool:=
 cond (decide (bY<(a0.length:Int))) ((bF a0 bY).bind fun af=>(bF R bY).bind fun ak=>(zN af ak).bind fun aV=>cond (!aV) (some false) (fM (IntKind.i64.wrap (bY+1)))) (some true)
def DP (a0:List cb) (R:List cb):Nat→Int→Option Bool
 |0,_=>none
 |n+1,bY=>NI (DP a0 R n) a0 R bY
def DQ (a0:List cb) (R:List cb):Option Bool:=
 cond ((a0.length:Int) !=(R.length:Int)) (some false) (lim fun n=>DP a0 R n 0)
def NJ (fM:Int→Option Bool) (a0:List (List UInt8)) (R:List (List UInt8)) (bY:Int):Option Bool:=
 cond (decide (bY<(a0.length:Int))) ((bF a0 bY).bind fun af=>(bF R bY).bind fun ak=>cond (!(af==ak)) (some false) (fM (IntKind.i64.wrap (bY+1)))) (some true)
def DR (a0:List (List UInt8)) (R:List (List UInt8)):Nat→Int→Option Bool
 |0,_=>none
 |n+1,bY=>NJ (DR a0 R n) a0 R bY
def zO (a0:List (List UInt8)) (R:List (List UInt8)):Option Bool:=
 cond ((a0.length:Int) !=(R.length:Int)) (some false) (lim fun n=>DR a0 R n 0)
def zP (a0:ea) (R:ea):Option Bool:=
 (DM a0.ew R.ew).bind fun af=>cond (!af) (some false) ((DO a0.c8 R.c8).bind fun ak=>cond (!ak) (some false) ((DQ a0.hE R.hE).bind fun aV=>cond (!aV) (some false) ((zO a0.hv R.hv).bind fun bm=>cond (!bm) (some false) ((zO a0.hx R.hx).bind fun bh=>cond (!bh) (some false) (some true)))))
def zQ (fM:Int→(List UInt8)→Option ((List UInt8))) (kp:Int) (c9:List UInt8):Option ((List UInt8)):=
 cond (decide (0<kp)) ((pP (1+c9.length)).bind fun _=>fM (IntKind.i64.wrap (Int.tdiv kp 10)) ([(qC (IntKind.i64.wrap (48+(Int.tmod kp 10))))]++c9)) ((pP (1+c9.length)).bind fun _=>some (([109]:List UInt8)++c9))
def se:Nat→Int→(List UInt8)→Option ((List UInt8))
 |0,_,_=>none
 |n+1,kp,c9=>zQ (se n) kp c9
def q5 (a0:Int):Option ((List UInt8)):=
 cond (decide (a0≤0)) (some ([109,48]:List UInt8)) (lim fun n=>se n a0 ([]:List UInt8))
def DS (dr:(List b7)→Int→Int→Option (Int×(List b7))) (bB:List b7) (aU:Int) (aF:Int):Option (Int×(List b7)):=
 cond (decide (aF<(bB.length:Int))) ((bF bB aF).bind fun af=>(bF (List.set bB (Int.toNat aF) (b7.mk aU af.Value)) aF).bind fun ak=>dr (List.set (List.set bB (Int.toNat aF) (b7.mk aU af.Value)) (Int.toNat aF) (b7.mk ak.Kind (IntKind.i64.wrap (aU+1)))) (IntKind.i64.wrap ((IntKind.i64.wrap (aU+1))+1)) (IntKind.i64.wrap (aF+1))) (some (aU,bB))
def uc:Nat→(List b7)→Int→Int→Option (Int×(List b7))
 |0,_,_,_=>none
 |n+1,bB,aU,aF=>DS (uc n) bB aU aF
def DT (a0:List b7) (R:Int):Option (Int×(List b7)):=
 lim fun n=>uc n a0 R 0
def DU (dr:(List (List b7))→Int→Int→Option (Int×(List (List b7)))) (bB:List (List b7)) (aU:Int) (aF:Int):Option (Int×(List (List b7))):=
 cond (decide (aF<(bB.length:Int))) ((bF bB aF).bind fun af=>(DT af aU).bind fun ak=>dr (List.set bB (Int.toNat aF) ak.2) ak.1 (IntKind.i64.wrap (aF+1))) (some (aU,bB))
def ud:Nat→(List (List b7))→Int→Int→Option (Int×(List (List b7)))
 |0,_,_,_=>none
 |n+1,bB,aU,aF=>DU (ud n) bB aU aF
def DV (a0:List (List b7)) (R:Int):Option (Int×(List (List b7))):=
 lim fun n=>ud n a0 R 0
def DW (dr:(List bJ)→Int→Int→Option (Int×(List bJ))) (bB:List bJ) (aU:Int) (aF:Int):Option (Int×(List bJ)):=
 cond (decide (aF<(bB.length:Int))) ((bF bB aF).bind fun af=>(bF (List.set bB (Int.toNat aF) (bJ.mk aU af.Number af.Name af.cO)) aF).bind fun ak=>(q5 (IntKind.i64.wrap ((IntKind.i64.wrap (aU+1))+1))).bind fun aV=>(bF (List.set (List.set bB (Int.toNat aF) (bJ.mk aU af.Number af.Name af.cO)) (Int.toNat aF) (bJ.mk ak.Kind (IntKind.i64.wrap (aU+1)) ak.Name ak.cO)) aF).bind fun bm=>(bF (List.set (List.set (List.set bB (Int.toNat aF) (bJ.mk aU af.Number af.Name af.cO)) (Int.toNat aF) (bJ.mk ak.Kind (IntKind.i64.wrap (aU+1)) ak.Name ak.cO)) (Int.toNat aF) (bJ.mk bm.Kind bm.Number aV bm.cO)) aF).bind fun bh=>(DV bh.cO (IntKind.i64.wrap ((IntKind.i64.wrap ((IntKind.i64.wrap (aU+1))+1))+1))).bind fun bM=>dr (List.set (List.set (List.set (List.set bB (Int.toNat aF) (bJ.mk aU af.Number af.Name af.cO)) (Int.toNat aF) (bJ.mk ak.Kind (IntKind.i64.wrap (aU+1)) ak.Name ak.cO)) (Int.toNat aF) (bJ.mk bm.Kind bm.Number aV bm.cO)) (Int.toNat aF) (bJ.mk bh.Kind bh.Number bh.Name bM.2)) bM.1 (IntKind.i64.wrap (aF+1))) (some (aU,bB))
def ue:Nat→(List bJ)→Int→Int→Option (Int×(List bJ))
 |0,_,_,_=>none
 |n+1,bB,aU,aF=>DW (ue n) bB aU aF
def DX (a0:List bJ) (R:Int):Option (Int×(List bJ)):=
 lim fun n=>ue n a0 R 0
def DY (dr:(List bj)→Int→Int→Option (Int×(List bj))) (bB:List bj) (aU:Int) (aF:Int):Option (Int×(List bj)):=
 cond (decide (aF<(bB.length:Int))) ((q5 aU).bind fun af=>(bF bB aF).bind fun ak=>(bF (List.set bB (Int.toNat aF) (bj.mk af ak.dt ak.Body)) aF).bind fun aV=>(bF (List.set (List.set bB (Int.toNat aF) (bj.mk af ak.dt ak.Body)) (Int.toNat aF) (bj.mk aV.Name (IntKind.i64.wrap (aU+1)) aV.Body)) aF).bind fun bm=>(DX bm.Body (IntKind.i64.wrap ((IntKind.i64.wrap (aU+1))+1))).bind fun bh=>dr (List.set (List.set (List.set bB (Int.toNat aF) (bj.mk af ak.dt ak.Body)) (Int.toNat aF) (bj.mk aV.Name (IntKind.i64.wrap (aU+1)) aV.Body)) (Int.toNat aF) (bj.mk bm.Name bm.dt bh.2)) bh.1 (IntKind.i64.wrap (aF+1))) (some (aU,bB))
def uf:Nat→(List bj)→Int→Int→Option (Int×(List bj))
 |0,_,_,_=>none
 |n+1,bB,aU,aF=>DY (uf n) bB aU aF
def DZ (a0:List bj) (R:Int):Option (Int×(List bj)):=
 lim fun n=>uf n a0 R 0
def D0 (dr:(List Int)→Int→Int→Option (Int×(List Int))) (bB:List Int) (aU:Int) (aF:Int):Option (Int×(List Int)):=
 cond (decide (aF<(bB.length:Int))) ((bF bB aF).bind fun af=>dr (List.set bB (Int.toNat aF) aU) (IntKind.i64.wrap (aU+1)) (IntKind.i64.wrap (aF+1))) (some (aU,bB))
def ug:Nat→(List Int)→Int→Int→Option (Int×(List Int))
 |0,_,_,_=>none
 |n+1,bB,aU,aF=>D0 (ug n) bB aU aF
def zR (a0:List Int) (R:Int):Option (Int×(List Int)):=
 lim fun n=>ug n a0 R 0
def D1 (dr:(List dk)→Int→Int→Option (Int×(List dk))) (bB:List dk) (aU:Int) (aF:Int):Option (Int×(List dk)):=
 cond (decide (aF<(bB.length:Int))) ((bF bB aF).bind fun af=>(bF (List.set bB (Int.toNat aF) (dk.mk aU af.bS)) aF).bind fun ak=>(zR ak.bS (IntKind.i64.wrap (aU+1))).bind fun aV=>dr (List.set (List.set bB (Int.toNat aF) (dk.mk aU af.bS)) (Int.toNat aF) (dk.mk ak.cm aV.2)) aV.1 (IntKind.i64.wrap (aF+1))) (some (aU,bB))
def uh:Nat→(List dk)→Int→Int→Option (Int×(List dk))
 |0,_,_,_=>none
 |n+1,bB,aU,aF=>D1 (uh n) bB aU aF
def D2 (a0:List dk) (R:Int):Option (Int×(List dk)):=
 lim fun n=>uh n a0 R 0
def D3 (dr:(List cb)→Int→Int→Option (Int×(List cb))) (bB:List cb) (aU:Int) (aF:Int):Option (Int×(List cb)):=
 cond (decide (aF<(bB.length:Int))) ((q5 aU).bind fun af=>(bF bB aF).bind fun ak=>(q5 (IntKind.i64.wrap (aU+1))).bind fun aV=>(bF (List.set bB (Int.toNat aF) (cb.mk af ak.cp ak.Result)) aF).bind fun bm=>(q5 (IntKind.i64.wrap ((IntKind.i64.wrap (aU+1))+1))).bind fun bh=>(bF (List.set (List.set bB (Int.toNat aF) (cb.mk af ak.cp ak.Result)) (Int.toNat aF) (cb.mk bm.Left aV bm.Result)) aF).bind fun bM=>dr (List.set (List.set (List.set bB (Int.toNat aF) (cb.mk af ak.cp ak.Result)) (Int.toNat aF) (cb.mk bm.Left aV bm.Result)) (Int.toNat aF) (cb.mk bM.Left bM.cp bh)) (IntKind.i64.wrap ((IntKind.i64.wrap ((IntKind.i64.wrap (aU+1))+1))+1)) (IntKind.i64.wrap (aF+1))) (some (aU,bB))
def ui:Nat→(List cb)→Int→Int→Option (Int×(List cb))
 |0,_,_,_=>none
 |n+1,bB,aU,aF=>D3 (ui n) bB aU aF
def D4 (a0:List cb) (R:Int):Option (Int×(List cb)):=
 lim fun n=>ui n a0 R 0
def D5 (dr:(List (List UInt8))→Int→Int→Option (Int×(List (List UInt8)))) (bB:List (List UInt8)) (aU:Int) (aF:Int):Option (Int×(List (List UInt8))):=
 cond (decide (aF<(bB.length:Int))) ((q5 aU).bind fun af=>(bF bB aF).bind fun ak=>dr (List.set bB (Int.toNat aF) af) (IntKind.i64.wrap (aU+1)) (IntKind.i64.wrap (aF+1))) (some (aU,bB))
def uj:Nat→(List (List UInt8))→Int→Int→Option (Int×(List (List UInt8)))
 |0,_,_,_=>none
 |n+1,bB,aU,aF=>D5 (uj n) bB aU aF
def zS (a0:List (List UInt8)) (R:Int):Option (Int×(List (List UInt8))):=
 lim fun n=>uj n a0 R 0
def D6 (wQ:List bj) (uk:List dk) (sf:List cb) (q6:List (List UInt8)) (qi:List (List UInt8)) (R:Int):Option (Int×(List bj)×(List dk)×(List cb)×(List (List UInt8))×(List (List UInt8))):=
 (DZ wQ R).bind fun af=>(D2 uk af.1).bind fun ak=>(D4 sf ak.1).bind fun aV=>(zS q6 aV.1).bind fun bm=>(zS qi bm.1).bind fun bh=>some (bh.1,af.2,ak.2,aV.2,bm.2,bh.2)
def D7 (dr:(List aW)→Int→Int→Option (Int×(List aW))) (bB:List aW) (aU:Int) (aF:Int):Option (Int×(List aW)):=
 cond (decide (aF<(bB.length:Int))) ((bF bB aF).bind fun af=>(bF (List.set bB (Int.toNat aF) (aW.mk aU af.Part af.bS)) aF).bind fun ak=>(bF (List.set (List.set bB (Int.toNat aF) (aW.mk aU af.Part af.bS)) (Int.toNat aF) (aW.mk ak.cm (IntKind.i64.wrap (aU+1)) ak.bS)) aF).bind fun aV=>(zR aV.bS (IntKind.i64.wrap ((IntKind.i64.wrap (aU+1))+1))).bind fun bm=>dr (List.set (List.set (List.set bB (Int.toNat aF) (aW.mk aU af.Part af.bS)) (Int.toNat aF) (aW.mk ak.cm (IntKind.i64.wrap (aU+1)) ak.bS)) (Int.toNat aF) (aW.mk aV.cm aV.Part bm.2)) bm.1 (IntKind.i64.wrap (aF+1))) (some (aU,bB))
def um:Nat→(List aW)→Int→Int→Option (Int×(List aW))
 |0,_,_,_=>none
 |n+1,bB,aU,aF=>D7 (um n) bB aU aF
def zT (a0:List aW) (R:Int):Option (Int×(List aW)):=
 lim fun n=>um n a0 R 0
def D8 (dr:Int→Int→Option Int) (a0:List Int) (aU:Int) (aF:Int):Option Int:=
 cond (decide (aF<(a0.length:Int))) ((bF a0 aF).bind fun af=>cond (af !=aU) (some (-1)) (dr (IntKind.i64.wrap (aU+1)) (IntKind.i64.wrap (aF+1)))) (some aU)
def uo (a0:List Int):Nat→Int→Int→Option Int
 |0,_,_=>none
 |n+1,aU,aF=>D8 (uo a0 n) a0 aU aF
def D9 (a0:List Int) (R:Int):Option Int:=
 lim fun n=>uo a0 n R 0
def D_ (dr:Int→Int→Option Int) (a0:List aW) (aU:Int) (aF:Int):Option Int:=
 cond (decide (aF<(a0.length:Int))) ((bF a0 aF).bind fun af=>cond (af.cm !=aU) (some (-1)) (cond (af.Part !=(IntKind.i64.wrap (aU+1))) (some (-1)) ((D9 af.bS (IntKind.i64.wrap ((IntKind.i64.wrap (aU+1))+1))).bind fun ak=>cond (decide (ak<0)) (some (-1)) (dr ak (IntKind.i64.wrap (aF+1)))))) (some aU)
def uq (a0:List aW):Nat→Int→Int→Option Int
 |0,_,_=>none
 |n+1,aU,aF=>D_ (uq a0 n) a0 aU aF
def zU (a0:List aW) (R:Int):Option Int:=
 lim fun n=>uq a0 n R 0
def HT (a0:k6) (R:List iH):Option Bool:=
 (yW a0 1048576).bind fun af=>cond (decide (af<0)) (some true) ((Ce R af).bind fun ak=>cond (decide (ak<0)) (some true) ((r6 a0).bind fun aV=>(tE R).bind fun bm=>(C1 aV bm).bind fun bh=>(r6 a0).bind fun bM=>(tE R).bind fun cQ=>(zF bM cQ).bind fun eb=>(ub eb.1 bh.1).bind fun dh=>cond ((!dh)||(eb.2 !=bh.2)) (some false) ((r6 a0).bind fun c_=>(zP bM c_).bind fun eO=>cond (!eO) (some false) ((tE R).bind fun iW=>(ub cQ iW).bind fun jm=>cond (!jm) (some false) ((D6 bM.ew bM.c8 bM.hE bM.hv bM.hx 1).bind fun hV=>(zT cQ hV.1).bind fun jO=>cond (decide (jO.1<0)) (some false) ((ub eb.1 bh.1).bind fun nn=>cond ((!nn)||(eb.2 !=bh.2)) (some false) ((zT eb.1 1).bind fun h0=>(zU h0.2 1).bind fun oN=>cond (decide (oN<0)) (some false) (cond (oN !=h0.1) (some false) ((r6 a0).bind fun ur=>(tE R).bind fun zV=>(zF ur zV).bind fun qj=>(ub qj.1 bh.1).bind fun oO=>cond ((!oO)||(qj.2 !=bh.2)) (some false) ((zU h0.2 1).bind fun Ea=>cond (decide (Ea<0)) (some false) (cond (Ea !=h0.1) (some false) (some true))))))))))))
end
end Go.eN
