/- Part of a proof that a law returns true for every input. No condition. -/
import Derived.Test.YtocllehpepigpaaGreatDoorFwA
namespace Go.gB
open Go Go.cI
set_option linter.unusedVariables false
noncomputable section
structure jh where
 er:Int
 Label:Int
 gi:Int
def xT (x:jh):Prop:=(-9223372036854775808≤x.er∧x.er≤9223372036854775807)∧(-9223372036854775808≤x.Label∧x.Label≤9223372036854775807)∧(-9223372036854775808≤x.gi∧x.gi≤9223372036854775807)
structure hS where
 eW:Int
 iL:Int
 cW:List (List UInt8)
 cB:List jh
def vt (x:hS):Prop:=(-9223372036854775808≤x.eW∧x.eW≤9223372036854775807)∧(-9223372036854775808≤x.iL∧x.iL≤9223372036854775807)∧(x.cW.length≤9223372036854775807∧∀y∈x.cW,y.length≤9223372036854775807)∧(x.cB.length≤9223372036854775807∧∀y∈x.cB,xT y)
structure hH where
 Kind:Int
 Variable:Int
 Label:List UInt8
 Not:Bool
def vu (x:hH):Prop:=(-9223372036854775808≤x.Kind∧x.Kind≤9223372036854775807)∧(-9223372036854775808≤x.Variable∧x.Variable≤9223372036854775807)∧x.Label.length≤9223372036854775807∧True
structure gQ where
 Kind:Int
 Left:Int
 hT:Int
 gz:List (List Int)
 Formula:List hH
def rG (x:gQ):Prop:=(-9223372036854775808≤x.Kind∧x.Kind≤9223372036854775807)∧(-9223372036854775808≤x.Left∧x.Left≤9223372036854775807)∧(-9223372036854775808≤x.hT∧x.hT≤9223372036854775807)∧(x.gz.length≤9223372036854775807∧∀y∈x.gz,(y.length≤9223372036854775807∧∀z∈y,(-9223372036854775808≤z∧z≤9223372036854775807)))∧(x.Formula.length≤9223372036854775807∧∀y∈x.Formula,vu y)
structure ky where
 Names:List (List UInt8)
 dB:List hS
 ji:List gQ
def xU (x:ky):Prop:=(x.Names.length≤9223372036854775807∧∀y∈x.Names,y.length≤9223372036854775807)∧(x.dB.length≤9223372036854775807∧∀y∈x.dB,vt y)∧(x.ji.length≤9223372036854775807∧∀y∈x.ji,rG y)
structure ek where
 er:Int
 Label:Int
 gi:Int
def P2 (x:ek):Prop:=(-9223372036854775808≤x.er∧x.er≤9223372036854775807)∧(-9223372036854775808≤x.Label∧x.Label≤9223372036854775807)∧(-9223372036854775808≤x.gi∧x.gi≤9223372036854775807)
structure dC where
 eW:Int
 iL:Int
 cW:List (List UInt8)
 cB:List ek
def P3 (x:dC):Prop:=(-9223372036854775808≤x.eW∧x.eW≤9223372036854775807)∧(-9223372036854775808≤x.iL∧x.iL≤9223372036854775807)∧(x.cW.length≤9223372036854775807∧∀y∈x.cW,y.length≤9223372036854775807)∧(x.cB.length≤9223372036854775807∧∀y∈x.cB,P2 y)
structure bZ where
 Kind:Int
 Variable:Int
 Label:List UInt8
 Not:Bool
def P4 (x:bZ):Prop:=(-9223372036854775808≤x.Kind∧x.Kind≤9223372036854775807)∧(-9223372036854775808≤x.Variable∧x.Variable≤9223372036854775807)∧x.Label.length≤9223372036854775807∧True
structure dM where
 Kind:Int
 Left:Int
 hT:Int
 gz:List (List Int)
 Formula:List bZ
def P5 (x:dM):Prop:=(-9223372036854775808≤x.Kind∧x.Kind≤9223372036854775807)∧(-9223372036854775808≤x.Left∧x.Left≤9223372036854775807)∧(-9223372036854775808≤x.hT∧x.hT≤9223372036854775807)∧(x.gz.length≤9223372036854775807∧∀y∈x.gz,(y.length≤9223372036854775807∧∀z∈y,(-9223372036854775808≤z∧z≤9223372036854775807)))∧(x.Formula.length≤9223372036854775807∧∀y∈x.Formula,P4 y)
structure gx where
 Names:List (List UInt8)
 dB:List dC
 ji:List dM
def ame (x:gx):Prop:=(x.Names.length≤9223372036854775807∧∀y∈x.Names,y.length≤9223372036854775807)∧(x.dB.length≤9223372036854775807∧∀y∈x.dB,P3 y)∧(x.ji.length≤9223372036854775807∧∀y∈x.ji,P5 y)
def HM (nx:Int→Int→Option Int) (a0:List (List UInt8)) (dw:Int) (dy:Int):Option Int:=
 cond (decide (dy<(a0.length:Int))) ((bX a0 dy).bind fun ar=>cond (decide ((IntKind.i64.wrap (dw-(ar.length:Int)))<0)) (some (-1)) (nx (IntKind.i64.wrap (dw-(ar.length:Int))) (IntKind.i64.wrap (dy+1)))) (some dw)
def xV (a0:List (List UInt8)):Nat→Int→Int→Option Int
 |0,_,_=>none
 |n+1,dw,dy=>HM (xV a0 n) a0 dw dy
def vv (a0:List (List UInt8)) (ab:Int):Option Int:=
 cond (decide ((IntKind.i64.wrap (ab-(a0.length:Int)))<0)) (some (-1)) (cY fun n=>xV a0 n (IntKind.i64.wrap (ab-(a0.length:Int))) 0)
def xW (a0:List jh) (ab:Int):Option Int:=
 cond (decide ((IntKind.i64.wrap (ab-(a0.length:Int)))<0)) (some (-1)) (some (IntKind.i64.wrap (ab-(a0.length:Int))))
def vw (a0:hS) (ab:Int):Option Int:=
 (vv a0.cW ab).bind fun ar=>cond (decide (ar<0)) (some (-1)) ((xW a0.cB ar).bind fun aD=>cond (decide (aD<0)) (some (-1)) (some aD))
def HN (nx:Int→Int→Option Int) (a0:List hS) (dw:Int) (dy:Int):Option Int:=
 cond (decide (dy<(a0.length:Int))) ((bX a0 dy).bind fun ar=>(vw ar dw).bind fun aD=>cond (decide (aD<0)) (some (-1)) (nx aD (IntKind.i64.wrap (dy+1)))) (some dw)
def xX (a0:List hS):Nat→Int→Int→Option Int
 |0,_,_=>none
 |n+1,dw,dy=>HN (xX a0 n) a0 dw dy
def xY (a0:List hS) (ab:Int):Option Int:=
 cond (decide ((IntKind.i64.wrap (ab-(a0.length:Int)))<0)) (some (-1)) (cY fun n=>xX a0 n (IntKind.i64.wrap (ab-(a0.length:Int))) 0)
def vx (a0:List Int) (ab:Int):Option Int:=
 cond (decide ((IntKind.i64.wrap (ab-(a0.length:Int)))<0)) (some (-1)) (some (IntKind.i64.wrap (ab-(a0.length:Int))))
def HO (nx:Int→Int→Option Int) (a0:List (List Int)) (dw:Int) (dy:Int):Option Int:=
 cond (decide (dy<(a0.length:Int))) ((bX a0 dy).bind fun ar=>(vx ar dw).bind fun aD=>cond (decide (aD<0)) (some (-1)) (nx aD (IntKind.i64.wrap (dy+1)))) (some dw)
def xZ (a0:List (List Int)):Nat→Int→Int→Option Int
 |0,_,_=>none
 |n+1,dw,dy=>HO (xZ a0 n) a0 dw dy
def x0 (a0:List (List Int)) (ab:Int):Option Int:=
 cond (decide ((IntKind.i64.wrap (ab-(a0.length:Int)))<0)) (some (-1)) (cY fun n=>xZ a0 n (IntKind.i64.wrap (ab-(a0.length:Int))) 0)
def vy (a0:hH) (ab:Int):Option Int:=
 cond (decide ((IntKind.i64.wrap (ab-(a0.Label.length:Int)))<0)) (some (-1)) (some (IntKind.i64.wrap (ab-(a0.Label.length:Int))))
def HP (nx:Int→Int→Option Int) (a0:List hH) (dw:Int) (dy:Int):Option Int:=
 cond (decide (dy<(a0.length:Int))) ((bX a0 dy).bind fun ar=>(vy ar dw).bind fun aD=>cond (decide (aD<0)) (some (-1)) (nx aD (IntKind.i64.wrap (dy+1)))) (some dw)
def x1 (a0:List hH):Nat→Int→Int→Option Int
 |0,_,_=>none
 |n+1,dw,dy=>HP (x1 a0 n) a0 dw dy
def x2 (a0:List hH) (ab:Int):Option Int:=
 cond (decide ((IntKind.i64.wrap (ab-(a0.length:Int)))<0)) (some (-1)) (cY fun n=>x1 a0 n (IntKind.i64.wrap (ab-(a0.length:Int))) 0)
def tk (a0:gQ) (ab:Int):Option Int:=
 (x0 a0.gz ab).bind fun ar=>cond (decide (ar<0)) (some (-1)) ((x2 a0.Formula ar).bind fun aD=>cond (decide (aD<0)) (some (-1)) (some aD))
def HQ (nx:Int→Int→Option Int) (a0:List gQ) (dw:Int) (dy:Int):Option Int:=
 cond (decide (dy<(a0.length:Int))) ((bX a0 dy).bind fun ar=>(tk ar dw).bind fun aD=>cond (decide (aD<0)) (some (-1)) (nx aD (IntKind.i64.wrap (dy+1)))) (some dw)
def x3 (a0:List gQ):Nat→Int→Int→Option Int
 |0,_,_=>none
 |n+1,dw,dy=>HQ (x3 a0 n) a0 dw dy
def x4 (a0:List gQ) (ab:Int):Option Int:=
 cond (decide ((IntKind.i64.wrap (ab-(a0.length:Int)))<0)) (some (-1)) (cY fun n=>x3 a0 n (IntKind.i64.wrap (ab-(a0.length:Int))) 0)
def x5 (a0:ky) (ab:Int):Option Int:=
 (vv a0.Names ab).bind fun ar=>cond (decide (ar<0)) (some (-1)) ((xY a0.dB ar).bind fun aD=>cond (decide (aD<0)) (some (-1)) ((x4 a0.ji aD).bind fun a7=>cond (decide (a7<0)) (some (-1)) (some a7)))
def HR (gh:(List (List UInt8))→Int→Option ((List (List UInt8)))) (a0:List (List UInt8)) (bL:List (List UInt8)) (bp:Int):Option ((List (List UInt8))):=
 cond (decide (bp<(a0.length:Int))) ((bX a0 bp).bind fun ar=>(bX bL bp).bind fun aD=>gh (List.set bL (Int.toNat bp) ar) (IntKind.i64.wrap (bp+1))) (some bL)
def x6 (a0:List (List UInt8)):Nat→(List (List UInt8))→Int→Option ((List (List UInt8)))
 |0,_,_=>none
 |n+1,bL,bp=>HR (x6 a0 n) a0 bL bp
def vz (a0:List (List UInt8)):Option ((List (List UInt8))):=
 (lz 16 (a0.length:Int)).bind fun _=>cY fun n=>x6 a0 n (List.replicate (Int.toNat (a0.length:Int)) ([]:List UInt8)) 0
def vA (a0:jh):Option ek:=
 some (ek.mk a0.er a0.Label a0.gi)
def HS (gh:(List ek)→Int→Option ((List ek))) (a0:List jh) (bL:List ek) (bp:Int):Option ((List ek)):=
 cond (decide (bp<(a0.length:Int))) ((bX a0 bp).bind fun ar=>(vA ar).bind fun aD=>(bX bL bp).bind fun a7=>gh (List.set bL (Int.toNat bp) aD) (IntKind.i64.wrap (bp+1))) (some bL)
def x7 (a0:List jh):Nat→(List ek)→Int→Option ((List ek))
 |0,_,_=>none
 |n+1,bL,bp=>HS (x7 a0 n) a0 bL bp
def x8 (a0:List jh):Option ((List ek)):=
 (lz 24 (a0.length:Int)).bind fun _=>cY fun n=>x7 a0 n (List.replicate (Int.toNat (a0.length:Int)) (ek.mk 0 0 0)) 0
def vB (a0:hS):Option dC:=
 (vz a0.cW).bind fun ar=>(x8 a0.cB).bind fun aD=>some (dC.mk a0.eW a0.iL ar aD)
def HT (gh:(List dC)→Int→Option ((List dC))) (a0:List hS) (bL:List dC) (bp:Int):Option ((List dC)):=
 cond (decide (bp<(a0.length:Int))) ((bX a0 bp).bind fun ar=>(vB ar).bind fun aD=>(bX bL bp).bind fun a7=>gh (List.set bL (Int.toNat bp) aD) (IntKind.i64.wrap (bp+1))) (some bL)
def x9 (a0:List hS):Nat→(List dC)→Int→Option ((List dC))
 |0,_,_=>none
 |n+1,bL,bp=>HT (x9 a0 n) a0 bL bp
def x_ (a0:List hS):Option ((List dC)):=
 (lz 64 (a0.length:Int)).bind fun _=>cY fun n=>x9 a0 n (List.replicate (Int.toNat (a0.length:Int)) (dC.mk 0 0 [] [])) 0
def HU (gh:(List Int)→Int→Option ((List Int))) (a0:List Int) (bL:List Int) (bp:Int):Option ((List Int)):=
 cond (decide (bp<(a0.length:Int))) ((bX a0 bp).bind fun ar=>(bX bL bp).bind fun aD=>gh (List.set bL (Int.toNat bp) ar) (IntKind.i64.wrap (bp+1))) (some bL)
def ya (a0:List Int):Nat→(List Int)→Int→Option ((List Int))
 |0,_,_=>none
 |n+1,bL,bp=>HU (ya a0 n) a0 bL bp
def vC (a0:List Int):Option ((List Int)):=
 (lz 8 (a0.length:Int)).bind fun _=>cY fun n=>ya a0 n (List.replicate (Int.toNat (a0.length:Int)) 0) 0
def HV (gh:(List (List Int))→Int→Option ((List (List Int)))) (a0:List (List Int)) (bL:List (List Int)) (bp:Int):Option ((List (List Int))):=
 cond (decide (bp<(a0.length:Int))) ((bX a0 bp).bind fun ar=>(vC ar).bind fun aD=>(bX bL bp).bind fun a7=>gh (List.set bL (Int.toNat bp) aD) (IntKind.i64.wrap (bp+1))) (some bL)
def yb (a0:List (List Int)):Nat→(List (List Int))→Int→Option ((List (List Int)))
 |0,_,_=>none
 |n+1,bL,bp=>HV (yb a0 n) a0 bL bp
def yc (a0:List (List Int)):Option ((List (List Int))):=
 (lz 24 (a0.length:Int)).bind fun _=>cY fun n=>yb a0 n (List.replicate (Int.toNat (a0.length:Int)) []) 0
def vD (a0:hH):Option bZ:=
 some (bZ.mk a0.Kind a0.Variable a0.Label a0.Not)
def HW (gh:(List bZ)→Int→Option ((List bZ))) (a0:List hH) (bL:List bZ) (bp:Int):Option ((List bZ)):=
 cond (decide (bp<(a0.length:Int))) ((bX a0 bp).bind fun ar=>(vD ar).bind fun aD=>(bX bL bp).bind fun a7=>gh (List.set bL (Int.toNat bp) aD) (IntKind.i64.wrap (bp+1))) (some bL)
def yd (a0:List hH):Nat→(List bZ)→Int→Option ((List bZ))
 |0,_,_=>none
 |n+1,bL,bp=>HW (yd a0 n) a0 bL bp
def ye (a0:List hH):Option ((List bZ)):=
 (lz 40 (a0.length:Int)).bind fun _=>cY fun n=>yd a0 n (List.replicate (Int.toNat (a0.length:Int)) (bZ.mk 0 0 ([]:List UInt8) false)) 0
def qq (a0:gQ):Option dM:=
 (yc a0.gz).bind fun ar=>(ye a0.Formula).bind fun aD=>some (dM.mk a0.Kind a0.Left a0.hT ar aD)
def HX (gh:(List dM)→Int→Option ((List dM))) (a0:List gQ) (bL:List dM) (bp:Int):Option ((List dM)):=
 cond (decide (bp<(a0.length:Int))) ((bX a0 bp).bind fun ar=>(qq ar).bind fun aD=>(bX bL bp).bind fun a7=>gh (List.set bL (Int.toNat bp) aD) (IntKind.i64.wrap (bp+1))) (some bL)
def yf (a0:List gQ):Nat→(List dM)→Int→Option ((List dM))
 |0,_,_=>none
 |n+1,bL,bp=>HX (yf a0 n) a0 bL bp
def yg (a0:List gQ):Option ((List dM)):=
 (lz 72 (a0.length:Int)).bind fun _=>cY fun n=>yf a0 n (List.replicate (Int.toNat (a0.length:Int)) (dM.mk 0 0 0 [] [])) 0
def tl (a0:ky):Option gx:=
 (vz a0.Names).bind fun ar=>(x_ a0.dB).bind fun aD=>(yg a0.ji).bind fun a7=>some (gx.mk ar aD a7)
def vE (a0:UInt8):Option Bool:=
 some ((decide (97≤(a0.toNat:Int)))&&(decide ((a0.toNat:Int)≤122)))
def tm (a0:UInt8):Option Bool:=
 some ((decide (48≤(a0.toNat:Int)))&&(decide ((a0.toNat:Int)≤57)))
def yh (fV:Int→Option Bool) (a0:List UInt8) (cy:Int):Option Bool:=
 cond (decide (cy<(a0.length:Int))) ((bX a0 cy).bind fun a7=>(vE a7).bind fun bo=>cond (!bo) ((tm a7).bind fun c1=>cond (!c1) (some false) (fV (IntKind.i64.wrap (cy+1)))) (fV (IntKind.i64.wrap (cy+1)))) (some true)
def tn (a0:List UInt8):Nat→Int→Option Bool
 |0,_=>none
 |n+1,cy=>yh (tn a0 n) a0 cy
def tp (a0:List UInt8):Option Bool:=
 cond (a0==([]:List UInt8)) (some false) (cond (decide (10<(a0.length:Int))) (some false) ((bX a0 0).bind fun ar=>(vE ar).bind fun aD=>cond (!aD) (some false) (cY fun n=>tn a0 n 0)))
def yi (ey:Int→Option Int) (a0:List (List UInt8)) (ab:List UInt8) (cF:Int):Option Int:=
 cond (decide (cF<(a0.length:Int))) ((bX a0 cF).bind fun ar=>cond (ar==ab) (some cF) (ey (IntKind.i64.wrap (cF+1)))) (some (-1))
def tq (a0:List (List UInt8)) (ab:List UInt8):Nat→Int→Option Int
 |0,_=>none
 |n+1,cF=>yi (tq a0 ab n) a0 ab cF
def yj (a0:List (List UInt8)) (ab:List UInt8):Option Int:=
 cY fun n=>tq a0 ab n 0
def kz (a0:Int) (ab:Int) (a2:Int):Option Bool:=
 some ((decide (ab≤a0))&&(decide (a0≤a2)))
def yk (ey:Int→Option Int) (a0:List UInt8) (mo:Int):Option Int:=
 cond (decide (mo<(a0.length:Int))) ((bX a0 mo).bind fun ar=>cond ((ar.toNat:Int)==40) (some mo) (ey (IntKind.i64.wrap (mo+1)))) (some (a0.length:Int))
def pB (a0:List UInt8):Nat→Int→Option Int
 |0,_=>none
 |n+1,mo=>yk (pB a0 n) a0 mo
def tr (a0:List UInt8):Option Int:=
 cY fun n=>pB a0 n 0
def vF (a0:List UInt8):Option Bool:=
 (tp a0).bind fun ar=>some (ar&&(!(a0==([116,97,117]:List UInt8))))
def yl (mH:(List (List UInt8))→Int→Int→Option ((List (List UInt8)))) (a0:List UInt8) (ab:UInt8) (ts:List (List UInt8)) (tt:Int) (tu:Int):Option ((List (List UInt8))):=
 mH ts tt (IntKind.i64.wrap (tu+1))
def ym (mH:(List (List UInt8))→Int→Int→Option ((List (List UInt8)))) (a0:List UInt8) (ab:UInt8) (kh:List (List UInt8)) (ny:Int) (jX:Int):Option ((List (List UInt8))):=
 cond (decide (jX<(a0.length:Int))) ((bX a0 jX).bind fun ar=>cond ((ar.toNat:Int)==(ab.toNat:Int)) ((e1 a0 ny jX).bind fun aD=>(room 16 (kh.length+1)).bind fun _=>yl mH a0 ab (kh++[aD]) (IntKind.i64.wrap (jX+1)) jX) (yl mH a0 ab kh ny jX)) ((e1 a0 ny (a0.length:Int)).bind fun a7=>(room 16 (kh.length+1)).bind fun _=>some (kh++[a7]))
def qs (a0:List UInt8) (ab:UInt8):Nat→(List (List UInt8))→Int→Int→Option ((List (List UInt8)))
 |0,_,_,_=>none
 |n+1,kh,ny,jX=>ym (qs a0 ab n) a0 ab kh ny jX
def yn (a0:List UInt8) (ab:UInt8):Option ((List (List UInt8))):=
 cY fun n=>qs a0 ab n [] 0 0
def vG (oc:Int):Option (Int×Bool):=
 some (oc,true)
def vH (P6:Int→Int→Option (Int×Bool)) (a0:List UInt8) (ig:Int) (iZ:Int) (ki:Int):Option (Int×Bool):=
 cond (decide (ki<(a0.length:Int))) ((bX a0 ki).bind fun bo=>(tm bo).bind fun c1=>cond (!c1) (some (0,false)) (P6 (IntKind.i64.wrap ((IntKind.i64.wrap (10*iZ))+(IntKind.i64.wrap (IntKind.u8.wrap ((bo.toNat:Int)-48))))) (IntKind.i64.wrap (ki+1)))) (cond (ig==1) (vG (IntKind.i64.wrap (0-iZ))) (vG iZ))
def od (a0:List UInt8) (ig:Int):Nat→Int→Int→Option (Int×Bool)
 |0,_,_=>none
 |n+1,iZ,ki=>vH (od a0 ig n) a0 ig iZ ki
def tv (a0:List UInt8) (ig:Int):Option (Int×Bool):=
 cond ((a0.length:Int)==ig) (some (0,false)) (cond (decide (18<(IntKind.i64.wrap ((a0.length:Int)-ig)))) (some (0,false)) ((bX a0 ig).bind fun ar=>cond ((ar.toNat:Int)==48) (cond (decide (1<(a0.length:Int))) (some (0,false)) (cY fun n=>od a0 ig n 0 ig)) (cY fun n=>od a0 ig n 0 ig)))
def yo (a0:List UInt8):Option (Int×Bool):=
 cond (decide (0<(a0.length:Int))) ((bX a0 0).bind fun cu=>cond ((cu.toNat:Int)==45) (tv a0 1) (tv a0 0)) (tv a0 0)
def yp (P7:(List Int)→Int→Option ((List Int)×Bool)) (da:(List (List UInt8))) (kA:List Int) (lU:Int):Option ((List Int)×Bool):=
 cond (decide (lU<(da.length:Int))) ((bX da lU).bind fun dz=>(yo dz).bind fun dU=>cond (!dU.2) (some ([],false)) ((kz dU.1 0 63).bind fun dN=>cond (!dN) (some ([],false)) ((room 8 (kA.length+1)).bind fun _=>P7 (kA++[dU.1]) (IntKind.i64.wrap (lU+1))))) (some (kA,(decide ((kA.length:Int)≤2))))
def qt (da:(List (List UInt8))):Nat→(List Int)→Int→Option ((List Int)×Bool)
 |0,_,_=>none
 |n+1,kA,lU=>yp (qt da n) da kA lU
def tw (a0:List UInt8):Option ((List Int)×Bool):=
 (tr a0).bind fun ar=>cond (ar==(a0.length:Int)) ((tp a0).bind fun aD=>some ([],aD)) ((e1 a0 0 ar).bind fun a7=>(vF a7).bind fun bo=>cond (!bo) (some ([],false)) ((bX a0 (IntKind.i64.wrap ((a0.length:Int)-1))).bind fun c1=>cond ((c1.toNat:Int) !=41) (some ([],false)) ((e1 a0 (IntKind.i64.wrap (ar+1)) (IntKind.i64.wrap ((a0.length:Int)-1))).bind fun cu=>(yn cu (44:UInt8)).bind fun da=>cY fun n=>qt da n [] 0)))
def nz (a0:List UInt8):Option Bool:=
 (tw a0).bind fun ar=>some ar.2
def yq (fV:Int→Option Bool) (a0:List (List UInt8)) (cy:Int):Option Bool:=
 cond (decide (cy<(a0.length:Int))) ((bX a0 cy).bind fun bo=>(nz bo).bind fun c1=>cond (!c1) (some false) (cond (bo==([116,97,117]:List UInt8)) (some false) (cond (decide (1<cy)) ((bX a0 (IntKind.i64.wrap (cy-1))).bind fun cu=>cond (!(Op.bytesLess cu bo)) (some false) (fV (IntKind.i64.wrap (cy+1)))) (fV (IntKind.i64.wrap (cy+1)))))) (some true)
def qu (a0:List (List UInt8)):Nat→Int→Option Bool
 |0,_=>none
 |n+1,cy=>yq (qu a0 n) a0 cy
def yr (a0:List (List UInt8)):Option Bool:=
 cond ((a0.length:Int)==0) (some false) (cond (decide (12<(a0.length:Int))) (some false) ((bX a0 0).bind fun ar=>cond (!(ar==([116,97,117]:List UInt8))) (some false) (cY fun n=>qu a0 n 1)))
def ys (a0:ek) (ab:ek):Option Bool:=
 cond (a0.er !=ab.er) (some (decide (a0.er<ab.er))) (cond (a0.Label !=ab.Label) (some (decide (a0.Label<ab.Label))) (some (decide (a0.gi<ab.gi))))
def yt (fV:Int→Option Bool) (a0:dC) (cy:Int):Option Bool:=
 cond (decide (cy<(a0.cB.length:Int))) ((bX a0.cB cy).bind fun bo=>(kz bo.er 0 (IntKind.i64.wrap (a0.eW-1))).bind fun c1=>cond (!c1) (some false) ((kz bo.gi 0 (IntKind.i64.wrap (a0.eW-1))).bind fun cu=>cond (!cu) (some false) ((kz bo.Label 0 (IntKind.i64.wrap ((a0.cW.length:Int)-1))).bind fun da=>cond (!da) (some false) (cond (decide (0<cy)) ((bX a0.cB (IntKind.i64.wrap (cy-1))).bind fun dz=>(ys dz bo).bind fun dU=>cond (!dU) (some false) (fV (IntKind.i64.wrap (cy+1)))) (fV (IntKind.i64.wrap (cy+1))))))) (some true)
def qv (a0:dC):Nat→Int→Option Bool
 |0,_=>none
 |n+1,cy=>yt (qv a0 n) a0 cy
def yu (a0:dC):Option Bool:=
 (kz a0.eW 1 40).bind fun ar=>cond (!ar) (some false) ((kz a0.iL 0 (IntKind.i64.wrap (a0.eW-1))).bind fun aD=>cond (!aD) (some false) ((yr a0.cW).bind fun a7=>cond ((!a7)||(decide (300<(a0.cB.length:Int)))) (some false) (cY fun n=>qv a0 n 0)))
def yv (fV:Int→Option Bool) (a0:gx) (cy:Int):Option Bool:=
 cond (decide (cy<(a0.Names.length:Int))) ((bX a0.Names cy).bind fun ar=>(tp ar).bind fun aD=>cond (!aD) (some false) ((e1 a0.Names 0 cy).bind fun a7=>(yj a7 ar).bind fun bo=>cond (decide (0≤bo)) (some false) ((bX a0.dB cy).bind fun c1=>(yu c1).bind fun cu=>cond (!cu) (some false) (fV (IntKind.i64.wrap (cy+1)))))) (some true)
def qw (a0:gx):Nat→Int→Option Bool
 |0,_=>none
 |n+1,cy=>yv (qw a0 n) a0 cy
def yw (a0:gx):Option Bool:=
 cond ((((a0.Names.length:Int)==0)||(decide (6<(a0.Names.length:Int))))||((a0.dB.length:Int) !=(a0.Names.length:Int))) (some false) (cY fun n=>qw a0 n 0)
def CG (a0:Int):Option Bool:=
 some (decide (a0≤3))
def CH (a0:Int):Option Bool:=
 some (((a0==3)||(a0==4))||(a0==5))
def yx (vI:Bool):Option Int:=
 cond vI (some 2) (some 1)
def vJ (a0:Int) (vK:Bool):Option Int:=
 cond vK (some 0) (cond (a0==2) (yx true) (yx (a0==3)))
def vL (a0:Int):Option Int:=
 cond (a0==0) (vJ a0 true) (cond (a0==1) (vJ a0 true) (vJ a0 (a0==6)))
def tx (a0:List UInt8):Option Bool:=
 cond (a0==([]:List UInt8)) (some true) ((nz a0).bind fun ar=>cond ar (some true) ((bX a0 (IntKind.i64.wrap ((a0.length:Int)-1))).bind fun aD=>cond ((aD.toNat:Int)==42) ((e1 a0 0 (IntKind.i64.wrap ((a0.length:Int)-1))).bind fun a7=>(vF a7).bind fun bo=>some bo) (some false)))
def yy (nx:Int→Int→Option Bool) (a0:List bZ) (a2:Int) (jY:Int) (kj:Int):Option Bool:=
 cond (decide (kj<(a0.length:Int))) (cond (jY==0) (some false) ((bX a0 kj).bind fun ar=>(kz ar.Kind 0 a2).bind fun aD=>cond (!aD) (some false) ((vL ar.Kind).bind fun a7=>cond ((ar.Kind==4)||(ar.Kind==5)) ((tx ar.Label).bind fun bo=>cond (!bo) (some false) (nx (IntKind.i64.wrap (jY+(IntKind.i64.wrap (a7-1)))) (IntKind.i64.wrap (kj+1)))) (cond ((!(ar.Label==([]:List UInt8)))||ar.Not) (some false) (nx (IntKind.i64.wrap (jY+(IntKind.i64.wrap (a7-1)))) (IntKind.i64.wrap (kj+1))))))) (some (jY==0))
def qx (a0:List bZ) (a2:Int):Nat→Int→Int→Option Bool
 |0,_,_=>none
 |n+1,jY,kj=>yy (qx a0 a2 n) a0 a2 jY kj
def yz (a0:List bZ) (ab:Int) (a2:Int):Option Bool:=
 cond ((decide ((a0.length:Int)<1))||(decide (ab<(a0.length:Int)))) (some false) (cY fun n=>qx a0 a2 n 1 0)
def yA (a0:bZ):Option Bool:=
 some ((a0.Kind==7)||(a0.Kind==8))
def CI (ey:Int→Int→Option Int) (a0:List bZ) (hX:Int) (cF:Int):Option Int:=
 cond (decide (0<cF)) ((bX a0 hX).bind fun ar=>(vL ar.Kind).bind fun aD=>ey (IntKind.i64.wrap (hX+1)) (IntKind.i64.wrap (cF+(IntKind.i64.wrap (aD-1))))) (some hX)
def tz (a0:List bZ):Nat→Int→Int→Option Int
 |0,_,_=>none
 |n+1,hX,cF=>CI (tz a0 n) a0 hX cF
def yB (a0:List bZ) (ab:Int):Option Int:=
 cY fun n=>tz a0 n ab 1
def yC (ey:Int→Option Int) (a0:List bZ) (ab:Int) (cF:Int):Option Int:=
 cond (decide (0≤cF)) ((bX a0 cF).bind fun ar=>(yA ar).bind fun aD=>cond aD ((bX a0 ab).bind fun a7=>cond (ar.Variable==a7.Variable) ((yB a0 cF).bind fun bo=>cond (decide (ab<bo)) (some cF) (ey (IntKind.i64.wrap (cF-1)))) (ey (IntKind.i64.wrap (cF-1)))) (ey (IntKind.i64.wrap (cF-1)))) (some (-1))
def rH (a0:List bZ) (ab:Int):Nat→Int→Option Int
 |0,_=>none
 |n+1,cF=>yC (rH a0 ab n) a0 ab cF
def vM (a0:List bZ) (ab:Int):Option Int:=
 cY fun n=>rH a0 ab n (IntKind.i64.wrap (ab-1))
def yD (fV:Int→Option Bool) (a0:List bZ) (nA:Int):Option Bool:=
 (bX a0 nA).bind fun aD=>cond (aD.Kind==6) ((vM a0 nA).bind fun a7=>cond (decide (a7<0)) (some false) (fV (IntKind.i64.wrap (nA+1)))) (fV (IntKind.i64.wrap (nA+1)))
def yE (fV:Int→Option Bool) (a0:List bZ) (cy:Int):Option Bool:=
 cond (decide (cy<(a0.length:Int))) ((bX a0 cy).bind fun bo=>(yA bo).bind fun c1=>cond (c1||(bo.Kind==6)) ((kz bo.Variable 0 2).bind fun cu=>cond (!cu) (some false) (yD fV a0 cy)) (cond (bo.Variable !=0) (some false) (yD fV a0 cy))) (some true)
def pC (a0:List bZ):Nat→Int→Option Bool
 |0,_=>none
 |n+1,cy=>yE (pC a0 n) a0 cy
def yF (a0:List bZ):Option Bool:=
 (yz a0 30 8).bind fun ar=>cond (!ar) (some false) (cY fun n=>pC a0 n 0)
def yG (a0:gx) (ab:dM):Option Bool:=
 (kz ab.Kind 0 7).bind fun ar=>cond (!ar) (some false) ((kz ab.Left 0 (IntKind.i64.wrap ((a0.dB.length:Int)-1))).bind fun aD=>cond (!aD) (some false) ((kz ab.hT 0 (IntKind.i64.wrap ((a0.dB.length:Int)-1))).bind fun a7=>cond (!a7) (some false) ((CG ab.Kind).bind fun bo=>cond ((!bo)&&(ab.hT !=0)) (some false) ((CH ab.Kind).bind fun c1=>cond c1 ((yF ab.Formula).bind fun cu=>some cu) (some ((ab.Formula.length:Int)==0))))))
def yH (a0:gx) (ab:dM):Option Bool:=
 (yw a0).bind fun ar=>cond ar ((yG a0 ab).bind fun aD=>some aD) (some false)
def jZ (a0:Int) (ab:Int) (a2:Int):Option Bool:=
 some ((decide (ab≤a0))&&(decide (a0≤a2)))
def CJ (a0:UInt8):Option Bool:=
 some ((decide (48≤(a0.toNat:Int)))&&(decide ((a0.toNat:Int)≤57)))
def vN (ey:Int→Option Bool) (a0:List UInt8) (kB:Int):Option Bool:=
 cond (decide (kB<(a0.length:Int))) ((bX a0 kB).bind fun ar=>cond (!((decide (97≤(ar.toNat:Int)))&&(decide ((ar.toNat:Int)≤122)))) (cond (kB==0) (some false) ((CJ ar).bind fun aD=>cond (!aD) (some false) (ey (IntKind.i64.wrap (kB+1))))) (ey (IntKind.i64.wrap (kB+1)))) (some ((decide (1≤(a0.length:Int)))&&(decide ((a0.length:Int)≤10))))
def pD (a0:List UInt8):Nat→Int→Option Bool
 |0,_=>none
 |n+1,kB=>vN (pD a0 n) a0 kB
def vO (a0:List UInt8):Option Bool:=
 cY fun n=>pD a0 n 0
def yI (ey:Int→Option Int) (a0:List (List UInt8)) (ab:List UInt8) (hI:Int):Option Int:=
 cond (decide (hI<(a0.length:Int))) ((bX a0 hI).bind fun ar=>cond (ab==ar) (some hI) (ey (IntKind.i64.wrap (hI+1)))) (some (-1))
def rI (a0:List (List UInt8)) (ab:List UInt8):Nat→Int→Option Int
 |0,_=>none
 |n+1,hI=>yI (rI a0 ab n) a0 ab hI
def CK (a0:List (List UInt8)) (ab:List UInt8):Option Int:=
 cY fun n=>rI a0 ab n 0
def yJ (a0:List (List UInt8)) (ab:List UInt8):Option Bool:=
 (CK a0 ab).bind fun ar=>some (decide (0≤ar))
def tA (a0:dC) (ab:Int):Option Bool:=
 (jZ ab 0 (IntKind.i64.wrap (a0.eW-1))).bind fun ar=>some ar
def oe:List UInt8→UInt8→Int
 |[],_=> -1
 |b::l,c=>if b==c then 0 else if oe l c== -1 then-1 else oe l c+1
def CL (a0:List UInt8) (ab:UInt8):Option Int:=some (oe a0 ab)
def CM (a0:List UInt8) (ab:UInt8):Option Int:=
 (CL a0 ab).bind fun ar=>some ar
def pE (a0:List UInt8) (ab:List UInt8):Option Int:=
 cond (((ab.length:Int)==0)||(ab==a0)) (some 0) (cond ((ab.length:Int)==1) ((bX ab 0).bind fun ar=>(CM a0 ar).bind fun aD=>some aD) (cond (decide ((a0.length:Int)≤(ab.length:Int))) (some (-1)) (none)))
def yK (a0:List UInt8) (ab:List UInt8):Option ((List UInt8)×(List UInt8)×Bool):=
 (pE a0 ab).bind fun ar=>cond (decide (0≤ar)) ((e1 a0 0 ar).bind fun aD=>(e1 a0 (IntKind.i64.wrap (ar+(ab.length:Int))) (a0.length:Int)).bind fun a7=>some (aD,a7,true)) (some (a0,([]:List UInt8),false))
def tB (a0:List UInt8) (ab:List UInt8):Option ((List UInt8)×(List UInt8)×Bool):=
 (yK a0 ab).bind fun ar=>some (ar.1,ar.2.1,ar.2.2)
def tC (a0:List UInt8) (ab:List UInt8):Option Bool:=
 cond (decide ((ab.length:Int)≤(a0.length:Int))) ((e1 a0 (IntKind.i64.wrap ((a0.length:Int)-(ab.length:Int))) (a0.length:Int)).bind fun ar=>some (ar==ab)) (some false)
def yL (a0:List UInt8) (ab:List UInt8):Option ((List UInt8)):=
 (tC a0 ab).bind fun ar=>cond ar ((e1 a0 0 (IntKind.i64.wrap ((a0.length:Int)-(ab.length:Int)))).bind fun aD=>some aD) (some a0)
def strings_TrimSuffix (a0:List UInt8) (ab:List UInt8):Option ((List UInt8)):=
 (yL a0 ab).bind fun ar=>some ar
def CN (a0:List UInt8) (ab:UInt8):Option Int:=some (a0.count ab:Nat)
def vP (a0:List UInt8) (ab:List UInt8):Option Int:=
 (pE a0 ab).bind fun ar=>some ar
def HY (P8:(List UInt8)→Int→Option Int) (ab:List UInt8) (nB:List UInt8) (nC:Int):Option Int:=
 (vP nB ab).bind fun a7=>cond (a7==(-1)) (some nC) ((e1 nB (IntKind.i64.wrap (a7+(ab.length:Int))) (nB.length:Int)).bind fun bo=>P8 bo (IntKind.i64.wrap (nC+1)))
def yM (ab:List UInt8):Nat→(List UInt8)→Int→Option Int
 |0,_,_=>none
 |n+1,nB,nC=>HY (yM ab n) ab nB nC
def CO (a0:List UInt8) (ab:List UInt8):Option Int:=
 cond ((ab.length:Int)==0) (none) (cond ((ab.length:Int)==1) ((bX ab 0).bind fun ar=>(CN a0 ar).bind fun aD=>some aD) (cY fun n=>yM ab n a0 0))
def vQ (a0:List UInt8) (ab:List UInt8) (a2:Int) (gX:Int) (tD:List UInt8) (rJ:List (List UInt8)) (pF:Int):Option ((List (List UInt8))):=
 (bX rJ pF).bind fun ar=>(e1 (List.set rJ (Int.toNat pF) tD) 0 (IntKind.i64.wrap (pF+1))).bind fun aD=>some aD
def yN (P9:(List UInt8)→(List (List UInt8))→Int→Option ((List (List UInt8)))) (a0:List UInt8) (ab:List UInt8) (a2:Int) (gX:Int) (kC:List UInt8) (j0:List (List UInt8)) (ij:Int):Option ((List (List UInt8))):=
 cond (decide (ij<(IntKind.i64.wrap ((h3 false gX (IntKind.i64.wrap ((a0.length:Int)+1)))-1)))) ((vP kC ab).bind fun a7=>cond (decide (a7<0)) (vQ a0 ab a2 gX kC j0 ij) ((e1 kC 0 (IntKind.i64.wrap (a7+a2))).bind fun bo=>(bX j0 ij).bind fun c1=>(e1 kC (IntKind.i64.wrap (a7+(ab.length:Int))) (kC.length:Int)).bind fun cu=>P9 cu (List.set j0 (Int.toNat ij) bo) (IntKind.i64.wrap (ij+1)))) (vQ a0 ab a2 gX kC j0 ij)
def qy (a0:List UInt8) (ab:List UInt8) (a2:Int) (gX:Int):Nat→(List UInt8)→(List (List UInt8))→Int→Option ((List (List UInt8)))
 |0,_,_,_=>none
 |n+1,kC,j0,ij=>yN (qy a0 ab a2 gX n) a0 ab a2 gX kC j0 ij
def yO (a0:List UInt8) (ab:List UInt8) (a2:Int) (gX:Int):Option ((List (List UInt8))):=
 (lz 16 (h3 false gX (IntKind.i64.wrap ((a0.length:Int)+1)))).bind fun _=>cY fun n=>qy a0 ab a2 gX n a0 (List.replicate (Int.toNat (h3 false gX (IntKind.i64.wrap ((a0.length:Int)+1)))) ([]:List UInt8)) 0
def CP (a0:List UInt8) (ab:List UInt8) (a2:Int) (a3:Int):Option ((List (List UInt8))):=
 cond (a3==0) (some []) (cond (ab==([]:List UInt8)) (none) (cond (decide (a3<0)) ((CO a0 ab).bind fun da=>yO a0 ab a2 (IntKind.i64.wrap (da+1))) (yO a0 ab a2 a3)))
def yP (a0:List UInt8) (ab:List UInt8):Option ((List (List UInt8))):=
 (CP a0 ab 0 (-1)).bind fun ar=>some ar
def eR (c:UInt8):Bool:=decide (48≤c.toNat)&&decide (c.toNat≤57)
def hY (d:List UInt8):Nat:=d.foldl (fun n c=>10*n+(c.toNat-48)) 0
def lp (k:Nat) (d:List UInt8):Int×Bool:=if d≠[]∧d.length≤18∧d.all eR=true∧¬(d.head? =some 48∧1<d.length+k)then(if k=1 then-(hY d:Int)else hY d,true)else(0,false)
def hA (s:List UInt8):Int×Bool:=if s.head? =some 45 then lp 1 s.tail else lp 0 s
def yQ (a0:List UInt8):Option (Int×Bool):=some (hA a0)
def yR (gh:(List Int)→Int→Option ((List Int)×Bool)) (a0:List (List UInt8)) (bp:List Int) (mq:Int):Option ((List Int)×Bool):=
 cond (decide (mq<(a0.length:Int))) ((bX a0 mq).bind fun ar=>(yQ ar).bind fun aD=>cond (!aD.2) (some ([],false)) ((room 8 (bp.length+1)).bind fun _=>gh (bp++[aD.1]) (IntKind.i64.wrap (mq+1)))) (some (bp,true))
def rK (a0:List (List UInt8)):Nat→(List Int)→Int→Option ((List Int)×Bool)
 |0,_,_=>none
 |n+1,bp,mq=>yR (rK a0 n) a0 bp mq
def yS (a0:List (List UInt8)):Option ((List Int)×Bool):=
 cY fun n=>rK a0 n [] 0
def vR (a0:List UInt8):Option Bool:=
 (vO a0).bind fun ar=>some (ar&&(!(a0==([116,97,117]:List UInt8))))
def CQ (a0:Int):Option Bool:=
 (jZ a0 0 63).bind fun ar=>some ar
def CR (a0:Int):Option Bool:=
 (CQ a0).bind fun ar=>some (!ar)
def yT (ey:Int→Option Int) (a0:List Int) (hI:Int):Option Int:=
 cond (decide (hI<(a0.length:Int))) ((bX a0 hI).bind fun ar=>(CR ar).bind fun aD=>cond aD (some hI) (ey (IntKind.i64.wrap (hI+1)))) (some (-1))
def rL (a0:List Int):Nat→Int→Option Int
 |0,_=>none
 |n+1,hI=>yT (rL a0 n) a0 hI
def CS (a0:List Int):Option Int:=
 cY fun n=>rL a0 n 0
def CT (a0:List Int):Option Bool:=
 (CS a0).bind fun ar=>some (decide (0≤ar))
def yU (a0:List Int):Option Bool:=
 (CT a0).bind fun ar=>some (!ar)
def vS (a0 ab:Int):Option (List UInt8):=if 0≤a0∧a0<100∧ab=10 then some (nO a0.toNat)else none
def vT (a0:Int):Option ((List UInt8)):=
 (vS a0 10).bind fun ar=>some ar
def strings_Join (a0:List (List UInt8)) (ab:List UInt8):Option (List UInt8):=if a0.length≤140737488355328∧(jN a0 ab).length≤140737488355328 then some (jN a0 ab)else none
def yV (gh:(List (List UInt8))→Int→Option ((List UInt8))) (a0:List Int) (ab:List UInt8) (lV:List (List UInt8)) (kk:Int):Option ((List UInt8)):=
 cond (decide (kk<(a0.length:Int))) ((bX a0 kk).bind fun ar=>(vT ar).bind fun aD=>(bX lV kk).bind fun a7=>gh (List.set lV (Int.toNat kk) aD) (IntKind.i64.wrap (kk+1))) ((strings_Join lV ab).bind fun bo=>some bo)
def rM (a0:List Int) (ab:List UInt8):Nat→(List (List UInt8))→Int→Option ((List UInt8))
 |0,_,_=>none
 |n+1,lV,kk=>yV (rM a0 ab n) a0 ab lV kk
def yW (a0:List Int) (ab:List UInt8):Option ((List UInt8)):=
 (lz 16 (a0.length:Int)).bind fun _=>cY fun n=>rM a0 ab n (List.replicate (Int.toNat (a0.length:Int)) ([]:List UInt8)) 0
def yX (a0:List UInt8) (ab:List Int):Option ((List UInt8)×Bool):=
 cond (a0==([116,97,117]:List UInt8)) (some (([116,97,117]:List UInt8),((ab.length:Int)==0))) ((vR a0).bind fun aD=>cond (!aD) (some (([]:List UInt8),false)) (cond (decide (2<(ab.length:Int))) (some (([]:List UInt8),false)) ((yU ab).bind fun a7=>cond (!a7) (some (([]:List UInt8),false)) (cond ((ab.length:Int)==0) (some (a0,true)) ((qO (a0.length+1)).bind fun _=>(yW ab ([44]:List UInt8)).bind fun bo=>(qO ((a0++([40]:List UInt8)).length+bo.length)).bind fun _=>(qO (((a0++([40]:List UInt8))++bo).length+1)).bind fun _=>some ((((a0++([40]:List UInt8))++bo)++([41]:List UInt8)),true))))))
def vU (a0:List UInt8) (ar:(List UInt8)×(List UInt8)×Bool) (oW:List Int):Option ((List UInt8)×(List Int)×Bool):=
 (yX ar.1 oW).bind fun aD=>cond ((!aD.2)||(!(aD.1==a0))) (some (([]:List UInt8),[],false)) (some (ar.1,oW,true))
def yY (a0:List UInt8):Option ((List UInt8)×(List Int)×Bool):=
 (tB a0 ([40]:List UInt8)).bind fun ar=>cond ar.2.2 ((strings_TrimSuffix ar.2.1 ([41]:List UInt8)).bind fun a7=>(yP a7 ([44]:List UInt8)).bind fun bo=>(yS bo).bind fun c1=>cond (!c1.2) (some (([]:List UInt8),[],false)) (vU a0 ar c1.1)) (vU a0 ar [])
def qz (a0:List UInt8):Option Bool:=
 (yY a0).bind fun ar=>some ar.2.2
def tE (a0:Int) (ab:Int):Option Bool:=
 (jZ a0 0 (IntKind.i64.wrap (ab-1))).bind fun ar=>some ar
def yZ (a0:Int):Option Bool:=
 some (a0 !=a0)
def tF (a0:Int) (ab:Int):Option Int:=
 (yZ a0).bind fun ar=>(yZ ab).bind fun aD=>cond ar (cond aD (some 0) (some (-1))) (cond aD (some 1) (cond (decide (a0<ab)) (some (-1)) (cond (decide (ab<a0)) (some 1) (some 0))))
def CU (gh:Int→Option Int) (a0:List Int) (iu:Int):Option Int:=
 cond (decide (iu<(a0.length:Int))) ((bX a0 iu).bind fun ar=>cond (ar !=0) (some ar) (gh (IntKind.i64.wrap (iu+1)))) (some 0)
def vV (a0:List Int):Nat→Int→Option Int
 |0,_=>none
 |n+1,iu=>CU (vV a0 n) a0 iu
def y0 (a0:List Int):Option Int:=
 cY fun n=>vV a0 n 0
def y1 (a0:ek) (ab:ek):Option Int:=
 (tF a0.er ab.er).bind fun ar=>(tF a0.Label ab.Label).bind fun aD=>(tF a0.gi ab.gi).bind fun a7=>(y0 [ar,aD,a7]).bind fun bo=>some bo
def y2 (HZ:Int→Option Bool) (a0:dC) (jD:Int):Option Bool:=
 cond (decide (jD<(a0.cB.length:Int))) ((bX a0.cB jD).bind fun dz=>(tA a0 dz.er).bind fun dU=>cond (!dU) (some false) ((tA a0 dz.gi).bind fun dN=>cond (!dN) (some false) ((tE dz.Label (a0.cW.length:Int)).bind fun fW=>cond (!fW) (some false) (cond (decide (0<jD)) ((bX a0.cB (IntKind.i64.wrap (jD-1))).bind fun jj=>(y1 jj dz).bind fun kY=>cond (decide (0≤kY)) (some false) (HZ (IntKind.i64.wrap (jD+1)))) (HZ (IntKind.i64.wrap (jD+1))))))) (some true)
def qA (a0:dC):Nat→Int→Option Bool
 |0,_=>none
 |n+1,jD=>y2 (qA a0 n) a0 jD
def y3 (fV:Int→Option Bool) (a0:dC) (kZ:Int):Option Bool:=
 cond (decide (kZ<(a0.cW.length:Int))) ((bX a0.cW kZ).bind fun bo=>(qz bo).bind fun cu=>cond (!cu) (some false) (cond (!((bo==([116,97,117]:List UInt8))==(kZ==0))) (some false) (cond (decide (1<kZ)) ((bX a0.cW (IntKind.i64.wrap (kZ-1))).bind fun da=>cond (Op.bytesLess bo da||bo==da) (some false) (fV (IntKind.i64.wrap (kZ+1)))) (fV (IntKind.i64.wrap (kZ+1)))))) (cY fun n=>qA a0 n 0)
def qB (a0:dC):Nat→Int→Option Bool
 |0,_=>none
 |n+1,kZ=>y3 (qB a0 n) a0 kZ
def y4 (a0:dC):Option Bool:=
 (jZ a0.eW 1 40).bind fun ar=>cond (!ar) (some false) ((tA a0 a0.iL).bind fun aD=>cond (!aD) (some false) ((jZ (a0.cW.length:Int) 1 12).bind fun a7=>cond ((!a7)||(decide (300<(a0.cB.length:Int)))) (some false) (cY fun n=>qB a0 n 0)))
def y5 (fV:Int→Option Bool) (a0:gx) (lq:Int):Option Bool:=
 cond (decide (lq<(a0.Names.length:Int))) ((bX a0.Names lq).bind fun aD=>(vO aD).bind fun a7=>cond (!a7) (some false) ((e1 a0.Names 0 lq).bind fun bo=>(yJ bo aD).bind fun c1=>cond c1 (some false) ((bX a0.dB lq).bind fun cu=>(y4 cu).bind fun da=>cond (!da) (some false) (fV (IntKind.i64.wrap (lq+1)))))) (some true)
def qC (a0:gx):Nat→Int→Option Bool
 |0,_=>none
 |n+1,lq=>y5 (qC a0 n) a0 lq
def y6 (a0:gx):Option Bool:=
 (jZ (a0.Names.length:Int) 1 6).bind fun ar=>cond ((!ar)||((a0.dB.length:Int) !=(a0.Names.length:Int))) (some false) (cY fun n=>qC a0 n 0)
def CV (a0:dM):Option Bool:=
 some (decide (a0.Kind≤3))
def CW (a0:dM):Option Bool:=
 (jZ a0.Kind 3 5).bind fun ar=>some ar
def tG (vW:Bool):Option Int:=
 cond vW (some 1) (some 0)
def y7 (a0:bZ) (vX:Bool):Option Int:=
 cond vX (some 2) (cond (a0.Kind==4) (tG true) (cond (a0.Kind==5) (tG true) (cond (a0.Kind==7) (tG true) (tG (a0.Kind==8)))))
def vY (a0:bZ):Option Int:=
 cond (a0.Kind==2) (y7 a0 true) (y7 a0 (a0.Kind==3))
def y8 (gh:Int→Int→Option Bool) (a0:List bZ) (bL:Int) (iu:Int):Option Bool:=
 cond (decide (iu<(a0.length:Int))) ((bX a0 iu).bind fun ar=>cond (bL==0) (some false) ((vY ar).bind fun aD=>gh (IntKind.i64.wrap (bL+(IntKind.i64.wrap (aD-1)))) (IntKind.i64.wrap (iu+1)))) (some (bL==0))
def rN (a0:List bZ):Nat→Int→Int→Option Bool
 |0,_,_=>none
 |n+1,bL,iu=>y8 (rN a0 n) a0 bL iu
def y9 (a0:List bZ):Option Bool:=
 cY fun n=>rN a0 n 1 0
def CX (a0:bZ):Option Bool:=
 some ((a0.Kind==4)||(a0.Kind==5))
def CY (a0:List UInt8) (ab:List UInt8):Option ((List UInt8)×Bool):=
 (tC a0 ab).bind fun ar=>cond (!ar) (some (a0,false)) ((e1 a0 0 (IntKind.i64.wrap ((a0.length:Int)-(ab.length:Int)))).bind fun aD=>some (aD,true))
def y_ (a0:List UInt8) (ab:List UInt8):Option ((List UInt8)×Bool):=
 (CY a0 ab).bind fun ar=>some (ar.1,ar.2)
def vZ (a0:List UInt8):Option Bool:=
 (y_ a0 ([42]:List UInt8)).bind fun ar=>cond (a0==([]:List UInt8)) (some true) ((qz a0).bind fun aD=>cond aD (some true) (cond ar.2 ((vR ar.1).bind fun a7=>some a7) (some false)))
def CZ (a0:bZ):Option Bool:=
 (CX a0).bind fun ar=>cond ar ((vZ a0.Label).bind fun aD=>some aD) (some ((a0.Label==([]:List UInt8))&&(!a0.Not)))
def za (a0:bZ):Option Bool:=
 some ((a0.Kind==7)||(a0.Kind==8))
def C0 (a0:bZ):Option Bool:=
 (za a0).bind fun ar=>cond (ar||(a0.Kind==6)) ((jZ a0.Variable 0 2).bind fun aD=>some aD) (some (a0.Variable==0))
def C1 (ey:Int→Int→Option Int) (a0:List bZ) (hX:Int) (cF:Int):Option Int:=
 cond (decide (0<cF)) ((bX a0 hX).bind fun ar=>(vY ar).bind fun aD=>ey (IntKind.i64.wrap (hX+1)) (IntKind.i64.wrap (cF+(IntKind.i64.wrap (aD-1))))) (some hX)
def tH (a0:List bZ):Nat→Int→Int→Option Int
 |0,_,_=>none
 |n+1,hX,cF=>C1 (tH a0 n) a0 hX cF
def zb (a0:List bZ) (ab:Int):Option Int:=
 cY fun n=>tH a0 n ab 1
def zc (ey:Int→Option Int) (a0:List bZ) (ab:Int) (cF:Int):Option Int:=
 cond (decide (0≤cF)) ((bX a0 cF).bind fun ar=>(za ar).bind fun aD=>cond aD ((bX a0 ab).bind fun a7=>cond (ar.Variable==a7.Variable) ((zb a0 cF).bind fun bo=>cond (decide (ab<bo)) (some cF) (ey (IntKind.i64.wrap (cF-1)))) (ey (IntKind.i64.wrap (cF-1)))) (ey (IntKind.i64.wrap (cF-1)))) (some (-1))
def rO (a0:List bZ) (ab:Int):Nat→Int→Option Int
 |0,_=>none
 |n+1,cF=>zc (rO a0 ab n) a0 ab cF
def zd (a0:List bZ) (ab:Int):Option Int:=
 cY fun n=>rO a0 ab n (IntKind.i64.wrap (ab-1))
def ze (fV:Int→Option Bool) (a0:List bZ) (j1:Int):Option Bool:=
 cond (decide (j1<(a0.length:Int))) ((bX a0 j1).bind fun a7=>(jZ a7.Kind 0 8).bind fun bo=>cond (!bo) (some false) ((CZ a7).bind fun c1=>cond (!c1) (some false) ((C0 a7).bind fun cu=>cond (!cu) (some false) (cond (a7.Kind==6) ((zd a0 j1).bind fun da=>cond (decide (da<0)) (some false) (fV (IntKind.i64.wrap (j1+1)))) (fV (IntKind.i64.wrap (j1+1))))))) (some true)
def qD (a0:List bZ):Nat→Int→Option Bool
 |0,_=>none
 |n+1,j1=>ze (qD a0 n) a0 j1
def zf (a0:List bZ):Option Bool:=
 (jZ (a0.length:Int) 1 30).bind fun ar=>cond (!ar) (some false) ((y9 a0).bind fun aD=>cond (!aD) (some false) (cY fun n=>qD a0 n 0))
def zg (a0:gx) (ab:dM):Option Bool:=
 (jZ ab.Kind 0 7).bind fun ar=>cond (!ar) (some false) ((tE ab.Left (a0.dB.length:Int)).bind fun aD=>cond (!aD) (some false) ((tE ab.hT (a0.dB.length:Int)).bind fun a7=>cond (!a7) (some false) ((CV ab).bind fun bo=>cond ((!bo)&&(ab.hT !=0)) (some false) ((CW ab).bind fun c1=>cond c1 ((zf ab.Formula).bind fun cu=>some cu) (some ((ab.Formula.length:Int)==0))))))
def zh (a0:gx) (ab:dM):Option Bool:=
 (y6 a0).bind fun ar=>cond ar ((zg a0 ab).bind fun aD=>some aD) (some false)
def H0 (fV:Int→Option Bool) (a0:List (List UInt8)) (ab:List (List UInt8)) (b_:Int):Option Bool:=
 cond (decide (b_<(a0.length:Int))) ((bX a0 b_).bind fun ar=>(bX ab b_).bind fun aD=>cond (!(ar==aD)) (some false) (fV (IntKind.i64.wrap (b_+1)))) (some true)
def zi (a0:List (List UInt8)) (ab:List (List UInt8)):Nat→Int→Option Bool
 |0,_=>none
 |n+1,b_=>H0 (zi a0 ab n) a0 ab b_
def v7 (a0:List (List UInt8)) (ab:List (List UInt8)):Option Bool:=
 cond ((a0.length:Int) !=(ab.length:Int)) (some false) (cY fun n=>zi a0 ab n 0)
def v8 (a0:ek) (ab:ek):Option Bool:=
 cond (a0.er !=ab.er) (some false) (cond (a0.Label !=ab.Label) (some false) (cond (a0.gi !=ab.gi) (some false) (some true)))
def H2 (fV:Int→Option Bool) (a0:List ek) (ab:List ek) (b_:Int):Option Bool:=
 cond (decide (b_<(a0.length:Int))) ((bX a0 b_).bind fun ar=>(bX ab b_).bind fun aD=>(v8 ar aD).bind fun a7=>cond (!a7) (some false) (fV (IntKind.i64.wrap (b_+1)))) (some true)
def zj (a0:List ek) (ab:List ek):Nat→Int→Option Bool
 |0,_=>none
 |n+1,b_=>H2 (zj a0 ab n) a0 ab b_
def zk (a0:List ek) (ab:List ek):Option Bool:=
 cond ((a0.length:Int) !=(ab.length:Int)) (some false) (cY fun n=>zj a0 ab n 0)
def v_ (a0:dC) (ab:dC):Option Bool:=
 cond (a0.eW !=ab.eW) (some false) (cond (a0.iL !=ab.iL) (some false) ((v7 a0.cW ab.cW).bind fun ar=>cond (!ar) (some false) ((zk a0.cB ab.cB).bind fun aD=>cond (!aD) (some false) (some true))))
def H3 (fV:Int→Option Bool) (a0:List dC) (ab:List dC) (b_:Int):Option Bool:=
 cond (decide (b_<(a0.length:Int))) ((bX a0 b_).bind fun ar=>(bX ab b_).bind fun aD=>(v_ ar aD).bind fun a7=>cond (!a7) (some false) (fV (IntKind.i64.wrap (b_+1)))) (some true)
def zl (a0:List dC) (ab:List dC):Nat→Int→Option Bool
 |0,_=>none
 |n+1,b_=>H3 (zl a0 ab n) a0 ab b_
def zm (a0:List dC) (ab:List dC):Option Bool:=
 cond ((a0.length:Int) !=(ab.length:Int)) (some false) (cY fun n=>zl a0 ab n 0)
def H4 (fV:Int→Option Bool) (a0:List Int) (ab:List Int) (b_:Int):Option Bool:=
 cond (decide (b_<(a0.length:Int))) ((bX a0 b_).bind fun ar=>(bX ab b_).bind fun aD=>cond (ar !=aD) (some false) (fV (IntKind.i64.wrap (b_+1)))) (some true)
def zn (a0:List Int) (ab:List Int):Nat→Int→Option Bool
 |0,_=>none
 |n+1,b_=>H4 (zn a0 ab n) a0 ab b_
def wa (a0:List Int) (ab:List Int):Option Bool:=
 cond ((a0.length:Int) !=(ab.length:Int)) (some false) (cY fun n=>zn a0 ab n 0)
def H5 (fV:Int→Option Bool) (a0:List (List Int)) (ab:List (List Int)) (b_:Int):Option Bool:=
 cond (decide (b_<(a0.length:Int))) ((bX a0 b_).bind fun ar=>(bX ab b_).bind fun aD=>(wa ar aD).bind fun a7=>cond (!a7) (some false) (fV (IntKind.i64.wrap (b_+1)))) (some true)
def zo (a0:List (List Int)) (ab:List (List Int)):Nat→Int→Option Bool
 |0,_=>none
 |n+1,b_=>H5 (zo a0 ab n) a0 ab b_
def zp (a0:List (List Int)) (ab:List (List Int)):Option Bool:=
 cond ((a0.length:Int) !=(ab.length:Int)) (some false) (cY fun n=>zo a0 ab n 0)
def wb (a0:bZ) (ab:bZ):Option Bool:=
 cond (a0.Kind !=ab.Kind) (some false) (cond (a0.Variable !=ab.Variable) (some false) (cond (!(a0.Label==ab.Label)) (some false) (cond (!(a0.Not==ab.Not)) (some false) (some true))))
def H6 (fV:Int→Option Bool) (a0:List bZ) (ab:List bZ) (b_:Int):Option Bool:=
 cond (decide (b_<(a0.length:Int))) ((bX a0 b_).bind fun ar=>(bX ab b_).bind fun aD=>(wb ar aD).bind fun a7=>cond (!a7) (some false) (fV (IntKind.i64.wrap (b_+1)))) (some true)
def zq (a0:List bZ) (ab:List bZ):Nat→Int→Option Bool
 |0,_=>none
 |n+1,b_=>H6 (zq a0 ab n) a0 ab b_
def zr (a0:List bZ) (ab:List bZ):Option Bool:=
 cond ((a0.length:Int) !=(ab.length:Int)) (some false) (cY fun n=>zq a0 ab n 0)
def tI (a0:dM) (ab:dM):Option Bool:=
 cond (a0.Kind !=ab.Kind) (some false) (cond (a0.Left !=ab.Left) (some false) (cond (a0.hT !=ab.hT) (some false) ((zp a0.gz ab.gz).bind fun ar=>cond (!ar) (some false) ((zr a0.Formula ab.Formula).bind fun aD=>cond (!aD) (some false) (some true)))))
def H7 (fV:Int→Option Bool) (a0:List dM) (ab:List dM) (b_:Int):Option Bool:=
 cond (decide (b_<(a0.length:Int))) ((bX a0 b_).bind fun ar=>(bX ab b_).bind fun aD=>(tI ar aD).bind fun a7=>cond (!a7) (some false) (fV (IntKind.i64.wrap (b_+1)))) (some true)
def zs (a0:List dM) (ab:List dM):Nat→Int→Option Bool
 |0,_=>none
 |n+1,b_=>H7 (zs a0 ab n) a0 ab b_
def zt (a0:List dM) (ab:List dM):Option Bool:=
 cond ((a0.length:Int) !=(ab.length:Int)) (some false) (cY fun n=>zs a0 ab n 0)
def zu (a0:gx) (ab:gx):Option Bool:=
 (v7 a0.Names ab.Names).bind fun ar=>cond (!ar) (some false) ((zm a0.dB ab.dB).bind fun aD=>cond (!aD) (some false) ((zt a0.ji ab.ji).bind fun a7=>cond (!a7) (some false) (some true)))
def C2 (a0:ky) (ab:gQ):Option Bool:=
 (x5 a0 1048576).bind fun ar=>cond (decide (ar<0)) (some true) ((tk ab ar).bind fun aD=>cond (decide (aD<0)) (some true) ((tl a0).bind fun a7=>(qq ab).bind fun bo=>(yH a7 bo).bind fun c1=>(tl a0).bind fun cu=>(qq ab).bind fun da=>(zh cu da).bind fun dz=>cond (!(dz==c1)) (some false) ((tl a0).bind fun dU=>(zu cu dU).bind fun dN=>cond (!dN) (some false) ((qq ab).bind fun fW=>(tI da fW).bind fun jj=>cond (!jj) (some false) (some true)))))
end
end Go.gB
