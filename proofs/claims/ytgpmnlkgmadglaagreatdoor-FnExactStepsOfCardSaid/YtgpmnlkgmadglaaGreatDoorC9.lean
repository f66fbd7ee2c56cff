/- Part of a proof that a law returns true for every input. No condition. -/
import Derived.Test.YtgpmnlkgmadglaaGreatDoorTb
import Derived.Test.YtgpmnlkgmadglaaGreatDoorFwL
import Derived.Test.YtgpmnlkgmadglaaGreatDoorP9
namespace Go.Proofs.YtgpmnlkgmadglaaGreatDoor
open Go Go.cY Go.eR
set_option linter.unusedSimpArgs false
def fb (x : hp) : I := .agg [.int .i64 x.Kind, .int .i64 x.Value]
theorem Xc (x : hp) : (fb x).share = fb x := by
 simp only [fb, cC]
theorem azt (x : hp) : (fb x).c3 = true := by
 simp only [fb, I.c3, I.hZ, Bool.and_self]
def fk (x : List hp) : I := .slice (x.map fb)
theorem NT (x : List hp) : (fk x).share = fk x := by
 simp only [fk, cC, @cx _ fb fb (fun _ => Xc _)]
def fH (x : iN) : I := .agg [.int .i64 x.Kind, .int .i64 x.Number, .str x.Name, .slice (x.bN.map fk)]
theorem NU (x : iN) : (fH x).share = fH x := by
 simp only [fH, cC, @cx _ fk fk (fun _ => NT _)]
def gd (x : ic) : I := .agg [.str x.Name, .int .i64 x.c_, .slice (x.Body.map fH)]
theorem azu (x : ic) : (gd x).share = gd x := by
 simp only [gd, cC, @cx _ fH fH (fun _ => NU _)]
def aE (x : Int) : I := .int .i64 x
theorem gF (x : Int) : (aE x).share = aE x := by
 simp only [aE, cC]
theorem NV (x : Int) : (aE x).c3 = true := by
 simp only [aE, I.c3, I.hZ, Bool.and_self]
def i_ (x : lE) : I := .agg [.int .i64 x.dO, .int .i64 x.Part, .slice (x.cD.map aE)]
theorem azv (x : lE) : (i_ x).share = i_ x := by
 simp only [i_, cC, @cx _ aE aE (fun _ => gF _)]
def jn (x : List UInt8) : I := .str x
theorem Xd (x : List UInt8) : (jn x).share = jn x := by
 simp only [jn, cC]
theorem azw (x : List UInt8) : (jn x).c3 = true := by
 simp only [jn, I.c3, I.hZ, Bool.and_self]
def HV (x : List iN) : I := .slice (x.map fH)
theorem azx (x : List iN) : (HV x).share = HV x := by
 simp only [HV, cC, @cx _ fH fH (fun _ => NU _)]
def HW (x : List (List hp)) : I := .slice (x.map fk)
theorem azy (x : List (List hp)) : (HW x).share = HW x := by
 simp only [HW, cC, @cx _ fk fk (fun _ => NT _)]
def zU (x : List Int) : I := .slice (x.map aE)
theorem azz (x : List Int) : (zU x).share = zU x := by
 simp only [zU, cC, @cx _ aE aE (fun _ => gF _)]
def bj (x : ba) : I := .agg [.int .i64 x.Kind, .int .i64 x.Value]
theorem zV (x : ba) : (bj x).share = bj x := by
 simp only [bj, cC]
theorem Xe (x : ba) : (bj x).c3 = true := by
 simp only [bj, I.c3, I.hZ, Bool.and_self]
def cW (x : List ba) : I := .slice (x.map bj)
theorem HX (x : List ba) : (cW x).share = cW x := by
 simp only [cW, cC, @cx _ bj bj (fun _ => zV _)]
def bV (x : bs) : I := .agg [.int .i64 x.Kind, .int .i64 x.Number, .str x.Name, .slice (x.bN.map cW)]
theorem zW (x : bs) : (bV x).share = bV x := by
 simp only [bV, cC, @cx _ cW cW (fun _ => HX _)]
def bb (x : aS) : I := .agg [.str x.Name, .int .i64 x.c_, .slice (x.Body.map bV)]
theorem w9 (x : aS) : (bb x).share = bb x := by
 simp only [bb, cC, @cx _ bV bV (fun _ => zW _)]
def fA (x : List ba) : I := .au 2 (x.map bj)
theorem HY (x : List ba) : (fA x).share = cW x := by
 simp only [fA, cW, cC, @cx _ bj bj (fun _ => zV _)]
theorem NW (x : List ba) : (fA x).c3 = true := by
 simp only [fA, I.c3, I.hZ, Bool.and_self, @oA _ bj (fun _ => Xe _)]
def fl (x : bs) : I := .agg [.int .i64 x.Kind, .int .i64 x.Number, .str x.Name, .au 1 (x.bN.map fA)]
theorem HZ (x : bs) : (fl x).share = bV x := by
 simp only [fl, bV, cC, @cx _ fA cW (fun _ => HY _)]
theorem NX (x : bs) : (fl x).c3 = true := by
 simp only [fl, I.c3, I.hZ, Bool.and_self, @oA _ fA (fun _ => NW _)]
def fI (x : aS) : I := .agg [.str x.Name, .int .i64 x.c_, .au 4 (x.Body.map fl)]
theorem sO (x : aS) : (fI x).share = bb x := by
 simp only [fI, bb, cC, @cx _ fl bV (fun _ => HZ _)]
theorem azA (x : aS) : (fI x).c3 = true := by
 simp only [fI, I.c3, I.hZ, Bool.and_self, @oA _ fl (fun _ => NX _)]
def DO (x : List bs) : I := .au 4 (x.map fl)
def zX (x : List bs) : I := .slice (x.map bV)
theorem azB (x : List bs) : (zX x).share = zX x := by
 simp only [zX, cC, @cx _ bV bV (fun _ => zW _)]
theorem azC (x : List bs) : (DO x).share = zX x := by
 simp only [DO, zX, cC, @cx _ fl bV (fun _ => HZ _)]
theorem azD (x : List bs) : (DO x).c3 = true := by
 simp only [DO, I.c3, I.hZ, Bool.and_self, @oA _ fl (fun _ => NX _)]
def DP (x : List (List ba)) : I := .au 1 (x.map fA)
def zY (x : List (List ba)) : I := .slice (x.map cW)
theorem azE (x : List (List ba)) : (zY x).share = zY x := by
 simp only [zY, cC, @cx _ cW cW (fun _ => HX _)]
theorem azF (x : List (List ba)) : (DP x).share = zY x := by
 simp only [DP, zY, cC, @cx _ fA cW (fun _ => HY _)]
theorem azG (x : List (List ba)) : (DP x).c3 = true := by
 simp only [DP, I.c3, I.hZ, Bool.and_self, @oA _ fA (fun _ => NW _)]
def hC (x : dP) : I := .agg [.int .i64 x.dO, .int .i64 x.Part, .au 1 (x.cD.map aE)]
def eg (x : dP) : I := .agg [.int .i64 x.dO, .int .i64 x.Part, .slice (x.cD.map aE)]
theorem Xf (x : dP) : (eg x).share = eg x := by
 simp only [eg, cC, @cx _ aE aE (fun _ => gF _)]
theorem H0 (x : dP) : (hC x).share = eg x := by
 simp only [hC, eg, cC, @cx _ aE aE (fun _ => gF _)]
theorem Xg (x : dP) : (hC x).c3 = true := by
 simp only [hC, I.c3, I.hZ, Bool.and_self, @oA _ aE (fun _ => NV _)]
def DQ (x : List Int) : I := .au 1 (x.map aE)
theorem azH (x : List Int) : (DQ x).share = zU x := by
 simp only [DQ, zU, cC, @cx _ aE aE (fun _ => gF _)]
theorem azI (x : List Int) : (DQ x).c3 = true := by
 simp only [DQ, I.c3, I.hZ, Bool.and_self, @oA _ aE (fun _ => NV _)]
def b6 (x : bd) : I := .agg [.str x.Label, eg x.Next]
theorem oQ (x : bd) : (b6 x).share = b6 x := by
 simp only [b6, cC, Xf]
def dE (x : cn) : I := .agg [.int .i64 x.scope, .bool x.behind]
theorem NY (x : cn) : (dE x).share = dE x := by
 simp only [dE, cC]
theorem Xh (x : cn) : (dE x).c3 = true := by
 simp only [dE, I.c3, I.hZ, Bool.and_self]
def zZ (x : Bool) : I := .bool x
theorem azJ (x : Bool) : (zZ x).share = zZ x := by
 simp only [zZ, cC]
theorem azK (x : Bool) : (zZ x).c3 = true := by
 simp only [zZ, I.c3, I.hZ, Bool.and_self]
def cQ (x : bd) : I := .agg [.str x.Label, hC x.Next]
theorem nr (x : bd) : (cQ x).share = b6 x := by
 simp only [cQ, b6, cC, H0]
theorem H2 (x : bd) : (cQ x).c3 = true := by
 simp only [cQ, I.c3, I.hZ, Bool.and_self, Xg]
theorem kQ : (∀ a0 R, (cq.mk a0 R).term = a0) ∧ (∀ a0 R, (cq.mk a0 R).args = R) := ⟨fun _ _ => rfl, fun _ _ => rfl⟩
mutual
def n0 : cq → I
 | .mk a0 R => .agg [bj a0, .slice (oR R)]
def oR : List cq → List I
 | [] => []
 | y :: r => .ref (n0 y) :: oR r
end
def iA (x : cq) : I := .ref (n0 x)
theorem NZ : ∀ l, oR l = l.map iA
 | [] => by simp only [oR, List.map_nil]
 | y :: r => by simp only [oR, List.map_cons, NZ r, iA]
theorem uR (x : cq) : n0 x = .agg [bj x.term, .slice (x.args.map iA)] := by
 cases x; simp only [n0, NZ, cq.term, cq.args]
mutual
theorem N0 : ∀ x : cq, (n0 x).share = n0 x
 | .mk a0 R => by simp only [n0, cC, I.share, I.shares, N1 R, zV]
theorem N1 : ∀ l : List cq, I.shares (oR l) = oR l
 | [] => by simp only [oR, I.shares]
 | y :: r => by simp only [oR, I.shares, I.share, N0 y, N1 r]
end
theorem Xi (x : cq) : (iA x).share = iA x := by simp only [iA, I.share, N0]
mutual
def sP : cq → I
 | .mk a0 R => .agg [bj a0, .au 1 (pP R)]
def pP : List cq → List I
 | [] => []
 | y :: r => .aU (sP y) :: pP r
end
def h4 (x : cq) : I := .aU (sP x)
theorem N2 : ∀ l, pP l = l.map h4
 | [] => by simp only [pP, List.map_nil]
 | y :: r => by simp only [pP, List.map_cons, N2 r, h4]
theorem DR (x : cq) : sP x = .agg [bj x.term, .au 1 (x.args.map h4)] := by
 cases x; simp only [sP, N2, cq.term, cq.args]
mutual
theorem N3 : ∀ x : cq, (sP x).share = n0 x
 | .mk a0 R => by simp only [sP, n0, cC, I.share, I.shares, N4 R, zV]
theorem N4 : ∀ l : List cq, I.shares (pP l) = oR l
 | [] => by simp only [pP, oR, I.shares]
 | y :: r => by simp only [pP, oR, I.shares, I.share, N3 y, N4 r]
end
theorem N5 (x : cq) : (h4 x).share = iA x := by simp only [h4, iA, I.share, N3]
mutual
theorem N6 : ∀ x : cq, (sP x).c3 = true
 | .mk a0 R => by simp [sP, I.c3, I.hZ, N7 R, bj]
theorem N7 : ∀ l : List cq, I.hZ (pP l) = true
 | [] => by simp only [pP, I.hZ]
 | y :: r => by simp only [pP, I.hZ, I.c3, N6 y, N7 r, Bool.and_self]
end
theorem Xj (x : cq) : (h4 x).c3 = true := by simp only [h4, I.c3, N6]
def DS (x : List cq) : I := .au 1 (x.map h4)
def z1 (x : List cq) : I := .slice (x.map iA)
theorem azL (x : List cq) : (z1 x).share = z1 x := by
 simp only [z1, cC, @cx _ iA iA (fun _ => Xi _)]
theorem azM (x : List cq) : (DS x).share = z1 x := by
 simp only [DS, z1, cC, @cx _ h4 iA (fun _ => N5 _)]
theorem azN (x : List cq) : (DS x).c3 = true := by
 simp only [DS, I.c3, I.hZ, Bool.and_self, @oA _ h4 (fun _ => Xj _)]
def ae (r : List bU) (k : List Nat) (c : J) : J := .seq (.cd r (some k)) c
def iB (r : List bU) (a : List (List Nat)) (k : List Nat) (c : J) : J := .seq (.kM r a (some k)) c
abbrev bK (d t : Nat) (o : fG) : bU := ⟨some d, o, some (t, true)⟩
abbrev bW (d t : Nat) (o : fG) : bU := ⟨some d, o, some (t, false)⟩
abbrev azO (n : Nat) (k : List Nat) (f : Func) (c : J) : Prop := bu ⟨n, k⟩ (f.body.getD .skip) = some c.strip
def Xk : J := ae [bC 4 (-1)] [4] .ret
def Xl : J := .cond (.t 10) Xk .skip
def Xm : J := ae [ad 11 1,aD 4 11] [4] .ret
def Xn : J := .seq (ae [ad 9 1,aY 10 .lss 3 9 0] [1, 10] Xl) Xm
def Xo : J := ae [ad 5 1,ad 6 0,cX 7 179 6,cg 8 .sub 3 5 7,aD 1 8] [1] Xn
def Xp : J := ae [bC 4 0] [0, 1] Xo
theorem Xq : bu ⟨12, [0]⟩ (Tryz.f181.body.getD .skip) = some Xp.strip := by kernel_rfl
def Xr : J := ae [bC 4 (-1)] [4] .ret
def Xs : J := .cond (.t 11) Xr .skip
def Xt : J := .cond (.t 15) .skip (.exit 0)
def Xu : J := ae [bC 4 (-1)] [4] .ret
def Xv : J := .cond (.t 25) Xu .skip
def Xw : J := ae [ad 24 1,aY 25 .lss 3 24 0] [0, 1, 5, 25] Xv
def Xx : J := .cd [ad 16 5,aY 17 .add 3 16 1,aD 5 17] (some [0, 1, 5])
def Xy : J := .seq (.block 1 (ae [ad 18 0,ad 19 5,cV 20 180 18 19,aV 21 179 20,ad 22 1,dN 23 181 21 22,aD 1 23] [0, 1, 5] Xw)) Xx
def N8 : J := .seq (ae [ad 12 5,ad 13 0,cX 14 180 13,cg 15 .lss 3 12 14] [0, 1, 5, 15] Xt) Xy
def Xz : J := .block 0 (.loop N8)
def XA : J := ae [ad 26 1,aD 4 26] [4] .ret
def XB : J := .seq (ae [bC 5 0] [0, 1, 5] Xz) XA
def XC : J := .seq (ae [ad 10 1,aY 11 .lss 3 10 0] [0, 1, 11] Xs) XB
def XD : J := ae [ad 6 1,ad 7 0,cX 8 180 7,cg 9 .sub 3 6 8,aD 1 9] [0, 1] XC
def XE : J := ae [bC 4 0] [0, 1] XD
theorem XF : bu ⟨27, [0]⟩ (Tryz.f182.body.getD .skip) = some XE.strip := by kernel_rfl
def XG : J := ae [bC 4 (-1)] [4] .ret
def XH : J := .cond (.t 11) XG .skip
def XI : J := ae [bC 4 (-1)] [4] .ret
def XJ : J := .cond (.t 17) XI .skip
def XK : J := ae [ad 18 1,aD 4 18] [4] .ret
def XL : J := .seq (ae [ad 16 1,aY 17 .lss 3 16 0] [1, 17] XJ) XK
def XM : J := ae [bg 12 298 2 3,aV 13 180 12,ad 14 1,dN 15 182 13 14,aD 1 15] [1] XL
def XN : J := .seq (ae [ad 10 1,aY 11 .lss 3 10 0] [1, 2, 11] XH) XM
def XO : J := ae [ad 5 1,bg 6 298 2 2,aV 7 9 6,cX 8 9 7,cg 9 .sub 3 5 8,aD 1 9] [1, 2] XN
def XP : J := ae [ro 2 (.dj 298 (.t 0)),bC 4 0] [1, 2] XO
theorem XQ : bu ⟨19, [0]⟩ (Tryz.f227.body.getD .skip) = some XP.strip := by kernel_rfl
def XR : J := ae [bC 4 (-1)] [4] .ret
def XS : J := .cond (.t 11) XR .skip
def XT : J := .cond (.t 15) .skip (.exit 0)
def XU : J := ae [bC 4 (-1)] [4] .ret
def XV : J := .cond (.t 25) XU .skip
def XW : J := ae [ad 24 1,aY 25 .lss 3 24 0] [0, 1, 5, 25] XV
def XX : J := .cd [ad 16 5,aY 17 .add 3 16 1,aD 5 17] (some [0, 1, 5])
def XY : J := .seq (.block 1 (ae [ad 18 0,ad 19 5,cV 20 148 18 19,aV 21 298 20,ad 22 1,dN 23 227 21 22,aD 1 23] [0, 1, 5] XW)) XX
def N9 : J := .seq (ae [ad 12 5,ad 13 0,cX 14 148 13,cg 15 .lss 3 12 14] [0, 1, 5, 15] XT) XY
def XZ : J := .block 0 (.loop N9)
def X0 : J := ae [ad 26 1,aD 4 26] [4] .ret
def X1 : J := .seq (ae [bC 5 0] [0, 1, 5] XZ) X0
def X2 : J := .seq (ae [ad 10 1,aY 11 .lss 3 10 0] [0, 1, 11] XS) X1
def X3 : J := ae [ad 6 1,ad 7 0,cX 8 148 7,cg 9 .sub 3 6 8,aD 1 9] [0, 1] X2
def X4 : J := ae [bC 4 0] [0, 1] X3
theorem X5 : bu ⟨27, [0]⟩ (Tryz.f156.body.getD .skip) = some X4.strip := by kernel_rfl
def X6 : J := ae [bC 4 (-1)] [4] .ret
def X7 : J := .cond (.t 11) X6 .skip
def X8 : J := ae [bC 4 (-1)] [4] .ret
def X9 : J := .cond (.t 17) X8 .skip
def X_ : J := ae [ad 18 1,aD 4 18] [4] .ret
def Ya : J := .seq (ae [ad 16 1,aY 17 .lss 3 16 0] [1, 17] X9) X_
def Yb : J := ae [bg 12 150 2 2,aV 13 148 12,ad 14 1,dN 15 156 13 14,aD 1 15] [1] Ya
def Yc : J := .seq (ae [ad 10 1,aY 11 .lss 3 10 0] [1, 2, 11] X7) Yb
def Yd : J := ae [ad 5 1,bg 6 150 2 0,aV 7 9 6,cX 8 9 7,cg 9 .sub 3 5 8,aD 1 9] [1, 2] Yc
def Ye : J := ae [ro 2 (.dj 150 (.t 0)),bC 4 0] [1, 2] Yd
theorem Yf : bu ⟨19, [0]⟩ (Tryz.f94.body.getD .skip) = some Ye.strip := by kernel_rfl
def Yg : J := ae [bC 4 (-1)] [4] .ret
def Yh : J := .cond (.t 11) Yg .skip
def Yi : J := .cond (.t 15) .skip (.exit 0)
def Yj : J := ae [bC 4 (-1)] [4] .ret
def Yk : J := .cond (.t 25) Yj .skip
def Yl : J := ae [ad 24 1,aY 25 .lss 3 24 0] [0, 1, 5, 25] Yk
def Ym : J := .cd [ad 16 5,aY 17 .add 3 16 1,aD 5 17] (some [0, 1, 5])
def Yn : J := .seq (.block 1 (ae [ad 18 0,ad 19 5,cV 20 64 18 19,aV 21 150 20,ad 22 1,dN 23 94 21 22,aD 1 23] [0, 1, 5] Yl)) Ym
def N_ : J := .seq (ae [ad 12 5,ad 13 0,cX 14 64 13,cg 15 .lss 3 12 14] [0, 1, 5, 15] Yi) Yn
def Yo : J := .block 0 (.loop N_)
def Yp : J := ae [ad 26 1,aD 4 26] [4] .ret
def Yq : J := .seq (ae [bC 5 0] [0, 1, 5] Yo) Yp
def Yr : J := .seq (ae [ad 10 1,aY 11 .lss 3 10 0] [0, 1, 11] Yh) Yq
def Ys : J := ae [ad 6 1,ad 7 0,cX 8 64 7,cg 9 .sub 3 6 8,aD 1 9] [0, 1] Yr
def Yt : J := ae [bC 4 0] [0, 1] Ys
theorem Yu : bu ⟨27, [0]⟩ (Tryz.f43.body.getD .skip) = some Yt.strip := by kernel_rfl
def Yv : J := ae [bC 4 (-1)] [4] .ret
def Yw : J := .cond (.t 10) Yv .skip
def Yx : J := ae [ad 11 1,aD 4 11] [4] .ret
def Yy : J := .seq (ae [ad 9 1,aY 10 .lss 3 9 0] [1, 10] Yw) Yx
def Yz : J := ae [ad 5 1,ad 6 0,cX 7 22 6,cg 8 .sub 3 5 7,aD 1 8] [1] Yy
def YA : J := ae [bC 4 0] [0, 1] Yz
theorem YB : bu ⟨12, [0]⟩ (Tryz.f64.body.getD .skip) = some YA.strip := by kernel_rfl
def YC : J := ae [bC 4 (-1)] [4] .ret
def YD : J := .cond (.t 10) YC .skip
def YE : J := ae [ad 11 1,aD 4 11] [4] .ret
def YF : J := .seq (ae [ad 9 1,aY 10 .lss 3 9 0] [1, 10] YD) YE
def YG : J := ae [bg 5 66 2 2,aV 6 22 5,ad 7 1,dN 8 64 6 7,aD 1 8] [1] YF
def YH : J := ae [ro 2 (.dj 66 (.t 0)),bC 4 0] [1, 2] YG
theorem YI : bu ⟨12, [0]⟩ (Tryz.f44.body.getD .skip) = some YH.strip := by kernel_rfl
def YJ : J := ae [aV 10 278 3,eM 278 2 10] [2] .ret
def YK : J := ae [bg 7 326 1 1,aV 8 2 7,bg 9 278 3 1,eM 2 9 8] [2, 3] YJ
def YL : J := ae [bg 4 326 1 0,aV 5 2 4,bg 6 278 3 0,eM 2 6 5] [1, 2, 3] YK
def YM : J := ae [jK 3 278] [1, 2, 3] YL
def YN : J := ae [ro 1 (.dj 326 (.t 0)),jK 2 278] [1, 2] YM
theorem YO : bu ⟨11, [0]⟩ (Tryz.f256.body.getD .skip) = some YN.strip := by kernel_rfl
def YP : J := .cond (.t 11) .skip (.exit 0)
def YQ : J := .cd [ad 12 4,aY 13 .add 3 12 1,aD 4 13] (some [0, 3, 4])
def YR : J := .seq (.block 1 (.cd [ad 14 3,ad 15 4,ad 16 0,ad 17 4,cV 18 179 16 17,aV 19 326 18,dM 20 256 19,cV 21 186 14 15,eM 278 21 20] (some [0, 3, 4]))) YQ
def Oa : J := .seq (ae [ad 8 4,ad 9 0,cX 10 179 9,cg 11 .lss 3 8 10] [0, 3, 4, 11] YP) YR
def YS : J := .block 0 (.loop Oa)
def YT : J := ae [ad 22 3,aD 2 22] [2] .ret
def YU : J := .seq (ae [bC 4 0] [0, 3, 4] YS) YT
def YV : J := ae [ad 5 0,cX 6 179 5,ro 7 (.e7 186 (.t 6) (.t 6)),aD 3 7] [0, 3] YU
def YW : J := ae [j0 2] [0] YV
theorem YX : bu ⟨23, [0]⟩ (Tryz.f188.body.getD .skip) = some YW.strip := by kernel_rfl
def YY : J := .cond (.t 11) .skip (.exit 0)
def YZ : J := .cd [ad 12 4,aY 13 .add 3 12 1,aD 4 13] (some [0, 3, 4])
def Y0 : J := .seq (.block 1 (.cd [ad 14 3,ad 15 4,ad 16 0,ad 17 4,cV 18 180 16 17,aV 19 179 18,dM 20 188 19,cV 21 187 14 15,eM 186 21 20] (some [0, 3, 4]))) YZ
def Ob : J := .seq (ae [ad 8 4,ad 9 0,cX 10 180 9,cg 11 .lss 3 8 10] [0, 3, 4, 11] YY) Y0
def Y1 : J := .block 0 (.loop Ob)
def Y2 : J := ae [ad 22 3,aD 2 22] [2] .ret
def Y3 : J := .seq (ae [bC 4 0] [0, 3, 4] Y1) Y2
def Y4 : J := ae [ad 5 0,cX 6 180 5,ro 7 (.e7 187 (.t 6) (.t 6)),aD 3 7] [0, 3] Y3
def Y5 : J := ae [j0 2] [0] Y4
theorem Y6 : bu ⟨23, [0]⟩ (Tryz.f189.body.getD .skip) = some Y5.strip := by kernel_rfl
def Y7 : J := ae [aV 17 230 3,eM 230 2 17] [2] .ret
def Y8 : J := ae [bg 13 298 1 3,aV 14 180 13,dM 15 189 14,bg 16 230 3 3,eM 187 16 15] [2, 3] Y7
def Y9 : J := ae [bg 10 298 1 2,aV 11 9 10,bg 12 230 3 2,eM 9 12 11] [1, 2, 3] Y8
def Y_ : J := ae [bg 7 298 1 1,aV 8 2 7,bg 9 230 3 1,eM 2 9 8] [1, 2, 3] Y9
def Za : J := ae [bg 4 298 1 0,aV 5 2 4,bg 6 230 3 0,eM 2 6 5] [1, 2, 3] Y_
def Zb : J := ae [jK 3 230] [1, 2, 3] Za
def Zc : J := ae [ro 1 (.dj 298 (.t 0)),jK 2 230] [1, 2] Zb
theorem Zd : bu ⟨18, [0]⟩ (Tryz.f235.body.getD .skip) = some Zc.strip := by kernel_rfl
def Ze : J := .cond (.t 11) .skip (.exit 0)
def Zf : J := .cd [ad 12 4,aY 13 .add 3 12 1,aD 4 13] (some [0, 3, 4])
def Zg : J := .seq (.block 1 (.cd [ad 14 3,ad 15 4,ad 16 0,ad 17 4,cV 18 148 16 17,aV 19 298 18,dM 20 235 19,cV 21 156 14 15,eM 230 21 20] (some [0, 3, 4]))) Zf
def Oc : J := .seq (ae [ad 8 4,ad 9 0,cX 10 148 9,cg 11 .lss 3 8 10] [0, 3, 4, 11] Ze) Zg
def Zh : J := .block 0 (.loop Oc)
def Zi : J := ae [ad 22 3,aD 2 22] [2] .ret
def Zj : J := .seq (ae [bC 4 0] [0, 3, 4] Zh) Zi
def Zk : J := ae [ad 5 0,cX 6 148 5,ro 7 (.e7 156 (.t 6) (.t 6)),aD 3 7] [0, 3] Zj
def Zl : J := ae [j0 2] [0] Zk
theorem Zm : bu ⟨23, [0]⟩ (Tryz.f161.body.getD .skip) = some Zl.strip := by kernel_rfl
def Zn : J := ae [aV 14 158 3,eM 158 2 14] [2] .ret
def Zo : J := ae [bg 10 150 1 2,aV 11 148 10,dM 12 161 11,bg 13 158 3 2,eM 156 13 12] [2, 3] Zn
def Zp : J := ae [bg 7 150 1 1,aV 8 2 7,bg 9 158 3 1,eM 2 9 8] [1, 2, 3] Zo
def Zq : J := ae [bg 4 150 1 0,aV 5 9 4,bg 6 158 3 0,eM 9 6 5] [1, 2, 3] Zp
def Zr : J := ae [jK 3 158] [1, 2, 3] Zq
def Zs : J := ae [ro 1 (.dj 150 (.t 0)),jK 2 158] [1, 2] Zr
theorem Zt : bu ⟨15, [0]⟩ (Tryz.f98.body.getD .skip) = some Zs.strip := by kernel_rfl
def Zu : J := .cond (.t 11) .skip (.exit 0)
def Zv : J := .cd [ad 12 4,aY 13 .add 3 12 1,aD 4 13] (some [0, 3, 4])
def Zw : J := .seq (.block 1 (.cd [ad 14 3,ad 15 4,ad 16 0,ad 17 4,cV 18 64 16 17,aV 19 150 18,dM 20 98 19,cV 21 72 14 15,eM 158 21 20] (some [0, 3, 4]))) Zv
def Od : J := .seq (ae [ad 8 4,ad 9 0,cX 10 64 9,cg 11 .lss 3 8 10] [0, 3, 4, 11] Zu) Zw
def Zx : J := .block 0 (.loop Od)
def Zy : J := ae [ad 22 3,aD 2 22] [2] .ret
def Zz : J := .seq (ae [bC 4 0] [0, 3, 4] Zx) Zy
def ZA : J := ae [ad 5 0,cX 6 64 5,ro 7 (.e7 72 (.t 6) (.t 6)),aD 3 7] [0, 3] Zz
def ZB : J := ae [j0 2] [0] ZA
theorem ZC : bu ⟨23, [0]⟩ (Tryz.f46.body.getD .skip) = some ZB.strip := by kernel_rfl
def ZD : J := .cond (.t 11) .skip (.exit 0)
def ZE : J := .cd [ad 12 4,aY 13 .add 3 12 1,aD 4 13] (some [0, 3, 4])
def ZF : J := .seq (.block 1 (.cd [ad 14 3,ad 15 4,ad 16 0,ad 17 4,cV 18 22 16 17,aV 19 2 18,cV 20 22 14 15,eM 2 20 19] (some [0, 3, 4]))) ZE
def Oe : J := .seq (ae [ad 8 4,ad 9 0,cX 10 22 9,cg 11 .lss 3 8 10] [0, 3, 4, 11] ZD) ZF
def ZG : J := .block 0 (.loop Oe)
def ZH : J := ae [ad 21 3,aD 2 21] [2] .ret
def ZI : J := .seq (ae [bC 4 0] [0, 3, 4] ZG) ZH
def ZJ : J := ae [ad 5 0,cX 6 22 5,ro 7 (.e7 22 (.t 6) (.t 6)),aD 3 7] [0, 3] ZI
def ZK : J := ae [j0 2] [0] ZJ
theorem oS : bu ⟨22, [0]⟩ (Tryz.f14.body.getD .skip) = some ZK.strip := by kernel_rfl
def ZL : J := ae [aV 14 74 3,eM 74 2 14] [2] .ret
def ZM : J := ae [bg 10 66 1 2,aV 11 22 10,dM 12 14 11,bg 13 74 3 2,eM 22 13 12] [2, 3] ZL
def ZN : J := ae [bg 7 66 1 1,aV 8 2 7,bg 9 74 3 1,eM 2 9 8] [1, 2, 3] ZM
def ZO : J := ae [bg 4 66 1 0,aV 5 2 4,bg 6 74 3 0,eM 2 6 5] [1, 2, 3] ZN
def ZP : J := ae [jK 3 74] [1, 2, 3] ZO
def ZQ : J := ae [ro 1 (.dj 66 (.t 0)),jK 2 74] [1, 2] ZP
theorem ZR : bu ⟨15, [0]⟩ (Tryz.f47.body.getD .skip) = some ZQ.strip := by kernel_rfl
def ZS : J := ae [ad 3 0,ro 4 (.cf .geq 5 (.t 3) (.c (.int .u8 97))),ad 5 4,bK 6 5 (.cz (.t 0)),bK 7 5 (.cf .leq 5 (.t 6) (.c (.int .u8 122))),ro 8 (.pick (.t 5) (.t 7) (.c (.bool false))),aD 2 8] [2] .ret
def ZT : J := ae [b1 2 false] [0] ZS
theorem ZU : bu ⟨9, [0]⟩ (Tryz.f228.body.getD .skip) = some ZT.strip := by kernel_rfl
def ZV : J := ae [ad 3 0,ro 4 (.cf .geq 5 (.t 3) (.c (.int .u8 48))),ad 5 4,bK 6 5 (.cz (.t 0)),bK 7 5 (.cf .leq 5 (.t 6) (.c (.int .u8 57))),ro 8 (.pick (.t 5) (.t 7) (.c (.bool false))),aD 2 8] [2] .ret
def ZW : J := ae [b1 2 false] [0] ZV
theorem ZX : bu ⟨9, [0]⟩ (Tryz.f229.body.getD .skip) = some ZW.strip := by kernel_rfl
def ZY : J := ae [b1 2 false] [2] .ret
def ZZ : J := .cond (.t 16) ZY .skip
def Z0 : J := .cond (.t 20) .skip (.exit 0)
def Z1 : J := ae [b1 2 false] [2] .ret
def Z2 : J := .cond (.t 34) Z1 .skip
def Z3 : J := .cd [ad 21 3,aY 22 .add 3 21 1,aD 3 22] (some [0, 3])
def Z4 : J := .seq (.block 1 (ae [ad 23 0,ad 24 3,Nv 25 9 23 24,dM 26 228 25,gw 27 26,ad 28 27,bK 29 28 (.cz (.t 0)),bK 30 28 (.cz (.t 3)),bK 31 28 (.idx 9 (.t 29) (.t 30)),⟨some 32, .call (.f 229) [(.t 31)], some (28, true)⟩,bK 33 28 (.un .not (.t 32)),ro 34 (.pick (.t 28) (.t 33) (.c (.bool false)))] [0, 3, 34] Z2)) Z3
def Of : J := .seq (ae [ad 17 3,ad 18 0,cX 19 9 18,cg 20 .lss 3 17 19] [0, 3, 20] Z0) Z4
def Z5 : J := .block 0 (.loop Of)
def Z6 : J := ae [b1 2 true] [2] .ret
def Z7 : J := .seq (ae [bC 3 0] [0, 3] Z5) Z6
def Z8 : J := .seq (ae [ad 4 0,ro 5 (.cf .eql 9 (.t 4) (.c (.str []))),ad 6 5,bW 7 6 (.cz (.t 0)),bW 8 6 (.len 9 (.t 7)),bW 9 6 (.cf .gtr 3 (.t 8) (.c (.int .i64 10))),ro 10 (.pick (.t 6) (.c (.bool true)) (.t 9)),ad 11 10,bW 12 11 (.cz (.t 0)),bW 13 11 (.idx 9 (.t 12) (.c (.int .i64 0))),⟨some 14, .call (.f 228) [(.t 13)], some (11, false)⟩,bW 15 11 (.un .not (.t 14)),ro 16 (.pick (.t 11) (.c (.bool true)) (.t 15))] [0, 16] ZZ) Z7
def Z9 : J := ae [b1 2 false] [0] Z8
theorem Z_ : bu ⟨35, [0]⟩ (Tryz.f157.body.getD .skip) = some Z9.strip := by kernel_rfl
def aaa : J := ae [ad 7 0,ad 8 1,cg 9 .geq 2 7 8,ad 10 9,bK 11 10 (.cz (.t 0)),bK 12 10 (.cz (.t 2)),bK 13 10 (.cf .leq 2 (.t 11) (.t 12)),ro 14 (.pick (.t 10) (.t 13) (.c (.bool false))),aD 6 14] [6] .ret
def aab : J := ae [b1 6 false] [0, 1, 2] aaa
theorem aac : bu ⟨15, [0, 1, 2]⟩ (Tryz.f115.body.getD .skip) = some aab.strip := by kernel_rfl
def aad : J := .cd [aY 10 .eql 2 6 4,aD 7 10] (some [6, 7])
def aae : J := .cond (.t 7) .skip aad
def aaf : J := ae [aY 9 .eql 2 6 3,aD 7 9] [6, 7] aae
def aag : J := .cond (.t 7) .skip aaf
def aah : J := ae [bC 2 1] [2] .ret
def aai : J := ae [bC 2 2] [2] .ret
def aaj : J := .cond (.t 11) aai .skip
def aak : J := ae [aY 12 .eql 2 6 2,aD 11 12] [11] aaj
def Og : J := .cond (.t 7) aah aak
def aal : J := .block 0 (.seq (ae [aY 8 .eql 2 6 1,aD 7 8] [6, 7] aag) Og)
def aam : J := ae [bC 2 0] [2] .ret
def aan : J := .seq (ae [ad 3 0,ga 4 3,bg 5 230 4 0,aV 6 2 5] [6] aal) aam
def aao : J := ae [bC 2 0] [0] aan
theorem aap : bu ⟨13, [0]⟩ (Tryz.f274.body.getD .skip) = some aao.strip := by kernel_rfl
def aaq : J := ae [b1 2 false] [2] .ret
def aar : J := .cond (.t 12) aaq .skip
def aas : J := .cond (.t 16) .skip (.exit 0)
def aat : J := ae [b1 2 false] [2] .ret
def aau : J := .cond (.t 20) aat .skip
def aav : J := .cd [ad 21 3,ad 22 0,ad 23 4,cV 24 156 22 23,dM 25 274 24,aY 26 .sub 2 25 1,cg 27 .add 2 21 26,aD 3 27] (some [0, 3, 4])
def aaw : J := .cd [ad 17 4,aY 18 .add 3 17 1,aD 4 18] (some [0, 3, 4])
def aax : J := .seq (.block 1 (.seq (ae [ad 19 3,aY 20 .eql 2 19 0] [0, 3, 4, 20] aau) aav)) aaw
def Oh : J := .seq (ae [ad 13 4,ad 14 0,cX 15 156 14,cg 16 .lss 3 13 15] [0, 3, 4, 16] aas) aax
def aay : J := .block 0 (.loop Oh)
def aaz : J := ae [ad 28 3,aY 29 .eql 2 28 0,aD 2 29] [2] .ret
def aaA : J := .seq (ae [bC 4 0] [0, 3, 4] aay) aaz
def aaB : J := ae [bC 3 1] [0, 3] aaA
def aaC : J := .seq (ae [ad 5 0,cX 6 156 5,aY 7 .eql 3 6 0,ad 8 7,bW 9 8 (.cz (.t 0)),bW 10 8 (.len 156 (.t 9)),bW 11 8 (.cf .gtr 3 (.t 10) (.c (.int .i64 20))),ro 12 (.pick (.t 8) (.c (.bool true)) (.t 11))] [0, 12] aar) aaB
def aaD : J := ae [b1 2 false] [0] aaC
theorem aaE : bu ⟨30, [0]⟩ (Tryz.f230.body.getD .skip) = some aaD.strip := by kernel_rfl
def aaF : J := .cd [aY 9 .eql 2 6 2,aD 7 9] (some [0, 6, 7])
def aaG : J := .cond (.t 7) .skip aaF
def aaH : J := ae [ad 10 0,ga 11 10,bg 12 230 11 1,aV 13 2 12,aY 14 .eql 2 13 0,ad 15 14,bK 16 15 (.cz (.t 0)),bK 17 15 (.fs (.t 16)),bK 18 15 (.di 230 (.t 17) 2),bK 19 15 (.cS 9 (.t 18)),⟨some 20, .cf .eql 9 (.t 19) (.c (.str [])), some (15, true)⟩,ro 21 (.pick (.t 15) (.t 20) (.c (.bool false))),ad 22 21,bK 23 22 (.cz (.t 0)),bK 24 22 (.fs (.t 23)),bK 25 22 (.di 230 (.t 24) 3),bK 26 22 (.cS 187 (.t 25)),bK 27 22 (.len 187 (.t 26)),bK 28 22 (.cf .eql 3 (.t 27) (.c (.int .i64 0))),ro 29 (.pick (.t 22) (.t 28) (.c (.bool false))),aD 2 29] [2] .ret
def aaI : J := ae [ad 32 0,ga 33 32,bg 34 230 33 1,aV 35 2 34,aY 36 .eql 2 35 0,aD 2 36] [2] .ret
def aaJ : J := ae [ad 39 0,ga 40 39,bg 41 230 40 1,aV 42 2 41,aY 43 .eql 2 42 0,ad 44 43,bK 45 44 (.cz (.t 0)),bK 46 44 (.fs (.t 45)),bK 47 44 (.di 230 (.t 46) 2),bK 48 44 (.cS 9 (.t 47)),⟨some 49, .cf .eql 9 (.t 48) (.c (.str [])), some (44, true)⟩,ro 50 (.pick (.t 44) (.t 49) (.c (.bool false))),aD 2 50] [2] .ret
def aaK : J := ae [ad 53 0,ga 54 53,bg 55 230 54 2,aV 56 9 55,ro 57 (.cf .eql 9 (.t 56) (.c (.str []))),ad 58 57,bK 59 58 (.cz (.t 0)),bK 60 58 (.fs (.t 59)),bK 61 58 (.di 230 (.t 60) 3),bK 62 58 (.cS 187 (.t 61)),bK 63 58 (.len 187 (.t 62)),bK 64 58 (.cf .eql 3 (.t 63) (.c (.int .i64 0))),ro 65 (.pick (.t 58) (.t 64) (.c (.bool false))),aD 2 65] [2] .ret
def aaL : J := ae [ad 68 0,ga 69 68,bg 70 230 69 2,aV 71 9 70,ro 72 (.cf .eql 9 (.t 71) (.c (.str []))),aD 2 72] [2] .ret
def aaM : J := .cond (.t 66) aaL .skip
def aaN : J := ae [aY 67 .eql 2 6 5,aD 66 67] [0, 66] aaM
def aaO : J := .cond (.t 51) aaK aaN
def aaP : J := ae [aY 52 .eql 2 6 4,aD 51 52] [0, 6, 51] aaO
def aaQ : J := .cond (.t 37) aaJ aaP
def aaR : J := ae [aY 38 .eql 2 6 3,aD 37 38] [0, 6, 37] aaQ
def aaS : J := .cond (.t 30) aaI aaR
def aaT : J := ae [aY 31 .eql 2 6 1,aD 30 31] [0, 6, 30] aaS
def Oi : J := .cond (.t 7) aaH aaT
def aaU : J := .block 0 (.seq (ae [aY 8 .eql 2 6 0,aD 7 8] [0, 6, 7] aaG) Oi)
def aaV : J := ae [b1 2 false] [2] .ret
def aaW : J := .seq (ae [ad 3 0,ga 4 3,bg 5 230 4 0,aV 6 2 5] [0, 6] aaU) aaV
def aaX : J := ae [b1 2 false] [0] aaW
theorem aaY : bu ⟨73, [0]⟩ (Tryz.f275.body.getD .skip) = some aaX.strip := by kernel_rfl
def aaZ : J := .cond (.t 7) .skip (.exit 0)
def aa0 : J := .cd [ad 15 1,aY 16 .add 2 15 1,aD 1 16] (some [0, 1, 5])
def aa1 : J := .block 1 (ae [ad 8 5,ad 9 0,ad 10 1,cV 11 156 9 10,dM 12 274 11,aY 13 .sub 2 12 1,cg 14 .add 2 8 13,aD 5 14] [0, 1, 5] aa0)
def Oj : J := .seq (ae [ad 6 5,aY 7 .gtr 2 6 0] [0, 1, 5, 7] aaZ) aa1
def aa2 : J := ae [ad 17 1,aD 4 17] [4] .ret
def aa3 : J := .seq (.block 0 (.loop Oj)) aa2
def aa4 : J := ae [bC 5 1] [0, 1, 5] aa3
def aa5 : J := ae [bC 4 0] [0, 1] aa4
theorem aa6 : bu ⟨18, [0]⟩ (Tryz.f232.body.getD .skip) = some aa5.strip := by kernel_rfl
def aa7 : J := .cond (.t 13) .skip (.exit 0)
def aa8 : J := .cd [ad 35 5,aY 36 .add 2 35 1,aD 5 36] (some [0, 1, 5, 6])
def aa9 : J := .cond (.t 34) aa8 .skip
def Ok : J := .cd [ad 14 6,aY 15 .add 2 14 1,aD 6 15] (some [0, 1, 5, 6])
def aa_ : J := .seq (.block 1 (ae [ad 16 0,ga 17 16,bg 18 158 17 2,aV 19 156 18,ad 20 6,cV 21 156 19 20,bg 22 230 21 0,aV 23 2 22,aY 24 .eql 2 23 4,ad 25 24,bK 26 25 (.cz (.t 0)),bK 27 25 (.fs (.t 26)),bK 28 25 (.di 158 (.t 27) 2),bK 29 25 (.cS 156 (.t 28)),bK 30 25 (.cz (.t 6)),⟨some 31, .call (.f 232) [(.t 29), (.t 30)], some (25, true)⟩,bK 32 25 (.cz (.t 1)),bK 33 25 (.cf .gtr 2 (.t 31) (.t 32)),ro 34 (.pick (.t 25) (.t 33) (.c (.bool false)))] [0, 1, 5, 6, 34] aa9)) Ok
def Ol : J := .seq (ae [ad 11 6,ad 12 1,cg 13 .lss 2 11 12] [0, 1, 5, 6, 13] aa7) aa_
def aba : J := .block 0 (.loop Ol)
def abb : J := ae [ad 37 5,aD 4 37] [4] .ret
def abc : J := .seq (ae [bC 6 0] [0, 1, 5, 6] aba) abb
def abd : J := ae [ad 7 0,ga 8 7,bg 9 158 8 1,aV 10 2 9,aD 5 10] [0, 1, 5] abc
def abe : J := ae [bC 4 0] [0, 1] abd
theorem abf : bu ⟨38, [0, 1]⟩ (Tryz.f159.body.getD .skip) = some abe.strip := by kernel_rfl
def abg : J := ae [ad 11 0,ga 12 11,bg 13 278 12 1,aV 14 2 13,ro 15 (.call (.f 115) [(.t 14), (.c (.int .i64 0)), (.c (.int .i64 63))]),aD 4 15] [4] .ret
def abh : J := ae [ad 18 0,ga 19 18,bg 20 278 19 1,aV 21 2 20,ad 22 1,aY 23 .sub 2 22 1,ro 24 (.call (.f 115) [(.t 21), (.c (.int .i64 0)), (.t 23)]),aD 4 24] [4] .ret
def abj : J := ae [ad 27 0,ga 28 27,bg 29 278 28 1,aV 30 2 29,ro 31 (.call (.f 115) [(.t 30), (.c (.int .i64 0)), (.c (.int .i64 8))]),aD 4 31] [4] .ret
def abk : J := ae [ad 34 0,ga 35 34,bg 36 278 35 1,aV 37 2 36,aY 38 .eql 2 37 0,aD 4 38] [4] .ret
def abl : J := .cond (.t 32) abk .skip
def abm : J := ae [aY 33 .eql 2 8 3,aD 32 33] [0, 32] abl
def abn : J := .cond (.t 25) abj abm
def abo : J := ae [aY 26 .eql 2 8 2,aD 25 26] [0, 8, 25] abn
def abp : J := .cond (.t 16) abh abo
def abq : J := ae [aY 17 .eql 2 8 1,aD 16 17] [0, 1, 8, 16] abp
def abr : J := .cond (.t 9) abg abq
def abt : J := .block 0 (ae [aY 10 .eql 2 8 0,aD 9 10] [0, 1, 8, 9] abr)
def abu : J := ae [b1 4 false] [4] .ret
def abv : J := .seq (ae [ad 5 0,ga 6 5,bg 7 278 6 0,aV 8 2 7] [0, 1, 8] abt) abu
def abw : J := ae [b1 4 false] [0, 1] abv
theorem abx : bu ⟨39, [0, 1]⟩ (Tryz.f251.body.getD .skip) = some abw.strip := by kernel_rfl
def aby : J := ae [bC 2 2] [2] .ret
def abz : J := ae [bC 2 1] [2] .ret
def abA : J := .cond (.t 9) abz .skip
def abB : J := ae [aY 10 .eql 2 6 3,aD 9 10] [9] abA
def abC : J := .cond (.t 7) aby abB
def abD : J := .block 0 (ae [aY 8 .eql 2 6 2,aD 7 8] [6, 7] abC)
def abE : J := ae [bC 2 0] [2] .ret
def abF : J := .seq (ae [ad 3 0,ga 4 3,bg 5 278 4 0,aV 6 2 5] [6] abD) abE
def abG : J := ae [bC 2 0] [0] abF
theorem abH : bu ⟨11, [0]⟩ (Tryz.f252.body.getD .skip) = some abG.strip := by kernel_rfl
def abI : J := ae [b1 6 false] [6] .ret
def abJ : J := .cond (.t 12) abI .skip
def abK : J := .cond (.t 16) .skip (.exit 0)
def abL : J := ae [b1 6 false] [6] .ret
def abM : J := .cond (.t 28) abL .skip
def abN : J := .cd [ad 29 7,ad 30 0,ad 31 8,cV 32 186 30 31,dM 33 252 32,aY 34 .sub 2 33 1,cg 35 .add 2 29 34,aD 7 35] (some [0, 1, 7, 8])
def abO : J := .cd [ad 17 8,aY 18 .add 3 17 1,aD 8 18] (some [0, 1, 7, 8])
def abP : J := .seq (.block 1 (.seq (ae [ad 19 7,aY 20 .eql 2 19 0,ad 21 20,bW 22 21 (.cz (.t 0)),bW 23 21 (.cz (.t 8)),bW 24 21 (.eX 186 (.t 22) (.t 23)),bW 25 21 (.cz (.t 1)),⟨some 26, .call (.f 251) [(.t 24), (.t 25)], some (21, false)⟩,bW 27 21 (.un .not (.t 26)),ro 28 (.pick (.t 21) (.c (.bool true)) (.t 27))] [0, 1, 7, 8, 28] abM) abN)) abO
def Om : J := .seq (ae [ad 13 8,ad 14 0,cX 15 186 14,cg 16 .lss 3 13 15] [0, 1, 7, 8, 16] abK) abP
def abQ : J := .block 0 (.loop Om)
def abR : J := ae [ad 36 7,aY 37 .eql 2 36 0,aD 6 37] [6] .ret
def abS : J := .seq (ae [bC 8 0] [0, 1, 7, 8] abQ) abR
def abT : J := ae [bC 7 1] [0, 1, 7] abS
def abU : J := .seq (ae [ad 9 0,cX 10 186 9,ad 11 2,cg 12 .gtr 2 10 11] [0, 1, 12] abJ) abT
def abV : J := ae [b1 6 false] [0, 1, 2] abU
theorem abW : bu ⟨38, [0, 1, 2]⟩ (Tryz.f184.body.getD .skip) = some abV.strip := by kernel_rfl
def abX : J := ae [bC 6 2] [6] .ret
def abY : J := .cond (.t 19) abX .skip
def abZ : J := ae [bC 6 3] [6] .ret
def On : J := .cond (.t 28) abZ .skip
def ab0 : J := ae [bC 6 4] [6] .ret
def Oo : J := .cond (.t 51) ab0 .skip
def ab1 : J := ae [bC 6 5] [6] .ret
def ab2 : J := .cond (.t 69) ab1 .skip
def ab3 : J := ae [ad 59 8,aY 60 .gtr 2 59 2,ad 61 60,bW 62 61 (.cz (.t 8)),bW 63 61 (.cf .gtr 2 (.t 62) (.c (.int .i64 0))),bW 64 61 (.cz (.t 63)),bK 65 64 (.di 230 (.t 7) 2),bK 66 64 (.cS 9 (.t 65)),⟨some 67, .cf .eql 9 (.t 66) (.c (.str [116, 97, 117])), some (64, true)⟩,bW 68 61 (.pick (.t 64) (.t 67) (.c (.bool false))),ro 69 (.pick (.t 61) (.c (.bool true)) (.t 68))] [1, 2, 7, 8, 69] ab2
def ab4 : J := ae [bC 6 5] [6] .ret
def ab5 : J := .cond (.t 73) ab4 .skip
def ab6 : J := ae [ad 72 8,aY 73 .neq 2 72 1] [1, 2, 7, 8, 73] ab5
def ab7 : J := ae [bC 6 5] [6] .ret
def ab8 : J := .cond (.t 83) ab7 .skip
def ab9 : J := ae [ad 76 8,ad 77 0,bg 78 230 7 1,aV 79 2 78,cV 80 72 77 79,bg 81 158 80 1,aV 82 2 81,cg 83 .neq 2 76 82] [1, 2, 7, 8, 83] ab8
def ab_ : J := .cond (.t 74) ab9 .skip
def aca : J := ae [aY 75 .eql 2 56 5,aD 74 75] [0, 1, 2, 7, 8, 74] ab_
def acb : J := .cond (.t 70) ab6 aca
def acd : J := ae [aY 71 .eql 2 56 3,aD 70 71] [0, 1, 2, 7, 8, 56, 70] acb
def ace : J := .cond (.t 57) ab3 acd
def acf : J := .block 0 (ae [aY 58 .eql 2 56 1,aD 57 58] [0, 1, 2, 7, 8, 56, 57] ace)
def acg : J := ae [bC 6 6] [6] .ret
def Oq : J := .cond (.t 102) acg .skip
def ach : J := ae [bC 6 7] [6] .ret
def aci : J := .cond (.t 112) ach .skip
def acj : J := .cond (.t 115) .skip (.exit 1)
def ack : J := ae [bC 6 8] [6] .ret
def acm : J := .cond (.t 125) ack .skip
def acn : J := .cd [ad 116 10,aY 117 .add 2 116 1,aD 10 117] (some [7, 8, 9, 10])
def aco : J := .seq (.block 2 (ae [bg 118 230 7 3,aV 119 187 118,ad 120 10,cV 121 187 119 120,aV 122 186 121,ad 123 9,ro 124 (.call (.f 184) [(.t 122), (.t 123), (.c (.int .i64 15))]),gw 125 124] [7, 8, 9, 10, 125] acm)) acn
def Ot : J := .seq (ae [ad 113 10,ad 114 8,cg 115 .lss 2 113 114] [7, 8, 9, 10, 115] acj) aco
def acp : J := .block 1 (.loop Ot)
def acq : J := ae [bC 6 0] [6] .ret
def acr : J := .seq (ae [bC 10 0] [7, 8, 9, 10] acp) acq
def acs : J := .seq (ae [bg 106 230 7 0,aV 107 2 106,aY 108 .eql 2 107 4,ad 109 108,bK 110 109 (.cz (.t 9)),bK 111 109 (.cf .geq 2 (.t 110) (.c (.int .i64 6))),ro 112 (.pick (.t 109) (.t 111) (.c (.bool false)))] [7, 8, 9, 112] aci) acr
def acu : J := ae [ad 103 1,ad 104 2,dN 105 159 103 104,aD 9 105] [7, 8, 9] acs
def Ou : J := .seq (ae [bg 84 230 7 0,aV 85 2 84,aY 86 .eql 2 85 5,ad 87 86,bK 88 87 (.cz (.t 2)),bK 89 87 (.cf .eql 2 (.t 88) (.c (.int .i64 0))),bK 90 87 (.cz (.t 89)),bW 91 90 (.cz (.t 1)),bW 92 90 (.fs (.t 91)),bW 93 90 (.di 158 (.t 92) 2),bW 94 90 (.cS 156 (.t 93)),bW 95 90 (.cz (.t 2)),bW 96 90 (.cf .sub 2 (.t 95) (.c (.int .i64 1))),bW 97 90 (.eX 156 (.t 94) (.t 96)),bW 98 90 (.di 230 (.t 97) 0),bW 99 90 (.cS 2 (.t 98)),bW 100 90 (.cf .neq 2 (.t 99) (.c (.int .i64 1))),bK 101 87 (.pick (.t 90) (.c (.bool true)) (.t 100)),ro 102 (.pick (.t 87) (.t 101) (.c (.bool false)))] [1, 2, 7, 8, 102] Oq) acu
def acv : J := .seq (ae [bg 55 230 7 0,aV 56 2 55] [0, 1, 2, 7, 8, 56] acf) Ou
def acw : J := ae [bg 52 230 7 3,aV 53 187 52,cX 54 187 53,aD 8 54] [0, 1, 2, 7, 8] acv
def acx : J := .seq (ae [bg 29 230 7 0,aV 30 2 29,aY 31 .eql 2 30 4,ad 32 31,bK 33 32 (.di 230 (.t 7) 1),bK 34 32 (.cS 2 (.t 33)),⟨some 35, .call (.f 115) [(.t 34), (.c (.int .i64 1)), (.c (.int .i64 7))], some (32, true)⟩,bK 36 32 (.un .not (.t 35)),ro 37 (.pick (.t 32) (.t 36) (.c (.bool false))),ad 38 37,bW 39 38 (.di 230 (.t 7) 0),bW 40 38 (.cS 2 (.t 39)),bW 41 38 (.cf .eql 2 (.t 40) (.c (.int .i64 5))),bW 42 38 (.cz (.t 41)),bK 43 42 (.di 230 (.t 7) 1),bK 44 42 (.cS 2 (.t 43)),bK 45 42 (.cz (.t 0)),bK 46 42 (.len 72 (.t 45)),bK 47 42 (.cf .sub 2 (.t 46) (.c (.int .i64 1))),⟨some 48, .call (.f 115) [(.t 44), (.c (.int .i64 0)), (.t 47)], some (42, true)⟩,bK 49 42 (.un .not (.t 48)),bW 50 38 (.pick (.t 42) (.t 49) (.c (.bool false))),ro 51 (.pick (.t 38) (.c (.bool true)) (.t 50))] [0, 1, 2, 7, 51] Oo) acw
def acy : J := .seq (ae [bg 20 230 7 0,aV 21 2 20,aY 22 .eql 2 21 1,ad 23 22,bK 24 23 (.di 230 (.t 7) 2),bK 25 23 (.cS 9 (.t 24)),⟨some 26, .call (.f 157) [(.t 25)], some (23, true)⟩,bK 27 23 (.un .not (.t 26)),ro 28 (.pick (.t 23) (.t 27) (.c (.bool false)))] [0, 1, 2, 7, 28] On) acx
def acz : J := .seq (ae [dM 18 275 7,gw 19 18] [0, 1, 2, 7, 19] abY) acy
def acA : J := ae [ad 11 1,ga 12 11,bg 13 158 12 2,aV 14 156 13,ad 15 2,cV 16 156 14 15,aV 17 230 16,jK 7 230,eM 230 7 17] [0, 1, 2, 7] acz
def acB : J := ae [bC 6 0] [0, 1, 2] acA
theorem acC : bu ⟨126, [0, 1, 2]⟩ (Tryz.f231.body.getD .skip) = some acB.strip := by kernel_rfl
def acD : J := ae [bC 4 0,bC 5 1] [4, 5] .ret
def acE : J := .cond (.t 13) acD .skip
def acF : J := .cond (.t 20) .skip (.exit 0)
def acG : J := ae [ad 29 6,ad 30 7,aD 4 29,aD 5 30] [4, 5] .ret
def acH : J := .cond (.t 28) acG .skip
def acI : J := ae [ad 27 7,aY 28 .gtr 2 27 0] [0, 1, 6, 7, 28] acH
def acJ : J := .cd [ad 21 6,aY 22 .add 2 21 1,aD 6 22] (some [0, 1, 6])
def acK : J := .seq (.block 1 (ae [ad 23 0,ad 24 1,ad 25 6,tV 26 231 23 24 25,aD 7 26] [0, 1, 6, 7] acI)) acJ
def Ov : J := .seq (ae [ad 14 6,ad 15 1,ga 16 15,bg 17 158 16 2,aV 18 156 17,cX 19 156 18,cg 20 .lss 2 14 19] [0, 1, 6, 20] acF) acK
def acL : J := .block 0 (.loop Ov)
def acM : J := ae [bC 4 0,bC 5 0] [4, 5] .ret
def acN : J := .seq (ae [bC 6 0] [0, 1, 6] acL) acM
def acO : J := .seq (ae [ad 8 1,ga 9 8,bg 10 158 9 2,aV 11 156 10,dM 12 230 11,gw 13 12] [0, 1, 13] acE) acN
def acP : J := ae [bC 4 0,bC 5 0] [0, 1] acO
theorem acQ : bu ⟨31, [0, 1]⟩ (Tryz.f158.body.getD .skip) = some acP.strip := by kernel_rfl
def acR : J := ae [b1 2 false] [2] .ret
def acS : J := .cond (.t 15) acR .skip
def acT : J := .cond (.t 19) .skip (.exit 0)
def acU : J := ae [b1 2 false] [2] .ret
def acV : J := .cond (.t 37) acU .skip
def acW : J := .cond (.t 40) .skip (.exit 2)
def acX : J := ae [b1 2 false] [2] .ret
def acY : J := .cond (.t 53) acX .skip
def acZ : J := .cd [ad 41 4,aY 42 .add 3 41 1,aD 4 42] (some [0, 3, 4])
def ac0 : J := .seq (.block 3 (iB [ad 43 0,ad 44 4,cV 45 72 43 44,bg 46 158 45 0,aV 47 9 46,ad 48 0,ad 49 3,cV 50 72 48 49,bg 51 158 50 0,aV 52 9 51,cg 53 .eql 9 47 52] [[], [], [0, 1], [2], [3], [], [], [5, 6], [7], [8], [4, 9]] [0, 3, 4, 53] acY)) acZ
def Ow : J := .seq (ae [ad 38 4,ad 39 3,cg 40 .lss 3 38 39] [0, 3, 4, 40] acW) ac0
def ac1 : J := .block 2 (.loop Ow)
def ac2 : J := ae [bC 4 0] [0, 3, 4] ac1
def ac3 : J := .cd [ad 20 3,aY 21 .add 3 20 1,aD 3 21] (some [0, 3])
def ac4 : J := .seq (.block 1 (.seq (ae [ad 22 0,ad 23 3,cV 24 72 22 23,bg 25 158 24 0,aV 26 9 25,dM 27 157 26,gw 28 27,ad 29 28,bW 30 29 (.cz (.t 0)),bW 31 29 (.cz (.t 3)),bW 32 29 (.eX 72 (.t 30) (.t 31)),bW 33 29 (.di 158 (.t 32) 1),bW 34 29 (.cS 2 (.t 33)),⟨some 35, .call (.f 115) [(.t 34), (.c (.int .i64 0)), (.c (.int .i64 3))], some (29, false)⟩,bW 36 29 (.un .not (.t 35)),ro 37 (.pick (.t 29) (.c (.bool true)) (.t 36))] [0, 3, 37] acV) ac2)) ac3
def Ox : J := .seq (ae [ad 16 3,ad 17 0,cX 18 72 17,cg 19 .lss 3 16 18] [0, 3, 19] acT) ac4
def ac5 : J := .block 0 (.loop Ox)
def ac6 : J := .cond (.t 57) .skip (.exit 4)
def ac7 : J := ae [b1 2 false] [2] .ret
def ac8 : J := .cond (.t 69) ac7 .skip
def ac9 : J := ae [ad 68 7,aY 69 .gtr 2 68 0] [0, 5, 69] ac8
def ac_ : J := .cd [ad 58 5,aY 59 .add 3 58 1,aD 5 59] (some [0, 5])
def ada : J := .seq (.block 5 (ae [ad 61 0,ad 62 0,ad 63 5,cV 64 72 62 63,dN 65 158 61 64,ad 60 65,kP 66 60 0,kP 67 60 1,aD 6 66,aD 7 67] [0, 5, 7] ac9)) ac_
def Oy : J := .seq (ae [ad 54 5,ad 55 0,cX 56 72 55,cg 57 .lss 3 54 56] [0, 5, 57] ac6) ada
def adb : J := .block 4 (.loop Oy)
def ade : J := ae [b1 2 true] [2] .ret
def adf : J := .seq (ae [bC 5 0] [0, 5] adb) ade
def adg : J := .seq (ae [bC 3 0] [0, 3] ac5) adf
def adh : J := .seq (ae [ad 8 0,cX 9 72 8,aY 10 .eql 3 9 0,ad 11 10,bW 12 11 (.cz (.t 0)),bW 13 11 (.len 72 (.t 12)),bW 14 11 (.cf .gtr 3 (.t 13) (.c (.int .i64 4))),ro 15 (.pick (.t 11) (.c (.bool true)) (.t 14))] [0, 15] acS) adg
def adi : J := ae [b1 2 false] [0] adh
theorem adj : bu ⟨70, [0]⟩ (Tryz.f95.body.getD .skip) = some adi.strip := by kernel_rfl
def adk : J := .cond (.t 7) .skip (.exit 0)
def adl : J := ae [b1 2 false] [2] .ret
def adm : J := .cond (.t 15) adl .skip
def adn : J := .cd [ad 8 3,aY 9 .add 3 8 1,aD 3 9] (some [0, 3])
def ado : J := .seq (.block 1 (ae [ad 10 0,ad 11 3,cV 12 22 10 11,aV 13 2 12,ro 14 (.call (.f 115) [(.t 13), (.c (.int .i64 0)), (.c (.int .i64 63))]),gw 15 14] [0, 3, 15] adm)) adn
def Oz : J := .seq (ae [ad 4 3,ad 5 0,cX 6 22 5,cg 7 .lss 3 4 6] [0, 3, 7] adk) ado
def adp : J := .block 0 (.loop Oz)
def adq : J := ae [b1 2 true] [2] .ret
def adr : J := .seq (ae [bC 3 0] [0, 3] adp) adq
def ads : J := ae [b1 2 false] [0] adr
theorem adt : bu ⟨16, [0]⟩ (Tryz.f117.body.getD .skip) = some ads.strip := by kernel_rfl
def adu : J := ae [b1 4 false] [4] .ret
def adv : J := .cond (.t 14) adu .skip
def adw : J := ae [b1 4 false] [4] .ret
def adx : J := .cond (.t 43) adw .skip
def ady : J := iB [ad 44 1,ga 45 44,bg 46 74 45 2,aV 47 22 46,cX 48 22 47,ad 49 1,ga 50 49,bg 51 74 50 1,aV 52 2 51,dN 53 159 5 52,cg 54 .eql 2 48 53,ad 55 54,bK 56 55 (.cz (.t 1)),bK 57 55 (.fs (.t 56)),bK 58 55 (.di 74 (.t 57) 2),bK 59 55 (.cS 22 (.t 58)),⟨some 60, .call (.f 117) [(.t 59)], some (55, true)⟩,ro 61 (.pick (.t 55) (.t 60) (.c (.bool false))),aD 4 61] [[], [0], [1], [2], [3], [], [5], [6], [7], [8], [4, 9], [10, 9], [11], [12, 11], [13, 11], [14, 11], [15, 11, 11], [11, 16], [17, 16, 0, 1, 2, 3, 4, 5, 6, 7, 8, 9, 10, 11, 12, 13, 14, 15, 16, 17]] [4] .ret
def adz : J := .seq (iB [ad 22 1,ga 23 22,bg 24 74 23 1,aV 25 2 24,bg 26 158 5 2,aV 27 156 26,cX 28 156 27,aY 29 .sub 2 28 1,ro 30 (.call (.f 115) [(.t 25), (.c (.int .i64 0)), (.t 29)]),gw 31 30,ad 32 31,bW 33 32 (.di 158 (.t 5) 2),bW 34 32 (.cS 156 (.t 33)),bW 35 32 (.cz (.t 1)),bW 36 32 (.fs (.t 35)),bW 37 32 (.di 74 (.t 36) 1),bW 38 32 (.cS 2 (.t 37)),bW 39 32 (.eX 156 (.t 34) (.t 38)),bW 40 32 (.di 230 (.t 39) 0),bW 41 32 (.cS 2 (.t 40)),bW 42 32 (.cf .eql 2 (.t 41) (.c (.int .i64 5))),ro 43 (.pick (.t 32) (.c (.bool true)) (.t 42))] [[], [0], [1], [2], [], [4], [5], [6], [3, 7], [8], [9, 8], [10], [11, 10], [10], [13, 10], [14, 10], [15, 10], [12, 16, 10], [17, 10], [18, 10], [19, 10], [10, 20]] [1, 5, 43] adx) ady
def adA : J := ae [ad 15 0,ad 16 1,ga 17 16,bg 18 74 17 0,aV 19 2 18,cV 20 72 15 19,aV 21 158 20,jK 5 158,eM 158 5 21] [1, 5] adz
def adB : J := .seq (ae [ad 6 1,ga 7 6,bg 8 74 7 0,aV 9 2 8,ad 10 0,cX 11 72 10,aY 12 .sub 2 11 1,ro 13 (.call (.f 115) [(.t 9), (.c (.int .i64 0)), (.t 12)]),gw 14 13] [0, 1, 14] adv) adA
def adC : J := ae [b1 4 false] [0, 1] adB
theorem adD : bu ⟨62, [0, 1]⟩ (Tryz.f96.body.getD .skip) = some adC.strip := by kernel_rfl
def adE : J := ae [ro 3 (.c9 22 0 []),ad 4 0,qy 5 22 22 3 4,aD 2 5] [2] .ret
def adF : J := ae [j0 2] [0] adE
theorem adG : bu ⟨6, [0]⟩ (Tryz.f118.body.getD .skip) = some adF.strip := by kernel_rfl
def adH : J := ae [bC 2 1] [2] .ret
def adI : J := .cond (.t 3) adH .skip
def adJ : J := ae [bC 2 0] [2] .ret
def adK : J := .seq (ae [ad 3 0] [3] adI) adJ
def adL : J := ae [bC 2 0] [0] adK
theorem adM : bu ⟨4, [0]⟩ (Tryz.f253.body.getD .skip) = some adL.strip := by kernel_rfl
def adN : J := .cond (.t 7) .skip (.exit 0)
def adO : J := .cd [ad 15 1,aY 16 .add 2 15 1,aD 1 16] (some [0, 1, 5])
def adP : J := .block 1 (ae [ad 8 5,ad 9 0,ad 10 1,cV 11 186 9 10,dM 12 252 11,aY 13 .sub 2 12 1,cg 14 .add 2 8 13,aD 5 14] [0, 1, 5] adO)
def OA : J := .seq (ae [ad 6 5,aY 7 .gtr 2 6 0] [0, 1, 5, 7] adN) adP
def adQ : J := ae [ad 17 1,aD 4 17] [4] .ret
def adR : J := .seq (.block 0 (.loop OA)) adQ
def adS : J := ae [bC 5 1] [0, 1, 5] adR
def adT : J := ae [bC 4 0] [0, 1] adS
theorem adU : bu ⟨18, [0]⟩ (Tryz.f254.body.getD .skip) = some adT.strip := by kernel_rfl
def adV : J := ae [ad 10 1,ad 11 2,cg 12 .add 2 10 11,aY 13 .rem 2 12 64,aD 6 13] [6] .ret
def adW : J := ae [ad 16 1,ad 17 2,cg 18 .sub 2 16 17,aY 19 .add 2 18 64,aY 20 .rem 2 19 64,aD 6 20] [6] .ret
def adX : J := ae [ad 23 1,ad 24 2,cg 25 .mul 2 23 24,aY 26 .rem 2 25 64,aD 6 26] [6] .ret
def adY : J := ae [ad 29 1,ad 30 2,cg 31 .eql 2 29 30,dM 32 253 31,aD 6 32] [6] .ret
def adZ : J := ae [ad 35 1,ad 36 2,cg 37 .neq 2 35 36,dM 38 253 37,aD 6 38] [6] .ret
def ad0 : J := ae [ad 41 1,ad 42 2,cg 43 .lss 2 41 42,dM 44 253 43,aD 6 44] [6] .ret
def ad1 : J := ae [ad 47 1,ad 48 2,cg 49 .leq 2 47 48,dM 50 253 49,aD 6 50] [6] .ret
def ad2 : J := ae [ad 53 1,aY 54 .neq 2 53 0,ad 55 54,bK 56 55 (.cz (.t 2)),bK 57 55 (.cf .neq 2 (.t 56) (.c (.int .i64 0))),ro 58 (.pick (.t 55) (.t 57) (.c (.bool false))),dM 59 253 58,aD 6 59] [6] .ret
def ad3 : J := .cond (.t 51) ad2 .skip
def ad4 : J := ae [aY 52 .eql 2 7 7,aD 51 52] [1, 2, 51] ad3
def ad5 : J := .cond (.t 45) ad1 ad4
def ad6 : J := ae [aY 46 .eql 2 7 6,aD 45 46] [1, 2, 7, 45] ad5
def ad7 : J := .cond (.t 39) ad0 ad6
def ad8 : J := ae [aY 40 .eql 2 7 5,aD 39 40] [1, 2, 7, 39] ad7
def ad9 : J := .cond (.t 33) adZ ad8
def ad_ : J := ae [aY 34 .eql 2 7 4,aD 33 34] [1, 2, 7, 33] ad9
def aea : J := .cond (.t 27) adY ad_
def aeb : J := ae [aY 28 .eql 2 7 3,aD 27 28] [1, 2, 7, 27] aea
def aec : J := .cond (.t 21) adX aeb
def aed : J := ae [aY 22 .eql 2 7 2,aD 21 22] [1, 2, 7, 21] aec
def aee : J := .cond (.t 14) adW aed
def aef : J := ae [aY 15 .eql 2 7 1,aD 14 15] [1, 2, 7, 14] aee
def aeg : J := .cond (.t 8) adV aef
def aeh : J := .block 0 (ae [aY 9 .eql 2 7 0,aD 8 9] [1, 2, 7, 8] aeg)
def aei : J := ae [ad 60 1,aY 61 .neq 2 60 0,ad 62 61,bW 63 62 (.cz (.t 2)),bW 64 62 (.cf .neq 2 (.t 63) (.c (.int .i64 0))),ro 65 (.pick (.t 62) (.c (.bool true)) (.t 64)),dM 66 253 65,aD 6 66] [6] .ret
def aej : J := .seq (ae [ad 7 0] [1, 2, 7] aeh) aei
def aek : J := ae [bC 6 0] [0, 1, 2] aej
theorem ael : bu ⟨67, [0, 1, 2]⟩ (Tryz.f255.body.getD .skip) = some aek.strip := by kernel_rfl
def aem : J := ae [ad 16 0,ad 17 2,cV 18 186 16 17,bg 19 278 18 1,aV 20 2 19,aD 6 20] [6] .ret
def aen : J := ae [ad 23 1,ad 24 0,ad 25 2,cV 26 186 24 25,bg 27 278 26 1,aV 28 2 27,cV 29 22 23 28,aV 30 2 29,aD 6 30] [6] .ret
def aeo : J := ae [ad 33 0,ad 34 1,ad 35 2,aY 36 .add 2 35 1,tV 37 187 33 34 36,aY 38 .eql 2 37 0,dM 39 253 38,aD 6 39] [6] .ret
def aep : J := .cond (.t 31) aeo .skip
def aeq : J := ae [aY 32 .eql 2 13 3,aD 31 32] [0, 1, 2, 31] aep
def aer : J := .cond (.t 21) aen aeq
def aes : J := ae [aY 22 .eql 2 13 1,aD 21 22] [0, 1, 2, 13, 21] aer
def aet : J := .cond (.t 14) aem aes
def aeu : J := .block 0 (ae [aY 15 .eql 2 13 0,aD 14 15] [0, 1, 2, 13, 14] aet)
def aev : J := ae [ad 52 0,ad 53 2,cV 54 186 52 53,bg 55 278 54 1,aV 56 2 55,ad 57 7,ad 58 8,tV 59 255 56 57 58,aD 6 59] [6] .ret
def aew : J := ae [ad 45 0,ad 46 1,ad 47 0,ad 48 2,aY 49 .add 2 48 1,dN 50 254 47 49,tV 51 187 45 46 50,aD 8 51] [0, 2, 7, 8] aev
def aex : J := ae [ad 40 0,ad 41 1,ad 42 2,aY 43 .add 2 42 1,tV 44 187 40 41 43,aD 7 44] [0, 1, 2, 7] aew
def aey : J := .seq (ae [ad 9 0,ad 10 2,cV 11 186 9 10,bg 12 278 11 0,aV 13 2 12] [0, 1, 2, 13] aeu) aex
def aez : J := ae [bC 6 0] [0, 1, 2] aey
theorem aeA : bu ⟨60, [0, 1, 2]⟩ (Tryz.f187.body.getD .skip) = some aez.strip := by kernel_rfl
def aeB : J := ae [ad 5 0,ad 6 1,ro 7 (.call (.f 187) [(.t 5), (.t 6), (.c (.int .i64 0))]),aD 4 7] [4] .ret
def aeC : J := ae [bC 4 0] [0, 1] aeB
theorem aeD : bu ⟨8, [0, 1]⟩ (Tryz.f119.body.getD .skip) = some aeC.strip := by kernel_rfl
def aeE : J := .cond (.t 11) .skip (.exit 0)
def aeF : J := .cd [ad 12 6,aY 13 .add 3 12 1,aD 6 13] (some [0, 1, 5, 6])
def aeG : J := .seq (.block 1 (.cd [ad 14 5,ad 15 0,ad 16 6,cV 17 187 15 16,aV 18 186 17,ad 19 1,dN 20 119 18 19,qx 21 22 20,qy 22 22 22 14 21,aD 5 22] (some [0, 1, 5, 6]))) aeF
def OB : J := .seq (ae [ad 8 6,ad 9 0,cX 10 187 9,cg 11 .lss 3 8 10] [0, 1, 5, 6, 11] aeE) aeG
def aeH : J := .block 0 (.loop OB)
def aeI : J := ae [ad 23 5,aD 4 23] [4] .ret
def aeJ : J := .seq (ae [bC 6 0] [0, 1, 5, 6] aeH) aeI
def aeK : J := ae [ro 7 (.c9 22 0 []),aD 5 7] [0, 1, 5] aeJ
def aeL : J := ae [j0 4] [0, 1] aeK
theorem aeM : bu ⟨24, [0, 1]⟩ (Tryz.f233.body.getD .skip) = some aeL.strip := by kernel_rfl
def aeN : J := ae [ro 2 (.fu (.c (.str [48])))] [2] .ret
def aeO : J := .cond (.t 9) aeN .skip
def aeP : J := .cond (.t 13) .skip (.exit 0)
def aeQ : J := .cd [ad 20 5,ro 21 (.un .neg (.t 20)),aD 5 21] (some [0, 3, 4, 5])
def aeR : J := .cond (.t 19) aeQ .skip
def OC : J := .cd [ad 22 3,ad 23 5,ro 24 (.cf .add 2 (.c (.int .i64 48)) (.t 23)),B3 25 2 5 24,qx 26 123 25,qy 27 123 123 22 26,aD 3 27] (some [0, 3, 4])
def aeS : J := .seq (ae [ad 18 5,aY 19 .lss 2 18 0] [0, 3, 4, 5, 19] aeR) OC
def aeT : J := .cd [ad 14 4,aY 15 .quo 2 14 10,aD 4 15] (some [0, 3, 4])
def aeU : J := .seq (.block 1 (ae [ad 16 4,aY 17 .rem 2 16 10,aD 5 17] [0, 3, 4, 5] aeS)) aeT
def OD : J := .seq (ae [ad 12 4,aY 13 .neq 2 12 0] [0, 3, 4, 13] aeP) aeU
def aeV : J := .block 0 (.loop OD)
def aeW : J := .cd [ad 30 3,ro 31 (.c9 123 1 [(0, (.c (.int .u8 45)))]),qy 32 123 123 30 31,aD 3 32] (some [3])
def aeX : J := .cond (.t 29) aeW .skip
def aeY : J := .cond (.t 38) .skip (.exit 2)
def aeZ : J := .cd [ad 39 7,aY 40 .sub 3 39 1,aD 7 40] (some [3, 6, 7])
def ae0 : J := .seq (.block 3 (.cd [ad 41 6,ad 42 3,ad 43 7,cV 44 123 42 43,aV 45 5 44,qx 46 123 45,qy 47 123 123 41 46,aD 6 47] (some [3, 6, 7]))) aeZ
def OE : J := .seq (ae [ad 37 7,aY 38 .geq 3 37 0] [3, 6, 7, 38] aeY) ae0
def ae1 : J := .block 2 (.loop OE)
def ae2 : J := ae [ad 48 6,B3 49 123 9 48,aD 2 49] [2] .ret
def ae3 : J := .seq (ae [ad 34 3,cX 35 123 34,aY 36 .sub 3 35 1,aD 7 36] [3, 6, 7] ae1) ae2
def OG : J := ae [ro 33 (.c9 123 0 []),aD 6 33] [3, 6] ae3
def ae4 : J := .seq (ae [ad 28 0,aY 29 .lss 2 28 0] [3, 29] aeX) OG
def ae5 : J := .seq (ae [ad 11 0,aD 4 11] [0, 3, 4] aeV) ae4
def ae6 : J := ae [ro 10 (.c9 123 0 []),aD 3 10] [0, 3] ae5
def ae7 : J := .seq (ae [ad 8 0,aY 9 .eql 2 8 0] [0, 9] aeO) ae6
def ae8 : J := ae [ro 2 (.fu (.c (.str [])))] [0] ae7
theorem ae9 : bu ⟨50, [0]⟩ (Tryz.f170.body.getD .skip) = some ae8.strip := by kernel_rfl
def ae_ : J := ae [ro 2 (.fu (.c (.str [45])))] [2] .ret
def afa : J := .cond (.t 7) ae_ .skip
def afb : J := .cond (.t 11) .skip (.exit 0)
def afc : J := .cd [ad 16 3,ro 17 (.cf .add 9 (.t 16) (.c (.str [44]))),aD 3 17] (some [0, 3, 4])
def afd : J := .cond (.t 15) afc .skip
def OH : J := .cd [ad 18 3,ad 19 0,ad 20 4,cV 21 22 19 20,aV 22 2 21,dM 23 170 22,cg 24 .add 9 18 23,aD 3 24] (some [0, 3, 4])
def afe : J := .cd [ad 12 4,aY 13 .add 3 12 1,aD 4 13] (some [0, 3, 4])
def aff : J := .seq (.block 1 (.seq (ae [ad 14 4,aY 15 .gtr 3 14 0] [0, 3, 4, 15] afd) OH)) afe
def OI : J := .seq (ae [ad 8 4,ad 9 0,cX 10 22 9,cg 11 .lss 3 8 10] [0, 3, 4, 11] afb) aff
def afg : J := .block 0 (.loop OI)
def afh : J := ae [ad 25 3,aD 2 25] [2] .ret
def afi : J := .seq (ae [bC 4 0] [0, 3, 4] afg) afh
def afj : J := ae [ro 3 (.fu (.c (.str [])))] [0, 3] afi
def afk : J := .seq (ae [ad 5 0,cX 6 22 5,aY 7 .eql 3 6 0] [0, 7] afa) afj
def afl : J := ae [ro 2 (.fu (.c (.str [])))] [0] afk
theorem afm : bu ⟨26, [0]⟩ (Tryz.f171.body.getD .skip) = some afl.strip := by kernel_rfl
def afn : J := ae [ad 8 0,aD 4 8] [4] .ret
def afo : J := .cond (.t 7) afn .skip
def afp : J := ae [ad 9 0,ro 10 (.cf .add 9 (.t 9) (.c (.str [40]))),ad 11 1,dM 12 171 11,cg 13 .add 9 10 12,ro 14 (.cf .add 9 (.t 13) (.c (.str [41]))),aD 4 14] [4] .ret
def afq : J := .seq (ae [ad 5 1,cX 6 22 5,aY 7 .eql 3 6 0] [0, 1, 7] afo) afp
def afr : J := ae [ro 4 (.fu (.c (.str [])))] [0, 1] afq
theorem afs : bu ⟨15, [0, 1]⟩ (Tryz.f120.body.getD .skip) = some afr.strip := by kernel_rfl
def aft : J := ae [b1 4 false] [4] .ret
def afu : J := .cond (.t 10) aft .skip
def afv : J := .cond (.t 14) .skip (.exit 0)
def afw : J := ae [b1 4 false] [4] .ret
def afx : J := .cond (.t 25) afw .skip
def afy : J := .cd [ad 15 5,aY 16 .add 3 15 1,aD 5 16] (some [0, 1, 5])
def afz : J := .seq (.block 1 (iB [ad 17 0,ad 18 5,cV 19 22 17 18,aV 20 2 19,ad 21 1,ad 22 5,cV 23 22 21 22,aV 24 2 23,cg 25 .neq 2 20 24] [[], [], [0, 1], [2], [], [], [4, 5], [6], [3, 7]] [0, 1, 5, 25] afx)) afy
def OJ : J := .seq (ae [ad 11 5,ad 12 0,cX 13 22 12,cg 14 .lss 3 11 13] [0, 1, 5, 14] afv) afz
def afA : J := .block 0 (.loop OJ)
def afB : J := ae [b1 4 true] [4] .ret
def afC : J := .seq (ae [bC 5 0] [0, 1, 5] afA) afB
def afD : J := .seq (ae [ad 6 0,cX 7 22 6,ad 8 1,cX 9 22 8,cg 10 .neq 3 7 9] [0, 1, 10] afu) afC
def afE : J := ae [b1 4 false] [0, 1] afD
theorem afF : bu ⟨26, [0, 1]⟩ (Tryz.f122.body.getD .skip) = some afE.strip := by kernel_rfl
def afG : J := iB [ad 5 0,ga 6 5,bg 7 74 6 0,aV 8 2 7,ad 9 1,ga 10 9,bg 11 74 10 0,aV 12 2 11,cg 13 .eql 2 8 12,ad 14 13,bK 15 14 (.cz (.t 0)),bK 16 14 (.fs (.t 15)),bK 17 14 (.di 74 (.t 16) 1),bK 18 14 (.cS 2 (.t 17)),bK 19 14 (.cz (.t 1)),bK 20 14 (.fs (.t 19)),bK 21 14 (.di 74 (.t 20) 1),bK 22 14 (.cS 2 (.t 21)),bK 23 14 (.cf .eql 2 (.t 18) (.t 22)),ro 24 (.pick (.t 14) (.t 23) (.c (.bool false))),ad 25 24,bK 26 25 (.cz (.t 0)),bK 27 25 (.fs (.t 26)),bK 28 25 (.di 74 (.t 27) 2),bK 29 25 (.cS 22 (.t 28)),bK 30 25 (.cz (.t 1)),bK 31 25 (.fs (.t 30)),bK 32 25 (.di 74 (.t 31) 2),bK 33 25 (.cS 22 (.t 32)),⟨some 34, .call (.f 122) [(.t 29), (.t 33)], some (25, true)⟩,ro 35 (.pick (.t 25) (.t 34) (.c (.bool false))),aD 4 35] [[], [0], [1], [2], [], [4], [5], [6], [3, 7], [8], [9], [10, 9], [11, 9], [12, 9], [9], [14, 9], [15, 9], [16, 9], [13, 17, 9], [9, 18], [19, 9], [20], [21, 20], [22, 20], [23, 20], [20], [25, 20], [26, 20], [27, 20], [24, 28, 20, 20], [20, 29], [30, 29, 0, 1, 2, 3, 4, 5, 6, 7, 8, 9, 10, 11, 12, 13, 14, 15, 16, 17, 18, 19, 20, 21, 22, 23, 24, 25, 26, 27, 28, 29, 30]] [4] .ret
def afH : J := ae [b1 4 false] [0, 1] afG
theorem afI : bu ⟨36, [0, 1]⟩ (Tryz.f276.body.getD .skip) = some afH.strip := by kernel_rfl
def afJ : J := .cond (.t 9) .skip (.exit 0)
def afK : J := ae [ad 28 0,aD 4 28] [4] .ret
def afL : J := .cond (.t 27) afK .skip
def afM : J := .cd [ad 10 5,aY 11 .add 3 10 1,aD 5 11] (some [0, 3, 5])
def afN : J := .seq (.block 1 (iB [ad 12 0,ad 13 5,cV 14 69 12 13,bg 15 164 14 0,aV 16 9 15,bg 17 164 3 0,aV 18 9 17,cg 19 .eql 9 16 18,ad 20 19,bK 21 20 (.cz (.t 0)),bK 22 20 (.cz (.t 5)),bK 23 20 (.eX 69 (.t 21) (.t 22)),bK 24 20 (.di 164 (.t 23) 1),bK 25 20 (.di 164 (.t 3) 1),⟨some 26, .call (.f 276) [(.t 24), (.t 25)], some (20, true)⟩,ro 27 (.pick (.t 20) (.t 26) (.c (.bool false)))] [[], [], [0, 1], [2], [3], [], [5], [4, 6], [7], [8], [8], [9, 10, 8], [11, 8], [8], [12, 13, 8, 8], [8, 14]] [0, 3, 5, 27] afL)) afM
def OK : J := .seq (ae [ad 6 5,ad 7 0,cX 8 69 7,cg 9 .lss 3 6 8] [0, 3, 5, 9] afJ) afN
def afO : J := .block 0 (.loop OK)
def afP : J := ae [ad 29 0,aV 30 164 3,qx 31 69 30,qy 32 69 69 29 31,aD 4 32] [4] .ret
def afQ : J := .seq (ae [bC 5 0] [0, 3, 5] afO) afP
def afR : J := ae [ro 3 (.dj 164 (.t 1)),j0 4] [0, 3] afQ
theorem afS : bu ⟨33, [0, 1]⟩ (Tryz.f234.body.getD .skip) = some afR.strip := by kernel_rfl
def afT : J := ae [ad 27 4,aD 10 27] [10] .ret
def afU : J := .cond (.t 26) afT .skip
def afV : J := .kM [ad 45 11,ad 46 2,aY 47 .add 2 46 1,cV 48 156 45 47,bg 49 230 48 1,aV 50 2 49,ad 51 11,ad 52 2,aY 53 .add 2 52 1,cV 54 156 51 53,bg 55 230 54 3,aV 56 187 55,ad 57 3,dN 58 233 56 57,ro 59 (.ev 74 [(0, (.t 50)), (2, (.t 58))]),eM 74 13 59] [[], [], [1], [0, 2], [3], [4], [], [], [7], [6, 8], [9], [10], [], [11, 12], [5, 13], [14, 13, 0, 1, 2, 3, 4, 5, 6, 7, 8, 9, 10, 11, 12, 13, 14]] (some [3, 4, 12, 13])
def afW : J := .cond (.t 44) afV .skip
def OL : J := iB [ad 60 4,bg 61 230 12 2,aV 62 9 61,bg 63 230 12 3,aV 64 187 63,ad 65 3,dN 66 233 64 65,dN 67 120 62 66,aV 68 74 13,⟨some 69, .shr (.ev 164 [(0, (.t 67)), (1, (.t 68))]), none⟩,dN 70 234 60 69,aD 10 70] [[], [], [1], [], [3], [], [4, 5], [2, 6, 6], [], [7, 8], [0, 9, 7], [10, 10, 0, 1, 2, 3, 4, 5, 6, 7, 8, 9, 10]] [10] .ret
def afX : J := .seq (ae [ad 38 11,ad 39 2,aY 40 .add 2 39 1,cV 41 156 38 40,bg 42 230 41 0,aV 43 2 42,aY 44 .eql 2 43 5] [2, 3, 4, 11, 12, 13, 44] afW) OL
def afY : J := ae [ad 32 1,ad 33 2,aY 34 .add 2 33 1,ad 35 3,dM 36 118 35,ro 37 (.ev 74 [(0, (.t 32)), (1, (.t 34)), (2, (.t 36))]),jK 13 74,eM 74 13 37] [2, 3, 4, 11, 12, 13] afX
def afZ : J := ae [ad 80 0,ad 81 1,ad 82 11,ad 83 2,aY 84 .add 2 83 1,dN 85 232 82 84,ad 86 3,ad 87 4,ro 88 (.call (.f 160) [(.t 80), (.t 81), (.t 85), (.t 86), (.t 87)]),aD 10 88] [10] .ret
def af0 : J := ae [ad 73 0,ad 74 1,ad 75 2,aY 76 .add 2 75 1,ad 77 3,ad 78 4,ro 79 (.call (.f 160) [(.t 73), (.t 74), (.t 76), (.t 77), (.t 78)]),aD 4 79] [0, 1, 2, 3, 4, 11] afZ
def af1 : J := ae [ad 98 0,ad 99 1,ad 100 2,aY 101 .add 2 100 1,ad 102 3,ad 103 4,ro 104 (.call (.f 160) [(.t 98), (.t 99), (.t 101), (.t 102), (.t 103)]),aD 10 104] [10] .ret
def af2 : J := .cond (.t 97) af1 .skip
def af3 : J := ae [bg 91 230 12 3,aV 92 187 91,ro 93 (.eX 187 (.t 92) (.c (.int .i64 0))),aV 94 186 93,ad 95 3,dN 96 119 94 95,aY 97 .neq 2 96 0] [0, 1, 2, 3, 4, 97] af2
def af4 : J := .cond (.t 110) .skip (.exit 1)
def af5 : J := .cd [ad 111 14,aY 112 .add 2 111 1,aD 14 112] (some [0, 1, 2, 3, 4, 12, 14])
def af6 : J := .seq (.block 2 (.cd [ad 113 0,ad 114 1,ad 115 2,aY 116 .add 2 115 1,ad 117 3,dM 118 118 117,ad 119 14,qx 120 22 119,⟨some 121, .shr (.app 22 22 (.t 118) (.t 120)), none⟩,ad 122 4,ro 123 (.call (.f 160) [(.t 113), (.t 114), (.t 116), (.t 121), (.t 122)]),aD 4 123] (some [0, 1, 2, 3, 4, 12, 14]))) af5
def OM : J := .seq (ae [ad 107 14,bg 108 230 12 1,aV 109 2 108,cg 110 .leq 2 107 109] [0, 1, 2, 3, 4, 12, 14, 110] af4) af6
def af7 : J := .block 1 (.loop OM)
def af8 : J := ae [bC 14 0] [0, 1, 2, 3, 4, 12, 14] af7
def af9 : J := .cond (.t 105) af8 .skip
def af_ : J := ae [aY 106 .eql 2 29 4,aD 105 106] [0, 1, 2, 3, 4, 12, 105] af9
def aga : J := .cond (.t 89) af3 af_
def agb : J := ae [aY 90 .eql 2 29 3,aD 89 90] [0, 1, 2, 3, 4, 12, 29, 89] aga
def agc : J := .cond (.t 71) af0 agb
def agd : J := ae [aY 72 .eql 2 29 2,aD 71 72] [0, 1, 2, 3, 4, 11, 12, 29, 71] agc
def age : J := .cond (.t 30) afY agd
def agf : J := .block 0 (ae [aY 31 .eql 2 29 1,aD 30 31] [0, 1, 2, 3, 4, 11, 12, 29, 30] age)
def ON : J := ae [ad 124 4,aD 10 124] [10] .ret
def agh : J := .seq (ae [bg 28 230 12 0,aV 29 2 28] [0, 1, 2, 3, 4, 11, 12, 29] agf) ON
def agi : J := .seq (ae [ad 24 4,cX 25 69 24,aY 26 .gtr 3 25 200] [0, 1, 2, 3, 4, 11, 12, 26] afU) agh
def agj : J := ae [ad 20 11,ad 21 2,cV 22 156 20 21,aV 23 230 22,jK 12 230,eM 230 12 23] [0, 1, 2, 3, 4, 11, 12] agi
def agk : J := ae [ad 15 0,ad 16 1,cV 17 72 15 16,bg 18 158 17 2,aV 19 156 18,aD 11 19] [0, 1, 2, 3, 4, 11] agj
def agl : J := ae [j0 10] [0, 1, 2, 3, 4] agk
theorem agm : bu ⟨125, [0, 1, 2, 3]⟩ (Tryz.f160.body.getD .skip) = some agl.strip := by kernel_rfl
def agn : J := ae [ad 22 6,ad 23 6,cX 24 69 23,aY 25 .leq 3 24 200,aD 4 22,aD 5 25] [1, 4, 5] .ret
def ago : J := iB [ad 7 0,ad 8 1,ga 9 8,bg 10 74 9 0,aV 11 2 10,ad 12 1,ga 13 12,bg 14 74 13 1,aV 15 2 14,ad 16 1,ga 17 16,bg 18 74 17 2,aV 19 22 18,ro 20 (.c9 69 0 []),ro 21 (.call (.f 160) [(.t 7), (.t 11), (.t 15), (.t 19), (.t 20)]),aD 6 21] [[], [], [1], [2], [3], [], [5], [6], [7], [], [9], [10], [11], [], [0, 4, 8, 12, 13], [14, 14, 0, 1, 2, 3, 4, 5, 6, 7, 8, 9, 10, 11, 12, 13, 14]] [1, 6] agn
def agp : J := ae [j0 4,b1 5 false] [0, 1] ago
theorem agq : bu ⟨26, [0, 1]⟩ (Tryz.f97.body.getD .skip) = some agp.strip := by kernel_rfl
def agr : J := ae [j0 4,bC 5 1] [4, 5] .ret
def ags : J := .cond (.t 15) agr .skip
def agt : J := ae [j0 4,bC 5 5] [4, 5] .ret
def agu : J := .cond (.t 22) agt .skip
def agv : J := ae [ad 23 6,aD 4 23,bC 5 0] [4, 5] .ret
def agw : J := .seq (ae [ad 21 7,gw 22 21] [6, 22] agu) agv
def agx : J := ae [ad 17 0,dN 18 97 17 3,ad 16 18,kP 19 16 0,kP 20 16 1,aD 6 19,aD 7 20] [6, 7] agw
def agy : J := .seq (ae [ad 8 0,dM 9 95 8,gw 10 9,ad 11 10,bW 12 11 (.cz (.t 0)),⟨some 13, .call (.f 96) [(.t 12), (.t 3)], some (11, false)⟩,bW 14 11 (.un .not (.t 13)),ro 15 (.pick (.t 11) (.c (.bool true)) (.t 14))] [0, 3, 15] ags) agx
def agz : J := ae [ro 3 (.dj 74 (.t 1)),j0 4,bC 5 0] [0, 3] agy
theorem agA : bu ⟨24, [0, 1]⟩ (Tryz.f45.body.getD .skip) = some agz.strip := by kernel_rfl
def agB : J := ae [ad 7 0,ad 8 1,cg 9 .geq 2 7 8,ad 10 9,bK 11 10 (.cz (.t 0)),bK 12 10 (.cz (.t 2)),bK 13 10 (.cf .leq 2 (.t 11) (.t 12)),ro 14 (.pick (.t 10) (.t 13) (.c (.bool false))),aD 6 14] [6] .ret
def agC : J := ae [b1 6 false] [0, 1, 2] agB
theorem agD : bu ⟨15, [0, 1, 2]⟩ (Tryz.f125.body.getD .skip) = some agC.strip := by kernel_rfl
def agE : J := ae [bg 3 158 1 1,aV 4 2 3,ro 5 (.call (.f 125) [(.t 4), (.c (.int .i64 0)), (.c (.int .i64 3))]),gw 6 5,aD 2 6] [2] .ret
def agF : J := ae [ro 1 (.dj 158 (.t 0)),b1 2 false] [1] agE
theorem agG : bu ⟨7, [0]⟩ (Tryz.f278.body.getD .skip) = some agF.strip := by kernel_rfl
def agH : J := ae [ad 17 5,aD 4 17] [4] .ret
def agI : J := .cond (.t 16) agH .skip
def agJ : J := ae [ad 11 1,ad 12 0,ad 13 5,cV 14 72 12 13,aV 15 158 14,ro 16 (.call (.t 11) [(.t 15)])] [0, 1, 5, 7, 8, 16] agI
def agK : J := .cd [aY 18 .add 3 8 1,ad 8 18] (some [0, 1, 7, 8])
def agL : J := .seq (.block 1 (ae [ad 10 8,aD 5 10] [0, 1, 5, 7, 8] agJ)) agK
def agM : J := .seq (.cond (.t 9) .skip (.exit 0)) agL
def OO : J := ae [cg 9 .lss 3 8 7] [0, 1, 7, 8, 9] agM
def agN : J := .block 0 (.loop OO)
def agO : J := ae [bC 4 (-1)] [4] .ret
def agP : J := .seq (ae [ad 6 0,cX 7 72 6,nm 8 0] [0, 1, 7, 8] agN) agO
def agQ : J := ae [bC 4 0] [0, 1] agP
theorem agR : bu ⟨19, [0, 1]⟩ (Tryz.f280.body.getD .skip) = some agQ.strip := by kernel_rfl
def agS : J := ae [ad 5 0,ad 6 1,dN 7 280 5 6,aY 8 .geq 3 7 0,aD 4 8] [4] .ret
def agT : J := ae [b1 4 false] [0, 1] agS
theorem agU : bu ⟨9, [0, 1]⟩ (Tryz.f277.body.getD .skip) = some agT.strip := by kernel_rfl
def agV : J := ae [ad 3 0,ro 4 (.call (.f 277) [(.t 3), (.f 278)]),gw 5 4,aD 2 5] [2] .ret
def agW : J := ae [b1 2 false] [0] agV
theorem agX : bu ⟨6, [0]⟩ (Tryz.f236.body.getD .skip) = some agW.strip := by kernel_rfl
def agY : J := ae [ad 3 0,ro 4 (.cf .geq 5 (.t 3) (.c (.int .u8 48))),ad 5 4,bK 6 5 (.cz (.t 0)),bK 7 5 (.cf .leq 5 (.t 6) (.c (.int .u8 57))),ro 8 (.pick (.t 5) (.t 7) (.c (.bool false))),aD 2 8] [2] .ret
def agZ : J := ae [b1 2 false] [0] agY
theorem ag0 : bu ⟨9, [0]⟩ (Tryz.f279.body.getD .skip) = some agZ.strip := by kernel_rfl
def ag1 : J := ae [b1 2 false] [2] .ret
def ag2 : J := .cond (.t 32) ag1 .skip
def ag3 : J := ae [ad 20 4,gw 21 20,ad 22 21,bK 23 22 (.cz (.t 3)),bK 24 22 (.cf .eql 3 (.t 23) (.c (.int .i64 0))),bK 25 22 (.cz (.t 24)),bW 26 25 (.cz (.t 0)),bW 27 25 (.cz (.t 3)),bW 28 25 (.idx 9 (.t 26) (.t 27)),⟨some 29, .call (.f 279) [(.t 28)], some (25, false)⟩,bW 30 25 (.un .not (.t 29)),bK 31 22 (.pick (.t 25) (.c (.bool true)) (.t 30)),ro 32 (.pick (.t 22) (.t 31) (.c (.bool false)))] [0, 6, 7, 32] ag2
def ag4 : J := ae [ad 10 0,ad 11 3,Nv 12 9 10 11,ro 13 (.cf .geq 5 (.t 12) (.c (.int .u8 97))),ad 14 13,bK 15 14 (.cz (.t 0)),bK 16 14 (.cz (.t 3)),bK 17 14 (.idx 9 (.t 15) (.t 16)),bK 18 14 (.cf .leq 5 (.t 17) (.c (.int .u8 122))),ro 19 (.pick (.t 14) (.t 18) (.c (.bool false))),aD 4 19] [0, 3, 4, 6, 7] ag3
def ag5 : J := .cd [aY 33 .add 3 7 1,ad 7 33] (some [0, 6, 7])
def ag6 : J := .seq (.block 1 (ae [ad 9 7,aD 3 9] [0, 3, 6, 7] ag4)) ag5
def ag7 : J := .seq (.cond (.t 8) .skip (.exit 0)) ag6
def OP : J := ae [cg 8 .lss 3 7 6] [0, 6, 7, 8] ag7
def ag8 : J := .block 0 (.loop OP)
def ag9 : J := ae [ad 34 0,cX 35 9 34,aY 36 .geq 3 35 1,ad 37 36,bK 38 37 (.cz (.t 0)),bK 39 37 (.len 9 (.t 38)),bK 40 37 (.cf .leq 3 (.t 39) (.c (.int .i64 10))),ro 41 (.pick (.t 37) (.t 40) (.c (.bool false))),aD 2 41] [2] .ret
def ag_ : J := .seq (ae [ad 5 0,cX 6 9 5,nm 7 0] [0, 6, 7] ag8) ag9
def aha : J := ae [b1 2 false] [0] ag_
theorem ahb : bu ⟨42, [0]⟩ (Tryz.f237.body.getD .skip) = some aha.strip := by kernel_rfl
def ahc : J := ae [bg 4 158 2 0,aV 5 9 4,aV 6 9 1,cg 7 .eql 9 5 6,aD 3 7] [3] .ret
def ahd : J := ae [ro 2 (.dj 158 (.t 0)),b1 3 false] [1, 2] ahc
theorem ahe : bu ⟨8, [0, 1]⟩ (Tryz.f281.body.getD .skip) = some ahd.strip := by kernel_rfl
def ahf : J := ae [ad 17 5,aD 4 17] [4] .ret
def ahg : J := .cond (.t 16) ahf .skip
def ahh : J := ae [ad 11 1,ad 12 0,ad 13 5,cV 14 72 12 13,aV 15 158 14,ro 16 (.call (.t 11) [(.t 15)])] [0, 1, 5, 7, 8, 16] ahg
def ahi : J := .cd [aY 18 .add 3 8 1,ad 8 18] (some [0, 1, 7, 8])
def ahj : J := .seq (.block 1 (ae [ad 10 8,aD 5 10] [0, 1, 5, 7, 8] ahh)) ahi
def ahk : J := .seq (.cond (.t 9) .skip (.exit 0)) ahj
def OQ : J := ae [cg 9 .lss 3 8 7] [0, 1, 7, 8, 9] ahk
def ahl : J := .block 0 (.loop OQ)
def ahm : J := ae [bC 4 (-1)] [4] .ret
def ahn : J := .seq (ae [ad 6 0,cX 7 72 6,nm 8 0] [0, 1, 7, 8] ahl) ahm
def aho : J := ae [bC 4 0] [0, 1] ahn
theorem ahp : bu ⟨19, [0, 1]⟩ (Tryz.f280.body.getD .skip) = some aho.strip := by kernel_rfl
def ahq : J := ae [ad 5 0,ro 6 (.ji 281 [(.t 3)]),dN 7 280 5 6,aD 4 7] [4] .ret
def ahr : J := ae [ro 3 (.dj 9 (.t 1)),bC 4 0] [0, 3] ahq
theorem ahs : bu ⟨8, [0, 1]⟩ (Tryz.f238.body.getD .skip) = some ahr.strip := by kernel_rfl
def aht : J := .cd [aY 8 .eql 2 4 4,aD 5 8] (some [4, 5])
def ahu : J := .cond (.t 5) .skip aht
def ahv : J := ae [aY 7 .eql 2 4 3,aD 5 7] [4, 5] ahu
def ahw : J := .cond (.t 5) .skip ahv
def ahx : J := ae [bC 2 1] [2] .ret
def ahy : J := ae [bC 2 2] [2] .ret
def ahz : J := .cond (.t 9) ahy .skip
def ahA : J := ae [aY 10 .eql 2 4 2,aD 9 10] [9] ahz
def OR : J := .cond (.t 5) ahx ahA
def ahB : J := .block 0 (.seq (ae [aY 6 .eql 2 4 1,aD 5 6] [4, 5] ahw) OR)
def ahC : J := ae [bC 2 0] [2] .ret
def ahD : J := .seq (ae [bg 3 230 1 0,aV 4 2 3] [4] ahB) ahC
def ahE : J := ae [ro 1 (.dj 230 (.t 0)),bC 2 0] [1] ahD
theorem ahF : bu ⟨11, [0]⟩ (Tryz.f284.body.getD .skip) = some ahE.strip := by kernel_rfl
def ahG : J := .cond (.t 7) .skip (.exit 0)
def ahH : J := ae [bC 4 (-1)] [4] .ret
def ahI : J := .cond (.t 14) ahH .skip
def ahJ : J := .cd [ad 15 5,bg 16 158 2 2,aV 17 156 16,ad 18 1,cV 19 156 17 18,aV 20 230 19,dM 21 284 20,aY 22 .sub 3 21 1,cg 23 .add 3 15 22,aD 5 23] (some [1, 2, 5])
def ahK : J := .cd [ad 8 1,aY 9 .add 3 8 1,aD 1 9] (some [1, 2, 5])
def ahL : J := .seq (.block 1 (.seq (ae [ad 10 1,bg 11 158 2 2,aV 12 156 11,cX 13 156 12,cg 14 .geq 3 10 13] [1, 2, 5, 14] ahI) ahJ)) ahK
def OS : J := .seq (ae [ad 6 5,aY 7 .gtr 3 6 0] [1, 2, 5, 7] ahG) ahL
def ahM : J := .block 0 (.loop OS)
def ahN : J := ae [ad 24 1,aD 4 24] [4] .ret
def ahO : J := .seq (ae [bC 5 1] [1, 2, 5] ahM) ahN
def ahP : J := ae [ro 2 (.dj 158 (.t 0)),bC 4 0] [1, 2] ahO
theorem ahQ : bu ⟨25, [0]⟩ (Tryz.f244.body.getD .skip) = some ahP.strip := by kernel_rfl
def ahR : J := .cd [bg 29 309 9 0,aV 30 2 29,aY 31 .add 2 30 1,bg 32 309 9 0,eM 2 32 31] (some [0, 2, 3, 4, 8, 9])
def ahS : J := .cond (.t 28) ahR .skip
def ahT : J := .cd [aY 43 .add 3 37 1,ad 37 43] (some [2, 3, 4, 9, 10, 36, 37])
def ahU : J := .seq (.block 1 (.jv (G3 aA 283 4 2 39 ((List.range 3).map (· + 2)) [ad 40 10, aV 41 309 9] [(.t 40), (.t 41)] (some 42) [aD 10 42] [2, 3, 4, 9, 10, 36, 37]) (M0 353 4 39 [ad 40 10, aV 41 309 9] [(.t 40), (.t 41)] (some 42) [aD 10 42]))) ahT
def ahV : J := .seq (.cond (.t 38) .skip (.exit 0)) ahU
def OT : J := ae [cg 38 .lss 3 37 36] [2, 3, 4, 9, 10, 36, 37, 38] ahV
def ahW : J := .block 0 (.loop OT)
def ahX : J := ae [ad 44 10,aD 7 44] [2, 3, 4, 7] .ret
def ahY : J := .seq (ae [aV 35 230 8,dM 36 284 35,nm 37 0] [2, 3, 4, 9, 10, 36, 37] ahW) ahX
def OU : J := ae [ad 33 0,aY 34 .add 3 33 1,aD 10 34] [2, 3, 4, 8, 9, 10] ahY
def ahZ : J := .seq (ae [bg 26 230 8 0,aV 27 2 26,aY 28 .eql 2 27 4] [0, 2, 3, 4, 8, 9, 28] ahS) OU
def ah0 : J := ae [bg 20 309 6 0,aV 21 2 20,bg 22 230 8 0,aV 23 2 22,aY 24 .eql 2 23 1,ro 25 (.ev 309 [(0, (.t 21)), (1, (.t 24))]),jK 9 309,eM 309 9 25] [0, 2, 3, 4, 8, 9] ahZ
def ah1 : J := ae [bg 15 158 3 2,aV 16 156 15,ad 17 0,cV 18 156 16 17,aV 19 230 18,jK 8 230,eM 230 8 19] [0, 2, 3, 4, 6, 8] ah0
def ah2 : J := ae [aV 11 310 2,ad 12 0,aV 13 309 6,cV 14 310 11 12,eM 309 14 13] [0, 2, 3, 4, 6] ah1
def OV : J := ae [ro 6 (.dj 309 (.t 1)),bC 7 0] [0, 2, 3, 4, 6] ah2
theorem ah3 : OV.ni (B0 aA 283 [0, 1, 2, 3, 4] 5 2 4) := And.intro (True.intro) (And.intro (True.intro) (And.intro (True.intro) (And.intro (True.intro) (And.intro (And.intro (True.intro) (And.intro (True.intro) (True.intro))) (And.intro (True.intro) (And.intro (And.intro (True.intro) (And.intro (True.intro) (And.intro (And.intro (True.intro) (True.intro)) (And.intro (⟨353, 2, 39, 3, _, _, _, _, _, rfl, rfl, (by kernel_rfl), rfl, rfl, rfl, rfl, rfl, rfl, rfl⟩) (True.intro))))) (And.intro (True.intro) (True.intro))))))))
theorem ah4 : bu ⟨45, [0, 1, 2, 3, 4]⟩ (Tryz.f283.body.getD .skip) = some OV.strip := by kernel_rfl
def H3 : J := ae [aV 15 310 3,aD 2 15] [2] .ret
def ah5 : J := ae [aV 10 353 4,bg 11 158 1 1,aV 12 2 11,ro 13 (.ev 309 [(0, (.t 12))]),ro 14 (.call (.t 10) [(.c (.int .i64 0)), (.t 13)])] [3] H3
def azP : J := ae [ro 9 (.ji 283 [(.t 3), (.t 1), (.t 4)]),eM 353 4 9] [1, 3, 4] ah5
def ah6 : J := .jv (G7 aA 283 4 2 10 9 [3, 1, 4] [bg 11 158 1 1, aV 12 2 11, ro 13 (.ev 309 [(0, (.t 12))])] [(.c (.int .i64 0)), (.t 13)] (some 14) [3] H3) (M6 353 283 4 10 9 [3, 1, 4] [bg 11 158 1 1, aV 12 2 11, ro 13 (.ev 309 [(0, (.t 12))])] [(.c (.int .i64 0)), (.t 13)] (some 14) H3.k5)
def ah7 : J := ae [bg 5 158 1 2,aV 6 156 5,cX 7 156 6,ro 8 (.e7 310 (.t 7) (.t 7)),jK 3 310,eM 310 3 8] [1, 3] ah6
def OW : J := ae [ro 1 (.dj 158 (.t 0)),j0 2] [1] ah7
theorem ah8 : OW.ni (yX aA) := And.intro (True.intro) (And.intro (True.intro) (⟨353, 283, 4, 2, 10, 9, _, _, _, _, _, _, rfl, rfl, (by kernel_rfl), ⟨Tryz.t353, _, _, (by kernel_rfl), rfl, rfl, rfl, rfl⟩, rfl, rfl, rfl, rfl, (by kernel_rfl)⟩))
theorem ah9 : bu ⟨16, [0]⟩ (Tryz.f241.body.getD .skip) = some OW.strip := by kernel_rfl
def ah_ : J := ae [bg 26 230 1 0,aV 27 2 26,ro 28 (.call (.f 125) [(.t 27), (.c (.int .i64 0)), (.c (.int .i64 5))]),ad 29 28,bK 30 29 (.cz (.t 3)),bK 31 29 (.cz (.t 30)),bW 32 31 (.di 230 (.t 1) 1),bW 33 31 (.cS 2 (.t 32)),bW 34 31 (.cf .eql 2 (.t 33) (.c (.int .i64 0))),bK 35 29 (.pick (.t 31) (.c (.bool true)) (.t 34)),ro 36 (.pick (.t 29) (.t 35) (.c (.bool false))),ad 37 36,bK 38 37 (.di 230 (.t 1) 0),bK 39 37 (.cS 2 (.t 38)),bK 40 37 (.cf .eql 2 (.t 39) (.c (.int .i64 1))),bK 41 37 (.cz (.t 40)),bW 42 41 (.di 230 (.t 1) 2),bW 43 41 (.cS 9 (.t 42)),⟨some 44, .cf .eql 9 (.t 43) (.c (.str [])), some (41, false)⟩,bK 45 37 (.pick (.t 41) (.c (.bool true)) (.t 44)),ro 46 (.pick (.t 37) (.t 45) (.c (.bool false))),ad 47 46,bK 48 47 (.cz (.t 4)),bK 49 47 (.cz (.t 48)),bW 50 49 (.di 230 (.t 1) 3),bW 51 49 (.cS 187 (.t 50)),bW 52 49 (.len 187 (.t 51)),bW 53 49 (.cf .eql 3 (.t 52) (.c (.int .i64 0))),bK 54 47 (.pick (.t 49) (.c (.bool true)) (.t 53)),ro 55 (.pick (.t 47) (.t 54) (.c (.bool false))),aD 2 55] [2] .ret
def aia : J := ae [bg 13 230 1 0,aV 14 2 13,aY 15 .eql 2 14 1,ad 16 15,bW 17 16 (.di 230 (.t 1) 0),bW 18 16 (.cS 2 (.t 17)),bW 19 16 (.cf .eql 2 (.t 18) (.c (.int .i64 3))),ro 20 (.pick (.t 16) (.c (.bool true)) (.t 19)),ad 21 20,bW 22 21 (.di 230 (.t 1) 0),bW 23 21 (.cS 2 (.t 22)),bW 24 21 (.cf .eql 2 (.t 23) (.c (.int .i64 5))),ro 25 (.pick (.t 21) (.c (.bool true)) (.t 24)),aD 4 25] [1, 3, 4] ah_
def aib : J := ae [bg 5 230 1 0,aV 6 2 5,aY 7 .eql 2 6 4,ad 8 7,bW 9 8 (.di 230 (.t 1) 0),bW 10 8 (.cS 2 (.t 9)),bW 11 8 (.cf .eql 2 (.t 10) (.c (.int .i64 5))),ro 12 (.pick (.t 8) (.c (.bool true)) (.t 11)),aD 3 12] [1, 3] aia
def aic : J := ae [ro 1 (.dj 230 (.t 0)),b1 2 false] [1] aib
theorem aid : bu ⟨56, [0]⟩ (Tryz.f308.body.getD .skip) = some aic.strip := by kernel_rfl
def aie : J := ae [ad 3 0,dM 4 237 3,ad 5 4,bK 6 5 (.cz (.t 0)),⟨some 7, .cf .neq 9 (.t 6) (.c (.str [116, 97, 117])), some (5, true)⟩,ro 8 (.pick (.t 5) (.t 7) (.c (.bool false))),aD 2 8] [2] .ret
def aif : J := ae [b1 2 false] [0] aie
theorem aih : bu ⟨9, [0]⟩ (Tryz.f192.body.getD .skip) = some aif.strip := by kernel_rfl
def aii : J := ae [ad 5 0,ad 6 1,aY 7 .sub 2 6 1,ro 8 (.call (.f 125) [(.t 5), (.c (.int .i64 0)), (.t 7)]),aD 4 8] [4] .ret
def aij : J := ae [b1 4 false] [0, 1] aii
theorem aik : bu ⟨9, [0, 1]⟩ (Tryz.f240.body.getD .skip) = some aij.strip := by kernel_rfl
def ail : J := ae [ad 13 5,aY 14 .eql 3 13 0,ad 15 14,bW 16 15 (.di 230 (.t 2) 2),bW 17 15 (.cS 9 (.t 16)),⟨some 18, .cf .neq 9 (.t 17) (.c (.str [116, 97, 117])), some (15, false)⟩,bW 19 15 (.cz (.t 18)),bK 20 19 (.cz (.t 5)),bK 21 19 (.cf .leq 3 (.t 20) (.c (.int .i64 2))),bW 22 15 (.pick (.t 19) (.t 21) (.c (.bool false))),ro 23 (.pick (.t 15) (.c (.bool true)) (.t 22)),aD 4 23] [4] .ret
def aim : J := ae [ad 26 5,aY 27 .eql 3 26 1,aD 4 27] [4] .ret
def ain : J := ae [ad 30 5,ad 31 1,bg 32 230 2 1,aV 33 2 32,cV 34 72 31 33,bg 35 158 34 1,aV 36 2 35,cg 37 .eql 2 30 36,aD 4 37] [4] .ret
def aio : J := .cond (.t 28) ain .skip
def aip : J := ae [aY 29 .eql 2 10 5,aD 28 29] [1, 2, 5, 28] aio
def aiq : J := .cond (.t 24) aim aip
def air : J := ae [aY 25 .eql 2 10 3,aD 24 25] [1, 2, 5, 10, 24] aiq
def ais : J := .cond (.t 11) ail air
def ait : J := .block 0 (ae [aY 12 .eql 2 10 1,aD 11 12] [1, 2, 5, 10, 11] ais)
def aiu : J := ae [b1 4 true] [4] .ret
def aiv : J := .seq (ae [bg 9 230 2 0,aV 10 2 9] [1, 2, 5, 10] ait) aiu
def aiw : J := ae [bg 6 230 2 3,aV 7 187 6,cX 8 187 7,aD 5 8] [1, 2, 5] aiv
def aix : J := ae [ro 2 (.dj 230 (.t 0)),b1 4 false] [1, 2] aiw
theorem aiy : bu ⟨38, [0, 1]⟩ (Tryz.f309.body.getD .skip) = some aix.strip := by kernel_rfl
def aiz : J := ae [ad 3 0,ro 4 (.call (.f 125) [(.t 3), (.c (.int .i64 0)), (.c (.int .i64 63))]),aD 2 4] [2] .ret
def aiA : J := ae [b1 2 false] [0] aiz
theorem aiB : bu ⟨5, [0]⟩ (Tryz.f198.body.getD .skip) = some aiA.strip := by kernel_rfl
def aiC : J := ae [bg 9 278 2 1,aV 10 2 9,dM 11 198 10,aD 4 11] [4] .ret
def aiD : J := ae [bg 14 278 2 1,aV 15 2 14,ad 16 1,aY 17 .sub 2 16 1,ro 18 (.call (.f 125) [(.t 15), (.c (.int .i64 0)), (.t 17)]),aD 4 18] [4] .ret
def aiE : J := ae [bg 21 278 2 1,aV 22 2 21,ro 23 (.call (.f 125) [(.t 22), (.c (.int .i64 0)), (.c (.int .i64 8))]),aD 4 23] [4] .ret
def aiF : J := ae [bg 26 278 2 1,aV 27 2 26,aY 28 .eql 2 27 0,aD 4 28] [4] .ret
def aiG : J := .cond (.t 24) aiF .skip
def aiH : J := ae [aY 25 .eql 2 6 3,aD 24 25] [2, 24] aiG
def aiI : J := .cond (.t 19) aiE aiH
def aiJ : J := ae [aY 20 .eql 2 6 2,aD 19 20] [2, 6, 19] aiI
def aiK : J := .cond (.t 12) aiD aiJ
def aiL : J := ae [aY 13 .eql 2 6 1,aD 12 13] [1, 2, 6, 12] aiK
def aiM : J := .cond (.t 7) aiC aiL
def aiN : J := .block 0 (ae [aY 8 .eql 2 6 0,aD 7 8] [1, 2, 6, 7] aiM)
def aiO : J := ae [b1 4 false] [4] .ret
def aiP : J := .seq (ae [bg 5 278 2 0,aV 6 2 5] [1, 2, 6] aiN) aiO
def aiQ : J := ae [ro 2 (.dj 278 (.t 0)),b1 4 false] [1, 2] aiP
theorem aiR : bu ⟨29, [0, 1]⟩ (Tryz.f259.body.getD .skip) = some aiQ.strip := by kernel_rfl
def aiS : J := ae [bC 2 2] [2] .ret
def aiT : J := ae [bC 2 1] [2] .ret
def aiU : J := .cond (.t 7) aiT .skip
def aiV : J := ae [aY 8 .eql 2 4 3,aD 7 8] [7] aiU
def aiW : J := .cond (.t 5) aiS aiV
def aiX : J := .block 0 (ae [aY 6 .eql 2 4 2,aD 5 6] [4, 5] aiW)
def aiY : J := ae [bC 2 0] [2] .ret
def aiZ : J := .seq (ae [bg 3 278 1 0,aV 4 2 3] [4] aiX) aiY
def ai0 : J := ae [ro 1 (.dj 278 (.t 0)),bC 2 0] [1] aiZ
theorem ai1 : bu ⟨9, [0]⟩ (Tryz.f260.body.getD .skip) = some ai0.strip := by kernel_rfl
def ai2 : J := ae [b1 6 false] [6] .ret
def ai3 : J := .cond (.t 24) ai2 .skip
def ai4 : J := ae [b1 6 false] [6] .ret
def ai5 : J := .cond (.t 38) ai4 .skip
def ai6 : J := .cd [ad 39 7,aV 40 278 9,dM 41 260 40,aY 42 .sub 3 41 1,cg 43 .add 3 39 42,aD 7 43] (some [1, 7, 25, 26, 27])
def ai7 : J := .seq (ae [ad 31 7,aY 32 .eql 3 31 0,ad 33 32,bW 34 33 (.cS 278 (.t 9)),bW 35 33 (.cz (.t 1)),⟨some 36, .call (.f 259) [(.t 34), (.t 35)], some (33, false)⟩,bW 37 33 (.un .not (.t 36)),ro 38 (.pick (.t 33) (.c (.bool true)) (.t 37))] [1, 7, 9, 25, 26, 27, 38] ai5) ai6
def ai8 : J := .cd [aY 44 .add 3 27 1,ad 27 44] (some [1, 7, 25, 26, 27])
def ai9 : J := .seq (.block 1 (ae [cV 29 186 25 27,aV 30 278 29,jK 9 278,eM 278 9 30] [1, 7, 9, 25, 26, 27] ai7)) ai8
def ai_ : J := .seq (.cond (.t 28) .skip (.exit 0)) ai9
def OX : J := ae [cg 28 .lss 3 27 26] [1, 7, 25, 26, 27, 28] ai_
def aja : J := .block 0 (.loop OX)
def ajb : J := ae [ad 45 7,aY 46 .eql 3 45 0,aD 6 46] [6] .ret
def ajc : J := .seq (ae [ad 25 0,cX 26 186 25,nm 27 0] [1, 7, 25, 26, 27] aja) ajb
def ajd : J := ae [bC 7 1] [0, 1, 7] ajc
def aje : J := .seq (ae [ad 10 1,ro 11 (.call (.f 125) [(.t 10), (.c (.int .i64 0)), (.c (.int .i64 29))]),gw 12 11,ad 13 12,bW 14 13 (.cz (.t 2)),⟨some 15, .call (.f 125) [(.t 14), (.c (.int .i64 1)), (.c (.int .i64 60))], some (13, false)⟩,bW 16 13 (.un .not (.t 15)),ro 17 (.pick (.t 13) (.c (.bool true)) (.t 16)),ad 18 17,bW 19 18 (.cz (.t 0)),bW 20 18 (.len 186 (.t 19)),bW 21 18 (.cz (.t 2)),⟨some 22, .call (.f 125) [(.t 20), (.c (.int .i64 1)), (.t 21)], some (18, false)⟩,bW 23 18 (.un .not (.t 22)),ro 24 (.pick (.t 18) (.c (.bool true)) (.t 23))] [0, 1, 24] ai3) ajd
def ajf : J := ae [b1 6 false] [0, 1, 2] aje
theorem ajg : bu ⟨47, [0, 1, 2]⟩ (Tryz.f196.body.getD .skip) = some ajf.strip := by kernel_rfl
def ajh : J := ae [ad 4 0,bg 5 309 1 0,aV 6 2 5,ro 7 (.call (.f 196) [(.t 4), (.t 6), (.c (.int .i64 15))]),gw 8 7,aD 3 8] [3] .ret
def aji : J := ae [b1 3 false] [0, 1] ajh
theorem ajj : bu ⟨9, [0, 1]⟩ (Tryz.f310.body.getD .skip) = some aji.strip := by kernel_rfl
def ajk : J := ae [ad 17 5,aD 4 17] [4] .ret
def ajl : J := .cond (.t 16) ajk .skip
def ajm : J := ae [ad 11 1,ad 12 0,ad 13 5,cV 14 187 12 13,aV 15 186 14,ro 16 (.call (.t 11) [(.t 15)])] [0, 1, 5, 7, 8, 16] ajl
def ajn : J := .cd [aY 18 .add 3 8 1,ad 8 18] (some [0, 1, 7, 8])
def ajo : J := .seq (.block 1 (ae [ad 10 8,aD 5 10] [0, 1, 5, 7, 8] ajm)) ajn
def ajp : J := .seq (.cond (.t 9) .skip (.exit 0)) ajo
def OY : J := ae [cg 9 .lss 3 8 7] [0, 1, 7, 8, 9] ajp
def ajq : J := .block 0 (.loop OY)
def ajr : J := ae [bC 4 (-1)] [4] .ret
def ajs : J := .seq (ae [ad 6 0,cX 7 187 6,nm 8 0] [0, 1, 7, 8] ajq) ajr
def ajt : J := ae [bC 4 0] [0, 1] ajs
theorem aju : bu ⟨19, [0, 1]⟩ (Tryz.f257.body.getD .skip) = some ajt.strip := by kernel_rfl
def ajv : J := ae [ad 5 0,ad 6 1,dN 7 257 5 6,aY 8 .geq 3 7 0,aD 4 8] [4] .ret
def ajw : J := ae [b1 4 false] [0, 1] ajv
theorem ajx : bu ⟨9, [0, 1]⟩ (Tryz.f193.body.getD .skip) = some ajw.strip := by kernel_rfl
def ajy : J := ae [bC 6 2] [6] .ret
def ajz : J := ae [bC 6 3] [6] .ret
def ajA : J := ae [bC 6 4] [6] .ret
def ajB : J := ae [bC 6 5] [6] .ret
def ajC : J := ae [bC 6 6] [6] .ret
def ajD : J := ae [bC 6 7] [6] .ret
def ajE : J := ae [bC 6 8] [6] .ret
def ajF : J := .cond (.t 72) ajE .skip
def ajG : J := ae [bg 73 230 3 3,aV 74 187 73,ro 75 (.ji 310 [(.t 5)]),dN 76 193 74 75,aD 72 76] [72] ajF
def ajH : J := .cond (.t 63) ajD ajG
def ajI : J := ae [bg 64 230 3 0,aV 65 2 64,aY 66 .eql 2 65 4,ad 67 66,bK 68 67 (.di 309 (.t 5) 0),bK 69 67 (.cS 2 (.t 68)),bK 70 67 (.cf .geq 2 (.t 69) (.c (.int .i64 6))),ro 71 (.pick (.t 67) (.t 70) (.c (.bool false))),aD 63 71] [3, 5, 63] ajH
def ajJ : J := .cond (.t 54) ajC ajI
def ajK : J := ae [bg 55 230 3 0,aV 56 2 55,aY 57 .eql 2 56 5,ad 58 57,bK 59 58 (.di 309 (.t 5) 1),bK 60 58 (.cS 4 (.t 59)),bK 61 58 (.un .not (.t 60)),ro 62 (.pick (.t 58) (.t 61) (.c (.bool false))),aD 54 62] [3, 5, 54] ajJ
def ajL : J := .cond (.t 49) ajB ajK
def ajM : J := ae [aV 50 230 3,ad 51 1,dN 52 309 50 51,gw 53 52,aD 49 53] [3, 5, 49] ajL
def OZ : J := .cond (.t 26) ajA ajM
def ajN : J := ae [bg 27 230 3 0,aV 28 2 27,aY 29 .eql 2 28 4,ad 30 29,bK 31 30 (.di 230 (.t 3) 1),bK 32 30 (.cS 2 (.t 31)),⟨some 33, .call (.f 125) [(.t 32), (.c (.int .i64 1)), (.c (.int .i64 7))], some (30, true)⟩,bK 34 30 (.un .not (.t 33)),ro 35 (.pick (.t 30) (.t 34) (.c (.bool false))),ad 36 35,bW 37 36 (.di 230 (.t 3) 0),bW 38 36 (.cS 2 (.t 37)),bW 39 36 (.cf .eql 2 (.t 38) (.c (.int .i64 5))),bW 40 36 (.cz (.t 39)),bK 41 40 (.di 230 (.t 3) 1),bK 42 40 (.cS 2 (.t 41)),bK 43 40 (.cz (.t 1)),bK 44 40 (.len 72 (.t 43)),⟨some 45, .call (.f 240) [(.t 42), (.t 44)], some (40, true)⟩,bK 46 40 (.un .not (.t 45)),bW 47 36 (.pick (.t 40) (.t 46) (.c (.bool false))),ro 48 (.pick (.t 36) (.c (.bool true)) (.t 47)),aD 26 48] [1, 3, 5, 26] OZ
def O0 : J := .cond (.t 11) ajz ajN
def ajO : J := ae [bg 12 230 3 0,aV 13 2 12,aY 14 .eql 2 13 1,ad 15 14,bK 16 15 (.di 230 (.t 3) 2),bK 17 15 (.cS 9 (.t 16)),⟨some 18, .cf .neq 9 (.t 17) (.c (.str [116, 97, 117])), some (15, true)⟩,ro 19 (.pick (.t 15) (.t 18) (.c (.bool false))),ad 20 19,bK 21 20 (.di 230 (.t 3) 2),bK 22 20 (.cS 9 (.t 21)),⟨some 23, .call (.f 192) [(.t 22)], some (20, true)⟩,bK 24 20 (.un .not (.t 23)),ro 25 (.pick (.t 20) (.t 24) (.c (.bool false))),aD 11 25] [1, 3, 5, 11] O0
def ajP : J := .cond (.t 7) ajy ajO
def ajQ : J := ae [bC 6 0] [6] .ret
def ajR : J := .seq (.block 0 (ae [aV 8 230 3,dM 9 308 8,gw 10 9,aD 7 10] [1, 3, 5, 7] ajP)) ajQ
def ajS : J := ae [ro 3 (.dj 230 (.t 0)),ro 5 (.dj 309 (.t 2)),bC 6 0] [1, 3, 5] ajR
theorem ajT : bu ⟨77, [0, 1, 2]⟩ (Tryz.f282.body.getD .skip) = some ajS.strip := by kernel_rfl
def ajU : J := ae [bC 4 0,bC 5 1] [4, 5] .ret
def ajV : J := .cond (.t 22) ajU .skip
def ajW : J := ae [ad 42 7,ad 43 9,aD 4 42,aD 5 43] [4, 5] .ret
def ajX : J := .cond (.t 41) ajW .skip
def ajY : J := ae [ad 40 9,aY 41 .neq 2 40 0] [0, 6, 7, 9, 26, 27, 28, 41] ajX
def ajZ : J := iB [aV 33 230 8,ad 34 0,ad 35 6,ad 36 7,cV 37 310 35 36,aV 38 309 37,tV 39 282 33 34 38,aD 9 39] [[], [], [], [], [2, 3], [4], [0, 1, 5], [6, 6, 0, 1, 2, 3, 4, 5, 6]] [0, 6, 7, 9, 26, 27, 28] ajY
def aj0 : J := .cd [aY 44 .add 3 28 1,ad 28 44] (some [0, 6, 26, 27, 28])
def aj1 : J := .seq (.block 1 (ae [ad 30 28,cV 31 156 26 28,aV 32 230 31,jK 8 230,aD 7 30,eM 230 8 32] [0, 6, 7, 8, 26, 27, 28] ajZ)) aj0
def aj2 : J := .seq (.cond (.t 29) .skip (.exit 0)) aj1
def O1 : J := ae [cg 29 .lss 3 28 27] [0, 6, 26, 27, 28, 29] aj2
def aj3 : J := .block 0 (.loop O1)
def aj4 : J := ae [bC 4 0,bC 5 0] [4, 5] .ret
def aj5 : J := .seq (ae [bg 25 158 3 2,aV 26 156 25,cX 27 156 26,nm 28 0] [0, 6, 26, 27, 28] aj3) aj4
def aj6 : J := ae [aV 23 158 3,dM 24 241 23,aD 6 24] [0, 3, 6] aj5
def aj7 : J := .seq (iB [bg 10 158 3 2,aV 11 156 10,cX 12 156 11,ro 13 (.call (.f 125) [(.t 12), (.c (.int .i64 1)), (.c (.int .i64 20))]),gw 14 13,ad 15 14,bW 16 15 (.cS 158 (.t 3)),⟨some 17, .call (.f 244) [(.t 16), (.c (.int .i64 0))], some (15, false)⟩,bW 18 15 (.di 158 (.t 3) 2),bW 19 15 (.cS 156 (.t 18)),bW 20 15 (.len 156 (.t 19)),bW 21 15 (.cf .neq 3 (.t 17) (.t 20)),ro 22 (.pick (.t 15) (.c (.bool true)) (.t 21))] [[], [0], [1], [2], [3], [4, 3], [5], [6, 5, 5], [5], [8, 5], [9, 5], [7, 10, 5], [5, 11]] [0, 3, 22] ajV) aj6
def aj8 : J := ae [ro 3 (.dj 158 (.t 1)),bC 4 0,bC 5 0] [0, 3] aj7
theorem aj9 : bu ⟨45, [0, 1]⟩ (Tryz.f239.body.getD .skip) = some aj8.strip := by kernel_rfl
def aj_ : J := ae [b1 2 false] [2] .ret
def aka : J := .cond (.t 15) aj_ .skip
def akb : J := ae [b1 2 false] [2] .ret
def akc : J := .cond (.t 35) akb .skip
def akd : J := ae [b1 2 false] [2] .ret
def ake : J := .cond (.t 43) akd .skip
def akf : J := ae [ad 42 6,aY 43 .neq 2 42 0] [0, 16, 17, 18, 43] ake
def akg : J := ae [ad 37 0,aV 38 158 4,dN 39 239 37 38,ad 36 39,kP 40 36 0,kP 41 36 1,aD 5 40,aD 6 41] [0, 6, 16, 17, 18] akf
def akh : J := .seq (iB [bg 23 158 4 0,aV 24 9 23,dM 25 237 24,gw 26 25,ad 27 26,bW 28 27 (.cz (.t 0)),bW 29 27 (.cz (.t 3)),bW 30 27 (.fh 72 (.t 28) none (some (.t 29))),bW 31 27 (.di 158 (.t 4) 0),bW 32 27 (.cS 9 (.t 31)),⟨some 33, .call (.f 238) [(.t 30), (.t 32)], some (27, false)⟩,bW 34 27 (.cf .geq 3 (.t 33) (.c (.int .i64 0))),ro 35 (.pick (.t 27) (.c (.bool true)) (.t 34))] [[], [0], [1], [2], [3, 2], [4], [4], [5, 6, 4], [4], [8, 4], [7, 9, 4, 4], [10, 4], [4, 11]] [0, 4, 16, 17, 18, 35] akc) akg
def aki : J := .cd [aY 44 .add 3 18 1,ad 18 44] (some [0, 16, 17, 18])
def akj : J := .seq (.block 1 (ae [ad 20 18,cV 21 72 16 18,aV 22 158 21,jK 4 158,aD 3 20,eM 158 4 22] [0, 3, 4, 16, 17, 18] akh)) aki
def akk : J := .seq (.cond (.t 19) .skip (.exit 0)) akj
def O2 : J := ae [cg 19 .lss 3 18 17] [0, 16, 17, 18, 19] akk
def akl : J := .block 0 (.loop O2)
def akm : J := ae [b1 2 true] [2] .ret
def akn : J := .seq (ae [ad 16 0,cX 17 72 16,nm 18 0] [0, 16, 17, 18] akl) akm
def ako : J := .seq (ae [ad 7 0,cX 8 72 7,ro 9 (.call (.f 125) [(.t 8), (.c (.int .i64 1)), (.c (.int .i64 4))]),gw 10 9,ad 11 10,bW 12 11 (.cz (.t 0)),⟨some 13, .call (.f 236) [(.t 12)], some (11, false)⟩,bW 14 11 (.un .not (.t 13)),ro 15 (.pick (.t 11) (.c (.bool true)) (.t 14))] [0, 15] aka) akn
def akp : J := ae [b1 2 false] [0] ako
theorem akq : bu ⟨45, [0]⟩ (Tryz.f162.body.getD .skip) = some akp.strip := by kernel_rfl
def akr : J := ae [ad 3 0,dM 4 198 3,gw 5 4,aD 2 5] [2] .ret
def aks : J := ae [b1 2 false] [0] akr
theorem akt : bu ⟨6, [0]⟩ (Tryz.f197.body.getD .skip) = some aks.strip := by kernel_rfl
def aku : J := ae [ad 17 5,aD 4 17] [4] .ret
def akv : J := .cond (.t 16) aku .skip
def akw : J := ae [ad 11 1,ad 12 0,ad 13 5,cV 14 22 12 13,aV 15 2 14,ro 16 (.call (.t 11) [(.t 15)])] [0, 1, 5, 7, 8, 16] akv
def akx : J := .cd [aY 18 .add 3 8 1,ad 8 18] (some [0, 1, 7, 8])
def aky : J := .seq (.block 1 (ae [ad 10 8,aD 5 10] [0, 1, 5, 7, 8] akw)) akx
def akz : J := .seq (.cond (.t 9) .skip (.exit 0)) aky
def O3 : J := ae [cg 9 .lss 3 8 7] [0, 1, 7, 8, 9] akz
def akA : J := .block 0 (.loop O3)
def akB : J := ae [bC 4 (-1)] [4] .ret
def akC : J := .seq (ae [ad 6 0,cX 7 22 6,nm 8 0] [0, 1, 7, 8] akA) akB
def akD : J := ae [bC 4 0] [0, 1] akC
theorem akE : bu ⟨19, [0, 1]⟩ (Tryz.f217.body.getD .skip) = some akD.strip := by kernel_rfl
def akF : J := ae [ad 5 0,ad 6 1,dN 7 217 5 6,aY 8 .geq 3 7 0,aD 4 8] [4] .ret
def akG : J := ae [b1 4 false] [0, 1] akF
theorem akH : bu ⟨9, [0, 1]⟩ (Tryz.f149.body.getD .skip) = some akG.strip := by kernel_rfl
def akI : J := ae [ad 3 0,ro 4 (.call (.f 149) [(.t 3), (.f 197)]),gw 5 4,aD 2 5] [2] .ret
def akJ : J := ae [b1 2 false] [0] akI
theorem akK : bu ⟨6, [0]⟩ (Tryz.f129.body.getD .skip) = some akJ.strip := by kernel_rfl
def akL : J := ae [b1 4 false] [4] .ret
def akM : J := .cond (.t 24) akL .skip
def akN : J := iB [bg 30 158 5 2,aV 31 156 30,bg 32 74 3 1,aV 33 2 32,cV 34 156 31 33,bg 35 230 34 0,aV 36 2 35,aY 37 .neq 2 36 5,ad 38 37,bK 39 38 (.di 74 (.t 3) 2),bK 40 38 (.cS 22 (.t 39)),bK 41 38 (.len 22 (.t 40)),bK 42 38 (.cS 158 (.t 5)),⟨some 43, .call (.f 241) [(.t 42)], some (38, true)⟩,bK 44 38 (.di 74 (.t 3) 1),bK 45 38 (.cS 2 (.t 44)),bK 46 38 (.eX 310 (.t 43) (.t 45)),bK 47 38 (.di 309 (.t 46) 0),bK 48 38 (.cS 2 (.t 47)),bK 49 38 (.cf .eql 2 (.t 41) (.t 48)),ro 50 (.pick (.t 38) (.t 49) (.c (.bool false))),ad 51 50,bK 52 51 (.di 74 (.t 3) 2),bK 53 51 (.cS 22 (.t 52)),⟨some 54, .call (.f 129) [(.t 53)], some (51, true)⟩,ro 55 (.pick (.t 51) (.t 54) (.c (.bool false))),aD 4 55] [[], [0], [], [2], [1, 3], [4], [5], [6], [7], [8], [9, 8], [10, 8], [8], [12, 8, 8], [8], [14, 8], [13, 15, 8], [16, 8], [17, 8], [11, 18, 8], [8, 19], [20, 13], [21], [22, 21], [23, 21, 21], [21, 24], [25, 24, 0, 1, 2, 3, 4, 5, 6, 7, 8, 9, 10, 11, 12, 13, 14, 15, 16, 17, 18, 19, 20, 21, 22, 23, 24, 25]] [4] .ret
def akO : J := ae [ad 25 0,bg 26 74 3 0,aV 27 2 26,cV 28 72 25 27,aV 29 158 28,jK 5 158,eM 158 5 29] [3, 5] akN
def akP : J := .seq (iB [bg 6 74 3 0,aV 7 2 6,ad 8 0,cX 9 72 8,dN 10 240 7 9,gw 11 10,ad 12 11,bW 13 12 (.di 74 (.t 3) 1),bW 14 12 (.cS 2 (.t 13)),bW 15 12 (.cz (.t 0)),bW 16 12 (.di 74 (.t 3) 0),bW 17 12 (.cS 2 (.t 16)),bW 18 12 (.eX 72 (.t 15) (.t 17)),bW 19 12 (.di 158 (.t 18) 2),bW 20 12 (.cS 156 (.t 19)),bW 21 12 (.len 156 (.t 20)),⟨some 22, .call (.f 240) [(.t 14), (.t 21)], some (12, false)⟩,bW 23 12 (.un .not (.t 22)),ro 24 (.pick (.t 12) (.c (.bool true)) (.t 23))] [[], [0], [], [2], [1, 3], [4], [5, 4], [6], [7, 6], [6], [6], [10, 6], [9, 11, 6], [12, 6], [13, 6], [14, 6], [8, 15, 6, 6], [16, 6], [6, 17]] [0, 3, 24] akM) akO
def akQ : J := ae [ro 3 (.dj 74 (.t 1)),b1 4 false] [0, 3] akP
theorem akR : bu ⟨56, [0, 1]⟩ (Tryz.f163.body.getD .skip) = some akQ.strip := by kernel_rfl
def akS : J := ae [ad 5 0,dM 6 162 5,ad 7 6,bK 8 7 (.cz (.t 0)),bK 9 7 (.cS 74 (.t 3)),⟨some 10, .call (.f 163) [(.t 8), (.t 9)], some (7, true)⟩,ro 11 (.pick (.t 7) (.t 10) (.c (.bool false))),aD 4 11] [4] .ret
def akT : J := ae [ro 3 (.dj 74 (.t 1)),b1 4 false] [0, 3] akS
theorem akU : bu ⟨12, [0, 1]⟩ (Tryz.f99.body.getD .skip) = some akT.strip := by kernel_rfl
def akV : J := .cd [ad 25 4,ad 26 4,ga 27 26,bg 28 336 27 1,aV 29 334 28,ad 30 6,qx 31 334 30,qy 32 334 334 29 31,ga 33 25,bg 34 336 33 1,eM 334 34 32] (some [4, 5, 17, 18])
def akW : J := ae [ad 21 5,dM 22 261 21,ad 20 22,kP 23 20 0,kP 24 20 1,aD 6 23,aD 5 24] [4, 5, 6, 17, 18] akV
def akX : J := .cd [aY 35 .add 3 18 1,ad 18 35] (some [4, 5, 17, 18])
def akY : J := .seq (.block 1 (ae [ro 6 (.fu (.c .da))] [4, 5, 17, 18] akW)) akX
def akZ : J := .seq (.cond (.t 19) .skip (.exit 0)) akY
def O4 : J := ae [cg 19 .lss 3 18 17] [4, 5, 17, 18, 19] akZ
def ak0 : J := .block 0 (.loop O4)
def ak1 : J := ae [ad 36 4,ad 37 5,aD 2 36,aD 3 37] [2, 3] .ret
def ak2 : J := .seq (ae [ad 14 0,ro 15 (.eX 186 (.t 14) (.c (.int .i64 0))),aV 16 278 15,dM 17 260 16,nm 18 0] [4, 5, 17, 18] ak0) ak1
def ak3 : J := ae [ad 12 0,ro 13 (.fh 186 (.t 12) (some (.c (.int .i64 1))) none),aD 5 13] [0, 4, 5] ak2
def ak4 : J := ae [ad 7 0,ro 8 (.eX 186 (.t 7) (.c (.int .i64 0))),aV 9 278 8,ro 10 (.ev 336 [(0, (.t 9))]),ro 11 (.dj 336 (.t 10)),aD 4 11] [0, 4] ak3
def ak5 : J := ae [ro 2 (.fu (.c .da)),j0 3] [0] ak4
theorem ak6 : bu ⟨38, [0]⟩ (Tryz.f261.body.getD .skip) = some ak5.strip := by kernel_rfl
def ak7 : J := ae [ad 10 3,aD 2 10] [2] .ret
def ak8 : J := ae [ad 6 0,dM 7 261 6,ad 5 7,kP 8 5 0,kP 9 5 1,aD 3 8,aD 4 9] [3] ak7
def ak9 : J := ae [ro 2 (.fu (.c .da))] [0] ak8
theorem ak_ : bu ⟨11, [0]⟩ (Tryz.f199.body.getD .skip) = some ak9.strip := by kernel_rfl
def ala : J := ae [bC 2 1] [2] .ret
def alb : J := .cond (.t 3) ala .skip
def alc : J := ae [bC 2 0] [2] .ret
def ald : J := .seq (ae [ad 3 0] [3] alb) alc
def ale : J := ae [bC 2 0] [0] ald
theorem alf : bu ⟨4, [0]⟩ (Tryz.f263.body.getD .skip) = some ale.strip := by kernel_rfl
def alg : J := ae [ad 10 1,ad 11 2,cg 12 .add 2 10 11,aY 13 .rem 2 12 64,aD 6 13] [6] .ret
def alh : J := ae [ad 16 1,ad 17 2,cg 18 .sub 2 16 17,aY 19 .add 2 18 64,aY 20 .rem 2 19 64,aD 6 20] [6] .ret
def ali : J := ae [ad 23 1,ad 24 2,cg 25 .mul 2 23 24,aY 26 .rem 2 25 64,aD 6 26] [6] .ret
def alj : J := ae [ad 29 1,ad 30 2,cg 31 .eql 2 29 30,dM 32 263 31,aD 6 32] [6] .ret
def alk : J := ae [ad 35 1,ad 36 2,cg 37 .neq 2 35 36,dM 38 263 37,aD 6 38] [6] .ret
def alm : J := ae [ad 41 1,ad 42 2,cg 43 .lss 2 41 42,dM 44 263 43,aD 6 44] [6] .ret
def aln : J := ae [ad 47 1,ad 48 2,cg 49 .leq 2 47 48,dM 50 263 49,aD 6 50] [6] .ret
def alo : J := ae [ad 53 1,aY 54 .neq 2 53 0,ad 55 54,bK 56 55 (.cz (.t 2)),bK 57 55 (.cf .neq 2 (.t 56) (.c (.int .i64 0))),ro 58 (.pick (.t 55) (.t 57) (.c (.bool false))),dM 59 263 58,aD 6 59] [6] .ret
def alp : J := .cond (.t 51) alo .skip
def alq : J := ae [aY 52 .eql 2 7 7,aD 51 52] [1, 2, 51] alp
def alr : J := .cond (.t 45) aln alq
def als : J := ae [aY 46 .eql 2 7 6,aD 45 46] [1, 2, 7, 45] alr
def alu : J := .cond (.t 39) alm als
def alv : J := ae [aY 40 .eql 2 7 5,aD 39 40] [1, 2, 7, 39] alu
def alw : J := .cond (.t 33) alk alv
def alx : J := ae [aY 34 .eql 2 7 4,aD 33 34] [1, 2, 7, 33] alw
def aly : J := .cond (.t 27) alj alx
def alz : J := ae [aY 28 .eql 2 7 3,aD 27 28] [1, 2, 7, 27] aly
def alA : J := .cond (.t 21) ali alz
def alB : J := ae [aY 22 .eql 2 7 2,aD 21 22] [1, 2, 7, 21] alA
def alC : J := .cond (.t 14) alh alB
def alD : J := ae [aY 15 .eql 2 7 1,aD 14 15] [1, 2, 7, 14] alC
def alE : J := .cond (.t 8) alg alD
def alF : J := .block 0 (ae [aY 9 .eql 2 7 0,aD 8 9] [1, 2, 7, 8] alE)
def alG : J := ae [ad 60 1,aY 61 .neq 2 60 0,ad 62 61,bW 63 62 (.cz (.t 2)),bW 64 62 (.cf .neq 2 (.t 63) (.c (.int .i64 0))),ro 65 (.pick (.t 62) (.c (.bool true)) (.t 64)),dM 66 263 65,aD 6 66] [6] .ret
def alH : J := .seq (ae [ad 7 0] [1, 2, 7] alF) alG
def alI : J := ae [bC 6 0] [0, 1, 2] alH
theorem alJ : bu ⟨67, [0, 1, 2]⟩ (Tryz.f264.body.getD .skip) = some alI.strip := by kernel_rfl
def alK : J := ae [ad 12 0,ga 13 12,bg 14 336 13 0,bg 15 278 14 1,aV 16 2 15,aD 4 16] [4] .ret
def alL : J := ae [ad 19 1,ad 20 0,ga 21 20,bg 22 336 21 0,bg 23 278 22 1,aV 24 2 23,cV 25 22 19 24,aV 26 2 25,aD 4 26] [4] .ret
def alM : J := ae [ad 29 0,ga 30 29,bg 31 336 30 1,aV 32 334 31,ro 33 (.eX 334 (.t 32) (.c (.int .i64 0))),aV 34 271 33,ad 35 1,dN 36 203 34 35,aY 37 .eql 2 36 0,dM 38 263 37,aD 4 38] [4] .ret
def alN : J := .cond (.t 27) alM .skip
def alO : J := ae [aY 28 .eql 2 9 3,aD 27 28] [0, 1, 27] alN
def alP : J := .cond (.t 17) alL alO
def alQ : J := ae [aY 18 .eql 2 9 1,aD 17 18] [0, 1, 9, 17] alP
def alR : J := .cond (.t 10) alK alQ
def alS : J := .block 0 (ae [aY 11 .eql 2 9 0,aD 10 11] [0, 1, 9, 10] alR)
def alT : J := iB [ad 39 0,ga 40 39,bg 41 336 40 0,bg 42 278 41 1,aV 43 2 42,ad 44 0,ga 45 44,bg 46 336 45 1,aV 47 334 46,ro 48 (.eX 334 (.t 47) (.c (.int .i64 0))),aV 49 271 48,ad 50 1,dN 51 203 49 50,ad 52 0,ga 53 52,bg 54 336 53 1,aV 55 334 54,ro 56 (.eX 334 (.t 55) (.c (.int .i64 1))),aV 57 271 56,ad 58 1,dN 59 203 57 58,tV 60 264 43 51 59,aD 4 60] [[], [0], [1], [2], [3], [], [5], [6], [7], [8], [9], [], [10, 11], [], [13], [14], [15], [16], [17], [], [18, 19, 12], [4, 12, 20, 20], [21, 21, 0, 1, 2, 3, 4, 5, 6, 7, 8, 9, 10, 11, 12, 13, 14, 15, 16, 17, 18, 19, 20, 21]] [4] .ret
def alU : J := .seq (ae [ad 5 0,ga 6 5,bg 7 336 6 0,bg 8 278 7 0,aV 9 2 8] [0, 1, 9] alS) alT
def alV : J := ae [bC 4 0] [0, 1] alU
theorem alW : bu ⟨61, [0, 1]⟩ (Tryz.f203.body.getD .skip) = some alV.strip := by kernel_rfl
def alX : J := ae [ad 5 0,dM 6 199 5,ad 7 1,dN 8 203 6 7,aD 4 8] [4] .ret
def alY : J := ae [bC 4 0] [0, 1] alX
theorem alZ : bu ⟨9, [0, 1]⟩ (Tryz.f204.body.getD .skip) = some alY.strip := by kernel_rfl
def al0 : J := .cd [ad 14 5,ad 15 7,ad 16 1,dN 17 204 15 16,qx 18 22 17,qy 19 22 22 14 18,aD 5 19] (some [1, 5, 8, 9, 10])
def al1 : J := .cd [aY 20 .add 3 10 1,ad 10 20] (some [1, 5, 8, 9, 10])
def al2 : J := .seq (.block 1 (ae [cV 12 187 8 10,aV 13 186 12,aD 7 13] [1, 5, 7, 8, 9, 10] al0)) al1
def al3 : J := .seq (.cond (.t 11) .skip (.exit 0)) al2
def O5 : J := ae [cg 11 .lss 3 10 9] [1, 5, 8, 9, 10, 11] al3
def al4 : J := .block 0 (.loop O5)
def al5 : J := ae [ad 21 5,aD 4 21] [4] .ret
def al6 : J := .seq (ae [ad 8 0,cX 9 187 8,nm 10 0] [1, 5, 8, 9, 10] al4) al5
def al7 : J := ae [j0 5] [0, 1, 5] al6
def al8 : J := ae [j0 4] [0, 1] al7
theorem al9 : bu ⟨22, [0, 1]⟩ (Tryz.f133.body.getD .skip) = some al8.strip := by kernel_rfl
def al_ : J := ae [ad 3 0,ro 4 (.call (.f 210) [(.t 3), (.c (.int .i64 10))]),aD 2 4] [2] .ret
def ama : J := ae [ro 2 (.fu (.c (.str [])))] [0] al_
theorem amb : bu ⟨5, [0]⟩ (Tryz.f144.body.getD .skip) = some ama.strip := by kernel_rfl
def amc : J := .cd [ad 18 5,ad 19 6,ad 20 7,dM 21 144 20,cV 22 49 18 19,eM 9 22 21] (some [1, 5, 11, 12, 13])
def amd : J := .cd [aY 23 .add 3 13 1,ad 13 23] (some [1, 5, 11, 12, 13])
def ame : J := .seq (.block 1 (ae [ad 15 13,cV 16 22 11 13,aV 17 2 16,aD 6 15,aD 7 17] [1, 5, 6, 7, 11, 12, 13] amc)) amd
def amf : J := .seq (.cond (.t 14) .skip (.exit 0)) ame
def O6 : J := ae [cg 14 .lss 3 13 12] [1, 5, 11, 12, 13, 14] amf
def amg : J := .block 0 (.loop O6)
def amh : J := ae [ad 24 5,ad 25 1,dN 26 178 24 25,aD 4 26] [4] .ret
def ami : J := .seq (ae [ad 11 0,cX 12 22 11,nm 13 0] [1, 5, 11, 12, 13] amg) amh
def amj : J := ae [ad 8 0,cX 9 22 8,ro 10 (.e7 49 (.t 9) (.t 9)),aD 5 10] [0, 1, 5] ami
def amk : J := ae [ro 4 (.fu (.c (.str [])))] [0, 1] amj
theorem aml : bu ⟨27, [0, 1]⟩ (Tryz.f134.body.getD .skip) = some amk.strip := by kernel_rfl
def amm : J := ae [ad 9 1,cX 10 22 9,aY 11 .eql 3 10 0,ro 4 (.fu (.c (.str [116, 97, 117]))),aD 5 11] [4, 5] .ret
def amn : J := ae [ro 4 (.fu (.c (.str []))),b1 5 false] [4, 5] .ret
def amo : J := ae [ad 30 0,aD 4 30,b1 5 true] [4, 5] .ret
def amp : J := .cond (.t 26) amo .skip
def amq : J := ae [ad 27 1,cX 28 22 27,aY 29 .eql 3 28 0,aD 26 29] [0, 1, 26] amp
def amr : J := .cond (.t 12) amn amq
def ams : J := ae [ad 13 0,dM 14 192 13,gw 15 14,ad 16 15,bW 17 16 (.cz (.t 1)),bW 18 16 (.len 22 (.t 17)),bW 19 16 (.cf .gtr 3 (.t 18) (.c (.int .i64 2))),ro 20 (.pick (.t 16) (.c (.bool true)) (.t 19)),ad 21 20,bW 22 21 (.cz (.t 1)),⟨some 23, .call (.f 129) [(.t 22)], some (21, false)⟩,bW 24 21 (.un .not (.t 23)),ro 25 (.pick (.t 21) (.c (.bool true)) (.t 24)),aD 12 25] [0, 1, 12] amr
def amt : J := .cond (.t 6) amm ams
def amu : J := ae [ad 31 0,ro 32 (.cf .add 9 (.t 31) (.c (.str [40]))),ad 33 1,ro 34 (.call (.f 134) [(.t 33), (.c (.str [44]))]),cg 35 .add 9 32 34,ro 36 (.cf .add 9 (.t 35) (.c (.str [41]))),aD 4 36,b1 5 true] [4, 5] .ret
def amv : J := .seq (.block 0 (ae [ad 7 0,ro 8 (.cf .eql 9 (.t 7) (.c (.str [116, 97, 117]))),aD 6 8] [0, 1, 6] amt)) amu
def amw : J := ae [ro 4 (.fu (.c (.str []))),b1 5 false] [0, 1] amv
theorem amx : bu ⟨37, [0, 1]⟩ (Tryz.f132.body.getD .skip) = some amw.strip := by kernel_rfl
def amy : J := ae [j0 2] [2] .ret
def amz : J := .cond (.t 4) amy .skip
def amA : J := ae [ro 5 (.c9 22 0 []),ad 6 0,qy 7 22 22 5 6,aD 2 7] [2] .ret
def amB : J := .seq (ae [ad 3 0,ro 4 (.cf .eql 22 (.t 3) (.c .bo))] [0, 4] amz) amA
def amC : J := ae [j0 2] [0] amB
theorem amD : bu ⟨8, [0]⟩ (Tryz.f242.body.getD .skip) = some amC.strip := by kernel_rfl
def amE : J := ae [ad 3 0,ro 4 (.call (.f 125) [(.t 3), (.c (.int .i64 (-1000000000000))), (.c (.int .i64 1000000000000))]),gw 5 4,aD 2 5] [2] .ret
def amF : J := ae [b1 2 false] [0] amE
theorem amG : bu ⟨6, [0]⟩ (Tryz.f316.body.getD .skip) = some amF.strip := by kernel_rfl
def amH : J := ae [ad 17 5,aD 4 17] [4] .ret
def amI : J := .cond (.t 16) amH .skip
def amJ : J := ae [ad 11 1,ad 12 0,ad 13 5,cV 14 22 12 13,aV 15 2 14,ro 16 (.call (.t 11) [(.t 15)])] [0, 1, 5, 7, 8, 16] amI
def amK : J := .cd [aY 18 .add 3 8 1,ad 8 18] (some [0, 1, 7, 8])
def amL : J := .seq (.block 1 (ae [ad 10 8,aD 5 10] [0, 1, 5, 7, 8] amJ)) amK
def amM : J := .seq (.cond (.t 9) .skip (.exit 0)) amL
def O7 : J := ae [cg 9 .lss 3 8 7] [0, 1, 7, 8, 9] amM
def amN : J := .block 0 (.loop O7)
def amO : J := ae [bC 4 (-1)] [4] .ret
def amP : J := .seq (ae [ad 6 0,cX 7 22 6,nm 8 0] [0, 1, 7, 8] amN) amO
def amQ : J := ae [bC 4 0] [0, 1] amP
theorem amR : bu ⟨19, [0, 1]⟩ (Tryz.f217.body.getD .skip) = some amQ.strip := by kernel_rfl
def amS : J := ae [ad 5 0,ad 6 1,dN 7 217 5 6,aY 8 .geq 3 7 0,aD 4 8] [4] .ret
def amT : J := ae [b1 4 false] [0, 1] amS
theorem amU : bu ⟨9, [0, 1]⟩ (Tryz.f149.body.getD .skip) = some amT.strip := by kernel_rfl
def amV : J := ae [ad 3 0,cX 4 22 3,aY 5 .leq 3 4 64,ad 6 5,bK 7 6 (.cz (.t 0)),⟨some 8, .call (.f 149) [(.t 7), (.f 316)], some (6, true)⟩,bK 9 6 (.un .not (.t 8)),ro 10 (.pick (.t 6) (.t 9) (.c (.bool false))),aD 2 10] [2] .ret
def amW : J := ae [b1 2 false] [0] amV
theorem amX : bu ⟨11, [0]⟩ (Tryz.f294.body.getD .skip) = some amW.strip := by kernel_rfl
def amY : J := ae [ro 2 (.fu (.c (.str [])))] [2] .ret
def amZ : J := ae [ro 2 (.fu (.c (.str [45])))] [2] .ret
def am0 : J := .cond (.t 7) amZ .skip
def am1 : J := ae [ad 8 0,cX 9 22 8,aY 10 .eql 3 9 0,aD 7 10] [0, 7] am0
def am2 : J := .cond (.t 3) amY am1
def am3 : J := ae [ad 11 0,ro 12 (.call (.f 134) [(.t 11), (.c (.str [44]))]),aD 2 12] [2] .ret
def am4 : J := .seq (.block 0 (ae [ad 4 0,dM 5 294 4,gw 6 5,aD 3 6] [0, 3] am2)) am3
def am5 : J := ae [ro 2 (.fu (.c (.str [])))] [0] am4
theorem am6 : bu ⟨13, [0]⟩ (Tryz.f249.body.getD .skip) = some am5.strip := by kernel_rfl
def am7 : J := iB [bg 3 74 1 1,aV 4 2 3,dM 5 144 4,ro 6 (.cf .add 9 (.t 5) (.c (.str [58]))),bg 7 74 1 2,aV 8 22 7,dM 9 249 8,cg 10 .add 9 6 9,aD 2 10] [[], [0], [1], [2], [], [4], [5, 2], [3, 6], [7, 6, 0, 1, 2, 3, 4, 5, 6, 7]] [2] .ret
def am8 : J := ae [ro 1 (.dj 74 (.t 0)),ro 2 (.fu (.c (.str [])))] [1] am7
theorem am9 : bu ⟨11, [0]⟩ (Tryz.f177.body.getD .skip) = some am8.strip := by kernel_rfl
def am_ : J := iB [bg 3 74 1 0,aV 4 2 3,dM 5 144 4,ro 6 (.cf .add 9 (.t 5) (.c (.str [58]))),aV 7 74 1,dM 8 177 7,cg 9 .add 9 6 8,aD 2 9] [[], [0], [1], [2], [], [4, 2], [3, 5], [6, 5, 0, 1, 2, 3, 4, 5, 6]] [2] .ret
def ana : J := ae [ro 1 (.dj 74 (.t 0)),ro 2 (.fu (.c (.str [])))] [1] am_
theorem anb : bu ⟨10, [0]⟩ (Tryz.f285.body.getD .skip) = some ana.strip := by kernel_rfl
def anc : J := .kM [ad 24 0,ad 25 0,ga 26 25,bg 27 236 26 1,aV 28 69 27,aV 29 164 3,qx 30 69 29,qy 31 69 69 28 30,ga 32 24,bg 33 236 32 1,eM 69 33 31] [[], [], [1], [2], [3], [], [5], [4, 6], [0, 0, 1, 2, 3, 4, 5, 6, 7], [8, 0, 1, 2, 3, 4, 5, 6, 7], [9, 7, 7, 0, 1, 2, 3, 4, 5, 6, 7]] (some [0, 1])
def ane : J := ae [ad 19 0,ga 20 19,bg 21 236 20 2,aV 22 197 21,ad 23 4,⟨none, .jF 197 (.t 22) (.t 23) (.c (.bool true)), none⟩] [0, 1, 3] anc
def anf : J := .cond (.t 18) ane .skip
def ang : J := ae [ad 12 0,ga 13 12,bg 14 236 13 2,aV 15 197 14,ad 16 4,ro 17 (.iJ 197 (.t 15) (.t 16)),gw 18 17] [0, 1, 3, 4, 18] anf
def anh : J := iB [bg 5 164 3 0,aV 6 9 5,ro 7 (.cf .add 9 (.t 6) (.c (.str [32]))),bg 8 164 3 1,aV 9 74 8,dM 10 285 9,cg 11 .add 9 7 10,aD 4 11] [[], [0], [1], [], [3], [4], [2, 5], [6, 5, 0, 1, 2, 3, 4, 5, 6]] [0, 1, 3, 4] ang
def ani : J := ae [ro 3 (.dj 164 (.t 1))] [0, 1, 3] anh
theorem anj : bu ⟨34, [0, 1]⟩ (Tryz.f243.body.getD .skip) = some ani.strip := by kernel_rfl
def ank : J := .kM [bg 56 230 13 1,aV 57 2 56,bg 58 230 13 3,aV 59 187 58,ad 60 3,dN 61 133 59 60,ro 62 (.ev 74 [(0, (.t 57)), (1, (.c (.int .i64 0))), (2, (.t 61))]),eM 74 12 62] [[], [0], [], [2], [], [3, 4], [1, 5], [6, 5, 0, 1, 2, 3, 4, 5, 6]] (some [0, 10, 12])
def anl : J := .cond (.t 55) ank .skip
def anm : J := ae [bg 53 230 13 0,aV 54 2 53,aY 55 .eql 2 54 5] [0, 3, 10, 12, 13, 55] anl
def O8 : J := .cd [ad 63 0,ad 64 10,aV 65 74 12,ro 66 (.ev 164 [(0, (.t 64)), (1, (.t 65))]),dN 67 243 63 66] (some [0])
def ann : J := .seq (ae [bg 47 158 8 2,aV 48 156 47,ad 49 2,aY 50 .add 2 49 1,cV 51 156 48 50,aV 52 230 51,jK 13 230,eM 230 13 52] [0, 3, 10, 12, 13] anm) O8
def ano : J := ae [ad 41 1,ad 42 2,aY 43 .add 2 42 1,ad 44 3,dM 45 242 44,ro 46 (.ev 74 [(0, (.t 41)), (1, (.t 43)), (2, (.t 45))]),jK 12 74,eM 74 12 46] [0, 2, 3, 8, 10, 12] ann
def anp : J := iB [bg 32 230 9 2,aV 33 9 32,bg 34 230 9 3,aV 35 187 34,ad 36 3,dN 37 133 35 36,dN 38 132 33 37,ad 31 38,kP 39 31 0,kP 40 31 1,aD 10 39,aD 11 40] [[], [0], [], [2], [], [3, 4], [1, 5, 5], [6], [7], [7], [8, 6, 0, 1, 2, 3, 4, 5, 6, 7, 8], [9, 10, 0, 1, 2, 3, 4, 5, 6, 7, 8, 9, 10]] [0, 1, 2, 3, 8, 10] ano
def anq : J := .cd [ad 76 0,ad 77 1,aV 78 158 8,ad 79 2,aY 80 .add 3 79 1,dN 81 244 78 80,ad 82 3,y0 83 164 76 77 81 82] (some [0])
def anr : J := ae [ad 70 0,ad 71 1,ad 72 2,aY 73 .add 2 72 1,ad 74 3,y0 75 164 70 71 73 74] [0, 1, 2, 3, 8] anq
def ans : J := .cd [ad 93 0,ad 94 1,ad 95 2,aY 96 .add 2 95 1,ad 97 3,y0 98 164 93 94 96 97] (some [0])
def ant : J := .cond (.t 92) ans .skip
def anu : J := ae [bg 86 230 9 3,aV 87 187 86,ro 88 (.eX 187 (.t 87) (.c (.int .i64 0))),aV 89 186 88,ad 90 3,dN 91 204 89 90,aY 92 .neq 2 91 0] [0, 1, 2, 3, 92] ant
def anv : J := .cd [ad 107 0,ad 108 1,ad 109 2,aY 110 .add 2 109 1,ad 111 3,dM 112 242 111,ad 113 14,qx 114 22 113,⟨some 115, .shr (.app 22 22 (.t 112) (.t 114)), none⟩,y0 116 164 107 108 110 115] (some [0, 1, 2, 3, 103, 104])
def anw : J := .cd [aY 117 .add 2 104 1,ad 104 117] (some [0, 1, 2, 3, 103, 104])
def anx : J := .seq (.block 2 (ae [ad 106 104,aD 14 106] [0, 1, 2, 3, 14, 103, 104] anv)) anw
def anz : J := .seq (.cond (.t 105) .skip (.exit 1)) anx
def O9 : J := ae [cg 105 .lss 2 104 103] [0, 1, 2, 3, 103, 104, 105] anz
def anA : J := .block 1 (.loop O9)
def anB : J := ae [bg 101 230 9 1,aV 102 2 101,aY 103 .add 2 102 1,nm 104 0] [0, 1, 2, 3, 103, 104] anA
def anC : J := .cond (.t 99) anB .skip
def anD : J := ae [aY 100 .eql 2 28 4,aD 99 100] [0, 1, 2, 3, 9, 99] anC
def anE : J := .cond (.t 84) anu anD
def anF : J := ae [aY 85 .eql 2 28 3,aD 84 85] [0, 1, 2, 3, 9, 28, 84] anE
def anG : J := .cond (.t 68) anr anF
def anH : J := ae [aY 69 .eql 2 28 2,aD 68 69] [0, 1, 2, 3, 8, 9, 28, 68] anG
def anI : J := .cond (.t 29) anp anH
def anJ : J := .block 0 (ae [aY 30 .eql 2 28 1,aD 29 30] [0, 1, 2, 3, 8, 9, 28, 29] anI)
def anK : J := ae [bg 27 230 9 0,aV 28 2 27] [0, 1, 2, 3, 8, 9, 28] anJ
def anL : J := ae [bg 22 158 8 2,aV 23 156 22,ad 24 2,cV 25 156 23 24,aV 26 230 25,jK 9 230,eM 230 9 26] [0, 1, 2, 3, 8, 9] anK
def anM : J := ae [ad 15 0,ga 16 15,bg 17 236 16 0,aV 18 72 17,ad 19 1,cV 20 72 18 19,aV 21 158 20,jK 8 158,eM 158 8 21] [0, 1, 2, 3, 8] anL
theorem anN : bu ⟨118, [0, 1, 2, 3]⟩ (Tryz.f164.body.getD .skip) = some anM.strip := by kernel_rfl
def anO : J := iB [ad 19 6,ga 20 19,bg 21 236 20 1,aV 22 69 21,ad 23 6,ga 24 23,bg 25 236 24 1,aV 26 69 25,cX 27 69 26,aY 28 .leq 3 27 200,⟨some 4, .nI (.t 22), none⟩,aD 5 28] [[], [0], [1], [2], [], [4], [5], [6], [7], [8], [3, 0, 1, 2, 3], [9, 10, 0, 1, 2, 3, 4, 5, 6, 7, 8, 9, 10]] [4, 5, 6] .ret
def anP : J := ae [ad 11 6,bg 12 74 3 0,aV 13 2 12,bg 14 74 3 1,aV 15 2 14,bg 16 74 3 2,aV 17 22 16,y0 18 164 11 13 15 17] [6] anO
def anQ : J := ae [ad 7 0,ro 8 (.qf),ro 9 (.ev 236 [(0, (.t 7)), (2, (.t 8))]),ro 10 (.dj 236 (.t 9)),aD 6 10] [3, 6] anP
def anR : J := ae [ro 3 (.dj 74 (.t 1)),j0 4,b1 5 false] [0, 3] anQ
theorem anS : bu ⟨29, [0, 1]⟩ (Tryz.f100.body.getD .skip) = some anR.strip := by kernel_rfl
def anT : J := ae [j0 4,bC 5 1] [4, 5] .ret
def anU : J := .cond (.t 11) anT .skip
def anV : J := ae [j0 4,bC 5 5] [4, 5] .ret
def anW : J := .cond (.t 19) anV .skip
def anX : J := ae [ad 20 6,aD 4 20,bC 5 0] [4, 5] .ret
def anY : J := .seq (ae [ad 18 7,gw 19 18] [6, 19] anW) anX
def anZ : J := ae [ad 13 0,aV 14 74 3,dN 15 100 13 14,ad 12 15,kP 16 12 0,kP 17 12 1,aD 6 16,aD 7 17] [6, 7] anY
def an0 : J := .seq (ae [ad 8 0,aV 9 74 3,dN 10 99 8 9,gw 11 10] [0, 3, 11] anU) anZ
def an1 : J := ae [ro 3 (.dj 74 (.t 1)),j0 4,bC 5 0] [0, 3] an0
theorem an2 : bu ⟨21, [0, 1]⟩ (Tryz.f48.body.getD .skip) = some an1.strip := by kernel_rfl
def an3 : J := ae [b1 4 false] [4] .ret
def an4 : J := .cond (.t 10) an3 .skip
def an5 : J := .cond (.t 14) .skip (.exit 0)
def an6 : J := ae [b1 4 false] [4] .ret
def an7 : J := .cond (.t 25) an6 .skip
def an8 : J := .cd [ad 15 5,aY 16 .add 3 15 1,aD 5 16] (some [0, 1, 5])
def an9 : J := .seq (.block 1 (iB [ad 17 0,ad 18 5,cV 19 22 17 18,aV 20 2 19,ad 21 1,ad 22 5,cV 23 22 21 22,aV 24 2 23,cg 25 .neq 2 20 24] [[], [], [0, 1], [2], [], [], [4, 5], [6], [3, 7]] [0, 1, 5, 25] an7)) an8
def O_ : J := .seq (ae [ad 11 5,ad 12 0,cX 13 22 12,cg 14 .lss 3 11 13] [0, 1, 5, 14] an5) an9
def an_ : J := .block 0 (.loop O_)
def aoa : J := ae [b1 4 true] [4] .ret
def aob : J := .seq (ae [bC 5 0] [0, 1, 5] an_) aoa
def aoc : J := .seq (ae [ad 6 0,cX 7 22 6,ad 8 1,cX 9 22 8,cg 10 .neq 3 7 9] [0, 1, 10] an4) aob
def aod : J := ae [b1 4 false] [0, 1] aoc
theorem aoe : bu ⟨26, [0, 1]⟩ (Tryz.f18.body.getD .skip) = some aod.strip := by kernel_rfl
def aof : J := ae [b1 4 false] [4] .ret
def aog : J := .cond (.t 9) aof .skip
def aoh : J := ae [b1 4 false] [4] .ret
def aoi : J := .cond (.t 14) aoh .skip
def aoj : J := ae [b1 4 false] [4] .ret
def aok : J := .cond (.t 20) aoj .skip
def aol : J := ae [b1 4 true] [4] .ret
def aom : J := .seq (ae [bg 15 74 2 2,aV 16 22 15,bg 17 74 3 2,aV 18 22 17,dN 19 18 16 18,gw 20 19] [20] aok) aol
def aon : J := .seq (ae [bg 10 74 2 1,aV 11 2 10,bg 12 74 3 1,aV 13 2 12,cg 14 .neq 2 11 13] [2, 3, 14] aoi) aom
def aoo : J := .seq (ae [bg 5 74 2 0,aV 6 2 5,bg 7 74 3 0,aV 8 2 7,cg 9 .neq 2 6 8] [2, 3, 9] aog) aon
def aop : J := ae [ro 2 (.dj 74 (.t 0)),ro 3 (.dj 74 (.t 1)),b1 4 false] [2, 3] aoo
theorem aoq : bu ⟨21, [0, 1]⟩ (Tryz.f51.body.getD .skip) = some aop.strip := by kernel_rfl
def aor : J := ae [b1 4 false] [4] .ret
def aos : J := .cond (.t 9) aor .skip
def aot : J := ae [b1 4 false] [4] .ret
def aou : J := .cond (.t 15) aot .skip
def aov : J := ae [b1 4 true] [4] .ret
def aow : J := .seq (ae [bg 10 164 2 1,aV 11 74 10,bg 12 164 3 1,aV 13 74 12,dN 14 51 11 13,gw 15 14] [15] aou) aov
def aox : J := .seq (ae [bg 5 164 2 0,aV 6 9 5,bg 7 164 3 0,aV 8 9 7,cg 9 .neq 9 6 8] [2, 3, 9] aos) aow
def aoy : J := ae [ro 2 (.dj 164 (.t 0)),ro 3 (.dj 164 (.t 1)),b1 4 false] [2, 3] aox
theorem aoz : bu ⟨16, [0, 1]⟩ (Tryz.f101.body.getD .skip) = some aoy.strip := by kernel_rfl
def aoA : J := ae [b1 4 false] [4] .ret
def aoB : J := .cond (.t 10) aoA .skip
def aoC : J := .cond (.t 14) .skip (.exit 0)
def aoD : J := ae [b1 4 false] [4] .ret
def aoE : J := .cond (.t 26) aoD .skip
def aoF : J := .cd [ad 15 5,aY 16 .add 3 15 1,aD 5 16] (some [0, 1, 5])
def aoG : J := .seq (.block 1 (iB [ad 17 0,ad 18 5,cV 19 69 17 18,aV 20 164 19,ad 21 1,ad 22 5,cV 23 69 21 22,aV 24 164 23,dN 25 101 20 24,gw 26 25] [[], [], [0, 1], [2], [], [], [4, 5], [6], [3, 7], [8]] [0, 1, 5, 26] aoE)) aoF
def Pa : J := .seq (ae [ad 11 5,ad 12 0,cX 13 69 12,cg 14 .lss 3 11 13] [0, 1, 5, 14] aoC) aoG
def aoH : J := .block 0 (.loop Pa)
def aoI : J := ae [b1 4 true] [4] .ret
def aoJ : J := .seq (ae [bC 5 0] [0, 1, 5] aoH) aoI
def aoK : J := .seq (ae [ad 6 0,cX 7 69 6,ad 8 1,cX 9 69 8,cg 10 .neq 3 7 9] [0, 1, 10] aoB) aoJ
def aoL : J := ae [b1 4 false] [0, 1] aoK
theorem aoM : bu ⟨27, [0, 1]⟩ (Tryz.f49.body.getD .skip) = some aoL.strip := by kernel_rfl
def aoN : J := ae [b1 4 false] [4] .ret
def aoO : J := .cond (.t 9) aoN .skip
def aoP : J := ae [b1 4 false] [4] .ret
def aoQ : J := .cond (.t 14) aoP .skip
def aoR : J := ae [b1 4 true] [4] .ret
def aoS : J := .seq (ae [bg 10 278 2 1,aV 11 2 10,bg 12 278 3 1,aV 13 2 12,cg 14 .neq 2 11 13] [14] aoQ) aoR
def aoT : J := .seq (ae [bg 5 278 2 0,aV 6 2 5,bg 7 278 3 0,aV 8 2 7,cg 9 .neq 2 6 8] [2, 3, 9] aoO) aoS
def aoU : J := ae [ro 2 (.dj 278 (.t 0)),ro 3 (.dj 278 (.t 1)),b1 4 false] [2, 3] aoT
theorem aoV : bu ⟨15, [0, 1]⟩ (Tryz.f265.body.getD .skip) = some aoU.strip := by kernel_rfl
def aoW : J := ae [b1 4 false] [4] .ret
def aoX : J := .cond (.t 10) aoW .skip
def aoY : J := .cond (.t 14) .skip (.exit 0)
def aoZ : J := ae [b1 4 false] [4] .ret
def ao0 : J := .cond (.t 26) aoZ .skip
def ao1 : J := .cd [ad 15 5,aY 16 .add 3 15 1,aD 5 16] (some [0, 1, 5])
def ao2 : J := .seq (.block 1 (iB [ad 17 0,ad 18 5,cV 19 186 17 18,aV 20 278 19,ad 21 1,ad 22 5,cV 23 186 21 22,aV 24 278 23,dN 25 265 20 24,gw 26 25] [[], [], [0, 1], [2], [], [], [4, 5], [6], [3, 7], [8]] [0, 1, 5, 26] ao0)) ao1
def Pb : J := .seq (ae [ad 11 5,ad 12 0,cX 13 186 12,cg 14 .lss 3 11 13] [0, 1, 5, 14] aoY) ao2
def ao3 : J := .block 0 (.loop Pb)
def ao4 : J := ae [b1 4 true] [4] .ret
def ao5 : J := .seq (ae [bC 5 0] [0, 1, 5] ao3) ao4
def ao6 : J := .seq (ae [ad 6 0,cX 7 186 6,ad 8 1,cX 9 186 8,cg 10 .neq 3 7 9] [0, 1, 10] aoX) ao5
def ao7 : J := ae [b1 4 false] [0, 1] ao6
theorem ao8 : bu ⟨27, [0, 1]⟩ (Tryz.f205.body.getD .skip) = some ao7.strip := by kernel_rfl
def ao9 : J := ae [b1 4 false] [4] .ret
def ao_ : J := .cond (.t 10) ao9 .skip
def apa : J := .cond (.t 14) .skip (.exit 0)
def apb : J := ae [b1 4 false] [4] .ret
def apc : J := .cond (.t 26) apb .skip
def apd : J := .cd [ad 15 5,aY 16 .add 3 15 1,aD 5 16] (some [0, 1, 5])
def ape : J := .seq (.block 1 (iB [ad 17 0,ad 18 5,cV 19 187 17 18,aV 20 186 19,ad 21 1,ad 22 5,cV 23 187 21 22,aV 24 186 23,dN 25 205 20 24,gw 26 25] [[], [], [0, 1], [2], [], [], [4, 5], [6], [3, 7], [8]] [0, 1, 5, 26] apc)) apd
def Pc : J := .seq (ae [ad 11 5,ad 12 0,cX 13 187 12,cg 14 .lss 3 11 13] [0, 1, 5, 14] apa) ape
def apf : J := .block 0 (.loop Pc)
def apg : J := ae [b1 4 true] [4] .ret
def aph : J := .seq (ae [bC 5 0] [0, 1, 5] apf) apg
def api : J := .seq (ae [ad 6 0,cX 7 187 6,ad 8 1,cX 9 187 8,cg 10 .neq 3 7 9] [0, 1, 10] ao_) aph
def apj : J := ae [b1 4 false] [0, 1] api
theorem apk : bu ⟨27, [0, 1]⟩ (Tryz.f206.body.getD .skip) = some apj.strip := by kernel_rfl
def apl : J := ae [b1 4 false] [4] .ret
def apm : J := .cond (.t 9) apl .skip
def apn : J := ae [b1 4 false] [4] .ret
def apo : J := .cond (.t 14) apn .skip
def apq : J := ae [b1 4 false] [4] .ret
def apr : J := .cond (.t 19) apq .skip
def aps : J := ae [b1 4 false] [4] .ret
def apt : J := .cond (.t 25) aps .skip
def apu : J := ae [b1 4 true] [4] .ret
def apv : J := .seq (ae [bg 20 230 2 3,aV 21 187 20,bg 22 230 3 3,aV 23 187 22,dN 24 206 21 23,gw 25 24] [25] apt) apu
def apw : J := .seq (ae [bg 15 230 2 2,aV 16 9 15,bg 17 230 3 2,aV 18 9 17,cg 19 .neq 9 16 18] [2, 3, 19] apr) apv
def apx : J := .seq (ae [bg 10 230 2 1,aV 11 2 10,bg 12 230 3 1,aV 13 2 12,cg 14 .neq 2 11 13] [2, 3, 14] apo) apw
def apy : J := .seq (ae [bg 5 230 2 0,aV 6 2 5,bg 7 230 3 0,aV 8 2 7,cg 9 .neq 2 6 8] [2, 3, 9] apm) apx
def apz : J := ae [ro 2 (.dj 230 (.t 0)),ro 3 (.dj 230 (.t 1)),b1 4 false] [2, 3] apy
theorem apA : bu ⟨26, [0, 1]⟩ (Tryz.f245.body.getD .skip) = some apz.strip := by kernel_rfl
def apB : J := ae [b1 4 false] [4] .ret
def apC : J := .cond (.t 10) apB .skip
def apD : J := .cond (.t 14) .skip (.exit 0)
def apE : J := ae [b1 4 false] [4] .ret
def apF : J := .cond (.t 26) apE .skip
def apG : J := .cd [ad 15 5,aY 16 .add 3 15 1,aD 5 16] (some [0, 1, 5])
def apH : J := .seq (.block 1 (iB [ad 17 0,ad 18 5,cV 19 156 17 18,aV 20 230 19,ad 21 1,ad 22 5,cV 23 156 21 22,aV 24 230 23,dN 25 245 20 24,gw 26 25] [[], [], [0, 1], [2], [], [], [4, 5], [6], [3, 7], [8]] [0, 1, 5, 26] apF)) apG
def Pd : J := .seq (ae [ad 11 5,ad 12 0,cX 13 156 12,cg 14 .lss 3 11 13] [0, 1, 5, 14] apD) apH
def apI : J := .block 0 (.loop Pd)
def apJ : J := ae [b1 4 true] [4] .ret
def apK : J := .seq (ae [bC 5 0] [0, 1, 5] apI) apJ
def apL : J := .seq (ae [ad 6 0,cX 7 156 6,ad 8 1,cX 9 156 8,cg 10 .neq 3 7 9] [0, 1, 10] apC) apK
def apM : J := ae [b1 4 false] [0, 1] apL
theorem apN : bu ⟨27, [0, 1]⟩ (Tryz.f165.body.getD .skip) = some apM.strip := by kernel_rfl
def apO : J := ae [b1 4 false] [4] .ret
def apP : J := .cond (.t 9) apO .skip
def apQ : J := ae [b1 4 false] [4] .ret
def apR : J := .cond (.t 14) apQ .skip
def apS : J := ae [b1 4 false] [4] .ret
def apT : J := .cond (.t 20) apS .skip
def apU : J := ae [b1 4 true] [4] .ret
def apV : J := .seq (ae [bg 15 158 2 2,aV 16 156 15,bg 17 158 3 2,aV 18 156 17,dN 19 165 16 18,gw 20 19] [20] apT) apU
def apW : J := .seq (ae [bg 10 158 2 1,aV 11 2 10,bg 12 158 3 1,aV 13 2 12,cg 14 .neq 2 11 13] [2, 3, 14] apR) apV
def apX : J := .seq (ae [bg 5 158 2 0,aV 6 9 5,bg 7 158 3 0,aV 8 9 7,cg 9 .neq 9 6 8] [2, 3, 9] apP) apW
def apY : J := ae [ro 2 (.dj 158 (.t 0)),ro 3 (.dj 158 (.t 1)),b1 4 false] [2, 3] apX
theorem apZ : bu ⟨21, [0, 1]⟩ (Tryz.f102.body.getD .skip) = some apY.strip := by kernel_rfl
def ap0 : J := ae [b1 4 false] [4] .ret
def ap1 : J := .cond (.t 10) ap0 .skip
def ap2 : J := .cond (.t 14) .skip (.exit 0)
def ap3 : J := ae [b1 4 false] [4] .ret
def ap4 : J := .cond (.t 26) ap3 .skip
def ap5 : J := .cd [ad 15 5,aY 16 .add 3 15 1,aD 5 16] (some [0, 1, 5])
def ap6 : J := .seq (.block 1 (iB [ad 17 0,ad 18 5,cV 19 72 17 18,aV 20 158 19,ad 21 1,ad 22 5,cV 23 72 21 22,aV 24 158 23,dN 25 102 20 24,gw 26 25] [[], [], [0, 1], [2], [], [], [4, 5], [6], [3, 7], [8]] [0, 1, 5, 26] ap4)) ap5
def Pe : J := .seq (ae [ad 11 5,ad 12 0,cX 13 72 12,cg 14 .lss 3 11 13] [0, 1, 5, 14] ap2) ap6
def ap7 : J := .block 0 (.loop Pe)
def ap8 : J := ae [b1 4 true] [4] .ret
def ap9 : J := .seq (ae [bC 5 0] [0, 1, 5] ap7) ap8
def ap_ : J := .seq (ae [ad 6 0,cX 7 72 6,ad 8 1,cX 9 72 8,cg 10 .neq 3 7 9] [0, 1, 10] ap1) ap9
def aqa : J := ae [b1 4 false] [0, 1] ap_
theorem aqb : bu ⟨27, [0, 1]⟩ (Tryz.f50.body.getD .skip) = some aqa.strip := by kernel_rfl
def aqc : J := ae [ro 2 (.fu (.c (.str [109, 48])))] [2] .ret
def aqd : J := .cond (.t 5) aqc .skip
def aqe : J := .cond (.t 7) .skip (.exit 0)
def aqf : J := .cd [ad 16 0,aY 17 .quo 3 16 10,aD 0 17] (some [0, 3])
def aqg : J := .block 1 (ae [ad 8 0,aY 9 .rem 3 8 10,ro 10 (.cf .add 3 (.c (.int .i64 48)) (.t 9)),B3 11 3 5 10,qx 12 123 11,B3 13 123 9 12,ad 14 3,cg 15 .add 9 13 14,aD 3 15] [0, 3] aqf)
def Pf : J := .seq (ae [ad 6 0,aY 7 .gtr 3 6 0] [0, 3, 7] aqe) aqg
def aqh : J := ae [ad 18 3,ro 19 (.cf .add 9 (.c (.str [109])) (.t 18)),aD 2 19] [2] .ret
def aqi : J := .seq (.block 0 (.loop Pf)) aqh
def aqj : J := ae [ro 3 (.fu (.c (.str [])))] [0, 3] aqi
def aqk : J := .seq (ae [ad 4 0,aY 5 .leq 3 4 0] [0, 5] aqd) aqj
def aql : J := ae [ro 2 (.fu (.c (.str [])))] [0] aqk
theorem aqm : bu ⟨20, []⟩ (Tryz.f76.body.getD .skip) = some aql.strip := by kernel_rfl
def aqn : J := .cond (.t 9) .skip (.exit 0)
def aqo : J := .cd [ad 24 1,aY 25 .add 3 24 1,aD 1 25] (some [0, 1, 5])
def aqp : J := ae [ad 19 0,ad 20 5,ad 21 1,cV 22 186 19 20,bg 23 278 22 1,eM 2 23 21] [0, 1, 5] aqo
def aqq : J := ae [ad 17 1,aY 18 .add 3 17 1,aD 1 18] [0, 1, 5] aqp
def aqr : J := .cd [ad 10 5,aY 11 .add 3 10 1,aD 5 11] (some [0, 1, 5])
def aqs : J := .seq (.block 1 (ae [ad 12 0,ad 13 5,ad 14 1,cV 15 186 12 13,bg 16 278 15 0,eM 2 16 14] [0, 1, 5] aqq)) aqr
def Pg : J := .seq (ae [ad 6 5,ad 7 0,cX 8 186 7,cg 9 .lss 3 6 8] [0, 1, 5, 9] aqn) aqs
def aqt : J := .block 0 (.loop Pg)
def aqu : J := ae [ad 26 1,aD 4 26] [0, 4] .ret
def aqv : J := .seq (ae [bC 5 0] [0, 1, 5] aqt) aqu
def aqw : J := ae [bC 4 0] [0, 1] aqv
theorem aqx : bu ⟨27, [0]⟩ (Tryz.f136.body.getD .skip) = some aqw.strip := by kernel_rfl
def aqy : J := .cond (.t 9) .skip (.exit 0)
def aqz : J := .cd [ad 10 5,aY 11 .add 3 10 1,aD 5 11] (some [0, 1, 5])
def aqA : J := .seq (.block 1 (.cd [ad 12 0,ad 13 5,cV 14 187 12 13,aV 15 186 14,ad 16 1,dN 17 136 15 16,aD 1 17] (some [0, 1, 5]))) aqz
def Ph : J := .seq (ae [ad 6 5,ad 7 0,cX 8 187 7,cg 9 .lss 3 6 8] [0, 1, 5, 9] aqy) aqA
def aqB : J := .block 0 (.loop Ph)
def aqC : J := ae [ad 18 1,aD 4 18] [0, 4] .ret
def aqD : J := .seq (ae [bC 5 0] [0, 1, 5] aqB) aqC
def aqE : J := ae [bC 4 0] [0, 1] aqD
theorem aqF : bu ⟨19, [0]⟩ (Tryz.f137.body.getD .skip) = some aqE.strip := by kernel_rfl
def aqG : J := .cond (.t 9) .skip (.exit 0)
def aqH : J := .cd [ad 34 0,ad 35 5,cV 36 156 34 35,bg 37 230 36 3,aV 38 187 37,ad 39 1,dN 40 137 38 39,aD 1 40] (some [0, 1, 5])
def aqI : J := ae [ad 32 1,aY 33 .add 3 32 1,aD 1 33] [0, 1, 5] aqH
def aqJ : J := ae [ad 26 0,ad 27 5,ad 28 1,dM 29 76 28,cV 30 156 26 27,bg 31 230 30 2,eM 9 31 29] [0, 1, 5] aqI
def aqK : J := ae [ad 24 1,aY 25 .add 3 24 1,aD 1 25] [0, 1, 5] aqJ
def aqL : J := ae [ad 19 0,ad 20 5,ad 21 1,cV 22 156 19 20,bg 23 230 22 1,eM 2 23 21] [0, 1, 5] aqK
def aqM : J := ae [ad 17 1,aY 18 .add 3 17 1,aD 1 18] [0, 1, 5] aqL
def aqN : J := .cd [ad 10 5,aY 11 .add 3 10 1,aD 5 11] (some [0, 1, 5])
def aqO : J := .seq (.block 1 (ae [ad 12 0,ad 13 5,ad 14 1,cV 15 156 12 13,bg 16 230 15 0,eM 2 16 14] [0, 1, 5] aqM)) aqN
def Pj : J := .seq (ae [ad 6 5,ad 7 0,cX 8 156 7,cg 9 .lss 3 6 8] [0, 1, 5, 9] aqG) aqO
def aqP : J := .block 0 (.loop Pj)
def aqQ : J := ae [ad 41 1,aD 4 41] [0, 4] .ret
def aqR : J := .seq (ae [bC 5 0] [0, 1, 5] aqP) aqQ
def aqS : J := ae [bC 4 0] [0, 1] aqR
theorem aqT : bu ⟨42, [0]⟩ (Tryz.f103.body.getD .skip) = some aqS.strip := by kernel_rfl
def aqU : J := .cond (.t 9) .skip (.exit 0)
def aqV : J := .cd [ad 27 0,ad 28 5,cV 29 72 27 28,bg 30 158 29 2,aV 31 156 30,ad 32 1,dN 33 103 31 32,aD 1 33] (some [0, 1, 5])
def aqW : J := ae [ad 25 1,aY 26 .add 3 25 1,aD 1 26] [0, 1, 5] aqV
def aqX : J := ae [ad 20 0,ad 21 5,ad 22 1,cV 23 72 20 21,bg 24 158 23 1,eM 2 24 22] [0, 1, 5] aqW
def aqY : J := ae [ad 18 1,aY 19 .add 3 18 1,aD 1 19] [0, 1, 5] aqX
def aqZ : J := .cd [ad 10 5,aY 11 .add 3 10 1,aD 5 11] (some [0, 1, 5])
def aq0 : J := .seq (.block 1 (ae [ad 12 0,ad 13 5,ad 14 1,dM 15 76 14,cV 16 72 12 13,bg 17 158 16 0,eM 9 17 15] [0, 1, 5] aqY)) aqZ
def Pk : J := .seq (ae [ad 6 5,ad 7 0,cX 8 72 7,cg 9 .lss 3 6 8] [0, 1, 5, 9] aqU) aq0
def aq1 : J := .block 0 (.loop Pk)
def aq2 : J := ae [ad 34 1,aD 4 34] [0, 4] .ret
def aq3 : J := .seq (ae [bC 5 0] [0, 1, 5] aq1) aq2
def aq4 : J := ae [bC 4 0] [0, 1] aq3
theorem z6 : bu ⟨35, [0]⟩ (Tryz.f52.body.getD .skip) = some aq4.strip := by kernel_rfl
def aq5 : J := .cond (.t 9) .skip (.exit 0)
def aq6 : J := .cd [ad 16 1,aY 17 .add 3 16 1,aD 1 17] (some [0, 1, 5])
def aq7 : J := .cd [ad 10 5,aY 11 .add 3 10 1,aD 5 11] (some [0, 1, 5])
def aq8 : J := .seq (.block 1 (ae [ad 12 0,ad 13 5,ad 14 1,cV 15 22 12 13,eM 2 15 14] [0, 1, 5] aq6)) aq7
def Pl : J := .seq (ae [ad 6 5,ad 7 0,cX 8 22 7,cg 9 .lss 3 6 8] [0, 1, 5, 9] aq5) aq8
def aq9 : J := .block 0 (.loop Pl)
def aq_ : J := ae [ad 18 1,aD 4 18] [0, 4] .ret
def ara : J := .seq (ae [bC 5 0] [0, 1, 5] aq9) aq_
def arb : J := ae [bC 4 0] [0, 1] ara
theorem uS : bu ⟨19, [0]⟩ (Tryz.f20.body.getD .skip) = some arb.strip := by kernel_rfl
def arc : J := ae [ad 9 1,aD 4 9] [0, 4] .ret
def ard : J := ae [bg 5 74 2 2,aV 6 22 5,ad 7 1,dN 8 20 6 7,aD 1 8] [0, 1] arc
def arf : J := ae [⟨some 2, .kc 74 (.t 0), none⟩,bC 4 0] [0, 1, 2] ard
theorem mU : bu ⟨10, [0]⟩ (Tryz.f53.body.getD .skip) = some arf.strip := by kernel_rfl
def arh : J := .cond (.t 9) .skip (.exit 0)
def ari : J := .cd [ad 36 0,ad 37 5,cV 38 69 36 37,bg 39 164 38 1,bg 40 74 39 2,aV 41 22 40,ad 42 1,dN 43 20 41 42,aD 1 43] (some [0, 1, 5])
def arj : J := ae [ad 34 1,aY 35 .add 3 34 1,aD 1 35] [0, 1, 5] ari
def ark : J := ae [ad 28 0,ad 29 5,ad 30 1,cV 31 69 28 29,bg 32 164 31 1,bg 33 74 32 1,eM 2 33 30] [0, 1, 5] arj
def arl : J := ae [ad 26 1,aY 27 .add 3 26 1,aD 1 27] [0, 1, 5] ark
def arn : J := ae [ad 20 0,ad 21 5,ad 22 1,cV 23 69 20 21,bg 24 164 23 1,bg 25 74 24 0,eM 2 25 22] [0, 1, 5] arl
def aro : J := ae [ad 18 1,aY 19 .add 3 18 1,aD 1 19] [0, 1, 5] arn
def arp : J := .cd [ad 10 5,aY 11 .add 3 10 1,aD 5 11] (some [0, 1, 5])
def arq : J := .seq (.block 1 (ae [ad 12 0,ad 13 5,ad 14 1,dM 15 76 14,cV 16 69 12 13,bg 17 164 16 0,eM 9 17 15] [0, 1, 5] aro)) arp
def Pm : J := .seq (ae [ad 6 5,ad 7 0,cX 8 69 7,cg 9 .lss 3 6 8] [0, 1, 5, 9] arh) arq
def ars : J := .block 0 (.loop Pm)
def art : J := ae [ad 44 1,aD 4 44] [0, 4] .ret
def aru : J := .seq (ae [bC 5 0] [0, 1, 5] ars) art
def arv : J := ae [bC 4 0] [0, 1] aru
theorem arw : bu ⟨45, [0]⟩ (Tryz.f54.body.getD .skip) = some arv.strip := by kernel_rfl
def arx : J := .cond (.t 9) .skip (.exit 0)
def ary : J := ae [bC 4 (-1)] [4] .ret
def arz : J := .cond (.t 17) ary .skip
def arA : J := .cd [ad 18 1,aY 19 .add 3 18 1,aD 1 19] (some [0, 1, 5])
def arB : J := .cd [ad 10 5,aY 11 .add 3 10 1,aD 5 11] (some [0, 1, 5])
def arC : J := .seq (.block 1 (.seq (ae [ad 12 0,ad 13 5,cV 14 22 12 13,aV 15 2 14,ad 16 1,cg 17 .neq 2 15 16] [0, 1, 5, 17] arz) arA)) arB
def Pn : J := .seq (ae [ad 6 5,ad 7 0,cX 8 22 7,cg 9 .lss 3 6 8] [0, 1, 5, 9] arx) arC
def arD : J := .block 0 (.loop Pn)
def arE : J := ae [ad 20 1,aD 4 20] [4] .ret
def arF : J := .seq (ae [bC 5 0] [0, 1, 5] arD) arE
def arG : J := ae [bC 4 0] [0, 1] arF
theorem pQ : bu ⟨21, [0]⟩ (Tryz.f77.body.getD .skip) = some arG.strip := by kernel_rfl
def arH : J := .cond (.t 9) .skip (.exit 0)
def arI : J := ae [bC 4 (-1)] [4] .ret
def arJ : J := .cond (.t 19) arI .skip
def arK : J := ae [bC 4 (-1)] [4] .ret
def arL : J := .cond (.t 29) arK .skip
def arM : J := ae [bC 4 (-1)] [4] .ret
def arN : J := .cond (.t 39) arM .skip
def arO : J := ae [bC 4 (-1)] [4] .ret
def arP : J := .cond (.t 51) arO .skip
def arQ : J := ae [ad 50 1,aY 51 .lss 3 50 0] [0, 1, 5, 51] arP
def arR : J := ae [ad 42 0,ad 43 5,cV 44 69 42 43,bg 45 164 44 1,bg 46 74 45 2,aV 47 22 46,ad 48 1,dN 49 77 47 48,aD 1 49] [0, 1, 5] arQ
def arS : J := ae [ad 40 1,aY 41 .add 3 40 1,aD 1 41] [0, 1, 5] arR
def arT : J := .seq (ae [ad 32 0,ad 33 5,cV 34 69 32 33,bg 35 164 34 1,bg 36 74 35 1,aV 37 2 36,ad 38 1,cg 39 .neq 2 37 38] [0, 1, 5, 39] arN) arS
def arU : J := ae [ad 30 1,aY 31 .add 3 30 1,aD 1 31] [0, 1, 5] arT
def arV : J := .seq (ae [ad 22 0,ad 23 5,cV 24 69 22 23,bg 25 164 24 1,bg 26 74 25 0,aV 27 2 26,ad 28 1,cg 29 .neq 2 27 28] [0, 1, 5, 29] arL) arU
def arW : J := ae [ad 20 1,aY 21 .add 3 20 1,aD 1 21] [0, 1, 5] arV
def arX : J := .cd [ad 10 5,aY 11 .add 3 10 1,aD 5 11] (some [0, 1, 5])
def arY : J := .seq (.block 1 (.seq (iB [ad 12 0,ad 13 5,cV 14 69 12 13,bg 15 164 14 0,aV 16 9 15,ad 17 1,dM 18 76 17,cg 19 .neq 9 16 18] [[], [], [0, 1], [2], [3], [], [5], [4, 6]] [0, 1, 5, 19] arJ) arW)) arX
def Po : J := .seq (ae [ad 6 5,ad 7 0,cX 8 69 7,cg 9 .lss 3 6 8] [0, 1, 5, 9] arH) arY
def arZ : J := .block 0 (.loop Po)
def ar0 : J := ae [ad 52 1,aD 4 52] [4] .ret
def ar1 : J := .seq (ae [bC 5 0] [0, 1, 5] arZ) ar0
def ar2 : J := ae [bC 4 0] [0, 1] ar1
theorem ar3 : bu ⟨53, [0]⟩ (Tryz.f55.body.getD .skip) = some ar2.strip := by kernel_rfl
def ar4 : J := ae [b1 4 true] [4] .ret
def ar5 : J := .cond (.t 21) ar4 .skip
def ar6 : J := ae [b1 4 true] [4] .ret
def ar7 : J := .cond (.t 26) ar6 .skip
def ar8 : J := ae [b1 4 false] [4] .ret
def ar9 : J := .cond (.t 53) ar8 .skip
def ar_ : J := ae [b1 4 false] [4] .ret
def asa : J := .cond (.t 58) ar_ .skip
def asb : J := ae [b1 4 false] [4] .ret
def asc : J := .cond (.t 63) asb .skip
def asd : J := ae [b1 4 false] [4] .ret
def ase : J := .cond (.t 82) asd .skip
def asf : J := ae [b1 4 false] [4] .ret
def asg : J := .cond (.t 90) asf .skip
def ash : J := ae [b1 4 false] [4] .ret
def asi : J := .cond (.t 93) ash .skip
def asj : J := ae [b1 4 false] [4] .ret
def asl : J := .cond (.t 110) asj .skip
def asm : J := ae [b1 4 false] [4] .ret
def asn : J := .cond (.t 115) asm .skip
def aso : J := ae [b1 4 false] [4] .ret
def asp : J := .cond (.t 118) aso .skip
def asq : J := ae [b1 4 true] [4] .ret
def asr : J := .seq (ae [ad 116 14,ad 117 13,cg 118 .neq 3 116 117] [118] asp) asq
def ass : J := .seq (ae [ad 114 14,aY 115 .lss 3 114 0] [13, 14, 115] asn) asr
def ast : J := ae [ad 111 10,ad 112 14,dN 113 55 111 112,aD 14 113] [13, 14] ass
def asu : J := ae [bC 14 1] [10, 13, 14] ast
def asv : J := .seq (ae [ad 102 15,ad 103 6,dN 104 49 102 103,gw 105 104,ad 106 105,bW 107 106 (.cz (.t 16)),bW 108 106 (.cz (.t 7)),bW 109 106 (.cf .neq 2 (.t 107) (.t 108)),ro 110 (.pick (.t 106) (.c (.bool true)) (.t 109))] [10, 13, 110] asl) asu
def asw : J := iB [ad 95 0,dM 96 46 95,aV 97 66 3,dM 98 47 97,dN 99 48 96 98,⟨some 94, .mj (.t 99), none⟩,kP 100 94 0,kP 101 94 1,aD 15 100,aD 16 101] [[], [0], [], [2, 1], [1, 3, 3], [4], [5], [5], [6, 4, 0, 1, 2, 3, 4, 5, 6], [7, 8, 0, 1, 2, 3, 4, 5, 6, 7, 8]] [6, 7, 10, 13, 15, 16] asv
def asx : J := .seq (ae [ad 91 14,ad 92 13,cg 93 .neq 3 91 92] [0, 3, 6, 7, 10, 13, 93] asi) asw
def asy : J := .seq (ae [ad 89 14,aY 90 .lss 3 89 0] [0, 3, 6, 7, 10, 13, 14, 90] asg) asx
def asz : J := ae [ad 86 10,ad 87 14,dN 88 55 86 87,aD 14 88] [0, 3, 6, 7, 10, 13, 14] asy
def asA : J := ae [bC 14 1] [0, 3, 6, 7, 10, 13, 14] asz
def asB : J := ae [ad 83 10,ad 84 13,dN 85 54 83 84,aD 13 85] [0, 3, 6, 7, 10, 13] asA
def asC : J := ae [bC 13 1] [0, 3, 6, 7, 10, 13] asB
def asD : J := .seq (ae [ad 70 12,aY 71 .lss 3 70 0,ad 72 71,bW 73 72 (.cz (.t 10)),bW 74 72 (.cz (.t 6)),⟨some 75, .call (.f 49) [(.t 73), (.t 74)], some (72, false)⟩,bW 76 72 (.un .not (.t 75)),ro 77 (.pick (.t 72) (.c (.bool true)) (.t 76)),ad 78 77,bW 79 78 (.cz (.t 11)),bW 80 78 (.cz (.t 7)),bW 81 78 (.cf .neq 2 (.t 79) (.t 80)),ro 82 (.pick (.t 78) (.c (.bool true)) (.t 81))] [0, 3, 6, 7, 10, 82] ase) asC
def asE : J := ae [aV 67 74 9,ad 68 12,dN 69 53 67 68,aD 12 69] [0, 3, 6, 7, 10, 11, 12] asD
def asF : J := ae [ad 64 8,ad 65 12,dN 66 52 64 65,aD 12 66] [0, 3, 6, 7, 9, 10, 11, 12] asE
def asG : J := ae [bC 12 1] [0, 3, 6, 7, 8, 9, 10, 11, 12] asF
def asH : J := .seq (iB [aV 59 74 9,aV 60 66 3,dM 61 47 60,dN 62 51 59 61,gw 63 62] [[], [], [1], [0, 2, 2], [3]] [0, 3, 6, 7, 8, 9, 10, 11, 63] asc) asG
def asI : J := .seq (ae [ad 54 8,ad 55 0,dM 56 46 55,dN 57 50 54 56,gw 58 57] [0, 3, 6, 7, 8, 9, 10, 11, 58] asa) asH
def asJ : J := .seq (ae [ad 45 10,ad 46 6,dN 47 49 45 46,gw 48 47,ad 49 48,bW 50 49 (.cz (.t 11)),bW 51 49 (.cz (.t 7)),bW 52 49 (.cf .neq 2 (.t 50) (.t 51)),ro 53 (.pick (.t 49) (.c (.bool true)) (.t 52))] [0, 3, 6, 7, 8, 9, 10, 11, 53] ar9) asI
def asK : J := ae [ad 40 8,aV 41 74 9,dN 42 48 40 41,ad 39 42,kP 43 39 0,kP 44 39 1,aD 10 43,aD 11 44] [0, 3, 6, 7, 8, 9, 10, 11] asJ
def asL : J := ae [aV 37 66 3,dM 38 47 37,jK 9 74,eM 74 9 38] [0, 3, 6, 7, 8, 9] asK
def asM : J := ae [ad 35 0,dM 36 46 35,aD 8 36] [0, 3, 6, 7, 8] asL
def asN : J := iB [ad 28 0,dM 29 46 28,aV 30 66 3,dM 31 47 30,dN 32 45 29 31,⟨some 27, .mj (.t 32), none⟩,kP 33 27 0,kP 34 27 1,aD 6 33,aD 7 34] [[], [0], [], [2, 1], [1, 3, 3], [4], [5], [5], [6, 4, 0, 1, 2, 3, 4, 5, 6], [7, 8, 0, 1, 2, 3, 4, 5, 6, 7, 8]] [0, 3, 6, 7] asM
def asO : J := .seq (ae [ad 25 5,aY 26 .lss 3 25 0] [0, 3, 26] ar7) asN
def asP : J := ae [aV 22 66 3,ad 23 5,dN 24 44 22 23,aD 5 24] [0, 3, 5] asO
def asQ : J := .seq (ae [ad 20 5,aY 21 .lss 3 20 0] [0, 3, 5, 21] ar5) asP
def asR : J := ae [ad 17 0,ad 18 5,dN 19 43 17 18,aD 5 19] [0, 3, 5] asQ
def asS : J := ae [bC 5 1048576] [0, 3, 5] asR
def F_ : J := ae [ro 3 (.dj 66 (.t 1)),b1 4 false] [0, 3] asS
theorem ns : bu ⟨119, [0, 1]⟩ (Tryz.f9.body.getD .skip) = some F_.strip := by kernel_rfl
def z7 := PLift.up (And.intro @Bool.not_true @Bool.not_false)
def iC := PLift.up (And.intro @List.length_append.{0} (And.intro @List.length_cons.{0} (And.intro @List.length_nil.{0} (And.intro @List.length_map.{0, 0} (And.intro @List.length_replicate.{0} (And.intro @Nat.zero_add @Nat.add_zero))))))
end Go.Proofs.YtgpmnlkgmadglaaGreatDoor
