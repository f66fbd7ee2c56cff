/- Part of a proof that a law returns true for every input. No condition. -/
import Derived.Test.YtgpmnlkgmadglaaGreatDoorTb
import Derived.Test.YtgpmnlkgmadglaaGreatDoorFwL
import Derived.Test.YtgpmnlkgmadglaaGreatDoorP10
namespace Go.Proofs.YtgpmnlkgmadglaaGreatDoor
open Go Go.c0 Go.eV
set_option linter.unusedSimpArgs false
def fH (x : gU) : I := .agg [.int .i64 x.Kind, .int .i64 x.Value]
theorem T5 (x : gU) : (fH x).share = fH x := by
 simp only [fH, ef]
theorem axj (x : gU) : (fH x).c7 = true := by
 simp only [fH, I.c7, I.h5, Bool.and_self]
def fQ (x : List gU) : I := .slice (x.map fH)
theorem Ld (x : List gU) : (fQ x).share = fQ x := by
 simp only [fQ, ef, @cF _ fH fH (fun _ => T5 _)]
def gg (x : iB) : I := .agg [.int .i64 x.Kind, .int .i64 x.Number, .str x.Name, .slice (x.dz.map fQ)]
theorem Le (x : iB) : (gg x).share = gg x := by
 simp only [gg, ef, @cF _ fQ fQ (fun _ => Ld _)]
def gC (x : iu) : I := .agg [.str x.Name, .int .i64 x.dL, .slice (x.Body.map gg)]
theorem Lf (x : iu) : (gC x).share = gC x := by
 simp only [gC, ef, @cF _ gg gg (fun _ => Le _)]
def bD (x : Int) : I := .int .i64 x
theorem qX (x : Int) : (bD x).share = bD x := by
 simp only [bD, ef]
theorem Fg (x : Int) : (bD x).c7 = true := by
 simp only [bD, I.c7, I.h5, Bool.and_self]
def gD (x : iC) : I := .agg [.int .i64 x.dT, .slice (x.cX.map bD)]
theorem Lg (x : iC) : (gD x).share = gD x := by
 simp only [gD, ef, @cF _ bD bD (fun _ => qX _)]
def gw (x : iv) : I := .agg [.str x.Left, .str x.cp, .str x.Result]
theorem Lh (x : iv) : (gw x).share = gw x := by
 simp only [gw, ef]
theorem axk (x : iv) : (gw x).c7 = true := by
 simp only [gw, I.c7, I.h5, Bool.and_self]
def bw (x : List UInt8) : I := .str x
theorem jf (x : List UInt8) : (bw x).share = bw x := by
 simp only [bw, ef]
theorem Li (x : List UInt8) : (bw x).c7 = true := by
 simp only [bw, I.c7, I.h5, Bool.and_self]
def mo (x : kx) : I := .agg [.slice (x.df.map gC), .slice (x.cY.map gD), .slice (x.hR.map gw), .slice (x.hF.map bw), .slice (x.hG.map bw)]
theorem axl (x : kx) : (mo x).share = mo x := by
 simp only [mo, ef, @cF _ gC gC (fun _ => Lf _), @cF _ gD gD (fun _ => Lg _), @cF _ gw gw (fun _ => Lh _), @cF _ bw bw (fun _ => jf _)]
def hH (x : iw) : I := .agg [.int .i64 x.dT, .int .i64 x.Part, .slice (x.cX.map bD)]
theorem axm (x : iw) : (hH x).share = hH x := by
 simp only [hH, ef, @cF _ bD bD (fun _ => qX _)]
def Fh (x : List iu) : I := .slice (x.map gC)
theorem axn (x : List iu) : (Fh x).share = Fh x := by
 simp only [Fh, ef, @cF _ gC gC (fun _ => Lf _)]
def Fi (x : List iC) : I := .slice (x.map gD)
theorem axo (x : List iC) : (Fi x).share = Fi x := by
 simp only [Fi, ef, @cF _ gD gD (fun _ => Lg _)]
def Fj (x : List iv) : I := .slice (x.map gw)
theorem axp (x : List iv) : (Fj x).share = Fj x := by
 simp only [Fj, ef, @cF _ gw gw (fun _ => Lh _)]
def xP (x : List (List UInt8)) : I := .slice (x.map bw)
theorem axq (x : List (List UInt8)) : (xP x).share = xP x := by
 simp only [xP, ef, @cF _ bw bw (fun _ => jf _)]
def Fk (x : List iB) : I := .slice (x.map gg)
theorem axr (x : List iB) : (Fk x).share = Fk x := by
 simp only [Fk, ef, @cF _ gg gg (fun _ => Le _)]
def Fl (x : List (List gU)) : I := .slice (x.map fQ)
theorem axs (x : List (List gU)) : (Fl x).share = Fl x := by
 simp only [Fl, ef, @cF _ fQ fQ (fun _ => Ld _)]
def xQ (x : List Int) : I := .slice (x.map bD)
theorem axt (x : List Int) : (xQ x).share = xQ x := by
 simp only [xQ, ef, @cF _ bD bD (fun _ => qX _)]
def cq (x : cA) : I := .agg [.int .i64 x.Kind, .int .i64 x.Value]
theorem Lj (x : cA) : (cq x).share = cq x := by
 simp only [cq, ef]
theorem T6 (x : cA) : (cq x).c7 = true := by
 simp only [cq, I.c7, I.h5, Bool.and_self]
def en (x : List cA) : I := .slice (x.map cq)
theorem Fm (x : List cA) : (en x).share = en x := by
 simp only [en, ef, @cF _ cq cq (fun _ => Lj _)]
def cc (x : b7) : I := .agg [.int .i64 x.Kind, .int .i64 x.Number, .str x.Name, .slice (x.dz.map en)]
theorem xR (x : b7) : (cc x).share = cc x := by
 simp only [cc, ef, @cF _ en en (fun _ => Fm _)]
def bq (x : bm) : I := .agg [.str x.Name, .int .i64 x.dL, .slice (x.Body.map cc)]
theorem uS (x : bm) : (bq x).share = bq x := by
 simp only [bq, ef, @cF _ cc cc (fun _ => xR _)]
def hT (x : List cA) : I := .aP 2 (x.map cq)
theorem Lk (x : List cA) : (hT x).share = en x := by
 simp only [hT, en, ef, @cF _ cq cq (fun _ => Lj _)]
theorem Ll (x : List cA) : (hT x).c7 = true := by
 simp only [hT, I.c7, I.h5, Bool.and_self, @lb _ cq (fun _ => T6 _)]
def h8 (x : b7) : I := .agg [.int .i64 x.Kind, .int .i64 x.Number, .str x.Name, .aP 1 (x.dz.map hT)]
theorem Lm (x : b7) : (h8 x).share = cc x := by
 simp only [h8, cc, ef, @cF _ hT en (fun _ => Lk _)]
theorem Ln (x : b7) : (h8 x).c7 = true := by
 simp only [h8, I.c7, I.h5, Bool.and_self, @lb _ hT (fun _ => Ll _)]
def hU (x : bm) : I := .agg [.str x.Name, .int .i64 x.dL, .aP 4 (x.Body.map h8)]
theorem uT (x : bm) : (hU x).share = bq x := by
 simp only [hU, bq, ef, @cF _ h8 cc (fun _ => Lm _)]
theorem Lo (x : bm) : (hU x).c7 = true := by
 simp only [hU, I.c7, I.h5, Bool.and_self, @lb _ h8 (fun _ => Ln _)]
def Bx (x : List b7) : I := .aP 4 (x.map h8)
def xS (x : List b7) : I := .slice (x.map cc)
theorem axu (x : List b7) : (xS x).share = xS x := by
 simp only [xS, ef, @cF _ cc cc (fun _ => xR _)]
theorem axv (x : List b7) : (Bx x).share = xS x := by
 simp only [Bx, xS, ef, @cF _ h8 cc (fun _ => Lm _)]
theorem axw (x : List b7) : (Bx x).c7 = true := by
 simp only [Bx, I.c7, I.h5, Bool.and_self, @lb _ h8 (fun _ => Ln _)]
def Bz (x : List (List cA)) : I := .aP 1 (x.map hT)
def xT (x : List (List cA)) : I := .slice (x.map en)
theorem axx (x : List (List cA)) : (xT x).share = xT x := by
 simp only [xT, ef, @cF _ en en (fun _ => Fm _)]
theorem axy (x : List (List cA)) : (Bz x).share = xT x := by
 simp only [Bz, xT, ef, @cF _ hT en (fun _ => Lk _)]
theorem axz (x : List (List cA)) : (Bz x).c7 = true := by
 simp only [Bz, I.c7, I.h5, Bool.and_self, @lb _ hT (fun _ => Ll _)]
def e7 (x : eF) : I := .agg [.int .i64 x.dT, .slice (x.cX.map bD)]
theorem uU (x : eF) : (e7 x).share = e7 x := by
 simp only [e7, ef, @cF _ bD bD (fun _ => qX _)]
def hV (x : eF) : I := .agg [.int .i64 x.dT, .aP 1 (x.cX.map bD)]
theorem uV (x : eF) : (hV x).share = e7 x := by
 simp only [hV, e7, ef, @cF _ bD bD (fun _ => qX _)]
theorem Lp (x : eF) : (hV x).c7 = true := by
 simp only [hV, I.c7, I.h5, Bool.and_self, @lb _ bD (fun _ => Fg _)]
def BA (x : List Int) : I := .aP 1 (x.map bD)
theorem axA (x : List Int) : (BA x).share = xQ x := by
 simp only [BA, xQ, ef, @cF _ bD bD (fun _ => qX _)]
theorem axB (x : List Int) : (BA x).c7 = true := by
 simp only [BA, I.c7, I.h5, Bool.and_self, @lb _ bD (fun _ => Fg _)]
def bB (x : c2) : I := .agg [.str x.Left, .str x.cp, .str x.Result]
theorem nE (x : c2) : (bB x).share = bB x := by
 simp only [bB, ef]
theorem Lq (x : c2) : (bB x).c7 = true := by
 simp only [bB, I.c7, I.h5, Bool.and_self]
def nF (x : dh) : I := .agg [.aP 3 (x.df.map hU), .aP 2 (x.cY.map hV), .aP 3 (x.hR.map bB), .aP 1 (x.hF.map bw), .aP 1 (x.hG.map bw)]
def e2 (x : dh) : I := .agg [.slice (x.df.map bq), .slice (x.cY.map e7), .slice (x.hR.map bB), .slice (x.hF.map bw), .slice (x.hG.map bw)]
theorem axC (x : dh) : (e2 x).share = e2 x := by
 simp only [e2, ef, @cF _ bq bq (fun _ => uS _), @cF _ e7 e7 (fun _ => uU _), @cF _ bB bB (fun _ => nE _), @cF _ bw bw (fun _ => jf _)]
theorem axD (x : dh) : (nF x).share = e2 x := by
 simp only [nF, e2, ef, @cF _ hU bq (fun _ => uT _), @cF _ hV e7 (fun _ => uV _), @cF _ bB bB (fun _ => nE _), @cF _ bw bw (fun _ => jf _)]
theorem axE (x : dh) : (nF x).c7 = true := by
 simp only [nF, I.c7, I.h5, Bool.and_self, @lb _ hU (fun _ => Lo _), @lb _ hV (fun _ => Lp _), @lb _ bB (fun _ => Lq _), @lb _ bw (fun _ => Li _)]
def BB (x : List bm) : I := .aP 3 (x.map hU)
def xU (x : List bm) : I := .slice (x.map bq)
theorem axF (x : List bm) : (xU x).share = xU x := by
 simp only [xU, ef, @cF _ bq bq (fun _ => uS _)]
theorem axG (x : List bm) : (BB x).share = xU x := by
 simp only [BB, xU, ef, @cF _ hU bq (fun _ => uT _)]
theorem axH (x : List bm) : (BB x).c7 = true := by
 simp only [BB, I.c7, I.h5, Bool.and_self, @lb _ hU (fun _ => Lo _)]
def BC (x : List eF) : I := .aP 2 (x.map hV)
def xV (x : List eF) : I := .slice (x.map e7)
theorem axI (x : List eF) : (xV x).share = xV x := by
 simp only [xV, ef, @cF _ e7 e7 (fun _ => uU _)]
theorem axJ (x : List eF) : (BC x).share = xV x := by
 simp only [BC, xV, ef, @cF _ hV e7 (fun _ => uV _)]
theorem axK (x : List eF) : (BC x).c7 = true := by
 simp only [BC, I.c7, I.h5, Bool.and_self, @lb _ hV (fun _ => Lp _)]
def BD (x : List c2) : I := .aP 3 (x.map bB)
def xW (x : List c2) : I := .slice (x.map bB)
theorem axL (x : List c2) : (xW x).share = xW x := by
 simp only [xW, ef, @cF _ bB bB (fun _ => nE _)]
theorem axM (x : List c2) : (BD x).share = xW x := by
 simp only [BD, xW, ef, @cF _ bB bB (fun _ => nE _)]
theorem axN (x : List c2) : (BD x).c7 = true := by
 simp only [BD, I.c7, I.h5, Bool.and_self, @lb _ bB (fun _ => Lq _)]
def BE (x : List (List UInt8)) : I := .aP 1 (x.map bw)
theorem axO (x : List (List UInt8)) : (BE x).share = xP x := by
 simp only [BE, xP, ef, @cF _ bw bw (fun _ => jf _)]
theorem axP (x : List (List UInt8)) : (BE x).c7 = true := by
 simp only [BE, I.c7, I.h5, Bool.and_self, @lb _ bw (fun _ => Li _)]
def dU (x : c8) : I := .agg [.int .i64 x.dT, .int .i64 x.Part, .slice (x.cX.map bD)]
theorem axQ (x : c8) : (dU x).share = dU x := by
 simp only [dU, ef, @cF _ bD bD (fun _ => qX _)]
def iM (x : c8) : I := .agg [.int .i64 x.dT, .int .i64 x.Part, .aP 1 (x.cX.map bD)]
theorem BF (x : c8) : (iM x).share = dU x := by
 simp only [iM, dU, ef, @cF _ bD bD (fun _ => qX _)]
theorem axR (x : c8) : (iM x).c7 = true := by
 simp only [iM, I.c7, I.h5, Bool.and_self, @lb _ bD (fun _ => Fg _)]
def dA (x : cm) : I := .agg [.int .i64 x.scope, .bool x.behind]
theorem Lr (x : cm) : (dA x).share = dA x := by
 simp only [dA, ef]
theorem T7 (x : cm) : (dA x).c7 = true := by
 simp only [dA, I.c7, I.h5, Bool.and_self]
def xX (x : Bool) : I := .bool x
theorem axS (x : Bool) : (xX x).share = xX x := by
 simp only [xX, ef]
theorem axT (x : Bool) : (xX x).c7 = true := by
 simp only [xX, I.c7, I.h5, Bool.and_self]
def T8 : J := .seq (.R [bf 4 (-1)] (some [4])) .ret
def T9 : J := .cond (.t 10) T8 .skip
def T_ : J := .seq (.R [ae 11 1,
 aM 4 11] (some [4])) .ret
def Ua : J := .seq (.seq (.R [ae 9 1,
 ba 10 .lss 3 9 0] (some [1, 10])) T9) T_
def Ub : J := .seq (.R [ae 5 1,
 ae 6 0,
 bV 7 179 6,
 bX 8 .sub 3 5 7,
 aM 1 8] (some [1])) Ua
def Uc : J := .seq (.R [bf 4 0] (some [0, 1])) Ub
theorem Ud : bj ⟨12, [0]⟩ (Tryz.f181.body.getD .skip) = some Uc.strip := by kernel_rfl
def Ue : J := .seq (.R [bf 4 (-1)] (some [4])) .ret
def Uf : J := .cond (.t 11) Ue .skip
def Ug : J := .cond (.t 15) .skip (.exit 0)
def Uh : J := .seq (.R [bf 4 (-1)] (some [4])) .ret
def Ui : J := .cond (.t 25) Uh .skip
def Uj : J := .seq (.R [ae 24 1,
 ba 25 .lss 3 24 0] (some [0, 1, 5, 25])) Ui
def Uk : J := .R [ae 16 5,
 ba 17 .add 3 16 1,
 aM 5 17] (some [0, 1, 5])
def Ul : J := .seq (.block 1 (.seq (.R [ae 18 0,
 ae 19 5,
 cM 20 180 18 19,
 aO 21 179 20,
 ae 22 1,
 ej 23 181 21 22,
 aM 1 23] (some [0, 1, 5])) Uj)) Uk
def Ls : J := .seq (.seq (.R [ae 12 5,
 ae 13 0,
 bV 14 180 13,
 bX 15 .lss 3 12 14] (some [0, 1, 5, 15])) Ug) Ul
def Um : J := .block 0 (.loop Ls)
def Un : J := .seq (.R [ae 26 1,
 aM 4 26] (some [4])) .ret
def Uo : J := .seq (.seq (.R [bf 5 0] (some [0, 1, 5])) Um) Un
def Up : J := .seq (.seq (.R [ae 10 1,
 ba 11 .lss 3 10 0] (some [0, 1, 11])) Uf) Uo
def Uq : J := .seq (.R [ae 6 1,
 ae 7 0,
 bV 8 180 7,
 bX 9 .sub 3 6 8,
 aM 1 9] (some [0, 1])) Up
def Ur : J := .seq (.R [bf 4 0] (some [0, 1])) Uq
theorem Us : bj ⟨27, [0]⟩ (Tryz.f182.body.getD .skip) = some Ur.strip := by kernel_rfl
def Ut : J := .seq (.R [bf 4 (-1)] (some [4])) .ret
def Uu : J := .cond (.t 11) Ut .skip
def Uv : J := .seq (.R [bf 4 (-1)] (some [4])) .ret
def Uw : J := .cond (.t 17) Uv .skip
def Ux : J := .seq (.R [ae 18 1,
 aM 4 18] (some [4])) .ret
def Uy : J := .seq (.seq (.R [ae 16 1,
 ba 17 .lss 3 16 0] (some [1, 17])) Uw) Ux
def Uz : J := .seq (.R [a1 12 298 2 3,
 aO 13 180 12,
 ae 14 1,
 ej 15 182 13 14,
 aM 1 15] (some [1])) Uy
def UA : J := .seq (.seq (.R [ae 10 1,
 ba 11 .lss 3 10 0] (some [1, 2, 11])) Uu) Uz
def UB : J := .seq (.R [ae 5 1,
 a1 6 298 2 2,
 aO 7 9 6,
 bV 8 9 7,
 bX 9 .sub 3 5 8,
 aM 1 9] (some [1, 2])) UA
def UC : J := .seq (.R [ro 2 (.cU 298 (.t 0)),
 bf 4 0] (some [1, 2])) UB
theorem UD : bj ⟨19, [0]⟩ (Tryz.f227.body.getD .skip) = some UC.strip := by kernel_rfl
def UE : J := .seq (.R [bf 4 (-1)] (some [4])) .ret
def UF : J := .cond (.t 11) UE .skip
def UG : J := .cond (.t 15) .skip (.exit 0)
def UH : J := .seq (.R [bf 4 (-1)] (some [4])) .ret
def UI : J := .cond (.t 25) UH .skip
def UJ : J := .seq (.R [ae 24 1,
 ba 25 .lss 3 24 0] (some [0, 1, 5, 25])) UI
def UK : J := .R [ae 16 5,
 ba 17 .add 3 16 1,
 aM 5 17] (some [0, 1, 5])
def UL : J := .seq (.block 1 (.seq (.R [ae 18 0,
 ae 19 5,
 cM 20 148 18 19,
 aO 21 298 20,
 ae 22 1,
 ej 23 227 21 22,
 aM 1 23] (some [0, 1, 5])) UJ)) UK
def Lt : J := .seq (.seq (.R [ae 12 5,
 ae 13 0,
 bV 14 148 13,
 bX 15 .lss 3 12 14] (some [0, 1, 5, 15])) UG) UL
def UM : J := .block 0 (.loop Lt)
def UN : J := .seq (.R [ae 26 1,
 aM 4 26] (some [4])) .ret
def UO : J := .seq (.seq (.R [bf 5 0] (some [0, 1, 5])) UM) UN
def UP : J := .seq (.seq (.R [ae 10 1,
 ba 11 .lss 3 10 0] (some [0, 1, 11])) UF) UO
def UQ : J := .seq (.R [ae 6 1,
 ae 7 0,
 bV 8 148 7,
 bX 9 .sub 3 6 8,
 aM 1 9] (some [0, 1])) UP
def UR : J := .seq (.R [bf 4 0] (some [0, 1])) UQ
theorem US : bj ⟨27, [0]⟩ (Tryz.f156.body.getD .skip) = some UR.strip := by kernel_rfl
def UT : J := .seq (.R [bf 4 (-1)] (some [4])) .ret
def UU : J := .cond (.t 11) UT .skip
def UW : J := .seq (.R [bf 4 (-1)] (some [4])) .ret
def UX : J := .cond (.t 17) UW .skip
def UY : J := .seq (.R [ae 18 1,
 aM 4 18] (some [4])) .ret
def UZ : J := .seq (.seq (.R [ae 16 1,
 ba 17 .lss 3 16 0] (some [1, 17])) UX) UY
def U0 : J := .seq (.R [a1 12 150 2 2,
 aO 13 148 12,
 ae 14 1,
 ej 15 156 13 14,
 aM 1 15] (some [1])) UZ
def U1 : J := .seq (.seq (.R [ae 10 1,
 ba 11 .lss 3 10 0] (some [1, 2, 11])) UU) U0
def U2 : J := .seq (.R [ae 5 1,
 a1 6 150 2 0,
 aO 7 9 6,
 bV 8 9 7,
 bX 9 .sub 3 5 8,
 aM 1 9] (some [1, 2])) U1
def U3 : J := .seq (.R [ro 2 (.cU 150 (.t 0)),
 bf 4 0] (some [1, 2])) U2
theorem U4 : bj ⟨19, [0]⟩ (Tryz.f94.body.getD .skip) = some U3.strip := by kernel_rfl
def U5 : J := .seq (.R [bf 4 (-1)] (some [4])) .ret
def U6 : J := .cond (.t 11) U5 .skip
def U7 : J := .cond (.t 15) .skip (.exit 0)
def U8 : J := .seq (.R [bf 4 (-1)] (some [4])) .ret
def U9 : J := .cond (.t 25) U8 .skip
def U_ : J := .seq (.R [ae 24 1,
 ba 25 .lss 3 24 0] (some [0, 1, 5, 25])) U9
def Va : J := .R [ae 16 5,
 ba 17 .add 3 16 1,
 aM 5 17] (some [0, 1, 5])
def Vb : J := .seq (.block 1 (.seq (.R [ae 18 0,
 ae 19 5,
 cM 20 64 18 19,
 aO 21 150 20,
 ae 22 1,
 ej 23 94 21 22,
 aM 1 23] (some [0, 1, 5])) U_)) Va
def Lu : J := .seq (.seq (.R [ae 12 5,
 ae 13 0,
 bV 14 64 13,
 bX 15 .lss 3 12 14] (some [0, 1, 5, 15])) U7) Vb
def Vc : J := .block 0 (.loop Lu)
def Vd : J := .seq (.R [ae 26 1,
 aM 4 26] (some [4])) .ret
def Ve : J := .seq (.seq (.R [bf 5 0] (some [0, 1, 5])) Vc) Vd
def Vf : J := .seq (.seq (.R [ae 10 1,
 ba 11 .lss 3 10 0] (some [0, 1, 11])) U6) Ve
def Vg : J := .seq (.R [ae 6 1,
 ae 7 0,
 bV 8 64 7,
 bX 9 .sub 3 6 8,
 aM 1 9] (some [0, 1])) Vf
def Vh : J := .seq (.R [bf 4 0] (some [0, 1])) Vg
theorem Vi : bj ⟨27, [0]⟩ (Tryz.f43.body.getD .skip) = some Vh.strip := by kernel_rfl
def Vj : J := .seq (.R [bf 4 (-1)] (some [4])) .ret
def Vk : J := .cond (.t 10) Vj .skip
def Vl : J := .seq (.R [ae 11 1,
 aM 4 11] (some [4])) .ret
def Vm : J := .seq (.seq (.R [ae 9 1,
 ba 10 .lss 3 9 0] (some [1, 10])) Vk) Vl
def Vn : J := .seq (.R [ae 5 1,
 ae 6 0,
 bV 7 22 6,
 bX 8 .sub 3 5 7,
 aM 1 8] (some [1])) Vm
def Vo : J := .seq (.R [bf 4 0] (some [0, 1])) Vn
theorem Vp : bj ⟨12, [0]⟩ (Tryz.f64.body.getD .skip) = some Vo.strip := by kernel_rfl
def Vq : J := .seq (.R [bf 4 (-1)] (some [4])) .ret
def Vr : J := .cond (.t 10) Vq .skip
def Vs : J := .seq (.R [ae 11 1,
 aM 4 11] (some [4])) .ret
def Vt : J := .seq (.seq (.R [ae 9 1,
 ba 10 .lss 3 9 0] (some [1, 10])) Vr) Vs
def Vu : J := .seq (.R [a1 5 241 2 1,
 aO 6 22 5,
 ae 7 1,
 ej 8 64 6 7,
 aM 1 8] (some [1])) Vt
def Vv : J := .seq (.R [ro 2 (.cU 241 (.t 0)),
 bf 4 0] (some [1, 2])) Vu
theorem Vw : bj ⟨12, [0]⟩ (Tryz.f166.body.getD .skip) = some Vv.strip := by kernel_rfl
def Vx : J := .seq (.R [bf 4 (-1)] (some [4])) .ret
def Vy : J := .cond (.t 11) Vx .skip
def Vz : J := .cond (.t 15) .skip (.exit 0)
def VA : J := .seq (.R [bf 4 (-1)] (some [4])) .ret
def VB : J := .cond (.t 25) VA .skip
def VC : J := .seq (.R [ae 24 1,
 ba 25 .lss 3 24 0] (some [0, 1, 5, 25])) VB
def VD : J := .R [ae 16 5,
 ba 17 .add 3 16 1,
 aM 5 17] (some [0, 1, 5])
def VE : J := .seq (.block 1 (.seq (.R [ae 18 0,
 ae 19 5,
 cM 20 83 18 19,
 aO 21 241 20,
 ae 22 1,
 ej 23 166 21 22,
 aM 1 23] (some [0, 1, 5])) VC)) VD
def Lv : J := .seq (.seq (.R [ae 12 5,
 ae 13 0,
 bV 14 83 13,
 bX 15 .lss 3 12 14] (some [0, 1, 5, 15])) Vz) VE
def VF : J := .block 0 (.loop Lv)
def VG : J := .seq (.R [ae 26 1,
 aM 4 26] (some [4])) .ret
def VH : J := .seq (.seq (.R [bf 5 0] (some [0, 1, 5])) VF) VG
def VI : J := .seq (.seq (.R [ae 10 1,
 ba 11 .lss 3 10 0] (some [0, 1, 11])) Vy) VH
def VJ : J := .seq (.R [ae 6 1,
 ae 7 0,
 bV 8 83 7,
 bX 9 .sub 3 6 8,
 aM 1 9] (some [0, 1])) VI
def VK : J := .seq (.R [bf 4 0] (some [0, 1])) VJ
theorem VL : bj ⟨27, [0]⟩ (Tryz.f104.body.getD .skip) = some VK.strip := by kernel_rfl
def VM : J := .seq (.R [bf 4 (-1)] (some [4])) .ret
def VN : J := .cond (.t 11) VM .skip
def VO : J := .seq (.R [bf 4 (-1)] (some [4])) .ret
def VP : J := .cond (.t 18) VO .skip
def VQ : J := .seq (.R [bf 4 (-1)] (some [4])) .ret
def VR : J := .cond (.t 25) VQ .skip
def VS : J := .seq (.R [ae 26 1,
 aM 4 26] (some [4])) .ret
def VT : J := .seq (.seq (.R [ae 24 1,
 ba 25 .lss 3 24 0] (some [1, 25])) VR) VS
def VU : J := .seq (.R [ae 19 1,
 a1 20 244 2 2,
 aO 21 9 20,
 bV 22 9 21,
 bX 23 .sub 3 19 22,
 aM 1 23] (some [1])) VT
def VV : J := .seq (.seq (.R [ae 17 1,
 ba 18 .lss 3 17 0] (some [1, 2, 18])) VP) VU
def VW : J := .seq (.R [ae 12 1,
 a1 13 244 2 1,
 aO 14 9 13,
 bV 15 9 14,
 bX 16 .sub 3 12 15,
 aM 1 16] (some [1, 2])) VV
def VX : J := .seq (.seq (.R [ae 10 1,
 ba 11 .lss 3 10 0] (some [1, 2, 11])) VN) VW
def VY : J := .seq (.R [ae 5 1,
 a1 6 244 2 0,
 aO 7 9 6,
 bV 8 9 7,
 bX 9 .sub 3 5 8,
 aM 1 9] (some [1, 2])) VX
def VZ : J := .seq (.R [ro 2 (.cU 244 (.t 0)),
 bf 4 0] (some [1, 2])) VY
theorem V0 : bj ⟨27, [0]⟩ (Tryz.f167.body.getD .skip) = some VZ.strip := by kernel_rfl
def V1 : J := .seq (.R [bf 4 (-1)] (some [4])) .ret
def V2 : J := .cond (.t 11) V1 .skip
def V3 : J := .cond (.t 15) .skip (.exit 0)
def V4 : J := .seq (.R [bf 4 (-1)] (some [4])) .ret
def V5 : J := .cond (.t 25) V4 .skip
def V6 : J := .seq (.R [ae 24 1,
 ba 25 .lss 3 24 0] (some [0, 1, 5, 25])) V5
def V7 : J := .R [ae 16 5,
 ba 17 .add 3 16 1,
 aM 5 17] (some [0, 1, 5])
def V8 : J := .seq (.block 1 (.seq (.R [ae 18 0,
 ae 19 5,
 cM 20 84 18 19,
 aO 21 244 20,
 ae 22 1,
 ej 23 167 21 22,
 aM 1 23] (some [0, 1, 5])) V6)) V7
def Lw : J := .seq (.seq (.R [ae 12 5,
 ae 13 0,
 bV 14 84 13,
 bX 15 .lss 3 12 14] (some [0, 1, 5, 15])) V3) V8
def V9 : J := .block 0 (.loop Lw)
def V_ : J := .seq (.R [ae 26 1,
 aM 4 26] (some [4])) .ret
def Wa : J := .seq (.seq (.R [bf 5 0] (some [0, 1, 5])) V9) V_
def Wb : J := .seq (.seq (.R [ae 10 1,
 ba 11 .lss 3 10 0] (some [0, 1, 11])) V2) Wa
def Wc : J := .seq (.R [ae 6 1,
 ae 7 0,
 bV 8 84 7,
 bX 9 .sub 3 6 8,
 aM 1 9] (some [0, 1])) Wb
def Wd : J := .seq (.R [bf 4 0] (some [0, 1])) Wc
theorem We : bj ⟨27, [0]⟩ (Tryz.f105.body.getD .skip) = some Wd.strip := by kernel_rfl
def Wf : J := .seq (.R [bf 4 (-1)] (some [4])) .ret
def Wg : J := .cond (.t 11) Wf .skip
def Wh : J := .cond (.t 15) .skip (.exit 0)
def Wi : J := .seq (.R [bf 4 (-1)] (some [4])) .ret
def Wj : J := .cond (.t 26) Wi .skip
def Wk : J := .seq (.R [ae 25 1,
 ba 26 .lss 3 25 0] (some [0, 1, 5, 26])) Wj
def Wl : J := .R [ae 16 5,
 ba 17 .add 3 16 1,
 aM 5 17] (some [0, 1, 5])
def Wm : J := .seq (.block 1 (.seq (.R [ae 18 1,
 ae 19 0,
 ae 20 5,
 cM 21 49 19 20,
 aO 22 9 21,
 bV 23 9 22,
 bX 24 .sub 3 18 23,
 aM 1 24] (some [0, 1, 5])) Wk)) Wl
def Lx : J := .seq (.seq (.R [ae 12 5,
 ae 13 0,
 bV 14 49 13,
 bX 15 .lss 3 12 14] (some [0, 1, 5, 15])) Wh) Wm
def Wn : J := .block 0 (.loop Lx)
def Wo : J := .seq (.R [ae 27 1,
 aM 4 27] (some [4])) .ret
def Wp : J := .seq (.seq (.R [bf 5 0] (some [0, 1, 5])) Wn) Wo
def Wq : J := .seq (.seq (.R [ae 10 1,
 ba 11 .lss 3 10 0] (some [0, 1, 11])) Wg) Wp
def Wr : J := .seq (.R [ae 6 1,
 ae 7 0,
 bV 8 49 7,
 bX 9 .sub 3 6 8,
 aM 1 9] (some [0, 1])) Wq
def Ws : J := .seq (.R [bf 4 0] (some [0, 1])) Wr
theorem Wt : bj ⟨28, [0]⟩ (Tryz.f28.body.getD .skip) = some Ws.strip := by kernel_rfl
def Wu : J := .seq (.R [bf 4 (-1)] (some [4])) .ret
def Wv : J := .cond (.t 10) Wu .skip
def Ww : J := .seq (.R [bf 4 (-1)] (some [4])) .ret
def Wx : J := .cond (.t 16) Ww .skip
def Wy : J := .seq (.R [bf 4 (-1)] (some [4])) .ret
def Wz : J := .cond (.t 22) Wy .skip
def WA : J := .seq (.R [bf 4 (-1)] (some [4])) .ret
def WB : J := .cond (.t 28) WA .skip
def WC : J := .seq (.R [bf 4 (-1)] (some [4])) .ret
def WD : J := .cond (.t 34) WC .skip
def WE : J := .seq (.R [ae 35 1,
 aM 4 35] (some [4])) .ret
def WG : J := .seq (.seq (.R [ae 33 1,
 ba 34 .lss 3 33 0] (some [1, 34])) WD) WE
def WH : J := .seq (.R [a1 29 86 2 4,
 aO 30 49 29,
 ae 31 1,
 ej 32 28 30 31,
 aM 1 32] (some [1])) WG
def WI : J := .seq (.seq (.R [ae 27 1,
 ba 28 .lss 3 27 0] (some [1, 2, 28])) WB) WH
def WJ : J := .seq (.R [a1 23 86 2 3,
 aO 24 49 23,
 ae 25 1,
 ej 26 28 24 25,
 aM 1 26] (some [1, 2])) WI
def WK : J := .seq (.seq (.R [ae 21 1,
 ba 22 .lss 3 21 0] (some [1, 2, 22])) Wz) WJ
def WL : J := .seq (.R [a1 17 86 2 2,
 aO 18 84 17,
 ae 19 1,
 ej 20 105 18 19,
 aM 1 20] (some [1, 2])) WK
def WM : J := .seq (.seq (.R [ae 15 1,
 ba 16 .lss 3 15 0] (some [1, 2, 16])) Wx) WL
def WN : J := .seq (.R [a1 11 86 2 1,
 aO 12 83 11,
 ae 13 1,
 ej 14 104 12 13,
 aM 1 14] (some [1, 2])) WM
def WO : J := .seq (.seq (.R [ae 9 1,
 ba 10 .lss 3 9 0] (some [1, 2, 10])) Wv) WN
def WQ : J := .seq (.R [a1 5 86 2 0,
 aO 6 64 5,
 ae 7 1,
 ej 8 43 6 7,
 aM 1 8] (some [1, 2])) WO
def WR : J := .seq (.R [ro 2 (.cU 86 (.t 0)),
 bf 4 0] (some [1, 2])) WQ
theorem WS : bj ⟨36, [0]⟩ (Tryz.f56.body.getD .skip) = some WR.strip := by kernel_rfl
def WT : J := .seq (.R [bf 4 (-1)] (some [4])) .ret
def WU : J := .cond (.t 10) WT .skip
def WV : J := .seq (.R [ae 11 1,
 aM 4 11] (some [4])) .ret
def WW : J := .seq (.seq (.R [ae 9 1,
 ba 10 .lss 3 9 0] (some [1, 10])) WU) WV
def WX : J := .seq (.R [a1 5 66 2 2,
 aO 6 22 5,
 ae 7 1,
 ej 8 64 6 7,
 aM 1 8] (some [1])) WW
def WY : J := .seq (.R [ro 2 (.cU 66 (.t 0)),
 bf 4 0] (some [1, 2])) WX
theorem WZ : bj ⟨12, [0]⟩ (Tryz.f44.body.getD .skip) = some WY.strip := by kernel_rfl
def W0 : J := .seq (.R [bf 4 (-1)] (some [4])) .ret
def W1 : J := .cond (.t 11) W0 .skip
def W2 : J := .cond (.t 15) .skip (.exit 0)
def W3 : J := .seq (.R [bf 4 (-1)] (some [4])) .ret
def W4 : J := .cond (.t 25) W3 .skip
def W5 : J := .seq (.R [ae 24 1,
 ba 25 .lss 3 24 0] (some [0, 1, 5, 25])) W4
def W6 : J := .R [ae 16 5,
 ba 17 .add 3 16 1,
 aM 5 17] (some [0, 1, 5])
def W7 : J := .seq (.block 1 (.seq (.R [ae 18 0,
 ae 19 5,
 cM 20 87 18 19,
 aO 21 66 20,
 ae 22 1,
 ej 23 44 21 22,
 aM 1 23] (some [0, 1, 5])) W5)) W6
def Ly : J := .seq (.seq (.R [ae 12 5,
 ae 13 0,
 bV 14 87 13,
 bX 15 .lss 3 12 14] (some [0, 1, 5, 15])) W2) W7
def W8 : J := .block 0 (.loop Ly)
def W9 : J := .seq (.R [ae 26 1,
 aM 4 26] (some [4])) .ret
def W_ : J := .seq (.seq (.R [bf 5 0] (some [0, 1, 5])) W8) W9
def Xa : J := .seq (.seq (.R [ae 10 1,
 ba 11 .lss 3 10 0] (some [0, 1, 11])) W1) W_
def Xb : J := .seq (.R [ae 6 1,
 ae 7 0,
 bV 8 87 7,
 bX 9 .sub 3 6 8,
 aM 1 9] (some [0, 1])) Xa
def Xc : J := .seq (.R [bf 4 0] (some [0, 1])) Xb
theorem Xd : bj ⟨27, [0]⟩ (Tryz.f57.body.getD .skip) = some Xc.strip := by kernel_rfl
def Xe : J := .seq (.R [aO 10 278 3,
 eN 278 2 10] (some [2])) .ret
def Xf : J := .seq (.R [a1 7 326 1 1,
 aO 8 2 7,
 a1 9 278 3 1,
 eN 2 9 8] (some [2, 3])) Xe
def Xg : J := .seq (.R [a1 4 326 1 0,
 aO 5 2 4,
 a1 6 278 3 0,
 eN 2 6 5] (some [1, 2, 3])) Xf
def Xh : J := .seq (.R [iA 3 278] (some [1, 2, 3])) Xg
def Xi : J := .seq (.R [ro 1 (.cU 326 (.t 0)),
 iA 2 278] (some [1, 2])) Xh
theorem Xj : bj ⟨11, [0]⟩ (Tryz.f256.body.getD .skip) = some Xi.strip := by kernel_rfl
def Xk : J := .cond (.t 11) .skip (.exit 0)
def Xl : J := .R [ae 12 4,
 ba 13 .add 3 12 1,
 aM 4 13] (some [0, 3, 4])
def Xm : J := .seq (.block 1 (.R [ae 14 3,
 ae 15 4,
 ae 16 0,
 ae 17 4,
 cM 18 179 16 17,
 aO 19 326 18,
 d_ 20 256 19,
 cM 21 186 14 15,
 eN 278 21 20] (some [0, 3, 4]))) Xl
def Lz : J := .seq (.seq (.R [ae 8 4,
 ae 9 0,
 bV 10 179 9,
 bX 11 .lss 3 8 10] (some [0, 3, 4, 11])) Xk) Xm
def Xn : J := .block 0 (.loop Lz)
def Xo : J := .seq (.R [ae 22 3,
 aM 2 22] (some [2])) .ret
def Xp : J := .seq (.seq (.R [bf 4 0] (some [0, 3, 4])) Xn) Xo
def Xq : J := .seq (.R [ae 5 0,
 bV 6 179 5,
 ro 7 (.er 186 (.t 6) (.t 6)),
 aM 3 7] (some [0, 3])) Xp
def Xr : J := .seq (.R [oj 2] (some [0])) Xq
theorem Xs : bj ⟨23, [0]⟩ (Tryz.f188.body.getD .skip) = some Xr.strip := by kernel_rfl
def Xt : J := .cond (.t 11) .skip (.exit 0)
def Xu : J := .R [ae 12 4,
 ba 13 .add 3 12 1,
 aM 4 13] (some [0, 3, 4])
def Xv : J := .seq (.block 1 (.R [ae 14 3,
 ae 15 4,
 ae 16 0,
 ae 17 4,
 cM 18 180 16 17,
 aO 19 179 18,
 d_ 20 188 19,
 cM 21 187 14 15,
 eN 186 21 20] (some [0, 3, 4]))) Xu
def LA : J := .seq (.seq (.R [ae 8 4,
 ae 9 0,
 bV 10 180 9,
 bX 11 .lss 3 8 10] (some [0, 3, 4, 11])) Xt) Xv
def Xw : J := .block 0 (.loop LA)
def Xx : J := .seq (.R [ae 22 3,
 aM 2 22] (some [2])) .ret
def Xy : J := .seq (.seq (.R [bf 4 0] (some [0, 3, 4])) Xw) Xx
def Xz : J := .seq (.R [ae 5 0,
 bV 6 180 5,
 ro 7 (.er 187 (.t 6) (.t 6)),
 aM 3 7] (some [0, 3])) Xy
def XA : J := .seq (.R [oj 2] (some [0])) Xz
theorem XB : bj ⟨23, [0]⟩ (Tryz.f189.body.getD .skip) = some XA.strip := by kernel_rfl
def XC : J := .seq (.R [aO 17 230 3,
 eN 230 2 17] (some [2])) .ret
def XD : J := .seq (.R [a1 13 298 1 3,
 aO 14 180 13,
 d_ 15 189 14,
 a1 16 230 3 3,
 eN 187 16 15] (some [2, 3])) XC
def XE : J := .seq (.R [a1 10 298 1 2,
 aO 11 9 10,
 a1 12 230 3 2,
 eN 9 12 11] (some [1, 2, 3])) XD
def XF : J := .seq (.R [a1 7 298 1 1,
 aO 8 2 7,
 a1 9 230 3 1,
 eN 2 9 8] (some [1, 2, 3])) XE
def XG : J := .seq (.R [a1 4 298 1 0,
 aO 5 2 4,
 a1 6 230 3 0,
 eN 2 6 5] (some [1, 2, 3])) XF
def XH : J := .seq (.R [iA 3 230] (some [1, 2, 3])) XG
def XI : J := .seq (.R [ro 1 (.cU 298 (.t 0)),
 iA 2 230] (some [1, 2])) XH
theorem XJ : bj ⟨18, [0]⟩ (Tryz.f235.body.getD .skip) = some XI.strip := by kernel_rfl
def XK : J := .cond (.t 11) .skip (.exit 0)
def XL : J := .R [ae 12 4,
 ba 13 .add 3 12 1,
 aM 4 13] (some [0, 3, 4])
def XM : J := .seq (.block 1 (.R [ae 14 3,
 ae 15 4,
 ae 16 0,
 ae 17 4,
 cM 18 148 16 17,
 aO 19 298 18,
 d_ 20 235 19,
 cM 21 156 14 15,
 eN 230 21 20] (some [0, 3, 4]))) XL
def LB : J := .seq (.seq (.R [ae 8 4,
 ae 9 0,
 bV 10 148 9,
 bX 11 .lss 3 8 10] (some [0, 3, 4, 11])) XK) XM
def XN : J := .block 0 (.loop LB)
def XO : J := .seq (.R [ae 22 3,
 aM 2 22] (some [2])) .ret
def XP : J := .seq (.seq (.R [bf 4 0] (some [0, 3, 4])) XN) XO
def XQ : J := .seq (.R [ae 5 0,
 bV 6 148 5,
 ro 7 (.er 156 (.t 6) (.t 6)),
 aM 3 7] (some [0, 3])) XP
def XR : J := .seq (.R [oj 2] (some [0])) XQ
theorem XS : bj ⟨23, [0]⟩ (Tryz.f161.body.getD .skip) = some XR.strip := by kernel_rfl
def XT : J := .seq (.R [aO 14 158 3,
 eN 158 2 14] (some [2])) .ret
def XU : J := .seq (.R [a1 10 150 1 2,
 aO 11 148 10,
 d_ 12 161 11,
 a1 13 158 3 2,
 eN 156 13 12] (some [2, 3])) XT
def XV : J := .seq (.R [a1 7 150 1 1,
 aO 8 2 7,
 a1 9 158 3 1,
 eN 2 9 8] (some [1, 2, 3])) XU
def XW : J := .seq (.R [a1 4 150 1 0,
 aO 5 9 4,
 a1 6 158 3 0,
 eN 9 6 5] (some [1, 2, 3])) XV
def XX : J := .seq (.R [iA 3 158] (some [1, 2, 3])) XW
def XY : J := .seq (.R [ro 1 (.cU 150 (.t 0)),
 iA 2 158] (some [1, 2])) XX
theorem XZ : bj ⟨15, [0]⟩ (Tryz.f98.body.getD .skip) = some XY.strip := by kernel_rfl
def X0 : J := .cond (.t 11) .skip (.exit 0)
def X1 : J := .R [ae 12 4,
 ba 13 .add 3 12 1,
 aM 4 13] (some [0, 3, 4])
def X2 : J := .seq (.block 1 (.R [ae 14 3,
 ae 15 4,
 ae 16 0,
 ae 17 4,
 cM 18 64 16 17,
 aO 19 150 18,
 d_ 20 98 19,
 cM 21 72 14 15,
 eN 158 21 20] (some [0, 3, 4]))) X1
def LC : J := .seq (.seq (.R [ae 8 4,
 ae 9 0,
 bV 10 64 9,
 bX 11 .lss 3 8 10] (some [0, 3, 4, 11])) X0) X2
def X3 : J := .block 0 (.loop LC)
def X4 : J := .seq (.R [ae 22 3,
 aM 2 22] (some [2])) .ret
def X5 : J := .seq (.seq (.R [bf 4 0] (some [0, 3, 4])) X3) X4
def X6 : J := .seq (.R [ae 5 0,
 bV 6 64 5,
 ro 7 (.er 72 (.t 6) (.t 6)),
 aM 3 7] (some [0, 3])) X5
def X7 : J := .seq (.R [oj 2] (some [0])) X6
theorem X8 : bj ⟨23, [0]⟩ (Tryz.f46.body.getD .skip) = some X7.strip := by kernel_rfl
def X9 : J := .cond (.t 11) .skip (.exit 0)
def X_ : J := .R [ae 12 4,
 ba 13 .add 3 12 1,
 aM 4 13] (some [0, 3, 4])
def Ya : J := .seq (.block 1 (.R [ae 14 3,
 ae 15 4,
 ae 16 0,
 ae 17 4,
 cM 18 22 16 17,
 aO 19 2 18,
 cM 20 22 14 15,
 eN 2 20 19] (some [0, 3, 4]))) X_
def LD : J := .seq (.seq (.R [ae 8 4,
 ae 9 0,
 bV 10 22 9,
 bX 11 .lss 3 8 10] (some [0, 3, 4, 11])) X9) Ya
def Yb : J := .block 0 (.loop LD)
def Yc : J := .seq (.R [ae 21 3,
 aM 2 21] (some [2])) .ret
def Yd : J := .seq (.seq (.R [bf 4 0] (some [0, 3, 4])) Yb) Yc
def Ye : J := .seq (.R [ae 5 0,
 bV 6 22 5,
 ro 7 (.er 22 (.t 6) (.t 6)),
 aM 3 7] (some [0, 3])) Yd
def Yf : J := .seq (.R [oj 2] (some [0])) Ye
theorem nG : bj ⟨22, [0]⟩ (Tryz.f14.body.getD .skip) = some Yf.strip := by kernel_rfl
def Yg : J := .seq (.R [aO 11 248 3,
 eN 248 2 11] (some [2])) .ret
def Yh : J := .seq (.R [a1 7 241 1 1,
 aO 8 22 7,
 d_ 9 14 8,
 a1 10 248 3 1,
 eN 22 10 9] (some [2, 3])) Yg
def Yi : J := .seq (.R [a1 4 241 1 0,
 aO 5 2 4,
 a1 6 248 3 0,
 eN 2 6 5] (some [1, 2, 3])) Yh
def Yj : J := .seq (.R [iA 3 248] (some [1, 2, 3])) Yi
def Yk : J := .seq (.R [ro 1 (.cU 241 (.t 0)),
 iA 2 248] (some [1, 2])) Yj
theorem Yl : bj ⟨12, [0]⟩ (Tryz.f172.body.getD .skip) = some Yk.strip := by kernel_rfl
def Ym : J := .cond (.t 11) .skip (.exit 0)
def Yn : J := .R [ae 12 4,
 ba 13 .add 3 12 1,
 aM 4 13] (some [0, 3, 4])
def Yo : J := .seq (.block 1 (.R [ae 14 3,
 ae 15 4,
 ae 16 0,
 ae 17 4,
 cM 18 83 16 17,
 aO 19 241 18,
 d_ 20 172 19,
 cM 21 91 14 15,
 eN 248 21 20] (some [0, 3, 4]))) Yn
def LF : J := .seq (.seq (.R [ae 8 4,
 ae 9 0,
 bV 10 83 9,
 bX 11 .lss 3 8 10] (some [0, 3, 4, 11])) Ym) Yo
def Yp : J := .block 0 (.loop LF)
def Yq : J := .seq (.R [ae 22 3,
 aM 2 22] (some [2])) .ret
def Yr : J := .seq (.seq (.R [bf 4 0] (some [0, 3, 4])) Yp) Yq
def Ys : J := .seq (.R [ae 5 0,
 bV 6 83 5,
 ro 7 (.er 91 (.t 6) (.t 6)),
 aM 3 7] (some [0, 3])) Yr
def Yt : J := .seq (.R [oj 2] (some [0])) Ys
theorem Yu : bj ⟨23, [0]⟩ (Tryz.f108.body.getD .skip) = some Yt.strip := by kernel_rfl
def Yv : J := .seq (.R [aO 13 250 3,
 eN 250 2 13] (some [2])) .ret
def Yw : J := .seq (.R [a1 10 244 1 2,
 aO 11 9 10,
 a1 12 250 3 2,
 eN 9 12 11] (some [2, 3])) Yv
def Yx : J := .seq (.R [a1 7 244 1 1,
 aO 8 9 7,
 a1 9 250 3 1,
 eN 9 9 8] (some [1, 2, 3])) Yw
def Yy : J := .seq (.R [a1 4 244 1 0,
 aO 5 9 4,
 a1 6 250 3 0,
 eN 9 6 5] (some [1, 2, 3])) Yx
def Yz : J := .seq (.R [iA 3 250] (some [1, 2, 3])) Yy
def YA : J := .seq (.R [ro 1 (.cU 244 (.t 0)),
 iA 2 250] (some [1, 2])) Yz
theorem YB : bj ⟨14, [0]⟩ (Tryz.f173.body.getD .skip) = some YA.strip := by kernel_rfl
def YC : J := .cond (.t 11) .skip (.exit 0)
def YD : J := .R [ae 12 4,
 ba 13 .add 3 12 1,
 aM 4 13] (some [0, 3, 4])
def YE : J := .seq (.block 1 (.R [ae 14 3,
 ae 15 4,
 ae 16 0,
 ae 17 4,
 cM 18 84 16 17,
 aO 19 244 18,
 d_ 20 173 19,
 cM 21 92 14 15,
 eN 250 21 20] (some [0, 3, 4]))) YD
def LG : J := .seq (.seq (.R [ae 8 4,
 ae 9 0,
 bV 10 84 9,
 bX 11 .lss 3 8 10] (some [0, 3, 4, 11])) YC) YE
def YF : J := .block 0 (.loop LG)
def YG : J := .seq (.R [ae 22 3,
 aM 2 22] (some [2])) .ret
def YH : J := .seq (.seq (.R [bf 4 0] (some [0, 3, 4])) YF) YG
def YI : J := .seq (.R [ae 5 0,
 bV 6 84 5,
 ro 7 (.er 92 (.t 6) (.t 6)),
 aM 3 7] (some [0, 3])) YH
def YJ : J := .seq (.R [oj 2] (some [0])) YI
theorem YK : bj ⟨23, [0]⟩ (Tryz.f109.body.getD .skip) = some YJ.strip := by kernel_rfl
def YL : J := .cond (.t 11) .skip (.exit 0)
def YM : J := .R [ae 12 4,
 ba 13 .add 3 12 1,
 aM 4 13] (some [0, 3, 4])
def YN : J := .seq (.block 1 (.R [ae 14 3,
 ae 15 4,
 ae 16 0,
 ae 17 4,
 cM 18 49 16 17,
 aO 19 9 18,
 cM 20 49 14 15,
 eN 9 20 19] (some [0, 3, 4]))) YM
def LH : J := .seq (.seq (.R [ae 8 4,
 ae 9 0,
 bV 10 49 9,
 bX 11 .lss 3 8 10] (some [0, 3, 4, 11])) YL) YN
def YO : J := .block 0 (.loop LH)
def YP : J := .seq (.R [ae 21 3,
 aM 2 21] (some [2])) .ret
def YQ : J := .seq (.seq (.R [bf 4 0] (some [0, 3, 4])) YO) YP
def YR : J := .seq (.R [ae 5 0,
 bV 6 49 5,
 ro 7 (.er 49 (.t 6) (.t 6)),
 aM 3 7] (some [0, 3])) YQ
def YS : J := .seq (.R [oj 2] (some [0])) YR
theorem YT : bj ⟨22, [0]⟩ (Tryz.f30.body.getD .skip) = some YS.strip := by kernel_rfl
def YU : J := .seq (.R [aO 24 94 3,
 eN 94 2 24] (some [2])) .ret
def YV : J := .seq (.R [a1 20 86 1 4,
 aO 21 49 20,
 d_ 22 30 21,
 a1 23 94 3 4,
 eN 49 23 22] (some [2, 3])) YU
def YW : J := .seq (.R [a1 16 86 1 3,
 aO 17 49 16,
 d_ 18 30 17,
 a1 19 94 3 3,
 eN 49 19 18] (some [1, 2, 3])) YV
def YX : J := .seq (.R [a1 12 86 1 2,
 aO 13 84 12,
 d_ 14 109 13,
 a1 15 94 3 2,
 eN 92 15 14] (some [1, 2, 3])) YW
def YY : J := .seq (.R [a1 8 86 1 1,
 aO 9 83 8,
 d_ 10 108 9,
 a1 11 94 3 1,
 eN 91 11 10] (some [1, 2, 3])) YX
def YZ : J := .seq (.R [a1 4 86 1 0,
 aO 5 64 4,
 d_ 6 46 5,
 a1 7 94 3 0,
 eN 72 7 6] (some [1, 2, 3])) YY
def Y0 : J := .seq (.R [iA 3 94] (some [1, 2, 3])) YZ
def Y1 : J := .seq (.R [ro 1 (.cU 86 (.t 0)),
 iA 2 94] (some [1, 2])) Y0
theorem Y2 : bj ⟨25, [0]⟩ (Tryz.f59.body.getD .skip) = some Y1.strip := by kernel_rfl
def Y3 : J := .seq (.R [aO 14 74 3,
 eN 74 2 14] (some [2])) .ret
def Y4 : J := .seq (.R [a1 10 66 1 2,
 aO 11 22 10,
 d_ 12 14 11,
 a1 13 74 3 2,
 eN 22 13 12] (some [2, 3])) Y3
def Y5 : J := .seq (.R [a1 7 66 1 1,
 aO 8 2 7,
 a1 9 74 3 1,
 eN 2 9 8] (some [1, 2, 3])) Y4
def Y6 : J := .seq (.R [a1 4 66 1 0,
 aO 5 2 4,
 a1 6 74 3 0,
 eN 2 6 5] (some [1, 2, 3])) Y5
def Y7 : J := .seq (.R [iA 3 74] (some [1, 2, 3])) Y6
def Y8 : J := .seq (.R [ro 1 (.cU 66 (.t 0)),
 iA 2 74] (some [1, 2])) Y7
theorem sC : bj ⟨15, [0]⟩ (Tryz.f47.body.getD .skip) = some Y8.strip := by kernel_rfl
def Y9 : J := .cond (.t 11) .skip (.exit 0)
def Y_ : J := .R [ae 12 4,
 ba 13 .add 3 12 1,
 aM 4 13] (some [0, 3, 4])
def Za : J := .seq (.block 1 (.R [ae 14 3,
 ae 15 4,
 ae 16 0,
 ae 17 4,
 cM 18 87 16 17,
 aO 19 66 18,
 d_ 20 47 19,
 cM 21 96 14 15,
 eN 74 21 20] (some [0, 3, 4]))) Y_
def LI : J := .seq (.seq (.R [ae 8 4,
 ae 9 0,
 bV 10 87 9,
 bX 11 .lss 3 8 10] (some [0, 3, 4, 11])) Y9) Za
def Zb : J := .block 0 (.loop LI)
def Zc : J := .seq (.R [ae 22 3,
 aM 2 22] (some [2])) .ret
def Zd : J := .seq (.seq (.R [bf 4 0] (some [0, 3, 4])) Zb) Zc
def Ze : J := .seq (.R [ae 5 0,
 bV 6 87 5,
 ro 7 (.er 96 (.t 6) (.t 6)),
 aM 3 7] (some [0, 3])) Zd
def Zf : J := .seq (.R [oj 2] (some [0])) Ze
theorem Zg : bj ⟨23, [0]⟩ (Tryz.f60.body.getD .skip) = some Zf.strip := by kernel_rfl
def Zh : J := .seq (.R [ae 3 0,
 ro 4 (.b1 .geq 5 (.t 3) (.c (.int .u8 97))),
 ae 5 4,
 ⟨some 6, .cj (.t 0), some (5, true)⟩,
 ⟨some 7, .b1 .leq 5 (.t 6) (.c (.int .u8 122)), some (5, true)⟩,
 ro 8 (.pick (.t 5) (.t 7) (.c (.bool false))),
 aM 2 8] (some [2])) .ret
def Zi : J := .seq (.R [bk 2 false] (some [0])) Zh
theorem Zj : bj ⟨9, [0]⟩ (Tryz.f228.body.getD .skip) = some Zi.strip := by kernel_rfl
def Zk : J := .seq (.R [ae 3 0,
 ro 4 (.b1 .geq 5 (.t 3) (.c (.int .u8 48))),
 ae 5 4,
 ⟨some 6, .cj (.t 0), some (5, true)⟩,
 ⟨some 7, .b1 .leq 5 (.t 6) (.c (.int .u8 57)), some (5, true)⟩,
 ro 8 (.pick (.t 5) (.t 7) (.c (.bool false))),
 aM 2 8] (some [2])) .ret
def Zl : J := .seq (.R [bk 2 false] (some [0])) Zk
theorem Zm : bj ⟨9, [0]⟩ (Tryz.f229.body.getD .skip) = some Zl.strip := by kernel_rfl
def Zn : J := .seq (.R [bk 2 false] (some [2])) .ret
def Zo : J := .cond (.t 16) Zn .skip
def Zp : J := .cond (.t 20) .skip (.exit 0)
def Zq : J := .seq (.R [bk 2 false] (some [2])) .ret
def Zr : J := .cond (.t 34) Zq .skip
def Zs : J := .R [ae 21 3,
 ba 22 .add 3 21 1,
 aM 3 22] (some [0, 3])
def Zt : J := .seq (.block 1 (.seq (.R [ae 23 0,
 ae 24 3,
 KK 25 9 23 24,
 d_ 26 228 25,
 eu 27 26,
 ae 28 27,
 ⟨some 29, .cj (.t 0), some (28, true)⟩,
 ⟨some 30, .cj (.t 3), some (28, true)⟩,
 ⟨some 31, .idx 9 (.t 29) (.t 30), some (28, true)⟩,
 ⟨some 32, .call (.f 229) [(.t 31)], some (28, true)⟩,
 ⟨some 33, .un .not (.t 32), some (28, true)⟩,
 ro 34 (.pick (.t 28) (.t 33) (.c (.bool false)))] (some [0, 3, 34])) Zr)) Zs
def LJ : J := .seq (.seq (.R [ae 17 3,
 ae 18 0,
 bV 19 9 18,
 bX 20 .lss 3 17 19] (some [0, 3, 20])) Zp) Zt
def Zu : J := .block 0 (.loop LJ)
def Zv : J := .seq (.R [bk 2 true] (some [2])) .ret
def Zw : J := .seq (.seq (.R [bf 3 0] (some [0, 3])) Zu) Zv
def Zx : J := .seq (.seq (.R [ae 4 0,
 ro 5 (.b1 .eql 9 (.t 4) (.c (.str []))),
 ae 6 5,
 ⟨some 7, .cj (.t 0), some (6, false)⟩,
 ⟨some 8, .len 9 (.t 7), some (6, false)⟩,
 ⟨some 9, .b1 .gtr 3 (.t 8) (.c (.int .i64 10)), some (6, false)⟩,
 ro 10 (.pick (.t 6) (.c (.bool true)) (.t 9)),
 ae 11 10,
 ⟨some 12, .cj (.t 0), some (11, false)⟩,
 ⟨some 13, .idx 9 (.t 12) (.c (.int .i64 0)), some (11, false)⟩,
 ⟨some 14, .call (.f 228) [(.t 13)], some (11, false)⟩,
 ⟨some 15, .un .not (.t 14), some (11, false)⟩,
 ro 16 (.pick (.t 11) (.c (.bool true)) (.t 15))] (some [0, 16])) Zo) Zw
def Zy : J := .seq (.R [bk 2 false] (some [0])) Zx
theorem Zz : bj ⟨35, [0]⟩ (Tryz.f157.body.getD .skip) = some Zy.strip := by kernel_rfl
def ZA : J := .seq (.R [ae 7 0,
 ae 8 1,
 bX 9 .geq 2 7 8,
 ae 10 9,
 ⟨some 11, .cj (.t 0), some (10, true)⟩,
 ⟨some 12, .cj (.t 2), some (10, true)⟩,
 ⟨some 13, .b1 .leq 2 (.t 11) (.t 12), some (10, true)⟩,
 ro 14 (.pick (.t 10) (.t 13) (.c (.bool false))),
 aM 6 14] (some [6])) .ret
def ZB : J := .seq (.R [bk 6 false] (some [0, 1, 2])) ZA
theorem ZC : bj ⟨15, [0, 1, 2]⟩ (Tryz.f115.body.getD .skip) = some ZB.strip := by kernel_rfl
def ZD : J := .R [ba 10 .eql 2 6 4,
 aM 7 10] (some [6, 7])
def ZE : J := .cond (.t 7) .skip ZD
def ZF : J := .seq (.R [ba 9 .eql 2 6 3,
 aM 7 9] (some [6, 7])) ZE
def ZG : J := .cond (.t 7) .skip ZF
def ZH : J := .seq (.R [bf 2 1] (some [2])) .ret
def ZI : J := .seq (.R [bf 2 2] (some [2])) .ret
def ZJ : J := .cond (.t 11) ZI .skip
def ZK : J := .seq (.R [ba 12 .eql 2 6 2,
 aM 11 12] (some [11])) ZJ
def LK : J := .cond (.t 7) ZH ZK
def ZL : J := .block 0 (.seq (.seq (.R [ba 8 .eql 2 6 1,
 aM 7 8] (some [6, 7])) ZG) LK)
def ZM : J := .seq (.R [bf 2 0] (some [2])) .ret
def ZN : J := .seq (.seq (.R [ae 3 0,
 gZ 4 3,
 a1 5 230 4 0,
 aO 6 2 5] (some [6])) ZL) ZM
def ZO : J := .seq (.R [bf 2 0] (some [0])) ZN
theorem ZP : bj ⟨13, [0]⟩ (Tryz.f274.body.getD .skip) = some ZO.strip := by kernel_rfl
def ZQ : J := .seq (.R [bk 2 false] (some [2])) .ret
def ZR : J := .cond (.t 12) ZQ .skip
def ZS : J := .cond (.t 16) .skip (.exit 0)
def ZT : J := .seq (.R [bk 2 false] (some [2])) .ret
def ZU : J := .cond (.t 20) ZT .skip
def ZV : J := .R [ae 21 3,
 ae 22 0,
 ae 23 4,
 cM 24 156 22 23,
 d_ 25 274 24,
 ba 26 .sub 2 25 1,
 bX 27 .add 2 21 26,
 aM 3 27] (some [0, 3, 4])
def ZW : J := .R [ae 17 4,
 ba 18 .add 3 17 1,
 aM 4 18] (some [0, 3, 4])
def ZX : J := .seq (.block 1 (.seq (.seq (.R [ae 19 3,
 ba 20 .eql 2 19 0] (some [0, 3, 4, 20])) ZU) ZV)) ZW
def LL : J := .seq (.seq (.R [ae 13 4,
 ae 14 0,
 bV 15 156 14,
 bX 16 .lss 3 13 15] (some [0, 3, 4, 16])) ZS) ZX
def ZY : J := .block 0 (.loop LL)
def ZZ : J := .seq (.R [ae 28 3,
 ba 29 .eql 2 28 0,
 aM 2 29] (some [2])) .ret
def Z0 : J := .seq (.seq (.R [bf 4 0] (some [0, 3, 4])) ZY) ZZ
def Z1 : J := .seq (.R [bf 3 1] (some [0, 3])) Z0
def Z2 : J := .seq (.seq (.R [ae 5 0,
 bV 6 156 5,
 ba 7 .eql 3 6 0,
 ae 8 7,
 ⟨some 9, .cj (.t 0), some (8, false)⟩,
 ⟨some 10, .len 156 (.t 9), some (8, false)⟩,
 ⟨some 11, .b1 .gtr 3 (.t 10) (.c (.int .i64 20)), some (8, false)⟩,
 ro 12 (.pick (.t 8) (.c (.bool true)) (.t 11))] (some [0, 12])) ZR) Z1
def Z3 : J := .seq (.R [bk 2 false] (some [0])) Z2
theorem Z4 : bj ⟨30, [0]⟩ (Tryz.f230.body.getD .skip) = some Z3.strip := by kernel_rfl
def Z5 : J := .R [ba 9 .eql 2 6 2,
 aM 7 9] (some [0, 6, 7])
def Z6 : J := .cond (.t 7) .skip Z5
def Z7 : J := .seq (.R [ae 10 0,
 gZ 11 10,
 a1 12 230 11 1,
 aO 13 2 12,
 ba 14 .eql 2 13 0,
 ae 15 14,
 ⟨some 16, .cj (.t 0), some (15, true)⟩,
 ⟨some 17, .fC (.t 16), some (15, true)⟩,
 ⟨some 18, .cB 230 (.t 17) 2, some (15, true)⟩,
 ⟨some 19, .b4 9 (.t 18), some (15, true)⟩,
 ⟨some 20, .b1 .eql 9 (.t 19) (.c (.str [])), some (15, true)⟩,
 ro 21 (.pick (.t 15) (.t 20) (.c (.bool false))),
 ae 22 21,
 ⟨some 23, .cj (.t 0), some (22, true)⟩,
 ⟨some 24, .fC (.t 23), some (22, true)⟩,
 ⟨some 25, .cB 230 (.t 24) 3, some (22, true)⟩,
 ⟨some 26, .b4 187 (.t 25), some (22, true)⟩,
 ⟨some 27, .len 187 (.t 26), some (22, true)⟩,
 ⟨some 28, .b1 .eql 3 (.t 27) (.c (.int .i64 0)), some (22, true)⟩,
 ro 29 (.pick (.t 22) (.t 28) (.c (.bool false))),
 aM 2 29] (some [2])) .ret
def Z8 : J := .seq (.R [ae 32 0,
 gZ 33 32,
 a1 34 230 33 1,
 aO 35 2 34,
 ba 36 .eql 2 35 0,
 aM 2 36] (some [2])) .ret
def Z9 : J := .seq (.R [ae 39 0,
 gZ 40 39,
 a1 41 230 40 1,
 aO 42 2 41,
 ba 43 .eql 2 42 0,
 ae 44 43,
 ⟨some 45, .cj (.t 0), some (44, true)⟩,
 ⟨some 46, .fC (.t 45), some (44, true)⟩,
 ⟨some 47, .cB 230 (.t 46) 2, some (44, true)⟩,
 ⟨some 48, .b4 9 (.t 47), some (44, true)⟩,
 ⟨some 49, .b1 .eql 9 (.t 48) (.c (.str [])), some (44, true)⟩,
 ro 50 (.pick (.t 44) (.t 49) (.c (.bool false))),
 aM 2 50] (some [2])) .ret
def Z_ : J := .seq (.R [ae 53 0,
 gZ 54 53,
 a1 55 230 54 2,
 aO 56 9 55,
 ro 57 (.b1 .eql 9 (.t 56) (.c (.str []))),
 ae 58 57,
 ⟨some 59, .cj (.t 0), some (58, true)⟩,
 ⟨some 60, .fC (.t 59), some (58, true)⟩,
 ⟨some 61, .cB 230 (.t 60) 3, some (58, true)⟩,
 ⟨some 62, .b4 187 (.t 61), some (58, true)⟩,
 ⟨some 63, .len 187 (.t 62), some (58, true)⟩,
 ⟨some 64, .b1 .eql 3 (.t 63) (.c (.int .i64 0)), some (58, true)⟩,
 ro 65 (.pick (.t 58) (.t 64) (.c (.bool false))),
 aM 2 65] (some [2])) .ret
def aaa : J := .seq (.R [ae 68 0,
 gZ 69 68,
 a1 70 230 69 2,
 aO 71 9 70,
 ro 72 (.b1 .eql 9 (.t 71) (.c (.str []))),
 aM 2 72] (some [2])) .ret
def aab : J := .cond (.t 66) aaa .skip
def aac : J := .seq (.R [ba 67 .eql 2 6 5,
 aM 66 67] (some [0, 66])) aab
def aad : J := .cond (.t 51) Z_ aac
def aae : J := .seq (.R [ba 52 .eql 2 6 4,
 aM 51 52] (some [0, 6, 51])) aad
def aaf : J := .cond (.t 37) Z9 aae
def aag : J := .seq (.R [ba 38 .eql 2 6 3,
 aM 37 38] (some [0, 6, 37])) aaf
def aah : J := .cond (.t 30) Z8 aag
def aai : J := .seq (.R [ba 31 .eql 2 6 1,
 aM 30 31] (some [0, 6, 30])) aah
def LM : J := .cond (.t 7) Z7 aai
def aaj : J := .block 0 (.seq (.seq (.R [ba 8 .eql 2 6 0,
 aM 7 8] (some [0, 6, 7])) Z6) LM)
def aak : J := .seq (.R [bk 2 false] (some [2])) .ret
def aal : J := .seq (.seq (.R [ae 3 0,
 gZ 4 3,
 a1 5 230 4 0,
 aO 6 2 5] (some [0, 6])) aaj) aak
def aam : J := .seq (.R [bk 2 false] (some [0])) aal
theorem aan : bj ⟨73, [0]⟩ (Tryz.f275.body.getD .skip) = some aam.strip := by kernel_rfl
def aao : J := .cond (.t 7) .skip (.exit 0)
def aap : J := .R [ae 15 1,
 ba 16 .add 2 15 1,
 aM 1 16] (some [0, 1, 5])
def aaq : J := .block 1 (.seq (.R [ae 8 5,
 ae 9 0,
 ae 10 1,
 cM 11 156 9 10,
 d_ 12 274 11,
 ba 13 .sub 2 12 1,
 bX 14 .add 2 8 13,
 aM 5 14] (some [0, 1, 5])) aap)
def LN : J := .seq (.seq (.R [ae 6 5,
 ba 7 .gtr 2 6 0] (some [0, 1, 5, 7])) aao) aaq
def aar : J := .seq (.R [ae 17 1,
 aM 4 17] (some [4])) .ret
def aas : J := .seq (.block 0 (.loop LN)) aar
def aat : J := .seq (.R [bf 5 1] (some [0, 1, 5])) aas
def aau : J := .seq (.R [bf 4 0] (some [0, 1])) aat
theorem aav : bj ⟨18, [0]⟩ (Tryz.f232.body.getD .skip) = some aau.strip := by kernel_rfl
def aaw : J := .cond (.t 13) .skip (.exit 0)
def aax : J := .R [ae 35 5,
 ba 36 .add 2 35 1,
 aM 5 36] (some [0, 1, 5, 6])
def aay : J := .cond (.t 34) aax .skip
def LO : J := .R [ae 14 6,
 ba 15 .add 2 14 1,
 aM 6 15] (some [0, 1, 5, 6])
def aaz : J := .seq (.block 1 (.seq (.R [ae 16 0,
 gZ 17 16,
 a1 18 158 17 2,
 aO 19 156 18,
 ae 20 6,
 cM 21 156 19 20,
 a1 22 230 21 0,
 aO 23 2 22,
 ba 24 .eql 2 23 4,
 ae 25 24,
 ⟨some 26, .cj (.t 0), some (25, true)⟩,
 ⟨some 27, .fC (.t 26), some (25, true)⟩,
 ⟨some 28, .cB 158 (.t 27) 2, some (25, true)⟩,
 ⟨some 29, .b4 156 (.t 28), some (25, true)⟩,
 ⟨some 30, .cj (.t 6), some (25, true)⟩,
 ⟨some 31, .call (.f 232) [(.t 29), (.t 30)], some (25, true)⟩,
 ⟨some 32, .cj (.t 1), some (25, true)⟩,
 ⟨some 33, .b1 .gtr 2 (.t 31) (.t 32), some (25, true)⟩,
 ro 34 (.pick (.t 25) (.t 33) (.c (.bool false)))] (some [0, 1, 5, 6, 34])) aay)) LO
def LP : J := .seq (.seq (.R [ae 11 6,
 ae 12 1,
 bX 13 .lss 2 11 12] (some [0, 1, 5, 6, 13])) aaw) aaz
def aaA : J := .block 0 (.loop LP)
def aaB : J := .seq (.R [ae 37 5,
 aM 4 37] (some [4])) .ret
def aaC : J := .seq (.seq (.R [bf 6 0] (some [0, 1, 5, 6])) aaA) aaB
def aaD : J := .seq (.R [ae 7 0,
 gZ 8 7,
 a1 9 158 8 1,
 aO 10 2 9,
 aM 5 10] (some [0, 1, 5])) aaC
def aaE : J := .seq (.R [bf 4 0] (some [0, 1])) aaD
theorem aaF : bj ⟨38, [0, 1]⟩ (Tryz.f159.body.getD .skip) = some aaE.strip := by kernel_rfl
def aaG : J := .seq (.R [ae 11 0,
 gZ 12 11,
 a1 13 278 12 1,
 aO 14 2 13,
 ro 15 (.call (.f 115) [(.t 14), (.c (.int .i64 0)), (.c (.int .i64 63))]),
 aM 4 15] (some [4])) .ret
def aaH : J := .seq (.R [ae 18 0,
 gZ 19 18,
 a1 20 278 19 1,
 aO 21 2 20,
 ae 22 1,
 ba 23 .sub 2 22 1,
 ro 24 (.call (.f 115) [(.t 21), (.c (.int .i64 0)), (.t 23)]),
 aM 4 24] (some [4])) .ret
def aaI : J := .seq (.R [ae 27 0,
 gZ 28 27,
 a1 29 278 28 1,
 aO 30 2 29,
 ro 31 (.call (.f 115) [(.t 30), (.c (.int .i64 0)), (.c (.int .i64 8))]),
 aM 4 31] (some [4])) .ret
def aaJ : J := .seq (.R [ae 34 0,
 gZ 35 34,
 a1 36 278 35 1,
 aO 37 2 36,
 ba 38 .eql 2 37 0,
 aM 4 38] (some [4])) .ret
def aaK : J := .cond (.t 32) aaJ .skip
def aaL : J := .seq (.R [ba 33 .eql 2 8 3,
 aM 32 33] (some [0, 32])) aaK
def aaM : J := .cond (.t 25) aaI aaL
def aaN : J := .seq (.R [ba 26 .eql 2 8 2,
 aM 25 26] (some [0, 8, 25])) aaM
def aaO : J := .cond (.t 16) aaH aaN
def aaP : J := .seq (.R [ba 17 .eql 2 8 1,
 aM 16 17] (some [0, 1, 8, 16])) aaO
def aaQ : J := .cond (.t 9) aaG aaP
def aaR : J := .block 0 (.seq (.R [ba 10 .eql 2 8 0,
 aM 9 10] (some [0, 1, 8, 9])) aaQ)
def aaS : J := .seq (.R [bk 4 false] (some [4])) .ret
def aaT : J := .seq (.seq (.R [ae 5 0,
 gZ 6 5,
 a1 7 278 6 0,
 aO 8 2 7] (some [0, 1, 8])) aaR) aaS
def aaU : J := .seq (.R [bk 4 false] (some [0, 1])) aaT
theorem aaV : bj ⟨39, [0, 1]⟩ (Tryz.f251.body.getD .skip) = some aaU.strip := by kernel_rfl
def aaW : J := .seq (.R [bf 2 2] (some [2])) .ret
def aaX : J := .seq (.R [bf 2 1] (some [2])) .ret
def aaY : J := .cond (.t 9) aaX .skip
def aaZ : J := .seq (.R [ba 10 .eql 2 6 3,
 aM 9 10] (some [9])) aaY
def aa0 : J := .cond (.t 7) aaW aaZ
def aa1 : J := .block 0 (.seq (.R [ba 8 .eql 2 6 2,
 aM 7 8] (some [6, 7])) aa0)
def aa2 : J := .seq (.R [bf 2 0] (some [2])) .ret
def aa3 : J := .seq (.seq (.R [ae 3 0,
 gZ 4 3,
 a1 5 278 4 0,
 aO 6 2 5] (some [6])) aa1) aa2
def aa4 : J := .seq (.R [bf 2 0] (some [0])) aa3
theorem aa5 : bj ⟨11, [0]⟩ (Tryz.f252.body.getD .skip) = some aa4.strip := by kernel_rfl
def aa6 : J := .seq (.R [bk 6 false] (some [6])) .ret
def aa7 : J := .cond (.t 12) aa6 .skip
def aa8 : J := .cond (.t 16) .skip (.exit 0)
def aa9 : J := .seq (.R [bk 6 false] (some [6])) .ret
def aa_ : J := .cond (.t 28) aa9 .skip
def aba : J := .R [ae 29 7,
 ae 30 0,
 ae 31 8,
 cM 32 186 30 31,
 d_ 33 252 32,
 ba 34 .sub 2 33 1,
 bX 35 .add 2 29 34,
 aM 7 35] (some [0, 1, 7, 8])
def abb : J := .R [ae 17 8,
 ba 18 .add 3 17 1,
 aM 8 18] (some [0, 1, 7, 8])
def abc : J := .seq (.block 1 (.seq (.seq (.R [ae 19 7,
 ba 20 .eql 2 19 0,
 ae 21 20,
 ⟨some 22, .cj (.t 0), some (21, false)⟩,
 ⟨some 23, .cj (.t 8), some (21, false)⟩,
 ⟨some 24, .e6 186 (.t 22) (.t 23), some (21, false)⟩,
 ⟨some 25, .cj (.t 1), some (21, false)⟩,
 ⟨some 26, .call (.f 251) [(.t 24), (.t 25)], some (21, false)⟩,
 ⟨some 27, .un .not (.t 26), some (21, false)⟩,
 ro 28 (.pick (.t 21) (.c (.bool true)) (.t 27))] (some [0, 1, 7, 8, 28])) aa_) aba)) abb
def LQ : J := .seq (.seq (.R [ae 13 8,
 ae 14 0,
 bV 15 186 14,
 bX 16 .lss 3 13 15] (some [0, 1, 7, 8, 16])) aa8) abc
def abd : J := .block 0 (.loop LQ)
def abe : J := .seq (.R [ae 36 7,
 ba 37 .eql 2 36 0,
 aM 6 37] (some [6])) .ret
def abf : J := .seq (.seq (.R [bf 8 0] (some [0, 1, 7, 8])) abd) abe
def abg : J := .seq (.R [bf 7 1] (some [0, 1, 7])) abf
def abh : J := .seq (.seq (.R [ae 9 0,
 bV 10 186 9,
 ae 11 2,
 bX 12 .gtr 2 10 11] (some [0, 1, 12])) aa7) abg
def abj : J := .seq (.R [bk 6 false] (some [0, 1, 2])) abh
theorem abk : bj ⟨38, [0, 1, 2]⟩ (Tryz.f184.body.getD .skip) = some abj.strip := by kernel_rfl
def abl : J := .seq (.R [bf 6 2] (some [6])) .ret
def abm : J := .cond (.t 19) abl .skip
def abn : J := .seq (.R [bf 6 3] (some [6])) .ret
def LR : J := .cond (.t 28) abn .skip
def abo : J := .seq (.R [bf 6 4] (some [6])) .ret
def LS : J := .cond (.t 51) abo .skip
def abp : J := .seq (.R [bf 6 5] (some [6])) .ret
def abq : J := .cond (.t 69) abp .skip
def abr : J := .seq (.R [ae 59 8,
 ba 60 .gtr 2 59 2,
 ae 61 60,
 ⟨some 62, .cj (.t 8), some (61, false)⟩,
 ⟨some 63, .b1 .gtr 2 (.t 62) (.c (.int .i64 0)), some (61, false)⟩,
 ⟨some 64, .cj (.t 63), some (61, false)⟩,
 ⟨some 65, .cB 230 (.t 7) 2, some (64, true)⟩,
 ⟨some 66, .b4 9 (.t 65), some (64, true)⟩,
 ⟨some 67, .b1 .eql 9 (.t 66) (.c (.str [116, 97, 117])), some (64, true)⟩,
 ⟨some 68, .pick (.t 64) (.t 67) (.c (.bool false)), some (61, false)⟩,
 ro 69 (.pick (.t 61) (.c (.bool true)) (.t 68))] (some [1, 2, 7, 8, 69])) abq
def abt : J := .seq (.R [bf 6 5] (some [6])) .ret
def abu : J := .cond (.t 73) abt .skip
def abv : J := .seq (.R [ae 72 8,
 ba 73 .neq 2 72 1] (some [1, 2, 7, 8, 73])) abu
def abw : J := .seq (.R [bf 6 5] (some [6])) .ret
def abx : J := .cond (.t 83) abw .skip
def aby : J := .seq (.R [ae 76 8,
 ae 77 0,
 a1 78 230 7 1,
 aO 79 2 78,
 cM 80 72 77 79,
 a1 81 158 80 1,
 aO 82 2 81,
 bX 83 .neq 2 76 82] (some [1, 2, 7, 8, 83])) abx
def abz : J := .cond (.t 74) aby .skip
def abA : J := .seq (.R [ba 75 .eql 2 56 5,
 aM 74 75] (some [0, 1, 2, 7, 8, 74])) abz
def abB : J := .cond (.t 70) abv abA
def abC : J := .seq (.R [ba 71 .eql 2 56 3,
 aM 70 71] (some [0, 1, 2, 7, 8, 56, 70])) abB
def abD : J := .cond (.t 57) abr abC
def abE : J := .block 0 (.seq (.R [ba 58 .eql 2 56 1,
 aM 57 58] (some [0, 1, 2, 7, 8, 56, 57])) abD)
def abF : J := .seq (.R [bf 6 6] (some [6])) .ret
def LU : J := .cond (.t 102) abF .skip
def abG : J := .seq (.R [bf 6 7] (some [6])) .ret
def abH : J := .cond (.t 112) abG .skip
def abI : J := .cond (.t 115) .skip (.exit 1)
def abJ : J := .seq (.R [bf 6 8] (some [6])) .ret
def abK : J := .cond (.t 125) abJ .skip
def abL : J := .R [ae 116 10,
 ba 117 .add 2 116 1,
 aM 10 117] (some [7, 8, 9, 10])
def abM : J := .seq (.block 2 (.seq (.R [a1 118 230 7 3,
 aO 119 187 118,
 ae 120 10,
 cM 121 187 119 120,
 aO 122 186 121,
 ae 123 9,
 ro 124 (.call (.f 184) [(.t 122), (.t 123), (.c (.int .i64 15))]),
 eu 125 124] (some [7, 8, 9, 10, 125])) abK)) abL
def LV : J := .seq (.seq (.R [ae 113 10,
 ae 114 8,
 bX 115 .lss 2 113 114] (some [7, 8, 9, 10, 115])) abI) abM
def abN : J := .block 1 (.loop LV)
def abO : J := .seq (.R [bf 6 0] (some [6])) .ret
def abP : J := .seq (.seq (.R [bf 10 0] (some [7, 8, 9, 10])) abN) abO
def abQ : J := .seq (.seq (.R [a1 106 230 7 0,
 aO 107 2 106,
 ba 108 .eql 2 107 4,
 ae 109 108,
 ⟨some 110, .cj (.t 9), some (109, true)⟩,
 ⟨some 111, .b1 .geq 2 (.t 110) (.c (.int .i64 6)), some (109, true)⟩,
 ro 112 (.pick (.t 109) (.t 111) (.c (.bool false)))] (some [7, 8, 9, 112])) abH) abP
def abR : J := .seq (.R [ae 103 1,
 ae 104 2,
 ej 105 159 103 104,
 aM 9 105] (some [7, 8, 9])) abQ
def LW : J := .seq (.seq (.R [a1 84 230 7 0,
 aO 85 2 84,
 ba 86 .eql 2 85 5,
 ae 87 86,
 ⟨some 88, .cj (.t 2), some (87, true)⟩,
 ⟨some 89, .b1 .eql 2 (.t 88) (.c (.int .i64 0)), some (87, true)⟩,
 ⟨some 90, .cj (.t 89), some (87, true)⟩,
 ⟨some 91, .cj (.t 1), some (90, false)⟩,
 ⟨some 92, .fC (.t 91), some (90, false)⟩,
 ⟨some 93, .cB 158 (.t 92) 2, some (90, false)⟩,
 ⟨some 94, .b4 156 (.t 93), some (90, false)⟩,
 ⟨some 95, .cj (.t 2), some (90, false)⟩,
 ⟨some 96, .b1 .sub 2 (.t 95) (.c (.int .i64 1)), some (90, false)⟩,
 ⟨some 97, .e6 156 (.t 94) (.t 96), some (90, false)⟩,
 ⟨some 98, .cB 230 (.t 97) 0, some (90, false)⟩,
 ⟨some 99, .b4 2 (.t 98), some (90, false)⟩,
 ⟨some 100, .b1 .neq 2 (.t 99) (.c (.int .i64 1)), some (90, false)⟩,
 ⟨some 101, .pick (.t 90) (.c (.bool true)) (.t 100), some (87, true)⟩,
 ro 102 (.pick (.t 87) (.t 101) (.c (.bool false)))] (some [1, 2, 7, 8, 102])) LU) abR
def abS : J := .seq (.seq (.R [a1 55 230 7 0,
 aO 56 2 55] (some [0, 1, 2, 7, 8, 56])) abE) LW
def abT : J := .seq (.R [a1 52 230 7 3,
 aO 53 187 52,
 bV 54 187 53,
 aM 8 54] (some [0, 1, 2, 7, 8])) abS
def abU : J := .seq (.seq (.R [a1 29 230 7 0,
 aO 30 2 29,
 ba 31 .eql 2 30 4,
 ae 32 31,
 ⟨some 33, .cB 230 (.t 7) 1, some (32, true)⟩,
 ⟨some 34, .b4 2 (.t 33), some (32, true)⟩,
 ⟨some 35, .call (.f 115) [(.t 34), (.c (.int .i64 1)), (.c (.int .i64 7))], some (32, true)⟩,
 ⟨some 36, .un .not (.t 35), some (32, true)⟩,
 ro 37 (.pick (.t 32) (.t 36) (.c (.bool false))),
 ae 38 37,
 ⟨some 39, .cB 230 (.t 7) 0, some (38, false)⟩,
 ⟨some 40, .b4 2 (.t 39), some (38, false)⟩,
 ⟨some 41, .b1 .eql 2 (.t 40) (.c (.int .i64 5)), some (38, false)⟩,
 ⟨some 42, .cj (.t 41), some (38, false)⟩,
 ⟨some 43, .cB 230 (.t 7) 1, some (42, true)⟩,
 ⟨some 44, .b4 2 (.t 43), some (42, true)⟩,
 ⟨some 45, .cj (.t 0), some (42, true)⟩,
 ⟨some 46, .len 72 (.t 45), some (42, true)⟩,
 ⟨some 47, .b1 .sub 2 (.t 46) (.c (.int .i64 1)), some (42, true)⟩,
 ⟨some 48, .call (.f 115) [(.t 44), (.c (.int .i64 0)), (.t 47)], some (42, true)⟩,
 ⟨some 49, .un .not (.t 48), some (42, true)⟩,
 ⟨some 50, .pick (.t 42) (.t 49) (.c (.bool false)), some (38, false)⟩,
 ro 51 (.pick (.t 38) (.c (.bool true)) (.t 50))] (some [0, 1, 2, 7, 51])) LS) abT
def abV : J := .seq (.seq (.R [a1 20 230 7 0,
 aO 21 2 20,
 ba 22 .eql 2 21 1,
 ae 23 22,
 ⟨some 24, .cB 230 (.t 7) 2, some (23, true)⟩,
 ⟨some 25, .b4 9 (.t 24), some (23, true)⟩,
 ⟨some 26, .call (.f 157) [(.t 25)], some (23, true)⟩,
 ⟨some 27, .un .not (.t 26), some (23, true)⟩,
 ro 28 (.pick (.t 23) (.t 27) (.c (.bool false)))] (some [0, 1, 2, 7, 28])) LR) abU
def abW : J := .seq (.seq (.R [d_ 18 275 7,
 eu 19 18] (some [0, 1, 2, 7, 19])) abm) abV
def abX : J := .seq (.R [ae 11 1,
 gZ 12 11,
 a1 13 158 12 2,
 aO 14 156 13,
 ae 15 2,
 cM 16 156 14 15,
 aO 17 230 16,
 iA 7 230,
 eN 230 7 17] (some [0, 1, 2, 7])) abW
def abY : J := .seq (.R [bf 6 0] (some [0, 1, 2])) abX
theorem abZ : bj ⟨126, [0, 1, 2]⟩ (Tryz.f231.body.getD .skip) = some abY.strip := by kernel_rfl
def ab0 : J := .seq (.R [bf 4 0,
 bf 5 1] (some [4, 5])) .ret
def ab1 : J := .cond (.t 13) ab0 .skip
def ab2 : J := .cond (.t 20) .skip (.exit 0)
def ab3 : J := .seq (.R [ae 29 6,
 ae 30 7,
 aM 4 29,
 aM 5 30] (some [4, 5])) .ret
def ab4 : J := .cond (.t 28) ab3 .skip
def ab5 : J := .seq (.R [ae 27 7,
 ba 28 .gtr 2 27 0] (some [0, 1, 6, 7, 28])) ab4
def ab6 : J := .R [ae 21 6,
 ba 22 .add 2 21 1,
 aM 6 22] (some [0, 1, 6])
def ab7 : J := .seq (.block 1 (.seq (.R [ae 23 0,
 ae 24 1,
 ae 25 6,
 KL 26 231 23 24 25,
 aM 7 26] (some [0, 1, 6, 7])) ab5)) ab6
def LX : J := .seq (.seq (.R [ae 14 6,
 ae 15 1,
 gZ 16 15,
 a1 17 158 16 2,
 aO 18 156 17,
 bV 19 156 18,
 bX 20 .lss 2 14 19] (some [0, 1, 6, 20])) ab2) ab7
def ab8 : J := .block 0 (.loop LX)
def ab9 : J := .seq (.R [bf 4 0,
 bf 5 0] (some [4, 5])) .ret
def ab_ : J := .seq (.seq (.R [bf 6 0] (some [0, 1, 6])) ab8) ab9
def aca : J := .seq (.seq (.R [ae 8 1,
 gZ 9 8,
 a1 10 158 9 2,
 aO 11 156 10,
 d_ 12 230 11,
 eu 13 12] (some [0, 1, 13])) ab1) ab_
def acb : J := .seq (.R [bf 4 0,
 bf 5 0] (some [0, 1])) aca
theorem acd : bj ⟨31, [0, 1]⟩ (Tryz.f158.body.getD .skip) = some acb.strip := by kernel_rfl
def ace : J := .seq (.R [bk 2 false] (some [2])) .ret
def acf : J := .cond (.t 15) ace .skip
def acg : J := .cond (.t 19) .skip (.exit 0)
def ach : J := .seq (.R [bk 2 false] (some [2])) .ret
def aci : J := .cond (.t 37) ach .skip
def acj : J := .cond (.t 40) .skip (.exit 2)
def ack : J := .seq (.R [bk 2 false] (some [2])) .ret
def acm : J := .cond (.t 53) ack .skip
def acn : J := .R [ae 41 4,
 ba 42 .add 3 41 1,
 aM 4 42] (some [0, 3, 4])
def aco : J := .seq (.block 3 (.seq (.fO [ae 43 0,
 ae 44 4,
 cM 45 72 43 44,
 a1 46 158 45 0,
 aO 47 9 46,
 ae 48 0,
 ae 49 3,
 cM 50 72 48 49,
 a1 51 158 50 0,
 aO 52 9 51,
 bX 53 .eql 9 47 52] [[], [], [0, 1], [2], [3], [], [], [5, 6], [7], [8], [4, 9]] (some [0, 3, 4, 53])) acm)) acn
def LY : J := .seq (.seq (.R [ae 38 4,
 ae 39 3,
 bX 40 .lss 3 38 39] (some [0, 3, 4, 40])) acj) aco
def acp : J := .block 2 (.loop LY)
def acq : J := .seq (.R [bf 4 0] (some [0, 3, 4])) acp
def acr : J := .R [ae 20 3,
 ba 21 .add 3 20 1,
 aM 3 21] (some [0, 3])
def acs : J := .seq (.block 1 (.seq (.seq (.R [ae 22 0,
 ae 23 3,
 cM 24 72 22 23,
 a1 25 158 24 0,
 aO 26 9 25,
 d_ 27 157 26,
 eu 28 27,
 ae 29 28,
 ⟨some 30, .cj (.t 0), some (29, false)⟩,
 ⟨some 31, .cj (.t 3), some (29, false)⟩,
 ⟨some 32, .e6 72 (.t 30) (.t 31), some (29, false)⟩,
 ⟨some 33, .cB 158 (.t 32) 1, some (29, false)⟩,
 ⟨some 34, .b4 2 (.t 33), some (29, false)⟩,
 ⟨some 35, .call (.f 115) [(.t 34), (.c (.int .i64 0)), (.c (.int .i64 3))], some (29, false)⟩,
 ⟨some 36, .un .not (.t 35), some (29, false)⟩,
 ro 37 (.pick (.t 29) (.c (.bool true)) (.t 36))] (some [0, 3, 37])) aci) acq)) acr
def LZ : J := .seq (.seq (.R [ae 16 3,
 ae 17 0,
 bV 18 72 17,
 bX 19 .lss 3 16 18] (some [0, 3, 19])) acg) acs
def acu : J := .block 0 (.loop LZ)
def acv : J := .cond (.t 57) .skip (.exit 4)
def acw : J := .seq (.R [bk 2 false] (some [2])) .ret
def acx : J := .cond (.t 69) acw .skip
def acy : J := .seq (.R [ae 68 7,
 ba 69 .gtr 2 68 0] (some [0, 5, 69])) acx
def acz : J := .R [ae 58 5,
 ba 59 .add 3 58 1,
 aM 5 59] (some [0, 5])
def acA : J := .seq (.block 5 (.seq (.R [ae 61 0,
 ae 62 0,
 ae 63 5,
 cM 64 72 62 63,
 ej 65 158 61 64,
 ae 60 65,
 zs 66 60 0,
 zs 67 60 1,
 aM 6 66,
 aM 7 67] (some [0, 5, 7])) acy)) acz
def L0 : J := .seq (.seq (.R [ae 54 5,
 ae 55 0,
 bV 56 72 55,
 bX 57 .lss 3 54 56] (some [0, 5, 57])) acv) acA
def acB : J := .block 4 (.loop L0)
def acC : J := .seq (.R [bk 2 true] (some [2])) .ret
def acD : J := .seq (.seq (.R [bf 5 0] (some [0, 5])) acB) acC
def acE : J := .seq (.seq (.R [bf 3 0] (some [0, 3])) acu) acD
def acF : J := .seq (.seq (.R [ae 8 0,
 bV 9 72 8,
 ba 10 .eql 3 9 0,
 ae 11 10,
 ⟨some 12, .cj (.t 0), some (11, false)⟩,
 ⟨some 13, .len 72 (.t 12), some (11, false)⟩,
 ⟨some 14, .b1 .gtr 3 (.t 13) (.c (.int .i64 4)), some (11, false)⟩,
 ro 15 (.pick (.t 11) (.c (.bool true)) (.t 14))] (some [0, 15])) acf) acE
def acG : J := .seq (.R [bk 2 false] (some [0])) acF
theorem acH : bj ⟨70, [0]⟩ (Tryz.f95.body.getD .skip) = some acG.strip := by kernel_rfl
def acI : J := .cond (.t 7) .skip (.exit 0)
def acJ : J := .seq (.R [bk 2 false] (some [2])) .ret
def acK : J := .cond (.t 15) acJ .skip
def acL : J := .R [ae 8 3,
 ba 9 .add 3 8 1,
 aM 3 9] (some [0, 3])
def acM : J := .seq (.block 1 (.seq (.R [ae 10 0,
 ae 11 3,
 cM 12 22 10 11,
 aO 13 2 12,
 ro 14 (.call (.f 115) [(.t 13), (.c (.int .i64 0)), (.c (.int .i64 63))]),
 eu 15 14] (some [0, 3, 15])) acK)) acL
def L1 : J := .seq (.seq (.R [ae 4 3,
 ae 5 0,
 bV 6 22 5,
 bX 7 .lss 3 4 6] (some [0, 3, 7])) acI) acM
def acN : J := .block 0 (.loop L1)
def acO : J := .seq (.R [bk 2 true] (some [2])) .ret
def acP : J := .seq (.seq (.R [bf 3 0] (some [0, 3])) acN) acO
def acQ : J := .seq (.R [bk 2 false] (some [0])) acP
theorem acR : bj ⟨16, [0]⟩ (Tryz.f117.body.getD .skip) = some acQ.strip := by kernel_rfl
def acS : J := .seq (.R [bk 2 false] (some [2])) .ret
def acT : J := .cond (.t 18) acS .skip
def acU : J := .cond (.t 25) .skip (.exit 0)
def acV : J := .seq (.R [bk 2 false] (some [2])) .ret
def acW : J := .cond (.t 44) acV .skip
def acX : J := .seq (.R [bk 2 false] (some [2])) .ret
def acY : J := .cond (.t 63) acX .skip
def acZ : J := .seq (.fO [a1 45 248 4 1,
 aO 46 22 45,
 bV 47 22 46,
 ae 48 0,
 gZ 49 48,
 a1 50 94 49 0,
 aO 51 72 50,
 a1 52 248 4 0,
 aO 53 2 52,
 cM 54 72 51 53,
 a1 55 158 54 1,
 aO 56 2 55,
 bX 57 .neq 2 47 56,
 ae 58 57,
 ⟨some 59, .cB 248 (.t 4) 1, some (58, false)⟩,
 ⟨some 60, .b4 22 (.t 59), some (58, false)⟩,
 ⟨some 61, .call (.f 117) [(.t 60)], some (58, false)⟩,
 ⟨some 62, .un .not (.t 61), some (58, false)⟩,
 ro 63 (.pick (.t 58) (.c (.bool true)) (.t 62))] [[], [0], [1], [], [3], [4], [5], [], [7], [6, 8], [9], [10], [2, 11], [12], [13], [14, 13], [15, 13, 13], [16, 13], [13, 17]] (some [0, 3, 63])) acY
def ac0 : J := .seq (.seq (.fO [a1 35 248 4 0,
 aO 36 2 35,
 ae 37 0,
 gZ 38 37,
 a1 39 94 38 0,
 aO 40 72 39,
 bV 41 72 40,
 ba 42 .sub 2 41 1,
 ro 43 (.call (.f 115) [(.t 36), (.c (.int .i64 0)), (.t 42)]),
 eu 44 43] [[], [0], [], [2], [3], [4], [5], [6], [1, 7], [8]] (some [0, 3, 4, 44])) acW) acZ
def ac1 : J := .R [ae 26 3,
 ba 27 .add 3 26 1,
 aM 3 27] (some [0, 3])
def ac2 : J := .seq (.block 1 (.seq (.R [ae 28 0,
 gZ 29 28,
 a1 30 94 29 1,
 aO 31 91 30,
 ae 32 3,
 cM 33 91 31 32,
 aO 34 248 33,
 iA 4 248,
 eN 248 4 34] (some [0, 3, 4])) ac0)) ac1
def L2 : J := .seq (.seq (.R [ae 19 3,
 ae 20 0,
 gZ 21 20,
 a1 22 94 21 1,
 aO 23 91 22,
 bV 24 91 23,
 bX 25 .lss 3 19 24] (some [0, 3, 25])) acU) ac2
def ac3 : J := .block 0 (.loop L2)
def ac4 : J := .seq (.R [bk 2 true] (some [2])) .ret
def ac5 : J := .seq (.seq (.R [bf 3 0] (some [0, 3])) ac3) ac4
def ac6 : J := .seq (.seq (.R [ae 5 0,
 gZ 6 5,
 a1 7 94 6 1,
 aO 8 91 7,
 bV 9 91 8,
 ba 10 .eql 3 9 0,
 ae 11 10,
 ⟨some 12, .cj (.t 0), some (11, false)⟩,
 ⟨some 13, .fC (.t 12), some (11, false)⟩,
 ⟨some 14, .cB 94 (.t 13) 1, some (11, false)⟩,
 ⟨some 15, .b4 91 (.t 14), some (11, false)⟩,
 ⟨some 16, .len 91 (.t 15), some (11, false)⟩,
 ⟨some 17, .b1 .gtr 3 (.t 16) (.c (.int .i64 3)), some (11, false)⟩,
 ro 18 (.pick (.t 11) (.c (.bool true)) (.t 17))] (some [0, 18])) acT) ac5
def ac7 : J := .seq (.R [bk 2 false] (some [0])) ac6
theorem ac8 : bj ⟨64, [0]⟩ (Tryz.f286.body.getD .skip) = some ac7.strip := by kernel_rfl
def ac9 : J := .seq (.R [ae 3 0,
 d_ 4 157 3,
 ae 5 4,
 ⟨some 6, .cj (.t 0), some (5, true)⟩,
 ⟨some 7, .b1 .neq 9 (.t 6) (.c (.str [116, 97, 117])), some (5, true)⟩,
 ro 8 (.pick (.t 5) (.t 7) (.c (.bool false))),
 aM 2 8] (some [2])) .ret
def ac_ : J := .seq (.R [bk 2 false] (some [0])) ac9
theorem ada : bj ⟨9, [0]⟩ (Tryz.f185.body.getD .skip) = some ac_.strip := by kernel_rfl
def adb : J := .seq (.R [bk 2 false] (some [2])) .ret
def ade : J := .cond (.t 8) adb .skip
def adf : J := .cond (.t 12) .skip (.exit 0)
def adg : J := .seq (.R [bk 2 false] (some [2])) .ret
def adh : J := .cond (.t 41) adg .skip
def adi : J := .seq (.R [bk 2 false] (some [2])) .ret
def adj : J := .cond (.t 76) adi .skip
def adk : J := .cond (.t 80) .skip (.exit 2)
def adl : J := .seq (.R [bk 2 false] (some [2])) .ret
def adm : J := .cond (.t 100) adl .skip
def adn : J := .R [ae 81 5,
 ba 82 .add 3 81 1,
 aM 5 82] (some [0, 3, 4, 5])
def ado : J := .seq (.block 3 (.seq (.fO [ae 83 0,
 ae 84 5,
 cM 85 92 83 84,
 a1 86 250 85 0,
 aO 87 9 86,
 a1 88 250 4 2,
 aO 89 9 88,
 bX 90 .eql 9 87 89,
 ae 91 90,
 ⟨some 92, .cj (.t 0), some (91, false)⟩,
 ⟨some 93, .cj (.t 5), some (91, false)⟩,
 ⟨some 94, .e6 92 (.t 92) (.t 93), some (91, false)⟩,
 ⟨some 95, .cB 250 (.t 94) 1, some (91, false)⟩,
 ⟨some 96, .b4 9 (.t 95), some (91, false)⟩,
 ⟨some 97, .cB 250 (.t 4) 2, some (91, false)⟩,
 ⟨some 98, .b4 9 (.t 97), some (91, false)⟩,
 ⟨some 99, .b1 .eql 9 (.t 96) (.t 98), some (91, false)⟩,
 ro 100 (.pick (.t 91) (.c (.bool true)) (.t 99))] [[], [], [0, 1], [2], [3], [], [5], [4, 6], [7], [8], [8], [9, 10, 8], [11, 8], [12, 8], [8], [14, 8], [13, 15, 8], [8, 16]] (some [0, 3, 4, 5, 100])) adm)) adn
def Fo : J := .seq (.seq (.R [ae 77 5,
 ae 78 0,
 bV 79 92 78,
 bX 80 .lss 3 77 79] (some [0, 3, 4, 5, 80])) adk) ado
def adp : J := .block 2 (.loop Fo)
def adq : J := .seq (.R [bf 5 0] (some [0, 3, 4, 5])) adp
def adr : J := .seq (.seq (.fO [ae 42 3,
 ba 43 .gtr 3 42 0,
 ae 44 43,
 ⟨some 45, .cj (.t 0), some (44, true)⟩,
 ⟨some 46, .cj (.t 3), some (44, true)⟩,
 ⟨some 47, .b1 .sub 3 (.t 46) (.c (.int .i64 1)), some (44, true)⟩,
 ⟨some 48, .e6 92 (.t 45) (.t 47), some (44, true)⟩,
 ⟨some 49, .cB 250 (.t 48) 0, some (44, true)⟩,
 ⟨some 50, .b4 9 (.t 49), some (44, true)⟩,
 ⟨some 51, .cB 250 (.t 4) 0, some (44, true)⟩,
 ⟨some 52, .b4 9 (.t 51), some (44, true)⟩,
 ⟨some 53, .b1 .gtr 9 (.t 50) (.t 52), some (44, true)⟩,
 ⟨some 54, .cj (.t 53), some (44, true)⟩,
 ⟨some 55, .cj (.t 0), some (54, false)⟩,
 ⟨some 56, .cj (.t 3), some (54, false)⟩,
 ⟨some 57, .b1 .sub 3 (.t 56) (.c (.int .i64 1)), some (54, false)⟩,
 ⟨some 58, .e6 92 (.t 55) (.t 57), some (54, false)⟩,
 ⟨some 59, .cB 250 (.t 58) 0, some (54, false)⟩,
 ⟨some 60, .b4 9 (.t 59), some (54, false)⟩,
 ⟨some 61, .cB 250 (.t 4) 0, some (54, false)⟩,
 ⟨some 62, .b4 9 (.t 61), some (54, false)⟩,
 ⟨some 63, .b1 .eql 9 (.t 60) (.t 62), some (54, false)⟩,
 ⟨some 64, .cj (.t 63), some (54, false)⟩,
 ⟨some 65, .cj (.t 0), some (64, true)⟩,
 ⟨some 66, .cj (.t 3), some (64, true)⟩,
 ⟨some 67, .b1 .sub 3 (.t 66) (.c (.int .i64 1)), some (64, true)⟩,
 ⟨some 68, .e6 92 (.t 65) (.t 67), some (64, true)⟩,
 ⟨some 69, .cB 250 (.t 68) 1, some (64, true)⟩,
 ⟨some 70, .b4 9 (.t 69), some (64, true)⟩,
 ⟨some 71, .cB 250 (.t 4) 1, some (64, true)⟩,
 ⟨some 72, .b4 9 (.t 71), some (64, true)⟩,
 ⟨some 73, .b1 .geq 9 (.t 70) (.t 72), some (64, true)⟩,
 ⟨some 74, .pick (.t 64) (.t 73) (.c (.bool false)), some (54, false)⟩,
 ⟨some 75, .pick (.t 54) (.c (.bool true)) (.t 74), some (44, true)⟩,
 ro 76 (.pick (.t 44) (.t 75) (.c (.bool false)))] [[], [0], [1], [2], [2], [4, 2], [3, 5, 2], [6, 2], [7, 2], [2], [9, 2], [8, 10, 2], [11, 2, 2], [12], [12], [14, 12], [13, 15, 12], [16, 12], [17, 12], [12], [19, 12], [18, 20, 12], [21, 12, 12], [22], [22], [24, 22], [23, 25, 22], [26, 22], [27, 22], [22], [29, 22], [28, 30, 22], [22, 31, 12], [12, 32, 2], [2, 33]] (some [0, 3, 4, 76])) adj) adq
def ads : J := .seq (.seq (.R [a1 19 250 4 0,
 aO 20 9 19,
 d_ 21 185 20,
 eu 22 21,
 ae 23 22,
 ⟨some 24, .cB 250 (.t 4) 1, some (23, false)⟩,
 ⟨some 25, .b4 9 (.t 24), some (23, false)⟩,
 ⟨some 26, .call (.f 185) [(.t 25)], some (23, false)⟩,
 ⟨some 27, .un .not (.t 26), some (23, false)⟩,
 ro 28 (.pick (.t 23) (.c (.bool true)) (.t 27)),
 ae 29 28,
 ⟨some 30, .cB 250 (.t 4) 2, some (29, false)⟩,
 ⟨some 31, .b4 9 (.t 30), some (29, false)⟩,
 ⟨some 32, .call (.f 185) [(.t 31)], some (29, false)⟩,
 ⟨some 33, .un .not (.t 32), some (29, false)⟩,
 ro 34 (.pick (.t 29) (.c (.bool true)) (.t 33)),
 ae 35 34,
 ⟨some 36, .cB 250 (.t 4) 0, some (35, false)⟩,
 ⟨some 37, .b4 9 (.t 36), some (35, false)⟩,
 ⟨some 38, .cB 250 (.t 4) 1, some (35, false)⟩,
 ⟨some 39, .b4 9 (.t 38), some (35, false)⟩,
 ⟨some 40, .b1 .gtr 9 (.t 37) (.t 39), some (35, false)⟩,
 ro 41 (.pick (.t 35) (.c (.bool true)) (.t 40))] (some [0, 3, 4, 41])) adh) adr
def adt : J := .R [ae 13 3,
 ba 14 .add 3 13 1,
 aM 3 14] (some [0, 3])
def adu : J := .seq (.block 1 (.seq (.R [ae 15 0,
 ae 16 3,
 cM 17 92 15 16,
 aO 18 250 17,
 iA 4 250,
 eN 250 4 18] (some [0, 3, 4])) ads)) adt
def L3 : J := .seq (.seq (.R [ae 9 3,
 ae 10 0,
 bV 11 92 10,
 bX 12 .lss 3 9 11] (some [0, 3, 12])) adf) adu
def adv : J := .block 0 (.loop L3)
def adw : J := .seq (.R [bk 2 true] (some [2])) .ret
def adx : J := .seq (.seq (.R [bf 3 0] (some [0, 3])) adv) adw
def ady : J := .seq (.seq (.R [ae 6 0,
 bV 7 92 6,
 ba 8 .gtr 3 7 6] (some [0, 8])) ade) adx
def adz : J := .seq (.R [bk 2 false] (some [0])) ady
theorem adA : bj ⟨101, [0]⟩ (Tryz.f287.body.getD .skip) = some adz.strip := by kernel_rfl
def adB : J := .cond (.t 7) .skip (.exit 0)
def adC : J := .seq (.R [bk 2 false] (some [2])) .ret
def adD : J := .cond (.t 15) adC .skip
def adE : J := .R [ae 8 3,
 ba 9 .add 3 8 1,
 aM 3 9] (some [0, 3])
def adF : J := .seq (.block 1 (.seq (.R [ae 10 0,
 ae 11 3,
 cM 12 49 10 11,
 aO 13 9 12,
 d_ 14 185 13,
 eu 15 14] (some [0, 3, 15])) adD)) adE
def L4 : J := .seq (.seq (.R [ae 4 3,
 ae 5 0,
 bV 6 49 5,
 bX 7 .lss 3 4 6] (some [0, 3, 7])) adB) adF
def adG : J := .block 0 (.loop L4)
def adH : J := .seq (.R [bk 2 true] (some [2])) .ret
def adI : J := .seq (.seq (.R [bf 3 0] (some [0, 3])) adG) adH
def adJ : J := .seq (.R [bk 2 false] (some [0])) adI
theorem adK : bj ⟨16, [0]⟩ (Tryz.f311.body.getD .skip) = some adJ.strip := by kernel_rfl
def adL : J := .seq (.R [bk 2 false] (some [2])) .ret
def adM : J := .cond (.t 11) adL .skip
def adN : J := .cond (.t 15) .skip (.exit 0)
def adO : J := .seq (.R [bk 2 false] (some [2])) .ret
def adP : J := .cond (.t 27) adO .skip
def adQ : J := .R [ae 16 3,
 ba 17 .add 3 16 1,
 aM 3 17] (some [0, 3])
def adR : J := .seq (.block 1 (.seq (.fO [ae 18 0,
 ae 19 3,
 ba 20 .sub 3 19 1,
 cM 21 49 18 20,
 aO 22 9 21,
 ae 23 0,
 ae 24 3,
 cM 25 49 23 24,
 aO 26 9 25,
 bX 27 .geq 9 22 26] [[], [], [1], [0, 2], [3], [], [], [5, 6], [7], [4, 8]] (some [0, 3, 27])) adP)) adQ
def L5 : J := .seq (.seq (.R [ae 12 3,
 ae 13 0,
 bV 14 49 13,
 bX 15 .lss 3 12 14] (some [0, 3, 15])) adN) adR
def adS : J := .block 0 (.loop L5)
def adT : J := .seq (.R [bk 2 true] (some [2])) .ret
def adU : J := .seq (.seq (.R [bf 3 1] (some [0, 3])) adS) adT
def adV : J := .seq (.seq (.R [ae 4 0,
 bV 5 49 4,
 ba 6 .gtr 3 5 12,
 ae 7 6,
 ⟨some 8, .cj (.t 0), some (7, false)⟩,
 ⟨some 9, .call (.f 311) [(.t 8)], some (7, false)⟩,
 ⟨some 10, .un .not (.t 9), some (7, false)⟩,
 ro 11 (.pick (.t 7) (.c (.bool true)) (.t 10))] (some [0, 11])) adM) adU
def adW : J := .seq (.R [bk 2 false] (some [0])) adV
theorem adX : bj ⟨28, [0]⟩ (Tryz.f288.body.getD .skip) = some adW.strip := by kernel_rfl
def adY : J := .seq (.R [bf 2 1] (some [2])) .ret
def adZ : J := .cond (.t 8) adY .skip
def ad0 : J := .seq (.R [bf 2 2] (some [2])) .ret
def ad1 : J := .cond (.t 11) ad0 .skip
def ad2 : J := .seq (.R [bf 2 3] (some [2])) .ret
def ad3 : J := .cond (.t 17) ad2 .skip
def ad4 : J := .seq (.R [bf 2 4] (some [2])) .ret
def ad5 : J := .cond (.t 23) ad4 .skip
def ad6 : J := .seq (.R [bf 2 5] (some [2])) .ret
def ad7 : J := .cond (.t 29) ad6 .skip
def ad8 : J := .seq (.R [bf 2 0] (some [2])) .ret
def ad9 : J := .seq (.seq (.R [ae 24 0,
 gZ 25 24,
 a1 26 94 25 4,
 aO 27 49 26,
 d_ 28 288 27,
 eu 29 28] (some [29])) ad7) ad8
def ad_ : J := .seq (.seq (.R [ae 18 0,
 gZ 19 18,
 a1 20 94 19 3,
 aO 21 49 20,
 d_ 22 288 21,
 eu 23 22] (some [0, 23])) ad5) ad9
def aea : J := .seq (.seq (.R [ae 12 0,
 gZ 13 12,
 a1 14 94 13 2,
 aO 15 92 14,
 d_ 16 287 15,
 eu 17 16] (some [0, 17])) ad3) ad_
def aeb : J := .seq (.seq (.R [ae 9 0,
 d_ 10 286 9,
 eu 11 10] (some [0, 11])) ad1) aea
def aec : J := .seq (.seq (.R [ae 3 0,
 gZ 4 3,
 a1 5 94 4 0,
 aO 6 72 5,
 d_ 7 95 6,
 eu 8 7] (some [0, 8])) adZ) aeb
def aed : J := .seq (.R [bf 2 0] (some [0])) aec
theorem aee : bj ⟨30, [0]⟩ (Tryz.f246.body.getD .skip) = some aed.strip := by kernel_rfl
def aef : J := .seq (.R [ae 3 0,
 d_ 4 246 3,
 ba 5 .eql 2 4 0,
 aM 2 5] (some [2])) .ret
def aeg : J := .seq (.R [bk 2 false] (some [0])) aef
theorem aeh : bj ⟨6, [0]⟩ (Tryz.f168.body.getD .skip) = some aeg.strip := by kernel_rfl
def aei : J := .seq (.R [bk 4 false] (some [4])) .ret
def aej : J := .cond (.t 14) aei .skip
def aek : J := .seq (.R [bk 4 false] (some [4])) .ret
def ael : J := .cond (.t 43) aek .skip
def aem : J := .seq (.fO [ae 44 1,
 gZ 45 44,
 a1 46 74 45 2,
 aO 47 22 46,
 bV 48 22 47,
 ae 49 1,
 gZ 50 49,
 a1 51 74 50 1,
 aO 52 2 51,
 ej 53 159 5 52,
 bX 54 .eql 2 48 53,
 ae 55 54,
 ⟨some 56, .cj (.t 1), some (55, true)⟩,
 ⟨some 57, .fC (.t 56), some (55, true)⟩,
 ⟨some 58, .cB 74 (.t 57) 2, some (55, true)⟩,
 ⟨some 59, .b4 22 (.t 58), some (55, true)⟩,
 ⟨some 60, .call (.f 117) [(.t 59)], some (55, true)⟩,
 ro 61 (.pick (.t 55) (.t 60) (.c (.bool false))),
 aM 4 61] [[], [0], [1], [2], [3], [], [5], [6], [7], [8], [4, 9], [10, 9], [11], [12, 11], [13, 11], [14, 11], [15, 11, 11], [11, 16], [17, 16, 0, 1, 2, 3, 4, 5, 6, 7, 8, 9, 10, 11, 12, 13, 14, 15, 16, 17]] (some [4])) .ret
def aen : J := .seq (.seq (.fO [ae 22 1,
 gZ 23 22,
 a1 24 74 23 1,
 aO 25 2 24,
 a1 26 158 5 2,
 aO 27 156 26,
 bV 28 156 27,
 ba 29 .sub 2 28 1,
 ro 30 (.call (.f 115) [(.t 25), (.c (.int .i64 0)), (.t 29)]),
 eu 31 30,
 ae 32 31,
 ⟨some 33, .cB 158 (.t 5) 2, some (32, false)⟩,
 ⟨some 34, .b4 156 (.t 33), some (32, false)⟩,
 ⟨some 35, .cj (.t 1), some (32, false)⟩,
 ⟨some 36, .fC (.t 35), some (32, false)⟩,
 ⟨some 37, .cB 74 (.t 36) 1, some (32, false)⟩,
 ⟨some 38, .b4 2 (.t 37), some (32, false)⟩,
 ⟨some 39, .e6 156 (.t 34) (.t 38), some (32, false)⟩,
 ⟨some 40, .cB 230 (.t 39) 0, some (32, false)⟩,
 ⟨some 41, .b4 2 (.t 40), some (32, false)⟩,
 ⟨some 42, .b1 .eql 2 (.t 41) (.c (.int .i64 5)), some (32, false)⟩,
 ro 43 (.pick (.t 32) (.c (.bool true)) (.t 42))] [[], [0], [1], [2], [], [4], [5], [6], [3, 7], [8], [9, 8], [10], [11, 10], [10], [13, 10], [14, 10], [15, 10], [12, 16, 10], [17, 10], [18, 10], [19, 10], [10, 20]] (some [1, 5, 43])) ael) aem
def aeo : J := .seq (.R [ae 15 0,
 ae 16 1,
 gZ 17 16,
 a1 18 74 17 0,
 aO 19 2 18,
 cM 20 72 15 19,
 aO 21 158 20,
 iA 5 158,
 eN 158 5 21] (some [1, 5])) aen
def aep : J := .seq (.seq (.R [ae 6 1,
 gZ 7 6,
 a1 8 74 7 0,
 aO 9 2 8,
 ae 10 0,
 bV 11 72 10,
 ba 12 .sub 2 11 1,
 ro 13 (.call (.f 115) [(.t 9), (.c (.int .i64 0)), (.t 12)]),
 eu 14 13] (some [0, 1, 14])) aej) aeo
def aeq : J := .seq (.R [bk 4 false] (some [0, 1])) aep
theorem aer : bj ⟨62, [0, 1]⟩ (Tryz.f96.body.getD .skip) = some aeq.strip := by kernel_rfl
def aes : J := .seq (.R [bk 4 false] (some [4])) .ret
def aet : J := .cond (.t 13) aes .skip
def aeu : J := .cond (.t 17) .skip (.exit 0)
def aev : J := .seq (.R [bk 4 false] (some [4])) .ret
def aew : J := .cond (.t 28) aev .skip
def aex : J := .R [ae 18 5,
 ba 19 .add 3 18 1,
 aM 5 19] (some [0, 1, 5])
def aey : J := .seq (.block 1 (.seq (.fO [ae 20 0,
 gZ 21 20,
 a1 22 94 21 0,
 aO 23 72 22,
 ae 24 1,
 ae 25 5,
 cM 26 96 24 25,
 ej 27 96 23 26,
 eu 28 27] [[], [0], [1], [2], [], [], [4, 5], [3, 6], [7]] (some [0, 1, 5, 28])) aew)) aex
def L6 : J := .seq (.seq (.R [ae 14 5,
 ae 15 1,
 bV 16 96 15,
 bX 17 .lss 3 14 16] (some [0, 1, 5, 17])) aeu) aey
def aez : J := .block 0 (.loop L6)
def aeA : J := .seq (.R [bk 4 true] (some [4])) .ret
def aeB : J := .seq (.seq (.R [bf 5 0] (some [0, 1, 5])) aez) aeA
def aeC : J := .seq (.seq (.R [ae 6 1,
 bV 7 96 6,
 ae 8 0,
 gZ 9 8,
 a1 10 94 9 1,
 aO 11 91 10,
 bV 12 91 11,
 bX 13 .neq 3 7 12] (some [0, 1, 13])) aet) aeB
def aeD : J := .seq (.R [bk 4 false] (some [0, 1])) aeC
theorem aeE : bj ⟨29, [0, 1]⟩ (Tryz.f169.body.getD .skip) = some aeD.strip := by kernel_rfl
def aeF : J := .seq (.R [bf 4 1] (some [4])) .ret
def aeG : J := .cond (.t 13) aeF .skip
def aeH : J := .seq (.R [bf 4 0] (some [4])) .ret
def aeI : J := .seq (.seq (.R [ae 5 0,
 d_ 6 168 5,
 eu 7 6,
 ae 8 7,
 ⟨some 9, .cj (.t 0), some (8, false)⟩,
 ⟨some 10, .cj (.t 1), some (8, false)⟩,
 ⟨some 11, .call (.f 169) [(.t 9), (.t 10)], some (8, false)⟩,
 ⟨some 12, .un .not (.t 11), some (8, false)⟩,
 ro 13 (.pick (.t 8) (.c (.bool true)) (.t 12))] (some [13])) aeG) aeH
def aeJ : J := .seq (.R [bf 4 0] (some [0, 1])) aeI
theorem aeK : bj ⟨14, [0, 1]⟩ (Tryz.f106.body.getD .skip) = some aeJ.strip := by kernel_rfl
def aeL : J := .seq (.R [ro 2 (.fN (.c (.str [48])))] (some [2])) .ret
def aeM : J := .cond (.t 9) aeL .skip
def aeN : J := .cond (.t 13) .skip (.exit 0)
def aeO : J := .R [ae 20 5,
 ro 21 (.un .neg (.t 20)),
 aM 5 21] (some [0, 3, 4, 5])
def aeP : J := .cond (.t 19) aeO .skip
def L7 : J := .R [ae 22 3,
 ae 23 5,
 ro 24 (.b1 .add 2 (.c (.int .i64 48)) (.t 23)),
 KM 25 2 5 24,
 ED 26 123 25,
 zt 27 123 123 22 26,
 aM 3 27] (some [0, 3, 4])
def aeQ : J := .seq (.seq (.R [ae 18 5,
 ba 19 .lss 2 18 0] (some [0, 3, 4, 5, 19])) aeP) L7
def aeR : J := .R [ae 14 4,
 ba 15 .quo 2 14 10,
 aM 4 15] (some [0, 3, 4])
def aeS : J := .seq (.block 1 (.seq (.R [ae 16 4,
 ba 17 .rem 2 16 10,
 aM 5 17] (some [0, 3, 4, 5])) aeQ)) aeR
def L8 : J := .seq (.seq (.R [ae 12 4,
 ba 13 .neq 2 12 0] (some [0, 3, 4, 13])) aeN) aeS
def aeT : J := .block 0 (.loop L8)
def aeU : J := .R [ae 30 3,
 ro 31 (.eD 123 1 [(0, (.c (.int .u8 45)))]),
 zt 32 123 123 30 31,
 aM 3 32] (some [3])
def aeV : J := .cond (.t 29) aeU .skip
def aeW : J := .cond (.t 38) .skip (.exit 2)
def aeX : J := .R [ae 39 7,
 ba 40 .sub 3 39 1,
 aM 7 40] (some [3, 6, 7])
def aeY : J := .seq (.block 3 (.R [ae 41 6,
 ae 42 3,
 ae 43 7,
 cM 44 123 42 43,
 aO 45 5 44,
 ED 46 123 45,
 zt 47 123 123 41 46,
 aM 6 47] (some [3, 6, 7]))) aeX
def L9 : J := .seq (.seq (.R [ae 37 7,
 ba 38 .geq 3 37 0] (some [3, 6, 7, 38])) aeW) aeY
def aeZ : J := .block 2 (.loop L9)
def ae0 : J := .seq (.R [ae 48 6,
 KM 49 123 9 48,
 aM 2 49] (some [2])) .ret
def ae1 : J := .seq (.seq (.R [ae 34 3,
 bV 35 123 34,
 ba 36 .sub 3 35 1,
 aM 7 36] (some [3, 6, 7])) aeZ) ae0
def L_ : J := .seq (.R [ro 33 (.eD 123 0 []),
 aM 6 33] (some [3, 6])) ae1
def ae2 : J := .seq (.seq (.R [ae 28 0,
 ba 29 .lss 2 28 0] (some [3, 29])) aeV) L_
def ae3 : J := .seq (.seq (.R [ae 11 0,
 aM 4 11] (some [0, 3, 4])) aeT) ae2
def ae4 : J := .seq (.R [ro 10 (.eD 123 0 []),
 aM 3 10] (some [0, 3])) ae3
def ae5 : J := .seq (.seq (.R [ae 8 0,
 ba 9 .eql 2 8 0] (some [0, 9])) aeM) ae4
def ae6 : J := .seq (.R [ro 2 (.fN (.c (.str [])))] (some [0])) ae5
theorem ae7 : bj ⟨50, [0]⟩ (Tryz.f170.body.getD .skip) = some ae6.strip := by kernel_rfl
def ae8 : J := .seq (.R [ro 2 (.fN (.c (.str [45])))] (some [2])) .ret
def ae9 : J := .cond (.t 7) ae8 .skip
def ae_ : J := .cond (.t 11) .skip (.exit 0)
def afa : J := .R [ae 16 3,
 ro 17 (.b1 .add 9 (.t 16) (.c (.str [44]))),
 aM 3 17] (some [0, 3, 4])
def afb : J := .cond (.t 15) afa .skip
def Ma : J := .R [ae 18 3,
 ae 19 0,
 ae 20 4,
 cM 21 22 19 20,
 aO 22 2 21,
 d_ 23 170 22,
 bX 24 .add 9 18 23,
 aM 3 24] (some [0, 3, 4])
def afc : J := .R [ae 12 4,
 ba 13 .add 3 12 1,
 aM 4 13] (some [0, 3, 4])
def afd : J := .seq (.block 1 (.seq (.seq (.R [ae 14 4,
 ba 15 .gtr 3 14 0] (some [0, 3, 4, 15])) afb) Ma)) afc
def Mb : J := .seq (.seq (.R [ae 8 4,
 ae 9 0,
 bV 10 22 9,
 bX 11 .lss 3 8 10] (some [0, 3, 4, 11])) ae_) afd
def afe : J := .block 0 (.loop Mb)
def aff : J := .seq (.R [ae 25 3,
 aM 2 25] (some [2])) .ret
def afg : J := .seq (.seq (.R [bf 4 0] (some [0, 3, 4])) afe) aff
def afh : J := .seq (.R [ro 3 (.fN (.c (.str [])))] (some [0, 3])) afg
def afi : J := .seq (.seq (.R [ae 5 0,
 bV 6 22 5,
 ba 7 .eql 3 6 0] (some [0, 7])) ae9) afh
def afj : J := .seq (.R [ro 2 (.fN (.c (.str [])))] (some [0])) afi
theorem afk : bj ⟨26, [0]⟩ (Tryz.f171.body.getD .skip) = some afj.strip := by kernel_rfl
def afl : J := .cond (.t 10) .skip (.exit 0)
def afm : J := .R [ae 15 5,
 ro 16 (.b1 .add 9 (.t 15) (.c (.str [32]))),
 aM 5 16] (some [0, 1, 5, 6])
def afn : J := .cond (.t 14) afm .skip
def Mc : J := .fO [ae 17 5,
 ae 18 0,
 gZ 19 18,
 a1 20 94 19 0,
 aO 21 72 20,
 ae 22 1,
 ae 23 6,
 cM 24 96 22 23,
 a1 25 74 24 0,
 aO 26 2 25,
 cM 27 72 21 26,
 a1 28 158 27 0,
 aO 29 9 28,
 ro 30 (.b1 .add 9 (.t 29) (.c (.str [58]))),
 ae 31 1,
 ae 32 6,
 cM 33 96 31 32,
 a1 34 74 33 1,
 aO 35 2 34,
 d_ 36 170 35,
 bX 37 .add 9 30 36,
 ro 38 (.b1 .add 9 (.t 37) (.c (.str [58]))),
 ae 39 1,
 ae 40 6,
 cM 41 96 39 40,
 a1 42 74 41 2,
 aO 43 22 42,
 d_ 44 171 43,
 bX 45 .add 9 38 44,
 bX 46 .add 9 17 45,
 aM 5 46] [[], [], [1], [2], [3], [], [], [5, 6], [7], [8], [4, 9], [10], [11], [12], [], [], [14, 15], [16], [17], [18], [13, 19], [20], [], [], [22, 23], [24], [25], [26, 19], [21, 27], [0, 28], [29, 27, 0, 1, 2, 3, 4, 5, 6, 7, 8, 9, 10, 11, 12, 13, 14, 15, 16, 17, 18, 19, 20, 21, 22, 23, 24, 25, 26, 27, 28, 29]] (some [0, 1, 5, 6])
def afo : J := .R [ae 11 6,
 ba 12 .add 3 11 1,
 aM 6 12] (some [0, 1, 5, 6])
def afp : J := .seq (.block 1 (.seq (.seq (.R [ae 13 6,
 ba 14 .gtr 3 13 0] (some [0, 1, 5, 6, 14])) afn) Mc)) afo
def Md : J := .seq (.seq (.R [ae 7 6,
 ae 8 1,
 bV 9 96 8,
 bX 10 .lss 3 7 9] (some [0, 1, 5, 6, 10])) afl) afp
def afq : J := .block 0 (.loop Md)
def afr : J := .seq (.R [ae 47 5,
 aM 4 47] (some [4])) .ret
def afs : J := .seq (.seq (.R [bf 6 0] (some [0, 1, 5, 6])) afq) afr
def aft : J := .seq (.R [ro 5 (.fN (.c (.str [])))] (some [0, 1, 5])) afs
def afu : J := .seq (.R [ro 4 (.fN (.c (.str [])))] (some [0, 1])) aft
theorem afv : bj ⟨48, [0, 1]⟩ (Tryz.f107.body.getD .skip) = some afu.strip := by kernel_rfl
def afw : J := .seq (.R [ro 4 (.fN (.c (.str [])))] (some [4])) .ret
def afx : J := .cond (.t 7) afw .skip
def afy : J := .seq (.R [ae 8 1,
 ej 9 107 2 8,
 aM 4 9] (some [4])) .ret
def afz : J := .seq (.seq (.R [ae 5 1,
 ej 6 106 2 5,
 ba 7 .neq 2 6 0] (some [1, 2, 7])) afx) afy
def afA : J := .seq (.R [ro 2 (.cU 94 (.t 0)),
 ro 4 (.fN (.c (.str [])))] (some [1, 2])) afz
theorem afB : bj ⟨10, [0, 1]⟩ (Tryz.f58.body.getD .skip) = some afA.strip := by kernel_rfl
def afC : J := .seq (.R [ae 7 0,
 ae 8 1,
 bX 9 .geq 2 7 8,
 ae 10 9,
 ⟨some 11, .cj (.t 0), some (10, true)⟩,
 ⟨some 12, .cj (.t 2), some (10, true)⟩,
 ⟨some 13, .b1 .leq 2 (.t 11) (.t 12), some (10, true)⟩,
 ro 14 (.pick (.t 10) (.t 13) (.c (.bool false))),
 aM 6 14] (some [6])) .ret
def afD : J := .seq (.R [bk 6 false] (some [0, 1, 2])) afC
theorem afE : bj ⟨15, [0, 1, 2]⟩ (Tryz.f125.body.getD .skip) = some afD.strip := by kernel_rfl
def afF : J := .seq (.R [a1 3 158 1 1,
 aO 4 2 3,
 ro 5 (.call (.f 125) [(.t 4), (.c (.int .i64 0)), (.c (.int .i64 3))]),
 eu 6 5,
 aM 2 6] (some [2])) .ret
def afG : J := .seq (.R [ro 1 (.cU 158 (.t 0)),
 bk 2 false] (some [1])) afF
theorem afH : bj ⟨7, [0]⟩ (Tryz.f278.body.getD .skip) = some afG.strip := by kernel_rfl
def afI : J := .seq (.R [ae 17 5,
 aM 4 17] (some [4])) .ret
def afJ : J := .cond (.t 16) afI .skip
def afK : J := .seq (.R [ae 11 1,
 ae 12 0,
 ae 13 5,
 cM 14 72 12 13,
 aO 15 158 14,
 ro 16 (.call (.t 11) [(.t 15)])] (some [0, 1, 5, 7, 8, 16])) afJ
def afL : J := .R [ba 18 .add 3 8 1,
 ae 8 18] (some [0, 1, 7, 8])
def afM : J := .seq (.block 1 (.seq (.R [ae 10 8,
 aM 5 10] (some [0, 1, 5, 7, 8])) afK)) afL
def afN : J := .seq (.cond (.t 9) .skip (.exit 0)) afM
def Me : J := .seq (.R [bX 9 .lss 3 8 7] (some [0, 1, 7, 8, 9])) afN
def afO : J := .block 0 (.loop Me)
def afP : J := .seq (.R [bf 4 (-1)] (some [4])) .ret
def afQ : J := .seq (.seq (.R [ae 6 0,
 bV 7 72 6,
 kQ 8 0] (some [0, 1, 7, 8])) afO) afP
def afR : J := .seq (.R [bf 4 0] (some [0, 1])) afQ
theorem afS : bj ⟨19, [0, 1]⟩ (Tryz.f280.body.getD .skip) = some afR.strip := by kernel_rfl
def afT : J := .seq (.R [ae 5 0,
 ae 6 1,
 ej 7 280 5 6,
 ba 8 .geq 3 7 0,
 aM 4 8] (some [4])) .ret
def afU : J := .seq (.R [bk 4 false] (some [0, 1])) afT
theorem afV : bj ⟨9, [0, 1]⟩ (Tryz.f277.body.getD .skip) = some afU.strip := by kernel_rfl
def afW : J := .seq (.R [ae 3 0,
 ro 4 (.call (.f 277) [(.t 3), (.f 278)]),
 eu 5 4,
 aM 2 5] (some [2])) .ret
def afX : J := .seq (.R [bk 2 false] (some [0])) afW
theorem afY : bj ⟨6, [0]⟩ (Tryz.f236.body.getD .skip) = some afX.strip := by kernel_rfl
def afZ : J := .seq (.R [ae 3 0,
 ro 4 (.b1 .geq 5 (.t 3) (.c (.int .u8 48))),
 ae 5 4,
 ⟨some 6, .cj (.t 0), some (5, true)⟩,
 ⟨some 7, .b1 .leq 5 (.t 6) (.c (.int .u8 57)), some (5, true)⟩,
 ro 8 (.pick (.t 5) (.t 7) (.c (.bool false))),
 aM 2 8] (some [2])) .ret
def af0 : J := .seq (.R [bk 2 false] (some [0])) afZ
theorem af1 : bj ⟨9, [0]⟩ (Tryz.f279.body.getD .skip) = some af0.strip := by kernel_rfl
def af2 : J := .seq (.R [bk 2 false] (some [2])) .ret
def af3 : J := .cond (.t 32) af2 .skip
def af4 : J := .seq (.R [ae 20 4,
 eu 21 20,
 ae 22 21,
 ⟨some 23, .cj (.t 3), some (22, true)⟩,
 ⟨some 24, .b1 .eql 3 (.t 23) (.c (.int .i64 0)), some (22, true)⟩,
 ⟨some 25, .cj (.t 24), some (22, true)⟩,
 ⟨some 26, .cj (.t 0), some (25, false)⟩,
 ⟨some 27, .cj (.t 3), some (25, false)⟩,
 ⟨some 28, .idx 9 (.t 26) (.t 27), some (25, false)⟩,
 ⟨some 29, .call (.f 279) [(.t 28)], some (25, false)⟩,
 ⟨some 30, .un .not (.t 29), some (25, false)⟩,
 ⟨some 31, .pick (.t 25) (.c (.bool true)) (.t 30), some (22, true)⟩,
 ro 32 (.pick (.t 22) (.t 31) (.c (.bool false)))] (some [0, 6, 7, 32])) af3
def af5 : J := .seq (.R [ae 10 0,
 ae 11 3,
 KK 12 9 10 11,
 ro 13 (.b1 .geq 5 (.t 12) (.c (.int .u8 97))),
 ae 14 13,
 ⟨some 15, .cj (.t 0), some (14, true)⟩,
 ⟨some 16, .cj (.t 3), some (14, true)⟩,
 ⟨some 17, .idx 9 (.t 15) (.t 16), some (14, true)⟩,
 ⟨some 18, .b1 .leq 5 (.t 17) (.c (.int .u8 122)), some (14, true)⟩,
 ro 19 (.pick (.t 14) (.t 18) (.c (.bool false))),
 aM 4 19] (some [0, 3, 4, 6, 7])) af4
def af6 : J := .R [ba 33 .add 3 7 1,
 ae 7 33] (some [0, 6, 7])
def af7 : J := .seq (.block 1 (.seq (.R [ae 9 7,
 aM 3 9] (some [0, 3, 6, 7])) af5)) af6
def af8 : J := .seq (.cond (.t 8) .skip (.exit 0)) af7
def Mf : J := .seq (.R [bX 8 .lss 3 7 6] (some [0, 6, 7, 8])) af8
def af9 : J := .block 0 (.loop Mf)
def af_ : J := .seq (.R [ae 34 0,
 bV 35 9 34,
 ba 36 .geq 3 35 1,
 ae 37 36,
 ⟨some 38, .cj (.t 0), some (37, true)⟩,
 ⟨some 39, .len 9 (.t 38), some (37, true)⟩,
 ⟨some 40, .b1 .leq 3 (.t 39) (.c (.int .i64 10)), some (37, true)⟩,
 ro 41 (.pick (.t 37) (.t 40) (.c (.bool false))),
 aM 2 41] (some [2])) .ret
def aga : J := .seq (.seq (.R [ae 5 0,
 bV 6 9 5,
 kQ 7 0] (some [0, 6, 7])) af9) af_
def agb : J := .seq (.R [bk 2 false] (some [0])) aga
theorem agc : bj ⟨42, [0]⟩ (Tryz.f237.body.getD .skip) = some agb.strip := by kernel_rfl
def agd : J := .seq (.R [a1 4 158 2 0,
 aO 5 9 4,
 aO 6 9 1,
 bX 7 .eql 9 5 6,
 aM 3 7] (some [3])) .ret
def age : J := .seq (.R [ro 2 (.cU 158 (.t 0)),
 bk 3 false] (some [1, 2])) agd
theorem agf : bj ⟨8, [0, 1]⟩ (Tryz.f281.body.getD .skip) = some age.strip := by kernel_rfl
def agh : J := .seq (.R [ae 17 5,
 aM 4 17] (some [4])) .ret
def agi : J := .cond (.t 16) agh .skip
def agj : J := .seq (.R [ae 11 1,
 ae 12 0,
 ae 13 5,
 cM 14 72 12 13,
 aO 15 158 14,
 ro 16 (.call (.t 11) [(.t 15)])] (some [0, 1, 5, 7, 8, 16])) agi
def agk : J := .R [ba 18 .add 3 8 1,
 ae 8 18] (some [0, 1, 7, 8])
def agl : J := .seq (.block 1 (.seq (.R [ae 10 8,
 aM 5 10] (some [0, 1, 5, 7, 8])) agj)) agk
def agm : J := .seq (.cond (.t 9) .skip (.exit 0)) agl
def Mg : J := .seq (.R [bX 9 .lss 3 8 7] (some [0, 1, 7, 8, 9])) agm
def agn : J := .block 0 (.loop Mg)
def ago : J := .seq (.R [bf 4 (-1)] (some [4])) .ret
def agp : J := .seq (.seq (.R [ae 6 0,
 bV 7 72 6,
 kQ 8 0] (some [0, 1, 7, 8])) agn) ago
def agq : J := .seq (.R [bf 4 0] (some [0, 1])) agp
theorem agr : bj ⟨19, [0, 1]⟩ (Tryz.f280.body.getD .skip) = some agq.strip := by kernel_rfl
def ags : J := .seq (.R [ae 5 0,
 ro 6 (.il 281 [(.t 3)]),
 ej 7 280 5 6,
 aM 4 7] (some [4])) .ret
def agt : J := .seq (.R [ro 3 (.cU 9 (.t 1)),
 bf 4 0] (some [0, 3])) ags
theorem agu : bj ⟨8, [0, 1]⟩ (Tryz.f238.body.getD .skip) = some agt.strip := by kernel_rfl
def agv : J := .R [ba 8 .eql 2 4 4,
 aM 5 8] (some [4, 5])
def agw : J := .cond (.t 5) .skip agv
def agx : J := .seq (.R [ba 7 .eql 2 4 3,
 aM 5 7] (some [4, 5])) agw
def agy : J := .cond (.t 5) .skip agx
def agz : J := .seq (.R [bf 2 1] (some [2])) .ret
def agA : J := .seq (.R [bf 2 2] (some [2])) .ret
def agB : J := .cond (.t 9) agA .skip
def agC : J := .seq (.R [ba 10 .eql 2 4 2,
 aM 9 10] (some [9])) agB
def Mh : J := .cond (.t 5) agz agC
def agD : J := .block 0 (.seq (.seq (.R [ba 6 .eql 2 4 1,
 aM 5 6] (some [4, 5])) agy) Mh)
def agE : J := .seq (.R [bf 2 0] (some [2])) .ret
def agF : J := .seq (.seq (.R [a1 3 230 1 0,
 aO 4 2 3] (some [4])) agD) agE
def agG : J := .seq (.R [ro 1 (.cU 230 (.t 0)),
 bf 2 0] (some [1])) agF
theorem agH : bj ⟨11, [0]⟩ (Tryz.f284.body.getD .skip) = some agG.strip := by kernel_rfl
def agI : J := .cond (.t 7) .skip (.exit 0)
def agJ : J := .seq (.R [bf 4 (-1)] (some [4])) .ret
def agK : J := .cond (.t 14) agJ .skip
def agL : J := .R [ae 15 5,
 a1 16 158 2 2,
 aO 17 156 16,
 ae 18 1,
 cM 19 156 17 18,
 aO 20 230 19,
 d_ 21 284 20,
 ba 22 .sub 3 21 1,
 bX 23 .add 3 15 22,
 aM 5 23] (some [1, 2, 5])
def agM : J := .R [ae 8 1,
 ba 9 .add 3 8 1,
 aM 1 9] (some [1, 2, 5])
def agN : J := .seq (.block 1 (.seq (.seq (.R [ae 10 1,
 a1 11 158 2 2,
 aO 12 156 11,
 bV 13 156 12,
 bX 14 .geq 3 10 13] (some [1, 2, 5, 14])) agK) agL)) agM
def Mi : J := .seq (.seq (.R [ae 6 5,
 ba 7 .gtr 3 6 0] (some [1, 2, 5, 7])) agI) agN
def agO : J := .block 0 (.loop Mi)
def agP : J := .seq (.R [ae 24 1,
 aM 4 24] (some [4])) .ret
def agQ : J := .seq (.seq (.R [bf 5 1] (some [1, 2, 5])) agO) agP
def agR : J := .seq (.R [ro 2 (.cU 158 (.t 0)),
 bf 4 0] (some [1, 2])) agQ
theorem agS : bj ⟨25, [0]⟩ (Tryz.f244.body.getD .skip) = some agR.strip := by kernel_rfl
def agT : J := .R [a1 29 309 9 0,
 aO 30 2 29,
 ba 31 .add 2 30 1,
 a1 32 309 9 0,
 eN 2 32 31] (some [0, 2, 3, 4, 8, 9])
def agU : J := .cond (.t 28) agT .skip
def agV : J := .R [ba 43 .add 3 37 1,
 ae 37 43] (some [2, 3, 4, 9, 10, 36, 37])
def agW : J := .seq (.block 1 (.i_ (Em aE 283 4 2 39 ((List.range 3).map (· + 2)) [ae 40 10, aO 41 309 9] [(.t 40), (.t 41)] (some 42) [aM 10 42] [2, 3, 4, 9, 10, 36, 37]) (Ki 353 4 39 [ae 40 10, aO 41 309 9] [(.t 40), (.t 41)] (some 42) [aM 10 42]))) agV
def agX : J := .seq (.cond (.t 38) .skip (.exit 0)) agW
def Mj : J := .seq (.R [bX 38 .lss 3 37 36] (some [2, 3, 4, 9, 10, 36, 37, 38])) agX
def agY : J := .block 0 (.loop Mj)
def agZ : J := .seq (.R [ae 44 10,
 aM 7 44] (some [2, 3, 4, 7])) .ret
def ag0 : J := .seq (.seq (.R [aO 35 230 8,
 d_ 36 284 35,
 kQ 37 0] (some [2, 3, 4, 9, 10, 36, 37])) agY) agZ
def Mk : J := .seq (.R [ae 33 0,
 ba 34 .add 3 33 1,
 aM 10 34] (some [2, 3, 4, 8, 9, 10])) ag0
def ag1 : J := .seq (.seq (.R [a1 26 230 8 0,
 aO 27 2 26,
 ba 28 .eql 2 27 4] (some [0, 2, 3, 4, 8, 9, 28])) agU) Mk
def ag2 : J := .seq (.R [a1 20 309 6 0,
 aO 21 2 20,
 a1 22 230 8 0,
 aO 23 2 22,
 ba 24 .eql 2 23 1,
 ro 25 (.fM 309 [(0, (.t 21)), (1, (.t 24))]),
 iA 9 309,
 eN 309 9 25] (some [0, 2, 3, 4, 8, 9])) ag1
def ag3 : J := .seq (.R [a1 15 158 3 2,
 aO 16 156 15,
 ae 17 0,
 cM 18 156 16 17,
 aO 19 230 18,
 iA 8 230,
 eN 230 8 19] (some [0, 2, 3, 4, 6, 8])) ag2
def ag4 : J := .seq (.R [aO 11 310 2,
 ae 12 0,
 aO 13 309 6,
 cM 14 310 11 12,
 eN 309 14 13] (some [0, 2, 3, 4, 6])) ag3
def Ml : J := .seq (.R [ro 6 (.cU 309 (.t 1)),
 bf 7 0] (some [0, 2, 3, 4, 6])) ag4
theorem ag5 : Ml.mg (zo aE 283 [0, 1, 2, 3, 4] 5 2 4) := And.intro (True.intro) (And.intro (True.intro) (And.intro (True.intro) (And.intro (True.intro) (And.intro (And.intro (True.intro) (And.intro (True.intro) (True.intro))) (And.intro (True.intro) (And.intro (And.intro (True.intro) (And.intro (True.intro) (And.intro (And.intro (True.intro) (True.intro)) (And.intro (⟨353, 2, 39, 3, _, _, _, _, _, rfl, rfl, (by kernel_rfl), rfl, rfl, rfl, rfl, rfl, rfl, rfl⟩) (True.intro))))) (And.intro (True.intro) (True.intro))))))))
theorem ag6 : bj ⟨45, [0, 1, 2, 3, 4]⟩ (Tryz.f283.body.getD .skip) = some Ml.strip := by kernel_rfl
def Fp : J := .seq (.R [aO 15 310 3,
 aM 2 15] (some [2])) .ret
def ag7 : J := .seq (.R [aO 10 353 4,
 a1 11 158 1 1,
 aO 12 2 11,
 ro 13 (.fM 309 [(0, (.t 12))]),
 ro 14 (.call (.t 10) [(.c (.int .i64 0)), (.t 13)])] (some [3])) Fp
def axU : J := .seq (.R [ro 9 (.il 283 [(.t 3), (.t 1), (.t 4)]),
 eN 353 4 9] (some [1, 3, 4])) ag7
def ag8 : J := .i_ (Es aE 283 4 2 10 9 [3, 1, 4] [a1 11 158 1 1, aO 12 2 11, ro 13 (.fM 309 [(0, (.t 12))])] [(.c (.int .i64 0)), (.t 13)] (some 14) [3] Fp) (Kn 353 283 4 10 9 [3, 1, 4] [a1 11 158 1 1, aO 12 2 11, ro 13 (.fM 309 [(0, (.t 12))])] [(.c (.int .i64 0)), (.t 13)] (some 14) Fp.ks)
def ag9 : J := .seq (.R [a1 5 158 1 2,
 aO 6 156 5,
 bV 7 156 6,
 ro 8 (.er 310 (.t 7) (.t 7)),
 iA 3 310,
 eN 310 3 8] (some [1, 3])) ag8
def Mm : J := .seq (.R [ro 1 (.cU 158 (.t 0)),
 oj 2] (some [1])) ag9
theorem ag_ : Mm.mg (wI aE) := And.intro (True.intro) (And.intro (True.intro) (⟨353, 283, 4, 2, 10, 9, _, _, _, _, _, _, rfl, rfl, (by kernel_rfl), ⟨Tryz.t353, _, _, (by kernel_rfl), rfl, rfl, rfl, rfl⟩, rfl, rfl, rfl, rfl, (by kernel_rfl)⟩))
theorem aha : bj ⟨16, [0]⟩ (Tryz.f241.body.getD .skip) = some Mm.strip := by kernel_rfl
def ahb : J := .seq (.R [a1 26 230 1 0,
 aO 27 2 26,
 ro 28 (.call (.f 125) [(.t 27), (.c (.int .i64 0)), (.c (.int .i64 5))]),
 ae 29 28,
 ⟨some 30, .cj (.t 3), some (29, true)⟩,
 ⟨some 31, .cj (.t 30), some (29, true)⟩,
 ⟨some 32, .cB 230 (.t 1) 1, some (31, false)⟩,
 ⟨some 33, .b4 2 (.t 32), some (31, false)⟩,
 ⟨some 34, .b1 .eql 2 (.t 33) (.c (.int .i64 0)), some (31, false)⟩,
 ⟨some 35, .pick (.t 31) (.c (.bool true)) (.t 34), some (29, true)⟩,
 ro 36 (.pick (.t 29) (.t 35) (.c (.bool false))),
 ae 37 36,
 ⟨some 38, .cB 230 (.t 1) 0, some (37, true)⟩,
 ⟨some 39, .b4 2 (.t 38), some (37, true)⟩,
 ⟨some 40, .b1 .eql 2 (.t 39) (.c (.int .i64 1)), some (37, true)⟩,
 ⟨some 41, .cj (.t 40), some (37, true)⟩,
 ⟨some 42, .cB 230 (.t 1) 2, some (41, false)⟩,
 ⟨some 43, .b4 9 (.t 42), some (41, false)⟩,
 ⟨some 44, .b1 .eql 9 (.t 43) (.c (.str [])), some (41, false)⟩,
 ⟨some 45, .pick (.t 41) (.c (.bool true)) (.t 44), some (37, true)⟩,
 ro 46 (.pick (.t 37) (.t 45) (.c (.bool false))),
 ae 47 46,
 ⟨some 48, .cj (.t 4), some (47, true)⟩,
 ⟨some 49, .cj (.t 48), some (47, true)⟩,
 ⟨some 50, .cB 230 (.t 1) 3, some (49, false)⟩,
 ⟨some 51, .b4 187 (.t 50), some (49, false)⟩,
 ⟨some 52, .len 187 (.t 51), some (49, false)⟩,
 ⟨some 53, .b1 .eql 3 (.t 52) (.c (.int .i64 0)), some (49, false)⟩,
 ⟨some 54, .pick (.t 49) (.c (.bool true)) (.t 53), some (47, true)⟩,
 ro 55 (.pick (.t 47) (.t 54) (.c (.bool false))),
 aM 2 55] (some [2])) .ret
def ahc : J := .seq (.R [a1 13 230 1 0,
 aO 14 2 13,
 ba 15 .eql 2 14 1,
 ae 16 15,
 ⟨some 17, .cB 230 (.t 1) 0, some (16, false)⟩,
 ⟨some 18, .b4 2 (.t 17), some (16, false)⟩,
 ⟨some 19, .b1 .eql 2 (.t 18) (.c (.int .i64 3)), some (16, false)⟩,
 ro 20 (.pick (.t 16) (.c (.bool true)) (.t 19)),
 ae 21 20,
 ⟨some 22, .cB 230 (.t 1) 0, some (21, false)⟩,
 ⟨some 23, .b4 2 (.t 22), some (21, false)⟩,
 ⟨some 24, .b1 .eql 2 (.t 23) (.c (.int .i64 5)), some (21, false)⟩,
 ro 25 (.pick (.t 21) (.c (.bool true)) (.t 24)),
 aM 4 25] (some [1, 3, 4])) ahb
def ahd : J := .seq (.R [a1 5 230 1 0,
 aO 6 2 5,
 ba 7 .eql 2 6 4,
 ae 8 7,
 ⟨some 9, .cB 230 (.t 1) 0, some (8, false)⟩,
 ⟨some 10, .b4 2 (.t 9), some (8, false)⟩,
 ⟨some 11, .b1 .eql 2 (.t 10) (.c (.int .i64 5)), some (8, false)⟩,
 ro 12 (.pick (.t 8) (.c (.bool true)) (.t 11)),
 aM 3 12] (some [1, 3])) ahc
def ahe : J := .seq (.R [ro 1 (.cU 230 (.t 0)),
 bk 2 false] (some [1])) ahd
theorem ahf : bj ⟨56, [0]⟩ (Tryz.f308.body.getD .skip) = some ahe.strip := by kernel_rfl
def ahg : J := .seq (.R [ae 3 0,
 d_ 4 237 3,
 ae 5 4,
 ⟨some 6, .cj (.t 0), some (5, true)⟩,
 ⟨some 7, .b1 .neq 9 (.t 6) (.c (.str [116, 97, 117])), some (5, true)⟩,
 ro 8 (.pick (.t 5) (.t 7) (.c (.bool false))),
 aM 2 8] (some [2])) .ret
def ahh : J := .seq (.R [bk 2 false] (some [0])) ahg
theorem ahi : bj ⟨9, [0]⟩ (Tryz.f192.body.getD .skip) = some ahh.strip := by kernel_rfl
def ahj : J := .seq (.R [ae 5 0,
 ae 6 1,
 ba 7 .sub 2 6 1,
 ro 8 (.call (.f 125) [(.t 5), (.c (.int .i64 0)), (.t 7)]),
 aM 4 8] (some [4])) .ret
def ahk : J := .seq (.R [bk 4 false] (some [0, 1])) ahj
theorem ahl : bj ⟨9, [0, 1]⟩ (Tryz.f240.body.getD .skip) = some ahk.strip := by kernel_rfl
def ahm : J := .seq (.R [ae 13 5,
 ba 14 .eql 3 13 0,
 ae 15 14,
 ⟨some 16, .cB 230 (.t 2) 2, some (15, false)⟩,
 ⟨some 17, .b4 9 (.t 16), some (15, false)⟩,
 ⟨some 18, .b1 .neq 9 (.t 17) (.c (.str [116, 97, 117])), some (15, false)⟩,
 ⟨some 19, .cj (.t 18), some (15, false)⟩,
 ⟨some 20, .cj (.t 5), some (19, true)⟩,
 ⟨some 21, .b1 .leq 3 (.t 20) (.c (.int .i64 2)), some (19, true)⟩,
 ⟨some 22, .pick (.t 19) (.t 21) (.c (.bool false)), some (15, false)⟩,
 ro 23 (.pick (.t 15) (.c (.bool true)) (.t 22)),
 aM 4 23] (some [4])) .ret
def ahn : J := .seq (.R [ae 26 5,
 ba 27 .eql 3 26 1,
 aM 4 27] (some [4])) .ret
def aho : J := .seq (.R [ae 30 5,
 ae 31 1,
 a1 32 230 2 1,
 aO 33 2 32,
 cM 34 72 31 33,
 a1 35 158 34 1,
 aO 36 2 35,
 bX 37 .eql 2 30 36,
 aM 4 37] (some [4])) .ret
def ahp : J := .cond (.t 28) aho .skip
def ahq : J := .seq (.R [ba 29 .eql 2 10 5,
 aM 28 29] (some [1, 2, 5, 28])) ahp
def ahr : J := .cond (.t 24) ahn ahq
def ahs : J := .seq (.R [ba 25 .eql 2 10 3,
 aM 24 25] (some [1, 2, 5, 10, 24])) ahr
def aht : J := .cond (.t 11) ahm ahs
def ahu : J := .block 0 (.seq (.R [ba 12 .eql 2 10 1,
 aM 11 12] (some [1, 2, 5, 10, 11])) aht)
def ahv : J := .seq (.R [bk 4 true] (some [4])) .ret
def ahw : J := .seq (.seq (.R [a1 9 230 2 0,
 aO 10 2 9] (some [1, 2, 5, 10])) ahu) ahv
def ahx : J := .seq (.R [a1 6 230 2 3,
 aO 7 187 6,
 bV 8 187 7,
 aM 5 8] (some [1, 2, 5])) ahw
def ahy : J := .seq (.R [ro 2 (.cU 230 (.t 0)),
 bk 4 false] (some [1, 2])) ahx
theorem ahz : bj ⟨38, [0, 1]⟩ (Tryz.f309.body.getD .skip) = some ahy.strip := by kernel_rfl
def ahA : J := .seq (.R [ae 3 0,
 ro 4 (.call (.f 125) [(.t 3), (.c (.int .i64 0)), (.c (.int .i64 63))]),
 aM 2 4] (some [2])) .ret
def ahB : J := .seq (.R [bk 2 false] (some [0])) ahA
theorem ahC : bj ⟨5, [0]⟩ (Tryz.f198.body.getD .skip) = some ahB.strip := by kernel_rfl
def ahD : J := .seq (.R [a1 9 278 2 1,
 aO 10 2 9,
 d_ 11 198 10,
 aM 4 11] (some [4])) .ret
def ahE : J := .seq (.R [a1 14 278 2 1,
 aO 15 2 14,
 ae 16 1,
 ba 17 .sub 2 16 1,
 ro 18 (.call (.f 125) [(.t 15), (.c (.int .i64 0)), (.t 17)]),
 aM 4 18] (some [4])) .ret
def ahF : J := .seq (.R [a1 21 278 2 1,
 aO 22 2 21,
 ro 23 (.call (.f 125) [(.t 22), (.c (.int .i64 0)), (.c (.int .i64 8))]),
 aM 4 23] (some [4])) .ret
def ahG : J := .seq (.R [a1 26 278 2 1,
 aO 27 2 26,
 ba 28 .eql 2 27 0,
 aM 4 28] (some [4])) .ret
def ahH : J := .cond (.t 24) ahG .skip
def ahI : J := .seq (.R [ba 25 .eql 2 6 3,
 aM 24 25] (some [2, 24])) ahH
def ahJ : J := .cond (.t 19) ahF ahI
def ahK : J := .seq (.R [ba 20 .eql 2 6 2,
 aM 19 20] (some [2, 6, 19])) ahJ
def ahL : J := .cond (.t 12) ahE ahK
def ahM : J := .seq (.R [ba 13 .eql 2 6 1,
 aM 12 13] (some [1, 2, 6, 12])) ahL
def ahN : J := .cond (.t 7) ahD ahM
def ahO : J := .block 0 (.seq (.R [ba 8 .eql 2 6 0,
 aM 7 8] (some [1, 2, 6, 7])) ahN)
def ahP : J := .seq (.R [bk 4 false] (some [4])) .ret
def ahQ : J := .seq (.seq (.R [a1 5 278 2 0,
 aO 6 2 5] (some [1, 2, 6])) ahO) ahP
def ahR : J := .seq (.R [ro 2 (.cU 278 (.t 0)),
 bk 4 false] (some [1, 2])) ahQ
theorem ahS : bj ⟨29, [0, 1]⟩ (Tryz.f259.body.getD .skip) = some ahR.strip := by kernel_rfl
def ahT : J := .seq (.R [bf 2 2] (some [2])) .ret
def ahU : J := .seq (.R [bf 2 1] (some [2])) .ret
def ahV : J := .cond (.t 7) ahU .skip
def ahW : J := .seq (.R [ba 8 .eql 2 4 3,
 aM 7 8] (some [7])) ahV
def ahX : J := .cond (.t 5) ahT ahW
def ahY : J := .block 0 (.seq (.R [ba 6 .eql 2 4 2,
 aM 5 6] (some [4, 5])) ahX)
def ahZ : J := .seq (.R [bf 2 0] (some [2])) .ret
def ah0 : J := .seq (.seq (.R [a1 3 278 1 0,
 aO 4 2 3] (some [4])) ahY) ahZ
def ah1 : J := .seq (.R [ro 1 (.cU 278 (.t 0)),
 bf 2 0] (some [1])) ah0
theorem ah2 : bj ⟨9, [0]⟩ (Tryz.f260.body.getD .skip) = some ah1.strip := by kernel_rfl
def ah3 : J := .seq (.R [bk 6 false] (some [6])) .ret
def ah4 : J := .cond (.t 24) ah3 .skip
def ah5 : J := .seq (.R [bk 6 false] (some [6])) .ret
def ah6 : J := .cond (.t 38) ah5 .skip
def ah7 : J := .R [ae 39 7,
 aO 40 278 9,
 d_ 41 260 40,
 ba 42 .sub 3 41 1,
 bX 43 .add 3 39 42,
 aM 7 43] (some [1, 7, 25, 26, 27])
def ah8 : J := .seq (.seq (.R [ae 31 7,
 ba 32 .eql 3 31 0,
 ae 33 32,
 ⟨some 34, .b4 278 (.t 9), some (33, false)⟩,
 ⟨some 35, .cj (.t 1), some (33, false)⟩,
 ⟨some 36, .call (.f 259) [(.t 34), (.t 35)], some (33, false)⟩,
 ⟨some 37, .un .not (.t 36), some (33, false)⟩,
 ro 38 (.pick (.t 33) (.c (.bool true)) (.t 37))] (some [1, 7, 9, 25, 26, 27, 38])) ah6) ah7
def ah9 : J := .R [ba 44 .add 3 27 1,
 ae 27 44] (some [1, 7, 25, 26, 27])
def ah_ : J := .seq (.block 1 (.seq (.R [cM 29 186 25 27,
 aO 30 278 29,
 iA 9 278,
 eN 278 9 30] (some [1, 7, 9, 25, 26, 27])) ah8)) ah9
def aia : J := .seq (.cond (.t 28) .skip (.exit 0)) ah_
def Mn : J := .seq (.R [bX 28 .lss 3 27 26] (some [1, 7, 25, 26, 27, 28])) aia
def aib : J := .block 0 (.loop Mn)
def aic : J := .seq (.R [ae 45 7,
 ba 46 .eql 3 45 0,
 aM 6 46] (some [6])) .ret
def aid : J := .seq (.seq (.R [ae 25 0,
 bV 26 186 25,
 kQ 27 0] (some [1, 7, 25, 26, 27])) aib) aic
def aie : J := .seq (.R [bf 7 1] (some [0, 1, 7])) aid
def aif : J := .seq (.seq (.R [ae 10 1,
 ro 11 (.call (.f 125) [(.t 10), (.c (.int .i64 0)), (.c (.int .i64 29))]),
 eu 12 11,
 ae 13 12,
 ⟨some 14, .cj (.t 2), some (13, false)⟩,
 ⟨some 15, .call (.f 125) [(.t 14), (.c (.int .i64 1)), (.c (.int .i64 60))], some (13, false)⟩,
 ⟨some 16, .un .not (.t 15), some (13, false)⟩,
 ro 17 (.pick (.t 13) (.c (.bool true)) (.t 16)),
 ae 18 17,
 ⟨some 19, .cj (.t 0), some (18, false)⟩,
 ⟨some 20, .len 186 (.t 19), some (18, false)⟩,
 ⟨some 21, .cj (.t 2), some (18, false)⟩,
 ⟨some 22, .call (.f 125) [(.t 20), (.c (.int .i64 1)), (.t 21)], some (18, false)⟩,
 ⟨some 23, .un .not (.t 22), some (18, false)⟩,
 ro 24 (.pick (.t 18) (.c (.bool true)) (.t 23))] (some [0, 1, 24])) ah4) aie
def aih : J := .seq (.R [bk 6 false] (some [0, 1, 2])) aif
theorem aii : bj ⟨47, [0, 1, 2]⟩ (Tryz.f196.body.getD .skip) = some aih.strip := by kernel_rfl
def aij : J := .seq (.R [ae 4 0,
 a1 5 309 1 0,
 aO 6 2 5,
 ro 7 (.call (.f 196) [(.t 4), (.t 6), (.c (.int .i64 15))]),
 eu 8 7,
 aM 3 8] (some [3])) .ret
def aik : J := .seq (.R [bk 3 false] (some [0, 1])) aij
theorem ail : bj ⟨9, [0, 1]⟩ (Tryz.f310.body.getD .skip) = some aik.strip := by kernel_rfl
def aim : J := .seq (.R [ae 17 5,
 aM 4 17] (some [4])) .ret
def ain : J := .cond (.t 16) aim .skip
def aio : J := .seq (.R [ae 11 1,
 ae 12 0,
 ae 13 5,
 cM 14 187 12 13,
 aO 15 186 14,
 ro 16 (.call (.t 11) [(.t 15)])] (some [0, 1, 5, 7, 8, 16])) ain
def aip : J := .R [ba 18 .add 3 8 1,
 ae 8 18] (some [0, 1, 7, 8])
def aiq : J := .seq (.block 1 (.seq (.R [ae 10 8,
 aM 5 10] (some [0, 1, 5, 7, 8])) aio)) aip
def air : J := .seq (.cond (.t 9) .skip (.exit 0)) aiq
def Mo : J := .seq (.R [bX 9 .lss 3 8 7] (some [0, 1, 7, 8, 9])) air
def ais : J := .block 0 (.loop Mo)
def ait : J := .seq (.R [bf 4 (-1)] (some [4])) .ret
def aiu : J := .seq (.seq (.R [ae 6 0,
 bV 7 187 6,
 kQ 8 0] (some [0, 1, 7, 8])) ais) ait
def aiv : J := .seq (.R [bf 4 0] (some [0, 1])) aiu
theorem aiw : bj ⟨19, [0, 1]⟩ (Tryz.f257.body.getD .skip) = some aiv.strip := by kernel_rfl
def aix : J := .seq (.R [ae 5 0,
 ae 6 1,
 ej 7 257 5 6,
 ba 8 .geq 3 7 0,
 aM 4 8] (some [4])) .ret
def aiy : J := .seq (.R [bk 4 false] (some [0, 1])) aix
theorem aiz : bj ⟨9, [0, 1]⟩ (Tryz.f193.body.getD .skip) = some aiy.strip := by kernel_rfl
def aiA : J := .seq (.R [bf 6 2] (some [6])) .ret
def aiB : J := .seq (.R [bf 6 3] (some [6])) .ret
def aiC : J := .seq (.R [bf 6 4] (some [6])) .ret
def aiD : J := .seq (.R [bf 6 5] (some [6])) .ret
def aiE : J := .seq (.R [bf 6 6] (some [6])) .ret
def aiF : J := .seq (.R [bf 6 7] (some [6])) .ret
def aiG : J := .seq (.R [bf 6 8] (some [6])) .ret
def aiH : J := .cond (.t 72) aiG .skip
def aiI : J := .seq (.R [a1 73 230 3 3,
 aO 74 187 73,
 ro 75 (.il 310 [(.t 5)]),
 ej 76 193 74 75,
 aM 72 76] (some [72])) aiH
def aiJ : J := .cond (.t 63) aiF aiI
def aiK : J := .seq (.R [a1 64 230 3 0,
 aO 65 2 64,
 ba 66 .eql 2 65 4,
 ae 67 66,
 ⟨some 68, .cB 309 (.t 5) 0, some (67, true)⟩,
 ⟨some 69, .b4 2 (.t 68), some (67, true)⟩,
 ⟨some 70, .b1 .geq 2 (.t 69) (.c (.int .i64 6)), some (67, true)⟩,
 ro 71 (.pick (.t 67) (.t 70) (.c (.bool false))),
 aM 63 71] (some [3, 5, 63])) aiJ
def aiL : J := .cond (.t 54) aiE aiK
def aiM : J := .seq (.R [a1 55 230 3 0,
 aO 56 2 55,
 ba 57 .eql 2 56 5,
 ae 58 57,
 ⟨some 59, .cB 309 (.t 5) 1, some (58, true)⟩,
 ⟨some 60, .b4 4 (.t 59), some (58, true)⟩,
 ⟨some 61, .un .not (.t 60), some (58, true)⟩,
 ro 62 (.pick (.t 58) (.t 61) (.c (.bool false))),
 aM 54 62] (some [3, 5, 54])) aiL
def aiN : J := .cond (.t 49) aiD aiM
def aiO : J := .seq (.R [aO 50 230 3,
 ae 51 1,
 ej 52 309 50 51,
 eu 53 52,
 aM 49 53] (some [3, 5, 49])) aiN
def Mp : J := .cond (.t 26) aiC aiO
def aiP : J := .seq (.R [a1 27 230 3 0,
 aO 28 2 27,
 ba 29 .eql 2 28 4,
 ae 30 29,
 ⟨some 31, .cB 230 (.t 3) 1, some (30, true)⟩,
 ⟨some 32, .b4 2 (.t 31), some (30, true)⟩,
 ⟨some 33, .call (.f 125) [(.t 32), (.c (.int .i64 1)), (.c (.int .i64 7))], some (30, true)⟩,
 ⟨some 34, .un .not (.t 33), some (30, true)⟩,
 ro 35 (.pick (.t 30) (.t 34) (.c (.bool false))),
 ae 36 35,
 ⟨some 37, .cB 230 (.t 3) 0, some (36, false)⟩,
 ⟨some 38, .b4 2 (.t 37), some (36, false)⟩,
 ⟨some 39, .b1 .eql 2 (.t 38) (.c (.int .i64 5)), some (36, false)⟩,
 ⟨some 40, .cj (.t 39), some (36, false)⟩,
 ⟨some 41, .cB 230 (.t 3) 1, some (40, true)⟩,
 ⟨some 42, .b4 2 (.t 41), some (40, true)⟩,
 ⟨some 43, .cj (.t 1), some (40, true)⟩,
 ⟨some 44, .len 72 (.t 43), some (40, true)⟩,
 ⟨some 45, .call (.f 240) [(.t 42), (.t 44)], some (40, true)⟩,
 ⟨some 46, .un .not (.t 45), some (40, true)⟩,
 ⟨some 47, .pick (.t 40) (.t 46) (.c (.bool false)), some (36, false)⟩,
 ro 48 (.pick (.t 36) (.c (.bool true)) (.t 47)),
 aM 26 48] (some [1, 3, 5, 26])) Mp
def Mq : J := .cond (.t 11) aiB aiP
def aiQ : J := .seq (.R [a1 12 230 3 0,
 aO 13 2 12,
 ba 14 .eql 2 13 1,
 ae 15 14,
 ⟨some 16, .cB 230 (.t 3) 2, some (15, true)⟩,
 ⟨some 17, .b4 9 (.t 16), some (15, true)⟩,
 ⟨some 18, .b1 .neq 9 (.t 17) (.c (.str [116, 97, 117])), some (15, true)⟩,
 ro 19 (.pick (.t 15) (.t 18) (.c (.bool false))),
 ae 20 19,
 ⟨some 21, .cB 230 (.t 3) 2, some (20, true)⟩,
 ⟨some 22, .b4 9 (.t 21), some (20, true)⟩,
 ⟨some 23, .call (.f 192) [(.t 22)], some (20, true)⟩,
 ⟨some 24, .un .not (.t 23), some (20, true)⟩,
 ro 25 (.pick (.t 20) (.t 24) (.c (.bool false))),
 aM 11 25] (some [1, 3, 5, 11])) Mq
def aiR : J := .cond (.t 7) aiA aiQ
def aiS : J := .seq (.R [bf 6 0] (some [6])) .ret
def aiT : J := .seq (.block 0 (.seq (.R [aO 8 230 3,
 d_ 9 308 8,
 eu 10 9,
 aM 7 10] (some [1, 3, 5, 7])) aiR)) aiS
def aiU : J := .seq (.R [ro 3 (.cU 230 (.t 0)),
 ro 5 (.cU 309 (.t 2)),
 bf 6 0] (some [1, 3, 5])) aiT
theorem aiV : bj ⟨77, [0, 1, 2]⟩ (Tryz.f282.body.getD .skip) = some aiU.strip := by kernel_rfl
def aiW : J := .seq (.R [bf 4 0,
 bf 5 1] (some [4, 5])) .ret
def aiX : J := .cond (.t 22) aiW .skip
def aiY : J := .seq (.R [ae 42 7,
 ae 43 9,
 aM 4 42,
 aM 5 43] (some [4, 5])) .ret
def aiZ : J := .cond (.t 41) aiY .skip
def ai0 : J := .seq (.R [ae 40 9,
 ba 41 .neq 2 40 0] (some [0, 6, 7, 9, 26, 27, 28, 41])) aiZ
def ai1 : J := .seq (.fO [aO 33 230 8,
 ae 34 0,
 ae 35 6,
 ae 36 7,
 cM 37 310 35 36,
 aO 38 309 37,
 KL 39 282 33 34 38,
 aM 9 39] [[], [], [], [], [2, 3], [4], [0, 1, 5], [6, 6, 0, 1, 2, 3, 4, 5, 6]] (some [0, 6, 7, 9, 26, 27, 28])) ai0
def ai2 : J := .R [ba 44 .add 3 28 1,
 ae 28 44] (some [0, 6, 26, 27, 28])
def ai3 : J := .seq (.block 1 (.seq (.R [ae 30 28,
 cM 31 156 26 28,
 aO 32 230 31,
 iA 8 230,
 aM 7 30,
 eN 230 8 32] (some [0, 6, 7, 8, 26, 27, 28])) ai1)) ai2
def ai4 : J := .seq (.cond (.t 29) .skip (.exit 0)) ai3
def Mr : J := .seq (.R [bX 29 .lss 3 28 27] (some [0, 6, 26, 27, 28, 29])) ai4
def ai5 : J := .block 0 (.loop Mr)
def ai6 : J := .seq (.R [bf 4 0,
 bf 5 0] (some [4, 5])) .ret
def ai7 : J := .seq (.seq (.R [a1 25 158 3 2,
 aO 26 156 25,
 bV 27 156 26,
 kQ 28 0] (some [0, 6, 26, 27, 28])) ai5) ai6
def ai8 : J := .seq (.R [aO 23 158 3,
 d_ 24 241 23,
 aM 6 24] (some [0, 3, 6])) ai7
def ai9 : J := .seq (.seq (.fO [a1 10 158 3 2,
 aO 11 156 10,
 bV 12 156 11,
 ro 13 (.call (.f 125) [(.t 12), (.c (.int .i64 1)), (.c (.int .i64 20))]),
 eu 14 13,
 ae 15 14,
 ⟨some 16, .b4 158 (.t 3), some (15, false)⟩,
 ⟨some 17, .call (.f 244) [(.t 16), (.c (.int .i64 0))], some (15, false)⟩,
 ⟨some 18, .cB 158 (.t 3) 2, some (15, false)⟩,
 ⟨some 19, .b4 156 (.t 18), some (15, false)⟩,
 ⟨some 20, .len 156 (.t 19), some (15, false)⟩,
 ⟨some 21, .b1 .neq 3 (.t 17) (.t 20), some (15, false)⟩,
 ro 22 (.pick (.t 15) (.c (.bool true)) (.t 21))] [[], [0], [1], [2], [3], [4, 3], [5], [6, 5, 5], [5], [8, 5], [9, 5], [7, 10, 5], [5, 11]] (some [0, 3, 22])) aiX) ai8
def ai_ : J := .seq (.R [ro 3 (.cU 158 (.t 1)),
 bf 4 0,
 bf 5 0] (some [0, 3])) ai9
theorem aja : bj ⟨45, [0, 1]⟩ (Tryz.f239.body.getD .skip) = some ai_.strip := by kernel_rfl
def ajb : J := .seq (.R [bk 2 false] (some [2])) .ret
def ajc : J := .cond (.t 15) ajb .skip
def ajd : J := .seq (.R [bk 2 false] (some [2])) .ret
def aje : J := .cond (.t 35) ajd .skip
def ajf : J := .seq (.R [bk 2 false] (some [2])) .ret
def ajg : J := .cond (.t 43) ajf .skip
def ajh : J := .seq (.R [ae 42 6,
 ba 43 .neq 2 42 0] (some [0, 16, 17, 18, 43])) ajg
def aji : J := .seq (.R [ae 37 0,
 aO 38 158 4,
 ej 39 239 37 38,
 ae 36 39,
 zs 40 36 0,
 zs 41 36 1,
 aM 5 40,
 aM 6 41] (some [0, 6, 16, 17, 18])) ajh
def ajj : J := .seq (.seq (.fO [a1 23 158 4 0,
 aO 24 9 23,
 d_ 25 237 24,
 eu 26 25,
 ae 27 26,
 ⟨some 28, .cj (.t 0), some (27, false)⟩,
 ⟨some 29, .cj (.t 3), some (27, false)⟩,
 ⟨some 30, .fl 72 (.t 28) none (some (.t 29)), some (27, false)⟩,
 ⟨some 31, .cB 158 (.t 4) 0, some (27, false)⟩,
 ⟨some 32, .b4 9 (.t 31), some (27, false)⟩,
 ⟨some 33, .call (.f 238) [(.t 30), (.t 32)], some (27, false)⟩,
 ⟨some 34, .b1 .geq 3 (.t 33) (.c (.int .i64 0)), some (27, false)⟩,
 ro 35 (.pick (.t 27) (.c (.bool true)) (.t 34))] [[], [0], [1], [2], [3, 2], [4], [4], [5, 6, 4], [4], [8, 4], [7, 9, 4, 4], [10, 4], [4, 11]] (some [0, 4, 16, 17, 18, 35])) aje) aji
def ajk : J := .R [ba 44 .add 3 18 1,
 ae 18 44] (some [0, 16, 17, 18])
def ajl : J := .seq (.block 1 (.seq (.R [ae 20 18,
 cM 21 72 16 18,
 aO 22 158 21,
 iA 4 158,
 aM 3 20,
 eN 158 4 22] (some [0, 3, 4, 16, 17, 18])) ajj)) ajk
def ajm : J := .seq (.cond (.t 19) .skip (.exit 0)) ajl
def Ms : J := .seq (.R [bX 19 .lss 3 18 17] (some [0, 16, 17, 18, 19])) ajm
def ajn : J := .block 0 (.loop Ms)
def ajo : J := .seq (.R [bk 2 true] (some [2])) .ret
def ajp : J := .seq (.seq (.R [ae 16 0,
 bV 17 72 16,
 kQ 18 0] (some [0, 16, 17, 18])) ajn) ajo
def ajq : J := .seq (.seq (.R [ae 7 0,
 bV 8 72 7,
 ro 9 (.call (.f 125) [(.t 8), (.c (.int .i64 1)), (.c (.int .i64 4))]),
 eu 10 9,
 ae 11 10,
 ⟨some 12, .cj (.t 0), some (11, false)⟩,
 ⟨some 13, .call (.f 236) [(.t 12)], some (11, false)⟩,
 ⟨some 14, .un .not (.t 13), some (11, false)⟩,
 ro 15 (.pick (.t 11) (.c (.bool true)) (.t 14))] (some [0, 15])) ajc) ajp
def ajr : J := .seq (.R [bk 2 false] (some [0])) ajq
theorem ajs : bj ⟨45, [0]⟩ (Tryz.f162.body.getD .skip) = some ajr.strip := by kernel_rfl
def ajt : J := .seq (.R [ae 3 0,
 d_ 4 198 3,
 eu 5 4,
 aM 2 5] (some [2])) .ret
def aju : J := .seq (.R [bk 2 false] (some [0])) ajt
theorem ajv : bj ⟨6, [0]⟩ (Tryz.f197.body.getD .skip) = some aju.strip := by kernel_rfl
def ajw : J := .seq (.R [ae 17 5,
 aM 4 17] (some [4])) .ret
def ajx : J := .cond (.t 16) ajw .skip
def ajy : J := .seq (.R [ae 11 1,
 ae 12 0,
 ae 13 5,
 cM 14 22 12 13,
 aO 15 2 14,
 ro 16 (.call (.t 11) [(.t 15)])] (some [0, 1, 5, 7, 8, 16])) ajx
def ajz : J := .R [ba 18 .add 3 8 1,
 ae 8 18] (some [0, 1, 7, 8])
def ajA : J := .seq (.block 1 (.seq (.R [ae 10 8,
 aM 5 10] (some [0, 1, 5, 7, 8])) ajy)) ajz
def ajB : J := .seq (.cond (.t 9) .skip (.exit 0)) ajA
def Mt : J := .seq (.R [bX 9 .lss 3 8 7] (some [0, 1, 7, 8, 9])) ajB
def ajC : J := .block 0 (.loop Mt)
def ajD : J := .seq (.R [bf 4 (-1)] (some [4])) .ret
def ajE : J := .seq (.seq (.R [ae 6 0,
 bV 7 22 6,
 kQ 8 0] (some [0, 1, 7, 8])) ajC) ajD
def ajF : J := .seq (.R [bf 4 0] (some [0, 1])) ajE
theorem ajG : bj ⟨19, [0, 1]⟩ (Tryz.f217.body.getD .skip) = some ajF.strip := by kernel_rfl
def ajH : J := .seq (.R [ae 5 0,
 ae 6 1,
 ej 7 217 5 6,
 ba 8 .geq 3 7 0,
 aM 4 8] (some [4])) .ret
def ajI : J := .seq (.R [bk 4 false] (some [0, 1])) ajH
theorem ajJ : bj ⟨9, [0, 1]⟩ (Tryz.f149.body.getD .skip) = some ajI.strip := by kernel_rfl
def ajK : J := .seq (.R [ae 3 0,
 ro 4 (.call (.f 149) [(.t 3), (.f 197)]),
 eu 5 4,
 aM 2 5] (some [2])) .ret
def ajL : J := .seq (.R [bk 2 false] (some [0])) ajK
theorem ajM : bj ⟨6, [0]⟩ (Tryz.f129.body.getD .skip) = some ajL.strip := by kernel_rfl
def ajN : J := .seq (.fO [a1 5 248 3 0,
 aO 6 2 5,
 ae 7 0,
 bV 8 72 7,
 ej 9 240 6 8,
 ae 10 9,
 ⟨some 11, .cB 248 (.t 3) 1, some (10, true)⟩,
 ⟨some 12, .b4 22 (.t 11), some (10, true)⟩,
 ⟨some 13, .len 22 (.t 12), some (10, true)⟩,
 ⟨some 14, .cj (.t 0), some (10, true)⟩,
 ⟨some 15, .cB 248 (.t 3) 0, some (10, true)⟩,
 ⟨some 16, .b4 2 (.t 15), some (10, true)⟩,
 ⟨some 17, .e6 72 (.t 14) (.t 16), some (10, true)⟩,
 ⟨some 18, .cB 158 (.t 17) 1, some (10, true)⟩,
 ⟨some 19, .b4 2 (.t 18), some (10, true)⟩,
 ⟨some 20, .b1 .eql 2 (.t 13) (.t 19), some (10, true)⟩,
 ro 21 (.pick (.t 10) (.t 20) (.c (.bool false))),
 ae 22 21,
 ⟨some 23, .cB 248 (.t 3) 1, some (22, true)⟩,
 ⟨some 24, .b4 22 (.t 23), some (22, true)⟩,
 ⟨some 25, .call (.f 129) [(.t 24)], some (22, true)⟩,
 ro 26 (.pick (.t 22) (.t 25) (.c (.bool false))),
 aM 4 26] [[], [0], [], [2], [1, 3], [4, 4], [5], [6, 5], [7, 5], [5], [5], [10, 5], [9, 11, 5], [12, 5], [13, 5], [8, 14, 5], [5, 15], [16, 5], [17], [18, 17], [19, 17, 17], [17, 20], [21, 20, 0, 1, 2, 3, 4, 5, 6, 7, 8, 9, 10, 11, 12, 13, 14, 15, 16, 17, 18, 19, 20, 21]] (some [4])) .ret
def ajO : J := .seq (.R [ro 3 (.cU 248 (.t 1)),
 bk 4 false] (some [0, 3])) ajN
theorem ajP : bj ⟨27, [0, 1]⟩ (Tryz.f291.body.getD .skip) = some ajO.strip := by kernel_rfl
def ajQ : J := .seq (.R [a1 4 94 1 0,
 aO 5 72 4,
 aO 6 248 2,
 ej 7 291 5 6,
 eu 8 7,
 aM 3 8] (some [3])) .ret
def ajR : J := .seq (.R [ro 2 (.cU 248 (.t 0)),
 bk 3 false] (some [1, 2])) ajQ
theorem ajS : bj ⟨9, [0, 1]⟩ (Tryz.f290.body.getD .skip) = some ajR.strip := by kernel_rfl
def ajT : J := .seq (.R [ae 17 5,
 aM 4 17] (some [4])) .ret
def ajU : J := .cond (.t 16) ajT .skip
def ajV : J := .seq (.R [ae 11 1,
 ae 12 0,
 ae 13 5,
 cM 14 91 12 13,
 aO 15 248 14,
 ro 16 (.call (.t 11) [(.t 15)])] (some [0, 1, 5, 7, 8, 16])) ajU
def ajW : J := .R [ba 18 .add 3 8 1,
 ae 8 18] (some [0, 1, 7, 8])
def ajX : J := .seq (.block 1 (.seq (.R [ae 10 8,
 aM 5 10] (some [0, 1, 5, 7, 8])) ajV)) ajW
def ajY : J := .seq (.cond (.t 9) .skip (.exit 0)) ajX
def Mu : J := .seq (.R [bX 9 .lss 3 8 7] (some [0, 1, 7, 8, 9])) ajY
def ajZ : J := .block 0 (.loop Mu)
def aj0 : J := .seq (.R [bf 4 (-1)] (some [4])) .ret
def aj1 : J := .seq (.seq (.R [ae 6 0,
 bV 7 91 6,
 kQ 8 0] (some [0, 1, 7, 8])) ajZ) aj0
def aj2 : J := .seq (.R [bf 4 0] (some [0, 1])) aj1
theorem aj3 : bj ⟨19, [0, 1]⟩ (Tryz.f312.body.getD .skip) = some aj2.strip := by kernel_rfl
def aj4 : J := .seq (.R [ae 5 0,
 ae 6 1,
 ej 7 312 5 6,
 ba 8 .geq 3 7 0,
 aM 4 8] (some [4])) .ret
def aj5 : J := .seq (.R [bk 4 false] (some [0, 1])) aj4
theorem aj6 : bj ⟨9, [0, 1]⟩ (Tryz.f289.body.getD .skip) = some aj5.strip := by kernel_rfl
def aj7 : J := .seq (.R [ae 3 0,
 ae 4 0,
 bX 5 .neq 9 3 4,
 aM 2 5] (some [2])) .ret
def aj8 : J := .seq (.R [bk 2 false] (some [0])) aj7
theorem aj9 : bj ⟨6, [0]⟩ (Tryz.f352.body.getD .skip) = some aj8.strip := by kernel_rfl
def aj_ : J := .seq (.R [bf 4 0] (some [4])) .ret
def aka : J := .cond (.t 12) aj_ .skip
def akb : J := .seq (.R [bf 4 (-1)] (some [4])) .ret
def akc : J := .seq (.seq (.R [ae 12 6] (some [12])) aka) akb
def akd : J := .cond (.t 11) akc .skip
def ake : J := .seq (.R [bf 4 1] (some [4])) .ret
def akf : J := .cond (.t 13) ake .skip
def akg : J := .seq (.R [bf 4 (-1)] (some [4])) .ret
def akh : J := .cond (.t 16) akg .skip
def aki : J := .seq (.R [bf 4 1] (some [4])) .ret
def akj : J := .cond (.t 19) aki .skip
def akk : J := .seq (.R [bf 4 0] (some [4])) .ret
def akl : J := .seq (.seq (.R [ae 17 0,
 ae 18 1,
 bX 19 .gtr 9 17 18] (some [19])) akj) akk
def akm : J := .seq (.seq (.R [ae 14 0,
 ae 15 1,
 bX 16 .lss 9 14 15] (some [0, 1, 16])) akh) akl
def akn : J := .seq (.seq (.R [ae 13 6] (some [0, 1, 13])) akf) akm
def ako : J := .seq (.seq (.R [ae 11 5] (some [0, 1, 6, 11])) akd) akn
def akp : J := .seq (.R [ae 9 1,
 d_ 10 352 9,
 aM 6 10] (some [0, 1, 5, 6])) ako
def akq : J := .seq (.R [ae 7 0,
 d_ 8 352 7,
 aM 5 8] (some [0, 1, 5])) akp
def akr : J := .seq (.R [bf 4 0] (some [0, 1])) akq
theorem aks : bj ⟨20, [0, 1]⟩ (Tryz.f345.body.getD .skip) = some akr.strip := by kernel_rfl
def akt : J := .seq (.R [bf 4 1] (some [4])) .ret
def aku : J := .cond (.t 19) akt .skip
def akv : J := .seq (.R [ae 29 8,
 aM 4 29] (some [4])) .ret
def akw : J := .cond (.t 28) akv .skip
def akx : J := .seq (.R [ae 27 8,
 ba 28 .neq 3 27 0] (some [0, 1, 8, 9, 10, 11, 28])) akw
def aky : J := .seq (.R [ae 24 6,
 ae 25 7,
 ej 26 345 24 25,
 aM 8 26] (some [0, 1, 8, 9, 10, 11])) akx
def akz : J := .seq (.R [ae 20 1,
 ae 21 5,
 cM 22 49 20 21,
 aO 23 9 22,
 aM 7 23] (some [0, 1, 6, 7, 9, 10, 11])) aky
def akA : J := .seq (.seq (.R [ae 16 5,
 ae 17 1,
 bV 18 49 17,
 bX 19 .geq 3 16 18] (some [0, 1, 5, 6, 9, 10, 11, 19])) aku) akz
def akB : J := .R [ba 30 .add 3 11 1,
 ae 11 30] (some [0, 1, 9, 10, 11])
def akC : J := .seq (.block 1 (.seq (.R [ae 13 11,
 cM 14 49 9 11,
 aO 15 9 14,
 aM 5 13,
 aM 6 15] (some [0, 1, 5, 6, 9, 10, 11])) akA)) akB
def akD : J := .seq (.cond (.t 12) .skip (.exit 0)) akC
def Mv : J := .seq (.R [bX 12 .lss 3 11 10] (some [0, 1, 9, 10, 11, 12])) akD
def akE : J := .block 0 (.loop Mv)
def akF : J := .seq (.R [bf 4 (-1)] (some [4])) .ret
def akG : J := .cond (.t 35) akF .skip
def akH : J := .seq (.R [bf 4 0] (some [4])) .ret
def akI : J := .seq (.seq (.R [ae 31 0,
 bV 32 49 31,
 ae 33 1,
 bV 34 49 33,
 bX 35 .lss 3 32 34] (some [35])) akG) akH
def akJ : J := .seq (.seq (.R [ae 9 0,
 bV 10 49 9,
 kQ 11 0] (some [0, 1, 9, 10, 11])) akE) akI
def akK : J := .seq (.R [bf 4 0] (some [0, 1])) akJ
theorem akL : bj ⟨36, [0, 1]⟩ (Tryz.f331.body.getD .skip) = some akK.strip := by kernel_rfl
def akM : J := .seq (.R [a1 5 250 2 0,
 aO 6 9 5,
 a1 7 250 2 1,
 aO 8 9 7,
 ro 9 (.eD 49 2 [(0, (.t 6)), (1, (.t 8))]),
 a1 10 250 3 0,
 aO 11 9 10,
 a1 12 250 3 1,
 aO 13 9 12,
 ro 14 (.eD 49 2 [(0, (.t 11)), (1, (.t 13))]),
 ej 15 331 9 14,
 aM 4 15] (some [4])) .ret
def akN : J := .seq (.R [ro 2 (.cU 250 (.t 0)),
 ro 3 (.cU 250 (.t 1)),
 bf 4 0] (some [2, 3])) akM
theorem akO : bj ⟨16, [0, 1]⟩ (Tryz.f313.body.getD .skip) = some akN.strip := by kernel_rfl
def akP : J := .seq (.R [a1 4 250 2 0,
 aO 5 9 4,
 a1 6 250 1 2,
 aO 7 9 6,
 bX 8 .eql 9 5 7,
 ae 9 8,
 ⟨some 10, .cB 250 (.t 2) 1, some (9, false)⟩,
 ⟨some 11, .b4 9 (.t 10), some (9, false)⟩,
 ⟨some 12, .cB 250 (.t 1) 2, some (9, false)⟩,
 ⟨some 13, .b4 9 (.t 12), some (9, false)⟩,
 ⟨some 14, .b1 .eql 9 (.t 11) (.t 13), some (9, false)⟩,
 ro 15 (.pick (.t 9) (.c (.bool true)) (.t 14)),
 aM 3 15] (some [3])) .ret
def akQ : J := .seq (.R [ro 2 (.cU 250 (.t 0)),
 bk 3 false] (some [1, 2])) akP
theorem akR : bj ⟨16, [0, 1]⟩ (Tryz.f315.body.getD .skip) = some akQ.strip := by kernel_rfl
def akS : J := .seq (.R [ae 17 5,
 aM 4 17] (some [4])) .ret
def akT : J := .cond (.t 16) akS .skip
def akU : J := .seq (.R [ae 11 1,
 ae 12 0,
 ae 13 5,
 cM 14 92 12 13,
 aO 15 250 14,
 ro 16 (.call (.t 11) [(.t 15)])] (some [0, 1, 5, 7, 8, 16])) akT
def akV : J := .R [ba 18 .add 3 8 1,
 ae 8 18] (some [0, 1, 7, 8])
def akW : J := .seq (.block 1 (.seq (.R [ae 10 8,
 aM 5 10] (some [0, 1, 5, 7, 8])) akU)) akV
def akX : J := .seq (.cond (.t 9) .skip (.exit 0)) akW
def Mw : J := .seq (.R [bX 9 .lss 3 8 7] (some [0, 1, 7, 8, 9])) akX
def akY : J := .block 0 (.loop Mw)
def akZ : J := .seq (.R [bf 4 (-1)] (some [4])) .ret
def ak0 : J := .seq (.seq (.R [ae 6 0,
 bV 7 92 6,
 kQ 8 0] (some [0, 1, 7, 8])) akY) akZ
def ak1 : J := .seq (.R [bf 4 0] (some [0, 1])) ak0
theorem ak2 : bj ⟨19, [0, 1]⟩ (Tryz.f332.body.getD .skip) = some ak1.strip := by kernel_rfl
def ak3 : J := .seq (.R [ae 5 0,
 ae 6 1,
 ej 7 332 5 6,
 ba 8 .geq 3 7 0,
 aM 4 8] (some [4])) .ret
def ak4 : J := .seq (.R [bk 4 false] (some [0, 1])) ak3
theorem ak5 : bj ⟨9, [0, 1]⟩ (Tryz.f314.body.getD .skip) = some ak4.strip := by kernel_rfl
def ak6 : J := .seq (.R [bk 2 false] (some [2])) .ret
def ak7 : J := .cond (.t 48) ak6 .skip
def ak8 : J := .seq (.R [bk 2 false] (some [2])) .ret
def ak9 : J := .cond (.t 51) ak8 .skip
def ak_ : J := .seq (.R [ae 49 0,
 ro 50 (.il 315 [(.t 4)]),
 ej 51 314 49 50] (some [0, 5, 6, 7, 51])) ak9
def ala : J := .seq (.seq (.fO [a1 12 250 4 0,
 aO 13 9 12,
 d_ 14 192 13,
 eu 15 14,
 ae 16 15,
 ⟨some 17, .cB 250 (.t 4) 1, some (16, false)⟩,
 ⟨some 18, .b4 9 (.t 17), some (16, false)⟩,
 ⟨some 19, .call (.f 192) [(.t 18)], some (16, false)⟩,
 ⟨some 20, .un .not (.t 19), some (16, false)⟩,
 ro 21 (.pick (.t 16) (.c (.bool true)) (.t 20)),
 ae 22 21,
 ⟨some 23, .cB 250 (.t 4) 2, some (22, false)⟩,
 ⟨some 24, .b4 9 (.t 23), some (22, false)⟩,
 ⟨some 25, .call (.f 192) [(.t 24)], some (22, false)⟩,
 ⟨some 26, .un .not (.t 25), some (22, false)⟩,
 ro 27 (.pick (.t 22) (.c (.bool true)) (.t 26)),
 ae 28 27,
 ⟨some 29, .cB 250 (.t 4) 0, some (28, false)⟩,
 ⟨some 30, .b4 9 (.t 29), some (28, false)⟩,
 ⟨some 31, .cB 250 (.t 4) 1, some (28, false)⟩,
 ⟨some 32, .b4 9 (.t 31), some (28, false)⟩,
 ⟨some 33, .b1 .gtr 9 (.t 30) (.t 32), some (28, false)⟩,
 ro 34 (.pick (.t 28) (.c (.bool true)) (.t 33)),
 ae 35 34,
 ⟨some 36, .cj (.t 3), some (35, false)⟩,
 ⟨some 37, .b1 .gtr 3 (.t 36) (.c (.int .i64 0)), some (35, false)⟩,
 ⟨some 38, .cj (.t 37), some (35, false)⟩,
 ⟨some 39, .cj (.t 0), some (38, true)⟩,
 ⟨some 40, .cj (.t 3), some (38, true)⟩,
 ⟨some 41, .b1 .sub 3 (.t 40) (.c (.int .i64 1)), some (38, true)⟩,
 ⟨some 42, .e6 92 (.t 39) (.t 41), some (38, true)⟩,
 ⟨some 43, .b4 250 (.t 42), some (38, true)⟩,
 ⟨some 44, .b4 250 (.t 4), some (38, true)⟩,
 ⟨some 45, .call (.f 313) [(.t 43), (.t 44)], some (38, true)⟩,
 ⟨some 46, .b1 .geq 3 (.t 45) (.c (.int .i64 0)), some (38, true)⟩,
 ⟨some 47, .pick (.t 38) (.t 46) (.c (.bool false)), some (35, false)⟩,
 ro 48 (.pick (.t 35) (.c (.bool true)) (.t 47))] [[], [0], [1], [2], [3, 2], [4], [5, 4], [6, 4, 4], [7, 4], [4, 8], [9, 7], [10], [11, 10], [12, 10, 10], [13, 10], [10, 14], [15, 13], [16], [17, 16], [16], [19, 16], [18, 20, 16], [16, 21], [22, 16], [23], [24, 23], [25, 23, 23], [26], [26], [28, 26], [27, 29, 26], [30, 26], [26], [31, 32, 26, 26], [33, 26], [26, 34, 23], [23, 35]] (some [0, 4, 5, 6, 7, 48])) ak7) ak_
def alb : J := .R [ba 52 .add 3 7 1,
 ae 7 52] (some [0, 5, 6, 7])
def alc : J := .seq (.block 1 (.seq (.R [ae 9 7,
 cM 10 92 5 7,
 aO 11 250 10,
 iA 4 250,
 aM 3 9,
 eN 250 4 11] (some [0, 3, 4, 5, 6, 7])) ala)) alb
def ald : J := .seq (.cond (.t 8) .skip (.exit 0)) alc
def Mx : J := .seq (.R [bX 8 .lss 3 7 6] (some [0, 5, 6, 7, 8])) ald
def ale : J := .block 0 (.loop Mx)
def alf : J := .seq (.R [ae 53 0,
 bV 54 92 53,
 ba 55 .leq 3 54 6,
 aM 2 55] (some [2])) .ret
def alg : J := .seq (.seq (.R [ae 5 0,
 bV 6 92 5,
 kQ 7 0] (some [0, 5, 6, 7])) ale) alf
def alh : J := .seq (.R [bk 2 false] (some [0])) alg
theorem ali : bj ⟨56, [0]⟩ (Tryz.f292.body.getD .skip) = some alh.strip := by kernel_rfl
def alj : J := .seq (.R [bk 2 false] (some [2])) .ret
def alk : J := .cond (.t 27) alj .skip
def alm : J := .seq (.R [ae 12 4,
 d_ 13 192 12,
 eu 14 13,
 ae 15 14,
 ⟨some 16, .cj (.t 3), some (15, false)⟩,
 ⟨some 17, .b1 .gtr 3 (.t 16) (.c (.int .i64 0)), some (15, false)⟩,
 ⟨some 18, .cj (.t 17), some (15, false)⟩,
 ⟨some 19, .cj (.t 4), some (18, true)⟩,
 ⟨some 20, .cj (.t 0), some (18, true)⟩,
 ⟨some 21, .cj (.t 3), some (18, true)⟩,
 ⟨some 22, .b1 .sub 3 (.t 21) (.c (.int .i64 1)), some (18, true)⟩,
 ⟨some 23, .e6 49 (.t 20) (.t 22), some (18, true)⟩,
 ⟨some 24, .b4 9 (.t 23), some (18, true)⟩,
 ⟨some 25, .b1 .leq 9 (.t 19) (.t 24), some (18, true)⟩,
 ⟨some 26, .pick (.t 18) (.t 25) (.c (.bool false)), some (15, false)⟩,
 ro 27 (.pick (.t 15) (.c (.bool true)) (.t 26))] (some [0, 5, 6, 7, 27])) alk
def aln : J := .R [ba 28 .add 3 7 1,
 ae 7 28] (some [0, 5, 6, 7])
def alo : J := .seq (.block 1 (.seq (.R [ae 9 7,
 cM 10 49 5 7,
 aO 11 9 10,
 aM 3 9,
 aM 4 11] (some [0, 3, 4, 5, 6, 7])) alm)) aln
def alp : J := .seq (.cond (.t 8) .skip (.exit 0)) alo
def My : J := .seq (.R [bX 8 .lss 3 7 6] (some [0, 5, 6, 7, 8])) alp
def alq : J := .block 0 (.loop My)
def alr : J := .seq (.R [ae 29 0,
 bV 30 49 29,
 ba 31 .leq 3 30 12,
 aM 2 31] (some [2])) .ret
def als : J := .seq (.seq (.R [ae 5 0,
 bV 6 49 5,
 kQ 7 0] (some [0, 5, 6, 7])) alq) alr
def alu : J := .seq (.R [bk 2 false] (some [0])) als
theorem alv : bj ⟨32, [0]⟩ (Tryz.f293.body.getD .skip) = some alu.strip := by kernel_rfl
def alw : J := .seq (.R [bf 2 1] (some [2])) .ret
def alx : J := .seq (.R [bf 2 2] (some [2])) .ret
def aly : J := .seq (.R [bf 2 3] (some [2])) .ret
def alz : J := .seq (.R [bf 2 4] (some [2])) .ret
def alA : J := .seq (.R [bf 2 5] (some [2])) .ret
def alB : J := .cond (.t 30) alA .skip
def alC : J := .seq (.R [a1 31 94 1 4,
 aO 32 49 31,
 d_ 33 293 32,
 eu 34 33,
 aM 30 34] (some [30])) alB
def alD : J := .cond (.t 25) alz alC
def alE : J := .seq (.R [a1 26 94 1 3,
 aO 27 49 26,
 d_ 28 293 27,
 eu 29 28,
 aM 25 29] (some [1, 25])) alD
def alF : J := .cond (.t 20) aly alE
def alG : J := .seq (.R [a1 21 94 1 2,
 aO 22 92 21,
 d_ 23 292 22,
 eu 24 23,
 aM 20 24] (some [1, 20])) alF
def alH : J := .cond (.t 8) alx alG
def alI : J := .seq (.R [a1 9 94 1 1,
 aO 10 91 9,
 bV 11 91 10,
 ro 12 (.call (.f 125) [(.t 11), (.c (.int .i64 1)), (.c (.int .i64 3))]),
 eu 13 12,
 ae 14 13,
 ⟨some 15, .cB 94 (.t 1) 1, some (14, false)⟩,
 ⟨some 16, .b4 91 (.t 15), some (14, false)⟩,
 ⟨some 17, .il 290 [(.t 1)], some (14, false)⟩,
 ⟨some 18, .call (.f 289) [(.t 16), (.t 17)], some (14, false)⟩,
 ro 19 (.pick (.t 14) (.c (.bool true)) (.t 18)),
 aM 8 19] (some [1, 8])) alH
def alJ : J := .cond (.t 3) alw alI
def alK : J := .seq (.R [bf 2 0] (some [2])) .ret
def alL : J := .seq (.block 0 (.seq (.R [a1 4 94 1 0,
 aO 5 72 4,
 d_ 6 162 5,
 eu 7 6,
 aM 3 7] (some [1, 3])) alJ)) alK
def alM : J := .seq (.R [ro 1 (.cU 94 (.t 0)),
 bf 2 0] (some [1])) alL
theorem alN : bj ⟨35, [0]⟩ (Tryz.f247.body.getD .skip) = some alM.strip := by kernel_rfl
def alO : J := .seq (.R [aO 3 94 1,
 d_ 4 247 3,
 ba 5 .eql 2 4 0,
 aM 2 5] (some [2])) .ret
def alP : J := .seq (.R [ro 1 (.cU 94 (.t 0)),
 bk 2 false] (some [1])) alO
theorem alQ : bj ⟨6, [0]⟩ (Tryz.f174.body.getD .skip) = some alP.strip := by kernel_rfl
def alR : J := .seq (.R [bk 4 false] (some [4])) .ret
def alS : J := .cond (.t 24) alR .skip
def alT : J := .seq (.fO [a1 30 158 5 2,
 aO 31 156 30,
 a1 32 74 3 1,
 aO 33 2 32,
 cM 34 156 31 33,
 a1 35 230 34 0,
 aO 36 2 35,
 ba 37 .neq 2 36 5,
 ae 38 37,
 ⟨some 39, .cB 74 (.t 3) 2, some (38, true)⟩,
 ⟨some 40, .b4 22 (.t 39), some (38, true)⟩,
 ⟨some 41, .len 22 (.t 40), some (38, true)⟩,
 ⟨some 42, .b4 158 (.t 5), some (38, true)⟩,
 ⟨some 43, .call (.f 241) [(.t 42)], some (38, true)⟩,
 ⟨some 44, .cB 74 (.t 3) 1, some (38, true)⟩,
 ⟨some 45, .b4 2 (.t 44), some (38, true)⟩,
 ⟨some 46, .e6 310 (.t 43) (.t 45), some (38, true)⟩,
 ⟨some 47, .cB 309 (.t 46) 0, some (38, true)⟩,
 ⟨some 48, .b4 2 (.t 47), some (38, true)⟩,
 ⟨some 49, .b1 .eql 2 (.t 41) (.t 48), some (38, true)⟩,
 ro 50 (.pick (.t 38) (.t 49) (.c (.bool false))),
 ae 51 50,
 ⟨some 52, .cB 74 (.t 3) 2, some (51, true)⟩,
 ⟨some 53, .b4 22 (.t 52), some (51, true)⟩,
 ⟨some 54, .call (.f 129) [(.t 53)], some (51, true)⟩,
 ro 55 (.pick (.t 51) (.t 54) (.c (.bool false))),
 aM 4 55] [[], [0], [], [2], [1, 3], [4], [5], [6], [7], [8], [9, 8], [10, 8], [8], [12, 8, 8], [8], [14, 8], [13, 15, 8], [16, 8], [17, 8], [11, 18, 8], [8, 19], [20, 13], [21], [22, 21], [23, 21, 21], [21, 24], [25, 24, 0, 1, 2, 3, 4, 5, 6, 7, 8, 9, 10, 11, 12, 13, 14, 15, 16, 17, 18, 19, 20, 21, 22, 23, 24, 25]] (some [4])) .ret
def alU : J := .seq (.R [ae 25 0,
 a1 26 74 3 0,
 aO 27 2 26,
 cM 28 72 25 27,
 aO 29 158 28,
 iA 5 158,
 eN 158 5 29] (some [3, 5])) alT
def alV : J := .seq (.seq (.fO [a1 6 74 3 0,
 aO 7 2 6,
 ae 8 0,
 bV 9 72 8,
 ej 10 240 7 9,
 eu 11 10,
 ae 12 11,
 ⟨some 13, .cB 74 (.t 3) 1, some (12, false)⟩,
 ⟨some 14, .b4 2 (.t 13), some (12, false)⟩,
 ⟨some 15, .cj (.t 0), some (12, false)⟩,
 ⟨some 16, .cB 74 (.t 3) 0, some (12, false)⟩,
 ⟨some 17, .b4 2 (.t 16), some (12, false)⟩,
 ⟨some 18, .e6 72 (.t 15) (.t 17), some (12, false)⟩,
 ⟨some 19, .cB 158 (.t 18) 2, some (12, false)⟩,
 ⟨some 20, .b4 156 (.t 19), some (12, false)⟩,
 ⟨some 21, .len 156 (.t 20), some (12, false)⟩,
 ⟨some 22, .call (.f 240) [(.t 14), (.t 21)], some (12, false)⟩,
 ⟨some 23, .un .not (.t 22), some (12, false)⟩,
 ro 24 (.pick (.t 12) (.c (.bool true)) (.t 23))] [[], [0], [], [2], [1, 3], [4], [5, 4], [6], [7, 6], [6], [6], [10, 6], [9, 11, 6], [12, 6], [13, 6], [14, 6], [8, 15, 6, 6], [16, 6], [6, 17]] (some [0, 3, 24])) alS) alU
def alW : J := .seq (.R [ro 3 (.cU 74 (.t 1)),
 bk 4 false] (some [0, 3])) alV
theorem alX : bj ⟨56, [0, 1]⟩ (Tryz.f163.body.getD .skip) = some alW.strip := by kernel_rfl
def alY : J := .seq (.R [a1 4 94 1 0,
 aO 5 72 4,
 aO 6 74 2,
 ej 7 163 5 6,
 eu 8 7,
 aM 3 8] (some [3])) .ret
def alZ : J := .seq (.R [ro 2 (.cU 74 (.t 0)),
 bk 3 false] (some [1, 2])) alY
theorem al0 : bj ⟨9, [0, 1]⟩ (Tryz.f176.body.getD .skip) = some alZ.strip := by kernel_rfl
def al1 : J := .seq (.R [ae 17 5,
 aM 4 17] (some [4])) .ret
def al2 : J := .cond (.t 16) al1 .skip
def al3 : J := .seq (.R [ae 11 1,
 ae 12 0,
 ae 13 5,
 cM 14 96 12 13,
 aO 15 74 14,
 ro 16 (.call (.t 11) [(.t 15)])] (some [0, 1, 5, 7, 8, 16])) al2
def al4 : J := .R [ba 18 .add 3 8 1,
 ae 8 18] (some [0, 1, 7, 8])
def al5 : J := .seq (.block 1 (.seq (.R [ae 10 8,
 aM 5 10] (some [0, 1, 5, 7, 8])) al3)) al4
def al6 : J := .seq (.cond (.t 9) .skip (.exit 0)) al5
def Mz : J := .seq (.R [bX 9 .lss 3 8 7] (some [0, 1, 7, 8, 9])) al6
def al7 : J := .block 0 (.loop Mz)
def al8 : J := .seq (.R [bf 4 (-1)] (some [4])) .ret
def al9 : J := .seq (.seq (.R [ae 6 0,
 bV 7 96 6,
 kQ 8 0] (some [0, 1, 7, 8])) al7) al8
def al_ : J := .seq (.R [bf 4 0] (some [0, 1])) al9
theorem ama : bj ⟨19, [0, 1]⟩ (Tryz.f248.body.getD .skip) = some al_.strip := by kernel_rfl
def amb : J := .seq (.R [ae 5 0,
 ae 6 1,
 ej 7 248 5 6,
 ba 8 .geq 3 7 0,
 aM 4 8] (some [4])) .ret
def amc : J := .seq (.R [bk 4 false] (some [0, 1])) amb
theorem amd : bj ⟨9, [0, 1]⟩ (Tryz.f175.body.getD .skip) = some amc.strip := by kernel_rfl
def ame : J := .seq (.R [aO 5 94 2,
 d_ 6 174 5,
 ae 7 6,
 ⟨some 8, .cj (.t 1), some (7, true)⟩,
 ⟨some 9, .len 96 (.t 8), some (7, true)⟩,
 ⟨some 10, .cB 94 (.t 2) 1, some (7, true)⟩,
 ⟨some 11, .b4 91 (.t 10), some (7, true)⟩,
 ⟨some 12, .len 91 (.t 11), some (7, true)⟩,
 ⟨some 13, .b1 .eql 3 (.t 9) (.t 12), some (7, true)⟩,
 ro 14 (.pick (.t 7) (.t 13) (.c (.bool false))),
 ae 15 14,
 ⟨some 16, .cj (.t 1), some (15, true)⟩,
 ⟨some 17, .il 176 [(.t 2)], some (15, true)⟩,
 ⟨some 18, .call (.f 175) [(.t 16), (.t 17)], some (15, true)⟩,
 ⟨some 19, .un .not (.t 18), some (15, true)⟩,
 ro 20 (.pick (.t 15) (.t 19) (.c (.bool false))),
 aM 4 20] (some [4])) .ret
def amf : J := .seq (.R [ro 2 (.cU 94 (.t 0)),
 bk 4 false] (some [1, 2])) ame
theorem amg : bj ⟨21, [0, 1]⟩ (Tryz.f110.body.getD .skip) = some amf.strip := by kernel_rfl
def amh : J := .seq (.R [ae 3 0,
 ro 4 (.call (.f 210) [(.t 3), (.c (.int .i64 10))]),
 aM 2 4] (some [2])) .ret
def ami : J := .seq (.R [ro 2 (.fN (.c (.str [])))] (some [0])) amh
theorem amj : bj ⟨5, [0]⟩ (Tryz.f144.body.getD .skip) = some ami.strip := by kernel_rfl
def amk : J := .seq (.R [ae 3 0,
 ro 4 (.call (.f 125) [(.t 3), (.c (.int .i64 (-1000000000000))), (.c (.int .i64 1000000000000))]),
 eu 5 4,
 aM 2 5] (some [2])) .ret
def aml : J := .seq (.R [bk 2 false] (some [0])) amk
theorem amm : bj ⟨6, [0]⟩ (Tryz.f316.body.getD .skip) = some aml.strip := by kernel_rfl
def amn : J := .seq (.R [ae 17 5,
 aM 4 17] (some [4])) .ret
def amo : J := .cond (.t 16) amn .skip
def amp : J := .seq (.R [ae 11 1,
 ae 12 0,
 ae 13 5,
 cM 14 22 12 13,
 aO 15 2 14,
 ro 16 (.call (.t 11) [(.t 15)])] (some [0, 1, 5, 7, 8, 16])) amo
def amq : J := .R [ba 18 .add 3 8 1,
 ae 8 18] (some [0, 1, 7, 8])
def amr : J := .seq (.block 1 (.seq (.R [ae 10 8,
 aM 5 10] (some [0, 1, 5, 7, 8])) amp)) amq
def ams : J := .seq (.cond (.t 9) .skip (.exit 0)) amr
def MA : J := .seq (.R [bX 9 .lss 3 8 7] (some [0, 1, 7, 8, 9])) ams
def amt : J := .block 0 (.loop MA)
def amu : J := .seq (.R [bf 4 (-1)] (some [4])) .ret
def amv : J := .seq (.seq (.R [ae 6 0,
 bV 7 22 6,
 kQ 8 0] (some [0, 1, 7, 8])) amt) amu
def amw : J := .seq (.R [bf 4 0] (some [0, 1])) amv
theorem amx : bj ⟨19, [0, 1]⟩ (Tryz.f217.body.getD .skip) = some amw.strip := by kernel_rfl
def amy : J := .seq (.R [ae 5 0,
 ae 6 1,
 ej 7 217 5 6,
 ba 8 .geq 3 7 0,
 aM 4 8] (some [4])) .ret
def amz : J := .seq (.R [bk 4 false] (some [0, 1])) amy
theorem amA : bj ⟨9, [0, 1]⟩ (Tryz.f149.body.getD .skip) = some amz.strip := by kernel_rfl
def amB : J := .seq (.R [ae 3 0,
 bV 4 22 3,
 ba 5 .leq 3 4 64,
 ae 6 5,
 ⟨some 7, .cj (.t 0), some (6, true)⟩,
 ⟨some 8, .call (.f 149) [(.t 7), (.f 316)], some (6, true)⟩,
 ⟨some 9, .un .not (.t 8), some (6, true)⟩,
 ro 10 (.pick (.t 6) (.t 9) (.c (.bool false))),
 aM 2 10] (some [2])) .ret
def amC : J := .seq (.R [bk 2 false] (some [0])) amB
theorem amD : bj ⟨11, [0]⟩ (Tryz.f294.body.getD .skip) = some amC.strip := by kernel_rfl
def amE : J := .R [ae 18 5,
 ae 19 6,
 ae 20 7,
 d_ 21 144 20,
 cM 22 49 18 19,
 eN 9 22 21] (some [1, 5, 11, 12, 13])
def amF : J := .R [ba 23 .add 3 13 1,
 ae 13 23] (some [1, 5, 11, 12, 13])
def amG : J := .seq (.block 1 (.seq (.R [ae 15 13,
 cM 16 22 11 13,
 aO 17 2 16,
 aM 6 15,
 aM 7 17] (some [1, 5, 6, 7, 11, 12, 13])) amE)) amF
def amH : J := .seq (.cond (.t 14) .skip (.exit 0)) amG
def MB : J := .seq (.R [bX 14 .lss 3 13 12] (some [1, 5, 11, 12, 13, 14])) amH
def amI : J := .block 0 (.loop MB)
def amJ : J := .seq (.R [ae 24 5,
 ae 25 1,
 ej 26 178 24 25,
 aM 4 26] (some [4])) .ret
def amK : J := .seq (.seq (.R [ae 11 0,
 bV 12 22 11,
 kQ 13 0] (some [1, 5, 11, 12, 13])) amI) amJ
def amL : J := .seq (.R [ae 8 0,
 bV 9 22 8,
 ro 10 (.er 49 (.t 9) (.t 9)),
 aM 5 10] (some [0, 1, 5])) amK
def amM : J := .seq (.R [ro 4 (.fN (.c (.str [])))] (some [0, 1])) amL
theorem amN : bj ⟨27, [0, 1]⟩ (Tryz.f134.body.getD .skip) = some amM.strip := by kernel_rfl
def amO : J := .seq (.R [ro 2 (.fN (.c (.str [])))] (some [2])) .ret
def amP : J := .seq (.R [ro 2 (.fN (.c (.str [45])))] (some [2])) .ret
def amQ : J := .cond (.t 7) amP .skip
def amR : J := .seq (.R [ae 8 0,
 bV 9 22 8,
 ba 10 .eql 3 9 0,
 aM 7 10] (some [0, 7])) amQ
def amS : J := .cond (.t 3) amO amR
def amT : J := .seq (.R [ae 11 0,
 ro 12 (.call (.f 134) [(.t 11), (.c (.str [44]))]),
 aM 2 12] (some [2])) .ret
def amU : J := .seq (.block 0 (.seq (.R [ae 4 0,
 d_ 5 294 4,
 eu 6 5,
 aM 3 6] (some [0, 3])) amS)) amT
def amV : J := .seq (.R [ro 2 (.fN (.c (.str [])))] (some [0])) amU
theorem amW : bj ⟨13, [0]⟩ (Tryz.f249.body.getD .skip) = some amV.strip := by kernel_rfl
def amX : J := .seq (.fO [a1 3 74 1 1,
 aO 4 2 3,
 d_ 5 144 4,
 ro 6 (.b1 .add 9 (.t 5) (.c (.str [58]))),
 a1 7 74 1 2,
 aO 8 22 7,
 d_ 9 249 8,
 bX 10 .add 9 6 9,
 aM 2 10] [[], [0], [1], [2], [], [4], [5, 2], [3, 6], [7, 6, 0, 1, 2, 3, 4, 5, 6, 7]] (some [2])) .ret
def amY : J := .seq (.R [ro 1 (.cU 74 (.t 0)),
 ro 2 (.fN (.c (.str [])))] (some [1])) amX
theorem amZ : bj ⟨11, [0]⟩ (Tryz.f177.body.getD .skip) = some amY.strip := by kernel_rfl
def am0 : J := .fO [ae 14 5,
 a1 15 94 2 0,
 aO 16 72 15,
 a1 17 74 7 0,
 aO 18 2 17,
 cM 19 72 16 18,
 a1 20 158 19 0,
 aO 21 9 20,
 ro 22 (.b1 .add 9 (.t 21) (.c (.str [58]))),
 aO 23 74 7,
 d_ 24 177 23,
 bX 25 .add 9 22 24,
 ED 26 49 25,
 zt 27 49 49 14 26,
 aM 5 27] [[], [], [1], [], [3], [2, 4], [5], [6], [7], [], [9], [8, 10], [11], [0, 12, 10], [13, 13, 0, 1, 2, 3, 4, 5, 6, 7, 8, 9, 10, 11, 12, 13]] (some [2, 5, 8, 9, 10])
def am1 : J := .R [ba 28 .add 3 10 1,
 ae 10 28] (some [2, 5, 8, 9, 10])
def am2 : J := .seq (.block 1 (.seq (.R [cM 12 96 8 10,
 aO 13 74 12,
 iA 7 74,
 eN 74 7 13] (some [2, 5, 7, 8, 9, 10])) am0)) am1
def am3 : J := .seq (.cond (.t 11) .skip (.exit 0)) am2
def MC : J := .seq (.R [bX 11 .lss 3 10 9] (some [2, 5, 8, 9, 10, 11])) am3
def am4 : J := .block 0 (.loop MC)
def am5 : J := .seq (.R [ae 29 5,
 ro 30 (.call (.f 178) [(.t 29), (.c (.str [32]))]),
 aM 4 30] (some [4])) .ret
def am6 : J := .seq (.seq (.R [ae 8 1,
 bV 9 96 8,
 kQ 10 0] (some [2, 5, 8, 9, 10])) am4) am5
def am7 : J := .seq (.R [oj 5] (some [1, 2, 5])) am6
def am8 : J := .seq (.R [ro 2 (.cU 94 (.t 0)),
 ro 4 (.fN (.c (.str [])))] (some [1, 2])) am7
theorem am9 : bj ⟨31, [0, 1]⟩ (Tryz.f111.body.getD .skip) = some am8.strip := by kernel_rfl
def am_ : J := .seq (.R [ro 4 (.fN (.c (.str [])))] (some [4])) .ret
def ana : J := .cond (.t 8) am_ .skip
def anb : J := .seq (.R [aO 9 94 2,
 ae 10 1,
 ej 11 111 9 10,
 aM 4 11] (some [4])) .ret
def anc : J := .seq (.seq (.R [aO 5 94 2,
 ae 6 1,
 ej 7 110 5 6,
 eu 8 7] (some [1, 2, 8])) ana) anb
def ane : J := .seq (.R [ro 2 (.cU 94 (.t 0)),
 ro 4 (.fN (.c (.str [])))] (some [1, 2])) anc
theorem anf : bj ⟨12, [0, 1]⟩ (Tryz.f61.body.getD .skip) = some ane.strip := by kernel_rfl
def ang : J := .seq (.R [bk 4 false] (some [4])) .ret
def anh : J := .cond (.t 9) ang .skip
def ani : J := .seq (.R [bk 4 false] (some [4])) .ret
def anj : J := .cond (.t 14) ani .skip
def ank : J := .seq (.R [bk 4 true] (some [4])) .ret
def anl : J := .seq (.seq (.R [a1 10 278 2 1,
 aO 11 2 10,
 a1 12 278 3 1,
 aO 13 2 12,
 bX 14 .neq 2 11 13] (some [14])) anj) ank
def anm : J := .seq (.seq (.R [a1 5 278 2 0,
 aO 6 2 5,
 a1 7 278 3 0,
 aO 8 2 7,
 bX 9 .neq 2 6 8] (some [2, 3, 9])) anh) anl
def ann : J := .seq (.R [ro 2 (.cU 278 (.t 0)),
 ro 3 (.cU 278 (.t 1)),
 bk 4 false] (some [2, 3])) anm
theorem ano : bj ⟨15, [0, 1]⟩ (Tryz.f265.body.getD .skip) = some ann.strip := by kernel_rfl
def anp : J := .seq (.R [bk 4 false] (some [4])) .ret
def anq : J := .cond (.t 10) anp .skip
def anr : J := .cond (.t 14) .skip (.exit 0)
def ans : J := .seq (.R [bk 4 false] (some [4])) .ret
def ant : J := .cond (.t 26) ans .skip
def anu : J := .R [ae 15 5,
 ba 16 .add 3 15 1,
 aM 5 16] (some [0, 1, 5])
def anv : J := .seq (.block 1 (.seq (.fO [ae 17 0,
 ae 18 5,
 cM 19 186 17 18,
 aO 20 278 19,
 ae 21 1,
 ae 22 5,
 cM 23 186 21 22,
 aO 24 278 23,
 ej 25 265 20 24,
 eu 26 25] [[], [], [0, 1], [2], [], [], [4, 5], [6], [3, 7], [8]] (some [0, 1, 5, 26])) ant)) anu
def MD : J := .seq (.seq (.R [ae 11 5,
 ae 12 0,
 bV 13 186 12,
 bX 14 .lss 3 11 13] (some [0, 1, 5, 14])) anr) anv
def anw : J := .block 0 (.loop MD)
def anx : J := .seq (.R [bk 4 true] (some [4])) .ret
def anz : J := .seq (.seq (.R [bf 5 0] (some [0, 1, 5])) anw) anx
def anA : J := .seq (.seq (.R [ae 6 0,
 bV 7 186 6,
 ae 8 1,
 bV 9 186 8,
 bX 10 .neq 3 7 9] (some [0, 1, 10])) anq) anz
def anB : J := .seq (.R [bk 4 false] (some [0, 1])) anA
theorem anC : bj ⟨27, [0, 1]⟩ (Tryz.f205.body.getD .skip) = some anB.strip := by kernel_rfl
def anD : J := .seq (.R [bk 4 false] (some [4])) .ret
def anE : J := .cond (.t 10) anD .skip
def anF : J := .cond (.t 14) .skip (.exit 0)
def anG : J := .seq (.R [bk 4 false] (some [4])) .ret
def anH : J := .cond (.t 26) anG .skip
def anI : J := .R [ae 15 5,
 ba 16 .add 3 15 1,
 aM 5 16] (some [0, 1, 5])
def anJ : J := .seq (.block 1 (.seq (.fO [ae 17 0,
 ae 18 5,
 cM 19 187 17 18,
 aO 20 186 19,
 ae 21 1,
 ae 22 5,
 cM 23 187 21 22,
 aO 24 186 23,
 ej 25 205 20 24,
 eu 26 25] [[], [], [0, 1], [2], [], [], [4, 5], [6], [3, 7], [8]] (some [0, 1, 5, 26])) anH)) anI
def ME : J := .seq (.seq (.R [ae 11 5,
 ae 12 0,
 bV 13 187 12,
 bX 14 .lss 3 11 13] (some [0, 1, 5, 14])) anF) anJ
def anK : J := .block 0 (.loop ME)
def anL : J := .seq (.R [bk 4 true] (some [4])) .ret
def anM : J := .seq (.seq (.R [bf 5 0] (some [0, 1, 5])) anK) anL
def anN : J := .seq (.seq (.R [ae 6 0,
 bV 7 187 6,
 ae 8 1,
 bV 9 187 8,
 bX 10 .neq 3 7 9] (some [0, 1, 10])) anE) anM
def anO : J := .seq (.R [bk 4 false] (some [0, 1])) anN
theorem anP : bj ⟨27, [0, 1]⟩ (Tryz.f206.body.getD .skip) = some anO.strip := by kernel_rfl
def anQ : J := .seq (.R [bk 4 false] (some [4])) .ret
def anR : J := .cond (.t 9) anQ .skip
def anS : J := .seq (.R [bk 4 false] (some [4])) .ret
def anT : J := .cond (.t 14) anS .skip
def anU : J := .seq (.R [bk 4 false] (some [4])) .ret
def anV : J := .cond (.t 19) anU .skip
def anW : J := .seq (.R [bk 4 false] (some [4])) .ret
def anX : J := .cond (.t 25) anW .skip
def anY : J := .seq (.R [bk 4 true] (some [4])) .ret
def anZ : J := .seq (.seq (.R [a1 20 230 2 3,
 aO 21 187 20,
 a1 22 230 3 3,
 aO 23 187 22,
 ej 24 206 21 23,
 eu 25 24] (some [25])) anX) anY
def an0 : J := .seq (.seq (.R [a1 15 230 2 2,
 aO 16 9 15,
 a1 17 230 3 2,
 aO 18 9 17,
 bX 19 .neq 9 16 18] (some [2, 3, 19])) anV) anZ
def an1 : J := .seq (.seq (.R [a1 10 230 2 1,
 aO 11 2 10,
 a1 12 230 3 1,
 aO 13 2 12,
 bX 14 .neq 2 11 13] (some [2, 3, 14])) anT) an0
def an2 : J := .seq (.seq (.R [a1 5 230 2 0,
 aO 6 2 5,
 a1 7 230 3 0,
 aO 8 2 7,
 bX 9 .neq 2 6 8] (some [2, 3, 9])) anR) an1
def an3 : J := .seq (.R [ro 2 (.cU 230 (.t 0)),
 ro 3 (.cU 230 (.t 1)),
 bk 4 false] (some [2, 3])) an2
theorem an4 : bj ⟨26, [0, 1]⟩ (Tryz.f245.body.getD .skip) = some an3.strip := by kernel_rfl
def an5 : J := .seq (.R [bk 4 false] (some [4])) .ret
def an6 : J := .cond (.t 10) an5 .skip
def an7 : J := .cond (.t 14) .skip (.exit 0)
def an8 : J := .seq (.R [bk 4 false] (some [4])) .ret
def an9 : J := .cond (.t 26) an8 .skip
def an_ : J := .R [ae 15 5,
 ba 16 .add 3 15 1,
 aM 5 16] (some [0, 1, 5])
def aoa : J := .seq (.block 1 (.seq (.fO [ae 17 0,
 ae 18 5,
 cM 19 156 17 18,
 aO 20 230 19,
 ae 21 1,
 ae 22 5,
 cM 23 156 21 22,
 aO 24 230 23,
 ej 25 245 20 24,
 eu 26 25] [[], [], [0, 1], [2], [], [], [4, 5], [6], [3, 7], [8]] (some [0, 1, 5, 26])) an9)) an_
def MF : J := .seq (.seq (.R [ae 11 5,
 ae 12 0,
 bV 13 156 12,
 bX 14 .lss 3 11 13] (some [0, 1, 5, 14])) an7) aoa
def aob : J := .block 0 (.loop MF)
def aoc : J := .seq (.R [bk 4 true] (some [4])) .ret
def aod : J := .seq (.seq (.R [bf 5 0] (some [0, 1, 5])) aob) aoc
def aoe : J := .seq (.seq (.R [ae 6 0,
 bV 7 156 6,
 ae 8 1,
 bV 9 156 8,
 bX 10 .neq 3 7 9] (some [0, 1, 10])) an6) aod
def aof : J := .seq (.R [bk 4 false] (some [0, 1])) aoe
theorem aog : bj ⟨27, [0, 1]⟩ (Tryz.f165.body.getD .skip) = some aof.strip := by kernel_rfl
def aoh : J := .seq (.R [bk 4 false] (some [4])) .ret
def aoi : J := .cond (.t 9) aoh .skip
def aoj : J := .seq (.R [bk 4 false] (some [4])) .ret
def aok : J := .cond (.t 14) aoj .skip
def aol : J := .seq (.R [bk 4 false] (some [4])) .ret
def aom : J := .cond (.t 20) aol .skip
def aon : J := .seq (.R [bk 4 true] (some [4])) .ret
def aoo : J := .seq (.seq (.R [a1 15 158 2 2,
 aO 16 156 15,
 a1 17 158 3 2,
 aO 18 156 17,
 ej 19 165 16 18,
 eu 20 19] (some [20])) aom) aon
def aop : J := .seq (.seq (.R [a1 10 158 2 1,
 aO 11 2 10,
 a1 12 158 3 1,
 aO 13 2 12,
 bX 14 .neq 2 11 13] (some [2, 3, 14])) aok) aoo
def aoq : J := .seq (.seq (.R [a1 5 158 2 0,
 aO 6 9 5,
 a1 7 158 3 0,
 aO 8 9 7,
 bX 9 .neq 9 6 8] (some [2, 3, 9])) aoi) aop
def aor : J := .seq (.R [ro 2 (.cU 158 (.t 0)),
 ro 3 (.cU 158 (.t 1)),
 bk 4 false] (some [2, 3])) aoq
theorem aos : bj ⟨21, [0, 1]⟩ (Tryz.f102.body.getD .skip) = some aor.strip := by kernel_rfl
def aot : J := .seq (.R [bk 4 false] (some [4])) .ret
def aou : J := .cond (.t 10) aot .skip
def aov : J := .cond (.t 14) .skip (.exit 0)
def aow : J := .seq (.R [bk 4 false] (some [4])) .ret
def aox : J := .cond (.t 26) aow .skip
def aoy : J := .R [ae 15 5,
 ba 16 .add 3 15 1,
 aM 5 16] (some [0, 1, 5])
def aoz : J := .seq (.block 1 (.seq (.fO [ae 17 0,
 ae 18 5,
 cM 19 72 17 18,
 aO 20 158 19,
 ae 21 1,
 ae 22 5,
 cM 23 72 21 22,
 aO 24 158 23,
 ej 25 102 20 24,
 eu 26 25] [[], [], [0, 1], [2], [], [], [4, 5], [6], [3, 7], [8]] (some [0, 1, 5, 26])) aox)) aoy
def MG : J := .seq (.seq (.R [ae 11 5,
 ae 12 0,
 bV 13 72 12,
 bX 14 .lss 3 11 13] (some [0, 1, 5, 14])) aov) aoz
def aoA : J := .block 0 (.loop MG)
def aoB : J := .seq (.R [bk 4 true] (some [4])) .ret
def aoC : J := .seq (.seq (.R [bf 5 0] (some [0, 1, 5])) aoA) aoB
def aoD : J := .seq (.seq (.R [ae 6 0,
 bV 7 72 6,
 ae 8 1,
 bV 9 72 8,
 bX 10 .neq 3 7 9] (some [0, 1, 10])) aou) aoC
def aoE : J := .seq (.R [bk 4 false] (some [0, 1])) aoD
theorem aoF : bj ⟨27, [0, 1]⟩ (Tryz.f50.body.getD .skip) = some aoE.strip := by kernel_rfl
def aoG : J := .seq (.R [bk 4 false] (some [4])) .ret
def aoH : J := .cond (.t 10) aoG .skip
def aoI : J := .cond (.t 14) .skip (.exit 0)
def aoJ : J := .seq (.R [bk 4 false] (some [4])) .ret
def aoK : J := .cond (.t 25) aoJ .skip
def aoL : J := .R [ae 15 5,
 ba 16 .add 3 15 1,
 aM 5 16] (some [0, 1, 5])
def aoM : J := .seq (.block 1 (.seq (.fO [ae 17 0,
 ae 18 5,
 cM 19 22 17 18,
 aO 20 2 19,
 ae 21 1,
 ae 22 5,
 cM 23 22 21 22,
 aO 24 2 23,
 bX 25 .neq 2 20 24] [[], [], [0, 1], [2], [], [], [4, 5], [6], [3, 7]] (some [0, 1, 5, 25])) aoK)) aoL
def MH : J := .seq (.seq (.R [ae 11 5,
 ae 12 0,
 bV 13 22 12,
 bX 14 .lss 3 11 13] (some [0, 1, 5, 14])) aoI) aoM
def aoN : J := .block 0 (.loop MH)
def aoO : J := .seq (.R [bk 4 true] (some [4])) .ret
def aoP : J := .seq (.seq (.R [bf 5 0] (some [0, 1, 5])) aoN) aoO
def aoQ : J := .seq (.seq (.R [ae 6 0,
 bV 7 22 6,
 ae 8 1,
 bV 9 22 8,
 bX 10 .neq 3 7 9] (some [0, 1, 10])) aoH) aoP
def aoR : J := .seq (.R [bk 4 false] (some [0, 1])) aoQ
theorem aoS : bj ⟨26, [0, 1]⟩ (Tryz.f18.body.getD .skip) = some aoR.strip := by kernel_rfl
def aoT : J := .seq (.R [bk 4 false] (some [4])) .ret
def aoU : J := .cond (.t 9) aoT .skip
def aoV : J := .seq (.R [bk 4 false] (some [4])) .ret
def aoW : J := .cond (.t 15) aoV .skip
def aoX : J := .seq (.R [bk 4 true] (some [4])) .ret
def aoY : J := .seq (.seq (.R [a1 10 248 2 1,
 aO 11 22 10,
 a1 12 248 3 1,
 aO 13 22 12,
 ej 14 18 11 13,
 eu 15 14] (some [15])) aoW) aoX
def aoZ : J := .seq (.seq (.R [a1 5 248 2 0,
 aO 6 2 5,
 a1 7 248 3 0,
 aO 8 2 7,
 bX 9 .neq 2 6 8] (some [2, 3, 9])) aoU) aoY
def ao0 : J := .seq (.R [ro 2 (.cU 248 (.t 0)),
 ro 3 (.cU 248 (.t 1)),
 bk 4 false] (some [2, 3])) aoZ
theorem ao1 : bj ⟨16, [0, 1]⟩ (Tryz.f179.body.getD .skip) = some ao0.strip := by kernel_rfl
def ao2 : J := .seq (.R [bk 4 false] (some [4])) .ret
def ao3 : J := .cond (.t 10) ao2 .skip
def ao4 : J := .cond (.t 14) .skip (.exit 0)
def ao5 : J := .seq (.R [bk 4 false] (some [4])) .ret
def ao6 : J := .cond (.t 26) ao5 .skip
def ao7 : J := .R [ae 15 5,
 ba 16 .add 3 15 1,
 aM 5 16] (some [0, 1, 5])
def ao8 : J := .seq (.block 1 (.seq (.fO [ae 17 0,
 ae 18 5,
 cM 19 91 17 18,
 aO 20 248 19,
 ae 21 1,
 ae 22 5,
 cM 23 91 21 22,
 aO 24 248 23,
 ej 25 179 20 24,
 eu 26 25] [[], [], [0, 1], [2], [], [], [4, 5], [6], [3, 7], [8]] (some [0, 1, 5, 26])) ao6)) ao7
def MI : J := .seq (.seq (.R [ae 11 5,
 ae 12 0,
 bV 13 91 12,
 bX 14 .lss 3 11 13] (some [0, 1, 5, 14])) ao4) ao8
def ao9 : J := .block 0 (.loop MI)
def ao_ : J := .seq (.R [bk 4 true] (some [4])) .ret
def apa : J := .seq (.seq (.R [bf 5 0] (some [0, 1, 5])) ao9) ao_
def apb : J := .seq (.seq (.R [ae 6 0,
 bV 7 91 6,
 ae 8 1,
 bV 9 91 8,
 bX 10 .neq 3 7 9] (some [0, 1, 10])) ao3) apa
def apc : J := .seq (.R [bk 4 false] (some [0, 1])) apb
theorem apd : bj ⟨27, [0, 1]⟩ (Tryz.f112.body.getD .skip) = some apc.strip := by kernel_rfl
def ape : J := .seq (.R [bk 4 false] (some [4])) .ret
def apf : J := .cond (.t 9) ape .skip
def apg : J := .seq (.R [bk 4 false] (some [4])) .ret
def aph : J := .cond (.t 14) apg .skip
def api : J := .seq (.R [bk 4 false] (some [4])) .ret
def apj : J := .cond (.t 19) api .skip
def apk : J := .seq (.R [bk 4 true] (some [4])) .ret
def apl : J := .seq (.seq (.R [a1 15 250 2 2,
 aO 16 9 15,
 a1 17 250 3 2,
 aO 18 9 17,
 bX 19 .neq 9 16 18] (some [19])) apj) apk
def apm : J := .seq (.seq (.R [a1 10 250 2 1,
 aO 11 9 10,
 a1 12 250 3 1,
 aO 13 9 12,
 bX 14 .neq 9 11 13] (some [2, 3, 14])) aph) apl
def apn : J := .seq (.seq (.R [a1 5 250 2 0,
 aO 6 9 5,
 a1 7 250 3 0,
 aO 8 9 7,
 bX 9 .neq 9 6 8] (some [2, 3, 9])) apf) apm
def apo : J := .seq (.R [ro 2 (.cU 250 (.t 0)),
 ro 3 (.cU 250 (.t 1)),
 bk 4 false] (some [2, 3])) apn
theorem apq : bj ⟨20, [0, 1]⟩ (Tryz.f180.body.getD .skip) = some apo.strip := by kernel_rfl
def apr : J := .seq (.R [bk 4 false] (some [4])) .ret
def aps : J := .cond (.t 10) apr .skip
def apt : J := .cond (.t 14) .skip (.exit 0)
def apu : J := .seq (.R [bk 4 false] (some [4])) .ret
def apv : J := .cond (.t 26) apu .skip
def apw : J := .R [ae 15 5,
 ba 16 .add 3 15 1,
 aM 5 16] (some [0, 1, 5])
def apx : J := .seq (.block 1 (.seq (.fO [ae 17 0,
 ae 18 5,
 cM 19 92 17 18,
 aO 20 250 19,
 ae 21 1,
 ae 22 5,
 cM 23 92 21 22,
 aO 24 250 23,
 ej 25 180 20 24,
 eu 26 25] [[], [], [0, 1], [2], [], [], [4, 5], [6], [3, 7], [8]] (some [0, 1, 5, 26])) apv)) apw
def MJ : J := .seq (.seq (.R [ae 11 5,
 ae 12 0,
 bV 13 92 12,
 bX 14 .lss 3 11 13] (some [0, 1, 5, 14])) apt) apx
def apy : J := .block 0 (.loop MJ)
def apz : J := .seq (.R [bk 4 true] (some [4])) .ret
def apA : J := .seq (.seq (.R [bf 5 0] (some [0, 1, 5])) apy) apz
def apB : J := .seq (.seq (.R [ae 6 0,
 bV 7 92 6,
 ae 8 1,
 bV 9 92 8,
 bX 10 .neq 3 7 9] (some [0, 1, 10])) aps) apA
def apC : J := .seq (.R [bk 4 false] (some [0, 1])) apB
theorem apD : bj ⟨27, [0, 1]⟩ (Tryz.f113.body.getD .skip) = some apC.strip := by kernel_rfl
def apE : J := .seq (.R [bk 4 false] (some [4])) .ret
def apF : J := .cond (.t 10) apE .skip
def apG : J := .cond (.t 14) .skip (.exit 0)
def apH : J := .seq (.R [bk 4 false] (some [4])) .ret
def apI : J := .cond (.t 25) apH .skip
def apJ : J := .R [ae 15 5,
 ba 16 .add 3 15 1,
 aM 5 16] (some [0, 1, 5])
def apK : J := .seq (.block 1 (.seq (.fO [ae 17 0,
 ae 18 5,
 cM 19 49 17 18,
 aO 20 9 19,
 ae 21 1,
 ae 22 5,
 cM 23 49 21 22,
 aO 24 9 23,
 bX 25 .neq 9 20 24] [[], [], [0, 1], [2], [], [], [4, 5], [6], [3, 7]] (some [0, 1, 5, 25])) apI)) apJ
def MK : J := .seq (.seq (.R [ae 11 5,
 ae 12 0,
 bV 13 49 12,
 bX 14 .lss 3 11 13] (some [0, 1, 5, 14])) apG) apK
def apL : J := .block 0 (.loop MK)
def apM : J := .seq (.R [bk 4 true] (some [4])) .ret
def apN : J := .seq (.seq (.R [bf 5 0] (some [0, 1, 5])) apL) apM
def apO : J := .seq (.seq (.R [ae 6 0,
 bV 7 49 6,
 ae 8 1,
 bV 9 49 8,
 bX 10 .neq 3 7 9] (some [0, 1, 10])) apF) apN
def apP : J := .seq (.R [bk 4 false] (some [0, 1])) apO
theorem apQ : bj ⟨26, [0, 1]⟩ (Tryz.f32.body.getD .skip) = some apP.strip := by kernel_rfl
def apR : J := .seq (.R [bk 4 false] (some [4])) .ret
def apS : J := .cond (.t 10) apR .skip
def apT : J := .seq (.R [bk 4 false] (some [4])) .ret
def apU : J := .cond (.t 16) apT .skip
def apV : J := .seq (.R [bk 4 false] (some [4])) .ret
def apW : J := .cond (.t 22) apV .skip
def apX : J := .seq (.R [bk 4 false] (some [4])) .ret
def apY : J := .cond (.t 28) apX .skip
def apZ : J := .seq (.R [bk 4 false] (some [4])) .ret
def ap0 : J := .cond (.t 34) apZ .skip
def ap1 : J := .seq (.R [bk 4 true] (some [4])) .ret
def ap2 : J := .seq (.seq (.R [a1 29 94 2 4,
 aO 30 49 29,
 a1 31 94 3 4,
 aO 32 49 31,
 ej 33 32 30 32,
 eu 34 33] (some [34])) ap0) ap1
def ap3 : J := .seq (.seq (.R [a1 23 94 2 3,
 aO 24 49 23,
 a1 25 94 3 3,
 aO 26 49 25,
 ej 27 32 24 26,
 eu 28 27] (some [2, 3, 28])) apY) ap2
def ap4 : J := .seq (.seq (.R [a1 17 94 2 2,
 aO 18 92 17,
 a1 19 94 3 2,
 aO 20 92 19,
 ej 21 113 18 20,
 eu 22 21] (some [2, 3, 22])) apW) ap3
def ap5 : J := .seq (.seq (.R [a1 11 94 2 1,
 aO 12 91 11,
 a1 13 94 3 1,
 aO 14 91 13,
 ej 15 112 12 14,
 eu 16 15] (some [2, 3, 16])) apU) ap4
def ap6 : J := .seq (.seq (.R [a1 5 94 2 0,
 aO 6 72 5,
 a1 7 94 3 0,
 aO 8 72 7,
 ej 9 50 6 8,
 eu 10 9] (some [2, 3, 10])) apS) ap5
def ap7 : J := .seq (.R [ro 2 (.cU 94 (.t 0)),
 ro 3 (.cU 94 (.t 1)),
 bk 4 false] (some [2, 3])) ap6
theorem sD : bj ⟨35, [0, 1]⟩ (Tryz.f62.body.getD .skip) = some ap7.strip := by kernel_rfl
def ap8 : J := .seq (.R [bk 4 false] (some [4])) .ret
def ap9 : J := .cond (.t 9) ap8 .skip
def ap_ : J := .seq (.R [bk 4 false] (some [4])) .ret
def aqa : J := .cond (.t 14) ap_ .skip
def aqb : J := .seq (.R [bk 4 false] (some [4])) .ret
def aqc : J := .cond (.t 20) aqb .skip
def aqd : J := .seq (.R [bk 4 true] (some [4])) .ret
def aqe : J := .seq (.seq (.R [a1 15 74 2 2,
 aO 16 22 15,
 a1 17 74 3 2,
 aO 18 22 17,
 ej 19 18 16 18,
 eu 20 19] (some [20])) aqc) aqd
def aqf : J := .seq (.seq (.R [a1 10 74 2 1,
 aO 11 2 10,
 a1 12 74 3 1,
 aO 13 2 12,
 bX 14 .neq 2 11 13] (some [2, 3, 14])) aqa) aqe
def aqg : J := .seq (.seq (.R [a1 5 74 2 0,
 aO 6 2 5,
 a1 7 74 3 0,
 aO 8 2 7,
 bX 9 .neq 2 6 8] (some [2, 3, 9])) ap9) aqf
def aqh : J := .seq (.R [ro 2 (.cU 74 (.t 0)),
 ro 3 (.cU 74 (.t 1)),
 bk 4 false] (some [2, 3])) aqg
theorem aqi : bj ⟨21, [0, 1]⟩ (Tryz.f51.body.getD .skip) = some aqh.strip := by kernel_rfl
def aqj : J := .seq (.R [bk 4 false] (some [4])) .ret
def aqk : J := .cond (.t 10) aqj .skip
def aql : J := .cond (.t 14) .skip (.exit 0)
def aqm : J := .seq (.R [bk 4 false] (some [4])) .ret
def aqn : J := .cond (.t 26) aqm .skip
def aqo : J := .R [ae 15 5,
 ba 16 .add 3 15 1,
 aM 5 16] (some [0, 1, 5])
def aqp : J := .seq (.block 1 (.seq (.fO [ae 17 0,
 ae 18 5,
 cM 19 96 17 18,
 aO 20 74 19,
 ae 21 1,
 ae 22 5,
 cM 23 96 21 22,
 aO 24 74 23,
 ej 25 51 20 24,
 eu 26 25] [[], [], [0, 1], [2], [], [], [4, 5], [6], [3, 7], [8]] (some [0, 1, 5, 26])) aqn)) aqo
def ML : J := .seq (.seq (.R [ae 11 5,
 ae 12 0,
 bV 13 96 12,
 bX 14 .lss 3 11 13] (some [0, 1, 5, 14])) aql) aqp
def aqq : J := .block 0 (.loop ML)
def aqr : J := .seq (.R [bk 4 true] (some [4])) .ret
def aqs : J := .seq (.seq (.R [bf 5 0] (some [0, 1, 5])) aqq) aqr
def aqt : J := .seq (.seq (.R [ae 6 0,
 bV 7 96 6,
 ae 8 1,
 bV 9 96 8,
 bX 10 .neq 3 7 9] (some [0, 1, 10])) aqk) aqs
def aqu : J := .seq (.R [bk 4 false] (some [0, 1])) aqt
theorem aqv : bj ⟨27, [0, 1]⟩ (Tryz.f63.body.getD .skip) = some aqu.strip := by kernel_rfl
def aqw : J := .seq (.R [bk 4 true] (some [4])) .ret
def aqx : J := .cond (.t 14) aqw .skip
def aqy : J := .seq (.R [bk 4 true] (some [4])) .ret
def aqz : J := .cond (.t 19) aqy .skip
def aqA : J := .seq (.R [bk 4 false] (some [4])) .ret
def aqB : J := .cond (.t 34) aqA .skip
def aqC : J := .seq (.R [bk 4 false] (some [4])) .ret
def aqD : J := .cond (.t 39) aqC .skip
def aqE : J := .seq (.R [bk 4 false] (some [4])) .ret
def aqF : J := .cond (.t 44) aqE .skip
def aqG : J := .seq (.R [bk 4 true] (some [4])) .ret
def aqH : J := .seq (.seq (.R [ae 40 8,
 ae 41 1,
 d_ 42 60 41,
 ej 43 63 40 42,
 eu 44 43] (some [44])) aqF) aqG
def aqI : J := .seq (.seq (.fO [aO 35 94 7,
 aO 36 86 2,
 d_ 37 59 36,
 ej 38 62 35 37,
 eu 39 38] [[], [], [1], [0, 2, 2], [3]] (some [1, 8, 39])) aqD) aqH
def aqJ : J := .seq (.seq (.R [ae 32 9,
 ae 33 6,
 bX 34 .neq 9 32 33] (some [1, 2, 7, 8, 34])) aqB) aqI
def aqK : J := .seq (.R [aO 29 94 7,
 ae 30 8,
 ej 31 61 29 30,
 aM 9 31] (some [1, 2, 6, 7, 8, 9])) aqJ
def aqL : J := .seq (.R [ae 27 1,
 d_ 28 60 27,
 aM 8 28] (some [1, 2, 6, 7, 8])) aqK
def aqM : J := .seq (.R [aO 25 86 2,
 d_ 26 59 25,
 iA 7 94,
 eN 94 7 26] (some [1, 2, 6, 7])) aqL
def aqN : J := .seq (.R [aO 20 86 2,
 d_ 21 59 20,
 ae 22 1,
 d_ 23 60 22,
 ej 24 58 21 23,
 aM 6 24] (some [1, 2, 6])) aqM
def aqO : J := .seq (.seq (.R [ae 18 5,
 ba 19 .lss 3 18 0] (some [1, 2, 19])) aqz) aqN
def aqP : J := .seq (.R [ae 15 1,
 ae 16 5,
 ej 17 57 15 16,
 aM 5 17] (some [1, 2, 5])) aqO
def aqQ : J := .seq (.seq (.R [ae 13 5,
 ba 14 .lss 3 13 0] (some [1, 2, 5, 14])) aqx) aqP
def aqR : J := .seq (.R [aO 10 86 2,
 ae 11 5,
 ej 12 56 10 11,
 aM 5 12] (some [1, 2, 5])) aqQ
def aqS : J := .seq (.R [bf 5 1048576] (some [1, 2, 5])) aqR
def aqT : J := .seq (.R [ro 2 (.cU 86 (.t 0)),
 bk 4 false] (some [1, 2])) aqS
theorem pe : bj ⟨45, [0, 1]⟩ (Tryz.f10.body.getD .skip) = some aqT.strip := by kernel_rfl
def aj := PLift.up (And.intro @Bool.not_true @Bool.not_false)
end Go.Proofs.YtgpmnlkgmadglaaGreatDoor
