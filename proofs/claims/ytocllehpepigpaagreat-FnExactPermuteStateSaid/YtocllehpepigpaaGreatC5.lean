/- Part of a proof that a law returns true for every input. No condition. -/
import Derived.Test.YtocllehpepigpaaGreatTb
import Derived.Test.YtocllehpepigpaaGreatFwL
import Derived.Test.YtocllehpepigpaaGreatP5
namespace Go.Proofs.YtocllehpepigpaaGreat
open Go Go.dg Go.e1
set_option linter.unusedSimpArgs false
def gn (x : hz) : I := .agg [.int .i64 x.Kind, .int .i64 x.Value]
theorem V2 (x : hz) : (gn x).share = gn x := by
 simp only [gn, dj]
theorem aBY (x : hz) : (gn x).de = true := by
 simp only [gn, I.de, I.hT, Bool.and_self]
def gz (x : List hz) : I := .slice (x.map gn)
theorem MZ (x : List hz) : (gz x).share = gz x := by
 simp only [gz, dj, @bR _ gn gn (fun _ => V2 _)]
def gL (x : iR) : I := .agg [.int .i64 x.Kind, .int .i64 x.Number, .str x.Name, .slice (x.cO.map gz)]
theorem M0 (x : iR) : (gL x).share = gL x := by
 simp only [gL, dj, @bR _ gz gz (fun _ => MZ _)]
def g9 (x : iE) : I := .agg [.str x.Name, .int .i64 x.dw, .slice (x.Body.map gL)]
theorem M1 (x : iE) : (g9 x).share = g9 x := by
 simp only [g9, dj, @bR _ gL gL (fun _ => M0 _)]
def a1 (x : Int) : I := .int .i64 x
theorem j6 (x : Int) : (a1 x).share = a1 x := by
 simp only [a1, dj]
theorem G4 (x : Int) : (a1 x).de = true := by
 simp only [a1, I.de, I.hT, Bool.and_self]
def g_ (x : iS) : I := .agg [.int .i64 x.dG, .slice (x.cF.map a1)]
theorem M3 (x : iS) : (g_ x).share = g_ x := by
 simp only [g_, dj, @bR _ a1 a1 (fun _ => j6 _)]
def gZ (x : iF) : I := .agg [.str x.Left, .str x.cp, .str x.Result]
theorem M4 (x : iF) : (gZ x).share = gZ x := by
 simp only [gZ, dj]
theorem aBZ (x : iF) : (gZ x).de = true := by
 simp only [gZ, I.de, I.hT, Bool.and_self]
def bG (x : List UInt8) : I := .str x
theorem ie (x : List UInt8) : (bG x).share = bG x := by
 simp only [bG, dj]
theorem M5 (x : List UInt8) : (bG x).de = true := by
 simp only [bG, I.de, I.hT, Bool.and_self]
def jv (x : k5) : I := .agg [.slice (x.eH.map g9), .slice (x.c_.map g_), .slice (x.hH.map gZ), .slice (x.hA.map bG), .slice (x.hB.map bG)]
theorem aB0 (x : k5) : (jv x).share = jv x := by
 simp only [jv, dj, @bR _ g9 g9 (fun _ => M1 _), @bR _ g_ g_ (fun _ => M3 _), @bR _ gZ gZ (fun _ => M4 _), @bR _ bG bG (fun _ => ie _)]
def gM (x : iG) : I := .agg [.int .i64 x.dG, .int .i64 x.Part, .slice (x.cF.map a1)]
theorem aB1 (x : iG) : (gM x).share = gM x := by
 simp only [gM, dj, @bR _ a1 a1 (fun _ => j6 _)]
def G5 (x : List iE) : I := .slice (x.map g9)
theorem aB2 (x : List iE) : (G5 x).share = G5 x := by
 simp only [G5, dj, @bR _ g9 g9 (fun _ => M1 _)]
def G6 (x : List iS) : I := .slice (x.map g_)
theorem aB3 (x : List iS) : (G6 x).share = G6 x := by
 simp only [G6, dj, @bR _ g_ g_ (fun _ => M3 _)]
def G7 (x : List iF) : I := .slice (x.map gZ)
theorem aB4 (x : List iF) : (G7 x).share = G7 x := by
 simp only [G7, dj, @bR _ gZ gZ (fun _ => M4 _)]
def zk (x : List (List UInt8)) : I := .slice (x.map bG)
theorem aB5 (x : List (List UInt8)) : (zk x).share = zk x := by
 simp only [zk, dj, @bR _ bG bG (fun _ => ie _)]
def G8 (x : List iR) : I := .slice (x.map gL)
theorem aB6 (x : List iR) : (G8 x).share = G8 x := by
 simp only [G8, dj, @bR _ gL gL (fun _ => M0 _)]
def G9 (x : List (List hz)) : I := .slice (x.map gz)
theorem aB7 (x : List (List hz)) : (G9 x).share = G9 x := by
 simp only [G9, dj, @bR _ gz gz (fun _ => MZ _)]
def zl (x : List Int) : I := .slice (x.map a1)
theorem aB8 (x : List Int) : (zl x).share = zl x := by
 simp only [zl, dj, @bR _ a1 a1 (fun _ => j6 _)]
def cf (x : b6) : I := .agg [.int .i64 x.Kind, .int .i64 x.Value]
theorem G_ (x : b6) : (cf x).share = cf x := by
 simp only [cf, dj]
theorem V3 (x : b6) : (cf x).de = true := by
 simp only [cf, I.de, I.hT, Bool.and_self]
def eS (x : List b6) : I := .slice (x.map cf)
theorem Ha (x : List b6) : (eS x).share = eS x := by
 simp only [eS, dj, @bR _ cf cf (fun _ => G_ _)]
def cG (x : bJ) : I := .agg [.int .i64 x.Kind, .int .i64 x.Number, .str x.Name, .slice (x.cO.map eS)]
theorem zm (x : bJ) : (cG x).share = cG x := by
 simp only [cG, dj, @bR _ eS eS (fun _ => Ha _)]
def bC (x : bk) : I := .agg [.str x.Name, .int .i64 x.dw, .slice (x.Body.map cG)]
theorem tH (x : bk) : (bC x).share = bC x := by
 simp only [bC, dj, @bR _ cG cG (fun _ => zm _)]
def fI (x : List b6) : I := .ao 2 (x.map cf)
theorem Hb (x : List b6) : (fI x).share = eS x := by
 simp only [fI, eS, dj, @bR _ cf cf (fun _ => G_ _)]
theorem M6 (x : List b6) : (fI x).de = true := by
 simp only [fI, I.de, I.hT, Bool.and_self, @kC _ cf (fun _ => V3 _)]
def fC (x : bJ) : I := .agg [.int .i64 x.Kind, .int .i64 x.Number, .str x.Name, .ao 1 (x.cO.map fI)]
theorem Hc (x : bJ) : (fC x).share = cG x := by
 simp only [fC, cG, dj, @bR _ fI eS (fun _ => Hb _)]
theorem M7 (x : bJ) : (fC x).de = true := by
 simp only [fC, I.de, I.hT, Bool.and_self, @kC _ fI (fun _ => M6 _)]
def ff (x : bk) : I := .agg [.str x.Name, .int .i64 x.dw, .ao 4 (x.Body.map fC)]
theorem qM (x : bk) : (ff x).share = bC x := by
 simp only [ff, bC, dj, @bR _ fC cG (fun _ => Hc _)]
theorem M8 (x : bk) : (ff x).de = true := by
 simp only [ff, I.de, I.hT, Bool.and_self, @kC _ fC (fun _ => M7 _)]
def Dn (x : List bJ) : I := .ao 4 (x.map fC)
def zn (x : List bJ) : I := .slice (x.map cG)
theorem aB9 (x : List bJ) : (zn x).share = zn x := by
 simp only [zn, dj, @bR _ cG cG (fun _ => zm _)]
theorem aB_ (x : List bJ) : (Dn x).share = zn x := by
 simp only [Dn, zn, dj, @bR _ fC cG (fun _ => Hc _)]
theorem aCa (x : List bJ) : (Dn x).de = true := by
 simp only [Dn, I.de, I.hT, Bool.and_self, @kC _ fC (fun _ => M7 _)]
def Dp (x : List (List b6)) : I := .ao 1 (x.map fI)
def zo (x : List (List b6)) : I := .slice (x.map eS)
theorem aCb (x : List (List b6)) : (zo x).share = zo x := by
 simp only [zo, dj, @bR _ eS eS (fun _ => Ha _)]
theorem aCc (x : List (List b6)) : (Dp x).share = zo x := by
 simp only [Dp, zo, dj, @bR _ fI eS (fun _ => Hb _)]
theorem aCd (x : List (List b6)) : (Dp x).de = true := by
 simp only [Dp, I.de, I.hT, Bool.and_self, @kC _ fI (fun _ => M6 _)]
def fp (x : dq) : I := .agg [.int .i64 x.dG, .slice (x.cF.map a1)]
theorem tI (x : dq) : (fp x).share = fp x := by
 simp only [fp, dj, @bR _ a1 a1 (fun _ => j6 _)]
def fq (x : dq) : I := .agg [.int .i64 x.dG, .ao 1 (x.cF.map a1)]
theorem qN (x : dq) : (fq x).share = fp x := by
 simp only [fq, fp, dj, @bR _ a1 a1 (fun _ => j6 _)]
theorem M9 (x : dq) : (fq x).de = true := by
 simp only [fq, I.de, I.hT, Bool.and_self, @kC _ a1 (fun _ => G4 _)]
def Dq (x : List Int) : I := .ao 1 (x.map a1)
theorem aCe (x : List Int) : (Dq x).share = zl x := by
 simp only [Dq, zl, dj, @bR _ a1 a1 (fun _ => j6 _)]
theorem aCf (x : List Int) : (Dq x).de = true := by
 simp only [Dq, I.de, I.hT, Bool.and_self, @kC _ a1 (fun _ => G4 _)]
def bx (x : cc) : I := .agg [.str x.Left, .str x.cp, .str x.Result]
theorem l9 (x : cc) : (bx x).share = bx x := by
 simp only [bx, dj]
theorem M_ (x : cc) : (bx x).de = true := by
 simp only [bx, I.de, I.hT, Bool.and_self]
def l_ (x : eo) : I := .agg [.ao 3 (x.eH.map ff), .ao 2 (x.c_.map fq), .ao 3 (x.hH.map bx), .ao 1 (x.hA.map bG), .ao 1 (x.hB.map bG)]
def hp (x : eo) : I := .agg [.slice (x.eH.map bC), .slice (x.c_.map fp), .slice (x.hH.map bx), .slice (x.hA.map bG), .slice (x.hB.map bG)]
theorem aCg (x : eo) : (hp x).share = hp x := by
 simp only [hp, dj, @bR _ bC bC (fun _ => tH _), @bR _ fp fp (fun _ => tI _), @bR _ bx bx (fun _ => l9 _), @bR _ bG bG (fun _ => ie _)]
theorem aCh (x : eo) : (l_ x).share = hp x := by
 simp only [l_, hp, dj, @bR _ ff bC (fun _ => qM _), @bR _ fq fp (fun _ => qN _), @bR _ bx bx (fun _ => l9 _), @bR _ bG bG (fun _ => ie _)]
theorem aCi (x : eo) : (l_ x).de = true := by
 simp only [l_, I.de, I.hT, Bool.and_self, @kC _ ff (fun _ => M8 _), @kC _ fq (fun _ => M9 _), @kC _ bx (fun _ => M_ _), @kC _ bG (fun _ => M5 _)]
def Dr (x : List bk) : I := .ao 3 (x.map ff)
def zp (x : List bk) : I := .slice (x.map bC)
theorem aCj (x : List bk) : (zp x).share = zp x := by
 simp only [zp, dj, @bR _ bC bC (fun _ => tH _)]
theorem aCk (x : List bk) : (Dr x).share = zp x := by
 simp only [Dr, zp, dj, @bR _ ff bC (fun _ => qM _)]
theorem aCl (x : List bk) : (Dr x).de = true := by
 simp only [Dr, I.de, I.hT, Bool.and_self, @kC _ ff (fun _ => M8 _)]
def Ds (x : List dq) : I := .ao 2 (x.map fq)
def zq (x : List dq) : I := .slice (x.map fp)
theorem aCm (x : List dq) : (zq x).share = zq x := by
 simp only [zq, dj, @bR _ fp fp (fun _ => tI _)]
theorem aCn (x : List dq) : (Ds x).share = zq x := by
 simp only [Ds, zq, dj, @bR _ fq fp (fun _ => qN _)]
theorem aCo (x : List dq) : (Ds x).de = true := by
 simp only [Ds, I.de, I.hT, Bool.and_self, @kC _ fq (fun _ => M9 _)]
def Dt (x : List cc) : I := .ao 3 (x.map bx)
def zr (x : List cc) : I := .slice (x.map bx)
theorem aCp (x : List cc) : (zr x).share = zr x := by
 simp only [zr, dj, @bR _ bx bx (fun _ => l9 _)]
theorem aCq (x : List cc) : (Dt x).share = zr x := by
 simp only [Dt, zr, dj, @bR _ bx bx (fun _ => l9 _)]
theorem aCr (x : List cc) : (Dt x).de = true := by
 simp only [Dt, I.de, I.hT, Bool.and_self, @kC _ bx (fun _ => M_ _)]
def Du (x : List (List UInt8)) : I := .ao 1 (x.map bG)
theorem aCs (x : List (List UInt8)) : (Du x).share = zk x := by
 simp only [Du, zk, dj, @bR _ bG bG (fun _ => ie _)]
theorem aCt (x : List (List UInt8)) : (Du x).de = true := by
 simp only [Du, I.de, I.hT, Bool.and_self, @kC _ bG (fun _ => M5 _)]
def dF (x : bM) : I := .agg [.int .i64 x.dG, .int .i64 x.Part, .slice (x.cF.map a1)]
theorem aCu (x : bM) : (dF x).share = dF x := by
 simp only [dF, dj, @bR _ a1 a1 (fun _ => j6 _)]
def cC (x : bM) : I := .agg [.int .i64 x.dG, .int .i64 x.Part, .ao 1 (x.cF.map a1)]
theorem ko (x : bM) : (cC x).share = dF x := by
 simp only [cC, dF, dj, @bR _ a1 a1 (fun _ => j6 _)]
theorem Hd (x : bM) : (cC x).de = true := by
 simp only [cC, I.de, I.hT, Bool.and_self, @kC _ a1 (fun _ => G4 _)]
def mE (x : Bool) : I := .bool x
theorem aCv (x : Bool) : (mE x).share = mE x := by
 simp only [mE, dj]
theorem aCw (x : Bool) : (mE x).de = true := by
 simp only [mE, I.de, I.hT, Bool.and_self]
def d_ (x : cM) : I := .agg [.int .i64 x.scope, .bool x.behind]
theorem Na (x : cM) : (d_ x).share = d_ x := by
 simp only [d_, dj]
theorem V4 (x : cM) : (d_ x).de = true := by
 simp only [d_, I.de, I.hT, Bool.and_self]
def V5 : J := .seq (.R [bd 4 (-1)] (some [4])) .ret
def V6 : J := .cond (.t 10) V5 .skip
def V7 : J := .seq (.R [ab 11 1,
 aK 4 11] (some [4])) .ret
def V8 : J := .seq (.seq (.R [ab 9 1,
 a8 10 .lss 3 9 0] (some [1, 10])) V6) V7
def V9 : J := .seq (.R [ab 5 1,
 ab 6 0,
 b5 7 301 6,
 b4 8 .sub 3 5 7,
 aK 1 8] (some [1])) V8
def V_ : J := .seq (.R [bd 4 0] (some [0, 1])) V9
theorem Wa : bq ⟨12, [0]⟩ (Tryz.f282.body.getD .skip) = some V_.strip := by kernel_rfl
def Wb : J := .seq (.R [bd 4 (-1)] (some [4])) .ret
def Wc : J := .cond (.t 11) Wb .skip
def Wd : J := .cond (.t 15) .skip (.exit 0)
def We : J := .seq (.R [bd 4 (-1)] (some [4])) .ret
def Wf : J := .cond (.t 25) We .skip
def Wg : J := .seq (.R [ab 24 1,
 a8 25 .lss 3 24 0] (some [0, 1, 5, 25])) Wf
def Wh : J := .R [ab 16 5,
 a8 17 .add 3 16 1,
 aK 5 17] (some [0, 1, 5])
def Wi : J := .seq (.block 1 (.seq (.R [ab 18 0,
 ab 19 5,
 cv 20 218 18 19,
 aR 21 301 20,
 ab 22 1,
 dP 23 282 21 22,
 aK 1 23] (some [0, 1, 5])) Wg)) Wh
def Nb : J := .seq (.seq (.R [ab 12 5,
 ab 13 0,
 b5 14 218 13,
 b4 15 .lss 3 12 14] (some [0, 1, 5, 15])) Wd) Wi
def Wj : J := .block 0 (.loop Nb)
def Wk : J := .seq (.R [ab 26 1,
 aK 4 26] (some [4])) .ret
def Wl : J := .seq (.seq (.R [bd 5 0] (some [0, 1, 5])) Wj) Wk
def Wm : J := .seq (.seq (.R [ab 10 1,
 a8 11 .lss 3 10 0] (some [0, 1, 11])) Wc) Wl
def Wn : J := .seq (.R [ab 6 1,
 ab 7 0,
 b5 8 218 7,
 b4 9 .sub 3 6 8,
 aK 1 9] (some [0, 1])) Wm
def Wo : J := .seq (.R [bd 4 0] (some [0, 1])) Wn
theorem Wp : bq ⟨27, [0]⟩ (Tryz.f239.body.getD .skip) = some Wo.strip := by kernel_rfl
def Wq : J := .seq (.R [bd 4 (-1)] (some [4])) .ret
def Wr : J := .cond (.t 11) Wq .skip
def Ws : J := .seq (.R [bd 4 (-1)] (some [4])) .ret
def Wt : J := .cond (.t 17) Ws .skip
def Wu : J := .seq (.R [ab 18 1,
 aK 4 18] (some [4])) .ret
def Wv : J := .seq (.seq (.R [ab 16 1,
 a8 17 .lss 3 16 0] (some [1, 17])) Wt) Wu
def Ww : J := .seq (.R [a2 12 220 2 3,
 aR 13 218 12,
 ab 14 1,
 dP 15 239 13 14,
 aK 1 15] (some [1])) Wv
def Wx : J := .seq (.seq (.R [ab 10 1,
 a8 11 .lss 3 10 0] (some [1, 2, 11])) Wr) Ww
def Wy : J := .seq (.R [ab 5 1,
 a2 6 220 2 2,
 aR 7 9 6,
 b5 8 9 7,
 b4 9 .sub 3 5 8,
 aK 1 9] (some [1, 2])) Wx
def Wz : J := .seq (.R [ro 2 (.dh 220 (.t 0)),
 bd 4 0] (some [1, 2])) Wy
theorem WA : bq ⟨19, [0]⟩ (Tryz.f180.body.getD .skip) = some Wz.strip := by kernel_rfl
def WB : J := .seq (.R [bd 4 (-1)] (some [4])) .ret
def WC : J := .cond (.t 11) WB .skip
def WD : J := .cond (.t 15) .skip (.exit 0)
def WE : J := .seq (.R [bd 4 (-1)] (some [4])) .ret
def WG : J := .cond (.t 25) WE .skip
def WH : J := .seq (.R [ab 24 1,
 a8 25 .lss 3 24 0] (some [0, 1, 5, 25])) WG
def WI : J := .R [ab 16 5,
 a8 17 .add 3 16 1,
 aK 5 17] (some [0, 1, 5])
def WJ : J := .seq (.block 1 (.seq (.R [ab 18 0,
 ab 19 5,
 cv 20 107 18 19,
 aR 21 220 20,
 ab 22 1,
 dP 23 180 21 22,
 aK 1 23] (some [0, 1, 5])) WH)) WI
def Nc : J := .seq (.seq (.R [ab 12 5,
 ab 13 0,
 b5 14 107 13,
 b4 15 .lss 3 12 14] (some [0, 1, 5, 15])) WD) WJ
def WK : J := .block 0 (.loop Nc)
def WL : J := .seq (.R [ab 26 1,
 aK 4 26] (some [4])) .ret
def WM : J := .seq (.seq (.R [bd 5 0] (some [0, 1, 5])) WK) WL
def WN : J := .seq (.seq (.R [ab 10 1,
 a8 11 .lss 3 10 0] (some [0, 1, 11])) WC) WM
def WO : J := .seq (.R [ab 6 1,
 ab 7 0,
 b5 8 107 7,
 b4 9 .sub 3 6 8,
 aK 1 9] (some [0, 1])) WN
def WQ : J := .seq (.R [bd 4 0] (some [0, 1])) WO
theorem WR : bq ⟨27, [0]⟩ (Tryz.f131.body.getD .skip) = some WQ.strip := by kernel_rfl
def WS : J := .seq (.R [bd 4 (-1)] (some [4])) .ret
def WT : J := .cond (.t 11) WS .skip
def WU : J := .seq (.R [bd 4 (-1)] (some [4])) .ret
def WV : J := .cond (.t 17) WU .skip
def WW : J := .seq (.R [ab 18 1,
 aK 4 18] (some [4])) .ret
def WX : J := .seq (.seq (.R [ab 16 1,
 a8 17 .lss 3 16 0] (some [1, 17])) WV) WW
def WY : J := .seq (.R [a2 12 109 2 2,
 aR 13 107 12,
 ab 14 1,
 dP 15 131 13 14,
 aK 1 15] (some [1])) WX
def WZ : J := .seq (.seq (.R [ab 10 1,
 a8 11 .lss 3 10 0] (some [1, 2, 11])) WT) WY
def W0 : J := .seq (.R [ab 5 1,
 a2 6 109 2 0,
 aR 7 9 6,
 b5 8 9 7,
 b4 9 .sub 3 5 8,
 aK 1 9] (some [1, 2])) WZ
def W1 : J := .seq (.R [ro 2 (.dh 109 (.t 0)),
 bd 4 0] (some [1, 2])) W0
theorem W2 : bq ⟨19, [0]⟩ (Tryz.f75.body.getD .skip) = some W1.strip := by kernel_rfl
def W3 : J := .seq (.R [bd 4 (-1)] (some [4])) .ret
def W4 : J := .cond (.t 11) W3 .skip
def W5 : J := .cond (.t 15) .skip (.exit 0)
def W6 : J := .seq (.R [bd 4 (-1)] (some [4])) .ret
def W7 : J := .cond (.t 25) W6 .skip
def W8 : J := .seq (.R [ab 24 1,
 a8 25 .lss 3 24 0] (some [0, 1, 5, 25])) W7
def W9 : J := .R [ab 16 5,
 a8 17 .add 3 16 1,
 aK 5 17] (some [0, 1, 5])
def W_ : J := .seq (.block 1 (.seq (.R [ab 18 0,
 ab 19 5,
 cv 20 22 18 19,
 aR 21 109 20,
 ab 22 1,
 dP 23 75 21 22,
 aK 1 23] (some [0, 1, 5])) W8)) W9
def Nd : J := .seq (.seq (.R [ab 12 5,
 ab 13 0,
 b5 14 22 13,
 b4 15 .lss 3 12 14] (some [0, 1, 5, 15])) W5) W_
def Xa : J := .block 0 (.loop Nd)
def Xb : J := .seq (.R [ab 26 1,
 aK 4 26] (some [4])) .ret
def Xc : J := .seq (.seq (.R [bd 5 0] (some [0, 1, 5])) Xa) Xb
def Xd : J := .seq (.seq (.R [ab 10 1,
 a8 11 .lss 3 10 0] (some [0, 1, 11])) W4) Xc
def Xe : J := .seq (.R [ab 6 1,
 ab 7 0,
 b5 8 22 7,
 b4 9 .sub 3 6 8,
 aK 1 9] (some [0, 1])) Xd
def Xf : J := .seq (.R [bd 4 0] (some [0, 1])) Xe
theorem Xg : bq ⟨27, [0]⟩ (Tryz.f36.body.getD .skip) = some Xf.strip := by kernel_rfl
def Xh : J := .seq (.R [bd 4 (-1)] (some [4])) .ret
def Xi : J := .cond (.t 10) Xh .skip
def Xj : J := .seq (.R [ab 11 1,
 aK 4 11] (some [4])) .ret
def Xk : J := .seq (.seq (.R [ab 9 1,
 a8 10 .lss 3 9 0] (some [1, 10])) Xi) Xj
def Xl : J := .seq (.R [ab 5 1,
 ab 6 0,
 b5 7 46 6,
 b4 8 .sub 3 5 7,
 aK 1 8] (some [1])) Xk
def Xm : J := .seq (.R [bd 4 0] (some [0, 1])) Xl
theorem Xn : bq ⟨12, [0]⟩ (Tryz.f78.body.getD .skip) = some Xm.strip := by kernel_rfl
def Xo : J := .seq (.R [bd 4 (-1)] (some [4])) .ret
def Xp : J := .cond (.t 10) Xo .skip
def Xq : J := .seq (.R [ab 11 1,
 aK 4 11] (some [4])) .ret
def Xr : J := .seq (.seq (.R [ab 9 1,
 a8 10 .lss 3 9 0] (some [1, 10])) Xp) Xq
def Xs : J := .seq (.R [a2 5 111 2 1,
 aR 6 46 5,
 ab 7 1,
 dP 8 78 6 7,
 aK 1 8] (some [1])) Xr
def Xt : J := .seq (.R [ro 2 (.dh 111 (.t 0)),
 bd 4 0] (some [1, 2])) Xs
theorem Xu : bq ⟨12, [0]⟩ (Tryz.f76.body.getD .skip) = some Xt.strip := by kernel_rfl
def Xv : J := .seq (.R [bd 4 (-1)] (some [4])) .ret
def Xw : J := .cond (.t 11) Xv .skip
def Xx : J := .cond (.t 15) .skip (.exit 0)
def Xy : J := .seq (.R [bd 4 (-1)] (some [4])) .ret
def Xz : J := .cond (.t 25) Xy .skip
def XA : J := .seq (.R [ab 24 1,
 a8 25 .lss 3 24 0] (some [0, 1, 5, 25])) Xz
def XB : J := .R [ab 16 5,
 a8 17 .add 3 16 1,
 aK 5 17] (some [0, 1, 5])
def XC : J := .seq (.block 1 (.seq (.R [ab 18 0,
 ab 19 5,
 cv 20 23 18 19,
 aR 21 111 20,
 ab 22 1,
 dP 23 76 21 22,
 aK 1 23] (some [0, 1, 5])) XA)) XB
def Nf : J := .seq (.seq (.R [ab 12 5,
 ab 13 0,
 b5 14 23 13,
 b4 15 .lss 3 12 14] (some [0, 1, 5, 15])) Xx) XC
def XD : J := .block 0 (.loop Nf)
def XE : J := .seq (.R [ab 26 1,
 aK 4 26] (some [4])) .ret
def XF : J := .seq (.seq (.R [bd 5 0] (some [0, 1, 5])) XD) XE
def XG : J := .seq (.seq (.R [ab 10 1,
 a8 11 .lss 3 10 0] (some [0, 1, 11])) Xw) XF
def XH : J := .seq (.R [ab 6 1,
 ab 7 0,
 b5 8 23 7,
 b4 9 .sub 3 6 8,
 aK 1 9] (some [0, 1])) XG
def XI : J := .seq (.R [bd 4 0] (some [0, 1])) XH
theorem XJ : bq ⟨27, [0]⟩ (Tryz.f37.body.getD .skip) = some XI.strip := by kernel_rfl
def XK : J := .seq (.R [bd 4 (-1)] (some [4])) .ret
def XL : J := .cond (.t 11) XK .skip
def XM : J := .seq (.R [bd 4 (-1)] (some [4])) .ret
def XN : J := .cond (.t 18) XM .skip
def XO : J := .seq (.R [bd 4 (-1)] (some [4])) .ret
def XP : J := .cond (.t 25) XO .skip
def XQ : J := .seq (.R [ab 26 1,
 aK 4 26] (some [4])) .ret
def XR : J := .seq (.seq (.R [ab 24 1,
 a8 25 .lss 3 24 0] (some [1, 25])) XP) XQ
def XS : J := .seq (.R [ab 19 1,
 a2 20 114 2 2,
 aR 21 9 20,
 b5 22 9 21,
 b4 23 .sub 3 19 22,
 aK 1 23] (some [1])) XR
def XT : J := .seq (.seq (.R [ab 17 1,
 a8 18 .lss 3 17 0] (some [1, 2, 18])) XN) XS
def XU : J := .seq (.R [ab 12 1,
 a2 13 114 2 1,
 aR 14 9 13,
 b5 15 9 14,
 b4 16 .sub 3 12 15,
 aK 1 16] (some [1, 2])) XT
def XV : J := .seq (.seq (.R [ab 10 1,
 a8 11 .lss 3 10 0] (some [1, 2, 11])) XL) XU
def XW : J := .seq (.R [ab 5 1,
 a2 6 114 2 0,
 aR 7 9 6,
 b5 8 9 7,
 b4 9 .sub 3 5 8,
 aK 1 9] (some [1, 2])) XV
def XX : J := .seq (.R [ro 2 (.dh 114 (.t 0)),
 bd 4 0] (some [1, 2])) XW
theorem XY : bq ⟨27, [0]⟩ (Tryz.f77.body.getD .skip) = some XX.strip := by kernel_rfl
def XZ : J := .seq (.R [bd 4 (-1)] (some [4])) .ret
def X0 : J := .cond (.t 11) XZ .skip
def X1 : J := .cond (.t 15) .skip (.exit 0)
def X2 : J := .seq (.R [bd 4 (-1)] (some [4])) .ret
def X3 : J := .cond (.t 25) X2 .skip
def X4 : J := .seq (.R [ab 24 1,
 a8 25 .lss 3 24 0] (some [0, 1, 5, 25])) X3
def X5 : J := .R [ab 16 5,
 a8 17 .add 3 16 1,
 aK 5 17] (some [0, 1, 5])
def X6 : J := .seq (.block 1 (.seq (.R [ab 18 0,
 ab 19 5,
 cv 20 24 18 19,
 aR 21 114 20,
 ab 22 1,
 dP 23 77 21 22,
 aK 1 23] (some [0, 1, 5])) X4)) X5
def Ng : J := .seq (.seq (.R [ab 12 5,
 ab 13 0,
 b5 14 24 13,
 b4 15 .lss 3 12 14] (some [0, 1, 5, 15])) X1) X6
def X7 : J := .block 0 (.loop Ng)
def X8 : J := .seq (.R [ab 26 1,
 aK 4 26] (some [4])) .ret
def X9 : J := .seq (.seq (.R [bd 5 0] (some [0, 1, 5])) X7) X8
def X_ : J := .seq (.seq (.R [ab 10 1,
 a8 11 .lss 3 10 0] (some [0, 1, 11])) X0) X9
def Ya : J := .seq (.R [ab 6 1,
 ab 7 0,
 b5 8 24 7,
 b4 9 .sub 3 6 8,
 aK 1 9] (some [0, 1])) X_
def Yb : J := .seq (.R [bd 4 0] (some [0, 1])) Ya
theorem Yc : bq ⟨27, [0]⟩ (Tryz.f38.body.getD .skip) = some Yb.strip := by kernel_rfl
def Yd : J := .seq (.R [bd 4 (-1)] (some [4])) .ret
def Ye : J := .cond (.t 11) Yd .skip
def Yf : J := .cond (.t 15) .skip (.exit 0)
def Yg : J := .seq (.R [bd 4 (-1)] (some [4])) .ret
def Yh : J := .cond (.t 26) Yg .skip
def Yi : J := .seq (.R [ab 25 1,
 a8 26 .lss 3 25 0] (some [0, 1, 5, 26])) Yh
def Yj : J := .R [ab 16 5,
 a8 17 .add 3 16 1,
 aK 5 17] (some [0, 1, 5])
def Yk : J := .seq (.block 1 (.seq (.R [ab 18 1,
 ab 19 0,
 ab 20 5,
 cv 21 25 19 20,
 aR 22 9 21,
 b5 23 9 22,
 b4 24 .sub 3 18 23,
 aK 1 24] (some [0, 1, 5])) Yi)) Yj
def Nh : J := .seq (.seq (.R [ab 12 5,
 ab 13 0,
 b5 14 25 13,
 b4 15 .lss 3 12 14] (some [0, 1, 5, 15])) Yf) Yk
def Yl : J := .block 0 (.loop Nh)
def Ym : J := .seq (.R [ab 27 1,
 aK 4 27] (some [4])) .ret
def Yn : J := .seq (.seq (.R [bd 5 0] (some [0, 1, 5])) Yl) Ym
def Yo : J := .seq (.seq (.R [ab 10 1,
 a8 11 .lss 3 10 0] (some [0, 1, 11])) Ye) Yn
def Yp : J := .seq (.R [ab 6 1,
 ab 7 0,
 b5 8 25 7,
 b4 9 .sub 3 6 8,
 aK 1 9] (some [0, 1])) Yo
def Yq : J := .seq (.R [bd 4 0] (some [0, 1])) Yp
theorem Yr : bq ⟨28, [0]⟩ (Tryz.f39.body.getD .skip) = some Yq.strip := by kernel_rfl
def Ys : J := .seq (.R [bd 4 (-1)] (some [4])) .ret
def Yt : J := .cond (.t 10) Ys .skip
def Yu : J := .seq (.R [bd 4 (-1)] (some [4])) .ret
def Yv : J := .cond (.t 16) Yu .skip
def Yw : J := .seq (.R [bd 4 (-1)] (some [4])) .ret
def Yx : J := .cond (.t 22) Yw .skip
def Yy : J := .seq (.R [bd 4 (-1)] (some [4])) .ret
def Yz : J := .cond (.t 28) Yy .skip
def YA : J := .seq (.R [bd 4 (-1)] (some [4])) .ret
def YB : J := .cond (.t 34) YA .skip
def YC : J := .seq (.R [ab 35 1,
 aK 4 35] (some [4])) .ret
def YD : J := .seq (.seq (.R [ab 33 1,
 a8 34 .lss 3 33 0] (some [1, 34])) YB) YC
def YE : J := .seq (.R [a2 29 27 2 4,
 aR 30 25 29,
 ab 31 1,
 dP 32 39 30 31,
 aK 1 32] (some [1])) YD
def YF : J := .seq (.seq (.R [ab 27 1,
 a8 28 .lss 3 27 0] (some [1, 2, 28])) Yz) YE
def YG : J := .seq (.R [a2 23 27 2 3,
 aR 24 25 23,
 ab 25 1,
 dP 26 39 24 25,
 aK 1 26] (some [1, 2])) YF
def YH : J := .seq (.seq (.R [ab 21 1,
 a8 22 .lss 3 21 0] (some [1, 2, 22])) Yx) YG
def YI : J := .seq (.R [a2 17 27 2 2,
 aR 18 24 17,
 ab 19 1,
 dP 20 38 18 19,
 aK 1 20] (some [1, 2])) YH
def YJ : J := .seq (.seq (.R [ab 15 1,
 a8 16 .lss 3 15 0] (some [1, 2, 16])) Yv) YI
def YK : J := .seq (.R [a2 11 27 2 1,
 aR 12 23 11,
 ab 13 1,
 dP 14 37 12 13,
 aK 1 14] (some [1, 2])) YJ
def YL : J := .seq (.seq (.R [ab 9 1,
 a8 10 .lss 3 9 0] (some [1, 2, 10])) Yt) YK
def YM : J := .seq (.R [a2 5 27 2 0,
 aR 6 22 5,
 ab 7 1,
 dP 8 36 6 7,
 aK 1 8] (some [1, 2])) YL
def Fm : J := .seq (.R [ro 2 (.dh 27 (.t 0)),
 bd 4 0] (some [1, 2])) YM
theorem zt : bq ⟨36, [0]⟩ (Tryz.f8.body.getD .skip) = some Fm.strip := by kernel_rfl
def YN : J := .seq (.R [bd 4 (-1)] (some [4])) .ret
def YO : J := .cond (.t 10) YN .skip
def YP : J := .seq (.R [ab 11 1,
 aK 4 11] (some [4])) .ret
def YQ : J := .seq (.seq (.R [ab 9 1,
 a8 10 .lss 3 9 0] (some [1, 10])) YO) YP
def YR : J := .seq (.R [a2 5 73 2 2,
 aR 6 46 5,
 ab 7 1,
 dP 8 78 6 7,
 aK 1 8] (some [1])) YQ
def YS : J := .seq (.R [ro 2 (.dh 73 (.t 0)),
 bd 4 0] (some [1, 2])) YR
theorem YT : bq ⟨12, [0]⟩ (Tryz.f40.body.getD .skip) = some YS.strip := by kernel_rfl
def YU : J := .seq (.R [bd 4 (-1)] (some [4])) .ret
def YV : J := .cond (.t 11) YU .skip
def YW : J := .cond (.t 15) .skip (.exit 0)
def YX : J := .seq (.R [bd 4 (-1)] (some [4])) .ret
def YY : J := .cond (.t 25) YX .skip
def YZ : J := .seq (.R [ab 24 1,
 a8 25 .lss 3 24 0] (some [0, 1, 5, 25])) YY
def Y0 : J := .R [ab 16 5,
 a8 17 .add 3 16 1,
 aK 5 17] (some [0, 1, 5])
def Y1 : J := .seq (.block 1 (.seq (.R [ab 18 0,
 ab 19 5,
 cv 20 28 18 19,
 aR 21 73 20,
 ab 22 1,
 dP 23 40 21 22,
 aK 1 23] (some [0, 1, 5])) YZ)) Y0
def Ni : J := .seq (.seq (.R [ab 12 5,
 ab 13 0,
 b5 14 28 13,
 b4 15 .lss 3 12 14] (some [0, 1, 5, 15])) YW) Y1
def Y2 : J := .block 0 (.loop Ni)
def Y3 : J := .seq (.R [ab 26 1,
 aK 4 26] (some [4])) .ret
def Y4 : J := .seq (.seq (.R [bd 5 0] (some [0, 1, 5])) Y2) Y3
def Y5 : J := .seq (.seq (.R [ab 10 1,
 a8 11 .lss 3 10 0] (some [0, 1, 11])) YV) Y4
def Y6 : J := .seq (.R [ab 6 1,
 ab 7 0,
 b5 8 28 7,
 b4 9 .sub 3 6 8,
 aK 1 9] (some [0, 1])) Y5
def Fo : J := .seq (.R [bd 4 0] (some [0, 1])) Y6
theorem m8 : bq ⟨27, [0]⟩ (Tryz.f9.body.getD .skip) = some Fo.strip := by kernel_rfl
def Y7 : J := .seq (.R [aR 10 196 3,
 eh 196 2 10] (some [2])) .ret
def Y8 : J := .seq (.R [a2 7 316 1 1,
 aR 8 2 7,
 a2 9 196 3 1,
 eh 2 9 8] (some [2, 3])) Y7
def Y9 : J := .seq (.R [a2 4 316 1 0,
 aR 5 2 4,
 a2 6 196 3 0,
 eh 2 6 5] (some [1, 2, 3])) Y8
def Y_ : J := .seq (.R [iD 3 196] (some [1, 2, 3])) Y9
def Za : J := .seq (.R [ro 1 (.dh 316 (.t 0)),
 iD 2 196] (some [1, 2])) Y_
theorem Zb : bq ⟨11, [0]⟩ (Tryz.f298.body.getD .skip) = some Za.strip := by kernel_rfl
def Zc : J := .cond (.t 11) .skip (.exit 0)
def Zd : J := .R [ab 12 4,
 a8 13 .add 3 12 1,
 aK 4 13] (some [0, 3, 4])
def Ze : J := .seq (.block 1 (.R [ab 14 3,
 ab 15 4,
 ab 16 0,
 ab 17 4,
 cv 18 301 16 17,
 aR 19 316 18,
 dO 20 298 19,
 cv 21 145 14 15,
 eh 196 21 20] (some [0, 3, 4]))) Zd
def Nj : J := .seq (.seq (.R [ab 8 4,
 ab 9 0,
 b5 10 301 9,
 b4 11 .lss 3 8 10] (some [0, 3, 4, 11])) Zc) Ze
def Zf : J := .block 0 (.loop Nj)
def Zg : J := .seq (.R [ab 22 3,
 aK 2 22] (some [2])) .ret
def Zh : J := .seq (.seq (.R [bd 4 0] (some [0, 3, 4])) Zf) Zg
def Zi : J := .seq (.R [ab 5 0,
 b5 6 301 5,
 ro 7 (.eQ 145 (.t 6) (.t 6)),
 aK 3 7] (some [0, 3])) Zh
def Zj : J := .seq (.R [jq 2] (some [0])) Zi
theorem Zk : bq ⟨23, [0]⟩ (Tryz.f284.body.getD .skip) = some Zj.strip := by kernel_rfl
def Zl : J := .cond (.t 11) .skip (.exit 0)
def Zm : J := .R [ab 12 4,
 a8 13 .add 3 12 1,
 aK 4 13] (some [0, 3, 4])
def Zn : J := .seq (.block 1 (.R [ab 14 3,
 ab 15 4,
 ab 16 0,
 ab 17 4,
 cv 18 218 16 17,
 aR 19 301 18,
 dO 20 284 19,
 cv 21 146 14 15,
 eh 145 21 20] (some [0, 3, 4]))) Zm
def Nk : J := .seq (.seq (.R [ab 8 4,
 ab 9 0,
 b5 10 218 9,
 b4 11 .lss 3 8 10] (some [0, 3, 4, 11])) Zl) Zn
def Zo : J := .block 0 (.loop Nk)
def Zp : J := .seq (.R [ab 22 3,
 aK 2 22] (some [2])) .ret
def Zq : J := .seq (.seq (.R [bd 4 0] (some [0, 3, 4])) Zo) Zp
def Zr : J := .seq (.R [ab 5 0,
 b5 6 218 5,
 ro 7 (.eQ 146 (.t 6) (.t 6)),
 aK 3 7] (some [0, 3])) Zq
def Zs : J := .seq (.R [jq 2] (some [0])) Zr
theorem Zt : bq ⟨23, [0]⟩ (Tryz.f245.body.getD .skip) = some Zs.strip := by kernel_rfl
def Zu : J := .seq (.R [aR 17 178 3,
 eh 178 2 17] (some [2])) .ret
def Zv : J := .seq (.R [a2 13 220 1 3,
 aR 14 218 13,
 dO 15 245 14,
 a2 16 178 3 3,
 eh 146 16 15] (some [2, 3])) Zu
def Zw : J := .seq (.R [a2 10 220 1 2,
 aR 11 9 10,
 a2 12 178 3 2,
 eh 9 12 11] (some [1, 2, 3])) Zv
def Zx : J := .seq (.R [a2 7 220 1 1,
 aR 8 2 7,
 a2 9 178 3 1,
 eh 2 9 8] (some [1, 2, 3])) Zw
def Zy : J := .seq (.R [a2 4 220 1 0,
 aR 5 2 4,
 a2 6 178 3 0,
 eh 2 6 5] (some [1, 2, 3])) Zx
def Zz : J := .seq (.R [iD 3 178] (some [1, 2, 3])) Zy
def ZA : J := .seq (.R [ro 1 (.dh 220 (.t 0)),
 iD 2 178] (some [1, 2])) Zz
theorem ZB : bq ⟨18, [0]⟩ (Tryz.f186.body.getD .skip) = some ZA.strip := by kernel_rfl
def ZC : J := .cond (.t 11) .skip (.exit 0)
def ZD : J := .R [ab 12 4,
 a8 13 .add 3 12 1,
 aK 4 13] (some [0, 3, 4])
def ZE : J := .seq (.block 1 (.R [ab 14 3,
 ab 15 4,
 ab 16 0,
 ab 17 4,
 cv 18 107 16 17,
 aR 19 220 18,
 dO 20 186 19,
 cv 21 119 14 15,
 eh 178 21 20] (some [0, 3, 4]))) ZD
def Nl : J := .seq (.seq (.R [ab 8 4,
 ab 9 0,
 b5 10 107 9,
 b4 11 .lss 3 8 10] (some [0, 3, 4, 11])) ZC) ZE
def ZF : J := .block 0 (.loop Nl)
def ZG : J := .seq (.R [ab 22 3,
 aK 2 22] (some [2])) .ret
def ZH : J := .seq (.seq (.R [bd 4 0] (some [0, 3, 4])) ZF) ZG
def ZI : J := .seq (.R [ab 5 0,
 b5 6 107 5,
 ro 7 (.eQ 119 (.t 6) (.t 6)),
 aK 3 7] (some [0, 3])) ZH
def ZJ : J := .seq (.R [jq 2] (some [0])) ZI
theorem ZK : bq ⟨23, [0]⟩ (Tryz.f139.body.getD .skip) = some ZJ.strip := by kernel_rfl
def ZL : J := .seq (.R [aR 14 121 3,
 eh 121 2 14] (some [2])) .ret
def ZM : J := .seq (.R [a2 10 109 1 2,
 aR 11 107 10,
 dO 12 139 11,
 a2 13 121 3 2,
 eh 119 13 12] (some [2, 3])) ZL
def ZN : J := .seq (.R [a2 7 109 1 1,
 aR 8 2 7,
 a2 9 121 3 1,
 eh 2 9 8] (some [1, 2, 3])) ZM
def ZO : J := .seq (.R [a2 4 109 1 0,
 aR 5 9 4,
 a2 6 121 3 0,
 eh 9 6 5] (some [1, 2, 3])) ZN
def ZP : J := .seq (.R [iD 3 121] (some [1, 2, 3])) ZO
def ZQ : J := .seq (.R [ro 1 (.dh 109 (.t 0)),
 iD 2 121] (some [1, 2])) ZP
theorem ZR : bq ⟨15, [0]⟩ (Tryz.f83.body.getD .skip) = some ZQ.strip := by kernel_rfl
def ZS : J := .cond (.t 11) .skip (.exit 0)
def ZT : J := .R [ab 12 4,
 a8 13 .add 3 12 1,
 aK 4 13] (some [0, 3, 4])
def ZU : J := .seq (.block 1 (.R [ab 14 3,
 ab 15 4,
 ab 16 0,
 ab 17 4,
 cv 18 22 16 17,
 aR 19 109 18,
 dO 20 83 19,
 cv 21 34 14 15,
 eh 121 21 20] (some [0, 3, 4]))) ZT
def Nm : J := .seq (.seq (.R [ab 8 4,
 ab 9 0,
 b5 10 22 9,
 b4 11 .lss 3 8 10] (some [0, 3, 4, 11])) ZS) ZU
def ZV : J := .block 0 (.loop Nm)
def ZW : J := .seq (.R [ab 22 3,
 aK 2 22] (some [2])) .ret
def ZX : J := .seq (.seq (.R [bd 4 0] (some [0, 3, 4])) ZV) ZW
def ZY : J := .seq (.R [ab 5 0,
 b5 6 22 5,
 ro 7 (.eQ 34 (.t 6) (.t 6)),
 aK 3 7] (some [0, 3])) ZX
def ZZ : J := .seq (.R [jq 2] (some [0])) ZY
theorem Z0 : bq ⟨23, [0]⟩ (Tryz.f44.body.getD .skip) = some ZZ.strip := by kernel_rfl
def Z1 : J := .cond (.t 11) .skip (.exit 0)
def Z2 : J := .R [ab 12 4,
 a8 13 .add 3 12 1,
 aK 4 13] (some [0, 3, 4])
def Z3 : J := .seq (.block 1 (.R [ab 14 3,
 ab 15 4,
 ab 16 0,
 ab 17 4,
 cv 18 46 16 17,
 aR 19 2 18,
 cv 20 46 14 15,
 eh 2 20 19] (some [0, 3, 4]))) Z2
def Nn : J := .seq (.seq (.R [ab 8 4,
 ab 9 0,
 b5 10 46 9,
 b4 11 .lss 3 8 10] (some [0, 3, 4, 11])) Z1) Z3
def Z4 : J := .block 0 (.loop Nn)
def Z5 : J := .seq (.R [ab 21 3,
 aK 2 21] (some [2])) .ret
def Z6 : J := .seq (.seq (.R [bd 4 0] (some [0, 3, 4])) Z4) Z5
def Z7 : J := .seq (.R [ab 5 0,
 b5 6 46 5,
 ro 7 (.eQ 46 (.t 6) (.t 6)),
 aK 3 7] (some [0, 3])) Z6
def Z8 : J := .seq (.R [jq 2] (some [0])) Z7
theorem tJ : bq ⟨22, [0]⟩ (Tryz.f25.body.getD .skip) = some Z8.strip := by kernel_rfl
def Z9 : J := .seq (.R [aR 11 100 3,
 eh 100 2 11] (some [2])) .ret
def Z_ : J := .seq (.R [a2 7 111 1 1,
 aR 8 46 7,
 dO 9 25 8,
 a2 10 100 3 1,
 eh 46 10 9] (some [2, 3])) Z9
def aaa : J := .seq (.R [a2 4 111 1 0,
 aR 5 2 4,
 a2 6 100 3 0,
 eh 2 6 5] (some [1, 2, 3])) Z_
def aab : J := .seq (.R [iD 3 100] (some [1, 2, 3])) aaa
def aac : J := .seq (.R [ro 1 (.dh 111 (.t 0)),
 iD 2 100] (some [1, 2])) aab
theorem aad : bq ⟨12, [0]⟩ (Tryz.f84.body.getD .skip) = some aac.strip := by kernel_rfl
def aae : J := .cond (.t 11) .skip (.exit 0)
def aaf : J := .R [ab 12 4,
 a8 13 .add 3 12 1,
 aK 4 13] (some [0, 3, 4])
def aag : J := .seq (.block 1 (.R [ab 14 3,
 ab 15 4,
 ab 16 0,
 ab 17 4,
 cv 18 23 16 17,
 aR 19 111 18,
 dO 20 84 19,
 cv 21 35 14 15,
 eh 100 21 20] (some [0, 3, 4]))) aaf
def Np : J := .seq (.seq (.R [ab 8 4,
 ab 9 0,
 b5 10 23 9,
 b4 11 .lss 3 8 10] (some [0, 3, 4, 11])) aae) aag
def aah : J := .block 0 (.loop Np)
def aai : J := .seq (.R [ab 22 3,
 aK 2 22] (some [2])) .ret
def aaj : J := .seq (.seq (.R [bd 4 0] (some [0, 3, 4])) aah) aai
def aak : J := .seq (.R [ab 5 0,
 b5 6 23 5,
 ro 7 (.eQ 35 (.t 6) (.t 6)),
 aK 3 7] (some [0, 3])) aaj
def aal : J := .seq (.R [jq 2] (some [0])) aak
theorem aam : bq ⟨23, [0]⟩ (Tryz.f45.body.getD .skip) = some aal.strip := by kernel_rfl
def aan : J := .seq (.R [aR 13 124 3,
 eh 124 2 13] (some [2])) .ret
def aao : J := .seq (.R [a2 10 114 1 2,
 aR 11 9 10,
 a2 12 124 3 2,
 eh 9 12 11] (some [2, 3])) aan
def aap : J := .seq (.R [a2 7 114 1 1,
 aR 8 9 7,
 a2 9 124 3 1,
 eh 9 9 8] (some [1, 2, 3])) aao
def aaq : J := .seq (.R [a2 4 114 1 0,
 aR 5 9 4,
 a2 6 124 3 0,
 eh 9 6 5] (some [1, 2, 3])) aap
def aar : J := .seq (.R [iD 3 124] (some [1, 2, 3])) aaq
def aas : J := .seq (.R [ro 1 (.dh 114 (.t 0)),
 iD 2 124] (some [1, 2])) aar
theorem aat : bq ⟨14, [0]⟩ (Tryz.f85.body.getD .skip) = some aas.strip := by kernel_rfl
def aau : J := .cond (.t 11) .skip (.exit 0)
def aav : J := .R [ab 12 4,
 a8 13 .add 3 12 1,
 aK 4 13] (some [0, 3, 4])
def aaw : J := .seq (.block 1 (.R [ab 14 3,
 ab 15 4,
 ab 16 0,
 ab 17 4,
 cv 18 24 16 17,
 aR 19 114 18,
 dO 20 85 19,
 cv 21 36 14 15,
 eh 124 21 20] (some [0, 3, 4]))) aav
def Nq : J := .seq (.seq (.R [ab 8 4,
 ab 9 0,
 b5 10 24 9,
 b4 11 .lss 3 8 10] (some [0, 3, 4, 11])) aau) aaw
def aax : J := .block 0 (.loop Nq)
def aay : J := .seq (.R [ab 22 3,
 aK 2 22] (some [2])) .ret
def aaz : J := .seq (.seq (.R [bd 4 0] (some [0, 3, 4])) aax) aay
def aaA : J := .seq (.R [ab 5 0,
 b5 6 24 5,
 ro 7 (.eQ 36 (.t 6) (.t 6)),
 aK 3 7] (some [0, 3])) aaz
def aaB : J := .seq (.R [jq 2] (some [0])) aaA
theorem aaC : bq ⟨23, [0]⟩ (Tryz.f46.body.getD .skip) = some aaB.strip := by kernel_rfl
def aaD : J := .cond (.t 11) .skip (.exit 0)
def aaE : J := .R [ab 12 4,
 a8 13 .add 3 12 1,
 aK 4 13] (some [0, 3, 4])
def aaF : J := .seq (.block 1 (.R [ab 14 3,
 ab 15 4,
 ab 16 0,
 ab 17 4,
 cv 18 25 16 17,
 aR 19 9 18,
 cv 20 25 14 15,
 eh 9 20 19] (some [0, 3, 4]))) aaE
def Nr : J := .seq (.seq (.R [ab 8 4,
 ab 9 0,
 b5 10 25 9,
 b4 11 .lss 3 8 10] (some [0, 3, 4, 11])) aaD) aaF
def aaG : J := .block 0 (.loop Nr)
def aaH : J := .seq (.R [ab 21 3,
 aK 2 21] (some [2])) .ret
def aaI : J := .seq (.seq (.R [bd 4 0] (some [0, 3, 4])) aaG) aaH
def aaJ : J := .seq (.R [ab 5 0,
 b5 6 25 5,
 ro 7 (.eQ 25 (.t 6) (.t 6)),
 aK 3 7] (some [0, 3])) aaI
def aaK : J := .seq (.R [jq 2] (some [0])) aaJ
theorem tK : bq ⟨22, [0]⟩ (Tryz.f47.body.getD .skip) = some aaK.strip := by kernel_rfl
def aaL : J := .seq (.R [aR 24 38 3,
 eh 38 2 24] (some [2])) .ret
def aaM : J := .seq (.R [a2 20 27 1 4,
 aR 21 25 20,
 dO 22 47 21,
 a2 23 38 3 4,
 eh 25 23 22] (some [2, 3])) aaL
def aaN : J := .seq (.R [a2 16 27 1 3,
 aR 17 25 16,
 dO 18 47 17,
 a2 19 38 3 3,
 eh 25 19 18] (some [1, 2, 3])) aaM
def aaO : J := .seq (.R [a2 12 27 1 2,
 aR 13 24 12,
 dO 14 46 13,
 a2 15 38 3 2,
 eh 36 15 14] (some [1, 2, 3])) aaN
def aaP : J := .seq (.R [a2 8 27 1 1,
 aR 9 23 8,
 dO 10 45 9,
 a2 11 38 3 1,
 eh 35 11 10] (some [1, 2, 3])) aaO
def aaQ : J := .seq (.R [a2 4 27 1 0,
 aR 5 22 4,
 dO 6 44 5,
 a2 7 38 3 0,
 eh 34 7 6] (some [1, 2, 3])) aaP
def aaR : J := .seq (.R [iD 3 38] (some [1, 2, 3])) aaQ
def aaS : J := .seq (.R [ro 1 (.dh 27 (.t 0)),
 iD 2 38] (some [1, 2])) aaR
theorem wk : bq ⟨25, [0]⟩ (Tryz.f11.body.getD .skip) = some aaS.strip := by kernel_rfl
def aaT : J := .seq (.R [aR 14 82 3,
 eh 82 2 14] (some [2])) .ret
def aaU : J := .seq (.R [a2 10 73 1 2,
 aR 11 46 10,
 dO 12 25 11,
 a2 13 82 3 2,
 eh 46 13 12] (some [2, 3])) aaT
def aaV : J := .seq (.R [a2 7 73 1 1,
 aR 8 2 7,
 a2 9 82 3 1,
 eh 2 9 8] (some [1, 2, 3])) aaU
def aaW : J := .seq (.R [a2 4 73 1 0,
 aR 5 2 4,
 a2 6 82 3 0,
 eh 2 6 5] (some [1, 2, 3])) aaV
def aaX : J := .seq (.R [iD 3 82] (some [1, 2, 3])) aaW
def aaY : J := .seq (.R [ro 1 (.dh 73 (.t 0)),
 iD 2 82] (some [1, 2])) aaX
theorem aaZ : bq ⟨15, [0]⟩ (Tryz.f48.body.getD .skip) = some aaY.strip := by kernel_rfl
def aa0 : J := .cond (.t 11) .skip (.exit 0)
def aa1 : J := .R [ab 12 4,
 a8 13 .add 3 12 1,
 aK 4 13] (some [0, 3, 4])
def aa2 : J := .seq (.block 1 (.R [ab 14 3,
 ab 15 4,
 ab 16 0,
 ab 17 4,
 cv 18 28 16 17,
 aR 19 73 18,
 dO 20 48 19,
 cv 21 31 14 15,
 eh 82 21 20] (some [0, 3, 4]))) aa1
def Ns : J := .seq (.seq (.R [ab 8 4,
 ab 9 0,
 b5 10 28 9,
 b4 11 .lss 3 8 10] (some [0, 3, 4, 11])) aa0) aa2
def aa3 : J := .block 0 (.loop Ns)
def aa4 : J := .seq (.R [ab 22 3,
 aK 2 22] (some [2])) .ret
def aa5 : J := .seq (.seq (.R [bd 4 0] (some [0, 3, 4])) aa3) aa4
def aa6 : J := .seq (.R [ab 5 0,
 b5 6 28 5,
 ro 7 (.eQ 31 (.t 6) (.t 6)),
 aK 3 7] (some [0, 3])) aa5
def aa7 : J := .seq (.R [jq 2] (some [0])) aa6
theorem wm : bq ⟨23, [0]⟩ (Tryz.f12.body.getD .skip) = some aa7.strip := by kernel_rfl
def aa8 : J := .seq (.R [ab 3 0,
 ro 4 (.ck .geq 5 (.t 3) (.c (.int .u8 97))),
 ab 5 4,
 ⟨some 6, .ct (.t 0), some (5, true)⟩,
 ⟨some 7, .ck .leq 5 (.t 6) (.c (.int .u8 122)), some (5, true)⟩,
 ro 8 (.pick (.t 5) (.t 7) (.c (.bool false))),
 aK 2 8] (some [2])) .ret
def aa9 : J := .seq (.R [br 2 false] (some [0])) aa8
theorem aa_ : bq ⟨9, [0]⟩ (Tryz.f240.body.getD .skip) = some aa9.strip := by kernel_rfl
def aba : J := .seq (.R [ab 3 0,
 ro 4 (.ck .geq 5 (.t 3) (.c (.int .u8 48))),
 ab 5 4,
 ⟨some 6, .ct (.t 0), some (5, true)⟩,
 ⟨some 7, .ck .leq 5 (.t 6) (.c (.int .u8 57)), some (5, true)⟩,
 ro 8 (.pick (.t 5) (.t 7) (.c (.bool false))),
 aK 2 8] (some [2])) .ret
def abb : J := .seq (.R [br 2 false] (some [0])) aba
theorem abc : bq ⟨9, [0]⟩ (Tryz.f241.body.getD .skip) = some abb.strip := by kernel_rfl
def abd : J := .seq (.R [br 2 false] (some [2])) .ret
def abe : J := .cond (.t 16) abd .skip
def abf : J := .cond (.t 20) .skip (.exit 0)
def abg : J := .seq (.R [br 2 false] (some [2])) .ret
def abh : J := .cond (.t 34) abg .skip
def abi : J := .R [ab 21 3,
 a8 22 .add 3 21 1,
 aK 3 22] (some [0, 3])
def abj : J := .seq (.block 1 (.seq (.R [ab 23 0,
 ab 24 3,
 Mm 25 9 23 24,
 dO 26 240 25,
 eF 27 26,
 ab 28 27,
 ⟨some 29, .ct (.t 0), some (28, true)⟩,
 ⟨some 30, .ct (.t 3), some (28, true)⟩,
 ⟨some 31, .idx 9 (.t 29) (.t 30), some (28, true)⟩,
 ⟨some 32, .call (.f 241) [(.t 31)], some (28, true)⟩,
 ⟨some 33, .un .not (.t 32), some (28, true)⟩,
 ro 34 (.pick (.t 28) (.t 33) (.c (.bool false)))] (some [0, 3, 34])) abh)) abi
def Nt : J := .seq (.seq (.R [ab 17 3,
 ab 18 0,
 b5 19 9 18,
 b4 20 .lss 3 17 19] (some [0, 3, 20])) abf) abj
def abk : J := .block 0 (.loop Nt)
def abl : J := .seq (.R [br 2 true] (some [2])) .ret
def abm : J := .seq (.seq (.R [bd 3 0] (some [0, 3])) abk) abl
def abn : J := .seq (.seq (.R [ab 4 0,
 ro 5 (.ck .eql 9 (.t 4) (.c (.str []))),
 ab 6 5,
 ⟨some 7, .ct (.t 0), some (6, false)⟩,
 ⟨some 8, .len 9 (.t 7), some (6, false)⟩,
 ⟨some 9, .ck .gtr 3 (.t 8) (.c (.int .i64 10)), some (6, false)⟩,
 ro 10 (.pick (.t 6) (.c (.bool true)) (.t 9)),
 ab 11 10,
 ⟨some 12, .ct (.t 0), some (11, false)⟩,
 ⟨some 13, .idx 9 (.t 12) (.c (.int .i64 0)), some (11, false)⟩,
 ⟨some 14, .call (.f 240) [(.t 13)], some (11, false)⟩,
 ⟨some 15, .un .not (.t 14), some (11, false)⟩,
 ro 16 (.pick (.t 11) (.c (.bool true)) (.t 15))] (some [0, 16])) abe) abm
def abo : J := .seq (.R [br 2 false] (some [0])) abn
theorem abp : bq ⟨35, [0]⟩ (Tryz.f181.body.getD .skip) = some abo.strip := by kernel_rfl
def abq : J := .seq (.R [ab 7 0,
 ab 8 1,
 b4 9 .geq 2 7 8,
 ab 10 9,
 ⟨some 11, .ct (.t 0), some (10, true)⟩,
 ⟨some 12, .ct (.t 2), some (10, true)⟩,
 ⟨some 13, .ck .leq 2 (.t 11) (.t 12), some (10, true)⟩,
 ro 14 (.pick (.t 10) (.t 13) (.c (.bool false))),
 aK 6 14] (some [6])) .ret
def abr : J := .seq (.R [br 6 false] (some [0, 1, 2])) abq
theorem abt : bq ⟨15, [0, 1, 2]⟩ (Tryz.f61.body.getD .skip) = some abr.strip := by kernel_rfl
def abu : J := .R [a8 10 .eql 2 6 4,
 aK 7 10] (some [6, 7])
def abv : J := .cond (.t 7) .skip abu
def abw : J := .seq (.R [a8 9 .eql 2 6 3,
 aK 7 9] (some [6, 7])) abv
def abx : J := .cond (.t 7) .skip abw
def aby : J := .seq (.R [bd 2 1] (some [2])) .ret
def abz : J := .seq (.R [bd 2 2] (some [2])) .ret
def abA : J := .cond (.t 11) abz .skip
def abB : J := .seq (.R [a8 12 .eql 2 6 2,
 aK 11 12] (some [11])) abA
def Nu : J := .cond (.t 7) aby abB
def abC : J := .block 0 (.seq (.seq (.R [a8 8 .eql 2 6 1,
 aK 7 8] (some [6, 7])) abx) Nu)
def abD : J := .seq (.R [bd 2 0] (some [2])) .ret
def abE : J := .seq (.seq (.R [ab 3 0,
 hO 4 3,
 a2 5 178 4 0,
 aR 6 2 5] (some [6])) abC) abD
def abF : J := .seq (.R [bd 2 0] (some [0])) abE
theorem abG : bq ⟨13, [0]⟩ (Tryz.f244.body.getD .skip) = some abF.strip := by kernel_rfl
def abH : J := .seq (.R [br 2 false] (some [2])) .ret
def abI : J := .cond (.t 12) abH .skip
def abJ : J := .cond (.t 16) .skip (.exit 0)
def abK : J := .seq (.R [br 2 false] (some [2])) .ret
def abL : J := .cond (.t 20) abK .skip
def abM : J := .R [ab 21 3,
 ab 22 0,
 ab 23 4,
 cv 24 119 22 23,
 dO 25 244 24,
 a8 26 .sub 2 25 1,
 b4 27 .add 2 21 26,
 aK 3 27] (some [0, 3, 4])
def abN : J := .R [ab 17 4,
 a8 18 .add 3 17 1,
 aK 4 18] (some [0, 3, 4])
def abO : J := .seq (.block 1 (.seq (.seq (.R [ab 19 3,
 a8 20 .eql 2 19 0] (some [0, 3, 4, 20])) abL) abM)) abN
def Nv : J := .seq (.seq (.R [ab 13 4,
 ab 14 0,
 b5 15 119 14,
 b4 16 .lss 3 13 15] (some [0, 3, 4, 16])) abJ) abO
def abP : J := .block 0 (.loop Nv)
def abQ : J := .seq (.R [ab 28 3,
 a8 29 .eql 2 28 0,
 aK 2 29] (some [2])) .ret
def abR : J := .seq (.seq (.R [bd 4 0] (some [0, 3, 4])) abP) abQ
def abS : J := .seq (.R [bd 3 1] (some [0, 3])) abR
def abT : J := .seq (.seq (.R [ab 5 0,
 b5 6 119 5,
 a8 7 .eql 3 6 0,
 ab 8 7,
 ⟨some 9, .ct (.t 0), some (8, false)⟩,
 ⟨some 10, .len 119 (.t 9), some (8, false)⟩,
 ⟨some 11, .ck .gtr 3 (.t 10) (.c (.int .i64 20)), some (8, false)⟩,
 ro 12 (.pick (.t 8) (.c (.bool true)) (.t 11))] (some [0, 12])) abI) abS
def abU : J := .seq (.R [br 2 false] (some [0])) abT
theorem abV : bq ⟨30, [0]⟩ (Tryz.f242.body.getD .skip) = some abU.strip := by kernel_rfl
def abW : J := .R [a8 9 .eql 2 6 2,
 aK 7 9] (some [0, 6, 7])
def abX : J := .cond (.t 7) .skip abW
def abY : J := .seq (.R [ab 10 0,
 hO 11 10,
 a2 12 178 11 1,
 aR 13 2 12,
 a8 14 .eql 2 13 0,
 ab 15 14,
 ⟨some 16, .ct (.t 0), some (15, true)⟩,
 ⟨some 17, .gu (.t 16), some (15, true)⟩,
 ⟨some 18, .c1 178 (.t 17) 2, some (15, true)⟩,
 ⟨some 19, .cl 9 (.t 18), some (15, true)⟩,
 ⟨some 20, .ck .eql 9 (.t 19) (.c (.str [])), some (15, true)⟩,
 ro 21 (.pick (.t 15) (.t 20) (.c (.bool false))),
 ab 22 21,
 ⟨some 23, .ct (.t 0), some (22, true)⟩,
 ⟨some 24, .gu (.t 23), some (22, true)⟩,
 ⟨some 25, .c1 178 (.t 24) 3, some (22, true)⟩,
 ⟨some 26, .cl 146 (.t 25), some (22, true)⟩,
 ⟨some 27, .len 146 (.t 26), some (22, true)⟩,
 ⟨some 28, .ck .eql 3 (.t 27) (.c (.int .i64 0)), some (22, true)⟩,
 ro 29 (.pick (.t 22) (.t 28) (.c (.bool false))),
 aK 2 29] (some [2])) .ret
def abZ : J := .seq (.R [ab 32 0,
 hO 33 32,
 a2 34 178 33 1,
 aR 35 2 34,
 a8 36 .eql 2 35 0,
 aK 2 36] (some [2])) .ret
def ab0 : J := .seq (.R [ab 39 0,
 hO 40 39,
 a2 41 178 40 1,
 aR 42 2 41,
 a8 43 .eql 2 42 0,
 ab 44 43,
 ⟨some 45, .ct (.t 0), some (44, true)⟩,
 ⟨some 46, .gu (.t 45), some (44, true)⟩,
 ⟨some 47, .c1 178 (.t 46) 2, some (44, true)⟩,
 ⟨some 48, .cl 9 (.t 47), some (44, true)⟩,
 ⟨some 49, .ck .eql 9 (.t 48) (.c (.str [])), some (44, true)⟩,
 ro 50 (.pick (.t 44) (.t 49) (.c (.bool false))),
 aK 2 50] (some [2])) .ret
def ab1 : J := .seq (.R [ab 53 0,
 hO 54 53,
 a2 55 178 54 2,
 aR 56 9 55,
 ro 57 (.ck .eql 9 (.t 56) (.c (.str []))),
 ab 58 57,
 ⟨some 59, .ct (.t 0), some (58, true)⟩,
 ⟨some 60, .gu (.t 59), some (58, true)⟩,
 ⟨some 61, .c1 178 (.t 60) 3, some (58, true)⟩,
 ⟨some 62, .cl 146 (.t 61), some (58, true)⟩,
 ⟨some 63, .len 146 (.t 62), some (58, true)⟩,
 ⟨some 64, .ck .eql 3 (.t 63) (.c (.int .i64 0)), some (58, true)⟩,
 ro 65 (.pick (.t 58) (.t 64) (.c (.bool false))),
 aK 2 65] (some [2])) .ret
def ab2 : J := .seq (.R [ab 68 0,
 hO 69 68,
 a2 70 178 69 2,
 aR 71 9 70,
 ro 72 (.ck .eql 9 (.t 71) (.c (.str []))),
 aK 2 72] (some [2])) .ret
def ab3 : J := .cond (.t 66) ab2 .skip
def ab4 : J := .seq (.R [a8 67 .eql 2 6 5,
 aK 66 67] (some [0, 66])) ab3
def ab5 : J := .cond (.t 51) ab1 ab4
def ab6 : J := .seq (.R [a8 52 .eql 2 6 4,
 aK 51 52] (some [0, 6, 51])) ab5
def ab7 : J := .cond (.t 37) ab0 ab6
def ab8 : J := .seq (.R [a8 38 .eql 2 6 3,
 aK 37 38] (some [0, 6, 37])) ab7
def ab9 : J := .cond (.t 30) abZ ab8
def ab_ : J := .seq (.R [a8 31 .eql 2 6 1,
 aK 30 31] (some [0, 6, 30])) ab9
def Nw : J := .cond (.t 7) abY ab_
def aca : J := .block 0 (.seq (.seq (.R [a8 8 .eql 2 6 0,
 aK 7 8] (some [0, 6, 7])) abX) Nw)
def acb : J := .seq (.R [br 2 false] (some [2])) .ret
def acd : J := .seq (.seq (.R [ab 3 0,
 hO 4 3,
 a2 5 178 4 0,
 aR 6 2 5] (some [0, 6])) aca) acb
def ace : J := .seq (.R [br 2 false] (some [0])) acd
theorem acf : bq ⟨73, [0]⟩ (Tryz.f283.body.getD .skip) = some ace.strip := by kernel_rfl
def acg : J := .cond (.t 7) .skip (.exit 0)
def ach : J := .R [ab 15 1,
 a8 16 .add 2 15 1,
 aK 1 16] (some [0, 1, 5])
def aci : J := .block 1 (.seq (.R [ab 8 5,
 ab 9 0,
 ab 10 1,
 cv 11 119 9 10,
 dO 12 244 11,
 a8 13 .sub 2 12 1,
 b4 14 .add 2 8 13,
 aK 5 14] (some [0, 1, 5])) ach)
def Nx : J := .seq (.seq (.R [ab 6 5,
 a8 7 .gtr 2 6 0] (some [0, 1, 5, 7])) acg) aci
def acj : J := .seq (.R [ab 17 1,
 aK 4 17] (some [4])) .ret
def ack : J := .seq (.block 0 (.loop Nx)) acj
def acm : J := .seq (.R [bd 5 1] (some [0, 1, 5])) ack
def acn : J := .seq (.R [bd 4 0] (some [0, 1])) acm
theorem aco : bq ⟨18, [0]⟩ (Tryz.f185.body.getD .skip) = some acn.strip := by kernel_rfl
def acp : J := .cond (.t 13) .skip (.exit 0)
def acq : J := .R [ab 35 5,
 a8 36 .add 2 35 1,
 aK 5 36] (some [0, 1, 5, 6])
def acr : J := .cond (.t 34) acq .skip
def Ny : J := .R [ab 14 6,
 a8 15 .add 2 14 1,
 aK 6 15] (some [0, 1, 5, 6])
def acs : J := .seq (.block 1 (.seq (.R [ab 16 0,
 hO 17 16,
 a2 18 121 17 2,
 aR 19 119 18,
 ab 20 6,
 cv 21 119 19 20,
 a2 22 178 21 0,
 aR 23 2 22,
 a8 24 .eql 2 23 4,
 ab 25 24,
 ⟨some 26, .ct (.t 0), some (25, true)⟩,
 ⟨some 27, .gu (.t 26), some (25, true)⟩,
 ⟨some 28, .c1 121 (.t 27) 2, some (25, true)⟩,
 ⟨some 29, .cl 119 (.t 28), some (25, true)⟩,
 ⟨some 30, .ct (.t 6), some (25, true)⟩,
 ⟨some 31, .call (.f 185) [(.t 29), (.t 30)], some (25, true)⟩,
 ⟨some 32, .ct (.t 1), some (25, true)⟩,
 ⟨some 33, .ck .gtr 2 (.t 31) (.t 32), some (25, true)⟩,
 ro 34 (.pick (.t 25) (.t 33) (.c (.bool false)))] (some [0, 1, 5, 6, 34])) acr)) Ny
def Nz : J := .seq (.seq (.R [ab 11 6,
 ab 12 1,
 b4 13 .lss 2 11 12] (some [0, 1, 5, 6, 13])) acp) acs
def acu : J := .block 0 (.loop Nz)
def acv : J := .seq (.R [ab 37 5,
 aK 4 37] (some [4])) .ret
def acw : J := .seq (.seq (.R [bd 6 0] (some [0, 1, 5, 6])) acu) acv
def acx : J := .seq (.R [ab 7 0,
 hO 8 7,
 a2 9 121 8 1,
 aR 10 2 9,
 aK 5 10] (some [0, 1, 5])) acw
def acy : J := .seq (.R [bd 4 0] (some [0, 1])) acx
theorem acz : bq ⟨38, [0, 1]⟩ (Tryz.f136.body.getD .skip) = some acy.strip := by kernel_rfl
def acA : J := .seq (.R [ab 11 0,
 hO 12 11,
 a2 13 196 12 1,
 aR 14 2 13,
 ro 15 (.call (.f 61) [(.t 14), (.c (.int .i64 0)), (.c (.int .i64 63))]),
 aK 4 15] (some [4])) .ret
def acB : J := .seq (.R [ab 18 0,
 hO 19 18,
 a2 20 196 19 1,
 aR 21 2 20,
 ab 22 1,
 a8 23 .sub 2 22 1,
 ro 24 (.call (.f 61) [(.t 21), (.c (.int .i64 0)), (.t 23)]),
 aK 4 24] (some [4])) .ret
def acC : J := .seq (.R [ab 27 0,
 hO 28 27,
 a2 29 196 28 1,
 aR 30 2 29,
 ro 31 (.call (.f 61) [(.t 30), (.c (.int .i64 0)), (.c (.int .i64 8))]),
 aK 4 31] (some [4])) .ret
def acD : J := .seq (.R [ab 34 0,
 hO 35 34,
 a2 36 196 35 1,
 aR 37 2 36,
 a8 38 .eql 2 37 0,
 aK 4 38] (some [4])) .ret
def acE : J := .cond (.t 32) acD .skip
def acF : J := .seq (.R [a8 33 .eql 2 8 3,
 aK 32 33] (some [0, 32])) acE
def acG : J := .cond (.t 25) acC acF
def acH : J := .seq (.R [a8 26 .eql 2 8 2,
 aK 25 26] (some [0, 8, 25])) acG
def acI : J := .cond (.t 16) acB acH
def acJ : J := .seq (.R [a8 17 .eql 2 8 1,
 aK 16 17] (some [0, 1, 8, 16])) acI
def acK : J := .cond (.t 9) acA acJ
def acL : J := .block 0 (.seq (.R [a8 10 .eql 2 8 0,
 aK 9 10] (some [0, 1, 8, 9])) acK)
def acM : J := .seq (.R [br 4 false] (some [4])) .ret
def acN : J := .seq (.seq (.R [ab 5 0,
 hO 6 5,
 a2 7 196 6 0,
 aR 8 2 7] (some [0, 1, 8])) acL) acM
def acO : J := .seq (.R [br 4 false] (some [0, 1])) acN
theorem acP : bq ⟨39, [0, 1]⟩ (Tryz.f252.body.getD .skip) = some acO.strip := by kernel_rfl
def acQ : J := .seq (.R [bd 2 2] (some [2])) .ret
def acR : J := .seq (.R [bd 2 1] (some [2])) .ret
def acS : J := .cond (.t 9) acR .skip
def acT : J := .seq (.R [a8 10 .eql 2 6 3,
 aK 9 10] (some [9])) acS
def acU : J := .cond (.t 7) acQ acT
def acV : J := .block 0 (.seq (.R [a8 8 .eql 2 6 2,
 aK 7 8] (some [6, 7])) acU)
def acW : J := .seq (.R [bd 2 0] (some [2])) .ret
def acX : J := .seq (.seq (.R [ab 3 0,
 hO 4 3,
 a2 5 196 4 0,
 aR 6 2 5] (some [6])) acV) acW
def acY : J := .seq (.R [bd 2 0] (some [0])) acX
theorem acZ : bq ⟨11, [0]⟩ (Tryz.f253.body.getD .skip) = some acY.strip := by kernel_rfl
def ac0 : J := .seq (.R [br 6 false] (some [6])) .ret
def ac1 : J := .cond (.t 12) ac0 .skip
def ac2 : J := .cond (.t 16) .skip (.exit 0)
def ac3 : J := .seq (.R [br 6 false] (some [6])) .ret
def ac4 : J := .cond (.t 28) ac3 .skip
def ac5 : J := .R [ab 29 7,
 ab 30 0,
 ab 31 8,
 cv 32 145 30 31,
 dO 33 253 32,
 a8 34 .sub 2 33 1,
 b4 35 .add 2 29 34,
 aK 7 35] (some [0, 1, 7, 8])
def ac6 : J := .R [ab 17 8,
 a8 18 .add 3 17 1,
 aK 8 18] (some [0, 1, 7, 8])
def ac7 : J := .seq (.block 1 (.seq (.seq (.R [ab 19 7,
 a8 20 .eql 2 19 0,
 ab 21 20,
 ⟨some 22, .ct (.t 0), some (21, false)⟩,
 ⟨some 23, .ct (.t 8), some (21, false)⟩,
 ⟨some 24, .fv 145 (.t 22) (.t 23), some (21, false)⟩,
 ⟨some 25, .ct (.t 1), some (21, false)⟩,
 ⟨some 26, .call (.f 252) [(.t 24), (.t 25)], some (21, false)⟩,
 ⟨some 27, .un .not (.t 26), some (21, false)⟩,
 ro 28 (.pick (.t 21) (.c (.bool true)) (.t 27))] (some [0, 1, 7, 8, 28])) ac4) ac5)) ac6
def NA : J := .seq (.seq (.R [ab 13 8,
 ab 14 0,
 b5 15 145 14,
 b4 16 .lss 3 13 15] (some [0, 1, 7, 8, 16])) ac2) ac7
def ac8 : J := .block 0 (.loop NA)
def ac9 : J := .seq (.R [ab 36 7,
 a8 37 .eql 2 36 0,
 aK 6 37] (some [6])) .ret
def ac_ : J := .seq (.seq (.R [bd 8 0] (some [0, 1, 7, 8])) ac8) ac9
def ada : J := .seq (.R [bd 7 1] (some [0, 1, 7])) ac_
def adb : J := .seq (.seq (.R [ab 9 0,
 b5 10 145 9,
 ab 11 2,
 b4 12 .gtr 2 10 11] (some [0, 1, 12])) ac1) ada
def ade : J := .seq (.R [br 6 false] (some [0, 1, 2])) adb
theorem adf : bq ⟨38, [0, 1, 2]⟩ (Tryz.f206.body.getD .skip) = some ade.strip := by kernel_rfl
def adg : J := .seq (.R [bd 6 2] (some [6])) .ret
def adh : J := .cond (.t 19) adg .skip
def adi : J := .seq (.R [bd 6 3] (some [6])) .ret
def NB : J := .cond (.t 28) adi .skip
def adj : J := .seq (.R [bd 6 4] (some [6])) .ret
def NC : J := .cond (.t 51) adj .skip
def adk : J := .seq (.R [bd 6 5] (some [6])) .ret
def adl : J := .cond (.t 69) adk .skip
def adm : J := .seq (.R [ab 59 8,
 a8 60 .gtr 2 59 2,
 ab 61 60,
 ⟨some 62, .ct (.t 8), some (61, false)⟩,
 ⟨some 63, .ck .gtr 2 (.t 62) (.c (.int .i64 0)), some (61, false)⟩,
 ⟨some 64, .ct (.t 63), some (61, false)⟩,
 ⟨some 65, .c1 178 (.t 7) 2, some (64, true)⟩,
 ⟨some 66, .cl 9 (.t 65), some (64, true)⟩,
 ⟨some 67, .ck .eql 9 (.t 66) (.c (.str [116, 97, 117])), some (64, true)⟩,
 ⟨some 68, .pick (.t 64) (.t 67) (.c (.bool false)), some (61, false)⟩,
 ro 69 (.pick (.t 61) (.c (.bool true)) (.t 68))] (some [1, 2, 7, 8, 69])) adl
def adn : J := .seq (.R [bd 6 5] (some [6])) .ret
def ado : J := .cond (.t 73) adn .skip
def adp : J := .seq (.R [ab 72 8,
 a8 73 .neq 2 72 1] (some [1, 2, 7, 8, 73])) ado
def adq : J := .seq (.R [bd 6 5] (some [6])) .ret
def adr : J := .cond (.t 83) adq .skip
def ads : J := .seq (.R [ab 76 8,
 ab 77 0,
 a2 78 178 7 1,
 aR 79 2 78,
 cv 80 34 77 79,
 a2 81 121 80 1,
 aR 82 2 81,
 b4 83 .neq 2 76 82] (some [1, 2, 7, 8, 83])) adr
def adt : J := .cond (.t 74) ads .skip
def adu : J := .seq (.R [a8 75 .eql 2 56 5,
 aK 74 75] (some [0, 1, 2, 7, 8, 74])) adt
def adv : J := .cond (.t 70) adp adu
def adw : J := .seq (.R [a8 71 .eql 2 56 3,
 aK 70 71] (some [0, 1, 2, 7, 8, 56, 70])) adv
def adx : J := .cond (.t 57) adm adw
def ady : J := .block 0 (.seq (.R [a8 58 .eql 2 56 1,
 aK 57 58] (some [0, 1, 2, 7, 8, 56, 57])) adx)
def adz : J := .seq (.R [bd 6 6] (some [6])) .ret
def ND : J := .cond (.t 102) adz .skip
def adA : J := .seq (.R [bd 6 7] (some [6])) .ret
def adB : J := .cond (.t 112) adA .skip
def adC : J := .cond (.t 115) .skip (.exit 1)
def adD : J := .seq (.R [bd 6 8] (some [6])) .ret
def adE : J := .cond (.t 125) adD .skip
def adF : J := .R [ab 116 10,
 a8 117 .add 2 116 1,
 aK 10 117] (some [7, 8, 9, 10])
def adG : J := .seq (.block 2 (.seq (.R [a2 118 178 7 3,
 aR 119 146 118,
 ab 120 10,
 cv 121 146 119 120,
 aR 122 145 121,
 ab 123 9,
 ro 124 (.call (.f 206) [(.t 122), (.t 123), (.c (.int .i64 15))]),
 eF 125 124] (some [7, 8, 9, 10, 125])) adE)) adF
def NF : J := .seq (.seq (.R [ab 113 10,
 ab 114 8,
 b4 115 .lss 2 113 114] (some [7, 8, 9, 10, 115])) adC) adG
def adH : J := .block 1 (.loop NF)
def adI : J := .seq (.R [bd 6 0] (some [6])) .ret
def adJ : J := .seq (.seq (.R [bd 10 0] (some [7, 8, 9, 10])) adH) adI
def adK : J := .seq (.seq (.R [a2 106 178 7 0,
 aR 107 2 106,
 a8 108 .eql 2 107 4,
 ab 109 108,
 ⟨some 110, .ct (.t 9), some (109, true)⟩,
 ⟨some 111, .ck .geq 2 (.t 110) (.c (.int .i64 6)), some (109, true)⟩,
 ro 112 (.pick (.t 109) (.t 111) (.c (.bool false)))] (some [7, 8, 9, 112])) adB) adJ
def adL : J := .seq (.R [ab 103 1,
 ab 104 2,
 dP 105 136 103 104,
 aK 9 105] (some [7, 8, 9])) adK
def NG : J := .seq (.seq (.R [a2 84 178 7 0,
 aR 85 2 84,
 a8 86 .eql 2 85 5,
 ab 87 86,
 ⟨some 88, .ct (.t 2), some (87, true)⟩,
 ⟨some 89, .ck .eql 2 (.t 88) (.c (.int .i64 0)), some (87, true)⟩,
 ⟨some 90, .ct (.t 89), some (87, true)⟩,
 ⟨some 91, .ct (.t 1), some (90, false)⟩,
 ⟨some 92, .gu (.t 91), some (90, false)⟩,
 ⟨some 93, .c1 121 (.t 92) 2, some (90, false)⟩,
 ⟨some 94, .cl 119 (.t 93), some (90, false)⟩,
 ⟨some 95, .ct (.t 2), some (90, false)⟩,
 ⟨some 96, .ck .sub 2 (.t 95) (.c (.int .i64 1)), some (90, false)⟩,
 ⟨some 97, .fv 119 (.t 94) (.t 96), some (90, false)⟩,
 ⟨some 98, .c1 178 (.t 97) 0, some (90, false)⟩,
 ⟨some 99, .cl 2 (.t 98), some (90, false)⟩,
 ⟨some 100, .ck .neq 2 (.t 99) (.c (.int .i64 1)), some (90, false)⟩,
 ⟨some 101, .pick (.t 90) (.c (.bool true)) (.t 100), some (87, true)⟩,
 ro 102 (.pick (.t 87) (.t 101) (.c (.bool false)))] (some [1, 2, 7, 8, 102])) ND) adL
def adM : J := .seq (.seq (.R [a2 55 178 7 0,
 aR 56 2 55] (some [0, 1, 2, 7, 8, 56])) ady) NG
def adN : J := .seq (.R [a2 52 178 7 3,
 aR 53 146 52,
 b5 54 146 53,
 aK 8 54] (some [0, 1, 2, 7, 8])) adM
def adO : J := .seq (.seq (.R [a2 29 178 7 0,
 aR 30 2 29,
 a8 31 .eql 2 30 4,
 ab 32 31,
 ⟨some 33, .c1 178 (.t 7) 1, some (32, true)⟩,
 ⟨some 34, .cl 2 (.t 33), some (32, true)⟩,
 ⟨some 35, .call (.f 61) [(.t 34), (.c (.int .i64 1)), (.c (.int .i64 7))], some (32, true)⟩,
 ⟨some 36, .un .not (.t 35), some (32, true)⟩,
 ro 37 (.pick (.t 32) (.t 36) (.c (.bool false))),
 ab 38 37,
 ⟨some 39, .c1 178 (.t 7) 0, some (38, false)⟩,
 ⟨some 40, .cl 2 (.t 39), some (38, false)⟩,
 ⟨some 41, .ck .eql 2 (.t 40) (.c (.int .i64 5)), some (38, false)⟩,
 ⟨some 42, .ct (.t 41), some (38, false)⟩,
 ⟨some 43, .c1 178 (.t 7) 1, some (42, true)⟩,
 ⟨some 44, .cl 2 (.t 43), some (42, true)⟩,
 ⟨some 45, .ct (.t 0), some (42, true)⟩,
 ⟨some 46, .len 34 (.t 45), some (42, true)⟩,
 ⟨some 47, .ck .sub 2 (.t 46) (.c (.int .i64 1)), some (42, true)⟩,
 ⟨some 48, .call (.f 61) [(.t 44), (.c (.int .i64 0)), (.t 47)], some (42, true)⟩,
 ⟨some 49, .un .not (.t 48), some (42, true)⟩,
 ⟨some 50, .pick (.t 42) (.t 49) (.c (.bool false)), some (38, false)⟩,
 ro 51 (.pick (.t 38) (.c (.bool true)) (.t 50))] (some [0, 1, 2, 7, 51])) NC) adN
def adP : J := .seq (.seq (.R [a2 20 178 7 0,
 aR 21 2 20,
 a8 22 .eql 2 21 1,
 ab 23 22,
 ⟨some 24, .c1 178 (.t 7) 2, some (23, true)⟩,
 ⟨some 25, .cl 9 (.t 24), some (23, true)⟩,
 ⟨some 26, .call (.f 181) [(.t 25)], some (23, true)⟩,
 ⟨some 27, .un .not (.t 26), some (23, true)⟩,
 ro 28 (.pick (.t 23) (.t 27) (.c (.bool false)))] (some [0, 1, 2, 7, 28])) NB) adO
def adQ : J := .seq (.seq (.R [dO 18 283 7,
 eF 19 18] (some [0, 1, 2, 7, 19])) adh) adP
def adR : J := .seq (.R [ab 11 1,
 hO 12 11,
 a2 13 121 12 2,
 aR 14 119 13,
 ab 15 2,
 cv 16 119 14 15,
 aR 17 178 16,
 iD 7 178,
 eh 178 7 17] (some [0, 1, 2, 7])) adQ
def adS : J := .seq (.R [bd 6 0] (some [0, 1, 2])) adR
theorem adT : bq ⟨126, [0, 1, 2]⟩ (Tryz.f243.body.getD .skip) = some adS.strip := by kernel_rfl
def adU : J := .seq (.R [bd 4 0,
 bd 5 1] (some [4, 5])) .ret
def adV : J := .cond (.t 13) adU .skip
def adW : J := .cond (.t 20) .skip (.exit 0)
def adX : J := .seq (.R [ab 29 6,
 ab 30 7,
 aK 4 29,
 aK 5 30] (some [4, 5])) .ret
def adY : J := .cond (.t 28) adX .skip
def adZ : J := .seq (.R [ab 27 7,
 a8 28 .gtr 2 27 0] (some [0, 1, 6, 7, 28])) adY
def ad0 : J := .R [ab 21 6,
 a8 22 .add 2 21 1,
 aK 6 22] (some [0, 1, 6])
def ad1 : J := .seq (.block 1 (.seq (.R [ab 23 0,
 ab 24 1,
 ab 25 6,
 x6 26 243 23 24 25,
 aK 7 26] (some [0, 1, 6, 7])) adZ)) ad0
def NH : J := .seq (.seq (.R [ab 14 6,
 ab 15 1,
 hO 16 15,
 a2 17 121 16 2,
 aR 18 119 17,
 b5 19 119 18,
 b4 20 .lss 2 14 19] (some [0, 1, 6, 20])) adW) ad1
def ad2 : J := .block 0 (.loop NH)
def ad3 : J := .seq (.R [bd 4 0,
 bd 5 0] (some [4, 5])) .ret
def ad4 : J := .seq (.seq (.R [bd 6 0] (some [0, 1, 6])) ad2) ad3
def ad5 : J := .seq (.seq (.R [ab 8 1,
 hO 9 8,
 a2 10 121 9 2,
 aR 11 119 10,
 dO 12 242 11,
 eF 13 12] (some [0, 1, 13])) adV) ad4
def ad6 : J := .seq (.R [bd 4 0,
 bd 5 0] (some [0, 1])) ad5
theorem ad7 : bq ⟨31, [0, 1]⟩ (Tryz.f182.body.getD .skip) = some ad6.strip := by kernel_rfl
def ad8 : J := .seq (.R [br 2 false] (some [2])) .ret
def ad9 : J := .cond (.t 15) ad8 .skip
def ad_ : J := .cond (.t 19) .skip (.exit 0)
def aea : J := .seq (.R [br 2 false] (some [2])) .ret
def aeb : J := .cond (.t 37) aea .skip
def aec : J := .cond (.t 40) .skip (.exit 2)
def aed : J := .seq (.R [br 2 false] (some [2])) .ret
def aee : J := .cond (.t 53) aed .skip
def aef : J := .R [ab 41 4,
 a8 42 .add 3 41 1,
 aK 4 42] (some [0, 3, 4])
def aeg : J := .seq (.block 3 (.seq (.gK [ab 43 0,
 ab 44 4,
 cv 45 34 43 44,
 a2 46 121 45 0,
 aR 47 9 46,
 ab 48 0,
 ab 49 3,
 cv 50 34 48 49,
 a2 51 121 50 0,
 aR 52 9 51,
 b4 53 .eql 9 47 52] [[], [], [0, 1], [2], [3], [], [], [5, 6], [7], [8], [4, 9]] (some [0, 3, 4, 53])) aee)) aef
def NI : J := .seq (.seq (.R [ab 38 4,
 ab 39 3,
 b4 40 .lss 3 38 39] (some [0, 3, 4, 40])) aec) aeg
def aeh : J := .block 2 (.loop NI)
def aei : J := .seq (.R [bd 4 0] (some [0, 3, 4])) aeh
def aej : J := .R [ab 20 3,
 a8 21 .add 3 20 1,
 aK 3 21] (some [0, 3])
def aek : J := .seq (.block 1 (.seq (.seq (.R [ab 22 0,
 ab 23 3,
 cv 24 34 22 23,
 a2 25 121 24 0,
 aR 26 9 25,
 dO 27 181 26,
 eF 28 27,
 ab 29 28,
 ⟨some 30, .ct (.t 0), some (29, false)⟩,
 ⟨some 31, .ct (.t 3), some (29, false)⟩,
 ⟨some 32, .fv 34 (.t 30) (.t 31), some (29, false)⟩,
 ⟨some 33, .c1 121 (.t 32) 1, some (29, false)⟩,
 ⟨some 34, .cl 2 (.t 33), some (29, false)⟩,
 ⟨some 35, .call (.f 61) [(.t 34), (.c (.int .i64 0)), (.c (.int .i64 3))], some (29, false)⟩,
 ⟨some 36, .un .not (.t 35), some (29, false)⟩,
 ro 37 (.pick (.t 29) (.c (.bool true)) (.t 36))] (some [0, 3, 37])) aeb) aei)) aej
def NJ : J := .seq (.seq (.R [ab 16 3,
 ab 17 0,
 b5 18 34 17,
 b4 19 .lss 3 16 18] (some [0, 3, 19])) ad_) aek
def ael : J := .block 0 (.loop NJ)
def aem : J := .cond (.t 57) .skip (.exit 4)
def aen : J := .seq (.R [br 2 false] (some [2])) .ret
def aeo : J := .cond (.t 69) aen .skip
def aep : J := .seq (.R [ab 68 7,
 a8 69 .gtr 2 68 0] (some [0, 5, 69])) aeo
def aeq : J := .R [ab 58 5,
 a8 59 .add 3 58 1,
 aK 5 59] (some [0, 5])
def aer : J := .seq (.block 5 (.seq (.R [ab 61 0,
 ab 62 0,
 ab 63 5,
 cv 64 34 62 63,
 dP 65 182 61 64,
 ab 60 65,
 pX 66 60 0,
 pX 67 60 1,
 aK 6 66,
 aK 7 67] (some [0, 5, 7])) aep)) aeq
def NK : J := .seq (.seq (.R [ab 54 5,
 ab 55 0,
 b5 56 34 55,
 b4 57 .lss 3 54 56] (some [0, 5, 57])) aem) aer
def aes : J := .block 4 (.loop NK)
def aet : J := .seq (.R [br 2 true] (some [2])) .ret
def aeu : J := .seq (.seq (.R [bd 5 0] (some [0, 5])) aes) aet
def aev : J := .seq (.seq (.R [bd 3 0] (some [0, 3])) ael) aeu
def aew : J := .seq (.seq (.R [ab 8 0,
 b5 9 34 8,
 a8 10 .eql 3 9 0,
 ab 11 10,
 ⟨some 12, .ct (.t 0), some (11, false)⟩,
 ⟨some 13, .len 34 (.t 12), some (11, false)⟩,
 ⟨some 14, .ck .gtr 3 (.t 13) (.c (.int .i64 4)), some (11, false)⟩,
 ro 15 (.pick (.t 11) (.c (.bool true)) (.t 14))] (some [0, 15])) ad9) aev
def aex : J := .seq (.R [br 2 false] (some [0])) aew
theorem aey : bq ⟨70, [0]⟩ (Tryz.f132.body.getD .skip) = some aex.strip := by kernel_rfl
def aez : J := .cond (.t 7) .skip (.exit 0)
def aeA : J := .seq (.R [br 2 false] (some [2])) .ret
def aeB : J := .cond (.t 15) aeA .skip
def aeC : J := .R [ab 8 3,
 a8 9 .add 3 8 1,
 aK 3 9] (some [0, 3])
def aeD : J := .seq (.block 1 (.seq (.R [ab 10 0,
 ab 11 3,
 cv 12 46 10 11,
 aR 13 2 12,
 ro 14 (.call (.f 61) [(.t 13), (.c (.int .i64 0)), (.c (.int .i64 63))]),
 eF 15 14] (some [0, 3, 15])) aeB)) aeC
def NL : J := .seq (.seq (.R [ab 4 3,
 ab 5 0,
 b5 6 46 5,
 b4 7 .lss 3 4 6] (some [0, 3, 7])) aez) aeD
def aeE : J := .block 0 (.loop NL)
def aeF : J := .seq (.R [br 2 true] (some [2])) .ret
def aeG : J := .seq (.seq (.R [bd 3 0] (some [0, 3])) aeE) aeF
def aeH : J := .seq (.R [br 2 false] (some [0])) aeG
theorem aeI : bq ⟨16, [0]⟩ (Tryz.f137.body.getD .skip) = some aeH.strip := by kernel_rfl
def aeJ : J := .seq (.R [br 2 false] (some [2])) .ret
def aeK : J := .cond (.t 18) aeJ .skip
def aeL : J := .cond (.t 25) .skip (.exit 0)
def aeM : J := .seq (.R [br 2 false] (some [2])) .ret
def aeN : J := .cond (.t 44) aeM .skip
def aeO : J := .seq (.R [br 2 false] (some [2])) .ret
def aeP : J := .cond (.t 63) aeO .skip
def aeQ : J := .seq (.gK [a2 45 100 4 1,
 aR 46 46 45,
 b5 47 46 46,
 ab 48 0,
 hO 49 48,
 a2 50 38 49 0,
 aR 51 34 50,
 a2 52 100 4 0,
 aR 53 2 52,
 cv 54 34 51 53,
 a2 55 121 54 1,
 aR 56 2 55,
 b4 57 .neq 2 47 56,
 ab 58 57,
 ⟨some 59, .c1 100 (.t 4) 1, some (58, false)⟩,
 ⟨some 60, .cl 46 (.t 59), some (58, false)⟩,
 ⟨some 61, .call (.f 137) [(.t 60)], some (58, false)⟩,
 ⟨some 62, .un .not (.t 61), some (58, false)⟩,
 ro 63 (.pick (.t 58) (.c (.bool true)) (.t 62))] [[], [0], [1], [], [3], [4], [5], [], [7], [6, 8], [9], [10], [2, 11], [12], [13], [14, 13], [15, 13, 13], [16, 13], [13, 17]] (some [0, 3, 63])) aeP
def aeR : J := .seq (.seq (.gK [a2 35 100 4 0,
 aR 36 2 35,
 ab 37 0,
 hO 38 37,
 a2 39 38 38 0,
 aR 40 34 39,
 b5 41 34 40,
 a8 42 .sub 2 41 1,
 ro 43 (.call (.f 61) [(.t 36), (.c (.int .i64 0)), (.t 42)]),
 eF 44 43] [[], [0], [], [2], [3], [4], [5], [6], [1, 7], [8]] (some [0, 3, 4, 44])) aeN) aeQ
def aeS : J := .R [ab 26 3,
 a8 27 .add 3 26 1,
 aK 3 27] (some [0, 3])
def aeT : J := .seq (.block 1 (.seq (.R [ab 28 0,
 hO 29 28,
 a2 30 38 29 1,
 aR 31 35 30,
 ab 32 3,
 cv 33 35 31 32,
 aR 34 100 33,
 iD 4 100,
 eh 100 4 34] (some [0, 3, 4])) aeR)) aeS
def NM : J := .seq (.seq (.R [ab 19 3,
 ab 20 0,
 hO 21 20,
 a2 22 38 21 1,
 aR 23 35 22,
 b5 24 35 23,
 b4 25 .lss 3 19 24] (some [0, 3, 25])) aeL) aeT
def aeU : J := .block 0 (.loop NM)
def aeV : J := .seq (.R [br 2 true] (some [2])) .ret
def aeW : J := .seq (.seq (.R [bd 3 0] (some [0, 3])) aeU) aeV
def aeX : J := .seq (.seq (.R [ab 5 0,
 hO 6 5,
 a2 7 38 6 1,
 aR 8 35 7,
 b5 9 35 8,
 a8 10 .eql 3 9 0,
 ab 11 10,
 ⟨some 12, .ct (.t 0), some (11, false)⟩,
 ⟨some 13, .gu (.t 12), some (11, false)⟩,
 ⟨some 14, .c1 38 (.t 13) 1, some (11, false)⟩,
 ⟨some 15, .cl 35 (.t 14), some (11, false)⟩,
 ⟨some 16, .len 35 (.t 15), some (11, false)⟩,
 ⟨some 17, .ck .gtr 3 (.t 16) (.c (.int .i64 3)), some (11, false)⟩,
 ro 18 (.pick (.t 11) (.c (.bool true)) (.t 17))] (some [0, 18])) aeK) aeW
def aeY : J := .seq (.R [br 2 false] (some [0])) aeX
theorem aeZ : bq ⟨64, [0]⟩ (Tryz.f133.body.getD .skip) = some aeY.strip := by kernel_rfl
def ae0 : J := .seq (.R [ab 3 0,
 dO 4 181 3,
 ab 5 4,
 ⟨some 6, .ct (.t 0), some (5, true)⟩,
 ⟨some 7, .ck .neq 9 (.t 6) (.c (.str [116, 97, 117])), some (5, true)⟩,
 ro 8 (.pick (.t 5) (.t 7) (.c (.bool false))),
 aK 2 8] (some [2])) .ret
def ae1 : J := .seq (.R [br 2 false] (some [0])) ae0
theorem ae2 : bq ⟨9, [0]⟩ (Tryz.f183.body.getD .skip) = some ae1.strip := by kernel_rfl
def ae3 : J := .seq (.R [br 2 false] (some [2])) .ret
def ae4 : J := .cond (.t 8) ae3 .skip
def ae5 : J := .cond (.t 12) .skip (.exit 0)
def ae6 : J := .seq (.R [br 2 false] (some [2])) .ret
def ae7 : J := .cond (.t 41) ae6 .skip
def ae8 : J := .seq (.R [br 2 false] (some [2])) .ret
def ae9 : J := .cond (.t 76) ae8 .skip
def ae_ : J := .cond (.t 80) .skip (.exit 2)
def afa : J := .seq (.R [br 2 false] (some [2])) .ret
def afb : J := .cond (.t 100) afa .skip
def afc : J := .R [ab 81 5,
 a8 82 .add 3 81 1,
 aK 5 82] (some [0, 3, 4, 5])
def afd : J := .seq (.block 3 (.seq (.gK [ab 83 0,
 ab 84 5,
 cv 85 36 83 84,
 a2 86 124 85 0,
 aR 87 9 86,
 a2 88 124 4 2,
 aR 89 9 88,
 b4 90 .eql 9 87 89,
 ab 91 90,
 ⟨some 92, .ct (.t 0), some (91, false)⟩,
 ⟨some 93, .ct (.t 5), some (91, false)⟩,
 ⟨some 94, .fv 36 (.t 92) (.t 93), some (91, false)⟩,
 ⟨some 95, .c1 124 (.t 94) 1, some (91, false)⟩,
 ⟨some 96, .cl 9 (.t 95), some (91, false)⟩,
 ⟨some 97, .c1 124 (.t 4) 2, some (91, false)⟩,
 ⟨some 98, .cl 9 (.t 97), some (91, false)⟩,
 ⟨some 99, .ck .eql 9 (.t 96) (.t 98), some (91, false)⟩,
 ro 100 (.pick (.t 91) (.c (.bool true)) (.t 99))] [[], [], [0, 1], [2], [3], [], [5], [4, 6], [7], [8], [8], [9, 10, 8], [11, 8], [12, 8], [8], [14, 8], [13, 15, 8], [8, 16]] (some [0, 3, 4, 5, 100])) afb)) afc
def He : J := .seq (.seq (.R [ab 77 5,
 ab 78 0,
 b5 79 36 78,
 b4 80 .lss 3 77 79] (some [0, 3, 4, 5, 80])) ae_) afd
def afe : J := .block 2 (.loop He)
def aff : J := .seq (.R [bd 5 0] (some [0, 3, 4, 5])) afe
def afg : J := .seq (.seq (.gK [ab 42 3,
 a8 43 .gtr 3 42 0,
 ab 44 43,
 ⟨some 45, .ct (.t 0), some (44, true)⟩,
 ⟨some 46, .ct (.t 3), some (44, true)⟩,
 ⟨some 47, .ck .sub 3 (.t 46) (.c (.int .i64 1)), some (44, true)⟩,
 ⟨some 48, .fv 36 (.t 45) (.t 47), some (44, true)⟩,
 ⟨some 49, .c1 124 (.t 48) 0, some (44, true)⟩,
 ⟨some 50, .cl 9 (.t 49), some (44, true)⟩,
 ⟨some 51, .c1 124 (.t 4) 0, some (44, true)⟩,
 ⟨some 52, .cl 9 (.t 51), some (44, true)⟩,
 ⟨some 53, .ck .gtr 9 (.t 50) (.t 52), some (44, true)⟩,
 ⟨some 54, .ct (.t 53), some (44, true)⟩,
 ⟨some 55, .ct (.t 0), some (54, false)⟩,
 ⟨some 56, .ct (.t 3), some (54, false)⟩,
 ⟨some 57, .ck .sub 3 (.t 56) (.c (.int .i64 1)), some (54, false)⟩,
 ⟨some 58, .fv 36 (.t 55) (.t 57), some (54, false)⟩,
 ⟨some 59, .c1 124 (.t 58) 0, some (54, false)⟩,
 ⟨some 60, .cl 9 (.t 59), some (54, false)⟩,
 ⟨some 61, .c1 124 (.t 4) 0, some (54, false)⟩,
 ⟨some 62, .cl 9 (.t 61), some (54, false)⟩,
 ⟨some 63, .ck .eql 9 (.t 60) (.t 62), some (54, false)⟩,
 ⟨some 64, .ct (.t 63), some (54, false)⟩,
 ⟨some 65, .ct (.t 0), some (64, true)⟩,
 ⟨some 66, .ct (.t 3), some (64, true)⟩,
 ⟨some 67, .ck .sub 3 (.t 66) (.c (.int .i64 1)), some (64, true)⟩,
 ⟨some 68, .fv 36 (.t 65) (.t 67), some (64, true)⟩,
 ⟨some 69, .c1 124 (.t 68) 1, some (64, true)⟩,
 ⟨some 70, .cl 9 (.t 69), some (64, true)⟩,
 ⟨some 71, .c1 124 (.t 4) 1, some (64, true)⟩,
 ⟨some 72, .cl 9 (.t 71), some (64, true)⟩,
 ⟨some 73, .ck .geq 9 (.t 70) (.t 72), some (64, true)⟩,
 ⟨some 74, .pick (.t 64) (.t 73) (.c (.bool false)), some (54, false)⟩,
 ⟨some 75, .pick (.t 54) (.c (.bool true)) (.t 74), some (44, true)⟩,
 ro 76 (.pick (.t 44) (.t 75) (.c (.bool false)))] [[], [0], [1], [2], [2], [4, 2], [3, 5, 2], [6, 2], [7, 2], [2], [9, 2], [8, 10, 2], [11, 2, 2], [12], [12], [14, 12], [13, 15, 12], [16, 12], [17, 12], [12], [19, 12], [18, 20, 12], [21, 12, 12], [22], [22], [24, 22], [23, 25, 22], [26, 22], [27, 22], [22], [29, 22], [28, 30, 22], [22, 31, 12], [12, 32, 2], [2, 33]] (some [0, 3, 4, 76])) ae9) aff
def afh : J := .seq (.seq (.R [a2 19 124 4 0,
 aR 20 9 19,
 dO 21 183 20,
 eF 22 21,
 ab 23 22,
 ⟨some 24, .c1 124 (.t 4) 1, some (23, false)⟩,
 ⟨some 25, .cl 9 (.t 24), some (23, false)⟩,
 ⟨some 26, .call (.f 183) [(.t 25)], some (23, false)⟩,
 ⟨some 27, .un .not (.t 26), some (23, false)⟩,
 ro 28 (.pick (.t 23) (.c (.bool true)) (.t 27)),
 ab 29 28,
 ⟨some 30, .c1 124 (.t 4) 2, some (29, false)⟩,
 ⟨some 31, .cl 9 (.t 30), some (29, false)⟩,
 ⟨some 32, .call (.f 183) [(.t 31)], some (29, false)⟩,
 ⟨some 33, .un .not (.t 32), some (29, false)⟩,
 ro 34 (.pick (.t 29) (.c (.bool true)) (.t 33)),
 ab 35 34,
 ⟨some 36, .c1 124 (.t 4) 0, some (35, false)⟩,
 ⟨some 37, .cl 9 (.t 36), some (35, false)⟩,
 ⟨some 38, .c1 124 (.t 4) 1, some (35, false)⟩,
 ⟨some 39, .cl 9 (.t 38), some (35, false)⟩,
 ⟨some 40, .ck .gtr 9 (.t 37) (.t 39), some (35, false)⟩,
 ro 41 (.pick (.t 35) (.c (.bool true)) (.t 40))] (some [0, 3, 4, 41])) ae7) afg
def afi : J := .R [ab 13 3,
 a8 14 .add 3 13 1,
 aK 3 14] (some [0, 3])
def afj : J := .seq (.block 1 (.seq (.R [ab 15 0,
 ab 16 3,
 cv 17 36 15 16,
 aR 18 124 17,
 iD 4 124,
 eh 124 4 18] (some [0, 3, 4])) afh)) afi
def NN : J := .seq (.seq (.R [ab 9 3,
 ab 10 0,
 b5 11 36 10,
 b4 12 .lss 3 9 11] (some [0, 3, 12])) ae5) afj
def afk : J := .block 0 (.loop NN)
def afl : J := .seq (.R [br 2 true] (some [2])) .ret
def afm : J := .seq (.seq (.R [bd 3 0] (some [0, 3])) afk) afl
def afn : J := .seq (.seq (.R [ab 6 0,
 b5 7 36 6,
 a8 8 .gtr 3 7 6] (some [0, 8])) ae4) afm
def afo : J := .seq (.R [br 2 false] (some [0])) afn
theorem afp : bq ⟨101, [0]⟩ (Tryz.f134.body.getD .skip) = some afo.strip := by kernel_rfl
def afq : J := .cond (.t 7) .skip (.exit 0)
def afr : J := .seq (.R [br 2 false] (some [2])) .ret
def afs : J := .cond (.t 15) afr .skip
def aft : J := .R [ab 8 3,
 a8 9 .add 3 8 1,
 aK 3 9] (some [0, 3])
def afu : J := .seq (.block 1 (.seq (.R [ab 10 0,
 ab 11 3,
 cv 12 25 10 11,
 aR 13 9 12,
 dO 14 183 13,
 eF 15 14] (some [0, 3, 15])) afs)) aft
def NO : J := .seq (.seq (.R [ab 4 3,
 ab 5 0,
 b5 6 25 5,
 b4 7 .lss 3 4 6] (some [0, 3, 7])) afq) afu
def afv : J := .block 0 (.loop NO)
def afw : J := .seq (.R [br 2 true] (some [2])) .ret
def afx : J := .seq (.seq (.R [bd 3 0] (some [0, 3])) afv) afw
def afy : J := .seq (.R [br 2 false] (some [0])) afx
theorem afz : bq ⟨16, [0]⟩ (Tryz.f184.body.getD .skip) = some afy.strip := by kernel_rfl
def afA : J := .seq (.R [br 2 false] (some [2])) .ret
def afB : J := .cond (.t 11) afA .skip
def afC : J := .cond (.t 15) .skip (.exit 0)
def afD : J := .seq (.R [br 2 false] (some [2])) .ret
def afE : J := .cond (.t 27) afD .skip
def afF : J := .R [ab 16 3,
 a8 17 .add 3 16 1,
 aK 3 17] (some [0, 3])
def afG : J := .seq (.block 1 (.seq (.gK [ab 18 0,
 ab 19 3,
 a8 20 .sub 3 19 1,
 cv 21 25 18 20,
 aR 22 9 21,
 ab 23 0,
 ab 24 3,
 cv 25 25 23 24,
 aR 26 9 25,
 b4 27 .geq 9 22 26] [[], [], [1], [0, 2], [3], [], [], [5, 6], [7], [4, 8]] (some [0, 3, 27])) afE)) afF
def NP : J := .seq (.seq (.R [ab 12 3,
 ab 13 0,
 b5 14 25 13,
 b4 15 .lss 3 12 14] (some [0, 3, 15])) afC) afG
def afH : J := .block 0 (.loop NP)
def afI : J := .seq (.R [br 2 true] (some [2])) .ret
def afJ : J := .seq (.seq (.R [bd 3 1] (some [0, 3])) afH) afI
def afK : J := .seq (.seq (.R [ab 4 0,
 b5 5 25 4,
 a8 6 .gtr 3 5 12,
 ab 7 6,
 ⟨some 8, .ct (.t 0), some (7, false)⟩,
 ⟨some 9, .call (.f 184) [(.t 8)], some (7, false)⟩,
 ⟨some 10, .un .not (.t 9), some (7, false)⟩,
 ro 11 (.pick (.t 7) (.c (.bool true)) (.t 10))] (some [0, 11])) afB) afJ
def afL : J := .seq (.R [br 2 false] (some [0])) afK
theorem afM : bq ⟨28, [0]⟩ (Tryz.f135.body.getD .skip) = some afL.strip := by kernel_rfl
def afN : J := .seq (.R [bd 2 1] (some [2])) .ret
def afO : J := .cond (.t 8) afN .skip
def afP : J := .seq (.R [bd 2 2] (some [2])) .ret
def afQ : J := .cond (.t 11) afP .skip
def afR : J := .seq (.R [bd 2 3] (some [2])) .ret
def afS : J := .cond (.t 17) afR .skip
def afT : J := .seq (.R [bd 2 4] (some [2])) .ret
def afU : J := .cond (.t 23) afT .skip
def afV : J := .seq (.R [bd 2 5] (some [2])) .ret
def afW : J := .cond (.t 29) afV .skip
def afX : J := .seq (.R [bd 2 0] (some [2])) .ret
def afY : J := .seq (.seq (.R [ab 24 0,
 hO 25 24,
 a2 26 38 25 4,
 aR 27 25 26,
 dO 28 135 27,
 eF 29 28] (some [29])) afW) afX
def afZ : J := .seq (.seq (.R [ab 18 0,
 hO 19 18,
 a2 20 38 19 3,
 aR 21 25 20,
 dO 22 135 21,
 eF 23 22] (some [0, 23])) afU) afY
def af0 : J := .seq (.seq (.R [ab 12 0,
 hO 13 12,
 a2 14 38 13 2,
 aR 15 36 14,
 dO 16 134 15,
 eF 17 16] (some [0, 17])) afS) afZ
def af1 : J := .seq (.seq (.R [ab 9 0,
 dO 10 133 9,
 eF 11 10] (some [0, 11])) afQ) af0
def af2 : J := .seq (.seq (.R [ab 3 0,
 hO 4 3,
 a2 5 38 4 0,
 aR 6 34 5,
 dO 7 132 6,
 eF 8 7] (some [0, 8])) afO) af1
def af3 : J := .seq (.R [bd 2 0] (some [0])) af2
theorem af4 : bq ⟨30, [0]⟩ (Tryz.f79.body.getD .skip) = some af3.strip := by kernel_rfl
def af5 : J := .seq (.R [ab 3 0,
 dO 4 79 3,
 a8 5 .eql 2 4 0,
 aK 2 5] (some [2])) .ret
def af6 : J := .seq (.R [br 2 false] (some [0])) af5
theorem af7 : bq ⟨6, [0]⟩ (Tryz.f41.body.getD .skip) = some af6.strip := by kernel_rfl
def af8 : J := .seq (.R [br 4 false] (some [4])) .ret
def af9 : J := .cond (.t 14) af8 .skip
def af_ : J := .seq (.R [br 4 false] (some [4])) .ret
def aga : J := .cond (.t 43) af_ .skip
def agb : J := .seq (.gK [ab 44 1,
 hO 45 44,
 a2 46 82 45 2,
 aR 47 46 46,
 b5 48 46 47,
 ab 49 1,
 hO 50 49,
 a2 51 82 50 1,
 aR 52 2 51,
 dP 53 136 5 52,
 b4 54 .eql 2 48 53,
 ab 55 54,
 ⟨some 56, .ct (.t 1), some (55, true)⟩,
 ⟨some 57, .gu (.t 56), some (55, true)⟩,
 ⟨some 58, .c1 82 (.t 57) 2, some (55, true)⟩,
 ⟨some 59, .cl 46 (.t 58), some (55, true)⟩,
 ⟨some 60, .call (.f 137) [(.t 59)], some (55, true)⟩,
 ro 61 (.pick (.t 55) (.t 60) (.c (.bool false))),
 aK 4 61] [[], [0], [1], [2], [3], [], [5], [6], [7], [8], [4, 9], [10, 9], [11], [12, 11], [13, 11], [14, 11], [15, 11, 11], [11, 16], [17, 16, 0, 1, 2, 3, 4, 5, 6, 7, 8, 9, 10, 11, 12, 13, 14, 15, 16, 17]] (some [4])) .ret
def agc : J := .seq (.seq (.gK [ab 22 1,
 hO 23 22,
 a2 24 82 23 1,
 aR 25 2 24,
 a2 26 121 5 2,
 aR 27 119 26,
 b5 28 119 27,
 a8 29 .sub 2 28 1,
 ro 30 (.call (.f 61) [(.t 25), (.c (.int .i64 0)), (.t 29)]),
 eF 31 30,
 ab 32 31,
 ⟨some 33, .c1 121 (.t 5) 2, some (32, false)⟩,
 ⟨some 34, .cl 119 (.t 33), some (32, false)⟩,
 ⟨some 35, .ct (.t 1), some (32, false)⟩,
 ⟨some 36, .gu (.t 35), some (32, false)⟩,
 ⟨some 37, .c1 82 (.t 36) 1, some (32, false)⟩,
 ⟨some 38, .cl 2 (.t 37), some (32, false)⟩,
 ⟨some 39, .fv 119 (.t 34) (.t 38), some (32, false)⟩,
 ⟨some 40, .c1 178 (.t 39) 0, some (32, false)⟩,
 ⟨some 41, .cl 2 (.t 40), some (32, false)⟩,
 ⟨some 42, .ck .eql 2 (.t 41) (.c (.int .i64 5)), some (32, false)⟩,
 ro 43 (.pick (.t 32) (.c (.bool true)) (.t 42))] [[], [0], [1], [2], [], [4], [5], [6], [3, 7], [8], [9, 8], [10], [11, 10], [10], [13, 10], [14, 10], [15, 10], [12, 16, 10], [17, 10], [18, 10], [19, 10], [10, 20]] (some [1, 5, 43])) aga) agb
def agd : J := .seq (.R [ab 15 0,
 ab 16 1,
 hO 17 16,
 a2 18 82 17 0,
 aR 19 2 18,
 cv 20 34 15 19,
 aR 21 121 20,
 iD 5 121,
 eh 121 5 21] (some [1, 5])) agc
def age : J := .seq (.seq (.R [ab 6 1,
 hO 7 6,
 a2 8 82 7 0,
 aR 9 2 8,
 ab 10 0,
 b5 11 34 10,
 a8 12 .sub 2 11 1,
 ro 13 (.call (.f 61) [(.t 9), (.c (.int .i64 0)), (.t 12)]),
 eF 14 13] (some [0, 1, 14])) af9) agd
def agf : J := .seq (.R [br 4 false] (some [0, 1])) age
theorem agh : bq ⟨62, [0, 1]⟩ (Tryz.f80.body.getD .skip) = some agf.strip := by kernel_rfl
def agi : J := .seq (.R [br 4 false] (some [4])) .ret
def agj : J := .cond (.t 13) agi .skip
def agk : J := .cond (.t 17) .skip (.exit 0)
def agl : J := .seq (.R [br 4 false] (some [4])) .ret
def agm : J := .cond (.t 28) agl .skip
def agn : J := .R [ab 18 5,
 a8 19 .add 3 18 1,
 aK 5 19] (some [0, 1, 5])
def ago : J := .seq (.block 1 (.seq (.gK [ab 20 0,
 hO 21 20,
 a2 22 38 21 0,
 aR 23 34 22,
 ab 24 1,
 ab 25 5,
 cv 26 31 24 25,
 dP 27 80 23 26,
 eF 28 27] [[], [0], [1], [2], [], [], [4, 5], [3, 6], [7]] (some [0, 1, 5, 28])) agm)) agn
def NQ : J := .seq (.seq (.R [ab 14 5,
 ab 15 1,
 b5 16 31 15,
 b4 17 .lss 3 14 16] (some [0, 1, 5, 17])) agk) ago
def agp : J := .block 0 (.loop NQ)
def agq : J := .seq (.R [br 4 true] (some [4])) .ret
def agr : J := .seq (.seq (.R [bd 5 0] (some [0, 1, 5])) agp) agq
def ags : J := .seq (.seq (.R [ab 6 1,
 b5 7 31 6,
 ab 8 0,
 hO 9 8,
 a2 10 38 9 1,
 aR 11 35 10,
 b5 12 35 11,
 b4 13 .neq 3 7 12] (some [0, 1, 13])) agj) agr
def agt : J := .seq (.R [br 4 false] (some [0, 1])) ags
theorem agu : bq ⟨29, [0, 1]⟩ (Tryz.f42.body.getD .skip) = some agt.strip := by kernel_rfl
def agv : J := .seq (.R [br 4 false] (some [4])) .ret
def agw : J := .cond (.t 10) agv .skip
def agx : J := .cond (.t 16) .skip (.exit 0)
def agy : J := .seq (.R [br 4 false] (some [4])) .ret
def agz : J := .cond (.t 35) agy .skip
def agA : J := .R [ab 36 5,
 ab 37 0,
 ab 38 6,
 cv 39 46 37 38,
 aR 40 2 39,
 cv 41 165 36 40,
 ⟨none, .gC 4 (.t 41) (.c (.bool true)), none⟩] (some [0, 1, 5, 6])
def agB : J := .R [ab 17 6,
 a8 18 .add 3 17 1,
 aK 6 18] (some [0, 1, 5, 6])
def agC : J := .seq (.block 1 (.seq (.seq (.R [ab 19 0,
 ab 20 6,
 cv 21 46 19 20,
 aR 22 2 21,
 ab 23 1,
 a8 24 .sub 2 23 1,
 ro 25 (.call (.f 61) [(.t 22), (.c (.int .i64 0)), (.t 24)]),
 eF 26 25,
 ab 27 26,
 ⟨some 28, .ct (.t 5), some (27, false)⟩,
 ⟨some 29, .ct (.t 0), some (27, false)⟩,
 ⟨some 30, .ct (.t 6), some (27, false)⟩,
 ⟨some 31, .fv 46 (.t 29) (.t 30), some (27, false)⟩,
 ⟨some 32, .cl 2 (.t 31), some (27, false)⟩,
 ⟨some 33, .fv 165 (.t 28) (.t 32), some (27, false)⟩,
 ⟨some 34, .cl 4 (.t 33), some (27, false)⟩,
 ro 35 (.pick (.t 27) (.c (.bool true)) (.t 34))] (some [0, 1, 5, 6, 35])) agz) agA)) agB
def NR : J := .seq (.seq (.R [ab 13 6,
 ab 14 0,
 b5 15 46 14,
 b4 16 .lss 3 13 15] (some [0, 1, 5, 6, 16])) agx) agC
def agD : J := .block 0 (.loop NR)
def agE : J := .seq (.R [br 4 true] (some [4])) .ret
def agF : J := .seq (.seq (.R [bd 6 0] (some [0, 1, 5, 6])) agD) agE
def agG : J := .seq (.R [ab 11 1,
 ro 12 (.eQ 165 (.t 11) (.t 11)),
 aK 5 12] (some [0, 1, 5])) agF
def agH : J := .seq (.seq (.R [ab 7 0,
 b5 8 46 7,
 ab 9 1,
 b4 10 .neq 2 8 9] (some [0, 1, 10])) agw) agG
def agI : J := .seq (.R [br 4 false] (some [0, 1])) agH
theorem agJ : bq ⟨42, [0, 1]⟩ (Tryz.f69.body.getD .skip) = some agI.strip := by kernel_rfl
def agK : J := .seq (.R [ro 3 (.eW 46 0 []),
 ab 4 0,
 x7 5 46 46 3 4,
 aK 2 5] (some [2])) .ret
def agL : J := .seq (.R [jq 2] (some [0])) agK
theorem agM : bq ⟨6, [0]⟩ (Tryz.f117.body.getD .skip) = some agL.strip := by kernel_rfl
def agN : J := .cond (.t 12) .skip (.exit 0)
def agO : J := .gK [ab 22 5,
 a2 23 82 7 0,
 aR 24 2 23,
 a2 25 82 7 1,
 aR 26 2 25,
 a2 27 82 7 2,
 aR 28 46 27,
 dO 29 117 28,
 ro 30 (.fw 82 [(0, (.t 24)), (1, (.t 26)), (2, (.t 29))]),
 Bd 31 31 30,
 x7 32 31 31 22 31,
 aK 5 32] [[], [], [1], [], [3], [], [5], [6], [2, 4, 7], [8], [0, 9, 7], [10, 10, 0, 1, 2, 3, 4, 5, 6, 7, 8, 9, 10]] (some [0, 1, 5, 6])
def agP : J := .R [ab 13 6,
 a8 14 .add 3 13 1,
 aK 6 14] (some [0, 1, 5, 6])
def agQ : J := .seq (.block 1 (.seq (.R [ab 15 0,
 ab 16 1,
 ab 17 6,
 cv 18 46 16 17,
 aR 19 2 18,
 cv 20 31 15 19,
 aR 21 82 20,
 iD 7 82,
 eh 82 7 21] (some [0, 1, 5, 6, 7])) agO)) agP
def NS : J := .seq (.seq (.R [ab 9 6,
 ab 10 1,
 b5 11 46 10,
 b4 12 .lss 3 9 11] (some [0, 1, 5, 6, 12])) agN) agQ
def agR : J := .block 0 (.loop NS)
def agS : J := .seq (.R [ab 33 5,
 aK 4 33] (some [4])) .ret
def agT : J := .seq (.seq (.R [bd 6 0] (some [0, 1, 5, 6])) agR) agS
def agU : J := .seq (.R [ro 8 (.eW 31 0 []),
 aK 5 8] (some [0, 1, 5])) agT
def agV : J := .seq (.R [jq 4] (some [0, 1])) agU
theorem agW : bq ⟨34, [0, 1]⟩ (Tryz.f70.body.getD .skip) = some agV.strip := by kernel_rfl
def agX : J := .seq (.R [jq 6,
 bd 7 1] (some [6, 7])) .ret
def agY : J := .cond (.t 14) agX .skip
def agZ : J := .seq (.R [jq 6,
 bd 7 2] (some [6, 7])) .ret
def ag0 : J := .cond (.t 19) agZ .skip
def ag1 : J := .seq (.R [ab 20 1,
 ab 21 2,
 dP 22 70 20 21,
 aK 6 22,
 bd 7 0] (some [6, 7])) .ret
def ag2 : J := .seq (.seq (.R [ab 15 2,
 ab 16 1,
 b5 17 31 16,
 dP 18 69 15 17,
 eF 19 18] (some [1, 2, 19])) ag0) ag1
def ag3 : J := .seq (.seq (.R [dO 8 41 3,
 eF 9 8,
 ab 10 9,
 ⟨some 11, .ct (.t 1), some (10, false)⟩,
 ⟨some 12, .call (.f 42) [(.t 3), (.t 11)], some (10, false)⟩,
 ⟨some 13, .un .not (.t 12), some (10, false)⟩,
 ro 14 (.pick (.t 10) (.c (.bool true)) (.t 13))] (some [1, 2, 14])) agY) ag2
def ag4 : J := .seq (.R [ro 3 (.dh 38 (.t 0)),
 jq 6,
 bd 7 0] (some [1, 2, 3])) ag3
theorem tL : bq ⟨23, [0, 1, 2]⟩ (Tryz.f24.body.getD .skip) = some ag4.strip := by kernel_rfl
def ag5 : J := .seq (.R [ab 7 0,
 ab 8 1,
 b4 9 .geq 2 7 8,
 ab 10 9,
 ⟨some 11, .ct (.t 0), some (10, true)⟩,
 ⟨some 12, .ct (.t 2), some (10, true)⟩,
 ⟨some 13, .ck .leq 2 (.t 11) (.t 12), some (10, true)⟩,
 ro 14 (.pick (.t 10) (.t 13) (.c (.bool false))),
 aK 6 14] (some [6])) .ret
def ag6 : J := .seq (.R [br 6 false] (some [0, 1, 2])) ag5
theorem ag7 : bq ⟨15, [0, 1, 2]⟩ (Tryz.f106.body.getD .skip) = some ag6.strip := by kernel_rfl
def ag8 : J := .seq (.R [a2 3 121 1 1,
 aR 4 2 3,
 ro 5 (.call (.f 106) [(.t 4), (.c (.int .i64 0)), (.c (.int .i64 3))]),
 eF 6 5,
 aK 2 6] (some [2])) .ret
def ag9 : J := .seq (.R [ro 1 (.dh 121 (.t 0)),
 br 2 false] (some [1])) ag8
theorem ag_ : bq ⟨7, [0]⟩ (Tryz.f255.body.getD .skip) = some ag9.strip := by kernel_rfl
def aha : J := .seq (.R [ab 17 5,
 aK 4 17] (some [4])) .ret
def ahb : J := .cond (.t 16) aha .skip
def ahc : J := .seq (.R [ab 11 1,
 ab 12 0,
 ab 13 5,
 cv 14 34 12 13,
 aR 15 121 14,
 ro 16 (.call (.t 11) [(.t 15)])] (some [0, 1, 5, 7, 8, 16])) ahb
def ahd : J := .R [a8 18 .add 3 8 1,
 ab 8 18] (some [0, 1, 7, 8])
def ahe : J := .seq (.block 1 (.seq (.R [ab 10 8,
 aK 5 10] (some [0, 1, 5, 7, 8])) ahc)) ahd
def ahf : J := .seq (.cond (.t 9) .skip (.exit 0)) ahe
def NT : J := .seq (.R [b4 9 .lss 3 8 7] (some [0, 1, 7, 8, 9])) ahf
def ahg : J := .block 0 (.loop NT)
def ahh : J := .seq (.R [bd 4 (-1)] (some [4])) .ret
def ahi : J := .seq (.seq (.R [ab 6 0,
 b5 7 34 6,
 lv 8 0] (some [0, 1, 7, 8])) ahg) ahh
def ahj : J := .seq (.R [bd 4 0] (some [0, 1])) ahi
theorem ahk : bq ⟨19, [0, 1]⟩ (Tryz.f257.body.getD .skip) = some ahj.strip := by kernel_rfl
def ahl : J := .seq (.R [ab 5 0,
 ab 6 1,
 dP 7 257 5 6,
 a8 8 .geq 3 7 0,
 aK 4 8] (some [4])) .ret
def ahm : J := .seq (.R [br 4 false] (some [0, 1])) ahl
theorem ahn : bq ⟨9, [0, 1]⟩ (Tryz.f254.body.getD .skip) = some ahm.strip := by kernel_rfl
def aho : J := .seq (.R [ab 3 0,
 ro 4 (.call (.f 254) [(.t 3), (.f 255)]),
 eF 5 4,
 aK 2 5] (some [2])) .ret
def ahp : J := .seq (.R [br 2 false] (some [0])) aho
theorem ahq : bq ⟨6, [0]⟩ (Tryz.f208.body.getD .skip) = some ahp.strip := by kernel_rfl
def ahr : J := .seq (.R [ab 3 0,
 ro 4 (.ck .geq 5 (.t 3) (.c (.int .u8 48))),
 ab 5 4,
 ⟨some 6, .ct (.t 0), some (5, true)⟩,
 ⟨some 7, .ck .leq 5 (.t 6) (.c (.int .u8 57)), some (5, true)⟩,
 ro 8 (.pick (.t 5) (.t 7) (.c (.bool false))),
 aK 2 8] (some [2])) .ret
def ahs : J := .seq (.R [br 2 false] (some [0])) ahr
theorem aht : bq ⟨9, [0]⟩ (Tryz.f256.body.getD .skip) = some ahs.strip := by kernel_rfl
def ahu : J := .seq (.R [br 2 false] (some [2])) .ret
def ahv : J := .cond (.t 32) ahu .skip
def ahw : J := .seq (.R [ab 20 4,
 eF 21 20,
 ab 22 21,
 ⟨some 23, .ct (.t 3), some (22, true)⟩,
 ⟨some 24, .ck .eql 3 (.t 23) (.c (.int .i64 0)), some (22, true)⟩,
 ⟨some 25, .ct (.t 24), some (22, true)⟩,
 ⟨some 26, .ct (.t 0), some (25, false)⟩,
 ⟨some 27, .ct (.t 3), some (25, false)⟩,
 ⟨some 28, .idx 9 (.t 26) (.t 27), some (25, false)⟩,
 ⟨some 29, .call (.f 256) [(.t 28)], some (25, false)⟩,
 ⟨some 30, .un .not (.t 29), some (25, false)⟩,
 ⟨some 31, .pick (.t 25) (.c (.bool true)) (.t 30), some (22, true)⟩,
 ro 32 (.pick (.t 22) (.t 31) (.c (.bool false)))] (some [0, 6, 7, 32])) ahv
def ahx : J := .seq (.R [ab 10 0,
 ab 11 3,
 Mm 12 9 10 11,
 ro 13 (.ck .geq 5 (.t 12) (.c (.int .u8 97))),
 ab 14 13,
 ⟨some 15, .ct (.t 0), some (14, true)⟩,
 ⟨some 16, .ct (.t 3), some (14, true)⟩,
 ⟨some 17, .idx 9 (.t 15) (.t 16), some (14, true)⟩,
 ⟨some 18, .ck .leq 5 (.t 17) (.c (.int .u8 122)), some (14, true)⟩,
 ro 19 (.pick (.t 14) (.t 18) (.c (.bool false))),
 aK 4 19] (some [0, 3, 4, 6, 7])) ahw
def ahy : J := .R [a8 33 .add 3 7 1,
 ab 7 33] (some [0, 6, 7])
def ahz : J := .seq (.block 1 (.seq (.R [ab 9 7,
 aK 3 9] (some [0, 3, 6, 7])) ahx)) ahy
def ahA : J := .seq (.cond (.t 8) .skip (.exit 0)) ahz
def NU : J := .seq (.R [b4 8 .lss 3 7 6] (some [0, 6, 7, 8])) ahA
def ahB : J := .block 0 (.loop NU)
def ahC : J := .seq (.R [ab 34 0,
 b5 35 9 34,
 a8 36 .geq 3 35 1,
 ab 37 36,
 ⟨some 38, .ct (.t 0), some (37, true)⟩,
 ⟨some 39, .len 9 (.t 38), some (37, true)⟩,
 ⟨some 40, .ck .leq 3 (.t 39) (.c (.int .i64 10)), some (37, true)⟩,
 ro 41 (.pick (.t 37) (.t 40) (.c (.bool false))),
 aK 2 41] (some [2])) .ret
def ahD : J := .seq (.seq (.R [ab 5 0,
 b5 6 9 5,
 lv 7 0] (some [0, 6, 7])) ahB) ahC
def ahE : J := .seq (.R [br 2 false] (some [0])) ahD
theorem ahF : bq ⟨42, [0]⟩ (Tryz.f209.body.getD .skip) = some ahE.strip := by kernel_rfl
def ahG : J := .seq (.R [a2 4 121 2 0,
 aR 5 9 4,
 aR 6 9 1,
 b4 7 .eql 9 5 6,
 aK 3 7] (some [3])) .ret
def ahH : J := .seq (.R [ro 2 (.dh 121 (.t 0)),
 br 3 false] (some [1, 2])) ahG
theorem ahI : bq ⟨8, [0, 1]⟩ (Tryz.f258.body.getD .skip) = some ahH.strip := by kernel_rfl
def ahJ : J := .seq (.R [ab 17 5,
 aK 4 17] (some [4])) .ret
def ahK : J := .cond (.t 16) ahJ .skip
def ahL : J := .seq (.R [ab 11 1,
 ab 12 0,
 ab 13 5,
 cv 14 34 12 13,
 aR 15 121 14,
 ro 16 (.call (.t 11) [(.t 15)])] (some [0, 1, 5, 7, 8, 16])) ahK
def ahM : J := .R [a8 18 .add 3 8 1,
 ab 8 18] (some [0, 1, 7, 8])
def ahN : J := .seq (.block 1 (.seq (.R [ab 10 8,
 aK 5 10] (some [0, 1, 5, 7, 8])) ahL)) ahM
def ahO : J := .seq (.cond (.t 9) .skip (.exit 0)) ahN
def NV : J := .seq (.R [b4 9 .lss 3 8 7] (some [0, 1, 7, 8, 9])) ahO
def ahP : J := .block 0 (.loop NV)
def ahQ : J := .seq (.R [bd 4 (-1)] (some [4])) .ret
def ahR : J := .seq (.seq (.R [ab 6 0,
 b5 7 34 6,
 lv 8 0] (some [0, 1, 7, 8])) ahP) ahQ
def ahS : J := .seq (.R [bd 4 0] (some [0, 1])) ahR
theorem ahT : bq ⟨19, [0, 1]⟩ (Tryz.f257.body.getD .skip) = some ahS.strip := by kernel_rfl
def ahU : J := .seq (.R [ab 5 0,
 ro 6 (.iy 258 [(.t 3)]),
 dP 7 257 5 6,
 aK 4 7] (some [4])) .ret
def ahV : J := .seq (.R [ro 3 (.dh 9 (.t 1)),
 bd 4 0] (some [0, 3])) ahU
theorem ahW : bq ⟨8, [0, 1]⟩ (Tryz.f210.body.getD .skip) = some ahV.strip := by kernel_rfl
def ahX : J := .R [a8 8 .eql 2 4 4,
 aK 5 8] (some [4, 5])
def ahY : J := .cond (.t 5) .skip ahX
def ahZ : J := .seq (.R [a8 7 .eql 2 4 3,
 aK 5 7] (some [4, 5])) ahY
def ah0 : J := .cond (.t 5) .skip ahZ
def ah1 : J := .seq (.R [bd 2 1] (some [2])) .ret
def ah2 : J := .seq (.R [bd 2 2] (some [2])) .ret
def ah3 : J := .cond (.t 9) ah2 .skip
def ah4 : J := .seq (.R [a8 10 .eql 2 4 2,
 aK 9 10] (some [9])) ah3
def NW : J := .cond (.t 5) ah1 ah4
def ah5 : J := .block 0 (.seq (.seq (.R [a8 6 .eql 2 4 1,
 aK 5 6] (some [4, 5])) ah0) NW)
def ah6 : J := .seq (.R [bd 2 0] (some [2])) .ret
def ah7 : J := .seq (.seq (.R [a2 3 178 1 0,
 aR 4 2 3] (some [4])) ah5) ah6
def ah8 : J := .seq (.R [ro 1 (.dh 178 (.t 0)),
 bd 2 0] (some [1])) ah7
theorem ah9 : bq ⟨11, [0]⟩ (Tryz.f188.body.getD .skip) = some ah8.strip := by kernel_rfl
def ah_ : J := .cond (.t 7) .skip (.exit 0)
def aia : J := .seq (.R [bd 4 (-1)] (some [4])) .ret
def aib : J := .cond (.t 14) aia .skip
def aic : J := .R [ab 15 5,
 a2 16 121 2 2,
 aR 17 119 16,
 ab 18 1,
 cv 19 119 17 18,
 aR 20 178 19,
 dO 21 188 20,
 a8 22 .sub 3 21 1,
 b4 23 .add 3 15 22,
 aK 5 23] (some [1, 2, 5])
def aid : J := .R [ab 8 1,
 a8 9 .add 3 8 1,
 aK 1 9] (some [1, 2, 5])
def aie : J := .seq (.block 1 (.seq (.seq (.R [ab 10 1,
 a2 11 121 2 2,
 aR 12 119 11,
 b5 13 119 12,
 b4 14 .geq 3 10 13] (some [1, 2, 5, 14])) aib) aic)) aid
def NX : J := .seq (.seq (.R [ab 6 5,
 a8 7 .gtr 3 6 0] (some [1, 2, 5, 7])) ah_) aie
def aif : J := .block 0 (.loop NX)
def aih : J := .seq (.R [ab 24 1,
 aK 4 24] (some [4])) .ret
def aii : J := .seq (.seq (.R [bd 5 1] (some [1, 2, 5])) aif) aih
def aij : J := .seq (.R [ro 2 (.dh 121 (.t 0)),
 bd 4 0] (some [1, 2])) aii
theorem aik : bq ⟨25, [0]⟩ (Tryz.f165.body.getD .skip) = some aij.strip := by kernel_rfl
def ail : J := .R [a2 29 183 9 0,
 aR 30 2 29,
 a8 31 .add 2 30 1,
 a2 32 183 9 0,
 eh 2 32 31] (some [0, 2, 3, 4, 8, 9])
def aim : J := .cond (.t 28) ail .skip
def ain : J := .R [a8 43 .add 3 37 1,
 ab 37 43] (some [2, 3, 4, 9, 10, 36, 37])
def aio : J := .seq (.block 1 (.jn (Gd aD 187 4 2 39 ((List.range 3).map (· + 2)) [ab 40 10, aR 41 183 9] [(.t 40), (.t 41)] (some 42) [aK 10 42] [2, 3, 4, 9, 10, 36, 37]) (LV 224 4 39 [ab 40 10, aR 41 183 9] [(.t 40), (.t 41)] (some 42) [aK 10 42]))) ain
def aip : J := .seq (.cond (.t 38) .skip (.exit 0)) aio
def NY : J := .seq (.R [b4 38 .lss 3 37 36] (some [2, 3, 4, 9, 10, 36, 37, 38])) aip
def aiq : J := .block 0 (.loop NY)
def air : J := .seq (.R [ab 44 10,
 aK 7 44] (some [2, 3, 4, 7])) .ret
def ais : J := .seq (.seq (.R [aR 35 178 8,
 dO 36 188 35,
 lv 37 0] (some [2, 3, 4, 9, 10, 36, 37])) aiq) air
def NZ : J := .seq (.R [ab 33 0,
 a8 34 .add 3 33 1,
 aK 10 34] (some [2, 3, 4, 8, 9, 10])) ais
def ait : J := .seq (.seq (.R [a2 26 178 8 0,
 aR 27 2 26,
 a8 28 .eql 2 27 4] (some [0, 2, 3, 4, 8, 9, 28])) aim) NZ
def aiu : J := .seq (.R [a2 20 183 6 0,
 aR 21 2 20,
 a2 22 178 8 0,
 aR 23 2 22,
 a8 24 .eql 2 23 1,
 ro 25 (.fw 183 [(0, (.t 21)), (1, (.t 24))]),
 iD 9 183,
 eh 183 9 25] (some [0, 2, 3, 4, 8, 9])) ait
def aiv : J := .seq (.R [a2 15 121 3 2,
 aR 16 119 15,
 ab 17 0,
 cv 18 119 16 17,
 aR 19 178 18,
 iD 8 178,
 eh 178 8 19] (some [0, 2, 3, 4, 6, 8])) aiu
def aiw : J := .seq (.R [aR 11 184 2,
 ab 12 0,
 aR 13 183 6,
 cv 14 184 11 12,
 eh 183 14 13] (some [0, 2, 3, 4, 6])) aiv
def N0 : J := .seq (.R [ro 6 (.dh 183 (.t 1)),
 bd 7 0] (some [0, 2, 3, 4, 6])) aiw
theorem aix : N0.mT (Ba aD 187 [0, 1, 2, 3, 4] 5 2 4) := And.intro (True.intro) (And.intro (True.intro) (And.intro (True.intro) (And.intro (True.intro) (And.intro (And.intro (True.intro) (And.intro (True.intro) (True.intro))) (And.intro (True.intro) (And.intro (And.intro (True.intro) (And.intro (True.intro) (And.intro (And.intro (True.intro) (True.intro)) (And.intro (⟨224, 2, 39, 3, _, _, _, _, _, rfl, rfl, (by kernel_rfl), rfl, rfl, rfl, rfl, rfl, rfl, rfl⟩) (True.intro))))) (And.intro (True.intro) (True.intro))))))))
theorem aiy : bq ⟨45, [0, 1, 2, 3, 4]⟩ (Tryz.f187.body.getD .skip) = some N0.strip := by kernel_rfl
def Hf : J := .seq (.R [aR 15 184 3,
 aK 2 15] (some [2])) .ret
def aiz : J := .seq (.R [aR 10 224 4,
 a2 11 121 1 1,
 aR 12 2 11,
 ro 13 (.fw 183 [(0, (.t 12))]),
 ro 14 (.call (.t 10) [(.c (.int .i64 0)), (.t 13)])] (some [3])) Hf
def aCx : J := .seq (.R [ro 9 (.iy 187 [(.t 3), (.t 1), (.t 4)]),
 eh 224 4 9] (some [1, 3, 4])) aiz
def aiA : J := .jn (Gi aD 187 4 2 10 9 [3, 1, 4] [a2 11 121 1 1, aR 12 2 11, ro 13 (.fw 183 [(0, (.t 12))])] [(.c (.int .i64 0)), (.t 13)] (some 14) [3] Hf) (L0 224 187 4 10 9 [3, 1, 4] [a2 11 121 1 1, aR 12 2 11, ro 13 (.fw 183 [(0, (.t 12))])] [(.c (.int .i64 0)), (.t 13)] (some 14) Hf.kZ)
def aiB : J := .seq (.R [a2 5 121 1 2,
 aR 6 119 5,
 b5 7 119 6,
 ro 8 (.eQ 184 (.t 7) (.t 7)),
 iD 3 184,
 eh 184 3 8] (some [1, 3])) aiA
def N1 : J := .seq (.R [ro 1 (.dh 121 (.t 0)),
 jq 2] (some [1])) aiB
theorem aiC : N1.mT (x4 aD) := And.intro (True.intro) (And.intro (True.intro) (⟨224, 187, 4, 2, 10, 9, _, _, _, _, _, _, rfl, rfl, (by kernel_rfl), ⟨Tryz.t224, _, _, (by kernel_rfl), rfl, rfl, rfl, rfl⟩, rfl, rfl, rfl, rfl, (by kernel_rfl)⟩))
theorem aiD : bq ⟨16, [0]⟩ (Tryz.f141.body.getD .skip) = some N1.strip := by kernel_rfl
def aiE : J := .seq (.R [a2 26 178 1 0,
 aR 27 2 26,
 ro 28 (.call (.f 106) [(.t 27), (.c (.int .i64 0)), (.c (.int .i64 5))]),
 ab 29 28,
 ⟨some 30, .ct (.t 3), some (29, true)⟩,
 ⟨some 31, .ct (.t 30), some (29, true)⟩,
 ⟨some 32, .c1 178 (.t 1) 1, some (31, false)⟩,
 ⟨some 33, .cl 2 (.t 32), some (31, false)⟩,
 ⟨some 34, .ck .eql 2 (.t 33) (.c (.int .i64 0)), some (31, false)⟩,
 ⟨some 35, .pick (.t 31) (.c (.bool true)) (.t 34), some (29, true)⟩,
 ro 36 (.pick (.t 29) (.t 35) (.c (.bool false))),
 ab 37 36,
 ⟨some 38, .c1 178 (.t 1) 0, some (37, true)⟩,
 ⟨some 39, .cl 2 (.t 38), some (37, true)⟩,
 ⟨some 40, .ck .eql 2 (.t 39) (.c (.int .i64 1)), some (37, true)⟩,
 ⟨some 41, .ct (.t 40), some (37, true)⟩,
 ⟨some 42, .c1 178 (.t 1) 2, some (41, false)⟩,
 ⟨some 43, .cl 9 (.t 42), some (41, false)⟩,
 ⟨some 44, .ck .eql 9 (.t 43) (.c (.str [])), some (41, false)⟩,
 ⟨some 45, .pick (.t 41) (.c (.bool true)) (.t 44), some (37, true)⟩,
 ro 46 (.pick (.t 37) (.t 45) (.c (.bool false))),
 ab 47 46,
 ⟨some 48, .ct (.t 4), some (47, true)⟩,
 ⟨some 49, .ct (.t 48), some (47, true)⟩,
 ⟨some 50, .c1 178 (.t 1) 3, some (49, false)⟩,
 ⟨some 51, .cl 146 (.t 50), some (49, false)⟩,
 ⟨some 52, .len 146 (.t 51), some (49, false)⟩,
 ⟨some 53, .ck .eql 3 (.t 52) (.c (.int .i64 0)), some (49, false)⟩,
 ⟨some 54, .pick (.t 49) (.c (.bool true)) (.t 53), some (47, true)⟩,
 ro 55 (.pick (.t 47) (.t 54) (.c (.bool false))),
 aK 2 55] (some [2])) .ret
def aiF : J := .seq (.R [a2 13 178 1 0,
 aR 14 2 13,
 a8 15 .eql 2 14 1,
 ab 16 15,
 ⟨some 17, .c1 178 (.t 1) 0, some (16, false)⟩,
 ⟨some 18, .cl 2 (.t 17), some (16, false)⟩,
 ⟨some 19, .ck .eql 2 (.t 18) (.c (.int .i64 3)), some (16, false)⟩,
 ro 20 (.pick (.t 16) (.c (.bool true)) (.t 19)),
 ab 21 20,
 ⟨some 22, .c1 178 (.t 1) 0, some (21, false)⟩,
 ⟨some 23, .cl 2 (.t 22), some (21, false)⟩,
 ⟨some 24, .ck .eql 2 (.t 23) (.c (.int .i64 5)), some (21, false)⟩,
 ro 25 (.pick (.t 21) (.c (.bool true)) (.t 24)),
 aK 4 25] (some [1, 3, 4])) aiE
def aiG : J := .seq (.R [a2 5 178 1 0,
 aR 6 2 5,
 a8 7 .eql 2 6 4,
 ab 8 7,
 ⟨some 9, .c1 178 (.t 1) 0, some (8, false)⟩,
 ⟨some 10, .cl 2 (.t 9), some (8, false)⟩,
 ⟨some 11, .ck .eql 2 (.t 10) (.c (.int .i64 5)), some (8, false)⟩,
 ro 12 (.pick (.t 8) (.c (.bool true)) (.t 11)),
 aK 3 12] (some [1, 3])) aiF
def aiH : J := .seq (.R [ro 1 (.dh 178 (.t 0)),
 br 2 false] (some [1])) aiG
theorem aiI : bq ⟨56, [0]⟩ (Tryz.f286.body.getD .skip) = some aiH.strip := by kernel_rfl
def aiJ : J := .seq (.R [ab 3 0,
 dO 4 209 3,
 ab 5 4,
 ⟨some 6, .ct (.t 0), some (5, true)⟩,
 ⟨some 7, .ck .neq 9 (.t 6) (.c (.str [116, 97, 117])), some (5, true)⟩,
 ro 8 (.pick (.t 5) (.t 7) (.c (.bool false))),
 aK 2 8] (some [2])) .ret
def aiK : J := .seq (.R [br 2 false] (some [0])) aiJ
theorem aiL : bq ⟨9, [0]⟩ (Tryz.f213.body.getD .skip) = some aiK.strip := by kernel_rfl
def aiM : J := .seq (.R [ab 5 0,
 ab 6 1,
 a8 7 .sub 2 6 1,
 ro 8 (.call (.f 106) [(.t 5), (.c (.int .i64 0)), (.t 7)]),
 aK 4 8] (some [4])) .ret
def aiN : J := .seq (.R [br 4 false] (some [0, 1])) aiM
theorem aiO : bq ⟨9, [0, 1]⟩ (Tryz.f64.body.getD .skip) = some aiN.strip := by kernel_rfl
def aiP : J := .seq (.R [ab 13 5,
 a8 14 .eql 3 13 0,
 ab 15 14,
 ⟨some 16, .c1 178 (.t 2) 2, some (15, false)⟩,
 ⟨some 17, .cl 9 (.t 16), some (15, false)⟩,
 ⟨some 18, .ck .neq 9 (.t 17) (.c (.str [116, 97, 117])), some (15, false)⟩,
 ⟨some 19, .ct (.t 18), some (15, false)⟩,
 ⟨some 20, .ct (.t 5), some (19, true)⟩,
 ⟨some 21, .ck .leq 3 (.t 20) (.c (.int .i64 2)), some (19, true)⟩,
 ⟨some 22, .pick (.t 19) (.t 21) (.c (.bool false)), some (15, false)⟩,
 ro 23 (.pick (.t 15) (.c (.bool true)) (.t 22)),
 aK 4 23] (some [4])) .ret
def aiQ : J := .seq (.R [ab 26 5,
 a8 27 .eql 3 26 1,
 aK 4 27] (some [4])) .ret
def aiR : J := .seq (.R [ab 30 5,
 ab 31 1,
 a2 32 178 2 1,
 aR 33 2 32,
 cv 34 34 31 33,
 a2 35 121 34 1,
 aR 36 2 35,
 b4 37 .eql 2 30 36,
 aK 4 37] (some [4])) .ret
def aiS : J := .cond (.t 28) aiR .skip
def aiT : J := .seq (.R [a8 29 .eql 2 10 5,
 aK 28 29] (some [1, 2, 5, 28])) aiS
def aiU : J := .cond (.t 24) aiQ aiT
def aiV : J := .seq (.R [a8 25 .eql 2 10 3,
 aK 24 25] (some [1, 2, 5, 10, 24])) aiU
def aiW : J := .cond (.t 11) aiP aiV
def aiX : J := .block 0 (.seq (.R [a8 12 .eql 2 10 1,
 aK 11 12] (some [1, 2, 5, 10, 11])) aiW)
def aiY : J := .seq (.R [br 4 true] (some [4])) .ret
def aiZ : J := .seq (.seq (.R [a2 9 178 2 0,
 aR 10 2 9] (some [1, 2, 5, 10])) aiX) aiY
def ai0 : J := .seq (.R [a2 6 178 2 3,
 aR 7 146 6,
 b5 8 146 7,
 aK 5 8] (some [1, 2, 5])) aiZ
def ai1 : J := .seq (.R [ro 2 (.dh 178 (.t 0)),
 br 4 false] (some [1, 2])) ai0
theorem ai2 : bq ⟨38, [0, 1]⟩ (Tryz.f287.body.getD .skip) = some ai1.strip := by kernel_rfl
def ai3 : J := .seq (.R [ab 3 0,
 ro 4 (.call (.f 106) [(.t 3), (.c (.int .i64 0)), (.c (.int .i64 63))]),
 aK 2 4] (some [2])) .ret
def ai4 : J := .seq (.R [br 2 false] (some [0])) ai3
theorem ai5 : bq ⟨5, [0]⟩ (Tryz.f191.body.getD .skip) = some ai4.strip := by kernel_rfl
def ai6 : J := .seq (.R [a2 9 196 2 1,
 aR 10 2 9,
 dO 11 191 10,
 aK 4 11] (some [4])) .ret
def ai7 : J := .seq (.R [a2 14 196 2 1,
 aR 15 2 14,
 ab 16 1,
 a8 17 .sub 2 16 1,
 ro 18 (.call (.f 106) [(.t 15), (.c (.int .i64 0)), (.t 17)]),
 aK 4 18] (some [4])) .ret
def ai8 : J := .seq (.R [a2 21 196 2 1,
 aR 22 2 21,
 ro 23 (.call (.f 106) [(.t 22), (.c (.int .i64 0)), (.c (.int .i64 8))]),
 aK 4 23] (some [4])) .ret
def ai9 : J := .seq (.R [a2 26 196 2 1,
 aR 27 2 26,
 a8 28 .eql 2 27 0,
 aK 4 28] (some [4])) .ret
def ai_ : J := .cond (.t 24) ai9 .skip
def aja : J := .seq (.R [a8 25 .eql 2 6 3,
 aK 24 25] (some [2, 24])) ai_
def ajb : J := .cond (.t 19) ai8 aja
def ajc : J := .seq (.R [a8 20 .eql 2 6 2,
 aK 19 20] (some [2, 6, 19])) ajb
def ajd : J := .cond (.t 12) ai7 ajc
def aje : J := .seq (.R [a8 13 .eql 2 6 1,
 aK 12 13] (some [1, 2, 6, 12])) ajd
def ajf : J := .cond (.t 7) ai6 aje
def ajg : J := .block 0 (.seq (.R [a8 8 .eql 2 6 0,
 aK 7 8] (some [1, 2, 6, 7])) ajf)
def ajh : J := .seq (.R [br 4 false] (some [4])) .ret
def aji : J := .seq (.seq (.R [a2 5 196 2 0,
 aR 6 2 5] (some [1, 2, 6])) ajg) ajh
def ajj : J := .seq (.R [ro 2 (.dh 196 (.t 0)),
 br 4 false] (some [1, 2])) aji
theorem ajk : bq ⟨29, [0, 1]⟩ (Tryz.f268.body.getD .skip) = some ajj.strip := by kernel_rfl
def ajl : J := .seq (.R [bd 2 2] (some [2])) .ret
def ajm : J := .seq (.R [bd 2 1] (some [2])) .ret
def ajn : J := .cond (.t 7) ajm .skip
def ajo : J := .seq (.R [a8 8 .eql 2 4 3,
 aK 7 8] (some [7])) ajn
def ajp : J := .cond (.t 5) ajl ajo
def ajq : J := .block 0 (.seq (.R [a8 6 .eql 2 4 2,
 aK 5 6] (some [4, 5])) ajp)
def ajr : J := .seq (.R [bd 2 0] (some [2])) .ret
def ajs : J := .seq (.seq (.R [a2 3 196 1 0,
 aR 4 2 3] (some [4])) ajq) ajr
def ajt : J := .seq (.R [ro 1 (.dh 196 (.t 0)),
 bd 2 0] (some [1])) ajs
theorem aju : bq ⟨9, [0]⟩ (Tryz.f269.body.getD .skip) = some ajt.strip := by kernel_rfl
def ajv : J := .seq (.R [br 6 false] (some [6])) .ret
def ajw : J := .cond (.t 24) ajv .skip
def ajx : J := .seq (.R [br 6 false] (some [6])) .ret
def ajy : J := .cond (.t 38) ajx .skip
def ajz : J := .R [ab 39 7,
 aR 40 196 9,
 dO 41 269 40,
 a8 42 .sub 3 41 1,
 b4 43 .add 3 39 42,
 aK 7 43] (some [1, 7, 25, 26, 27])
def ajA : J := .seq (.seq (.R [ab 31 7,
 a8 32 .eql 3 31 0,
 ab 33 32,
 ⟨some 34, .cl 196 (.t 9), some (33, false)⟩,
 ⟨some 35, .ct (.t 1), some (33, false)⟩,
 ⟨some 36, .call (.f 268) [(.t 34), (.t 35)], some (33, false)⟩,
 ⟨some 37, .un .not (.t 36), some (33, false)⟩,
 ro 38 (.pick (.t 33) (.c (.bool true)) (.t 37))] (some [1, 7, 9, 25, 26, 27, 38])) ajy) ajz
def ajB : J := .R [a8 44 .add 3 27 1,
 ab 27 44] (some [1, 7, 25, 26, 27])
def ajC : J := .seq (.block 1 (.seq (.R [cv 29 145 25 27,
 aR 30 196 29,
 iD 9 196,
 eh 196 9 30] (some [1, 7, 9, 25, 26, 27])) ajA)) ajB
def ajD : J := .seq (.cond (.t 28) .skip (.exit 0)) ajC
def N2 : J := .seq (.R [b4 28 .lss 3 27 26] (some [1, 7, 25, 26, 27, 28])) ajD
def ajE : J := .block 0 (.loop N2)
def ajF : J := .seq (.R [ab 45 7,
 a8 46 .eql 3 45 0,
 aK 6 46] (some [6])) .ret
def ajG : J := .seq (.seq (.R [ab 25 0,
 b5 26 145 25,
 lv 27 0] (some [1, 7, 25, 26, 27])) ajE) ajF
def ajH : J := .seq (.R [bd 7 1] (some [0, 1, 7])) ajG
def ajI : J := .seq (.seq (.R [ab 10 1,
 ro 11 (.call (.f 106) [(.t 10), (.c (.int .i64 0)), (.c (.int .i64 29))]),
 eF 12 11,
 ab 13 12,
 ⟨some 14, .ct (.t 2), some (13, false)⟩,
 ⟨some 15, .call (.f 106) [(.t 14), (.c (.int .i64 1)), (.c (.int .i64 60))], some (13, false)⟩,
 ⟨some 16, .un .not (.t 15), some (13, false)⟩,
 ro 17 (.pick (.t 13) (.c (.bool true)) (.t 16)),
 ab 18 17,
 ⟨some 19, .ct (.t 0), some (18, false)⟩,
 ⟨some 20, .len 145 (.t 19), some (18, false)⟩,
 ⟨some 21, .ct (.t 2), some (18, false)⟩,
 ⟨some 22, .call (.f 106) [(.t 20), (.c (.int .i64 1)), (.t 21)], some (18, false)⟩,
 ⟨some 23, .un .not (.t 22), some (18, false)⟩,
 ro 24 (.pick (.t 18) (.c (.bool true)) (.t 23))] (some [0, 1, 24])) ajw) ajH
def ajJ : J := .seq (.R [br 6 false] (some [0, 1, 2])) ajI
theorem ajK : bq ⟨47, [0, 1, 2]⟩ (Tryz.f226.body.getD .skip) = some ajJ.strip := by kernel_rfl
def ajL : J := .seq (.R [ab 4 0,
 a2 5 183 1 0,
 aR 6 2 5,
 ro 7 (.call (.f 226) [(.t 4), (.t 6), (.c (.int .i64 15))]),
 eF 8 7,
 aK 3 8] (some [3])) .ret
def ajM : J := .seq (.R [br 3 false] (some [0, 1])) ajL
theorem ajN : bq ⟨9, [0, 1]⟩ (Tryz.f288.body.getD .skip) = some ajM.strip := by kernel_rfl
def ajO : J := .seq (.R [ab 17 5,
 aK 4 17] (some [4])) .ret
def ajP : J := .cond (.t 16) ajO .skip
def ajQ : J := .seq (.R [ab 11 1,
 ab 12 0,
 ab 13 5,
 cv 14 146 12 13,
 aR 15 145 14,
 ro 16 (.call (.t 11) [(.t 15)])] (some [0, 1, 5, 7, 8, 16])) ajP
def ajR : J := .R [a8 18 .add 3 8 1,
 ab 8 18] (some [0, 1, 7, 8])
def ajS : J := .seq (.block 1 (.seq (.R [ab 10 8,
 aK 5 10] (some [0, 1, 5, 7, 8])) ajQ)) ajR
def ajT : J := .seq (.cond (.t 9) .skip (.exit 0)) ajS
def N3 : J := .seq (.R [b4 9 .lss 3 8 7] (some [0, 1, 7, 8, 9])) ajT
def ajU : J := .block 0 (.loop N3)
def ajV : J := .seq (.R [bd 4 (-1)] (some [4])) .ret
def ajW : J := .seq (.seq (.R [ab 6 0,
 b5 7 146 6,
 lv 8 0] (some [0, 1, 7, 8])) ajU) ajV
def ajX : J := .seq (.R [bd 4 0] (some [0, 1])) ajW
theorem ajY : bq ⟨19, [0, 1]⟩ (Tryz.f267.body.getD .skip) = some ajX.strip := by kernel_rfl
def ajZ : J := .seq (.R [ab 5 0,
 ab 6 1,
 dP 7 267 5 6,
 a8 8 .geq 3 7 0,
 aK 4 8] (some [4])) .ret
def aj0 : J := .seq (.R [br 4 false] (some [0, 1])) ajZ
theorem aj1 : bq ⟨9, [0, 1]⟩ (Tryz.f223.body.getD .skip) = some aj0.strip := by kernel_rfl
def aj2 : J := .seq (.R [bd 6 2] (some [6])) .ret
def aj3 : J := .seq (.R [bd 6 3] (some [6])) .ret
def aj4 : J := .seq (.R [bd 6 4] (some [6])) .ret
def aj5 : J := .seq (.R [bd 6 5] (some [6])) .ret
def aj6 : J := .seq (.R [bd 6 6] (some [6])) .ret
def aj7 : J := .seq (.R [bd 6 7] (some [6])) .ret
def aj8 : J := .seq (.R [bd 6 8] (some [6])) .ret
def aj9 : J := .cond (.t 72) aj8 .skip
def aj_ : J := .seq (.R [a2 73 178 3 3,
 aR 74 146 73,
 ro 75 (.iy 288 [(.t 5)]),
 dP 76 223 74 75,
 aK 72 76] (some [72])) aj9
def aka : J := .cond (.t 63) aj7 aj_
def akb : J := .seq (.R [a2 64 178 3 0,
 aR 65 2 64,
 a8 66 .eql 2 65 4,
 ab 67 66,
 ⟨some 68, .c1 183 (.t 5) 0, some (67, true)⟩,
 ⟨some 69, .cl 2 (.t 68), some (67, true)⟩,
 ⟨some 70, .ck .geq 2 (.t 69) (.c (.int .i64 6)), some (67, true)⟩,
 ro 71 (.pick (.t 67) (.t 70) (.c (.bool false))),
 aK 63 71] (some [3, 5, 63])) aka
def akc : J := .cond (.t 54) aj6 akb
def akd : J := .seq (.R [a2 55 178 3 0,
 aR 56 2 55,
 a8 57 .eql 2 56 5,
 ab 58 57,
 ⟨some 59, .c1 183 (.t 5) 1, some (58, true)⟩,
 ⟨some 60, .cl 4 (.t 59), some (58, true)⟩,
 ⟨some 61, .un .not (.t 60), some (58, true)⟩,
 ro 62 (.pick (.t 58) (.t 61) (.c (.bool false))),
 aK 54 62] (some [3, 5, 54])) akc
def ake : J := .cond (.t 49) aj5 akd
def akf : J := .seq (.R [aR 50 178 3,
 ab 51 1,
 dP 52 287 50 51,
 eF 53 52,
 aK 49 53] (some [3, 5, 49])) ake
def N4 : J := .cond (.t 26) aj4 akf
def akg : J := .seq (.R [a2 27 178 3 0,
 aR 28 2 27,
 a8 29 .eql 2 28 4,
 ab 30 29,
 ⟨some 31, .c1 178 (.t 3) 1, some (30, true)⟩,
 ⟨some 32, .cl 2 (.t 31), some (30, true)⟩,
 ⟨some 33, .call (.f 106) [(.t 32), (.c (.int .i64 1)), (.c (.int .i64 7))], some (30, true)⟩,
 ⟨some 34, .un .not (.t 33), some (30, true)⟩,
 ro 35 (.pick (.t 30) (.t 34) (.c (.bool false))),
 ab 36 35,
 ⟨some 37, .c1 178 (.t 3) 0, some (36, false)⟩,
 ⟨some 38, .cl 2 (.t 37), some (36, false)⟩,
 ⟨some 39, .ck .eql 2 (.t 38) (.c (.int .i64 5)), some (36, false)⟩,
 ⟨some 40, .ct (.t 39), some (36, false)⟩,
 ⟨some 41, .c1 178 (.t 3) 1, some (40, true)⟩,
 ⟨some 42, .cl 2 (.t 41), some (40, true)⟩,
 ⟨some 43, .ct (.t 1), some (40, true)⟩,
 ⟨some 44, .len 34 (.t 43), some (40, true)⟩,
 ⟨some 45, .call (.f 64) [(.t 42), (.t 44)], some (40, true)⟩,
 ⟨some 46, .un .not (.t 45), some (40, true)⟩,
 ⟨some 47, .pick (.t 40) (.t 46) (.c (.bool false)), some (36, false)⟩,
 ro 48 (.pick (.t 36) (.c (.bool true)) (.t 47)),
 aK 26 48] (some [1, 3, 5, 26])) N4
def N5 : J := .cond (.t 11) aj3 akg
def akh : J := .seq (.R [a2 12 178 3 0,
 aR 13 2 12,
 a8 14 .eql 2 13 1,
 ab 15 14,
 ⟨some 16, .c1 178 (.t 3) 2, some (15, true)⟩,
 ⟨some 17, .cl 9 (.t 16), some (15, true)⟩,
 ⟨some 18, .ck .neq 9 (.t 17) (.c (.str [116, 97, 117])), some (15, true)⟩,
 ro 19 (.pick (.t 15) (.t 18) (.c (.bool false))),
 ab 20 19,
 ⟨some 21, .c1 178 (.t 3) 2, some (20, true)⟩,
 ⟨some 22, .cl 9 (.t 21), some (20, true)⟩,
 ⟨some 23, .call (.f 213) [(.t 22)], some (20, true)⟩,
 ⟨some 24, .un .not (.t 23), some (20, true)⟩,
 ro 25 (.pick (.t 20) (.t 24) (.c (.bool false))),
 aK 11 25] (some [1, 3, 5, 11])) N5
def aki : J := .cond (.t 7) aj2 akh
def akj : J := .seq (.R [bd 6 0] (some [6])) .ret
def akk : J := .seq (.block 0 (.seq (.R [aR 8 178 3,
 dO 9 286 8,
 eF 10 9,
 aK 7 10] (some [1, 3, 5, 7])) aki)) akj
def akl : J := .seq (.R [ro 3 (.dh 178 (.t 0)),
 ro 5 (.dh 183 (.t 2)),
 bd 6 0] (some [1, 3, 5])) akk
theorem akm : bq ⟨77, [0, 1, 2]⟩ (Tryz.f259.body.getD .skip) = some akl.strip := by kernel_rfl
def akn : J := .seq (.R [bd 4 0,
 bd 5 1] (some [4, 5])) .ret
def ako : J := .cond (.t 22) akn .skip
def akp : J := .seq (.R [ab 42 7,
 ab 43 9,
 aK 4 42,
 aK 5 43] (some [4, 5])) .ret
def akq : J := .cond (.t 41) akp .skip
def akr : J := .seq (.R [ab 40 9,
 a8 41 .neq 2 40 0] (some [0, 6, 7, 9, 26, 27, 28, 41])) akq
def aks : J := .seq (.gK [aR 33 178 8,
 ab 34 0,
 ab 35 6,
 ab 36 7,
 cv 37 184 35 36,
 aR 38 183 37,
 x6 39 259 33 34 38,
 aK 9 39] [[], [], [], [], [2, 3], [4], [0, 1, 5], [6, 6, 0, 1, 2, 3, 4, 5, 6]] (some [0, 6, 7, 9, 26, 27, 28])) akr
def akt : J := .R [a8 44 .add 3 28 1,
 ab 28 44] (some [0, 6, 26, 27, 28])
def aku : J := .seq (.block 1 (.seq (.R [ab 30 28,
 cv 31 119 26 28,
 aR 32 178 31,
 iD 8 178,
 aK 7 30,
 eh 178 8 32] (some [0, 6, 7, 8, 26, 27, 28])) aks)) akt
def akv : J := .seq (.cond (.t 29) .skip (.exit 0)) aku
def N6 : J := .seq (.R [b4 29 .lss 3 28 27] (some [0, 6, 26, 27, 28, 29])) akv
def akw : J := .block 0 (.loop N6)
def akx : J := .seq (.R [bd 4 0,
 bd 5 0] (some [4, 5])) .ret
def aky : J := .seq (.seq (.R [a2 25 121 3 2,
 aR 26 119 25,
 b5 27 119 26,
 lv 28 0] (some [0, 6, 26, 27, 28])) akw) akx
def akz : J := .seq (.R [aR 23 121 3,
 dO 24 141 23,
 aK 6 24] (some [0, 3, 6])) aky
def akA : J := .seq (.seq (.gK [a2 10 121 3 2,
 aR 11 119 10,
 b5 12 119 11,
 ro 13 (.call (.f 106) [(.t 12), (.c (.int .i64 1)), (.c (.int .i64 20))]),
 eF 14 13,
 ab 15 14,
 ⟨some 16, .cl 121 (.t 3), some (15, false)⟩,
 ⟨some 17, .call (.f 165) [(.t 16), (.c (.int .i64 0))], some (15, false)⟩,
 ⟨some 18, .c1 121 (.t 3) 2, some (15, false)⟩,
 ⟨some 19, .cl 119 (.t 18), some (15, false)⟩,
 ⟨some 20, .len 119 (.t 19), some (15, false)⟩,
 ⟨some 21, .ck .neq 3 (.t 17) (.t 20), some (15, false)⟩,
 ro 22 (.pick (.t 15) (.c (.bool true)) (.t 21))] [[], [0], [1], [2], [3], [4, 3], [5], [6, 5, 5], [5], [8, 5], [9, 5], [7, 10, 5], [5, 11]] (some [0, 3, 22])) ako) akz
def akB : J := .seq (.R [ro 3 (.dh 121 (.t 1)),
 bd 4 0,
 bd 5 0] (some [0, 3])) akA
theorem akC : bq ⟨45, [0, 1]⟩ (Tryz.f211.body.getD .skip) = some akB.strip := by kernel_rfl
def akD : J := .seq (.R [br 2 false] (some [2])) .ret
def akE : J := .cond (.t 15) akD .skip
def akF : J := .seq (.R [br 2 false] (some [2])) .ret
def akG : J := .cond (.t 35) akF .skip
def akH : J := .seq (.R [br 2 false] (some [2])) .ret
def akI : J := .cond (.t 43) akH .skip
def akJ : J := .seq (.R [ab 42 6,
 a8 43 .neq 2 42 0] (some [0, 16, 17, 18, 43])) akI
def akK : J := .seq (.R [ab 37 0,
 aR 38 121 4,
 dP 39 211 37 38,
 ab 36 39,
 pX 40 36 0,
 pX 41 36 1,
 aK 5 40,
 aK 6 41] (some [0, 6, 16, 17, 18])) akJ
def akL : J := .seq (.seq (.gK [a2 23 121 4 0,
 aR 24 9 23,
 dO 25 209 24,
 eF 26 25,
 ab 27 26,
 ⟨some 28, .ct (.t 0), some (27, false)⟩,
 ⟨some 29, .ct (.t 3), some (27, false)⟩,
 ⟨some 30, .fS 34 (.t 28) none (some (.t 29)), some (27, false)⟩,
 ⟨some 31, .c1 121 (.t 4) 0, some (27, false)⟩,
 ⟨some 32, .cl 9 (.t 31), some (27, false)⟩,
 ⟨some 33, .call (.f 210) [(.t 30), (.t 32)], some (27, false)⟩,
 ⟨some 34, .ck .geq 3 (.t 33) (.c (.int .i64 0)), some (27, false)⟩,
 ro 35 (.pick (.t 27) (.c (.bool true)) (.t 34))] [[], [0], [1], [2], [3, 2], [4], [4], [5, 6, 4], [4], [8, 4], [7, 9, 4, 4], [10, 4], [4, 11]] (some [0, 4, 16, 17, 18, 35])) akG) akK
def akM : J := .R [a8 44 .add 3 18 1,
 ab 18 44] (some [0, 16, 17, 18])
def akN : J := .seq (.block 1 (.seq (.R [ab 20 18,
 cv 21 34 16 18,
 aR 22 121 21,
 iD 4 121,
 aK 3 20,
 eh 121 4 22] (some [0, 3, 4, 16, 17, 18])) akL)) akM
def akO : J := .seq (.cond (.t 19) .skip (.exit 0)) akN
def N7 : J := .seq (.R [b4 19 .lss 3 18 17] (some [0, 16, 17, 18, 19])) akO
def akP : J := .block 0 (.loop N7)
def akQ : J := .seq (.R [br 2 true] (some [2])) .ret
def akR : J := .seq (.seq (.R [ab 16 0,
 b5 17 34 16,
 lv 18 0] (some [0, 16, 17, 18])) akP) akQ
def akS : J := .seq (.seq (.R [ab 7 0,
 b5 8 34 7,
 ro 9 (.call (.f 106) [(.t 8), (.c (.int .i64 1)), (.c (.int .i64 4))]),
 eF 10 9,
 ab 11 10,
 ⟨some 12, .ct (.t 0), some (11, false)⟩,
 ⟨some 13, .call (.f 208) [(.t 12)], some (11, false)⟩,
 ⟨some 14, .un .not (.t 13), some (11, false)⟩,
 ro 15 (.pick (.t 11) (.c (.bool true)) (.t 14))] (some [0, 15])) akE) akR
def akT : J := .seq (.R [br 2 false] (some [0])) akS
theorem akU : bq ⟨45, [0]⟩ (Tryz.f156.body.getD .skip) = some akT.strip := by kernel_rfl
def akV : J := .seq (.R [ab 3 0,
 dO 4 191 3,
 eF 5 4,
 aK 2 5] (some [2])) .ret
def akW : J := .seq (.R [br 2 false] (some [0])) akV
theorem akX : bq ⟨6, [0]⟩ (Tryz.f190.body.getD .skip) = some akW.strip := by kernel_rfl
def akY : J := .seq (.R [ab 17 5,
 aK 4 17] (some [4])) .ret
def akZ : J := .cond (.t 16) akY .skip
def ak0 : J := .seq (.R [ab 11 1,
 ab 12 0,
 ab 13 5,
 cv 14 46 12 13,
 aR 15 2 14,
 ro 16 (.call (.t 11) [(.t 15)])] (some [0, 1, 5, 7, 8, 16])) akZ
def ak1 : J := .R [a8 18 .add 3 8 1,
 ab 8 18] (some [0, 1, 7, 8])
def ak2 : J := .seq (.block 1 (.seq (.R [ab 10 8,
 aK 5 10] (some [0, 1, 5, 7, 8])) ak0)) ak1
def ak3 : J := .seq (.cond (.t 9) .skip (.exit 0)) ak2
def N8 : J := .seq (.R [b4 9 .lss 3 8 7] (some [0, 1, 7, 8, 9])) ak3
def ak4 : J := .block 0 (.loop N8)
def ak5 : J := .seq (.R [bd 4 (-1)] (some [4])) .ret
def ak6 : J := .seq (.seq (.R [ab 6 0,
 b5 7 46 6,
 lv 8 0] (some [0, 1, 7, 8])) ak4) ak5
def ak7 : J := .seq (.R [bd 4 0] (some [0, 1])) ak6
theorem ak8 : bq ⟨19, [0, 1]⟩ (Tryz.f246.body.getD .skip) = some ak7.strip := by kernel_rfl
def ak9 : J := .seq (.R [ab 5 0,
 ab 6 1,
 dP 7 246 5 6,
 a8 8 .geq 3 7 0,
 aK 4 8] (some [4])) .ret
def ak_ : J := .seq (.R [br 4 false] (some [0, 1])) ak9
theorem ala : bq ⟨9, [0, 1]⟩ (Tryz.f189.body.getD .skip) = some ak_.strip := by kernel_rfl
def alb : J := .seq (.R [ab 3 0,
 ro 4 (.call (.f 189) [(.t 3), (.f 190)]),
 eF 5 4,
 aK 2 5] (some [2])) .ret
def alc : J := .seq (.R [br 2 false] (some [0])) alb
theorem ald : bq ⟨6, [0]⟩ (Tryz.f142.body.getD .skip) = some alc.strip := by kernel_rfl
def ale : J := .seq (.gK [a2 5 100 3 0,
 aR 6 2 5,
 ab 7 0,
 b5 8 34 7,
 dP 9 64 6 8,
 ab 10 9,
 ⟨some 11, .c1 100 (.t 3) 1, some (10, true)⟩,
 ⟨some 12, .cl 46 (.t 11), some (10, true)⟩,
 ⟨some 13, .len 46 (.t 12), some (10, true)⟩,
 ⟨some 14, .ct (.t 0), some (10, true)⟩,
 ⟨some 15, .c1 100 (.t 3) 0, some (10, true)⟩,
 ⟨some 16, .cl 2 (.t 15), some (10, true)⟩,
 ⟨some 17, .fv 34 (.t 14) (.t 16), some (10, true)⟩,
 ⟨some 18, .c1 121 (.t 17) 1, some (10, true)⟩,
 ⟨some 19, .cl 2 (.t 18), some (10, true)⟩,
 ⟨some 20, .ck .eql 2 (.t 13) (.t 19), some (10, true)⟩,
 ro 21 (.pick (.t 10) (.t 20) (.c (.bool false))),
 ab 22 21,
 ⟨some 23, .c1 100 (.t 3) 1, some (22, true)⟩,
 ⟨some 24, .cl 46 (.t 23), some (22, true)⟩,
 ⟨some 25, .call (.f 142) [(.t 24)], some (22, true)⟩,
 ro 26 (.pick (.t 22) (.t 25) (.c (.bool false))),
 aK 4 26] [[], [0], [], [2], [1, 3], [4, 4], [5], [6, 5], [7, 5], [5], [5], [10, 5], [9, 11, 5], [12, 5], [13, 5], [8, 14, 5], [5, 15], [16, 5], [17], [18, 17], [19, 17, 17], [17, 20], [21, 20, 0, 1, 2, 3, 4, 5, 6, 7, 8, 9, 10, 11, 12, 13, 14, 15, 16, 17, 18, 19, 20, 21]] (some [4])) .ret
def alf : J := .seq (.R [ro 3 (.dh 100 (.t 1)),
 br 4 false] (some [0, 3])) ale
theorem alg : bq ⟨27, [0, 1]⟩ (Tryz.f159.body.getD .skip) = some alf.strip := by kernel_rfl
def alh : J := .seq (.R [a2 4 38 1 0,
 aR 5 34 4,
 aR 6 100 2,
 dP 7 159 5 6,
 eF 8 7,
 aK 3 8] (some [3])) .ret
def ali : J := .seq (.R [ro 2 (.dh 100 (.t 0)),
 br 3 false] (some [1, 2])) alh
theorem alj : bq ⟨9, [0, 1]⟩ (Tryz.f158.body.getD .skip) = some ali.strip := by kernel_rfl
def alk : J := .seq (.R [ab 17 5,
 aK 4 17] (some [4])) .ret
def alm : J := .cond (.t 16) alk .skip
def aln : J := .seq (.R [ab 11 1,
 ab 12 0,
 ab 13 5,
 cv 14 35 12 13,
 aR 15 100 14,
 ro 16 (.call (.t 11) [(.t 15)])] (some [0, 1, 5, 7, 8, 16])) alm
def alo : J := .R [a8 18 .add 3 8 1,
 ab 8 18] (some [0, 1, 7, 8])
def alp : J := .seq (.block 1 (.seq (.R [ab 10 8,
 aK 5 10] (some [0, 1, 5, 7, 8])) aln)) alo
def alq : J := .seq (.cond (.t 9) .skip (.exit 0)) alp
def N9 : J := .seq (.R [b4 9 .lss 3 8 7] (some [0, 1, 7, 8, 9])) alq
def alr : J := .block 0 (.loop N9)
def als : J := .seq (.R [bd 4 (-1)] (some [4])) .ret
def alu : J := .seq (.seq (.R [ab 6 0,
 b5 7 35 6,
 lv 8 0] (some [0, 1, 7, 8])) alr) als
def alv : J := .seq (.R [bd 4 0] (some [0, 1])) alu
theorem alw : bq ⟨19, [0, 1]⟩ (Tryz.f212.body.getD .skip) = some alv.strip := by kernel_rfl
def alx : J := .seq (.R [ab 5 0,
 ab 6 1,
 dP 7 212 5 6,
 a8 8 .geq 3 7 0,
 aK 4 8] (some [4])) .ret
def aly : J := .seq (.R [br 4 false] (some [0, 1])) alx
theorem alz : bq ⟨9, [0, 1]⟩ (Tryz.f157.body.getD .skip) = some aly.strip := by kernel_rfl
def alA : J := .seq (.R [ab 3 0,
 ab 4 0,
 b4 5 .neq 9 3 4,
 aK 2 5] (some [2])) .ret
def alB : J := .seq (.R [br 2 false] (some [0])) alA
theorem alC : bq ⟨6, [0]⟩ (Tryz.f299.body.getD .skip) = some alB.strip := by kernel_rfl
def alD : J := .seq (.R [bd 4 0] (some [4])) .ret
def alE : J := .cond (.t 12) alD .skip
def alF : J := .seq (.R [bd 4 (-1)] (some [4])) .ret
def alG : J := .seq (.seq (.R [ab 12 6] (some [12])) alE) alF
def alH : J := .cond (.t 11) alG .skip
def alI : J := .seq (.R [bd 4 1] (some [4])) .ret
def alJ : J := .cond (.t 13) alI .skip
def alK : J := .seq (.R [bd 4 (-1)] (some [4])) .ret
def alL : J := .cond (.t 16) alK .skip
def alM : J := .seq (.R [bd 4 1] (some [4])) .ret
def alN : J := .cond (.t 19) alM .skip
def alO : J := .seq (.R [bd 4 0] (some [4])) .ret
def alP : J := .seq (.seq (.R [ab 17 0,
 ab 18 1,
 b4 19 .gtr 9 17 18] (some [19])) alN) alO
def alQ : J := .seq (.seq (.R [ab 14 0,
 ab 15 1,
 b4 16 .lss 9 14 15] (some [0, 1, 16])) alL) alP
def alR : J := .seq (.seq (.R [ab 13 6] (some [0, 1, 13])) alJ) alQ
def alS : J := .seq (.seq (.R [ab 11 5] (some [0, 1, 6, 11])) alH) alR
def alT : J := .seq (.R [ab 9 1,
 dO 10 299 9,
 aK 6 10] (some [0, 1, 5, 6])) alS
def alU : J := .seq (.R [ab 7 0,
 dO 8 299 7,
 aK 5 8] (some [0, 1, 5])) alT
def alV : J := .seq (.R [bd 4 0] (some [0, 1])) alU
theorem alW : bq ⟨20, [0, 1]⟩ (Tryz.f289.body.getD .skip) = some alV.strip := by kernel_rfl
def alX : J := .seq (.R [bd 4 1] (some [4])) .ret
def alY : J := .cond (.t 19) alX .skip
def alZ : J := .seq (.R [ab 29 8,
 aK 4 29] (some [4])) .ret
def al0 : J := .cond (.t 28) alZ .skip
def al1 : J := .seq (.R [ab 27 8,
 a8 28 .neq 3 27 0] (some [0, 1, 8, 9, 10, 11, 28])) al0
def al2 : J := .seq (.R [ab 24 6,
 ab 25 7,
 dP 26 289 24 25,
 aK 8 26] (some [0, 1, 8, 9, 10, 11])) al1
def al3 : J := .seq (.R [ab 20 1,
 ab 21 5,
 cv 22 25 20 21,
 aR 23 9 22,
 aK 7 23] (some [0, 1, 6, 7, 9, 10, 11])) al2
def al4 : J := .seq (.seq (.R [ab 16 5,
 ab 17 1,
 b5 18 25 17,
 b4 19 .geq 3 16 18] (some [0, 1, 5, 6, 9, 10, 11, 19])) alY) al3
def al5 : J := .R [a8 30 .add 3 11 1,
 ab 11 30] (some [0, 1, 9, 10, 11])
def al6 : J := .seq (.block 1 (.seq (.R [ab 13 11,
 cv 14 25 9 11,
 aR 15 9 14,
 aK 5 13,
 aK 6 15] (some [0, 1, 5, 6, 9, 10, 11])) al4)) al5
def al7 : J := .seq (.cond (.t 12) .skip (.exit 0)) al6
def N_ : J := .seq (.R [b4 12 .lss 3 11 10] (some [0, 1, 9, 10, 11, 12])) al7
def al8 : J := .block 0 (.loop N_)
def al9 : J := .seq (.R [bd 4 (-1)] (some [4])) .ret
def al_ : J := .cond (.t 35) al9 .skip
def ama : J := .seq (.R [bd 4 0] (some [4])) .ret
def amb : J := .seq (.seq (.R [ab 31 0,
 b5 32 25 31,
 ab 33 1,
 b5 34 25 33,
 b4 35 .lss 3 32 34] (some [35])) al_) ama
def amc : J := .seq (.seq (.R [ab 9 0,
 b5 10 25 9,
 lv 11 0] (some [0, 1, 9, 10, 11])) al8) amb
def amd : J := .seq (.R [bd 4 0] (some [0, 1])) amc
theorem ame : bq ⟨36, [0, 1]⟩ (Tryz.f260.body.getD .skip) = some amd.strip := by kernel_rfl
def amf : J := .seq (.R [a2 5 124 2 0,
 aR 6 9 5,
 a2 7 124 2 1,
 aR 8 9 7,
 ro 9 (.eW 25 2 [(0, (.t 6)), (1, (.t 8))]),
 a2 10 124 3 0,
 aR 11 9 10,
 a2 12 124 3 1,
 aR 13 9 12,
 ro 14 (.eW 25 2 [(0, (.t 11)), (1, (.t 13))]),
 dP 15 260 9 14,
 aK 4 15] (some [4])) .ret
def amg : J := .seq (.R [ro 2 (.dh 124 (.t 0)),
 ro 3 (.dh 124 (.t 1)),
 bd 4 0] (some [2, 3])) amf
theorem amh : bq ⟨16, [0, 1]⟩ (Tryz.f214.body.getD .skip) = some amg.strip := by kernel_rfl
def ami : J := .seq (.R [a2 4 124 2 0,
 aR 5 9 4,
 a2 6 124 1 2,
 aR 7 9 6,
 b4 8 .eql 9 5 7,
 ab 9 8,
 ⟨some 10, .c1 124 (.t 2) 1, some (9, false)⟩,
 ⟨some 11, .cl 9 (.t 10), some (9, false)⟩,
 ⟨some 12, .c1 124 (.t 1) 2, some (9, false)⟩,
 ⟨some 13, .cl 9 (.t 12), some (9, false)⟩,
 ⟨some 14, .ck .eql 9 (.t 11) (.t 13), some (9, false)⟩,
 ro 15 (.pick (.t 9) (.c (.bool true)) (.t 14)),
 aK 3 15] (some [3])) .ret
def amj : J := .seq (.R [ro 2 (.dh 124 (.t 0)),
 br 3 false] (some [1, 2])) ami
theorem amk : bq ⟨16, [0, 1]⟩ (Tryz.f216.body.getD .skip) = some amj.strip := by kernel_rfl
def aml : J := .seq (.R [ab 17 5,
 aK 4 17] (some [4])) .ret
def amm : J := .cond (.t 16) aml .skip
def amn : J := .seq (.R [ab 11 1,
 ab 12 0,
 ab 13 5,
 cv 14 36 12 13,
 aR 15 124 14,
 ro 16 (.call (.t 11) [(.t 15)])] (some [0, 1, 5, 7, 8, 16])) amm
def amo : J := .R [a8 18 .add 3 8 1,
 ab 8 18] (some [0, 1, 7, 8])
def amp : J := .seq (.block 1 (.seq (.R [ab 10 8,
 aK 5 10] (some [0, 1, 5, 7, 8])) amn)) amo
def amq : J := .seq (.cond (.t 9) .skip (.exit 0)) amp
def Oa : J := .seq (.R [b4 9 .lss 3 8 7] (some [0, 1, 7, 8, 9])) amq
def amr : J := .block 0 (.loop Oa)
def ams : J := .seq (.R [bd 4 (-1)] (some [4])) .ret
def amt : J := .seq (.seq (.R [ab 6 0,
 b5 7 36 6,
 lv 8 0] (some [0, 1, 7, 8])) amr) ams
def amu : J := .seq (.R [bd 4 0] (some [0, 1])) amt
theorem amv : bq ⟨19, [0, 1]⟩ (Tryz.f261.body.getD .skip) = some amu.strip := by kernel_rfl
def amw : J := .seq (.R [ab 5 0,
 ab 6 1,
 dP 7 261 5 6,
 a8 8 .geq 3 7 0,
 aK 4 8] (some [4])) .ret
def amx : J := .seq (.R [br 4 false] (some [0, 1])) amw
theorem amy : bq ⟨9, [0, 1]⟩ (Tryz.f215.body.getD .skip) = some amx.strip := by kernel_rfl
def amz : J := .seq (.R [br 2 false] (some [2])) .ret
def amA : J := .cond (.t 48) amz .skip
def amB : J := .seq (.R [br 2 false] (some [2])) .ret
def amC : J := .cond (.t 51) amB .skip
def amD : J := .seq (.R [ab 49 0,
 ro 50 (.iy 216 [(.t 4)]),
 dP 51 215 49 50] (some [0, 5, 6, 7, 51])) amC
def amE : J := .seq (.seq (.gK [a2 12 124 4 0,
 aR 13 9 12,
 dO 14 213 13,
 eF 15 14,
 ab 16 15,
 ⟨some 17, .c1 124 (.t 4) 1, some (16, false)⟩,
 ⟨some 18, .cl 9 (.t 17), some (16, false)⟩,
 ⟨some 19, .call (.f 213) [(.t 18)], some (16, false)⟩,
 ⟨some 20, .un .not (.t 19), some (16, false)⟩,
 ro 21 (.pick (.t 16) (.c (.bool true)) (.t 20)),
 ab 22 21,
 ⟨some 23, .c1 124 (.t 4) 2, some (22, false)⟩,
 ⟨some 24, .cl 9 (.t 23), some (22, false)⟩,
 ⟨some 25, .call (.f 213) [(.t 24)], some (22, false)⟩,
 ⟨some 26, .un .not (.t 25), some (22, false)⟩,
 ro 27 (.pick (.t 22) (.c (.bool true)) (.t 26)),
 ab 28 27,
 ⟨some 29, .c1 124 (.t 4) 0, some (28, false)⟩,
 ⟨some 30, .cl 9 (.t 29), some (28, false)⟩,
 ⟨some 31, .c1 124 (.t 4) 1, some (28, false)⟩,
 ⟨some 32, .cl 9 (.t 31), some (28, false)⟩,
 ⟨some 33, .ck .gtr 9 (.t 30) (.t 32), some (28, false)⟩,
 ro 34 (.pick (.t 28) (.c (.bool true)) (.t 33)),
 ab 35 34,
 ⟨some 36, .ct (.t 3), some (35, false)⟩,
 ⟨some 37, .ck .gtr 3 (.t 36) (.c (.int .i64 0)), some (35, false)⟩,
 ⟨some 38, .ct (.t 37), some (35, false)⟩,
 ⟨some 39, .ct (.t 0), some (38, true)⟩,
 ⟨some 40, .ct (.t 3), some (38, true)⟩,
 ⟨some 41, .ck .sub 3 (.t 40) (.c (.int .i64 1)), some (38, true)⟩,
 ⟨some 42, .fv 36 (.t 39) (.t 41), some (38, true)⟩,
 ⟨some 43, .cl 124 (.t 42), some (38, true)⟩,
 ⟨some 44, .cl 124 (.t 4), some (38, true)⟩,
 ⟨some 45, .call (.f 214) [(.t 43), (.t 44)], some (38, true)⟩,
 ⟨some 46, .ck .geq 3 (.t 45) (.c (.int .i64 0)), some (38, true)⟩,
 ⟨some 47, .pick (.t 38) (.t 46) (.c (.bool false)), some (35, false)⟩,
 ro 48 (.pick (.t 35) (.c (.bool true)) (.t 47))] [[], [0], [1], [2], [3, 2], [4], [5, 4], [6, 4, 4], [7, 4], [4, 8], [9, 7], [10], [11, 10], [12, 10, 10], [13, 10], [10, 14], [15, 13], [16], [17, 16], [16], [19, 16], [18, 20, 16], [16, 21], [22, 16], [23], [24, 23], [25, 23, 23], [26], [26], [28, 26], [27, 29, 26], [30, 26], [26], [31, 32, 26, 26], [33, 26], [26, 34, 23], [23, 35]] (some [0, 4, 5, 6, 7, 48])) amA) amD
def amF : J := .R [a8 52 .add 3 7 1,
 ab 7 52] (some [0, 5, 6, 7])
def amG : J := .seq (.block 1 (.seq (.R [ab 9 7,
 cv 10 36 5 7,
 aR 11 124 10,
 iD 4 124,
 aK 3 9,
 eh 124 4 11] (some [0, 3, 4, 5, 6, 7])) amE)) amF
def amH : J := .seq (.cond (.t 8) .skip (.exit 0)) amG
def Ob : J := .seq (.R [b4 8 .lss 3 7 6] (some [0, 5, 6, 7, 8])) amH
def amI : J := .block 0 (.loop Ob)
def amJ : J := .seq (.R [ab 53 0,
 b5 54 36 53,
 a8 55 .leq 3 54 6,
 aK 2 55] (some [2])) .ret
def amK : J := .seq (.seq (.R [ab 5 0,
 b5 6 36 5,
 lv 7 0] (some [0, 5, 6, 7])) amI) amJ
def amL : J := .seq (.R [br 2 false] (some [0])) amK
theorem amM : bq ⟨56, [0]⟩ (Tryz.f160.body.getD .skip) = some amL.strip := by kernel_rfl
def amN : J := .seq (.R [br 2 false] (some [2])) .ret
def amO : J := .cond (.t 27) amN .skip
def amP : J := .seq (.R [ab 12 4,
 dO 13 213 12,
 eF 14 13,
 ab 15 14,
 ⟨some 16, .ct (.t 3), some (15, false)⟩,
 ⟨some 17, .ck .gtr 3 (.t 16) (.c (.int .i64 0)), some (15, false)⟩,
 ⟨some 18, .ct (.t 17), some (15, false)⟩,
 ⟨some 19, .ct (.t 4), some (18, true)⟩,
 ⟨some 20, .ct (.t 0), some (18, true)⟩,
 ⟨some 21, .ct (.t 3), some (18, true)⟩,
 ⟨some 22, .ck .sub 3 (.t 21) (.c (.int .i64 1)), some (18, true)⟩,
 ⟨some 23, .fv 25 (.t 20) (.t 22), some (18, true)⟩,
 ⟨some 24, .cl 9 (.t 23), some (18, true)⟩,
 ⟨some 25, .ck .leq 9 (.t 19) (.t 24), some (18, true)⟩,
 ⟨some 26, .pick (.t 18) (.t 25) (.c (.bool false)), some (15, false)⟩,
 ro 27 (.pick (.t 15) (.c (.bool true)) (.t 26))] (some [0, 5, 6, 7, 27])) amO
def amQ : J := .R [a8 28 .add 3 7 1,
 ab 7 28] (some [0, 5, 6, 7])
def amR : J := .seq (.block 1 (.seq (.R [ab 9 7,
 cv 10 25 5 7,
 aR 11 9 10,
 aK 3 9,
 aK 4 11] (some [0, 3, 4, 5, 6, 7])) amP)) amQ
def amS : J := .seq (.cond (.t 8) .skip (.exit 0)) amR
def Oc : J := .seq (.R [b4 8 .lss 3 7 6] (some [0, 5, 6, 7, 8])) amS
def amT : J := .block 0 (.loop Oc)
def amU : J := .seq (.R [ab 29 0,
 b5 30 25 29,
 a8 31 .leq 3 30 12,
 aK 2 31] (some [2])) .ret
def amV : J := .seq (.seq (.R [ab 5 0,
 b5 6 25 5,
 lv 7 0] (some [0, 5, 6, 7])) amT) amU
def amW : J := .seq (.R [br 2 false] (some [0])) amV
theorem amX : bq ⟨32, [0]⟩ (Tryz.f161.body.getD .skip) = some amW.strip := by kernel_rfl
def amY : J := .seq (.R [bd 2 1] (some [2])) .ret
def amZ : J := .seq (.R [bd 2 2] (some [2])) .ret
def am0 : J := .seq (.R [bd 2 3] (some [2])) .ret
def am1 : J := .seq (.R [bd 2 4] (some [2])) .ret
def am2 : J := .seq (.R [bd 2 5] (some [2])) .ret
def am3 : J := .cond (.t 30) am2 .skip
def am4 : J := .seq (.R [a2 31 38 1 4,
 aR 32 25 31,
 dO 33 161 32,
 eF 34 33,
 aK 30 34] (some [30])) am3
def am5 : J := .cond (.t 25) am1 am4
def am6 : J := .seq (.R [a2 26 38 1 3,
 aR 27 25 26,
 dO 28 161 27,
 eF 29 28,
 aK 25 29] (some [1, 25])) am5
def am7 : J := .cond (.t 20) am0 am6
def am8 : J := .seq (.R [a2 21 38 1 2,
 aR 22 36 21,
 dO 23 160 22,
 eF 24 23,
 aK 20 24] (some [1, 20])) am7
def am9 : J := .cond (.t 8) amZ am8
def am_ : J := .seq (.R [a2 9 38 1 1,
 aR 10 35 9,
 b5 11 35 10,
 ro 12 (.call (.f 106) [(.t 11), (.c (.int .i64 1)), (.c (.int .i64 3))]),
 eF 13 12,
 ab 14 13,
 ⟨some 15, .c1 38 (.t 1) 1, some (14, false)⟩,
 ⟨some 16, .cl 35 (.t 15), some (14, false)⟩,
 ⟨some 17, .iy 158 [(.t 1)], some (14, false)⟩,
 ⟨some 18, .call (.f 157) [(.t 16), (.t 17)], some (14, false)⟩,
 ro 19 (.pick (.t 14) (.c (.bool true)) (.t 18)),
 aK 8 19] (some [1, 8])) am9
def ana : J := .cond (.t 3) amY am_
def anb : J := .seq (.R [bd 2 0] (some [2])) .ret
def anc : J := .seq (.block 0 (.seq (.R [a2 4 38 1 0,
 aR 5 34 4,
 dO 6 156 5,
 eF 7 6,
 aK 3 7] (some [1, 3])) ana)) anb
def ane : J := .seq (.R [ro 1 (.dh 38 (.t 0)),
 bd 2 0] (some [1])) anc
theorem anf : bq ⟨35, [0]⟩ (Tryz.f105.body.getD .skip) = some ane.strip := by kernel_rfl
def ang : J := .seq (.R [aR 3 38 1,
 dO 4 105 3,
 a8 5 .eql 2 4 0,
 aK 2 5] (some [2])) .ret
def anh : J := .seq (.R [ro 1 (.dh 38 (.t 0)),
 br 2 false] (some [1])) ang
theorem ani : bq ⟨6, [0]⟩ (Tryz.f63.body.getD .skip) = some anh.strip := by kernel_rfl
def anj : J := .seq (.R [br 4 false] (some [4])) .ret
def ank : J := .cond (.t 24) anj .skip
def anl : J := .seq (.gK [a2 30 121 5 2,
 aR 31 119 30,
 a2 32 82 3 1,
 aR 33 2 32,
 cv 34 119 31 33,
 a2 35 178 34 0,
 aR 36 2 35,
 a8 37 .neq 2 36 5,
 ab 38 37,
 ⟨some 39, .c1 82 (.t 3) 2, some (38, true)⟩,
 ⟨some 40, .cl 46 (.t 39), some (38, true)⟩,
 ⟨some 41, .len 46 (.t 40), some (38, true)⟩,
 ⟨some 42, .cl 121 (.t 5), some (38, true)⟩,
 ⟨some 43, .call (.f 141) [(.t 42)], some (38, true)⟩,
 ⟨some 44, .c1 82 (.t 3) 1, some (38, true)⟩,
 ⟨some 45, .cl 2 (.t 44), some (38, true)⟩,
 ⟨some 46, .fv 184 (.t 43) (.t 45), some (38, true)⟩,
 ⟨some 47, .c1 183 (.t 46) 0, some (38, true)⟩,
 ⟨some 48, .cl 2 (.t 47), some (38, true)⟩,
 ⟨some 49, .ck .eql 2 (.t 41) (.t 48), some (38, true)⟩,
 ro 50 (.pick (.t 38) (.t 49) (.c (.bool false))),
 ab 51 50,
 ⟨some 52, .c1 82 (.t 3) 2, some (51, true)⟩,
 ⟨some 53, .cl 46 (.t 52), some (51, true)⟩,
 ⟨some 54, .call (.f 142) [(.t 53)], some (51, true)⟩,
 ro 55 (.pick (.t 51) (.t 54) (.c (.bool false))),
 aK 4 55] [[], [0], [], [2], [1, 3], [4], [5], [6], [7], [8], [9, 8], [10, 8], [8], [12, 8, 8], [8], [14, 8], [13, 15, 8], [16, 8], [17, 8], [11, 18, 8], [8, 19], [20, 13], [21], [22, 21], [23, 21, 21], [21, 24], [25, 24, 0, 1, 2, 3, 4, 5, 6, 7, 8, 9, 10, 11, 12, 13, 14, 15, 16, 17, 18, 19, 20, 21, 22, 23, 24, 25]] (some [4])) .ret
def anm : J := .seq (.R [ab 25 0,
 a2 26 82 3 0,
 aR 27 2 26,
 cv 28 34 25 27,
 aR 29 121 28,
 iD 5 121,
 eh 121 5 29] (some [3, 5])) anl
def ann : J := .seq (.seq (.gK [a2 6 82 3 0,
 aR 7 2 6,
 ab 8 0,
 b5 9 34 8,
 dP 10 64 7 9,
 eF 11 10,
 ab 12 11,
 ⟨some 13, .c1 82 (.t 3) 1, some (12, false)⟩,
 ⟨some 14, .cl 2 (.t 13), some (12, false)⟩,
 ⟨some 15, .ct (.t 0), some (12, false)⟩,
 ⟨some 16, .c1 82 (.t 3) 0, some (12, false)⟩,
 ⟨some 17, .cl 2 (.t 16), some (12, false)⟩,
 ⟨some 18, .fv 34 (.t 15) (.t 17), some (12, false)⟩,
 ⟨some 19, .c1 121 (.t 18) 2, some (12, false)⟩,
 ⟨some 20, .cl 119 (.t 19), some (12, false)⟩,
 ⟨some 21, .len 119 (.t 20), some (12, false)⟩,
 ⟨some 22, .call (.f 64) [(.t 14), (.t 21)], some (12, false)⟩,
 ⟨some 23, .un .not (.t 22), some (12, false)⟩,
 ro 24 (.pick (.t 12) (.c (.bool true)) (.t 23))] [[], [0], [], [2], [1, 3], [4], [5, 4], [6], [7, 6], [6], [6], [10, 6], [9, 11, 6], [12, 6], [13, 6], [14, 6], [8, 15, 6, 6], [16, 6], [6, 17]] (some [0, 3, 24])) ank) anm
def ano : J := .seq (.R [ro 3 (.dh 82 (.t 1)),
 br 4 false] (some [0, 3])) ann
theorem anp : bq ⟨56, [0, 1]⟩ (Tryz.f88.body.getD .skip) = some ano.strip := by kernel_rfl
def anq : J := .seq (.R [a2 4 38 1 0,
 aR 5 34 4,
 aR 6 82 2,
 dP 7 88 5 6,
 eF 8 7,
 aK 3 8] (some [3])) .ret
def anr : J := .seq (.R [ro 2 (.dh 82 (.t 0)),
 br 3 false] (some [1, 2])) anq
theorem ans : bq ⟨9, [0, 1]⟩ (Tryz.f87.body.getD .skip) = some anr.strip := by kernel_rfl
def ant : J := .seq (.R [ab 17 5,
 aK 4 17] (some [4])) .ret
def anu : J := .cond (.t 16) ant .skip
def anv : J := .seq (.R [ab 11 1,
 ab 12 0,
 ab 13 5,
 cv 14 31 12 13,
 aR 15 82 14,
 ro 16 (.call (.t 11) [(.t 15)])] (some [0, 1, 5, 7, 8, 16])) anu
def anw : J := .R [a8 18 .add 3 8 1,
 ab 8 18] (some [0, 1, 7, 8])
def anx : J := .seq (.block 1 (.seq (.R [ab 10 8,
 aK 5 10] (some [0, 1, 5, 7, 8])) anv)) anw
def anz : J := .seq (.cond (.t 9) .skip (.exit 0)) anx
def Od : J := .seq (.R [b4 9 .lss 3 8 7] (some [0, 1, 7, 8, 9])) anz
def anA : J := .block 0 (.loop Od)
def anB : J := .seq (.R [bd 4 (-1)] (some [4])) .ret
def anC : J := .seq (.seq (.R [ab 6 0,
 b5 7 31 6,
 lv 8 0] (some [0, 1, 7, 8])) anA) anB
def anD : J := .seq (.R [bd 4 0] (some [0, 1])) anC
theorem anE : bq ⟨19, [0, 1]⟩ (Tryz.f140.body.getD .skip) = some anD.strip := by kernel_rfl
def anF : J := .seq (.R [ab 5 0,
 ab 6 1,
 dP 7 140 5 6,
 a8 8 .geq 3 7 0,
 aK 4 8] (some [4])) .ret
def anG : J := .seq (.R [br 4 false] (some [0, 1])) anF
theorem anH : bq ⟨9, [0, 1]⟩ (Tryz.f86.body.getD .skip) = some anG.strip := by kernel_rfl
def anI : J := .seq (.R [aR 5 38 2,
 dO 6 63 5,
 ab 7 6,
 ⟨some 8, .ct (.t 1), some (7, true)⟩,
 ⟨some 9, .len 31 (.t 8), some (7, true)⟩,
 ⟨some 10, .c1 38 (.t 2) 1, some (7, true)⟩,
 ⟨some 11, .cl 35 (.t 10), some (7, true)⟩,
 ⟨some 12, .len 35 (.t 11), some (7, true)⟩,
 ⟨some 13, .ck .eql 3 (.t 9) (.t 12), some (7, true)⟩,
 ro 14 (.pick (.t 7) (.t 13) (.c (.bool false))),
 ab 15 14,
 ⟨some 16, .ct (.t 1), some (15, true)⟩,
 ⟨some 17, .iy 87 [(.t 2)], some (15, true)⟩,
 ⟨some 18, .call (.f 86) [(.t 16), (.t 17)], some (15, true)⟩,
 ⟨some 19, .un .not (.t 18), some (15, true)⟩,
 ro 20 (.pick (.t 15) (.t 19) (.c (.bool false))),
 aK 4 20] (some [4])) .ret
def anJ : J := .seq (.R [ro 2 (.dh 38 (.t 0)),
 br 4 false] (some [1, 2])) anI
theorem anK : bq ⟨21, [0, 1]⟩ (Tryz.f49.body.getD .skip) = some anJ.strip := by kernel_rfl
def anL : J := .seq (.R [jq 2] (some [2])) .ret
def anM : J := .cond (.t 4) anL .skip
def anN : J := .seq (.R [ro 5 (.eW 46 0 []),
 ab 6 0,
 x7 7 46 46 5 6,
 aK 2 7] (some [2])) .ret
def anO : J := .seq (.seq (.R [ab 3 0,
 ro 4 (.ck .eql 46 (.t 3) (.c .bp))] (some [0, 4])) anM) anN
def anP : J := .seq (.R [jq 2] (some [0])) anO
theorem anQ : bq ⟨8, [0]⟩ (Tryz.f167.body.getD .skip) = some anP.strip := by kernel_rfl
def anR : J := .seq (.R [ab 8 3,
 dO 9 175 8,
 aK 2 9] (some [2])) .ret
def anS : J := .seq (.R [ab 6 3,
 dO 7 174 6] (some [3])) anR
def anT : J := .seq (.R [ab 4 0,
 dO 5 167 4,
 aK 3 5] (some [3])) anS
def anU : J := .seq (.R [jq 2] (some [0])) anT
theorem anV : bq ⟨10, [0]⟩ (Tryz.f119.body.getD .skip) = some anU.strip := by kernel_rfl
def anW : J := .R [ab 9 3,
 ab 10 4,
 Bd 11 46 10,
 x7 12 46 46 9 11,
 aK 3 12] (some [3, 5, 6])
def anX : J := .R [a8 13 .add 2 6 1,
 ab 6 13] (some [3, 5, 6])
def anY : J := .seq (.block 1 (.seq (.R [ab 8 6,
 aK 4 8] (some [3, 4, 5, 6])) anW)) anX
def anZ : J := .seq (.cond (.t 7) .skip (.exit 0)) anY
def Oe : J := .seq (.R [b4 7 .lss 2 6 5] (some [3, 5, 6, 7])) anZ
def an0 : J := .block 0 (.loop Oe)
def an1 : J := .seq (.R [ab 14 3,
 aK 2 14] (some [2])) .ret
def an2 : J := .seq (.seq (.R [ab 5 0,
 lv 6 0] (some [3, 5, 6])) an0) an1
def an3 : J := .seq (.R [jq 3] (some [0, 3])) an2
def an4 : J := .seq (.R [jq 2] (some [0])) an3
theorem an5 : bq ⟨15, [0]⟩ (Tryz.f120.body.getD .skip) = some an4.strip := by kernel_rfl
def an6 : J := .seq (.R [br 4 false] (some [4])) .ret
def an7 : J := .cond (.t 10) an6 .skip
def an8 : J := .seq (.R [br 4 false] (some [4])) .ret
def an9 : J := .cond (.t 24) an8 .skip
def an_ : J := .seq (.gK [ab 16 0,
 ab 17 5,
 cv 18 46 16 17,
 aR 19 2 18,
 ab 20 1,
 ab 21 5,
 cv 22 46 20 21,
 aR 23 2 22,
 b4 24 .neq 2 19 23] [[], [], [0, 1], [2], [], [], [4, 5], [6], [3, 7]] (some [0, 1, 12, 13, 24])) an9
def aoa : J := .R [a8 25 .add 3 13 1,
 ab 13 25] (some [0, 1, 12, 13])
def aob : J := .seq (.block 1 (.seq (.R [ab 15 13,
 aK 5 15] (some [0, 1, 5, 12, 13])) an_)) aoa
def aoc : J := .seq (.cond (.t 14) .skip (.exit 0)) aob
def Of : J := .seq (.R [b4 14 .lss 3 13 12] (some [0, 1, 12, 13, 14])) aoc
def aod : J := .block 0 (.loop Of)
def aoe : J := .seq (.R [br 4 true] (some [4])) .ret
def aof : J := .seq (.seq (.R [ab 11 0,
 b5 12 46 11,
 lv 13 0] (some [0, 1, 12, 13])) aod) aoe
def aog : J := .seq (.seq (.R [ab 6 0,
 b5 7 46 6,
 ab 8 1,
 b5 9 46 8,
 b4 10 .neq 3 7 9] (some [0, 1, 10])) an7) aof
def aoh : J := .seq (.R [br 4 false] (some [0, 1])) aog
theorem aoi : bq ⟨26, [0, 1]⟩ (Tryz.f118.body.getD .skip) = some aoh.strip := by kernel_rfl
def aoj : J := .seq (.R [ab 5 0,
 dO 6 119 5,
 ab 7 1,
 dO 8 120 7,
 dP 9 118 6 8,
 ab 10 9,
 ⟨some 11, .ct (.t 0), some (10, true)⟩,
 ⟨some 12, .len 46 (.t 11), some (10, true)⟩,
 ⟨some 13, .ct (.t 1), some (10, true)⟩,
 ⟨some 14, .ck .eql 2 (.t 12) (.t 13), some (10, true)⟩,
 ro 15 (.pick (.t 10) (.t 14) (.c (.bool false))),
 aK 4 15] (some [4])) .ret
def aok : J := .seq (.R [br 4 false] (some [0, 1])) aoj
theorem aol : bq ⟨16, [0, 1]⟩ (Tryz.f71.body.getD .skip) = some aok.strip := by kernel_rfl
def aom : J := .seq (.R [aR 7 82 1,
 eh 82 2 7] (some [2])) .ret
def aon : J := .seq (.R [a2 3 82 1 2,
 aR 4 46 3,
 dO 5 167 4,
 a2 6 82 1 2,
 eh 46 6 5] (some [1, 2])) aom
def aoo : J := .seq (.R [ro 1 (.dh 82 (.t 0)),
 iD 2 82] (some [1, 2])) aon
theorem aop : bq ⟨8, [0]⟩ (Tryz.f121.body.getD .skip) = some aoo.strip := by kernel_rfl
def aoq : J := .R [ab 14 5,
 ab 15 0,
 ab 16 7,
 cv 17 31 15 16,
 aR 18 82 17,
 dO 19 121 18,
 Bd 20 31 19,
 x7 21 31 31 14 20,
 aK 5 21] (some [0, 5, 8, 9, 10])
def aor : J := .R [a8 22 .add 3 10 1,
 ab 10 22] (some [0, 5, 8, 9, 10])
def aos : J := .seq (.block 1 (.seq (.R [cv 12 46 8 10,
 aR 13 2 12,
 aK 7 13] (some [0, 5, 7, 8, 9, 10])) aoq)) aor
def aot : J := .seq (.cond (.t 11) .skip (.exit 0)) aos
def Og : J := .seq (.R [b4 11 .lss 3 10 9] (some [0, 5, 8, 9, 10, 11])) aot
def aou : J := .block 0 (.loop Og)
def aov : J := .seq (.R [ab 23 5,
 aK 4 23] (some [4])) .ret
def aow : J := .seq (.seq (.R [ab 8 1,
 b5 9 46 8,
 lv 10 0] (some [0, 5, 8, 9, 10])) aou) aov
def aox : J := .seq (.R [jq 5] (some [0, 1, 5])) aow
def aoy : J := .seq (.R [jq 4] (some [0, 1])) aox
theorem aoz : bq ⟨24, [0, 1]⟩ (Tryz.f72.body.getD .skip) = some aoy.strip := by kernel_rfl
def aoA : J := .seq (.R [jq 6,
 bd 7 1] (some [6, 7])) .ret
def aoB : J := .seq (.R [jq 6,
 bd 7 2] (some [6, 7])) .ret
def aoC : J := .cond (.t 13) aoB .skip
def aoD : J := .seq (.R [ab 14 2,
 ab 15 1,
 b5 16 31 15,
 dP 17 71 14 16,
 eF 18 17,
 aK 13 18] (some [1, 2, 13])) aoC
def aoE : J := .cond (.t 8) aoA aoD
def aoF : J := .seq (.R [ab 19 1,
 ab 20 2,
 dP 21 72 19 20,
 aK 6 21,
 bd 7 0] (some [6, 7])) .ret
def aoG : J := .seq (.block 0 (.seq (.R [aR 9 38 3,
 ab 10 1,
 dP 11 49 9 10,
 eF 12 11,
 aK 8 12] (some [1, 2, 8])) aoE)) aoF
def aoH : J := .seq (.R [ro 3 (.dh 38 (.t 0)),
 jq 6,
 bd 7 0] (some [1, 2, 3])) aoG
theorem nJ : bq ⟨22, [0, 1, 2]⟩ (Tryz.f26.body.getD .skip) = some aoH.strip := by kernel_rfl
def aoI : J := .seq (.R [br 4 false] (some [4])) .ret
def aoJ : J := .cond (.t 10) aoI .skip
def aoK : J := .cond (.t 14) .skip (.exit 0)
def aoL : J := .seq (.R [br 4 false] (some [4])) .ret
def aoM : J := .cond (.t 25) aoL .skip
def aoN : J := .R [ab 15 5,
 a8 16 .add 3 15 1,
 aK 5 16] (some [0, 1, 5])
def aoO : J := .seq (.block 1 (.seq (.gK [ab 17 0,
 ab 18 5,
 cv 19 46 17 18,
 aR 20 2 19,
 ab 21 1,
 ab 22 5,
 cv 23 46 21 22,
 aR 24 2 23,
 b4 25 .neq 2 20 24] [[], [], [0, 1], [2], [], [], [4, 5], [6], [3, 7]] (some [0, 1, 5, 25])) aoM)) aoN
def Oh : J := .seq (.seq (.R [ab 11 5,
 ab 12 0,
 b5 13 46 12,
 b4 14 .lss 3 11 13] (some [0, 1, 5, 14])) aoK) aoO
def aoP : J := .block 0 (.loop Oh)
def aoQ : J := .seq (.R [br 4 true] (some [4])) .ret
def aoR : J := .seq (.seq (.R [bd 5 0] (some [0, 1, 5])) aoP) aoQ
def aoS : J := .seq (.seq (.R [ab 6 0,
 b5 7 46 6,
 ab 8 1,
 b5 9 46 8,
 b4 10 .neq 3 7 9] (some [0, 1, 10])) aoJ) aoR
def aoT : J := .seq (.R [br 4 false] (some [0, 1])) aoS
theorem aoU : bq ⟨26, [0, 1]⟩ (Tryz.f27.body.getD .skip) = some aoT.strip := by kernel_rfl
def aoV : J := .seq (.R [br 4 false] (some [4])) .ret
def aoW : J := .cond (.t 9) aoV .skip
def aoX : J := .seq (.R [br 4 false] (some [4])) .ret
def aoY : J := .cond (.t 14) aoX .skip
def aoZ : J := .seq (.R [br 4 false] (some [4])) .ret
def ao0 : J := .cond (.t 20) aoZ .skip
def ao1 : J := .seq (.R [br 4 true] (some [4])) .ret
def ao2 : J := .seq (.seq (.R [a2 15 82 2 2,
 aR 16 46 15,
 a2 17 82 3 2,
 aR 18 46 17,
 dP 19 27 16 18,
 eF 20 19] (some [20])) ao0) ao1
def ao3 : J := .seq (.seq (.R [a2 10 82 2 1,
 aR 11 2 10,
 a2 12 82 3 1,
 aR 13 2 12,
 b4 14 .neq 2 11 13] (some [2, 3, 14])) aoY) ao2
def ao4 : J := .seq (.seq (.R [a2 5 82 2 0,
 aR 6 2 5,
 a2 7 82 3 0,
 aR 8 2 7,
 b4 9 .neq 2 6 8] (some [2, 3, 9])) aoW) ao3
def ao5 : J := .seq (.R [ro 2 (.dh 82 (.t 0)),
 ro 3 (.dh 82 (.t 1)),
 br 4 false] (some [2, 3])) ao4
theorem ao6 : bq ⟨21, [0, 1]⟩ (Tryz.f51.body.getD .skip) = some ao5.strip := by kernel_rfl
def ao7 : J := .seq (.R [br 4 false] (some [4])) .ret
def ao8 : J := .cond (.t 10) ao7 .skip
def ao9 : J := .cond (.t 14) .skip (.exit 0)
def ao_ : J := .seq (.R [br 4 false] (some [4])) .ret
def apa : J := .cond (.t 26) ao_ .skip
def apb : J := .R [ab 15 5,
 a8 16 .add 3 15 1,
 aK 5 16] (some [0, 1, 5])
def apc : J := .seq (.block 1 (.seq (.gK [ab 17 0,
 ab 18 5,
 cv 19 31 17 18,
 aR 20 82 19,
 ab 21 1,
 ab 22 5,
 cv 23 31 21 22,
 aR 24 82 23,
 dP 25 51 20 24,
 eF 26 25] [[], [], [0, 1], [2], [], [], [4, 5], [6], [3, 7], [8]] (some [0, 1, 5, 26])) apa)) apb
def Oi : J := .seq (.seq (.R [ab 11 5,
 ab 12 0,
 b5 13 31 12,
 b4 14 .lss 3 11 13] (some [0, 1, 5, 14])) ao9) apc
def apd : J := .block 0 (.loop Oi)
def ape : J := .seq (.R [br 4 true] (some [4])) .ret
def apf : J := .seq (.seq (.R [bd 5 0] (some [0, 1, 5])) apd) ape
def apg : J := .seq (.seq (.R [ab 6 0,
 b5 7 31 6,
 ab 8 1,
 b5 9 31 8,
 b4 10 .neq 3 7 9] (some [0, 1, 10])) ao8) apf
def aph : J := .seq (.R [br 4 false] (some [0, 1])) apg
theorem ou : bq ⟨27, [0, 1]⟩ (Tryz.f14.body.getD .skip) = some aph.strip := by kernel_rfl
def api : J := .seq (.R [br 4 false] (some [4])) .ret
def apj : J := .cond (.t 9) api .skip
def apk : J := .seq (.R [br 4 false] (some [4])) .ret
def apl : J := .cond (.t 14) apk .skip
def apm : J := .seq (.R [br 4 true] (some [4])) .ret
def apn : J := .seq (.seq (.R [a2 10 196 2 1,
 aR 11 2 10,
 a2 12 196 3 1,
 aR 13 2 12,
 b4 14 .neq 2 11 13] (some [14])) apl) apm
def apo : J := .seq (.seq (.R [a2 5 196 2 0,
 aR 6 2 5,
 a2 7 196 3 0,
 aR 8 2 7,
 b4 9 .neq 2 6 8] (some [2, 3, 9])) apj) apn
def apq : J := .seq (.R [ro 2 (.dh 196 (.t 0)),
 ro 3 (.dh 196 (.t 1)),
 br 4 false] (some [2, 3])) apo
theorem apr : bq ⟨15, [0, 1]⟩ (Tryz.f227.body.getD .skip) = some apq.strip := by kernel_rfl
def aps : J := .seq (.R [br 4 false] (some [4])) .ret
def apt : J := .cond (.t 10) aps .skip
def apu : J := .cond (.t 14) .skip (.exit 0)
def apv : J := .seq (.R [br 4 false] (some [4])) .ret
def apw : J := .cond (.t 26) apv .skip
def apx : J := .R [ab 15 5,
 a8 16 .add 3 15 1,
 aK 5 16] (some [0, 1, 5])
def apy : J := .seq (.block 1 (.seq (.gK [ab 17 0,
 ab 18 5,
 cv 19 145 17 18,
 aR 20 196 19,
 ab 21 1,
 ab 22 5,
 cv 23 145 21 22,
 aR 24 196 23,
 dP 25 227 20 24,
 eF 26 25] [[], [], [0, 1], [2], [], [], [4, 5], [6], [3, 7], [8]] (some [0, 1, 5, 26])) apw)) apx
def Oj : J := .seq (.seq (.R [ab 11 5,
 ab 12 0,
 b5 13 145 12,
 b4 14 .lss 3 11 13] (some [0, 1, 5, 14])) apu) apy
def apz : J := .block 0 (.loop Oj)
def apA : J := .seq (.R [br 4 true] (some [4])) .ret
def apB : J := .seq (.seq (.R [bd 5 0] (some [0, 1, 5])) apz) apA
def apC : J := .seq (.seq (.R [ab 6 0,
 b5 7 145 6,
 ab 8 1,
 b5 9 145 8,
 b4 10 .neq 3 7 9] (some [0, 1, 10])) apt) apB
def apD : J := .seq (.R [br 4 false] (some [0, 1])) apC
theorem apE : bq ⟨27, [0, 1]⟩ (Tryz.f172.body.getD .skip) = some apD.strip := by kernel_rfl
def apF : J := .seq (.R [br 4 false] (some [4])) .ret
def apG : J := .cond (.t 10) apF .skip
def apH : J := .cond (.t 14) .skip (.exit 0)
def apI : J := .seq (.R [br 4 false] (some [4])) .ret
def apJ : J := .cond (.t 26) apI .skip
def apK : J := .R [ab 15 5,
 a8 16 .add 3 15 1,
 aK 5 16] (some [0, 1, 5])
def apL : J := .seq (.block 1 (.seq (.gK [ab 17 0,
 ab 18 5,
 cv 19 146 17 18,
 aR 20 145 19,
 ab 21 1,
 ab 22 5,
 cv 23 146 21 22,
 aR 24 145 23,
 dP 25 172 20 24,
 eF 26 25] [[], [], [0, 1], [2], [], [], [4, 5], [6], [3, 7], [8]] (some [0, 1, 5, 26])) apJ)) apK
def Ol : J := .seq (.seq (.R [ab 11 5,
 ab 12 0,
 b5 13 146 12,
 b4 14 .lss 3 11 13] (some [0, 1, 5, 14])) apH) apL
def apM : J := .block 0 (.loop Ol)
def apN : J := .seq (.R [br 4 true] (some [4])) .ret
def apO : J := .seq (.seq (.R [bd 5 0] (some [0, 1, 5])) apM) apN
def apP : J := .seq (.seq (.R [ab 6 0,
 b5 7 146 6,
 ab 8 1,
 b5 9 146 8,
 b4 10 .neq 3 7 9] (some [0, 1, 10])) apG) apO
def apQ : J := .seq (.R [br 4 false] (some [0, 1])) apP
theorem apR : bq ⟨27, [0, 1]⟩ (Tryz.f173.body.getD .skip) = some apQ.strip := by kernel_rfl
def apS : J := .seq (.R [br 4 false] (some [4])) .ret
def apT : J := .cond (.t 9) apS .skip
def apU : J := .seq (.R [br 4 false] (some [4])) .ret
def apV : J := .cond (.t 14) apU .skip
def apW : J := .seq (.R [br 4 false] (some [4])) .ret
def apX : J := .cond (.t 19) apW .skip
def apY : J := .seq (.R [br 4 false] (some [4])) .ret
def apZ : J := .cond (.t 25) apY .skip
def ap0 : J := .seq (.R [br 4 true] (some [4])) .ret
def ap1 : J := .seq (.seq (.R [a2 20 178 2 3,
 aR 21 146 20,
 a2 22 178 3 3,
 aR 23 146 22,
 dP 24 173 21 23,
 eF 25 24] (some [25])) apZ) ap0
def ap2 : J := .seq (.seq (.R [a2 15 178 2 2,
 aR 16 9 15,
 a2 17 178 3 2,
 aR 18 9 17,
 b4 19 .neq 9 16 18] (some [2, 3, 19])) apX) ap1
def ap3 : J := .seq (.seq (.R [a2 10 178 2 1,
 aR 11 2 10,
 a2 12 178 3 1,
 aR 13 2 12,
 b4 14 .neq 2 11 13] (some [2, 3, 14])) apV) ap2
def ap4 : J := .seq (.seq (.R [a2 5 178 2 0,
 aR 6 2 5,
 a2 7 178 3 0,
 aR 8 2 7,
 b4 9 .neq 2 6 8] (some [2, 3, 9])) apT) ap3
def ap5 : J := .seq (.R [ro 2 (.dh 178 (.t 0)),
 ro 3 (.dh 178 (.t 1)),
 br 4 false] (some [2, 3])) ap4
theorem ap6 : bq ⟨26, [0, 1]⟩ (Tryz.f203.body.getD .skip) = some ap5.strip := by kernel_rfl
def ap7 : J := .seq (.R [br 4 false] (some [4])) .ret
def ap8 : J := .cond (.t 10) ap7 .skip
def ap9 : J := .cond (.t 14) .skip (.exit 0)
def ap_ : J := .seq (.R [br 4 false] (some [4])) .ret
def aqa : J := .cond (.t 26) ap_ .skip
def aqb : J := .R [ab 15 5,
 a8 16 .add 3 15 1,
 aK 5 16] (some [0, 1, 5])
def aqc : J := .seq (.block 1 (.seq (.gK [ab 17 0,
 ab 18 5,
 cv 19 119 17 18,
 aR 20 178 19,
 ab 21 1,
 ab 22 5,
 cv 23 119 21 22,
 aR 24 178 23,
 dP 25 203 20 24,
 eF 26 25] [[], [], [0, 1], [2], [], [], [4, 5], [6], [3, 7], [8]] (some [0, 1, 5, 26])) aqa)) aqb
def Om : J := .seq (.seq (.R [ab 11 5,
 ab 12 0,
 b5 13 119 12,
 b4 14 .lss 3 11 13] (some [0, 1, 5, 14])) ap9) aqc
def aqd : J := .block 0 (.loop Om)
def aqe : J := .seq (.R [br 4 true] (some [4])) .ret
def aqf : J := .seq (.seq (.R [bd 5 0] (some [0, 1, 5])) aqd) aqe
def aqg : J := .seq (.seq (.R [ab 6 0,
 b5 7 119 6,
 ab 8 1,
 b5 9 119 8,
 b4 10 .neq 3 7 9] (some [0, 1, 10])) ap8) aqf
def aqh : J := .seq (.R [br 4 false] (some [0, 1])) aqg
theorem aqi : bq ⟨27, [0, 1]⟩ (Tryz.f148.body.getD .skip) = some aqh.strip := by kernel_rfl
def aqj : J := .seq (.R [br 4 false] (some [4])) .ret
def aqk : J := .cond (.t 9) aqj .skip
def aql : J := .seq (.R [br 4 false] (some [4])) .ret
def aqm : J := .cond (.t 14) aql .skip
def aqn : J := .seq (.R [br 4 false] (some [4])) .ret
def aqo : J := .cond (.t 20) aqn .skip
def aqp : J := .seq (.R [br 4 true] (some [4])) .ret
def aqq : J := .seq (.seq (.R [a2 15 121 2 2,
 aR 16 119 15,
 a2 17 121 3 2,
 aR 18 119 17,
 dP 19 148 16 18,
 eF 20 19] (some [20])) aqo) aqp
def aqr : J := .seq (.seq (.R [a2 10 121 2 1,
 aR 11 2 10,
 a2 12 121 3 1,
 aR 13 2 12,
 b4 14 .neq 2 11 13] (some [2, 3, 14])) aqm) aqq
def aqs : J := .seq (.seq (.R [a2 5 121 2 0,
 aR 6 9 5,
 a2 7 121 3 0,
 aR 8 9 7,
 b4 9 .neq 9 6 8] (some [2, 3, 9])) aqk) aqr
def aqt : J := .seq (.R [ro 2 (.dh 121 (.t 0)),
 ro 3 (.dh 121 (.t 1)),
 br 4 false] (some [2, 3])) aqs
theorem aqu : bq ⟨21, [0, 1]⟩ (Tryz.f92.body.getD .skip) = some aqt.strip := by kernel_rfl
def aqv : J := .seq (.R [br 4 false] (some [4])) .ret
def aqw : J := .cond (.t 10) aqv .skip
def aqx : J := .cond (.t 14) .skip (.exit 0)
def aqy : J := .seq (.R [br 4 false] (some [4])) .ret
def aqz : J := .cond (.t 26) aqy .skip
def aqA : J := .R [ab 15 5,
 a8 16 .add 3 15 1,
 aK 5 16] (some [0, 1, 5])
def aqB : J := .seq (.block 1 (.seq (.gK [ab 17 0,
 ab 18 5,
 cv 19 34 17 18,
 aR 20 121 19,
 ab 21 1,
 ab 22 5,
 cv 23 34 21 22,
 aR 24 121 23,
 dP 25 92 20 24,
 eF 26 25] [[], [], [0, 1], [2], [], [], [4, 5], [6], [3, 7], [8]] (some [0, 1, 5, 26])) aqz)) aqA
def On : J := .seq (.seq (.R [ab 11 5,
 ab 12 0,
 b5 13 34 12,
 b4 14 .lss 3 11 13] (some [0, 1, 5, 14])) aqx) aqB
def aqC : J := .block 0 (.loop On)
def aqD : J := .seq (.R [br 4 true] (some [4])) .ret
def aqE : J := .seq (.seq (.R [bd 5 0] (some [0, 1, 5])) aqC) aqD
def aqF : J := .seq (.seq (.R [ab 6 0,
 b5 7 34 6,
 ab 8 1,
 b5 9 34 8,
 b4 10 .neq 3 7 9] (some [0, 1, 10])) aqw) aqE
def aqG : J := .seq (.R [br 4 false] (some [0, 1])) aqF
theorem zu : bq ⟨27, [0, 1]⟩ (Tryz.f52.body.getD .skip) = some aqG.strip := by kernel_rfl
def aqH : J := .seq (.R [br 4 false] (some [4])) .ret
def aqI : J := .cond (.t 9) aqH .skip
def aqJ : J := .seq (.R [br 4 false] (some [4])) .ret
def aqK : J := .cond (.t 15) aqJ .skip
def aqL : J := .seq (.R [br 4 true] (some [4])) .ret
def aqM : J := .seq (.seq (.R [a2 10 100 2 1,
 aR 11 46 10,
 a2 12 100 3 1,
 aR 13 46 12,
 dP 14 27 11 13,
 eF 15 14] (some [15])) aqK) aqL
def aqN : J := .seq (.seq (.R [a2 5 100 2 0,
 aR 6 2 5,
 a2 7 100 3 0,
 aR 8 2 7,
 b4 9 .neq 2 6 8] (some [2, 3, 9])) aqI) aqM
def aqO : J := .seq (.R [ro 2 (.dh 100 (.t 0)),
 ro 3 (.dh 100 (.t 1)),
 br 4 false] (some [2, 3])) aqN
theorem pb : bq ⟨16, [0, 1]⟩ (Tryz.f93.body.getD .skip) = some aqO.strip := by kernel_rfl
def aqP : J := .seq (.R [br 4 false] (some [4])) .ret
def aqQ : J := .cond (.t 10) aqP .skip
def aqR : J := .cond (.t 14) .skip (.exit 0)
def aqS : J := .seq (.R [br 4 false] (some [4])) .ret
def aqT : J := .cond (.t 26) aqS .skip
def aqU : J := .R [ab 15 5,
 a8 16 .add 3 15 1,
 aK 5 16] (some [0, 1, 5])
def aqV : J := .seq (.block 1 (.seq (.gK [ab 17 0,
 ab 18 5,
 cv 19 35 17 18,
 aR 20 100 19,
 ab 21 1,
 ab 22 5,
 cv 23 35 21 22,
 aR 24 100 23,
 dP 25 93 20 24,
 eF 26 25] [[], [], [0, 1], [2], [], [], [4, 5], [6], [3, 7], [8]] (some [0, 1, 5, 26])) aqT)) aqU
def Oo : J := .seq (.seq (.R [ab 11 5,
 ab 12 0,
 b5 13 35 12,
 b4 14 .lss 3 11 13] (some [0, 1, 5, 14])) aqR) aqV
def aqW : J := .block 0 (.loop Oo)
def aqX : J := .seq (.R [br 4 true] (some [4])) .ret
def aqY : J := .seq (.seq (.R [bd 5 0] (some [0, 1, 5])) aqW) aqX
def aqZ : J := .seq (.seq (.R [ab 6 0,
 b5 7 35 6,
 ab 8 1,
 b5 9 35 8,
 b4 10 .neq 3 7 9] (some [0, 1, 10])) aqQ) aqY
def aq0 : J := .seq (.R [br 4 false] (some [0, 1])) aqZ
theorem zv : bq ⟨27, [0, 1]⟩ (Tryz.f53.body.getD .skip) = some aq0.strip := by kernel_rfl
def aq1 : J := .seq (.R [br 4 false] (some [4])) .ret
def aq2 : J := .cond (.t 9) aq1 .skip
def aq3 : J := .seq (.R [br 4 false] (some [4])) .ret
def aq4 : J := .cond (.t 14) aq3 .skip
def aq5 : J := .seq (.R [br 4 false] (some [4])) .ret
def aq6 : J := .cond (.t 19) aq5 .skip
def aq7 : J := .seq (.R [br 4 true] (some [4])) .ret
def aq8 : J := .seq (.seq (.R [a2 15 124 2 2,
 aR 16 9 15,
 a2 17 124 3 2,
 aR 18 9 17,
 b4 19 .neq 9 16 18] (some [19])) aq6) aq7
def aq9 : J := .seq (.seq (.R [a2 10 124 2 1,
 aR 11 9 10,
 a2 12 124 3 1,
 aR 13 9 12,
 b4 14 .neq 9 11 13] (some [2, 3, 14])) aq4) aq8
def aq_ : J := .seq (.seq (.R [a2 5 124 2 0,
 aR 6 9 5,
 a2 7 124 3 0,
 aR 8 9 7,
 b4 9 .neq 9 6 8] (some [2, 3, 9])) aq2) aq9
def ara : J := .seq (.R [ro 2 (.dh 124 (.t 0)),
 ro 3 (.dh 124 (.t 1)),
 br 4 false] (some [2, 3])) aq_
theorem arb : bq ⟨20, [0, 1]⟩ (Tryz.f94.body.getD .skip) = some ara.strip := by kernel_rfl
def arc : J := .seq (.R [br 4 false] (some [4])) .ret
def ard : J := .cond (.t 10) arc .skip
def arf : J := .cond (.t 14) .skip (.exit 0)
def arh : J := .seq (.R [br 4 false] (some [4])) .ret
def ari : J := .cond (.t 26) arh .skip
def arj : J := .R [ab 15 5,
 a8 16 .add 3 15 1,
 aK 5 16] (some [0, 1, 5])
def ark : J := .seq (.block 1 (.seq (.gK [ab 17 0,
 ab 18 5,
 cv 19 36 17 18,
 aR 20 124 19,
 ab 21 1,
 ab 22 5,
 cv 23 36 21 22,
 aR 24 124 23,
 dP 25 94 20 24,
 eF 26 25] [[], [], [0, 1], [2], [], [], [4, 5], [6], [3, 7], [8]] (some [0, 1, 5, 26])) ari)) arj
def Oq : J := .seq (.seq (.R [ab 11 5,
 ab 12 0,
 b5 13 36 12,
 b4 14 .lss 3 11 13] (some [0, 1, 5, 14])) arf) ark
def arl : J := .block 0 (.loop Oq)
def arn : J := .seq (.R [br 4 true] (some [4])) .ret
def aro : J := .seq (.seq (.R [bd 5 0] (some [0, 1, 5])) arl) arn
def arp : J := .seq (.seq (.R [ab 6 0,
 b5 7 36 6,
 ab 8 1,
 b5 9 36 8,
 b4 10 .neq 3 7 9] (some [0, 1, 10])) ard) aro
def arq : J := .seq (.R [br 4 false] (some [0, 1])) arp
theorem ars : bq ⟨27, [0, 1]⟩ (Tryz.f54.body.getD .skip) = some arq.strip := by kernel_rfl
def art : J := .seq (.R [br 4 false] (some [4])) .ret
def aru : J := .cond (.t 10) art .skip
def arv : J := .cond (.t 14) .skip (.exit 0)
def arw : J := .seq (.R [br 4 false] (some [4])) .ret
def arx : J := .cond (.t 25) arw .skip
def ary : J := .R [ab 15 5,
 a8 16 .add 3 15 1,
 aK 5 16] (some [0, 1, 5])
def arz : J := .seq (.block 1 (.seq (.gK [ab 17 0,
 ab 18 5,
 cv 19 25 17 18,
 aR 20 9 19,
 ab 21 1,
 ab 22 5,
 cv 23 25 21 22,
 aR 24 9 23,
 b4 25 .neq 9 20 24] [[], [], [0, 1], [2], [], [], [4, 5], [6], [3, 7]] (some [0, 1, 5, 25])) arx)) ary
def Ot : J := .seq (.seq (.R [ab 11 5,
 ab 12 0,
 b5 13 25 12,
 b4 14 .lss 3 11 13] (some [0, 1, 5, 14])) arv) arz
def arA : J := .block 0 (.loop Ot)
def arB : J := .seq (.R [br 4 true] (some [4])) .ret
def arC : J := .seq (.seq (.R [bd 5 0] (some [0, 1, 5])) arA) arB
def arD : J := .seq (.seq (.R [ab 6 0,
 b5 7 25 6,
 ab 8 1,
 b5 9 25 8,
 b4 10 .neq 3 7 9] (some [0, 1, 10])) aru) arC
def arE : J := .seq (.R [br 4 false] (some [0, 1])) arD
theorem arF : bq ⟨26, [0, 1]⟩ (Tryz.f55.body.getD .skip) = some arE.strip := by kernel_rfl
def arG : J := .seq (.R [br 4 false] (some [4])) .ret
def arH : J := .cond (.t 10) arG .skip
def arI : J := .seq (.R [br 4 false] (some [4])) .ret
def arJ : J := .cond (.t 16) arI .skip
def arK : J := .seq (.R [br 4 false] (some [4])) .ret
def arL : J := .cond (.t 22) arK .skip
def arM : J := .seq (.R [br 4 false] (some [4])) .ret
def arN : J := .cond (.t 28) arM .skip
def arO : J := .seq (.R [br 4 false] (some [4])) .ret
def arP : J := .cond (.t 34) arO .skip
def arQ : J := .seq (.R [br 4 true] (some [4])) .ret
def arR : J := .seq (.seq (.R [a2 29 38 2 4,
 aR 30 25 29,
 a2 31 38 3 4,
 aR 32 25 31,
 dP 33 55 30 32,
 eF 34 33] (some [34])) arP) arQ
def arS : J := .seq (.seq (.R [a2 23 38 2 3,
 aR 24 25 23,
 a2 25 38 3 3,
 aR 26 25 25,
 dP 27 55 24 26,
 eF 28 27] (some [2, 3, 28])) arN) arR
def arT : J := .seq (.seq (.R [a2 17 38 2 2,
 aR 18 36 17,
 a2 19 38 3 2,
 aR 20 36 19,
 dP 21 54 18 20,
 eF 22 21] (some [2, 3, 22])) arL) arS
def arU : J := .seq (.seq (.R [a2 11 38 2 1,
 aR 12 35 11,
 a2 13 38 3 1,
 aR 14 35 13,
 dP 15 53 12 14,
 eF 16 15] (some [2, 3, 16])) arJ) arT
def arV : J := .seq (.seq (.R [a2 5 38 2 0,
 aR 6 34 5,
 a2 7 38 3 0,
 aR 8 34 7,
 dP 9 52 6 8,
 eF 10 9] (some [2, 3, 10])) arH) arU
def arW : J := .seq (.R [ro 2 (.dh 38 (.t 0)),
 ro 3 (.dh 38 (.t 1)),
 br 4 false] (some [2, 3])) arV
theorem wo : bq ⟨35, [0, 1]⟩ (Tryz.f15.body.getD .skip) = some arW.strip := by kernel_rfl
def arX : J := .seq (.R [ro 2 (.iO (.c (.str [109, 48])))] (some [2])) .ret
def arY : J := .cond (.t 5) arX .skip
def arZ : J := .cond (.t 7) .skip (.exit 0)
def ar0 : J := .R [ab 16 0,
 a8 17 .quo 3 16 10,
 aK 0 17] (some [0, 3])
def ar1 : J := .block 1 (.seq (.R [ab 8 0,
 a8 9 .rem 3 8 10,
 ro 10 (.ck .add 3 (.c (.int .i64 48)) (.t 9)),
 Mn 11 3 5 10,
 Bd 12 193 11,
 Mn 13 193 9 12,
 ab 14 3,
 b4 15 .add 9 13 14,
 aK 3 15] (some [0, 3])) ar0)
def Ou : J := .seq (.seq (.R [ab 6 0,
 a8 7 .gtr 3 6 0] (some [0, 3, 7])) arZ) ar1
def ar2 : J := .seq (.R [ab 18 3,
 ro 19 (.ck .add 9 (.c (.str [109])) (.t 18)),
 aK 2 19] (some [2])) .ret
def ar3 : J := .seq (.block 0 (.loop Ou)) ar2
def ar4 : J := .seq (.R [ro 3 (.iO (.c (.str [])))] (some [0, 3])) ar3
def ar5 : J := .seq (.seq (.R [ab 4 0,
 a8 5 .leq 3 4 0] (some [0, 5])) arY) ar4
def ar6 : J := .seq (.R [ro 2 (.iO (.c (.str [])))] (some [0])) ar5
theorem ar7 : bq ⟨20, []⟩ (Tryz.f95.body.getD .skip) = some ar6.strip := by kernel_rfl
def ar8 : J := .cond (.t 9) .skip (.exit 0)
def ar9 : J := .R [ab 24 1,
 a8 25 .add 3 24 1,
 aK 1 25] (some [0, 1, 5])
def ar_ : J := .seq (.R [ab 19 0,
 ab 20 5,
 ab 21 1,
 cv 22 145 19 20,
 a2 23 196 22 1,
 eh 2 23 21] (some [0, 1, 5])) ar9
def asa : J := .seq (.R [ab 17 1,
 a8 18 .add 3 17 1,
 aK 1 18] (some [0, 1, 5])) ar_
def asb : J := .R [ab 10 5,
 a8 11 .add 3 10 1,
 aK 5 11] (some [0, 1, 5])
def asc : J := .seq (.block 1 (.seq (.R [ab 12 0,
 ab 13 5,
 ab 14 1,
 cv 15 145 12 13,
 a2 16 196 15 0,
 eh 2 16 14] (some [0, 1, 5])) asa)) asb
def Ov : J := .seq (.seq (.R [ab 6 5,
 ab 7 0,
 b5 8 145 7,
 b4 9 .lss 3 6 8] (some [0, 1, 5, 9])) ar8) asc
def asd : J := .block 0 (.loop Ov)
def ase : J := .seq (.R [ab 26 1,
 aK 4 26] (some [0, 4])) .ret
def asf : J := .seq (.seq (.R [bd 5 0] (some [0, 1, 5])) asd) ase
def asg : J := .seq (.R [bd 4 0] (some [0, 1])) asf
theorem ash : bq ⟨27, [0]⟩ (Tryz.f113.body.getD .skip) = some asg.strip := by kernel_rfl
def asi : J := .cond (.t 9) .skip (.exit 0)
def asj : J := .R [ab 10 5,
 a8 11 .add 3 10 1,
 aK 5 11] (some [0, 1, 5])
def asl : J := .seq (.block 1 (.R [ab 12 0,
 ab 13 5,
 cv 14 146 12 13,
 aR 15 145 14,
 ab 16 1,
 dP 17 113 15 16,
 aK 1 17] (some [0, 1, 5]))) asj
def Ow : J := .seq (.seq (.R [ab 6 5,
 ab 7 0,
 b5 8 146 7,
 b4 9 .lss 3 6 8] (some [0, 1, 5, 9])) asi) asl
def asm : J := .block 0 (.loop Ow)
def asn : J := .seq (.R [ab 18 1,
 aK 4 18] (some [0, 4])) .ret
def aso : J := .seq (.seq (.R [bd 5 0] (some [0, 1, 5])) asm) asn
def asp : J := .seq (.R [bd 4 0] (some [0, 1])) aso
theorem asq : bq ⟨19, [0]⟩ (Tryz.f114.body.getD .skip) = some asp.strip := by kernel_rfl
def asr : J := .cond (.t 9) .skip (.exit 0)
def ass : J := .R [ab 34 0,
 ab 35 5,
 cv 36 119 34 35,
 a2 37 178 36 3,
 aR 38 146 37,
 ab 39 1,
 dP 40 114 38 39,
 aK 1 40] (some [0, 1, 5])
def ast : J := .seq (.R [ab 32 1,
 a8 33 .add 3 32 1,
 aK 1 33] (some [0, 1, 5])) ass
def asu : J := .seq (.R [ab 26 0,
 ab 27 5,
 ab 28 1,
 dO 29 95 28,
 cv 30 119 26 27,
 a2 31 178 30 2,
 eh 9 31 29] (some [0, 1, 5])) ast
def asv : J := .seq (.R [ab 24 1,
 a8 25 .add 3 24 1,
 aK 1 25] (some [0, 1, 5])) asu
def asw : J := .seq (.R [ab 19 0,
 ab 20 5,
 ab 21 1,
 cv 22 119 19 20,
 a2 23 178 22 1,
 eh 2 23 21] (some [0, 1, 5])) asv
def asx : J := .seq (.R [ab 17 1,
 a8 18 .add 3 17 1,
 aK 1 18] (some [0, 1, 5])) asw
def asy : J := .R [ab 10 5,
 a8 11 .add 3 10 1,
 aK 5 11] (some [0, 1, 5])
def asz : J := .seq (.block 1 (.seq (.R [ab 12 0,
 ab 13 5,
 ab 14 1,
 cv 15 119 12 13,
 a2 16 178 15 0,
 eh 2 16 14] (some [0, 1, 5])) asx)) asy
def Ox : J := .seq (.seq (.R [ab 6 5,
 ab 7 0,
 b5 8 119 7,
 b4 9 .lss 3 6 8] (some [0, 1, 5, 9])) asr) asz
def asA : J := .block 0 (.loop Ox)
def asB : J := .seq (.R [ab 41 1,
 aK 4 41] (some [0, 4])) .ret
def asC : J := .seq (.seq (.R [bd 5 0] (some [0, 1, 5])) asA) asB
def asD : J := .seq (.R [bd 4 0] (some [0, 1])) asC
theorem asE : bq ⟨42, [0]⟩ (Tryz.f96.body.getD .skip) = some asD.strip := by kernel_rfl
def asF : J := .cond (.t 9) .skip (.exit 0)
def asG : J := .R [ab 27 0,
 ab 28 5,
 cv 29 34 27 28,
 a2 30 121 29 2,
 aR 31 119 30,
 ab 32 1,
 dP 33 96 31 32,
 aK 1 33] (some [0, 1, 5])
def asH : J := .seq (.R [ab 25 1,
 a8 26 .add 3 25 1,
 aK 1 26] (some [0, 1, 5])) asG
def asI : J := .seq (.R [ab 20 0,
 ab 21 5,
 ab 22 1,
 cv 23 34 20 21,
 a2 24 121 23 1,
 eh 2 24 22] (some [0, 1, 5])) asH
def asJ : J := .seq (.R [ab 18 1,
 a8 19 .add 3 18 1,
 aK 1 19] (some [0, 1, 5])) asI
def asK : J := .R [ab 10 5,
 a8 11 .add 3 10 1,
 aK 5 11] (some [0, 1, 5])
def asL : J := .seq (.block 1 (.seq (.R [ab 12 0,
 ab 13 5,
 ab 14 1,
 dO 15 95 14,
 cv 16 34 12 13,
 a2 17 121 16 0,
 eh 9 17 15] (some [0, 1, 5])) asJ)) asK
def Oy : J := .seq (.seq (.R [ab 6 5,
 ab 7 0,
 b5 8 34 7,
 b4 9 .lss 3 6 8] (some [0, 1, 5, 9])) asF) asL
def asM : J := .block 0 (.loop Oy)
def asN : J := .seq (.R [ab 34 1,
 aK 4 34] (some [0, 4])) .ret
def asO : J := .seq (.seq (.R [bd 5 0] (some [0, 1, 5])) asM) asN
def asP : J := .seq (.R [bd 4 0] (some [0, 1])) asO
theorem asQ : bq ⟨35, [0]⟩ (Tryz.f56.body.getD .skip) = some asP.strip := by kernel_rfl
def asR : J := .cond (.t 9) .skip (.exit 0)
def asS : J := .R [ab 16 1,
 a8 17 .add 3 16 1,
 aK 1 17] (some [0, 1, 5])
def asT : J := .R [ab 10 5,
 a8 11 .add 3 10 1,
 aK 5 11] (some [0, 1, 5])
def asU : J := .seq (.block 1 (.seq (.R [ab 12 0,
 ab 13 5,
 ab 14 1,
 cv 15 46 12 13,
 eh 2 15 14] (some [0, 1, 5])) asS)) asT
def Oz : J := .seq (.seq (.R [ab 6 5,
 ab 7 0,
 b5 8 46 7,
 b4 9 .lss 3 6 8] (some [0, 1, 5, 9])) asR) asU
def asV : J := .block 0 (.loop Oz)
def asW : J := .seq (.R [ab 18 1,
 aK 4 18] (some [0, 4])) .ret
def asX : J := .seq (.seq (.R [bd 5 0] (some [0, 1, 5])) asV) asW
def asY : J := .seq (.R [bd 4 0] (some [0, 1])) asX
theorem asZ : bq ⟨19, [0]⟩ (Tryz.f28.body.getD .skip) = some asY.strip := by kernel_rfl
def as0 : J := .cond (.t 9) .skip (.exit 0)
def as1 : J := .R [ab 19 0,
 ab 20 5,
 cv 21 35 19 20,
 a2 22 100 21 1,
 aR 23 46 22,
 ab 24 1,
 dP 25 28 23 24,
 aK 1 25] (some [0, 1, 5])
def as2 : J := .seq (.R [ab 17 1,
 a8 18 .add 3 17 1,
 aK 1 18] (some [0, 1, 5])) as1
def as3 : J := .R [ab 10 5,
 a8 11 .add 3 10 1,
 aK 5 11] (some [0, 1, 5])
def as4 : J := .seq (.block 1 (.seq (.R [ab 12 0,
 ab 13 5,
 ab 14 1,
 cv 15 35 12 13,
 a2 16 100 15 0,
 eh 2 16 14] (some [0, 1, 5])) as2)) as3
def OA : J := .seq (.seq (.R [ab 6 5,
 ab 7 0,
 b5 8 35 7,
 b4 9 .lss 3 6 8] (some [0, 1, 5, 9])) as0) as4
def as5 : J := .block 0 (.loop OA)
def as6 : J := .seq (.R [ab 26 1,
 aK 4 26] (some [0, 4])) .ret
def as7 : J := .seq (.seq (.R [bd 5 0] (some [0, 1, 5])) as5) as6
def as8 : J := .seq (.R [bd 4 0] (some [0, 1])) as7
theorem as9 : bq ⟨27, [0]⟩ (Tryz.f57.body.getD .skip) = some as8.strip := by kernel_rfl
def as_ : J := .cond (.t 9) .skip (.exit 0)
def ata : J := .R [ab 34 1,
 a8 35 .add 3 34 1,
 aK 1 35] (some [0, 1, 5])
def atb : J := .seq (.R [ab 28 0,
 ab 29 5,
 ab 30 1,
 dO 31 95 30,
 cv 32 36 28 29,
 a2 33 124 32 2,
 eh 9 33 31] (some [0, 1, 5])) ata
def atc : J := .seq (.R [ab 26 1,
 a8 27 .add 3 26 1,
 aK 1 27] (some [0, 1, 5])) atb
def atd : J := .seq (.R [ab 20 0,
 ab 21 5,
 ab 22 1,
 dO 23 95 22,
 cv 24 36 20 21,
 a2 25 124 24 1,
 eh 9 25 23] (some [0, 1, 5])) atc
def ate : J := .seq (.R [ab 18 1,
 a8 19 .add 3 18 1,
 aK 1 19] (some [0, 1, 5])) atd
def atf : J := .R [ab 10 5,
 a8 11 .add 3 10 1,
 aK 5 11] (some [0, 1, 5])
def atg : J := .seq (.block 1 (.seq (.R [ab 12 0,
 ab 13 5,
 ab 14 1,
 dO 15 95 14,
 cv 16 36 12 13,
 a2 17 124 16 0,
 eh 9 17 15] (some [0, 1, 5])) ate)) atf
def OB : J := .seq (.seq (.R [ab 6 5,
 ab 7 0,
 b5 8 36 7,
 b4 9 .lss 3 6 8] (some [0, 1, 5, 9])) as_) atg
def ath : J := .block 0 (.loop OB)
def ati : J := .seq (.R [ab 36 1,
 aK 4 36] (some [0, 4])) .ret
def atj : J := .seq (.seq (.R [bd 5 0] (some [0, 1, 5])) ath) ati
def atk : J := .seq (.R [bd 4 0] (some [0, 1])) atj
theorem atl : bq ⟨37, [0]⟩ (Tryz.f58.body.getD .skip) = some atk.strip := by kernel_rfl
def atm : J := .cond (.t 9) .skip (.exit 0)
def atn : J := .R [ab 17 1,
 a8 18 .add 3 17 1,
 aK 1 18] (some [0, 1, 5])
def ato : J := .R [ab 10 5,
 a8 11 .add 3 10 1,
 aK 5 11] (some [0, 1, 5])
def atp : J := .seq (.block 1 (.seq (.R [ab 12 0,
 ab 13 5,
 ab 14 1,
 dO 15 95 14,
 cv 16 25 12 13,
 eh 9 16 15] (some [0, 1, 5])) atn)) ato
def OC : J := .seq (.seq (.R [ab 6 5,
 ab 7 0,
 b5 8 25 7,
 b4 9 .lss 3 6 8] (some [0, 1, 5, 9])) atm) atp
def atq : J := .block 0 (.loop OC)
def atr : J := .seq (.R [ab 19 1,
 aK 4 19] (some [0, 4])) .ret
def ats : J := .seq (.seq (.R [bd 5 0] (some [0, 1, 5])) atq) atr
def att : J := .seq (.R [bd 4 0] (some [0, 1])) ats
theorem atu : bq ⟨20, [0]⟩ (Tryz.f59.body.getD .skip) = some att.strip := by kernel_rfl
def atv : J := .seq (.R [ab 25 1,
 aK 4 25] (some [0, 4])) .ret
def atw : J := .seq (.R [a2 21 38 2 4,
 aR 22 25 21,
 ab 23 1,
 dP 24 59 22 23,
 aK 1 24] (some [0, 1])) atv
def atx : J := .seq (.R [a2 17 38 2 3,
 aR 18 25 17,
 ab 19 1,
 ⟨some 20, .kz (.f 59) [(.t 18), (.t 19)] [2], none⟩,
 aK 1 20] (some [0, 1, 2])) atw
def aty : J := .seq (.R [a2 13 38 2 2,
 aR 14 36 13,
 ab 15 1,
 ⟨some 16, .kz (.f 58) [(.t 14), (.t 15)] [2], none⟩,
 aK 1 16] (some [0, 1, 2])) atx
def atz : J := .seq (.R [a2 9 38 2 1,
 aR 10 35 9,
 ab 11 1,
 ⟨some 12, .kz (.f 57) [(.t 10), (.t 11)] [2], none⟩,
 aK 1 12] (some [0, 1, 2])) aty
def atA : J := .seq (.R [a2 5 38 2 0,
 aR 6 34 5,
 ab 7 1,
 ⟨some 8, .kz (.f 56) [(.t 6), (.t 7)] [2], none⟩,
 aK 1 8] (some [0, 1, 2])) atz
def atB : J := .seq (.R [⟨some 2, .jZ 38 (.t 0), none⟩,
 bd 4 0] (some [0, 1, 2])) atA
theorem tM : bq ⟨26, [0]⟩ (Tryz.f16.body.getD .skip) = some atB.strip := by kernel_rfl
def atC : J := .cond (.t 9) .skip (.exit 0)
def atD : J := .R [ab 26 0,
 ab 27 5,
 cv 28 31 26 27,
 a2 29 82 28 2,
 aR 30 46 29,
 ab 31 1,
 dP 32 28 30 31,
 aK 1 32] (some [0, 1, 5])
def atE : J := .seq (.R [ab 24 1,
 a8 25 .add 3 24 1,
 aK 1 25] (some [0, 1, 5])) atD
def atF : J := .seq (.R [ab 19 0,
 ab 20 5,
 ab 21 1,
 cv 22 31 19 20,
 a2 23 82 22 1,
 eh 2 23 21] (some [0, 1, 5])) atE
def atG : J := .seq (.R [ab 17 1,
 a8 18 .add 3 17 1,
 aK 1 18] (some [0, 1, 5])) atF
def atH : J := .R [ab 10 5,
 a8 11 .add 3 10 1,
 aK 5 11] (some [0, 1, 5])
def atI : J := .seq (.block 1 (.seq (.R [ab 12 0,
 ab 13 5,
 ab 14 1,
 cv 15 31 12 13,
 a2 16 82 15 0,
 eh 2 16 14] (some [0, 1, 5])) atG)) atH
def OD : J := .seq (.seq (.R [ab 6 5,
 ab 7 0,
 b5 8 31 7,
 b4 9 .lss 3 6 8] (some [0, 1, 5, 9])) atC) atI
def atJ : J := .block 0 (.loop OD)
def atK : J := .seq (.R [ab 33 1,
 aK 4 33] (some [0, 4])) .ret
def atL : J := .seq (.seq (.R [bd 5 0] (some [0, 1, 5])) atJ) atK
def atM : J := .seq (.R [bd 4 0] (some [0, 1])) atL
theorem tN : bq ⟨34, [0]⟩ (Tryz.f17.body.getD .skip) = some atM.strip := by kernel_rfl
def atN : J := .cond (.t 9) .skip (.exit 0)
def atO : J := .seq (.R [bd 4 (-1)] (some [4])) .ret
def atP : J := .cond (.t 17) atO .skip
def atQ : J := .R [ab 18 1,
 a8 19 .add 3 18 1,
 aK 1 19] (some [0, 1, 5])
def atS : J := .R [ab 10 5,
 a8 11 .add 3 10 1,
 aK 5 11] (some [0, 1, 5])
def atT : J := .seq (.block 1 (.seq (.seq (.R [ab 12 0,
 ab 13 5,
 cv 14 46 12 13,
 aR 15 2 14,
 ab 16 1,
 b4 17 .neq 2 15 16] (some [0, 1, 5, 17])) atP) atQ)) atS
def OE : J := .seq (.seq (.R [ab 6 5,
 ab 7 0,
 b5 8 46 7,
 b4 9 .lss 3 6 8] (some [0, 1, 5, 9])) atN) atT
def atU : J := .block 0 (.loop OE)
def atV : J := .seq (.R [ab 20 1,
 aK 4 20] (some [4])) .ret
def atW : J := .seq (.seq (.R [bd 5 0] (some [0, 1, 5])) atU) atV
def atX : J := .seq (.R [bd 4 0] (some [0, 1])) atW
theorem atY : bq ⟨21, [0]⟩ (Tryz.f60.body.getD .skip) = some atX.strip := by kernel_rfl
def atZ : J := .cond (.t 9) .skip (.exit 0)
def at0 : J := .seq (.R [bd 4 (-1)] (some [4])) .ret
def at1 : J := .cond (.t 18) at0 .skip
def at2 : J := .seq (.R [bd 4 (-1)] (some [4])) .ret
def at3 : J := .cond (.t 27) at2 .skip
def at4 : J := .seq (.R [bd 4 (-1)] (some [4])) .ret
def at5 : J := .cond (.t 38) at4 .skip
def at6 : J := .seq (.R [ab 37 1,
 a8 38 .lss 3 37 0] (some [0, 1, 5, 38])) at5
def at7 : J := .seq (.R [ab 30 0,
 ab 31 5,
 cv 32 31 30 31,
 a2 33 82 32 2,
 aR 34 46 33,
 ab 35 1,
 dP 36 60 34 35,
 aK 1 36] (some [0, 1, 5])) at6
def at8 : J := .seq (.R [ab 28 1,
 a8 29 .add 3 28 1,
 aK 1 29] (some [0, 1, 5])) at7
def at9 : J := .seq (.seq (.R [ab 21 0,
 ab 22 5,
 cv 23 31 21 22,
 a2 24 82 23 1,
 aR 25 2 24,
 ab 26 1,
 b4 27 .neq 2 25 26] (some [0, 1, 5, 27])) at3) at8
def aua : J := .seq (.R [ab 19 1,
 a8 20 .add 3 19 1,
 aK 1 20] (some [0, 1, 5])) at9
def aub : J := .R [ab 10 5,
 a8 11 .add 3 10 1,
 aK 5 11] (some [0, 1, 5])
def auc : J := .seq (.block 1 (.seq (.seq (.R [ab 12 0,
 ab 13 5,
 cv 14 31 12 13,
 a2 15 82 14 0,
 aR 16 2 15,
 ab 17 1,
 b4 18 .neq 2 16 17] (some [0, 1, 5, 18])) at1) aua)) aub
def OG : J := .seq (.seq (.R [ab 6 5,
 ab 7 0,
 b5 8 31 7,
 b4 9 .lss 3 6 8] (some [0, 1, 5, 9])) atZ) auc
def aud : J := .block 0 (.loop OG)
def aue : J := .seq (.R [ab 39 1,
 aK 4 39] (some [4])) .ret
def auf : J := .seq (.seq (.R [bd 5 0] (some [0, 1, 5])) aud) aue
def aug : J := .seq (.R [bd 4 0] (some [0, 1])) auf
theorem auh : bq ⟨40, [0]⟩ (Tryz.f18.body.getD .skip) = some aug.strip := by kernel_rfl
def aui : J := .seq (.R [br 6 true] (some [6])) .ret
def auj : J := .cond (.t 22) aui .skip
def auk : J := .seq (.R [br 6 true] (some [6])) .ret
def aul : J := .cond (.t 27) auk .skip
def aum : J := .seq (.R [br 6 true] (some [6])) .ret
def aun : J := .cond (.t 32) aum .skip
def auo : J := .seq (.R [br 6 false] (some [6])) .ret
def aup : J := .cond (.t 64) auo .skip
def auq : J := .seq (.R [br 6 false] (some [6])) .ret
def aur : J := .cond (.t 69) auq .skip
def aus : J := .seq (.R [br 6 false] (some [6])) .ret
def aut : J := .cond (.t 74) aus .skip
def auu : J := .seq (.R [br 6 false] (some [6])) .ret
def auv : J := .cond (.t 79) auu .skip
def auw : J := .seq (.R [br 6 false] (some [6])) .ret
def auy : J := .cond (.t 101) auw .skip
def auz : J := .seq (.R [br 6 false] (some [6])) .ret
def auA : J := .cond (.t 109) auz .skip
def auB : J := .seq (.R [br 6 false] (some [6])) .ret
def auC : J := .cond (.t 112) auB .skip
def auD : J := .seq (.R [br 6 false] (some [6])) .ret
def auE : J := .cond (.t 131) auD .skip
def auF : J := .seq (.R [br 6 false] (some [6])) .ret
def auG : J := .cond (.t 136) auF .skip
def auH : J := .seq (.R [br 6 false] (some [6])) .ret
def auI : J := .cond (.t 139) auH .skip
def auJ : J := .seq (.R [br 6 true] (some [6])) .ret
def auK : J := .seq (.seq (.R [ab 137 17,
 ab 138 16,
 b4 139 .neq 3 137 138] (some [139])) auI) auJ
def auL : J := .seq (.seq (.R [ab 135 17,
 a8 136 .lss 3 135 0] (some [16, 17, 136])) auG) auK
def auM : J := .seq (.R [ab 132 13,
 ab 133 17,
 dP 134 18 132 133,
 aK 17 134] (some [16, 17])) auL
def auN : J := .seq (.R [bd 17 1] (some [13, 16, 17])) auM
def auO : J := .seq (.seq (.R [ab 123 18,
 ab 124 8,
 dP 125 14 123 124,
 eF 126 125,
 ab 127 126,
 ⟨some 128, .ct (.t 19), some (127, false)⟩,
 ⟨some 129, .ct (.t 9), some (127, false)⟩,
 ⟨some 130, .ck .neq 2 (.t 128) (.t 129), some (127, false)⟩,
 ro 131 (.pick (.t 127) (.c (.bool true)) (.t 130))] (some [13, 16, 131])) auE) auN
def auP : J := .seq (.R [aR 114 27 3,
 dO 115 11 114,
 ab 116 1,
 dO 117 12 116,
 ab 118 2,
 dO 119 25 118,
 x6 120 26 115 117 119,
 ab 113 120,
 pX 121 113 0,
 pX 122 113 1,
 aK 18 121,
 aK 19 122] (some [8, 9, 13, 16, 18, 19])) auO
def auQ : J := .seq (.seq (.R [ab 110 17,
 ab 111 16,
 b4 112 .neq 3 110 111] (some [1, 2, 3, 8, 9, 13, 16, 112])) auC) auP
def auR : J := .seq (.seq (.R [ab 108 17,
 a8 109 .lss 3 108 0] (some [1, 2, 3, 8, 9, 13, 16, 17, 109])) auA) auQ
def auS : J := .seq (.R [ab 105 13,
 ab 106 17,
 dP 107 18 105 106,
 aK 17 107] (some [1, 2, 3, 8, 9, 13, 16, 17])) auR
def auT : J := .seq (.R [bd 17 1] (some [1, 2, 3, 8, 9, 13, 16, 17])) auS
def auU : J := .seq (.R [ab 102 13,
 ab 103 16,
 dP 104 17 102 103,
 aK 16 104] (some [1, 2, 3, 8, 9, 13, 16])) auT
def auV : J := .seq (.R [bd 16 1] (some [1, 2, 3, 8, 9, 13, 16])) auU
def auW : J := .seq (.seq (.R [ab 89 15,
 a8 90 .lss 3 89 0,
 ab 91 90,
 ⟨some 92, .ct (.t 13), some (91, false)⟩,
 ⟨some 93, .ct (.t 8), some (91, false)⟩,
 ⟨some 94, .call (.f 14) [(.t 92), (.t 93)], some (91, false)⟩,
 ⟨some 95, .un .not (.t 94), some (91, false)⟩,
 ro 96 (.pick (.t 91) (.c (.bool true)) (.t 95)),
 ab 97 96,
 ⟨some 98, .ct (.t 14), some (97, false)⟩,
 ⟨some 99, .ct (.t 9), some (97, false)⟩,
 ⟨some 100, .ck .neq 2 (.t 98) (.t 99), some (97, false)⟩,
 ro 101 (.pick (.t 97) (.c (.bool true)) (.t 100))] (some [1, 2, 3, 8, 9, 13, 101])) auy) auV
def auX : J := .seq (.R [ab 86 12,
 ab 87 15,
 dP 88 28 86 87,
 aK 15 88] (some [1, 2, 3, 8, 9, 13, 14, 15])) auW
def auY : J := .seq (.R [ab 83 11,
 ab 84 15,
 dP 85 17 83 84,
 aK 15 85] (some [1, 2, 3, 8, 9, 12, 13, 14, 15])) auX
def auZ : J := .seq (.R [aR 80 38 10,
 ab 81 15,
 dP 82 16 80 81,
 aK 15 82] (some [1, 2, 3, 8, 9, 11, 12, 13, 14, 15])) auY
def au0 : J := .seq (.R [bd 15 1] (some [1, 2, 3, 8, 9, 10, 11, 12, 13, 14, 15])) auZ
def au1 : J := .seq (.seq (.R [ab 75 12,
 ab 76 2,
 dO 77 25 76,
 dP 78 27 75 77,
 eF 79 78] (some [1, 2, 3, 8, 9, 10, 11, 12, 13, 14, 79])) auv) au0
def au2 : J := .seq (.seq (.R [ab 70 11,
 ab 71 1,
 dO 72 12 71,
 dP 73 14 70 72,
 eF 74 73] (some [1, 2, 3, 8, 9, 10, 11, 12, 13, 14, 74])) aut) au1
def au3 : J := .seq (.seq (.gK [aR 65 38 10,
 aR 66 27 3,
 dO 67 11 66,
 dP 68 15 65 67,
 eF 69 68] [[], [], [1], [0, 2, 2], [3]] (some [1, 2, 3, 8, 9, 10, 11, 12, 13, 14, 69])) aur) au2
def au4 : J := .seq (.seq (.R [ab 56 13,
 ab 57 8,
 dP 58 14 56 57,
 eF 59 58,
 ab 60 59,
 ⟨some 61, .ct (.t 14), some (60, false)⟩,
 ⟨some 62, .ct (.t 9), some (60, false)⟩,
 ⟨some 63, .ck .neq 2 (.t 61) (.t 62), some (60, false)⟩,
 ro 64 (.pick (.t 60) (.c (.bool true)) (.t 63))] (some [1, 2, 3, 8, 9, 10, 11, 12, 13, 14, 64])) aup) au3
def au5 : J := .seq (.R [aR 50 38 10,
 ab 51 11,
 ab 52 12,
 x6 53 26 50 51 52,
 ab 49 53,
 pX 54 49 0,
 pX 55 49 1,
 aK 13 54,
 aK 14 55] (some [1, 2, 3, 8, 9, 10, 11, 12, 13, 14])) au4
def au6 : J := .seq (.R [ab 47 2,
 dO 48 25 47,
 aK 12 48] (some [1, 2, 3, 8, 9, 10, 11, 12])) au5
def au7 : J := .seq (.R [ab 45 1,
 dO 46 12 45,
 aK 11 46] (some [1, 2, 3, 8, 9, 10, 11])) au6
def au8 : J := .seq (.R [aR 43 27 3,
 dO 44 11 43,
 iD 10 38,
 eh 38 10 44] (some [1, 2, 3, 8, 9, 10])) au7
def au9 : J := .seq (.R [aR 34 27 3,
 dO 35 11 34,
 ab 36 1,
 dO 37 12 36,
 ab 38 2,
 dO 39 25 38,
 x6 40 24 35 37 39,
 ab 33 40,
 pX 41 33 0,
 pX 42 33 1,
 aK 8 41,
 aK 9 42] (some [1, 2, 3, 8, 9])) au8
def au_ : J := .seq (.seq (.R [ab 31 7,
 a8 32 .lss 3 31 0] (some [1, 2, 3, 32])) aun) au9
def ava : J := .seq (.R [ab 28 1,
 ab 29 7,
 dP 30 9 28 29,
 aK 7 30] (some [1, 2, 3, 7])) au_
def avb : J := .seq (.seq (.R [ab 26 7,
 a8 27 .lss 3 26 0] (some [1, 2, 3, 7, 27])) aul) ava
def avc : J := .seq (.R [aR 23 27 3,
 ab 24 7,
 dP 25 8 23 24,
 aK 7 25] (some [1, 2, 3, 7])) avb
def avd : J := .seq (.R [bd 7 1048576] (some [1, 2, 3, 7])) avc
def ave : J := .seq (.seq (.R [ab 20 2,
 b5 21 46 20,
 a8 22 .gtr 3 21 1048576] (some [1, 2, 3, 22])) auj) avd
def qu : J := .seq (.R [ro 3 (.dh 27 (.t 0)),
 br 6 false] (some [1, 2, 3])) ave
theorem zw : bq ⟨140, [0, 1, 2]⟩ (Tryz.f5.body.getD .skip) = some qu.strip := by kernel_rfl
def ak := PLift.up (And.intro @Bool.not_true @Bool.not_false)
end Go.Proofs.YtocllehpepigpaaGreat
