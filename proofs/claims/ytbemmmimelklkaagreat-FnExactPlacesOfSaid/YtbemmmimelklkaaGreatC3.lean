/- Part of a proof that a law returns true for every input. No condition. -/
import Derived.Test.YtbemmmimelklkaaGreatTb
import Derived.Test.YtbemmmimelklkaaGreatFwL
import Derived.Test.YtbemmmimelklkaaGreatP3
namespace Go.Proofs.YtbemmmimelklkaaGreat
open Go Go.dg Go.fJ
set_option linter.unusedSimpArgs false
def ff (x : gO) : I := .agg [.int .i64 x.Kind, .int .i64 x.Value]
theorem SN (x : gO) : (ff x).share = ff x := by
 simp only [ff, du]
theorem avt (x : gO) : (ff x).cW = true := by
 simp only [ff, I.cW, I.hJ, Bool.and_self]
def ft (x : List gO) : I := .slice (x.map ff)
theorem Kq (x : List gO) : (ft x).share = ft x := by
 simp only [ft, du, @cp _ ff ff (fun _ => SN _)]
def fu (x : ic) : I := .agg [.int .i64 x.Kind, .int .i64 x.Number, .str x.Name, .slice (x.cr.map ft)]
theorem Kr (x : ic) : (fu x).share = fu x := by
 simp only [fu, du, @cp _ ft ft (fun _ => Kq _)]
def fL (x : h2) : I := .agg [.str x.Name, .int .i64 x.cZ, .slice (x.Body.map fu)]
theorem Ks (x : h2) : (fL x).share = fL x := by
 simp only [fL, du, @cp _ fu fu (fun _ => Kr _)]
def b3 (x : Int) : I := .int .i64 x
theorem sF (x : Int) : (b3 x).share = b3 x := by
 simp only [b3, du]
theorem Kt (x : Int) : (b3 x).cW = true := by
 simp only [b3, I.cW, I.hJ, Bool.and_self]
def fM (x : ie) : I := .agg [.int .i64 x.gP, .slice (x.fk.map b3)]
theorem Ku (x : ie) : (fM x).share = fM x := by
 simp only [fM, du, @cp _ b3 b3 (fun _ => sF _)]
def fE (x : h3) : I := .agg [.str x.Left, .str x.b_, .str x.Result]
theorem Kv (x : h3) : (fE x).share = fE x := by
 simp only [fE, du]
theorem avu (x : h3) : (fE x).cW = true := by
 simp only [fE, I.cW, I.hJ, Bool.and_self]
def bu (x : List UInt8) : I := .str x
theorem ji (x : List UInt8) : (bu x).share = bu x := by
 simp only [bu, du]
theorem Kw (x : List UInt8) : (bu x).cW = true := by
 simp only [bu, I.cW, I.hJ, Bool.and_self]
def iD (x : km) : I := .agg [.slice (x.bQ.map fL), .slice (x.cX.map fM), .slice (x.gX.map fE), .slice (x.gQ.map bu), .slice (x.gR.map bu)]
theorem avv (x : km) : (iD x).share = iD x := by
 simp only [iD, du, @cp _ fL fL (fun _ => Ks _), @cp _ fM fM (fun _ => Ku _), @cp _ fE fE (fun _ => Kv _), @cp _ bu bu (fun _ => ji _)]
def Fj (x : List h2) : I := .slice (x.map fL)
theorem avw (x : List h2) : (Fj x).share = Fj x := by
 simp only [Fj, du, @cp _ fL fL (fun _ => Ks _)]
def Fk (x : List ie) : I := .slice (x.map fM)
theorem avx (x : List ie) : (Fk x).share = Fk x := by
 simp only [Fk, du, @cp _ fM fM (fun _ => Ku _)]
def Fl (x : List h3) : I := .slice (x.map fE)
theorem avy (x : List h3) : (Fl x).share = Fl x := by
 simp only [Fl, du, @cp _ fE fE (fun _ => Kv _)]
def xS (x : List (List UInt8)) : I := .slice (x.map bu)
theorem avz (x : List (List UInt8)) : (xS x).share = xS x := by
 simp only [xS, du, @cp _ bu bu (fun _ => ji _)]
def Fm (x : List ic) : I := .slice (x.map fu)
theorem avA (x : List ic) : (Fm x).share = Fm x := by
 simp only [Fm, du, @cp _ fu fu (fun _ => Kr _)]
def Fo (x : List (List gO)) : I := .slice (x.map ft)
theorem avB (x : List (List gO)) : (Fo x).share = Fo x := by
 simp only [Fo, du, @cp _ ft ft (fun _ => Kq _)]
def eu (x : List Int) : I := .slice (x.map b3)
theorem uY (x : List Int) : (eu x).share = eu x := by
 simp only [eu, du, @cp _ b3 b3 (fun _ => sF _)]
def bP (x : bO) : I := .agg [.int .i64 x.Kind, .int .i64 x.Value]
theorem Fp (x : bO) : (bP x).share = bP x := by
 simp only [bP, du]
theorem SO (x : bO) : (bP x).cW = true := by
 simp only [bP, I.cW, I.hJ, Bool.and_self]
def ef (x : List bO) : I := .slice (x.map bP)
theorem Fq (x : List bO) : (ef x).share = ef x := by
 simp only [ef, du, @cp _ bP bP (fun _ => Fp _)]
def b4 (x : bx) : I := .agg [.int .i64 x.Kind, .int .i64 x.Number, .str x.Name, .slice (x.cr.map ef)]
theorem Fs (x : bx) : (b4 x).share = b4 x := by
 simp only [b4, du, @cp _ ef ef (fun _ => Fq _)]
def bf (x : a9) : I := .agg [.str x.Name, .int .i64 x.cZ, .slice (x.Body.map b4)]
theorem BW (x : a9) : (bf x).share = bf x := by
 simp only [bf, du, @cp _ b4 b4 (fun _ => Fs _)]
def fg (x : List bO) : I := .aw 2 (x.map bP)
theorem Ft (x : List bO) : (fg x).share = ef x := by
 simp only [fg, ef, du, @cp _ bP bP (fun _ => Fp _)]
theorem Kx (x : List bO) : (fg x).cW = true := by
 simp only [fg, I.cW, I.hJ, Bool.and_self, @kI _ bP (fun _ => SO _)]
def e_ (x : bx) : I := .agg [.int .i64 x.Kind, .int .i64 x.Number, .str x.Name, .aw 1 (x.cr.map fg)]
theorem Fu (x : bx) : (e_ x).share = b4 x := by
 simp only [e_, b4, du, @cp _ fg ef (fun _ => Ft _)]
theorem Ky (x : bx) : (e_ x).cW = true := by
 simp only [e_, I.cW, I.hJ, Bool.and_self, @kI _ fg (fun _ => Kx _)]
def eR (x : a9) : I := .agg [.str x.Name, .int .i64 x.cZ, .aw 4 (x.Body.map e_)]
theorem qT (x : a9) : (eR x).share = bf x := by
 simp only [eR, bf, du, @cp _ e_ b4 (fun _ => Fu _)]
theorem Kz (x : a9) : (eR x).cW = true := by
 simp only [eR, I.cW, I.hJ, Bool.and_self, @kI _ e_ (fun _ => Ky _)]
def BX (x : List bx) : I := .aw 4 (x.map e_)
def xT (x : List bx) : I := .slice (x.map b4)
theorem avC (x : List bx) : (xT x).share = xT x := by
 simp only [xT, du, @cp _ b4 b4 (fun _ => Fs _)]
theorem avD (x : List bx) : (BX x).share = xT x := by
 simp only [BX, xT, du, @cp _ e_ b4 (fun _ => Fu _)]
theorem avE (x : List bx) : (BX x).cW = true := by
 simp only [BX, I.cW, I.hJ, Bool.and_self, @kI _ e_ (fun _ => Ky _)]
def BZ (x : List (List bO)) : I := .aw 1 (x.map fg)
def xU (x : List (List bO)) : I := .slice (x.map ef)
theorem avF (x : List (List bO)) : (xU x).share = xU x := by
 simp only [xU, du, @cp _ ef ef (fun _ => Fq _)]
theorem avG (x : List (List bO)) : (BZ x).share = xU x := by
 simp only [BZ, xU, du, @cp _ fg ef (fun _ => Ft _)]
theorem avH (x : List (List bO)) : (BZ x).cW = true := by
 simp only [BZ, I.cW, I.hJ, Bool.and_self, @kI _ fg (fun _ => Kx _)]
def eN (x : c2) : I := .agg [.int .i64 x.gP, .slice (x.fk.map b3)]
theorem B0 (x : c2) : (eN x).share = eN x := by
 simp only [eN, du, @cp _ b3 b3 (fun _ => sF _)]
def eZ (x : c2) : I := .agg [.int .i64 x.gP, .aw 1 (x.fk.map b3)]
theorem qU (x : c2) : (eZ x).share = eN x := by
 simp only [eZ, eN, du, @cp _ b3 b3 (fun _ => sF _)]
theorem KA (x : c2) : (eZ x).cW = true := by
 simp only [eZ, I.cW, I.hJ, Bool.and_self, @kI _ b3 (fun _ => Kt _)]
def dp (x : List Int) : I := .aw 1 (x.map b3)
theorem o9 (x : List Int) : (dp x).share = eu x := by
 simp only [dp, eu, du, @cp _ b3 b3 (fun _ => sF _)]
theorem KB (x : List Int) : (dp x).cW = true := by
 simp only [dp, I.cW, I.hJ, Bool.and_self, @kI _ b3 (fun _ => Kt _)]
def bm (x : bR) : I := .agg [.str x.Left, .str x.b_, .str x.Result]
theorem nz (x : bR) : (bm x).share = bm x := by
 simp only [bm, du]
theorem KC (x : bR) : (bm x).cW = true := by
 simp only [bm, I.cW, I.hJ, Bool.and_self]
def mi (x : dU) : I := .agg [.aw 3 (x.bQ.map eR), .aw 2 (x.cX.map eZ), .aw 3 (x.gX.map bm), .aw 1 (x.gQ.map bu), .aw 1 (x.gR.map bu)]
def eO (x : dU) : I := .agg [.slice (x.bQ.map bf), .slice (x.cX.map eN), .slice (x.gX.map bm), .slice (x.gQ.map bu), .slice (x.gR.map bu)]
theorem SP (x : dU) : (eO x).share = eO x := by
 simp only [eO, du, @cp _ bf bf (fun _ => BW _), @cp _ eN eN (fun _ => B0 _), @cp _ bm bm (fun _ => nz _), @cp _ bu bu (fun _ => ji _)]
theorem SQ (x : dU) : (mi x).share = eO x := by
 simp only [mi, eO, du, @cp _ eR bf (fun _ => qT _), @cp _ eZ eN (fun _ => qU _), @cp _ bm bm (fun _ => nz _), @cp _ bu bu (fun _ => ji _)]
theorem avI (x : dU) : (mi x).cW = true := by
 simp only [mi, I.cW, I.hJ, Bool.and_self, @kI _ eR (fun _ => Kz _), @kI _ eZ (fun _ => KA _), @kI _ bm (fun _ => KC _), @kI _ bu (fun _ => Kw _)]
def B1 (x : List a9) : I := .aw 3 (x.map eR)
def xV (x : List a9) : I := .slice (x.map bf)
theorem avJ (x : List a9) : (xV x).share = xV x := by
 simp only [xV, du, @cp _ bf bf (fun _ => BW _)]
theorem avK (x : List a9) : (B1 x).share = xV x := by
 simp only [B1, xV, du, @cp _ eR bf (fun _ => qT _)]
theorem avL (x : List a9) : (B1 x).cW = true := by
 simp only [B1, I.cW, I.hJ, Bool.and_self, @kI _ eR (fun _ => Kz _)]
def B2 (x : List c2) : I := .aw 2 (x.map eZ)
def xW (x : List c2) : I := .slice (x.map eN)
theorem avM (x : List c2) : (xW x).share = xW x := by
 simp only [xW, du, @cp _ eN eN (fun _ => B0 _)]
theorem avN (x : List c2) : (B2 x).share = xW x := by
 simp only [B2, xW, du, @cp _ eZ eN (fun _ => qU _)]
theorem avO (x : List c2) : (B2 x).cW = true := by
 simp only [B2, I.cW, I.hJ, Bool.and_self, @kI _ eZ (fun _ => KA _)]
def B3 (x : List bR) : I := .aw 3 (x.map bm)
def xX (x : List bR) : I := .slice (x.map bm)
theorem avP (x : List bR) : (xX x).share = xX x := by
 simp only [xX, du, @cp _ bm bm (fun _ => nz _)]
theorem avQ (x : List bR) : (B3 x).share = xX x := by
 simp only [B3, xX, du, @cp _ bm bm (fun _ => nz _)]
theorem avR (x : List bR) : (B3 x).cW = true := by
 simp only [B3, I.cW, I.hJ, Bool.and_self, @kI _ bm (fun _ => KC _)]
def B4 (x : List (List UInt8)) : I := .aw 1 (x.map bu)
theorem avS (x : List (List UInt8)) : (B4 x).share = xS x := by
 simp only [B4, xS, du, @cp _ bu bu (fun _ => ji _)]
theorem avT (x : List (List UInt8)) : (B4 x).cW = true := by
 simp only [B4, I.cW, I.hJ, Bool.and_self, @kI _ bu (fun _ => Kw _)]
def db (x : cg) : I := .agg [.int .i64 x.scope, .bool x.behind]
theorem KD (x : cg) : (db x).share = db x := by
 simp only [db, du]
theorem SR (x : cg) : (db x).cW = true := by
 simp only [db, I.cW, I.hJ, Bool.and_self]
def xY (x : Bool) : I := .bool x
theorem avU (x : Bool) : (xY x).share = xY x := by
 simp only [xY, du]
theorem avV (x : Bool) : (xY x).cW = true := by
 simp only [xY, I.cW, I.hJ, Bool.and_self]
def SS : R := .seq (.U [ro 4 (.ag (.c (.int .i64 (-1))))] (some [4])) .ret
def SU : R := .cond (.t 10) SS .skip
def SV : R := .seq (.U [ro 11 (.ad (.t 1)),
 ro 4 (.ag (.t 11))] (some [4])) .ret
def SW : R := .seq (.seq (.U [ro 9 (.ad (.t 1)),
 ro 10 (.aq .lss 3 (.t 9) (.c (.int .i64 0)))] (some [1, 10])) SU) SV
def SX : R := .seq (.U [ro 5 (.ad (.t 1)),
 ro 6 (.ad (.t 0)),
 ro 7 (.len 139 (.t 6)),
 ro 8 (.aq .sub 3 (.t 5) (.t 7)),
 ro 1 (.ag (.t 8))] (some [1])) SW
def SY : R := .seq (.U [ro 4 (.ag (.c (.int .i64 0)))] (some [0, 1])) SX
theorem SZ : bw ⟨12, [0]⟩ (Tryz.f136.body.getD .skip) = some SY.strip := by kernel_rfl
def S0 : R := .seq (.U [ro 4 (.ag (.c (.int .i64 (-1))))] (some [4])) .ret
def S1 : R := .cond (.t 11) S0 .skip
def S2 : R := .cond (.t 15) .skip (.exit 0)
def S3 : R := .seq (.U [ro 4 (.ag (.c (.int .i64 (-1))))] (some [4])) .ret
def S4 : R := .cond (.t 25) S3 .skip
def S5 : R := .seq (.U [ro 24 (.ad (.t 1)),
 ro 25 (.aq .lss 3 (.t 24) (.c (.int .i64 0)))] (some [0, 1, 5, 25])) S4
def S6 : R := .U [ro 16 (.ad (.t 5)),
 ro 17 (.aq .add 3 (.t 16) (.c (.int .i64 1))),
 ro 5 (.ag (.t 17))] (some [0, 1, 5])
def S7 : R := .seq (.block 1 (.seq (.U [ro 18 (.ad (.t 0)),
 ro 19 (.ad (.t 5)),
 ro 20 (.bK 140 (.t 18) (.t 19)),
 ro 21 (.aD 139 (.t 20)),
 ro 22 (.ad (.t 1)),
 ro 23 (.call (.f 136) [(.t 21), (.t 22)]),
 ro 1 (.ag (.t 23))] (some [0, 1, 5])) S5)) S6
def KE : R := .seq (.seq (.U [ro 12 (.ad (.t 5)),
 ro 13 (.ad (.t 0)),
 ro 14 (.len 140 (.t 13)),
 ro 15 (.aq .lss 3 (.t 12) (.t 14))] (some [0, 1, 5, 15])) S2) S7
def S8 : R := .block 0 (.loop KE)
def S9 : R := .seq (.U [ro 26 (.ad (.t 1)),
 ro 4 (.ag (.t 26))] (some [4])) .ret
def S_ : R := .seq (.seq (.U [ro 5 (.ag (.c (.int .i64 0)))] (some [0, 1, 5])) S8) S9
def Ta : R := .seq (.seq (.U [ro 10 (.ad (.t 1)),
 ro 11 (.aq .lss 3 (.t 10) (.c (.int .i64 0)))] (some [0, 1, 11])) S1) S_
def Tb : R := .seq (.U [ro 6 (.ad (.t 1)),
 ro 7 (.ad (.t 0)),
 ro 8 (.len 140 (.t 7)),
 ro 9 (.aq .sub 3 (.t 6) (.t 8)),
 ro 1 (.ag (.t 9))] (some [0, 1])) Ta
def Tc : R := .seq (.U [ro 4 (.ag (.c (.int .i64 0)))] (some [0, 1])) Tb
theorem Td : bw ⟨27, [0]⟩ (Tryz.f137.body.getD .skip) = some Tc.strip := by kernel_rfl
def Te : R := .seq (.U [ro 4 (.ag (.c (.int .i64 (-1))))] (some [4])) .ret
def Tf : R := .cond (.t 11) Te .skip
def Tg : R := .seq (.U [ro 4 (.ag (.c (.int .i64 (-1))))] (some [4])) .ret
def Th : R := .cond (.t 17) Tg .skip
def Ti : R := .seq (.U [ro 18 (.ad (.t 1)),
 ro 4 (.ag (.t 18))] (some [4])) .ret
def Tj : R := .seq (.seq (.U [ro 16 (.ad (.t 1)),
 ro 17 (.aq .lss 3 (.t 16) (.c (.int .i64 0)))] (some [1, 17])) Th) Ti
def Tk : R := .seq (.U [ro 12 (.aU 209 (.t 2) 3),
 ro 13 (.aD 140 (.t 12)),
 ro 14 (.ad (.t 1)),
 ro 15 (.call (.f 137) [(.t 13), (.t 14)]),
 ro 1 (.ag (.t 15))] (some [1])) Tj
def Tl : R := .seq (.seq (.U [ro 10 (.ad (.t 1)),
 ro 11 (.aq .lss 3 (.t 10) (.c (.int .i64 0)))] (some [1, 2, 11])) Tf) Tk
def Tm : R := .seq (.U [ro 5 (.ad (.t 1)),
 ro 6 (.aU 209 (.t 2) 2),
 ro 7 (.aD 9 (.t 6)),
 ro 8 (.len 9 (.t 7)),
 ro 9 (.aq .sub 3 (.t 5) (.t 8)),
 ro 1 (.ag (.t 9))] (some [1, 2])) Tl
def Tn : R := .seq (.U [ro 2 (.c7 209 (.t 0)),
 ro 4 (.ag (.c (.int .i64 0)))] (some [1, 2])) Tm
theorem To : bw ⟨19, [0]⟩ (Tryz.f160.body.getD .skip) = some Tn.strip := by kernel_rfl
def Tp : R := .seq (.U [ro 4 (.ag (.c (.int .i64 (-1))))] (some [4])) .ret
def Tq : R := .cond (.t 11) Tp .skip
def Tr : R := .cond (.t 15) .skip (.exit 0)
def Ts : R := .seq (.U [ro 4 (.ag (.c (.int .i64 (-1))))] (some [4])) .ret
def Tt : R := .cond (.t 25) Ts .skip
def Tu : R := .seq (.U [ro 24 (.ad (.t 1)),
 ro 25 (.aq .lss 3 (.t 24) (.c (.int .i64 0)))] (some [0, 1, 5, 25])) Tt
def Tv : R := .U [ro 16 (.ad (.t 5)),
 ro 17 (.aq .add 3 (.t 16) (.c (.int .i64 1))),
 ro 5 (.ag (.t 17))] (some [0, 1, 5])
def Tw : R := .seq (.block 1 (.seq (.U [ro 18 (.ad (.t 0)),
 ro 19 (.ad (.t 5)),
 ro 20 (.bK 107 (.t 18) (.t 19)),
 ro 21 (.aD 209 (.t 20)),
 ro 22 (.ad (.t 1)),
 ro 23 (.call (.f 160) [(.t 21), (.t 22)]),
 ro 1 (.ag (.t 23))] (some [0, 1, 5])) Tu)) Tv
def KF : R := .seq (.seq (.U [ro 12 (.ad (.t 5)),
 ro 13 (.ad (.t 0)),
 ro 14 (.len 107 (.t 13)),
 ro 15 (.aq .lss 3 (.t 12) (.t 14))] (some [0, 1, 5, 15])) Tr) Tw
def Tx : R := .block 0 (.loop KF)
def Ty : R := .seq (.U [ro 26 (.ad (.t 1)),
 ro 4 (.ag (.t 26))] (some [4])) .ret
def Tz : R := .seq (.seq (.U [ro 5 (.ag (.c (.int .i64 0)))] (some [0, 1, 5])) Tx) Ty
def TA : R := .seq (.seq (.U [ro 10 (.ad (.t 1)),
 ro 11 (.aq .lss 3 (.t 10) (.c (.int .i64 0)))] (some [0, 1, 11])) Tq) Tz
def TB : R := .seq (.U [ro 6 (.ad (.t 1)),
 ro 7 (.ad (.t 0)),
 ro 8 (.len 107 (.t 7)),
 ro 9 (.aq .sub 3 (.t 6) (.t 8)),
 ro 1 (.ag (.t 9))] (some [0, 1])) TA
def TC : R := .seq (.U [ro 4 (.ag (.c (.int .i64 0)))] (some [0, 1])) TB
theorem TD : bw ⟨27, [0]⟩ (Tryz.f121.body.getD .skip) = some TC.strip := by kernel_rfl
def TE : R := .seq (.U [ro 4 (.ag (.c (.int .i64 (-1))))] (some [4])) .ret
def TF : R := .cond (.t 11) TE .skip
def TG : R := .seq (.U [ro 4 (.ag (.c (.int .i64 (-1))))] (some [4])) .ret
def TH : R := .cond (.t 17) TG .skip
def TI : R := .seq (.U [ro 18 (.ad (.t 1)),
 ro 4 (.ag (.t 18))] (some [4])) .ret
def TJ : R := .seq (.seq (.U [ro 16 (.ad (.t 1)),
 ro 17 (.aq .lss 3 (.t 16) (.c (.int .i64 0)))] (some [1, 17])) TH) TI
def TK : R := .seq (.U [ro 12 (.aU 109 (.t 2) 2),
 ro 13 (.aD 107 (.t 12)),
 ro 14 (.ad (.t 1)),
 ro 15 (.call (.f 121) [(.t 13), (.t 14)]),
 ro 1 (.ag (.t 15))] (some [1])) TJ
def TL : R := .seq (.seq (.U [ro 10 (.ad (.t 1)),
 ro 11 (.aq .lss 3 (.t 10) (.c (.int .i64 0)))] (some [1, 2, 11])) TF) TK
def TM : R := .seq (.U [ro 5 (.ad (.t 1)),
 ro 6 (.aU 109 (.t 2) 0),
 ro 7 (.aD 9 (.t 6)),
 ro 8 (.len 9 (.t 7)),
 ro 9 (.aq .sub 3 (.t 5) (.t 8)),
 ro 1 (.ag (.t 9))] (some [1, 2])) TL
def TN : R := .seq (.U [ro 2 (.c7 109 (.t 0)),
 ro 4 (.ag (.c (.int .i64 0)))] (some [1, 2])) TM
theorem TO : bw ⟨19, [0]⟩ (Tryz.f72.body.getD .skip) = some TN.strip := by kernel_rfl
def TP : R := .seq (.U [ro 4 (.ag (.c (.int .i64 (-1))))] (some [4])) .ret
def TQ : R := .cond (.t 11) TP .skip
def TR : R := .cond (.t 15) .skip (.exit 0)
def TS : R := .seq (.U [ro 4 (.ag (.c (.int .i64 (-1))))] (some [4])) .ret
def TT : R := .cond (.t 25) TS .skip
def TU : R := .seq (.U [ro 24 (.ad (.t 1)),
 ro 25 (.aq .lss 3 (.t 24) (.c (.int .i64 0)))] (some [0, 1, 5, 25])) TT
def TV : R := .U [ro 16 (.ad (.t 5)),
 ro 17 (.aq .add 3 (.t 16) (.c (.int .i64 1))),
 ro 5 (.ag (.t 17))] (some [0, 1, 5])
def TW : R := .seq (.block 1 (.seq (.U [ro 18 (.ad (.t 0)),
 ro 19 (.ad (.t 5)),
 ro 20 (.bK 22 (.t 18) (.t 19)),
 ro 21 (.aD 109 (.t 20)),
 ro 22 (.ad (.t 1)),
 ro 23 (.call (.f 72) [(.t 21), (.t 22)]),
 ro 1 (.ag (.t 23))] (some [0, 1, 5])) TU)) TV
def KG : R := .seq (.seq (.U [ro 12 (.ad (.t 5)),
 ro 13 (.ad (.t 0)),
 ro 14 (.len 22 (.t 13)),
 ro 15 (.aq .lss 3 (.t 12) (.t 14))] (some [0, 1, 5, 15])) TR) TW
def TX : R := .block 0 (.loop KG)
def TY : R := .seq (.U [ro 26 (.ad (.t 1)),
 ro 4 (.ag (.t 26))] (some [4])) .ret
def TZ : R := .seq (.seq (.U [ro 5 (.ag (.c (.int .i64 0)))] (some [0, 1, 5])) TX) TY
def T0 : R := .seq (.seq (.U [ro 10 (.ad (.t 1)),
 ro 11 (.aq .lss 3 (.t 10) (.c (.int .i64 0)))] (some [0, 1, 11])) TQ) TZ
def T1 : R := .seq (.U [ro 6 (.ad (.t 1)),
 ro 7 (.ad (.t 0)),
 ro 8 (.len 22 (.t 7)),
 ro 9 (.aq .sub 3 (.t 6) (.t 8)),
 ro 1 (.ag (.t 9))] (some [0, 1])) T0
def T2 : R := .seq (.U [ro 4 (.ag (.c (.int .i64 0)))] (some [0, 1])) T1
theorem xZ : bw ⟨27, [0]⟩ (Tryz.f33.body.getD .skip) = some T2.strip := by kernel_rfl
def T3 : R := .seq (.U [ro 4 (.ag (.c (.int .i64 (-1))))] (some [4])) .ret
def T4 : R := .cond (.t 10) T3 .skip
def T5 : R := .seq (.U [ro 11 (.ad (.t 1)),
 ro 4 (.ag (.t 11))] (some [4])) .ret
def T6 : R := .seq (.seq (.U [ro 9 (.ad (.t 1)),
 ro 10 (.aq .lss 3 (.t 9) (.c (.int .i64 0)))] (some [1, 10])) T4) T5
def T7 : R := .seq (.U [ro 5 (.ad (.t 1)),
 ro 6 (.ad (.t 0)),
 ro 7 (.len 43 (.t 6)),
 ro 8 (.aq .sub 3 (.t 5) (.t 7)),
 ro 1 (.ag (.t 8))] (some [1])) T6
def T8 : R := .seq (.U [ro 4 (.ag (.c (.int .i64 0)))] (some [0, 1])) T7
theorem x0 : bw ⟨12, [0]⟩ (Tryz.f53.body.getD .skip) = some T8.strip := by kernel_rfl
def T9 : R := .seq (.U [ro 4 (.ag (.c (.int .i64 (-1))))] (some [4])) .ret
def T_ : R := .cond (.t 10) T9 .skip
def Ua : R := .seq (.U [ro 11 (.ad (.t 1)),
 ro 4 (.ag (.t 11))] (some [4])) .ret
def Ub : R := .seq (.seq (.U [ro 9 (.ad (.t 1)),
 ro 10 (.aq .lss 3 (.t 9) (.c (.int .i64 0)))] (some [1, 10])) T_) Ua
def Uc : R := .seq (.U [ro 5 (.aU 112 (.t 2) 1),
 ro 6 (.aD 43 (.t 5)),
 ro 7 (.ad (.t 1)),
 ro 8 (.call (.f 53) [(.t 6), (.t 7)]),
 ro 1 (.ag (.t 8))] (some [1])) Ub
def Ud : R := .seq (.U [ro 2 (.c7 112 (.t 0)),
 ro 4 (.ag (.c (.int .i64 0)))] (some [1, 2])) Uc
theorem Ue : bw ⟨12, [0]⟩ (Tryz.f73.body.getD .skip) = some Ud.strip := by kernel_rfl
def Uf : R := .seq (.U [ro 4 (.ag (.c (.int .i64 (-1))))] (some [4])) .ret
def Ug : R := .cond (.t 11) Uf .skip
def Uh : R := .cond (.t 15) .skip (.exit 0)
def Ui : R := .seq (.U [ro 4 (.ag (.c (.int .i64 (-1))))] (some [4])) .ret
def Uj : R := .cond (.t 25) Ui .skip
def Uk : R := .seq (.U [ro 24 (.ad (.t 1)),
 ro 25 (.aq .lss 3 (.t 24) (.c (.int .i64 0)))] (some [0, 1, 5, 25])) Uj
def Ul : R := .U [ro 16 (.ad (.t 5)),
 ro 17 (.aq .add 3 (.t 16) (.c (.int .i64 1))),
 ro 5 (.ag (.t 17))] (some [0, 1, 5])
def Um : R := .seq (.block 1 (.seq (.U [ro 18 (.ad (.t 0)),
 ro 19 (.ad (.t 5)),
 ro 20 (.bK 23 (.t 18) (.t 19)),
 ro 21 (.aD 112 (.t 20)),
 ro 22 (.ad (.t 1)),
 ro 23 (.call (.f 73) [(.t 21), (.t 22)]),
 ro 1 (.ag (.t 23))] (some [0, 1, 5])) Uk)) Ul
def KH : R := .seq (.seq (.U [ro 12 (.ad (.t 5)),
 ro 13 (.ad (.t 0)),
 ro 14 (.len 23 (.t 13)),
 ro 15 (.aq .lss 3 (.t 12) (.t 14))] (some [0, 1, 5, 15])) Uh) Um
def Un : R := .block 0 (.loop KH)
def Uo : R := .seq (.U [ro 26 (.ad (.t 1)),
 ro 4 (.ag (.t 26))] (some [4])) .ret
def Up : R := .seq (.seq (.U [ro 5 (.ag (.c (.int .i64 0)))] (some [0, 1, 5])) Un) Uo
def Uq : R := .seq (.seq (.U [ro 10 (.ad (.t 1)),
 ro 11 (.aq .lss 3 (.t 10) (.c (.int .i64 0)))] (some [0, 1, 11])) Ug) Up
def Ur : R := .seq (.U [ro 6 (.ad (.t 1)),
 ro 7 (.ad (.t 0)),
 ro 8 (.len 23 (.t 7)),
 ro 9 (.aq .sub 3 (.t 6) (.t 8)),
 ro 1 (.ag (.t 9))] (some [0, 1])) Uq
def Us : R := .seq (.U [ro 4 (.ag (.c (.int .i64 0)))] (some [0, 1])) Ur
theorem x1 : bw ⟨27, [0]⟩ (Tryz.f34.body.getD .skip) = some Us.strip := by kernel_rfl
def Ut : R := .seq (.U [ro 4 (.ag (.c (.int .i64 (-1))))] (some [4])) .ret
def Uu : R := .cond (.t 11) Ut .skip
def Uv : R := .seq (.U [ro 4 (.ag (.c (.int .i64 (-1))))] (some [4])) .ret
def Uw : R := .cond (.t 18) Uv .skip
def Ux : R := .seq (.U [ro 4 (.ag (.c (.int .i64 (-1))))] (some [4])) .ret
def Uy : R := .cond (.t 25) Ux .skip
def Uz : R := .seq (.U [ro 26 (.ad (.t 1)),
 ro 4 (.ag (.t 26))] (some [4])) .ret
def UA : R := .seq (.seq (.U [ro 24 (.ad (.t 1)),
 ro 25 (.aq .lss 3 (.t 24) (.c (.int .i64 0)))] (some [1, 25])) Uy) Uz
def UB : R := .seq (.U [ro 19 (.ad (.t 1)),
 ro 20 (.aU 115 (.t 2) 2),
 ro 21 (.aD 9 (.t 20)),
 ro 22 (.len 9 (.t 21)),
 ro 23 (.aq .sub 3 (.t 19) (.t 22)),
 ro 1 (.ag (.t 23))] (some [1])) UA
def UC : R := .seq (.seq (.U [ro 17 (.ad (.t 1)),
 ro 18 (.aq .lss 3 (.t 17) (.c (.int .i64 0)))] (some [1, 2, 18])) Uw) UB
def UD : R := .seq (.U [ro 12 (.ad (.t 1)),
 ro 13 (.aU 115 (.t 2) 1),
 ro 14 (.aD 9 (.t 13)),
 ro 15 (.len 9 (.t 14)),
 ro 16 (.aq .sub 3 (.t 12) (.t 15)),
 ro 1 (.ag (.t 16))] (some [1, 2])) UC
def UE : R := .seq (.seq (.U [ro 10 (.ad (.t 1)),
 ro 11 (.aq .lss 3 (.t 10) (.c (.int .i64 0)))] (some [1, 2, 11])) Uu) UD
def UF : R := .seq (.U [ro 5 (.ad (.t 1)),
 ro 6 (.aU 115 (.t 2) 0),
 ro 7 (.aD 9 (.t 6)),
 ro 8 (.len 9 (.t 7)),
 ro 9 (.aq .sub 3 (.t 5) (.t 8)),
 ro 1 (.ag (.t 9))] (some [1, 2])) UE
def UG : R := .seq (.U [ro 2 (.c7 115 (.t 0)),
 ro 4 (.ag (.c (.int .i64 0)))] (some [1, 2])) UF
theorem UH : bw ⟨27, [0]⟩ (Tryz.f74.body.getD .skip) = some UG.strip := by kernel_rfl
def UI : R := .seq (.U [ro 4 (.ag (.c (.int .i64 (-1))))] (some [4])) .ret
def UJ : R := .cond (.t 11) UI .skip
def UK : R := .cond (.t 15) .skip (.exit 0)
def UL : R := .seq (.U [ro 4 (.ag (.c (.int .i64 (-1))))] (some [4])) .ret
def UM : R := .cond (.t 25) UL .skip
def UN : R := .seq (.U [ro 24 (.ad (.t 1)),
 ro 25 (.aq .lss 3 (.t 24) (.c (.int .i64 0)))] (some [0, 1, 5, 25])) UM
def UO : R := .U [ro 16 (.ad (.t 5)),
 ro 17 (.aq .add 3 (.t 16) (.c (.int .i64 1))),
 ro 5 (.ag (.t 17))] (some [0, 1, 5])
def UP : R := .seq (.block 1 (.seq (.U [ro 18 (.ad (.t 0)),
 ro 19 (.ad (.t 5)),
 ro 20 (.bK 24 (.t 18) (.t 19)),
 ro 21 (.aD 115 (.t 20)),
 ro 22 (.ad (.t 1)),
 ro 23 (.call (.f 74) [(.t 21), (.t 22)]),
 ro 1 (.ag (.t 23))] (some [0, 1, 5])) UN)) UO
def KI : R := .seq (.seq (.U [ro 12 (.ad (.t 5)),
 ro 13 (.ad (.t 0)),
 ro 14 (.len 24 (.t 13)),
 ro 15 (.aq .lss 3 (.t 12) (.t 14))] (some [0, 1, 5, 15])) UK) UP
def UQ : R := .block 0 (.loop KI)
def UR : R := .seq (.U [ro 26 (.ad (.t 1)),
 ro 4 (.ag (.t 26))] (some [4])) .ret
def US : R := .seq (.seq (.U [ro 5 (.ag (.c (.int .i64 0)))] (some [0, 1, 5])) UQ) UR
def UT : R := .seq (.seq (.U [ro 10 (.ad (.t 1)),
 ro 11 (.aq .lss 3 (.t 10) (.c (.int .i64 0)))] (some [0, 1, 11])) UJ) US
def UU : R := .seq (.U [ro 6 (.ad (.t 1)),
 ro 7 (.ad (.t 0)),
 ro 8 (.len 24 (.t 7)),
 ro 9 (.aq .sub 3 (.t 6) (.t 8)),
 ro 1 (.ag (.t 9))] (some [0, 1])) UT
def UW : R := .seq (.U [ro 4 (.ag (.c (.int .i64 0)))] (some [0, 1])) UU
theorem UX : bw ⟨27, [0]⟩ (Tryz.f35.body.getD .skip) = some UW.strip := by kernel_rfl
def UY : R := .seq (.U [ro 4 (.ag (.c (.int .i64 (-1))))] (some [4])) .ret
def UZ : R := .cond (.t 11) UY .skip
def U0 : R := .cond (.t 15) .skip (.exit 0)
def U1 : R := .seq (.U [ro 4 (.ag (.c (.int .i64 (-1))))] (some [4])) .ret
def U2 : R := .cond (.t 26) U1 .skip
def U3 : R := .seq (.U [ro 25 (.ad (.t 1)),
 ro 26 (.aq .lss 3 (.t 25) (.c (.int .i64 0)))] (some [0, 1, 5, 26])) U2
def U4 : R := .U [ro 16 (.ad (.t 5)),
 ro 17 (.aq .add 3 (.t 16) (.c (.int .i64 1))),
 ro 5 (.ag (.t 17))] (some [0, 1, 5])
def U5 : R := .seq (.block 1 (.seq (.U [ro 18 (.ad (.t 1)),
 ro 19 (.ad (.t 0)),
 ro 20 (.ad (.t 5)),
 ro 21 (.bK 25 (.t 19) (.t 20)),
 ro 22 (.aD 9 (.t 21)),
 ro 23 (.len 9 (.t 22)),
 ro 24 (.aq .sub 3 (.t 18) (.t 23)),
 ro 1 (.ag (.t 24))] (some [0, 1, 5])) U3)) U4
def KJ : R := .seq (.seq (.U [ro 12 (.ad (.t 5)),
 ro 13 (.ad (.t 0)),
 ro 14 (.len 25 (.t 13)),
 ro 15 (.aq .lss 3 (.t 12) (.t 14))] (some [0, 1, 5, 15])) U0) U5
def U6 : R := .block 0 (.loop KJ)
def U7 : R := .seq (.U [ro 27 (.ad (.t 1)),
 ro 4 (.ag (.t 27))] (some [4])) .ret
def U8 : R := .seq (.seq (.U [ro 5 (.ag (.c (.int .i64 0)))] (some [0, 1, 5])) U6) U7
def U9 : R := .seq (.seq (.U [ro 10 (.ad (.t 1)),
 ro 11 (.aq .lss 3 (.t 10) (.c (.int .i64 0)))] (some [0, 1, 11])) UZ) U8
def U_ : R := .seq (.U [ro 6 (.ad (.t 1)),
 ro 7 (.ad (.t 0)),
 ro 8 (.len 25 (.t 7)),
 ro 9 (.aq .sub 3 (.t 6) (.t 8)),
 ro 1 (.ag (.t 9))] (some [0, 1])) U9
def Va : R := .seq (.U [ro 4 (.ag (.c (.int .i64 0)))] (some [0, 1])) U_
theorem od : bw ⟨28, [0]⟩ (Tryz.f36.body.getD .skip) = some Va.strip := by kernel_rfl
def Vb : R := .seq (.U [ro 4 (.ag (.c (.int .i64 (-1))))] (some [4])) .ret
def Vc : R := .cond (.t 10) Vb .skip
def Vd : R := .seq (.U [ro 4 (.ag (.c (.int .i64 (-1))))] (some [4])) .ret
def Ve : R := .cond (.t 16) Vd .skip
def Vf : R := .seq (.U [ro 4 (.ag (.c (.int .i64 (-1))))] (some [4])) .ret
def Vg : R := .cond (.t 22) Vf .skip
def Vh : R := .seq (.U [ro 4 (.ag (.c (.int .i64 (-1))))] (some [4])) .ret
def Vi : R := .cond (.t 28) Vh .skip
def Vj : R := .seq (.U [ro 4 (.ag (.c (.int .i64 (-1))))] (some [4])) .ret
def Vk : R := .cond (.t 34) Vj .skip
def Vl : R := .seq (.U [ro 35 (.ad (.t 1)),
 ro 4 (.ag (.t 35))] (some [4])) .ret
def Vm : R := .seq (.seq (.U [ro 33 (.ad (.t 1)),
 ro 34 (.aq .lss 3 (.t 33) (.c (.int .i64 0)))] (some [1, 34])) Vk) Vl
def Vn : R := .seq (.U [ro 29 (.aU 27 (.t 2) 4),
 ro 30 (.aD 25 (.t 29)),
 ro 31 (.ad (.t 1)),
 ro 32 (.call (.f 36) [(.t 30), (.t 31)]),
 ro 1 (.ag (.t 32))] (some [1])) Vm
def Vo : R := .seq (.seq (.U [ro 27 (.ad (.t 1)),
 ro 28 (.aq .lss 3 (.t 27) (.c (.int .i64 0)))] (some [1, 2, 28])) Vi) Vn
def Vp : R := .seq (.U [ro 23 (.aU 27 (.t 2) 3),
 ro 24 (.aD 25 (.t 23)),
 ro 25 (.ad (.t 1)),
 ro 26 (.call (.f 36) [(.t 24), (.t 25)]),
 ro 1 (.ag (.t 26))] (some [1, 2])) Vo
def Vq : R := .seq (.seq (.U [ro 21 (.ad (.t 1)),
 ro 22 (.aq .lss 3 (.t 21) (.c (.int .i64 0)))] (some [1, 2, 22])) Vg) Vp
def Vr : R := .seq (.U [ro 17 (.aU 27 (.t 2) 2),
 ro 18 (.aD 24 (.t 17)),
 ro 19 (.ad (.t 1)),
 ro 20 (.call (.f 35) [(.t 18), (.t 19)]),
 ro 1 (.ag (.t 20))] (some [1, 2])) Vq
def Vs : R := .seq (.seq (.U [ro 15 (.ad (.t 1)),
 ro 16 (.aq .lss 3 (.t 15) (.c (.int .i64 0)))] (some [1, 2, 16])) Ve) Vr
def Vt : R := .seq (.U [ro 11 (.aU 27 (.t 2) 1),
 ro 12 (.aD 23 (.t 11)),
 ro 13 (.ad (.t 1)),
 ro 14 (.call (.f 34) [(.t 12), (.t 13)]),
 ro 1 (.ag (.t 14))] (some [1, 2])) Vs
def Vu : R := .seq (.seq (.U [ro 9 (.ad (.t 1)),
 ro 10 (.aq .lss 3 (.t 9) (.c (.int .i64 0)))] (some [1, 2, 10])) Vc) Vt
def Vv : R := .seq (.U [ro 5 (.aU 27 (.t 2) 0),
 ro 6 (.aD 22 (.t 5)),
 ro 7 (.ad (.t 1)),
 ro 8 (.call (.f 33) [(.t 6), (.t 7)]),
 ro 1 (.ag (.t 8))] (some [1, 2])) Vu
def DP : R := .seq (.U [ro 2 (.c7 27 (.t 0)),
 ro 4 (.ag (.c (.int .i64 0)))] (some [1, 2])) Vv
theorem Vw : bw ⟨36, [0]⟩ (Tryz.f7.body.getD .skip) = some DP.strip := by kernel_rfl
def Vx : R := .seq (.U [ro 10 (.aD 191 (.t 3)),
 ⟨none, .cC 191 (.t 2) (.t 10), none⟩] (some [2])) .ret
def Vy : R := .seq (.U [ro 7 (.aU 226 (.t 1) 1),
 ro 8 (.aD 2 (.t 7)),
 ro 9 (.aU 191 (.t 3) 1),
 ⟨none, .cC 2 (.t 9) (.t 8), none⟩] (some [2, 3])) Vx
def Vz : R := .seq (.U [ro 4 (.aU 226 (.t 1) 0),
 ro 5 (.aD 2 (.t 4)),
 ro 6 (.aU 191 (.t 3) 0),
 ⟨none, .cC 2 (.t 6) (.t 5), none⟩] (some [1, 2, 3])) Vy
def VA : R := .seq (.U [ro 3 (.ey 191)] (some [1, 2, 3])) Vz
def VB : R := .seq (.U [ro 1 (.c7 226 (.t 0)),
 ro 2 (.ey 191)] (some [1, 2])) VA
theorem VC : bw ⟨11, [0]⟩ (Tryz.f177.body.getD .skip) = some VB.strip := by kernel_rfl
def VD : R := .cond (.t 11) .skip (.exit 0)
def VE : R := .U [ro 12 (.ad (.t 4)),
 ro 13 (.aq .add 3 (.t 12) (.c (.int .i64 1))),
 ro 4 (.ag (.t 13))] (some [0, 3, 4])
def VF : R := .seq (.block 1 (.U [ro 14 (.ad (.t 3)),
 ro 15 (.ad (.t 4)),
 ro 16 (.ad (.t 0)),
 ro 17 (.ad (.t 4)),
 ro 18 (.bK 139 (.t 16) (.t 17)),
 ro 19 (.aD 226 (.t 18)),
 ro 20 (.call (.f 177) [(.t 19)]),
 ro 21 (.bK 147 (.t 14) (.t 15)),
 ⟨none, .cC 191 (.t 21) (.t 20), none⟩] (some [0, 3, 4]))) VE
def KK : R := .seq (.seq (.U [ro 8 (.ad (.t 4)),
 ro 9 (.ad (.t 0)),
 ro 10 (.len 139 (.t 9)),
 ro 11 (.aq .lss 3 (.t 8) (.t 10))] (some [0, 3, 4, 11])) VD) VF
def VG : R := .block 0 (.loop KK)
def VH : R := .seq (.U [ro 22 (.ad (.t 3)),
 ro 2 (.ag (.t 22))] (some [2])) .ret
def VI : R := .seq (.seq (.U [ro 4 (.ag (.c (.int .i64 0)))] (some [0, 3, 4])) VG) VH
def VJ : R := .seq (.U [ro 5 (.ad (.t 0)),
 ro 6 (.len 139 (.t 5)),
 ro 7 (.eU 147 (.t 6) (.t 6)),
 ro 3 (.ag (.t 7))] (some [0, 3])) VI
def VK : R := .seq (.U [ro 2 (.ag (.c .bg))] (some [0])) VJ
theorem VL : bw ⟨23, [0]⟩ (Tryz.f144.body.getD .skip) = some VK.strip := by kernel_rfl
def VM : R := .cond (.t 11) .skip (.exit 0)
def VN : R := .U [ro 12 (.ad (.t 4)),
 ro 13 (.aq .add 3 (.t 12) (.c (.int .i64 1))),
 ro 4 (.ag (.t 13))] (some [0, 3, 4])
def VO : R := .seq (.block 1 (.U [ro 14 (.ad (.t 3)),
 ro 15 (.ad (.t 4)),
 ro 16 (.ad (.t 0)),
 ro 17 (.ad (.t 4)),
 ro 18 (.bK 140 (.t 16) (.t 17)),
 ro 19 (.aD 139 (.t 18)),
 ro 20 (.call (.f 144) [(.t 19)]),
 ro 21 (.bK 120 (.t 14) (.t 15)),
 ⟨none, .cC 147 (.t 21) (.t 20), none⟩] (some [0, 3, 4]))) VN
def KL : R := .seq (.seq (.U [ro 8 (.ad (.t 4)),
 ro 9 (.ad (.t 0)),
 ro 10 (.len 140 (.t 9)),
 ro 11 (.aq .lss 3 (.t 8) (.t 10))] (some [0, 3, 4, 11])) VM) VO
def VP : R := .block 0 (.loop KL)
def VQ : R := .seq (.U [ro 22 (.ad (.t 3)),
 ro 2 (.ag (.t 22))] (some [2])) .ret
def VR : R := .seq (.seq (.U [ro 4 (.ag (.c (.int .i64 0)))] (some [0, 3, 4])) VP) VQ
def VS : R := .seq (.U [ro 5 (.ad (.t 0)),
 ro 6 (.len 140 (.t 5)),
 ro 7 (.eU 120 (.t 6) (.t 6)),
 ro 3 (.ag (.t 7))] (some [0, 3])) VR
def VT : R := .seq (.U [ro 2 (.ag (.c .bg))] (some [0])) VS
theorem VU : bw ⟨23, [0]⟩ (Tryz.f145.body.getD .skip) = some VT.strip := by kernel_rfl
def VV : R := .seq (.U [ro 17 (.aD 122 (.t 3)),
 ⟨none, .cC 122 (.t 2) (.t 17), none⟩] (some [2])) .ret
def VW : R := .seq (.U [ro 13 (.aU 209 (.t 1) 3),
 ro 14 (.aD 140 (.t 13)),
 ro 15 (.call (.f 145) [(.t 14)]),
 ro 16 (.aU 122 (.t 3) 3),
 ⟨none, .cC 120 (.t 16) (.t 15), none⟩] (some [2, 3])) VV
def VX : R := .seq (.U [ro 10 (.aU 209 (.t 1) 2),
 ro 11 (.aD 9 (.t 10)),
 ro 12 (.aU 122 (.t 3) 2),
 ⟨none, .cC 9 (.t 12) (.t 11), none⟩] (some [1, 2, 3])) VW
def VY : R := .seq (.U [ro 7 (.aU 209 (.t 1) 1),
 ro 8 (.aD 2 (.t 7)),
 ro 9 (.aU 122 (.t 3) 1),
 ⟨none, .cC 2 (.t 9) (.t 8), none⟩] (some [1, 2, 3])) VX
def VZ : R := .seq (.U [ro 4 (.aU 209 (.t 1) 0),
 ro 5 (.aD 2 (.t 4)),
 ro 6 (.aU 122 (.t 3) 0),
 ⟨none, .cC 2 (.t 6) (.t 5), none⟩] (some [1, 2, 3])) VY
def V0 : R := .seq (.U [ro 3 (.ey 122)] (some [1, 2, 3])) VZ
def V1 : R := .seq (.U [ro 1 (.c7 209 (.t 0)),
 ro 2 (.ey 122)] (some [1, 2])) V0
theorem V2 : bw ⟨18, [0]⟩ (Tryz.f164.body.getD .skip) = some V1.strip := by kernel_rfl
def V3 : R := .cond (.t 11) .skip (.exit 0)
def V4 : R := .U [ro 12 (.ad (.t 4)),
 ro 13 (.aq .add 3 (.t 12) (.c (.int .i64 1))),
 ro 4 (.ag (.t 13))] (some [0, 3, 4])
def V5 : R := .seq (.block 1 (.U [ro 14 (.ad (.t 3)),
 ro 15 (.ad (.t 4)),
 ro 16 (.ad (.t 0)),
 ro 17 (.ad (.t 4)),
 ro 18 (.bK 107 (.t 16) (.t 17)),
 ro 19 (.aD 209 (.t 18)),
 ro 20 (.call (.f 164) [(.t 19)]),
 ro 21 (.bK 117 (.t 14) (.t 15)),
 ⟨none, .cC 122 (.t 21) (.t 20), none⟩] (some [0, 3, 4]))) V4
def KM : R := .seq (.seq (.U [ro 8 (.ad (.t 4)),
 ro 9 (.ad (.t 0)),
 ro 10 (.len 107 (.t 9)),
 ro 11 (.aq .lss 3 (.t 8) (.t 10))] (some [0, 3, 4, 11])) V3) V5
def V6 : R := .block 0 (.loop KM)
def V7 : R := .seq (.U [ro 22 (.ad (.t 3)),
 ro 2 (.ag (.t 22))] (some [2])) .ret
def V8 : R := .seq (.seq (.U [ro 4 (.ag (.c (.int .i64 0)))] (some [0, 3, 4])) V6) V7
def V9 : R := .seq (.U [ro 5 (.ad (.t 0)),
 ro 6 (.len 107 (.t 5)),
 ro 7 (.eU 117 (.t 6) (.t 6)),
 ro 3 (.ag (.t 7))] (some [0, 3])) V8
def V_ : R := .seq (.U [ro 2 (.ag (.c .bg))] (some [0])) V9
theorem Wa : bw ⟨23, [0]⟩ (Tryz.f126.body.getD .skip) = some V_.strip := by kernel_rfl
def Wb : R := .seq (.U [ro 14 (.aD 119 (.t 3)),
 ⟨none, .cC 119 (.t 2) (.t 14), none⟩] (some [2])) .ret
def Wc : R := .seq (.U [ro 10 (.aU 109 (.t 1) 2),
 ro 11 (.aD 107 (.t 10)),
 ro 12 (.call (.f 126) [(.t 11)]),
 ro 13 (.aU 119 (.t 3) 2),
 ⟨none, .cC 117 (.t 13) (.t 12), none⟩] (some [2, 3])) Wb
def Wd : R := .seq (.U [ro 7 (.aU 109 (.t 1) 1),
 ro 8 (.aD 2 (.t 7)),
 ro 9 (.aU 119 (.t 3) 1),
 ⟨none, .cC 2 (.t 9) (.t 8), none⟩] (some [1, 2, 3])) Wc
def We : R := .seq (.U [ro 4 (.aU 109 (.t 1) 0),
 ro 5 (.aD 9 (.t 4)),
 ro 6 (.aU 119 (.t 3) 0),
 ⟨none, .cC 9 (.t 6) (.t 5), none⟩] (some [1, 2, 3])) Wd
def Wf : R := .seq (.U [ro 3 (.ey 119)] (some [1, 2, 3])) We
def Wg : R := .seq (.U [ro 1 (.c7 109 (.t 0)),
 ro 2 (.ey 119)] (some [1, 2])) Wf
theorem Wh : bw ⟨15, [0]⟩ (Tryz.f76.body.getD .skip) = some Wg.strip := by kernel_rfl
def Wi : R := .cond (.t 11) .skip (.exit 0)
def Wj : R := .U [ro 12 (.ad (.t 4)),
 ro 13 (.aq .add 3 (.t 12) (.c (.int .i64 1))),
 ro 4 (.ag (.t 13))] (some [0, 3, 4])
def Wk : R := .seq (.block 1 (.U [ro 14 (.ad (.t 3)),
 ro 15 (.ad (.t 4)),
 ro 16 (.ad (.t 0)),
 ro 17 (.ad (.t 4)),
 ro 18 (.bK 22 (.t 16) (.t 17)),
 ro 19 (.aD 109 (.t 18)),
 ro 20 (.call (.f 76) [(.t 19)]),
 ro 21 (.bK 32 (.t 14) (.t 15)),
 ⟨none, .cC 119 (.t 21) (.t 20), none⟩] (some [0, 3, 4]))) Wj
def KN : R := .seq (.seq (.U [ro 8 (.ad (.t 4)),
 ro 9 (.ad (.t 0)),
 ro 10 (.len 22 (.t 9)),
 ro 11 (.aq .lss 3 (.t 8) (.t 10))] (some [0, 3, 4, 11])) Wi) Wk
def Wl : R := .block 0 (.loop KN)
def Wm : R := .seq (.U [ro 22 (.ad (.t 3)),
 ro 2 (.ag (.t 22))] (some [2])) .ret
def Wn : R := .seq (.seq (.U [ro 4 (.ag (.c (.int .i64 0)))] (some [0, 3, 4])) Wl) Wm
def Wo : R := .seq (.U [ro 5 (.ad (.t 0)),
 ro 6 (.len 22 (.t 5)),
 ro 7 (.eU 32 (.t 6) (.t 6)),
 ro 3 (.ag (.t 7))] (some [0, 3])) Wn
def Wp : R := .seq (.U [ro 2 (.ag (.c .bg))] (some [0])) Wo
theorem Wq : bw ⟨23, [0]⟩ (Tryz.f39.body.getD .skip) = some Wp.strip := by kernel_rfl
def Wr : R := .cond (.t 11) .skip (.exit 0)
def Ws : R := .U [ro 12 (.ad (.t 4)),
 ro 13 (.aq .add 3 (.t 12) (.c (.int .i64 1))),
 ro 4 (.ag (.t 13))] (some [0, 3, 4])
def Wt : R := .seq (.block 1 (.U [ro 14 (.ad (.t 3)),
 ro 15 (.ad (.t 4)),
 ro 16 (.ad (.t 0)),
 ro 17 (.ad (.t 4)),
 ro 18 (.bK 43 (.t 16) (.t 17)),
 ro 19 (.aD 2 (.t 18)),
 ro 20 (.bK 43 (.t 14) (.t 15)),
 ⟨none, .cC 2 (.t 20) (.t 19), none⟩] (some [0, 3, 4]))) Ws
def KO : R := .seq (.seq (.U [ro 8 (.ad (.t 4)),
 ro 9 (.ad (.t 0)),
 ro 10 (.len 43 (.t 9)),
 ro 11 (.aq .lss 3 (.t 8) (.t 10))] (some [0, 3, 4, 11])) Wr) Wt
def Wu : R := .block 0 (.loop KO)
def Wv : R := .seq (.U [ro 21 (.ad (.t 3)),
 ro 2 (.ag (.t 21))] (some [2])) .ret
def Ww : R := .seq (.seq (.U [ro 4 (.ag (.c (.int .i64 0)))] (some [0, 3, 4])) Wu) Wv
def Wx : R := .seq (.U [ro 5 (.ad (.t 0)),
 ro 6 (.len 43 (.t 5)),
 ro 7 (.eU 43 (.t 6) (.t 6)),
 ro 3 (.ag (.t 7))] (some [0, 3])) Ww
def Wy : R := .seq (.U [ro 2 (.ag (.c .bg))] (some [0])) Wx
theorem oe : bw ⟨22, [0]⟩ (Tryz.f59.body.getD .skip) = some Wy.strip := by kernel_rfl
def Wz : R := .seq (.U [ro 11 (.aD 124 (.t 3)),
 ⟨none, .cC 124 (.t 2) (.t 11), none⟩] (some [2])) .ret
def WA : R := .seq (.U [ro 7 (.aU 112 (.t 1) 1),
 ro 8 (.aD 43 (.t 7)),
 ro 9 (.call (.f 59) [(.t 8)]),
 ro 10 (.aU 124 (.t 3) 1),
 ⟨none, .cC 43 (.t 10) (.t 9), none⟩] (some [2, 3])) Wz
def WB : R := .seq (.U [ro 4 (.aU 112 (.t 1) 0),
 ro 5 (.aD 2 (.t 4)),
 ro 6 (.aU 124 (.t 3) 0),
 ⟨none, .cC 2 (.t 6) (.t 5), none⟩] (some [1, 2, 3])) WA
def WC : R := .seq (.U [ro 3 (.ey 124)] (some [1, 2, 3])) WB
def WD : R := .seq (.U [ro 1 (.c7 112 (.t 0)),
 ro 2 (.ey 124)] (some [1, 2])) WC
theorem WE : bw ⟨12, [0]⟩ (Tryz.f77.body.getD .skip) = some WD.strip := by kernel_rfl
def WG : R := .cond (.t 11) .skip (.exit 0)
def WH : R := .U [ro 12 (.ad (.t 4)),
 ro 13 (.aq .add 3 (.t 12) (.c (.int .i64 1))),
 ro 4 (.ag (.t 13))] (some [0, 3, 4])
def WI : R := .seq (.block 1 (.U [ro 14 (.ad (.t 3)),
 ro 15 (.ad (.t 4)),
 ro 16 (.ad (.t 0)),
 ro 17 (.ad (.t 4)),
 ro 18 (.bK 23 (.t 16) (.t 17)),
 ro 19 (.aD 112 (.t 18)),
 ro 20 (.call (.f 77) [(.t 19)]),
 ro 21 (.bK 33 (.t 14) (.t 15)),
 ⟨none, .cC 124 (.t 21) (.t 20), none⟩] (some [0, 3, 4]))) WH
def KP : R := .seq (.seq (.U [ro 8 (.ad (.t 4)),
 ro 9 (.ad (.t 0)),
 ro 10 (.len 23 (.t 9)),
 ro 11 (.aq .lss 3 (.t 8) (.t 10))] (some [0, 3, 4, 11])) WG) WI
def WJ : R := .block 0 (.loop KP)
def WK : R := .seq (.U [ro 22 (.ad (.t 3)),
 ro 2 (.ag (.t 22))] (some [2])) .ret
def WL : R := .seq (.seq (.U [ro 4 (.ag (.c (.int .i64 0)))] (some [0, 3, 4])) WJ) WK
def WM : R := .seq (.U [ro 5 (.ad (.t 0)),
 ro 6 (.len 23 (.t 5)),
 ro 7 (.eU 33 (.t 6) (.t 6)),
 ro 3 (.ag (.t 7))] (some [0, 3])) WL
def WN : R := .seq (.U [ro 2 (.ag (.c .bg))] (some [0])) WM
theorem WO : bw ⟨23, [0]⟩ (Tryz.f40.body.getD .skip) = some WN.strip := by kernel_rfl
def WQ : R := .seq (.U [ro 13 (.aD 126 (.t 3)),
 ⟨none, .cC 126 (.t 2) (.t 13), none⟩] (some [2])) .ret
def WR : R := .seq (.U [ro 10 (.aU 115 (.t 1) 2),
 ro 11 (.aD 9 (.t 10)),
 ro 12 (.aU 126 (.t 3) 2),
 ⟨none, .cC 9 (.t 12) (.t 11), none⟩] (some [2, 3])) WQ
def WS : R := .seq (.U [ro 7 (.aU 115 (.t 1) 1),
 ro 8 (.aD 9 (.t 7)),
 ro 9 (.aU 126 (.t 3) 1),
 ⟨none, .cC 9 (.t 9) (.t 8), none⟩] (some [1, 2, 3])) WR
def WT : R := .seq (.U [ro 4 (.aU 115 (.t 1) 0),
 ro 5 (.aD 9 (.t 4)),
 ro 6 (.aU 126 (.t 3) 0),
 ⟨none, .cC 9 (.t 6) (.t 5), none⟩] (some [1, 2, 3])) WS
def WU : R := .seq (.U [ro 3 (.ey 126)] (some [1, 2, 3])) WT
def WV : R := .seq (.U [ro 1 (.c7 115 (.t 0)),
 ro 2 (.ey 126)] (some [1, 2])) WU
theorem WW : bw ⟨14, [0]⟩ (Tryz.f78.body.getD .skip) = some WV.strip := by kernel_rfl
def WX : R := .cond (.t 11) .skip (.exit 0)
def WY : R := .U [ro 12 (.ad (.t 4)),
 ro 13 (.aq .add 3 (.t 12) (.c (.int .i64 1))),
 ro 4 (.ag (.t 13))] (some [0, 3, 4])
def WZ : R := .seq (.block 1 (.U [ro 14 (.ad (.t 3)),
 ro 15 (.ad (.t 4)),
 ro 16 (.ad (.t 0)),
 ro 17 (.ad (.t 4)),
 ro 18 (.bK 24 (.t 16) (.t 17)),
 ro 19 (.aD 115 (.t 18)),
 ro 20 (.call (.f 78) [(.t 19)]),
 ro 21 (.bK 34 (.t 14) (.t 15)),
 ⟨none, .cC 126 (.t 21) (.t 20), none⟩] (some [0, 3, 4]))) WY
def KQ : R := .seq (.seq (.U [ro 8 (.ad (.t 4)),
 ro 9 (.ad (.t 0)),
 ro 10 (.len 24 (.t 9)),
 ro 11 (.aq .lss 3 (.t 8) (.t 10))] (some [0, 3, 4, 11])) WX) WZ
def W0 : R := .block 0 (.loop KQ)
def W1 : R := .seq (.U [ro 22 (.ad (.t 3)),
 ro 2 (.ag (.t 22))] (some [2])) .ret
def W2 : R := .seq (.seq (.U [ro 4 (.ag (.c (.int .i64 0)))] (some [0, 3, 4])) W0) W1
def W3 : R := .seq (.U [ro 5 (.ad (.t 0)),
 ro 6 (.len 24 (.t 5)),
 ro 7 (.eU 34 (.t 6) (.t 6)),
 ro 3 (.ag (.t 7))] (some [0, 3])) W2
def W4 : R := .seq (.U [ro 2 (.ag (.c .bg))] (some [0])) W3
theorem W5 : bw ⟨23, [0]⟩ (Tryz.f41.body.getD .skip) = some W4.strip := by kernel_rfl
def W6 : R := .cond (.t 11) .skip (.exit 0)
def W7 : R := .U [ro 12 (.ad (.t 4)),
 ro 13 (.aq .add 3 (.t 12) (.c (.int .i64 1))),
 ro 4 (.ag (.t 13))] (some [0, 3, 4])
def W8 : R := .seq (.block 1 (.U [ro 14 (.ad (.t 3)),
 ro 15 (.ad (.t 4)),
 ro 16 (.ad (.t 0)),
 ro 17 (.ad (.t 4)),
 ro 18 (.bK 25 (.t 16) (.t 17)),
 ro 19 (.aD 9 (.t 18)),
 ro 20 (.bK 25 (.t 14) (.t 15)),
 ⟨none, .cC 9 (.t 20) (.t 19), none⟩] (some [0, 3, 4]))) W7
def KR : R := .seq (.seq (.U [ro 8 (.ad (.t 4)),
 ro 9 (.ad (.t 0)),
 ro 10 (.len 25 (.t 9)),
 ro 11 (.aq .lss 3 (.t 8) (.t 10))] (some [0, 3, 4, 11])) W6) W8
def W9 : R := .block 0 (.loop KR)
def W_ : R := .seq (.U [ro 21 (.ad (.t 3)),
 ro 2 (.ag (.t 21))] (some [2])) .ret
def Xa : R := .seq (.seq (.U [ro 4 (.ag (.c (.int .i64 0)))] (some [0, 3, 4])) W9) W_
def Xb : R := .seq (.U [ro 5 (.ad (.t 0)),
 ro 6 (.len 25 (.t 5)),
 ro 7 (.eU 25 (.t 6) (.t 6)),
 ro 3 (.ag (.t 7))] (some [0, 3])) Xa
def Xc : R := .seq (.U [ro 2 (.ag (.c .bg))] (some [0])) Xb
theorem Xd : bw ⟨22, [0]⟩ (Tryz.f42.body.getD .skip) = some Xc.strip := by kernel_rfl
def Xe : R := .seq (.U [ro 24 (.aD 36 (.t 3)),
 ⟨none, .cC 36 (.t 2) (.t 24), none⟩] (some [2])) .ret
def Xf : R := .seq (.U [ro 20 (.aU 27 (.t 1) 4),
 ro 21 (.aD 25 (.t 20)),
 ro 22 (.call (.f 42) [(.t 21)]),
 ro 23 (.aU 36 (.t 3) 4),
 ⟨none, .cC 25 (.t 23) (.t 22), none⟩] (some [2, 3])) Xe
def Xg : R := .seq (.U [ro 16 (.aU 27 (.t 1) 3),
 ro 17 (.aD 25 (.t 16)),
 ro 18 (.call (.f 42) [(.t 17)]),
 ro 19 (.aU 36 (.t 3) 3),
 ⟨none, .cC 25 (.t 19) (.t 18), none⟩] (some [1, 2, 3])) Xf
def Xh : R := .seq (.U [ro 12 (.aU 27 (.t 1) 2),
 ro 13 (.aD 24 (.t 12)),
 ro 14 (.call (.f 41) [(.t 13)]),
 ro 15 (.aU 36 (.t 3) 2),
 ⟨none, .cC 34 (.t 15) (.t 14), none⟩] (some [1, 2, 3])) Xg
def Xi : R := .seq (.U [ro 8 (.aU 27 (.t 1) 1),
 ro 9 (.aD 23 (.t 8)),
 ro 10 (.call (.f 40) [(.t 9)]),
 ro 11 (.aU 36 (.t 3) 1),
 ⟨none, .cC 33 (.t 11) (.t 10), none⟩] (some [1, 2, 3])) Xh
def Xj : R := .seq (.U [ro 4 (.aU 27 (.t 1) 0),
 ro 5 (.aD 22 (.t 4)),
 ro 6 (.call (.f 39) [(.t 5)]),
 ro 7 (.aU 36 (.t 3) 0),
 ⟨none, .cC 32 (.t 7) (.t 6), none⟩] (some [1, 2, 3])) Xi
def Xk : R := .seq (.U [ro 3 (.ey 36)] (some [1, 2, 3])) Xj
def DR : R := .seq (.U [ro 1 (.c7 27 (.t 0)),
 ro 2 (.ey 36)] (some [1, 2])) Xk
theorem mj : bw ⟨25, [0]⟩ (Tryz.f9.body.getD .skip) = some DR.strip := by kernel_rfl
def Xl : R := .seq (.U [ro 3 (.ad (.t 0)),
 ro 4 (.aq .geq 5 (.t 3) (.c (.int .u8 97))),
 ro 5 (.ad (.t 4)),
 ⟨some 6, .ad (.t 0), some (5, true)⟩,
 ⟨some 7, .aq .leq 5 (.t 6) (.c (.int .u8 122)), some (5, true)⟩,
 ro 8 (.pick (.t 5) (.t 7) (.c (.bool false))),
 ro 2 (.ag (.t 8))] (some [2])) .ret
def Xm : R := .seq (.U [ro 2 (.ag (.c (.bool false)))] (some [0])) Xl
theorem Xn : bw ⟨9, [0]⟩ (Tryz.f196.body.getD .skip) = some Xm.strip := by kernel_rfl
def Xo : R := .seq (.U [ro 3 (.ad (.t 0)),
 ro 4 (.aq .geq 5 (.t 3) (.c (.int .u8 48))),
 ro 5 (.ad (.t 4)),
 ⟨some 6, .ad (.t 0), some (5, true)⟩,
 ⟨some 7, .aq .leq 5 (.t 6) (.c (.int .u8 57)), some (5, true)⟩,
 ro 8 (.pick (.t 5) (.t 7) (.c (.bool false))),
 ro 2 (.ag (.t 8))] (some [2])) .ret
def Xp : R := .seq (.U [ro 2 (.ag (.c (.bool false)))] (some [0])) Xo
theorem Xq : bw ⟨9, [0]⟩ (Tryz.f197.body.getD .skip) = some Xp.strip := by kernel_rfl
def Xr : R := .seq (.U [ro 2 (.ag (.c (.bool false)))] (some [2])) .ret
def Xs : R := .cond (.t 16) Xr .skip
def Xt : R := .cond (.t 20) .skip (.exit 0)
def Xu : R := .seq (.U [ro 2 (.ag (.c (.bool false)))] (some [2])) .ret
def Xv : R := .cond (.t 34) Xu .skip
def Xw : R := .U [ro 21 (.ad (.t 3)),
 ro 22 (.aq .add 3 (.t 21) (.c (.int .i64 1))),
 ro 3 (.ag (.t 22))] (some [0, 3])
def Xx : R := .seq (.block 1 (.seq (.U [ro 23 (.ad (.t 0)),
 ro 24 (.ad (.t 3)),
 ro 25 (.idx 9 (.t 23) (.t 24)),
 ro 26 (.call (.f 196) [(.t 25)]),
 ro 27 (.un .not (.t 26)),
 ro 28 (.ad (.t 27)),
 ⟨some 29, .ad (.t 0), some (28, true)⟩,
 ⟨some 30, .ad (.t 3), some (28, true)⟩,
 ⟨some 31, .idx 9 (.t 29) (.t 30), some (28, true)⟩,
 ⟨some 32, .call (.f 197) [(.t 31)], some (28, true)⟩,
 ⟨some 33, .un .not (.t 32), some (28, true)⟩,
 ro 34 (.pick (.t 28) (.t 33) (.c (.bool false)))] (some [0, 3, 34])) Xv)) Xw
def KS : R := .seq (.seq (.U [ro 17 (.ad (.t 3)),
 ro 18 (.ad (.t 0)),
 ro 19 (.len 9 (.t 18)),
 ro 20 (.aq .lss 3 (.t 17) (.t 19))] (some [0, 3, 20])) Xt) Xx
def Xy : R := .block 0 (.loop KS)
def Xz : R := .seq (.U [ro 2 (.ag (.c (.bool true)))] (some [2])) .ret
def XA : R := .seq (.seq (.U [ro 3 (.ag (.c (.int .i64 0)))] (some [0, 3])) Xy) Xz
def XB : R := .seq (.seq (.U [ro 4 (.ad (.t 0)),
 ro 5 (.aq .eql 9 (.t 4) (.c (.str []))),
 ro 6 (.ad (.t 5)),
 ⟨some 7, .ad (.t 0), some (6, false)⟩,
 ⟨some 8, .len 9 (.t 7), some (6, false)⟩,
 ⟨some 9, .aq .gtr 3 (.t 8) (.c (.int .i64 10)), some (6, false)⟩,
 ro 10 (.pick (.t 6) (.c (.bool true)) (.t 9)),
 ro 11 (.ad (.t 10)),
 ⟨some 12, .ad (.t 0), some (11, false)⟩,
 ⟨some 13, .idx 9 (.t 12) (.c (.int .i64 0)), some (11, false)⟩,
 ⟨some 14, .call (.f 196) [(.t 13)], some (11, false)⟩,
 ⟨some 15, .un .not (.t 14), some (11, false)⟩,
 ro 16 (.pick (.t 11) (.c (.bool true)) (.t 15))] (some [0, 16])) Xs) XA
def XC : R := .seq (.U [ro 2 (.ag (.c (.bool false)))] (some [0])) XB
theorem XD : bw ⟨35, [0]⟩ (Tryz.f161.body.getD .skip) = some XC.strip := by kernel_rfl
def XE : R := .seq (.U [ro 7 (.ad (.t 0)),
 ro 8 (.ad (.t 1)),
 ro 9 (.aq .geq 2 (.t 7) (.t 8)),
 ro 10 (.ad (.t 9)),
 ⟨some 11, .ad (.t 0), some (10, true)⟩,
 ⟨some 12, .ad (.t 2), some (10, true)⟩,
 ⟨some 13, .aq .leq 2 (.t 11) (.t 12), some (10, true)⟩,
 ro 14 (.pick (.t 10) (.t 13) (.c (.bool false))),
 ro 6 (.ag (.t 14))] (some [6])) .ret
def XF : R := .seq (.U [ro 6 (.ag (.c (.bool false)))] (some [0, 1, 2])) XE
theorem XG : bw ⟨15, [0, 1, 2]⟩ (Tryz.f87.body.getD .skip) = some XF.strip := by kernel_rfl
def XH : R := .U [ro 10 (.aq .eql 2 (.t 6) (.c (.int .i64 4))),
 ro 7 (.ag (.t 10))] (some [6, 7])
def XI : R := .cond (.t 7) .skip XH
def XJ : R := .seq (.U [ro 9 (.aq .eql 2 (.t 6) (.c (.int .i64 3))),
 ro 7 (.ag (.t 9))] (some [6, 7])) XI
def XK : R := .cond (.t 7) .skip XJ
def XL : R := .seq (.U [ro 2 (.ag (.c (.int .i64 1)))] (some [2])) .ret
def XM : R := .seq (.U [ro 2 (.ag (.c (.int .i64 2)))] (some [2])) .ret
def XN : R := .cond (.t 11) XM .skip
def XO : R := .seq (.U [ro 12 (.aq .eql 2 (.t 6) (.c (.int .i64 2))),
 ro 11 (.ag (.t 12))] (some [11])) XN
def KT : R := .cond (.t 7) XL XO
def XP : R := .block 0 (.seq (.seq (.U [ro 8 (.aq .eql 2 (.t 6) (.c (.int .i64 1))),
 ro 7 (.ag (.t 8))] (some [6, 7])) XK) KT)
def XQ : R := .seq (.U [ro 2 (.ag (.c (.int .i64 0)))] (some [2])) .ret
def XR : R := .seq (.seq (.U [ro 3 (.ad (.t 0)),
 ro 4 (.dP (.t 3)),
 ro 5 (.aU 122 (.t 4) 0),
 ro 6 (.aD 2 (.t 5))] (some [6])) XP) XQ
def XS : R := .seq (.U [ro 2 (.ag (.c (.int .i64 0)))] (some [0])) XR
theorem XT : bw ⟨13, [0]⟩ (Tryz.f216.body.getD .skip) = some XS.strip := by kernel_rfl
def XU : R := .seq (.U [ro 2 (.ag (.c (.bool false)))] (some [2])) .ret
def XV : R := .cond (.t 12) XU .skip
def XW : R := .cond (.t 16) .skip (.exit 0)
def XX : R := .seq (.U [ro 2 (.ag (.c (.bool false)))] (some [2])) .ret
def XY : R := .cond (.t 20) XX .skip
def XZ : R := .U [ro 21 (.ad (.t 3)),
 ro 22 (.ad (.t 0)),
 ro 23 (.ad (.t 4)),
 ro 24 (.bK 117 (.t 22) (.t 23)),
 ro 25 (.call (.f 216) [(.t 24)]),
 ro 26 (.aq .sub 2 (.t 25) (.c (.int .i64 1))),
 ro 27 (.aq .add 2 (.t 21) (.t 26)),
 ro 3 (.ag (.t 27))] (some [0, 3, 4])
def X0 : R := .U [ro 17 (.ad (.t 4)),
 ro 18 (.aq .add 3 (.t 17) (.c (.int .i64 1))),
 ro 4 (.ag (.t 18))] (some [0, 3, 4])
def X1 : R := .seq (.block 1 (.seq (.seq (.U [ro 19 (.ad (.t 3)),
 ro 20 (.aq .eql 2 (.t 19) (.c (.int .i64 0)))] (some [0, 3, 4, 20])) XY) XZ)) X0
def KU : R := .seq (.seq (.U [ro 13 (.ad (.t 4)),
 ro 14 (.ad (.t 0)),
 ro 15 (.len 117 (.t 14)),
 ro 16 (.aq .lss 3 (.t 13) (.t 15))] (some [0, 3, 4, 16])) XW) X1
def X2 : R := .block 0 (.loop KU)
def X3 : R := .seq (.U [ro 28 (.ad (.t 3)),
 ro 29 (.aq .eql 2 (.t 28) (.c (.int .i64 0))),
 ro 2 (.ag (.t 29))] (some [2])) .ret
def X4 : R := .seq (.seq (.U [ro 4 (.ag (.c (.int .i64 0)))] (some [0, 3, 4])) X2) X3
def X5 : R := .seq (.U [ro 3 (.ag (.c (.int .i64 1)))] (some [0, 3])) X4
def X6 : R := .seq (.seq (.U [ro 5 (.ad (.t 0)),
 ro 6 (.len 117 (.t 5)),
 ro 7 (.aq .eql 3 (.t 6) (.c (.int .i64 0))),
 ro 8 (.ad (.t 7)),
 ⟨some 9, .ad (.t 0), some (8, false)⟩,
 ⟨some 10, .len 117 (.t 9), some (8, false)⟩,
 ⟨some 11, .aq .gtr 3 (.t 10) (.c (.int .i64 20)), some (8, false)⟩,
 ro 12 (.pick (.t 8) (.c (.bool true)) (.t 11))] (some [0, 12])) XV) X5
def X7 : R := .seq (.U [ro 2 (.ag (.c (.bool false)))] (some [0])) X6
theorem X8 : bw ⟨30, [0]⟩ (Tryz.f198.body.getD .skip) = some X7.strip := by kernel_rfl
def X9 : R := .U [ro 9 (.aq .eql 2 (.t 6) (.c (.int .i64 2))),
 ro 7 (.ag (.t 9))] (some [0, 6, 7])
def X_ : R := .cond (.t 7) .skip X9
def Ya : R := .seq (.U [ro 10 (.ad (.t 0)),
 ro 11 (.dP (.t 10)),
 ro 12 (.aU 122 (.t 11) 1),
 ro 13 (.aD 2 (.t 12)),
 ro 14 (.aq .eql 2 (.t 13) (.c (.int .i64 0))),
 ro 15 (.ad (.t 14)),
 ⟨some 16, .ad (.t 0), some (15, true)⟩,
 ⟨some 17, .dP (.t 16), some (15, true)⟩,
 ⟨some 18, .aU 122 (.t 17) 2, some (15, true)⟩,
 ⟨some 19, .aD 9 (.t 18), some (15, true)⟩,
 ⟨some 20, .aq .eql 9 (.t 19) (.c (.str [])), some (15, true)⟩,
 ro 21 (.pick (.t 15) (.t 20) (.c (.bool false))),
 ro 22 (.ad (.t 21)),
 ⟨some 23, .ad (.t 0), some (22, true)⟩,
 ⟨some 24, .dP (.t 23), some (22, true)⟩,
 ⟨some 25, .aU 122 (.t 24) 3, some (22, true)⟩,
 ⟨some 26, .aD 120 (.t 25), some (22, true)⟩,
 ⟨some 27, .len 120 (.t 26), some (22, true)⟩,
 ⟨some 28, .aq .eql 3 (.t 27) (.c (.int .i64 0)), some (22, true)⟩,
 ro 29 (.pick (.t 22) (.t 28) (.c (.bool false))),
 ro 2 (.ag (.t 29))] (some [2])) .ret
def Yb : R := .seq (.U [ro 32 (.ad (.t 0)),
 ro 33 (.dP (.t 32)),
 ro 34 (.aU 122 (.t 33) 1),
 ro 35 (.aD 2 (.t 34)),
 ro 36 (.aq .eql 2 (.t 35) (.c (.int .i64 0))),
 ro 2 (.ag (.t 36))] (some [2])) .ret
def Yc : R := .seq (.U [ro 39 (.ad (.t 0)),
 ro 40 (.dP (.t 39)),
 ro 41 (.aU 122 (.t 40) 1),
 ro 42 (.aD 2 (.t 41)),
 ro 43 (.aq .eql 2 (.t 42) (.c (.int .i64 0))),
 ro 44 (.ad (.t 43)),
 ⟨some 45, .ad (.t 0), some (44, true)⟩,
 ⟨some 46, .dP (.t 45), some (44, true)⟩,
 ⟨some 47, .aU 122 (.t 46) 2, some (44, true)⟩,
 ⟨some 48, .aD 9 (.t 47), some (44, true)⟩,
 ⟨some 49, .aq .eql 9 (.t 48) (.c (.str [])), some (44, true)⟩,
 ro 50 (.pick (.t 44) (.t 49) (.c (.bool false))),
 ro 2 (.ag (.t 50))] (some [2])) .ret
def Yd : R := .seq (.U [ro 53 (.ad (.t 0)),
 ro 54 (.dP (.t 53)),
 ro 55 (.aU 122 (.t 54) 2),
 ro 56 (.aD 9 (.t 55)),
 ro 57 (.aq .eql 9 (.t 56) (.c (.str []))),
 ro 58 (.ad (.t 57)),
 ⟨some 59, .ad (.t 0), some (58, true)⟩,
 ⟨some 60, .dP (.t 59), some (58, true)⟩,
 ⟨some 61, .aU 122 (.t 60) 3, some (58, true)⟩,
 ⟨some 62, .aD 120 (.t 61), some (58, true)⟩,
 ⟨some 63, .len 120 (.t 62), some (58, true)⟩,
 ⟨some 64, .aq .eql 3 (.t 63) (.c (.int .i64 0)), some (58, true)⟩,
 ro 65 (.pick (.t 58) (.t 64) (.c (.bool false))),
 ro 2 (.ag (.t 65))] (some [2])) .ret
def Ye : R := .seq (.U [ro 68 (.ad (.t 0)),
 ro 69 (.dP (.t 68)),
 ro 70 (.aU 122 (.t 69) 2),
 ro 71 (.aD 9 (.t 70)),
 ro 72 (.aq .eql 9 (.t 71) (.c (.str []))),
 ro 2 (.ag (.t 72))] (some [2])) .ret
def Yf : R := .cond (.t 66) Ye .skip
def Yg : R := .seq (.U [ro 67 (.aq .eql 2 (.t 6) (.c (.int .i64 5))),
 ro 66 (.ag (.t 67))] (some [0, 66])) Yf
def Yh : R := .cond (.t 51) Yd Yg
def Yi : R := .seq (.U [ro 52 (.aq .eql 2 (.t 6) (.c (.int .i64 4))),
 ro 51 (.ag (.t 52))] (some [0, 6, 51])) Yh
def Yj : R := .cond (.t 37) Yc Yi
def Yk : R := .seq (.U [ro 38 (.aq .eql 2 (.t 6) (.c (.int .i64 3))),
 ro 37 (.ag (.t 38))] (some [0, 6, 37])) Yj
def Yl : R := .cond (.t 30) Yb Yk
def Ym : R := .seq (.U [ro 31 (.aq .eql 2 (.t 6) (.c (.int .i64 1))),
 ro 30 (.ag (.t 31))] (some [0, 6, 30])) Yl
def KV : R := .cond (.t 7) Ya Ym
def Yn : R := .block 0 (.seq (.seq (.U [ro 8 (.aq .eql 2 (.t 6) (.c (.int .i64 0))),
 ro 7 (.ag (.t 8))] (some [0, 6, 7])) X_) KV)
def Yo : R := .seq (.U [ro 2 (.ag (.c (.bool false)))] (some [2])) .ret
def Yp : R := .seq (.seq (.U [ro 3 (.ad (.t 0)),
 ro 4 (.dP (.t 3)),
 ro 5 (.aU 122 (.t 4) 0),
 ro 6 (.aD 2 (.t 5))] (some [0, 6])) Yn) Yo
def Yq : R := .seq (.U [ro 2 (.ag (.c (.bool false)))] (some [0])) Yp
theorem Yr : bw ⟨73, [0]⟩ (Tryz.f217.body.getD .skip) = some Yq.strip := by kernel_rfl
def Ys : R := .cond (.t 7) .skip (.exit 0)
def Yt : R := .U [ro 15 (.ad (.t 1)),
 ro 16 (.aq .add 2 (.t 15) (.c (.int .i64 1))),
 ro 1 (.ag (.t 16))] (some [0, 1, 5])
def Yu : R := .block 1 (.seq (.U [ro 8 (.ad (.t 5)),
 ro 9 (.ad (.t 0)),
 ro 10 (.ad (.t 1)),
 ro 11 (.bK 117 (.t 9) (.t 10)),
 ro 12 (.call (.f 216) [(.t 11)]),
 ro 13 (.aq .sub 2 (.t 12) (.c (.int .i64 1))),
 ro 14 (.aq .add 2 (.t 8) (.t 13)),
 ro 5 (.ag (.t 14))] (some [0, 1, 5])) Yt)
def KW : R := .seq (.seq (.U [ro 6 (.ad (.t 5)),
 ro 7 (.aq .gtr 2 (.t 6) (.c (.int .i64 0)))] (some [0, 1, 5, 7])) Ys) Yu
def Yv : R := .seq (.U [ro 17 (.ad (.t 1)),
 ro 4 (.ag (.t 17))] (some [4])) .ret
def Yw : R := .seq (.block 0 (.loop KW)) Yv
def Yx : R := .seq (.U [ro 5 (.ag (.c (.int .i64 1)))] (some [0, 1, 5])) Yw
def Yy : R := .seq (.U [ro 4 (.ag (.c (.int .i64 0)))] (some [0, 1])) Yx
theorem Yz : bw ⟨18, [0]⟩ (Tryz.f224.body.getD .skip) = some Yy.strip := by kernel_rfl
def YA : R := .cond (.t 13) .skip (.exit 0)
def YB : R := .U [ro 35 (.ad (.t 5)),
 ro 36 (.aq .add 2 (.t 35) (.c (.int .i64 1))),
 ro 5 (.ag (.t 36))] (some [0, 1, 5, 6])
def YC : R := .cond (.t 34) YB .skip
def KX : R := .U [ro 14 (.ad (.t 6)),
 ro 15 (.aq .add 2 (.t 14) (.c (.int .i64 1))),
 ro 6 (.ag (.t 15))] (some [0, 1, 5, 6])
def YD : R := .seq (.block 1 (.seq (.U [ro 16 (.ad (.t 0)),
 ro 17 (.dP (.t 16)),
 ro 18 (.aU 119 (.t 17) 2),
 ro 19 (.aD 117 (.t 18)),
 ro 20 (.ad (.t 6)),
 ro 21 (.bK 117 (.t 19) (.t 20)),
 ro 22 (.aU 122 (.t 21) 0),
 ro 23 (.aD 2 (.t 22)),
 ro 24 (.aq .eql 2 (.t 23) (.c (.int .i64 4))),
 ro 25 (.ad (.t 24)),
 ⟨some 26, .ad (.t 0), some (25, true)⟩,
 ⟨some 27, .dP (.t 26), some (25, true)⟩,
 ⟨some 28, .aU 119 (.t 27) 2, some (25, true)⟩,
 ⟨some 29, .aD 117 (.t 28), some (25, true)⟩,
 ⟨some 30, .ad (.t 6), some (25, true)⟩,
 ⟨some 31, .call (.f 224) [(.t 29), (.t 30)], some (25, true)⟩,
 ⟨some 32, .ad (.t 1), some (25, true)⟩,
 ⟨some 33, .aq .gtr 2 (.t 31) (.t 32), some (25, true)⟩,
 ro 34 (.pick (.t 25) (.t 33) (.c (.bool false)))] (some [0, 1, 5, 6, 34])) YC)) KX
def KY : R := .seq (.seq (.U [ro 11 (.ad (.t 6)),
 ro 12 (.ad (.t 1)),
 ro 13 (.aq .lss 2 (.t 11) (.t 12))] (some [0, 1, 5, 6, 13])) YA) YD
def YE : R := .block 0 (.loop KY)
def YF : R := .seq (.U [ro 37 (.ad (.t 5)),
 ro 4 (.ag (.t 37))] (some [4])) .ret
def YG : R := .seq (.seq (.U [ro 6 (.ag (.c (.int .i64 0)))] (some [0, 1, 5, 6])) YE) YF
def YH : R := .seq (.U [ro 7 (.ad (.t 0)),
 ro 8 (.dP (.t 7)),
 ro 9 (.aU 119 (.t 8) 1),
 ro 10 (.aD 2 (.t 9)),
 ro 5 (.ag (.t 10))] (some [0, 1, 5])) YG
def YI : R := .seq (.U [ro 4 (.ag (.c (.int .i64 0)))] (some [0, 1])) YH
theorem YJ : bw ⟨38, [0, 1]⟩ (Tryz.f218.body.getD .skip) = some YI.strip := by kernel_rfl
def YK : R := .seq (.U [ro 11 (.ad (.t 0)),
 ro 12 (.dP (.t 11)),
 ro 13 (.aU 191 (.t 12) 1),
 ro 14 (.aD 2 (.t 13)),
 ro 15 (.call (.f 87) [(.t 14), (.c (.int .i64 0)), (.c (.int .i64 63))]),
 ro 4 (.ag (.t 15))] (some [4])) .ret
def YL : R := .seq (.U [ro 18 (.ad (.t 0)),
 ro 19 (.dP (.t 18)),
 ro 20 (.aU 191 (.t 19) 1),
 ro 21 (.aD 2 (.t 20)),
 ro 22 (.ad (.t 1)),
 ro 23 (.aq .sub 2 (.t 22) (.c (.int .i64 1))),
 ro 24 (.call (.f 87) [(.t 21), (.c (.int .i64 0)), (.t 23)]),
 ro 4 (.ag (.t 24))] (some [4])) .ret
def YM : R := .seq (.U [ro 27 (.ad (.t 0)),
 ro 28 (.dP (.t 27)),
 ro 29 (.aU 191 (.t 28) 1),
 ro 30 (.aD 2 (.t 29)),
 ro 31 (.call (.f 87) [(.t 30), (.c (.int .i64 0)), (.c (.int .i64 8))]),
 ro 4 (.ag (.t 31))] (some [4])) .ret
def YN : R := .seq (.U [ro 34 (.ad (.t 0)),
 ro 35 (.dP (.t 34)),
 ro 36 (.aU 191 (.t 35) 1),
 ro 37 (.aD 2 (.t 36)),
 ro 38 (.aq .eql 2 (.t 37) (.c (.int .i64 0))),
 ro 4 (.ag (.t 38))] (some [4])) .ret
def YO : R := .cond (.t 32) YN .skip
def YP : R := .seq (.U [ro 33 (.aq .eql 2 (.t 8) (.c (.int .i64 3))),
 ro 32 (.ag (.t 33))] (some [0, 32])) YO
def YQ : R := .cond (.t 25) YM YP
def YR : R := .seq (.U [ro 26 (.aq .eql 2 (.t 8) (.c (.int .i64 2))),
 ro 25 (.ag (.t 26))] (some [0, 8, 25])) YQ
def YS : R := .cond (.t 16) YL YR
def YT : R := .seq (.U [ro 17 (.aq .eql 2 (.t 8) (.c (.int .i64 1))),
 ro 16 (.ag (.t 17))] (some [0, 1, 8, 16])) YS
def YU : R := .cond (.t 9) YK YT
def YV : R := .block 0 (.seq (.U [ro 10 (.aq .eql 2 (.t 8) (.c (.int .i64 0))),
 ro 9 (.ag (.t 10))] (some [0, 1, 8, 9])) YU)
def YW : R := .seq (.U [ro 4 (.ag (.c (.bool false)))] (some [4])) .ret
def YX : R := .seq (.seq (.U [ro 5 (.ad (.t 0)),
 ro 6 (.dP (.t 5)),
 ro 7 (.aU 191 (.t 6) 0),
 ro 8 (.aD 2 (.t 7))] (some [0, 1, 8])) YV) YW
def YY : R := .seq (.U [ro 4 (.ag (.c (.bool false)))] (some [0, 1])) YX
theorem YZ : bw ⟨39, [0, 1]⟩ (Tryz.f175.body.getD .skip) = some YY.strip := by kernel_rfl
def Y0 : R := .seq (.U [ro 2 (.ag (.c (.int .i64 2)))] (some [2])) .ret
def Y1 : R := .seq (.U [ro 2 (.ag (.c (.int .i64 1)))] (some [2])) .ret
def Y2 : R := .cond (.t 9) Y1 .skip
def Y3 : R := .seq (.U [ro 10 (.aq .eql 2 (.t 6) (.c (.int .i64 3))),
 ro 9 (.ag (.t 10))] (some [9])) Y2
def Y4 : R := .cond (.t 7) Y0 Y3
def Y5 : R := .block 0 (.seq (.U [ro 8 (.aq .eql 2 (.t 6) (.c (.int .i64 2))),
 ro 7 (.ag (.t 8))] (some [6, 7])) Y4)
def Y6 : R := .seq (.U [ro 2 (.ag (.c (.int .i64 0)))] (some [2])) .ret
def Y7 : R := .seq (.seq (.U [ro 3 (.ad (.t 0)),
 ro 4 (.dP (.t 3)),
 ro 5 (.aU 191 (.t 4) 0),
 ro 6 (.aD 2 (.t 5))] (some [6])) Y5) Y6
def Y8 : R := .seq (.U [ro 2 (.ag (.c (.int .i64 0)))] (some [0])) Y7
theorem Y9 : bw ⟨11, [0]⟩ (Tryz.f176.body.getD .skip) = some Y8.strip := by kernel_rfl
def Y_ : R := .seq (.U [ro 6 (.ag (.c (.bool false)))] (some [6])) .ret
def Za : R := .cond (.t 12) Y_ .skip
def Zb : R := .cond (.t 16) .skip (.exit 0)
def Zc : R := .seq (.U [ro 6 (.ag (.c (.bool false)))] (some [6])) .ret
def Zd : R := .cond (.t 28) Zc .skip
def Ze : R := .U [ro 29 (.ad (.t 7)),
 ro 30 (.ad (.t 0)),
 ro 31 (.ad (.t 8)),
 ro 32 (.bK 147 (.t 30) (.t 31)),
 ro 33 (.call (.f 176) [(.t 32)]),
 ro 34 (.aq .sub 2 (.t 33) (.c (.int .i64 1))),
 ro 35 (.aq .add 2 (.t 29) (.t 34)),
 ro 7 (.ag (.t 35))] (some [0, 1, 7, 8])
def Zf : R := .U [ro 17 (.ad (.t 8)),
 ro 18 (.aq .add 3 (.t 17) (.c (.int .i64 1))),
 ro 8 (.ag (.t 18))] (some [0, 1, 7, 8])
def Zg : R := .seq (.block 1 (.seq (.seq (.U [ro 19 (.ad (.t 7)),
 ro 20 (.aq .eql 2 (.t 19) (.c (.int .i64 0))),
 ro 21 (.ad (.t 20)),
 ⟨some 22, .ad (.t 0), some (21, false)⟩,
 ⟨some 23, .ad (.t 8), some (21, false)⟩,
 ⟨some 24, .bK 147 (.t 22) (.t 23), some (21, false)⟩,
 ⟨some 25, .ad (.t 1), some (21, false)⟩,
 ⟨some 26, .call (.f 175) [(.t 24), (.t 25)], some (21, false)⟩,
 ⟨some 27, .un .not (.t 26), some (21, false)⟩,
 ro 28 (.pick (.t 21) (.c (.bool true)) (.t 27))] (some [0, 1, 7, 8, 28])) Zd) Ze)) Zf
def KZ : R := .seq (.seq (.U [ro 13 (.ad (.t 8)),
 ro 14 (.ad (.t 0)),
 ro 15 (.len 147 (.t 14)),
 ro 16 (.aq .lss 3 (.t 13) (.t 15))] (some [0, 1, 7, 8, 16])) Zb) Zg
def Zh : R := .block 0 (.loop KZ)
def Zi : R := .seq (.U [ro 36 (.ad (.t 7)),
 ro 37 (.aq .eql 2 (.t 36) (.c (.int .i64 0))),
 ro 6 (.ag (.t 37))] (some [6])) .ret
def Zj : R := .seq (.seq (.U [ro 8 (.ag (.c (.int .i64 0)))] (some [0, 1, 7, 8])) Zh) Zi
def Zk : R := .seq (.U [ro 7 (.ag (.c (.int .i64 1)))] (some [0, 1, 7])) Zj
def Zl : R := .seq (.seq (.U [ro 9 (.ad (.t 0)),
 ro 10 (.len 147 (.t 9)),
 ro 11 (.ad (.t 2)),
 ro 12 (.aq .gtr 2 (.t 10) (.t 11))] (some [0, 1, 12])) Za) Zk
def Zm : R := .seq (.U [ro 6 (.ag (.c (.bool false)))] (some [0, 1, 2])) Zl
theorem Zn : bw ⟨38, [0, 1, 2]⟩ (Tryz.f140.body.getD .skip) = some Zm.strip := by kernel_rfl
def Zo : R := .seq (.U [ro 6 (.ag (.c (.int .i64 2)))] (some [6])) .ret
def Zp : R := .cond (.t 19) Zo .skip
def Zq : R := .seq (.U [ro 6 (.ag (.c (.int .i64 3)))] (some [6])) .ret
def K0 : R := .cond (.t 28) Zq .skip
def Zr : R := .seq (.U [ro 6 (.ag (.c (.int .i64 4)))] (some [6])) .ret
def K1 : R := .cond (.t 51) Zr .skip
def Zs : R := .seq (.U [ro 6 (.ag (.c (.int .i64 5)))] (some [6])) .ret
def Zt : R := .cond (.t 69) Zs .skip
def Zu : R := .seq (.U [ro 59 (.ad (.t 8)),
 ro 60 (.aq .gtr 2 (.t 59) (.c (.int .i64 2))),
 ro 61 (.ad (.t 60)),
 ⟨some 62, .ad (.t 8), some (61, false)⟩,
 ⟨some 63, .aq .gtr 2 (.t 62) (.c (.int .i64 0)), some (61, false)⟩,
 ⟨some 64, .ad (.t 63), some (61, false)⟩,
 ⟨some 65, .aU 122 (.t 7) 2, some (64, true)⟩,
 ⟨some 66, .aD 9 (.t 65), some (64, true)⟩,
 ⟨some 67, .aq .eql 9 (.t 66) (.c (.str [116, 97, 117])), some (64, true)⟩,
 ⟨some 68, .pick (.t 64) (.t 67) (.c (.bool false)), some (61, false)⟩,
 ro 69 (.pick (.t 61) (.c (.bool true)) (.t 68))] (some [1, 2, 7, 8, 69])) Zt
def Zv : R := .seq (.U [ro 6 (.ag (.c (.int .i64 5)))] (some [6])) .ret
def Zw : R := .cond (.t 73) Zv .skip
def Zx : R := .seq (.U [ro 72 (.ad (.t 8)),
 ro 73 (.aq .neq 2 (.t 72) (.c (.int .i64 1)))] (some [1, 2, 7, 8, 73])) Zw
def Zy : R := .seq (.U [ro 6 (.ag (.c (.int .i64 5)))] (some [6])) .ret
def Zz : R := .cond (.t 83) Zy .skip
def ZA : R := .seq (.U [ro 76 (.ad (.t 8)),
 ro 77 (.ad (.t 0)),
 ro 78 (.aU 122 (.t 7) 1),
 ro 79 (.aD 2 (.t 78)),
 ro 80 (.bK 32 (.t 77) (.t 79)),
 ro 81 (.aU 119 (.t 80) 1),
 ro 82 (.aD 2 (.t 81)),
 ro 83 (.aq .neq 2 (.t 76) (.t 82))] (some [1, 2, 7, 8, 83])) Zz
def ZB : R := .cond (.t 74) ZA .skip
def ZC : R := .seq (.U [ro 75 (.aq .eql 2 (.t 56) (.c (.int .i64 5))),
 ro 74 (.ag (.t 75))] (some [0, 1, 2, 7, 8, 74])) ZB
def ZD : R := .cond (.t 70) Zx ZC
def ZE : R := .seq (.U [ro 71 (.aq .eql 2 (.t 56) (.c (.int .i64 3))),
 ro 70 (.ag (.t 71))] (some [0, 1, 2, 7, 8, 56, 70])) ZD
def ZF : R := .cond (.t 57) Zu ZE
def ZG : R := .block 0 (.seq (.U [ro 58 (.aq .eql 2 (.t 56) (.c (.int .i64 1))),
 ro 57 (.ag (.t 58))] (some [0, 1, 2, 7, 8, 56, 57])) ZF)
def ZH : R := .seq (.U [ro 6 (.ag (.c (.int .i64 6)))] (some [6])) .ret
def K2 : R := .cond (.t 102) ZH .skip
def ZI : R := .seq (.U [ro 6 (.ag (.c (.int .i64 7)))] (some [6])) .ret
def ZJ : R := .cond (.t 112) ZI .skip
def ZK : R := .cond (.t 115) .skip (.exit 1)
def ZL : R := .seq (.U [ro 6 (.ag (.c (.int .i64 8)))] (some [6])) .ret
def ZM : R := .cond (.t 125) ZL .skip
def ZN : R := .U [ro 116 (.ad (.t 10)),
 ro 117 (.aq .add 2 (.t 116) (.c (.int .i64 1))),
 ro 10 (.ag (.t 117))] (some [7, 8, 9, 10])
def ZO : R := .seq (.block 2 (.seq (.U [ro 118 (.aU 122 (.t 7) 3),
 ro 119 (.aD 120 (.t 118)),
 ro 120 (.ad (.t 10)),
 ro 121 (.bK 120 (.t 119) (.t 120)),
 ro 122 (.aD 147 (.t 121)),
 ro 123 (.ad (.t 9)),
 ro 124 (.call (.f 140) [(.t 122), (.t 123), (.c (.int .i64 15))]),
 ro 125 (.un .not (.t 124))] (some [7, 8, 9, 10, 125])) ZM)) ZN
def K3 : R := .seq (.seq (.U [ro 113 (.ad (.t 10)),
 ro 114 (.ad (.t 8)),
 ro 115 (.aq .lss 2 (.t 113) (.t 114))] (some [7, 8, 9, 10, 115])) ZK) ZO
def ZP : R := .block 1 (.loop K3)
def ZQ : R := .seq (.U [ro 6 (.ag (.c (.int .i64 0)))] (some [6])) .ret
def ZR : R := .seq (.seq (.U [ro 10 (.ag (.c (.int .i64 0)))] (some [7, 8, 9, 10])) ZP) ZQ
def ZS : R := .seq (.seq (.U [ro 106 (.aU 122 (.t 7) 0),
 ro 107 (.aD 2 (.t 106)),
 ro 108 (.aq .eql 2 (.t 107) (.c (.int .i64 4))),
 ro 109 (.ad (.t 108)),
 ⟨some 110, .ad (.t 9), some (109, true)⟩,
 ⟨some 111, .aq .geq 2 (.t 110) (.c (.int .i64 6)), some (109, true)⟩,
 ro 112 (.pick (.t 109) (.t 111) (.c (.bool false)))] (some [7, 8, 9, 112])) ZJ) ZR
def ZT : R := .seq (.U [ro 103 (.ad (.t 1)),
 ro 104 (.ad (.t 2)),
 ro 105 (.call (.f 218) [(.t 103), (.t 104)]),
 ro 9 (.ag (.t 105))] (some [7, 8, 9])) ZS
def K4 : R := .seq (.seq (.U [ro 84 (.aU 122 (.t 7) 0),
 ro 85 (.aD 2 (.t 84)),
 ro 86 (.aq .eql 2 (.t 85) (.c (.int .i64 5))),
 ro 87 (.ad (.t 86)),
 ⟨some 88, .ad (.t 2), some (87, true)⟩,
 ⟨some 89, .aq .eql 2 (.t 88) (.c (.int .i64 0)), some (87, true)⟩,
 ⟨some 90, .ad (.t 89), some (87, true)⟩,
 ⟨some 91, .ad (.t 1), some (90, false)⟩,
 ⟨some 92, .dP (.t 91), some (90, false)⟩,
 ⟨some 93, .aU 119 (.t 92) 2, some (90, false)⟩,
 ⟨some 94, .aD 117 (.t 93), some (90, false)⟩,
 ⟨some 95, .ad (.t 2), some (90, false)⟩,
 ⟨some 96, .aq .sub 2 (.t 95) (.c (.int .i64 1)), some (90, false)⟩,
 ⟨some 97, .bK 117 (.t 94) (.t 96), some (90, false)⟩,
 ⟨some 98, .aU 122 (.t 97) 0, some (90, false)⟩,
 ⟨some 99, .aD 2 (.t 98), some (90, false)⟩,
 ⟨some 100, .aq .neq 2 (.t 99) (.c (.int .i64 1)), some (90, false)⟩,
 ⟨some 101, .pick (.t 90) (.c (.bool true)) (.t 100), some (87, true)⟩,
 ro 102 (.pick (.t 87) (.t 101) (.c (.bool false)))] (some [1, 2, 7, 8, 102])) K2) ZT
def ZU : R := .seq (.seq (.U [ro 55 (.aU 122 (.t 7) 0),
 ro 56 (.aD 2 (.t 55))] (some [0, 1, 2, 7, 8, 56])) ZG) K4
def ZV : R := .seq (.U [ro 52 (.aU 122 (.t 7) 3),
 ro 53 (.aD 120 (.t 52)),
 ro 54 (.len 120 (.t 53)),
 ro 8 (.ag (.t 54))] (some [0, 1, 2, 7, 8])) ZU
def ZW : R := .seq (.seq (.U [ro 29 (.aU 122 (.t 7) 0),
 ro 30 (.aD 2 (.t 29)),
 ro 31 (.aq .eql 2 (.t 30) (.c (.int .i64 4))),
 ro 32 (.ad (.t 31)),
 ⟨some 33, .aU 122 (.t 7) 1, some (32, true)⟩,
 ⟨some 34, .aD 2 (.t 33), some (32, true)⟩,
 ⟨some 35, .call (.f 87) [(.t 34), (.c (.int .i64 1)), (.c (.int .i64 7))], some (32, true)⟩,
 ⟨some 36, .un .not (.t 35), some (32, true)⟩,
 ro 37 (.pick (.t 32) (.t 36) (.c (.bool false))),
 ro 38 (.ad (.t 37)),
 ⟨some 39, .aU 122 (.t 7) 0, some (38, false)⟩,
 ⟨some 40, .aD 2 (.t 39), some (38, false)⟩,
 ⟨some 41, .aq .eql 2 (.t 40) (.c (.int .i64 5)), some (38, false)⟩,
 ⟨some 42, .ad (.t 41), some (38, false)⟩,
 ⟨some 43, .aU 122 (.t 7) 1, some (42, true)⟩,
 ⟨some 44, .aD 2 (.t 43), some (42, true)⟩,
 ⟨some 45, .ad (.t 0), some (42, true)⟩,
 ⟨some 46, .len 32 (.t 45), some (42, true)⟩,
 ⟨some 47, .aq .sub 2 (.t 46) (.c (.int .i64 1)), some (42, true)⟩,
 ⟨some 48, .call (.f 87) [(.t 44), (.c (.int .i64 0)), (.t 47)], some (42, true)⟩,
 ⟨some 49, .un .not (.t 48), some (42, true)⟩,
 ⟨some 50, .pick (.t 42) (.t 49) (.c (.bool false)), some (38, false)⟩,
 ro 51 (.pick (.t 38) (.c (.bool true)) (.t 50))] (some [0, 1, 2, 7, 51])) K1) ZV
def ZX : R := .seq (.seq (.U [ro 20 (.aU 122 (.t 7) 0),
 ro 21 (.aD 2 (.t 20)),
 ro 22 (.aq .eql 2 (.t 21) (.c (.int .i64 1))),
 ro 23 (.ad (.t 22)),
 ⟨some 24, .aU 122 (.t 7) 2, some (23, true)⟩,
 ⟨some 25, .aD 9 (.t 24), some (23, true)⟩,
 ⟨some 26, .call (.f 161) [(.t 25)], some (23, true)⟩,
 ⟨some 27, .un .not (.t 26), some (23, true)⟩,
 ro 28 (.pick (.t 23) (.t 27) (.c (.bool false)))] (some [0, 1, 2, 7, 28])) K0) ZW
def ZY : R := .seq (.seq (.U [ro 18 (.call (.f 217) [(.t 7)]),
 ro 19 (.un .not (.t 18))] (some [0, 1, 2, 7, 19])) Zp) ZX
def ZZ : R := .seq (.U [ro 11 (.ad (.t 1)),
 ro 12 (.dP (.t 11)),
 ro 13 (.aU 119 (.t 12) 2),
 ro 14 (.aD 117 (.t 13)),
 ro 15 (.ad (.t 2)),
 ro 16 (.bK 117 (.t 14) (.t 15)),
 ro 17 (.aD 122 (.t 16)),
 ro 7 (.ey 122),
 ⟨none, .cC 122 (.t 7) (.t 17), none⟩] (some [0, 1, 2, 7])) ZY
def Z0 : R := .seq (.U [ro 6 (.ag (.c (.int .i64 0)))] (some [0, 1, 2])) ZZ
theorem Z1 : bw ⟨126, [0, 1, 2]⟩ (Tryz.f199.body.getD .skip) = some Z0.strip := by kernel_rfl
def Z2 : R := .seq (.U [ro 4 (.ag (.c (.int .i64 0))),
 ro 5 (.ag (.c (.int .i64 1)))] (some [4, 5])) .ret
def Z3 : R := .cond (.t 13) Z2 .skip
def Z4 : R := .cond (.t 20) .skip (.exit 0)
def Z5 : R := .seq (.U [ro 29 (.ad (.t 6)),
 ro 30 (.ad (.t 7)),
 ro 4 (.ag (.t 29)),
 ro 5 (.ag (.t 30))] (some [4, 5])) .ret
def Z6 : R := .cond (.t 28) Z5 .skip
def Z7 : R := .seq (.U [ro 27 (.ad (.t 7)),
 ro 28 (.aq .gtr 2 (.t 27) (.c (.int .i64 0)))] (some [0, 1, 6, 7, 28])) Z6
def Z8 : R := .U [ro 21 (.ad (.t 6)),
 ro 22 (.aq .add 2 (.t 21) (.c (.int .i64 1))),
 ro 6 (.ag (.t 22))] (some [0, 1, 6])
def Z9 : R := .seq (.block 1 (.seq (.U [ro 23 (.ad (.t 0)),
 ro 24 (.ad (.t 1)),
 ro 25 (.ad (.t 6)),
 ro 26 (.call (.f 199) [(.t 23), (.t 24), (.t 25)]),
 ro 7 (.ag (.t 26))] (some [0, 1, 6, 7])) Z7)) Z8
def K5 : R := .seq (.seq (.U [ro 14 (.ad (.t 6)),
 ro 15 (.ad (.t 1)),
 ro 16 (.dP (.t 15)),
 ro 17 (.aU 119 (.t 16) 2),
 ro 18 (.aD 117 (.t 17)),
 ro 19 (.len 117 (.t 18)),
 ro 20 (.aq .lss 2 (.t 14) (.t 19))] (some [0, 1, 6, 20])) Z4) Z9
def Z_ : R := .block 0 (.loop K5)
def aaa : R := .seq (.U [ro 4 (.ag (.c (.int .i64 0))),
 ro 5 (.ag (.c (.int .i64 0)))] (some [4, 5])) .ret
def aab : R := .seq (.seq (.U [ro 6 (.ag (.c (.int .i64 0)))] (some [0, 1, 6])) Z_) aaa
def aac : R := .seq (.seq (.U [ro 8 (.ad (.t 1)),
 ro 9 (.dP (.t 8)),
 ro 10 (.aU 119 (.t 9) 2),
 ro 11 (.aD 117 (.t 10)),
 ro 12 (.call (.f 198) [(.t 11)]),
 ro 13 (.un .not (.t 12))] (some [0, 1, 13])) Z3) aab
def aad : R := .seq (.U [ro 4 (.ag (.c (.int .i64 0))),
 ro 5 (.ag (.c (.int .i64 0)))] (some [0, 1])) aac
theorem aae : bw ⟨31, [0, 1]⟩ (Tryz.f162.body.getD .skip) = some aad.strip := by kernel_rfl
def aaf : R := .seq (.U [ro 2 (.ag (.c (.bool false)))] (some [2])) .ret
def aag : R := .cond (.t 15) aaf .skip
def aah : R := .cond (.t 19) .skip (.exit 0)
def aai : R := .seq (.U [ro 2 (.ag (.c (.bool false)))] (some [2])) .ret
def aaj : R := .cond (.t 37) aai .skip
def aak : R := .cond (.t 40) .skip (.exit 2)
def aal : R := .seq (.U [ro 2 (.ag (.c (.bool false)))] (some [2])) .ret
def aam : R := .cond (.t 53) aal .skip
def aan : R := .U [ro 41 (.ad (.t 4)),
 ro 42 (.aq .add 3 (.t 41) (.c (.int .i64 1))),
 ro 4 (.ag (.t 42))] (some [0, 3, 4])
def aao : R := .seq (.block 3 (.seq (.g8 [ro 43 (.ad (.t 0)),
 ro 44 (.ad (.t 4)),
 ro 45 (.bK 32 (.t 43) (.t 44)),
 ro 46 (.aU 119 (.t 45) 0),
 ro 47 (.aD 9 (.t 46)),
 ro 48 (.ad (.t 0)),
 ro 49 (.ad (.t 3)),
 ro 50 (.bK 32 (.t 48) (.t 49)),
 ro 51 (.aU 119 (.t 50) 0),
 ro 52 (.aD 9 (.t 51)),
 ro 53 (.aq .eql 9 (.t 47) (.t 52))] [[], [], [0, 1], [2], [3], [], [], [5, 6], [7], [8], [4, 9]] (some [0, 3, 4, 53])) aam)) aan
def K6 : R := .seq (.seq (.U [ro 38 (.ad (.t 4)),
 ro 39 (.ad (.t 3)),
 ro 40 (.aq .lss 3 (.t 38) (.t 39))] (some [0, 3, 4, 40])) aak) aao
def aap : R := .block 2 (.loop K6)
def aaq : R := .seq (.U [ro 4 (.ag (.c (.int .i64 0)))] (some [0, 3, 4])) aap
def aar : R := .U [ro 20 (.ad (.t 3)),
 ro 21 (.aq .add 3 (.t 20) (.c (.int .i64 1))),
 ro 3 (.ag (.t 21))] (some [0, 3])
def aas : R := .seq (.block 1 (.seq (.seq (.U [ro 22 (.ad (.t 0)),
 ro 23 (.ad (.t 3)),
 ro 24 (.bK 32 (.t 22) (.t 23)),
 ro 25 (.aU 119 (.t 24) 0),
 ro 26 (.aD 9 (.t 25)),
 ro 27 (.call (.f 161) [(.t 26)]),
 ro 28 (.un .not (.t 27)),
 ro 29 (.ad (.t 28)),
 ⟨some 30, .ad (.t 0), some (29, false)⟩,
 ⟨some 31, .ad (.t 3), some (29, false)⟩,
 ⟨some 32, .bK 32 (.t 30) (.t 31), some (29, false)⟩,
 ⟨some 33, .aU 119 (.t 32) 1, some (29, false)⟩,
 ⟨some 34, .aD 2 (.t 33), some (29, false)⟩,
 ⟨some 35, .call (.f 87) [(.t 34), (.c (.int .i64 0)), (.c (.int .i64 3))], some (29, false)⟩,
 ⟨some 36, .un .not (.t 35), some (29, false)⟩,
 ro 37 (.pick (.t 29) (.c (.bool true)) (.t 36))] (some [0, 3, 37])) aaj) aaq)) aar
def K7 : R := .seq (.seq (.U [ro 16 (.ad (.t 3)),
 ro 17 (.ad (.t 0)),
 ro 18 (.len 32 (.t 17)),
 ro 19 (.aq .lss 3 (.t 16) (.t 18))] (some [0, 3, 19])) aah) aas
def aat : R := .block 0 (.loop K7)
def aau : R := .cond (.t 57) .skip (.exit 4)
def aav : R := .seq (.U [ro 2 (.ag (.c (.bool false)))] (some [2])) .ret
def aaw : R := .cond (.t 69) aav .skip
def aax : R := .seq (.U [ro 68 (.ad (.t 7)),
 ro 69 (.aq .gtr 2 (.t 68) (.c (.int .i64 0)))] (some [0, 5, 69])) aaw
def aay : R := .U [ro 58 (.ad (.t 5)),
 ro 59 (.aq .add 3 (.t 58) (.c (.int .i64 1))),
 ro 5 (.ag (.t 59))] (some [0, 5])
def aaz : R := .seq (.block 5 (.seq (.U [ro 61 (.ad (.t 0)),
 ro 62 (.ad (.t 0)),
 ro 63 (.ad (.t 5)),
 ro 64 (.bK 32 (.t 62) (.t 63)),
 ro 65 (.call (.f 162) [(.t 61), (.t 64)]),
 ro 60 (.ad (.t 65)),
 ro 66 (.ex (.t 60) 0),
 ro 67 (.ex (.t 60) 1),
 ro 6 (.ag (.t 66)),
 ro 7 (.ag (.t 67))] (some [0, 5, 7])) aax)) aay
def K8 : R := .seq (.seq (.U [ro 54 (.ad (.t 5)),
 ro 55 (.ad (.t 0)),
 ro 56 (.len 32 (.t 55)),
 ro 57 (.aq .lss 3 (.t 54) (.t 56))] (some [0, 5, 57])) aau) aaz
def aaA : R := .block 4 (.loop K8)
def aaB : R := .seq (.U [ro 2 (.ag (.c (.bool true)))] (some [2])) .ret
def aaC : R := .seq (.seq (.U [ro 5 (.ag (.c (.int .i64 0)))] (some [0, 5])) aaA) aaB
def aaD : R := .seq (.seq (.U [ro 3 (.ag (.c (.int .i64 0)))] (some [0, 3])) aat) aaC
def aaE : R := .seq (.seq (.U [ro 8 (.ad (.t 0)),
 ro 9 (.len 32 (.t 8)),
 ro 10 (.aq .eql 3 (.t 9) (.c (.int .i64 0))),
 ro 11 (.ad (.t 10)),
 ⟨some 12, .ad (.t 0), some (11, false)⟩,
 ⟨some 13, .len 32 (.t 12), some (11, false)⟩,
 ⟨some 14, .aq .gtr 3 (.t 13) (.c (.int .i64 4)), some (11, false)⟩,
 ro 15 (.pick (.t 11) (.c (.bool true)) (.t 14))] (some [0, 15])) aag) aaD
def aaF : R := .seq (.U [ro 2 (.ag (.c (.bool false)))] (some [0])) aaE
theorem aaG : bw ⟨70, [0]⟩ (Tryz.f122.body.getD .skip) = some aaF.strip := by kernel_rfl
def aaH : R := .cond (.t 7) .skip (.exit 0)
def aaI : R := .seq (.U [ro 2 (.ag (.c (.bool false)))] (some [2])) .ret
def aaJ : R := .cond (.t 15) aaI .skip
def aaK : R := .U [ro 8 (.ad (.t 3)),
 ro 9 (.aq .add 3 (.t 8) (.c (.int .i64 1))),
 ro 3 (.ag (.t 9))] (some [0, 3])
def aaL : R := .seq (.block 1 (.seq (.U [ro 10 (.ad (.t 0)),
 ro 11 (.ad (.t 3)),
 ro 12 (.bK 43 (.t 10) (.t 11)),
 ro 13 (.aD 2 (.t 12)),
 ro 14 (.call (.f 87) [(.t 13), (.c (.int .i64 0)), (.c (.int .i64 63))]),
 ro 15 (.un .not (.t 14))] (some [0, 3, 15])) aaJ)) aaK
def K9 : R := .seq (.seq (.U [ro 4 (.ad (.t 3)),
 ro 5 (.ad (.t 0)),
 ro 6 (.len 43 (.t 5)),
 ro 7 (.aq .lss 3 (.t 4) (.t 6))] (some [0, 3, 7])) aaH) aaL
def aaM : R := .block 0 (.loop K9)
def aaN : R := .seq (.U [ro 2 (.ag (.c (.bool true)))] (some [2])) .ret
def aaO : R := .seq (.seq (.U [ro 3 (.ag (.c (.int .i64 0)))] (some [0, 3])) aaM) aaN
def aaP : R := .seq (.U [ro 2 (.ag (.c (.bool false)))] (some [0])) aaO
theorem aaQ : bw ⟨16, [0]⟩ (Tryz.f138.body.getD .skip) = some aaP.strip := by kernel_rfl
def aaR : R := .seq (.U [ro 2 (.ag (.c (.bool false)))] (some [2])) .ret
def aaS : R := .cond (.t 18) aaR .skip
def aaT : R := .cond (.t 25) .skip (.exit 0)
def aaU : R := .seq (.U [ro 2 (.ag (.c (.bool false)))] (some [2])) .ret
def aaV : R := .cond (.t 44) aaU .skip
def aaW : R := .seq (.U [ro 2 (.ag (.c (.bool false)))] (some [2])) .ret
def aaX : R := .cond (.t 63) aaW .skip
def aaY : R := .seq (.g8 [ro 45 (.aU 124 (.t 4) 1),
 ro 46 (.aD 43 (.t 45)),
 ro 47 (.len 43 (.t 46)),
 ro 48 (.ad (.t 0)),
 ro 49 (.dP (.t 48)),
 ro 50 (.aU 36 (.t 49) 0),
 ro 51 (.aD 32 (.t 50)),
 ro 52 (.aU 124 (.t 4) 0),
 ro 53 (.aD 2 (.t 52)),
 ro 54 (.bK 32 (.t 51) (.t 53)),
 ro 55 (.aU 119 (.t 54) 1),
 ro 56 (.aD 2 (.t 55)),
 ro 57 (.aq .neq 2 (.t 47) (.t 56)),
 ro 58 (.ad (.t 57)),
 ⟨some 59, .aU 124 (.t 4) 1, some (58, false)⟩,
 ⟨some 60, .aD 43 (.t 59), some (58, false)⟩,
 ⟨some 61, .call (.f 138) [(.t 60)], some (58, false)⟩,
 ⟨some 62, .un .not (.t 61), some (58, false)⟩,
 ro 63 (.pick (.t 58) (.c (.bool true)) (.t 62))] [[], [0], [1], [], [3], [4], [5], [], [7], [6, 8], [9], [10], [2, 11], [12], [13], [14, 13], [15, 13, 13], [16, 13], [13, 17]] (some [0, 3, 63])) aaX
def aaZ : R := .seq (.seq (.g8 [ro 35 (.aU 124 (.t 4) 0),
 ro 36 (.aD 2 (.t 35)),
 ro 37 (.ad (.t 0)),
 ro 38 (.dP (.t 37)),
 ro 39 (.aU 36 (.t 38) 0),
 ro 40 (.aD 32 (.t 39)),
 ro 41 (.len 32 (.t 40)),
 ro 42 (.aq .sub 2 (.t 41) (.c (.int .i64 1))),
 ro 43 (.call (.f 87) [(.t 36), (.c (.int .i64 0)), (.t 42)]),
 ro 44 (.un .not (.t 43))] [[], [0], [], [2], [3], [4], [5], [6], [1, 7], [8]] (some [0, 3, 4, 44])) aaV) aaY
def aa0 : R := .U [ro 26 (.ad (.t 3)),
 ro 27 (.aq .add 3 (.t 26) (.c (.int .i64 1))),
 ro 3 (.ag (.t 27))] (some [0, 3])
def aa1 : R := .seq (.block 1 (.seq (.U [ro 28 (.ad (.t 0)),
 ro 29 (.dP (.t 28)),
 ro 30 (.aU 36 (.t 29) 1),
 ro 31 (.aD 33 (.t 30)),
 ro 32 (.ad (.t 3)),
 ro 33 (.bK 33 (.t 31) (.t 32)),
 ro 34 (.aD 124 (.t 33)),
 ro 4 (.ey 124),
 ⟨none, .cC 124 (.t 4) (.t 34), none⟩] (some [0, 3, 4])) aaZ)) aa0
def K_ : R := .seq (.seq (.U [ro 19 (.ad (.t 3)),
 ro 20 (.ad (.t 0)),
 ro 21 (.dP (.t 20)),
 ro 22 (.aU 36 (.t 21) 1),
 ro 23 (.aD 33 (.t 22)),
 ro 24 (.len 33 (.t 23)),
 ro 25 (.aq .lss 3 (.t 19) (.t 24))] (some [0, 3, 25])) aaT) aa1
def aa2 : R := .block 0 (.loop K_)
def aa3 : R := .seq (.U [ro 2 (.ag (.c (.bool true)))] (some [2])) .ret
def aa4 : R := .seq (.seq (.U [ro 3 (.ag (.c (.int .i64 0)))] (some [0, 3])) aa2) aa3
def aa5 : R := .seq (.seq (.U [ro 5 (.ad (.t 0)),
 ro 6 (.dP (.t 5)),
 ro 7 (.aU 36 (.t 6) 1),
 ro 8 (.aD 33 (.t 7)),
 ro 9 (.len 33 (.t 8)),
 ro 10 (.aq .eql 3 (.t 9) (.c (.int .i64 0))),
 ro 11 (.ad (.t 10)),
 ⟨some 12, .ad (.t 0), some (11, false)⟩,
 ⟨some 13, .dP (.t 12), some (11, false)⟩,
 ⟨some 14, .aU 36 (.t 13) 1, some (11, false)⟩,
 ⟨some 15, .aD 33 (.t 14), some (11, false)⟩,
 ⟨some 16, .len 33 (.t 15), some (11, false)⟩,
 ⟨some 17, .aq .gtr 3 (.t 16) (.c (.int .i64 3)), some (11, false)⟩,
 ro 18 (.pick (.t 11) (.c (.bool true)) (.t 17))] (some [0, 18])) aaS) aa4
def aa6 : R := .seq (.U [ro 2 (.ag (.c (.bool false)))] (some [0])) aa5
theorem aa7 : bw ⟨64, [0]⟩ (Tryz.f123.body.getD .skip) = some aa6.strip := by kernel_rfl
def aa8 : R := .seq (.U [ro 3 (.ad (.t 0)),
 ro 4 (.call (.f 161) [(.t 3)]),
 ro 5 (.ad (.t 4)),
 ⟨some 6, .ad (.t 0), some (5, true)⟩,
 ⟨some 7, .aq .neq 9 (.t 6) (.c (.str [116, 97, 117])), some (5, true)⟩,
 ro 8 (.pick (.t 5) (.t 7) (.c (.bool false))),
 ro 2 (.ag (.t 8))] (some [2])) .ret
def aa9 : R := .seq (.U [ro 2 (.ag (.c (.bool false)))] (some [0])) aa8
theorem aa_ : bw ⟨9, [0]⟩ (Tryz.f141.body.getD .skip) = some aa9.strip := by kernel_rfl
def aba : R := .seq (.U [ro 2 (.ag (.c (.bool false)))] (some [2])) .ret
def abb : R := .cond (.t 8) aba .skip
def abc : R := .cond (.t 12) .skip (.exit 0)
def abd : R := .seq (.U [ro 2 (.ag (.c (.bool false)))] (some [2])) .ret
def abe : R := .cond (.t 41) abd .skip
def abf : R := .seq (.U [ro 2 (.ag (.c (.bool false)))] (some [2])) .ret
def abg : R := .cond (.t 76) abf .skip
def abh : R := .cond (.t 80) .skip (.exit 2)
def abi : R := .seq (.U [ro 2 (.ag (.c (.bool false)))] (some [2])) .ret
def abj : R := .cond (.t 100) abi .skip
def abk : R := .U [ro 81 (.ad (.t 5)),
 ro 82 (.aq .add 3 (.t 81) (.c (.int .i64 1))),
 ro 5 (.ag (.t 82))] (some [0, 3, 4, 5])
def abl : R := .seq (.block 3 (.seq (.g8 [ro 83 (.ad (.t 0)),
 ro 84 (.ad (.t 5)),
 ro 85 (.bK 34 (.t 83) (.t 84)),
 ro 86 (.aU 126 (.t 85) 0),
 ro 87 (.aD 9 (.t 86)),
 ro 88 (.aU 126 (.t 4) 2),
 ro 89 (.aD 9 (.t 88)),
 ro 90 (.aq .eql 9 (.t 87) (.t 89)),
 ro 91 (.ad (.t 90)),
 ⟨some 92, .ad (.t 0), some (91, false)⟩,
 ⟨some 93, .ad (.t 5), some (91, false)⟩,
 ⟨some 94, .bK 34 (.t 92) (.t 93), some (91, false)⟩,
 ⟨some 95, .aU 126 (.t 94) 1, some (91, false)⟩,
 ⟨some 96, .aD 9 (.t 95), some (91, false)⟩,
 ⟨some 97, .aU 126 (.t 4) 2, some (91, false)⟩,
 ⟨some 98, .aD 9 (.t 97), some (91, false)⟩,
 ⟨some 99, .aq .eql 9 (.t 96) (.t 98), some (91, false)⟩,
 ro 100 (.pick (.t 91) (.c (.bool true)) (.t 99))] [[], [], [0, 1], [2], [3], [], [5], [4, 6], [7], [8], [8], [9, 10, 8], [11, 8], [12, 8], [8], [14, 8], [13, 15, 8], [8, 16]] (some [0, 3, 4, 5, 100])) abj)) abk
def Fv : R := .seq (.seq (.U [ro 77 (.ad (.t 5)),
 ro 78 (.ad (.t 0)),
 ro 79 (.len 34 (.t 78)),
 ro 80 (.aq .lss 3 (.t 77) (.t 79))] (some [0, 3, 4, 5, 80])) abh) abl
def abm : R := .block 2 (.loop Fv)
def abn : R := .seq (.U [ro 5 (.ag (.c (.int .i64 0)))] (some [0, 3, 4, 5])) abm
def abo : R := .seq (.seq (.g8 [ro 42 (.ad (.t 3)),
 ro 43 (.aq .gtr 3 (.t 42) (.c (.int .i64 0))),
 ro 44 (.ad (.t 43)),
 ⟨some 45, .ad (.t 0), some (44, true)⟩,
 ⟨some 46, .ad (.t 3), some (44, true)⟩,
 ⟨some 47, .aq .sub 3 (.t 46) (.c (.int .i64 1)), some (44, true)⟩,
 ⟨some 48, .bK 34 (.t 45) (.t 47), some (44, true)⟩,
 ⟨some 49, .aU 126 (.t 48) 0, some (44, true)⟩,
 ⟨some 50, .aD 9 (.t 49), some (44, true)⟩,
 ⟨some 51, .aU 126 (.t 4) 0, some (44, true)⟩,
 ⟨some 52, .aD 9 (.t 51), some (44, true)⟩,
 ⟨some 53, .aq .gtr 9 (.t 50) (.t 52), some (44, true)⟩,
 ⟨some 54, .ad (.t 53), some (44, true)⟩,
 ⟨some 55, .ad (.t 0), some (54, false)⟩,
 ⟨some 56, .ad (.t 3), some (54, false)⟩,
 ⟨some 57, .aq .sub 3 (.t 56) (.c (.int .i64 1)), some (54, false)⟩,
 ⟨some 58, .bK 34 (.t 55) (.t 57), some (54, false)⟩,
 ⟨some 59, .aU 126 (.t 58) 0, some (54, false)⟩,
 ⟨some 60, .aD 9 (.t 59), some (54, false)⟩,
 ⟨some 61, .aU 126 (.t 4) 0, some (54, false)⟩,
 ⟨some 62, .aD 9 (.t 61), some (54, false)⟩,
 ⟨some 63, .aq .eql 9 (.t 60) (.t 62), some (54, false)⟩,
 ⟨some 64, .ad (.t 63), some (54, false)⟩,
 ⟨some 65, .ad (.t 0), some (64, true)⟩,
 ⟨some 66, .ad (.t 3), some (64, true)⟩,
 ⟨some 67, .aq .sub 3 (.t 66) (.c (.int .i64 1)), some (64, true)⟩,
 ⟨some 68, .bK 34 (.t 65) (.t 67), some (64, true)⟩,
 ⟨some 69, .aU 126 (.t 68) 1, some (64, true)⟩,
 ⟨some 70, .aD 9 (.t 69), some (64, true)⟩,
 ⟨some 71, .aU 126 (.t 4) 1, some (64, true)⟩,
 ⟨some 72, .aD 9 (.t 71), some (64, true)⟩,
 ⟨some 73, .aq .geq 9 (.t 70) (.t 72), some (64, true)⟩,
 ⟨some 74, .pick (.t 64) (.t 73) (.c (.bool false)), some (54, false)⟩,
 ⟨some 75, .pick (.t 54) (.c (.bool true)) (.t 74), some (44, true)⟩,
 ro 76 (.pick (.t 44) (.t 75) (.c (.bool false)))] [[], [0], [1], [2], [2], [4, 2], [3, 5, 2], [6, 2], [7, 2], [2], [9, 2], [8, 10, 2], [11, 2, 2], [12], [12], [14, 12], [13, 15, 12], [16, 12], [17, 12], [12], [19, 12], [18, 20, 12], [21, 12, 12], [22], [22], [24, 22], [23, 25, 22], [26, 22], [27, 22], [22], [29, 22], [28, 30, 22], [22, 31, 12], [12, 32, 2], [2, 33]] (some [0, 3, 4, 76])) abg) abn
def abp : R := .seq (.seq (.U [ro 19 (.aU 126 (.t 4) 0),
 ro 20 (.aD 9 (.t 19)),
 ro 21 (.call (.f 141) [(.t 20)]),
 ro 22 (.un .not (.t 21)),
 ro 23 (.ad (.t 22)),
 ⟨some 24, .aU 126 (.t 4) 1, some (23, false)⟩,
 ⟨some 25, .aD 9 (.t 24), some (23, false)⟩,
 ⟨some 26, .call (.f 141) [(.t 25)], some (23, false)⟩,
 ⟨some 27, .un .not (.t 26), some (23, false)⟩,
 ro 28 (.pick (.t 23) (.c (.bool true)) (.t 27)),
 ro 29 (.ad (.t 28)),
 ⟨some 30, .aU 126 (.t 4) 2, some (29, false)⟩,
 ⟨some 31, .aD 9 (.t 30), some (29, false)⟩,
 ⟨some 32, .call (.f 141) [(.t 31)], some (29, false)⟩,
 ⟨some 33, .un .not (.t 32), some (29, false)⟩,
 ro 34 (.pick (.t 29) (.c (.bool true)) (.t 33)),
 ro 35 (.ad (.t 34)),
 ⟨some 36, .aU 126 (.t 4) 0, some (35, false)⟩,
 ⟨some 37, .aD 9 (.t 36), some (35, false)⟩,
 ⟨some 38, .aU 126 (.t 4) 1, some (35, false)⟩,
 ⟨some 39, .aD 9 (.t 38), some (35, false)⟩,
 ⟨some 40, .aq .gtr 9 (.t 37) (.t 39), some (35, false)⟩,
 ro 41 (.pick (.t 35) (.c (.bool true)) (.t 40))] (some [0, 3, 4, 41])) abe) abo
def abq : R := .U [ro 13 (.ad (.t 3)),
 ro 14 (.aq .add 3 (.t 13) (.c (.int .i64 1))),
 ro 3 (.ag (.t 14))] (some [0, 3])
def abr : R := .seq (.block 1 (.seq (.U [ro 15 (.ad (.t 0)),
 ro 16 (.ad (.t 3)),
 ro 17 (.bK 34 (.t 15) (.t 16)),
 ro 18 (.aD 126 (.t 17)),
 ro 4 (.ey 126),
 ⟨none, .cC 126 (.t 4) (.t 18), none⟩] (some [0, 3, 4])) abp)) abq
def La : R := .seq (.seq (.U [ro 9 (.ad (.t 3)),
 ro 10 (.ad (.t 0)),
 ro 11 (.len 34 (.t 10)),
 ro 12 (.aq .lss 3 (.t 9) (.t 11))] (some [0, 3, 12])) abc) abr
def abt : R := .block 0 (.loop La)
def abu : R := .seq (.U [ro 2 (.ag (.c (.bool true)))] (some [2])) .ret
def abv : R := .seq (.seq (.U [ro 3 (.ag (.c (.int .i64 0)))] (some [0, 3])) abt) abu
def abw : R := .seq (.seq (.U [ro 6 (.ad (.t 0)),
 ro 7 (.len 34 (.t 6)),
 ro 8 (.aq .gtr 3 (.t 7) (.c (.int .i64 6)))] (some [0, 8])) abb) abv
def abx : R := .seq (.U [ro 2 (.ag (.c (.bool false)))] (some [0])) abw
theorem aby : bw ⟨101, [0]⟩ (Tryz.f124.body.getD .skip) = some abx.strip := by kernel_rfl
def abz : R := .cond (.t 7) .skip (.exit 0)
def abA : R := .seq (.U [ro 2 (.ag (.c (.bool false)))] (some [2])) .ret
def abB : R := .cond (.t 15) abA .skip
def abC : R := .U [ro 8 (.ad (.t 3)),
 ro 9 (.aq .add 3 (.t 8) (.c (.int .i64 1))),
 ro 3 (.ag (.t 9))] (some [0, 3])
def abD : R := .seq (.block 1 (.seq (.U [ro 10 (.ad (.t 0)),
 ro 11 (.ad (.t 3)),
 ro 12 (.bK 25 (.t 10) (.t 11)),
 ro 13 (.aD 9 (.t 12)),
 ro 14 (.call (.f 141) [(.t 13)]),
 ro 15 (.un .not (.t 14))] (some [0, 3, 15])) abB)) abC
def Lb : R := .seq (.seq (.U [ro 4 (.ad (.t 3)),
 ro 5 (.ad (.t 0)),
 ro 6 (.len 25 (.t 5)),
 ro 7 (.aq .lss 3 (.t 4) (.t 6))] (some [0, 3, 7])) abz) abD
def abE : R := .block 0 (.loop Lb)
def abF : R := .seq (.U [ro 2 (.ag (.c (.bool true)))] (some [2])) .ret
def abG : R := .seq (.seq (.U [ro 3 (.ag (.c (.int .i64 0)))] (some [0, 3])) abE) abF
def abH : R := .seq (.U [ro 2 (.ag (.c (.bool false)))] (some [0])) abG
theorem abI : bw ⟨16, [0]⟩ (Tryz.f163.body.getD .skip) = some abH.strip := by kernel_rfl
def abJ : R := .seq (.U [ro 2 (.ag (.c (.bool false)))] (some [2])) .ret
def abK : R := .cond (.t 11) abJ .skip
def abL : R := .cond (.t 15) .skip (.exit 0)
def abM : R := .seq (.U [ro 2 (.ag (.c (.bool false)))] (some [2])) .ret
def abN : R := .cond (.t 27) abM .skip
def abO : R := .U [ro 16 (.ad (.t 3)),
 ro 17 (.aq .add 3 (.t 16) (.c (.int .i64 1))),
 ro 3 (.ag (.t 17))] (some [0, 3])
def abP : R := .seq (.block 1 (.seq (.g8 [ro 18 (.ad (.t 0)),
 ro 19 (.ad (.t 3)),
 ro 20 (.aq .sub 3 (.t 19) (.c (.int .i64 1))),
 ro 21 (.bK 25 (.t 18) (.t 20)),
 ro 22 (.aD 9 (.t 21)),
 ro 23 (.ad (.t 0)),
 ro 24 (.ad (.t 3)),
 ro 25 (.bK 25 (.t 23) (.t 24)),
 ro 26 (.aD 9 (.t 25)),
 ro 27 (.aq .geq 9 (.t 22) (.t 26))] [[], [], [1], [0, 2], [3], [], [], [5, 6], [7], [4, 8]] (some [0, 3, 27])) abN)) abO
def Lc : R := .seq (.seq (.U [ro 12 (.ad (.t 3)),
 ro 13 (.ad (.t 0)),
 ro 14 (.len 25 (.t 13)),
 ro 15 (.aq .lss 3 (.t 12) (.t 14))] (some [0, 3, 15])) abL) abP
def abQ : R := .block 0 (.loop Lc)
def abR : R := .seq (.U [ro 2 (.ag (.c (.bool true)))] (some [2])) .ret
def abS : R := .seq (.seq (.U [ro 3 (.ag (.c (.int .i64 1)))] (some [0, 3])) abQ) abR
def abT : R := .seq (.seq (.U [ro 4 (.ad (.t 0)),
 ro 5 (.len 25 (.t 4)),
 ro 6 (.aq .gtr 3 (.t 5) (.c (.int .i64 12))),
 ro 7 (.ad (.t 6)),
 ⟨some 8, .ad (.t 0), some (7, false)⟩,
 ⟨some 9, .call (.f 163) [(.t 8)], some (7, false)⟩,
 ⟨some 10, .un .not (.t 9), some (7, false)⟩,
 ro 11 (.pick (.t 7) (.c (.bool true)) (.t 10))] (some [0, 11])) abK) abS
def abU : R := .seq (.U [ro 2 (.ag (.c (.bool false)))] (some [0])) abT
theorem abV : bw ⟨28, [0]⟩ (Tryz.f125.body.getD .skip) = some abU.strip := by kernel_rfl
def abW : R := .seq (.U [ro 2 (.ag (.c (.int .i64 1)))] (some [2])) .ret
def abX : R := .cond (.t 8) abW .skip
def abY : R := .seq (.U [ro 2 (.ag (.c (.int .i64 2)))] (some [2])) .ret
def abZ : R := .cond (.t 11) abY .skip
def ab0 : R := .seq (.U [ro 2 (.ag (.c (.int .i64 3)))] (some [2])) .ret
def ab1 : R := .cond (.t 17) ab0 .skip
def ab2 : R := .seq (.U [ro 2 (.ag (.c (.int .i64 4)))] (some [2])) .ret
def ab3 : R := .cond (.t 23) ab2 .skip
def ab4 : R := .seq (.U [ro 2 (.ag (.c (.int .i64 5)))] (some [2])) .ret
def ab5 : R := .cond (.t 29) ab4 .skip
def ab6 : R := .seq (.U [ro 2 (.ag (.c (.int .i64 0)))] (some [2])) .ret
def ab7 : R := .seq (.seq (.U [ro 24 (.ad (.t 0)),
 ro 25 (.dP (.t 24)),
 ro 26 (.aU 36 (.t 25) 4),
 ro 27 (.aD 25 (.t 26)),
 ro 28 (.call (.f 125) [(.t 27)]),
 ro 29 (.un .not (.t 28))] (some [29])) ab5) ab6
def ab8 : R := .seq (.seq (.U [ro 18 (.ad (.t 0)),
 ro 19 (.dP (.t 18)),
 ro 20 (.aU 36 (.t 19) 3),
 ro 21 (.aD 25 (.t 20)),
 ro 22 (.call (.f 125) [(.t 21)]),
 ro 23 (.un .not (.t 22))] (some [0, 23])) ab3) ab7
def ab9 : R := .seq (.seq (.U [ro 12 (.ad (.t 0)),
 ro 13 (.dP (.t 12)),
 ro 14 (.aU 36 (.t 13) 2),
 ro 15 (.aD 34 (.t 14)),
 ro 16 (.call (.f 124) [(.t 15)]),
 ro 17 (.un .not (.t 16))] (some [0, 17])) ab1) ab8
def ab_ : R := .seq (.seq (.U [ro 9 (.ad (.t 0)),
 ro 10 (.call (.f 123) [(.t 9)]),
 ro 11 (.un .not (.t 10))] (some [0, 11])) abZ) ab9
def aca : R := .seq (.seq (.U [ro 3 (.ad (.t 0)),
 ro 4 (.dP (.t 3)),
 ro 5 (.aU 36 (.t 4) 0),
 ro 6 (.aD 32 (.t 5)),
 ro 7 (.call (.f 122) [(.t 6)]),
 ro 8 (.un .not (.t 7))] (some [0, 8])) abX) ab_
def acb : R := .seq (.U [ro 2 (.ag (.c (.int .i64 0)))] (some [0])) aca
theorem acd : bw ⟨30, [0]⟩ (Tryz.f75.body.getD .skip) = some acb.strip := by kernel_rfl
def ace : R := .seq (.U [ro 3 (.ad (.t 0)),
 ro 4 (.call (.f 75) [(.t 3)]),
 ro 5 (.aq .eql 2 (.t 4) (.c (.int .i64 0))),
 ro 2 (.ag (.t 5))] (some [2])) .ret
def acf : R := .seq (.U [ro 2 (.ag (.c (.bool false)))] (some [0])) ace
theorem acg : bw ⟨6, [0]⟩ (Tryz.f37.body.getD .skip) = some acf.strip := by kernel_rfl
def ach : R := .cond (.t 14) .skip (.exit 0)
def aci : R := .cond (.t 33) .skip (.exit 2)
def acj : R := .U [ro 51 (.ad (.t 3)),
 ro 52 (.ad (.t 4)),
 ro 53 (.ad (.t 6)),
 ro 54 (.eh 43 2 [(0, (.t 52)), (1, (.t 53))]),
 ro 55 (.eh 29 1 [(0, (.t 54))]),
 ro 56 (.app 29 29 (.t 51) (.t 55)),
 ro 3 (.ag (.t 56))] (some [0, 3, 4, 5, 6])
def ack : R := .cond (.t 50) acj .skip
def Ld : R := .U [ro 34 (.ad (.t 6)),
 ro 35 (.aq .add 3 (.t 34) (.c (.int .i64 1))),
 ro 6 (.ag (.t 35))] (some [0, 3, 4, 5, 6])
def acm : R := .seq (.block 3 (.seq (.U [ro 36 (.ad (.t 5)),
 ro 37 (.ad (.t 6)),
 ro 38 (.aq .sub 3 (.t 37) (.c (.int .i64 1))),
 ro 39 (.bK 117 (.t 36) (.t 38)),
 ro 40 (.aU 122 (.t 39) 0),
 ro 41 (.aD 2 (.t 40)),
 ro 42 (.aq .eql 2 (.t 41) (.c (.int .i64 1))),
 ro 43 (.ad (.t 42)),
 ⟨some 44, .ad (.t 5), some (43, true)⟩,
 ⟨some 45, .ad (.t 6), some (43, true)⟩,
 ⟨some 46, .bK 117 (.t 44) (.t 45), some (43, true)⟩,
 ⟨some 47, .aU 122 (.t 46) 0, some (43, true)⟩,
 ⟨some 48, .aD 2 (.t 47), some (43, true)⟩,
 ⟨some 49, .aq .neq 2 (.t 48) (.c (.int .i64 5)), some (43, true)⟩,
 ro 50 (.pick (.t 43) (.t 49) (.c (.bool false)))] (some [0, 3, 4, 5, 6, 50])) ack)) Ld
def Le : R := .seq (.seq (.U [ro 30 (.ad (.t 6)),
 ro 31 (.ad (.t 5)),
 ro 32 (.len 117 (.t 31)),
 ro 33 (.aq .lss 3 (.t 30) (.t 32))] (some [0, 3, 4, 5, 6, 33])) aci) acm
def acn : R := .block 2 (.loop Le)
def aco : R := .seq (.U [ro 6 (.ag (.c (.int .i64 1)))] (some [0, 3, 4, 5, 6])) acn
def acp : R := .seq (.U [ro 25 (.ad (.t 3)),
 ro 26 (.ad (.t 4)),
 ro 27 (.eh 43 2 [(0, (.t 26)), (1, (.c (.int .i64 0)))]),
 ro 28 (.eh 29 1 [(0, (.t 27))]),
 ro 29 (.app 29 29 (.t 25) (.t 28)),
 ro 3 (.ag (.t 29))] (some [0, 3, 4, 5])) aco
def acq : R := .U [ro 15 (.ad (.t 4)),
 ro 16 (.aq .add 3 (.t 15) (.c (.int .i64 1))),
 ro 4 (.ag (.t 16))] (some [0, 3, 4])
def acr : R := .seq (.block 1 (.seq (.U [ro 17 (.ad (.t 0)),
 ro 18 (.dP (.t 17)),
 ro 19 (.aU 36 (.t 18) 0),
 ro 20 (.aD 32 (.t 19)),
 ro 21 (.ad (.t 4)),
 ro 22 (.bK 32 (.t 20) (.t 21)),
 ro 23 (.aU 119 (.t 22) 2),
 ro 24 (.aD 117 (.t 23)),
 ro 5 (.ag (.t 24))] (some [0, 3, 4, 5])) acp)) acq
def Lf : R := .seq (.seq (.U [ro 8 (.ad (.t 4)),
 ro 9 (.ad (.t 0)),
 ro 10 (.dP (.t 9)),
 ro 11 (.aU 36 (.t 10) 0),
 ro 12 (.aD 32 (.t 11)),
 ro 13 (.len 32 (.t 12)),
 ro 14 (.aq .lss 3 (.t 8) (.t 13))] (some [0, 3, 4, 14])) ach) acr
def acs : R := .block 0 (.loop Lf)
def acu : R := .seq (.U [ro 57 (.ad (.t 3)),
 ro 2 (.ag (.t 57))] (some [2])) .ret
def acv : R := .seq (.seq (.U [ro 4 (.ag (.c (.int .i64 0)))] (some [0, 3, 4])) acs) acu
def acw : R := .seq (.U [ro 7 (.eh 29 0 []),
 ro 3 (.ag (.t 7))] (some [0, 3])) acv
def acx : R := .seq (.U [ro 2 (.ag (.c .bg))] (some [0])) acw
theorem acy : bw ⟨58, [0]⟩ (Tryz.f38.body.getD .skip) = some acx.strip := by kernel_rfl
def acz : R := .seq (.U [ro 2 (.ag (.c .bg)),
 ro 3 (.ag (.c (.int .i64 1)))] (some [2, 3])) .ret
def acA : R := .cond (.t 6) acz .skip
def acB : R := .seq (.U [ro 2 (.ag (.c .bg)),
 ro 3 (.ag (.c (.int .i64 5)))] (some [2, 3])) .ret
def acC : R := .cond (.t 10) acB .skip
def acD : R := .seq (.U [ro 11 (.ad (.t 4)),
 ro 2 (.ag (.t 11)),
 ro 3 (.ag (.c (.int .i64 0)))] (some [2, 3])) .ret
def acE : R := .seq (.seq (.U [ro 8 (.ad (.t 4)),
 ro 9 (.len 29 (.t 8)),
 ro 10 (.aq .gtr 3 (.t 9) (.c (.int .i64 64)))] (some [4, 10])) acC) acD
def acF : R := .seq (.U [ro 7 (.call (.f 38) [(.t 1)]),
 ro 4 (.ag (.t 7))] (some [4])) acE
def acG : R := .seq (.seq (.U [ro 5 (.call (.f 37) [(.t 1)]),
 ro 6 (.un .not (.t 5))] (some [1, 6])) acA) acF
def DQ : R := .seq (.U [ro 1 (.c7 36 (.t 0)),
 ro 2 (.ag (.c .bg)),
 ro 3 (.ag (.c (.int .i64 0)))] (some [1])) acG
theorem x2 : bw ⟨12, [0]⟩ (Tryz.f8.body.getD .skip) = some DQ.strip := by kernel_rfl
def acH : R := .seq (.U [ro 7 (.ad (.t 0)),
 ro 8 (.ad (.t 1)),
 ro 9 (.aq .geq 2 (.t 7) (.t 8)),
 ro 10 (.ad (.t 9)),
 ⟨some 11, .ad (.t 0), some (10, true)⟩,
 ⟨some 12, .ad (.t 2), some (10, true)⟩,
 ⟨some 13, .aq .leq 2 (.t 11) (.t 12), some (10, true)⟩,
 ro 14 (.pick (.t 10) (.t 13) (.c (.bool false))),
 ro 6 (.ag (.t 14))] (some [6])) .ret
def acI : R := .seq (.U [ro 6 (.ag (.c (.bool false)))] (some [0, 1, 2])) acH
theorem acJ : bw ⟨15, [0, 1, 2]⟩ (Tryz.f95.body.getD .skip) = some acI.strip := by kernel_rfl
def acK : R := .seq (.U [ro 3 (.aU 119 (.t 1) 1),
 ro 4 (.aD 2 (.t 3)),
 ro 5 (.call (.f 95) [(.t 4), (.c (.int .i64 0)), (.c (.int .i64 3))]),
 ro 6 (.un .not (.t 5)),
 ro 2 (.ag (.t 6))] (some [2])) .ret
def acL : R := .seq (.U [ro 1 (.c7 119 (.t 0)),
 ro 2 (.ag (.c (.bool false)))] (some [1])) acK
theorem acM : bw ⟨7, [0]⟩ (Tryz.f201.body.getD .skip) = some acL.strip := by kernel_rfl
def acN : R := .seq (.U [ro 17 (.ad (.t 5)),
 ro 4 (.ag (.t 17))] (some [4])) .ret
def acO : R := .cond (.t 16) acN .skip
def acP : R := .seq (.U [ro 11 (.ad (.t 1)),
 ro 12 (.ad (.t 0)),
 ro 13 (.ad (.t 5)),
 ro 14 (.bK 32 (.t 12) (.t 13)),
 ro 15 (.aD 119 (.t 14)),
 ro 16 (.call (.t 11) [(.t 15)])] (some [0, 1, 5, 7, 8, 16])) acO
def acQ : R := .U [ro 18 (.aq .add 3 (.t 8) (.c (.int .i64 1))),
 ro 8 (.ad (.t 18))] (some [0, 1, 7, 8])
def acR : R := .seq (.block 1 (.seq (.U [ro 10 (.ad (.t 8)),
 ro 5 (.ag (.t 10))] (some [0, 1, 5, 7, 8])) acP)) acQ
def acS : R := .seq (.cond (.t 9) .skip (.exit 0)) acR
def Lg : R := .seq (.U [ro 9 (.aq .lss 3 (.t 8) (.t 7))] (some [0, 1, 7, 8, 9])) acS
def acT : R := .block 0 (.loop Lg)
def acU : R := .seq (.U [ro 4 (.ag (.c (.int .i64 (-1))))] (some [4])) .ret
def acV : R := .seq (.seq (.U [ro 6 (.ad (.t 0)),
 ro 7 (.len 32 (.t 6)),
 ro 8 (.ad (.c (.int .i64 0)))] (some [0, 1, 7, 8])) acT) acU
def acW : R := .seq (.U [ro 4 (.ag (.c (.int .i64 0)))] (some [0, 1])) acV
theorem acX : bw ⟨19, [0, 1]⟩ (Tryz.f203.body.getD .skip) = some acW.strip := by kernel_rfl
def acY : R := .seq (.U [ro 5 (.ad (.t 0)),
 ro 6 (.ad (.t 1)),
 ro 7 (.call (.f 203) [(.t 5), (.t 6)]),
 ro 8 (.aq .geq 3 (.t 7) (.c (.int .i64 0))),
 ro 4 (.ag (.t 8))] (some [4])) .ret
def acZ : R := .seq (.U [ro 4 (.ag (.c (.bool false)))] (some [0, 1])) acY
theorem ac0 : bw ⟨9, [0, 1]⟩ (Tryz.f200.body.getD .skip) = some acZ.strip := by kernel_rfl
def ac1 : R := .seq (.U [ro 3 (.ad (.t 0)),
 ro 4 (.call (.f 200) [(.t 3), (.f 201)]),
 ro 5 (.un .not (.t 4)),
 ro 2 (.ag (.t 5))] (some [2])) .ret
def ac2 : R := .seq (.U [ro 2 (.ag (.c (.bool false)))] (some [0])) ac1
theorem ac3 : bw ⟨6, [0]⟩ (Tryz.f165.body.getD .skip) = some ac2.strip := by kernel_rfl
def ac4 : R := .seq (.U [ro 3 (.ad (.t 0)),
 ro 4 (.aq .geq 5 (.t 3) (.c (.int .u8 48))),
 ro 5 (.ad (.t 4)),
 ⟨some 6, .ad (.t 0), some (5, true)⟩,
 ⟨some 7, .aq .leq 5 (.t 6) (.c (.int .u8 57)), some (5, true)⟩,
 ro 8 (.pick (.t 5) (.t 7) (.c (.bool false))),
 ro 2 (.ag (.t 8))] (some [2])) .ret
def ac5 : R := .seq (.U [ro 2 (.ag (.c (.bool false)))] (some [0])) ac4
theorem ac6 : bw ⟨9, [0]⟩ (Tryz.f202.body.getD .skip) = some ac5.strip := by kernel_rfl
def ac7 : R := .seq (.U [ro 2 (.ag (.c (.bool false)))] (some [2])) .ret
def ac8 : R := .cond (.t 32) ac7 .skip
def ac9 : R := .seq (.U [ro 20 (.ad (.t 4)),
 ro 21 (.un .not (.t 20)),
 ro 22 (.ad (.t 21)),
 ⟨some 23, .ad (.t 3), some (22, true)⟩,
 ⟨some 24, .aq .eql 3 (.t 23) (.c (.int .i64 0)), some (22, true)⟩,
 ⟨some 25, .ad (.t 24), some (22, true)⟩,
 ⟨some 26, .ad (.t 0), some (25, false)⟩,
 ⟨some 27, .ad (.t 3), some (25, false)⟩,
 ⟨some 28, .idx 9 (.t 26) (.t 27), some (25, false)⟩,
 ⟨some 29, .call (.f 202) [(.t 28)], some (25, false)⟩,
 ⟨some 30, .un .not (.t 29), some (25, false)⟩,
 ⟨some 31, .pick (.t 25) (.c (.bool true)) (.t 30), some (22, true)⟩,
 ro 32 (.pick (.t 22) (.t 31) (.c (.bool false)))] (some [0, 6, 7, 32])) ac8
def ac_ : R := .seq (.U [ro 10 (.ad (.t 0)),
 ro 11 (.ad (.t 3)),
 ro 12 (.idx 9 (.t 10) (.t 11)),
 ro 13 (.aq .geq 5 (.t 12) (.c (.int .u8 97))),
 ro 14 (.ad (.t 13)),
 ⟨some 15, .ad (.t 0), some (14, true)⟩,
 ⟨some 16, .ad (.t 3), some (14, true)⟩,
 ⟨some 17, .idx 9 (.t 15) (.t 16), some (14, true)⟩,
 ⟨some 18, .aq .leq 5 (.t 17) (.c (.int .u8 122)), some (14, true)⟩,
 ro 19 (.pick (.t 14) (.t 18) (.c (.bool false))),
 ro 4 (.ag (.t 19))] (some [0, 3, 4, 6, 7])) ac9
def ada : R := .U [ro 33 (.aq .add 3 (.t 7) (.c (.int .i64 1))),
 ro 7 (.ad (.t 33))] (some [0, 6, 7])
def adb : R := .seq (.block 1 (.seq (.U [ro 9 (.ad (.t 7)),
 ro 3 (.ag (.t 9))] (some [0, 3, 6, 7])) ac_)) ada
def ade : R := .seq (.cond (.t 8) .skip (.exit 0)) adb
def Lh : R := .seq (.U [ro 8 (.aq .lss 3 (.t 7) (.t 6))] (some [0, 6, 7, 8])) ade
def adf : R := .block 0 (.loop Lh)
def adg : R := .seq (.U [ro 34 (.ad (.t 0)),
 ro 35 (.len 9 (.t 34)),
 ro 36 (.aq .geq 3 (.t 35) (.c (.int .i64 1))),
 ro 37 (.ad (.t 36)),
 ⟨some 38, .ad (.t 0), some (37, true)⟩,
 ⟨some 39, .len 9 (.t 38), some (37, true)⟩,
 ⟨some 40, .aq .leq 3 (.t 39) (.c (.int .i64 10)), some (37, true)⟩,
 ro 41 (.pick (.t 37) (.t 40) (.c (.bool false))),
 ro 2 (.ag (.t 41))] (some [2])) .ret
def adh : R := .seq (.seq (.U [ro 5 (.ad (.t 0)),
 ro 6 (.len 9 (.t 5)),
 ro 7 (.ad (.c (.int .i64 0)))] (some [0, 6, 7])) adf) adg
def adi : R := .seq (.U [ro 2 (.ag (.c (.bool false)))] (some [0])) adh
theorem adj : bw ⟨42, [0]⟩ (Tryz.f166.body.getD .skip) = some adi.strip := by kernel_rfl
def adk : R := .seq (.U [ro 4 (.aU 119 (.t 2) 0),
 ro 5 (.aD 9 (.t 4)),
 ro 6 (.aD 9 (.t 1)),
 ro 7 (.aq .eql 9 (.t 5) (.t 6)),
 ro 3 (.ag (.t 7))] (some [3])) .ret
def adl : R := .seq (.U [ro 2 (.c7 119 (.t 0)),
 ro 3 (.ag (.c (.bool false)))] (some [1, 2])) adk
theorem adm : bw ⟨8, [0, 1]⟩ (Tryz.f204.body.getD .skip) = some adl.strip := by kernel_rfl
def adn : R := .seq (.U [ro 17 (.ad (.t 5)),
 ro 4 (.ag (.t 17))] (some [4])) .ret
def ado : R := .cond (.t 16) adn .skip
def adp : R := .seq (.U [ro 11 (.ad (.t 1)),
 ro 12 (.ad (.t 0)),
 ro 13 (.ad (.t 5)),
 ro 14 (.bK 32 (.t 12) (.t 13)),
 ro 15 (.aD 119 (.t 14)),
 ro 16 (.call (.t 11) [(.t 15)])] (some [0, 1, 5, 7, 8, 16])) ado
def adq : R := .U [ro 18 (.aq .add 3 (.t 8) (.c (.int .i64 1))),
 ro 8 (.ad (.t 18))] (some [0, 1, 7, 8])
def adr : R := .seq (.block 1 (.seq (.U [ro 10 (.ad (.t 8)),
 ro 5 (.ag (.t 10))] (some [0, 1, 5, 7, 8])) adp)) adq
def ads : R := .seq (.cond (.t 9) .skip (.exit 0)) adr
def Li : R := .seq (.U [ro 9 (.aq .lss 3 (.t 8) (.t 7))] (some [0, 1, 7, 8, 9])) ads
def adt : R := .block 0 (.loop Li)
def adu : R := .seq (.U [ro 4 (.ag (.c (.int .i64 (-1))))] (some [4])) .ret
def adv : R := .seq (.seq (.U [ro 6 (.ad (.t 0)),
 ro 7 (.len 32 (.t 6)),
 ro 8 (.ad (.c (.int .i64 0)))] (some [0, 1, 7, 8])) adt) adu
def adw : R := .seq (.U [ro 4 (.ag (.c (.int .i64 0)))] (some [0, 1])) adv
theorem adx : bw ⟨19, [0, 1]⟩ (Tryz.f203.body.getD .skip) = some adw.strip := by kernel_rfl
def ady : R := .seq (.U [ro 5 (.ad (.t 0)),
 ro 6 (.ia 204 [(.t 3)]),
 ro 7 (.call (.f 203) [(.t 5), (.t 6)]),
 ro 4 (.ag (.t 7))] (some [4])) .ret
def adz : R := .seq (.U [ro 3 (.c7 9 (.t 1)),
 ro 4 (.ag (.c (.int .i64 0)))] (some [0, 3])) ady
theorem adA : bw ⟨8, [0, 1]⟩ (Tryz.f167.body.getD .skip) = some adz.strip := by kernel_rfl
def adB : R := .U [ro 8 (.aq .eql 2 (.t 4) (.c (.int .i64 4))),
 ro 5 (.ag (.t 8))] (some [4, 5])
def adC : R := .cond (.t 5) .skip adB
def adD : R := .seq (.U [ro 7 (.aq .eql 2 (.t 4) (.c (.int .i64 3))),
 ro 5 (.ag (.t 7))] (some [4, 5])) adC
def adE : R := .cond (.t 5) .skip adD
def adF : R := .seq (.U [ro 2 (.ag (.c (.int .i64 1)))] (some [2])) .ret
def adG : R := .seq (.U [ro 2 (.ag (.c (.int .i64 2)))] (some [2])) .ret
def adH : R := .cond (.t 9) adG .skip
def adI : R := .seq (.U [ro 10 (.aq .eql 2 (.t 4) (.c (.int .i64 2))),
 ro 9 (.ag (.t 10))] (some [9])) adH
def Lj : R := .cond (.t 5) adF adI
def adJ : R := .block 0 (.seq (.seq (.U [ro 6 (.aq .eql 2 (.t 4) (.c (.int .i64 1))),
 ro 5 (.ag (.t 6))] (some [4, 5])) adE) Lj)
def adK : R := .seq (.U [ro 2 (.ag (.c (.int .i64 0)))] (some [2])) .ret
def adL : R := .seq (.seq (.U [ro 3 (.aU 122 (.t 1) 0),
 ro 4 (.aD 2 (.t 3))] (some [4])) adJ) adK
def adM : R := .seq (.U [ro 1 (.c7 122 (.t 0)),
 ro 2 (.ag (.c (.int .i64 0)))] (some [1])) adL
theorem adN : bw ⟨11, [0]⟩ (Tryz.f134.body.getD .skip) = some adM.strip := by kernel_rfl
def adO : R := .cond (.t 7) .skip (.exit 0)
def adP : R := .seq (.U [ro 4 (.ag (.c (.int .i64 (-1))))] (some [4])) .ret
def adQ : R := .cond (.t 14) adP .skip
def adR : R := .U [ro 15 (.ad (.t 5)),
 ro 16 (.aU 119 (.t 2) 2),
 ro 17 (.aD 117 (.t 16)),
 ro 18 (.ad (.t 1)),
 ro 19 (.bK 117 (.t 17) (.t 18)),
 ro 20 (.aD 122 (.t 19)),
 ro 21 (.call (.f 134) [(.t 20)]),
 ro 22 (.aq .sub 3 (.t 21) (.c (.int .i64 1))),
 ro 23 (.aq .add 3 (.t 15) (.t 22)),
 ro 5 (.ag (.t 23))] (some [1, 2, 5])
def adS : R := .U [ro 8 (.ad (.t 1)),
 ro 9 (.aq .add 3 (.t 8) (.c (.int .i64 1))),
 ro 1 (.ag (.t 9))] (some [1, 2, 5])
def adT : R := .seq (.block 1 (.seq (.seq (.U [ro 10 (.ad (.t 1)),
 ro 11 (.aU 119 (.t 2) 2),
 ro 12 (.aD 117 (.t 11)),
 ro 13 (.len 117 (.t 12)),
 ro 14 (.aq .geq 3 (.t 10) (.t 13))] (some [1, 2, 5, 14])) adQ) adR)) adS
def Lk : R := .seq (.seq (.U [ro 6 (.ad (.t 5)),
 ro 7 (.aq .gtr 3 (.t 6) (.c (.int .i64 0)))] (some [1, 2, 5, 7])) adO) adT
def adU : R := .block 0 (.loop Lk)
def adV : R := .seq (.U [ro 24 (.ad (.t 1)),
 ro 4 (.ag (.t 24))] (some [4])) .ret
def adW : R := .seq (.seq (.U [ro 5 (.ag (.c (.int .i64 1)))] (some [1, 2, 5])) adU) adV
def adX : R := .seq (.U [ro 2 (.c7 119 (.t 0)),
 ro 4 (.ag (.c (.int .i64 0)))] (some [1, 2])) adW
theorem adY : bw ⟨25, [0]⟩ (Tryz.f205.body.getD .skip) = some adX.strip := by kernel_rfl
def adZ : R := .U [ro 29 (.aU 132 (.t 9) 0),
 ro 30 (.aD 2 (.t 29)),
 ro 31 (.aq .add 2 (.t 30) (.c (.int .i64 1))),
 ro 32 (.aU 132 (.t 9) 0),
 ⟨none, .cC 2 (.t 32) (.t 31), none⟩] (some [0, 2, 3, 4, 8, 9])
def ad0 : R := .cond (.t 28) adZ .skip
def ad1 : R := .U [ro 43 (.aq .add 3 (.t 37) (.c (.int .i64 1))),
 ro 37 (.ad (.t 43))] (some [2, 3, 4, 9, 10, 36, 37])
def ad2 : R := .seq (.block 1 (.iQ (EE aI 133 4 2 39 ((List.range 3).map (· + 2)) [ro 40 (.ad (.t 10)), ro 41 (.aD 132 (.t 9))] [(.t 40), (.t 41)] (some 42) [ro 10 (.ag (.t 42))] [2, 3, 4, 9, 10, 36, 37]) (JE 180 4 39 [ro 40 (.ad (.t 10)), ro 41 (.aD 132 (.t 9))] [(.t 40), (.t 41)] (some 42) [ro 10 (.ag (.t 42))]))) ad1
def ad3 : R := .seq (.cond (.t 38) .skip (.exit 0)) ad2
def Ll : R := .seq (.U [ro 38 (.aq .lss 3 (.t 37) (.t 36))] (some [2, 3, 4, 9, 10, 36, 37, 38])) ad3
def ad4 : R := .block 0 (.loop Ll)
def ad5 : R := .seq (.U [ro 44 (.ad (.t 10)),
 ro 7 (.ag (.t 44))] (some [2, 3, 4, 7])) .ret
def ad6 : R := .seq (.seq (.U [ro 35 (.aD 122 (.t 8)),
 ro 36 (.call (.f 134) [(.t 35)]),
 ro 37 (.ad (.c (.int .i64 0)))] (some [2, 3, 4, 9, 10, 36, 37])) ad4) ad5
def Lm : R := .seq (.U [ro 33 (.ad (.t 0)),
 ro 34 (.aq .add 3 (.t 33) (.c (.int .i64 1))),
 ro 10 (.ag (.t 34))] (some [2, 3, 4, 8, 9, 10])) ad6
def ad7 : R := .seq (.seq (.U [ro 26 (.aU 122 (.t 8) 0),
 ro 27 (.aD 2 (.t 26)),
 ro 28 (.aq .eql 2 (.t 27) (.c (.int .i64 4)))] (some [0, 2, 3, 4, 8, 9, 28])) ad0) Lm
def ad8 : R := .seq (.U [ro 20 (.aU 132 (.t 6) 0),
 ro 21 (.aD 2 (.t 20)),
 ro 22 (.aU 122 (.t 8) 0),
 ro 23 (.aD 2 (.t 22)),
 ro 24 (.aq .eql 2 (.t 23) (.c (.int .i64 1))),
 ro 25 (.fX 132 [(0, (.t 21)), (1, (.t 24))]),
 ro 9 (.ey 132),
 ⟨none, .cC 132 (.t 9) (.t 25), none⟩] (some [0, 2, 3, 4, 8, 9])) ad7
def ad9 : R := .seq (.U [ro 15 (.aU 119 (.t 3) 2),
 ro 16 (.aD 117 (.t 15)),
 ro 17 (.ad (.t 0)),
 ro 18 (.bK 117 (.t 16) (.t 17)),
 ro 19 (.aD 122 (.t 18)),
 ro 8 (.ey 122),
 ⟨none, .cC 122 (.t 8) (.t 19), none⟩] (some [0, 2, 3, 4, 6, 8])) ad8
def ad_ : R := .seq (.U [ro 11 (.aD 129 (.t 2)),
 ro 12 (.ad (.t 0)),
 ro 13 (.aD 132 (.t 6)),
 ro 14 (.bK 129 (.t 11) (.t 12)),
 ⟨none, .cC 132 (.t 14) (.t 13), none⟩] (some [0, 2, 3, 4, 6])) ad9
def Ln : R := .seq (.U [ro 6 (.c7 132 (.t 1)),
 ro 7 (.ag (.c (.int .i64 0)))] (some [0, 2, 3, 4, 6])) ad_
theorem aea : Ln.l8 (zT aI 133 [0, 1, 2, 3, 4] 5 2 4) := And.intro (True.intro) (And.intro (True.intro) (And.intro (True.intro) (And.intro (True.intro) (And.intro (And.intro (True.intro) (And.intro (True.intro) (True.intro))) (And.intro (True.intro) (And.intro (And.intro (True.intro) (And.intro (True.intro) (And.intro (And.intro (True.intro) (True.intro)) (And.intro (⟨180, 2, 39, 3, _, _, _, _, _, rfl, rfl, (by kernel_rfl), rfl, rfl, rfl, rfl, rfl, rfl, rfl⟩) (True.intro))))) (And.intro (True.intro) (True.intro))))))))
theorem aeb : bw ⟨45, [0, 1, 2, 3, 4]⟩ (Tryz.f133.body.getD .skip) = some Ln.strip := by kernel_rfl
def Fw : R := .seq (.U [ro 15 (.aD 129 (.t 3)),
 ro 2 (.ag (.t 15))] (some [2])) .ret
def aec : R := .seq (.U [ro 10 (.aD 180 (.t 4)),
 ro 11 (.aU 119 (.t 1) 1),
 ro 12 (.aD 2 (.t 11)),
 ro 13 (.fX 132 [(0, (.t 12))]),
 ro 14 (.call (.t 10) [(.c (.int .i64 0)), (.t 13)])] (some [3])) Fw
def avW : R := .seq (.U [ro 9 (.ia 133 [(.t 3), (.t 1), (.t 4)]),
 ⟨none, .cC 180 (.t 4) (.t 9), none⟩] (some [1, 3, 4])) aec
def aed : R := .iQ (EI aI 133 4 2 10 9 [3, 1, 4] [ro 11 (.aU 119 (.t 1) 1), ro 12 (.aD 2 (.t 11)), ro 13 (.fX 132 [(0, (.t 12))])] [(.c (.int .i64 0)), (.t 13)] (some 14) [3] Fw) (JJ 180 133 4 10 9 [3, 1, 4] [ro 11 (.aU 119 (.t 1) 1), ro 12 (.aD 2 (.t 11)), ro 13 (.fX 132 [(0, (.t 12))])] [(.c (.int .i64 0)), (.t 13)] (some 14) Fw.ki)
def aee : R := .seq (.U [ro 5 (.aU 119 (.t 1) 2),
 ro 6 (.aD 117 (.t 5)),
 ro 7 (.len 117 (.t 6)),
 ro 8 (.eU 129 (.t 7) (.t 7)),
 ro 3 (.ey 129),
 ⟨none, .cC 129 (.t 3) (.t 8), none⟩] (some [1, 3])) aed
def Lo : R := .seq (.U [ro 1 (.c7 119 (.t 0)),
 ro 2 (.ag (.c .bg))] (some [1])) aee
theorem aef : Lo.l8 (wL aI) := And.intro (True.intro) (And.intro (True.intro) (⟨180, 133, 4, 2, 10, 9, _, _, _, _, _, _, rfl, rfl, (by kernel_rfl), ⟨Tryz.t180, _, _, (by kernel_rfl), rfl, rfl, rfl, rfl⟩, rfl, rfl, rfl, rfl, (by kernel_rfl)⟩))
theorem aeg : bw ⟨16, [0]⟩ (Tryz.f80.body.getD .skip) = some Lo.strip := by kernel_rfl
def aeh : R := .seq (.U [ro 26 (.aU 122 (.t 1) 0),
 ro 27 (.aD 2 (.t 26)),
 ro 28 (.call (.f 95) [(.t 27), (.c (.int .i64 0)), (.c (.int .i64 5))]),
 ro 29 (.ad (.t 28)),
 ⟨some 30, .ad (.t 3), some (29, true)⟩,
 ⟨some 31, .ad (.t 30), some (29, true)⟩,
 ⟨some 32, .aU 122 (.t 1) 1, some (31, false)⟩,
 ⟨some 33, .aD 2 (.t 32), some (31, false)⟩,
 ⟨some 34, .aq .eql 2 (.t 33) (.c (.int .i64 0)), some (31, false)⟩,
 ⟨some 35, .pick (.t 31) (.c (.bool true)) (.t 34), some (29, true)⟩,
 ro 36 (.pick (.t 29) (.t 35) (.c (.bool false))),
 ro 37 (.ad (.t 36)),
 ⟨some 38, .aU 122 (.t 1) 0, some (37, true)⟩,
 ⟨some 39, .aD 2 (.t 38), some (37, true)⟩,
 ⟨some 40, .aq .eql 2 (.t 39) (.c (.int .i64 1)), some (37, true)⟩,
 ⟨some 41, .ad (.t 40), some (37, true)⟩,
 ⟨some 42, .aU 122 (.t 1) 2, some (41, false)⟩,
 ⟨some 43, .aD 9 (.t 42), some (41, false)⟩,
 ⟨some 44, .aq .eql 9 (.t 43) (.c (.str [])), some (41, false)⟩,
 ⟨some 45, .pick (.t 41) (.c (.bool true)) (.t 44), some (37, true)⟩,
 ro 46 (.pick (.t 37) (.t 45) (.c (.bool false))),
 ro 47 (.ad (.t 46)),
 ⟨some 48, .ad (.t 4), some (47, true)⟩,
 ⟨some 49, .ad (.t 48), some (47, true)⟩,
 ⟨some 50, .aU 122 (.t 1) 3, some (49, false)⟩,
 ⟨some 51, .aD 120 (.t 50), some (49, false)⟩,
 ⟨some 52, .len 120 (.t 51), some (49, false)⟩,
 ⟨some 53, .aq .eql 3 (.t 52) (.c (.int .i64 0)), some (49, false)⟩,
 ⟨some 54, .pick (.t 49) (.c (.bool true)) (.t 53), some (47, true)⟩,
 ro 55 (.pick (.t 47) (.t 54) (.c (.bool false))),
 ro 2 (.ag (.t 55))] (some [2])) .ret
def aei : R := .seq (.U [ro 13 (.aU 122 (.t 1) 0),
 ro 14 (.aD 2 (.t 13)),
 ro 15 (.aq .eql 2 (.t 14) (.c (.int .i64 1))),
 ro 16 (.ad (.t 15)),
 ⟨some 17, .aU 122 (.t 1) 0, some (16, false)⟩,
 ⟨some 18, .aD 2 (.t 17), some (16, false)⟩,
 ⟨some 19, .aq .eql 2 (.t 18) (.c (.int .i64 3)), some (16, false)⟩,
 ro 20 (.pick (.t 16) (.c (.bool true)) (.t 19)),
 ro 21 (.ad (.t 20)),
 ⟨some 22, .aU 122 (.t 1) 0, some (21, false)⟩,
 ⟨some 23, .aD 2 (.t 22), some (21, false)⟩,
 ⟨some 24, .aq .eql 2 (.t 23) (.c (.int .i64 5)), some (21, false)⟩,
 ro 25 (.pick (.t 21) (.c (.bool true)) (.t 24)),
 ro 4 (.ag (.t 25))] (some [1, 3, 4])) aeh
def aej : R := .seq (.U [ro 5 (.aU 122 (.t 1) 0),
 ro 6 (.aD 2 (.t 5)),
 ro 7 (.aq .eql 2 (.t 6) (.c (.int .i64 4))),
 ro 8 (.ad (.t 7)),
 ⟨some 9, .aU 122 (.t 1) 0, some (8, false)⟩,
 ⟨some 10, .aD 2 (.t 9), some (8, false)⟩,
 ⟨some 11, .aq .eql 2 (.t 10) (.c (.int .i64 5)), some (8, false)⟩,
 ro 12 (.pick (.t 8) (.c (.bool true)) (.t 11)),
 ro 3 (.ag (.t 12))] (some [1, 3])) aei
def aek : R := .seq (.U [ro 1 (.c7 122 (.t 0)),
 ro 2 (.ag (.c (.bool false)))] (some [1])) aej
theorem ael : bw ⟨56, [0]⟩ (Tryz.f219.body.getD .skip) = some aek.strip := by kernel_rfl
def aem : R := .seq (.U [ro 3 (.ad (.t 0)),
 ro 4 (.call (.f 166) [(.t 3)]),
 ro 5 (.ad (.t 4)),
 ⟨some 6, .ad (.t 0), some (5, true)⟩,
 ⟨some 7, .aq .neq 9 (.t 6) (.c (.str [116, 97, 117])), some (5, true)⟩,
 ro 8 (.pick (.t 5) (.t 7) (.c (.bool false))),
 ro 2 (.ag (.t 8))] (some [2])) .ret
def aen : R := .seq (.U [ro 2 (.ag (.c (.bool false)))] (some [0])) aem
theorem aeo : bw ⟨9, [0]⟩ (Tryz.f149.body.getD .skip) = some aen.strip := by kernel_rfl
def aep : R := .seq (.U [ro 5 (.ad (.t 0)),
 ro 6 (.ad (.t 1)),
 ro 7 (.aq .sub 2 (.t 6) (.c (.int .i64 1))),
 ro 8 (.call (.f 95) [(.t 5), (.c (.int .i64 0)), (.t 7)]),
 ro 4 (.ag (.t 8))] (some [4])) .ret
def aeq : R := .seq (.U [ro 4 (.ag (.c (.bool false)))] (some [0, 1])) aep
theorem aer : bw ⟨9, [0, 1]⟩ (Tryz.f170.body.getD .skip) = some aeq.strip := by kernel_rfl
def aes : R := .seq (.U [ro 13 (.ad (.t 5)),
 ro 14 (.aq .eql 3 (.t 13) (.c (.int .i64 0))),
 ro 15 (.ad (.t 14)),
 ⟨some 16, .aU 122 (.t 2) 2, some (15, false)⟩,
 ⟨some 17, .aD 9 (.t 16), some (15, false)⟩,
 ⟨some 18, .aq .neq 9 (.t 17) (.c (.str [116, 97, 117])), some (15, false)⟩,
 ⟨some 19, .ad (.t 18), some (15, false)⟩,
 ⟨some 20, .ad (.t 5), some (19, true)⟩,
 ⟨some 21, .aq .leq 3 (.t 20) (.c (.int .i64 2)), some (19, true)⟩,
 ⟨some 22, .pick (.t 19) (.t 21) (.c (.bool false)), some (15, false)⟩,
 ro 23 (.pick (.t 15) (.c (.bool true)) (.t 22)),
 ro 4 (.ag (.t 23))] (some [4])) .ret
def aet : R := .seq (.U [ro 26 (.ad (.t 5)),
 ro 27 (.aq .eql 3 (.t 26) (.c (.int .i64 1))),
 ro 4 (.ag (.t 27))] (some [4])) .ret
def aeu : R := .seq (.U [ro 30 (.ad (.t 5)),
 ro 31 (.ad (.t 1)),
 ro 32 (.aU 122 (.t 2) 1),
 ro 33 (.aD 2 (.t 32)),
 ro 34 (.bK 32 (.t 31) (.t 33)),
 ro 35 (.aU 119 (.t 34) 1),
 ro 36 (.aD 2 (.t 35)),
 ro 37 (.aq .eql 2 (.t 30) (.t 36)),
 ro 4 (.ag (.t 37))] (some [4])) .ret
def aev : R := .cond (.t 28) aeu .skip
def aew : R := .seq (.U [ro 29 (.aq .eql 2 (.t 10) (.c (.int .i64 5))),
 ro 28 (.ag (.t 29))] (some [1, 2, 5, 28])) aev
def aex : R := .cond (.t 24) aet aew
def aey : R := .seq (.U [ro 25 (.aq .eql 2 (.t 10) (.c (.int .i64 3))),
 ro 24 (.ag (.t 25))] (some [1, 2, 5, 10, 24])) aex
def aez : R := .cond (.t 11) aes aey
def aeA : R := .block 0 (.seq (.U [ro 12 (.aq .eql 2 (.t 10) (.c (.int .i64 1))),
 ro 11 (.ag (.t 12))] (some [1, 2, 5, 10, 11])) aez)
def aeB : R := .seq (.U [ro 4 (.ag (.c (.bool true)))] (some [4])) .ret
def aeC : R := .seq (.seq (.U [ro 9 (.aU 122 (.t 2) 0),
 ro 10 (.aD 2 (.t 9))] (some [1, 2, 5, 10])) aeA) aeB
def aeD : R := .seq (.U [ro 6 (.aU 122 (.t 2) 3),
 ro 7 (.aD 120 (.t 6)),
 ro 8 (.len 120 (.t 7)),
 ro 5 (.ag (.t 8))] (some [1, 2, 5])) aeC
def aeE : R := .seq (.U [ro 2 (.c7 122 (.t 0)),
 ro 4 (.ag (.c (.bool false)))] (some [1, 2])) aeD
theorem aeF : bw ⟨38, [0, 1]⟩ (Tryz.f220.body.getD .skip) = some aeE.strip := by kernel_rfl
def aeG : R := .seq (.U [ro 3 (.ad (.t 0)),
 ro 4 (.call (.f 95) [(.t 3), (.c (.int .i64 0)), (.c (.int .i64 63))]),
 ro 2 (.ag (.t 4))] (some [2])) .ret
def aeH : R := .seq (.U [ro 2 (.ag (.c (.bool false)))] (some [0])) aeG
theorem aeI : bw ⟨5, [0]⟩ (Tryz.f180.body.getD .skip) = some aeH.strip := by kernel_rfl
def aeJ : R := .seq (.U [ro 9 (.aU 191 (.t 2) 1),
 ro 10 (.aD 2 (.t 9)),
 ro 11 (.call (.f 180) [(.t 10)]),
 ro 4 (.ag (.t 11))] (some [4])) .ret
def aeK : R := .seq (.U [ro 14 (.aU 191 (.t 2) 1),
 ro 15 (.aD 2 (.t 14)),
 ro 16 (.ad (.t 1)),
 ro 17 (.aq .sub 2 (.t 16) (.c (.int .i64 1))),
 ro 18 (.call (.f 95) [(.t 15), (.c (.int .i64 0)), (.t 17)]),
 ro 4 (.ag (.t 18))] (some [4])) .ret
def aeL : R := .seq (.U [ro 21 (.aU 191 (.t 2) 1),
 ro 22 (.aD 2 (.t 21)),
 ro 23 (.call (.f 95) [(.t 22), (.c (.int .i64 0)), (.c (.int .i64 8))]),
 ro 4 (.ag (.t 23))] (some [4])) .ret
def aeM : R := .seq (.U [ro 26 (.aU 191 (.t 2) 1),
 ro 27 (.aD 2 (.t 26)),
 ro 28 (.aq .eql 2 (.t 27) (.c (.int .i64 0))),
 ro 4 (.ag (.t 28))] (some [4])) .ret
def aeN : R := .cond (.t 24) aeM .skip
def aeO : R := .seq (.U [ro 25 (.aq .eql 2 (.t 6) (.c (.int .i64 3))),
 ro 24 (.ag (.t 25))] (some [2, 24])) aeN
def aeP : R := .cond (.t 19) aeL aeO
def aeQ : R := .seq (.U [ro 20 (.aq .eql 2 (.t 6) (.c (.int .i64 2))),
 ro 19 (.ag (.t 20))] (some [2, 6, 19])) aeP
def aeR : R := .cond (.t 12) aeK aeQ
def aeS : R := .seq (.U [ro 13 (.aq .eql 2 (.t 6) (.c (.int .i64 1))),
 ro 12 (.ag (.t 13))] (some [1, 2, 6, 12])) aeR
def aeT : R := .cond (.t 7) aeJ aeS
def aeU : R := .block 0 (.seq (.U [ro 8 (.aq .eql 2 (.t 6) (.c (.int .i64 0))),
 ro 7 (.ag (.t 8))] (some [1, 2, 6, 7])) aeT)
def aeV : R := .seq (.U [ro 4 (.ag (.c (.bool false)))] (some [4])) .ret
def aeW : R := .seq (.seq (.U [ro 5 (.aU 191 (.t 2) 0),
 ro 6 (.aD 2 (.t 5))] (some [1, 2, 6])) aeU) aeV
def aeX : R := .seq (.U [ro 2 (.c7 191 (.t 0)),
 ro 4 (.ag (.c (.bool false)))] (some [1, 2])) aeW
theorem aeY : bw ⟨29, [0, 1]⟩ (Tryz.f182.body.getD .skip) = some aeX.strip := by kernel_rfl
def aeZ : R := .seq (.U [ro 2 (.ag (.c (.int .i64 2)))] (some [2])) .ret
def ae0 : R := .seq (.U [ro 2 (.ag (.c (.int .i64 1)))] (some [2])) .ret
def ae1 : R := .cond (.t 7) ae0 .skip
def ae2 : R := .seq (.U [ro 8 (.aq .eql 2 (.t 4) (.c (.int .i64 3))),
 ro 7 (.ag (.t 8))] (some [7])) ae1
def ae3 : R := .cond (.t 5) aeZ ae2
def ae4 : R := .block 0 (.seq (.U [ro 6 (.aq .eql 2 (.t 4) (.c (.int .i64 2))),
 ro 5 (.ag (.t 6))] (some [4, 5])) ae3)
def ae5 : R := .seq (.U [ro 2 (.ag (.c (.int .i64 0)))] (some [2])) .ret
def ae6 : R := .seq (.seq (.U [ro 3 (.aU 191 (.t 1) 0),
 ro 4 (.aD 2 (.t 3))] (some [4])) ae4) ae5
def ae7 : R := .seq (.U [ro 1 (.c7 191 (.t 0)),
 ro 2 (.ag (.c (.int .i64 0)))] (some [1])) ae6
theorem ae8 : bw ⟨9, [0]⟩ (Tryz.f183.body.getD .skip) = some ae7.strip := by kernel_rfl
def ae9 : R := .seq (.U [ro 6 (.ag (.c (.bool false)))] (some [6])) .ret
def ae_ : R := .cond (.t 24) ae9 .skip
def afa : R := .seq (.U [ro 6 (.ag (.c (.bool false)))] (some [6])) .ret
def afb : R := .cond (.t 38) afa .skip
def afc : R := .U [ro 39 (.ad (.t 7)),
 ro 40 (.aD 191 (.t 9)),
 ro 41 (.call (.f 183) [(.t 40)]),
 ro 42 (.aq .sub 3 (.t 41) (.c (.int .i64 1))),
 ro 43 (.aq .add 3 (.t 39) (.t 42)),
 ro 7 (.ag (.t 43))] (some [1, 7, 25, 26, 27])
def afd : R := .seq (.seq (.U [ro 31 (.ad (.t 7)),
 ro 32 (.aq .eql 3 (.t 31) (.c (.int .i64 0))),
 ro 33 (.ad (.t 32)),
 ⟨some 34, .aD 191 (.t 9), some (33, false)⟩,
 ⟨some 35, .ad (.t 1), some (33, false)⟩,
 ⟨some 36, .call (.f 182) [(.t 34), (.t 35)], some (33, false)⟩,
 ⟨some 37, .un .not (.t 36), some (33, false)⟩,
 ro 38 (.pick (.t 33) (.c (.bool true)) (.t 37))] (some [1, 7, 9, 25, 26, 27, 38])) afb) afc
def afe : R := .U [ro 44 (.aq .add 3 (.t 27) (.c (.int .i64 1))),
 ro 27 (.ad (.t 44))] (some [1, 7, 25, 26, 27])
def aff : R := .seq (.block 1 (.seq (.U [ro 29 (.bK 147 (.t 25) (.t 27)),
 ro 30 (.aD 191 (.t 29)),
 ro 9 (.ey 191),
 ⟨none, .cC 191 (.t 9) (.t 30), none⟩] (some [1, 7, 9, 25, 26, 27])) afd)) afe
def afg : R := .seq (.cond (.t 28) .skip (.exit 0)) aff
def Lp : R := .seq (.U [ro 28 (.aq .lss 3 (.t 27) (.t 26))] (some [1, 7, 25, 26, 27, 28])) afg
def afh : R := .block 0 (.loop Lp)
def afi : R := .seq (.U [ro 45 (.ad (.t 7)),
 ro 46 (.aq .eql 3 (.t 45) (.c (.int .i64 0))),
 ro 6 (.ag (.t 46))] (some [6])) .ret
def afj : R := .seq (.seq (.U [ro 25 (.ad (.t 0)),
 ro 26 (.len 147 (.t 25)),
 ro 27 (.ad (.c (.int .i64 0)))] (some [1, 7, 25, 26, 27])) afh) afi
def afk : R := .seq (.U [ro 7 (.ag (.c (.int .i64 1)))] (some [0, 1, 7])) afj
def afl : R := .seq (.seq (.U [ro 10 (.ad (.t 1)),
 ro 11 (.call (.f 95) [(.t 10), (.c (.int .i64 0)), (.c (.int .i64 29))]),
 ro 12 (.un .not (.t 11)),
 ro 13 (.ad (.t 12)),
 ⟨some 14, .ad (.t 2), some (13, false)⟩,
 ⟨some 15, .call (.f 95) [(.t 14), (.c (.int .i64 1)), (.c (.int .i64 60))], some (13, false)⟩,
 ⟨some 16, .un .not (.t 15), some (13, false)⟩,
 ro 17 (.pick (.t 13) (.c (.bool true)) (.t 16)),
 ro 18 (.ad (.t 17)),
 ⟨some 19, .ad (.t 0), some (18, false)⟩,
 ⟨some 20, .len 147 (.t 19), some (18, false)⟩,
 ⟨some 21, .ad (.t 2), some (18, false)⟩,
 ⟨some 22, .call (.f 95) [(.t 20), (.c (.int .i64 1)), (.t 21)], some (18, false)⟩,
 ⟨some 23, .un .not (.t 22), some (18, false)⟩,
 ro 24 (.pick (.t 18) (.c (.bool true)) (.t 23))] (some [0, 1, 24])) ae_) afk
def afm : R := .seq (.U [ro 6 (.ag (.c (.bool false)))] (some [0, 1, 2])) afl
theorem afn : bw ⟨47, [0, 1, 2]⟩ (Tryz.f153.body.getD .skip) = some afm.strip := by kernel_rfl
def afo : R := .seq (.U [ro 4 (.ad (.t 0)),
 ro 5 (.aU 132 (.t 1) 0),
 ro 6 (.aD 2 (.t 5)),
 ro 7 (.call (.f 153) [(.t 4), (.t 6), (.c (.int .i64 15))]),
 ro 8 (.un .not (.t 7)),
 ro 3 (.ag (.t 8))] (some [3])) .ret
def afp : R := .seq (.U [ro 3 (.ag (.c (.bool false)))] (some [0, 1])) afo
theorem afq : bw ⟨9, [0, 1]⟩ (Tryz.f221.body.getD .skip) = some afp.strip := by kernel_rfl
def afr : R := .seq (.U [ro 17 (.ad (.t 5)),
 ro 4 (.ag (.t 17))] (some [4])) .ret
def afs : R := .cond (.t 16) afr .skip
def aft : R := .seq (.U [ro 11 (.ad (.t 1)),
 ro 12 (.ad (.t 0)),
 ro 13 (.ad (.t 5)),
 ro 14 (.bK 120 (.t 12) (.t 13)),
 ro 15 (.aD 147 (.t 14)),
 ro 16 (.call (.t 11) [(.t 15)])] (some [0, 1, 5, 7, 8, 16])) afs
def afu : R := .U [ro 18 (.aq .add 3 (.t 8) (.c (.int .i64 1))),
 ro 8 (.ad (.t 18))] (some [0, 1, 7, 8])
def afv : R := .seq (.block 1 (.seq (.U [ro 10 (.ad (.t 8)),
 ro 5 (.ag (.t 10))] (some [0, 1, 5, 7, 8])) aft)) afu
def afw : R := .seq (.cond (.t 9) .skip (.exit 0)) afv
def Lq : R := .seq (.U [ro 9 (.aq .lss 3 (.t 8) (.t 7))] (some [0, 1, 7, 8, 9])) afw
def afx : R := .block 0 (.loop Lq)
def afy : R := .seq (.U [ro 4 (.ag (.c (.int .i64 (-1))))] (some [4])) .ret
def afz : R := .seq (.seq (.U [ro 6 (.ad (.t 0)),
 ro 7 (.len 120 (.t 6)),
 ro 8 (.ad (.c (.int .i64 0)))] (some [0, 1, 7, 8])) afx) afy
def afA : R := .seq (.U [ro 4 (.ag (.c (.int .i64 0)))] (some [0, 1])) afz
theorem afB : bw ⟨19, [0, 1]⟩ (Tryz.f181.body.getD .skip) = some afA.strip := by kernel_rfl
def afC : R := .seq (.U [ro 5 (.ad (.t 0)),
 ro 6 (.ad (.t 1)),
 ro 7 (.call (.f 181) [(.t 5), (.t 6)]),
 ro 8 (.aq .geq 3 (.t 7) (.c (.int .i64 0))),
 ro 4 (.ag (.t 8))] (some [4])) .ret
def afD : R := .seq (.U [ro 4 (.ag (.c (.bool false)))] (some [0, 1])) afC
theorem afE : bw ⟨9, [0, 1]⟩ (Tryz.f150.body.getD .skip) = some afD.strip := by kernel_rfl
def afF : R := .seq (.U [ro 6 (.ag (.c (.int .i64 2)))] (some [6])) .ret
def afG : R := .seq (.U [ro 6 (.ag (.c (.int .i64 3)))] (some [6])) .ret
def afH : R := .seq (.U [ro 6 (.ag (.c (.int .i64 4)))] (some [6])) .ret
def afI : R := .seq (.U [ro 6 (.ag (.c (.int .i64 5)))] (some [6])) .ret
def afJ : R := .seq (.U [ro 6 (.ag (.c (.int .i64 6)))] (some [6])) .ret
def afK : R := .seq (.U [ro 6 (.ag (.c (.int .i64 7)))] (some [6])) .ret
def afL : R := .seq (.U [ro 6 (.ag (.c (.int .i64 8)))] (some [6])) .ret
def afM : R := .cond (.t 72) afL .skip
def afN : R := .seq (.U [ro 73 (.aU 122 (.t 3) 3),
 ro 74 (.aD 120 (.t 73)),
 ro 75 (.ia 221 [(.t 5)]),
 ro 76 (.call (.f 150) [(.t 74), (.t 75)]),
 ro 72 (.ag (.t 76))] (some [72])) afM
def afO : R := .cond (.t 63) afK afN
def afP : R := .seq (.U [ro 64 (.aU 122 (.t 3) 0),
 ro 65 (.aD 2 (.t 64)),
 ro 66 (.aq .eql 2 (.t 65) (.c (.int .i64 4))),
 ro 67 (.ad (.t 66)),
 ⟨some 68, .aU 132 (.t 5) 0, some (67, true)⟩,
 ⟨some 69, .aD 2 (.t 68), some (67, true)⟩,
 ⟨some 70, .aq .geq 2 (.t 69) (.c (.int .i64 6)), some (67, true)⟩,
 ro 71 (.pick (.t 67) (.t 70) (.c (.bool false))),
 ro 63 (.ag (.t 71))] (some [3, 5, 63])) afO
def afQ : R := .cond (.t 54) afJ afP
def afR : R := .seq (.U [ro 55 (.aU 122 (.t 3) 0),
 ro 56 (.aD 2 (.t 55)),
 ro 57 (.aq .eql 2 (.t 56) (.c (.int .i64 5))),
 ro 58 (.ad (.t 57)),
 ⟨some 59, .aU 132 (.t 5) 1, some (58, true)⟩,
 ⟨some 60, .aD 4 (.t 59), some (58, true)⟩,
 ⟨some 61, .un .not (.t 60), some (58, true)⟩,
 ro 62 (.pick (.t 58) (.t 61) (.c (.bool false))),
 ro 54 (.ag (.t 62))] (some [3, 5, 54])) afQ
def afS : R := .cond (.t 49) afI afR
def afT : R := .seq (.U [ro 50 (.aD 122 (.t 3)),
 ro 51 (.ad (.t 1)),
 ro 52 (.call (.f 220) [(.t 50), (.t 51)]),
 ro 53 (.un .not (.t 52)),
 ro 49 (.ag (.t 53))] (some [3, 5, 49])) afS
def Lr : R := .cond (.t 26) afH afT
def afU : R := .seq (.U [ro 27 (.aU 122 (.t 3) 0),
 ro 28 (.aD 2 (.t 27)),
 ro 29 (.aq .eql 2 (.t 28) (.c (.int .i64 4))),
 ro 30 (.ad (.t 29)),
 ⟨some 31, .aU 122 (.t 3) 1, some (30, true)⟩,
 ⟨some 32, .aD 2 (.t 31), some (30, true)⟩,
 ⟨some 33, .call (.f 95) [(.t 32), (.c (.int .i64 1)), (.c (.int .i64 7))], some (30, true)⟩,
 ⟨some 34, .un .not (.t 33), some (30, true)⟩,
 ro 35 (.pick (.t 30) (.t 34) (.c (.bool false))),
 ro 36 (.ad (.t 35)),
 ⟨some 37, .aU 122 (.t 3) 0, some (36, false)⟩,
 ⟨some 38, .aD 2 (.t 37), some (36, false)⟩,
 ⟨some 39, .aq .eql 2 (.t 38) (.c (.int .i64 5)), some (36, false)⟩,
 ⟨some 40, .ad (.t 39), some (36, false)⟩,
 ⟨some 41, .aU 122 (.t 3) 1, some (40, true)⟩,
 ⟨some 42, .aD 2 (.t 41), some (40, true)⟩,
 ⟨some 43, .ad (.t 1), some (40, true)⟩,
 ⟨some 44, .len 32 (.t 43), some (40, true)⟩,
 ⟨some 45, .call (.f 170) [(.t 42), (.t 44)], some (40, true)⟩,
 ⟨some 46, .un .not (.t 45), some (40, true)⟩,
 ⟨some 47, .pick (.t 40) (.t 46) (.c (.bool false)), some (36, false)⟩,
 ro 48 (.pick (.t 36) (.c (.bool true)) (.t 47)),
 ro 26 (.ag (.t 48))] (some [1, 3, 5, 26])) Lr
def Ls : R := .cond (.t 11) afG afU
def afV : R := .seq (.U [ro 12 (.aU 122 (.t 3) 0),
 ro 13 (.aD 2 (.t 12)),
 ro 14 (.aq .eql 2 (.t 13) (.c (.int .i64 1))),
 ro 15 (.ad (.t 14)),
 ⟨some 16, .aU 122 (.t 3) 2, some (15, true)⟩,
 ⟨some 17, .aD 9 (.t 16), some (15, true)⟩,
 ⟨some 18, .aq .neq 9 (.t 17) (.c (.str [116, 97, 117])), some (15, true)⟩,
 ro 19 (.pick (.t 15) (.t 18) (.c (.bool false))),
 ro 20 (.ad (.t 19)),
 ⟨some 21, .aU 122 (.t 3) 2, some (20, true)⟩,
 ⟨some 22, .aD 9 (.t 21), some (20, true)⟩,
 ⟨some 23, .call (.f 149) [(.t 22)], some (20, true)⟩,
 ⟨some 24, .un .not (.t 23), some (20, true)⟩,
 ro 25 (.pick (.t 20) (.t 24) (.c (.bool false))),
 ro 11 (.ag (.t 25))] (some [1, 3, 5, 11])) Ls
def afW : R := .cond (.t 7) afF afV
def afX : R := .seq (.U [ro 6 (.ag (.c (.int .i64 0)))] (some [6])) .ret
def afY : R := .seq (.block 0 (.seq (.U [ro 8 (.aD 122 (.t 3)),
 ro 9 (.call (.f 219) [(.t 8)]),
 ro 10 (.un .not (.t 9)),
 ro 7 (.ag (.t 10))] (some [1, 3, 5, 7])) afW)) afX
def afZ : R := .seq (.U [ro 3 (.c7 122 (.t 0)),
 ro 5 (.c7 132 (.t 2)),
 ro 6 (.ag (.c (.int .i64 0)))] (some [1, 3, 5])) afY
theorem af0 : bw ⟨77, [0, 1, 2]⟩ (Tryz.f206.body.getD .skip) = some afZ.strip := by kernel_rfl
def af1 : R := .seq (.U [ro 4 (.ag (.c (.int .i64 0))),
 ro 5 (.ag (.c (.int .i64 1)))] (some [4, 5])) .ret
def af2 : R := .cond (.t 22) af1 .skip
def af3 : R := .seq (.U [ro 42 (.ad (.t 7)),
 ro 43 (.ad (.t 9)),
 ro 4 (.ag (.t 42)),
 ro 5 (.ag (.t 43))] (some [4, 5])) .ret
def af4 : R := .cond (.t 41) af3 .skip
def af5 : R := .seq (.U [ro 40 (.ad (.t 9)),
 ro 41 (.aq .neq 2 (.t 40) (.c (.int .i64 0)))] (some [0, 6, 7, 9, 26, 27, 28, 41])) af4
def af6 : R := .seq (.g8 [ro 33 (.aD 122 (.t 8)),
 ro 34 (.ad (.t 0)),
 ro 35 (.ad (.t 6)),
 ro 36 (.ad (.t 7)),
 ro 37 (.bK 129 (.t 35) (.t 36)),
 ro 38 (.aD 132 (.t 37)),
 ro 39 (.call (.f 206) [(.t 33), (.t 34), (.t 38)]),
 ro 9 (.ag (.t 39))] [[], [], [], [], [2, 3], [4], [0, 1, 5], [6, 6, 0, 1, 2, 3, 4, 5, 6]] (some [0, 6, 7, 9, 26, 27, 28])) af5
def af7 : R := .U [ro 44 (.aq .add 3 (.t 28) (.c (.int .i64 1))),
 ro 28 (.ad (.t 44))] (some [0, 6, 26, 27, 28])
def af8 : R := .seq (.block 1 (.seq (.U [ro 30 (.ad (.t 28)),
 ro 31 (.bK 117 (.t 26) (.t 28)),
 ro 32 (.aD 122 (.t 31)),
 ro 8 (.ey 122),
 ro 7 (.ag (.t 30)),
 ⟨none, .cC 122 (.t 8) (.t 32), none⟩] (some [0, 6, 7, 8, 26, 27, 28])) af6)) af7
def af9 : R := .seq (.cond (.t 29) .skip (.exit 0)) af8
def Lt : R := .seq (.U [ro 29 (.aq .lss 3 (.t 28) (.t 27))] (some [0, 6, 26, 27, 28, 29])) af9
def af_ : R := .block 0 (.loop Lt)
def aga : R := .seq (.U [ro 4 (.ag (.c (.int .i64 0))),
 ro 5 (.ag (.c (.int .i64 0)))] (some [4, 5])) .ret
def agb : R := .seq (.seq (.U [ro 25 (.aU 119 (.t 3) 2),
 ro 26 (.aD 117 (.t 25)),
 ro 27 (.len 117 (.t 26)),
 ro 28 (.ad (.c (.int .i64 0)))] (some [0, 6, 26, 27, 28])) af_) aga
def agc : R := .seq (.U [ro 23 (.aD 119 (.t 3)),
 ro 24 (.call (.f 80) [(.t 23)]),
 ro 6 (.ag (.t 24))] (some [0, 3, 6])) agb
def agd : R := .seq (.seq (.g8 [ro 10 (.aU 119 (.t 3) 2),
 ro 11 (.aD 117 (.t 10)),
 ro 12 (.len 117 (.t 11)),
 ro 13 (.call (.f 95) [(.t 12), (.c (.int .i64 1)), (.c (.int .i64 20))]),
 ro 14 (.un .not (.t 13)),
 ro 15 (.ad (.t 14)),
 ⟨some 16, .aD 119 (.t 3), some (15, false)⟩,
 ⟨some 17, .call (.f 205) [(.t 16), (.c (.int .i64 0))], some (15, false)⟩,
 ⟨some 18, .aU 119 (.t 3) 2, some (15, false)⟩,
 ⟨some 19, .aD 117 (.t 18), some (15, false)⟩,
 ⟨some 20, .len 117 (.t 19), some (15, false)⟩,
 ⟨some 21, .aq .neq 3 (.t 17) (.t 20), some (15, false)⟩,
 ro 22 (.pick (.t 15) (.c (.bool true)) (.t 21))] [[], [0], [1], [2], [3], [4, 3], [5], [6, 5, 5], [5], [8, 5], [9, 5], [7, 10, 5], [5, 11]] (some [0, 3, 22])) af2) agc
def age : R := .seq (.U [ro 3 (.c7 119 (.t 1)),
 ro 4 (.ag (.c (.int .i64 0))),
 ro 5 (.ag (.c (.int .i64 0)))] (some [0, 3])) agd
theorem agf : bw ⟨45, [0, 1]⟩ (Tryz.f168.body.getD .skip) = some age.strip := by kernel_rfl
def agh : R := .seq (.U [ro 2 (.ag (.c (.bool false)))] (some [2])) .ret
def agi : R := .cond (.t 15) agh .skip
def agj : R := .seq (.U [ro 2 (.ag (.c (.bool false)))] (some [2])) .ret
def agk : R := .cond (.t 35) agj .skip
def agl : R := .seq (.U [ro 2 (.ag (.c (.bool false)))] (some [2])) .ret
def agm : R := .cond (.t 43) agl .skip
def agn : R := .seq (.U [ro 42 (.ad (.t 6)),
 ro 43 (.aq .neq 2 (.t 42) (.c (.int .i64 0)))] (some [0, 16, 17, 18, 43])) agm
def ago : R := .seq (.U [ro 37 (.ad (.t 0)),
 ro 38 (.aD 119 (.t 4)),
 ro 39 (.call (.f 168) [(.t 37), (.t 38)]),
 ro 36 (.ad (.t 39)),
 ro 40 (.ex (.t 36) 0),
 ro 41 (.ex (.t 36) 1),
 ro 5 (.ag (.t 40)),
 ro 6 (.ag (.t 41))] (some [0, 6, 16, 17, 18])) agn
def agp : R := .seq (.seq (.g8 [ro 23 (.aU 119 (.t 4) 0),
 ro 24 (.aD 9 (.t 23)),
 ro 25 (.call (.f 166) [(.t 24)]),
 ro 26 (.un .not (.t 25)),
 ro 27 (.ad (.t 26)),
 ⟨some 28, .ad (.t 0), some (27, false)⟩,
 ⟨some 29, .ad (.t 3), some (27, false)⟩,
 ⟨some 30, .fA 32 (.t 28) none (some (.t 29)), some (27, false)⟩,
 ⟨some 31, .aU 119 (.t 4) 0, some (27, false)⟩,
 ⟨some 32, .aD 9 (.t 31), some (27, false)⟩,
 ⟨some 33, .call (.f 167) [(.t 30), (.t 32)], some (27, false)⟩,
 ⟨some 34, .aq .geq 3 (.t 33) (.c (.int .i64 0)), some (27, false)⟩,
 ro 35 (.pick (.t 27) (.c (.bool true)) (.t 34))] [[], [0], [1], [2], [3, 2], [4], [4], [5, 6, 4], [4], [8, 4], [7, 9, 4, 4], [10, 4], [4, 11]] (some [0, 4, 16, 17, 18, 35])) agk) ago
def agq : R := .U [ro 44 (.aq .add 3 (.t 18) (.c (.int .i64 1))),
 ro 18 (.ad (.t 44))] (some [0, 16, 17, 18])
def agr : R := .seq (.block 1 (.seq (.U [ro 20 (.ad (.t 18)),
 ro 21 (.bK 32 (.t 16) (.t 18)),
 ro 22 (.aD 119 (.t 21)),
 ro 4 (.ey 119),
 ro 3 (.ag (.t 20)),
 ⟨none, .cC 119 (.t 4) (.t 22), none⟩] (some [0, 3, 4, 16, 17, 18])) agp)) agq
def ags : R := .seq (.cond (.t 19) .skip (.exit 0)) agr
def Lu : R := .seq (.U [ro 19 (.aq .lss 3 (.t 18) (.t 17))] (some [0, 16, 17, 18, 19])) ags
def agt : R := .block 0 (.loop Lu)
def agu : R := .seq (.U [ro 2 (.ag (.c (.bool true)))] (some [2])) .ret
def agv : R := .seq (.seq (.U [ro 16 (.ad (.t 0)),
 ro 17 (.len 32 (.t 16)),
 ro 18 (.ad (.c (.int .i64 0)))] (some [0, 16, 17, 18])) agt) agu
def agw : R := .seq (.seq (.U [ro 7 (.ad (.t 0)),
 ro 8 (.len 32 (.t 7)),
 ro 9 (.call (.f 95) [(.t 8), (.c (.int .i64 1)), (.c (.int .i64 4))]),
 ro 10 (.un .not (.t 9)),
 ro 11 (.ad (.t 10)),
 ⟨some 12, .ad (.t 0), some (11, false)⟩,
 ⟨some 13, .call (.f 165) [(.t 12)], some (11, false)⟩,
 ⟨some 14, .un .not (.t 13), some (11, false)⟩,
 ro 15 (.pick (.t 11) (.c (.bool true)) (.t 14))] (some [0, 15])) agi) agv
def agx : R := .seq (.U [ro 2 (.ag (.c (.bool false)))] (some [0])) agw
theorem agy : bw ⟨45, [0]⟩ (Tryz.f127.body.getD .skip) = some agx.strip := by kernel_rfl
def agz : R := .seq (.U [ro 3 (.ad (.t 0)),
 ro 4 (.call (.f 180) [(.t 3)]),
 ro 5 (.un .not (.t 4)),
 ro 2 (.ag (.t 5))] (some [2])) .ret
def agA : R := .seq (.U [ro 2 (.ag (.c (.bool false)))] (some [0])) agz
theorem agB : bw ⟨6, [0]⟩ (Tryz.f179.body.getD .skip) = some agA.strip := by kernel_rfl
def agC : R := .seq (.U [ro 17 (.ad (.t 5)),
 ro 4 (.ag (.t 17))] (some [4])) .ret
def agD : R := .cond (.t 16) agC .skip
def agE : R := .seq (.U [ro 11 (.ad (.t 1)),
 ro 12 (.ad (.t 0)),
 ro 13 (.ad (.t 5)),
 ro 14 (.bK 43 (.t 12) (.t 13)),
 ro 15 (.aD 2 (.t 14)),
 ro 16 (.call (.t 11) [(.t 15)])] (some [0, 1, 5, 7, 8, 16])) agD
def agF : R := .U [ro 18 (.aq .add 3 (.t 8) (.c (.int .i64 1))),
 ro 8 (.ad (.t 18))] (some [0, 1, 7, 8])
def agG : R := .seq (.block 1 (.seq (.U [ro 10 (.ad (.t 8)),
 ro 5 (.ag (.t 10))] (some [0, 1, 5, 7, 8])) agE)) agF
def agH : R := .seq (.cond (.t 9) .skip (.exit 0)) agG
def Lv : R := .seq (.U [ro 9 (.aq .lss 3 (.t 8) (.t 7))] (some [0, 1, 7, 8, 9])) agH
def agI : R := .block 0 (.loop Lv)
def agJ : R := .seq (.U [ro 4 (.ag (.c (.int .i64 (-1))))] (some [4])) .ret
def agK : R := .seq (.seq (.U [ro 6 (.ad (.t 0)),
 ro 7 (.len 43 (.t 6)),
 ro 8 (.ad (.c (.int .i64 0)))] (some [0, 1, 7, 8])) agI) agJ
def agL : R := .seq (.U [ro 4 (.ag (.c (.int .i64 0)))] (some [0, 1])) agK
theorem agM : bw ⟨19, [0, 1]⟩ (Tryz.f209.body.getD .skip) = some agL.strip := by kernel_rfl
def agN : R := .seq (.U [ro 5 (.ad (.t 0)),
 ro 6 (.ad (.t 1)),
 ro 7 (.call (.f 209) [(.t 5), (.t 6)]),
 ro 8 (.aq .geq 3 (.t 7) (.c (.int .i64 0))),
 ro 4 (.ag (.t 8))] (some [4])) .ret
def agO : R := .seq (.U [ro 4 (.ag (.c (.bool false)))] (some [0, 1])) agN
theorem agP : bw ⟨9, [0, 1]⟩ (Tryz.f178.body.getD .skip) = some agO.strip := by kernel_rfl
def agQ : R := .seq (.U [ro 3 (.ad (.t 0)),
 ro 4 (.call (.f 178) [(.t 3), (.f 179)]),
 ro 5 (.un .not (.t 4)),
 ro 2 (.ag (.t 5))] (some [2])) .ret
def agR : R := .seq (.U [ro 2 (.ag (.c (.bool false)))] (some [0])) agQ
theorem agS : bw ⟨6, [0]⟩ (Tryz.f146.body.getD .skip) = some agR.strip := by kernel_rfl
def agT : R := .seq (.g8 [ro 5 (.aU 124 (.t 3) 0),
 ro 6 (.aD 2 (.t 5)),
 ro 7 (.ad (.t 0)),
 ro 8 (.len 32 (.t 7)),
 ro 9 (.call (.f 170) [(.t 6), (.t 8)]),
 ro 10 (.ad (.t 9)),
 ⟨some 11, .aU 124 (.t 3) 1, some (10, true)⟩,
 ⟨some 12, .aD 43 (.t 11), some (10, true)⟩,
 ⟨some 13, .len 43 (.t 12), some (10, true)⟩,
 ⟨some 14, .ad (.t 0), some (10, true)⟩,
 ⟨some 15, .aU 124 (.t 3) 0, some (10, true)⟩,
 ⟨some 16, .aD 2 (.t 15), some (10, true)⟩,
 ⟨some 17, .bK 32 (.t 14) (.t 16), some (10, true)⟩,
 ⟨some 18, .aU 119 (.t 17) 1, some (10, true)⟩,
 ⟨some 19, .aD 2 (.t 18), some (10, true)⟩,
 ⟨some 20, .aq .eql 2 (.t 13) (.t 19), some (10, true)⟩,
 ro 21 (.pick (.t 10) (.t 20) (.c (.bool false))),
 ro 22 (.ad (.t 21)),
 ⟨some 23, .aU 124 (.t 3) 1, some (22, true)⟩,
 ⟨some 24, .aD 43 (.t 23), some (22, true)⟩,
 ⟨some 25, .call (.f 146) [(.t 24)], some (22, true)⟩,
 ro 26 (.pick (.t 22) (.t 25) (.c (.bool false))),
 ro 4 (.ag (.t 26))] [[], [0], [], [2], [1, 3], [4, 4], [5], [6, 5], [7, 5], [5], [5], [10, 5], [9, 11, 5], [12, 5], [13, 5], [8, 14, 5], [5, 15], [16, 5], [17], [18, 17], [19, 17, 17], [17, 20], [21, 20, 0, 1, 2, 3, 4, 5, 6, 7, 8, 9, 10, 11, 12, 13, 14, 15, 16, 17, 18, 19, 20, 21]] (some [4])) .ret
def agU : R := .seq (.U [ro 3 (.c7 124 (.t 1)),
 ro 4 (.ag (.c (.bool false)))] (some [0, 3])) agT
theorem agV : bw ⟨27, [0, 1]⟩ (Tryz.f130.body.getD .skip) = some agU.strip := by kernel_rfl
def agW : R := .seq (.U [ro 4 (.aU 36 (.t 1) 0),
 ro 5 (.aD 32 (.t 4)),
 ro 6 (.aD 124 (.t 2)),
 ro 7 (.call (.f 130) [(.t 5), (.t 6)]),
 ro 8 (.un .not (.t 7)),
 ro 3 (.ag (.t 8))] (some [3])) .ret
def agX : R := .seq (.U [ro 2 (.c7 124 (.t 0)),
 ro 3 (.ag (.c (.bool false)))] (some [1, 2])) agW
theorem agY : bw ⟨9, [0, 1]⟩ (Tryz.f129.body.getD .skip) = some agX.strip := by kernel_rfl
def agZ : R := .seq (.U [ro 17 (.ad (.t 5)),
 ro 4 (.ag (.t 17))] (some [4])) .ret
def ag0 : R := .cond (.t 16) agZ .skip
def ag1 : R := .seq (.U [ro 11 (.ad (.t 1)),
 ro 12 (.ad (.t 0)),
 ro 13 (.ad (.t 5)),
 ro 14 (.bK 33 (.t 12) (.t 13)),
 ro 15 (.aD 124 (.t 14)),
 ro 16 (.call (.t 11) [(.t 15)])] (some [0, 1, 5, 7, 8, 16])) ag0
def ag2 : R := .U [ro 18 (.aq .add 3 (.t 8) (.c (.int .i64 1))),
 ro 8 (.ad (.t 18))] (some [0, 1, 7, 8])
def ag3 : R := .seq (.block 1 (.seq (.U [ro 10 (.ad (.t 8)),
 ro 5 (.ag (.t 10))] (some [0, 1, 5, 7, 8])) ag1)) ag2
def ag4 : R := .seq (.cond (.t 9) .skip (.exit 0)) ag3
def Lw : R := .seq (.U [ro 9 (.aq .lss 3 (.t 8) (.t 7))] (some [0, 1, 7, 8, 9])) ag4
def ag5 : R := .block 0 (.loop Lw)
def ag6 : R := .seq (.U [ro 4 (.ag (.c (.int .i64 (-1))))] (some [4])) .ret
def ag7 : R := .seq (.seq (.U [ro 6 (.ad (.t 0)),
 ro 7 (.len 33 (.t 6)),
 ro 8 (.ad (.c (.int .i64 0)))] (some [0, 1, 7, 8])) ag5) ag6
def ag8 : R := .seq (.U [ro 4 (.ag (.c (.int .i64 0)))] (some [0, 1])) ag7
theorem ag9 : bw ⟨19, [0, 1]⟩ (Tryz.f169.body.getD .skip) = some ag8.strip := by kernel_rfl
def ag_ : R := .seq (.U [ro 5 (.ad (.t 0)),
 ro 6 (.ad (.t 1)),
 ro 7 (.call (.f 169) [(.t 5), (.t 6)]),
 ro 8 (.aq .geq 3 (.t 7) (.c (.int .i64 0))),
 ro 4 (.ag (.t 8))] (some [4])) .ret
def aha : R := .seq (.U [ro 4 (.ag (.c (.bool false)))] (some [0, 1])) ag_
theorem ahb : bw ⟨9, [0, 1]⟩ (Tryz.f128.body.getD .skip) = some aha.strip := by kernel_rfl
def ahc : R := .seq (.U [ro 3 (.ad (.t 0)),
 ro 4 (.ad (.t 0)),
 ro 5 (.aq .neq 9 (.t 3) (.t 4)),
 ro 2 (.ag (.t 5))] (some [2])) .ret
def ahd : R := .seq (.U [ro 2 (.ag (.c (.bool false)))] (some [0])) ahc
theorem ahe : bw ⟨6, [0]⟩ (Tryz.f225.body.getD .skip) = some ahd.strip := by kernel_rfl
def ahf : R := .seq (.U [ro 4 (.ag (.c (.int .i64 0)))] (some [4])) .ret
def ahg : R := .cond (.t 12) ahf .skip
def ahh : R := .seq (.U [ro 4 (.ag (.c (.int .i64 (-1))))] (some [4])) .ret
def ahi : R := .seq (.seq (.U [ro 12 (.ad (.t 6))] (some [12])) ahg) ahh
def ahj : R := .cond (.t 11) ahi .skip
def ahk : R := .seq (.U [ro 4 (.ag (.c (.int .i64 1)))] (some [4])) .ret
def ahl : R := .cond (.t 13) ahk .skip
def ahm : R := .seq (.U [ro 4 (.ag (.c (.int .i64 (-1))))] (some [4])) .ret
def ahn : R := .cond (.t 16) ahm .skip
def aho : R := .seq (.U [ro 4 (.ag (.c (.int .i64 1)))] (some [4])) .ret
def ahp : R := .cond (.t 19) aho .skip
def ahq : R := .seq (.U [ro 4 (.ag (.c (.int .i64 0)))] (some [4])) .ret
def ahr : R := .seq (.seq (.U [ro 17 (.ad (.t 0)),
 ro 18 (.ad (.t 1)),
 ro 19 (.aq .gtr 9 (.t 17) (.t 18))] (some [19])) ahp) ahq
def ahs : R := .seq (.seq (.U [ro 14 (.ad (.t 0)),
 ro 15 (.ad (.t 1)),
 ro 16 (.aq .lss 9 (.t 14) (.t 15))] (some [0, 1, 16])) ahn) ahr
def aht : R := .seq (.seq (.U [ro 13 (.ad (.t 6))] (some [0, 1, 13])) ahl) ahs
def ahu : R := .seq (.seq (.U [ro 11 (.ad (.t 5))] (some [0, 1, 6, 11])) ahj) aht
def ahv : R := .seq (.U [ro 9 (.ad (.t 1)),
 ro 10 (.call (.f 225) [(.t 9)]),
 ro 6 (.ag (.t 10))] (some [0, 1, 5, 6])) ahu
def ahw : R := .seq (.U [ro 7 (.ad (.t 0)),
 ro 8 (.call (.f 225) [(.t 7)]),
 ro 5 (.ag (.t 8))] (some [0, 1, 5])) ahv
def ahx : R := .seq (.U [ro 4 (.ag (.c (.int .i64 0)))] (some [0, 1])) ahw
theorem ahy : bw ⟨20, [0, 1]⟩ (Tryz.f222.body.getD .skip) = some ahx.strip := by kernel_rfl
def ahz : R := .seq (.U [ro 4 (.ag (.c (.int .i64 1)))] (some [4])) .ret
def ahA : R := .cond (.t 19) ahz .skip
def ahB : R := .seq (.U [ro 29 (.ad (.t 8)),
 ro 4 (.ag (.t 29))] (some [4])) .ret
def ahC : R := .cond (.t 28) ahB .skip
def ahD : R := .seq (.U [ro 27 (.ad (.t 8)),
 ro 28 (.aq .neq 3 (.t 27) (.c (.int .i64 0)))] (some [0, 1, 8, 9, 10, 11, 28])) ahC
def ahE : R := .seq (.U [ro 24 (.ad (.t 6)),
 ro 25 (.ad (.t 7)),
 ro 26 (.call (.f 222) [(.t 24), (.t 25)]),
 ro 8 (.ag (.t 26))] (some [0, 1, 8, 9, 10, 11])) ahD
def ahF : R := .seq (.U [ro 20 (.ad (.t 1)),
 ro 21 (.ad (.t 5)),
 ro 22 (.bK 25 (.t 20) (.t 21)),
 ro 23 (.aD 9 (.t 22)),
 ro 7 (.ag (.t 23))] (some [0, 1, 6, 7, 9, 10, 11])) ahE
def ahG : R := .seq (.seq (.U [ro 16 (.ad (.t 5)),
 ro 17 (.ad (.t 1)),
 ro 18 (.len 25 (.t 17)),
 ro 19 (.aq .geq 3 (.t 16) (.t 18))] (some [0, 1, 5, 6, 9, 10, 11, 19])) ahA) ahF
def ahH : R := .U [ro 30 (.aq .add 3 (.t 11) (.c (.int .i64 1))),
 ro 11 (.ad (.t 30))] (some [0, 1, 9, 10, 11])
def ahI : R := .seq (.block 1 (.seq (.U [ro 13 (.ad (.t 11)),
 ro 14 (.bK 25 (.t 9) (.t 11)),
 ro 15 (.aD 9 (.t 14)),
 ro 5 (.ag (.t 13)),
 ro 6 (.ag (.t 15))] (some [0, 1, 5, 6, 9, 10, 11])) ahG)) ahH
def ahJ : R := .seq (.cond (.t 12) .skip (.exit 0)) ahI
def Lx : R := .seq (.U [ro 12 (.aq .lss 3 (.t 11) (.t 10))] (some [0, 1, 9, 10, 11, 12])) ahJ
def ahK : R := .block 0 (.loop Lx)
def ahL : R := .seq (.U [ro 4 (.ag (.c (.int .i64 (-1))))] (some [4])) .ret
def ahM : R := .cond (.t 35) ahL .skip
def ahN : R := .seq (.U [ro 4 (.ag (.c (.int .i64 0)))] (some [4])) .ret
def ahO : R := .seq (.seq (.U [ro 31 (.ad (.t 0)),
 ro 32 (.len 25 (.t 31)),
 ro 33 (.ad (.t 1)),
 ro 34 (.len 25 (.t 33)),
 ro 35 (.aq .lss 3 (.t 32) (.t 34))] (some [35])) ahM) ahN
def ahP : R := .seq (.seq (.U [ro 9 (.ad (.t 0)),
 ro 10 (.len 25 (.t 9)),
 ro 11 (.ad (.c (.int .i64 0)))] (some [0, 1, 9, 10, 11])) ahK) ahO
def ahQ : R := .seq (.U [ro 4 (.ag (.c (.int .i64 0)))] (some [0, 1])) ahP
theorem ahR : bw ⟨36, [0, 1]⟩ (Tryz.f207.body.getD .skip) = some ahQ.strip := by kernel_rfl
def ahS : R := .seq (.U [ro 5 (.aU 126 (.t 2) 0),
 ro 6 (.aD 9 (.t 5)),
 ro 7 (.aU 126 (.t 2) 1),
 ro 8 (.aD 9 (.t 7)),
 ro 9 (.eh 25 2 [(0, (.t 6)), (1, (.t 8))]),
 ro 10 (.aU 126 (.t 3) 0),
 ro 11 (.aD 9 (.t 10)),
 ro 12 (.aU 126 (.t 3) 1),
 ro 13 (.aD 9 (.t 12)),
 ro 14 (.eh 25 2 [(0, (.t 11)), (1, (.t 13))]),
 ro 15 (.call (.f 207) [(.t 9), (.t 14)]),
 ro 4 (.ag (.t 15))] (some [4])) .ret
def ahT : R := .seq (.U [ro 2 (.c7 126 (.t 0)),
 ro 3 (.c7 126 (.t 1)),
 ro 4 (.ag (.c (.int .i64 0)))] (some [2, 3])) ahS
theorem ahU : bw ⟨16, [0, 1]⟩ (Tryz.f171.body.getD .skip) = some ahT.strip := by kernel_rfl
def ahV : R := .seq (.U [ro 4 (.aU 126 (.t 2) 0),
 ro 5 (.aD 9 (.t 4)),
 ro 6 (.aU 126 (.t 1) 2),
 ro 7 (.aD 9 (.t 6)),
 ro 8 (.aq .eql 9 (.t 5) (.t 7)),
 ro 9 (.ad (.t 8)),
 ⟨some 10, .aU 126 (.t 2) 1, some (9, false)⟩,
 ⟨some 11, .aD 9 (.t 10), some (9, false)⟩,
 ⟨some 12, .aU 126 (.t 1) 2, some (9, false)⟩,
 ⟨some 13, .aD 9 (.t 12), some (9, false)⟩,
 ⟨some 14, .aq .eql 9 (.t 11) (.t 13), some (9, false)⟩,
 ro 15 (.pick (.t 9) (.c (.bool true)) (.t 14)),
 ro 3 (.ag (.t 15))] (some [3])) .ret
def ahW : R := .seq (.U [ro 2 (.c7 126 (.t 0)),
 ro 3 (.ag (.c (.bool false)))] (some [1, 2])) ahV
theorem ahX : bw ⟨16, [0, 1]⟩ (Tryz.f173.body.getD .skip) = some ahW.strip := by kernel_rfl
def ahY : R := .seq (.U [ro 17 (.ad (.t 5)),
 ro 4 (.ag (.t 17))] (some [4])) .ret
def ahZ : R := .cond (.t 16) ahY .skip
def ah0 : R := .seq (.U [ro 11 (.ad (.t 1)),
 ro 12 (.ad (.t 0)),
 ro 13 (.ad (.t 5)),
 ro 14 (.bK 34 (.t 12) (.t 13)),
 ro 15 (.aD 126 (.t 14)),
 ro 16 (.call (.t 11) [(.t 15)])] (some [0, 1, 5, 7, 8, 16])) ahZ
def ah1 : R := .U [ro 18 (.aq .add 3 (.t 8) (.c (.int .i64 1))),
 ro 8 (.ad (.t 18))] (some [0, 1, 7, 8])
def ah2 : R := .seq (.block 1 (.seq (.U [ro 10 (.ad (.t 8)),
 ro 5 (.ag (.t 10))] (some [0, 1, 5, 7, 8])) ah0)) ah1
def ah3 : R := .seq (.cond (.t 9) .skip (.exit 0)) ah2
def Ly : R := .seq (.U [ro 9 (.aq .lss 3 (.t 8) (.t 7))] (some [0, 1, 7, 8, 9])) ah3
def ah4 : R := .block 0 (.loop Ly)
def ah5 : R := .seq (.U [ro 4 (.ag (.c (.int .i64 (-1))))] (some [4])) .ret
def ah6 : R := .seq (.seq (.U [ro 6 (.ad (.t 0)),
 ro 7 (.len 34 (.t 6)),
 ro 8 (.ad (.c (.int .i64 0)))] (some [0, 1, 7, 8])) ah4) ah5
def ah7 : R := .seq (.U [ro 4 (.ag (.c (.int .i64 0)))] (some [0, 1])) ah6
theorem ah8 : bw ⟨19, [0, 1]⟩ (Tryz.f208.body.getD .skip) = some ah7.strip := by kernel_rfl
def ah9 : R := .seq (.U [ro 5 (.ad (.t 0)),
 ro 6 (.ad (.t 1)),
 ro 7 (.call (.f 208) [(.t 5), (.t 6)]),
 ro 8 (.aq .geq 3 (.t 7) (.c (.int .i64 0))),
 ro 4 (.ag (.t 8))] (some [4])) .ret
def ah_ : R := .seq (.U [ro 4 (.ag (.c (.bool false)))] (some [0, 1])) ah9
theorem aia : bw ⟨9, [0, 1]⟩ (Tryz.f172.body.getD .skip) = some ah_.strip := by kernel_rfl
def aib : R := .seq (.U [ro 2 (.ag (.c (.bool false)))] (some [2])) .ret
def aic : R := .cond (.t 48) aib .skip
def aid : R := .seq (.U [ro 2 (.ag (.c (.bool false)))] (some [2])) .ret
def aie : R := .cond (.t 51) aid .skip
def aif : R := .seq (.U [ro 49 (.ad (.t 0)),
 ro 50 (.ia 173 [(.t 4)]),
 ro 51 (.call (.f 172) [(.t 49), (.t 50)])] (some [0, 5, 6, 7, 51])) aie
def aih : R := .seq (.seq (.g8 [ro 12 (.aU 126 (.t 4) 0),
 ro 13 (.aD 9 (.t 12)),
 ro 14 (.call (.f 149) [(.t 13)]),
 ro 15 (.un .not (.t 14)),
 ro 16 (.ad (.t 15)),
 ⟨some 17, .aU 126 (.t 4) 1, some (16, false)⟩,
 ⟨some 18, .aD 9 (.t 17), some (16, false)⟩,
 ⟨some 19, .call (.f 149) [(.t 18)], some (16, false)⟩,
 ⟨some 20, .un .not (.t 19), some (16, false)⟩,
 ro 21 (.pick (.t 16) (.c (.bool true)) (.t 20)),
 ro 22 (.ad (.t 21)),
 ⟨some 23, .aU 126 (.t 4) 2, some (22, false)⟩,
 ⟨some 24, .aD 9 (.t 23), some (22, false)⟩,
 ⟨some 25, .call (.f 149) [(.t 24)], some (22, false)⟩,
 ⟨some 26, .un .not (.t 25), some (22, false)⟩,
 ro 27 (.pick (.t 22) (.c (.bool true)) (.t 26)),
 ro 28 (.ad (.t 27)),
 ⟨some 29, .aU 126 (.t 4) 0, some (28, false)⟩,
 ⟨some 30, .aD 9 (.t 29), some (28, false)⟩,
 ⟨some 31, .aU 126 (.t 4) 1, some (28, false)⟩,
 ⟨some 32, .aD 9 (.t 31), some (28, false)⟩,
 ⟨some 33, .aq .gtr 9 (.t 30) (.t 32), some (28, false)⟩,
 ro 34 (.pick (.t 28) (.c (.bool true)) (.t 33)),
 ro 35 (.ad (.t 34)),
 ⟨some 36, .ad (.t 3), some (35, false)⟩,
 ⟨some 37, .aq .gtr 3 (.t 36) (.c (.int .i64 0)), some (35, false)⟩,
 ⟨some 38, .ad (.t 37), some (35, false)⟩,
 ⟨some 39, .ad (.t 0), some (38, true)⟩,
 ⟨some 40, .ad (.t 3), some (38, true)⟩,
 ⟨some 41, .aq .sub 3 (.t 40) (.c (.int .i64 1)), some (38, true)⟩,
 ⟨some 42, .bK 34 (.t 39) (.t 41), some (38, true)⟩,
 ⟨some 43, .aD 126 (.t 42), some (38, true)⟩,
 ⟨some 44, .aD 126 (.t 4), some (38, true)⟩,
 ⟨some 45, .call (.f 171) [(.t 43), (.t 44)], some (38, true)⟩,
 ⟨some 46, .aq .geq 3 (.t 45) (.c (.int .i64 0)), some (38, true)⟩,
 ⟨some 47, .pick (.t 38) (.t 46) (.c (.bool false)), some (35, false)⟩,
 ro 48 (.pick (.t 35) (.c (.bool true)) (.t 47))] [[], [0], [1], [2], [3, 2], [4], [5, 4], [6, 4, 4], [7, 4], [4, 8], [9, 7], [10], [11, 10], [12, 10, 10], [13, 10], [10, 14], [15, 13], [16], [17, 16], [16], [19, 16], [18, 20, 16], [16, 21], [22, 16], [23], [24, 23], [25, 23, 23], [26], [26], [28, 26], [27, 29, 26], [30, 26], [26], [31, 32, 26, 26], [33, 26], [26, 34, 23], [23, 35]] (some [0, 4, 5, 6, 7, 48])) aic) aif
def aii : R := .U [ro 52 (.aq .add 3 (.t 7) (.c (.int .i64 1))),
 ro 7 (.ad (.t 52))] (some [0, 5, 6, 7])
def aij : R := .seq (.block 1 (.seq (.U [ro 9 (.ad (.t 7)),
 ro 10 (.bK 34 (.t 5) (.t 7)),
 ro 11 (.aD 126 (.t 10)),
 ro 4 (.ey 126),
 ro 3 (.ag (.t 9)),
 ⟨none, .cC 126 (.t 4) (.t 11), none⟩] (some [0, 3, 4, 5, 6, 7])) aih)) aii
def aik : R := .seq (.cond (.t 8) .skip (.exit 0)) aij
def Lz : R := .seq (.U [ro 8 (.aq .lss 3 (.t 7) (.t 6))] (some [0, 5, 6, 7, 8])) aik
def ail : R := .block 0 (.loop Lz)
def aim : R := .seq (.U [ro 53 (.ad (.t 0)),
 ro 54 (.len 34 (.t 53)),
 ro 55 (.aq .leq 3 (.t 54) (.c (.int .i64 6))),
 ro 2 (.ag (.t 55))] (some [2])) .ret
def ain : R := .seq (.seq (.U [ro 5 (.ad (.t 0)),
 ro 6 (.len 34 (.t 5)),
 ro 7 (.ad (.c (.int .i64 0)))] (some [0, 5, 6, 7])) ail) aim
def aio : R := .seq (.U [ro 2 (.ag (.c (.bool false)))] (some [0])) ain
theorem aip : bw ⟨56, [0]⟩ (Tryz.f131.body.getD .skip) = some aio.strip := by kernel_rfl
def aiq : R := .seq (.U [ro 2 (.ag (.c (.bool false)))] (some [2])) .ret
def air : R := .cond (.t 27) aiq .skip
def ais : R := .seq (.U [ro 12 (.ad (.t 4)),
 ro 13 (.call (.f 149) [(.t 12)]),
 ro 14 (.un .not (.t 13)),
 ro 15 (.ad (.t 14)),
 ⟨some 16, .ad (.t 3), some (15, false)⟩,
 ⟨some 17, .aq .gtr 3 (.t 16) (.c (.int .i64 0)), some (15, false)⟩,
 ⟨some 18, .ad (.t 17), some (15, false)⟩,
 ⟨some 19, .ad (.t 4), some (18, true)⟩,
 ⟨some 20, .ad (.t 0), some (18, true)⟩,
 ⟨some 21, .ad (.t 3), some (18, true)⟩,
 ⟨some 22, .aq .sub 3 (.t 21) (.c (.int .i64 1)), some (18, true)⟩,
 ⟨some 23, .bK 25 (.t 20) (.t 22), some (18, true)⟩,
 ⟨some 24, .aD 9 (.t 23), some (18, true)⟩,
 ⟨some 25, .aq .leq 9 (.t 19) (.t 24), some (18, true)⟩,
 ⟨some 26, .pick (.t 18) (.t 25) (.c (.bool false)), some (15, false)⟩,
 ro 27 (.pick (.t 15) (.c (.bool true)) (.t 26))] (some [0, 5, 6, 7, 27])) air
def ait : R := .U [ro 28 (.aq .add 3 (.t 7) (.c (.int .i64 1))),
 ro 7 (.ad (.t 28))] (some [0, 5, 6, 7])
def aiu : R := .seq (.block 1 (.seq (.U [ro 9 (.ad (.t 7)),
 ro 10 (.bK 25 (.t 5) (.t 7)),
 ro 11 (.aD 9 (.t 10)),
 ro 3 (.ag (.t 9)),
 ro 4 (.ag (.t 11))] (some [0, 3, 4, 5, 6, 7])) ais)) ait
def aiv : R := .seq (.cond (.t 8) .skip (.exit 0)) aiu
def LA : R := .seq (.U [ro 8 (.aq .lss 3 (.t 7) (.t 6))] (some [0, 5, 6, 7, 8])) aiv
def aiw : R := .block 0 (.loop LA)
def aix : R := .seq (.U [ro 29 (.ad (.t 0)),
 ro 30 (.len 25 (.t 29)),
 ro 31 (.aq .leq 3 (.t 30) (.c (.int .i64 12))),
 ro 2 (.ag (.t 31))] (some [2])) .ret
def aiy : R := .seq (.seq (.U [ro 5 (.ad (.t 0)),
 ro 6 (.len 25 (.t 5)),
 ro 7 (.ad (.c (.int .i64 0)))] (some [0, 5, 6, 7])) aiw) aix
def aiz : R := .seq (.U [ro 2 (.ag (.c (.bool false)))] (some [0])) aiy
theorem aiA : bw ⟨32, [0]⟩ (Tryz.f132.body.getD .skip) = some aiz.strip := by kernel_rfl
def aiB : R := .seq (.U [ro 2 (.ag (.c (.int .i64 1)))] (some [2])) .ret
def aiC : R := .seq (.U [ro 2 (.ag (.c (.int .i64 2)))] (some [2])) .ret
def aiD : R := .seq (.U [ro 2 (.ag (.c (.int .i64 3)))] (some [2])) .ret
def aiE : R := .seq (.U [ro 2 (.ag (.c (.int .i64 4)))] (some [2])) .ret
def aiF : R := .seq (.U [ro 2 (.ag (.c (.int .i64 5)))] (some [2])) .ret
def aiG : R := .cond (.t 30) aiF .skip
def aiH : R := .seq (.U [ro 31 (.aU 36 (.t 1) 4),
 ro 32 (.aD 25 (.t 31)),
 ro 33 (.call (.f 132) [(.t 32)]),
 ro 34 (.un .not (.t 33)),
 ro 30 (.ag (.t 34))] (some [30])) aiG
def aiI : R := .cond (.t 25) aiE aiH
def aiJ : R := .seq (.U [ro 26 (.aU 36 (.t 1) 3),
 ro 27 (.aD 25 (.t 26)),
 ro 28 (.call (.f 132) [(.t 27)]),
 ro 29 (.un .not (.t 28)),
 ro 25 (.ag (.t 29))] (some [1, 25])) aiI
def aiK : R := .cond (.t 20) aiD aiJ
def aiL : R := .seq (.U [ro 21 (.aU 36 (.t 1) 2),
 ro 22 (.aD 34 (.t 21)),
 ro 23 (.call (.f 131) [(.t 22)]),
 ro 24 (.un .not (.t 23)),
 ro 20 (.ag (.t 24))] (some [1, 20])) aiK
def aiM : R := .cond (.t 8) aiC aiL
def aiN : R := .seq (.U [ro 9 (.aU 36 (.t 1) 1),
 ro 10 (.aD 33 (.t 9)),
 ro 11 (.len 33 (.t 10)),
 ro 12 (.call (.f 95) [(.t 11), (.c (.int .i64 1)), (.c (.int .i64 3))]),
 ro 13 (.un .not (.t 12)),
 ro 14 (.ad (.t 13)),
 ⟨some 15, .aU 36 (.t 1) 1, some (14, false)⟩,
 ⟨some 16, .aD 33 (.t 15), some (14, false)⟩,
 ⟨some 17, .ia 129 [(.t 1)], some (14, false)⟩,
 ⟨some 18, .call (.f 128) [(.t 16), (.t 17)], some (14, false)⟩,
 ro 19 (.pick (.t 14) (.c (.bool true)) (.t 18)),
 ro 8 (.ag (.t 19))] (some [1, 8])) aiM
def aiO : R := .cond (.t 3) aiB aiN
def aiP : R := .seq (.U [ro 2 (.ag (.c (.int .i64 0)))] (some [2])) .ret
def aiQ : R := .seq (.block 0 (.seq (.U [ro 4 (.aU 36 (.t 1) 0),
 ro 5 (.aD 32 (.t 4)),
 ro 6 (.call (.f 127) [(.t 5)]),
 ro 7 (.un .not (.t 6)),
 ro 3 (.ag (.t 7))] (some [1, 3])) aiO)) aiP
def aiR : R := .seq (.U [ro 1 (.c7 36 (.t 0)),
 ro 2 (.ag (.c (.int .i64 0)))] (some [1])) aiQ
theorem aiS : bw ⟨35, [0]⟩ (Tryz.f79.body.getD .skip) = some aiR.strip := by kernel_rfl
def aiT : R := .seq (.U [ro 3 (.aD 36 (.t 1)),
 ro 4 (.call (.f 79) [(.t 3)]),
 ro 5 (.aq .eql 2 (.t 4) (.c (.int .i64 0))),
 ro 2 (.ag (.t 5))] (some [2])) .ret
def aiU : R := .seq (.U [ro 1 (.c7 36 (.t 0)),
 ro 2 (.ag (.c (.bool false)))] (some [1])) aiT
theorem aiV : bw ⟨6, [0]⟩ (Tryz.f43.body.getD .skip) = some aiU.strip := by kernel_rfl
def aiW : R := .U [ro 39 (.ad (.t 3)),
 ro 40 (.ad (.t 4)),
 ro 41 (.ad (.t 6)),
 ro 42 (.eh 43 2 [(0, (.t 40)), (1, (.t 41))]),
 ro 43 (.eh 29 1 [(0, (.t 42))]),
 ro 44 (.app 29 29 (.t 39) (.t 43)),
 ro 3 (.ag (.t 44))] (some [3, 4, 5, 9, 10, 11, 17, 18, 19])
def aiX : R := .cond (.t 38) aiW .skip
def aiY : R := .seq (.U [ro 24 (.ad (.t 6)),
 ro 25 (.aq .eql 3 (.t 24) (.c (.int .i64 0))),
 ro 26 (.ad (.t 25)),
 ⟨some 27, .aU 132 (.t 7) 1, some (26, false)⟩,
 ⟨some 28, .aD 4 (.t 27), some (26, false)⟩,
 ⟨some 29, .ad (.t 28), some (26, false)⟩,
 ⟨some 30, .aU 119 (.t 5) 2, some (29, true)⟩,
 ⟨some 31, .aD 117 (.t 30), some (29, true)⟩,
 ⟨some 32, .ad (.t 6), some (29, true)⟩,
 ⟨some 33, .bK 117 (.t 31) (.t 32), some (29, true)⟩,
 ⟨some 34, .aU 122 (.t 33) 0, some (29, true)⟩,
 ⟨some 35, .aD 2 (.t 34), some (29, true)⟩,
 ⟨some 36, .aq .neq 2 (.t 35) (.c (.int .i64 5)), some (29, true)⟩,
 ⟨some 37, .pick (.t 29) (.t 36) (.c (.bool false)), some (26, false)⟩,
 ro 38 (.pick (.t 26) (.c (.bool true)) (.t 37))] (some [3, 4, 5, 6, 9, 10, 11, 17, 18, 19, 38])) aiX
def LB : R := .U [ro 45 (.aq .add 3 (.t 19) (.c (.int .i64 1))),
 ro 19 (.ad (.t 45))] (some [3, 4, 5, 9, 10, 11, 17, 18, 19])
def aiZ : R := .seq (.block 3 (.seq (.U [ro 21 (.ad (.t 19)),
 ro 22 (.bK 129 (.t 17) (.t 19)),
 ro 23 (.aD 132 (.t 22)),
 ro 7 (.ey 132),
 ro 6 (.ag (.t 21)),
 ⟨none, .cC 132 (.t 7) (.t 23), none⟩] (some [3, 4, 5, 6, 7, 9, 10, 11, 17, 18, 19])) aiY)) LB
def ai0 : R := .seq (.cond (.t 20) .skip (.exit 2)) aiZ
def LC : R := .seq (.U [ro 20 (.aq .lss 3 (.t 19) (.t 18))] (some [3, 4, 5, 9, 10, 11, 17, 18, 19, 20])) ai0
def ai1 : R := .block 2 (.loop LC)
def ai2 : R := .seq (.U [ro 16 (.aD 119 (.t 5)),
 ro 17 (.call (.f 80) [(.t 16)]),
 ro 18 (.len 129 (.t 17)),
 ro 19 (.ad (.c (.int .i64 0)))] (some [3, 4, 5, 9, 10, 11, 17, 18, 19])) ai1
def ai3 : R := .U [ro 46 (.aq .add 3 (.t 11) (.c (.int .i64 1))),
 ro 11 (.ad (.t 46))] (some [3, 9, 10, 11])
def ai4 : R := .seq (.block 1 (.seq (.U [ro 13 (.ad (.t 11)),
 ro 14 (.bK 32 (.t 9) (.t 11)),
 ro 15 (.aD 119 (.t 14)),
 ro 5 (.ey 119),
 ro 4 (.ag (.t 13)),
 ⟨none, .cC 119 (.t 5) (.t 15), none⟩] (some [3, 4, 5, 9, 10, 11])) ai2)) ai3
def ai5 : R := .seq (.cond (.t 12) .skip (.exit 0)) ai4
def LD : R := .seq (.U [ro 12 (.aq .lss 3 (.t 11) (.t 10))] (some [3, 9, 10, 11, 12])) ai5
def ai6 : R := .block 0 (.loop LD)
def ai7 : R := .seq (.U [ro 47 (.ad (.t 3)),
 ro 2 (.ag (.t 47))] (some [2])) .ret
def ai8 : R := .seq (.seq (.U [ro 8 (.aU 36 (.t 1) 0),
 ro 9 (.aD 32 (.t 8)),
 ro 10 (.len 32 (.t 9)),
 ro 11 (.ad (.c (.int .i64 0)))] (some [3, 9, 10, 11])) ai6) ai7
def ai9 : R := .seq (.U [ro 3 (.ag (.c .bg))] (some [1, 3])) ai8
def ai_ : R := .seq (.U [ro 1 (.c7 36 (.t 0)),
 ro 2 (.ag (.c .bg))] (some [1])) ai9
theorem aja : bw ⟨48, [0]⟩ (Tryz.f44.body.getD .skip) = some ai_.strip := by kernel_rfl
def ajb : R := .seq (.U [ro 2 (.ag (.c .bg)),
 ro 3 (.ag (.c (.int .i64 1)))] (some [2, 3])) .ret
def ajc : R := .cond (.t 7) ajb .skip
def ajd : R := .seq (.U [ro 2 (.ag (.c .bg)),
 ro 3 (.ag (.c (.int .i64 5)))] (some [2, 3])) .ret
def aje : R := .cond (.t 12) ajd .skip
def ajf : R := .seq (.U [ro 13 (.ad (.t 4)),
 ro 2 (.ag (.t 13)),
 ro 3 (.ag (.c (.int .i64 0)))] (some [2, 3])) .ret
def ajg : R := .seq (.seq (.U [ro 10 (.ad (.t 4)),
 ro 11 (.len 29 (.t 10)),
 ro 12 (.aq .gtr 3 (.t 11) (.c (.int .i64 64)))] (some [4, 12])) aje) ajf
def ajh : R := .seq (.U [ro 8 (.aD 36 (.t 1)),
 ro 9 (.call (.f 44) [(.t 8)]),
 ro 4 (.ag (.t 9))] (some [4])) ajg
def aji : R := .seq (.seq (.U [ro 5 (.aD 36 (.t 1)),
 ro 6 (.call (.f 43) [(.t 5)]),
 ro 7 (.un .not (.t 6))] (some [1, 7])) ajc) ajh
def ajj : R := .seq (.U [ro 1 (.c7 36 (.t 0)),
 ro 2 (.ag (.c .bg)),
 ro 3 (.ag (.c (.int .i64 0)))] (some [1])) aji
theorem o_ : bw ⟨14, [0]⟩ (Tryz.f10.body.getD .skip) = some ajj.strip := by kernel_rfl
def ajk : R := .seq (.U [ro 4 (.ag (.c (.bool false)))] (some [4])) .ret
def ajl : R := .cond (.t 10) ajk .skip
def ajm : R := .cond (.t 14) .skip (.exit 0)
def ajn : R := .seq (.U [ro 4 (.ag (.c (.bool false)))] (some [4])) .ret
def ajo : R := .cond (.t 25) ajn .skip
def ajp : R := .U [ro 15 (.ad (.t 5)),
 ro 16 (.aq .add 3 (.t 15) (.c (.int .i64 1))),
 ro 5 (.ag (.t 16))] (some [0, 1, 5])
def ajq : R := .seq (.block 1 (.seq (.g8 [ro 17 (.ad (.t 0)),
 ro 18 (.ad (.t 5)),
 ro 19 (.bK 43 (.t 17) (.t 18)),
 ro 20 (.aD 2 (.t 19)),
 ro 21 (.ad (.t 1)),
 ro 22 (.ad (.t 5)),
 ro 23 (.bK 43 (.t 21) (.t 22)),
 ro 24 (.aD 2 (.t 23)),
 ro 25 (.aq .neq 2 (.t 20) (.t 24))] [[], [], [0, 1], [2], [], [], [4, 5], [6], [3, 7]] (some [0, 1, 5, 25])) ajo)) ajp
def LF : R := .seq (.seq (.U [ro 11 (.ad (.t 5)),
 ro 12 (.ad (.t 0)),
 ro 13 (.len 43 (.t 12)),
 ro 14 (.aq .lss 3 (.t 11) (.t 13))] (some [0, 1, 5, 14])) ajm) ajq
def ajr : R := .block 0 (.loop LF)
def ajs : R := .seq (.U [ro 4 (.ag (.c (.bool true)))] (some [4])) .ret
def ajt : R := .seq (.seq (.U [ro 5 (.ag (.c (.int .i64 0)))] (some [0, 1, 5])) ajr) ajs
def aju : R := .seq (.seq (.U [ro 6 (.ad (.t 0)),
 ro 7 (.len 43 (.t 6)),
 ro 8 (.ad (.t 1)),
 ro 9 (.len 43 (.t 8)),
 ro 10 (.aq .neq 3 (.t 7) (.t 9))] (some [0, 1, 10])) ajl) ajt
def ajv : R := .seq (.U [ro 4 (.ag (.c (.bool false)))] (some [0, 1])) aju
theorem sG : bw ⟨26, [0, 1]⟩ (Tryz.f21.body.getD .skip) = some ajv.strip := by kernel_rfl
def ajw : R := .seq (.U [ro 4 (.ag (.c (.bool false)))] (some [4])) .ret
def ajx : R := .cond (.t 10) ajw .skip
def ajy : R := .cond (.t 14) .skip (.exit 0)
def ajz : R := .seq (.U [ro 4 (.ag (.c (.bool false)))] (some [4])) .ret
def ajA : R := .cond (.t 26) ajz .skip
def ajB : R := .U [ro 15 (.ad (.t 5)),
 ro 16 (.aq .add 3 (.t 15) (.c (.int .i64 1))),
 ro 5 (.ag (.t 16))] (some [0, 1, 5])
def ajC : R := .seq (.block 1 (.seq (.g8 [ro 17 (.ad (.t 0)),
 ro 18 (.ad (.t 5)),
 ro 19 (.bK 29 (.t 17) (.t 18)),
 ro 20 (.aD 43 (.t 19)),
 ro 21 (.ad (.t 1)),
 ro 22 (.ad (.t 5)),
 ro 23 (.bK 29 (.t 21) (.t 22)),
 ro 24 (.aD 43 (.t 23)),
 ro 25 (.call (.f 21) [(.t 20), (.t 24)]),
 ro 26 (.un .not (.t 25))] [[], [], [0, 1], [2], [], [], [4, 5], [6], [3, 7], [8]] (some [0, 1, 5, 26])) ajA)) ajB
def LG : R := .seq (.seq (.U [ro 11 (.ad (.t 5)),
 ro 12 (.ad (.t 0)),
 ro 13 (.len 29 (.t 12)),
 ro 14 (.aq .lss 3 (.t 11) (.t 13))] (some [0, 1, 5, 14])) ajy) ajC
def ajD : R := .block 0 (.loop LG)
def ajE : R := .seq (.U [ro 4 (.ag (.c (.bool true)))] (some [4])) .ret
def ajF : R := .seq (.seq (.U [ro 5 (.ag (.c (.int .i64 0)))] (some [0, 1, 5])) ajD) ajE
def ajG : R := .seq (.seq (.U [ro 6 (.ad (.t 0)),
 ro 7 (.len 29 (.t 6)),
 ro 8 (.ad (.t 1)),
 ro 9 (.len 29 (.t 8)),
 ro 10 (.aq .neq 3 (.t 7) (.t 9))] (some [0, 1, 10])) ajx) ajF
def ajH : R := .seq (.U [ro 4 (.ag (.c (.bool false)))] (some [0, 1])) ajG
theorem uZ : bw ⟨27, [0, 1]⟩ (Tryz.f11.body.getD .skip) = some ajH.strip := by kernel_rfl
def ajI : R := .seq (.U [ro 4 (.ag (.c (.bool false)))] (some [4])) .ret
def ajJ : R := .cond (.t 9) ajI .skip
def ajK : R := .seq (.U [ro 4 (.ag (.c (.bool false)))] (some [4])) .ret
def ajL : R := .cond (.t 14) ajK .skip
def ajM : R := .seq (.U [ro 4 (.ag (.c (.bool true)))] (some [4])) .ret
def ajN : R := .seq (.seq (.U [ro 10 (.aU 191 (.t 2) 1),
 ro 11 (.aD 2 (.t 10)),
 ro 12 (.aU 191 (.t 3) 1),
 ro 13 (.aD 2 (.t 12)),
 ro 14 (.aq .neq 2 (.t 11) (.t 13))] (some [14])) ajL) ajM
def ajO : R := .seq (.seq (.U [ro 5 (.aU 191 (.t 2) 0),
 ro 6 (.aD 2 (.t 5)),
 ro 7 (.aU 191 (.t 3) 0),
 ro 8 (.aD 2 (.t 7)),
 ro 9 (.aq .neq 2 (.t 6) (.t 8))] (some [2, 3, 9])) ajJ) ajN
def ajP : R := .seq (.U [ro 2 (.c7 191 (.t 0)),
 ro 3 (.c7 191 (.t 1)),
 ro 4 (.ag (.c (.bool false)))] (some [2, 3])) ajO
theorem ajQ : bw ⟨15, [0, 1]⟩ (Tryz.f195.body.getD .skip) = some ajP.strip := by kernel_rfl
def ajR : R := .seq (.U [ro 4 (.ag (.c (.bool false)))] (some [4])) .ret
def ajS : R := .cond (.t 10) ajR .skip
def ajT : R := .cond (.t 14) .skip (.exit 0)
def ajU : R := .seq (.U [ro 4 (.ag (.c (.bool false)))] (some [4])) .ret
def ajV : R := .cond (.t 26) ajU .skip
def ajW : R := .U [ro 15 (.ad (.t 5)),
 ro 16 (.aq .add 3 (.t 15) (.c (.int .i64 1))),
 ro 5 (.ag (.t 16))] (some [0, 1, 5])
def ajX : R := .seq (.block 1 (.seq (.g8 [ro 17 (.ad (.t 0)),
 ro 18 (.ad (.t 5)),
 ro 19 (.bK 147 (.t 17) (.t 18)),
 ro 20 (.aD 191 (.t 19)),
 ro 21 (.ad (.t 1)),
 ro 22 (.ad (.t 5)),
 ro 23 (.bK 147 (.t 21) (.t 22)),
 ro 24 (.aD 191 (.t 23)),
 ro 25 (.call (.f 195) [(.t 20), (.t 24)]),
 ro 26 (.un .not (.t 25))] [[], [], [0, 1], [2], [], [], [4, 5], [6], [3, 7], [8]] (some [0, 1, 5, 26])) ajV)) ajW
def LH : R := .seq (.seq (.U [ro 11 (.ad (.t 5)),
 ro 12 (.ad (.t 0)),
 ro 13 (.len 147 (.t 12)),
 ro 14 (.aq .lss 3 (.t 11) (.t 13))] (some [0, 1, 5, 14])) ajT) ajX
def ajY : R := .block 0 (.loop LH)
def ajZ : R := .seq (.U [ro 4 (.ag (.c (.bool true)))] (some [4])) .ret
def aj0 : R := .seq (.seq (.U [ro 5 (.ag (.c (.int .i64 0)))] (some [0, 1, 5])) ajY) ajZ
def aj1 : R := .seq (.seq (.U [ro 6 (.ad (.t 0)),
 ro 7 (.len 147 (.t 6)),
 ro 8 (.ad (.t 1)),
 ro 9 (.len 147 (.t 8)),
 ro 10 (.aq .neq 3 (.t 7) (.t 9))] (some [0, 1, 10])) ajS) aj0
def aj2 : R := .seq (.U [ro 4 (.ag (.c (.bool false)))] (some [0, 1])) aj1
theorem aj3 : bw ⟨27, [0, 1]⟩ (Tryz.f158.body.getD .skip) = some aj2.strip := by kernel_rfl
def aj4 : R := .seq (.U [ro 4 (.ag (.c (.bool false)))] (some [4])) .ret
def aj5 : R := .cond (.t 10) aj4 .skip
def aj6 : R := .cond (.t 14) .skip (.exit 0)
def aj7 : R := .seq (.U [ro 4 (.ag (.c (.bool false)))] (some [4])) .ret
def aj8 : R := .cond (.t 26) aj7 .skip
def aj9 : R := .U [ro 15 (.ad (.t 5)),
 ro 16 (.aq .add 3 (.t 15) (.c (.int .i64 1))),
 ro 5 (.ag (.t 16))] (some [0, 1, 5])
def aj_ : R := .seq (.block 1 (.seq (.g8 [ro 17 (.ad (.t 0)),
 ro 18 (.ad (.t 5)),
 ro 19 (.bK 120 (.t 17) (.t 18)),
 ro 20 (.aD 147 (.t 19)),
 ro 21 (.ad (.t 1)),
 ro 22 (.ad (.t 5)),
 ro 23 (.bK 120 (.t 21) (.t 22)),
 ro 24 (.aD 147 (.t 23)),
 ro 25 (.call (.f 158) [(.t 20), (.t 24)]),
 ro 26 (.un .not (.t 25))] [[], [], [0, 1], [2], [], [], [4, 5], [6], [3, 7], [8]] (some [0, 1, 5, 26])) aj8)) aj9
def LI : R := .seq (.seq (.U [ro 11 (.ad (.t 5)),
 ro 12 (.ad (.t 0)),
 ro 13 (.len 120 (.t 12)),
 ro 14 (.aq .lss 3 (.t 11) (.t 13))] (some [0, 1, 5, 14])) aj6) aj_
def aka : R := .block 0 (.loop LI)
def akb : R := .seq (.U [ro 4 (.ag (.c (.bool true)))] (some [4])) .ret
def akc : R := .seq (.seq (.U [ro 5 (.ag (.c (.int .i64 0)))] (some [0, 1, 5])) aka) akb
def akd : R := .seq (.seq (.U [ro 6 (.ad (.t 0)),
 ro 7 (.len 120 (.t 6)),
 ro 8 (.ad (.t 1)),
 ro 9 (.len 120 (.t 8)),
 ro 10 (.aq .neq 3 (.t 7) (.t 9))] (some [0, 1, 10])) aj5) akc
def ake : R := .seq (.U [ro 4 (.ag (.c (.bool false)))] (some [0, 1])) akd
theorem akf : bw ⟨27, [0, 1]⟩ (Tryz.f159.body.getD .skip) = some ake.strip := by kernel_rfl
def akg : R := .seq (.U [ro 4 (.ag (.c (.bool false)))] (some [4])) .ret
def akh : R := .cond (.t 9) akg .skip
def aki : R := .seq (.U [ro 4 (.ag (.c (.bool false)))] (some [4])) .ret
def akj : R := .cond (.t 14) aki .skip
def akk : R := .seq (.U [ro 4 (.ag (.c (.bool false)))] (some [4])) .ret
def akl : R := .cond (.t 19) akk .skip
def akm : R := .seq (.U [ro 4 (.ag (.c (.bool false)))] (some [4])) .ret
def akn : R := .cond (.t 25) akm .skip
def ako : R := .seq (.U [ro 4 (.ag (.c (.bool true)))] (some [4])) .ret
def akp : R := .seq (.seq (.U [ro 20 (.aU 122 (.t 2) 3),
 ro 21 (.aD 120 (.t 20)),
 ro 22 (.aU 122 (.t 3) 3),
 ro 23 (.aD 120 (.t 22)),
 ro 24 (.call (.f 159) [(.t 21), (.t 23)]),
 ro 25 (.un .not (.t 24))] (some [25])) akn) ako
def akq : R := .seq (.seq (.U [ro 15 (.aU 122 (.t 2) 2),
 ro 16 (.aD 9 (.t 15)),
 ro 17 (.aU 122 (.t 3) 2),
 ro 18 (.aD 9 (.t 17)),
 ro 19 (.aq .neq 9 (.t 16) (.t 18))] (some [2, 3, 19])) akl) akp
def akr : R := .seq (.seq (.U [ro 10 (.aU 122 (.t 2) 1),
 ro 11 (.aD 2 (.t 10)),
 ro 12 (.aU 122 (.t 3) 1),
 ro 13 (.aD 2 (.t 12)),
 ro 14 (.aq .neq 2 (.t 11) (.t 13))] (some [2, 3, 14])) akj) akq
def aks : R := .seq (.seq (.U [ro 5 (.aU 122 (.t 2) 0),
 ro 6 (.aD 2 (.t 5)),
 ro 7 (.aU 122 (.t 3) 0),
 ro 8 (.aD 2 (.t 7)),
 ro 9 (.aq .neq 2 (.t 6) (.t 8))] (some [2, 3, 9])) akh) akr
def akt : R := .seq (.U [ro 2 (.c7 122 (.t 0)),
 ro 3 (.c7 122 (.t 1)),
 ro 4 (.ag (.c (.bool false)))] (some [2, 3])) aks
theorem aku : bw ⟨26, [0, 1]⟩ (Tryz.f174.body.getD .skip) = some akt.strip := by kernel_rfl
def akv : R := .seq (.U [ro 4 (.ag (.c (.bool false)))] (some [4])) .ret
def akw : R := .cond (.t 10) akv .skip
def akx : R := .cond (.t 14) .skip (.exit 0)
def aky : R := .seq (.U [ro 4 (.ag (.c (.bool false)))] (some [4])) .ret
def akz : R := .cond (.t 26) aky .skip
def akA : R := .U [ro 15 (.ad (.t 5)),
 ro 16 (.aq .add 3 (.t 15) (.c (.int .i64 1))),
 ro 5 (.ag (.t 16))] (some [0, 1, 5])
def akB : R := .seq (.block 1 (.seq (.g8 [ro 17 (.ad (.t 0)),
 ro 18 (.ad (.t 5)),
 ro 19 (.bK 117 (.t 17) (.t 18)),
 ro 20 (.aD 122 (.t 19)),
 ro 21 (.ad (.t 1)),
 ro 22 (.ad (.t 5)),
 ro 23 (.bK 117 (.t 21) (.t 22)),
 ro 24 (.aD 122 (.t 23)),
 ro 25 (.call (.f 174) [(.t 20), (.t 24)]),
 ro 26 (.un .not (.t 25))] [[], [], [0, 1], [2], [], [], [4, 5], [6], [3, 7], [8]] (some [0, 1, 5, 26])) akz)) akA
def LJ : R := .seq (.seq (.U [ro 11 (.ad (.t 5)),
 ro 12 (.ad (.t 0)),
 ro 13 (.len 117 (.t 12)),
 ro 14 (.aq .lss 3 (.t 11) (.t 13))] (some [0, 1, 5, 14])) akx) akB
def akC : R := .block 0 (.loop LJ)
def akD : R := .seq (.U [ro 4 (.ag (.c (.bool true)))] (some [4])) .ret
def akE : R := .seq (.seq (.U [ro 5 (.ag (.c (.int .i64 0)))] (some [0, 1, 5])) akC) akD
def akF : R := .seq (.seq (.U [ro 6 (.ad (.t 0)),
 ro 7 (.len 117 (.t 6)),
 ro 8 (.ad (.t 1)),
 ro 9 (.len 117 (.t 8)),
 ro 10 (.aq .neq 3 (.t 7) (.t 9))] (some [0, 1, 10])) akw) akE
def akG : R := .seq (.U [ro 4 (.ag (.c (.bool false)))] (some [0, 1])) akF
theorem akH : bw ⟨27, [0, 1]⟩ (Tryz.f135.body.getD .skip) = some akG.strip := by kernel_rfl
def akI : R := .seq (.U [ro 4 (.ag (.c (.bool false)))] (some [4])) .ret
def akJ : R := .cond (.t 9) akI .skip
def akK : R := .seq (.U [ro 4 (.ag (.c (.bool false)))] (some [4])) .ret
def akL : R := .cond (.t 14) akK .skip
def akM : R := .seq (.U [ro 4 (.ag (.c (.bool false)))] (some [4])) .ret
def akN : R := .cond (.t 20) akM .skip
def akO : R := .seq (.U [ro 4 (.ag (.c (.bool true)))] (some [4])) .ret
def akP : R := .seq (.seq (.U [ro 15 (.aU 119 (.t 2) 2),
 ro 16 (.aD 117 (.t 15)),
 ro 17 (.aU 119 (.t 3) 2),
 ro 18 (.aD 117 (.t 17)),
 ro 19 (.call (.f 135) [(.t 16), (.t 18)]),
 ro 20 (.un .not (.t 19))] (some [20])) akN) akO
def akQ : R := .seq (.seq (.U [ro 10 (.aU 119 (.t 2) 1),
 ro 11 (.aD 2 (.t 10)),
 ro 12 (.aU 119 (.t 3) 1),
 ro 13 (.aD 2 (.t 12)),
 ro 14 (.aq .neq 2 (.t 11) (.t 13))] (some [2, 3, 14])) akL) akP
def akR : R := .seq (.seq (.U [ro 5 (.aU 119 (.t 2) 0),
 ro 6 (.aD 9 (.t 5)),
 ro 7 (.aU 119 (.t 3) 0),
 ro 8 (.aD 9 (.t 7)),
 ro 9 (.aq .neq 9 (.t 6) (.t 8))] (some [2, 3, 9])) akJ) akQ
def akS : R := .seq (.U [ro 2 (.c7 119 (.t 0)),
 ro 3 (.c7 119 (.t 1)),
 ro 4 (.ag (.c (.bool false)))] (some [2, 3])) akR
theorem akT : bw ⟨21, [0, 1]⟩ (Tryz.f81.body.getD .skip) = some akS.strip := by kernel_rfl
def akU : R := .seq (.U [ro 4 (.ag (.c (.bool false)))] (some [4])) .ret
def akV : R := .cond (.t 10) akU .skip
def akW : R := .cond (.t 14) .skip (.exit 0)
def akX : R := .seq (.U [ro 4 (.ag (.c (.bool false)))] (some [4])) .ret
def akY : R := .cond (.t 26) akX .skip
def akZ : R := .U [ro 15 (.ad (.t 5)),
 ro 16 (.aq .add 3 (.t 15) (.c (.int .i64 1))),
 ro 5 (.ag (.t 16))] (some [0, 1, 5])
def ak0 : R := .seq (.block 1 (.seq (.g8 [ro 17 (.ad (.t 0)),
 ro 18 (.ad (.t 5)),
 ro 19 (.bK 32 (.t 17) (.t 18)),
 ro 20 (.aD 119 (.t 19)),
 ro 21 (.ad (.t 1)),
 ro 22 (.ad (.t 5)),
 ro 23 (.bK 32 (.t 21) (.t 22)),
 ro 24 (.aD 119 (.t 23)),
 ro 25 (.call (.f 81) [(.t 20), (.t 24)]),
 ro 26 (.un .not (.t 25))] [[], [], [0, 1], [2], [], [], [4, 5], [6], [3, 7], [8]] (some [0, 1, 5, 26])) akY)) akZ
def LK : R := .seq (.seq (.U [ro 11 (.ad (.t 5)),
 ro 12 (.ad (.t 0)),
 ro 13 (.len 32 (.t 12)),
 ro 14 (.aq .lss 3 (.t 11) (.t 13))] (some [0, 1, 5, 14])) akW) ak0
def ak1 : R := .block 0 (.loop LK)
def ak2 : R := .seq (.U [ro 4 (.ag (.c (.bool true)))] (some [4])) .ret
def ak3 : R := .seq (.seq (.U [ro 5 (.ag (.c (.int .i64 0)))] (some [0, 1, 5])) ak1) ak2
def ak4 : R := .seq (.seq (.U [ro 6 (.ad (.t 0)),
 ro 7 (.len 32 (.t 6)),
 ro 8 (.ad (.t 1)),
 ro 9 (.len 32 (.t 8)),
 ro 10 (.aq .neq 3 (.t 7) (.t 9))] (some [0, 1, 10])) akV) ak3
def ak5 : R := .seq (.U [ro 4 (.ag (.c (.bool false)))] (some [0, 1])) ak4
theorem ak6 : bw ⟨27, [0, 1]⟩ (Tryz.f45.body.getD .skip) = some ak5.strip := by kernel_rfl
def ak7 : R := .seq (.U [ro 4 (.ag (.c (.bool false)))] (some [4])) .ret
def ak8 : R := .cond (.t 9) ak7 .skip
def ak9 : R := .seq (.U [ro 4 (.ag (.c (.bool false)))] (some [4])) .ret
def ak_ : R := .cond (.t 15) ak9 .skip
def ala : R := .seq (.U [ro 4 (.ag (.c (.bool true)))] (some [4])) .ret
def alb : R := .seq (.seq (.U [ro 10 (.aU 124 (.t 2) 1),
 ro 11 (.aD 43 (.t 10)),
 ro 12 (.aU 124 (.t 3) 1),
 ro 13 (.aD 43 (.t 12)),
 ro 14 (.call (.f 21) [(.t 11), (.t 13)]),
 ro 15 (.un .not (.t 14))] (some [15])) ak_) ala
def alc : R := .seq (.seq (.U [ro 5 (.aU 124 (.t 2) 0),
 ro 6 (.aD 2 (.t 5)),
 ro 7 (.aU 124 (.t 3) 0),
 ro 8 (.aD 2 (.t 7)),
 ro 9 (.aq .neq 2 (.t 6) (.t 8))] (some [2, 3, 9])) ak8) alb
def ald : R := .seq (.U [ro 2 (.c7 124 (.t 0)),
 ro 3 (.c7 124 (.t 1)),
 ro 4 (.ag (.c (.bool false)))] (some [2, 3])) alc
theorem ale : bw ⟨16, [0, 1]⟩ (Tryz.f82.body.getD .skip) = some ald.strip := by kernel_rfl
def alf : R := .seq (.U [ro 4 (.ag (.c (.bool false)))] (some [4])) .ret
def alg : R := .cond (.t 10) alf .skip
def alh : R := .cond (.t 14) .skip (.exit 0)
def ali : R := .seq (.U [ro 4 (.ag (.c (.bool false)))] (some [4])) .ret
def alj : R := .cond (.t 26) ali .skip
def alk : R := .U [ro 15 (.ad (.t 5)),
 ro 16 (.aq .add 3 (.t 15) (.c (.int .i64 1))),
 ro 5 (.ag (.t 16))] (some [0, 1, 5])
def alm : R := .seq (.block 1 (.seq (.g8 [ro 17 (.ad (.t 0)),
 ro 18 (.ad (.t 5)),
 ro 19 (.bK 33 (.t 17) (.t 18)),
 ro 20 (.aD 124 (.t 19)),
 ro 21 (.ad (.t 1)),
 ro 22 (.ad (.t 5)),
 ro 23 (.bK 33 (.t 21) (.t 22)),
 ro 24 (.aD 124 (.t 23)),
 ro 25 (.call (.f 82) [(.t 20), (.t 24)]),
 ro 26 (.un .not (.t 25))] [[], [], [0, 1], [2], [], [], [4, 5], [6], [3, 7], [8]] (some [0, 1, 5, 26])) alj)) alk
def LL : R := .seq (.seq (.U [ro 11 (.ad (.t 5)),
 ro 12 (.ad (.t 0)),
 ro 13 (.len 33 (.t 12)),
 ro 14 (.aq .lss 3 (.t 11) (.t 13))] (some [0, 1, 5, 14])) alh) alm
def aln : R := .block 0 (.loop LL)
def alo : R := .seq (.U [ro 4 (.ag (.c (.bool true)))] (some [4])) .ret
def alp : R := .seq (.seq (.U [ro 5 (.ag (.c (.int .i64 0)))] (some [0, 1, 5])) aln) alo
def alq : R := .seq (.seq (.U [ro 6 (.ad (.t 0)),
 ro 7 (.len 33 (.t 6)),
 ro 8 (.ad (.t 1)),
 ro 9 (.len 33 (.t 8)),
 ro 10 (.aq .neq 3 (.t 7) (.t 9))] (some [0, 1, 10])) alg) alp
def alr : R := .seq (.U [ro 4 (.ag (.c (.bool false)))] (some [0, 1])) alq
theorem als : bw ⟨27, [0, 1]⟩ (Tryz.f46.body.getD .skip) = some alr.strip := by kernel_rfl
def alu : R := .seq (.U [ro 4 (.ag (.c (.bool false)))] (some [4])) .ret
def alv : R := .cond (.t 9) alu .skip
def alw : R := .seq (.U [ro 4 (.ag (.c (.bool false)))] (some [4])) .ret
def alx : R := .cond (.t 14) alw .skip
def aly : R := .seq (.U [ro 4 (.ag (.c (.bool false)))] (some [4])) .ret
def alz : R := .cond (.t 19) aly .skip
def alA : R := .seq (.U [ro 4 (.ag (.c (.bool true)))] (some [4])) .ret
def alB : R := .seq (.seq (.U [ro 15 (.aU 126 (.t 2) 2),
 ro 16 (.aD 9 (.t 15)),
 ro 17 (.aU 126 (.t 3) 2),
 ro 18 (.aD 9 (.t 17)),
 ro 19 (.aq .neq 9 (.t 16) (.t 18))] (some [19])) alz) alA
def alC : R := .seq (.seq (.U [ro 10 (.aU 126 (.t 2) 1),
 ro 11 (.aD 9 (.t 10)),
 ro 12 (.aU 126 (.t 3) 1),
 ro 13 (.aD 9 (.t 12)),
 ro 14 (.aq .neq 9 (.t 11) (.t 13))] (some [2, 3, 14])) alx) alB
def alD : R := .seq (.seq (.U [ro 5 (.aU 126 (.t 2) 0),
 ro 6 (.aD 9 (.t 5)),
 ro 7 (.aU 126 (.t 3) 0),
 ro 8 (.aD 9 (.t 7)),
 ro 9 (.aq .neq 9 (.t 6) (.t 8))] (some [2, 3, 9])) alv) alC
def alE : R := .seq (.U [ro 2 (.c7 126 (.t 0)),
 ro 3 (.c7 126 (.t 1)),
 ro 4 (.ag (.c (.bool false)))] (some [2, 3])) alD
theorem alF : bw ⟨20, [0, 1]⟩ (Tryz.f83.body.getD .skip) = some alE.strip := by kernel_rfl
def alG : R := .seq (.U [ro 4 (.ag (.c (.bool false)))] (some [4])) .ret
def alH : R := .cond (.t 10) alG .skip
def alI : R := .cond (.t 14) .skip (.exit 0)
def alJ : R := .seq (.U [ro 4 (.ag (.c (.bool false)))] (some [4])) .ret
def alK : R := .cond (.t 26) alJ .skip
def alL : R := .U [ro 15 (.ad (.t 5)),
 ro 16 (.aq .add 3 (.t 15) (.c (.int .i64 1))),
 ro 5 (.ag (.t 16))] (some [0, 1, 5])
def alM : R := .seq (.block 1 (.seq (.g8 [ro 17 (.ad (.t 0)),
 ro 18 (.ad (.t 5)),
 ro 19 (.bK 34 (.t 17) (.t 18)),
 ro 20 (.aD 126 (.t 19)),
 ro 21 (.ad (.t 1)),
 ro 22 (.ad (.t 5)),
 ro 23 (.bK 34 (.t 21) (.t 22)),
 ro 24 (.aD 126 (.t 23)),
 ro 25 (.call (.f 83) [(.t 20), (.t 24)]),
 ro 26 (.un .not (.t 25))] [[], [], [0, 1], [2], [], [], [4, 5], [6], [3, 7], [8]] (some [0, 1, 5, 26])) alK)) alL
def LM : R := .seq (.seq (.U [ro 11 (.ad (.t 5)),
 ro 12 (.ad (.t 0)),
 ro 13 (.len 34 (.t 12)),
 ro 14 (.aq .lss 3 (.t 11) (.t 13))] (some [0, 1, 5, 14])) alI) alM
def alN : R := .block 0 (.loop LM)
def alO : R := .seq (.U [ro 4 (.ag (.c (.bool true)))] (some [4])) .ret
def alP : R := .seq (.seq (.U [ro 5 (.ag (.c (.int .i64 0)))] (some [0, 1, 5])) alN) alO
def alQ : R := .seq (.seq (.U [ro 6 (.ad (.t 0)),
 ro 7 (.len 34 (.t 6)),
 ro 8 (.ad (.t 1)),
 ro 9 (.len 34 (.t 8)),
 ro 10 (.aq .neq 3 (.t 7) (.t 9))] (some [0, 1, 10])) alH) alP
def alR : R := .seq (.U [ro 4 (.ag (.c (.bool false)))] (some [0, 1])) alQ
theorem sH : bw ⟨27, [0, 1]⟩ (Tryz.f47.body.getD .skip) = some alR.strip := by kernel_rfl
def alS : R := .seq (.U [ro 4 (.ag (.c (.bool false)))] (some [4])) .ret
def alT : R := .cond (.t 10) alS .skip
def alU : R := .cond (.t 14) .skip (.exit 0)
def alV : R := .seq (.U [ro 4 (.ag (.c (.bool false)))] (some [4])) .ret
def alW : R := .cond (.t 25) alV .skip
def alX : R := .U [ro 15 (.ad (.t 5)),
 ro 16 (.aq .add 3 (.t 15) (.c (.int .i64 1))),
 ro 5 (.ag (.t 16))] (some [0, 1, 5])
def alY : R := .seq (.block 1 (.seq (.g8 [ro 17 (.ad (.t 0)),
 ro 18 (.ad (.t 5)),
 ro 19 (.bK 25 (.t 17) (.t 18)),
 ro 20 (.aD 9 (.t 19)),
 ro 21 (.ad (.t 1)),
 ro 22 (.ad (.t 5)),
 ro 23 (.bK 25 (.t 21) (.t 22)),
 ro 24 (.aD 9 (.t 23)),
 ro 25 (.aq .neq 9 (.t 20) (.t 24))] [[], [], [0, 1], [2], [], [], [4, 5], [6], [3, 7]] (some [0, 1, 5, 25])) alW)) alX
def LN : R := .seq (.seq (.U [ro 11 (.ad (.t 5)),
 ro 12 (.ad (.t 0)),
 ro 13 (.len 25 (.t 12)),
 ro 14 (.aq .lss 3 (.t 11) (.t 13))] (some [0, 1, 5, 14])) alU) alY
def alZ : R := .block 0 (.loop LN)
def al0 : R := .seq (.U [ro 4 (.ag (.c (.bool true)))] (some [4])) .ret
def al1 : R := .seq (.seq (.U [ro 5 (.ag (.c (.int .i64 0)))] (some [0, 1, 5])) alZ) al0
def al2 : R := .seq (.seq (.U [ro 6 (.ad (.t 0)),
 ro 7 (.len 25 (.t 6)),
 ro 8 (.ad (.t 1)),
 ro 9 (.len 25 (.t 8)),
 ro 10 (.aq .neq 3 (.t 7) (.t 9))] (some [0, 1, 10])) alT) al1
def al3 : R := .seq (.U [ro 4 (.ag (.c (.bool false)))] (some [0, 1])) al2
theorem al4 : bw ⟨26, [0, 1]⟩ (Tryz.f48.body.getD .skip) = some al3.strip := by kernel_rfl
def al5 : R := .seq (.U [ro 4 (.ag (.c (.bool false)))] (some [4])) .ret
def al6 : R := .cond (.t 10) al5 .skip
def al7 : R := .seq (.U [ro 4 (.ag (.c (.bool false)))] (some [4])) .ret
def al8 : R := .cond (.t 16) al7 .skip
def al9 : R := .seq (.U [ro 4 (.ag (.c (.bool false)))] (some [4])) .ret
def al_ : R := .cond (.t 22) al9 .skip
def ama : R := .seq (.U [ro 4 (.ag (.c (.bool false)))] (some [4])) .ret
def amb : R := .cond (.t 28) ama .skip
def amc : R := .seq (.U [ro 4 (.ag (.c (.bool false)))] (some [4])) .ret
def amd : R := .cond (.t 34) amc .skip
def ame : R := .seq (.U [ro 4 (.ag (.c (.bool true)))] (some [4])) .ret
def amf : R := .seq (.seq (.U [ro 29 (.aU 36 (.t 2) 4),
 ro 30 (.aD 25 (.t 29)),
 ro 31 (.aU 36 (.t 3) 4),
 ro 32 (.aD 25 (.t 31)),
 ro 33 (.call (.f 48) [(.t 30), (.t 32)]),
 ro 34 (.un .not (.t 33))] (some [34])) amd) ame
def amg : R := .seq (.seq (.U [ro 23 (.aU 36 (.t 2) 3),
 ro 24 (.aD 25 (.t 23)),
 ro 25 (.aU 36 (.t 3) 3),
 ro 26 (.aD 25 (.t 25)),
 ro 27 (.call (.f 48) [(.t 24), (.t 26)]),
 ro 28 (.un .not (.t 27))] (some [2, 3, 28])) amb) amf
def amh : R := .seq (.seq (.U [ro 17 (.aU 36 (.t 2) 2),
 ro 18 (.aD 34 (.t 17)),
 ro 19 (.aU 36 (.t 3) 2),
 ro 20 (.aD 34 (.t 19)),
 ro 21 (.call (.f 47) [(.t 18), (.t 20)]),
 ro 22 (.un .not (.t 21))] (some [2, 3, 22])) al_) amg
def ami : R := .seq (.seq (.U [ro 11 (.aU 36 (.t 2) 1),
 ro 12 (.aD 33 (.t 11)),
 ro 13 (.aU 36 (.t 3) 1),
 ro 14 (.aD 33 (.t 13)),
 ro 15 (.call (.f 46) [(.t 12), (.t 14)]),
 ro 16 (.un .not (.t 15))] (some [2, 3, 16])) al8) amh
def amj : R := .seq (.seq (.U [ro 5 (.aU 36 (.t 2) 0),
 ro 6 (.aD 32 (.t 5)),
 ro 7 (.aU 36 (.t 3) 0),
 ro 8 (.aD 32 (.t 7)),
 ro 9 (.call (.f 45) [(.t 6), (.t 8)]),
 ro 10 (.un .not (.t 9))] (some [2, 3, 10])) al6) ami
def amk : R := .seq (.U [ro 2 (.c7 36 (.t 0)),
 ro 3 (.c7 36 (.t 1)),
 ro 4 (.ag (.c (.bool false)))] (some [2, 3])) amj
theorem u0 : bw ⟨35, [0, 1]⟩ (Tryz.f12.body.getD .skip) = some amk.strip := by kernel_rfl
def aml : R := .seq (.U [ro 2 (.ag (.c (.str [109, 48])))] (some [2])) .ret
def amm : R := .cond (.t 5) aml .skip
def amn : R := .cond (.t 7) .skip (.exit 0)
def amo : R := .U [ro 16 (.ad (.t 0)),
 ro 17 (.aq .quo 3 (.t 16) (.c (.int .i64 10))),
 ro 0 (.ag (.t 17))] (some [0, 3])
def amp : R := .block 1 (.seq (.U [ro 8 (.ad (.t 0)),
 ro 9 (.aq .rem 3 (.t 8) (.c (.int .i64 10))),
 ro 10 (.aq .add 3 (.c (.int .i64 48)) (.t 9)),
 ro 11 (.fW 3 5 (.t 10)),
 ro 12 (.eh 183 1 [(0, (.t 11))]),
 ro 13 (.fW 183 9 (.t 12)),
 ro 14 (.ad (.t 3)),
 ro 15 (.aq .add 9 (.t 13) (.t 14)),
 ro 3 (.ag (.t 15))] (some [0, 3])) amo)
def LO : R := .seq (.seq (.U [ro 6 (.ad (.t 0)),
 ro 7 (.aq .gtr 3 (.t 6) (.c (.int .i64 0)))] (some [0, 3, 7])) amn) amp
def amq : R := .seq (.U [ro 18 (.ad (.t 3)),
 ro 19 (.aq .add 9 (.c (.str [109])) (.t 18)),
 ro 2 (.ag (.t 19))] (some [2])) .ret
def amr : R := .seq (.block 0 (.loop LO)) amq
def ams : R := .seq (.U [ro 3 (.ag (.c (.str [])))] (some [0, 3])) amr
def amt : R := .seq (.seq (.U [ro 4 (.ad (.t 0)),
 ro 5 (.aq .leq 3 (.t 4) (.c (.int .i64 0)))] (some [0, 5])) amm) ams
def amu : R := .seq (.U [ro 2 (.ag (.c (.str [])))] (some [0])) amt
theorem amv : bw ⟨20, []⟩ (Tryz.f84.body.getD .skip) = some amu.strip := by kernel_rfl
def amw : R := .cond (.t 9) .skip (.exit 0)
def amx : R := .U [ro 24 (.ad (.t 1)),
 ro 25 (.aq .add 3 (.t 24) (.c (.int .i64 1))),
 ro 1 (.ag (.t 25))] (some [0, 1, 5])
def amy : R := .seq (.U [ro 19 (.ad (.t 0)),
 ro 20 (.ad (.t 5)),
 ro 21 (.ad (.t 1)),
 ro 22 (.bK 147 (.t 19) (.t 20)),
 ro 23 (.aU 191 (.t 22) 1),
 ⟨none, .cC 2 (.t 23) (.t 21), none⟩] (some [0, 1, 5])) amx
def amz : R := .seq (.U [ro 17 (.ad (.t 1)),
 ro 18 (.aq .add 3 (.t 17) (.c (.int .i64 1))),
 ro 1 (.ag (.t 18))] (some [0, 1, 5])) amy
def amA : R := .U [ro 10 (.ad (.t 5)),
 ro 11 (.aq .add 3 (.t 10) (.c (.int .i64 1))),
 ro 5 (.ag (.t 11))] (some [0, 1, 5])
def amB : R := .seq (.block 1 (.seq (.U [ro 12 (.ad (.t 0)),
 ro 13 (.ad (.t 5)),
 ro 14 (.ad (.t 1)),
 ro 15 (.bK 147 (.t 12) (.t 13)),
 ro 16 (.aU 191 (.t 15) 0),
 ⟨none, .cC 2 (.t 16) (.t 14), none⟩] (some [0, 1, 5])) amz)) amA
def LP : R := .seq (.seq (.U [ro 6 (.ad (.t 5)),
 ro 7 (.ad (.t 0)),
 ro 8 (.len 147 (.t 7)),
 ro 9 (.aq .lss 3 (.t 6) (.t 8))] (some [0, 1, 5, 9])) amw) amB
def amC : R := .block 0 (.loop LP)
def amD : R := .seq (.U [ro 26 (.ad (.t 1)),
 ro 4 (.ag (.t 26))] (some [0, 4])) .ret
def amE : R := .seq (.seq (.U [ro 5 (.ag (.c (.int .i64 0)))] (some [0, 1, 5])) amC) amD
def amF : R := .seq (.U [ro 4 (.ag (.c (.int .i64 0)))] (some [0, 1])) amE
theorem amG : bw ⟨27, [0]⟩ (Tryz.f112.body.getD .skip) = some amF.strip := by kernel_rfl
def amH : R := .cond (.t 9) .skip (.exit 0)
def amI : R := .U [ro 10 (.ad (.t 5)),
 ro 11 (.aq .add 3 (.t 10) (.c (.int .i64 1))),
 ro 5 (.ag (.t 11))] (some [0, 1, 5])
def amJ : R := .seq (.block 1 (.U [ro 12 (.ad (.t 0)),
 ro 13 (.ad (.t 5)),
 ro 14 (.bK 120 (.t 12) (.t 13)),
 ro 15 (.aD 147 (.t 14)),
 ro 16 (.ad (.t 1)),
 ro 17 (.call (.f 112) [(.t 15), (.t 16)]),
 ro 1 (.ag (.t 17))] (some [0, 1, 5]))) amI
def LQ : R := .seq (.seq (.U [ro 6 (.ad (.t 5)),
 ro 7 (.ad (.t 0)),
 ro 8 (.len 120 (.t 7)),
 ro 9 (.aq .lss 3 (.t 6) (.t 8))] (some [0, 1, 5, 9])) amH) amJ
def amK : R := .block 0 (.loop LQ)
def amL : R := .seq (.U [ro 18 (.ad (.t 1)),
 ro 4 (.ag (.t 18))] (some [0, 4])) .ret
def amM : R := .seq (.seq (.U [ro 5 (.ag (.c (.int .i64 0)))] (some [0, 1, 5])) amK) amL
def amN : R := .seq (.U [ro 4 (.ag (.c (.int .i64 0)))] (some [0, 1])) amM
theorem amO : bw ⟨19, [0]⟩ (Tryz.f113.body.getD .skip) = some amN.strip := by kernel_rfl
def amP : R := .cond (.t 9) .skip (.exit 0)
def amQ : R := .U [ro 34 (.ad (.t 0)),
 ro 35 (.ad (.t 5)),
 ro 36 (.bK 117 (.t 34) (.t 35)),
 ro 37 (.aU 122 (.t 36) 3),
 ro 38 (.aD 120 (.t 37)),
 ro 39 (.ad (.t 1)),
 ro 40 (.call (.f 113) [(.t 38), (.t 39)]),
 ro 1 (.ag (.t 40))] (some [0, 1, 5])
def amR : R := .seq (.U [ro 32 (.ad (.t 1)),
 ro 33 (.aq .add 3 (.t 32) (.c (.int .i64 1))),
 ro 1 (.ag (.t 33))] (some [0, 1, 5])) amQ
def amS : R := .seq (.U [ro 26 (.ad (.t 0)),
 ro 27 (.ad (.t 5)),
 ro 28 (.ad (.t 1)),
 ro 29 (.call (.f 84) [(.t 28)]),
 ro 30 (.bK 117 (.t 26) (.t 27)),
 ro 31 (.aU 122 (.t 30) 2),
 ⟨none, .cC 9 (.t 31) (.t 29), none⟩] (some [0, 1, 5])) amR
def amT : R := .seq (.U [ro 24 (.ad (.t 1)),
 ro 25 (.aq .add 3 (.t 24) (.c (.int .i64 1))),
 ro 1 (.ag (.t 25))] (some [0, 1, 5])) amS
def amU : R := .seq (.U [ro 19 (.ad (.t 0)),
 ro 20 (.ad (.t 5)),
 ro 21 (.ad (.t 1)),
 ro 22 (.bK 117 (.t 19) (.t 20)),
 ro 23 (.aU 122 (.t 22) 1),
 ⟨none, .cC 2 (.t 23) (.t 21), none⟩] (some [0, 1, 5])) amT
def amV : R := .seq (.U [ro 17 (.ad (.t 1)),
 ro 18 (.aq .add 3 (.t 17) (.c (.int .i64 1))),
 ro 1 (.ag (.t 18))] (some [0, 1, 5])) amU
def amW : R := .U [ro 10 (.ad (.t 5)),
 ro 11 (.aq .add 3 (.t 10) (.c (.int .i64 1))),
 ro 5 (.ag (.t 11))] (some [0, 1, 5])
def amX : R := .seq (.block 1 (.seq (.U [ro 12 (.ad (.t 0)),
 ro 13 (.ad (.t 5)),
 ro 14 (.ad (.t 1)),
 ro 15 (.bK 117 (.t 12) (.t 13)),
 ro 16 (.aU 122 (.t 15) 0),
 ⟨none, .cC 2 (.t 16) (.t 14), none⟩] (some [0, 1, 5])) amV)) amW
def LR : R := .seq (.seq (.U [ro 6 (.ad (.t 5)),
 ro 7 (.ad (.t 0)),
 ro 8 (.len 117 (.t 7)),
 ro 9 (.aq .lss 3 (.t 6) (.t 8))] (some [0, 1, 5, 9])) amP) amX
def amY : R := .block 0 (.loop LR)
def amZ : R := .seq (.U [ro 41 (.ad (.t 1)),
 ro 4 (.ag (.t 41))] (some [0, 4])) .ret
def am0 : R := .seq (.seq (.U [ro 5 (.ag (.c (.int .i64 0)))] (some [0, 1, 5])) amY) amZ
def am1 : R := .seq (.U [ro 4 (.ag (.c (.int .i64 0)))] (some [0, 1])) am0
theorem am2 : bw ⟨42, [0]⟩ (Tryz.f85.body.getD .skip) = some am1.strip := by kernel_rfl
def am3 : R := .cond (.t 9) .skip (.exit 0)
def am4 : R := .U [ro 27 (.ad (.t 0)),
 ro 28 (.ad (.t 5)),
 ro 29 (.bK 32 (.t 27) (.t 28)),
 ro 30 (.aU 119 (.t 29) 2),
 ro 31 (.aD 117 (.t 30)),
 ro 32 (.ad (.t 1)),
 ro 33 (.call (.f 85) [(.t 31), (.t 32)]),
 ro 1 (.ag (.t 33))] (some [0, 1, 5])
def am5 : R := .seq (.U [ro 25 (.ad (.t 1)),
 ro 26 (.aq .add 3 (.t 25) (.c (.int .i64 1))),
 ro 1 (.ag (.t 26))] (some [0, 1, 5])) am4
def am6 : R := .seq (.U [ro 20 (.ad (.t 0)),
 ro 21 (.ad (.t 5)),
 ro 22 (.ad (.t 1)),
 ro 23 (.bK 32 (.t 20) (.t 21)),
 ro 24 (.aU 119 (.t 23) 1),
 ⟨none, .cC 2 (.t 24) (.t 22), none⟩] (some [0, 1, 5])) am5
def am7 : R := .seq (.U [ro 18 (.ad (.t 1)),
 ro 19 (.aq .add 3 (.t 18) (.c (.int .i64 1))),
 ro 1 (.ag (.t 19))] (some [0, 1, 5])) am6
def am8 : R := .U [ro 10 (.ad (.t 5)),
 ro 11 (.aq .add 3 (.t 10) (.c (.int .i64 1))),
 ro 5 (.ag (.t 11))] (some [0, 1, 5])
def am9 : R := .seq (.block 1 (.seq (.U [ro 12 (.ad (.t 0)),
 ro 13 (.ad (.t 5)),
 ro 14 (.ad (.t 1)),
 ro 15 (.call (.f 84) [(.t 14)]),
 ro 16 (.bK 32 (.t 12) (.t 13)),
 ro 17 (.aU 119 (.t 16) 0),
 ⟨none, .cC 9 (.t 17) (.t 15), none⟩] (some [0, 1, 5])) am7)) am8
def LS : R := .seq (.seq (.U [ro 6 (.ad (.t 5)),
 ro 7 (.ad (.t 0)),
 ro 8 (.len 32 (.t 7)),
 ro 9 (.aq .lss 3 (.t 6) (.t 8))] (some [0, 1, 5, 9])) am3) am9
def am_ : R := .block 0 (.loop LS)
def ana : R := .seq (.U [ro 34 (.ad (.t 1)),
 ro 4 (.ag (.t 34))] (some [0, 4])) .ret
def anb : R := .seq (.seq (.U [ro 5 (.ag (.c (.int .i64 0)))] (some [0, 1, 5])) am_) ana
def anc : R := .seq (.U [ro 4 (.ag (.c (.int .i64 0)))] (some [0, 1])) anb
theorem ane : bw ⟨35, [0]⟩ (Tryz.f49.body.getD .skip) = some anc.strip := by kernel_rfl
def anf : R := .cond (.t 9) .skip (.exit 0)
def ang : R := .U [ro 16 (.ad (.t 1)),
 ro 17 (.aq .add 3 (.t 16) (.c (.int .i64 1))),
 ro 1 (.ag (.t 17))] (some [0, 1, 5])
def anh : R := .U [ro 10 (.ad (.t 5)),
 ro 11 (.aq .add 3 (.t 10) (.c (.int .i64 1))),
 ro 5 (.ag (.t 11))] (some [0, 1, 5])
def ani : R := .seq (.block 1 (.seq (.U [ro 12 (.ad (.t 0)),
 ro 13 (.ad (.t 5)),
 ro 14 (.ad (.t 1)),
 ro 15 (.bK 43 (.t 12) (.t 13)),
 ⟨none, .cC 2 (.t 15) (.t 14), none⟩] (some [0, 1, 5])) ang)) anh
def LU : R := .seq (.seq (.U [ro 6 (.ad (.t 5)),
 ro 7 (.ad (.t 0)),
 ro 8 (.len 43 (.t 7)),
 ro 9 (.aq .lss 3 (.t 6) (.t 8))] (some [0, 1, 5, 9])) anf) ani
def anj : R := .block 0 (.loop LU)
def ank : R := .seq (.U [ro 18 (.ad (.t 1)),
 ro 4 (.ag (.t 18))] (some [0, 4])) .ret
def anl : R := .seq (.seq (.U [ro 5 (.ag (.c (.int .i64 0)))] (some [0, 1, 5])) anj) ank
def anm : R := .seq (.U [ro 4 (.ag (.c (.int .i64 0)))] (some [0, 1])) anl
theorem ann : bw ⟨19, [0]⟩ (Tryz.f23.body.getD .skip) = some anm.strip := by kernel_rfl
def ano : R := .cond (.t 9) .skip (.exit 0)
def anp : R := .U [ro 19 (.ad (.t 0)),
 ro 20 (.ad (.t 5)),
 ro 21 (.bK 33 (.t 19) (.t 20)),
 ro 22 (.aU 124 (.t 21) 1),
 ro 23 (.aD 43 (.t 22)),
 ro 24 (.ad (.t 1)),
 ro 25 (.call (.f 23) [(.t 23), (.t 24)]),
 ro 1 (.ag (.t 25))] (some [0, 1, 5])
def anq : R := .seq (.U [ro 17 (.ad (.t 1)),
 ro 18 (.aq .add 3 (.t 17) (.c (.int .i64 1))),
 ro 1 (.ag (.t 18))] (some [0, 1, 5])) anp
def anr : R := .U [ro 10 (.ad (.t 5)),
 ro 11 (.aq .add 3 (.t 10) (.c (.int .i64 1))),
 ro 5 (.ag (.t 11))] (some [0, 1, 5])
def ans : R := .seq (.block 1 (.seq (.U [ro 12 (.ad (.t 0)),
 ro 13 (.ad (.t 5)),
 ro 14 (.ad (.t 1)),
 ro 15 (.bK 33 (.t 12) (.t 13)),
 ro 16 (.aU 124 (.t 15) 0),
 ⟨none, .cC 2 (.t 16) (.t 14), none⟩] (some [0, 1, 5])) anq)) anr
def LV : R := .seq (.seq (.U [ro 6 (.ad (.t 5)),
 ro 7 (.ad (.t 0)),
 ro 8 (.len 33 (.t 7)),
 ro 9 (.aq .lss 3 (.t 6) (.t 8))] (some [0, 1, 5, 9])) ano) ans
def ant : R := .block 0 (.loop LV)
def anu : R := .seq (.U [ro 26 (.ad (.t 1)),
 ro 4 (.ag (.t 26))] (some [0, 4])) .ret
def anv : R := .seq (.seq (.U [ro 5 (.ag (.c (.int .i64 0)))] (some [0, 1, 5])) ant) anu
def anw : R := .seq (.U [ro 4 (.ag (.c (.int .i64 0)))] (some [0, 1])) anv
theorem anx : bw ⟨27, [0]⟩ (Tryz.f50.body.getD .skip) = some anw.strip := by kernel_rfl
def anz : R := .cond (.t 9) .skip (.exit 0)
def anA : R := .U [ro 34 (.ad (.t 1)),
 ro 35 (.aq .add 3 (.t 34) (.c (.int .i64 1))),
 ro 1 (.ag (.t 35))] (some [0, 1, 5])
def anB : R := .seq (.U [ro 28 (.ad (.t 0)),
 ro 29 (.ad (.t 5)),
 ro 30 (.ad (.t 1)),
 ro 31 (.call (.f 84) [(.t 30)]),
 ro 32 (.bK 34 (.t 28) (.t 29)),
 ro 33 (.aU 126 (.t 32) 2),
 ⟨none, .cC 9 (.t 33) (.t 31), none⟩] (some [0, 1, 5])) anA
def anC : R := .seq (.U [ro 26 (.ad (.t 1)),
 ro 27 (.aq .add 3 (.t 26) (.c (.int .i64 1))),
 ro 1 (.ag (.t 27))] (some [0, 1, 5])) anB
def anD : R := .seq (.U [ro 20 (.ad (.t 0)),
 ro 21 (.ad (.t 5)),
 ro 22 (.ad (.t 1)),
 ro 23 (.call (.f 84) [(.t 22)]),
 ro 24 (.bK 34 (.t 20) (.t 21)),
 ro 25 (.aU 126 (.t 24) 1),
 ⟨none, .cC 9 (.t 25) (.t 23), none⟩] (some [0, 1, 5])) anC
def anE : R := .seq (.U [ro 18 (.ad (.t 1)),
 ro 19 (.aq .add 3 (.t 18) (.c (.int .i64 1))),
 ro 1 (.ag (.t 19))] (some [0, 1, 5])) anD
def anF : R := .U [ro 10 (.ad (.t 5)),
 ro 11 (.aq .add 3 (.t 10) (.c (.int .i64 1))),
 ro 5 (.ag (.t 11))] (some [0, 1, 5])
def anG : R := .seq (.block 1 (.seq (.U [ro 12 (.ad (.t 0)),
 ro 13 (.ad (.t 5)),
 ro 14 (.ad (.t 1)),
 ro 15 (.call (.f 84) [(.t 14)]),
 ro 16 (.bK 34 (.t 12) (.t 13)),
 ro 17 (.aU 126 (.t 16) 0),
 ⟨none, .cC 9 (.t 17) (.t 15), none⟩] (some [0, 1, 5])) anE)) anF
def LW : R := .seq (.seq (.U [ro 6 (.ad (.t 5)),
 ro 7 (.ad (.t 0)),
 ro 8 (.len 34 (.t 7)),
 ro 9 (.aq .lss 3 (.t 6) (.t 8))] (some [0, 1, 5, 9])) anz) anG
def anH : R := .block 0 (.loop LW)
def anI : R := .seq (.U [ro 36 (.ad (.t 1)),
 ro 4 (.ag (.t 36))] (some [0, 4])) .ret
def anJ : R := .seq (.seq (.U [ro 5 (.ag (.c (.int .i64 0)))] (some [0, 1, 5])) anH) anI
def anK : R := .seq (.U [ro 4 (.ag (.c (.int .i64 0)))] (some [0, 1])) anJ
theorem anL : bw ⟨37, [0]⟩ (Tryz.f51.body.getD .skip) = some anK.strip := by kernel_rfl
def anM : R := .cond (.t 9) .skip (.exit 0)
def anN : R := .U [ro 17 (.ad (.t 1)),
 ro 18 (.aq .add 3 (.t 17) (.c (.int .i64 1))),
 ro 1 (.ag (.t 18))] (some [0, 1, 5])
def anO : R := .U [ro 10 (.ad (.t 5)),
 ro 11 (.aq .add 3 (.t 10) (.c (.int .i64 1))),
 ro 5 (.ag (.t 11))] (some [0, 1, 5])
def anP : R := .seq (.block 1 (.seq (.U [ro 12 (.ad (.t 0)),
 ro 13 (.ad (.t 5)),
 ro 14 (.ad (.t 1)),
 ro 15 (.call (.f 84) [(.t 14)]),
 ro 16 (.bK 25 (.t 12) (.t 13)),
 ⟨none, .cC 9 (.t 16) (.t 15), none⟩] (some [0, 1, 5])) anN)) anO
def LX : R := .seq (.seq (.U [ro 6 (.ad (.t 5)),
 ro 7 (.ad (.t 0)),
 ro 8 (.len 25 (.t 7)),
 ro 9 (.aq .lss 3 (.t 6) (.t 8))] (some [0, 1, 5, 9])) anM) anP
def anQ : R := .block 0 (.loop LX)
def anR : R := .seq (.U [ro 19 (.ad (.t 1)),
 ro 4 (.ag (.t 19))] (some [0, 4])) .ret
def anS : R := .seq (.seq (.U [ro 5 (.ag (.c (.int .i64 0)))] (some [0, 1, 5])) anQ) anR
def anT : R := .seq (.U [ro 4 (.ag (.c (.int .i64 0)))] (some [0, 1])) anS
theorem x3 : bw ⟨20, [0]⟩ (Tryz.f52.body.getD .skip) = some anT.strip := by kernel_rfl
def anU : R := .seq (.U [ro 25 (.ad (.t 1)),
 ro 4 (.ag (.t 25))] (some [0, 4])) .ret
def anV : R := .seq (.U [ro 21 (.aU 36 (.t 2) 4),
 ro 22 (.aD 25 (.t 21)),
 ro 23 (.ad (.t 1)),
 ro 24 (.call (.f 52) [(.t 22), (.t 23)]),
 ro 1 (.ag (.t 24))] (some [0, 1])) anU
def anW : R := .seq (.U [ro 17 (.aU 36 (.t 2) 3),
 ro 18 (.aD 25 (.t 17)),
 ro 19 (.ad (.t 1)),
 ⟨some 20, .j1 (.f 52) [(.t 18), (.t 19)] [2], none⟩,
 ro 1 (.ag (.t 20))] (some [0, 1, 2])) anV
def anX : R := .seq (.U [ro 13 (.aU 36 (.t 2) 2),
 ro 14 (.aD 34 (.t 13)),
 ro 15 (.ad (.t 1)),
 ⟨some 16, .j1 (.f 51) [(.t 14), (.t 15)] [2], none⟩,
 ro 1 (.ag (.t 16))] (some [0, 1, 2])) anW
def anY : R := .seq (.U [ro 9 (.aU 36 (.t 2) 1),
 ro 10 (.aD 33 (.t 9)),
 ro 11 (.ad (.t 1)),
 ⟨some 12, .j1 (.f 50) [(.t 10), (.t 11)] [2], none⟩,
 ro 1 (.ag (.t 12))] (some [0, 1, 2])) anX
def anZ : R := .seq (.U [ro 5 (.aU 36 (.t 2) 0),
 ro 6 (.aD 32 (.t 5)),
 ro 7 (.ad (.t 1)),
 ⟨some 8, .j1 (.f 49) [(.t 6), (.t 7)] [2], none⟩,
 ro 1 (.ag (.t 8))] (some [0, 1, 2])) anY
def an0 : R := .seq (.U [⟨some 2, .jz 36 (.t 0), none⟩,
 ro 4 (.ag (.c (.int .i64 0)))] (some [0, 1, 2])) anZ
theorem u1 : bw ⟨26, [0]⟩ (Tryz.f13.body.getD .skip) = some an0.strip := by kernel_rfl
def an1 : R := .cond (.t 9) .skip (.exit 0)
def an2 : R := .U [ro 10 (.ad (.t 5)),
 ro 11 (.aq .add 3 (.t 10) (.c (.int .i64 1))),
 ro 5 (.ag (.t 11))] (some [0, 1, 5])
def an3 : R := .seq (.block 1 (.U [ro 12 (.ad (.t 0)),
 ro 13 (.ad (.t 5)),
 ro 14 (.bK 29 (.t 12) (.t 13)),
 ro 15 (.aD 43 (.t 14)),
 ro 16 (.ad (.t 1)),
 ro 17 (.call (.f 23) [(.t 15), (.t 16)]),
 ro 1 (.ag (.t 17))] (some [0, 1, 5]))) an2
def LY : R := .seq (.seq (.U [ro 6 (.ad (.t 5)),
 ro 7 (.ad (.t 0)),
 ro 8 (.len 29 (.t 7)),
 ro 9 (.aq .lss 3 (.t 6) (.t 8))] (some [0, 1, 5, 9])) an1) an3
def an4 : R := .block 0 (.loop LY)
def an5 : R := .seq (.U [ro 18 (.ad (.t 1)),
 ro 4 (.ag (.t 18))] (some [0, 4])) .ret
def an6 : R := .seq (.seq (.U [ro 5 (.ag (.c (.int .i64 0)))] (some [0, 1, 5])) an4) an5
def an7 : R := .seq (.U [ro 4 (.ag (.c (.int .i64 0)))] (some [0, 1])) an6
theorem nA : bw ⟨19, [0]⟩ (Tryz.f14.body.getD .skip) = some an7.strip := by kernel_rfl
def an8 : R := .cond (.t 9) .skip (.exit 0)
def an9 : R := .seq (.U [ro 4 (.ag (.c (.int .i64 (-1))))] (some [4])) .ret
def an_ : R := .cond (.t 17) an9 .skip
def aoa : R := .U [ro 18 (.ad (.t 1)),
 ro 19 (.aq .add 3 (.t 18) (.c (.int .i64 1))),
 ro 1 (.ag (.t 19))] (some [0, 1, 5])
def aob : R := .U [ro 10 (.ad (.t 5)),
 ro 11 (.aq .add 3 (.t 10) (.c (.int .i64 1))),
 ro 5 (.ag (.t 11))] (some [0, 1, 5])
def aoc : R := .seq (.block 1 (.seq (.seq (.U [ro 12 (.ad (.t 0)),
 ro 13 (.ad (.t 5)),
 ro 14 (.bK 43 (.t 12) (.t 13)),
 ro 15 (.aD 2 (.t 14)),
 ro 16 (.ad (.t 1)),
 ro 17 (.aq .neq 2 (.t 15) (.t 16))] (some [0, 1, 5, 17])) an_) aoa)) aob
def LZ : R := .seq (.seq (.U [ro 6 (.ad (.t 5)),
 ro 7 (.ad (.t 0)),
 ro 8 (.len 43 (.t 7)),
 ro 9 (.aq .lss 3 (.t 6) (.t 8))] (some [0, 1, 5, 9])) an8) aoc
def aod : R := .block 0 (.loop LZ)
def aoe : R := .seq (.U [ro 20 (.ad (.t 1)),
 ro 4 (.ag (.t 20))] (some [4])) .ret
def aof : R := .seq (.seq (.U [ro 5 (.ag (.c (.int .i64 0)))] (some [0, 1, 5])) aod) aoe
def aog : R := .seq (.U [ro 4 (.ag (.c (.int .i64 0)))] (some [0, 1])) aof
theorem sI : bw ⟨21, [0]⟩ (Tryz.f25.body.getD .skip) = some aog.strip := by kernel_rfl
def aoh : R := .cond (.t 9) .skip (.exit 0)
def aoi : R := .seq (.U [ro 4 (.ag (.c (.int .i64 (-1))))] (some [4])) .ret
def aoj : R := .cond (.t 19) aoi .skip
def aok : R := .seq (.U [ro 18 (.ad (.t 1)),
 ro 19 (.aq .lss 3 (.t 18) (.c (.int .i64 0)))] (some [0, 1, 5, 19])) aoj
def aol : R := .U [ro 10 (.ad (.t 5)),
 ro 11 (.aq .add 3 (.t 10) (.c (.int .i64 1))),
 ro 5 (.ag (.t 11))] (some [0, 1, 5])
def aom : R := .seq (.block 1 (.seq (.U [ro 12 (.ad (.t 0)),
 ro 13 (.ad (.t 5)),
 ro 14 (.bK 29 (.t 12) (.t 13)),
 ro 15 (.aD 43 (.t 14)),
 ro 16 (.ad (.t 1)),
 ro 17 (.call (.f 25) [(.t 15), (.t 16)]),
 ro 1 (.ag (.t 17))] (some [0, 1, 5])) aok)) aol
def L0 : R := .seq (.seq (.U [ro 6 (.ad (.t 5)),
 ro 7 (.ad (.t 0)),
 ro 8 (.len 29 (.t 7)),
 ro 9 (.aq .lss 3 (.t 6) (.t 8))] (some [0, 1, 5, 9])) aoh) aom
def aon : R := .block 0 (.loop L0)
def aoo : R := .seq (.U [ro 20 (.ad (.t 1)),
 ro 4 (.ag (.t 20))] (some [4])) .ret
def aop : R := .seq (.seq (.U [ro 5 (.ag (.c (.int .i64 0)))] (some [0, 1, 5])) aon) aoo
def aoq : R := .seq (.U [ro 4 (.ag (.c (.int .i64 0)))] (some [0, 1])) aop
theorem u2 : bw ⟨21, [0]⟩ (Tryz.f15.body.getD .skip) = some aoq.strip := by kernel_rfl
def aor : R := .seq (.U [ro 2 (.ag (.c (.bool true)))] (some [2])) .ret
def aos : R := .cond (.t 18) aor .skip
def aot : R := .seq (.U [ro 2 (.ag (.c (.bool false)))] (some [2])) .ret
def aou : R := .cond (.t 40) aot .skip
def aov : R := .seq (.U [ro 2 (.ag (.c (.bool false)))] (some [2])) .ret
def aow : R := .cond (.t 45) aov .skip
def aox : R := .seq (.U [ro 2 (.ag (.c (.bool false)))] (some [2])) .ret
def aoy : R := .cond (.t 61) aox .skip
def aoz : R := .seq (.U [ro 2 (.ag (.c (.bool false)))] (some [2])) .ret
def aoA : R := .cond (.t 69) aoz .skip
def aoB : R := .seq (.U [ro 2 (.ag (.c (.bool false)))] (some [2])) .ret
def aoC : R := .cond (.t 72) aoB .skip
def aoD : R := .seq (.U [ro 2 (.ag (.c (.bool false)))] (some [2])) .ret
def aoE : R := .cond (.t 87) aoD .skip
def aoF : R := .seq (.U [ro 2 (.ag (.c (.bool false)))] (some [2])) .ret
def aoG : R := .cond (.t 92) aoF .skip
def aoH : R := .seq (.U [ro 2 (.ag (.c (.bool false)))] (some [2])) .ret
def aoI : R := .cond (.t 95) aoH .skip
def aoJ : R := .seq (.U [ro 2 (.ag (.c (.bool true)))] (some [2])) .ret
def aoK : R := .seq (.seq (.U [ro 93 (.ad (.t 11)),
 ro 94 (.ad (.t 10)),
 ro 95 (.aq .neq 3 (.t 93) (.t 94))] (some [95])) aoI) aoJ
def aoL : R := .seq (.seq (.U [ro 91 (.ad (.t 11)),
 ro 92 (.aq .lss 3 (.t 91) (.c (.int .i64 0)))] (some [10, 11, 92])) aoG) aoK
def aoM : R := .seq (.U [ro 88 (.ad (.t 7)),
 ro 89 (.ad (.t 11)),
 ro 90 (.call (.f 15) [(.t 88), (.t 89)]),
 ro 11 (.ag (.t 90))] (some [10, 11])) aoL
def aoN : R := .seq (.U [ro 11 (.ag (.c (.int .i64 1)))] (some [7, 10, 11])) aoM
def aoO : R := .seq (.seq (.U [ro 79 (.ad (.t 12)),
 ro 80 (.ad (.t 4)),
 ro 81 (.call (.f 11) [(.t 79), (.t 80)]),
 ro 82 (.un .not (.t 81)),
 ro 83 (.ad (.t 82)),
 ⟨some 84, .ad (.t 13), some (83, false)⟩,
 ⟨some 85, .ad (.t 5), some (83, false)⟩,
 ⟨some 86, .aq .neq 2 (.t 84) (.t 85), some (83, false)⟩,
 ro 87 (.pick (.t 83) (.c (.bool true)) (.t 86))] (some [7, 10, 87])) aoE) aoN
def aoP : R := .seq (.U [ro 74 (.aD 27 (.t 1)),
 ro 75 (.call (.f 9) [(.t 74)]),
 ro 76 (.call (.f 10) [(.t 75)]),
 ro 73 (.ad (.t 76)),
 ro 77 (.ex (.t 73) 0),
 ro 78 (.ex (.t 73) 1),
 ro 12 (.ag (.t 77)),
 ro 13 (.ag (.t 78))] (some [4, 5, 7, 10, 12, 13])) aoO
def aoQ : R := .seq (.seq (.U [ro 70 (.ad (.t 11)),
 ro 71 (.ad (.t 10)),
 ro 72 (.aq .neq 3 (.t 70) (.t 71))] (some [1, 4, 5, 7, 10, 72])) aoC) aoP
def aoR : R := .seq (.seq (.U [ro 68 (.ad (.t 11)),
 ro 69 (.aq .lss 3 (.t 68) (.c (.int .i64 0)))] (some [1, 4, 5, 7, 10, 11, 69])) aoA) aoQ
def aoS : R := .seq (.U [ro 65 (.ad (.t 7)),
 ro 66 (.ad (.t 11)),
 ro 67 (.call (.f 15) [(.t 65), (.t 66)]),
 ro 11 (.ag (.t 67))] (some [1, 4, 5, 7, 10, 11])) aoR
def aoT : R := .seq (.U [ro 11 (.ag (.c (.int .i64 1)))] (some [1, 4, 5, 7, 10, 11])) aoS
def aoU : R := .seq (.U [ro 62 (.ad (.t 7)),
 ro 63 (.ad (.t 10)),
 ro 64 (.call (.f 14) [(.t 62), (.t 63)]),
 ro 10 (.ag (.t 64))] (some [1, 4, 5, 7, 10])) aoT
def aoV : R := .seq (.U [ro 10 (.ag (.c (.int .i64 1)))] (some [1, 4, 5, 7, 10])) aoU
def aoW : R := .seq (.seq (.U [ro 49 (.ad (.t 9)),
 ro 50 (.aq .lss 3 (.t 49) (.c (.int .i64 0))),
 ro 51 (.ad (.t 50)),
 ⟨some 52, .ad (.t 7), some (51, false)⟩,
 ⟨some 53, .ad (.t 4), some (51, false)⟩,
 ⟨some 54, .call (.f 11) [(.t 52), (.t 53)], some (51, false)⟩,
 ⟨some 55, .un .not (.t 54), some (51, false)⟩,
 ro 56 (.pick (.t 51) (.c (.bool true)) (.t 55)),
 ro 57 (.ad (.t 56)),
 ⟨some 58, .ad (.t 8), some (57, false)⟩,
 ⟨some 59, .ad (.t 5), some (57, false)⟩,
 ⟨some 60, .aq .neq 2 (.t 58) (.t 59), some (57, false)⟩,
 ro 61 (.pick (.t 57) (.c (.bool true)) (.t 60))] (some [1, 4, 5, 7, 61])) aoy) aoV
def aoX : R := .seq (.U [ro 46 (.aD 36 (.t 6)),
 ro 47 (.ad (.t 9)),
 ro 48 (.call (.f 13) [(.t 46), (.t 47)]),
 ro 9 (.ag (.t 48))] (some [1, 4, 5, 7, 8, 9])) aoW
def aoY : R := .seq (.U [ro 9 (.ag (.c (.int .i64 1)))] (some [1, 4, 5, 6, 7, 8, 9])) aoX
def aoZ : R := .seq (.seq (.g8 [ro 41 (.aD 36 (.t 6)),
 ro 42 (.aD 27 (.t 1)),
 ro 43 (.call (.f 9) [(.t 42)]),
 ro 44 (.call (.f 12) [(.t 41), (.t 43)]),
 ro 45 (.un .not (.t 44))] [[], [], [1], [0, 2, 2], [3]] (some [1, 4, 5, 6, 7, 8, 45])) aow) aoY
def ao0 : R := .seq (.seq (.U [ro 32 (.ad (.t 7)),
 ro 33 (.ad (.t 4)),
 ro 34 (.call (.f 11) [(.t 32), (.t 33)]),
 ro 35 (.un .not (.t 34)),
 ro 36 (.ad (.t 35)),
 ⟨some 37, .ad (.t 8), some (36, false)⟩,
 ⟨some 38, .ad (.t 5), some (36, false)⟩,
 ⟨some 39, .aq .neq 2 (.t 37) (.t 38), some (36, false)⟩,
 ro 40 (.pick (.t 36) (.c (.bool true)) (.t 39))] (some [1, 4, 5, 6, 7, 8, 40])) aou) aoZ
def ao1 : R := .seq (.U [ro 28 (.aD 36 (.t 6)),
 ro 29 (.call (.f 10) [(.t 28)]),
 ro 27 (.ad (.t 29)),
 ro 30 (.ex (.t 27) 0),
 ro 31 (.ex (.t 27) 1),
 ro 7 (.ag (.t 30)),
 ro 8 (.ag (.t 31))] (some [1, 4, 5, 6, 7, 8])) ao0
def ao2 : R := .seq (.U [ro 25 (.aD 27 (.t 1)),
 ro 26 (.call (.f 9) [(.t 25)]),
 ro 6 (.ey 36),
 ⟨none, .cC 36 (.t 6) (.t 26), none⟩] (some [1, 4, 5, 6])) ao1
def ao3 : R := .seq (.U [ro 20 (.aD 27 (.t 1)),
 ro 21 (.call (.f 9) [(.t 20)]),
 ro 22 (.call (.f 8) [(.t 21)]),
 ro 19 (.ad (.t 22)),
 ro 23 (.ex (.t 19) 0),
 ro 24 (.ex (.t 19) 1),
 ro 4 (.ag (.t 23)),
 ro 5 (.ag (.t 24))] (some [1, 4, 5])) ao2
def ao4 : R := .seq (.seq (.U [ro 17 (.ad (.t 3)),
 ro 18 (.aq .lss 3 (.t 17) (.c (.int .i64 0)))] (some [1, 18])) aos) ao3
def ao5 : R := .seq (.U [ro 14 (.aD 27 (.t 1)),
 ro 15 (.ad (.t 3)),
 ro 16 (.call (.f 7) [(.t 14), (.t 15)]),
 ro 3 (.ag (.t 16))] (some [1, 3])) ao4
def ao6 : R := .seq (.U [ro 3 (.ag (.c (.int .i64 1048576)))] (some [1, 3])) ao5
def lh : R := .seq (.U [ro 1 (.c7 27 (.t 0)),
 ro 2 (.ag (.c (.bool false)))] (some [1])) ao6
theorem eY : bw ⟨96, [0]⟩ (Tryz.f3.body.getD .skip) = some lh.strip := by kernel_rfl
end Go.Proofs.YtbemmmimelklkaaGreat
