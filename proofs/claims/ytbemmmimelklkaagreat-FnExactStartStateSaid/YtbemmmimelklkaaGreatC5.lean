/- Part of a proof that a law returns true for every input. No condition. -/
import Derived.Test.YtbemmmimelklkaaGreatTb
import Derived.Test.YtbemmmimelklkaaGreatFwL
import Derived.Test.YtbemmmimelklkaaGreatP5
namespace Go.Proofs.YtbemmmimelklkaaGreat
open Go Go.dk Go.f_
set_option linter.unusedSimpArgs false
def fj (x : gS) : I := .agg [.int .i64 x.Kind, .int .i64 x.Value]
theorem Sm (x : gS) : (fj x).share = fj x := by
 simp only [fj, dn]
theorem avp (x : gS) : (fj x).cW = true := by
 simp only [fj, I.cW, I.hx, Bool.and_self]
def fu (x : List gS) : I := .slice (x.map fj)
theorem J8 (x : List gS) : (fu x).share = fu x := by
 simp only [fu, dn, @cj _ fj fj (fun _ => Sm _)]
def fv (x : h_) : I := .agg [.int .i64 x.Kind, .int .i64 x.Number, .str x.Name, .slice (x.cq.map fu)]
theorem J9 (x : h_) : (fv x).share = fv x := by
 simp only [fv, dn, @cj _ fu fu (fun _ => J8 _)]
def fO (x : hZ) : I := .agg [.str x.Name, .int .i64 x.dc, .slice (x.Body.map fv)]
theorem J_ (x : hZ) : (fO x).share = fO x := by
 simp only [fO, dn, @cj _ fv fv (fun _ => J9 _)]
def bA (x : Int) : I := .int .i64 x
theorem pC (x : Int) : (bA x).share = bA x := by
 simp only [bA, dn]
theorem ES (x : Int) : (bA x).cW = true := by
 simp only [bA, I.cW, I.hx, Bool.and_self]
def fP (x : ia) : I := .agg [.int .i64 x.eo, .slice (x.c3.map bA)]
theorem Ka (x : ia) : (fP x).share = fP x := by
 simp only [fP, dn, @cj _ bA bA (fun _ => pC _)]
def fG (x : h0) : I := .agg [.str x.Left, .str x.b6, .str x.Result]
theorem Kb (x : h0) : (fG x).share = fG x := by
 simp only [fG, dn]
theorem avq (x : h0) : (fG x).cW = true := by
 simp only [fG, I.cW, I.hx, Bool.and_self]
def bu (x : List UInt8) : I := .str x
theorem jf (x : List UInt8) : (bu x).share = bu x := by
 simp only [bu, dn]
theorem Kc (x : List UInt8) : (bu x).cW = true := by
 simp only [bu, I.cW, I.hx, Bool.and_self]
def iA (x : kg) : I := .agg [.slice (x.e8.map fO), .slice (x.b_.map fP), .slice (x.g1.map fG), .slice (x.gT.map bu), .slice (x.gU.map bu)]
theorem avr (x : kg) : (iA x).share = iA x := by
 simp only [iA, dn, @cj _ fO fO (fun _ => J_ _), @cj _ fP fP (fun _ => Ka _), @cj _ fG fG (fun _ => Kb _), @cj _ bu bu (fun _ => jf _)]
def ET (x : List hZ) : I := .slice (x.map fO)
theorem avs (x : List hZ) : (ET x).share = ET x := by
 simp only [ET, dn, @cj _ fO fO (fun _ => J_ _)]
def EU (x : List ia) : I := .slice (x.map fP)
theorem avt (x : List ia) : (EU x).share = EU x := by
 simp only [EU, dn, @cj _ fP fP (fun _ => Ka _)]
def EV (x : List h0) : I := .slice (x.map fG)
theorem avu (x : List h0) : (EV x).share = EV x := by
 simp only [EV, dn, @cj _ fG fG (fun _ => Kb _)]
def xn (x : List (List UInt8)) : I := .slice (x.map bu)
theorem avv (x : List (List UInt8)) : (xn x).share = xn x := by
 simp only [xn, dn, @cj _ bu bu (fun _ => jf _)]
def EW (x : List h_) : I := .slice (x.map fv)
theorem avw (x : List h_) : (EW x).share = EW x := by
 simp only [EW, dn, @cj _ fv fv (fun _ => J9 _)]
def EX (x : List (List gS)) : I := .slice (x.map fu)
theorem avx (x : List (List gS)) : (EX x).share = EX x := by
 simp only [EX, dn, @cj _ fu fu (fun _ => J8 _)]
def xo (x : List Int) : I := .slice (x.map bA)
theorem avy (x : List Int) : (xo x).share = xo x := by
 simp only [xo, dn, @cj _ bA bA (fun _ => pC _)]
def bQ (x : bP) : I := .agg [.int .i64 x.Kind, .int .i64 x.Value]
theorem EY (x : bP) : (bQ x).share = bQ x := by
 simp only [bQ, dn]
theorem So (x : bP) : (bQ x).cW = true := by
 simp only [bQ, I.cW, I.hx, Bool.and_self]
def eG (x : List bP) : I := .slice (x.map bQ)
theorem EZ (x : List bP) : (eG x).share = eG x := by
 simp only [eG, dn, @cj _ bQ bQ (fun _ => EY _)]
def cb (x : bz) : I := .agg [.int .i64 x.Kind, .int .i64 x.Number, .str x.Name, .slice (x.cq.map eG)]
theorem E0 (x : bz) : (cb x).share = cb x := by
 simp only [cb, dn, @cj _ eG eG (fun _ => EZ _)]
def bp (x : bb) : I := .agg [.str x.Name, .int .i64 x.dc, .slice (x.Body.map cb)]
theorem Bv (x : bb) : (bp x).share = bp x := by
 simp only [bp, dn, @cj _ cb cb (fun _ => E0 _)]
def fk (x : List bP) : I := .aw 2 (x.map bQ)
theorem E1 (x : List bP) : (fk x).share = eG x := by
 simp only [fk, eG, dn, @cj _ bQ bQ (fun _ => EY _)]
theorem Kd (x : List bP) : (fk x).cW = true := by
 simp only [fk, I.cW, I.hx, Bool.and_self, @kd _ bQ (fun _ => So _)]
def fb (x : bz) : I := .agg [.int .i64 x.Kind, .int .i64 x.Number, .str x.Name, .aw 1 (x.cq.map fk)]
theorem E2 (x : bz) : (fb x).share = cb x := by
 simp only [fb, cb, dn, @cj _ fk eG (fun _ => E1 _)]
theorem Ke (x : bz) : (fb x).cW = true := by
 simp only [fb, I.cW, I.hx, Bool.and_self, @kd _ fk (fun _ => Kd _)]
def eQ (x : bb) : I := .agg [.str x.Name, .int .i64 x.dc, .aw 4 (x.Body.map fb)]
theorem qA (x : bb) : (eQ x).share = bp x := by
 simp only [eQ, bp, dn, @cj _ fb cb (fun _ => E2 _)]
theorem Kf (x : bb) : (eQ x).cW = true := by
 simp only [eQ, I.cW, I.hx, Bool.and_self, @kd _ fb (fun _ => Ke _)]
def Bw (x : List bz) : I := .aw 4 (x.map fb)
def xp (x : List bz) : I := .slice (x.map cb)
theorem avz (x : List bz) : (xp x).share = xp x := by
 simp only [xp, dn, @cj _ cb cb (fun _ => E0 _)]
theorem avA (x : List bz) : (Bw x).share = xp x := by
 simp only [Bw, xp, dn, @cj _ fb cb (fun _ => E2 _)]
theorem avB (x : List bz) : (Bw x).cW = true := by
 simp only [Bw, I.cW, I.hx, Bool.and_self, @kd _ fb (fun _ => Ke _)]
def Bx (x : List (List bP)) : I := .aw 1 (x.map fk)
def xq (x : List (List bP)) : I := .slice (x.map eG)
theorem avC (x : List (List bP)) : (xq x).share = xq x := by
 simp only [xq, dn, @cj _ eG eG (fun _ => EZ _)]
theorem avD (x : List (List bP)) : (Bx x).share = xq x := by
 simp only [Bx, xq, dn, @cj _ fk eG (fun _ => E1 _)]
theorem avE (x : List (List bP)) : (Bx x).cW = true := by
 simp only [Bx, I.cW, I.hx, Bool.and_self, @kd _ fk (fun _ => Kd _)]
def ep (x : cX) : I := .agg [.int .i64 x.eo, .slice (x.c3.map bA)]
theorem Bz (x : cX) : (ep x).share = ep x := by
 simp only [ep, dn, @cj _ bA bA (fun _ => pC _)]
def eZ (x : cX) : I := .agg [.int .i64 x.eo, .aw 1 (x.c3.map bA)]
theorem qB (x : cX) : (eZ x).share = ep x := by
 simp only [eZ, ep, dn, @cj _ bA bA (fun _ => pC _)]
theorem Kg (x : cX) : (eZ x).cW = true := by
 simp only [eZ, I.cW, I.hx, Bool.and_self, @kd _ bA (fun _ => ES _)]
def BA (x : List Int) : I := .aw 1 (x.map bA)
theorem avF (x : List Int) : (BA x).share = xo x := by
 simp only [BA, xo, dn, @cj _ bA bA (fun _ => pC _)]
theorem avG (x : List Int) : (BA x).cW = true := by
 simp only [BA, I.cW, I.hx, Bool.and_self, @kd _ bA (fun _ => ES _)]
def bo (x : bT) : I := .agg [.str x.Left, .str x.b6, .str x.Result]
theorem nq (x : bT) : (bo x).share = bo x := by
 simp only [bo, dn]
theorem Kh (x : bT) : (bo x).cW = true := by
 simp only [bo, I.cW, I.hx, Bool.and_self]
def l_ (x : ev) : I := .agg [.aw 3 (x.e8.map eQ), .aw 2 (x.b_.map eZ), .aw 3 (x.g1.map bo), .aw 1 (x.gT.map bu), .aw 1 (x.gU.map bu)]
def e0 (x : ev) : I := .agg [.slice (x.e8.map bp), .slice (x.b_.map ep), .slice (x.g1.map bo), .slice (x.gT.map bu), .slice (x.gU.map bu)]
theorem Sp (x : ev) : (e0 x).share = e0 x := by
 simp only [e0, dn, @cj _ bp bp (fun _ => Bv _), @cj _ ep ep (fun _ => Bz _), @cj _ bo bo (fun _ => nq _), @cj _ bu bu (fun _ => jf _)]
theorem Sq (x : ev) : (l_ x).share = e0 x := by
 simp only [l_, e0, dn, @cj _ eQ bp (fun _ => qA _), @cj _ eZ ep (fun _ => qB _), @cj _ bo bo (fun _ => nq _), @cj _ bu bu (fun _ => jf _)]
theorem avH (x : ev) : (l_ x).cW = true := by
 simp only [l_, I.cW, I.hx, Bool.and_self, @kd _ eQ (fun _ => Kf _), @kd _ eZ (fun _ => Kg _), @kd _ bo (fun _ => Kh _), @kd _ bu (fun _ => Kc _)]
def BB (x : List bb) : I := .aw 3 (x.map eQ)
def xr (x : List bb) : I := .slice (x.map bp)
theorem avI (x : List bb) : (xr x).share = xr x := by
 simp only [xr, dn, @cj _ bp bp (fun _ => Bv _)]
theorem avJ (x : List bb) : (BB x).share = xr x := by
 simp only [BB, xr, dn, @cj _ eQ bp (fun _ => qA _)]
theorem avK (x : List bb) : (BB x).cW = true := by
 simp only [BB, I.cW, I.hx, Bool.and_self, @kd _ eQ (fun _ => Kf _)]
def BC (x : List cX) : I := .aw 2 (x.map eZ)
def xt (x : List cX) : I := .slice (x.map ep)
theorem avL (x : List cX) : (xt x).share = xt x := by
 simp only [xt, dn, @cj _ ep ep (fun _ => Bz _)]
theorem avM (x : List cX) : (BC x).share = xt x := by
 simp only [BC, xt, dn, @cj _ eZ ep (fun _ => qB _)]
theorem avN (x : List cX) : (BC x).cW = true := by
 simp only [BC, I.cW, I.hx, Bool.and_self, @kd _ eZ (fun _ => Kg _)]
def BD (x : List bT) : I := .aw 3 (x.map bo)
def xu (x : List bT) : I := .slice (x.map bo)
theorem avO (x : List bT) : (xu x).share = xu x := by
 simp only [xu, dn, @cj _ bo bo (fun _ => nq _)]
theorem avP (x : List bT) : (BD x).share = xu x := by
 simp only [BD, xu, dn, @cj _ bo bo (fun _ => nq _)]
theorem avQ (x : List bT) : (BD x).cW = true := by
 simp only [BD, I.cW, I.hx, Bool.and_self, @kd _ bo (fun _ => Kh _)]
def BE (x : List (List UInt8)) : I := .aw 1 (x.map bu)
theorem avR (x : List (List UInt8)) : (BE x).share = xn x := by
 simp only [BE, xn, dn, @cj _ bu bu (fun _ => jf _)]
theorem avS (x : List (List UInt8)) : (BE x).cW = true := by
 simp only [BE, I.cW, I.hx, Bool.and_self, @kd _ bu (fun _ => Kc _)]
def ed (x : cU) : I := .agg [.int .i64 x.eo, .int .i64 x.Part, .slice (x.c3.map bA)]
theorem uB (x : cU) : (ed x).share = ed x := by
 simp only [ed, dn, @cj _ bA bA (fun _ => pC _)]
def dH (x : cU) : I := .agg [.int .i64 x.eo, .int .i64 x.Part, .aw 1 (x.c3.map bA)]
theorem oX (x : cU) : (dH x).share = ed x := by
 simp only [dH, ed, dn, @cj _ bA bA (fun _ => pC _)]
theorem Ki (x : cU) : (dH x).cW = true := by
 simp only [dH, I.cW, I.hx, Bool.and_self, @kd _ bA (fun _ => ES _)]
def dx (x : cn) : I := .agg [.int .i64 x.scope, .bool x.behind]
theorem Kj (x : cn) : (dx x).share = dx x := by
 simp only [dx, dn]
theorem Sr (x : cn) : (dx x).cW = true := by
 simp only [dx, I.cW, I.hx, Bool.and_self]
def xv (x : Bool) : I := .bool x
theorem avT (x : Bool) : (xv x).share = xv x := by
 simp only [xv, dn]
theorem avU (x : Bool) : (xv x).cW = true := by
 simp only [xv, I.cW, I.hx, Bool.and_self]
def Ss : R := .seq (.U [ro 4 (.af (.c (.int .i64 (-1))))] (some [4])) .ret
def St : R := .cond (.t 10) Ss .skip
def Su : R := .seq (.U [ro 11 (.ad (.t 1)),
 ro 4 (.af (.t 11))] (some [4])) .ret
def Sv : R := .seq (.seq (.U [ro 9 (.ad (.t 1)),
 ro 10 (.aq .lss 3 (.t 9) (.c (.int .i64 0)))] (some [1, 10])) St) Su
def Sw : R := .seq (.U [ro 5 (.ad (.t 1)),
 ro 6 (.ad (.t 0)),
 ro 7 (.len 139 (.t 6)),
 ro 8 (.aq .sub 3 (.t 5) (.t 7)),
 ro 1 (.af (.t 8))] (some [1])) Sv
def Sy : R := .seq (.U [ro 4 (.af (.c (.int .i64 0)))] (some [0, 1])) Sw
theorem Sz : bt ⟨12, [0]⟩ (Tryz.f136.body.getD .skip) = some Sy.strip := by kernel_rfl
def SA : R := .seq (.U [ro 4 (.af (.c (.int .i64 (-1))))] (some [4])) .ret
def SB : R := .cond (.t 11) SA .skip
def SC : R := .cond (.t 15) .skip (.exit 0)
def SD : R := .seq (.U [ro 4 (.af (.c (.int .i64 (-1))))] (some [4])) .ret
def SE : R := .cond (.t 25) SD .skip
def SF : R := .seq (.U [ro 24 (.ad (.t 1)),
 ro 25 (.aq .lss 3 (.t 24) (.c (.int .i64 0)))] (some [0, 1, 5, 25])) SE
def SG : R := .U [ro 16 (.ad (.t 5)),
 ro 17 (.aq .add 3 (.t 16) (.c (.int .i64 1))),
 ro 5 (.af (.t 17))] (some [0, 1, 5])
def SH : R := .seq (.block 1 (.seq (.U [ro 18 (.ad (.t 0)),
 ro 19 (.ad (.t 5)),
 ro 20 (.bJ 140 (.t 18) (.t 19)),
 ro 21 (.aD 139 (.t 20)),
 ro 22 (.ad (.t 1)),
 ro 23 (.call (.f 136) [(.t 21), (.t 22)]),
 ro 1 (.af (.t 23))] (some [0, 1, 5])) SF)) SG
def Kk : R := .seq (.seq (.U [ro 12 (.ad (.t 5)),
 ro 13 (.ad (.t 0)),
 ro 14 (.len 140 (.t 13)),
 ro 15 (.aq .lss 3 (.t 12) (.t 14))] (some [0, 1, 5, 15])) SC) SH
def SI : R := .block 0 (.loop Kk)
def SJ : R := .seq (.U [ro 26 (.ad (.t 1)),
 ro 4 (.af (.t 26))] (some [4])) .ret
def SK : R := .seq (.seq (.U [ro 5 (.af (.c (.int .i64 0)))] (some [0, 1, 5])) SI) SJ
def SL : R := .seq (.seq (.U [ro 10 (.ad (.t 1)),
 ro 11 (.aq .lss 3 (.t 10) (.c (.int .i64 0)))] (some [0, 1, 11])) SB) SK
def SM : R := .seq (.U [ro 6 (.ad (.t 1)),
 ro 7 (.ad (.t 0)),
 ro 8 (.len 140 (.t 7)),
 ro 9 (.aq .sub 3 (.t 6) (.t 8)),
 ro 1 (.af (.t 9))] (some [0, 1])) SL
def SN : R := .seq (.U [ro 4 (.af (.c (.int .i64 0)))] (some [0, 1])) SM
theorem SO : bt ⟨27, [0]⟩ (Tryz.f137.body.getD .skip) = some SN.strip := by kernel_rfl
def SP : R := .seq (.U [ro 4 (.af (.c (.int .i64 (-1))))] (some [4])) .ret
def SQ : R := .cond (.t 11) SP .skip
def SR : R := .seq (.U [ro 4 (.af (.c (.int .i64 (-1))))] (some [4])) .ret
def SS : R := .cond (.t 17) SR .skip
def SU : R := .seq (.U [ro 18 (.ad (.t 1)),
 ro 4 (.af (.t 18))] (some [4])) .ret
def SV : R := .seq (.seq (.U [ro 16 (.ad (.t 1)),
 ro 17 (.aq .lss 3 (.t 16) (.c (.int .i64 0)))] (some [1, 17])) SS) SU
def SW : R := .seq (.U [ro 12 (.aP 209 (.t 2) 3),
 ro 13 (.aD 140 (.t 12)),
 ro 14 (.ad (.t 1)),
 ro 15 (.call (.f 137) [(.t 13), (.t 14)]),
 ro 1 (.af (.t 15))] (some [1])) SV
def SX : R := .seq (.seq (.U [ro 10 (.ad (.t 1)),
 ro 11 (.aq .lss 3 (.t 10) (.c (.int .i64 0)))] (some [1, 2, 11])) SQ) SW
def SY : R := .seq (.U [ro 5 (.ad (.t 1)),
 ro 6 (.aP 209 (.t 2) 2),
 ro 7 (.aD 9 (.t 6)),
 ro 8 (.len 9 (.t 7)),
 ro 9 (.aq .sub 3 (.t 5) (.t 8)),
 ro 1 (.af (.t 9))] (some [1, 2])) SX
def SZ : R := .seq (.U [ro 2 (.c2 209 (.t 0)),
 ro 4 (.af (.c (.int .i64 0)))] (some [1, 2])) SY
theorem S0 : bt ⟨19, [0]⟩ (Tryz.f160.body.getD .skip) = some SZ.strip := by kernel_rfl
def S1 : R := .seq (.U [ro 4 (.af (.c (.int .i64 (-1))))] (some [4])) .ret
def S2 : R := .cond (.t 11) S1 .skip
def S3 : R := .cond (.t 15) .skip (.exit 0)
def S4 : R := .seq (.U [ro 4 (.af (.c (.int .i64 (-1))))] (some [4])) .ret
def S5 : R := .cond (.t 25) S4 .skip
def S6 : R := .seq (.U [ro 24 (.ad (.t 1)),
 ro 25 (.aq .lss 3 (.t 24) (.c (.int .i64 0)))] (some [0, 1, 5, 25])) S5
def S7 : R := .U [ro 16 (.ad (.t 5)),
 ro 17 (.aq .add 3 (.t 16) (.c (.int .i64 1))),
 ro 5 (.af (.t 17))] (some [0, 1, 5])
def S8 : R := .seq (.block 1 (.seq (.U [ro 18 (.ad (.t 0)),
 ro 19 (.ad (.t 5)),
 ro 20 (.bJ 107 (.t 18) (.t 19)),
 ro 21 (.aD 209 (.t 20)),
 ro 22 (.ad (.t 1)),
 ro 23 (.call (.f 160) [(.t 21), (.t 22)]),
 ro 1 (.af (.t 23))] (some [0, 1, 5])) S6)) S7
def Kl : R := .seq (.seq (.U [ro 12 (.ad (.t 5)),
 ro 13 (.ad (.t 0)),
 ro 14 (.len 107 (.t 13)),
 ro 15 (.aq .lss 3 (.t 12) (.t 14))] (some [0, 1, 5, 15])) S3) S8
def S9 : R := .block 0 (.loop Kl)
def S_ : R := .seq (.U [ro 26 (.ad (.t 1)),
 ro 4 (.af (.t 26))] (some [4])) .ret
def Ta : R := .seq (.seq (.U [ro 5 (.af (.c (.int .i64 0)))] (some [0, 1, 5])) S9) S_
def Tb : R := .seq (.seq (.U [ro 10 (.ad (.t 1)),
 ro 11 (.aq .lss 3 (.t 10) (.c (.int .i64 0)))] (some [0, 1, 11])) S2) Ta
def Tc : R := .seq (.U [ro 6 (.ad (.t 1)),
 ro 7 (.ad (.t 0)),
 ro 8 (.len 107 (.t 7)),
 ro 9 (.aq .sub 3 (.t 6) (.t 8)),
 ro 1 (.af (.t 9))] (some [0, 1])) Tb
def Td : R := .seq (.U [ro 4 (.af (.c (.int .i64 0)))] (some [0, 1])) Tc
theorem Te : bt ⟨27, [0]⟩ (Tryz.f121.body.getD .skip) = some Td.strip := by kernel_rfl
def Tf : R := .seq (.U [ro 4 (.af (.c (.int .i64 (-1))))] (some [4])) .ret
def Tg : R := .cond (.t 11) Tf .skip
def Th : R := .seq (.U [ro 4 (.af (.c (.int .i64 (-1))))] (some [4])) .ret
def Ti : R := .cond (.t 17) Th .skip
def Tj : R := .seq (.U [ro 18 (.ad (.t 1)),
 ro 4 (.af (.t 18))] (some [4])) .ret
def Tk : R := .seq (.seq (.U [ro 16 (.ad (.t 1)),
 ro 17 (.aq .lss 3 (.t 16) (.c (.int .i64 0)))] (some [1, 17])) Ti) Tj
def Tl : R := .seq (.U [ro 12 (.aP 109 (.t 2) 2),
 ro 13 (.aD 107 (.t 12)),
 ro 14 (.ad (.t 1)),
 ro 15 (.call (.f 121) [(.t 13), (.t 14)]),
 ro 1 (.af (.t 15))] (some [1])) Tk
def Tm : R := .seq (.seq (.U [ro 10 (.ad (.t 1)),
 ro 11 (.aq .lss 3 (.t 10) (.c (.int .i64 0)))] (some [1, 2, 11])) Tg) Tl
def Tn : R := .seq (.U [ro 5 (.ad (.t 1)),
 ro 6 (.aP 109 (.t 2) 0),
 ro 7 (.aD 9 (.t 6)),
 ro 8 (.len 9 (.t 7)),
 ro 9 (.aq .sub 3 (.t 5) (.t 8)),
 ro 1 (.af (.t 9))] (some [1, 2])) Tm
def To : R := .seq (.U [ro 2 (.c2 109 (.t 0)),
 ro 4 (.af (.c (.int .i64 0)))] (some [1, 2])) Tn
theorem Tp : bt ⟨19, [0]⟩ (Tryz.f72.body.getD .skip) = some To.strip := by kernel_rfl
def Tq : R := .seq (.U [ro 4 (.af (.c (.int .i64 (-1))))] (some [4])) .ret
def Tr : R := .cond (.t 11) Tq .skip
def Ts : R := .cond (.t 15) .skip (.exit 0)
def Tt : R := .seq (.U [ro 4 (.af (.c (.int .i64 (-1))))] (some [4])) .ret
def Tu : R := .cond (.t 25) Tt .skip
def Tv : R := .seq (.U [ro 24 (.ad (.t 1)),
 ro 25 (.aq .lss 3 (.t 24) (.c (.int .i64 0)))] (some [0, 1, 5, 25])) Tu
def Tw : R := .U [ro 16 (.ad (.t 5)),
 ro 17 (.aq .add 3 (.t 16) (.c (.int .i64 1))),
 ro 5 (.af (.t 17))] (some [0, 1, 5])
def Tx : R := .seq (.block 1 (.seq (.U [ro 18 (.ad (.t 0)),
 ro 19 (.ad (.t 5)),
 ro 20 (.bJ 22 (.t 18) (.t 19)),
 ro 21 (.aD 109 (.t 20)),
 ro 22 (.ad (.t 1)),
 ro 23 (.call (.f 72) [(.t 21), (.t 22)]),
 ro 1 (.af (.t 23))] (some [0, 1, 5])) Tv)) Tw
def Km : R := .seq (.seq (.U [ro 12 (.ad (.t 5)),
 ro 13 (.ad (.t 0)),
 ro 14 (.len 22 (.t 13)),
 ro 15 (.aq .lss 3 (.t 12) (.t 14))] (some [0, 1, 5, 15])) Ts) Tx
def Ty : R := .block 0 (.loop Km)
def Tz : R := .seq (.U [ro 26 (.ad (.t 1)),
 ro 4 (.af (.t 26))] (some [4])) .ret
def TA : R := .seq (.seq (.U [ro 5 (.af (.c (.int .i64 0)))] (some [0, 1, 5])) Ty) Tz
def TB : R := .seq (.seq (.U [ro 10 (.ad (.t 1)),
 ro 11 (.aq .lss 3 (.t 10) (.c (.int .i64 0)))] (some [0, 1, 11])) Tr) TA
def TC : R := .seq (.U [ro 6 (.ad (.t 1)),
 ro 7 (.ad (.t 0)),
 ro 8 (.len 22 (.t 7)),
 ro 9 (.aq .sub 3 (.t 6) (.t 8)),
 ro 1 (.af (.t 9))] (some [0, 1])) TB
def TD : R := .seq (.U [ro 4 (.af (.c (.int .i64 0)))] (some [0, 1])) TC
theorem xw : bt ⟨27, [0]⟩ (Tryz.f33.body.getD .skip) = some TD.strip := by kernel_rfl
def TE : R := .seq (.U [ro 4 (.af (.c (.int .i64 (-1))))] (some [4])) .ret
def TF : R := .cond (.t 10) TE .skip
def TG : R := .seq (.U [ro 11 (.ad (.t 1)),
 ro 4 (.af (.t 11))] (some [4])) .ret
def TH : R := .seq (.seq (.U [ro 9 (.ad (.t 1)),
 ro 10 (.aq .lss 3 (.t 9) (.c (.int .i64 0)))] (some [1, 10])) TF) TG
def TI : R := .seq (.U [ro 5 (.ad (.t 1)),
 ro 6 (.ad (.t 0)),
 ro 7 (.len 43 (.t 6)),
 ro 8 (.aq .sub 3 (.t 5) (.t 7)),
 ro 1 (.af (.t 8))] (some [1])) TH
def TJ : R := .seq (.U [ro 4 (.af (.c (.int .i64 0)))] (some [0, 1])) TI
theorem xx : bt ⟨12, [0]⟩ (Tryz.f53.body.getD .skip) = some TJ.strip := by kernel_rfl
def TK : R := .seq (.U [ro 4 (.af (.c (.int .i64 (-1))))] (some [4])) .ret
def TL : R := .cond (.t 10) TK .skip
def TM : R := .seq (.U [ro 11 (.ad (.t 1)),
 ro 4 (.af (.t 11))] (some [4])) .ret
def TN : R := .seq (.seq (.U [ro 9 (.ad (.t 1)),
 ro 10 (.aq .lss 3 (.t 9) (.c (.int .i64 0)))] (some [1, 10])) TL) TM
def TO : R := .seq (.U [ro 5 (.aP 112 (.t 2) 1),
 ro 6 (.aD 43 (.t 5)),
 ro 7 (.ad (.t 1)),
 ro 8 (.call (.f 53) [(.t 6), (.t 7)]),
 ro 1 (.af (.t 8))] (some [1])) TN
def TP : R := .seq (.U [ro 2 (.c2 112 (.t 0)),
 ro 4 (.af (.c (.int .i64 0)))] (some [1, 2])) TO
theorem TQ : bt ⟨12, [0]⟩ (Tryz.f73.body.getD .skip) = some TP.strip := by kernel_rfl
def TR : R := .seq (.U [ro 4 (.af (.c (.int .i64 (-1))))] (some [4])) .ret
def TS : R := .cond (.t 11) TR .skip
def TT : R := .cond (.t 15) .skip (.exit 0)
def TU : R := .seq (.U [ro 4 (.af (.c (.int .i64 (-1))))] (some [4])) .ret
def TV : R := .cond (.t 25) TU .skip
def TW : R := .seq (.U [ro 24 (.ad (.t 1)),
 ro 25 (.aq .lss 3 (.t 24) (.c (.int .i64 0)))] (some [0, 1, 5, 25])) TV
def TX : R := .U [ro 16 (.ad (.t 5)),
 ro 17 (.aq .add 3 (.t 16) (.c (.int .i64 1))),
 ro 5 (.af (.t 17))] (some [0, 1, 5])
def TY : R := .seq (.block 1 (.seq (.U [ro 18 (.ad (.t 0)),
 ro 19 (.ad (.t 5)),
 ro 20 (.bJ 23 (.t 18) (.t 19)),
 ro 21 (.aD 112 (.t 20)),
 ro 22 (.ad (.t 1)),
 ro 23 (.call (.f 73) [(.t 21), (.t 22)]),
 ro 1 (.af (.t 23))] (some [0, 1, 5])) TW)) TX
def Kn : R := .seq (.seq (.U [ro 12 (.ad (.t 5)),
 ro 13 (.ad (.t 0)),
 ro 14 (.len 23 (.t 13)),
 ro 15 (.aq .lss 3 (.t 12) (.t 14))] (some [0, 1, 5, 15])) TT) TY
def TZ : R := .block 0 (.loop Kn)
def T0 : R := .seq (.U [ro 26 (.ad (.t 1)),
 ro 4 (.af (.t 26))] (some [4])) .ret
def T1 : R := .seq (.seq (.U [ro 5 (.af (.c (.int .i64 0)))] (some [0, 1, 5])) TZ) T0
def T2 : R := .seq (.seq (.U [ro 10 (.ad (.t 1)),
 ro 11 (.aq .lss 3 (.t 10) (.c (.int .i64 0)))] (some [0, 1, 11])) TS) T1
def T3 : R := .seq (.U [ro 6 (.ad (.t 1)),
 ro 7 (.ad (.t 0)),
 ro 8 (.len 23 (.t 7)),
 ro 9 (.aq .sub 3 (.t 6) (.t 8)),
 ro 1 (.af (.t 9))] (some [0, 1])) T2
def T4 : R := .seq (.U [ro 4 (.af (.c (.int .i64 0)))] (some [0, 1])) T3
theorem xy : bt ⟨27, [0]⟩ (Tryz.f34.body.getD .skip) = some T4.strip := by kernel_rfl
def T5 : R := .seq (.U [ro 4 (.af (.c (.int .i64 (-1))))] (some [4])) .ret
def T6 : R := .cond (.t 11) T5 .skip
def T7 : R := .seq (.U [ro 4 (.af (.c (.int .i64 (-1))))] (some [4])) .ret
def T8 : R := .cond (.t 18) T7 .skip
def T9 : R := .seq (.U [ro 4 (.af (.c (.int .i64 (-1))))] (some [4])) .ret
def T_ : R := .cond (.t 25) T9 .skip
def Ua : R := .seq (.U [ro 26 (.ad (.t 1)),
 ro 4 (.af (.t 26))] (some [4])) .ret
def Ub : R := .seq (.seq (.U [ro 24 (.ad (.t 1)),
 ro 25 (.aq .lss 3 (.t 24) (.c (.int .i64 0)))] (some [1, 25])) T_) Ua
def Uc : R := .seq (.U [ro 19 (.ad (.t 1)),
 ro 20 (.aP 115 (.t 2) 2),
 ro 21 (.aD 9 (.t 20)),
 ro 22 (.len 9 (.t 21)),
 ro 23 (.aq .sub 3 (.t 19) (.t 22)),
 ro 1 (.af (.t 23))] (some [1])) Ub
def Ud : R := .seq (.seq (.U [ro 17 (.ad (.t 1)),
 ro 18 (.aq .lss 3 (.t 17) (.c (.int .i64 0)))] (some [1, 2, 18])) T8) Uc
def Ue : R := .seq (.U [ro 12 (.ad (.t 1)),
 ro 13 (.aP 115 (.t 2) 1),
 ro 14 (.aD 9 (.t 13)),
 ro 15 (.len 9 (.t 14)),
 ro 16 (.aq .sub 3 (.t 12) (.t 15)),
 ro 1 (.af (.t 16))] (some [1, 2])) Ud
def Uf : R := .seq (.seq (.U [ro 10 (.ad (.t 1)),
 ro 11 (.aq .lss 3 (.t 10) (.c (.int .i64 0)))] (some [1, 2, 11])) T6) Ue
def Ug : R := .seq (.U [ro 5 (.ad (.t 1)),
 ro 6 (.aP 115 (.t 2) 0),
 ro 7 (.aD 9 (.t 6)),
 ro 8 (.len 9 (.t 7)),
 ro 9 (.aq .sub 3 (.t 5) (.t 8)),
 ro 1 (.af (.t 9))] (some [1, 2])) Uf
def Uh : R := .seq (.U [ro 2 (.c2 115 (.t 0)),
 ro 4 (.af (.c (.int .i64 0)))] (some [1, 2])) Ug
theorem Ui : bt ⟨27, [0]⟩ (Tryz.f74.body.getD .skip) = some Uh.strip := by kernel_rfl
def Uj : R := .seq (.U [ro 4 (.af (.c (.int .i64 (-1))))] (some [4])) .ret
def Uk : R := .cond (.t 11) Uj .skip
def Ul : R := .cond (.t 15) .skip (.exit 0)
def Um : R := .seq (.U [ro 4 (.af (.c (.int .i64 (-1))))] (some [4])) .ret
def Un : R := .cond (.t 25) Um .skip
def Uo : R := .seq (.U [ro 24 (.ad (.t 1)),
 ro 25 (.aq .lss 3 (.t 24) (.c (.int .i64 0)))] (some [0, 1, 5, 25])) Un
def Up : R := .U [ro 16 (.ad (.t 5)),
 ro 17 (.aq .add 3 (.t 16) (.c (.int .i64 1))),
 ro 5 (.af (.t 17))] (some [0, 1, 5])
def Uq : R := .seq (.block 1 (.seq (.U [ro 18 (.ad (.t 0)),
 ro 19 (.ad (.t 5)),
 ro 20 (.bJ 24 (.t 18) (.t 19)),
 ro 21 (.aD 115 (.t 20)),
 ro 22 (.ad (.t 1)),
 ro 23 (.call (.f 74) [(.t 21), (.t 22)]),
 ro 1 (.af (.t 23))] (some [0, 1, 5])) Uo)) Up
def Ko : R := .seq (.seq (.U [ro 12 (.ad (.t 5)),
 ro 13 (.ad (.t 0)),
 ro 14 (.len 24 (.t 13)),
 ro 15 (.aq .lss 3 (.t 12) (.t 14))] (some [0, 1, 5, 15])) Ul) Uq
def Ur : R := .block 0 (.loop Ko)
def Us : R := .seq (.U [ro 26 (.ad (.t 1)),
 ro 4 (.af (.t 26))] (some [4])) .ret
def Ut : R := .seq (.seq (.U [ro 5 (.af (.c (.int .i64 0)))] (some [0, 1, 5])) Ur) Us
def Uu : R := .seq (.seq (.U [ro 10 (.ad (.t 1)),
 ro 11 (.aq .lss 3 (.t 10) (.c (.int .i64 0)))] (some [0, 1, 11])) Uk) Ut
def Uv : R := .seq (.U [ro 6 (.ad (.t 1)),
 ro 7 (.ad (.t 0)),
 ro 8 (.len 24 (.t 7)),
 ro 9 (.aq .sub 3 (.t 6) (.t 8)),
 ro 1 (.af (.t 9))] (some [0, 1])) Uu
def Uw : R := .seq (.U [ro 4 (.af (.c (.int .i64 0)))] (some [0, 1])) Uv
theorem Ux : bt ⟨27, [0]⟩ (Tryz.f35.body.getD .skip) = some Uw.strip := by kernel_rfl
def Uy : R := .seq (.U [ro 4 (.af (.c (.int .i64 (-1))))] (some [4])) .ret
def Uz : R := .cond (.t 11) Uy .skip
def UA : R := .cond (.t 15) .skip (.exit 0)
def UB : R := .seq (.U [ro 4 (.af (.c (.int .i64 (-1))))] (some [4])) .ret
def UC : R := .cond (.t 26) UB .skip
def UD : R := .seq (.U [ro 25 (.ad (.t 1)),
 ro 26 (.aq .lss 3 (.t 25) (.c (.int .i64 0)))] (some [0, 1, 5, 26])) UC
def UE : R := .U [ro 16 (.ad (.t 5)),
 ro 17 (.aq .add 3 (.t 16) (.c (.int .i64 1))),
 ro 5 (.af (.t 17))] (some [0, 1, 5])
def UF : R := .seq (.block 1 (.seq (.U [ro 18 (.ad (.t 1)),
 ro 19 (.ad (.t 0)),
 ro 20 (.ad (.t 5)),
 ro 21 (.bJ 25 (.t 19) (.t 20)),
 ro 22 (.aD 9 (.t 21)),
 ro 23 (.len 9 (.t 22)),
 ro 24 (.aq .sub 3 (.t 18) (.t 23)),
 ro 1 (.af (.t 24))] (some [0, 1, 5])) UD)) UE
def Kp : R := .seq (.seq (.U [ro 12 (.ad (.t 5)),
 ro 13 (.ad (.t 0)),
 ro 14 (.len 25 (.t 13)),
 ro 15 (.aq .lss 3 (.t 12) (.t 14))] (some [0, 1, 5, 15])) UA) UF
def UG : R := .block 0 (.loop Kp)
def UH : R := .seq (.U [ro 27 (.ad (.t 1)),
 ro 4 (.af (.t 27))] (some [4])) .ret
def UI : R := .seq (.seq (.U [ro 5 (.af (.c (.int .i64 0)))] (some [0, 1, 5])) UG) UH
def UJ : R := .seq (.seq (.U [ro 10 (.ad (.t 1)),
 ro 11 (.aq .lss 3 (.t 10) (.c (.int .i64 0)))] (some [0, 1, 11])) Uz) UI
def UK : R := .seq (.U [ro 6 (.ad (.t 1)),
 ro 7 (.ad (.t 0)),
 ro 8 (.len 25 (.t 7)),
 ro 9 (.aq .sub 3 (.t 6) (.t 8)),
 ro 1 (.af (.t 9))] (some [0, 1])) UJ
def UL : R := .seq (.U [ro 4 (.af (.c (.int .i64 0)))] (some [0, 1])) UK
theorem n2 : bt ⟨28, [0]⟩ (Tryz.f36.body.getD .skip) = some UL.strip := by kernel_rfl
def UM : R := .seq (.U [ro 4 (.af (.c (.int .i64 (-1))))] (some [4])) .ret
def UN : R := .cond (.t 10) UM .skip
def UO : R := .seq (.U [ro 4 (.af (.c (.int .i64 (-1))))] (some [4])) .ret
def UP : R := .cond (.t 16) UO .skip
def UQ : R := .seq (.U [ro 4 (.af (.c (.int .i64 (-1))))] (some [4])) .ret
def UR : R := .cond (.t 22) UQ .skip
def US : R := .seq (.U [ro 4 (.af (.c (.int .i64 (-1))))] (some [4])) .ret
def UT : R := .cond (.t 28) US .skip
def UU : R := .seq (.U [ro 4 (.af (.c (.int .i64 (-1))))] (some [4])) .ret
def UW : R := .cond (.t 34) UU .skip
def UX : R := .seq (.U [ro 35 (.ad (.t 1)),
 ro 4 (.af (.t 35))] (some [4])) .ret
def UY : R := .seq (.seq (.U [ro 33 (.ad (.t 1)),
 ro 34 (.aq .lss 3 (.t 33) (.c (.int .i64 0)))] (some [1, 34])) UW) UX
def UZ : R := .seq (.U [ro 29 (.aP 27 (.t 2) 4),
 ro 30 (.aD 25 (.t 29)),
 ro 31 (.ad (.t 1)),
 ro 32 (.call (.f 36) [(.t 30), (.t 31)]),
 ro 1 (.af (.t 32))] (some [1])) UY
def U0 : R := .seq (.seq (.U [ro 27 (.ad (.t 1)),
 ro 28 (.aq .lss 3 (.t 27) (.c (.int .i64 0)))] (some [1, 2, 28])) UT) UZ
def U1 : R := .seq (.U [ro 23 (.aP 27 (.t 2) 3),
 ro 24 (.aD 25 (.t 23)),
 ro 25 (.ad (.t 1)),
 ro 26 (.call (.f 36) [(.t 24), (.t 25)]),
 ro 1 (.af (.t 26))] (some [1, 2])) U0
def U2 : R := .seq (.seq (.U [ro 21 (.ad (.t 1)),
 ro 22 (.aq .lss 3 (.t 21) (.c (.int .i64 0)))] (some [1, 2, 22])) UR) U1
def U3 : R := .seq (.U [ro 17 (.aP 27 (.t 2) 2),
 ro 18 (.aD 24 (.t 17)),
 ro 19 (.ad (.t 1)),
 ro 20 (.call (.f 35) [(.t 18), (.t 19)]),
 ro 1 (.af (.t 20))] (some [1, 2])) U2
def U4 : R := .seq (.seq (.U [ro 15 (.ad (.t 1)),
 ro 16 (.aq .lss 3 (.t 15) (.c (.int .i64 0)))] (some [1, 2, 16])) UP) U3
def U5 : R := .seq (.U [ro 11 (.aP 27 (.t 2) 1),
 ro 12 (.aD 23 (.t 11)),
 ro 13 (.ad (.t 1)),
 ro 14 (.call (.f 34) [(.t 12), (.t 13)]),
 ro 1 (.af (.t 14))] (some [1, 2])) U4
def U6 : R := .seq (.seq (.U [ro 9 (.ad (.t 1)),
 ro 10 (.aq .lss 3 (.t 9) (.c (.int .i64 0)))] (some [1, 2, 10])) UN) U5
def U7 : R := .seq (.U [ro 5 (.aP 27 (.t 2) 0),
 ro 6 (.aD 22 (.t 5)),
 ro 7 (.ad (.t 1)),
 ro 8 (.call (.f 33) [(.t 6), (.t 7)]),
 ro 1 (.af (.t 8))] (some [1, 2])) U6
def Dq : R := .seq (.U [ro 2 (.c2 27 (.t 0)),
 ro 4 (.af (.c (.int .i64 0)))] (some [1, 2])) U7
theorem U8 : bt ⟨36, [0]⟩ (Tryz.f7.body.getD .skip) = some Dq.strip := by kernel_rfl
def U9 : R := .seq (.U [ro 10 (.aD 191 (.t 3)),
 ⟨none, .cx 191 (.t 2) (.t 10), none⟩] (some [2])) .ret
def U_ : R := .seq (.U [ro 7 (.aP 226 (.t 1) 1),
 ro 8 (.aD 2 (.t 7)),
 ro 9 (.aP 191 (.t 3) 1),
 ⟨none, .cx 2 (.t 9) (.t 8), none⟩] (some [2, 3])) U9
def Va : R := .seq (.U [ro 4 (.aP 226 (.t 1) 0),
 ro 5 (.aD 2 (.t 4)),
 ro 6 (.aP 191 (.t 3) 0),
 ⟨none, .cx 2 (.t 6) (.t 5), none⟩] (some [1, 2, 3])) U_
def Vb : R := .seq (.U [ro 3 (.eB 191)] (some [1, 2, 3])) Va
def Vc : R := .seq (.U [ro 1 (.c2 226 (.t 0)),
 ro 2 (.eB 191)] (some [1, 2])) Vb
theorem Vd : bt ⟨11, [0]⟩ (Tryz.f177.body.getD .skip) = some Vc.strip := by kernel_rfl
def Ve : R := .cond (.t 11) .skip (.exit 0)
def Vf : R := .U [ro 12 (.ad (.t 4)),
 ro 13 (.aq .add 3 (.t 12) (.c (.int .i64 1))),
 ro 4 (.af (.t 13))] (some [0, 3, 4])
def Vg : R := .seq (.block 1 (.U [ro 14 (.ad (.t 3)),
 ro 15 (.ad (.t 4)),
 ro 16 (.ad (.t 0)),
 ro 17 (.ad (.t 4)),
 ro 18 (.bJ 139 (.t 16) (.t 17)),
 ro 19 (.aD 226 (.t 18)),
 ro 20 (.call (.f 177) [(.t 19)]),
 ro 21 (.bJ 147 (.t 14) (.t 15)),
 ⟨none, .cx 191 (.t 21) (.t 20), none⟩] (some [0, 3, 4]))) Vf
def Kq : R := .seq (.seq (.U [ro 8 (.ad (.t 4)),
 ro 9 (.ad (.t 0)),
 ro 10 (.len 139 (.t 9)),
 ro 11 (.aq .lss 3 (.t 8) (.t 10))] (some [0, 3, 4, 11])) Ve) Vg
def Vh : R := .block 0 (.loop Kq)
def Vi : R := .seq (.U [ro 22 (.ad (.t 3)),
 ro 2 (.af (.t 22))] (some [2])) .ret
def Vj : R := .seq (.seq (.U [ro 4 (.af (.c (.int .i64 0)))] (some [0, 3, 4])) Vh) Vi
def Vk : R := .seq (.U [ro 5 (.ad (.t 0)),
 ro 6 (.len 139 (.t 5)),
 ro 7 (.eV 147 (.t 6) (.t 6)),
 ro 3 (.af (.t 7))] (some [0, 3])) Vj
def Vl : R := .seq (.U [ro 2 (.af (.c .bc))] (some [0])) Vk
theorem Vm : bt ⟨23, [0]⟩ (Tryz.f144.body.getD .skip) = some Vl.strip := by kernel_rfl
def Vn : R := .cond (.t 11) .skip (.exit 0)
def Vo : R := .U [ro 12 (.ad (.t 4)),
 ro 13 (.aq .add 3 (.t 12) (.c (.int .i64 1))),
 ro 4 (.af (.t 13))] (some [0, 3, 4])
def Vp : R := .seq (.block 1 (.U [ro 14 (.ad (.t 3)),
 ro 15 (.ad (.t 4)),
 ro 16 (.ad (.t 0)),
 ro 17 (.ad (.t 4)),
 ro 18 (.bJ 140 (.t 16) (.t 17)),
 ro 19 (.aD 139 (.t 18)),
 ro 20 (.call (.f 144) [(.t 19)]),
 ro 21 (.bJ 120 (.t 14) (.t 15)),
 ⟨none, .cx 147 (.t 21) (.t 20), none⟩] (some [0, 3, 4]))) Vo
def Kr : R := .seq (.seq (.U [ro 8 (.ad (.t 4)),
 ro 9 (.ad (.t 0)),
 ro 10 (.len 140 (.t 9)),
 ro 11 (.aq .lss 3 (.t 8) (.t 10))] (some [0, 3, 4, 11])) Vn) Vp
def Vq : R := .block 0 (.loop Kr)
def Vr : R := .seq (.U [ro 22 (.ad (.t 3)),
 ro 2 (.af (.t 22))] (some [2])) .ret
def Vs : R := .seq (.seq (.U [ro 4 (.af (.c (.int .i64 0)))] (some [0, 3, 4])) Vq) Vr
def Vt : R := .seq (.U [ro 5 (.ad (.t 0)),
 ro 6 (.len 140 (.t 5)),
 ro 7 (.eV 120 (.t 6) (.t 6)),
 ro 3 (.af (.t 7))] (some [0, 3])) Vs
def Vu : R := .seq (.U [ro 2 (.af (.c .bc))] (some [0])) Vt
theorem Vv : bt ⟨23, [0]⟩ (Tryz.f145.body.getD .skip) = some Vu.strip := by kernel_rfl
def Vw : R := .seq (.U [ro 17 (.aD 122 (.t 3)),
 ⟨none, .cx 122 (.t 2) (.t 17), none⟩] (some [2])) .ret
def Vx : R := .seq (.U [ro 13 (.aP 209 (.t 1) 3),
 ro 14 (.aD 140 (.t 13)),
 ro 15 (.call (.f 145) [(.t 14)]),
 ro 16 (.aP 122 (.t 3) 3),
 ⟨none, .cx 120 (.t 16) (.t 15), none⟩] (some [2, 3])) Vw
def Vy : R := .seq (.U [ro 10 (.aP 209 (.t 1) 2),
 ro 11 (.aD 9 (.t 10)),
 ro 12 (.aP 122 (.t 3) 2),
 ⟨none, .cx 9 (.t 12) (.t 11), none⟩] (some [1, 2, 3])) Vx
def Vz : R := .seq (.U [ro 7 (.aP 209 (.t 1) 1),
 ro 8 (.aD 2 (.t 7)),
 ro 9 (.aP 122 (.t 3) 1),
 ⟨none, .cx 2 (.t 9) (.t 8), none⟩] (some [1, 2, 3])) Vy
def VA : R := .seq (.U [ro 4 (.aP 209 (.t 1) 0),
 ro 5 (.aD 2 (.t 4)),
 ro 6 (.aP 122 (.t 3) 0),
 ⟨none, .cx 2 (.t 6) (.t 5), none⟩] (some [1, 2, 3])) Vz
def VB : R := .seq (.U [ro 3 (.eB 122)] (some [1, 2, 3])) VA
def VC : R := .seq (.U [ro 1 (.c2 209 (.t 0)),
 ro 2 (.eB 122)] (some [1, 2])) VB
theorem VD : bt ⟨18, [0]⟩ (Tryz.f164.body.getD .skip) = some VC.strip := by kernel_rfl
def VE : R := .cond (.t 11) .skip (.exit 0)
def VF : R := .U [ro 12 (.ad (.t 4)),
 ro 13 (.aq .add 3 (.t 12) (.c (.int .i64 1))),
 ro 4 (.af (.t 13))] (some [0, 3, 4])
def VG : R := .seq (.block 1 (.U [ro 14 (.ad (.t 3)),
 ro 15 (.ad (.t 4)),
 ro 16 (.ad (.t 0)),
 ro 17 (.ad (.t 4)),
 ro 18 (.bJ 107 (.t 16) (.t 17)),
 ro 19 (.aD 209 (.t 18)),
 ro 20 (.call (.f 164) [(.t 19)]),
 ro 21 (.bJ 117 (.t 14) (.t 15)),
 ⟨none, .cx 122 (.t 21) (.t 20), none⟩] (some [0, 3, 4]))) VF
def Ks : R := .seq (.seq (.U [ro 8 (.ad (.t 4)),
 ro 9 (.ad (.t 0)),
 ro 10 (.len 107 (.t 9)),
 ro 11 (.aq .lss 3 (.t 8) (.t 10))] (some [0, 3, 4, 11])) VE) VG
def VH : R := .block 0 (.loop Ks)
def VI : R := .seq (.U [ro 22 (.ad (.t 3)),
 ro 2 (.af (.t 22))] (some [2])) .ret
def VJ : R := .seq (.seq (.U [ro 4 (.af (.c (.int .i64 0)))] (some [0, 3, 4])) VH) VI
def VK : R := .seq (.U [ro 5 (.ad (.t 0)),
 ro 6 (.len 107 (.t 5)),
 ro 7 (.eV 117 (.t 6) (.t 6)),
 ro 3 (.af (.t 7))] (some [0, 3])) VJ
def VL : R := .seq (.U [ro 2 (.af (.c .bc))] (some [0])) VK
theorem VM : bt ⟨23, [0]⟩ (Tryz.f126.body.getD .skip) = some VL.strip := by kernel_rfl
def VN : R := .seq (.U [ro 14 (.aD 119 (.t 3)),
 ⟨none, .cx 119 (.t 2) (.t 14), none⟩] (some [2])) .ret
def VO : R := .seq (.U [ro 10 (.aP 109 (.t 1) 2),
 ro 11 (.aD 107 (.t 10)),
 ro 12 (.call (.f 126) [(.t 11)]),
 ro 13 (.aP 119 (.t 3) 2),
 ⟨none, .cx 117 (.t 13) (.t 12), none⟩] (some [2, 3])) VN
def VP : R := .seq (.U [ro 7 (.aP 109 (.t 1) 1),
 ro 8 (.aD 2 (.t 7)),
 ro 9 (.aP 119 (.t 3) 1),
 ⟨none, .cx 2 (.t 9) (.t 8), none⟩] (some [1, 2, 3])) VO
def VQ : R := .seq (.U [ro 4 (.aP 109 (.t 1) 0),
 ro 5 (.aD 9 (.t 4)),
 ro 6 (.aP 119 (.t 3) 0),
 ⟨none, .cx 9 (.t 6) (.t 5), none⟩] (some [1, 2, 3])) VP
def VR : R := .seq (.U [ro 3 (.eB 119)] (some [1, 2, 3])) VQ
def VS : R := .seq (.U [ro 1 (.c2 109 (.t 0)),
 ro 2 (.eB 119)] (some [1, 2])) VR
theorem VT : bt ⟨15, [0]⟩ (Tryz.f76.body.getD .skip) = some VS.strip := by kernel_rfl
def VU : R := .cond (.t 11) .skip (.exit 0)
def VV : R := .U [ro 12 (.ad (.t 4)),
 ro 13 (.aq .add 3 (.t 12) (.c (.int .i64 1))),
 ro 4 (.af (.t 13))] (some [0, 3, 4])
def VW : R := .seq (.block 1 (.U [ro 14 (.ad (.t 3)),
 ro 15 (.ad (.t 4)),
 ro 16 (.ad (.t 0)),
 ro 17 (.ad (.t 4)),
 ro 18 (.bJ 22 (.t 16) (.t 17)),
 ro 19 (.aD 109 (.t 18)),
 ro 20 (.call (.f 76) [(.t 19)]),
 ro 21 (.bJ 32 (.t 14) (.t 15)),
 ⟨none, .cx 119 (.t 21) (.t 20), none⟩] (some [0, 3, 4]))) VV
def Kt : R := .seq (.seq (.U [ro 8 (.ad (.t 4)),
 ro 9 (.ad (.t 0)),
 ro 10 (.len 22 (.t 9)),
 ro 11 (.aq .lss 3 (.t 8) (.t 10))] (some [0, 3, 4, 11])) VU) VW
def VX : R := .block 0 (.loop Kt)
def VY : R := .seq (.U [ro 22 (.ad (.t 3)),
 ro 2 (.af (.t 22))] (some [2])) .ret
def VZ : R := .seq (.seq (.U [ro 4 (.af (.c (.int .i64 0)))] (some [0, 3, 4])) VX) VY
def V0 : R := .seq (.U [ro 5 (.ad (.t 0)),
 ro 6 (.len 22 (.t 5)),
 ro 7 (.eV 32 (.t 6) (.t 6)),
 ro 3 (.af (.t 7))] (some [0, 3])) VZ
def V1 : R := .seq (.U [ro 2 (.af (.c .bc))] (some [0])) V0
theorem V2 : bt ⟨23, [0]⟩ (Tryz.f39.body.getD .skip) = some V1.strip := by kernel_rfl
def V3 : R := .cond (.t 11) .skip (.exit 0)
def V4 : R := .U [ro 12 (.ad (.t 4)),
 ro 13 (.aq .add 3 (.t 12) (.c (.int .i64 1))),
 ro 4 (.af (.t 13))] (some [0, 3, 4])
def V5 : R := .seq (.block 1 (.U [ro 14 (.ad (.t 3)),
 ro 15 (.ad (.t 4)),
 ro 16 (.ad (.t 0)),
 ro 17 (.ad (.t 4)),
 ro 18 (.bJ 43 (.t 16) (.t 17)),
 ro 19 (.aD 2 (.t 18)),
 ro 20 (.bJ 43 (.t 14) (.t 15)),
 ⟨none, .cx 2 (.t 20) (.t 19), none⟩] (some [0, 3, 4]))) V4
def Ku : R := .seq (.seq (.U [ro 8 (.ad (.t 4)),
 ro 9 (.ad (.t 0)),
 ro 10 (.len 43 (.t 9)),
 ro 11 (.aq .lss 3 (.t 8) (.t 10))] (some [0, 3, 4, 11])) V3) V5
def V6 : R := .block 0 (.loop Ku)
def V7 : R := .seq (.U [ro 21 (.ad (.t 3)),
 ro 2 (.af (.t 21))] (some [2])) .ret
def V8 : R := .seq (.seq (.U [ro 4 (.af (.c (.int .i64 0)))] (some [0, 3, 4])) V6) V7
def V9 : R := .seq (.U [ro 5 (.ad (.t 0)),
 ro 6 (.len 43 (.t 5)),
 ro 7 (.eV 43 (.t 6) (.t 6)),
 ro 3 (.af (.t 7))] (some [0, 3])) V8
def V_ : R := .seq (.U [ro 2 (.af (.c .bc))] (some [0])) V9
theorem n3 : bt ⟨22, [0]⟩ (Tryz.f59.body.getD .skip) = some V_.strip := by kernel_rfl
def Wa : R := .seq (.U [ro 11 (.aD 124 (.t 3)),
 ⟨none, .cx 124 (.t 2) (.t 11), none⟩] (some [2])) .ret
def Wb : R := .seq (.U [ro 7 (.aP 112 (.t 1) 1),
 ro 8 (.aD 43 (.t 7)),
 ro 9 (.call (.f 59) [(.t 8)]),
 ro 10 (.aP 124 (.t 3) 1),
 ⟨none, .cx 43 (.t 10) (.t 9), none⟩] (some [2, 3])) Wa
def Wc : R := .seq (.U [ro 4 (.aP 112 (.t 1) 0),
 ro 5 (.aD 2 (.t 4)),
 ro 6 (.aP 124 (.t 3) 0),
 ⟨none, .cx 2 (.t 6) (.t 5), none⟩] (some [1, 2, 3])) Wb
def Wd : R := .seq (.U [ro 3 (.eB 124)] (some [1, 2, 3])) Wc
def We : R := .seq (.U [ro 1 (.c2 112 (.t 0)),
 ro 2 (.eB 124)] (some [1, 2])) Wd
theorem Wf : bt ⟨12, [0]⟩ (Tryz.f77.body.getD .skip) = some We.strip := by kernel_rfl
def Wg : R := .cond (.t 11) .skip (.exit 0)
def Wh : R := .U [ro 12 (.ad (.t 4)),
 ro 13 (.aq .add 3 (.t 12) (.c (.int .i64 1))),
 ro 4 (.af (.t 13))] (some [0, 3, 4])
def Wi : R := .seq (.block 1 (.U [ro 14 (.ad (.t 3)),
 ro 15 (.ad (.t 4)),
 ro 16 (.ad (.t 0)),
 ro 17 (.ad (.t 4)),
 ro 18 (.bJ 23 (.t 16) (.t 17)),
 ro 19 (.aD 112 (.t 18)),
 ro 20 (.call (.f 77) [(.t 19)]),
 ro 21 (.bJ 33 (.t 14) (.t 15)),
 ⟨none, .cx 124 (.t 21) (.t 20), none⟩] (some [0, 3, 4]))) Wh
def Kv : R := .seq (.seq (.U [ro 8 (.ad (.t 4)),
 ro 9 (.ad (.t 0)),
 ro 10 (.len 23 (.t 9)),
 ro 11 (.aq .lss 3 (.t 8) (.t 10))] (some [0, 3, 4, 11])) Wg) Wi
def Wj : R := .block 0 (.loop Kv)
def Wk : R := .seq (.U [ro 22 (.ad (.t 3)),
 ro 2 (.af (.t 22))] (some [2])) .ret
def Wl : R := .seq (.seq (.U [ro 4 (.af (.c (.int .i64 0)))] (some [0, 3, 4])) Wj) Wk
def Wm : R := .seq (.U [ro 5 (.ad (.t 0)),
 ro 6 (.len 23 (.t 5)),
 ro 7 (.eV 33 (.t 6) (.t 6)),
 ro 3 (.af (.t 7))] (some [0, 3])) Wl
def Wn : R := .seq (.U [ro 2 (.af (.c .bc))] (some [0])) Wm
theorem Wo : bt ⟨23, [0]⟩ (Tryz.f40.body.getD .skip) = some Wn.strip := by kernel_rfl
def Wp : R := .seq (.U [ro 13 (.aD 126 (.t 3)),
 ⟨none, .cx 126 (.t 2) (.t 13), none⟩] (some [2])) .ret
def Wq : R := .seq (.U [ro 10 (.aP 115 (.t 1) 2),
 ro 11 (.aD 9 (.t 10)),
 ro 12 (.aP 126 (.t 3) 2),
 ⟨none, .cx 9 (.t 12) (.t 11), none⟩] (some [2, 3])) Wp
def Wr : R := .seq (.U [ro 7 (.aP 115 (.t 1) 1),
 ro 8 (.aD 9 (.t 7)),
 ro 9 (.aP 126 (.t 3) 1),
 ⟨none, .cx 9 (.t 9) (.t 8), none⟩] (some [1, 2, 3])) Wq
def Ws : R := .seq (.U [ro 4 (.aP 115 (.t 1) 0),
 ro 5 (.aD 9 (.t 4)),
 ro 6 (.aP 126 (.t 3) 0),
 ⟨none, .cx 9 (.t 6) (.t 5), none⟩] (some [1, 2, 3])) Wr
def Wt : R := .seq (.U [ro 3 (.eB 126)] (some [1, 2, 3])) Ws
def Wu : R := .seq (.U [ro 1 (.c2 115 (.t 0)),
 ro 2 (.eB 126)] (some [1, 2])) Wt
theorem Wv : bt ⟨14, [0]⟩ (Tryz.f78.body.getD .skip) = some Wu.strip := by kernel_rfl
def Ww : R := .cond (.t 11) .skip (.exit 0)
def Wx : R := .U [ro 12 (.ad (.t 4)),
 ro 13 (.aq .add 3 (.t 12) (.c (.int .i64 1))),
 ro 4 (.af (.t 13))] (some [0, 3, 4])
def Wy : R := .seq (.block 1 (.U [ro 14 (.ad (.t 3)),
 ro 15 (.ad (.t 4)),
 ro 16 (.ad (.t 0)),
 ro 17 (.ad (.t 4)),
 ro 18 (.bJ 24 (.t 16) (.t 17)),
 ro 19 (.aD 115 (.t 18)),
 ro 20 (.call (.f 78) [(.t 19)]),
 ro 21 (.bJ 34 (.t 14) (.t 15)),
 ⟨none, .cx 126 (.t 21) (.t 20), none⟩] (some [0, 3, 4]))) Wx
def Kw : R := .seq (.seq (.U [ro 8 (.ad (.t 4)),
 ro 9 (.ad (.t 0)),
 ro 10 (.len 24 (.t 9)),
 ro 11 (.aq .lss 3 (.t 8) (.t 10))] (some [0, 3, 4, 11])) Ww) Wy
def Wz : R := .block 0 (.loop Kw)
def WA : R := .seq (.U [ro 22 (.ad (.t 3)),
 ro 2 (.af (.t 22))] (some [2])) .ret
def WB : R := .seq (.seq (.U [ro 4 (.af (.c (.int .i64 0)))] (some [0, 3, 4])) Wz) WA
def WC : R := .seq (.U [ro 5 (.ad (.t 0)),
 ro 6 (.len 24 (.t 5)),
 ro 7 (.eV 34 (.t 6) (.t 6)),
 ro 3 (.af (.t 7))] (some [0, 3])) WB
def WD : R := .seq (.U [ro 2 (.af (.c .bc))] (some [0])) WC
theorem WE : bt ⟨23, [0]⟩ (Tryz.f41.body.getD .skip) = some WD.strip := by kernel_rfl
def WG : R := .cond (.t 11) .skip (.exit 0)
def WH : R := .U [ro 12 (.ad (.t 4)),
 ro 13 (.aq .add 3 (.t 12) (.c (.int .i64 1))),
 ro 4 (.af (.t 13))] (some [0, 3, 4])
def WI : R := .seq (.block 1 (.U [ro 14 (.ad (.t 3)),
 ro 15 (.ad (.t 4)),
 ro 16 (.ad (.t 0)),
 ro 17 (.ad (.t 4)),
 ro 18 (.bJ 25 (.t 16) (.t 17)),
 ro 19 (.aD 9 (.t 18)),
 ro 20 (.bJ 25 (.t 14) (.t 15)),
 ⟨none, .cx 9 (.t 20) (.t 19), none⟩] (some [0, 3, 4]))) WH
def Kx : R := .seq (.seq (.U [ro 8 (.ad (.t 4)),
 ro 9 (.ad (.t 0)),
 ro 10 (.len 25 (.t 9)),
 ro 11 (.aq .lss 3 (.t 8) (.t 10))] (some [0, 3, 4, 11])) WG) WI
def WJ : R := .block 0 (.loop Kx)
def WK : R := .seq (.U [ro 21 (.ad (.t 3)),
 ro 2 (.af (.t 21))] (some [2])) .ret
def WL : R := .seq (.seq (.U [ro 4 (.af (.c (.int .i64 0)))] (some [0, 3, 4])) WJ) WK
def WM : R := .seq (.U [ro 5 (.ad (.t 0)),
 ro 6 (.len 25 (.t 5)),
 ro 7 (.eV 25 (.t 6) (.t 6)),
 ro 3 (.af (.t 7))] (some [0, 3])) WL
def WN : R := .seq (.U [ro 2 (.af (.c .bc))] (some [0])) WM
theorem WO : bt ⟨22, [0]⟩ (Tryz.f42.body.getD .skip) = some WN.strip := by kernel_rfl
def WQ : R := .seq (.U [ro 24 (.aD 36 (.t 3)),
 ⟨none, .cx 36 (.t 2) (.t 24), none⟩] (some [2])) .ret
def WR : R := .seq (.U [ro 20 (.aP 27 (.t 1) 4),
 ro 21 (.aD 25 (.t 20)),
 ro 22 (.call (.f 42) [(.t 21)]),
 ro 23 (.aP 36 (.t 3) 4),
 ⟨none, .cx 25 (.t 23) (.t 22), none⟩] (some [2, 3])) WQ
def WS : R := .seq (.U [ro 16 (.aP 27 (.t 1) 3),
 ro 17 (.aD 25 (.t 16)),
 ro 18 (.call (.f 42) [(.t 17)]),
 ro 19 (.aP 36 (.t 3) 3),
 ⟨none, .cx 25 (.t 19) (.t 18), none⟩] (some [1, 2, 3])) WR
def WT : R := .seq (.U [ro 12 (.aP 27 (.t 1) 2),
 ro 13 (.aD 24 (.t 12)),
 ro 14 (.call (.f 41) [(.t 13)]),
 ro 15 (.aP 36 (.t 3) 2),
 ⟨none, .cx 34 (.t 15) (.t 14), none⟩] (some [1, 2, 3])) WS
def WU : R := .seq (.U [ro 8 (.aP 27 (.t 1) 1),
 ro 9 (.aD 23 (.t 8)),
 ro 10 (.call (.f 40) [(.t 9)]),
 ro 11 (.aP 36 (.t 3) 1),
 ⟨none, .cx 33 (.t 11) (.t 10), none⟩] (some [1, 2, 3])) WT
def WV : R := .seq (.U [ro 4 (.aP 27 (.t 1) 0),
 ro 5 (.aD 22 (.t 4)),
 ro 6 (.call (.f 39) [(.t 5)]),
 ro 7 (.aP 36 (.t 3) 0),
 ⟨none, .cx 32 (.t 7) (.t 6), none⟩] (some [1, 2, 3])) WU
def WW : R := .seq (.U [ro 3 (.eB 36)] (some [1, 2, 3])) WV
def Dr : R := .seq (.U [ro 1 (.c2 27 (.t 0)),
 ro 2 (.eB 36)] (some [1, 2])) WW
theorem ma : bt ⟨25, [0]⟩ (Tryz.f9.body.getD .skip) = some Dr.strip := by kernel_rfl
def WX : R := .seq (.U [ro 3 (.ad (.t 0)),
 ro 4 (.aq .geq 5 (.t 3) (.c (.int .u8 97))),
 ro 5 (.ad (.t 4)),
 ⟨some 6, .ad (.t 0), some (5, true)⟩,
 ⟨some 7, .aq .leq 5 (.t 6) (.c (.int .u8 122)), some (5, true)⟩,
 ro 8 (.pick (.t 5) (.t 7) (.c (.bool false))),
 ro 2 (.af (.t 8))] (some [2])) .ret
def WY : R := .seq (.U [ro 2 (.af (.c (.bool false)))] (some [0])) WX
theorem WZ : bt ⟨9, [0]⟩ (Tryz.f196.body.getD .skip) = some WY.strip := by kernel_rfl
def W0 : R := .seq (.U [ro 3 (.ad (.t 0)),
 ro 4 (.aq .geq 5 (.t 3) (.c (.int .u8 48))),
 ro 5 (.ad (.t 4)),
 ⟨some 6, .ad (.t 0), some (5, true)⟩,
 ⟨some 7, .aq .leq 5 (.t 6) (.c (.int .u8 57)), some (5, true)⟩,
 ro 8 (.pick (.t 5) (.t 7) (.c (.bool false))),
 ro 2 (.af (.t 8))] (some [2])) .ret
def W1 : R := .seq (.U [ro 2 (.af (.c (.bool false)))] (some [0])) W0
theorem W2 : bt ⟨9, [0]⟩ (Tryz.f197.body.getD .skip) = some W1.strip := by kernel_rfl
def W3 : R := .seq (.U [ro 2 (.af (.c (.bool false)))] (some [2])) .ret
def W4 : R := .cond (.t 16) W3 .skip
def W5 : R := .cond (.t 20) .skip (.exit 0)
def W6 : R := .seq (.U [ro 2 (.af (.c (.bool false)))] (some [2])) .ret
def W7 : R := .cond (.t 34) W6 .skip
def W8 : R := .U [ro 21 (.ad (.t 3)),
 ro 22 (.aq .add 3 (.t 21) (.c (.int .i64 1))),
 ro 3 (.af (.t 22))] (some [0, 3])
def W9 : R := .seq (.block 1 (.seq (.U [ro 23 (.ad (.t 0)),
 ro 24 (.ad (.t 3)),
 ro 25 (.idx 9 (.t 23) (.t 24)),
 ro 26 (.call (.f 196) [(.t 25)]),
 ro 27 (.un .not (.t 26)),
 ro 28 (.ad (.t 27)),
 ⟨some 29, .ad (.t 0), some (28, true)⟩,
 ⟨some 30, .ad (.t 3), some (28, true)⟩,
 ⟨some 31, .idx 9 (.t 29) (.t 30), some (28, true)⟩,
 ⟨some 32, .call (.f 197) [(.t 31)], some (28, true)⟩,
 ⟨some 33, .un .not (.t 32), some (28, true)⟩,
 ro 34 (.pick (.t 28) (.t 33) (.c (.bool false)))] (some [0, 3, 34])) W7)) W8
def Ky : R := .seq (.seq (.U [ro 17 (.ad (.t 3)),
 ro 18 (.ad (.t 0)),
 ro 19 (.len 9 (.t 18)),
 ro 20 (.aq .lss 3 (.t 17) (.t 19))] (some [0, 3, 20])) W5) W9
def W_ : R := .block 0 (.loop Ky)
def Xa : R := .seq (.U [ro 2 (.af (.c (.bool true)))] (some [2])) .ret
def Xb : R := .seq (.seq (.U [ro 3 (.af (.c (.int .i64 0)))] (some [0, 3])) W_) Xa
def Xc : R := .seq (.seq (.U [ro 4 (.ad (.t 0)),
 ro 5 (.aq .eql 9 (.t 4) (.c (.str []))),
 ro 6 (.ad (.t 5)),
 ⟨some 7, .ad (.t 0), some (6, false)⟩,
 ⟨some 8, .len 9 (.t 7), some (6, false)⟩,
 ⟨some 9, .aq .gtr 3 (.t 8) (.c (.int .i64 10)), some (6, false)⟩,
 ro 10 (.pick (.t 6) (.c (.bool true)) (.t 9)),
 ro 11 (.ad (.t 10)),
 ⟨some 12, .ad (.t 0), some (11, false)⟩,
 ⟨some 13, .idx 9 (.t 12) (.c (.int .i64 0)), some (11, false)⟩,
 ⟨some 14, .call (.f 196) [(.t 13)], some (11, false)⟩,
 ⟨some 15, .un .not (.t 14), some (11, false)⟩,
 ro 16 (.pick (.t 11) (.c (.bool true)) (.t 15))] (some [0, 16])) W4) Xb
def Xd : R := .seq (.U [ro 2 (.af (.c (.bool false)))] (some [0])) Xc
theorem Xe : bt ⟨35, [0]⟩ (Tryz.f161.body.getD .skip) = some Xd.strip := by kernel_rfl
def Xf : R := .seq (.U [ro 7 (.ad (.t 0)),
 ro 8 (.ad (.t 1)),
 ro 9 (.aq .geq 2 (.t 7) (.t 8)),
 ro 10 (.ad (.t 9)),
 ⟨some 11, .ad (.t 0), some (10, true)⟩,
 ⟨some 12, .ad (.t 2), some (10, true)⟩,
 ⟨some 13, .aq .leq 2 (.t 11) (.t 12), some (10, true)⟩,
 ro 14 (.pick (.t 10) (.t 13) (.c (.bool false))),
 ro 6 (.af (.t 14))] (some [6])) .ret
def Xg : R := .seq (.U [ro 6 (.af (.c (.bool false)))] (some [0, 1, 2])) Xf
theorem Xh : bt ⟨15, [0, 1, 2]⟩ (Tryz.f87.body.getD .skip) = some Xg.strip := by kernel_rfl
def Xi : R := .U [ro 10 (.aq .eql 2 (.t 6) (.c (.int .i64 4))),
 ro 7 (.af (.t 10))] (some [6, 7])
def Xj : R := .cond (.t 7) .skip Xi
def Xk : R := .seq (.U [ro 9 (.aq .eql 2 (.t 6) (.c (.int .i64 3))),
 ro 7 (.af (.t 9))] (some [6, 7])) Xj
def Xl : R := .cond (.t 7) .skip Xk
def Xm : R := .seq (.U [ro 2 (.af (.c (.int .i64 1)))] (some [2])) .ret
def Xn : R := .seq (.U [ro 2 (.af (.c (.int .i64 2)))] (some [2])) .ret
def Xo : R := .cond (.t 11) Xn .skip
def Xp : R := .seq (.U [ro 12 (.aq .eql 2 (.t 6) (.c (.int .i64 2))),
 ro 11 (.af (.t 12))] (some [11])) Xo
def Kz : R := .cond (.t 7) Xm Xp
def Xq : R := .block 0 (.seq (.seq (.U [ro 8 (.aq .eql 2 (.t 6) (.c (.int .i64 1))),
 ro 7 (.af (.t 8))] (some [6, 7])) Xl) Kz)
def Xr : R := .seq (.U [ro 2 (.af (.c (.int .i64 0)))] (some [2])) .ret
def Xs : R := .seq (.seq (.U [ro 3 (.ad (.t 0)),
 ro 4 (.dN (.t 3)),
 ro 5 (.aP 122 (.t 4) 0),
 ro 6 (.aD 2 (.t 5))] (some [6])) Xq) Xr
def Xt : R := .seq (.U [ro 2 (.af (.c (.int .i64 0)))] (some [0])) Xs
theorem Xu : bt ⟨13, [0]⟩ (Tryz.f216.body.getD .skip) = some Xt.strip := by kernel_rfl
def Xv : R := .seq (.U [ro 2 (.af (.c (.bool false)))] (some [2])) .ret
def Xw : R := .cond (.t 12) Xv .skip
def Xx : R := .cond (.t 16) .skip (.exit 0)
def Xy : R := .seq (.U [ro 2 (.af (.c (.bool false)))] (some [2])) .ret
def Xz : R := .cond (.t 20) Xy .skip
def XA : R := .U [ro 21 (.ad (.t 3)),
 ro 22 (.ad (.t 0)),
 ro 23 (.ad (.t 4)),
 ro 24 (.bJ 117 (.t 22) (.t 23)),
 ro 25 (.call (.f 216) [(.t 24)]),
 ro 26 (.aq .sub 2 (.t 25) (.c (.int .i64 1))),
 ro 27 (.aq .add 2 (.t 21) (.t 26)),
 ro 3 (.af (.t 27))] (some [0, 3, 4])
def XB : R := .U [ro 17 (.ad (.t 4)),
 ro 18 (.aq .add 3 (.t 17) (.c (.int .i64 1))),
 ro 4 (.af (.t 18))] (some [0, 3, 4])
def XC : R := .seq (.block 1 (.seq (.seq (.U [ro 19 (.ad (.t 3)),
 ro 20 (.aq .eql 2 (.t 19) (.c (.int .i64 0)))] (some [0, 3, 4, 20])) Xz) XA)) XB
def KA : R := .seq (.seq (.U [ro 13 (.ad (.t 4)),
 ro 14 (.ad (.t 0)),
 ro 15 (.len 117 (.t 14)),
 ro 16 (.aq .lss 3 (.t 13) (.t 15))] (some [0, 3, 4, 16])) Xx) XC
def XD : R := .block 0 (.loop KA)
def XE : R := .seq (.U [ro 28 (.ad (.t 3)),
 ro 29 (.aq .eql 2 (.t 28) (.c (.int .i64 0))),
 ro 2 (.af (.t 29))] (some [2])) .ret
def XF : R := .seq (.seq (.U [ro 4 (.af (.c (.int .i64 0)))] (some [0, 3, 4])) XD) XE
def XG : R := .seq (.U [ro 3 (.af (.c (.int .i64 1)))] (some [0, 3])) XF
def XH : R := .seq (.seq (.U [ro 5 (.ad (.t 0)),
 ro 6 (.len 117 (.t 5)),
 ro 7 (.aq .eql 3 (.t 6) (.c (.int .i64 0))),
 ro 8 (.ad (.t 7)),
 ⟨some 9, .ad (.t 0), some (8, false)⟩,
 ⟨some 10, .len 117 (.t 9), some (8, false)⟩,
 ⟨some 11, .aq .gtr 3 (.t 10) (.c (.int .i64 20)), some (8, false)⟩,
 ro 12 (.pick (.t 8) (.c (.bool true)) (.t 11))] (some [0, 12])) Xw) XG
def XI : R := .seq (.U [ro 2 (.af (.c (.bool false)))] (some [0])) XH
theorem XJ : bt ⟨30, [0]⟩ (Tryz.f198.body.getD .skip) = some XI.strip := by kernel_rfl
def XK : R := .U [ro 9 (.aq .eql 2 (.t 6) (.c (.int .i64 2))),
 ro 7 (.af (.t 9))] (some [0, 6, 7])
def XL : R := .cond (.t 7) .skip XK
def XM : R := .seq (.U [ro 10 (.ad (.t 0)),
 ro 11 (.dN (.t 10)),
 ro 12 (.aP 122 (.t 11) 1),
 ro 13 (.aD 2 (.t 12)),
 ro 14 (.aq .eql 2 (.t 13) (.c (.int .i64 0))),
 ro 15 (.ad (.t 14)),
 ⟨some 16, .ad (.t 0), some (15, true)⟩,
 ⟨some 17, .dN (.t 16), some (15, true)⟩,
 ⟨some 18, .aP 122 (.t 17) 2, some (15, true)⟩,
 ⟨some 19, .aD 9 (.t 18), some (15, true)⟩,
 ⟨some 20, .aq .eql 9 (.t 19) (.c (.str [])), some (15, true)⟩,
 ro 21 (.pick (.t 15) (.t 20) (.c (.bool false))),
 ro 22 (.ad (.t 21)),
 ⟨some 23, .ad (.t 0), some (22, true)⟩,
 ⟨some 24, .dN (.t 23), some (22, true)⟩,
 ⟨some 25, .aP 122 (.t 24) 3, some (22, true)⟩,
 ⟨some 26, .aD 120 (.t 25), some (22, true)⟩,
 ⟨some 27, .len 120 (.t 26), some (22, true)⟩,
 ⟨some 28, .aq .eql 3 (.t 27) (.c (.int .i64 0)), some (22, true)⟩,
 ro 29 (.pick (.t 22) (.t 28) (.c (.bool false))),
 ro 2 (.af (.t 29))] (some [2])) .ret
def XN : R := .seq (.U [ro 32 (.ad (.t 0)),
 ro 33 (.dN (.t 32)),
 ro 34 (.aP 122 (.t 33) 1),
 ro 35 (.aD 2 (.t 34)),
 ro 36 (.aq .eql 2 (.t 35) (.c (.int .i64 0))),
 ro 2 (.af (.t 36))] (some [2])) .ret
def XO : R := .seq (.U [ro 39 (.ad (.t 0)),
 ro 40 (.dN (.t 39)),
 ro 41 (.aP 122 (.t 40) 1),
 ro 42 (.aD 2 (.t 41)),
 ro 43 (.aq .eql 2 (.t 42) (.c (.int .i64 0))),
 ro 44 (.ad (.t 43)),
 ⟨some 45, .ad (.t 0), some (44, true)⟩,
 ⟨some 46, .dN (.t 45), some (44, true)⟩,
 ⟨some 47, .aP 122 (.t 46) 2, some (44, true)⟩,
 ⟨some 48, .aD 9 (.t 47), some (44, true)⟩,
 ⟨some 49, .aq .eql 9 (.t 48) (.c (.str [])), some (44, true)⟩,
 ro 50 (.pick (.t 44) (.t 49) (.c (.bool false))),
 ro 2 (.af (.t 50))] (some [2])) .ret
def XP : R := .seq (.U [ro 53 (.ad (.t 0)),
 ro 54 (.dN (.t 53)),
 ro 55 (.aP 122 (.t 54) 2),
 ro 56 (.aD 9 (.t 55)),
 ro 57 (.aq .eql 9 (.t 56) (.c (.str []))),
 ro 58 (.ad (.t 57)),
 ⟨some 59, .ad (.t 0), some (58, true)⟩,
 ⟨some 60, .dN (.t 59), some (58, true)⟩,
 ⟨some 61, .aP 122 (.t 60) 3, some (58, true)⟩,
 ⟨some 62, .aD 120 (.t 61), some (58, true)⟩,
 ⟨some 63, .len 120 (.t 62), some (58, true)⟩,
 ⟨some 64, .aq .eql 3 (.t 63) (.c (.int .i64 0)), some (58, true)⟩,
 ro 65 (.pick (.t 58) (.t 64) (.c (.bool false))),
 ro 2 (.af (.t 65))] (some [2])) .ret
def XQ : R := .seq (.U [ro 68 (.ad (.t 0)),
 ro 69 (.dN (.t 68)),
 ro 70 (.aP 122 (.t 69) 2),
 ro 71 (.aD 9 (.t 70)),
 ro 72 (.aq .eql 9 (.t 71) (.c (.str []))),
 ro 2 (.af (.t 72))] (some [2])) .ret
def XR : R := .cond (.t 66) XQ .skip
def XS : R := .seq (.U [ro 67 (.aq .eql 2 (.t 6) (.c (.int .i64 5))),
 ro 66 (.af (.t 67))] (some [0, 66])) XR
def XT : R := .cond (.t 51) XP XS
def XU : R := .seq (.U [ro 52 (.aq .eql 2 (.t 6) (.c (.int .i64 4))),
 ro 51 (.af (.t 52))] (some [0, 6, 51])) XT
def XV : R := .cond (.t 37) XO XU
def XW : R := .seq (.U [ro 38 (.aq .eql 2 (.t 6) (.c (.int .i64 3))),
 ro 37 (.af (.t 38))] (some [0, 6, 37])) XV
def XX : R := .cond (.t 30) XN XW
def XY : R := .seq (.U [ro 31 (.aq .eql 2 (.t 6) (.c (.int .i64 1))),
 ro 30 (.af (.t 31))] (some [0, 6, 30])) XX
def KB : R := .cond (.t 7) XM XY
def XZ : R := .block 0 (.seq (.seq (.U [ro 8 (.aq .eql 2 (.t 6) (.c (.int .i64 0))),
 ro 7 (.af (.t 8))] (some [0, 6, 7])) XL) KB)
def X0 : R := .seq (.U [ro 2 (.af (.c (.bool false)))] (some [2])) .ret
def X1 : R := .seq (.seq (.U [ro 3 (.ad (.t 0)),
 ro 4 (.dN (.t 3)),
 ro 5 (.aP 122 (.t 4) 0),
 ro 6 (.aD 2 (.t 5))] (some [0, 6])) XZ) X0
def X2 : R := .seq (.U [ro 2 (.af (.c (.bool false)))] (some [0])) X1
theorem X3 : bt ⟨73, [0]⟩ (Tryz.f217.body.getD .skip) = some X2.strip := by kernel_rfl
def X4 : R := .cond (.t 7) .skip (.exit 0)
def X5 : R := .U [ro 15 (.ad (.t 1)),
 ro 16 (.aq .add 2 (.t 15) (.c (.int .i64 1))),
 ro 1 (.af (.t 16))] (some [0, 1, 5])
def X6 : R := .block 1 (.seq (.U [ro 8 (.ad (.t 5)),
 ro 9 (.ad (.t 0)),
 ro 10 (.ad (.t 1)),
 ro 11 (.bJ 117 (.t 9) (.t 10)),
 ro 12 (.call (.f 216) [(.t 11)]),
 ro 13 (.aq .sub 2 (.t 12) (.c (.int .i64 1))),
 ro 14 (.aq .add 2 (.t 8) (.t 13)),
 ro 5 (.af (.t 14))] (some [0, 1, 5])) X5)
def KC : R := .seq (.seq (.U [ro 6 (.ad (.t 5)),
 ro 7 (.aq .gtr 2 (.t 6) (.c (.int .i64 0)))] (some [0, 1, 5, 7])) X4) X6
def X7 : R := .seq (.U [ro 17 (.ad (.t 1)),
 ro 4 (.af (.t 17))] (some [4])) .ret
def X8 : R := .seq (.block 0 (.loop KC)) X7
def X9 : R := .seq (.U [ro 5 (.af (.c (.int .i64 1)))] (some [0, 1, 5])) X8
def X_ : R := .seq (.U [ro 4 (.af (.c (.int .i64 0)))] (some [0, 1])) X9
theorem Ya : bt ⟨18, [0]⟩ (Tryz.f224.body.getD .skip) = some X_.strip := by kernel_rfl
def Yb : R := .cond (.t 13) .skip (.exit 0)
def Yc : R := .U [ro 35 (.ad (.t 5)),
 ro 36 (.aq .add 2 (.t 35) (.c (.int .i64 1))),
 ro 5 (.af (.t 36))] (some [0, 1, 5, 6])
def Yd : R := .cond (.t 34) Yc .skip
def KD : R := .U [ro 14 (.ad (.t 6)),
 ro 15 (.aq .add 2 (.t 14) (.c (.int .i64 1))),
 ro 6 (.af (.t 15))] (some [0, 1, 5, 6])
def Ye : R := .seq (.block 1 (.seq (.U [ro 16 (.ad (.t 0)),
 ro 17 (.dN (.t 16)),
 ro 18 (.aP 119 (.t 17) 2),
 ro 19 (.aD 117 (.t 18)),
 ro 20 (.ad (.t 6)),
 ro 21 (.bJ 117 (.t 19) (.t 20)),
 ro 22 (.aP 122 (.t 21) 0),
 ro 23 (.aD 2 (.t 22)),
 ro 24 (.aq .eql 2 (.t 23) (.c (.int .i64 4))),
 ro 25 (.ad (.t 24)),
 ⟨some 26, .ad (.t 0), some (25, true)⟩,
 ⟨some 27, .dN (.t 26), some (25, true)⟩,
 ⟨some 28, .aP 119 (.t 27) 2, some (25, true)⟩,
 ⟨some 29, .aD 117 (.t 28), some (25, true)⟩,
 ⟨some 30, .ad (.t 6), some (25, true)⟩,
 ⟨some 31, .call (.f 224) [(.t 29), (.t 30)], some (25, true)⟩,
 ⟨some 32, .ad (.t 1), some (25, true)⟩,
 ⟨some 33, .aq .gtr 2 (.t 31) (.t 32), some (25, true)⟩,
 ro 34 (.pick (.t 25) (.t 33) (.c (.bool false)))] (some [0, 1, 5, 6, 34])) Yd)) KD
def KE : R := .seq (.seq (.U [ro 11 (.ad (.t 6)),
 ro 12 (.ad (.t 1)),
 ro 13 (.aq .lss 2 (.t 11) (.t 12))] (some [0, 1, 5, 6, 13])) Yb) Ye
def Yf : R := .block 0 (.loop KE)
def Yg : R := .seq (.U [ro 37 (.ad (.t 5)),
 ro 4 (.af (.t 37))] (some [4])) .ret
def Yh : R := .seq (.seq (.U [ro 6 (.af (.c (.int .i64 0)))] (some [0, 1, 5, 6])) Yf) Yg
def Yi : R := .seq (.U [ro 7 (.ad (.t 0)),
 ro 8 (.dN (.t 7)),
 ro 9 (.aP 119 (.t 8) 1),
 ro 10 (.aD 2 (.t 9)),
 ro 5 (.af (.t 10))] (some [0, 1, 5])) Yh
def Yj : R := .seq (.U [ro 4 (.af (.c (.int .i64 0)))] (some [0, 1])) Yi
theorem Yk : bt ⟨38, [0, 1]⟩ (Tryz.f218.body.getD .skip) = some Yj.strip := by kernel_rfl
def Yl : R := .seq (.U [ro 11 (.ad (.t 0)),
 ro 12 (.dN (.t 11)),
 ro 13 (.aP 191 (.t 12) 1),
 ro 14 (.aD 2 (.t 13)),
 ro 15 (.call (.f 87) [(.t 14), (.c (.int .i64 0)), (.c (.int .i64 63))]),
 ro 4 (.af (.t 15))] (some [4])) .ret
def Ym : R := .seq (.U [ro 18 (.ad (.t 0)),
 ro 19 (.dN (.t 18)),
 ro 20 (.aP 191 (.t 19) 1),
 ro 21 (.aD 2 (.t 20)),
 ro 22 (.ad (.t 1)),
 ro 23 (.aq .sub 2 (.t 22) (.c (.int .i64 1))),
 ro 24 (.call (.f 87) [(.t 21), (.c (.int .i64 0)), (.t 23)]),
 ro 4 (.af (.t 24))] (some [4])) .ret
def Yn : R := .seq (.U [ro 27 (.ad (.t 0)),
 ro 28 (.dN (.t 27)),
 ro 29 (.aP 191 (.t 28) 1),
 ro 30 (.aD 2 (.t 29)),
 ro 31 (.call (.f 87) [(.t 30), (.c (.int .i64 0)), (.c (.int .i64 8))]),
 ro 4 (.af (.t 31))] (some [4])) .ret
def Yo : R := .seq (.U [ro 34 (.ad (.t 0)),
 ro 35 (.dN (.t 34)),
 ro 36 (.aP 191 (.t 35) 1),
 ro 37 (.aD 2 (.t 36)),
 ro 38 (.aq .eql 2 (.t 37) (.c (.int .i64 0))),
 ro 4 (.af (.t 38))] (some [4])) .ret
def Yp : R := .cond (.t 32) Yo .skip
def Yq : R := .seq (.U [ro 33 (.aq .eql 2 (.t 8) (.c (.int .i64 3))),
 ro 32 (.af (.t 33))] (some [0, 32])) Yp
def Yr : R := .cond (.t 25) Yn Yq
def Ys : R := .seq (.U [ro 26 (.aq .eql 2 (.t 8) (.c (.int .i64 2))),
 ro 25 (.af (.t 26))] (some [0, 8, 25])) Yr
def Yt : R := .cond (.t 16) Ym Ys
def Yu : R := .seq (.U [ro 17 (.aq .eql 2 (.t 8) (.c (.int .i64 1))),
 ro 16 (.af (.t 17))] (some [0, 1, 8, 16])) Yt
def Yv : R := .cond (.t 9) Yl Yu
def Yw : R := .block 0 (.seq (.U [ro 10 (.aq .eql 2 (.t 8) (.c (.int .i64 0))),
 ro 9 (.af (.t 10))] (some [0, 1, 8, 9])) Yv)
def Yx : R := .seq (.U [ro 4 (.af (.c (.bool false)))] (some [4])) .ret
def Yy : R := .seq (.seq (.U [ro 5 (.ad (.t 0)),
 ro 6 (.dN (.t 5)),
 ro 7 (.aP 191 (.t 6) 0),
 ro 8 (.aD 2 (.t 7))] (some [0, 1, 8])) Yw) Yx
def Yz : R := .seq (.U [ro 4 (.af (.c (.bool false)))] (some [0, 1])) Yy
theorem YA : bt ⟨39, [0, 1]⟩ (Tryz.f175.body.getD .skip) = some Yz.strip := by kernel_rfl
def YB : R := .seq (.U [ro 2 (.af (.c (.int .i64 2)))] (some [2])) .ret
def YC : R := .seq (.U [ro 2 (.af (.c (.int .i64 1)))] (some [2])) .ret
def YD : R := .cond (.t 9) YC .skip
def YE : R := .seq (.U [ro 10 (.aq .eql 2 (.t 6) (.c (.int .i64 3))),
 ro 9 (.af (.t 10))] (some [9])) YD
def YF : R := .cond (.t 7) YB YE
def YG : R := .block 0 (.seq (.U [ro 8 (.aq .eql 2 (.t 6) (.c (.int .i64 2))),
 ro 7 (.af (.t 8))] (some [6, 7])) YF)
def YH : R := .seq (.U [ro 2 (.af (.c (.int .i64 0)))] (some [2])) .ret
def YI : R := .seq (.seq (.U [ro 3 (.ad (.t 0)),
 ro 4 (.dN (.t 3)),
 ro 5 (.aP 191 (.t 4) 0),
 ro 6 (.aD 2 (.t 5))] (some [6])) YG) YH
def YJ : R := .seq (.U [ro 2 (.af (.c (.int .i64 0)))] (some [0])) YI
theorem YK : bt ⟨11, [0]⟩ (Tryz.f176.body.getD .skip) = some YJ.strip := by kernel_rfl
def YL : R := .seq (.U [ro 6 (.af (.c (.bool false)))] (some [6])) .ret
def YM : R := .cond (.t 12) YL .skip
def YN : R := .cond (.t 16) .skip (.exit 0)
def YO : R := .seq (.U [ro 6 (.af (.c (.bool false)))] (some [6])) .ret
def YP : R := .cond (.t 28) YO .skip
def YQ : R := .U [ro 29 (.ad (.t 7)),
 ro 30 (.ad (.t 0)),
 ro 31 (.ad (.t 8)),
 ro 32 (.bJ 147 (.t 30) (.t 31)),
 ro 33 (.call (.f 176) [(.t 32)]),
 ro 34 (.aq .sub 2 (.t 33) (.c (.int .i64 1))),
 ro 35 (.aq .add 2 (.t 29) (.t 34)),
 ro 7 (.af (.t 35))] (some [0, 1, 7, 8])
def YR : R := .U [ro 17 (.ad (.t 8)),
 ro 18 (.aq .add 3 (.t 17) (.c (.int .i64 1))),
 ro 8 (.af (.t 18))] (some [0, 1, 7, 8])
def YS : R := .seq (.block 1 (.seq (.seq (.U [ro 19 (.ad (.t 7)),
 ro 20 (.aq .eql 2 (.t 19) (.c (.int .i64 0))),
 ro 21 (.ad (.t 20)),
 ⟨some 22, .ad (.t 0), some (21, false)⟩,
 ⟨some 23, .ad (.t 8), some (21, false)⟩,
 ⟨some 24, .bJ 147 (.t 22) (.t 23), some (21, false)⟩,
 ⟨some 25, .ad (.t 1), some (21, false)⟩,
 ⟨some 26, .call (.f 175) [(.t 24), (.t 25)], some (21, false)⟩,
 ⟨some 27, .un .not (.t 26), some (21, false)⟩,
 ro 28 (.pick (.t 21) (.c (.bool true)) (.t 27))] (some [0, 1, 7, 8, 28])) YP) YQ)) YR
def KF : R := .seq (.seq (.U [ro 13 (.ad (.t 8)),
 ro 14 (.ad (.t 0)),
 ro 15 (.len 147 (.t 14)),
 ro 16 (.aq .lss 3 (.t 13) (.t 15))] (some [0, 1, 7, 8, 16])) YN) YS
def YT : R := .block 0 (.loop KF)
def YU : R := .seq (.U [ro 36 (.ad (.t 7)),
 ro 37 (.aq .eql 2 (.t 36) (.c (.int .i64 0))),
 ro 6 (.af (.t 37))] (some [6])) .ret
def YV : R := .seq (.seq (.U [ro 8 (.af (.c (.int .i64 0)))] (some [0, 1, 7, 8])) YT) YU
def YW : R := .seq (.U [ro 7 (.af (.c (.int .i64 1)))] (some [0, 1, 7])) YV
def YX : R := .seq (.seq (.U [ro 9 (.ad (.t 0)),
 ro 10 (.len 147 (.t 9)),
 ro 11 (.ad (.t 2)),
 ro 12 (.aq .gtr 2 (.t 10) (.t 11))] (some [0, 1, 12])) YM) YW
def YY : R := .seq (.U [ro 6 (.af (.c (.bool false)))] (some [0, 1, 2])) YX
theorem YZ : bt ⟨38, [0, 1, 2]⟩ (Tryz.f140.body.getD .skip) = some YY.strip := by kernel_rfl
def Y0 : R := .seq (.U [ro 6 (.af (.c (.int .i64 2)))] (some [6])) .ret
def Y1 : R := .cond (.t 19) Y0 .skip
def Y2 : R := .seq (.U [ro 6 (.af (.c (.int .i64 3)))] (some [6])) .ret
def KG : R := .cond (.t 28) Y2 .skip
def Y3 : R := .seq (.U [ro 6 (.af (.c (.int .i64 4)))] (some [6])) .ret
def KH : R := .cond (.t 51) Y3 .skip
def Y4 : R := .seq (.U [ro 6 (.af (.c (.int .i64 5)))] (some [6])) .ret
def Y5 : R := .cond (.t 69) Y4 .skip
def Y6 : R := .seq (.U [ro 59 (.ad (.t 8)),
 ro 60 (.aq .gtr 2 (.t 59) (.c (.int .i64 2))),
 ro 61 (.ad (.t 60)),
 ⟨some 62, .ad (.t 8), some (61, false)⟩,
 ⟨some 63, .aq .gtr 2 (.t 62) (.c (.int .i64 0)), some (61, false)⟩,
 ⟨some 64, .ad (.t 63), some (61, false)⟩,
 ⟨some 65, .aP 122 (.t 7) 2, some (64, true)⟩,
 ⟨some 66, .aD 9 (.t 65), some (64, true)⟩,
 ⟨some 67, .aq .eql 9 (.t 66) (.c (.str [116, 97, 117])), some (64, true)⟩,
 ⟨some 68, .pick (.t 64) (.t 67) (.c (.bool false)), some (61, false)⟩,
 ro 69 (.pick (.t 61) (.c (.bool true)) (.t 68))] (some [1, 2, 7, 8, 69])) Y5
def Y7 : R := .seq (.U [ro 6 (.af (.c (.int .i64 5)))] (some [6])) .ret
def Y8 : R := .cond (.t 73) Y7 .skip
def Y9 : R := .seq (.U [ro 72 (.ad (.t 8)),
 ro 73 (.aq .neq 2 (.t 72) (.c (.int .i64 1)))] (some [1, 2, 7, 8, 73])) Y8
def Y_ : R := .seq (.U [ro 6 (.af (.c (.int .i64 5)))] (some [6])) .ret
def Za : R := .cond (.t 83) Y_ .skip
def Zb : R := .seq (.U [ro 76 (.ad (.t 8)),
 ro 77 (.ad (.t 0)),
 ro 78 (.aP 122 (.t 7) 1),
 ro 79 (.aD 2 (.t 78)),
 ro 80 (.bJ 32 (.t 77) (.t 79)),
 ro 81 (.aP 119 (.t 80) 1),
 ro 82 (.aD 2 (.t 81)),
 ro 83 (.aq .neq 2 (.t 76) (.t 82))] (some [1, 2, 7, 8, 83])) Za
def Zc : R := .cond (.t 74) Zb .skip
def Zd : R := .seq (.U [ro 75 (.aq .eql 2 (.t 56) (.c (.int .i64 5))),
 ro 74 (.af (.t 75))] (some [0, 1, 2, 7, 8, 74])) Zc
def Ze : R := .cond (.t 70) Y9 Zd
def Zf : R := .seq (.U [ro 71 (.aq .eql 2 (.t 56) (.c (.int .i64 3))),
 ro 70 (.af (.t 71))] (some [0, 1, 2, 7, 8, 56, 70])) Ze
def Zg : R := .cond (.t 57) Y6 Zf
def Zh : R := .block 0 (.seq (.U [ro 58 (.aq .eql 2 (.t 56) (.c (.int .i64 1))),
 ro 57 (.af (.t 58))] (some [0, 1, 2, 7, 8, 56, 57])) Zg)
def Zi : R := .seq (.U [ro 6 (.af (.c (.int .i64 6)))] (some [6])) .ret
def KI : R := .cond (.t 102) Zi .skip
def Zj : R := .seq (.U [ro 6 (.af (.c (.int .i64 7)))] (some [6])) .ret
def Zk : R := .cond (.t 112) Zj .skip
def Zl : R := .cond (.t 115) .skip (.exit 1)
def Zm : R := .seq (.U [ro 6 (.af (.c (.int .i64 8)))] (some [6])) .ret
def Zn : R := .cond (.t 125) Zm .skip
def Zo : R := .U [ro 116 (.ad (.t 10)),
 ro 117 (.aq .add 2 (.t 116) (.c (.int .i64 1))),
 ro 10 (.af (.t 117))] (some [7, 8, 9, 10])
def Zp : R := .seq (.block 2 (.seq (.U [ro 118 (.aP 122 (.t 7) 3),
 ro 119 (.aD 120 (.t 118)),
 ro 120 (.ad (.t 10)),
 ro 121 (.bJ 120 (.t 119) (.t 120)),
 ro 122 (.aD 147 (.t 121)),
 ro 123 (.ad (.t 9)),
 ro 124 (.call (.f 140) [(.t 122), (.t 123), (.c (.int .i64 15))]),
 ro 125 (.un .not (.t 124))] (some [7, 8, 9, 10, 125])) Zn)) Zo
def KJ : R := .seq (.seq (.U [ro 113 (.ad (.t 10)),
 ro 114 (.ad (.t 8)),
 ro 115 (.aq .lss 2 (.t 113) (.t 114))] (some [7, 8, 9, 10, 115])) Zl) Zp
def Zq : R := .block 1 (.loop KJ)
def Zr : R := .seq (.U [ro 6 (.af (.c (.int .i64 0)))] (some [6])) .ret
def Zs : R := .seq (.seq (.U [ro 10 (.af (.c (.int .i64 0)))] (some [7, 8, 9, 10])) Zq) Zr
def Zt : R := .seq (.seq (.U [ro 106 (.aP 122 (.t 7) 0),
 ro 107 (.aD 2 (.t 106)),
 ro 108 (.aq .eql 2 (.t 107) (.c (.int .i64 4))),
 ro 109 (.ad (.t 108)),
 ⟨some 110, .ad (.t 9), some (109, true)⟩,
 ⟨some 111, .aq .geq 2 (.t 110) (.c (.int .i64 6)), some (109, true)⟩,
 ro 112 (.pick (.t 109) (.t 111) (.c (.bool false)))] (some [7, 8, 9, 112])) Zk) Zs
def Zu : R := .seq (.U [ro 103 (.ad (.t 1)),
 ro 104 (.ad (.t 2)),
 ro 105 (.call (.f 218) [(.t 103), (.t 104)]),
 ro 9 (.af (.t 105))] (some [7, 8, 9])) Zt
def KK : R := .seq (.seq (.U [ro 84 (.aP 122 (.t 7) 0),
 ro 85 (.aD 2 (.t 84)),
 ro 86 (.aq .eql 2 (.t 85) (.c (.int .i64 5))),
 ro 87 (.ad (.t 86)),
 ⟨some 88, .ad (.t 2), some (87, true)⟩,
 ⟨some 89, .aq .eql 2 (.t 88) (.c (.int .i64 0)), some (87, true)⟩,
 ⟨some 90, .ad (.t 89), some (87, true)⟩,
 ⟨some 91, .ad (.t 1), some (90, false)⟩,
 ⟨some 92, .dN (.t 91), some (90, false)⟩,
 ⟨some 93, .aP 119 (.t 92) 2, some (90, false)⟩,
 ⟨some 94, .aD 117 (.t 93), some (90, false)⟩,
 ⟨some 95, .ad (.t 2), some (90, false)⟩,
 ⟨some 96, .aq .sub 2 (.t 95) (.c (.int .i64 1)), some (90, false)⟩,
 ⟨some 97, .bJ 117 (.t 94) (.t 96), some (90, false)⟩,
 ⟨some 98, .aP 122 (.t 97) 0, some (90, false)⟩,
 ⟨some 99, .aD 2 (.t 98), some (90, false)⟩,
 ⟨some 100, .aq .neq 2 (.t 99) (.c (.int .i64 1)), some (90, false)⟩,
 ⟨some 101, .pick (.t 90) (.c (.bool true)) (.t 100), some (87, true)⟩,
 ro 102 (.pick (.t 87) (.t 101) (.c (.bool false)))] (some [1, 2, 7, 8, 102])) KI) Zu
def Zv : R := .seq (.seq (.U [ro 55 (.aP 122 (.t 7) 0),
 ro 56 (.aD 2 (.t 55))] (some [0, 1, 2, 7, 8, 56])) Zh) KK
def Zw : R := .seq (.U [ro 52 (.aP 122 (.t 7) 3),
 ro 53 (.aD 120 (.t 52)),
 ro 54 (.len 120 (.t 53)),
 ro 8 (.af (.t 54))] (some [0, 1, 2, 7, 8])) Zv
def Zx : R := .seq (.seq (.U [ro 29 (.aP 122 (.t 7) 0),
 ro 30 (.aD 2 (.t 29)),
 ro 31 (.aq .eql 2 (.t 30) (.c (.int .i64 4))),
 ro 32 (.ad (.t 31)),
 ⟨some 33, .aP 122 (.t 7) 1, some (32, true)⟩,
 ⟨some 34, .aD 2 (.t 33), some (32, true)⟩,
 ⟨some 35, .call (.f 87) [(.t 34), (.c (.int .i64 1)), (.c (.int .i64 7))], some (32, true)⟩,
 ⟨some 36, .un .not (.t 35), some (32, true)⟩,
 ro 37 (.pick (.t 32) (.t 36) (.c (.bool false))),
 ro 38 (.ad (.t 37)),
 ⟨some 39, .aP 122 (.t 7) 0, some (38, false)⟩,
 ⟨some 40, .aD 2 (.t 39), some (38, false)⟩,
 ⟨some 41, .aq .eql 2 (.t 40) (.c (.int .i64 5)), some (38, false)⟩,
 ⟨some 42, .ad (.t 41), some (38, false)⟩,
 ⟨some 43, .aP 122 (.t 7) 1, some (42, true)⟩,
 ⟨some 44, .aD 2 (.t 43), some (42, true)⟩,
 ⟨some 45, .ad (.t 0), some (42, true)⟩,
 ⟨some 46, .len 32 (.t 45), some (42, true)⟩,
 ⟨some 47, .aq .sub 2 (.t 46) (.c (.int .i64 1)), some (42, true)⟩,
 ⟨some 48, .call (.f 87) [(.t 44), (.c (.int .i64 0)), (.t 47)], some (42, true)⟩,
 ⟨some 49, .un .not (.t 48), some (42, true)⟩,
 ⟨some 50, .pick (.t 42) (.t 49) (.c (.bool false)), some (38, false)⟩,
 ro 51 (.pick (.t 38) (.c (.bool true)) (.t 50))] (some [0, 1, 2, 7, 51])) KH) Zw
def Zy : R := .seq (.seq (.U [ro 20 (.aP 122 (.t 7) 0),
 ro 21 (.aD 2 (.t 20)),
 ro 22 (.aq .eql 2 (.t 21) (.c (.int .i64 1))),
 ro 23 (.ad (.t 22)),
 ⟨some 24, .aP 122 (.t 7) 2, some (23, true)⟩,
 ⟨some 25, .aD 9 (.t 24), some (23, true)⟩,
 ⟨some 26, .call (.f 161) [(.t 25)], some (23, true)⟩,
 ⟨some 27, .un .not (.t 26), some (23, true)⟩,
 ro 28 (.pick (.t 23) (.t 27) (.c (.bool false)))] (some [0, 1, 2, 7, 28])) KG) Zx
def Zz : R := .seq (.seq (.U [ro 18 (.call (.f 217) [(.t 7)]),
 ro 19 (.un .not (.t 18))] (some [0, 1, 2, 7, 19])) Y1) Zy
def ZA : R := .seq (.U [ro 11 (.ad (.t 1)),
 ro 12 (.dN (.t 11)),
 ro 13 (.aP 119 (.t 12) 2),
 ro 14 (.aD 117 (.t 13)),
 ro 15 (.ad (.t 2)),
 ro 16 (.bJ 117 (.t 14) (.t 15)),
 ro 17 (.aD 122 (.t 16)),
 ro 7 (.eB 122),
 ⟨none, .cx 122 (.t 7) (.t 17), none⟩] (some [0, 1, 2, 7])) Zz
def ZB : R := .seq (.U [ro 6 (.af (.c (.int .i64 0)))] (some [0, 1, 2])) ZA
theorem ZC : bt ⟨126, [0, 1, 2]⟩ (Tryz.f199.body.getD .skip) = some ZB.strip := by kernel_rfl
def ZD : R := .seq (.U [ro 4 (.af (.c (.int .i64 0))),
 ro 5 (.af (.c (.int .i64 1)))] (some [4, 5])) .ret
def ZE : R := .cond (.t 13) ZD .skip
def ZF : R := .cond (.t 20) .skip (.exit 0)
def ZG : R := .seq (.U [ro 29 (.ad (.t 6)),
 ro 30 (.ad (.t 7)),
 ro 4 (.af (.t 29)),
 ro 5 (.af (.t 30))] (some [4, 5])) .ret
def ZH : R := .cond (.t 28) ZG .skip
def ZI : R := .seq (.U [ro 27 (.ad (.t 7)),
 ro 28 (.aq .gtr 2 (.t 27) (.c (.int .i64 0)))] (some [0, 1, 6, 7, 28])) ZH
def ZJ : R := .U [ro 21 (.ad (.t 6)),
 ro 22 (.aq .add 2 (.t 21) (.c (.int .i64 1))),
 ro 6 (.af (.t 22))] (some [0, 1, 6])
def ZK : R := .seq (.block 1 (.seq (.U [ro 23 (.ad (.t 0)),
 ro 24 (.ad (.t 1)),
 ro 25 (.ad (.t 6)),
 ro 26 (.call (.f 199) [(.t 23), (.t 24), (.t 25)]),
 ro 7 (.af (.t 26))] (some [0, 1, 6, 7])) ZI)) ZJ
def KL : R := .seq (.seq (.U [ro 14 (.ad (.t 6)),
 ro 15 (.ad (.t 1)),
 ro 16 (.dN (.t 15)),
 ro 17 (.aP 119 (.t 16) 2),
 ro 18 (.aD 117 (.t 17)),
 ro 19 (.len 117 (.t 18)),
 ro 20 (.aq .lss 2 (.t 14) (.t 19))] (some [0, 1, 6, 20])) ZF) ZK
def ZL : R := .block 0 (.loop KL)
def ZM : R := .seq (.U [ro 4 (.af (.c (.int .i64 0))),
 ro 5 (.af (.c (.int .i64 0)))] (some [4, 5])) .ret
def ZN : R := .seq (.seq (.U [ro 6 (.af (.c (.int .i64 0)))] (some [0, 1, 6])) ZL) ZM
def ZO : R := .seq (.seq (.U [ro 8 (.ad (.t 1)),
 ro 9 (.dN (.t 8)),
 ro 10 (.aP 119 (.t 9) 2),
 ro 11 (.aD 117 (.t 10)),
 ro 12 (.call (.f 198) [(.t 11)]),
 ro 13 (.un .not (.t 12))] (some [0, 1, 13])) ZE) ZN
def ZP : R := .seq (.U [ro 4 (.af (.c (.int .i64 0))),
 ro 5 (.af (.c (.int .i64 0)))] (some [0, 1])) ZO
theorem ZQ : bt ⟨31, [0, 1]⟩ (Tryz.f162.body.getD .skip) = some ZP.strip := by kernel_rfl
def ZR : R := .seq (.U [ro 2 (.af (.c (.bool false)))] (some [2])) .ret
def ZS : R := .cond (.t 15) ZR .skip
def ZT : R := .cond (.t 19) .skip (.exit 0)
def ZU : R := .seq (.U [ro 2 (.af (.c (.bool false)))] (some [2])) .ret
def ZV : R := .cond (.t 37) ZU .skip
def ZW : R := .cond (.t 40) .skip (.exit 2)
def ZX : R := .seq (.U [ro 2 (.af (.c (.bool false)))] (some [2])) .ret
def ZY : R := .cond (.t 53) ZX .skip
def ZZ : R := .U [ro 41 (.ad (.t 4)),
 ro 42 (.aq .add 3 (.t 41) (.c (.int .i64 1))),
 ro 4 (.af (.t 42))] (some [0, 3, 4])
def Z0 : R := .seq (.block 3 (.seq (.gI [ro 43 (.ad (.t 0)),
 ro 44 (.ad (.t 4)),
 ro 45 (.bJ 32 (.t 43) (.t 44)),
 ro 46 (.aP 119 (.t 45) 0),
 ro 47 (.aD 9 (.t 46)),
 ro 48 (.ad (.t 0)),
 ro 49 (.ad (.t 3)),
 ro 50 (.bJ 32 (.t 48) (.t 49)),
 ro 51 (.aP 119 (.t 50) 0),
 ro 52 (.aD 9 (.t 51)),
 ro 53 (.aq .eql 9 (.t 47) (.t 52))] [[], [], [0, 1], [2], [3], [], [], [5, 6], [7], [8], [4, 9]] (some [0, 3, 4, 53])) ZY)) ZZ
def KM : R := .seq (.seq (.U [ro 38 (.ad (.t 4)),
 ro 39 (.ad (.t 3)),
 ro 40 (.aq .lss 3 (.t 38) (.t 39))] (some [0, 3, 4, 40])) ZW) Z0
def Z1 : R := .block 2 (.loop KM)
def Z2 : R := .seq (.U [ro 4 (.af (.c (.int .i64 0)))] (some [0, 3, 4])) Z1
def Z3 : R := .U [ro 20 (.ad (.t 3)),
 ro 21 (.aq .add 3 (.t 20) (.c (.int .i64 1))),
 ro 3 (.af (.t 21))] (some [0, 3])
def Z4 : R := .seq (.block 1 (.seq (.seq (.U [ro 22 (.ad (.t 0)),
 ro 23 (.ad (.t 3)),
 ro 24 (.bJ 32 (.t 22) (.t 23)),
 ro 25 (.aP 119 (.t 24) 0),
 ro 26 (.aD 9 (.t 25)),
 ro 27 (.call (.f 161) [(.t 26)]),
 ro 28 (.un .not (.t 27)),
 ro 29 (.ad (.t 28)),
 ⟨some 30, .ad (.t 0), some (29, false)⟩,
 ⟨some 31, .ad (.t 3), some (29, false)⟩,
 ⟨some 32, .bJ 32 (.t 30) (.t 31), some (29, false)⟩,
 ⟨some 33, .aP 119 (.t 32) 1, some (29, false)⟩,
 ⟨some 34, .aD 2 (.t 33), some (29, false)⟩,
 ⟨some 35, .call (.f 87) [(.t 34), (.c (.int .i64 0)), (.c (.int .i64 3))], some (29, false)⟩,
 ⟨some 36, .un .not (.t 35), some (29, false)⟩,
 ro 37 (.pick (.t 29) (.c (.bool true)) (.t 36))] (some [0, 3, 37])) ZV) Z2)) Z3
def KN : R := .seq (.seq (.U [ro 16 (.ad (.t 3)),
 ro 17 (.ad (.t 0)),
 ro 18 (.len 32 (.t 17)),
 ro 19 (.aq .lss 3 (.t 16) (.t 18))] (some [0, 3, 19])) ZT) Z4
def Z5 : R := .block 0 (.loop KN)
def Z6 : R := .cond (.t 57) .skip (.exit 4)
def Z7 : R := .seq (.U [ro 2 (.af (.c (.bool false)))] (some [2])) .ret
def Z8 : R := .cond (.t 69) Z7 .skip
def Z9 : R := .seq (.U [ro 68 (.ad (.t 7)),
 ro 69 (.aq .gtr 2 (.t 68) (.c (.int .i64 0)))] (some [0, 5, 69])) Z8
def Z_ : R := .U [ro 58 (.ad (.t 5)),
 ro 59 (.aq .add 3 (.t 58) (.c (.int .i64 1))),
 ro 5 (.af (.t 59))] (some [0, 5])
def aaa : R := .seq (.block 5 (.seq (.U [ro 61 (.ad (.t 0)),
 ro 62 (.ad (.t 0)),
 ro 63 (.ad (.t 5)),
 ro 64 (.bJ 32 (.t 62) (.t 63)),
 ro 65 (.call (.f 162) [(.t 61), (.t 64)]),
 ro 60 (.ad (.t 65)),
 ro 66 (.ex (.t 60) 0),
 ro 67 (.ex (.t 60) 1),
 ro 6 (.af (.t 66)),
 ro 7 (.af (.t 67))] (some [0, 5, 7])) Z9)) Z_
def KO : R := .seq (.seq (.U [ro 54 (.ad (.t 5)),
 ro 55 (.ad (.t 0)),
 ro 56 (.len 32 (.t 55)),
 ro 57 (.aq .lss 3 (.t 54) (.t 56))] (some [0, 5, 57])) Z6) aaa
def aab : R := .block 4 (.loop KO)
def aac : R := .seq (.U [ro 2 (.af (.c (.bool true)))] (some [2])) .ret
def aad : R := .seq (.seq (.U [ro 5 (.af (.c (.int .i64 0)))] (some [0, 5])) aab) aac
def aae : R := .seq (.seq (.U [ro 3 (.af (.c (.int .i64 0)))] (some [0, 3])) Z5) aad
def aaf : R := .seq (.seq (.U [ro 8 (.ad (.t 0)),
 ro 9 (.len 32 (.t 8)),
 ro 10 (.aq .eql 3 (.t 9) (.c (.int .i64 0))),
 ro 11 (.ad (.t 10)),
 ⟨some 12, .ad (.t 0), some (11, false)⟩,
 ⟨some 13, .len 32 (.t 12), some (11, false)⟩,
 ⟨some 14, .aq .gtr 3 (.t 13) (.c (.int .i64 4)), some (11, false)⟩,
 ro 15 (.pick (.t 11) (.c (.bool true)) (.t 14))] (some [0, 15])) ZS) aae
def aag : R := .seq (.U [ro 2 (.af (.c (.bool false)))] (some [0])) aaf
theorem aah : bt ⟨70, [0]⟩ (Tryz.f122.body.getD .skip) = some aag.strip := by kernel_rfl
def aai : R := .cond (.t 7) .skip (.exit 0)
def aaj : R := .seq (.U [ro 2 (.af (.c (.bool false)))] (some [2])) .ret
def aak : R := .cond (.t 15) aaj .skip
def aal : R := .U [ro 8 (.ad (.t 3)),
 ro 9 (.aq .add 3 (.t 8) (.c (.int .i64 1))),
 ro 3 (.af (.t 9))] (some [0, 3])
def aam : R := .seq (.block 1 (.seq (.U [ro 10 (.ad (.t 0)),
 ro 11 (.ad (.t 3)),
 ro 12 (.bJ 43 (.t 10) (.t 11)),
 ro 13 (.aD 2 (.t 12)),
 ro 14 (.call (.f 87) [(.t 13), (.c (.int .i64 0)), (.c (.int .i64 63))]),
 ro 15 (.un .not (.t 14))] (some [0, 3, 15])) aak)) aal
def KP : R := .seq (.seq (.U [ro 4 (.ad (.t 3)),
 ro 5 (.ad (.t 0)),
 ro 6 (.len 43 (.t 5)),
 ro 7 (.aq .lss 3 (.t 4) (.t 6))] (some [0, 3, 7])) aai) aam
def aan : R := .block 0 (.loop KP)
def aao : R := .seq (.U [ro 2 (.af (.c (.bool true)))] (some [2])) .ret
def aap : R := .seq (.seq (.U [ro 3 (.af (.c (.int .i64 0)))] (some [0, 3])) aan) aao
def aaq : R := .seq (.U [ro 2 (.af (.c (.bool false)))] (some [0])) aap
theorem aar : bt ⟨16, [0]⟩ (Tryz.f138.body.getD .skip) = some aaq.strip := by kernel_rfl
def aas : R := .seq (.U [ro 2 (.af (.c (.bool false)))] (some [2])) .ret
def aat : R := .cond (.t 18) aas .skip
def aau : R := .cond (.t 25) .skip (.exit 0)
def aav : R := .seq (.U [ro 2 (.af (.c (.bool false)))] (some [2])) .ret
def aaw : R := .cond (.t 44) aav .skip
def aax : R := .seq (.U [ro 2 (.af (.c (.bool false)))] (some [2])) .ret
def aay : R := .cond (.t 63) aax .skip
def aaz : R := .seq (.gI [ro 45 (.aP 124 (.t 4) 1),
 ro 46 (.aD 43 (.t 45)),
 ro 47 (.len 43 (.t 46)),
 ro 48 (.ad (.t 0)),
 ro 49 (.dN (.t 48)),
 ro 50 (.aP 36 (.t 49) 0),
 ro 51 (.aD 32 (.t 50)),
 ro 52 (.aP 124 (.t 4) 0),
 ro 53 (.aD 2 (.t 52)),
 ro 54 (.bJ 32 (.t 51) (.t 53)),
 ro 55 (.aP 119 (.t 54) 1),
 ro 56 (.aD 2 (.t 55)),
 ro 57 (.aq .neq 2 (.t 47) (.t 56)),
 ro 58 (.ad (.t 57)),
 ⟨some 59, .aP 124 (.t 4) 1, some (58, false)⟩,
 ⟨some 60, .aD 43 (.t 59), some (58, false)⟩,
 ⟨some 61, .call (.f 138) [(.t 60)], some (58, false)⟩,
 ⟨some 62, .un .not (.t 61), some (58, false)⟩,
 ro 63 (.pick (.t 58) (.c (.bool true)) (.t 62))] [[], [0], [1], [], [3], [4], [5], [], [7], [6, 8], [9], [10], [2, 11], [12], [13], [14, 13], [15, 13, 13], [16, 13], [13, 17]] (some [0, 3, 63])) aay
def aaA : R := .seq (.seq (.gI [ro 35 (.aP 124 (.t 4) 0),
 ro 36 (.aD 2 (.t 35)),
 ro 37 (.ad (.t 0)),
 ro 38 (.dN (.t 37)),
 ro 39 (.aP 36 (.t 38) 0),
 ro 40 (.aD 32 (.t 39)),
 ro 41 (.len 32 (.t 40)),
 ro 42 (.aq .sub 2 (.t 41) (.c (.int .i64 1))),
 ro 43 (.call (.f 87) [(.t 36), (.c (.int .i64 0)), (.t 42)]),
 ro 44 (.un .not (.t 43))] [[], [0], [], [2], [3], [4], [5], [6], [1, 7], [8]] (some [0, 3, 4, 44])) aaw) aaz
def aaB : R := .U [ro 26 (.ad (.t 3)),
 ro 27 (.aq .add 3 (.t 26) (.c (.int .i64 1))),
 ro 3 (.af (.t 27))] (some [0, 3])
def aaC : R := .seq (.block 1 (.seq (.U [ro 28 (.ad (.t 0)),
 ro 29 (.dN (.t 28)),
 ro 30 (.aP 36 (.t 29) 1),
 ro 31 (.aD 33 (.t 30)),
 ro 32 (.ad (.t 3)),
 ro 33 (.bJ 33 (.t 31) (.t 32)),
 ro 34 (.aD 124 (.t 33)),
 ro 4 (.eB 124),
 ⟨none, .cx 124 (.t 4) (.t 34), none⟩] (some [0, 3, 4])) aaA)) aaB
def KQ : R := .seq (.seq (.U [ro 19 (.ad (.t 3)),
 ro 20 (.ad (.t 0)),
 ro 21 (.dN (.t 20)),
 ro 22 (.aP 36 (.t 21) 1),
 ro 23 (.aD 33 (.t 22)),
 ro 24 (.len 33 (.t 23)),
 ro 25 (.aq .lss 3 (.t 19) (.t 24))] (some [0, 3, 25])) aau) aaC
def aaD : R := .block 0 (.loop KQ)
def aaE : R := .seq (.U [ro 2 (.af (.c (.bool true)))] (some [2])) .ret
def aaF : R := .seq (.seq (.U [ro 3 (.af (.c (.int .i64 0)))] (some [0, 3])) aaD) aaE
def aaG : R := .seq (.seq (.U [ro 5 (.ad (.t 0)),
 ro 6 (.dN (.t 5)),
 ro 7 (.aP 36 (.t 6) 1),
 ro 8 (.aD 33 (.t 7)),
 ro 9 (.len 33 (.t 8)),
 ro 10 (.aq .eql 3 (.t 9) (.c (.int .i64 0))),
 ro 11 (.ad (.t 10)),
 ⟨some 12, .ad (.t 0), some (11, false)⟩,
 ⟨some 13, .dN (.t 12), some (11, false)⟩,
 ⟨some 14, .aP 36 (.t 13) 1, some (11, false)⟩,
 ⟨some 15, .aD 33 (.t 14), some (11, false)⟩,
 ⟨some 16, .len 33 (.t 15), some (11, false)⟩,
 ⟨some 17, .aq .gtr 3 (.t 16) (.c (.int .i64 3)), some (11, false)⟩,
 ro 18 (.pick (.t 11) (.c (.bool true)) (.t 17))] (some [0, 18])) aat) aaF
def aaH : R := .seq (.U [ro 2 (.af (.c (.bool false)))] (some [0])) aaG
theorem aaI : bt ⟨64, [0]⟩ (Tryz.f123.body.getD .skip) = some aaH.strip := by kernel_rfl
def aaJ : R := .seq (.U [ro 3 (.ad (.t 0)),
 ro 4 (.call (.f 161) [(.t 3)]),
 ro 5 (.ad (.t 4)),
 ⟨some 6, .ad (.t 0), some (5, true)⟩,
 ⟨some 7, .aq .neq 9 (.t 6) (.c (.str [116, 97, 117])), some (5, true)⟩,
 ro 8 (.pick (.t 5) (.t 7) (.c (.bool false))),
 ro 2 (.af (.t 8))] (some [2])) .ret
def aaK : R := .seq (.U [ro 2 (.af (.c (.bool false)))] (some [0])) aaJ
theorem aaL : bt ⟨9, [0]⟩ (Tryz.f141.body.getD .skip) = some aaK.strip := by kernel_rfl
def aaM : R := .seq (.U [ro 2 (.af (.c (.bool false)))] (some [2])) .ret
def aaN : R := .cond (.t 8) aaM .skip
def aaO : R := .cond (.t 12) .skip (.exit 0)
def aaP : R := .seq (.U [ro 2 (.af (.c (.bool false)))] (some [2])) .ret
def aaQ : R := .cond (.t 41) aaP .skip
def aaR : R := .seq (.U [ro 2 (.af (.c (.bool false)))] (some [2])) .ret
def aaS : R := .cond (.t 76) aaR .skip
def aaT : R := .cond (.t 80) .skip (.exit 2)
def aaU : R := .seq (.U [ro 2 (.af (.c (.bool false)))] (some [2])) .ret
def aaV : R := .cond (.t 100) aaU .skip
def aaW : R := .U [ro 81 (.ad (.t 5)),
 ro 82 (.aq .add 3 (.t 81) (.c (.int .i64 1))),
 ro 5 (.af (.t 82))] (some [0, 3, 4, 5])
def aaX : R := .seq (.block 3 (.seq (.gI [ro 83 (.ad (.t 0)),
 ro 84 (.ad (.t 5)),
 ro 85 (.bJ 34 (.t 83) (.t 84)),
 ro 86 (.aP 126 (.t 85) 0),
 ro 87 (.aD 9 (.t 86)),
 ro 88 (.aP 126 (.t 4) 2),
 ro 89 (.aD 9 (.t 88)),
 ro 90 (.aq .eql 9 (.t 87) (.t 89)),
 ro 91 (.ad (.t 90)),
 ⟨some 92, .ad (.t 0), some (91, false)⟩,
 ⟨some 93, .ad (.t 5), some (91, false)⟩,
 ⟨some 94, .bJ 34 (.t 92) (.t 93), some (91, false)⟩,
 ⟨some 95, .aP 126 (.t 94) 1, some (91, false)⟩,
 ⟨some 96, .aD 9 (.t 95), some (91, false)⟩,
 ⟨some 97, .aP 126 (.t 4) 2, some (91, false)⟩,
 ⟨some 98, .aD 9 (.t 97), some (91, false)⟩,
 ⟨some 99, .aq .eql 9 (.t 96) (.t 98), some (91, false)⟩,
 ro 100 (.pick (.t 91) (.c (.bool true)) (.t 99))] [[], [], [0, 1], [2], [3], [], [5], [4, 6], [7], [8], [8], [9, 10, 8], [11, 8], [12, 8], [8], [14, 8], [13, 15, 8], [8, 16]] (some [0, 3, 4, 5, 100])) aaV)) aaW
def E3 : R := .seq (.seq (.U [ro 77 (.ad (.t 5)),
 ro 78 (.ad (.t 0)),
 ro 79 (.len 34 (.t 78)),
 ro 80 (.aq .lss 3 (.t 77) (.t 79))] (some [0, 3, 4, 5, 80])) aaT) aaX
def aaY : R := .block 2 (.loop E3)
def aaZ : R := .seq (.U [ro 5 (.af (.c (.int .i64 0)))] (some [0, 3, 4, 5])) aaY
def aa0 : R := .seq (.seq (.gI [ro 42 (.ad (.t 3)),
 ro 43 (.aq .gtr 3 (.t 42) (.c (.int .i64 0))),
 ro 44 (.ad (.t 43)),
 ⟨some 45, .ad (.t 0), some (44, true)⟩,
 ⟨some 46, .ad (.t 3), some (44, true)⟩,
 ⟨some 47, .aq .sub 3 (.t 46) (.c (.int .i64 1)), some (44, true)⟩,
 ⟨some 48, .bJ 34 (.t 45) (.t 47), some (44, true)⟩,
 ⟨some 49, .aP 126 (.t 48) 0, some (44, true)⟩,
 ⟨some 50, .aD 9 (.t 49), some (44, true)⟩,
 ⟨some 51, .aP 126 (.t 4) 0, some (44, true)⟩,
 ⟨some 52, .aD 9 (.t 51), some (44, true)⟩,
 ⟨some 53, .aq .gtr 9 (.t 50) (.t 52), some (44, true)⟩,
 ⟨some 54, .ad (.t 53), some (44, true)⟩,
 ⟨some 55, .ad (.t 0), some (54, false)⟩,
 ⟨some 56, .ad (.t 3), some (54, false)⟩,
 ⟨some 57, .aq .sub 3 (.t 56) (.c (.int .i64 1)), some (54, false)⟩,
 ⟨some 58, .bJ 34 (.t 55) (.t 57), some (54, false)⟩,
 ⟨some 59, .aP 126 (.t 58) 0, some (54, false)⟩,
 ⟨some 60, .aD 9 (.t 59), some (54, false)⟩,
 ⟨some 61, .aP 126 (.t 4) 0, some (54, false)⟩,
 ⟨some 62, .aD 9 (.t 61), some (54, false)⟩,
 ⟨some 63, .aq .eql 9 (.t 60) (.t 62), some (54, false)⟩,
 ⟨some 64, .ad (.t 63), some (54, false)⟩,
 ⟨some 65, .ad (.t 0), some (64, true)⟩,
 ⟨some 66, .ad (.t 3), some (64, true)⟩,
 ⟨some 67, .aq .sub 3 (.t 66) (.c (.int .i64 1)), some (64, true)⟩,
 ⟨some 68, .bJ 34 (.t 65) (.t 67), some (64, true)⟩,
 ⟨some 69, .aP 126 (.t 68) 1, some (64, true)⟩,
 ⟨some 70, .aD 9 (.t 69), some (64, true)⟩,
 ⟨some 71, .aP 126 (.t 4) 1, some (64, true)⟩,
 ⟨some 72, .aD 9 (.t 71), some (64, true)⟩,
 ⟨some 73, .aq .geq 9 (.t 70) (.t 72), some (64, true)⟩,
 ⟨some 74, .pick (.t 64) (.t 73) (.c (.bool false)), some (54, false)⟩,
 ⟨some 75, .pick (.t 54) (.c (.bool true)) (.t 74), some (44, true)⟩,
 ro 76 (.pick (.t 44) (.t 75) (.c (.bool false)))] [[], [0], [1], [2], [2], [4, 2], [3, 5, 2], [6, 2], [7, 2], [2], [9, 2], [8, 10, 2], [11, 2, 2], [12], [12], [14, 12], [13, 15, 12], [16, 12], [17, 12], [12], [19, 12], [18, 20, 12], [21, 12, 12], [22], [22], [24, 22], [23, 25, 22], [26, 22], [27, 22], [22], [29, 22], [28, 30, 22], [22, 31, 12], [12, 32, 2], [2, 33]] (some [0, 3, 4, 76])) aaS) aaZ
def aa1 : R := .seq (.seq (.U [ro 19 (.aP 126 (.t 4) 0),
 ro 20 (.aD 9 (.t 19)),
 ro 21 (.call (.f 141) [(.t 20)]),
 ro 22 (.un .not (.t 21)),
 ro 23 (.ad (.t 22)),
 ⟨some 24, .aP 126 (.t 4) 1, some (23, false)⟩,
 ⟨some 25, .aD 9 (.t 24), some (23, false)⟩,
 ⟨some 26, .call (.f 141) [(.t 25)], some (23, false)⟩,
 ⟨some 27, .un .not (.t 26), some (23, false)⟩,
 ro 28 (.pick (.t 23) (.c (.bool true)) (.t 27)),
 ro 29 (.ad (.t 28)),
 ⟨some 30, .aP 126 (.t 4) 2, some (29, false)⟩,
 ⟨some 31, .aD 9 (.t 30), some (29, false)⟩,
 ⟨some 32, .call (.f 141) [(.t 31)], some (29, false)⟩,
 ⟨some 33, .un .not (.t 32), some (29, false)⟩,
 ro 34 (.pick (.t 29) (.c (.bool true)) (.t 33)),
 ro 35 (.ad (.t 34)),
 ⟨some 36, .aP 126 (.t 4) 0, some (35, false)⟩,
 ⟨some 37, .aD 9 (.t 36), some (35, false)⟩,
 ⟨some 38, .aP 126 (.t 4) 1, some (35, false)⟩,
 ⟨some 39, .aD 9 (.t 38), some (35, false)⟩,
 ⟨some 40, .aq .gtr 9 (.t 37) (.t 39), some (35, false)⟩,
 ro 41 (.pick (.t 35) (.c (.bool true)) (.t 40))] (some [0, 3, 4, 41])) aaQ) aa0
def aa2 : R := .U [ro 13 (.ad (.t 3)),
 ro 14 (.aq .add 3 (.t 13) (.c (.int .i64 1))),
 ro 3 (.af (.t 14))] (some [0, 3])
def aa3 : R := .seq (.block 1 (.seq (.U [ro 15 (.ad (.t 0)),
 ro 16 (.ad (.t 3)),
 ro 17 (.bJ 34 (.t 15) (.t 16)),
 ro 18 (.aD 126 (.t 17)),
 ro 4 (.eB 126),
 ⟨none, .cx 126 (.t 4) (.t 18), none⟩] (some [0, 3, 4])) aa1)) aa2
def KR : R := .seq (.seq (.U [ro 9 (.ad (.t 3)),
 ro 10 (.ad (.t 0)),
 ro 11 (.len 34 (.t 10)),
 ro 12 (.aq .lss 3 (.t 9) (.t 11))] (some [0, 3, 12])) aaO) aa3
def aa4 : R := .block 0 (.loop KR)
def aa5 : R := .seq (.U [ro 2 (.af (.c (.bool true)))] (some [2])) .ret
def aa6 : R := .seq (.seq (.U [ro 3 (.af (.c (.int .i64 0)))] (some [0, 3])) aa4) aa5
def aa7 : R := .seq (.seq (.U [ro 6 (.ad (.t 0)),
 ro 7 (.len 34 (.t 6)),
 ro 8 (.aq .gtr 3 (.t 7) (.c (.int .i64 6)))] (some [0, 8])) aaN) aa6
def aa8 : R := .seq (.U [ro 2 (.af (.c (.bool false)))] (some [0])) aa7
theorem aa9 : bt ⟨101, [0]⟩ (Tryz.f124.body.getD .skip) = some aa8.strip := by kernel_rfl
def aa_ : R := .cond (.t 7) .skip (.exit 0)
def aba : R := .seq (.U [ro 2 (.af (.c (.bool false)))] (some [2])) .ret
def abb : R := .cond (.t 15) aba .skip
def abc : R := .U [ro 8 (.ad (.t 3)),
 ro 9 (.aq .add 3 (.t 8) (.c (.int .i64 1))),
 ro 3 (.af (.t 9))] (some [0, 3])
def abd : R := .seq (.block 1 (.seq (.U [ro 10 (.ad (.t 0)),
 ro 11 (.ad (.t 3)),
 ro 12 (.bJ 25 (.t 10) (.t 11)),
 ro 13 (.aD 9 (.t 12)),
 ro 14 (.call (.f 141) [(.t 13)]),
 ro 15 (.un .not (.t 14))] (some [0, 3, 15])) abb)) abc
def KS : R := .seq (.seq (.U [ro 4 (.ad (.t 3)),
 ro 5 (.ad (.t 0)),
 ro 6 (.len 25 (.t 5)),
 ro 7 (.aq .lss 3 (.t 4) (.t 6))] (some [0, 3, 7])) aa_) abd
def abe : R := .block 0 (.loop KS)
def abf : R := .seq (.U [ro 2 (.af (.c (.bool true)))] (some [2])) .ret
def abg : R := .seq (.seq (.U [ro 3 (.af (.c (.int .i64 0)))] (some [0, 3])) abe) abf
def abh : R := .seq (.U [ro 2 (.af (.c (.bool false)))] (some [0])) abg
theorem abi : bt ⟨16, [0]⟩ (Tryz.f163.body.getD .skip) = some abh.strip := by kernel_rfl
def abj : R := .seq (.U [ro 2 (.af (.c (.bool false)))] (some [2])) .ret
def abk : R := .cond (.t 11) abj .skip
def abl : R := .cond (.t 15) .skip (.exit 0)
def abm : R := .seq (.U [ro 2 (.af (.c (.bool false)))] (some [2])) .ret
def abn : R := .cond (.t 27) abm .skip
def abo : R := .U [ro 16 (.ad (.t 3)),
 ro 17 (.aq .add 3 (.t 16) (.c (.int .i64 1))),
 ro 3 (.af (.t 17))] (some [0, 3])
def abp : R := .seq (.block 1 (.seq (.gI [ro 18 (.ad (.t 0)),
 ro 19 (.ad (.t 3)),
 ro 20 (.aq .sub 3 (.t 19) (.c (.int .i64 1))),
 ro 21 (.bJ 25 (.t 18) (.t 20)),
 ro 22 (.aD 9 (.t 21)),
 ro 23 (.ad (.t 0)),
 ro 24 (.ad (.t 3)),
 ro 25 (.bJ 25 (.t 23) (.t 24)),
 ro 26 (.aD 9 (.t 25)),
 ro 27 (.aq .geq 9 (.t 22) (.t 26))] [[], [], [1], [0, 2], [3], [], [], [5, 6], [7], [4, 8]] (some [0, 3, 27])) abn)) abo
def KT : R := .seq (.seq (.U [ro 12 (.ad (.t 3)),
 ro 13 (.ad (.t 0)),
 ro 14 (.len 25 (.t 13)),
 ro 15 (.aq .lss 3 (.t 12) (.t 14))] (some [0, 3, 15])) abl) abp
def abq : R := .block 0 (.loop KT)
def abr : R := .seq (.U [ro 2 (.af (.c (.bool true)))] (some [2])) .ret
def abt : R := .seq (.seq (.U [ro 3 (.af (.c (.int .i64 1)))] (some [0, 3])) abq) abr
def abu : R := .seq (.seq (.U [ro 4 (.ad (.t 0)),
 ro 5 (.len 25 (.t 4)),
 ro 6 (.aq .gtr 3 (.t 5) (.c (.int .i64 12))),
 ro 7 (.ad (.t 6)),
 ⟨some 8, .ad (.t 0), some (7, false)⟩,
 ⟨some 9, .call (.f 163) [(.t 8)], some (7, false)⟩,
 ⟨some 10, .un .not (.t 9), some (7, false)⟩,
 ro 11 (.pick (.t 7) (.c (.bool true)) (.t 10))] (some [0, 11])) abk) abt
def abv : R := .seq (.U [ro 2 (.af (.c (.bool false)))] (some [0])) abu
theorem abw : bt ⟨28, [0]⟩ (Tryz.f125.body.getD .skip) = some abv.strip := by kernel_rfl
def abx : R := .seq (.U [ro 2 (.af (.c (.int .i64 1)))] (some [2])) .ret
def aby : R := .cond (.t 8) abx .skip
def abz : R := .seq (.U [ro 2 (.af (.c (.int .i64 2)))] (some [2])) .ret
def abA : R := .cond (.t 11) abz .skip
def abB : R := .seq (.U [ro 2 (.af (.c (.int .i64 3)))] (some [2])) .ret
def abC : R := .cond (.t 17) abB .skip
def abD : R := .seq (.U [ro 2 (.af (.c (.int .i64 4)))] (some [2])) .ret
def abE : R := .cond (.t 23) abD .skip
def abF : R := .seq (.U [ro 2 (.af (.c (.int .i64 5)))] (some [2])) .ret
def abG : R := .cond (.t 29) abF .skip
def abH : R := .seq (.U [ro 2 (.af (.c (.int .i64 0)))] (some [2])) .ret
def abI : R := .seq (.seq (.U [ro 24 (.ad (.t 0)),
 ro 25 (.dN (.t 24)),
 ro 26 (.aP 36 (.t 25) 4),
 ro 27 (.aD 25 (.t 26)),
 ro 28 (.call (.f 125) [(.t 27)]),
 ro 29 (.un .not (.t 28))] (some [29])) abG) abH
def abJ : R := .seq (.seq (.U [ro 18 (.ad (.t 0)),
 ro 19 (.dN (.t 18)),
 ro 20 (.aP 36 (.t 19) 3),
 ro 21 (.aD 25 (.t 20)),
 ro 22 (.call (.f 125) [(.t 21)]),
 ro 23 (.un .not (.t 22))] (some [0, 23])) abE) abI
def abK : R := .seq (.seq (.U [ro 12 (.ad (.t 0)),
 ro 13 (.dN (.t 12)),
 ro 14 (.aP 36 (.t 13) 2),
 ro 15 (.aD 34 (.t 14)),
 ro 16 (.call (.f 124) [(.t 15)]),
 ro 17 (.un .not (.t 16))] (some [0, 17])) abC) abJ
def abL : R := .seq (.seq (.U [ro 9 (.ad (.t 0)),
 ro 10 (.call (.f 123) [(.t 9)]),
 ro 11 (.un .not (.t 10))] (some [0, 11])) abA) abK
def abM : R := .seq (.seq (.U [ro 3 (.ad (.t 0)),
 ro 4 (.dN (.t 3)),
 ro 5 (.aP 36 (.t 4) 0),
 ro 6 (.aD 32 (.t 5)),
 ro 7 (.call (.f 122) [(.t 6)]),
 ro 8 (.un .not (.t 7))] (some [0, 8])) aby) abL
def abN : R := .seq (.U [ro 2 (.af (.c (.int .i64 0)))] (some [0])) abM
theorem abO : bt ⟨30, [0]⟩ (Tryz.f75.body.getD .skip) = some abN.strip := by kernel_rfl
def abP : R := .seq (.U [ro 3 (.ad (.t 0)),
 ro 4 (.call (.f 75) [(.t 3)]),
 ro 5 (.aq .eql 2 (.t 4) (.c (.int .i64 0))),
 ro 2 (.af (.t 5))] (some [2])) .ret
def abQ : R := .seq (.U [ro 2 (.af (.c (.bool false)))] (some [0])) abP
theorem abR : bt ⟨6, [0]⟩ (Tryz.f37.body.getD .skip) = some abQ.strip := by kernel_rfl
def abS : R := .seq (.U [ro 3 (.eD 43 0 []),
 ro 4 (.ad (.t 0)),
 ro 5 (.app 43 43 (.t 3) (.t 4)),
 ro 2 (.af (.t 5))] (some [2])) .ret
def abT : R := .seq (.U [ro 2 (.af (.c .bc))] (some [0])) abS
theorem abU : bt ⟨6, [0]⟩ (Tryz.f91.body.getD .skip) = some abT.strip := by kernel_rfl
def abV : R := .cond (.t 13) .skip (.exit 0)
def abW : R := .gI [ro 23 (.ad (.t 3)),
 ro 24 (.aP 124 (.t 5) 0),
 ro 25 (.aD 2 (.t 24)),
 ro 26 (.aP 124 (.t 5) 1),
 ro 27 (.aD 43 (.t 26)),
 ro 28 (.call (.f 91) [(.t 27)]),
 ro 29 (.fC 104 [(0, (.t 25)), (2, (.t 28))]),
 ro 30 (.eD 59 1 [(0, (.t 29))]),
 ro 31 (.app 59 59 (.t 23) (.t 30)),
 ro 3 (.af (.t 31))] [[], [], [1], [], [3], [4], [2, 5], [6], [0, 7, 5], [8, 8, 0, 1, 2, 3, 4, 5, 6, 7, 8]] (some [0, 3, 4])
def abX : R := .U [ro 14 (.ad (.t 4)),
 ro 15 (.aq .add 3 (.t 14) (.c (.int .i64 1))),
 ro 4 (.af (.t 15))] (some [0, 3, 4])
def abY : R := .seq (.block 1 (.seq (.U [ro 16 (.ad (.t 0)),
 ro 17 (.dN (.t 16)),
 ro 18 (.aP 36 (.t 17) 1),
 ro 19 (.aD 33 (.t 18)),
 ro 20 (.ad (.t 4)),
 ro 21 (.bJ 33 (.t 19) (.t 20)),
 ro 22 (.aD 124 (.t 21)),
 ro 5 (.eB 124),
 ⟨none, .cx 124 (.t 5) (.t 22), none⟩] (some [0, 3, 4, 5])) abW)) abX
def KU : R := .seq (.seq (.U [ro 7 (.ad (.t 4)),
 ro 8 (.ad (.t 0)),
 ro 9 (.dN (.t 8)),
 ro 10 (.aP 36 (.t 9) 1),
 ro 11 (.aD 33 (.t 10)),
 ro 12 (.len 33 (.t 11)),
 ro 13 (.aq .lss 3 (.t 7) (.t 12))] (some [0, 3, 4, 13])) abV) abY
def abZ : R := .block 0 (.loop KU)
def ab0 : R := .seq (.U [ro 32 (.ad (.t 3)),
 ro 2 (.af (.t 32))] (some [2])) .ret
def ab1 : R := .seq (.seq (.U [ro 4 (.af (.c (.int .i64 0)))] (some [0, 3, 4])) abZ) ab0
def ab2 : R := .seq (.U [ro 6 (.eD 59 0 []),
 ro 3 (.af (.t 6))] (some [0, 3])) ab1
def ab3 : R := .seq (.U [ro 2 (.af (.c .bc))] (some [0])) ab2
theorem ab4 : bt ⟨33, [0]⟩ (Tryz.f67.body.getD .skip) = some ab3.strip := by kernel_rfl
def ab5 : R := .seq (.U [ro 2 (.af (.c .bc)),
 ro 3 (.af (.c (.int .i64 1)))] (some [2, 3])) .ret
def ab6 : R := .cond (.t 5) ab5 .skip
def ab7 : R := .seq (.U [ro 6 (.call (.f 67) [(.t 1)]),
 ro 2 (.af (.t 6)),
 ro 3 (.af (.c (.int .i64 0)))] (some [2, 3])) .ret
def ab8 : R := .seq (.seq (.U [ro 4 (.call (.f 37) [(.t 1)]),
 ro 5 (.un .not (.t 4))] (some [1, 5])) ab6) ab7
def ab9 : R := .seq (.U [ro 1 (.c2 36 (.t 0)),
 ro 2 (.af (.c .bc)),
 ro 3 (.af (.c (.int .i64 0)))] (some [1])) ab8
theorem mJ : bt ⟨7, [0]⟩ (Tryz.f26.body.getD .skip) = some ab9.strip := by kernel_rfl
def ab_ : R := .seq (.U [ro 7 (.ad (.t 0)),
 ro 8 (.ad (.t 1)),
 ro 9 (.aq .geq 2 (.t 7) (.t 8)),
 ro 10 (.ad (.t 9)),
 ⟨some 11, .ad (.t 0), some (10, true)⟩,
 ⟨some 12, .ad (.t 2), some (10, true)⟩,
 ⟨some 13, .aq .leq 2 (.t 11) (.t 12), some (10, true)⟩,
 ro 14 (.pick (.t 10) (.t 13) (.c (.bool false))),
 ro 6 (.af (.t 14))] (some [6])) .ret
def aca : R := .seq (.U [ro 6 (.af (.c (.bool false)))] (some [0, 1, 2])) ab_
theorem acb : bt ⟨15, [0, 1, 2]⟩ (Tryz.f95.body.getD .skip) = some aca.strip := by kernel_rfl
def acd : R := .seq (.U [ro 3 (.aP 119 (.t 1) 1),
 ro 4 (.aD 2 (.t 3)),
 ro 5 (.call (.f 95) [(.t 4), (.c (.int .i64 0)), (.c (.int .i64 3))]),
 ro 6 (.un .not (.t 5)),
 ro 2 (.af (.t 6))] (some [2])) .ret
def ace : R := .seq (.U [ro 1 (.c2 119 (.t 0)),
 ro 2 (.af (.c (.bool false)))] (some [1])) acd
theorem acf : bt ⟨7, [0]⟩ (Tryz.f201.body.getD .skip) = some ace.strip := by kernel_rfl
def acg : R := .seq (.U [ro 17 (.ad (.t 5)),
 ro 4 (.af (.t 17))] (some [4])) .ret
def ach : R := .cond (.t 16) acg .skip
def aci : R := .seq (.U [ro 11 (.ad (.t 1)),
 ro 12 (.ad (.t 0)),
 ro 13 (.ad (.t 5)),
 ro 14 (.bJ 32 (.t 12) (.t 13)),
 ro 15 (.aD 119 (.t 14)),
 ro 16 (.call (.t 11) [(.t 15)])] (some [0, 1, 5, 7, 8, 16])) ach
def acj : R := .U [ro 18 (.aq .add 3 (.t 8) (.c (.int .i64 1))),
 ro 8 (.ad (.t 18))] (some [0, 1, 7, 8])
def ack : R := .seq (.block 1 (.seq (.U [ro 10 (.ad (.t 8)),
 ro 5 (.af (.t 10))] (some [0, 1, 5, 7, 8])) aci)) acj
def acm : R := .seq (.cond (.t 9) .skip (.exit 0)) ack
def KV : R := .seq (.U [ro 9 (.aq .lss 3 (.t 8) (.t 7))] (some [0, 1, 7, 8, 9])) acm
def acn : R := .block 0 (.loop KV)
def aco : R := .seq (.U [ro 4 (.af (.c (.int .i64 (-1))))] (some [4])) .ret
def acp : R := .seq (.seq (.U [ro 6 (.ad (.t 0)),
 ro 7 (.len 32 (.t 6)),
 ro 8 (.ad (.c (.int .i64 0)))] (some [0, 1, 7, 8])) acn) aco
def acq : R := .seq (.U [ro 4 (.af (.c (.int .i64 0)))] (some [0, 1])) acp
theorem acr : bt ⟨19, [0, 1]⟩ (Tryz.f203.body.getD .skip) = some acq.strip := by kernel_rfl
def acs : R := .seq (.U [ro 5 (.ad (.t 0)),
 ro 6 (.ad (.t 1)),
 ro 7 (.call (.f 203) [(.t 5), (.t 6)]),
 ro 8 (.aq .geq 3 (.t 7) (.c (.int .i64 0))),
 ro 4 (.af (.t 8))] (some [4])) .ret
def acu : R := .seq (.U [ro 4 (.af (.c (.bool false)))] (some [0, 1])) acs
theorem acv : bt ⟨9, [0, 1]⟩ (Tryz.f200.body.getD .skip) = some acu.strip := by kernel_rfl
def acw : R := .seq (.U [ro 3 (.ad (.t 0)),
 ro 4 (.call (.f 200) [(.t 3), (.f 201)]),
 ro 5 (.un .not (.t 4)),
 ro 2 (.af (.t 5))] (some [2])) .ret
def acx : R := .seq (.U [ro 2 (.af (.c (.bool false)))] (some [0])) acw
theorem acy : bt ⟨6, [0]⟩ (Tryz.f165.body.getD .skip) = some acx.strip := by kernel_rfl
def acz : R := .seq (.U [ro 3 (.ad (.t 0)),
 ro 4 (.aq .geq 5 (.t 3) (.c (.int .u8 48))),
 ro 5 (.ad (.t 4)),
 ⟨some 6, .ad (.t 0), some (5, true)⟩,
 ⟨some 7, .aq .leq 5 (.t 6) (.c (.int .u8 57)), some (5, true)⟩,
 ro 8 (.pick (.t 5) (.t 7) (.c (.bool false))),
 ro 2 (.af (.t 8))] (some [2])) .ret
def acA : R := .seq (.U [ro 2 (.af (.c (.bool false)))] (some [0])) acz
theorem acB : bt ⟨9, [0]⟩ (Tryz.f202.body.getD .skip) = some acA.strip := by kernel_rfl
def acC : R := .seq (.U [ro 2 (.af (.c (.bool false)))] (some [2])) .ret
def acD : R := .cond (.t 32) acC .skip
def acE : R := .seq (.U [ro 20 (.ad (.t 4)),
 ro 21 (.un .not (.t 20)),
 ro 22 (.ad (.t 21)),
 ⟨some 23, .ad (.t 3), some (22, true)⟩,
 ⟨some 24, .aq .eql 3 (.t 23) (.c (.int .i64 0)), some (22, true)⟩,
 ⟨some 25, .ad (.t 24), some (22, true)⟩,
 ⟨some 26, .ad (.t 0), some (25, false)⟩,
 ⟨some 27, .ad (.t 3), some (25, false)⟩,
 ⟨some 28, .idx 9 (.t 26) (.t 27), some (25, false)⟩,
 ⟨some 29, .call (.f 202) [(.t 28)], some (25, false)⟩,
 ⟨some 30, .un .not (.t 29), some (25, false)⟩,
 ⟨some 31, .pick (.t 25) (.c (.bool true)) (.t 30), some (22, true)⟩,
 ro 32 (.pick (.t 22) (.t 31) (.c (.bool false)))] (some [0, 6, 7, 32])) acD
def acF : R := .seq (.U [ro 10 (.ad (.t 0)),
 ro 11 (.ad (.t 3)),
 ro 12 (.idx 9 (.t 10) (.t 11)),
 ro 13 (.aq .geq 5 (.t 12) (.c (.int .u8 97))),
 ro 14 (.ad (.t 13)),
 ⟨some 15, .ad (.t 0), some (14, true)⟩,
 ⟨some 16, .ad (.t 3), some (14, true)⟩,
 ⟨some 17, .idx 9 (.t 15) (.t 16), some (14, true)⟩,
 ⟨some 18, .aq .leq 5 (.t 17) (.c (.int .u8 122)), some (14, true)⟩,
 ro 19 (.pick (.t 14) (.t 18) (.c (.bool false))),
 ro 4 (.af (.t 19))] (some [0, 3, 4, 6, 7])) acE
def acG : R := .U [ro 33 (.aq .add 3 (.t 7) (.c (.int .i64 1))),
 ro 7 (.ad (.t 33))] (some [0, 6, 7])
def acH : R := .seq (.block 1 (.seq (.U [ro 9 (.ad (.t 7)),
 ro 3 (.af (.t 9))] (some [0, 3, 6, 7])) acF)) acG
def acI : R := .seq (.cond (.t 8) .skip (.exit 0)) acH
def KW : R := .seq (.U [ro 8 (.aq .lss 3 (.t 7) (.t 6))] (some [0, 6, 7, 8])) acI
def acJ : R := .block 0 (.loop KW)
def acK : R := .seq (.U [ro 34 (.ad (.t 0)),
 ro 35 (.len 9 (.t 34)),
 ro 36 (.aq .geq 3 (.t 35) (.c (.int .i64 1))),
 ro 37 (.ad (.t 36)),
 ⟨some 38, .ad (.t 0), some (37, true)⟩,
 ⟨some 39, .len 9 (.t 38), some (37, true)⟩,
 ⟨some 40, .aq .leq 3 (.t 39) (.c (.int .i64 10)), some (37, true)⟩,
 ro 41 (.pick (.t 37) (.t 40) (.c (.bool false))),
 ro 2 (.af (.t 41))] (some [2])) .ret
def acL : R := .seq (.seq (.U [ro 5 (.ad (.t 0)),
 ro 6 (.len 9 (.t 5)),
 ro 7 (.ad (.c (.int .i64 0)))] (some [0, 6, 7])) acJ) acK
def acM : R := .seq (.U [ro 2 (.af (.c (.bool false)))] (some [0])) acL
theorem acN : bt ⟨42, [0]⟩ (Tryz.f166.body.getD .skip) = some acM.strip := by kernel_rfl
def acO : R := .seq (.U [ro 4 (.aP 119 (.t 2) 0),
 ro 5 (.aD 9 (.t 4)),
 ro 6 (.aD 9 (.t 1)),
 ro 7 (.aq .eql 9 (.t 5) (.t 6)),
 ro 3 (.af (.t 7))] (some [3])) .ret
def acP : R := .seq (.U [ro 2 (.c2 119 (.t 0)),
 ro 3 (.af (.c (.bool false)))] (some [1, 2])) acO
theorem acQ : bt ⟨8, [0, 1]⟩ (Tryz.f204.body.getD .skip) = some acP.strip := by kernel_rfl
def acR : R := .seq (.U [ro 17 (.ad (.t 5)),
 ro 4 (.af (.t 17))] (some [4])) .ret
def acS : R := .cond (.t 16) acR .skip
def acT : R := .seq (.U [ro 11 (.ad (.t 1)),
 ro 12 (.ad (.t 0)),
 ro 13 (.ad (.t 5)),
 ro 14 (.bJ 32 (.t 12) (.t 13)),
 ro 15 (.aD 119 (.t 14)),
 ro 16 (.call (.t 11) [(.t 15)])] (some [0, 1, 5, 7, 8, 16])) acS
def acU : R := .U [ro 18 (.aq .add 3 (.t 8) (.c (.int .i64 1))),
 ro 8 (.ad (.t 18))] (some [0, 1, 7, 8])
def acV : R := .seq (.block 1 (.seq (.U [ro 10 (.ad (.t 8)),
 ro 5 (.af (.t 10))] (some [0, 1, 5, 7, 8])) acT)) acU
def acW : R := .seq (.cond (.t 9) .skip (.exit 0)) acV
def KX : R := .seq (.U [ro 9 (.aq .lss 3 (.t 8) (.t 7))] (some [0, 1, 7, 8, 9])) acW
def acX : R := .block 0 (.loop KX)
def acY : R := .seq (.U [ro 4 (.af (.c (.int .i64 (-1))))] (some [4])) .ret
def acZ : R := .seq (.seq (.U [ro 6 (.ad (.t 0)),
 ro 7 (.len 32 (.t 6)),
 ro 8 (.ad (.c (.int .i64 0)))] (some [0, 1, 7, 8])) acX) acY
def ac0 : R := .seq (.U [ro 4 (.af (.c (.int .i64 0)))] (some [0, 1])) acZ
theorem ac1 : bt ⟨19, [0, 1]⟩ (Tryz.f203.body.getD .skip) = some ac0.strip := by kernel_rfl
def ac2 : R := .seq (.U [ro 5 (.ad (.t 0)),
 ro 6 (.h8 204 [(.t 3)]),
 ro 7 (.call (.f 203) [(.t 5), (.t 6)]),
 ro 4 (.af (.t 7))] (some [4])) .ret
def ac3 : R := .seq (.U [ro 3 (.c2 9 (.t 1)),
 ro 4 (.af (.c (.int .i64 0)))] (some [0, 3])) ac2
theorem ac4 : bt ⟨8, [0, 1]⟩ (Tryz.f167.body.getD .skip) = some ac3.strip := by kernel_rfl
def ac5 : R := .U [ro 8 (.aq .eql 2 (.t 4) (.c (.int .i64 4))),
 ro 5 (.af (.t 8))] (some [4, 5])
def ac6 : R := .cond (.t 5) .skip ac5
def ac7 : R := .seq (.U [ro 7 (.aq .eql 2 (.t 4) (.c (.int .i64 3))),
 ro 5 (.af (.t 7))] (some [4, 5])) ac6
def ac8 : R := .cond (.t 5) .skip ac7
def ac9 : R := .seq (.U [ro 2 (.af (.c (.int .i64 1)))] (some [2])) .ret
def ac_ : R := .seq (.U [ro 2 (.af (.c (.int .i64 2)))] (some [2])) .ret
def ada : R := .cond (.t 9) ac_ .skip
def adb : R := .seq (.U [ro 10 (.aq .eql 2 (.t 4) (.c (.int .i64 2))),
 ro 9 (.af (.t 10))] (some [9])) ada
def KY : R := .cond (.t 5) ac9 adb
def ade : R := .block 0 (.seq (.seq (.U [ro 6 (.aq .eql 2 (.t 4) (.c (.int .i64 1))),
 ro 5 (.af (.t 6))] (some [4, 5])) ac8) KY)
def adf : R := .seq (.U [ro 2 (.af (.c (.int .i64 0)))] (some [2])) .ret
def adg : R := .seq (.seq (.U [ro 3 (.aP 122 (.t 1) 0),
 ro 4 (.aD 2 (.t 3))] (some [4])) ade) adf
def adh : R := .seq (.U [ro 1 (.c2 122 (.t 0)),
 ro 2 (.af (.c (.int .i64 0)))] (some [1])) adg
theorem adi : bt ⟨11, [0]⟩ (Tryz.f134.body.getD .skip) = some adh.strip := by kernel_rfl
def adj : R := .cond (.t 7) .skip (.exit 0)
def adk : R := .seq (.U [ro 4 (.af (.c (.int .i64 (-1))))] (some [4])) .ret
def adl : R := .cond (.t 14) adk .skip
def adm : R := .U [ro 15 (.ad (.t 5)),
 ro 16 (.aP 119 (.t 2) 2),
 ro 17 (.aD 117 (.t 16)),
 ro 18 (.ad (.t 1)),
 ro 19 (.bJ 117 (.t 17) (.t 18)),
 ro 20 (.aD 122 (.t 19)),
 ro 21 (.call (.f 134) [(.t 20)]),
 ro 22 (.aq .sub 3 (.t 21) (.c (.int .i64 1))),
 ro 23 (.aq .add 3 (.t 15) (.t 22)),
 ro 5 (.af (.t 23))] (some [1, 2, 5])
def adn : R := .U [ro 8 (.ad (.t 1)),
 ro 9 (.aq .add 3 (.t 8) (.c (.int .i64 1))),
 ro 1 (.af (.t 9))] (some [1, 2, 5])
def ado : R := .seq (.block 1 (.seq (.seq (.U [ro 10 (.ad (.t 1)),
 ro 11 (.aP 119 (.t 2) 2),
 ro 12 (.aD 117 (.t 11)),
 ro 13 (.len 117 (.t 12)),
 ro 14 (.aq .geq 3 (.t 10) (.t 13))] (some [1, 2, 5, 14])) adl) adm)) adn
def KZ : R := .seq (.seq (.U [ro 6 (.ad (.t 5)),
 ro 7 (.aq .gtr 3 (.t 6) (.c (.int .i64 0)))] (some [1, 2, 5, 7])) adj) ado
def adp : R := .block 0 (.loop KZ)
def adq : R := .seq (.U [ro 24 (.ad (.t 1)),
 ro 4 (.af (.t 24))] (some [4])) .ret
def adr : R := .seq (.seq (.U [ro 5 (.af (.c (.int .i64 1)))] (some [1, 2, 5])) adp) adq
def ads : R := .seq (.U [ro 2 (.c2 119 (.t 0)),
 ro 4 (.af (.c (.int .i64 0)))] (some [1, 2])) adr
theorem adt : bt ⟨25, [0]⟩ (Tryz.f205.body.getD .skip) = some ads.strip := by kernel_rfl
def adu : R := .U [ro 29 (.aP 132 (.t 9) 0),
 ro 30 (.aD 2 (.t 29)),
 ro 31 (.aq .add 2 (.t 30) (.c (.int .i64 1))),
 ro 32 (.aP 132 (.t 9) 0),
 ⟨none, .cx 2 (.t 32) (.t 31), none⟩] (some [0, 2, 3, 4, 8, 9])
def adv : R := .cond (.t 28) adu .skip
def adw : R := .U [ro 43 (.aq .add 3 (.t 37) (.c (.int .i64 1))),
 ro 37 (.ad (.t 43))] (some [2, 3, 4, 9, 10, 36, 37])
def adx : R := .seq (.block 1 (.iM (Ed aJ 133 4 2 39 ((List.range 3).map (· + 2)) [ro 40 (.ad (.t 10)), ro 41 (.aD 132 (.t 9))] [(.t 40), (.t 41)] (some 42) [ro 10 (.af (.t 42))] [2, 3, 4, 9, 10, 36, 37]) (Jl 180 4 39 [ro 40 (.ad (.t 10)), ro 41 (.aD 132 (.t 9))] [(.t 40), (.t 41)] (some 42) [ro 10 (.af (.t 42))]))) adw
def ady : R := .seq (.cond (.t 38) .skip (.exit 0)) adx
def K0 : R := .seq (.U [ro 38 (.aq .lss 3 (.t 37) (.t 36))] (some [2, 3, 4, 9, 10, 36, 37, 38])) ady
def adz : R := .block 0 (.loop K0)
def adA : R := .seq (.U [ro 44 (.ad (.t 10)),
 ro 7 (.af (.t 44))] (some [2, 3, 4, 7])) .ret
def adB : R := .seq (.seq (.U [ro 35 (.aD 122 (.t 8)),
 ro 36 (.call (.f 134) [(.t 35)]),
 ro 37 (.ad (.c (.int .i64 0)))] (some [2, 3, 4, 9, 10, 36, 37])) adz) adA
def K1 : R := .seq (.U [ro 33 (.ad (.t 0)),
 ro 34 (.aq .add 3 (.t 33) (.c (.int .i64 1))),
 ro 10 (.af (.t 34))] (some [2, 3, 4, 8, 9, 10])) adB
def adC : R := .seq (.seq (.U [ro 26 (.aP 122 (.t 8) 0),
 ro 27 (.aD 2 (.t 26)),
 ro 28 (.aq .eql 2 (.t 27) (.c (.int .i64 4)))] (some [0, 2, 3, 4, 8, 9, 28])) adv) K1
def adD : R := .seq (.U [ro 20 (.aP 132 (.t 6) 0),
 ro 21 (.aD 2 (.t 20)),
 ro 22 (.aP 122 (.t 8) 0),
 ro 23 (.aD 2 (.t 22)),
 ro 24 (.aq .eql 2 (.t 23) (.c (.int .i64 1))),
 ro 25 (.fC 132 [(0, (.t 21)), (1, (.t 24))]),
 ro 9 (.eB 132),
 ⟨none, .cx 132 (.t 9) (.t 25), none⟩] (some [0, 2, 3, 4, 8, 9])) adC
def adE : R := .seq (.U [ro 15 (.aP 119 (.t 3) 2),
 ro 16 (.aD 117 (.t 15)),
 ro 17 (.ad (.t 0)),
 ro 18 (.bJ 117 (.t 16) (.t 17)),
 ro 19 (.aD 122 (.t 18)),
 ro 8 (.eB 122),
 ⟨none, .cx 122 (.t 8) (.t 19), none⟩] (some [0, 2, 3, 4, 6, 8])) adD
def adF : R := .seq (.U [ro 11 (.aD 129 (.t 2)),
 ro 12 (.ad (.t 0)),
 ro 13 (.aD 132 (.t 6)),
 ro 14 (.bJ 129 (.t 11) (.t 12)),
 ⟨none, .cx 132 (.t 14) (.t 13), none⟩] (some [0, 2, 3, 4, 6])) adE
def K2 : R := .seq (.U [ro 6 (.c2 132 (.t 1)),
 ro 7 (.af (.c (.int .i64 0)))] (some [0, 2, 3, 4, 6])) adF
theorem adG : K2.lZ (zr aJ 133 [0, 1, 2, 3, 4] 5 2 4) := And.intro (True.intro) (And.intro (True.intro) (And.intro (True.intro) (And.intro (True.intro) (And.intro (And.intro (True.intro) (And.intro (True.intro) (True.intro))) (And.intro (True.intro) (And.intro (And.intro (True.intro) (And.intro (True.intro) (And.intro (And.intro (True.intro) (True.intro)) (And.intro (⟨180, 2, 39, 3, _, _, _, _, _, rfl, rfl, (by kernel_rfl), rfl, rfl, rfl, rfl, rfl, rfl, rfl⟩) (True.intro))))) (And.intro (True.intro) (True.intro))))))))
theorem adH : bt ⟨45, [0, 1, 2, 3, 4]⟩ (Tryz.f133.body.getD .skip) = some K2.strip := by kernel_rfl
def E4 : R := .seq (.U [ro 15 (.aD 129 (.t 3)),
 ro 2 (.af (.t 15))] (some [2])) .ret
def adI : R := .seq (.U [ro 10 (.aD 180 (.t 4)),
 ro 11 (.aP 119 (.t 1) 1),
 ro 12 (.aD 2 (.t 11)),
 ro 13 (.fC 132 [(0, (.t 12))]),
 ro 14 (.call (.t 10) [(.c (.int .i64 0)), (.t 13)])] (some [3])) E4
def avV : R := .seq (.U [ro 9 (.h8 133 [(.t 3), (.t 1), (.t 4)]),
 ⟨none, .cx 180 (.t 4) (.t 9), none⟩] (some [1, 3, 4])) adI
def adJ : R := .iM (Eh aJ 133 4 2 10 9 [3, 1, 4] [ro 11 (.aP 119 (.t 1) 1), ro 12 (.aD 2 (.t 11)), ro 13 (.fC 132 [(0, (.t 12))])] [(.c (.int .i64 0)), (.t 13)] (some 14) [3] E4) (Jq 180 133 4 10 9 [3, 1, 4] [ro 11 (.aP 119 (.t 1) 1), ro 12 (.aD 2 (.t 11)), ro 13 (.fC 132 [(0, (.t 12))])] [(.c (.int .i64 0)), (.t 13)] (some 14) E4.kb)
def adK : R := .seq (.U [ro 5 (.aP 119 (.t 1) 2),
 ro 6 (.aD 117 (.t 5)),
 ro 7 (.len 117 (.t 6)),
 ro 8 (.eV 129 (.t 7) (.t 7)),
 ro 3 (.eB 129),
 ⟨none, .cx 129 (.t 3) (.t 8), none⟩] (some [1, 3])) adJ
def K3 : R := .seq (.U [ro 1 (.c2 119 (.t 0)),
 ro 2 (.af (.c .bc))] (some [1])) adK
theorem adL : K3.lZ (wb aJ) := And.intro (True.intro) (And.intro (True.intro) (⟨180, 133, 4, 2, 10, 9, _, _, _, _, _, _, rfl, rfl, (by kernel_rfl), ⟨Tryz.t180, _, _, (by kernel_rfl), rfl, rfl, rfl, rfl⟩, rfl, rfl, rfl, rfl, (by kernel_rfl)⟩))
theorem adM : bt ⟨16, [0]⟩ (Tryz.f80.body.getD .skip) = some K3.strip := by kernel_rfl
def adN : R := .seq (.U [ro 26 (.aP 122 (.t 1) 0),
 ro 27 (.aD 2 (.t 26)),
 ro 28 (.call (.f 95) [(.t 27), (.c (.int .i64 0)), (.c (.int .i64 5))]),
 ro 29 (.ad (.t 28)),
 ⟨some 30, .ad (.t 3), some (29, true)⟩,
 ⟨some 31, .ad (.t 30), some (29, true)⟩,
 ⟨some 32, .aP 122 (.t 1) 1, some (31, false)⟩,
 ⟨some 33, .aD 2 (.t 32), some (31, false)⟩,
 ⟨some 34, .aq .eql 2 (.t 33) (.c (.int .i64 0)), some (31, false)⟩,
 ⟨some 35, .pick (.t 31) (.c (.bool true)) (.t 34), some (29, true)⟩,
 ro 36 (.pick (.t 29) (.t 35) (.c (.bool false))),
 ro 37 (.ad (.t 36)),
 ⟨some 38, .aP 122 (.t 1) 0, some (37, true)⟩,
 ⟨some 39, .aD 2 (.t 38), some (37, true)⟩,
 ⟨some 40, .aq .eql 2 (.t 39) (.c (.int .i64 1)), some (37, true)⟩,
 ⟨some 41, .ad (.t 40), some (37, true)⟩,
 ⟨some 42, .aP 122 (.t 1) 2, some (41, false)⟩,
 ⟨some 43, .aD 9 (.t 42), some (41, false)⟩,
 ⟨some 44, .aq .eql 9 (.t 43) (.c (.str [])), some (41, false)⟩,
 ⟨some 45, .pick (.t 41) (.c (.bool true)) (.t 44), some (37, true)⟩,
 ro 46 (.pick (.t 37) (.t 45) (.c (.bool false))),
 ro 47 (.ad (.t 46)),
 ⟨some 48, .ad (.t 4), some (47, true)⟩,
 ⟨some 49, .ad (.t 48), some (47, true)⟩,
 ⟨some 50, .aP 122 (.t 1) 3, some (49, false)⟩,
 ⟨some 51, .aD 120 (.t 50), some (49, false)⟩,
 ⟨some 52, .len 120 (.t 51), some (49, false)⟩,
 ⟨some 53, .aq .eql 3 (.t 52) (.c (.int .i64 0)), some (49, false)⟩,
 ⟨some 54, .pick (.t 49) (.c (.bool true)) (.t 53), some (47, true)⟩,
 ro 55 (.pick (.t 47) (.t 54) (.c (.bool false))),
 ro 2 (.af (.t 55))] (some [2])) .ret
def adO : R := .seq (.U [ro 13 (.aP 122 (.t 1) 0),
 ro 14 (.aD 2 (.t 13)),
 ro 15 (.aq .eql 2 (.t 14) (.c (.int .i64 1))),
 ro 16 (.ad (.t 15)),
 ⟨some 17, .aP 122 (.t 1) 0, some (16, false)⟩,
 ⟨some 18, .aD 2 (.t 17), some (16, false)⟩,
 ⟨some 19, .aq .eql 2 (.t 18) (.c (.int .i64 3)), some (16, false)⟩,
 ro 20 (.pick (.t 16) (.c (.bool true)) (.t 19)),
 ro 21 (.ad (.t 20)),
 ⟨some 22, .aP 122 (.t 1) 0, some (21, false)⟩,
 ⟨some 23, .aD 2 (.t 22), some (21, false)⟩,
 ⟨some 24, .aq .eql 2 (.t 23) (.c (.int .i64 5)), some (21, false)⟩,
 ro 25 (.pick (.t 21) (.c (.bool true)) (.t 24)),
 ro 4 (.af (.t 25))] (some [1, 3, 4])) adN
def adP : R := .seq (.U [ro 5 (.aP 122 (.t 1) 0),
 ro 6 (.aD 2 (.t 5)),
 ro 7 (.aq .eql 2 (.t 6) (.c (.int .i64 4))),
 ro 8 (.ad (.t 7)),
 ⟨some 9, .aP 122 (.t 1) 0, some (8, false)⟩,
 ⟨some 10, .aD 2 (.t 9), some (8, false)⟩,
 ⟨some 11, .aq .eql 2 (.t 10) (.c (.int .i64 5)), some (8, false)⟩,
 ro 12 (.pick (.t 8) (.c (.bool true)) (.t 11)),
 ro 3 (.af (.t 12))] (some [1, 3])) adO
def adQ : R := .seq (.U [ro 1 (.c2 122 (.t 0)),
 ro 2 (.af (.c (.bool false)))] (some [1])) adP
theorem adR : bt ⟨56, [0]⟩ (Tryz.f219.body.getD .skip) = some adQ.strip := by kernel_rfl
def adS : R := .seq (.U [ro 3 (.ad (.t 0)),
 ro 4 (.call (.f 166) [(.t 3)]),
 ro 5 (.ad (.t 4)),
 ⟨some 6, .ad (.t 0), some (5, true)⟩,
 ⟨some 7, .aq .neq 9 (.t 6) (.c (.str [116, 97, 117])), some (5, true)⟩,
 ro 8 (.pick (.t 5) (.t 7) (.c (.bool false))),
 ro 2 (.af (.t 8))] (some [2])) .ret
def adT : R := .seq (.U [ro 2 (.af (.c (.bool false)))] (some [0])) adS
theorem adU : bt ⟨9, [0]⟩ (Tryz.f149.body.getD .skip) = some adT.strip := by kernel_rfl
def adV : R := .seq (.U [ro 5 (.ad (.t 0)),
 ro 6 (.ad (.t 1)),
 ro 7 (.aq .sub 2 (.t 6) (.c (.int .i64 1))),
 ro 8 (.call (.f 95) [(.t 5), (.c (.int .i64 0)), (.t 7)]),
 ro 4 (.af (.t 8))] (some [4])) .ret
def adW : R := .seq (.U [ro 4 (.af (.c (.bool false)))] (some [0, 1])) adV
theorem adX : bt ⟨9, [0, 1]⟩ (Tryz.f170.body.getD .skip) = some adW.strip := by kernel_rfl
def adY : R := .seq (.U [ro 13 (.ad (.t 5)),
 ro 14 (.aq .eql 3 (.t 13) (.c (.int .i64 0))),
 ro 15 (.ad (.t 14)),
 ⟨some 16, .aP 122 (.t 2) 2, some (15, false)⟩,
 ⟨some 17, .aD 9 (.t 16), some (15, false)⟩,
 ⟨some 18, .aq .neq 9 (.t 17) (.c (.str [116, 97, 117])), some (15, false)⟩,
 ⟨some 19, .ad (.t 18), some (15, false)⟩,
 ⟨some 20, .ad (.t 5), some (19, true)⟩,
 ⟨some 21, .aq .leq 3 (.t 20) (.c (.int .i64 2)), some (19, true)⟩,
 ⟨some 22, .pick (.t 19) (.t 21) (.c (.bool false)), some (15, false)⟩,
 ro 23 (.pick (.t 15) (.c (.bool true)) (.t 22)),
 ro 4 (.af (.t 23))] (some [4])) .ret
def adZ : R := .seq (.U [ro 26 (.ad (.t 5)),
 ro 27 (.aq .eql 3 (.t 26) (.c (.int .i64 1))),
 ro 4 (.af (.t 27))] (some [4])) .ret
def ad0 : R := .seq (.U [ro 30 (.ad (.t 5)),
 ro 31 (.ad (.t 1)),
 ro 32 (.aP 122 (.t 2) 1),
 ro 33 (.aD 2 (.t 32)),
 ro 34 (.bJ 32 (.t 31) (.t 33)),
 ro 35 (.aP 119 (.t 34) 1),
 ro 36 (.aD 2 (.t 35)),
 ro 37 (.aq .eql 2 (.t 30) (.t 36)),
 ro 4 (.af (.t 37))] (some [4])) .ret
def ad1 : R := .cond (.t 28) ad0 .skip
def ad2 : R := .seq (.U [ro 29 (.aq .eql 2 (.t 10) (.c (.int .i64 5))),
 ro 28 (.af (.t 29))] (some [1, 2, 5, 28])) ad1
def ad3 : R := .cond (.t 24) adZ ad2
def ad4 : R := .seq (.U [ro 25 (.aq .eql 2 (.t 10) (.c (.int .i64 3))),
 ro 24 (.af (.t 25))] (some [1, 2, 5, 10, 24])) ad3
def ad5 : R := .cond (.t 11) adY ad4
def ad6 : R := .block 0 (.seq (.U [ro 12 (.aq .eql 2 (.t 10) (.c (.int .i64 1))),
 ro 11 (.af (.t 12))] (some [1, 2, 5, 10, 11])) ad5)
def ad7 : R := .seq (.U [ro 4 (.af (.c (.bool true)))] (some [4])) .ret
def ad8 : R := .seq (.seq (.U [ro 9 (.aP 122 (.t 2) 0),
 ro 10 (.aD 2 (.t 9))] (some [1, 2, 5, 10])) ad6) ad7
def ad9 : R := .seq (.U [ro 6 (.aP 122 (.t 2) 3),
 ro 7 (.aD 120 (.t 6)),
 ro 8 (.len 120 (.t 7)),
 ro 5 (.af (.t 8))] (some [1, 2, 5])) ad8
def ad_ : R := .seq (.U [ro 2 (.c2 122 (.t 0)),
 ro 4 (.af (.c (.bool false)))] (some [1, 2])) ad9
theorem aea : bt ⟨38, [0, 1]⟩ (Tryz.f220.body.getD .skip) = some ad_.strip := by kernel_rfl
def aeb : R := .seq (.U [ro 3 (.ad (.t 0)),
 ro 4 (.call (.f 95) [(.t 3), (.c (.int .i64 0)), (.c (.int .i64 63))]),
 ro 2 (.af (.t 4))] (some [2])) .ret
def aec : R := .seq (.U [ro 2 (.af (.c (.bool false)))] (some [0])) aeb
theorem aed : bt ⟨5, [0]⟩ (Tryz.f180.body.getD .skip) = some aec.strip := by kernel_rfl
def aee : R := .seq (.U [ro 9 (.aP 191 (.t 2) 1),
 ro 10 (.aD 2 (.t 9)),
 ro 11 (.call (.f 180) [(.t 10)]),
 ro 4 (.af (.t 11))] (some [4])) .ret
def aef : R := .seq (.U [ro 14 (.aP 191 (.t 2) 1),
 ro 15 (.aD 2 (.t 14)),
 ro 16 (.ad (.t 1)),
 ro 17 (.aq .sub 2 (.t 16) (.c (.int .i64 1))),
 ro 18 (.call (.f 95) [(.t 15), (.c (.int .i64 0)), (.t 17)]),
 ro 4 (.af (.t 18))] (some [4])) .ret
def aeg : R := .seq (.U [ro 21 (.aP 191 (.t 2) 1),
 ro 22 (.aD 2 (.t 21)),
 ro 23 (.call (.f 95) [(.t 22), (.c (.int .i64 0)), (.c (.int .i64 8))]),
 ro 4 (.af (.t 23))] (some [4])) .ret
def aeh : R := .seq (.U [ro 26 (.aP 191 (.t 2) 1),
 ro 27 (.aD 2 (.t 26)),
 ro 28 (.aq .eql 2 (.t 27) (.c (.int .i64 0))),
 ro 4 (.af (.t 28))] (some [4])) .ret
def aei : R := .cond (.t 24) aeh .skip
def aej : R := .seq (.U [ro 25 (.aq .eql 2 (.t 6) (.c (.int .i64 3))),
 ro 24 (.af (.t 25))] (some [2, 24])) aei
def aek : R := .cond (.t 19) aeg aej
def ael : R := .seq (.U [ro 20 (.aq .eql 2 (.t 6) (.c (.int .i64 2))),
 ro 19 (.af (.t 20))] (some [2, 6, 19])) aek
def aem : R := .cond (.t 12) aef ael
def aen : R := .seq (.U [ro 13 (.aq .eql 2 (.t 6) (.c (.int .i64 1))),
 ro 12 (.af (.t 13))] (some [1, 2, 6, 12])) aem
def aeo : R := .cond (.t 7) aee aen
def aep : R := .block 0 (.seq (.U [ro 8 (.aq .eql 2 (.t 6) (.c (.int .i64 0))),
 ro 7 (.af (.t 8))] (some [1, 2, 6, 7])) aeo)
def aeq : R := .seq (.U [ro 4 (.af (.c (.bool false)))] (some [4])) .ret
def aer : R := .seq (.seq (.U [ro 5 (.aP 191 (.t 2) 0),
 ro 6 (.aD 2 (.t 5))] (some [1, 2, 6])) aep) aeq
def aes : R := .seq (.U [ro 2 (.c2 191 (.t 0)),
 ro 4 (.af (.c (.bool false)))] (some [1, 2])) aer
theorem aet : bt ⟨29, [0, 1]⟩ (Tryz.f182.body.getD .skip) = some aes.strip := by kernel_rfl
def aeu : R := .seq (.U [ro 2 (.af (.c (.int .i64 2)))] (some [2])) .ret
def aev : R := .seq (.U [ro 2 (.af (.c (.int .i64 1)))] (some [2])) .ret
def aew : R := .cond (.t 7) aev .skip
def aex : R := .seq (.U [ro 8 (.aq .eql 2 (.t 4) (.c (.int .i64 3))),
 ro 7 (.af (.t 8))] (some [7])) aew
def aey : R := .cond (.t 5) aeu aex
def aez : R := .block 0 (.seq (.U [ro 6 (.aq .eql 2 (.t 4) (.c (.int .i64 2))),
 ro 5 (.af (.t 6))] (some [4, 5])) aey)
def aeA : R := .seq (.U [ro 2 (.af (.c (.int .i64 0)))] (some [2])) .ret
def aeB : R := .seq (.seq (.U [ro 3 (.aP 191 (.t 1) 0),
 ro 4 (.aD 2 (.t 3))] (some [4])) aez) aeA
def aeC : R := .seq (.U [ro 1 (.c2 191 (.t 0)),
 ro 2 (.af (.c (.int .i64 0)))] (some [1])) aeB
theorem aeD : bt ⟨9, [0]⟩ (Tryz.f183.body.getD .skip) = some aeC.strip := by kernel_rfl
def aeE : R := .seq (.U [ro 6 (.af (.c (.bool false)))] (some [6])) .ret
def aeF : R := .cond (.t 24) aeE .skip
def aeG : R := .seq (.U [ro 6 (.af (.c (.bool false)))] (some [6])) .ret
def aeH : R := .cond (.t 38) aeG .skip
def aeI : R := .U [ro 39 (.ad (.t 7)),
 ro 40 (.aD 191 (.t 9)),
 ro 41 (.call (.f 183) [(.t 40)]),
 ro 42 (.aq .sub 3 (.t 41) (.c (.int .i64 1))),
 ro 43 (.aq .add 3 (.t 39) (.t 42)),
 ro 7 (.af (.t 43))] (some [1, 7, 25, 26, 27])
def aeJ : R := .seq (.seq (.U [ro 31 (.ad (.t 7)),
 ro 32 (.aq .eql 3 (.t 31) (.c (.int .i64 0))),
 ro 33 (.ad (.t 32)),
 ⟨some 34, .aD 191 (.t 9), some (33, false)⟩,
 ⟨some 35, .ad (.t 1), some (33, false)⟩,
 ⟨some 36, .call (.f 182) [(.t 34), (.t 35)], some (33, false)⟩,
 ⟨some 37, .un .not (.t 36), some (33, false)⟩,
 ro 38 (.pick (.t 33) (.c (.bool true)) (.t 37))] (some [1, 7, 9, 25, 26, 27, 38])) aeH) aeI
def aeK : R := .U [ro 44 (.aq .add 3 (.t 27) (.c (.int .i64 1))),
 ro 27 (.ad (.t 44))] (some [1, 7, 25, 26, 27])
def aeL : R := .seq (.block 1 (.seq (.U [ro 29 (.bJ 147 (.t 25) (.t 27)),
 ro 30 (.aD 191 (.t 29)),
 ro 9 (.eB 191),
 ⟨none, .cx 191 (.t 9) (.t 30), none⟩] (some [1, 7, 9, 25, 26, 27])) aeJ)) aeK
def aeM : R := .seq (.cond (.t 28) .skip (.exit 0)) aeL
def K4 : R := .seq (.U [ro 28 (.aq .lss 3 (.t 27) (.t 26))] (some [1, 7, 25, 26, 27, 28])) aeM
def aeN : R := .block 0 (.loop K4)
def aeO : R := .seq (.U [ro 45 (.ad (.t 7)),
 ro 46 (.aq .eql 3 (.t 45) (.c (.int .i64 0))),
 ro 6 (.af (.t 46))] (some [6])) .ret
def aeP : R := .seq (.seq (.U [ro 25 (.ad (.t 0)),
 ro 26 (.len 147 (.t 25)),
 ro 27 (.ad (.c (.int .i64 0)))] (some [1, 7, 25, 26, 27])) aeN) aeO
def aeQ : R := .seq (.U [ro 7 (.af (.c (.int .i64 1)))] (some [0, 1, 7])) aeP
def aeR : R := .seq (.seq (.U [ro 10 (.ad (.t 1)),
 ro 11 (.call (.f 95) [(.t 10), (.c (.int .i64 0)), (.c (.int .i64 29))]),
 ro 12 (.un .not (.t 11)),
 ro 13 (.ad (.t 12)),
 ⟨some 14, .ad (.t 2), some (13, false)⟩,
 ⟨some 15, .call (.f 95) [(.t 14), (.c (.int .i64 1)), (.c (.int .i64 60))], some (13, false)⟩,
 ⟨some 16, .un .not (.t 15), some (13, false)⟩,
 ro 17 (.pick (.t 13) (.c (.bool true)) (.t 16)),
 ro 18 (.ad (.t 17)),
 ⟨some 19, .ad (.t 0), some (18, false)⟩,
 ⟨some 20, .len 147 (.t 19), some (18, false)⟩,
 ⟨some 21, .ad (.t 2), some (18, false)⟩,
 ⟨some 22, .call (.f 95) [(.t 20), (.c (.int .i64 1)), (.t 21)], some (18, false)⟩,
 ⟨some 23, .un .not (.t 22), some (18, false)⟩,
 ro 24 (.pick (.t 18) (.c (.bool true)) (.t 23))] (some [0, 1, 24])) aeF) aeQ
def aeS : R := .seq (.U [ro 6 (.af (.c (.bool false)))] (some [0, 1, 2])) aeR
theorem aeT : bt ⟨47, [0, 1, 2]⟩ (Tryz.f153.body.getD .skip) = some aeS.strip := by kernel_rfl
def aeU : R := .seq (.U [ro 4 (.ad (.t 0)),
 ro 5 (.aP 132 (.t 1) 0),
 ro 6 (.aD 2 (.t 5)),
 ro 7 (.call (.f 153) [(.t 4), (.t 6), (.c (.int .i64 15))]),
 ro 8 (.un .not (.t 7)),
 ro 3 (.af (.t 8))] (some [3])) .ret
def aeV : R := .seq (.U [ro 3 (.af (.c (.bool false)))] (some [0, 1])) aeU
theorem aeW : bt ⟨9, [0, 1]⟩ (Tryz.f221.body.getD .skip) = some aeV.strip := by kernel_rfl
def aeX : R := .seq (.U [ro 17 (.ad (.t 5)),
 ro 4 (.af (.t 17))] (some [4])) .ret
def aeY : R := .cond (.t 16) aeX .skip
def aeZ : R := .seq (.U [ro 11 (.ad (.t 1)),
 ro 12 (.ad (.t 0)),
 ro 13 (.ad (.t 5)),
 ro 14 (.bJ 120 (.t 12) (.t 13)),
 ro 15 (.aD 147 (.t 14)),
 ro 16 (.call (.t 11) [(.t 15)])] (some [0, 1, 5, 7, 8, 16])) aeY
def ae0 : R := .U [ro 18 (.aq .add 3 (.t 8) (.c (.int .i64 1))),
 ro 8 (.ad (.t 18))] (some [0, 1, 7, 8])
def ae1 : R := .seq (.block 1 (.seq (.U [ro 10 (.ad (.t 8)),
 ro 5 (.af (.t 10))] (some [0, 1, 5, 7, 8])) aeZ)) ae0
def ae2 : R := .seq (.cond (.t 9) .skip (.exit 0)) ae1
def K5 : R := .seq (.U [ro 9 (.aq .lss 3 (.t 8) (.t 7))] (some [0, 1, 7, 8, 9])) ae2
def ae3 : R := .block 0 (.loop K5)
def ae4 : R := .seq (.U [ro 4 (.af (.c (.int .i64 (-1))))] (some [4])) .ret
def ae5 : R := .seq (.seq (.U [ro 6 (.ad (.t 0)),
 ro 7 (.len 120 (.t 6)),
 ro 8 (.ad (.c (.int .i64 0)))] (some [0, 1, 7, 8])) ae3) ae4
def ae6 : R := .seq (.U [ro 4 (.af (.c (.int .i64 0)))] (some [0, 1])) ae5
theorem ae7 : bt ⟨19, [0, 1]⟩ (Tryz.f181.body.getD .skip) = some ae6.strip := by kernel_rfl
def ae8 : R := .seq (.U [ro 5 (.ad (.t 0)),
 ro 6 (.ad (.t 1)),
 ro 7 (.call (.f 181) [(.t 5), (.t 6)]),
 ro 8 (.aq .geq 3 (.t 7) (.c (.int .i64 0))),
 ro 4 (.af (.t 8))] (some [4])) .ret
def ae9 : R := .seq (.U [ro 4 (.af (.c (.bool false)))] (some [0, 1])) ae8
theorem ae_ : bt ⟨9, [0, 1]⟩ (Tryz.f150.body.getD .skip) = some ae9.strip := by kernel_rfl
def afa : R := .seq (.U [ro 6 (.af (.c (.int .i64 2)))] (some [6])) .ret
def afb : R := .seq (.U [ro 6 (.af (.c (.int .i64 3)))] (some [6])) .ret
def afc : R := .seq (.U [ro 6 (.af (.c (.int .i64 4)))] (some [6])) .ret
def afd : R := .seq (.U [ro 6 (.af (.c (.int .i64 5)))] (some [6])) .ret
def afe : R := .seq (.U [ro 6 (.af (.c (.int .i64 6)))] (some [6])) .ret
def aff : R := .seq (.U [ro 6 (.af (.c (.int .i64 7)))] (some [6])) .ret
def afg : R := .seq (.U [ro 6 (.af (.c (.int .i64 8)))] (some [6])) .ret
def afh : R := .cond (.t 72) afg .skip
def afi : R := .seq (.U [ro 73 (.aP 122 (.t 3) 3),
 ro 74 (.aD 120 (.t 73)),
 ro 75 (.h8 221 [(.t 5)]),
 ro 76 (.call (.f 150) [(.t 74), (.t 75)]),
 ro 72 (.af (.t 76))] (some [72])) afh
def afj : R := .cond (.t 63) aff afi
def afk : R := .seq (.U [ro 64 (.aP 122 (.t 3) 0),
 ro 65 (.aD 2 (.t 64)),
 ro 66 (.aq .eql 2 (.t 65) (.c (.int .i64 4))),
 ro 67 (.ad (.t 66)),
 ⟨some 68, .aP 132 (.t 5) 0, some (67, true)⟩,
 ⟨some 69, .aD 2 (.t 68), some (67, true)⟩,
 ⟨some 70, .aq .geq 2 (.t 69) (.c (.int .i64 6)), some (67, true)⟩,
 ro 71 (.pick (.t 67) (.t 70) (.c (.bool false))),
 ro 63 (.af (.t 71))] (some [3, 5, 63])) afj
def afl : R := .cond (.t 54) afe afk
def afm : R := .seq (.U [ro 55 (.aP 122 (.t 3) 0),
 ro 56 (.aD 2 (.t 55)),
 ro 57 (.aq .eql 2 (.t 56) (.c (.int .i64 5))),
 ro 58 (.ad (.t 57)),
 ⟨some 59, .aP 132 (.t 5) 1, some (58, true)⟩,
 ⟨some 60, .aD 4 (.t 59), some (58, true)⟩,
 ⟨some 61, .un .not (.t 60), some (58, true)⟩,
 ro 62 (.pick (.t 58) (.t 61) (.c (.bool false))),
 ro 54 (.af (.t 62))] (some [3, 5, 54])) afl
def afn : R := .cond (.t 49) afd afm
def afo : R := .seq (.U [ro 50 (.aD 122 (.t 3)),
 ro 51 (.ad (.t 1)),
 ro 52 (.call (.f 220) [(.t 50), (.t 51)]),
 ro 53 (.un .not (.t 52)),
 ro 49 (.af (.t 53))] (some [3, 5, 49])) afn
def K6 : R := .cond (.t 26) afc afo
def afp : R := .seq (.U [ro 27 (.aP 122 (.t 3) 0),
 ro 28 (.aD 2 (.t 27)),
 ro 29 (.aq .eql 2 (.t 28) (.c (.int .i64 4))),
 ro 30 (.ad (.t 29)),
 ⟨some 31, .aP 122 (.t 3) 1, some (30, true)⟩,
 ⟨some 32, .aD 2 (.t 31), some (30, true)⟩,
 ⟨some 33, .call (.f 95) [(.t 32), (.c (.int .i64 1)), (.c (.int .i64 7))], some (30, true)⟩,
 ⟨some 34, .un .not (.t 33), some (30, true)⟩,
 ro 35 (.pick (.t 30) (.t 34) (.c (.bool false))),
 ro 36 (.ad (.t 35)),
 ⟨some 37, .aP 122 (.t 3) 0, some (36, false)⟩,
 ⟨some 38, .aD 2 (.t 37), some (36, false)⟩,
 ⟨some 39, .aq .eql 2 (.t 38) (.c (.int .i64 5)), some (36, false)⟩,
 ⟨some 40, .ad (.t 39), some (36, false)⟩,
 ⟨some 41, .aP 122 (.t 3) 1, some (40, true)⟩,
 ⟨some 42, .aD 2 (.t 41), some (40, true)⟩,
 ⟨some 43, .ad (.t 1), some (40, true)⟩,
 ⟨some 44, .len 32 (.t 43), some (40, true)⟩,
 ⟨some 45, .call (.f 170) [(.t 42), (.t 44)], some (40, true)⟩,
 ⟨some 46, .un .not (.t 45), some (40, true)⟩,
 ⟨some 47, .pick (.t 40) (.t 46) (.c (.bool false)), some (36, false)⟩,
 ro 48 (.pick (.t 36) (.c (.bool true)) (.t 47)),
 ro 26 (.af (.t 48))] (some [1, 3, 5, 26])) K6
def K7 : R := .cond (.t 11) afb afp
def afq : R := .seq (.U [ro 12 (.aP 122 (.t 3) 0),
 ro 13 (.aD 2 (.t 12)),
 ro 14 (.aq .eql 2 (.t 13) (.c (.int .i64 1))),
 ro 15 (.ad (.t 14)),
 ⟨some 16, .aP 122 (.t 3) 2, some (15, true)⟩,
 ⟨some 17, .aD 9 (.t 16), some (15, true)⟩,
 ⟨some 18, .aq .neq 9 (.t 17) (.c (.str [116, 97, 117])), some (15, true)⟩,
 ro 19 (.pick (.t 15) (.t 18) (.c (.bool false))),
 ro 20 (.ad (.t 19)),
 ⟨some 21, .aP 122 (.t 3) 2, some (20, true)⟩,
 ⟨some 22, .aD 9 (.t 21), some (20, true)⟩,
 ⟨some 23, .call (.f 149) [(.t 22)], some (20, true)⟩,
 ⟨some 24, .un .not (.t 23), some (20, true)⟩,
 ro 25 (.pick (.t 20) (.t 24) (.c (.bool false))),
 ro 11 (.af (.t 25))] (some [1, 3, 5, 11])) K7
def afr : R := .cond (.t 7) afa afq
def afs : R := .seq (.U [ro 6 (.af (.c (.int .i64 0)))] (some [6])) .ret
def aft : R := .seq (.block 0 (.seq (.U [ro 8 (.aD 122 (.t 3)),
 ro 9 (.call (.f 219) [(.t 8)]),
 ro 10 (.un .not (.t 9)),
 ro 7 (.af (.t 10))] (some [1, 3, 5, 7])) afr)) afs
def afu : R := .seq (.U [ro 3 (.c2 122 (.t 0)),
 ro 5 (.c2 132 (.t 2)),
 ro 6 (.af (.c (.int .i64 0)))] (some [1, 3, 5])) aft
theorem afv : bt ⟨77, [0, 1, 2]⟩ (Tryz.f206.body.getD .skip) = some afu.strip := by kernel_rfl
def afw : R := .seq (.U [ro 4 (.af (.c (.int .i64 0))),
 ro 5 (.af (.c (.int .i64 1)))] (some [4, 5])) .ret
def afx : R := .cond (.t 22) afw .skip
def afy : R := .seq (.U [ro 42 (.ad (.t 7)),
 ro 43 (.ad (.t 9)),
 ro 4 (.af (.t 42)),
 ro 5 (.af (.t 43))] (some [4, 5])) .ret
def afz : R := .cond (.t 41) afy .skip
def afA : R := .seq (.U [ro 40 (.ad (.t 9)),
 ro 41 (.aq .neq 2 (.t 40) (.c (.int .i64 0)))] (some [0, 6, 7, 9, 26, 27, 28, 41])) afz
def afB : R := .seq (.gI [ro 33 (.aD 122 (.t 8)),
 ro 34 (.ad (.t 0)),
 ro 35 (.ad (.t 6)),
 ro 36 (.ad (.t 7)),
 ro 37 (.bJ 129 (.t 35) (.t 36)),
 ro 38 (.aD 132 (.t 37)),
 ro 39 (.call (.f 206) [(.t 33), (.t 34), (.t 38)]),
 ro 9 (.af (.t 39))] [[], [], [], [], [2, 3], [4], [0, 1, 5], [6, 6, 0, 1, 2, 3, 4, 5, 6]] (some [0, 6, 7, 9, 26, 27, 28])) afA
def afC : R := .U [ro 44 (.aq .add 3 (.t 28) (.c (.int .i64 1))),
 ro 28 (.ad (.t 44))] (some [0, 6, 26, 27, 28])
def afD : R := .seq (.block 1 (.seq (.U [ro 30 (.ad (.t 28)),
 ro 31 (.bJ 117 (.t 26) (.t 28)),
 ro 32 (.aD 122 (.t 31)),
 ro 8 (.eB 122),
 ro 7 (.af (.t 30)),
 ⟨none, .cx 122 (.t 8) (.t 32), none⟩] (some [0, 6, 7, 8, 26, 27, 28])) afB)) afC
def afE : R := .seq (.cond (.t 29) .skip (.exit 0)) afD
def K8 : R := .seq (.U [ro 29 (.aq .lss 3 (.t 28) (.t 27))] (some [0, 6, 26, 27, 28, 29])) afE
def afF : R := .block 0 (.loop K8)
def afG : R := .seq (.U [ro 4 (.af (.c (.int .i64 0))),
 ro 5 (.af (.c (.int .i64 0)))] (some [4, 5])) .ret
def afH : R := .seq (.seq (.U [ro 25 (.aP 119 (.t 3) 2),
 ro 26 (.aD 117 (.t 25)),
 ro 27 (.len 117 (.t 26)),
 ro 28 (.ad (.c (.int .i64 0)))] (some [0, 6, 26, 27, 28])) afF) afG
def afI : R := .seq (.U [ro 23 (.aD 119 (.t 3)),
 ro 24 (.call (.f 80) [(.t 23)]),
 ro 6 (.af (.t 24))] (some [0, 3, 6])) afH
def afJ : R := .seq (.seq (.gI [ro 10 (.aP 119 (.t 3) 2),
 ro 11 (.aD 117 (.t 10)),
 ro 12 (.len 117 (.t 11)),
 ro 13 (.call (.f 95) [(.t 12), (.c (.int .i64 1)), (.c (.int .i64 20))]),
 ro 14 (.un .not (.t 13)),
 ro 15 (.ad (.t 14)),
 ⟨some 16, .aD 119 (.t 3), some (15, false)⟩,
 ⟨some 17, .call (.f 205) [(.t 16), (.c (.int .i64 0))], some (15, false)⟩,
 ⟨some 18, .aP 119 (.t 3) 2, some (15, false)⟩,
 ⟨some 19, .aD 117 (.t 18), some (15, false)⟩,
 ⟨some 20, .len 117 (.t 19), some (15, false)⟩,
 ⟨some 21, .aq .neq 3 (.t 17) (.t 20), some (15, false)⟩,
 ro 22 (.pick (.t 15) (.c (.bool true)) (.t 21))] [[], [0], [1], [2], [3], [4, 3], [5], [6, 5, 5], [5], [8, 5], [9, 5], [7, 10, 5], [5, 11]] (some [0, 3, 22])) afx) afI
def afK : R := .seq (.U [ro 3 (.c2 119 (.t 1)),
 ro 4 (.af (.c (.int .i64 0))),
 ro 5 (.af (.c (.int .i64 0)))] (some [0, 3])) afJ
theorem afL : bt ⟨45, [0, 1]⟩ (Tryz.f168.body.getD .skip) = some afK.strip := by kernel_rfl
def afM : R := .seq (.U [ro 2 (.af (.c (.bool false)))] (some [2])) .ret
def afN : R := .cond (.t 15) afM .skip
def afO : R := .seq (.U [ro 2 (.af (.c (.bool false)))] (some [2])) .ret
def afP : R := .cond (.t 35) afO .skip
def afQ : R := .seq (.U [ro 2 (.af (.c (.bool false)))] (some [2])) .ret
def afR : R := .cond (.t 43) afQ .skip
def afS : R := .seq (.U [ro 42 (.ad (.t 6)),
 ro 43 (.aq .neq 2 (.t 42) (.c (.int .i64 0)))] (some [0, 16, 17, 18, 43])) afR
def afT : R := .seq (.U [ro 37 (.ad (.t 0)),
 ro 38 (.aD 119 (.t 4)),
 ro 39 (.call (.f 168) [(.t 37), (.t 38)]),
 ro 36 (.ad (.t 39)),
 ro 40 (.ex (.t 36) 0),
 ro 41 (.ex (.t 36) 1),
 ro 5 (.af (.t 40)),
 ro 6 (.af (.t 41))] (some [0, 6, 16, 17, 18])) afS
def afU : R := .seq (.seq (.gI [ro 23 (.aP 119 (.t 4) 0),
 ro 24 (.aD 9 (.t 23)),
 ro 25 (.call (.f 166) [(.t 24)]),
 ro 26 (.un .not (.t 25)),
 ro 27 (.ad (.t 26)),
 ⟨some 28, .ad (.t 0), some (27, false)⟩,
 ⟨some 29, .ad (.t 3), some (27, false)⟩,
 ⟨some 30, .fB 32 (.t 28) none (some (.t 29)), some (27, false)⟩,
 ⟨some 31, .aP 119 (.t 4) 0, some (27, false)⟩,
 ⟨some 32, .aD 9 (.t 31), some (27, false)⟩,
 ⟨some 33, .call (.f 167) [(.t 30), (.t 32)], some (27, false)⟩,
 ⟨some 34, .aq .geq 3 (.t 33) (.c (.int .i64 0)), some (27, false)⟩,
 ro 35 (.pick (.t 27) (.c (.bool true)) (.t 34))] [[], [0], [1], [2], [3, 2], [4], [4], [5, 6, 4], [4], [8, 4], [7, 9, 4, 4], [10, 4], [4, 11]] (some [0, 4, 16, 17, 18, 35])) afP) afT
def afV : R := .U [ro 44 (.aq .add 3 (.t 18) (.c (.int .i64 1))),
 ro 18 (.ad (.t 44))] (some [0, 16, 17, 18])
def afW : R := .seq (.block 1 (.seq (.U [ro 20 (.ad (.t 18)),
 ro 21 (.bJ 32 (.t 16) (.t 18)),
 ro 22 (.aD 119 (.t 21)),
 ro 4 (.eB 119),
 ro 3 (.af (.t 20)),
 ⟨none, .cx 119 (.t 4) (.t 22), none⟩] (some [0, 3, 4, 16, 17, 18])) afU)) afV
def afX : R := .seq (.cond (.t 19) .skip (.exit 0)) afW
def K9 : R := .seq (.U [ro 19 (.aq .lss 3 (.t 18) (.t 17))] (some [0, 16, 17, 18, 19])) afX
def afY : R := .block 0 (.loop K9)
def afZ : R := .seq (.U [ro 2 (.af (.c (.bool true)))] (some [2])) .ret
def af0 : R := .seq (.seq (.U [ro 16 (.ad (.t 0)),
 ro 17 (.len 32 (.t 16)),
 ro 18 (.ad (.c (.int .i64 0)))] (some [0, 16, 17, 18])) afY) afZ
def af1 : R := .seq (.seq (.U [ro 7 (.ad (.t 0)),
 ro 8 (.len 32 (.t 7)),
 ro 9 (.call (.f 95) [(.t 8), (.c (.int .i64 1)), (.c (.int .i64 4))]),
 ro 10 (.un .not (.t 9)),
 ro 11 (.ad (.t 10)),
 ⟨some 12, .ad (.t 0), some (11, false)⟩,
 ⟨some 13, .call (.f 165) [(.t 12)], some (11, false)⟩,
 ⟨some 14, .un .not (.t 13), some (11, false)⟩,
 ro 15 (.pick (.t 11) (.c (.bool true)) (.t 14))] (some [0, 15])) afN) af0
def af2 : R := .seq (.U [ro 2 (.af (.c (.bool false)))] (some [0])) af1
theorem af3 : bt ⟨45, [0]⟩ (Tryz.f127.body.getD .skip) = some af2.strip := by kernel_rfl
def af4 : R := .seq (.U [ro 3 (.ad (.t 0)),
 ro 4 (.call (.f 180) [(.t 3)]),
 ro 5 (.un .not (.t 4)),
 ro 2 (.af (.t 5))] (some [2])) .ret
def af5 : R := .seq (.U [ro 2 (.af (.c (.bool false)))] (some [0])) af4
theorem af6 : bt ⟨6, [0]⟩ (Tryz.f179.body.getD .skip) = some af5.strip := by kernel_rfl
def af7 : R := .seq (.U [ro 17 (.ad (.t 5)),
 ro 4 (.af (.t 17))] (some [4])) .ret
def af8 : R := .cond (.t 16) af7 .skip
def af9 : R := .seq (.U [ro 11 (.ad (.t 1)),
 ro 12 (.ad (.t 0)),
 ro 13 (.ad (.t 5)),
 ro 14 (.bJ 43 (.t 12) (.t 13)),
 ro 15 (.aD 2 (.t 14)),
 ro 16 (.call (.t 11) [(.t 15)])] (some [0, 1, 5, 7, 8, 16])) af8
def af_ : R := .U [ro 18 (.aq .add 3 (.t 8) (.c (.int .i64 1))),
 ro 8 (.ad (.t 18))] (some [0, 1, 7, 8])
def aga : R := .seq (.block 1 (.seq (.U [ro 10 (.ad (.t 8)),
 ro 5 (.af (.t 10))] (some [0, 1, 5, 7, 8])) af9)) af_
def agb : R := .seq (.cond (.t 9) .skip (.exit 0)) aga
def K_ : R := .seq (.U [ro 9 (.aq .lss 3 (.t 8) (.t 7))] (some [0, 1, 7, 8, 9])) agb
def agc : R := .block 0 (.loop K_)
def agd : R := .seq (.U [ro 4 (.af (.c (.int .i64 (-1))))] (some [4])) .ret
def age : R := .seq (.seq (.U [ro 6 (.ad (.t 0)),
 ro 7 (.len 43 (.t 6)),
 ro 8 (.ad (.c (.int .i64 0)))] (some [0, 1, 7, 8])) agc) agd
def agf : R := .seq (.U [ro 4 (.af (.c (.int .i64 0)))] (some [0, 1])) age
theorem agh : bt ⟨19, [0, 1]⟩ (Tryz.f209.body.getD .skip) = some agf.strip := by kernel_rfl
def agi : R := .seq (.U [ro 5 (.ad (.t 0)),
 ro 6 (.ad (.t 1)),
 ro 7 (.call (.f 209) [(.t 5), (.t 6)]),
 ro 8 (.aq .geq 3 (.t 7) (.c (.int .i64 0))),
 ro 4 (.af (.t 8))] (some [4])) .ret
def agj : R := .seq (.U [ro 4 (.af (.c (.bool false)))] (some [0, 1])) agi
theorem agk : bt ⟨9, [0, 1]⟩ (Tryz.f178.body.getD .skip) = some agj.strip := by kernel_rfl
def agl : R := .seq (.U [ro 3 (.ad (.t 0)),
 ro 4 (.call (.f 178) [(.t 3), (.f 179)]),
 ro 5 (.un .not (.t 4)),
 ro 2 (.af (.t 5))] (some [2])) .ret
def agm : R := .seq (.U [ro 2 (.af (.c (.bool false)))] (some [0])) agl
theorem agn : bt ⟨6, [0]⟩ (Tryz.f146.body.getD .skip) = some agm.strip := by kernel_rfl
def ago : R := .seq (.gI [ro 5 (.aP 124 (.t 3) 0),
 ro 6 (.aD 2 (.t 5)),
 ro 7 (.ad (.t 0)),
 ro 8 (.len 32 (.t 7)),
 ro 9 (.call (.f 170) [(.t 6), (.t 8)]),
 ro 10 (.ad (.t 9)),
 ⟨some 11, .aP 124 (.t 3) 1, some (10, true)⟩,
 ⟨some 12, .aD 43 (.t 11), some (10, true)⟩,
 ⟨some 13, .len 43 (.t 12), some (10, true)⟩,
 ⟨some 14, .ad (.t 0), some (10, true)⟩,
 ⟨some 15, .aP 124 (.t 3) 0, some (10, true)⟩,
 ⟨some 16, .aD 2 (.t 15), some (10, true)⟩,
 ⟨some 17, .bJ 32 (.t 14) (.t 16), some (10, true)⟩,
 ⟨some 18, .aP 119 (.t 17) 1, some (10, true)⟩,
 ⟨some 19, .aD 2 (.t 18), some (10, true)⟩,
 ⟨some 20, .aq .eql 2 (.t 13) (.t 19), some (10, true)⟩,
 ro 21 (.pick (.t 10) (.t 20) (.c (.bool false))),
 ro 22 (.ad (.t 21)),
 ⟨some 23, .aP 124 (.t 3) 1, some (22, true)⟩,
 ⟨some 24, .aD 43 (.t 23), some (22, true)⟩,
 ⟨some 25, .call (.f 146) [(.t 24)], some (22, true)⟩,
 ro 26 (.pick (.t 22) (.t 25) (.c (.bool false))),
 ro 4 (.af (.t 26))] [[], [0], [], [2], [1, 3], [4, 4], [5], [6, 5], [7, 5], [5], [5], [10, 5], [9, 11, 5], [12, 5], [13, 5], [8, 14, 5], [5, 15], [16, 5], [17], [18, 17], [19, 17, 17], [17, 20], [21, 20, 0, 1, 2, 3, 4, 5, 6, 7, 8, 9, 10, 11, 12, 13, 14, 15, 16, 17, 18, 19, 20, 21]] (some [4])) .ret
def agp : R := .seq (.U [ro 3 (.c2 124 (.t 1)),
 ro 4 (.af (.c (.bool false)))] (some [0, 3])) ago
theorem agq : bt ⟨27, [0, 1]⟩ (Tryz.f130.body.getD .skip) = some agp.strip := by kernel_rfl
def agr : R := .seq (.U [ro 4 (.aP 36 (.t 1) 0),
 ro 5 (.aD 32 (.t 4)),
 ro 6 (.aD 124 (.t 2)),
 ro 7 (.call (.f 130) [(.t 5), (.t 6)]),
 ro 8 (.un .not (.t 7)),
 ro 3 (.af (.t 8))] (some [3])) .ret
def ags : R := .seq (.U [ro 2 (.c2 124 (.t 0)),
 ro 3 (.af (.c (.bool false)))] (some [1, 2])) agr
theorem agt : bt ⟨9, [0, 1]⟩ (Tryz.f129.body.getD .skip) = some ags.strip := by kernel_rfl
def agu : R := .seq (.U [ro 17 (.ad (.t 5)),
 ro 4 (.af (.t 17))] (some [4])) .ret
def agv : R := .cond (.t 16) agu .skip
def agw : R := .seq (.U [ro 11 (.ad (.t 1)),
 ro 12 (.ad (.t 0)),
 ro 13 (.ad (.t 5)),
 ro 14 (.bJ 33 (.t 12) (.t 13)),
 ro 15 (.aD 124 (.t 14)),
 ro 16 (.call (.t 11) [(.t 15)])] (some [0, 1, 5, 7, 8, 16])) agv
def agx : R := .U [ro 18 (.aq .add 3 (.t 8) (.c (.int .i64 1))),
 ro 8 (.ad (.t 18))] (some [0, 1, 7, 8])
def agy : R := .seq (.block 1 (.seq (.U [ro 10 (.ad (.t 8)),
 ro 5 (.af (.t 10))] (some [0, 1, 5, 7, 8])) agw)) agx
def agz : R := .seq (.cond (.t 9) .skip (.exit 0)) agy
def La : R := .seq (.U [ro 9 (.aq .lss 3 (.t 8) (.t 7))] (some [0, 1, 7, 8, 9])) agz
def agA : R := .block 0 (.loop La)
def agB : R := .seq (.U [ro 4 (.af (.c (.int .i64 (-1))))] (some [4])) .ret
def agC : R := .seq (.seq (.U [ro 6 (.ad (.t 0)),
 ro 7 (.len 33 (.t 6)),
 ro 8 (.ad (.c (.int .i64 0)))] (some [0, 1, 7, 8])) agA) agB
def agD : R := .seq (.U [ro 4 (.af (.c (.int .i64 0)))] (some [0, 1])) agC
theorem agE : bt ⟨19, [0, 1]⟩ (Tryz.f169.body.getD .skip) = some agD.strip := by kernel_rfl
def agF : R := .seq (.U [ro 5 (.ad (.t 0)),
 ro 6 (.ad (.t 1)),
 ro 7 (.call (.f 169) [(.t 5), (.t 6)]),
 ro 8 (.aq .geq 3 (.t 7) (.c (.int .i64 0))),
 ro 4 (.af (.t 8))] (some [4])) .ret
def agG : R := .seq (.U [ro 4 (.af (.c (.bool false)))] (some [0, 1])) agF
theorem agH : bt ⟨9, [0, 1]⟩ (Tryz.f128.body.getD .skip) = some agG.strip := by kernel_rfl
def agI : R := .seq (.U [ro 3 (.ad (.t 0)),
 ro 4 (.ad (.t 0)),
 ro 5 (.aq .neq 9 (.t 3) (.t 4)),
 ro 2 (.af (.t 5))] (some [2])) .ret
def agJ : R := .seq (.U [ro 2 (.af (.c (.bool false)))] (some [0])) agI
theorem agK : bt ⟨6, [0]⟩ (Tryz.f225.body.getD .skip) = some agJ.strip := by kernel_rfl
def agL : R := .seq (.U [ro 4 (.af (.c (.int .i64 0)))] (some [4])) .ret
def agM : R := .cond (.t 12) agL .skip
def agN : R := .seq (.U [ro 4 (.af (.c (.int .i64 (-1))))] (some [4])) .ret
def agO : R := .seq (.seq (.U [ro 12 (.ad (.t 6))] (some [12])) agM) agN
def agP : R := .cond (.t 11) agO .skip
def agQ : R := .seq (.U [ro 4 (.af (.c (.int .i64 1)))] (some [4])) .ret
def agR : R := .cond (.t 13) agQ .skip
def agS : R := .seq (.U [ro 4 (.af (.c (.int .i64 (-1))))] (some [4])) .ret
def agT : R := .cond (.t 16) agS .skip
def agU : R := .seq (.U [ro 4 (.af (.c (.int .i64 1)))] (some [4])) .ret
def agV : R := .cond (.t 19) agU .skip
def agW : R := .seq (.U [ro 4 (.af (.c (.int .i64 0)))] (some [4])) .ret
def agX : R := .seq (.seq (.U [ro 17 (.ad (.t 0)),
 ro 18 (.ad (.t 1)),
 ro 19 (.aq .gtr 9 (.t 17) (.t 18))] (some [19])) agV) agW
def agY : R := .seq (.seq (.U [ro 14 (.ad (.t 0)),
 ro 15 (.ad (.t 1)),
 ro 16 (.aq .lss 9 (.t 14) (.t 15))] (some [0, 1, 16])) agT) agX
def agZ : R := .seq (.seq (.U [ro 13 (.ad (.t 6))] (some [0, 1, 13])) agR) agY
def ag0 : R := .seq (.seq (.U [ro 11 (.ad (.t 5))] (some [0, 1, 6, 11])) agP) agZ
def ag1 : R := .seq (.U [ro 9 (.ad (.t 1)),
 ro 10 (.call (.f 225) [(.t 9)]),
 ro 6 (.af (.t 10))] (some [0, 1, 5, 6])) ag0
def ag2 : R := .seq (.U [ro 7 (.ad (.t 0)),
 ro 8 (.call (.f 225) [(.t 7)]),
 ro 5 (.af (.t 8))] (some [0, 1, 5])) ag1
def ag3 : R := .seq (.U [ro 4 (.af (.c (.int .i64 0)))] (some [0, 1])) ag2
theorem ag4 : bt ⟨20, [0, 1]⟩ (Tryz.f222.body.getD .skip) = some ag3.strip := by kernel_rfl
def ag5 : R := .seq (.U [ro 4 (.af (.c (.int .i64 1)))] (some [4])) .ret
def ag6 : R := .cond (.t 19) ag5 .skip
def ag7 : R := .seq (.U [ro 29 (.ad (.t 8)),
 ro 4 (.af (.t 29))] (some [4])) .ret
def ag8 : R := .cond (.t 28) ag7 .skip
def ag9 : R := .seq (.U [ro 27 (.ad (.t 8)),
 ro 28 (.aq .neq 3 (.t 27) (.c (.int .i64 0)))] (some [0, 1, 8, 9, 10, 11, 28])) ag8
def ag_ : R := .seq (.U [ro 24 (.ad (.t 6)),
 ro 25 (.ad (.t 7)),
 ro 26 (.call (.f 222) [(.t 24), (.t 25)]),
 ro 8 (.af (.t 26))] (some [0, 1, 8, 9, 10, 11])) ag9
def aha : R := .seq (.U [ro 20 (.ad (.t 1)),
 ro 21 (.ad (.t 5)),
 ro 22 (.bJ 25 (.t 20) (.t 21)),
 ro 23 (.aD 9 (.t 22)),
 ro 7 (.af (.t 23))] (some [0, 1, 6, 7, 9, 10, 11])) ag_
def ahb : R := .seq (.seq (.U [ro 16 (.ad (.t 5)),
 ro 17 (.ad (.t 1)),
 ro 18 (.len 25 (.t 17)),
 ro 19 (.aq .geq 3 (.t 16) (.t 18))] (some [0, 1, 5, 6, 9, 10, 11, 19])) ag6) aha
def ahc : R := .U [ro 30 (.aq .add 3 (.t 11) (.c (.int .i64 1))),
 ro 11 (.ad (.t 30))] (some [0, 1, 9, 10, 11])
def ahd : R := .seq (.block 1 (.seq (.U [ro 13 (.ad (.t 11)),
 ro 14 (.bJ 25 (.t 9) (.t 11)),
 ro 15 (.aD 9 (.t 14)),
 ro 5 (.af (.t 13)),
 ro 6 (.af (.t 15))] (some [0, 1, 5, 6, 9, 10, 11])) ahb)) ahc
def ahe : R := .seq (.cond (.t 12) .skip (.exit 0)) ahd
def Lb : R := .seq (.U [ro 12 (.aq .lss 3 (.t 11) (.t 10))] (some [0, 1, 9, 10, 11, 12])) ahe
def ahf : R := .block 0 (.loop Lb)
def ahg : R := .seq (.U [ro 4 (.af (.c (.int .i64 (-1))))] (some [4])) .ret
def ahh : R := .cond (.t 35) ahg .skip
def ahi : R := .seq (.U [ro 4 (.af (.c (.int .i64 0)))] (some [4])) .ret
def ahj : R := .seq (.seq (.U [ro 31 (.ad (.t 0)),
 ro 32 (.len 25 (.t 31)),
 ro 33 (.ad (.t 1)),
 ro 34 (.len 25 (.t 33)),
 ro 35 (.aq .lss 3 (.t 32) (.t 34))] (some [35])) ahh) ahi
def ahk : R := .seq (.seq (.U [ro 9 (.ad (.t 0)),
 ro 10 (.len 25 (.t 9)),
 ro 11 (.ad (.c (.int .i64 0)))] (some [0, 1, 9, 10, 11])) ahf) ahj
def ahl : R := .seq (.U [ro 4 (.af (.c (.int .i64 0)))] (some [0, 1])) ahk
theorem ahm : bt ⟨36, [0, 1]⟩ (Tryz.f207.body.getD .skip) = some ahl.strip := by kernel_rfl
def ahn : R := .seq (.U [ro 5 (.aP 126 (.t 2) 0),
 ro 6 (.aD 9 (.t 5)),
 ro 7 (.aP 126 (.t 2) 1),
 ro 8 (.aD 9 (.t 7)),
 ro 9 (.eD 25 2 [(0, (.t 6)), (1, (.t 8))]),
 ro 10 (.aP 126 (.t 3) 0),
 ro 11 (.aD 9 (.t 10)),
 ro 12 (.aP 126 (.t 3) 1),
 ro 13 (.aD 9 (.t 12)),
 ro 14 (.eD 25 2 [(0, (.t 11)), (1, (.t 13))]),
 ro 15 (.call (.f 207) [(.t 9), (.t 14)]),
 ro 4 (.af (.t 15))] (some [4])) .ret
def aho : R := .seq (.U [ro 2 (.c2 126 (.t 0)),
 ro 3 (.c2 126 (.t 1)),
 ro 4 (.af (.c (.int .i64 0)))] (some [2, 3])) ahn
theorem ahp : bt ⟨16, [0, 1]⟩ (Tryz.f171.body.getD .skip) = some aho.strip := by kernel_rfl
def ahq : R := .seq (.U [ro 4 (.aP 126 (.t 2) 0),
 ro 5 (.aD 9 (.t 4)),
 ro 6 (.aP 126 (.t 1) 2),
 ro 7 (.aD 9 (.t 6)),
 ro 8 (.aq .eql 9 (.t 5) (.t 7)),
 ro 9 (.ad (.t 8)),
 ⟨some 10, .aP 126 (.t 2) 1, some (9, false)⟩,
 ⟨some 11, .aD 9 (.t 10), some (9, false)⟩,
 ⟨some 12, .aP 126 (.t 1) 2, some (9, false)⟩,
 ⟨some 13, .aD 9 (.t 12), some (9, false)⟩,
 ⟨some 14, .aq .eql 9 (.t 11) (.t 13), some (9, false)⟩,
 ro 15 (.pick (.t 9) (.c (.bool true)) (.t 14)),
 ro 3 (.af (.t 15))] (some [3])) .ret
def ahr : R := .seq (.U [ro 2 (.c2 126 (.t 0)),
 ro 3 (.af (.c (.bool false)))] (some [1, 2])) ahq
theorem ahs : bt ⟨16, [0, 1]⟩ (Tryz.f173.body.getD .skip) = some ahr.strip := by kernel_rfl
def aht : R := .seq (.U [ro 17 (.ad (.t 5)),
 ro 4 (.af (.t 17))] (some [4])) .ret
def ahu : R := .cond (.t 16) aht .skip
def ahv : R := .seq (.U [ro 11 (.ad (.t 1)),
 ro 12 (.ad (.t 0)),
 ro 13 (.ad (.t 5)),
 ro 14 (.bJ 34 (.t 12) (.t 13)),
 ro 15 (.aD 126 (.t 14)),
 ro 16 (.call (.t 11) [(.t 15)])] (some [0, 1, 5, 7, 8, 16])) ahu
def ahw : R := .U [ro 18 (.aq .add 3 (.t 8) (.c (.int .i64 1))),
 ro 8 (.ad (.t 18))] (some [0, 1, 7, 8])
def ahx : R := .seq (.block 1 (.seq (.U [ro 10 (.ad (.t 8)),
 ro 5 (.af (.t 10))] (some [0, 1, 5, 7, 8])) ahv)) ahw
def ahy : R := .seq (.cond (.t 9) .skip (.exit 0)) ahx
def Lc : R := .seq (.U [ro 9 (.aq .lss 3 (.t 8) (.t 7))] (some [0, 1, 7, 8, 9])) ahy
def ahz : R := .block 0 (.loop Lc)
def ahA : R := .seq (.U [ro 4 (.af (.c (.int .i64 (-1))))] (some [4])) .ret
def ahB : R := .seq (.seq (.U [ro 6 (.ad (.t 0)),
 ro 7 (.len 34 (.t 6)),
 ro 8 (.ad (.c (.int .i64 0)))] (some [0, 1, 7, 8])) ahz) ahA
def ahC : R := .seq (.U [ro 4 (.af (.c (.int .i64 0)))] (some [0, 1])) ahB
theorem ahD : bt ⟨19, [0, 1]⟩ (Tryz.f208.body.getD .skip) = some ahC.strip := by kernel_rfl
def ahE : R := .seq (.U [ro 5 (.ad (.t 0)),
 ro 6 (.ad (.t 1)),
 ro 7 (.call (.f 208) [(.t 5), (.t 6)]),
 ro 8 (.aq .geq 3 (.t 7) (.c (.int .i64 0))),
 ro 4 (.af (.t 8))] (some [4])) .ret
def ahF : R := .seq (.U [ro 4 (.af (.c (.bool false)))] (some [0, 1])) ahE
theorem ahG : bt ⟨9, [0, 1]⟩ (Tryz.f172.body.getD .skip) = some ahF.strip := by kernel_rfl
def ahH : R := .seq (.U [ro 2 (.af (.c (.bool false)))] (some [2])) .ret
def ahI : R := .cond (.t 48) ahH .skip
def ahJ : R := .seq (.U [ro 2 (.af (.c (.bool false)))] (some [2])) .ret
def ahK : R := .cond (.t 51) ahJ .skip
def ahL : R := .seq (.U [ro 49 (.ad (.t 0)),
 ro 50 (.h8 173 [(.t 4)]),
 ro 51 (.call (.f 172) [(.t 49), (.t 50)])] (some [0, 5, 6, 7, 51])) ahK
def ahM : R := .seq (.seq (.gI [ro 12 (.aP 126 (.t 4) 0),
 ro 13 (.aD 9 (.t 12)),
 ro 14 (.call (.f 149) [(.t 13)]),
 ro 15 (.un .not (.t 14)),
 ro 16 (.ad (.t 15)),
 ⟨some 17, .aP 126 (.t 4) 1, some (16, false)⟩,
 ⟨some 18, .aD 9 (.t 17), some (16, false)⟩,
 ⟨some 19, .call (.f 149) [(.t 18)], some (16, false)⟩,
 ⟨some 20, .un .not (.t 19), some (16, false)⟩,
 ro 21 (.pick (.t 16) (.c (.bool true)) (.t 20)),
 ro 22 (.ad (.t 21)),
 ⟨some 23, .aP 126 (.t 4) 2, some (22, false)⟩,
 ⟨some 24, .aD 9 (.t 23), some (22, false)⟩,
 ⟨some 25, .call (.f 149) [(.t 24)], some (22, false)⟩,
 ⟨some 26, .un .not (.t 25), some (22, false)⟩,
 ro 27 (.pick (.t 22) (.c (.bool true)) (.t 26)),
 ro 28 (.ad (.t 27)),
 ⟨some 29, .aP 126 (.t 4) 0, some (28, false)⟩,
 ⟨some 30, .aD 9 (.t 29), some (28, false)⟩,
 ⟨some 31, .aP 126 (.t 4) 1, some (28, false)⟩,
 ⟨some 32, .aD 9 (.t 31), some (28, false)⟩,
 ⟨some 33, .aq .gtr 9 (.t 30) (.t 32), some (28, false)⟩,
 ro 34 (.pick (.t 28) (.c (.bool true)) (.t 33)),
 ro 35 (.ad (.t 34)),
 ⟨some 36, .ad (.t 3), some (35, false)⟩,
 ⟨some 37, .aq .gtr 3 (.t 36) (.c (.int .i64 0)), some (35, false)⟩,
 ⟨some 38, .ad (.t 37), some (35, false)⟩,
 ⟨some 39, .ad (.t 0), some (38, true)⟩,
 ⟨some 40, .ad (.t 3), some (38, true)⟩,
 ⟨some 41, .aq .sub 3 (.t 40) (.c (.int .i64 1)), some (38, true)⟩,
 ⟨some 42, .bJ 34 (.t 39) (.t 41), some (38, true)⟩,
 ⟨some 43, .aD 126 (.t 42), some (38, true)⟩,
 ⟨some 44, .aD 126 (.t 4), some (38, true)⟩,
 ⟨some 45, .call (.f 171) [(.t 43), (.t 44)], some (38, true)⟩,
 ⟨some 46, .aq .geq 3 (.t 45) (.c (.int .i64 0)), some (38, true)⟩,
 ⟨some 47, .pick (.t 38) (.t 46) (.c (.bool false)), some (35, false)⟩,
 ro 48 (.pick (.t 35) (.c (.bool true)) (.t 47))] [[], [0], [1], [2], [3, 2], [4], [5, 4], [6, 4, 4], [7, 4], [4, 8], [9, 7], [10], [11, 10], [12, 10, 10], [13, 10], [10, 14], [15, 13], [16], [17, 16], [16], [19, 16], [18, 20, 16], [16, 21], [22, 16], [23], [24, 23], [25, 23, 23], [26], [26], [28, 26], [27, 29, 26], [30, 26], [26], [31, 32, 26, 26], [33, 26], [26, 34, 23], [23, 35]] (some [0, 4, 5, 6, 7, 48])) ahI) ahL
def ahN : R := .U [ro 52 (.aq .add 3 (.t 7) (.c (.int .i64 1))),
 ro 7 (.ad (.t 52))] (some [0, 5, 6, 7])
def ahO : R := .seq (.block 1 (.seq (.U [ro 9 (.ad (.t 7)),
 ro 10 (.bJ 34 (.t 5) (.t 7)),
 ro 11 (.aD 126 (.t 10)),
 ro 4 (.eB 126),
 ro 3 (.af (.t 9)),
 ⟨none, .cx 126 (.t 4) (.t 11), none⟩] (some [0, 3, 4, 5, 6, 7])) ahM)) ahN
def ahP : R := .seq (.cond (.t 8) .skip (.exit 0)) ahO
def Ld : R := .seq (.U [ro 8 (.aq .lss 3 (.t 7) (.t 6))] (some [0, 5, 6, 7, 8])) ahP
def ahQ : R := .block 0 (.loop Ld)
def ahR : R := .seq (.U [ro 53 (.ad (.t 0)),
 ro 54 (.len 34 (.t 53)),
 ro 55 (.aq .leq 3 (.t 54) (.c (.int .i64 6))),
 ro 2 (.af (.t 55))] (some [2])) .ret
def ahS : R := .seq (.seq (.U [ro 5 (.ad (.t 0)),
 ro 6 (.len 34 (.t 5)),
 ro 7 (.ad (.c (.int .i64 0)))] (some [0, 5, 6, 7])) ahQ) ahR
def ahT : R := .seq (.U [ro 2 (.af (.c (.bool false)))] (some [0])) ahS
theorem ahU : bt ⟨56, [0]⟩ (Tryz.f131.body.getD .skip) = some ahT.strip := by kernel_rfl
def ahV : R := .seq (.U [ro 2 (.af (.c (.bool false)))] (some [2])) .ret
def ahW : R := .cond (.t 27) ahV .skip
def ahX : R := .seq (.U [ro 12 (.ad (.t 4)),
 ro 13 (.call (.f 149) [(.t 12)]),
 ro 14 (.un .not (.t 13)),
 ro 15 (.ad (.t 14)),
 ⟨some 16, .ad (.t 3), some (15, false)⟩,
 ⟨some 17, .aq .gtr 3 (.t 16) (.c (.int .i64 0)), some (15, false)⟩,
 ⟨some 18, .ad (.t 17), some (15, false)⟩,
 ⟨some 19, .ad (.t 4), some (18, true)⟩,
 ⟨some 20, .ad (.t 0), some (18, true)⟩,
 ⟨some 21, .ad (.t 3), some (18, true)⟩,
 ⟨some 22, .aq .sub 3 (.t 21) (.c (.int .i64 1)), some (18, true)⟩,
 ⟨some 23, .bJ 25 (.t 20) (.t 22), some (18, true)⟩,
 ⟨some 24, .aD 9 (.t 23), some (18, true)⟩,
 ⟨some 25, .aq .leq 9 (.t 19) (.t 24), some (18, true)⟩,
 ⟨some 26, .pick (.t 18) (.t 25) (.c (.bool false)), some (15, false)⟩,
 ro 27 (.pick (.t 15) (.c (.bool true)) (.t 26))] (some [0, 5, 6, 7, 27])) ahW
def ahY : R := .U [ro 28 (.aq .add 3 (.t 7) (.c (.int .i64 1))),
 ro 7 (.ad (.t 28))] (some [0, 5, 6, 7])
def ahZ : R := .seq (.block 1 (.seq (.U [ro 9 (.ad (.t 7)),
 ro 10 (.bJ 25 (.t 5) (.t 7)),
 ro 11 (.aD 9 (.t 10)),
 ro 3 (.af (.t 9)),
 ro 4 (.af (.t 11))] (some [0, 3, 4, 5, 6, 7])) ahX)) ahY
def ah0 : R := .seq (.cond (.t 8) .skip (.exit 0)) ahZ
def Le : R := .seq (.U [ro 8 (.aq .lss 3 (.t 7) (.t 6))] (some [0, 5, 6, 7, 8])) ah0
def ah1 : R := .block 0 (.loop Le)
def ah2 : R := .seq (.U [ro 29 (.ad (.t 0)),
 ro 30 (.len 25 (.t 29)),
 ro 31 (.aq .leq 3 (.t 30) (.c (.int .i64 12))),
 ro 2 (.af (.t 31))] (some [2])) .ret
def ah3 : R := .seq (.seq (.U [ro 5 (.ad (.t 0)),
 ro 6 (.len 25 (.t 5)),
 ro 7 (.ad (.c (.int .i64 0)))] (some [0, 5, 6, 7])) ah1) ah2
def ah4 : R := .seq (.U [ro 2 (.af (.c (.bool false)))] (some [0])) ah3
theorem ah5 : bt ⟨32, [0]⟩ (Tryz.f132.body.getD .skip) = some ah4.strip := by kernel_rfl
def ah6 : R := .seq (.U [ro 2 (.af (.c (.int .i64 1)))] (some [2])) .ret
def ah7 : R := .seq (.U [ro 2 (.af (.c (.int .i64 2)))] (some [2])) .ret
def ah8 : R := .seq (.U [ro 2 (.af (.c (.int .i64 3)))] (some [2])) .ret
def ah9 : R := .seq (.U [ro 2 (.af (.c (.int .i64 4)))] (some [2])) .ret
def ah_ : R := .seq (.U [ro 2 (.af (.c (.int .i64 5)))] (some [2])) .ret
def aia : R := .cond (.t 30) ah_ .skip
def aib : R := .seq (.U [ro 31 (.aP 36 (.t 1) 4),
 ro 32 (.aD 25 (.t 31)),
 ro 33 (.call (.f 132) [(.t 32)]),
 ro 34 (.un .not (.t 33)),
 ro 30 (.af (.t 34))] (some [30])) aia
def aic : R := .cond (.t 25) ah9 aib
def aid : R := .seq (.U [ro 26 (.aP 36 (.t 1) 3),
 ro 27 (.aD 25 (.t 26)),
 ro 28 (.call (.f 132) [(.t 27)]),
 ro 29 (.un .not (.t 28)),
 ro 25 (.af (.t 29))] (some [1, 25])) aic
def aie : R := .cond (.t 20) ah8 aid
def aif : R := .seq (.U [ro 21 (.aP 36 (.t 1) 2),
 ro 22 (.aD 34 (.t 21)),
 ro 23 (.call (.f 131) [(.t 22)]),
 ro 24 (.un .not (.t 23)),
 ro 20 (.af (.t 24))] (some [1, 20])) aie
def aih : R := .cond (.t 8) ah7 aif
def aii : R := .seq (.U [ro 9 (.aP 36 (.t 1) 1),
 ro 10 (.aD 33 (.t 9)),
 ro 11 (.len 33 (.t 10)),
 ro 12 (.call (.f 95) [(.t 11), (.c (.int .i64 1)), (.c (.int .i64 3))]),
 ro 13 (.un .not (.t 12)),
 ro 14 (.ad (.t 13)),
 ⟨some 15, .aP 36 (.t 1) 1, some (14, false)⟩,
 ⟨some 16, .aD 33 (.t 15), some (14, false)⟩,
 ⟨some 17, .h8 129 [(.t 1)], some (14, false)⟩,
 ⟨some 18, .call (.f 128) [(.t 16), (.t 17)], some (14, false)⟩,
 ro 19 (.pick (.t 14) (.c (.bool true)) (.t 18)),
 ro 8 (.af (.t 19))] (some [1, 8])) aih
def aij : R := .cond (.t 3) ah6 aii
def aik : R := .seq (.U [ro 2 (.af (.c (.int .i64 0)))] (some [2])) .ret
def ail : R := .seq (.block 0 (.seq (.U [ro 4 (.aP 36 (.t 1) 0),
 ro 5 (.aD 32 (.t 4)),
 ro 6 (.call (.f 127) [(.t 5)]),
 ro 7 (.un .not (.t 6)),
 ro 3 (.af (.t 7))] (some [1, 3])) aij)) aik
def aim : R := .seq (.U [ro 1 (.c2 36 (.t 0)),
 ro 2 (.af (.c (.int .i64 0)))] (some [1])) ail
theorem ain : bt ⟨35, [0]⟩ (Tryz.f79.body.getD .skip) = some aim.strip := by kernel_rfl
def aio : R := .seq (.U [ro 3 (.aD 36 (.t 1)),
 ro 4 (.call (.f 79) [(.t 3)]),
 ro 5 (.aq .eql 2 (.t 4) (.c (.int .i64 0))),
 ro 2 (.af (.t 5))] (some [2])) .ret
def aip : R := .seq (.U [ro 1 (.c2 36 (.t 0)),
 ro 2 (.af (.c (.bool false)))] (some [1])) aio
theorem aiq : bt ⟨6, [0]⟩ (Tryz.f43.body.getD .skip) = some aip.strip := by kernel_rfl
def air : R := .seq (.U [ro 2 (.af (.c .bc))] (some [2])) .ret
def ais : R := .cond (.t 4) air .skip
def ait : R := .seq (.U [ro 5 (.eD 43 0 []),
 ro 6 (.ad (.t 0)),
 ro 7 (.app 43 43 (.t 5) (.t 6)),
 ro 2 (.af (.t 7))] (some [2])) .ret
def aiu : R := .seq (.seq (.U [ro 3 (.ad (.t 0)),
 ro 4 (.aq .eql 43 (.t 3) (.c .bc))] (some [0, 4])) ais) ait
def aiv : R := .seq (.U [ro 2 (.af (.c .bc))] (some [0])) aiu
theorem aiw : bt ⟨8, [0]⟩ (Tryz.f116.body.getD .skip) = some aiv.strip := by kernel_rfl
def aix : R := .gI [ro 13 (.ad (.t 3)),
 ro 14 (.aP 124 (.t 5) 0),
 ro 15 (.aD 2 (.t 14)),
 ro 16 (.aP 124 (.t 5) 1),
 ro 17 (.aD 43 (.t 16)),
 ro 18 (.call (.f 116) [(.t 17)]),
 ro 19 (.fC 104 [(0, (.t 15)), (1, (.c (.int .i64 0))), (2, (.t 18))]),
 ro 20 (.eD 59 1 [(0, (.t 19))]),
 ro 21 (.app 59 59 (.t 13) (.t 20)),
 ro 3 (.af (.t 21))] [[], [], [1], [], [3], [4], [2, 5], [6], [0, 7, 5], [8, 8, 0, 1, 2, 3, 4, 5, 6, 7, 8]] (some [3, 7, 8, 9])
def aiy : R := .U [ro 22 (.aq .add 3 (.t 9) (.c (.int .i64 1))),
 ro 9 (.ad (.t 22))] (some [3, 7, 8, 9])
def aiz : R := .seq (.block 1 (.seq (.U [ro 11 (.bJ 33 (.t 7) (.t 9)),
 ro 12 (.aD 124 (.t 11)),
 ro 5 (.eB 124),
 ⟨none, .cx 124 (.t 5) (.t 12), none⟩] (some [3, 5, 7, 8, 9])) aix)) aiy
def aiA : R := .seq (.cond (.t 10) .skip (.exit 0)) aiz
def Lf : R := .seq (.U [ro 10 (.aq .lss 3 (.t 9) (.t 8))] (some [3, 7, 8, 9, 10])) aiA
def aiB : R := .block 0 (.loop Lf)
def aiC : R := .seq (.U [ro 23 (.ad (.t 3)),
 ro 2 (.af (.t 23))] (some [2])) .ret
def aiD : R := .seq (.seq (.U [ro 6 (.aP 36 (.t 1) 1),
 ro 7 (.aD 33 (.t 6)),
 ro 8 (.len 33 (.t 7)),
 ro 9 (.ad (.c (.int .i64 0)))] (some [3, 7, 8, 9])) aiB) aiC
def aiE : R := .seq (.U [ro 3 (.af (.c .bc))] (some [1, 3])) aiD
def aiF : R := .seq (.U [ro 1 (.c2 36 (.t 0)),
 ro 2 (.af (.c .bc))] (some [1])) aiE
theorem aiG : bt ⟨24, [0]⟩ (Tryz.f68.body.getD .skip) = some aiF.strip := by kernel_rfl
def aiH : R := .seq (.U [ro 2 (.af (.c .bc)),
 ro 3 (.af (.c (.int .i64 1)))] (some [2, 3])) .ret
def aiI : R := .cond (.t 6) aiH .skip
def aiJ : R := .seq (.U [ro 7 (.aD 36 (.t 1)),
 ro 8 (.call (.f 68) [(.t 7)]),
 ro 2 (.af (.t 8)),
 ro 3 (.af (.c (.int .i64 0)))] (some [2, 3])) .ret
def aiK : R := .seq (.seq (.U [ro 4 (.aD 36 (.t 1)),
 ro 5 (.call (.f 43) [(.t 4)]),
 ro 6 (.un .not (.t 5))] (some [1, 6])) aiI) aiJ
def aiL : R := .seq (.U [ro 1 (.c2 36 (.t 0)),
 ro 2 (.af (.c .bc)),
 ro 3 (.af (.c (.int .i64 0)))] (some [1])) aiK
theorem aiM : bt ⟨9, [0]⟩ (Tryz.f27.body.getD .skip) = some aiL.strip := by kernel_rfl
def aiN : R := .seq (.U [ro 4 (.af (.c (.bool false)))] (some [4])) .ret
def aiO : R := .cond (.t 10) aiN .skip
def aiP : R := .cond (.t 14) .skip (.exit 0)
def aiQ : R := .seq (.U [ro 4 (.af (.c (.bool false)))] (some [4])) .ret
def aiR : R := .cond (.t 25) aiQ .skip
def aiS : R := .U [ro 15 (.ad (.t 5)),
 ro 16 (.aq .add 3 (.t 15) (.c (.int .i64 1))),
 ro 5 (.af (.t 16))] (some [0, 1, 5])
def aiT : R := .seq (.block 1 (.seq (.gI [ro 17 (.ad (.t 0)),
 ro 18 (.ad (.t 5)),
 ro 19 (.bJ 43 (.t 17) (.t 18)),
 ro 20 (.aD 2 (.t 19)),
 ro 21 (.ad (.t 1)),
 ro 22 (.ad (.t 5)),
 ro 23 (.bJ 43 (.t 21) (.t 22)),
 ro 24 (.aD 2 (.t 23)),
 ro 25 (.aq .neq 2 (.t 20) (.t 24))] [[], [], [0, 1], [2], [], [], [4, 5], [6], [3, 7]] (some [0, 1, 5, 25])) aiR)) aiS
def Lg : R := .seq (.seq (.U [ro 11 (.ad (.t 5)),
 ro 12 (.ad (.t 0)),
 ro 13 (.len 43 (.t 12)),
 ro 14 (.aq .lss 3 (.t 11) (.t 13))] (some [0, 1, 5, 14])) aiP) aiT
def aiU : R := .block 0 (.loop Lg)
def aiV : R := .seq (.U [ro 4 (.af (.c (.bool true)))] (some [4])) .ret
def aiW : R := .seq (.seq (.U [ro 5 (.af (.c (.int .i64 0)))] (some [0, 1, 5])) aiU) aiV
def aiX : R := .seq (.seq (.U [ro 6 (.ad (.t 0)),
 ro 7 (.len 43 (.t 6)),
 ro 8 (.ad (.t 1)),
 ro 9 (.len 43 (.t 8)),
 ro 10 (.aq .neq 3 (.t 7) (.t 9))] (some [0, 1, 10])) aiO) aiW
def aiY : R := .seq (.U [ro 4 (.af (.c (.bool false)))] (some [0, 1])) aiX
theorem sm : bt ⟨26, [0, 1]⟩ (Tryz.f21.body.getD .skip) = some aiY.strip := by kernel_rfl
def aiZ : R := .seq (.U [ro 4 (.af (.c (.bool false)))] (some [4])) .ret
def ai0 : R := .cond (.t 9) aiZ .skip
def ai1 : R := .seq (.U [ro 4 (.af (.c (.bool false)))] (some [4])) .ret
def ai2 : R := .cond (.t 14) ai1 .skip
def ai3 : R := .seq (.U [ro 4 (.af (.c (.bool false)))] (some [4])) .ret
def ai4 : R := .cond (.t 20) ai3 .skip
def ai5 : R := .seq (.U [ro 4 (.af (.c (.bool true)))] (some [4])) .ret
def ai6 : R := .seq (.seq (.U [ro 15 (.aP 104 (.t 2) 2),
 ro 16 (.aD 43 (.t 15)),
 ro 17 (.aP 104 (.t 3) 2),
 ro 18 (.aD 43 (.t 17)),
 ro 19 (.call (.f 21) [(.t 16), (.t 18)]),
 ro 20 (.un .not (.t 19))] (some [20])) ai4) ai5
def ai7 : R := .seq (.seq (.U [ro 10 (.aP 104 (.t 2) 1),
 ro 11 (.aD 2 (.t 10)),
 ro 12 (.aP 104 (.t 3) 1),
 ro 13 (.aD 2 (.t 12)),
 ro 14 (.aq .neq 2 (.t 11) (.t 13))] (some [2, 3, 14])) ai2) ai6
def ai8 : R := .seq (.seq (.U [ro 5 (.aP 104 (.t 2) 0),
 ro 6 (.aD 2 (.t 5)),
 ro 7 (.aP 104 (.t 3) 0),
 ro 8 (.aD 2 (.t 7)),
 ro 9 (.aq .neq 2 (.t 6) (.t 8))] (some [2, 3, 9])) ai0) ai7
def ai9 : R := .seq (.U [ro 2 (.c2 104 (.t 0)),
 ro 3 (.c2 104 (.t 1)),
 ro 4 (.af (.c (.bool false)))] (some [2, 3])) ai8
theorem ai_ : bt ⟨21, [0, 1]⟩ (Tryz.f69.body.getD .skip) = some ai9.strip := by kernel_rfl
def aja : R := .seq (.U [ro 4 (.af (.c (.bool false)))] (some [4])) .ret
def ajb : R := .cond (.t 10) aja .skip
def ajc : R := .cond (.t 14) .skip (.exit 0)
def ajd : R := .seq (.U [ro 4 (.af (.c (.bool false)))] (some [4])) .ret
def aje : R := .cond (.t 26) ajd .skip
def ajf : R := .U [ro 15 (.ad (.t 5)),
 ro 16 (.aq .add 3 (.t 15) (.c (.int .i64 1))),
 ro 5 (.af (.t 16))] (some [0, 1, 5])
def ajg : R := .seq (.block 1 (.seq (.gI [ro 17 (.ad (.t 0)),
 ro 18 (.ad (.t 5)),
 ro 19 (.bJ 59 (.t 17) (.t 18)),
 ro 20 (.aD 104 (.t 19)),
 ro 21 (.ad (.t 1)),
 ro 22 (.ad (.t 5)),
 ro 23 (.bJ 59 (.t 21) (.t 22)),
 ro 24 (.aD 104 (.t 23)),
 ro 25 (.call (.f 69) [(.t 20), (.t 24)]),
 ro 26 (.un .not (.t 25))] [[], [], [0, 1], [2], [], [], [4, 5], [6], [3, 7], [8]] (some [0, 1, 5, 26])) aje)) ajf
def Lh : R := .seq (.seq (.U [ro 11 (.ad (.t 5)),
 ro 12 (.ad (.t 0)),
 ro 13 (.len 59 (.t 12)),
 ro 14 (.aq .lss 3 (.t 11) (.t 13))] (some [0, 1, 5, 14])) ajc) ajg
def ajh : R := .block 0 (.loop Lh)
def aji : R := .seq (.U [ro 4 (.af (.c (.bool true)))] (some [4])) .ret
def ajj : R := .seq (.seq (.U [ro 5 (.af (.c (.int .i64 0)))] (some [0, 1, 5])) ajh) aji
def ajk : R := .seq (.seq (.U [ro 6 (.ad (.t 0)),
 ro 7 (.len 59 (.t 6)),
 ro 8 (.ad (.t 1)),
 ro 9 (.len 59 (.t 8)),
 ro 10 (.aq .neq 3 (.t 7) (.t 9))] (some [0, 1, 10])) ajb) ajj
def ajl : R := .seq (.U [ro 4 (.af (.c (.bool false)))] (some [0, 1])) ajk
theorem ajm : bt ⟨27, [0, 1]⟩ (Tryz.f28.body.getD .skip) = some ajl.strip := by kernel_rfl
def ajn : R := .seq (.U [ro 4 (.af (.c (.bool false)))] (some [4])) .ret
def ajo : R := .cond (.t 9) ajn .skip
def ajp : R := .seq (.U [ro 4 (.af (.c (.bool false)))] (some [4])) .ret
def ajq : R := .cond (.t 14) ajp .skip
def ajr : R := .seq (.U [ro 4 (.af (.c (.bool true)))] (some [4])) .ret
def ajs : R := .seq (.seq (.U [ro 10 (.aP 191 (.t 2) 1),
 ro 11 (.aD 2 (.t 10)),
 ro 12 (.aP 191 (.t 3) 1),
 ro 13 (.aD 2 (.t 12)),
 ro 14 (.aq .neq 2 (.t 11) (.t 13))] (some [14])) ajq) ajr
def ajt : R := .seq (.seq (.U [ro 5 (.aP 191 (.t 2) 0),
 ro 6 (.aD 2 (.t 5)),
 ro 7 (.aP 191 (.t 3) 0),
 ro 8 (.aD 2 (.t 7)),
 ro 9 (.aq .neq 2 (.t 6) (.t 8))] (some [2, 3, 9])) ajo) ajs
def aju : R := .seq (.U [ro 2 (.c2 191 (.t 0)),
 ro 3 (.c2 191 (.t 1)),
 ro 4 (.af (.c (.bool false)))] (some [2, 3])) ajt
theorem ajv : bt ⟨15, [0, 1]⟩ (Tryz.f195.body.getD .skip) = some aju.strip := by kernel_rfl
def ajw : R := .seq (.U [ro 4 (.af (.c (.bool false)))] (some [4])) .ret
def ajx : R := .cond (.t 10) ajw .skip
def ajy : R := .cond (.t 14) .skip (.exit 0)
def ajz : R := .seq (.U [ro 4 (.af (.c (.bool false)))] (some [4])) .ret
def ajA : R := .cond (.t 26) ajz .skip
def ajB : R := .U [ro 15 (.ad (.t 5)),
 ro 16 (.aq .add 3 (.t 15) (.c (.int .i64 1))),
 ro 5 (.af (.t 16))] (some [0, 1, 5])
def ajC : R := .seq (.block 1 (.seq (.gI [ro 17 (.ad (.t 0)),
 ro 18 (.ad (.t 5)),
 ro 19 (.bJ 147 (.t 17) (.t 18)),
 ro 20 (.aD 191 (.t 19)),
 ro 21 (.ad (.t 1)),
 ro 22 (.ad (.t 5)),
 ro 23 (.bJ 147 (.t 21) (.t 22)),
 ro 24 (.aD 191 (.t 23)),
 ro 25 (.call (.f 195) [(.t 20), (.t 24)]),
 ro 26 (.un .not (.t 25))] [[], [], [0, 1], [2], [], [], [4, 5], [6], [3, 7], [8]] (some [0, 1, 5, 26])) ajA)) ajB
def Li : R := .seq (.seq (.U [ro 11 (.ad (.t 5)),
 ro 12 (.ad (.t 0)),
 ro 13 (.len 147 (.t 12)),
 ro 14 (.aq .lss 3 (.t 11) (.t 13))] (some [0, 1, 5, 14])) ajy) ajC
def ajD : R := .block 0 (.loop Li)
def ajE : R := .seq (.U [ro 4 (.af (.c (.bool true)))] (some [4])) .ret
def ajF : R := .seq (.seq (.U [ro 5 (.af (.c (.int .i64 0)))] (some [0, 1, 5])) ajD) ajE
def ajG : R := .seq (.seq (.U [ro 6 (.ad (.t 0)),
 ro 7 (.len 147 (.t 6)),
 ro 8 (.ad (.t 1)),
 ro 9 (.len 147 (.t 8)),
 ro 10 (.aq .neq 3 (.t 7) (.t 9))] (some [0, 1, 10])) ajx) ajF
def ajH : R := .seq (.U [ro 4 (.af (.c (.bool false)))] (some [0, 1])) ajG
theorem ajI : bt ⟨27, [0, 1]⟩ (Tryz.f158.body.getD .skip) = some ajH.strip := by kernel_rfl
def ajJ : R := .seq (.U [ro 4 (.af (.c (.bool false)))] (some [4])) .ret
def ajK : R := .cond (.t 10) ajJ .skip
def ajL : R := .cond (.t 14) .skip (.exit 0)
def ajM : R := .seq (.U [ro 4 (.af (.c (.bool false)))] (some [4])) .ret
def ajN : R := .cond (.t 26) ajM .skip
def ajO : R := .U [ro 15 (.ad (.t 5)),
 ro 16 (.aq .add 3 (.t 15) (.c (.int .i64 1))),
 ro 5 (.af (.t 16))] (some [0, 1, 5])
def ajP : R := .seq (.block 1 (.seq (.gI [ro 17 (.ad (.t 0)),
 ro 18 (.ad (.t 5)),
 ro 19 (.bJ 120 (.t 17) (.t 18)),
 ro 20 (.aD 147 (.t 19)),
 ro 21 (.ad (.t 1)),
 ro 22 (.ad (.t 5)),
 ro 23 (.bJ 120 (.t 21) (.t 22)),
 ro 24 (.aD 147 (.t 23)),
 ro 25 (.call (.f 158) [(.t 20), (.t 24)]),
 ro 26 (.un .not (.t 25))] [[], [], [0, 1], [2], [], [], [4, 5], [6], [3, 7], [8]] (some [0, 1, 5, 26])) ajN)) ajO
def Lj : R := .seq (.seq (.U [ro 11 (.ad (.t 5)),
 ro 12 (.ad (.t 0)),
 ro 13 (.len 120 (.t 12)),
 ro 14 (.aq .lss 3 (.t 11) (.t 13))] (some [0, 1, 5, 14])) ajL) ajP
def ajQ : R := .block 0 (.loop Lj)
def ajR : R := .seq (.U [ro 4 (.af (.c (.bool true)))] (some [4])) .ret
def ajS : R := .seq (.seq (.U [ro 5 (.af (.c (.int .i64 0)))] (some [0, 1, 5])) ajQ) ajR
def ajT : R := .seq (.seq (.U [ro 6 (.ad (.t 0)),
 ro 7 (.len 120 (.t 6)),
 ro 8 (.ad (.t 1)),
 ro 9 (.len 120 (.t 8)),
 ro 10 (.aq .neq 3 (.t 7) (.t 9))] (some [0, 1, 10])) ajK) ajS
def ajU : R := .seq (.U [ro 4 (.af (.c (.bool false)))] (some [0, 1])) ajT
theorem ajV : bt ⟨27, [0, 1]⟩ (Tryz.f159.body.getD .skip) = some ajU.strip := by kernel_rfl
def ajW : R := .seq (.U [ro 4 (.af (.c (.bool false)))] (some [4])) .ret
def ajX : R := .cond (.t 9) ajW .skip
def ajY : R := .seq (.U [ro 4 (.af (.c (.bool false)))] (some [4])) .ret
def ajZ : R := .cond (.t 14) ajY .skip
def aj0 : R := .seq (.U [ro 4 (.af (.c (.bool false)))] (some [4])) .ret
def aj1 : R := .cond (.t 19) aj0 .skip
def aj2 : R := .seq (.U [ro 4 (.af (.c (.bool false)))] (some [4])) .ret
def aj3 : R := .cond (.t 25) aj2 .skip
def aj4 : R := .seq (.U [ro 4 (.af (.c (.bool true)))] (some [4])) .ret
def aj5 : R := .seq (.seq (.U [ro 20 (.aP 122 (.t 2) 3),
 ro 21 (.aD 120 (.t 20)),
 ro 22 (.aP 122 (.t 3) 3),
 ro 23 (.aD 120 (.t 22)),
 ro 24 (.call (.f 159) [(.t 21), (.t 23)]),
 ro 25 (.un .not (.t 24))] (some [25])) aj3) aj4
def aj6 : R := .seq (.seq (.U [ro 15 (.aP 122 (.t 2) 2),
 ro 16 (.aD 9 (.t 15)),
 ro 17 (.aP 122 (.t 3) 2),
 ro 18 (.aD 9 (.t 17)),
 ro 19 (.aq .neq 9 (.t 16) (.t 18))] (some [2, 3, 19])) aj1) aj5
def aj7 : R := .seq (.seq (.U [ro 10 (.aP 122 (.t 2) 1),
 ro 11 (.aD 2 (.t 10)),
 ro 12 (.aP 122 (.t 3) 1),
 ro 13 (.aD 2 (.t 12)),
 ro 14 (.aq .neq 2 (.t 11) (.t 13))] (some [2, 3, 14])) ajZ) aj6
def aj8 : R := .seq (.seq (.U [ro 5 (.aP 122 (.t 2) 0),
 ro 6 (.aD 2 (.t 5)),
 ro 7 (.aP 122 (.t 3) 0),
 ro 8 (.aD 2 (.t 7)),
 ro 9 (.aq .neq 2 (.t 6) (.t 8))] (some [2, 3, 9])) ajX) aj7
def aj9 : R := .seq (.U [ro 2 (.c2 122 (.t 0)),
 ro 3 (.c2 122 (.t 1)),
 ro 4 (.af (.c (.bool false)))] (some [2, 3])) aj8
theorem aj_ : bt ⟨26, [0, 1]⟩ (Tryz.f174.body.getD .skip) = some aj9.strip := by kernel_rfl
def aka : R := .seq (.U [ro 4 (.af (.c (.bool false)))] (some [4])) .ret
def akb : R := .cond (.t 10) aka .skip
def akc : R := .cond (.t 14) .skip (.exit 0)
def akd : R := .seq (.U [ro 4 (.af (.c (.bool false)))] (some [4])) .ret
def ake : R := .cond (.t 26) akd .skip
def akf : R := .U [ro 15 (.ad (.t 5)),
 ro 16 (.aq .add 3 (.t 15) (.c (.int .i64 1))),
 ro 5 (.af (.t 16))] (some [0, 1, 5])
def akg : R := .seq (.block 1 (.seq (.gI [ro 17 (.ad (.t 0)),
 ro 18 (.ad (.t 5)),
 ro 19 (.bJ 117 (.t 17) (.t 18)),
 ro 20 (.aD 122 (.t 19)),
 ro 21 (.ad (.t 1)),
 ro 22 (.ad (.t 5)),
 ro 23 (.bJ 117 (.t 21) (.t 22)),
 ro 24 (.aD 122 (.t 23)),
 ro 25 (.call (.f 174) [(.t 20), (.t 24)]),
 ro 26 (.un .not (.t 25))] [[], [], [0, 1], [2], [], [], [4, 5], [6], [3, 7], [8]] (some [0, 1, 5, 26])) ake)) akf
def Lk : R := .seq (.seq (.U [ro 11 (.ad (.t 5)),
 ro 12 (.ad (.t 0)),
 ro 13 (.len 117 (.t 12)),
 ro 14 (.aq .lss 3 (.t 11) (.t 13))] (some [0, 1, 5, 14])) akc) akg
def akh : R := .block 0 (.loop Lk)
def aki : R := .seq (.U [ro 4 (.af (.c (.bool true)))] (some [4])) .ret
def akj : R := .seq (.seq (.U [ro 5 (.af (.c (.int .i64 0)))] (some [0, 1, 5])) akh) aki
def akk : R := .seq (.seq (.U [ro 6 (.ad (.t 0)),
 ro 7 (.len 117 (.t 6)),
 ro 8 (.ad (.t 1)),
 ro 9 (.len 117 (.t 8)),
 ro 10 (.aq .neq 3 (.t 7) (.t 9))] (some [0, 1, 10])) akb) akj
def akl : R := .seq (.U [ro 4 (.af (.c (.bool false)))] (some [0, 1])) akk
theorem akm : bt ⟨27, [0, 1]⟩ (Tryz.f135.body.getD .skip) = some akl.strip := by kernel_rfl
def akn : R := .seq (.U [ro 4 (.af (.c (.bool false)))] (some [4])) .ret
def ako : R := .cond (.t 9) akn .skip
def akp : R := .seq (.U [ro 4 (.af (.c (.bool false)))] (some [4])) .ret
def akq : R := .cond (.t 14) akp .skip
def akr : R := .seq (.U [ro 4 (.af (.c (.bool false)))] (some [4])) .ret
def aks : R := .cond (.t 20) akr .skip
def akt : R := .seq (.U [ro 4 (.af (.c (.bool true)))] (some [4])) .ret
def aku : R := .seq (.seq (.U [ro 15 (.aP 119 (.t 2) 2),
 ro 16 (.aD 117 (.t 15)),
 ro 17 (.aP 119 (.t 3) 2),
 ro 18 (.aD 117 (.t 17)),
 ro 19 (.call (.f 135) [(.t 16), (.t 18)]),
 ro 20 (.un .not (.t 19))] (some [20])) aks) akt
def akv : R := .seq (.seq (.U [ro 10 (.aP 119 (.t 2) 1),
 ro 11 (.aD 2 (.t 10)),
 ro 12 (.aP 119 (.t 3) 1),
 ro 13 (.aD 2 (.t 12)),
 ro 14 (.aq .neq 2 (.t 11) (.t 13))] (some [2, 3, 14])) akq) aku
def akw : R := .seq (.seq (.U [ro 5 (.aP 119 (.t 2) 0),
 ro 6 (.aD 9 (.t 5)),
 ro 7 (.aP 119 (.t 3) 0),
 ro 8 (.aD 9 (.t 7)),
 ro 9 (.aq .neq 9 (.t 6) (.t 8))] (some [2, 3, 9])) ako) akv
def akx : R := .seq (.U [ro 2 (.c2 119 (.t 0)),
 ro 3 (.c2 119 (.t 1)),
 ro 4 (.af (.c (.bool false)))] (some [2, 3])) akw
theorem aky : bt ⟨21, [0, 1]⟩ (Tryz.f81.body.getD .skip) = some akx.strip := by kernel_rfl
def akz : R := .seq (.U [ro 4 (.af (.c (.bool false)))] (some [4])) .ret
def akA : R := .cond (.t 10) akz .skip
def akB : R := .cond (.t 14) .skip (.exit 0)
def akC : R := .seq (.U [ro 4 (.af (.c (.bool false)))] (some [4])) .ret
def akD : R := .cond (.t 26) akC .skip
def akE : R := .U [ro 15 (.ad (.t 5)),
 ro 16 (.aq .add 3 (.t 15) (.c (.int .i64 1))),
 ro 5 (.af (.t 16))] (some [0, 1, 5])
def akF : R := .seq (.block 1 (.seq (.gI [ro 17 (.ad (.t 0)),
 ro 18 (.ad (.t 5)),
 ro 19 (.bJ 32 (.t 17) (.t 18)),
 ro 20 (.aD 119 (.t 19)),
 ro 21 (.ad (.t 1)),
 ro 22 (.ad (.t 5)),
 ro 23 (.bJ 32 (.t 21) (.t 22)),
 ro 24 (.aD 119 (.t 23)),
 ro 25 (.call (.f 81) [(.t 20), (.t 24)]),
 ro 26 (.un .not (.t 25))] [[], [], [0, 1], [2], [], [], [4, 5], [6], [3, 7], [8]] (some [0, 1, 5, 26])) akD)) akE
def Ll : R := .seq (.seq (.U [ro 11 (.ad (.t 5)),
 ro 12 (.ad (.t 0)),
 ro 13 (.len 32 (.t 12)),
 ro 14 (.aq .lss 3 (.t 11) (.t 13))] (some [0, 1, 5, 14])) akB) akF
def akG : R := .block 0 (.loop Ll)
def akH : R := .seq (.U [ro 4 (.af (.c (.bool true)))] (some [4])) .ret
def akI : R := .seq (.seq (.U [ro 5 (.af (.c (.int .i64 0)))] (some [0, 1, 5])) akG) akH
def akJ : R := .seq (.seq (.U [ro 6 (.ad (.t 0)),
 ro 7 (.len 32 (.t 6)),
 ro 8 (.ad (.t 1)),
 ro 9 (.len 32 (.t 8)),
 ro 10 (.aq .neq 3 (.t 7) (.t 9))] (some [0, 1, 10])) akA) akI
def akK : R := .seq (.U [ro 4 (.af (.c (.bool false)))] (some [0, 1])) akJ
theorem akL : bt ⟨27, [0, 1]⟩ (Tryz.f45.body.getD .skip) = some akK.strip := by kernel_rfl
def akM : R := .seq (.U [ro 4 (.af (.c (.bool false)))] (some [4])) .ret
def akN : R := .cond (.t 9) akM .skip
def akO : R := .seq (.U [ro 4 (.af (.c (.bool false)))] (some [4])) .ret
def akP : R := .cond (.t 15) akO .skip
def akQ : R := .seq (.U [ro 4 (.af (.c (.bool true)))] (some [4])) .ret
def akR : R := .seq (.seq (.U [ro 10 (.aP 124 (.t 2) 1),
 ro 11 (.aD 43 (.t 10)),
 ro 12 (.aP 124 (.t 3) 1),
 ro 13 (.aD 43 (.t 12)),
 ro 14 (.call (.f 21) [(.t 11), (.t 13)]),
 ro 15 (.un .not (.t 14))] (some [15])) akP) akQ
def akS : R := .seq (.seq (.U [ro 5 (.aP 124 (.t 2) 0),
 ro 6 (.aD 2 (.t 5)),
 ro 7 (.aP 124 (.t 3) 0),
 ro 8 (.aD 2 (.t 7)),
 ro 9 (.aq .neq 2 (.t 6) (.t 8))] (some [2, 3, 9])) akN) akR
def akT : R := .seq (.U [ro 2 (.c2 124 (.t 0)),
 ro 3 (.c2 124 (.t 1)),
 ro 4 (.af (.c (.bool false)))] (some [2, 3])) akS
theorem akU : bt ⟨16, [0, 1]⟩ (Tryz.f82.body.getD .skip) = some akT.strip := by kernel_rfl
def akV : R := .seq (.U [ro 4 (.af (.c (.bool false)))] (some [4])) .ret
def akW : R := .cond (.t 10) akV .skip
def akX : R := .cond (.t 14) .skip (.exit 0)
def akY : R := .seq (.U [ro 4 (.af (.c (.bool false)))] (some [4])) .ret
def akZ : R := .cond (.t 26) akY .skip
def ak0 : R := .U [ro 15 (.ad (.t 5)),
 ro 16 (.aq .add 3 (.t 15) (.c (.int .i64 1))),
 ro 5 (.af (.t 16))] (some [0, 1, 5])
def ak1 : R := .seq (.block 1 (.seq (.gI [ro 17 (.ad (.t 0)),
 ro 18 (.ad (.t 5)),
 ro 19 (.bJ 33 (.t 17) (.t 18)),
 ro 20 (.aD 124 (.t 19)),
 ro 21 (.ad (.t 1)),
 ro 22 (.ad (.t 5)),
 ro 23 (.bJ 33 (.t 21) (.t 22)),
 ro 24 (.aD 124 (.t 23)),
 ro 25 (.call (.f 82) [(.t 20), (.t 24)]),
 ro 26 (.un .not (.t 25))] [[], [], [0, 1], [2], [], [], [4, 5], [6], [3, 7], [8]] (some [0, 1, 5, 26])) akZ)) ak0
def Lm : R := .seq (.seq (.U [ro 11 (.ad (.t 5)),
 ro 12 (.ad (.t 0)),
 ro 13 (.len 33 (.t 12)),
 ro 14 (.aq .lss 3 (.t 11) (.t 13))] (some [0, 1, 5, 14])) akX) ak1
def ak2 : R := .block 0 (.loop Lm)
def ak3 : R := .seq (.U [ro 4 (.af (.c (.bool true)))] (some [4])) .ret
def ak4 : R := .seq (.seq (.U [ro 5 (.af (.c (.int .i64 0)))] (some [0, 1, 5])) ak2) ak3
def ak5 : R := .seq (.seq (.U [ro 6 (.ad (.t 0)),
 ro 7 (.len 33 (.t 6)),
 ro 8 (.ad (.t 1)),
 ro 9 (.len 33 (.t 8)),
 ro 10 (.aq .neq 3 (.t 7) (.t 9))] (some [0, 1, 10])) akW) ak4
def ak6 : R := .seq (.U [ro 4 (.af (.c (.bool false)))] (some [0, 1])) ak5
theorem ak7 : bt ⟨27, [0, 1]⟩ (Tryz.f46.body.getD .skip) = some ak6.strip := by kernel_rfl
def ak8 : R := .seq (.U [ro 4 (.af (.c (.bool false)))] (some [4])) .ret
def ak9 : R := .cond (.t 9) ak8 .skip
def ak_ : R := .seq (.U [ro 4 (.af (.c (.bool false)))] (some [4])) .ret
def ala : R := .cond (.t 14) ak_ .skip
def alb : R := .seq (.U [ro 4 (.af (.c (.bool false)))] (some [4])) .ret
def alc : R := .cond (.t 19) alb .skip
def ald : R := .seq (.U [ro 4 (.af (.c (.bool true)))] (some [4])) .ret
def ale : R := .seq (.seq (.U [ro 15 (.aP 126 (.t 2) 2),
 ro 16 (.aD 9 (.t 15)),
 ro 17 (.aP 126 (.t 3) 2),
 ro 18 (.aD 9 (.t 17)),
 ro 19 (.aq .neq 9 (.t 16) (.t 18))] (some [19])) alc) ald
def alf : R := .seq (.seq (.U [ro 10 (.aP 126 (.t 2) 1),
 ro 11 (.aD 9 (.t 10)),
 ro 12 (.aP 126 (.t 3) 1),
 ro 13 (.aD 9 (.t 12)),
 ro 14 (.aq .neq 9 (.t 11) (.t 13))] (some [2, 3, 14])) ala) ale
def alg : R := .seq (.seq (.U [ro 5 (.aP 126 (.t 2) 0),
 ro 6 (.aD 9 (.t 5)),
 ro 7 (.aP 126 (.t 3) 0),
 ro 8 (.aD 9 (.t 7)),
 ro 9 (.aq .neq 9 (.t 6) (.t 8))] (some [2, 3, 9])) ak9) alf
def alh : R := .seq (.U [ro 2 (.c2 126 (.t 0)),
 ro 3 (.c2 126 (.t 1)),
 ro 4 (.af (.c (.bool false)))] (some [2, 3])) alg
theorem ali : bt ⟨20, [0, 1]⟩ (Tryz.f83.body.getD .skip) = some alh.strip := by kernel_rfl
def alj : R := .seq (.U [ro 4 (.af (.c (.bool false)))] (some [4])) .ret
def alk : R := .cond (.t 10) alj .skip
def alm : R := .cond (.t 14) .skip (.exit 0)
def aln : R := .seq (.U [ro 4 (.af (.c (.bool false)))] (some [4])) .ret
def alo : R := .cond (.t 26) aln .skip
def alp : R := .U [ro 15 (.ad (.t 5)),
 ro 16 (.aq .add 3 (.t 15) (.c (.int .i64 1))),
 ro 5 (.af (.t 16))] (some [0, 1, 5])
def alq : R := .seq (.block 1 (.seq (.gI [ro 17 (.ad (.t 0)),
 ro 18 (.ad (.t 5)),
 ro 19 (.bJ 34 (.t 17) (.t 18)),
 ro 20 (.aD 126 (.t 19)),
 ro 21 (.ad (.t 1)),
 ro 22 (.ad (.t 5)),
 ro 23 (.bJ 34 (.t 21) (.t 22)),
 ro 24 (.aD 126 (.t 23)),
 ro 25 (.call (.f 83) [(.t 20), (.t 24)]),
 ro 26 (.un .not (.t 25))] [[], [], [0, 1], [2], [], [], [4, 5], [6], [3, 7], [8]] (some [0, 1, 5, 26])) alo)) alp
def Ln : R := .seq (.seq (.U [ro 11 (.ad (.t 5)),
 ro 12 (.ad (.t 0)),
 ro 13 (.len 34 (.t 12)),
 ro 14 (.aq .lss 3 (.t 11) (.t 13))] (some [0, 1, 5, 14])) alm) alq
def alr : R := .block 0 (.loop Ln)
def als : R := .seq (.U [ro 4 (.af (.c (.bool true)))] (some [4])) .ret
def alu : R := .seq (.seq (.U [ro 5 (.af (.c (.int .i64 0)))] (some [0, 1, 5])) alr) als
def alv : R := .seq (.seq (.U [ro 6 (.ad (.t 0)),
 ro 7 (.len 34 (.t 6)),
 ro 8 (.ad (.t 1)),
 ro 9 (.len 34 (.t 8)),
 ro 10 (.aq .neq 3 (.t 7) (.t 9))] (some [0, 1, 10])) alk) alu
def alw : R := .seq (.U [ro 4 (.af (.c (.bool false)))] (some [0, 1])) alv
theorem sn : bt ⟨27, [0, 1]⟩ (Tryz.f47.body.getD .skip) = some alw.strip := by kernel_rfl
def alx : R := .seq (.U [ro 4 (.af (.c (.bool false)))] (some [4])) .ret
def aly : R := .cond (.t 10) alx .skip
def alz : R := .cond (.t 14) .skip (.exit 0)
def alA : R := .seq (.U [ro 4 (.af (.c (.bool false)))] (some [4])) .ret
def alB : R := .cond (.t 25) alA .skip
def alC : R := .U [ro 15 (.ad (.t 5)),
 ro 16 (.aq .add 3 (.t 15) (.c (.int .i64 1))),
 ro 5 (.af (.t 16))] (some [0, 1, 5])
def alD : R := .seq (.block 1 (.seq (.gI [ro 17 (.ad (.t 0)),
 ro 18 (.ad (.t 5)),
 ro 19 (.bJ 25 (.t 17) (.t 18)),
 ro 20 (.aD 9 (.t 19)),
 ro 21 (.ad (.t 1)),
 ro 22 (.ad (.t 5)),
 ro 23 (.bJ 25 (.t 21) (.t 22)),
 ro 24 (.aD 9 (.t 23)),
 ro 25 (.aq .neq 9 (.t 20) (.t 24))] [[], [], [0, 1], [2], [], [], [4, 5], [6], [3, 7]] (some [0, 1, 5, 25])) alB)) alC
def Lo : R := .seq (.seq (.U [ro 11 (.ad (.t 5)),
 ro 12 (.ad (.t 0)),
 ro 13 (.len 25 (.t 12)),
 ro 14 (.aq .lss 3 (.t 11) (.t 13))] (some [0, 1, 5, 14])) alz) alD
def alE : R := .block 0 (.loop Lo)
def alF : R := .seq (.U [ro 4 (.af (.c (.bool true)))] (some [4])) .ret
def alG : R := .seq (.seq (.U [ro 5 (.af (.c (.int .i64 0)))] (some [0, 1, 5])) alE) alF
def alH : R := .seq (.seq (.U [ro 6 (.ad (.t 0)),
 ro 7 (.len 25 (.t 6)),
 ro 8 (.ad (.t 1)),
 ro 9 (.len 25 (.t 8)),
 ro 10 (.aq .neq 3 (.t 7) (.t 9))] (some [0, 1, 10])) aly) alG
def alI : R := .seq (.U [ro 4 (.af (.c (.bool false)))] (some [0, 1])) alH
theorem alJ : bt ⟨26, [0, 1]⟩ (Tryz.f48.body.getD .skip) = some alI.strip := by kernel_rfl
def alK : R := .seq (.U [ro 4 (.af (.c (.bool false)))] (some [4])) .ret
def alL : R := .cond (.t 10) alK .skip
def alM : R := .seq (.U [ro 4 (.af (.c (.bool false)))] (some [4])) .ret
def alN : R := .cond (.t 16) alM .skip
def alO : R := .seq (.U [ro 4 (.af (.c (.bool false)))] (some [4])) .ret
def alP : R := .cond (.t 22) alO .skip
def alQ : R := .seq (.U [ro 4 (.af (.c (.bool false)))] (some [4])) .ret
def alR : R := .cond (.t 28) alQ .skip
def alS : R := .seq (.U [ro 4 (.af (.c (.bool false)))] (some [4])) .ret
def alT : R := .cond (.t 34) alS .skip
def alU : R := .seq (.U [ro 4 (.af (.c (.bool true)))] (some [4])) .ret
def alV : R := .seq (.seq (.U [ro 29 (.aP 36 (.t 2) 4),
 ro 30 (.aD 25 (.t 29)),
 ro 31 (.aP 36 (.t 3) 4),
 ro 32 (.aD 25 (.t 31)),
 ro 33 (.call (.f 48) [(.t 30), (.t 32)]),
 ro 34 (.un .not (.t 33))] (some [34])) alT) alU
def alW : R := .seq (.seq (.U [ro 23 (.aP 36 (.t 2) 3),
 ro 24 (.aD 25 (.t 23)),
 ro 25 (.aP 36 (.t 3) 3),
 ro 26 (.aD 25 (.t 25)),
 ro 27 (.call (.f 48) [(.t 24), (.t 26)]),
 ro 28 (.un .not (.t 27))] (some [2, 3, 28])) alR) alV
def alX : R := .seq (.seq (.U [ro 17 (.aP 36 (.t 2) 2),
 ro 18 (.aD 34 (.t 17)),
 ro 19 (.aP 36 (.t 3) 2),
 ro 20 (.aD 34 (.t 19)),
 ro 21 (.call (.f 47) [(.t 18), (.t 20)]),
 ro 22 (.un .not (.t 21))] (some [2, 3, 22])) alP) alW
def alY : R := .seq (.seq (.U [ro 11 (.aP 36 (.t 2) 1),
 ro 12 (.aD 33 (.t 11)),
 ro 13 (.aP 36 (.t 3) 1),
 ro 14 (.aD 33 (.t 13)),
 ro 15 (.call (.f 46) [(.t 12), (.t 14)]),
 ro 16 (.un .not (.t 15))] (some [2, 3, 16])) alN) alX
def alZ : R := .seq (.seq (.U [ro 5 (.aP 36 (.t 2) 0),
 ro 6 (.aD 32 (.t 5)),
 ro 7 (.aP 36 (.t 3) 0),
 ro 8 (.aD 32 (.t 7)),
 ro 9 (.call (.f 45) [(.t 6), (.t 8)]),
 ro 10 (.un .not (.t 9))] (some [2, 3, 10])) alL) alY
def al0 : R := .seq (.U [ro 2 (.c2 36 (.t 0)),
 ro 3 (.c2 36 (.t 1)),
 ro 4 (.af (.c (.bool false)))] (some [2, 3])) alZ
theorem uC : bt ⟨35, [0, 1]⟩ (Tryz.f12.body.getD .skip) = some al0.strip := by kernel_rfl
def al1 : R := .seq (.U [ro 2 (.af (.c (.str [109, 48])))] (some [2])) .ret
def al2 : R := .cond (.t 5) al1 .skip
def al3 : R := .cond (.t 7) .skip (.exit 0)
def al4 : R := .U [ro 16 (.ad (.t 0)),
 ro 17 (.aq .quo 3 (.t 16) (.c (.int .i64 10))),
 ro 0 (.af (.t 17))] (some [0, 3])
def al5 : R := .block 1 (.seq (.U [ro 8 (.ad (.t 0)),
 ro 9 (.aq .rem 3 (.t 8) (.c (.int .i64 10))),
 ro 10 (.aq .add 3 (.c (.int .i64 48)) (.t 9)),
 ro 11 (.fZ 3 5 (.t 10)),
 ro 12 (.eD 183 1 [(0, (.t 11))]),
 ro 13 (.fZ 183 9 (.t 12)),
 ro 14 (.ad (.t 3)),
 ro 15 (.aq .add 9 (.t 13) (.t 14)),
 ro 3 (.af (.t 15))] (some [0, 3])) al4)
def Lp : R := .seq (.seq (.U [ro 6 (.ad (.t 0)),
 ro 7 (.aq .gtr 3 (.t 6) (.c (.int .i64 0)))] (some [0, 3, 7])) al3) al5
def al6 : R := .seq (.U [ro 18 (.ad (.t 3)),
 ro 19 (.aq .add 9 (.c (.str [109])) (.t 18)),
 ro 2 (.af (.t 19))] (some [2])) .ret
def al7 : R := .seq (.block 0 (.loop Lp)) al6
def al8 : R := .seq (.U [ro 3 (.af (.c (.str [])))] (some [0, 3])) al7
def al9 : R := .seq (.seq (.U [ro 4 (.ad (.t 0)),
 ro 5 (.aq .leq 3 (.t 4) (.c (.int .i64 0)))] (some [0, 5])) al2) al8
def al_ : R := .seq (.U [ro 2 (.af (.c (.str [])))] (some [0])) al9
theorem ama : bt ⟨20, []⟩ (Tryz.f84.body.getD .skip) = some al_.strip := by kernel_rfl
def amb : R := .cond (.t 9) .skip (.exit 0)
def amc : R := .U [ro 24 (.ad (.t 1)),
 ro 25 (.aq .add 3 (.t 24) (.c (.int .i64 1))),
 ro 1 (.af (.t 25))] (some [0, 1, 5])
def amd : R := .seq (.U [ro 19 (.ad (.t 0)),
 ro 20 (.ad (.t 5)),
 ro 21 (.ad (.t 1)),
 ro 22 (.bJ 147 (.t 19) (.t 20)),
 ro 23 (.aP 191 (.t 22) 1),
 ⟨none, .cx 2 (.t 23) (.t 21), none⟩] (some [0, 1, 5])) amc
def ame : R := .seq (.U [ro 17 (.ad (.t 1)),
 ro 18 (.aq .add 3 (.t 17) (.c (.int .i64 1))),
 ro 1 (.af (.t 18))] (some [0, 1, 5])) amd
def amf : R := .U [ro 10 (.ad (.t 5)),
 ro 11 (.aq .add 3 (.t 10) (.c (.int .i64 1))),
 ro 5 (.af (.t 11))] (some [0, 1, 5])
def amg : R := .seq (.block 1 (.seq (.U [ro 12 (.ad (.t 0)),
 ro 13 (.ad (.t 5)),
 ro 14 (.ad (.t 1)),
 ro 15 (.bJ 147 (.t 12) (.t 13)),
 ro 16 (.aP 191 (.t 15) 0),
 ⟨none, .cx 2 (.t 16) (.t 14), none⟩] (some [0, 1, 5])) ame)) amf
def Lq : R := .seq (.seq (.U [ro 6 (.ad (.t 5)),
 ro 7 (.ad (.t 0)),
 ro 8 (.len 147 (.t 7)),
 ro 9 (.aq .lss 3 (.t 6) (.t 8))] (some [0, 1, 5, 9])) amb) amg
def amh : R := .block 0 (.loop Lq)
def ami : R := .seq (.U [ro 26 (.ad (.t 1)),
 ro 4 (.af (.t 26))] (some [0, 4])) .ret
def amj : R := .seq (.seq (.U [ro 5 (.af (.c (.int .i64 0)))] (some [0, 1, 5])) amh) ami
def amk : R := .seq (.U [ro 4 (.af (.c (.int .i64 0)))] (some [0, 1])) amj
theorem aml : bt ⟨27, [0]⟩ (Tryz.f112.body.getD .skip) = some amk.strip := by kernel_rfl
def amm : R := .cond (.t 9) .skip (.exit 0)
def amn : R := .U [ro 10 (.ad (.t 5)),
 ro 11 (.aq .add 3 (.t 10) (.c (.int .i64 1))),
 ro 5 (.af (.t 11))] (some [0, 1, 5])
def amo : R := .seq (.block 1 (.U [ro 12 (.ad (.t 0)),
 ro 13 (.ad (.t 5)),
 ro 14 (.bJ 120 (.t 12) (.t 13)),
 ro 15 (.aD 147 (.t 14)),
 ro 16 (.ad (.t 1)),
 ro 17 (.call (.f 112) [(.t 15), (.t 16)]),
 ro 1 (.af (.t 17))] (some [0, 1, 5]))) amn
def Lr : R := .seq (.seq (.U [ro 6 (.ad (.t 5)),
 ro 7 (.ad (.t 0)),
 ro 8 (.len 120 (.t 7)),
 ro 9 (.aq .lss 3 (.t 6) (.t 8))] (some [0, 1, 5, 9])) amm) amo
def amp : R := .block 0 (.loop Lr)
def amq : R := .seq (.U [ro 18 (.ad (.t 1)),
 ro 4 (.af (.t 18))] (some [0, 4])) .ret
def amr : R := .seq (.seq (.U [ro 5 (.af (.c (.int .i64 0)))] (some [0, 1, 5])) amp) amq
def ams : R := .seq (.U [ro 4 (.af (.c (.int .i64 0)))] (some [0, 1])) amr
theorem amt : bt ⟨19, [0]⟩ (Tryz.f113.body.getD .skip) = some ams.strip := by kernel_rfl
def amu : R := .cond (.t 9) .skip (.exit 0)
def amv : R := .U [ro 34 (.ad (.t 0)),
 ro 35 (.ad (.t 5)),
 ro 36 (.bJ 117 (.t 34) (.t 35)),
 ro 37 (.aP 122 (.t 36) 3),
 ro 38 (.aD 120 (.t 37)),
 ro 39 (.ad (.t 1)),
 ro 40 (.call (.f 113) [(.t 38), (.t 39)]),
 ro 1 (.af (.t 40))] (some [0, 1, 5])
def amw : R := .seq (.U [ro 32 (.ad (.t 1)),
 ro 33 (.aq .add 3 (.t 32) (.c (.int .i64 1))),
 ro 1 (.af (.t 33))] (some [0, 1, 5])) amv
def amx : R := .seq (.U [ro 26 (.ad (.t 0)),
 ro 27 (.ad (.t 5)),
 ro 28 (.ad (.t 1)),
 ro 29 (.call (.f 84) [(.t 28)]),
 ro 30 (.bJ 117 (.t 26) (.t 27)),
 ro 31 (.aP 122 (.t 30) 2),
 ⟨none, .cx 9 (.t 31) (.t 29), none⟩] (some [0, 1, 5])) amw
def amy : R := .seq (.U [ro 24 (.ad (.t 1)),
 ro 25 (.aq .add 3 (.t 24) (.c (.int .i64 1))),
 ro 1 (.af (.t 25))] (some [0, 1, 5])) amx
def amz : R := .seq (.U [ro 19 (.ad (.t 0)),
 ro 20 (.ad (.t 5)),
 ro 21 (.ad (.t 1)),
 ro 22 (.bJ 117 (.t 19) (.t 20)),
 ro 23 (.aP 122 (.t 22) 1),
 ⟨none, .cx 2 (.t 23) (.t 21), none⟩] (some [0, 1, 5])) amy
def amA : R := .seq (.U [ro 17 (.ad (.t 1)),
 ro 18 (.aq .add 3 (.t 17) (.c (.int .i64 1))),
 ro 1 (.af (.t 18))] (some [0, 1, 5])) amz
def amB : R := .U [ro 10 (.ad (.t 5)),
 ro 11 (.aq .add 3 (.t 10) (.c (.int .i64 1))),
 ro 5 (.af (.t 11))] (some [0, 1, 5])
def amC : R := .seq (.block 1 (.seq (.U [ro 12 (.ad (.t 0)),
 ro 13 (.ad (.t 5)),
 ro 14 (.ad (.t 1)),
 ro 15 (.bJ 117 (.t 12) (.t 13)),
 ro 16 (.aP 122 (.t 15) 0),
 ⟨none, .cx 2 (.t 16) (.t 14), none⟩] (some [0, 1, 5])) amA)) amB
def Ls : R := .seq (.seq (.U [ro 6 (.ad (.t 5)),
 ro 7 (.ad (.t 0)),
 ro 8 (.len 117 (.t 7)),
 ro 9 (.aq .lss 3 (.t 6) (.t 8))] (some [0, 1, 5, 9])) amu) amC
def amD : R := .block 0 (.loop Ls)
def amE : R := .seq (.U [ro 41 (.ad (.t 1)),
 ro 4 (.af (.t 41))] (some [0, 4])) .ret
def amF : R := .seq (.seq (.U [ro 5 (.af (.c (.int .i64 0)))] (some [0, 1, 5])) amD) amE
def amG : R := .seq (.U [ro 4 (.af (.c (.int .i64 0)))] (some [0, 1])) amF
theorem amH : bt ⟨42, [0]⟩ (Tryz.f85.body.getD .skip) = some amG.strip := by kernel_rfl
def amI : R := .cond (.t 9) .skip (.exit 0)
def amJ : R := .U [ro 27 (.ad (.t 0)),
 ro 28 (.ad (.t 5)),
 ro 29 (.bJ 32 (.t 27) (.t 28)),
 ro 30 (.aP 119 (.t 29) 2),
 ro 31 (.aD 117 (.t 30)),
 ro 32 (.ad (.t 1)),
 ro 33 (.call (.f 85) [(.t 31), (.t 32)]),
 ro 1 (.af (.t 33))] (some [0, 1, 5])
def amK : R := .seq (.U [ro 25 (.ad (.t 1)),
 ro 26 (.aq .add 3 (.t 25) (.c (.int .i64 1))),
 ro 1 (.af (.t 26))] (some [0, 1, 5])) amJ
def amL : R := .seq (.U [ro 20 (.ad (.t 0)),
 ro 21 (.ad (.t 5)),
 ro 22 (.ad (.t 1)),
 ro 23 (.bJ 32 (.t 20) (.t 21)),
 ro 24 (.aP 119 (.t 23) 1),
 ⟨none, .cx 2 (.t 24) (.t 22), none⟩] (some [0, 1, 5])) amK
def amM : R := .seq (.U [ro 18 (.ad (.t 1)),
 ro 19 (.aq .add 3 (.t 18) (.c (.int .i64 1))),
 ro 1 (.af (.t 19))] (some [0, 1, 5])) amL
def amN : R := .U [ro 10 (.ad (.t 5)),
 ro 11 (.aq .add 3 (.t 10) (.c (.int .i64 1))),
 ro 5 (.af (.t 11))] (some [0, 1, 5])
def amO : R := .seq (.block 1 (.seq (.U [ro 12 (.ad (.t 0)),
 ro 13 (.ad (.t 5)),
 ro 14 (.ad (.t 1)),
 ro 15 (.call (.f 84) [(.t 14)]),
 ro 16 (.bJ 32 (.t 12) (.t 13)),
 ro 17 (.aP 119 (.t 16) 0),
 ⟨none, .cx 9 (.t 17) (.t 15), none⟩] (some [0, 1, 5])) amM)) amN
def Lt : R := .seq (.seq (.U [ro 6 (.ad (.t 5)),
 ro 7 (.ad (.t 0)),
 ro 8 (.len 32 (.t 7)),
 ro 9 (.aq .lss 3 (.t 6) (.t 8))] (some [0, 1, 5, 9])) amI) amO
def amP : R := .block 0 (.loop Lt)
def amQ : R := .seq (.U [ro 34 (.ad (.t 1)),
 ro 4 (.af (.t 34))] (some [0, 4])) .ret
def amR : R := .seq (.seq (.U [ro 5 (.af (.c (.int .i64 0)))] (some [0, 1, 5])) amP) amQ
def amS : R := .seq (.U [ro 4 (.af (.c (.int .i64 0)))] (some [0, 1])) amR
theorem amT : bt ⟨35, [0]⟩ (Tryz.f49.body.getD .skip) = some amS.strip := by kernel_rfl
def amU : R := .cond (.t 9) .skip (.exit 0)
def amV : R := .U [ro 16 (.ad (.t 1)),
 ro 17 (.aq .add 3 (.t 16) (.c (.int .i64 1))),
 ro 1 (.af (.t 17))] (some [0, 1, 5])
def amW : R := .U [ro 10 (.ad (.t 5)),
 ro 11 (.aq .add 3 (.t 10) (.c (.int .i64 1))),
 ro 5 (.af (.t 11))] (some [0, 1, 5])
def amX : R := .seq (.block 1 (.seq (.U [ro 12 (.ad (.t 0)),
 ro 13 (.ad (.t 5)),
 ro 14 (.ad (.t 1)),
 ro 15 (.bJ 43 (.t 12) (.t 13)),
 ⟨none, .cx 2 (.t 15) (.t 14), none⟩] (some [0, 1, 5])) amV)) amW
def Lu : R := .seq (.seq (.U [ro 6 (.ad (.t 5)),
 ro 7 (.ad (.t 0)),
 ro 8 (.len 43 (.t 7)),
 ro 9 (.aq .lss 3 (.t 6) (.t 8))] (some [0, 1, 5, 9])) amU) amX
def amY : R := .block 0 (.loop Lu)
def amZ : R := .seq (.U [ro 18 (.ad (.t 1)),
 ro 4 (.af (.t 18))] (some [0, 4])) .ret
def am0 : R := .seq (.seq (.U [ro 5 (.af (.c (.int .i64 0)))] (some [0, 1, 5])) amY) amZ
def am1 : R := .seq (.U [ro 4 (.af (.c (.int .i64 0)))] (some [0, 1])) am0
theorem am2 : bt ⟨19, [0]⟩ (Tryz.f23.body.getD .skip) = some am1.strip := by kernel_rfl
def am3 : R := .cond (.t 9) .skip (.exit 0)
def am4 : R := .U [ro 19 (.ad (.t 0)),
 ro 20 (.ad (.t 5)),
 ro 21 (.bJ 33 (.t 19) (.t 20)),
 ro 22 (.aP 124 (.t 21) 1),
 ro 23 (.aD 43 (.t 22)),
 ro 24 (.ad (.t 1)),
 ro 25 (.call (.f 23) [(.t 23), (.t 24)]),
 ro 1 (.af (.t 25))] (some [0, 1, 5])
def am5 : R := .seq (.U [ro 17 (.ad (.t 1)),
 ro 18 (.aq .add 3 (.t 17) (.c (.int .i64 1))),
 ro 1 (.af (.t 18))] (some [0, 1, 5])) am4
def am6 : R := .U [ro 10 (.ad (.t 5)),
 ro 11 (.aq .add 3 (.t 10) (.c (.int .i64 1))),
 ro 5 (.af (.t 11))] (some [0, 1, 5])
def am7 : R := .seq (.block 1 (.seq (.U [ro 12 (.ad (.t 0)),
 ro 13 (.ad (.t 5)),
 ro 14 (.ad (.t 1)),
 ro 15 (.bJ 33 (.t 12) (.t 13)),
 ro 16 (.aP 124 (.t 15) 0),
 ⟨none, .cx 2 (.t 16) (.t 14), none⟩] (some [0, 1, 5])) am5)) am6
def Lv : R := .seq (.seq (.U [ro 6 (.ad (.t 5)),
 ro 7 (.ad (.t 0)),
 ro 8 (.len 33 (.t 7)),
 ro 9 (.aq .lss 3 (.t 6) (.t 8))] (some [0, 1, 5, 9])) am3) am7
def am8 : R := .block 0 (.loop Lv)
def am9 : R := .seq (.U [ro 26 (.ad (.t 1)),
 ro 4 (.af (.t 26))] (some [0, 4])) .ret
def am_ : R := .seq (.seq (.U [ro 5 (.af (.c (.int .i64 0)))] (some [0, 1, 5])) am8) am9
def ana : R := .seq (.U [ro 4 (.af (.c (.int .i64 0)))] (some [0, 1])) am_
theorem anb : bt ⟨27, [0]⟩ (Tryz.f50.body.getD .skip) = some ana.strip := by kernel_rfl
def anc : R := .cond (.t 9) .skip (.exit 0)
def ane : R := .U [ro 34 (.ad (.t 1)),
 ro 35 (.aq .add 3 (.t 34) (.c (.int .i64 1))),
 ro 1 (.af (.t 35))] (some [0, 1, 5])
def anf : R := .seq (.U [ro 28 (.ad (.t 0)),
 ro 29 (.ad (.t 5)),
 ro 30 (.ad (.t 1)),
 ro 31 (.call (.f 84) [(.t 30)]),
 ro 32 (.bJ 34 (.t 28) (.t 29)),
 ro 33 (.aP 126 (.t 32) 2),
 ⟨none, .cx 9 (.t 33) (.t 31), none⟩] (some [0, 1, 5])) ane
def ang : R := .seq (.U [ro 26 (.ad (.t 1)),
 ro 27 (.aq .add 3 (.t 26) (.c (.int .i64 1))),
 ro 1 (.af (.t 27))] (some [0, 1, 5])) anf
def anh : R := .seq (.U [ro 20 (.ad (.t 0)),
 ro 21 (.ad (.t 5)),
 ro 22 (.ad (.t 1)),
 ro 23 (.call (.f 84) [(.t 22)]),
 ro 24 (.bJ 34 (.t 20) (.t 21)),
 ro 25 (.aP 126 (.t 24) 1),
 ⟨none, .cx 9 (.t 25) (.t 23), none⟩] (some [0, 1, 5])) ang
def ani : R := .seq (.U [ro 18 (.ad (.t 1)),
 ro 19 (.aq .add 3 (.t 18) (.c (.int .i64 1))),
 ro 1 (.af (.t 19))] (some [0, 1, 5])) anh
def anj : R := .U [ro 10 (.ad (.t 5)),
 ro 11 (.aq .add 3 (.t 10) (.c (.int .i64 1))),
 ro 5 (.af (.t 11))] (some [0, 1, 5])
def ank : R := .seq (.block 1 (.seq (.U [ro 12 (.ad (.t 0)),
 ro 13 (.ad (.t 5)),
 ro 14 (.ad (.t 1)),
 ro 15 (.call (.f 84) [(.t 14)]),
 ro 16 (.bJ 34 (.t 12) (.t 13)),
 ro 17 (.aP 126 (.t 16) 0),
 ⟨none, .cx 9 (.t 17) (.t 15), none⟩] (some [0, 1, 5])) ani)) anj
def Lw : R := .seq (.seq (.U [ro 6 (.ad (.t 5)),
 ro 7 (.ad (.t 0)),
 ro 8 (.len 34 (.t 7)),
 ro 9 (.aq .lss 3 (.t 6) (.t 8))] (some [0, 1, 5, 9])) anc) ank
def anl : R := .block 0 (.loop Lw)
def anm : R := .seq (.U [ro 36 (.ad (.t 1)),
 ro 4 (.af (.t 36))] (some [0, 4])) .ret
def ann : R := .seq (.seq (.U [ro 5 (.af (.c (.int .i64 0)))] (some [0, 1, 5])) anl) anm
def ano : R := .seq (.U [ro 4 (.af (.c (.int .i64 0)))] (some [0, 1])) ann
theorem anp : bt ⟨37, [0]⟩ (Tryz.f51.body.getD .skip) = some ano.strip := by kernel_rfl
def anq : R := .cond (.t 9) .skip (.exit 0)
def anr : R := .U [ro 17 (.ad (.t 1)),
 ro 18 (.aq .add 3 (.t 17) (.c (.int .i64 1))),
 ro 1 (.af (.t 18))] (some [0, 1, 5])
def ans : R := .U [ro 10 (.ad (.t 5)),
 ro 11 (.aq .add 3 (.t 10) (.c (.int .i64 1))),
 ro 5 (.af (.t 11))] (some [0, 1, 5])
def ant : R := .seq (.block 1 (.seq (.U [ro 12 (.ad (.t 0)),
 ro 13 (.ad (.t 5)),
 ro 14 (.ad (.t 1)),
 ro 15 (.call (.f 84) [(.t 14)]),
 ro 16 (.bJ 25 (.t 12) (.t 13)),
 ⟨none, .cx 9 (.t 16) (.t 15), none⟩] (some [0, 1, 5])) anr)) ans
def Lx : R := .seq (.seq (.U [ro 6 (.ad (.t 5)),
 ro 7 (.ad (.t 0)),
 ro 8 (.len 25 (.t 7)),
 ro 9 (.aq .lss 3 (.t 6) (.t 8))] (some [0, 1, 5, 9])) anq) ant
def anu : R := .block 0 (.loop Lx)
def anv : R := .seq (.U [ro 19 (.ad (.t 1)),
 ro 4 (.af (.t 19))] (some [0, 4])) .ret
def anw : R := .seq (.seq (.U [ro 5 (.af (.c (.int .i64 0)))] (some [0, 1, 5])) anu) anv
def anx : R := .seq (.U [ro 4 (.af (.c (.int .i64 0)))] (some [0, 1])) anw
theorem xz : bt ⟨20, [0]⟩ (Tryz.f52.body.getD .skip) = some anx.strip := by kernel_rfl
def anz : R := .seq (.U [ro 25 (.ad (.t 1)),
 ro 4 (.af (.t 25))] (some [0, 4])) .ret
def anA : R := .seq (.U [ro 21 (.aP 36 (.t 2) 4),
 ro 22 (.aD 25 (.t 21)),
 ro 23 (.ad (.t 1)),
 ro 24 (.call (.f 52) [(.t 22), (.t 23)]),
 ro 1 (.af (.t 24))] (some [0, 1])) anz
def anB : R := .seq (.U [ro 17 (.aP 36 (.t 2) 3),
 ro 18 (.aD 25 (.t 17)),
 ro 19 (.ad (.t 1)),
 ⟨some 20, .jX (.f 52) [(.t 18), (.t 19)] [2], none⟩,
 ro 1 (.af (.t 20))] (some [0, 1, 2])) anA
def anC : R := .seq (.U [ro 13 (.aP 36 (.t 2) 2),
 ro 14 (.aD 34 (.t 13)),
 ro 15 (.ad (.t 1)),
 ⟨some 16, .jX (.f 51) [(.t 14), (.t 15)] [2], none⟩,
 ro 1 (.af (.t 16))] (some [0, 1, 2])) anB
def anD : R := .seq (.U [ro 9 (.aP 36 (.t 2) 1),
 ro 10 (.aD 33 (.t 9)),
 ro 11 (.ad (.t 1)),
 ⟨some 12, .jX (.f 50) [(.t 10), (.t 11)] [2], none⟩,
 ro 1 (.af (.t 12))] (some [0, 1, 2])) anC
def anE : R := .seq (.U [ro 5 (.aP 36 (.t 2) 0),
 ro 6 (.aD 32 (.t 5)),
 ro 7 (.ad (.t 1)),
 ⟨some 8, .jX (.f 49) [(.t 6), (.t 7)] [2], none⟩,
 ro 1 (.af (.t 8))] (some [0, 1, 2])) anD
def anF : R := .seq (.U [⟨some 2, .ju 36 (.t 0), none⟩,
 ro 4 (.af (.c (.int .i64 0)))] (some [0, 1, 2])) anE
theorem uD : bt ⟨26, [0]⟩ (Tryz.f13.body.getD .skip) = some anF.strip := by kernel_rfl
def anG : R := .cond (.t 9) .skip (.exit 0)
def anH : R := .U [ro 26 (.ad (.t 0)),
 ro 27 (.ad (.t 5)),
 ro 28 (.bJ 59 (.t 26) (.t 27)),
 ro 29 (.aP 104 (.t 28) 2),
 ro 30 (.aD 43 (.t 29)),
 ro 31 (.ad (.t 1)),
 ro 32 (.call (.f 23) [(.t 30), (.t 31)]),
 ro 1 (.af (.t 32))] (some [0, 1, 5])
def anI : R := .seq (.U [ro 24 (.ad (.t 1)),
 ro 25 (.aq .add 3 (.t 24) (.c (.int .i64 1))),
 ro 1 (.af (.t 25))] (some [0, 1, 5])) anH
def anJ : R := .seq (.U [ro 19 (.ad (.t 0)),
 ro 20 (.ad (.t 5)),
 ro 21 (.ad (.t 1)),
 ro 22 (.bJ 59 (.t 19) (.t 20)),
 ro 23 (.aP 104 (.t 22) 1),
 ⟨none, .cx 2 (.t 23) (.t 21), none⟩] (some [0, 1, 5])) anI
def anK : R := .seq (.U [ro 17 (.ad (.t 1)),
 ro 18 (.aq .add 3 (.t 17) (.c (.int .i64 1))),
 ro 1 (.af (.t 18))] (some [0, 1, 5])) anJ
def anL : R := .U [ro 10 (.ad (.t 5)),
 ro 11 (.aq .add 3 (.t 10) (.c (.int .i64 1))),
 ro 5 (.af (.t 11))] (some [0, 1, 5])
def anM : R := .seq (.block 1 (.seq (.U [ro 12 (.ad (.t 0)),
 ro 13 (.ad (.t 5)),
 ro 14 (.ad (.t 1)),
 ro 15 (.bJ 59 (.t 12) (.t 13)),
 ro 16 (.aP 104 (.t 15) 0),
 ⟨none, .cx 2 (.t 16) (.t 14), none⟩] (some [0, 1, 5])) anK)) anL
def Ly : R := .seq (.seq (.U [ro 6 (.ad (.t 5)),
 ro 7 (.ad (.t 0)),
 ro 8 (.len 59 (.t 7)),
 ro 9 (.aq .lss 3 (.t 6) (.t 8))] (some [0, 1, 5, 9])) anG) anM
def anN : R := .block 0 (.loop Ly)
def anO : R := .seq (.U [ro 33 (.ad (.t 1)),
 ro 4 (.af (.t 33))] (some [0, 4])) .ret
def anP : R := .seq (.seq (.U [ro 5 (.af (.c (.int .i64 0)))] (some [0, 1, 5])) anN) anO
def anQ : R := .seq (.U [ro 4 (.af (.c (.int .i64 0)))] (some [0, 1])) anP
theorem anR : bt ⟨34, [0]⟩ (Tryz.f29.body.getD .skip) = some anQ.strip := by kernel_rfl
def anS : R := .cond (.t 9) .skip (.exit 0)
def anT : R := .seq (.U [ro 4 (.af (.c (.int .i64 (-1))))] (some [4])) .ret
def anU : R := .cond (.t 17) anT .skip
def anV : R := .U [ro 18 (.ad (.t 1)),
 ro 19 (.aq .add 3 (.t 18) (.c (.int .i64 1))),
 ro 1 (.af (.t 19))] (some [0, 1, 5])
def anW : R := .U [ro 10 (.ad (.t 5)),
 ro 11 (.aq .add 3 (.t 10) (.c (.int .i64 1))),
 ro 5 (.af (.t 11))] (some [0, 1, 5])
def anX : R := .seq (.block 1 (.seq (.seq (.U [ro 12 (.ad (.t 0)),
 ro 13 (.ad (.t 5)),
 ro 14 (.bJ 43 (.t 12) (.t 13)),
 ro 15 (.aD 2 (.t 14)),
 ro 16 (.ad (.t 1)),
 ro 17 (.aq .neq 2 (.t 15) (.t 16))] (some [0, 1, 5, 17])) anU) anV)) anW
def Lz : R := .seq (.seq (.U [ro 6 (.ad (.t 5)),
 ro 7 (.ad (.t 0)),
 ro 8 (.len 43 (.t 7)),
 ro 9 (.aq .lss 3 (.t 6) (.t 8))] (some [0, 1, 5, 9])) anS) anX
def anY : R := .block 0 (.loop Lz)
def anZ : R := .seq (.U [ro 20 (.ad (.t 1)),
 ro 4 (.af (.t 20))] (some [4])) .ret
def an0 : R := .seq (.seq (.U [ro 5 (.af (.c (.int .i64 0)))] (some [0, 1, 5])) anY) anZ
def an1 : R := .seq (.U [ro 4 (.af (.c (.int .i64 0)))] (some [0, 1])) an0
theorem so : bt ⟨21, [0]⟩ (Tryz.f25.body.getD .skip) = some an1.strip := by kernel_rfl
def an2 : R := .cond (.t 9) .skip (.exit 0)
def an3 : R := .seq (.U [ro 4 (.af (.c (.int .i64 (-1))))] (some [4])) .ret
def an4 : R := .cond (.t 18) an3 .skip
def an5 : R := .seq (.U [ro 4 (.af (.c (.int .i64 (-1))))] (some [4])) .ret
def an6 : R := .cond (.t 27) an5 .skip
def an7 : R := .seq (.U [ro 4 (.af (.c (.int .i64 (-1))))] (some [4])) .ret
def an8 : R := .cond (.t 38) an7 .skip
def an9 : R := .seq (.U [ro 37 (.ad (.t 1)),
 ro 38 (.aq .lss 3 (.t 37) (.c (.int .i64 0)))] (some [0, 1, 5, 38])) an8
def an_ : R := .seq (.U [ro 30 (.ad (.t 0)),
 ro 31 (.ad (.t 5)),
 ro 32 (.bJ 59 (.t 30) (.t 31)),
 ro 33 (.aP 104 (.t 32) 2),
 ro 34 (.aD 43 (.t 33)),
 ro 35 (.ad (.t 1)),
 ro 36 (.call (.f 25) [(.t 34), (.t 35)]),
 ro 1 (.af (.t 36))] (some [0, 1, 5])) an9
def aoa : R := .seq (.U [ro 28 (.ad (.t 1)),
 ro 29 (.aq .add 3 (.t 28) (.c (.int .i64 1))),
 ro 1 (.af (.t 29))] (some [0, 1, 5])) an_
def aob : R := .seq (.seq (.U [ro 21 (.ad (.t 0)),
 ro 22 (.ad (.t 5)),
 ro 23 (.bJ 59 (.t 21) (.t 22)),
 ro 24 (.aP 104 (.t 23) 1),
 ro 25 (.aD 2 (.t 24)),
 ro 26 (.ad (.t 1)),
 ro 27 (.aq .neq 2 (.t 25) (.t 26))] (some [0, 1, 5, 27])) an6) aoa
def aoc : R := .seq (.U [ro 19 (.ad (.t 1)),
 ro 20 (.aq .add 3 (.t 19) (.c (.int .i64 1))),
 ro 1 (.af (.t 20))] (some [0, 1, 5])) aob
def aod : R := .U [ro 10 (.ad (.t 5)),
 ro 11 (.aq .add 3 (.t 10) (.c (.int .i64 1))),
 ro 5 (.af (.t 11))] (some [0, 1, 5])
def aoe : R := .seq (.block 1 (.seq (.seq (.U [ro 12 (.ad (.t 0)),
 ro 13 (.ad (.t 5)),
 ro 14 (.bJ 59 (.t 12) (.t 13)),
 ro 15 (.aP 104 (.t 14) 0),
 ro 16 (.aD 2 (.t 15)),
 ro 17 (.ad (.t 1)),
 ro 18 (.aq .neq 2 (.t 16) (.t 17))] (some [0, 1, 5, 18])) an4) aoc)) aod
def LA : R := .seq (.seq (.U [ro 6 (.ad (.t 5)),
 ro 7 (.ad (.t 0)),
 ro 8 (.len 59 (.t 7)),
 ro 9 (.aq .lss 3 (.t 6) (.t 8))] (some [0, 1, 5, 9])) an2) aoe
def aof : R := .block 0 (.loop LA)
def aog : R := .seq (.U [ro 39 (.ad (.t 1)),
 ro 4 (.af (.t 39))] (some [4])) .ret
def aoh : R := .seq (.seq (.U [ro 5 (.af (.c (.int .i64 0)))] (some [0, 1, 5])) aof) aog
def aoi : R := .seq (.U [ro 4 (.af (.c (.int .i64 0)))] (some [0, 1])) aoh
theorem aoj : bt ⟨40, [0]⟩ (Tryz.f30.body.getD .skip) = some aoi.strip := by kernel_rfl
def aok : R := .seq (.U [ro 2 (.af (.c (.bool true)))] (some [2])) .ret
def aol : R := .cond (.t 18) aok .skip
def aom : R := .seq (.U [ro 2 (.af (.c (.bool false)))] (some [2])) .ret
def aon : R := .cond (.t 40) aom .skip
def aoo : R := .seq (.U [ro 2 (.af (.c (.bool false)))] (some [2])) .ret
def aop : R := .cond (.t 45) aoo .skip
def aoq : R := .seq (.U [ro 2 (.af (.c (.bool false)))] (some [2])) .ret
def aor : R := .cond (.t 61) aoq .skip
def aos : R := .seq (.U [ro 2 (.af (.c (.bool false)))] (some [2])) .ret
def aot : R := .cond (.t 69) aos .skip
def aou : R := .seq (.U [ro 2 (.af (.c (.bool false)))] (some [2])) .ret
def aov : R := .cond (.t 72) aou .skip
def aow : R := .seq (.U [ro 2 (.af (.c (.bool false)))] (some [2])) .ret
def aox : R := .cond (.t 87) aow .skip
def aoy : R := .seq (.U [ro 2 (.af (.c (.bool false)))] (some [2])) .ret
def aoz : R := .cond (.t 92) aoy .skip
def aoA : R := .seq (.U [ro 2 (.af (.c (.bool false)))] (some [2])) .ret
def aoB : R := .cond (.t 95) aoA .skip
def aoC : R := .seq (.U [ro 2 (.af (.c (.bool true)))] (some [2])) .ret
def aoD : R := .seq (.seq (.U [ro 93 (.ad (.t 11)),
 ro 94 (.ad (.t 10)),
 ro 95 (.aq .neq 3 (.t 93) (.t 94))] (some [95])) aoB) aoC
def aoE : R := .seq (.seq (.U [ro 91 (.ad (.t 11)),
 ro 92 (.aq .lss 3 (.t 91) (.c (.int .i64 0)))] (some [10, 11, 92])) aoz) aoD
def aoF : R := .seq (.U [ro 88 (.ad (.t 7)),
 ro 89 (.ad (.t 11)),
 ro 90 (.call (.f 30) [(.t 88), (.t 89)]),
 ro 11 (.af (.t 90))] (some [10, 11])) aoE
def aoG : R := .seq (.U [ro 11 (.af (.c (.int .i64 1)))] (some [7, 10, 11])) aoF
def aoH : R := .seq (.seq (.U [ro 79 (.ad (.t 12)),
 ro 80 (.ad (.t 4)),
 ro 81 (.call (.f 28) [(.t 79), (.t 80)]),
 ro 82 (.un .not (.t 81)),
 ro 83 (.ad (.t 82)),
 ⟨some 84, .ad (.t 13), some (83, false)⟩,
 ⟨some 85, .ad (.t 5), some (83, false)⟩,
 ⟨some 86, .aq .neq 2 (.t 84) (.t 85), some (83, false)⟩,
 ro 87 (.pick (.t 83) (.c (.bool true)) (.t 86))] (some [7, 10, 87])) aox) aoG
def aoI : R := .seq (.U [ro 74 (.aD 27 (.t 1)),
 ro 75 (.call (.f 9) [(.t 74)]),
 ro 76 (.call (.f 27) [(.t 75)]),
 ro 73 (.ad (.t 76)),
 ro 77 (.ex (.t 73) 0),
 ro 78 (.ex (.t 73) 1),
 ro 12 (.af (.t 77)),
 ro 13 (.af (.t 78))] (some [4, 5, 7, 10, 12, 13])) aoH
def aoJ : R := .seq (.seq (.U [ro 70 (.ad (.t 11)),
 ro 71 (.ad (.t 10)),
 ro 72 (.aq .neq 3 (.t 70) (.t 71))] (some [1, 4, 5, 7, 10, 72])) aov) aoI
def aoK : R := .seq (.seq (.U [ro 68 (.ad (.t 11)),
 ro 69 (.aq .lss 3 (.t 68) (.c (.int .i64 0)))] (some [1, 4, 5, 7, 10, 11, 69])) aot) aoJ
def aoL : R := .seq (.U [ro 65 (.ad (.t 7)),
 ro 66 (.ad (.t 11)),
 ro 67 (.call (.f 30) [(.t 65), (.t 66)]),
 ro 11 (.af (.t 67))] (some [1, 4, 5, 7, 10, 11])) aoK
def aoM : R := .seq (.U [ro 11 (.af (.c (.int .i64 1)))] (some [1, 4, 5, 7, 10, 11])) aoL
def aoN : R := .seq (.U [ro 62 (.ad (.t 7)),
 ro 63 (.ad (.t 10)),
 ro 64 (.call (.f 29) [(.t 62), (.t 63)]),
 ro 10 (.af (.t 64))] (some [1, 4, 5, 7, 10])) aoM
def aoO : R := .seq (.U [ro 10 (.af (.c (.int .i64 1)))] (some [1, 4, 5, 7, 10])) aoN
def aoP : R := .seq (.seq (.U [ro 49 (.ad (.t 9)),
 ro 50 (.aq .lss 3 (.t 49) (.c (.int .i64 0))),
 ro 51 (.ad (.t 50)),
 ⟨some 52, .ad (.t 7), some (51, false)⟩,
 ⟨some 53, .ad (.t 4), some (51, false)⟩,
 ⟨some 54, .call (.f 28) [(.t 52), (.t 53)], some (51, false)⟩,
 ⟨some 55, .un .not (.t 54), some (51, false)⟩,
 ro 56 (.pick (.t 51) (.c (.bool true)) (.t 55)),
 ro 57 (.ad (.t 56)),
 ⟨some 58, .ad (.t 8), some (57, false)⟩,
 ⟨some 59, .ad (.t 5), some (57, false)⟩,
 ⟨some 60, .aq .neq 2 (.t 58) (.t 59), some (57, false)⟩,
 ro 61 (.pick (.t 57) (.c (.bool true)) (.t 60))] (some [1, 4, 5, 7, 61])) aor) aoO
def aoQ : R := .seq (.U [ro 46 (.aD 36 (.t 6)),
 ro 47 (.ad (.t 9)),
 ro 48 (.call (.f 13) [(.t 46), (.t 47)]),
 ro 9 (.af (.t 48))] (some [1, 4, 5, 7, 8, 9])) aoP
def aoR : R := .seq (.U [ro 9 (.af (.c (.int .i64 1)))] (some [1, 4, 5, 6, 7, 8, 9])) aoQ
def aoS : R := .seq (.seq (.gI [ro 41 (.aD 36 (.t 6)),
 ro 42 (.aD 27 (.t 1)),
 ro 43 (.call (.f 9) [(.t 42)]),
 ro 44 (.call (.f 12) [(.t 41), (.t 43)]),
 ro 45 (.un .not (.t 44))] [[], [], [1], [0, 2, 2], [3]] (some [1, 4, 5, 6, 7, 8, 45])) aop) aoR
def aoT : R := .seq (.seq (.U [ro 32 (.ad (.t 7)),
 ro 33 (.ad (.t 4)),
 ro 34 (.call (.f 28) [(.t 32), (.t 33)]),
 ro 35 (.un .not (.t 34)),
 ro 36 (.ad (.t 35)),
 ⟨some 37, .ad (.t 8), some (36, false)⟩,
 ⟨some 38, .ad (.t 5), some (36, false)⟩,
 ⟨some 39, .aq .neq 2 (.t 37) (.t 38), some (36, false)⟩,
 ro 40 (.pick (.t 36) (.c (.bool true)) (.t 39))] (some [1, 4, 5, 6, 7, 8, 40])) aon) aoS
def aoU : R := .seq (.U [ro 28 (.aD 36 (.t 6)),
 ro 29 (.call (.f 27) [(.t 28)]),
 ro 27 (.ad (.t 29)),
 ro 30 (.ex (.t 27) 0),
 ro 31 (.ex (.t 27) 1),
 ro 7 (.af (.t 30)),
 ro 8 (.af (.t 31))] (some [1, 4, 5, 6, 7, 8])) aoT
def aoV : R := .seq (.U [ro 25 (.aD 27 (.t 1)),
 ro 26 (.call (.f 9) [(.t 25)]),
 ro 6 (.eB 36),
 ⟨none, .cx 36 (.t 6) (.t 26), none⟩] (some [1, 4, 5, 6])) aoU
def aoW : R := .seq (.U [ro 20 (.aD 27 (.t 1)),
 ro 21 (.call (.f 9) [(.t 20)]),
 ro 22 (.call (.f 26) [(.t 21)]),
 ro 19 (.ad (.t 22)),
 ro 23 (.ex (.t 19) 0),
 ro 24 (.ex (.t 19) 1),
 ro 4 (.af (.t 23)),
 ro 5 (.af (.t 24))] (some [1, 4, 5])) aoV
def aoX : R := .seq (.seq (.U [ro 17 (.ad (.t 3)),
 ro 18 (.aq .lss 3 (.t 17) (.c (.int .i64 0)))] (some [1, 18])) aol) aoW
def aoY : R := .seq (.U [ro 14 (.aD 27 (.t 1)),
 ro 15 (.ad (.t 3)),
 ro 16 (.call (.f 7) [(.t 14), (.t 15)]),
 ro 3 (.af (.t 16))] (some [1, 3])) aoX
def aoZ : R := .seq (.U [ro 3 (.af (.c (.int .i64 1048576)))] (some [1, 3])) aoY
def pq : R := .seq (.U [ro 1 (.c2 27 (.t 0)),
 ro 2 (.af (.c (.bool false)))] (some [1])) aoZ
theorem xA : bt ⟨96, [0]⟩ (Tryz.f5.body.getD .skip) = some pq.strip := by kernel_rfl
end Go.Proofs.YtbemmmimelklkaaGreat
