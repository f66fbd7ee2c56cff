/- Part of a proof that a law returns true for every input. No condition. -/
import Derived.Test.YtbemmmimelklkaaGreatTb
import Derived.Test.YtbemmmimelklkaaGreatFwL
import Derived.Test.YtbemmmimelklkaaGreatP6
namespace Go.Proofs.YtbemmmimelklkaaGreat
open Go Go.c5 Go.eR
set_option linter.unusedSimpArgs false
def ft (x : gY) : I := .agg [.int .i64 x.Kind, .int .i64 x.Value]
theorem UO (x : gY) : (ft x).share = ft x := by
 simp only [ft, di]
theorem ax_ (x : gY) : (ft x).c4 = true := by
 simp only [ft, I.c4, I.hx, Bool.and_self]
def fG (x : List gY) : I := .slice (x.map ft)
theorem L2 (x : List gY) : (fG x).share = fG x := by
 simp only [fG, di, @cb _ ft ft (fun _ => UO _)]
def fH (x : ij) : I := .agg [.int .i64 x.Kind, .int .i64 x.Number, .str x.Name, .slice (x.cA.map fG)]
theorem L3 (x : ij) : (fH x).share = fH x := by
 simp only [fH, di, @cb _ fG fG (fun _ => L2 _)]
def gd (x : h4) : I := .agg [.str x.Name, .int .i64 x.dj, .slice (x.Body.map fH)]
theorem L4 (x : h4) : (gd x).share = gd x := by
 simp only [gd, di, @cb _ fH fH (fun _ => L3 _)]
def aU (x : Int) : I := .int .i64 x
theorem hT (x : Int) : (aU x).share = aU x := by
 simp only [aU, di]
theorem py (x : Int) : (aU x).c4 = true := by
 simp only [aU, I.c4, I.hx, Bool.and_self]
def gf (x : ik) : I := .agg [.int .i64 x.fe, .slice (x.fq.map aU)]
theorem L5 (x : ik) : (gf x).share = gf x := by
 simp only [gf, di, @cb _ aU aU (fun _ => hT _)]
def fR (x : h5) : I := .agg [.str x.Left, .str x.ch, .str x.Result]
theorem L6 (x : h5) : (fR x).share = fR x := by
 simp only [fR, di]
theorem aya (x : h5) : (fR x).c4 = true := by
 simp only [fR, I.c4, I.hx, Bool.and_self]
def bF (x : List UInt8) : I := .str x
theorem iw (x : List UInt8) : (bF x).share = bF x := by
 simp only [bF, di]
theorem L7 (x : List UInt8) : (bF x).c4 = true := by
 simp only [bF, I.c4, I.hx, Bool.and_self]
def jh (x : kn) : I := .agg [.slice (x.b3.map gd), .slice (x.cn.map gf), .slice (x.g7.map fR), .slice (x.gZ.map bF), .slice (x.g0.map bF)]
theorem ayb (x : kn) : (jh x).share = jh x := by
 simp only [jh, di, @cb _ gd gd (fun _ => L4 _), @cb _ gf gf (fun _ => L5 _), @cb _ fR fR (fun _ => L6 _), @cb _ bF bF (fun _ => iw _)]
def Gz (x : List h4) : I := .slice (x.map gd)
theorem ayc (x : List h4) : (Gz x).share = Gz x := by
 simp only [Gz, di, @cb _ gd gd (fun _ => L4 _)]
def GA (x : List ik) : I := .slice (x.map gf)
theorem ayd (x : List ik) : (GA x).share = GA x := by
 simp only [GA, di, @cb _ gf gf (fun _ => L5 _)]
def GB (x : List h5) : I := .slice (x.map fR)
theorem aye (x : List h5) : (GB x).share = GB x := by
 simp only [GB, di, @cb _ fR fR (fun _ => L6 _)]
def yE (x : List (List UInt8)) : I := .slice (x.map bF)
theorem ayf (x : List (List UInt8)) : (yE x).share = yE x := by
 simp only [yE, di, @cb _ bF bF (fun _ => iw _)]
def GC (x : List ij) : I := .slice (x.map fH)
theorem ayg (x : List ij) : (GC x).share = GC x := by
 simp only [GC, di, @cb _ fH fH (fun _ => L3 _)]
def GD (x : List (List gY)) : I := .slice (x.map fG)
theorem ayh (x : List (List gY)) : (GD x).share = GD x := by
 simp only [GD, di, @cb _ fG fG (fun _ => L2 _)]
def yF (x : List Int) : I := .slice (x.map aU)
theorem ayi (x : List Int) : (yF x).share = yF x := by
 simp only [yF, di, @cb _ aU aU (fun _ => hT _)]
def b0 (x : bW) : I := .agg [.int .i64 x.Kind, .int .i64 x.Value]
theorem GF (x : bW) : (b0 x).share = b0 x := by
 simp only [b0, di]
theorem UP (x : bW) : (b0 x).c4 = true := by
 simp only [b0, I.c4, I.hx, Bool.and_self]
def eC (x : List bW) : I := .slice (x.map b0)
theorem GG (x : List bW) : (eC x).share = eC x := by
 simp only [eC, di, @cb _ b0 b0 (fun _ => GF _)]
def cd (x : bE) : I := .agg [.int .i64 x.Kind, .int .i64 x.Number, .str x.Name, .slice (x.cA.map eC)]
theorem GH (x : bE) : (cd x).share = cd x := by
 simp only [cd, di, @cb _ eC eC (fun _ => GG _)]
def bB (x : bg) : I := .agg [.str x.Name, .int .i64 x.dj, .slice (x.Body.map cd)]
theorem yG (x : bg) : (bB x).share = bB x := by
 simp only [bB, di, @cb _ cd cd (fun _ => GH _)]
def fl (x : List bW) : I := .ar 2 (x.map b0)
theorem GI (x : List bW) : (fl x).share = eC x := by
 simp only [fl, eC, di, @cb _ b0 b0 (fun _ => GF _)]
theorem L8 (x : List bW) : (fl x).c4 = true := by
 simp only [fl, I.c4, I.hx, Bool.and_self, @je _ b0 (fun _ => UP _)]
def fh (x : bE) : I := .agg [.int .i64 x.Kind, .int .i64 x.Number, .str x.Name, .ar 1 (x.cA.map fl)]
theorem GJ (x : bE) : (fh x).share = cd x := by
 simp only [fh, cd, di, @cb _ fl eC (fun _ => GI _)]
theorem L9 (x : bE) : (fh x).c4 = true := by
 simp only [fh, I.c4, I.hx, Bool.and_self, @je _ fl (fun _ => L8 _)]
def eO (x : bg) : I := .agg [.str x.Name, .int .i64 x.dj, .ar 4 (x.Body.map fh)]
theorem ql (x : bg) : (eO x).share = bB x := by
 simp only [eO, bB, di, @cb _ fh cd (fun _ => GJ _)]
theorem L_ (x : bg) : (eO x).c4 = true := by
 simp only [eO, I.c4, I.hx, Bool.and_self, @je _ fh (fun _ => L9 _)]
def CZ (x : List bE) : I := .ar 4 (x.map fh)
def yH (x : List bE) : I := .slice (x.map cd)
theorem ayj (x : List bE) : (yH x).share = yH x := by
 simp only [yH, di, @cb _ cd cd (fun _ => GH _)]
theorem ayk (x : List bE) : (CZ x).share = yH x := by
 simp only [CZ, yH, di, @cb _ fh cd (fun _ => GJ _)]
theorem ayl (x : List bE) : (CZ x).c4 = true := by
 simp only [CZ, I.c4, I.hx, Bool.and_self, @je _ fh (fun _ => L9 _)]
def C0 (x : List (List bW)) : I := .ar 1 (x.map fl)
def yI (x : List (List bW)) : I := .slice (x.map eC)
theorem aym (x : List (List bW)) : (yI x).share = yI x := by
 simp only [yI, di, @cb _ eC eC (fun _ => GG _)]
theorem ayn (x : List (List bW)) : (C0 x).share = yI x := by
 simp only [C0, yI, di, @cb _ fl eC (fun _ => GI _)]
theorem ayo (x : List (List bW)) : (C0 x).c4 = true := by
 simp only [C0, I.c4, I.hx, Bool.and_self, @je _ fl (fun _ => L8 _)]
def ez (x : dc) : I := .agg [.int .i64 x.fe, .slice (x.fq.map aU)]
theorem yJ (x : dc) : (ez x).share = ez x := by
 simp only [ez, di, @cb _ aU aU (fun _ => hT _)]
def e0 (x : dc) : I := .agg [.int .i64 x.fe, .ar 1 (x.fq.map aU)]
theorem qm (x : dc) : (e0 x).share = ez x := by
 simp only [e0, ez, di, @cb _ aU aU (fun _ => hT _)]
theorem Ma (x : dc) : (e0 x).c4 = true := by
 simp only [e0, I.c4, I.hx, Bool.and_self, @je _ aU (fun _ => py _)]
def C1 (x : List Int) : I := .ar 1 (x.map aU)
theorem ayp (x : List Int) : (C1 x).share = yF x := by
 simp only [C1, yF, di, @cb _ aU aU (fun _ => hT _)]
theorem ayq (x : List Int) : (C1 x).c4 = true := by
 simp only [C1, I.c4, I.hx, Bool.and_self, @je _ aU (fun _ => py _)]
def bt (x : b4) : I := .agg [.str x.Left, .str x.ch, .str x.Result]
theorem mE (x : b4) : (bt x).share = bt x := by
 simp only [bt, di]
theorem Mb (x : b4) : (bt x).c4 = true := by
 simp only [bt, I.c4, I.hx, Bool.and_self]
def mF (x : dv) : I := .agg [.ar 3 (x.b3.map eO), .ar 2 (x.cn.map e0), .ar 3 (x.g7.map bt), .ar 1 (x.gZ.map bF), .ar 1 (x.g0.map bF)]
def ep (x : dv) : I := .agg [.slice (x.b3.map bB), .slice (x.cn.map ez), .slice (x.g7.map bt), .slice (x.gZ.map bF), .slice (x.g0.map bF)]
theorem ayr (x : dv) : (ep x).share = ep x := by
 simp only [ep, di, @cb _ bB bB (fun _ => yG _), @cb _ ez ez (fun _ => yJ _), @cb _ bt bt (fun _ => mE _), @cb _ bF bF (fun _ => iw _)]
theorem ays (x : dv) : (mF x).share = ep x := by
 simp only [mF, ep, di, @cb _ eO bB (fun _ => ql _), @cb _ e0 ez (fun _ => qm _), @cb _ bt bt (fun _ => mE _), @cb _ bF bF (fun _ => iw _)]
theorem ayt (x : dv) : (mF x).c4 = true := by
 simp only [mF, I.c4, I.hx, Bool.and_self, @je _ eO (fun _ => L_ _), @je _ e0 (fun _ => Ma _), @je _ bt (fun _ => Mb _), @je _ bF (fun _ => L7 _)]
def C2 (x : List bg) : I := .ar 3 (x.map eO)
def yK (x : List bg) : I := .slice (x.map bB)
theorem ayu (x : List bg) : (yK x).share = yK x := by
 simp only [yK, di, @cb _ bB bB (fun _ => yG _)]
theorem ayv (x : List bg) : (C2 x).share = yK x := by
 simp only [C2, yK, di, @cb _ eO bB (fun _ => ql _)]
theorem ayw (x : List bg) : (C2 x).c4 = true := by
 simp only [C2, I.c4, I.hx, Bool.and_self, @je _ eO (fun _ => L_ _)]
def C3 (x : List dc) : I := .ar 2 (x.map e0)
def yL (x : List dc) : I := .slice (x.map ez)
theorem ayx (x : List dc) : (yL x).share = yL x := by
 simp only [yL, di, @cb _ ez ez (fun _ => yJ _)]
theorem ayy (x : List dc) : (C3 x).share = yL x := by
 simp only [C3, yL, di, @cb _ e0 ez (fun _ => qm _)]
theorem ayz (x : List dc) : (C3 x).c4 = true := by
 simp only [C3, I.c4, I.hx, Bool.and_self, @je _ e0 (fun _ => Ma _)]
def C4 (x : List b4) : I := .ar 3 (x.map bt)
def yM (x : List b4) : I := .slice (x.map bt)
theorem ayA (x : List b4) : (yM x).share = yM x := by
 simp only [yM, di, @cb _ bt bt (fun _ => mE _)]
theorem ayB (x : List b4) : (C4 x).share = yM x := by
 simp only [C4, yM, di, @cb _ bt bt (fun _ => mE _)]
theorem ayC (x : List b4) : (C4 x).c4 = true := by
 simp only [C4, I.c4, I.hx, Bool.and_self, @je _ bt (fun _ => Mb _)]
def C5 (x : List (List UInt8)) : I := .ar 1 (x.map bF)
theorem ayD (x : List (List UInt8)) : (C5 x).share = yE x := by
 simp only [C5, yE, di, @cb _ bF bF (fun _ => iw _)]
theorem ayE (x : List (List UInt8)) : (C5 x).c4 = true := by
 simp only [C5, I.c4, I.hx, Bool.and_self, @je _ bF (fun _ => L7 _)]
def dE (x : cx) : I := .agg [.int .i64 x.scope, .bool x.behind]
theorem Mc (x : cx) : (dE x).share = dE x := by
 simp only [dE, di]
theorem UQ (x : cx) : (dE x).c4 = true := by
 simp only [dE, I.c4, I.hx, Bool.and_self]
def yN (x : Bool) : I := .bool x
theorem ayF (x : Bool) : (yN x).share = yN x := by
 simp only [yN, di]
theorem ayG (x : Bool) : (yN x).c4 = true := by
 simp only [yN, I.c4, I.hx, Bool.and_self]
def UR : J := .seq (.R [ro 4 (.ae (.c (.int .i64 (-1))))] (some [4])) .ret
def US : J := .cond (.t 10) UR .skip
def UT : J := .seq (.R [ro 11 (.ab (.t 1)),
 ro 4 (.ae (.t 11))] (some [4])) .ret
def UU : J := .seq (.seq (.R [ro 9 (.ab (.t 1)),
 ro 10 (.aw .lss 3 (.t 9) (.c (.int .i64 0)))] (some [1, 10])) US) UT
def UW : J := .seq (.R [ro 5 (.ab (.t 1)),
 ro 6 (.ab (.t 0)),
 ro 7 (.len 139 (.t 6)),
 ro 8 (.aw .sub 3 (.t 5) (.t 7)),
 ro 1 (.ae (.t 8))] (some [1])) UU
def UX : J := .seq (.R [ro 4 (.ae (.c (.int .i64 0)))] (some [0, 1])) UW
theorem UY : bG ⟨12, [0]⟩ (Tryz.f136.body.getD .skip) = some UX.strip := by kernel_rfl
def UZ : J := .seq (.R [ro 4 (.ae (.c (.int .i64 (-1))))] (some [4])) .ret
def U0 : J := .cond (.t 11) UZ .skip
def U1 : J := .cond (.t 15) .skip (.exit 0)
def U2 : J := .seq (.R [ro 4 (.ae (.c (.int .i64 (-1))))] (some [4])) .ret
def U3 : J := .cond (.t 25) U2 .skip
def U4 : J := .seq (.R [ro 24 (.ab (.t 1)),
 ro 25 (.aw .lss 3 (.t 24) (.c (.int .i64 0)))] (some [0, 1, 5, 25])) U3
def U5 : J := .R [ro 16 (.ab (.t 5)),
 ro 17 (.aw .add 3 (.t 16) (.c (.int .i64 1))),
 ro 5 (.ae (.t 17))] (some [0, 1, 5])
def U6 : J := .seq (.block 1 (.seq (.R [ro 18 (.ab (.t 0)),
 ro 19 (.ab (.t 5)),
 ro 20 (.bP 140 (.t 18) (.t 19)),
 ro 21 (.aE 139 (.t 20)),
 ro 22 (.ab (.t 1)),
 ro 23 (.call (.f 136) [(.t 21), (.t 22)]),
 ro 1 (.ae (.t 23))] (some [0, 1, 5])) U4)) U5
def Md : J := .seq (.seq (.R [ro 12 (.ab (.t 5)),
 ro 13 (.ab (.t 0)),
 ro 14 (.len 140 (.t 13)),
 ro 15 (.aw .lss 3 (.t 12) (.t 14))] (some [0, 1, 5, 15])) U1) U6
def U7 : J := .block 0 (.loop Md)
def U8 : J := .seq (.R [ro 26 (.ab (.t 1)),
 ro 4 (.ae (.t 26))] (some [4])) .ret
def U9 : J := .seq (.seq (.R [ro 5 (.ae (.c (.int .i64 0)))] (some [0, 1, 5])) U7) U8
def U_ : J := .seq (.seq (.R [ro 10 (.ab (.t 1)),
 ro 11 (.aw .lss 3 (.t 10) (.c (.int .i64 0)))] (some [0, 1, 11])) U0) U9
def Va : J := .seq (.R [ro 6 (.ab (.t 1)),
 ro 7 (.ab (.t 0)),
 ro 8 (.len 140 (.t 7)),
 ro 9 (.aw .sub 3 (.t 6) (.t 8)),
 ro 1 (.ae (.t 9))] (some [0, 1])) U_
def Vb : J := .seq (.R [ro 4 (.ae (.c (.int .i64 0)))] (some [0, 1])) Va
theorem Vc : bG ⟨27, [0]⟩ (Tryz.f137.body.getD .skip) = some Vb.strip := by kernel_rfl
def Vd : J := .seq (.R [ro 4 (.ae (.c (.int .i64 (-1))))] (some [4])) .ret
def Ve : J := .cond (.t 11) Vd .skip
def Vf : J := .seq (.R [ro 4 (.ae (.c (.int .i64 (-1))))] (some [4])) .ret
def Vg : J := .cond (.t 17) Vf .skip
def Vh : J := .seq (.R [ro 18 (.ab (.t 1)),
 ro 4 (.ae (.t 18))] (some [4])) .ret
def Vi : J := .seq (.seq (.R [ro 16 (.ab (.t 1)),
 ro 17 (.aw .lss 3 (.t 16) (.c (.int .i64 0)))] (some [1, 17])) Vg) Vh
def Vj : J := .seq (.R [ro 12 (.aW 209 (.t 2) 3),
 ro 13 (.aE 140 (.t 12)),
 ro 14 (.ab (.t 1)),
 ro 15 (.call (.f 137) [(.t 13), (.t 14)]),
 ro 1 (.ae (.t 15))] (some [1])) Vi
def Vk : J := .seq (.seq (.R [ro 10 (.ab (.t 1)),
 ro 11 (.aw .lss 3 (.t 10) (.c (.int .i64 0)))] (some [1, 2, 11])) Ve) Vj
def Vl : J := .seq (.R [ro 5 (.ab (.t 1)),
 ro 6 (.aW 209 (.t 2) 2),
 ro 7 (.aE 9 (.t 6)),
 ro 8 (.len 9 (.t 7)),
 ro 9 (.aw .sub 3 (.t 5) (.t 8)),
 ro 1 (.ae (.t 9))] (some [1, 2])) Vk
def Vm : J := .seq (.R [ro 2 (.dd 209 (.t 0)),
 ro 4 (.ae (.c (.int .i64 0)))] (some [1, 2])) Vl
theorem Vn : bG ⟨19, [0]⟩ (Tryz.f160.body.getD .skip) = some Vm.strip := by kernel_rfl
def Vo : J := .seq (.R [ro 4 (.ae (.c (.int .i64 (-1))))] (some [4])) .ret
def Vp : J := .cond (.t 11) Vo .skip
def Vq : J := .cond (.t 15) .skip (.exit 0)
def Vr : J := .seq (.R [ro 4 (.ae (.c (.int .i64 (-1))))] (some [4])) .ret
def Vs : J := .cond (.t 25) Vr .skip
def Vt : J := .seq (.R [ro 24 (.ab (.t 1)),
 ro 25 (.aw .lss 3 (.t 24) (.c (.int .i64 0)))] (some [0, 1, 5, 25])) Vs
def Vu : J := .R [ro 16 (.ab (.t 5)),
 ro 17 (.aw .add 3 (.t 16) (.c (.int .i64 1))),
 ro 5 (.ae (.t 17))] (some [0, 1, 5])
def Vv : J := .seq (.block 1 (.seq (.R [ro 18 (.ab (.t 0)),
 ro 19 (.ab (.t 5)),
 ro 20 (.bP 107 (.t 18) (.t 19)),
 ro 21 (.aE 209 (.t 20)),
 ro 22 (.ab (.t 1)),
 ro 23 (.call (.f 160) [(.t 21), (.t 22)]),
 ro 1 (.ae (.t 23))] (some [0, 1, 5])) Vt)) Vu
def Me : J := .seq (.seq (.R [ro 12 (.ab (.t 5)),
 ro 13 (.ab (.t 0)),
 ro 14 (.len 107 (.t 13)),
 ro 15 (.aw .lss 3 (.t 12) (.t 14))] (some [0, 1, 5, 15])) Vq) Vv
def Vw : J := .block 0 (.loop Me)
def Vx : J := .seq (.R [ro 26 (.ab (.t 1)),
 ro 4 (.ae (.t 26))] (some [4])) .ret
def Vy : J := .seq (.seq (.R [ro 5 (.ae (.c (.int .i64 0)))] (some [0, 1, 5])) Vw) Vx
def Vz : J := .seq (.seq (.R [ro 10 (.ab (.t 1)),
 ro 11 (.aw .lss 3 (.t 10) (.c (.int .i64 0)))] (some [0, 1, 11])) Vp) Vy
def VA : J := .seq (.R [ro 6 (.ab (.t 1)),
 ro 7 (.ab (.t 0)),
 ro 8 (.len 107 (.t 7)),
 ro 9 (.aw .sub 3 (.t 6) (.t 8)),
 ro 1 (.ae (.t 9))] (some [0, 1])) Vz
def VB : J := .seq (.R [ro 4 (.ae (.c (.int .i64 0)))] (some [0, 1])) VA
theorem VC : bG ⟨27, [0]⟩ (Tryz.f121.body.getD .skip) = some VB.strip := by kernel_rfl
def VD : J := .seq (.R [ro 4 (.ae (.c (.int .i64 (-1))))] (some [4])) .ret
def VE : J := .cond (.t 11) VD .skip
def VF : J := .seq (.R [ro 4 (.ae (.c (.int .i64 (-1))))] (some [4])) .ret
def VG : J := .cond (.t 17) VF .skip
def VH : J := .seq (.R [ro 18 (.ab (.t 1)),
 ro 4 (.ae (.t 18))] (some [4])) .ret
def VI : J := .seq (.seq (.R [ro 16 (.ab (.t 1)),
 ro 17 (.aw .lss 3 (.t 16) (.c (.int .i64 0)))] (some [1, 17])) VG) VH
def VJ : J := .seq (.R [ro 12 (.aW 109 (.t 2) 2),
 ro 13 (.aE 107 (.t 12)),
 ro 14 (.ab (.t 1)),
 ro 15 (.call (.f 121) [(.t 13), (.t 14)]),
 ro 1 (.ae (.t 15))] (some [1])) VI
def VK : J := .seq (.seq (.R [ro 10 (.ab (.t 1)),
 ro 11 (.aw .lss 3 (.t 10) (.c (.int .i64 0)))] (some [1, 2, 11])) VE) VJ
def VL : J := .seq (.R [ro 5 (.ab (.t 1)),
 ro 6 (.aW 109 (.t 2) 0),
 ro 7 (.aE 9 (.t 6)),
 ro 8 (.len 9 (.t 7)),
 ro 9 (.aw .sub 3 (.t 5) (.t 8)),
 ro 1 (.ae (.t 9))] (some [1, 2])) VK
def VM : J := .seq (.R [ro 2 (.dd 109 (.t 0)),
 ro 4 (.ae (.c (.int .i64 0)))] (some [1, 2])) VL
theorem VN : bG ⟨19, [0]⟩ (Tryz.f72.body.getD .skip) = some VM.strip := by kernel_rfl
def VO : J := .seq (.R [ro 4 (.ae (.c (.int .i64 (-1))))] (some [4])) .ret
def VP : J := .cond (.t 11) VO .skip
def VQ : J := .cond (.t 15) .skip (.exit 0)
def VR : J := .seq (.R [ro 4 (.ae (.c (.int .i64 (-1))))] (some [4])) .ret
def VS : J := .cond (.t 25) VR .skip
def VT : J := .seq (.R [ro 24 (.ab (.t 1)),
 ro 25 (.aw .lss 3 (.t 24) (.c (.int .i64 0)))] (some [0, 1, 5, 25])) VS
def VU : J := .R [ro 16 (.ab (.t 5)),
 ro 17 (.aw .add 3 (.t 16) (.c (.int .i64 1))),
 ro 5 (.ae (.t 17))] (some [0, 1, 5])
def VV : J := .seq (.block 1 (.seq (.R [ro 18 (.ab (.t 0)),
 ro 19 (.ab (.t 5)),
 ro 20 (.bP 22 (.t 18) (.t 19)),
 ro 21 (.aE 109 (.t 20)),
 ro 22 (.ab (.t 1)),
 ro 23 (.call (.f 72) [(.t 21), (.t 22)]),
 ro 1 (.ae (.t 23))] (some [0, 1, 5])) VT)) VU
def Mf : J := .seq (.seq (.R [ro 12 (.ab (.t 5)),
 ro 13 (.ab (.t 0)),
 ro 14 (.len 22 (.t 13)),
 ro 15 (.aw .lss 3 (.t 12) (.t 14))] (some [0, 1, 5, 15])) VQ) VV
def VW : J := .block 0 (.loop Mf)
def VX : J := .seq (.R [ro 26 (.ab (.t 1)),
 ro 4 (.ae (.t 26))] (some [4])) .ret
def VY : J := .seq (.seq (.R [ro 5 (.ae (.c (.int .i64 0)))] (some [0, 1, 5])) VW) VX
def VZ : J := .seq (.seq (.R [ro 10 (.ab (.t 1)),
 ro 11 (.aw .lss 3 (.t 10) (.c (.int .i64 0)))] (some [0, 1, 11])) VP) VY
def V0 : J := .seq (.R [ro 6 (.ab (.t 1)),
 ro 7 (.ab (.t 0)),
 ro 8 (.len 22 (.t 7)),
 ro 9 (.aw .sub 3 (.t 6) (.t 8)),
 ro 1 (.ae (.t 9))] (some [0, 1])) VZ
def V1 : J := .seq (.R [ro 4 (.ae (.c (.int .i64 0)))] (some [0, 1])) V0
theorem yO : bG ⟨27, [0]⟩ (Tryz.f33.body.getD .skip) = some V1.strip := by kernel_rfl
def V2 : J := .seq (.R [ro 4 (.ae (.c (.int .i64 (-1))))] (some [4])) .ret
def V3 : J := .cond (.t 10) V2 .skip
def V4 : J := .seq (.R [ro 11 (.ab (.t 1)),
 ro 4 (.ae (.t 11))] (some [4])) .ret
def V5 : J := .seq (.seq (.R [ro 9 (.ab (.t 1)),
 ro 10 (.aw .lss 3 (.t 9) (.c (.int .i64 0)))] (some [1, 10])) V3) V4
def V6 : J := .seq (.R [ro 5 (.ab (.t 1)),
 ro 6 (.ab (.t 0)),
 ro 7 (.len 43 (.t 6)),
 ro 8 (.aw .sub 3 (.t 5) (.t 7)),
 ro 1 (.ae (.t 8))] (some [1])) V5
def V7 : J := .seq (.R [ro 4 (.ae (.c (.int .i64 0)))] (some [0, 1])) V6
theorem yP : bG ⟨12, [0]⟩ (Tryz.f53.body.getD .skip) = some V7.strip := by kernel_rfl
def V8 : J := .seq (.R [ro 4 (.ae (.c (.int .i64 (-1))))] (some [4])) .ret
def V9 : J := .cond (.t 10) V8 .skip
def V_ : J := .seq (.R [ro 11 (.ab (.t 1)),
 ro 4 (.ae (.t 11))] (some [4])) .ret
def Wa : J := .seq (.seq (.R [ro 9 (.ab (.t 1)),
 ro 10 (.aw .lss 3 (.t 9) (.c (.int .i64 0)))] (some [1, 10])) V9) V_
def Wb : J := .seq (.R [ro 5 (.aW 112 (.t 2) 1),
 ro 6 (.aE 43 (.t 5)),
 ro 7 (.ab (.t 1)),
 ro 8 (.call (.f 53) [(.t 6), (.t 7)]),
 ro 1 (.ae (.t 8))] (some [1])) Wa
def Wc : J := .seq (.R [ro 2 (.dd 112 (.t 0)),
 ro 4 (.ae (.c (.int .i64 0)))] (some [1, 2])) Wb
theorem Wd : bG ⟨12, [0]⟩ (Tryz.f73.body.getD .skip) = some Wc.strip := by kernel_rfl
def We : J := .seq (.R [ro 4 (.ae (.c (.int .i64 (-1))))] (some [4])) .ret
def Wf : J := .cond (.t 11) We .skip
def Wg : J := .cond (.t 15) .skip (.exit 0)
def Wh : J := .seq (.R [ro 4 (.ae (.c (.int .i64 (-1))))] (some [4])) .ret
def Wi : J := .cond (.t 25) Wh .skip
def Wj : J := .seq (.R [ro 24 (.ab (.t 1)),
 ro 25 (.aw .lss 3 (.t 24) (.c (.int .i64 0)))] (some [0, 1, 5, 25])) Wi
def Wk : J := .R [ro 16 (.ab (.t 5)),
 ro 17 (.aw .add 3 (.t 16) (.c (.int .i64 1))),
 ro 5 (.ae (.t 17))] (some [0, 1, 5])
def Wl : J := .seq (.block 1 (.seq (.R [ro 18 (.ab (.t 0)),
 ro 19 (.ab (.t 5)),
 ro 20 (.bP 23 (.t 18) (.t 19)),
 ro 21 (.aE 112 (.t 20)),
 ro 22 (.ab (.t 1)),
 ro 23 (.call (.f 73) [(.t 21), (.t 22)]),
 ro 1 (.ae (.t 23))] (some [0, 1, 5])) Wj)) Wk
def Mg : J := .seq (.seq (.R [ro 12 (.ab (.t 5)),
 ro 13 (.ab (.t 0)),
 ro 14 (.len 23 (.t 13)),
 ro 15 (.aw .lss 3 (.t 12) (.t 14))] (some [0, 1, 5, 15])) Wg) Wl
def Wm : J := .block 0 (.loop Mg)
def Wn : J := .seq (.R [ro 26 (.ab (.t 1)),
 ro 4 (.ae (.t 26))] (some [4])) .ret
def Wo : J := .seq (.seq (.R [ro 5 (.ae (.c (.int .i64 0)))] (some [0, 1, 5])) Wm) Wn
def Wp : J := .seq (.seq (.R [ro 10 (.ab (.t 1)),
 ro 11 (.aw .lss 3 (.t 10) (.c (.int .i64 0)))] (some [0, 1, 11])) Wf) Wo
def Wq : J := .seq (.R [ro 6 (.ab (.t 1)),
 ro 7 (.ab (.t 0)),
 ro 8 (.len 23 (.t 7)),
 ro 9 (.aw .sub 3 (.t 6) (.t 8)),
 ro 1 (.ae (.t 9))] (some [0, 1])) Wp
def Wr : J := .seq (.R [ro 4 (.ae (.c (.int .i64 0)))] (some [0, 1])) Wq
theorem yQ : bG ⟨27, [0]⟩ (Tryz.f34.body.getD .skip) = some Wr.strip := by kernel_rfl
def Ws : J := .seq (.R [ro 4 (.ae (.c (.int .i64 (-1))))] (some [4])) .ret
def Wt : J := .cond (.t 11) Ws .skip
def Wu : J := .seq (.R [ro 4 (.ae (.c (.int .i64 (-1))))] (some [4])) .ret
def Wv : J := .cond (.t 18) Wu .skip
def Ww : J := .seq (.R [ro 4 (.ae (.c (.int .i64 (-1))))] (some [4])) .ret
def Wx : J := .cond (.t 25) Ww .skip
def Wy : J := .seq (.R [ro 26 (.ab (.t 1)),
 ro 4 (.ae (.t 26))] (some [4])) .ret
def Wz : J := .seq (.seq (.R [ro 24 (.ab (.t 1)),
 ro 25 (.aw .lss 3 (.t 24) (.c (.int .i64 0)))] (some [1, 25])) Wx) Wy
def WA : J := .seq (.R [ro 19 (.ab (.t 1)),
 ro 20 (.aW 115 (.t 2) 2),
 ro 21 (.aE 9 (.t 20)),
 ro 22 (.len 9 (.t 21)),
 ro 23 (.aw .sub 3 (.t 19) (.t 22)),
 ro 1 (.ae (.t 23))] (some [1])) Wz
def WB : J := .seq (.seq (.R [ro 17 (.ab (.t 1)),
 ro 18 (.aw .lss 3 (.t 17) (.c (.int .i64 0)))] (some [1, 2, 18])) Wv) WA
def WC : J := .seq (.R [ro 12 (.ab (.t 1)),
 ro 13 (.aW 115 (.t 2) 1),
 ro 14 (.aE 9 (.t 13)),
 ro 15 (.len 9 (.t 14)),
 ro 16 (.aw .sub 3 (.t 12) (.t 15)),
 ro 1 (.ae (.t 16))] (some [1, 2])) WB
def WD : J := .seq (.seq (.R [ro 10 (.ab (.t 1)),
 ro 11 (.aw .lss 3 (.t 10) (.c (.int .i64 0)))] (some [1, 2, 11])) Wt) WC
def WE : J := .seq (.R [ro 5 (.ab (.t 1)),
 ro 6 (.aW 115 (.t 2) 0),
 ro 7 (.aE 9 (.t 6)),
 ro 8 (.len 9 (.t 7)),
 ro 9 (.aw .sub 3 (.t 5) (.t 8)),
 ro 1 (.ae (.t 9))] (some [1, 2])) WD
def WG : J := .seq (.R [ro 2 (.dd 115 (.t 0)),
 ro 4 (.ae (.c (.int .i64 0)))] (some [1, 2])) WE
theorem WH : bG ⟨27, [0]⟩ (Tryz.f74.body.getD .skip) = some WG.strip := by kernel_rfl
def WI : J := .seq (.R [ro 4 (.ae (.c (.int .i64 (-1))))] (some [4])) .ret
def WJ : J := .cond (.t 11) WI .skip
def WK : J := .cond (.t 15) .skip (.exit 0)
def WL : J := .seq (.R [ro 4 (.ae (.c (.int .i64 (-1))))] (some [4])) .ret
def WM : J := .cond (.t 25) WL .skip
def WN : J := .seq (.R [ro 24 (.ab (.t 1)),
 ro 25 (.aw .lss 3 (.t 24) (.c (.int .i64 0)))] (some [0, 1, 5, 25])) WM
def WO : J := .R [ro 16 (.ab (.t 5)),
 ro 17 (.aw .add 3 (.t 16) (.c (.int .i64 1))),
 ro 5 (.ae (.t 17))] (some [0, 1, 5])
def WQ : J := .seq (.block 1 (.seq (.R [ro 18 (.ab (.t 0)),
 ro 19 (.ab (.t 5)),
 ro 20 (.bP 24 (.t 18) (.t 19)),
 ro 21 (.aE 115 (.t 20)),
 ro 22 (.ab (.t 1)),
 ro 23 (.call (.f 74) [(.t 21), (.t 22)]),
 ro 1 (.ae (.t 23))] (some [0, 1, 5])) WN)) WO
def Mh : J := .seq (.seq (.R [ro 12 (.ab (.t 5)),
 ro 13 (.ab (.t 0)),
 ro 14 (.len 24 (.t 13)),
 ro 15 (.aw .lss 3 (.t 12) (.t 14))] (some [0, 1, 5, 15])) WK) WQ
def WR : J := .block 0 (.loop Mh)
def WS : J := .seq (.R [ro 26 (.ab (.t 1)),
 ro 4 (.ae (.t 26))] (some [4])) .ret
def WT : J := .seq (.seq (.R [ro 5 (.ae (.c (.int .i64 0)))] (some [0, 1, 5])) WR) WS
def WU : J := .seq (.seq (.R [ro 10 (.ab (.t 1)),
 ro 11 (.aw .lss 3 (.t 10) (.c (.int .i64 0)))] (some [0, 1, 11])) WJ) WT
def WV : J := .seq (.R [ro 6 (.ab (.t 1)),
 ro 7 (.ab (.t 0)),
 ro 8 (.len 24 (.t 7)),
 ro 9 (.aw .sub 3 (.t 6) (.t 8)),
 ro 1 (.ae (.t 9))] (some [0, 1])) WU
def WW : J := .seq (.R [ro 4 (.ae (.c (.int .i64 0)))] (some [0, 1])) WV
theorem WX : bG ⟨27, [0]⟩ (Tryz.f35.body.getD .skip) = some WW.strip := by kernel_rfl
def WY : J := .seq (.R [ro 4 (.ae (.c (.int .i64 (-1))))] (some [4])) .ret
def WZ : J := .cond (.t 11) WY .skip
def W0 : J := .cond (.t 15) .skip (.exit 0)
def W1 : J := .seq (.R [ro 4 (.ae (.c (.int .i64 (-1))))] (some [4])) .ret
def W2 : J := .cond (.t 26) W1 .skip
def W3 : J := .seq (.R [ro 25 (.ab (.t 1)),
 ro 26 (.aw .lss 3 (.t 25) (.c (.int .i64 0)))] (some [0, 1, 5, 26])) W2
def W4 : J := .R [ro 16 (.ab (.t 5)),
 ro 17 (.aw .add 3 (.t 16) (.c (.int .i64 1))),
 ro 5 (.ae (.t 17))] (some [0, 1, 5])
def W5 : J := .seq (.block 1 (.seq (.R [ro 18 (.ab (.t 1)),
 ro 19 (.ab (.t 0)),
 ro 20 (.ab (.t 5)),
 ro 21 (.bP 25 (.t 19) (.t 20)),
 ro 22 (.aE 9 (.t 21)),
 ro 23 (.len 9 (.t 22)),
 ro 24 (.aw .sub 3 (.t 18) (.t 23)),
 ro 1 (.ae (.t 24))] (some [0, 1, 5])) W3)) W4
def Mi : J := .seq (.seq (.R [ro 12 (.ab (.t 5)),
 ro 13 (.ab (.t 0)),
 ro 14 (.len 25 (.t 13)),
 ro 15 (.aw .lss 3 (.t 12) (.t 14))] (some [0, 1, 5, 15])) W0) W5
def W6 : J := .block 0 (.loop Mi)
def W7 : J := .seq (.R [ro 27 (.ab (.t 1)),
 ro 4 (.ae (.t 27))] (some [4])) .ret
def W8 : J := .seq (.seq (.R [ro 5 (.ae (.c (.int .i64 0)))] (some [0, 1, 5])) W6) W7
def W9 : J := .seq (.seq (.R [ro 10 (.ab (.t 1)),
 ro 11 (.aw .lss 3 (.t 10) (.c (.int .i64 0)))] (some [0, 1, 11])) WZ) W8
def W_ : J := .seq (.R [ro 6 (.ab (.t 1)),
 ro 7 (.ab (.t 0)),
 ro 8 (.len 25 (.t 7)),
 ro 9 (.aw .sub 3 (.t 6) (.t 8)),
 ro 1 (.ae (.t 9))] (some [0, 1])) W9
def Xa : J := .seq (.R [ro 4 (.ae (.c (.int .i64 0)))] (some [0, 1])) W_
theorem oH : bG ⟨28, [0]⟩ (Tryz.f36.body.getD .skip) = some Xa.strip := by kernel_rfl
def Xb : J := .seq (.R [ro 4 (.ae (.c (.int .i64 (-1))))] (some [4])) .ret
def Xc : J := .cond (.t 10) Xb .skip
def Xd : J := .seq (.R [ro 4 (.ae (.c (.int .i64 (-1))))] (some [4])) .ret
def Xe : J := .cond (.t 16) Xd .skip
def Xf : J := .seq (.R [ro 4 (.ae (.c (.int .i64 (-1))))] (some [4])) .ret
def Xg : J := .cond (.t 22) Xf .skip
def Xh : J := .seq (.R [ro 4 (.ae (.c (.int .i64 (-1))))] (some [4])) .ret
def Xi : J := .cond (.t 28) Xh .skip
def Xj : J := .seq (.R [ro 4 (.ae (.c (.int .i64 (-1))))] (some [4])) .ret
def Xk : J := .cond (.t 34) Xj .skip
def Xl : J := .seq (.R [ro 35 (.ab (.t 1)),
 ro 4 (.ae (.t 35))] (some [4])) .ret
def Xm : J := .seq (.seq (.R [ro 33 (.ab (.t 1)),
 ro 34 (.aw .lss 3 (.t 33) (.c (.int .i64 0)))] (some [1, 34])) Xk) Xl
def Xn : J := .seq (.R [ro 29 (.aW 27 (.t 2) 4),
 ro 30 (.aE 25 (.t 29)),
 ro 31 (.ab (.t 1)),
 ro 32 (.call (.f 36) [(.t 30), (.t 31)]),
 ro 1 (.ae (.t 32))] (some [1])) Xm
def Xo : J := .seq (.seq (.R [ro 27 (.ab (.t 1)),
 ro 28 (.aw .lss 3 (.t 27) (.c (.int .i64 0)))] (some [1, 2, 28])) Xi) Xn
def Xp : J := .seq (.R [ro 23 (.aW 27 (.t 2) 3),
 ro 24 (.aE 25 (.t 23)),
 ro 25 (.ab (.t 1)),
 ro 26 (.call (.f 36) [(.t 24), (.t 25)]),
 ro 1 (.ae (.t 26))] (some [1, 2])) Xo
def Xq : J := .seq (.seq (.R [ro 21 (.ab (.t 1)),
 ro 22 (.aw .lss 3 (.t 21) (.c (.int .i64 0)))] (some [1, 2, 22])) Xg) Xp
def Xr : J := .seq (.R [ro 17 (.aW 27 (.t 2) 2),
 ro 18 (.aE 24 (.t 17)),
 ro 19 (.ab (.t 1)),
 ro 20 (.call (.f 35) [(.t 18), (.t 19)]),
 ro 1 (.ae (.t 20))] (some [1, 2])) Xq
def Xs : J := .seq (.seq (.R [ro 15 (.ab (.t 1)),
 ro 16 (.aw .lss 3 (.t 15) (.c (.int .i64 0)))] (some [1, 2, 16])) Xe) Xr
def Xt : J := .seq (.R [ro 11 (.aW 27 (.t 2) 1),
 ro 12 (.aE 23 (.t 11)),
 ro 13 (.ab (.t 1)),
 ro 14 (.call (.f 34) [(.t 12), (.t 13)]),
 ro 1 (.ae (.t 14))] (some [1, 2])) Xs
def Xu : J := .seq (.seq (.R [ro 9 (.ab (.t 1)),
 ro 10 (.aw .lss 3 (.t 9) (.c (.int .i64 0)))] (some [1, 2, 10])) Xc) Xt
def Xv : J := .seq (.R [ro 5 (.aW 27 (.t 2) 0),
 ro 6 (.aE 22 (.t 5)),
 ro 7 (.ab (.t 1)),
 ro 8 (.call (.f 33) [(.t 6), (.t 7)]),
 ro 1 (.ae (.t 8))] (some [1, 2])) Xu
def E2 : J := .seq (.R [ro 2 (.dd 27 (.t 0)),
 ro 4 (.ae (.c (.int .i64 0)))] (some [1, 2])) Xv
theorem Xw : bG ⟨36, [0]⟩ (Tryz.f7.body.getD .skip) = some E2.strip := by kernel_rfl
def Xx : J := .seq (.R [ro 10 (.aE 191 (.t 3)),
 ⟨none, .cK 191 (.t 2) (.t 10), none⟩] (some [2])) .ret
def Xy : J := .seq (.R [ro 7 (.aW 226 (.t 1) 1),
 ro 8 (.aE 2 (.t 7)),
 ro 9 (.aW 191 (.t 3) 1),
 ⟨none, .cK 2 (.t 9) (.t 8), none⟩] (some [2, 3])) Xx
def Xz : J := .seq (.R [ro 4 (.aW 226 (.t 1) 0),
 ro 5 (.aE 2 (.t 4)),
 ro 6 (.aW 191 (.t 3) 0),
 ⟨none, .cK 2 (.t 6) (.t 5), none⟩] (some [1, 2, 3])) Xy
def XA : J := .seq (.R [ro 3 (.eA 191)] (some [1, 2, 3])) Xz
def XB : J := .seq (.R [ro 1 (.dd 226 (.t 0)),
 ro 2 (.eA 191)] (some [1, 2])) XA
theorem XC : bG ⟨11, [0]⟩ (Tryz.f177.body.getD .skip) = some XB.strip := by kernel_rfl
def XD : J := .cond (.t 11) .skip (.exit 0)
def XE : J := .R [ro 12 (.ab (.t 4)),
 ro 13 (.aw .add 3 (.t 12) (.c (.int .i64 1))),
 ro 4 (.ae (.t 13))] (some [0, 3, 4])
def XF : J := .seq (.block 1 (.R [ro 14 (.ab (.t 3)),
 ro 15 (.ab (.t 4)),
 ro 16 (.ab (.t 0)),
 ro 17 (.ab (.t 4)),
 ro 18 (.bP 139 (.t 16) (.t 17)),
 ro 19 (.aE 226 (.t 18)),
 ro 20 (.call (.f 177) [(.t 19)]),
 ro 21 (.bP 147 (.t 14) (.t 15)),
 ⟨none, .cK 191 (.t 21) (.t 20), none⟩] (some [0, 3, 4]))) XE
def Mj : J := .seq (.seq (.R [ro 8 (.ab (.t 4)),
 ro 9 (.ab (.t 0)),
 ro 10 (.len 139 (.t 9)),
 ro 11 (.aw .lss 3 (.t 8) (.t 10))] (some [0, 3, 4, 11])) XD) XF
def XG : J := .block 0 (.loop Mj)
def XH : J := .seq (.R [ro 22 (.ab (.t 3)),
 ro 2 (.ae (.t 22))] (some [2])) .ret
def XI : J := .seq (.seq (.R [ro 4 (.ae (.c (.int .i64 0)))] (some [0, 3, 4])) XG) XH
def XJ : J := .seq (.R [ro 5 (.ab (.t 0)),
 ro 6 (.len 139 (.t 5)),
 ro 7 (.eX 147 (.t 6) (.t 6)),
 ro 3 (.ae (.t 7))] (some [0, 3])) XI
def XK : J := .seq (.R [ro 2 (.ae (.c .bu))] (some [0])) XJ
theorem XL : bG ⟨23, [0]⟩ (Tryz.f144.body.getD .skip) = some XK.strip := by kernel_rfl
def XM : J := .cond (.t 11) .skip (.exit 0)
def XN : J := .R [ro 12 (.ab (.t 4)),
 ro 13 (.aw .add 3 (.t 12) (.c (.int .i64 1))),
 ro 4 (.ae (.t 13))] (some [0, 3, 4])
def XO : J := .seq (.block 1 (.R [ro 14 (.ab (.t 3)),
 ro 15 (.ab (.t 4)),
 ro 16 (.ab (.t 0)),
 ro 17 (.ab (.t 4)),
 ro 18 (.bP 140 (.t 16) (.t 17)),
 ro 19 (.aE 139 (.t 18)),
 ro 20 (.call (.f 144) [(.t 19)]),
 ro 21 (.bP 120 (.t 14) (.t 15)),
 ⟨none, .cK 147 (.t 21) (.t 20), none⟩] (some [0, 3, 4]))) XN
def Mk : J := .seq (.seq (.R [ro 8 (.ab (.t 4)),
 ro 9 (.ab (.t 0)),
 ro 10 (.len 140 (.t 9)),
 ro 11 (.aw .lss 3 (.t 8) (.t 10))] (some [0, 3, 4, 11])) XM) XO
def XP : J := .block 0 (.loop Mk)
def XQ : J := .seq (.R [ro 22 (.ab (.t 3)),
 ro 2 (.ae (.t 22))] (some [2])) .ret
def XR : J := .seq (.seq (.R [ro 4 (.ae (.c (.int .i64 0)))] (some [0, 3, 4])) XP) XQ
def XS : J := .seq (.R [ro 5 (.ab (.t 0)),
 ro 6 (.len 140 (.t 5)),
 ro 7 (.eX 120 (.t 6) (.t 6)),
 ro 3 (.ae (.t 7))] (some [0, 3])) XR
def XT : J := .seq (.R [ro 2 (.ae (.c .bu))] (some [0])) XS
theorem XU : bG ⟨23, [0]⟩ (Tryz.f145.body.getD .skip) = some XT.strip := by kernel_rfl
def XV : J := .seq (.R [ro 17 (.aE 122 (.t 3)),
 ⟨none, .cK 122 (.t 2) (.t 17), none⟩] (some [2])) .ret
def XW : J := .seq (.R [ro 13 (.aW 209 (.t 1) 3),
 ro 14 (.aE 140 (.t 13)),
 ro 15 (.call (.f 145) [(.t 14)]),
 ro 16 (.aW 122 (.t 3) 3),
 ⟨none, .cK 120 (.t 16) (.t 15), none⟩] (some [2, 3])) XV
def XX : J := .seq (.R [ro 10 (.aW 209 (.t 1) 2),
 ro 11 (.aE 9 (.t 10)),
 ro 12 (.aW 122 (.t 3) 2),
 ⟨none, .cK 9 (.t 12) (.t 11), none⟩] (some [1, 2, 3])) XW
def XY : J := .seq (.R [ro 7 (.aW 209 (.t 1) 1),
 ro 8 (.aE 2 (.t 7)),
 ro 9 (.aW 122 (.t 3) 1),
 ⟨none, .cK 2 (.t 9) (.t 8), none⟩] (some [1, 2, 3])) XX
def XZ : J := .seq (.R [ro 4 (.aW 209 (.t 1) 0),
 ro 5 (.aE 2 (.t 4)),
 ro 6 (.aW 122 (.t 3) 0),
 ⟨none, .cK 2 (.t 6) (.t 5), none⟩] (some [1, 2, 3])) XY
def X0 : J := .seq (.R [ro 3 (.eA 122)] (some [1, 2, 3])) XZ
def X1 : J := .seq (.R [ro 1 (.dd 209 (.t 0)),
 ro 2 (.eA 122)] (some [1, 2])) X0
theorem X2 : bG ⟨18, [0]⟩ (Tryz.f164.body.getD .skip) = some X1.strip := by kernel_rfl
def X3 : J := .cond (.t 11) .skip (.exit 0)
def X4 : J := .R [ro 12 (.ab (.t 4)),
 ro 13 (.aw .add 3 (.t 12) (.c (.int .i64 1))),
 ro 4 (.ae (.t 13))] (some [0, 3, 4])
def X5 : J := .seq (.block 1 (.R [ro 14 (.ab (.t 3)),
 ro 15 (.ab (.t 4)),
 ro 16 (.ab (.t 0)),
 ro 17 (.ab (.t 4)),
 ro 18 (.bP 107 (.t 16) (.t 17)),
 ro 19 (.aE 209 (.t 18)),
 ro 20 (.call (.f 164) [(.t 19)]),
 ro 21 (.bP 117 (.t 14) (.t 15)),
 ⟨none, .cK 122 (.t 21) (.t 20), none⟩] (some [0, 3, 4]))) X4
def Ml : J := .seq (.seq (.R [ro 8 (.ab (.t 4)),
 ro 9 (.ab (.t 0)),
 ro 10 (.len 107 (.t 9)),
 ro 11 (.aw .lss 3 (.t 8) (.t 10))] (some [0, 3, 4, 11])) X3) X5
def X6 : J := .block 0 (.loop Ml)
def X7 : J := .seq (.R [ro 22 (.ab (.t 3)),
 ro 2 (.ae (.t 22))] (some [2])) .ret
def X8 : J := .seq (.seq (.R [ro 4 (.ae (.c (.int .i64 0)))] (some [0, 3, 4])) X6) X7
def X9 : J := .seq (.R [ro 5 (.ab (.t 0)),
 ro 6 (.len 107 (.t 5)),
 ro 7 (.eX 117 (.t 6) (.t 6)),
 ro 3 (.ae (.t 7))] (some [0, 3])) X8
def X_ : J := .seq (.R [ro 2 (.ae (.c .bu))] (some [0])) X9
theorem Ya : bG ⟨23, [0]⟩ (Tryz.f126.body.getD .skip) = some X_.strip := by kernel_rfl
def Yb : J := .seq (.R [ro 14 (.aE 119 (.t 3)),
 ⟨none, .cK 119 (.t 2) (.t 14), none⟩] (some [2])) .ret
def Yc : J := .seq (.R [ro 10 (.aW 109 (.t 1) 2),
 ro 11 (.aE 107 (.t 10)),
 ro 12 (.call (.f 126) [(.t 11)]),
 ro 13 (.aW 119 (.t 3) 2),
 ⟨none, .cK 117 (.t 13) (.t 12), none⟩] (some [2, 3])) Yb
def Yd : J := .seq (.R [ro 7 (.aW 109 (.t 1) 1),
 ro 8 (.aE 2 (.t 7)),
 ro 9 (.aW 119 (.t 3) 1),
 ⟨none, .cK 2 (.t 9) (.t 8), none⟩] (some [1, 2, 3])) Yc
def Ye : J := .seq (.R [ro 4 (.aW 109 (.t 1) 0),
 ro 5 (.aE 9 (.t 4)),
 ro 6 (.aW 119 (.t 3) 0),
 ⟨none, .cK 9 (.t 6) (.t 5), none⟩] (some [1, 2, 3])) Yd
def Yf : J := .seq (.R [ro 3 (.eA 119)] (some [1, 2, 3])) Ye
def Yg : J := .seq (.R [ro 1 (.dd 109 (.t 0)),
 ro 2 (.eA 119)] (some [1, 2])) Yf
theorem Yh : bG ⟨15, [0]⟩ (Tryz.f76.body.getD .skip) = some Yg.strip := by kernel_rfl
def Yi : J := .cond (.t 11) .skip (.exit 0)
def Yj : J := .R [ro 12 (.ab (.t 4)),
 ro 13 (.aw .add 3 (.t 12) (.c (.int .i64 1))),
 ro 4 (.ae (.t 13))] (some [0, 3, 4])
def Yk : J := .seq (.block 1 (.R [ro 14 (.ab (.t 3)),
 ro 15 (.ab (.t 4)),
 ro 16 (.ab (.t 0)),
 ro 17 (.ab (.t 4)),
 ro 18 (.bP 22 (.t 16) (.t 17)),
 ro 19 (.aE 109 (.t 18)),
 ro 20 (.call (.f 76) [(.t 19)]),
 ro 21 (.bP 32 (.t 14) (.t 15)),
 ⟨none, .cK 119 (.t 21) (.t 20), none⟩] (some [0, 3, 4]))) Yj
def Mm : J := .seq (.seq (.R [ro 8 (.ab (.t 4)),
 ro 9 (.ab (.t 0)),
 ro 10 (.len 22 (.t 9)),
 ro 11 (.aw .lss 3 (.t 8) (.t 10))] (some [0, 3, 4, 11])) Yi) Yk
def Yl : J := .block 0 (.loop Mm)
def Ym : J := .seq (.R [ro 22 (.ab (.t 3)),
 ro 2 (.ae (.t 22))] (some [2])) .ret
def Yn : J := .seq (.seq (.R [ro 4 (.ae (.c (.int .i64 0)))] (some [0, 3, 4])) Yl) Ym
def Yo : J := .seq (.R [ro 5 (.ab (.t 0)),
 ro 6 (.len 22 (.t 5)),
 ro 7 (.eX 32 (.t 6) (.t 6)),
 ro 3 (.ae (.t 7))] (some [0, 3])) Yn
def Yp : J := .seq (.R [ro 2 (.ae (.c .bu))] (some [0])) Yo
theorem Yq : bG ⟨23, [0]⟩ (Tryz.f39.body.getD .skip) = some Yp.strip := by kernel_rfl
def Yr : J := .cond (.t 11) .skip (.exit 0)
def Ys : J := .R [ro 12 (.ab (.t 4)),
 ro 13 (.aw .add 3 (.t 12) (.c (.int .i64 1))),
 ro 4 (.ae (.t 13))] (some [0, 3, 4])
def Yt : J := .seq (.block 1 (.R [ro 14 (.ab (.t 3)),
 ro 15 (.ab (.t 4)),
 ro 16 (.ab (.t 0)),
 ro 17 (.ab (.t 4)),
 ro 18 (.bP 43 (.t 16) (.t 17)),
 ro 19 (.aE 2 (.t 18)),
 ro 20 (.bP 43 (.t 14) (.t 15)),
 ⟨none, .cK 2 (.t 20) (.t 19), none⟩] (some [0, 3, 4]))) Ys
def Mn : J := .seq (.seq (.R [ro 8 (.ab (.t 4)),
 ro 9 (.ab (.t 0)),
 ro 10 (.len 43 (.t 9)),
 ro 11 (.aw .lss 3 (.t 8) (.t 10))] (some [0, 3, 4, 11])) Yr) Yt
def Yu : J := .block 0 (.loop Mn)
def Yv : J := .seq (.R [ro 21 (.ab (.t 3)),
 ro 2 (.ae (.t 21))] (some [2])) .ret
def Yw : J := .seq (.seq (.R [ro 4 (.ae (.c (.int .i64 0)))] (some [0, 3, 4])) Yu) Yv
def Yx : J := .seq (.R [ro 5 (.ab (.t 0)),
 ro 6 (.len 43 (.t 5)),
 ro 7 (.eX 43 (.t 6) (.t 6)),
 ro 3 (.ae (.t 7))] (some [0, 3])) Yw
def Yy : J := .seq (.R [ro 2 (.ae (.c .bu))] (some [0])) Yx
theorem oI : bG ⟨22, [0]⟩ (Tryz.f59.body.getD .skip) = some Yy.strip := by kernel_rfl
def Yz : J := .seq (.R [ro 11 (.aE 124 (.t 3)),
 ⟨none, .cK 124 (.t 2) (.t 11), none⟩] (some [2])) .ret
def YA : J := .seq (.R [ro 7 (.aW 112 (.t 1) 1),
 ro 8 (.aE 43 (.t 7)),
 ro 9 (.call (.f 59) [(.t 8)]),
 ro 10 (.aW 124 (.t 3) 1),
 ⟨none, .cK 43 (.t 10) (.t 9), none⟩] (some [2, 3])) Yz
def YB : J := .seq (.R [ro 4 (.aW 112 (.t 1) 0),
 ro 5 (.aE 2 (.t 4)),
 ro 6 (.aW 124 (.t 3) 0),
 ⟨none, .cK 2 (.t 6) (.t 5), none⟩] (some [1, 2, 3])) YA
def YC : J := .seq (.R [ro 3 (.eA 124)] (some [1, 2, 3])) YB
def YD : J := .seq (.R [ro 1 (.dd 112 (.t 0)),
 ro 2 (.eA 124)] (some [1, 2])) YC
theorem YE : bG ⟨12, [0]⟩ (Tryz.f77.body.getD .skip) = some YD.strip := by kernel_rfl
def YF : J := .cond (.t 11) .skip (.exit 0)
def YG : J := .R [ro 12 (.ab (.t 4)),
 ro 13 (.aw .add 3 (.t 12) (.c (.int .i64 1))),
 ro 4 (.ae (.t 13))] (some [0, 3, 4])
def YH : J := .seq (.block 1 (.R [ro 14 (.ab (.t 3)),
 ro 15 (.ab (.t 4)),
 ro 16 (.ab (.t 0)),
 ro 17 (.ab (.t 4)),
 ro 18 (.bP 23 (.t 16) (.t 17)),
 ro 19 (.aE 112 (.t 18)),
 ro 20 (.call (.f 77) [(.t 19)]),
 ro 21 (.bP 33 (.t 14) (.t 15)),
 ⟨none, .cK 124 (.t 21) (.t 20), none⟩] (some [0, 3, 4]))) YG
def Mo : J := .seq (.seq (.R [ro 8 (.ab (.t 4)),
 ro 9 (.ab (.t 0)),
 ro 10 (.len 23 (.t 9)),
 ro 11 (.aw .lss 3 (.t 8) (.t 10))] (some [0, 3, 4, 11])) YF) YH
def YI : J := .block 0 (.loop Mo)
def YJ : J := .seq (.R [ro 22 (.ab (.t 3)),
 ro 2 (.ae (.t 22))] (some [2])) .ret
def YK : J := .seq (.seq (.R [ro 4 (.ae (.c (.int .i64 0)))] (some [0, 3, 4])) YI) YJ
def YL : J := .seq (.R [ro 5 (.ab (.t 0)),
 ro 6 (.len 23 (.t 5)),
 ro 7 (.eX 33 (.t 6) (.t 6)),
 ro 3 (.ae (.t 7))] (some [0, 3])) YK
def YM : J := .seq (.R [ro 2 (.ae (.c .bu))] (some [0])) YL
theorem YN : bG ⟨23, [0]⟩ (Tryz.f40.body.getD .skip) = some YM.strip := by kernel_rfl
def YO : J := .seq (.R [ro 13 (.aE 126 (.t 3)),
 ⟨none, .cK 126 (.t 2) (.t 13), none⟩] (some [2])) .ret
def YP : J := .seq (.R [ro 10 (.aW 115 (.t 1) 2),
 ro 11 (.aE 9 (.t 10)),
 ro 12 (.aW 126 (.t 3) 2),
 ⟨none, .cK 9 (.t 12) (.t 11), none⟩] (some [2, 3])) YO
def YQ : J := .seq (.R [ro 7 (.aW 115 (.t 1) 1),
 ro 8 (.aE 9 (.t 7)),
 ro 9 (.aW 126 (.t 3) 1),
 ⟨none, .cK 9 (.t 9) (.t 8), none⟩] (some [1, 2, 3])) YP
def YR : J := .seq (.R [ro 4 (.aW 115 (.t 1) 0),
 ro 5 (.aE 9 (.t 4)),
 ro 6 (.aW 126 (.t 3) 0),
 ⟨none, .cK 9 (.t 6) (.t 5), none⟩] (some [1, 2, 3])) YQ
def YS : J := .seq (.R [ro 3 (.eA 126)] (some [1, 2, 3])) YR
def YT : J := .seq (.R [ro 1 (.dd 115 (.t 0)),
 ro 2 (.eA 126)] (some [1, 2])) YS
theorem YU : bG ⟨14, [0]⟩ (Tryz.f78.body.getD .skip) = some YT.strip := by kernel_rfl
def YV : J := .cond (.t 11) .skip (.exit 0)
def YW : J := .R [ro 12 (.ab (.t 4)),
 ro 13 (.aw .add 3 (.t 12) (.c (.int .i64 1))),
 ro 4 (.ae (.t 13))] (some [0, 3, 4])
def YX : J := .seq (.block 1 (.R [ro 14 (.ab (.t 3)),
 ro 15 (.ab (.t 4)),
 ro 16 (.ab (.t 0)),
 ro 17 (.ab (.t 4)),
 ro 18 (.bP 24 (.t 16) (.t 17)),
 ro 19 (.aE 115 (.t 18)),
 ro 20 (.call (.f 78) [(.t 19)]),
 ro 21 (.bP 34 (.t 14) (.t 15)),
 ⟨none, .cK 126 (.t 21) (.t 20), none⟩] (some [0, 3, 4]))) YW
def Mp : J := .seq (.seq (.R [ro 8 (.ab (.t 4)),
 ro 9 (.ab (.t 0)),
 ro 10 (.len 24 (.t 9)),
 ro 11 (.aw .lss 3 (.t 8) (.t 10))] (some [0, 3, 4, 11])) YV) YX
def YY : J := .block 0 (.loop Mp)
def YZ : J := .seq (.R [ro 22 (.ab (.t 3)),
 ro 2 (.ae (.t 22))] (some [2])) .ret
def Y0 : J := .seq (.seq (.R [ro 4 (.ae (.c (.int .i64 0)))] (some [0, 3, 4])) YY) YZ
def Y1 : J := .seq (.R [ro 5 (.ab (.t 0)),
 ro 6 (.len 24 (.t 5)),
 ro 7 (.eX 34 (.t 6) (.t 6)),
 ro 3 (.ae (.t 7))] (some [0, 3])) Y0
def Y2 : J := .seq (.R [ro 2 (.ae (.c .bu))] (some [0])) Y1
theorem Y3 : bG ⟨23, [0]⟩ (Tryz.f41.body.getD .skip) = some Y2.strip := by kernel_rfl
def Y4 : J := .cond (.t 11) .skip (.exit 0)
def Y5 : J := .R [ro 12 (.ab (.t 4)),
 ro 13 (.aw .add 3 (.t 12) (.c (.int .i64 1))),
 ro 4 (.ae (.t 13))] (some [0, 3, 4])
def Y6 : J := .seq (.block 1 (.R [ro 14 (.ab (.t 3)),
 ro 15 (.ab (.t 4)),
 ro 16 (.ab (.t 0)),
 ro 17 (.ab (.t 4)),
 ro 18 (.bP 25 (.t 16) (.t 17)),
 ro 19 (.aE 9 (.t 18)),
 ro 20 (.bP 25 (.t 14) (.t 15)),
 ⟨none, .cK 9 (.t 20) (.t 19), none⟩] (some [0, 3, 4]))) Y5
def Mq : J := .seq (.seq (.R [ro 8 (.ab (.t 4)),
 ro 9 (.ab (.t 0)),
 ro 10 (.len 25 (.t 9)),
 ro 11 (.aw .lss 3 (.t 8) (.t 10))] (some [0, 3, 4, 11])) Y4) Y6
def Y7 : J := .block 0 (.loop Mq)
def Y8 : J := .seq (.R [ro 21 (.ab (.t 3)),
 ro 2 (.ae (.t 21))] (some [2])) .ret
def Y9 : J := .seq (.seq (.R [ro 4 (.ae (.c (.int .i64 0)))] (some [0, 3, 4])) Y7) Y8
def Y_ : J := .seq (.R [ro 5 (.ab (.t 0)),
 ro 6 (.len 25 (.t 5)),
 ro 7 (.eX 25 (.t 6) (.t 6)),
 ro 3 (.ae (.t 7))] (some [0, 3])) Y9
def Za : J := .seq (.R [ro 2 (.ae (.c .bu))] (some [0])) Y_
theorem Zb : bG ⟨22, [0]⟩ (Tryz.f42.body.getD .skip) = some Za.strip := by kernel_rfl
def Zc : J := .seq (.R [ro 24 (.aE 36 (.t 3)),
 ⟨none, .cK 36 (.t 2) (.t 24), none⟩] (some [2])) .ret
def Zd : J := .seq (.R [ro 20 (.aW 27 (.t 1) 4),
 ro 21 (.aE 25 (.t 20)),
 ro 22 (.call (.f 42) [(.t 21)]),
 ro 23 (.aW 36 (.t 3) 4),
 ⟨none, .cK 25 (.t 23) (.t 22), none⟩] (some [2, 3])) Zc
def Ze : J := .seq (.R [ro 16 (.aW 27 (.t 1) 3),
 ro 17 (.aE 25 (.t 16)),
 ro 18 (.call (.f 42) [(.t 17)]),
 ro 19 (.aW 36 (.t 3) 3),
 ⟨none, .cK 25 (.t 19) (.t 18), none⟩] (some [1, 2, 3])) Zd
def Zf : J := .seq (.R [ro 12 (.aW 27 (.t 1) 2),
 ro 13 (.aE 24 (.t 12)),
 ro 14 (.call (.f 41) [(.t 13)]),
 ro 15 (.aW 36 (.t 3) 2),
 ⟨none, .cK 34 (.t 15) (.t 14), none⟩] (some [1, 2, 3])) Ze
def Zg : J := .seq (.R [ro 8 (.aW 27 (.t 1) 1),
 ro 9 (.aE 23 (.t 8)),
 ro 10 (.call (.f 40) [(.t 9)]),
 ro 11 (.aW 36 (.t 3) 1),
 ⟨none, .cK 33 (.t 11) (.t 10), none⟩] (some [1, 2, 3])) Zf
def Zh : J := .seq (.R [ro 4 (.aW 27 (.t 1) 0),
 ro 5 (.aE 22 (.t 4)),
 ro 6 (.call (.f 39) [(.t 5)]),
 ro 7 (.aW 36 (.t 3) 0),
 ⟨none, .cK 32 (.t 7) (.t 6), none⟩] (some [1, 2, 3])) Zg
def Zi : J := .seq (.R [ro 3 (.eA 36)] (some [1, 2, 3])) Zh
def E3 : J := .seq (.R [ro 1 (.dd 27 (.t 0)),
 ro 2 (.eA 36)] (some [1, 2])) Zi
theorem mG : bG ⟨25, [0]⟩ (Tryz.f9.body.getD .skip) = some E3.strip := by kernel_rfl
def Zj : J := .seq (.R [ro 3 (.ab (.t 0)),
 ro 4 (.aw .geq 5 (.t 3) (.c (.int .u8 97))),
 ro 5 (.ab (.t 4)),
 ⟨some 6, .ab (.t 0), some (5, true)⟩,
 ⟨some 7, .aw .leq 5 (.t 6) (.c (.int .u8 122)), some (5, true)⟩,
 ro 8 (.pick (.t 5) (.t 7) (.c (.bool false))),
 ro 2 (.ae (.t 8))] (some [2])) .ret
def Zk : J := .seq (.R [ro 2 (.ae (.c (.bool false)))] (some [0])) Zj
theorem Zl : bG ⟨9, [0]⟩ (Tryz.f196.body.getD .skip) = some Zk.strip := by kernel_rfl
def Zm : J := .seq (.R [ro 3 (.ab (.t 0)),
 ro 4 (.aw .geq 5 (.t 3) (.c (.int .u8 48))),
 ro 5 (.ab (.t 4)),
 ⟨some 6, .ab (.t 0), some (5, true)⟩,
 ⟨some 7, .aw .leq 5 (.t 6) (.c (.int .u8 57)), some (5, true)⟩,
 ro 8 (.pick (.t 5) (.t 7) (.c (.bool false))),
 ro 2 (.ae (.t 8))] (some [2])) .ret
def Zn : J := .seq (.R [ro 2 (.ae (.c (.bool false)))] (some [0])) Zm
theorem Zo : bG ⟨9, [0]⟩ (Tryz.f197.body.getD .skip) = some Zn.strip := by kernel_rfl
def Zp : J := .seq (.R [ro 2 (.ae (.c (.bool false)))] (some [2])) .ret
def Zq : J := .cond (.t 16) Zp .skip
def Zr : J := .cond (.t 20) .skip (.exit 0)
def Zs : J := .seq (.R [ro 2 (.ae (.c (.bool false)))] (some [2])) .ret
def Zt : J := .cond (.t 34) Zs .skip
def Zu : J := .R [ro 21 (.ab (.t 3)),
 ro 22 (.aw .add 3 (.t 21) (.c (.int .i64 1))),
 ro 3 (.ae (.t 22))] (some [0, 3])
def Zv : J := .seq (.block 1 (.seq (.R [ro 23 (.ab (.t 0)),
 ro 24 (.ab (.t 3)),
 ro 25 (.idx 9 (.t 23) (.t 24)),
 ro 26 (.call (.f 196) [(.t 25)]),
 ro 27 (.un .not (.t 26)),
 ro 28 (.ab (.t 27)),
 ⟨some 29, .ab (.t 0), some (28, true)⟩,
 ⟨some 30, .ab (.t 3), some (28, true)⟩,
 ⟨some 31, .idx 9 (.t 29) (.t 30), some (28, true)⟩,
 ⟨some 32, .call (.f 197) [(.t 31)], some (28, true)⟩,
 ⟨some 33, .un .not (.t 32), some (28, true)⟩,
 ro 34 (.pick (.t 28) (.t 33) (.c (.bool false)))] (some [0, 3, 34])) Zt)) Zu
def Mr : J := .seq (.seq (.R [ro 17 (.ab (.t 3)),
 ro 18 (.ab (.t 0)),
 ro 19 (.len 9 (.t 18)),
 ro 20 (.aw .lss 3 (.t 17) (.t 19))] (some [0, 3, 20])) Zr) Zv
def Zw : J := .block 0 (.loop Mr)
def Zx : J := .seq (.R [ro 2 (.ae (.c (.bool true)))] (some [2])) .ret
def Zy : J := .seq (.seq (.R [ro 3 (.ae (.c (.int .i64 0)))] (some [0, 3])) Zw) Zx
def Zz : J := .seq (.seq (.R [ro 4 (.ab (.t 0)),
 ro 5 (.aw .eql 9 (.t 4) (.c (.str []))),
 ro 6 (.ab (.t 5)),
 ⟨some 7, .ab (.t 0), some (6, false)⟩,
 ⟨some 8, .len 9 (.t 7), some (6, false)⟩,
 ⟨some 9, .aw .gtr 3 (.t 8) (.c (.int .i64 10)), some (6, false)⟩,
 ro 10 (.pick (.t 6) (.c (.bool true)) (.t 9)),
 ro 11 (.ab (.t 10)),
 ⟨some 12, .ab (.t 0), some (11, false)⟩,
 ⟨some 13, .idx 9 (.t 12) (.c (.int .i64 0)), some (11, false)⟩,
 ⟨some 14, .call (.f 196) [(.t 13)], some (11, false)⟩,
 ⟨some 15, .un .not (.t 14), some (11, false)⟩,
 ro 16 (.pick (.t 11) (.c (.bool true)) (.t 15))] (some [0, 16])) Zq) Zy
def ZA : J := .seq (.R [ro 2 (.ae (.c (.bool false)))] (some [0])) Zz
theorem ZB : bG ⟨35, [0]⟩ (Tryz.f161.body.getD .skip) = some ZA.strip := by kernel_rfl
def ZC : J := .seq (.R [ro 7 (.ab (.t 0)),
 ro 8 (.ab (.t 1)),
 ro 9 (.aw .geq 2 (.t 7) (.t 8)),
 ro 10 (.ab (.t 9)),
 ⟨some 11, .ab (.t 0), some (10, true)⟩,
 ⟨some 12, .ab (.t 2), some (10, true)⟩,
 ⟨some 13, .aw .leq 2 (.t 11) (.t 12), some (10, true)⟩,
 ro 14 (.pick (.t 10) (.t 13) (.c (.bool false))),
 ro 6 (.ae (.t 14))] (some [6])) .ret
def ZD : J := .seq (.R [ro 6 (.ae (.c (.bool false)))] (some [0, 1, 2])) ZC
theorem ZE : bG ⟨15, [0, 1, 2]⟩ (Tryz.f87.body.getD .skip) = some ZD.strip := by kernel_rfl
def ZF : J := .R [ro 10 (.aw .eql 2 (.t 6) (.c (.int .i64 4))),
 ro 7 (.ae (.t 10))] (some [6, 7])
def ZG : J := .cond (.t 7) .skip ZF
def ZH : J := .seq (.R [ro 9 (.aw .eql 2 (.t 6) (.c (.int .i64 3))),
 ro 7 (.ae (.t 9))] (some [6, 7])) ZG
def ZI : J := .cond (.t 7) .skip ZH
def ZJ : J := .seq (.R [ro 2 (.ae (.c (.int .i64 1)))] (some [2])) .ret
def ZK : J := .seq (.R [ro 2 (.ae (.c (.int .i64 2)))] (some [2])) .ret
def ZL : J := .cond (.t 11) ZK .skip
def ZM : J := .seq (.R [ro 12 (.aw .eql 2 (.t 6) (.c (.int .i64 2))),
 ro 11 (.ae (.t 12))] (some [11])) ZL
def Ms : J := .cond (.t 7) ZJ ZM
def ZN : J := .block 0 (.seq (.seq (.R [ro 8 (.aw .eql 2 (.t 6) (.c (.int .i64 1))),
 ro 7 (.ae (.t 8))] (some [6, 7])) ZI) Ms)
def ZO : J := .seq (.R [ro 2 (.ae (.c (.int .i64 0)))] (some [2])) .ret
def ZP : J := .seq (.seq (.R [ro 3 (.ab (.t 0)),
 ro 4 (.dT (.t 3)),
 ro 5 (.aW 122 (.t 4) 0),
 ro 6 (.aE 2 (.t 5))] (some [6])) ZN) ZO
def ZQ : J := .seq (.R [ro 2 (.ae (.c (.int .i64 0)))] (some [0])) ZP
theorem ZR : bG ⟨13, [0]⟩ (Tryz.f216.body.getD .skip) = some ZQ.strip := by kernel_rfl
def ZS : J := .seq (.R [ro 2 (.ae (.c (.bool false)))] (some [2])) .ret
def ZT : J := .cond (.t 12) ZS .skip
def ZU : J := .cond (.t 16) .skip (.exit 0)
def ZV : J := .seq (.R [ro 2 (.ae (.c (.bool false)))] (some [2])) .ret
def ZW : J := .cond (.t 20) ZV .skip
def ZX : J := .R [ro 21 (.ab (.t 3)),
 ro 22 (.ab (.t 0)),
 ro 23 (.ab (.t 4)),
 ro 24 (.bP 117 (.t 22) (.t 23)),
 ro 25 (.call (.f 216) [(.t 24)]),
 ro 26 (.aw .sub 2 (.t 25) (.c (.int .i64 1))),
 ro 27 (.aw .add 2 (.t 21) (.t 26)),
 ro 3 (.ae (.t 27))] (some [0, 3, 4])
def ZY : J := .R [ro 17 (.ab (.t 4)),
 ro 18 (.aw .add 3 (.t 17) (.c (.int .i64 1))),
 ro 4 (.ae (.t 18))] (some [0, 3, 4])
def ZZ : J := .seq (.block 1 (.seq (.seq (.R [ro 19 (.ab (.t 3)),
 ro 20 (.aw .eql 2 (.t 19) (.c (.int .i64 0)))] (some [0, 3, 4, 20])) ZW) ZX)) ZY
def Mt : J := .seq (.seq (.R [ro 13 (.ab (.t 4)),
 ro 14 (.ab (.t 0)),
 ro 15 (.len 117 (.t 14)),
 ro 16 (.aw .lss 3 (.t 13) (.t 15))] (some [0, 3, 4, 16])) ZU) ZZ
def Z0 : J := .block 0 (.loop Mt)
def Z1 : J := .seq (.R [ro 28 (.ab (.t 3)),
 ro 29 (.aw .eql 2 (.t 28) (.c (.int .i64 0))),
 ro 2 (.ae (.t 29))] (some [2])) .ret
def Z2 : J := .seq (.seq (.R [ro 4 (.ae (.c (.int .i64 0)))] (some [0, 3, 4])) Z0) Z1
def Z3 : J := .seq (.R [ro 3 (.ae (.c (.int .i64 1)))] (some [0, 3])) Z2
def Z4 : J := .seq (.seq (.R [ro 5 (.ab (.t 0)),
 ro 6 (.len 117 (.t 5)),
 ro 7 (.aw .eql 3 (.t 6) (.c (.int .i64 0))),
 ro 8 (.ab (.t 7)),
 ⟨some 9, .ab (.t 0), some (8, false)⟩,
 ⟨some 10, .len 117 (.t 9), some (8, false)⟩,
 ⟨some 11, .aw .gtr 3 (.t 10) (.c (.int .i64 20)), some (8, false)⟩,
 ro 12 (.pick (.t 8) (.c (.bool true)) (.t 11))] (some [0, 12])) ZT) Z3
def Z5 : J := .seq (.R [ro 2 (.ae (.c (.bool false)))] (some [0])) Z4
theorem Z6 : bG ⟨30, [0]⟩ (Tryz.f198.body.getD .skip) = some Z5.strip := by kernel_rfl
def Z7 : J := .R [ro 9 (.aw .eql 2 (.t 6) (.c (.int .i64 2))),
 ro 7 (.ae (.t 9))] (some [0, 6, 7])
def Z8 : J := .cond (.t 7) .skip Z7
def Z9 : J := .seq (.R [ro 10 (.ab (.t 0)),
 ro 11 (.dT (.t 10)),
 ro 12 (.aW 122 (.t 11) 1),
 ro 13 (.aE 2 (.t 12)),
 ro 14 (.aw .eql 2 (.t 13) (.c (.int .i64 0))),
 ro 15 (.ab (.t 14)),
 ⟨some 16, .ab (.t 0), some (15, true)⟩,
 ⟨some 17, .dT (.t 16), some (15, true)⟩,
 ⟨some 18, .aW 122 (.t 17) 2, some (15, true)⟩,
 ⟨some 19, .aE 9 (.t 18), some (15, true)⟩,
 ⟨some 20, .aw .eql 9 (.t 19) (.c (.str [])), some (15, true)⟩,
 ro 21 (.pick (.t 15) (.t 20) (.c (.bool false))),
 ro 22 (.ab (.t 21)),
 ⟨some 23, .ab (.t 0), some (22, true)⟩,
 ⟨some 24, .dT (.t 23), some (22, true)⟩,
 ⟨some 25, .aW 122 (.t 24) 3, some (22, true)⟩,
 ⟨some 26, .aE 120 (.t 25), some (22, true)⟩,
 ⟨some 27, .len 120 (.t 26), some (22, true)⟩,
 ⟨some 28, .aw .eql 3 (.t 27) (.c (.int .i64 0)), some (22, true)⟩,
 ro 29 (.pick (.t 22) (.t 28) (.c (.bool false))),
 ro 2 (.ae (.t 29))] (some [2])) .ret
def Z_ : J := .seq (.R [ro 32 (.ab (.t 0)),
 ro 33 (.dT (.t 32)),
 ro 34 (.aW 122 (.t 33) 1),
 ro 35 (.aE 2 (.t 34)),
 ro 36 (.aw .eql 2 (.t 35) (.c (.int .i64 0))),
 ro 2 (.ae (.t 36))] (some [2])) .ret
def aaa : J := .seq (.R [ro 39 (.ab (.t 0)),
 ro 40 (.dT (.t 39)),
 ro 41 (.aW 122 (.t 40) 1),
 ro 42 (.aE 2 (.t 41)),
 ro 43 (.aw .eql 2 (.t 42) (.c (.int .i64 0))),
 ro 44 (.ab (.t 43)),
 ⟨some 45, .ab (.t 0), some (44, true)⟩,
 ⟨some 46, .dT (.t 45), some (44, true)⟩,
 ⟨some 47, .aW 122 (.t 46) 2, some (44, true)⟩,
 ⟨some 48, .aE 9 (.t 47), some (44, true)⟩,
 ⟨some 49, .aw .eql 9 (.t 48) (.c (.str [])), some (44, true)⟩,
 ro 50 (.pick (.t 44) (.t 49) (.c (.bool false))),
 ro 2 (.ae (.t 50))] (some [2])) .ret
def aab : J := .seq (.R [ro 53 (.ab (.t 0)),
 ro 54 (.dT (.t 53)),
 ro 55 (.aW 122 (.t 54) 2),
 ro 56 (.aE 9 (.t 55)),
 ro 57 (.aw .eql 9 (.t 56) (.c (.str []))),
 ro 58 (.ab (.t 57)),
 ⟨some 59, .ab (.t 0), some (58, true)⟩,
 ⟨some 60, .dT (.t 59), some (58, true)⟩,
 ⟨some 61, .aW 122 (.t 60) 3, some (58, true)⟩,
 ⟨some 62, .aE 120 (.t 61), some (58, true)⟩,
 ⟨some 63, .len 120 (.t 62), some (58, true)⟩,
 ⟨some 64, .aw .eql 3 (.t 63) (.c (.int .i64 0)), some (58, true)⟩,
 ro 65 (.pick (.t 58) (.t 64) (.c (.bool false))),
 ro 2 (.ae (.t 65))] (some [2])) .ret
def aac : J := .seq (.R [ro 68 (.ab (.t 0)),
 ro 69 (.dT (.t 68)),
 ro 70 (.aW 122 (.t 69) 2),
 ro 71 (.aE 9 (.t 70)),
 ro 72 (.aw .eql 9 (.t 71) (.c (.str []))),
 ro 2 (.ae (.t 72))] (some [2])) .ret
def aad : J := .cond (.t 66) aac .skip
def aae : J := .seq (.R [ro 67 (.aw .eql 2 (.t 6) (.c (.int .i64 5))),
 ro 66 (.ae (.t 67))] (some [0, 66])) aad
def aaf : J := .cond (.t 51) aab aae
def aag : J := .seq (.R [ro 52 (.aw .eql 2 (.t 6) (.c (.int .i64 4))),
 ro 51 (.ae (.t 52))] (some [0, 6, 51])) aaf
def aah : J := .cond (.t 37) aaa aag
def aai : J := .seq (.R [ro 38 (.aw .eql 2 (.t 6) (.c (.int .i64 3))),
 ro 37 (.ae (.t 38))] (some [0, 6, 37])) aah
def aaj : J := .cond (.t 30) Z_ aai
def aak : J := .seq (.R [ro 31 (.aw .eql 2 (.t 6) (.c (.int .i64 1))),
 ro 30 (.ae (.t 31))] (some [0, 6, 30])) aaj
def Mu : J := .cond (.t 7) Z9 aak
def aal : J := .block 0 (.seq (.seq (.R [ro 8 (.aw .eql 2 (.t 6) (.c (.int .i64 0))),
 ro 7 (.ae (.t 8))] (some [0, 6, 7])) Z8) Mu)
def aam : J := .seq (.R [ro 2 (.ae (.c (.bool false)))] (some [2])) .ret
def aan : J := .seq (.seq (.R [ro 3 (.ab (.t 0)),
 ro 4 (.dT (.t 3)),
 ro 5 (.aW 122 (.t 4) 0),
 ro 6 (.aE 2 (.t 5))] (some [0, 6])) aal) aam
def aao : J := .seq (.R [ro 2 (.ae (.c (.bool false)))] (some [0])) aan
theorem aap : bG ⟨73, [0]⟩ (Tryz.f217.body.getD .skip) = some aao.strip := by kernel_rfl
def aaq : J := .cond (.t 7) .skip (.exit 0)
def aar : J := .R [ro 15 (.ab (.t 1)),
 ro 16 (.aw .add 2 (.t 15) (.c (.int .i64 1))),
 ro 1 (.ae (.t 16))] (some [0, 1, 5])
def aas : J := .block 1 (.seq (.R [ro 8 (.ab (.t 5)),
 ro 9 (.ab (.t 0)),
 ro 10 (.ab (.t 1)),
 ro 11 (.bP 117 (.t 9) (.t 10)),
 ro 12 (.call (.f 216) [(.t 11)]),
 ro 13 (.aw .sub 2 (.t 12) (.c (.int .i64 1))),
 ro 14 (.aw .add 2 (.t 8) (.t 13)),
 ro 5 (.ae (.t 14))] (some [0, 1, 5])) aar)
def Mv : J := .seq (.seq (.R [ro 6 (.ab (.t 5)),
 ro 7 (.aw .gtr 2 (.t 6) (.c (.int .i64 0)))] (some [0, 1, 5, 7])) aaq) aas
def aat : J := .seq (.R [ro 17 (.ab (.t 1)),
 ro 4 (.ae (.t 17))] (some [4])) .ret
def aau : J := .seq (.block 0 (.loop Mv)) aat
def aav : J := .seq (.R [ro 5 (.ae (.c (.int .i64 1)))] (some [0, 1, 5])) aau
def aaw : J := .seq (.R [ro 4 (.ae (.c (.int .i64 0)))] (some [0, 1])) aav
theorem aax : bG ⟨18, [0]⟩ (Tryz.f224.body.getD .skip) = some aaw.strip := by kernel_rfl
def aay : J := .cond (.t 13) .skip (.exit 0)
def aaz : J := .R [ro 35 (.ab (.t 5)),
 ro 36 (.aw .add 2 (.t 35) (.c (.int .i64 1))),
 ro 5 (.ae (.t 36))] (some [0, 1, 5, 6])
def aaA : J := .cond (.t 34) aaz .skip
def Mw : J := .R [ro 14 (.ab (.t 6)),
 ro 15 (.aw .add 2 (.t 14) (.c (.int .i64 1))),
 ro 6 (.ae (.t 15))] (some [0, 1, 5, 6])
def aaB : J := .seq (.block 1 (.seq (.R [ro 16 (.ab (.t 0)),
 ro 17 (.dT (.t 16)),
 ro 18 (.aW 119 (.t 17) 2),
 ro 19 (.aE 117 (.t 18)),
 ro 20 (.ab (.t 6)),
 ro 21 (.bP 117 (.t 19) (.t 20)),
 ro 22 (.aW 122 (.t 21) 0),
 ro 23 (.aE 2 (.t 22)),
 ro 24 (.aw .eql 2 (.t 23) (.c (.int .i64 4))),
 ro 25 (.ab (.t 24)),
 ⟨some 26, .ab (.t 0), some (25, true)⟩,
 ⟨some 27, .dT (.t 26), some (25, true)⟩,
 ⟨some 28, .aW 119 (.t 27) 2, some (25, true)⟩,
 ⟨some 29, .aE 117 (.t 28), some (25, true)⟩,
 ⟨some 30, .ab (.t 6), some (25, true)⟩,
 ⟨some 31, .call (.f 224) [(.t 29), (.t 30)], some (25, true)⟩,
 ⟨some 32, .ab (.t 1), some (25, true)⟩,
 ⟨some 33, .aw .gtr 2 (.t 31) (.t 32), some (25, true)⟩,
 ro 34 (.pick (.t 25) (.t 33) (.c (.bool false)))] (some [0, 1, 5, 6, 34])) aaA)) Mw
def Mx : J := .seq (.seq (.R [ro 11 (.ab (.t 6)),
 ro 12 (.ab (.t 1)),
 ro 13 (.aw .lss 2 (.t 11) (.t 12))] (some [0, 1, 5, 6, 13])) aay) aaB
def aaC : J := .block 0 (.loop Mx)
def aaD : J := .seq (.R [ro 37 (.ab (.t 5)),
 ro 4 (.ae (.t 37))] (some [4])) .ret
def aaE : J := .seq (.seq (.R [ro 6 (.ae (.c (.int .i64 0)))] (some [0, 1, 5, 6])) aaC) aaD
def aaF : J := .seq (.R [ro 7 (.ab (.t 0)),
 ro 8 (.dT (.t 7)),
 ro 9 (.aW 119 (.t 8) 1),
 ro 10 (.aE 2 (.t 9)),
 ro 5 (.ae (.t 10))] (some [0, 1, 5])) aaE
def aaG : J := .seq (.R [ro 4 (.ae (.c (.int .i64 0)))] (some [0, 1])) aaF
theorem aaH : bG ⟨38, [0, 1]⟩ (Tryz.f218.body.getD .skip) = some aaG.strip := by kernel_rfl
def aaI : J := .seq (.R [ro 11 (.ab (.t 0)),
 ro 12 (.dT (.t 11)),
 ro 13 (.aW 191 (.t 12) 1),
 ro 14 (.aE 2 (.t 13)),
 ro 15 (.call (.f 87) [(.t 14), (.c (.int .i64 0)), (.c (.int .i64 63))]),
 ro 4 (.ae (.t 15))] (some [4])) .ret
def aaJ : J := .seq (.R [ro 18 (.ab (.t 0)),
 ro 19 (.dT (.t 18)),
 ro 20 (.aW 191 (.t 19) 1),
 ro 21 (.aE 2 (.t 20)),
 ro 22 (.ab (.t 1)),
 ro 23 (.aw .sub 2 (.t 22) (.c (.int .i64 1))),
 ro 24 (.call (.f 87) [(.t 21), (.c (.int .i64 0)), (.t 23)]),
 ro 4 (.ae (.t 24))] (some [4])) .ret
def aaK : J := .seq (.R [ro 27 (.ab (.t 0)),
 ro 28 (.dT (.t 27)),
 ro 29 (.aW 191 (.t 28) 1),
 ro 30 (.aE 2 (.t 29)),
 ro 31 (.call (.f 87) [(.t 30), (.c (.int .i64 0)), (.c (.int .i64 8))]),
 ro 4 (.ae (.t 31))] (some [4])) .ret
def aaL : J := .seq (.R [ro 34 (.ab (.t 0)),
 ro 35 (.dT (.t 34)),
 ro 36 (.aW 191 (.t 35) 1),
 ro 37 (.aE 2 (.t 36)),
 ro 38 (.aw .eql 2 (.t 37) (.c (.int .i64 0))),
 ro 4 (.ae (.t 38))] (some [4])) .ret
def aaM : J := .cond (.t 32) aaL .skip
def aaN : J := .seq (.R [ro 33 (.aw .eql 2 (.t 8) (.c (.int .i64 3))),
 ro 32 (.ae (.t 33))] (some [0, 32])) aaM
def aaO : J := .cond (.t 25) aaK aaN
def aaP : J := .seq (.R [ro 26 (.aw .eql 2 (.t 8) (.c (.int .i64 2))),
 ro 25 (.ae (.t 26))] (some [0, 8, 25])) aaO
def aaQ : J := .cond (.t 16) aaJ aaP
def aaR : J := .seq (.R [ro 17 (.aw .eql 2 (.t 8) (.c (.int .i64 1))),
 ro 16 (.ae (.t 17))] (some [0, 1, 8, 16])) aaQ
def aaS : J := .cond (.t 9) aaI aaR
def aaT : J := .block 0 (.seq (.R [ro 10 (.aw .eql 2 (.t 8) (.c (.int .i64 0))),
 ro 9 (.ae (.t 10))] (some [0, 1, 8, 9])) aaS)
def aaU : J := .seq (.R [ro 4 (.ae (.c (.bool false)))] (some [4])) .ret
def aaV : J := .seq (.seq (.R [ro 5 (.ab (.t 0)),
 ro 6 (.dT (.t 5)),
 ro 7 (.aW 191 (.t 6) 0),
 ro 8 (.aE 2 (.t 7))] (some [0, 1, 8])) aaT) aaU
def aaW : J := .seq (.R [ro 4 (.ae (.c (.bool false)))] (some [0, 1])) aaV
theorem aaX : bG ⟨39, [0, 1]⟩ (Tryz.f175.body.getD .skip) = some aaW.strip := by kernel_rfl
def aaY : J := .seq (.R [ro 2 (.ae (.c (.int .i64 2)))] (some [2])) .ret
def aaZ : J := .seq (.R [ro 2 (.ae (.c (.int .i64 1)))] (some [2])) .ret
def aa0 : J := .cond (.t 9) aaZ .skip
def aa1 : J := .seq (.R [ro 10 (.aw .eql 2 (.t 6) (.c (.int .i64 3))),
 ro 9 (.ae (.t 10))] (some [9])) aa0
def aa2 : J := .cond (.t 7) aaY aa1
def aa3 : J := .block 0 (.seq (.R [ro 8 (.aw .eql 2 (.t 6) (.c (.int .i64 2))),
 ro 7 (.ae (.t 8))] (some [6, 7])) aa2)
def aa4 : J := .seq (.R [ro 2 (.ae (.c (.int .i64 0)))] (some [2])) .ret
def aa5 : J := .seq (.seq (.R [ro 3 (.ab (.t 0)),
 ro 4 (.dT (.t 3)),
 ro 5 (.aW 191 (.t 4) 0),
 ro 6 (.aE 2 (.t 5))] (some [6])) aa3) aa4
def aa6 : J := .seq (.R [ro 2 (.ae (.c (.int .i64 0)))] (some [0])) aa5
theorem aa7 : bG ⟨11, [0]⟩ (Tryz.f176.body.getD .skip) = some aa6.strip := by kernel_rfl
def aa8 : J := .seq (.R [ro 6 (.ae (.c (.bool false)))] (some [6])) .ret
def aa9 : J := .cond (.t 12) aa8 .skip
def aa_ : J := .cond (.t 16) .skip (.exit 0)
def aba : J := .seq (.R [ro 6 (.ae (.c (.bool false)))] (some [6])) .ret
def abb : J := .cond (.t 28) aba .skip
def abc : J := .R [ro 29 (.ab (.t 7)),
 ro 30 (.ab (.t 0)),
 ro 31 (.ab (.t 8)),
 ro 32 (.bP 147 (.t 30) (.t 31)),
 ro 33 (.call (.f 176) [(.t 32)]),
 ro 34 (.aw .sub 2 (.t 33) (.c (.int .i64 1))),
 ro 35 (.aw .add 2 (.t 29) (.t 34)),
 ro 7 (.ae (.t 35))] (some [0, 1, 7, 8])
def abd : J := .R [ro 17 (.ab (.t 8)),
 ro 18 (.aw .add 3 (.t 17) (.c (.int .i64 1))),
 ro 8 (.ae (.t 18))] (some [0, 1, 7, 8])
def abe : J := .seq (.block 1 (.seq (.seq (.R [ro 19 (.ab (.t 7)),
 ro 20 (.aw .eql 2 (.t 19) (.c (.int .i64 0))),
 ro 21 (.ab (.t 20)),
 ⟨some 22, .ab (.t 0), some (21, false)⟩,
 ⟨some 23, .ab (.t 8), some (21, false)⟩,
 ⟨some 24, .bP 147 (.t 22) (.t 23), some (21, false)⟩,
 ⟨some 25, .ab (.t 1), some (21, false)⟩,
 ⟨some 26, .call (.f 175) [(.t 24), (.t 25)], some (21, false)⟩,
 ⟨some 27, .un .not (.t 26), some (21, false)⟩,
 ro 28 (.pick (.t 21) (.c (.bool true)) (.t 27))] (some [0, 1, 7, 8, 28])) abb) abc)) abd
def My : J := .seq (.seq (.R [ro 13 (.ab (.t 8)),
 ro 14 (.ab (.t 0)),
 ro 15 (.len 147 (.t 14)),
 ro 16 (.aw .lss 3 (.t 13) (.t 15))] (some [0, 1, 7, 8, 16])) aa_) abe
def abf : J := .block 0 (.loop My)
def abg : J := .seq (.R [ro 36 (.ab (.t 7)),
 ro 37 (.aw .eql 2 (.t 36) (.c (.int .i64 0))),
 ro 6 (.ae (.t 37))] (some [6])) .ret
def abh : J := .seq (.seq (.R [ro 8 (.ae (.c (.int .i64 0)))] (some [0, 1, 7, 8])) abf) abg
def abi : J := .seq (.R [ro 7 (.ae (.c (.int .i64 1)))] (some [0, 1, 7])) abh
def abj : J := .seq (.seq (.R [ro 9 (.ab (.t 0)),
 ro 10 (.len 147 (.t 9)),
 ro 11 (.ab (.t 2)),
 ro 12 (.aw .gtr 2 (.t 10) (.t 11))] (some [0, 1, 12])) aa9) abi
def abk : J := .seq (.R [ro 6 (.ae (.c (.bool false)))] (some [0, 1, 2])) abj
theorem abl : bG ⟨38, [0, 1, 2]⟩ (Tryz.f140.body.getD .skip) = some abk.strip := by kernel_rfl
def abm : J := .seq (.R [ro 6 (.ae (.c (.int .i64 2)))] (some [6])) .ret
def abn : J := .cond (.t 19) abm .skip
def abo : J := .seq (.R [ro 6 (.ae (.c (.int .i64 3)))] (some [6])) .ret
def Mz : J := .cond (.t 28) abo .skip
def abp : J := .seq (.R [ro 6 (.ae (.c (.int .i64 4)))] (some [6])) .ret
def MA : J := .cond (.t 51) abp .skip
def abq : J := .seq (.R [ro 6 (.ae (.c (.int .i64 5)))] (some [6])) .ret
def abr : J := .cond (.t 69) abq .skip
def abt : J := .seq (.R [ro 59 (.ab (.t 8)),
 ro 60 (.aw .gtr 2 (.t 59) (.c (.int .i64 2))),
 ro 61 (.ab (.t 60)),
 ⟨some 62, .ab (.t 8), some (61, false)⟩,
 ⟨some 63, .aw .gtr 2 (.t 62) (.c (.int .i64 0)), some (61, false)⟩,
 ⟨some 64, .ab (.t 63), some (61, false)⟩,
 ⟨some 65, .aW 122 (.t 7) 2, some (64, true)⟩,
 ⟨some 66, .aE 9 (.t 65), some (64, true)⟩,
 ⟨some 67, .aw .eql 9 (.t 66) (.c (.str [116, 97, 117])), some (64, true)⟩,
 ⟨some 68, .pick (.t 64) (.t 67) (.c (.bool false)), some (61, false)⟩,
 ro 69 (.pick (.t 61) (.c (.bool true)) (.t 68))] (some [1, 2, 7, 8, 69])) abr
def abu : J := .seq (.R [ro 6 (.ae (.c (.int .i64 5)))] (some [6])) .ret
def abv : J := .cond (.t 73) abu .skip
def abw : J := .seq (.R [ro 72 (.ab (.t 8)),
 ro 73 (.aw .neq 2 (.t 72) (.c (.int .i64 1)))] (some [1, 2, 7, 8, 73])) abv
def abx : J := .seq (.R [ro 6 (.ae (.c (.int .i64 5)))] (some [6])) .ret
def aby : J := .cond (.t 83) abx .skip
def abz : J := .seq (.R [ro 76 (.ab (.t 8)),
 ro 77 (.ab (.t 0)),
 ro 78 (.aW 122 (.t 7) 1),
 ro 79 (.aE 2 (.t 78)),
 ro 80 (.bP 32 (.t 77) (.t 79)),
 ro 81 (.aW 119 (.t 80) 1),
 ro 82 (.aE 2 (.t 81)),
 ro 83 (.aw .neq 2 (.t 76) (.t 82))] (some [1, 2, 7, 8, 83])) aby
def abA : J := .cond (.t 74) abz .skip
def abB : J := .seq (.R [ro 75 (.aw .eql 2 (.t 56) (.c (.int .i64 5))),
 ro 74 (.ae (.t 75))] (some [0, 1, 2, 7, 8, 74])) abA
def abC : J := .cond (.t 70) abw abB
def abD : J := .seq (.R [ro 71 (.aw .eql 2 (.t 56) (.c (.int .i64 3))),
 ro 70 (.ae (.t 71))] (some [0, 1, 2, 7, 8, 56, 70])) abC
def abE : J := .cond (.t 57) abt abD
def abF : J := .block 0 (.seq (.R [ro 58 (.aw .eql 2 (.t 56) (.c (.int .i64 1))),
 ro 57 (.ae (.t 58))] (some [0, 1, 2, 7, 8, 56, 57])) abE)
def abG : J := .seq (.R [ro 6 (.ae (.c (.int .i64 6)))] (some [6])) .ret
def MB : J := .cond (.t 102) abG .skip
def abH : J := .seq (.R [ro 6 (.ae (.c (.int .i64 7)))] (some [6])) .ret
def abI : J := .cond (.t 112) abH .skip
def abJ : J := .cond (.t 115) .skip (.exit 1)
def abK : J := .seq (.R [ro 6 (.ae (.c (.int .i64 8)))] (some [6])) .ret
def abL : J := .cond (.t 125) abK .skip
def abM : J := .R [ro 116 (.ab (.t 10)),
 ro 117 (.aw .add 2 (.t 116) (.c (.int .i64 1))),
 ro 10 (.ae (.t 117))] (some [7, 8, 9, 10])
def abN : J := .seq (.block 2 (.seq (.R [ro 118 (.aW 122 (.t 7) 3),
 ro 119 (.aE 120 (.t 118)),
 ro 120 (.ab (.t 10)),
 ro 121 (.bP 120 (.t 119) (.t 120)),
 ro 122 (.aE 147 (.t 121)),
 ro 123 (.ab (.t 9)),
 ro 124 (.call (.f 140) [(.t 122), (.t 123), (.c (.int .i64 15))]),
 ro 125 (.un .not (.t 124))] (some [7, 8, 9, 10, 125])) abL)) abM
def MC : J := .seq (.seq (.R [ro 113 (.ab (.t 10)),
 ro 114 (.ab (.t 8)),
 ro 115 (.aw .lss 2 (.t 113) (.t 114))] (some [7, 8, 9, 10, 115])) abJ) abN
def abO : J := .block 1 (.loop MC)
def abP : J := .seq (.R [ro 6 (.ae (.c (.int .i64 0)))] (some [6])) .ret
def abQ : J := .seq (.seq (.R [ro 10 (.ae (.c (.int .i64 0)))] (some [7, 8, 9, 10])) abO) abP
def abR : J := .seq (.seq (.R [ro 106 (.aW 122 (.t 7) 0),
 ro 107 (.aE 2 (.t 106)),
 ro 108 (.aw .eql 2 (.t 107) (.c (.int .i64 4))),
 ro 109 (.ab (.t 108)),
 ⟨some 110, .ab (.t 9), some (109, true)⟩,
 ⟨some 111, .aw .geq 2 (.t 110) (.c (.int .i64 6)), some (109, true)⟩,
 ro 112 (.pick (.t 109) (.t 111) (.c (.bool false)))] (some [7, 8, 9, 112])) abI) abQ
def abS : J := .seq (.R [ro 103 (.ab (.t 1)),
 ro 104 (.ab (.t 2)),
 ro 105 (.call (.f 218) [(.t 103), (.t 104)]),
 ro 9 (.ae (.t 105))] (some [7, 8, 9])) abR
def MD : J := .seq (.seq (.R [ro 84 (.aW 122 (.t 7) 0),
 ro 85 (.aE 2 (.t 84)),
 ro 86 (.aw .eql 2 (.t 85) (.c (.int .i64 5))),
 ro 87 (.ab (.t 86)),
 ⟨some 88, .ab (.t 2), some (87, true)⟩,
 ⟨some 89, .aw .eql 2 (.t 88) (.c (.int .i64 0)), some (87, true)⟩,
 ⟨some 90, .ab (.t 89), some (87, true)⟩,
 ⟨some 91, .ab (.t 1), some (90, false)⟩,
 ⟨some 92, .dT (.t 91), some (90, false)⟩,
 ⟨some 93, .aW 119 (.t 92) 2, some (90, false)⟩,
 ⟨some 94, .aE 117 (.t 93), some (90, false)⟩,
 ⟨some 95, .ab (.t 2), some (90, false)⟩,
 ⟨some 96, .aw .sub 2 (.t 95) (.c (.int .i64 1)), some (90, false)⟩,
 ⟨some 97, .bP 117 (.t 94) (.t 96), some (90, false)⟩,
 ⟨some 98, .aW 122 (.t 97) 0, some (90, false)⟩,
 ⟨some 99, .aE 2 (.t 98), some (90, false)⟩,
 ⟨some 100, .aw .neq 2 (.t 99) (.c (.int .i64 1)), some (90, false)⟩,
 ⟨some 101, .pick (.t 90) (.c (.bool true)) (.t 100), some (87, true)⟩,
 ro 102 (.pick (.t 87) (.t 101) (.c (.bool false)))] (some [1, 2, 7, 8, 102])) MB) abS
def abT : J := .seq (.seq (.R [ro 55 (.aW 122 (.t 7) 0),
 ro 56 (.aE 2 (.t 55))] (some [0, 1, 2, 7, 8, 56])) abF) MD
def abU : J := .seq (.R [ro 52 (.aW 122 (.t 7) 3),
 ro 53 (.aE 120 (.t 52)),
 ro 54 (.len 120 (.t 53)),
 ro 8 (.ae (.t 54))] (some [0, 1, 2, 7, 8])) abT
def abV : J := .seq (.seq (.R [ro 29 (.aW 122 (.t 7) 0),
 ro 30 (.aE 2 (.t 29)),
 ro 31 (.aw .eql 2 (.t 30) (.c (.int .i64 4))),
 ro 32 (.ab (.t 31)),
 ⟨some 33, .aW 122 (.t 7) 1, some (32, true)⟩,
 ⟨some 34, .aE 2 (.t 33), some (32, true)⟩,
 ⟨some 35, .call (.f 87) [(.t 34), (.c (.int .i64 1)), (.c (.int .i64 7))], some (32, true)⟩,
 ⟨some 36, .un .not (.t 35), some (32, true)⟩,
 ro 37 (.pick (.t 32) (.t 36) (.c (.bool false))),
 ro 38 (.ab (.t 37)),
 ⟨some 39, .aW 122 (.t 7) 0, some (38, false)⟩,
 ⟨some 40, .aE 2 (.t 39), some (38, false)⟩,
 ⟨some 41, .aw .eql 2 (.t 40) (.c (.int .i64 5)), some (38, false)⟩,
 ⟨some 42, .ab (.t 41), some (38, false)⟩,
 ⟨some 43, .aW 122 (.t 7) 1, some (42, true)⟩,
 ⟨some 44, .aE 2 (.t 43), some (42, true)⟩,
 ⟨some 45, .ab (.t 0), some (42, true)⟩,
 ⟨some 46, .len 32 (.t 45), some (42, true)⟩,
 ⟨some 47, .aw .sub 2 (.t 46) (.c (.int .i64 1)), some (42, true)⟩,
 ⟨some 48, .call (.f 87) [(.t 44), (.c (.int .i64 0)), (.t 47)], some (42, true)⟩,
 ⟨some 49, .un .not (.t 48), some (42, true)⟩,
 ⟨some 50, .pick (.t 42) (.t 49) (.c (.bool false)), some (38, false)⟩,
 ro 51 (.pick (.t 38) (.c (.bool true)) (.t 50))] (some [0, 1, 2, 7, 51])) MA) abU
def abW : J := .seq (.seq (.R [ro 20 (.aW 122 (.t 7) 0),
 ro 21 (.aE 2 (.t 20)),
 ro 22 (.aw .eql 2 (.t 21) (.c (.int .i64 1))),
 ro 23 (.ab (.t 22)),
 ⟨some 24, .aW 122 (.t 7) 2, some (23, true)⟩,
 ⟨some 25, .aE 9 (.t 24), some (23, true)⟩,
 ⟨some 26, .call (.f 161) [(.t 25)], some (23, true)⟩,
 ⟨some 27, .un .not (.t 26), some (23, true)⟩,
 ro 28 (.pick (.t 23) (.t 27) (.c (.bool false)))] (some [0, 1, 2, 7, 28])) Mz) abV
def abX : J := .seq (.seq (.R [ro 18 (.call (.f 217) [(.t 7)]),
 ro 19 (.un .not (.t 18))] (some [0, 1, 2, 7, 19])) abn) abW
def abY : J := .seq (.R [ro 11 (.ab (.t 1)),
 ro 12 (.dT (.t 11)),
 ro 13 (.aW 119 (.t 12) 2),
 ro 14 (.aE 117 (.t 13)),
 ro 15 (.ab (.t 2)),
 ro 16 (.bP 117 (.t 14) (.t 15)),
 ro 17 (.aE 122 (.t 16)),
 ro 7 (.eA 122),
 ⟨none, .cK 122 (.t 7) (.t 17), none⟩] (some [0, 1, 2, 7])) abX
def abZ : J := .seq (.R [ro 6 (.ae (.c (.int .i64 0)))] (some [0, 1, 2])) abY
theorem ab0 : bG ⟨126, [0, 1, 2]⟩ (Tryz.f199.body.getD .skip) = some abZ.strip := by kernel_rfl
def ab1 : J := .seq (.R [ro 4 (.ae (.c (.int .i64 0))),
 ro 5 (.ae (.c (.int .i64 1)))] (some [4, 5])) .ret
def ab2 : J := .cond (.t 13) ab1 .skip
def ab3 : J := .cond (.t 20) .skip (.exit 0)
def ab4 : J := .seq (.R [ro 29 (.ab (.t 6)),
 ro 30 (.ab (.t 7)),
 ro 4 (.ae (.t 29)),
 ro 5 (.ae (.t 30))] (some [4, 5])) .ret
def ab5 : J := .cond (.t 28) ab4 .skip
def ab6 : J := .seq (.R [ro 27 (.ab (.t 7)),
 ro 28 (.aw .gtr 2 (.t 27) (.c (.int .i64 0)))] (some [0, 1, 6, 7, 28])) ab5
def ab7 : J := .R [ro 21 (.ab (.t 6)),
 ro 22 (.aw .add 2 (.t 21) (.c (.int .i64 1))),
 ro 6 (.ae (.t 22))] (some [0, 1, 6])
def ab8 : J := .seq (.block 1 (.seq (.R [ro 23 (.ab (.t 0)),
 ro 24 (.ab (.t 1)),
 ro 25 (.ab (.t 6)),
 ro 26 (.call (.f 199) [(.t 23), (.t 24), (.t 25)]),
 ro 7 (.ae (.t 26))] (some [0, 1, 6, 7])) ab6)) ab7
def ME : J := .seq (.seq (.R [ro 14 (.ab (.t 6)),
 ro 15 (.ab (.t 1)),
 ro 16 (.dT (.t 15)),
 ro 17 (.aW 119 (.t 16) 2),
 ro 18 (.aE 117 (.t 17)),
 ro 19 (.len 117 (.t 18)),
 ro 20 (.aw .lss 2 (.t 14) (.t 19))] (some [0, 1, 6, 20])) ab3) ab8
def ab9 : J := .block 0 (.loop ME)
def ab_ : J := .seq (.R [ro 4 (.ae (.c (.int .i64 0))),
 ro 5 (.ae (.c (.int .i64 0)))] (some [4, 5])) .ret
def aca : J := .seq (.seq (.R [ro 6 (.ae (.c (.int .i64 0)))] (some [0, 1, 6])) ab9) ab_
def acb : J := .seq (.seq (.R [ro 8 (.ab (.t 1)),
 ro 9 (.dT (.t 8)),
 ro 10 (.aW 119 (.t 9) 2),
 ro 11 (.aE 117 (.t 10)),
 ro 12 (.call (.f 198) [(.t 11)]),
 ro 13 (.un .not (.t 12))] (some [0, 1, 13])) ab2) aca
def acd : J := .seq (.R [ro 4 (.ae (.c (.int .i64 0))),
 ro 5 (.ae (.c (.int .i64 0)))] (some [0, 1])) acb
theorem ace : bG ⟨31, [0, 1]⟩ (Tryz.f162.body.getD .skip) = some acd.strip := by kernel_rfl
def acf : J := .seq (.R [ro 2 (.ae (.c (.bool false)))] (some [2])) .ret
def acg : J := .cond (.t 15) acf .skip
def ach : J := .cond (.t 19) .skip (.exit 0)
def aci : J := .seq (.R [ro 2 (.ae (.c (.bool false)))] (some [2])) .ret
def acj : J := .cond (.t 37) aci .skip
def ack : J := .cond (.t 40) .skip (.exit 2)
def acm : J := .seq (.R [ro 2 (.ae (.c (.bool false)))] (some [2])) .ret
def acn : J := .cond (.t 53) acm .skip
def aco : J := .R [ro 41 (.ab (.t 4)),
 ro 42 (.aw .add 3 (.t 41) (.c (.int .i64 1))),
 ro 4 (.ae (.t 42))] (some [0, 3, 4])
def acp : J := .seq (.block 3 (.seq (.g6 [ro 43 (.ab (.t 0)),
 ro 44 (.ab (.t 4)),
 ro 45 (.bP 32 (.t 43) (.t 44)),
 ro 46 (.aW 119 (.t 45) 0),
 ro 47 (.aE 9 (.t 46)),
 ro 48 (.ab (.t 0)),
 ro 49 (.ab (.t 3)),
 ro 50 (.bP 32 (.t 48) (.t 49)),
 ro 51 (.aW 119 (.t 50) 0),
 ro 52 (.aE 9 (.t 51)),
 ro 53 (.aw .eql 9 (.t 47) (.t 52))] [[], [], [0, 1], [2], [3], [], [], [5, 6], [7], [8], [4, 9]] (some [0, 3, 4, 53])) acn)) aco
def MF : J := .seq (.seq (.R [ro 38 (.ab (.t 4)),
 ro 39 (.ab (.t 3)),
 ro 40 (.aw .lss 3 (.t 38) (.t 39))] (some [0, 3, 4, 40])) ack) acp
def acq : J := .block 2 (.loop MF)
def acr : J := .seq (.R [ro 4 (.ae (.c (.int .i64 0)))] (some [0, 3, 4])) acq
def acs : J := .R [ro 20 (.ab (.t 3)),
 ro 21 (.aw .add 3 (.t 20) (.c (.int .i64 1))),
 ro 3 (.ae (.t 21))] (some [0, 3])
def acu : J := .seq (.block 1 (.seq (.seq (.R [ro 22 (.ab (.t 0)),
 ro 23 (.ab (.t 3)),
 ro 24 (.bP 32 (.t 22) (.t 23)),
 ro 25 (.aW 119 (.t 24) 0),
 ro 26 (.aE 9 (.t 25)),
 ro 27 (.call (.f 161) [(.t 26)]),
 ro 28 (.un .not (.t 27)),
 ro 29 (.ab (.t 28)),
 ⟨some 30, .ab (.t 0), some (29, false)⟩,
 ⟨some 31, .ab (.t 3), some (29, false)⟩,
 ⟨some 32, .bP 32 (.t 30) (.t 31), some (29, false)⟩,
 ⟨some 33, .aW 119 (.t 32) 1, some (29, false)⟩,
 ⟨some 34, .aE 2 (.t 33), some (29, false)⟩,
 ⟨some 35, .call (.f 87) [(.t 34), (.c (.int .i64 0)), (.c (.int .i64 3))], some (29, false)⟩,
 ⟨some 36, .un .not (.t 35), some (29, false)⟩,
 ro 37 (.pick (.t 29) (.c (.bool true)) (.t 36))] (some [0, 3, 37])) acj) acr)) acs
def MG : J := .seq (.seq (.R [ro 16 (.ab (.t 3)),
 ro 17 (.ab (.t 0)),
 ro 18 (.len 32 (.t 17)),
 ro 19 (.aw .lss 3 (.t 16) (.t 18))] (some [0, 3, 19])) ach) acu
def acv : J := .block 0 (.loop MG)
def acw : J := .cond (.t 57) .skip (.exit 4)
def acx : J := .seq (.R [ro 2 (.ae (.c (.bool false)))] (some [2])) .ret
def acy : J := .cond (.t 69) acx .skip
def acz : J := .seq (.R [ro 68 (.ab (.t 7)),
 ro 69 (.aw .gtr 2 (.t 68) (.c (.int .i64 0)))] (some [0, 5, 69])) acy
def acA : J := .R [ro 58 (.ab (.t 5)),
 ro 59 (.aw .add 3 (.t 58) (.c (.int .i64 1))),
 ro 5 (.ae (.t 59))] (some [0, 5])
def acB : J := .seq (.block 5 (.seq (.R [ro 61 (.ab (.t 0)),
 ro 62 (.ab (.t 0)),
 ro 63 (.ab (.t 5)),
 ro 64 (.bP 32 (.t 62) (.t 63)),
 ro 65 (.call (.f 162) [(.t 61), (.t 64)]),
 ro 60 (.ab (.t 65)),
 ro 66 (.ex (.t 60) 0),
 ro 67 (.ex (.t 60) 1),
 ro 6 (.ae (.t 66)),
 ro 7 (.ae (.t 67))] (some [0, 5, 7])) acz)) acA
def MH : J := .seq (.seq (.R [ro 54 (.ab (.t 5)),
 ro 55 (.ab (.t 0)),
 ro 56 (.len 32 (.t 55)),
 ro 57 (.aw .lss 3 (.t 54) (.t 56))] (some [0, 5, 57])) acw) acB
def acC : J := .block 4 (.loop MH)
def acD : J := .seq (.R [ro 2 (.ae (.c (.bool true)))] (some [2])) .ret
def acE : J := .seq (.seq (.R [ro 5 (.ae (.c (.int .i64 0)))] (some [0, 5])) acC) acD
def acF : J := .seq (.seq (.R [ro 3 (.ae (.c (.int .i64 0)))] (some [0, 3])) acv) acE
def acG : J := .seq (.seq (.R [ro 8 (.ab (.t 0)),
 ro 9 (.len 32 (.t 8)),
 ro 10 (.aw .eql 3 (.t 9) (.c (.int .i64 0))),
 ro 11 (.ab (.t 10)),
 ⟨some 12, .ab (.t 0), some (11, false)⟩,
 ⟨some 13, .len 32 (.t 12), some (11, false)⟩,
 ⟨some 14, .aw .gtr 3 (.t 13) (.c (.int .i64 4)), some (11, false)⟩,
 ro 15 (.pick (.t 11) (.c (.bool true)) (.t 14))] (some [0, 15])) acg) acF
def acH : J := .seq (.R [ro 2 (.ae (.c (.bool false)))] (some [0])) acG
theorem acI : bG ⟨70, [0]⟩ (Tryz.f122.body.getD .skip) = some acH.strip := by kernel_rfl
def acJ : J := .cond (.t 7) .skip (.exit 0)
def acK : J := .seq (.R [ro 2 (.ae (.c (.bool false)))] (some [2])) .ret
def acL : J := .cond (.t 15) acK .skip
def acM : J := .R [ro 8 (.ab (.t 3)),
 ro 9 (.aw .add 3 (.t 8) (.c (.int .i64 1))),
 ro 3 (.ae (.t 9))] (some [0, 3])
def acN : J := .seq (.block 1 (.seq (.R [ro 10 (.ab (.t 0)),
 ro 11 (.ab (.t 3)),
 ro 12 (.bP 43 (.t 10) (.t 11)),
 ro 13 (.aE 2 (.t 12)),
 ro 14 (.call (.f 87) [(.t 13), (.c (.int .i64 0)), (.c (.int .i64 63))]),
 ro 15 (.un .not (.t 14))] (some [0, 3, 15])) acL)) acM
def MI : J := .seq (.seq (.R [ro 4 (.ab (.t 3)),
 ro 5 (.ab (.t 0)),
 ro 6 (.len 43 (.t 5)),
 ro 7 (.aw .lss 3 (.t 4) (.t 6))] (some [0, 3, 7])) acJ) acN
def acO : J := .block 0 (.loop MI)
def acP : J := .seq (.R [ro 2 (.ae (.c (.bool true)))] (some [2])) .ret
def acQ : J := .seq (.seq (.R [ro 3 (.ae (.c (.int .i64 0)))] (some [0, 3])) acO) acP
def acR : J := .seq (.R [ro 2 (.ae (.c (.bool false)))] (some [0])) acQ
theorem acS : bG ⟨16, [0]⟩ (Tryz.f138.body.getD .skip) = some acR.strip := by kernel_rfl
def acT : J := .seq (.R [ro 2 (.ae (.c (.bool false)))] (some [2])) .ret
def acU : J := .cond (.t 18) acT .skip
def acV : J := .cond (.t 25) .skip (.exit 0)
def acW : J := .seq (.R [ro 2 (.ae (.c (.bool false)))] (some [2])) .ret
def acX : J := .cond (.t 44) acW .skip
def acY : J := .seq (.R [ro 2 (.ae (.c (.bool false)))] (some [2])) .ret
def acZ : J := .cond (.t 63) acY .skip
def ac0 : J := .seq (.g6 [ro 45 (.aW 124 (.t 4) 1),
 ro 46 (.aE 43 (.t 45)),
 ro 47 (.len 43 (.t 46)),
 ro 48 (.ab (.t 0)),
 ro 49 (.dT (.t 48)),
 ro 50 (.aW 36 (.t 49) 0),
 ro 51 (.aE 32 (.t 50)),
 ro 52 (.aW 124 (.t 4) 0),
 ro 53 (.aE 2 (.t 52)),
 ro 54 (.bP 32 (.t 51) (.t 53)),
 ro 55 (.aW 119 (.t 54) 1),
 ro 56 (.aE 2 (.t 55)),
 ro 57 (.aw .neq 2 (.t 47) (.t 56)),
 ro 58 (.ab (.t 57)),
 ⟨some 59, .aW 124 (.t 4) 1, some (58, false)⟩,
 ⟨some 60, .aE 43 (.t 59), some (58, false)⟩,
 ⟨some 61, .call (.f 138) [(.t 60)], some (58, false)⟩,
 ⟨some 62, .un .not (.t 61), some (58, false)⟩,
 ro 63 (.pick (.t 58) (.c (.bool true)) (.t 62))] [[], [0], [1], [], [3], [4], [5], [], [7], [6, 8], [9], [10], [2, 11], [12], [13], [14, 13], [15, 13, 13], [16, 13], [13, 17]] (some [0, 3, 63])) acZ
def ac1 : J := .seq (.seq (.g6 [ro 35 (.aW 124 (.t 4) 0),
 ro 36 (.aE 2 (.t 35)),
 ro 37 (.ab (.t 0)),
 ro 38 (.dT (.t 37)),
 ro 39 (.aW 36 (.t 38) 0),
 ro 40 (.aE 32 (.t 39)),
 ro 41 (.len 32 (.t 40)),
 ro 42 (.aw .sub 2 (.t 41) (.c (.int .i64 1))),
 ro 43 (.call (.f 87) [(.t 36), (.c (.int .i64 0)), (.t 42)]),
 ro 44 (.un .not (.t 43))] [[], [0], [], [2], [3], [4], [5], [6], [1, 7], [8]] (some [0, 3, 4, 44])) acX) ac0
def ac2 : J := .R [ro 26 (.ab (.t 3)),
 ro 27 (.aw .add 3 (.t 26) (.c (.int .i64 1))),
 ro 3 (.ae (.t 27))] (some [0, 3])
def ac3 : J := .seq (.block 1 (.seq (.R [ro 28 (.ab (.t 0)),
 ro 29 (.dT (.t 28)),
 ro 30 (.aW 36 (.t 29) 1),
 ro 31 (.aE 33 (.t 30)),
 ro 32 (.ab (.t 3)),
 ro 33 (.bP 33 (.t 31) (.t 32)),
 ro 34 (.aE 124 (.t 33)),
 ro 4 (.eA 124),
 ⟨none, .cK 124 (.t 4) (.t 34), none⟩] (some [0, 3, 4])) ac1)) ac2
def MJ : J := .seq (.seq (.R [ro 19 (.ab (.t 3)),
 ro 20 (.ab (.t 0)),
 ro 21 (.dT (.t 20)),
 ro 22 (.aW 36 (.t 21) 1),
 ro 23 (.aE 33 (.t 22)),
 ro 24 (.len 33 (.t 23)),
 ro 25 (.aw .lss 3 (.t 19) (.t 24))] (some [0, 3, 25])) acV) ac3
def ac4 : J := .block 0 (.loop MJ)
def ac5 : J := .seq (.R [ro 2 (.ae (.c (.bool true)))] (some [2])) .ret
def ac6 : J := .seq (.seq (.R [ro 3 (.ae (.c (.int .i64 0)))] (some [0, 3])) ac4) ac5
def ac7 : J := .seq (.seq (.R [ro 5 (.ab (.t 0)),
 ro 6 (.dT (.t 5)),
 ro 7 (.aW 36 (.t 6) 1),
 ro 8 (.aE 33 (.t 7)),
 ro 9 (.len 33 (.t 8)),
 ro 10 (.aw .eql 3 (.t 9) (.c (.int .i64 0))),
 ro 11 (.ab (.t 10)),
 ⟨some 12, .ab (.t 0), some (11, false)⟩,
 ⟨some 13, .dT (.t 12), some (11, false)⟩,
 ⟨some 14, .aW 36 (.t 13) 1, some (11, false)⟩,
 ⟨some 15, .aE 33 (.t 14), some (11, false)⟩,
 ⟨some 16, .len 33 (.t 15), some (11, false)⟩,
 ⟨some 17, .aw .gtr 3 (.t 16) (.c (.int .i64 3)), some (11, false)⟩,
 ro 18 (.pick (.t 11) (.c (.bool true)) (.t 17))] (some [0, 18])) acU) ac6
def ac8 : J := .seq (.R [ro 2 (.ae (.c (.bool false)))] (some [0])) ac7
theorem ac9 : bG ⟨64, [0]⟩ (Tryz.f123.body.getD .skip) = some ac8.strip := by kernel_rfl
def ac_ : J := .seq (.R [ro 3 (.ab (.t 0)),
 ro 4 (.call (.f 161) [(.t 3)]),
 ro 5 (.ab (.t 4)),
 ⟨some 6, .ab (.t 0), some (5, true)⟩,
 ⟨some 7, .aw .neq 9 (.t 6) (.c (.str [116, 97, 117])), some (5, true)⟩,
 ro 8 (.pick (.t 5) (.t 7) (.c (.bool false))),
 ro 2 (.ae (.t 8))] (some [2])) .ret
def ada : J := .seq (.R [ro 2 (.ae (.c (.bool false)))] (some [0])) ac_
theorem adb : bG ⟨9, [0]⟩ (Tryz.f141.body.getD .skip) = some ada.strip := by kernel_rfl
def ade : J := .seq (.R [ro 2 (.ae (.c (.bool false)))] (some [2])) .ret
def adf : J := .cond (.t 8) ade .skip
def adg : J := .cond (.t 12) .skip (.exit 0)
def adh : J := .seq (.R [ro 2 (.ae (.c (.bool false)))] (some [2])) .ret
def adi : J := .cond (.t 41) adh .skip
def adj : J := .seq (.R [ro 2 (.ae (.c (.bool false)))] (some [2])) .ret
def adk : J := .cond (.t 76) adj .skip
def adl : J := .cond (.t 80) .skip (.exit 2)
def adm : J := .seq (.R [ro 2 (.ae (.c (.bool false)))] (some [2])) .ret
def adn : J := .cond (.t 100) adm .skip
def ado : J := .R [ro 81 (.ab (.t 5)),
 ro 82 (.aw .add 3 (.t 81) (.c (.int .i64 1))),
 ro 5 (.ae (.t 82))] (some [0, 3, 4, 5])
def adp : J := .seq (.block 3 (.seq (.g6 [ro 83 (.ab (.t 0)),
 ro 84 (.ab (.t 5)),
 ro 85 (.bP 34 (.t 83) (.t 84)),
 ro 86 (.aW 126 (.t 85) 0),
 ro 87 (.aE 9 (.t 86)),
 ro 88 (.aW 126 (.t 4) 2),
 ro 89 (.aE 9 (.t 88)),
 ro 90 (.aw .eql 9 (.t 87) (.t 89)),
 ro 91 (.ab (.t 90)),
 ⟨some 92, .ab (.t 0), some (91, false)⟩,
 ⟨some 93, .ab (.t 5), some (91, false)⟩,
 ⟨some 94, .bP 34 (.t 92) (.t 93), some (91, false)⟩,
 ⟨some 95, .aW 126 (.t 94) 1, some (91, false)⟩,
 ⟨some 96, .aE 9 (.t 95), some (91, false)⟩,
 ⟨some 97, .aW 126 (.t 4) 2, some (91, false)⟩,
 ⟨some 98, .aE 9 (.t 97), some (91, false)⟩,
 ⟨some 99, .aw .eql 9 (.t 96) (.t 98), some (91, false)⟩,
 ro 100 (.pick (.t 91) (.c (.bool true)) (.t 99))] [[], [], [0, 1], [2], [3], [], [5], [4, 6], [7], [8], [8], [9, 10, 8], [11, 8], [12, 8], [8], [14, 8], [13, 15, 8], [8, 16]] (some [0, 3, 4, 5, 100])) adn)) ado
def GK : J := .seq (.seq (.R [ro 77 (.ab (.t 5)),
 ro 78 (.ab (.t 0)),
 ro 79 (.len 34 (.t 78)),
 ro 80 (.aw .lss 3 (.t 77) (.t 79))] (some [0, 3, 4, 5, 80])) adl) adp
def adq : J := .block 2 (.loop GK)
def adr : J := .seq (.R [ro 5 (.ae (.c (.int .i64 0)))] (some [0, 3, 4, 5])) adq
def ads : J := .seq (.seq (.g6 [ro 42 (.ab (.t 3)),
 ro 43 (.aw .gtr 3 (.t 42) (.c (.int .i64 0))),
 ro 44 (.ab (.t 43)),
 ⟨some 45, .ab (.t 0), some (44, true)⟩,
 ⟨some 46, .ab (.t 3), some (44, true)⟩,
 ⟨some 47, .aw .sub 3 (.t 46) (.c (.int .i64 1)), some (44, true)⟩,
 ⟨some 48, .bP 34 (.t 45) (.t 47), some (44, true)⟩,
 ⟨some 49, .aW 126 (.t 48) 0, some (44, true)⟩,
 ⟨some 50, .aE 9 (.t 49), some (44, true)⟩,
 ⟨some 51, .aW 126 (.t 4) 0, some (44, true)⟩,
 ⟨some 52, .aE 9 (.t 51), some (44, true)⟩,
 ⟨some 53, .aw .gtr 9 (.t 50) (.t 52), some (44, true)⟩,
 ⟨some 54, .ab (.t 53), some (44, true)⟩,
 ⟨some 55, .ab (.t 0), some (54, false)⟩,
 ⟨some 56, .ab (.t 3), some (54, false)⟩,
 ⟨some 57, .aw .sub 3 (.t 56) (.c (.int .i64 1)), some (54, false)⟩,
 ⟨some 58, .bP 34 (.t 55) (.t 57), some (54, false)⟩,
 ⟨some 59, .aW 126 (.t 58) 0, some (54, false)⟩,
 ⟨some 60, .aE 9 (.t 59), some (54, false)⟩,
 ⟨some 61, .aW 126 (.t 4) 0, some (54, false)⟩,
 ⟨some 62, .aE 9 (.t 61), some (54, false)⟩,
 ⟨some 63, .aw .eql 9 (.t 60) (.t 62), some (54, false)⟩,
 ⟨some 64, .ab (.t 63), some (54, false)⟩,
 ⟨some 65, .ab (.t 0), some (64, true)⟩,
 ⟨some 66, .ab (.t 3), some (64, true)⟩,
 ⟨some 67, .aw .sub 3 (.t 66) (.c (.int .i64 1)), some (64, true)⟩,
 ⟨some 68, .bP 34 (.t 65) (.t 67), some (64, true)⟩,
 ⟨some 69, .aW 126 (.t 68) 1, some (64, true)⟩,
 ⟨some 70, .aE 9 (.t 69), some (64, true)⟩,
 ⟨some 71, .aW 126 (.t 4) 1, some (64, true)⟩,
 ⟨some 72, .aE 9 (.t 71), some (64, true)⟩,
 ⟨some 73, .aw .geq 9 (.t 70) (.t 72), some (64, true)⟩,
 ⟨some 74, .pick (.t 64) (.t 73) (.c (.bool false)), some (54, false)⟩,
 ⟨some 75, .pick (.t 54) (.c (.bool true)) (.t 74), some (44, true)⟩,
 ro 76 (.pick (.t 44) (.t 75) (.c (.bool false)))] [[], [0], [1], [2], [2], [4, 2], [3, 5, 2], [6, 2], [7, 2], [2], [9, 2], [8, 10, 2], [11, 2, 2], [12], [12], [14, 12], [13, 15, 12], [16, 12], [17, 12], [12], [19, 12], [18, 20, 12], [21, 12, 12], [22], [22], [24, 22], [23, 25, 22], [26, 22], [27, 22], [22], [29, 22], [28, 30, 22], [22, 31, 12], [12, 32, 2], [2, 33]] (some [0, 3, 4, 76])) adk) adr
def adt : J := .seq (.seq (.R [ro 19 (.aW 126 (.t 4) 0),
 ro 20 (.aE 9 (.t 19)),
 ro 21 (.call (.f 141) [(.t 20)]),
 ro 22 (.un .not (.t 21)),
 ro 23 (.ab (.t 22)),
 ⟨some 24, .aW 126 (.t 4) 1, some (23, false)⟩,
 ⟨some 25, .aE 9 (.t 24), some (23, false)⟩,
 ⟨some 26, .call (.f 141) [(.t 25)], some (23, false)⟩,
 ⟨some 27, .un .not (.t 26), some (23, false)⟩,
 ro 28 (.pick (.t 23) (.c (.bool true)) (.t 27)),
 ro 29 (.ab (.t 28)),
 ⟨some 30, .aW 126 (.t 4) 2, some (29, false)⟩,
 ⟨some 31, .aE 9 (.t 30), some (29, false)⟩,
 ⟨some 32, .call (.f 141) [(.t 31)], some (29, false)⟩,
 ⟨some 33, .un .not (.t 32), some (29, false)⟩,
 ro 34 (.pick (.t 29) (.c (.bool true)) (.t 33)),
 ro 35 (.ab (.t 34)),
 ⟨some 36, .aW 126 (.t 4) 0, some (35, false)⟩,
 ⟨some 37, .aE 9 (.t 36), some (35, false)⟩,
 ⟨some 38, .aW 126 (.t 4) 1, some (35, false)⟩,
 ⟨some 39, .aE 9 (.t 38), some (35, false)⟩,
 ⟨some 40, .aw .gtr 9 (.t 37) (.t 39), some (35, false)⟩,
 ro 41 (.pick (.t 35) (.c (.bool true)) (.t 40))] (some [0, 3, 4, 41])) adi) ads
def adu : J := .R [ro 13 (.ab (.t 3)),
 ro 14 (.aw .add 3 (.t 13) (.c (.int .i64 1))),
 ro 3 (.ae (.t 14))] (some [0, 3])
def adv : J := .seq (.block 1 (.seq (.R [ro 15 (.ab (.t 0)),
 ro 16 (.ab (.t 3)),
 ro 17 (.bP 34 (.t 15) (.t 16)),
 ro 18 (.aE 126 (.t 17)),
 ro 4 (.eA 126),
 ⟨none, .cK 126 (.t 4) (.t 18), none⟩] (some [0, 3, 4])) adt)) adu
def MK : J := .seq (.seq (.R [ro 9 (.ab (.t 3)),
 ro 10 (.ab (.t 0)),
 ro 11 (.len 34 (.t 10)),
 ro 12 (.aw .lss 3 (.t 9) (.t 11))] (some [0, 3, 12])) adg) adv
def adw : J := .block 0 (.loop MK)
def adx : J := .seq (.R [ro 2 (.ae (.c (.bool true)))] (some [2])) .ret
def ady : J := .seq (.seq (.R [ro 3 (.ae (.c (.int .i64 0)))] (some [0, 3])) adw) adx
def adz : J := .seq (.seq (.R [ro 6 (.ab (.t 0)),
 ro 7 (.len 34 (.t 6)),
 ro 8 (.aw .gtr 3 (.t 7) (.c (.int .i64 6)))] (some [0, 8])) adf) ady
def adA : J := .seq (.R [ro 2 (.ae (.c (.bool false)))] (some [0])) adz
theorem adB : bG ⟨101, [0]⟩ (Tryz.f124.body.getD .skip) = some adA.strip := by kernel_rfl
def adC : J := .cond (.t 7) .skip (.exit 0)
def adD : J := .seq (.R [ro 2 (.ae (.c (.bool false)))] (some [2])) .ret
def adE : J := .cond (.t 15) adD .skip
def adF : J := .R [ro 8 (.ab (.t 3)),
 ro 9 (.aw .add 3 (.t 8) (.c (.int .i64 1))),
 ro 3 (.ae (.t 9))] (some [0, 3])
def adG : J := .seq (.block 1 (.seq (.R [ro 10 (.ab (.t 0)),
 ro 11 (.ab (.t 3)),
 ro 12 (.bP 25 (.t 10) (.t 11)),
 ro 13 (.aE 9 (.t 12)),
 ro 14 (.call (.f 141) [(.t 13)]),
 ro 15 (.un .not (.t 14))] (some [0, 3, 15])) adE)) adF
def ML : J := .seq (.seq (.R [ro 4 (.ab (.t 3)),
 ro 5 (.ab (.t 0)),
 ro 6 (.len 25 (.t 5)),
 ro 7 (.aw .lss 3 (.t 4) (.t 6))] (some [0, 3, 7])) adC) adG
def adH : J := .block 0 (.loop ML)
def adI : J := .seq (.R [ro 2 (.ae (.c (.bool true)))] (some [2])) .ret
def adJ : J := .seq (.seq (.R [ro 3 (.ae (.c (.int .i64 0)))] (some [0, 3])) adH) adI
def adK : J := .seq (.R [ro 2 (.ae (.c (.bool false)))] (some [0])) adJ
theorem adL : bG ⟨16, [0]⟩ (Tryz.f163.body.getD .skip) = some adK.strip := by kernel_rfl
def adM : J := .seq (.R [ro 2 (.ae (.c (.bool false)))] (some [2])) .ret
def adN : J := .cond (.t 11) adM .skip
def adO : J := .cond (.t 15) .skip (.exit 0)
def adP : J := .seq (.R [ro 2 (.ae (.c (.bool false)))] (some [2])) .ret
def adQ : J := .cond (.t 27) adP .skip
def adR : J := .R [ro 16 (.ab (.t 3)),
 ro 17 (.aw .add 3 (.t 16) (.c (.int .i64 1))),
 ro 3 (.ae (.t 17))] (some [0, 3])
def adS : J := .seq (.block 1 (.seq (.g6 [ro 18 (.ab (.t 0)),
 ro 19 (.ab (.t 3)),
 ro 20 (.aw .sub 3 (.t 19) (.c (.int .i64 1))),
 ro 21 (.bP 25 (.t 18) (.t 20)),
 ro 22 (.aE 9 (.t 21)),
 ro 23 (.ab (.t 0)),
 ro 24 (.ab (.t 3)),
 ro 25 (.bP 25 (.t 23) (.t 24)),
 ro 26 (.aE 9 (.t 25)),
 ro 27 (.aw .geq 9 (.t 22) (.t 26))] [[], [], [1], [0, 2], [3], [], [], [5, 6], [7], [4, 8]] (some [0, 3, 27])) adQ)) adR
def MM : J := .seq (.seq (.R [ro 12 (.ab (.t 3)),
 ro 13 (.ab (.t 0)),
 ro 14 (.len 25 (.t 13)),
 ro 15 (.aw .lss 3 (.t 12) (.t 14))] (some [0, 3, 15])) adO) adS
def adT : J := .block 0 (.loop MM)
def adU : J := .seq (.R [ro 2 (.ae (.c (.bool true)))] (some [2])) .ret
def adV : J := .seq (.seq (.R [ro 3 (.ae (.c (.int .i64 1)))] (some [0, 3])) adT) adU
def adW : J := .seq (.seq (.R [ro 4 (.ab (.t 0)),
 ro 5 (.len 25 (.t 4)),
 ro 6 (.aw .gtr 3 (.t 5) (.c (.int .i64 12))),
 ro 7 (.ab (.t 6)),
 ⟨some 8, .ab (.t 0), some (7, false)⟩,
 ⟨some 9, .call (.f 163) [(.t 8)], some (7, false)⟩,
 ⟨some 10, .un .not (.t 9), some (7, false)⟩,
 ro 11 (.pick (.t 7) (.c (.bool true)) (.t 10))] (some [0, 11])) adN) adV
def adX : J := .seq (.R [ro 2 (.ae (.c (.bool false)))] (some [0])) adW
theorem adY : bG ⟨28, [0]⟩ (Tryz.f125.body.getD .skip) = some adX.strip := by kernel_rfl
def adZ : J := .seq (.R [ro 2 (.ae (.c (.int .i64 1)))] (some [2])) .ret
def ad0 : J := .cond (.t 8) adZ .skip
def ad1 : J := .seq (.R [ro 2 (.ae (.c (.int .i64 2)))] (some [2])) .ret
def ad2 : J := .cond (.t 11) ad1 .skip
def ad3 : J := .seq (.R [ro 2 (.ae (.c (.int .i64 3)))] (some [2])) .ret
def ad4 : J := .cond (.t 17) ad3 .skip
def ad5 : J := .seq (.R [ro 2 (.ae (.c (.int .i64 4)))] (some [2])) .ret
def ad6 : J := .cond (.t 23) ad5 .skip
def ad7 : J := .seq (.R [ro 2 (.ae (.c (.int .i64 5)))] (some [2])) .ret
def ad8 : J := .cond (.t 29) ad7 .skip
def ad9 : J := .seq (.R [ro 2 (.ae (.c (.int .i64 0)))] (some [2])) .ret
def ad_ : J := .seq (.seq (.R [ro 24 (.ab (.t 0)),
 ro 25 (.dT (.t 24)),
 ro 26 (.aW 36 (.t 25) 4),
 ro 27 (.aE 25 (.t 26)),
 ro 28 (.call (.f 125) [(.t 27)]),
 ro 29 (.un .not (.t 28))] (some [29])) ad8) ad9
def aea : J := .seq (.seq (.R [ro 18 (.ab (.t 0)),
 ro 19 (.dT (.t 18)),
 ro 20 (.aW 36 (.t 19) 3),
 ro 21 (.aE 25 (.t 20)),
 ro 22 (.call (.f 125) [(.t 21)]),
 ro 23 (.un .not (.t 22))] (some [0, 23])) ad6) ad_
def aeb : J := .seq (.seq (.R [ro 12 (.ab (.t 0)),
 ro 13 (.dT (.t 12)),
 ro 14 (.aW 36 (.t 13) 2),
 ro 15 (.aE 34 (.t 14)),
 ro 16 (.call (.f 124) [(.t 15)]),
 ro 17 (.un .not (.t 16))] (some [0, 17])) ad4) aea
def aec : J := .seq (.seq (.R [ro 9 (.ab (.t 0)),
 ro 10 (.call (.f 123) [(.t 9)]),
 ro 11 (.un .not (.t 10))] (some [0, 11])) ad2) aeb
def aed : J := .seq (.seq (.R [ro 3 (.ab (.t 0)),
 ro 4 (.dT (.t 3)),
 ro 5 (.aW 36 (.t 4) 0),
 ro 6 (.aE 32 (.t 5)),
 ro 7 (.call (.f 122) [(.t 6)]),
 ro 8 (.un .not (.t 7))] (some [0, 8])) ad0) aec
def aee : J := .seq (.R [ro 2 (.ae (.c (.int .i64 0)))] (some [0])) aed
theorem aef : bG ⟨30, [0]⟩ (Tryz.f75.body.getD .skip) = some aee.strip := by kernel_rfl
def aeg : J := .seq (.R [ro 3 (.ab (.t 0)),
 ro 4 (.call (.f 75) [(.t 3)]),
 ro 5 (.aw .eql 2 (.t 4) (.c (.int .i64 0))),
 ro 2 (.ae (.t 5))] (some [2])) .ret
def aeh : J := .seq (.R [ro 2 (.ae (.c (.bool false)))] (some [0])) aeg
theorem aei : bG ⟨6, [0]⟩ (Tryz.f37.body.getD .skip) = some aeh.strip := by kernel_rfl
def aej : J := .cond (.t 12) .skip (.exit 0)
def aek : J := .R [ro 31 (.ab (.t 5)),
 ro 32 (.ab (.t 1)),
 ro 33 (.dJ 43 1 [(0, (.t 32))]),
 ro 34 (.app 43 43 (.t 31) (.t 33)),
 ro 5 (.ae (.t 34))] (some [0, 1, 5, 6, 7])
def ael : J := .cond (.t 30) aek .skip
def aem : J := .seq (.R [ro 25 (.ab (.t 0)),
 ro 26 (.ab (.t 7)),
 ro 27 (.bP 43 (.t 25) (.t 26)),
 ro 28 (.aE 2 (.t 27)),
 ro 29 (.ab (.t 1)),
 ro 30 (.aw .gtr 2 (.t 28) (.t 29))] (some [0, 1, 5, 6, 7, 30])) ael
def aen : J := .seq (.R [ro 6 (.ae (.c (.bool true)))] (some [0, 1, 5, 6, 7])) aem
def aeo : J := .cond (.t 24) aen .skip
def MN : J := .R [ro 35 (.ab (.t 5)),
 ro 36 (.ab (.t 0)),
 ro 37 (.ab (.t 7)),
 ro 38 (.bP 43 (.t 36) (.t 37)),
 ro 39 (.aE 2 (.t 38)),
 ro 40 (.dJ 43 1 [(0, (.t 39))]),
 ro 41 (.app 43 43 (.t 35) (.t 40)),
 ro 5 (.ae (.t 41))] (some [0, 1, 5, 6, 7])
def aep : J := .R [ro 13 (.ab (.t 7)),
 ro 14 (.aw .add 3 (.t 13) (.c (.int .i64 1))),
 ro 7 (.ae (.t 14))] (some [0, 1, 5, 6, 7])
def aeq : J := .seq (.block 1 (.seq (.seq (.R [ro 15 (.ab (.t 6)),
 ro 16 (.un .not (.t 15)),
 ro 17 (.ab (.t 16)),
 ⟨some 18, .ab (.t 0), some (17, true)⟩,
 ⟨some 19, .ab (.t 7), some (17, true)⟩,
 ⟨some 20, .bP 43 (.t 18) (.t 19), some (17, true)⟩,
 ⟨some 21, .aE 2 (.t 20), some (17, true)⟩,
 ⟨some 22, .ab (.t 1), some (17, true)⟩,
 ⟨some 23, .aw .geq 2 (.t 21) (.t 22), some (17, true)⟩,
 ro 24 (.pick (.t 17) (.t 23) (.c (.bool false)))] (some [0, 1, 5, 6, 7, 24])) aeo) MN)) aep
def MO : J := .seq (.seq (.R [ro 9 (.ab (.t 7)),
 ro 10 (.ab (.t 0)),
 ro 11 (.len 43 (.t 10)),
 ro 12 (.aw .lss 3 (.t 9) (.t 11))] (some [0, 1, 5, 6, 7, 12])) aej) aeq
def aer : J := .block 0 (.loop MO)
def aes : J := .R [ro 44 (.ab (.t 5)),
 ro 45 (.ab (.t 1)),
 ro 46 (.dJ 43 1 [(0, (.t 45))]),
 ro 47 (.app 43 43 (.t 44) (.t 46)),
 ro 5 (.ae (.t 47))] (some [5])
def aet : J := .cond (.t 43) aes .skip
def MP : J := .seq (.R [ro 48 (.ab (.t 5)),
 ro 4 (.ae (.t 48))] (some [4])) .ret
def aeu : J := .seq (.seq (.R [ro 42 (.ab (.t 6)),
 ro 43 (.un .not (.t 42))] (some [1, 5, 43])) aet) MP
def aev : J := .seq (.seq (.R [ro 7 (.ae (.c (.int .i64 0)))] (some [0, 1, 5, 6, 7])) aer) aeu
def aew : J := .seq (.R [ro 6 (.ae (.c (.bool false)))] (some [0, 1, 5, 6])) aev
def aex : J := .seq (.R [ro 8 (.dJ 43 0 []),
 ro 5 (.ae (.t 8))] (some [0, 1, 5])) aew
def aey : J := .seq (.R [ro 4 (.ae (.c .bu))] (some [0, 1])) aex
theorem aez : bG ⟨49, [0, 1]⟩ (Tryz.f117.body.getD .skip) = some aey.strip := by kernel_rfl
def aeA : J := .seq (.R [ro 3 (.dJ 43 0 []),
 ro 4 (.ab (.t 0)),
 ro 5 (.app 43 43 (.t 3) (.t 4)),
 ro 2 (.ae (.t 5))] (some [2])) .ret
def aeB : J := .seq (.R [ro 2 (.ae (.c .bu))] (some [0])) aeA
theorem aeC : bG ⟨6, [0]⟩ (Tryz.f91.body.getD .skip) = some aeB.strip := by kernel_rfl
def aeD : J := .cond (.t 9) .skip (.exit 0)
def aeE : J := .R [ro 18 (.ab (.t 3)),
 ro 19 (.ab (.t 0)),
 ro 20 (.ab (.t 4)),
 ro 21 (.bP 117 (.t 19) (.t 20)),
 ro 22 (.aW 122 (.t 21) 1),
 ro 23 (.aE 2 (.t 22)),
 ro 24 (.call (.f 117) [(.t 18), (.t 23)]),
 ro 3 (.ae (.t 24))] (some [0, 3, 4])
def aeF : J := .cond (.t 17) aeE .skip
def MQ : J := .R [ro 10 (.ab (.t 4)),
 ro 11 (.aw .add 3 (.t 10) (.c (.int .i64 1))),
 ro 4 (.ae (.t 11))] (some [0, 3, 4])
def aeG : J := .seq (.block 1 (.seq (.R [ro 12 (.ab (.t 0)),
 ro 13 (.ab (.t 4)),
 ro 14 (.bP 117 (.t 12) (.t 13)),
 ro 15 (.aW 122 (.t 14) 0),
 ro 16 (.aE 2 (.t 15)),
 ro 17 (.aw .eql 2 (.t 16) (.c (.int .i64 5)))] (some [0, 3, 4, 17])) aeF)) MQ
def MR : J := .seq (.seq (.R [ro 6 (.ab (.t 4)),
 ro 7 (.ab (.t 0)),
 ro 8 (.len 117 (.t 7)),
 ro 9 (.aw .lss 3 (.t 6) (.t 8))] (some [0, 3, 4, 9])) aeD) aeG
def aeH : J := .block 0 (.loop MR)
def aeI : J := .seq (.R [ro 25 (.ab (.t 3)),
 ro 2 (.ae (.t 25))] (some [2])) .ret
def aeJ : J := .seq (.seq (.R [ro 4 (.ae (.c (.int .i64 0)))] (some [0, 3, 4])) aeH) aeI
def aeK : J := .seq (.R [ro 5 (.dJ 43 0 []),
 ro 3 (.ae (.t 5))] (some [0, 3])) aeJ
def aeL : J := .seq (.R [ro 2 (.ae (.c .bu))] (some [0])) aeK
theorem aeM : bG ⟨26, [0]⟩ (Tryz.f118.body.getD .skip) = some aeL.strip := by kernel_rfl
def aeN : J := .cond (.t 16) .skip (.exit 0)
def aeO : J := .R [ro 17 (.ab (.t 4)),
 ro 18 (.aw .add 3 (.t 17) (.c (.int .i64 1))),
 ro 4 (.ae (.t 18))] (some [0, 3, 4])
def aeP : J := .seq (.block 1 (.R [ro 19 (.ab (.t 3)),
 ro 20 (.ab (.t 0)),
 ro 21 (.dT (.t 20)),
 ro 22 (.aW 36 (.t 21) 1),
 ro 23 (.aE 33 (.t 22)),
 ro 24 (.ab (.t 4)),
 ro 25 (.bP 33 (.t 23) (.t 24)),
 ro 26 (.aW 124 (.t 25) 0),
 ro 27 (.aE 2 (.t 26)),
 ro 28 (.call (.f 117) [(.t 19), (.t 27)]),
 ro 3 (.ae (.t 28))] (some [0, 3, 4]))) aeO
def MS : J := .seq (.seq (.R [ro 10 (.ab (.t 4)),
 ro 11 (.ab (.t 0)),
 ro 12 (.dT (.t 11)),
 ro 13 (.aW 36 (.t 12) 1),
 ro 14 (.aE 33 (.t 13)),
 ro 15 (.len 33 (.t 14)),
 ro 16 (.aw .lss 3 (.t 10) (.t 15))] (some [0, 3, 4, 16])) aeN) aeP
def aeQ : J := .block 0 (.loop MS)
def aeR : J := .cond (.t 34) .skip (.exit 4)
def aeS : J := .cond (.t 52) .skip (.exit 6)
def aeT : J := .R [ro 53 (.ab (.t 8)),
 ro 54 (.aw .add 3 (.t 53) (.c (.int .i64 1))),
 ro 8 (.ae (.t 54))] (some [0, 3, 5, 6, 7, 8])
def aeU : J := .seq (.block 7 (.R [ro 55 (.ab (.t 5)),
 ro 56 (.ab (.t 7)),
 ro 57 (.ab (.t 8)),
 ro 58 (.bP 43 (.t 56) (.t 57)),
 ro 59 (.aE 2 (.t 58)),
 ro 60 (.call (.f 117) [(.t 55), (.t 59)]),
 ro 5 (.ae (.t 60))] (some [0, 3, 5, 6, 7, 8]))) aeT
def MT : J := .seq (.seq (.R [ro 49 (.ab (.t 8)),
 ro 50 (.ab (.t 7)),
 ro 51 (.len 43 (.t 50)),
 ro 52 (.aw .lss 3 (.t 49) (.t 51))] (some [0, 3, 5, 6, 7, 8, 52])) aeS) aeU
def aeV : J := .block 6 (.loop MT)
def aeW : J := .seq (.R [ro 8 (.ae (.c (.int .i64 0)))] (some [0, 3, 5, 6, 7, 8])) aeV
def aeX : J := .R [ro 35 (.ab (.t 6)),
 ro 36 (.aw .add 3 (.t 35) (.c (.int .i64 1))),
 ro 6 (.ae (.t 36))] (some [0, 3, 5, 6])
def aeY : J := .seq (.block 5 (.seq (.g6 [ro 37 (.ab (.t 0)),
 ro 38 (.dT (.t 37)),
 ro 39 (.aW 36 (.t 38) 0),
 ro 40 (.aE 32 (.t 39)),
 ro 41 (.ab (.t 3)),
 ro 42 (.ab (.t 6)),
 ro 43 (.bP 43 (.t 41) (.t 42)),
 ro 44 (.aE 2 (.t 43)),
 ro 45 (.bP 32 (.t 40) (.t 44)),
 ro 46 (.aW 119 (.t 45) 2),
 ro 47 (.aE 117 (.t 46)),
 ro 48 (.call (.f 118) [(.t 47)]),
 ro 7 (.ae (.t 48))] [[], [0], [1], [2], [], [], [4, 5], [6], [3, 7], [8], [9], [10], [11, 11, 0, 1, 2, 3, 4, 5, 6, 7, 8, 9, 10, 11]] (some [0, 3, 5, 6, 7])) aeW)) aeX
def MU : J := .seq (.seq (.R [ro 31 (.ab (.t 6)),
 ro 32 (.ab (.t 3)),
 ro 33 (.len 43 (.t 32)),
 ro 34 (.aw .lss 3 (.t 31) (.t 33))] (some [0, 3, 5, 6, 34])) aeR) aeY
def aeZ : J := .block 4 (.loop MU)
def ae0 : J := .seq (.R [ro 66 (.ab (.t 3)),
 ro 2 (.ae (.t 66))] (some [2])) .ret
def ae1 : J := .cond (.t 65) ae0 .skip
def ae2 : J := .R [ro 67 (.ab (.t 5)),
 ro 3 (.ae (.t 67))] (some [0, 3])
def ae3 : J := .seq (.seq (.R [ro 61 (.ab (.t 5)),
 ro 62 (.len 43 (.t 61)),
 ro 63 (.ab (.t 3)),
 ro 64 (.len 43 (.t 63)),
 ro 65 (.aw .eql 3 (.t 62) (.t 64))] (some [0, 3, 5, 65])) ae1) ae2
def ae4 : J := .seq (.seq (.R [ro 6 (.ae (.c (.int .i64 0)))] (some [0, 3, 5, 6])) aeZ) ae3
def MV : J := .block 3 (.seq (.R [ro 29 (.ab (.t 3)),
 ro 30 (.call (.f 91) [(.t 29)]),
 ro 5 (.ae (.t 30))] (some [0, 3, 5])) ae4)
def ae5 : J := .block 2 (.loop MV)
def ae6 : J := .seq (.seq (.R [ro 4 (.ae (.c (.int .i64 0)))] (some [0, 3, 4])) aeQ) ae5
def ae7 : J := .seq (.R [ro 9 (.dJ 43 0 []),
 ro 3 (.ae (.t 9))] (some [0, 3])) ae6
def ae8 : J := .seq (.R [ro 2 (.ae (.c .bu))] (some [0])) ae7
theorem ae9 : bG ⟨68, [0]⟩ (Tryz.f70.body.getD .skip) = some ae8.strip := by kernel_rfl
def ae_ : J := .seq (.R [ro 2 (.ae (.c .bu)),
 ro 3 (.ae (.c (.int .i64 1)))] (some [2, 3])) .ret
def afa : J := .cond (.t 5) ae_ .skip
def afb : J := .seq (.R [ro 6 (.call (.f 70) [(.t 1)]),
 ro 2 (.ae (.t 6)),
 ro 3 (.ae (.c (.int .i64 0)))] (some [2, 3])) .ret
def afc : J := .seq (.seq (.R [ro 4 (.call (.f 37) [(.t 1)]),
 ro 5 (.un .not (.t 4))] (some [1, 5])) afa) afb
def afd : J := .seq (.R [ro 1 (.dd 36 (.t 0)),
 ro 2 (.ae (.c .bu)),
 ro 3 (.ae (.c (.int .i64 0)))] (some [1])) afc
theorem afe : bG ⟨7, [0]⟩ (Tryz.f31.body.getD .skip) = some afd.strip := by kernel_rfl
def aff : J := .seq (.R [ro 7 (.ab (.t 0)),
 ro 8 (.ab (.t 1)),
 ro 9 (.aw .geq 2 (.t 7) (.t 8)),
 ro 10 (.ab (.t 9)),
 ⟨some 11, .ab (.t 0), some (10, true)⟩,
 ⟨some 12, .ab (.t 2), some (10, true)⟩,
 ⟨some 13, .aw .leq 2 (.t 11) (.t 12), some (10, true)⟩,
 ro 14 (.pick (.t 10) (.t 13) (.c (.bool false))),
 ro 6 (.ae (.t 14))] (some [6])) .ret
def afg : J := .seq (.R [ro 6 (.ae (.c (.bool false)))] (some [0, 1, 2])) aff
theorem afh : bG ⟨15, [0, 1, 2]⟩ (Tryz.f95.body.getD .skip) = some afg.strip := by kernel_rfl
def afi : J := .seq (.R [ro 3 (.aW 119 (.t 1) 1),
 ro 4 (.aE 2 (.t 3)),
 ro 5 (.call (.f 95) [(.t 4), (.c (.int .i64 0)), (.c (.int .i64 3))]),
 ro 6 (.un .not (.t 5)),
 ro 2 (.ae (.t 6))] (some [2])) .ret
def afj : J := .seq (.R [ro 1 (.dd 119 (.t 0)),
 ro 2 (.ae (.c (.bool false)))] (some [1])) afi
theorem afk : bG ⟨7, [0]⟩ (Tryz.f201.body.getD .skip) = some afj.strip := by kernel_rfl
def afl : J := .seq (.R [ro 17 (.ab (.t 5)),
 ro 4 (.ae (.t 17))] (some [4])) .ret
def afm : J := .cond (.t 16) afl .skip
def afn : J := .seq (.R [ro 11 (.ab (.t 1)),
 ro 12 (.ab (.t 0)),
 ro 13 (.ab (.t 5)),
 ro 14 (.bP 32 (.t 12) (.t 13)),
 ro 15 (.aE 119 (.t 14)),
 ro 16 (.call (.t 11) [(.t 15)])] (some [0, 1, 5, 7, 8, 16])) afm
def afo : J := .R [ro 18 (.aw .add 3 (.t 8) (.c (.int .i64 1))),
 ro 8 (.ab (.t 18))] (some [0, 1, 7, 8])
def afp : J := .seq (.block 1 (.seq (.R [ro 10 (.ab (.t 8)),
 ro 5 (.ae (.t 10))] (some [0, 1, 5, 7, 8])) afn)) afo
def afq : J := .seq (.cond (.t 9) .skip (.exit 0)) afp
def MW : J := .seq (.R [ro 9 (.aw .lss 3 (.t 8) (.t 7))] (some [0, 1, 7, 8, 9])) afq
def afr : J := .block 0 (.loop MW)
def afs : J := .seq (.R [ro 4 (.ae (.c (.int .i64 (-1))))] (some [4])) .ret
def aft : J := .seq (.seq (.R [ro 6 (.ab (.t 0)),
 ro 7 (.len 32 (.t 6)),
 ro 8 (.ab (.c (.int .i64 0)))] (some [0, 1, 7, 8])) afr) afs
def afu : J := .seq (.R [ro 4 (.ae (.c (.int .i64 0)))] (some [0, 1])) aft
theorem afv : bG ⟨19, [0, 1]⟩ (Tryz.f203.body.getD .skip) = some afu.strip := by kernel_rfl
def afw : J := .seq (.R [ro 5 (.ab (.t 0)),
 ro 6 (.ab (.t 1)),
 ro 7 (.call (.f 203) [(.t 5), (.t 6)]),
 ro 8 (.aw .geq 3 (.t 7) (.c (.int .i64 0))),
 ro 4 (.ae (.t 8))] (some [4])) .ret
def afx : J := .seq (.R [ro 4 (.ae (.c (.bool false)))] (some [0, 1])) afw
theorem afy : bG ⟨9, [0, 1]⟩ (Tryz.f200.body.getD .skip) = some afx.strip := by kernel_rfl
def afz : J := .seq (.R [ro 3 (.ab (.t 0)),
 ro 4 (.call (.f 200) [(.t 3), (.f 201)]),
 ro 5 (.un .not (.t 4)),
 ro 2 (.ae (.t 5))] (some [2])) .ret
def afA : J := .seq (.R [ro 2 (.ae (.c (.bool false)))] (some [0])) afz
theorem afB : bG ⟨6, [0]⟩ (Tryz.f165.body.getD .skip) = some afA.strip := by kernel_rfl
def afC : J := .seq (.R [ro 3 (.ab (.t 0)),
 ro 4 (.aw .geq 5 (.t 3) (.c (.int .u8 48))),
 ro 5 (.ab (.t 4)),
 ⟨some 6, .ab (.t 0), some (5, true)⟩,
 ⟨some 7, .aw .leq 5 (.t 6) (.c (.int .u8 57)), some (5, true)⟩,
 ro 8 (.pick (.t 5) (.t 7) (.c (.bool false))),
 ro 2 (.ae (.t 8))] (some [2])) .ret
def afD : J := .seq (.R [ro 2 (.ae (.c (.bool false)))] (some [0])) afC
theorem afE : bG ⟨9, [0]⟩ (Tryz.f202.body.getD .skip) = some afD.strip := by kernel_rfl
def afF : J := .seq (.R [ro 2 (.ae (.c (.bool false)))] (some [2])) .ret
def afG : J := .cond (.t 32) afF .skip
def afH : J := .seq (.R [ro 20 (.ab (.t 4)),
 ro 21 (.un .not (.t 20)),
 ro 22 (.ab (.t 21)),
 ⟨some 23, .ab (.t 3), some (22, true)⟩,
 ⟨some 24, .aw .eql 3 (.t 23) (.c (.int .i64 0)), some (22, true)⟩,
 ⟨some 25, .ab (.t 24), some (22, true)⟩,
 ⟨some 26, .ab (.t 0), some (25, false)⟩,
 ⟨some 27, .ab (.t 3), some (25, false)⟩,
 ⟨some 28, .idx 9 (.t 26) (.t 27), some (25, false)⟩,
 ⟨some 29, .call (.f 202) [(.t 28)], some (25, false)⟩,
 ⟨some 30, .un .not (.t 29), some (25, false)⟩,
 ⟨some 31, .pick (.t 25) (.c (.bool true)) (.t 30), some (22, true)⟩,
 ro 32 (.pick (.t 22) (.t 31) (.c (.bool false)))] (some [0, 6, 7, 32])) afG
def afI : J := .seq (.R [ro 10 (.ab (.t 0)),
 ro 11 (.ab (.t 3)),
 ro 12 (.idx 9 (.t 10) (.t 11)),
 ro 13 (.aw .geq 5 (.t 12) (.c (.int .u8 97))),
 ro 14 (.ab (.t 13)),
 ⟨some 15, .ab (.t 0), some (14, true)⟩,
 ⟨some 16, .ab (.t 3), some (14, true)⟩,
 ⟨some 17, .idx 9 (.t 15) (.t 16), some (14, true)⟩,
 ⟨some 18, .aw .leq 5 (.t 17) (.c (.int .u8 122)), some (14, true)⟩,
 ro 19 (.pick (.t 14) (.t 18) (.c (.bool false))),
 ro 4 (.ae (.t 19))] (some [0, 3, 4, 6, 7])) afH
def afJ : J := .R [ro 33 (.aw .add 3 (.t 7) (.c (.int .i64 1))),
 ro 7 (.ab (.t 33))] (some [0, 6, 7])
def afK : J := .seq (.block 1 (.seq (.R [ro 9 (.ab (.t 7)),
 ro 3 (.ae (.t 9))] (some [0, 3, 6, 7])) afI)) afJ
def afL : J := .seq (.cond (.t 8) .skip (.exit 0)) afK
def MX : J := .seq (.R [ro 8 (.aw .lss 3 (.t 7) (.t 6))] (some [0, 6, 7, 8])) afL
def afM : J := .block 0 (.loop MX)
def afN : J := .seq (.R [ro 34 (.ab (.t 0)),
 ro 35 (.len 9 (.t 34)),
 ro 36 (.aw .geq 3 (.t 35) (.c (.int .i64 1))),
 ro 37 (.ab (.t 36)),
 ⟨some 38, .ab (.t 0), some (37, true)⟩,
 ⟨some 39, .len 9 (.t 38), some (37, true)⟩,
 ⟨some 40, .aw .leq 3 (.t 39) (.c (.int .i64 10)), some (37, true)⟩,
 ro 41 (.pick (.t 37) (.t 40) (.c (.bool false))),
 ro 2 (.ae (.t 41))] (some [2])) .ret
def afO : J := .seq (.seq (.R [ro 5 (.ab (.t 0)),
 ro 6 (.len 9 (.t 5)),
 ro 7 (.ab (.c (.int .i64 0)))] (some [0, 6, 7])) afM) afN
def afP : J := .seq (.R [ro 2 (.ae (.c (.bool false)))] (some [0])) afO
theorem afQ : bG ⟨42, [0]⟩ (Tryz.f166.body.getD .skip) = some afP.strip := by kernel_rfl
def afR : J := .seq (.R [ro 4 (.aW 119 (.t 2) 0),
 ro 5 (.aE 9 (.t 4)),
 ro 6 (.aE 9 (.t 1)),
 ro 7 (.aw .eql 9 (.t 5) (.t 6)),
 ro 3 (.ae (.t 7))] (some [3])) .ret
def afS : J := .seq (.R [ro 2 (.dd 119 (.t 0)),
 ro 3 (.ae (.c (.bool false)))] (some [1, 2])) afR
theorem afT : bG ⟨8, [0, 1]⟩ (Tryz.f204.body.getD .skip) = some afS.strip := by kernel_rfl
def afU : J := .seq (.R [ro 17 (.ab (.t 5)),
 ro 4 (.ae (.t 17))] (some [4])) .ret
def afV : J := .cond (.t 16) afU .skip
def afW : J := .seq (.R [ro 11 (.ab (.t 1)),
 ro 12 (.ab (.t 0)),
 ro 13 (.ab (.t 5)),
 ro 14 (.bP 32 (.t 12) (.t 13)),
 ro 15 (.aE 119 (.t 14)),
 ro 16 (.call (.t 11) [(.t 15)])] (some [0, 1, 5, 7, 8, 16])) afV
def afX : J := .R [ro 18 (.aw .add 3 (.t 8) (.c (.int .i64 1))),
 ro 8 (.ab (.t 18))] (some [0, 1, 7, 8])
def afY : J := .seq (.block 1 (.seq (.R [ro 10 (.ab (.t 8)),
 ro 5 (.ae (.t 10))] (some [0, 1, 5, 7, 8])) afW)) afX
def afZ : J := .seq (.cond (.t 9) .skip (.exit 0)) afY
def MY : J := .seq (.R [ro 9 (.aw .lss 3 (.t 8) (.t 7))] (some [0, 1, 7, 8, 9])) afZ
def af0 : J := .block 0 (.loop MY)
def af1 : J := .seq (.R [ro 4 (.ae (.c (.int .i64 (-1))))] (some [4])) .ret
def af2 : J := .seq (.seq (.R [ro 6 (.ab (.t 0)),
 ro 7 (.len 32 (.t 6)),
 ro 8 (.ab (.c (.int .i64 0)))] (some [0, 1, 7, 8])) af0) af1
def af3 : J := .seq (.R [ro 4 (.ae (.c (.int .i64 0)))] (some [0, 1])) af2
theorem af4 : bG ⟨19, [0, 1]⟩ (Tryz.f203.body.getD .skip) = some af3.strip := by kernel_rfl
def af5 : J := .seq (.R [ro 5 (.ab (.t 0)),
 ro 6 (.ie 204 [(.t 3)]),
 ro 7 (.call (.f 203) [(.t 5), (.t 6)]),
 ro 4 (.ae (.t 7))] (some [4])) .ret
def af6 : J := .seq (.R [ro 3 (.dd 9 (.t 1)),
 ro 4 (.ae (.c (.int .i64 0)))] (some [0, 3])) af5
theorem af7 : bG ⟨8, [0, 1]⟩ (Tryz.f167.body.getD .skip) = some af6.strip := by kernel_rfl
def af8 : J := .R [ro 8 (.aw .eql 2 (.t 4) (.c (.int .i64 4))),
 ro 5 (.ae (.t 8))] (some [4, 5])
def af9 : J := .cond (.t 5) .skip af8
def af_ : J := .seq (.R [ro 7 (.aw .eql 2 (.t 4) (.c (.int .i64 3))),
 ro 5 (.ae (.t 7))] (some [4, 5])) af9
def aga : J := .cond (.t 5) .skip af_
def agb : J := .seq (.R [ro 2 (.ae (.c (.int .i64 1)))] (some [2])) .ret
def agc : J := .seq (.R [ro 2 (.ae (.c (.int .i64 2)))] (some [2])) .ret
def agd : J := .cond (.t 9) agc .skip
def age : J := .seq (.R [ro 10 (.aw .eql 2 (.t 4) (.c (.int .i64 2))),
 ro 9 (.ae (.t 10))] (some [9])) agd
def MZ : J := .cond (.t 5) agb age
def agf : J := .block 0 (.seq (.seq (.R [ro 6 (.aw .eql 2 (.t 4) (.c (.int .i64 1))),
 ro 5 (.ae (.t 6))] (some [4, 5])) aga) MZ)
def agh : J := .seq (.R [ro 2 (.ae (.c (.int .i64 0)))] (some [2])) .ret
def agi : J := .seq (.seq (.R [ro 3 (.aW 122 (.t 1) 0),
 ro 4 (.aE 2 (.t 3))] (some [4])) agf) agh
def agj : J := .seq (.R [ro 1 (.dd 122 (.t 0)),
 ro 2 (.ae (.c (.int .i64 0)))] (some [1])) agi
theorem agk : bG ⟨11, [0]⟩ (Tryz.f134.body.getD .skip) = some agj.strip := by kernel_rfl
def agl : J := .cond (.t 7) .skip (.exit 0)
def agm : J := .seq (.R [ro 4 (.ae (.c (.int .i64 (-1))))] (some [4])) .ret
def agn : J := .cond (.t 14) agm .skip
def ago : J := .R [ro 15 (.ab (.t 5)),
 ro 16 (.aW 119 (.t 2) 2),
 ro 17 (.aE 117 (.t 16)),
 ro 18 (.ab (.t 1)),
 ro 19 (.bP 117 (.t 17) (.t 18)),
 ro 20 (.aE 122 (.t 19)),
 ro 21 (.call (.f 134) [(.t 20)]),
 ro 22 (.aw .sub 3 (.t 21) (.c (.int .i64 1))),
 ro 23 (.aw .add 3 (.t 15) (.t 22)),
 ro 5 (.ae (.t 23))] (some [1, 2, 5])
def agp : J := .R [ro 8 (.ab (.t 1)),
 ro 9 (.aw .add 3 (.t 8) (.c (.int .i64 1))),
 ro 1 (.ae (.t 9))] (some [1, 2, 5])
def agq : J := .seq (.block 1 (.seq (.seq (.R [ro 10 (.ab (.t 1)),
 ro 11 (.aW 119 (.t 2) 2),
 ro 12 (.aE 117 (.t 11)),
 ro 13 (.len 117 (.t 12)),
 ro 14 (.aw .geq 3 (.t 10) (.t 13))] (some [1, 2, 5, 14])) agn) ago)) agp
def M0 : J := .seq (.seq (.R [ro 6 (.ab (.t 5)),
 ro 7 (.aw .gtr 3 (.t 6) (.c (.int .i64 0)))] (some [1, 2, 5, 7])) agl) agq
def agr : J := .block 0 (.loop M0)
def ags : J := .seq (.R [ro 24 (.ab (.t 1)),
 ro 4 (.ae (.t 24))] (some [4])) .ret
def agt : J := .seq (.seq (.R [ro 5 (.ae (.c (.int .i64 1)))] (some [1, 2, 5])) agr) ags
def agu : J := .seq (.R [ro 2 (.dd 119 (.t 0)),
 ro 4 (.ae (.c (.int .i64 0)))] (some [1, 2])) agt
theorem agv : bG ⟨25, [0]⟩ (Tryz.f205.body.getD .skip) = some agu.strip := by kernel_rfl
def agw : J := .R [ro 29 (.aW 132 (.t 9) 0),
 ro 30 (.aE 2 (.t 29)),
 ro 31 (.aw .add 2 (.t 30) (.c (.int .i64 1))),
 ro 32 (.aW 132 (.t 9) 0),
 ⟨none, .cK 2 (.t 32) (.t 31), none⟩] (some [0, 2, 3, 4, 8, 9])
def agx : J := .cond (.t 28) agw .skip
def agy : J := .R [ro 43 (.aw .add 3 (.t 37) (.c (.int .i64 1))),
 ro 37 (.ab (.t 43))] (some [2, 3, 4, 9, 10, 36, 37])
def agz : J := .seq (.block 1 (.iO (FT aG 133 4 2 39 ((List.range 3).map (· + 2)) [ro 40 (.ab (.t 10)), ro 41 (.aE 132 (.t 9))] [(.t 40), (.t 41)] (some 42) [ro 10 (.ae (.t 42))] [2, 3, 4, 9, 10, 36, 37]) (K5 180 4 39 [ro 40 (.ab (.t 10)), ro 41 (.aE 132 (.t 9))] [(.t 40), (.t 41)] (some 42) [ro 10 (.ae (.t 42))]))) agy
def agA : J := .seq (.cond (.t 38) .skip (.exit 0)) agz
def M1 : J := .seq (.R [ro 38 (.aw .lss 3 (.t 37) (.t 36))] (some [2, 3, 4, 9, 10, 36, 37, 38])) agA
def agB : J := .block 0 (.loop M1)
def agC : J := .seq (.R [ro 44 (.ab (.t 10)),
 ro 7 (.ae (.t 44))] (some [2, 3, 4, 7])) .ret
def agD : J := .seq (.seq (.R [ro 35 (.aE 122 (.t 8)),
 ro 36 (.call (.f 134) [(.t 35)]),
 ro 37 (.ab (.c (.int .i64 0)))] (some [2, 3, 4, 9, 10, 36, 37])) agB) agC
def M3 : J := .seq (.R [ro 33 (.ab (.t 0)),
 ro 34 (.aw .add 3 (.t 33) (.c (.int .i64 1))),
 ro 10 (.ae (.t 34))] (some [2, 3, 4, 8, 9, 10])) agD
def agE : J := .seq (.seq (.R [ro 26 (.aW 122 (.t 8) 0),
 ro 27 (.aE 2 (.t 26)),
 ro 28 (.aw .eql 2 (.t 27) (.c (.int .i64 4)))] (some [0, 2, 3, 4, 8, 9, 28])) agx) M3
def agF : J := .seq (.R [ro 20 (.aW 132 (.t 6) 0),
 ro 21 (.aE 2 (.t 20)),
 ro 22 (.aW 122 (.t 8) 0),
 ro 23 (.aE 2 (.t 22)),
 ro 24 (.aw .eql 2 (.t 23) (.c (.int .i64 1))),
 ro 25 (.fX 132 [(0, (.t 21)), (1, (.t 24))]),
 ro 9 (.eA 132),
 ⟨none, .cK 132 (.t 9) (.t 25), none⟩] (some [0, 2, 3, 4, 8, 9])) agE
def agG : J := .seq (.R [ro 15 (.aW 119 (.t 3) 2),
 ro 16 (.aE 117 (.t 15)),
 ro 17 (.ab (.t 0)),
 ro 18 (.bP 117 (.t 16) (.t 17)),
 ro 19 (.aE 122 (.t 18)),
 ro 8 (.eA 122),
 ⟨none, .cK 122 (.t 8) (.t 19), none⟩] (some [0, 2, 3, 4, 6, 8])) agF
def agH : J := .seq (.R [ro 11 (.aE 129 (.t 2)),
 ro 12 (.ab (.t 0)),
 ro 13 (.aE 132 (.t 6)),
 ro 14 (.bP 129 (.t 11) (.t 12)),
 ⟨none, .cK 132 (.t 14) (.t 13), none⟩] (some [0, 2, 3, 4, 6])) agG
def M4 : J := .seq (.R [ro 6 (.dd 132 (.t 1)),
 ro 7 (.ae (.c (.int .i64 0)))] (some [0, 2, 3, 4, 6])) agH
theorem agI : M4.mq (AQ aG 133 [0, 1, 2, 3, 4] 5 2 4) := And.intro (True.intro) (And.intro (True.intro) (And.intro (True.intro) (And.intro (True.intro) (And.intro (And.intro (True.intro) (And.intro (True.intro) (True.intro))) (And.intro (True.intro) (And.intro (And.intro (True.intro) (And.intro (True.intro) (And.intro (And.intro (True.intro) (True.intro)) (And.intro (⟨180, 2, 39, 3, _, _, _, _, _, rfl, rfl, (by kernel_rfl), rfl, rfl, rfl, rfl, rfl, rfl, rfl⟩) (True.intro))))) (And.intro (True.intro) (True.intro))))))))
theorem agJ : bG ⟨45, [0, 1, 2, 3, 4]⟩ (Tryz.f133.body.getD .skip) = some M4.strip := by kernel_rfl
def GL : J := .seq (.R [ro 15 (.aE 129 (.t 3)),
 ro 2 (.ae (.t 15))] (some [2])) .ret
def agK : J := .seq (.R [ro 10 (.aE 180 (.t 4)),
 ro 11 (.aW 119 (.t 1) 1),
 ro 12 (.aE 2 (.t 11)),
 ro 13 (.fX 132 [(0, (.t 12))]),
 ro 14 (.call (.t 10) [(.c (.int .i64 0)), (.t 13)])] (some [3])) GL
def ayH : J := .seq (.R [ro 9 (.ie 133 [(.t 3), (.t 1), (.t 4)]),
 ⟨none, .cK 180 (.t 4) (.t 9), none⟩] (some [1, 3, 4])) agK
def agL : J := .iO (FY aG 133 4 2 10 9 [3, 1, 4] [ro 11 (.aW 119 (.t 1) 1), ro 12 (.aE 2 (.t 11)), ro 13 (.fX 132 [(0, (.t 12))])] [(.c (.int .i64 0)), (.t 13)] (some 14) [3] GL) (K_ 180 133 4 10 9 [3, 1, 4] [ro 11 (.aW 119 (.t 1) 1), ro 12 (.aE 2 (.t 11)), ro 13 (.fX 132 [(0, (.t 12))])] [(.c (.int .i64 0)), (.t 13)] (some 14) GL.kk)
def agM : J := .seq (.R [ro 5 (.aW 119 (.t 1) 2),
 ro 6 (.aE 117 (.t 5)),
 ro 7 (.len 117 (.t 6)),
 ro 8 (.eX 129 (.t 7) (.t 7)),
 ro 3 (.eA 129),
 ⟨none, .cK 129 (.t 3) (.t 8), none⟩] (some [1, 3])) agL
def M5 : J := .seq (.R [ro 1 (.dd 119 (.t 0)),
 ro 2 (.ae (.c .bu))] (some [1])) agM
theorem agN : M5.mq (xz aG) := And.intro (True.intro) (And.intro (True.intro) (⟨180, 133, 4, 2, 10, 9, _, _, _, _, _, _, rfl, rfl, (by kernel_rfl), ⟨Tryz.t180, _, _, (by kernel_rfl), rfl, rfl, rfl, rfl⟩, rfl, rfl, rfl, rfl, (by kernel_rfl)⟩))
theorem agO : bG ⟨16, [0]⟩ (Tryz.f80.body.getD .skip) = some M5.strip := by kernel_rfl
def agP : J := .seq (.R [ro 26 (.aW 122 (.t 1) 0),
 ro 27 (.aE 2 (.t 26)),
 ro 28 (.call (.f 95) [(.t 27), (.c (.int .i64 0)), (.c (.int .i64 5))]),
 ro 29 (.ab (.t 28)),
 ⟨some 30, .ab (.t 3), some (29, true)⟩,
 ⟨some 31, .ab (.t 30), some (29, true)⟩,
 ⟨some 32, .aW 122 (.t 1) 1, some (31, false)⟩,
 ⟨some 33, .aE 2 (.t 32), some (31, false)⟩,
 ⟨some 34, .aw .eql 2 (.t 33) (.c (.int .i64 0)), some (31, false)⟩,
 ⟨some 35, .pick (.t 31) (.c (.bool true)) (.t 34), some (29, true)⟩,
 ro 36 (.pick (.t 29) (.t 35) (.c (.bool false))),
 ro 37 (.ab (.t 36)),
 ⟨some 38, .aW 122 (.t 1) 0, some (37, true)⟩,
 ⟨some 39, .aE 2 (.t 38), some (37, true)⟩,
 ⟨some 40, .aw .eql 2 (.t 39) (.c (.int .i64 1)), some (37, true)⟩,
 ⟨some 41, .ab (.t 40), some (37, true)⟩,
 ⟨some 42, .aW 122 (.t 1) 2, some (41, false)⟩,
 ⟨some 43, .aE 9 (.t 42), some (41, false)⟩,
 ⟨some 44, .aw .eql 9 (.t 43) (.c (.str [])), some (41, false)⟩,
 ⟨some 45, .pick (.t 41) (.c (.bool true)) (.t 44), some (37, true)⟩,
 ro 46 (.pick (.t 37) (.t 45) (.c (.bool false))),
 ro 47 (.ab (.t 46)),
 ⟨some 48, .ab (.t 4), some (47, true)⟩,
 ⟨some 49, .ab (.t 48), some (47, true)⟩,
 ⟨some 50, .aW 122 (.t 1) 3, some (49, false)⟩,
 ⟨some 51, .aE 120 (.t 50), some (49, false)⟩,
 ⟨some 52, .len 120 (.t 51), some (49, false)⟩,
 ⟨some 53, .aw .eql 3 (.t 52) (.c (.int .i64 0)), some (49, false)⟩,
 ⟨some 54, .pick (.t 49) (.c (.bool true)) (.t 53), some (47, true)⟩,
 ro 55 (.pick (.t 47) (.t 54) (.c (.bool false))),
 ro 2 (.ae (.t 55))] (some [2])) .ret
def agQ : J := .seq (.R [ro 13 (.aW 122 (.t 1) 0),
 ro 14 (.aE 2 (.t 13)),
 ro 15 (.aw .eql 2 (.t 14) (.c (.int .i64 1))),
 ro 16 (.ab (.t 15)),
 ⟨some 17, .aW 122 (.t 1) 0, some (16, false)⟩,
 ⟨some 18, .aE 2 (.t 17), some (16, false)⟩,
 ⟨some 19, .aw .eql 2 (.t 18) (.c (.int .i64 3)), some (16, false)⟩,
 ro 20 (.pick (.t 16) (.c (.bool true)) (.t 19)),
 ro 21 (.ab (.t 20)),
 ⟨some 22, .aW 122 (.t 1) 0, some (21, false)⟩,
 ⟨some 23, .aE 2 (.t 22), some (21, false)⟩,
 ⟨some 24, .aw .eql 2 (.t 23) (.c (.int .i64 5)), some (21, false)⟩,
 ro 25 (.pick (.t 21) (.c (.bool true)) (.t 24)),
 ro 4 (.ae (.t 25))] (some [1, 3, 4])) agP
def agR : J := .seq (.R [ro 5 (.aW 122 (.t 1) 0),
 ro 6 (.aE 2 (.t 5)),
 ro 7 (.aw .eql 2 (.t 6) (.c (.int .i64 4))),
 ro 8 (.ab (.t 7)),
 ⟨some 9, .aW 122 (.t 1) 0, some (8, false)⟩,
 ⟨some 10, .aE 2 (.t 9), some (8, false)⟩,
 ⟨some 11, .aw .eql 2 (.t 10) (.c (.int .i64 5)), some (8, false)⟩,
 ro 12 (.pick (.t 8) (.c (.bool true)) (.t 11)),
 ro 3 (.ae (.t 12))] (some [1, 3])) agQ
def agS : J := .seq (.R [ro 1 (.dd 122 (.t 0)),
 ro 2 (.ae (.c (.bool false)))] (some [1])) agR
theorem agT : bG ⟨56, [0]⟩ (Tryz.f219.body.getD .skip) = some agS.strip := by kernel_rfl
def agU : J := .seq (.R [ro 3 (.ab (.t 0)),
 ro 4 (.call (.f 166) [(.t 3)]),
 ro 5 (.ab (.t 4)),
 ⟨some 6, .ab (.t 0), some (5, true)⟩,
 ⟨some 7, .aw .neq 9 (.t 6) (.c (.str [116, 97, 117])), some (5, true)⟩,
 ro 8 (.pick (.t 5) (.t 7) (.c (.bool false))),
 ro 2 (.ae (.t 8))] (some [2])) .ret
def agV : J := .seq (.R [ro 2 (.ae (.c (.bool false)))] (some [0])) agU
theorem agW : bG ⟨9, [0]⟩ (Tryz.f149.body.getD .skip) = some agV.strip := by kernel_rfl
def agX : J := .seq (.R [ro 5 (.ab (.t 0)),
 ro 6 (.ab (.t 1)),
 ro 7 (.aw .sub 2 (.t 6) (.c (.int .i64 1))),
 ro 8 (.call (.f 95) [(.t 5), (.c (.int .i64 0)), (.t 7)]),
 ro 4 (.ae (.t 8))] (some [4])) .ret
def agY : J := .seq (.R [ro 4 (.ae (.c (.bool false)))] (some [0, 1])) agX
theorem agZ : bG ⟨9, [0, 1]⟩ (Tryz.f170.body.getD .skip) = some agY.strip := by kernel_rfl
def ag0 : J := .seq (.R [ro 13 (.ab (.t 5)),
 ro 14 (.aw .eql 3 (.t 13) (.c (.int .i64 0))),
 ro 15 (.ab (.t 14)),
 ⟨some 16, .aW 122 (.t 2) 2, some (15, false)⟩,
 ⟨some 17, .aE 9 (.t 16), some (15, false)⟩,
 ⟨some 18, .aw .neq 9 (.t 17) (.c (.str [116, 97, 117])), some (15, false)⟩,
 ⟨some 19, .ab (.t 18), some (15, false)⟩,
 ⟨some 20, .ab (.t 5), some (19, true)⟩,
 ⟨some 21, .aw .leq 3 (.t 20) (.c (.int .i64 2)), some (19, true)⟩,
 ⟨some 22, .pick (.t 19) (.t 21) (.c (.bool false)), some (15, false)⟩,
 ro 23 (.pick (.t 15) (.c (.bool true)) (.t 22)),
 ro 4 (.ae (.t 23))] (some [4])) .ret
def ag1 : J := .seq (.R [ro 26 (.ab (.t 5)),
 ro 27 (.aw .eql 3 (.t 26) (.c (.int .i64 1))),
 ro 4 (.ae (.t 27))] (some [4])) .ret
def ag2 : J := .seq (.R [ro 30 (.ab (.t 5)),
 ro 31 (.ab (.t 1)),
 ro 32 (.aW 122 (.t 2) 1),
 ro 33 (.aE 2 (.t 32)),
 ro 34 (.bP 32 (.t 31) (.t 33)),
 ro 35 (.aW 119 (.t 34) 1),
 ro 36 (.aE 2 (.t 35)),
 ro 37 (.aw .eql 2 (.t 30) (.t 36)),
 ro 4 (.ae (.t 37))] (some [4])) .ret
def ag3 : J := .cond (.t 28) ag2 .skip
def ag4 : J := .seq (.R [ro 29 (.aw .eql 2 (.t 10) (.c (.int .i64 5))),
 ro 28 (.ae (.t 29))] (some [1, 2, 5, 28])) ag3
def ag5 : J := .cond (.t 24) ag1 ag4
def ag6 : J := .seq (.R [ro 25 (.aw .eql 2 (.t 10) (.c (.int .i64 3))),
 ro 24 (.ae (.t 25))] (some [1, 2, 5, 10, 24])) ag5
def ag7 : J := .cond (.t 11) ag0 ag6
def ag8 : J := .block 0 (.seq (.R [ro 12 (.aw .eql 2 (.t 10) (.c (.int .i64 1))),
 ro 11 (.ae (.t 12))] (some [1, 2, 5, 10, 11])) ag7)
def ag9 : J := .seq (.R [ro 4 (.ae (.c (.bool true)))] (some [4])) .ret
def ag_ : J := .seq (.seq (.R [ro 9 (.aW 122 (.t 2) 0),
 ro 10 (.aE 2 (.t 9))] (some [1, 2, 5, 10])) ag8) ag9
def aha : J := .seq (.R [ro 6 (.aW 122 (.t 2) 3),
 ro 7 (.aE 120 (.t 6)),
 ro 8 (.len 120 (.t 7)),
 ro 5 (.ae (.t 8))] (some [1, 2, 5])) ag_
def ahb : J := .seq (.R [ro 2 (.dd 122 (.t 0)),
 ro 4 (.ae (.c (.bool false)))] (some [1, 2])) aha
theorem ahc : bG ⟨38, [0, 1]⟩ (Tryz.f220.body.getD .skip) = some ahb.strip := by kernel_rfl
def ahd : J := .seq (.R [ro 3 (.ab (.t 0)),
 ro 4 (.call (.f 95) [(.t 3), (.c (.int .i64 0)), (.c (.int .i64 63))]),
 ro 2 (.ae (.t 4))] (some [2])) .ret
def ahe : J := .seq (.R [ro 2 (.ae (.c (.bool false)))] (some [0])) ahd
theorem ahf : bG ⟨5, [0]⟩ (Tryz.f180.body.getD .skip) = some ahe.strip := by kernel_rfl
def ahg : J := .seq (.R [ro 9 (.aW 191 (.t 2) 1),
 ro 10 (.aE 2 (.t 9)),
 ro 11 (.call (.f 180) [(.t 10)]),
 ro 4 (.ae (.t 11))] (some [4])) .ret
def ahh : J := .seq (.R [ro 14 (.aW 191 (.t 2) 1),
 ro 15 (.aE 2 (.t 14)),
 ro 16 (.ab (.t 1)),
 ro 17 (.aw .sub 2 (.t 16) (.c (.int .i64 1))),
 ro 18 (.call (.f 95) [(.t 15), (.c (.int .i64 0)), (.t 17)]),
 ro 4 (.ae (.t 18))] (some [4])) .ret
def ahi : J := .seq (.R [ro 21 (.aW 191 (.t 2) 1),
 ro 22 (.aE 2 (.t 21)),
 ro 23 (.call (.f 95) [(.t 22), (.c (.int .i64 0)), (.c (.int .i64 8))]),
 ro 4 (.ae (.t 23))] (some [4])) .ret
def ahj : J := .seq (.R [ro 26 (.aW 191 (.t 2) 1),
 ro 27 (.aE 2 (.t 26)),
 ro 28 (.aw .eql 2 (.t 27) (.c (.int .i64 0))),
 ro 4 (.ae (.t 28))] (some [4])) .ret
def ahk : J := .cond (.t 24) ahj .skip
def ahl : J := .seq (.R [ro 25 (.aw .eql 2 (.t 6) (.c (.int .i64 3))),
 ro 24 (.ae (.t 25))] (some [2, 24])) ahk
def ahm : J := .cond (.t 19) ahi ahl
def ahn : J := .seq (.R [ro 20 (.aw .eql 2 (.t 6) (.c (.int .i64 2))),
 ro 19 (.ae (.t 20))] (some [2, 6, 19])) ahm
def aho : J := .cond (.t 12) ahh ahn
def ahp : J := .seq (.R [ro 13 (.aw .eql 2 (.t 6) (.c (.int .i64 1))),
 ro 12 (.ae (.t 13))] (some [1, 2, 6, 12])) aho
def ahq : J := .cond (.t 7) ahg ahp
def ahr : J := .block 0 (.seq (.R [ro 8 (.aw .eql 2 (.t 6) (.c (.int .i64 0))),
 ro 7 (.ae (.t 8))] (some [1, 2, 6, 7])) ahq)
def ahs : J := .seq (.R [ro 4 (.ae (.c (.bool false)))] (some [4])) .ret
def aht : J := .seq (.seq (.R [ro 5 (.aW 191 (.t 2) 0),
 ro 6 (.aE 2 (.t 5))] (some [1, 2, 6])) ahr) ahs
def ahu : J := .seq (.R [ro 2 (.dd 191 (.t 0)),
 ro 4 (.ae (.c (.bool false)))] (some [1, 2])) aht
theorem ahv : bG ⟨29, [0, 1]⟩ (Tryz.f182.body.getD .skip) = some ahu.strip := by kernel_rfl
def ahw : J := .seq (.R [ro 2 (.ae (.c (.int .i64 2)))] (some [2])) .ret
def ahx : J := .seq (.R [ro 2 (.ae (.c (.int .i64 1)))] (some [2])) .ret
def ahy : J := .cond (.t 7) ahx .skip
def ahz : J := .seq (.R [ro 8 (.aw .eql 2 (.t 4) (.c (.int .i64 3))),
 ro 7 (.ae (.t 8))] (some [7])) ahy
def ahA : J := .cond (.t 5) ahw ahz
def ahB : J := .block 0 (.seq (.R [ro 6 (.aw .eql 2 (.t 4) (.c (.int .i64 2))),
 ro 5 (.ae (.t 6))] (some [4, 5])) ahA)
def ahC : J := .seq (.R [ro 2 (.ae (.c (.int .i64 0)))] (some [2])) .ret
def ahD : J := .seq (.seq (.R [ro 3 (.aW 191 (.t 1) 0),
 ro 4 (.aE 2 (.t 3))] (some [4])) ahB) ahC
def ahE : J := .seq (.R [ro 1 (.dd 191 (.t 0)),
 ro 2 (.ae (.c (.int .i64 0)))] (some [1])) ahD
theorem ahF : bG ⟨9, [0]⟩ (Tryz.f183.body.getD .skip) = some ahE.strip := by kernel_rfl
def ahG : J := .seq (.R [ro 6 (.ae (.c (.bool false)))] (some [6])) .ret
def ahH : J := .cond (.t 24) ahG .skip
def ahI : J := .seq (.R [ro 6 (.ae (.c (.bool false)))] (some [6])) .ret
def ahJ : J := .cond (.t 38) ahI .skip
def ahK : J := .R [ro 39 (.ab (.t 7)),
 ro 40 (.aE 191 (.t 9)),
 ro 41 (.call (.f 183) [(.t 40)]),
 ro 42 (.aw .sub 3 (.t 41) (.c (.int .i64 1))),
 ro 43 (.aw .add 3 (.t 39) (.t 42)),
 ro 7 (.ae (.t 43))] (some [1, 7, 25, 26, 27])
def ahL : J := .seq (.seq (.R [ro 31 (.ab (.t 7)),
 ro 32 (.aw .eql 3 (.t 31) (.c (.int .i64 0))),
 ro 33 (.ab (.t 32)),
 ⟨some 34, .aE 191 (.t 9), some (33, false)⟩,
 ⟨some 35, .ab (.t 1), some (33, false)⟩,
 ⟨some 36, .call (.f 182) [(.t 34), (.t 35)], some (33, false)⟩,
 ⟨some 37, .un .not (.t 36), some (33, false)⟩,
 ro 38 (.pick (.t 33) (.c (.bool true)) (.t 37))] (some [1, 7, 9, 25, 26, 27, 38])) ahJ) ahK
def ahM : J := .R [ro 44 (.aw .add 3 (.t 27) (.c (.int .i64 1))),
 ro 27 (.ab (.t 44))] (some [1, 7, 25, 26, 27])
def ahN : J := .seq (.block 1 (.seq (.R [ro 29 (.bP 147 (.t 25) (.t 27)),
 ro 30 (.aE 191 (.t 29)),
 ro 9 (.eA 191),
 ⟨none, .cK 191 (.t 9) (.t 30), none⟩] (some [1, 7, 9, 25, 26, 27])) ahL)) ahM
def ahO : J := .seq (.cond (.t 28) .skip (.exit 0)) ahN
def M6 : J := .seq (.R [ro 28 (.aw .lss 3 (.t 27) (.t 26))] (some [1, 7, 25, 26, 27, 28])) ahO
def ahP : J := .block 0 (.loop M6)
def ahQ : J := .seq (.R [ro 45 (.ab (.t 7)),
 ro 46 (.aw .eql 3 (.t 45) (.c (.int .i64 0))),
 ro 6 (.ae (.t 46))] (some [6])) .ret
def ahR : J := .seq (.seq (.R [ro 25 (.ab (.t 0)),
 ro 26 (.len 147 (.t 25)),
 ro 27 (.ab (.c (.int .i64 0)))] (some [1, 7, 25, 26, 27])) ahP) ahQ
def ahS : J := .seq (.R [ro 7 (.ae (.c (.int .i64 1)))] (some [0, 1, 7])) ahR
def ahT : J := .seq (.seq (.R [ro 10 (.ab (.t 1)),
 ro 11 (.call (.f 95) [(.t 10), (.c (.int .i64 0)), (.c (.int .i64 29))]),
 ro 12 (.un .not (.t 11)),
 ro 13 (.ab (.t 12)),
 ⟨some 14, .ab (.t 2), some (13, false)⟩,
 ⟨some 15, .call (.f 95) [(.t 14), (.c (.int .i64 1)), (.c (.int .i64 60))], some (13, false)⟩,
 ⟨some 16, .un .not (.t 15), some (13, false)⟩,
 ro 17 (.pick (.t 13) (.c (.bool true)) (.t 16)),
 ro 18 (.ab (.t 17)),
 ⟨some 19, .ab (.t 0), some (18, false)⟩,
 ⟨some 20, .len 147 (.t 19), some (18, false)⟩,
 ⟨some 21, .ab (.t 2), some (18, false)⟩,
 ⟨some 22, .call (.f 95) [(.t 20), (.c (.int .i64 1)), (.t 21)], some (18, false)⟩,
 ⟨some 23, .un .not (.t 22), some (18, false)⟩,
 ro 24 (.pick (.t 18) (.c (.bool true)) (.t 23))] (some [0, 1, 24])) ahH) ahS
def ahU : J := .seq (.R [ro 6 (.ae (.c (.bool false)))] (some [0, 1, 2])) ahT
theorem ahV : bG ⟨47, [0, 1, 2]⟩ (Tryz.f153.body.getD .skip) = some ahU.strip := by kernel_rfl
def ahW : J := .seq (.R [ro 4 (.ab (.t 0)),
 ro 5 (.aW 132 (.t 1) 0),
 ro 6 (.aE 2 (.t 5)),
 ro 7 (.call (.f 153) [(.t 4), (.t 6), (.c (.int .i64 15))]),
 ro 8 (.un .not (.t 7)),
 ro 3 (.ae (.t 8))] (some [3])) .ret
def ahX : J := .seq (.R [ro 3 (.ae (.c (.bool false)))] (some [0, 1])) ahW
theorem ahY : bG ⟨9, [0, 1]⟩ (Tryz.f221.body.getD .skip) = some ahX.strip := by kernel_rfl
def ahZ : J := .seq (.R [ro 17 (.ab (.t 5)),
 ro 4 (.ae (.t 17))] (some [4])) .ret
def ah0 : J := .cond (.t 16) ahZ .skip
def ah1 : J := .seq (.R [ro 11 (.ab (.t 1)),
 ro 12 (.ab (.t 0)),
 ro 13 (.ab (.t 5)),
 ro 14 (.bP 120 (.t 12) (.t 13)),
 ro 15 (.aE 147 (.t 14)),
 ro 16 (.call (.t 11) [(.t 15)])] (some [0, 1, 5, 7, 8, 16])) ah0
def ah2 : J := .R [ro 18 (.aw .add 3 (.t 8) (.c (.int .i64 1))),
 ro 8 (.ab (.t 18))] (some [0, 1, 7, 8])
def ah3 : J := .seq (.block 1 (.seq (.R [ro 10 (.ab (.t 8)),
 ro 5 (.ae (.t 10))] (some [0, 1, 5, 7, 8])) ah1)) ah2
def ah4 : J := .seq (.cond (.t 9) .skip (.exit 0)) ah3
def M7 : J := .seq (.R [ro 9 (.aw .lss 3 (.t 8) (.t 7))] (some [0, 1, 7, 8, 9])) ah4
def ah5 : J := .block 0 (.loop M7)
def ah6 : J := .seq (.R [ro 4 (.ae (.c (.int .i64 (-1))))] (some [4])) .ret
def ah7 : J := .seq (.seq (.R [ro 6 (.ab (.t 0)),
 ro 7 (.len 120 (.t 6)),
 ro 8 (.ab (.c (.int .i64 0)))] (some [0, 1, 7, 8])) ah5) ah6
def ah8 : J := .seq (.R [ro 4 (.ae (.c (.int .i64 0)))] (some [0, 1])) ah7
theorem ah9 : bG ⟨19, [0, 1]⟩ (Tryz.f181.body.getD .skip) = some ah8.strip := by kernel_rfl
def ah_ : J := .seq (.R [ro 5 (.ab (.t 0)),
 ro 6 (.ab (.t 1)),
 ro 7 (.call (.f 181) [(.t 5), (.t 6)]),
 ro 8 (.aw .geq 3 (.t 7) (.c (.int .i64 0))),
 ro 4 (.ae (.t 8))] (some [4])) .ret
def aia : J := .seq (.R [ro 4 (.ae (.c (.bool false)))] (some [0, 1])) ah_
theorem aib : bG ⟨9, [0, 1]⟩ (Tryz.f150.body.getD .skip) = some aia.strip := by kernel_rfl
def aic : J := .seq (.R [ro 6 (.ae (.c (.int .i64 2)))] (some [6])) .ret
def aid : J := .seq (.R [ro 6 (.ae (.c (.int .i64 3)))] (some [6])) .ret
def aie : J := .seq (.R [ro 6 (.ae (.c (.int .i64 4)))] (some [6])) .ret
def aif : J := .seq (.R [ro 6 (.ae (.c (.int .i64 5)))] (some [6])) .ret
def aih : J := .seq (.R [ro 6 (.ae (.c (.int .i64 6)))] (some [6])) .ret
def aii : J := .seq (.R [ro 6 (.ae (.c (.int .i64 7)))] (some [6])) .ret
def aij : J := .seq (.R [ro 6 (.ae (.c (.int .i64 8)))] (some [6])) .ret
def aik : J := .cond (.t 72) aij .skip
def ail : J := .seq (.R [ro 73 (.aW 122 (.t 3) 3),
 ro 74 (.aE 120 (.t 73)),
 ro 75 (.ie 221 [(.t 5)]),
 ro 76 (.call (.f 150) [(.t 74), (.t 75)]),
 ro 72 (.ae (.t 76))] (some [72])) aik
def aim : J := .cond (.t 63) aii ail
def ain : J := .seq (.R [ro 64 (.aW 122 (.t 3) 0),
 ro 65 (.aE 2 (.t 64)),
 ro 66 (.aw .eql 2 (.t 65) (.c (.int .i64 4))),
 ro 67 (.ab (.t 66)),
 ⟨some 68, .aW 132 (.t 5) 0, some (67, true)⟩,
 ⟨some 69, .aE 2 (.t 68), some (67, true)⟩,
 ⟨some 70, .aw .geq 2 (.t 69) (.c (.int .i64 6)), some (67, true)⟩,
 ro 71 (.pick (.t 67) (.t 70) (.c (.bool false))),
 ro 63 (.ae (.t 71))] (some [3, 5, 63])) aim
def aio : J := .cond (.t 54) aih ain
def aip : J := .seq (.R [ro 55 (.aW 122 (.t 3) 0),
 ro 56 (.aE 2 (.t 55)),
 ro 57 (.aw .eql 2 (.t 56) (.c (.int .i64 5))),
 ro 58 (.ab (.t 57)),
 ⟨some 59, .aW 132 (.t 5) 1, some (58, true)⟩,
 ⟨some 60, .aE 4 (.t 59), some (58, true)⟩,
 ⟨some 61, .un .not (.t 60), some (58, true)⟩,
 ro 62 (.pick (.t 58) (.t 61) (.c (.bool false))),
 ro 54 (.ae (.t 62))] (some [3, 5, 54])) aio
def aiq : J := .cond (.t 49) aif aip
def air : J := .seq (.R [ro 50 (.aE 122 (.t 3)),
 ro 51 (.ab (.t 1)),
 ro 52 (.call (.f 220) [(.t 50), (.t 51)]),
 ro 53 (.un .not (.t 52)),
 ro 49 (.ae (.t 53))] (some [3, 5, 49])) aiq
def M8 : J := .cond (.t 26) aie air
def ais : J := .seq (.R [ro 27 (.aW 122 (.t 3) 0),
 ro 28 (.aE 2 (.t 27)),
 ro 29 (.aw .eql 2 (.t 28) (.c (.int .i64 4))),
 ro 30 (.ab (.t 29)),
 ⟨some 31, .aW 122 (.t 3) 1, some (30, true)⟩,
 ⟨some 32, .aE 2 (.t 31), some (30, true)⟩,
 ⟨some 33, .call (.f 95) [(.t 32), (.c (.int .i64 1)), (.c (.int .i64 7))], some (30, true)⟩,
 ⟨some 34, .un .not (.t 33), some (30, true)⟩,
 ro 35 (.pick (.t 30) (.t 34) (.c (.bool false))),
 ro 36 (.ab (.t 35)),
 ⟨some 37, .aW 122 (.t 3) 0, some (36, false)⟩,
 ⟨some 38, .aE 2 (.t 37), some (36, false)⟩,
 ⟨some 39, .aw .eql 2 (.t 38) (.c (.int .i64 5)), some (36, false)⟩,
 ⟨some 40, .ab (.t 39), some (36, false)⟩,
 ⟨some 41, .aW 122 (.t 3) 1, some (40, true)⟩,
 ⟨some 42, .aE 2 (.t 41), some (40, true)⟩,
 ⟨some 43, .ab (.t 1), some (40, true)⟩,
 ⟨some 44, .len 32 (.t 43), some (40, true)⟩,
 ⟨some 45, .call (.f 170) [(.t 42), (.t 44)], some (40, true)⟩,
 ⟨some 46, .un .not (.t 45), some (40, true)⟩,
 ⟨some 47, .pick (.t 40) (.t 46) (.c (.bool false)), some (36, false)⟩,
 ro 48 (.pick (.t 36) (.c (.bool true)) (.t 47)),
 ro 26 (.ae (.t 48))] (some [1, 3, 5, 26])) M8
def M9 : J := .cond (.t 11) aid ais
def ait : J := .seq (.R [ro 12 (.aW 122 (.t 3) 0),
 ro 13 (.aE 2 (.t 12)),
 ro 14 (.aw .eql 2 (.t 13) (.c (.int .i64 1))),
 ro 15 (.ab (.t 14)),
 ⟨some 16, .aW 122 (.t 3) 2, some (15, true)⟩,
 ⟨some 17, .aE 9 (.t 16), some (15, true)⟩,
 ⟨some 18, .aw .neq 9 (.t 17) (.c (.str [116, 97, 117])), some (15, true)⟩,
 ro 19 (.pick (.t 15) (.t 18) (.c (.bool false))),
 ro 20 (.ab (.t 19)),
 ⟨some 21, .aW 122 (.t 3) 2, some (20, true)⟩,
 ⟨some 22, .aE 9 (.t 21), some (20, true)⟩,
 ⟨some 23, .call (.f 149) [(.t 22)], some (20, true)⟩,
 ⟨some 24, .un .not (.t 23), some (20, true)⟩,
 ro 25 (.pick (.t 20) (.t 24) (.c (.bool false))),
 ro 11 (.ae (.t 25))] (some [1, 3, 5, 11])) M9
def aiu : J := .cond (.t 7) aic ait
def aiv : J := .seq (.R [ro 6 (.ae (.c (.int .i64 0)))] (some [6])) .ret
def aiw : J := .seq (.block 0 (.seq (.R [ro 8 (.aE 122 (.t 3)),
 ro 9 (.call (.f 219) [(.t 8)]),
 ro 10 (.un .not (.t 9)),
 ro 7 (.ae (.t 10))] (some [1, 3, 5, 7])) aiu)) aiv
def aix : J := .seq (.R [ro 3 (.dd 122 (.t 0)),
 ro 5 (.dd 132 (.t 2)),
 ro 6 (.ae (.c (.int .i64 0)))] (some [1, 3, 5])) aiw
theorem aiy : bG ⟨77, [0, 1, 2]⟩ (Tryz.f206.body.getD .skip) = some aix.strip := by kernel_rfl
def aiz : J := .seq (.R [ro 4 (.ae (.c (.int .i64 0))),
 ro 5 (.ae (.c (.int .i64 1)))] (some [4, 5])) .ret
def aiA : J := .cond (.t 22) aiz .skip
def aiB : J := .seq (.R [ro 42 (.ab (.t 7)),
 ro 43 (.ab (.t 9)),
 ro 4 (.ae (.t 42)),
 ro 5 (.ae (.t 43))] (some [4, 5])) .ret
def aiC : J := .cond (.t 41) aiB .skip
def aiD : J := .seq (.R [ro 40 (.ab (.t 9)),
 ro 41 (.aw .neq 2 (.t 40) (.c (.int .i64 0)))] (some [0, 6, 7, 9, 26, 27, 28, 41])) aiC
def aiE : J := .seq (.g6 [ro 33 (.aE 122 (.t 8)),
 ro 34 (.ab (.t 0)),
 ro 35 (.ab (.t 6)),
 ro 36 (.ab (.t 7)),
 ro 37 (.bP 129 (.t 35) (.t 36)),
 ro 38 (.aE 132 (.t 37)),
 ro 39 (.call (.f 206) [(.t 33), (.t 34), (.t 38)]),
 ro 9 (.ae (.t 39))] [[], [], [], [], [2, 3], [4], [0, 1, 5], [6, 6, 0, 1, 2, 3, 4, 5, 6]] (some [0, 6, 7, 9, 26, 27, 28])) aiD
def aiF : J := .R [ro 44 (.aw .add 3 (.t 28) (.c (.int .i64 1))),
 ro 28 (.ab (.t 44))] (some [0, 6, 26, 27, 28])
def aiG : J := .seq (.block 1 (.seq (.R [ro 30 (.ab (.t 28)),
 ro 31 (.bP 117 (.t 26) (.t 28)),
 ro 32 (.aE 122 (.t 31)),
 ro 8 (.eA 122),
 ro 7 (.ae (.t 30)),
 ⟨none, .cK 122 (.t 8) (.t 32), none⟩] (some [0, 6, 7, 8, 26, 27, 28])) aiE)) aiF
def aiH : J := .seq (.cond (.t 29) .skip (.exit 0)) aiG
def M_ : J := .seq (.R [ro 29 (.aw .lss 3 (.t 28) (.t 27))] (some [0, 6, 26, 27, 28, 29])) aiH
def aiI : J := .block 0 (.loop M_)
def aiJ : J := .seq (.R [ro 4 (.ae (.c (.int .i64 0))),
 ro 5 (.ae (.c (.int .i64 0)))] (some [4, 5])) .ret
def aiK : J := .seq (.seq (.R [ro 25 (.aW 119 (.t 3) 2),
 ro 26 (.aE 117 (.t 25)),
 ro 27 (.len 117 (.t 26)),
 ro 28 (.ab (.c (.int .i64 0)))] (some [0, 6, 26, 27, 28])) aiI) aiJ
def aiL : J := .seq (.R [ro 23 (.aE 119 (.t 3)),
 ro 24 (.call (.f 80) [(.t 23)]),
 ro 6 (.ae (.t 24))] (some [0, 3, 6])) aiK
def aiM : J := .seq (.seq (.g6 [ro 10 (.aW 119 (.t 3) 2),
 ro 11 (.aE 117 (.t 10)),
 ro 12 (.len 117 (.t 11)),
 ro 13 (.call (.f 95) [(.t 12), (.c (.int .i64 1)), (.c (.int .i64 20))]),
 ro 14 (.un .not (.t 13)),
 ro 15 (.ab (.t 14)),
 ⟨some 16, .aE 119 (.t 3), some (15, false)⟩,
 ⟨some 17, .call (.f 205) [(.t 16), (.c (.int .i64 0))], some (15, false)⟩,
 ⟨some 18, .aW 119 (.t 3) 2, some (15, false)⟩,
 ⟨some 19, .aE 117 (.t 18), some (15, false)⟩,
 ⟨some 20, .len 117 (.t 19), some (15, false)⟩,
 ⟨some 21, .aw .neq 3 (.t 17) (.t 20), some (15, false)⟩,
 ro 22 (.pick (.t 15) (.c (.bool true)) (.t 21))] [[], [0], [1], [2], [3], [4, 3], [5], [6, 5, 5], [5], [8, 5], [9, 5], [7, 10, 5], [5, 11]] (some [0, 3, 22])) aiA) aiL
def aiN : J := .seq (.R [ro 3 (.dd 119 (.t 1)),
 ro 4 (.ae (.c (.int .i64 0))),
 ro 5 (.ae (.c (.int .i64 0)))] (some [0, 3])) aiM
theorem aiO : bG ⟨45, [0, 1]⟩ (Tryz.f168.body.getD .skip) = some aiN.strip := by kernel_rfl
def aiP : J := .seq (.R [ro 2 (.ae (.c (.bool false)))] (some [2])) .ret
def aiQ : J := .cond (.t 15) aiP .skip
def aiR : J := .seq (.R [ro 2 (.ae (.c (.bool false)))] (some [2])) .ret
def aiS : J := .cond (.t 35) aiR .skip
def aiT : J := .seq (.R [ro 2 (.ae (.c (.bool false)))] (some [2])) .ret
def aiU : J := .cond (.t 43) aiT .skip
def aiV : J := .seq (.R [ro 42 (.ab (.t 6)),
 ro 43 (.aw .neq 2 (.t 42) (.c (.int .i64 0)))] (some [0, 16, 17, 18, 43])) aiU
def aiW : J := .seq (.R [ro 37 (.ab (.t 0)),
 ro 38 (.aE 119 (.t 4)),
 ro 39 (.call (.f 168) [(.t 37), (.t 38)]),
 ro 36 (.ab (.t 39)),
 ro 40 (.ex (.t 36) 0),
 ro 41 (.ex (.t 36) 1),
 ro 5 (.ae (.t 40)),
 ro 6 (.ae (.t 41))] (some [0, 6, 16, 17, 18])) aiV
def aiX : J := .seq (.seq (.g6 [ro 23 (.aW 119 (.t 4) 0),
 ro 24 (.aE 9 (.t 23)),
 ro 25 (.call (.f 166) [(.t 24)]),
 ro 26 (.un .not (.t 25)),
 ro 27 (.ab (.t 26)),
 ⟨some 28, .ab (.t 0), some (27, false)⟩,
 ⟨some 29, .ab (.t 3), some (27, false)⟩,
 ⟨some 30, .fw 32 (.t 28) none (some (.t 29)), some (27, false)⟩,
 ⟨some 31, .aW 119 (.t 4) 0, some (27, false)⟩,
 ⟨some 32, .aE 9 (.t 31), some (27, false)⟩,
 ⟨some 33, .call (.f 167) [(.t 30), (.t 32)], some (27, false)⟩,
 ⟨some 34, .aw .geq 3 (.t 33) (.c (.int .i64 0)), some (27, false)⟩,
 ro 35 (.pick (.t 27) (.c (.bool true)) (.t 34))] [[], [0], [1], [2], [3, 2], [4], [4], [5, 6, 4], [4], [8, 4], [7, 9, 4, 4], [10, 4], [4, 11]] (some [0, 4, 16, 17, 18, 35])) aiS) aiW
def aiY : J := .R [ro 44 (.aw .add 3 (.t 18) (.c (.int .i64 1))),
 ro 18 (.ab (.t 44))] (some [0, 16, 17, 18])
def aiZ : J := .seq (.block 1 (.seq (.R [ro 20 (.ab (.t 18)),
 ro 21 (.bP 32 (.t 16) (.t 18)),
 ro 22 (.aE 119 (.t 21)),
 ro 4 (.eA 119),
 ro 3 (.ae (.t 20)),
 ⟨none, .cK 119 (.t 4) (.t 22), none⟩] (some [0, 3, 4, 16, 17, 18])) aiX)) aiY
def ai0 : J := .seq (.cond (.t 19) .skip (.exit 0)) aiZ
def Na : J := .seq (.R [ro 19 (.aw .lss 3 (.t 18) (.t 17))] (some [0, 16, 17, 18, 19])) ai0
def ai1 : J := .block 0 (.loop Na)
def ai2 : J := .seq (.R [ro 2 (.ae (.c (.bool true)))] (some [2])) .ret
def ai3 : J := .seq (.seq (.R [ro 16 (.ab (.t 0)),
 ro 17 (.len 32 (.t 16)),
 ro 18 (.ab (.c (.int .i64 0)))] (some [0, 16, 17, 18])) ai1) ai2
def ai4 : J := .seq (.seq (.R [ro 7 (.ab (.t 0)),
 ro 8 (.len 32 (.t 7)),
 ro 9 (.call (.f 95) [(.t 8), (.c (.int .i64 1)), (.c (.int .i64 4))]),
 ro 10 (.un .not (.t 9)),
 ro 11 (.ab (.t 10)),
 ⟨some 12, .ab (.t 0), some (11, false)⟩,
 ⟨some 13, .call (.f 165) [(.t 12)], some (11, false)⟩,
 ⟨some 14, .un .not (.t 13), some (11, false)⟩,
 ro 15 (.pick (.t 11) (.c (.bool true)) (.t 14))] (some [0, 15])) aiQ) ai3
def ai5 : J := .seq (.R [ro 2 (.ae (.c (.bool false)))] (some [0])) ai4
theorem ai6 : bG ⟨45, [0]⟩ (Tryz.f127.body.getD .skip) = some ai5.strip := by kernel_rfl
def ai7 : J := .seq (.R [ro 3 (.ab (.t 0)),
 ro 4 (.call (.f 180) [(.t 3)]),
 ro 5 (.un .not (.t 4)),
 ro 2 (.ae (.t 5))] (some [2])) .ret
def ai8 : J := .seq (.R [ro 2 (.ae (.c (.bool false)))] (some [0])) ai7
theorem ai9 : bG ⟨6, [0]⟩ (Tryz.f179.body.getD .skip) = some ai8.strip := by kernel_rfl
def ai_ : J := .seq (.R [ro 17 (.ab (.t 5)),
 ro 4 (.ae (.t 17))] (some [4])) .ret
def aja : J := .cond (.t 16) ai_ .skip
def ajb : J := .seq (.R [ro 11 (.ab (.t 1)),
 ro 12 (.ab (.t 0)),
 ro 13 (.ab (.t 5)),
 ro 14 (.bP 43 (.t 12) (.t 13)),
 ro 15 (.aE 2 (.t 14)),
 ro 16 (.call (.t 11) [(.t 15)])] (some [0, 1, 5, 7, 8, 16])) aja
def ajc : J := .R [ro 18 (.aw .add 3 (.t 8) (.c (.int .i64 1))),
 ro 8 (.ab (.t 18))] (some [0, 1, 7, 8])
def ajd : J := .seq (.block 1 (.seq (.R [ro 10 (.ab (.t 8)),
 ro 5 (.ae (.t 10))] (some [0, 1, 5, 7, 8])) ajb)) ajc
def aje : J := .seq (.cond (.t 9) .skip (.exit 0)) ajd
def Nb : J := .seq (.R [ro 9 (.aw .lss 3 (.t 8) (.t 7))] (some [0, 1, 7, 8, 9])) aje
def ajf : J := .block 0 (.loop Nb)
def ajg : J := .seq (.R [ro 4 (.ae (.c (.int .i64 (-1))))] (some [4])) .ret
def ajh : J := .seq (.seq (.R [ro 6 (.ab (.t 0)),
 ro 7 (.len 43 (.t 6)),
 ro 8 (.ab (.c (.int .i64 0)))] (some [0, 1, 7, 8])) ajf) ajg
def aji : J := .seq (.R [ro 4 (.ae (.c (.int .i64 0)))] (some [0, 1])) ajh
theorem ajj : bG ⟨19, [0, 1]⟩ (Tryz.f209.body.getD .skip) = some aji.strip := by kernel_rfl
def ajk : J := .seq (.R [ro 5 (.ab (.t 0)),
 ro 6 (.ab (.t 1)),
 ro 7 (.call (.f 209) [(.t 5), (.t 6)]),
 ro 8 (.aw .geq 3 (.t 7) (.c (.int .i64 0))),
 ro 4 (.ae (.t 8))] (some [4])) .ret
def ajl : J := .seq (.R [ro 4 (.ae (.c (.bool false)))] (some [0, 1])) ajk
theorem ajm : bG ⟨9, [0, 1]⟩ (Tryz.f178.body.getD .skip) = some ajl.strip := by kernel_rfl
def ajn : J := .seq (.R [ro 3 (.ab (.t 0)),
 ro 4 (.call (.f 178) [(.t 3), (.f 179)]),
 ro 5 (.un .not (.t 4)),
 ro 2 (.ae (.t 5))] (some [2])) .ret
def ajo : J := .seq (.R [ro 2 (.ae (.c (.bool false)))] (some [0])) ajn
theorem ajp : bG ⟨6, [0]⟩ (Tryz.f146.body.getD .skip) = some ajo.strip := by kernel_rfl
def ajq : J := .seq (.g6 [ro 5 (.aW 124 (.t 3) 0),
 ro 6 (.aE 2 (.t 5)),
 ro 7 (.ab (.t 0)),
 ro 8 (.len 32 (.t 7)),
 ro 9 (.call (.f 170) [(.t 6), (.t 8)]),
 ro 10 (.ab (.t 9)),
 ⟨some 11, .aW 124 (.t 3) 1, some (10, true)⟩,
 ⟨some 12, .aE 43 (.t 11), some (10, true)⟩,
 ⟨some 13, .len 43 (.t 12), some (10, true)⟩,
 ⟨some 14, .ab (.t 0), some (10, true)⟩,
 ⟨some 15, .aW 124 (.t 3) 0, some (10, true)⟩,
 ⟨some 16, .aE 2 (.t 15), some (10, true)⟩,
 ⟨some 17, .bP 32 (.t 14) (.t 16), some (10, true)⟩,
 ⟨some 18, .aW 119 (.t 17) 1, some (10, true)⟩,
 ⟨some 19, .aE 2 (.t 18), some (10, true)⟩,
 ⟨some 20, .aw .eql 2 (.t 13) (.t 19), some (10, true)⟩,
 ro 21 (.pick (.t 10) (.t 20) (.c (.bool false))),
 ro 22 (.ab (.t 21)),
 ⟨some 23, .aW 124 (.t 3) 1, some (22, true)⟩,
 ⟨some 24, .aE 43 (.t 23), some (22, true)⟩,
 ⟨some 25, .call (.f 146) [(.t 24)], some (22, true)⟩,
 ro 26 (.pick (.t 22) (.t 25) (.c (.bool false))),
 ro 4 (.ae (.t 26))] [[], [0], [], [2], [1, 3], [4, 4], [5], [6, 5], [7, 5], [5], [5], [10, 5], [9, 11, 5], [12, 5], [13, 5], [8, 14, 5], [5, 15], [16, 5], [17], [18, 17], [19, 17, 17], [17, 20], [21, 20, 0, 1, 2, 3, 4, 5, 6, 7, 8, 9, 10, 11, 12, 13, 14, 15, 16, 17, 18, 19, 20, 21]] (some [4])) .ret
def ajr : J := .seq (.R [ro 3 (.dd 124 (.t 1)),
 ro 4 (.ae (.c (.bool false)))] (some [0, 3])) ajq
theorem ajs : bG ⟨27, [0, 1]⟩ (Tryz.f130.body.getD .skip) = some ajr.strip := by kernel_rfl
def ajt : J := .seq (.R [ro 4 (.aW 36 (.t 1) 0),
 ro 5 (.aE 32 (.t 4)),
 ro 6 (.aE 124 (.t 2)),
 ro 7 (.call (.f 130) [(.t 5), (.t 6)]),
 ro 8 (.un .not (.t 7)),
 ro 3 (.ae (.t 8))] (some [3])) .ret
def aju : J := .seq (.R [ro 2 (.dd 124 (.t 0)),
 ro 3 (.ae (.c (.bool false)))] (some [1, 2])) ajt
theorem ajv : bG ⟨9, [0, 1]⟩ (Tryz.f129.body.getD .skip) = some aju.strip := by kernel_rfl
def ajw : J := .seq (.R [ro 17 (.ab (.t 5)),
 ro 4 (.ae (.t 17))] (some [4])) .ret
def ajx : J := .cond (.t 16) ajw .skip
def ajy : J := .seq (.R [ro 11 (.ab (.t 1)),
 ro 12 (.ab (.t 0)),
 ro 13 (.ab (.t 5)),
 ro 14 (.bP 33 (.t 12) (.t 13)),
 ro 15 (.aE 124 (.t 14)),
 ro 16 (.call (.t 11) [(.t 15)])] (some [0, 1, 5, 7, 8, 16])) ajx
def ajz : J := .R [ro 18 (.aw .add 3 (.t 8) (.c (.int .i64 1))),
 ro 8 (.ab (.t 18))] (some [0, 1, 7, 8])
def ajA : J := .seq (.block 1 (.seq (.R [ro 10 (.ab (.t 8)),
 ro 5 (.ae (.t 10))] (some [0, 1, 5, 7, 8])) ajy)) ajz
def ajB : J := .seq (.cond (.t 9) .skip (.exit 0)) ajA
def Nc : J := .seq (.R [ro 9 (.aw .lss 3 (.t 8) (.t 7))] (some [0, 1, 7, 8, 9])) ajB
def ajC : J := .block 0 (.loop Nc)
def ajD : J := .seq (.R [ro 4 (.ae (.c (.int .i64 (-1))))] (some [4])) .ret
def ajE : J := .seq (.seq (.R [ro 6 (.ab (.t 0)),
 ro 7 (.len 33 (.t 6)),
 ro 8 (.ab (.c (.int .i64 0)))] (some [0, 1, 7, 8])) ajC) ajD
def ajF : J := .seq (.R [ro 4 (.ae (.c (.int .i64 0)))] (some [0, 1])) ajE
theorem ajG : bG ⟨19, [0, 1]⟩ (Tryz.f169.body.getD .skip) = some ajF.strip := by kernel_rfl
def ajH : J := .seq (.R [ro 5 (.ab (.t 0)),
 ro 6 (.ab (.t 1)),
 ro 7 (.call (.f 169) [(.t 5), (.t 6)]),
 ro 8 (.aw .geq 3 (.t 7) (.c (.int .i64 0))),
 ro 4 (.ae (.t 8))] (some [4])) .ret
def ajI : J := .seq (.R [ro 4 (.ae (.c (.bool false)))] (some [0, 1])) ajH
theorem ajJ : bG ⟨9, [0, 1]⟩ (Tryz.f128.body.getD .skip) = some ajI.strip := by kernel_rfl
def ajK : J := .seq (.R [ro 3 (.ab (.t 0)),
 ro 4 (.ab (.t 0)),
 ro 5 (.aw .neq 9 (.t 3) (.t 4)),
 ro 2 (.ae (.t 5))] (some [2])) .ret
def ajL : J := .seq (.R [ro 2 (.ae (.c (.bool false)))] (some [0])) ajK
theorem ajM : bG ⟨6, [0]⟩ (Tryz.f225.body.getD .skip) = some ajL.strip := by kernel_rfl
def ajN : J := .seq (.R [ro 4 (.ae (.c (.int .i64 0)))] (some [4])) .ret
def ajO : J := .cond (.t 12) ajN .skip
def ajP : J := .seq (.R [ro 4 (.ae (.c (.int .i64 (-1))))] (some [4])) .ret
def ajQ : J := .seq (.seq (.R [ro 12 (.ab (.t 6))] (some [12])) ajO) ajP
def ajR : J := .cond (.t 11) ajQ .skip
def ajS : J := .seq (.R [ro 4 (.ae (.c (.int .i64 1)))] (some [4])) .ret
def ajT : J := .cond (.t 13) ajS .skip
def ajU : J := .seq (.R [ro 4 (.ae (.c (.int .i64 (-1))))] (some [4])) .ret
def ajV : J := .cond (.t 16) ajU .skip
def ajW : J := .seq (.R [ro 4 (.ae (.c (.int .i64 1)))] (some [4])) .ret
def ajX : J := .cond (.t 19) ajW .skip
def ajY : J := .seq (.R [ro 4 (.ae (.c (.int .i64 0)))] (some [4])) .ret
def ajZ : J := .seq (.seq (.R [ro 17 (.ab (.t 0)),
 ro 18 (.ab (.t 1)),
 ro 19 (.aw .gtr 9 (.t 17) (.t 18))] (some [19])) ajX) ajY
def aj0 : J := .seq (.seq (.R [ro 14 (.ab (.t 0)),
 ro 15 (.ab (.t 1)),
 ro 16 (.aw .lss 9 (.t 14) (.t 15))] (some [0, 1, 16])) ajV) ajZ
def aj1 : J := .seq (.seq (.R [ro 13 (.ab (.t 6))] (some [0, 1, 13])) ajT) aj0
def aj2 : J := .seq (.seq (.R [ro 11 (.ab (.t 5))] (some [0, 1, 6, 11])) ajR) aj1
def aj3 : J := .seq (.R [ro 9 (.ab (.t 1)),
 ro 10 (.call (.f 225) [(.t 9)]),
 ro 6 (.ae (.t 10))] (some [0, 1, 5, 6])) aj2
def aj4 : J := .seq (.R [ro 7 (.ab (.t 0)),
 ro 8 (.call (.f 225) [(.t 7)]),
 ro 5 (.ae (.t 8))] (some [0, 1, 5])) aj3
def aj5 : J := .seq (.R [ro 4 (.ae (.c (.int .i64 0)))] (some [0, 1])) aj4
theorem aj6 : bG ⟨20, [0, 1]⟩ (Tryz.f222.body.getD .skip) = some aj5.strip := by kernel_rfl
def aj7 : J := .seq (.R [ro 4 (.ae (.c (.int .i64 1)))] (some [4])) .ret
def aj8 : J := .cond (.t 19) aj7 .skip
def aj9 : J := .seq (.R [ro 29 (.ab (.t 8)),
 ro 4 (.ae (.t 29))] (some [4])) .ret
def aj_ : J := .cond (.t 28) aj9 .skip
def aka : J := .seq (.R [ro 27 (.ab (.t 8)),
 ro 28 (.aw .neq 3 (.t 27) (.c (.int .i64 0)))] (some [0, 1, 8, 9, 10, 11, 28])) aj_
def akb : J := .seq (.R [ro 24 (.ab (.t 6)),
 ro 25 (.ab (.t 7)),
 ro 26 (.call (.f 222) [(.t 24), (.t 25)]),
 ro 8 (.ae (.t 26))] (some [0, 1, 8, 9, 10, 11])) aka
def akc : J := .seq (.R [ro 20 (.ab (.t 1)),
 ro 21 (.ab (.t 5)),
 ro 22 (.bP 25 (.t 20) (.t 21)),
 ro 23 (.aE 9 (.t 22)),
 ro 7 (.ae (.t 23))] (some [0, 1, 6, 7, 9, 10, 11])) akb
def akd : J := .seq (.seq (.R [ro 16 (.ab (.t 5)),
 ro 17 (.ab (.t 1)),
 ro 18 (.len 25 (.t 17)),
 ro 19 (.aw .geq 3 (.t 16) (.t 18))] (some [0, 1, 5, 6, 9, 10, 11, 19])) aj8) akc
def ake : J := .R [ro 30 (.aw .add 3 (.t 11) (.c (.int .i64 1))),
 ro 11 (.ab (.t 30))] (some [0, 1, 9, 10, 11])
def akf : J := .seq (.block 1 (.seq (.R [ro 13 (.ab (.t 11)),
 ro 14 (.bP 25 (.t 9) (.t 11)),
 ro 15 (.aE 9 (.t 14)),
 ro 5 (.ae (.t 13)),
 ro 6 (.ae (.t 15))] (some [0, 1, 5, 6, 9, 10, 11])) akd)) ake
def akg : J := .seq (.cond (.t 12) .skip (.exit 0)) akf
def Nd : J := .seq (.R [ro 12 (.aw .lss 3 (.t 11) (.t 10))] (some [0, 1, 9, 10, 11, 12])) akg
def akh : J := .block 0 (.loop Nd)
def aki : J := .seq (.R [ro 4 (.ae (.c (.int .i64 (-1))))] (some [4])) .ret
def akj : J := .cond (.t 35) aki .skip
def akk : J := .seq (.R [ro 4 (.ae (.c (.int .i64 0)))] (some [4])) .ret
def akl : J := .seq (.seq (.R [ro 31 (.ab (.t 0)),
 ro 32 (.len 25 (.t 31)),
 ro 33 (.ab (.t 1)),
 ro 34 (.len 25 (.t 33)),
 ro 35 (.aw .lss 3 (.t 32) (.t 34))] (some [35])) akj) akk
def akm : J := .seq (.seq (.R [ro 9 (.ab (.t 0)),
 ro 10 (.len 25 (.t 9)),
 ro 11 (.ab (.c (.int .i64 0)))] (some [0, 1, 9, 10, 11])) akh) akl
def akn : J := .seq (.R [ro 4 (.ae (.c (.int .i64 0)))] (some [0, 1])) akm
theorem ako : bG ⟨36, [0, 1]⟩ (Tryz.f207.body.getD .skip) = some akn.strip := by kernel_rfl
def akp : J := .seq (.R [ro 5 (.aW 126 (.t 2) 0),
 ro 6 (.aE 9 (.t 5)),
 ro 7 (.aW 126 (.t 2) 1),
 ro 8 (.aE 9 (.t 7)),
 ro 9 (.dJ 25 2 [(0, (.t 6)), (1, (.t 8))]),
 ro 10 (.aW 126 (.t 3) 0),
 ro 11 (.aE 9 (.t 10)),
 ro 12 (.aW 126 (.t 3) 1),
 ro 13 (.aE 9 (.t 12)),
 ro 14 (.dJ 25 2 [(0, (.t 11)), (1, (.t 13))]),
 ro 15 (.call (.f 207) [(.t 9), (.t 14)]),
 ro 4 (.ae (.t 15))] (some [4])) .ret
def akq : J := .seq (.R [ro 2 (.dd 126 (.t 0)),
 ro 3 (.dd 126 (.t 1)),
 ro 4 (.ae (.c (.int .i64 0)))] (some [2, 3])) akp
theorem akr : bG ⟨16, [0, 1]⟩ (Tryz.f171.body.getD .skip) = some akq.strip := by kernel_rfl
def aks : J := .seq (.R [ro 4 (.aW 126 (.t 2) 0),
 ro 5 (.aE 9 (.t 4)),
 ro 6 (.aW 126 (.t 1) 2),
 ro 7 (.aE 9 (.t 6)),
 ro 8 (.aw .eql 9 (.t 5) (.t 7)),
 ro 9 (.ab (.t 8)),
 ⟨some 10, .aW 126 (.t 2) 1, some (9, false)⟩,
 ⟨some 11, .aE 9 (.t 10), some (9, false)⟩,
 ⟨some 12, .aW 126 (.t 1) 2, some (9, false)⟩,
 ⟨some 13, .aE 9 (.t 12), some (9, false)⟩,
 ⟨some 14, .aw .eql 9 (.t 11) (.t 13), some (9, false)⟩,
 ro 15 (.pick (.t 9) (.c (.bool true)) (.t 14)),
 ro 3 (.ae (.t 15))] (some [3])) .ret
def akt : J := .seq (.R [ro 2 (.dd 126 (.t 0)),
 ro 3 (.ae (.c (.bool false)))] (some [1, 2])) aks
theorem aku : bG ⟨16, [0, 1]⟩ (Tryz.f173.body.getD .skip) = some akt.strip := by kernel_rfl
def akv : J := .seq (.R [ro 17 (.ab (.t 5)),
 ro 4 (.ae (.t 17))] (some [4])) .ret
def akw : J := .cond (.t 16) akv .skip
def akx : J := .seq (.R [ro 11 (.ab (.t 1)),
 ro 12 (.ab (.t 0)),
 ro 13 (.ab (.t 5)),
 ro 14 (.bP 34 (.t 12) (.t 13)),
 ro 15 (.aE 126 (.t 14)),
 ro 16 (.call (.t 11) [(.t 15)])] (some [0, 1, 5, 7, 8, 16])) akw
def aky : J := .R [ro 18 (.aw .add 3 (.t 8) (.c (.int .i64 1))),
 ro 8 (.ab (.t 18))] (some [0, 1, 7, 8])
def akz : J := .seq (.block 1 (.seq (.R [ro 10 (.ab (.t 8)),
 ro 5 (.ae (.t 10))] (some [0, 1, 5, 7, 8])) akx)) aky
def akA : J := .seq (.cond (.t 9) .skip (.exit 0)) akz
def Nf : J := .seq (.R [ro 9 (.aw .lss 3 (.t 8) (.t 7))] (some [0, 1, 7, 8, 9])) akA
def akB : J := .block 0 (.loop Nf)
def akC : J := .seq (.R [ro 4 (.ae (.c (.int .i64 (-1))))] (some [4])) .ret
def akD : J := .seq (.seq (.R [ro 6 (.ab (.t 0)),
 ro 7 (.len 34 (.t 6)),
 ro 8 (.ab (.c (.int .i64 0)))] (some [0, 1, 7, 8])) akB) akC
def akE : J := .seq (.R [ro 4 (.ae (.c (.int .i64 0)))] (some [0, 1])) akD
theorem akF : bG ⟨19, [0, 1]⟩ (Tryz.f208.body.getD .skip) = some akE.strip := by kernel_rfl
def akG : J := .seq (.R [ro 5 (.ab (.t 0)),
 ro 6 (.ab (.t 1)),
 ro 7 (.call (.f 208) [(.t 5), (.t 6)]),
 ro 8 (.aw .geq 3 (.t 7) (.c (.int .i64 0))),
 ro 4 (.ae (.t 8))] (some [4])) .ret
def akH : J := .seq (.R [ro 4 (.ae (.c (.bool false)))] (some [0, 1])) akG
theorem akI : bG ⟨9, [0, 1]⟩ (Tryz.f172.body.getD .skip) = some akH.strip := by kernel_rfl
def akJ : J := .seq (.R [ro 2 (.ae (.c (.bool false)))] (some [2])) .ret
def akK : J := .cond (.t 48) akJ .skip
def akL : J := .seq (.R [ro 2 (.ae (.c (.bool false)))] (some [2])) .ret
def akM : J := .cond (.t 51) akL .skip
def akN : J := .seq (.R [ro 49 (.ab (.t 0)),
 ro 50 (.ie 173 [(.t 4)]),
 ro 51 (.call (.f 172) [(.t 49), (.t 50)])] (some [0, 5, 6, 7, 51])) akM
def akO : J := .seq (.seq (.g6 [ro 12 (.aW 126 (.t 4) 0),
 ro 13 (.aE 9 (.t 12)),
 ro 14 (.call (.f 149) [(.t 13)]),
 ro 15 (.un .not (.t 14)),
 ro 16 (.ab (.t 15)),
 ⟨some 17, .aW 126 (.t 4) 1, some (16, false)⟩,
 ⟨some 18, .aE 9 (.t 17), some (16, false)⟩,
 ⟨some 19, .call (.f 149) [(.t 18)], some (16, false)⟩,
 ⟨some 20, .un .not (.t 19), some (16, false)⟩,
 ro 21 (.pick (.t 16) (.c (.bool true)) (.t 20)),
 ro 22 (.ab (.t 21)),
 ⟨some 23, .aW 126 (.t 4) 2, some (22, false)⟩,
 ⟨some 24, .aE 9 (.t 23), some (22, false)⟩,
 ⟨some 25, .call (.f 149) [(.t 24)], some (22, false)⟩,
 ⟨some 26, .un .not (.t 25), some (22, false)⟩,
 ro 27 (.pick (.t 22) (.c (.bool true)) (.t 26)),
 ro 28 (.ab (.t 27)),
 ⟨some 29, .aW 126 (.t 4) 0, some (28, false)⟩,
 ⟨some 30, .aE 9 (.t 29), some (28, false)⟩,
 ⟨some 31, .aW 126 (.t 4) 1, some (28, false)⟩,
 ⟨some 32, .aE 9 (.t 31), some (28, false)⟩,
 ⟨some 33, .aw .gtr 9 (.t 30) (.t 32), some (28, false)⟩,
 ro 34 (.pick (.t 28) (.c (.bool true)) (.t 33)),
 ro 35 (.ab (.t 34)),
 ⟨some 36, .ab (.t 3), some (35, false)⟩,
 ⟨some 37, .aw .gtr 3 (.t 36) (.c (.int .i64 0)), some (35, false)⟩,
 ⟨some 38, .ab (.t 37), some (35, false)⟩,
 ⟨some 39, .ab (.t 0), some (38, true)⟩,
 ⟨some 40, .ab (.t 3), some (38, true)⟩,
 ⟨some 41, .aw .sub 3 (.t 40) (.c (.int .i64 1)), some (38, true)⟩,
 ⟨some 42, .bP 34 (.t 39) (.t 41), some (38, true)⟩,
 ⟨some 43, .aE 126 (.t 42), some (38, true)⟩,
 ⟨some 44, .aE 126 (.t 4), some (38, true)⟩,
 ⟨some 45, .call (.f 171) [(.t 43), (.t 44)], some (38, true)⟩,
 ⟨some 46, .aw .geq 3 (.t 45) (.c (.int .i64 0)), some (38, true)⟩,
 ⟨some 47, .pick (.t 38) (.t 46) (.c (.bool false)), some (35, false)⟩,
 ro 48 (.pick (.t 35) (.c (.bool true)) (.t 47))] [[], [0], [1], [2], [3, 2], [4], [5, 4], [6, 4, 4], [7, 4], [4, 8], [9, 7], [10], [11, 10], [12, 10, 10], [13, 10], [10, 14], [15, 13], [16], [17, 16], [16], [19, 16], [18, 20, 16], [16, 21], [22, 16], [23], [24, 23], [25, 23, 23], [26], [26], [28, 26], [27, 29, 26], [30, 26], [26], [31, 32, 26, 26], [33, 26], [26, 34, 23], [23, 35]] (some [0, 4, 5, 6, 7, 48])) akK) akN
def akP : J := .R [ro 52 (.aw .add 3 (.t 7) (.c (.int .i64 1))),
 ro 7 (.ab (.t 52))] (some [0, 5, 6, 7])
def akQ : J := .seq (.block 1 (.seq (.R [ro 9 (.ab (.t 7)),
 ro 10 (.bP 34 (.t 5) (.t 7)),
 ro 11 (.aE 126 (.t 10)),
 ro 4 (.eA 126),
 ro 3 (.ae (.t 9)),
 ⟨none, .cK 126 (.t 4) (.t 11), none⟩] (some [0, 3, 4, 5, 6, 7])) akO)) akP
def akR : J := .seq (.cond (.t 8) .skip (.exit 0)) akQ
def Ng : J := .seq (.R [ro 8 (.aw .lss 3 (.t 7) (.t 6))] (some [0, 5, 6, 7, 8])) akR
def akS : J := .block 0 (.loop Ng)
def akT : J := .seq (.R [ro 53 (.ab (.t 0)),
 ro 54 (.len 34 (.t 53)),
 ro 55 (.aw .leq 3 (.t 54) (.c (.int .i64 6))),
 ro 2 (.ae (.t 55))] (some [2])) .ret
def akU : J := .seq (.seq (.R [ro 5 (.ab (.t 0)),
 ro 6 (.len 34 (.t 5)),
 ro 7 (.ab (.c (.int .i64 0)))] (some [0, 5, 6, 7])) akS) akT
def akV : J := .seq (.R [ro 2 (.ae (.c (.bool false)))] (some [0])) akU
theorem akW : bG ⟨56, [0]⟩ (Tryz.f131.body.getD .skip) = some akV.strip := by kernel_rfl
def akX : J := .seq (.R [ro 2 (.ae (.c (.bool false)))] (some [2])) .ret
def akY : J := .cond (.t 27) akX .skip
def akZ : J := .seq (.R [ro 12 (.ab (.t 4)),
 ro 13 (.call (.f 149) [(.t 12)]),
 ro 14 (.un .not (.t 13)),
 ro 15 (.ab (.t 14)),
 ⟨some 16, .ab (.t 3), some (15, false)⟩,
 ⟨some 17, .aw .gtr 3 (.t 16) (.c (.int .i64 0)), some (15, false)⟩,
 ⟨some 18, .ab (.t 17), some (15, false)⟩,
 ⟨some 19, .ab (.t 4), some (18, true)⟩,
 ⟨some 20, .ab (.t 0), some (18, true)⟩,
 ⟨some 21, .ab (.t 3), some (18, true)⟩,
 ⟨some 22, .aw .sub 3 (.t 21) (.c (.int .i64 1)), some (18, true)⟩,
 ⟨some 23, .bP 25 (.t 20) (.t 22), some (18, true)⟩,
 ⟨some 24, .aE 9 (.t 23), some (18, true)⟩,
 ⟨some 25, .aw .leq 9 (.t 19) (.t 24), some (18, true)⟩,
 ⟨some 26, .pick (.t 18) (.t 25) (.c (.bool false)), some (15, false)⟩,
 ro 27 (.pick (.t 15) (.c (.bool true)) (.t 26))] (some [0, 5, 6, 7, 27])) akY
def ak0 : J := .R [ro 28 (.aw .add 3 (.t 7) (.c (.int .i64 1))),
 ro 7 (.ab (.t 28))] (some [0, 5, 6, 7])
def ak1 : J := .seq (.block 1 (.seq (.R [ro 9 (.ab (.t 7)),
 ro 10 (.bP 25 (.t 5) (.t 7)),
 ro 11 (.aE 9 (.t 10)),
 ro 3 (.ae (.t 9)),
 ro 4 (.ae (.t 11))] (some [0, 3, 4, 5, 6, 7])) akZ)) ak0
def ak2 : J := .seq (.cond (.t 8) .skip (.exit 0)) ak1
def Nh : J := .seq (.R [ro 8 (.aw .lss 3 (.t 7) (.t 6))] (some [0, 5, 6, 7, 8])) ak2
def ak3 : J := .block 0 (.loop Nh)
def ak4 : J := .seq (.R [ro 29 (.ab (.t 0)),
 ro 30 (.len 25 (.t 29)),
 ro 31 (.aw .leq 3 (.t 30) (.c (.int .i64 12))),
 ro 2 (.ae (.t 31))] (some [2])) .ret
def ak5 : J := .seq (.seq (.R [ro 5 (.ab (.t 0)),
 ro 6 (.len 25 (.t 5)),
 ro 7 (.ab (.c (.int .i64 0)))] (some [0, 5, 6, 7])) ak3) ak4
def ak6 : J := .seq (.R [ro 2 (.ae (.c (.bool false)))] (some [0])) ak5
theorem ak7 : bG ⟨32, [0]⟩ (Tryz.f132.body.getD .skip) = some ak6.strip := by kernel_rfl
def ak8 : J := .seq (.R [ro 2 (.ae (.c (.int .i64 1)))] (some [2])) .ret
def ak9 : J := .seq (.R [ro 2 (.ae (.c (.int .i64 2)))] (some [2])) .ret
def ak_ : J := .seq (.R [ro 2 (.ae (.c (.int .i64 3)))] (some [2])) .ret
def ala : J := .seq (.R [ro 2 (.ae (.c (.int .i64 4)))] (some [2])) .ret
def alb : J := .seq (.R [ro 2 (.ae (.c (.int .i64 5)))] (some [2])) .ret
def alc : J := .cond (.t 30) alb .skip
def ald : J := .seq (.R [ro 31 (.aW 36 (.t 1) 4),
 ro 32 (.aE 25 (.t 31)),
 ro 33 (.call (.f 132) [(.t 32)]),
 ro 34 (.un .not (.t 33)),
 ro 30 (.ae (.t 34))] (some [30])) alc
def ale : J := .cond (.t 25) ala ald
def alf : J := .seq (.R [ro 26 (.aW 36 (.t 1) 3),
 ro 27 (.aE 25 (.t 26)),
 ro 28 (.call (.f 132) [(.t 27)]),
 ro 29 (.un .not (.t 28)),
 ro 25 (.ae (.t 29))] (some [1, 25])) ale
def alg : J := .cond (.t 20) ak_ alf
def alh : J := .seq (.R [ro 21 (.aW 36 (.t 1) 2),
 ro 22 (.aE 34 (.t 21)),
 ro 23 (.call (.f 131) [(.t 22)]),
 ro 24 (.un .not (.t 23)),
 ro 20 (.ae (.t 24))] (some [1, 20])) alg
def ali : J := .cond (.t 8) ak9 alh
def alj : J := .seq (.R [ro 9 (.aW 36 (.t 1) 1),
 ro 10 (.aE 33 (.t 9)),
 ro 11 (.len 33 (.t 10)),
 ro 12 (.call (.f 95) [(.t 11), (.c (.int .i64 1)), (.c (.int .i64 3))]),
 ro 13 (.un .not (.t 12)),
 ro 14 (.ab (.t 13)),
 ⟨some 15, .aW 36 (.t 1) 1, some (14, false)⟩,
 ⟨some 16, .aE 33 (.t 15), some (14, false)⟩,
 ⟨some 17, .ie 129 [(.t 1)], some (14, false)⟩,
 ⟨some 18, .call (.f 128) [(.t 16), (.t 17)], some (14, false)⟩,
 ro 19 (.pick (.t 14) (.c (.bool true)) (.t 18)),
 ro 8 (.ae (.t 19))] (some [1, 8])) ali
def alk : J := .cond (.t 3) ak8 alj
def alm : J := .seq (.R [ro 2 (.ae (.c (.int .i64 0)))] (some [2])) .ret
def aln : J := .seq (.block 0 (.seq (.R [ro 4 (.aW 36 (.t 1) 0),
 ro 5 (.aE 32 (.t 4)),
 ro 6 (.call (.f 127) [(.t 5)]),
 ro 7 (.un .not (.t 6)),
 ro 3 (.ae (.t 7))] (some [1, 3])) alk)) alm
def alo : J := .seq (.R [ro 1 (.dd 36 (.t 0)),
 ro 2 (.ae (.c (.int .i64 0)))] (some [1])) aln
theorem alp : bG ⟨35, [0]⟩ (Tryz.f79.body.getD .skip) = some alo.strip := by kernel_rfl
def alq : J := .seq (.R [ro 3 (.aE 36 (.t 1)),
 ro 4 (.call (.f 79) [(.t 3)]),
 ro 5 (.aw .eql 2 (.t 4) (.c (.int .i64 0))),
 ro 2 (.ae (.t 5))] (some [2])) .ret
def alr : J := .seq (.R [ro 1 (.dd 36 (.t 0)),
 ro 2 (.ae (.c (.bool false)))] (some [1])) alq
theorem als : bG ⟨6, [0]⟩ (Tryz.f43.body.getD .skip) = some alr.strip := by kernel_rfl
def alu : J := .R [ro 16 (.ab (.t 3)),
 ro 17 (.aW 122 (.t 5) 1),
 ro 18 (.aE 2 (.t 17)),
 ro 19 (.dJ 43 1 [(0, (.t 18))]),
 ro 20 (.app 43 43 (.t 16) (.t 19)),
 ro 3 (.ae (.t 20))] (some [3, 7, 8, 9])
def alv : J := .cond (.t 15) alu .skip
def alw : J := .seq (.R [ro 13 (.aW 122 (.t 5) 0),
 ro 14 (.aE 2 (.t 13)),
 ro 15 (.aw .eql 2 (.t 14) (.c (.int .i64 5)))] (some [3, 5, 7, 8, 9, 15])) alv
def Ni : J := .R [ro 21 (.aw .add 3 (.t 9) (.c (.int .i64 1))),
 ro 9 (.ab (.t 21))] (some [3, 7, 8, 9])
def alx : J := .seq (.block 1 (.seq (.R [ro 11 (.bP 117 (.t 7) (.t 9)),
 ro 12 (.aE 122 (.t 11)),
 ro 5 (.eA 122),
 ⟨none, .cK 122 (.t 5) (.t 12), none⟩] (some [3, 5, 7, 8, 9])) alw)) Ni
def aly : J := .seq (.cond (.t 10) .skip (.exit 0)) alx
def Nj : J := .seq (.R [ro 10 (.aw .lss 3 (.t 9) (.t 8))] (some [3, 7, 8, 9, 10])) aly
def alz : J := .block 0 (.loop Nj)
def alA : J := .seq (.R [ro 24 (.ab (.t 3)),
 ro 25 (.call (.f 120) [(.t 24)]),
 ro 2 (.ae (.t 25))] (some [2])) .ret
def alB : J := .seq (.R [ro 22 (.ab (.t 3)),
 ro 23 (.call (.f 104) [(.t 22)])] (some [3])) alA
def alC : J := .seq (.seq (.R [ro 6 (.aW 119 (.t 1) 2),
 ro 7 (.aE 117 (.t 6)),
 ro 8 (.len 117 (.t 7)),
 ro 9 (.ab (.c (.int .i64 0)))] (some [3, 7, 8, 9])) alz) alB
def alD : J := .seq (.R [ro 3 (.ae (.c .bu))] (some [1, 3])) alC
def alE : J := .seq (.R [ro 1 (.dd 119 (.t 0)),
 ro 2 (.ae (.c .bu))] (some [1])) alD
theorem alF : bG ⟨26, [0]⟩ (Tryz.f119.body.getD .skip) = some alE.strip := by kernel_rfl
def alG : J := .seq (.R [ro 17 (.ab (.t 5)),
 ro 4 (.ae (.t 17))] (some [4])) .ret
def alH : J := .cond (.t 16) alG .skip
def alI : J := .seq (.R [ro 11 (.ab (.t 1)),
 ro 12 (.ab (.t 0)),
 ro 13 (.ab (.t 5)),
 ro 14 (.bP 43 (.t 12) (.t 13)),
 ro 15 (.aE 2 (.t 14)),
 ro 16 (.aw .eql 2 (.t 11) (.t 15))] (some [0, 1, 5, 7, 8, 16])) alH
def alJ : J := .R [ro 18 (.aw .add 3 (.t 8) (.c (.int .i64 1))),
 ro 8 (.ab (.t 18))] (some [0, 1, 7, 8])
def alK : J := .seq (.block 1 (.seq (.R [ro 10 (.ab (.t 8)),
 ro 5 (.ae (.t 10))] (some [0, 1, 5, 7, 8])) alI)) alJ
def alL : J := .seq (.cond (.t 9) .skip (.exit 0)) alK
def Nk : J := .seq (.R [ro 9 (.aw .lss 3 (.t 8) (.t 7))] (some [0, 1, 7, 8, 9])) alL
def alM : J := .block 0 (.loop Nk)
def alN : J := .seq (.R [ro 4 (.ae (.c (.int .i64 (-1))))] (some [4])) .ret
def alO : J := .seq (.seq (.R [ro 6 (.ab (.t 0)),
 ro 7 (.len 43 (.t 6)),
 ro 8 (.ab (.c (.int .i64 0)))] (some [0, 1, 7, 8])) alM) alN
def alP : J := .seq (.R [ro 4 (.ae (.c (.int .i64 0)))] (some [0, 1])) alO
theorem alQ : bG ⟨19, [0, 1]⟩ (Tryz.f110.body.getD .skip) = some alP.strip := by kernel_rfl
def alR : J := .seq (.R [ro 5 (.ab (.t 0)),
 ro 6 (.ab (.t 1)),
 ro 7 (.call (.f 110) [(.t 5), (.t 6)]),
 ro 8 (.aw .geq 3 (.t 7) (.c (.int .i64 0))),
 ro 4 (.ae (.t 8))] (some [4])) .ret
def alS : J := .seq (.R [ro 4 (.ae (.c (.bool false)))] (some [0, 1])) alR
theorem alT : bG ⟨9, [0, 1]⟩ (Tryz.f102.body.getD .skip) = some alS.strip := by kernel_rfl
def alU : J := .R [ro 16 (.ab (.t 3)),
 ro 17 (.aW 124 (.t 5) 0),
 ro 18 (.aE 2 (.t 17)),
 ro 19 (.dJ 43 1 [(0, (.t 18))]),
 ro 20 (.app 43 43 (.t 16) (.t 19)),
 ro 3 (.ae (.t 20))] (some [1, 3, 10, 11, 12])
def alV : J := .R [ro 21 (.aw .add 3 (.t 12) (.c (.int .i64 1))),
 ro 12 (.ab (.t 21))] (some [1, 3, 10, 11, 12])
def alW : J := .seq (.block 1 (.seq (.R [ro 14 (.bP 33 (.t 10) (.t 12)),
 ro 15 (.aE 124 (.t 14)),
 ro 5 (.eA 124),
 ⟨none, .cK 124 (.t 5) (.t 15), none⟩] (some [1, 3, 5, 10, 11, 12])) alU)) alV
def alX : J := .seq (.cond (.t 13) .skip (.exit 0)) alW
def Nl : J := .seq (.R [ro 13 (.aw .lss 3 (.t 12) (.t 11))] (some [1, 3, 10, 11, 12, 13])) alX
def alY : J := .block 0 (.loop Nl)
def alZ : J := .cond (.t 25) .skip (.exit 2)
def al0 : J := .R [ro 46 (.ab (.t 3)),
 ro 47 (.ab (.t 8)),
 ro 48 (.dJ 43 1 [(0, (.t 47))]),
 ro 49 (.app 43 43 (.t 46) (.t 48)),
 ro 3 (.ae (.t 49))] (some [1, 3, 6, 36, 37, 38])
def al1 : J := .cond (.t 45) al0 .skip
def al2 : J := .seq (.R [ro 42 (.ab (.t 3)),
 ro 43 (.ab (.t 8)),
 ro 44 (.call (.f 102) [(.t 42), (.t 43)]),
 ro 45 (.un .not (.t 44))] (some [1, 3, 6, 8, 36, 37, 38, 45])) al1
def Nm : J := .R [ro 50 (.aw .add 3 (.t 38) (.c (.int .i64 1))),
 ro 38 (.ab (.t 50))] (some [1, 3, 6, 36, 37, 38])
def al3 : J := .seq (.block 5 (.seq (.R [ro 40 (.bP 43 (.t 36) (.t 38)),
 ro 41 (.aE 2 (.t 40)),
 ro 8 (.ae (.t 41))] (some [1, 3, 6, 8, 36, 37, 38])) al2)) Nm
def al4 : J := .seq (.cond (.t 39) .skip (.exit 4)) al3
def Nn : J := .seq (.R [ro 39 (.aw .lss 3 (.t 38) (.t 37))] (some [1, 3, 6, 36, 37, 38, 39])) al4
def al5 : J := .block 4 (.loop Nn)
def al6 : J := .R [ro 26 (.ab (.t 6)),
 ro 27 (.aw .add 3 (.t 26) (.c (.int .i64 1))),
 ro 6 (.ae (.t 27))] (some [1, 3, 6])
def al7 : J := .seq (.block 3 (.seq (.g6 [ro 28 (.aW 36 (.t 1) 0),
 ro 29 (.aE 32 (.t 28)),
 ro 30 (.ab (.t 3)),
 ro 31 (.ab (.t 6)),
 ro 32 (.bP 43 (.t 30) (.t 31)),
 ro 33 (.aE 2 (.t 32)),
 ro 34 (.bP 32 (.t 29) (.t 33)),
 ro 35 (.aE 119 (.t 34)),
 ro 36 (.call (.f 119) [(.t 35)]),
 ro 37 (.len 43 (.t 36)),
 ro 38 (.ab (.c (.int .i64 0)))] [[], [0], [], [], [2, 3], [4], [1, 5], [6], [7], [8], []] (some [1, 3, 6, 36, 37, 38])) al5)) al6
def Np : J := .seq (.seq (.R [ro 22 (.ab (.t 6)),
 ro 23 (.ab (.t 3)),
 ro 24 (.len 43 (.t 23)),
 ro 25 (.aw .lss 3 (.t 22) (.t 24))] (some [1, 3, 6, 25])) alZ) al7
def al8 : J := .block 2 (.loop Np)
def al9 : J := .seq (.R [ro 53 (.ab (.t 3)),
 ro 54 (.call (.f 120) [(.t 53)]),
 ro 2 (.ae (.t 54))] (some [2])) .ret
def al_ : J := .seq (.R [ro 51 (.ab (.t 3)),
 ro 52 (.call (.f 104) [(.t 51)])] (some [3])) al9
def ama : J := .seq (.seq (.R [ro 6 (.ae (.c (.int .i64 0)))] (some [1, 3, 6])) al8) al_
def amb : J := .seq (.seq (.R [ro 9 (.aW 36 (.t 1) 1),
 ro 10 (.aE 33 (.t 9)),
 ro 11 (.len 33 (.t 10)),
 ro 12 (.ab (.c (.int .i64 0)))] (some [1, 3, 10, 11, 12])) alY) ama
def amc : J := .seq (.R [ro 3 (.ae (.c .bu))] (some [1, 3])) amb
def amd : J := .seq (.R [ro 1 (.dd 36 (.t 0)),
 ro 2 (.ae (.c .bu))] (some [1])) amc
theorem ame : bG ⟨55, [0]⟩ (Tryz.f71.body.getD .skip) = some amd.strip := by kernel_rfl
def amf : J := .seq (.R [ro 2 (.ae (.c .bu)),
 ro 3 (.ae (.c (.int .i64 1)))] (some [2, 3])) .ret
def amg : J := .cond (.t 6) amf .skip
def amh : J := .seq (.R [ro 7 (.aE 36 (.t 1)),
 ro 8 (.call (.f 71) [(.t 7)]),
 ro 2 (.ae (.t 8)),
 ro 3 (.ae (.c (.int .i64 0)))] (some [2, 3])) .ret
def ami : J := .seq (.seq (.R [ro 4 (.aE 36 (.t 1)),
 ro 5 (.call (.f 43) [(.t 4)]),
 ro 6 (.un .not (.t 5))] (some [1, 6])) amg) amh
def amj : J := .seq (.R [ro 1 (.dd 36 (.t 0)),
 ro 2 (.ae (.c .bu)),
 ro 3 (.ae (.c (.int .i64 0)))] (some [1])) ami
theorem amk : bG ⟨9, [0]⟩ (Tryz.f32.body.getD .skip) = some amj.strip := by kernel_rfl
def aml : J := .seq (.R [ro 4 (.ae (.c (.bool false)))] (some [4])) .ret
def amm : J := .cond (.t 10) aml .skip
def amn : J := .cond (.t 14) .skip (.exit 0)
def amo : J := .seq (.R [ro 4 (.ae (.c (.bool false)))] (some [4])) .ret
def amp : J := .cond (.t 25) amo .skip
def amq : J := .R [ro 15 (.ab (.t 5)),
 ro 16 (.aw .add 3 (.t 15) (.c (.int .i64 1))),
 ro 5 (.ae (.t 16))] (some [0, 1, 5])
def amr : J := .seq (.block 1 (.seq (.g6 [ro 17 (.ab (.t 0)),
 ro 18 (.ab (.t 5)),
 ro 19 (.bP 43 (.t 17) (.t 18)),
 ro 20 (.aE 2 (.t 19)),
 ro 21 (.ab (.t 1)),
 ro 22 (.ab (.t 5)),
 ro 23 (.bP 43 (.t 21) (.t 22)),
 ro 24 (.aE 2 (.t 23)),
 ro 25 (.aw .neq 2 (.t 20) (.t 24))] [[], [], [0, 1], [2], [], [], [4, 5], [6], [3, 7]] (some [0, 1, 5, 25])) amp)) amq
def Nq : J := .seq (.seq (.R [ro 11 (.ab (.t 5)),
 ro 12 (.ab (.t 0)),
 ro 13 (.len 43 (.t 12)),
 ro 14 (.aw .lss 3 (.t 11) (.t 13))] (some [0, 1, 5, 14])) amn) amr
def ams : J := .block 0 (.loop Nq)
def amt : J := .seq (.R [ro 4 (.ae (.c (.bool true)))] (some [4])) .ret
def amu : J := .seq (.seq (.R [ro 5 (.ae (.c (.int .i64 0)))] (some [0, 1, 5])) ams) amt
def amv : J := .seq (.seq (.R [ro 6 (.ab (.t 0)),
 ro 7 (.len 43 (.t 6)),
 ro 8 (.ab (.t 1)),
 ro 9 (.len 43 (.t 8)),
 ro 10 (.aw .neq 3 (.t 7) (.t 9))] (some [0, 1, 10])) amm) amu
def amw : J := .seq (.R [ro 4 (.ae (.c (.bool false)))] (some [0, 1])) amv
theorem tc : bG ⟨26, [0, 1]⟩ (Tryz.f21.body.getD .skip) = some amw.strip := by kernel_rfl
def amx : J := .seq (.R [ro 4 (.ae (.c (.bool false)))] (some [4])) .ret
def amy : J := .cond (.t 9) amx .skip
def amz : J := .seq (.R [ro 4 (.ae (.c (.bool false)))] (some [4])) .ret
def amA : J := .cond (.t 14) amz .skip
def amB : J := .seq (.R [ro 4 (.ae (.c (.bool true)))] (some [4])) .ret
def amC : J := .seq (.seq (.R [ro 10 (.aW 191 (.t 2) 1),
 ro 11 (.aE 2 (.t 10)),
 ro 12 (.aW 191 (.t 3) 1),
 ro 13 (.aE 2 (.t 12)),
 ro 14 (.aw .neq 2 (.t 11) (.t 13))] (some [14])) amA) amB
def amD : J := .seq (.seq (.R [ro 5 (.aW 191 (.t 2) 0),
 ro 6 (.aE 2 (.t 5)),
 ro 7 (.aW 191 (.t 3) 0),
 ro 8 (.aE 2 (.t 7)),
 ro 9 (.aw .neq 2 (.t 6) (.t 8))] (some [2, 3, 9])) amy) amC
def amE : J := .seq (.R [ro 2 (.dd 191 (.t 0)),
 ro 3 (.dd 191 (.t 1)),
 ro 4 (.ae (.c (.bool false)))] (some [2, 3])) amD
theorem amF : bG ⟨15, [0, 1]⟩ (Tryz.f195.body.getD .skip) = some amE.strip := by kernel_rfl
def amG : J := .seq (.R [ro 4 (.ae (.c (.bool false)))] (some [4])) .ret
def amH : J := .cond (.t 10) amG .skip
def amI : J := .cond (.t 14) .skip (.exit 0)
def amJ : J := .seq (.R [ro 4 (.ae (.c (.bool false)))] (some [4])) .ret
def amK : J := .cond (.t 26) amJ .skip
def amL : J := .R [ro 15 (.ab (.t 5)),
 ro 16 (.aw .add 3 (.t 15) (.c (.int .i64 1))),
 ro 5 (.ae (.t 16))] (some [0, 1, 5])
def amM : J := .seq (.block 1 (.seq (.g6 [ro 17 (.ab (.t 0)),
 ro 18 (.ab (.t 5)),
 ro 19 (.bP 147 (.t 17) (.t 18)),
 ro 20 (.aE 191 (.t 19)),
 ro 21 (.ab (.t 1)),
 ro 22 (.ab (.t 5)),
 ro 23 (.bP 147 (.t 21) (.t 22)),
 ro 24 (.aE 191 (.t 23)),
 ro 25 (.call (.f 195) [(.t 20), (.t 24)]),
 ro 26 (.un .not (.t 25))] [[], [], [0, 1], [2], [], [], [4, 5], [6], [3, 7], [8]] (some [0, 1, 5, 26])) amK)) amL
def Nr : J := .seq (.seq (.R [ro 11 (.ab (.t 5)),
 ro 12 (.ab (.t 0)),
 ro 13 (.len 147 (.t 12)),
 ro 14 (.aw .lss 3 (.t 11) (.t 13))] (some [0, 1, 5, 14])) amI) amM
def amN : J := .block 0 (.loop Nr)
def amO : J := .seq (.R [ro 4 (.ae (.c (.bool true)))] (some [4])) .ret
def amP : J := .seq (.seq (.R [ro 5 (.ae (.c (.int .i64 0)))] (some [0, 1, 5])) amN) amO
def amQ : J := .seq (.seq (.R [ro 6 (.ab (.t 0)),
 ro 7 (.len 147 (.t 6)),
 ro 8 (.ab (.t 1)),
 ro 9 (.len 147 (.t 8)),
 ro 10 (.aw .neq 3 (.t 7) (.t 9))] (some [0, 1, 10])) amH) amP
def amR : J := .seq (.R [ro 4 (.ae (.c (.bool false)))] (some [0, 1])) amQ
theorem amS : bG ⟨27, [0, 1]⟩ (Tryz.f158.body.getD .skip) = some amR.strip := by kernel_rfl
def amT : J := .seq (.R [ro 4 (.ae (.c (.bool false)))] (some [4])) .ret
def amU : J := .cond (.t 10) amT .skip
def amV : J := .cond (.t 14) .skip (.exit 0)
def amW : J := .seq (.R [ro 4 (.ae (.c (.bool false)))] (some [4])) .ret
def amX : J := .cond (.t 26) amW .skip
def amY : J := .R [ro 15 (.ab (.t 5)),
 ro 16 (.aw .add 3 (.t 15) (.c (.int .i64 1))),
 ro 5 (.ae (.t 16))] (some [0, 1, 5])
def amZ : J := .seq (.block 1 (.seq (.g6 [ro 17 (.ab (.t 0)),
 ro 18 (.ab (.t 5)),
 ro 19 (.bP 120 (.t 17) (.t 18)),
 ro 20 (.aE 147 (.t 19)),
 ro 21 (.ab (.t 1)),
 ro 22 (.ab (.t 5)),
 ro 23 (.bP 120 (.t 21) (.t 22)),
 ro 24 (.aE 147 (.t 23)),
 ro 25 (.call (.f 158) [(.t 20), (.t 24)]),
 ro 26 (.un .not (.t 25))] [[], [], [0, 1], [2], [], [], [4, 5], [6], [3, 7], [8]] (some [0, 1, 5, 26])) amX)) amY
def Ns : J := .seq (.seq (.R [ro 11 (.ab (.t 5)),
 ro 12 (.ab (.t 0)),
 ro 13 (.len 120 (.t 12)),
 ro 14 (.aw .lss 3 (.t 11) (.t 13))] (some [0, 1, 5, 14])) amV) amZ
def am0 : J := .block 0 (.loop Ns)
def am1 : J := .seq (.R [ro 4 (.ae (.c (.bool true)))] (some [4])) .ret
def am2 : J := .seq (.seq (.R [ro 5 (.ae (.c (.int .i64 0)))] (some [0, 1, 5])) am0) am1
def am3 : J := .seq (.seq (.R [ro 6 (.ab (.t 0)),
 ro 7 (.len 120 (.t 6)),
 ro 8 (.ab (.t 1)),
 ro 9 (.len 120 (.t 8)),
 ro 10 (.aw .neq 3 (.t 7) (.t 9))] (some [0, 1, 10])) amU) am2
def am4 : J := .seq (.R [ro 4 (.ae (.c (.bool false)))] (some [0, 1])) am3
theorem am5 : bG ⟨27, [0, 1]⟩ (Tryz.f159.body.getD .skip) = some am4.strip := by kernel_rfl
def am6 : J := .seq (.R [ro 4 (.ae (.c (.bool false)))] (some [4])) .ret
def am7 : J := .cond (.t 9) am6 .skip
def am8 : J := .seq (.R [ro 4 (.ae (.c (.bool false)))] (some [4])) .ret
def am9 : J := .cond (.t 14) am8 .skip
def am_ : J := .seq (.R [ro 4 (.ae (.c (.bool false)))] (some [4])) .ret
def ana : J := .cond (.t 19) am_ .skip
def anb : J := .seq (.R [ro 4 (.ae (.c (.bool false)))] (some [4])) .ret
def anc : J := .cond (.t 25) anb .skip
def ane : J := .seq (.R [ro 4 (.ae (.c (.bool true)))] (some [4])) .ret
def anf : J := .seq (.seq (.R [ro 20 (.aW 122 (.t 2) 3),
 ro 21 (.aE 120 (.t 20)),
 ro 22 (.aW 122 (.t 3) 3),
 ro 23 (.aE 120 (.t 22)),
 ro 24 (.call (.f 159) [(.t 21), (.t 23)]),
 ro 25 (.un .not (.t 24))] (some [25])) anc) ane
def ang : J := .seq (.seq (.R [ro 15 (.aW 122 (.t 2) 2),
 ro 16 (.aE 9 (.t 15)),
 ro 17 (.aW 122 (.t 3) 2),
 ro 18 (.aE 9 (.t 17)),
 ro 19 (.aw .neq 9 (.t 16) (.t 18))] (some [2, 3, 19])) ana) anf
def anh : J := .seq (.seq (.R [ro 10 (.aW 122 (.t 2) 1),
 ro 11 (.aE 2 (.t 10)),
 ro 12 (.aW 122 (.t 3) 1),
 ro 13 (.aE 2 (.t 12)),
 ro 14 (.aw .neq 2 (.t 11) (.t 13))] (some [2, 3, 14])) am9) ang
def ani : J := .seq (.seq (.R [ro 5 (.aW 122 (.t 2) 0),
 ro 6 (.aE 2 (.t 5)),
 ro 7 (.aW 122 (.t 3) 0),
 ro 8 (.aE 2 (.t 7)),
 ro 9 (.aw .neq 2 (.t 6) (.t 8))] (some [2, 3, 9])) am7) anh
def anj : J := .seq (.R [ro 2 (.dd 122 (.t 0)),
 ro 3 (.dd 122 (.t 1)),
 ro 4 (.ae (.c (.bool false)))] (some [2, 3])) ani
theorem ank : bG ⟨26, [0, 1]⟩ (Tryz.f174.body.getD .skip) = some anj.strip := by kernel_rfl
def anl : J := .seq (.R [ro 4 (.ae (.c (.bool false)))] (some [4])) .ret
def anm : J := .cond (.t 10) anl .skip
def ann : J := .cond (.t 14) .skip (.exit 0)
def ano : J := .seq (.R [ro 4 (.ae (.c (.bool false)))] (some [4])) .ret
def anp : J := .cond (.t 26) ano .skip
def anq : J := .R [ro 15 (.ab (.t 5)),
 ro 16 (.aw .add 3 (.t 15) (.c (.int .i64 1))),
 ro 5 (.ae (.t 16))] (some [0, 1, 5])
def anr : J := .seq (.block 1 (.seq (.g6 [ro 17 (.ab (.t 0)),
 ro 18 (.ab (.t 5)),
 ro 19 (.bP 117 (.t 17) (.t 18)),
 ro 20 (.aE 122 (.t 19)),
 ro 21 (.ab (.t 1)),
 ro 22 (.ab (.t 5)),
 ro 23 (.bP 117 (.t 21) (.t 22)),
 ro 24 (.aE 122 (.t 23)),
 ro 25 (.call (.f 174) [(.t 20), (.t 24)]),
 ro 26 (.un .not (.t 25))] [[], [], [0, 1], [2], [], [], [4, 5], [6], [3, 7], [8]] (some [0, 1, 5, 26])) anp)) anq
def Nt : J := .seq (.seq (.R [ro 11 (.ab (.t 5)),
 ro 12 (.ab (.t 0)),
 ro 13 (.len 117 (.t 12)),
 ro 14 (.aw .lss 3 (.t 11) (.t 13))] (some [0, 1, 5, 14])) ann) anr
def ans : J := .block 0 (.loop Nt)
def ant : J := .seq (.R [ro 4 (.ae (.c (.bool true)))] (some [4])) .ret
def anu : J := .seq (.seq (.R [ro 5 (.ae (.c (.int .i64 0)))] (some [0, 1, 5])) ans) ant
def anv : J := .seq (.seq (.R [ro 6 (.ab (.t 0)),
 ro 7 (.len 117 (.t 6)),
 ro 8 (.ab (.t 1)),
 ro 9 (.len 117 (.t 8)),
 ro 10 (.aw .neq 3 (.t 7) (.t 9))] (some [0, 1, 10])) anm) anu
def anw : J := .seq (.R [ro 4 (.ae (.c (.bool false)))] (some [0, 1])) anv
theorem anx : bG ⟨27, [0, 1]⟩ (Tryz.f135.body.getD .skip) = some anw.strip := by kernel_rfl
def anz : J := .seq (.R [ro 4 (.ae (.c (.bool false)))] (some [4])) .ret
def anA : J := .cond (.t 9) anz .skip
def anB : J := .seq (.R [ro 4 (.ae (.c (.bool false)))] (some [4])) .ret
def anC : J := .cond (.t 14) anB .skip
def anD : J := .seq (.R [ro 4 (.ae (.c (.bool false)))] (some [4])) .ret
def anE : J := .cond (.t 20) anD .skip
def anF : J := .seq (.R [ro 4 (.ae (.c (.bool true)))] (some [4])) .ret
def anG : J := .seq (.seq (.R [ro 15 (.aW 119 (.t 2) 2),
 ro 16 (.aE 117 (.t 15)),
 ro 17 (.aW 119 (.t 3) 2),
 ro 18 (.aE 117 (.t 17)),
 ro 19 (.call (.f 135) [(.t 16), (.t 18)]),
 ro 20 (.un .not (.t 19))] (some [20])) anE) anF
def anH : J := .seq (.seq (.R [ro 10 (.aW 119 (.t 2) 1),
 ro 11 (.aE 2 (.t 10)),
 ro 12 (.aW 119 (.t 3) 1),
 ro 13 (.aE 2 (.t 12)),
 ro 14 (.aw .neq 2 (.t 11) (.t 13))] (some [2, 3, 14])) anC) anG
def anI : J := .seq (.seq (.R [ro 5 (.aW 119 (.t 2) 0),
 ro 6 (.aE 9 (.t 5)),
 ro 7 (.aW 119 (.t 3) 0),
 ro 8 (.aE 9 (.t 7)),
 ro 9 (.aw .neq 9 (.t 6) (.t 8))] (some [2, 3, 9])) anA) anH
def anJ : J := .seq (.R [ro 2 (.dd 119 (.t 0)),
 ro 3 (.dd 119 (.t 1)),
 ro 4 (.ae (.c (.bool false)))] (some [2, 3])) anI
theorem anK : bG ⟨21, [0, 1]⟩ (Tryz.f81.body.getD .skip) = some anJ.strip := by kernel_rfl
def anL : J := .seq (.R [ro 4 (.ae (.c (.bool false)))] (some [4])) .ret
def anM : J := .cond (.t 10) anL .skip
def anN : J := .cond (.t 14) .skip (.exit 0)
def anO : J := .seq (.R [ro 4 (.ae (.c (.bool false)))] (some [4])) .ret
def anP : J := .cond (.t 26) anO .skip
def anQ : J := .R [ro 15 (.ab (.t 5)),
 ro 16 (.aw .add 3 (.t 15) (.c (.int .i64 1))),
 ro 5 (.ae (.t 16))] (some [0, 1, 5])
def anR : J := .seq (.block 1 (.seq (.g6 [ro 17 (.ab (.t 0)),
 ro 18 (.ab (.t 5)),
 ro 19 (.bP 32 (.t 17) (.t 18)),
 ro 20 (.aE 119 (.t 19)),
 ro 21 (.ab (.t 1)),
 ro 22 (.ab (.t 5)),
 ro 23 (.bP 32 (.t 21) (.t 22)),
 ro 24 (.aE 119 (.t 23)),
 ro 25 (.call (.f 81) [(.t 20), (.t 24)]),
 ro 26 (.un .not (.t 25))] [[], [], [0, 1], [2], [], [], [4, 5], [6], [3, 7], [8]] (some [0, 1, 5, 26])) anP)) anQ
def Nu : J := .seq (.seq (.R [ro 11 (.ab (.t 5)),
 ro 12 (.ab (.t 0)),
 ro 13 (.len 32 (.t 12)),
 ro 14 (.aw .lss 3 (.t 11) (.t 13))] (some [0, 1, 5, 14])) anN) anR
def anS : J := .block 0 (.loop Nu)
def anT : J := .seq (.R [ro 4 (.ae (.c (.bool true)))] (some [4])) .ret
def anU : J := .seq (.seq (.R [ro 5 (.ae (.c (.int .i64 0)))] (some [0, 1, 5])) anS) anT
def anV : J := .seq (.seq (.R [ro 6 (.ab (.t 0)),
 ro 7 (.len 32 (.t 6)),
 ro 8 (.ab (.t 1)),
 ro 9 (.len 32 (.t 8)),
 ro 10 (.aw .neq 3 (.t 7) (.t 9))] (some [0, 1, 10])) anM) anU
def anW : J := .seq (.R [ro 4 (.ae (.c (.bool false)))] (some [0, 1])) anV
theorem anX : bG ⟨27, [0, 1]⟩ (Tryz.f45.body.getD .skip) = some anW.strip := by kernel_rfl
def anY : J := .seq (.R [ro 4 (.ae (.c (.bool false)))] (some [4])) .ret
def anZ : J := .cond (.t 9) anY .skip
def an0 : J := .seq (.R [ro 4 (.ae (.c (.bool false)))] (some [4])) .ret
def an1 : J := .cond (.t 15) an0 .skip
def an2 : J := .seq (.R [ro 4 (.ae (.c (.bool true)))] (some [4])) .ret
def an3 : J := .seq (.seq (.R [ro 10 (.aW 124 (.t 2) 1),
 ro 11 (.aE 43 (.t 10)),
 ro 12 (.aW 124 (.t 3) 1),
 ro 13 (.aE 43 (.t 12)),
 ro 14 (.call (.f 21) [(.t 11), (.t 13)]),
 ro 15 (.un .not (.t 14))] (some [15])) an1) an2
def an4 : J := .seq (.seq (.R [ro 5 (.aW 124 (.t 2) 0),
 ro 6 (.aE 2 (.t 5)),
 ro 7 (.aW 124 (.t 3) 0),
 ro 8 (.aE 2 (.t 7)),
 ro 9 (.aw .neq 2 (.t 6) (.t 8))] (some [2, 3, 9])) anZ) an3
def an5 : J := .seq (.R [ro 2 (.dd 124 (.t 0)),
 ro 3 (.dd 124 (.t 1)),
 ro 4 (.ae (.c (.bool false)))] (some [2, 3])) an4
theorem an6 : bG ⟨16, [0, 1]⟩ (Tryz.f82.body.getD .skip) = some an5.strip := by kernel_rfl
def an7 : J := .seq (.R [ro 4 (.ae (.c (.bool false)))] (some [4])) .ret
def an8 : J := .cond (.t 10) an7 .skip
def an9 : J := .cond (.t 14) .skip (.exit 0)
def an_ : J := .seq (.R [ro 4 (.ae (.c (.bool false)))] (some [4])) .ret
def aoa : J := .cond (.t 26) an_ .skip
def aob : J := .R [ro 15 (.ab (.t 5)),
 ro 16 (.aw .add 3 (.t 15) (.c (.int .i64 1))),
 ro 5 (.ae (.t 16))] (some [0, 1, 5])
def aoc : J := .seq (.block 1 (.seq (.g6 [ro 17 (.ab (.t 0)),
 ro 18 (.ab (.t 5)),
 ro 19 (.bP 33 (.t 17) (.t 18)),
 ro 20 (.aE 124 (.t 19)),
 ro 21 (.ab (.t 1)),
 ro 22 (.ab (.t 5)),
 ro 23 (.bP 33 (.t 21) (.t 22)),
 ro 24 (.aE 124 (.t 23)),
 ro 25 (.call (.f 82) [(.t 20), (.t 24)]),
 ro 26 (.un .not (.t 25))] [[], [], [0, 1], [2], [], [], [4, 5], [6], [3, 7], [8]] (some [0, 1, 5, 26])) aoa)) aob
def Nv : J := .seq (.seq (.R [ro 11 (.ab (.t 5)),
 ro 12 (.ab (.t 0)),
 ro 13 (.len 33 (.t 12)),
 ro 14 (.aw .lss 3 (.t 11) (.t 13))] (some [0, 1, 5, 14])) an9) aoc
def aod : J := .block 0 (.loop Nv)
def aoe : J := .seq (.R [ro 4 (.ae (.c (.bool true)))] (some [4])) .ret
def aof : J := .seq (.seq (.R [ro 5 (.ae (.c (.int .i64 0)))] (some [0, 1, 5])) aod) aoe
def aog : J := .seq (.seq (.R [ro 6 (.ab (.t 0)),
 ro 7 (.len 33 (.t 6)),
 ro 8 (.ab (.t 1)),
 ro 9 (.len 33 (.t 8)),
 ro 10 (.aw .neq 3 (.t 7) (.t 9))] (some [0, 1, 10])) an8) aof
def aoh : J := .seq (.R [ro 4 (.ae (.c (.bool false)))] (some [0, 1])) aog
theorem aoi : bG ⟨27, [0, 1]⟩ (Tryz.f46.body.getD .skip) = some aoh.strip := by kernel_rfl
def aoj : J := .seq (.R [ro 4 (.ae (.c (.bool false)))] (some [4])) .ret
def aok : J := .cond (.t 9) aoj .skip
def aol : J := .seq (.R [ro 4 (.ae (.c (.bool false)))] (some [4])) .ret
def aom : J := .cond (.t 14) aol .skip
def aon : J := .seq (.R [ro 4 (.ae (.c (.bool false)))] (some [4])) .ret
def aoo : J := .cond (.t 19) aon .skip
def aop : J := .seq (.R [ro 4 (.ae (.c (.bool true)))] (some [4])) .ret
def aoq : J := .seq (.seq (.R [ro 15 (.aW 126 (.t 2) 2),
 ro 16 (.aE 9 (.t 15)),
 ro 17 (.aW 126 (.t 3) 2),
 ro 18 (.aE 9 (.t 17)),
 ro 19 (.aw .neq 9 (.t 16) (.t 18))] (some [19])) aoo) aop
def aor : J := .seq (.seq (.R [ro 10 (.aW 126 (.t 2) 1),
 ro 11 (.aE 9 (.t 10)),
 ro 12 (.aW 126 (.t 3) 1),
 ro 13 (.aE 9 (.t 12)),
 ro 14 (.aw .neq 9 (.t 11) (.t 13))] (some [2, 3, 14])) aom) aoq
def aos : J := .seq (.seq (.R [ro 5 (.aW 126 (.t 2) 0),
 ro 6 (.aE 9 (.t 5)),
 ro 7 (.aW 126 (.t 3) 0),
 ro 8 (.aE 9 (.t 7)),
 ro 9 (.aw .neq 9 (.t 6) (.t 8))] (some [2, 3, 9])) aok) aor
def aot : J := .seq (.R [ro 2 (.dd 126 (.t 0)),
 ro 3 (.dd 126 (.t 1)),
 ro 4 (.ae (.c (.bool false)))] (some [2, 3])) aos
theorem aou : bG ⟨20, [0, 1]⟩ (Tryz.f83.body.getD .skip) = some aot.strip := by kernel_rfl
def aov : J := .seq (.R [ro 4 (.ae (.c (.bool false)))] (some [4])) .ret
def aow : J := .cond (.t 10) aov .skip
def aox : J := .cond (.t 14) .skip (.exit 0)
def aoy : J := .seq (.R [ro 4 (.ae (.c (.bool false)))] (some [4])) .ret
def aoz : J := .cond (.t 26) aoy .skip
def aoA : J := .R [ro 15 (.ab (.t 5)),
 ro 16 (.aw .add 3 (.t 15) (.c (.int .i64 1))),
 ro 5 (.ae (.t 16))] (some [0, 1, 5])
def aoB : J := .seq (.block 1 (.seq (.g6 [ro 17 (.ab (.t 0)),
 ro 18 (.ab (.t 5)),
 ro 19 (.bP 34 (.t 17) (.t 18)),
 ro 20 (.aE 126 (.t 19)),
 ro 21 (.ab (.t 1)),
 ro 22 (.ab (.t 5)),
 ro 23 (.bP 34 (.t 21) (.t 22)),
 ro 24 (.aE 126 (.t 23)),
 ro 25 (.call (.f 83) [(.t 20), (.t 24)]),
 ro 26 (.un .not (.t 25))] [[], [], [0, 1], [2], [], [], [4, 5], [6], [3, 7], [8]] (some [0, 1, 5, 26])) aoz)) aoA
def Nw : J := .seq (.seq (.R [ro 11 (.ab (.t 5)),
 ro 12 (.ab (.t 0)),
 ro 13 (.len 34 (.t 12)),
 ro 14 (.aw .lss 3 (.t 11) (.t 13))] (some [0, 1, 5, 14])) aox) aoB
def aoC : J := .block 0 (.loop Nw)
def aoD : J := .seq (.R [ro 4 (.ae (.c (.bool true)))] (some [4])) .ret
def aoE : J := .seq (.seq (.R [ro 5 (.ae (.c (.int .i64 0)))] (some [0, 1, 5])) aoC) aoD
def aoF : J := .seq (.seq (.R [ro 6 (.ab (.t 0)),
 ro 7 (.len 34 (.t 6)),
 ro 8 (.ab (.t 1)),
 ro 9 (.len 34 (.t 8)),
 ro 10 (.aw .neq 3 (.t 7) (.t 9))] (some [0, 1, 10])) aow) aoE
def aoG : J := .seq (.R [ro 4 (.ae (.c (.bool false)))] (some [0, 1])) aoF
theorem td : bG ⟨27, [0, 1]⟩ (Tryz.f47.body.getD .skip) = some aoG.strip := by kernel_rfl
def aoH : J := .seq (.R [ro 4 (.ae (.c (.bool false)))] (some [4])) .ret
def aoI : J := .cond (.t 10) aoH .skip
def aoJ : J := .cond (.t 14) .skip (.exit 0)
def aoK : J := .seq (.R [ro 4 (.ae (.c (.bool false)))] (some [4])) .ret
def aoL : J := .cond (.t 25) aoK .skip
def aoM : J := .R [ro 15 (.ab (.t 5)),
 ro 16 (.aw .add 3 (.t 15) (.c (.int .i64 1))),
 ro 5 (.ae (.t 16))] (some [0, 1, 5])
def aoN : J := .seq (.block 1 (.seq (.g6 [ro 17 (.ab (.t 0)),
 ro 18 (.ab (.t 5)),
 ro 19 (.bP 25 (.t 17) (.t 18)),
 ro 20 (.aE 9 (.t 19)),
 ro 21 (.ab (.t 1)),
 ro 22 (.ab (.t 5)),
 ro 23 (.bP 25 (.t 21) (.t 22)),
 ro 24 (.aE 9 (.t 23)),
 ro 25 (.aw .neq 9 (.t 20) (.t 24))] [[], [], [0, 1], [2], [], [], [4, 5], [6], [3, 7]] (some [0, 1, 5, 25])) aoL)) aoM
def Nx : J := .seq (.seq (.R [ro 11 (.ab (.t 5)),
 ro 12 (.ab (.t 0)),
 ro 13 (.len 25 (.t 12)),
 ro 14 (.aw .lss 3 (.t 11) (.t 13))] (some [0, 1, 5, 14])) aoJ) aoN
def aoO : J := .block 0 (.loop Nx)
def aoP : J := .seq (.R [ro 4 (.ae (.c (.bool true)))] (some [4])) .ret
def aoQ : J := .seq (.seq (.R [ro 5 (.ae (.c (.int .i64 0)))] (some [0, 1, 5])) aoO) aoP
def aoR : J := .seq (.seq (.R [ro 6 (.ab (.t 0)),
 ro 7 (.len 25 (.t 6)),
 ro 8 (.ab (.t 1)),
 ro 9 (.len 25 (.t 8)),
 ro 10 (.aw .neq 3 (.t 7) (.t 9))] (some [0, 1, 10])) aoI) aoQ
def aoS : J := .seq (.R [ro 4 (.ae (.c (.bool false)))] (some [0, 1])) aoR
theorem aoT : bG ⟨26, [0, 1]⟩ (Tryz.f48.body.getD .skip) = some aoS.strip := by kernel_rfl
def aoU : J := .seq (.R [ro 4 (.ae (.c (.bool false)))] (some [4])) .ret
def aoV : J := .cond (.t 10) aoU .skip
def aoW : J := .seq (.R [ro 4 (.ae (.c (.bool false)))] (some [4])) .ret
def aoX : J := .cond (.t 16) aoW .skip
def aoY : J := .seq (.R [ro 4 (.ae (.c (.bool false)))] (some [4])) .ret
def aoZ : J := .cond (.t 22) aoY .skip
def ao0 : J := .seq (.R [ro 4 (.ae (.c (.bool false)))] (some [4])) .ret
def ao1 : J := .cond (.t 28) ao0 .skip
def ao2 : J := .seq (.R [ro 4 (.ae (.c (.bool false)))] (some [4])) .ret
def ao3 : J := .cond (.t 34) ao2 .skip
def ao4 : J := .seq (.R [ro 4 (.ae (.c (.bool true)))] (some [4])) .ret
def ao5 : J := .seq (.seq (.R [ro 29 (.aW 36 (.t 2) 4),
 ro 30 (.aE 25 (.t 29)),
 ro 31 (.aW 36 (.t 3) 4),
 ro 32 (.aE 25 (.t 31)),
 ro 33 (.call (.f 48) [(.t 30), (.t 32)]),
 ro 34 (.un .not (.t 33))] (some [34])) ao3) ao4
def ao6 : J := .seq (.seq (.R [ro 23 (.aW 36 (.t 2) 3),
 ro 24 (.aE 25 (.t 23)),
 ro 25 (.aW 36 (.t 3) 3),
 ro 26 (.aE 25 (.t 25)),
 ro 27 (.call (.f 48) [(.t 24), (.t 26)]),
 ro 28 (.un .not (.t 27))] (some [2, 3, 28])) ao1) ao5
def ao7 : J := .seq (.seq (.R [ro 17 (.aW 36 (.t 2) 2),
 ro 18 (.aE 34 (.t 17)),
 ro 19 (.aW 36 (.t 3) 2),
 ro 20 (.aE 34 (.t 19)),
 ro 21 (.call (.f 47) [(.t 18), (.t 20)]),
 ro 22 (.un .not (.t 21))] (some [2, 3, 22])) aoZ) ao6
def ao8 : J := .seq (.seq (.R [ro 11 (.aW 36 (.t 2) 1),
 ro 12 (.aE 33 (.t 11)),
 ro 13 (.aW 36 (.t 3) 1),
 ro 14 (.aE 33 (.t 13)),
 ro 15 (.call (.f 46) [(.t 12), (.t 14)]),
 ro 16 (.un .not (.t 15))] (some [2, 3, 16])) aoX) ao7
def ao9 : J := .seq (.seq (.R [ro 5 (.aW 36 (.t 2) 0),
 ro 6 (.aE 32 (.t 5)),
 ro 7 (.aW 36 (.t 3) 0),
 ro 8 (.aE 32 (.t 7)),
 ro 9 (.call (.f 45) [(.t 6), (.t 8)]),
 ro 10 (.un .not (.t 9))] (some [2, 3, 10])) aoV) ao8
def ao_ : J := .seq (.R [ro 2 (.dd 36 (.t 0)),
 ro 3 (.dd 36 (.t 1)),
 ro 4 (.ae (.c (.bool false)))] (some [2, 3])) ao9
theorem vG : bG ⟨35, [0, 1]⟩ (Tryz.f12.body.getD .skip) = some ao_.strip := by kernel_rfl
def apa : J := .seq (.R [ro 2 (.ae (.c (.str [109, 48])))] (some [2])) .ret
def apb : J := .cond (.t 5) apa .skip
def apc : J := .cond (.t 7) .skip (.exit 0)
def apd : J := .R [ro 16 (.ab (.t 0)),
 ro 17 (.aw .quo 3 (.t 16) (.c (.int .i64 10))),
 ro 0 (.ae (.t 17))] (some [0, 3])
def ape : J := .block 1 (.seq (.R [ro 8 (.ab (.t 0)),
 ro 9 (.aw .rem 3 (.t 8) (.c (.int .i64 10))),
 ro 10 (.aw .add 3 (.c (.int .i64 48)) (.t 9)),
 ro 11 (.fW 3 5 (.t 10)),
 ro 12 (.dJ 183 1 [(0, (.t 11))]),
 ro 13 (.fW 183 9 (.t 12)),
 ro 14 (.ab (.t 3)),
 ro 15 (.aw .add 9 (.t 13) (.t 14)),
 ro 3 (.ae (.t 15))] (some [0, 3])) apd)
def Ny : J := .seq (.seq (.R [ro 6 (.ab (.t 0)),
 ro 7 (.aw .gtr 3 (.t 6) (.c (.int .i64 0)))] (some [0, 3, 7])) apc) ape
def apf : J := .seq (.R [ro 18 (.ab (.t 3)),
 ro 19 (.aw .add 9 (.c (.str [109])) (.t 18)),
 ro 2 (.ae (.t 19))] (some [2])) .ret
def apg : J := .seq (.block 0 (.loop Ny)) apf
def aph : J := .seq (.R [ro 3 (.ae (.c (.str [])))] (some [0, 3])) apg
def api : J := .seq (.seq (.R [ro 4 (.ab (.t 0)),
 ro 5 (.aw .leq 3 (.t 4) (.c (.int .i64 0)))] (some [0, 5])) apb) aph
def apj : J := .seq (.R [ro 2 (.ae (.c (.str [])))] (some [0])) api
theorem apk : bG ⟨20, []⟩ (Tryz.f84.body.getD .skip) = some apj.strip := by kernel_rfl
def apl : J := .cond (.t 9) .skip (.exit 0)
def apm : J := .R [ro 24 (.ab (.t 1)),
 ro 25 (.aw .add 3 (.t 24) (.c (.int .i64 1))),
 ro 1 (.ae (.t 25))] (some [0, 1, 5])
def apn : J := .seq (.R [ro 19 (.ab (.t 0)),
 ro 20 (.ab (.t 5)),
 ro 21 (.ab (.t 1)),
 ro 22 (.bP 147 (.t 19) (.t 20)),
 ro 23 (.aW 191 (.t 22) 1),
 ⟨none, .cK 2 (.t 23) (.t 21), none⟩] (some [0, 1, 5])) apm
def apo : J := .seq (.R [ro 17 (.ab (.t 1)),
 ro 18 (.aw .add 3 (.t 17) (.c (.int .i64 1))),
 ro 1 (.ae (.t 18))] (some [0, 1, 5])) apn
def apq : J := .R [ro 10 (.ab (.t 5)),
 ro 11 (.aw .add 3 (.t 10) (.c (.int .i64 1))),
 ro 5 (.ae (.t 11))] (some [0, 1, 5])
def apr : J := .seq (.block 1 (.seq (.R [ro 12 (.ab (.t 0)),
 ro 13 (.ab (.t 5)),
 ro 14 (.ab (.t 1)),
 ro 15 (.bP 147 (.t 12) (.t 13)),
 ro 16 (.aW 191 (.t 15) 0),
 ⟨none, .cK 2 (.t 16) (.t 14), none⟩] (some [0, 1, 5])) apo)) apq
def Nz : J := .seq (.seq (.R [ro 6 (.ab (.t 5)),
 ro 7 (.ab (.t 0)),
 ro 8 (.len 147 (.t 7)),
 ro 9 (.aw .lss 3 (.t 6) (.t 8))] (some [0, 1, 5, 9])) apl) apr
def aps : J := .block 0 (.loop Nz)
def apt : J := .seq (.R [ro 26 (.ab (.t 1)),
 ro 4 (.ae (.t 26))] (some [0, 4])) .ret
def apu : J := .seq (.seq (.R [ro 5 (.ae (.c (.int .i64 0)))] (some [0, 1, 5])) aps) apt
def apv : J := .seq (.R [ro 4 (.ae (.c (.int .i64 0)))] (some [0, 1])) apu
theorem apw : bG ⟨27, [0]⟩ (Tryz.f112.body.getD .skip) = some apv.strip := by kernel_rfl
def apx : J := .cond (.t 9) .skip (.exit 0)
def apy : J := .R [ro 10 (.ab (.t 5)),
 ro 11 (.aw .add 3 (.t 10) (.c (.int .i64 1))),
 ro 5 (.ae (.t 11))] (some [0, 1, 5])
def apz : J := .seq (.block 1 (.R [ro 12 (.ab (.t 0)),
 ro 13 (.ab (.t 5)),
 ro 14 (.bP 120 (.t 12) (.t 13)),
 ro 15 (.aE 147 (.t 14)),
 ro 16 (.ab (.t 1)),
 ro 17 (.call (.f 112) [(.t 15), (.t 16)]),
 ro 1 (.ae (.t 17))] (some [0, 1, 5]))) apy
def NA : J := .seq (.seq (.R [ro 6 (.ab (.t 5)),
 ro 7 (.ab (.t 0)),
 ro 8 (.len 120 (.t 7)),
 ro 9 (.aw .lss 3 (.t 6) (.t 8))] (some [0, 1, 5, 9])) apx) apz
def apA : J := .block 0 (.loop NA)
def apB : J := .seq (.R [ro 18 (.ab (.t 1)),
 ro 4 (.ae (.t 18))] (some [0, 4])) .ret
def apC : J := .seq (.seq (.R [ro 5 (.ae (.c (.int .i64 0)))] (some [0, 1, 5])) apA) apB
def apD : J := .seq (.R [ro 4 (.ae (.c (.int .i64 0)))] (some [0, 1])) apC
theorem apE : bG ⟨19, [0]⟩ (Tryz.f113.body.getD .skip) = some apD.strip := by kernel_rfl
def apF : J := .cond (.t 9) .skip (.exit 0)
def apG : J := .R [ro 34 (.ab (.t 0)),
 ro 35 (.ab (.t 5)),
 ro 36 (.bP 117 (.t 34) (.t 35)),
 ro 37 (.aW 122 (.t 36) 3),
 ro 38 (.aE 120 (.t 37)),
 ro 39 (.ab (.t 1)),
 ro 40 (.call (.f 113) [(.t 38), (.t 39)]),
 ro 1 (.ae (.t 40))] (some [0, 1, 5])
def apH : J := .seq (.R [ro 32 (.ab (.t 1)),
 ro 33 (.aw .add 3 (.t 32) (.c (.int .i64 1))),
 ro 1 (.ae (.t 33))] (some [0, 1, 5])) apG
def apI : J := .seq (.R [ro 26 (.ab (.t 0)),
 ro 27 (.ab (.t 5)),
 ro 28 (.ab (.t 1)),
 ro 29 (.call (.f 84) [(.t 28)]),
 ro 30 (.bP 117 (.t 26) (.t 27)),
 ro 31 (.aW 122 (.t 30) 2),
 ⟨none, .cK 9 (.t 31) (.t 29), none⟩] (some [0, 1, 5])) apH
def apJ : J := .seq (.R [ro 24 (.ab (.t 1)),
 ro 25 (.aw .add 3 (.t 24) (.c (.int .i64 1))),
 ro 1 (.ae (.t 25))] (some [0, 1, 5])) apI
def apK : J := .seq (.R [ro 19 (.ab (.t 0)),
 ro 20 (.ab (.t 5)),
 ro 21 (.ab (.t 1)),
 ro 22 (.bP 117 (.t 19) (.t 20)),
 ro 23 (.aW 122 (.t 22) 1),
 ⟨none, .cK 2 (.t 23) (.t 21), none⟩] (some [0, 1, 5])) apJ
def apL : J := .seq (.R [ro 17 (.ab (.t 1)),
 ro 18 (.aw .add 3 (.t 17) (.c (.int .i64 1))),
 ro 1 (.ae (.t 18))] (some [0, 1, 5])) apK
def apM : J := .R [ro 10 (.ab (.t 5)),
 ro 11 (.aw .add 3 (.t 10) (.c (.int .i64 1))),
 ro 5 (.ae (.t 11))] (some [0, 1, 5])
def apN : J := .seq (.block 1 (.seq (.R [ro 12 (.ab (.t 0)),
 ro 13 (.ab (.t 5)),
 ro 14 (.ab (.t 1)),
 ro 15 (.bP 117 (.t 12) (.t 13)),
 ro 16 (.aW 122 (.t 15) 0),
 ⟨none, .cK 2 (.t 16) (.t 14), none⟩] (some [0, 1, 5])) apL)) apM
def NB : J := .seq (.seq (.R [ro 6 (.ab (.t 5)),
 ro 7 (.ab (.t 0)),
 ro 8 (.len 117 (.t 7)),
 ro 9 (.aw .lss 3 (.t 6) (.t 8))] (some [0, 1, 5, 9])) apF) apN
def apO : J := .block 0 (.loop NB)
def apP : J := .seq (.R [ro 41 (.ab (.t 1)),
 ro 4 (.ae (.t 41))] (some [0, 4])) .ret
def apQ : J := .seq (.seq (.R [ro 5 (.ae (.c (.int .i64 0)))] (some [0, 1, 5])) apO) apP
def apR : J := .seq (.R [ro 4 (.ae (.c (.int .i64 0)))] (some [0, 1])) apQ
theorem apS : bG ⟨42, [0]⟩ (Tryz.f85.body.getD .skip) = some apR.strip := by kernel_rfl
def apT : J := .cond (.t 9) .skip (.exit 0)
def apU : J := .R [ro 27 (.ab (.t 0)),
 ro 28 (.ab (.t 5)),
 ro 29 (.bP 32 (.t 27) (.t 28)),
 ro 30 (.aW 119 (.t 29) 2),
 ro 31 (.aE 117 (.t 30)),
 ro 32 (.ab (.t 1)),
 ro 33 (.call (.f 85) [(.t 31), (.t 32)]),
 ro 1 (.ae (.t 33))] (some [0, 1, 5])
def apV : J := .seq (.R [ro 25 (.ab (.t 1)),
 ro 26 (.aw .add 3 (.t 25) (.c (.int .i64 1))),
 ro 1 (.ae (.t 26))] (some [0, 1, 5])) apU
def apW : J := .seq (.R [ro 20 (.ab (.t 0)),
 ro 21 (.ab (.t 5)),
 ro 22 (.ab (.t 1)),
 ro 23 (.bP 32 (.t 20) (.t 21)),
 ro 24 (.aW 119 (.t 23) 1),
 ⟨none, .cK 2 (.t 24) (.t 22), none⟩] (some [0, 1, 5])) apV
def apX : J := .seq (.R [ro 18 (.ab (.t 1)),
 ro 19 (.aw .add 3 (.t 18) (.c (.int .i64 1))),
 ro 1 (.ae (.t 19))] (some [0, 1, 5])) apW
def apY : J := .R [ro 10 (.ab (.t 5)),
 ro 11 (.aw .add 3 (.t 10) (.c (.int .i64 1))),
 ro 5 (.ae (.t 11))] (some [0, 1, 5])
def apZ : J := .seq (.block 1 (.seq (.R [ro 12 (.ab (.t 0)),
 ro 13 (.ab (.t 5)),
 ro 14 (.ab (.t 1)),
 ro 15 (.call (.f 84) [(.t 14)]),
 ro 16 (.bP 32 (.t 12) (.t 13)),
 ro 17 (.aW 119 (.t 16) 0),
 ⟨none, .cK 9 (.t 17) (.t 15), none⟩] (some [0, 1, 5])) apX)) apY
def NC : J := .seq (.seq (.R [ro 6 (.ab (.t 5)),
 ro 7 (.ab (.t 0)),
 ro 8 (.len 32 (.t 7)),
 ro 9 (.aw .lss 3 (.t 6) (.t 8))] (some [0, 1, 5, 9])) apT) apZ
def ap0 : J := .block 0 (.loop NC)
def ap1 : J := .seq (.R [ro 34 (.ab (.t 1)),
 ro 4 (.ae (.t 34))] (some [0, 4])) .ret
def ap2 : J := .seq (.seq (.R [ro 5 (.ae (.c (.int .i64 0)))] (some [0, 1, 5])) ap0) ap1
def ap3 : J := .seq (.R [ro 4 (.ae (.c (.int .i64 0)))] (some [0, 1])) ap2
theorem ap4 : bG ⟨35, [0]⟩ (Tryz.f49.body.getD .skip) = some ap3.strip := by kernel_rfl
def ap5 : J := .cond (.t 9) .skip (.exit 0)
def ap6 : J := .R [ro 16 (.ab (.t 1)),
 ro 17 (.aw .add 3 (.t 16) (.c (.int .i64 1))),
 ro 1 (.ae (.t 17))] (some [0, 1, 5])
def ap7 : J := .R [ro 10 (.ab (.t 5)),
 ro 11 (.aw .add 3 (.t 10) (.c (.int .i64 1))),
 ro 5 (.ae (.t 11))] (some [0, 1, 5])
def ap8 : J := .seq (.block 1 (.seq (.R [ro 12 (.ab (.t 0)),
 ro 13 (.ab (.t 5)),
 ro 14 (.ab (.t 1)),
 ro 15 (.bP 43 (.t 12) (.t 13)),
 ⟨none, .cK 2 (.t 15) (.t 14), none⟩] (some [0, 1, 5])) ap6)) ap7
def ND : J := .seq (.seq (.R [ro 6 (.ab (.t 5)),
 ro 7 (.ab (.t 0)),
 ro 8 (.len 43 (.t 7)),
 ro 9 (.aw .lss 3 (.t 6) (.t 8))] (some [0, 1, 5, 9])) ap5) ap8
def ap9 : J := .block 0 (.loop ND)
def ap_ : J := .seq (.R [ro 18 (.ab (.t 1)),
 ro 4 (.ae (.t 18))] (some [0, 4])) .ret
def aqa : J := .seq (.seq (.R [ro 5 (.ae (.c (.int .i64 0)))] (some [0, 1, 5])) ap9) ap_
def aqb : J := .seq (.R [ro 4 (.ae (.c (.int .i64 0)))] (some [0, 1])) aqa
theorem aqc : bG ⟨19, [0]⟩ (Tryz.f23.body.getD .skip) = some aqb.strip := by kernel_rfl
def aqd : J := .cond (.t 9) .skip (.exit 0)
def aqe : J := .R [ro 19 (.ab (.t 0)),
 ro 20 (.ab (.t 5)),
 ro 21 (.bP 33 (.t 19) (.t 20)),
 ro 22 (.aW 124 (.t 21) 1),
 ro 23 (.aE 43 (.t 22)),
 ro 24 (.ab (.t 1)),
 ro 25 (.call (.f 23) [(.t 23), (.t 24)]),
 ro 1 (.ae (.t 25))] (some [0, 1, 5])
def aqf : J := .seq (.R [ro 17 (.ab (.t 1)),
 ro 18 (.aw .add 3 (.t 17) (.c (.int .i64 1))),
 ro 1 (.ae (.t 18))] (some [0, 1, 5])) aqe
def aqg : J := .R [ro 10 (.ab (.t 5)),
 ro 11 (.aw .add 3 (.t 10) (.c (.int .i64 1))),
 ro 5 (.ae (.t 11))] (some [0, 1, 5])
def aqh : J := .seq (.block 1 (.seq (.R [ro 12 (.ab (.t 0)),
 ro 13 (.ab (.t 5)),
 ro 14 (.ab (.t 1)),
 ro 15 (.bP 33 (.t 12) (.t 13)),
 ro 16 (.aW 124 (.t 15) 0),
 ⟨none, .cK 2 (.t 16) (.t 14), none⟩] (some [0, 1, 5])) aqf)) aqg
def NF : J := .seq (.seq (.R [ro 6 (.ab (.t 5)),
 ro 7 (.ab (.t 0)),
 ro 8 (.len 33 (.t 7)),
 ro 9 (.aw .lss 3 (.t 6) (.t 8))] (some [0, 1, 5, 9])) aqd) aqh
def aqi : J := .block 0 (.loop NF)
def aqj : J := .seq (.R [ro 26 (.ab (.t 1)),
 ro 4 (.ae (.t 26))] (some [0, 4])) .ret
def aqk : J := .seq (.seq (.R [ro 5 (.ae (.c (.int .i64 0)))] (some [0, 1, 5])) aqi) aqj
def aql : J := .seq (.R [ro 4 (.ae (.c (.int .i64 0)))] (some [0, 1])) aqk
theorem aqm : bG ⟨27, [0]⟩ (Tryz.f50.body.getD .skip) = some aql.strip := by kernel_rfl
def aqn : J := .cond (.t 9) .skip (.exit 0)
def aqo : J := .R [ro 34 (.ab (.t 1)),
 ro 35 (.aw .add 3 (.t 34) (.c (.int .i64 1))),
 ro 1 (.ae (.t 35))] (some [0, 1, 5])
def aqp : J := .seq (.R [ro 28 (.ab (.t 0)),
 ro 29 (.ab (.t 5)),
 ro 30 (.ab (.t 1)),
 ro 31 (.call (.f 84) [(.t 30)]),
 ro 32 (.bP 34 (.t 28) (.t 29)),
 ro 33 (.aW 126 (.t 32) 2),
 ⟨none, .cK 9 (.t 33) (.t 31), none⟩] (some [0, 1, 5])) aqo
def aqq : J := .seq (.R [ro 26 (.ab (.t 1)),
 ro 27 (.aw .add 3 (.t 26) (.c (.int .i64 1))),
 ro 1 (.ae (.t 27))] (some [0, 1, 5])) aqp
def aqr : J := .seq (.R [ro 20 (.ab (.t 0)),
 ro 21 (.ab (.t 5)),
 ro 22 (.ab (.t 1)),
 ro 23 (.call (.f 84) [(.t 22)]),
 ro 24 (.bP 34 (.t 20) (.t 21)),
 ro 25 (.aW 126 (.t 24) 1),
 ⟨none, .cK 9 (.t 25) (.t 23), none⟩] (some [0, 1, 5])) aqq
def aqs : J := .seq (.R [ro 18 (.ab (.t 1)),
 ro 19 (.aw .add 3 (.t 18) (.c (.int .i64 1))),
 ro 1 (.ae (.t 19))] (some [0, 1, 5])) aqr
def aqt : J := .R [ro 10 (.ab (.t 5)),
 ro 11 (.aw .add 3 (.t 10) (.c (.int .i64 1))),
 ro 5 (.ae (.t 11))] (some [0, 1, 5])
def aqu : J := .seq (.block 1 (.seq (.R [ro 12 (.ab (.t 0)),
 ro 13 (.ab (.t 5)),
 ro 14 (.ab (.t 1)),
 ro 15 (.call (.f 84) [(.t 14)]),
 ro 16 (.bP 34 (.t 12) (.t 13)),
 ro 17 (.aW 126 (.t 16) 0),
 ⟨none, .cK 9 (.t 17) (.t 15), none⟩] (some [0, 1, 5])) aqs)) aqt
def NG : J := .seq (.seq (.R [ro 6 (.ab (.t 5)),
 ro 7 (.ab (.t 0)),
 ro 8 (.len 34 (.t 7)),
 ro 9 (.aw .lss 3 (.t 6) (.t 8))] (some [0, 1, 5, 9])) aqn) aqu
def aqv : J := .block 0 (.loop NG)
def aqw : J := .seq (.R [ro 36 (.ab (.t 1)),
 ro 4 (.ae (.t 36))] (some [0, 4])) .ret
def aqx : J := .seq (.seq (.R [ro 5 (.ae (.c (.int .i64 0)))] (some [0, 1, 5])) aqv) aqw
def aqy : J := .seq (.R [ro 4 (.ae (.c (.int .i64 0)))] (some [0, 1])) aqx
theorem aqz : bG ⟨37, [0]⟩ (Tryz.f51.body.getD .skip) = some aqy.strip := by kernel_rfl
def aqA : J := .cond (.t 9) .skip (.exit 0)
def aqB : J := .R [ro 17 (.ab (.t 1)),
 ro 18 (.aw .add 3 (.t 17) (.c (.int .i64 1))),
 ro 1 (.ae (.t 18))] (some [0, 1, 5])
def aqC : J := .R [ro 10 (.ab (.t 5)),
 ro 11 (.aw .add 3 (.t 10) (.c (.int .i64 1))),
 ro 5 (.ae (.t 11))] (some [0, 1, 5])
def aqD : J := .seq (.block 1 (.seq (.R [ro 12 (.ab (.t 0)),
 ro 13 (.ab (.t 5)),
 ro 14 (.ab (.t 1)),
 ro 15 (.call (.f 84) [(.t 14)]),
 ro 16 (.bP 25 (.t 12) (.t 13)),
 ⟨none, .cK 9 (.t 16) (.t 15), none⟩] (some [0, 1, 5])) aqB)) aqC
def NH : J := .seq (.seq (.R [ro 6 (.ab (.t 5)),
 ro 7 (.ab (.t 0)),
 ro 8 (.len 25 (.t 7)),
 ro 9 (.aw .lss 3 (.t 6) (.t 8))] (some [0, 1, 5, 9])) aqA) aqD
def aqE : J := .block 0 (.loop NH)
def aqF : J := .seq (.R [ro 19 (.ab (.t 1)),
 ro 4 (.ae (.t 19))] (some [0, 4])) .ret
def aqG : J := .seq (.seq (.R [ro 5 (.ae (.c (.int .i64 0)))] (some [0, 1, 5])) aqE) aqF
def aqH : J := .seq (.R [ro 4 (.ae (.c (.int .i64 0)))] (some [0, 1])) aqG
theorem yR : bG ⟨20, [0]⟩ (Tryz.f52.body.getD .skip) = some aqH.strip := by kernel_rfl
def aqI : J := .seq (.R [ro 25 (.ab (.t 1)),
 ro 4 (.ae (.t 25))] (some [0, 4])) .ret
def aqJ : J := .seq (.R [ro 21 (.aW 36 (.t 2) 4),
 ro 22 (.aE 25 (.t 21)),
 ro 23 (.ab (.t 1)),
 ro 24 (.call (.f 52) [(.t 22), (.t 23)]),
 ro 1 (.ae (.t 24))] (some [0, 1])) aqI
def aqK : J := .seq (.R [ro 17 (.aW 36 (.t 2) 3),
 ro 18 (.aE 25 (.t 17)),
 ro 19 (.ab (.t 1)),
 ⟨some 20, .j6 (.f 52) [(.t 18), (.t 19)] [2], none⟩,
 ro 1 (.ae (.t 20))] (some [0, 1, 2])) aqJ
def aqL : J := .seq (.R [ro 13 (.aW 36 (.t 2) 2),
 ro 14 (.aE 34 (.t 13)),
 ro 15 (.ab (.t 1)),
 ⟨some 16, .j6 (.f 51) [(.t 14), (.t 15)] [2], none⟩,
 ro 1 (.ae (.t 16))] (some [0, 1, 2])) aqK
def aqM : J := .seq (.R [ro 9 (.aW 36 (.t 2) 1),
 ro 10 (.aE 33 (.t 9)),
 ro 11 (.ab (.t 1)),
 ⟨some 12, .j6 (.f 50) [(.t 10), (.t 11)] [2], none⟩,
 ro 1 (.ae (.t 12))] (some [0, 1, 2])) aqL
def aqN : J := .seq (.R [ro 5 (.aW 36 (.t 2) 0),
 ro 6 (.aE 32 (.t 5)),
 ro 7 (.ab (.t 1)),
 ⟨some 8, .j6 (.f 49) [(.t 6), (.t 7)] [2], none⟩,
 ro 1 (.ae (.t 8))] (some [0, 1, 2])) aqM
def aqO : J := .seq (.R [⟨some 2, .jJ 36 (.t 0), none⟩,
 ro 4 (.ae (.c (.int .i64 0)))] (some [0, 1, 2])) aqN
theorem vH : bG ⟨26, [0]⟩ (Tryz.f13.body.getD .skip) = some aqO.strip := by kernel_rfl
def aqP : J := .cond (.t 9) .skip (.exit 0)
def aqQ : J := .seq (.R [ro 4 (.ae (.c (.int .i64 (-1))))] (some [4])) .ret
def aqR : J := .cond (.t 17) aqQ .skip
def aqS : J := .R [ro 18 (.ab (.t 1)),
 ro 19 (.aw .add 3 (.t 18) (.c (.int .i64 1))),
 ro 1 (.ae (.t 19))] (some [0, 1, 5])
def aqT : J := .R [ro 10 (.ab (.t 5)),
 ro 11 (.aw .add 3 (.t 10) (.c (.int .i64 1))),
 ro 5 (.ae (.t 11))] (some [0, 1, 5])
def aqU : J := .seq (.block 1 (.seq (.seq (.R [ro 12 (.ab (.t 0)),
 ro 13 (.ab (.t 5)),
 ro 14 (.bP 43 (.t 12) (.t 13)),
 ro 15 (.aE 2 (.t 14)),
 ro 16 (.ab (.t 1)),
 ro 17 (.aw .neq 2 (.t 15) (.t 16))] (some [0, 1, 5, 17])) aqR) aqS)) aqT
def NI : J := .seq (.seq (.R [ro 6 (.ab (.t 5)),
 ro 7 (.ab (.t 0)),
 ro 8 (.len 43 (.t 7)),
 ro 9 (.aw .lss 3 (.t 6) (.t 8))] (some [0, 1, 5, 9])) aqP) aqU
def aqV : J := .block 0 (.loop NI)
def aqW : J := .seq (.R [ro 20 (.ab (.t 1)),
 ro 4 (.ae (.t 20))] (some [4])) .ret
def aqX : J := .seq (.seq (.R [ro 5 (.ae (.c (.int .i64 0)))] (some [0, 1, 5])) aqV) aqW
def aqY : J := .seq (.R [ro 4 (.ae (.c (.int .i64 0)))] (some [0, 1])) aqX
theorem te : bG ⟨21, [0]⟩ (Tryz.f25.body.getD .skip) = some aqY.strip := by kernel_rfl
def aqZ : J := .seq (.R [ro 2 (.ae (.c (.bool true)))] (some [2])) .ret
def aq0 : J := .cond (.t 18) aqZ .skip
def aq1 : J := .seq (.R [ro 2 (.ae (.c (.bool false)))] (some [2])) .ret
def aq2 : J := .cond (.t 40) aq1 .skip
def aq3 : J := .seq (.R [ro 2 (.ae (.c (.bool false)))] (some [2])) .ret
def aq4 : J := .cond (.t 45) aq3 .skip
def aq5 : J := .seq (.R [ro 2 (.ae (.c (.bool false)))] (some [2])) .ret
def aq6 : J := .cond (.t 61) aq5 .skip
def aq7 : J := .seq (.R [ro 2 (.ae (.c (.bool false)))] (some [2])) .ret
def aq8 : J := .cond (.t 69) aq7 .skip
def aq9 : J := .seq (.R [ro 2 (.ae (.c (.bool false)))] (some [2])) .ret
def aq_ : J := .cond (.t 72) aq9 .skip
def ara : J := .seq (.R [ro 2 (.ae (.c (.bool false)))] (some [2])) .ret
def arb : J := .cond (.t 87) ara .skip
def arc : J := .seq (.R [ro 2 (.ae (.c (.bool false)))] (some [2])) .ret
def ard : J := .cond (.t 92) arc .skip
def arf : J := .seq (.R [ro 2 (.ae (.c (.bool false)))] (some [2])) .ret
def arh : J := .cond (.t 95) arf .skip
def ari : J := .seq (.R [ro 2 (.ae (.c (.bool true)))] (some [2])) .ret
def arj : J := .seq (.seq (.R [ro 93 (.ab (.t 11)),
 ro 94 (.ab (.t 10)),
 ro 95 (.aw .neq 3 (.t 93) (.t 94))] (some [95])) arh) ari
def ark : J := .seq (.seq (.R [ro 91 (.ab (.t 11)),
 ro 92 (.aw .lss 3 (.t 91) (.c (.int .i64 0)))] (some [10, 11, 92])) ard) arj
def arl : J := .seq (.R [ro 88 (.ab (.t 7)),
 ro 89 (.ab (.t 11)),
 ro 90 (.call (.f 25) [(.t 88), (.t 89)]),
 ro 11 (.ae (.t 90))] (some [10, 11])) ark
def arn : J := .seq (.R [ro 11 (.ae (.c (.int .i64 1)))] (some [7, 10, 11])) arl
def aro : J := .seq (.seq (.R [ro 79 (.ab (.t 12)),
 ro 80 (.ab (.t 4)),
 ro 81 (.call (.f 21) [(.t 79), (.t 80)]),
 ro 82 (.un .not (.t 81)),
 ro 83 (.ab (.t 82)),
 ⟨some 84, .ab (.t 13), some (83, false)⟩,
 ⟨some 85, .ab (.t 5), some (83, false)⟩,
 ⟨some 86, .aw .neq 2 (.t 84) (.t 85), some (83, false)⟩,
 ro 87 (.pick (.t 83) (.c (.bool true)) (.t 86))] (some [7, 10, 87])) arb) arn
def arp : J := .seq (.R [ro 74 (.aE 27 (.t 1)),
 ro 75 (.call (.f 9) [(.t 74)]),
 ro 76 (.call (.f 32) [(.t 75)]),
 ro 73 (.ab (.t 76)),
 ro 77 (.ex (.t 73) 0),
 ro 78 (.ex (.t 73) 1),
 ro 12 (.ae (.t 77)),
 ro 13 (.ae (.t 78))] (some [4, 5, 7, 10, 12, 13])) aro
def arq : J := .seq (.seq (.R [ro 70 (.ab (.t 11)),
 ro 71 (.ab (.t 10)),
 ro 72 (.aw .neq 3 (.t 70) (.t 71))] (some [1, 4, 5, 7, 10, 72])) aq_) arp
def ars : J := .seq (.seq (.R [ro 68 (.ab (.t 11)),
 ro 69 (.aw .lss 3 (.t 68) (.c (.int .i64 0)))] (some [1, 4, 5, 7, 10, 11, 69])) aq8) arq
def art : J := .seq (.R [ro 65 (.ab (.t 7)),
 ro 66 (.ab (.t 11)),
 ro 67 (.call (.f 25) [(.t 65), (.t 66)]),
 ro 11 (.ae (.t 67))] (some [1, 4, 5, 7, 10, 11])) ars
def aru : J := .seq (.R [ro 11 (.ae (.c (.int .i64 1)))] (some [1, 4, 5, 7, 10, 11])) art
def arv : J := .seq (.R [ro 62 (.ab (.t 7)),
 ro 63 (.ab (.t 10)),
 ro 64 (.call (.f 23) [(.t 62), (.t 63)]),
 ro 10 (.ae (.t 64))] (some [1, 4, 5, 7, 10])) aru
def arw : J := .seq (.R [ro 10 (.ae (.c (.int .i64 1)))] (some [1, 4, 5, 7, 10])) arv
def arx : J := .seq (.seq (.R [ro 49 (.ab (.t 9)),
 ro 50 (.aw .lss 3 (.t 49) (.c (.int .i64 0))),
 ro 51 (.ab (.t 50)),
 ⟨some 52, .ab (.t 7), some (51, false)⟩,
 ⟨some 53, .ab (.t 4), some (51, false)⟩,
 ⟨some 54, .call (.f 21) [(.t 52), (.t 53)], some (51, false)⟩,
 ⟨some 55, .un .not (.t 54), some (51, false)⟩,
 ro 56 (.pick (.t 51) (.c (.bool true)) (.t 55)),
 ro 57 (.ab (.t 56)),
 ⟨some 58, .ab (.t 8), some (57, false)⟩,
 ⟨some 59, .ab (.t 5), some (57, false)⟩,
 ⟨some 60, .aw .neq 2 (.t 58) (.t 59), some (57, false)⟩,
 ro 61 (.pick (.t 57) (.c (.bool true)) (.t 60))] (some [1, 4, 5, 7, 61])) aq6) arw
def ary : J := .seq (.R [ro 46 (.aE 36 (.t 6)),
 ro 47 (.ab (.t 9)),
 ro 48 (.call (.f 13) [(.t 46), (.t 47)]),
 ro 9 (.ae (.t 48))] (some [1, 4, 5, 7, 8, 9])) arx
def arz : J := .seq (.R [ro 9 (.ae (.c (.int .i64 1)))] (some [1, 4, 5, 6, 7, 8, 9])) ary
def arA : J := .seq (.seq (.g6 [ro 41 (.aE 36 (.t 6)),
 ro 42 (.aE 27 (.t 1)),
 ro 43 (.call (.f 9) [(.t 42)]),
 ro 44 (.call (.f 12) [(.t 41), (.t 43)]),
 ro 45 (.un .not (.t 44))] [[], [], [1], [0, 2, 2], [3]] (some [1, 4, 5, 6, 7, 8, 45])) aq4) arz
def arB : J := .seq (.seq (.R [ro 32 (.ab (.t 7)),
 ro 33 (.ab (.t 4)),
 ro 34 (.call (.f 21) [(.t 32), (.t 33)]),
 ro 35 (.un .not (.t 34)),
 ro 36 (.ab (.t 35)),
 ⟨some 37, .ab (.t 8), some (36, false)⟩,
 ⟨some 38, .ab (.t 5), some (36, false)⟩,
 ⟨some 39, .aw .neq 2 (.t 37) (.t 38), some (36, false)⟩,
 ro 40 (.pick (.t 36) (.c (.bool true)) (.t 39))] (some [1, 4, 5, 6, 7, 8, 40])) aq2) arA
def arC : J := .seq (.R [ro 28 (.aE 36 (.t 6)),
 ro 29 (.call (.f 32) [(.t 28)]),
 ro 27 (.ab (.t 29)),
 ro 30 (.ex (.t 27) 0),
 ro 31 (.ex (.t 27) 1),
 ro 7 (.ae (.t 30)),
 ro 8 (.ae (.t 31))] (some [1, 4, 5, 6, 7, 8])) arB
def arD : J := .seq (.R [ro 25 (.aE 27 (.t 1)),
 ro 26 (.call (.f 9) [(.t 25)]),
 ro 6 (.eA 36),
 ⟨none, .cK 36 (.t 6) (.t 26), none⟩] (some [1, 4, 5, 6])) arC
def arE : J := .seq (.R [ro 20 (.aE 27 (.t 1)),
 ro 21 (.call (.f 9) [(.t 20)]),
 ro 22 (.call (.f 31) [(.t 21)]),
 ro 19 (.ab (.t 22)),
 ro 23 (.ex (.t 19) 0),
 ro 24 (.ex (.t 19) 1),
 ro 4 (.ae (.t 23)),
 ro 5 (.ae (.t 24))] (some [1, 4, 5])) arD
def arF : J := .seq (.seq (.R [ro 17 (.ab (.t 3)),
 ro 18 (.aw .lss 3 (.t 17) (.c (.int .i64 0)))] (some [1, 18])) aq0) arE
def arG : J := .seq (.R [ro 14 (.aE 27 (.t 1)),
 ro 15 (.ab (.t 3)),
 ro 16 (.call (.f 7) [(.t 14), (.t 15)]),
 ro 3 (.ae (.t 16))] (some [1, 3])) arF
def arH : J := .seq (.R [ro 3 (.ae (.c (.int .i64 1048576)))] (some [1, 3])) arG
def w5 : J := .seq (.R [ro 1 (.dd 27 (.t 0)),
 ro 2 (.ae (.c (.bool false)))] (some [1])) arH
theorem yS : bG ⟨96, [0]⟩ (Tryz.f6.body.getD .skip) = some w5.strip := by kernel_rfl
def al := PLift.up (And.intro @Bool.not_true @Bool.not_false)
end Go.Proofs.YtbemmmimelklkaaGreat
