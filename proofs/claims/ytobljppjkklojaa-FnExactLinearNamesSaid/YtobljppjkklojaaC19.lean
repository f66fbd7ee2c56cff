/- Part of a proof that a law returns true for every input. No condition. -/
import Derived.Test.YtobljppjkklojaaTb
import Derived.Test.YtobljppjkklojaaFwL
import Derived.Test.YtobljppjkklojaaP19
namespace Go.Proofs.Ytobljppjkklojaa
open Go Go.cM Go.fH
set_option linter.unusedSimpArgs false
def bf (x : Int) : j := .int .i64 x
theorem ij (x : Int) : (bf x).share = bf x := by
 simp only [bf, dE]
theorem za (x : Int) : (bf x).cY = true := by
 simp only [bf, j.cY, j.h7, Bool.and_self]
def dT (x : fb) : j := .agg [.int .i64 x.Kind, .int .i64 x.Value]
theorem DL (x : fb) : (dT x).share = dT x := by
 simp only [dT, dE]
theorem aav (x : fb) : (dT x).cY = true := by
 simp only [dT, j.cY, j.h7, Bool.and_self]
def el (x : List fb) : j := .slice (x.map dT)
theorem DM (x : List fb) : (el x).share = el x := by
 simp only [el, dE, @cm _ dT dT (fun _ => DL _)]
def eB (x : gD) : j := .agg [.slice (x.bz.map bf), .slice (x.Guard.map dT), .str x.Name, .slice (x.bK.map el), .slice (x.Next.map el)]
theorem DN (x : gD) : (eB x).share = eB x := by
 simp only [eB, dE, @cm _ bf bf (fun _ => ij _), @cm _ dT dT (fun _ => DL _), @cm _ el el (fun _ => DM _)]
def hA (x : i2) : j := .agg [.int .i64 x.dK, .slice (x.Start.map bf), .slice (x.cG.map eB)]
theorem aaw (x : i2) : (hA x).share = hA x := by
 simp only [hA, dE, @cm _ bf bf (fun _ => ij _), @cm _ eB eB (fun _ => DN _)]
def s5 (x : List Int) : j := .slice (x.map bf)
theorem aax (x : List Int) : (s5 x).share = s5 x := by
 simp only [s5, dE, @cm _ bf bf (fun _ => ij _)]
def zb (x : List gD) : j := .slice (x.map eB)
theorem aay (x : List gD) : (zb x).share = zb x := by
 simp only [zb, dE, @cm _ eB eB (fun _ => DN _)]
def aR (x : List UInt8) : j := .str x
theorem iB (x : List UInt8) : (aR x).share = aR x := by
 simp only [aR, dE]
theorem zc (x : List UInt8) : (aR x).cY = true := by
 simp only [aR, j.cY, j.h7, Bool.and_self]
def zd (x : List (List fb)) : j := .slice (x.map el)
theorem aaz (x : List (List fb)) : (zd x).share = zd x := by
 simp only [zd, dE, @cm _ el el (fun _ => DM _)]
def bk (x : a2) : j := .agg [.int .i64 x.Kind, .int .i64 x.Value]
theorem lK (x : a2) : (bk x).share = bk x := by
 simp only [bk, dE]
theorem DO (x : a2) : (bk x).cY = true := by
 simp only [bk, j.cY, j.h7, Bool.and_self]
def b3 (x : List a2) : j := .slice (x.map bk)
theorem kr (x : List a2) : (b3 x).share = b3 x := by
 simp only [b3, dE, @cm _ bk bk (fun _ => lK _)]
def cA (x : bu) : j := .agg [.slice (x.bz.map bf), .slice (x.Guard.map bk), .str x.Name, .slice (x.bK.map b3), .slice (x.Next.map b3)]
theorem vV (x : bu) : (cA x).share = cA x := by
 simp only [cA, dE, @cm _ bf bf (fun _ => ij _), @cm _ bk bk (fun _ => lK _), @cm _ b3 b3 (fun _ => kr _)]
def eu (x : List a2) : j := .ay 2 (x.map bk)
theorem vW (x : List a2) : (eu x).share = b3 x := by
 simp only [eu, b3, dE, @cm _ bk bk (fun _ => lK _)]
theorem DP (x : List a2) : (eu x).cY = true := by
 simp only [eu, j.cY, j.h7, Bool.and_self, @lB _ bk (fun _ => DO _)]
def dJ (x : bu) : j := .agg [.ay 1 (x.bz.map bf), .ay 2 (x.Guard.map bk), .str x.Name, .ay 1 (x.bK.map eu), .ay 1 (x.Next.map eu)]
theorem nk (x : bu) : (dJ x).share = cA x := by
 simp only [dJ, cA, dE, @cm _ bf bf (fun _ => ij _), @cm _ bk bk (fun _ => lK _), @cm _ eu b3 (fun _ => vW _)]
theorem DQ (x : bu) : (dJ x).cY = true := by
 simp only [dJ, j.cY, j.h7, Bool.and_self, @lB _ bf (fun _ => za _), @lB _ bk (fun _ => DO _), @lB _ eu (fun _ => DP _)]
def vX (x : List Int) : j := .ay 1 (x.map bf)
theorem aaA (x : List Int) : (vX x).share = s5 x := by
 simp only [vX, s5, dE, @cm _ bf bf (fun _ => ij _)]
theorem aaB (x : List Int) : (vX x).cY = true := by
 simp only [vX, j.cY, j.h7, Bool.and_self, @lB _ bf (fun _ => za _)]
def vY (x : List (List a2)) : j := .ay 1 (x.map eu)
def g3 (x : List (List a2)) : j := .slice (x.map b3)
theorem ze (x : List (List a2)) : (g3 x).share = g3 x := by
 simp only [g3, dE, @cm _ b3 b3 (fun _ => kr _)]
theorem aaC (x : List (List a2)) : (vY x).share = g3 x := by
 simp only [vY, g3, dE, @cm _ eu b3 (fun _ => vW _)]
theorem aaD (x : List (List a2)) : (vY x).cY = true := by
 simp only [vY, j.cY, j.h7, Bool.and_self, @lB _ eu (fun _ => DP _)]
def ks (x : dM) : j := .agg [.int .i64 x.dK, .ay 1 (x.Start.map bf), .ay 5 (x.cG.map dJ)]
def ev (x : dM) : j := .agg [.int .i64 x.dK, .slice (x.Start.map bf), .slice (x.cG.map cA)]
theorem aaE (x : dM) : (ev x).share = ev x := by
 simp only [ev, dE, @cm _ bf bf (fun _ => ij _), @cm _ cA cA (fun _ => vV _)]
theorem aaF (x : dM) : (ks x).share = ev x := by
 simp only [ks, ev, dE, @cm _ bf bf (fun _ => ij _), @cm _ dJ cA (fun _ => nk _)]
theorem aaG (x : dM) : (ks x).cY = true := by
 simp only [ks, j.cY, j.h7, Bool.and_self, @lB _ bf (fun _ => za _), @lB _ dJ (fun _ => DQ _)]
def vZ (x : List bu) : j := .ay 5 (x.map dJ)
def s6 (x : List bu) : j := .slice (x.map cA)
theorem aaH (x : List bu) : (s6 x).share = s6 x := by
 simp only [s6, dE, @cm _ cA cA (fun _ => vV _)]
theorem aaI (x : List bu) : (vZ x).share = s6 x := by
 simp only [vZ, s6, dE, @cm _ dJ cA (fun _ => nk _)]
theorem aaJ (x : List bu) : (vZ x).cY = true := by
 simp only [vZ, j.cY, j.h7, Bool.and_self, @lB _ dJ (fun _ => DQ _)]
def Ld : R := .seq (.ad [ro 4 (.an (.c (.int .i64 (-1))))] (some [4])) .ret
def Le : R := .cond (.t 10) Ld .skip
def Lf : R := .seq (.ad [ro 11 (.ae (.t 1)),
 ro 4 (.an (.t 11))] (some [4])) .ret
def Lg : R := .seq (.seq (.ad [ro 9 (.ae (.t 1)),
 ro 10 (.aK .lss 3 (.t 9) (.c (.int .i64 0)))] (some [1, 10])) Le) Lf
def Lh : R := .seq (.ad [ro 5 (.ae (.t 1)),
 ro 6 (.ae (.t 0)),
 ro 7 (.len 68 (.t 6)),
 ro 8 (.aK .sub 3 (.t 5) (.t 7)),
 ro 1 (.an (.t 8))] (some [1])) Lg
def Li : R := .seq (.ad [ro 4 (.an (.c (.int .i64 0)))] (some [0, 1])) Lh
theorem Lj : b0 ⟨12, [0]⟩ (Try.f148.body.getD .skip) = some Li.strip := by kernel_rfl
def Lk : R := .seq (.ad [ro 4 (.an (.c (.int .i64 (-1))))] (some [4])) .ret
def Ll : R := .cond (.t 10) Lk .skip
def Lm : R := .seq (.ad [ro 11 (.ae (.t 1)),
 ro 4 (.an (.t 11))] (some [4])) .ret
def Ln : R := .seq (.seq (.ad [ro 9 (.ae (.t 1)),
 ro 10 (.aK .lss 3 (.t 9) (.c (.int .i64 0)))] (some [1, 10])) Ll) Lm
def Lo : R := .seq (.ad [ro 5 (.ae (.t 1)),
 ro 6 (.ae (.t 0)),
 ro 7 (.len 36 (.t 6)),
 ro 8 (.aK .sub 3 (.t 5) (.t 7)),
 ro 1 (.an (.t 8))] (some [1])) Ln
def Lp : R := .seq (.ad [ro 4 (.an (.c (.int .i64 0)))] (some [0, 1])) Lo
theorem Lq : b0 ⟨12, [0]⟩ (Try.f31.body.getD .skip) = some Lp.strip := by kernel_rfl
def Lr : R := .seq (.ad [ro 4 (.an (.c (.int .i64 (-1))))] (some [4])) .ret
def Ls : R := .cond (.t 11) Lr .skip
def Lt : R := .cond (.t 15) .skip (.exit 0)
def Lu : R := .seq (.ad [ro 4 (.an (.c (.int .i64 (-1))))] (some [4])) .ret
def Lv : R := .cond (.t 25) Lu .skip
def Lw : R := .seq (.ad [ro 24 (.ae (.t 1)),
 ro 25 (.aK .lss 3 (.t 24) (.c (.int .i64 0)))] (some [0, 1, 5, 25])) Lv
def Lx : R := .ad [ro 16 (.ae (.t 5)),
 ro 17 (.aK .add 3 (.t 16) (.c (.int .i64 1))),
 ro 5 (.an (.t 17))] (some [0, 1, 5])
def Ly : R := .seq (.block 1 (.seq (.ad [ro 18 (.ae (.t 0)),
 ro 19 (.ae (.t 5)),
 ro 20 (.cp 260 (.t 18) (.t 19)),
 ro 21 (.aW 36 (.t 20)),
 ro 22 (.ae (.t 1)),
 ro 23 (.call (.f 31) [(.t 21), (.t 22)]),
 ro 1 (.an (.t 23))] (some [0, 1, 5])) Lw)) Lx
def DR : R := .seq (.seq (.ad [ro 12 (.ae (.t 5)),
 ro 13 (.ae (.t 0)),
 ro 14 (.len 260 (.t 13)),
 ro 15 (.aK .lss 3 (.t 12) (.t 14))] (some [0, 1, 5, 15])) Lt) Ly
def Lz : R := .block 0 (.loop DR)
def LA : R := .seq (.ad [ro 26 (.ae (.t 1)),
 ro 4 (.an (.t 26))] (some [4])) .ret
def LB : R := .seq (.seq (.ad [ro 5 (.an (.c (.int .i64 0)))] (some [0, 1, 5])) Lz) LA
def LC : R := .seq (.seq (.ad [ro 10 (.ae (.t 1)),
 ro 11 (.aK .lss 3 (.t 10) (.c (.int .i64 0)))] (some [0, 1, 11])) Ls) LB
def LD : R := .seq (.ad [ro 6 (.ae (.t 1)),
 ro 7 (.ae (.t 0)),
 ro 8 (.len 260 (.t 7)),
 ro 9 (.aK .sub 3 (.t 6) (.t 8)),
 ro 1 (.an (.t 9))] (some [0, 1])) LC
def LF : R := .seq (.ad [ro 4 (.an (.c (.int .i64 0)))] (some [0, 1])) LD
theorem LG : b0 ⟨27, [0]⟩ (Try.f287.body.getD .skip) = some LF.strip := by kernel_rfl
def LH : R := .seq (.ad [ro 4 (.an (.c (.int .i64 (-1))))] (some [4])) .ret
def LI : R := .cond (.t 10) LH .skip
def LJ : R := .seq (.ad [ro 4 (.an (.c (.int .i64 (-1))))] (some [4])) .ret
def LK : R := .cond (.t 16) LJ .skip
def LL : R := .seq (.ad [ro 4 (.an (.c (.int .i64 (-1))))] (some [4])) .ret
def LM : R := .cond (.t 23) LL .skip
def LN : R := .seq (.ad [ro 4 (.an (.c (.int .i64 (-1))))] (some [4])) .ret
def LO : R := .cond (.t 29) LN .skip
def LP : R := .seq (.ad [ro 4 (.an (.c (.int .i64 (-1))))] (some [4])) .ret
def LQ : R := .cond (.t 35) LP .skip
def LR : R := .seq (.ad [ro 36 (.ae (.t 1)),
 ro 4 (.an (.t 36))] (some [4])) .ret
def LS : R := .seq (.seq (.ad [ro 34 (.ae (.t 1)),
 ro 35 (.aK .lss 3 (.t 34) (.c (.int .i64 0)))] (some [1, 35])) LQ) LR
def LU : R := .seq (.ad [ro 30 (.bs 262 (.t 2) 4),
 ro 31 (.aW 260 (.t 30)),
 ro 32 (.ae (.t 1)),
 ro 33 (.call (.f 287) [(.t 31), (.t 32)]),
 ro 1 (.an (.t 33))] (some [1])) LS
def LV : R := .seq (.seq (.ad [ro 28 (.ae (.t 1)),
 ro 29 (.aK .lss 3 (.t 28) (.c (.int .i64 0)))] (some [1, 2, 29])) LO) LU
def LW : R := .seq (.ad [ro 24 (.bs 262 (.t 2) 3),
 ro 25 (.aW 260 (.t 24)),
 ro 26 (.ae (.t 1)),
 ro 27 (.call (.f 287) [(.t 25), (.t 26)]),
 ro 1 (.an (.t 27))] (some [1, 2])) LV
def LX : R := .seq (.seq (.ad [ro 22 (.ae (.t 1)),
 ro 23 (.aK .lss 3 (.t 22) (.c (.int .i64 0)))] (some [1, 2, 23])) LM) LW
def LY : R := .seq (.ad [ro 17 (.ae (.t 1)),
 ro 18 (.bs 262 (.t 2) 2),
 ro 19 (.aW 9 (.t 18)),
 ro 20 (.len 9 (.t 19)),
 ro 21 (.aK .sub 3 (.t 17) (.t 20)),
 ro 1 (.an (.t 21))] (some [1, 2])) LX
def LZ : R := .seq (.seq (.ad [ro 15 (.ae (.t 1)),
 ro 16 (.aK .lss 3 (.t 15) (.c (.int .i64 0)))] (some [1, 2, 16])) LK) LY
def L0 : R := .seq (.ad [ro 11 (.bs 262 (.t 2) 1),
 ro 12 (.aW 36 (.t 11)),
 ro 13 (.ae (.t 1)),
 ro 14 (.call (.f 31) [(.t 12), (.t 13)]),
 ro 1 (.an (.t 14))] (some [1, 2])) LZ
def L1 : R := .seq (.seq (.ad [ro 9 (.ae (.t 1)),
 ro 10 (.aK .lss 3 (.t 9) (.c (.int .i64 0)))] (some [1, 2, 10])) LI) L0
def L2 : R := .seq (.ad [ro 5 (.bs 262 (.t 2) 0),
 ro 6 (.aW 68 (.t 5)),
 ro 7 (.ae (.t 1)),
 ro 8 (.call (.f 148) [(.t 6), (.t 7)]),
 ro 1 (.an (.t 8))] (some [1, 2])) L1
def L3 : R := .seq (.ad [ro 2 (.di 262 (.t 0)),
 ro 4 (.an (.c (.int .i64 0)))] (some [1, 2])) L2
theorem L4 : b0 ⟨37, [0]⟩ (Try.f230.body.getD .skip) = some L3.strip := by kernel_rfl
def L5 : R := .seq (.ad [ro 4 (.an (.c (.int .i64 (-1))))] (some [4])) .ret
def L6 : R := .cond (.t 11) L5 .skip
def L7 : R := .cond (.t 15) .skip (.exit 0)
def L8 : R := .seq (.ad [ro 4 (.an (.c (.int .i64 (-1))))] (some [4])) .ret
def L9 : R := .cond (.t 25) L8 .skip
def L_ : R := .seq (.ad [ro 24 (.ae (.t 1)),
 ro 25 (.aK .lss 3 (.t 24) (.c (.int .i64 0)))] (some [0, 1, 5, 25])) L9
def Ma : R := .ad [ro 16 (.ae (.t 5)),
 ro 17 (.aK .add 3 (.t 16) (.c (.int .i64 1))),
 ro 5 (.an (.t 17))] (some [0, 1, 5])
def Mb : R := .seq (.block 1 (.seq (.ad [ro 18 (.ae (.t 0)),
 ro 19 (.ae (.t 5)),
 ro 20 (.cp 84 (.t 18) (.t 19)),
 ro 21 (.aW 262 (.t 20)),
 ro 22 (.ae (.t 1)),
 ro 23 (.call (.f 230) [(.t 21), (.t 22)]),
 ro 1 (.an (.t 23))] (some [0, 1, 5])) L_)) Ma
def DS : R := .seq (.seq (.ad [ro 12 (.ae (.t 5)),
 ro 13 (.ae (.t 0)),
 ro 14 (.len 84 (.t 13)),
 ro 15 (.aK .lss 3 (.t 12) (.t 14))] (some [0, 1, 5, 15])) L7) Mb
def Mc : R := .block 0 (.loop DS)
def Md : R := .seq (.ad [ro 26 (.ae (.t 1)),
 ro 4 (.an (.t 26))] (some [4])) .ret
def Me : R := .seq (.seq (.ad [ro 5 (.an (.c (.int .i64 0)))] (some [0, 1, 5])) Mc) Md
def Mf : R := .seq (.seq (.ad [ro 10 (.ae (.t 1)),
 ro 11 (.aK .lss 3 (.t 10) (.c (.int .i64 0)))] (some [0, 1, 11])) L6) Me
def Mg : R := .seq (.ad [ro 6 (.ae (.t 1)),
 ro 7 (.ae (.t 0)),
 ro 8 (.len 84 (.t 7)),
 ro 9 (.aK .sub 3 (.t 6) (.t 8)),
 ro 1 (.an (.t 9))] (some [0, 1])) Mf
def Mh : R := .seq (.ad [ro 4 (.an (.c (.int .i64 0)))] (some [0, 1])) Mg
theorem Mi : b0 ⟨27, [0]⟩ (Try.f152.body.getD .skip) = some Mh.strip := by kernel_rfl
def Mj : R := .seq (.ad [ro 4 (.an (.c (.int .i64 (-1))))] (some [4])) .ret
def Mk : R := .cond (.t 10) Mj .skip
def Ml : R := .seq (.ad [ro 4 (.an (.c (.int .i64 (-1))))] (some [4])) .ret
def Mm : R := .cond (.t 16) Ml .skip
def Mn : R := .seq (.ad [ro 17 (.ae (.t 1)),
 ro 4 (.an (.t 17))] (some [4])) .ret
def Mo : R := .seq (.seq (.ad [ro 15 (.ae (.t 1)),
 ro 16 (.aK .lss 3 (.t 15) (.c (.int .i64 0)))] (some [1, 16])) Mm) Mn
def Mp : R := .seq (.ad [ro 11 (.bs 86 (.t 2) 2),
 ro 12 (.aW 84 (.t 11)),
 ro 13 (.ae (.t 1)),
 ro 14 (.call (.f 152) [(.t 12), (.t 13)]),
 ro 1 (.an (.t 14))] (some [1])) Mo
def Mq : R := .seq (.seq (.ad [ro 9 (.ae (.t 1)),
 ro 10 (.aK .lss 3 (.t 9) (.c (.int .i64 0)))] (some [1, 2, 10])) Mk) Mp
def Mr : R := .seq (.ad [ro 5 (.bs 86 (.t 2) 1),
 ro 6 (.aW 68 (.t 5)),
 ro 7 (.ae (.t 1)),
 ro 8 (.call (.f 148) [(.t 6), (.t 7)]),
 ro 1 (.an (.t 8))] (some [1, 2])) Mq
def Ms : R := .seq (.ad [ro 2 (.di 86 (.t 0)),
 ro 4 (.an (.c (.int .i64 0)))] (some [1, 2])) Mr
theorem Mt : b0 ⟨18, [0]⟩ (Try.f72.body.getD .skip) = some Ms.strip := by kernel_rfl
def Mu : R := .cond (.t 11) .skip (.exit 0)
def Mv : R := .ad [ro 12 (.ae (.t 4)),
 ro 13 (.aK .add 3 (.t 12) (.c (.int .i64 1))),
 ro 4 (.an (.t 13))] (some [0, 3, 4])
def Mw : R := .seq (.block 1 (.ad [ro 14 (.ae (.t 3)),
 ro 15 (.ae (.t 4)),
 ro 16 (.ae (.t 0)),
 ro 17 (.ae (.t 4)),
 ro 18 (.cp 68 (.t 16) (.t 17)),
 ro 19 (.aW 2 (.t 18)),
 ro 20 (.cp 68 (.t 14) (.t 15)),
 ⟨none, .de 2 (.t 20) (.t 19), none⟩] (some [0, 3, 4]))) Mv
def DT : R := .seq (.seq (.ad [ro 8 (.ae (.t 4)),
 ro 9 (.ae (.t 0)),
 ro 10 (.len 68 (.t 9)),
 ro 11 (.aK .lss 3 (.t 8) (.t 10))] (some [0, 3, 4, 11])) Mu) Mw
def Mx : R := .block 0 (.loop DT)
def My : R := .seq (.ad [ro 21 (.ae (.t 3)),
 ro 2 (.an (.t 21))] (some [2])) .ret
def Mz : R := .seq (.seq (.ad [ro 4 (.an (.c (.int .i64 0)))] (some [0, 3, 4])) Mx) My
def MA : R := .seq (.ad [ro 5 (.ae (.t 0)),
 ro 6 (.len 68 (.t 5)),
 ro 7 (.eH 68 (.t 6) (.t 6)),
 ro 3 (.an (.t 7))] (some [0, 3])) Mz
def MB : R := .seq (.ad [ro 2 (.an (.c .a_))] (some [0])) MA
theorem MC : b0 ⟨22, [0]⟩ (Try.f150.body.getD .skip) = some MB.strip := by kernel_rfl
def MD : R := .seq (.ad [ro 10 (.aW 131 (.t 3)),
 ⟨none, .de 131 (.t 2) (.t 10), none⟩] (some [2])) .ret
def ME : R := .seq (.ad [ro 7 (.bs 133 (.t 1) 1),
 ro 8 (.aW 2 (.t 7)),
 ro 9 (.bs 131 (.t 3) 1),
 ⟨none, .de 2 (.t 9) (.t 8), none⟩] (some [2, 3])) MD
def MF : R := .seq (.ad [ro 4 (.bs 133 (.t 1) 0),
 ro 5 (.aW 2 (.t 4)),
 ro 6 (.bs 131 (.t 3) 0),
 ⟨none, .de 2 (.t 6) (.t 5), none⟩] (some [1, 2, 3])) ME
def MG : R := .seq (.ad [ro 3 (.eV 131)] (some [1, 2, 3])) MF
def MH : R := .seq (.ad [ro 1 (.di 133 (.t 0)),
 ro 2 (.eV 131)] (some [1, 2])) MG
theorem MI : b0 ⟨11, [0]⟩ (Try.f107.body.getD .skip) = some MH.strip := by kernel_rfl
def MJ : R := .cond (.t 11) .skip (.exit 0)
def MK : R := .ad [ro 12 (.ae (.t 4)),
 ro 13 (.aK .add 3 (.t 12) (.c (.int .i64 1))),
 ro 4 (.an (.t 13))] (some [0, 3, 4])
def ML : R := .seq (.block 1 (.ad [ro 14 (.ae (.t 3)),
 ro 15 (.ae (.t 4)),
 ro 16 (.ae (.t 0)),
 ro 17 (.ae (.t 4)),
 ro 18 (.cp 36 (.t 16) (.t 17)),
 ro 19 (.aW 133 (.t 18)),
 ro 20 (.call (.f 107) [(.t 19)]),
 ro 21 (.cp 40 (.t 14) (.t 15)),
 ⟨none, .de 131 (.t 21) (.t 20), none⟩] (some [0, 3, 4]))) MK
def DU : R := .seq (.seq (.ad [ro 8 (.ae (.t 4)),
 ro 9 (.ae (.t 0)),
 ro 10 (.len 36 (.t 9)),
 ro 11 (.aK .lss 3 (.t 8) (.t 10))] (some [0, 3, 4, 11])) MJ) ML
def MM : R := .block 0 (.loop DU)
def MN : R := .seq (.ad [ro 22 (.ae (.t 3)),
 ro 2 (.an (.t 22))] (some [2])) .ret
def MO : R := .seq (.seq (.ad [ro 4 (.an (.c (.int .i64 0)))] (some [0, 3, 4])) MM) MN
def MP : R := .seq (.ad [ro 5 (.ae (.t 0)),
 ro 6 (.len 36 (.t 5)),
 ro 7 (.eH 40 (.t 6) (.t 6)),
 ro 3 (.an (.t 7))] (some [0, 3])) MO
def MQ : R := .seq (.ad [ro 2 (.an (.c .a_))] (some [0])) MP
theorem MR : b0 ⟨23, [0]⟩ (Try.f33.body.getD .skip) = some MQ.strip := by kernel_rfl
def MS : R := .cond (.t 11) .skip (.exit 0)
def MT : R := .ad [ro 12 (.ae (.t 4)),
 ro 13 (.aK .add 3 (.t 12) (.c (.int .i64 1))),
 ro 4 (.an (.t 13))] (some [0, 3, 4])
def MU : R := .seq (.block 1 (.ad [ro 14 (.ae (.t 3)),
 ro 15 (.ae (.t 4)),
 ro 16 (.ae (.t 0)),
 ro 17 (.ae (.t 4)),
 ro 18 (.cp 260 (.t 16) (.t 17)),
 ro 19 (.aW 36 (.t 18)),
 ro 20 (.call (.f 33) [(.t 19)]),
 ro 21 (.cp 195 (.t 14) (.t 15)),
 ⟨none, .de 40 (.t 21) (.t 20), none⟩] (some [0, 3, 4]))) MT
def DV : R := .seq (.seq (.ad [ro 8 (.ae (.t 4)),
 ro 9 (.ae (.t 0)),
 ro 10 (.len 260 (.t 9)),
 ro 11 (.aK .lss 3 (.t 8) (.t 10))] (some [0, 3, 4, 11])) MS) MU
def MV : R := .block 0 (.loop DV)
def MW : R := .seq (.ad [ro 22 (.ae (.t 3)),
 ro 2 (.an (.t 22))] (some [2])) .ret
def MX : R := .seq (.seq (.ad [ro 4 (.an (.c (.int .i64 0)))] (some [0, 3, 4])) MV) MW
def MY : R := .seq (.ad [ro 5 (.ae (.t 0)),
 ro 6 (.len 260 (.t 5)),
 ro 7 (.eH 195 (.t 6) (.t 6)),
 ro 3 (.an (.t 7))] (some [0, 3])) MX
def MZ : R := .seq (.ad [ro 2 (.an (.c .a_))] (some [0])) MY
theorem M0 : b0 ⟨23, [0]⟩ (Try.f290.body.getD .skip) = some MZ.strip := by kernel_rfl
def M1 : R := .seq (.ad [ro 23 (.aW 197 (.t 3)),
 ⟨none, .de 197 (.t 2) (.t 23), none⟩] (some [2])) .ret
def M3 : R := .seq (.ad [ro 19 (.bs 262 (.t 1) 4),
 ro 20 (.aW 260 (.t 19)),
 ro 21 (.call (.f 290) [(.t 20)]),
 ro 22 (.bs 197 (.t 3) 4),
 ⟨none, .de 195 (.t 22) (.t 21), none⟩] (some [2, 3])) M1
def M4 : R := .seq (.ad [ro 15 (.bs 262 (.t 1) 3),
 ro 16 (.aW 260 (.t 15)),
 ro 17 (.call (.f 290) [(.t 16)]),
 ro 18 (.bs 197 (.t 3) 3),
 ⟨none, .de 195 (.t 18) (.t 17), none⟩] (some [1, 2, 3])) M3
def M5 : R := .seq (.ad [ro 12 (.bs 262 (.t 1) 2),
 ro 13 (.aW 9 (.t 12)),
 ro 14 (.bs 197 (.t 3) 2),
 ⟨none, .de 9 (.t 14) (.t 13), none⟩] (some [1, 2, 3])) M4
def M6 : R := .seq (.ad [ro 8 (.bs 262 (.t 1) 1),
 ro 9 (.aW 36 (.t 8)),
 ro 10 (.call (.f 33) [(.t 9)]),
 ro 11 (.bs 197 (.t 3) 1),
 ⟨none, .de 40 (.t 11) (.t 10), none⟩] (some [1, 2, 3])) M5
def M7 : R := .seq (.ad [ro 4 (.bs 262 (.t 1) 0),
 ro 5 (.aW 68 (.t 4)),
 ro 6 (.call (.f 150) [(.t 5)]),
 ro 7 (.bs 197 (.t 3) 0),
 ⟨none, .de 68 (.t 7) (.t 6), none⟩] (some [1, 2, 3])) M6
def M8 : R := .seq (.ad [ro 3 (.eV 197)] (some [1, 2, 3])) M7
def M9 : R := .seq (.ad [ro 1 (.di 262 (.t 0)),
 ro 2 (.eV 197)] (some [1, 2])) M8
theorem M_ : b0 ⟨24, [0]⟩ (Try.f233.body.getD .skip) = some M9.strip := by kernel_rfl
def Na : R := .cond (.t 11) .skip (.exit 0)
def Nb : R := .ad [ro 12 (.ae (.t 4)),
 ro 13 (.aK .add 3 (.t 12) (.c (.int .i64 1))),
 ro 4 (.an (.t 13))] (some [0, 3, 4])
def Nc : R := .seq (.block 1 (.ad [ro 14 (.ae (.t 3)),
 ro 15 (.ae (.t 4)),
 ro 16 (.ae (.t 0)),
 ro 17 (.ae (.t 4)),
 ro 18 (.cp 84 (.t 16) (.t 17)),
 ro 19 (.aW 262 (.t 18)),
 ro 20 (.call (.f 233) [(.t 19)]),
 ro 21 (.cp 88 (.t 14) (.t 15)),
 ⟨none, .de 197 (.t 21) (.t 20), none⟩] (some [0, 3, 4]))) Nb
def DW : R := .seq (.seq (.ad [ro 8 (.ae (.t 4)),
 ro 9 (.ae (.t 0)),
 ro 10 (.len 84 (.t 9)),
 ro 11 (.aK .lss 3 (.t 8) (.t 10))] (some [0, 3, 4, 11])) Na) Nc
def Nd : R := .block 0 (.loop DW)
def Nf : R := .seq (.ad [ro 22 (.ae (.t 3)),
 ro 2 (.an (.t 22))] (some [2])) .ret
def Ng : R := .seq (.seq (.ad [ro 4 (.an (.c (.int .i64 0)))] (some [0, 3, 4])) Nd) Nf
def Nh : R := .seq (.ad [ro 5 (.ae (.t 0)),
 ro 6 (.len 84 (.t 5)),
 ro 7 (.eH 88 (.t 6) (.t 6)),
 ro 3 (.an (.t 7))] (some [0, 3])) Ng
def Ni : R := .seq (.ad [ro 2 (.an (.c .a_))] (some [0])) Nh
theorem Nj : b0 ⟨23, [0]⟩ (Try.f159.body.getD .skip) = some Ni.strip := by kernel_rfl
def Nk : R := .seq (.ad [ro 15 (.aW 90 (.t 3)),
 ⟨none, .de 90 (.t 2) (.t 15), none⟩] (some [2])) .ret
def Nl : R := .seq (.ad [ro 11 (.bs 86 (.t 1) 2),
 ro 12 (.aW 84 (.t 11)),
 ro 13 (.call (.f 159) [(.t 12)]),
 ro 14 (.bs 90 (.t 3) 2),
 ⟨none, .de 88 (.t 14) (.t 13), none⟩] (some [2, 3])) Nk
def Nm : R := .seq (.ad [ro 7 (.bs 86 (.t 1) 1),
 ro 8 (.aW 68 (.t 7)),
 ro 9 (.call (.f 150) [(.t 8)]),
 ro 10 (.bs 90 (.t 3) 1),
 ⟨none, .de 68 (.t 10) (.t 9), none⟩] (some [1, 2, 3])) Nl
def Nn : R := .seq (.ad [ro 4 (.bs 86 (.t 1) 0),
 ro 5 (.aW 2 (.t 4)),
 ro 6 (.bs 90 (.t 3) 0),
 ⟨none, .de 2 (.t 6) (.t 5), none⟩] (some [1, 2, 3])) Nm
def Np : R := .seq (.ad [ro 3 (.eV 90)] (some [1, 2, 3])) Nn
def Nq : R := .seq (.ad [ro 1 (.di 86 (.t 0)),
 ro 2 (.eV 90)] (some [1, 2])) Np
theorem Nr : b0 ⟨16, [0]⟩ (Try.f74.body.getD .skip) = some Nq.strip := by kernel_rfl
def Ns : R := .seq (.ad [ro 7 (.ae (.t 0)),
 ro 8 (.ae (.t 1)),
 ro 9 (.aK .geq 2 (.t 7) (.t 8)),
 ro 10 (.ae (.t 9)),
 ⟨some 11, .ae (.t 0), some (10, true)⟩,
 ⟨some 12, .ae (.t 2), some (10, true)⟩,
 ⟨some 13, .aK .leq 2 (.t 11) (.t 12), some (10, true)⟩,
 ro 14 (.pick (.t 10) (.t 13) (.c (.bool false))),
 ro 6 (.an (.t 14))] (some [6])) .ret
def Nt : R := .seq (.ad [ro 6 (.an (.c (.bool false)))] (some [0, 1, 2])) Ns
theorem Nu : b0 ⟨15, [0, 1, 2]⟩ (Try.f130.body.getD .skip) = some Nt.strip := by kernel_rfl
def Nv : R := .cond (.t 7) .skip (.exit 0)
def Nw : R := .seq (.ad [ro 2 (.an (.c (.bool false)))] (some [2])) .ret
def Nx : R := .cond (.t 15) Nw .skip
def Ny : R := .ad [ro 8 (.ae (.t 3)),
 ro 9 (.aK .add 3 (.t 8) (.c (.int .i64 1))),
 ro 3 (.an (.t 9))] (some [0, 3])
def Nz : R := .seq (.block 1 (.seq (.ad [ro 10 (.ae (.t 0)),
 ro 11 (.ae (.t 3)),
 ro 12 (.cp 68 (.t 10) (.t 11)),
 ro 13 (.aW 2 (.t 12)),
 ro 14 (.call (.f 130) [(.t 13), (.c (.int .i64 0)), (.c (.int .i64 63))]),
 ro 15 (.un .not (.t 14))] (some [0, 3, 15])) Nx)) Ny
def DX : R := .seq (.seq (.ad [ro 4 (.ae (.t 3)),
 ro 5 (.ae (.t 0)),
 ro 6 (.len 68 (.t 5)),
 ro 7 (.aK .lss 3 (.t 4) (.t 6))] (some [0, 3, 7])) Nv) Nz
def NA : R := .block 0 (.loop DX)
def NB : R := .seq (.ad [ro 2 (.an (.c (.bool true)))] (some [2])) .ret
def NC : R := .seq (.seq (.ad [ro 3 (.an (.c (.int .i64 0)))] (some [0, 3])) NA) NB
def ND : R := .seq (.ad [ro 2 (.an (.c (.bool false)))] (some [0])) NC
theorem NF : b0 ⟨16, [0]⟩ (Try.f228.body.getD .skip) = some ND.strip := by kernel_rfl
def NG : R := .seq (.ad [ro 5 (.ae (.t 0)),
 ro 6 (.len 68 (.t 5)),
 ro 7 (.ae (.t 1)),
 ro 8 (.aK .eql 2 (.t 6) (.t 7)),
 ro 9 (.ae (.t 8)),
 ⟨some 10, .ae (.t 0), some (9, true)⟩,
 ⟨some 11, .call (.f 228) [(.t 10)], some (9, true)⟩,
 ro 12 (.pick (.t 9) (.t 11) (.c (.bool false))),
 ro 4 (.an (.t 12))] (some [4])) .ret
def NH : R := .seq (.ad [ro 4 (.an (.c (.bool false)))] (some [0, 1])) NG
theorem NI : b0 ⟨13, [0, 1]⟩ (Try.f231.body.getD .skip) = some NH.strip := by kernel_rfl
def NJ : R := .seq (.ad [ro 2 (.an (.c (.int .i64 0)))] (some [2])) .ret
def NK : R := .cond (.t 7) NJ .skip
def NL : R := .cond (.t 11) .skip (.exit 0)
def NM : R := .seq (.ad [ro 2 (.an (.c (.int .i64 0)))] (some [2])) .ret
def NN : R := .cond (.t 19) NM .skip
def NO : R := .ad [ro 20 (.ae (.t 3)),
 ro 21 (.ae (.t 0)),
 ro 22 (.ae (.t 4)),
 ro 23 (.cp 68 (.t 21) (.t 22)),
 ro 24 (.aW 2 (.t 23)),
 ro 25 (.aK .add 2 (.t 24) (.c (.int .i64 1))),
 ro 26 (.aK .mul 2 (.t 20) (.t 25)),
 ro 3 (.an (.t 26))] (some [0, 3, 4])
def NP : R := .ad [ro 12 (.ae (.t 4)),
 ro 13 (.aK .add 3 (.t 12) (.c (.int .i64 1))),
 ro 4 (.an (.t 13))] (some [0, 3, 4])
def NQ : R := .seq (.block 1 (.seq (.seq (.ad [ro 14 (.ae (.t 0)),
 ro 15 (.ae (.t 4)),
 ro 16 (.cp 68 (.t 14) (.t 15)),
 ro 17 (.aW 2 (.t 16)),
 ro 18 (.call (.f 130) [(.t 17), (.c (.int .i64 1)), (.c (.int .i64 7))]),
 ro 19 (.un .not (.t 18))] (some [0, 3, 4, 19])) NN) NO)) NP
def DY : R := .seq (.seq (.ad [ro 8 (.ae (.t 4)),
 ro 9 (.ae (.t 0)),
 ro 10 (.len 68 (.t 9)),
 ro 11 (.aK .lss 3 (.t 8) (.t 10))] (some [0, 3, 4, 11])) NL) NQ
def NR : R := .block 0 (.loop DY)
def NS : R := .seq (.ad [ro 2 (.an (.c (.int .i64 0)))] (some [2])) .ret
def NT : R := .cond (.t 28) NS .skip
def NU : R := .seq (.ad [ro 29 (.ae (.t 3)),
 ro 2 (.an (.t 29))] (some [2])) .ret
def NV : R := .seq (.seq (.ad [ro 27 (.ae (.t 3)),
 ro 28 (.aK .gtr 2 (.t 27) (.c (.int .i64 4096)))] (some [3, 28])) NT) NU
def NW : R := .seq (.seq (.ad [ro 4 (.an (.c (.int .i64 0)))] (some [0, 3, 4])) NR) NV
def NX : R := .seq (.ad [ro 3 (.an (.c (.int .i64 1)))] (some [0, 3])) NW
def NY : R := .seq (.seq (.ad [ro 5 (.ae (.t 0)),
 ro 6 (.len 68 (.t 5)),
 ro 7 (.aK .gtr 3 (.t 6) (.c (.int .i64 8)))] (some [0, 7])) NK) NX
def NZ : R := .seq (.ad [ro 2 (.an (.c (.int .i64 0)))] (some [0])) NY
theorem N0 : b0 ⟨30, [0]⟩ (Try.f154.body.getD .skip) = some NZ.strip := by kernel_rfl
def N1 : R := .seq (.ad [ro 11 (.ae (.t 0)),
 ro 12 (.dw (.t 11)),
 ro 13 (.bs 131 (.t 12) 1),
 ro 14 (.aW 2 (.t 13)),
 ro 15 (.call (.f 130) [(.t 14), (.c (.int .i64 0)), (.c (.int .i64 63))]),
 ro 4 (.an (.t 15))] (some [4])) .ret
def N2 : R := .seq (.ad [ro 18 (.ae (.t 0)),
 ro 19 (.dw (.t 18)),
 ro 20 (.bs 131 (.t 19) 1),
 ro 21 (.aW 2 (.t 20)),
 ro 22 (.ae (.t 1)),
 ro 23 (.aK .sub 2 (.t 22) (.c (.int .i64 1))),
 ro 24 (.call (.f 130) [(.t 21), (.c (.int .i64 0)), (.t 23)]),
 ro 4 (.an (.t 24))] (some [4])) .ret
def N3 : R := .seq (.ad [ro 27 (.ae (.t 0)),
 ro 28 (.dw (.t 27)),
 ro 29 (.bs 131 (.t 28) 1),
 ro 30 (.aW 2 (.t 29)),
 ro 31 (.call (.f 130) [(.t 30), (.c (.int .i64 0)), (.c (.int .i64 8))]),
 ro 4 (.an (.t 31))] (some [4])) .ret
def N4 : R := .seq (.ad [ro 34 (.ae (.t 0)),
 ro 35 (.dw (.t 34)),
 ro 36 (.bs 131 (.t 35) 1),
 ro 37 (.aW 2 (.t 36)),
 ro 38 (.aK .eql 2 (.t 37) (.c (.int .i64 0))),
 ro 4 (.an (.t 38))] (some [4])) .ret
def N5 : R := .cond (.t 32) N4 .skip
def N6 : R := .seq (.ad [ro 33 (.aK .eql 2 (.t 8) (.c (.int .i64 3))),
 ro 32 (.an (.t 33))] (some [0, 32])) N5
def N7 : R := .cond (.t 25) N3 N6
def N8 : R := .seq (.ad [ro 26 (.aK .eql 2 (.t 8) (.c (.int .i64 2))),
 ro 25 (.an (.t 26))] (some [0, 8, 25])) N7
def N9 : R := .cond (.t 16) N2 N8
def N_ : R := .seq (.ad [ro 17 (.aK .eql 2 (.t 8) (.c (.int .i64 1))),
 ro 16 (.an (.t 17))] (some [0, 1, 8, 16])) N9
def Oa : R := .cond (.t 9) N1 N_
def Ob : R := .block 0 (.seq (.ad [ro 10 (.aK .eql 2 (.t 8) (.c (.int .i64 0))),
 ro 9 (.an (.t 10))] (some [0, 1, 8, 9])) Oa)
def Oc : R := .seq (.ad [ro 4 (.an (.c (.bool false)))] (some [4])) .ret
def Od : R := .seq (.seq (.ad [ro 5 (.ae (.t 0)),
 ro 6 (.dw (.t 5)),
 ro 7 (.bs 131 (.t 6) 0),
 ro 8 (.aW 2 (.t 7))] (some [0, 1, 8])) Ob) Oc
def Oe : R := .seq (.ad [ro 4 (.an (.c (.bool false)))] (some [0, 1])) Od
theorem Of : b0 ⟨39, [0, 1]⟩ (Try.f268.body.getD .skip) = some Oe.strip := by kernel_rfl
def Og : R := .seq (.ad [ro 2 (.an (.c (.int .i64 2)))] (some [2])) .ret
def Oh : R := .seq (.ad [ro 2 (.an (.c (.int .i64 1)))] (some [2])) .ret
def Oi : R := .cond (.t 9) Oh .skip
def Oj : R := .seq (.ad [ro 10 (.aK .eql 2 (.t 6) (.c (.int .i64 3))),
 ro 9 (.an (.t 10))] (some [9])) Oi
def Ol : R := .cond (.t 7) Og Oj
def Om : R := .block 0 (.seq (.ad [ro 8 (.aK .eql 2 (.t 6) (.c (.int .i64 2))),
 ro 7 (.an (.t 8))] (some [6, 7])) Ol)
def On : R := .seq (.ad [ro 2 (.an (.c (.int .i64 0)))] (some [2])) .ret
def Oo : R := .seq (.seq (.ad [ro 3 (.ae (.t 0)),
 ro 4 (.dw (.t 3)),
 ro 5 (.bs 131 (.t 4) 0),
 ro 6 (.aW 2 (.t 5))] (some [6])) Om) On
def Oq : R := .seq (.ad [ro 2 (.an (.c (.int .i64 0)))] (some [0])) Oo
theorem Ot : b0 ⟨11, [0]⟩ (Try.f196.body.getD .skip) = some Oq.strip := by kernel_rfl
def Ou : R := .seq (.ad [ro 6 (.an (.c (.bool false)))] (some [6])) .ret
def Ov : R := .cond (.t 12) Ou .skip
def Ow : R := .cond (.t 16) .skip (.exit 0)
def Ox : R := .seq (.ad [ro 6 (.an (.c (.bool false)))] (some [6])) .ret
def Oy : R := .cond (.t 28) Ox .skip
def Oz : R := .ad [ro 29 (.ae (.t 7)),
 ro 30 (.ae (.t 0)),
 ro 31 (.ae (.t 8)),
 ro 32 (.cp 40 (.t 30) (.t 31)),
 ro 33 (.call (.f 196) [(.t 32)]),
 ro 34 (.aK .sub 2 (.t 33) (.c (.int .i64 1))),
 ro 35 (.aK .add 2 (.t 29) (.t 34)),
 ro 7 (.an (.t 35))] (some [0, 1, 7, 8])
def OA : R := .ad [ro 17 (.ae (.t 8)),
 ro 18 (.aK .add 3 (.t 17) (.c (.int .i64 1))),
 ro 8 (.an (.t 18))] (some [0, 1, 7, 8])
def OB : R := .seq (.block 1 (.seq (.seq (.ad [ro 19 (.ae (.t 7)),
 ro 20 (.aK .eql 2 (.t 19) (.c (.int .i64 0))),
 ro 21 (.ae (.t 20)),
 ⟨some 22, .ae (.t 0), some (21, false)⟩,
 ⟨some 23, .ae (.t 8), some (21, false)⟩,
 ⟨some 24, .cp 40 (.t 22) (.t 23), some (21, false)⟩,
 ⟨some 25, .ae (.t 1), some (21, false)⟩,
 ⟨some 26, .call (.f 268) [(.t 24), (.t 25)], some (21, false)⟩,
 ⟨some 27, .un .not (.t 26), some (21, false)⟩,
 ro 28 (.pick (.t 21) (.c (.bool true)) (.t 27))] (some [0, 1, 7, 8, 28])) Oy) Oz)) OA
def DZ : R := .seq (.seq (.ad [ro 13 (.ae (.t 8)),
 ro 14 (.ae (.t 0)),
 ro 15 (.len 40 (.t 14)),
 ro 16 (.aK .lss 3 (.t 13) (.t 15))] (some [0, 1, 7, 8, 16])) Ow) OB
def OC : R := .block 0 (.loop DZ)
def OD : R := .seq (.ad [ro 36 (.ae (.t 7)),
 ro 37 (.aK .eql 2 (.t 36) (.c (.int .i64 0))),
 ro 6 (.an (.t 37))] (some [6])) .ret
def OE : R := .seq (.seq (.ad [ro 8 (.an (.c (.int .i64 0)))] (some [0, 1, 7, 8])) OC) OD
def OG : R := .seq (.ad [ro 7 (.an (.c (.int .i64 1)))] (some [0, 1, 7])) OE
def OH : R := .seq (.seq (.ad [ro 9 (.ae (.t 0)),
 ro 10 (.len 40 (.t 9)),
 ro 11 (.ae (.t 2)),
 ro 12 (.aK .gtr 2 (.t 10) (.t 11))] (some [0, 1, 12])) Ov) OG
def OI : R := .seq (.ad [ro 6 (.an (.c (.bool false)))] (some [0, 1, 2])) OH
theorem OJ : b0 ⟨38, [0, 1, 2]⟩ (Try.f195.body.getD .skip) = some OI.strip := by kernel_rfl
def OK : R := .cond (.t 9) .skip (.exit 0)
def OL : R := .seq (.ad [ro 4 (.an (.c (.bool false)))] (some [4])) .ret
def OM : R := .cond (.t 18) OL .skip
def ON : R := .ad [ro 10 (.ae (.t 5)),
 ro 11 (.aK .add 3 (.t 10) (.c (.int .i64 1))),
 ro 5 (.an (.t 11))] (some [0, 1, 5])
def OO : R := .seq (.block 1 (.seq (.ad [ro 12 (.ae (.t 0)),
 ro 13 (.ae (.t 5)),
 ro 14 (.cp 195 (.t 12) (.t 13)),
 ro 15 (.aW 40 (.t 14)),
 ro 16 (.ae (.t 1)),
 ro 17 (.call (.f 195) [(.t 15), (.t 16), (.c (.int .i64 60))]),
 ro 18 (.un .not (.t 17))] (some [0, 1, 5, 18])) OM)) ON
def D0 : R := .seq (.seq (.ad [ro 6 (.ae (.t 5)),
 ro 7 (.ae (.t 0)),
 ro 8 (.len 195 (.t 7)),
 ro 9 (.aK .lss 3 (.t 6) (.t 8))] (some [0, 1, 5, 9])) OK) OO
def OP : R := .block 0 (.loop D0)
def OQ : R := .seq (.ad [ro 4 (.an (.c (.bool true)))] (some [4])) .ret
def OR : R := .seq (.seq (.ad [ro 5 (.an (.c (.int .i64 0)))] (some [0, 1, 5])) OP) OQ
def OS : R := .seq (.ad [ro 4 (.an (.c (.bool false)))] (some [0, 1])) OR
theorem OT : b0 ⟨19, [0, 1]⟩ (Try.f289.body.getD .skip) = some OS.strip := by kernel_rfl
def OU : R := .seq (.ad [ro 3 (.ae (.t 0)),
 ro 4 (.aK .geq 5 (.t 3) (.c (.int .u8 97))),
 ro 5 (.ae (.t 4)),
 ⟨some 6, .ae (.t 0), some (5, true)⟩,
 ⟨some 7, .aK .leq 5 (.t 6) (.c (.int .u8 122)), some (5, true)⟩,
 ro 8 (.pick (.t 5) (.t 7) (.c (.bool false))),
 ro 2 (.an (.t 8))] (some [2])) .ret
def OV : R := .seq (.ad [ro 2 (.an (.c (.bool false)))] (some [0])) OU
theorem OW : b0 ⟨9, [0]⟩ (Try.f208.body.getD .skip) = some OV.strip := by kernel_rfl
def OX : R := .seq (.ad [ro 3 (.ae (.t 0)),
 ro 4 (.aK .geq 5 (.t 3) (.c (.int .u8 48))),
 ro 5 (.ae (.t 4)),
 ⟨some 6, .ae (.t 0), some (5, true)⟩,
 ⟨some 7, .aK .leq 5 (.t 6) (.c (.int .u8 57)), some (5, true)⟩,
 ro 8 (.pick (.t 5) (.t 7) (.c (.bool false))),
 ro 2 (.an (.t 8))] (some [2])) .ret
def OY : R := .seq (.ad [ro 2 (.an (.c (.bool false)))] (some [0])) OX
theorem OZ : b0 ⟨9, [0]⟩ (Try.f209.body.getD .skip) = some OY.strip := by kernel_rfl
def O0 : R := .seq (.ad [ro 2 (.an (.c (.bool false)))] (some [2])) .ret
def O1 : R := .cond (.t 16) O0 .skip
def O2 : R := .cond (.t 20) .skip (.exit 0)
def O3 : R := .seq (.ad [ro 2 (.an (.c (.bool false)))] (some [2])) .ret
def O4 : R := .cond (.t 34) O3 .skip
def O5 : R := .ad [ro 21 (.ae (.t 3)),
 ro 22 (.aK .add 3 (.t 21) (.c (.int .i64 1))),
 ro 3 (.an (.t 22))] (some [0, 3])
def O6 : R := .seq (.block 1 (.seq (.ad [ro 23 (.ae (.t 0)),
 ro 24 (.ae (.t 3)),
 ro 25 (.idx 9 (.t 23) (.t 24)),
 ro 26 (.call (.f 208) [(.t 25)]),
 ro 27 (.un .not (.t 26)),
 ro 28 (.ae (.t 27)),
 ⟨some 29, .ae (.t 0), some (28, true)⟩,
 ⟨some 30, .ae (.t 3), some (28, true)⟩,
 ⟨some 31, .idx 9 (.t 29) (.t 30), some (28, true)⟩,
 ⟨some 32, .call (.f 209) [(.t 31)], some (28, true)⟩,
 ⟨some 33, .un .not (.t 32), some (28, true)⟩,
 ro 34 (.pick (.t 28) (.t 33) (.c (.bool false)))] (some [0, 3, 34])) O4)) O5
def D1 : R := .seq (.seq (.ad [ro 17 (.ae (.t 3)),
 ro 18 (.ae (.t 0)),
 ro 19 (.len 9 (.t 18)),
 ro 20 (.aK .lss 3 (.t 17) (.t 19))] (some [0, 3, 20])) O2) O6
def O7 : R := .block 0 (.loop D1)
def O8 : R := .seq (.ad [ro 2 (.an (.c (.bool true)))] (some [2])) .ret
def O9 : R := .seq (.seq (.ad [ro 3 (.an (.c (.int .i64 0)))] (some [0, 3])) O7) O8
def O_ : R := .seq (.seq (.ad [ro 4 (.ae (.t 0)),
 ro 5 (.aK .eql 9 (.t 4) (.c (.str []))),
 ro 6 (.ae (.t 5)),
 ⟨some 7, .ae (.t 0), some (6, false)⟩,
 ⟨some 8, .len 9 (.t 7), some (6, false)⟩,
 ⟨some 9, .aK .gtr 3 (.t 8) (.c (.int .i64 10)), some (6, false)⟩,
 ro 10 (.pick (.t 6) (.c (.bool true)) (.t 9)),
 ro 11 (.ae (.t 10)),
 ⟨some 12, .ae (.t 0), some (11, false)⟩,
 ⟨some 13, .idx 9 (.t 12) (.c (.int .i64 0)), some (11, false)⟩,
 ⟨some 14, .call (.f 208) [(.t 13)], some (11, false)⟩,
 ⟨some 15, .un .not (.t 14), some (11, false)⟩,
 ro 16 (.pick (.t 11) (.c (.bool true)) (.t 15))] (some [0, 16])) O1) O9
def Pa : R := .seq (.ad [ro 2 (.an (.c (.bool false)))] (some [0])) O_
theorem Pb : b0 ⟨35, [0]⟩ (Try.f124.body.getD .skip) = some Pa.strip := by kernel_rfl
def Pc : R := .seq (.ad [ro 3 (.ae (.t 0)),
 ro 4 (.call (.f 124) [(.t 3)]),
 ro 5 (.ae (.t 4)),
 ⟨some 6, .ae (.t 0), some (5, true)⟩,
 ⟨some 7, .aK .neq 9 (.t 6) (.c (.str [116, 97, 117])), some (5, true)⟩,
 ro 8 (.pick (.t 5) (.t 7) (.c (.bool false))),
 ro 2 (.an (.t 8))] (some [2])) .ret
def Pd : R := .seq (.ad [ro 2 (.an (.c (.bool false)))] (some [0])) Pc
theorem Pe : b0 ⟨9, [0]⟩ (Try.f288.body.getD .skip) = some Pd.strip := by kernel_rfl
def Pf : R := .seq (.ad [ro 4 (.an (.c (.bool false)))] (some [4])) .ret
def Pg : R := .cond (.t 11) Pf .skip
def Ph : R := .seq (.ad [ro 4 (.an (.c (.bool false)))] (some [4])) .ret
def Pj : R := .cond (.t 34) Ph .skip
def Pk : R := .seq (.ad [ro 4 (.an (.c (.bool false)))] (some [4])) .ret
def Pl : R := .cond (.t 70) Pk .skip
def Pm : R := .seq (.ad [ro 71 (.ae (.t 0)),
 ro 72 (.dw (.t 71)),
 ro 73 (.bs 197 (.t 72) 3),
 ro 74 (.aW 195 (.t 73)),
 ro 75 (.ae (.t 5)),
 ro 76 (.call (.f 289) [(.t 74), (.t 75)]),
 ro 77 (.ae (.t 76)),
 ⟨some 78, .ae (.t 0), some (77, true)⟩,
 ⟨some 79, .dw (.t 78), some (77, true)⟩,
 ⟨some 80, .bs 197 (.t 79) 4, some (77, true)⟩,
 ⟨some 81, .aW 195 (.t 80), some (77, true)⟩,
 ⟨some 82, .ae (.t 5), some (77, true)⟩,
 ⟨some 83, .call (.f 289) [(.t 81), (.t 82)], some (77, true)⟩,
 ro 84 (.pick (.t 77) (.t 83) (.c (.bool false))),
 ro 4 (.an (.t 84))] (some [4])) .ret
def Pn : R := .seq (.seq (.ad [ro 35 (.ae (.t 0)),
 ro 36 (.dw (.t 35)),
 ro 37 (.bs 197 (.t 36) 2),
 ro 38 (.aW 9 (.t 37)),
 ro 39 (.aK .eql 9 (.t 38) (.c (.str [116, 97, 117]))),
 ro 40 (.ae (.t 39)),
 ⟨some 41, .ae (.t 0), some (40, true)⟩,
 ⟨some 42, .dw (.t 41), some (40, true)⟩,
 ⟨some 43, .bs 197 (.t 42) 3, some (40, true)⟩,
 ⟨some 44, .aW 195 (.t 43), some (40, true)⟩,
 ⟨some 45, .len 195 (.t 44), some (40, true)⟩,
 ⟨some 46, .aK .gtr 3 (.t 45) (.c (.int .i64 0)), some (40, true)⟩,
 ro 47 (.pick (.t 40) (.t 46) (.c (.bool false))),
 ro 48 (.ae (.t 47)),
 ⟨some 49, .ae (.t 0), some (48, false)⟩,
 ⟨some 50, .dw (.t 49), some (48, false)⟩,
 ⟨some 51, .bs 197 (.t 50) 2, some (48, false)⟩,
 ⟨some 52, .aW 9 (.t 51), some (48, false)⟩,
 ⟨some 53, .aK .neq 9 (.t 52) (.c (.str [116, 97, 117])), some (48, false)⟩,
 ⟨some 54, .ae (.t 53), some (48, false)⟩,
 ⟨some 55, .ae (.t 0), some (54, true)⟩,
 ⟨some 56, .dw (.t 55), some (54, true)⟩,
 ⟨some 57, .bs 197 (.t 56) 2, some (54, true)⟩,
 ⟨some 58, .aW 9 (.t 57), some (54, true)⟩,
 ⟨some 59, .call (.f 288) [(.t 58)], some (54, true)⟩,
 ⟨some 60, .un .not (.t 59), some (54, true)⟩,
 ⟨some 61, .pick (.t 54) (.t 60) (.c (.bool false)), some (48, false)⟩,
 ro 62 (.pick (.t 48) (.c (.bool true)) (.t 61)),
 ro 63 (.ae (.t 62)),
 ⟨some 64, .ae (.t 0), some (63, false)⟩,
 ⟨some 65, .dw (.t 64), some (63, false)⟩,
 ⟨some 66, .bs 197 (.t 65) 3, some (63, false)⟩,
 ⟨some 67, .aW 195 (.t 66), some (63, false)⟩,
 ⟨some 68, .len 195 (.t 67), some (63, false)⟩,
 ⟨some 69, .aK .gtr 3 (.t 68) (.c (.int .i64 2)), some (63, false)⟩,
 ro 70 (.pick (.t 63) (.c (.bool true)) (.t 69))] (some [0, 5, 70])) Pl) Pm
def Po : R := .seq (.seq (.ad [ro 19 (.ae (.t 0)),
 ro 20 (.dw (.t 19)),
 ro 21 (.bs 197 (.t 20) 1),
 ro 22 (.aW 40 (.t 21)),
 ro 23 (.ae (.t 5)),
 ro 24 (.call (.f 195) [(.t 22), (.t 23), (.c (.int .i64 60))]),
 ro 25 (.un .not (.t 24)),
 ro 26 (.ae (.t 25)),
 ⟨some 27, .ae (.t 0), some (26, false)⟩,
 ⟨some 28, .dw (.t 27), some (26, false)⟩,
 ⟨some 29, .bs 197 (.t 28) 4, some (26, false)⟩,
 ⟨some 30, .aW 195 (.t 29), some (26, false)⟩,
 ⟨some 31, .len 195 (.t 30), some (26, false)⟩,
 ⟨some 32, .ae (.t 1), some (26, false)⟩,
 ⟨some 33, .aK .neq 2 (.t 31) (.t 32), some (26, false)⟩,
 ro 34 (.pick (.t 26) (.c (.bool true)) (.t 33))] (some [0, 5, 34])) Pj) Pn
def Pp : R := .seq (.ad [ro 12 (.ae (.t 1)),
 ro 13 (.ae (.t 0)),
 ro 14 (.dw (.t 13)),
 ro 15 (.bs 197 (.t 14) 0),
 ro 16 (.aW 68 (.t 15)),
 ro 17 (.len 68 (.t 16)),
 ro 18 (.aK .add 2 (.t 12) (.t 17)),
 ro 5 (.an (.t 18))] (some [0, 1, 5])) Po
def Pq : R := .seq (.seq (.ad [ro 6 (.ae (.t 0)),
 ro 7 (.dw (.t 6)),
 ro 8 (.bs 197 (.t 7) 0),
 ro 9 (.aW 68 (.t 8)),
 ro 10 (.call (.f 154) [(.t 9)]),
 ro 11 (.aK .eql 2 (.t 10) (.c (.int .i64 0)))] (some [0, 1, 11])) Pg) Pp
def Pr : R := .seq (.ad [ro 4 (.an (.c (.bool false)))] (some [0, 1])) Pq
theorem Ps : b0 ⟨85, [0, 1]⟩ (Try.f232.body.getD .skip) = some Pr.strip := by kernel_rfl
def Pt : R := .seq (.ad [ro 2 (.an (.c (.bool false)))] (some [2])) .ret
def Pu : R := .cond (.t 29) Pt .skip
def Pv : R := .cond (.t 36) .skip (.exit 0)
def Pw : R := .seq (.ad [ro 2 (.an (.c (.bool false)))] (some [2])) .ret
def Px : R := .cond (.t 50) Pw .skip
def Py : R := .ad [ro 37 (.ae (.t 3)),
 ro 38 (.aK .add 3 (.t 37) (.c (.int .i64 1))),
 ro 3 (.an (.t 38))] (some [0, 3])
def Pz : R := .seq (.block 1 (.seq (.hJ [ro 39 (.ae (.t 0)),
 ro 40 (.dw (.t 39)),
 ro 41 (.bs 90 (.t 40) 2),
 ro 42 (.aW 88 (.t 41)),
 ro 43 (.ae (.t 3)),
 ro 44 (.cp 88 (.t 42) (.t 43)),
 ro 45 (.ae (.t 0)),
 ro 46 (.dw (.t 45)),
 ro 47 (.bs 90 (.t 46) 0),
 ro 48 (.aW 2 (.t 47)),
 ro 49 (.call (.f 232) [(.t 44), (.t 48)]),
 ro 50 (.un .not (.t 49))] [[], [0], [1], [2], [], [3, 4], [], [6], [7], [8], [5, 9], [10]] (some [0, 3, 50])) Px)) Py
def D2 : R := .seq (.seq (.ad [ro 30 (.ae (.t 3)),
 ro 31 (.ae (.t 0)),
 ro 32 (.dw (.t 31)),
 ro 33 (.bs 90 (.t 32) 2),
 ro 34 (.aW 88 (.t 33)),
 ro 35 (.len 88 (.t 34)),
 ro 36 (.aK .lss 3 (.t 30) (.t 35))] (some [0, 3, 36])) Pv) Pz
def PA : R := .block 0 (.loop D2)
def PB : R := .seq (.ad [ro 2 (.an (.c (.bool true)))] (some [2])) .ret
def PC : R := .seq (.seq (.ad [ro 3 (.an (.c (.int .i64 0)))] (some [0, 3])) PA) PB
def PD : R := .seq (.seq (.hJ [ro 4 (.ae (.t 0)),
 ro 5 (.dw (.t 4)),
 ro 6 (.bs 90 (.t 5) 0),
 ro 7 (.aW 2 (.t 6)),
 ro 8 (.call (.f 130) [(.t 7), (.c (.int .i64 0)), (.c (.int .i64 21))]),
 ro 9 (.un .not (.t 8)),
 ro 10 (.ae (.t 9)),
 ⟨some 11, .ae (.t 0), some (10, false)⟩,
 ⟨some 12, .dw (.t 11), some (10, false)⟩,
 ⟨some 13, .bs 90 (.t 12) 1, some (10, false)⟩,
 ⟨some 14, .aW 68 (.t 13), some (10, false)⟩,
 ⟨some 15, .ae (.t 0), some (10, false)⟩,
 ⟨some 16, .dw (.t 15), some (10, false)⟩,
 ⟨some 17, .bs 90 (.t 16) 0, some (10, false)⟩,
 ⟨some 18, .aW 2 (.t 17), some (10, false)⟩,
 ⟨some 19, .call (.f 231) [(.t 14), (.t 18)], some (10, false)⟩,
 ⟨some 20, .un .not (.t 19), some (10, false)⟩,
 ro 21 (.pick (.t 10) (.c (.bool true)) (.t 20)),
 ro 22 (.ae (.t 21)),
 ⟨some 23, .ae (.t 0), some (22, false)⟩,
 ⟨some 24, .dw (.t 23), some (22, false)⟩,
 ⟨some 25, .bs 90 (.t 24) 2, some (22, false)⟩,
 ⟨some 26, .aW 88 (.t 25), some (22, false)⟩,
 ⟨some 27, .len 88 (.t 26), some (22, false)⟩,
 ⟨some 28, .aK .gtr 3 (.t 27) (.c (.int .i64 60)), some (22, false)⟩,
 ro 29 (.pick (.t 22) (.c (.bool true)) (.t 28))] [[], [0], [1], [2], [3], [4], [5, 4], [6], [7, 6], [8, 6], [9, 6], [6], [11, 6], [12, 6], [13, 6], [10, 14, 6, 6], [15, 6], [6, 16], [17, 15], [18], [19, 18], [20, 18], [21, 18], [22, 18], [23, 18], [18, 24]] (some [0, 29])) Pu) PC
def PE : R := .seq (.ad [ro 2 (.an (.c (.bool false)))] (some [0])) PD
theorem PF : b0 ⟨51, [0]⟩ (Try.f153.body.getD .skip) = some PE.strip := by kernel_rfl
def PG : R := .cond (.t 9) .skip (.exit 0)
def PH : R := .seq (.ad [ro 18 (.ae (.t 5)),
 ro 4 (.an (.t 18))] (some [4])) .ret
def PI : R := .cond (.t 17) PH .skip
def PJ : R := .ad [ro 10 (.ae (.t 5)),
 ro 11 (.aK .add 3 (.t 10) (.c (.int .i64 1))),
 ro 5 (.an (.t 11))] (some [0, 1, 5])
def PK : R := .seq (.block 1 (.seq (.ad [ro 12 (.ae (.t 0)),
 ro 13 (.ae (.t 5)),
 ro 14 (.cp 100 (.t 12) (.t 13)),
 ro 15 (.aW 9 (.t 14)),
 ro 16 (.ae (.t 1)),
 ro 17 (.aK .eql 9 (.t 15) (.t 16))] (some [0, 1, 5, 17])) PI)) PJ
def D3 : R := .seq (.seq (.ad [ro 6 (.ae (.t 5)),
 ro 7 (.ae (.t 0)),
 ro 8 (.len 100 (.t 7)),
 ro 9 (.aK .lss 3 (.t 6) (.t 8))] (some [0, 1, 5, 9])) PG) PK
def PL : R := .block 0 (.loop D3)
def PM : R := .seq (.ad [ro 4 (.an (.c (.int .i64 (-1))))] (some [4])) .ret
def PN : R := .seq (.seq (.ad [ro 5 (.an (.c (.int .i64 0)))] (some [0, 1, 5])) PL) PM
def PO : R := .seq (.ad [ro 4 (.an (.c (.int .i64 0)))] (some [0, 1])) PN
theorem PQ : b0 ⟨19, [0, 1]⟩ (Try.f258.body.getD .skip) = some PO.strip := by kernel_rfl
def PR : R := .cond (.t 11) .skip (.exit 0)
def PS : R := .cond (.t 20) (.exit 1) .skip
def PT : R := .cond (.t 35) .skip (.exit 2)
def PU : R := .block 3 (.ad [ro 36 (.ae (.t 5)),
 ro 37 (.aK .add 3 (.t 36) (.c (.int .i64 1))),
 ro 5 (.an (.t 37))] (some [0, 3, 4, 5]))
def D4 : R := .seq (.seq (.hJ [ro 21 (.ae (.t 5)),
 ro 22 (.ae (.t 3)),
 ro 23 (.len 100 (.t 22)),
 ro 24 (.aK .lss 3 (.t 21) (.t 23)),
 ro 25 (.ae (.t 24)),
 ⟨some 26, .ae (.t 3), some (25, true)⟩,
 ⟨some 27, .ae (.t 5), some (25, true)⟩,
 ⟨some 28, .cp 100 (.t 26) (.t 27), some (25, true)⟩,
 ⟨some 29, .aW 9 (.t 28), some (25, true)⟩,
 ⟨some 30, .ae (.t 0), some (25, true)⟩,
 ⟨some 31, .ae (.t 4), some (25, true)⟩,
 ⟨some 32, .cp 100 (.t 30) (.t 31), some (25, true)⟩,
 ⟨some 33, .aW 9 (.t 32), some (25, true)⟩,
 ⟨some 34, .aK .lss 9 (.t 29) (.t 33), some (25, true)⟩,
 ro 35 (.pick (.t 25) (.t 34) (.c (.bool false)))] [[], [], [1], [0, 2], [3], [4], [4], [5, 6, 4], [7, 4], [4], [4], [9, 10, 4], [11, 4], [8, 12, 4], [4, 13]] (some [0, 3, 4, 5, 35])) PT) PU
def PV : R := .cond (.t 46) .skip (.exit 4)
def PW : R := .ad [ro 47 (.ae (.t 6)),
 ro 48 (.aK .sub 3 (.t 47) (.c (.int .i64 1))),
 ro 6 (.an (.t 48))] (some [0, 3, 4, 5, 6])
def PX : R := .seq (.block 5 (.ad [ro 49 (.ae (.t 3)),
 ro 50 (.ae (.t 6)),
 ro 51 (.ae (.t 3)),
 ro 52 (.ae (.t 6)),
 ro 53 (.aK .sub 3 (.t 52) (.c (.int .i64 1))),
 ro 54 (.cp 100 (.t 51) (.t 53)),
 ro 55 (.aW 9 (.t 54)),
 ro 56 (.cp 100 (.t 49) (.t 50)),
 ⟨none, .de 9 (.t 56) (.t 55), none⟩] (some [0, 3, 4, 5, 6]))) PW
def zf : R := .seq (.seq (.ad [ro 44 (.ae (.t 6)),
 ro 45 (.ae (.t 5)),
 ro 46 (.aK .gtr 3 (.t 44) (.t 45))] (some [0, 3, 4, 5, 6, 46])) PV) PX
def PY : R := .block 4 (.loop zf)
def PZ : R := .ad [ro 57 (.ae (.t 3)),
 ro 58 (.ae (.t 5)),
 ro 59 (.ae (.t 0)),
 ro 60 (.ae (.t 4)),
 ro 61 (.cp 100 (.t 59) (.t 60)),
 ro 62 (.aW 9 (.t 61)),
 ro 63 (.cp 100 (.t 57) (.t 58)),
 ⟨none, .de 9 (.t 63) (.t 62), none⟩] (some [0, 3, 4])
def P0 : R := .seq (.seq (.ad [ro 41 (.ae (.t 3)),
 ro 42 (.len 100 (.t 41)),
 ro 43 (.aK .sub 3 (.t 42) (.c (.int .i64 1))),
 ro 6 (.an (.t 43))] (some [0, 3, 4, 5, 6])) PY) PZ
def P1 : R := .seq (.ad [ro 38 (.ae (.t 3)),
 ro 39 (.c_ 100 1 [(0, (.c (.str [])))]),
 ro 40 (.app 100 100 (.t 38) (.t 39)),
 ro 3 (.an (.t 40))] (some [0, 3, 4, 5])) P0
def P2 : R := .seq (.block 2 (.loop D4)) P1
def P3 : R := .seq (.ad [ro 5 (.an (.c (.int .i64 1)))] (some [0, 3, 4, 5])) P2
def D5 : R := .ad [ro 12 (.ae (.t 4)),
 ro 13 (.aK .add 3 (.t 12) (.c (.int .i64 1))),
 ro 4 (.an (.t 13))] (some [0, 3, 4])
def P4 : R := .seq (.block 1 (.seq (.seq (.ad [ro 14 (.ae (.t 3)),
 ro 15 (.ae (.t 0)),
 ro 16 (.ae (.t 4)),
 ro 17 (.cp 100 (.t 15) (.t 16)),
 ro 18 (.aW 9 (.t 17)),
 ro 19 (.call (.f 258) [(.t 14), (.t 18)]),
 ro 20 (.aK .geq 2 (.t 19) (.c (.int .i64 0)))] (some [0, 3, 4, 20])) PS) P3)) D5
def D6 : R := .seq (.seq (.ad [ro 8 (.ae (.t 4)),
 ro 9 (.ae (.t 0)),
 ro 10 (.len 100 (.t 9)),
 ro 11 (.aK .lss 3 (.t 8) (.t 10))] (some [0, 3, 4, 11])) PR) P4
def P5 : R := .block 0 (.loop D6)
def P6 : R := .seq (.ad [ro 64 (.ae (.t 3)),
 ro 2 (.an (.t 64))] (some [2])) .ret
def P7 : R := .seq (.seq (.ad [ro 4 (.an (.c (.int .i64 0)))] (some [0, 3, 4])) P5) P6
def P8 : R := .seq (.ad [ro 7 (.c_ 100 1 [(0, (.c (.str [116, 97, 117])))]),
 ro 3 (.an (.t 7))] (some [0, 3])) P7
def P9 : R := .seq (.ad [ro 2 (.an (.c .a_))] (some [0])) P8
theorem P_ : b0 ⟨65, [0]⟩ (Try.f177.body.getD .skip) = some P9.strip := by kernel_rfl
def Qa : R := .seq (.ad [ro 2 (.an (.c .a_)),
 ro 3 (.an (.c (.int .i64 1)))] (some [2, 3])) .ret
def Qb : R := .cond (.t 7) Qa .skip
def Qc : R := .cond (.t 13) .skip (.exit 0)
def Qd : R := .ad [ro 14 (.ae (.t 5)),
 ro 15 (.aK .add 3 (.t 14) (.c (.int .i64 1))),
 ro 5 (.an (.t 15))] (some [1, 4, 5])
def Qe : R := .seq (.block 1 (.ad [ro 16 (.ae (.t 4)),
 ro 17 (.bs 90 (.t 1) 2),
 ro 18 (.aW 88 (.t 17)),
 ro 19 (.ae (.t 5)),
 ro 20 (.cp 88 (.t 18) (.t 19)),
 ro 21 (.bs 197 (.t 20) 2),
 ro 22 (.aW 9 (.t 21)),
 ro 23 (.c_ 100 1 [(0, (.t 22))]),
 ro 24 (.app 100 100 (.t 16) (.t 23)),
 ro 4 (.an (.t 24))] (some [1, 4, 5]))) Qd
def D7 : R := .seq (.seq (.ad [ro 9 (.ae (.t 5)),
 ro 10 (.bs 90 (.t 1) 2),
 ro 11 (.aW 88 (.t 10)),
 ro 12 (.len 88 (.t 11)),
 ro 13 (.aK .lss 3 (.t 9) (.t 12))] (some [1, 4, 5, 13])) Qc) Qe
def Qf : R := .block 0 (.loop D7)
def Qg : R := .seq (.ad [ro 25 (.c_ 100 0 []),
 ro 26 (.ae (.t 4)),
 ro 27 (.call (.f 177) [(.t 26)]),
 ro 28 (.dx 100 (.t 27) (some (.c (.int .i64 1))) none),
 ro 29 (.app 100 100 (.t 25) (.t 28)),
 ro 2 (.an (.t 29)),
 ro 3 (.an (.c (.int .i64 0)))] (some [2, 3])) .ret
def Qh : R := .seq (.seq (.ad [ro 5 (.an (.c (.int .i64 0)))] (some [1, 4, 5])) Qf) Qg
def Qi : R := .seq (.ad [ro 8 (.c_ 100 0 []),
 ro 4 (.an (.t 8))] (some [1, 4])) Qh
def Qj : R := .seq (.seq (.ad [ro 6 (.call (.f 153) [(.t 1)]),
 ro 7 (.un .not (.t 6))] (some [1, 7])) Qb) Qi
def Qk : R := .seq (.ad [ro 1 (.di 90 (.t 0)),
 ro 2 (.an (.c .a_)),
 ro 3 (.an (.c (.int .i64 0)))] (some [1])) Qj
theorem Ql : b0 ⟨30, [0]⟩ (Try.f83.body.getD .skip) = some Qk.strip := by kernel_rfl
def Qm : R := .seq (.ad [ro 7 (.ae (.t 0)),
 ro 8 (.ae (.t 1)),
 ro 9 (.aK .geq 2 (.t 7) (.t 8)),
 ro 10 (.ae (.t 9)),
 ⟨some 11, .ae (.t 0), some (10, true)⟩,
 ⟨some 12, .ae (.t 2), some (10, true)⟩,
 ⟨some 13, .aK .leq 2 (.t 11) (.t 12), some (10, true)⟩,
 ro 14 (.pick (.t 10) (.t 13) (.c (.bool false))),
 ro 6 (.an (.t 14))] (some [6])) .ret
def Qn : R := .seq (.ad [ro 6 (.an (.c (.bool false)))] (some [0, 1, 2])) Qm
theorem Qo : b0 ⟨15, [0, 1, 2]⟩ (Try.f138.body.getD .skip) = some Qn.strip := by kernel_rfl
def Qp : R := .seq (.ad [ro 3 (.ae (.t 0)),
 ro 4 (.call (.f 138) [(.t 3), (.c (.int .i64 0)), (.c (.int .i64 63))]),
 ro 2 (.an (.t 4))] (some [2])) .ret
def Qq : R := .seq (.ad [ro 2 (.an (.c (.bool false)))] (some [0])) Qp
theorem Qr : b0 ⟨5, [0]⟩ (Try.f286.body.getD .skip) = some Qq.strip := by kernel_rfl
def Qs : R := .seq (.ad [ro 3 (.ae (.t 0)),
 ro 4 (.call (.f 286) [(.t 3)]),
 ro 5 (.un .not (.t 4)),
 ro 2 (.an (.t 5))] (some [2])) .ret
def Qt : R := .seq (.ad [ro 2 (.an (.c (.bool false)))] (some [0])) Qs
theorem Qu : b0 ⟨6, [0]⟩ (Try.f285.body.getD .skip) = some Qt.strip := by kernel_rfl
def Qv : R := .seq (.ad [ro 17 (.ae (.t 5)),
 ro 4 (.an (.t 17))] (some [4])) .ret
def Qw : R := .cond (.t 16) Qv .skip
def Qx : R := .seq (.ad [ro 11 (.ae (.t 1)),
 ro 12 (.ae (.t 0)),
 ro 13 (.ae (.t 5)),
 ro 14 (.cp 68 (.t 12) (.t 13)),
 ro 15 (.aW 2 (.t 14)),
 ro 16 (.call (.t 11) [(.t 15)])] (some [0, 1, 5, 7, 8, 16])) Qw
def Qy : R := .ad [ro 18 (.aK .add 3 (.t 8) (.c (.int .i64 1))),
 ro 8 (.ae (.t 18))] (some [0, 1, 7, 8])
def Qz : R := .seq (.block 1 (.seq (.ad [ro 10 (.ae (.t 8)),
 ro 5 (.an (.t 10))] (some [0, 1, 5, 7, 8])) Qx)) Qy
def QA : R := .seq (.cond (.t 9) .skip (.exit 0)) Qz
def D8 : R := .seq (.ad [ro 9 (.aK .lss 3 (.t 8) (.t 7))] (some [0, 1, 7, 8, 9])) QA
def QB : R := .block 0 (.loop D8)
def QC : R := .seq (.ad [ro 4 (.an (.c (.int .i64 (-1))))] (some [4])) .ret
def QD : R := .seq (.seq (.ad [ro 6 (.ae (.t 0)),
 ro 7 (.len 68 (.t 6)),
 ro 8 (.ae (.c (.int .i64 0)))] (some [0, 1, 7, 8])) QB) QC
def QE : R := .seq (.ad [ro 4 (.an (.c (.int .i64 0)))] (some [0, 1])) QD
theorem QF : b0 ⟨19, [0, 1]⟩ (Try.f304.body.getD .skip) = some QE.strip := by kernel_rfl
def QG : R := .seq (.ad [ro 5 (.ae (.t 0)),
 ro 6 (.ae (.t 1)),
 ro 7 (.call (.f 304) [(.t 5), (.t 6)]),
 ro 8 (.aK .geq 3 (.t 7) (.c (.int .i64 0))),
 ro 4 (.an (.t 8))] (some [4])) .ret
def QH : R := .seq (.ad [ro 4 (.an (.c (.bool false)))] (some [0, 1])) QG
theorem QI : b0 ⟨9, [0, 1]⟩ (Try.f284.body.getD .skip) = some QH.strip := by kernel_rfl
def QJ : R := .seq (.ad [ro 3 (.ae (.t 0)),
 ro 4 (.call (.f 284) [(.t 3), (.f 285)]),
 ro 5 (.un .not (.t 4)),
 ro 2 (.an (.t 5))] (some [2])) .ret
def QK : R := .seq (.ad [ro 2 (.an (.c (.bool false)))] (some [0])) QJ
theorem QL : b0 ⟨6, [0]⟩ (Try.f229.body.getD .skip) = some QK.strip := by kernel_rfl
def QM : R := .seq (.ad [ro 5 (.ae (.t 1)),
 ro 6 (.len 68 (.t 5)),
 ro 7 (.bs 90 (.t 2) 0),
 ro 8 (.aW 2 (.t 7)),
 ro 9 (.aK .eql 2 (.t 6) (.t 8)),
 ro 10 (.ae (.t 9)),
 ⟨some 11, .ae (.t 1), some (10, true)⟩,
 ⟨some 12, .call (.f 229) [(.t 11)], some (10, true)⟩,
 ro 13 (.pick (.t 10) (.t 12) (.c (.bool false))),
 ro 4 (.an (.t 13))] (some [4])) .ret
def QN : R := .seq (.ad [ro 2 (.di 90 (.t 0)),
 ro 4 (.an (.c (.bool false)))] (some [1, 2])) QM
theorem QO : b0 ⟨14, [0, 1]⟩ (Try.f234.body.getD .skip) = some QN.strip := by kernel_rfl
def QP : R := .seq (.ad [ro 2 (.an (.c (.bool false)))] (some [2])) .ret
def QQ : R := .cond (.t 15) QP .skip
def QR : R := .ad [ro 16 (.ae (.t 3)),
 ro 17 (.ae (.t 5)),
 ro 18 (.aK .add 2 (.t 17) (.c (.int .i64 1))),
 ro 19 (.aK .mul 2 (.t 16) (.t 18)),
 ro 3 (.an (.t 19))] (some [1, 3, 7, 8, 9])
def QS : R := .seq (.seq (.ad [ro 13 (.ae (.t 5)),
 ro 14 (.call (.f 138) [(.t 13), (.c (.int .i64 1)), (.c (.int .i64 7))]),
 ro 15 (.un .not (.t 14))] (some [1, 3, 5, 7, 8, 9, 15])) QQ) QR
def QT : R := .ad [ro 20 (.aK .add 3 (.t 9) (.c (.int .i64 1))),
 ro 9 (.ae (.t 20))] (some [1, 3, 7, 8, 9])
def QU : R := .seq (.block 1 (.seq (.ad [ro 11 (.cp 68 (.t 7) (.t 9)),
 ro 12 (.aW 2 (.t 11)),
 ro 5 (.an (.t 12))] (some [1, 3, 5, 7, 8, 9])) QS)) QT
def QV : R := .seq (.cond (.t 10) .skip (.exit 0)) QU
def D9 : R := .seq (.ad [ro 10 (.aK .lss 3 (.t 9) (.t 8))] (some [1, 3, 7, 8, 9, 10])) QV
def QW : R := .block 0 (.loop D9)
def QX : R := .seq (.ad [ro 21 (.bs 197 (.t 1) 0),
 ro 22 (.aW 68 (.t 21)),
 ro 23 (.len 68 (.t 22)),
 ro 24 (.aK .leq 3 (.t 23) (.c (.int .i64 8))),
 ro 25 (.ae (.t 24)),
 ⟨some 26, .ae (.t 3), some (25, true)⟩,
 ⟨some 27, .aK .leq 2 (.t 26) (.c (.int .i64 4096)), some (25, true)⟩,
 ro 28 (.pick (.t 25) (.t 27) (.c (.bool false))),
 ro 2 (.an (.t 28))] (some [2])) .ret
def QY : R := .seq (.seq (.ad [ro 6 (.bs 197 (.t 1) 0),
 ro 7 (.aW 68 (.t 6)),
 ro 8 (.len 68 (.t 7)),
 ro 9 (.ae (.c (.int .i64 0)))] (some [1, 3, 7, 8, 9])) QW) QX
def QZ : R := .seq (.ad [ro 3 (.an (.c (.int .i64 1)))] (some [1, 3])) QY
def Q0 : R := .seq (.ad [ro 1 (.di 197 (.t 0)),
 ro 2 (.an (.c (.bool false)))] (some [1])) QZ
theorem Q1 : b0 ⟨29, [0]⟩ (Try.f292.body.getD .skip) = some Q0.strip := by kernel_rfl
def Q2 : R := .seq (.ad [ro 3 (.ae (.t 0)),
 ro 4 (.aK .geq 5 (.t 3) (.c (.int .u8 48))),
 ro 5 (.ae (.t 4)),
 ⟨some 6, .ae (.t 0), some (5, true)⟩,
 ⟨some 7, .aK .leq 5 (.t 6) (.c (.int .u8 57)), some (5, true)⟩,
 ro 8 (.pick (.t 5) (.t 7) (.c (.bool false))),
 ro 2 (.an (.t 8))] (some [2])) .ret
def Q3 : R := .seq (.ad [ro 2 (.an (.c (.bool false)))] (some [0])) Q2
theorem Q4 : b0 ⟨9, [0]⟩ (Try.f211.body.getD .skip) = some Q3.strip := by kernel_rfl
def Q5 : R := .seq (.ad [ro 2 (.an (.c (.bool false)))] (some [2])) .ret
def Q6 : R := .cond (.t 32) Q5 .skip
def Q7 : R := .seq (.ad [ro 20 (.ae (.t 4)),
 ro 21 (.un .not (.t 20)),
 ro 22 (.ae (.t 21)),
 ⟨some 23, .ae (.t 3), some (22, true)⟩,
 ⟨some 24, .aK .eql 3 (.t 23) (.c (.int .i64 0)), some (22, true)⟩,
 ⟨some 25, .ae (.t 24), some (22, true)⟩,
 ⟨some 26, .ae (.t 0), some (25, false)⟩,
 ⟨some 27, .ae (.t 3), some (25, false)⟩,
 ⟨some 28, .idx 9 (.t 26) (.t 27), some (25, false)⟩,
 ⟨some 29, .call (.f 211) [(.t 28)], some (25, false)⟩,
 ⟨some 30, .un .not (.t 29), some (25, false)⟩,
 ⟨some 31, .pick (.t 25) (.c (.bool true)) (.t 30), some (22, true)⟩,
 ro 32 (.pick (.t 22) (.t 31) (.c (.bool false)))] (some [0, 6, 7, 32])) Q6
def Q8 : R := .seq (.ad [ro 10 (.ae (.t 0)),
 ro 11 (.ae (.t 3)),
 ro 12 (.idx 9 (.t 10) (.t 11)),
 ro 13 (.aK .geq 5 (.t 12) (.c (.int .u8 97))),
 ro 14 (.ae (.t 13)),
 ⟨some 15, .ae (.t 0), some (14, true)⟩,
 ⟨some 16, .ae (.t 3), some (14, true)⟩,
 ⟨some 17, .idx 9 (.t 15) (.t 16), some (14, true)⟩,
 ⟨some 18, .aK .leq 5 (.t 17) (.c (.int .u8 122)), some (14, true)⟩,
 ro 19 (.pick (.t 14) (.t 18) (.c (.bool false))),
 ro 4 (.an (.t 19))] (some [0, 3, 4, 6, 7])) Q7
def Q9 : R := .ad [ro 33 (.aK .add 3 (.t 7) (.c (.int .i64 1))),
 ro 7 (.ae (.t 33))] (some [0, 6, 7])
def Q_ : R := .seq (.block 1 (.seq (.ad [ro 9 (.ae (.t 7)),
 ro 3 (.an (.t 9))] (some [0, 3, 6, 7])) Q8)) Q9
def Ra : R := .seq (.cond (.t 8) .skip (.exit 0)) Q_
def D_ : R := .seq (.ad [ro 8 (.aK .lss 3 (.t 7) (.t 6))] (some [0, 6, 7, 8])) Ra
def Rb : R := .block 0 (.loop D_)
def Rc : R := .seq (.ad [ro 34 (.ae (.t 0)),
 ro 35 (.len 9 (.t 34)),
 ro 36 (.aK .geq 3 (.t 35) (.c (.int .i64 1))),
 ro 37 (.ae (.t 36)),
 ⟨some 38, .ae (.t 0), some (37, true)⟩,
 ⟨some 39, .len 9 (.t 38), some (37, true)⟩,
 ⟨some 40, .aK .leq 3 (.t 39) (.c (.int .i64 10)), some (37, true)⟩,
 ro 41 (.pick (.t 37) (.t 40) (.c (.bool false))),
 ro 2 (.an (.t 41))] (some [2])) .ret
def Re : R := .seq (.seq (.ad [ro 5 (.ae (.t 0)),
 ro 6 (.len 9 (.t 5)),
 ro 7 (.ae (.c (.int .i64 0)))] (some [0, 6, 7])) Rb) Rc
def Rf : R := .seq (.ad [ro 2 (.an (.c (.bool false)))] (some [0])) Re
theorem Rg : b0 ⟨42, [0]⟩ (Try.f126.body.getD .skip) = some Rf.strip := by kernel_rfl
def Rh : R := .seq (.ad [ro 3 (.ae (.t 0)),
 ro 4 (.call (.f 126) [(.t 3)]),
 ro 5 (.ae (.t 4)),
 ⟨some 6, .ae (.t 0), some (5, true)⟩,
 ⟨some 7, .aK .neq 9 (.t 6) (.c (.str [116, 97, 117])), some (5, true)⟩,
 ro 8 (.pick (.t 5) (.t 7) (.c (.bool false))),
 ro 2 (.an (.t 8))] (some [2])) .ret
def Ri : R := .seq (.ad [ro 2 (.an (.c (.bool false)))] (some [0])) Rh
theorem Rj : b0 ⟨9, [0]⟩ (Try.f278.body.getD .skip) = some Ri.strip := by kernel_rfl
def Rk : R := .ad [ro 7 (.bad),
 ⟨none, .bad, none⟩] (some [0, 1])
def Rl : R := .cond (.t 6) Rk .skip
def Rm : R := .ad [ro 17 (.ae (.t 0)),
 ro 18 (.ae (.t 0)),
 ro 19 (.cap 195 (.t 18)),
 ro 20 (.dx 195 (.t 17) none (some (.t 19))),
 ro 21 (.ae (.t 1)),
 ⟨some 22, .hH 195 3 (.t 20) (.t 21), none⟩,
 ro 23 (.ae (.t 0)),
 ro 24 (.len 195 (.t 23)),
 ro 25 (.dx 195 (.t 22) none (some (.t 24))),
 ro 0 (.an (.t 25))] (some [0])
def Rn : R := .cond (.t 16) Rm .skip
def Ro : R := .seq (.ad [ro 15 (.ae (.t 1)),
 ro 16 (.aK .gtr 3 (.t 15) (.c (.int .i64 0)))] (some [0, 1, 16])) Rn
def Ea : R := .seq (.ad [ro 26 (.ae (.t 0)),
 ro 4 (.an (.t 26))] (some [4])) .ret
def Eb : R := .seq (.seq (.ad [ro 8 (.ae (.t 1)),
 ro 9 (.ae (.t 0)),
 ro 10 (.cap 195 (.t 9)),
 ro 11 (.ae (.t 0)),
 ro 12 (.len 195 (.t 11)),
 ro 13 (.aK .sub 3 (.t 10) (.t 12)),
 ro 14 (.aK .sub 3 (.t 8) (.t 13)),
 ro 1 (.an (.t 14))] (some [0, 1])) Ro) Ea
def Rp : R := .seq (.seq (.ad [ro 5 (.ae (.t 1)),
 ro 6 (.aK .lss 3 (.t 5) (.c (.int .i64 0)))] (some [0, 1, 6])) Rl) Eb
def Rq : R := .seq (.ad [ro 4 (.an (.c .a_))] (some [0, 1])) Rp
theorem Rr : b0 ⟨27, []⟩ (Try.f301.body.getD .skip) = some Rq.strip := by kernel_rfl
def Rs : R := .ad [ro 21 (.bad),
 ⟨none, .bad, none⟩] (some [0, 3, 9, 10, 11])
def Rt : R := .cond (.t 20) Rs .skip
def Ru : R := .seq (.ad [ro 19 (.ae (.t 3)),
 ro 20 (.aK .lss 3 (.t 19) (.c (.int .i64 0)))] (some [0, 3, 9, 10, 11, 20])) Rt
def Rv : R := .seq (.ad [ro 15 (.ae (.t 3)),
 ro 16 (.ae (.t 5)),
 ro 17 (.len 195 (.t 16)),
 ro 18 (.aK .add 3 (.t 15) (.t 17)),
 ro 3 (.an (.t 18))] (some [0, 3, 9, 10, 11])) Ru
def Ec : R := .ad [ro 22 (.aK .add 3 (.t 11) (.c (.int .i64 1))),
 ro 11 (.ae (.t 22))] (some [0, 3, 9, 10, 11])
def Rw : R := .seq (.block 1 (.seq (.ad [ro 13 (.cp 308 (.t 9) (.t 11)),
 ro 14 (.aW 195 (.t 13)),
 ro 5 (.an (.t 14))] (some [0, 3, 5, 9, 10, 11])) Rv)) Ec
def Rx : R := .seq (.cond (.t 12) .skip (.exit 0)) Rw
def Ed : R := .seq (.ad [ro 12 (.aK .lss 3 (.t 11) (.t 10))] (some [0, 3, 9, 10, 11, 12])) Rx
def Ry : R := .block 0 (.loop Ed)
def Rz : R := .ad [ro 31 (.ae (.t 6)),
 ro 32 (.ae (.t 8)),
 ro 33 (.app 195 195 (.t 31) (.t 32)),
 ro 6 (.an (.t 33))] (some [6, 25, 26, 27])
def RA : R := .ad [ro 34 (.aK .add 3 (.t 27) (.c (.int .i64 1))),
 ro 27 (.ae (.t 34))] (some [6, 25, 26, 27])
def RB : R := .seq (.block 3 (.seq (.ad [ro 29 (.cp 308 (.t 25) (.t 27)),
 ro 30 (.aW 195 (.t 29)),
 ro 8 (.an (.t 30))] (some [6, 8, 25, 26, 27])) Rz)) RA
def RC : R := .seq (.cond (.t 28) .skip (.exit 2)) RB
def Ee : R := .seq (.ad [ro 28 (.aK .lss 3 (.t 27) (.t 26))] (some [6, 25, 26, 27, 28])) RC
def RD : R := .block 2 (.loop Ee)
def RE : R := .seq (.ad [ro 35 (.ae (.t 6)),
 ro 2 (.an (.t 35))] (some [2])) .ret
def RF : R := .seq (.seq (.ad [ro 25 (.ae (.t 0)),
 ro 26 (.len 308 (.t 25)),
 ro 27 (.ae (.c (.int .i64 0)))] (some [6, 25, 26, 27])) RD) RE
def RG : R := .seq (.ad [ro 23 (.ae (.t 3)),
 ro 24 (.call (.f 301) [(.c .a_), (.t 23)]),
 ro 6 (.an (.t 24))] (some [0, 6])) RF
def RH : R := .seq (.seq (.ad [ro 9 (.ae (.t 0)),
 ro 10 (.len 308 (.t 9)),
 ro 11 (.ae (.c (.int .i64 0)))] (some [0, 3, 9, 10, 11])) Ry) RG
def RI : R := .seq (.ad [ro 3 (.an (.c (.int .i64 0)))] (some [0, 3])) RH
def RJ : R := .seq (.ad [ro 2 (.an (.c .a_))] (some [0])) RI
theorem RK : b0 ⟨36, [0]⟩ (Try.f249.body.getD .skip) = some RJ.strip := by kernel_rfl
def RL : R := .seq (.ad [ro 3 (.bs 197 (.t 1) 1),
 ro 4 (.aW 40 (.t 3)),
 ⟨some 5, .shr (.c_ 195 1 [(0, (.t 4))]), none⟩,
 ro 6 (.bs 197 (.t 1) 3),
 ro 7 (.aW 195 (.t 6)),
 ro 8 (.bs 197 (.t 1) 4),
 ro 9 (.aW 195 (.t 8)),
 ⟨some 10, .shr (.c_ 308 3 [(0, (.t 5)), (1, (.t 7)), (2, (.t 9))]), none⟩,
 ro 11 (.call (.f 249) [(.t 10)]),
 ro 2 (.an (.t 11))] (some [2])) .ret
def RM : R := .seq (.ad [ro 1 (.di 197 (.t 0)),
 ro 2 (.an (.c .a_))] (some [1])) RL
theorem RN : b0 ⟨12, [0]⟩ (Try.f293.body.getD .skip) = some RM.strip := by kernel_rfl
def RO : R := .seq (.ad [ro 9 (.bs 131 (.t 2) 1),
 ro 10 (.aW 2 (.t 9)),
 ro 11 (.call (.f 286) [(.t 10)]),
 ro 4 (.an (.t 11))] (some [4])) .ret
def RP : R := .seq (.ad [ro 14 (.bs 131 (.t 2) 1),
 ro 15 (.aW 2 (.t 14)),
 ro 16 (.ae (.t 1)),
 ro 17 (.aK .sub 2 (.t 16) (.c (.int .i64 1))),
 ro 18 (.call (.f 138) [(.t 15), (.c (.int .i64 0)), (.t 17)]),
 ro 4 (.an (.t 18))] (some [4])) .ret
def RQ : R := .seq (.ad [ro 21 (.bs 131 (.t 2) 1),
 ro 22 (.aW 2 (.t 21)),
 ro 23 (.call (.f 138) [(.t 22), (.c (.int .i64 0)), (.c (.int .i64 8))]),
 ro 4 (.an (.t 23))] (some [4])) .ret
def RR : R := .seq (.ad [ro 26 (.bs 131 (.t 2) 1),
 ro 27 (.aW 2 (.t 26)),
 ro 28 (.aK .eql 2 (.t 27) (.c (.int .i64 0))),
 ro 4 (.an (.t 28))] (some [4])) .ret
def RS : R := .cond (.t 24) RR .skip
def RT : R := .seq (.ad [ro 25 (.aK .eql 2 (.t 6) (.c (.int .i64 3))),
 ro 24 (.an (.t 25))] (some [2, 24])) RS
def RU : R := .cond (.t 19) RQ RT
def RV : R := .seq (.ad [ro 20 (.aK .eql 2 (.t 6) (.c (.int .i64 2))),
 ro 19 (.an (.t 20))] (some [2, 6, 19])) RU
def RW : R := .cond (.t 12) RP RV
def RX : R := .seq (.ad [ro 13 (.aK .eql 2 (.t 6) (.c (.int .i64 1))),
 ro 12 (.an (.t 13))] (some [1, 2, 6, 12])) RW
def RY : R := .cond (.t 7) RO RX
def RZ : R := .block 0 (.seq (.ad [ro 8 (.aK .eql 2 (.t 6) (.c (.int .i64 0))),
 ro 7 (.an (.t 8))] (some [1, 2, 6, 7])) RY)
def R0 : R := .seq (.ad [ro 4 (.an (.c (.bool false)))] (some [4])) .ret
def R1 : R := .seq (.seq (.ad [ro 5 (.bs 131 (.t 2) 0),
 ro 6 (.aW 2 (.t 5))] (some [1, 2, 6])) RZ) R0
def R2 : R := .seq (.ad [ro 2 (.di 131 (.t 0)),
 ro 4 (.an (.c (.bool false)))] (some [1, 2])) R1
theorem R3 : b0 ⟨29, [0, 1]⟩ (Try.f269.body.getD .skip) = some R2.strip := by kernel_rfl
def R4 : R := .seq (.ad [ro 2 (.an (.c (.int .i64 2)))] (some [2])) .ret
def R5 : R := .seq (.ad [ro 2 (.an (.c (.int .i64 1)))] (some [2])) .ret
def R6 : R := .cond (.t 7) R5 .skip
def R7 : R := .seq (.ad [ro 8 (.aK .eql 2 (.t 4) (.c (.int .i64 3))),
 ro 7 (.an (.t 8))] (some [7])) R6
def R8 : R := .cond (.t 5) R4 R7
def R9 : R := .block 0 (.seq (.ad [ro 6 (.aK .eql 2 (.t 4) (.c (.int .i64 2))),
 ro 5 (.an (.t 6))] (some [4, 5])) R8)
def R_ : R := .seq (.ad [ro 2 (.an (.c (.int .i64 0)))] (some [2])) .ret
def Sa : R := .seq (.seq (.ad [ro 3 (.bs 131 (.t 1) 0),
 ro 4 (.aW 2 (.t 3))] (some [4])) R9) R_
def Sb : R := .seq (.ad [ro 1 (.di 131 (.t 0)),
 ro 2 (.an (.c (.int .i64 0)))] (some [1])) Sa
theorem Sc : b0 ⟨9, [0]⟩ (Try.f270.body.getD .skip) = some Sb.strip := by kernel_rfl
def Sd : R := .seq (.ad [ro 6 (.an (.c (.bool false)))] (some [6])) .ret
def Se : R := .cond (.t 24) Sd .skip
def Sf : R := .seq (.ad [ro 6 (.an (.c (.bool false)))] (some [6])) .ret
def Sg : R := .cond (.t 38) Sf .skip
def Sh : R := .ad [ro 39 (.ae (.t 7)),
 ro 40 (.aW 131 (.t 9)),
 ro 41 (.call (.f 270) [(.t 40)]),
 ro 42 (.aK .sub 3 (.t 41) (.c (.int .i64 1))),
 ro 43 (.aK .add 3 (.t 39) (.t 42)),
 ro 7 (.an (.t 43))] (some [1, 7, 25, 26, 27])
def Si : R := .seq (.seq (.ad [ro 31 (.ae (.t 7)),
 ro 32 (.aK .eql 3 (.t 31) (.c (.int .i64 0))),
 ro 33 (.ae (.t 32)),
 ⟨some 34, .aW 131 (.t 9), some (33, false)⟩,
 ⟨some 35, .ae (.t 1), some (33, false)⟩,
 ⟨some 36, .call (.f 269) [(.t 34), (.t 35)], some (33, false)⟩,
 ⟨some 37, .un .not (.t 36), some (33, false)⟩,
 ro 38 (.pick (.t 33) (.c (.bool true)) (.t 37))] (some [1, 7, 9, 25, 26, 27, 38])) Sg) Sh
def Sj : R := .ad [ro 44 (.aK .add 3 (.t 27) (.c (.int .i64 1))),
 ro 27 (.ae (.t 44))] (some [1, 7, 25, 26, 27])
def Sk : R := .seq (.block 1 (.seq (.ad [ro 29 (.cp 40 (.t 25) (.t 27)),
 ro 30 (.aW 131 (.t 29)),
 ro 9 (.eV 131),
 ⟨none, .de 131 (.t 9) (.t 30), none⟩] (some [1, 7, 9, 25, 26, 27])) Si)) Sj
def Sl : R := .seq (.cond (.t 28) .skip (.exit 0)) Sk
def Ef : R := .seq (.ad [ro 28 (.aK .lss 3 (.t 27) (.t 26))] (some [1, 7, 25, 26, 27, 28])) Sl
def Sm : R := .block 0 (.loop Ef)
def Sp : R := .seq (.ad [ro 45 (.ae (.t 7)),
 ro 46 (.aK .eql 3 (.t 45) (.c (.int .i64 0))),
 ro 6 (.an (.t 46))] (some [6])) .ret
def Sq : R := .seq (.seq (.ad [ro 25 (.ae (.t 0)),
 ro 26 (.len 40 (.t 25)),
 ro 27 (.ae (.c (.int .i64 0)))] (some [1, 7, 25, 26, 27])) Sm) Sp
def Sr : R := .seq (.ad [ro 7 (.an (.c (.int .i64 1)))] (some [0, 1, 7])) Sq
def Ss : R := .seq (.seq (.ad [ro 10 (.ae (.t 1)),
 ro 11 (.call (.f 138) [(.t 10), (.c (.int .i64 0)), (.c (.int .i64 29))]),
 ro 12 (.un .not (.t 11)),
 ro 13 (.ae (.t 12)),
 ⟨some 14, .ae (.t 2), some (13, false)⟩,
 ⟨some 15, .call (.f 138) [(.t 14), (.c (.int .i64 1)), (.c (.int .i64 60))], some (13, false)⟩,
 ⟨some 16, .un .not (.t 15), some (13, false)⟩,
 ro 17 (.pick (.t 13) (.c (.bool true)) (.t 16)),
 ro 18 (.ae (.t 17)),
 ⟨some 19, .ae (.t 0), some (18, false)⟩,
 ⟨some 20, .len 40 (.t 19), some (18, false)⟩,
 ⟨some 21, .ae (.t 2), some (18, false)⟩,
 ⟨some 22, .call (.f 138) [(.t 20), (.c (.int .i64 1)), (.t 21)], some (18, false)⟩,
 ⟨some 23, .un .not (.t 22), some (18, false)⟩,
 ro 24 (.pick (.t 18) (.c (.bool true)) (.t 23))] (some [0, 1, 24])) Se) Sr
def St : R := .seq (.ad [ro 6 (.an (.c (.bool false)))] (some [0, 1, 2])) Ss
theorem Su : b0 ⟨47, [0, 1, 2]⟩ (Try.f200.body.getD .skip) = some St.strip := by kernel_rfl
def Sv : R := .seq (.ad [ro 5 (.ae (.t 0)),
 ro 6 (.aW 2 (.t 1)),
 ro 7 (.bs 197 (.t 2) 0),
 ro 8 (.aW 68 (.t 7)),
 ro 9 (.len 68 (.t 8)),
 ro 10 (.aK .add 2 (.t 6) (.t 9)),
 ro 11 (.call (.f 200) [(.t 5), (.t 10), (.c (.int .i64 60))]),
 ro 12 (.un .not (.t 11)),
 ro 4 (.an (.t 12))] (some [4])) .ret
def Sw : R := .seq (.ad [ro 4 (.an (.c (.bool false)))] (some [0, 1, 2])) Sv
theorem Sy : b0 ⟨13, [0, 1, 2]⟩ (Try.f294.body.getD .skip) = some Sw.strip := by kernel_rfl
def Sz : R := .seq (.ad [ro 17 (.ae (.t 5)),
 ro 4 (.an (.t 17))] (some [4])) .ret
def SA : R := .cond (.t 16) Sz .skip
def SB : R := .seq (.ad [ro 11 (.ae (.t 1)),
 ro 12 (.ae (.t 0)),
 ro 13 (.ae (.t 5)),
 ro 14 (.cp 195 (.t 12) (.t 13)),
 ro 15 (.aW 40 (.t 14)),
 ro 16 (.call (.t 11) [(.t 15)])] (some [0, 1, 5, 7, 8, 16])) SA
def SC : R := .ad [ro 18 (.aK .add 3 (.t 8) (.c (.int .i64 1))),
 ro 8 (.ae (.t 18))] (some [0, 1, 7, 8])
def SD : R := .seq (.block 1 (.seq (.ad [ro 10 (.ae (.t 8)),
 ro 5 (.an (.t 10))] (some [0, 1, 5, 7, 8])) SB)) SC
def SE : R := .seq (.cond (.t 9) .skip (.exit 0)) SD
def Eg : R := .seq (.ad [ro 9 (.aK .lss 3 (.t 8) (.t 7))] (some [0, 1, 7, 8, 9])) SE
def SF : R := .block 0 (.loop Eg)
def SG : R := .seq (.ad [ro 4 (.an (.c (.int .i64 (-1))))] (some [4])) .ret
def SH : R := .seq (.seq (.ad [ro 6 (.ae (.t 0)),
 ro 7 (.len 195 (.t 6)),
 ro 8 (.ae (.c (.int .i64 0)))] (some [0, 1, 7, 8])) SF) SG
def SI : R := .seq (.ad [ro 4 (.an (.c (.int .i64 0)))] (some [0, 1])) SH
theorem SJ : b0 ⟨19, [0, 1]⟩ (Try.f320.body.getD .skip) = some SI.strip := by kernel_rfl
def SK : R := .seq (.ad [ro 5 (.ae (.t 0)),
 ro 6 (.ae (.t 1)),
 ro 7 (.call (.f 320) [(.t 5), (.t 6)]),
 ro 8 (.aK .geq 3 (.t 7) (.c (.int .i64 0))),
 ro 4 (.an (.t 8))] (some [4])) .ret
def SL : R := .seq (.ad [ro 4 (.an (.c (.bool false)))] (some [0, 1])) SK
theorem SM : b0 ⟨9, [0, 1]⟩ (Try.f280.body.getD .skip) = some SL.strip := by kernel_rfl
def SN : R := .seq (.ad [ro 4 (.an (.c (.bool false)))] (some [4])) .ret
def SO : R := .cond (.t 15) SN .skip
def SP : R := .seq (.ad [ro 4 (.an (.c (.bool false)))] (some [4])) .ret
def SQ : R := .cond (.t 40) SP .skip
def SR : R := .seq (.ad [ro 19 (.ae (.t 5)),
 ro 20 (.aK .gtr 3 (.t 19) (.c (.int .i64 0))),
 ro 21 (.ae (.t 20)),
 ⟨some 22, .bs 197 (.t 2) 2, some (21, true)⟩,
 ⟨some 23, .aW 9 (.t 22), some (21, true)⟩,
 ⟨some 24, .aK .eql 9 (.t 23) (.c (.str [116, 97, 117])), some (21, true)⟩,
 ⟨some 25, .ae (.t 24), some (21, true)⟩,
 ⟨some 26, .ae (.t 5), some (25, false)⟩,
 ⟨some 27, .aK .gtr 3 (.t 26) (.c (.int .i64 2)), some (25, false)⟩,
 ⟨some 28, .pick (.t 25) (.c (.bool true)) (.t 27), some (21, true)⟩,
 ro 29 (.pick (.t 21) (.t 28) (.c (.bool false))),
 ro 30 (.ae (.t 29)),
 ⟨some 31, .bs 197 (.t 2) 2, some (30, false)⟩,
 ⟨some 32, .aW 9 (.t 31), some (30, false)⟩,
 ⟨some 33, .aK .neq 9 (.t 32) (.c (.str [116, 97, 117])), some (30, false)⟩,
 ⟨some 34, .ae (.t 33), some (30, false)⟩,
 ⟨some 35, .bs 197 (.t 2) 2, some (34, true)⟩,
 ⟨some 36, .aW 9 (.t 35), some (34, true)⟩,
 ⟨some 37, .call (.f 278) [(.t 36)], some (34, true)⟩,
 ⟨some 38, .un .not (.t 37), some (34, true)⟩,
 ⟨some 39, .pick (.t 34) (.t 38) (.c (.bool false)), some (30, false)⟩,
 ro 40 (.pick (.t 30) (.c (.bool true)) (.t 39))] (some [2, 3, 40])) SQ
def SS : R := .seq (.ad [ro 41 (.aW 197 (.t 2)),
 ro 42 (.call (.f 293) [(.t 41)]),
 ro 43 (.h5 294 [(.t 3), (.t 2)]),
 ro 44 (.call (.f 280) [(.t 42), (.t 43)]),
 ro 45 (.un .not (.t 44)),
 ro 4 (.an (.t 45))] (some [4])) .ret
def SU : R := .seq (.seq (.ad [ro 16 (.bs 197 (.t 2) 3),
 ro 17 (.aW 195 (.t 16)),
 ro 18 (.len 195 (.t 17)),
 ro 5 (.an (.t 18))] (some [2, 3, 5])) SR) SS
def SV : R := .seq (.seq (.ad [ro 6 (.aW 197 (.t 2)),
 ro 7 (.call (.f 292) [(.t 6)]),
 ro 8 (.un .not (.t 7)),
 ro 9 (.ae (.t 8)),
 ⟨some 10, .bs 197 (.t 2) 4, some (9, false)⟩,
 ⟨some 11, .aW 195 (.t 10), some (9, false)⟩,
 ⟨some 12, .len 195 (.t 11), some (9, false)⟩,
 ⟨some 13, .aW 2 (.t 3), some (9, false)⟩,
 ⟨some 14, .aK .neq 2 (.t 12) (.t 13), some (9, false)⟩,
 ro 15 (.pick (.t 9) (.c (.bool true)) (.t 14))] (some [2, 3, 15])) SO) SU
def SW : R := .seq (.ad [ro 2 (.di 197 (.t 0)),
 ro 3 (.di 2 (.t 1)),
 ro 4 (.an (.c (.bool false)))] (some [2, 3])) SV
theorem SX : b0 ⟨46, [0, 1]⟩ (Try.f237.body.getD .skip) = some SW.strip := by kernel_rfl
def SY : R := .seq (.ad [ro 4 (.aW 197 (.t 2)),
 ro 5 (.bs 90 (.t 1) 0),
 ro 6 (.aW 2 (.t 5)),
 ro 7 (.call (.f 237) [(.t 4), (.t 6)]),
 ro 8 (.un .not (.t 7)),
 ro 3 (.an (.t 8))] (some [3])) .ret
def SZ : R := .seq (.ad [ro 2 (.di 197 (.t 0)),
 ro 3 (.an (.c (.bool false)))] (some [1, 2])) SY
theorem S0 : b0 ⟨9, [0, 1]⟩ (Try.f236.body.getD .skip) = some SZ.strip := by kernel_rfl
def S1 : R := .seq (.ad [ro 17 (.ae (.t 5)),
 ro 4 (.an (.t 17))] (some [4])) .ret
def S2 : R := .cond (.t 16) S1 .skip
def S3 : R := .seq (.ad [ro 11 (.ae (.t 1)),
 ro 12 (.ae (.t 0)),
 ro 13 (.ae (.t 5)),
 ro 14 (.cp 88 (.t 12) (.t 13)),
 ro 15 (.aW 197 (.t 14)),
 ro 16 (.call (.t 11) [(.t 15)])] (some [0, 1, 5, 7, 8, 16])) S2
def S4 : R := .ad [ro 18 (.aK .add 3 (.t 8) (.c (.int .i64 1))),
 ro 8 (.ae (.t 18))] (some [0, 1, 7, 8])
def S5 : R := .seq (.block 1 (.seq (.ad [ro 10 (.ae (.t 8)),
 ro 5 (.an (.t 10))] (some [0, 1, 5, 7, 8])) S3)) S4
def S6 : R := .seq (.cond (.t 9) .skip (.exit 0)) S5
def Eh : R := .seq (.ad [ro 9 (.aK .lss 3 (.t 8) (.t 7))] (some [0, 1, 7, 8, 9])) S6
def S7 : R := .block 0 (.loop Eh)
def S8 : R := .seq (.ad [ro 4 (.an (.c (.int .i64 (-1))))] (some [4])) .ret
def S9 : R := .seq (.seq (.ad [ro 6 (.ae (.t 0)),
 ro 7 (.len 88 (.t 6)),
 ro 8 (.ae (.c (.int .i64 0)))] (some [0, 1, 7, 8])) S7) S8
def S_ : R := .seq (.ad [ro 4 (.an (.c (.int .i64 0)))] (some [0, 1])) S9
theorem Ta : b0 ⟨19, [0, 1]⟩ (Try.f291.body.getD .skip) = some S_.strip := by kernel_rfl
def Tb : R := .seq (.ad [ro 5 (.ae (.t 0)),
 ro 6 (.ae (.t 1)),
 ro 7 (.call (.f 291) [(.t 5), (.t 6)]),
 ro 8 (.aK .geq 3 (.t 7) (.c (.int .i64 0))),
 ro 4 (.an (.t 8))] (some [4])) .ret
def Tc : R := .seq (.ad [ro 4 (.an (.c (.bool false)))] (some [0, 1])) Tb
theorem Td : b0 ⟨9, [0, 1]⟩ (Try.f235.body.getD .skip) = some Tc.strip := by kernel_rfl
def Te : R := .seq (.ad [ro 2 (.an (.c (.bool false)))] (some [2])) .ret
def Tf : R := .cond (.t 19) Te .skip
def Tg : R := .seq (.ad [ro 20 (.bs 90 (.t 1) 2),
 ro 21 (.aW 88 (.t 20)),
 ro 22 (.h5 236 [(.t 1)]),
 ro 23 (.call (.f 235) [(.t 21), (.t 22)]),
 ro 24 (.un .not (.t 23)),
 ro 2 (.an (.t 24))] (some [2])) .ret
def Th : R := .seq (.seq (.ad [ro 3 (.bs 90 (.t 1) 0),
 ro 4 (.aW 2 (.t 3)),
 ro 5 (.call (.f 138) [(.t 4), (.c (.int .i64 0)), (.c (.int .i64 21))]),
 ro 6 (.un .not (.t 5)),
 ro 7 (.ae (.t 6)),
 ⟨some 8, .aW 90 (.t 1), some (7, false)⟩,
 ⟨some 9, .bs 90 (.t 1) 1, some (7, false)⟩,
 ⟨some 10, .aW 68 (.t 9), some (7, false)⟩,
 ⟨some 11, .call (.f 234) [(.t 8), (.t 10)], some (7, false)⟩,
 ⟨some 12, .un .not (.t 11), some (7, false)⟩,
 ro 13 (.pick (.t 7) (.c (.bool true)) (.t 12)),
 ro 14 (.ae (.t 13)),
 ⟨some 15, .bs 90 (.t 1) 2, some (14, false)⟩,
 ⟨some 16, .aW 88 (.t 15), some (14, false)⟩,
 ⟨some 17, .len 88 (.t 16), some (14, false)⟩,
 ⟨some 18, .aK .gtr 3 (.t 17) (.c (.int .i64 60)), some (14, false)⟩,
 ro 19 (.pick (.t 14) (.c (.bool true)) (.t 18))] (some [1, 19])) Tf) Tg
def Ti : R := .seq (.ad [ro 1 (.di 90 (.t 0)),
 ro 2 (.an (.c (.bool false)))] (some [1])) Th
theorem Tj : b0 ⟨25, [0]⟩ (Try.f160.body.getD .skip) = some Ti.strip := by kernel_rfl
def Tk : R := .seq (.ad [ro 2 (.an (.c .a_)),
 ro 3 (.an (.c (.int .i64 1)))] (some [2, 3])) .ret
def Tl : R := .cond (.t 9) Tk .skip
def Tm : R := .ad [ro 20 (.ae (.t 4)),
 ro 21 (.bs 197 (.t 6) 2),
 ro 22 (.aW 9 (.t 21)),
 ro 23 (.c_ 100 1 [(0, (.t 22))]),
 ro 24 (.app 100 100 (.t 20) (.t 23)),
 ro 4 (.an (.t 24))] (some [4, 11, 12, 13])
def Tn : R := .cond (.t 19) Tm .skip
def To : R := .seq (.ad [ro 17 (.bs 197 (.t 6) 2),
 ro 18 (.aW 9 (.t 17)),
 ro 19 (.aK .neq 9 (.t 18) (.c (.str [116, 97, 117])))] (some [4, 6, 11, 12, 13, 19])) Tn
def Ei : R := .ad [ro 25 (.aK .add 3 (.t 13) (.c (.int .i64 1))),
 ro 13 (.ae (.t 25))] (some [4, 11, 12, 13])
def Tp : R := .seq (.block 1 (.seq (.ad [ro 15 (.cp 88 (.t 11) (.t 13)),
 ro 16 (.aW 197 (.t 15)),
 ro 6 (.eV 197),
 ⟨none, .de 197 (.t 6) (.t 16), none⟩] (some [4, 6, 11, 12, 13])) To)) Ei
def Tq : R := .seq (.cond (.t 14) .skip (.exit 0)) Tp
def Ej : R := .seq (.ad [ro 14 (.aK .lss 3 (.t 13) (.t 12))] (some [4, 11, 12, 13, 14])) Tq
def Tr : R := .block 0 (.loop Ej)
def Ts : R := .seq (.ad [ro 28 (.ae (.t 4)),
 ro 29 (.call (.f 179) [(.t 28)]),
 ro 2 (.an (.t 29)),
 ro 3 (.an (.c (.int .i64 0)))] (some [2, 3])) .ret
def Tt : R := .seq (.ad [ro 26 (.ae (.t 4)),
 ro 27 (.call (.f 178) [(.t 26)])] (some [4])) Ts
def Tu : R := .seq (.seq (.ad [ro 10 (.bs 90 (.t 1) 2),
 ro 11 (.aW 88 (.t 10)),
 ro 12 (.len 88 (.t 11)),
 ro 13 (.ae (.c (.int .i64 0)))] (some [4, 11, 12, 13])) Tr) Tt
def Tv : R := .seq (.ad [ro 4 (.an (.c .a_))] (some [1, 4])) Tu
def Tw : R := .seq (.seq (.ad [ro 7 (.aW 90 (.t 1)),
 ro 8 (.call (.f 160) [(.t 7)]),
 ro 9 (.un .not (.t 8))] (some [1, 9])) Tl) Tv
def Tx : R := .seq (.ad [ro 1 (.di 90 (.t 0)),
 ro 2 (.an (.c .a_)),
 ro 3 (.an (.c (.int .i64 0)))] (some [1])) Tw
theorem Ty : b0 ⟨30, [0]⟩ (Try.f84.body.getD .skip) = some Tx.strip := by kernel_rfl
def Tz : R := .seq (.ad [ro 4 (.an (.c (.bool false)))] (some [4])) .ret
def TA : R := .cond (.t 10) Tz .skip
def TB : R := .cond (.t 14) .skip (.exit 0)
def TC : R := .seq (.ad [ro 4 (.an (.c (.bool false)))] (some [4])) .ret
def TD : R := .cond (.t 25) TC .skip
def TE : R := .ad [ro 15 (.ae (.t 5)),
 ro 16 (.aK .add 3 (.t 15) (.c (.int .i64 1))),
 ro 5 (.an (.t 16))] (some [0, 1, 5])
def TF : R := .seq (.block 1 (.seq (.hJ [ro 17 (.ae (.t 0)),
 ro 18 (.ae (.t 5)),
 ro 19 (.cp 100 (.t 17) (.t 18)),
 ro 20 (.aW 9 (.t 19)),
 ro 21 (.ae (.t 1)),
 ro 22 (.ae (.t 5)),
 ro 23 (.cp 100 (.t 21) (.t 22)),
 ro 24 (.aW 9 (.t 23)),
 ro 25 (.aK .neq 9 (.t 20) (.t 24))] [[], [], [0, 1], [2], [], [], [4, 5], [6], [3, 7]] (some [0, 1, 5, 25])) TD)) TE
def Ek : R := .seq (.seq (.ad [ro 11 (.ae (.t 5)),
 ro 12 (.ae (.t 0)),
 ro 13 (.len 100 (.t 12)),
 ro 14 (.aK .lss 3 (.t 11) (.t 13))] (some [0, 1, 5, 14])) TB) TF
def TG : R := .block 0 (.loop Ek)
def TH : R := .seq (.ad [ro 4 (.an (.c (.bool true)))] (some [4])) .ret
def TI : R := .seq (.seq (.ad [ro 5 (.an (.c (.int .i64 0)))] (some [0, 1, 5])) TG) TH
def TJ : R := .seq (.seq (.ad [ro 6 (.ae (.t 0)),
 ro 7 (.len 100 (.t 6)),
 ro 8 (.ae (.t 1)),
 ro 9 (.len 100 (.t 8)),
 ro 10 (.aK .neq 3 (.t 7) (.t 9))] (some [0, 1, 10])) TA) TI
def TK : R := .seq (.ad [ro 4 (.an (.c (.bool false)))] (some [0, 1])) TJ
theorem TL : b0 ⟨26, [0, 1]⟩ (Try.f85.body.getD .skip) = some TK.strip := by kernel_rfl
def TM : R := .seq (.ad [ro 4 (.an (.c (.bool false)))] (some [4])) .ret
def TN : R := .cond (.t 10) TM .skip
def TO : R := .cond (.t 14) .skip (.exit 0)
def TP : R := .seq (.ad [ro 4 (.an (.c (.bool false)))] (some [4])) .ret
def TQ : R := .cond (.t 25) TP .skip
def TR : R := .ad [ro 15 (.ae (.t 5)),
 ro 16 (.aK .add 3 (.t 15) (.c (.int .i64 1))),
 ro 5 (.an (.t 16))] (some [0, 1, 5])
def TS : R := .seq (.block 1 (.seq (.hJ [ro 17 (.ae (.t 0)),
 ro 18 (.ae (.t 5)),
 ro 19 (.cp 68 (.t 17) (.t 18)),
 ro 20 (.aW 2 (.t 19)),
 ro 21 (.ae (.t 1)),
 ro 22 (.ae (.t 5)),
 ro 23 (.cp 68 (.t 21) (.t 22)),
 ro 24 (.aW 2 (.t 23)),
 ro 25 (.aK .neq 2 (.t 20) (.t 24))] [[], [], [0, 1], [2], [], [], [4, 5], [6], [3, 7]] (some [0, 1, 5, 25])) TQ)) TR
def El : R := .seq (.seq (.ad [ro 11 (.ae (.t 5)),
 ro 12 (.ae (.t 0)),
 ro 13 (.len 68 (.t 12)),
 ro 14 (.aK .lss 3 (.t 11) (.t 13))] (some [0, 1, 5, 14])) TO) TS
def TT : R := .block 0 (.loop El)
def TU : R := .seq (.ad [ro 4 (.an (.c (.bool true)))] (some [4])) .ret
def TV : R := .seq (.seq (.ad [ro 5 (.an (.c (.int .i64 0)))] (some [0, 1, 5])) TT) TU
def TW : R := .seq (.seq (.ad [ro 6 (.ae (.t 0)),
 ro 7 (.len 68 (.t 6)),
 ro 8 (.ae (.t 1)),
 ro 9 (.len 68 (.t 8)),
 ro 10 (.aK .neq 3 (.t 7) (.t 9))] (some [0, 1, 10])) TN) TV
def TX : R := .seq (.ad [ro 4 (.an (.c (.bool false)))] (some [0, 1])) TW
theorem mi : b0 ⟨26, [0, 1]⟩ (Try.f59.body.getD .skip) = some TX.strip := by kernel_rfl
def TY : R := .seq (.ad [ro 4 (.an (.c (.bool false)))] (some [4])) .ret
def TZ : R := .cond (.t 9) TY .skip
def T0 : R := .seq (.ad [ro 4 (.an (.c (.bool false)))] (some [4])) .ret
def T1 : R := .cond (.t 14) T0 .skip
def T2 : R := .seq (.ad [ro 4 (.an (.c (.bool true)))] (some [4])) .ret
def T3 : R := .seq (.seq (.ad [ro 10 (.bs 131 (.t 2) 1),
 ro 11 (.aW 2 (.t 10)),
 ro 12 (.bs 131 (.t 3) 1),
 ro 13 (.aW 2 (.t 12)),
 ro 14 (.aK .neq 2 (.t 11) (.t 13))] (some [14])) T1) T2
def T4 : R := .seq (.seq (.ad [ro 5 (.bs 131 (.t 2) 0),
 ro 6 (.aW 2 (.t 5)),
 ro 7 (.bs 131 (.t 3) 0),
 ro 8 (.aW 2 (.t 7)),
 ro 9 (.aK .neq 2 (.t 6) (.t 8))] (some [2, 3, 9])) TZ) T3
def T5 : R := .seq (.ad [ro 2 (.di 131 (.t 0)),
 ro 3 (.di 131 (.t 1)),
 ro 4 (.an (.c (.bool false)))] (some [2, 3])) T4
theorem T6 : b0 ⟨15, [0, 1]⟩ (Try.f111.body.getD .skip) = some T5.strip := by kernel_rfl
def T7 : R := .seq (.ad [ro 4 (.an (.c (.bool false)))] (some [4])) .ret
def T8 : R := .cond (.t 10) T7 .skip
def T9 : R := .cond (.t 14) .skip (.exit 0)
def T_ : R := .seq (.ad [ro 4 (.an (.c (.bool false)))] (some [4])) .ret
def Ua : R := .cond (.t 26) T_ .skip
def Ub : R := .ad [ro 15 (.ae (.t 5)),
 ro 16 (.aK .add 3 (.t 15) (.c (.int .i64 1))),
 ro 5 (.an (.t 16))] (some [0, 1, 5])
def Uc : R := .seq (.block 1 (.seq (.hJ [ro 17 (.ae (.t 0)),
 ro 18 (.ae (.t 5)),
 ro 19 (.cp 40 (.t 17) (.t 18)),
 ro 20 (.aW 131 (.t 19)),
 ro 21 (.ae (.t 1)),
 ro 22 (.ae (.t 5)),
 ro 23 (.cp 40 (.t 21) (.t 22)),
 ro 24 (.aW 131 (.t 23)),
 ro 25 (.call (.f 111) [(.t 20), (.t 24)]),
 ro 26 (.un .not (.t 25))] [[], [], [0, 1], [2], [], [], [4, 5], [6], [3, 7], [8]] (some [0, 1, 5, 26])) Ua)) Ub
def Em : R := .seq (.seq (.ad [ro 11 (.ae (.t 5)),
 ro 12 (.ae (.t 0)),
 ro 13 (.len 40 (.t 12)),
 ro 14 (.aK .lss 3 (.t 11) (.t 13))] (some [0, 1, 5, 14])) T9) Uc
def Ud : R := .block 0 (.loop Em)
def Ue : R := .seq (.ad [ro 4 (.an (.c (.bool true)))] (some [4])) .ret
def Uf : R := .seq (.seq (.ad [ro 5 (.an (.c (.int .i64 0)))] (some [0, 1, 5])) Ud) Ue
def Ug : R := .seq (.seq (.ad [ro 6 (.ae (.t 0)),
 ro 7 (.len 40 (.t 6)),
 ro 8 (.ae (.t 1)),
 ro 9 (.len 40 (.t 8)),
 ro 10 (.aK .neq 3 (.t 7) (.t 9))] (some [0, 1, 10])) T8) Uf
def Uh : R := .seq (.ad [ro 4 (.an (.c (.bool false)))] (some [0, 1])) Ug
theorem Ui : b0 ⟨27, [0, 1]⟩ (Try.f35.body.getD .skip) = some Uh.strip := by kernel_rfl
def Uj : R := .seq (.ad [ro 4 (.an (.c (.bool false)))] (some [4])) .ret
def Uk : R := .cond (.t 10) Uj .skip
def Ul : R := .cond (.t 14) .skip (.exit 0)
def Um : R := .seq (.ad [ro 4 (.an (.c (.bool false)))] (some [4])) .ret
def Un : R := .cond (.t 26) Um .skip
def Uo : R := .ad [ro 15 (.ae (.t 5)),
 ro 16 (.aK .add 3 (.t 15) (.c (.int .i64 1))),
 ro 5 (.an (.t 16))] (some [0, 1, 5])
def Up : R := .seq (.block 1 (.seq (.hJ [ro 17 (.ae (.t 0)),
 ro 18 (.ae (.t 5)),
 ro 19 (.cp 195 (.t 17) (.t 18)),
 ro 20 (.aW 40 (.t 19)),
 ro 21 (.ae (.t 1)),
 ro 22 (.ae (.t 5)),
 ro 23 (.cp 195 (.t 21) (.t 22)),
 ro 24 (.aW 40 (.t 23)),
 ro 25 (.call (.f 35) [(.t 20), (.t 24)]),
 ro 26 (.un .not (.t 25))] [[], [], [0, 1], [2], [], [], [4, 5], [6], [3, 7], [8]] (some [0, 1, 5, 26])) Un)) Uo
def En : R := .seq (.seq (.ad [ro 11 (.ae (.t 5)),
 ro 12 (.ae (.t 0)),
 ro 13 (.len 195 (.t 12)),
 ro 14 (.aK .lss 3 (.t 11) (.t 13))] (some [0, 1, 5, 14])) Ul) Up
def Uq : R := .block 0 (.loop En)
def Ur : R := .seq (.ad [ro 4 (.an (.c (.bool true)))] (some [4])) .ret
def Us : R := .seq (.seq (.ad [ro 5 (.an (.c (.int .i64 0)))] (some [0, 1, 5])) Uq) Ur
def Ut : R := .seq (.seq (.ad [ro 6 (.ae (.t 0)),
 ro 7 (.len 195 (.t 6)),
 ro 8 (.ae (.t 1)),
 ro 9 (.len 195 (.t 8)),
 ro 10 (.aK .neq 3 (.t 7) (.t 9))] (some [0, 1, 10])) Uk) Us
def Uu : R := .seq (.ad [ro 4 (.an (.c (.bool false)))] (some [0, 1])) Ut
theorem Uv : b0 ⟨27, [0, 1]⟩ (Try.f295.body.getD .skip) = some Uu.strip := by kernel_rfl
def Uw : R := .seq (.ad [ro 4 (.an (.c (.bool false)))] (some [4])) .ret
def Ux : R := .cond (.t 10) Uw .skip
def Uy : R := .seq (.ad [ro 4 (.an (.c (.bool false)))] (some [4])) .ret
def Uz : R := .cond (.t 16) Uy .skip
def UA : R := .seq (.ad [ro 4 (.an (.c (.bool false)))] (some [4])) .ret
def UB : R := .cond (.t 21) UA .skip
def UC : R := .seq (.ad [ro 4 (.an (.c (.bool false)))] (some [4])) .ret
def UD : R := .cond (.t 27) UC .skip
def UE : R := .seq (.ad [ro 4 (.an (.c (.bool false)))] (some [4])) .ret
def UF : R := .cond (.t 33) UE .skip
def UG : R := .seq (.ad [ro 4 (.an (.c (.bool true)))] (some [4])) .ret
def UH : R := .seq (.seq (.ad [ro 28 (.bs 197 (.t 2) 4),
 ro 29 (.aW 195 (.t 28)),
 ro 30 (.bs 197 (.t 3) 4),
 ro 31 (.aW 195 (.t 30)),
 ro 32 (.call (.f 295) [(.t 29), (.t 31)]),
 ro 33 (.un .not (.t 32))] (some [33])) UF) UG
def UI : R := .seq (.seq (.ad [ro 22 (.bs 197 (.t 2) 3),
 ro 23 (.aW 195 (.t 22)),
 ro 24 (.bs 197 (.t 3) 3),
 ro 25 (.aW 195 (.t 24)),
 ro 26 (.call (.f 295) [(.t 23), (.t 25)]),
 ro 27 (.un .not (.t 26))] (some [2, 3, 27])) UD) UH
def UJ : R := .seq (.seq (.ad [ro 17 (.bs 197 (.t 2) 2),
 ro 18 (.aW 9 (.t 17)),
 ro 19 (.bs 197 (.t 3) 2),
 ro 20 (.aW 9 (.t 19)),
 ro 21 (.aK .neq 9 (.t 18) (.t 20))] (some [2, 3, 21])) UB) UI
def UK : R := .seq (.seq (.ad [ro 11 (.bs 197 (.t 2) 1),
 ro 12 (.aW 40 (.t 11)),
 ro 13 (.bs 197 (.t 3) 1),
 ro 14 (.aW 40 (.t 13)),
 ro 15 (.call (.f 35) [(.t 12), (.t 14)]),
 ro 16 (.un .not (.t 15))] (some [2, 3, 16])) Uz) UJ
def UL : R := .seq (.seq (.ad [ro 5 (.bs 197 (.t 2) 0),
 ro 6 (.aW 68 (.t 5)),
 ro 7 (.bs 197 (.t 3) 0),
 ro 8 (.aW 68 (.t 7)),
 ro 9 (.call (.f 59) [(.t 6), (.t 8)]),
 ro 10 (.un .not (.t 9))] (some [2, 3, 10])) Ux) UK
def UM : R := .seq (.ad [ro 2 (.di 197 (.t 0)),
 ro 3 (.di 197 (.t 1)),
 ro 4 (.an (.c (.bool false)))] (some [2, 3])) UL
theorem UN : b0 ⟨34, [0, 1]⟩ (Try.f239.body.getD .skip) = some UM.strip := by kernel_rfl
def UO : R := .seq (.ad [ro 4 (.an (.c (.bool false)))] (some [4])) .ret
def UP : R := .cond (.t 10) UO .skip
def UQ : R := .cond (.t 14) .skip (.exit 0)
def UR : R := .seq (.ad [ro 4 (.an (.c (.bool false)))] (some [4])) .ret
def US : R := .cond (.t 26) UR .skip
def UT : R := .ad [ro 15 (.ae (.t 5)),
 ro 16 (.aK .add 3 (.t 15) (.c (.int .i64 1))),
 ro 5 (.an (.t 16))] (some [0, 1, 5])
def UU : R := .seq (.block 1 (.seq (.hJ [ro 17 (.ae (.t 0)),
 ro 18 (.ae (.t 5)),
 ro 19 (.cp 88 (.t 17) (.t 18)),
 ro 20 (.aW 197 (.t 19)),
 ro 21 (.ae (.t 1)),
 ro 22 (.ae (.t 5)),
 ro 23 (.cp 88 (.t 21) (.t 22)),
 ro 24 (.aW 197 (.t 23)),
 ro 25 (.call (.f 239) [(.t 20), (.t 24)]),
 ro 26 (.un .not (.t 25))] [[], [], [0, 1], [2], [], [], [4, 5], [6], [3, 7], [8]] (some [0, 1, 5, 26])) US)) UT
def Eo : R := .seq (.seq (.ad [ro 11 (.ae (.t 5)),
 ro 12 (.ae (.t 0)),
 ro 13 (.len 88 (.t 12)),
 ro 14 (.aK .lss 3 (.t 11) (.t 13))] (some [0, 1, 5, 14])) UQ) UU
def UW : R := .block 0 (.loop Eo)
def UX : R := .seq (.ad [ro 4 (.an (.c (.bool true)))] (some [4])) .ret
def UY : R := .seq (.seq (.ad [ro 5 (.an (.c (.int .i64 0)))] (some [0, 1, 5])) UW) UX
def UZ : R := .seq (.seq (.ad [ro 6 (.ae (.t 0)),
 ro 7 (.len 88 (.t 6)),
 ro 8 (.ae (.t 1)),
 ro 9 (.len 88 (.t 8)),
 ro 10 (.aK .neq 3 (.t 7) (.t 9))] (some [0, 1, 10])) UP) UY
def U0 : R := .seq (.ad [ro 4 (.an (.c (.bool false)))] (some [0, 1])) UZ
theorem U1 : b0 ⟨27, [0, 1]⟩ (Try.f169.body.getD .skip) = some U0.strip := by kernel_rfl
def U2 : R := .seq (.ad [ro 4 (.an (.c (.bool false)))] (some [4])) .ret
def U3 : R := .cond (.t 9) U2 .skip
def U4 : R := .seq (.ad [ro 4 (.an (.c (.bool false)))] (some [4])) .ret
def U5 : R := .cond (.t 15) U4 .skip
def U6 : R := .seq (.ad [ro 4 (.an (.c (.bool false)))] (some [4])) .ret
def U7 : R := .cond (.t 21) U6 .skip
def U8 : R := .seq (.ad [ro 4 (.an (.c (.bool true)))] (some [4])) .ret
def U9 : R := .seq (.seq (.ad [ro 16 (.bs 90 (.t 2) 2),
 ro 17 (.aW 88 (.t 16)),
 ro 18 (.bs 90 (.t 3) 2),
 ro 19 (.aW 88 (.t 18)),
 ro 20 (.call (.f 169) [(.t 17), (.t 19)]),
 ro 21 (.un .not (.t 20))] (some [21])) U7) U8
def U_ : R := .seq (.seq (.ad [ro 10 (.bs 90 (.t 2) 1),
 ro 11 (.aW 68 (.t 10)),
 ro 12 (.bs 90 (.t 3) 1),
 ro 13 (.aW 68 (.t 12)),
 ro 14 (.call (.f 59) [(.t 11), (.t 13)]),
 ro 15 (.un .not (.t 14))] (some [2, 3, 15])) U5) U9
def Va : R := .seq (.seq (.ad [ro 5 (.bs 90 (.t 2) 0),
 ro 6 (.aW 2 (.t 5)),
 ro 7 (.bs 90 (.t 3) 0),
 ro 8 (.aW 2 (.t 7)),
 ro 9 (.aK .neq 2 (.t 6) (.t 8))] (some [2, 3, 9])) U3) U_
def Vb : R := .seq (.ad [ro 2 (.di 90 (.t 0)),
 ro 3 (.di 90 (.t 1)),
 ro 4 (.an (.c (.bool false)))] (some [2, 3])) Va
theorem Vc : b0 ⟨22, [0, 1]⟩ (Try.f76.body.getD .skip) = some Vb.strip := by kernel_rfl
def Vd : R := .cond (.t 9) .skip (.exit 0)
def Ve : R := .ad [ro 16 (.ae (.t 1)),
 ro 17 (.aK .add 3 (.t 16) (.c (.int .i64 1))),
 ro 1 (.an (.t 17))] (some [0, 1, 5])
def Vf : R := .ad [ro 10 (.ae (.t 5)),
 ro 11 (.aK .add 3 (.t 10) (.c (.int .i64 1))),
 ro 5 (.an (.t 11))] (some [0, 1, 5])
def Vg : R := .seq (.block 1 (.seq (.ad [ro 12 (.ae (.t 0)),
 ro 13 (.ae (.t 5)),
 ro 14 (.ae (.t 1)),
 ro 15 (.cp 68 (.t 12) (.t 13)),
 ⟨none, .de 2 (.t 15) (.t 14), none⟩] (some [0, 1, 5])) Ve)) Vf
def Ep : R := .seq (.seq (.ad [ro 6 (.ae (.t 5)),
 ro 7 (.ae (.t 0)),
 ro 8 (.len 68 (.t 7)),
 ro 9 (.aK .lss 3 (.t 6) (.t 8))] (some [0, 1, 5, 9])) Vd) Vg
def Vh : R := .block 0 (.loop Ep)
def Vi : R := .seq (.ad [ro 18 (.ae (.t 1)),
 ro 4 (.an (.t 18))] (some [0, 4])) .ret
def Vj : R := .seq (.seq (.ad [ro 5 (.an (.c (.int .i64 0)))] (some [0, 1, 5])) Vh) Vi
def Vk : R := .seq (.ad [ro 4 (.an (.c (.int .i64 0)))] (some [0, 1])) Vj
theorem Vl : b0 ⟨19, [0]⟩ (Try.f61.body.getD .skip) = some Vk.strip := by kernel_rfl
def Vm : R := .cond (.t 9) .skip (.exit 0)
def Vn : R := .ad [ro 24 (.ae (.t 1)),
 ro 25 (.aK .add 3 (.t 24) (.c (.int .i64 1))),
 ro 1 (.an (.t 25))] (some [0, 1, 5])
def Vo : R := .seq (.ad [ro 19 (.ae (.t 0)),
 ro 20 (.ae (.t 5)),
 ro 21 (.ae (.t 1)),
 ro 22 (.cp 40 (.t 19) (.t 20)),
 ro 23 (.bs 131 (.t 22) 1),
 ⟨none, .de 2 (.t 23) (.t 21), none⟩] (some [0, 1, 5])) Vn
def Vp : R := .seq (.ad [ro 17 (.ae (.t 1)),
 ro 18 (.aK .add 3 (.t 17) (.c (.int .i64 1))),
 ro 1 (.an (.t 18))] (some [0, 1, 5])) Vo
def Vq : R := .ad [ro 10 (.ae (.t 5)),
 ro 11 (.aK .add 3 (.t 10) (.c (.int .i64 1))),
 ro 5 (.an (.t 11))] (some [0, 1, 5])
def Vr : R := .seq (.block 1 (.seq (.ad [ro 12 (.ae (.t 0)),
 ro 13 (.ae (.t 5)),
 ro 14 (.ae (.t 1)),
 ro 15 (.cp 40 (.t 12) (.t 13)),
 ro 16 (.bs 131 (.t 15) 0),
 ⟨none, .de 2 (.t 16) (.t 14), none⟩] (some [0, 1, 5])) Vp)) Vq
def Er : R := .seq (.seq (.ad [ro 6 (.ae (.t 5)),
 ro 7 (.ae (.t 0)),
 ro 8 (.len 40 (.t 7)),
 ro 9 (.aK .lss 3 (.t 6) (.t 8))] (some [0, 1, 5, 9])) Vm) Vr
def Vs : R := .block 0 (.loop Er)
def Vt : R := .seq (.ad [ro 26 (.ae (.t 1)),
 ro 4 (.an (.t 26))] (some [0, 4])) .ret
def Vu : R := .seq (.seq (.ad [ro 5 (.an (.c (.int .i64 0)))] (some [0, 1, 5])) Vs) Vt
def Vv : R := .seq (.ad [ro 4 (.an (.c (.int .i64 0)))] (some [0, 1])) Vu
theorem Vw : b0 ⟨27, [0]⟩ (Try.f60.body.getD .skip) = some Vv.strip := by kernel_rfl
def Vx : R := .seq (.ad [ro 2 (.an (.c (.str [109, 48])))] (some [2])) .ret
def Vy : R := .cond (.t 5) Vx .skip
def Vz : R := .cond (.t 7) .skip (.exit 0)
def VA : R := .ad [ro 16 (.ae (.t 0)),
 ro 17 (.aK .quo 3 (.t 16) (.c (.int .i64 10))),
 ro 0 (.an (.t 17))] (some [0, 3])
def VB : R := .block 1 (.seq (.ad [ro 8 (.ae (.t 0)),
 ro 9 (.aK .rem 3 (.t 8) (.c (.int .i64 10))),
 ro 10 (.aK .add 3 (.c (.int .i64 48)) (.t 9)),
 ro 11 (.ey 3 5 (.t 10)),
 ro 12 (.c_ 107 1 [(0, (.t 11))]),
 ro 13 (.ey 107 9 (.t 12)),
 ro 14 (.ae (.t 3)),
 ro 15 (.aK .add 9 (.t 13) (.t 14)),
 ro 3 (.an (.t 15))] (some [0, 3])) VA)
def Es : R := .seq (.seq (.ad [ro 6 (.ae (.t 0)),
 ro 7 (.aK .gtr 3 (.t 6) (.c (.int .i64 0)))] (some [0, 3, 7])) Vz) VB
def VC : R := .seq (.ad [ro 18 (.ae (.t 3)),
 ro 19 (.aK .add 9 (.c (.str [109])) (.t 18)),
 ro 2 (.an (.t 19))] (some [2])) .ret
def VD : R := .seq (.block 0 (.loop Es)) VC
def VE : R := .seq (.ad [ro 3 (.an (.c (.str [])))] (some [0, 3])) VD
def VF : R := .seq (.seq (.ad [ro 4 (.ae (.t 0)),
 ro 5 (.aK .leq 3 (.t 4) (.c (.int .i64 0)))] (some [0, 5])) Vy) VE
def VG : R := .seq (.ad [ro 2 (.an (.c (.str [])))] (some [0])) VF
theorem VH : b0 ⟨20, []⟩ (Try.f114.body.getD .skip) = some VG.strip := by kernel_rfl
def VI : R := .cond (.t 9) .skip (.exit 0)
def VJ : R := .ad [ro 10 (.ae (.t 5)),
 ro 11 (.aK .add 3 (.t 10) (.c (.int .i64 1))),
 ro 5 (.an (.t 11))] (some [0, 1, 5])
def VK : R := .seq (.block 1 (.ad [ro 12 (.ae (.t 0)),
 ro 13 (.ae (.t 5)),
 ro 14 (.cp 195 (.t 12) (.t 13)),
 ro 15 (.aW 40 (.t 14)),
 ro 16 (.ae (.t 1)),
 ro 17 (.call (.f 60) [(.t 15), (.t 16)]),
 ro 1 (.an (.t 17))] (some [0, 1, 5]))) VJ
def Et : R := .seq (.seq (.ad [ro 6 (.ae (.t 5)),
 ro 7 (.ae (.t 0)),
 ro 8 (.len 195 (.t 7)),
 ro 9 (.aK .lss 3 (.t 6) (.t 8))] (some [0, 1, 5, 9])) VI) VK
def VL : R := .block 0 (.loop Et)
def VM : R := .seq (.ad [ro 18 (.ae (.t 1)),
 ro 4 (.an (.t 18))] (some [0, 4])) .ret
def VN : R := .seq (.seq (.ad [ro 5 (.an (.c (.int .i64 0)))] (some [0, 1, 5])) VL) VM
def VO : R := .seq (.ad [ro 4 (.an (.c (.int .i64 0)))] (some [0, 1])) VN
theorem VP : b0 ⟨19, [0]⟩ (Try.f240.body.getD .skip) = some VO.strip := by kernel_rfl
def VQ : R := .cond (.t 9) .skip (.exit 0)
def VR : R := .ad [ro 41 (.ae (.t 0)),
 ro 42 (.ae (.t 5)),
 ro 43 (.cp 88 (.t 41) (.t 42)),
 ro 44 (.bs 197 (.t 43) 4),
 ro 45 (.aW 195 (.t 44)),
 ro 46 (.ae (.t 1)),
 ro 47 (.call (.f 240) [(.t 45), (.t 46)]),
 ro 1 (.an (.t 47))] (some [0, 1, 5])
def VS : R := .seq (.ad [ro 34 (.ae (.t 0)),
 ro 35 (.ae (.t 5)),
 ro 36 (.cp 88 (.t 34) (.t 35)),
 ro 37 (.bs 197 (.t 36) 3),
 ro 38 (.aW 195 (.t 37)),
 ro 39 (.ae (.t 1)),
 ro 40 (.call (.f 240) [(.t 38), (.t 39)]),
 ro 1 (.an (.t 40))] (some [0, 1, 5])) VR
def VT : R := .seq (.ad [ro 32 (.ae (.t 1)),
 ro 33 (.aK .add 3 (.t 32) (.c (.int .i64 1))),
 ro 1 (.an (.t 33))] (some [0, 1, 5])) VS
def VU : R := .seq (.ad [ro 26 (.ae (.t 0)),
 ro 27 (.ae (.t 5)),
 ro 28 (.ae (.t 1)),
 ro 29 (.call (.f 114) [(.t 28)]),
 ro 30 (.cp 88 (.t 26) (.t 27)),
 ro 31 (.bs 197 (.t 30) 2),
 ⟨none, .de 9 (.t 31) (.t 29), none⟩] (some [0, 1, 5])) VT
def VV : R := .seq (.ad [ro 19 (.ae (.t 0)),
 ro 20 (.ae (.t 5)),
 ro 21 (.cp 88 (.t 19) (.t 20)),
 ro 22 (.bs 197 (.t 21) 1),
 ro 23 (.aW 40 (.t 22)),
 ro 24 (.ae (.t 1)),
 ro 25 (.call (.f 60) [(.t 23), (.t 24)]),
 ro 1 (.an (.t 25))] (some [0, 1, 5])) VU
def VW : R := .ad [ro 10 (.ae (.t 5)),
 ro 11 (.aK .add 3 (.t 10) (.c (.int .i64 1))),
 ro 5 (.an (.t 11))] (some [0, 1, 5])
def VX : R := .seq (.block 1 (.seq (.ad [ro 12 (.ae (.t 0)),
 ro 13 (.ae (.t 5)),
 ro 14 (.cp 88 (.t 12) (.t 13)),
 ro 15 (.bs 197 (.t 14) 0),
 ro 16 (.aW 68 (.t 15)),
 ro 17 (.ae (.t 1)),
 ro 18 (.call (.f 61) [(.t 16), (.t 17)]),
 ro 1 (.an (.t 18))] (some [0, 1, 5])) VV)) VW
def Eu : R := .seq (.seq (.ad [ro 6 (.ae (.t 5)),
 ro 7 (.ae (.t 0)),
 ro 8 (.len 88 (.t 7)),
 ro 9 (.aK .lss 3 (.t 6) (.t 8))] (some [0, 1, 5, 9])) VQ) VX
def VY : R := .block 0 (.loop Eu)
def VZ : R := .seq (.ad [ro 48 (.ae (.t 1)),
 ro 4 (.an (.t 48))] (some [0, 4])) .ret
def V0 : R := .seq (.seq (.ad [ro 5 (.an (.c (.int .i64 0)))] (some [0, 1, 5])) VY) VZ
def V1 : R := .seq (.ad [ro 4 (.an (.c (.int .i64 0)))] (some [0, 1])) V0
theorem V2 : b0 ⟨49, [0]⟩ (Try.f170.body.getD .skip) = some V1.strip := by kernel_rfl
def V3 : R := .seq (.ad [ro 13 (.ae (.t 1)),
 ro 4 (.an (.t 13))] (some [0, 4])) .ret
def V4 : R := .seq (.ad [ro 9 (.bs 90 (.t 2) 2),
 ro 10 (.aW 88 (.t 9)),
 ro 11 (.ae (.t 1)),
 ro 12 (.call (.f 170) [(.t 10), (.t 11)]),
 ro 1 (.an (.t 12))] (some [0, 1])) V3
def V5 : R := .seq (.ad [ro 5 (.bs 90 (.t 2) 1),
 ro 6 (.aW 68 (.t 5)),
 ro 7 (.ae (.t 1)),
 ⟨some 8, .jg (.f 61) [(.t 6), (.t 7)] [2], none⟩,
 ro 1 (.an (.t 8))] (some [0, 1, 2])) V4
def V6 : R := .seq (.ad [⟨some 2, .h4 90 (.t 0), none⟩,
 ro 4 (.an (.c (.int .i64 0)))] (some [0, 1, 2])) V5
theorem V7 : b0 ⟨14, [0]⟩ (Try.f77.body.getD .skip) = some V6.strip := by kernel_rfl
def V8 : R := .cond (.t 9) .skip (.exit 0)
def V9 : R := .ad [ro 17 (.ae (.t 1)),
 ro 18 (.aK .add 3 (.t 17) (.c (.int .i64 1))),
 ro 1 (.an (.t 18))] (some [0, 1, 5])
def V_ : R := .ad [ro 10 (.ae (.t 5)),
 ro 11 (.aK .add 3 (.t 10) (.c (.int .i64 1))),
 ro 5 (.an (.t 11))] (some [0, 1, 5])
def Wa : R := .seq (.block 1 (.seq (.ad [ro 12 (.ae (.t 0)),
 ro 13 (.ae (.t 5)),
 ro 14 (.ae (.t 1)),
 ro 15 (.call (.f 114) [(.t 14)]),
 ro 16 (.cp 100 (.t 12) (.t 13)),
 ⟨none, .de 9 (.t 16) (.t 15), none⟩] (some [0, 1, 5])) V9)) V_
def Ev : R := .seq (.seq (.ad [ro 6 (.ae (.t 5)),
 ro 7 (.ae (.t 0)),
 ro 8 (.len 100 (.t 7)),
 ro 9 (.aK .lss 3 (.t 6) (.t 8))] (some [0, 1, 5, 9])) V8) Wa
def Wb : R := .block 0 (.loop Ev)
def Wc : R := .seq (.ad [ro 19 (.ae (.t 1)),
 ro 4 (.an (.t 19))] (some [0, 4])) .ret
def Wd : R := .seq (.seq (.ad [ro 5 (.an (.c (.int .i64 0)))] (some [0, 1, 5])) Wb) Wc
def We : R := .seq (.ad [ro 4 (.an (.c (.int .i64 0)))] (some [0, 1])) Wd
theorem Wf : b0 ⟨20, [0]⟩ (Try.f86.body.getD .skip) = some We.strip := by kernel_rfl
def Wg : R := .cond (.t 9) .skip (.exit 0)
def Wh : R := .seq (.ad [ro 4 (.an (.c (.int .i64 (-1))))] (some [4])) .ret
def Wi : R := .cond (.t 18) Wh .skip
def Wj : R := .ad [ro 19 (.ae (.t 1)),
 ro 20 (.aK .add 3 (.t 19) (.c (.int .i64 1))),
 ro 1 (.an (.t 20))] (some [0, 1, 5])
def Wk : R := .ad [ro 10 (.ae (.t 5)),
 ro 11 (.aK .add 3 (.t 10) (.c (.int .i64 1))),
 ro 5 (.an (.t 11))] (some [0, 1, 5])
def Wl : R := .seq (.block 1 (.seq (.seq (.hJ [ro 12 (.ae (.t 0)),
 ro 13 (.ae (.t 5)),
 ro 14 (.cp 100 (.t 12) (.t 13)),
 ro 15 (.aW 9 (.t 14)),
 ro 16 (.ae (.t 1)),
 ro 17 (.call (.f 114) [(.t 16)]),
 ro 18 (.aK .neq 9 (.t 15) (.t 17))] [[], [], [0, 1], [2], [], [4], [3, 5]] (some [0, 1, 5, 18])) Wi) Wj)) Wk
def Ew : R := .seq (.seq (.ad [ro 6 (.ae (.t 5)),
 ro 7 (.ae (.t 0)),
 ro 8 (.len 100 (.t 7)),
 ro 9 (.aK .lss 3 (.t 6) (.t 8))] (some [0, 1, 5, 9])) Wg) Wl
def Wm : R := .block 0 (.loop Ew)
def Wn : R := .seq (.ad [ro 21 (.ae (.t 1)),
 ro 4 (.an (.t 21))] (some [4])) .ret
def Wo : R := .seq (.seq (.ad [ro 5 (.an (.c (.int .i64 0)))] (some [0, 1, 5])) Wm) Wn
def Wp : R := .seq (.ad [ro 4 (.an (.c (.int .i64 0)))] (some [0, 1])) Wo
theorem Wq : b0 ⟨22, [0]⟩ (Try.f87.body.getD .skip) = some Wp.strip := by kernel_rfl
def Wr : R := .seq (.ad [ro 2 (.an (.c (.bool true)))] (some [2])) .ret
def Ws : R := .cond (.t 18) Wr .skip
def Wt : R := .seq (.ad [ro 2 (.an (.c (.bool false)))] (some [2])) .ret
def Wu : R := .cond (.t 40) Wt .skip
def Wv : R := .seq (.ad [ro 2 (.an (.c (.bool false)))] (some [2])) .ret
def Ww : R := .cond (.t 45) Wv .skip
def Wx : R := .seq (.ad [ro 2 (.an (.c (.bool false)))] (some [2])) .ret
def Wy : R := .cond (.t 61) Wx .skip
def Wz : R := .seq (.ad [ro 2 (.an (.c (.bool false)))] (some [2])) .ret
def WA : R := .cond (.t 69) Wz .skip
def WB : R := .seq (.ad [ro 2 (.an (.c (.bool false)))] (some [2])) .ret
def WC : R := .cond (.t 72) WB .skip
def WD : R := .seq (.ad [ro 2 (.an (.c (.bool false)))] (some [2])) .ret
def WE : R := .cond (.t 87) WD .skip
def WG : R := .seq (.ad [ro 2 (.an (.c (.bool false)))] (some [2])) .ret
def WH : R := .cond (.t 92) WG .skip
def WI : R := .seq (.ad [ro 2 (.an (.c (.bool false)))] (some [2])) .ret
def WJ : R := .cond (.t 95) WI .skip
def WK : R := .seq (.ad [ro 2 (.an (.c (.bool true)))] (some [2])) .ret
def WL : R := .seq (.seq (.ad [ro 93 (.ae (.t 11)),
 ro 94 (.ae (.t 10)),
 ro 95 (.aK .neq 3 (.t 93) (.t 94))] (some [95])) WJ) WK
def WM : R := .seq (.seq (.ad [ro 91 (.ae (.t 11)),
 ro 92 (.aK .lss 3 (.t 91) (.c (.int .i64 0)))] (some [10, 11, 92])) WH) WL
def WN : R := .seq (.ad [ro 88 (.ae (.t 7)),
 ro 89 (.ae (.t 11)),
 ro 90 (.call (.f 87) [(.t 88), (.t 89)]),
 ro 11 (.an (.t 90))] (some [10, 11])) WM
def WO : R := .seq (.ad [ro 11 (.an (.c (.int .i64 1)))] (some [7, 10, 11])) WN
def WQ : R := .seq (.seq (.ad [ro 79 (.ae (.t 12)),
 ro 80 (.ae (.t 4)),
 ro 81 (.call (.f 85) [(.t 79), (.t 80)]),
 ro 82 (.un .not (.t 81)),
 ro 83 (.ae (.t 82)),
 ⟨some 84, .ae (.t 13), some (83, false)⟩,
 ⟨some 85, .ae (.t 5), some (83, false)⟩,
 ⟨some 86, .aK .neq 2 (.t 84) (.t 85), some (83, false)⟩,
 ro 87 (.pick (.t 83) (.c (.bool true)) (.t 86))] (some [7, 10, 87])) WE) WO
def WR : R := .seq (.ad [ro 74 (.aW 86 (.t 1)),
 ro 75 (.call (.f 74) [(.t 74)]),
 ro 76 (.call (.f 84) [(.t 75)]),
 ro 73 (.ae (.t 76)),
 ro 77 (.ex (.t 73) 0),
 ro 78 (.ex (.t 73) 1),
 ro 12 (.an (.t 77)),
 ro 13 (.an (.t 78))] (some [4, 5, 7, 10, 12, 13])) WQ
def WS : R := .seq (.seq (.ad [ro 70 (.ae (.t 11)),
 ro 71 (.ae (.t 10)),
 ro 72 (.aK .neq 3 (.t 70) (.t 71))] (some [1, 4, 5, 7, 10, 72])) WC) WR
def WT : R := .seq (.seq (.ad [ro 68 (.ae (.t 11)),
 ro 69 (.aK .lss 3 (.t 68) (.c (.int .i64 0)))] (some [1, 4, 5, 7, 10, 11, 69])) WA) WS
def WU : R := .seq (.ad [ro 65 (.ae (.t 7)),
 ro 66 (.ae (.t 11)),
 ro 67 (.call (.f 87) [(.t 65), (.t 66)]),
 ro 11 (.an (.t 67))] (some [1, 4, 5, 7, 10, 11])) WT
def WV : R := .seq (.ad [ro 11 (.an (.c (.int .i64 1)))] (some [1, 4, 5, 7, 10, 11])) WU
def WW : R := .seq (.ad [ro 62 (.ae (.t 7)),
 ro 63 (.ae (.t 10)),
 ro 64 (.call (.f 86) [(.t 62), (.t 63)]),
 ro 10 (.an (.t 64))] (some [1, 4, 5, 7, 10])) WV
def WX : R := .seq (.ad [ro 10 (.an (.c (.int .i64 1)))] (some [1, 4, 5, 7, 10])) WW
def WY : R := .seq (.seq (.ad [ro 49 (.ae (.t 9)),
 ro 50 (.aK .lss 3 (.t 49) (.c (.int .i64 0))),
 ro 51 (.ae (.t 50)),
 ⟨some 52, .ae (.t 7), some (51, false)⟩,
 ⟨some 53, .ae (.t 4), some (51, false)⟩,
 ⟨some 54, .call (.f 85) [(.t 52), (.t 53)], some (51, false)⟩,
 ⟨some 55, .un .not (.t 54), some (51, false)⟩,
 ro 56 (.pick (.t 51) (.c (.bool true)) (.t 55)),
 ro 57 (.ae (.t 56)),
 ⟨some 58, .ae (.t 8), some (57, false)⟩,
 ⟨some 59, .ae (.t 5), some (57, false)⟩,
 ⟨some 60, .aK .neq 2 (.t 58) (.t 59), some (57, false)⟩,
 ro 61 (.pick (.t 57) (.c (.bool true)) (.t 60))] (some [1, 4, 5, 7, 61])) Wy) WX
def WZ : R := .seq (.ad [ro 46 (.aW 90 (.t 6)),
 ro 47 (.ae (.t 9)),
 ro 48 (.call (.f 77) [(.t 46), (.t 47)]),
 ro 9 (.an (.t 48))] (some [1, 4, 5, 7, 8, 9])) WY
def W0 : R := .seq (.ad [ro 9 (.an (.c (.int .i64 1)))] (some [1, 4, 5, 6, 7, 8, 9])) WZ
def W1 : R := .seq (.seq (.hJ [ro 41 (.aW 90 (.t 6)),
 ro 42 (.aW 86 (.t 1)),
 ro 43 (.call (.f 74) [(.t 42)]),
 ro 44 (.call (.f 76) [(.t 41), (.t 43)]),
 ro 45 (.un .not (.t 44))] [[], [], [1], [0, 2, 2], [3]] (some [1, 4, 5, 6, 7, 8, 45])) Ww) W0
def W2 : R := .seq (.seq (.ad [ro 32 (.ae (.t 7)),
 ro 33 (.ae (.t 4)),
 ro 34 (.call (.f 85) [(.t 32), (.t 33)]),
 ro 35 (.un .not (.t 34)),
 ro 36 (.ae (.t 35)),
 ⟨some 37, .ae (.t 8), some (36, false)⟩,
 ⟨some 38, .ae (.t 5), some (36, false)⟩,
 ⟨some 39, .aK .neq 2 (.t 37) (.t 38), some (36, false)⟩,
 ro 40 (.pick (.t 36) (.c (.bool true)) (.t 39))] (some [1, 4, 5, 6, 7, 8, 40])) Wu) W1
def W3 : R := .seq (.ad [ro 28 (.aW 90 (.t 6)),
 ro 29 (.call (.f 84) [(.t 28)]),
 ro 27 (.ae (.t 29)),
 ro 30 (.ex (.t 27) 0),
 ro 31 (.ex (.t 27) 1),
 ro 7 (.an (.t 30)),
 ro 8 (.an (.t 31))] (some [1, 4, 5, 6, 7, 8])) W2
def W4 : R := .seq (.ad [ro 25 (.aW 86 (.t 1)),
 ro 26 (.call (.f 74) [(.t 25)]),
 ro 6 (.eV 90),
 ⟨none, .de 90 (.t 6) (.t 26), none⟩] (some [1, 4, 5, 6])) W3
def W5 : R := .seq (.ad [ro 20 (.aW 86 (.t 1)),
 ro 21 (.call (.f 74) [(.t 20)]),
 ro 22 (.call (.f 83) [(.t 21)]),
 ro 19 (.ae (.t 22)),
 ro 23 (.ex (.t 19) 0),
 ro 24 (.ex (.t 19) 1),
 ro 4 (.an (.t 23)),
 ro 5 (.an (.t 24))] (some [1, 4, 5])) W4
def W6 : R := .seq (.seq (.ad [ro 17 (.ae (.t 3)),
 ro 18 (.aK .lss 3 (.t 17) (.c (.int .i64 0)))] (some [1, 18])) Ws) W5
def W7 : R := .seq (.ad [ro 14 (.aW 86 (.t 1)),
 ro 15 (.ae (.t 3)),
 ro 16 (.call (.f 72) [(.t 14), (.t 15)]),
 ro 3 (.an (.t 16))] (some [1, 3])) W6
def W8 : R := .seq (.ad [ro 3 (.an (.c (.int .i64 1048576)))] (some [1, 3])) W7
def W9 : R := .seq (.ad [ro 1 (.di 86 (.t 0)),
 ro 2 (.an (.c (.bool false)))] (some [1])) W8
theorem mj : b0 ⟨96, [0]⟩ (Try.f19.body.getD .skip) = some W9.strip := by kernel_rfl
def aL := PLift.up (And.intro @Bool.not_true @Bool.not_false)
end Go.Proofs.Ytobljppjkklojaa
