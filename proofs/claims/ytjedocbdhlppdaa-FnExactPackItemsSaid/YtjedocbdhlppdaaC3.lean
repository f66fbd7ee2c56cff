/- Part of a proof that a law returns true for every input. No condition. -/
import Derived.Test.YtjedocbdhlppdaaTb
import Derived.Test.YtjedocbdhlppdaaFwL
import Derived.Test.YtjedocbdhlppdaaP3
namespace Go.Proofs.Ytjedocbdhlppdaa
open Go Go.b1 Go.fg
set_option linter.unusedSimpArgs false
def eX (x : dL) : j := .agg [.str x.Name, .str x.bp]
theorem L6 (x : dL) : (eX x).share = eX x := by
 simp only [eX, kY]
theorem L7 (x : dL) : (eX x).cN = true := by
 simp only [eX, j.cN, j.kN, Bool.and_self]
def qo (x : List UInt8) : j := .str x
theorem L8 (x : List UInt8) : (qo x).share = qo x := by
 simp only [qo, kY]
theorem L9 (x : List UInt8) : (qo x).cN = true := by
 simp only [qo, j.cN, j.kN, Bool.and_self]
def bP (x : bS) : j := .agg [.str x.Name, .str x.bp]
theorem r_ (x : bS) : (bP x).share = bP x := by
 simp only [bP, kY]
theorem L_ (x : bS) : (bP x).cN = true := by
 simp only [bP, j.cN, j.kN, Bool.and_self]
def FQ : ao := .seq (.aE [dK 4 (-1)] (some [4])) .ret
def FR : ao := .cond (.t 11) FQ .skip
def FT : ao := .seq (.aE [dK 4 (-1)] (some [4])) .ret
def FU : ao := .cond (.t 18) FT .skip
def FV : ao := .seq (.aE [aM 19 1,
 cq 4 19] (some [4])) .ret
def FW : ao := .seq (.seq (.aE [aM 17 1,
 cV 18 .lss 3 17 0] (some [1, 18])) FU) FV
def FX : ao := .seq (.aE [aM 12 1,
 fZ 13 34 2 1,
 e8 14 9 13,
 eM 15 9 14,
 eg 16 .sub 3 12 15,
 cq 1 16] (some [1])) FW
def FY : ao := .seq (.seq (.aE [aM 10 1,
 cV 11 .lss 3 10 0] (some [1, 2, 11])) FR) FX
def FZ : ao := .seq (.aE [aM 5 1,
 fZ 6 34 2 0,
 e8 7 9 6,
 eM 8 9 7,
 eg 9 .sub 3 5 8,
 cq 1 9] (some [1, 2])) FY
def F1 : ao := .seq (.aE [ro 2 (.da 34 (.t 0)),
 dK 4 0] (some [1, 2])) FZ
theorem k5 : cz ⟨20, [0]⟩ (Try.f21.body.getD .skip) = some F1.strip := by kernel_rfl
def F2 : ao := .seq (.aE [dK 4 (-1)] (some [4])) .ret
def F3 : ao := .cond (.t 11) F2 .skip
def F4 : ao := .cond (.t 15) .skip (.exit 0)
def F5 : ao := .seq (.aE [dK 4 (-1)] (some [4])) .ret
def F6 : ao := .cond (.t 25) F5 .skip
def F7 : ao := .seq (.aE [aM 24 1,
 cV 25 .lss 3 24 0] (some [0, 1, 5, 25])) F6
def F8 : ao := .aE [aM 16 5,
 cV 17 .add 3 16 1,
 cq 5 17] (some [0, 1, 5])
def F9 : ao := .seq (.block 1 (.seq (.aE [aM 18 0,
 aM 19 5,
 kg 20 22 18 19,
 e8 21 34 20,
 aM 22 1,
 qd 23 21 21 22,
 cq 1 23] (some [0, 1, 5])) F7)) F8
def zy : ao := .seq (.seq (.aE [aM 12 5,
 aM 13 0,
 eM 14 22 13,
 eg 15 .lss 3 12 14] (some [0, 1, 5, 15])) F4) F9
def F_ : ao := .block 0 (.loop zy)
def Ga : ao := .seq (.aE [aM 26 1,
 cq 4 26] (some [4])) .ret
def Gb : ao := .seq (.seq (.aE [dK 5 0] (some [0, 1, 5])) F_) Ga
def Gc : ao := .seq (.seq (.aE [aM 10 1,
 cV 11 .lss 3 10 0] (some [0, 1, 11])) F3) Gb
def Gd : ao := .seq (.aE [aM 6 1,
 aM 7 0,
 eM 8 22 7,
 eg 9 .sub 3 6 8,
 cq 1 9] (some [0, 1])) Gc
def Ge : ao := .seq (.aE [dK 4 0] (some [0, 1])) Gd
theorem Gf : cz ⟨27, [0]⟩ (Try.f10.body.getD .skip) = some Ge.strip := by kernel_rfl
def Gg : ao := .seq (.aE [e8 10 37 3,
 ox 37 2 10] (some [2])) .ret
def Gh : ao := .seq (.aE [fZ 7 34 1 1,
 e8 8 9 7,
 fZ 9 37 3 1,
 ox 9 9 8] (some [2, 3])) Gg
def Gi : ao := .seq (.aE [fZ 4 34 1 0,
 e8 5 9 4,
 fZ 6 37 3 0,
 ox 9 6 5] (some [1, 2, 3])) Gh
def Gj : ao := .seq (.aE [qc 3 37] (some [1, 2, 3])) Gi
def Gk : ao := .seq (.aE [ro 1 (.da 34 (.t 0)),
 qc 2 37] (some [1, 2])) Gj
theorem Gl : cz ⟨11, [0]⟩ (Try.f23.body.getD .skip) = some Gk.strip := by kernel_rfl
def Gm : ao := .cond (.t 11) .skip (.exit 0)
def Gn : ao := .aE [aM 12 4,
 cV 13 .add 3 12 1,
 cq 4 13] (some [0, 3, 4])
def Gp : ao := .seq (.block 1 (.aE [aM 14 3,
 aM 15 4,
 aM 16 0,
 aM 17 4,
 kg 18 22 16 17,
 e8 19 34 18,
 hk 20 23 19,
 kg 21 25 14 15,
 ox 37 21 20] (some [0, 3, 4]))) Gn
def zz : ao := .seq (.seq (.aE [aM 8 4,
 aM 9 0,
 eM 10 22 9,
 eg 11 .lss 3 8 10] (some [0, 3, 4, 11])) Gm) Gp
def Gq : ao := .block 0 (.loop zz)
def Gr : ao := .seq (.aE [aM 22 3,
 cq 2 22] (some [2])) .ret
def Gs : ao := .seq (.seq (.aE [dK 4 0] (some [0, 3, 4])) Gq) Gr
def Gt : ao := .seq (.aE [aM 5 0,
 eM 6 22 5,
 ro 7 (.en 25 (.t 6) (.t 6)),
 cq 3 7] (some [0, 3])) Gs
def Gu : ao := .seq (.aE [Fo 2] (some [0])) Gt
theorem Gv : cz ⟨23, [0]⟩ (Try.f12.body.getD .skip) = some Gu.strip := by kernel_rfl
def Gw : ao := .seq (.aE [aM 3 0,
 ro 4 (.bW .geq 5 (.t 3) (.c (.int .u8 97))),
 aM 5 4,
 ⟨some 6, .cK (.t 0), some (5, true)⟩,
 ⟨some 7, .bW .leq 5 (.t 6) (.c (.int .u8 122)), some (5, true)⟩,
 ro 8 (.pick (.t 5) (.t 7) (.c (.bool false))),
 cq 2 8] (some [2])) .ret
def Gx : ao := .seq (.aE [er 2 false] (some [0])) Gw
theorem Gy : cz ⟨9, [0]⟩ (Try.f91.body.getD .skip) = some Gx.strip := by kernel_rfl
def Gz : ao := .seq (.aE [aM 3 0,
 ro 4 (.bW .geq 5 (.t 3) (.c (.int .u8 48))),
 aM 5 4,
 ⟨some 6, .cK (.t 0), some (5, true)⟩,
 ⟨some 7, .bW .leq 5 (.t 6) (.c (.int .u8 57)), some (5, true)⟩,
 ro 8 (.pick (.t 5) (.t 7) (.c (.bool false))),
 cq 2 8] (some [2])) .ret
def GA : ao := .seq (.aE [er 2 false] (some [0])) Gz
theorem GB : cz ⟨9, [0]⟩ (Try.f92.body.getD .skip) = some GA.strip := by kernel_rfl
def GC : ao := .seq (.aE [er 2 false] (some [2])) .ret
def GD : ao := .cond (.t 16) GC .skip
def GF : ao := .cond (.t 20) .skip (.exit 0)
def GG : ao := .seq (.aE [er 2 false] (some [2])) .ret
def GH : ao := .cond (.t 34) GG .skip
def GI : ao := .aE [aM 21 3,
 cV 22 .add 3 21 1,
 cq 3 22] (some [0, 3])
def GJ : ao := .seq (.block 1 (.seq (.aE [aM 23 0,
 aM 24 3,
 lK 25 9 23 24,
 hk 26 91 25,
 jL 27 26,
 aM 28 27,
 ⟨some 29, .cK (.t 0), some (28, true)⟩,
 ⟨some 30, .cK (.t 3), some (28, true)⟩,
 ⟨some 31, .idx 9 (.t 29) (.t 30), some (28, true)⟩,
 ⟨some 32, .call (.f 92) [(.t 31)], some (28, true)⟩,
 ⟨some 33, .un .not (.t 32), some (28, true)⟩,
 ro 34 (.pick (.t 28) (.t 33) (.c (.bool false)))] (some [0, 3, 34])) GH)) GI
def zA : ao := .seq (.seq (.aE [aM 17 3,
 aM 18 0,
 eM 19 9 18,
 eg 20 .lss 3 17 19] (some [0, 3, 20])) GF) GJ
def GK : ao := .block 0 (.loop zA)
def GL : ao := .seq (.aE [er 2 true] (some [2])) .ret
def GM : ao := .seq (.seq (.aE [dK 3 0] (some [0, 3])) GK) GL
def GN : ao := .seq (.seq (.aE [aM 4 0,
 ro 5 (.bW .eql 9 (.t 4) (.c (.str []))),
 aM 6 5,
 ⟨some 7, .cK (.t 0), some (6, false)⟩,
 ⟨some 8, .len 9 (.t 7), some (6, false)⟩,
 ⟨some 9, .bW .gtr 3 (.t 8) (.c (.int .i64 10)), some (6, false)⟩,
 ro 10 (.pick (.t 6) (.c (.bool true)) (.t 9)),
 aM 11 10,
 ⟨some 12, .cK (.t 0), some (11, false)⟩,
 ⟨some 13, .idx 9 (.t 12) (.c (.int .i64 0)), some (11, false)⟩,
 ⟨some 14, .call (.f 91) [(.t 13)], some (11, false)⟩,
 ⟨some 15, .un .not (.t 14), some (11, false)⟩,
 ro 16 (.pick (.t 11) (.c (.bool true)) (.t 15))] (some [0, 16])) GD) GM
def GO : ao := .seq (.aE [er 2 false] (some [0])) GN
theorem GP : cz ⟨35, [0]⟩ (Try.f52.body.getD .skip) = some GO.strip := by kernel_rfl
def GQ : ao := .cond (.t 10) .skip (.exit 0)
def GR : ao := .cond (.t 21) .skip (.exit 2)
def GS : ao := .aE [aM 28 1,
 cV 29 .and 2 28 65535,
 cV 30 .xor 2 29 4129,
 cq 1 30] (some [0, 1, 5, 6])
def GU : ao := .cond (.t 27) GS .skip
def GV : ao := .seq (.aE [aM 26 1,
 cV 27 .gtr 2 26 65535] (some [0, 1, 5, 6, 27])) GU
def zB : ao := .aE [aM 22 6,
 cV 23 .add 3 22 1,
 cq 6 23] (some [0, 1, 5, 6])
def GW : ao := .seq (.block 3 (.seq (.aE [aM 24 1,
 ro 25 (.bW .shl 2 (.t 24) (.c (.int .u64 1))),
 cq 1 25] (some [0, 1, 5, 6])) GV)) zB
def zC : ao := .seq (.seq (.aE [aM 20 6,
 cV 21 .lss 3 20 8] (some [0, 1, 5, 6, 21])) GR) GW
def GX : ao := .block 2 (.loop zC)
def GY : ao := .seq (.aE [dK 6 0] (some [0, 1, 5, 6])) GX
def GZ : ao := .aE [aM 11 5,
 cV 12 .add 3 11 1,
 cq 5 12] (some [0, 1, 5])
def G0 : ao := .seq (.block 1 (.seq (.aE [aM 13 1,
 aM 14 0,
 aM 15 5,
 lK 16 9 14 15,
 gH 17 5 2 16,
 ro 18 (.bW .shl 2 (.t 17) (.c (.int .u64 8))),
 eg 19 .xor 2 13 18,
 cq 1 19] (some [0, 1, 5])) GY)) GZ
def zD : ao := .seq (.seq (.aE [aM 7 5,
 aM 8 0,
 eM 9 9 8,
 eg 10 .lss 3 7 9] (some [0, 1, 5, 10])) GQ) G0
def G1 : ao := .block 0 (.loop zD)
def G2 : ao := .seq (.aE [aM 31 1,
 cq 4 31] (some [4])) .ret
def G3 : ao := .seq (.seq (.aE [dK 5 0] (some [0, 1, 5])) G1) G2
def G4 : ao := .seq (.aE [dK 4 0] (some [0, 1])) G3
theorem G5 : cz ⟨32, [0]⟩ (Try.f93.body.getD .skip) = some G4.strip := by kernel_rfl
def G6 : ao := .seq (.aE [aM 7 0,
 aM 8 1,
 eg 9 .geq 2 7 8,
 aM 10 9,
 ⟨some 11, .cK (.t 0), some (10, true)⟩,
 ⟨some 12, .cK (.t 2), some (10, true)⟩,
 ⟨some 13, .bW .leq 2 (.t 11) (.t 12), some (10, true)⟩,
 ro 14 (.pick (.t 10) (.t 13) (.c (.bool false))),
 cq 6 14] (some [6])) .ret
def G7 : ao := .seq (.aE [er 6 false] (some [0, 1, 2])) G6
theorem G8 : cz ⟨15, [0, 1, 2]⟩ (Try.f94.body.getD .skip) = some G7.strip := by kernel_rfl
def G9 : ao := .seq (.aE [dK 2 0,
 dK 3 11] (some [2, 3])) .ret
def G_ : ao := .cond (.t 9) G9 .skip
def Ha : ao := .seq (.aE [dK 2 0,
 dK 3 10] (some [2, 3])) .ret
def Hb : ao := .cond (.t 27) Ha .skip
def Hc : ao := .seq (.aE [dK 2 0,
 dK 3 9] (some [2, 3])) .ret
def Hd : ao := .cond (.t 37) Hc .skip
def He : ao := .seq (.aE [aM 38 5,
 cq 2 38,
 dK 3 0] (some [2, 3])) .ret
def Hf : ao := .seq (.seq (.aE [aM 31 5,
 ro 32 (.call (.f 94) [(.t 31), (.c (.int .i64 1)), (.c (.int .i64 3))]),
 jL 33 32,
 aM 34 33,
 ⟨some 35, .cK (.t 4), some (34, false)⟩,
 ⟨some 36, .bW .gtr 3 (.t 35) (.c (.int .i64 6000)), some (34, false)⟩,
 ro 37 (.pick (.t 34) (.c (.bool true)) (.t 36))] (some [5, 37])) Hd) He
def Hg : ao := .seq (.aE [aM 28 0,
 ro 29 (.idx 9 (.t 28) (.c (.int .i64 0))),
 gH 30 5 2 29,
 cq 5 30] (some [4, 5])) Hf
def Hh : ao := .seq (.seq (.gr [aM 10 0,
 aM 11 4,
 cV 12 .sub 3 11 2,
 ro 13 (.cU 9 (.t 10) none (some (.t 12))),
 ro 14 (.call (.f 93) [(.t 13), (.c (.int .i64 65535))]),
 aM 15 0,
 aM 16 4,
 cV 17 .sub 3 16 2,
 lK 18 9 15 17,
 gH 19 5 2 18,
 cV 20 .mul 2 19 256,
 aM 21 0,
 aM 22 4,
 cV 23 .sub 3 22 1,
 lK 24 9 21 23,
 gH 25 5 2 24,
 eg 26 .add 2 20 25,
 eg 27 .neq 2 14 26] [[], [], [1], [0, 2], [3], [], [], [6], [5, 7], [8], [9], [], [], [12], [11, 13], [14], [10, 15], [4, 16]] (some [0, 4, 27])) Hb) Hg
def Hi : ao := .seq (.seq (.aE [aM 8 4,
 cV 9 .lss 3 8 3] (some [0, 4, 9])) G_) Hh
def Hj : ao := .seq (.aE [aM 6 0,
 eM 7 9 6,
 cq 4 7] (some [0, 4])) Hi
def Hk : ao := .seq (.aE [dK 2 0,
 dK 3 0] (some [0])) Hj
theorem Hl : cz ⟨39, [0]⟩ (Try.f53.body.getD .skip) = some Hk.strip := by kernel_rfl
def Hm : ao := .seq (.aE [er 2 false] (some [2])) .ret
def Hn : ao := .cond (.t 8) Hm .skip
def Ho : ao := .cond (.t 12) .skip (.exit 0)
def Hp : ao := .seq (.aE [er 2 false] (some [2])) .ret
def Hq : ao := .cond (.t 39) Hp .skip
def Hr : ao := .seq (.aE [er 2 false] (some [2])) .ret
def Hs : ao := .cond (.t 50) Hr .skip
def Ht : ao := .seq (.aE [aM 49 5,
 cV 50 .neq 2 49 0] (some [0, 3, 50])) Hs
def Hu : ao := .seq (.aE [aM 41 0,
 aM 42 3,
 kg 43 25 41 42,
 fZ 44 37 43 1,
 e8 45 9 44,
 hk 46 53 45,
 aM 40 46,
 rI 47 40 0,
 rI 48 40 1,
 cq 4 47,
 cq 5 48] (some [0, 3, 5])) Ht
def Hv : ao := .aE [aM 13 3,
 cV 14 .add 3 13 1,
 cq 3 14] (some [0, 3])
def Hw : ao := .seq (.block 1 (.seq (.seq (.gr [aM 15 0,
 aM 16 3,
 kg 17 25 15 16,
 fZ 18 37 17 0,
 e8 19 9 18,
 hk 20 52 19,
 jL 21 20,
 aM 22 21,
 ⟨some 23, .cK (.t 3), some (22, false)⟩,
 ⟨some 24, .bW .gtr 3 (.t 23) (.c (.int .i64 0)), some (22, false)⟩,
 ⟨some 25, .cK (.t 24), some (22, false)⟩,
 ⟨some 26, .cK (.t 0), some (25, true)⟩,
 ⟨some 27, .cK (.t 3), some (25, true)⟩,
 ⟨some 28, .bW .sub 3 (.t 27) (.c (.int .i64 1)), some (25, true)⟩,
 ⟨some 29, .dm 25 (.t 26) (.t 28), some (25, true)⟩,
 ⟨some 30, .dt 37 (.t 29) 0, some (25, true)⟩,
 ⟨some 31, .cH 9 (.t 30), some (25, true)⟩,
 ⟨some 32, .cK (.t 0), some (25, true)⟩,
 ⟨some 33, .cK (.t 3), some (25, true)⟩,
 ⟨some 34, .dm 25 (.t 32) (.t 33), some (25, true)⟩,
 ⟨some 35, .dt 37 (.t 34) 0, some (25, true)⟩,
 ⟨some 36, .cH 9 (.t 35), some (25, true)⟩,
 ⟨some 37, .bW .geq 9 (.t 31) (.t 36), some (25, true)⟩,
 ⟨some 38, .pick (.t 25) (.t 37) (.c (.bool false)), some (22, false)⟩,
 ro 39 (.pick (.t 22) (.c (.bool true)) (.t 38))] [[], [], [0, 1], [2], [3], [4], [5], [6, 5], [7], [8, 7], [9, 7, 7], [10], [10], [12, 10], [11, 13, 10], [14, 10], [15, 10], [10], [10], [17, 18, 10], [19, 10], [20, 10], [16, 21, 10], [10, 22, 7], [7, 23]] (some [0, 3, 39])) Hq) Hu)) Hv
def zE : ao := .seq (.seq (.aE [aM 9 3,
 aM 10 0,
 eM 11 25 10,
 eg 12 .lss 3 9 11] (some [0, 3, 12])) Ho) Hw
def Hx : ao := .block 0 (.loop zE)
def Hy : ao := .seq (.aE [er 2 true] (some [2])) .ret
def Hz : ao := .seq (.seq (.aE [dK 3 0] (some [0, 3])) Hx) Hy
def HA : ao := .seq (.seq (.aE [aM 6 0,
 eM 7 25 6,
 cV 8 .gtr 3 7 16] (some [0, 8])) Hn) Hz
def HB : ao := .seq (.aE [er 2 false] (some [0])) HA
theorem HC : cz ⟨51, [0]⟩ (Try.f39.body.getD .skip) = some HB.strip := by kernel_rfl
def HD : ao := .seq (.gr [aM 9 0,
 rH 10 9,
 fZ 11 37 10 0,
 e8 12 9 11,
 eM 13 9 12,
 gH 14 3 5 13,
 zl 15 62 14,
 gH 16 62 9 15,
 ro 17 (.bW .add 9 (.c (.str [35])) (.t 16)),
 aM 18 0,
 rH 19 18,
 fZ 20 37 19 0,
 e8 21 9 20,
 eg 22 .add 9 17 21,
 aM 23 3,
 cV 24 .quo 3 23 256,
 gH 25 3 5 24,
 aM 26 3,
 cV 27 .rem 3 26 256,
 gH 28 3 5 27,
 ro 29 (.cR 62 2 [(0, (.t 25)), (1, (.t 28))]),
 gH 30 62 9 29,
 eg 31 .add 9 22 30,
 aM 32 0,
 rH 33 32,
 fZ 34 37 33 1,
 e8 35 9 34,
 eg 36 .add 9 31 35,
 cq 2 36] [[], [0], [1], [2], [3], [4], [5], [6], [7], [], [9], [10], [11], [8, 12], [], [14], [15], [], [17], [18], [16, 19], [20], [13, 21], [], [23], [24], [25], [22, 26], [27, 0, 1, 2, 3, 4, 5, 6, 7, 8, 9, 10, 11, 12, 13, 14, 15, 16, 17, 18, 19, 20, 21, 22, 23, 24, 25, 26, 27]] (some [2])) .ret
def HE : ao := .seq (.aE [aM 4 0,
 rH 5 4,
 fZ 6 37 5 1,
 e8 7 9 6,
 eM 8 9 7,
 cq 3 8] (some [0, 3])) HD
def HF : ao := .seq (.aE [ro 2 (.eo (.c (.str [])))] (some [0])) HE
theorem HG : cz ⟨37, [0]⟩ (Try.f84.body.getD .skip) = some HF.strip := by kernel_rfl
def HH : ao := .cond (.t 8) .skip (.exit 0)
def HI : ao := .aE [aM 9 4,
 cV 10 .add 3 9 1,
 cq 4 10] (some [0, 3, 4])
def HJ : ao := .seq (.block 1 (.aE [aM 11 3,
 aM 12 0,
 aM 13 4,
 kg 14 25 12 13,
 hk 15 84 14,
 eg 16 .add 9 11 15,
 cq 3 16] (some [0, 3, 4]))) HI
def zF : ao := .seq (.seq (.aE [aM 5 4,
 aM 6 0,
 eM 7 25 6,
 eg 8 .lss 3 5 7] (some [0, 3, 4, 8])) HH) HJ
def HK : ao := .block 0 (.loop zF)
def HL : ao := .seq (.aE [aM 17 3,
 cq 2 17] (some [2])) .ret
def HM : ao := .seq (.seq (.aE [dK 4 0] (some [0, 3, 4])) HK) HL
def HN : ao := .seq (.aE [ro 3 (.eo (.c (.str [80, 65])))] (some [0, 3])) HM
def HO : ao := .seq (.aE [ro 2 (.eo (.c (.str [])))] (some [0])) HN
theorem HP : cz ⟨18, [0]⟩ (Try.f40.body.getD .skip) = some HO.strip := by kernel_rfl
def HQ : ao := .seq (.aE [ro 2 (.eo (.c (.str [])))] (some [2])) .ret
def HR : ao := .cond (.t 5) HQ .skip
def HS : ao := .seq (.aE [aM 6 0,
 hk 7 40 6,
 cq 2 7] (some [2])) .ret
def HT : ao := .seq (.seq (.aE [aM 3 0,
 hk 4 39 3,
 jL 5 4] (some [0, 5])) HR) HS
def HU : ao := .seq (.aE [ro 2 (.eo (.c (.str [])))] (some [0])) HT
theorem HV : cz ⟨8, [0]⟩ (Try.f11.body.getD .skip) = some HU.strip := by kernel_rfl
def HW : ao := .seq (.aE [aM 3 0,
 ro 4 (.bW .geq 5 (.t 3) (.c (.int .u8 48))),
 aM 5 4,
 ⟨some 6, .cK (.t 0), some (5, true)⟩,
 ⟨some 7, .bW .leq 5 (.t 6) (.c (.int .u8 57)), some (5, true)⟩,
 ro 8 (.pick (.t 5) (.t 7) (.c (.bool false))),
 cq 2 8] (some [2])) .ret
def HX : ao := .seq (.aE [er 2 false] (some [0])) HW
theorem HY : cz ⟨9, [0]⟩ (Try.f95.body.getD .skip) = some HX.strip := by kernel_rfl
def HZ : ao := .seq (.aE [er 2 false] (some [2])) .ret
def H0 : ao := .cond (.t 32) HZ .skip
def H2 : ao := .seq (.aE [aM 20 4,
 jL 21 20,
 aM 22 21,
 ⟨some 23, .cK (.t 3), some (22, true)⟩,
 ⟨some 24, .bW .eql 3 (.t 23) (.c (.int .i64 0)), some (22, true)⟩,
 ⟨some 25, .cK (.t 24), some (22, true)⟩,
 ⟨some 26, .cK (.t 0), some (25, false)⟩,
 ⟨some 27, .cK (.t 3), some (25, false)⟩,
 ⟨some 28, .idx 9 (.t 26) (.t 27), some (25, false)⟩,
 ⟨some 29, .call (.f 95) [(.t 28)], some (25, false)⟩,
 ⟨some 30, .un .not (.t 29), some (25, false)⟩,
 ⟨some 31, .pick (.t 25) (.c (.bool true)) (.t 30), some (22, true)⟩,
 ro 32 (.pick (.t 22) (.t 31) (.c (.bool false)))] (some [0, 6, 7, 32])) H0
def H3 : ao := .seq (.aE [aM 10 0,
 aM 11 3,
 lK 12 9 10 11,
 ro 13 (.bW .geq 5 (.t 12) (.c (.int .u8 97))),
 aM 14 13,
 ⟨some 15, .cK (.t 0), some (14, true)⟩,
 ⟨some 16, .cK (.t 3), some (14, true)⟩,
 ⟨some 17, .idx 9 (.t 15) (.t 16), some (14, true)⟩,
 ⟨some 18, .bW .leq 5 (.t 17) (.c (.int .u8 122)), some (14, true)⟩,
 ro 19 (.pick (.t 14) (.t 18) (.c (.bool false))),
 cq 4 19] (some [0, 3, 4, 6, 7])) H2
def H4 : ao := .aE [cV 33 .add 3 7 1,
 aM 7 33] (some [0, 6, 7])
def H5 : ao := .seq (.block 1 (.seq (.aE [aM 9 7,
 cq 3 9] (some [0, 3, 6, 7])) H3)) H4
def H6 : ao := .seq (.cond (.t 8) .skip (.exit 0)) H5
def zG : ao := .seq (.aE [eg 8 .lss 3 7 6] (some [0, 6, 7, 8])) H6
def H7 : ao := .block 0 (.loop zG)
def H8 : ao := .seq (.aE [aM 34 0,
 eM 35 9 34,
 cV 36 .geq 3 35 1,
 aM 37 36,
 ⟨some 38, .cK (.t 0), some (37, true)⟩,
 ⟨some 39, .len 9 (.t 38), some (37, true)⟩,
 ⟨some 40, .bW .leq 3 (.t 39) (.c (.int .i64 10)), some (37, true)⟩,
 ro 41 (.pick (.t 37) (.t 40) (.c (.bool false))),
 cq 2 41] (some [2])) .ret
def H9 : ao := .seq (.seq (.aE [aM 5 0,
 eM 6 9 5,
 qb 7 0] (some [0, 6, 7])) H7) H8
def H_ : ao := .seq (.aE [er 2 false] (some [0])) H9
theorem Ia : cz ⟨42, [0]⟩ (Try.f54.body.getD .skip) = some H_.strip := by kernel_rfl
def Ib : ao := .seq (.aE [aM 7 0,
 aM 8 1,
 eg 9 .geq 2 7 8,
 aM 10 9,
 ⟨some 11, .cK (.t 0), some (10, true)⟩,
 ⟨some 12, .cK (.t 2), some (10, true)⟩,
 ⟨some 13, .bW .leq 2 (.t 11) (.t 12), some (10, true)⟩,
 ro 14 (.pick (.t 10) (.t 13) (.c (.bool false))),
 cq 6 14] (some [6])) .ret
def Ic : ao := .seq (.aE [er 6 false] (some [0, 1, 2])) Ib
theorem Ie : cz ⟨15, [0, 1, 2]⟩ (Try.f97.body.getD .skip) = some Ic.strip := by kernel_rfl
def Ig : ao := .seq (.aE [dK 4 0] (some [4])) .ret
def Ih : ao := .cond (.t 9) Ig .skip
def Ii : ao := .aE [aM 29 5,
 cV 30 .and 2 29 65535,
 cV 31 .xor 2 30 4129,
 cq 5 31] (some [0, 5, 12, 13, 23])
def Ij : ao := .cond (.t 28) Ii .skip
def Ik : ao := .seq (.aE [aM 27 5,
 cV 28 .gtr 2 27 65535] (some [0, 5, 12, 13, 23, 28])) Ij
def zH : ao := .aE [cV 32 .add 3 23 1,
 aM 23 32] (some [0, 5, 12, 13, 23])
def Il : ao := .seq (.block 3 (.seq (.aE [aM 25 5,
 cV 26 .mul 2 25 2,
 cq 5 26] (some [0, 5, 12, 13, 23])) Ik)) zH
def Im : ao := .seq (.cond (.t 24) .skip (.exit 2)) Il
def zI : ao := .seq (.aE [cV 24 .lss 3 23 8] (some [0, 5, 12, 13, 23, 24])) Im
def Io : ao := .block 2 (.loop zI)
def Ip : ao := .seq (.aE [qb 23 0] (some [0, 5, 12, 13, 23])) Io
def Iq : ao := .seq (.aE [aM 16 5,
 aM 17 0,
 aM 18 6,
 lK 19 9 17 18,
 gH 20 5 2 19,
 cV 21 .mul 2 20 256,
 eg 22 .xor 2 16 21,
 cq 5 22] (some [0, 5, 12, 13])) Ip
def Ir : ao := .aE [cV 33 .add 3 13 1,
 aM 13 33] (some [0, 5, 12, 13])
def Is : ao := .seq (.block 1 (.seq (.aE [aM 15 13,
 cq 6 15] (some [0, 5, 6, 12, 13])) Iq)) Ir
def It : ao := .seq (.cond (.t 14) .skip (.exit 0)) Is
def zJ : ao := .seq (.aE [eg 14 .lss 3 13 12] (some [0, 5, 12, 13, 14])) It
def Iu : ao := .block 0 (.loop zJ)
def Iv : ao := .seq (.aE [aM 34 5,
 cq 4 34] (some [4])) .ret
def Iw : ao := .seq (.seq (.aE [aM 11 0,
 eM 12 9 11,
 qb 13 0] (some [0, 5, 12, 13])) Iu) Iv
def Ix : ao := .seq (.aE [aM 10 1,
 cq 5 10] (some [0, 5])) Iw
def Iy : ao := .seq (.seq (.aE [aM 7 1,
 ro 8 (.call (.f 97) [(.t 7), (.c (.int .i64 0)), (.c (.int .i64 65535))]),
 jL 9 8] (some [0, 1, 9])) Ih) Ix
def Iz : ao := .seq (.aE [dK 4 0] (some [0, 1])) Iy
theorem IA : cz ⟨35, [0, 1]⟩ (Try.f96.body.getD .skip) = some Iz.strip := by kernel_rfl
def IB : ao := .seq (.aE [dK 2 0,
 dK 3 11] (some [2, 3])) .ret
def IC : ao := .cond (.t 9) IB .skip
def ID : ao := .seq (.aE [dK 2 0,
 dK 3 10] (some [2, 3])) .ret
def IE : ao := .seq (.aE [dK 2 0,
 dK 3 9] (some [2, 3])) .ret
def IF : ao := .cond (.t 37) IE .skip
def IG : ao := .seq (.aE [aM 38 6,
 ro 39 (.call (.f 97) [(.t 38), (.c (.int .i64 1)), (.c (.int .i64 3))]),
 jL 40 39,
 aM 41 40,
 ⟨some 42, .cK (.t 0), some (41, false)⟩,
 ⟨some 43, .len 9 (.t 42), some (41, false)⟩,
 ⟨some 44, .bW .gtr 3 (.t 43) (.c (.int .i64 6000)), some (41, false)⟩,
 ro 45 (.pick (.t 41) (.c (.bool true)) (.t 44)),
 cq 37 45] (some [6, 37])) IF
def IH : ao := .cond (.t 20) ID IG
def II : ao := .seq (.aE [aM 46 6,
 cq 2 46,
 dK 3 0] (some [2, 3])) .ret
def IJ : ao := .seq (.block 0 (.seq (.gr [aM 21 0,
 aM 22 0,
 eM 23 9 22,
 cV 24 .sub 3 23 2,
 lK 25 9 21 24,
 gH 26 5 2 25,
 cV 27 .mul 2 26 256,
 aM 28 0,
 aM 29 0,
 eM 30 9 29,
 cV 31 .sub 3 30 1,
 lK 32 9 28 31,
 gH 33 5 2 32,
 eg 34 .add 2 27 33,
 aM 35 5,
 eg 36 .neq 2 34 35,
 cq 20 36] [[], [], [1], [2], [0, 3], [4], [5], [], [], [8], [9], [7, 10], [11], [6, 12], [], [13, 14], [15]] (some [0, 6, 20])) IH)) II
def IK : ao := .seq (.aE [aM 17 0,
 ro 18 (.idx 9 (.t 17) (.c (.int .i64 0))),
 gH 19 5 2 18,
 cq 6 19] (some [0, 5, 6])) IJ
def IL : ao := .seq (.aE [aM 15 4,
 ro 16 (.call (.f 96) [(.t 15), (.c (.int .i64 65535))]),
 cq 5 16] (some [0, 5])) IK
def IM : ao := .seq (.aE [aM 10 0,
 aM 11 0,
 eM 12 9 11,
 cV 13 .sub 3 12 2,
 ro 14 (.cU 9 (.t 10) none (some (.t 13))),
 cq 4 14] (some [0, 4])) IL
def IP : ao := .seq (.seq (.aE [aM 7 0,
 eM 8 9 7,
 cV 9 .lss 3 8 3] (some [0, 9])) IC) IM
def IQ : ao := .seq (.aE [dK 2 0,
 dK 3 0] (some [0])) IP
theorem IU : cz ⟨47, [0]⟩ (Try.f55.body.getD .skip) = some IQ.strip := by kernel_rfl
def IV : ao := .seq (.aE [aM 10 4,
 cV 11 .eql 2 10 0,
 cq 2 11] (some [2])) .ret
def IW : ao := .seq (.aE [aM 6 0,
 hk 7 55 6,
 aM 5 7,
 rI 8 5 0,
 rI 9 5 1,
 cq 3 8,
 cq 4 9] (some [4])) IV
def IX : ao := .seq (.aE [er 2 false] (some [0])) IW
theorem IY : cz ⟨12, [0]⟩ (Try.f85.body.getD .skip) = some IX.strip := by kernel_rfl
def IZ : ao := .seq (.aE [er 2 false] (some [2])) .ret
def I0 : ao := .cond (.t 36) IZ .skip
def I1 : ao := .seq (.gr [fZ 12 37 4 0,
 e8 13 9 12,
 hk 14 54 13,
 jL 15 14,
 aM 16 15,
 ⟨some 17, .dt 37 (.t 4) 1, some (16, false)⟩,
 ⟨some 18, .cH 9 (.t 17), some (16, false)⟩,
 ⟨some 19, .call (.f 85) [(.t 18)], some (16, false)⟩,
 ⟨some 20, .un .not (.t 19), some (16, false)⟩,
 ro 21 (.pick (.t 16) (.c (.bool true)) (.t 20)),
 aM 22 21,
 ⟨some 23, .cK (.t 3), some (22, false)⟩,
 ⟨some 24, .bW .gtr 3 (.t 23) (.c (.int .i64 0)), some (22, false)⟩,
 ⟨some 25, .cK (.t 24), some (22, false)⟩,
 ⟨some 26, .dt 37 (.t 4) 0, some (25, true)⟩,
 ⟨some 27, .cH 9 (.t 26), some (25, true)⟩,
 ⟨some 28, .cK (.t 0), some (25, true)⟩,
 ⟨some 29, .cK (.t 3), some (25, true)⟩,
 ⟨some 30, .bW .sub 3 (.t 29) (.c (.int .i64 1)), some (25, true)⟩,
 ⟨some 31, .dm 25 (.t 28) (.t 30), some (25, true)⟩,
 ⟨some 32, .dt 37 (.t 31) 0, some (25, true)⟩,
 ⟨some 33, .cH 9 (.t 32), some (25, true)⟩,
 ⟨some 34, .bW .leq 9 (.t 27) (.t 33), some (25, true)⟩,
 ⟨some 35, .pick (.t 25) (.t 34) (.c (.bool false)), some (22, false)⟩,
 ro 36 (.pick (.t 22) (.c (.bool true)) (.t 35))] [[], [0], [1], [2], [3, 2], [4], [5, 4], [6, 4, 4], [7, 4], [4, 8], [9, 7], [10], [11, 10], [12, 10, 10], [13], [14, 13], [13], [13], [17, 13], [16, 18, 13], [19, 13], [20, 13], [15, 21, 13], [13, 22, 10], [10, 23]] (some [0, 5, 6, 7, 36])) I0
def I2 : ao := .aE [cV 37 .add 3 7 1,
 aM 7 37] (some [0, 5, 6, 7])
def I3 : ao := .seq (.block 1 (.seq (.aE [aM 9 7,
 kg 10 25 5 7,
 e8 11 37 10,
 qc 4 37,
 cq 3 9,
 ox 37 4 11] (some [0, 3, 4, 5, 6, 7])) I1)) I2
def I4 : ao := .seq (.cond (.t 8) .skip (.exit 0)) I3
def zK : ao := .seq (.aE [eg 8 .lss 3 7 6] (some [0, 5, 6, 7, 8])) I4
def I5 : ao := .block 0 (.loop zK)
def I6 : ao := .seq (.aE [aM 38 0,
 eM 39 25 38,
 cV 40 .leq 3 39 16,
 cq 2 40] (some [2])) .ret
def I7 : ao := .seq (.seq (.aE [aM 5 0,
 eM 6 25 5,
 qb 7 0] (some [0, 5, 6, 7])) I5) I6
def I8 : ao := .seq (.aE [er 2 false] (some [0])) I7
theorem I9 : cz ⟨41, [0]⟩ (Try.f41.body.getD .skip) = some I8.strip := by kernel_rfl
def I_ : ao := .seq (.aE [ro 2 (.eo (.c (.str [])))] (some [2])) .ret
def Ja : ao := .cond (.t 9) I_ .skip
def Jb : ao := .aE [fZ 20 37 5 0,
 e8 21 9 20,
 eM 22 9 21,
 gH 23 3 5 22,
 zl 24 62 23,
 gH 25 62 9 24,
 ro 26 (.bW .add 9 (.c (.str [35])) (.t 25)),
 fZ 27 37 5 0,
 e8 28 9 27,
 eg 29 .add 9 26 28,
 aM 30 6,
 cV 31 .quo 3 30 256,
 gH 32 3 5 31,
 aM 33 6,
 cV 34 .rem 3 33 256,
 gH 35 3 5 34,
 ro 36 (.cR 62 2 [(0, (.t 32)), (1, (.t 35))]),
 gH 37 62 9 36,
 eg 38 .add 9 29 37,
 fZ 39 37 5 1,
 e8 40 9 39,
 eg 41 .add 9 38 40,
 qd 42 42 3 41] (some [3, 11, 12, 13])
def Jc : ao := .seq (.aE [fZ 17 37 5 1,
 e8 18 9 17,
 eM 19 9 18,
 cq 6 19] (some [3, 5, 6, 11, 12, 13])) Jb
def Jd : ao := .aE [cV 43 .add 3 13 1,
 aM 13 43] (some [3, 11, 12, 13])
def Je : ao := .seq (.block 1 (.seq (.aE [kg 15 25 11 13,
 e8 16 37 15,
 qc 5 37,
 ox 37 5 16] (some [3, 5, 11, 12, 13])) Jc)) Jd
def Jf : ao := .seq (.cond (.t 14) .skip (.exit 0)) Je
def zL : ao := .seq (.aE [eg 14 .lss 3 13 12] (some [3, 11, 12, 13, 14])) Jf
def Jg : ao := .block 0 (.loop zL)
def Jh : ao := .seq (.aE [hk 44 43 3,
 cq 2 44] (some [2])) .ret
def Ji : ao := .seq (.seq (.aE [aM 11 0,
 eM 12 25 11,
 qb 13 0] (some [3, 11, 12, 13])) Jg) Jh
def Jj : ao := .seq (.aE [ro 10 (.call (.f 42) [(.t 3), (.c (.str [80, 65]))])] (some [0, 3])) Ji
def Jk : ao := .seq (.aE [qc 3 64] (some [0, 3])) Jj
def Jl : ao := .seq (.seq (.aE [aM 7 0,
 hk 8 41 7,
 jL 9 8] (some [0, 9])) Ja) Jk
def Jm : ao := .seq (.aE [ro 2 (.eo (.c (.str [])))] (some [0])) Jl
theorem Jn : cz ⟨45, [0]⟩ (Try.f13.body.getD .skip) = some Jm.strip := by kernel_rfl
def Jo : ao := .seq (.aE [er 4 false] (some [4])) .ret
def Jp : ao := .cond (.t 9) Jo .skip
def Jq : ao := .seq (.aE [er 4 false] (some [4])) .ret
def Jr : ao := .cond (.t 14) Jq .skip
def Js : ao := .seq (.aE [er 4 true] (some [4])) .ret
def Jt : ao := .seq (.seq (.aE [fZ 10 37 2 1,
 e8 11 9 10,
 fZ 12 37 3 1,
 e8 13 9 12,
 eg 14 .neq 9 11 13] (some [14])) Jr) Js
def Ju : ao := .seq (.seq (.aE [fZ 5 37 2 0,
 e8 6 9 5,
 fZ 7 37 3 0,
 e8 8 9 7,
 eg 9 .neq 9 6 8] (some [2, 3, 9])) Jp) Jt
def Jv : ao := .seq (.aE [ro 2 (.da 37 (.t 0)),
 ro 3 (.da 37 (.t 1)),
 er 4 false] (some [2, 3])) Ju
theorem Jw : cz ⟨15, [0, 1]⟩ (Try.f44.body.getD .skip) = some Jv.strip := by kernel_rfl
def Jx : ao := .seq (.aE [er 4 false] (some [4])) .ret
def Jy : ao := .cond (.t 10) Jx .skip
def Jz : ao := .cond (.t 14) .skip (.exit 0)
def JA : ao := .seq (.aE [er 4 false] (some [4])) .ret
def JB : ao := .cond (.t 26) JA .skip
def JC : ao := .aE [aM 15 5,
 cV 16 .add 3 15 1,
 cq 5 16] (some [0, 1, 5])
def JD : ao := .seq (.block 1 (.seq (.gr [aM 17 0,
 aM 18 5,
 kg 19 25 17 18,
 e8 20 37 19,
 aM 21 1,
 aM 22 5,
 kg 23 25 21 22,
 e8 24 37 23,
 qd 25 44 20 24,
 jL 26 25] [[], [], [0, 1], [2], [], [], [4, 5], [6], [3, 7], [8]] (some [0, 1, 5, 26])) JB)) JC
def zM : ao := .seq (.seq (.aE [aM 11 5,
 aM 12 0,
 eM 13 25 12,
 eg 14 .lss 3 11 13] (some [0, 1, 5, 14])) Jz) JD
def JE : ao := .block 0 (.loop zM)
def JF : ao := .seq (.aE [er 4 true] (some [4])) .ret
def JG : ao := .seq (.seq (.aE [dK 5 0] (some [0, 1, 5])) JE) JF
def JH : ao := .seq (.seq (.aE [aM 6 0,
 eM 7 25 6,
 aM 8 1,
 eM 9 25 8,
 eg 10 .neq 3 7 9] (some [0, 1, 10])) Jy) JG
def JI : ao := .seq (.aE [er 4 false] (some [0, 1])) JH
theorem mY : cz ⟨27, [0, 1]⟩ (Try.f14.body.getD .skip) = some JI.strip := by kernel_rfl
def JJ : ao := .seq (.aE [er 2 true] (some [2])) .ret
def JK : ao := .cond (.t 11) JJ .skip
def JL : ao := .seq (.aE [er 2 false] (some [2])) .ret
def JM : ao := .cond (.t 21) JL .skip
def JN : ao := .seq (.aE [er 2 false] (some [2])) .ret
def JO : ao := .cond (.t 26) JN .skip
def JP : ao := .seq (.aE [er 2 true] (some [2])) .ret
def JQ : ao := .seq (.seq (.aE [aM 22 5,
 aM 23 0,
 hk 24 12 23,
 qd 25 14 22 24,
 jL 26 25] (some [26])) JO) JP
def JR : ao := .seq (.seq (.aE [aM 19 6,
 aM 20 4,
 eg 21 .neq 9 19 20] (some [0, 5, 21])) JM) JQ
def JS : ao := .seq (.aE [aM 17 5,
 hk 18 13 17,
 cq 6 18] (some [0, 4, 5, 6])) JR
def JT : ao := .seq (.aE [aM 15 0,
 hk 16 12 15,
 cq 5 16] (some [0, 4, 5])) JS
def JU : ao := .seq (.aE [aM 12 0,
 hk 13 12 12,
 hk 14 11 13,
 cq 4 14] (some [0, 4])) JT
def JV : ao := .seq (.seq (.aE [aM 10 3,
 cV 11 .lss 3 10 0] (some [0, 11])) JK) JU
def JW : ao := .seq (.aE [aM 7 0,
 aM 8 3,
 qd 9 10 7 8,
 cq 3 9] (some [0, 3])) JV
def JX : ao := .seq (.aE [dK 3 1048576] (some [0, 3])) JW
def tD : ao := .seq (.aE [er 2 false] (some [0])) JX
theorem dD : cz ⟨27, [0]⟩ (Try.f3.body.getD .skip) = some tD.strip := by kernel_rfl
def bN := PLift.up (And.intro @Bool.not_true @Bool.not_false)
end Go.Proofs.Ytjedocbdhlppdaa
