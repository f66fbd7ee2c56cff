/- Part of a proof that a law returns true for every input. No condition. -/
import Derived.Test.YtjedocbdhlppdaaTb
import Derived.Test.YtjedocbdhlppdaaFwL
import Derived.Test.YtjedocbdhlppdaaP4
namespace Go.Proofs.Ytjedocbdhlppdaa
open Go Go.b7 Go.fi
set_option linter.unusedSimpArgs false
def aL (x : a6) : j := .agg [.str x.Name, .str x.bx]
theorem ix (x : a6) : (aL x).share = aL x := by
 simp only [aL, gB]
theorem OJ (x : a6) : (aL x).c6 = true := by
 simp only [aL, j.c6, j.l9, Bool.and_self]
def q2 (x : List UInt8) : j := .str x
theorem OK (x : List UInt8) : (q2 x).share = q2 x := by
 simp only [q2, gB]
theorem OL (x : List UInt8) : (q2 x).c6 = true := by
 simp only [q2, j.c6, j.l9, Bool.and_self]
def G0 : ae := .seq (.aA [aB 3 0,
 ro 4 (.bO .geq 5 (.t 3) (.c (.int .u8 97))),
 aB 5 4,
 ⟨some 6, .cd (.t 0), some (5, true)⟩,
 ⟨some 7, .bO .leq 5 (.t 6) (.c (.int .u8 122)), some (5, true)⟩,
 ro 8 (.pick (.t 5) (.t 7) (.c (.bool false))),
 bJ 2 8] (some [2])) .ret
def G1 : ae := .seq (.aA [dp 2 false] (some [0])) G0
theorem G2 : cC ⟨9, [0]⟩ (Try.f91.body.getD .skip) = some G1.strip := by kernel_rfl
def G3 : ae := .seq (.aA [aB 3 0,
 ro 4 (.bO .geq 5 (.t 3) (.c (.int .u8 48))),
 aB 5 4,
 ⟨some 6, .cd (.t 0), some (5, true)⟩,
 ⟨some 7, .bO .leq 5 (.t 6) (.c (.int .u8 57)), some (5, true)⟩,
 ro 8 (.pick (.t 5) (.t 7) (.c (.bool false))),
 bJ 2 8] (some [2])) .ret
def G4 : ae := .seq (.aA [dp 2 false] (some [0])) G3
theorem G5 : cC ⟨9, [0]⟩ (Try.f92.body.getD .skip) = some G4.strip := by kernel_rfl
def G6 : ae := .seq (.aA [dp 2 false] (some [2])) .ret
def G7 : ae := .cond (.t 16) G6 .skip
def G8 : ae := .cond (.t 20) .skip (.exit 0)
def G9 : ae := .seq (.aA [dp 2 false] (some [2])) .ret
def G_ : ae := .cond (.t 34) G9 .skip
def Ha : ae := .aA [aB 21 3,
 cv 22 .add 3 21 1,
 bJ 3 22] (some [0, 3])
def Hb : ae := .seq (.block 1 (.seq (.aA [aB 23 0,
 aB 24 3,
 ko 25 9 23 24,
 fD 26 91 25,
 iq 27 26,
 aB 28 27,
 ⟨some 29, .cd (.t 0), some (28, true)⟩,
 ⟨some 30, .cd (.t 3), some (28, true)⟩,
 ⟨some 31, .idx 9 (.t 29) (.t 30), some (28, true)⟩,
 ⟨some 32, .call (.f 92) [(.t 31)], some (28, true)⟩,
 ⟨some 33, .un .not (.t 32), some (28, true)⟩,
 ro 34 (.pick (.t 28) (.t 33) (.c (.bool false)))] (some [0, 3, 34])) G_)) Ha
def Am : ae := .seq (.seq (.aA [aB 17 3,
 aB 18 0,
 eA 19 9 18,
 c_ 20 .lss 3 17 19] (some [0, 3, 20])) G8) Hb
def Hc : ae := .block 0 (.loop Am)
def Hd : ae := .seq (.aA [dp 2 true] (some [2])) .ret
def He : ae := .seq (.seq (.aA [cW 3 0] (some [0, 3])) Hc) Hd
def Hf : ae := .seq (.seq (.aA [aB 4 0,
 ro 5 (.bO .eql 9 (.t 4) (.c (.str []))),
 aB 6 5,
 ⟨some 7, .cd (.t 0), some (6, false)⟩,
 ⟨some 8, .len 9 (.t 7), some (6, false)⟩,
 ⟨some 9, .bO .gtr 3 (.t 8) (.c (.int .i64 10)), some (6, false)⟩,
 ro 10 (.pick (.t 6) (.c (.bool true)) (.t 9)),
 aB 11 10,
 ⟨some 12, .cd (.t 0), some (11, false)⟩,
 ⟨some 13, .idx 9 (.t 12) (.c (.int .i64 0)), some (11, false)⟩,
 ⟨some 14, .call (.f 91) [(.t 13)], some (11, false)⟩,
 ⟨some 15, .un .not (.t 14), some (11, false)⟩,
 ro 16 (.pick (.t 11) (.c (.bool true)) (.t 15))] (some [0, 16])) G7) He
def Hg : ae := .seq (.aA [dp 2 false] (some [0])) Hf
theorem Hh : cC ⟨35, [0]⟩ (Try.f52.body.getD .skip) = some Hg.strip := by kernel_rfl
def Hi : ae := .cond (.t 10) .skip (.exit 0)
def Hj : ae := .cond (.t 21) .skip (.exit 2)
def Hk : ae := .aA [aB 28 1,
 cv 29 .and 2 28 65535,
 cv 30 .xor 2 29 4129,
 bJ 1 30] (some [0, 1, 5, 6])
def Hl : ae := .cond (.t 27) Hk .skip
def Hm : ae := .seq (.aA [aB 26 1,
 cv 27 .gtr 2 26 65535] (some [0, 1, 5, 6, 27])) Hl
def An : ae := .aA [aB 22 6,
 cv 23 .add 3 22 1,
 bJ 6 23] (some [0, 1, 5, 6])
def Hn : ae := .seq (.block 3 (.seq (.aA [aB 24 1,
 ro 25 (.bO .shl 2 (.t 24) (.c (.int .u64 1))),
 bJ 1 25] (some [0, 1, 5, 6])) Hm)) An
def Ao : ae := .seq (.seq (.aA [aB 20 6,
 cv 21 .lss 3 20 8] (some [0, 1, 5, 6, 21])) Hj) Hn
def Ho : ae := .block 2 (.loop Ao)
def Hp : ae := .seq (.aA [cW 6 0] (some [0, 1, 5, 6])) Ho
def Hq : ae := .aA [aB 11 5,
 cv 12 .add 3 11 1,
 bJ 5 12] (some [0, 1, 5])
def Hr : ae := .seq (.block 1 (.seq (.aA [aB 13 1,
 aB 14 0,
 aB 15 5,
 ko 16 9 14 15,
 fM 17 5 2 16,
 ro 18 (.bO .shl 2 (.t 17) (.c (.int .u64 8))),
 c_ 19 .xor 2 13 18,
 bJ 1 19] (some [0, 1, 5])) Hp)) Hq
def Ap : ae := .seq (.seq (.aA [aB 7 5,
 aB 8 0,
 eA 9 9 8,
 c_ 10 .lss 3 7 9] (some [0, 1, 5, 10])) Hi) Hr
def Hs : ae := .block 0 (.loop Ap)
def Ht : ae := .seq (.aA [aB 31 1,
 bJ 4 31] (some [4])) .ret
def Hu : ae := .seq (.seq (.aA [cW 5 0] (some [0, 1, 5])) Hs) Ht
def Hv : ae := .seq (.aA [cW 4 0] (some [0, 1])) Hu
theorem Hw : cC ⟨32, [0]⟩ (Try.f93.body.getD .skip) = some Hv.strip := by kernel_rfl
def Hx : ae := .seq (.aA [aB 7 0,
 aB 8 1,
 c_ 9 .geq 2 7 8,
 aB 10 9,
 ⟨some 11, .cd (.t 0), some (10, true)⟩,
 ⟨some 12, .cd (.t 2), some (10, true)⟩,
 ⟨some 13, .bO .leq 2 (.t 11) (.t 12), some (10, true)⟩,
 ro 14 (.pick (.t 10) (.t 13) (.c (.bool false))),
 bJ 6 14] (some [6])) .ret
def Hy : ae := .seq (.aA [dp 6 false] (some [0, 1, 2])) Hx
theorem Hz : cC ⟨15, [0, 1, 2]⟩ (Try.f94.body.getD .skip) = some Hy.strip := by kernel_rfl
def HA : ae := .seq (.aA [cW 2 0,
 cW 3 11] (some [2, 3])) .ret
def HB : ae := .cond (.t 9) HA .skip
def HC : ae := .seq (.aA [cW 2 0,
 cW 3 10] (some [2, 3])) .ret
def HD : ae := .cond (.t 27) HC .skip
def HE : ae := .seq (.aA [cW 2 0,
 cW 3 9] (some [2, 3])) .ret
def HF : ae := .cond (.t 37) HE .skip
def HG : ae := .seq (.aA [aB 38 5,
 bJ 2 38,
 cW 3 0] (some [2, 3])) .ret
def HH : ae := .seq (.seq (.aA [aB 31 5,
 ro 32 (.call (.f 94) [(.t 31), (.c (.int .i64 1)), (.c (.int .i64 3))]),
 iq 33 32,
 aB 34 33,
 ⟨some 35, .cd (.t 4), some (34, false)⟩,
 ⟨some 36, .bO .gtr 3 (.t 35) (.c (.int .i64 6000)), some (34, false)⟩,
 ro 37 (.pick (.t 34) (.c (.bool true)) (.t 36))] (some [5, 37])) HF) HG
def HI : ae := .seq (.aA [aB 28 0,
 ro 29 (.idx 9 (.t 28) (.c (.int .i64 0))),
 fM 30 5 2 29,
 bJ 5 30] (some [4, 5])) HH
def HJ : ae := .seq (.seq (.fS [aB 10 0,
 aB 11 4,
 cv 12 .sub 3 11 2,
 ro 13 (.cU 9 (.t 10) none (some (.t 12))),
 ro 14 (.call (.f 93) [(.t 13), (.c (.int .i64 65535))]),
 aB 15 0,
 aB 16 4,
 cv 17 .sub 3 16 2,
 ko 18 9 15 17,
 fM 19 5 2 18,
 cv 20 .mul 2 19 256,
 aB 21 0,
 aB 22 4,
 cv 23 .sub 3 22 1,
 ko 24 9 21 23,
 fM 25 5 2 24,
 c_ 26 .add 2 20 25,
 c_ 27 .neq 2 14 26] [[], [], [1], [0, 2], [3], [], [], [6], [5, 7], [8], [9], [], [], [12], [11, 13], [14], [10, 15], [4, 16]] (some [0, 4, 27])) HD) HI
def HK : ae := .seq (.seq (.aA [aB 8 4,
 cv 9 .lss 3 8 3] (some [0, 4, 9])) HB) HJ
def HL : ae := .seq (.aA [aB 6 0,
 eA 7 9 6,
 bJ 4 7] (some [0, 4])) HK
def HM : ae := .seq (.aA [cW 2 0,
 cW 3 0] (some [0])) HL
theorem HN : cC ⟨39, [0]⟩ (Try.f53.body.getD .skip) = some HM.strip := by kernel_rfl
def HO : ae := .seq (.aA [ro 24 (.cI 37 []),
 aB 25 1,
 gJ 37 4 24,
 bJ 5 25,
 dp 6 false] (some [4, 5, 6])) .ret
def HP : ae := .cond (.t 23) HO .skip
def HQ : ae := .seq (.aA [ro 44 (.cI 37 []),
 aB 45 1,
 gJ 37 4 44,
 bJ 5 45,
 dp 6 false] (some [4, 5, 6])) .ret
def HR : ae := .cond (.t 43) HQ .skip
def HS : ae := .seq (.aA [ro 81 (.cI 37 []),
 aB 82 1,
 gJ 37 4 81,
 bJ 5 82,
 dp 6 false] (some [4, 5, 6])) .ret
def HT : ae := .cond (.t 80) HS .skip
def HU : ae := .seq (.aA [ea 96 37 9,
 aB 97 8,
 aB 98 10,
 c_ 99 .add 3 97 98,
 aB 100 12,
 cv 101 .eql 2 100 0,
 gJ 37 4 96,
 bJ 5 99,
 bJ 6 101] (some [4, 5, 6])) .ret
def HV : ae := .seq (.aA [ef 91 37 9 1,
 ea 92 9 91,
 fD 93 53 92,
 aB 90 93,
 gY 94 90 0,
 gY 95 90 1,
 bJ 11 94,
 bJ 12 95] (some [4, 8, 9, 10, 12])) HU
def HW : ae := .seq (.aA [aB 83 0,
 aB 84 8,
 aB 85 8,
 aB 86 10,
 c_ 87 .add 3 85 86,
 ro 88 (.cU 9 (.t 83) (some (.t 84)) (some (.t 87))),
 ef 89 37 9 1,
 gJ 9 89 88] (some [4, 8, 9, 10])) HV
def HX : ae := .seq (.seq (.aA [ef 69 37 9 0,
 ea 70 9 69,
 fD 71 52 70,
 iq 72 71,
 aB 73 72,
 ⟨some 74, .cd (.t 8), some (73, false)⟩,
 ⟨some 75, .cd (.t 10), some (73, false)⟩,
 ⟨some 76, .bO .add 3 (.t 74) (.t 75), some (73, false)⟩,
 ⟨some 77, .cd (.t 0), some (73, false)⟩,
 ⟨some 78, .len 9 (.t 77), some (73, false)⟩,
 ⟨some 79, .bO .gtr 3 (.t 76) (.t 78), some (73, false)⟩,
 ro 80 (.pick (.t 73) (.c (.bool true)) (.t 79))] (some [0, 1, 4, 8, 9, 10, 80])) HT) HW
def HY : ae := .seq (.aA [aB 67 8,
 cv 68 .add 3 67 2,
 bJ 8 68] (some [0, 1, 4, 8, 9, 10])) HX
def HZ : ae := .seq (.fS [aB 56 0,
 aB 57 8,
 ko 58 9 56 57,
 fM 59 5 3 58,
 cv 60 .mul 3 59 256,
 aB 61 0,
 aB 62 8,
 cv 63 .add 3 62 1,
 ko 64 9 61 63,
 fM 65 5 3 64,
 c_ 66 .add 3 60 65,
 bJ 10 66] [[], [], [0, 1], [2], [3], [], [], [6], [5, 7], [8], [4, 9], [10, 0, 1, 2, 3, 4, 5, 6, 7, 8, 9, 10]] (some [0, 1, 4, 8, 9, 10])) HY
def H0 : ae := .seq (.aA [aB 53 8,
 aB 54 7,
 c_ 55 .add 3 53 54,
 bJ 8 55] (some [0, 1, 4, 8, 9])) HZ
def H2 : ae := .seq (.aA [aB 46 0,
 aB 47 8,
 aB 48 8,
 aB 49 7,
 c_ 50 .add 3 48 49,
 ro 51 (.cU 9 (.t 46) (some (.t 47)) (some (.t 50))),
 ro 52 (.cI 37 [(0, (.t 51))]),
 lB 9 37,
 gJ 37 9 52] (some [0, 1, 4, 7, 8, 9])) H0
def H3 : ae := .seq (.seq (.aA [aB 33 7,
 cv 34 .gtr 3 33 10,
 aB 35 34,
 ⟨some 36, .cd (.t 8), some (35, false)⟩,
 ⟨some 37, .cd (.t 7), some (35, false)⟩,
 ⟨some 38, .bO .add 3 (.t 36) (.t 37), some (35, false)⟩,
 ⟨some 39, .bO .add 3 (.t 38) (.c (.int .i64 2)), some (35, false)⟩,
 ⟨some 40, .cd (.t 0), some (35, false)⟩,
 ⟨some 41, .len 9 (.t 40), some (35, false)⟩,
 ⟨some 42, .bO .gtr 3 (.t 39) (.t 41), some (35, false)⟩,
 ro 43 (.pick (.t 35) (.c (.bool true)) (.t 42))] (some [0, 1, 4, 7, 8, 43])) HR) H2
def H4 : ae := .seq (.aA [aB 31 1,
 cv 32 .add 3 31 2,
 bJ 8 32] (some [0, 1, 4, 7, 8])) H3
def H5 : ae := .seq (.aA [aB 26 0,
 aB 27 1,
 cv 28 .add 3 27 1,
 ko 29 9 26 28,
 fM 30 5 3 29,
 bJ 7 30] (some [0, 1, 4, 7])) H4
def H6 : ae := .seq (.seq (.aA [aB 13 1,
 cv 14 .add 3 13 2,
 aB 15 0,
 eA 16 9 15,
 c_ 17 .gtr 3 14 16,
 aB 18 17,
 ⟨some 19, .cd (.t 0), some (18, false)⟩,
 ⟨some 20, .cd (.t 1), some (18, false)⟩,
 ⟨some 21, .idx 9 (.t 19) (.t 20), some (18, false)⟩,
 ⟨some 22, .bO .neq 5 (.t 21) (.c (.int .u8 35)), some (18, false)⟩,
 ro 23 (.pick (.t 18) (.c (.bool true)) (.t 22))] (some [0, 1, 4, 23])) HP) H5
def H7 : ae := .seq (.aA [lB 4 37,
 cW 5 0,
 dp 6 false] (some [0, 1, 4])) H6
theorem H8 : cC ⟨102, [0, 1]⟩ (Try.f45.body.getD .skip) = some H7.strip := by kernel_rfl
def H9 : ae := .seq (.aA [dp 2 false] (some [2])) .ret
def H_ : ae := .cond (.t 8) H9 .skip
def Ia : ae := .cond (.t 12) .skip (.exit 0)
def Ib : ae := .seq (.aA [dp 2 false] (some [2])) .ret
def Ic : ae := .cond (.t 39) Ib .skip
def Ie : ae := .seq (.aA [dp 2 false] (some [2])) .ret
def Ig : ae := .cond (.t 50) Ie .skip
def Ih : ae := .seq (.aA [aB 49 5,
 cv 50 .neq 2 49 0] (some [0, 3, 50])) Ig
def Ii : ae := .seq (.aA [aB 41 0,
 aB 42 3,
 kn 43 25 41 42,
 ef 44 37 43 1,
 ea 45 9 44,
 fD 46 53 45,
 aB 40 46,
 gY 47 40 0,
 gY 48 40 1,
 bJ 4 47,
 bJ 5 48] (some [0, 3, 5])) Ih
def Ij : ae := .aA [aB 13 3,
 cv 14 .add 3 13 1,
 bJ 3 14] (some [0, 3])
def Ik : ae := .seq (.block 1 (.seq (.seq (.fS [aB 15 0,
 aB 16 3,
 kn 17 25 15 16,
 ef 18 37 17 0,
 ea 19 9 18,
 fD 20 52 19,
 iq 21 20,
 aB 22 21,
 ⟨some 23, .cd (.t 3), some (22, false)⟩,
 ⟨some 24, .bO .gtr 3 (.t 23) (.c (.int .i64 0)), some (22, false)⟩,
 ⟨some 25, .cd (.t 24), some (22, false)⟩,
 ⟨some 26, .cd (.t 0), some (25, true)⟩,
 ⟨some 27, .cd (.t 3), some (25, true)⟩,
 ⟨some 28, .bO .sub 3 (.t 27) (.c (.int .i64 1)), some (25, true)⟩,
 ⟨some 29, .dA 25 (.t 26) (.t 28), some (25, true)⟩,
 ⟨some 30, .dn 37 (.t 29) 0, some (25, true)⟩,
 ⟨some 31, .cL 9 (.t 30), some (25, true)⟩,
 ⟨some 32, .cd (.t 0), some (25, true)⟩,
 ⟨some 33, .cd (.t 3), some (25, true)⟩,
 ⟨some 34, .dA 25 (.t 32) (.t 33), some (25, true)⟩,
 ⟨some 35, .dn 37 (.t 34) 0, some (25, true)⟩,
 ⟨some 36, .cL 9 (.t 35), some (25, true)⟩,
 ⟨some 37, .bO .geq 9 (.t 31) (.t 36), some (25, true)⟩,
 ⟨some 38, .pick (.t 25) (.t 37) (.c (.bool false)), some (22, false)⟩,
 ro 39 (.pick (.t 22) (.c (.bool true)) (.t 38))] [[], [], [0, 1], [2], [3], [4], [5], [6, 5], [7], [8, 7], [9, 7, 7], [10], [10], [12, 10], [11, 13, 10], [14, 10], [15, 10], [10], [10], [17, 18, 10], [19, 10], [20, 10], [16, 21, 10], [10, 22, 7], [7, 23]] (some [0, 3, 39])) Ic) Ii)) Ij
def Aq : ae := .seq (.seq (.aA [aB 9 3,
 aB 10 0,
 eA 11 25 10,
 c_ 12 .lss 3 9 11] (some [0, 3, 12])) Ia) Ik
def Il : ae := .block 0 (.loop Aq)
def Im : ae := .seq (.aA [dp 2 true] (some [2])) .ret
def Io : ae := .seq (.seq (.aA [cW 3 0] (some [0, 3])) Il) Im
def Ip : ae := .seq (.seq (.aA [aB 6 0,
 eA 7 25 6,
 cv 8 .gtr 3 7 16] (some [0, 8])) H_) Io
def Iq : ae := .seq (.aA [dp 2 false] (some [0])) Ip
theorem Ir : cC ⟨51, [0]⟩ (Try.f39.body.getD .skip) = some Iq.strip := by kernel_rfl
def Is : ae := .seq (.fS [aB 9 0,
 im 10 9,
 ef 11 37 10 0,
 ea 12 9 11,
 eA 13 9 12,
 fM 14 3 5 13,
 qL 15 62 14,
 fM 16 62 9 15,
 ro 17 (.bO .add 9 (.c (.str [35])) (.t 16)),
 aB 18 0,
 im 19 18,
 ef 20 37 19 0,
 ea 21 9 20,
 c_ 22 .add 9 17 21,
 aB 23 3,
 cv 24 .quo 3 23 256,
 fM 25 3 5 24,
 aB 26 3,
 cv 27 .rem 3 26 256,
 fM 28 3 5 27,
 ro 29 (.cM 62 2 [(0, (.t 25)), (1, (.t 28))]),
 fM 30 62 9 29,
 c_ 31 .add 9 22 30,
 aB 32 0,
 im 33 32,
 ef 34 37 33 1,
 ea 35 9 34,
 c_ 36 .add 9 31 35,
 bJ 2 36] [[], [0], [1], [2], [3], [4], [5], [6], [7], [], [9], [10], [11], [8, 12], [], [14], [15], [], [17], [18], [16, 19], [20], [13, 21], [], [23], [24], [25], [22, 26], [27, 0, 1, 2, 3, 4, 5, 6, 7, 8, 9, 10, 11, 12, 13, 14, 15, 16, 17, 18, 19, 20, 21, 22, 23, 24, 25, 26, 27]] (some [2])) .ret
def It : ae := .seq (.aA [aB 4 0,
 im 5 4,
 ef 6 37 5 1,
 ea 7 9 6,
 eA 8 9 7,
 bJ 3 8] (some [0, 3])) Is
def Iu : ae := .seq (.aA [ro 2 (.ew (.c (.str [])))] (some [0])) It
theorem Iv : cC ⟨37, [0]⟩ (Try.f84.body.getD .skip) = some Iu.strip := by kernel_rfl
def Iw : ae := .cond (.t 8) .skip (.exit 0)
def Ix : ae := .aA [aB 9 4,
 cv 10 .add 3 9 1,
 bJ 4 10] (some [0, 3, 4])
def Iy : ae := .seq (.block 1 (.aA [aB 11 3,
 aB 12 0,
 aB 13 4,
 kn 14 25 12 13,
 fD 15 84 14,
 c_ 16 .add 9 11 15,
 bJ 3 16] (some [0, 3, 4]))) Ix
def Ar : ae := .seq (.seq (.aA [aB 5 4,
 aB 6 0,
 eA 7 25 6,
 c_ 8 .lss 3 5 7] (some [0, 3, 4, 8])) Iw) Iy
def Iz : ae := .block 0 (.loop Ar)
def IA : ae := .seq (.aA [aB 17 3,
 bJ 2 17] (some [2])) .ret
def IB : ae := .seq (.seq (.aA [cW 4 0] (some [0, 3, 4])) Iz) IA
def IC : ae := .seq (.aA [ro 3 (.ew (.c (.str [80, 65])))] (some [0, 3])) IB
def ID : ae := .seq (.aA [ro 2 (.ew (.c (.str [])))] (some [0])) IC
theorem IE : cC ⟨18, [0]⟩ (Try.f40.body.getD .skip) = some ID.strip := by kernel_rfl
def IF : ae := .seq (.aA [lA 2,
 cW 3 11] (some [2, 3])) .ret
def IG : ae := .cond (.t 11) IF .skip
def IH : ae := .cond (.t 16) .skip (.exit 0)
def II : ae := .seq (.aA [lA 2,
 cW 3 9] (some [2, 3])) .ret
def IJ : ae := .cond (.t 30) II .skip
def IK : ae := .aA [aB 35 7,
 bJ 5 35] (some [0, 4, 5])
def IL : ae := .seq (.aA [aB 31 4,
 ea 32 37 6,
 qL 33 25 32,
 z6 34 25 25 31 33,
 bJ 4 34] (some [0, 4, 7])) IK
def IM : ae := .seq (.seq (.aA [aB 24 8,
 iq 25 24,
 aB 26 25,
 ⟨some 27, .cd (.t 4), some (26, false)⟩,
 ⟨some 28, .len 25 (.t 27), some (26, false)⟩,
 ⟨some 29, .bO .eql 3 (.t 28) (.c (.int .i64 16)), some (26, false)⟩,
 ro 30 (.pick (.t 26) (.c (.bool true)) (.t 29))] (some [0, 4, 6, 7, 30])) IJ) IL
def IP : ae := .block 1 (.seq (.aA [aB 18 0,
 aB 19 5,
 mF 20 45 18 19,
 aB 17 20,
 gY 21 17 0,
 gY 22 17 1,
 gY 23 17 2,
 lB 6 37,
 gJ 37 6 21,
 bJ 7 22,
 bJ 8 23] (some [0, 4, 6, 7, 8])) IM)
def As : ae := .seq (.seq (.aA [aB 13 5,
 aB 14 0,
 eA 15 9 14,
 c_ 16 .lss 3 13 15] (some [0, 4, 5, 16])) IH) IP
def IQ : ae := .seq (.aA [lA 2,
 cW 3 9] (some [2, 3])) .ret
def IU : ae := .cond (.t 44) IQ .skip
def IV : ae := .seq (.aA [aB 45 4,
 bJ 2 45,
 cW 3 0] (some [2, 3])) .ret
def IW : ae := .seq (.seq (.aA [aB 36 4,
 fD 37 39 36,
 iq 38 37,
 aB 39 38,
 ⟨some 40, .cd (.t 4), some (39, false)⟩,
 ⟨some 41, .call (.f 40) [(.t 40)], some (39, false)⟩,
 ⟨some 42, .cd (.t 0), some (39, false)⟩,
 ⟨some 43, .bO .neq 9 (.t 41) (.t 42), some (39, false)⟩,
 ro 44 (.pick (.t 39) (.c (.bool true)) (.t 43))] (some [4, 44])) IU) IV
def IX : ae := .seq (.block 0 (.loop As)) IW
def IY : ae := .seq (.aA [cW 5 2] (some [0, 4, 5])) IX
def IZ : ae := .seq (.aA [ro 12 (.cM 25 0 []),
 bJ 4 12] (some [0, 4])) IY
def I0 : ae := .seq (.seq (.aA [aB 9 0,
 eA 10 9 9,
 cv 11 .lss 3 10 2] (some [0, 11])) IG) IZ
def I1 : ae := .seq (.aA [lA 2,
 cW 3 0] (some [0])) I0
theorem I2 : cC ⟨46, [0]⟩ (Try.f15.body.getD .skip) = some I1.strip := by kernel_rfl
def I3 : ae := .seq (.aA [cW 2 0] (some [0, 2])) .ret
def I4 : ae := .seq (.aA [aB 9 0,
 im 10 9,
 ef 11 116 10 1,
 ⟨none, .dR 4 (.t 11) (.c (.bool true)), none⟩] (some [0])) I3
def I5 : ae := .cond (.t 8) I4 .skip
def I6 : ae := .seq (.aA [aB 25 3,
 fM 26 5 2 25,
 bJ 2 26] (some [0, 2])) .ret
def I7 : ae := .seq (.aA [aB 17 0,
 aB 18 0,
 im 19 18,
 ef 20 116 19 0,
 ea 21 9 20,
 ro 22 (.cU 9 (.t 21) (some (.c (.int .i64 1))) none),
 im 23 17,
 ef 24 116 23 0,
 gJ 9 24 22] (some [0, 3])) I6
def I8 : ae := .seq (.aA [aB 12 0,
 im 13 12,
 ef 14 116 13 0,
 ea 15 9 14,
 ro 16 (.idx 9 (.t 15) (.c (.int .i64 0))),
 bJ 3 16] (some [0, 3])) I7
def I9 : ae := .seq (.seq (.aA [aB 4 0,
 im 5 4,
 ef 6 116 5 0,
 ea 7 9 6,
 ro 8 (.bO .eql 9 (.t 7) (.c (.str [])))] (some [0, 8])) I5) I8
def I_ : ae := .seq (.aA [cW 2 0] (some [0])) I9
theorem Ja : cC ⟨27, [0]⟩ (Try.f87.body.getD .skip) = some I_.strip := by kernel_rfl
def Jb : ae := .seq (.aA [aB 3 0,
 ro 4 (.bO .geq 5 (.t 3) (.c (.int .u8 48))),
 aB 5 4,
 ⟨some 6, .cd (.t 0), some (5, true)⟩,
 ⟨some 7, .bO .leq 5 (.t 6) (.c (.int .u8 57)), some (5, true)⟩,
 ro 8 (.pick (.t 5) (.t 7) (.c (.bool false))),
 bJ 2 8] (some [2])) .ret
def Jc : ae := .seq (.aA [dp 2 false] (some [0])) Jb
theorem Jd : cC ⟨9, [0]⟩ (Try.f95.body.getD .skip) = some Jc.strip := by kernel_rfl
def Je : ae := .seq (.aA [dp 2 false] (some [2])) .ret
def Jf : ae := .cond (.t 32) Je .skip
def Jg : ae := .seq (.aA [aB 20 4,
 iq 21 20,
 aB 22 21,
 ⟨some 23, .cd (.t 3), some (22, true)⟩,
 ⟨some 24, .bO .eql 3 (.t 23) (.c (.int .i64 0)), some (22, true)⟩,
 ⟨some 25, .cd (.t 24), some (22, true)⟩,
 ⟨some 26, .cd (.t 0), some (25, false)⟩,
 ⟨some 27, .cd (.t 3), some (25, false)⟩,
 ⟨some 28, .idx 9 (.t 26) (.t 27), some (25, false)⟩,
 ⟨some 29, .call (.f 95) [(.t 28)], some (25, false)⟩,
 ⟨some 30, .un .not (.t 29), some (25, false)⟩,
 ⟨some 31, .pick (.t 25) (.c (.bool true)) (.t 30), some (22, true)⟩,
 ro 32 (.pick (.t 22) (.t 31) (.c (.bool false)))] (some [0, 6, 7, 32])) Jf
def Jh : ae := .seq (.aA [aB 10 0,
 aB 11 3,
 ko 12 9 10 11,
 ro 13 (.bO .geq 5 (.t 12) (.c (.int .u8 97))),
 aB 14 13,
 ⟨some 15, .cd (.t 0), some (14, true)⟩,
 ⟨some 16, .cd (.t 3), some (14, true)⟩,
 ⟨some 17, .idx 9 (.t 15) (.t 16), some (14, true)⟩,
 ⟨some 18, .bO .leq 5 (.t 17) (.c (.int .u8 122)), some (14, true)⟩,
 ro 19 (.pick (.t 14) (.t 18) (.c (.bool false))),
 bJ 4 19] (some [0, 3, 4, 6, 7])) Jg
def Ji : ae := .aA [cv 33 .add 3 7 1,
 aB 7 33] (some [0, 6, 7])
def Jj : ae := .seq (.block 1 (.seq (.aA [aB 9 7,
 bJ 3 9] (some [0, 3, 6, 7])) Jh)) Ji
def Jk : ae := .seq (.cond (.t 8) .skip (.exit 0)) Jj
def At : ae := .seq (.aA [c_ 8 .lss 3 7 6] (some [0, 6, 7, 8])) Jk
def Jl : ae := .block 0 (.loop At)
def Jm : ae := .seq (.aA [aB 34 0,
 eA 35 9 34,
 cv 36 .geq 3 35 1,
 aB 37 36,
 ⟨some 38, .cd (.t 0), some (37, true)⟩,
 ⟨some 39, .len 9 (.t 38), some (37, true)⟩,
 ⟨some 40, .bO .leq 3 (.t 39) (.c (.int .i64 10)), some (37, true)⟩,
 ro 41 (.pick (.t 37) (.t 40) (.c (.bool false))),
 bJ 2 41] (some [2])) .ret
def Jn : ae := .seq (.seq (.aA [aB 5 0,
 eA 6 9 5,
 qK 7 0] (some [0, 6, 7])) Jl) Jm
def Jo : ae := .seq (.aA [dp 2 false] (some [0])) Jn
theorem Jp : cC ⟨42, [0]⟩ (Try.f54.body.getD .skip) = some Jo.strip := by kernel_rfl
def Jq : ae := .seq (.aA [aB 7 0,
 aB 8 1,
 c_ 9 .geq 2 7 8,
 aB 10 9,
 ⟨some 11, .cd (.t 0), some (10, true)⟩,
 ⟨some 12, .cd (.t 2), some (10, true)⟩,
 ⟨some 13, .bO .leq 2 (.t 11) (.t 12), some (10, true)⟩,
 ro 14 (.pick (.t 10) (.t 13) (.c (.bool false))),
 bJ 6 14] (some [6])) .ret
def Jr : ae := .seq (.aA [dp 6 false] (some [0, 1, 2])) Jq
theorem Js : cC ⟨15, [0, 1, 2]⟩ (Try.f97.body.getD .skip) = some Jr.strip := by kernel_rfl
def Jt : ae := .seq (.aA [cW 4 0] (some [4])) .ret
def Ju : ae := .cond (.t 9) Jt .skip
def Jv : ae := .aA [aB 29 5,
 cv 30 .and 2 29 65535,
 cv 31 .xor 2 30 4129,
 bJ 5 31] (some [0, 5, 12, 13, 23])
def Jw : ae := .cond (.t 28) Jv .skip
def Jx : ae := .seq (.aA [aB 27 5,
 cv 28 .gtr 2 27 65535] (some [0, 5, 12, 13, 23, 28])) Jw
def Au : ae := .aA [cv 32 .add 3 23 1,
 aB 23 32] (some [0, 5, 12, 13, 23])
def Jy : ae := .seq (.block 3 (.seq (.aA [aB 25 5,
 cv 26 .mul 2 25 2,
 bJ 5 26] (some [0, 5, 12, 13, 23])) Jx)) Au
def Jz : ae := .seq (.cond (.t 24) .skip (.exit 2)) Jy
def Av : ae := .seq (.aA [cv 24 .lss 3 23 8] (some [0, 5, 12, 13, 23, 24])) Jz
def JA : ae := .block 2 (.loop Av)
def JB : ae := .seq (.aA [qK 23 0] (some [0, 5, 12, 13, 23])) JA
def JC : ae := .seq (.aA [aB 16 5,
 aB 17 0,
 aB 18 6,
 ko 19 9 17 18,
 fM 20 5 2 19,
 cv 21 .mul 2 20 256,
 c_ 22 .xor 2 16 21,
 bJ 5 22] (some [0, 5, 12, 13])) JB
def JD : ae := .aA [cv 33 .add 3 13 1,
 aB 13 33] (some [0, 5, 12, 13])
def JE : ae := .seq (.block 1 (.seq (.aA [aB 15 13,
 bJ 6 15] (some [0, 5, 6, 12, 13])) JC)) JD
def JF : ae := .seq (.cond (.t 14) .skip (.exit 0)) JE
def Aw : ae := .seq (.aA [c_ 14 .lss 3 13 12] (some [0, 5, 12, 13, 14])) JF
def JG : ae := .block 0 (.loop Aw)
def JH : ae := .seq (.aA [aB 34 5,
 bJ 4 34] (some [4])) .ret
def JI : ae := .seq (.seq (.aA [aB 11 0,
 eA 12 9 11,
 qK 13 0] (some [0, 5, 12, 13])) JG) JH
def JJ : ae := .seq (.aA [aB 10 1,
 bJ 5 10] (some [0, 5])) JI
def JK : ae := .seq (.seq (.aA [aB 7 1,
 ro 8 (.call (.f 97) [(.t 7), (.c (.int .i64 0)), (.c (.int .i64 65535))]),
 iq 9 8] (some [0, 1, 9])) Ju) JJ
def JL : ae := .seq (.aA [cW 4 0] (some [0, 1])) JK
theorem JM : cC ⟨35, [0, 1]⟩ (Try.f96.body.getD .skip) = some JL.strip := by kernel_rfl
def JN : ae := .seq (.aA [cW 2 0,
 cW 3 11] (some [2, 3])) .ret
def JO : ae := .cond (.t 9) JN .skip
def JP : ae := .seq (.aA [cW 2 0,
 cW 3 10] (some [2, 3])) .ret
def JQ : ae := .seq (.aA [cW 2 0,
 cW 3 9] (some [2, 3])) .ret
def JR : ae := .cond (.t 37) JQ .skip
def JS : ae := .seq (.aA [aB 38 6,
 ro 39 (.call (.f 97) [(.t 38), (.c (.int .i64 1)), (.c (.int .i64 3))]),
 iq 40 39,
 aB 41 40,
 ⟨some 42, .cd (.t 0), some (41, false)⟩,
 ⟨some 43, .len 9 (.t 42), some (41, false)⟩,
 ⟨some 44, .bO .gtr 3 (.t 43) (.c (.int .i64 6000)), some (41, false)⟩,
 ro 45 (.pick (.t 41) (.c (.bool true)) (.t 44)),
 bJ 37 45] (some [6, 37])) JR
def JT : ae := .cond (.t 20) JP JS
def JU : ae := .seq (.aA [aB 46 6,
 bJ 2 46,
 cW 3 0] (some [2, 3])) .ret
def JV : ae := .seq (.block 0 (.seq (.fS [aB 21 0,
 aB 22 0,
 eA 23 9 22,
 cv 24 .sub 3 23 2,
 ko 25 9 21 24,
 fM 26 5 2 25,
 cv 27 .mul 2 26 256,
 aB 28 0,
 aB 29 0,
 eA 30 9 29,
 cv 31 .sub 3 30 1,
 ko 32 9 28 31,
 fM 33 5 2 32,
 c_ 34 .add 2 27 33,
 aB 35 5,
 c_ 36 .neq 2 34 35,
 bJ 20 36] [[], [], [1], [2], [0, 3], [4], [5], [], [], [8], [9], [7, 10], [11], [6, 12], [], [13, 14], [15]] (some [0, 6, 20])) JT)) JU
def JW : ae := .seq (.aA [aB 17 0,
 ro 18 (.idx 9 (.t 17) (.c (.int .i64 0))),
 fM 19 5 2 18,
 bJ 6 19] (some [0, 5, 6])) JV
def JX : ae := .seq (.aA [aB 15 4,
 ro 16 (.call (.f 96) [(.t 15), (.c (.int .i64 65535))]),
 bJ 5 16] (some [0, 5])) JW
def JY : ae := .seq (.aA [aB 10 0,
 aB 11 0,
 eA 12 9 11,
 cv 13 .sub 3 12 2,
 ro 14 (.cU 9 (.t 10) none (some (.t 13))),
 bJ 4 14] (some [0, 4])) JX
def JZ : ae := .seq (.seq (.aA [aB 7 0,
 eA 8 9 7,
 cv 9 .lss 3 8 3] (some [0, 9])) JO) JY
def J0 : ae := .seq (.aA [cW 2 0,
 cW 3 0] (some [0])) JZ
theorem J1 : cC ⟨47, [0]⟩ (Try.f55.body.getD .skip) = some J0.strip := by kernel_rfl
def J2 : ae := .seq (.aA [aB 10 4,
 cv 11 .eql 2 10 0,
 bJ 2 11] (some [2])) .ret
def J3 : ae := .seq (.aA [aB 6 0,
 fD 7 55 6,
 aB 5 7,
 gY 8 5 0,
 gY 9 5 1,
 bJ 3 8,
 bJ 4 9] (some [4])) J2
def J4 : ae := .seq (.aA [dp 2 false] (some [0])) J3
theorem J5 : cC ⟨12, [0]⟩ (Try.f85.body.getD .skip) = some J4.strip := by kernel_rfl
def J6 : ae := .seq (.aA [ro 27 (.cI 37 []),
 gJ 37 2 27,
 cW 3 0,
 dp 4 false] (some [2, 3, 4])) .ret
def J7 : ae := .cond (.t 26) J6 .skip
def J8 : ae := .seq (.aA [ro 63 (.cI 37 []),
 gJ 37 2 63,
 cW 3 0,
 dp 4 false] (some [2, 3, 4])) .ret
def J9 : ae := .cond (.t 62) J8 .skip
def J_ : ae := .seq (.fS [ea 71 37 8,
 aB 72 0,
 eA 73 9 72,
 aB 74 5,
 im 75 74,
 ef 76 116 75 0,
 ea 77 9 76,
 eA 78 9 77,
 c_ 79 .sub 3 73 78,
 aB 80 7,
 c_ 81 .add 3 79 80,
 ef 82 37 8 0,
 ea 83 9 82,
 fD 84 54 83,
 aB 85 84,
 ⟨some 86, .dn 37 (.t 8) 1, some (85, true)⟩,
 ⟨some 87, .cL 9 (.t 86), some (85, true)⟩,
 ⟨some 88, .call (.f 85) [(.t 87)], some (85, true)⟩,
 ro 89 (.pick (.t 85) (.t 88) (.c (.bool false))),
 gJ 37 2 71,
 bJ 3 81,
 bJ 4 89] [[], [], [1], [], [3], [4], [5], [6], [2, 7], [], [8, 9], [], [11], [12], [13, 13], [14], [15, 14], [16, 14, 14], [14, 17], [0, 17, 0], [10, 19, 0, 1, 2, 3, 4, 5, 6, 7, 8, 9, 10, 19], [18, 20, 0, 1, 2, 3, 4, 5, 6, 7, 8, 9, 10, 11, 12, 13, 14, 15, 16, 17, 18, 19, 20]] (some [2, 3, 4])) .ret
def Ka : ae := .seq (.aA [aB 64 5,
 im 65 64,
 ef 66 116 65 0,
 ea 67 9 66,
 aB 68 7,
 ro 69 (.cU 9 (.t 67) none (some (.t 68))),
 ef 70 37 8 1,
 gJ 9 70 69] (some [0, 2, 5, 7, 8])) J_
def Kb : ae := .seq (.seq (.aA [aB 50 5,
 im 51 50,
 ef 52 116 51 1,
 ea 53 4 52,
 aB 54 53,
 ⟨some 55, .cd (.t 7), some (54, false)⟩,
 ⟨some 56, .cd (.t 5), some (54, false)⟩,
 ⟨some 57, .dU (.t 56), some (54, false)⟩,
 ⟨some 58, .dn 116 (.t 57) 0, some (54, false)⟩,
 ⟨some 59, .cL 9 (.t 58), some (54, false)⟩,
 ⟨some 60, .len 9 (.t 59), some (54, false)⟩,
 ⟨some 61, .bO .gtr 2 (.t 55) (.t 60), some (54, false)⟩,
 ro 62 (.pick (.t 54) (.c (.bool true)) (.t 61))] (some [0, 2, 5, 7, 8, 62])) J9) Ka
def Kc : ae := .seq (.aA [aB 44 5,
 fD 45 87 44,
 cv 46 .mul 2 45 256,
 aB 47 5,
 fD 48 87 47,
 c_ 49 .add 2 46 48,
 bJ 7 49] (some [0, 2, 5, 7, 8])) Kb
def Kd : ae := .seq (.aA [aB 35 5,
 aB 36 5,
 im 37 36,
 ef 38 116 37 0,
 ea 39 9 38,
 aB 40 7,
 ro 41 (.cU 9 (.t 39) (some (.t 40)) none),
 im 42 35,
 ef 43 116 42 0,
 gJ 9 43 41] (some [0, 2, 5, 8])) Kc
def Ke : ae := .seq (.aA [aB 28 5,
 im 29 28,
 ef 30 116 29 0,
 ea 31 9 30,
 aB 32 7,
 ro 33 (.cU 9 (.t 31) none (some (.t 32))),
 ro 34 (.cI 37 [(0, (.t 33))]),
 lB 8 37,
 gJ 37 8 34] (some [0, 2, 5, 7, 8])) Kd
def Kf : ae := .seq (.seq (.aA [aB 16 6,
 cv 17 .neq 2 16 35,
 aB 18 17,
 ⟨some 19, .cd (.t 7), some (18, false)⟩,
 ⟨some 20, .cd (.t 5), some (18, false)⟩,
 ⟨some 21, .dU (.t 20), some (18, false)⟩,
 ⟨some 22, .dn 116 (.t 21) 0, some (18, false)⟩,
 ⟨some 23, .cL 9 (.t 22), some (18, false)⟩,
 ⟨some 24, .len 9 (.t 23), some (18, false)⟩,
 ⟨some 25, .bO .gtr 2 (.t 19) (.t 24), some (18, false)⟩,
 ro 26 (.pick (.t 18) (.c (.bool true)) (.t 25))] (some [0, 2, 5, 7, 26])) J7) Ke
def Kg : ae := .seq (.aA [aB 14 5,
 fD 15 87 14,
 bJ 7 15] (some [0, 2, 5, 6, 7])) Kf
def Kh : ae := .seq (.aA [aB 12 5,
 fD 13 87 12,
 bJ 6 13] (some [0, 2, 5, 6])) Kg
def Ki : ae := .seq (.aA [aB 9 0,
 ro 10 (.cI 116 [(0, (.t 9))]),
 ro 11 (.du 116 (.t 10)),
 bJ 5 11] (some [0, 2, 5])) Kh
def Kj : ae := .seq (.aA [lB 2 37,
 cW 3 0,
 dp 4 false] (some [0, 2])) Ki
theorem Kk : cC ⟨90, [0]⟩ (Try.f46.body.getD .skip) = some Kj.strip := by kernel_rfl
def Kl : ae := .seq (.aA [dp 2 false] (some [2])) .ret
def Km : ae := .cond (.t 36) Kl .skip
def Kn : ae := .seq (.fS [ef 12 37 4 0,
 ea 13 9 12,
 fD 14 54 13,
 iq 15 14,
 aB 16 15,
 ⟨some 17, .dn 37 (.t 4) 1, some (16, false)⟩,
 ⟨some 18, .cL 9 (.t 17), some (16, false)⟩,
 ⟨some 19, .call (.f 85) [(.t 18)], some (16, false)⟩,
 ⟨some 20, .un .not (.t 19), some (16, false)⟩,
 ro 21 (.pick (.t 16) (.c (.bool true)) (.t 20)),
 aB 22 21,
 ⟨some 23, .cd (.t 3), some (22, false)⟩,
 ⟨some 24, .bO .gtr 3 (.t 23) (.c (.int .i64 0)), some (22, false)⟩,
 ⟨some 25, .cd (.t 24), some (22, false)⟩,
 ⟨some 26, .dn 37 (.t 4) 0, some (25, true)⟩,
 ⟨some 27, .cL 9 (.t 26), some (25, true)⟩,
 ⟨some 28, .cd (.t 0), some (25, true)⟩,
 ⟨some 29, .cd (.t 3), some (25, true)⟩,
 ⟨some 30, .bO .sub 3 (.t 29) (.c (.int .i64 1)), some (25, true)⟩,
 ⟨some 31, .dA 25 (.t 28) (.t 30), some (25, true)⟩,
 ⟨some 32, .dn 37 (.t 31) 0, some (25, true)⟩,
 ⟨some 33, .cL 9 (.t 32), some (25, true)⟩,
 ⟨some 34, .bO .leq 9 (.t 27) (.t 33), some (25, true)⟩,
 ⟨some 35, .pick (.t 25) (.t 34) (.c (.bool false)), some (22, false)⟩,
 ro 36 (.pick (.t 22) (.c (.bool true)) (.t 35))] [[], [0], [1], [2], [3, 2], [4], [5, 4], [6, 4, 4], [7, 4], [4, 8], [9, 7], [10], [11, 10], [12, 10, 10], [13], [14, 13], [13], [13], [17, 13], [16, 18, 13], [19, 13], [20, 13], [15, 21, 13], [13, 22, 10], [10, 23]] (some [0, 5, 6, 7, 36])) Km
def Ko : ae := .aA [cv 37 .add 3 7 1,
 aB 7 37] (some [0, 5, 6, 7])
def Kp : ae := .seq (.block 1 (.seq (.aA [aB 9 7,
 kn 10 25 5 7,
 ea 11 37 10,
 lB 4 37,
 bJ 3 9,
 gJ 37 4 11] (some [0, 3, 4, 5, 6, 7])) Kn)) Ko
def Kq : ae := .seq (.cond (.t 8) .skip (.exit 0)) Kp
def Ax : ae := .seq (.aA [c_ 8 .lss 3 7 6] (some [0, 5, 6, 7, 8])) Kq
def Kr : ae := .block 0 (.loop Ax)
def Ks : ae := .seq (.aA [aB 38 0,
 eA 39 25 38,
 cv 40 .leq 3 39 16,
 bJ 2 40] (some [2])) .ret
def Kt : ae := .seq (.seq (.aA [aB 5 0,
 eA 6 25 5,
 qK 7 0] (some [0, 5, 6, 7])) Kr) Ks
def Ku : ae := .seq (.aA [dp 2 false] (some [0])) Kt
theorem Kv : cC ⟨41, [0]⟩ (Try.f41.body.getD .skip) = some Ku.strip := by kernel_rfl
def Kw : ae := .seq (.aA [ro 2 (.ew (.c (.str [])))] (some [2])) .ret
def Kx : ae := .cond (.t 9) Kw .skip
def Ky : ae := .aA [ef 20 37 5 0,
 ea 21 9 20,
 eA 22 9 21,
 fM 23 3 5 22,
 qL 24 62 23,
 fM 25 62 9 24,
 ro 26 (.bO .add 9 (.c (.str [35])) (.t 25)),
 ef 27 37 5 0,
 ea 28 9 27,
 c_ 29 .add 9 26 28,
 aB 30 6,
 cv 31 .quo 3 30 256,
 fM 32 3 5 31,
 aB 33 6,
 cv 34 .rem 3 33 256,
 fM 35 3 5 34,
 ro 36 (.cM 62 2 [(0, (.t 32)), (1, (.t 35))]),
 fM 37 62 9 36,
 c_ 38 .add 9 29 37,
 ef 39 37 5 1,
 ea 40 9 39,
 c_ 41 .add 9 38 40,
 mF 42 42 3 41] (some [3, 11, 12, 13])
def Kz : ae := .seq (.aA [ef 17 37 5 1,
 ea 18 9 17,
 eA 19 9 18,
 bJ 6 19] (some [3, 5, 6, 11, 12, 13])) Ky
def KA : ae := .aA [cv 43 .add 3 13 1,
 aB 13 43] (some [3, 11, 12, 13])
def KB : ae := .seq (.block 1 (.seq (.aA [kn 15 25 11 13,
 ea 16 37 15,
 lB 5 37,
 gJ 37 5 16] (some [3, 5, 11, 12, 13])) Kz)) KA
def KC : ae := .seq (.cond (.t 14) .skip (.exit 0)) KB
def Ay : ae := .seq (.aA [c_ 14 .lss 3 13 12] (some [3, 11, 12, 13, 14])) KC
def KD : ae := .block 0 (.loop Ay)
def KE : ae := .seq (.aA [fD 44 43 3,
 bJ 2 44] (some [2])) .ret
def KF : ae := .seq (.seq (.aA [aB 11 0,
 eA 12 25 11,
 qK 13 0] (some [3, 11, 12, 13])) KD) KE
def KG : ae := .seq (.aA [ro 10 (.call (.f 42) [(.t 3), (.c (.str [80, 65]))])] (some [0, 3])) KF
def KH : ae := .seq (.aA [lB 3 64] (some [0, 3])) KG
def KI : ae := .seq (.seq (.aA [aB 7 0,
 fD 8 41 7,
 iq 9 8] (some [0, 9])) Kx) KH
def KJ : ae := .seq (.aA [ro 2 (.ew (.c (.str [])))] (some [0])) KI
theorem kp : cC ⟨45, [0]⟩ (Try.f13.body.getD .skip) = some KJ.strip := by kernel_rfl
def KK : ae := .seq (.aA [lA 2,
 cW 3 11] (some [2, 3])) .ret
def KL : ae := .cond (.t 11) KK .skip
def KM : ae := .cond (.t 15) .skip (.exit 0)
def KN : ae := .seq (.aA [lA 2,
 cW 3 9] (some [2, 3])) .ret
def KO : ae := .cond (.t 30) KN .skip
def KP : ae := .aA [aB 35 5,
 aB 36 7,
 c_ 37 .add 3 35 36,
 bJ 5 37] (some [0, 4, 5])
def KQ : ae := .seq (.aA [aB 31 4,
 ea 32 37 6,
 qL 33 25 32,
 z6 34 25 25 31 33,
 bJ 4 34] (some [0, 4, 5, 7])) KP
def KR : ae := .seq (.seq (.aA [aB 24 8,
 iq 25 24,
 aB 26 25,
 ⟨some 27, .cd (.t 4), some (26, false)⟩,
 ⟨some 28, .len 25 (.t 27), some (26, false)⟩,
 ⟨some 29, .bO .eql 3 (.t 28) (.c (.int .i64 16)), some (26, false)⟩,
 ro 30 (.pick (.t 26) (.c (.bool true)) (.t 29))] (some [0, 4, 5, 6, 7, 30])) KO) KQ
def KS : ae := .block 1 (.seq (.aA [aB 17 0,
 aB 18 5,
 ro 19 (.cU 9 (.t 17) (some (.t 18)) none),
 fD 20 46 19,
 aB 16 20,
 gY 21 16 0,
 gY 22 16 1,
 gY 23 16 2,
 lB 6 37,
 gJ 37 6 21,
 bJ 7 22,
 bJ 8 23] (some [0, 4, 5, 6, 7, 8])) KR)
def Az : ae := .seq (.seq (.aA [aB 12 5,
 aB 13 0,
 eA 14 9 13,
 c_ 15 .lss 3 12 14] (some [0, 4, 5, 15])) KM) KS
def KT : ae := .block 0 (.loop Az)
def KU : ae := .seq (.aA [lA 2,
 cW 3 9] (some [2, 3])) .ret
def KV : ae := .cond (.t 41) KU .skip
def KW : ae := .seq (.aA [aB 42 4,
 bJ 2 42,
 cW 3 0] (some [2, 3])) .ret
def KX : ae := .seq (.seq (.aA [aB 38 4,
 fD 39 13 38,
 aB 40 0,
 c_ 41 .neq 9 39 40] (some [4, 41])) KV) KW
def KY : ae := .seq (.seq (.aA [cW 5 2] (some [0, 4, 5])) KT) KX
def KZ : ae := .seq (.aA [lA 4] (some [0, 4])) KY
def K0 : ae := .seq (.seq (.aA [aB 9 0,
 eA 10 9 9,
 cv 11 .lss 3 10 2] (some [0, 11])) KL) KZ
def K1 : ae := .seq (.aA [lA 2,
 cW 3 0] (some [0])) K0
theorem K2 : cC ⟨43, [0]⟩ (Try.f16.body.getD .skip) = some K1.strip := by kernel_rfl
def K3 : ae := .seq (.aA [dp 4 false] (some [4])) .ret
def K4 : ae := .cond (.t 9) K3 .skip
def K5 : ae := .seq (.aA [dp 4 false] (some [4])) .ret
def K6 : ae := .cond (.t 14) K5 .skip
def K7 : ae := .seq (.aA [dp 4 true] (some [4])) .ret
def K8 : ae := .seq (.seq (.aA [ef 10 37 2 1,
 ea 11 9 10,
 ef 12 37 3 1,
 ea 13 9 12,
 c_ 14 .neq 9 11 13] (some [14])) K6) K7
def K9 : ae := .seq (.seq (.aA [ef 5 37 2 0,
 ea 6 9 5,
 ef 7 37 3 0,
 ea 8 9 7,
 c_ 9 .neq 9 6 8] (some [2, 3, 9])) K4) K8
def K_ : ae := .seq (.aA [ro 2 (.du 37 (.t 0)),
 ro 3 (.du 37 (.t 1)),
 dp 4 false] (some [2, 3])) K9
theorem La : cC ⟨15, [0, 1]⟩ (Try.f44.body.getD .skip) = some K_.strip := by kernel_rfl
def Lb : ae := .seq (.aA [dp 4 false] (some [4])) .ret
def Lc : ae := .cond (.t 10) Lb .skip
def Ld : ae := .cond (.t 14) .skip (.exit 0)
def Le : ae := .seq (.aA [dp 4 false] (some [4])) .ret
def Lf : ae := .cond (.t 26) Le .skip
def Lg : ae := .aA [aB 15 5,
 cv 16 .add 3 15 1,
 bJ 5 16] (some [0, 1, 5])
def Lh : ae := .seq (.block 1 (.seq (.fS [aB 17 0,
 aB 18 5,
 kn 19 25 17 18,
 ea 20 37 19,
 aB 21 1,
 aB 22 5,
 kn 23 25 21 22,
 ea 24 37 23,
 mF 25 44 20 24,
 iq 26 25] [[], [], [0, 1], [2], [], [], [4, 5], [6], [3, 7], [8]] (some [0, 1, 5, 26])) Lf)) Lg
def AA : ae := .seq (.seq (.aA [aB 11 5,
 aB 12 0,
 eA 13 25 12,
 c_ 14 .lss 3 11 13] (some [0, 1, 5, 14])) Ld) Lh
def Li : ae := .block 0 (.loop AA)
def Lj : ae := .seq (.aA [dp 4 true] (some [4])) .ret
def Lk : ae := .seq (.seq (.aA [cW 5 0] (some [0, 1, 5])) Li) Lj
def Ll : ae := .seq (.seq (.aA [aB 6 0,
 eA 7 25 6,
 aB 8 1,
 eA 9 25 8,
 c_ 10 .neq 3 7 9] (some [0, 1, 10])) Lc) Lk
def Lm : ae := .seq (.aA [dp 4 false] (some [0, 1])) Ll
theorem ji : cC ⟨27, [0, 1]⟩ (Try.f14.body.getD .skip) = some Lm.strip := by kernel_rfl
def Ln : ae := .seq (.aA [ro 2 (.ew (.c (.str [109, 48])))] (some [2])) .ret
def Lo : ae := .cond (.t 5) Ln .skip
def Lp : ae := .cond (.t 7) .skip (.exit 0)
def Lq : ae := .aA [aB 16 0,
 cv 17 .quo 3 16 10,
 bJ 0 17] (some [0, 3])
def Lr : ae := .block 1 (.seq (.aA [aB 8 0,
 cv 9 .rem 3 8 10,
 ro 10 (.bO .add 3 (.c (.int .i64 48)) (.t 9)),
 fM 11 3 5 10,
 qL 12 62 11,
 fM 13 62 9 12,
 aB 14 3,
 c_ 15 .add 9 13 14,
 bJ 3 15] (some [0, 3])) Lq)
def AB : ae := .seq (.seq (.aA [aB 6 0,
 cv 7 .gtr 3 6 0] (some [0, 3, 7])) Lp) Lr
def Ls : ae := .seq (.aA [aB 18 3,
 ro 19 (.bO .add 9 (.c (.str [109])) (.t 18)),
 bJ 2 19] (some [2])) .ret
def Lt : ae := .seq (.block 0 (.loop AB)) Ls
def Lu : ae := .seq (.aA [ro 3 (.ew (.c (.str [])))] (some [0, 3])) Lt
def Lv : ae := .seq (.seq (.aA [aB 4 0,
 cv 5 .leq 3 4 0] (some [0, 5])) Lo) Lu
def Lw : ae := .seq (.aA [ro 2 (.ew (.c (.str [])))] (some [0])) Lv
theorem Lx : cC ⟨20, []⟩ (Try.f47.body.getD .skip) = some Lw.strip := by kernel_rfl
def Ly : ae := .cond (.t 9) .skip (.exit 0)
def Lz : ae := .aA [aB 26 1,
 cv 27 .add 3 26 1,
 bJ 1 27] (some [0, 1, 5])
def LA : ae := .seq (.aA [aB 20 0,
 aB 21 5,
 aB 22 1,
 fD 23 47 22,
 kn 24 25 20 21,
 ef 25 37 24 1,
 gJ 9 25 23] (some [0, 1, 5])) Lz
def LB : ae := .seq (.aA [aB 18 1,
 cv 19 .add 3 18 1,
 bJ 1 19] (some [0, 1, 5])) LA
def LC : ae := .aA [aB 10 5,
 cv 11 .add 3 10 1,
 bJ 5 11] (some [0, 1, 5])
def LD : ae := .seq (.block 1 (.seq (.aA [aB 12 0,
 aB 13 5,
 aB 14 1,
 fD 15 47 14,
 kn 16 25 12 13,
 ef 17 37 16 0,
 gJ 9 17 15] (some [0, 1, 5])) LB)) LC
def AD : ae := .seq (.seq (.aA [aB 6 5,
 aB 7 0,
 eA 8 25 7,
 c_ 9 .lss 3 6 8] (some [0, 1, 5, 9])) Ly) LD
def LF : ae := .block 0 (.loop AD)
def LG : ae := .seq (.aA [aB 28 1,
 bJ 4 28] (some [0, 4])) .ret
def LH : ae := .seq (.seq (.aA [cW 5 0] (some [0, 1, 5])) LF) LG
def LI : ae := .seq (.aA [cW 4 0] (some [0, 1])) LH
theorem LJ : cC ⟨29, [0]⟩ (Try.f17.body.getD .skip) = some LI.strip := by kernel_rfl
def LK : ae := .cond (.t 9) .skip (.exit 0)
def LL : ae := .seq (.aA [cW 4 (-1)] (some [4])) .ret
def LM : ae := .cond (.t 19) LL .skip
def LN : ae := .seq (.aA [cW 4 (-1)] (some [4])) .ret
def LO : ae := .cond (.t 29) LN .skip
def LP : ae := .aA [aB 30 1,
 cv 31 .add 3 30 1,
 bJ 1 31] (some [0, 1, 5])
def LQ : ae := .seq (.seq (.fS [aB 22 0,
 aB 23 5,
 kn 24 25 22 23,
 ef 25 37 24 1,
 ea 26 9 25,
 aB 27 1,
 fD 28 47 27,
 c_ 29 .neq 9 26 28] [[], [], [0, 1], [2], [3], [], [5], [4, 6]] (some [0, 1, 5, 29])) LO) LP
def LR : ae := .seq (.aA [aB 20 1,
 cv 21 .add 3 20 1,
 bJ 1 21] (some [0, 1, 5])) LQ
def LS : ae := .aA [aB 10 5,
 cv 11 .add 3 10 1,
 bJ 5 11] (some [0, 1, 5])
def LU : ae := .seq (.block 1 (.seq (.seq (.fS [aB 12 0,
 aB 13 5,
 kn 14 25 12 13,
 ef 15 37 14 0,
 ea 16 9 15,
 aB 17 1,
 fD 18 47 17,
 c_ 19 .neq 9 16 18] [[], [], [0, 1], [2], [3], [], [5], [4, 6]] (some [0, 1, 5, 19])) LM) LR)) LS
def AE : ae := .seq (.seq (.aA [aB 6 5,
 aB 7 0,
 eA 8 25 7,
 c_ 9 .lss 3 6 8] (some [0, 1, 5, 9])) LK) LU
def LV : ae := .block 0 (.loop AE)
def LW : ae := .seq (.aA [aB 32 1,
 bJ 4 32] (some [4])) .ret
def LX : ae := .seq (.seq (.aA [cW 5 0] (some [0, 1, 5])) LV) LW
def LY : ae := .seq (.aA [cW 4 0] (some [0, 1])) LX
theorem LZ : cC ⟨33, [0]⟩ (Try.f18.body.getD .skip) = some LY.strip := by kernel_rfl
def L0 : ae := .seq (.aA [dp 2 true] (some [2])) .ret
def L1 : ae := .cond (.t 13) L0 .skip
def L2 : ae := .seq (.aA [dp 2 false] (some [2])) .ret
def L3 : ae := .cond (.t 32) L2 .skip
def L4 : ae := .seq (.aA [dp 2 false] (some [2])) .ret
def L5 : ae := .cond (.t 40) L4 .skip
def L6 : ae := .seq (.aA [dp 2 false] (some [2])) .ret
def L7 : ae := .cond (.t 43) L6 .skip
def L8 : ae := .seq (.aA [dp 2 false] (some [2])) .ret
def L9 : ae := .cond (.t 57) L8 .skip
def L_ : ae := .seq (.aA [dp 2 false] (some [2])) .ret
def Ma : ae := .cond (.t 62) L_ .skip
def Mb : ae := .seq (.aA [dp 2 false] (some [2])) .ret
def Mc : ae := .cond (.t 65) Mb .skip
def Md : ae := .seq (.aA [dp 2 true] (some [2])) .ret
def Me : ae := .seq (.seq (.aA [aB 63 8,
 aB 64 7,
 c_ 65 .neq 3 63 64] (some [65])) Mc) Md
def Mf : ae := .seq (.seq (.aA [aB 61 8,
 cv 62 .lss 3 61 0] (some [7, 8, 62])) Ma) Me
def Mg : ae := .seq (.aA [aB 58 5,
 aB 59 8,
 mF 60 18 58 59,
 bJ 8 60] (some [7, 8])) Mf
def Mh : ae := .seq (.aA [cW 8 1] (some [5, 7, 8])) Mg
def Mi : ae := .seq (.seq (.aA [aB 49 9,
 aB 50 3,
 mF 51 14 49 50,
 iq 52 51,
 aB 53 52,
 ⟨some 54, .cd (.t 10), some (53, false)⟩,
 ⟨some 55, .cd (.t 4), some (53, false)⟩,
 ⟨some 56, .bO .neq 2 (.t 54) (.t 55), some (53, false)⟩,
 ro 57 (.pick (.t 53) (.c (.bool true)) (.t 56))] (some [5, 7, 57])) L9) Mh
def Mj : ae := .seq (.aA [aB 45 0,
 fD 46 16 45,
 aB 44 46,
 gY 47 44 0,
 gY 48 44 1,
 bJ 9 47,
 bJ 10 48] (some [3, 4, 5, 7, 9, 10])) Mi
def Mk : ae := .seq (.seq (.aA [aB 41 8,
 aB 42 7,
 c_ 43 .neq 3 41 42] (some [0, 3, 4, 5, 7, 43])) L7) Mj
def Ml : ae := .seq (.seq (.aA [aB 39 8,
 cv 40 .lss 3 39 0] (some [0, 3, 4, 5, 7, 8, 40])) L5) Mk
def Mm : ae := .seq (.aA [aB 36 5,
 aB 37 8,
 mF 38 18 36 37,
 bJ 8 38] (some [0, 3, 4, 5, 7, 8])) Ml
def Mn : ae := .seq (.aA [cW 8 1] (some [0, 3, 4, 5, 7, 8])) Mm
def Mo : ae := .seq (.aA [aB 33 5,
 aB 34 7,
 mF 35 17 33 34,
 bJ 7 35] (some [0, 3, 4, 5, 7])) Mn
def Mp : ae := .seq (.aA [cW 7 1] (some [0, 3, 4, 5, 7])) Mo
def Mq : ae := .seq (.seq (.aA [aB 24 5,
 aB 25 3,
 mF 26 14 24 25,
 iq 27 26,
 aB 28 27,
 ⟨some 29, .cd (.t 6), some (28, false)⟩,
 ⟨some 30, .cd (.t 4), some (28, false)⟩,
 ⟨some 31, .bO .neq 2 (.t 29) (.t 30), some (28, false)⟩,
 ro 32 (.pick (.t 28) (.c (.bool true)) (.t 31))] (some [0, 3, 4, 5, 32])) L3) Mp
def Mr : ae := .seq (.aA [aB 20 0,
 fD 21 16 20,
 aB 19 21,
 gY 22 19 0,
 gY 23 19 1,
 bJ 5 22,
 bJ 6 23] (some [0, 3, 4, 5, 6])) Mq
def Ms : ae := .seq (.aA [aB 15 0,
 fD 16 15 15,
 aB 14 16,
 gY 17 14 0,
 gY 18 14 1,
 bJ 3 17,
 bJ 4 18] (some [0, 3, 4])) Mr
def Mt : ae := .seq (.seq (.aA [aB 11 0,
 eA 12 9 11,
 cv 13 .gtr 3 12 1048576] (some [0, 13])) L1) Ms
def m3 : ae := .seq (.aA [dp 2 false] (some [0])) Mt
theorem xY : cC ⟨66, [0]⟩ (Try.f4.body.getD .skip) = some m3.strip := by kernel_rfl
def bj := PLift.up (And.intro @Bool.not_true @Bool.not_false)
end Go.Proofs.Ytjedocbdhlppdaa
