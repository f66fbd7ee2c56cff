/- Part of the proof that the law FnExactImageKind returns true for every input. No condition. -/
import Derived.Test.YtncnipaofaeaiaaTb
import Derived.Test.YtncnipaofaeaiaaFw35
import Derived.Test.YtncnipaofaeaiaaP4
namespace Go.Proofs.Ytncnipaofaeaiaa
open Go Go.Fw Go.Sh
set_option linter.unusedSimpArgs false



def c52_10 : SC := .cond (.t 10) .skip (.exit 0)
def c52_24 : SC := .cond (.t 21) .skip (.exit 2)
def c52_34 : SC := .reg [⟨some 28, .mv (.t 1), none⟩,
  ⟨some 29, .bn .and 2 (.t 28) (.c (.int .i64 65535)), none⟩,
  ⟨some 30, .bn .xor 2 (.t 29) (.c (.int .i64 4129)), none⟩,
  ⟨some 1, .asg (.t 30), none⟩] (some [0, 1, 5, 6])
def c52_33 : SC := .cond (.t 27) c52_34 .skip
def c52_31 : SC := .seq (.reg [⟨some 26, .mv (.t 1), none⟩,
  ⟨some 27, .bn .gtr 2 (.t 26) (.c (.int .i64 65535)), none⟩] (some [0, 1, 5, 6, 27])) c52_33
def c52_36 : SC := .reg [⟨some 22, .mv (.t 6), none⟩,
  ⟨some 23, .bn .add 3 (.t 22) (.c (.int .i64 1)), none⟩,
  ⟨some 6, .asg (.t 23), none⟩] (some [0, 1, 5, 6])
def c52_27 : SC := .seq (.block 3 (.seq (.reg [⟨some 24, .mv (.t 1), none⟩,
  ⟨some 25, .bn .shl 2 (.t 24) (.c (.int .u64 1)), none⟩,
  ⟨some 1, .asg (.t 25), none⟩] (some [0, 1, 5, 6])) c52_31)) c52_36
def c52_21 : SC := .seq (.seq (.reg [⟨some 20, .mv (.t 6), none⟩,
  ⟨some 21, .bn .lss 3 (.t 20) (.c (.int .i64 8)), none⟩] (some [0, 1, 5, 6, 21])) c52_24) c52_27
def c52_19 : SC := .block 2 (.loop c52_21)
def c52_17 : SC := .seq (.reg [⟨some 6, .asg (.c (.int .i64 0)), none⟩] (some [0, 1, 5, 6])) c52_19
def c52_37 : SC := .reg [⟨some 11, .mv (.t 5), none⟩,
  ⟨some 12, .bn .add 3 (.t 11) (.c (.int .i64 1)), none⟩,
  ⟨some 5, .asg (.t 12), none⟩] (some [0, 1, 5])
def c52_13 : SC := .seq (.block 1 (.seq (.reg [⟨some 13, .mv (.t 1), none⟩,
  ⟨some 14, .mv (.t 0), none⟩,
  ⟨some 15, .mv (.t 5), none⟩,
  ⟨some 16, .idx 9 (.t 14) (.t 15), none⟩,
  ⟨some 17, .cvt 5 2 (.t 16), none⟩,
  ⟨some 18, .bn .shl 2 (.t 17) (.c (.int .u64 8)), none⟩,
  ⟨some 19, .bn .xor 2 (.t 13) (.t 18), none⟩,
  ⟨some 1, .asg (.t 19), none⟩] (some [0, 1, 5])) c52_17)) c52_37
def c52_7 : SC := .seq (.seq (.reg [⟨some 7, .mv (.t 5), none⟩,
  ⟨some 8, .mv (.t 0), none⟩,
  ⟨some 9, .len 9 (.t 8), none⟩,
  ⟨some 10, .bn .lss 3 (.t 7) (.t 9), none⟩] (some [0, 1, 5, 10])) c52_10) c52_13
def c52_5 : SC := .block 0 (.loop c52_7)
def c52_38 : SC := .seq (.reg [⟨some 31, .mv (.t 1), none⟩,
  ⟨some 4, .asg (.t 31), none⟩] (some [4])) .ret
def c52_2 : SC := .seq (.seq (.reg [⟨some 5, .asg (.c (.int .i64 0)), none⟩] (some [0, 1, 5])) c52_5) c52_38
/-- loop.example/g01075/spec.l01Crc -/
def c52 : SC := .seq (.reg [⟨some 4, .asg (.c (.int .i64 0)), none⟩] (some [0, 1])) c52_2
theorem s52 : slimC ⟨32, [0]⟩ (Try.f52.body.getD .skip) = some c52.strip := by kernel_rfl

def c27_2 : SC := .seq (.reg [⟨some 7, .mv (.t 0), none⟩,
  ⟨some 8, .mv (.t 1), none⟩,
  ⟨some 9, .bn .geq 2 (.t 7) (.t 8), none⟩,
  ⟨some 10, .mv (.t 9), none⟩,
  ⟨some 11, .mv (.t 0), some (10, true)⟩,
  ⟨some 12, .mv (.t 2), some (10, true)⟩,
  ⟨some 13, .bn .leq 2 (.t 11) (.t 12), some (10, true)⟩,
  ⟨some 14, .pick (.t 10) (.t 13) (.c (.bool false)), none⟩,
  ⟨some 6, .asg (.t 14), none⟩] (some [6])) .ret
/-- loop.example/g01075/spec.l00In -/
def c27 : SC := .seq (.reg [⟨some 6, .asg (.c (.bool false)), none⟩] (some [0, 1, 2])) c27_2
theorem s27 : slimC ⟨15, [0, 1, 2]⟩ (Try.f27.body.getD .skip) = some c27.strip := by kernel_rfl

def c29_8 : SC := .seq (.reg [⟨some 2, .asg (.c (.int .i64 0)), none⟩,
  ⟨some 3, .asg (.c (.int .i64 11)), none⟩] (some [2, 3])) .ret
def c29_7 : SC := .cond (.t 9) c29_8 .skip
def c29_16 : SC := .seq (.reg [⟨some 2, .asg (.c (.int .i64 0)), none⟩,
  ⟨some 3, .asg (.c (.int .i64 10)), none⟩] (some [2, 3])) .ret
def c29_15 : SC := .cond (.t 27) c29_16 .skip
def c29_26 : SC := .seq (.reg [⟨some 2, .asg (.c (.int .i64 0)), none⟩,
  ⟨some 3, .asg (.c (.int .i64 9)), none⟩] (some [2, 3])) .ret
def c29_25 : SC := .cond (.t 37) c29_26 .skip
def c29_30 : SC := .seq (.reg [⟨some 38, .mv (.t 5), none⟩,
  ⟨some 2, .asg (.t 38), none⟩,
  ⟨some 3, .asg (.c (.int .i64 0)), none⟩] (some [2, 3])) .ret
def c29_22 : SC := .seq (.seq (.reg [⟨some 31, .mv (.t 5), none⟩,
  ⟨some 32, .call (.f 27) [(.t 31), (.c (.int .i64 1)), (.c (.int .i64 3))], none⟩,
  ⟨some 33, .un .not (.t 32), none⟩,
  ⟨some 34, .mv (.t 33), none⟩,
  ⟨some 35, .mv (.t 4), some (34, false)⟩,
  ⟨some 36, .bn .gtr 3 (.t 35) (.c (.int .i64 6000)), some (34, false)⟩,
  ⟨some 37, .pick (.t 34) (.c (.bool true)) (.t 36), none⟩] (some [5, 37])) c29_25) c29_30
def c29_20 : SC := .seq (.reg [⟨some 28, .mv (.t 0), none⟩,
  ⟨some 29, .idx 9 (.t 28) (.c (.int .i64 0)), none⟩,
  ⟨some 30, .cvt 5 2 (.t 29), none⟩,
  ⟨some 5, .asg (.t 30), none⟩] (some [4, 5])) c29_22
def c29_12 : SC := .seq (.seq (.drw [⟨some 10, .mv (.t 0), none⟩,
  ⟨some 11, .mv (.t 4), none⟩,
  ⟨some 12, .bn .sub 3 (.t 11) (.c (.int .i64 2)), none⟩,
  ⟨some 13, .slc 9 (.t 10) none (some (.t 12)), none⟩,
  ⟨some 14, .call (.f 52) [(.t 13), (.c (.int .i64 65535))], none⟩,
  ⟨some 15, .mv (.t 0), none⟩,
  ⟨some 16, .mv (.t 4), none⟩,
  ⟨some 17, .bn .sub 3 (.t 16) (.c (.int .i64 2)), none⟩,
  ⟨some 18, .idx 9 (.t 15) (.t 17), none⟩,
  ⟨some 19, .cvt 5 2 (.t 18), none⟩,
  ⟨some 20, .bn .mul 2 (.t 19) (.c (.int .i64 256)), none⟩,
  ⟨some 21, .mv (.t 0), none⟩,
  ⟨some 22, .mv (.t 4), none⟩,
  ⟨some 23, .bn .sub 3 (.t 22) (.c (.int .i64 1)), none⟩,
  ⟨some 24, .idx 9 (.t 21) (.t 23), none⟩,
  ⟨some 25, .cvt 5 2 (.t 24), none⟩,
  ⟨some 26, .bn .add 2 (.t 20) (.t 25), none⟩,
  ⟨some 27, .bn .neq 2 (.t 14) (.t 26), none⟩] [[], [], [1], [0, 2], [3], [], [], [6], [5, 7], [8], [9], [], [], [12], [11, 13], [14], [10, 15], [4, 16]] (some [0, 4, 27])) c29_15) c29_20
def c29_4 : SC := .seq (.seq (.reg [⟨some 8, .mv (.t 4), none⟩,
  ⟨some 9, .bn .lss 3 (.t 8) (.c (.int .i64 3)), none⟩] (some [0, 4, 9])) c29_7) c29_12
def c29_2 : SC := .seq (.reg [⟨some 6, .mv (.t 0), none⟩,
  ⟨some 7, .len 9 (.t 6), none⟩,
  ⟨some 4, .asg (.t 7), none⟩] (some [0, 4])) c29_4
/-- loop.example/g01075/spec.l32Kind -/
def c29 : SC := .seq (.reg [⟨some 2, .asg (.c (.int .i64 0)), none⟩,
  ⟨some 3, .asg (.c (.int .i64 0)), none⟩] (some [0])) c29_2
theorem s29 : slimC ⟨39, [0]⟩ (Try.f29.body.getD .skip) = some c29.strip := by kernel_rfl

def c11_2 : SC := .seq (.reg [⟨some 4, .mv (.t 0), none⟩,
  ⟨some 5, .call (.f 29) [(.t 4)], none⟩,
  ⟨some 6, .ex (.t 5) 0, none⟩,
  ⟨some 7, .ex (.t 5) 1, none⟩,
  ⟨some 2, .asg (.t 6), none⟩,
  ⟨some 3, .asg (.t 7), none⟩] (some [2, 3])) .ret
/-- loop.example/g01075/spec.ImageKind -/
def c11 : SC := .seq (.reg [⟨some 2, .asg (.c (.int .i64 0)), none⟩,
  ⟨some 3, .asg (.c (.int .i64 0)), none⟩] (some [0])) c11_2
theorem s11 : slimC ⟨8, [0]⟩ (Try.f11.body.getD .skip) = some c11.strip := by kernel_rfl

def c31_2 : SC := .seq (.reg [⟨some 7, .mv (.t 0), none⟩,
  ⟨some 8, .mv (.t 1), none⟩,
  ⟨some 9, .bn .geq 2 (.t 7) (.t 8), none⟩,
  ⟨some 10, .mv (.t 9), none⟩,
  ⟨some 11, .mv (.t 0), some (10, true)⟩,
  ⟨some 12, .mv (.t 2), some (10, true)⟩,
  ⟨some 13, .bn .leq 2 (.t 11) (.t 12), some (10, true)⟩,
  ⟨some 14, .pick (.t 10) (.t 13) (.c (.bool false)), none⟩,
  ⟨some 6, .asg (.t 14), none⟩] (some [6])) .ret
/-- loop.example/g01075/impl.within -/
def c31 : SC := .seq (.reg [⟨some 6, .asg (.c (.bool false)), none⟩] (some [0, 1, 2])) c31_2
theorem s31 : slimC ⟨15, [0, 1, 2]⟩ (Try.f31.body.getD .skip) = some c31.strip := by kernel_rfl

def c30_6 : SC := .seq (.reg [⟨some 4, .asg (.c (.int .i64 0)), none⟩] (some [4])) .ret
def c30_5 : SC := .cond (.t 9) c30_6 .skip
def c30_46 : SC := .reg [⟨some 29, .mv (.t 5), none⟩,
  ⟨some 30, .bn .and 2 (.t 29) (.c (.int .i64 65535)), none⟩,
  ⟨some 31, .bn .xor 2 (.t 30) (.c (.int .i64 4129)), none⟩,
  ⟨some 5, .asg (.t 31), none⟩] (some [0, 5, 12, 13, 23])
def c30_45 : SC := .cond (.t 28) c30_46 .skip
def c30_43 : SC := .seq (.reg [⟨some 27, .mv (.t 5), none⟩,
  ⟨some 28, .bn .gtr 2 (.t 27) (.c (.int .i64 65535)), none⟩] (some [0, 5, 12, 13, 23, 28])) c30_45
def c30_48 : SC := .reg [⟨some 32, .bn .add 3 (.t 23) (.c (.int .i64 1)), none⟩,
  ⟨some 23, .mv (.t 32), none⟩] (some [0, 5, 12, 13, 23])
def c30_39 : SC := .seq (.block 3 (.seq (.reg [⟨some 25, .mv (.t 5), none⟩,
  ⟨some 26, .bn .mul 2 (.t 25) (.c (.int .i64 2)), none⟩,
  ⟨some 5, .asg (.t 26), none⟩] (some [0, 5, 12, 13, 23])) c30_43)) c30_48
def c30_35 : SC := .seq (.cond (.t 24) .skip (.exit 2)) c30_39
def c30_33 : SC := .seq (.reg [⟨some 24, .bn .lss 3 (.t 23) (.c (.int .i64 8)), none⟩] (some [0, 5, 12, 13, 23, 24])) c30_35
def c30_31 : SC := .block 2 (.loop c30_33)
def c30_29 : SC := .seq (.reg [⟨some 23, .mv (.c (.int .i64 0)), none⟩] (some [0, 5, 12, 13, 23])) c30_31
def c30_27 : SC := .seq (.reg [⟨some 16, .mv (.t 5), none⟩,
  ⟨some 17, .mv (.t 0), none⟩,
  ⟨some 18, .mv (.t 6), none⟩,
  ⟨some 19, .idx 9 (.t 17) (.t 18), none⟩,
  ⟨some 20, .cvt 5 2 (.t 19), none⟩,
  ⟨some 21, .bn .mul 2 (.t 20) (.c (.int .i64 256)), none⟩,
  ⟨some 22, .bn .xor 2 (.t 16) (.t 21), none⟩,
  ⟨some 5, .asg (.t 22), none⟩] (some [0, 5, 12, 13])) c30_29
def c30_49 : SC := .reg [⟨some 33, .bn .add 3 (.t 13) (.c (.int .i64 1)), none⟩,
  ⟨some 13, .mv (.t 33), none⟩] (some [0, 5, 12, 13])
def c30_23 : SC := .seq (.block 1 (.seq (.reg [⟨some 15, .mv (.t 13), none⟩,
  ⟨some 6, .asg (.t 15), none⟩] (some [0, 5, 6, 12, 13])) c30_27)) c30_49
def c30_19 : SC := .seq (.cond (.t 14) .skip (.exit 0)) c30_23
def c30_17 : SC := .seq (.reg [⟨some 14, .bn .lss 3 (.t 13) (.t 12), none⟩] (some [0, 5, 12, 13, 14])) c30_19
def c30_15 : SC := .block 0 (.loop c30_17)
def c30_50 : SC := .seq (.reg [⟨some 34, .mv (.t 5), none⟩,
  ⟨some 4, .asg (.t 34), none⟩] (some [4])) .ret
def c30_12 : SC := .seq (.seq (.reg [⟨some 11, .mv (.t 0), none⟩,
  ⟨some 12, .len 9 (.t 11), none⟩,
  ⟨some 13, .mv (.c (.int .i64 0)), none⟩] (some [0, 5, 12, 13])) c30_15) c30_50
def c30_10 : SC := .seq (.reg [⟨some 10, .mv (.t 1), none⟩,
  ⟨some 5, .asg (.t 10), none⟩] (some [0, 5])) c30_12
def c30_2 : SC := .seq (.seq (.reg [⟨some 7, .mv (.t 1), none⟩,
  ⟨some 8, .call (.f 31) [(.t 7), (.c (.int .i64 0)), (.c (.int .i64 65535))], none⟩,
  ⟨some 9, .un .not (.t 8), none⟩] (some [0, 1, 9])) c30_5) c30_10
/-- loop.example/g01075/impl.Crc16 -/
def c30 : SC := .seq (.reg [⟨some 4, .asg (.c (.int .i64 0)), none⟩] (some [0, 1])) c30_2
theorem s30 : slimC ⟨35, [0, 1]⟩ (Try.f30.body.getD .skip) = some c30.strip := by kernel_rfl

def c12_6 : SC := .seq (.reg [⟨some 2, .asg (.c (.int .i64 0)), none⟩,
  ⟨some 3, .asg (.c (.int .i64 11)), none⟩] (some [2, 3])) .ret
def c12_5 : SC := .cond (.t 9) c12_6 .skip
def c12_21 : SC := .seq (.reg [⟨some 2, .asg (.c (.int .i64 0)), none⟩,
  ⟨some 3, .asg (.c (.int .i64 10)), none⟩] (some [2, 3])) .ret
def c12_27 : SC := .seq (.reg [⟨some 2, .asg (.c (.int .i64 0)), none⟩,
  ⟨some 3, .asg (.c (.int .i64 9)), none⟩] (some [2, 3])) .ret
def c12_26 : SC := .cond (.t 37) c12_27 .skip
def c12_24 : SC := .seq (.reg [⟨some 38, .mv (.t 6), none⟩,
  ⟨some 39, .call (.f 31) [(.t 38), (.c (.int .i64 1)), (.c (.int .i64 3))], none⟩,
  ⟨some 40, .un .not (.t 39), none⟩,
  ⟨some 41, .mv (.t 40), none⟩,
  ⟨some 42, .mv (.t 0), some (41, false)⟩,
  ⟨some 43, .len 9 (.t 42), some (41, false)⟩,
  ⟨some 44, .bn .gtr 3 (.t 43) (.c (.int .i64 6000)), some (41, false)⟩,
  ⟨some 45, .pick (.t 41) (.c (.bool true)) (.t 44), none⟩,
  ⟨some 37, .asg (.t 45), none⟩] (some [6, 37])) c12_26
def c12_20 : SC := .cond (.t 20) c12_21 c12_24
def c12_31 : SC := .seq (.reg [⟨some 46, .mv (.t 6), none⟩,
  ⟨some 2, .asg (.t 46), none⟩,
  ⟨some 3, .asg (.c (.int .i64 0)), none⟩] (some [2, 3])) .ret
def c12_16 : SC := .seq (.block 0 (.seq (.drw [⟨some 21, .mv (.t 0), none⟩,
  ⟨some 22, .mv (.t 0), none⟩,
  ⟨some 23, .len 9 (.t 22), none⟩,
  ⟨some 24, .bn .sub 3 (.t 23) (.c (.int .i64 2)), none⟩,
  ⟨some 25, .idx 9 (.t 21) (.t 24), none⟩,
  ⟨some 26, .cvt 5 2 (.t 25), none⟩,
  ⟨some 27, .bn .mul 2 (.t 26) (.c (.int .i64 256)), none⟩,
  ⟨some 28, .mv (.t 0), none⟩,
  ⟨some 29, .mv (.t 0), none⟩,
  ⟨some 30, .len 9 (.t 29), none⟩,
  ⟨some 31, .bn .sub 3 (.t 30) (.c (.int .i64 1)), none⟩,
  ⟨some 32, .idx 9 (.t 28) (.t 31), none⟩,
  ⟨some 33, .cvt 5 2 (.t 32), none⟩,
  ⟨some 34, .bn .add 2 (.t 27) (.t 33), none⟩,
  ⟨some 35, .mv (.t 5), none⟩,
  ⟨some 36, .bn .neq 2 (.t 34) (.t 35), none⟩,
  ⟨some 20, .asg (.t 36), none⟩] [[], [], [1], [2], [0, 3], [4], [5], [], [], [8], [9], [7, 10], [11], [6, 12], [], [13, 14], [15]] (some [0, 6, 20])) c12_20)) c12_31
def c12_14 : SC := .seq (.reg [⟨some 17, .mv (.t 0), none⟩,
  ⟨some 18, .idx 9 (.t 17) (.c (.int .i64 0)), none⟩,
  ⟨some 19, .cvt 5 2 (.t 18), none⟩,
  ⟨some 6, .asg (.t 19), none⟩] (some [0, 5, 6])) c12_16
def c12_12 : SC := .seq (.reg [⟨some 15, .mv (.t 4), none⟩,
  ⟨some 16, .call (.f 30) [(.t 15), (.c (.int .i64 65535))], none⟩,
  ⟨some 5, .asg (.t 16), none⟩] (some [0, 5])) c12_14
def c12_10 : SC := .seq (.reg [⟨some 10, .mv (.t 0), none⟩,
  ⟨some 11, .mv (.t 0), none⟩,
  ⟨some 12, .len 9 (.t 11), none⟩,
  ⟨some 13, .bn .sub 3 (.t 12) (.c (.int .i64 2)), none⟩,
  ⟨some 14, .slc 9 (.t 10) none (some (.t 13)), none⟩,
  ⟨some 4, .asg (.t 14), none⟩] (some [0, 4])) c12_12
def c12_2 : SC := .seq (.seq (.reg [⟨some 7, .mv (.t 0), none⟩,
  ⟨some 8, .len 9 (.t 7), none⟩,
  ⟨some 9, .bn .lss 3 (.t 8) (.c (.int .i64 3)), none⟩] (some [0, 9])) c12_5) c12_10
/-- loop.example/g01075/impl.ImageKind -/
def c12 : SC := .seq (.reg [⟨some 2, .asg (.c (.int .i64 0)), none⟩,
  ⟨some 3, .asg (.c (.int .i64 0)), none⟩] (some [0])) c12_2
theorem s12 : slimC ⟨47, [0]⟩ (Try.f12.body.getD .skip) = some c12.strip := by kernel_rfl

def c4_6 : SC := .seq (.reg [⟨some 2, .asg (.c (.bool true)), none⟩] (some [2])) .ret
def c4_5 : SC := .cond (.t 9) c4_6 .skip
def c4_18 : SC := .seq (.reg [⟨some 2, .asg (.c (.bool false)), none⟩] (some [2])) .ret
def c4_17 : SC := .cond (.t 27) c4_18 .skip
def c4_22 : SC := .seq (.reg [⟨some 2, .asg (.c (.bool true)), none⟩] (some [2])) .ret
def c4_14 : SC := .seq (.seq (.reg [⟨some 20, .mv (.t 5), none⟩,
  ⟨some 21, .mv (.t 3), none⟩,
  ⟨some 22, .bn .neq 2 (.t 20) (.t 21), none⟩,
  ⟨some 23, .mv (.t 22), none⟩,
  ⟨some 24, .mv (.t 6), some (23, false)⟩,
  ⟨some 25, .mv (.t 4), some (23, false)⟩,
  ⟨some 26, .bn .neq 2 (.t 24) (.t 25), some (23, false)⟩,
  ⟨some 27, .pick (.t 23) (.c (.bool true)) (.t 26), none⟩] (some [27])) c4_17) c4_22
def c4_12 : SC := .seq (.reg [⟨some 16, .mv (.t 0), none⟩,
  ⟨some 17, .call (.f 12) [(.t 16)], none⟩,
  ⟨some 15, .mv (.t 17), none⟩,
  ⟨some 18, .ex (.t 15) 0, none⟩,
  ⟨some 19, .ex (.t 15) 1, none⟩,
  ⟨some 5, .asg (.t 18), none⟩,
  ⟨some 6, .asg (.t 19), none⟩] (some [3, 4, 5, 6])) c4_14
def c4_10 : SC := .seq (.reg [⟨some 11, .mv (.t 0), none⟩,
  ⟨some 12, .call (.f 11) [(.t 11)], none⟩,
  ⟨some 10, .mv (.t 12), none⟩,
  ⟨some 13, .ex (.t 10) 0, none⟩,
  ⟨some 14, .ex (.t 10) 1, none⟩,
  ⟨some 3, .asg (.t 13), none⟩,
  ⟨some 4, .asg (.t 14), none⟩] (some [0, 3, 4])) c4_12
def c4_2 : SC := .seq (.seq (.reg [⟨some 7, .mv (.t 0), none⟩,
  ⟨some 8, .len 9 (.t 7), none⟩,
  ⟨some 9, .bn .gtr 3 (.t 8) (.c (.int .i64 1048576)), none⟩] (some [0, 9])) c4_5) c4_10
/-- loop.example/g01075/laws.FnExactImageKind -/
def c4 : SC := .seq (.reg [⟨some 2, .asg (.c (.bool false)), none⟩] (some [0])) c4_2
theorem s4 : slimC ⟨28, [0]⟩ (Try.f4.body.getD .skip) = some c4.strip := by kernel_rfl

end Go.Proofs.Ytncnipaofaeaiaa
