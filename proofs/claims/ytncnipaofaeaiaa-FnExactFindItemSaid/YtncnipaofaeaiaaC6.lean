/- Part of a proof that a law returns true for every input. No condition. -/
import Derived.Test.YtncnipaofaeaiaaTb
import Derived.Test.YtncnipaofaeaiaaFw38
import Derived.Test.YtncnipaofaeaiaaFw39
import Derived.Test.YtncnipaofaeaiaaP6
namespace Go.Proofs.Ytncnipaofaeaiaa
open Go Go.Fw Go.Sh
set_option linter.unusedSimpArgs false

def e_laws_Item (x : laws_Item) : AV := .agg [.str x.Name, .str x.Image]
theorem sh_e_laws_Item (x : laws_Item) : (e_laws_Item x).share = e_laws_Item x := by
  simp only [e_laws_Item, share_s]
theorem ns_e_laws_Item (x : laws_Item) : (e_laws_Item x).nosh = true := by
  simp only [e_laws_Item, AV.nosh, AV.noshs, Bool.and_self]
def e_str (x : List UInt8) : AV := .str x
theorem sh_e_str (x : List UInt8) : (e_str x).share = e_str x := by
  simp only [e_str, share_s]
theorem ns_e_str (x : List UInt8) : (e_str x).nosh = true := by
  simp only [e_str, AV.nosh, AV.noshs, Bool.and_self]
def e_impl_Item (x : impl_Item) : AV := .agg [.str x.Name, .str x.Image]
theorem sh_e_impl_Item (x : impl_Item) : (e_impl_Item x).share = e_impl_Item x := by
  simp only [e_impl_Item, share_s]
theorem ns_e_impl_Item (x : impl_Item) : (e_impl_Item x).nosh = true := by
  simp only [e_impl_Item, AV.nosh, AV.noshs, Bool.and_self]

def c32_8 : SC := .seq (.reg [⟨some 4, .asg (.c (.int .i64 (-1))), none⟩] (some [4])) .ret
def c32_7 : SC := .cond (.t 11) c32_8 .skip
def c32_18 : SC := .seq (.reg [⟨some 4, .asg (.c (.int .i64 (-1))), none⟩] (some [4])) .ret
def c32_17 : SC := .cond (.t 18) c32_18 .skip
def c32_22 : SC := .seq (.reg [⟨some 19, .mv (.t 1), none⟩,
  ⟨some 4, .asg (.t 19), none⟩] (some [4])) .ret
def c32_14 : SC := .seq (.seq (.reg [⟨some 17, .mv (.t 1), none⟩,
  ⟨some 18, .bn .lss 3 (.t 17) (.c (.int .i64 0)), none⟩] (some [1, 18])) c32_17) c32_22
def c32_12 : SC := .seq (.reg [⟨some 12, .mv (.t 1), none⟩,
  ⟨some 13, .fa 51 (.t 2) 1, none⟩,
  ⟨some 14, .ld 9 (.t 13), none⟩,
  ⟨some 15, .len 9 (.t 14), none⟩,
  ⟨some 16, .bn .sub 3 (.t 12) (.t 15), none⟩,
  ⟨some 1, .asg (.t 16), none⟩] (some [1])) c32_14
def c32_4 : SC := .seq (.seq (.reg [⟨some 10, .mv (.t 1), none⟩,
  ⟨some 11, .bn .lss 3 (.t 10) (.c (.int .i64 0)), none⟩] (some [1, 2, 11])) c32_7) c32_12
def c32_2 : SC := .seq (.reg [⟨some 5, .mv (.t 1), none⟩,
  ⟨some 6, .fa 51 (.t 2) 0, none⟩,
  ⟨some 7, .ld 9 (.t 6), none⟩,
  ⟨some 8, .len 9 (.t 7), none⟩,
  ⟨some 9, .bn .sub 3 (.t 5) (.t 8), none⟩,
  ⟨some 1, .asg (.t 9), none⟩] (some [1, 2])) c32_4
/-- loop.example/g01075/laws.szItem -/
def c32 : SC := .seq (.reg [⟨some 2, .bx 51 (.t 0), none⟩,
  ⟨some 4, .asg (.c (.int .i64 0)), none⟩] (some [1, 2])) c32_2
theorem s32 : slimC ⟨20, [0]⟩ (Try.f32.body.getD .skip) = some c32.strip := by kernel_rfl

def c13_8 : SC := .seq (.reg [⟨some 4, .asg (.c (.int .i64 (-1))), none⟩] (some [4])) .ret
def c13_7 : SC := .cond (.t 11) c13_8 .skip
def c13_20 : SC := .cond (.t 15) .skip (.exit 0)
def c13_30 : SC := .seq (.reg [⟨some 4, .asg (.c (.int .i64 (-1))), none⟩] (some [4])) .ret
def c13_29 : SC := .cond (.t 25) c13_30 .skip
def c13_27 : SC := .seq (.reg [⟨some 24, .mv (.t 1), none⟩,
  ⟨some 25, .bn .lss 3 (.t 24) (.c (.int .i64 0)), none⟩] (some [0, 1, 5, 25])) c13_29
def c13_34 : SC := .reg [⟨some 16, .mv (.t 5), none⟩,
  ⟨some 17, .bn .add 3 (.t 16) (.c (.int .i64 1)), none⟩,
  ⟨some 5, .asg (.t 17), none⟩] (some [0, 1, 5])
def c13_23 : SC := .seq (.block 1 (.seq (.reg [⟨some 18, .mv (.t 0), none⟩,
  ⟨some 19, .mv (.t 5), none⟩,
  ⟨some 20, .ia 27 (.t 18) (.t 19), none⟩,
  ⟨some 21, .ld 51 (.t 20), none⟩,
  ⟨some 22, .mv (.t 1), none⟩,
  ⟨some 23, .call (.f 32) [(.t 21), (.t 22)], none⟩,
  ⟨some 1, .asg (.t 23), none⟩] (some [0, 1, 5])) c13_27)) c13_34
def c13_17 : SC := .seq (.seq (.reg [⟨some 12, .mv (.t 5), none⟩,
  ⟨some 13, .mv (.t 0), none⟩,
  ⟨some 14, .len 27 (.t 13), none⟩,
  ⟨some 15, .bn .lss 3 (.t 12) (.t 14), none⟩] (some [0, 1, 5, 15])) c13_20) c13_23
def c13_15 : SC := .block 0 (.loop c13_17)
def c13_35 : SC := .seq (.reg [⟨some 26, .mv (.t 1), none⟩,
  ⟨some 4, .asg (.t 26), none⟩] (some [4])) .ret
def c13_12 : SC := .seq (.seq (.reg [⟨some 5, .asg (.c (.int .i64 0)), none⟩] (some [0, 1, 5])) c13_15) c13_35
def c13_4 : SC := .seq (.seq (.reg [⟨some 10, .mv (.t 1), none⟩,
  ⟨some 11, .bn .lss 3 (.t 10) (.c (.int .i64 0)), none⟩] (some [0, 1, 11])) c13_7) c13_12
def c13_2 : SC := .seq (.reg [⟨some 6, .mv (.t 1), none⟩,
  ⟨some 7, .mv (.t 0), none⟩,
  ⟨some 8, .len 27 (.t 7), none⟩,
  ⟨some 9, .bn .sub 3 (.t 6) (.t 8), none⟩,
  ⟨some 1, .asg (.t 9), none⟩] (some [0, 1])) c13_4
/-- loop.example/g01075/laws.szItemS -/
def c13 : SC := .seq (.reg [⟨some 4, .asg (.c (.int .i64 0)), none⟩] (some [0, 1])) c13_2
theorem s13 : slimC ⟨27, [0]⟩ (Try.f13.body.getD .skip) = some c13.strip := by kernel_rfl

def c34_8 : SC := .seq (.reg [⟨some 10, .ld 52 (.t 3), none⟩,
  ⟨none, .sto 52 (.t 2) (.t 10), none⟩] (some [2])) .ret
def c34_6 : SC := .seq (.reg [⟨some 7, .fa 51 (.t 1) 1, none⟩,
  ⟨some 8, .ld 9 (.t 7), none⟩,
  ⟨some 9, .fa 52 (.t 3) 1, none⟩,
  ⟨none, .sto 9 (.t 9) (.t 8), none⟩] (some [2, 3])) c34_8
def c34_4 : SC := .seq (.reg [⟨some 4, .fa 51 (.t 1) 0, none⟩,
  ⟨some 5, .ld 9 (.t 4), none⟩,
  ⟨some 6, .fa 52 (.t 3) 0, none⟩,
  ⟨none, .sto 9 (.t 6) (.t 5), none⟩] (some [1, 2, 3])) c34_6
def c34_2 : SC := .seq (.reg [⟨some 3, .alc 52, none⟩] (some [1, 2, 3])) c34_4
/-- loop.example/g01075/laws.toItem -/
def c34 : SC := .seq (.reg [⟨some 1, .bx 51 (.t 0), none⟩,
  ⟨some 2, .alc 52, none⟩] (some [1, 2])) c34_2
theorem s34 : slimC ⟨11, [0]⟩ (Try.f34.body.getD .skip) = some c34.strip := by kernel_rfl

def c15_12 : SC := .cond (.t 11) .skip (.exit 0)
def c15_18 : SC := .reg [⟨some 12, .mv (.t 4), none⟩,
  ⟨some 13, .bn .add 3 (.t 12) (.c (.int .i64 1)), none⟩,
  ⟨some 4, .asg (.t 13), none⟩] (some [0, 3, 4])
def c15_15 : SC := .seq (.block 1 (.reg [⟨some 14, .mv (.t 3), none⟩,
  ⟨some 15, .mv (.t 4), none⟩,
  ⟨some 16, .mv (.t 0), none⟩,
  ⟨some 17, .mv (.t 4), none⟩,
  ⟨some 18, .ia 27 (.t 16) (.t 17), none⟩,
  ⟨some 19, .ld 51 (.t 18), none⟩,
  ⟨some 20, .call (.f 34) [(.t 19)], none⟩,
  ⟨some 21, .ia 30 (.t 14) (.t 15), none⟩,
  ⟨none, .sto 52 (.t 21) (.t 20), none⟩] (some [0, 3, 4]))) c15_18
def c15_9 : SC := .seq (.seq (.reg [⟨some 8, .mv (.t 4), none⟩,
  ⟨some 9, .mv (.t 0), none⟩,
  ⟨some 10, .len 27 (.t 9), none⟩,
  ⟨some 11, .bn .lss 3 (.t 8) (.t 10), none⟩] (some [0, 3, 4, 11])) c15_12) c15_15
def c15_7 : SC := .block 0 (.loop c15_9)
def c15_19 : SC := .seq (.reg [⟨some 22, .mv (.t 3), none⟩,
  ⟨some 2, .asg (.t 22), none⟩] (some [2])) .ret
def c15_4 : SC := .seq (.seq (.reg [⟨some 4, .asg (.c (.int .i64 0)), none⟩] (some [0, 3, 4])) c15_7) c15_19
def c15_2 : SC := .seq (.reg [⟨some 5, .mv (.t 0), none⟩,
  ⟨some 6, .len 27 (.t 5), none⟩,
  ⟨some 7, .mks 30 (.t 6) (.t 6), none⟩,
  ⟨some 3, .asg (.t 7), none⟩] (some [0, 3])) c15_4
/-- loop.example/g01075/laws.toItemS -/
def c15 : SC := .seq (.reg [⟨some 2, .asg (.c .nils), none⟩] (some [0])) c15_2
theorem s15 : slimC ⟨23, [0]⟩ (Try.f15.body.getD .skip) = some c15.strip := by kernel_rfl

def c70_2 : SC := .seq (.reg [⟨some 3, .mv (.t 0), none⟩,
  ⟨some 4, .bn .geq 5 (.t 3) (.c (.int .u8 97)), none⟩,
  ⟨some 5, .mv (.t 4), none⟩,
  ⟨some 6, .mv (.t 0), some (5, true)⟩,
  ⟨some 7, .bn .leq 5 (.t 6) (.c (.int .u8 122)), some (5, true)⟩,
  ⟨some 8, .pick (.t 5) (.t 7) (.c (.bool false)), none⟩,
  ⟨some 2, .asg (.t 8), none⟩] (some [2])) .ret
/-- loop.example/g01075/spec.l01Small -/
def c70 : SC := .seq (.reg [⟨some 2, .asg (.c (.bool false)), none⟩] (some [0])) c70_2
theorem s70 : slimC ⟨9, [0]⟩ (Try.f70.body.getD .skip) = some c70.strip := by kernel_rfl

def c71_2 : SC := .seq (.reg [⟨some 3, .mv (.t 0), none⟩,
  ⟨some 4, .bn .geq 5 (.t 3) (.c (.int .u8 48)), none⟩,
  ⟨some 5, .mv (.t 4), none⟩,
  ⟨some 6, .mv (.t 0), some (5, true)⟩,
  ⟨some 7, .bn .leq 5 (.t 6) (.c (.int .u8 57)), some (5, true)⟩,
  ⟨some 8, .pick (.t 5) (.t 7) (.c (.bool false)), none⟩,
  ⟨some 2, .asg (.t 8), none⟩] (some [2])) .ret
/-- loop.example/g01075/spec.l01Digit -/
def c71 : SC := .seq (.reg [⟨some 2, .asg (.c (.bool false)), none⟩] (some [0])) c71_2
theorem s71 : slimC ⟨9, [0]⟩ (Try.f71.body.getD .skip) = some c71.strip := by kernel_rfl

def c53_6 : SC := .seq (.reg [⟨some 2, .asg (.c (.bool false)), none⟩] (some [2])) .ret
def c53_5 : SC := .cond (.t 16) c53_6 .skip
def c53_18 : SC := .cond (.t 20) .skip (.exit 0)
def c53_26 : SC := .seq (.reg [⟨some 2, .asg (.c (.bool false)), none⟩] (some [2])) .ret
def c53_25 : SC := .cond (.t 34) c53_26 .skip
def c53_30 : SC := .reg [⟨some 21, .mv (.t 3), none⟩,
  ⟨some 22, .bn .add 3 (.t 21) (.c (.int .i64 1)), none⟩,
  ⟨some 3, .asg (.t 22), none⟩] (some [0, 3])
def c53_21 : SC := .seq (.block 1 (.seq (.reg [⟨some 23, .mv (.t 0), none⟩,
  ⟨some 24, .mv (.t 3), none⟩,
  ⟨some 25, .idx 9 (.t 23) (.t 24), none⟩,
  ⟨some 26, .call (.f 70) [(.t 25)], none⟩,
  ⟨some 27, .un .not (.t 26), none⟩,
  ⟨some 28, .mv (.t 27), none⟩,
  ⟨some 29, .mv (.t 0), some (28, true)⟩,
  ⟨some 30, .mv (.t 3), some (28, true)⟩,
  ⟨some 31, .idx 9 (.t 29) (.t 30), some (28, true)⟩,
  ⟨some 32, .call (.f 71) [(.t 31)], some (28, true)⟩,
  ⟨some 33, .un .not (.t 32), some (28, true)⟩,
  ⟨some 34, .pick (.t 28) (.t 33) (.c (.bool false)), none⟩] (some [0, 3, 34])) c53_25)) c53_30
def c53_15 : SC := .seq (.seq (.reg [⟨some 17, .mv (.t 3), none⟩,
  ⟨some 18, .mv (.t 0), none⟩,
  ⟨some 19, .len 9 (.t 18), none⟩,
  ⟨some 20, .bn .lss 3 (.t 17) (.t 19), none⟩] (some [0, 3, 20])) c53_18) c53_21
def c53_13 : SC := .block 0 (.loop c53_15)
def c53_31 : SC := .seq (.reg [⟨some 2, .asg (.c (.bool true)), none⟩] (some [2])) .ret
def c53_10 : SC := .seq (.seq (.reg [⟨some 3, .asg (.c (.int .i64 0)), none⟩] (some [0, 3])) c53_13) c53_31
def c53_2 : SC := .seq (.seq (.reg [⟨some 4, .mv (.t 0), none⟩,
  ⟨some 5, .bn .eql 9 (.t 4) (.c (.str [])), none⟩,
  ⟨some 6, .mv (.t 5), none⟩,
  ⟨some 7, .mv (.t 0), some (6, false)⟩,
  ⟨some 8, .len 9 (.t 7), some (6, false)⟩,
  ⟨some 9, .bn .gtr 3 (.t 8) (.c (.int .i64 10)), some (6, false)⟩,
  ⟨some 10, .pick (.t 6) (.c (.bool true)) (.t 9), none⟩,
  ⟨some 11, .mv (.t 10), none⟩,
  ⟨some 12, .mv (.t 0), some (11, false)⟩,
  ⟨some 13, .idx 9 (.t 12) (.c (.int .i64 0)), some (11, false)⟩,
  ⟨some 14, .call (.f 70) [(.t 13)], some (11, false)⟩,
  ⟨some 15, .un .not (.t 14), some (11, false)⟩,
  ⟨some 16, .pick (.t 11) (.c (.bool true)) (.t 15), none⟩] (some [0, 16])) c53_5) c53_10
/-- loop.example/g01075/spec.l01Name -/
def c53 : SC := .seq (.reg [⟨some 2, .asg (.c (.bool false)), none⟩] (some [0])) c53_2
theorem s53 : slimC ⟨35, [0]⟩ (Try.f53.body.getD .skip) = some c53.strip := by kernel_rfl

def c52_10 : SC := .cond (.t 10) .skip (.exit 0)
def c52_24 : SC := .cond (.t 21) .skip (.exit 2)
def c52_34 : SC := .reg [⟨some 28, .mv (.t 1), none⟩,
  ⟨some 29, .bn .and 2 (.t 28) (.c (.int .i64 65535)), none⟩,
  ⟨some 30, .bn .xor 2 (.t 29) (.c (.int .i64 4129)), none⟩,
  ⟨some 1, .asg (.t 30), none⟩] (some [0, 1, 5, 6])
def c52_33 : SC := .cond (.t 27) c52_34 .skip
def c52_31 : SC := .seq (.reg [⟨some 26, .mv (.t 1), none⟩,
  ⟨some 27, .bn .gtr 2 (.t 26) (.c (.int .i64 65535)), none⟩] (some [0, 1, 5, 6, 27])) c52_33
def c52_36 : SC := .reg [⟨some 22, .mv (.t 6), none⟩,
  ⟨some 23, .bn .add 3 (.t 22) (.c (.int .i64 1)), none⟩,
  ⟨some 6, .asg (.t 23), none⟩] (some [0, 1, 5, 6])
def c52_27 : SC := .seq (.block 3 (.seq (.reg [⟨some 24, .mv (.t 1), none⟩,
  ⟨some 25, .bn .shl 2 (.t 24) (.c (.int .u64 1)), none⟩,
  ⟨some 1, .asg (.t 25), none⟩] (some [0, 1, 5, 6])) c52_31)) c52_36
def c52_21 : SC := .seq (.seq (.reg [⟨some 20, .mv (.t 6), none⟩,
  ⟨some 21, .bn .lss 3 (.t 20) (.c (.int .i64 8)), none⟩] (some [0, 1, 5, 6, 21])) c52_24) c52_27
def c52_19 : SC := .block 2 (.loop c52_21)
def c52_17 : SC := .seq (.reg [⟨some 6, .asg (.c (.int .i64 0)), none⟩] (some [0, 1, 5, 6])) c52_19
def c52_37 : SC := .reg [⟨some 11, .mv (.t 5), none⟩,
  ⟨some 12, .bn .add 3 (.t 11) (.c (.int .i64 1)), none⟩,
  ⟨some 5, .asg (.t 12), none⟩] (some [0, 1, 5])
def c52_13 : SC := .seq (.block 1 (.seq (.reg [⟨some 13, .mv (.t 1), none⟩,
  ⟨some 14, .mv (.t 0), none⟩,
  ⟨some 15, .mv (.t 5), none⟩,
  ⟨some 16, .idx 9 (.t 14) (.t 15), none⟩,
  ⟨some 17, .cvt 5 2 (.t 16), none⟩,
  ⟨some 18, .bn .shl 2 (.t 17) (.c (.int .u64 8)), none⟩,
  ⟨some 19, .bn .xor 2 (.t 13) (.t 18), none⟩,
  ⟨some 1, .asg (.t 19), none⟩] (some [0, 1, 5])) c52_17)) c52_37
def c52_7 : SC := .seq (.seq (.reg [⟨some 7, .mv (.t 5), none⟩,
  ⟨some 8, .mv (.t 0), none⟩,
  ⟨some 9, .len 9 (.t 8), none⟩,
  ⟨some 10, .bn .lss 3 (.t 7) (.t 9), none⟩] (some [0, 1, 5, 10])) c52_10) c52_13
def c52_5 : SC := .block 0 (.loop c52_7)
def c52_38 : SC := .seq (.reg [⟨some 31, .mv (.t 1), none⟩,
  ⟨some 4, .asg (.t 31), none⟩] (some [4])) .ret
def c52_2 : SC := .seq (.seq (.reg [⟨some 5, .asg (.c (.int .i64 0)), none⟩] (some [0, 1, 5])) c52_5) c52_38
/-- loop.example/g01075/spec.l01Crc -/
def c52 : SC := .seq (.reg [⟨some 4, .asg (.c (.int .i64 0)), none⟩] (some [0, 1])) c52_2
theorem s52 : slimC ⟨32, [0]⟩ (Try.f52.body.getD .skip) = some c52.strip := by kernel_rfl

def c27_2 : SC := .seq (.reg [⟨some 7, .mv (.t 0), none⟩,
  ⟨some 8, .mv (.t 1), none⟩,
  ⟨some 9, .bn .geq 2 (.t 7) (.t 8), none⟩,
  ⟨some 10, .mv (.t 9), none⟩,
  ⟨some 11, .mv (.t 0), some (10, true)⟩,
  ⟨some 12, .mv (.t 2), some (10, true)⟩,
  ⟨some 13, .bn .leq 2 (.t 11) (.t 12), some (10, true)⟩,
  ⟨some 14, .pick (.t 10) (.t 13) (.c (.bool false)), none⟩,
  ⟨some 6, .asg (.t 14), none⟩] (some [6])) .ret
/-- loop.example/g01075/spec.l00In -/
def c27 : SC := .seq (.reg [⟨some 6, .asg (.c (.bool false)), none⟩] (some [0, 1, 2])) c27_2
theorem s27 : slimC ⟨15, [0, 1, 2]⟩ (Try.f27.body.getD .skip) = some c27.strip := by kernel_rfl

def c29_8 : SC := .seq (.reg [⟨some 2, .asg (.c (.int .i64 0)), none⟩,
  ⟨some 3, .asg (.c (.int .i64 11)), none⟩] (some [2, 3])) .ret
def c29_7 : SC := .cond (.t 9) c29_8 .skip
def c29_16 : SC := .seq (.reg [⟨some 2, .asg (.c (.int .i64 0)), none⟩,
  ⟨some 3, .asg (.c (.int .i64 10)), none⟩] (some [2, 3])) .ret
def c29_15 : SC := .cond (.t 27) c29_16 .skip
def c29_26 : SC := .seq (.reg [⟨some 2, .asg (.c (.int .i64 0)), none⟩,
  ⟨some 3, .asg (.c (.int .i64 9)), none⟩] (some [2, 3])) .ret
def c29_25 : SC := .cond (.t 37) c29_26 .skip
def c29_30 : SC := .seq (.reg [⟨some 38, .mv (.t 5), none⟩,
  ⟨some 2, .asg (.t 38), none⟩,
  ⟨some 3, .asg (.c (.int .i64 0)), none⟩] (some [2, 3])) .ret
def c29_22 : SC := .seq (.seq (.reg [⟨some 31, .mv (.t 5), none⟩,
  ⟨some 32, .call (.f 27) [(.t 31), (.c (.int .i64 1)), (.c (.int .i64 3))], none⟩,
  ⟨some 33, .un .not (.t 32), none⟩,
  ⟨some 34, .mv (.t 33), none⟩,
  ⟨some 35, .mv (.t 4), some (34, false)⟩,
  ⟨some 36, .bn .gtr 3 (.t 35) (.c (.int .i64 6000)), some (34, false)⟩,
  ⟨some 37, .pick (.t 34) (.c (.bool true)) (.t 36), none⟩] (some [5, 37])) c29_25) c29_30
def c29_20 : SC := .seq (.reg [⟨some 28, .mv (.t 0), none⟩,
  ⟨some 29, .idx 9 (.t 28) (.c (.int .i64 0)), none⟩,
  ⟨some 30, .cvt 5 2 (.t 29), none⟩,
  ⟨some 5, .asg (.t 30), none⟩] (some [4, 5])) c29_22
def c29_12 : SC := .seq (.seq (.drw [⟨some 10, .mv (.t 0), none⟩,
  ⟨some 11, .mv (.t 4), none⟩,
  ⟨some 12, .bn .sub 3 (.t 11) (.c (.int .i64 2)), none⟩,
  ⟨some 13, .slc 9 (.t 10) none (some (.t 12)), none⟩,
  ⟨some 14, .call (.f 52) [(.t 13), (.c (.int .i64 65535))], none⟩,
  ⟨some 15, .mv (.t 0), none⟩,
  ⟨some 16, .mv (.t 4), none⟩,
  ⟨some 17, .bn .sub 3 (.t 16) (.c (.int .i64 2)), none⟩,
  ⟨some 18, .idx 9 (.t 15) (.t 17), none⟩,
  ⟨some 19, .cvt 5 2 (.t 18), none⟩,
  ⟨some 20, .bn .mul 2 (.t 19) (.c (.int .i64 256)), none⟩,
  ⟨some 21, .mv (.t 0), none⟩,
  ⟨some 22, .mv (.t 4), none⟩,
  ⟨some 23, .bn .sub 3 (.t 22) (.c (.int .i64 1)), none⟩,
  ⟨some 24, .idx 9 (.t 21) (.t 23), none⟩,
  ⟨some 25, .cvt 5 2 (.t 24), none⟩,
  ⟨some 26, .bn .add 2 (.t 20) (.t 25), none⟩,
  ⟨some 27, .bn .neq 2 (.t 14) (.t 26), none⟩] [[], [], [1], [0, 2], [3], [], [], [6], [5, 7], [8], [9], [], [], [12], [11, 13], [14], [10, 15], [4, 16]] (some [0, 4, 27])) c29_15) c29_20
def c29_4 : SC := .seq (.seq (.reg [⟨some 8, .mv (.t 4), none⟩,
  ⟨some 9, .bn .lss 3 (.t 8) (.c (.int .i64 3)), none⟩] (some [0, 4, 9])) c29_7) c29_12
def c29_2 : SC := .seq (.reg [⟨some 6, .mv (.t 0), none⟩,
  ⟨some 7, .len 9 (.t 6), none⟩,
  ⟨some 4, .asg (.t 7), none⟩] (some [0, 4])) c29_4
/-- loop.example/g01075/spec.l32Kind -/
def c29 : SC := .seq (.reg [⟨some 2, .asg (.c (.int .i64 0)), none⟩,
  ⟨some 3, .asg (.c (.int .i64 0)), none⟩] (some [0])) c29_2
theorem s29 : slimC ⟨39, [0]⟩ (Try.f29.body.getD .skip) = some c29.strip := by kernel_rfl

def c33_6 : SC := .seq (.reg [⟨some 2, .asg (.c (.bool false)), none⟩] (some [2])) .ret
def c33_5 : SC := .cond (.t 8) c33_6 .skip
def c33_18 : SC := .cond (.t 12) .skip (.exit 0)
def c33_27 : SC := .seq (.reg [⟨some 2, .asg (.c (.bool false)), none⟩] (some [2])) .ret
def c33_26 : SC := .cond (.t 39) c33_27 .skip
def c33_36 : SC := .seq (.reg [⟨some 2, .asg (.c (.bool false)), none⟩] (some [2])) .ret
def c33_35 : SC := .cond (.t 50) c33_36 .skip
def c33_33 : SC := .seq (.reg [⟨some 49, .mv (.t 5), none⟩,
  ⟨some 50, .bn .neq 2 (.t 49) (.c (.int .i64 0)), none⟩] (some [0, 3, 50])) c33_35
def c33_31 : SC := .seq (.reg [⟨some 41, .mv (.t 0), none⟩,
  ⟨some 42, .mv (.t 3), none⟩,
  ⟨some 43, .ia 30 (.t 41) (.t 42), none⟩,
  ⟨some 44, .fa 52 (.t 43) 1, none⟩,
  ⟨some 45, .ld 9 (.t 44), none⟩,
  ⟨some 46, .call (.f 29) [(.t 45)], none⟩,
  ⟨some 40, .mv (.t 46), none⟩,
  ⟨some 47, .ex (.t 40) 0, none⟩,
  ⟨some 48, .ex (.t 40) 1, none⟩,
  ⟨some 4, .asg (.t 47), none⟩,
  ⟨some 5, .asg (.t 48), none⟩] (some [0, 3, 5])) c33_33
def c33_40 : SC := .reg [⟨some 13, .mv (.t 3), none⟩,
  ⟨some 14, .bn .add 3 (.t 13) (.c (.int .i64 1)), none⟩,
  ⟨some 3, .asg (.t 14), none⟩] (some [0, 3])
def c33_21 : SC := .seq (.block 1 (.seq (.seq (.drw [⟨some 15, .mv (.t 0), none⟩,
  ⟨some 16, .mv (.t 3), none⟩,
  ⟨some 17, .ia 30 (.t 15) (.t 16), none⟩,
  ⟨some 18, .fa 52 (.t 17) 0, none⟩,
  ⟨some 19, .ld 9 (.t 18), none⟩,
  ⟨some 20, .call (.f 53) [(.t 19)], none⟩,
  ⟨some 21, .un .not (.t 20), none⟩,
  ⟨some 22, .mv (.t 21), none⟩,
  ⟨some 23, .mv (.t 3), some (22, false)⟩,
  ⟨some 24, .bn .gtr 3 (.t 23) (.c (.int .i64 0)), some (22, false)⟩,
  ⟨some 25, .mv (.t 24), some (22, false)⟩,
  ⟨some 26, .mv (.t 0), some (25, true)⟩,
  ⟨some 27, .mv (.t 3), some (25, true)⟩,
  ⟨some 28, .bn .sub 3 (.t 27) (.c (.int .i64 1)), some (25, true)⟩,
  ⟨some 29, .ia 30 (.t 26) (.t 28), some (25, true)⟩,
  ⟨some 30, .fa 52 (.t 29) 0, some (25, true)⟩,
  ⟨some 31, .ld 9 (.t 30), some (25, true)⟩,
  ⟨some 32, .mv (.t 0), some (25, true)⟩,
  ⟨some 33, .mv (.t 3), some (25, true)⟩,
  ⟨some 34, .ia 30 (.t 32) (.t 33), some (25, true)⟩,
  ⟨some 35, .fa 52 (.t 34) 0, some (25, true)⟩,
  ⟨some 36, .ld 9 (.t 35), some (25, true)⟩,
  ⟨some 37, .bn .geq 9 (.t 31) (.t 36), some (25, true)⟩,
  ⟨some 38, .pick (.t 25) (.t 37) (.c (.bool false)), some (22, false)⟩,
  ⟨some 39, .pick (.t 22) (.c (.bool true)) (.t 38), none⟩] [[], [], [0, 1], [2], [3], [4], [5], [6, 5], [7], [8, 7], [9, 7, 7], [10], [10], [12, 10], [11, 13, 10], [14, 10], [15, 10], [10], [10], [17, 18, 10], [19, 10], [20, 10], [16, 21, 10], [10, 22, 7], [7, 23]] (some [0, 3, 39])) c33_26) c33_31)) c33_40
def c33_15 : SC := .seq (.seq (.reg [⟨some 9, .mv (.t 3), none⟩,
  ⟨some 10, .mv (.t 0), none⟩,
  ⟨some 11, .len 30 (.t 10), none⟩,
  ⟨some 12, .bn .lss 3 (.t 9) (.t 11), none⟩] (some [0, 3, 12])) c33_18) c33_21
def c33_13 : SC := .block 0 (.loop c33_15)
def c33_41 : SC := .seq (.reg [⟨some 2, .asg (.c (.bool true)), none⟩] (some [2])) .ret
def c33_10 : SC := .seq (.seq (.reg [⟨some 3, .asg (.c (.int .i64 0)), none⟩] (some [0, 3])) c33_13) c33_41
def c33_2 : SC := .seq (.seq (.reg [⟨some 6, .mv (.t 0), none⟩,
  ⟨some 7, .len 30 (.t 6), none⟩,
  ⟨some 8, .bn .gtr 3 (.t 7) (.c (.int .i64 16)), none⟩] (some [0, 8])) c33_5) c33_10
/-- loop.example/g01075/spec.l32Items -/
def c33 : SC := .seq (.reg [⟨some 2, .asg (.c (.bool false)), none⟩] (some [0])) c33_2
theorem s33 : slimC ⟨51, [0]⟩ (Try.f33.body.getD .skip) = some c33.strip := by kernel_rfl

def c18_6 : SC := .seq (.reg [⟨some 4, .asg (.c (.str [])), none⟩,
  ⟨some 5, .asg (.c (.int .i64 1)), none⟩] (some [4, 5])) .ret
def c18_5 : SC := .cond (.t 9) c18_6 .skip
def c18_18 : SC := .cond (.t 13) .skip (.exit 0)
def c18_26 : SC := .seq (.reg [⟨some 23, .mv (.t 0), none⟩,
  ⟨some 24, .mv (.t 6), none⟩,
  ⟨some 25, .ia 30 (.t 23) (.t 24), none⟩,
  ⟨some 26, .fa 52 (.t 25) 1, none⟩,
  ⟨some 27, .ld 9 (.t 26), none⟩,
  ⟨some 4, .asg (.t 27), none⟩,
  ⟨some 5, .asg (.c (.int .i64 0)), none⟩] (some [4, 5])) .ret
def c18_25 : SC := .cond (.t 22) c18_26 .skip
def c18_30 : SC := .reg [⟨some 14, .mv (.t 6), none⟩,
  ⟨some 15, .bn .add 3 (.t 14) (.c (.int .i64 1)), none⟩,
  ⟨some 6, .asg (.t 15), none⟩] (some [0, 1, 6])
def c18_21 : SC := .seq (.block 1 (.seq (.reg [⟨some 16, .mv (.t 0), none⟩,
  ⟨some 17, .mv (.t 6), none⟩,
  ⟨some 18, .ia 30 (.t 16) (.t 17), none⟩,
  ⟨some 19, .fa 52 (.t 18) 0, none⟩,
  ⟨some 20, .ld 9 (.t 19), none⟩,
  ⟨some 21, .mv (.t 1), none⟩,
  ⟨some 22, .bn .eql 9 (.t 20) (.t 21), none⟩] (some [0, 1, 6, 22])) c18_25)) c18_30
def c18_15 : SC := .seq (.seq (.reg [⟨some 10, .mv (.t 6), none⟩,
  ⟨some 11, .mv (.t 0), none⟩,
  ⟨some 12, .len 30 (.t 11), none⟩,
  ⟨some 13, .bn .lss 3 (.t 10) (.t 12), none⟩] (some [0, 1, 6, 13])) c18_18) c18_21
def c18_13 : SC := .block 0 (.loop c18_15)
def c18_31 : SC := .seq (.reg [⟨some 4, .asg (.c (.str [])), none⟩,
  ⟨some 5, .asg (.c (.int .i64 3)), none⟩] (some [4, 5])) .ret
def c18_10 : SC := .seq (.seq (.reg [⟨some 6, .asg (.c (.int .i64 0)), none⟩] (some [0, 1, 6])) c18_13) c18_31
def c18_2 : SC := .seq (.seq (.reg [⟨some 7, .mv (.t 0), none⟩,
  ⟨some 8, .call (.f 33) [(.t 7)], none⟩,
  ⟨some 9, .un .not (.t 8), none⟩] (some [0, 1, 9])) c18_5) c18_10
/-- loop.example/g01075/spec.FindItem -/
def c18 : SC := .seq (.reg [⟨some 4, .asg (.c (.str [])), none⟩,
  ⟨some 5, .asg (.c (.int .i64 0)), none⟩] (some [0, 1])) c18_2
theorem s18 : slimC ⟨28, [0, 1]⟩ (Try.f18.body.getD .skip) = some c18.strip := by kernel_rfl

def c54_2 : SC := .seq (.reg [⟨some 3, .mv (.t 0), none⟩,
  ⟨some 4, .bn .geq 5 (.t 3) (.c (.int .u8 48)), none⟩,
  ⟨some 5, .mv (.t 4), none⟩,
  ⟨some 6, .mv (.t 0), some (5, true)⟩,
  ⟨some 7, .bn .leq 5 (.t 6) (.c (.int .u8 57)), some (5, true)⟩,
  ⟨some 8, .pick (.t 5) (.t 7) (.c (.bool false)), none⟩,
  ⟨some 2, .asg (.t 8), none⟩] (some [2])) .ret
/-- loop.example/g01075/impl.isDigit -/
def c54 : SC := .seq (.reg [⟨some 2, .asg (.c (.bool false)), none⟩] (some [0])) c54_2
theorem s54 : slimC ⟨9, [0]⟩ (Try.f54.body.getD .skip) = some c54.strip := by kernel_rfl

def c35_22 : SC := .seq (.reg [⟨some 2, .asg (.c (.bool false)), none⟩] (some [2])) .ret
def c35_21 : SC := .cond (.t 32) c35_22 .skip
def c35_19 : SC := .seq (.reg [⟨some 20, .mv (.t 4), none⟩,
  ⟨some 21, .un .not (.t 20), none⟩,
  ⟨some 22, .mv (.t 21), none⟩,
  ⟨some 23, .mv (.t 3), some (22, true)⟩,
  ⟨some 24, .bn .eql 3 (.t 23) (.c (.int .i64 0)), some (22, true)⟩,
  ⟨some 25, .mv (.t 24), some (22, true)⟩,
  ⟨some 26, .mv (.t 0), some (25, false)⟩,
  ⟨some 27, .mv (.t 3), some (25, false)⟩,
  ⟨some 28, .idx 9 (.t 26) (.t 27), some (25, false)⟩,
  ⟨some 29, .call (.f 54) [(.t 28)], some (25, false)⟩,
  ⟨some 30, .un .not (.t 29), some (25, false)⟩,
  ⟨some 31, .pick (.t 25) (.c (.bool true)) (.t 30), some (22, true)⟩,
  ⟨some 32, .pick (.t 22) (.t 31) (.c (.bool false)), none⟩] (some [0, 6, 7, 32])) c35_21
def c35_17 : SC := .seq (.reg [⟨some 10, .mv (.t 0), none⟩,
  ⟨some 11, .mv (.t 3), none⟩,
  ⟨some 12, .idx 9 (.t 10) (.t 11), none⟩,
  ⟨some 13, .bn .geq 5 (.t 12) (.c (.int .u8 97)), none⟩,
  ⟨some 14, .mv (.t 13), none⟩,
  ⟨some 15, .mv (.t 0), some (14, true)⟩,
  ⟨some 16, .mv (.t 3), some (14, true)⟩,
  ⟨some 17, .idx 9 (.t 15) (.t 16), some (14, true)⟩,
  ⟨some 18, .bn .leq 5 (.t 17) (.c (.int .u8 122)), some (14, true)⟩,
  ⟨some 19, .pick (.t 14) (.t 18) (.c (.bool false)), none⟩,
  ⟨some 4, .asg (.t 19), none⟩] (some [0, 3, 4, 6, 7])) c35_19
def c35_26 : SC := .reg [⟨some 33, .bn .add 3 (.t 7) (.c (.int .i64 1)), none⟩,
  ⟨some 7, .mv (.t 33), none⟩] (some [0, 6, 7])
def c35_13 : SC := .seq (.block 1 (.seq (.reg [⟨some 9, .mv (.t 7), none⟩,
  ⟨some 3, .asg (.t 9), none⟩] (some [0, 3, 6, 7])) c35_17)) c35_26
def c35_9 : SC := .seq (.cond (.t 8) .skip (.exit 0)) c35_13
def c35_7 : SC := .seq (.reg [⟨some 8, .bn .lss 3 (.t 7) (.t 6), none⟩] (some [0, 6, 7, 8])) c35_9
def c35_5 : SC := .block 0 (.loop c35_7)
def c35_27 : SC := .seq (.reg [⟨some 34, .mv (.t 0), none⟩,
  ⟨some 35, .len 9 (.t 34), none⟩,
  ⟨some 36, .bn .geq 3 (.t 35) (.c (.int .i64 1)), none⟩,
  ⟨some 37, .mv (.t 36), none⟩,
  ⟨some 38, .mv (.t 0), some (37, true)⟩,
  ⟨some 39, .len 9 (.t 38), some (37, true)⟩,
  ⟨some 40, .bn .leq 3 (.t 39) (.c (.int .i64 10)), some (37, true)⟩,
  ⟨some 41, .pick (.t 37) (.t 40) (.c (.bool false)), none⟩,
  ⟨some 2, .asg (.t 41), none⟩] (some [2])) .ret
def c35_2 : SC := .seq (.seq (.reg [⟨some 5, .mv (.t 0), none⟩,
  ⟨some 6, .len 9 (.t 5), none⟩,
  ⟨some 7, .mv (.c (.int .i64 0)), none⟩] (some [0, 6, 7])) c35_5) c35_27
/-- loop.example/g01075/impl.IsName -/
def c35 : SC := .seq (.reg [⟨some 2, .asg (.c (.bool false)), none⟩] (some [0])) c35_2
theorem s35 : slimC ⟨42, [0]⟩ (Try.f35.body.getD .skip) = some c35.strip := by kernel_rfl

def c31_2 : SC := .seq (.reg [⟨some 7, .mv (.t 0), none⟩,
  ⟨some 8, .mv (.t 1), none⟩,
  ⟨some 9, .bn .geq 2 (.t 7) (.t 8), none⟩,
  ⟨some 10, .mv (.t 9), none⟩,
  ⟨some 11, .mv (.t 0), some (10, true)⟩,
  ⟨some 12, .mv (.t 2), some (10, true)⟩,
  ⟨some 13, .bn .leq 2 (.t 11) (.t 12), some (10, true)⟩,
  ⟨some 14, .pick (.t 10) (.t 13) (.c (.bool false)), none⟩,
  ⟨some 6, .asg (.t 14), none⟩] (some [6])) .ret
/-- loop.example/g01075/impl.within -/
def c31 : SC := .seq (.reg [⟨some 6, .asg (.c (.bool false)), none⟩] (some [0, 1, 2])) c31_2
theorem s31 : slimC ⟨15, [0, 1, 2]⟩ (Try.f31.body.getD .skip) = some c31.strip := by kernel_rfl

def c30_6 : SC := .seq (.reg [⟨some 4, .asg (.c (.int .i64 0)), none⟩] (some [4])) .ret
def c30_5 : SC := .cond (.t 9) c30_6 .skip
def c30_46 : SC := .reg [⟨some 29, .mv (.t 5), none⟩,
  ⟨some 30, .bn .and 2 (.t 29) (.c (.int .i64 65535)), none⟩,
  ⟨some 31, .bn .xor 2 (.t 30) (.c (.int .i64 4129)), none⟩,
  ⟨some 5, .asg (.t 31), none⟩] (some [0, 5, 12, 13, 23])
def c30_45 : SC := .cond (.t 28) c30_46 .skip
def c30_43 : SC := .seq (.reg [⟨some 27, .mv (.t 5), none⟩,
  ⟨some 28, .bn .gtr 2 (.t 27) (.c (.int .i64 65535)), none⟩] (some [0, 5, 12, 13, 23, 28])) c30_45
def c30_48 : SC := .reg [⟨some 32, .bn .add 3 (.t 23) (.c (.int .i64 1)), none⟩,
  ⟨some 23, .mv (.t 32), none⟩] (some [0, 5, 12, 13, 23])
def c30_39 : SC := .seq (.block 3 (.seq (.reg [⟨some 25, .mv (.t 5), none⟩,
  ⟨some 26, .bn .mul 2 (.t 25) (.c (.int .i64 2)), none⟩,
  ⟨some 5, .asg (.t 26), none⟩] (some [0, 5, 12, 13, 23])) c30_43)) c30_48
def c30_35 : SC := .seq (.cond (.t 24) .skip (.exit 2)) c30_39
def c30_33 : SC := .seq (.reg [⟨some 24, .bn .lss 3 (.t 23) (.c (.int .i64 8)), none⟩] (some [0, 5, 12, 13, 23, 24])) c30_35
def c30_31 : SC := .block 2 (.loop c30_33)
def c30_29 : SC := .seq (.reg [⟨some 23, .mv (.c (.int .i64 0)), none⟩] (some [0, 5, 12, 13, 23])) c30_31
def c30_27 : SC := .seq (.reg [⟨some 16, .mv (.t 5), none⟩,
  ⟨some 17, .mv (.t 0), none⟩,
  ⟨some 18, .mv (.t 6), none⟩,
  ⟨some 19, .idx 9 (.t 17) (.t 18), none⟩,
  ⟨some 20, .cvt 5 2 (.t 19), none⟩,
  ⟨some 21, .bn .mul 2 (.t 20) (.c (.int .i64 256)), none⟩,
  ⟨some 22, .bn .xor 2 (.t 16) (.t 21), none⟩,
  ⟨some 5, .asg (.t 22), none⟩] (some [0, 5, 12, 13])) c30_29
def c30_49 : SC := .reg [⟨some 33, .bn .add 3 (.t 13) (.c (.int .i64 1)), none⟩,
  ⟨some 13, .mv (.t 33), none⟩] (some [0, 5, 12, 13])
def c30_23 : SC := .seq (.block 1 (.seq (.reg [⟨some 15, .mv (.t 13), none⟩,
  ⟨some 6, .asg (.t 15), none⟩] (some [0, 5, 6, 12, 13])) c30_27)) c30_49
def c30_19 : SC := .seq (.cond (.t 14) .skip (.exit 0)) c30_23
def c30_17 : SC := .seq (.reg [⟨some 14, .bn .lss 3 (.t 13) (.t 12), none⟩] (some [0, 5, 12, 13, 14])) c30_19
def c30_15 : SC := .block 0 (.loop c30_17)
def c30_50 : SC := .seq (.reg [⟨some 34, .mv (.t 5), none⟩,
  ⟨some 4, .asg (.t 34), none⟩] (some [4])) .ret
def c30_12 : SC := .seq (.seq (.reg [⟨some 11, .mv (.t 0), none⟩,
  ⟨some 12, .len 9 (.t 11), none⟩,
  ⟨some 13, .mv (.c (.int .i64 0)), none⟩] (some [0, 5, 12, 13])) c30_15) c30_50
def c30_10 : SC := .seq (.reg [⟨some 10, .mv (.t 1), none⟩,
  ⟨some 5, .asg (.t 10), none⟩] (some [0, 5])) c30_12
def c30_2 : SC := .seq (.seq (.reg [⟨some 7, .mv (.t 1), none⟩,
  ⟨some 8, .call (.f 31) [(.t 7), (.c (.int .i64 0)), (.c (.int .i64 65535))], none⟩,
  ⟨some 9, .un .not (.t 8), none⟩] (some [0, 1, 9])) c30_5) c30_10
/-- loop.example/g01075/impl.Crc16 -/
def c30 : SC := .seq (.reg [⟨some 4, .asg (.c (.int .i64 0)), none⟩] (some [0, 1])) c30_2
theorem s30 : slimC ⟨35, [0, 1]⟩ (Try.f30.body.getD .skip) = some c30.strip := by kernel_rfl

def c12_6 : SC := .seq (.reg [⟨some 2, .asg (.c (.int .i64 0)), none⟩,
  ⟨some 3, .asg (.c (.int .i64 11)), none⟩] (some [2, 3])) .ret
def c12_5 : SC := .cond (.t 9) c12_6 .skip
def c12_21 : SC := .seq (.reg [⟨some 2, .asg (.c (.int .i64 0)), none⟩,
  ⟨some 3, .asg (.c (.int .i64 10)), none⟩] (some [2, 3])) .ret
def c12_27 : SC := .seq (.reg [⟨some 2, .asg (.c (.int .i64 0)), none⟩,
  ⟨some 3, .asg (.c (.int .i64 9)), none⟩] (some [2, 3])) .ret
def c12_26 : SC := .cond (.t 37) c12_27 .skip
def c12_24 : SC := .seq (.reg [⟨some 38, .mv (.t 6), none⟩,
  ⟨some 39, .call (.f 31) [(.t 38), (.c (.int .i64 1)), (.c (.int .i64 3))], none⟩,
  ⟨some 40, .un .not (.t 39), none⟩,
  ⟨some 41, .mv (.t 40), none⟩,
  ⟨some 42, .mv (.t 0), some (41, false)⟩,
  ⟨some 43, .len 9 (.t 42), some (41, false)⟩,
  ⟨some 44, .bn .gtr 3 (.t 43) (.c (.int .i64 6000)), some (41, false)⟩,
  ⟨some 45, .pick (.t 41) (.c (.bool true)) (.t 44), none⟩,
  ⟨some 37, .asg (.t 45), none⟩] (some [6, 37])) c12_26
def c12_20 : SC := .cond (.t 20) c12_21 c12_24
def c12_31 : SC := .seq (.reg [⟨some 46, .mv (.t 6), none⟩,
  ⟨some 2, .asg (.t 46), none⟩,
  ⟨some 3, .asg (.c (.int .i64 0)), none⟩] (some [2, 3])) .ret
def c12_16 : SC := .seq (.block 0 (.seq (.drw [⟨some 21, .mv (.t 0), none⟩,
  ⟨some 22, .mv (.t 0), none⟩,
  ⟨some 23, .len 9 (.t 22), none⟩,
  ⟨some 24, .bn .sub 3 (.t 23) (.c (.int .i64 2)), none⟩,
  ⟨some 25, .idx 9 (.t 21) (.t 24), none⟩,
  ⟨some 26, .cvt 5 2 (.t 25), none⟩,
  ⟨some 27, .bn .mul 2 (.t 26) (.c (.int .i64 256)), none⟩,
  ⟨some 28, .mv (.t 0), none⟩,
  ⟨some 29, .mv (.t 0), none⟩,
  ⟨some 30, .len 9 (.t 29), none⟩,
  ⟨some 31, .bn .sub 3 (.t 30) (.c (.int .i64 1)), none⟩,
  ⟨some 32, .idx 9 (.t 28) (.t 31), none⟩,
  ⟨some 33, .cvt 5 2 (.t 32), none⟩,
  ⟨some 34, .bn .add 2 (.t 27) (.t 33), none⟩,
  ⟨some 35, .mv (.t 5), none⟩,
  ⟨some 36, .bn .neq 2 (.t 34) (.t 35), none⟩,
  ⟨some 20, .asg (.t 36), none⟩] [[], [], [1], [2], [0, 3], [4], [5], [], [], [8], [9], [7, 10], [11], [6, 12], [], [13, 14], [15]] (some [0, 6, 20])) c12_20)) c12_31
def c12_14 : SC := .seq (.reg [⟨some 17, .mv (.t 0), none⟩,
  ⟨some 18, .idx 9 (.t 17) (.c (.int .i64 0)), none⟩,
  ⟨some 19, .cvt 5 2 (.t 18), none⟩,
  ⟨some 6, .asg (.t 19), none⟩] (some [0, 5, 6])) c12_16
def c12_12 : SC := .seq (.reg [⟨some 15, .mv (.t 4), none⟩,
  ⟨some 16, .call (.f 30) [(.t 15), (.c (.int .i64 65535))], none⟩,
  ⟨some 5, .asg (.t 16), none⟩] (some [0, 5])) c12_14
def c12_10 : SC := .seq (.reg [⟨some 10, .mv (.t 0), none⟩,
  ⟨some 11, .mv (.t 0), none⟩,
  ⟨some 12, .len 9 (.t 11), none⟩,
  ⟨some 13, .bn .sub 3 (.t 12) (.c (.int .i64 2)), none⟩,
  ⟨some 14, .slc 9 (.t 10) none (some (.t 13)), none⟩,
  ⟨some 4, .asg (.t 14), none⟩] (some [0, 4])) c12_12
def c12_2 : SC := .seq (.seq (.reg [⟨some 7, .mv (.t 0), none⟩,
  ⟨some 8, .len 9 (.t 7), none⟩,
  ⟨some 9, .bn .lss 3 (.t 8) (.c (.int .i64 3)), none⟩] (some [0, 9])) c12_5) c12_10
/-- loop.example/g01075/impl.ImageKind -/
def c12 : SC := .seq (.reg [⟨some 2, .asg (.c (.int .i64 0)), none⟩,
  ⟨some 3, .asg (.c (.int .i64 0)), none⟩] (some [0])) c12_2
theorem s12 : slimC ⟨47, [0]⟩ (Try.f12.body.getD .skip) = some c12.strip := by kernel_rfl

def c36_4 : SC := .seq (.reg [⟨some 10, .mv (.t 4), none⟩,
  ⟨some 11, .bn .eql 2 (.t 10) (.c (.int .i64 0)), none⟩,
  ⟨some 2, .asg (.t 11), none⟩] (some [2])) .ret
def c36_2 : SC := .seq (.reg [⟨some 6, .mv (.t 0), none⟩,
  ⟨some 7, .call (.f 12) [(.t 6)], none⟩,
  ⟨some 5, .mv (.t 7), none⟩,
  ⟨some 8, .ex (.t 5) 0, none⟩,
  ⟨some 9, .ex (.t 5) 1, none⟩,
  ⟨some 3, .asg (.t 8), none⟩,
  ⟨some 4, .asg (.t 9), none⟩] (some [4])) c36_4
/-- loop.example/g01075/impl.isImage -/
def c36 : SC := .seq (.reg [⟨some 2, .asg (.c (.bool false)), none⟩] (some [0])) c36_2
theorem s36 : slimC ⟨12, [0]⟩ (Try.f36.body.getD .skip) = some c36.strip := by kernel_rfl

def c16_20 : SC := .seq (.reg [⟨some 2, .asg (.c (.bool false)), none⟩] (some [2])) .ret
def c16_19 : SC := .cond (.t 36) c16_20 .skip
def c16_17 : SC := .seq (.drw [⟨some 12, .fa 52 (.t 4) 0, none⟩,
  ⟨some 13, .ld 9 (.t 12), none⟩,
  ⟨some 14, .call (.f 35) [(.t 13)], none⟩,
  ⟨some 15, .un .not (.t 14), none⟩,
  ⟨some 16, .mv (.t 15), none⟩,
  ⟨some 17, .fa 52 (.t 4) 1, some (16, false)⟩,
  ⟨some 18, .ld 9 (.t 17), some (16, false)⟩,
  ⟨some 19, .call (.f 36) [(.t 18)], some (16, false)⟩,
  ⟨some 20, .un .not (.t 19), some (16, false)⟩,
  ⟨some 21, .pick (.t 16) (.c (.bool true)) (.t 20), none⟩,
  ⟨some 22, .mv (.t 21), none⟩,
  ⟨some 23, .mv (.t 3), some (22, false)⟩,
  ⟨some 24, .bn .gtr 3 (.t 23) (.c (.int .i64 0)), some (22, false)⟩,
  ⟨some 25, .mv (.t 24), some (22, false)⟩,
  ⟨some 26, .fa 52 (.t 4) 0, some (25, true)⟩,
  ⟨some 27, .ld 9 (.t 26), some (25, true)⟩,
  ⟨some 28, .mv (.t 0), some (25, true)⟩,
  ⟨some 29, .mv (.t 3), some (25, true)⟩,
  ⟨some 30, .bn .sub 3 (.t 29) (.c (.int .i64 1)), some (25, true)⟩,
  ⟨some 31, .ia 30 (.t 28) (.t 30), some (25, true)⟩,
  ⟨some 32, .fa 52 (.t 31) 0, some (25, true)⟩,
  ⟨some 33, .ld 9 (.t 32), some (25, true)⟩,
  ⟨some 34, .bn .leq 9 (.t 27) (.t 33), some (25, true)⟩,
  ⟨some 35, .pick (.t 25) (.t 34) (.c (.bool false)), some (22, false)⟩,
  ⟨some 36, .pick (.t 22) (.c (.bool true)) (.t 35), none⟩] [[], [0], [1], [2], [3, 2], [4], [5, 4], [6, 4, 4], [7, 4], [4, 8], [9, 7], [10], [11, 10], [12, 10, 10], [13], [14, 13], [13], [13], [17, 13], [16, 18, 13], [19, 13], [20, 13], [15, 21, 13], [13, 22, 10], [10, 23]] (some [0, 5, 6, 7, 36])) c16_19
def c16_24 : SC := .reg [⟨some 37, .bn .add 3 (.t 7) (.c (.int .i64 1)), none⟩,
  ⟨some 7, .mv (.t 37), none⟩] (some [0, 5, 6, 7])
def c16_13 : SC := .seq (.block 1 (.seq (.reg [⟨some 9, .mv (.t 7), none⟩,
  ⟨some 10, .ia 30 (.t 5) (.t 7), none⟩,
  ⟨some 11, .ld 52 (.t 10), none⟩,
  ⟨some 4, .alc 52, none⟩,
  ⟨some 3, .asg (.t 9), none⟩,
  ⟨none, .sto 52 (.t 4) (.t 11), none⟩] (some [0, 3, 4, 5, 6, 7])) c16_17)) c16_24
def c16_9 : SC := .seq (.cond (.t 8) .skip (.exit 0)) c16_13
def c16_7 : SC := .seq (.reg [⟨some 8, .bn .lss 3 (.t 7) (.t 6), none⟩] (some [0, 5, 6, 7, 8])) c16_9
def c16_5 : SC := .block 0 (.loop c16_7)
def c16_25 : SC := .seq (.reg [⟨some 38, .mv (.t 0), none⟩,
  ⟨some 39, .len 30 (.t 38), none⟩,
  ⟨some 40, .bn .leq 3 (.t 39) (.c (.int .i64 16)), none⟩,
  ⟨some 2, .asg (.t 40), none⟩] (some [2])) .ret
def c16_2 : SC := .seq (.seq (.reg [⟨some 5, .mv (.t 0), none⟩,
  ⟨some 6, .len 30 (.t 5), none⟩,
  ⟨some 7, .mv (.c (.int .i64 0)), none⟩] (some [0, 5, 6, 7])) c16_5) c16_25
/-- loop.example/g01075/impl.ValidItems -/
def c16 : SC := .seq (.reg [⟨some 2, .asg (.c (.bool false)), none⟩] (some [0])) c16_2
theorem s16 : slimC ⟨41, [0]⟩ (Try.f16.body.getD .skip) = some c16.strip := by kernel_rfl



def c72_2 : SC := .seq (.reg [⟨some 5, .mv (.t 0), none⟩,
  ⟨some 6, .mv (.t 1), none⟩,
  ⟨some 7, .call (.f 77) [(.t 5), (.t 6)], none⟩,
  ⟨some 4, .asg (.t 7), none⟩] (some [4])) .ret
/-- internal/bytealg.CompareString -/
def c72 : SC := .seq (.reg [⟨some 4, .asg (.c (.int .i64 0)), none⟩] (some [0, 1])) c72_2
theorem s72 : slimC ⟨8, [0, 1]⟩ (Try.f72.body.getD .skip) = some c72.strip := by kernel_rfl

def c55_2 : SC := .seq (.reg [⟨some 5, .mv (.t 0), none⟩,
  ⟨some 6, .mv (.t 1), none⟩,
  ⟨some 7, .call (.f 72) [(.t 5), (.t 6)], none⟩,
  ⟨some 4, .asg (.t 7), none⟩] (some [4])) .ret
/-- strings.Compare -/
def c55 : SC := .seq (.reg [⟨some 4, .asg (.c (.int .i64 0)), none⟩] (some [0, 1])) c55_2
theorem s55 : slimC ⟨8, [0, 1]⟩ (Try.f55.body.getD .skip) = some c55.strip := by kernel_rfl

def c39_2 : SC := .seq (.reg [⟨some 5, .fa 52 (.t 2) 0, none⟩,
  ⟨some 6, .ld 9 (.t 5), none⟩,
  ⟨some 7, .mv (.t 1), none⟩,
  ⟨some 8, .call (.f 55) [(.t 6), (.t 7)], none⟩,
  ⟨some 4, .asg (.t 8), none⟩] (some [4])) .ret
/-- loop.example/g01075/impl.compareItems -/
def c39 : SC := .seq (.reg [⟨some 2, .bx 52 (.t 0), none⟩,
  ⟨some 4, .asg (.c (.int .i64 0)), none⟩] (some [1, 2])) c39_2
theorem s39 : slimC ⟨9, [0, 1]⟩ (Try.f39.body.getD .skip) = some c39.strip := by kernel_rfl

def c38_12 : SC := .cond (.t 17) .skip (.exit 0)
def c38_21 : SC := .reg [⟨some 32, .mv (.t 11), none⟩,
  ⟨some 33, .bn .add 3 (.t 32) (.c (.int .i64 1)), none⟩,
  ⟨some 9, .asg (.t 33), none⟩] (some [0, 1, 2, 8, 9, 10])
def c38_22 : SC := .reg [⟨some 34, .mv (.t 11), none⟩,
  ⟨some 10, .asg (.t 34), none⟩] (some [0, 1, 2, 8, 9, 10])
def c38_20 : SC := .cond (.t 31) c38_21 c38_22
def c38_18 : SC := .seq (.reg [⟨some 24, .mv (.t 2), none⟩,
  ⟨some 25, .mv (.t 0), none⟩,
  ⟨some 26, .mv (.t 11), none⟩,
  ⟨some 27, .ia 30 (.t 25) (.t 26), none⟩,
  ⟨some 28, .ld 52 (.t 27), none⟩,
  ⟨some 29, .mv (.t 1), none⟩,
  ⟨some 30, .call (.t 24) [(.t 28), (.t 29)], none⟩,
  ⟨some 31, .bn .lss 3 (.t 30) (.c (.int .i64 0)), none⟩] (some [0, 1, 2, 8, 9, 10, 11, 31])) c38_20
def c38_15 : SC := .block 1 (.seq (.reg [⟨some 18, .mv (.t 9), none⟩,
  ⟨some 19, .mv (.t 10), none⟩,
  ⟨some 20, .bn .add 3 (.t 18) (.t 19), none⟩,
  ⟨some 21, .cvt 3 81 (.t 20), none⟩,
  ⟨some 22, .bn .shr 81 (.t 21) (.c (.int .u64 1)), none⟩,
  ⟨some 23, .cvt 81 3 (.t 22), none⟩,
  ⟨some 11, .asg (.t 23), none⟩] (some [0, 1, 2, 8, 9, 10, 11])) c38_18)
def c38_9 : SC := .seq (.seq (.reg [⟨some 15, .mv (.t 9), none⟩,
  ⟨some 16, .mv (.t 10), none⟩,
  ⟨some 17, .bn .lss 3 (.t 15) (.t 16), none⟩] (some [0, 1, 2, 8, 9, 10, 17])) c38_12) c38_15
def c38_23 : SC := .seq (.reg [⟨some 35, .mv (.t 9), none⟩,
  ⟨some 36, .mv (.t 9), none⟩,
  ⟨some 37, .mv (.t 8), none⟩,
  ⟨some 38, .bn .lss 3 (.t 36) (.t 37), none⟩,
  ⟨some 39, .mv (.t 38), none⟩,
  ⟨some 40, .mv (.t 2), some (39, true)⟩,
  ⟨some 41, .mv (.t 0), some (39, true)⟩,
  ⟨some 42, .mv (.t 9), some (39, true)⟩,
  ⟨some 43, .ia 30 (.t 41) (.t 42), some (39, true)⟩,
  ⟨some 44, .ld 52 (.t 43), some (39, true)⟩,
  ⟨some 45, .mv (.t 1), some (39, true)⟩,
  ⟨some 46, .call (.t 40) [(.t 44), (.t 45)], some (39, true)⟩,
  ⟨some 47, .bn .eql 3 (.t 46) (.c (.int .i64 0)), some (39, true)⟩,
  ⟨some 48, .pick (.t 39) (.t 47) (.c (.bool false)), none⟩,
  ⟨some 6, .asg (.t 35), none⟩,
  ⟨some 7, .asg (.t 48), none⟩] (some [6, 7])) .ret
def c38_6 : SC := .seq (.block 0 (.loop c38_9)) c38_23
def c38_4 : SC := .seq (.reg [⟨some 14, .mv (.t 8), none⟩,
  ⟨some 9, .asg (.c (.int .i64 0)), none⟩,
  ⟨some 10, .asg (.t 14), none⟩] (some [0, 1, 2, 8, 9, 10])) c38_6
def c38_2 : SC := .seq (.reg [⟨some 12, .mv (.t 0), none⟩,
  ⟨some 13, .len 30 (.t 12), none⟩,
  ⟨some 8, .asg (.t 13), none⟩] (some [0, 1, 2, 8])) c38_4
/-- slices.BinarySearchFunc[[]loop.example/g01075/impl.Item,loop.example/g01075/impl.Item,string] -/
def c38 : SC := .seq (.reg [⟨some 6, .asg (.c (.int .i64 0)), none⟩,
  ⟨some 7, .asg (.c (.bool false)), none⟩] (some [0, 1, 2])) c38_2
theorem s38 : slimC ⟨49, [0, 1, 2]⟩ (Try.f38.body.getD .skip) = some c38.strip := by kernel_rfl

def c19_6 : SC := .seq (.reg [⟨some 4, .asg (.c (.str [])), none⟩,
  ⟨some 5, .asg (.c (.int .i64 1)), none⟩] (some [4, 5])) .ret
def c19_5 : SC := .cond (.t 10) c19_6 .skip
def c19_16 : SC := .seq (.reg [⟨some 4, .asg (.c (.str [])), none⟩,
  ⟨some 5, .asg (.c (.int .i64 3)), none⟩] (some [4, 5])) .ret
def c19_15 : SC := .cond (.t 18) c19_16 .skip
def c19_20 : SC := .seq (.reg [⟨some 19, .mv (.t 0), none⟩,
  ⟨some 20, .mv (.t 6), none⟩,
  ⟨some 21, .ia 30 (.t 19) (.t 20), none⟩,
  ⟨some 22, .fa 52 (.t 21) 1, none⟩,
  ⟨some 23, .ld 9 (.t 22), none⟩,
  ⟨some 4, .asg (.t 23), none⟩,
  ⟨some 5, .asg (.c (.int .i64 0)), none⟩] (some [4, 5])) .ret
def c19_12 : SC := .seq (.seq (.reg [⟨some 17, .mv (.t 7), none⟩,
  ⟨some 18, .un .not (.t 17), none⟩] (some [0, 6, 18])) c19_15) c19_20
def c19_10 : SC := .seq (.reg [⟨some 12, .mv (.t 0), none⟩,
  ⟨some 13, .mv (.t 1), none⟩,
  ⟨some 14, .call (.f 38) [(.t 12), (.t 13), (.f 39)], none⟩,
  ⟨some 11, .mv (.t 14), none⟩,
  ⟨some 15, .ex (.t 11) 0, none⟩,
  ⟨some 16, .ex (.t 11) 1, none⟩,
  ⟨some 6, .asg (.t 15), none⟩,
  ⟨some 7, .asg (.t 16), none⟩] (some [0, 6, 7])) c19_12
def c19_2 : SC := .seq (.seq (.reg [⟨some 8, .mv (.t 0), none⟩,
  ⟨some 9, .call (.f 16) [(.t 8)], none⟩,
  ⟨some 10, .un .not (.t 9), none⟩] (some [0, 1, 10])) c19_5) c19_10
/-- loop.example/g01075/impl.FindItem -/
def c19 : SC := .seq (.reg [⟨some 4, .asg (.c (.str [])), none⟩,
  ⟨some 5, .asg (.c (.int .i64 0)), none⟩] (some [0, 1])) c19_2
theorem s19 : slimC ⟨24, [0, 1]⟩ (Try.f19.body.getD .skip) = some c19.strip := by kernel_rfl

def c37_6 : SC := .seq (.reg [⟨some 4, .asg (.c (.bool false)), none⟩] (some [4])) .ret
def c37_5 : SC := .cond (.t 9) c37_6 .skip
def c37_14 : SC := .seq (.reg [⟨some 4, .asg (.c (.bool false)), none⟩] (some [4])) .ret
def c37_13 : SC := .cond (.t 14) c37_14 .skip
def c37_18 : SC := .seq (.reg [⟨some 4, .asg (.c (.bool true)), none⟩] (some [4])) .ret
def c37_10 : SC := .seq (.seq (.reg [⟨some 10, .fa 52 (.t 2) 1, none⟩,
  ⟨some 11, .ld 9 (.t 10), none⟩,
  ⟨some 12, .fa 52 (.t 3) 1, none⟩,
  ⟨some 13, .ld 9 (.t 12), none⟩,
  ⟨some 14, .bn .neq 9 (.t 11) (.t 13), none⟩] (some [14])) c37_13) c37_18
def c37_2 : SC := .seq (.seq (.reg [⟨some 5, .fa 52 (.t 2) 0, none⟩,
  ⟨some 6, .ld 9 (.t 5), none⟩,
  ⟨some 7, .fa 52 (.t 3) 0, none⟩,
  ⟨some 8, .ld 9 (.t 7), none⟩,
  ⟨some 9, .bn .neq 9 (.t 6) (.t 8), none⟩] (some [2, 3, 9])) c37_5) c37_10
/-- loop.example/g01075/laws.eqItem -/
def c37 : SC := .seq (.reg [⟨some 2, .bx 52 (.t 0), none⟩,
  ⟨some 3, .bx 52 (.t 1), none⟩,
  ⟨some 4, .asg (.c (.bool false)), none⟩] (some [2, 3])) c37_2
theorem s37 : slimC ⟨15, [0, 1]⟩ (Try.f37.body.getD .skip) = some c37.strip := by kernel_rfl

def c17_6 : SC := .seq (.reg [⟨some 4, .asg (.c (.bool false)), none⟩] (some [4])) .ret
def c17_5 : SC := .cond (.t 10) c17_6 .skip
def c17_18 : SC := .cond (.t 14) .skip (.exit 0)
def c17_26 : SC := .seq (.reg [⟨some 4, .asg (.c (.bool false)), none⟩] (some [4])) .ret
def c17_25 : SC := .cond (.t 26) c17_26 .skip
def c17_30 : SC := .reg [⟨some 15, .mv (.t 5), none⟩,
  ⟨some 16, .bn .add 3 (.t 15) (.c (.int .i64 1)), none⟩,
  ⟨some 5, .asg (.t 16), none⟩] (some [0, 1, 5])
def c17_21 : SC := .seq (.block 1 (.seq (.drw [⟨some 17, .mv (.t 0), none⟩,
  ⟨some 18, .mv (.t 5), none⟩,
  ⟨some 19, .ia 30 (.t 17) (.t 18), none⟩,
  ⟨some 20, .ld 52 (.t 19), none⟩,
  ⟨some 21, .mv (.t 1), none⟩,
  ⟨some 22, .mv (.t 5), none⟩,
  ⟨some 23, .ia 30 (.t 21) (.t 22), none⟩,
  ⟨some 24, .ld 52 (.t 23), none⟩,
  ⟨some 25, .call (.f 37) [(.t 20), (.t 24)], none⟩,
  ⟨some 26, .un .not (.t 25), none⟩] [[], [], [0, 1], [2], [], [], [4, 5], [6], [3, 7], [8]] (some [0, 1, 5, 26])) c17_25)) c17_30
def c17_15 : SC := .seq (.seq (.reg [⟨some 11, .mv (.t 5), none⟩,
  ⟨some 12, .mv (.t 0), none⟩,
  ⟨some 13, .len 30 (.t 12), none⟩,
  ⟨some 14, .bn .lss 3 (.t 11) (.t 13), none⟩] (some [0, 1, 5, 14])) c17_18) c17_21
def c17_13 : SC := .block 0 (.loop c17_15)
def c17_31 : SC := .seq (.reg [⟨some 4, .asg (.c (.bool true)), none⟩] (some [4])) .ret
def c17_10 : SC := .seq (.seq (.reg [⟨some 5, .asg (.c (.int .i64 0)), none⟩] (some [0, 1, 5])) c17_13) c17_31
def c17_2 : SC := .seq (.seq (.reg [⟨some 6, .mv (.t 0), none⟩,
  ⟨some 7, .len 30 (.t 6), none⟩,
  ⟨some 8, .mv (.t 1), none⟩,
  ⟨some 9, .len 30 (.t 8), none⟩,
  ⟨some 10, .bn .neq 3 (.t 7) (.t 9), none⟩] (some [0, 1, 10])) c17_5) c17_10
/-- loop.example/g01075/laws.eqItemS -/
def c17 : SC := .seq (.reg [⟨some 4, .asg (.c (.bool false)), none⟩] (some [0, 1])) c17_2
theorem s17 : slimC ⟨27, [0, 1]⟩ (Try.f17.body.getD .skip) = some c17.strip := by kernel_rfl

def c6_6 : SC := .seq (.reg [⟨some 4, .asg (.c (.bool true)), none⟩] (some [4])) .ret
def c6_5 : SC := .cond (.t 13) c6_6 .skip
def c6_18 : SC := .seq (.reg [⟨some 4, .asg (.c (.bool true)), none⟩] (some [4])) .ret
def c6_17 : SC := .cond (.t 18) c6_18 .skip
def c6_32 : SC := .seq (.reg [⟨some 4, .asg (.c (.bool false)), none⟩] (some [4])) .ret
def c6_31 : SC := .cond (.t 41) c6_32 .skip
def c6_40 : SC := .seq (.reg [⟨some 4, .asg (.c (.bool false)), none⟩] (some [4])) .ret
def c6_39 : SC := .cond (.t 46) c6_40 .skip
def c6_44 : SC := .seq (.reg [⟨some 4, .asg (.c (.bool true)), none⟩] (some [4])) .ret
def c6_36 : SC := .seq (.seq (.reg [⟨some 42, .mv (.t 8), none⟩,
  ⟨some 43, .mv (.t 0), none⟩,
  ⟨some 44, .call (.f 15) [(.t 43)], none⟩,
  ⟨some 45, .call (.f 17) [(.t 42), (.t 44)], none⟩,
  ⟨some 46, .un .not (.t 45), none⟩] (some [46])) c6_39) c6_44
def c6_28 : SC := .seq (.seq (.reg [⟨some 34, .mv (.t 9), none⟩,
  ⟨some 35, .mv (.t 6), none⟩,
  ⟨some 36, .bn .neq 9 (.t 34) (.t 35), none⟩,
  ⟨some 37, .mv (.t 36), none⟩,
  ⟨some 38, .mv (.t 10), some (37, false)⟩,
  ⟨some 39, .mv (.t 7), some (37, false)⟩,
  ⟨some 40, .bn .neq 2 (.t 38) (.t 39), some (37, false)⟩,
  ⟨some 41, .pick (.t 37) (.c (.bool true)) (.t 40), none⟩] (some [0, 8, 41])) c6_31) c6_36
def c6_26 : SC := .seq (.reg [⟨some 29, .mv (.t 8), none⟩,
  ⟨some 30, .mv (.t 1), none⟩,
  ⟨some 31, .call (.f 19) [(.t 29), (.t 30)], none⟩,
  ⟨some 28, .mv (.t 31), none⟩,
  ⟨some 32, .ex (.t 28) 0, none⟩,
  ⟨some 33, .ex (.t 28) 1, none⟩,
  ⟨some 9, .asg (.t 32), none⟩,
  ⟨some 10, .asg (.t 33), none⟩] (some [0, 6, 7, 8, 9, 10])) c6_28
def c6_24 : SC := .seq (.reg [⟨some 26, .mv (.t 0), none⟩,
  ⟨some 27, .call (.f 15) [(.t 26)], none⟩,
  ⟨some 8, .asg (.t 27), none⟩] (some [0, 1, 6, 7, 8])) c6_26
def c6_22 : SC := .seq (.reg [⟨some 20, .mv (.t 0), none⟩,
  ⟨some 21, .call (.f 15) [(.t 20)], none⟩,
  ⟨some 22, .mv (.t 1), none⟩,
  ⟨some 23, .call (.f 18) [(.t 21), (.t 22)], none⟩,
  ⟨some 19, .mv (.t 23), none⟩,
  ⟨some 24, .ex (.t 19) 0, none⟩,
  ⟨some 25, .ex (.t 19) 1, none⟩,
  ⟨some 6, .asg (.t 24), none⟩,
  ⟨some 7, .asg (.t 25), none⟩] (some [0, 1, 6, 7])) c6_24
def c6_14 : SC := .seq (.seq (.reg [⟨some 17, .mv (.t 5), none⟩,
  ⟨some 18, .bn .lss 3 (.t 17) (.c (.int .i64 0)), none⟩] (some [0, 1, 18])) c6_17) c6_22
def c6_12 : SC := .seq (.reg [⟨some 14, .mv (.t 0), none⟩,
  ⟨some 15, .mv (.t 5), none⟩,
  ⟨some 16, .call (.f 13) [(.t 14), (.t 15)], none⟩,
  ⟨some 5, .asg (.t 16), none⟩] (some [0, 1, 5])) c6_14
def c6_10 : SC := .seq (.reg [⟨some 5, .asg (.c (.int .i64 1048576)), none⟩] (some [0, 1, 5])) c6_12
def c6_2 : SC := .seq (.seq (.reg [⟨some 11, .mv (.t 1), none⟩,
  ⟨some 12, .len 9 (.t 11), none⟩,
  ⟨some 13, .bn .gtr 3 (.t 12) (.c (.int .i64 1048576)), none⟩] (some [0, 1, 13])) c6_5) c6_10
/-- loop.example/g01075/laws.FnExactFindItem -/
def c6 : SC := .seq (.reg [⟨some 4, .asg (.c (.bool false)), none⟩] (some [0, 1])) c6_2
theorem s6 : slimC ⟨47, [0, 1]⟩ (Try.f6.body.getD .skip) = some c6.strip := by kernel_rfl

end Go.Proofs.Ytncnipaofaeaiaa
