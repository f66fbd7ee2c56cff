/- Part of a proof that a law returns true for every input. No condition. -/
import Derived.Test.YtobljppjkklojaaTb
import Derived.Test.YtobljppjkklojaaFwI
import Derived.Test.YtobljppjkklojaaP8
namespace Go.Proofs.Ytobljppjkklojaa
open Go Go.Fw Go.Sh
set_option linter.unusedSimpArgs false

def e_i64 (x : Int) : AV := .int .i64 x
theorem sh_e_i64 (x : Int) : (e_i64 x).share = e_i64 x := by
  simp only [e_i64, share_s]
theorem ns_e_i64 (x : Int) : (e_i64 x).nosh = true := by
  simp only [e_i64, AV.nosh, AV.noshs, Bool.and_self]
def e_impl_Equation (x : impl_Equation) : AV := .agg [.bool x.Greatest, .bool x.All, .slice (x.Terms.map e_i64)]
theorem sh_e_impl_Equation (x : impl_Equation) : (e_impl_Equation x).share = e_impl_Equation x := by
  simp only [e_impl_Equation, share_s, @shares_map _ e_i64 e_i64 (fun _ => sh_e_i64 _)]
def e_bool (x : Bool) : AV := .bool x
theorem sh_e_bool (x : Bool) : (e_bool x).share = e_bool x := by
  simp only [e_bool, share_s]
theorem ns_e_bool (x : Bool) : (e_bool x).nosh = true := by
  simp only [e_bool, AV.nosh, AV.noshs, Bool.and_self]
def e_s_i64 (x : List Int) : AV := .slice (x.map e_i64)
theorem sh_e_s_i64 (x : List Int) : (e_s_i64 x).share = e_s_i64 x := by
  simp only [e_s_i64, share_s, @shares_map _ e_i64 e_i64 (fun _ => sh_e_i64 _)]
def u_impl_Equation (x : impl_Equation) : AV := .agg [.bool x.Greatest, .bool x.All, .uslice 1 (x.Terms.map e_i64)]
theorem sh_u_impl_Equation (x : impl_Equation) : (u_impl_Equation x).share = e_impl_Equation x := by
  simp only [u_impl_Equation, e_impl_Equation, share_s, @shares_map _ e_i64 e_i64 (fun _ => sh_e_i64 _)]
theorem ns_u_impl_Equation (x : impl_Equation) : (u_impl_Equation x).nosh = true := by
  simp only [u_impl_Equation, AV.nosh, AV.noshs, Bool.and_self, @noshs_map _ e_i64 (fun _ => ns_e_i64 _)]
def u_s_i64 (x : List Int) : AV := .uslice 1 (x.map e_i64)
theorem sh_u_s_i64 (x : List Int) : (u_s_i64 x).share = e_s_i64 x := by
  simp only [u_s_i64, e_s_i64, share_s, @shares_map _ e_i64 e_i64 (fun _ => sh_e_i64 _)]
theorem ns_u_s_i64 (x : List Int) : (u_s_i64 x).nosh = true := by
  simp only [u_s_i64, AV.nosh, AV.noshs, Bool.and_self, @noshs_map _ e_i64 (fun _ => ns_e_i64 _)]

def c210_10 : SC := .cond (.t 10) .skip (.exit 0)
def c210_24 : SC := .cond (.t 21) .skip (.exit 2)
def c210_34 : SC := .reg [⟨some 28, .mv (.t 1), none⟩,
  ⟨some 29, .bn .and 2 (.t 28) (.c (.int .i64 65535)), none⟩,
  ⟨some 30, .bn .xor 2 (.t 29) (.c (.int .i64 4129)), none⟩,
  ⟨some 1, .asg (.t 30), none⟩] (some [0, 1, 5, 6])
def c210_33 : SC := .cond (.t 27) c210_34 .skip
def c210_31 : SC := .seq (.reg [⟨some 26, .mv (.t 1), none⟩,
  ⟨some 27, .bn .gtr 2 (.t 26) (.c (.int .i64 65535)), none⟩] (some [0, 1, 5, 6, 27])) c210_33
def c210_36 : SC := .reg [⟨some 22, .mv (.t 6), none⟩,
  ⟨some 23, .bn .add 3 (.t 22) (.c (.int .i64 1)), none⟩,
  ⟨some 6, .asg (.t 23), none⟩] (some [0, 1, 5, 6])
def c210_27 : SC := .seq (.block 3 (.seq (.reg [⟨some 24, .mv (.t 1), none⟩,
  ⟨some 25, .bn .shl 2 (.t 24) (.c (.int .u64 1)), none⟩,
  ⟨some 1, .asg (.t 25), none⟩] (some [0, 1, 5, 6])) c210_31)) c210_36
def c210_21 : SC := .seq (.seq (.reg [⟨some 20, .mv (.t 6), none⟩,
  ⟨some 21, .bn .lss 3 (.t 20) (.c (.int .i64 8)), none⟩] (some [0, 1, 5, 6, 21])) c210_24) c210_27
def c210_19 : SC := .block 2 (.loop c210_21)
def c210_17 : SC := .seq (.reg [⟨some 6, .asg (.c (.int .i64 0)), none⟩] (some [0, 1, 5, 6])) c210_19
def c210_37 : SC := .reg [⟨some 11, .mv (.t 5), none⟩,
  ⟨some 12, .bn .add 3 (.t 11) (.c (.int .i64 1)), none⟩,
  ⟨some 5, .asg (.t 12), none⟩] (some [0, 1, 5])
def c210_13 : SC := .seq (.block 1 (.seq (.reg [⟨some 13, .mv (.t 1), none⟩,
  ⟨some 14, .mv (.t 0), none⟩,
  ⟨some 15, .mv (.t 5), none⟩,
  ⟨some 16, .idx 9 (.t 14) (.t 15), none⟩,
  ⟨some 17, .cvt 5 2 (.t 16), none⟩,
  ⟨some 18, .bn .shl 2 (.t 17) (.c (.int .u64 8)), none⟩,
  ⟨some 19, .bn .xor 2 (.t 13) (.t 18), none⟩,
  ⟨some 1, .asg (.t 19), none⟩] (some [0, 1, 5])) c210_17)) c210_37
def c210_7 : SC := .seq (.seq (.reg [⟨some 7, .mv (.t 5), none⟩,
  ⟨some 8, .mv (.t 0), none⟩,
  ⟨some 9, .len 9 (.t 8), none⟩,
  ⟨some 10, .bn .lss 3 (.t 7) (.t 9), none⟩] (some [0, 1, 5, 10])) c210_10) c210_13
def c210_5 : SC := .block 0 (.loop c210_7)
def c210_38 : SC := .seq (.reg [⟨some 31, .mv (.t 1), none⟩,
  ⟨some 4, .asg (.t 31), none⟩] (some [4])) .ret
def c210_2 : SC := .seq (.seq (.reg [⟨some 5, .asg (.c (.int .i64 0)), none⟩] (some [0, 1, 5])) c210_5) c210_38
/-- loop.example/g01075/spec.l01Crc -/
def c210 : SC := .seq (.reg [⟨some 4, .asg (.c (.int .i64 0)), none⟩] (some [0, 1])) c210_2
theorem s210 : slimC ⟨32, [0]⟩ (Try.f210.body.getD .skip) = some c210.strip := by kernel_rfl

def c130_2 : SC := .seq (.reg [⟨some 7, .mv (.t 0), none⟩,
  ⟨some 8, .mv (.t 1), none⟩,
  ⟨some 9, .bn .geq 2 (.t 7) (.t 8), none⟩,
  ⟨some 10, .mv (.t 9), none⟩,
  ⟨some 11, .mv (.t 0), some (10, true)⟩,
  ⟨some 12, .mv (.t 2), some (10, true)⟩,
  ⟨some 13, .bn .leq 2 (.t 11) (.t 12), some (10, true)⟩,
  ⟨some 14, .pick (.t 10) (.t 13) (.c (.bool false)), none⟩,
  ⟨some 6, .asg (.t 14), none⟩] (some [6])) .ret
/-- loop.example/g01075/spec.l00In -/
def c130 : SC := .seq (.reg [⟨some 6, .asg (.c (.bool false)), none⟩] (some [0, 1, 2])) c130_2
theorem s130 : slimC ⟨15, [0, 1, 2]⟩ (Try.f130.body.getD .skip) = some c130.strip := by kernel_rfl

def c125_8 : SC := .seq (.reg [⟨some 2, .asg (.c (.int .i64 0)), none⟩,
  ⟨some 3, .asg (.c (.int .i64 11)), none⟩] (some [2, 3])) .ret
def c125_7 : SC := .cond (.t 9) c125_8 .skip
def c125_16 : SC := .seq (.reg [⟨some 2, .asg (.c (.int .i64 0)), none⟩,
  ⟨some 3, .asg (.c (.int .i64 10)), none⟩] (some [2, 3])) .ret
def c125_15 : SC := .cond (.t 27) c125_16 .skip
def c125_26 : SC := .seq (.reg [⟨some 2, .asg (.c (.int .i64 0)), none⟩,
  ⟨some 3, .asg (.c (.int .i64 9)), none⟩] (some [2, 3])) .ret
def c125_25 : SC := .cond (.t 37) c125_26 .skip
def c125_30 : SC := .seq (.reg [⟨some 38, .mv (.t 5), none⟩,
  ⟨some 2, .asg (.t 38), none⟩,
  ⟨some 3, .asg (.c (.int .i64 0)), none⟩] (some [2, 3])) .ret
def c125_22 : SC := .seq (.seq (.reg [⟨some 31, .mv (.t 5), none⟩,
  ⟨some 32, .call (.f 130) [(.t 31), (.c (.int .i64 1)), (.c (.int .i64 3))], none⟩,
  ⟨some 33, .un .not (.t 32), none⟩,
  ⟨some 34, .mv (.t 33), none⟩,
  ⟨some 35, .mv (.t 4), some (34, false)⟩,
  ⟨some 36, .bn .gtr 3 (.t 35) (.c (.int .i64 6000)), some (34, false)⟩,
  ⟨some 37, .pick (.t 34) (.c (.bool true)) (.t 36), none⟩] (some [5, 37])) c125_25) c125_30
def c125_20 : SC := .seq (.reg [⟨some 28, .mv (.t 0), none⟩,
  ⟨some 29, .idx 9 (.t 28) (.c (.int .i64 0)), none⟩,
  ⟨some 30, .cvt 5 2 (.t 29), none⟩,
  ⟨some 5, .asg (.t 30), none⟩] (some [4, 5])) c125_22
def c125_12 : SC := .seq (.seq (.drw [⟨some 10, .mv (.t 0), none⟩,
  ⟨some 11, .mv (.t 4), none⟩,
  ⟨some 12, .bn .sub 3 (.t 11) (.c (.int .i64 2)), none⟩,
  ⟨some 13, .slc 9 (.t 10) none (some (.t 12)), none⟩,
  ⟨some 14, .call (.f 210) [(.t 13), (.c (.int .i64 65535))], none⟩,
  ⟨some 15, .mv (.t 0), none⟩,
  ⟨some 16, .mv (.t 4), none⟩,
  ⟨some 17, .bn .sub 3 (.t 16) (.c (.int .i64 2)), none⟩,
  ⟨some 18, .idx 9 (.t 15) (.t 17), none⟩,
  ⟨some 19, .cvt 5 2 (.t 18), none⟩,
  ⟨some 20, .bn .mul 2 (.t 19) (.c (.int .i64 256)), none⟩,
  ⟨some 21, .mv (.t 0), none⟩,
  ⟨some 22, .mv (.t 4), none⟩,
  ⟨some 23, .bn .sub 3 (.t 22) (.c (.int .i64 1)), none⟩,
  ⟨some 24, .idx 9 (.t 21) (.t 23), none⟩,
  ⟨some 25, .cvt 5 2 (.t 24), none⟩,
  ⟨some 26, .bn .add 2 (.t 20) (.t 25), none⟩,
  ⟨some 27, .bn .neq 2 (.t 14) (.t 26), none⟩] [[], [], [1], [0, 2], [3], [], [], [6], [5, 7], [8], [9], [], [], [12], [11, 13], [14], [10, 15], [4, 16]] (some [0, 4, 27])) c125_15) c125_20
def c125_4 : SC := .seq (.seq (.reg [⟨some 8, .mv (.t 4), none⟩,
  ⟨some 9, .bn .lss 3 (.t 8) (.c (.int .i64 3)), none⟩] (some [0, 4, 9])) c125_7) c125_12
def c125_2 : SC := .seq (.reg [⟨some 6, .mv (.t 0), none⟩,
  ⟨some 7, .len 9 (.t 6), none⟩,
  ⟨some 4, .asg (.t 7), none⟩] (some [0, 4])) c125_4
/-- loop.example/g01075/spec.l32Kind -/
def c125 : SC := .seq (.reg [⟨some 2, .asg (.c (.int .i64 0)), none⟩,
  ⟨some 3, .asg (.c (.int .i64 0)), none⟩] (some [0])) c125_2
theorem s125 : slimC ⟨39, [0]⟩ (Try.f125.body.getD .skip) = some c125.strip := by kernel_rfl

def c119_8 : SC := .seq (.reg [⟨some 15, .mv (.t 7), none⟩,
  ⟨some 4, .asg (.c .nilp), none⟩,
  ⟨some 5, .asg (.t 15), none⟩] (some [4, 5])) .ret
def c119_7 : SC := .cond (.t 14) c119_8 .skip
def c119_16 : SC := .seq (.reg [⟨some 4, .asg (.c .nilp), none⟩,
  ⟨some 5, .asg (.c (.int .i64 6)), none⟩] (some [4, 5])) .ret
def c119_15 : SC := .cond (.t 18) c119_16 .skip
def c119_20 : SC := .seq (.reg [⟨some 19, .mv (.t 0), none⟩,
  ⟨some 20, .mv (.t 0), none⟩,
  ⟨some 21, .len 9 (.t 20), none⟩,
  ⟨some 22, .bn .sub 3 (.t 21) (.c (.int .i64 2)), none⟩,
  ⟨some 23, .slc 9 (.t 19) (some (.c (.int .i64 1))) (some (.t 22)), none⟩,
  ⟨some 24, .bld 155 [(0, (.t 23))], none⟩,
  ⟨some 25, .bx 155 (.t 24), none⟩,
  ⟨some 4, .asg (.t 25), none⟩,
  ⟨some 5, .asg (.c (.int .i64 0)), none⟩] (some [4, 5])) .ret
def c119_12 : SC := .seq (.seq (.reg [⟨some 16, .mv (.t 6), none⟩,
  ⟨some 17, .mv (.t 1), none⟩,
  ⟨some 18, .bn .neq 2 (.t 16) (.t 17), none⟩] (some [0, 18])) c119_15) c119_20
def c119_4 : SC := .seq (.seq (.reg [⟨some 13, .mv (.t 7), none⟩,
  ⟨some 14, .bn .neq 2 (.t 13) (.c (.int .i64 0)), none⟩] (some [0, 1, 6, 7, 14])) c119_7) c119_12
def c119_2 : SC := .seq (.reg [⟨some 9, .mv (.t 0), none⟩,
  ⟨some 10, .call (.f 125) [(.t 9)], none⟩,
  ⟨some 8, .mv (.t 10), none⟩,
  ⟨some 11, .ex (.t 8) 0, none⟩,
  ⟨some 12, .ex (.t 8) 1, none⟩,
  ⟨some 6, .asg (.t 11), none⟩,
  ⟨some 7, .asg (.t 12), none⟩] (some [0, 1, 6, 7])) c119_4
/-- loop.example/g01075/spec.l32Open -/
def c119 : SC := .seq (.reg [⟨some 4, .asg (.c .nilp), none⟩,
  ⟨some 5, .asg (.c (.int .i64 0)), none⟩] (some [0, 1])) c119_2
theorem s119 : slimC ⟨26, [0, 1]⟩ (Try.f119.body.getD .skip) = some c119.strip := by kernel_rfl

def c120_14 : SC := .cond (.t 8) .skip (.exit 0)
def c120_25 : SC := .seq (.reg [⟨some 2, .asg (.c (.int .i64 0)), none⟩] (some [0, 2])) .ret
def c120_23 : SC := .seq (.reg [⟨some 21, .mv (.t 0), none⟩,
  ⟨some 22, .nilc (.t 21), none⟩,
  ⟨some 23, .fa 155 (.t 22) 2, none⟩,
  ⟨none, .sto 4 (.t 23) (.c (.bool true)), none⟩] (some [0])) c120_25
def c120_22 : SC := .cond (.t 20) c120_23 .skip
def c120_39 : SC := .seq (.reg [⟨some 49, .mv (.t 3), none⟩,
  ⟨some 2, .asg (.t 49), none⟩] (some [0, 2])) .ret
def c120_38 : SC := .cond (.t 48) c120_39 .skip
def c120_43 : SC := .reg [⟨some 50, .mv (.t 4), none⟩,
  ⟨some 51, .bn .mul 2 (.t 50) (.c (.int .i64 128)), none⟩,
  ⟨some 4, .asg (.t 51), none⟩] (some [0, 3, 4, 5])
def c120_35 : SC := .seq (.seq (.reg [⟨some 47, .mv (.t 6), none⟩,
  ⟨some 48, .bn .lss 2 (.t 47) (.c (.int .i64 128)), none⟩] (some [0, 3, 4, 5, 48])) c120_38) c120_43
def c120_33 : SC := .seq (.reg [⟨some 41, .mv (.t 3), none⟩,
  ⟨some 42, .mv (.t 6), none⟩,
  ⟨some 43, .bn .rem 2 (.t 42) (.c (.int .i64 128)), none⟩,
  ⟨some 44, .mv (.t 4), none⟩,
  ⟨some 45, .bn .mul 2 (.t 43) (.t 44), none⟩,
  ⟨some 46, .bn .add 2 (.t 41) (.t 45), none⟩,
  ⟨some 3, .asg (.t 46), none⟩] (some [0, 3, 4, 5, 6])) c120_35
def c120_31 : SC := .seq (.reg [⟨some 34, .mv (.t 0), none⟩,
  ⟨some 35, .nilc (.t 34), none⟩,
  ⟨some 36, .fa 155 (.t 35) 1, none⟩,
  ⟨some 37, .ld 3 (.t 36), none⟩,
  ⟨some 38, .bn .add 3 (.t 37) (.c (.int .i64 1)), none⟩,
  ⟨some 39, .nilc (.t 34), none⟩,
  ⟨some 40, .fa 155 (.t 39) 1, none⟩,
  ⟨none, .sto 3 (.t 40) (.t 38), none⟩] (some [0, 3, 4, 5, 6])) c120_33
def c120_29 : SC := .seq (.drw [⟨some 24, .mv (.t 0), none⟩,
  ⟨some 25, .nilc (.t 24), none⟩,
  ⟨some 26, .fa 155 (.t 25) 0, none⟩,
  ⟨some 27, .ld 9 (.t 26), none⟩,
  ⟨some 28, .mv (.t 0), none⟩,
  ⟨some 29, .nilc (.t 28), none⟩,
  ⟨some 30, .fa 155 (.t 29) 1, none⟩,
  ⟨some 31, .ld 3 (.t 30), none⟩,
  ⟨some 32, .idx 9 (.t 27) (.t 31), none⟩,
  ⟨some 33, .cvt 5 2 (.t 32), none⟩,
  ⟨some 6, .asg (.t 33), none⟩] [[], [0], [1], [2], [], [4], [5], [6], [3, 7], [8], [9, 0, 1, 2, 3, 4, 5, 6, 7, 8, 9]] (some [0, 3, 4, 5, 6])) c120_31
def c120_44 : SC := .reg [⟨some 9, .mv (.t 5), none⟩,
  ⟨some 10, .bn .add 3 (.t 9) (.c (.int .i64 1)), none⟩,
  ⟨some 5, .asg (.t 10), none⟩] (some [0, 3, 4, 5])
def c120_17 : SC := .seq (.block 1 (.seq (.seq (.drw [⟨some 11, .mv (.t 0), none⟩,
  ⟨some 12, .nilc (.t 11), none⟩,
  ⟨some 13, .fa 155 (.t 12) 1, none⟩,
  ⟨some 14, .ld 3 (.t 13), none⟩,
  ⟨some 15, .mv (.t 0), none⟩,
  ⟨some 16, .nilc (.t 15), none⟩,
  ⟨some 17, .fa 155 (.t 16) 0, none⟩,
  ⟨some 18, .ld 9 (.t 17), none⟩,
  ⟨some 19, .len 9 (.t 18), none⟩,
  ⟨some 20, .bn .geq 3 (.t 14) (.t 19), none⟩] [[], [0], [1], [2], [], [4], [5], [6], [7], [3, 8]] (some [0, 3, 4, 5, 20])) c120_22) c120_29)) c120_44
def c120_11 : SC := .seq (.seq (.reg [⟨some 7, .mv (.t 5), none⟩,
  ⟨some 8, .bn .lss 3 (.t 7) (.c (.int .i64 3)), none⟩] (some [0, 3, 4, 5, 8])) c120_14) c120_17
def c120_9 : SC := .block 0 (.loop c120_11)
def c120_47 : SC := .seq (.reg [⟨some 2, .asg (.c (.int .i64 0)), none⟩] (some [0, 2])) .ret
def c120_45 : SC := .seq (.reg [⟨some 52, .mv (.t 0), none⟩,
  ⟨some 53, .nilc (.t 52), none⟩,
  ⟨some 54, .fa 155 (.t 53) 2, none⟩,
  ⟨none, .sto 4 (.t 54) (.c (.bool true)), none⟩] (some [0])) c120_47
def c120_6 : SC := .seq (.seq (.reg [⟨some 5, .asg (.c (.int .i64 0)), none⟩] (some [0, 3, 4, 5])) c120_9) c120_45
def c120_4 : SC := .seq (.reg [⟨some 4, .asg (.c (.int .i64 1)), none⟩] (some [0, 3, 4])) c120_6
def c120_2 : SC := .seq (.reg [⟨some 3, .asg (.c (.int .i64 0)), none⟩] (some [0, 3])) c120_4
/-- (*loop.example/g01075/spec.l32Reader).number -/
def c120 : SC := .seq (.reg [⟨some 2, .asg (.c (.int .i64 0)), none⟩] (some [0])) c120_2
theorem s120 : slimC ⟨55, [0]⟩ (Try.f120.body.getD .skip) = some c120.strip := by kernel_rfl

def c185_12 : SC := .cond (.t 8) .skip (.exit 0)
def c185_20 : SC := .reg [⟨some 23, .mv (.t 3), none⟩,
  ⟨some 24, .bn .add 2 (.t 23) (.c (.int .i64 1)), none⟩,
  ⟨some 3, .asg (.t 24), none⟩] (some [0, 3, 4])
def c185_19 : SC := .cond (.t 22) c185_20 .skip
def c185_22 : SC := .reg [⟨some 9, .mv (.t 4), none⟩,
  ⟨some 10, .bn .add 3 (.t 9) (.c (.int .i64 1)), none⟩,
  ⟨some 4, .asg (.t 10), none⟩] (some [0, 3, 4])
def c185_15 : SC := .seq (.block 1 (.seq (.drw [⟨some 11, .mv (.t 0), none⟩,
  ⟨some 12, .mv (.t 4), none⟩,
  ⟨some 13, .ia 32 (.t 11) (.t 12), none⟩,
  ⟨some 14, .fa 120 (.t 13) 0, none⟩,
  ⟨some 15, .ld 4 (.t 14), none⟩,
  ⟨some 16, .mv (.t 0), none⟩,
  ⟨some 17, .mv (.t 4), none⟩,
  ⟨some 18, .bn .sub 3 (.t 17) (.c (.int .i64 1)), none⟩,
  ⟨some 19, .ia 32 (.t 16) (.t 18), none⟩,
  ⟨some 20, .fa 120 (.t 19) 0, none⟩,
  ⟨some 21, .ld 4 (.t 20), none⟩,
  ⟨some 22, .bn .neq 4 (.t 15) (.t 21), none⟩] [[], [], [0, 1], [2], [3], [], [], [6], [5, 7], [8], [9], [4, 10]] (some [0, 3, 4, 22])) c185_19)) c185_22
def c185_9 : SC := .seq (.seq (.reg [⟨some 5, .mv (.t 4), none⟩,
  ⟨some 6, .mv (.t 0), none⟩,
  ⟨some 7, .len 32 (.t 6), none⟩,
  ⟨some 8, .bn .lss 3 (.t 5) (.t 7), none⟩] (some [0, 3, 4, 8])) c185_12) c185_15
def c185_7 : SC := .block 0 (.loop c185_9)
def c185_23 : SC := .seq (.reg [⟨some 25, .mv (.t 3), none⟩,
  ⟨some 2, .asg (.t 25), none⟩] (some [2])) .ret
def c185_4 : SC := .seq (.seq (.reg [⟨some 4, .asg (.c (.int .i64 1)), none⟩] (some [0, 3, 4])) c185_7) c185_23
def c185_2 : SC := .seq (.reg [⟨some 3, .asg (.c (.int .i64 1)), none⟩] (some [0, 3])) c185_4
/-- loop.example/g01075/spec.l22Count -/
def c185 : SC := .seq (.reg [⟨some 2, .asg (.c (.int .i64 0)), none⟩] (some [0])) c185_2
theorem s185 : slimC ⟨26, [0]⟩ (Try.f185.body.getD .skip) = some c185.strip := by kernel_rfl

def c186_10 : SC := .cond (.t 11) .skip (.exit 0)
def c186_18 : SC := .seq (.reg [⟨some 6, .asg (.c (.bool false)), none⟩] (some [6])) .ret
def c186_17 : SC := .cond (.t 37) c186_18 .skip
def c186_22 : SC := .reg [⟨some 12, .mv (.t 7), none⟩,
  ⟨some 13, .bn .add 3 (.t 12) (.c (.int .i64 1)), none⟩,
  ⟨some 7, .asg (.t 13), none⟩] (some [0, 1, 2, 7])
def c186_13 : SC := .seq (.block 1 (.seq (.drw [⟨some 14, .mv (.t 0), none⟩,
  ⟨some 15, .mv (.t 7), none⟩,
  ⟨some 16, .ia 68 (.t 14) (.t 15), none⟩,
  ⟨some 17, .ld 2 (.t 16), none⟩,
  ⟨some 18, .mv (.t 1), none⟩,
  ⟨some 19, .mv (.t 2), none⟩,
  ⟨some 20, .call (.f 130) [(.t 17), (.t 18), (.t 19)], none⟩,
  ⟨some 21, .un .not (.t 20), none⟩,
  ⟨some 22, .mv (.t 21), none⟩,
  ⟨some 23, .mv (.t 7), some (22, false)⟩,
  ⟨some 24, .bn .gtr 3 (.t 23) (.c (.int .i64 0)), some (22, false)⟩,
  ⟨some 25, .mv (.t 24), some (22, false)⟩,
  ⟨some 26, .mv (.t 0), some (25, true)⟩,
  ⟨some 27, .mv (.t 7), some (25, true)⟩,
  ⟨some 28, .bn .sub 3 (.t 27) (.c (.int .i64 1)), some (25, true)⟩,
  ⟨some 29, .ia 68 (.t 26) (.t 28), some (25, true)⟩,
  ⟨some 30, .ld 2 (.t 29), some (25, true)⟩,
  ⟨some 31, .mv (.t 0), some (25, true)⟩,
  ⟨some 32, .mv (.t 7), some (25, true)⟩,
  ⟨some 33, .ia 68 (.t 31) (.t 32), some (25, true)⟩,
  ⟨some 34, .ld 2 (.t 33), some (25, true)⟩,
  ⟨some 35, .bn .geq 2 (.t 30) (.t 34), some (25, true)⟩,
  ⟨some 36, .pick (.t 25) (.t 35) (.c (.bool false)), some (22, false)⟩,
  ⟨some 37, .pick (.t 22) (.c (.bool true)) (.t 36), none⟩] [[], [], [0, 1], [2], [], [], [3, 4, 5], [6], [7, 6], [8], [9, 8], [10, 8, 8], [11], [11], [13, 11], [12, 14, 11], [15, 11], [11], [11], [17, 18, 11], [19, 11], [16, 20, 11], [11, 21, 8], [8, 22]] (some [0, 1, 2, 7, 37])) c186_17)) c186_22
def c186_7 : SC := .seq (.seq (.reg [⟨some 8, .mv (.t 7), none⟩,
  ⟨some 9, .mv (.t 0), none⟩,
  ⟨some 10, .len 68 (.t 9), none⟩,
  ⟨some 11, .bn .lss 3 (.t 8) (.t 10), none⟩] (some [0, 1, 2, 7, 11])) c186_10) c186_13
def c186_5 : SC := .block 0 (.loop c186_7)
def c186_23 : SC := .seq (.reg [⟨some 6, .asg (.c (.bool true)), none⟩] (some [6])) .ret
def c186_2 : SC := .seq (.seq (.reg [⟨some 7, .asg (.c (.int .i64 0)), none⟩] (some [0, 1, 2, 7])) c186_5) c186_23
/-- loop.example/g01075/spec.l00Rises -/
def c186 : SC := .seq (.reg [⟨some 6, .asg (.c (.bool false)), none⟩] (some [0, 1, 2])) c186_2
theorem s186 : slimC ⟨38, [0, 1, 2]⟩ (Try.f186.body.getD .skip) = some c186.strip := by kernel_rfl

def c97_6 : SC := .seq (.reg [⟨some 2, .asg (.c (.bool false)), none⟩] (some [2])) .ret
def c97_5 : SC := .cond (.t 16) c97_6 .skip
def c97_18 : SC := .cond (.t 20) .skip (.exit 0)
def c97_26 : SC := .seq (.reg [⟨some 2, .asg (.c (.bool false)), none⟩] (some [2])) .ret
def c97_25 : SC := .cond (.t 32) c97_26 .skip
def c97_30 : SC := .reg [⟨some 21, .mv (.t 3), none⟩,
  ⟨some 22, .bn .add 3 (.t 21) (.c (.int .i64 1)), none⟩,
  ⟨some 3, .asg (.t 22), none⟩] (some [0, 3])
def c97_21 : SC := .seq (.block 1 (.seq (.reg [⟨some 23, .mv (.t 0), none⟩,
  ⟨some 24, .mv (.t 3), none⟩,
  ⟨some 25, .ia 32 (.t 23) (.t 24), none⟩,
  ⟨some 26, .fa 120 (.t 25) 2, none⟩,
  ⟨some 27, .ld 68 (.t 26), none⟩,
  ⟨some 28, .mv (.t 0), none⟩,
  ⟨some 29, .len 32 (.t 28), none⟩,
  ⟨some 30, .bn .sub 2 (.t 29) (.c (.int .i64 1)), none⟩,
  ⟨some 31, .call (.f 186) [(.t 27), (.c (.int .i64 0)), (.t 30)], none⟩,
  ⟨some 32, .un .not (.t 31), none⟩] (some [0, 3, 32])) c97_25)) c97_30
def c97_15 : SC := .seq (.seq (.reg [⟨some 17, .mv (.t 3), none⟩,
  ⟨some 18, .mv (.t 0), none⟩,
  ⟨some 19, .len 32 (.t 18), none⟩,
  ⟨some 20, .bn .lss 3 (.t 17) (.t 19), none⟩] (some [0, 3, 20])) c97_18) c97_21
def c97_13 : SC := .block 0 (.loop c97_15)
def c97_31 : SC := .seq (.reg [⟨some 2, .asg (.c (.bool true)), none⟩] (some [2])) .ret
def c97_10 : SC := .seq (.seq (.reg [⟨some 3, .asg (.c (.int .i64 0)), none⟩] (some [0, 3])) c97_13) c97_31
def c97_2 : SC := .seq (.seq (.reg [⟨some 4, .mv (.t 0), none⟩,
  ⟨some 5, .len 32 (.t 4), none⟩,
  ⟨some 6, .bn .lss 3 (.t 5) (.c (.int .i64 1)), none⟩,
  ⟨some 7, .mv (.t 6), none⟩,
  ⟨some 8, .mv (.t 0), some (7, false)⟩,
  ⟨some 9, .len 32 (.t 8), some (7, false)⟩,
  ⟨some 10, .bn .gtr 3 (.t 9) (.c (.int .i64 120)), some (7, false)⟩,
  ⟨some 11, .pick (.t 7) (.c (.bool true)) (.t 10), none⟩,
  ⟨some 12, .mv (.t 11), none⟩,
  ⟨some 13, .mv (.t 0), some (12, false)⟩,
  ⟨some 14, .call (.f 185) [(.t 13)], some (12, false)⟩,
  ⟨some 15, .bn .gtr 2 (.t 14) (.c (.int .i64 9)), some (12, false)⟩,
  ⟨some 16, .pick (.t 12) (.c (.bool true)) (.t 15), none⟩] (some [0, 16])) c97_5) c97_10
/-- loop.example/g01075/spec.l22Is -/
def c97 : SC := .seq (.reg [⟨some 2, .asg (.c (.bool false)), none⟩] (some [0])) c97_2
theorem s97 : slimC ⟨33, [0]⟩ (Try.f97.body.getD .skip) = some c97.strip := by kernel_rfl

def c187_10 : SC := .cond (.t 6) .skip (.exit 0)
def c187_16 : SC := .reg [⟨some 14, .mv (.t 0), none⟩,
  ⟨some 15, .bn .quo 2 (.t 14) (.c (.int .i64 128)), none⟩,
  ⟨some 0, .asg (.t 15), none⟩] (some [0, 3])
def c187_13 : SC := .block 1 (.seq (.reg [⟨some 7, .mv (.t 3), none⟩,
  ⟨some 8, .mv (.t 0), none⟩,
  ⟨some 9, .bn .rem 2 (.t 8) (.c (.int .i64 128)), none⟩,
  ⟨some 10, .bn .add 2 (.c (.int .i64 128)) (.t 9), none⟩,
  ⟨some 11, .cvt 2 5 (.t 10), none⟩,
  ⟨some 12, .bsl 107 1 [(0, (.t 11))], none⟩,
  ⟨some 13, .app 107 107 (.t 7) (.t 12), none⟩,
  ⟨some 3, .asg (.t 13), none⟩] (some [0, 3])) c187_16)
def c187_7 : SC := .seq (.seq (.reg [⟨some 5, .mv (.t 0), none⟩,
  ⟨some 6, .bn .geq 2 (.t 5) (.c (.int .i64 128)), none⟩] (some [0, 3, 6])) c187_10) c187_13
def c187_19 : SC := .seq (.reg [⟨some 21, .mv (.t 3), none⟩,
  ⟨some 22, .cvt 107 9 (.t 21), none⟩,
  ⟨some 2, .asg (.t 22), none⟩] (some [2])) .ret
def c187_17 : SC := .seq (.reg [⟨some 16, .mv (.t 3), none⟩,
  ⟨some 17, .mv (.t 0), none⟩,
  ⟨some 18, .cvt 2 5 (.t 17), none⟩,
  ⟨some 19, .bsl 107 1 [(0, (.t 18))], none⟩,
  ⟨some 20, .app 107 107 (.t 16) (.t 19), none⟩,
  ⟨some 3, .asg (.t 20), none⟩] (some [3])) c187_19
def c187_4 : SC := .seq (.block 0 (.loop c187_7)) c187_17
def c187_2 : SC := .seq (.reg [⟨some 4, .bsl 107 0 [], none⟩,
  ⟨some 3, .asg (.t 4), none⟩] (some [0, 3])) c187_4
/-- loop.example/g01075/spec.l32Number -/
def c187 : SC := .seq (.reg [⟨some 2, .asg (.c (.str [])), none⟩] (some [0])) c187_2
theorem s187 : slimC ⟨23, []⟩ (Try.f187.body.getD .skip) = some c187.strip := by kernel_rfl

def c188_6 : SC := .seq (.reg [⟨some 2, .asg (.c (.int .i64 1)), none⟩] (some [2])) .ret
def c188_5 : SC := .cond (.t 3) c188_6 .skip
def c188_10 : SC := .seq (.reg [⟨some 2, .asg (.c (.int .i64 0)), none⟩] (some [2])) .ret
def c188_2 : SC := .seq (.seq (.reg [⟨some 3, .mv (.t 0), none⟩] (some [3])) c188_5) c188_10
/-- loop.example/g01075/spec.l03Truth -/
def c188 : SC := .seq (.reg [⟨some 2, .asg (.c (.int .i64 0)), none⟩] (some [0])) c188_2
theorem s188 : slimC ⟨4, [0]⟩ (Try.f188.body.getD .skip) = some c188.strip := by kernel_rfl

def c189_8 : SC := .seq (.reg [⟨some 4, .asg (.c (.str [])), none⟩] (some [4])) .ret
def c189_7 : SC := .cond (.t 16) c189_8 .skip
def c189_14 : SC := .seq (.reg [⟨some 19, .mv (.t 5), none⟩,
  ⟨some 20, .mv (.t 6), none⟩,
  ⟨some 21, .bn .quo 2 (.t 20) (.c (.int .i64 256)), none⟩,
  ⟨some 22, .cvt 2 5 (.t 21), none⟩,
  ⟨some 23, .mv (.t 6), none⟩,
  ⟨some 24, .bn .rem 2 (.t 23) (.c (.int .i64 256)), none⟩,
  ⟨some 25, .cvt 2 5 (.t 24), none⟩,
  ⟨some 26, .bsl 107 2 [(0, (.t 22)), (1, (.t 25))], none⟩,
  ⟨some 27, .cvt 107 9 (.t 26), none⟩,
  ⟨some 28, .bn .add 9 (.t 19) (.t 27), none⟩,
  ⟨some 4, .asg (.t 28), none⟩] (some [4])) .ret
def c189_12 : SC := .seq (.reg [⟨some 17, .mv (.t 5), none⟩,
  ⟨some 18, .call (.f 210) [(.t 17), (.c (.int .i64 65535))], none⟩,
  ⟨some 6, .asg (.t 18), none⟩] (some [5, 6])) c189_14
def c189_4 : SC := .seq (.seq (.reg [⟨some 13, .mv (.t 5), none⟩,
  ⟨some 14, .len 9 (.t 13), none⟩,
  ⟨some 15, .bn .add 3 (.t 14) (.c (.int .i64 2)), none⟩,
  ⟨some 16, .bn .gtr 3 (.t 15) (.c (.int .i64 6000)), none⟩] (some [5, 16])) c189_7) c189_12
def c189_2 : SC := .seq (.reg [⟨some 7, .mv (.t 0), none⟩,
  ⟨some 8, .cvt 2 5 (.t 7), none⟩,
  ⟨some 9, .bsl 107 1 [(0, (.t 8))], none⟩,
  ⟨some 10, .cvt 107 9 (.t 9), none⟩,
  ⟨some 11, .mv (.t 1), none⟩,
  ⟨some 12, .bn .add 9 (.t 10) (.t 11), none⟩,
  ⟨some 5, .asg (.t 12), none⟩] (some [5])) c189_4
/-- loop.example/g01075/spec.l32Seal -/
def c189 : SC := .seq (.reg [⟨some 4, .asg (.c (.str [])), none⟩] (some [0, 1])) c189_2
theorem s189 : slimC ⟨29, [0, 1]⟩ (Try.f189.body.getD .skip) = some c189.strip := by kernel_rfl

def c98_12 : SC := .cond (.t 12) .skip (.exit 0)
def c98_27 : SC := .cond (.t 47) .skip (.exit 2)
def c98_33 : SC := .reg [⟨some 48, .mv (.t 5), none⟩,
  ⟨some 49, .bn .add 3 (.t 48) (.c (.int .i64 1)), none⟩,
  ⟨some 5, .asg (.t 49), none⟩] (some [0, 3, 4, 5])
def c98_30 : SC := .seq (.block 3 (.reg [⟨some 50, .mv (.t 3), none⟩,
  ⟨some 51, .mv (.t 0), none⟩,
  ⟨some 52, .mv (.t 4), none⟩,
  ⟨some 53, .ia 32 (.t 51) (.t 52), none⟩,
  ⟨some 54, .fa 120 (.t 53) 2, none⟩,
  ⟨some 55, .ld 68 (.t 54), none⟩,
  ⟨some 56, .mv (.t 5), none⟩,
  ⟨some 57, .ia 68 (.t 55) (.t 56), none⟩,
  ⟨some 58, .ld 2 (.t 57), none⟩,
  ⟨some 59, .call (.f 187) [(.t 58)], none⟩,
  ⟨some 60, .bn .add 9 (.t 50) (.t 59), none⟩,
  ⟨some 3, .asg (.t 60), none⟩] (some [0, 3, 4, 5]))) c98_33
def c98_24 : SC := .seq (.seq (.reg [⟨some 40, .mv (.t 5), none⟩,
  ⟨some 41, .mv (.t 0), none⟩,
  ⟨some 42, .mv (.t 4), none⟩,
  ⟨some 43, .ia 32 (.t 41) (.t 42), none⟩,
  ⟨some 44, .fa 120 (.t 43) 2, none⟩,
  ⟨some 45, .ld 68 (.t 44), none⟩,
  ⟨some 46, .len 68 (.t 45), none⟩,
  ⟨some 47, .bn .lss 3 (.t 40) (.t 46), none⟩] (some [0, 3, 4, 5, 47])) c98_27) c98_30
def c98_22 : SC := .block 2 (.loop c98_24)
def c98_37 : SC := .seq (.reg [⟨some 2, .asg (.c (.str [])), none⟩] (some [2])) .ret
def c98_36 : SC := .cond (.t 63) c98_37 .skip
def c98_34 : SC := .seq (.reg [⟨some 61, .mv (.t 3), none⟩,
  ⟨some 62, .len 9 (.t 61), none⟩,
  ⟨some 63, .bn .gtr 3 (.t 62) (.c (.int .i64 6000)), none⟩] (some [0, 3, 4, 63])) c98_36
def c98_19 : SC := .seq (.seq (.reg [⟨some 5, .asg (.c (.int .i64 0)), none⟩] (some [0, 3, 4, 5])) c98_22) c98_34
def c98_41 : SC := .reg [⟨some 13, .mv (.t 4), none⟩,
  ⟨some 14, .bn .add 3 (.t 13) (.c (.int .i64 1)), none⟩,
  ⟨some 4, .asg (.t 14), none⟩] (some [0, 3, 4])
def c98_15 : SC := .seq (.block 1 (.seq (.drw [⟨some 15, .mv (.t 3), none⟩,
  ⟨some 16, .mv (.t 0), none⟩,
  ⟨some 17, .mv (.t 4), none⟩,
  ⟨some 18, .ia 32 (.t 16) (.t 17), none⟩,
  ⟨some 19, .fa 120 (.t 18) 0, none⟩,
  ⟨some 20, .ld 4 (.t 19), none⟩,
  ⟨some 21, .call (.f 188) [(.t 20)], none⟩,
  ⟨some 22, .mv (.t 0), none⟩,
  ⟨some 23, .mv (.t 4), none⟩,
  ⟨some 24, .ia 32 (.t 22) (.t 23), none⟩,
  ⟨some 25, .fa 120 (.t 24) 1, none⟩,
  ⟨some 26, .ld 4 (.t 25), none⟩,
  ⟨some 27, .call (.f 188) [(.t 26)], none⟩,
  ⟨some 28, .bn .mul 2 (.c (.int .i64 2)) (.t 27), none⟩,
  ⟨some 29, .bn .add 2 (.t 21) (.t 28), none⟩,
  ⟨some 30, .call (.f 187) [(.t 29)], none⟩,
  ⟨some 31, .mv (.t 0), none⟩,
  ⟨some 32, .mv (.t 4), none⟩,
  ⟨some 33, .ia 32 (.t 31) (.t 32), none⟩,
  ⟨some 34, .fa 120 (.t 33) 2, none⟩,
  ⟨some 35, .ld 68 (.t 34), none⟩,
  ⟨some 36, .len 68 (.t 35), none⟩,
  ⟨some 37, .call (.f 187) [(.t 36)], none⟩,
  ⟨some 38, .bn .add 9 (.t 30) (.t 37), none⟩,
  ⟨some 39, .bn .add 9 (.t 15) (.t 38), none⟩,
  ⟨some 3, .asg (.t 39), none⟩] [[], [], [], [1, 2], [3], [4], [5], [], [], [7, 8], [9], [10], [11, 6], [12], [6, 13], [14, 12], [], [], [16, 17], [18], [19], [20], [21, 15], [15, 22], [0, 23], [24, 22, 0, 1, 2, 3, 4, 5, 6, 7, 8, 9, 10, 11, 12, 13, 14, 15, 16, 17, 18, 19, 20, 21, 22, 23, 24]] (some [0, 3, 4])) c98_19)) c98_41
def c98_9 : SC := .seq (.seq (.reg [⟨some 9, .mv (.t 4), none⟩,
  ⟨some 10, .mv (.t 0), none⟩,
  ⟨some 11, .len 32 (.t 10), none⟩,
  ⟨some 12, .bn .lss 3 (.t 9) (.t 11), none⟩] (some [0, 3, 4, 12])) c98_12) c98_15
def c98_7 : SC := .block 0 (.loop c98_9)
def c98_42 : SC := .seq (.reg [⟨some 64, .mv (.t 3), none⟩,
  ⟨some 65, .call (.f 189) [(.c (.int .i64 3)), (.t 64)], none⟩,
  ⟨some 2, .asg (.t 65), none⟩] (some [2])) .ret
def c98_4 : SC := .seq (.seq (.reg [⟨some 4, .asg (.c (.int .i64 0)), none⟩] (some [0, 3, 4])) c98_7) c98_42
def c98_2 : SC := .seq (.reg [⟨some 6, .mv (.t 0), none⟩,
  ⟨some 7, .len 32 (.t 6), none⟩,
  ⟨some 8, .call (.f 187) [(.t 7)], none⟩,
  ⟨some 3, .asg (.t 8), none⟩] (some [0, 3])) c98_4
/-- loop.example/g01075/spec.l32Equations -/
def c98 : SC := .seq (.reg [⟨some 2, .asg (.c (.str [])), none⟩] (some [0])) c98_2
theorem s98 : slimC ⟨66, [0]⟩ (Try.f98.body.getD .skip) = some c98.strip := by kernel_rfl

def c42_8 : SC := .seq (.reg [⟨some 18, .mv (.t 5), none⟩,
  ⟨some 2, .asg (.c .nils), none⟩,
  ⟨some 3, .asg (.t 18), none⟩] (some [2, 3])) .ret
def c42_7 : SC := .cond (.t 17) c42_8 .skip
def c42_22 : SC := .cond (.t 30) .skip (.exit 0)
def c42_39 : SC := .cond (.t 52) .skip (.exit 2)
def c42_45 : SC := .reg [⟨some 53, .mv (.t 10), none⟩,
  ⟨some 54, .bn .sub 2 (.t 53) (.c (.int .i64 1)), none⟩,
  ⟨some 10, .asg (.t 54), none⟩] (some [0, 4, 6, 7, 9, 10])
def c42_42 : SC := .seq (.block 3 (.drw [⟨some 55, .fa 120 (.t 9) 2, none⟩,
  ⟨some 56, .ld 68 (.t 55), none⟩,
  ⟨some 57, .mv (.t 4), none⟩,
  ⟨some 58, .call (.f 120) [(.t 57)], none⟩,
  ⟨some 59, .bsl 68 1 [(0, (.t 58))], none⟩,
  ⟨some 60, .app 68 68 (.t 56) (.t 59), none⟩,
  ⟨some 61, .fa 120 (.t 9) 2, none⟩,
  ⟨none, .sto 68 (.t 61) (.t 60), none⟩] [[], [0], [], [2], [3], [1, 4, 3], [0, 1, 2, 3, 4, 5], [6, 5, 5, 0, 1, 2, 3, 4, 5]] (some [0, 4, 6, 7, 9, 10]))) c42_45
def c42_36 : SC := .seq (.seq (.reg [⟨some 44, .mv (.t 10), none⟩,
  ⟨some 45, .bn .gtr 2 (.t 44) (.c (.int .i64 0)), none⟩,
  ⟨some 46, .mv (.t 45), none⟩,
  ⟨some 47, .mv (.t 4), some (46, true)⟩,
  ⟨some 48, .nilc (.t 47), some (46, true)⟩,
  ⟨some 49, .fa 155 (.t 48) 2, some (46, true)⟩,
  ⟨some 50, .ld 4 (.t 49), some (46, true)⟩,
  ⟨some 51, .un .not (.t 50), some (46, true)⟩,
  ⟨some 52, .pick (.t 46) (.t 51) (.c (.bool false)), none⟩] (some [0, 4, 6, 7, 9, 10, 52])) c42_39) c42_42
def c42_34 : SC := .block 2 (.loop c42_36)
def c42_46 : SC := .reg [⟨some 62, .mv (.t 6), none⟩,
  ⟨some 63, .ld 120 (.t 9), none⟩,
  ⟨some 64, .bsl 32 1 [(0, (.t 63))], none⟩,
  ⟨some 65, .app 32 32 (.t 62) (.t 64), none⟩,
  ⟨some 6, .asg (.t 65), none⟩] (some [0, 4, 6, 7])
def c42_31 : SC := .seq (.seq (.reg [⟨some 42, .mv (.t 4), none⟩,
  ⟨some 43, .call (.f 120) [(.t 42)], none⟩,
  ⟨some 10, .asg (.t 43), none⟩] (some [0, 4, 6, 7, 9, 10])) c42_34) c42_46
def c42_29 : SC := .seq (.reg [⟨some 35, .mv (.t 8), none⟩,
  ⟨some 36, .bn .rem 2 (.t 35) (.c (.int .i64 2)), none⟩,
  ⟨some 37, .bn .eql 2 (.t 36) (.c (.int .i64 1)), none⟩,
  ⟨some 38, .mv (.t 8), none⟩,
  ⟨some 39, .bn .quo 2 (.t 38) (.c (.int .i64 2)), none⟩,
  ⟨some 40, .bn .eql 2 (.t 39) (.c (.int .i64 1)), none⟩,
  ⟨some 41, .bld 120 [(0, (.t 37)), (1, (.t 40))], none⟩,
  ⟨some 9, .alc 120, none⟩,
  ⟨none, .sto 120 (.t 9) (.t 41), none⟩] (some [0, 4, 6, 7, 9])) c42_31
def c42_47 : SC := .reg [⟨some 31, .mv (.t 7), none⟩,
  ⟨some 32, .bn .sub 2 (.t 31) (.c (.int .i64 1)), none⟩,
  ⟨some 7, .asg (.t 32), none⟩] (some [0, 4, 6, 7])
def c42_25 : SC := .seq (.block 1 (.seq (.reg [⟨some 33, .mv (.t 4), none⟩,
  ⟨some 34, .call (.f 120) [(.t 33)], none⟩,
  ⟨some 8, .asg (.t 34), none⟩] (some [0, 4, 6, 7, 8])) c42_29)) c42_47
def c42_19 : SC := .seq (.seq (.reg [⟨some 22, .mv (.t 7), none⟩,
  ⟨some 23, .bn .gtr 2 (.t 22) (.c (.int .i64 0)), none⟩,
  ⟨some 24, .mv (.t 23), none⟩,
  ⟨some 25, .mv (.t 4), some (24, true)⟩,
  ⟨some 26, .nilc (.t 25), some (24, true)⟩,
  ⟨some 27, .fa 155 (.t 26) 2, some (24, true)⟩,
  ⟨some 28, .ld 4 (.t 27), some (24, true)⟩,
  ⟨some 29, .un .not (.t 28), some (24, true)⟩,
  ⟨some 30, .pick (.t 24) (.t 29) (.c (.bool false)), none⟩] (some [0, 4, 6, 7, 30])) c42_22) c42_25
def c42_17 : SC := .block 0 (.loop c42_19)
def c42_52 : SC := .seq (.reg [⟨some 2, .asg (.c .nils), none⟩,
  ⟨some 3, .asg (.c (.int .i64 9)), none⟩] (some [2, 3])) .ret
def c42_51 : SC := .cond (.t 80) c42_52 .skip
def c42_56 : SC := .seq (.reg [⟨some 81, .mv (.t 6), none⟩,
  ⟨some 2, .asg (.t 81), none⟩,
  ⟨some 3, .asg (.c (.int .i64 0)), none⟩] (some [2, 3])) .ret
def c42_48 : SC := .seq (.seq (.reg [⟨some 66, .mv (.t 4), none⟩,
  ⟨some 67, .nilc (.t 66), none⟩,
  ⟨some 68, .fa 155 (.t 67) 2, none⟩,
  ⟨some 69, .ld 4 (.t 68), none⟩,
  ⟨some 70, .mv (.t 69), none⟩,
  ⟨some 71, .mv (.t 6), some (70, false)⟩,
  ⟨some 72, .call (.f 97) [(.t 71)], some (70, false)⟩,
  ⟨some 73, .un .not (.t 72), some (70, false)⟩,
  ⟨some 74, .pick (.t 70) (.c (.bool true)) (.t 73), none⟩,
  ⟨some 75, .mv (.t 74), none⟩,
  ⟨some 76, .mv (.t 6), some (75, false)⟩,
  ⟨some 77, .call (.f 98) [(.t 76)], some (75, false)⟩,
  ⟨some 78, .mv (.t 0), some (75, false)⟩,
  ⟨some 79, .bn .neq 9 (.t 77) (.t 78), some (75, false)⟩,
  ⟨some 80, .pick (.t 75) (.c (.bool true)) (.t 79), none⟩] (some [6, 80])) c42_51) c42_56
def c42_14 : SC := .seq (.seq (.reg [⟨some 20, .mv (.t 4), none⟩,
  ⟨some 21, .call (.f 120) [(.t 20)], none⟩,
  ⟨some 7, .asg (.t 21), none⟩] (some [0, 4, 6, 7])) c42_17) c42_48
def c42_12 : SC := .seq (.reg [⟨some 19, .bsl 32 0 [], none⟩,
  ⟨some 6, .asg (.t 19), none⟩] (some [0, 4, 6])) c42_14
def c42_4 : SC := .seq (.seq (.reg [⟨some 16, .mv (.t 5), none⟩,
  ⟨some 17, .bn .neq 2 (.t 16) (.c (.int .i64 0)), none⟩] (some [0, 4, 5, 17])) c42_7) c42_12
def c42_2 : SC := .seq (.reg [⟨some 12, .mv (.t 0), none⟩,
  ⟨some 13, .call (.f 119) [(.t 12), (.c (.int .i64 3))], none⟩,
  ⟨some 11, .mv (.t 13), none⟩,
  ⟨some 14, .ex (.t 11) 0, none⟩,
  ⟨some 15, .ex (.t 11) 1, none⟩,
  ⟨some 4, .asg (.t 14), none⟩,
  ⟨some 5, .asg (.t 15), none⟩] (some [0, 4, 5])) c42_4
/-- loop.example/g01075/spec.DecodeEquations -/
def c42 : SC := .seq (.reg [⟨some 2, .asg (.c .nils), none⟩,
  ⟨some 3, .asg (.c (.int .i64 0)), none⟩] (some [0])) c42_2
theorem s42 : slimC ⟨82, [0]⟩ (Try.f42.body.getD .skip) = some c42.strip := by kernel_rfl

def c138_2 : SC := .seq (.reg [⟨some 7, .mv (.t 0), none⟩,
  ⟨some 8, .mv (.t 1), none⟩,
  ⟨some 9, .bn .geq 2 (.t 7) (.t 8), none⟩,
  ⟨some 10, .mv (.t 9), none⟩,
  ⟨some 11, .mv (.t 0), some (10, true)⟩,
  ⟨some 12, .mv (.t 2), some (10, true)⟩,
  ⟨some 13, .bn .leq 2 (.t 11) (.t 12), some (10, true)⟩,
  ⟨some 14, .pick (.t 10) (.t 13) (.c (.bool false)), none⟩,
  ⟨some 6, .asg (.t 14), none⟩] (some [6])) .ret
/-- loop.example/g01075/impl.within -/
def c138 : SC := .seq (.reg [⟨some 6, .asg (.c (.bool false)), none⟩] (some [0, 1, 2])) c138_2
theorem s138 : slimC ⟨15, [0, 1, 2]⟩ (Try.f138.body.getD .skip) = some c138.strip := by kernel_rfl

def c194_6 : SC := .seq (.reg [⟨some 4, .asg (.c (.int .i64 0)), none⟩] (some [4])) .ret
def c194_5 : SC := .cond (.t 9) c194_6 .skip
def c194_46 : SC := .reg [⟨some 29, .mv (.t 5), none⟩,
  ⟨some 30, .bn .and 2 (.t 29) (.c (.int .i64 65535)), none⟩,
  ⟨some 31, .bn .xor 2 (.t 30) (.c (.int .i64 4129)), none⟩,
  ⟨some 5, .asg (.t 31), none⟩] (some [0, 5, 12, 13, 23])
def c194_45 : SC := .cond (.t 28) c194_46 .skip
def c194_43 : SC := .seq (.reg [⟨some 27, .mv (.t 5), none⟩,
  ⟨some 28, .bn .gtr 2 (.t 27) (.c (.int .i64 65535)), none⟩] (some [0, 5, 12, 13, 23, 28])) c194_45
def c194_48 : SC := .reg [⟨some 32, .bn .add 3 (.t 23) (.c (.int .i64 1)), none⟩,
  ⟨some 23, .mv (.t 32), none⟩] (some [0, 5, 12, 13, 23])
def c194_39 : SC := .seq (.block 3 (.seq (.reg [⟨some 25, .mv (.t 5), none⟩,
  ⟨some 26, .bn .mul 2 (.t 25) (.c (.int .i64 2)), none⟩,
  ⟨some 5, .asg (.t 26), none⟩] (some [0, 5, 12, 13, 23])) c194_43)) c194_48
def c194_35 : SC := .seq (.cond (.t 24) .skip (.exit 2)) c194_39
def c194_33 : SC := .seq (.reg [⟨some 24, .bn .lss 3 (.t 23) (.c (.int .i64 8)), none⟩] (some [0, 5, 12, 13, 23, 24])) c194_35
def c194_31 : SC := .block 2 (.loop c194_33)
def c194_29 : SC := .seq (.reg [⟨some 23, .mv (.c (.int .i64 0)), none⟩] (some [0, 5, 12, 13, 23])) c194_31
def c194_27 : SC := .seq (.reg [⟨some 16, .mv (.t 5), none⟩,
  ⟨some 17, .mv (.t 0), none⟩,
  ⟨some 18, .mv (.t 6), none⟩,
  ⟨some 19, .idx 9 (.t 17) (.t 18), none⟩,
  ⟨some 20, .cvt 5 2 (.t 19), none⟩,
  ⟨some 21, .bn .mul 2 (.t 20) (.c (.int .i64 256)), none⟩,
  ⟨some 22, .bn .xor 2 (.t 16) (.t 21), none⟩,
  ⟨some 5, .asg (.t 22), none⟩] (some [0, 5, 12, 13])) c194_29
def c194_49 : SC := .reg [⟨some 33, .bn .add 3 (.t 13) (.c (.int .i64 1)), none⟩,
  ⟨some 13, .mv (.t 33), none⟩] (some [0, 5, 12, 13])
def c194_23 : SC := .seq (.block 1 (.seq (.reg [⟨some 15, .mv (.t 13), none⟩,
  ⟨some 6, .asg (.t 15), none⟩] (some [0, 5, 6, 12, 13])) c194_27)) c194_49
def c194_19 : SC := .seq (.cond (.t 14) .skip (.exit 0)) c194_23
def c194_17 : SC := .seq (.reg [⟨some 14, .bn .lss 3 (.t 13) (.t 12), none⟩] (some [0, 5, 12, 13, 14])) c194_19
def c194_15 : SC := .block 0 (.loop c194_17)
def c194_50 : SC := .seq (.reg [⟨some 34, .mv (.t 5), none⟩,
  ⟨some 4, .asg (.t 34), none⟩] (some [4])) .ret
def c194_12 : SC := .seq (.seq (.reg [⟨some 11, .mv (.t 0), none⟩,
  ⟨some 12, .len 9 (.t 11), none⟩,
  ⟨some 13, .mv (.c (.int .i64 0)), none⟩] (some [0, 5, 12, 13])) c194_15) c194_50
def c194_10 : SC := .seq (.reg [⟨some 10, .mv (.t 1), none⟩,
  ⟨some 5, .asg (.t 10), none⟩] (some [0, 5])) c194_12
def c194_2 : SC := .seq (.seq (.reg [⟨some 7, .mv (.t 1), none⟩,
  ⟨some 8, .call (.f 138) [(.t 7), (.c (.int .i64 0)), (.c (.int .i64 65535))], none⟩,
  ⟨some 9, .un .not (.t 8), none⟩] (some [0, 1, 9])) c194_5) c194_10
/-- loop.example/g01075/impl.Crc16 -/
def c194 : SC := .seq (.reg [⟨some 4, .asg (.c (.int .i64 0)), none⟩] (some [0, 1])) c194_2
theorem s194 : slimC ⟨35, [0, 1]⟩ (Try.f194.body.getD .skip) = some c194.strip := by kernel_rfl

def c127_6 : SC := .seq (.reg [⟨some 2, .asg (.c (.int .i64 0)), none⟩,
  ⟨some 3, .asg (.c (.int .i64 11)), none⟩] (some [2, 3])) .ret
def c127_5 : SC := .cond (.t 9) c127_6 .skip
def c127_21 : SC := .seq (.reg [⟨some 2, .asg (.c (.int .i64 0)), none⟩,
  ⟨some 3, .asg (.c (.int .i64 10)), none⟩] (some [2, 3])) .ret
def c127_27 : SC := .seq (.reg [⟨some 2, .asg (.c (.int .i64 0)), none⟩,
  ⟨some 3, .asg (.c (.int .i64 9)), none⟩] (some [2, 3])) .ret
def c127_26 : SC := .cond (.t 37) c127_27 .skip
def c127_24 : SC := .seq (.reg [⟨some 38, .mv (.t 6), none⟩,
  ⟨some 39, .call (.f 138) [(.t 38), (.c (.int .i64 1)), (.c (.int .i64 3))], none⟩,
  ⟨some 40, .un .not (.t 39), none⟩,
  ⟨some 41, .mv (.t 40), none⟩,
  ⟨some 42, .mv (.t 0), some (41, false)⟩,
  ⟨some 43, .len 9 (.t 42), some (41, false)⟩,
  ⟨some 44, .bn .gtr 3 (.t 43) (.c (.int .i64 6000)), some (41, false)⟩,
  ⟨some 45, .pick (.t 41) (.c (.bool true)) (.t 44), none⟩,
  ⟨some 37, .asg (.t 45), none⟩] (some [6, 37])) c127_26
def c127_20 : SC := .cond (.t 20) c127_21 c127_24
def c127_31 : SC := .seq (.reg [⟨some 46, .mv (.t 6), none⟩,
  ⟨some 2, .asg (.t 46), none⟩,
  ⟨some 3, .asg (.c (.int .i64 0)), none⟩] (some [2, 3])) .ret
def c127_16 : SC := .seq (.block 0 (.seq (.drw [⟨some 21, .mv (.t 0), none⟩,
  ⟨some 22, .mv (.t 0), none⟩,
  ⟨some 23, .len 9 (.t 22), none⟩,
  ⟨some 24, .bn .sub 3 (.t 23) (.c (.int .i64 2)), none⟩,
  ⟨some 25, .idx 9 (.t 21) (.t 24), none⟩,
  ⟨some 26, .cvt 5 2 (.t 25), none⟩,
  ⟨some 27, .bn .mul 2 (.t 26) (.c (.int .i64 256)), none⟩,
  ⟨some 28, .mv (.t 0), none⟩,
  ⟨some 29, .mv (.t 0), none⟩,
  ⟨some 30, .len 9 (.t 29), none⟩,
  ⟨some 31, .bn .sub 3 (.t 30) (.c (.int .i64 1)), none⟩,
  ⟨some 32, .idx 9 (.t 28) (.t 31), none⟩,
  ⟨some 33, .cvt 5 2 (.t 32), none⟩,
  ⟨some 34, .bn .add 2 (.t 27) (.t 33), none⟩,
  ⟨some 35, .mv (.t 5), none⟩,
  ⟨some 36, .bn .neq 2 (.t 34) (.t 35), none⟩,
  ⟨some 20, .asg (.t 36), none⟩] [[], [], [1], [2], [0, 3], [4], [5], [], [], [8], [9], [7, 10], [11], [6, 12], [], [13, 14], [15]] (some [0, 6, 20])) c127_20)) c127_31
def c127_14 : SC := .seq (.reg [⟨some 17, .mv (.t 0), none⟩,
  ⟨some 18, .idx 9 (.t 17) (.c (.int .i64 0)), none⟩,
  ⟨some 19, .cvt 5 2 (.t 18), none⟩,
  ⟨some 6, .asg (.t 19), none⟩] (some [0, 5, 6])) c127_16
def c127_12 : SC := .seq (.reg [⟨some 15, .mv (.t 4), none⟩,
  ⟨some 16, .call (.f 194) [(.t 15), (.c (.int .i64 65535))], none⟩,
  ⟨some 5, .asg (.t 16), none⟩] (some [0, 5])) c127_14
def c127_10 : SC := .seq (.reg [⟨some 10, .mv (.t 0), none⟩,
  ⟨some 11, .mv (.t 0), none⟩,
  ⟨some 12, .len 9 (.t 11), none⟩,
  ⟨some 13, .bn .sub 3 (.t 12) (.c (.int .i64 2)), none⟩,
  ⟨some 14, .slc 9 (.t 10) none (some (.t 13)), none⟩,
  ⟨some 4, .asg (.t 14), none⟩] (some [0, 4])) c127_12
def c127_2 : SC := .seq (.seq (.reg [⟨some 7, .mv (.t 0), none⟩,
  ⟨some 8, .len 9 (.t 7), none⟩,
  ⟨some 9, .bn .lss 3 (.t 8) (.c (.int .i64 3)), none⟩] (some [0, 9])) c127_5) c127_10
/-- loop.example/g01075/impl.ImageKind -/
def c127 : SC := .seq (.reg [⟨some 2, .asg (.c (.int .i64 0)), none⟩,
  ⟨some 3, .asg (.c (.int .i64 0)), none⟩] (some [0])) c127_2
theorem s127 : slimC ⟨47, [0]⟩ (Try.f127.body.getD .skip) = some c127.strip := by kernel_rfl

def c121_9 : SC := .seq (.reg [⟨some 16, .mv (.t 7), none⟩,
  ⟨some 4, .asg (.c .nilp), none⟩,
  ⟨some 5, .asg (.t 16), none⟩] (some [4, 5])) .ret
def c121_15 : SC := .seq (.reg [⟨some 4, .asg (.c .nilp), none⟩,
  ⟨some 5, .asg (.c (.int .i64 6)), none⟩] (some [4, 5])) .ret
def c121_14 : SC := .cond (.t 17) c121_15 .skip
def c121_12 : SC := .seq (.reg [⟨some 18, .mv (.t 6), none⟩,
  ⟨some 19, .mv (.t 1), none⟩,
  ⟨some 20, .bn .neq 2 (.t 18) (.t 19), none⟩,
  ⟨some 17, .asg (.t 20), none⟩] (some [0, 17])) c121_14
def c121_8 : SC := .cond (.t 13) c121_9 c121_12
def c121_19 : SC := .seq (.reg [⟨some 21, .mv (.t 0), none⟩,
  ⟨some 22, .mv (.t 0), none⟩,
  ⟨some 23, .len 9 (.t 22), none⟩,
  ⟨some 24, .bn .sub 3 (.t 23) (.c (.int .i64 2)), none⟩,
  ⟨some 25, .slc 9 (.t 21) (some (.c (.int .i64 1))) (some (.t 24)), none⟩,
  ⟨some 26, .bld 160 [(0, (.t 25))], none⟩,
  ⟨some 27, .bx 160 (.t 26), none⟩,
  ⟨some 4, .asg (.t 27), none⟩,
  ⟨some 5, .asg (.c (.int .i64 0)), none⟩] (some [4, 5])) .ret
def c121_4 : SC := .seq (.block 0 (.seq (.reg [⟨some 14, .mv (.t 7), none⟩,
  ⟨some 15, .bn .neq 2 (.t 14) (.c (.int .i64 0)), none⟩,
  ⟨some 13, .asg (.t 15), none⟩] (some [0, 1, 6, 7, 13])) c121_8)) c121_19
def c121_2 : SC := .seq (.reg [⟨some 9, .mv (.t 0), none⟩,
  ⟨some 10, .call (.f 127) [(.t 9)], none⟩,
  ⟨some 8, .mv (.t 10), none⟩,
  ⟨some 11, .ex (.t 8) 0, none⟩,
  ⟨some 12, .ex (.t 8) 1, none⟩,
  ⟨some 6, .asg (.t 11), none⟩,
  ⟨some 7, .asg (.t 12), none⟩] (some [0, 1, 6, 7])) c121_4
/-- loop.example/g01075/impl.contents -/
def c121 : SC := .seq (.reg [⟨some 4, .asg (.c .nilp), none⟩,
  ⟨some 5, .asg (.c (.int .i64 0)), none⟩] (some [0, 1])) c121_2
theorem s121 : slimC ⟨28, [0, 1]⟩ (Try.f121.body.getD .skip) = some c121.strip := by kernel_rfl

def c204_8 : SC := .seq (.reg [⟨some 2, .asg (.c (.int .i64 0)), none⟩] (some [0, 2])) .ret
def c204_6 : SC := .seq (.reg [⟨some 9, .mv (.t 0), none⟩,
  ⟨some 10, .nilc (.t 9), none⟩,
  ⟨some 11, .fa 160 (.t 10) 1, none⟩,
  ⟨none, .sto 4 (.t 11) (.c (.bool true)), none⟩] (some [0])) c204_8
def c204_5 : SC := .cond (.t 8) c204_6 .skip
def c204_16 : SC := .seq (.reg [⟨some 25, .mv (.t 3), none⟩,
  ⟨some 26, .cvt 5 2 (.t 25), none⟩,
  ⟨some 2, .asg (.t 26), none⟩] (some [0, 2])) .ret
def c204_14 : SC := .seq (.reg [⟨some 17, .mv (.t 0), none⟩,
  ⟨some 18, .mv (.t 0), none⟩,
  ⟨some 19, .nilc (.t 18), none⟩,
  ⟨some 20, .fa 160 (.t 19) 0, none⟩,
  ⟨some 21, .ld 9 (.t 20), none⟩,
  ⟨some 22, .slc 9 (.t 21) (some (.c (.int .i64 1))) none, none⟩,
  ⟨some 23, .nilc (.t 17), none⟩,
  ⟨some 24, .fa 160 (.t 23) 0, none⟩,
  ⟨none, .sto 9 (.t 24) (.t 22), none⟩] (some [0, 3])) c204_16
def c204_12 : SC := .seq (.reg [⟨some 12, .mv (.t 0), none⟩,
  ⟨some 13, .nilc (.t 12), none⟩,
  ⟨some 14, .fa 160 (.t 13) 0, none⟩,
  ⟨some 15, .ld 9 (.t 14), none⟩,
  ⟨some 16, .idx 9 (.t 15) (.c (.int .i64 0)), none⟩,
  ⟨some 3, .asg (.t 16), none⟩] (some [0, 3])) c204_14
def c204_2 : SC := .seq (.seq (.reg [⟨some 4, .mv (.t 0), none⟩,
  ⟨some 5, .nilc (.t 4), none⟩,
  ⟨some 6, .fa 160 (.t 5) 0, none⟩,
  ⟨some 7, .ld 9 (.t 6), none⟩,
  ⟨some 8, .bn .eql 9 (.t 7) (.c (.str [])), none⟩] (some [0, 8])) c204_5) c204_12
/-- (*loop.example/g01075/impl.unpacker).byte -/
def c204 : SC := .seq (.reg [⟨some 2, .asg (.c (.int .i64 0)), none⟩] (some [0])) c204_2
theorem s204 : slimC ⟨27, [0]⟩ (Try.f204.body.getD .skip) = some c204.strip := by kernel_rfl

def c122_25 : SC := .seq (.reg [⟨some 18, .mv (.t 3), none⟩,
  ⟨some 2, .asg (.t 18), none⟩] (some [0, 2])) .ret
def c122_24 : SC := .cond (.t 17) c122_25 .skip
def c122_29 : SC := .reg [⟨some 19, .mv (.t 4), none⟩,
  ⟨some 20, .bn .mul 2 (.t 19) (.c (.int .i64 128)), none⟩,
  ⟨some 4, .asg (.t 20), none⟩] (some [0, 3, 4, 6])
def c122_21 : SC := .seq (.seq (.reg [⟨some 16, .mv (.t 5), none⟩,
  ⟨some 17, .bn .lss 2 (.t 16) (.c (.int .i64 128)), none⟩] (some [0, 3, 4, 6, 17])) c122_24) c122_29
def c122_19 : SC := .seq (.reg [⟨some 10, .mv (.t 3), none⟩,
  ⟨some 11, .mv (.t 5), none⟩,
  ⟨some 12, .bn .rem 2 (.t 11) (.c (.int .i64 128)), none⟩,
  ⟨some 13, .mv (.t 4), none⟩,
  ⟨some 14, .bn .mul 2 (.t 12) (.t 13), none⟩,
  ⟨some 15, .bn .add 2 (.t 10) (.t 14), none⟩,
  ⟨some 3, .asg (.t 15), none⟩] (some [0, 3, 4, 5, 6])) c122_21
def c122_30 : SC := .reg [⟨some 21, .bn .add 3 (.t 6) (.c (.int .i64 1)), none⟩,
  ⟨some 6, .mv (.t 21), none⟩] (some [0, 3, 4, 6])
def c122_15 : SC := .seq (.block 1 (.seq (.reg [⟨some 8, .mv (.t 0), none⟩,
  ⟨some 9, .call (.f 204) [(.t 8)], none⟩,
  ⟨some 5, .asg (.t 9), none⟩] (some [0, 3, 4, 5, 6])) c122_19)) c122_30
def c122_11 : SC := .seq (.cond (.t 7) .skip (.exit 0)) c122_15
def c122_9 : SC := .seq (.reg [⟨some 7, .bn .lss 3 (.t 6) (.c (.int .i64 4)), none⟩] (some [0, 3, 4, 6, 7])) c122_11
def c122_7 : SC := .block 0 (.loop c122_9)
def c122_33 : SC := .seq (.reg [⟨some 2, .asg (.c (.int .i64 0)), none⟩] (some [0, 2])) .ret
def c122_31 : SC := .seq (.reg [⟨some 22, .mv (.t 0), none⟩,
  ⟨some 23, .nilc (.t 22), none⟩,
  ⟨some 24, .fa 160 (.t 23) 1, none⟩,
  ⟨none, .sto 4 (.t 24) (.c (.bool true)), none⟩] (some [0])) c122_33
def c122_4 : SC := .seq (.seq (.reg [⟨some 6, .mv (.c (.int .i64 0)), none⟩] (some [0, 3, 4, 6])) c122_7) c122_31
def c122_2 : SC := .seq (.reg [⟨some 3, .asg (.c (.int .i64 0)), none⟩,
  ⟨some 4, .asg (.c (.int .i64 1)), none⟩] (some [0, 3, 4])) c122_4
/-- (*loop.example/g01075/impl.unpacker).number -/
def c122 : SC := .seq (.reg [⟨some 2, .asg (.c (.int .i64 0)), none⟩] (some [0])) c122_2
theorem s122 : slimC ⟨25, [0]⟩ (Try.f122.body.getD .skip) = some c122.strip := by kernel_rfl

def c123_12 : SC := .cond (.t 16) .skip (.exit 0)
def c123_18 : SC := .reg [⟨some 17, .mv (.t 6), none⟩,
  ⟨some 18, .bn .add 2 (.t 17) (.c (.int .i64 1)), none⟩,
  ⟨some 6, .asg (.t 18), none⟩] (some [0, 1, 5, 6])
def c123_15 : SC := .seq (.block 1 (.reg [⟨some 19, .mv (.t 5), none⟩,
  ⟨some 20, .mv (.t 0), none⟩,
  ⟨some 21, .call (.f 122) [(.t 20)], none⟩,
  ⟨some 22, .bsl 68 1 [(0, (.t 21))], none⟩,
  ⟨some 23, .app 68 68 (.t 19) (.t 22), none⟩,
  ⟨some 5, .asg (.t 23), none⟩] (some [0, 1, 5, 6]))) c123_18
def c123_9 : SC := .seq (.seq (.reg [⟨some 7, .mv (.t 6), none⟩,
  ⟨some 8, .mv (.t 1), none⟩,
  ⟨some 9, .bn .lss 2 (.t 7) (.t 8), none⟩,
  ⟨some 10, .mv (.t 9), none⟩,
  ⟨some 11, .mv (.t 0), some (10, true)⟩,
  ⟨some 12, .nilc (.t 11), some (10, true)⟩,
  ⟨some 13, .fa 160 (.t 12) 1, some (10, true)⟩,
  ⟨some 14, .ld 4 (.t 13), some (10, true)⟩,
  ⟨some 15, .un .not (.t 14), some (10, true)⟩,
  ⟨some 16, .pick (.t 10) (.t 15) (.c (.bool false)), none⟩] (some [0, 1, 5, 6, 16])) c123_12) c123_15
def c123_7 : SC := .block 0 (.loop c123_9)
def c123_19 : SC := .seq (.reg [⟨some 24, .mv (.t 5), none⟩,
  ⟨some 4, .asg (.t 24), none⟩] (some [0, 4])) .ret
def c123_4 : SC := .seq (.seq (.reg [⟨some 6, .asg (.c (.int .i64 0)), none⟩] (some [0, 1, 5, 6])) c123_7) c123_19
def c123_2 : SC := .seq (.reg [⟨some 5, .asg (.c .nils), none⟩] (some [0, 1, 5])) c123_4
/-- (*loop.example/g01075/impl.unpacker).numbers -/
def c123 : SC := .seq (.reg [⟨some 4, .asg (.c .nils), none⟩] (some [0, 1])) c123_2
theorem s123 : slimC ⟨25, [0, 1]⟩ (Try.f123.body.getD .skip) = some c123.strip := by kernel_rfl

def c266_25 : SC := .reg [⟨some 27, .mv (.t 4), none⟩,
  ⟨some 28, .bn .add 2 (.t 27) (.c (.int .i64 1)), none⟩,
  ⟨some 4, .asg (.t 28), none⟩] (some [0, 3, 4, 7, 8, 9])
def c266_24 : SC := .cond (.t 26) c266_25 .skip
def c266_27 : SC := .reg [⟨some 29, .mv (.t 3), none⟩,
  ⟨some 30, .mv (.t 4), none⟩,
  ⟨some 31, .bsl 68 1 [(0, (.t 30))], none⟩,
  ⟨some 32, .app 68 68 (.t 29) (.t 31), none⟩,
  ⟨some 3, .asg (.t 32), none⟩] (some [0, 3, 4, 7, 8, 9])
def c266_21 : SC := .seq (.seq (.drw [⟨some 14, .mv (.t 5), none⟩,
  ⟨some 15, .bn .gtr 3 (.t 14) (.c (.int .i64 0)), none⟩,
  ⟨some 16, .mv (.t 15), none⟩,
  ⟨some 17, .fa 120 (.t 6) 0, some (16, true)⟩,
  ⟨some 18, .ld 4 (.t 17), some (16, true)⟩,
  ⟨some 19, .mv (.t 0), some (16, true)⟩,
  ⟨some 20, .mv (.t 5), some (16, true)⟩,
  ⟨some 21, .bn .sub 3 (.t 20) (.c (.int .i64 1)), some (16, true)⟩,
  ⟨some 22, .ia 32 (.t 19) (.t 21), some (16, true)⟩,
  ⟨some 23, .fa 120 (.t 22) 0, some (16, true)⟩,
  ⟨some 24, .ld 4 (.t 23), some (16, true)⟩,
  ⟨some 25, .bn .neq 4 (.t 18) (.t 24), some (16, true)⟩,
  ⟨some 26, .pick (.t 16) (.t 25) (.c (.bool false)), none⟩] [[], [0], [1], [2], [3, 2], [2], [2], [6, 2], [5, 7, 2], [8, 2], [9, 2], [4, 10, 2], [2, 11]] (some [0, 3, 4, 7, 8, 9, 26])) c266_24) c266_27
def c266_28 : SC := .reg [⟨some 33, .bn .add 3 (.t 9) (.c (.int .i64 1)), none⟩,
  ⟨some 9, .mv (.t 33), none⟩] (some [0, 3, 4, 7, 8, 9])
def c266_17 : SC := .seq (.block 1 (.seq (.reg [⟨some 11, .mv (.t 9), none⟩,
  ⟨some 12, .ia 32 (.t 7) (.t 9), none⟩,
  ⟨some 13, .ld 120 (.t 12), none⟩,
  ⟨some 6, .alc 120, none⟩,
  ⟨some 5, .asg (.t 11), none⟩,
  ⟨none, .sto 120 (.t 6) (.t 13), none⟩] (some [0, 3, 4, 5, 6, 7, 8, 9])) c266_21)) c266_28
def c266_13 : SC := .seq (.cond (.t 10) .skip (.exit 0)) c266_17
def c266_11 : SC := .seq (.reg [⟨some 10, .bn .lss 3 (.t 9) (.t 8), none⟩] (some [0, 3, 4, 7, 8, 9, 10])) c266_13
def c266_9 : SC := .block 0 (.loop c266_11)
def c266_29 : SC := .seq (.reg [⟨some 34, .mv (.t 3), none⟩,
  ⟨some 2, .asg (.t 34), none⟩] (some [2])) .ret
def c266_6 : SC := .seq (.seq (.reg [⟨some 7, .mv (.t 0), none⟩,
  ⟨some 8, .len 32 (.t 7), none⟩,
  ⟨some 9, .mv (.c (.int .i64 0)), none⟩] (some [0, 3, 4, 7, 8, 9])) c266_9) c266_29
def c266_4 : SC := .seq (.reg [⟨some 4, .asg (.c (.int .i64 0)), none⟩] (some [0, 3, 4])) c266_6
def c266_2 : SC := .seq (.reg [⟨some 3, .asg (.c .nils), none⟩] (some [0, 3])) c266_4
/-- loop.example/g01075/impl.equationBlocks -/
def c266 : SC := .seq (.reg [⟨some 2, .asg (.c .nils), none⟩] (some [0])) c266_2
theorem s266 : slimC ⟨35, [0]⟩ (Try.f266.body.getD .skip) = some c266.strip := by kernel_rfl

def c265_2 : SC := .seq (.reg [⟨some 3, .mv (.t 0), none⟩,
  ⟨some 4, .mv (.t 0), none⟩,
  ⟨some 5, .len 68 (.t 4), none⟩,
  ⟨some 6, .bn .sub 3 (.t 5) (.c (.int .i64 1)), none⟩,
  ⟨some 7, .ia 68 (.t 3) (.t 6), none⟩,
  ⟨some 8, .ld 2 (.t 7), none⟩,
  ⟨some 2, .asg (.t 8), none⟩] (some [2])) .ret
/-- loop.example/g01075/impl.last[int64] -/
def c265 : SC := .seq (.reg [⟨some 2, .asg (.c (.int .i64 0)), none⟩] (some [0])) c265_2
theorem s265 : slimC ⟨9, [0]⟩ (Try.f265.body.getD .skip) = some c265.strip := by kernel_rfl

def c190_2 : SC := .seq (.reg [⟨some 3, .mv (.t 0), none⟩,
  ⟨some 4, .call (.f 266) [(.t 3)], none⟩,
  ⟨some 5, .call (.f 265) [(.t 4)], none⟩,
  ⟨some 6, .bn .lss 2 (.t 5) (.c (.int .i64 9)), none⟩,
  ⟨some 2, .asg (.t 6), none⟩] (some [2])) .ret
/-- loop.example/g01075/impl.blocksFit -/
def c190 : SC := .seq (.reg [⟨some 2, .asg (.c (.bool false)), none⟩] (some [0])) c190_2
theorem s190 : slimC ⟨7, [0]⟩ (Try.f190.body.getD .skip) = some c190.strip := by kernel_rfl

def c133_2 : SC := .seq (.reg [⟨some 5, .mv (.t 0), none⟩,
  ⟨some 6, .mv (.t 1), none⟩,
  ⟨some 7, .bn .sub 2 (.t 6) (.c (.int .i64 1)), none⟩,
  ⟨some 8, .call (.f 138) [(.t 5), (.c (.int .i64 0)), (.t 7)], none⟩,
  ⟨some 4, .asg (.t 8), none⟩] (some [4])) .ret
/-- loop.example/g01075/impl.index -/
def c133 : SC := .seq (.reg [⟨some 4, .asg (.c (.bool false)), none⟩] (some [0, 1])) c133_2
theorem s133 : slimC ⟨9, [0, 1]⟩ (Try.f133.body.getD .skip) = some c133.strip := by kernel_rfl

def c193_20 : SC := .seq (.reg [⟨some 4, .asg (.c (.bool false)), none⟩] (some [4])) .ret
def c193_19 : SC := .cond (.t 30) c193_20 .skip
def c193_17 : SC := .seq (.reg [⟨some 14, .mv (.t 6), none⟩,
  ⟨some 15, .mv (.t 1), none⟩,
  ⟨some 16, .call (.f 133) [(.t 14), (.t 15)], none⟩,
  ⟨some 17, .un .not (.t 16), none⟩,
  ⟨some 18, .mv (.t 17), none⟩,
  ⟨some 19, .mv (.t 5), some (18, false)⟩,
  ⟨some 20, .bn .gtr 3 (.t 19) (.c (.int .i64 0)), some (18, false)⟩,
  ⟨some 21, .mv (.t 20), some (18, false)⟩,
  ⟨some 22, .mv (.t 6), some (21, true)⟩,
  ⟨some 23, .mv (.t 0), some (21, true)⟩,
  ⟨some 24, .mv (.t 5), some (21, true)⟩,
  ⟨some 25, .bn .sub 3 (.t 24) (.c (.int .i64 1)), some (21, true)⟩,
  ⟨some 26, .ia 68 (.t 23) (.t 25), some (21, true)⟩,
  ⟨some 27, .ld 2 (.t 26), some (21, true)⟩,
  ⟨some 28, .bn .leq 2 (.t 22) (.t 27), some (21, true)⟩,
  ⟨some 29, .pick (.t 21) (.t 28) (.c (.bool false)), some (18, false)⟩,
  ⟨some 30, .pick (.t 18) (.c (.bool true)) (.t 29), none⟩] (some [0, 1, 7, 8, 9, 30])) c193_19
def c193_24 : SC := .reg [⟨some 31, .bn .add 3 (.t 9) (.c (.int .i64 1)), none⟩,
  ⟨some 9, .mv (.t 31), none⟩] (some [0, 1, 7, 8, 9])
def c193_13 : SC := .seq (.block 1 (.seq (.reg [⟨some 11, .mv (.t 9), none⟩,
  ⟨some 12, .ia 68 (.t 7) (.t 9), none⟩,
  ⟨some 13, .ld 2 (.t 12), none⟩,
  ⟨some 5, .asg (.t 11), none⟩,
  ⟨some 6, .asg (.t 13), none⟩] (some [0, 1, 5, 6, 7, 8, 9])) c193_17)) c193_24
def c193_9 : SC := .seq (.cond (.t 10) .skip (.exit 0)) c193_13
def c193_7 : SC := .seq (.reg [⟨some 10, .bn .lss 3 (.t 9) (.t 8), none⟩] (some [0, 1, 7, 8, 9, 10])) c193_9
def c193_5 : SC := .block 0 (.loop c193_7)
def c193_25 : SC := .seq (.reg [⟨some 4, .asg (.c (.bool true)), none⟩] (some [4])) .ret
def c193_2 : SC := .seq (.seq (.reg [⟨some 7, .mv (.t 0), none⟩,
  ⟨some 8, .len 68 (.t 7), none⟩,
  ⟨some 9, .mv (.c (.int .i64 0)), none⟩] (some [0, 1, 7, 8, 9])) c193_5) c193_25
/-- loop.example/g01075/impl.increasing -/
def c193 : SC := .seq (.reg [⟨some 4, .asg (.c (.bool false)), none⟩] (some [0, 1])) c193_2
theorem s193 : slimC ⟨32, [0, 1]⟩ (Try.f193.body.getD .skip) = some c193.strip := by kernel_rfl

def c192_2 : SC := .seq (.reg [⟨some 4, .fa 120 (.t 2) 2, none⟩,
  ⟨some 5, .ld 68 (.t 4), none⟩,
  ⟨some 6, .ld 32 (.t 1), none⟩,
  ⟨some 7, .len 32 (.t 6), none⟩,
  ⟨some 8, .call (.f 193) [(.t 5), (.t 7)], none⟩,
  ⟨some 9, .un .not (.t 8), none⟩,
  ⟨some 3, .asg (.t 9), none⟩] (some [3])) .ret
/-- loop.example/g01075/impl.ValidEquations$1 -/
def c192 : SC := .seq (.reg [⟨some 2, .bx 120 (.t 0), none⟩,
  ⟨some 3, .asg (.c (.bool false)), none⟩] (some [1, 2])) c192_2
theorem s192 : slimC ⟨10, [0, 1]⟩ (Try.f192.body.getD .skip) = some c192.strip := by kernel_rfl

def c267_20 : SC := .seq (.reg [⟨some 17, .mv (.t 5), none⟩,
  ⟨some 4, .asg (.t 17), none⟩] (some [4])) .ret
def c267_19 : SC := .cond (.t 16) c267_20 .skip
def c267_17 : SC := .seq (.reg [⟨some 11, .mv (.t 1), none⟩,
  ⟨some 12, .mv (.t 0), none⟩,
  ⟨some 13, .mv (.t 5), none⟩,
  ⟨some 14, .ia 32 (.t 12) (.t 13), none⟩,
  ⟨some 15, .ld 120 (.t 14), none⟩,
  ⟨some 16, .call (.t 11) [(.t 15)], none⟩] (some [0, 1, 5, 7, 8, 16])) c267_19
def c267_24 : SC := .reg [⟨some 18, .bn .add 3 (.t 8) (.c (.int .i64 1)), none⟩,
  ⟨some 8, .mv (.t 18), none⟩] (some [0, 1, 7, 8])
def c267_13 : SC := .seq (.block 1 (.seq (.reg [⟨some 10, .mv (.t 8), none⟩,
  ⟨some 5, .asg (.t 10), none⟩] (some [0, 1, 5, 7, 8])) c267_17)) c267_24
def c267_9 : SC := .seq (.cond (.t 9) .skip (.exit 0)) c267_13
def c267_7 : SC := .seq (.reg [⟨some 9, .bn .lss 3 (.t 8) (.t 7), none⟩] (some [0, 1, 7, 8, 9])) c267_9
def c267_5 : SC := .block 0 (.loop c267_7)
def c267_25 : SC := .seq (.reg [⟨some 4, .asg (.c (.int .i64 (-1))), none⟩] (some [4])) .ret
def c267_2 : SC := .seq (.seq (.reg [⟨some 6, .mv (.t 0), none⟩,
  ⟨some 7, .len 32 (.t 6), none⟩,
  ⟨some 8, .mv (.c (.int .i64 0)), none⟩] (some [0, 1, 7, 8])) c267_5) c267_25
/-- slices.IndexFunc[[]loop.example/g01075/impl.Equation,loop.example/g01075/impl.Equation] -/
def c267 : SC := .seq (.reg [⟨some 4, .asg (.c (.int .i64 0)), none⟩] (some [0, 1])) c267_2
theorem s267 : slimC ⟨19, [0, 1]⟩ (Try.f267.body.getD .skip) = some c267.strip := by kernel_rfl

def c191_2 : SC := .seq (.reg [⟨some 5, .mv (.t 0), none⟩,
  ⟨some 6, .mv (.t 1), none⟩,
  ⟨some 7, .call (.f 267) [(.t 5), (.t 6)], none⟩,
  ⟨some 8, .bn .geq 3 (.t 7) (.c (.int .i64 0)), none⟩,
  ⟨some 4, .asg (.t 8), none⟩] (some [4])) .ret
/-- slices.ContainsFunc[[]loop.example/g01075/impl.Equation,loop.example/g01075/impl.Equation] -/
def c191 : SC := .seq (.reg [⟨some 4, .asg (.c (.bool false)), none⟩] (some [0, 1])) c191_2
theorem s191 : slimC ⟨9, [0, 1]⟩ (Try.f191.body.getD .skip) = some c191.strip := by kernel_rfl

def c100_6 : SC := .seq (.reg [⟨some 2, .asg (.c (.bool false)), none⟩] (some [2])) .ret
def c100_5 : SC := .cond (.t 11) c100_6 .skip
def c100_10 : SC := .seq (.reg [⟨some 12, .ld 32 (.t 1), none⟩,
  ⟨some 13, .mkf 192 [(.t 1)], none⟩,
  ⟨some 14, .call (.f 191) [(.t 12), (.t 13)], none⟩,
  ⟨some 15, .un .not (.t 14), none⟩,
  ⟨some 2, .asg (.t 15), none⟩] (some [2])) .ret
def c100_2 : SC := .seq (.seq (.reg [⟨some 3, .ld 32 (.t 1), none⟩,
  ⟨some 4, .len 32 (.t 3), none⟩,
  ⟨some 5, .call (.f 138) [(.t 4), (.c (.int .i64 1)), (.c (.int .i64 120))], none⟩,
  ⟨some 6, .un .not (.t 5), none⟩,
  ⟨some 7, .mv (.t 6), none⟩,
  ⟨some 8, .ld 32 (.t 1), some (7, false)⟩,
  ⟨some 9, .call (.f 190) [(.t 8)], some (7, false)⟩,
  ⟨some 10, .un .not (.t 9), some (7, false)⟩,
  ⟨some 11, .pick (.t 7) (.c (.bool true)) (.t 10), none⟩] (some [1, 11])) c100_5) c100_10
/-- loop.example/g01075/impl.ValidEquations -/
def c100 : SC := .seq (.reg [⟨some 1, .bx 32 (.t 0), none⟩,
  ⟨some 2, .asg (.c (.bool false)), none⟩] (some [1])) c100_2
theorem s100 : slimC ⟨16, [0]⟩ (Try.f100.body.getD .skip) = some c100.strip := by kernel_rfl

def c101_20 : SC := .cond (.t 13) .skip (.exit 2)
def c101_26 : SC := .reg [⟨some 27, .mv (.t 5), none⟩,
  ⟨some 28, .bn .quo 2 (.t 27) (.c (.int .i64 128)), none⟩,
  ⟨some 5, .asg (.t 28), none⟩] (some [0, 5, 6, 7, 8])
def c101_23 : SC := .block 3 (.seq (.reg [⟨some 14, .mv (.t 0), none⟩,
  ⟨some 15, .mv (.t 0), none⟩,
  ⟨some 16, .nilc (.t 15), none⟩,
  ⟨some 17, .fa 124 (.t 16) 0, none⟩,
  ⟨some 18, .ld 107 (.t 17), none⟩,
  ⟨some 19, .mv (.t 5), none⟩,
  ⟨some 20, .bn .rem 2 (.t 19) (.c (.int .i64 128)), none⟩,
  ⟨some 21, .bn .add 2 (.c (.int .i64 128)) (.t 20), none⟩,
  ⟨some 22, .cvt 2 5 (.t 21), none⟩,
  ⟨some 23, .bsl 107 1 [(0, (.t 22))], none⟩,
  ⟨some 24, .app 107 107 (.t 18) (.t 23), none⟩,
  ⟨some 25, .nilc (.t 14), none⟩,
  ⟨some 26, .fa 124 (.t 25) 0, none⟩,
  ⟨none, .sto 107 (.t 26) (.t 24), none⟩] (some [0, 5, 6, 7, 8])) c101_26)
def c101_17 : SC := .seq (.seq (.reg [⟨some 12, .mv (.t 5), none⟩,
  ⟨some 13, .bn .geq 2 (.t 12) (.c (.int .i64 128)), none⟩] (some [0, 5, 6, 7, 8, 13])) c101_20) c101_23
def c101_27 : SC := .reg [⟨some 29, .mv (.t 0), none⟩,
  ⟨some 30, .mv (.t 0), none⟩,
  ⟨some 31, .nilc (.t 30), none⟩,
  ⟨some 32, .fa 124 (.t 31) 0, none⟩,
  ⟨some 33, .ld 107 (.t 32), none⟩,
  ⟨some 34, .mv (.t 5), none⟩,
  ⟨some 35, .cvt 2 5 (.t 34), none⟩,
  ⟨some 36, .bsl 107 1 [(0, (.t 35))], none⟩,
  ⟨some 37, .app 107 107 (.t 33) (.t 36), none⟩,
  ⟨some 38, .nilc (.t 29), none⟩,
  ⟨some 39, .fa 124 (.t 38) 0, none⟩,
  ⟨none, .sto 107 (.t 39) (.t 37), none⟩] (some [0, 6, 7, 8])
def c101_14 : SC := .seq (.block 2 (.loop c101_17)) c101_27
def c101_28 : SC := .reg [⟨some 40, .bn .add 3 (.t 8) (.c (.int .i64 1)), none⟩,
  ⟨some 8, .mv (.t 40), none⟩] (some [0, 6, 7, 8])
def c101_10 : SC := .seq (.block 1 (.seq (.reg [⟨some 10, .ia 68 (.t 6) (.t 8), none⟩,
  ⟨some 11, .ld 2 (.t 10), none⟩,
  ⟨some 5, .asg (.t 11), none⟩] (some [0, 5, 6, 7, 8])) c101_14)) c101_28
def c101_6 : SC := .seq (.cond (.t 9) .skip (.exit 0)) c101_10
def c101_4 : SC := .seq (.reg [⟨some 9, .bn .lss 3 (.t 8) (.t 7), none⟩] (some [0, 6, 7, 8, 9])) c101_6
def c101_2 : SC := .block 0 (.loop c101_4)
/-- (*loop.example/g01075/impl.writer).number -/
def c101 : SC := .seq (.reg [⟨some 6, .mv (.t 1), none⟩,
  ⟨some 7, .len 68 (.t 6), none⟩,
  ⟨some 8, .mv (.c (.int .i64 0)), none⟩] (some [0, 6, 7, 8])) c101_2
theorem s101 : slimC ⟨41, [0, 1]⟩ (Try.f101.body.getD .skip) = some c101.strip := by kernel_rfl

def c102_6 : SC := .seq (.reg [⟨some 2, .asg (.c (.int .i64 1)), none⟩] (some [2])) .ret
def c102_5 : SC := .cond (.t 3) c102_6 .skip
def c102_10 : SC := .seq (.reg [⟨some 2, .asg (.c (.int .i64 0)), none⟩] (some [2])) .ret
def c102_2 : SC := .seq (.seq (.reg [⟨some 3, .mv (.t 0), none⟩] (some [3])) c102_5) c102_10
/-- loop.example/g01075/impl.truth -/
def c102 : SC := .seq (.reg [⟨some 2, .asg (.c (.int .i64 0)), none⟩] (some [0])) c102_2
theorem s102 : slimC ⟨4, [0]⟩ (Try.f102.body.getD .skip) = some c102.strip := by kernel_rfl

def c103_10 : SC := .seq (.reg [⟨some 2, .asg (.c (.str [])), none⟩] (some [0, 2])) .ret
def c103_9 : SC := .cond (.t 25) c103_10 .skip
def c103_14 : SC := .seq (.reg [⟨some 26, .mv (.t 4), none⟩,
  ⟨some 27, .cvt 107 9 (.t 26), none⟩,
  ⟨some 2, .asg (.t 27), none⟩] (some [0, 2])) .ret
def c103_6 : SC := .seq (.seq (.reg [⟨some 23, .mv (.t 4), none⟩,
  ⟨some 24, .len 107 (.t 23), none⟩,
  ⟨some 25, .bn .gtr 3 (.t 24) (.c (.int .i64 6000)), none⟩] (some [0, 4, 25])) c103_9) c103_14
def c103_4 : SC := .seq (.reg [⟨some 11, .mv (.t 0), none⟩,
  ⟨some 12, .nilc (.t 11), none⟩,
  ⟨some 13, .fa 124 (.t 12) 0, none⟩,
  ⟨some 14, .ld 107 (.t 13), none⟩,
  ⟨some 15, .mv (.t 3), none⟩,
  ⟨some 16, .bn .quo 2 (.t 15) (.c (.int .i64 256)), none⟩,
  ⟨some 17, .cvt 2 5 (.t 16), none⟩,
  ⟨some 18, .mv (.t 3), none⟩,
  ⟨some 19, .bn .rem 2 (.t 18) (.c (.int .i64 256)), none⟩,
  ⟨some 20, .cvt 2 5 (.t 19), none⟩,
  ⟨some 21, .bsl 107 2 [(0, (.t 17)), (1, (.t 20))], none⟩,
  ⟨some 22, .app 107 107 (.t 14) (.t 21), none⟩,
  ⟨some 4, .asg (.t 22), none⟩] (some [0, 4])) c103_6
def c103_2 : SC := .seq (.reg [⟨some 5, .mv (.t 0), none⟩,
  ⟨some 6, .nilc (.t 5), none⟩,
  ⟨some 7, .fa 124 (.t 6) 0, none⟩,
  ⟨some 8, .ld 107 (.t 7), none⟩,
  ⟨some 9, .cvt 107 9 (.t 8), none⟩,
  ⟨some 10, .call (.f 194) [(.t 9), (.c (.int .i64 65535))], none⟩,
  ⟨some 3, .asg (.t 10), none⟩] (some [0, 3])) c103_4
/-- (*loop.example/g01075/impl.writer).image -/
def c103 : SC := .seq (.reg [⟨some 2, .asg (.c (.str [])), none⟩] (some [0])) c103_2
theorem s103 : slimC ⟨28, [0]⟩ (Try.f103.body.getD .skip) = some c103.strip := by kernel_rfl

def c29_6 : SC := .seq (.reg [⟨some 2, .asg (.c (.str [])), none⟩] (some [2])) .ret
def c29_5 : SC := .cond (.t 8) c29_6 .skip
def c29_31 : SC := .reg [⟨some 37, .mv (.t 3), none⟩,
  ⟨some 38, .fa 120 (.t 5) 2, none⟩,
  ⟨some 39, .ld 68 (.t 38), none⟩,
  ⟨some 40, .call (.f 101) [(.t 37), (.t 39)], none⟩] (some [3, 17, 18, 19])
def c29_29 : SC := .seq (.drw [⟨some 23, .mv (.t 3), none⟩,
  ⟨some 24, .fa 120 (.t 5) 0, none⟩,
  ⟨some 25, .ld 4 (.t 24), none⟩,
  ⟨some 26, .call (.f 102) [(.t 25)], none⟩,
  ⟨some 27, .fa 120 (.t 5) 1, none⟩,
  ⟨some 28, .ld 4 (.t 27), none⟩,
  ⟨some 29, .call (.f 102) [(.t 28)], none⟩,
  ⟨some 30, .bn .mul 2 (.c (.int .i64 2)) (.t 29), none⟩,
  ⟨some 31, .bn .add 2 (.t 26) (.t 30), none⟩,
  ⟨some 32, .fa 120 (.t 5) 2, none⟩,
  ⟨some 33, .ld 68 (.t 32), none⟩,
  ⟨some 34, .len 68 (.t 33), none⟩,
  ⟨some 35, .bsl 68 2 [(0, (.t 31)), (1, (.t 34))], none⟩,
  ⟨some 36, .call (.f 101) [(.t 23), (.t 35)], none⟩] [[], [], [1], [2], [], [4], [5, 3], [6], [3, 7], [], [9], [10], [8, 11], [0, 12, 6]] (some [3, 5, 17, 18, 19])) c29_31
def c29_32 : SC := .reg [⟨some 41, .bn .add 3 (.t 19) (.c (.int .i64 1)), none⟩,
  ⟨some 19, .mv (.t 41), none⟩] (some [3, 17, 18, 19])
def c29_25 : SC := .seq (.block 1 (.seq (.reg [⟨some 21, .ia 32 (.t 17) (.t 19), none⟩,
  ⟨some 22, .ld 120 (.t 21), none⟩,
  ⟨some 5, .alc 120, none⟩,
  ⟨none, .sto 120 (.t 5) (.t 22), none⟩] (some [3, 5, 17, 18, 19])) c29_29)) c29_32
def c29_21 : SC := .seq (.cond (.t 20) .skip (.exit 0)) c29_25
def c29_19 : SC := .seq (.reg [⟨some 20, .bn .lss 3 (.t 19) (.t 18), none⟩] (some [3, 17, 18, 19, 20])) c29_21
def c29_17 : SC := .block 0 (.loop c29_19)
def c29_33 : SC := .seq (.reg [⟨some 42, .mv (.t 3), none⟩,
  ⟨some 43, .call (.f 103) [(.t 42)], none⟩,
  ⟨some 2, .asg (.t 43), none⟩] (some [2])) .ret
def c29_14 : SC := .seq (.seq (.reg [⟨some 17, .mv (.t 0), none⟩,
  ⟨some 18, .len 32 (.t 17), none⟩,
  ⟨some 19, .mv (.c (.int .i64 0)), none⟩] (some [3, 17, 18, 19])) c29_17) c29_33
def c29_12 : SC := .seq (.reg [⟨some 12, .mv (.t 3), none⟩,
  ⟨some 13, .mv (.t 0), none⟩,
  ⟨some 14, .len 32 (.t 13), none⟩,
  ⟨some 15, .bsl 68 1 [(0, (.t 14))], none⟩,
  ⟨some 16, .call (.f 101) [(.t 12), (.t 15)], none⟩] (some [0, 3])) c29_14
def c29_10 : SC := .seq (.reg [⟨some 9, .bsl 107 1 [(0, (.c (.int .u8 3)))], none⟩,
  ⟨some 10, .bld 124 [(0, (.t 9))], none⟩,
  ⟨some 11, .bx 124 (.t 10), none⟩,
  ⟨some 3, .asg (.t 11), none⟩] (some [0, 3])) c29_12
def c29_2 : SC := .seq (.seq (.reg [⟨some 6, .mv (.t 0), none⟩,
  ⟨some 7, .call (.f 100) [(.t 6)], none⟩,
  ⟨some 8, .un .not (.t 7), none⟩] (some [0, 8])) c29_5) c29_10
/-- loop.example/g01075/impl.EncodeEquations -/
def c29 : SC := .seq (.reg [⟨some 2, .asg (.c (.str [])), none⟩] (some [0])) c29_2
theorem s29 : slimC ⟨44, [0]⟩ (Try.f29.body.getD .skip) = some c29.strip := by kernel_rfl

def c43_8 : SC := .seq (.reg [⟨some 16, .mv (.t 5), none⟩,
  ⟨some 2, .asg (.c .nils), none⟩,
  ⟨some 3, .asg (.t 16), none⟩] (some [2, 3])) .ret
def c43_7 : SC := .cond (.t 15) c43_8 .skip
def c43_22 : SC := .cond (.t 27) .skip (.exit 0)
def c43_29 : SC := .reg [⟨some 32, .mv (.t 6), none⟩,
  ⟨some 33, .mv (.t 8), none⟩,
  ⟨some 34, .bn .rem 2 (.t 33) (.c (.int .i64 2)), none⟩,
  ⟨some 35, .bn .eql 2 (.t 34) (.c (.int .i64 1)), none⟩,
  ⟨some 36, .mv (.t 8), none⟩,
  ⟨some 37, .bn .quo 2 (.t 36) (.c (.int .i64 2)), none⟩,
  ⟨some 38, .bn .eql 2 (.t 37) (.c (.int .i64 1)), none⟩,
  ⟨some 39, .mv (.t 4), none⟩,
  ⟨some 40, .mv (.t 4), none⟩,
  ⟨some 41, .kc (.f 122) [(.t 40)] 39 4, none⟩,
  ⟨some 42, .call (.f 123) [(.t 39), (.t 41)], none⟩,
  ⟨some 43, .bld 120 [(0, (.t 35)), (1, (.t 38)), (2, (.t 42))], none⟩,
  ⟨some 44, .bsl 32 1 [(0, (.t 43))], none⟩,
  ⟨some 45, .app 32 32 (.t 32) (.t 44), none⟩,
  ⟨some 6, .asg (.t 45), none⟩] (some [0, 4, 6, 7])
def c43_30 : SC := .reg [⟨some 28, .mv (.t 7), none⟩,
  ⟨some 29, .bn .sub 2 (.t 28) (.c (.int .i64 1)), none⟩,
  ⟨some 7, .asg (.t 29), none⟩] (some [0, 4, 6, 7])
def c43_25 : SC := .seq (.block 1 (.seq (.reg [⟨some 30, .mv (.t 4), none⟩,
  ⟨some 31, .call (.f 122) [(.t 30)], none⟩,
  ⟨some 8, .asg (.t 31), none⟩] (some [0, 4, 6, 7, 8])) c43_29)) c43_30
def c43_19 : SC := .seq (.seq (.reg [⟨some 19, .mv (.t 7), none⟩,
  ⟨some 20, .bn .gtr 2 (.t 19) (.c (.int .i64 0)), none⟩,
  ⟨some 21, .mv (.t 20), none⟩,
  ⟨some 22, .mv (.t 4), some (21, true)⟩,
  ⟨some 23, .nilc (.t 22), some (21, true)⟩,
  ⟨some 24, .fa 160 (.t 23) 1, some (21, true)⟩,
  ⟨some 25, .ld 4 (.t 24), some (21, true)⟩,
  ⟨some 26, .un .not (.t 25), some (21, true)⟩,
  ⟨some 27, .pick (.t 21) (.t 26) (.c (.bool false)), none⟩] (some [0, 4, 6, 7, 27])) c43_22) c43_25
def c43_17 : SC := .block 0 (.loop c43_19)
def c43_35 : SC := .seq (.reg [⟨some 2, .asg (.c .nils), none⟩,
  ⟨some 3, .asg (.c (.int .i64 9)), none⟩] (some [2, 3])) .ret
def c43_34 : SC := .cond (.t 49) c43_35 .skip
def c43_39 : SC := .seq (.reg [⟨some 50, .mv (.t 6), none⟩,
  ⟨some 2, .asg (.t 50), none⟩,
  ⟨some 3, .asg (.c (.int .i64 0)), none⟩] (some [2, 3])) .ret
def c43_31 : SC := .seq (.seq (.reg [⟨some 46, .mv (.t 6), none⟩,
  ⟨some 47, .call (.f 29) [(.t 46)], none⟩,
  ⟨some 48, .mv (.t 0), none⟩,
  ⟨some 49, .bn .neq 9 (.t 47) (.t 48), none⟩] (some [6, 49])) c43_34) c43_39
def c43_14 : SC := .seq (.seq (.reg [⟨some 17, .mv (.t 4), none⟩,
  ⟨some 18, .call (.f 122) [(.t 17)], none⟩,
  ⟨some 7, .asg (.t 18), none⟩] (some [0, 4, 6, 7])) c43_17) c43_31
def c43_12 : SC := .seq (.reg [⟨some 6, .asg (.c .nils), none⟩] (some [0, 4, 6])) c43_14
def c43_4 : SC := .seq (.seq (.reg [⟨some 14, .mv (.t 5), none⟩,
  ⟨some 15, .bn .neq 2 (.t 14) (.c (.int .i64 0)), none⟩] (some [0, 4, 5, 15])) c43_7) c43_12
def c43_2 : SC := .seq (.reg [⟨some 10, .mv (.t 0), none⟩,
  ⟨some 11, .call (.f 121) [(.t 10), (.c (.int .i64 3))], none⟩,
  ⟨some 9, .mv (.t 11), none⟩,
  ⟨some 12, .ex (.t 9) 0, none⟩,
  ⟨some 13, .ex (.t 9) 1, none⟩,
  ⟨some 4, .asg (.t 12), none⟩,
  ⟨some 5, .asg (.t 13), none⟩] (some [0, 4, 5])) c43_4
/-- loop.example/g01075/impl.DecodeEquations -/
def c43 : SC := .seq (.reg [⟨some 2, .asg (.c .nils), none⟩,
  ⟨some 3, .asg (.c (.int .i64 0)), none⟩] (some [0])) c43_2
theorem s43 : slimC ⟨51, [0]⟩ (Try.f43.body.getD .skip) = some c43.strip := by kernel_rfl

def c59_6 : SC := .seq (.reg [⟨some 4, .asg (.c (.bool false)), none⟩] (some [4])) .ret
def c59_5 : SC := .cond (.t 10) c59_6 .skip
def c59_18 : SC := .cond (.t 14) .skip (.exit 0)
def c59_26 : SC := .seq (.reg [⟨some 4, .asg (.c (.bool false)), none⟩] (some [4])) .ret
def c59_25 : SC := .cond (.t 25) c59_26 .skip
def c59_30 : SC := .reg [⟨some 15, .mv (.t 5), none⟩,
  ⟨some 16, .bn .add 3 (.t 15) (.c (.int .i64 1)), none⟩,
  ⟨some 5, .asg (.t 16), none⟩] (some [0, 1, 5])
def c59_21 : SC := .seq (.block 1 (.seq (.drw [⟨some 17, .mv (.t 0), none⟩,
  ⟨some 18, .mv (.t 5), none⟩,
  ⟨some 19, .ia 68 (.t 17) (.t 18), none⟩,
  ⟨some 20, .ld 2 (.t 19), none⟩,
  ⟨some 21, .mv (.t 1), none⟩,
  ⟨some 22, .mv (.t 5), none⟩,
  ⟨some 23, .ia 68 (.t 21) (.t 22), none⟩,
  ⟨some 24, .ld 2 (.t 23), none⟩,
  ⟨some 25, .bn .neq 2 (.t 20) (.t 24), none⟩] [[], [], [0, 1], [2], [], [], [4, 5], [6], [3, 7]] (some [0, 1, 5, 25])) c59_25)) c59_30
def c59_15 : SC := .seq (.seq (.reg [⟨some 11, .mv (.t 5), none⟩,
  ⟨some 12, .mv (.t 0), none⟩,
  ⟨some 13, .len 68 (.t 12), none⟩,
  ⟨some 14, .bn .lss 3 (.t 11) (.t 13), none⟩] (some [0, 1, 5, 14])) c59_18) c59_21
def c59_13 : SC := .block 0 (.loop c59_15)
def c59_31 : SC := .seq (.reg [⟨some 4, .asg (.c (.bool true)), none⟩] (some [4])) .ret
def c59_10 : SC := .seq (.seq (.reg [⟨some 5, .asg (.c (.int .i64 0)), none⟩] (some [0, 1, 5])) c59_13) c59_31
def c59_2 : SC := .seq (.seq (.reg [⟨some 6, .mv (.t 0), none⟩,
  ⟨some 7, .len 68 (.t 6), none⟩,
  ⟨some 8, .mv (.t 1), none⟩,
  ⟨some 9, .len 68 (.t 8), none⟩,
  ⟨some 10, .bn .neq 3 (.t 7) (.t 9), none⟩] (some [0, 1, 10])) c59_5) c59_10
/-- loop.example/g01075/laws.eqInt64S -/
def c59 : SC := .seq (.reg [⟨some 4, .asg (.c (.bool false)), none⟩] (some [0, 1])) c59_2
theorem s59 : slimC ⟨26, [0, 1]⟩ (Try.f59.body.getD .skip) = some c59.strip := by kernel_rfl

def c104_6 : SC := .seq (.reg [⟨some 4, .asg (.c (.bool false)), none⟩] (some [4])) .ret
def c104_5 : SC := .cond (.t 9) c104_6 .skip
def c104_14 : SC := .seq (.reg [⟨some 4, .asg (.c (.bool false)), none⟩] (some [4])) .ret
def c104_13 : SC := .cond (.t 14) c104_14 .skip
def c104_22 : SC := .seq (.reg [⟨some 4, .asg (.c (.bool false)), none⟩] (some [4])) .ret
def c104_21 : SC := .cond (.t 20) c104_22 .skip
def c104_26 : SC := .seq (.reg [⟨some 4, .asg (.c (.bool true)), none⟩] (some [4])) .ret
def c104_18 : SC := .seq (.seq (.reg [⟨some 15, .fa 120 (.t 2) 2, none⟩,
  ⟨some 16, .ld 68 (.t 15), none⟩,
  ⟨some 17, .fa 120 (.t 3) 2, none⟩,
  ⟨some 18, .ld 68 (.t 17), none⟩,
  ⟨some 19, .call (.f 59) [(.t 16), (.t 18)], none⟩,
  ⟨some 20, .un .not (.t 19), none⟩] (some [20])) c104_21) c104_26
def c104_10 : SC := .seq (.seq (.reg [⟨some 10, .fa 120 (.t 2) 1, none⟩,
  ⟨some 11, .ld 4 (.t 10), none⟩,
  ⟨some 12, .fa 120 (.t 3) 1, none⟩,
  ⟨some 13, .ld 4 (.t 12), none⟩,
  ⟨some 14, .bn .neq 4 (.t 11) (.t 13), none⟩] (some [2, 3, 14])) c104_13) c104_18
def c104_2 : SC := .seq (.seq (.reg [⟨some 5, .fa 120 (.t 2) 0, none⟩,
  ⟨some 6, .ld 4 (.t 5), none⟩,
  ⟨some 7, .fa 120 (.t 3) 0, none⟩,
  ⟨some 8, .ld 4 (.t 7), none⟩,
  ⟨some 9, .bn .neq 4 (.t 6) (.t 8), none⟩] (some [2, 3, 9])) c104_5) c104_10
/-- loop.example/g01075/laws.eqEquation -/
def c104 : SC := .seq (.reg [⟨some 2, .bx 120 (.t 0), none⟩,
  ⟨some 3, .bx 120 (.t 1), none⟩,
  ⟨some 4, .asg (.c (.bool false)), none⟩] (some [2, 3])) c104_2
theorem s104 : slimC ⟨21, [0, 1]⟩ (Try.f104.body.getD .skip) = some c104.strip := by kernel_rfl

def c30_6 : SC := .seq (.reg [⟨some 4, .asg (.c (.bool false)), none⟩] (some [4])) .ret
def c30_5 : SC := .cond (.t 10) c30_6 .skip
def c30_18 : SC := .cond (.t 14) .skip (.exit 0)
def c30_26 : SC := .seq (.reg [⟨some 4, .asg (.c (.bool false)), none⟩] (some [4])) .ret
def c30_25 : SC := .cond (.t 26) c30_26 .skip
def c30_30 : SC := .reg [⟨some 15, .mv (.t 5), none⟩,
  ⟨some 16, .bn .add 3 (.t 15) (.c (.int .i64 1)), none⟩,
  ⟨some 5, .asg (.t 16), none⟩] (some [0, 1, 5])
def c30_21 : SC := .seq (.block 1 (.seq (.drw [⟨some 17, .mv (.t 0), none⟩,
  ⟨some 18, .mv (.t 5), none⟩,
  ⟨some 19, .ia 32 (.t 17) (.t 18), none⟩,
  ⟨some 20, .ld 120 (.t 19), none⟩,
  ⟨some 21, .mv (.t 1), none⟩,
  ⟨some 22, .mv (.t 5), none⟩,
  ⟨some 23, .ia 32 (.t 21) (.t 22), none⟩,
  ⟨some 24, .ld 120 (.t 23), none⟩,
  ⟨some 25, .call (.f 104) [(.t 20), (.t 24)], none⟩,
  ⟨some 26, .un .not (.t 25), none⟩] [[], [], [0, 1], [2], [], [], [4, 5], [6], [3, 7], [8]] (some [0, 1, 5, 26])) c30_25)) c30_30
def c30_15 : SC := .seq (.seq (.reg [⟨some 11, .mv (.t 5), none⟩,
  ⟨some 12, .mv (.t 0), none⟩,
  ⟨some 13, .len 32 (.t 12), none⟩,
  ⟨some 14, .bn .lss 3 (.t 11) (.t 13), none⟩] (some [0, 1, 5, 14])) c30_18) c30_21
def c30_13 : SC := .block 0 (.loop c30_15)
def c30_31 : SC := .seq (.reg [⟨some 4, .asg (.c (.bool true)), none⟩] (some [4])) .ret
def c30_10 : SC := .seq (.seq (.reg [⟨some 5, .asg (.c (.int .i64 0)), none⟩] (some [0, 1, 5])) c30_13) c30_31
def c30_2 : SC := .seq (.seq (.reg [⟨some 6, .mv (.t 0), none⟩,
  ⟨some 7, .len 32 (.t 6), none⟩,
  ⟨some 8, .mv (.t 1), none⟩,
  ⟨some 9, .len 32 (.t 8), none⟩,
  ⟨some 10, .bn .neq 3 (.t 7) (.t 9), none⟩] (some [0, 1, 10])) c30_5) c30_10
/-- loop.example/g01075/laws.eqEquationS -/
def c30 : SC := .seq (.reg [⟨some 4, .asg (.c (.bool false)), none⟩] (some [0, 1])) c30_2
theorem s30 : slimC ⟨27, [0, 1]⟩ (Try.f30.body.getD .skip) = some c30.strip := by kernel_rfl

def c61_10 : SC := .cond (.t 9) .skip (.exit 0)
def c61_17 : SC := .reg [⟨some 16, .mv (.t 1), none⟩,
  ⟨some 17, .bn .add 3 (.t 16) (.c (.int .i64 1)), none⟩,
  ⟨some 1, .asg (.t 17), none⟩] (some [0, 1, 5])
def c61_18 : SC := .reg [⟨some 10, .mv (.t 5), none⟩,
  ⟨some 11, .bn .add 3 (.t 10) (.c (.int .i64 1)), none⟩,
  ⟨some 5, .asg (.t 11), none⟩] (some [0, 1, 5])
def c61_13 : SC := .seq (.block 1 (.seq (.reg [⟨some 12, .mv (.t 0), none⟩,
  ⟨some 13, .mv (.t 5), none⟩,
  ⟨some 14, .mv (.t 1), none⟩,
  ⟨some 15, .ia 68 (.t 12) (.t 13), none⟩,
  ⟨none, .sto 2 (.t 15) (.t 14), none⟩] (some [0, 1, 5])) c61_17)) c61_18
def c61_7 : SC := .seq (.seq (.reg [⟨some 6, .mv (.t 5), none⟩,
  ⟨some 7, .mv (.t 0), none⟩,
  ⟨some 8, .len 68 (.t 7), none⟩,
  ⟨some 9, .bn .lss 3 (.t 6) (.t 8), none⟩] (some [0, 1, 5, 9])) c61_10) c61_13
def c61_5 : SC := .block 0 (.loop c61_7)
def c61_19 : SC := .seq (.reg [⟨some 18, .mv (.t 1), none⟩,
  ⟨some 4, .asg (.t 18), none⟩] (some [0, 4])) .ret
def c61_2 : SC := .seq (.seq (.reg [⟨some 5, .asg (.c (.int .i64 0)), none⟩] (some [0, 1, 5])) c61_5) c61_19
/-- loop.example/g01075/laws.markInt64S -/
def c61 : SC := .seq (.reg [⟨some 4, .asg (.c (.int .i64 0)), none⟩] (some [0, 1])) c61_2
theorem s61 : slimC ⟨19, [0]⟩ (Try.f61.body.getD .skip) = some c61.strip := by kernel_rfl

def c44_10 : SC := .cond (.t 9) .skip (.exit 0)
def c44_23 : SC := .reg [⟨some 30, .mv (.t 0), none⟩,
  ⟨some 31, .mv (.t 5), none⟩,
  ⟨some 32, .ia 32 (.t 30) (.t 31), none⟩,
  ⟨some 33, .fa 120 (.t 32) 2, none⟩,
  ⟨some 34, .ld 68 (.t 33), none⟩,
  ⟨some 35, .mv (.t 1), none⟩,
  ⟨some 36, .call (.f 61) [(.t 34), (.t 35)], none⟩,
  ⟨some 1, .asg (.t 36), none⟩] (some [0, 1, 5])
def c44_21 : SC := .seq (.reg [⟨some 28, .mv (.t 1), none⟩,
  ⟨some 29, .bn .add 3 (.t 28) (.c (.int .i64 1)), none⟩,
  ⟨some 1, .asg (.t 29), none⟩] (some [0, 1, 5])) c44_23
def c44_19 : SC := .seq (.reg [⟨some 21, .mv (.t 0), none⟩,
  ⟨some 22, .mv (.t 5), none⟩,
  ⟨some 23, .mv (.t 1), none⟩,
  ⟨some 24, .bn .rem 3 (.t 23) (.c (.int .i64 3)), none⟩,
  ⟨some 25, .bn .eql 3 (.t 24) (.c (.int .i64 0)), none⟩,
  ⟨some 26, .ia 32 (.t 21) (.t 22), none⟩,
  ⟨some 27, .fa 120 (.t 26) 1, none⟩,
  ⟨none, .sto 4 (.t 27) (.t 25), none⟩] (some [0, 1, 5])) c44_21
def c44_17 : SC := .seq (.reg [⟨some 19, .mv (.t 1), none⟩,
  ⟨some 20, .bn .add 3 (.t 19) (.c (.int .i64 1)), none⟩,
  ⟨some 1, .asg (.t 20), none⟩] (some [0, 1, 5])) c44_19
def c44_24 : SC := .reg [⟨some 10, .mv (.t 5), none⟩,
  ⟨some 11, .bn .add 3 (.t 10) (.c (.int .i64 1)), none⟩,
  ⟨some 5, .asg (.t 11), none⟩] (some [0, 1, 5])
def c44_13 : SC := .seq (.block 1 (.seq (.reg [⟨some 12, .mv (.t 0), none⟩,
  ⟨some 13, .mv (.t 5), none⟩,
  ⟨some 14, .mv (.t 1), none⟩,
  ⟨some 15, .bn .rem 3 (.t 14) (.c (.int .i64 3)), none⟩,
  ⟨some 16, .bn .eql 3 (.t 15) (.c (.int .i64 0)), none⟩,
  ⟨some 17, .ia 32 (.t 12) (.t 13), none⟩,
  ⟨some 18, .fa 120 (.t 17) 0, none⟩,
  ⟨none, .sto 4 (.t 18) (.t 16), none⟩] (some [0, 1, 5])) c44_17)) c44_24
def c44_7 : SC := .seq (.seq (.reg [⟨some 6, .mv (.t 5), none⟩,
  ⟨some 7, .mv (.t 0), none⟩,
  ⟨some 8, .len 32 (.t 7), none⟩,
  ⟨some 9, .bn .lss 3 (.t 6) (.t 8), none⟩] (some [0, 1, 5, 9])) c44_10) c44_13
def c44_5 : SC := .block 0 (.loop c44_7)
def c44_25 : SC := .seq (.reg [⟨some 37, .mv (.t 1), none⟩,
  ⟨some 4, .asg (.t 37), none⟩] (some [0, 4])) .ret
def c44_2 : SC := .seq (.seq (.reg [⟨some 5, .asg (.c (.int .i64 0)), none⟩] (some [0, 1, 5])) c44_5) c44_25
/-- loop.example/g01075/laws.markEquationS -/
def c44 : SC := .seq (.reg [⟨some 4, .asg (.c (.int .i64 0)), none⟩] (some [0, 1])) c44_2
theorem s44 : slimC ⟨38, [0]⟩ (Try.f44.body.getD .skip) = some c44.strip := by kernel_rfl

def c62_10 : SC := .cond (.t 9) .skip (.exit 0)
def c62_19 : SC := .seq (.reg [⟨some 4, .asg (.c (.int .i64 (-1))), none⟩] (some [4])) .ret
def c62_18 : SC := .cond (.t 17) c62_19 .skip
def c62_23 : SC := .reg [⟨some 18, .mv (.t 1), none⟩,
  ⟨some 19, .bn .add 3 (.t 18) (.c (.int .i64 1)), none⟩,
  ⟨some 1, .asg (.t 19), none⟩] (some [0, 1, 5])
def c62_24 : SC := .reg [⟨some 10, .mv (.t 5), none⟩,
  ⟨some 11, .bn .add 3 (.t 10) (.c (.int .i64 1)), none⟩,
  ⟨some 5, .asg (.t 11), none⟩] (some [0, 1, 5])
def c62_13 : SC := .seq (.block 1 (.seq (.seq (.reg [⟨some 12, .mv (.t 0), none⟩,
  ⟨some 13, .mv (.t 5), none⟩,
  ⟨some 14, .ia 68 (.t 12) (.t 13), none⟩,
  ⟨some 15, .ld 2 (.t 14), none⟩,
  ⟨some 16, .mv (.t 1), none⟩,
  ⟨some 17, .bn .neq 2 (.t 15) (.t 16), none⟩] (some [0, 1, 5, 17])) c62_18) c62_23)) c62_24
def c62_7 : SC := .seq (.seq (.reg [⟨some 6, .mv (.t 5), none⟩,
  ⟨some 7, .mv (.t 0), none⟩,
  ⟨some 8, .len 68 (.t 7), none⟩,
  ⟨some 9, .bn .lss 3 (.t 6) (.t 8), none⟩] (some [0, 1, 5, 9])) c62_10) c62_13
def c62_5 : SC := .block 0 (.loop c62_7)
def c62_25 : SC := .seq (.reg [⟨some 20, .mv (.t 1), none⟩,
  ⟨some 4, .asg (.t 20), none⟩] (some [4])) .ret
def c62_2 : SC := .seq (.seq (.reg [⟨some 5, .asg (.c (.int .i64 0)), none⟩] (some [0, 1, 5])) c62_5) c62_25
/-- loop.example/g01075/laws.heldInt64S -/
def c62 : SC := .seq (.reg [⟨some 4, .asg (.c (.int .i64 0)), none⟩] (some [0, 1])) c62_2
theorem s62 : slimC ⟨21, [0]⟩ (Try.f62.body.getD .skip) = some c62.strip := by kernel_rfl

def c45_10 : SC := .cond (.t 9) .skip (.exit 0)
def c45_19 : SC := .seq (.reg [⟨some 4, .asg (.c (.int .i64 (-1))), none⟩] (some [4])) .ret
def c45_18 : SC := .cond (.t 20) c45_19 .skip
def c45_29 : SC := .seq (.reg [⟨some 4, .asg (.c (.int .i64 (-1))), none⟩] (some [4])) .ret
def c45_28 : SC := .cond (.t 31) c45_29 .skip
def c45_40 : SC := .seq (.reg [⟨some 4, .asg (.c (.int .i64 (-1))), none⟩] (some [4])) .ret
def c45_39 : SC := .cond (.t 42) c45_40 .skip
def c45_37 : SC := .seq (.reg [⟨some 41, .mv (.t 1), none⟩,
  ⟨some 42, .bn .lss 3 (.t 41) (.c (.int .i64 0)), none⟩] (some [0, 1, 5, 42])) c45_39
def c45_35 : SC := .seq (.reg [⟨some 34, .mv (.t 0), none⟩,
  ⟨some 35, .mv (.t 5), none⟩,
  ⟨some 36, .ia 32 (.t 34) (.t 35), none⟩,
  ⟨some 37, .fa 120 (.t 36) 2, none⟩,
  ⟨some 38, .ld 68 (.t 37), none⟩,
  ⟨some 39, .mv (.t 1), none⟩,
  ⟨some 40, .call (.f 62) [(.t 38), (.t 39)], none⟩,
  ⟨some 1, .asg (.t 40), none⟩] (some [0, 1, 5])) c45_37
def c45_33 : SC := .seq (.reg [⟨some 32, .mv (.t 1), none⟩,
  ⟨some 33, .bn .add 3 (.t 32) (.c (.int .i64 1)), none⟩,
  ⟨some 1, .asg (.t 33), none⟩] (some [0, 1, 5])) c45_35
def c45_25 : SC := .seq (.seq (.reg [⟨some 23, .mv (.t 0), none⟩,
  ⟨some 24, .mv (.t 5), none⟩,
  ⟨some 25, .ia 32 (.t 23) (.t 24), none⟩,
  ⟨some 26, .fa 120 (.t 25) 1, none⟩,
  ⟨some 27, .ld 4 (.t 26), none⟩,
  ⟨some 28, .mv (.t 1), none⟩,
  ⟨some 29, .bn .rem 3 (.t 28) (.c (.int .i64 3)), none⟩,
  ⟨some 30, .bn .eql 3 (.t 29) (.c (.int .i64 0)), none⟩,
  ⟨some 31, .bn .neq 4 (.t 27) (.t 30), none⟩] (some [0, 1, 5, 31])) c45_28) c45_33
def c45_23 : SC := .seq (.reg [⟨some 21, .mv (.t 1), none⟩,
  ⟨some 22, .bn .add 3 (.t 21) (.c (.int .i64 1)), none⟩,
  ⟨some 1, .asg (.t 22), none⟩] (some [0, 1, 5])) c45_25
def c45_44 : SC := .reg [⟨some 10, .mv (.t 5), none⟩,
  ⟨some 11, .bn .add 3 (.t 10) (.c (.int .i64 1)), none⟩,
  ⟨some 5, .asg (.t 11), none⟩] (some [0, 1, 5])
def c45_13 : SC := .seq (.block 1 (.seq (.seq (.reg [⟨some 12, .mv (.t 0), none⟩,
  ⟨some 13, .mv (.t 5), none⟩,
  ⟨some 14, .ia 32 (.t 12) (.t 13), none⟩,
  ⟨some 15, .fa 120 (.t 14) 0, none⟩,
  ⟨some 16, .ld 4 (.t 15), none⟩,
  ⟨some 17, .mv (.t 1), none⟩,
  ⟨some 18, .bn .rem 3 (.t 17) (.c (.int .i64 3)), none⟩,
  ⟨some 19, .bn .eql 3 (.t 18) (.c (.int .i64 0)), none⟩,
  ⟨some 20, .bn .neq 4 (.t 16) (.t 19), none⟩] (some [0, 1, 5, 20])) c45_18) c45_23)) c45_44
def c45_7 : SC := .seq (.seq (.reg [⟨some 6, .mv (.t 5), none⟩,
  ⟨some 7, .mv (.t 0), none⟩,
  ⟨some 8, .len 32 (.t 7), none⟩,
  ⟨some 9, .bn .lss 3 (.t 6) (.t 8), none⟩] (some [0, 1, 5, 9])) c45_10) c45_13
def c45_5 : SC := .block 0 (.loop c45_7)
def c45_45 : SC := .seq (.reg [⟨some 43, .mv (.t 1), none⟩,
  ⟨some 4, .asg (.t 43), none⟩] (some [4])) .ret
def c45_2 : SC := .seq (.seq (.reg [⟨some 5, .asg (.c (.int .i64 0)), none⟩] (some [0, 1, 5])) c45_5) c45_45
/-- loop.example/g01075/laws.heldEquationS -/
def c45 : SC := .seq (.reg [⟨some 4, .asg (.c (.int .i64 0)), none⟩] (some [0, 1])) c45_2
theorem s45 : slimC ⟨44, [0]⟩ (Try.f45.body.getD .skip) = some c45.strip := by kernel_rfl

def c8_6 : SC := .seq (.reg [⟨some 2, .asg (.c (.bool true)), none⟩] (some [2])) .ret
def c8_5 : SC := .cond (.t 13) c8_6 .skip
def c8_18 : SC := .seq (.reg [⟨some 2, .asg (.c (.bool false)), none⟩] (some [2])) .ret
def c8_17 : SC := .cond (.t 32) c8_18 .skip
def c8_34 : SC := .seq (.reg [⟨some 2, .asg (.c (.bool false)), none⟩] (some [2])) .ret
def c8_33 : SC := .cond (.t 40) c8_34 .skip
def c8_42 : SC := .seq (.reg [⟨some 2, .asg (.c (.bool false)), none⟩] (some [2])) .ret
def c8_41 : SC := .cond (.t 43) c8_42 .skip
def c8_52 : SC := .seq (.reg [⟨some 2, .asg (.c (.bool false)), none⟩] (some [2])) .ret
def c8_51 : SC := .cond (.t 57) c8_52 .skip
def c8_64 : SC := .seq (.reg [⟨some 2, .asg (.c (.bool false)), none⟩] (some [2])) .ret
def c8_63 : SC := .cond (.t 62) c8_64 .skip
def c8_72 : SC := .seq (.reg [⟨some 2, .asg (.c (.bool false)), none⟩] (some [2])) .ret
def c8_71 : SC := .cond (.t 65) c8_72 .skip
def c8_76 : SC := .seq (.reg [⟨some 2, .asg (.c (.bool true)), none⟩] (some [2])) .ret
def c8_68 : SC := .seq (.seq (.reg [⟨some 63, .mv (.t 8), none⟩,
  ⟨some 64, .mv (.t 7), none⟩,
  ⟨some 65, .bn .neq 3 (.t 63) (.t 64), none⟩] (some [65])) c8_71) c8_76
def c8_60 : SC := .seq (.seq (.reg [⟨some 61, .mv (.t 8), none⟩,
  ⟨some 62, .bn .lss 3 (.t 61) (.c (.int .i64 0)), none⟩] (some [7, 8, 62])) c8_63) c8_68
def c8_58 : SC := .seq (.reg [⟨some 58, .mv (.t 5), none⟩,
  ⟨some 59, .mv (.t 8), none⟩,
  ⟨some 60, .call (.f 45) [(.t 58), (.t 59)], none⟩,
  ⟨some 8, .asg (.t 60), none⟩] (some [7, 8])) c8_60
def c8_56 : SC := .seq (.reg [⟨some 8, .asg (.c (.int .i64 1)), none⟩] (some [5, 7, 8])) c8_58
def c8_48 : SC := .seq (.seq (.reg [⟨some 49, .mv (.t 9), none⟩,
  ⟨some 50, .mv (.t 3), none⟩,
  ⟨some 51, .call (.f 30) [(.t 49), (.t 50)], none⟩,
  ⟨some 52, .un .not (.t 51), none⟩,
  ⟨some 53, .mv (.t 52), none⟩,
  ⟨some 54, .mv (.t 10), some (53, false)⟩,
  ⟨some 55, .mv (.t 4), some (53, false)⟩,
  ⟨some 56, .bn .neq 2 (.t 54) (.t 55), some (53, false)⟩,
  ⟨some 57, .pick (.t 53) (.c (.bool true)) (.t 56), none⟩] (some [5, 7, 57])) c8_51) c8_56
def c8_46 : SC := .seq (.reg [⟨some 45, .mv (.t 0), none⟩,
  ⟨some 46, .call (.f 43) [(.t 45)], none⟩,
  ⟨some 44, .mv (.t 46), none⟩,
  ⟨some 47, .ex (.t 44) 0, none⟩,
  ⟨some 48, .ex (.t 44) 1, none⟩,
  ⟨some 9, .asg (.t 47), none⟩,
  ⟨some 10, .asg (.t 48), none⟩] (some [3, 4, 5, 7, 9, 10])) c8_48
def c8_38 : SC := .seq (.seq (.reg [⟨some 41, .mv (.t 8), none⟩,
  ⟨some 42, .mv (.t 7), none⟩,
  ⟨some 43, .bn .neq 3 (.t 41) (.t 42), none⟩] (some [0, 3, 4, 5, 7, 43])) c8_41) c8_46
def c8_30 : SC := .seq (.seq (.reg [⟨some 39, .mv (.t 8), none⟩,
  ⟨some 40, .bn .lss 3 (.t 39) (.c (.int .i64 0)), none⟩] (some [0, 3, 4, 5, 7, 8, 40])) c8_33) c8_38
def c8_28 : SC := .seq (.reg [⟨some 36, .mv (.t 5), none⟩,
  ⟨some 37, .mv (.t 8), none⟩,
  ⟨some 38, .call (.f 45) [(.t 36), (.t 37)], none⟩,
  ⟨some 8, .asg (.t 38), none⟩] (some [0, 3, 4, 5, 7, 8])) c8_30
def c8_26 : SC := .seq (.reg [⟨some 8, .asg (.c (.int .i64 1)), none⟩] (some [0, 3, 4, 5, 7, 8])) c8_28
def c8_24 : SC := .seq (.reg [⟨some 33, .mv (.t 5), none⟩,
  ⟨some 34, .mv (.t 7), none⟩,
  ⟨some 35, .call (.f 44) [(.t 33), (.t 34)], none⟩,
  ⟨some 7, .asg (.t 35), none⟩] (some [0, 3, 4, 5, 7])) c8_26
def c8_22 : SC := .seq (.reg [⟨some 7, .asg (.c (.int .i64 1)), none⟩] (some [0, 3, 4, 5, 7])) c8_24
def c8_14 : SC := .seq (.seq (.reg [⟨some 24, .mv (.t 5), none⟩,
  ⟨some 25, .mv (.t 3), none⟩,
  ⟨some 26, .call (.f 30) [(.t 24), (.t 25)], none⟩,
  ⟨some 27, .un .not (.t 26), none⟩,
  ⟨some 28, .mv (.t 27), none⟩,
  ⟨some 29, .mv (.t 6), some (28, false)⟩,
  ⟨some 30, .mv (.t 4), some (28, false)⟩,
  ⟨some 31, .bn .neq 2 (.t 29) (.t 30), some (28, false)⟩,
  ⟨some 32, .pick (.t 28) (.c (.bool true)) (.t 31), none⟩] (some [0, 3, 4, 5, 32])) c8_17) c8_22
def c8_12 : SC := .seq (.reg [⟨some 20, .mv (.t 0), none⟩,
  ⟨some 21, .call (.f 43) [(.t 20)], none⟩,
  ⟨some 19, .mv (.t 21), none⟩,
  ⟨some 22, .ex (.t 19) 0, none⟩,
  ⟨some 23, .ex (.t 19) 1, none⟩,
  ⟨some 5, .asg (.t 22), none⟩,
  ⟨some 6, .asg (.t 23), none⟩] (some [0, 3, 4, 5, 6])) c8_14
def c8_10 : SC := .seq (.reg [⟨some 15, .mv (.t 0), none⟩,
  ⟨some 16, .call (.f 42) [(.t 15)], none⟩,
  ⟨some 14, .mv (.t 16), none⟩,
  ⟨some 17, .ex (.t 14) 0, none⟩,
  ⟨some 18, .ex (.t 14) 1, none⟩,
  ⟨some 3, .asg (.t 17), none⟩,
  ⟨some 4, .asg (.t 18), none⟩] (some [0, 3, 4])) c8_12
def c8_2 : SC := .seq (.seq (.reg [⟨some 11, .mv (.t 0), none⟩,
  ⟨some 12, .len 9 (.t 11), none⟩,
  ⟨some 13, .bn .gtr 3 (.t 12) (.c (.int .i64 1048576)), none⟩] (some [0, 13])) c8_5) c8_10
/-- loop.example/g01075/laws.FnExactDecodeEquations -/
def c8 : SC := .seq (.reg [⟨some 2, .asg (.c (.bool false)), none⟩] (some [0])) c8_2
theorem s8 : slimC ⟨66, [0]⟩ (Try.f8.body.getD .skip) = some c8.strip := by kernel_rfl

end Go.Proofs.Ytobljppjkklojaa
