/- Part of a proof that a law returns true for every input. No condition. -/
import Derived.Test.YtncnipaofaeaiaaTb
import Derived.Test.YtncnipaofaeaiaaFwI
import Derived.Test.YtncnipaofaeaiaaP8
namespace Go.Proofs.Ytncnipaofaeaiaa
open Go Go.Fw Go.Sh
set_option linter.unusedSimpArgs false

def e_i64 (x : Int) : AV := .int .i64 x
theorem sh_e_i64 (x : Int) : (e_i64 x).share = e_i64 x := by
  simp only [e_i64, share_s]
theorem ns_e_i64 (x : Int) : (e_i64 x).nosh = true := by
  simp only [e_i64, AV.nosh, AV.noshs, Bool.and_self]
def e_laws_Equation (x : laws_Equation) : AV := .agg [.bool x.Greatest, .bool x.All, .slice (x.Terms.map e_i64)]
theorem sh_e_laws_Equation (x : laws_Equation) : (e_laws_Equation x).share = e_laws_Equation x := by
  simp only [e_laws_Equation, share_s, @shares_map _ e_i64 e_i64 (fun _ => sh_e_i64 _)]
def e_bool (x : Bool) : AV := .bool x
theorem sh_e_bool (x : Bool) : (e_bool x).share = e_bool x := by
  simp only [e_bool, share_s]
theorem ns_e_bool (x : Bool) : (e_bool x).nosh = true := by
  simp only [e_bool, AV.nosh, AV.noshs, Bool.and_self]
def e_s_i64 (x : List Int) : AV := .slice (x.map e_i64)
theorem sh_e_s_i64 (x : List Int) : (e_s_i64 x).share = e_s_i64 x := by
  simp only [e_s_i64, share_s, @shares_map _ e_i64 e_i64 (fun _ => sh_e_i64 _)]
def e_impl_Equation (x : impl_Equation) : AV := .agg [.bool x.Greatest, .bool x.All, .slice (x.Terms.map e_i64)]
theorem sh_e_impl_Equation (x : impl_Equation) : (e_impl_Equation x).share = e_impl_Equation x := by
  simp only [e_impl_Equation, share_s, @shares_map _ e_i64 e_i64 (fun _ => sh_e_i64 _)]
def u_impl_Equation (x : impl_Equation) : AV := .agg [.bool x.Greatest, .bool x.All, .uslice 1 (x.Terms.map e_i64)]
theorem sh_u_impl_Equation (x : impl_Equation) : (u_impl_Equation x).share = e_impl_Equation x := by
  simp only [u_impl_Equation, e_impl_Equation, share_s, @shares_map _ e_i64 e_i64 (fun _ => sh_e_i64 _)]
theorem ns_u_impl_Equation (x : impl_Equation) : (u_impl_Equation x).nosh = true := by
  simp only [u_impl_Equation, AV.nosh, AV.noshs, Bool.and_self, @noshs_map _ e_i64 (fun _ => ns_e_i64 _)]
def u_s_i64 (x : List Int) : AV := .uslice 1 (x.map e_i64)
theorem sh_u_s_i64 (x : List Int) : (u_s_i64 x).share = e_s_i64 x := by
  simp only [u_s_i64, e_s_i64, share_s, @shares_map _ e_i64 e_i64 (fun _ => sh_e_i64 _)]
theorem ns_u_s_i64 (x : List Int) : (u_s_i64 x).nosh = true := by
  simp only [u_s_i64, AV.nosh, AV.noshs, Bool.and_self, @noshs_map _ e_i64 (fun _ => ns_e_i64 _)]

def c58_8 : SC := .seq (.reg [⟨some 4, .asg (.c (.int .i64 (-1))), none⟩] (some [4])) .ret
def c58_7 : SC := .cond (.t 10) c58_8 .skip
def c58_12 : SC := .seq (.reg [⟨some 11, .mv (.t 1), none⟩,
  ⟨some 4, .asg (.t 11), none⟩] (some [4])) .ret
def c58_4 : SC := .seq (.seq (.reg [⟨some 9, .mv (.t 1), none⟩,
  ⟨some 10, .bn .lss 3 (.t 9) (.c (.int .i64 0)), none⟩] (some [1, 10])) c58_7) c58_12
def c58_2 : SC := .seq (.reg [⟨some 5, .mv (.t 1), none⟩,
  ⟨some 6, .mv (.t 0), none⟩,
  ⟨some 7, .len 68 (.t 6), none⟩,
  ⟨some 8, .bn .sub 3 (.t 5) (.t 7), none⟩,
  ⟨some 1, .asg (.t 8), none⟩] (some [1])) c58_4
/-- loop.example/g01075/laws.szInt64S -/
def c58 : SC := .seq (.reg [⟨some 4, .asg (.c (.int .i64 0)), none⟩] (some [0, 1])) c58_2
theorem s58 : slimC ⟨12, [0]⟩ (Try.f58.body.getD .skip) = some c58.strip := by kernel_rfl

def c43_8 : SC := .seq (.reg [⟨some 4, .asg (.c (.int .i64 (-1))), none⟩] (some [4])) .ret
def c43_7 : SC := .cond (.t 10) c43_8 .skip
def c43_12 : SC := .seq (.reg [⟨some 11, .mv (.t 1), none⟩,
  ⟨some 4, .asg (.t 11), none⟩] (some [4])) .ret
def c43_4 : SC := .seq (.seq (.reg [⟨some 9, .mv (.t 1), none⟩,
  ⟨some 10, .bn .lss 3 (.t 9) (.c (.int .i64 0)), none⟩] (some [1, 10])) c43_7) c43_12
def c43_2 : SC := .seq (.reg [⟨some 5, .fa 70 (.t 2) 2, none⟩,
  ⟨some 6, .ld 68 (.t 5), none⟩,
  ⟨some 7, .mv (.t 1), none⟩,
  ⟨some 8, .call (.f 58) [(.t 6), (.t 7)], none⟩,
  ⟨some 1, .asg (.t 8), none⟩] (some [1])) c43_4
/-- loop.example/g01075/laws.szEquation -/
def c43 : SC := .seq (.reg [⟨some 2, .bx 70 (.t 0), none⟩,
  ⟨some 4, .asg (.c (.int .i64 0)), none⟩] (some [1, 2])) c43_2
theorem s43 : slimC ⟨12, [0]⟩ (Try.f43.body.getD .skip) = some c43.strip := by kernel_rfl

def c22_8 : SC := .seq (.reg [⟨some 4, .asg (.c (.int .i64 (-1))), none⟩] (some [4])) .ret
def c22_7 : SC := .cond (.t 11) c22_8 .skip
def c22_20 : SC := .cond (.t 15) .skip (.exit 0)
def c22_30 : SC := .seq (.reg [⟨some 4, .asg (.c (.int .i64 (-1))), none⟩] (some [4])) .ret
def c22_29 : SC := .cond (.t 25) c22_30 .skip
def c22_27 : SC := .seq (.reg [⟨some 24, .mv (.t 1), none⟩,
  ⟨some 25, .bn .lss 3 (.t 24) (.c (.int .i64 0)), none⟩] (some [0, 1, 5, 25])) c22_29
def c22_34 : SC := .reg [⟨some 16, .mv (.t 5), none⟩,
  ⟨some 17, .bn .add 3 (.t 16) (.c (.int .i64 1)), none⟩,
  ⟨some 5, .asg (.t 17), none⟩] (some [0, 1, 5])
def c22_23 : SC := .seq (.block 1 (.seq (.reg [⟨some 18, .mv (.t 0), none⟩,
  ⟨some 19, .mv (.t 5), none⟩,
  ⟨some 20, .ia 38 (.t 18) (.t 19), none⟩,
  ⟨some 21, .ld 70 (.t 20), none⟩,
  ⟨some 22, .mv (.t 1), none⟩,
  ⟨some 23, .call (.f 43) [(.t 21), (.t 22)], none⟩,
  ⟨some 1, .asg (.t 23), none⟩] (some [0, 1, 5])) c22_27)) c22_34
def c22_17 : SC := .seq (.seq (.reg [⟨some 12, .mv (.t 5), none⟩,
  ⟨some 13, .mv (.t 0), none⟩,
  ⟨some 14, .len 38 (.t 13), none⟩,
  ⟨some 15, .bn .lss 3 (.t 12) (.t 14), none⟩] (some [0, 1, 5, 15])) c22_20) c22_23
def c22_15 : SC := .block 0 (.loop c22_17)
def c22_35 : SC := .seq (.reg [⟨some 26, .mv (.t 1), none⟩,
  ⟨some 4, .asg (.t 26), none⟩] (some [4])) .ret
def c22_12 : SC := .seq (.seq (.reg [⟨some 5, .asg (.c (.int .i64 0)), none⟩] (some [0, 1, 5])) c22_15) c22_35
def c22_4 : SC := .seq (.seq (.reg [⟨some 10, .mv (.t 1), none⟩,
  ⟨some 11, .bn .lss 3 (.t 10) (.c (.int .i64 0)), none⟩] (some [0, 1, 11])) c22_7) c22_12
def c22_2 : SC := .seq (.reg [⟨some 6, .mv (.t 1), none⟩,
  ⟨some 7, .mv (.t 0), none⟩,
  ⟨some 8, .len 38 (.t 7), none⟩,
  ⟨some 9, .bn .sub 3 (.t 6) (.t 8), none⟩,
  ⟨some 1, .asg (.t 9), none⟩] (some [0, 1])) c22_4
/-- loop.example/g01075/laws.szEquationS -/
def c22 : SC := .seq (.reg [⟨some 4, .asg (.c (.int .i64 0)), none⟩] (some [0, 1])) c22_2
theorem s22 : slimC ⟨27, [0]⟩ (Try.f22.body.getD .skip) = some c22.strip := by kernel_rfl

def c64_12 : SC := .cond (.t 11) .skip (.exit 0)
def c64_18 : SC := .reg [⟨some 12, .mv (.t 4), none⟩,
  ⟨some 13, .bn .add 3 (.t 12) (.c (.int .i64 1)), none⟩,
  ⟨some 4, .asg (.t 13), none⟩] (some [0, 3, 4])
def c64_15 : SC := .seq (.block 1 (.reg [⟨some 14, .mv (.t 3), none⟩,
  ⟨some 15, .mv (.t 4), none⟩,
  ⟨some 16, .mv (.t 0), none⟩,
  ⟨some 17, .mv (.t 4), none⟩,
  ⟨some 18, .ia 68 (.t 16) (.t 17), none⟩,
  ⟨some 19, .ld 2 (.t 18), none⟩,
  ⟨some 20, .ia 68 (.t 14) (.t 15), none⟩,
  ⟨none, .sto 2 (.t 20) (.t 19), none⟩] (some [0, 3, 4]))) c64_18
def c64_9 : SC := .seq (.seq (.reg [⟨some 8, .mv (.t 4), none⟩,
  ⟨some 9, .mv (.t 0), none⟩,
  ⟨some 10, .len 68 (.t 9), none⟩,
  ⟨some 11, .bn .lss 3 (.t 8) (.t 10), none⟩] (some [0, 3, 4, 11])) c64_12) c64_15
def c64_7 : SC := .block 0 (.loop c64_9)
def c64_19 : SC := .seq (.reg [⟨some 21, .mv (.t 3), none⟩,
  ⟨some 2, .asg (.t 21), none⟩] (some [2])) .ret
def c64_4 : SC := .seq (.seq (.reg [⟨some 4, .asg (.c (.int .i64 0)), none⟩] (some [0, 3, 4])) c64_7) c64_19
def c64_2 : SC := .seq (.reg [⟨some 5, .mv (.t 0), none⟩,
  ⟨some 6, .len 68 (.t 5), none⟩,
  ⟨some 7, .mks 68 (.t 6) (.t 6), none⟩,
  ⟨some 3, .asg (.t 7), none⟩] (some [0, 3])) c64_4
/-- loop.example/g01075/laws.toInt64S -/
def c64 : SC := .seq (.reg [⟨some 2, .asg (.c .nils), none⟩] (some [0])) c64_2
theorem s64 : slimC ⟨22, [0]⟩ (Try.f64.body.getD .skip) = some c64.strip := by kernel_rfl

def c46_10 : SC := .seq (.reg [⟨some 14, .ld 72 (.t 3), none⟩,
  ⟨none, .sto 72 (.t 2) (.t 14), none⟩] (some [2])) .ret
def c46_8 : SC := .seq (.reg [⟨some 10, .fa 70 (.t 1) 2, none⟩,
  ⟨some 11, .ld 68 (.t 10), none⟩,
  ⟨some 12, .call (.f 64) [(.t 11)], none⟩,
  ⟨some 13, .fa 72 (.t 3) 2, none⟩,
  ⟨none, .sto 68 (.t 13) (.t 12), none⟩] (some [2, 3])) c46_10
def c46_6 : SC := .seq (.reg [⟨some 7, .fa 70 (.t 1) 1, none⟩,
  ⟨some 8, .ld 4 (.t 7), none⟩,
  ⟨some 9, .fa 72 (.t 3) 1, none⟩,
  ⟨none, .sto 4 (.t 9) (.t 8), none⟩] (some [1, 2, 3])) c46_8
def c46_4 : SC := .seq (.reg [⟨some 4, .fa 70 (.t 1) 0, none⟩,
  ⟨some 5, .ld 4 (.t 4), none⟩,
  ⟨some 6, .fa 72 (.t 3) 0, none⟩,
  ⟨none, .sto 4 (.t 6) (.t 5), none⟩] (some [1, 2, 3])) c46_6
def c46_2 : SC := .seq (.reg [⟨some 3, .alc 72, none⟩] (some [1, 2, 3])) c46_4
/-- loop.example/g01075/laws.toEquation -/
def c46 : SC := .seq (.reg [⟨some 1, .bx 70 (.t 0), none⟩,
  ⟨some 2, .alc 72, none⟩] (some [1, 2])) c46_2
theorem s46 : slimC ⟨15, [0]⟩ (Try.f46.body.getD .skip) = some c46.strip := by kernel_rfl

def c24_12 : SC := .cond (.t 11) .skip (.exit 0)
def c24_18 : SC := .reg [⟨some 12, .mv (.t 4), none⟩,
  ⟨some 13, .bn .add 3 (.t 12) (.c (.int .i64 1)), none⟩,
  ⟨some 4, .asg (.t 13), none⟩] (some [0, 3, 4])
def c24_15 : SC := .seq (.block 1 (.reg [⟨some 14, .mv (.t 3), none⟩,
  ⟨some 15, .mv (.t 4), none⟩,
  ⟨some 16, .mv (.t 0), none⟩,
  ⟨some 17, .mv (.t 4), none⟩,
  ⟨some 18, .ia 38 (.t 16) (.t 17), none⟩,
  ⟨some 19, .ld 70 (.t 18), none⟩,
  ⟨some 20, .call (.f 46) [(.t 19)], none⟩,
  ⟨some 21, .ia 41 (.t 14) (.t 15), none⟩,
  ⟨none, .sto 72 (.t 21) (.t 20), none⟩] (some [0, 3, 4]))) c24_18
def c24_9 : SC := .seq (.seq (.reg [⟨some 8, .mv (.t 4), none⟩,
  ⟨some 9, .mv (.t 0), none⟩,
  ⟨some 10, .len 38 (.t 9), none⟩,
  ⟨some 11, .bn .lss 3 (.t 8) (.t 10), none⟩] (some [0, 3, 4, 11])) c24_12) c24_15
def c24_7 : SC := .block 0 (.loop c24_9)
def c24_19 : SC := .seq (.reg [⟨some 22, .mv (.t 3), none⟩,
  ⟨some 2, .asg (.t 22), none⟩] (some [2])) .ret
def c24_4 : SC := .seq (.seq (.reg [⟨some 4, .asg (.c (.int .i64 0)), none⟩] (some [0, 3, 4])) c24_7) c24_19
def c24_2 : SC := .seq (.reg [⟨some 5, .mv (.t 0), none⟩,
  ⟨some 6, .len 38 (.t 5), none⟩,
  ⟨some 7, .mks 41 (.t 6) (.t 6), none⟩,
  ⟨some 3, .asg (.t 7), none⟩] (some [0, 3])) c24_4
/-- loop.example/g01075/laws.toEquationS -/
def c24 : SC := .seq (.reg [⟨some 2, .asg (.c .nils), none⟩] (some [0])) c24_2
theorem s24 : slimC ⟨23, [0]⟩ (Try.f24.body.getD .skip) = some c24.strip := by kernel_rfl

def c59_12 : SC := .cond (.t 8) .skip (.exit 0)
def c59_20 : SC := .reg [⟨some 23, .mv (.t 3), none⟩,
  ⟨some 24, .bn .add 2 (.t 23) (.c (.int .i64 1)), none⟩,
  ⟨some 3, .asg (.t 24), none⟩] (some [0, 3, 4])
def c59_19 : SC := .cond (.t 22) c59_20 .skip
def c59_22 : SC := .reg [⟨some 9, .mv (.t 4), none⟩,
  ⟨some 10, .bn .add 3 (.t 9) (.c (.int .i64 1)), none⟩,
  ⟨some 4, .asg (.t 10), none⟩] (some [0, 3, 4])
def c59_15 : SC := .seq (.block 1 (.seq (.drw [⟨some 11, .mv (.t 0), none⟩,
  ⟨some 12, .mv (.t 4), none⟩,
  ⟨some 13, .ia 41 (.t 11) (.t 12), none⟩,
  ⟨some 14, .fa 72 (.t 13) 0, none⟩,
  ⟨some 15, .ld 4 (.t 14), none⟩,
  ⟨some 16, .mv (.t 0), none⟩,
  ⟨some 17, .mv (.t 4), none⟩,
  ⟨some 18, .bn .sub 3 (.t 17) (.c (.int .i64 1)), none⟩,
  ⟨some 19, .ia 41 (.t 16) (.t 18), none⟩,
  ⟨some 20, .fa 72 (.t 19) 0, none⟩,
  ⟨some 21, .ld 4 (.t 20), none⟩,
  ⟨some 22, .bn .neq 4 (.t 15) (.t 21), none⟩] [[], [], [0, 1], [2], [3], [], [], [6], [5, 7], [8], [9], [4, 10]] (some [0, 3, 4, 22])) c59_19)) c59_22
def c59_9 : SC := .seq (.seq (.reg [⟨some 5, .mv (.t 4), none⟩,
  ⟨some 6, .mv (.t 0), none⟩,
  ⟨some 7, .len 41 (.t 6), none⟩,
  ⟨some 8, .bn .lss 3 (.t 5) (.t 7), none⟩] (some [0, 3, 4, 8])) c59_12) c59_15
def c59_7 : SC := .block 0 (.loop c59_9)
def c59_23 : SC := .seq (.reg [⟨some 25, .mv (.t 3), none⟩,
  ⟨some 2, .asg (.t 25), none⟩] (some [2])) .ret
def c59_4 : SC := .seq (.seq (.reg [⟨some 4, .asg (.c (.int .i64 1)), none⟩] (some [0, 3, 4])) c59_7) c59_23
def c59_2 : SC := .seq (.reg [⟨some 3, .asg (.c (.int .i64 1)), none⟩] (some [0, 3])) c59_4
/-- loop.example/g01075/spec.l22Count -/
def c59 : SC := .seq (.reg [⟨some 2, .asg (.c (.int .i64 0)), none⟩] (some [0])) c59_2
theorem s59 : slimC ⟨26, [0]⟩ (Try.f59.body.getD .skip) = some c59.strip := by kernel_rfl

def c27_2 : SC := .seq (.reg [⟨some 7, .mv (.t 0), none⟩,
  ⟨some 8, .mv (.t 1), none⟩,
  ⟨some 9, .bn .geq 2 (.t 7) (.t 8), none⟩,
  ⟨some 10, .mv (.t 9), none⟩,
  ⟨some 11, .mv (.t 0), some (10, true)⟩,
  ⟨some 12, .mv (.t 2), some (10, true)⟩,
  ⟨some 13, .bn .leq 2 (.t 11) (.t 12), some (10, true)⟩,
  ⟨some 14, .pick (.t 10) (.t 13) (.c (.bool false)), none⟩,
  ⟨some 6, .asg (.t 14), none⟩] (some [6])) .ret
/-- loop.example/g01075/spec.l00In -/
def c27 : SC := .seq (.reg [⟨some 6, .asg (.c (.bool false)), none⟩] (some [0, 1, 2])) c27_2
theorem s27 : slimC ⟨15, [0, 1, 2]⟩ (Try.f27.body.getD .skip) = some c27.strip := by kernel_rfl

def c60_10 : SC := .cond (.t 11) .skip (.exit 0)
def c60_18 : SC := .seq (.reg [⟨some 6, .asg (.c (.bool false)), none⟩] (some [6])) .ret
def c60_17 : SC := .cond (.t 37) c60_18 .skip
def c60_22 : SC := .reg [⟨some 12, .mv (.t 7), none⟩,
  ⟨some 13, .bn .add 3 (.t 12) (.c (.int .i64 1)), none⟩,
  ⟨some 7, .asg (.t 13), none⟩] (some [0, 1, 2, 7])
def c60_13 : SC := .seq (.block 1 (.seq (.drw [⟨some 14, .mv (.t 0), none⟩,
  ⟨some 15, .mv (.t 7), none⟩,
  ⟨some 16, .ia 68 (.t 14) (.t 15), none⟩,
  ⟨some 17, .ld 2 (.t 16), none⟩,
  ⟨some 18, .mv (.t 1), none⟩,
  ⟨some 19, .mv (.t 2), none⟩,
  ⟨some 20, .call (.f 27) [(.t 17), (.t 18), (.t 19)], none⟩,
  ⟨some 21, .un .not (.t 20), none⟩,
  ⟨some 22, .mv (.t 21), none⟩,
  ⟨some 23, .mv (.t 7), some (22, false)⟩,
  ⟨some 24, .bn .gtr 3 (.t 23) (.c (.int .i64 0)), some (22, false)⟩,
  ⟨some 25, .mv (.t 24), some (22, false)⟩,
  ⟨some 26, .mv (.t 0), some (25, true)⟩,
  ⟨some 27, .mv (.t 7), some (25, true)⟩,
  ⟨some 28, .bn .sub 3 (.t 27) (.c (.int .i64 1)), some (25, true)⟩,
  ⟨some 29, .ia 68 (.t 26) (.t 28), some (25, true)⟩,
  ⟨some 30, .ld 2 (.t 29), some (25, true)⟩,
  ⟨some 31, .mv (.t 0), some (25, true)⟩,
  ⟨some 32, .mv (.t 7), some (25, true)⟩,
  ⟨some 33, .ia 68 (.t 31) (.t 32), some (25, true)⟩,
  ⟨some 34, .ld 2 (.t 33), some (25, true)⟩,
  ⟨some 35, .bn .geq 2 (.t 30) (.t 34), some (25, true)⟩,
  ⟨some 36, .pick (.t 25) (.t 35) (.c (.bool false)), some (22, false)⟩,
  ⟨some 37, .pick (.t 22) (.c (.bool true)) (.t 36), none⟩] [[], [], [0, 1], [2], [], [], [3, 4, 5], [6], [7, 6], [8], [9, 8], [10, 8, 8], [11], [11], [13, 11], [12, 14, 11], [15, 11], [11], [11], [17, 18, 11], [19, 11], [16, 20, 11], [11, 21, 8], [8, 22]] (some [0, 1, 2, 7, 37])) c60_17)) c60_22
def c60_7 : SC := .seq (.seq (.reg [⟨some 8, .mv (.t 7), none⟩,
  ⟨some 9, .mv (.t 0), none⟩,
  ⟨some 10, .len 68 (.t 9), none⟩,
  ⟨some 11, .bn .lss 3 (.t 8) (.t 10), none⟩] (some [0, 1, 2, 7, 11])) c60_10) c60_13
def c60_5 : SC := .block 0 (.loop c60_7)
def c60_23 : SC := .seq (.reg [⟨some 6, .asg (.c (.bool true)), none⟩] (some [6])) .ret
def c60_2 : SC := .seq (.seq (.reg [⟨some 7, .asg (.c (.int .i64 0)), none⟩] (some [0, 1, 2, 7])) c60_5) c60_23
/-- loop.example/g01075/spec.l00Rises -/
def c60 : SC := .seq (.reg [⟨some 6, .asg (.c (.bool false)), none⟩] (some [0, 1, 2])) c60_2
theorem s60 : slimC ⟨38, [0, 1, 2]⟩ (Try.f60.body.getD .skip) = some c60.strip := by kernel_rfl

def c44_6 : SC := .seq (.reg [⟨some 2, .asg (.c (.bool false)), none⟩] (some [2])) .ret
def c44_5 : SC := .cond (.t 16) c44_6 .skip
def c44_18 : SC := .cond (.t 20) .skip (.exit 0)
def c44_26 : SC := .seq (.reg [⟨some 2, .asg (.c (.bool false)), none⟩] (some [2])) .ret
def c44_25 : SC := .cond (.t 32) c44_26 .skip
def c44_30 : SC := .reg [⟨some 21, .mv (.t 3), none⟩,
  ⟨some 22, .bn .add 3 (.t 21) (.c (.int .i64 1)), none⟩,
  ⟨some 3, .asg (.t 22), none⟩] (some [0, 3])
def c44_21 : SC := .seq (.block 1 (.seq (.reg [⟨some 23, .mv (.t 0), none⟩,
  ⟨some 24, .mv (.t 3), none⟩,
  ⟨some 25, .ia 41 (.t 23) (.t 24), none⟩,
  ⟨some 26, .fa 72 (.t 25) 2, none⟩,
  ⟨some 27, .ld 68 (.t 26), none⟩,
  ⟨some 28, .mv (.t 0), none⟩,
  ⟨some 29, .len 41 (.t 28), none⟩,
  ⟨some 30, .bn .sub 2 (.t 29) (.c (.int .i64 1)), none⟩,
  ⟨some 31, .call (.f 60) [(.t 27), (.c (.int .i64 0)), (.t 30)], none⟩,
  ⟨some 32, .un .not (.t 31), none⟩] (some [0, 3, 32])) c44_25)) c44_30
def c44_15 : SC := .seq (.seq (.reg [⟨some 17, .mv (.t 3), none⟩,
  ⟨some 18, .mv (.t 0), none⟩,
  ⟨some 19, .len 41 (.t 18), none⟩,
  ⟨some 20, .bn .lss 3 (.t 17) (.t 19), none⟩] (some [0, 3, 20])) c44_18) c44_21
def c44_13 : SC := .block 0 (.loop c44_15)
def c44_31 : SC := .seq (.reg [⟨some 2, .asg (.c (.bool true)), none⟩] (some [2])) .ret
def c44_10 : SC := .seq (.seq (.reg [⟨some 3, .asg (.c (.int .i64 0)), none⟩] (some [0, 3])) c44_13) c44_31
def c44_2 : SC := .seq (.seq (.reg [⟨some 4, .mv (.t 0), none⟩,
  ⟨some 5, .len 41 (.t 4), none⟩,
  ⟨some 6, .bn .lss 3 (.t 5) (.c (.int .i64 1)), none⟩,
  ⟨some 7, .mv (.t 6), none⟩,
  ⟨some 8, .mv (.t 0), some (7, false)⟩,
  ⟨some 9, .len 41 (.t 8), some (7, false)⟩,
  ⟨some 10, .bn .gtr 3 (.t 9) (.c (.int .i64 120)), some (7, false)⟩,
  ⟨some 11, .pick (.t 7) (.c (.bool true)) (.t 10), none⟩,
  ⟨some 12, .mv (.t 11), none⟩,
  ⟨some 13, .mv (.t 0), some (12, false)⟩,
  ⟨some 14, .call (.f 59) [(.t 13)], some (12, false)⟩,
  ⟨some 15, .bn .gtr 2 (.t 14) (.c (.int .i64 9)), some (12, false)⟩,
  ⟨some 16, .pick (.t 12) (.c (.bool true)) (.t 15), none⟩] (some [0, 16])) c44_5) c44_10
/-- loop.example/g01075/spec.l22Is -/
def c44 : SC := .seq (.reg [⟨some 2, .asg (.c (.bool false)), none⟩] (some [0])) c44_2
theorem s44 : slimC ⟨33, [0]⟩ (Try.f44.body.getD .skip) = some c44.strip := by kernel_rfl

def c61_10 : SC := .cond (.t 6) .skip (.exit 0)
def c61_16 : SC := .reg [⟨some 14, .mv (.t 0), none⟩,
  ⟨some 15, .bn .quo 2 (.t 14) (.c (.int .i64 128)), none⟩,
  ⟨some 0, .asg (.t 15), none⟩] (some [0, 3])
def c61_13 : SC := .block 1 (.seq (.reg [⟨some 7, .mv (.t 3), none⟩,
  ⟨some 8, .mv (.t 0), none⟩,
  ⟨some 9, .bn .rem 2 (.t 8) (.c (.int .i64 128)), none⟩,
  ⟨some 10, .bn .add 2 (.c (.int .i64 128)) (.t 9), none⟩,
  ⟨some 11, .cvt 2 5 (.t 10), none⟩,
  ⟨some 12, .bsl 59 1 [(0, (.t 11))], none⟩,
  ⟨some 13, .app 59 59 (.t 7) (.t 12), none⟩,
  ⟨some 3, .asg (.t 13), none⟩] (some [0, 3])) c61_16)
def c61_7 : SC := .seq (.seq (.reg [⟨some 5, .mv (.t 0), none⟩,
  ⟨some 6, .bn .geq 2 (.t 5) (.c (.int .i64 128)), none⟩] (some [0, 3, 6])) c61_10) c61_13
def c61_19 : SC := .seq (.reg [⟨some 21, .mv (.t 3), none⟩,
  ⟨some 22, .cvt 59 9 (.t 21), none⟩,
  ⟨some 2, .asg (.t 22), none⟩] (some [2])) .ret
def c61_17 : SC := .seq (.reg [⟨some 16, .mv (.t 3), none⟩,
  ⟨some 17, .mv (.t 0), none⟩,
  ⟨some 18, .cvt 2 5 (.t 17), none⟩,
  ⟨some 19, .bsl 59 1 [(0, (.t 18))], none⟩,
  ⟨some 20, .app 59 59 (.t 16) (.t 19), none⟩,
  ⟨some 3, .asg (.t 20), none⟩] (some [3])) c61_19
def c61_4 : SC := .seq (.block 0 (.loop c61_7)) c61_17
def c61_2 : SC := .seq (.reg [⟨some 4, .bsl 59 0 [], none⟩,
  ⟨some 3, .asg (.t 4), none⟩] (some [0, 3])) c61_4
/-- loop.example/g01075/spec.l32Number -/
def c61 : SC := .seq (.reg [⟨some 2, .asg (.c (.str [])), none⟩] (some [0])) c61_2
theorem s61 : slimC ⟨23, []⟩ (Try.f61.body.getD .skip) = some c61.strip := by kernel_rfl

def c62_6 : SC := .seq (.reg [⟨some 2, .asg (.c (.int .i64 1)), none⟩] (some [2])) .ret
def c62_5 : SC := .cond (.t 3) c62_6 .skip
def c62_10 : SC := .seq (.reg [⟨some 2, .asg (.c (.int .i64 0)), none⟩] (some [2])) .ret
def c62_2 : SC := .seq (.seq (.reg [⟨some 3, .mv (.t 0), none⟩] (some [3])) c62_5) c62_10
/-- loop.example/g01075/spec.l03Truth -/
def c62 : SC := .seq (.reg [⟨some 2, .asg (.c (.int .i64 0)), none⟩] (some [0])) c62_2
theorem s62 : slimC ⟨4, [0]⟩ (Try.f62.body.getD .skip) = some c62.strip := by kernel_rfl

def c52_10 : SC := .cond (.t 10) .skip (.exit 0)
def c52_24 : SC := .cond (.t 21) .skip (.exit 2)
def c52_34 : SC := .reg [⟨some 28, .mv (.t 1), none⟩,
  ⟨some 29, .bn .and 2 (.t 28) (.c (.int .i64 65535)), none⟩,
  ⟨some 30, .bn .xor 2 (.t 29) (.c (.int .i64 4129)), none⟩,
  ⟨some 1, .asg (.t 30), none⟩] (some [0, 1, 5, 6])
def c52_33 : SC := .cond (.t 27) c52_34 .skip
def c52_31 : SC := .seq (.reg [⟨some 26, .mv (.t 1), none⟩,
  ⟨some 27, .bn .gtr 2 (.t 26) (.c (.int .i64 65535)), none⟩] (some [0, 1, 5, 6, 27])) c52_33
def c52_36 : SC := .reg [⟨some 22, .mv (.t 6), none⟩,
  ⟨some 23, .bn .add 3 (.t 22) (.c (.int .i64 1)), none⟩,
  ⟨some 6, .asg (.t 23), none⟩] (some [0, 1, 5, 6])
def c52_27 : SC := .seq (.block 3 (.seq (.reg [⟨some 24, .mv (.t 1), none⟩,
  ⟨some 25, .bn .shl 2 (.t 24) (.c (.int .u64 1)), none⟩,
  ⟨some 1, .asg (.t 25), none⟩] (some [0, 1, 5, 6])) c52_31)) c52_36
def c52_21 : SC := .seq (.seq (.reg [⟨some 20, .mv (.t 6), none⟩,
  ⟨some 21, .bn .lss 3 (.t 20) (.c (.int .i64 8)), none⟩] (some [0, 1, 5, 6, 21])) c52_24) c52_27
def c52_19 : SC := .block 2 (.loop c52_21)
def c52_17 : SC := .seq (.reg [⟨some 6, .asg (.c (.int .i64 0)), none⟩] (some [0, 1, 5, 6])) c52_19
def c52_37 : SC := .reg [⟨some 11, .mv (.t 5), none⟩,
  ⟨some 12, .bn .add 3 (.t 11) (.c (.int .i64 1)), none⟩,
  ⟨some 5, .asg (.t 12), none⟩] (some [0, 1, 5])
def c52_13 : SC := .seq (.block 1 (.seq (.reg [⟨some 13, .mv (.t 1), none⟩,
  ⟨some 14, .mv (.t 0), none⟩,
  ⟨some 15, .mv (.t 5), none⟩,
  ⟨some 16, .idx 9 (.t 14) (.t 15), none⟩,
  ⟨some 17, .cvt 5 2 (.t 16), none⟩,
  ⟨some 18, .bn .shl 2 (.t 17) (.c (.int .u64 8)), none⟩,
  ⟨some 19, .bn .xor 2 (.t 13) (.t 18), none⟩,
  ⟨some 1, .asg (.t 19), none⟩] (some [0, 1, 5])) c52_17)) c52_37
def c52_7 : SC := .seq (.seq (.reg [⟨some 7, .mv (.t 5), none⟩,
  ⟨some 8, .mv (.t 0), none⟩,
  ⟨some 9, .len 9 (.t 8), none⟩,
  ⟨some 10, .bn .lss 3 (.t 7) (.t 9), none⟩] (some [0, 1, 5, 10])) c52_10) c52_13
def c52_5 : SC := .block 0 (.loop c52_7)
def c52_38 : SC := .seq (.reg [⟨some 31, .mv (.t 1), none⟩,
  ⟨some 4, .asg (.t 31), none⟩] (some [4])) .ret
def c52_2 : SC := .seq (.seq (.reg [⟨some 5, .asg (.c (.int .i64 0)), none⟩] (some [0, 1, 5])) c52_5) c52_38
/-- loop.example/g01075/spec.l01Crc -/
def c52 : SC := .seq (.reg [⟨some 4, .asg (.c (.int .i64 0)), none⟩] (some [0, 1])) c52_2
theorem s52 : slimC ⟨32, [0]⟩ (Try.f52.body.getD .skip) = some c52.strip := by kernel_rfl

def c63_8 : SC := .seq (.reg [⟨some 4, .asg (.c (.str [])), none⟩] (some [4])) .ret
def c63_7 : SC := .cond (.t 16) c63_8 .skip
def c63_14 : SC := .seq (.reg [⟨some 19, .mv (.t 5), none⟩,
  ⟨some 20, .mv (.t 6), none⟩,
  ⟨some 21, .bn .quo 2 (.t 20) (.c (.int .i64 256)), none⟩,
  ⟨some 22, .cvt 2 5 (.t 21), none⟩,
  ⟨some 23, .mv (.t 6), none⟩,
  ⟨some 24, .bn .rem 2 (.t 23) (.c (.int .i64 256)), none⟩,
  ⟨some 25, .cvt 2 5 (.t 24), none⟩,
  ⟨some 26, .bsl 59 2 [(0, (.t 22)), (1, (.t 25))], none⟩,
  ⟨some 27, .cvt 59 9 (.t 26), none⟩,
  ⟨some 28, .bn .add 9 (.t 19) (.t 27), none⟩,
  ⟨some 4, .asg (.t 28), none⟩] (some [4])) .ret
def c63_12 : SC := .seq (.reg [⟨some 17, .mv (.t 5), none⟩,
  ⟨some 18, .call (.f 52) [(.t 17), (.c (.int .i64 65535))], none⟩,
  ⟨some 6, .asg (.t 18), none⟩] (some [5, 6])) c63_14
def c63_4 : SC := .seq (.seq (.reg [⟨some 13, .mv (.t 5), none⟩,
  ⟨some 14, .len 9 (.t 13), none⟩,
  ⟨some 15, .bn .add 3 (.t 14) (.c (.int .i64 2)), none⟩,
  ⟨some 16, .bn .gtr 3 (.t 15) (.c (.int .i64 6000)), none⟩] (some [5, 16])) c63_7) c63_12
def c63_2 : SC := .seq (.reg [⟨some 7, .mv (.t 0), none⟩,
  ⟨some 8, .cvt 2 5 (.t 7), none⟩,
  ⟨some 9, .bsl 59 1 [(0, (.t 8))], none⟩,
  ⟨some 10, .cvt 59 9 (.t 9), none⟩,
  ⟨some 11, .mv (.t 1), none⟩,
  ⟨some 12, .bn .add 9 (.t 10) (.t 11), none⟩,
  ⟨some 5, .asg (.t 12), none⟩] (some [5])) c63_4
/-- loop.example/g01075/spec.l32Seal -/
def c63 : SC := .seq (.reg [⟨some 4, .asg (.c (.str [])), none⟩] (some [0, 1])) c63_2
theorem s63 : slimC ⟨29, [0, 1]⟩ (Try.f63.body.getD .skip) = some c63.strip := by kernel_rfl

def c45_12 : SC := .cond (.t 12) .skip (.exit 0)
def c45_27 : SC := .cond (.t 47) .skip (.exit 2)
def c45_33 : SC := .reg [⟨some 48, .mv (.t 5), none⟩,
  ⟨some 49, .bn .add 3 (.t 48) (.c (.int .i64 1)), none⟩,
  ⟨some 5, .asg (.t 49), none⟩] (some [0, 3, 4, 5])
def c45_30 : SC := .seq (.block 3 (.reg [⟨some 50, .mv (.t 3), none⟩,
  ⟨some 51, .mv (.t 0), none⟩,
  ⟨some 52, .mv (.t 4), none⟩,
  ⟨some 53, .ia 41 (.t 51) (.t 52), none⟩,
  ⟨some 54, .fa 72 (.t 53) 2, none⟩,
  ⟨some 55, .ld 68 (.t 54), none⟩,
  ⟨some 56, .mv (.t 5), none⟩,
  ⟨some 57, .ia 68 (.t 55) (.t 56), none⟩,
  ⟨some 58, .ld 2 (.t 57), none⟩,
  ⟨some 59, .call (.f 61) [(.t 58)], none⟩,
  ⟨some 60, .bn .add 9 (.t 50) (.t 59), none⟩,
  ⟨some 3, .asg (.t 60), none⟩] (some [0, 3, 4, 5]))) c45_33
def c45_24 : SC := .seq (.seq (.reg [⟨some 40, .mv (.t 5), none⟩,
  ⟨some 41, .mv (.t 0), none⟩,
  ⟨some 42, .mv (.t 4), none⟩,
  ⟨some 43, .ia 41 (.t 41) (.t 42), none⟩,
  ⟨some 44, .fa 72 (.t 43) 2, none⟩,
  ⟨some 45, .ld 68 (.t 44), none⟩,
  ⟨some 46, .len 68 (.t 45), none⟩,
  ⟨some 47, .bn .lss 3 (.t 40) (.t 46), none⟩] (some [0, 3, 4, 5, 47])) c45_27) c45_30
def c45_22 : SC := .block 2 (.loop c45_24)
def c45_37 : SC := .seq (.reg [⟨some 2, .asg (.c (.str [])), none⟩] (some [2])) .ret
def c45_36 : SC := .cond (.t 63) c45_37 .skip
def c45_34 : SC := .seq (.reg [⟨some 61, .mv (.t 3), none⟩,
  ⟨some 62, .len 9 (.t 61), none⟩,
  ⟨some 63, .bn .gtr 3 (.t 62) (.c (.int .i64 6000)), none⟩] (some [0, 3, 4, 63])) c45_36
def c45_19 : SC := .seq (.seq (.reg [⟨some 5, .asg (.c (.int .i64 0)), none⟩] (some [0, 3, 4, 5])) c45_22) c45_34
def c45_41 : SC := .reg [⟨some 13, .mv (.t 4), none⟩,
  ⟨some 14, .bn .add 3 (.t 13) (.c (.int .i64 1)), none⟩,
  ⟨some 4, .asg (.t 14), none⟩] (some [0, 3, 4])
def c45_15 : SC := .seq (.block 1 (.seq (.drw [⟨some 15, .mv (.t 3), none⟩,
  ⟨some 16, .mv (.t 0), none⟩,
  ⟨some 17, .mv (.t 4), none⟩,
  ⟨some 18, .ia 41 (.t 16) (.t 17), none⟩,
  ⟨some 19, .fa 72 (.t 18) 0, none⟩,
  ⟨some 20, .ld 4 (.t 19), none⟩,
  ⟨some 21, .call (.f 62) [(.t 20)], none⟩,
  ⟨some 22, .mv (.t 0), none⟩,
  ⟨some 23, .mv (.t 4), none⟩,
  ⟨some 24, .ia 41 (.t 22) (.t 23), none⟩,
  ⟨some 25, .fa 72 (.t 24) 1, none⟩,
  ⟨some 26, .ld 4 (.t 25), none⟩,
  ⟨some 27, .call (.f 62) [(.t 26)], none⟩,
  ⟨some 28, .bn .mul 2 (.c (.int .i64 2)) (.t 27), none⟩,
  ⟨some 29, .bn .add 2 (.t 21) (.t 28), none⟩,
  ⟨some 30, .call (.f 61) [(.t 29)], none⟩,
  ⟨some 31, .mv (.t 0), none⟩,
  ⟨some 32, .mv (.t 4), none⟩,
  ⟨some 33, .ia 41 (.t 31) (.t 32), none⟩,
  ⟨some 34, .fa 72 (.t 33) 2, none⟩,
  ⟨some 35, .ld 68 (.t 34), none⟩,
  ⟨some 36, .len 68 (.t 35), none⟩,
  ⟨some 37, .call (.f 61) [(.t 36)], none⟩,
  ⟨some 38, .bn .add 9 (.t 30) (.t 37), none⟩,
  ⟨some 39, .bn .add 9 (.t 15) (.t 38), none⟩,
  ⟨some 3, .asg (.t 39), none⟩] [[], [], [], [1, 2], [3], [4], [5], [], [], [7, 8], [9], [10], [11, 6], [12], [6, 13], [14, 12], [], [], [16, 17], [18], [19], [20], [21, 15], [15, 22], [0, 23], [24, 22, 0, 1, 2, 3, 4, 5, 6, 7, 8, 9, 10, 11, 12, 13, 14, 15, 16, 17, 18, 19, 20, 21, 22, 23, 24]] (some [0, 3, 4])) c45_19)) c45_41
def c45_9 : SC := .seq (.seq (.reg [⟨some 9, .mv (.t 4), none⟩,
  ⟨some 10, .mv (.t 0), none⟩,
  ⟨some 11, .len 41 (.t 10), none⟩,
  ⟨some 12, .bn .lss 3 (.t 9) (.t 11), none⟩] (some [0, 3, 4, 12])) c45_12) c45_15
def c45_7 : SC := .block 0 (.loop c45_9)
def c45_42 : SC := .seq (.reg [⟨some 64, .mv (.t 3), none⟩,
  ⟨some 65, .call (.f 63) [(.c (.int .i64 3)), (.t 64)], none⟩,
  ⟨some 2, .asg (.t 65), none⟩] (some [2])) .ret
def c45_4 : SC := .seq (.seq (.reg [⟨some 4, .asg (.c (.int .i64 0)), none⟩] (some [0, 3, 4])) c45_7) c45_42
def c45_2 : SC := .seq (.reg [⟨some 6, .mv (.t 0), none⟩,
  ⟨some 7, .len 41 (.t 6), none⟩,
  ⟨some 8, .call (.f 61) [(.t 7)], none⟩,
  ⟨some 3, .asg (.t 8), none⟩] (some [0, 3])) c45_4
/-- loop.example/g01075/spec.l32Equations -/
def c45 : SC := .seq (.reg [⟨some 2, .asg (.c (.str [])), none⟩] (some [0])) c45_2
theorem s45 : slimC ⟨66, [0]⟩ (Try.f45.body.getD .skip) = some c45.strip := by kernel_rfl

def c23_6 : SC := .seq (.reg [⟨some 2, .asg (.c (.str [])), none⟩] (some [2])) .ret
def c23_5 : SC := .cond (.t 5) c23_6 .skip
def c23_10 : SC := .seq (.reg [⟨some 6, .mv (.t 0), none⟩,
  ⟨some 7, .call (.f 45) [(.t 6)], none⟩,
  ⟨some 2, .asg (.t 7), none⟩] (some [2])) .ret
def c23_2 : SC := .seq (.seq (.reg [⟨some 3, .mv (.t 0), none⟩,
  ⟨some 4, .call (.f 44) [(.t 3)], none⟩,
  ⟨some 5, .un .not (.t 4), none⟩] (some [0, 5])) c23_5) c23_10
/-- loop.example/g01075/spec.EncodeEquations -/
def c23 : SC := .seq (.reg [⟨some 2, .asg (.c (.str [])), none⟩] (some [0])) c23_2
theorem s23 : slimC ⟨8, [0]⟩ (Try.f23.body.getD .skip) = some c23.strip := by kernel_rfl

def c31_2 : SC := .seq (.reg [⟨some 7, .mv (.t 0), none⟩,
  ⟨some 8, .mv (.t 1), none⟩,
  ⟨some 9, .bn .geq 2 (.t 7) (.t 8), none⟩,
  ⟨some 10, .mv (.t 9), none⟩,
  ⟨some 11, .mv (.t 0), some (10, true)⟩,
  ⟨some 12, .mv (.t 2), some (10, true)⟩,
  ⟨some 13, .bn .leq 2 (.t 11) (.t 12), some (10, true)⟩,
  ⟨some 14, .pick (.t 10) (.t 13) (.c (.bool false)), none⟩,
  ⟨some 6, .asg (.t 14), none⟩] (some [6])) .ret
/-- loop.example/g01075/impl.within -/
def c31 : SC := .seq (.reg [⟨some 6, .asg (.c (.bool false)), none⟩] (some [0, 1, 2])) c31_2
theorem s31 : slimC ⟨15, [0, 1, 2]⟩ (Try.f31.body.getD .skip) = some c31.strip := by kernel_rfl

def c75_25 : SC := .reg [⟨some 27, .mv (.t 4), none⟩,
  ⟨some 28, .bn .add 2 (.t 27) (.c (.int .i64 1)), none⟩,
  ⟨some 4, .asg (.t 28), none⟩] (some [0, 3, 4, 7, 8, 9])
def c75_24 : SC := .cond (.t 26) c75_25 .skip
def c75_27 : SC := .reg [⟨some 29, .mv (.t 3), none⟩,
  ⟨some 30, .mv (.t 4), none⟩,
  ⟨some 31, .bsl 68 1 [(0, (.t 30))], none⟩,
  ⟨some 32, .app 68 68 (.t 29) (.t 31), none⟩,
  ⟨some 3, .asg (.t 32), none⟩] (some [0, 3, 4, 7, 8, 9])
def c75_21 : SC := .seq (.seq (.drw [⟨some 14, .mv (.t 5), none⟩,
  ⟨some 15, .bn .gtr 3 (.t 14) (.c (.int .i64 0)), none⟩,
  ⟨some 16, .mv (.t 15), none⟩,
  ⟨some 17, .fa 72 (.t 6) 0, some (16, true)⟩,
  ⟨some 18, .ld 4 (.t 17), some (16, true)⟩,
  ⟨some 19, .mv (.t 0), some (16, true)⟩,
  ⟨some 20, .mv (.t 5), some (16, true)⟩,
  ⟨some 21, .bn .sub 3 (.t 20) (.c (.int .i64 1)), some (16, true)⟩,
  ⟨some 22, .ia 41 (.t 19) (.t 21), some (16, true)⟩,
  ⟨some 23, .fa 72 (.t 22) 0, some (16, true)⟩,
  ⟨some 24, .ld 4 (.t 23), some (16, true)⟩,
  ⟨some 25, .bn .neq 4 (.t 18) (.t 24), some (16, true)⟩,
  ⟨some 26, .pick (.t 16) (.t 25) (.c (.bool false)), none⟩] [[], [0], [1], [2], [3, 2], [2], [2], [6, 2], [5, 7, 2], [8, 2], [9, 2], [4, 10, 2], [2, 11]] (some [0, 3, 4, 7, 8, 9, 26])) c75_24) c75_27
def c75_28 : SC := .reg [⟨some 33, .bn .add 3 (.t 9) (.c (.int .i64 1)), none⟩,
  ⟨some 9, .mv (.t 33), none⟩] (some [0, 3, 4, 7, 8, 9])
def c75_17 : SC := .seq (.block 1 (.seq (.reg [⟨some 11, .mv (.t 9), none⟩,
  ⟨some 12, .ia 41 (.t 7) (.t 9), none⟩,
  ⟨some 13, .ld 72 (.t 12), none⟩,
  ⟨some 6, .alc 72, none⟩,
  ⟨some 5, .asg (.t 11), none⟩,
  ⟨none, .sto 72 (.t 6) (.t 13), none⟩] (some [0, 3, 4, 5, 6, 7, 8, 9])) c75_21)) c75_28
def c75_13 : SC := .seq (.cond (.t 10) .skip (.exit 0)) c75_17
def c75_11 : SC := .seq (.reg [⟨some 10, .bn .lss 3 (.t 9) (.t 8), none⟩] (some [0, 3, 4, 7, 8, 9, 10])) c75_13
def c75_9 : SC := .block 0 (.loop c75_11)
def c75_29 : SC := .seq (.reg [⟨some 34, .mv (.t 3), none⟩,
  ⟨some 2, .asg (.t 34), none⟩] (some [2])) .ret
def c75_6 : SC := .seq (.seq (.reg [⟨some 7, .mv (.t 0), none⟩,
  ⟨some 8, .len 41 (.t 7), none⟩,
  ⟨some 9, .mv (.c (.int .i64 0)), none⟩] (some [0, 3, 4, 7, 8, 9])) c75_9) c75_29
def c75_4 : SC := .seq (.reg [⟨some 4, .asg (.c (.int .i64 0)), none⟩] (some [0, 3, 4])) c75_6
def c75_2 : SC := .seq (.reg [⟨some 3, .asg (.c .nils), none⟩] (some [0, 3])) c75_4
/-- loop.example/g01075/impl.equationBlocks -/
def c75 : SC := .seq (.reg [⟨some 2, .asg (.c .nils), none⟩] (some [0])) c75_2
theorem s75 : slimC ⟨35, [0]⟩ (Try.f75.body.getD .skip) = some c75.strip := by kernel_rfl

def c74_2 : SC := .seq (.reg [⟨some 3, .mv (.t 0), none⟩,
  ⟨some 4, .mv (.t 0), none⟩,
  ⟨some 5, .len 68 (.t 4), none⟩,
  ⟨some 6, .bn .sub 3 (.t 5) (.c (.int .i64 1)), none⟩,
  ⟨some 7, .ia 68 (.t 3) (.t 6), none⟩,
  ⟨some 8, .ld 2 (.t 7), none⟩,
  ⟨some 2, .asg (.t 8), none⟩] (some [2])) .ret
/-- loop.example/g01075/impl.last[int64] -/
def c74 : SC := .seq (.reg [⟨some 2, .asg (.c (.int .i64 0)), none⟩] (some [0])) c74_2
theorem s74 : slimC ⟨9, [0]⟩ (Try.f74.body.getD .skip) = some c74.strip := by kernel_rfl

def c65_2 : SC := .seq (.reg [⟨some 3, .mv (.t 0), none⟩,
  ⟨some 4, .call (.f 75) [(.t 3)], none⟩,
  ⟨some 5, .call (.f 74) [(.t 4)], none⟩,
  ⟨some 6, .bn .lss 2 (.t 5) (.c (.int .i64 9)), none⟩,
  ⟨some 2, .asg (.t 6), none⟩] (some [2])) .ret
/-- loop.example/g01075/impl.blocksFit -/
def c65 : SC := .seq (.reg [⟨some 2, .asg (.c (.bool false)), none⟩] (some [0])) c65_2
theorem s65 : slimC ⟨7, [0]⟩ (Try.f65.body.getD .skip) = some c65.strip := by kernel_rfl

def c28_2 : SC := .seq (.reg [⟨some 5, .mv (.t 0), none⟩,
  ⟨some 6, .mv (.t 1), none⟩,
  ⟨some 7, .bn .sub 2 (.t 6) (.c (.int .i64 1)), none⟩,
  ⟨some 8, .call (.f 31) [(.t 5), (.c (.int .i64 0)), (.t 7)], none⟩,
  ⟨some 4, .asg (.t 8), none⟩] (some [4])) .ret
/-- loop.example/g01075/impl.index -/
def c28 : SC := .seq (.reg [⟨some 4, .asg (.c (.bool false)), none⟩] (some [0, 1])) c28_2
theorem s28 : slimC ⟨9, [0, 1]⟩ (Try.f28.body.getD .skip) = some c28.strip := by kernel_rfl

def c68_20 : SC := .seq (.reg [⟨some 4, .asg (.c (.bool false)), none⟩] (some [4])) .ret
def c68_19 : SC := .cond (.t 30) c68_20 .skip
def c68_17 : SC := .seq (.reg [⟨some 14, .mv (.t 6), none⟩,
  ⟨some 15, .mv (.t 1), none⟩,
  ⟨some 16, .call (.f 28) [(.t 14), (.t 15)], none⟩,
  ⟨some 17, .un .not (.t 16), none⟩,
  ⟨some 18, .mv (.t 17), none⟩,
  ⟨some 19, .mv (.t 5), some (18, false)⟩,
  ⟨some 20, .bn .gtr 3 (.t 19) (.c (.int .i64 0)), some (18, false)⟩,
  ⟨some 21, .mv (.t 20), some (18, false)⟩,
  ⟨some 22, .mv (.t 6), some (21, true)⟩,
  ⟨some 23, .mv (.t 0), some (21, true)⟩,
  ⟨some 24, .mv (.t 5), some (21, true)⟩,
  ⟨some 25, .bn .sub 3 (.t 24) (.c (.int .i64 1)), some (21, true)⟩,
  ⟨some 26, .ia 68 (.t 23) (.t 25), some (21, true)⟩,
  ⟨some 27, .ld 2 (.t 26), some (21, true)⟩,
  ⟨some 28, .bn .leq 2 (.t 22) (.t 27), some (21, true)⟩,
  ⟨some 29, .pick (.t 21) (.t 28) (.c (.bool false)), some (18, false)⟩,
  ⟨some 30, .pick (.t 18) (.c (.bool true)) (.t 29), none⟩] (some [0, 1, 7, 8, 9, 30])) c68_19
def c68_24 : SC := .reg [⟨some 31, .bn .add 3 (.t 9) (.c (.int .i64 1)), none⟩,
  ⟨some 9, .mv (.t 31), none⟩] (some [0, 1, 7, 8, 9])
def c68_13 : SC := .seq (.block 1 (.seq (.reg [⟨some 11, .mv (.t 9), none⟩,
  ⟨some 12, .ia 68 (.t 7) (.t 9), none⟩,
  ⟨some 13, .ld 2 (.t 12), none⟩,
  ⟨some 5, .asg (.t 11), none⟩,
  ⟨some 6, .asg (.t 13), none⟩] (some [0, 1, 5, 6, 7, 8, 9])) c68_17)) c68_24
def c68_9 : SC := .seq (.cond (.t 10) .skip (.exit 0)) c68_13
def c68_7 : SC := .seq (.reg [⟨some 10, .bn .lss 3 (.t 9) (.t 8), none⟩] (some [0, 1, 7, 8, 9, 10])) c68_9
def c68_5 : SC := .block 0 (.loop c68_7)
def c68_25 : SC := .seq (.reg [⟨some 4, .asg (.c (.bool true)), none⟩] (some [4])) .ret
def c68_2 : SC := .seq (.seq (.reg [⟨some 7, .mv (.t 0), none⟩,
  ⟨some 8, .len 68 (.t 7), none⟩,
  ⟨some 9, .mv (.c (.int .i64 0)), none⟩] (some [0, 1, 7, 8, 9])) c68_5) c68_25
/-- loop.example/g01075/impl.increasing -/
def c68 : SC := .seq (.reg [⟨some 4, .asg (.c (.bool false)), none⟩] (some [0, 1])) c68_2
theorem s68 : slimC ⟨32, [0, 1]⟩ (Try.f68.body.getD .skip) = some c68.strip := by kernel_rfl

def c67_2 : SC := .seq (.reg [⟨some 4, .fa 72 (.t 2) 2, none⟩,
  ⟨some 5, .ld 68 (.t 4), none⟩,
  ⟨some 6, .ld 41 (.t 1), none⟩,
  ⟨some 7, .len 41 (.t 6), none⟩,
  ⟨some 8, .call (.f 68) [(.t 5), (.t 7)], none⟩,
  ⟨some 9, .un .not (.t 8), none⟩,
  ⟨some 3, .asg (.t 9), none⟩] (some [3])) .ret
/-- loop.example/g01075/impl.ValidEquations$1 -/
def c67 : SC := .seq (.reg [⟨some 2, .bx 72 (.t 0), none⟩,
  ⟨some 3, .asg (.c (.bool false)), none⟩] (some [1, 2])) c67_2
theorem s67 : slimC ⟨10, [0, 1]⟩ (Try.f67.body.getD .skip) = some c67.strip := by kernel_rfl

def c76_20 : SC := .seq (.reg [⟨some 17, .mv (.t 5), none⟩,
  ⟨some 4, .asg (.t 17), none⟩] (some [4])) .ret
def c76_19 : SC := .cond (.t 16) c76_20 .skip
def c76_17 : SC := .seq (.reg [⟨some 11, .mv (.t 1), none⟩,
  ⟨some 12, .mv (.t 0), none⟩,
  ⟨some 13, .mv (.t 5), none⟩,
  ⟨some 14, .ia 41 (.t 12) (.t 13), none⟩,
  ⟨some 15, .ld 72 (.t 14), none⟩,
  ⟨some 16, .call (.t 11) [(.t 15)], none⟩] (some [0, 1, 5, 7, 8, 16])) c76_19
def c76_24 : SC := .reg [⟨some 18, .bn .add 3 (.t 8) (.c (.int .i64 1)), none⟩,
  ⟨some 8, .mv (.t 18), none⟩] (some [0, 1, 7, 8])
def c76_13 : SC := .seq (.block 1 (.seq (.reg [⟨some 10, .mv (.t 8), none⟩,
  ⟨some 5, .asg (.t 10), none⟩] (some [0, 1, 5, 7, 8])) c76_17)) c76_24
def c76_9 : SC := .seq (.cond (.t 9) .skip (.exit 0)) c76_13
def c76_7 : SC := .seq (.reg [⟨some 9, .bn .lss 3 (.t 8) (.t 7), none⟩] (some [0, 1, 7, 8, 9])) c76_9
def c76_5 : SC := .block 0 (.loop c76_7)
def c76_25 : SC := .seq (.reg [⟨some 4, .asg (.c (.int .i64 (-1))), none⟩] (some [4])) .ret
def c76_2 : SC := .seq (.seq (.reg [⟨some 6, .mv (.t 0), none⟩,
  ⟨some 7, .len 41 (.t 6), none⟩,
  ⟨some 8, .mv (.c (.int .i64 0)), none⟩] (some [0, 1, 7, 8])) c76_5) c76_25
/-- slices.IndexFunc[[]loop.example/g01075/impl.Equation,loop.example/g01075/impl.Equation] -/
def c76 : SC := .seq (.reg [⟨some 4, .asg (.c (.int .i64 0)), none⟩] (some [0, 1])) c76_2
theorem s76 : slimC ⟨19, [0, 1]⟩ (Try.f76.body.getD .skip) = some c76.strip := by kernel_rfl

def c66_2 : SC := .seq (.reg [⟨some 5, .mv (.t 0), none⟩,
  ⟨some 6, .mv (.t 1), none⟩,
  ⟨some 7, .call (.f 76) [(.t 5), (.t 6)], none⟩,
  ⟨some 8, .bn .geq 3 (.t 7) (.c (.int .i64 0)), none⟩,
  ⟨some 4, .asg (.t 8), none⟩] (some [4])) .ret
/-- slices.ContainsFunc[[]loop.example/g01075/impl.Equation,loop.example/g01075/impl.Equation] -/
def c66 : SC := .seq (.reg [⟨some 4, .asg (.c (.bool false)), none⟩] (some [0, 1])) c66_2
theorem s66 : slimC ⟨9, [0, 1]⟩ (Try.f66.body.getD .skip) = some c66.strip := by kernel_rfl

def c47_6 : SC := .seq (.reg [⟨some 2, .asg (.c (.bool false)), none⟩] (some [2])) .ret
def c47_5 : SC := .cond (.t 11) c47_6 .skip
def c47_10 : SC := .seq (.reg [⟨some 12, .ld 41 (.t 1), none⟩,
  ⟨some 13, .mkf 67 [(.t 1)], none⟩,
  ⟨some 14, .call (.f 66) [(.t 12), (.t 13)], none⟩,
  ⟨some 15, .un .not (.t 14), none⟩,
  ⟨some 2, .asg (.t 15), none⟩] (some [2])) .ret
def c47_2 : SC := .seq (.seq (.reg [⟨some 3, .ld 41 (.t 1), none⟩,
  ⟨some 4, .len 41 (.t 3), none⟩,
  ⟨some 5, .call (.f 31) [(.t 4), (.c (.int .i64 1)), (.c (.int .i64 120))], none⟩,
  ⟨some 6, .un .not (.t 5), none⟩,
  ⟨some 7, .mv (.t 6), none⟩,
  ⟨some 8, .ld 41 (.t 1), some (7, false)⟩,
  ⟨some 9, .call (.f 65) [(.t 8)], some (7, false)⟩,
  ⟨some 10, .un .not (.t 9), some (7, false)⟩,
  ⟨some 11, .pick (.t 7) (.c (.bool true)) (.t 10), none⟩] (some [1, 11])) c47_5) c47_10
/-- loop.example/g01075/impl.ValidEquations -/
def c47 : SC := .seq (.reg [⟨some 1, .bx 41 (.t 0), none⟩,
  ⟨some 2, .asg (.c (.bool false)), none⟩] (some [1])) c47_2
theorem s47 : slimC ⟨16, [0]⟩ (Try.f47.body.getD .skip) = some c47.strip := by kernel_rfl

def c48_20 : SC := .cond (.t 13) .skip (.exit 2)
def c48_26 : SC := .reg [⟨some 27, .mv (.t 5), none⟩,
  ⟨some 28, .bn .quo 2 (.t 27) (.c (.int .i64 128)), none⟩,
  ⟨some 5, .asg (.t 28), none⟩] (some [0, 5, 6, 7, 8])
def c48_23 : SC := .block 3 (.seq (.reg [⟨some 14, .mv (.t 0), none⟩,
  ⟨some 15, .mv (.t 0), none⟩,
  ⟨some 16, .nilc (.t 15), none⟩,
  ⟨some 17, .fa 76 (.t 16) 0, none⟩,
  ⟨some 18, .ld 59 (.t 17), none⟩,
  ⟨some 19, .mv (.t 5), none⟩,
  ⟨some 20, .bn .rem 2 (.t 19) (.c (.int .i64 128)), none⟩,
  ⟨some 21, .bn .add 2 (.c (.int .i64 128)) (.t 20), none⟩,
  ⟨some 22, .cvt 2 5 (.t 21), none⟩,
  ⟨some 23, .bsl 59 1 [(0, (.t 22))], none⟩,
  ⟨some 24, .app 59 59 (.t 18) (.t 23), none⟩,
  ⟨some 25, .nilc (.t 14), none⟩,
  ⟨some 26, .fa 76 (.t 25) 0, none⟩,
  ⟨none, .sto 59 (.t 26) (.t 24), none⟩] (some [0, 5, 6, 7, 8])) c48_26)
def c48_17 : SC := .seq (.seq (.reg [⟨some 12, .mv (.t 5), none⟩,
  ⟨some 13, .bn .geq 2 (.t 12) (.c (.int .i64 128)), none⟩] (some [0, 5, 6, 7, 8, 13])) c48_20) c48_23
def c48_27 : SC := .reg [⟨some 29, .mv (.t 0), none⟩,
  ⟨some 30, .mv (.t 0), none⟩,
  ⟨some 31, .nilc (.t 30), none⟩,
  ⟨some 32, .fa 76 (.t 31) 0, none⟩,
  ⟨some 33, .ld 59 (.t 32), none⟩,
  ⟨some 34, .mv (.t 5), none⟩,
  ⟨some 35, .cvt 2 5 (.t 34), none⟩,
  ⟨some 36, .bsl 59 1 [(0, (.t 35))], none⟩,
  ⟨some 37, .app 59 59 (.t 33) (.t 36), none⟩,
  ⟨some 38, .nilc (.t 29), none⟩,
  ⟨some 39, .fa 76 (.t 38) 0, none⟩,
  ⟨none, .sto 59 (.t 39) (.t 37), none⟩] (some [0, 6, 7, 8])
def c48_14 : SC := .seq (.block 2 (.loop c48_17)) c48_27
def c48_28 : SC := .reg [⟨some 40, .bn .add 3 (.t 8) (.c (.int .i64 1)), none⟩,
  ⟨some 8, .mv (.t 40), none⟩] (some [0, 6, 7, 8])
def c48_10 : SC := .seq (.block 1 (.seq (.reg [⟨some 10, .ia 68 (.t 6) (.t 8), none⟩,
  ⟨some 11, .ld 2 (.t 10), none⟩,
  ⟨some 5, .asg (.t 11), none⟩] (some [0, 5, 6, 7, 8])) c48_14)) c48_28
def c48_6 : SC := .seq (.cond (.t 9) .skip (.exit 0)) c48_10
def c48_4 : SC := .seq (.reg [⟨some 9, .bn .lss 3 (.t 8) (.t 7), none⟩] (some [0, 6, 7, 8, 9])) c48_6
def c48_2 : SC := .block 0 (.loop c48_4)
/-- (*loop.example/g01075/impl.writer).number -/
def c48 : SC := .seq (.reg [⟨some 6, .mv (.t 1), none⟩,
  ⟨some 7, .len 68 (.t 6), none⟩,
  ⟨some 8, .mv (.c (.int .i64 0)), none⟩] (some [0, 6, 7, 8])) c48_2
theorem s48 : slimC ⟨41, [0, 1]⟩ (Try.f48.body.getD .skip) = some c48.strip := by kernel_rfl

def c49_6 : SC := .seq (.reg [⟨some 2, .asg (.c (.int .i64 1)), none⟩] (some [2])) .ret
def c49_5 : SC := .cond (.t 3) c49_6 .skip
def c49_10 : SC := .seq (.reg [⟨some 2, .asg (.c (.int .i64 0)), none⟩] (some [2])) .ret
def c49_2 : SC := .seq (.seq (.reg [⟨some 3, .mv (.t 0), none⟩] (some [3])) c49_5) c49_10
/-- loop.example/g01075/impl.truth -/
def c49 : SC := .seq (.reg [⟨some 2, .asg (.c (.int .i64 0)), none⟩] (some [0])) c49_2
theorem s49 : slimC ⟨4, [0]⟩ (Try.f49.body.getD .skip) = some c49.strip := by kernel_rfl

def c30_6 : SC := .seq (.reg [⟨some 4, .asg (.c (.int .i64 0)), none⟩] (some [4])) .ret
def c30_5 : SC := .cond (.t 9) c30_6 .skip
def c30_46 : SC := .reg [⟨some 29, .mv (.t 5), none⟩,
  ⟨some 30, .bn .and 2 (.t 29) (.c (.int .i64 65535)), none⟩,
  ⟨some 31, .bn .xor 2 (.t 30) (.c (.int .i64 4129)), none⟩,
  ⟨some 5, .asg (.t 31), none⟩] (some [0, 5, 12, 13, 23])
def c30_45 : SC := .cond (.t 28) c30_46 .skip
def c30_43 : SC := .seq (.reg [⟨some 27, .mv (.t 5), none⟩,
  ⟨some 28, .bn .gtr 2 (.t 27) (.c (.int .i64 65535)), none⟩] (some [0, 5, 12, 13, 23, 28])) c30_45
def c30_48 : SC := .reg [⟨some 32, .bn .add 3 (.t 23) (.c (.int .i64 1)), none⟩,
  ⟨some 23, .mv (.t 32), none⟩] (some [0, 5, 12, 13, 23])
def c30_39 : SC := .seq (.block 3 (.seq (.reg [⟨some 25, .mv (.t 5), none⟩,
  ⟨some 26, .bn .mul 2 (.t 25) (.c (.int .i64 2)), none⟩,
  ⟨some 5, .asg (.t 26), none⟩] (some [0, 5, 12, 13, 23])) c30_43)) c30_48
def c30_35 : SC := .seq (.cond (.t 24) .skip (.exit 2)) c30_39
def c30_33 : SC := .seq (.reg [⟨some 24, .bn .lss 3 (.t 23) (.c (.int .i64 8)), none⟩] (some [0, 5, 12, 13, 23, 24])) c30_35
def c30_31 : SC := .block 2 (.loop c30_33)
def c30_29 : SC := .seq (.reg [⟨some 23, .mv (.c (.int .i64 0)), none⟩] (some [0, 5, 12, 13, 23])) c30_31
def c30_27 : SC := .seq (.reg [⟨some 16, .mv (.t 5), none⟩,
  ⟨some 17, .mv (.t 0), none⟩,
  ⟨some 18, .mv (.t 6), none⟩,
  ⟨some 19, .idx 9 (.t 17) (.t 18), none⟩,
  ⟨some 20, .cvt 5 2 (.t 19), none⟩,
  ⟨some 21, .bn .mul 2 (.t 20) (.c (.int .i64 256)), none⟩,
  ⟨some 22, .bn .xor 2 (.t 16) (.t 21), none⟩,
  ⟨some 5, .asg (.t 22), none⟩] (some [0, 5, 12, 13])) c30_29
def c30_49 : SC := .reg [⟨some 33, .bn .add 3 (.t 13) (.c (.int .i64 1)), none⟩,
  ⟨some 13, .mv (.t 33), none⟩] (some [0, 5, 12, 13])
def c30_23 : SC := .seq (.block 1 (.seq (.reg [⟨some 15, .mv (.t 13), none⟩,
  ⟨some 6, .asg (.t 15), none⟩] (some [0, 5, 6, 12, 13])) c30_27)) c30_49
def c30_19 : SC := .seq (.cond (.t 14) .skip (.exit 0)) c30_23
def c30_17 : SC := .seq (.reg [⟨some 14, .bn .lss 3 (.t 13) (.t 12), none⟩] (some [0, 5, 12, 13, 14])) c30_19
def c30_15 : SC := .block 0 (.loop c30_17)
def c30_50 : SC := .seq (.reg [⟨some 34, .mv (.t 5), none⟩,
  ⟨some 4, .asg (.t 34), none⟩] (some [4])) .ret
def c30_12 : SC := .seq (.seq (.reg [⟨some 11, .mv (.t 0), none⟩,
  ⟨some 12, .len 9 (.t 11), none⟩,
  ⟨some 13, .mv (.c (.int .i64 0)), none⟩] (some [0, 5, 12, 13])) c30_15) c30_50
def c30_10 : SC := .seq (.reg [⟨some 10, .mv (.t 1), none⟩,
  ⟨some 5, .asg (.t 10), none⟩] (some [0, 5])) c30_12
def c30_2 : SC := .seq (.seq (.reg [⟨some 7, .mv (.t 1), none⟩,
  ⟨some 8, .call (.f 31) [(.t 7), (.c (.int .i64 0)), (.c (.int .i64 65535))], none⟩,
  ⟨some 9, .un .not (.t 8), none⟩] (some [0, 1, 9])) c30_5) c30_10
/-- loop.example/g01075/impl.Crc16 -/
def c30 : SC := .seq (.reg [⟨some 4, .asg (.c (.int .i64 0)), none⟩] (some [0, 1])) c30_2
theorem s30 : slimC ⟨35, [0, 1]⟩ (Try.f30.body.getD .skip) = some c30.strip := by kernel_rfl

def c50_10 : SC := .seq (.reg [⟨some 2, .asg (.c (.str [])), none⟩] (some [0, 2])) .ret
def c50_9 : SC := .cond (.t 25) c50_10 .skip
def c50_14 : SC := .seq (.reg [⟨some 26, .mv (.t 4), none⟩,
  ⟨some 27, .cvt 59 9 (.t 26), none⟩,
  ⟨some 2, .asg (.t 27), none⟩] (some [0, 2])) .ret
def c50_6 : SC := .seq (.seq (.reg [⟨some 23, .mv (.t 4), none⟩,
  ⟨some 24, .len 59 (.t 23), none⟩,
  ⟨some 25, .bn .gtr 3 (.t 24) (.c (.int .i64 6000)), none⟩] (some [0, 4, 25])) c50_9) c50_14
def c50_4 : SC := .seq (.reg [⟨some 11, .mv (.t 0), none⟩,
  ⟨some 12, .nilc (.t 11), none⟩,
  ⟨some 13, .fa 76 (.t 12) 0, none⟩,
  ⟨some 14, .ld 59 (.t 13), none⟩,
  ⟨some 15, .mv (.t 3), none⟩,
  ⟨some 16, .bn .quo 2 (.t 15) (.c (.int .i64 256)), none⟩,
  ⟨some 17, .cvt 2 5 (.t 16), none⟩,
  ⟨some 18, .mv (.t 3), none⟩,
  ⟨some 19, .bn .rem 2 (.t 18) (.c (.int .i64 256)), none⟩,
  ⟨some 20, .cvt 2 5 (.t 19), none⟩,
  ⟨some 21, .bsl 59 2 [(0, (.t 17)), (1, (.t 20))], none⟩,
  ⟨some 22, .app 59 59 (.t 14) (.t 21), none⟩,
  ⟨some 4, .asg (.t 22), none⟩] (some [0, 4])) c50_6
def c50_2 : SC := .seq (.reg [⟨some 5, .mv (.t 0), none⟩,
  ⟨some 6, .nilc (.t 5), none⟩,
  ⟨some 7, .fa 76 (.t 6) 0, none⟩,
  ⟨some 8, .ld 59 (.t 7), none⟩,
  ⟨some 9, .cvt 59 9 (.t 8), none⟩,
  ⟨some 10, .call (.f 30) [(.t 9), (.c (.int .i64 65535))], none⟩,
  ⟨some 3, .asg (.t 10), none⟩] (some [0, 3])) c50_4
/-- (*loop.example/g01075/impl.writer).image -/
def c50 : SC := .seq (.reg [⟨some 2, .asg (.c (.str [])), none⟩] (some [0])) c50_2
theorem s50 : slimC ⟨28, [0]⟩ (Try.f50.body.getD .skip) = some c50.strip := by kernel_rfl

def c25_6 : SC := .seq (.reg [⟨some 2, .asg (.c (.str [])), none⟩] (some [2])) .ret
def c25_5 : SC := .cond (.t 8) c25_6 .skip
def c25_31 : SC := .reg [⟨some 37, .mv (.t 3), none⟩,
  ⟨some 38, .fa 72 (.t 5) 2, none⟩,
  ⟨some 39, .ld 68 (.t 38), none⟩,
  ⟨some 40, .call (.f 48) [(.t 37), (.t 39)], none⟩] (some [3, 17, 18, 19])
def c25_29 : SC := .seq (.drw [⟨some 23, .mv (.t 3), none⟩,
  ⟨some 24, .fa 72 (.t 5) 0, none⟩,
  ⟨some 25, .ld 4 (.t 24), none⟩,
  ⟨some 26, .call (.f 49) [(.t 25)], none⟩,
  ⟨some 27, .fa 72 (.t 5) 1, none⟩,
  ⟨some 28, .ld 4 (.t 27), none⟩,
  ⟨some 29, .call (.f 49) [(.t 28)], none⟩,
  ⟨some 30, .bn .mul 2 (.c (.int .i64 2)) (.t 29), none⟩,
  ⟨some 31, .bn .add 2 (.t 26) (.t 30), none⟩,
  ⟨some 32, .fa 72 (.t 5) 2, none⟩,
  ⟨some 33, .ld 68 (.t 32), none⟩,
  ⟨some 34, .len 68 (.t 33), none⟩,
  ⟨some 35, .bsl 68 2 [(0, (.t 31)), (1, (.t 34))], none⟩,
  ⟨some 36, .call (.f 48) [(.t 23), (.t 35)], none⟩] [[], [], [1], [2], [], [4], [5, 3], [6], [3, 7], [], [9], [10], [8, 11], [0, 12, 6]] (some [3, 5, 17, 18, 19])) c25_31
def c25_32 : SC := .reg [⟨some 41, .bn .add 3 (.t 19) (.c (.int .i64 1)), none⟩,
  ⟨some 19, .mv (.t 41), none⟩] (some [3, 17, 18, 19])
def c25_25 : SC := .seq (.block 1 (.seq (.reg [⟨some 21, .ia 41 (.t 17) (.t 19), none⟩,
  ⟨some 22, .ld 72 (.t 21), none⟩,
  ⟨some 5, .alc 72, none⟩,
  ⟨none, .sto 72 (.t 5) (.t 22), none⟩] (some [3, 5, 17, 18, 19])) c25_29)) c25_32
def c25_21 : SC := .seq (.cond (.t 20) .skip (.exit 0)) c25_25
def c25_19 : SC := .seq (.reg [⟨some 20, .bn .lss 3 (.t 19) (.t 18), none⟩] (some [3, 17, 18, 19, 20])) c25_21
def c25_17 : SC := .block 0 (.loop c25_19)
def c25_33 : SC := .seq (.reg [⟨some 42, .mv (.t 3), none⟩,
  ⟨some 43, .call (.f 50) [(.t 42)], none⟩,
  ⟨some 2, .asg (.t 43), none⟩] (some [2])) .ret
def c25_14 : SC := .seq (.seq (.reg [⟨some 17, .mv (.t 0), none⟩,
  ⟨some 18, .len 41 (.t 17), none⟩,
  ⟨some 19, .mv (.c (.int .i64 0)), none⟩] (some [3, 17, 18, 19])) c25_17) c25_33
def c25_12 : SC := .seq (.reg [⟨some 12, .mv (.t 3), none⟩,
  ⟨some 13, .mv (.t 0), none⟩,
  ⟨some 14, .len 41 (.t 13), none⟩,
  ⟨some 15, .bsl 68 1 [(0, (.t 14))], none⟩,
  ⟨some 16, .call (.f 48) [(.t 12), (.t 15)], none⟩] (some [0, 3])) c25_14
def c25_10 : SC := .seq (.reg [⟨some 9, .bsl 59 1 [(0, (.c (.int .u8 3)))], none⟩,
  ⟨some 10, .bld 76 [(0, (.t 9))], none⟩,
  ⟨some 11, .bx 76 (.t 10), none⟩,
  ⟨some 3, .asg (.t 11), none⟩] (some [0, 3])) c25_12
def c25_2 : SC := .seq (.seq (.reg [⟨some 6, .mv (.t 0), none⟩,
  ⟨some 7, .call (.f 47) [(.t 6)], none⟩,
  ⟨some 8, .un .not (.t 7), none⟩] (some [0, 8])) c25_5) c25_10
/-- loop.example/g01075/impl.EncodeEquations -/
def c25 : SC := .seq (.reg [⟨some 2, .asg (.c (.str [])), none⟩] (some [0])) c25_2
theorem s25 : slimC ⟨44, [0]⟩ (Try.f25.body.getD .skip) = some c25.strip := by kernel_rfl

def c69_6 : SC := .seq (.reg [⟨some 4, .asg (.c (.bool false)), none⟩] (some [4])) .ret
def c69_5 : SC := .cond (.t 10) c69_6 .skip
def c69_18 : SC := .cond (.t 14) .skip (.exit 0)
def c69_26 : SC := .seq (.reg [⟨some 4, .asg (.c (.bool false)), none⟩] (some [4])) .ret
def c69_25 : SC := .cond (.t 25) c69_26 .skip
def c69_30 : SC := .reg [⟨some 15, .mv (.t 5), none⟩,
  ⟨some 16, .bn .add 3 (.t 15) (.c (.int .i64 1)), none⟩,
  ⟨some 5, .asg (.t 16), none⟩] (some [0, 1, 5])
def c69_21 : SC := .seq (.block 1 (.seq (.drw [⟨some 17, .mv (.t 0), none⟩,
  ⟨some 18, .mv (.t 5), none⟩,
  ⟨some 19, .ia 68 (.t 17) (.t 18), none⟩,
  ⟨some 20, .ld 2 (.t 19), none⟩,
  ⟨some 21, .mv (.t 1), none⟩,
  ⟨some 22, .mv (.t 5), none⟩,
  ⟨some 23, .ia 68 (.t 21) (.t 22), none⟩,
  ⟨some 24, .ld 2 (.t 23), none⟩,
  ⟨some 25, .bn .neq 2 (.t 20) (.t 24), none⟩] [[], [], [0, 1], [2], [], [], [4, 5], [6], [3, 7]] (some [0, 1, 5, 25])) c69_25)) c69_30
def c69_15 : SC := .seq (.seq (.reg [⟨some 11, .mv (.t 5), none⟩,
  ⟨some 12, .mv (.t 0), none⟩,
  ⟨some 13, .len 68 (.t 12), none⟩,
  ⟨some 14, .bn .lss 3 (.t 11) (.t 13), none⟩] (some [0, 1, 5, 14])) c69_18) c69_21
def c69_13 : SC := .block 0 (.loop c69_15)
def c69_31 : SC := .seq (.reg [⟨some 4, .asg (.c (.bool true)), none⟩] (some [4])) .ret
def c69_10 : SC := .seq (.seq (.reg [⟨some 5, .asg (.c (.int .i64 0)), none⟩] (some [0, 1, 5])) c69_13) c69_31
def c69_2 : SC := .seq (.seq (.reg [⟨some 6, .mv (.t 0), none⟩,
  ⟨some 7, .len 68 (.t 6), none⟩,
  ⟨some 8, .mv (.t 1), none⟩,
  ⟨some 9, .len 68 (.t 8), none⟩,
  ⟨some 10, .bn .neq 3 (.t 7) (.t 9), none⟩] (some [0, 1, 10])) c69_5) c69_10
/-- loop.example/g01075/laws.eqInt64S -/
def c69 : SC := .seq (.reg [⟨some 4, .asg (.c (.bool false)), none⟩] (some [0, 1])) c69_2
theorem s69 : slimC ⟨26, [0, 1]⟩ (Try.f69.body.getD .skip) = some c69.strip := by kernel_rfl

def c51_6 : SC := .seq (.reg [⟨some 4, .asg (.c (.bool false)), none⟩] (some [4])) .ret
def c51_5 : SC := .cond (.t 9) c51_6 .skip
def c51_14 : SC := .seq (.reg [⟨some 4, .asg (.c (.bool false)), none⟩] (some [4])) .ret
def c51_13 : SC := .cond (.t 14) c51_14 .skip
def c51_22 : SC := .seq (.reg [⟨some 4, .asg (.c (.bool false)), none⟩] (some [4])) .ret
def c51_21 : SC := .cond (.t 20) c51_22 .skip
def c51_26 : SC := .seq (.reg [⟨some 4, .asg (.c (.bool true)), none⟩] (some [4])) .ret
def c51_18 : SC := .seq (.seq (.reg [⟨some 15, .fa 72 (.t 2) 2, none⟩,
  ⟨some 16, .ld 68 (.t 15), none⟩,
  ⟨some 17, .fa 72 (.t 3) 2, none⟩,
  ⟨some 18, .ld 68 (.t 17), none⟩,
  ⟨some 19, .call (.f 69) [(.t 16), (.t 18)], none⟩,
  ⟨some 20, .un .not (.t 19), none⟩] (some [20])) c51_21) c51_26
def c51_10 : SC := .seq (.seq (.reg [⟨some 10, .fa 72 (.t 2) 1, none⟩,
  ⟨some 11, .ld 4 (.t 10), none⟩,
  ⟨some 12, .fa 72 (.t 3) 1, none⟩,
  ⟨some 13, .ld 4 (.t 12), none⟩,
  ⟨some 14, .bn .neq 4 (.t 11) (.t 13), none⟩] (some [2, 3, 14])) c51_13) c51_18
def c51_2 : SC := .seq (.seq (.reg [⟨some 5, .fa 72 (.t 2) 0, none⟩,
  ⟨some 6, .ld 4 (.t 5), none⟩,
  ⟨some 7, .fa 72 (.t 3) 0, none⟩,
  ⟨some 8, .ld 4 (.t 7), none⟩,
  ⟨some 9, .bn .neq 4 (.t 6) (.t 8), none⟩] (some [2, 3, 9])) c51_5) c51_10
/-- loop.example/g01075/laws.eqEquation -/
def c51 : SC := .seq (.reg [⟨some 2, .bx 72 (.t 0), none⟩,
  ⟨some 3, .bx 72 (.t 1), none⟩,
  ⟨some 4, .asg (.c (.bool false)), none⟩] (some [2, 3])) c51_2
theorem s51 : slimC ⟨21, [0, 1]⟩ (Try.f51.body.getD .skip) = some c51.strip := by kernel_rfl

def c26_6 : SC := .seq (.reg [⟨some 4, .asg (.c (.bool false)), none⟩] (some [4])) .ret
def c26_5 : SC := .cond (.t 10) c26_6 .skip
def c26_18 : SC := .cond (.t 14) .skip (.exit 0)
def c26_26 : SC := .seq (.reg [⟨some 4, .asg (.c (.bool false)), none⟩] (some [4])) .ret
def c26_25 : SC := .cond (.t 26) c26_26 .skip
def c26_30 : SC := .reg [⟨some 15, .mv (.t 5), none⟩,
  ⟨some 16, .bn .add 3 (.t 15) (.c (.int .i64 1)), none⟩,
  ⟨some 5, .asg (.t 16), none⟩] (some [0, 1, 5])
def c26_21 : SC := .seq (.block 1 (.seq (.drw [⟨some 17, .mv (.t 0), none⟩,
  ⟨some 18, .mv (.t 5), none⟩,
  ⟨some 19, .ia 41 (.t 17) (.t 18), none⟩,
  ⟨some 20, .ld 72 (.t 19), none⟩,
  ⟨some 21, .mv (.t 1), none⟩,
  ⟨some 22, .mv (.t 5), none⟩,
  ⟨some 23, .ia 41 (.t 21) (.t 22), none⟩,
  ⟨some 24, .ld 72 (.t 23), none⟩,
  ⟨some 25, .call (.f 51) [(.t 20), (.t 24)], none⟩,
  ⟨some 26, .un .not (.t 25), none⟩] [[], [], [0, 1], [2], [], [], [4, 5], [6], [3, 7], [8]] (some [0, 1, 5, 26])) c26_25)) c26_30
def c26_15 : SC := .seq (.seq (.reg [⟨some 11, .mv (.t 5), none⟩,
  ⟨some 12, .mv (.t 0), none⟩,
  ⟨some 13, .len 41 (.t 12), none⟩,
  ⟨some 14, .bn .lss 3 (.t 11) (.t 13), none⟩] (some [0, 1, 5, 14])) c26_18) c26_21
def c26_13 : SC := .block 0 (.loop c26_15)
def c26_31 : SC := .seq (.reg [⟨some 4, .asg (.c (.bool true)), none⟩] (some [4])) .ret
def c26_10 : SC := .seq (.seq (.reg [⟨some 5, .asg (.c (.int .i64 0)), none⟩] (some [0, 1, 5])) c26_13) c26_31
def c26_2 : SC := .seq (.seq (.reg [⟨some 6, .mv (.t 0), none⟩,
  ⟨some 7, .len 41 (.t 6), none⟩,
  ⟨some 8, .mv (.t 1), none⟩,
  ⟨some 9, .len 41 (.t 8), none⟩,
  ⟨some 10, .bn .neq 3 (.t 7) (.t 9), none⟩] (some [0, 1, 10])) c26_5) c26_10
/-- loop.example/g01075/laws.eqEquationS -/
def c26 : SC := .seq (.reg [⟨some 4, .asg (.c (.bool false)), none⟩] (some [0, 1])) c26_2
theorem s26 : slimC ⟨27, [0, 1]⟩ (Try.f26.body.getD .skip) = some c26.strip := by kernel_rfl

def c8_10 : SC := .seq (.reg [⟨some 2, .asg (.c (.bool true)), none⟩] (some [2])) .ret
def c8_9 : SC := .cond (.t 11) c8_10 .skip
def c8_24 : SC := .seq (.reg [⟨some 2, .asg (.c (.bool false)), none⟩] (some [2])) .ret
def c8_23 : SC := .cond (.t 21) c8_24 .skip
def c8_32 : SC := .seq (.reg [⟨some 2, .asg (.c (.bool false)), none⟩] (some [2])) .ret
def c8_31 : SC := .cond (.t 26) c8_32 .skip
def c8_36 : SC := .seq (.reg [⟨some 2, .asg (.c (.bool true)), none⟩] (some [2])) .ret
def c8_28 : SC := .seq (.seq (.reg [⟨some 22, .mv (.t 5), none⟩,
  ⟨some 23, .mv (.t 0), none⟩,
  ⟨some 24, .call (.f 24) [(.t 23)], none⟩,
  ⟨some 25, .call (.f 26) [(.t 22), (.t 24)], none⟩,
  ⟨some 26, .un .not (.t 25), none⟩] (some [26])) c8_31) c8_36
def c8_20 : SC := .seq (.seq (.reg [⟨some 19, .mv (.t 6), none⟩,
  ⟨some 20, .mv (.t 4), none⟩,
  ⟨some 21, .bn .neq 9 (.t 19) (.t 20), none⟩] (some [0, 5, 21])) c8_23) c8_28
def c8_18 : SC := .seq (.reg [⟨some 17, .mv (.t 5), none⟩,
  ⟨some 18, .call (.f 25) [(.t 17)], none⟩,
  ⟨some 6, .asg (.t 18), none⟩] (some [0, 4, 5, 6])) c8_20
def c8_16 : SC := .seq (.reg [⟨some 15, .mv (.t 0), none⟩,
  ⟨some 16, .call (.f 24) [(.t 15)], none⟩,
  ⟨some 5, .asg (.t 16), none⟩] (some [0, 4, 5])) c8_18
def c8_14 : SC := .seq (.reg [⟨some 12, .mv (.t 0), none⟩,
  ⟨some 13, .call (.f 24) [(.t 12)], none⟩,
  ⟨some 14, .call (.f 23) [(.t 13)], none⟩,
  ⟨some 4, .asg (.t 14), none⟩] (some [0, 4])) c8_16
def c8_6 : SC := .seq (.seq (.reg [⟨some 10, .mv (.t 3), none⟩,
  ⟨some 11, .bn .lss 3 (.t 10) (.c (.int .i64 0)), none⟩] (some [0, 11])) c8_9) c8_14
def c8_4 : SC := .seq (.reg [⟨some 7, .mv (.t 0), none⟩,
  ⟨some 8, .mv (.t 3), none⟩,
  ⟨some 9, .call (.f 22) [(.t 7), (.t 8)], none⟩,
  ⟨some 3, .asg (.t 9), none⟩] (some [0, 3])) c8_6
def c8_2 : SC := .seq (.reg [⟨some 3, .asg (.c (.int .i64 1048576)), none⟩] (some [0, 3])) c8_4
/-- loop.example/g01075/laws.FnExactEncodeEquations -/
def c8 : SC := .seq (.reg [⟨some 2, .asg (.c (.bool false)), none⟩] (some [0])) c8_2
theorem s8 : slimC ⟨27, [0]⟩ (Try.f8.body.getD .skip) = some c8.strip := by kernel_rfl

end Go.Proofs.Ytncnipaofaeaiaa
