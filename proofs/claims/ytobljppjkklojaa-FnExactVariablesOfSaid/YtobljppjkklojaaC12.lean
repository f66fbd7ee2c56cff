/- Part of a proof that a law returns true for every input. No condition. -/
import Derived.Test.YtobljppjkklojaaTb
import Derived.Test.YtobljppjkklojaaFwL
import Derived.Test.YtobljppjkklojaaP12
namespace Go.Proofs.Ytobljppjkklojaa
open Go Go.Fw Go.Sh
set_option linter.unusedSimpArgs false

def e_laws_Term (x : laws_Term) : AV := .agg [.int .i64 x.Kind, .int .i64 x.Value]
theorem sh_e_laws_Term (x : laws_Term) : (e_laws_Term x).share = e_laws_Term x := by
  simp only [e_laws_Term, share_s]
theorem ns_e_laws_Term (x : laws_Term) : (e_laws_Term x).nosh = true := by
  simp only [e_laws_Term, AV.nosh, AV.noshs, Bool.and_self]
def e_i64 (x : Int) : AV := .int .i64 x
theorem sh_e_i64 (x : Int) : (e_i64 x).share = e_i64 x := by
  simp only [e_i64, share_s]
theorem ns_e_i64 (x : Int) : (e_i64 x).nosh = true := by
  simp only [e_i64, AV.nosh, AV.noshs, Bool.and_self]
def e_impl_Term (x : impl_Term) : AV := .agg [.int .i64 x.Kind, .int .i64 x.Value]
theorem sh_e_impl_Term (x : impl_Term) : (e_impl_Term x).share = e_impl_Term x := by
  simp only [e_impl_Term, share_s]
theorem ns_e_impl_Term (x : impl_Term) : (e_impl_Term x).nosh = true := by
  simp only [e_impl_Term, AV.nosh, AV.noshs, Bool.and_self]

def c31_8 : SC := .seq (.reg [ro 4 (.asg (.c (.int .i64 (-1))))] (some [4])) .ret
def c31_7 : SC := .cond (.t 10) c31_8 .skip
def c31_12 : SC := .seq (.reg [ro 11 (.mv (.t 1)),
  ro 4 (.asg (.t 11))] (some [4])) .ret
def c31_4 : SC := .seq (.seq (.reg [ro 9 (.mv (.t 1)),
  ro 10 (.bn .lss 3 (.t 9) (.c (.int .i64 0)))] (some [1, 10])) c31_7) c31_12
def c31_2 : SC := .seq (.reg [ro 5 (.mv (.t 1)),
  ro 6 (.mv (.t 0)),
  ro 7 (.len 36 (.t 6)),
  ro 8 (.bn .sub 3 (.t 5) (.t 7)),
  ro 1 (.asg (.t 8))] (some [1])) c31_4
/-- loop.example/g01075/laws.szTermS -/
def c31 : SC := .seq (.reg [ro 4 (.asg (.c (.int .i64 0)))] (some [0, 1])) c31_2
theorem s31 : slimC ⟨12, [0]⟩ (Try.f31.body.getD .skip) = some c31.strip := by kernel_rfl

def c107_8 : SC := .seq (.reg [ro 10 (.ld 131 (.t 3)),
  ⟨none, .sto 131 (.t 2) (.t 10), none⟩] (some [2])) .ret
def c107_6 : SC := .seq (.reg [ro 7 (.fa 133 (.t 1) 1),
  ro 8 (.ld 2 (.t 7)),
  ro 9 (.fa 131 (.t 3) 1),
  ⟨none, .sto 2 (.t 9) (.t 8), none⟩] (some [2, 3])) c107_8
def c107_4 : SC := .seq (.reg [ro 4 (.fa 133 (.t 1) 0),
  ro 5 (.ld 2 (.t 4)),
  ro 6 (.fa 131 (.t 3) 0),
  ⟨none, .sto 2 (.t 6) (.t 5), none⟩] (some [1, 2, 3])) c107_6
def c107_2 : SC := .seq (.reg [ro 3 (.alc 131)] (some [1, 2, 3])) c107_4
/-- loop.example/g01075/laws.toTerm -/
def c107 : SC := .seq (.reg [ro 1 (.bx 133 (.t 0)),
  ro 2 (.alc 131)] (some [1, 2])) c107_2
theorem s107 : slimC ⟨11, [0]⟩ (Try.f107.body.getD .skip) = some c107.strip := by kernel_rfl

def c33_12 : SC := .cond (.t 11) .skip (.exit 0)
def c33_18 : SC := .reg [ro 12 (.mv (.t 4)),
  ro 13 (.bn .add 3 (.t 12) (.c (.int .i64 1))),
  ro 4 (.asg (.t 13))] (some [0, 3, 4])
def c33_15 : SC := .seq (.block 1 (.reg [ro 14 (.mv (.t 3)),
  ro 15 (.mv (.t 4)),
  ro 16 (.mv (.t 0)),
  ro 17 (.mv (.t 4)),
  ro 18 (.ia 36 (.t 16) (.t 17)),
  ro 19 (.ld 133 (.t 18)),
  ro 20 (.call (.f 107) [(.t 19)]),
  ro 21 (.ia 40 (.t 14) (.t 15)),
  ⟨none, .sto 131 (.t 21) (.t 20), none⟩] (some [0, 3, 4]))) c33_18
def c33_9 : SC := .seq (.seq (.reg [ro 8 (.mv (.t 4)),
  ro 9 (.mv (.t 0)),
  ro 10 (.len 36 (.t 9)),
  ro 11 (.bn .lss 3 (.t 8) (.t 10))] (some [0, 3, 4, 11])) c33_12) c33_15
def c33_7 : SC := .block 0 (.loop c33_9)
def c33_19 : SC := .seq (.reg [ro 22 (.mv (.t 3)),
  ro 2 (.asg (.t 22))] (some [2])) .ret
def c33_4 : SC := .seq (.seq (.reg [ro 4 (.asg (.c (.int .i64 0)))] (some [0, 3, 4])) c33_7) c33_19
def c33_2 : SC := .seq (.reg [ro 5 (.mv (.t 0)),
  ro 6 (.len 36 (.t 5)),
  ro 7 (.mks 40 (.t 6) (.t 6)),
  ro 3 (.asg (.t 7))] (some [0, 3])) c33_4
/-- loop.example/g01075/laws.toTermS -/
def c33 : SC := .seq (.reg [ro 2 (.asg (.c .nils))] (some [0])) c33_2
theorem s33 : slimC ⟨23, [0]⟩ (Try.f33.body.getD .skip) = some c33.strip := by kernel_rfl

def c130_2 : SC := .seq (.reg [ro 7 (.mv (.t 0)),
  ro 8 (.mv (.t 1)),
  ro 9 (.bn .geq 2 (.t 7) (.t 8)),
  ro 10 (.mv (.t 9)),
  ⟨some 11, .mv (.t 0), some (10, true)⟩,
  ⟨some 12, .mv (.t 2), some (10, true)⟩,
  ⟨some 13, .bn .leq 2 (.t 11) (.t 12), some (10, true)⟩,
  ro 14 (.pick (.t 10) (.t 13) (.c (.bool false))),
  ro 6 (.asg (.t 14))] (some [6])) .ret
/-- loop.example/g01075/spec.l00In -/
def c130 : SC := .seq (.reg [ro 6 (.asg (.c (.bool false)))] (some [0, 1, 2])) c130_2
theorem s130 : slimC ⟨15, [0, 1, 2]⟩ (Try.f130.body.getD .skip) = some c130.strip := by kernel_rfl

def c268_9 : SC := .seq (.reg [ro 11 (.mv (.t 0)),
  ro 12 (.nilc (.t 11)),
  ro 13 (.fa 131 (.t 12) 1),
  ro 14 (.ld 2 (.t 13)),
  ro 15 (.call (.f 130) [(.t 14), (.c (.int .i64 0)), (.c (.int .i64 63))]),
  ro 4 (.asg (.t 15))] (some [4])) .ret
def c268_15 : SC := .seq (.reg [ro 18 (.mv (.t 0)),
  ro 19 (.nilc (.t 18)),
  ro 20 (.fa 131 (.t 19) 1),
  ro 21 (.ld 2 (.t 20)),
  ro 22 (.mv (.t 1)),
  ro 23 (.bn .sub 2 (.t 22) (.c (.int .i64 1))),
  ro 24 (.call (.f 130) [(.t 21), (.c (.int .i64 0)), (.t 23)]),
  ro 4 (.asg (.t 24))] (some [4])) .ret
def c268_21 : SC := .seq (.reg [ro 27 (.mv (.t 0)),
  ro 28 (.nilc (.t 27)),
  ro 29 (.fa 131 (.t 28) 1),
  ro 30 (.ld 2 (.t 29)),
  ro 31 (.call (.f 130) [(.t 30), (.c (.int .i64 0)), (.c (.int .i64 8))]),
  ro 4 (.asg (.t 31))] (some [4])) .ret
def c268_27 : SC := .seq (.reg [ro 34 (.mv (.t 0)),
  ro 35 (.nilc (.t 34)),
  ro 36 (.fa 131 (.t 35) 1),
  ro 37 (.ld 2 (.t 36)),
  ro 38 (.bn .eql 2 (.t 37) (.c (.int .i64 0))),
  ro 4 (.asg (.t 38))] (some [4])) .ret
def c268_26 : SC := .cond (.t 32) c268_27 .skip
def c268_24 : SC := .seq (.reg [ro 33 (.bn .eql 2 (.t 8) (.c (.int .i64 3))),
  ro 32 (.asg (.t 33))] (some [0, 32])) c268_26
def c268_20 : SC := .cond (.t 25) c268_21 c268_24
def c268_18 : SC := .seq (.reg [ro 26 (.bn .eql 2 (.t 8) (.c (.int .i64 2))),
  ro 25 (.asg (.t 26))] (some [0, 8, 25])) c268_20
def c268_14 : SC := .cond (.t 16) c268_15 c268_18
def c268_12 : SC := .seq (.reg [ro 17 (.bn .eql 2 (.t 8) (.c (.int .i64 1))),
  ro 16 (.asg (.t 17))] (some [0, 1, 8, 16])) c268_14
def c268_8 : SC := .cond (.t 9) c268_9 c268_12
def c268_5 : SC := .block 0 (.seq (.reg [ro 10 (.bn .eql 2 (.t 8) (.c (.int .i64 0))),
  ro 9 (.asg (.t 10))] (some [0, 1, 8, 9])) c268_8)
def c268_31 : SC := .seq (.reg [ro 4 (.asg (.c (.bool false)))] (some [4])) .ret
def c268_2 : SC := .seq (.seq (.reg [ro 5 (.mv (.t 0)),
  ro 6 (.nilc (.t 5)),
  ro 7 (.fa 131 (.t 6) 0),
  ro 8 (.ld 2 (.t 7))] (some [0, 1, 8])) c268_5) c268_31
/-- loop.example/g01075/spec.l03Term -/
def c268 : SC := .seq (.reg [ro 4 (.asg (.c (.bool false)))] (some [0, 1])) c268_2
theorem s268 : slimC ⟨39, [0, 1]⟩ (Try.f268.body.getD .skip) = some c268.strip := by kernel_rfl

def c196_9 : SC := .seq (.reg [ro 2 (.asg (.c (.int .i64 2)))] (some [2])) .ret
def c196_15 : SC := .seq (.reg [ro 2 (.asg (.c (.int .i64 1)))] (some [2])) .ret
def c196_14 : SC := .cond (.t 9) c196_15 .skip
def c196_12 : SC := .seq (.reg [ro 10 (.bn .eql 2 (.t 6) (.c (.int .i64 3))),
  ro 9 (.asg (.t 10))] (some [9])) c196_14
def c196_8 : SC := .cond (.t 7) c196_9 c196_12
def c196_5 : SC := .block 0 (.seq (.reg [ro 8 (.bn .eql 2 (.t 6) (.c (.int .i64 2))),
  ro 7 (.asg (.t 8))] (some [6, 7])) c196_8)
def c196_19 : SC := .seq (.reg [ro 2 (.asg (.c (.int .i64 0)))] (some [2])) .ret
def c196_2 : SC := .seq (.seq (.reg [ro 3 (.mv (.t 0)),
  ro 4 (.nilc (.t 3)),
  ro 5 (.fa 131 (.t 4) 0),
  ro 6 (.ld 2 (.t 5))] (some [6])) c196_5) c196_19
/-- loop.example/g01075/spec.l03Arity -/
def c196 : SC := .seq (.reg [ro 2 (.asg (.c (.int .i64 0)))] (some [0])) c196_2
theorem s196 : slimC ⟨11, [0]⟩ (Try.f196.body.getD .skip) = some c196.strip := by kernel_rfl

def c195_6 : SC := .seq (.reg [ro 6 (.asg (.c (.bool false)))] (some [6])) .ret
def c195_5 : SC := .cond (.t 12) c195_6 .skip
def c195_20 : SC := .cond (.t 16) .skip (.exit 0)
def c195_29 : SC := .seq (.reg [ro 6 (.asg (.c (.bool false)))] (some [6])) .ret
def c195_28 : SC := .cond (.t 28) c195_29 .skip
def c195_33 : SC := .reg [ro 29 (.mv (.t 7)),
  ro 30 (.mv (.t 0)),
  ro 31 (.mv (.t 8)),
  ro 32 (.ia 40 (.t 30) (.t 31)),
  ro 33 (.call (.f 196) [(.t 32)]),
  ro 34 (.bn .sub 2 (.t 33) (.c (.int .i64 1))),
  ro 35 (.bn .add 2 (.t 29) (.t 34)),
  ro 7 (.asg (.t 35))] (some [0, 1, 7, 8])
def c195_34 : SC := .reg [ro 17 (.mv (.t 8)),
  ro 18 (.bn .add 3 (.t 17) (.c (.int .i64 1))),
  ro 8 (.asg (.t 18))] (some [0, 1, 7, 8])
def c195_23 : SC := .seq (.block 1 (.seq (.seq (.reg [ro 19 (.mv (.t 7)),
  ro 20 (.bn .eql 2 (.t 19) (.c (.int .i64 0))),
  ro 21 (.mv (.t 20)),
  ⟨some 22, .mv (.t 0), some (21, false)⟩,
  ⟨some 23, .mv (.t 8), some (21, false)⟩,
  ⟨some 24, .ia 40 (.t 22) (.t 23), some (21, false)⟩,
  ⟨some 25, .mv (.t 1), some (21, false)⟩,
  ⟨some 26, .call (.f 268) [(.t 24), (.t 25)], some (21, false)⟩,
  ⟨some 27, .un .not (.t 26), some (21, false)⟩,
  ro 28 (.pick (.t 21) (.c (.bool true)) (.t 27))] (some [0, 1, 7, 8, 28])) c195_28) c195_33)) c195_34
def c195_17 : SC := .seq (.seq (.reg [ro 13 (.mv (.t 8)),
  ro 14 (.mv (.t 0)),
  ro 15 (.len 40 (.t 14)),
  ro 16 (.bn .lss 3 (.t 13) (.t 15))] (some [0, 1, 7, 8, 16])) c195_20) c195_23
def c195_15 : SC := .block 0 (.loop c195_17)
def c195_35 : SC := .seq (.reg [ro 36 (.mv (.t 7)),
  ro 37 (.bn .eql 2 (.t 36) (.c (.int .i64 0))),
  ro 6 (.asg (.t 37))] (some [6])) .ret
def c195_12 : SC := .seq (.seq (.reg [ro 8 (.asg (.c (.int .i64 0)))] (some [0, 1, 7, 8])) c195_15) c195_35
def c195_10 : SC := .seq (.reg [ro 7 (.asg (.c (.int .i64 1)))] (some [0, 1, 7])) c195_12
def c195_2 : SC := .seq (.seq (.reg [ro 9 (.mv (.t 0)),
  ro 10 (.len 40 (.t 9)),
  ro 11 (.mv (.t 2)),
  ro 12 (.bn .gtr 2 (.t 10) (.t 11))] (some [0, 1, 12])) c195_5) c195_10
/-- loop.example/g01075/spec.l03Is -/
def c195 : SC := .seq (.reg [ro 6 (.asg (.c (.bool false)))] (some [0, 1, 2])) c195_2
theorem s195 : slimC ⟨38, [0, 1, 2]⟩ (Try.f195.body.getD .skip) = some c195.strip := by kernel_rfl

def c105_2 : SC := .seq (.reg [ro 3 (.mv (.t 0)),
  ro 4 (.call (.f 195) [(.t 3), (.c (.int .i64 29)), (.c (.int .i64 60))]),
  ro 2 (.asg (.t 4))] (some [2])) .ret
/-- loop.example/g01075/spec.l03Any -/
def c105 : SC := .seq (.reg [ro 2 (.asg (.c (.bool false)))] (some [0])) c105_2
theorem s105 : slimC ⟨5, [0]⟩ (Try.f105.body.getD .skip) = some c105.strip := by kernel_rfl

def c222_14 : SC := .cond (.t 12) .skip (.exit 0)
def c222_28 : SC := .reg [ro 31 (.mv (.t 5)),
  ro 32 (.mv (.t 1)),
  ro 33 (.bsl 68 1 [(0, (.t 32))]),
  ro 34 (.app 68 68 (.t 31) (.t 33)),
  ro 5 (.asg (.t 34))] (some [0, 1, 5, 6, 7])
def c222_27 : SC := .cond (.t 30) c222_28 .skip
def c222_25 : SC := .seq (.reg [ro 25 (.mv (.t 0)),
  ro 26 (.mv (.t 7)),
  ro 27 (.ia 68 (.t 25) (.t 26)),
  ro 28 (.ld 2 (.t 27)),
  ro 29 (.mv (.t 1)),
  ro 30 (.bn .gtr 2 (.t 28) (.t 29))] (some [0, 1, 5, 6, 7, 30])) c222_27
def c222_23 : SC := .seq (.reg [ro 6 (.asg (.c (.bool true)))] (some [0, 1, 5, 6, 7])) c222_25
def c222_22 : SC := .cond (.t 24) c222_23 .skip
def c222_31 : SC := .reg [ro 35 (.mv (.t 5)),
  ro 36 (.mv (.t 0)),
  ro 37 (.mv (.t 7)),
  ro 38 (.ia 68 (.t 36) (.t 37)),
  ro 39 (.ld 2 (.t 38)),
  ro 40 (.bsl 68 1 [(0, (.t 39))]),
  ro 41 (.app 68 68 (.t 35) (.t 40)),
  ro 5 (.asg (.t 41))] (some [0, 1, 5, 6, 7])
def c222_32 : SC := .reg [ro 13 (.mv (.t 7)),
  ro 14 (.bn .add 3 (.t 13) (.c (.int .i64 1))),
  ro 7 (.asg (.t 14))] (some [0, 1, 5, 6, 7])
def c222_17 : SC := .seq (.block 1 (.seq (.seq (.reg [ro 15 (.mv (.t 6)),
  ro 16 (.un .not (.t 15)),
  ro 17 (.mv (.t 16)),
  ⟨some 18, .mv (.t 0), some (17, true)⟩,
  ⟨some 19, .mv (.t 7), some (17, true)⟩,
  ⟨some 20, .ia 68 (.t 18) (.t 19), some (17, true)⟩,
  ⟨some 21, .ld 2 (.t 20), some (17, true)⟩,
  ⟨some 22, .mv (.t 1), some (17, true)⟩,
  ⟨some 23, .bn .geq 2 (.t 21) (.t 22), some (17, true)⟩,
  ro 24 (.pick (.t 17) (.t 23) (.c (.bool false)))] (some [0, 1, 5, 6, 7, 24])) c222_22) c222_31)) c222_32
def c222_11 : SC := .seq (.seq (.reg [ro 9 (.mv (.t 7)),
  ro 10 (.mv (.t 0)),
  ro 11 (.len 68 (.t 10)),
  ro 12 (.bn .lss 3 (.t 9) (.t 11))] (some [0, 1, 5, 6, 7, 12])) c222_14) c222_17
def c222_9 : SC := .block 0 (.loop c222_11)
def c222_37 : SC := .reg [ro 44 (.mv (.t 5)),
  ro 45 (.mv (.t 1)),
  ro 46 (.bsl 68 1 [(0, (.t 45))]),
  ro 47 (.app 68 68 (.t 44) (.t 46)),
  ro 5 (.asg (.t 47))] (some [5])
def c222_36 : SC := .cond (.t 43) c222_37 .skip
def c222_39 : SC := .seq (.reg [ro 48 (.mv (.t 5)),
  ro 4 (.asg (.t 48))] (some [4])) .ret
def c222_33 : SC := .seq (.seq (.reg [ro 42 (.mv (.t 6)),
  ro 43 (.un .not (.t 42))] (some [1, 5, 43])) c222_36) c222_39
def c222_6 : SC := .seq (.seq (.reg [ro 7 (.asg (.c (.int .i64 0)))] (some [0, 1, 5, 6, 7])) c222_9) c222_33
def c222_4 : SC := .seq (.reg [ro 6 (.asg (.c (.bool false)))] (some [0, 1, 5, 6])) c222_6
def c222_2 : SC := .seq (.reg [ro 8 (.bsl 68 0 []),
  ro 5 (.asg (.t 8))] (some [0, 1, 5])) c222_4
/-- loop.example/g01075/spec.l00Put -/
def c222 : SC := .seq (.reg [ro 4 (.asg (.c .nils))] (some [0, 1])) c222_2
theorem s222 : slimC ⟨49, [0, 1]⟩ (Try.f222.body.getD .skip) = some c222.strip := by kernel_rfl

def c140_12 : SC := .cond (.t 9) .skip (.exit 0)
def c140_20 : SC := .reg [ro 18 (.mv (.t 3)),
  ro 19 (.mv (.t 0)),
  ro 20 (.mv (.t 4)),
  ro 21 (.ia 40 (.t 19) (.t 20)),
  ro 22 (.fa 131 (.t 21) 1),
  ro 23 (.ld 2 (.t 22)),
  ro 24 (.call (.f 222) [(.t 18), (.t 23)]),
  ro 3 (.asg (.t 24))] (some [0, 3, 4])
def c140_19 : SC := .cond (.t 17) c140_20 .skip
def c140_22 : SC := .reg [ro 10 (.mv (.t 4)),
  ro 11 (.bn .add 3 (.t 10) (.c (.int .i64 1))),
  ro 4 (.asg (.t 11))] (some [0, 3, 4])
def c140_15 : SC := .seq (.block 1 (.seq (.reg [ro 12 (.mv (.t 0)),
  ro 13 (.mv (.t 4)),
  ro 14 (.ia 40 (.t 12) (.t 13)),
  ro 15 (.fa 131 (.t 14) 0),
  ro 16 (.ld 2 (.t 15)),
  ro 17 (.bn .eql 2 (.t 16) (.c (.int .i64 1)))] (some [0, 3, 4, 17])) c140_19)) c140_22
def c140_9 : SC := .seq (.seq (.reg [ro 6 (.mv (.t 4)),
  ro 7 (.mv (.t 0)),
  ro 8 (.len 40 (.t 7)),
  ro 9 (.bn .lss 3 (.t 6) (.t 8))] (some [0, 3, 4, 9])) c140_12) c140_15
def c140_7 : SC := .block 0 (.loop c140_9)
def c140_23 : SC := .seq (.reg [ro 25 (.mv (.t 3)),
  ro 2 (.asg (.t 25))] (some [2])) .ret
def c140_4 : SC := .seq (.seq (.reg [ro 4 (.asg (.c (.int .i64 0)))] (some [0, 3, 4])) c140_7) c140_23
def c140_2 : SC := .seq (.reg [ro 5 (.bsl 68 0 []),
  ro 3 (.asg (.t 5))] (some [0, 3])) c140_4
/-- loop.example/g01075/spec.l03Names -/
def c140 : SC := .seq (.reg [ro 2 (.asg (.c .nils))] (some [0])) c140_2
theorem s140 : slimC ⟨26, [0]⟩ (Try.f140.body.getD .skip) = some c140.strip := by kernel_rfl

def c57_6 : SC := .seq (.reg [ro 2 (.asg (.c .nils)),
  ro 3 (.asg (.c (.int .i64 1)))] (some [2, 3])) .ret
def c57_5 : SC := .cond (.t 6) c57_6 .skip
def c57_10 : SC := .seq (.reg [ro 7 (.mv (.t 0)),
  ro 8 (.call (.f 140) [(.t 7)]),
  ro 2 (.asg (.t 8)),
  ro 3 (.asg (.c (.int .i64 0)))] (some [2, 3])) .ret
def c57_2 : SC := .seq (.seq (.reg [ro 4 (.mv (.t 0)),
  ro 5 (.call (.f 105) [(.t 4)]),
  ro 6 (.un .not (.t 5))] (some [0, 6])) c57_5) c57_10
/-- loop.example/g01075/spec.VariablesOf -/
def c57 : SC := .seq (.reg [ro 2 (.asg (.c .nils)),
  ro 3 (.asg (.c (.int .i64 0)))] (some [0])) c57_2
theorem s57 : slimC ⟨9, [0]⟩ (Try.f57.body.getD .skip) = some c57.strip := by kernel_rfl

def c138_2 : SC := .seq (.reg [ro 7 (.mv (.t 0)),
  ro 8 (.mv (.t 1)),
  ro 9 (.bn .geq 2 (.t 7) (.t 8)),
  ro 10 (.mv (.t 9)),
  ⟨some 11, .mv (.t 0), some (10, true)⟩,
  ⟨some 12, .mv (.t 2), some (10, true)⟩,
  ⟨some 13, .bn .leq 2 (.t 11) (.t 12), some (10, true)⟩,
  ro 14 (.pick (.t 10) (.t 13) (.c (.bool false))),
  ro 6 (.asg (.t 14))] (some [6])) .ret
/-- loop.example/g01075/impl.within -/
def c138 : SC := .seq (.reg [ro 6 (.asg (.c (.bool false)))] (some [0, 1, 2])) c138_2
theorem s138 : slimC ⟨15, [0, 1, 2]⟩ (Try.f138.body.getD .skip) = some c138.strip := by kernel_rfl

def c286_2 : SC := .seq (.reg [ro 3 (.mv (.t 0)),
  ro 4 (.call (.f 138) [(.t 3), (.c (.int .i64 0)), (.c (.int .i64 63))]),
  ro 2 (.asg (.t 4))] (some [2])) .ret
/-- loop.example/g01075/impl.isValue -/
def c286 : SC := .seq (.reg [ro 2 (.asg (.c (.bool false)))] (some [0])) c286_2
theorem s286 : slimC ⟨5, [0]⟩ (Try.f286.body.getD .skip) = some c286.strip := by kernel_rfl

def c269_9 : SC := .seq (.reg [ro 9 (.fa 131 (.t 2) 1),
  ro 10 (.ld 2 (.t 9)),
  ro 11 (.call (.f 286) [(.t 10)]),
  ro 4 (.asg (.t 11))] (some [4])) .ret
def c269_15 : SC := .seq (.reg [ro 14 (.fa 131 (.t 2) 1),
  ro 15 (.ld 2 (.t 14)),
  ro 16 (.mv (.t 1)),
  ro 17 (.bn .sub 2 (.t 16) (.c (.int .i64 1))),
  ro 18 (.call (.f 138) [(.t 15), (.c (.int .i64 0)), (.t 17)]),
  ro 4 (.asg (.t 18))] (some [4])) .ret
def c269_21 : SC := .seq (.reg [ro 21 (.fa 131 (.t 2) 1),
  ro 22 (.ld 2 (.t 21)),
  ro 23 (.call (.f 138) [(.t 22), (.c (.int .i64 0)), (.c (.int .i64 8))]),
  ro 4 (.asg (.t 23))] (some [4])) .ret
def c269_27 : SC := .seq (.reg [ro 26 (.fa 131 (.t 2) 1),
  ro 27 (.ld 2 (.t 26)),
  ro 28 (.bn .eql 2 (.t 27) (.c (.int .i64 0))),
  ro 4 (.asg (.t 28))] (some [4])) .ret
def c269_26 : SC := .cond (.t 24) c269_27 .skip
def c269_24 : SC := .seq (.reg [ro 25 (.bn .eql 2 (.t 6) (.c (.int .i64 3))),
  ro 24 (.asg (.t 25))] (some [2, 24])) c269_26
def c269_20 : SC := .cond (.t 19) c269_21 c269_24
def c269_18 : SC := .seq (.reg [ro 20 (.bn .eql 2 (.t 6) (.c (.int .i64 2))),
  ro 19 (.asg (.t 20))] (some [2, 6, 19])) c269_20
def c269_14 : SC := .cond (.t 12) c269_15 c269_18
def c269_12 : SC := .seq (.reg [ro 13 (.bn .eql 2 (.t 6) (.c (.int .i64 1))),
  ro 12 (.asg (.t 13))] (some [1, 2, 6, 12])) c269_14
def c269_8 : SC := .cond (.t 7) c269_9 c269_12
def c269_5 : SC := .block 0 (.seq (.reg [ro 8 (.bn .eql 2 (.t 6) (.c (.int .i64 0))),
  ro 7 (.asg (.t 8))] (some [1, 2, 6, 7])) c269_8)
def c269_31 : SC := .seq (.reg [ro 4 (.asg (.c (.bool false)))] (some [4])) .ret
def c269_2 : SC := .seq (.seq (.reg [ro 5 (.fa 131 (.t 2) 0),
  ro 6 (.ld 2 (.t 5))] (some [1, 2, 6])) c269_5) c269_31
/-- (loop.example/g01075/impl.Term).valid -/
def c269 : SC := .seq (.reg [ro 2 (.bx 131 (.t 0)),
  ro 4 (.asg (.c (.bool false)))] (some [1, 2])) c269_2
theorem s269 : slimC ⟨29, [0, 1]⟩ (Try.f269.body.getD .skip) = some c269.strip := by kernel_rfl

def c270_9 : SC := .seq (.reg [ro 2 (.asg (.c (.int .i64 2)))] (some [2])) .ret
def c270_15 : SC := .seq (.reg [ro 2 (.asg (.c (.int .i64 1)))] (some [2])) .ret
def c270_14 : SC := .cond (.t 7) c270_15 .skip
def c270_12 : SC := .seq (.reg [ro 8 (.bn .eql 2 (.t 4) (.c (.int .i64 3))),
  ro 7 (.asg (.t 8))] (some [7])) c270_14
def c270_8 : SC := .cond (.t 5) c270_9 c270_12
def c270_5 : SC := .block 0 (.seq (.reg [ro 6 (.bn .eql 2 (.t 4) (.c (.int .i64 2))),
  ro 5 (.asg (.t 6))] (some [4, 5])) c270_8)
def c270_19 : SC := .seq (.reg [ro 2 (.asg (.c (.int .i64 0)))] (some [2])) .ret
def c270_2 : SC := .seq (.seq (.reg [ro 3 (.fa 131 (.t 1) 0),
  ro 4 (.ld 2 (.t 3))] (some [4])) c270_5) c270_19
/-- (loop.example/g01075/impl.Term).operands -/
def c270 : SC := .seq (.reg [ro 1 (.bx 131 (.t 0)),
  ro 2 (.asg (.c (.int .i64 0)))] (some [1])) c270_2
theorem s270 : slimC ⟨9, [0]⟩ (Try.f270.body.getD .skip) = some c270.strip := by kernel_rfl

def c200_6 : SC := .seq (.reg [ro 6 (.asg (.c (.bool false)))] (some [6])) .ret
def c200_5 : SC := .cond (.t 24) c200_6 .skip
def c200_31 : SC := .seq (.reg [ro 6 (.asg (.c (.bool false)))] (some [6])) .ret
def c200_30 : SC := .cond (.t 38) c200_31 .skip
def c200_35 : SC := .reg [ro 39 (.mv (.t 7)),
  ro 40 (.ld 131 (.t 9)),
  ro 41 (.call (.f 270) [(.t 40)]),
  ro 42 (.bn .sub 3 (.t 41) (.c (.int .i64 1))),
  ro 43 (.bn .add 3 (.t 39) (.t 42)),
  ro 7 (.asg (.t 43))] (some [1, 7, 25, 26, 27])
def c200_27 : SC := .seq (.seq (.reg [ro 31 (.mv (.t 7)),
  ro 32 (.bn .eql 3 (.t 31) (.c (.int .i64 0))),
  ro 33 (.mv (.t 32)),
  ⟨some 34, .ld 131 (.t 9), some (33, false)⟩,
  ⟨some 35, .mv (.t 1), some (33, false)⟩,
  ⟨some 36, .call (.f 269) [(.t 34), (.t 35)], some (33, false)⟩,
  ⟨some 37, .un .not (.t 36), some (33, false)⟩,
  ro 38 (.pick (.t 33) (.c (.bool true)) (.t 37))] (some [1, 7, 9, 25, 26, 27, 38])) c200_30) c200_35
def c200_36 : SC := .reg [ro 44 (.bn .add 3 (.t 27) (.c (.int .i64 1))),
  ro 27 (.mv (.t 44))] (some [1, 7, 25, 26, 27])
def c200_23 : SC := .seq (.block 1 (.seq (.reg [ro 29 (.ia 40 (.t 25) (.t 27)),
  ro 30 (.ld 131 (.t 29)),
  ro 9 (.alc 131),
  ⟨none, .sto 131 (.t 9) (.t 30), none⟩] (some [1, 7, 9, 25, 26, 27])) c200_27)) c200_36
def c200_19 : SC := .seq (.cond (.t 28) .skip (.exit 0)) c200_23
def c200_17 : SC := .seq (.reg [ro 28 (.bn .lss 3 (.t 27) (.t 26))] (some [1, 7, 25, 26, 27, 28])) c200_19
def c200_15 : SC := .block 0 (.loop c200_17)
def c200_37 : SC := .seq (.reg [ro 45 (.mv (.t 7)),
  ro 46 (.bn .eql 3 (.t 45) (.c (.int .i64 0))),
  ro 6 (.asg (.t 46))] (some [6])) .ret
def c200_12 : SC := .seq (.seq (.reg [ro 25 (.mv (.t 0)),
  ro 26 (.len 40 (.t 25)),
  ro 27 (.mv (.c (.int .i64 0)))] (some [1, 7, 25, 26, 27])) c200_15) c200_37
def c200_10 : SC := .seq (.reg [ro 7 (.asg (.c (.int .i64 1)))] (some [0, 1, 7])) c200_12
def c200_2 : SC := .seq (.seq (.reg [ro 10 (.mv (.t 1)),
  ro 11 (.call (.f 138) [(.t 10), (.c (.int .i64 0)), (.c (.int .i64 29))]),
  ro 12 (.un .not (.t 11)),
  ro 13 (.mv (.t 12)),
  ⟨some 14, .mv (.t 2), some (13, false)⟩,
  ⟨some 15, .call (.f 138) [(.t 14), (.c (.int .i64 1)), (.c (.int .i64 60))], some (13, false)⟩,
  ⟨some 16, .un .not (.t 15), some (13, false)⟩,
  ro 17 (.pick (.t 13) (.c (.bool true)) (.t 16)),
  ro 18 (.mv (.t 17)),
  ⟨some 19, .mv (.t 0), some (18, false)⟩,
  ⟨some 20, .len 40 (.t 19), some (18, false)⟩,
  ⟨some 21, .mv (.t 2), some (18, false)⟩,
  ⟨some 22, .call (.f 138) [(.t 20), (.c (.int .i64 1)), (.t 21)], some (18, false)⟩,
  ⟨some 23, .un .not (.t 22), some (18, false)⟩,
  ro 24 (.pick (.t 18) (.c (.bool true)) (.t 23))] (some [0, 1, 24])) c200_5) c200_10
/-- loop.example/g01075/impl.ValidTerms -/
def c200 : SC := .seq (.reg [ro 6 (.asg (.c (.bool false)))] (some [0, 1, 2])) c200_2
theorem s200 : slimC ⟨47, [0, 1, 2]⟩ (Try.f200.body.getD .skip) = some c200.strip := by kernel_rfl

def c108_2 : SC := .seq (.reg [ro 3 (.mv (.t 0)),
  ro 4 (.call (.f 200) [(.t 3), (.c (.int .i64 29)), (.c (.int .i64 60))]),
  ro 2 (.asg (.t 4))] (some [2])) .ret
/-- loop.example/g01075/impl.termsOk -/
def c108 : SC := .seq (.reg [ro 2 (.asg (.c (.bool false)))] (some [0])) c108_2
theorem s108 : slimC ⟨5, [0]⟩ (Try.f108.body.getD .skip) = some c108.strip := by kernel_rfl





def c141_22 : SC := .reg [ro 15 (.mv (.t 3)),
  ro 16 (.fa 131 (.t 5) 1),
  ro 17 (.ld 2 (.t 16)),
  ro 18 (.bsl 68 1 [(0, (.t 17))]),
  ro 19 (.app 68 68 (.t 15) (.t 18)),
  ro 3 (.asg (.t 19))] (some [3, 6, 7, 8])
def c141_21 : SC := .cond (.t 14) c141_22 .skip
def c141_19 : SC := .seq (.reg [ro 12 (.fa 131 (.t 5) 0),
  ro 13 (.ld 2 (.t 12)),
  ro 14 (.bn .eql 2 (.t 13) (.c (.int .i64 1)))] (some [3, 5, 6, 7, 8, 14])) c141_21
def c141_24 : SC := .reg [ro 20 (.bn .add 3 (.t 8) (.c (.int .i64 1))),
  ro 8 (.mv (.t 20))] (some [3, 6, 7, 8])
def c141_15 : SC := .seq (.block 1 (.seq (.reg [ro 10 (.ia 40 (.t 6) (.t 8)),
  ro 11 (.ld 131 (.t 10)),
  ro 5 (.alc 131),
  ⟨none, .sto 131 (.t 5) (.t 11), none⟩] (some [3, 5, 6, 7, 8])) c141_19)) c141_24
def c141_11 : SC := .seq (.cond (.t 9) .skip (.exit 0)) c141_15
def c141_9 : SC := .seq (.reg [ro 9 (.bn .lss 3 (.t 8) (.t 7))] (some [3, 6, 7, 8, 9])) c141_11
def c141_7 : SC := .block 0 (.loop c141_9)
def c141_27 : SC := .seq (.reg [ro 23 (.mv (.t 3)),
  ro 24 (.call (.f 224) [(.t 23)]),
  ro 2 (.asg (.t 24))] (some [2])) .ret
def c141_25 : SC := .seq (.reg [ro 21 (.mv (.t 3)),
  ro 22 (.call (.f 223) [(.t 21)])] (some [3])) c141_27
def c141_4 : SC := .seq (.seq (.reg [ro 6 (.mv (.t 0)),
  ro 7 (.len 40 (.t 6)),
  ro 8 (.mv (.c (.int .i64 0)))] (some [3, 6, 7, 8])) c141_7) c141_25
def c141_2 : SC := .seq (.reg [ro 3 (.asg (.c .nils))] (some [0, 3])) c141_4
/-- loop.example/g01075/impl.variables -/
def c141 : SC := .seq (.reg [ro 2 (.asg (.c .nils))] (some [0])) c141_2
theorem s141 : slimC ⟨25, [0]⟩ (Try.f141.body.getD .skip) = some c141.strip := by kernel_rfl

def c58_6 : SC := .seq (.reg [ro 2 (.asg (.c .nils)),
  ro 3 (.asg (.c (.int .i64 1)))] (some [2, 3])) .ret
def c58_5 : SC := .cond (.t 6) c58_6 .skip
def c58_10 : SC := .seq (.reg [ro 7 (.mv (.t 0)),
  ro 8 (.call (.f 141) [(.t 7)]),
  ro 2 (.asg (.t 8)),
  ro 3 (.asg (.c (.int .i64 0)))] (some [2, 3])) .ret
def c58_2 : SC := .seq (.seq (.reg [ro 4 (.mv (.t 0)),
  ro 5 (.call (.f 108) [(.t 4)]),
  ro 6 (.un .not (.t 5))] (some [0, 6])) c58_5) c58_10
/-- loop.example/g01075/impl.VariablesOf -/
def c58 : SC := .seq (.reg [ro 2 (.asg (.c .nils)),
  ro 3 (.asg (.c (.int .i64 0)))] (some [0])) c58_2
theorem s58 : slimC ⟨9, [0]⟩ (Try.f58.body.getD .skip) = some c58.strip := by kernel_rfl

def c59_6 : SC := .seq (.reg [ro 4 (.asg (.c (.bool false)))] (some [4])) .ret
def c59_5 : SC := .cond (.t 10) c59_6 .skip
def c59_18 : SC := .cond (.t 14) .skip (.exit 0)
def c59_26 : SC := .seq (.reg [ro 4 (.asg (.c (.bool false)))] (some [4])) .ret
def c59_25 : SC := .cond (.t 25) c59_26 .skip
def c59_30 : SC := .reg [ro 15 (.mv (.t 5)),
  ro 16 (.bn .add 3 (.t 15) (.c (.int .i64 1))),
  ro 5 (.asg (.t 16))] (some [0, 1, 5])
def c59_21 : SC := .seq (.block 1 (.seq (.drw [ro 17 (.mv (.t 0)),
  ro 18 (.mv (.t 5)),
  ro 19 (.ia 68 (.t 17) (.t 18)),
  ro 20 (.ld 2 (.t 19)),
  ro 21 (.mv (.t 1)),
  ro 22 (.mv (.t 5)),
  ro 23 (.ia 68 (.t 21) (.t 22)),
  ro 24 (.ld 2 (.t 23)),
  ro 25 (.bn .neq 2 (.t 20) (.t 24))] [[], [], [0, 1], [2], [], [], [4, 5], [6], [3, 7]] (some [0, 1, 5, 25])) c59_25)) c59_30
def c59_15 : SC := .seq (.seq (.reg [ro 11 (.mv (.t 5)),
  ro 12 (.mv (.t 0)),
  ro 13 (.len 68 (.t 12)),
  ro 14 (.bn .lss 3 (.t 11) (.t 13))] (some [0, 1, 5, 14])) c59_18) c59_21
def c59_13 : SC := .block 0 (.loop c59_15)
def c59_31 : SC := .seq (.reg [ro 4 (.asg (.c (.bool true)))] (some [4])) .ret
def c59_10 : SC := .seq (.seq (.reg [ro 5 (.asg (.c (.int .i64 0)))] (some [0, 1, 5])) c59_13) c59_31
def c59_2 : SC := .seq (.seq (.reg [ro 6 (.mv (.t 0)),
  ro 7 (.len 68 (.t 6)),
  ro 8 (.mv (.t 1)),
  ro 9 (.len 68 (.t 8)),
  ro 10 (.bn .neq 3 (.t 7) (.t 9))] (some [0, 1, 10])) c59_5) c59_10
/-- loop.example/g01075/laws.eqInt64S -/
def c59 : SC := .seq (.reg [ro 4 (.asg (.c (.bool false)))] (some [0, 1])) c59_2
theorem s59 : slimC ⟨26, [0, 1]⟩ (Try.f59.body.getD .skip) = some c59.strip := by kernel_rfl

def c111_6 : SC := .seq (.reg [ro 4 (.asg (.c (.bool false)))] (some [4])) .ret
def c111_5 : SC := .cond (.t 9) c111_6 .skip
def c111_14 : SC := .seq (.reg [ro 4 (.asg (.c (.bool false)))] (some [4])) .ret
def c111_13 : SC := .cond (.t 14) c111_14 .skip
def c111_18 : SC := .seq (.reg [ro 4 (.asg (.c (.bool true)))] (some [4])) .ret
def c111_10 : SC := .seq (.seq (.reg [ro 10 (.fa 131 (.t 2) 1),
  ro 11 (.ld 2 (.t 10)),
  ro 12 (.fa 131 (.t 3) 1),
  ro 13 (.ld 2 (.t 12)),
  ro 14 (.bn .neq 2 (.t 11) (.t 13))] (some [14])) c111_13) c111_18
def c111_2 : SC := .seq (.seq (.reg [ro 5 (.fa 131 (.t 2) 0),
  ro 6 (.ld 2 (.t 5)),
  ro 7 (.fa 131 (.t 3) 0),
  ro 8 (.ld 2 (.t 7)),
  ro 9 (.bn .neq 2 (.t 6) (.t 8))] (some [2, 3, 9])) c111_5) c111_10
/-- loop.example/g01075/laws.eqTerm -/
def c111 : SC := .seq (.reg [ro 2 (.bx 131 (.t 0)),
  ro 3 (.bx 131 (.t 1)),
  ro 4 (.asg (.c (.bool false)))] (some [2, 3])) c111_2
theorem s111 : slimC ⟨15, [0, 1]⟩ (Try.f111.body.getD .skip) = some c111.strip := by kernel_rfl

def c35_6 : SC := .seq (.reg [ro 4 (.asg (.c (.bool false)))] (some [4])) .ret
def c35_5 : SC := .cond (.t 10) c35_6 .skip
def c35_18 : SC := .cond (.t 14) .skip (.exit 0)
def c35_26 : SC := .seq (.reg [ro 4 (.asg (.c (.bool false)))] (some [4])) .ret
def c35_25 : SC := .cond (.t 26) c35_26 .skip
def c35_30 : SC := .reg [ro 15 (.mv (.t 5)),
  ro 16 (.bn .add 3 (.t 15) (.c (.int .i64 1))),
  ro 5 (.asg (.t 16))] (some [0, 1, 5])
def c35_21 : SC := .seq (.block 1 (.seq (.drw [ro 17 (.mv (.t 0)),
  ro 18 (.mv (.t 5)),
  ro 19 (.ia 40 (.t 17) (.t 18)),
  ro 20 (.ld 131 (.t 19)),
  ro 21 (.mv (.t 1)),
  ro 22 (.mv (.t 5)),
  ro 23 (.ia 40 (.t 21) (.t 22)),
  ro 24 (.ld 131 (.t 23)),
  ro 25 (.call (.f 111) [(.t 20), (.t 24)]),
  ro 26 (.un .not (.t 25))] [[], [], [0, 1], [2], [], [], [4, 5], [6], [3, 7], [8]] (some [0, 1, 5, 26])) c35_25)) c35_30
def c35_15 : SC := .seq (.seq (.reg [ro 11 (.mv (.t 5)),
  ro 12 (.mv (.t 0)),
  ro 13 (.len 40 (.t 12)),
  ro 14 (.bn .lss 3 (.t 11) (.t 13))] (some [0, 1, 5, 14])) c35_18) c35_21
def c35_13 : SC := .block 0 (.loop c35_15)
def c35_31 : SC := .seq (.reg [ro 4 (.asg (.c (.bool true)))] (some [4])) .ret
def c35_10 : SC := .seq (.seq (.reg [ro 5 (.asg (.c (.int .i64 0)))] (some [0, 1, 5])) c35_13) c35_31
def c35_2 : SC := .seq (.seq (.reg [ro 6 (.mv (.t 0)),
  ro 7 (.len 40 (.t 6)),
  ro 8 (.mv (.t 1)),
  ro 9 (.len 40 (.t 8)),
  ro 10 (.bn .neq 3 (.t 7) (.t 9))] (some [0, 1, 10])) c35_5) c35_10
/-- loop.example/g01075/laws.eqTermS -/
def c35 : SC := .seq (.reg [ro 4 (.asg (.c (.bool false)))] (some [0, 1])) c35_2
theorem s35 : slimC ⟨27, [0, 1]⟩ (Try.f35.body.getD .skip) = some c35.strip := by kernel_rfl

def c60_10 : SC := .cond (.t 9) .skip (.exit 0)
def c60_21 : SC := .reg [ro 24 (.mv (.t 1)),
  ro 25 (.bn .add 3 (.t 24) (.c (.int .i64 1))),
  ro 1 (.asg (.t 25))] (some [0, 1, 5])
def c60_19 : SC := .seq (.reg [ro 19 (.mv (.t 0)),
  ro 20 (.mv (.t 5)),
  ro 21 (.mv (.t 1)),
  ro 22 (.ia 40 (.t 19) (.t 20)),
  ro 23 (.fa 131 (.t 22) 1),
  ⟨none, .sto 2 (.t 23) (.t 21), none⟩] (some [0, 1, 5])) c60_21
def c60_17 : SC := .seq (.reg [ro 17 (.mv (.t 1)),
  ro 18 (.bn .add 3 (.t 17) (.c (.int .i64 1))),
  ro 1 (.asg (.t 18))] (some [0, 1, 5])) c60_19
def c60_22 : SC := .reg [ro 10 (.mv (.t 5)),
  ro 11 (.bn .add 3 (.t 10) (.c (.int .i64 1))),
  ro 5 (.asg (.t 11))] (some [0, 1, 5])
def c60_13 : SC := .seq (.block 1 (.seq (.reg [ro 12 (.mv (.t 0)),
  ro 13 (.mv (.t 5)),
  ro 14 (.mv (.t 1)),
  ro 15 (.ia 40 (.t 12) (.t 13)),
  ro 16 (.fa 131 (.t 15) 0),
  ⟨none, .sto 2 (.t 16) (.t 14), none⟩] (some [0, 1, 5])) c60_17)) c60_22
def c60_7 : SC := .seq (.seq (.reg [ro 6 (.mv (.t 5)),
  ro 7 (.mv (.t 0)),
  ro 8 (.len 40 (.t 7)),
  ro 9 (.bn .lss 3 (.t 6) (.t 8))] (some [0, 1, 5, 9])) c60_10) c60_13
def c60_5 : SC := .block 0 (.loop c60_7)
def c60_23 : SC := .seq (.reg [ro 26 (.mv (.t 1)),
  ro 4 (.asg (.t 26))] (some [0, 4])) .ret
def c60_2 : SC := .seq (.seq (.reg [ro 5 (.asg (.c (.int .i64 0)))] (some [0, 1, 5])) c60_5) c60_23
/-- loop.example/g01075/laws.markTermS -/
def c60 : SC := .seq (.reg [ro 4 (.asg (.c (.int .i64 0)))] (some [0, 1])) c60_2
theorem s60 : slimC ⟨27, [0]⟩ (Try.f60.body.getD .skip) = some c60.strip := by kernel_rfl

def c61_10 : SC := .cond (.t 9) .skip (.exit 0)
def c61_17 : SC := .reg [ro 16 (.mv (.t 1)),
  ro 17 (.bn .add 3 (.t 16) (.c (.int .i64 1))),
  ro 1 (.asg (.t 17))] (some [0, 1, 5])
def c61_18 : SC := .reg [ro 10 (.mv (.t 5)),
  ro 11 (.bn .add 3 (.t 10) (.c (.int .i64 1))),
  ro 5 (.asg (.t 11))] (some [0, 1, 5])
def c61_13 : SC := .seq (.block 1 (.seq (.reg [ro 12 (.mv (.t 0)),
  ro 13 (.mv (.t 5)),
  ro 14 (.mv (.t 1)),
  ro 15 (.ia 68 (.t 12) (.t 13)),
  ⟨none, .sto 2 (.t 15) (.t 14), none⟩] (some [0, 1, 5])) c61_17)) c61_18
def c61_7 : SC := .seq (.seq (.reg [ro 6 (.mv (.t 5)),
  ro 7 (.mv (.t 0)),
  ro 8 (.len 68 (.t 7)),
  ro 9 (.bn .lss 3 (.t 6) (.t 8))] (some [0, 1, 5, 9])) c61_10) c61_13
def c61_5 : SC := .block 0 (.loop c61_7)
def c61_19 : SC := .seq (.reg [ro 18 (.mv (.t 1)),
  ro 4 (.asg (.t 18))] (some [0, 4])) .ret
def c61_2 : SC := .seq (.seq (.reg [ro 5 (.asg (.c (.int .i64 0)))] (some [0, 1, 5])) c61_5) c61_19
/-- loop.example/g01075/laws.markInt64S -/
def c61 : SC := .seq (.reg [ro 4 (.asg (.c (.int .i64 0)))] (some [0, 1])) c61_2
theorem s61 : slimC ⟨19, [0]⟩ (Try.f61.body.getD .skip) = some c61.strip := by kernel_rfl

def c62_10 : SC := .cond (.t 9) .skip (.exit 0)
def c62_19 : SC := .seq (.reg [ro 4 (.asg (.c (.int .i64 (-1))))] (some [4])) .ret
def c62_18 : SC := .cond (.t 17) c62_19 .skip
def c62_23 : SC := .reg [ro 18 (.mv (.t 1)),
  ro 19 (.bn .add 3 (.t 18) (.c (.int .i64 1))),
  ro 1 (.asg (.t 19))] (some [0, 1, 5])
def c62_24 : SC := .reg [ro 10 (.mv (.t 5)),
  ro 11 (.bn .add 3 (.t 10) (.c (.int .i64 1))),
  ro 5 (.asg (.t 11))] (some [0, 1, 5])
def c62_13 : SC := .seq (.block 1 (.seq (.seq (.reg [ro 12 (.mv (.t 0)),
  ro 13 (.mv (.t 5)),
  ro 14 (.ia 68 (.t 12) (.t 13)),
  ro 15 (.ld 2 (.t 14)),
  ro 16 (.mv (.t 1)),
  ro 17 (.bn .neq 2 (.t 15) (.t 16))] (some [0, 1, 5, 17])) c62_18) c62_23)) c62_24
def c62_7 : SC := .seq (.seq (.reg [ro 6 (.mv (.t 5)),
  ro 7 (.mv (.t 0)),
  ro 8 (.len 68 (.t 7)),
  ro 9 (.bn .lss 3 (.t 6) (.t 8))] (some [0, 1, 5, 9])) c62_10) c62_13
def c62_5 : SC := .block 0 (.loop c62_7)
def c62_25 : SC := .seq (.reg [ro 20 (.mv (.t 1)),
  ro 4 (.asg (.t 20))] (some [4])) .ret
def c62_2 : SC := .seq (.seq (.reg [ro 5 (.asg (.c (.int .i64 0)))] (some [0, 1, 5])) c62_5) c62_25
/-- loop.example/g01075/laws.heldInt64S -/
def c62 : SC := .seq (.reg [ro 4 (.asg (.c (.int .i64 0)))] (some [0, 1])) c62_2
theorem s62 : slimC ⟨21, [0]⟩ (Try.f62.body.getD .skip) = some c62.strip := by kernel_rfl

def c12_10 : SC := .seq (.reg [ro 2 (.asg (.c (.bool true)))] (some [2])) .ret
def c12_9 : SC := .cond (.t 18) c12_10 .skip
def c12_24 : SC := .seq (.reg [ro 2 (.asg (.c (.bool false)))] (some [2])) .ret
def c12_23 : SC := .cond (.t 40) c12_24 .skip
def c12_32 : SC := .seq (.reg [ro 2 (.asg (.c (.bool false)))] (some [2])) .ret
def c12_31 : SC := .cond (.t 45) c12_32 .skip
def c12_44 : SC := .seq (.reg [ro 2 (.asg (.c (.bool false)))] (some [2])) .ret
def c12_43 : SC := .cond (.t 61) c12_44 .skip
def c12_60 : SC := .seq (.reg [ro 2 (.asg (.c (.bool false)))] (some [2])) .ret
def c12_59 : SC := .cond (.t 69) c12_60 .skip
def c12_68 : SC := .seq (.reg [ro 2 (.asg (.c (.bool false)))] (some [2])) .ret
def c12_67 : SC := .cond (.t 72) c12_68 .skip
def c12_78 : SC := .seq (.reg [ro 2 (.asg (.c (.bool false)))] (some [2])) .ret
def c12_77 : SC := .cond (.t 87) c12_78 .skip
def c12_90 : SC := .seq (.reg [ro 2 (.asg (.c (.bool false)))] (some [2])) .ret
def c12_89 : SC := .cond (.t 92) c12_90 .skip
def c12_98 : SC := .seq (.reg [ro 2 (.asg (.c (.bool false)))] (some [2])) .ret
def c12_97 : SC := .cond (.t 95) c12_98 .skip
def c12_102 : SC := .seq (.reg [ro 2 (.asg (.c (.bool true)))] (some [2])) .ret
def c12_94 : SC := .seq (.seq (.reg [ro 93 (.mv (.t 11)),
  ro 94 (.mv (.t 10)),
  ro 95 (.bn .neq 3 (.t 93) (.t 94))] (some [95])) c12_97) c12_102
def c12_86 : SC := .seq (.seq (.reg [ro 91 (.mv (.t 11)),
  ro 92 (.bn .lss 3 (.t 91) (.c (.int .i64 0)))] (some [10, 11, 92])) c12_89) c12_94
def c12_84 : SC := .seq (.reg [ro 88 (.mv (.t 7)),
  ro 89 (.mv (.t 11)),
  ro 90 (.call (.f 62) [(.t 88), (.t 89)]),
  ro 11 (.asg (.t 90))] (some [10, 11])) c12_86
def c12_82 : SC := .seq (.reg [ro 11 (.asg (.c (.int .i64 1)))] (some [7, 10, 11])) c12_84
def c12_74 : SC := .seq (.seq (.reg [ro 79 (.mv (.t 12)),
  ro 80 (.mv (.t 4)),
  ro 81 (.call (.f 59) [(.t 79), (.t 80)]),
  ro 82 (.un .not (.t 81)),
  ro 83 (.mv (.t 82)),
  ⟨some 84, .mv (.t 13), some (83, false)⟩,
  ⟨some 85, .mv (.t 5), some (83, false)⟩,
  ⟨some 86, .bn .neq 2 (.t 84) (.t 85), some (83, false)⟩,
  ro 87 (.pick (.t 83) (.c (.bool true)) (.t 86))] (some [7, 10, 87])) c12_77) c12_82
def c12_72 : SC := .seq (.reg [ro 74 (.mv (.t 0)),
  ro 75 (.call (.f 33) [(.t 74)]),
  ro 76 (.call (.f 58) [(.t 75)]),
  ro 73 (.mv (.t 76)),
  ro 77 (.ex (.t 73) 0),
  ro 78 (.ex (.t 73) 1),
  ro 12 (.asg (.t 77)),
  ro 13 (.asg (.t 78))] (some [4, 5, 7, 10, 12, 13])) c12_74
def c12_64 : SC := .seq (.seq (.reg [ro 70 (.mv (.t 11)),
  ro 71 (.mv (.t 10)),
  ro 72 (.bn .neq 3 (.t 70) (.t 71))] (some [0, 4, 5, 7, 10, 72])) c12_67) c12_72
def c12_56 : SC := .seq (.seq (.reg [ro 68 (.mv (.t 11)),
  ro 69 (.bn .lss 3 (.t 68) (.c (.int .i64 0)))] (some [0, 4, 5, 7, 10, 11, 69])) c12_59) c12_64
def c12_54 : SC := .seq (.reg [ro 65 (.mv (.t 7)),
  ro 66 (.mv (.t 11)),
  ro 67 (.call (.f 62) [(.t 65), (.t 66)]),
  ro 11 (.asg (.t 67))] (some [0, 4, 5, 7, 10, 11])) c12_56
def c12_52 : SC := .seq (.reg [ro 11 (.asg (.c (.int .i64 1)))] (some [0, 4, 5, 7, 10, 11])) c12_54
def c12_50 : SC := .seq (.reg [ro 62 (.mv (.t 7)),
  ro 63 (.mv (.t 10)),
  ro 64 (.call (.f 61) [(.t 62), (.t 63)]),
  ro 10 (.asg (.t 64))] (some [0, 4, 5, 7, 10])) c12_52
def c12_48 : SC := .seq (.reg [ro 10 (.asg (.c (.int .i64 1)))] (some [0, 4, 5, 7, 10])) c12_50
def c12_40 : SC := .seq (.seq (.reg [ro 49 (.mv (.t 9)),
  ro 50 (.bn .lss 3 (.t 49) (.c (.int .i64 0))),
  ro 51 (.mv (.t 50)),
  ⟨some 52, .mv (.t 7), some (51, false)⟩,
  ⟨some 53, .mv (.t 4), some (51, false)⟩,
  ⟨some 54, .call (.f 59) [(.t 52), (.t 53)], some (51, false)⟩,
  ⟨some 55, .un .not (.t 54), some (51, false)⟩,
  ro 56 (.pick (.t 51) (.c (.bool true)) (.t 55)),
  ro 57 (.mv (.t 56)),
  ⟨some 58, .mv (.t 8), some (57, false)⟩,
  ⟨some 59, .mv (.t 5), some (57, false)⟩,
  ⟨some 60, .bn .neq 2 (.t 58) (.t 59), some (57, false)⟩,
  ro 61 (.pick (.t 57) (.c (.bool true)) (.t 60))] (some [0, 4, 5, 7, 61])) c12_43) c12_48
def c12_38 : SC := .seq (.reg [ro 46 (.mv (.t 6)),
  ro 47 (.mv (.t 9)),
  ro 48 (.call (.f 60) [(.t 46), (.t 47)]),
  ro 9 (.asg (.t 48))] (some [0, 4, 5, 7, 8, 9])) c12_40
def c12_36 : SC := .seq (.reg [ro 9 (.asg (.c (.int .i64 1)))] (some [0, 4, 5, 6, 7, 8, 9])) c12_38
def c12_28 : SC := .seq (.seq (.reg [ro 41 (.mv (.t 6)),
  ro 42 (.mv (.t 0)),
  ro 43 (.call (.f 33) [(.t 42)]),
  ro 44 (.call (.f 35) [(.t 41), (.t 43)]),
  ro 45 (.un .not (.t 44))] (some [0, 4, 5, 6, 7, 8, 45])) c12_31) c12_36
def c12_20 : SC := .seq (.seq (.reg [ro 32 (.mv (.t 7)),
  ro 33 (.mv (.t 4)),
  ro 34 (.call (.f 59) [(.t 32), (.t 33)]),
  ro 35 (.un .not (.t 34)),
  ro 36 (.mv (.t 35)),
  ⟨some 37, .mv (.t 8), some (36, false)⟩,
  ⟨some 38, .mv (.t 5), some (36, false)⟩,
  ⟨some 39, .bn .neq 2 (.t 37) (.t 38), some (36, false)⟩,
  ro 40 (.pick (.t 36) (.c (.bool true)) (.t 39))] (some [0, 4, 5, 6, 7, 8, 40])) c12_23) c12_28
def c12_18 : SC := .seq (.reg [ro 28 (.mv (.t 6)),
  ro 29 (.call (.f 58) [(.t 28)]),
  ro 27 (.mv (.t 29)),
  ro 30 (.ex (.t 27) 0),
  ro 31 (.ex (.t 27) 1),
  ro 7 (.asg (.t 30)),
  ro 8 (.asg (.t 31))] (some [0, 4, 5, 6, 7, 8])) c12_20
def c12_16 : SC := .seq (.reg [ro 25 (.mv (.t 0)),
  ro 26 (.call (.f 33) [(.t 25)]),
  ro 6 (.asg (.t 26))] (some [0, 4, 5, 6])) c12_18
def c12_14 : SC := .seq (.reg [ro 20 (.mv (.t 0)),
  ro 21 (.call (.f 33) [(.t 20)]),
  ro 22 (.call (.f 57) [(.t 21)]),
  ro 19 (.mv (.t 22)),
  ro 23 (.ex (.t 19) 0),
  ro 24 (.ex (.t 19) 1),
  ro 4 (.asg (.t 23)),
  ro 5 (.asg (.t 24))] (some [0, 4, 5])) c12_16
def c12_6 : SC := .seq (.seq (.reg [ro 17 (.mv (.t 3)),
  ro 18 (.bn .lss 3 (.t 17) (.c (.int .i64 0)))] (some [0, 18])) c12_9) c12_14
def c12_4 : SC := .seq (.reg [ro 14 (.mv (.t 0)),
  ro 15 (.mv (.t 3)),
  ro 16 (.call (.f 31) [(.t 14), (.t 15)]),
  ro 3 (.asg (.t 16))] (some [0, 3])) c12_6
def c12_2 : SC := .seq (.reg [ro 3 (.asg (.c (.int .i64 1048576)))] (some [0, 3])) c12_4
/-- loop.example/g01075/laws.FnExactVariablesOf -/
def c12 : SC := .seq (.reg [ro 2 (.asg (.c (.bool false)))] (some [0])) c12_2
theorem s12 : slimC ⟨96, [0]⟩ (Try.f12.body.getD .skip) = some c12.strip := by kernel_rfl

end Go.Proofs.Ytobljppjkklojaa
