/- Part of the proof that the law FnExactClaimName returns true for every input. No condition. -/
import Derived.Test.YtncnipaofaeaiaaTb
import Derived.Test.YtncnipaofaeaiaaFw35
import Derived.Test.YtncnipaofaeaiaaP3
namespace Go.Proofs.Ytncnipaofaeaiaa
open Go Go.Fw Go.Sh
set_option linter.unusedSimpArgs false

def e_str (x : List UInt8) : AV := .str x
theorem sh_e_str (x : List UInt8) : (e_str x).share = e_str x := by
  simp only [e_str, share_s]
theorem ns_e_str (x : List UInt8) : (e_str x).nosh = true := by
  simp only [e_str, AV.nosh, AV.noshs, Bool.and_self]

def c27_2 : SC := .seq (.reg [⟨some 7, .mv (.t 0), none⟩,
  ⟨some 8, .mv (.t 1), none⟩,
  ⟨some 9, .bn .geq 2 (.t 7) (.t 8), none⟩,
  ⟨some 10, .mv (.t 9), none⟩,
  ⟨some 11, .mv (.t 0), some (10, true)⟩,
  ⟨some 12, .mv (.t 2), some (10, true)⟩,
  ⟨some 13, .bn .leq 2 (.t 11) (.t 12), some (10, true)⟩,
  ⟨some 14, .pick (.t 10) (.t 13) (.c (.bool false)), none⟩,
  ⟨some 6, .asg (.t 14), none⟩] (some [6])) .ret
/-- loop.example/g01075/spec.l00In -/
def c27 : SC := .seq (.reg [⟨some 6, .asg (.c (.bool false)), none⟩] (some [0, 1, 2])) c27_2
theorem s27 : slimC ⟨15, [0, 1, 2]⟩ (Try.f27.body.getD .skip) = some c27.strip := by kernel_rfl

def c9_8 : SC := .seq (.reg [⟨some 2, .asg (.c (.str [])), none⟩] (some [2])) .ret
def c9_7 : SC := .cond (.t 10) c9_8 .skip
def c9_12 : SC := .seq (.reg [⟨some 11, .mv (.t 3), none⟩,
  ⟨some 12, .mv (.t 0), none⟩,
  ⟨some 13, .ia 45 (.t 11) (.t 12), none⟩,
  ⟨some 14, .ld 9 (.t 13), none⟩,
  ⟨some 2, .asg (.t 14), none⟩] (some [2])) .ret
def c9_4 : SC := .seq (.seq (.reg [⟨some 5, .mv (.t 0), none⟩,
  ⟨some 6, .mv (.t 3), none⟩,
  ⟨some 7, .len 45 (.t 6), none⟩,
  ⟨some 8, .bn .sub 2 (.t 7) (.c (.int .i64 1)), none⟩,
  ⟨some 9, .call (.f 27) [(.t 5), (.c (.int .i64 0)), (.t 8)], none⟩,
  ⟨some 10, .un .not (.t 9), none⟩] (some [0, 3, 10])) c9_7) c9_12
def c9_2 : SC := .seq (.reg [⟨some 4, .bsl 45 8 [(0, (.c (.str [115, 116, 114, 111, 110, 103]))), (1, (.c (.str [98, 114, 97, 110, 99, 104, 105, 110, 103]))), (2, (.c (.str [115, 105, 109, 117, 108, 97, 116, 101, 115]))), (3, (.c (.str [97, 112, 97, 114, 116]))), (4, (.c (.str [104, 111, 108, 100, 115]))), (5, (.c (.str [102, 97, 105, 108, 115]))), (6, (.c (.str [100, 101, 97, 100, 108, 111, 99, 107]))), (7, (.c (.str [108, 105, 118, 101])))], none⟩,
  ⟨some 3, .asg (.t 4), none⟩] (some [0, 3])) c9_4
/-- loop.example/g01075/spec.ClaimName -/
def c9 : SC := .seq (.reg [⟨some 2, .asg (.c (.str [])), none⟩] (some [0])) c9_2
theorem s9 : slimC ⟨15, [0]⟩ (Try.f9.body.getD .skip) = some c9.strip := by kernel_rfl

def c31_2 : SC := .seq (.reg [⟨some 7, .mv (.t 0), none⟩,
  ⟨some 8, .mv (.t 1), none⟩,
  ⟨some 9, .bn .geq 2 (.t 7) (.t 8), none⟩,
  ⟨some 10, .mv (.t 9), none⟩,
  ⟨some 11, .mv (.t 0), some (10, true)⟩,
  ⟨some 12, .mv (.t 2), some (10, true)⟩,
  ⟨some 13, .bn .leq 2 (.t 11) (.t 12), some (10, true)⟩,
  ⟨some 14, .pick (.t 10) (.t 13) (.c (.bool false)), none⟩,
  ⟨some 6, .asg (.t 14), none⟩] (some [6])) .ret
/-- loop.example/g01075/impl.within -/
def c31 : SC := .seq (.reg [⟨some 6, .asg (.c (.bool false)), none⟩] (some [0, 1, 2])) c31_2
theorem s31 : slimC ⟨15, [0, 1, 2]⟩ (Try.f31.body.getD .skip) = some c31.strip := by kernel_rfl

def c28_2 : SC := .seq (.reg [⟨some 5, .mv (.t 0), none⟩,
  ⟨some 6, .mv (.t 1), none⟩,
  ⟨some 7, .bn .sub 2 (.t 6) (.c (.int .i64 1)), none⟩,
  ⟨some 8, .call (.f 31) [(.t 5), (.c (.int .i64 0)), (.t 7)], none⟩,
  ⟨some 4, .asg (.t 8), none⟩] (some [4])) .ret
/-- loop.example/g01075/impl.index -/
def c28 : SC := .seq (.reg [⟨some 4, .asg (.c (.bool false)), none⟩] (some [0, 1])) c28_2
theorem s28 : slimC ⟨9, [0, 1]⟩ (Try.f28.body.getD .skip) = some c28.strip := by kernel_rfl

def c10_8 : SC := .seq (.reg [⟨some 2, .asg (.c (.str [])), none⟩] (some [2])) .ret
def c10_7 : SC := .cond (.t 9) c10_8 .skip
def c10_12 : SC := .seq (.reg [⟨some 10, .mv (.t 3), none⟩,
  ⟨some 11, .mv (.t 0), none⟩,
  ⟨some 12, .ia 45 (.t 10) (.t 11), none⟩,
  ⟨some 13, .ld 9 (.t 12), none⟩,
  ⟨some 2, .asg (.t 13), none⟩] (some [2])) .ret
def c10_4 : SC := .seq (.seq (.reg [⟨some 5, .mv (.t 0), none⟩,
  ⟨some 6, .mv (.t 3), none⟩,
  ⟨some 7, .len 45 (.t 6), none⟩,
  ⟨some 8, .call (.f 28) [(.t 5), (.t 7)], none⟩,
  ⟨some 9, .un .not (.t 8), none⟩] (some [0, 3, 9])) c10_7) c10_12
def c10_2 : SC := .seq (.reg [⟨some 4, .bsl 45 8 [(0, (.c (.str [115, 116, 114, 111, 110, 103]))), (1, (.c (.str [98, 114, 97, 110, 99, 104, 105, 110, 103]))), (2, (.c (.str [115, 105, 109, 117, 108, 97, 116, 101, 115]))), (3, (.c (.str [97, 112, 97, 114, 116]))), (4, (.c (.str [104, 111, 108, 100, 115]))), (5, (.c (.str [102, 97, 105, 108, 115]))), (6, (.c (.str [100, 101, 97, 100, 108, 111, 99, 107]))), (7, (.c (.str [108, 105, 118, 101])))], none⟩,
  ⟨some 3, .asg (.t 4), none⟩] (some [0, 3])) c10_4
/-- loop.example/g01075/impl.ClaimName -/
def c10 : SC := .seq (.reg [⟨some 2, .asg (.c (.str [])), none⟩] (some [0])) c10_2
theorem s10 : slimC ⟨14, [0]⟩ (Try.f10.body.getD .skip) = some c10.strip := by kernel_rfl

def c3_10 : SC := .seq (.reg [⟨some 2, .asg (.c (.bool false)), none⟩] (some [2])) .ret
def c3_9 : SC := .cond (.t 11) c3_10 .skip
def c3_14 : SC := .seq (.reg [⟨some 2, .asg (.c (.bool true)), none⟩] (some [2])) .ret
def c3_6 : SC := .seq (.seq (.reg [⟨some 9, .mv (.t 4), none⟩,
  ⟨some 10, .mv (.t 3), none⟩,
  ⟨some 11, .bn .neq 9 (.t 9) (.t 10), none⟩] (some [11])) c3_9) c3_14
def c3_4 : SC := .seq (.reg [⟨some 7, .mv (.t 0), none⟩,
  ⟨some 8, .call (.f 10) [(.t 7)], none⟩,
  ⟨some 4, .asg (.t 8), none⟩] (some [3, 4])) c3_6
def c3_2 : SC := .seq (.reg [⟨some 5, .mv (.t 0), none⟩,
  ⟨some 6, .call (.f 9) [(.t 5)], none⟩,
  ⟨some 3, .asg (.t 6), none⟩] (some [0, 3])) c3_4
/-- loop.example/g01075/laws.FnExactClaimName -/
def c3 : SC := .seq (.reg [⟨some 2, .asg (.c (.bool false)), none⟩] (some [0])) c3_2
theorem s3 : slimC ⟨12, [0]⟩ (Try.f3.body.getD .skip) = some c3.strip := by kernel_rfl

end Go.Proofs.Ytncnipaofaeaiaa
