/- Part of a proof that a law returns true for every input. No condition. -/
import Derived.Test.YtobljppjkklojaaTb
import Derived.Test.YtobljppjkklojaaFwL
import Derived.Test.YtobljppjkklojaaP20
namespace Go.Proofs.Ytobljppjkklojaa
open Go Go.Fw Go.Sh
set_option linter.unusedSimpArgs false

def e_i64 (x : Int) : AV := .int .i64 x
theorem sh_e_i64 (x : Int) : (e_i64 x).share = e_i64 x := by
  simp only [e_i64, share_s]
theorem ns_e_i64 (x : Int) : (e_i64 x).nosh = true := by
  simp only [e_i64, AV.nosh, AV.noshs, Bool.and_self]
def e_laws_Term (x : laws_Term) : AV := .agg [.int .i64 x.Kind, .int .i64 x.Value]
theorem sh_e_laws_Term (x : laws_Term) : (e_laws_Term x).share = e_laws_Term x := by
  simp only [e_laws_Term, share_s]
theorem ns_e_laws_Term (x : laws_Term) : (e_laws_Term x).nosh = true := by
  simp only [e_laws_Term, AV.nosh, AV.noshs, Bool.and_self]
def e_s_laws_Term (x : List laws_Term) : AV := .slice (x.map e_laws_Term)
theorem sh_e_s_laws_Term (x : List laws_Term) : (e_s_laws_Term x).share = e_s_laws_Term x := by
  simp only [e_s_laws_Term, share_s, @shares_map _ e_laws_Term e_laws_Term (fun _ => sh_e_laws_Term _)]
def e_laws_Summand (x : laws_Summand) : AV := .agg [.slice (x.Sums.map e_i64), .slice (x.Guard.map e_laws_Term), .str x.Name, .slice (x.Arguments.map e_s_laws_Term), .slice (x.Next.map e_s_laws_Term)]
theorem sh_e_laws_Summand (x : laws_Summand) : (e_laws_Summand x).share = e_laws_Summand x := by
  simp only [e_laws_Summand, share_s, @shares_map _ e_i64 e_i64 (fun _ => sh_e_i64 _), @shares_map _ e_laws_Term e_laws_Term (fun _ => sh_e_laws_Term _), @shares_map _ e_s_laws_Term e_s_laws_Term (fun _ => sh_e_s_laws_Term _)]
def e_laws_Linear (x : laws_Linear) : AV := .agg [.int .i64 x.Parameters, .slice (x.Start.map e_i64), .slice (x.Summands.map e_laws_Summand)]
theorem sh_e_laws_Linear (x : laws_Linear) : (e_laws_Linear x).share = e_laws_Linear x := by
  simp only [e_laws_Linear, share_s, @shares_map _ e_i64 e_i64 (fun _ => sh_e_i64 _), @shares_map _ e_laws_Summand e_laws_Summand (fun _ => sh_e_laws_Summand _)]
def e_s_i64 (x : List Int) : AV := .slice (x.map e_i64)
theorem sh_e_s_i64 (x : List Int) : (e_s_i64 x).share = e_s_i64 x := by
  simp only [e_s_i64, share_s, @shares_map _ e_i64 e_i64 (fun _ => sh_e_i64 _)]
def e_s_laws_Summand (x : List laws_Summand) : AV := .slice (x.map e_laws_Summand)
theorem sh_e_s_laws_Summand (x : List laws_Summand) : (e_s_laws_Summand x).share = e_s_laws_Summand x := by
  simp only [e_s_laws_Summand, share_s, @shares_map _ e_laws_Summand e_laws_Summand (fun _ => sh_e_laws_Summand _)]
def e_str (x : List UInt8) : AV := .str x
theorem sh_e_str (x : List UInt8) : (e_str x).share = e_str x := by
  simp only [e_str, share_s]
theorem ns_e_str (x : List UInt8) : (e_str x).nosh = true := by
  simp only [e_str, AV.nosh, AV.noshs, Bool.and_self]
def e_s_s_laws_Term (x : List (List laws_Term)) : AV := .slice (x.map e_s_laws_Term)
theorem sh_e_s_s_laws_Term (x : List (List laws_Term)) : (e_s_s_laws_Term x).share = e_s_s_laws_Term x := by
  simp only [e_s_s_laws_Term, share_s, @shares_map _ e_s_laws_Term e_s_laws_Term (fun _ => sh_e_s_laws_Term _)]
def e_impl_Term (x : impl_Term) : AV := .agg [.int .i64 x.Kind, .int .i64 x.Value]
theorem sh_e_impl_Term (x : impl_Term) : (e_impl_Term x).share = e_impl_Term x := by
  simp only [e_impl_Term, share_s]
theorem ns_e_impl_Term (x : impl_Term) : (e_impl_Term x).nosh = true := by
  simp only [e_impl_Term, AV.nosh, AV.noshs, Bool.and_self]
def e_s_impl_Term (x : List impl_Term) : AV := .slice (x.map e_impl_Term)
theorem sh_e_s_impl_Term (x : List impl_Term) : (e_s_impl_Term x).share = e_s_impl_Term x := by
  simp only [e_s_impl_Term, share_s, @shares_map _ e_impl_Term e_impl_Term (fun _ => sh_e_impl_Term _)]
def e_impl_Summand (x : impl_Summand) : AV := .agg [.slice (x.Sums.map e_i64), .slice (x.Guard.map e_impl_Term), .str x.Name, .slice (x.Arguments.map e_s_impl_Term), .slice (x.Next.map e_s_impl_Term)]
theorem sh_e_impl_Summand (x : impl_Summand) : (e_impl_Summand x).share = e_impl_Summand x := by
  simp only [e_impl_Summand, share_s, @shares_map _ e_i64 e_i64 (fun _ => sh_e_i64 _), @shares_map _ e_impl_Term e_impl_Term (fun _ => sh_e_impl_Term _), @shares_map _ e_s_impl_Term e_s_impl_Term (fun _ => sh_e_s_impl_Term _)]
def u_s_impl_Term (x : List impl_Term) : AV := .uslice 2 (x.map e_impl_Term)
theorem sh_u_s_impl_Term (x : List impl_Term) : (u_s_impl_Term x).share = e_s_impl_Term x := by
  simp only [u_s_impl_Term, e_s_impl_Term, share_s, @shares_map _ e_impl_Term e_impl_Term (fun _ => sh_e_impl_Term _)]
theorem ns_u_s_impl_Term (x : List impl_Term) : (u_s_impl_Term x).nosh = true := by
  simp only [u_s_impl_Term, AV.nosh, AV.noshs, Bool.and_self, @noshs_map _ e_impl_Term (fun _ => ns_e_impl_Term _)]
def u_impl_Summand (x : impl_Summand) : AV := .agg [.uslice 1 (x.Sums.map e_i64), .uslice 2 (x.Guard.map e_impl_Term), .str x.Name, .uslice 1 (x.Arguments.map u_s_impl_Term), .uslice 1 (x.Next.map u_s_impl_Term)]
theorem sh_u_impl_Summand (x : impl_Summand) : (u_impl_Summand x).share = e_impl_Summand x := by
  simp only [u_impl_Summand, e_impl_Summand, share_s, @shares_map _ e_i64 e_i64 (fun _ => sh_e_i64 _), @shares_map _ e_impl_Term e_impl_Term (fun _ => sh_e_impl_Term _), @shares_map _ u_s_impl_Term e_s_impl_Term (fun _ => sh_u_s_impl_Term _)]
theorem ns_u_impl_Summand (x : impl_Summand) : (u_impl_Summand x).nosh = true := by
  simp only [u_impl_Summand, AV.nosh, AV.noshs, Bool.and_self, @noshs_map _ e_i64 (fun _ => ns_e_i64 _), @noshs_map _ e_impl_Term (fun _ => ns_e_impl_Term _), @noshs_map _ u_s_impl_Term (fun _ => ns_u_s_impl_Term _)]
def u_s_i64 (x : List Int) : AV := .uslice 1 (x.map e_i64)
theorem sh_u_s_i64 (x : List Int) : (u_s_i64 x).share = e_s_i64 x := by
  simp only [u_s_i64, e_s_i64, share_s, @shares_map _ e_i64 e_i64 (fun _ => sh_e_i64 _)]
theorem ns_u_s_i64 (x : List Int) : (u_s_i64 x).nosh = true := by
  simp only [u_s_i64, AV.nosh, AV.noshs, Bool.and_self, @noshs_map _ e_i64 (fun _ => ns_e_i64 _)]
def u_s_s_impl_Term (x : List (List impl_Term)) : AV := .uslice 1 (x.map u_s_impl_Term)
def e_s_s_impl_Term (x : List (List impl_Term)) : AV := .slice (x.map e_s_impl_Term)
theorem sh_e_s_s_impl_Term (x : List (List impl_Term)) : (e_s_s_impl_Term x).share = e_s_s_impl_Term x := by
  simp only [e_s_s_impl_Term, share_s, @shares_map _ e_s_impl_Term e_s_impl_Term (fun _ => sh_e_s_impl_Term _)]
theorem sh_u_s_s_impl_Term (x : List (List impl_Term)) : (u_s_s_impl_Term x).share = e_s_s_impl_Term x := by
  simp only [u_s_s_impl_Term, e_s_s_impl_Term, share_s, @shares_map _ u_s_impl_Term e_s_impl_Term (fun _ => sh_u_s_impl_Term _)]
theorem ns_u_s_s_impl_Term (x : List (List impl_Term)) : (u_s_s_impl_Term x).nosh = true := by
  simp only [u_s_s_impl_Term, AV.nosh, AV.noshs, Bool.and_self, @noshs_map _ u_s_impl_Term (fun _ => ns_u_s_impl_Term _)]
def u_impl_Linear (x : impl_Linear) : AV := .agg [.int .i64 x.Parameters, .uslice 1 (x.Start.map e_i64), .uslice 5 (x.Summands.map u_impl_Summand)]
def e_impl_Linear (x : impl_Linear) : AV := .agg [.int .i64 x.Parameters, .slice (x.Start.map e_i64), .slice (x.Summands.map e_impl_Summand)]
theorem sh_e_impl_Linear (x : impl_Linear) : (e_impl_Linear x).share = e_impl_Linear x := by
  simp only [e_impl_Linear, share_s, @shares_map _ e_i64 e_i64 (fun _ => sh_e_i64 _), @shares_map _ e_impl_Summand e_impl_Summand (fun _ => sh_e_impl_Summand _)]
theorem sh_u_impl_Linear (x : impl_Linear) : (u_impl_Linear x).share = e_impl_Linear x := by
  simp only [u_impl_Linear, e_impl_Linear, share_s, @shares_map _ e_i64 e_i64 (fun _ => sh_e_i64 _), @shares_map _ u_impl_Summand e_impl_Summand (fun _ => sh_u_impl_Summand _)]
theorem ns_u_impl_Linear (x : impl_Linear) : (u_impl_Linear x).nosh = true := by
  simp only [u_impl_Linear, AV.nosh, AV.noshs, Bool.and_self, @noshs_map _ e_i64 (fun _ => ns_e_i64 _), @noshs_map _ u_impl_Summand (fun _ => ns_u_impl_Summand _)]
def u_s_impl_Summand (x : List impl_Summand) : AV := .uslice 5 (x.map u_impl_Summand)
def e_s_impl_Summand (x : List impl_Summand) : AV := .slice (x.map e_impl_Summand)
theorem sh_e_s_impl_Summand (x : List impl_Summand) : (e_s_impl_Summand x).share = e_s_impl_Summand x := by
  simp only [e_s_impl_Summand, share_s, @shares_map _ e_impl_Summand e_impl_Summand (fun _ => sh_e_impl_Summand _)]
theorem sh_u_s_impl_Summand (x : List impl_Summand) : (u_s_impl_Summand x).share = e_s_impl_Summand x := by
  simp only [u_s_impl_Summand, e_s_impl_Summand, share_s, @shares_map _ u_impl_Summand e_impl_Summand (fun _ => sh_u_impl_Summand _)]
theorem ns_u_s_impl_Summand (x : List impl_Summand) : (u_s_impl_Summand x).nosh = true := by
  simp only [u_s_impl_Summand, AV.nosh, AV.noshs, Bool.and_self, @noshs_map _ u_impl_Summand (fun _ => ns_u_impl_Summand _)]
def e_bool (x : Bool) : AV := .bool x
theorem sh_e_bool (x : Bool) : (e_bool x).share = e_bool x := by
  simp only [e_bool, share_s]
theorem ns_e_bool (x : Bool) : (e_bool x).nosh = true := by
  simp only [e_bool, AV.nosh, AV.noshs, Bool.and_self]

def c148_8 : SC := .seq (.reg [ro 4 (.asg (.c (.int .i64 (-1))))] (some [4])) .ret
def c148_7 : SC := .cond (.t 10) c148_8 .skip
def c148_12 : SC := .seq (.reg [ro 11 (.mv (.t 1)),
  ro 4 (.asg (.t 11))] (some [4])) .ret
def c148_4 : SC := .seq (.seq (.reg [ro 9 (.mv (.t 1)),
  ro 10 (.bn .lss 3 (.t 9) (.c (.int .i64 0)))] (some [1, 10])) c148_7) c148_12
def c148_2 : SC := .seq (.reg [ro 5 (.mv (.t 1)),
  ro 6 (.mv (.t 0)),
  ro 7 (.len 68 (.t 6)),
  ro 8 (.bn .sub 3 (.t 5) (.t 7)),
  ro 1 (.asg (.t 8))] (some [1])) c148_4
/-- loop.example/g01075/laws.szInt64S -/
def c148 : SC := .seq (.reg [ro 4 (.asg (.c (.int .i64 0)))] (some [0, 1])) c148_2
theorem s148 : slimC ⟨12, [0]⟩ (Try.f148.body.getD .skip) = some c148.strip := by kernel_rfl

def c31_8 : SC := .seq (.reg [ro 4 (.asg (.c (.int .i64 (-1))))] (some [4])) .ret
def c31_7 : SC := .cond (.t 10) c31_8 .skip
def c31_12 : SC := .seq (.reg [ro 11 (.mv (.t 1)),
  ro 4 (.asg (.t 11))] (some [4])) .ret
def c31_4 : SC := .seq (.seq (.reg [ro 9 (.mv (.t 1)),
  ro 10 (.bn .lss 3 (.t 9) (.c (.int .i64 0)))] (some [1, 10])) c31_7) c31_12
def c31_2 : SC := .seq (.reg [ro 5 (.mv (.t 1)),
  ro 6 (.mv (.t 0)),
  ro 7 (.len 36 (.t 6)),
  ro 8 (.bn .sub 3 (.t 5) (.t 7)),
  ro 1 (.asg (.t 8))] (some [1])) c31_4
/-- loop.example/g01075/laws.szTermS -/
def c31 : SC := .seq (.reg [ro 4 (.asg (.c (.int .i64 0)))] (some [0, 1])) c31_2
theorem s31 : slimC ⟨12, [0]⟩ (Try.f31.body.getD .skip) = some c31.strip := by kernel_rfl

def c287_8 : SC := .seq (.reg [ro 4 (.asg (.c (.int .i64 (-1))))] (some [4])) .ret
def c287_7 : SC := .cond (.t 11) c287_8 .skip
def c287_20 : SC := .cond (.t 15) .skip (.exit 0)
def c287_30 : SC := .seq (.reg [ro 4 (.asg (.c (.int .i64 (-1))))] (some [4])) .ret
def c287_29 : SC := .cond (.t 25) c287_30 .skip
def c287_27 : SC := .seq (.reg [ro 24 (.mv (.t 1)),
  ro 25 (.bn .lss 3 (.t 24) (.c (.int .i64 0)))] (some [0, 1, 5, 25])) c287_29
def c287_34 : SC := .reg [ro 16 (.mv (.t 5)),
  ro 17 (.bn .add 3 (.t 16) (.c (.int .i64 1))),
  ro 5 (.asg (.t 17))] (some [0, 1, 5])
def c287_23 : SC := .seq (.block 1 (.seq (.reg [ro 18 (.mv (.t 0)),
  ro 19 (.mv (.t 5)),
  ro 20 (.ia 260 (.t 18) (.t 19)),
  ro 21 (.ld 36 (.t 20)),
  ro 22 (.mv (.t 1)),
  ro 23 (.call (.f 31) [(.t 21), (.t 22)]),
  ro 1 (.asg (.t 23))] (some [0, 1, 5])) c287_27)) c287_34
def c287_17 : SC := .seq (.seq (.reg [ro 12 (.mv (.t 5)),
  ro 13 (.mv (.t 0)),
  ro 14 (.len 260 (.t 13)),
  ro 15 (.bn .lss 3 (.t 12) (.t 14))] (some [0, 1, 5, 15])) c287_20) c287_23
def c287_15 : SC := .block 0 (.loop c287_17)
def c287_35 : SC := .seq (.reg [ro 26 (.mv (.t 1)),
  ro 4 (.asg (.t 26))] (some [4])) .ret
def c287_12 : SC := .seq (.seq (.reg [ro 5 (.asg (.c (.int .i64 0)))] (some [0, 1, 5])) c287_15) c287_35
def c287_4 : SC := .seq (.seq (.reg [ro 10 (.mv (.t 1)),
  ro 11 (.bn .lss 3 (.t 10) (.c (.int .i64 0)))] (some [0, 1, 11])) c287_7) c287_12
def c287_2 : SC := .seq (.reg [ro 6 (.mv (.t 1)),
  ro 7 (.mv (.t 0)),
  ro 8 (.len 260 (.t 7)),
  ro 9 (.bn .sub 3 (.t 6) (.t 8)),
  ro 1 (.asg (.t 9))] (some [0, 1])) c287_4
/-- loop.example/g01075/laws.szTermSS -/
def c287 : SC := .seq (.reg [ro 4 (.asg (.c (.int .i64 0)))] (some [0, 1])) c287_2
theorem s287 : slimC ⟨27, [0]⟩ (Try.f287.body.getD .skip) = some c287.strip := by kernel_rfl

def c230_8 : SC := .seq (.reg [ro 4 (.asg (.c (.int .i64 (-1))))] (some [4])) .ret
def c230_7 : SC := .cond (.t 10) c230_8 .skip
def c230_18 : SC := .seq (.reg [ro 4 (.asg (.c (.int .i64 (-1))))] (some [4])) .ret
def c230_17 : SC := .cond (.t 16) c230_18 .skip
def c230_28 : SC := .seq (.reg [ro 4 (.asg (.c (.int .i64 (-1))))] (some [4])) .ret
def c230_27 : SC := .cond (.t 23) c230_28 .skip
def c230_38 : SC := .seq (.reg [ro 4 (.asg (.c (.int .i64 (-1))))] (some [4])) .ret
def c230_37 : SC := .cond (.t 29) c230_38 .skip
def c230_48 : SC := .seq (.reg [ro 4 (.asg (.c (.int .i64 (-1))))] (some [4])) .ret
def c230_47 : SC := .cond (.t 35) c230_48 .skip
def c230_52 : SC := .seq (.reg [ro 36 (.mv (.t 1)),
  ro 4 (.asg (.t 36))] (some [4])) .ret
def c230_44 : SC := .seq (.seq (.reg [ro 34 (.mv (.t 1)),
  ro 35 (.bn .lss 3 (.t 34) (.c (.int .i64 0)))] (some [1, 35])) c230_47) c230_52
def c230_42 : SC := .seq (.reg [ro 30 (.fa 262 (.t 2) 4),
  ro 31 (.ld 260 (.t 30)),
  ro 32 (.mv (.t 1)),
  ro 33 (.call (.f 287) [(.t 31), (.t 32)]),
  ro 1 (.asg (.t 33))] (some [1])) c230_44
def c230_34 : SC := .seq (.seq (.reg [ro 28 (.mv (.t 1)),
  ro 29 (.bn .lss 3 (.t 28) (.c (.int .i64 0)))] (some [1, 2, 29])) c230_37) c230_42
def c230_32 : SC := .seq (.reg [ro 24 (.fa 262 (.t 2) 3),
  ro 25 (.ld 260 (.t 24)),
  ro 26 (.mv (.t 1)),
  ro 27 (.call (.f 287) [(.t 25), (.t 26)]),
  ro 1 (.asg (.t 27))] (some [1, 2])) c230_34
def c230_24 : SC := .seq (.seq (.reg [ro 22 (.mv (.t 1)),
  ro 23 (.bn .lss 3 (.t 22) (.c (.int .i64 0)))] (some [1, 2, 23])) c230_27) c230_32
def c230_22 : SC := .seq (.reg [ro 17 (.mv (.t 1)),
  ro 18 (.fa 262 (.t 2) 2),
  ro 19 (.ld 9 (.t 18)),
  ro 20 (.len 9 (.t 19)),
  ro 21 (.bn .sub 3 (.t 17) (.t 20)),
  ro 1 (.asg (.t 21))] (some [1, 2])) c230_24
def c230_14 : SC := .seq (.seq (.reg [ro 15 (.mv (.t 1)),
  ro 16 (.bn .lss 3 (.t 15) (.c (.int .i64 0)))] (some [1, 2, 16])) c230_17) c230_22
def c230_12 : SC := .seq (.reg [ro 11 (.fa 262 (.t 2) 1),
  ro 12 (.ld 36 (.t 11)),
  ro 13 (.mv (.t 1)),
  ro 14 (.call (.f 31) [(.t 12), (.t 13)]),
  ro 1 (.asg (.t 14))] (some [1, 2])) c230_14
def c230_4 : SC := .seq (.seq (.reg [ro 9 (.mv (.t 1)),
  ro 10 (.bn .lss 3 (.t 9) (.c (.int .i64 0)))] (some [1, 2, 10])) c230_7) c230_12
def c230_2 : SC := .seq (.reg [ro 5 (.fa 262 (.t 2) 0),
  ro 6 (.ld 68 (.t 5)),
  ro 7 (.mv (.t 1)),
  ro 8 (.call (.f 148) [(.t 6), (.t 7)]),
  ro 1 (.asg (.t 8))] (some [1, 2])) c230_4
/-- loop.example/g01075/laws.szSummand -/
def c230 : SC := .seq (.reg [ro 2 (.bx 262 (.t 0)),
  ro 4 (.asg (.c (.int .i64 0)))] (some [1, 2])) c230_2
theorem s230 : slimC ⟨37, [0]⟩ (Try.f230.body.getD .skip) = some c230.strip := by kernel_rfl

def c152_8 : SC := .seq (.reg [ro 4 (.asg (.c (.int .i64 (-1))))] (some [4])) .ret
def c152_7 : SC := .cond (.t 11) c152_8 .skip
def c152_20 : SC := .cond (.t 15) .skip (.exit 0)
def c152_30 : SC := .seq (.reg [ro 4 (.asg (.c (.int .i64 (-1))))] (some [4])) .ret
def c152_29 : SC := .cond (.t 25) c152_30 .skip
def c152_27 : SC := .seq (.reg [ro 24 (.mv (.t 1)),
  ro 25 (.bn .lss 3 (.t 24) (.c (.int .i64 0)))] (some [0, 1, 5, 25])) c152_29
def c152_34 : SC := .reg [ro 16 (.mv (.t 5)),
  ro 17 (.bn .add 3 (.t 16) (.c (.int .i64 1))),
  ro 5 (.asg (.t 17))] (some [0, 1, 5])
def c152_23 : SC := .seq (.block 1 (.seq (.reg [ro 18 (.mv (.t 0)),
  ro 19 (.mv (.t 5)),
  ro 20 (.ia 84 (.t 18) (.t 19)),
  ro 21 (.ld 262 (.t 20)),
  ro 22 (.mv (.t 1)),
  ro 23 (.call (.f 230) [(.t 21), (.t 22)]),
  ro 1 (.asg (.t 23))] (some [0, 1, 5])) c152_27)) c152_34
def c152_17 : SC := .seq (.seq (.reg [ro 12 (.mv (.t 5)),
  ro 13 (.mv (.t 0)),
  ro 14 (.len 84 (.t 13)),
  ro 15 (.bn .lss 3 (.t 12) (.t 14))] (some [0, 1, 5, 15])) c152_20) c152_23
def c152_15 : SC := .block 0 (.loop c152_17)
def c152_35 : SC := .seq (.reg [ro 26 (.mv (.t 1)),
  ro 4 (.asg (.t 26))] (some [4])) .ret
def c152_12 : SC := .seq (.seq (.reg [ro 5 (.asg (.c (.int .i64 0)))] (some [0, 1, 5])) c152_15) c152_35
def c152_4 : SC := .seq (.seq (.reg [ro 10 (.mv (.t 1)),
  ro 11 (.bn .lss 3 (.t 10) (.c (.int .i64 0)))] (some [0, 1, 11])) c152_7) c152_12
def c152_2 : SC := .seq (.reg [ro 6 (.mv (.t 1)),
  ro 7 (.mv (.t 0)),
  ro 8 (.len 84 (.t 7)),
  ro 9 (.bn .sub 3 (.t 6) (.t 8)),
  ro 1 (.asg (.t 9))] (some [0, 1])) c152_4
/-- loop.example/g01075/laws.szSummandS -/
def c152 : SC := .seq (.reg [ro 4 (.asg (.c (.int .i64 0)))] (some [0, 1])) c152_2
theorem s152 : slimC ⟨27, [0]⟩ (Try.f152.body.getD .skip) = some c152.strip := by kernel_rfl

def c72_8 : SC := .seq (.reg [ro 4 (.asg (.c (.int .i64 (-1))))] (some [4])) .ret
def c72_7 : SC := .cond (.t 10) c72_8 .skip
def c72_18 : SC := .seq (.reg [ro 4 (.asg (.c (.int .i64 (-1))))] (some [4])) .ret
def c72_17 : SC := .cond (.t 16) c72_18 .skip
def c72_22 : SC := .seq (.reg [ro 17 (.mv (.t 1)),
  ro 4 (.asg (.t 17))] (some [4])) .ret
def c72_14 : SC := .seq (.seq (.reg [ro 15 (.mv (.t 1)),
  ro 16 (.bn .lss 3 (.t 15) (.c (.int .i64 0)))] (some [1, 16])) c72_17) c72_22
def c72_12 : SC := .seq (.reg [ro 11 (.fa 86 (.t 2) 2),
  ro 12 (.ld 84 (.t 11)),
  ro 13 (.mv (.t 1)),
  ro 14 (.call (.f 152) [(.t 12), (.t 13)]),
  ro 1 (.asg (.t 14))] (some [1])) c72_14
def c72_4 : SC := .seq (.seq (.reg [ro 9 (.mv (.t 1)),
  ro 10 (.bn .lss 3 (.t 9) (.c (.int .i64 0)))] (some [1, 2, 10])) c72_7) c72_12
def c72_2 : SC := .seq (.reg [ro 5 (.fa 86 (.t 2) 1),
  ro 6 (.ld 68 (.t 5)),
  ro 7 (.mv (.t 1)),
  ro 8 (.call (.f 148) [(.t 6), (.t 7)]),
  ro 1 (.asg (.t 8))] (some [1, 2])) c72_4
/-- loop.example/g01075/laws.szLinear -/
def c72 : SC := .seq (.reg [ro 2 (.bx 86 (.t 0)),
  ro 4 (.asg (.c (.int .i64 0)))] (some [1, 2])) c72_2
theorem s72 : slimC ⟨18, [0]⟩ (Try.f72.body.getD .skip) = some c72.strip := by kernel_rfl

def c150_12 : SC := .cond (.t 11) .skip (.exit 0)
def c150_18 : SC := .reg [ro 12 (.mv (.t 4)),
  ro 13 (.bn .add 3 (.t 12) (.c (.int .i64 1))),
  ro 4 (.asg (.t 13))] (some [0, 3, 4])
def c150_15 : SC := .seq (.block 1 (.reg [ro 14 (.mv (.t 3)),
  ro 15 (.mv (.t 4)),
  ro 16 (.mv (.t 0)),
  ro 17 (.mv (.t 4)),
  ro 18 (.ia 68 (.t 16) (.t 17)),
  ro 19 (.ld 2 (.t 18)),
  ro 20 (.ia 68 (.t 14) (.t 15)),
  ⟨none, .sto 2 (.t 20) (.t 19), none⟩] (some [0, 3, 4]))) c150_18
def c150_9 : SC := .seq (.seq (.reg [ro 8 (.mv (.t 4)),
  ro 9 (.mv (.t 0)),
  ro 10 (.len 68 (.t 9)),
  ro 11 (.bn .lss 3 (.t 8) (.t 10))] (some [0, 3, 4, 11])) c150_12) c150_15
def c150_7 : SC := .block 0 (.loop c150_9)
def c150_19 : SC := .seq (.reg [ro 21 (.mv (.t 3)),
  ro 2 (.asg (.t 21))] (some [2])) .ret
def c150_4 : SC := .seq (.seq (.reg [ro 4 (.asg (.c (.int .i64 0)))] (some [0, 3, 4])) c150_7) c150_19
def c150_2 : SC := .seq (.reg [ro 5 (.mv (.t 0)),
  ro 6 (.len 68 (.t 5)),
  ro 7 (.mks 68 (.t 6) (.t 6)),
  ro 3 (.asg (.t 7))] (some [0, 3])) c150_4
/-- loop.example/g01075/laws.toInt64S -/
def c150 : SC := .seq (.reg [ro 2 (.asg (.c .nils))] (some [0])) c150_2
theorem s150 : slimC ⟨22, [0]⟩ (Try.f150.body.getD .skip) = some c150.strip := by kernel_rfl

def c107_8 : SC := .seq (.reg [ro 10 (.ld 131 (.t 3)),
  ⟨none, .sto 131 (.t 2) (.t 10), none⟩] (some [2])) .ret
def c107_6 : SC := .seq (.reg [ro 7 (.fa 133 (.t 1) 1),
  ro 8 (.ld 2 (.t 7)),
  ro 9 (.fa 131 (.t 3) 1),
  ⟨none, .sto 2 (.t 9) (.t 8), none⟩] (some [2, 3])) c107_8
def c107_4 : SC := .seq (.reg [ro 4 (.fa 133 (.t 1) 0),
  ro 5 (.ld 2 (.t 4)),
  ro 6 (.fa 131 (.t 3) 0),
  ⟨none, .sto 2 (.t 6) (.t 5), none⟩] (some [1, 2, 3])) c107_6
def c107_2 : SC := .seq (.reg [ro 3 (.alc 131)] (some [1, 2, 3])) c107_4
/-- loop.example/g01075/laws.toTerm -/
def c107 : SC := .seq (.reg [ro 1 (.bx 133 (.t 0)),
  ro 2 (.alc 131)] (some [1, 2])) c107_2
theorem s107 : slimC ⟨11, [0]⟩ (Try.f107.body.getD .skip) = some c107.strip := by kernel_rfl

def c33_12 : SC := .cond (.t 11) .skip (.exit 0)
def c33_18 : SC := .reg [ro 12 (.mv (.t 4)),
  ro 13 (.bn .add 3 (.t 12) (.c (.int .i64 1))),
  ro 4 (.asg (.t 13))] (some [0, 3, 4])
def c33_15 : SC := .seq (.block 1 (.reg [ro 14 (.mv (.t 3)),
  ro 15 (.mv (.t 4)),
  ro 16 (.mv (.t 0)),
  ro 17 (.mv (.t 4)),
  ro 18 (.ia 36 (.t 16) (.t 17)),
  ro 19 (.ld 133 (.t 18)),
  ro 20 (.call (.f 107) [(.t 19)]),
  ro 21 (.ia 40 (.t 14) (.t 15)),
  ⟨none, .sto 131 (.t 21) (.t 20), none⟩] (some [0, 3, 4]))) c33_18
def c33_9 : SC := .seq (.seq (.reg [ro 8 (.mv (.t 4)),
  ro 9 (.mv (.t 0)),
  ro 10 (.len 36 (.t 9)),
  ro 11 (.bn .lss 3 (.t 8) (.t 10))] (some [0, 3, 4, 11])) c33_12) c33_15
def c33_7 : SC := .block 0 (.loop c33_9)
def c33_19 : SC := .seq (.reg [ro 22 (.mv (.t 3)),
  ro 2 (.asg (.t 22))] (some [2])) .ret
def c33_4 : SC := .seq (.seq (.reg [ro 4 (.asg (.c (.int .i64 0)))] (some [0, 3, 4])) c33_7) c33_19
def c33_2 : SC := .seq (.reg [ro 5 (.mv (.t 0)),
  ro 6 (.len 36 (.t 5)),
  ro 7 (.mks 40 (.t 6) (.t 6)),
  ro 3 (.asg (.t 7))] (some [0, 3])) c33_4
/-- loop.example/g01075/laws.toTermS -/
def c33 : SC := .seq (.reg [ro 2 (.asg (.c .nils))] (some [0])) c33_2
theorem s33 : slimC ⟨23, [0]⟩ (Try.f33.body.getD .skip) = some c33.strip := by kernel_rfl

def c290_12 : SC := .cond (.t 11) .skip (.exit 0)
def c290_18 : SC := .reg [ro 12 (.mv (.t 4)),
  ro 13 (.bn .add 3 (.t 12) (.c (.int .i64 1))),
  ro 4 (.asg (.t 13))] (some [0, 3, 4])
def c290_15 : SC := .seq (.block 1 (.reg [ro 14 (.mv (.t 3)),
  ro 15 (.mv (.t 4)),
  ro 16 (.mv (.t 0)),
  ro 17 (.mv (.t 4)),
  ro 18 (.ia 260 (.t 16) (.t 17)),
  ro 19 (.ld 36 (.t 18)),
  ro 20 (.call (.f 33) [(.t 19)]),
  ro 21 (.ia 195 (.t 14) (.t 15)),
  ⟨none, .sto 40 (.t 21) (.t 20), none⟩] (some [0, 3, 4]))) c290_18
def c290_9 : SC := .seq (.seq (.reg [ro 8 (.mv (.t 4)),
  ro 9 (.mv (.t 0)),
  ro 10 (.len 260 (.t 9)),
  ro 11 (.bn .lss 3 (.t 8) (.t 10))] (some [0, 3, 4, 11])) c290_12) c290_15
def c290_7 : SC := .block 0 (.loop c290_9)
def c290_19 : SC := .seq (.reg [ro 22 (.mv (.t 3)),
  ro 2 (.asg (.t 22))] (some [2])) .ret
def c290_4 : SC := .seq (.seq (.reg [ro 4 (.asg (.c (.int .i64 0)))] (some [0, 3, 4])) c290_7) c290_19
def c290_2 : SC := .seq (.reg [ro 5 (.mv (.t 0)),
  ro 6 (.len 260 (.t 5)),
  ro 7 (.mks 195 (.t 6) (.t 6)),
  ro 3 (.asg (.t 7))] (some [0, 3])) c290_4
/-- loop.example/g01075/laws.toTermSS -/
def c290 : SC := .seq (.reg [ro 2 (.asg (.c .nils))] (some [0])) c290_2
theorem s290 : slimC ⟨23, [0]⟩ (Try.f290.body.getD .skip) = some c290.strip := by kernel_rfl

def c233_14 : SC := .seq (.reg [ro 23 (.ld 197 (.t 3)),
  ⟨none, .sto 197 (.t 2) (.t 23), none⟩] (some [2])) .ret
def c233_12 : SC := .seq (.reg [ro 19 (.fa 262 (.t 1) 4),
  ro 20 (.ld 260 (.t 19)),
  ro 21 (.call (.f 290) [(.t 20)]),
  ro 22 (.fa 197 (.t 3) 4),
  ⟨none, .sto 195 (.t 22) (.t 21), none⟩] (some [2, 3])) c233_14
def c233_10 : SC := .seq (.reg [ro 15 (.fa 262 (.t 1) 3),
  ro 16 (.ld 260 (.t 15)),
  ro 17 (.call (.f 290) [(.t 16)]),
  ro 18 (.fa 197 (.t 3) 3),
  ⟨none, .sto 195 (.t 18) (.t 17), none⟩] (some [1, 2, 3])) c233_12
def c233_8 : SC := .seq (.reg [ro 12 (.fa 262 (.t 1) 2),
  ro 13 (.ld 9 (.t 12)),
  ro 14 (.fa 197 (.t 3) 2),
  ⟨none, .sto 9 (.t 14) (.t 13), none⟩] (some [1, 2, 3])) c233_10
def c233_6 : SC := .seq (.reg [ro 8 (.fa 262 (.t 1) 1),
  ro 9 (.ld 36 (.t 8)),
  ro 10 (.call (.f 33) [(.t 9)]),
  ro 11 (.fa 197 (.t 3) 1),
  ⟨none, .sto 40 (.t 11) (.t 10), none⟩] (some [1, 2, 3])) c233_8
def c233_4 : SC := .seq (.reg [ro 4 (.fa 262 (.t 1) 0),
  ro 5 (.ld 68 (.t 4)),
  ro 6 (.call (.f 150) [(.t 5)]),
  ro 7 (.fa 197 (.t 3) 0),
  ⟨none, .sto 68 (.t 7) (.t 6), none⟩] (some [1, 2, 3])) c233_6
def c233_2 : SC := .seq (.reg [ro 3 (.alc 197)] (some [1, 2, 3])) c233_4
/-- loop.example/g01075/laws.toSummand -/
def c233 : SC := .seq (.reg [ro 1 (.bx 262 (.t 0)),
  ro 2 (.alc 197)] (some [1, 2])) c233_2
theorem s233 : slimC ⟨24, [0]⟩ (Try.f233.body.getD .skip) = some c233.strip := by kernel_rfl

def c159_12 : SC := .cond (.t 11) .skip (.exit 0)
def c159_18 : SC := .reg [ro 12 (.mv (.t 4)),
  ro 13 (.bn .add 3 (.t 12) (.c (.int .i64 1))),
  ro 4 (.asg (.t 13))] (some [0, 3, 4])
def c159_15 : SC := .seq (.block 1 (.reg [ro 14 (.mv (.t 3)),
  ro 15 (.mv (.t 4)),
  ro 16 (.mv (.t 0)),
  ro 17 (.mv (.t 4)),
  ro 18 (.ia 84 (.t 16) (.t 17)),
  ro 19 (.ld 262 (.t 18)),
  ro 20 (.call (.f 233) [(.t 19)]),
  ro 21 (.ia 88 (.t 14) (.t 15)),
  ⟨none, .sto 197 (.t 21) (.t 20), none⟩] (some [0, 3, 4]))) c159_18
def c159_9 : SC := .seq (.seq (.reg [ro 8 (.mv (.t 4)),
  ro 9 (.mv (.t 0)),
  ro 10 (.len 84 (.t 9)),
  ro 11 (.bn .lss 3 (.t 8) (.t 10))] (some [0, 3, 4, 11])) c159_12) c159_15
def c159_7 : SC := .block 0 (.loop c159_9)
def c159_19 : SC := .seq (.reg [ro 22 (.mv (.t 3)),
  ro 2 (.asg (.t 22))] (some [2])) .ret
def c159_4 : SC := .seq (.seq (.reg [ro 4 (.asg (.c (.int .i64 0)))] (some [0, 3, 4])) c159_7) c159_19
def c159_2 : SC := .seq (.reg [ro 5 (.mv (.t 0)),
  ro 6 (.len 84 (.t 5)),
  ro 7 (.mks 88 (.t 6) (.t 6)),
  ro 3 (.asg (.t 7))] (some [0, 3])) c159_4
/-- loop.example/g01075/laws.toSummandS -/
def c159 : SC := .seq (.reg [ro 2 (.asg (.c .nils))] (some [0])) c159_2
theorem s159 : slimC ⟨23, [0]⟩ (Try.f159.body.getD .skip) = some c159.strip := by kernel_rfl

def c74_10 : SC := .seq (.reg [ro 15 (.ld 90 (.t 3)),
  ⟨none, .sto 90 (.t 2) (.t 15), none⟩] (some [2])) .ret
def c74_8 : SC := .seq (.reg [ro 11 (.fa 86 (.t 1) 2),
  ro 12 (.ld 84 (.t 11)),
  ro 13 (.call (.f 159) [(.t 12)]),
  ro 14 (.fa 90 (.t 3) 2),
  ⟨none, .sto 88 (.t 14) (.t 13), none⟩] (some [2, 3])) c74_10
def c74_6 : SC := .seq (.reg [ro 7 (.fa 86 (.t 1) 1),
  ro 8 (.ld 68 (.t 7)),
  ro 9 (.call (.f 150) [(.t 8)]),
  ro 10 (.fa 90 (.t 3) 1),
  ⟨none, .sto 68 (.t 10) (.t 9), none⟩] (some [1, 2, 3])) c74_8
def c74_4 : SC := .seq (.reg [ro 4 (.fa 86 (.t 1) 0),
  ro 5 (.ld 2 (.t 4)),
  ro 6 (.fa 90 (.t 3) 0),
  ⟨none, .sto 2 (.t 6) (.t 5), none⟩] (some [1, 2, 3])) c74_6
def c74_2 : SC := .seq (.reg [ro 3 (.alc 90)] (some [1, 2, 3])) c74_4
/-- loop.example/g01075/laws.toLinear -/
def c74 : SC := .seq (.reg [ro 1 (.bx 86 (.t 0)),
  ro 2 (.alc 90)] (some [1, 2])) c74_2
theorem s74 : slimC ⟨16, [0]⟩ (Try.f74.body.getD .skip) = some c74.strip := by kernel_rfl

def c130_2 : SC := .seq (.reg [ro 7 (.mv (.t 0)),
  ro 8 (.mv (.t 1)),
  ro 9 (.bn .geq 2 (.t 7) (.t 8)),
  ro 10 (.mv (.t 9)),
  ⟨some 11, .mv (.t 0), some (10, true)⟩,
  ⟨some 12, .mv (.t 2), some (10, true)⟩,
  ⟨some 13, .bn .leq 2 (.t 11) (.t 12), some (10, true)⟩,
  ro 14 (.pick (.t 10) (.t 13) (.c (.bool false))),
  ro 6 (.asg (.t 14))] (some [6])) .ret
/-- loop.example/g01075/spec.l00In -/
def c130 : SC := .seq (.reg [ro 6 (.asg (.c (.bool false)))] (some [0, 1, 2])) c130_2
theorem s130 : slimC ⟨15, [0, 1, 2]⟩ (Try.f130.body.getD .skip) = some c130.strip := by kernel_rfl

def c228_10 : SC := .cond (.t 7) .skip (.exit 0)
def c228_18 : SC := .seq (.reg [ro 2 (.asg (.c (.bool false)))] (some [2])) .ret
def c228_17 : SC := .cond (.t 15) c228_18 .skip
def c228_22 : SC := .reg [ro 8 (.mv (.t 3)),
  ro 9 (.bn .add 3 (.t 8) (.c (.int .i64 1))),
  ro 3 (.asg (.t 9))] (some [0, 3])
def c228_13 : SC := .seq (.block 1 (.seq (.reg [ro 10 (.mv (.t 0)),
  ro 11 (.mv (.t 3)),
  ro 12 (.ia 68 (.t 10) (.t 11)),
  ro 13 (.ld 2 (.t 12)),
  ro 14 (.call (.f 130) [(.t 13), (.c (.int .i64 0)), (.c (.int .i64 63))]),
  ro 15 (.un .not (.t 14))] (some [0, 3, 15])) c228_17)) c228_22
def c228_7 : SC := .seq (.seq (.reg [ro 4 (.mv (.t 3)),
  ro 5 (.mv (.t 0)),
  ro 6 (.len 68 (.t 5)),
  ro 7 (.bn .lss 3 (.t 4) (.t 6))] (some [0, 3, 7])) c228_10) c228_13
def c228_5 : SC := .block 0 (.loop c228_7)
def c228_23 : SC := .seq (.reg [ro 2 (.asg (.c (.bool true)))] (some [2])) .ret
def c228_2 : SC := .seq (.seq (.reg [ro 3 (.asg (.c (.int .i64 0)))] (some [0, 3])) c228_5) c228_23
/-- loop.example/g01075/spec.l03Data -/
def c228 : SC := .seq (.reg [ro 2 (.asg (.c (.bool false)))] (some [0])) c228_2
theorem s228 : slimC ⟨16, [0]⟩ (Try.f228.body.getD .skip) = some c228.strip := by kernel_rfl

def c231_2 : SC := .seq (.reg [ro 5 (.mv (.t 0)),
  ro 6 (.len 68 (.t 5)),
  ro 7 (.mv (.t 1)),
  ro 8 (.bn .eql 2 (.t 6) (.t 7)),
  ro 9 (.mv (.t 8)),
  ⟨some 10, .mv (.t 0), some (9, true)⟩,
  ⟨some 11, .call (.f 228) [(.t 10)], some (9, true)⟩,
  ro 12 (.pick (.t 9) (.t 11) (.c (.bool false))),
  ro 4 (.asg (.t 12))] (some [4])) .ret
/-- loop.example/g01075/spec.l08Data -/
def c231 : SC := .seq (.reg [ro 4 (.asg (.c (.bool false)))] (some [0, 1])) c231_2
theorem s231 : slimC ⟨13, [0, 1]⟩ (Try.f231.body.getD .skip) = some c231.strip := by kernel_rfl

def c154_6 : SC := .seq (.reg [ro 2 (.asg (.c (.int .i64 0)))] (some [2])) .ret
def c154_5 : SC := .cond (.t 7) c154_6 .skip
def c154_20 : SC := .cond (.t 11) .skip (.exit 0)
def c154_29 : SC := .seq (.reg [ro 2 (.asg (.c (.int .i64 0)))] (some [2])) .ret
def c154_28 : SC := .cond (.t 19) c154_29 .skip
def c154_33 : SC := .reg [ro 20 (.mv (.t 3)),
  ro 21 (.mv (.t 0)),
  ro 22 (.mv (.t 4)),
  ro 23 (.ia 68 (.t 21) (.t 22)),
  ro 24 (.ld 2 (.t 23)),
  ro 25 (.bn .add 2 (.t 24) (.c (.int .i64 1))),
  ro 26 (.bn .mul 2 (.t 20) (.t 25)),
  ro 3 (.asg (.t 26))] (some [0, 3, 4])
def c154_34 : SC := .reg [ro 12 (.mv (.t 4)),
  ro 13 (.bn .add 3 (.t 12) (.c (.int .i64 1))),
  ro 4 (.asg (.t 13))] (some [0, 3, 4])
def c154_23 : SC := .seq (.block 1 (.seq (.seq (.reg [ro 14 (.mv (.t 0)),
  ro 15 (.mv (.t 4)),
  ro 16 (.ia 68 (.t 14) (.t 15)),
  ro 17 (.ld 2 (.t 16)),
  ro 18 (.call (.f 130) [(.t 17), (.c (.int .i64 1)), (.c (.int .i64 7))]),
  ro 19 (.un .not (.t 18))] (some [0, 3, 4, 19])) c154_28) c154_33)) c154_34
def c154_17 : SC := .seq (.seq (.reg [ro 8 (.mv (.t 4)),
  ro 9 (.mv (.t 0)),
  ro 10 (.len 68 (.t 9)),
  ro 11 (.bn .lss 3 (.t 8) (.t 10))] (some [0, 3, 4, 11])) c154_20) c154_23
def c154_15 : SC := .block 0 (.loop c154_17)
def c154_39 : SC := .seq (.reg [ro 2 (.asg (.c (.int .i64 0)))] (some [2])) .ret
def c154_38 : SC := .cond (.t 28) c154_39 .skip
def c154_43 : SC := .seq (.reg [ro 29 (.mv (.t 3)),
  ro 2 (.asg (.t 29))] (some [2])) .ret
def c154_35 : SC := .seq (.seq (.reg [ro 27 (.mv (.t 3)),
  ro 28 (.bn .gtr 2 (.t 27) (.c (.int .i64 4096)))] (some [3, 28])) c154_38) c154_43
def c154_12 : SC := .seq (.seq (.reg [ro 4 (.asg (.c (.int .i64 0)))] (some [0, 3, 4])) c154_15) c154_35
def c154_10 : SC := .seq (.reg [ro 3 (.asg (.c (.int .i64 1)))] (some [0, 3])) c154_12
def c154_2 : SC := .seq (.seq (.reg [ro 5 (.mv (.t 0)),
  ro 6 (.len 68 (.t 5)),
  ro 7 (.bn .gtr 3 (.t 6) (.c (.int .i64 8)))] (some [0, 7])) c154_5) c154_10
/-- loop.example/g01075/spec.l08Tries -/
def c154 : SC := .seq (.reg [ro 2 (.asg (.c (.int .i64 0)))] (some [0])) c154_2
theorem s154 : slimC ⟨30, [0]⟩ (Try.f154.body.getD .skip) = some c154.strip := by kernel_rfl

def c268_9 : SC := .seq (.reg [ro 11 (.mv (.t 0)),
  ro 12 (.nilc (.t 11)),
  ro 13 (.fa 131 (.t 12) 1),
  ro 14 (.ld 2 (.t 13)),
  ro 15 (.call (.f 130) [(.t 14), (.c (.int .i64 0)), (.c (.int .i64 63))]),
  ro 4 (.asg (.t 15))] (some [4])) .ret
def c268_15 : SC := .seq (.reg [ro 18 (.mv (.t 0)),
  ro 19 (.nilc (.t 18)),
  ro 20 (.fa 131 (.t 19) 1),
  ro 21 (.ld 2 (.t 20)),
  ro 22 (.mv (.t 1)),
  ro 23 (.bn .sub 2 (.t 22) (.c (.int .i64 1))),
  ro 24 (.call (.f 130) [(.t 21), (.c (.int .i64 0)), (.t 23)]),
  ro 4 (.asg (.t 24))] (some [4])) .ret
def c268_21 : SC := .seq (.reg [ro 27 (.mv (.t 0)),
  ro 28 (.nilc (.t 27)),
  ro 29 (.fa 131 (.t 28) 1),
  ro 30 (.ld 2 (.t 29)),
  ro 31 (.call (.f 130) [(.t 30), (.c (.int .i64 0)), (.c (.int .i64 8))]),
  ro 4 (.asg (.t 31))] (some [4])) .ret
def c268_27 : SC := .seq (.reg [ro 34 (.mv (.t 0)),
  ro 35 (.nilc (.t 34)),
  ro 36 (.fa 131 (.t 35) 1),
  ro 37 (.ld 2 (.t 36)),
  ro 38 (.bn .eql 2 (.t 37) (.c (.int .i64 0))),
  ro 4 (.asg (.t 38))] (some [4])) .ret
def c268_26 : SC := .cond (.t 32) c268_27 .skip
def c268_24 : SC := .seq (.reg [ro 33 (.bn .eql 2 (.t 8) (.c (.int .i64 3))),
  ro 32 (.asg (.t 33))] (some [0, 32])) c268_26
def c268_20 : SC := .cond (.t 25) c268_21 c268_24
def c268_18 : SC := .seq (.reg [ro 26 (.bn .eql 2 (.t 8) (.c (.int .i64 2))),
  ro 25 (.asg (.t 26))] (some [0, 8, 25])) c268_20
def c268_14 : SC := .cond (.t 16) c268_15 c268_18
def c268_12 : SC := .seq (.reg [ro 17 (.bn .eql 2 (.t 8) (.c (.int .i64 1))),
  ro 16 (.asg (.t 17))] (some [0, 1, 8, 16])) c268_14
def c268_8 : SC := .cond (.t 9) c268_9 c268_12
def c268_5 : SC := .block 0 (.seq (.reg [ro 10 (.bn .eql 2 (.t 8) (.c (.int .i64 0))),
  ro 9 (.asg (.t 10))] (some [0, 1, 8, 9])) c268_8)
def c268_31 : SC := .seq (.reg [ro 4 (.asg (.c (.bool false)))] (some [4])) .ret
def c268_2 : SC := .seq (.seq (.reg [ro 5 (.mv (.t 0)),
  ro 6 (.nilc (.t 5)),
  ro 7 (.fa 131 (.t 6) 0),
  ro 8 (.ld 2 (.t 7))] (some [0, 1, 8])) c268_5) c268_31
/-- loop.example/g01075/spec.l03Term -/
def c268 : SC := .seq (.reg [ro 4 (.asg (.c (.bool false)))] (some [0, 1])) c268_2
theorem s268 : slimC ⟨39, [0, 1]⟩ (Try.f268.body.getD .skip) = some c268.strip := by kernel_rfl

def c196_9 : SC := .seq (.reg [ro 2 (.asg (.c (.int .i64 2)))] (some [2])) .ret
def c196_15 : SC := .seq (.reg [ro 2 (.asg (.c (.int .i64 1)))] (some [2])) .ret
def c196_14 : SC := .cond (.t 9) c196_15 .skip
def c196_12 : SC := .seq (.reg [ro 10 (.bn .eql 2 (.t 6) (.c (.int .i64 3))),
  ro 9 (.asg (.t 10))] (some [9])) c196_14
def c196_8 : SC := .cond (.t 7) c196_9 c196_12
def c196_5 : SC := .block 0 (.seq (.reg [ro 8 (.bn .eql 2 (.t 6) (.c (.int .i64 2))),
  ro 7 (.asg (.t 8))] (some [6, 7])) c196_8)
def c196_19 : SC := .seq (.reg [ro 2 (.asg (.c (.int .i64 0)))] (some [2])) .ret
def c196_2 : SC := .seq (.seq (.reg [ro 3 (.mv (.t 0)),
  ro 4 (.nilc (.t 3)),
  ro 5 (.fa 131 (.t 4) 0),
  ro 6 (.ld 2 (.t 5))] (some [6])) c196_5) c196_19
/-- loop.example/g01075/spec.l03Arity -/
def c196 : SC := .seq (.reg [ro 2 (.asg (.c (.int .i64 0)))] (some [0])) c196_2
theorem s196 : slimC ⟨11, [0]⟩ (Try.f196.body.getD .skip) = some c196.strip := by kernel_rfl

def c195_6 : SC := .seq (.reg [ro 6 (.asg (.c (.bool false)))] (some [6])) .ret
def c195_5 : SC := .cond (.t 12) c195_6 .skip
def c195_20 : SC := .cond (.t 16) .skip (.exit 0)
def c195_29 : SC := .seq (.reg [ro 6 (.asg (.c (.bool false)))] (some [6])) .ret
def c195_28 : SC := .cond (.t 28) c195_29 .skip
def c195_33 : SC := .reg [ro 29 (.mv (.t 7)),
  ro 30 (.mv (.t 0)),
  ro 31 (.mv (.t 8)),
  ro 32 (.ia 40 (.t 30) (.t 31)),
  ro 33 (.call (.f 196) [(.t 32)]),
  ro 34 (.bn .sub 2 (.t 33) (.c (.int .i64 1))),
  ro 35 (.bn .add 2 (.t 29) (.t 34)),
  ro 7 (.asg (.t 35))] (some [0, 1, 7, 8])
def c195_34 : SC := .reg [ro 17 (.mv (.t 8)),
  ro 18 (.bn .add 3 (.t 17) (.c (.int .i64 1))),
  ro 8 (.asg (.t 18))] (some [0, 1, 7, 8])
def c195_23 : SC := .seq (.block 1 (.seq (.seq (.reg [ro 19 (.mv (.t 7)),
  ro 20 (.bn .eql 2 (.t 19) (.c (.int .i64 0))),
  ro 21 (.mv (.t 20)),
  ⟨some 22, .mv (.t 0), some (21, false)⟩,
  ⟨some 23, .mv (.t 8), some (21, false)⟩,
  ⟨some 24, .ia 40 (.t 22) (.t 23), some (21, false)⟩,
  ⟨some 25, .mv (.t 1), some (21, false)⟩,
  ⟨some 26, .call (.f 268) [(.t 24), (.t 25)], some (21, false)⟩,
  ⟨some 27, .un .not (.t 26), some (21, false)⟩,
  ro 28 (.pick (.t 21) (.c (.bool true)) (.t 27))] (some [0, 1, 7, 8, 28])) c195_28) c195_33)) c195_34
def c195_17 : SC := .seq (.seq (.reg [ro 13 (.mv (.t 8)),
  ro 14 (.mv (.t 0)),
  ro 15 (.len 40 (.t 14)),
  ro 16 (.bn .lss 3 (.t 13) (.t 15))] (some [0, 1, 7, 8, 16])) c195_20) c195_23
def c195_15 : SC := .block 0 (.loop c195_17)
def c195_35 : SC := .seq (.reg [ro 36 (.mv (.t 7)),
  ro 37 (.bn .eql 2 (.t 36) (.c (.int .i64 0))),
  ro 6 (.asg (.t 37))] (some [6])) .ret
def c195_12 : SC := .seq (.seq (.reg [ro 8 (.asg (.c (.int .i64 0)))] (some [0, 1, 7, 8])) c195_15) c195_35
def c195_10 : SC := .seq (.reg [ro 7 (.asg (.c (.int .i64 1)))] (some [0, 1, 7])) c195_12
def c195_2 : SC := .seq (.seq (.reg [ro 9 (.mv (.t 0)),
  ro 10 (.len 40 (.t 9)),
  ro 11 (.mv (.t 2)),
  ro 12 (.bn .gtr 2 (.t 10) (.t 11))] (some [0, 1, 12])) c195_5) c195_10
/-- loop.example/g01075/spec.l03Is -/
def c195 : SC := .seq (.reg [ro 6 (.asg (.c (.bool false)))] (some [0, 1, 2])) c195_2
theorem s195 : slimC ⟨38, [0, 1, 2]⟩ (Try.f195.body.getD .skip) = some c195.strip := by kernel_rfl

def c289_10 : SC := .cond (.t 9) .skip (.exit 0)
def c289_18 : SC := .seq (.reg [ro 4 (.asg (.c (.bool false)))] (some [4])) .ret
def c289_17 : SC := .cond (.t 18) c289_18 .skip
def c289_22 : SC := .reg [ro 10 (.mv (.t 5)),
  ro 11 (.bn .add 3 (.t 10) (.c (.int .i64 1))),
  ro 5 (.asg (.t 11))] (some [0, 1, 5])
def c289_13 : SC := .seq (.block 1 (.seq (.reg [ro 12 (.mv (.t 0)),
  ro 13 (.mv (.t 5)),
  ro 14 (.ia 195 (.t 12) (.t 13)),
  ro 15 (.ld 40 (.t 14)),
  ro 16 (.mv (.t 1)),
  ro 17 (.call (.f 195) [(.t 15), (.t 16), (.c (.int .i64 60))]),
  ro 18 (.un .not (.t 17))] (some [0, 1, 5, 18])) c289_17)) c289_22
def c289_7 : SC := .seq (.seq (.reg [ro 6 (.mv (.t 5)),
  ro 7 (.mv (.t 0)),
  ro 8 (.len 195 (.t 7)),
  ro 9 (.bn .lss 3 (.t 6) (.t 8))] (some [0, 1, 5, 9])) c289_10) c289_13
def c289_5 : SC := .block 0 (.loop c289_7)
def c289_23 : SC := .seq (.reg [ro 4 (.asg (.c (.bool true)))] (some [4])) .ret
def c289_2 : SC := .seq (.seq (.reg [ro 5 (.asg (.c (.int .i64 0)))] (some [0, 1, 5])) c289_5) c289_23
/-- loop.example/g01075/spec.l08Each -/
def c289 : SC := .seq (.reg [ro 4 (.asg (.c (.bool false)))] (some [0, 1])) c289_2
theorem s289 : slimC ⟨19, [0, 1]⟩ (Try.f289.body.getD .skip) = some c289.strip := by kernel_rfl

def c208_2 : SC := .seq (.reg [ro 3 (.mv (.t 0)),
  ro 4 (.bn .geq 5 (.t 3) (.c (.int .u8 97))),
  ro 5 (.mv (.t 4)),
  ⟨some 6, .mv (.t 0), some (5, true)⟩,
  ⟨some 7, .bn .leq 5 (.t 6) (.c (.int .u8 122)), some (5, true)⟩,
  ro 8 (.pick (.t 5) (.t 7) (.c (.bool false))),
  ro 2 (.asg (.t 8))] (some [2])) .ret
/-- loop.example/g01075/spec.l01Small -/
def c208 : SC := .seq (.reg [ro 2 (.asg (.c (.bool false)))] (some [0])) c208_2
theorem s208 : slimC ⟨9, [0]⟩ (Try.f208.body.getD .skip) = some c208.strip := by kernel_rfl

def c209_2 : SC := .seq (.reg [ro 3 (.mv (.t 0)),
  ro 4 (.bn .geq 5 (.t 3) (.c (.int .u8 48))),
  ro 5 (.mv (.t 4)),
  ⟨some 6, .mv (.t 0), some (5, true)⟩,
  ⟨some 7, .bn .leq 5 (.t 6) (.c (.int .u8 57)), some (5, true)⟩,
  ro 8 (.pick (.t 5) (.t 7) (.c (.bool false))),
  ro 2 (.asg (.t 8))] (some [2])) .ret
/-- loop.example/g01075/spec.l01Digit -/
def c209 : SC := .seq (.reg [ro 2 (.asg (.c (.bool false)))] (some [0])) c209_2
theorem s209 : slimC ⟨9, [0]⟩ (Try.f209.body.getD .skip) = some c209.strip := by kernel_rfl

def c124_6 : SC := .seq (.reg [ro 2 (.asg (.c (.bool false)))] (some [2])) .ret
def c124_5 : SC := .cond (.t 16) c124_6 .skip
def c124_18 : SC := .cond (.t 20) .skip (.exit 0)
def c124_26 : SC := .seq (.reg [ro 2 (.asg (.c (.bool false)))] (some [2])) .ret
def c124_25 : SC := .cond (.t 34) c124_26 .skip
def c124_30 : SC := .reg [ro 21 (.mv (.t 3)),
  ro 22 (.bn .add 3 (.t 21) (.c (.int .i64 1))),
  ro 3 (.asg (.t 22))] (some [0, 3])
def c124_21 : SC := .seq (.block 1 (.seq (.reg [ro 23 (.mv (.t 0)),
  ro 24 (.mv (.t 3)),
  ro 25 (.idx 9 (.t 23) (.t 24)),
  ro 26 (.call (.f 208) [(.t 25)]),
  ro 27 (.un .not (.t 26)),
  ro 28 (.mv (.t 27)),
  ⟨some 29, .mv (.t 0), some (28, true)⟩,
  ⟨some 30, .mv (.t 3), some (28, true)⟩,
  ⟨some 31, .idx 9 (.t 29) (.t 30), some (28, true)⟩,
  ⟨some 32, .call (.f 209) [(.t 31)], some (28, true)⟩,
  ⟨some 33, .un .not (.t 32), some (28, true)⟩,
  ro 34 (.pick (.t 28) (.t 33) (.c (.bool false)))] (some [0, 3, 34])) c124_25)) c124_30
def c124_15 : SC := .seq (.seq (.reg [ro 17 (.mv (.t 3)),
  ro 18 (.mv (.t 0)),
  ro 19 (.len 9 (.t 18)),
  ro 20 (.bn .lss 3 (.t 17) (.t 19))] (some [0, 3, 20])) c124_18) c124_21
def c124_13 : SC := .block 0 (.loop c124_15)
def c124_31 : SC := .seq (.reg [ro 2 (.asg (.c (.bool true)))] (some [2])) .ret
def c124_10 : SC := .seq (.seq (.reg [ro 3 (.asg (.c (.int .i64 0)))] (some [0, 3])) c124_13) c124_31
def c124_2 : SC := .seq (.seq (.reg [ro 4 (.mv (.t 0)),
  ro 5 (.bn .eql 9 (.t 4) (.c (.str []))),
  ro 6 (.mv (.t 5)),
  ⟨some 7, .mv (.t 0), some (6, false)⟩,
  ⟨some 8, .len 9 (.t 7), some (6, false)⟩,
  ⟨some 9, .bn .gtr 3 (.t 8) (.c (.int .i64 10)), some (6, false)⟩,
  ro 10 (.pick (.t 6) (.c (.bool true)) (.t 9)),
  ro 11 (.mv (.t 10)),
  ⟨some 12, .mv (.t 0), some (11, false)⟩,
  ⟨some 13, .idx 9 (.t 12) (.c (.int .i64 0)), some (11, false)⟩,
  ⟨some 14, .call (.f 208) [(.t 13)], some (11, false)⟩,
  ⟨some 15, .un .not (.t 14), some (11, false)⟩,
  ro 16 (.pick (.t 11) (.c (.bool true)) (.t 15))] (some [0, 16])) c124_5) c124_10
/-- loop.example/g01075/spec.l01Name -/
def c124 : SC := .seq (.reg [ro 2 (.asg (.c (.bool false)))] (some [0])) c124_2
theorem s124 : slimC ⟨35, [0]⟩ (Try.f124.body.getD .skip) = some c124.strip := by kernel_rfl

def c288_2 : SC := .seq (.reg [ro 3 (.mv (.t 0)),
  ro 4 (.call (.f 124) [(.t 3)]),
  ro 5 (.mv (.t 4)),
  ⟨some 6, .mv (.t 0), some (5, true)⟩,
  ⟨some 7, .bn .neq 9 (.t 6) (.c (.str [116, 97, 117])), some (5, true)⟩,
  ro 8 (.pick (.t 5) (.t 7) (.c (.bool false))),
  ro 2 (.asg (.t 8))] (some [2])) .ret
/-- loop.example/g01075/spec.l01Action -/
def c288 : SC := .seq (.reg [ro 2 (.asg (.c (.bool false)))] (some [0])) c288_2
theorem s288 : slimC ⟨9, [0]⟩ (Try.f288.body.getD .skip) = some c288.strip := by kernel_rfl

def c232_6 : SC := .seq (.reg [ro 4 (.asg (.c (.bool false)))] (some [4])) .ret
def c232_5 : SC := .cond (.t 11) c232_6 .skip
def c232_16 : SC := .seq (.reg [ro 4 (.asg (.c (.bool false)))] (some [4])) .ret
def c232_15 : SC := .cond (.t 34) c232_16 .skip
def c232_24 : SC := .seq (.reg [ro 4 (.asg (.c (.bool false)))] (some [4])) .ret
def c232_23 : SC := .cond (.t 70) c232_24 .skip
def c232_28 : SC := .seq (.reg [ro 71 (.mv (.t 0)),
  ro 72 (.nilc (.t 71)),
  ro 73 (.fa 197 (.t 72) 3),
  ro 74 (.ld 195 (.t 73)),
  ro 75 (.mv (.t 5)),
  ro 76 (.call (.f 289) [(.t 74), (.t 75)]),
  ro 77 (.mv (.t 76)),
  ⟨some 78, .mv (.t 0), some (77, true)⟩,
  ⟨some 79, .nilc (.t 78), some (77, true)⟩,
  ⟨some 80, .fa 197 (.t 79) 4, some (77, true)⟩,
  ⟨some 81, .ld 195 (.t 80), some (77, true)⟩,
  ⟨some 82, .mv (.t 5), some (77, true)⟩,
  ⟨some 83, .call (.f 289) [(.t 81), (.t 82)], some (77, true)⟩,
  ro 84 (.pick (.t 77) (.t 83) (.c (.bool false))),
  ro 4 (.asg (.t 84))] (some [4])) .ret
def c232_20 : SC := .seq (.seq (.reg [ro 35 (.mv (.t 0)),
  ro 36 (.nilc (.t 35)),
  ro 37 (.fa 197 (.t 36) 2),
  ro 38 (.ld 9 (.t 37)),
  ro 39 (.bn .eql 9 (.t 38) (.c (.str [116, 97, 117]))),
  ro 40 (.mv (.t 39)),
  ⟨some 41, .mv (.t 0), some (40, true)⟩,
  ⟨some 42, .nilc (.t 41), some (40, true)⟩,
  ⟨some 43, .fa 197 (.t 42) 3, some (40, true)⟩,
  ⟨some 44, .ld 195 (.t 43), some (40, true)⟩,
  ⟨some 45, .len 195 (.t 44), some (40, true)⟩,
  ⟨some 46, .bn .gtr 3 (.t 45) (.c (.int .i64 0)), some (40, true)⟩,
  ro 47 (.pick (.t 40) (.t 46) (.c (.bool false))),
  ro 48 (.mv (.t 47)),
  ⟨some 49, .mv (.t 0), some (48, false)⟩,
  ⟨some 50, .nilc (.t 49), some (48, false)⟩,
  ⟨some 51, .fa 197 (.t 50) 2, some (48, false)⟩,
  ⟨some 52, .ld 9 (.t 51), some (48, false)⟩,
  ⟨some 53, .bn .neq 9 (.t 52) (.c (.str [116, 97, 117])), some (48, false)⟩,
  ⟨some 54, .mv (.t 53), some (48, false)⟩,
  ⟨some 55, .mv (.t 0), some (54, true)⟩,
  ⟨some 56, .nilc (.t 55), some (54, true)⟩,
  ⟨some 57, .fa 197 (.t 56) 2, some (54, true)⟩,
  ⟨some 58, .ld 9 (.t 57), some (54, true)⟩,
  ⟨some 59, .call (.f 288) [(.t 58)], some (54, true)⟩,
  ⟨some 60, .un .not (.t 59), some (54, true)⟩,
  ⟨some 61, .pick (.t 54) (.t 60) (.c (.bool false)), some (48, false)⟩,
  ro 62 (.pick (.t 48) (.c (.bool true)) (.t 61)),
  ro 63 (.mv (.t 62)),
  ⟨some 64, .mv (.t 0), some (63, false)⟩,
  ⟨some 65, .nilc (.t 64), some (63, false)⟩,
  ⟨some 66, .fa 197 (.t 65) 3, some (63, false)⟩,
  ⟨some 67, .ld 195 (.t 66), some (63, false)⟩,
  ⟨some 68, .len 195 (.t 67), some (63, false)⟩,
  ⟨some 69, .bn .gtr 3 (.t 68) (.c (.int .i64 2)), some (63, false)⟩,
  ro 70 (.pick (.t 63) (.c (.bool true)) (.t 69))] (some [0, 5, 70])) c232_23) c232_28
def c232_12 : SC := .seq (.seq (.reg [ro 19 (.mv (.t 0)),
  ro 20 (.nilc (.t 19)),
  ro 21 (.fa 197 (.t 20) 1),
  ro 22 (.ld 40 (.t 21)),
  ro 23 (.mv (.t 5)),
  ro 24 (.call (.f 195) [(.t 22), (.t 23), (.c (.int .i64 60))]),
  ro 25 (.un .not (.t 24)),
  ro 26 (.mv (.t 25)),
  ⟨some 27, .mv (.t 0), some (26, false)⟩,
  ⟨some 28, .nilc (.t 27), some (26, false)⟩,
  ⟨some 29, .fa 197 (.t 28) 4, some (26, false)⟩,
  ⟨some 30, .ld 195 (.t 29), some (26, false)⟩,
  ⟨some 31, .len 195 (.t 30), some (26, false)⟩,
  ⟨some 32, .mv (.t 1), some (26, false)⟩,
  ⟨some 33, .bn .neq 2 (.t 31) (.t 32), some (26, false)⟩,
  ro 34 (.pick (.t 26) (.c (.bool true)) (.t 33))] (some [0, 5, 34])) c232_15) c232_20
def c232_10 : SC := .seq (.reg [ro 12 (.mv (.t 1)),
  ro 13 (.mv (.t 0)),
  ro 14 (.nilc (.t 13)),
  ro 15 (.fa 197 (.t 14) 0),
  ro 16 (.ld 68 (.t 15)),
  ro 17 (.len 68 (.t 16)),
  ro 18 (.bn .add 2 (.t 12) (.t 17)),
  ro 5 (.asg (.t 18))] (some [0, 1, 5])) c232_12
def c232_2 : SC := .seq (.seq (.reg [ro 6 (.mv (.t 0)),
  ro 7 (.nilc (.t 6)),
  ro 8 (.fa 197 (.t 7) 0),
  ro 9 (.ld 68 (.t 8)),
  ro 10 (.call (.f 154) [(.t 9)]),
  ro 11 (.bn .eql 2 (.t 10) (.c (.int .i64 0)))] (some [0, 1, 11])) c232_5) c232_10
/-- loop.example/g01075/spec.l08Summand -/
def c232 : SC := .seq (.reg [ro 4 (.asg (.c (.bool false)))] (some [0, 1])) c232_2
theorem s232 : slimC ⟨85, [0, 1]⟩ (Try.f232.body.getD .skip) = some c232.strip := by kernel_rfl

def c153_6 : SC := .seq (.reg [ro 2 (.asg (.c (.bool false)))] (some [2])) .ret
def c153_5 : SC := .cond (.t 29) c153_6 .skip
def c153_18 : SC := .cond (.t 36) .skip (.exit 0)
def c153_26 : SC := .seq (.reg [ro 2 (.asg (.c (.bool false)))] (some [2])) .ret
def c153_25 : SC := .cond (.t 50) c153_26 .skip
def c153_30 : SC := .reg [ro 37 (.mv (.t 3)),
  ro 38 (.bn .add 3 (.t 37) (.c (.int .i64 1))),
  ro 3 (.asg (.t 38))] (some [0, 3])
def c153_21 : SC := .seq (.block 1 (.seq (.drw [ro 39 (.mv (.t 0)),
  ro 40 (.nilc (.t 39)),
  ro 41 (.fa 90 (.t 40) 2),
  ro 42 (.ld 88 (.t 41)),
  ro 43 (.mv (.t 3)),
  ro 44 (.ia 88 (.t 42) (.t 43)),
  ro 45 (.mv (.t 0)),
  ro 46 (.nilc (.t 45)),
  ro 47 (.fa 90 (.t 46) 0),
  ro 48 (.ld 2 (.t 47)),
  ro 49 (.call (.f 232) [(.t 44), (.t 48)]),
  ro 50 (.un .not (.t 49))] [[], [0], [1], [2], [], [3, 4], [], [6], [7], [8], [5, 9], [10]] (some [0, 3, 50])) c153_25)) c153_30
def c153_15 : SC := .seq (.seq (.reg [ro 30 (.mv (.t 3)),
  ro 31 (.mv (.t 0)),
  ro 32 (.nilc (.t 31)),
  ro 33 (.fa 90 (.t 32) 2),
  ro 34 (.ld 88 (.t 33)),
  ro 35 (.len 88 (.t 34)),
  ro 36 (.bn .lss 3 (.t 30) (.t 35))] (some [0, 3, 36])) c153_18) c153_21
def c153_13 : SC := .block 0 (.loop c153_15)
def c153_31 : SC := .seq (.reg [ro 2 (.asg (.c (.bool true)))] (some [2])) .ret
def c153_10 : SC := .seq (.seq (.reg [ro 3 (.asg (.c (.int .i64 0)))] (some [0, 3])) c153_13) c153_31
def c153_2 : SC := .seq (.seq (.drw [ro 4 (.mv (.t 0)),
  ro 5 (.nilc (.t 4)),
  ro 6 (.fa 90 (.t 5) 0),
  ro 7 (.ld 2 (.t 6)),
  ro 8 (.call (.f 130) [(.t 7), (.c (.int .i64 0)), (.c (.int .i64 21))]),
  ro 9 (.un .not (.t 8)),
  ro 10 (.mv (.t 9)),
  ⟨some 11, .mv (.t 0), some (10, false)⟩,
  ⟨some 12, .nilc (.t 11), some (10, false)⟩,
  ⟨some 13, .fa 90 (.t 12) 1, some (10, false)⟩,
  ⟨some 14, .ld 68 (.t 13), some (10, false)⟩,
  ⟨some 15, .mv (.t 0), some (10, false)⟩,
  ⟨some 16, .nilc (.t 15), some (10, false)⟩,
  ⟨some 17, .fa 90 (.t 16) 0, some (10, false)⟩,
  ⟨some 18, .ld 2 (.t 17), some (10, false)⟩,
  ⟨some 19, .call (.f 231) [(.t 14), (.t 18)], some (10, false)⟩,
  ⟨some 20, .un .not (.t 19), some (10, false)⟩,
  ro 21 (.pick (.t 10) (.c (.bool true)) (.t 20)),
  ro 22 (.mv (.t 21)),
  ⟨some 23, .mv (.t 0), some (22, false)⟩,
  ⟨some 24, .nilc (.t 23), some (22, false)⟩,
  ⟨some 25, .fa 90 (.t 24) 2, some (22, false)⟩,
  ⟨some 26, .ld 88 (.t 25), some (22, false)⟩,
  ⟨some 27, .len 88 (.t 26), some (22, false)⟩,
  ⟨some 28, .bn .gtr 3 (.t 27) (.c (.int .i64 60)), some (22, false)⟩,
  ro 29 (.pick (.t 22) (.c (.bool true)) (.t 28))] [[], [0], [1], [2], [3], [4], [5, 4], [6], [7, 6], [8, 6], [9, 6], [6], [11, 6], [12, 6], [13, 6], [10, 14, 6, 6], [15, 6], [6, 16], [17, 15], [18], [19, 18], [20, 18], [21, 18], [22, 18], [23, 18], [18, 24]] (some [0, 29])) c153_5) c153_10
/-- loop.example/g01075/spec.l08Is -/
def c153 : SC := .seq (.reg [ro 2 (.asg (.c (.bool false)))] (some [0])) c153_2
theorem s153 : slimC ⟨51, [0]⟩ (Try.f153.body.getD .skip) = some c153.strip := by kernel_rfl

def c261_7 : SC := .cond (.t 8) .skip (.exit 0)
def c261_15 : SC := .reg [ro 27 (.mv (.t 1)),
  ro 28 (.mv (.t 0)),
  ro 29 (.mv (.t 4)),
  ro 30 (.ia 40 (.t 28) (.t 29)),
  ro 31 (.fa 131 (.t 30) 1),
  ro 32 (.ld 2 (.t 31)),
  ro 33 (.ia 214 (.t 27) (.t 32)),
  ⟨none, .sto 4 (.t 33) (.c (.bool true)), none⟩] (some [0, 1, 4])
def c261_14 : SC := .cond (.t 26) c261_15 .skip
def c261_17 : SC := .reg [ro 9 (.mv (.t 4)),
  ro 10 (.bn .add 3 (.t 9) (.c (.int .i64 1))),
  ro 4 (.asg (.t 10))] (some [0, 1, 4])
def c261_10 : SC := .seq (.block 1 (.seq (.reg [ro 11 (.mv (.t 0)),
  ro 12 (.mv (.t 4)),
  ro 13 (.ia 40 (.t 11) (.t 12)),
  ro 14 (.fa 131 (.t 13) 0),
  ro 15 (.ld 2 (.t 14)),
  ro 16 (.bn .eql 2 (.t 15) (.c (.int .i64 1))),
  ro 17 (.mv (.t 16)),
  ⟨some 18, .mv (.t 0), some (17, true)⟩,
  ⟨some 19, .mv (.t 4), some (17, true)⟩,
  ⟨some 20, .ia 40 (.t 18) (.t 19), some (17, true)⟩,
  ⟨some 21, .fa 131 (.t 20) 1, some (17, true)⟩,
  ⟨some 22, .ld 2 (.t 21), some (17, true)⟩,
  ⟨some 23, .mv (.t 1), some (17, true)⟩,
  ⟨some 24, .len 214 (.t 23), some (17, true)⟩,
  ⟨some 25, .bn .lss 2 (.t 22) (.t 24), some (17, true)⟩,
  ro 26 (.pick (.t 17) (.t 25) (.c (.bool false)))] (some [0, 1, 4, 26])) c261_14)) c261_17
def c261_4 : SC := .seq (.seq (.reg [ro 5 (.mv (.t 4)),
  ro 6 (.mv (.t 0)),
  ro 7 (.len 40 (.t 6)),
  ro 8 (.bn .lss 3 (.t 5) (.t 7))] (some [0, 1, 4, 8])) c261_7) c261_10
def c261_2 : SC := .block 0 (.loop c261_4)
/-- loop.example/g01075/spec.l08Occur -/
def c261 : SC := .seq (.reg [ro 4 (.asg (.c (.int .i64 0)))] (some [0, 1, 4])) c261_2
theorem s261 : slimC ⟨34, [0, 1]⟩ (Try.f261.body.getD .skip) = some c261.strip := by kernel_rfl

def c180_12 : SC := .cond (.t 20) .skip (.exit 0)
def c180_26 : SC := .cond (.t 43) .skip (.exit 2)
def c180_32 : SC := .reg [ro 44 (.mv (.t 5)),
  ro 45 (.bn .add 3 (.t 44) (.c (.int .i64 1))),
  ro 5 (.asg (.t 45))] (some [0, 3, 4, 5])
def c180_29 : SC := .seq (.block 3 (.reg [ro 46 (.mv (.t 0)),
  ro 47 (.nilc (.t 46)),
  ro 48 (.fa 90 (.t 47) 2),
  ro 49 (.ld 88 (.t 48)),
  ro 50 (.mv (.t 4)),
  ro 51 (.ia 88 (.t 49) (.t 50)),
  ro 52 (.fa 197 (.t 51) 3),
  ro 53 (.ld 195 (.t 52)),
  ro 54 (.mv (.t 5)),
  ro 55 (.ia 195 (.t 53) (.t 54)),
  ro 56 (.ld 40 (.t 55)),
  ro 57 (.mv (.t 3)),
  ro 58 (.call (.f 261) [(.t 56), (.t 57)])] (some [0, 3, 4, 5]))) c180_32
def c180_23 : SC := .seq (.seq (.reg [ro 33 (.mv (.t 5)),
  ro 34 (.mv (.t 0)),
  ro 35 (.nilc (.t 34)),
  ro 36 (.fa 90 (.t 35) 2),
  ro 37 (.ld 88 (.t 36)),
  ro 38 (.mv (.t 4)),
  ro 39 (.ia 88 (.t 37) (.t 38)),
  ro 40 (.fa 197 (.t 39) 3),
  ro 41 (.ld 195 (.t 40)),
  ro 42 (.len 195 (.t 41)),
  ro 43 (.bn .lss 3 (.t 33) (.t 42))] (some [0, 3, 4, 5, 43])) c180_26) c180_29
def c180_21 : SC := .block 2 (.loop c180_23)
def c180_19 : SC := .seq (.reg [ro 5 (.asg (.c (.int .i64 0)))] (some [0, 3, 4, 5])) c180_21
def c180_33 : SC := .reg [ro 21 (.mv (.t 4)),
  ro 22 (.bn .add 3 (.t 21) (.c (.int .i64 1))),
  ro 4 (.asg (.t 22))] (some [0, 3, 4])
def c180_15 : SC := .seq (.block 1 (.seq (.reg [ro 23 (.mv (.t 0)),
  ro 24 (.nilc (.t 23)),
  ro 25 (.fa 90 (.t 24) 2),
  ro 26 (.ld 88 (.t 25)),
  ro 27 (.mv (.t 4)),
  ro 28 (.ia 88 (.t 26) (.t 27)),
  ro 29 (.fa 197 (.t 28) 1),
  ro 30 (.ld 40 (.t 29)),
  ro 31 (.mv (.t 3)),
  ro 32 (.call (.f 261) [(.t 30), (.t 31)])] (some [0, 3, 4])) c180_19)) c180_33
def c180_9 : SC := .seq (.seq (.reg [ro 14 (.mv (.t 4)),
  ro 15 (.mv (.t 0)),
  ro 16 (.nilc (.t 15)),
  ro 17 (.fa 90 (.t 16) 2),
  ro 18 (.ld 88 (.t 17)),
  ro 19 (.len 88 (.t 18)),
  ro 20 (.bn .lss 3 (.t 14) (.t 19))] (some [0, 3, 4, 20])) c180_12) c180_15
def c180_7 : SC := .block 0 (.loop c180_9)
def c180_42 : SC := .cond (.t 64) .skip (.exit 4)
def c180_54 : SC := .cond (.t 73) .skip (.exit 6)
def c180_66 : SC := .cond (.t 81) .skip (.exit 8)
def c180_74 : SC := .reg [ro 88 (.mv (.t 0)),
  ro 89 (.nilc (.t 88)),
  ro 90 (.fa 90 (.t 89) 2),
  ro 91 (.ld 88 (.t 90)),
  ro 92 (.mv (.t 7)),
  ro 93 (.ia 88 (.t 91) (.t 92)),
  ro 94 (.fa 197 (.t 93) 4),
  ro 95 (.ld 195 (.t 94)),
  ro 96 (.mv (.t 8)),
  ro 97 (.ia 195 (.t 95) (.t 96)),
  ro 98 (.ld 40 (.t 97)),
  ro 99 (.mv (.t 3)),
  ro 100 (.call (.f 261) [(.t 98), (.t 99)])] (some [0, 3, 6, 7, 8])
def c180_73 : SC := .cond (.t 87) c180_74 .skip
def c180_76 : SC := .reg [ro 82 (.mv (.t 8)),
  ro 83 (.bn .add 2 (.t 82) (.c (.int .i64 1))),
  ro 8 (.asg (.t 83))] (some [0, 3, 6, 7, 8])
def c180_69 : SC := .seq (.block 9 (.seq (.reg [ro 84 (.mv (.t 3)),
  ro 85 (.mv (.t 8)),
  ro 86 (.ia 214 (.t 84) (.t 85)),
  ro 87 (.ld 4 (.t 86))] (some [0, 3, 6, 7, 8, 87])) c180_73)) c180_76
def c180_63 : SC := .seq (.seq (.reg [ro 76 (.mv (.t 8)),
  ro 77 (.mv (.t 0)),
  ro 78 (.nilc (.t 77)),
  ro 79 (.fa 90 (.t 78) 0),
  ro 80 (.ld 2 (.t 79)),
  ro 81 (.bn .lss 2 (.t 76) (.t 80))] (some [0, 3, 6, 7, 8, 81])) c180_66) c180_69
def c180_61 : SC := .block 8 (.loop c180_63)
def c180_77 : SC := .reg [ro 74 (.mv (.t 7)),
  ro 75 (.bn .add 3 (.t 74) (.c (.int .i64 1))),
  ro 7 (.asg (.t 75))] (some [0, 3, 6, 7])
def c180_57 : SC := .seq (.block 7 (.seq (.reg [ro 8 (.asg (.c (.int .i64 0)))] (some [0, 3, 6, 7, 8])) c180_61)) c180_77
def c180_51 : SC := .seq (.seq (.reg [ro 67 (.mv (.t 7)),
  ro 68 (.mv (.t 0)),
  ro 69 (.nilc (.t 68)),
  ro 70 (.fa 90 (.t 69) 2),
  ro 71 (.ld 88 (.t 70)),
  ro 72 (.len 88 (.t 71)),
  ro 73 (.bn .lss 3 (.t 67) (.t 72))] (some [0, 3, 6, 7, 73])) c180_54) c180_57
def c180_49 : SC := .block 6 (.loop c180_51)
def c180_78 : SC := .reg [ro 65 (.mv (.t 6)),
  ro 66 (.bn .add 2 (.t 65) (.c (.int .i64 1))),
  ro 6 (.asg (.t 66))] (some [0, 3, 6])
def c180_45 : SC := .seq (.block 5 (.seq (.reg [ro 7 (.asg (.c (.int .i64 0)))] (some [0, 3, 6, 7])) c180_49)) c180_78
def c180_39 : SC := .seq (.seq (.reg [ro 59 (.mv (.t 6)),
  ro 60 (.mv (.t 0)),
  ro 61 (.nilc (.t 60)),
  ro 62 (.fa 90 (.t 61) 0),
  ro 63 (.ld 2 (.t 62)),
  ro 64 (.bn .leq 2 (.t 59) (.t 63))] (some [0, 3, 6, 64])) c180_42) c180_45
def c180_37 : SC := .block 4 (.loop c180_39)
def c180_79 : SC := .seq (.reg [ro 101 (.mv (.t 3)),
  ro 2 (.asg (.t 101))] (some [2])) .ret
def c180_34 : SC := .seq (.seq (.reg [ro 6 (.asg (.c (.int .i64 0)))] (some [0, 3, 6])) c180_37) c180_79
def c180_4 : SC := .seq (.seq (.reg [ro 4 (.asg (.c (.int .i64 0)))] (some [0, 3, 4])) c180_7) c180_34
def c180_2 : SC := .seq (.reg [ro 9 (.mv (.t 0)),
  ro 10 (.nilc (.t 9)),
  ro 11 (.fa 90 (.t 10) 0),
  ro 12 (.ld 2 (.t 11)),
  ro 13 (.mks 214 (.t 12) (.t 12)),
  ro 3 (.asg (.t 13))] (some [0, 3])) c180_4
/-- loop.example/g01075/spec.l08Needed -/
def c180 : SC := .seq (.reg [ro 2 (.asg (.c .nils))] (some [0])) c180_2
theorem s180 : slimC ⟨102, [0]⟩ (Try.f180.body.getD .skip) = some c180.strip := by kernel_rfl

def c174_12 : SC := .cond (.t 11) .skip (.exit 0)
def c174_20 : SC := .reg [ro 20 (.mv (.t 5)),
  ro 21 (.mv (.t 6)),
  ro 22 (.bsl 68 1 [(0, (.t 21))]),
  ro 23 (.app 68 68 (.t 20) (.t 22)),
  ro 5 (.asg (.t 23))] (some [0, 1, 5, 6])
def c174_19 : SC := .cond (.t 19) c174_20 .skip
def c174_22 : SC := .reg [ro 12 (.mv (.t 6)),
  ro 13 (.bn .add 3 (.t 12) (.c (.int .i64 1))),
  ro 6 (.asg (.t 13))] (some [0, 1, 5, 6])
def c174_15 : SC := .seq (.block 1 (.seq (.reg [ro 14 (.mv (.t 0)),
  ro 15 (.mv (.t 6)),
  ro 16 (.ia 214 (.t 14) (.t 15)),
  ro 17 (.ld 4 (.t 16)),
  ro 18 (.mv (.t 1)),
  ro 19 (.bn .eql 4 (.t 17) (.t 18))] (some [0, 1, 5, 6, 19])) c174_19)) c174_22
def c174_9 : SC := .seq (.seq (.reg [ro 8 (.mv (.t 6)),
  ro 9 (.mv (.t 0)),
  ro 10 (.len 214 (.t 9)),
  ro 11 (.bn .lss 3 (.t 8) (.t 10))] (some [0, 1, 5, 6, 11])) c174_12) c174_15
def c174_7 : SC := .block 0 (.loop c174_9)
def c174_23 : SC := .seq (.reg [ro 24 (.mv (.t 5)),
  ro 4 (.asg (.t 24))] (some [4])) .ret
def c174_4 : SC := .seq (.seq (.reg [ro 6 (.asg (.c (.int .i64 0)))] (some [0, 1, 5, 6])) c174_7) c174_23
def c174_2 : SC := .seq (.reg [ro 7 (.bsl 68 0 []),
  ro 5 (.asg (.t 7))] (some [0, 1, 5])) c174_4
/-- loop.example/g01075/spec.l08Marked -/
def c174 : SC := .seq (.reg [ro 4 (.asg (.c .nils))] (some [0, 1])) c174_2
theorem s174 : slimC ⟨25, [0, 1]⟩ (Try.f174.body.getD .skip) = some c174.strip := by kernel_rfl

def c88_6 : SC := .seq (.reg [ro 2 (.asg (.c .nils)),
  ro 3 (.asg (.c (.int .i64 1)))] (some [2, 3])) .ret
def c88_5 : SC := .cond (.t 5) c88_6 .skip
def c88_10 : SC := .seq (.reg [ro 6 (.call (.f 180) [(.t 1)]),
  ro 7 (.call (.f 174) [(.t 6), (.c (.bool true))]),
  ro 2 (.asg (.t 7)),
  ro 3 (.asg (.c (.int .i64 0)))] (some [2, 3])) .ret
def c88_2 : SC := .seq (.seq (.reg [ro 4 (.call (.f 153) [(.t 1)]),
  ro 5 (.un .not (.t 4))] (some [1, 5])) c88_5) c88_10
/-- loop.example/g01075/spec.NeededParameters -/
def c88 : SC := .seq (.reg [ro 1 (.bx 90 (.t 0)),
  ro 2 (.asg (.c .nils)),
  ro 3 (.asg (.c (.int .i64 0)))] (some [1])) c88_2
theorem s88 : slimC ⟨8, [0]⟩ (Try.f88.body.getD .skip) = some c88.strip := by kernel_rfl

def c138_2 : SC := .seq (.reg [ro 7 (.mv (.t 0)),
  ro 8 (.mv (.t 1)),
  ro 9 (.bn .geq 2 (.t 7) (.t 8)),
  ro 10 (.mv (.t 9)),
  ⟨some 11, .mv (.t 0), some (10, true)⟩,
  ⟨some 12, .mv (.t 2), some (10, true)⟩,
  ⟨some 13, .bn .leq 2 (.t 11) (.t 12), some (10, true)⟩,
  ro 14 (.pick (.t 10) (.t 13) (.c (.bool false))),
  ro 6 (.asg (.t 14))] (some [6])) .ret
/-- loop.example/g01075/impl.within -/
def c138 : SC := .seq (.reg [ro 6 (.asg (.c (.bool false)))] (some [0, 1, 2])) c138_2
theorem s138 : slimC ⟨15, [0, 1, 2]⟩ (Try.f138.body.getD .skip) = some c138.strip := by kernel_rfl

def c286_2 : SC := .seq (.reg [ro 3 (.mv (.t 0)),
  ro 4 (.call (.f 138) [(.t 3), (.c (.int .i64 0)), (.c (.int .i64 63))]),
  ro 2 (.asg (.t 4))] (some [2])) .ret
/-- loop.example/g01075/impl.isValue -/
def c286 : SC := .seq (.reg [ro 2 (.asg (.c (.bool false)))] (some [0])) c286_2
theorem s286 : slimC ⟨5, [0]⟩ (Try.f286.body.getD .skip) = some c286.strip := by kernel_rfl

def c285_2 : SC := .seq (.reg [ro 3 (.mv (.t 0)),
  ro 4 (.call (.f 286) [(.t 3)]),
  ro 5 (.un .not (.t 4)),
  ro 2 (.asg (.t 5))] (some [2])) .ret
/-- loop.example/g01075/impl.areValues$1 -/
def c285 : SC := .seq (.reg [ro 2 (.asg (.c (.bool false)))] (some [0])) c285_2
theorem s285 : slimC ⟨6, [0]⟩ (Try.f285.body.getD .skip) = some c285.strip := by kernel_rfl

def c304_20 : SC := .seq (.reg [ro 17 (.mv (.t 5)),
  ro 4 (.asg (.t 17))] (some [4])) .ret
def c304_19 : SC := .cond (.t 16) c304_20 .skip
def c304_17 : SC := .seq (.reg [ro 11 (.mv (.t 1)),
  ro 12 (.mv (.t 0)),
  ro 13 (.mv (.t 5)),
  ro 14 (.ia 68 (.t 12) (.t 13)),
  ro 15 (.ld 2 (.t 14)),
  ro 16 (.call (.t 11) [(.t 15)])] (some [0, 1, 5, 7, 8, 16])) c304_19
def c304_24 : SC := .reg [ro 18 (.bn .add 3 (.t 8) (.c (.int .i64 1))),
  ro 8 (.mv (.t 18))] (some [0, 1, 7, 8])
def c304_13 : SC := .seq (.block 1 (.seq (.reg [ro 10 (.mv (.t 8)),
  ro 5 (.asg (.t 10))] (some [0, 1, 5, 7, 8])) c304_17)) c304_24
def c304_9 : SC := .seq (.cond (.t 9) .skip (.exit 0)) c304_13
def c304_7 : SC := .seq (.reg [ro 9 (.bn .lss 3 (.t 8) (.t 7))] (some [0, 1, 7, 8, 9])) c304_9
def c304_5 : SC := .block 0 (.loop c304_7)
def c304_25 : SC := .seq (.reg [ro 4 (.asg (.c (.int .i64 (-1))))] (some [4])) .ret
def c304_2 : SC := .seq (.seq (.reg [ro 6 (.mv (.t 0)),
  ro 7 (.len 68 (.t 6)),
  ro 8 (.mv (.c (.int .i64 0)))] (some [0, 1, 7, 8])) c304_5) c304_25
/-- slices.IndexFunc[[]int64,int64] -/
def c304 : SC := .seq (.reg [ro 4 (.asg (.c (.int .i64 0)))] (some [0, 1])) c304_2
theorem s304 : slimC ⟨19, [0, 1]⟩ (Try.f304.body.getD .skip) = some c304.strip := by kernel_rfl

def c284_2 : SC := .seq (.reg [ro 5 (.mv (.t 0)),
  ro 6 (.mv (.t 1)),
  ro 7 (.call (.f 304) [(.t 5), (.t 6)]),
  ro 8 (.bn .geq 3 (.t 7) (.c (.int .i64 0))),
  ro 4 (.asg (.t 8))] (some [4])) .ret
/-- slices.ContainsFunc[[]int64,int64] -/
def c284 : SC := .seq (.reg [ro 4 (.asg (.c (.bool false)))] (some [0, 1])) c284_2
theorem s284 : slimC ⟨9, [0, 1]⟩ (Try.f284.body.getD .skip) = some c284.strip := by kernel_rfl

def c229_2 : SC := .seq (.reg [ro 3 (.mv (.t 0)),
  ro 4 (.call (.f 284) [(.t 3), (.f 285)]),
  ro 5 (.un .not (.t 4)),
  ro 2 (.asg (.t 5))] (some [2])) .ret
/-- loop.example/g01075/impl.areValues -/
def c229 : SC := .seq (.reg [ro 2 (.asg (.c (.bool false)))] (some [0])) c229_2
theorem s229 : slimC ⟨6, [0]⟩ (Try.f229.body.getD .skip) = some c229.strip := by kernel_rfl

def c234_2 : SC := .seq (.reg [ro 5 (.mv (.t 1)),
  ro 6 (.len 68 (.t 5)),
  ro 7 (.fa 90 (.t 2) 0),
  ro 8 (.ld 2 (.t 7)),
  ro 9 (.bn .eql 2 (.t 6) (.t 8)),
  ro 10 (.mv (.t 9)),
  ⟨some 11, .mv (.t 1), some (10, true)⟩,
  ⟨some 12, .call (.f 229) [(.t 11)], some (10, true)⟩,
  ro 13 (.pick (.t 10) (.t 12) (.c (.bool false))),
  ro 4 (.asg (.t 13))] (some [4])) .ret
/-- (loop.example/g01075/impl.Linear).isState -/
def c234 : SC := .seq (.reg [ro 2 (.bx 90 (.t 0)),
  ro 4 (.asg (.c (.bool false)))] (some [1, 2])) c234_2
theorem s234 : slimC ⟨14, [0, 1]⟩ (Try.f234.body.getD .skip) = some c234.strip := by kernel_rfl

def c292_23 : SC := .seq (.reg [ro 2 (.asg (.c (.bool false)))] (some [2])) .ret
def c292_22 : SC := .cond (.t 15) c292_23 .skip
def c292_27 : SC := .reg [ro 16 (.mv (.t 3)),
  ro 17 (.mv (.t 5)),
  ro 18 (.bn .add 2 (.t 17) (.c (.int .i64 1))),
  ro 19 (.bn .mul 2 (.t 16) (.t 18)),
  ro 3 (.asg (.t 19))] (some [1, 3, 7, 8, 9])
def c292_19 : SC := .seq (.seq (.reg [ro 13 (.mv (.t 5)),
  ro 14 (.call (.f 138) [(.t 13), (.c (.int .i64 1)), (.c (.int .i64 7))]),
  ro 15 (.un .not (.t 14))] (some [1, 3, 5, 7, 8, 9, 15])) c292_22) c292_27
def c292_28 : SC := .reg [ro 20 (.bn .add 3 (.t 9) (.c (.int .i64 1))),
  ro 9 (.mv (.t 20))] (some [1, 3, 7, 8, 9])
def c292_15 : SC := .seq (.block 1 (.seq (.reg [ro 11 (.ia 68 (.t 7) (.t 9)),
  ro 12 (.ld 2 (.t 11)),
  ro 5 (.asg (.t 12))] (some [1, 3, 5, 7, 8, 9])) c292_19)) c292_28
def c292_11 : SC := .seq (.cond (.t 10) .skip (.exit 0)) c292_15
def c292_9 : SC := .seq (.reg [ro 10 (.bn .lss 3 (.t 9) (.t 8))] (some [1, 3, 7, 8, 9, 10])) c292_11
def c292_7 : SC := .block 0 (.loop c292_9)
def c292_29 : SC := .seq (.reg [ro 21 (.fa 197 (.t 1) 0),
  ro 22 (.ld 68 (.t 21)),
  ro 23 (.len 68 (.t 22)),
  ro 24 (.bn .leq 3 (.t 23) (.c (.int .i64 8))),
  ro 25 (.mv (.t 24)),
  ⟨some 26, .mv (.t 3), some (25, true)⟩,
  ⟨some 27, .bn .leq 2 (.t 26) (.c (.int .i64 4096)), some (25, true)⟩,
  ro 28 (.pick (.t 25) (.t 27) (.c (.bool false))),
  ro 2 (.asg (.t 28))] (some [2])) .ret
def c292_4 : SC := .seq (.seq (.reg [ro 6 (.fa 197 (.t 1) 0),
  ro 7 (.ld 68 (.t 6)),
  ro 8 (.len 68 (.t 7)),
  ro 9 (.mv (.c (.int .i64 0)))] (some [1, 3, 7, 8, 9])) c292_7) c292_29
def c292_2 : SC := .seq (.reg [ro 3 (.asg (.c (.int .i64 1)))] (some [1, 3])) c292_4
/-- (loop.example/g01075/impl.Summand).sumsOk -/
def c292 : SC := .seq (.reg [ro 1 (.bx 197 (.t 0)),
  ro 2 (.asg (.c (.bool false)))] (some [1])) c292_2
theorem s292 : slimC ⟨29, [0]⟩ (Try.f292.body.getD .skip) = some c292.strip := by kernel_rfl

def c211_2 : SC := .seq (.reg [ro 3 (.mv (.t 0)),
  ro 4 (.bn .geq 5 (.t 3) (.c (.int .u8 48))),
  ro 5 (.mv (.t 4)),
  ⟨some 6, .mv (.t 0), some (5, true)⟩,
  ⟨some 7, .bn .leq 5 (.t 6) (.c (.int .u8 57)), some (5, true)⟩,
  ro 8 (.pick (.t 5) (.t 7) (.c (.bool false))),
  ro 2 (.asg (.t 8))] (some [2])) .ret
/-- loop.example/g01075/impl.isDigit -/
def c211 : SC := .seq (.reg [ro 2 (.asg (.c (.bool false)))] (some [0])) c211_2
theorem s211 : slimC ⟨9, [0]⟩ (Try.f211.body.getD .skip) = some c211.strip := by kernel_rfl

def c126_22 : SC := .seq (.reg [ro 2 (.asg (.c (.bool false)))] (some [2])) .ret
def c126_21 : SC := .cond (.t 32) c126_22 .skip
def c126_19 : SC := .seq (.reg [ro 20 (.mv (.t 4)),
  ro 21 (.un .not (.t 20)),
  ro 22 (.mv (.t 21)),
  ⟨some 23, .mv (.t 3), some (22, true)⟩,
  ⟨some 24, .bn .eql 3 (.t 23) (.c (.int .i64 0)), some (22, true)⟩,
  ⟨some 25, .mv (.t 24), some (22, true)⟩,
  ⟨some 26, .mv (.t 0), some (25, false)⟩,
  ⟨some 27, .mv (.t 3), some (25, false)⟩,
  ⟨some 28, .idx 9 (.t 26) (.t 27), some (25, false)⟩,
  ⟨some 29, .call (.f 211) [(.t 28)], some (25, false)⟩,
  ⟨some 30, .un .not (.t 29), some (25, false)⟩,
  ⟨some 31, .pick (.t 25) (.c (.bool true)) (.t 30), some (22, true)⟩,
  ro 32 (.pick (.t 22) (.t 31) (.c (.bool false)))] (some [0, 6, 7, 32])) c126_21
def c126_17 : SC := .seq (.reg [ro 10 (.mv (.t 0)),
  ro 11 (.mv (.t 3)),
  ro 12 (.idx 9 (.t 10) (.t 11)),
  ro 13 (.bn .geq 5 (.t 12) (.c (.int .u8 97))),
  ro 14 (.mv (.t 13)),
  ⟨some 15, .mv (.t 0), some (14, true)⟩,
  ⟨some 16, .mv (.t 3), some (14, true)⟩,
  ⟨some 17, .idx 9 (.t 15) (.t 16), some (14, true)⟩,
  ⟨some 18, .bn .leq 5 (.t 17) (.c (.int .u8 122)), some (14, true)⟩,
  ro 19 (.pick (.t 14) (.t 18) (.c (.bool false))),
  ro 4 (.asg (.t 19))] (some [0, 3, 4, 6, 7])) c126_19
def c126_26 : SC := .reg [ro 33 (.bn .add 3 (.t 7) (.c (.int .i64 1))),
  ro 7 (.mv (.t 33))] (some [0, 6, 7])
def c126_13 : SC := .seq (.block 1 (.seq (.reg [ro 9 (.mv (.t 7)),
  ro 3 (.asg (.t 9))] (some [0, 3, 6, 7])) c126_17)) c126_26
def c126_9 : SC := .seq (.cond (.t 8) .skip (.exit 0)) c126_13
def c126_7 : SC := .seq (.reg [ro 8 (.bn .lss 3 (.t 7) (.t 6))] (some [0, 6, 7, 8])) c126_9
def c126_5 : SC := .block 0 (.loop c126_7)
def c126_27 : SC := .seq (.reg [ro 34 (.mv (.t 0)),
  ro 35 (.len 9 (.t 34)),
  ro 36 (.bn .geq 3 (.t 35) (.c (.int .i64 1))),
  ro 37 (.mv (.t 36)),
  ⟨some 38, .mv (.t 0), some (37, true)⟩,
  ⟨some 39, .len 9 (.t 38), some (37, true)⟩,
  ⟨some 40, .bn .leq 3 (.t 39) (.c (.int .i64 10)), some (37, true)⟩,
  ro 41 (.pick (.t 37) (.t 40) (.c (.bool false))),
  ro 2 (.asg (.t 41))] (some [2])) .ret
def c126_2 : SC := .seq (.seq (.reg [ro 5 (.mv (.t 0)),
  ro 6 (.len 9 (.t 5)),
  ro 7 (.mv (.c (.int .i64 0)))] (some [0, 6, 7])) c126_5) c126_27
/-- loop.example/g01075/impl.IsName -/
def c126 : SC := .seq (.reg [ro 2 (.asg (.c (.bool false)))] (some [0])) c126_2
theorem s126 : slimC ⟨42, [0]⟩ (Try.f126.body.getD .skip) = some c126.strip := by kernel_rfl

def c278_2 : SC := .seq (.reg [ro 3 (.mv (.t 0)),
  ro 4 (.call (.f 126) [(.t 3)]),
  ro 5 (.mv (.t 4)),
  ⟨some 6, .mv (.t 0), some (5, true)⟩,
  ⟨some 7, .bn .neq 9 (.t 6) (.c (.str [116, 97, 117])), some (5, true)⟩,
  ro 8 (.pick (.t 5) (.t 7) (.c (.bool false))),
  ro 2 (.asg (.t 8))] (some [2])) .ret
/-- loop.example/g01075/impl.IsAction -/
def c278 : SC := .seq (.reg [ro 2 (.asg (.c (.bool false)))] (some [0])) c278_2
theorem s278 : slimC ⟨9, [0]⟩ (Try.f278.body.getD .skip) = some c278.strip := by kernel_rfl

def c301_6 : SC := .reg [ro 7 (.bad),
  ⟨none, .bad, none⟩] (some [0, 1])
def c301_5 : SC := .cond (.t 6) c301_6 .skip
def c301_14 : SC := .reg [ro 17 (.mv (.t 0)),
  ro 18 (.mv (.t 0)),
  ro 19 (.cap 195 (.t 18)),
  ro 20 (.slc 195 (.t 17) none (some (.t 19))),
  ro 21 (.mv (.t 1)),
  ⟨some 22, .apz 195 3 (.t 20) (.t 21), none⟩,
  ro 23 (.mv (.t 0)),
  ro 24 (.len 195 (.t 23)),
  ro 25 (.slc 195 (.t 22) none (some (.t 24))),
  ro 0 (.asg (.t 25))] (some [0])
def c301_13 : SC := .cond (.t 16) c301_14 .skip
def c301_11 : SC := .seq (.reg [ro 15 (.mv (.t 1)),
  ro 16 (.bn .gtr 3 (.t 15) (.c (.int .i64 0)))] (some [0, 1, 16])) c301_13
def c301_16 : SC := .seq (.reg [ro 26 (.mv (.t 0)),
  ro 4 (.asg (.t 26))] (some [4])) .ret
def c301_8 : SC := .seq (.seq (.reg [ro 8 (.mv (.t 1)),
  ro 9 (.mv (.t 0)),
  ro 10 (.cap 195 (.t 9)),
  ro 11 (.mv (.t 0)),
  ro 12 (.len 195 (.t 11)),
  ro 13 (.bn .sub 3 (.t 10) (.t 12)),
  ro 14 (.bn .sub 3 (.t 8) (.t 13)),
  ro 1 (.asg (.t 14))] (some [0, 1])) c301_11) c301_16
def c301_2 : SC := .seq (.seq (.reg [ro 5 (.mv (.t 1)),
  ro 6 (.bn .lss 3 (.t 5) (.c (.int .i64 0)))] (some [0, 1, 6])) c301_5) c301_8
/-- slices.Grow[[][]loop.example/g01075/impl.Term,[]loop.example/g01075/impl.Term] -/
def c301 : SC := .seq (.reg [ro 4 (.asg (.c .nils))] (some [0, 1])) c301_2
theorem s301 : slimC ⟨27, []⟩ (Try.f301.body.getD .skip) = some c301.strip := by kernel_rfl

def c249_24 : SC := .reg [ro 21 (.bad),
  ⟨none, .bad, none⟩] (some [0, 3, 9, 10, 11])
def c249_23 : SC := .cond (.t 20) c249_24 .skip
def c249_21 : SC := .seq (.reg [ro 19 (.mv (.t 3)),
  ro 20 (.bn .lss 3 (.t 19) (.c (.int .i64 0)))] (some [0, 3, 9, 10, 11, 20])) c249_23
def c249_19 : SC := .seq (.reg [ro 15 (.mv (.t 3)),
  ro 16 (.mv (.t 5)),
  ro 17 (.len 195 (.t 16)),
  ro 18 (.bn .add 3 (.t 15) (.t 17)),
  ro 3 (.asg (.t 18))] (some [0, 3, 9, 10, 11])) c249_21
def c249_26 : SC := .reg [ro 22 (.bn .add 3 (.t 11) (.c (.int .i64 1))),
  ro 11 (.mv (.t 22))] (some [0, 3, 9, 10, 11])
def c249_15 : SC := .seq (.block 1 (.seq (.reg [ro 13 (.ia 308 (.t 9) (.t 11)),
  ro 14 (.ld 195 (.t 13)),
  ro 5 (.asg (.t 14))] (some [0, 3, 5, 9, 10, 11])) c249_19)) c249_26
def c249_11 : SC := .seq (.cond (.t 12) .skip (.exit 0)) c249_15
def c249_9 : SC := .seq (.reg [ro 12 (.bn .lss 3 (.t 11) (.t 10))] (some [0, 3, 9, 10, 11, 12])) c249_11
def c249_7 : SC := .block 0 (.loop c249_9)
def c249_44 : SC := .reg [ro 31 (.mv (.t 6)),
  ro 32 (.mv (.t 8)),
  ro 33 (.app 195 195 (.t 31) (.t 32)),
  ro 6 (.asg (.t 33))] (some [6, 25, 26, 27])
def c249_45 : SC := .reg [ro 34 (.bn .add 3 (.t 27) (.c (.int .i64 1))),
  ro 27 (.mv (.t 34))] (some [6, 25, 26, 27])
def c249_40 : SC := .seq (.block 3 (.seq (.reg [ro 29 (.ia 308 (.t 25) (.t 27)),
  ro 30 (.ld 195 (.t 29)),
  ro 8 (.asg (.t 30))] (some [6, 8, 25, 26, 27])) c249_44)) c249_45
def c249_36 : SC := .seq (.cond (.t 28) .skip (.exit 2)) c249_40
def c249_34 : SC := .seq (.reg [ro 28 (.bn .lss 3 (.t 27) (.t 26))] (some [6, 25, 26, 27, 28])) c249_36
def c249_32 : SC := .block 2 (.loop c249_34)
def c249_46 : SC := .seq (.reg [ro 35 (.mv (.t 6)),
  ro 2 (.asg (.t 35))] (some [2])) .ret
def c249_29 : SC := .seq (.seq (.reg [ro 25 (.mv (.t 0)),
  ro 26 (.len 308 (.t 25)),
  ro 27 (.mv (.c (.int .i64 0)))] (some [6, 25, 26, 27])) c249_32) c249_46
def c249_27 : SC := .seq (.reg [ro 23 (.mv (.t 3)),
  ro 24 (.call (.f 301) [(.c .nils), (.t 23)]),
  ro 6 (.asg (.t 24))] (some [0, 6])) c249_29
def c249_4 : SC := .seq (.seq (.reg [ro 9 (.mv (.t 0)),
  ro 10 (.len 308 (.t 9)),
  ro 11 (.mv (.c (.int .i64 0)))] (some [0, 3, 9, 10, 11])) c249_7) c249_27
def c249_2 : SC := .seq (.reg [ro 3 (.asg (.c (.int .i64 0)))] (some [0, 3])) c249_4
/-- slices.Concat[[][]loop.example/g01075/impl.Term,[]loop.example/g01075/impl.Term] -/
def c249 : SC := .seq (.reg [ro 2 (.asg (.c .nils))] (some [0])) c249_2
theorem s249 : slimC ⟨36, [0]⟩ (Try.f249.body.getD .skip) = some c249.strip := by kernel_rfl

def c293_2 : SC := .seq (.reg [ro 3 (.fa 197 (.t 1) 1),
  ro 4 (.ld 40 (.t 3)),
  ⟨some 5, .shr (.bsl 195 1 [(0, (.t 4))]), none⟩,
  ro 6 (.fa 197 (.t 1) 3),
  ro 7 (.ld 195 (.t 6)),
  ro 8 (.fa 197 (.t 1) 4),
  ro 9 (.ld 195 (.t 8)),
  ⟨some 10, .shr (.bsl 308 3 [(0, (.t 5)), (1, (.t 7)), (2, (.t 9))]), none⟩,
  ro 11 (.call (.f 249) [(.t 10)]),
  ro 2 (.asg (.t 11))] (some [2])) .ret
/-- (loop.example/g01075/impl.Summand).expressions -/
def c293 : SC := .seq (.reg [ro 1 (.bx 197 (.t 0)),
  ro 2 (.asg (.c .nils))] (some [1])) c293_2
theorem s293 : slimC ⟨12, [0]⟩ (Try.f293.body.getD .skip) = some c293.strip := by kernel_rfl

def c269_9 : SC := .seq (.reg [ro 9 (.fa 131 (.t 2) 1),
  ro 10 (.ld 2 (.t 9)),
  ro 11 (.call (.f 286) [(.t 10)]),
  ro 4 (.asg (.t 11))] (some [4])) .ret
def c269_15 : SC := .seq (.reg [ro 14 (.fa 131 (.t 2) 1),
  ro 15 (.ld 2 (.t 14)),
  ro 16 (.mv (.t 1)),
  ro 17 (.bn .sub 2 (.t 16) (.c (.int .i64 1))),
  ro 18 (.call (.f 138) [(.t 15), (.c (.int .i64 0)), (.t 17)]),
  ro 4 (.asg (.t 18))] (some [4])) .ret
def c269_21 : SC := .seq (.reg [ro 21 (.fa 131 (.t 2) 1),
  ro 22 (.ld 2 (.t 21)),
  ro 23 (.call (.f 138) [(.t 22), (.c (.int .i64 0)), (.c (.int .i64 8))]),
  ro 4 (.asg (.t 23))] (some [4])) .ret
def c269_27 : SC := .seq (.reg [ro 26 (.fa 131 (.t 2) 1),
  ro 27 (.ld 2 (.t 26)),
  ro 28 (.bn .eql 2 (.t 27) (.c (.int .i64 0))),
  ro 4 (.asg (.t 28))] (some [4])) .ret
def c269_26 : SC := .cond (.t 24) c269_27 .skip
def c269_24 : SC := .seq (.reg [ro 25 (.bn .eql 2 (.t 6) (.c (.int .i64 3))),
  ro 24 (.asg (.t 25))] (some [2, 24])) c269_26
def c269_20 : SC := .cond (.t 19) c269_21 c269_24
def c269_18 : SC := .seq (.reg [ro 20 (.bn .eql 2 (.t 6) (.c (.int .i64 2))),
  ro 19 (.asg (.t 20))] (some [2, 6, 19])) c269_20
def c269_14 : SC := .cond (.t 12) c269_15 c269_18
def c269_12 : SC := .seq (.reg [ro 13 (.bn .eql 2 (.t 6) (.c (.int .i64 1))),
  ro 12 (.asg (.t 13))] (some [1, 2, 6, 12])) c269_14
def c269_8 : SC := .cond (.t 7) c269_9 c269_12
def c269_5 : SC := .block 0 (.seq (.reg [ro 8 (.bn .eql 2 (.t 6) (.c (.int .i64 0))),
  ro 7 (.asg (.t 8))] (some [1, 2, 6, 7])) c269_8)
def c269_31 : SC := .seq (.reg [ro 4 (.asg (.c (.bool false)))] (some [4])) .ret
def c269_2 : SC := .seq (.seq (.reg [ro 5 (.fa 131 (.t 2) 0),
  ro 6 (.ld 2 (.t 5))] (some [1, 2, 6])) c269_5) c269_31
/-- (loop.example/g01075/impl.Term).valid -/
def c269 : SC := .seq (.reg [ro 2 (.bx 131 (.t 0)),
  ro 4 (.asg (.c (.bool false)))] (some [1, 2])) c269_2
theorem s269 : slimC ⟨29, [0, 1]⟩ (Try.f269.body.getD .skip) = some c269.strip := by kernel_rfl

def c270_9 : SC := .seq (.reg [ro 2 (.asg (.c (.int .i64 2)))] (some [2])) .ret
def c270_15 : SC := .seq (.reg [ro 2 (.asg (.c (.int .i64 1)))] (some [2])) .ret
def c270_14 : SC := .cond (.t 7) c270_15 .skip
def c270_12 : SC := .seq (.reg [ro 8 (.bn .eql 2 (.t 4) (.c (.int .i64 3))),
  ro 7 (.asg (.t 8))] (some [7])) c270_14
def c270_8 : SC := .cond (.t 5) c270_9 c270_12
def c270_5 : SC := .block 0 (.seq (.reg [ro 6 (.bn .eql 2 (.t 4) (.c (.int .i64 2))),
  ro 5 (.asg (.t 6))] (some [4, 5])) c270_8)
def c270_19 : SC := .seq (.reg [ro 2 (.asg (.c (.int .i64 0)))] (some [2])) .ret
def c270_2 : SC := .seq (.seq (.reg [ro 3 (.fa 131 (.t 1) 0),
  ro 4 (.ld 2 (.t 3))] (some [4])) c270_5) c270_19
/-- (loop.example/g01075/impl.Term).operands -/
def c270 : SC := .seq (.reg [ro 1 (.bx 131 (.t 0)),
  ro 2 (.asg (.c (.int .i64 0)))] (some [1])) c270_2
theorem s270 : slimC ⟨9, [0]⟩ (Try.f270.body.getD .skip) = some c270.strip := by kernel_rfl

def c200_6 : SC := .seq (.reg [ro 6 (.asg (.c (.bool false)))] (some [6])) .ret
def c200_5 : SC := .cond (.t 24) c200_6 .skip
def c200_31 : SC := .seq (.reg [ro 6 (.asg (.c (.bool false)))] (some [6])) .ret
def c200_30 : SC := .cond (.t 38) c200_31 .skip
def c200_35 : SC := .reg [ro 39 (.mv (.t 7)),
  ro 40 (.ld 131 (.t 9)),
  ro 41 (.call (.f 270) [(.t 40)]),
  ro 42 (.bn .sub 3 (.t 41) (.c (.int .i64 1))),
  ro 43 (.bn .add 3 (.t 39) (.t 42)),
  ro 7 (.asg (.t 43))] (some [1, 7, 25, 26, 27])
def c200_27 : SC := .seq (.seq (.reg [ro 31 (.mv (.t 7)),
  ro 32 (.bn .eql 3 (.t 31) (.c (.int .i64 0))),
  ro 33 (.mv (.t 32)),
  ⟨some 34, .ld 131 (.t 9), some (33, false)⟩,
  ⟨some 35, .mv (.t 1), some (33, false)⟩,
  ⟨some 36, .call (.f 269) [(.t 34), (.t 35)], some (33, false)⟩,
  ⟨some 37, .un .not (.t 36), some (33, false)⟩,
  ro 38 (.pick (.t 33) (.c (.bool true)) (.t 37))] (some [1, 7, 9, 25, 26, 27, 38])) c200_30) c200_35
def c200_36 : SC := .reg [ro 44 (.bn .add 3 (.t 27) (.c (.int .i64 1))),
  ro 27 (.mv (.t 44))] (some [1, 7, 25, 26, 27])
def c200_23 : SC := .seq (.block 1 (.seq (.reg [ro 29 (.ia 40 (.t 25) (.t 27)),
  ro 30 (.ld 131 (.t 29)),
  ro 9 (.alc 131),
  ⟨none, .sto 131 (.t 9) (.t 30), none⟩] (some [1, 7, 9, 25, 26, 27])) c200_27)) c200_36
def c200_19 : SC := .seq (.cond (.t 28) .skip (.exit 0)) c200_23
def c200_17 : SC := .seq (.reg [ro 28 (.bn .lss 3 (.t 27) (.t 26))] (some [1, 7, 25, 26, 27, 28])) c200_19
def c200_15 : SC := .block 0 (.loop c200_17)
def c200_37 : SC := .seq (.reg [ro 45 (.mv (.t 7)),
  ro 46 (.bn .eql 3 (.t 45) (.c (.int .i64 0))),
  ro 6 (.asg (.t 46))] (some [6])) .ret
def c200_12 : SC := .seq (.seq (.reg [ro 25 (.mv (.t 0)),
  ro 26 (.len 40 (.t 25)),
  ro 27 (.mv (.c (.int .i64 0)))] (some [1, 7, 25, 26, 27])) c200_15) c200_37
def c200_10 : SC := .seq (.reg [ro 7 (.asg (.c (.int .i64 1)))] (some [0, 1, 7])) c200_12
def c200_2 : SC := .seq (.seq (.reg [ro 10 (.mv (.t 1)),
  ro 11 (.call (.f 138) [(.t 10), (.c (.int .i64 0)), (.c (.int .i64 29))]),
  ro 12 (.un .not (.t 11)),
  ro 13 (.mv (.t 12)),
  ⟨some 14, .mv (.t 2), some (13, false)⟩,
  ⟨some 15, .call (.f 138) [(.t 14), (.c (.int .i64 1)), (.c (.int .i64 60))], some (13, false)⟩,
  ⟨some 16, .un .not (.t 15), some (13, false)⟩,
  ro 17 (.pick (.t 13) (.c (.bool true)) (.t 16)),
  ro 18 (.mv (.t 17)),
  ⟨some 19, .mv (.t 0), some (18, false)⟩,
  ⟨some 20, .len 40 (.t 19), some (18, false)⟩,
  ⟨some 21, .mv (.t 2), some (18, false)⟩,
  ⟨some 22, .call (.f 138) [(.t 20), (.c (.int .i64 1)), (.t 21)], some (18, false)⟩,
  ⟨some 23, .un .not (.t 22), some (18, false)⟩,
  ro 24 (.pick (.t 18) (.c (.bool true)) (.t 23))] (some [0, 1, 24])) c200_5) c200_10
/-- loop.example/g01075/impl.ValidTerms -/
def c200 : SC := .seq (.reg [ro 6 (.asg (.c (.bool false)))] (some [0, 1, 2])) c200_2
theorem s200 : slimC ⟨47, [0, 1, 2]⟩ (Try.f200.body.getD .skip) = some c200.strip := by kernel_rfl

def c294_2 : SC := .seq (.reg [ro 5 (.mv (.t 0)),
  ro 6 (.ld 2 (.t 1)),
  ro 7 (.fa 197 (.t 2) 0),
  ro 8 (.ld 68 (.t 7)),
  ro 9 (.len 68 (.t 8)),
  ro 10 (.bn .add 2 (.t 6) (.t 9)),
  ro 11 (.call (.f 200) [(.t 5), (.t 10), (.c (.int .i64 60))]),
  ro 12 (.un .not (.t 11)),
  ro 4 (.asg (.t 12))] (some [4])) .ret
/-- (loop.example/g01075/impl.Summand).valid$1 -/
def c294 : SC := .seq (.reg [ro 4 (.asg (.c (.bool false)))] (some [0, 1, 2])) c294_2
theorem s294 : slimC ⟨13, [0, 1, 2]⟩ (Try.f294.body.getD .skip) = some c294.strip := by kernel_rfl

def c320_20 : SC := .seq (.reg [ro 17 (.mv (.t 5)),
  ro 4 (.asg (.t 17))] (some [4])) .ret
def c320_19 : SC := .cond (.t 16) c320_20 .skip
def c320_17 : SC := .seq (.reg [ro 11 (.mv (.t 1)),
  ro 12 (.mv (.t 0)),
  ro 13 (.mv (.t 5)),
  ro 14 (.ia 195 (.t 12) (.t 13)),
  ro 15 (.ld 40 (.t 14)),
  ro 16 (.call (.t 11) [(.t 15)])] (some [0, 1, 5, 7, 8, 16])) c320_19
def c320_24 : SC := .reg [ro 18 (.bn .add 3 (.t 8) (.c (.int .i64 1))),
  ro 8 (.mv (.t 18))] (some [0, 1, 7, 8])
def c320_13 : SC := .seq (.block 1 (.seq (.reg [ro 10 (.mv (.t 8)),
  ro 5 (.asg (.t 10))] (some [0, 1, 5, 7, 8])) c320_17)) c320_24
def c320_9 : SC := .seq (.cond (.t 9) .skip (.exit 0)) c320_13
def c320_7 : SC := .seq (.reg [ro 9 (.bn .lss 3 (.t 8) (.t 7))] (some [0, 1, 7, 8, 9])) c320_9
def c320_5 : SC := .block 0 (.loop c320_7)
def c320_25 : SC := .seq (.reg [ro 4 (.asg (.c (.int .i64 (-1))))] (some [4])) .ret
def c320_2 : SC := .seq (.seq (.reg [ro 6 (.mv (.t 0)),
  ro 7 (.len 195 (.t 6)),
  ro 8 (.mv (.c (.int .i64 0)))] (some [0, 1, 7, 8])) c320_5) c320_25
/-- slices.IndexFunc[[][]loop.example/g01075/impl.Term,[]loop.example/g01075/impl.Term] -/
def c320 : SC := .seq (.reg [ro 4 (.asg (.c (.int .i64 0)))] (some [0, 1])) c320_2
theorem s320 : slimC ⟨19, [0, 1]⟩ (Try.f320.body.getD .skip) = some c320.strip := by kernel_rfl

def c280_2 : SC := .seq (.reg [ro 5 (.mv (.t 0)),
  ro 6 (.mv (.t 1)),
  ro 7 (.call (.f 320) [(.t 5), (.t 6)]),
  ro 8 (.bn .geq 3 (.t 7) (.c (.int .i64 0))),
  ro 4 (.asg (.t 8))] (some [4])) .ret
/-- slices.ContainsFunc[[][]loop.example/g01075/impl.Term,[]loop.example/g01075/impl.Term] -/
def c280 : SC := .seq (.reg [ro 4 (.asg (.c (.bool false)))] (some [0, 1])) c280_2
theorem s280 : slimC ⟨9, [0, 1]⟩ (Try.f280.body.getD .skip) = some c280.strip := by kernel_rfl

def c237_6 : SC := .seq (.reg [ro 4 (.asg (.c (.bool false)))] (some [4])) .ret
def c237_5 : SC := .cond (.t 15) c237_6 .skip
def c237_16 : SC := .seq (.reg [ro 4 (.asg (.c (.bool false)))] (some [4])) .ret
def c237_15 : SC := .cond (.t 40) c237_16 .skip
def c237_13 : SC := .seq (.reg [ro 19 (.mv (.t 5)),
  ro 20 (.bn .gtr 3 (.t 19) (.c (.int .i64 0))),
  ro 21 (.mv (.t 20)),
  ⟨some 22, .fa 197 (.t 2) 2, some (21, true)⟩,
  ⟨some 23, .ld 9 (.t 22), some (21, true)⟩,
  ⟨some 24, .bn .eql 9 (.t 23) (.c (.str [116, 97, 117])), some (21, true)⟩,
  ⟨some 25, .mv (.t 24), some (21, true)⟩,
  ⟨some 26, .mv (.t 5), some (25, false)⟩,
  ⟨some 27, .bn .gtr 3 (.t 26) (.c (.int .i64 2)), some (25, false)⟩,
  ⟨some 28, .pick (.t 25) (.c (.bool true)) (.t 27), some (21, true)⟩,
  ro 29 (.pick (.t 21) (.t 28) (.c (.bool false))),
  ro 30 (.mv (.t 29)),
  ⟨some 31, .fa 197 (.t 2) 2, some (30, false)⟩,
  ⟨some 32, .ld 9 (.t 31), some (30, false)⟩,
  ⟨some 33, .bn .neq 9 (.t 32) (.c (.str [116, 97, 117])), some (30, false)⟩,
  ⟨some 34, .mv (.t 33), some (30, false)⟩,
  ⟨some 35, .fa 197 (.t 2) 2, some (34, true)⟩,
  ⟨some 36, .ld 9 (.t 35), some (34, true)⟩,
  ⟨some 37, .call (.f 278) [(.t 36)], some (34, true)⟩,
  ⟨some 38, .un .not (.t 37), some (34, true)⟩,
  ⟨some 39, .pick (.t 34) (.t 38) (.c (.bool false)), some (30, false)⟩,
  ro 40 (.pick (.t 30) (.c (.bool true)) (.t 39))] (some [2, 3, 40])) c237_15
def c237_20 : SC := .seq (.reg [ro 41 (.ld 197 (.t 2)),
  ro 42 (.call (.f 293) [(.t 41)]),
  ro 43 (.mkf 294 [(.t 3), (.t 2)]),
  ro 44 (.call (.f 280) [(.t 42), (.t 43)]),
  ro 45 (.un .not (.t 44)),
  ro 4 (.asg (.t 45))] (some [4])) .ret
def c237_10 : SC := .seq (.seq (.reg [ro 16 (.fa 197 (.t 2) 3),
  ro 17 (.ld 195 (.t 16)),
  ro 18 (.len 195 (.t 17)),
  ro 5 (.asg (.t 18))] (some [2, 3, 5])) c237_13) c237_20
def c237_2 : SC := .seq (.seq (.reg [ro 6 (.ld 197 (.t 2)),
  ro 7 (.call (.f 292) [(.t 6)]),
  ro 8 (.un .not (.t 7)),
  ro 9 (.mv (.t 8)),
  ⟨some 10, .fa 197 (.t 2) 4, some (9, false)⟩,
  ⟨some 11, .ld 195 (.t 10), some (9, false)⟩,
  ⟨some 12, .len 195 (.t 11), some (9, false)⟩,
  ⟨some 13, .ld 2 (.t 3), some (9, false)⟩,
  ⟨some 14, .bn .neq 2 (.t 12) (.t 13), some (9, false)⟩,
  ro 15 (.pick (.t 9) (.c (.bool true)) (.t 14))] (some [2, 3, 15])) c237_5) c237_10
/-- (loop.example/g01075/impl.Summand).valid -/
def c237 : SC := .seq (.reg [ro 2 (.bx 197 (.t 0)),
  ro 3 (.bx 2 (.t 1)),
  ro 4 (.asg (.c (.bool false)))] (some [2, 3])) c237_2
theorem s237 : slimC ⟨46, [0, 1]⟩ (Try.f237.body.getD .skip) = some c237.strip := by kernel_rfl

def c236_2 : SC := .seq (.reg [ro 4 (.ld 197 (.t 2)),
  ro 5 (.fa 90 (.t 1) 0),
  ro 6 (.ld 2 (.t 5)),
  ro 7 (.call (.f 237) [(.t 4), (.t 6)]),
  ro 8 (.un .not (.t 7)),
  ro 3 (.asg (.t 8))] (some [3])) .ret
/-- loop.example/g01075/impl.ValidLinear$1 -/
def c236 : SC := .seq (.reg [ro 2 (.bx 197 (.t 0)),
  ro 3 (.asg (.c (.bool false)))] (some [1, 2])) c236_2
theorem s236 : slimC ⟨9, [0, 1]⟩ (Try.f236.body.getD .skip) = some c236.strip := by kernel_rfl

def c291_20 : SC := .seq (.reg [ro 17 (.mv (.t 5)),
  ro 4 (.asg (.t 17))] (some [4])) .ret
def c291_19 : SC := .cond (.t 16) c291_20 .skip
def c291_17 : SC := .seq (.reg [ro 11 (.mv (.t 1)),
  ro 12 (.mv (.t 0)),
  ro 13 (.mv (.t 5)),
  ro 14 (.ia 88 (.t 12) (.t 13)),
  ro 15 (.ld 197 (.t 14)),
  ro 16 (.call (.t 11) [(.t 15)])] (some [0, 1, 5, 7, 8, 16])) c291_19
def c291_24 : SC := .reg [ro 18 (.bn .add 3 (.t 8) (.c (.int .i64 1))),
  ro 8 (.mv (.t 18))] (some [0, 1, 7, 8])
def c291_13 : SC := .seq (.block 1 (.seq (.reg [ro 10 (.mv (.t 8)),
  ro 5 (.asg (.t 10))] (some [0, 1, 5, 7, 8])) c291_17)) c291_24
def c291_9 : SC := .seq (.cond (.t 9) .skip (.exit 0)) c291_13
def c291_7 : SC := .seq (.reg [ro 9 (.bn .lss 3 (.t 8) (.t 7))] (some [0, 1, 7, 8, 9])) c291_9
def c291_5 : SC := .block 0 (.loop c291_7)
def c291_25 : SC := .seq (.reg [ro 4 (.asg (.c (.int .i64 (-1))))] (some [4])) .ret
def c291_2 : SC := .seq (.seq (.reg [ro 6 (.mv (.t 0)),
  ro 7 (.len 88 (.t 6)),
  ro 8 (.mv (.c (.int .i64 0)))] (some [0, 1, 7, 8])) c291_5) c291_25
/-- slices.IndexFunc[[]loop.example/g01075/impl.Summand,loop.example/g01075/impl.Summand] -/
def c291 : SC := .seq (.reg [ro 4 (.asg (.c (.int .i64 0)))] (some [0, 1])) c291_2
theorem s291 : slimC ⟨19, [0, 1]⟩ (Try.f291.body.getD .skip) = some c291.strip := by kernel_rfl

def c235_2 : SC := .seq (.reg [ro 5 (.mv (.t 0)),
  ro 6 (.mv (.t 1)),
  ro 7 (.call (.f 291) [(.t 5), (.t 6)]),
  ro 8 (.bn .geq 3 (.t 7) (.c (.int .i64 0))),
  ro 4 (.asg (.t 8))] (some [4])) .ret
/-- slices.ContainsFunc[[]loop.example/g01075/impl.Summand,loop.example/g01075/impl.Summand] -/
def c235 : SC := .seq (.reg [ro 4 (.asg (.c (.bool false)))] (some [0, 1])) c235_2
theorem s235 : slimC ⟨9, [0, 1]⟩ (Try.f235.body.getD .skip) = some c235.strip := by kernel_rfl

def c160_6 : SC := .seq (.reg [ro 2 (.asg (.c (.bool false)))] (some [2])) .ret
def c160_5 : SC := .cond (.t 19) c160_6 .skip
def c160_10 : SC := .seq (.reg [ro 20 (.fa 90 (.t 1) 2),
  ro 21 (.ld 88 (.t 20)),
  ro 22 (.mkf 236 [(.t 1)]),
  ro 23 (.call (.f 235) [(.t 21), (.t 22)]),
  ro 24 (.un .not (.t 23)),
  ro 2 (.asg (.t 24))] (some [2])) .ret
def c160_2 : SC := .seq (.seq (.reg [ro 3 (.fa 90 (.t 1) 0),
  ro 4 (.ld 2 (.t 3)),
  ro 5 (.call (.f 138) [(.t 4), (.c (.int .i64 0)), (.c (.int .i64 21))]),
  ro 6 (.un .not (.t 5)),
  ro 7 (.mv (.t 6)),
  ⟨some 8, .ld 90 (.t 1), some (7, false)⟩,
  ⟨some 9, .fa 90 (.t 1) 1, some (7, false)⟩,
  ⟨some 10, .ld 68 (.t 9), some (7, false)⟩,
  ⟨some 11, .call (.f 234) [(.t 8), (.t 10)], some (7, false)⟩,
  ⟨some 12, .un .not (.t 11), some (7, false)⟩,
  ro 13 (.pick (.t 7) (.c (.bool true)) (.t 12)),
  ro 14 (.mv (.t 13)),
  ⟨some 15, .fa 90 (.t 1) 2, some (14, false)⟩,
  ⟨some 16, .ld 88 (.t 15), some (14, false)⟩,
  ⟨some 17, .len 88 (.t 16), some (14, false)⟩,
  ⟨some 18, .bn .gtr 3 (.t 17) (.c (.int .i64 60)), some (14, false)⟩,
  ro 19 (.pick (.t 14) (.c (.bool true)) (.t 18))] (some [1, 19])) c160_5) c160_10
/-- loop.example/g01075/impl.ValidLinear -/
def c160 : SC := .seq (.reg [ro 1 (.bx 90 (.t 0)),
  ro 2 (.asg (.c (.bool false)))] (some [1])) c160_2
theorem s160 : slimC ⟨25, [0]⟩ (Try.f160.body.getD .skip) = some c160.strip := by kernel_rfl





def c141_22 : SC := .reg [ro 15 (.mv (.t 3)),
  ro 16 (.fa 131 (.t 5) 1),
  ro 17 (.ld 2 (.t 16)),
  ro 18 (.bsl 68 1 [(0, (.t 17))]),
  ro 19 (.app 68 68 (.t 15) (.t 18)),
  ro 3 (.asg (.t 19))] (some [3, 6, 7, 8])
def c141_21 : SC := .cond (.t 14) c141_22 .skip
def c141_19 : SC := .seq (.reg [ro 12 (.fa 131 (.t 5) 0),
  ro 13 (.ld 2 (.t 12)),
  ro 14 (.bn .eql 2 (.t 13) (.c (.int .i64 1)))] (some [3, 5, 6, 7, 8, 14])) c141_21
def c141_24 : SC := .reg [ro 20 (.bn .add 3 (.t 8) (.c (.int .i64 1))),
  ro 8 (.mv (.t 20))] (some [3, 6, 7, 8])
def c141_15 : SC := .seq (.block 1 (.seq (.reg [ro 10 (.ia 40 (.t 6) (.t 8)),
  ro 11 (.ld 131 (.t 10)),
  ro 5 (.alc 131),
  ⟨none, .sto 131 (.t 5) (.t 11), none⟩] (some [3, 5, 6, 7, 8])) c141_19)) c141_24
def c141_11 : SC := .seq (.cond (.t 9) .skip (.exit 0)) c141_15
def c141_9 : SC := .seq (.reg [ro 9 (.bn .lss 3 (.t 8) (.t 7))] (some [3, 6, 7, 8, 9])) c141_11
def c141_7 : SC := .block 0 (.loop c141_9)
def c141_27 : SC := .seq (.reg [ro 23 (.mv (.t 3)),
  ro 24 (.call (.f 224) [(.t 23)]),
  ro 2 (.asg (.t 24))] (some [2])) .ret
def c141_25 : SC := .seq (.reg [ro 21 (.mv (.t 3)),
  ro 22 (.call (.f 223) [(.t 21)])] (some [3])) c141_27
def c141_4 : SC := .seq (.seq (.reg [ro 6 (.mv (.t 0)),
  ro 7 (.len 40 (.t 6)),
  ro 8 (.mv (.c (.int .i64 0)))] (some [3, 6, 7, 8])) c141_7) c141_25
def c141_2 : SC := .seq (.reg [ro 3 (.asg (.c .nils))] (some [0, 3])) c141_4
/-- loop.example/g01075/impl.variables -/
def c141 : SC := .seq (.reg [ro 2 (.asg (.c .nils))] (some [0])) c141_2
theorem s141 : slimC ⟨25, [0]⟩ (Try.f141.body.getD .skip) = some c141.strip := by kernel_rfl

def c317_20 : SC := .seq (.reg [ro 17 (.mv (.t 5)),
  ro 4 (.asg (.t 17))] (some [4])) .ret
def c317_19 : SC := .cond (.t 16) c317_20 .skip
def c317_17 : SC := .seq (.reg [ro 11 (.mv (.t 1)),
  ro 12 (.mv (.t 0)),
  ro 13 (.mv (.t 5)),
  ro 14 (.ia 68 (.t 12) (.t 13)),
  ro 15 (.ld 2 (.t 14)),
  ro 16 (.bn .eql 2 (.t 11) (.t 15))] (some [0, 1, 5, 7, 8, 16])) c317_19
def c317_24 : SC := .reg [ro 18 (.bn .add 3 (.t 8) (.c (.int .i64 1))),
  ro 8 (.mv (.t 18))] (some [0, 1, 7, 8])
def c317_13 : SC := .seq (.block 1 (.seq (.reg [ro 10 (.mv (.t 8)),
  ro 5 (.asg (.t 10))] (some [0, 1, 5, 7, 8])) c317_17)) c317_24
def c317_9 : SC := .seq (.cond (.t 9) .skip (.exit 0)) c317_13
def c317_7 : SC := .seq (.reg [ro 9 (.bn .lss 3 (.t 8) (.t 7))] (some [0, 1, 7, 8, 9])) c317_9
def c317_5 : SC := .block 0 (.loop c317_7)
def c317_25 : SC := .seq (.reg [ro 4 (.asg (.c (.int .i64 (-1))))] (some [4])) .ret
def c317_2 : SC := .seq (.seq (.reg [ro 6 (.mv (.t 0)),
  ro 7 (.len 68 (.t 6)),
  ro 8 (.mv (.c (.int .i64 0)))] (some [0, 1, 7, 8])) c317_5) c317_25
/-- slices.Index[[]int64,int64] -/
def c317 : SC := .seq (.reg [ro 4 (.asg (.c (.int .i64 0)))] (some [0, 1])) c317_2
theorem s317 : slimC ⟨19, [0, 1]⟩ (Try.f317.body.getD .skip) = some c317.strip := by kernel_rfl

def c263_2 : SC := .seq (.reg [ro 5 (.mv (.t 0)),
  ro 6 (.mv (.t 1)),
  ro 7 (.call (.f 317) [(.t 5), (.t 6)]),
  ro 8 (.bn .geq 3 (.t 7) (.c (.int .i64 0))),
  ro 4 (.asg (.t 8))] (some [4])) .ret
/-- slices.Contains[[]int64,int64] -/
def c263 : SC := .seq (.reg [ro 4 (.asg (.c (.bool false)))] (some [0, 1])) c263_2
theorem s263 : slimC ⟨9, [0, 1]⟩ (Try.f263.body.getD .skip) = some c263.strip := by kernel_rfl

def c262_24 : SC := .reg [ro 5 (.asg (.c (.bool true)))] (some [1, 2, 5, 9, 10, 11])
def c262_22 : SC := .seq (.reg [ro 25 (.ld 68 (.t 2)),
  ro 26 (.mv (.t 7)),
  ro 27 (.bsl 68 1 [(0, (.t 26))]),
  ro 28 (.app 68 68 (.t 25) (.t 27)),
  ⟨none, .sto 68 (.t 2) (.t 28), none⟩] (some [1, 2, 9, 10, 11])) c262_24
def c262_21 : SC := .cond (.t 24) c262_22 .skip
def c262_19 : SC := .seq (.reg [ro 15 (.mv (.t 7)),
  ro 16 (.fa 90 (.t 1) 0),
  ro 17 (.ld 2 (.t 16)),
  ro 18 (.bn .lss 2 (.t 15) (.t 17)),
  ro 19 (.mv (.t 18)),
  ⟨some 20, .ld 68 (.t 2), some (19, true)⟩,
  ⟨some 21, .mv (.t 7), some (19, true)⟩,
  ⟨some 22, .call (.f 263) [(.t 20), (.t 21)], some (19, true)⟩,
  ⟨some 23, .un .not (.t 22), some (19, true)⟩,
  ro 24 (.pick (.t 19) (.t 23) (.c (.bool false)))] (some [1, 2, 5, 7, 9, 10, 11, 24])) c262_21
def c262_26 : SC := .reg [ro 29 (.bn .add 3 (.t 11) (.c (.int .i64 1))),
  ro 11 (.mv (.t 29))] (some [1, 2, 5, 9, 10, 11])
def c262_15 : SC := .seq (.block 1 (.seq (.reg [ro 13 (.ia 68 (.t 9) (.t 11)),
  ro 14 (.ld 2 (.t 13)),
  ro 7 (.asg (.t 14))] (some [1, 2, 5, 7, 9, 10, 11])) c262_19)) c262_26
def c262_11 : SC := .seq (.cond (.t 12) .skip (.exit 0)) c262_15
def c262_9 : SC := .seq (.reg [ro 12 (.bn .lss 3 (.t 11) (.t 10))] (some [1, 2, 5, 9, 10, 11, 12])) c262_11
def c262_7 : SC := .block 0 (.loop c262_9)
def c262_27 : SC := .seq (.reg [ro 30 (.mv (.t 5)),
  ro 4 (.asg (.t 30))] (some [2, 4])) .ret
def c262_4 : SC := .seq (.seq (.reg [ro 8 (.mv (.t 0)),
  ro 9 (.call (.f 141) [(.t 8)]),
  ro 10 (.len 68 (.t 9)),
  ro 11 (.mv (.c (.int .i64 0)))] (some [1, 2, 5, 9, 10, 11])) c262_7) c262_27
def c262_2 : SC := .seq (.reg [ro 5 (.asg (.c (.bool false)))] (some [0, 1, 2, 5])) c262_4
/-- (loop.example/g01075/impl.Linear).needed$1 -/
def c262 : SC := .seq (.reg [ro 4 (.asg (.c (.bool false)))] (some [0, 1, 2])) c262_2
theorem s262 : slimC ⟨31, [0, 1, 2]⟩ (Try.f262.body.getD .skip) = some c262.strip := by kernel_rfl

def c262v2_24 : SC := .reg [ro 5 (.asg (.c (.bool true)))] (some [1, 2, 5, 9, 10, 11])
def c262v2_22 : SC := .seq (.reg [ro 25 (.ld 68 (.t 2)),
  ro 26 (.mv (.t 7)),
  ro 27 (.bsl 68 1 [(0, (.t 26))]),
  ro 28 (.app 68 68 (.t 25) (.t 27)),
  ⟨none, .sto 68 (.t 2) (.t 28), none⟩] (some [1, 2, 9, 10, 11])) c262v2_24
def c262v2_21 : SC := .cond (.t 24) c262v2_22 .skip
def c262v2_19 : SC := .seq (.reg [ro 15 (.mv (.t 7)),
  ro 16 (.fa 90 (.t 1) 0),
  ro 17 (.ld 2 (.t 16)),
  ro 18 (.bn .lss 2 (.t 15) (.t 17)),
  ro 19 (.mv (.t 18)),
  ⟨some 20, .ld 68 (.t 2), some (19, true)⟩,
  ⟨some 21, .mv (.t 7), some (19, true)⟩,
  ⟨some 22, .call (.f 263) [(.t 20), (.t 21)], some (19, true)⟩,
  ⟨some 23, .un .not (.t 22), some (19, true)⟩,
  ro 24 (.pick (.t 19) (.t 23) (.c (.bool false)))] (some [1, 2, 5, 7, 9, 10, 11, 24])) c262v2_21
def c262v2_26 : SC := .reg [ro 29 (.bn .add 3 (.t 11) (.c (.int .i64 1))),
  ro 11 (.mv (.t 29))] (some [1, 2, 5, 9, 10, 11])
def c262v2_15 : SC := .seq (.block 1 (.seq (.reg [ro 13 (.ia 68 (.t 9) (.t 11)),
  ro 14 (.ld 2 (.t 13)),
  ro 7 (.asg (.t 14))] (some [1, 2, 5, 7, 9, 10, 11])) c262v2_19)) c262v2_26
def c262v2_11 : SC := .seq (.cond (.t 12) .skip (.exit 0)) c262v2_15
def c262v2_9 : SC := .seq (.reg [ro 12 (.bn .lss 3 (.t 11) (.t 10))] (some [1, 2, 5, 9, 10, 11, 12])) c262v2_11
def c262v2_7 : SC := .block 0 (.loop c262v2_9)
def c262v2_27 : SC := .seq (.reg [ro 30 (.mv (.t 5)),
  ro 4 (.asg (.t 30))] (some [2, 4])) .ret
def c262v2_4 : SC := .seq (.seq (.reg [ro 8 (.mv (.t 0)),
  ro 9 (.call (.f 141) [(.t 8)]),
  ro 10 (.len 68 (.t 9)),
  ro 11 (.mv (.c (.int .i64 0)))] (some [1, 2, 5, 9, 10, 11])) c262v2_7) c262v2_27
def c262v2_2 : SC := .seq (.reg [ro 5 (.asg (.c (.bool false)))] (some [0, 1, 2, 5])) c262v2_4
/-- (loop.example/g01075/impl.Linear).needed$1 -/
def c262v2 : SC := .seq (.reg [ro 4 (.asg (.c (.bool false)))] (some [0, 1, 2])) c262v2_2
theorem s262v2 : slimC ⟨31, [0, 1, 2]⟩ (Try.f262.body.getD .skip) = some c262v2.strip := by kernel_rfl

def c181_35 : SC := .reg [ro 32 (.mv (.t 4)),
  ro 33 (.mv (.t 8)),
  ⟨some 34, .ka (.t 32) [(.t 33)] [4], none⟩] (some [1, 3, 4, 14, 15, 16, 26, 27, 28])
def c181_36 : SC := .reg [ro 35 (.bn .add 3 (.t 28) (.c (.int .i64 1))),
  ro 28 (.mv (.t 35))] (some [1, 3, 4, 14, 15, 16, 26, 27, 28])
def c181_31 : SC := .seq (.block 3 (.seq (.reg [ro 30 (.ia 195 (.t 26) (.t 28)),
  ro 31 (.ld 40 (.t 30)),
  ro 8 (.asg (.t 31))] (some [1, 3, 4, 8, 14, 15, 16, 26, 27, 28])) c181_35)) c181_36
def c181_27 : SC := .seq (.cond (.t 29) .skip (.exit 2)) c181_31
def c181_25 : SC := .seq (.reg [ro 29 (.bn .lss 3 (.t 28) (.t 27))] (some [1, 3, 4, 14, 15, 16, 26, 27, 28, 29])) c181_27
def c181_23 : SC := .block 2 (.loop c181_25)
def c181_21 : SC := .seq (.reg [ro 20 (.fa 197 (.t 6) 1),
  ro 21 (.ld 40 (.t 20)),
  ⟨some 22, .shr (.bsl 195 1 [(0, (.t 21))]), none⟩,
  ro 23 (.fa 197 (.t 6) 3),
  ro 24 (.ld 195 (.t 23)),
  ⟨some 25, .shr (.bsl 308 2 [(0, (.t 22)), (1, (.t 24))]), none⟩,
  ro 26 (.call (.f 249) [(.t 25)]),
  ro 27 (.len 195 (.t 26)),
  ro 28 (.mv (.c (.int .i64 0)))] (some [1, 3, 4, 14, 15, 16, 26, 27, 28])) c181_23
def c181_37 : SC := .reg [ro 36 (.bn .add 3 (.t 16) (.c (.int .i64 1))),
  ro 16 (.mv (.t 36))] (some [1, 3, 4, 14, 15, 16])
def c181_17 : SC := .seq (.block 1 (.seq (.reg [ro 18 (.ia 88 (.t 14) (.t 16)),
  ro 19 (.ld 197 (.t 18)),
  ro 6 (.alc 197),
  ⟨none, .sto 197 (.t 6) (.t 19), none⟩] (some [1, 3, 4, 6, 14, 15, 16])) c181_21)) c181_37
def c181_13 : SC := .seq (.cond (.t 17) .skip (.exit 0)) c181_17
def c181_11 : SC := .seq (.reg [ro 17 (.bn .lss 3 (.t 16) (.t 15))] (some [1, 3, 4, 14, 15, 16, 17])) c181_13
def c181_9 : SC := .block 0 (.loop c181_11)
def c181_46 : SC := .cond (.t 40) .skip (.exit 4)
def c181_65 : SC := .drw [ro 50 (.mv (.t 4)),
  ro 51 (.fa 197 (.t 11) 4),
  ro 52 (.ld 195 (.t 51)),
  ro 53 (.ld 68 (.t 3)),
  ro 54 (.mv (.t 9)),
  ro 55 (.ia 68 (.t 53) (.t 54)),
  ro 56 (.ld 2 (.t 55)),
  ro 57 (.ia 195 (.t 52) (.t 56)),
  ro 58 (.ld 40 (.t 57)),
  ⟨some 59, .ka (.t 50) [(.t 58)] [4], none⟩] [[], [], [1], [], [], [3, 4], [5], [2, 6], [7], [0, 8]] (some [1, 3, 4, 9, 44, 45, 46])
def c181_66 : SC := .reg [ro 60 (.bn .add 3 (.t 46) (.c (.int .i64 1))),
  ro 46 (.mv (.t 60))] (some [1, 3, 4, 9, 44, 45, 46])
def c181_61 : SC := .seq (.block 7 (.seq (.reg [ro 48 (.ia 88 (.t 44) (.t 46)),
  ro 49 (.ld 197 (.t 48)),
  ro 11 (.alc 197),
  ⟨none, .sto 197 (.t 11) (.t 49), none⟩] (some [1, 3, 4, 9, 11, 44, 45, 46])) c181_65)) c181_66
def c181_57 : SC := .seq (.cond (.t 47) .skip (.exit 6)) c181_61
def c181_55 : SC := .seq (.reg [ro 47 (.bn .lss 3 (.t 46) (.t 45))] (some [1, 3, 4, 9, 44, 45, 46, 47])) c181_57
def c181_53 : SC := .block 6 (.loop c181_55)
def c181_67 : SC := .reg [ro 41 (.mv (.t 9)),
  ro 42 (.bn .add 3 (.t 41) (.c (.int .i64 1))),
  ro 9 (.asg (.t 42))] (some [1, 3, 4, 9])
def c181_49 : SC := .seq (.block 5 (.seq (.reg [ro 43 (.fa 90 (.t 1) 2),
  ro 44 (.ld 88 (.t 43)),
  ro 45 (.len 88 (.t 44)),
  ro 46 (.mv (.c (.int .i64 0)))] (some [1, 3, 4, 9, 44, 45, 46])) c181_53)) c181_67
def c181_43 : SC := .seq (.seq (.reg [ro 37 (.mv (.t 9)),
  ro 38 (.ld 68 (.t 3)),
  ro 39 (.len 68 (.t 38)),
  ro 40 (.bn .lss 3 (.t 37) (.t 39))] (some [1, 3, 4, 9, 40])) c181_46) c181_49
def c181_41 : SC := .block 4 (.loop c181_43)
def c181_70 : SC := .seq (.reg [ro 63 (.ld 68 (.t 3)),
  ro 2 (.asg (.t 63))] (some [2])) .ret
def c181_68 : SC := .seq (.reg [ro 61 (.ld 68 (.t 3)),
  ro 62 (.call (.f 223) [(.t 61)])] (some [3])) c181_70
def c181_38 : SC := .seq (.seq (.reg [ro 9 (.asg (.c (.int .i64 0)))] (some [1, 3, 4, 9])) c181_41) c181_68
def c181_6 : SC := .seq (.seq (.reg [ro 13 (.fa 90 (.t 1) 2),
  ro 14 (.ld 88 (.t 13)),
  ro 15 (.len 88 (.t 14)),
  ro 16 (.mv (.c (.int .i64 0)))] (some [1, 3, 4, 14, 15, 16])) c181_9) c181_38
def c181_4 : SC := .seq (.reg [ro 12 (.mkf 262 [(.t 1), (.t 3)]),
  ro 4 (.asg (.t 12))] (some [1, 3, 4])) c181_6
def c181_2 : SC := .seq (.reg [ro 3 (.alc 68)] (some [1, 3])) c181_4
/-- (loop.example/g01075/impl.Linear).needed -/
def c181 : SC := .seq (.reg [ro 1 (.bx 90 (.t 0)),
  ro 2 (.asg (.c .nils))] (some [1])) c181_2
theorem s181 : slimC ⟨64, [0]⟩ (Try.f181.body.getD .skip) = some c181.strip := by kernel_rfl

def c89_6 : SC := .seq (.reg [ro 2 (.asg (.c .nils)),
  ro 3 (.asg (.c (.int .i64 1)))] (some [2, 3])) .ret
def c89_5 : SC := .cond (.t 6) c89_6 .skip
def c89_10 : SC := .seq (.reg [ro 7 (.ld 90 (.t 1)),
  ro 8 (.call (.f 181) [(.t 7)]),
  ro 2 (.asg (.t 8)),
  ro 3 (.asg (.c (.int .i64 0)))] (some [2, 3])) .ret
def c89_2 : SC := .seq (.seq (.reg [ro 4 (.ld 90 (.t 1)),
  ro 5 (.call (.f 160) [(.t 4)]),
  ro 6 (.un .not (.t 5))] (some [1, 6])) c89_5) c89_10
/-- loop.example/g01075/impl.NeededParameters -/
def c89 : SC := .seq (.reg [ro 1 (.bx 90 (.t 0)),
  ro 2 (.asg (.c .nils)),
  ro 3 (.asg (.c (.int .i64 0)))] (some [1])) c89_2
theorem s89 : slimC ⟨9, [0]⟩ (Try.f89.body.getD .skip) = some c89.strip := by kernel_rfl

def c59_6 : SC := .seq (.reg [ro 4 (.asg (.c (.bool false)))] (some [4])) .ret
def c59_5 : SC := .cond (.t 10) c59_6 .skip
def c59_18 : SC := .cond (.t 14) .skip (.exit 0)
def c59_26 : SC := .seq (.reg [ro 4 (.asg (.c (.bool false)))] (some [4])) .ret
def c59_25 : SC := .cond (.t 25) c59_26 .skip
def c59_30 : SC := .reg [ro 15 (.mv (.t 5)),
  ro 16 (.bn .add 3 (.t 15) (.c (.int .i64 1))),
  ro 5 (.asg (.t 16))] (some [0, 1, 5])
def c59_21 : SC := .seq (.block 1 (.seq (.drw [ro 17 (.mv (.t 0)),
  ro 18 (.mv (.t 5)),
  ro 19 (.ia 68 (.t 17) (.t 18)),
  ro 20 (.ld 2 (.t 19)),
  ro 21 (.mv (.t 1)),
  ro 22 (.mv (.t 5)),
  ro 23 (.ia 68 (.t 21) (.t 22)),
  ro 24 (.ld 2 (.t 23)),
  ro 25 (.bn .neq 2 (.t 20) (.t 24))] [[], [], [0, 1], [2], [], [], [4, 5], [6], [3, 7]] (some [0, 1, 5, 25])) c59_25)) c59_30
def c59_15 : SC := .seq (.seq (.reg [ro 11 (.mv (.t 5)),
  ro 12 (.mv (.t 0)),
  ro 13 (.len 68 (.t 12)),
  ro 14 (.bn .lss 3 (.t 11) (.t 13))] (some [0, 1, 5, 14])) c59_18) c59_21
def c59_13 : SC := .block 0 (.loop c59_15)
def c59_31 : SC := .seq (.reg [ro 4 (.asg (.c (.bool true)))] (some [4])) .ret
def c59_10 : SC := .seq (.seq (.reg [ro 5 (.asg (.c (.int .i64 0)))] (some [0, 1, 5])) c59_13) c59_31
def c59_2 : SC := .seq (.seq (.reg [ro 6 (.mv (.t 0)),
  ro 7 (.len 68 (.t 6)),
  ro 8 (.mv (.t 1)),
  ro 9 (.len 68 (.t 8)),
  ro 10 (.bn .neq 3 (.t 7) (.t 9))] (some [0, 1, 10])) c59_5) c59_10
/-- loop.example/g01075/laws.eqInt64S -/
def c59 : SC := .seq (.reg [ro 4 (.asg (.c (.bool false)))] (some [0, 1])) c59_2
theorem s59 : slimC ⟨26, [0, 1]⟩ (Try.f59.body.getD .skip) = some c59.strip := by kernel_rfl

def c111_6 : SC := .seq (.reg [ro 4 (.asg (.c (.bool false)))] (some [4])) .ret
def c111_5 : SC := .cond (.t 9) c111_6 .skip
def c111_14 : SC := .seq (.reg [ro 4 (.asg (.c (.bool false)))] (some [4])) .ret
def c111_13 : SC := .cond (.t 14) c111_14 .skip
def c111_18 : SC := .seq (.reg [ro 4 (.asg (.c (.bool true)))] (some [4])) .ret
def c111_10 : SC := .seq (.seq (.reg [ro 10 (.fa 131 (.t 2) 1),
  ro 11 (.ld 2 (.t 10)),
  ro 12 (.fa 131 (.t 3) 1),
  ro 13 (.ld 2 (.t 12)),
  ro 14 (.bn .neq 2 (.t 11) (.t 13))] (some [14])) c111_13) c111_18
def c111_2 : SC := .seq (.seq (.reg [ro 5 (.fa 131 (.t 2) 0),
  ro 6 (.ld 2 (.t 5)),
  ro 7 (.fa 131 (.t 3) 0),
  ro 8 (.ld 2 (.t 7)),
  ro 9 (.bn .neq 2 (.t 6) (.t 8))] (some [2, 3, 9])) c111_5) c111_10
/-- loop.example/g01075/laws.eqTerm -/
def c111 : SC := .seq (.reg [ro 2 (.bx 131 (.t 0)),
  ro 3 (.bx 131 (.t 1)),
  ro 4 (.asg (.c (.bool false)))] (some [2, 3])) c111_2
theorem s111 : slimC ⟨15, [0, 1]⟩ (Try.f111.body.getD .skip) = some c111.strip := by kernel_rfl

def c35_6 : SC := .seq (.reg [ro 4 (.asg (.c (.bool false)))] (some [4])) .ret
def c35_5 : SC := .cond (.t 10) c35_6 .skip
def c35_18 : SC := .cond (.t 14) .skip (.exit 0)
def c35_26 : SC := .seq (.reg [ro 4 (.asg (.c (.bool false)))] (some [4])) .ret
def c35_25 : SC := .cond (.t 26) c35_26 .skip
def c35_30 : SC := .reg [ro 15 (.mv (.t 5)),
  ro 16 (.bn .add 3 (.t 15) (.c (.int .i64 1))),
  ro 5 (.asg (.t 16))] (some [0, 1, 5])
def c35_21 : SC := .seq (.block 1 (.seq (.drw [ro 17 (.mv (.t 0)),
  ro 18 (.mv (.t 5)),
  ro 19 (.ia 40 (.t 17) (.t 18)),
  ro 20 (.ld 131 (.t 19)),
  ro 21 (.mv (.t 1)),
  ro 22 (.mv (.t 5)),
  ro 23 (.ia 40 (.t 21) (.t 22)),
  ro 24 (.ld 131 (.t 23)),
  ro 25 (.call (.f 111) [(.t 20), (.t 24)]),
  ro 26 (.un .not (.t 25))] [[], [], [0, 1], [2], [], [], [4, 5], [6], [3, 7], [8]] (some [0, 1, 5, 26])) c35_25)) c35_30
def c35_15 : SC := .seq (.seq (.reg [ro 11 (.mv (.t 5)),
  ro 12 (.mv (.t 0)),
  ro 13 (.len 40 (.t 12)),
  ro 14 (.bn .lss 3 (.t 11) (.t 13))] (some [0, 1, 5, 14])) c35_18) c35_21
def c35_13 : SC := .block 0 (.loop c35_15)
def c35_31 : SC := .seq (.reg [ro 4 (.asg (.c (.bool true)))] (some [4])) .ret
def c35_10 : SC := .seq (.seq (.reg [ro 5 (.asg (.c (.int .i64 0)))] (some [0, 1, 5])) c35_13) c35_31
def c35_2 : SC := .seq (.seq (.reg [ro 6 (.mv (.t 0)),
  ro 7 (.len 40 (.t 6)),
  ro 8 (.mv (.t 1)),
  ro 9 (.len 40 (.t 8)),
  ro 10 (.bn .neq 3 (.t 7) (.t 9))] (some [0, 1, 10])) c35_5) c35_10
/-- loop.example/g01075/laws.eqTermS -/
def c35 : SC := .seq (.reg [ro 4 (.asg (.c (.bool false)))] (some [0, 1])) c35_2
theorem s35 : slimC ⟨27, [0, 1]⟩ (Try.f35.body.getD .skip) = some c35.strip := by kernel_rfl

def c295_6 : SC := .seq (.reg [ro 4 (.asg (.c (.bool false)))] (some [4])) .ret
def c295_5 : SC := .cond (.t 10) c295_6 .skip
def c295_18 : SC := .cond (.t 14) .skip (.exit 0)
def c295_26 : SC := .seq (.reg [ro 4 (.asg (.c (.bool false)))] (some [4])) .ret
def c295_25 : SC := .cond (.t 26) c295_26 .skip
def c295_30 : SC := .reg [ro 15 (.mv (.t 5)),
  ro 16 (.bn .add 3 (.t 15) (.c (.int .i64 1))),
  ro 5 (.asg (.t 16))] (some [0, 1, 5])
def c295_21 : SC := .seq (.block 1 (.seq (.drw [ro 17 (.mv (.t 0)),
  ro 18 (.mv (.t 5)),
  ro 19 (.ia 195 (.t 17) (.t 18)),
  ro 20 (.ld 40 (.t 19)),
  ro 21 (.mv (.t 1)),
  ro 22 (.mv (.t 5)),
  ro 23 (.ia 195 (.t 21) (.t 22)),
  ro 24 (.ld 40 (.t 23)),
  ro 25 (.call (.f 35) [(.t 20), (.t 24)]),
  ro 26 (.un .not (.t 25))] [[], [], [0, 1], [2], [], [], [4, 5], [6], [3, 7], [8]] (some [0, 1, 5, 26])) c295_25)) c295_30
def c295_15 : SC := .seq (.seq (.reg [ro 11 (.mv (.t 5)),
  ro 12 (.mv (.t 0)),
  ro 13 (.len 195 (.t 12)),
  ro 14 (.bn .lss 3 (.t 11) (.t 13))] (some [0, 1, 5, 14])) c295_18) c295_21
def c295_13 : SC := .block 0 (.loop c295_15)
def c295_31 : SC := .seq (.reg [ro 4 (.asg (.c (.bool true)))] (some [4])) .ret
def c295_10 : SC := .seq (.seq (.reg [ro 5 (.asg (.c (.int .i64 0)))] (some [0, 1, 5])) c295_13) c295_31
def c295_2 : SC := .seq (.seq (.reg [ro 6 (.mv (.t 0)),
  ro 7 (.len 195 (.t 6)),
  ro 8 (.mv (.t 1)),
  ro 9 (.len 195 (.t 8)),
  ro 10 (.bn .neq 3 (.t 7) (.t 9))] (some [0, 1, 10])) c295_5) c295_10
/-- loop.example/g01075/laws.eqTermSS -/
def c295 : SC := .seq (.reg [ro 4 (.asg (.c (.bool false)))] (some [0, 1])) c295_2
theorem s295 : slimC ⟨27, [0, 1]⟩ (Try.f295.body.getD .skip) = some c295.strip := by kernel_rfl

def c239_6 : SC := .seq (.reg [ro 4 (.asg (.c (.bool false)))] (some [4])) .ret
def c239_5 : SC := .cond (.t 10) c239_6 .skip
def c239_14 : SC := .seq (.reg [ro 4 (.asg (.c (.bool false)))] (some [4])) .ret
def c239_13 : SC := .cond (.t 16) c239_14 .skip
def c239_22 : SC := .seq (.reg [ro 4 (.asg (.c (.bool false)))] (some [4])) .ret
def c239_21 : SC := .cond (.t 21) c239_22 .skip
def c239_30 : SC := .seq (.reg [ro 4 (.asg (.c (.bool false)))] (some [4])) .ret
def c239_29 : SC := .cond (.t 27) c239_30 .skip
def c239_38 : SC := .seq (.reg [ro 4 (.asg (.c (.bool false)))] (some [4])) .ret
def c239_37 : SC := .cond (.t 33) c239_38 .skip
def c239_42 : SC := .seq (.reg [ro 4 (.asg (.c (.bool true)))] (some [4])) .ret
def c239_34 : SC := .seq (.seq (.reg [ro 28 (.fa 197 (.t 2) 4),
  ro 29 (.ld 195 (.t 28)),
  ro 30 (.fa 197 (.t 3) 4),
  ro 31 (.ld 195 (.t 30)),
  ro 32 (.call (.f 295) [(.t 29), (.t 31)]),
  ro 33 (.un .not (.t 32))] (some [33])) c239_37) c239_42
def c239_26 : SC := .seq (.seq (.reg [ro 22 (.fa 197 (.t 2) 3),
  ro 23 (.ld 195 (.t 22)),
  ro 24 (.fa 197 (.t 3) 3),
  ro 25 (.ld 195 (.t 24)),
  ro 26 (.call (.f 295) [(.t 23), (.t 25)]),
  ro 27 (.un .not (.t 26))] (some [2, 3, 27])) c239_29) c239_34
def c239_18 : SC := .seq (.seq (.reg [ro 17 (.fa 197 (.t 2) 2),
  ro 18 (.ld 9 (.t 17)),
  ro 19 (.fa 197 (.t 3) 2),
  ro 20 (.ld 9 (.t 19)),
  ro 21 (.bn .neq 9 (.t 18) (.t 20))] (some [2, 3, 21])) c239_21) c239_26
def c239_10 : SC := .seq (.seq (.reg [ro 11 (.fa 197 (.t 2) 1),
  ro 12 (.ld 40 (.t 11)),
  ro 13 (.fa 197 (.t 3) 1),
  ro 14 (.ld 40 (.t 13)),
  ro 15 (.call (.f 35) [(.t 12), (.t 14)]),
  ro 16 (.un .not (.t 15))] (some [2, 3, 16])) c239_13) c239_18
def c239_2 : SC := .seq (.seq (.reg [ro 5 (.fa 197 (.t 2) 0),
  ro 6 (.ld 68 (.t 5)),
  ro 7 (.fa 197 (.t 3) 0),
  ro 8 (.ld 68 (.t 7)),
  ro 9 (.call (.f 59) [(.t 6), (.t 8)]),
  ro 10 (.un .not (.t 9))] (some [2, 3, 10])) c239_5) c239_10
/-- loop.example/g01075/laws.eqSummand -/
def c239 : SC := .seq (.reg [ro 2 (.bx 197 (.t 0)),
  ro 3 (.bx 197 (.t 1)),
  ro 4 (.asg (.c (.bool false)))] (some [2, 3])) c239_2
theorem s239 : slimC ⟨34, [0, 1]⟩ (Try.f239.body.getD .skip) = some c239.strip := by kernel_rfl

def c169_6 : SC := .seq (.reg [ro 4 (.asg (.c (.bool false)))] (some [4])) .ret
def c169_5 : SC := .cond (.t 10) c169_6 .skip
def c169_18 : SC := .cond (.t 14) .skip (.exit 0)
def c169_26 : SC := .seq (.reg [ro 4 (.asg (.c (.bool false)))] (some [4])) .ret
def c169_25 : SC := .cond (.t 26) c169_26 .skip
def c169_30 : SC := .reg [ro 15 (.mv (.t 5)),
  ro 16 (.bn .add 3 (.t 15) (.c (.int .i64 1))),
  ro 5 (.asg (.t 16))] (some [0, 1, 5])
def c169_21 : SC := .seq (.block 1 (.seq (.drw [ro 17 (.mv (.t 0)),
  ro 18 (.mv (.t 5)),
  ro 19 (.ia 88 (.t 17) (.t 18)),
  ro 20 (.ld 197 (.t 19)),
  ro 21 (.mv (.t 1)),
  ro 22 (.mv (.t 5)),
  ro 23 (.ia 88 (.t 21) (.t 22)),
  ro 24 (.ld 197 (.t 23)),
  ro 25 (.call (.f 239) [(.t 20), (.t 24)]),
  ro 26 (.un .not (.t 25))] [[], [], [0, 1], [2], [], [], [4, 5], [6], [3, 7], [8]] (some [0, 1, 5, 26])) c169_25)) c169_30
def c169_15 : SC := .seq (.seq (.reg [ro 11 (.mv (.t 5)),
  ro 12 (.mv (.t 0)),
  ro 13 (.len 88 (.t 12)),
  ro 14 (.bn .lss 3 (.t 11) (.t 13))] (some [0, 1, 5, 14])) c169_18) c169_21
def c169_13 : SC := .block 0 (.loop c169_15)
def c169_31 : SC := .seq (.reg [ro 4 (.asg (.c (.bool true)))] (some [4])) .ret
def c169_10 : SC := .seq (.seq (.reg [ro 5 (.asg (.c (.int .i64 0)))] (some [0, 1, 5])) c169_13) c169_31
def c169_2 : SC := .seq (.seq (.reg [ro 6 (.mv (.t 0)),
  ro 7 (.len 88 (.t 6)),
  ro 8 (.mv (.t 1)),
  ro 9 (.len 88 (.t 8)),
  ro 10 (.bn .neq 3 (.t 7) (.t 9))] (some [0, 1, 10])) c169_5) c169_10
/-- loop.example/g01075/laws.eqSummandS -/
def c169 : SC := .seq (.reg [ro 4 (.asg (.c (.bool false)))] (some [0, 1])) c169_2
theorem s169 : slimC ⟨27, [0, 1]⟩ (Try.f169.body.getD .skip) = some c169.strip := by kernel_rfl

def c76_6 : SC := .seq (.reg [ro 4 (.asg (.c (.bool false)))] (some [4])) .ret
def c76_5 : SC := .cond (.t 9) c76_6 .skip
def c76_14 : SC := .seq (.reg [ro 4 (.asg (.c (.bool false)))] (some [4])) .ret
def c76_13 : SC := .cond (.t 15) c76_14 .skip
def c76_22 : SC := .seq (.reg [ro 4 (.asg (.c (.bool false)))] (some [4])) .ret
def c76_21 : SC := .cond (.t 21) c76_22 .skip
def c76_26 : SC := .seq (.reg [ro 4 (.asg (.c (.bool true)))] (some [4])) .ret
def c76_18 : SC := .seq (.seq (.reg [ro 16 (.fa 90 (.t 2) 2),
  ro 17 (.ld 88 (.t 16)),
  ro 18 (.fa 90 (.t 3) 2),
  ro 19 (.ld 88 (.t 18)),
  ro 20 (.call (.f 169) [(.t 17), (.t 19)]),
  ro 21 (.un .not (.t 20))] (some [21])) c76_21) c76_26
def c76_10 : SC := .seq (.seq (.reg [ro 10 (.fa 90 (.t 2) 1),
  ro 11 (.ld 68 (.t 10)),
  ro 12 (.fa 90 (.t 3) 1),
  ro 13 (.ld 68 (.t 12)),
  ro 14 (.call (.f 59) [(.t 11), (.t 13)]),
  ro 15 (.un .not (.t 14))] (some [2, 3, 15])) c76_13) c76_18
def c76_2 : SC := .seq (.seq (.reg [ro 5 (.fa 90 (.t 2) 0),
  ro 6 (.ld 2 (.t 5)),
  ro 7 (.fa 90 (.t 3) 0),
  ro 8 (.ld 2 (.t 7)),
  ro 9 (.bn .neq 2 (.t 6) (.t 8))] (some [2, 3, 9])) c76_5) c76_10
/-- loop.example/g01075/laws.eqLinear -/
def c76 : SC := .seq (.reg [ro 2 (.bx 90 (.t 0)),
  ro 3 (.bx 90 (.t 1)),
  ro 4 (.asg (.c (.bool false)))] (some [2, 3])) c76_2
theorem s76 : slimC ⟨22, [0, 1]⟩ (Try.f76.body.getD .skip) = some c76.strip := by kernel_rfl

def c61_10 : SC := .cond (.t 9) .skip (.exit 0)
def c61_17 : SC := .reg [ro 16 (.mv (.t 1)),
  ro 17 (.bn .add 3 (.t 16) (.c (.int .i64 1))),
  ro 1 (.asg (.t 17))] (some [0, 1, 5])
def c61_18 : SC := .reg [ro 10 (.mv (.t 5)),
  ro 11 (.bn .add 3 (.t 10) (.c (.int .i64 1))),
  ro 5 (.asg (.t 11))] (some [0, 1, 5])
def c61_13 : SC := .seq (.block 1 (.seq (.reg [ro 12 (.mv (.t 0)),
  ro 13 (.mv (.t 5)),
  ro 14 (.mv (.t 1)),
  ro 15 (.ia 68 (.t 12) (.t 13)),
  ⟨none, .sto 2 (.t 15) (.t 14), none⟩] (some [0, 1, 5])) c61_17)) c61_18
def c61_7 : SC := .seq (.seq (.reg [ro 6 (.mv (.t 5)),
  ro 7 (.mv (.t 0)),
  ro 8 (.len 68 (.t 7)),
  ro 9 (.bn .lss 3 (.t 6) (.t 8))] (some [0, 1, 5, 9])) c61_10) c61_13
def c61_5 : SC := .block 0 (.loop c61_7)
def c61_19 : SC := .seq (.reg [ro 18 (.mv (.t 1)),
  ro 4 (.asg (.t 18))] (some [0, 4])) .ret
def c61_2 : SC := .seq (.seq (.reg [ro 5 (.asg (.c (.int .i64 0)))] (some [0, 1, 5])) c61_5) c61_19
/-- loop.example/g01075/laws.markInt64S -/
def c61 : SC := .seq (.reg [ro 4 (.asg (.c (.int .i64 0)))] (some [0, 1])) c61_2
theorem s61 : slimC ⟨19, [0]⟩ (Try.f61.body.getD .skip) = some c61.strip := by kernel_rfl

def c60_10 : SC := .cond (.t 9) .skip (.exit 0)
def c60_21 : SC := .reg [ro 24 (.mv (.t 1)),
  ro 25 (.bn .add 3 (.t 24) (.c (.int .i64 1))),
  ro 1 (.asg (.t 25))] (some [0, 1, 5])
def c60_19 : SC := .seq (.reg [ro 19 (.mv (.t 0)),
  ro 20 (.mv (.t 5)),
  ro 21 (.mv (.t 1)),
  ro 22 (.ia 40 (.t 19) (.t 20)),
  ro 23 (.fa 131 (.t 22) 1),
  ⟨none, .sto 2 (.t 23) (.t 21), none⟩] (some [0, 1, 5])) c60_21
def c60_17 : SC := .seq (.reg [ro 17 (.mv (.t 1)),
  ro 18 (.bn .add 3 (.t 17) (.c (.int .i64 1))),
  ro 1 (.asg (.t 18))] (some [0, 1, 5])) c60_19
def c60_22 : SC := .reg [ro 10 (.mv (.t 5)),
  ro 11 (.bn .add 3 (.t 10) (.c (.int .i64 1))),
  ro 5 (.asg (.t 11))] (some [0, 1, 5])
def c60_13 : SC := .seq (.block 1 (.seq (.reg [ro 12 (.mv (.t 0)),
  ro 13 (.mv (.t 5)),
  ro 14 (.mv (.t 1)),
  ro 15 (.ia 40 (.t 12) (.t 13)),
  ro 16 (.fa 131 (.t 15) 0),
  ⟨none, .sto 2 (.t 16) (.t 14), none⟩] (some [0, 1, 5])) c60_17)) c60_22
def c60_7 : SC := .seq (.seq (.reg [ro 6 (.mv (.t 5)),
  ro 7 (.mv (.t 0)),
  ro 8 (.len 40 (.t 7)),
  ro 9 (.bn .lss 3 (.t 6) (.t 8))] (some [0, 1, 5, 9])) c60_10) c60_13
def c60_5 : SC := .block 0 (.loop c60_7)
def c60_23 : SC := .seq (.reg [ro 26 (.mv (.t 1)),
  ro 4 (.asg (.t 26))] (some [0, 4])) .ret
def c60_2 : SC := .seq (.seq (.reg [ro 5 (.asg (.c (.int .i64 0)))] (some [0, 1, 5])) c60_5) c60_23
/-- loop.example/g01075/laws.markTermS -/
def c60 : SC := .seq (.reg [ro 4 (.asg (.c (.int .i64 0)))] (some [0, 1])) c60_2
theorem s60 : slimC ⟨27, [0]⟩ (Try.f60.body.getD .skip) = some c60.strip := by kernel_rfl

def c114_6 : SC := .seq (.reg [ro 2 (.asg (.c (.str [109, 48])))] (some [2])) .ret
def c114_5 : SC := .cond (.t 5) c114_6 .skip
def c114_18 : SC := .cond (.t 7) .skip (.exit 0)
def c114_24 : SC := .reg [ro 16 (.mv (.t 0)),
  ro 17 (.bn .quo 3 (.t 16) (.c (.int .i64 10))),
  ro 0 (.asg (.t 17))] (some [0, 3])
def c114_21 : SC := .block 1 (.seq (.reg [ro 8 (.mv (.t 0)),
  ro 9 (.bn .rem 3 (.t 8) (.c (.int .i64 10))),
  ro 10 (.bn .add 3 (.c (.int .i64 48)) (.t 9)),
  ro 11 (.cvt 3 5 (.t 10)),
  ro 12 (.bsl 107 1 [(0, (.t 11))]),
  ro 13 (.cvt 107 9 (.t 12)),
  ro 14 (.mv (.t 3)),
  ro 15 (.bn .add 9 (.t 13) (.t 14)),
  ro 3 (.asg (.t 15))] (some [0, 3])) c114_24)
def c114_15 : SC := .seq (.seq (.reg [ro 6 (.mv (.t 0)),
  ro 7 (.bn .gtr 3 (.t 6) (.c (.int .i64 0)))] (some [0, 3, 7])) c114_18) c114_21
def c114_25 : SC := .seq (.reg [ro 18 (.mv (.t 3)),
  ro 19 (.bn .add 9 (.c (.str [109])) (.t 18)),
  ro 2 (.asg (.t 19))] (some [2])) .ret
def c114_12 : SC := .seq (.block 0 (.loop c114_15)) c114_25
def c114_10 : SC := .seq (.reg [ro 3 (.asg (.c (.str [])))] (some [0, 3])) c114_12
def c114_2 : SC := .seq (.seq (.reg [ro 4 (.mv (.t 0)),
  ro 5 (.bn .leq 3 (.t 4) (.c (.int .i64 0)))] (some [0, 5])) c114_5) c114_10
/-- loop.example/g01075/laws.markText -/
def c114 : SC := .seq (.reg [ro 2 (.asg (.c (.str [])))] (some [0])) c114_2
theorem s114 : slimC ⟨20, []⟩ (Try.f114.body.getD .skip) = some c114.strip := by kernel_rfl

def c240_10 : SC := .cond (.t 9) .skip (.exit 0)
def c240_16 : SC := .reg [ro 10 (.mv (.t 5)),
  ro 11 (.bn .add 3 (.t 10) (.c (.int .i64 1))),
  ro 5 (.asg (.t 11))] (some [0, 1, 5])
def c240_13 : SC := .seq (.block 1 (.reg [ro 12 (.mv (.t 0)),
  ro 13 (.mv (.t 5)),
  ro 14 (.ia 195 (.t 12) (.t 13)),
  ro 15 (.ld 40 (.t 14)),
  ro 16 (.mv (.t 1)),
  ro 17 (.call (.f 60) [(.t 15), (.t 16)]),
  ro 1 (.asg (.t 17))] (some [0, 1, 5]))) c240_16
def c240_7 : SC := .seq (.seq (.reg [ro 6 (.mv (.t 5)),
  ro 7 (.mv (.t 0)),
  ro 8 (.len 195 (.t 7)),
  ro 9 (.bn .lss 3 (.t 6) (.t 8))] (some [0, 1, 5, 9])) c240_10) c240_13
def c240_5 : SC := .block 0 (.loop c240_7)
def c240_17 : SC := .seq (.reg [ro 18 (.mv (.t 1)),
  ro 4 (.asg (.t 18))] (some [0, 4])) .ret
def c240_2 : SC := .seq (.seq (.reg [ro 5 (.asg (.c (.int .i64 0)))] (some [0, 1, 5])) c240_5) c240_17
/-- loop.example/g01075/laws.markTermSS -/
def c240 : SC := .seq (.reg [ro 4 (.asg (.c (.int .i64 0)))] (some [0, 1])) c240_2
theorem s240 : slimC ⟨19, [0]⟩ (Try.f240.body.getD .skip) = some c240.strip := by kernel_rfl

def c170_10 : SC := .cond (.t 9) .skip (.exit 0)
def c170_25 : SC := .reg [ro 41 (.mv (.t 0)),
  ro 42 (.mv (.t 5)),
  ro 43 (.ia 88 (.t 41) (.t 42)),
  ro 44 (.fa 197 (.t 43) 4),
  ro 45 (.ld 195 (.t 44)),
  ro 46 (.mv (.t 1)),
  ro 47 (.call (.f 240) [(.t 45), (.t 46)]),
  ro 1 (.asg (.t 47))] (some [0, 1, 5])
def c170_23 : SC := .seq (.reg [ro 34 (.mv (.t 0)),
  ro 35 (.mv (.t 5)),
  ro 36 (.ia 88 (.t 34) (.t 35)),
  ro 37 (.fa 197 (.t 36) 3),
  ro 38 (.ld 195 (.t 37)),
  ro 39 (.mv (.t 1)),
  ro 40 (.call (.f 240) [(.t 38), (.t 39)]),
  ro 1 (.asg (.t 40))] (some [0, 1, 5])) c170_25
def c170_21 : SC := .seq (.reg [ro 32 (.mv (.t 1)),
  ro 33 (.bn .add 3 (.t 32) (.c (.int .i64 1))),
  ro 1 (.asg (.t 33))] (some [0, 1, 5])) c170_23
def c170_19 : SC := .seq (.reg [ro 26 (.mv (.t 0)),
  ro 27 (.mv (.t 5)),
  ro 28 (.mv (.t 1)),
  ro 29 (.call (.f 114) [(.t 28)]),
  ro 30 (.ia 88 (.t 26) (.t 27)),
  ro 31 (.fa 197 (.t 30) 2),
  ⟨none, .sto 9 (.t 31) (.t 29), none⟩] (some [0, 1, 5])) c170_21
def c170_17 : SC := .seq (.reg [ro 19 (.mv (.t 0)),
  ro 20 (.mv (.t 5)),
  ro 21 (.ia 88 (.t 19) (.t 20)),
  ro 22 (.fa 197 (.t 21) 1),
  ro 23 (.ld 40 (.t 22)),
  ro 24 (.mv (.t 1)),
  ro 25 (.call (.f 60) [(.t 23), (.t 24)]),
  ro 1 (.asg (.t 25))] (some [0, 1, 5])) c170_19
def c170_26 : SC := .reg [ro 10 (.mv (.t 5)),
  ro 11 (.bn .add 3 (.t 10) (.c (.int .i64 1))),
  ro 5 (.asg (.t 11))] (some [0, 1, 5])
def c170_13 : SC := .seq (.block 1 (.seq (.reg [ro 12 (.mv (.t 0)),
  ro 13 (.mv (.t 5)),
  ro 14 (.ia 88 (.t 12) (.t 13)),
  ro 15 (.fa 197 (.t 14) 0),
  ro 16 (.ld 68 (.t 15)),
  ro 17 (.mv (.t 1)),
  ro 18 (.call (.f 61) [(.t 16), (.t 17)]),
  ro 1 (.asg (.t 18))] (some [0, 1, 5])) c170_17)) c170_26
def c170_7 : SC := .seq (.seq (.reg [ro 6 (.mv (.t 5)),
  ro 7 (.mv (.t 0)),
  ro 8 (.len 88 (.t 7)),
  ro 9 (.bn .lss 3 (.t 6) (.t 8))] (some [0, 1, 5, 9])) c170_10) c170_13
def c170_5 : SC := .block 0 (.loop c170_7)
def c170_27 : SC := .seq (.reg [ro 48 (.mv (.t 1)),
  ro 4 (.asg (.t 48))] (some [0, 4])) .ret
def c170_2 : SC := .seq (.seq (.reg [ro 5 (.asg (.c (.int .i64 0)))] (some [0, 1, 5])) c170_5) c170_27
/-- loop.example/g01075/laws.markSummandS -/
def c170 : SC := .seq (.reg [ro 4 (.asg (.c (.int .i64 0)))] (some [0, 1])) c170_2
theorem s170 : slimC ⟨49, [0]⟩ (Try.f170.body.getD .skip) = some c170.strip := by kernel_rfl

def c77_6 : SC := .seq (.reg [ro 13 (.mv (.t 1)),
  ro 4 (.asg (.t 13))] (some [0, 4])) .ret
def c77_4 : SC := .seq (.reg [ro 9 (.fa 90 (.t 2) 2),
  ro 10 (.ld 88 (.t 9)),
  ro 11 (.mv (.t 1)),
  ro 12 (.call (.f 170) [(.t 10), (.t 11)]),
  ro 1 (.asg (.t 12))] (some [0, 1])) c77_6
def c77_2 : SC := .seq (.reg [ro 5 (.fa 90 (.t 2) 1),
  ro 6 (.ld 68 (.t 5)),
  ro 7 (.mv (.t 1)),
  ⟨some 8, .ka (.f 61) [(.t 6), (.t 7)] [2], none⟩,
  ro 1 (.asg (.t 8))] (some [0, 1, 2])) c77_4
/-- loop.example/g01075/laws.markLinear -/
def c77 : SC := .seq (.reg [⟨some 2, .bxs 90 (.t 0), none⟩,
  ro 4 (.asg (.c (.int .i64 0)))] (some [0, 1, 2])) c77_2
theorem s77 : slimC ⟨14, [0]⟩ (Try.f77.body.getD .skip) = some c77.strip := by kernel_rfl

def c62_10 : SC := .cond (.t 9) .skip (.exit 0)
def c62_19 : SC := .seq (.reg [ro 4 (.asg (.c (.int .i64 (-1))))] (some [4])) .ret
def c62_18 : SC := .cond (.t 17) c62_19 .skip
def c62_23 : SC := .reg [ro 18 (.mv (.t 1)),
  ro 19 (.bn .add 3 (.t 18) (.c (.int .i64 1))),
  ro 1 (.asg (.t 19))] (some [0, 1, 5])
def c62_24 : SC := .reg [ro 10 (.mv (.t 5)),
  ro 11 (.bn .add 3 (.t 10) (.c (.int .i64 1))),
  ro 5 (.asg (.t 11))] (some [0, 1, 5])
def c62_13 : SC := .seq (.block 1 (.seq (.seq (.reg [ro 12 (.mv (.t 0)),
  ro 13 (.mv (.t 5)),
  ro 14 (.ia 68 (.t 12) (.t 13)),
  ro 15 (.ld 2 (.t 14)),
  ro 16 (.mv (.t 1)),
  ro 17 (.bn .neq 2 (.t 15) (.t 16))] (some [0, 1, 5, 17])) c62_18) c62_23)) c62_24
def c62_7 : SC := .seq (.seq (.reg [ro 6 (.mv (.t 5)),
  ro 7 (.mv (.t 0)),
  ro 8 (.len 68 (.t 7)),
  ro 9 (.bn .lss 3 (.t 6) (.t 8))] (some [0, 1, 5, 9])) c62_10) c62_13
def c62_5 : SC := .block 0 (.loop c62_7)
def c62_25 : SC := .seq (.reg [ro 20 (.mv (.t 1)),
  ro 4 (.asg (.t 20))] (some [4])) .ret
def c62_2 : SC := .seq (.seq (.reg [ro 5 (.asg (.c (.int .i64 0)))] (some [0, 1, 5])) c62_5) c62_25
/-- loop.example/g01075/laws.heldInt64S -/
def c62 : SC := .seq (.reg [ro 4 (.asg (.c (.int .i64 0)))] (some [0, 1])) c62_2
theorem s62 : slimC ⟨21, [0]⟩ (Try.f62.body.getD .skip) = some c62.strip := by kernel_rfl

def c20_10 : SC := .seq (.reg [ro 2 (.asg (.c (.bool true)))] (some [2])) .ret
def c20_9 : SC := .cond (.t 18) c20_10 .skip
def c20_24 : SC := .seq (.reg [ro 2 (.asg (.c (.bool false)))] (some [2])) .ret
def c20_23 : SC := .cond (.t 40) c20_24 .skip
def c20_32 : SC := .seq (.reg [ro 2 (.asg (.c (.bool false)))] (some [2])) .ret
def c20_31 : SC := .cond (.t 45) c20_32 .skip
def c20_44 : SC := .seq (.reg [ro 2 (.asg (.c (.bool false)))] (some [2])) .ret
def c20_43 : SC := .cond (.t 61) c20_44 .skip
def c20_60 : SC := .seq (.reg [ro 2 (.asg (.c (.bool false)))] (some [2])) .ret
def c20_59 : SC := .cond (.t 69) c20_60 .skip
def c20_68 : SC := .seq (.reg [ro 2 (.asg (.c (.bool false)))] (some [2])) .ret
def c20_67 : SC := .cond (.t 72) c20_68 .skip
def c20_78 : SC := .seq (.reg [ro 2 (.asg (.c (.bool false)))] (some [2])) .ret
def c20_77 : SC := .cond (.t 87) c20_78 .skip
def c20_90 : SC := .seq (.reg [ro 2 (.asg (.c (.bool false)))] (some [2])) .ret
def c20_89 : SC := .cond (.t 92) c20_90 .skip
def c20_98 : SC := .seq (.reg [ro 2 (.asg (.c (.bool false)))] (some [2])) .ret
def c20_97 : SC := .cond (.t 95) c20_98 .skip
def c20_102 : SC := .seq (.reg [ro 2 (.asg (.c (.bool true)))] (some [2])) .ret
def c20_94 : SC := .seq (.seq (.reg [ro 93 (.mv (.t 11)),
  ro 94 (.mv (.t 10)),
  ro 95 (.bn .neq 3 (.t 93) (.t 94))] (some [95])) c20_97) c20_102
def c20_86 : SC := .seq (.seq (.reg [ro 91 (.mv (.t 11)),
  ro 92 (.bn .lss 3 (.t 91) (.c (.int .i64 0)))] (some [10, 11, 92])) c20_89) c20_94
def c20_84 : SC := .seq (.reg [ro 88 (.mv (.t 7)),
  ro 89 (.mv (.t 11)),
  ro 90 (.call (.f 62) [(.t 88), (.t 89)]),
  ro 11 (.asg (.t 90))] (some [10, 11])) c20_86
def c20_82 : SC := .seq (.reg [ro 11 (.asg (.c (.int .i64 1)))] (some [7, 10, 11])) c20_84
def c20_74 : SC := .seq (.seq (.reg [ro 79 (.mv (.t 12)),
  ro 80 (.mv (.t 4)),
  ro 81 (.call (.f 59) [(.t 79), (.t 80)]),
  ro 82 (.un .not (.t 81)),
  ro 83 (.mv (.t 82)),
  ⟨some 84, .mv (.t 13), some (83, false)⟩,
  ⟨some 85, .mv (.t 5), some (83, false)⟩,
  ⟨some 86, .bn .neq 2 (.t 84) (.t 85), some (83, false)⟩,
  ro 87 (.pick (.t 83) (.c (.bool true)) (.t 86))] (some [7, 10, 87])) c20_77) c20_82
def c20_72 : SC := .seq (.reg [ro 74 (.ld 86 (.t 1)),
  ro 75 (.call (.f 74) [(.t 74)]),
  ro 76 (.call (.f 89) [(.t 75)]),
  ro 73 (.mv (.t 76)),
  ro 77 (.ex (.t 73) 0),
  ro 78 (.ex (.t 73) 1),
  ro 12 (.asg (.t 77)),
  ro 13 (.asg (.t 78))] (some [4, 5, 7, 10, 12, 13])) c20_74
def c20_64 : SC := .seq (.seq (.reg [ro 70 (.mv (.t 11)),
  ro 71 (.mv (.t 10)),
  ro 72 (.bn .neq 3 (.t 70) (.t 71))] (some [1, 4, 5, 7, 10, 72])) c20_67) c20_72
def c20_56 : SC := .seq (.seq (.reg [ro 68 (.mv (.t 11)),
  ro 69 (.bn .lss 3 (.t 68) (.c (.int .i64 0)))] (some [1, 4, 5, 7, 10, 11, 69])) c20_59) c20_64
def c20_54 : SC := .seq (.reg [ro 65 (.mv (.t 7)),
  ro 66 (.mv (.t 11)),
  ro 67 (.call (.f 62) [(.t 65), (.t 66)]),
  ro 11 (.asg (.t 67))] (some [1, 4, 5, 7, 10, 11])) c20_56
def c20_52 : SC := .seq (.reg [ro 11 (.asg (.c (.int .i64 1)))] (some [1, 4, 5, 7, 10, 11])) c20_54
def c20_50 : SC := .seq (.reg [ro 62 (.mv (.t 7)),
  ro 63 (.mv (.t 10)),
  ro 64 (.call (.f 61) [(.t 62), (.t 63)]),
  ro 10 (.asg (.t 64))] (some [1, 4, 5, 7, 10])) c20_52
def c20_48 : SC := .seq (.reg [ro 10 (.asg (.c (.int .i64 1)))] (some [1, 4, 5, 7, 10])) c20_50
def c20_40 : SC := .seq (.seq (.reg [ro 49 (.mv (.t 9)),
  ro 50 (.bn .lss 3 (.t 49) (.c (.int .i64 0))),
  ro 51 (.mv (.t 50)),
  ⟨some 52, .mv (.t 7), some (51, false)⟩,
  ⟨some 53, .mv (.t 4), some (51, false)⟩,
  ⟨some 54, .call (.f 59) [(.t 52), (.t 53)], some (51, false)⟩,
  ⟨some 55, .un .not (.t 54), some (51, false)⟩,
  ro 56 (.pick (.t 51) (.c (.bool true)) (.t 55)),
  ro 57 (.mv (.t 56)),
  ⟨some 58, .mv (.t 8), some (57, false)⟩,
  ⟨some 59, .mv (.t 5), some (57, false)⟩,
  ⟨some 60, .bn .neq 2 (.t 58) (.t 59), some (57, false)⟩,
  ro 61 (.pick (.t 57) (.c (.bool true)) (.t 60))] (some [1, 4, 5, 7, 61])) c20_43) c20_48
def c20_38 : SC := .seq (.reg [ro 46 (.ld 90 (.t 6)),
  ro 47 (.mv (.t 9)),
  ro 48 (.call (.f 77) [(.t 46), (.t 47)]),
  ro 9 (.asg (.t 48))] (some [1, 4, 5, 7, 8, 9])) c20_40
def c20_36 : SC := .seq (.reg [ro 9 (.asg (.c (.int .i64 1)))] (some [1, 4, 5, 6, 7, 8, 9])) c20_38
def c20_28 : SC := .seq (.seq (.drw [ro 41 (.ld 90 (.t 6)),
  ro 42 (.ld 86 (.t 1)),
  ro 43 (.call (.f 74) [(.t 42)]),
  ro 44 (.call (.f 76) [(.t 41), (.t 43)]),
  ro 45 (.un .not (.t 44))] [[], [], [1], [0, 2, 2], [3]] (some [1, 4, 5, 6, 7, 8, 45])) c20_31) c20_36
def c20_20 : SC := .seq (.seq (.reg [ro 32 (.mv (.t 7)),
  ro 33 (.mv (.t 4)),
  ro 34 (.call (.f 59) [(.t 32), (.t 33)]),
  ro 35 (.un .not (.t 34)),
  ro 36 (.mv (.t 35)),
  ⟨some 37, .mv (.t 8), some (36, false)⟩,
  ⟨some 38, .mv (.t 5), some (36, false)⟩,
  ⟨some 39, .bn .neq 2 (.t 37) (.t 38), some (36, false)⟩,
  ro 40 (.pick (.t 36) (.c (.bool true)) (.t 39))] (some [1, 4, 5, 6, 7, 8, 40])) c20_23) c20_28
def c20_18 : SC := .seq (.reg [ro 28 (.ld 90 (.t 6)),
  ro 29 (.call (.f 89) [(.t 28)]),
  ro 27 (.mv (.t 29)),
  ro 30 (.ex (.t 27) 0),
  ro 31 (.ex (.t 27) 1),
  ro 7 (.asg (.t 30)),
  ro 8 (.asg (.t 31))] (some [1, 4, 5, 6, 7, 8])) c20_20
def c20_16 : SC := .seq (.reg [ro 25 (.ld 86 (.t 1)),
  ro 26 (.call (.f 74) [(.t 25)]),
  ro 6 (.alc 90),
  ⟨none, .sto 90 (.t 6) (.t 26), none⟩] (some [1, 4, 5, 6])) c20_18
def c20_14 : SC := .seq (.reg [ro 20 (.ld 86 (.t 1)),
  ro 21 (.call (.f 74) [(.t 20)]),
  ro 22 (.call (.f 88) [(.t 21)]),
  ro 19 (.mv (.t 22)),
  ro 23 (.ex (.t 19) 0),
  ro 24 (.ex (.t 19) 1),
  ro 4 (.asg (.t 23)),
  ro 5 (.asg (.t 24))] (some [1, 4, 5])) c20_16
def c20_6 : SC := .seq (.seq (.reg [ro 17 (.mv (.t 3)),
  ro 18 (.bn .lss 3 (.t 17) (.c (.int .i64 0)))] (some [1, 18])) c20_9) c20_14
def c20_4 : SC := .seq (.reg [ro 14 (.ld 86 (.t 1)),
  ro 15 (.mv (.t 3)),
  ro 16 (.call (.f 72) [(.t 14), (.t 15)]),
  ro 3 (.asg (.t 16))] (some [1, 3])) c20_6
def c20_2 : SC := .seq (.reg [ro 3 (.asg (.c (.int .i64 1048576)))] (some [1, 3])) c20_4
/-- loop.example/g01075/laws.FnExactNeededParameters -/
def c20 : SC := .seq (.reg [ro 1 (.bx 86 (.t 0)),
  ro 2 (.asg (.c (.bool false)))] (some [1])) c20_2
theorem s20 : slimC ⟨96, [0]⟩ (Try.f20.body.getD .skip) = some c20.strip := by kernel_rfl

end Go.Proofs.Ytobljppjkklojaa
