/- Part of a proof that a law returns true for every input. No condition. -/
import Derived.Test.YtbemmmimelklkaaTb
import Derived.Test.YtbemmmimelklkaaFwL
import Derived.Test.YtbemmmimelklkaaP3
namespace Go.Proofs.Ytbemmmimelklkaa
open Go Go.Fw Go.Sh
set_option linter.unusedSimpArgs false

def e_laws_Term (x : laws_Term) : AV := .agg [.int .i64 x.Kind, .int .i64 x.Value]
theorem sh_e_laws_Term (x : laws_Term) : (e_laws_Term x).share = e_laws_Term x := by
  simp only [e_laws_Term, share_s]
theorem ns_e_laws_Term (x : laws_Term) : (e_laws_Term x).nosh = true := by
  simp only [e_laws_Term, AV.nosh, AV.noshs, Bool.and_self]
def e_s_laws_Term (x : List laws_Term) : AV := .slice (x.map e_laws_Term)
theorem sh_e_s_laws_Term (x : List laws_Term) : (e_s_laws_Term x).share = e_s_laws_Term x := by
  simp only [e_s_laws_Term, share_s, @shares_map _ e_laws_Term e_laws_Term (fun _ => sh_e_laws_Term _)]
def e_laws_Part (x : laws_Part) : AV := .agg [.int .i64 x.Kind, .int .i64 x.Number, .str x.Name, .slice (x.Arguments.map e_s_laws_Term)]
theorem sh_e_laws_Part (x : laws_Part) : (e_laws_Part x).share = e_laws_Part x := by
  simp only [e_laws_Part, share_s, @shares_map _ e_s_laws_Term e_s_laws_Term (fun _ => sh_e_s_laws_Term _)]
def e_laws_Definition (x : laws_Definition) : AV := .agg [.str x.Name, .int .i64 x.Parameters, .slice (x.Body.map e_laws_Part)]
theorem sh_e_laws_Definition (x : laws_Definition) : (e_laws_Definition x).share = e_laws_Definition x := by
  simp only [e_laws_Definition, share_s, @shares_map _ e_laws_Part e_laws_Part (fun _ => sh_e_laws_Part _)]
def e_str (x : List UInt8) : AV := .str x
theorem sh_e_str (x : List UInt8) : (e_str x).share = e_str x := by
  simp only [e_str, share_s]
theorem ns_e_str (x : List UInt8) : (e_str x).nosh = true := by
  simp only [e_str, AV.nosh, AV.noshs, Bool.and_self]
def e_i64 (x : Int) : AV := .int .i64 x
theorem sh_e_i64 (x : Int) : (e_i64 x).share = e_i64 x := by
  simp only [e_i64, share_s]
theorem ns_e_i64 (x : Int) : (e_i64 x).nosh = true := by
  simp only [e_i64, AV.nosh, AV.noshs, Bool.and_self]
def e_s_laws_Part (x : List laws_Part) : AV := .slice (x.map e_laws_Part)
theorem sh_e_s_laws_Part (x : List laws_Part) : (e_s_laws_Part x).share = e_s_laws_Part x := by
  simp only [e_s_laws_Part, share_s, @shares_map _ e_laws_Part e_laws_Part (fun _ => sh_e_laws_Part _)]
def e_s_s_laws_Term (x : List (List laws_Term)) : AV := .slice (x.map e_s_laws_Term)
theorem sh_e_s_s_laws_Term (x : List (List laws_Term)) : (e_s_s_laws_Term x).share = e_s_s_laws_Term x := by
  simp only [e_s_s_laws_Term, share_s, @shares_map _ e_s_laws_Term e_s_laws_Term (fun _ => sh_e_s_laws_Term _)]
def e_impl_Term (x : impl_Term) : AV := .agg [.int .i64 x.Kind, .int .i64 x.Value]
theorem sh_e_impl_Term (x : impl_Term) : (e_impl_Term x).share = e_impl_Term x := by
  simp only [e_impl_Term, share_s]
theorem ns_e_impl_Term (x : impl_Term) : (e_impl_Term x).nosh = true := by
  simp only [e_impl_Term, AV.nosh, AV.noshs, Bool.and_self]
def e_s_impl_Term (x : List impl_Term) : AV := .slice (x.map e_impl_Term)
theorem sh_e_s_impl_Term (x : List impl_Term) : (e_s_impl_Term x).share = e_s_impl_Term x := by
  simp only [e_s_impl_Term, share_s, @shares_map _ e_impl_Term e_impl_Term (fun _ => sh_e_impl_Term _)]
def e_impl_Part (x : impl_Part) : AV := .agg [.int .i64 x.Kind, .int .i64 x.Number, .str x.Name, .slice (x.Arguments.map e_s_impl_Term)]
theorem sh_e_impl_Part (x : impl_Part) : (e_impl_Part x).share = e_impl_Part x := by
  simp only [e_impl_Part, share_s, @shares_map _ e_s_impl_Term e_s_impl_Term (fun _ => sh_e_s_impl_Term _)]
def e_impl_Definition (x : impl_Definition) : AV := .agg [.str x.Name, .int .i64 x.Parameters, .slice (x.Body.map e_impl_Part)]
theorem sh_e_impl_Definition (x : impl_Definition) : (e_impl_Definition x).share = e_impl_Definition x := by
  simp only [e_impl_Definition, share_s, @shares_map _ e_impl_Part e_impl_Part (fun _ => sh_e_impl_Part _)]
def u_s_impl_Term (x : List impl_Term) : AV := .uslice 2 (x.map e_impl_Term)
theorem sh_u_s_impl_Term (x : List impl_Term) : (u_s_impl_Term x).share = e_s_impl_Term x := by
  simp only [u_s_impl_Term, e_s_impl_Term, share_s, @shares_map _ e_impl_Term e_impl_Term (fun _ => sh_e_impl_Term _)]
theorem ns_u_s_impl_Term (x : List impl_Term) : (u_s_impl_Term x).nosh = true := by
  simp only [u_s_impl_Term, AV.nosh, AV.noshs, Bool.and_self, @noshs_map _ e_impl_Term (fun _ => ns_e_impl_Term _)]
def u_impl_Part (x : impl_Part) : AV := .agg [.int .i64 x.Kind, .int .i64 x.Number, .str x.Name, .uslice 1 (x.Arguments.map u_s_impl_Term)]
theorem sh_u_impl_Part (x : impl_Part) : (u_impl_Part x).share = e_impl_Part x := by
  simp only [u_impl_Part, e_impl_Part, share_s, @shares_map _ u_s_impl_Term e_s_impl_Term (fun _ => sh_u_s_impl_Term _)]
theorem ns_u_impl_Part (x : impl_Part) : (u_impl_Part x).nosh = true := by
  simp only [u_impl_Part, AV.nosh, AV.noshs, Bool.and_self, @noshs_map _ u_s_impl_Term (fun _ => ns_u_s_impl_Term _)]
def u_impl_Definition (x : impl_Definition) : AV := .agg [.str x.Name, .int .i64 x.Parameters, .uslice 4 (x.Body.map u_impl_Part)]
theorem sh_u_impl_Definition (x : impl_Definition) : (u_impl_Definition x).share = e_impl_Definition x := by
  simp only [u_impl_Definition, e_impl_Definition, share_s, @shares_map _ u_impl_Part e_impl_Part (fun _ => sh_u_impl_Part _)]
theorem ns_u_impl_Definition (x : impl_Definition) : (u_impl_Definition x).nosh = true := by
  simp only [u_impl_Definition, AV.nosh, AV.noshs, Bool.and_self, @noshs_map _ u_impl_Part (fun _ => ns_u_impl_Part _)]
def u_s_impl_Part (x : List impl_Part) : AV := .uslice 4 (x.map u_impl_Part)
def e_s_impl_Part (x : List impl_Part) : AV := .slice (x.map e_impl_Part)
theorem sh_e_s_impl_Part (x : List impl_Part) : (e_s_impl_Part x).share = e_s_impl_Part x := by
  simp only [e_s_impl_Part, share_s, @shares_map _ e_impl_Part e_impl_Part (fun _ => sh_e_impl_Part _)]
theorem sh_u_s_impl_Part (x : List impl_Part) : (u_s_impl_Part x).share = e_s_impl_Part x := by
  simp only [u_s_impl_Part, e_s_impl_Part, share_s, @shares_map _ u_impl_Part e_impl_Part (fun _ => sh_u_impl_Part _)]
theorem ns_u_s_impl_Part (x : List impl_Part) : (u_s_impl_Part x).nosh = true := by
  simp only [u_s_impl_Part, AV.nosh, AV.noshs, Bool.and_self, @noshs_map _ u_impl_Part (fun _ => ns_u_impl_Part _)]
def u_s_s_impl_Term (x : List (List impl_Term)) : AV := .uslice 1 (x.map u_s_impl_Term)
def e_s_s_impl_Term (x : List (List impl_Term)) : AV := .slice (x.map e_s_impl_Term)
theorem sh_e_s_s_impl_Term (x : List (List impl_Term)) : (e_s_s_impl_Term x).share = e_s_s_impl_Term x := by
  simp only [e_s_s_impl_Term, share_s, @shares_map _ e_s_impl_Term e_s_impl_Term (fun _ => sh_e_s_impl_Term _)]
theorem sh_u_s_s_impl_Term (x : List (List impl_Term)) : (u_s_s_impl_Term x).share = e_s_s_impl_Term x := by
  simp only [u_s_s_impl_Term, e_s_s_impl_Term, share_s, @shares_map _ u_s_impl_Term e_s_impl_Term (fun _ => sh_u_s_impl_Term _)]
theorem ns_u_s_s_impl_Term (x : List (List impl_Term)) : (u_s_s_impl_Term x).nosh = true := by
  simp only [u_s_s_impl_Term, AV.nosh, AV.noshs, Bool.and_self, @noshs_map _ u_s_impl_Term (fun _ => ns_u_s_impl_Term _)]
def e_impl_place (x : impl_place) : AV := .agg [.int .i64 x.scope, .bool x.behind]
theorem sh_e_impl_place (x : impl_place) : (e_impl_place x).share = e_impl_place x := by
  simp only [e_impl_place, share_s]
theorem ns_e_impl_place (x : impl_place) : (e_impl_place x).nosh = true := by
  simp only [e_impl_place, AV.nosh, AV.noshs, Bool.and_self]
def e_bool (x : Bool) : AV := .bool x
theorem sh_e_bool (x : Bool) : (e_bool x).share = e_bool x := by
  simp only [e_bool, share_s]
theorem ns_e_bool (x : Bool) : (e_bool x).nosh = true := by
  simp only [e_bool, AV.nosh, AV.noshs, Bool.and_self]

def c98_8 : SC := .seq (.reg [ro 4 (.asg (.c (.int .i64 (-1))))] (some [4])) .ret
def c98_7 : SC := .cond (.t 10) c98_8 .skip
def c98_12 : SC := .seq (.reg [ro 11 (.mv (.t 1)),
  ro 4 (.asg (.t 11))] (some [4])) .ret
def c98_4 : SC := .seq (.seq (.reg [ro 9 (.mv (.t 1)),
  ro 10 (.bn .lss 3 (.t 9) (.c (.int .i64 0)))] (some [1, 10])) c98_7) c98_12
def c98_2 : SC := .seq (.reg [ro 5 (.mv (.t 1)),
  ro 6 (.mv (.t 0)),
  ro 7 (.len 131 (.t 6)),
  ro 8 (.bn .sub 3 (.t 5) (.t 7)),
  ro 1 (.asg (.t 8))] (some [1])) c98_4
/-- loop.example/g01075/laws.szTermS -/
def c98 : SC := .seq (.reg [ro 4 (.asg (.c (.int .i64 0)))] (some [0, 1])) c98_2
theorem s98 : slimC ⟨12, [0]⟩ (Try.f98.body.getD .skip) = some c98.strip := by kernel_rfl

def c68_8 : SC := .seq (.reg [ro 4 (.asg (.c (.int .i64 (-1))))] (some [4])) .ret
def c68_7 : SC := .cond (.t 11) c68_8 .skip
def c68_20 : SC := .cond (.t 15) .skip (.exit 0)
def c68_30 : SC := .seq (.reg [ro 4 (.asg (.c (.int .i64 (-1))))] (some [4])) .ret
def c68_29 : SC := .cond (.t 25) c68_30 .skip
def c68_27 : SC := .seq (.reg [ro 24 (.mv (.t 1)),
  ro 25 (.bn .lss 3 (.t 24) (.c (.int .i64 0)))] (some [0, 1, 5, 25])) c68_29
def c68_34 : SC := .reg [ro 16 (.mv (.t 5)),
  ro 17 (.bn .add 3 (.t 16) (.c (.int .i64 1))),
  ro 5 (.asg (.t 17))] (some [0, 1, 5])
def c68_23 : SC := .seq (.block 1 (.seq (.reg [ro 18 (.mv (.t 0)),
  ro 19 (.mv (.t 5)),
  ro 20 (.ia 74 (.t 18) (.t 19)),
  ro 21 (.ld 131 (.t 20)),
  ro 22 (.mv (.t 1)),
  ro 23 (.call (.f 98) [(.t 21), (.t 22)]),
  ro 1 (.asg (.t 23))] (some [0, 1, 5])) c68_27)) c68_34
def c68_17 : SC := .seq (.seq (.reg [ro 12 (.mv (.t 5)),
  ro 13 (.mv (.t 0)),
  ro 14 (.len 74 (.t 13)),
  ro 15 (.bn .lss 3 (.t 12) (.t 14))] (some [0, 1, 5, 15])) c68_20) c68_23
def c68_15 : SC := .block 0 (.loop c68_17)
def c68_35 : SC := .seq (.reg [ro 26 (.mv (.t 1)),
  ro 4 (.asg (.t 26))] (some [4])) .ret
def c68_12 : SC := .seq (.seq (.reg [ro 5 (.asg (.c (.int .i64 0)))] (some [0, 1, 5])) c68_15) c68_35
def c68_4 : SC := .seq (.seq (.reg [ro 10 (.mv (.t 1)),
  ro 11 (.bn .lss 3 (.t 10) (.c (.int .i64 0)))] (some [0, 1, 11])) c68_7) c68_12
def c68_2 : SC := .seq (.reg [ro 6 (.mv (.t 1)),
  ro 7 (.mv (.t 0)),
  ro 8 (.len 74 (.t 7)),
  ro 9 (.bn .sub 3 (.t 6) (.t 8)),
  ro 1 (.asg (.t 9))] (some [0, 1])) c68_4
/-- loop.example/g01075/laws.szTermSS -/
def c68 : SC := .seq (.reg [ro 4 (.asg (.c (.int .i64 0)))] (some [0, 1])) c68_2
theorem s68 : slimC ⟨27, [0]⟩ (Try.f68.body.getD .skip) = some c68.strip := by kernel_rfl

def c45_8 : SC := .seq (.reg [ro 4 (.asg (.c (.int .i64 (-1))))] (some [4])) .ret
def c45_7 : SC := .cond (.t 11) c45_8 .skip
def c45_18 : SC := .seq (.reg [ro 4 (.asg (.c (.int .i64 (-1))))] (some [4])) .ret
def c45_17 : SC := .cond (.t 17) c45_18 .skip
def c45_22 : SC := .seq (.reg [ro 18 (.mv (.t 1)),
  ro 4 (.asg (.t 18))] (some [4])) .ret
def c45_14 : SC := .seq (.seq (.reg [ro 16 (.mv (.t 1)),
  ro 17 (.bn .lss 3 (.t 16) (.c (.int .i64 0)))] (some [1, 17])) c45_17) c45_22
def c45_12 : SC := .seq (.reg [ro 12 (.fa 76 (.t 2) 3),
  ro 13 (.ld 74 (.t 12)),
  ro 14 (.mv (.t 1)),
  ro 15 (.call (.f 68) [(.t 13), (.t 14)]),
  ro 1 (.asg (.t 15))] (some [1])) c45_14
def c45_4 : SC := .seq (.seq (.reg [ro 10 (.mv (.t 1)),
  ro 11 (.bn .lss 3 (.t 10) (.c (.int .i64 0)))] (some [1, 2, 11])) c45_7) c45_12
def c45_2 : SC := .seq (.reg [ro 5 (.mv (.t 1)),
  ro 6 (.fa 76 (.t 2) 2),
  ro 7 (.ld 9 (.t 6)),
  ro 8 (.len 9 (.t 7)),
  ro 9 (.bn .sub 3 (.t 5) (.t 8)),
  ro 1 (.asg (.t 9))] (some [1, 2])) c45_4
/-- loop.example/g01075/laws.szPart -/
def c45 : SC := .seq (.reg [ro 2 (.bx 76 (.t 0)),
  ro 4 (.asg (.c (.int .i64 0)))] (some [1, 2])) c45_2
theorem s45 : slimC ⟨19, [0]⟩ (Try.f45.body.getD .skip) = some c45.strip := by kernel_rfl

def c31_8 : SC := .seq (.reg [ro 4 (.asg (.c (.int .i64 (-1))))] (some [4])) .ret
def c31_7 : SC := .cond (.t 11) c31_8 .skip
def c31_20 : SC := .cond (.t 15) .skip (.exit 0)
def c31_30 : SC := .seq (.reg [ro 4 (.asg (.c (.int .i64 (-1))))] (some [4])) .ret
def c31_29 : SC := .cond (.t 25) c31_30 .skip
def c31_27 : SC := .seq (.reg [ro 24 (.mv (.t 1)),
  ro 25 (.bn .lss 3 (.t 24) (.c (.int .i64 0)))] (some [0, 1, 5, 25])) c31_29
def c31_34 : SC := .reg [ro 16 (.mv (.t 5)),
  ro 17 (.bn .add 3 (.t 16) (.c (.int .i64 1))),
  ro 5 (.asg (.t 17))] (some [0, 1, 5])
def c31_23 : SC := .seq (.block 1 (.seq (.reg [ro 18 (.mv (.t 0)),
  ro 19 (.mv (.t 5)),
  ro 20 (.ia 40 (.t 18) (.t 19)),
  ro 21 (.ld 76 (.t 20)),
  ro 22 (.mv (.t 1)),
  ro 23 (.call (.f 45) [(.t 21), (.t 22)]),
  ro 1 (.asg (.t 23))] (some [0, 1, 5])) c31_27)) c31_34
def c31_17 : SC := .seq (.seq (.reg [ro 12 (.mv (.t 5)),
  ro 13 (.mv (.t 0)),
  ro 14 (.len 40 (.t 13)),
  ro 15 (.bn .lss 3 (.t 12) (.t 14))] (some [0, 1, 5, 15])) c31_20) c31_23
def c31_15 : SC := .block 0 (.loop c31_17)
def c31_35 : SC := .seq (.reg [ro 26 (.mv (.t 1)),
  ro 4 (.asg (.t 26))] (some [4])) .ret
def c31_12 : SC := .seq (.seq (.reg [ro 5 (.asg (.c (.int .i64 0)))] (some [0, 1, 5])) c31_15) c31_35
def c31_4 : SC := .seq (.seq (.reg [ro 10 (.mv (.t 1)),
  ro 11 (.bn .lss 3 (.t 10) (.c (.int .i64 0)))] (some [0, 1, 11])) c31_7) c31_12
def c31_2 : SC := .seq (.reg [ro 6 (.mv (.t 1)),
  ro 7 (.mv (.t 0)),
  ro 8 (.len 40 (.t 7)),
  ro 9 (.bn .sub 3 (.t 6) (.t 8)),
  ro 1 (.asg (.t 9))] (some [0, 1])) c31_4
/-- loop.example/g01075/laws.szPartS -/
def c31 : SC := .seq (.reg [ro 4 (.asg (.c (.int .i64 0)))] (some [0, 1])) c31_2
theorem s31 : slimC ⟨27, [0]⟩ (Try.f31.body.getD .skip) = some c31.strip := by kernel_rfl

def c19_8 : SC := .seq (.reg [ro 4 (.asg (.c (.int .i64 (-1))))] (some [4])) .ret
def c19_7 : SC := .cond (.t 11) c19_8 .skip
def c19_18 : SC := .seq (.reg [ro 4 (.asg (.c (.int .i64 (-1))))] (some [4])) .ret
def c19_17 : SC := .cond (.t 17) c19_18 .skip
def c19_22 : SC := .seq (.reg [ro 18 (.mv (.t 1)),
  ro 4 (.asg (.t 18))] (some [4])) .ret
def c19_14 : SC := .seq (.seq (.reg [ro 16 (.mv (.t 1)),
  ro 17 (.bn .lss 3 (.t 16) (.c (.int .i64 0)))] (some [1, 17])) c19_17) c19_22
def c19_12 : SC := .seq (.reg [ro 12 (.fa 42 (.t 2) 2),
  ro 13 (.ld 40 (.t 12)),
  ro 14 (.mv (.t 1)),
  ro 15 (.call (.f 31) [(.t 13), (.t 14)]),
  ro 1 (.asg (.t 15))] (some [1])) c19_14
def c19_4 : SC := .seq (.seq (.reg [ro 10 (.mv (.t 1)),
  ro 11 (.bn .lss 3 (.t 10) (.c (.int .i64 0)))] (some [1, 2, 11])) c19_7) c19_12
def c19_2 : SC := .seq (.reg [ro 5 (.mv (.t 1)),
  ro 6 (.fa 42 (.t 2) 0),
  ro 7 (.ld 9 (.t 6)),
  ro 8 (.len 9 (.t 7)),
  ro 9 (.bn .sub 3 (.t 5) (.t 8)),
  ro 1 (.asg (.t 9))] (some [1, 2])) c19_4
/-- loop.example/g01075/laws.szDefinition -/
def c19 : SC := .seq (.reg [ro 2 (.bx 42 (.t 0)),
  ro 4 (.asg (.c (.int .i64 0)))] (some [1, 2])) c19_2
theorem s19 : slimC ⟨19, [0]⟩ (Try.f19.body.getD .skip) = some c19.strip := by kernel_rfl

def c5_8 : SC := .seq (.reg [ro 4 (.asg (.c (.int .i64 (-1))))] (some [4])) .ret
def c5_7 : SC := .cond (.t 11) c5_8 .skip
def c5_20 : SC := .cond (.t 15) .skip (.exit 0)
def c5_30 : SC := .seq (.reg [ro 4 (.asg (.c (.int .i64 (-1))))] (some [4])) .ret
def c5_29 : SC := .cond (.t 25) c5_30 .skip
def c5_27 : SC := .seq (.reg [ro 24 (.mv (.t 1)),
  ro 25 (.bn .lss 3 (.t 24) (.c (.int .i64 0)))] (some [0, 1, 5, 25])) c5_29
def c5_34 : SC := .reg [ro 16 (.mv (.t 5)),
  ro 17 (.bn .add 3 (.t 16) (.c (.int .i64 1))),
  ro 5 (.asg (.t 17))] (some [0, 1, 5])
def c5_23 : SC := .seq (.block 1 (.seq (.reg [ro 18 (.mv (.t 0)),
  ro 19 (.mv (.t 5)),
  ro 20 (.ia 22 (.t 18) (.t 19)),
  ro 21 (.ld 42 (.t 20)),
  ro 22 (.mv (.t 1)),
  ro 23 (.call (.f 19) [(.t 21), (.t 22)]),
  ro 1 (.asg (.t 23))] (some [0, 1, 5])) c5_27)) c5_34
def c5_17 : SC := .seq (.seq (.reg [ro 12 (.mv (.t 5)),
  ro 13 (.mv (.t 0)),
  ro 14 (.len 22 (.t 13)),
  ro 15 (.bn .lss 3 (.t 12) (.t 14))] (some [0, 1, 5, 15])) c5_20) c5_23
def c5_15 : SC := .block 0 (.loop c5_17)
def c5_35 : SC := .seq (.reg [ro 26 (.mv (.t 1)),
  ro 4 (.asg (.t 26))] (some [4])) .ret
def c5_12 : SC := .seq (.seq (.reg [ro 5 (.asg (.c (.int .i64 0)))] (some [0, 1, 5])) c5_15) c5_35
def c5_4 : SC := .seq (.seq (.reg [ro 10 (.mv (.t 1)),
  ro 11 (.bn .lss 3 (.t 10) (.c (.int .i64 0)))] (some [0, 1, 11])) c5_7) c5_12
def c5_2 : SC := .seq (.reg [ro 6 (.mv (.t 1)),
  ro 7 (.mv (.t 0)),
  ro 8 (.len 22 (.t 7)),
  ro 9 (.bn .sub 3 (.t 6) (.t 8)),
  ro 1 (.asg (.t 9))] (some [0, 1])) c5_4
/-- loop.example/g01075/laws.szDefinitionS -/
def c5 : SC := .seq (.reg [ro 4 (.asg (.c (.int .i64 0)))] (some [0, 1])) c5_2
theorem s5 : slimC ⟨27, [0]⟩ (Try.f5.body.getD .skip) = some c5.strip := by kernel_rfl

def c121_8 : SC := .seq (.reg [ro 10 (.ld 123 (.t 3)),
  ⟨none, .sto 123 (.t 2) (.t 10), none⟩] (some [2])) .ret
def c121_6 : SC := .seq (.reg [ro 7 (.fa 155 (.t 1) 1),
  ro 8 (.ld 2 (.t 7)),
  ro 9 (.fa 123 (.t 3) 1),
  ⟨none, .sto 2 (.t 9) (.t 8), none⟩] (some [2, 3])) c121_8
def c121_4 : SC := .seq (.reg [ro 4 (.fa 155 (.t 1) 0),
  ro 5 (.ld 2 (.t 4)),
  ro 6 (.fa 123 (.t 3) 0),
  ⟨none, .sto 2 (.t 6) (.t 5), none⟩] (some [1, 2, 3])) c121_6
def c121_2 : SC := .seq (.reg [ro 3 (.alc 123)] (some [1, 2, 3])) c121_4
/-- loop.example/g01075/laws.toTerm -/
def c121 : SC := .seq (.reg [ro 1 (.bx 155 (.t 0)),
  ro 2 (.alc 123)] (some [1, 2])) c121_2
theorem s121 : slimC ⟨11, [0]⟩ (Try.f121.body.getD .skip) = some c121.strip := by kernel_rfl

def c103_12 : SC := .cond (.t 11) .skip (.exit 0)
def c103_18 : SC := .reg [ro 12 (.mv (.t 4)),
  ro 13 (.bn .add 3 (.t 12) (.c (.int .i64 1))),
  ro 4 (.asg (.t 13))] (some [0, 3, 4])
def c103_15 : SC := .seq (.block 1 (.reg [ro 14 (.mv (.t 3)),
  ro 15 (.mv (.t 4)),
  ro 16 (.mv (.t 0)),
  ro 17 (.mv (.t 4)),
  ro 18 (.ia 131 (.t 16) (.t 17)),
  ro 19 (.ld 155 (.t 18)),
  ro 20 (.call (.f 121) [(.t 19)]),
  ro 21 (.ia 87 (.t 14) (.t 15)),
  ⟨none, .sto 123 (.t 21) (.t 20), none⟩] (some [0, 3, 4]))) c103_18
def c103_9 : SC := .seq (.seq (.reg [ro 8 (.mv (.t 4)),
  ro 9 (.mv (.t 0)),
  ro 10 (.len 131 (.t 9)),
  ro 11 (.bn .lss 3 (.t 8) (.t 10))] (some [0, 3, 4, 11])) c103_12) c103_15
def c103_7 : SC := .block 0 (.loop c103_9)
def c103_19 : SC := .seq (.reg [ro 22 (.mv (.t 3)),
  ro 2 (.asg (.t 22))] (some [2])) .ret
def c103_4 : SC := .seq (.seq (.reg [ro 4 (.asg (.c (.int .i64 0)))] (some [0, 3, 4])) c103_7) c103_19
def c103_2 : SC := .seq (.reg [ro 5 (.mv (.t 0)),
  ro 6 (.len 131 (.t 5)),
  ro 7 (.mks 87 (.t 6) (.t 6)),
  ro 3 (.asg (.t 7))] (some [0, 3])) c103_4
/-- loop.example/g01075/laws.toTermS -/
def c103 : SC := .seq (.reg [ro 2 (.asg (.c .nils))] (some [0])) c103_2
theorem s103 : slimC ⟨23, [0]⟩ (Try.f103.body.getD .skip) = some c103.strip := by kernel_rfl

def c73_12 : SC := .cond (.t 11) .skip (.exit 0)
def c73_18 : SC := .reg [ro 12 (.mv (.t 4)),
  ro 13 (.bn .add 3 (.t 12) (.c (.int .i64 1))),
  ro 4 (.asg (.t 13))] (some [0, 3, 4])
def c73_15 : SC := .seq (.block 1 (.reg [ro 14 (.mv (.t 3)),
  ro 15 (.mv (.t 4)),
  ro 16 (.mv (.t 0)),
  ro 17 (.mv (.t 4)),
  ro 18 (.ia 74 (.t 16) (.t 17)),
  ro 19 (.ld 131 (.t 18)),
  ro 20 (.call (.f 103) [(.t 19)]),
  ro 21 (.ia 53 (.t 14) (.t 15)),
  ⟨none, .sto 87 (.t 21) (.t 20), none⟩] (some [0, 3, 4]))) c73_18
def c73_9 : SC := .seq (.seq (.reg [ro 8 (.mv (.t 4)),
  ro 9 (.mv (.t 0)),
  ro 10 (.len 74 (.t 9)),
  ro 11 (.bn .lss 3 (.t 8) (.t 10))] (some [0, 3, 4, 11])) c73_12) c73_15
def c73_7 : SC := .block 0 (.loop c73_9)
def c73_19 : SC := .seq (.reg [ro 22 (.mv (.t 3)),
  ro 2 (.asg (.t 22))] (some [2])) .ret
def c73_4 : SC := .seq (.seq (.reg [ro 4 (.asg (.c (.int .i64 0)))] (some [0, 3, 4])) c73_7) c73_19
def c73_2 : SC := .seq (.reg [ro 5 (.mv (.t 0)),
  ro 6 (.len 74 (.t 5)),
  ro 7 (.mks 53 (.t 6) (.t 6)),
  ro 3 (.asg (.t 7))] (some [0, 3])) c73_4
/-- loop.example/g01075/laws.toTermSS -/
def c73 : SC := .seq (.reg [ro 2 (.asg (.c .nils))] (some [0])) c73_2
theorem s73 : slimC ⟨23, [0]⟩ (Try.f73.body.getD .skip) = some c73.strip := by kernel_rfl

def c48_12 : SC := .seq (.reg [ro 17 (.ld 55 (.t 3)),
  ⟨none, .sto 55 (.t 2) (.t 17), none⟩] (some [2])) .ret
def c48_10 : SC := .seq (.reg [ro 13 (.fa 76 (.t 1) 3),
  ro 14 (.ld 74 (.t 13)),
  ro 15 (.call (.f 73) [(.t 14)]),
  ro 16 (.fa 55 (.t 3) 3),
  ⟨none, .sto 53 (.t 16) (.t 15), none⟩] (some [2, 3])) c48_12
def c48_8 : SC := .seq (.reg [ro 10 (.fa 76 (.t 1) 2),
  ro 11 (.ld 9 (.t 10)),
  ro 12 (.fa 55 (.t 3) 2),
  ⟨none, .sto 9 (.t 12) (.t 11), none⟩] (some [1, 2, 3])) c48_10
def c48_6 : SC := .seq (.reg [ro 7 (.fa 76 (.t 1) 1),
  ro 8 (.ld 2 (.t 7)),
  ro 9 (.fa 55 (.t 3) 1),
  ⟨none, .sto 2 (.t 9) (.t 8), none⟩] (some [1, 2, 3])) c48_8
def c48_4 : SC := .seq (.reg [ro 4 (.fa 76 (.t 1) 0),
  ro 5 (.ld 2 (.t 4)),
  ro 6 (.fa 55 (.t 3) 0),
  ⟨none, .sto 2 (.t 6) (.t 5), none⟩] (some [1, 2, 3])) c48_6
def c48_2 : SC := .seq (.reg [ro 3 (.alc 55)] (some [1, 2, 3])) c48_4
/-- loop.example/g01075/laws.toPart -/
def c48 : SC := .seq (.reg [ro 1 (.bx 76 (.t 0)),
  ro 2 (.alc 55)] (some [1, 2])) c48_2
theorem s48 : slimC ⟨18, [0]⟩ (Try.f48.body.getD .skip) = some c48.strip := by kernel_rfl

def c35_12 : SC := .cond (.t 11) .skip (.exit 0)
def c35_18 : SC := .reg [ro 12 (.mv (.t 4)),
  ro 13 (.bn .add 3 (.t 12) (.c (.int .i64 1))),
  ro 4 (.asg (.t 13))] (some [0, 3, 4])
def c35_15 : SC := .seq (.block 1 (.reg [ro 14 (.mv (.t 3)),
  ro 15 (.mv (.t 4)),
  ro 16 (.mv (.t 0)),
  ro 17 (.mv (.t 4)),
  ro 18 (.ia 40 (.t 16) (.t 17)),
  ro 19 (.ld 76 (.t 18)),
  ro 20 (.call (.f 48) [(.t 19)]),
  ro 21 (.ia 45 (.t 14) (.t 15)),
  ⟨none, .sto 55 (.t 21) (.t 20), none⟩] (some [0, 3, 4]))) c35_18
def c35_9 : SC := .seq (.seq (.reg [ro 8 (.mv (.t 4)),
  ro 9 (.mv (.t 0)),
  ro 10 (.len 40 (.t 9)),
  ro 11 (.bn .lss 3 (.t 8) (.t 10))] (some [0, 3, 4, 11])) c35_12) c35_15
def c35_7 : SC := .block 0 (.loop c35_9)
def c35_19 : SC := .seq (.reg [ro 22 (.mv (.t 3)),
  ro 2 (.asg (.t 22))] (some [2])) .ret
def c35_4 : SC := .seq (.seq (.reg [ro 4 (.asg (.c (.int .i64 0)))] (some [0, 3, 4])) c35_7) c35_19
def c35_2 : SC := .seq (.reg [ro 5 (.mv (.t 0)),
  ro 6 (.len 40 (.t 5)),
  ro 7 (.mks 45 (.t 6) (.t 6)),
  ro 3 (.asg (.t 7))] (some [0, 3])) c35_4
/-- loop.example/g01075/laws.toPartS -/
def c35 : SC := .seq (.reg [ro 2 (.asg (.c .nils))] (some [0])) c35_2
theorem s35 : slimC ⟨23, [0]⟩ (Try.f35.body.getD .skip) = some c35.strip := by kernel_rfl

def c22_10 : SC := .seq (.reg [ro 14 (.ld 47 (.t 3)),
  ⟨none, .sto 47 (.t 2) (.t 14), none⟩] (some [2])) .ret
def c22_8 : SC := .seq (.reg [ro 10 (.fa 42 (.t 1) 2),
  ro 11 (.ld 40 (.t 10)),
  ro 12 (.call (.f 35) [(.t 11)]),
  ro 13 (.fa 47 (.t 3) 2),
  ⟨none, .sto 45 (.t 13) (.t 12), none⟩] (some [2, 3])) c22_10
def c22_6 : SC := .seq (.reg [ro 7 (.fa 42 (.t 1) 1),
  ro 8 (.ld 2 (.t 7)),
  ro 9 (.fa 47 (.t 3) 1),
  ⟨none, .sto 2 (.t 9) (.t 8), none⟩] (some [1, 2, 3])) c22_8
def c22_4 : SC := .seq (.reg [ro 4 (.fa 42 (.t 1) 0),
  ro 5 (.ld 9 (.t 4)),
  ro 6 (.fa 47 (.t 3) 0),
  ⟨none, .sto 9 (.t 6) (.t 5), none⟩] (some [1, 2, 3])) c22_6
def c22_2 : SC := .seq (.reg [ro 3 (.alc 47)] (some [1, 2, 3])) c22_4
/-- loop.example/g01075/laws.toDefinition -/
def c22 : SC := .seq (.reg [ro 1 (.bx 42 (.t 0)),
  ro 2 (.alc 47)] (some [1, 2])) c22_2
theorem s22 : slimC ⟨15, [0]⟩ (Try.f22.body.getD .skip) = some c22.strip := by kernel_rfl

def c7_12 : SC := .cond (.t 11) .skip (.exit 0)
def c7_18 : SC := .reg [ro 12 (.mv (.t 4)),
  ro 13 (.bn .add 3 (.t 12) (.c (.int .i64 1))),
  ro 4 (.asg (.t 13))] (some [0, 3, 4])
def c7_15 : SC := .seq (.block 1 (.reg [ro 14 (.mv (.t 3)),
  ro 15 (.mv (.t 4)),
  ro 16 (.mv (.t 0)),
  ro 17 (.mv (.t 4)),
  ro 18 (.ia 22 (.t 16) (.t 17)),
  ro 19 (.ld 42 (.t 18)),
  ro 20 (.call (.f 22) [(.t 19)]),
  ro 21 (.ia 27 (.t 14) (.t 15)),
  ⟨none, .sto 47 (.t 21) (.t 20), none⟩] (some [0, 3, 4]))) c7_18
def c7_9 : SC := .seq (.seq (.reg [ro 8 (.mv (.t 4)),
  ro 9 (.mv (.t 0)),
  ro 10 (.len 22 (.t 9)),
  ro 11 (.bn .lss 3 (.t 8) (.t 10))] (some [0, 3, 4, 11])) c7_12) c7_15
def c7_7 : SC := .block 0 (.loop c7_9)
def c7_19 : SC := .seq (.reg [ro 22 (.mv (.t 3)),
  ro 2 (.asg (.t 22))] (some [2])) .ret
def c7_4 : SC := .seq (.seq (.reg [ro 4 (.asg (.c (.int .i64 0)))] (some [0, 3, 4])) c7_7) c7_19
def c7_2 : SC := .seq (.reg [ro 5 (.mv (.t 0)),
  ro 6 (.len 22 (.t 5)),
  ro 7 (.mks 27 (.t 6) (.t 6)),
  ro 3 (.asg (.t 7))] (some [0, 3])) c7_4
/-- loop.example/g01075/laws.toDefinitionS -/
def c7 : SC := .seq (.reg [ro 2 (.asg (.c .nils))] (some [0])) c7_2
theorem s7 : slimC ⟨23, [0]⟩ (Try.f7.body.getD .skip) = some c7.strip := by kernel_rfl

def c69_2 : SC := .seq (.reg [ro 3 (.mv (.t 0)),
  ro 4 (.bn .geq 5 (.t 3) (.c (.int .u8 97))),
  ro 5 (.mv (.t 4)),
  ⟨some 6, .mv (.t 0), some (5, true)⟩,
  ⟨some 7, .bn .leq 5 (.t 6) (.c (.int .u8 122)), some (5, true)⟩,
  ro 8 (.pick (.t 5) (.t 7) (.c (.bool false))),
  ro 2 (.asg (.t 8))] (some [2])) .ret
/-- loop.example/g01075/spec.l01Small -/
def c69 : SC := .seq (.reg [ro 2 (.asg (.c (.bool false)))] (some [0])) c69_2
theorem s69 : slimC ⟨9, [0]⟩ (Try.f69.body.getD .skip) = some c69.strip := by kernel_rfl

def c70_2 : SC := .seq (.reg [ro 3 (.mv (.t 0)),
  ro 4 (.bn .geq 5 (.t 3) (.c (.int .u8 48))),
  ro 5 (.mv (.t 4)),
  ⟨some 6, .mv (.t 0), some (5, true)⟩,
  ⟨some 7, .bn .leq 5 (.t 6) (.c (.int .u8 57)), some (5, true)⟩,
  ro 8 (.pick (.t 5) (.t 7) (.c (.bool false))),
  ro 2 (.asg (.t 8))] (some [2])) .ret
/-- loop.example/g01075/spec.l01Digit -/
def c70 : SC := .seq (.reg [ro 2 (.asg (.c (.bool false)))] (some [0])) c70_2
theorem s70 : slimC ⟨9, [0]⟩ (Try.f70.body.getD .skip) = some c70.strip := by kernel_rfl

def c46_6 : SC := .seq (.reg [ro 2 (.asg (.c (.bool false)))] (some [2])) .ret
def c46_5 : SC := .cond (.t 16) c46_6 .skip
def c46_18 : SC := .cond (.t 20) .skip (.exit 0)
def c46_26 : SC := .seq (.reg [ro 2 (.asg (.c (.bool false)))] (some [2])) .ret
def c46_25 : SC := .cond (.t 34) c46_26 .skip
def c46_30 : SC := .reg [ro 21 (.mv (.t 3)),
  ro 22 (.bn .add 3 (.t 21) (.c (.int .i64 1))),
  ro 3 (.asg (.t 22))] (some [0, 3])
def c46_21 : SC := .seq (.block 1 (.seq (.reg [ro 23 (.mv (.t 0)),
  ro 24 (.mv (.t 3)),
  ro 25 (.idx 9 (.t 23) (.t 24)),
  ro 26 (.call (.f 69) [(.t 25)]),
  ro 27 (.un .not (.t 26)),
  ro 28 (.mv (.t 27)),
  ⟨some 29, .mv (.t 0), some (28, true)⟩,
  ⟨some 30, .mv (.t 3), some (28, true)⟩,
  ⟨some 31, .idx 9 (.t 29) (.t 30), some (28, true)⟩,
  ⟨some 32, .call (.f 70) [(.t 31)], some (28, true)⟩,
  ⟨some 33, .un .not (.t 32), some (28, true)⟩,
  ro 34 (.pick (.t 28) (.t 33) (.c (.bool false)))] (some [0, 3, 34])) c46_25)) c46_30
def c46_15 : SC := .seq (.seq (.reg [ro 17 (.mv (.t 3)),
  ro 18 (.mv (.t 0)),
  ro 19 (.len 9 (.t 18)),
  ro 20 (.bn .lss 3 (.t 17) (.t 19))] (some [0, 3, 20])) c46_18) c46_21
def c46_13 : SC := .block 0 (.loop c46_15)
def c46_31 : SC := .seq (.reg [ro 2 (.asg (.c (.bool true)))] (some [2])) .ret
def c46_10 : SC := .seq (.seq (.reg [ro 3 (.asg (.c (.int .i64 0)))] (some [0, 3])) c46_13) c46_31
def c46_2 : SC := .seq (.seq (.reg [ro 4 (.mv (.t 0)),
  ro 5 (.bn .eql 9 (.t 4) (.c (.str []))),
  ro 6 (.mv (.t 5)),
  ⟨some 7, .mv (.t 0), some (6, false)⟩,
  ⟨some 8, .len 9 (.t 7), some (6, false)⟩,
  ⟨some 9, .bn .gtr 3 (.t 8) (.c (.int .i64 10)), some (6, false)⟩,
  ro 10 (.pick (.t 6) (.c (.bool true)) (.t 9)),
  ro 11 (.mv (.t 10)),
  ⟨some 12, .mv (.t 0), some (11, false)⟩,
  ⟨some 13, .idx 9 (.t 12) (.c (.int .i64 0)), some (11, false)⟩,
  ⟨some 14, .call (.f 69) [(.t 13)], some (11, false)⟩,
  ⟨some 15, .un .not (.t 14), some (11, false)⟩,
  ro 16 (.pick (.t 11) (.c (.bool true)) (.t 15))] (some [0, 16])) c46_5) c46_10
/-- loop.example/g01075/spec.l01Name -/
def c46 : SC := .seq (.reg [ro 2 (.asg (.c (.bool false)))] (some [0])) c46_2
theorem s46 : slimC ⟨35, [0]⟩ (Try.f46.body.getD .skip) = some c46.strip := by kernel_rfl

def c33_2 : SC := .seq (.reg [ro 7 (.mv (.t 0)),
  ro 8 (.mv (.t 1)),
  ro 9 (.bn .geq 2 (.t 7) (.t 8)),
  ro 10 (.mv (.t 9)),
  ⟨some 11, .mv (.t 0), some (10, true)⟩,
  ⟨some 12, .mv (.t 2), some (10, true)⟩,
  ⟨some 13, .bn .leq 2 (.t 11) (.t 12), some (10, true)⟩,
  ro 14 (.pick (.t 10) (.t 13) (.c (.bool false))),
  ro 6 (.asg (.t 14))] (some [6])) .ret
/-- loop.example/g01075/spec.l00In -/
def c33 : SC := .seq (.reg [ro 6 (.asg (.c (.bool false)))] (some [0, 1, 2])) c33_2
theorem s33 : slimC ⟨15, [0, 1, 2]⟩ (Try.f33.body.getD .skip) = some c33.strip := by kernel_rfl

def c99_15 : SC := .reg [ro 10 (.bn .eql 2 (.t 6) (.c (.int .i64 4))),
  ro 7 (.asg (.t 10))] (some [6, 7])
def c99_13 : SC := .cond (.t 7) .skip c99_15
def c99_11 : SC := .seq (.reg [ro 9 (.bn .eql 2 (.t 6) (.c (.int .i64 3))),
  ro 7 (.asg (.t 9))] (some [6, 7])) c99_13
def c99_9 : SC := .cond (.t 7) .skip c99_11
def c99_17 : SC := .seq (.reg [ro 2 (.asg (.c (.int .i64 1)))] (some [2])) .ret
def c99_23 : SC := .seq (.reg [ro 2 (.asg (.c (.int .i64 2)))] (some [2])) .ret
def c99_22 : SC := .cond (.t 11) c99_23 .skip
def c99_20 : SC := .seq (.reg [ro 12 (.bn .eql 2 (.t 6) (.c (.int .i64 2))),
  ro 11 (.asg (.t 12))] (some [11])) c99_22
def c99_16 : SC := .cond (.t 7) c99_17 c99_20
def c99_5 : SC := .block 0 (.seq (.seq (.reg [ro 8 (.bn .eql 2 (.t 6) (.c (.int .i64 1))),
  ro 7 (.asg (.t 8))] (some [6, 7])) c99_9) c99_16)
def c99_27 : SC := .seq (.reg [ro 2 (.asg (.c (.int .i64 0)))] (some [2])) .ret
def c99_2 : SC := .seq (.seq (.reg [ro 3 (.mv (.t 0)),
  ro 4 (.nilc (.t 3)),
  ro 5 (.fa 55 (.t 4) 0),
  ro 6 (.ld 2 (.t 5))] (some [6])) c99_5) c99_27
/-- loop.example/g01075/spec.l05Follow -/
def c99 : SC := .seq (.reg [ro 2 (.asg (.c (.int .i64 0)))] (some [0])) c99_2
theorem s99 : slimC ⟨13, [0]⟩ (Try.f99.body.getD .skip) = some c99.strip := by kernel_rfl

def c71_6 : SC := .seq (.reg [ro 2 (.asg (.c (.bool false)))] (some [2])) .ret
def c71_5 : SC := .cond (.t 12) c71_6 .skip
def c71_20 : SC := .cond (.t 16) .skip (.exit 0)
def c71_29 : SC := .seq (.reg [ro 2 (.asg (.c (.bool false)))] (some [2])) .ret
def c71_28 : SC := .cond (.t 20) c71_29 .skip
def c71_33 : SC := .reg [ro 21 (.mv (.t 3)),
  ro 22 (.mv (.t 0)),
  ro 23 (.mv (.t 4)),
  ro 24 (.ia 45 (.t 22) (.t 23)),
  ro 25 (.call (.f 99) [(.t 24)]),
  ro 26 (.bn .sub 2 (.t 25) (.c (.int .i64 1))),
  ro 27 (.bn .add 2 (.t 21) (.t 26)),
  ro 3 (.asg (.t 27))] (some [0, 3, 4])
def c71_34 : SC := .reg [ro 17 (.mv (.t 4)),
  ro 18 (.bn .add 3 (.t 17) (.c (.int .i64 1))),
  ro 4 (.asg (.t 18))] (some [0, 3, 4])
def c71_23 : SC := .seq (.block 1 (.seq (.seq (.reg [ro 19 (.mv (.t 3)),
  ro 20 (.bn .eql 2 (.t 19) (.c (.int .i64 0)))] (some [0, 3, 4, 20])) c71_28) c71_33)) c71_34
def c71_17 : SC := .seq (.seq (.reg [ro 13 (.mv (.t 4)),
  ro 14 (.mv (.t 0)),
  ro 15 (.len 45 (.t 14)),
  ro 16 (.bn .lss 3 (.t 13) (.t 15))] (some [0, 3, 4, 16])) c71_20) c71_23
def c71_15 : SC := .block 0 (.loop c71_17)
def c71_35 : SC := .seq (.reg [ro 28 (.mv (.t 3)),
  ro 29 (.bn .eql 2 (.t 28) (.c (.int .i64 0))),
  ro 2 (.asg (.t 29))] (some [2])) .ret
def c71_12 : SC := .seq (.seq (.reg [ro 4 (.asg (.c (.int .i64 0)))] (some [0, 3, 4])) c71_15) c71_35
def c71_10 : SC := .seq (.reg [ro 3 (.asg (.c (.int .i64 1)))] (some [0, 3])) c71_12
def c71_2 : SC := .seq (.seq (.reg [ro 5 (.mv (.t 0)),
  ro 6 (.len 45 (.t 5)),
  ro 7 (.bn .eql 3 (.t 6) (.c (.int .i64 0))),
  ro 8 (.mv (.t 7)),
  ⟨some 9, .mv (.t 0), some (8, false)⟩,
  ⟨some 10, .len 45 (.t 9), some (8, false)⟩,
  ⟨some 11, .bn .gtr 3 (.t 10) (.c (.int .i64 20)), some (8, false)⟩,
  ro 12 (.pick (.t 8) (.c (.bool true)) (.t 11))] (some [0, 12])) c71_5) c71_10
/-- loop.example/g01075/spec.l05Shape -/
def c71 : SC := .seq (.reg [ro 2 (.asg (.c (.bool false)))] (some [0])) c71_2
theorem s71 : slimC ⟨30, [0]⟩ (Try.f71.body.getD .skip) = some c71.strip := by kernel_rfl

def c100_11 : SC := .reg [ro 9 (.bn .eql 2 (.t 6) (.c (.int .i64 2))),
  ro 7 (.asg (.t 9))] (some [0, 6, 7])
def c100_9 : SC := .cond (.t 7) .skip c100_11
def c100_13 : SC := .seq (.reg [ro 10 (.mv (.t 0)),
  ro 11 (.nilc (.t 10)),
  ro 12 (.fa 55 (.t 11) 1),
  ro 13 (.ld 2 (.t 12)),
  ro 14 (.bn .eql 2 (.t 13) (.c (.int .i64 0))),
  ro 15 (.mv (.t 14)),
  ⟨some 16, .mv (.t 0), some (15, true)⟩,
  ⟨some 17, .nilc (.t 16), some (15, true)⟩,
  ⟨some 18, .fa 55 (.t 17) 2, some (15, true)⟩,
  ⟨some 19, .ld 9 (.t 18), some (15, true)⟩,
  ⟨some 20, .bn .eql 9 (.t 19) (.c (.str [])), some (15, true)⟩,
  ro 21 (.pick (.t 15) (.t 20) (.c (.bool false))),
  ro 22 (.mv (.t 21)),
  ⟨some 23, .mv (.t 0), some (22, true)⟩,
  ⟨some 24, .nilc (.t 23), some (22, true)⟩,
  ⟨some 25, .fa 55 (.t 24) 3, some (22, true)⟩,
  ⟨some 26, .ld 53 (.t 25), some (22, true)⟩,
  ⟨some 27, .len 53 (.t 26), some (22, true)⟩,
  ⟨some 28, .bn .eql 3 (.t 27) (.c (.int .i64 0)), some (22, true)⟩,
  ro 29 (.pick (.t 22) (.t 28) (.c (.bool false))),
  ro 2 (.asg (.t 29))] (some [2])) .ret
def c100_19 : SC := .seq (.reg [ro 32 (.mv (.t 0)),
  ro 33 (.nilc (.t 32)),
  ro 34 (.fa 55 (.t 33) 1),
  ro 35 (.ld 2 (.t 34)),
  ro 36 (.bn .eql 2 (.t 35) (.c (.int .i64 0))),
  ro 2 (.asg (.t 36))] (some [2])) .ret
def c100_25 : SC := .seq (.reg [ro 39 (.mv (.t 0)),
  ro 40 (.nilc (.t 39)),
  ro 41 (.fa 55 (.t 40) 1),
  ro 42 (.ld 2 (.t 41)),
  ro 43 (.bn .eql 2 (.t 42) (.c (.int .i64 0))),
  ro 44 (.mv (.t 43)),
  ⟨some 45, .mv (.t 0), some (44, true)⟩,
  ⟨some 46, .nilc (.t 45), some (44, true)⟩,
  ⟨some 47, .fa 55 (.t 46) 2, some (44, true)⟩,
  ⟨some 48, .ld 9 (.t 47), some (44, true)⟩,
  ⟨some 49, .bn .eql 9 (.t 48) (.c (.str [])), some (44, true)⟩,
  ro 50 (.pick (.t 44) (.t 49) (.c (.bool false))),
  ro 2 (.asg (.t 50))] (some [2])) .ret
def c100_31 : SC := .seq (.reg [ro 53 (.mv (.t 0)),
  ro 54 (.nilc (.t 53)),
  ro 55 (.fa 55 (.t 54) 2),
  ro 56 (.ld 9 (.t 55)),
  ro 57 (.bn .eql 9 (.t 56) (.c (.str []))),
  ro 58 (.mv (.t 57)),
  ⟨some 59, .mv (.t 0), some (58, true)⟩,
  ⟨some 60, .nilc (.t 59), some (58, true)⟩,
  ⟨some 61, .fa 55 (.t 60) 3, some (58, true)⟩,
  ⟨some 62, .ld 53 (.t 61), some (58, true)⟩,
  ⟨some 63, .len 53 (.t 62), some (58, true)⟩,
  ⟨some 64, .bn .eql 3 (.t 63) (.c (.int .i64 0)), some (58, true)⟩,
  ro 65 (.pick (.t 58) (.t 64) (.c (.bool false))),
  ro 2 (.asg (.t 65))] (some [2])) .ret
def c100_37 : SC := .seq (.reg [ro 68 (.mv (.t 0)),
  ro 69 (.nilc (.t 68)),
  ro 70 (.fa 55 (.t 69) 2),
  ro 71 (.ld 9 (.t 70)),
  ro 72 (.bn .eql 9 (.t 71) (.c (.str []))),
  ro 2 (.asg (.t 72))] (some [2])) .ret
def c100_36 : SC := .cond (.t 66) c100_37 .skip
def c100_34 : SC := .seq (.reg [ro 67 (.bn .eql 2 (.t 6) (.c (.int .i64 5))),
  ro 66 (.asg (.t 67))] (some [0, 66])) c100_36
def c100_30 : SC := .cond (.t 51) c100_31 c100_34
def c100_28 : SC := .seq (.reg [ro 52 (.bn .eql 2 (.t 6) (.c (.int .i64 4))),
  ro 51 (.asg (.t 52))] (some [0, 6, 51])) c100_30
def c100_24 : SC := .cond (.t 37) c100_25 c100_28
def c100_22 : SC := .seq (.reg [ro 38 (.bn .eql 2 (.t 6) (.c (.int .i64 3))),
  ro 37 (.asg (.t 38))] (some [0, 6, 37])) c100_24
def c100_18 : SC := .cond (.t 30) c100_19 c100_22
def c100_16 : SC := .seq (.reg [ro 31 (.bn .eql 2 (.t 6) (.c (.int .i64 1))),
  ro 30 (.asg (.t 31))] (some [0, 6, 30])) c100_18
def c100_12 : SC := .cond (.t 7) c100_13 c100_16
def c100_5 : SC := .block 0 (.seq (.seq (.reg [ro 8 (.bn .eql 2 (.t 6) (.c (.int .i64 0))),
  ro 7 (.asg (.t 8))] (some [0, 6, 7])) c100_9) c100_12)
def c100_41 : SC := .seq (.reg [ro 2 (.asg (.c (.bool false)))] (some [2])) .ret
def c100_2 : SC := .seq (.seq (.reg [ro 3 (.mv (.t 0)),
  ro 4 (.nilc (.t 3)),
  ro 5 (.fa 55 (.t 4) 0),
  ro 6 (.ld 2 (.t 5))] (some [0, 6])) c100_5) c100_41
/-- loop.example/g01075/spec.l05Kind -/
def c100 : SC := .seq (.reg [ro 2 (.asg (.c (.bool false)))] (some [0])) c100_2
theorem s100 : slimC ⟨73, [0]⟩ (Try.f100.body.getD .skip) = some c100.strip := by kernel_rfl

def c118_10 : SC := .cond (.t 7) .skip (.exit 0)
def c118_16 : SC := .reg [ro 15 (.mv (.t 1)),
  ro 16 (.bn .add 2 (.t 15) (.c (.int .i64 1))),
  ro 1 (.asg (.t 16))] (some [0, 1, 5])
def c118_13 : SC := .block 1 (.seq (.reg [ro 8 (.mv (.t 5)),
  ro 9 (.mv (.t 0)),
  ro 10 (.mv (.t 1)),
  ro 11 (.ia 45 (.t 9) (.t 10)),
  ro 12 (.call (.f 99) [(.t 11)]),
  ro 13 (.bn .sub 2 (.t 12) (.c (.int .i64 1))),
  ro 14 (.bn .add 2 (.t 8) (.t 13)),
  ro 5 (.asg (.t 14))] (some [0, 1, 5])) c118_16)
def c118_7 : SC := .seq (.seq (.reg [ro 6 (.mv (.t 5)),
  ro 7 (.bn .gtr 2 (.t 6) (.c (.int .i64 0)))] (some [0, 1, 5, 7])) c118_10) c118_13
def c118_17 : SC := .seq (.reg [ro 17 (.mv (.t 1)),
  ro 4 (.asg (.t 17))] (some [4])) .ret
def c118_4 : SC := .seq (.block 0 (.loop c118_7)) c118_17
def c118_2 : SC := .seq (.reg [ro 5 (.asg (.c (.int .i64 1)))] (some [0, 1, 5])) c118_4
/-- loop.example/g01075/spec.l05End -/
def c118 : SC := .seq (.reg [ro 4 (.asg (.c (.int .i64 0)))] (some [0, 1])) c118_2
theorem s118 : slimC ⟨18, [0]⟩ (Try.f118.body.getD .skip) = some c118.strip := by kernel_rfl

def c101_12 : SC := .cond (.t 13) .skip (.exit 0)
def c101_20 : SC := .reg [ro 35 (.mv (.t 5)),
  ro 36 (.bn .add 2 (.t 35) (.c (.int .i64 1))),
  ro 5 (.asg (.t 36))] (some [0, 1, 5, 6])
def c101_19 : SC := .cond (.t 34) c101_20 .skip
def c101_22 : SC := .reg [ro 14 (.mv (.t 6)),
  ro 15 (.bn .add 2 (.t 14) (.c (.int .i64 1))),
  ro 6 (.asg (.t 15))] (some [0, 1, 5, 6])
def c101_15 : SC := .seq (.block 1 (.seq (.reg [ro 16 (.mv (.t 0)),
  ro 17 (.nilc (.t 16)),
  ro 18 (.fa 47 (.t 17) 2),
  ro 19 (.ld 45 (.t 18)),
  ro 20 (.mv (.t 6)),
  ro 21 (.ia 45 (.t 19) (.t 20)),
  ro 22 (.fa 55 (.t 21) 0),
  ro 23 (.ld 2 (.t 22)),
  ro 24 (.bn .eql 2 (.t 23) (.c (.int .i64 4))),
  ro 25 (.mv (.t 24)),
  ⟨some 26, .mv (.t 0), some (25, true)⟩,
  ⟨some 27, .nilc (.t 26), some (25, true)⟩,
  ⟨some 28, .fa 47 (.t 27) 2, some (25, true)⟩,
  ⟨some 29, .ld 45 (.t 28), some (25, true)⟩,
  ⟨some 30, .mv (.t 6), some (25, true)⟩,
  ⟨some 31, .call (.f 118) [(.t 29), (.t 30)], some (25, true)⟩,
  ⟨some 32, .mv (.t 1), some (25, true)⟩,
  ⟨some 33, .bn .gtr 2 (.t 31) (.t 32), some (25, true)⟩,
  ro 34 (.pick (.t 25) (.t 33) (.c (.bool false)))] (some [0, 1, 5, 6, 34])) c101_19)) c101_22
def c101_9 : SC := .seq (.seq (.reg [ro 11 (.mv (.t 6)),
  ro 12 (.mv (.t 1)),
  ro 13 (.bn .lss 2 (.t 11) (.t 12))] (some [0, 1, 5, 6, 13])) c101_12) c101_15
def c101_7 : SC := .block 0 (.loop c101_9)
def c101_23 : SC := .seq (.reg [ro 37 (.mv (.t 5)),
  ro 4 (.asg (.t 37))] (some [4])) .ret
def c101_4 : SC := .seq (.seq (.reg [ro 6 (.asg (.c (.int .i64 0)))] (some [0, 1, 5, 6])) c101_7) c101_23
def c101_2 : SC := .seq (.reg [ro 7 (.mv (.t 0)),
  ro 8 (.nilc (.t 7)),
  ro 9 (.fa 47 (.t 8) 1),
  ro 10 (.ld 2 (.t 9)),
  ro 5 (.asg (.t 10))] (some [0, 1, 5])) c101_4
/-- loop.example/g01075/spec.l05Scope -/
def c101 : SC := .seq (.reg [ro 4 (.asg (.c (.int .i64 0)))] (some [0, 1])) c101_2
theorem s101 : slimC ⟨38, [0, 1]⟩ (Try.f101.body.getD .skip) = some c101.strip := by kernel_rfl

def c119_9 : SC := .seq (.reg [ro 11 (.mv (.t 0)),
  ro 12 (.nilc (.t 11)),
  ro 13 (.fa 123 (.t 12) 1),
  ro 14 (.ld 2 (.t 13)),
  ro 15 (.call (.f 33) [(.t 14), (.c (.int .i64 0)), (.c (.int .i64 63))]),
  ro 4 (.asg (.t 15))] (some [4])) .ret
def c119_15 : SC := .seq (.reg [ro 18 (.mv (.t 0)),
  ro 19 (.nilc (.t 18)),
  ro 20 (.fa 123 (.t 19) 1),
  ro 21 (.ld 2 (.t 20)),
  ro 22 (.mv (.t 1)),
  ro 23 (.bn .sub 2 (.t 22) (.c (.int .i64 1))),
  ro 24 (.call (.f 33) [(.t 21), (.c (.int .i64 0)), (.t 23)]),
  ro 4 (.asg (.t 24))] (some [4])) .ret
def c119_21 : SC := .seq (.reg [ro 27 (.mv (.t 0)),
  ro 28 (.nilc (.t 27)),
  ro 29 (.fa 123 (.t 28) 1),
  ro 30 (.ld 2 (.t 29)),
  ro 31 (.call (.f 33) [(.t 30), (.c (.int .i64 0)), (.c (.int .i64 8))]),
  ro 4 (.asg (.t 31))] (some [4])) .ret
def c119_27 : SC := .seq (.reg [ro 34 (.mv (.t 0)),
  ro 35 (.nilc (.t 34)),
  ro 36 (.fa 123 (.t 35) 1),
  ro 37 (.ld 2 (.t 36)),
  ro 38 (.bn .eql 2 (.t 37) (.c (.int .i64 0))),
  ro 4 (.asg (.t 38))] (some [4])) .ret
def c119_26 : SC := .cond (.t 32) c119_27 .skip
def c119_24 : SC := .seq (.reg [ro 33 (.bn .eql 2 (.t 8) (.c (.int .i64 3))),
  ro 32 (.asg (.t 33))] (some [0, 32])) c119_26
def c119_20 : SC := .cond (.t 25) c119_21 c119_24
def c119_18 : SC := .seq (.reg [ro 26 (.bn .eql 2 (.t 8) (.c (.int .i64 2))),
  ro 25 (.asg (.t 26))] (some [0, 8, 25])) c119_20
def c119_14 : SC := .cond (.t 16) c119_15 c119_18
def c119_12 : SC := .seq (.reg [ro 17 (.bn .eql 2 (.t 8) (.c (.int .i64 1))),
  ro 16 (.asg (.t 17))] (some [0, 1, 8, 16])) c119_14
def c119_8 : SC := .cond (.t 9) c119_9 c119_12
def c119_5 : SC := .block 0 (.seq (.reg [ro 10 (.bn .eql 2 (.t 8) (.c (.int .i64 0))),
  ro 9 (.asg (.t 10))] (some [0, 1, 8, 9])) c119_8)
def c119_31 : SC := .seq (.reg [ro 4 (.asg (.c (.bool false)))] (some [4])) .ret
def c119_2 : SC := .seq (.seq (.reg [ro 5 (.mv (.t 0)),
  ro 6 (.nilc (.t 5)),
  ro 7 (.fa 123 (.t 6) 0),
  ro 8 (.ld 2 (.t 7))] (some [0, 1, 8])) c119_5) c119_31
/-- loop.example/g01075/spec.l03Term -/
def c119 : SC := .seq (.reg [ro 4 (.asg (.c (.bool false)))] (some [0, 1])) c119_2
theorem s119 : slimC ⟨39, [0, 1]⟩ (Try.f119.body.getD .skip) = some c119.strip := by kernel_rfl

def c120_9 : SC := .seq (.reg [ro 2 (.asg (.c (.int .i64 2)))] (some [2])) .ret
def c120_15 : SC := .seq (.reg [ro 2 (.asg (.c (.int .i64 1)))] (some [2])) .ret
def c120_14 : SC := .cond (.t 9) c120_15 .skip
def c120_12 : SC := .seq (.reg [ro 10 (.bn .eql 2 (.t 6) (.c (.int .i64 3))),
  ro 9 (.asg (.t 10))] (some [9])) c120_14
def c120_8 : SC := .cond (.t 7) c120_9 c120_12
def c120_5 : SC := .block 0 (.seq (.reg [ro 8 (.bn .eql 2 (.t 6) (.c (.int .i64 2))),
  ro 7 (.asg (.t 8))] (some [6, 7])) c120_8)
def c120_19 : SC := .seq (.reg [ro 2 (.asg (.c (.int .i64 0)))] (some [2])) .ret
def c120_2 : SC := .seq (.seq (.reg [ro 3 (.mv (.t 0)),
  ro 4 (.nilc (.t 3)),
  ro 5 (.fa 123 (.t 4) 0),
  ro 6 (.ld 2 (.t 5))] (some [6])) c120_5) c120_19
/-- loop.example/g01075/spec.l03Arity -/
def c120 : SC := .seq (.reg [ro 2 (.asg (.c (.int .i64 0)))] (some [0])) c120_2
theorem s120 : slimC ⟨11, [0]⟩ (Try.f120.body.getD .skip) = some c120.strip := by kernel_rfl

def c102_6 : SC := .seq (.reg [ro 6 (.asg (.c (.bool false)))] (some [6])) .ret
def c102_5 : SC := .cond (.t 12) c102_6 .skip
def c102_20 : SC := .cond (.t 16) .skip (.exit 0)
def c102_29 : SC := .seq (.reg [ro 6 (.asg (.c (.bool false)))] (some [6])) .ret
def c102_28 : SC := .cond (.t 28) c102_29 .skip
def c102_33 : SC := .reg [ro 29 (.mv (.t 7)),
  ro 30 (.mv (.t 0)),
  ro 31 (.mv (.t 8)),
  ro 32 (.ia 87 (.t 30) (.t 31)),
  ro 33 (.call (.f 120) [(.t 32)]),
  ro 34 (.bn .sub 2 (.t 33) (.c (.int .i64 1))),
  ro 35 (.bn .add 2 (.t 29) (.t 34)),
  ro 7 (.asg (.t 35))] (some [0, 1, 7, 8])
def c102_34 : SC := .reg [ro 17 (.mv (.t 8)),
  ro 18 (.bn .add 3 (.t 17) (.c (.int .i64 1))),
  ro 8 (.asg (.t 18))] (some [0, 1, 7, 8])
def c102_23 : SC := .seq (.block 1 (.seq (.seq (.reg [ro 19 (.mv (.t 7)),
  ro 20 (.bn .eql 2 (.t 19) (.c (.int .i64 0))),
  ro 21 (.mv (.t 20)),
  ⟨some 22, .mv (.t 0), some (21, false)⟩,
  ⟨some 23, .mv (.t 8), some (21, false)⟩,
  ⟨some 24, .ia 87 (.t 22) (.t 23), some (21, false)⟩,
  ⟨some 25, .mv (.t 1), some (21, false)⟩,
  ⟨some 26, .call (.f 119) [(.t 24), (.t 25)], some (21, false)⟩,
  ⟨some 27, .un .not (.t 26), some (21, false)⟩,
  ro 28 (.pick (.t 21) (.c (.bool true)) (.t 27))] (some [0, 1, 7, 8, 28])) c102_28) c102_33)) c102_34
def c102_17 : SC := .seq (.seq (.reg [ro 13 (.mv (.t 8)),
  ro 14 (.mv (.t 0)),
  ro 15 (.len 87 (.t 14)),
  ro 16 (.bn .lss 3 (.t 13) (.t 15))] (some [0, 1, 7, 8, 16])) c102_20) c102_23
def c102_15 : SC := .block 0 (.loop c102_17)
def c102_35 : SC := .seq (.reg [ro 36 (.mv (.t 7)),
  ro 37 (.bn .eql 2 (.t 36) (.c (.int .i64 0))),
  ro 6 (.asg (.t 37))] (some [6])) .ret
def c102_12 : SC := .seq (.seq (.reg [ro 8 (.asg (.c (.int .i64 0)))] (some [0, 1, 7, 8])) c102_15) c102_35
def c102_10 : SC := .seq (.reg [ro 7 (.asg (.c (.int .i64 1)))] (some [0, 1, 7])) c102_12
def c102_2 : SC := .seq (.seq (.reg [ro 9 (.mv (.t 0)),
  ro 10 (.len 87 (.t 9)),
  ro 11 (.mv (.t 2)),
  ro 12 (.bn .gtr 2 (.t 10) (.t 11))] (some [0, 1, 12])) c102_5) c102_10
/-- loop.example/g01075/spec.l03Is -/
def c102 : SC := .seq (.reg [ro 6 (.asg (.c (.bool false)))] (some [0, 1, 2])) c102_2
theorem s102 : slimC ⟨38, [0, 1, 2]⟩ (Try.f102.body.getD .skip) = some c102.strip := by kernel_rfl

def c72_8 : SC := .seq (.reg [ro 6 (.asg (.c (.int .i64 2)))] (some [6])) .ret
def c72_7 : SC := .cond (.t 19) c72_8 .skip
def c72_16 : SC := .seq (.reg [ro 6 (.asg (.c (.int .i64 3)))] (some [6])) .ret
def c72_15 : SC := .cond (.t 28) c72_16 .skip
def c72_24 : SC := .seq (.reg [ro 6 (.asg (.c (.int .i64 4)))] (some [6])) .ret
def c72_23 : SC := .cond (.t 51) c72_24 .skip
def c72_40 : SC := .seq (.reg [ro 6 (.asg (.c (.int .i64 5)))] (some [6])) .ret
def c72_39 : SC := .cond (.t 69) c72_40 .skip
def c72_37 : SC := .seq (.reg [ro 59 (.mv (.t 8)),
  ro 60 (.bn .gtr 2 (.t 59) (.c (.int .i64 2))),
  ro 61 (.mv (.t 60)),
  ⟨some 62, .mv (.t 8), some (61, false)⟩,
  ⟨some 63, .bn .gtr 2 (.t 62) (.c (.int .i64 0)), some (61, false)⟩,
  ⟨some 64, .mv (.t 63), some (61, false)⟩,
  ⟨some 65, .fa 55 (.t 7) 2, some (64, true)⟩,
  ⟨some 66, .ld 9 (.t 65), some (64, true)⟩,
  ⟨some 67, .bn .eql 9 (.t 66) (.c (.str [116, 97, 117])), some (64, true)⟩,
  ⟨some 68, .pick (.t 64) (.t 67) (.c (.bool false)), some (61, false)⟩,
  ro 69 (.pick (.t 61) (.c (.bool true)) (.t 68))] (some [1, 2, 7, 8, 69])) c72_39
def c72_50 : SC := .seq (.reg [ro 6 (.asg (.c (.int .i64 5)))] (some [6])) .ret
def c72_49 : SC := .cond (.t 73) c72_50 .skip
def c72_47 : SC := .seq (.reg [ro 72 (.mv (.t 8)),
  ro 73 (.bn .neq 2 (.t 72) (.c (.int .i64 1)))] (some [1, 2, 7, 8, 73])) c72_49
def c72_60 : SC := .seq (.reg [ro 6 (.asg (.c (.int .i64 5)))] (some [6])) .ret
def c72_59 : SC := .cond (.t 83) c72_60 .skip
def c72_57 : SC := .seq (.reg [ro 76 (.mv (.t 8)),
  ro 77 (.mv (.t 0)),
  ro 78 (.fa 55 (.t 7) 1),
  ro 79 (.ld 2 (.t 78)),
  ro 80 (.ia 27 (.t 77) (.t 79)),
  ro 81 (.fa 47 (.t 80) 1),
  ro 82 (.ld 2 (.t 81)),
  ro 83 (.bn .neq 2 (.t 76) (.t 82))] (some [1, 2, 7, 8, 83])) c72_59
def c72_56 : SC := .cond (.t 74) c72_57 .skip
def c72_54 : SC := .seq (.reg [ro 75 (.bn .eql 2 (.t 56) (.c (.int .i64 5))),
  ro 74 (.asg (.t 75))] (some [0, 1, 2, 7, 8, 74])) c72_56
def c72_46 : SC := .cond (.t 70) c72_47 c72_54
def c72_44 : SC := .seq (.reg [ro 71 (.bn .eql 2 (.t 56) (.c (.int .i64 3))),
  ro 70 (.asg (.t 71))] (some [0, 1, 2, 7, 8, 56, 70])) c72_46
def c72_36 : SC := .cond (.t 57) c72_37 c72_44
def c72_33 : SC := .block 0 (.seq (.reg [ro 58 (.bn .eql 2 (.t 56) (.c (.int .i64 1))),
  ro 57 (.asg (.t 58))] (some [0, 1, 2, 7, 8, 56, 57])) c72_36)
def c72_69 : SC := .seq (.reg [ro 6 (.asg (.c (.int .i64 6)))] (some [6])) .ret
def c72_68 : SC := .cond (.t 102) c72_69 .skip
def c72_79 : SC := .seq (.reg [ro 6 (.asg (.c (.int .i64 7)))] (some [6])) .ret
def c72_78 : SC := .cond (.t 112) c72_79 .skip
def c72_91 : SC := .cond (.t 115) .skip (.exit 1)
def c72_99 : SC := .seq (.reg [ro 6 (.asg (.c (.int .i64 8)))] (some [6])) .ret
def c72_98 : SC := .cond (.t 125) c72_99 .skip
def c72_103 : SC := .reg [ro 116 (.mv (.t 10)),
  ro 117 (.bn .add 2 (.t 116) (.c (.int .i64 1))),
  ro 10 (.asg (.t 117))] (some [7, 8, 9, 10])
def c72_94 : SC := .seq (.block 2 (.seq (.reg [ro 118 (.fa 55 (.t 7) 3),
  ro 119 (.ld 53 (.t 118)),
  ro 120 (.mv (.t 10)),
  ro 121 (.ia 53 (.t 119) (.t 120)),
  ro 122 (.ld 87 (.t 121)),
  ro 123 (.mv (.t 9)),
  ro 124 (.call (.f 102) [(.t 122), (.t 123), (.c (.int .i64 15))]),
  ro 125 (.un .not (.t 124))] (some [7, 8, 9, 10, 125])) c72_98)) c72_103
def c72_88 : SC := .seq (.seq (.reg [ro 113 (.mv (.t 10)),
  ro 114 (.mv (.t 8)),
  ro 115 (.bn .lss 2 (.t 113) (.t 114))] (some [7, 8, 9, 10, 115])) c72_91) c72_94
def c72_86 : SC := .block 1 (.loop c72_88)
def c72_104 : SC := .seq (.reg [ro 6 (.asg (.c (.int .i64 0)))] (some [6])) .ret
def c72_83 : SC := .seq (.seq (.reg [ro 10 (.asg (.c (.int .i64 0)))] (some [7, 8, 9, 10])) c72_86) c72_104
def c72_75 : SC := .seq (.seq (.reg [ro 106 (.fa 55 (.t 7) 0),
  ro 107 (.ld 2 (.t 106)),
  ro 108 (.bn .eql 2 (.t 107) (.c (.int .i64 4))),
  ro 109 (.mv (.t 108)),
  ⟨some 110, .mv (.t 9), some (109, true)⟩,
  ⟨some 111, .bn .geq 2 (.t 110) (.c (.int .i64 6)), some (109, true)⟩,
  ro 112 (.pick (.t 109) (.t 111) (.c (.bool false)))] (some [7, 8, 9, 112])) c72_78) c72_83
def c72_73 : SC := .seq (.reg [ro 103 (.mv (.t 1)),
  ro 104 (.mv (.t 2)),
  ro 105 (.call (.f 101) [(.t 103), (.t 104)]),
  ro 9 (.asg (.t 105))] (some [7, 8, 9])) c72_75
def c72_65 : SC := .seq (.seq (.reg [ro 84 (.fa 55 (.t 7) 0),
  ro 85 (.ld 2 (.t 84)),
  ro 86 (.bn .eql 2 (.t 85) (.c (.int .i64 5))),
  ro 87 (.mv (.t 86)),
  ⟨some 88, .mv (.t 2), some (87, true)⟩,
  ⟨some 89, .bn .eql 2 (.t 88) (.c (.int .i64 0)), some (87, true)⟩,
  ⟨some 90, .mv (.t 89), some (87, true)⟩,
  ⟨some 91, .mv (.t 1), some (90, false)⟩,
  ⟨some 92, .nilc (.t 91), some (90, false)⟩,
  ⟨some 93, .fa 47 (.t 92) 2, some (90, false)⟩,
  ⟨some 94, .ld 45 (.t 93), some (90, false)⟩,
  ⟨some 95, .mv (.t 2), some (90, false)⟩,
  ⟨some 96, .bn .sub 2 (.t 95) (.c (.int .i64 1)), some (90, false)⟩,
  ⟨some 97, .ia 45 (.t 94) (.t 96), some (90, false)⟩,
  ⟨some 98, .fa 55 (.t 97) 0, some (90, false)⟩,
  ⟨some 99, .ld 2 (.t 98), some (90, false)⟩,
  ⟨some 100, .bn .neq 2 (.t 99) (.c (.int .i64 1)), some (90, false)⟩,
  ⟨some 101, .pick (.t 90) (.c (.bool true)) (.t 100), some (87, true)⟩,
  ro 102 (.pick (.t 87) (.t 101) (.c (.bool false)))] (some [1, 2, 7, 8, 102])) c72_68) c72_73
def c72_30 : SC := .seq (.seq (.reg [ro 55 (.fa 55 (.t 7) 0),
  ro 56 (.ld 2 (.t 55))] (some [0, 1, 2, 7, 8, 56])) c72_33) c72_65
def c72_28 : SC := .seq (.reg [ro 52 (.fa 55 (.t 7) 3),
  ro 53 (.ld 53 (.t 52)),
  ro 54 (.len 53 (.t 53)),
  ro 8 (.asg (.t 54))] (some [0, 1, 2, 7, 8])) c72_30
def c72_20 : SC := .seq (.seq (.reg [ro 29 (.fa 55 (.t 7) 0),
  ro 30 (.ld 2 (.t 29)),
  ro 31 (.bn .eql 2 (.t 30) (.c (.int .i64 4))),
  ro 32 (.mv (.t 31)),
  ⟨some 33, .fa 55 (.t 7) 1, some (32, true)⟩,
  ⟨some 34, .ld 2 (.t 33), some (32, true)⟩,
  ⟨some 35, .call (.f 33) [(.t 34), (.c (.int .i64 1)), (.c (.int .i64 7))], some (32, true)⟩,
  ⟨some 36, .un .not (.t 35), some (32, true)⟩,
  ro 37 (.pick (.t 32) (.t 36) (.c (.bool false))),
  ro 38 (.mv (.t 37)),
  ⟨some 39, .fa 55 (.t 7) 0, some (38, false)⟩,
  ⟨some 40, .ld 2 (.t 39), some (38, false)⟩,
  ⟨some 41, .bn .eql 2 (.t 40) (.c (.int .i64 5)), some (38, false)⟩,
  ⟨some 42, .mv (.t 41), some (38, false)⟩,
  ⟨some 43, .fa 55 (.t 7) 1, some (42, true)⟩,
  ⟨some 44, .ld 2 (.t 43), some (42, true)⟩,
  ⟨some 45, .mv (.t 0), some (42, true)⟩,
  ⟨some 46, .len 27 (.t 45), some (42, true)⟩,
  ⟨some 47, .bn .sub 2 (.t 46) (.c (.int .i64 1)), some (42, true)⟩,
  ⟨some 48, .call (.f 33) [(.t 44), (.c (.int .i64 0)), (.t 47)], some (42, true)⟩,
  ⟨some 49, .un .not (.t 48), some (42, true)⟩,
  ⟨some 50, .pick (.t 42) (.t 49) (.c (.bool false)), some (38, false)⟩,
  ro 51 (.pick (.t 38) (.c (.bool true)) (.t 50))] (some [0, 1, 2, 7, 51])) c72_23) c72_28
def c72_12 : SC := .seq (.seq (.reg [ro 20 (.fa 55 (.t 7) 0),
  ro 21 (.ld 2 (.t 20)),
  ro 22 (.bn .eql 2 (.t 21) (.c (.int .i64 1))),
  ro 23 (.mv (.t 22)),
  ⟨some 24, .fa 55 (.t 7) 2, some (23, true)⟩,
  ⟨some 25, .ld 9 (.t 24), some (23, true)⟩,
  ⟨some 26, .call (.f 46) [(.t 25)], some (23, true)⟩,
  ⟨some 27, .un .not (.t 26), some (23, true)⟩,
  ro 28 (.pick (.t 23) (.t 27) (.c (.bool false)))] (some [0, 1, 2, 7, 28])) c72_15) c72_20
def c72_4 : SC := .seq (.seq (.reg [ro 18 (.call (.f 100) [(.t 7)]),
  ro 19 (.un .not (.t 18))] (some [0, 1, 2, 7, 19])) c72_7) c72_12
def c72_2 : SC := .seq (.reg [ro 11 (.mv (.t 1)),
  ro 12 (.nilc (.t 11)),
  ro 13 (.fa 47 (.t 12) 2),
  ro 14 (.ld 45 (.t 13)),
  ro 15 (.mv (.t 2)),
  ro 16 (.ia 45 (.t 14) (.t 15)),
  ro 17 (.ld 55 (.t 16)),
  ro 7 (.alc 55),
  ⟨none, .sto 55 (.t 7) (.t 17), none⟩] (some [0, 1, 2, 7])) c72_4
/-- loop.example/g01075/spec.l05Reason -/
def c72 : SC := .seq (.reg [ro 6 (.asg (.c (.int .i64 0)))] (some [0, 1, 2])) c72_2
theorem s72 : slimC ⟨126, [0, 1, 2]⟩ (Try.f72.body.getD .skip) = some c72.strip := by kernel_rfl

def c47_6 : SC := .seq (.reg [ro 4 (.asg (.c (.int .i64 0))),
  ro 5 (.asg (.c (.int .i64 1)))] (some [4, 5])) .ret
def c47_5 : SC := .cond (.t 13) c47_6 .skip
def c47_18 : SC := .cond (.t 20) .skip (.exit 0)
def c47_28 : SC := .seq (.reg [ro 29 (.mv (.t 6)),
  ro 30 (.mv (.t 7)),
  ro 4 (.asg (.t 29)),
  ro 5 (.asg (.t 30))] (some [4, 5])) .ret
def c47_27 : SC := .cond (.t 28) c47_28 .skip
def c47_25 : SC := .seq (.reg [ro 27 (.mv (.t 7)),
  ro 28 (.bn .gtr 2 (.t 27) (.c (.int .i64 0)))] (some [0, 1, 6, 7, 28])) c47_27
def c47_32 : SC := .reg [ro 21 (.mv (.t 6)),
  ro 22 (.bn .add 2 (.t 21) (.c (.int .i64 1))),
  ro 6 (.asg (.t 22))] (some [0, 1, 6])
def c47_21 : SC := .seq (.block 1 (.seq (.reg [ro 23 (.mv (.t 0)),
  ro 24 (.mv (.t 1)),
  ro 25 (.mv (.t 6)),
  ro 26 (.call (.f 72) [(.t 23), (.t 24), (.t 25)]),
  ro 7 (.asg (.t 26))] (some [0, 1, 6, 7])) c47_25)) c47_32
def c47_15 : SC := .seq (.seq (.reg [ro 14 (.mv (.t 6)),
  ro 15 (.mv (.t 1)),
  ro 16 (.nilc (.t 15)),
  ro 17 (.fa 47 (.t 16) 2),
  ro 18 (.ld 45 (.t 17)),
  ro 19 (.len 45 (.t 18)),
  ro 20 (.bn .lss 2 (.t 14) (.t 19))] (some [0, 1, 6, 20])) c47_18) c47_21
def c47_13 : SC := .block 0 (.loop c47_15)
def c47_33 : SC := .seq (.reg [ro 4 (.asg (.c (.int .i64 0))),
  ro 5 (.asg (.c (.int .i64 0)))] (some [4, 5])) .ret
def c47_10 : SC := .seq (.seq (.reg [ro 6 (.asg (.c (.int .i64 0)))] (some [0, 1, 6])) c47_13) c47_33
def c47_2 : SC := .seq (.seq (.reg [ro 8 (.mv (.t 1)),
  ro 9 (.nilc (.t 8)),
  ro 10 (.fa 47 (.t 9) 2),
  ro 11 (.ld 45 (.t 10)),
  ro 12 (.call (.f 71) [(.t 11)]),
  ro 13 (.un .not (.t 12))] (some [0, 1, 13])) c47_5) c47_10
/-- loop.example/g01075/spec.l05Body -/
def c47 : SC := .seq (.reg [ro 4 (.asg (.c (.int .i64 0))),
  ro 5 (.asg (.c (.int .i64 0)))] (some [0, 1])) c47_2
theorem s47 : slimC ⟨31, [0, 1]⟩ (Try.f47.body.getD .skip) = some c47.strip := by kernel_rfl

def c32_6 : SC := .seq (.reg [ro 2 (.asg (.c (.bool false)))] (some [2])) .ret
def c32_5 : SC := .cond (.t 15) c32_6 .skip
def c32_18 : SC := .cond (.t 19) .skip (.exit 0)
def c32_27 : SC := .seq (.reg [ro 2 (.asg (.c (.bool false)))] (some [2])) .ret
def c32_26 : SC := .cond (.t 37) c32_27 .skip
def c32_38 : SC := .cond (.t 40) .skip (.exit 2)
def c32_46 : SC := .seq (.reg [ro 2 (.asg (.c (.bool false)))] (some [2])) .ret
def c32_45 : SC := .cond (.t 53) c32_46 .skip
def c32_50 : SC := .reg [ro 41 (.mv (.t 4)),
  ro 42 (.bn .add 3 (.t 41) (.c (.int .i64 1))),
  ro 4 (.asg (.t 42))] (some [0, 3, 4])
def c32_41 : SC := .seq (.block 3 (.seq (.drw [ro 43 (.mv (.t 0)),
  ro 44 (.mv (.t 4)),
  ro 45 (.ia 27 (.t 43) (.t 44)),
  ro 46 (.fa 47 (.t 45) 0),
  ro 47 (.ld 9 (.t 46)),
  ro 48 (.mv (.t 0)),
  ro 49 (.mv (.t 3)),
  ro 50 (.ia 27 (.t 48) (.t 49)),
  ro 51 (.fa 47 (.t 50) 0),
  ro 52 (.ld 9 (.t 51)),
  ro 53 (.bn .eql 9 (.t 47) (.t 52))] [[], [], [0, 1], [2], [3], [], [], [5, 6], [7], [8], [4, 9]] (some [0, 3, 4, 53])) c32_45)) c32_50
def c32_35 : SC := .seq (.seq (.reg [ro 38 (.mv (.t 4)),
  ro 39 (.mv (.t 3)),
  ro 40 (.bn .lss 3 (.t 38) (.t 39))] (some [0, 3, 4, 40])) c32_38) c32_41
def c32_33 : SC := .block 2 (.loop c32_35)
def c32_31 : SC := .seq (.reg [ro 4 (.asg (.c (.int .i64 0)))] (some [0, 3, 4])) c32_33
def c32_51 : SC := .reg [ro 20 (.mv (.t 3)),
  ro 21 (.bn .add 3 (.t 20) (.c (.int .i64 1))),
  ro 3 (.asg (.t 21))] (some [0, 3])
def c32_21 : SC := .seq (.block 1 (.seq (.seq (.reg [ro 22 (.mv (.t 0)),
  ro 23 (.mv (.t 3)),
  ro 24 (.ia 27 (.t 22) (.t 23)),
  ro 25 (.fa 47 (.t 24) 0),
  ro 26 (.ld 9 (.t 25)),
  ro 27 (.call (.f 46) [(.t 26)]),
  ro 28 (.un .not (.t 27)),
  ro 29 (.mv (.t 28)),
  ⟨some 30, .mv (.t 0), some (29, false)⟩,
  ⟨some 31, .mv (.t 3), some (29, false)⟩,
  ⟨some 32, .ia 27 (.t 30) (.t 31), some (29, false)⟩,
  ⟨some 33, .fa 47 (.t 32) 1, some (29, false)⟩,
  ⟨some 34, .ld 2 (.t 33), some (29, false)⟩,
  ⟨some 35, .call (.f 33) [(.t 34), (.c (.int .i64 0)), (.c (.int .i64 3))], some (29, false)⟩,
  ⟨some 36, .un .not (.t 35), some (29, false)⟩,
  ro 37 (.pick (.t 29) (.c (.bool true)) (.t 36))] (some [0, 3, 37])) c32_26) c32_31)) c32_51
def c32_15 : SC := .seq (.seq (.reg [ro 16 (.mv (.t 3)),
  ro 17 (.mv (.t 0)),
  ro 18 (.len 27 (.t 17)),
  ro 19 (.bn .lss 3 (.t 16) (.t 18))] (some [0, 3, 19])) c32_18) c32_21
def c32_13 : SC := .block 0 (.loop c32_15)
def c32_60 : SC := .cond (.t 57) .skip (.exit 4)
def c32_70 : SC := .seq (.reg [ro 2 (.asg (.c (.bool false)))] (some [2])) .ret
def c32_69 : SC := .cond (.t 69) c32_70 .skip
def c32_67 : SC := .seq (.reg [ro 68 (.mv (.t 7)),
  ro 69 (.bn .gtr 2 (.t 68) (.c (.int .i64 0)))] (some [0, 5, 69])) c32_69
def c32_74 : SC := .reg [ro 58 (.mv (.t 5)),
  ro 59 (.bn .add 3 (.t 58) (.c (.int .i64 1))),
  ro 5 (.asg (.t 59))] (some [0, 5])
def c32_63 : SC := .seq (.block 5 (.seq (.reg [ro 61 (.mv (.t 0)),
  ro 62 (.mv (.t 0)),
  ro 63 (.mv (.t 5)),
  ro 64 (.ia 27 (.t 62) (.t 63)),
  ro 65 (.call (.f 47) [(.t 61), (.t 64)]),
  ro 60 (.mv (.t 65)),
  ro 66 (.ex (.t 60) 0),
  ro 67 (.ex (.t 60) 1),
  ro 6 (.asg (.t 66)),
  ro 7 (.asg (.t 67))] (some [0, 5, 7])) c32_67)) c32_74
def c32_57 : SC := .seq (.seq (.reg [ro 54 (.mv (.t 5)),
  ro 55 (.mv (.t 0)),
  ro 56 (.len 27 (.t 55)),
  ro 57 (.bn .lss 3 (.t 54) (.t 56))] (some [0, 5, 57])) c32_60) c32_63
def c32_55 : SC := .block 4 (.loop c32_57)
def c32_75 : SC := .seq (.reg [ro 2 (.asg (.c (.bool true)))] (some [2])) .ret
def c32_52 : SC := .seq (.seq (.reg [ro 5 (.asg (.c (.int .i64 0)))] (some [0, 5])) c32_55) c32_75
def c32_10 : SC := .seq (.seq (.reg [ro 3 (.asg (.c (.int .i64 0)))] (some [0, 3])) c32_13) c32_52
def c32_2 : SC := .seq (.seq (.reg [ro 8 (.mv (.t 0)),
  ro 9 (.len 27 (.t 8)),
  ro 10 (.bn .eql 3 (.t 9) (.c (.int .i64 0))),
  ro 11 (.mv (.t 10)),
  ⟨some 12, .mv (.t 0), some (11, false)⟩,
  ⟨some 13, .len 27 (.t 12), some (11, false)⟩,
  ⟨some 14, .bn .gtr 3 (.t 13) (.c (.int .i64 4)), some (11, false)⟩,
  ro 15 (.pick (.t 11) (.c (.bool true)) (.t 14))] (some [0, 15])) c32_5) c32_10
/-- loop.example/g01075/spec.l05Defs -/
def c32 : SC := .seq (.reg [ro 2 (.asg (.c (.bool false)))] (some [0])) c32_2
theorem s32 : slimC ⟨70, [0]⟩ (Try.f32.body.getD .skip) = some c32.strip := by kernel_rfl

def c20_6 : SC := .seq (.reg [ro 6 (.asg (.c (.int .i64 1)))] (some [6])) .ret
def c20_5 : SC := .cond (.t 9) c20_6 .skip
def c20_14 : SC := .seq (.reg [ro 6 (.asg (.c (.int .i64 2)))] (some [6])) .ret
def c20_13 : SC := .cond (.t 27) c20_14 .skip
def c20_18 : SC := .seq (.reg [ro 6 (.asg (.c (.int .i64 0)))] (some [6])) .ret
def c20_10 : SC := .seq (.seq (.reg [ro 10 (.mv (.t 1)),
  ro 11 (.mv (.t 0)),
  ro 12 (.len 27 (.t 11)),
  ro 13 (.bn .sub 2 (.t 12) (.c (.int .i64 1))),
  ro 14 (.call (.f 33) [(.t 10), (.c (.int .i64 0)), (.t 13)]),
  ro 15 (.un .not (.t 14)),
  ro 16 (.mv (.t 15)),
  ⟨some 17, .mv (.t 2), some (16, false)⟩,
  ⟨some 18, .mv (.t 0), some (16, false)⟩,
  ⟨some 19, .mv (.t 1), some (16, false)⟩,
  ⟨some 20, .ia 27 (.t 18) (.t 19), some (16, false)⟩,
  ⟨some 21, .fa 47 (.t 20) 2, some (16, false)⟩,
  ⟨some 22, .ld 45 (.t 21), some (16, false)⟩,
  ⟨some 23, .len 45 (.t 22), some (16, false)⟩,
  ⟨some 24, .bn .sub 2 (.t 23) (.c (.int .i64 1)), some (16, false)⟩,
  ⟨some 25, .call (.f 33) [(.t 17), (.c (.int .i64 0)), (.t 24)], some (16, false)⟩,
  ⟨some 26, .un .not (.t 25), some (16, false)⟩,
  ro 27 (.pick (.t 16) (.c (.bool true)) (.t 26))] (some [27])) c20_13) c20_18
def c20_2 : SC := .seq (.seq (.reg [ro 7 (.mv (.t 0)),
  ro 8 (.call (.f 32) [(.t 7)]),
  ro 9 (.un .not (.t 8))] (some [0, 1, 2, 9])) c20_5) c20_10
/-- loop.example/g01075/spec.l05Ask -/
def c20 : SC := .seq (.reg [ro 6 (.asg (.c (.int .i64 0)))] (some [0, 1, 2])) c20_2
theorem s20 : slimC ⟨28, [0, 1, 2]⟩ (Try.f20.body.getD .skip) = some c20.strip := by kernel_rfl

def c34_14 : SC := .cond (.t 12) .skip (.exit 0)
def c34_28 : SC := .reg [ro 31 (.mv (.t 5)),
  ro 32 (.mv (.t 1)),
  ro 33 (.bsl 24 1 [(0, (.t 32))]),
  ro 34 (.app 24 24 (.t 31) (.t 33)),
  ro 5 (.asg (.t 34))] (some [0, 1, 5, 6, 7])
def c34_27 : SC := .cond (.t 30) c34_28 .skip
def c34_25 : SC := .seq (.reg [ro 25 (.mv (.t 0)),
  ro 26 (.mv (.t 7)),
  ro 27 (.ia 24 (.t 25) (.t 26)),
  ro 28 (.ld 2 (.t 27)),
  ro 29 (.mv (.t 1)),
  ro 30 (.bn .gtr 2 (.t 28) (.t 29))] (some [0, 1, 5, 6, 7, 30])) c34_27
def c34_23 : SC := .seq (.reg [ro 6 (.asg (.c (.bool true)))] (some [0, 1, 5, 6, 7])) c34_25
def c34_22 : SC := .cond (.t 24) c34_23 .skip
def c34_31 : SC := .reg [ro 35 (.mv (.t 5)),
  ro 36 (.mv (.t 0)),
  ro 37 (.mv (.t 7)),
  ro 38 (.ia 24 (.t 36) (.t 37)),
  ro 39 (.ld 2 (.t 38)),
  ro 40 (.bsl 24 1 [(0, (.t 39))]),
  ro 41 (.app 24 24 (.t 35) (.t 40)),
  ro 5 (.asg (.t 41))] (some [0, 1, 5, 6, 7])
def c34_32 : SC := .reg [ro 13 (.mv (.t 7)),
  ro 14 (.bn .add 3 (.t 13) (.c (.int .i64 1))),
  ro 7 (.asg (.t 14))] (some [0, 1, 5, 6, 7])
def c34_17 : SC := .seq (.block 1 (.seq (.seq (.reg [ro 15 (.mv (.t 6)),
  ro 16 (.un .not (.t 15)),
  ro 17 (.mv (.t 16)),
  ⟨some 18, .mv (.t 0), some (17, true)⟩,
  ⟨some 19, .mv (.t 7), some (17, true)⟩,
  ⟨some 20, .ia 24 (.t 18) (.t 19), some (17, true)⟩,
  ⟨some 21, .ld 2 (.t 20), some (17, true)⟩,
  ⟨some 22, .mv (.t 1), some (17, true)⟩,
  ⟨some 23, .bn .geq 2 (.t 21) (.t 22), some (17, true)⟩,
  ro 24 (.pick (.t 17) (.t 23) (.c (.bool false)))] (some [0, 1, 5, 6, 7, 24])) c34_22) c34_31)) c34_32
def c34_11 : SC := .seq (.seq (.reg [ro 9 (.mv (.t 7)),
  ro 10 (.mv (.t 0)),
  ro 11 (.len 24 (.t 10)),
  ro 12 (.bn .lss 3 (.t 9) (.t 11))] (some [0, 1, 5, 6, 7, 12])) c34_14) c34_17
def c34_9 : SC := .block 0 (.loop c34_11)
def c34_37 : SC := .reg [ro 44 (.mv (.t 5)),
  ro 45 (.mv (.t 1)),
  ro 46 (.bsl 24 1 [(0, (.t 45))]),
  ro 47 (.app 24 24 (.t 44) (.t 46)),
  ro 5 (.asg (.t 47))] (some [5])
def c34_36 : SC := .cond (.t 43) c34_37 .skip
def c34_39 : SC := .seq (.reg [ro 48 (.mv (.t 5)),
  ro 4 (.asg (.t 48))] (some [4])) .ret
def c34_33 : SC := .seq (.seq (.reg [ro 42 (.mv (.t 6)),
  ro 43 (.un .not (.t 42))] (some [1, 5, 43])) c34_36) c34_39
def c34_6 : SC := .seq (.seq (.reg [ro 7 (.asg (.c (.int .i64 0)))] (some [0, 1, 5, 6, 7])) c34_9) c34_33
def c34_4 : SC := .seq (.reg [ro 6 (.asg (.c (.bool false)))] (some [0, 1, 5, 6])) c34_6
def c34_2 : SC := .seq (.reg [ro 8 (.bsl 24 0 []),
  ro 5 (.asg (.t 8))] (some [0, 1, 5])) c34_4
/-- loop.example/g01075/spec.l00Put -/
def c34 : SC := .seq (.reg [ro 4 (.asg (.c .nils))] (some [0, 1])) c34_2
theorem s34 : slimC ⟨49, [0, 1]⟩ (Try.f34.body.getD .skip) = some c34.strip := by kernel_rfl

def c21_12 : SC := .cond (.t 9) .skip (.exit 0)
def c21_20 : SC := .reg [ro 18 (.mv (.t 3)),
  ro 19 (.mv (.t 0)),
  ro 20 (.mv (.t 4)),
  ro 21 (.ia 45 (.t 19) (.t 20)),
  ro 22 (.fa 55 (.t 21) 1),
  ro 23 (.ld 2 (.t 22)),
  ro 24 (.call (.f 34) [(.t 18), (.t 23)]),
  ro 3 (.asg (.t 24))] (some [0, 3, 4])
def c21_19 : SC := .cond (.t 17) c21_20 .skip
def c21_22 : SC := .reg [ro 10 (.mv (.t 4)),
  ro 11 (.bn .add 3 (.t 10) (.c (.int .i64 1))),
  ro 4 (.asg (.t 11))] (some [0, 3, 4])
def c21_15 : SC := .seq (.block 1 (.seq (.reg [ro 12 (.mv (.t 0)),
  ro 13 (.mv (.t 4)),
  ro 14 (.ia 45 (.t 12) (.t 13)),
  ro 15 (.fa 55 (.t 14) 0),
  ro 16 (.ld 2 (.t 15)),
  ro 17 (.bn .eql 2 (.t 16) (.c (.int .i64 5)))] (some [0, 3, 4, 17])) c21_19)) c21_22
def c21_9 : SC := .seq (.seq (.reg [ro 6 (.mv (.t 4)),
  ro 7 (.mv (.t 0)),
  ro 8 (.len 45 (.t 7)),
  ro 9 (.bn .lss 3 (.t 6) (.t 8))] (some [0, 3, 4, 9])) c21_12) c21_15
def c21_7 : SC := .block 0 (.loop c21_9)
def c21_23 : SC := .seq (.reg [ro 25 (.mv (.t 3)),
  ro 2 (.asg (.t 25))] (some [2])) .ret
def c21_4 : SC := .seq (.seq (.reg [ro 4 (.asg (.c (.int .i64 0)))] (some [0, 3, 4])) c21_7) c21_23
def c21_2 : SC := .seq (.reg [ro 5 (.bsl 24 0 []),
  ro 3 (.asg (.t 5))] (some [0, 3])) c21_4
/-- loop.example/g01075/spec.l05Calls -/
def c21 : SC := .seq (.reg [ro 2 (.asg (.c .nils))] (some [0])) c21_2
theorem s21 : slimC ⟨26, [0]⟩ (Try.f21.body.getD .skip) = some c21.strip := by kernel_rfl

def c6_8 : SC := .seq (.reg [ro 12 (.mv (.t 6)),
  ro 4 (.asg (.c .nils)),
  ro 5 (.asg (.t 12))] (some [4, 5])) .ret
def c6_7 : SC := .cond (.t 11) c6_8 .skip
def c6_12 : SC := .seq (.reg [ro 13 (.mv (.t 0)),
  ro 14 (.mv (.t 1)),
  ro 15 (.ia 27 (.t 13) (.t 14)),
  ro 16 (.fa 47 (.t 15) 2),
  ro 17 (.ld 45 (.t 16)),
  ro 18 (.call (.f 21) [(.t 17)]),
  ro 4 (.asg (.t 18)),
  ro 5 (.asg (.c (.int .i64 0)))] (some [4, 5])) .ret
def c6_4 : SC := .seq (.seq (.reg [ro 10 (.mv (.t 6)),
  ro 11 (.bn .neq 2 (.t 10) (.c (.int .i64 0)))] (some [0, 1, 6, 11])) c6_7) c6_12
def c6_2 : SC := .seq (.reg [ro 7 (.mv (.t 0)),
  ro 8 (.mv (.t 1)),
  ro 9 (.call (.f 20) [(.t 7), (.t 8), (.c (.int .i64 0))]),
  ro 6 (.asg (.t 9))] (some [0, 1, 6])) c6_4
/-- loop.example/g01075/spec.CallsOf -/
def c6 : SC := .seq (.reg [ro 4 (.asg (.c .nils)),
  ro 5 (.asg (.c (.int .i64 0)))] (some [0, 1])) c6_2
theorem s6 : slimC ⟨19, [0, 1]⟩ (Try.f6.body.getD .skip) = some c6.strip := by kernel_rfl

def c49_2 : SC := .seq (.reg [ro 7 (.mv (.t 0)),
  ro 8 (.mv (.t 1)),
  ro 9 (.bn .geq 2 (.t 7) (.t 8)),
  ro 10 (.mv (.t 9)),
  ⟨some 11, .mv (.t 0), some (10, true)⟩,
  ⟨some 12, .mv (.t 2), some (10, true)⟩,
  ⟨some 13, .bn .leq 2 (.t 11) (.t 12), some (10, true)⟩,
  ro 14 (.pick (.t 10) (.t 13) (.c (.bool false))),
  ro 6 (.asg (.t 14))] (some [6])) .ret
/-- loop.example/g01075/impl.within -/
def c49 : SC := .seq (.reg [ro 6 (.asg (.c (.bool false)))] (some [0, 1, 2])) c49_2
theorem s49 : slimC ⟨15, [0, 1, 2]⟩ (Try.f49.body.getD .skip) = some c49.strip := by kernel_rfl

def c75_2 : SC := .seq (.reg [ro 3 (.fa 47 (.t 1) 1),
  ro 4 (.ld 2 (.t 3)),
  ro 5 (.call (.f 49) [(.t 4), (.c (.int .i64 0)), (.c (.int .i64 3))]),
  ro 6 (.un .not (.t 5)),
  ro 2 (.asg (.t 6))] (some [2])) .ret
/-- loop.example/g01075/impl.parametersOk$1 -/
def c75 : SC := .seq (.reg [ro 1 (.bx 47 (.t 0)),
  ro 2 (.asg (.c (.bool false)))] (some [1])) c75_2
theorem s75 : slimC ⟨7, [0]⟩ (Try.f75.body.getD .skip) = some c75.strip := by kernel_rfl

def c77_20 : SC := .seq (.reg [ro 17 (.mv (.t 5)),
  ro 4 (.asg (.t 17))] (some [4])) .ret
def c77_19 : SC := .cond (.t 16) c77_20 .skip
def c77_17 : SC := .seq (.reg [ro 11 (.mv (.t 1)),
  ro 12 (.mv (.t 0)),
  ro 13 (.mv (.t 5)),
  ro 14 (.ia 27 (.t 12) (.t 13)),
  ro 15 (.ld 47 (.t 14)),
  ro 16 (.call (.t 11) [(.t 15)])] (some [0, 1, 5, 7, 8, 16])) c77_19
def c77_24 : SC := .reg [ro 18 (.bn .add 3 (.t 8) (.c (.int .i64 1))),
  ro 8 (.mv (.t 18))] (some [0, 1, 7, 8])
def c77_13 : SC := .seq (.block 1 (.seq (.reg [ro 10 (.mv (.t 8)),
  ro 5 (.asg (.t 10))] (some [0, 1, 5, 7, 8])) c77_17)) c77_24
def c77_9 : SC := .seq (.cond (.t 9) .skip (.exit 0)) c77_13
def c77_7 : SC := .seq (.reg [ro 9 (.bn .lss 3 (.t 8) (.t 7))] (some [0, 1, 7, 8, 9])) c77_9
def c77_5 : SC := .block 0 (.loop c77_7)
def c77_25 : SC := .seq (.reg [ro 4 (.asg (.c (.int .i64 (-1))))] (some [4])) .ret
def c77_2 : SC := .seq (.seq (.reg [ro 6 (.mv (.t 0)),
  ro 7 (.len 27 (.t 6)),
  ro 8 (.mv (.c (.int .i64 0)))] (some [0, 1, 7, 8])) c77_5) c77_25
/-- slices.IndexFunc[[]loop.example/g01075/impl.Definition,loop.example/g01075/impl.Definition] -/
def c77 : SC := .seq (.reg [ro 4 (.asg (.c (.int .i64 0)))] (some [0, 1])) c77_2
theorem s77 : slimC ⟨19, [0, 1]⟩ (Try.f77.body.getD .skip) = some c77.strip := by kernel_rfl

def c74_2 : SC := .seq (.reg [ro 5 (.mv (.t 0)),
  ro 6 (.mv (.t 1)),
  ro 7 (.call (.f 77) [(.t 5), (.t 6)]),
  ro 8 (.bn .geq 3 (.t 7) (.c (.int .i64 0))),
  ro 4 (.asg (.t 8))] (some [4])) .ret
/-- slices.ContainsFunc[[]loop.example/g01075/impl.Definition,loop.example/g01075/impl.Definition] -/
def c74 : SC := .seq (.reg [ro 4 (.asg (.c (.bool false)))] (some [0, 1])) c74_2
theorem s74 : slimC ⟨9, [0, 1]⟩ (Try.f74.body.getD .skip) = some c74.strip := by kernel_rfl

def c50_2 : SC := .seq (.reg [ro 3 (.mv (.t 0)),
  ro 4 (.call (.f 74) [(.t 3), (.f 75)]),
  ro 5 (.un .not (.t 4)),
  ro 2 (.asg (.t 5))] (some [2])) .ret
/-- loop.example/g01075/impl.parametersOk -/
def c50 : SC := .seq (.reg [ro 2 (.asg (.c (.bool false)))] (some [0])) c50_2
theorem s50 : slimC ⟨6, [0]⟩ (Try.f50.body.getD .skip) = some c50.strip := by kernel_rfl

def c76_2 : SC := .seq (.reg [ro 3 (.mv (.t 0)),
  ro 4 (.bn .geq 5 (.t 3) (.c (.int .u8 48))),
  ro 5 (.mv (.t 4)),
  ⟨some 6, .mv (.t 0), some (5, true)⟩,
  ⟨some 7, .bn .leq 5 (.t 6) (.c (.int .u8 57)), some (5, true)⟩,
  ro 8 (.pick (.t 5) (.t 7) (.c (.bool false))),
  ro 2 (.asg (.t 8))] (some [2])) .ret
/-- loop.example/g01075/impl.isDigit -/
def c76 : SC := .seq (.reg [ro 2 (.asg (.c (.bool false)))] (some [0])) c76_2
theorem s76 : slimC ⟨9, [0]⟩ (Try.f76.body.getD .skip) = some c76.strip := by kernel_rfl

def c51_22 : SC := .seq (.reg [ro 2 (.asg (.c (.bool false)))] (some [2])) .ret
def c51_21 : SC := .cond (.t 32) c51_22 .skip
def c51_19 : SC := .seq (.reg [ro 20 (.mv (.t 4)),
  ro 21 (.un .not (.t 20)),
  ro 22 (.mv (.t 21)),
  ⟨some 23, .mv (.t 3), some (22, true)⟩,
  ⟨some 24, .bn .eql 3 (.t 23) (.c (.int .i64 0)), some (22, true)⟩,
  ⟨some 25, .mv (.t 24), some (22, true)⟩,
  ⟨some 26, .mv (.t 0), some (25, false)⟩,
  ⟨some 27, .mv (.t 3), some (25, false)⟩,
  ⟨some 28, .idx 9 (.t 26) (.t 27), some (25, false)⟩,
  ⟨some 29, .call (.f 76) [(.t 28)], some (25, false)⟩,
  ⟨some 30, .un .not (.t 29), some (25, false)⟩,
  ⟨some 31, .pick (.t 25) (.c (.bool true)) (.t 30), some (22, true)⟩,
  ro 32 (.pick (.t 22) (.t 31) (.c (.bool false)))] (some [0, 6, 7, 32])) c51_21
def c51_17 : SC := .seq (.reg [ro 10 (.mv (.t 0)),
  ro 11 (.mv (.t 3)),
  ro 12 (.idx 9 (.t 10) (.t 11)),
  ro 13 (.bn .geq 5 (.t 12) (.c (.int .u8 97))),
  ro 14 (.mv (.t 13)),
  ⟨some 15, .mv (.t 0), some (14, true)⟩,
  ⟨some 16, .mv (.t 3), some (14, true)⟩,
  ⟨some 17, .idx 9 (.t 15) (.t 16), some (14, true)⟩,
  ⟨some 18, .bn .leq 5 (.t 17) (.c (.int .u8 122)), some (14, true)⟩,
  ro 19 (.pick (.t 14) (.t 18) (.c (.bool false))),
  ro 4 (.asg (.t 19))] (some [0, 3, 4, 6, 7])) c51_19
def c51_26 : SC := .reg [ro 33 (.bn .add 3 (.t 7) (.c (.int .i64 1))),
  ro 7 (.mv (.t 33))] (some [0, 6, 7])
def c51_13 : SC := .seq (.block 1 (.seq (.reg [ro 9 (.mv (.t 7)),
  ro 3 (.asg (.t 9))] (some [0, 3, 6, 7])) c51_17)) c51_26
def c51_9 : SC := .seq (.cond (.t 8) .skip (.exit 0)) c51_13
def c51_7 : SC := .seq (.reg [ro 8 (.bn .lss 3 (.t 7) (.t 6))] (some [0, 6, 7, 8])) c51_9
def c51_5 : SC := .block 0 (.loop c51_7)
def c51_27 : SC := .seq (.reg [ro 34 (.mv (.t 0)),
  ro 35 (.len 9 (.t 34)),
  ro 36 (.bn .geq 3 (.t 35) (.c (.int .i64 1))),
  ro 37 (.mv (.t 36)),
  ⟨some 38, .mv (.t 0), some (37, true)⟩,
  ⟨some 39, .len 9 (.t 38), some (37, true)⟩,
  ⟨some 40, .bn .leq 3 (.t 39) (.c (.int .i64 10)), some (37, true)⟩,
  ro 41 (.pick (.t 37) (.t 40) (.c (.bool false))),
  ro 2 (.asg (.t 41))] (some [2])) .ret
def c51_2 : SC := .seq (.seq (.reg [ro 5 (.mv (.t 0)),
  ro 6 (.len 9 (.t 5)),
  ro 7 (.mv (.c (.int .i64 0)))] (some [0, 6, 7])) c51_5) c51_27
/-- loop.example/g01075/impl.IsName -/
def c51 : SC := .seq (.reg [ro 2 (.asg (.c (.bool false)))] (some [0])) c51_2
theorem s51 : slimC ⟨42, [0]⟩ (Try.f51.body.getD .skip) = some c51.strip := by kernel_rfl

def c78_2 : SC := .seq (.reg [ro 4 (.fa 47 (.t 2) 0),
  ro 5 (.ld 9 (.t 4)),
  ro 6 (.ld 9 (.t 1)),
  ro 7 (.bn .eql 9 (.t 5) (.t 6)),
  ro 3 (.asg (.t 7))] (some [3])) .ret
/-- loop.example/g01075/impl.definitionNamed$1 -/
def c78 : SC := .seq (.reg [ro 2 (.bx 47 (.t 0)),
  ro 3 (.asg (.c (.bool false)))] (some [1, 2])) c78_2
theorem s78 : slimC ⟨8, [0, 1]⟩ (Try.f78.body.getD .skip) = some c78.strip := by kernel_rfl

def c77v2_20 : SC := .seq (.reg [ro 17 (.mv (.t 5)),
  ro 4 (.asg (.t 17))] (some [4])) .ret
def c77v2_19 : SC := .cond (.t 16) c77v2_20 .skip
def c77v2_17 : SC := .seq (.reg [ro 11 (.mv (.t 1)),
  ro 12 (.mv (.t 0)),
  ro 13 (.mv (.t 5)),
  ro 14 (.ia 27 (.t 12) (.t 13)),
  ro 15 (.ld 47 (.t 14)),
  ro 16 (.call (.t 11) [(.t 15)])] (some [0, 1, 5, 7, 8, 16])) c77v2_19
def c77v2_24 : SC := .reg [ro 18 (.bn .add 3 (.t 8) (.c (.int .i64 1))),
  ro 8 (.mv (.t 18))] (some [0, 1, 7, 8])
def c77v2_13 : SC := .seq (.block 1 (.seq (.reg [ro 10 (.mv (.t 8)),
  ro 5 (.asg (.t 10))] (some [0, 1, 5, 7, 8])) c77v2_17)) c77v2_24
def c77v2_9 : SC := .seq (.cond (.t 9) .skip (.exit 0)) c77v2_13
def c77v2_7 : SC := .seq (.reg [ro 9 (.bn .lss 3 (.t 8) (.t 7))] (some [0, 1, 7, 8, 9])) c77v2_9
def c77v2_5 : SC := .block 0 (.loop c77v2_7)
def c77v2_25 : SC := .seq (.reg [ro 4 (.asg (.c (.int .i64 (-1))))] (some [4])) .ret
def c77v2_2 : SC := .seq (.seq (.reg [ro 6 (.mv (.t 0)),
  ro 7 (.len 27 (.t 6)),
  ro 8 (.mv (.c (.int .i64 0)))] (some [0, 1, 7, 8])) c77v2_5) c77v2_25
/-- slices.IndexFunc[[]loop.example/g01075/impl.Definition,loop.example/g01075/impl.Definition] -/
def c77v2 : SC := .seq (.reg [ro 4 (.asg (.c (.int .i64 0)))] (some [0, 1])) c77v2_2
theorem s77v2 : slimC ⟨19, [0, 1]⟩ (Try.f77.body.getD .skip) = some c77v2.strip := by kernel_rfl

def c52_2 : SC := .seq (.reg [ro 5 (.mv (.t 0)),
  ro 6 (.mkf 78 [(.t 3)]),
  ro 7 (.call (.f 77) [(.t 5), (.t 6)]),
  ro 4 (.asg (.t 7))] (some [4])) .ret
/-- loop.example/g01075/impl.definitionNamed -/
def c52 : SC := .seq (.reg [ro 3 (.bx 9 (.t 1)),
  ro 4 (.asg (.c (.int .i64 0)))] (some [0, 3])) c52_2
theorem s52 : slimC ⟨8, [0, 1]⟩ (Try.f52.body.getD .skip) = some c52.strip := by kernel_rfl

def c104_15 : SC := .reg [ro 8 (.bn .eql 2 (.t 4) (.c (.int .i64 4))),
  ro 5 (.asg (.t 8))] (some [4, 5])
def c104_13 : SC := .cond (.t 5) .skip c104_15
def c104_11 : SC := .seq (.reg [ro 7 (.bn .eql 2 (.t 4) (.c (.int .i64 3))),
  ro 5 (.asg (.t 7))] (some [4, 5])) c104_13
def c104_9 : SC := .cond (.t 5) .skip c104_11
def c104_17 : SC := .seq (.reg [ro 2 (.asg (.c (.int .i64 1)))] (some [2])) .ret
def c104_23 : SC := .seq (.reg [ro 2 (.asg (.c (.int .i64 2)))] (some [2])) .ret
def c104_22 : SC := .cond (.t 9) c104_23 .skip
def c104_20 : SC := .seq (.reg [ro 10 (.bn .eql 2 (.t 4) (.c (.int .i64 2))),
  ro 9 (.asg (.t 10))] (some [9])) c104_22
def c104_16 : SC := .cond (.t 5) c104_17 c104_20
def c104_5 : SC := .block 0 (.seq (.seq (.reg [ro 6 (.bn .eql 2 (.t 4) (.c (.int .i64 1))),
  ro 5 (.asg (.t 6))] (some [4, 5])) c104_9) c104_16)
def c104_27 : SC := .seq (.reg [ro 2 (.asg (.c (.int .i64 0)))] (some [2])) .ret
def c104_2 : SC := .seq (.seq (.reg [ro 3 (.fa 55 (.t 1) 0),
  ro 4 (.ld 2 (.t 3))] (some [4])) c104_5) c104_27
/-- (loop.example/g01075/impl.Part).follow -/
def c104 : SC := .seq (.reg [ro 1 (.bx 55 (.t 0)),
  ro 2 (.asg (.c (.int .i64 0)))] (some [1])) c104_2
theorem s104 : slimC ⟨11, [0]⟩ (Try.f104.body.getD .skip) = some c104.strip := by kernel_rfl

def c79_10 : SC := .cond (.t 7) .skip (.exit 0)
def c79_19 : SC := .seq (.reg [ro 4 (.asg (.c (.int .i64 (-1))))] (some [4])) .ret
def c79_18 : SC := .cond (.t 14) c79_19 .skip
def c79_23 : SC := .reg [ro 15 (.mv (.t 5)),
  ro 16 (.fa 47 (.t 2) 2),
  ro 17 (.ld 45 (.t 16)),
  ro 18 (.mv (.t 1)),
  ro 19 (.ia 45 (.t 17) (.t 18)),
  ro 20 (.ld 55 (.t 19)),
  ro 21 (.call (.f 104) [(.t 20)]),
  ro 22 (.bn .sub 3 (.t 21) (.c (.int .i64 1))),
  ro 23 (.bn .add 3 (.t 15) (.t 22)),
  ro 5 (.asg (.t 23))] (some [1, 2, 5])
def c79_24 : SC := .reg [ro 8 (.mv (.t 1)),
  ro 9 (.bn .add 3 (.t 8) (.c (.int .i64 1))),
  ro 1 (.asg (.t 9))] (some [1, 2, 5])
def c79_13 : SC := .seq (.block 1 (.seq (.seq (.reg [ro 10 (.mv (.t 1)),
  ro 11 (.fa 47 (.t 2) 2),
  ro 12 (.ld 45 (.t 11)),
  ro 13 (.len 45 (.t 12)),
  ro 14 (.bn .geq 3 (.t 10) (.t 13))] (some [1, 2, 5, 14])) c79_18) c79_23)) c79_24
def c79_7 : SC := .seq (.seq (.reg [ro 6 (.mv (.t 5)),
  ro 7 (.bn .gtr 3 (.t 6) (.c (.int .i64 0)))] (some [1, 2, 5, 7])) c79_10) c79_13
def c79_5 : SC := .block 0 (.loop c79_7)
def c79_25 : SC := .seq (.reg [ro 24 (.mv (.t 1)),
  ro 4 (.asg (.t 24))] (some [4])) .ret
def c79_2 : SC := .seq (.seq (.reg [ro 5 (.asg (.c (.int .i64 1)))] (some [1, 2, 5])) c79_5) c79_25
/-- (loop.example/g01075/impl.Definition).end -/
def c79 : SC := .seq (.reg [ro 2 (.bx 47 (.t 0)),
  ro 4 (.asg (.c (.int .i64 0)))] (some [1, 2])) c79_2
theorem s79 : slimC ⟨25, [0]⟩ (Try.f79.body.getD .skip) = some c79.strip := by kernel_rfl

def c105_12 : SC := .reg [ro 29 (.fa 114 (.t 9) 0),
  ro 30 (.ld 2 (.t 29)),
  ro 31 (.bn .add 2 (.t 30) (.c (.int .i64 1))),
  ro 32 (.fa 114 (.t 9) 0),
  ⟨none, .sto 2 (.t 32) (.t 31), none⟩] (some [0, 2, 3, 4, 8, 9])
def c105_11 : SC := .cond (.t 28) c105_12 .skip
def c105_30 : SC := .reg [ro 43 (.bn .add 3 (.t 37) (.c (.int .i64 1))),
  ro 37 (.mv (.t 43))] (some [2, 3, 4, 9, 10, 36, 37])
def c105_27 : SC := .seq (.block 1 (.cus (selfT Cc 105 4 2 39 ((List.range 3).map (· + 2)) [ro 40 (.mv (.t 10)), ro 41 (.ld 114 (.t 9))] [(.t 40), (.t 41)] (some 42) [ro 10 (.asg (.t 42))] [2, 3, 4, 9, 10, 36, 37]) (selfB 139 4 39 [ro 40 (.mv (.t 10)), ro 41 (.ld 114 (.t 9))] [(.t 40), (.t 41)] (some 42) [ro 10 (.asg (.t 42))]))) c105_30
def c105_23 : SC := .seq (.cond (.t 38) .skip (.exit 0)) c105_27
def c105_21 : SC := .seq (.reg [ro 38 (.bn .lss 3 (.t 37) (.t 36))] (some [2, 3, 4, 9, 10, 36, 37, 38])) c105_23
def c105_19 : SC := .block 0 (.loop c105_21)
def c105_31 : SC := .seq (.reg [ro 44 (.mv (.t 10)),
  ro 7 (.asg (.t 44))] (some [2, 3, 4, 7])) .ret
def c105_16 : SC := .seq (.seq (.reg [ro 35 (.ld 55 (.t 8)),
  ro 36 (.call (.f 104) [(.t 35)]),
  ro 37 (.mv (.c (.int .i64 0)))] (some [2, 3, 4, 9, 10, 36, 37])) c105_19) c105_31
def c105_14 : SC := .seq (.reg [ro 33 (.mv (.t 0)),
  ro 34 (.bn .add 3 (.t 33) (.c (.int .i64 1))),
  ro 10 (.asg (.t 34))] (some [2, 3, 4, 8, 9, 10])) c105_16
def c105_8 : SC := .seq (.seq (.reg [ro 26 (.fa 55 (.t 8) 0),
  ro 27 (.ld 2 (.t 26)),
  ro 28 (.bn .eql 2 (.t 27) (.c (.int .i64 4)))] (some [0, 2, 3, 4, 8, 9, 28])) c105_11) c105_14
def c105_6 : SC := .seq (.reg [ro 20 (.fa 114 (.t 6) 0),
  ro 21 (.ld 2 (.t 20)),
  ro 22 (.fa 55 (.t 8) 0),
  ro 23 (.ld 2 (.t 22)),
  ro 24 (.bn .eql 2 (.t 23) (.c (.int .i64 1))),
  ro 25 (.bld 114 [(0, (.t 21)), (1, (.t 24))]),
  ro 9 (.alc 114),
  ⟨none, .sto 114 (.t 9) (.t 25), none⟩] (some [0, 2, 3, 4, 8, 9])) c105_8
def c105_4 : SC := .seq (.reg [ro 15 (.fa 47 (.t 3) 2),
  ro 16 (.ld 45 (.t 15)),
  ro 17 (.mv (.t 0)),
  ro 18 (.ia 45 (.t 16) (.t 17)),
  ro 19 (.ld 55 (.t 18)),
  ro 8 (.alc 55),
  ⟨none, .sto 55 (.t 8) (.t 19), none⟩] (some [0, 2, 3, 4, 6, 8])) c105_6
def c105_2 : SC := .seq (.reg [ro 11 (.ld 110 (.t 2)),
  ro 12 (.mv (.t 0)),
  ro 13 (.ld 114 (.t 6)),
  ro 14 (.ia 110 (.t 11) (.t 12)),
  ⟨none, .sto 114 (.t 14) (.t 13), none⟩] (some [0, 2, 3, 4, 6])) c105_4
/-- (loop.example/g01075/impl.Definition).places$1 -/
def c105 : SC := .seq (.reg [ro 6 (.bx 114 (.t 1)),
  ro 7 (.asg (.c (.int .i64 0)))] (some [0, 2, 3, 4, 6])) c105_2
theorem hk105 : c105.hook (SelfOk Cc 105 [0, 1, 2, 3, 4] 5 2 4) := And.intro (True.intro) (And.intro (True.intro) (And.intro (True.intro) (And.intro (True.intro) (And.intro (And.intro (True.intro) (And.intro (True.intro) (True.intro))) (And.intro (True.intro) (And.intro (And.intro (True.intro) (And.intro (True.intro) (And.intro (And.intro (True.intro) (True.intro)) (And.intro (⟨139, 2, 39, 3, _, _, _, _, _, rfl, rfl, (by kernel_rfl), rfl, rfl, rfl, rfl, rfl, rfl, rfl⟩) (True.intro))))) (And.intro (True.intro) (True.intro))))))))
theorem s105 : slimC ⟨45, [0, 1, 2, 3, 4]⟩ (Try.f105.body.getD .skip) = some c105.strip := by kernel_rfl

def c80_10 : SC := .seq (.reg [ro 15 (.ld 110 (.t 3)),
  ro 2 (.asg (.t 15))] (some [2])) .ret
def c80_8 : SC := .seq (.reg [ro 10 (.ld 139 (.t 4)),
  ro 11 (.fa 47 (.t 1) 1),
  ro 12 (.ld 2 (.t 11)),
  ro 13 (.bld 114 [(0, (.t 12))]),
  ro 14 (.call (.t 10) [(.c (.int .i64 0)), (.t 13)])] (some [3])) c80_10
def c80_6 : SC := .seq (.reg [ro 9 (.mkf 105 [(.t 3), (.t 1), (.t 4)]),
  ⟨none, .sto 139 (.t 4) (.t 9), none⟩] (some [1, 3, 4])) c80_8
def c80_4 : SC := .cus (tailT Cc 105 4 2 10 9 [3, 1, 4] [ro 11 (.fa 47 (.t 1) 1), ro 12 (.ld 2 (.t 11)), ro 13 (.bld 114 [(0, (.t 12))])] [(.c (.int .i64 0)), (.t 13)] (some 14) [3] c80_10) (tailB 139 105 4 10 9 [3, 1, 4] [ro 11 (.fa 47 (.t 1) 1), ro 12 (.ld 2 (.t 11)), ro 13 (.bld 114 [(0, (.t 12))])] [(.c (.int .i64 0)), (.t 13)] (some 14) c80_10.unkeep)
def c80_2 : SC := .seq (.reg [ro 5 (.fa 47 (.t 1) 2),
  ro 6 (.ld 45 (.t 5)),
  ro 7 (.len 45 (.t 6)),
  ro 8 (.mks 110 (.t 7) (.t 7)),
  ro 3 (.alc 110),
  ⟨none, .sto 110 (.t 3) (.t 8), none⟩] (some [1, 3])) c80_4
/-- (loop.example/g01075/impl.Definition).places -/
def c80 : SC := .seq (.reg [ro 1 (.bx 47 (.t 0)),
  ro 2 (.asg (.c .nils))] (some [1])) c80_2
theorem hk80 : c80.hook (TailOk Cc) := And.intro (True.intro) (And.intro (True.intro) (⟨139, 105, 4, 2, 10, 9, _, _, _, _, _, _, rfl, rfl, (by kernel_rfl), ⟨Try.t139, _, _, (by kernel_rfl), rfl, rfl, rfl, rfl⟩, rfl, rfl, rfl, rfl, (by kernel_rfl)⟩))
theorem s80 : slimC ⟨16, [0]⟩ (Try.f80.body.getD .skip) = some c80.strip := by kernel_rfl

def c106_6 : SC := .seq (.reg [ro 26 (.fa 55 (.t 1) 0),
  ro 27 (.ld 2 (.t 26)),
  ro 28 (.call (.f 49) [(.t 27), (.c (.int .i64 0)), (.c (.int .i64 5))]),
  ro 29 (.mv (.t 28)),
  ⟨some 30, .mv (.t 3), some (29, true)⟩,
  ⟨some 31, .mv (.t 30), some (29, true)⟩,
  ⟨some 32, .fa 55 (.t 1) 1, some (31, false)⟩,
  ⟨some 33, .ld 2 (.t 32), some (31, false)⟩,
  ⟨some 34, .bn .eql 2 (.t 33) (.c (.int .i64 0)), some (31, false)⟩,
  ⟨some 35, .pick (.t 31) (.c (.bool true)) (.t 34), some (29, true)⟩,
  ro 36 (.pick (.t 29) (.t 35) (.c (.bool false))),
  ro 37 (.mv (.t 36)),
  ⟨some 38, .fa 55 (.t 1) 0, some (37, true)⟩,
  ⟨some 39, .ld 2 (.t 38), some (37, true)⟩,
  ⟨some 40, .bn .eql 2 (.t 39) (.c (.int .i64 1)), some (37, true)⟩,
  ⟨some 41, .mv (.t 40), some (37, true)⟩,
  ⟨some 42, .fa 55 (.t 1) 2, some (41, false)⟩,
  ⟨some 43, .ld 9 (.t 42), some (41, false)⟩,
  ⟨some 44, .bn .eql 9 (.t 43) (.c (.str [])), some (41, false)⟩,
  ⟨some 45, .pick (.t 41) (.c (.bool true)) (.t 44), some (37, true)⟩,
  ro 46 (.pick (.t 37) (.t 45) (.c (.bool false))),
  ro 47 (.mv (.t 46)),
  ⟨some 48, .mv (.t 4), some (47, true)⟩,
  ⟨some 49, .mv (.t 48), some (47, true)⟩,
  ⟨some 50, .fa 55 (.t 1) 3, some (49, false)⟩,
  ⟨some 51, .ld 53 (.t 50), some (49, false)⟩,
  ⟨some 52, .len 53 (.t 51), some (49, false)⟩,
  ⟨some 53, .bn .eql 3 (.t 52) (.c (.int .i64 0)), some (49, false)⟩,
  ⟨some 54, .pick (.t 49) (.c (.bool true)) (.t 53), some (47, true)⟩,
  ro 55 (.pick (.t 47) (.t 54) (.c (.bool false))),
  ro 2 (.asg (.t 55))] (some [2])) .ret
def c106_4 : SC := .seq (.reg [ro 13 (.fa 55 (.t 1) 0),
  ro 14 (.ld 2 (.t 13)),
  ro 15 (.bn .eql 2 (.t 14) (.c (.int .i64 1))),
  ro 16 (.mv (.t 15)),
  ⟨some 17, .fa 55 (.t 1) 0, some (16, false)⟩,
  ⟨some 18, .ld 2 (.t 17), some (16, false)⟩,
  ⟨some 19, .bn .eql 2 (.t 18) (.c (.int .i64 3)), some (16, false)⟩,
  ro 20 (.pick (.t 16) (.c (.bool true)) (.t 19)),
  ro 21 (.mv (.t 20)),
  ⟨some 22, .fa 55 (.t 1) 0, some (21, false)⟩,
  ⟨some 23, .ld 2 (.t 22), some (21, false)⟩,
  ⟨some 24, .bn .eql 2 (.t 23) (.c (.int .i64 5)), some (21, false)⟩,
  ro 25 (.pick (.t 21) (.c (.bool true)) (.t 24)),
  ro 4 (.asg (.t 25))] (some [1, 3, 4])) c106_6
def c106_2 : SC := .seq (.reg [ro 5 (.fa 55 (.t 1) 0),
  ro 6 (.ld 2 (.t 5)),
  ro 7 (.bn .eql 2 (.t 6) (.c (.int .i64 4))),
  ro 8 (.mv (.t 7)),
  ⟨some 9, .fa 55 (.t 1) 0, some (8, false)⟩,
  ⟨some 10, .ld 2 (.t 9), some (8, false)⟩,
  ⟨some 11, .bn .eql 2 (.t 10) (.c (.int .i64 5)), some (8, false)⟩,
  ro 12 (.pick (.t 8) (.c (.bool true)) (.t 11)),
  ro 3 (.asg (.t 12))] (some [1, 3])) c106_4
/-- (loop.example/g01075/impl.Part).kindOk -/
def c106 : SC := .seq (.reg [ro 1 (.bx 55 (.t 0)),
  ro 2 (.asg (.c (.bool false)))] (some [1])) c106_2
theorem s106 : slimC ⟨56, [0]⟩ (Try.f106.body.getD .skip) = some c106.strip := by kernel_rfl

def c107_2 : SC := .seq (.reg [ro 3 (.mv (.t 0)),
  ro 4 (.call (.f 51) [(.t 3)]),
  ro 5 (.mv (.t 4)),
  ⟨some 6, .mv (.t 0), some (5, true)⟩,
  ⟨some 7, .bn .neq 9 (.t 6) (.c (.str [116, 97, 117])), some (5, true)⟩,
  ro 8 (.pick (.t 5) (.t 7) (.c (.bool false))),
  ro 2 (.asg (.t 8))] (some [2])) .ret
/-- loop.example/g01075/impl.IsAction -/
def c107 : SC := .seq (.reg [ro 2 (.asg (.c (.bool false)))] (some [0])) c107_2
theorem s107 : slimC ⟨9, [0]⟩ (Try.f107.body.getD .skip) = some c107.strip := by kernel_rfl

def c37_2 : SC := .seq (.reg [ro 5 (.mv (.t 0)),
  ro 6 (.mv (.t 1)),
  ro 7 (.bn .sub 2 (.t 6) (.c (.int .i64 1))),
  ro 8 (.call (.f 49) [(.t 5), (.c (.int .i64 0)), (.t 7)]),
  ro 4 (.asg (.t 8))] (some [4])) .ret
/-- loop.example/g01075/impl.index -/
def c37 : SC := .seq (.reg [ro 4 (.asg (.c (.bool false)))] (some [0, 1])) c37_2
theorem s37 : slimC ⟨9, [0, 1]⟩ (Try.f37.body.getD .skip) = some c37.strip := by kernel_rfl

def c108_11 : SC := .seq (.reg [ro 13 (.mv (.t 5)),
  ro 14 (.bn .eql 3 (.t 13) (.c (.int .i64 0))),
  ro 15 (.mv (.t 14)),
  ⟨some 16, .fa 55 (.t 2) 2, some (15, false)⟩,
  ⟨some 17, .ld 9 (.t 16), some (15, false)⟩,
  ⟨some 18, .bn .neq 9 (.t 17) (.c (.str [116, 97, 117])), some (15, false)⟩,
  ⟨some 19, .mv (.t 18), some (15, false)⟩,
  ⟨some 20, .mv (.t 5), some (19, true)⟩,
  ⟨some 21, .bn .leq 3 (.t 20) (.c (.int .i64 2)), some (19, true)⟩,
  ⟨some 22, .pick (.t 19) (.t 21) (.c (.bool false)), some (15, false)⟩,
  ro 23 (.pick (.t 15) (.c (.bool true)) (.t 22)),
  ro 4 (.asg (.t 23))] (some [4])) .ret
def c108_17 : SC := .seq (.reg [ro 26 (.mv (.t 5)),
  ro 27 (.bn .eql 3 (.t 26) (.c (.int .i64 1))),
  ro 4 (.asg (.t 27))] (some [4])) .ret
def c108_23 : SC := .seq (.reg [ro 30 (.mv (.t 5)),
  ro 31 (.mv (.t 1)),
  ro 32 (.fa 55 (.t 2) 1),
  ro 33 (.ld 2 (.t 32)),
  ro 34 (.ia 27 (.t 31) (.t 33)),
  ro 35 (.fa 47 (.t 34) 1),
  ro 36 (.ld 2 (.t 35)),
  ro 37 (.bn .eql 2 (.t 30) (.t 36)),
  ro 4 (.asg (.t 37))] (some [4])) .ret
def c108_22 : SC := .cond (.t 28) c108_23 .skip
def c108_20 : SC := .seq (.reg [ro 29 (.bn .eql 2 (.t 10) (.c (.int .i64 5))),
  ro 28 (.asg (.t 29))] (some [1, 2, 5, 28])) c108_22
def c108_16 : SC := .cond (.t 24) c108_17 c108_20
def c108_14 : SC := .seq (.reg [ro 25 (.bn .eql 2 (.t 10) (.c (.int .i64 3))),
  ro 24 (.asg (.t 25))] (some [1, 2, 5, 10, 24])) c108_16
def c108_10 : SC := .cond (.t 11) c108_11 c108_14
def c108_7 : SC := .block 0 (.seq (.reg [ro 12 (.bn .eql 2 (.t 10) (.c (.int .i64 1))),
  ro 11 (.asg (.t 12))] (some [1, 2, 5, 10, 11])) c108_10)
def c108_27 : SC := .seq (.reg [ro 4 (.asg (.c (.bool true)))] (some [4])) .ret
def c108_4 : SC := .seq (.seq (.reg [ro 9 (.fa 55 (.t 2) 0),
  ro 10 (.ld 2 (.t 9))] (some [1, 2, 5, 10])) c108_7) c108_27
def c108_2 : SC := .seq (.reg [ro 6 (.fa 55 (.t 2) 3),
  ro 7 (.ld 53 (.t 6)),
  ro 8 (.len 53 (.t 7)),
  ro 5 (.asg (.t 8))] (some [1, 2, 5])) c108_4
/-- (loop.example/g01075/impl.Part).countOk -/
def c108 : SC := .seq (.reg [ro 2 (.bx 55 (.t 0)),
  ro 4 (.asg (.c (.bool false)))] (some [1, 2])) c108_2
theorem s108 : slimC ⟨38, [0, 1]⟩ (Try.f108.body.getD .skip) = some c108.strip := by kernel_rfl

def c127_2 : SC := .seq (.reg [ro 3 (.mv (.t 0)),
  ro 4 (.call (.f 49) [(.t 3), (.c (.int .i64 0)), (.c (.int .i64 63))]),
  ro 2 (.asg (.t 4))] (some [2])) .ret
/-- loop.example/g01075/impl.isValue -/
def c127 : SC := .seq (.reg [ro 2 (.asg (.c (.bool false)))] (some [0])) c127_2
theorem s127 : slimC ⟨5, [0]⟩ (Try.f127.body.getD .skip) = some c127.strip := by kernel_rfl

def c123_9 : SC := .seq (.reg [ro 9 (.fa 123 (.t 2) 1),
  ro 10 (.ld 2 (.t 9)),
  ro 11 (.call (.f 127) [(.t 10)]),
  ro 4 (.asg (.t 11))] (some [4])) .ret
def c123_15 : SC := .seq (.reg [ro 14 (.fa 123 (.t 2) 1),
  ro 15 (.ld 2 (.t 14)),
  ro 16 (.mv (.t 1)),
  ro 17 (.bn .sub 2 (.t 16) (.c (.int .i64 1))),
  ro 18 (.call (.f 49) [(.t 15), (.c (.int .i64 0)), (.t 17)]),
  ro 4 (.asg (.t 18))] (some [4])) .ret
def c123_21 : SC := .seq (.reg [ro 21 (.fa 123 (.t 2) 1),
  ro 22 (.ld 2 (.t 21)),
  ro 23 (.call (.f 49) [(.t 22), (.c (.int .i64 0)), (.c (.int .i64 8))]),
  ro 4 (.asg (.t 23))] (some [4])) .ret
def c123_27 : SC := .seq (.reg [ro 26 (.fa 123 (.t 2) 1),
  ro 27 (.ld 2 (.t 26)),
  ro 28 (.bn .eql 2 (.t 27) (.c (.int .i64 0))),
  ro 4 (.asg (.t 28))] (some [4])) .ret
def c123_26 : SC := .cond (.t 24) c123_27 .skip
def c123_24 : SC := .seq (.reg [ro 25 (.bn .eql 2 (.t 6) (.c (.int .i64 3))),
  ro 24 (.asg (.t 25))] (some [2, 24])) c123_26
def c123_20 : SC := .cond (.t 19) c123_21 c123_24
def c123_18 : SC := .seq (.reg [ro 20 (.bn .eql 2 (.t 6) (.c (.int .i64 2))),
  ro 19 (.asg (.t 20))] (some [2, 6, 19])) c123_20
def c123_14 : SC := .cond (.t 12) c123_15 c123_18
def c123_12 : SC := .seq (.reg [ro 13 (.bn .eql 2 (.t 6) (.c (.int .i64 1))),
  ro 12 (.asg (.t 13))] (some [1, 2, 6, 12])) c123_14
def c123_8 : SC := .cond (.t 7) c123_9 c123_12
def c123_5 : SC := .block 0 (.seq (.reg [ro 8 (.bn .eql 2 (.t 6) (.c (.int .i64 0))),
  ro 7 (.asg (.t 8))] (some [1, 2, 6, 7])) c123_8)
def c123_31 : SC := .seq (.reg [ro 4 (.asg (.c (.bool false)))] (some [4])) .ret
def c123_2 : SC := .seq (.seq (.reg [ro 5 (.fa 123 (.t 2) 0),
  ro 6 (.ld 2 (.t 5))] (some [1, 2, 6])) c123_5) c123_31
/-- (loop.example/g01075/impl.Term).valid -/
def c123 : SC := .seq (.reg [ro 2 (.bx 123 (.t 0)),
  ro 4 (.asg (.c (.bool false)))] (some [1, 2])) c123_2
theorem s123 : slimC ⟨29, [0, 1]⟩ (Try.f123.body.getD .skip) = some c123.strip := by kernel_rfl

def c124_9 : SC := .seq (.reg [ro 2 (.asg (.c (.int .i64 2)))] (some [2])) .ret
def c124_15 : SC := .seq (.reg [ro 2 (.asg (.c (.int .i64 1)))] (some [2])) .ret
def c124_14 : SC := .cond (.t 7) c124_15 .skip
def c124_12 : SC := .seq (.reg [ro 8 (.bn .eql 2 (.t 4) (.c (.int .i64 3))),
  ro 7 (.asg (.t 8))] (some [7])) c124_14
def c124_8 : SC := .cond (.t 5) c124_9 c124_12
def c124_5 : SC := .block 0 (.seq (.reg [ro 6 (.bn .eql 2 (.t 4) (.c (.int .i64 2))),
  ro 5 (.asg (.t 6))] (some [4, 5])) c124_8)
def c124_19 : SC := .seq (.reg [ro 2 (.asg (.c (.int .i64 0)))] (some [2])) .ret
def c124_2 : SC := .seq (.seq (.reg [ro 3 (.fa 123 (.t 1) 0),
  ro 4 (.ld 2 (.t 3))] (some [4])) c124_5) c124_19
/-- (loop.example/g01075/impl.Term).operands -/
def c124 : SC := .seq (.reg [ro 1 (.bx 123 (.t 0)),
  ro 2 (.asg (.c (.int .i64 0)))] (some [1])) c124_2
theorem s124 : slimC ⟨9, [0]⟩ (Try.f124.body.getD .skip) = some c124.strip := by kernel_rfl

def c111_6 : SC := .seq (.reg [ro 6 (.asg (.c (.bool false)))] (some [6])) .ret
def c111_5 : SC := .cond (.t 24) c111_6 .skip
def c111_31 : SC := .seq (.reg [ro 6 (.asg (.c (.bool false)))] (some [6])) .ret
def c111_30 : SC := .cond (.t 38) c111_31 .skip
def c111_35 : SC := .reg [ro 39 (.mv (.t 7)),
  ro 40 (.ld 123 (.t 9)),
  ro 41 (.call (.f 124) [(.t 40)]),
  ro 42 (.bn .sub 3 (.t 41) (.c (.int .i64 1))),
  ro 43 (.bn .add 3 (.t 39) (.t 42)),
  ro 7 (.asg (.t 43))] (some [1, 7, 25, 26, 27])
def c111_27 : SC := .seq (.seq (.reg [ro 31 (.mv (.t 7)),
  ro 32 (.bn .eql 3 (.t 31) (.c (.int .i64 0))),
  ro 33 (.mv (.t 32)),
  ⟨some 34, .ld 123 (.t 9), some (33, false)⟩,
  ⟨some 35, .mv (.t 1), some (33, false)⟩,
  ⟨some 36, .call (.f 123) [(.t 34), (.t 35)], some (33, false)⟩,
  ⟨some 37, .un .not (.t 36), some (33, false)⟩,
  ro 38 (.pick (.t 33) (.c (.bool true)) (.t 37))] (some [1, 7, 9, 25, 26, 27, 38])) c111_30) c111_35
def c111_36 : SC := .reg [ro 44 (.bn .add 3 (.t 27) (.c (.int .i64 1))),
  ro 27 (.mv (.t 44))] (some [1, 7, 25, 26, 27])
def c111_23 : SC := .seq (.block 1 (.seq (.reg [ro 29 (.ia 87 (.t 25) (.t 27)),
  ro 30 (.ld 123 (.t 29)),
  ro 9 (.alc 123),
  ⟨none, .sto 123 (.t 9) (.t 30), none⟩] (some [1, 7, 9, 25, 26, 27])) c111_27)) c111_36
def c111_19 : SC := .seq (.cond (.t 28) .skip (.exit 0)) c111_23
def c111_17 : SC := .seq (.reg [ro 28 (.bn .lss 3 (.t 27) (.t 26))] (some [1, 7, 25, 26, 27, 28])) c111_19
def c111_15 : SC := .block 0 (.loop c111_17)
def c111_37 : SC := .seq (.reg [ro 45 (.mv (.t 7)),
  ro 46 (.bn .eql 3 (.t 45) (.c (.int .i64 0))),
  ro 6 (.asg (.t 46))] (some [6])) .ret
def c111_12 : SC := .seq (.seq (.reg [ro 25 (.mv (.t 0)),
  ro 26 (.len 87 (.t 25)),
  ro 27 (.mv (.c (.int .i64 0)))] (some [1, 7, 25, 26, 27])) c111_15) c111_37
def c111_10 : SC := .seq (.reg [ro 7 (.asg (.c (.int .i64 1)))] (some [0, 1, 7])) c111_12
def c111_2 : SC := .seq (.seq (.reg [ro 10 (.mv (.t 1)),
  ro 11 (.call (.f 49) [(.t 10), (.c (.int .i64 0)), (.c (.int .i64 29))]),
  ro 12 (.un .not (.t 11)),
  ro 13 (.mv (.t 12)),
  ⟨some 14, .mv (.t 2), some (13, false)⟩,
  ⟨some 15, .call (.f 49) [(.t 14), (.c (.int .i64 1)), (.c (.int .i64 60))], some (13, false)⟩,
  ⟨some 16, .un .not (.t 15), some (13, false)⟩,
  ro 17 (.pick (.t 13) (.c (.bool true)) (.t 16)),
  ro 18 (.mv (.t 17)),
  ⟨some 19, .mv (.t 0), some (18, false)⟩,
  ⟨some 20, .len 87 (.t 19), some (18, false)⟩,
  ⟨some 21, .mv (.t 2), some (18, false)⟩,
  ⟨some 22, .call (.f 49) [(.t 20), (.c (.int .i64 1)), (.t 21)], some (18, false)⟩,
  ⟨some 23, .un .not (.t 22), some (18, false)⟩,
  ro 24 (.pick (.t 18) (.c (.bool true)) (.t 23))] (some [0, 1, 24])) c111_5) c111_10
/-- loop.example/g01075/impl.ValidTerms -/
def c111 : SC := .seq (.reg [ro 6 (.asg (.c (.bool false)))] (some [0, 1, 2])) c111_2
theorem s111 : slimC ⟨47, [0, 1, 2]⟩ (Try.f111.body.getD .skip) = some c111.strip := by kernel_rfl

def c110_2 : SC := .seq (.reg [ro 4 (.mv (.t 0)),
  ro 5 (.fa 114 (.t 1) 0),
  ro 6 (.ld 2 (.t 5)),
  ro 7 (.call (.f 111) [(.t 4), (.t 6), (.c (.int .i64 15))]),
  ro 8 (.un .not (.t 7)),
  ro 3 (.asg (.t 8))] (some [3])) .ret
/-- (loop.example/g01075/impl.Part).reason$1 -/
def c110 : SC := .seq (.reg [ro 3 (.asg (.c (.bool false)))] (some [0, 1])) c110_2
theorem s110 : slimC ⟨9, [0, 1]⟩ (Try.f110.body.getD .skip) = some c110.strip := by kernel_rfl

def c122_20 : SC := .seq (.reg [ro 17 (.mv (.t 5)),
  ro 4 (.asg (.t 17))] (some [4])) .ret
def c122_19 : SC := .cond (.t 16) c122_20 .skip
def c122_17 : SC := .seq (.reg [ro 11 (.mv (.t 1)),
  ro 12 (.mv (.t 0)),
  ro 13 (.mv (.t 5)),
  ro 14 (.ia 53 (.t 12) (.t 13)),
  ro 15 (.ld 87 (.t 14)),
  ro 16 (.call (.t 11) [(.t 15)])] (some [0, 1, 5, 7, 8, 16])) c122_19
def c122_24 : SC := .reg [ro 18 (.bn .add 3 (.t 8) (.c (.int .i64 1))),
  ro 8 (.mv (.t 18))] (some [0, 1, 7, 8])
def c122_13 : SC := .seq (.block 1 (.seq (.reg [ro 10 (.mv (.t 8)),
  ro 5 (.asg (.t 10))] (some [0, 1, 5, 7, 8])) c122_17)) c122_24
def c122_9 : SC := .seq (.cond (.t 9) .skip (.exit 0)) c122_13
def c122_7 : SC := .seq (.reg [ro 9 (.bn .lss 3 (.t 8) (.t 7))] (some [0, 1, 7, 8, 9])) c122_9
def c122_5 : SC := .block 0 (.loop c122_7)
def c122_25 : SC := .seq (.reg [ro 4 (.asg (.c (.int .i64 (-1))))] (some [4])) .ret
def c122_2 : SC := .seq (.seq (.reg [ro 6 (.mv (.t 0)),
  ro 7 (.len 53 (.t 6)),
  ro 8 (.mv (.c (.int .i64 0)))] (some [0, 1, 7, 8])) c122_5) c122_25
/-- slices.IndexFunc[[][]loop.example/g01075/impl.Term,[]loop.example/g01075/impl.Term] -/
def c122 : SC := .seq (.reg [ro 4 (.asg (.c (.int .i64 0)))] (some [0, 1])) c122_2
theorem s122 : slimC ⟨19, [0, 1]⟩ (Try.f122.body.getD .skip) = some c122.strip := by kernel_rfl

def c109_2 : SC := .seq (.reg [ro 5 (.mv (.t 0)),
  ro 6 (.mv (.t 1)),
  ro 7 (.call (.f 122) [(.t 5), (.t 6)]),
  ro 8 (.bn .geq 3 (.t 7) (.c (.int .i64 0))),
  ro 4 (.asg (.t 8))] (some [4])) .ret
/-- slices.ContainsFunc[[][]loop.example/g01075/impl.Term,[]loop.example/g01075/impl.Term] -/
def c109 : SC := .seq (.reg [ro 4 (.asg (.c (.bool false)))] (some [0, 1])) c109_2
theorem s109 : slimC ⟨9, [0, 1]⟩ (Try.f109.body.getD .skip) = some c109.strip := by kernel_rfl

def c81_7 : SC := .seq (.reg [ro 6 (.asg (.c (.int .i64 2)))] (some [6])) .ret
def c81_13 : SC := .seq (.reg [ro 6 (.asg (.c (.int .i64 3)))] (some [6])) .ret
def c81_19 : SC := .seq (.reg [ro 6 (.asg (.c (.int .i64 4)))] (some [6])) .ret
def c81_25 : SC := .seq (.reg [ro 6 (.asg (.c (.int .i64 5)))] (some [6])) .ret
def c81_31 : SC := .seq (.reg [ro 6 (.asg (.c (.int .i64 6)))] (some [6])) .ret
def c81_37 : SC := .seq (.reg [ro 6 (.asg (.c (.int .i64 7)))] (some [6])) .ret
def c81_43 : SC := .seq (.reg [ro 6 (.asg (.c (.int .i64 8)))] (some [6])) .ret
def c81_42 : SC := .cond (.t 72) c81_43 .skip
def c81_40 : SC := .seq (.reg [ro 73 (.fa 55 (.t 3) 3),
  ro 74 (.ld 53 (.t 73)),
  ro 75 (.mkf 110 [(.t 5)]),
  ro 76 (.call (.f 109) [(.t 74), (.t 75)]),
  ro 72 (.asg (.t 76))] (some [72])) c81_42
def c81_36 : SC := .cond (.t 63) c81_37 c81_40
def c81_34 : SC := .seq (.reg [ro 64 (.fa 55 (.t 3) 0),
  ro 65 (.ld 2 (.t 64)),
  ro 66 (.bn .eql 2 (.t 65) (.c (.int .i64 4))),
  ro 67 (.mv (.t 66)),
  ⟨some 68, .fa 114 (.t 5) 0, some (67, true)⟩,
  ⟨some 69, .ld 2 (.t 68), some (67, true)⟩,
  ⟨some 70, .bn .geq 2 (.t 69) (.c (.int .i64 6)), some (67, true)⟩,
  ro 71 (.pick (.t 67) (.t 70) (.c (.bool false))),
  ro 63 (.asg (.t 71))] (some [3, 5, 63])) c81_36
def c81_30 : SC := .cond (.t 54) c81_31 c81_34
def c81_28 : SC := .seq (.reg [ro 55 (.fa 55 (.t 3) 0),
  ro 56 (.ld 2 (.t 55)),
  ro 57 (.bn .eql 2 (.t 56) (.c (.int .i64 5))),
  ro 58 (.mv (.t 57)),
  ⟨some 59, .fa 114 (.t 5) 1, some (58, true)⟩,
  ⟨some 60, .ld 4 (.t 59), some (58, true)⟩,
  ⟨some 61, .un .not (.t 60), some (58, true)⟩,
  ro 62 (.pick (.t 58) (.t 61) (.c (.bool false))),
  ro 54 (.asg (.t 62))] (some [3, 5, 54])) c81_30
def c81_24 : SC := .cond (.t 49) c81_25 c81_28
def c81_22 : SC := .seq (.reg [ro 50 (.ld 55 (.t 3)),
  ro 51 (.mv (.t 1)),
  ro 52 (.call (.f 108) [(.t 50), (.t 51)]),
  ro 53 (.un .not (.t 52)),
  ro 49 (.asg (.t 53))] (some [3, 5, 49])) c81_24
def c81_18 : SC := .cond (.t 26) c81_19 c81_22
def c81_16 : SC := .seq (.reg [ro 27 (.fa 55 (.t 3) 0),
  ro 28 (.ld 2 (.t 27)),
  ro 29 (.bn .eql 2 (.t 28) (.c (.int .i64 4))),
  ro 30 (.mv (.t 29)),
  ⟨some 31, .fa 55 (.t 3) 1, some (30, true)⟩,
  ⟨some 32, .ld 2 (.t 31), some (30, true)⟩,
  ⟨some 33, .call (.f 49) [(.t 32), (.c (.int .i64 1)), (.c (.int .i64 7))], some (30, true)⟩,
  ⟨some 34, .un .not (.t 33), some (30, true)⟩,
  ro 35 (.pick (.t 30) (.t 34) (.c (.bool false))),
  ro 36 (.mv (.t 35)),
  ⟨some 37, .fa 55 (.t 3) 0, some (36, false)⟩,
  ⟨some 38, .ld 2 (.t 37), some (36, false)⟩,
  ⟨some 39, .bn .eql 2 (.t 38) (.c (.int .i64 5)), some (36, false)⟩,
  ⟨some 40, .mv (.t 39), some (36, false)⟩,
  ⟨some 41, .fa 55 (.t 3) 1, some (40, true)⟩,
  ⟨some 42, .ld 2 (.t 41), some (40, true)⟩,
  ⟨some 43, .mv (.t 1), some (40, true)⟩,
  ⟨some 44, .len 27 (.t 43), some (40, true)⟩,
  ⟨some 45, .call (.f 37) [(.t 42), (.t 44)], some (40, true)⟩,
  ⟨some 46, .un .not (.t 45), some (40, true)⟩,
  ⟨some 47, .pick (.t 40) (.t 46) (.c (.bool false)), some (36, false)⟩,
  ro 48 (.pick (.t 36) (.c (.bool true)) (.t 47)),
  ro 26 (.asg (.t 48))] (some [1, 3, 5, 26])) c81_18
def c81_12 : SC := .cond (.t 11) c81_13 c81_16
def c81_10 : SC := .seq (.reg [ro 12 (.fa 55 (.t 3) 0),
  ro 13 (.ld 2 (.t 12)),
  ro 14 (.bn .eql 2 (.t 13) (.c (.int .i64 1))),
  ro 15 (.mv (.t 14)),
  ⟨some 16, .fa 55 (.t 3) 2, some (15, true)⟩,
  ⟨some 17, .ld 9 (.t 16), some (15, true)⟩,
  ⟨some 18, .bn .neq 9 (.t 17) (.c (.str [116, 97, 117])), some (15, true)⟩,
  ro 19 (.pick (.t 15) (.t 18) (.c (.bool false))),
  ro 20 (.mv (.t 19)),
  ⟨some 21, .fa 55 (.t 3) 2, some (20, true)⟩,
  ⟨some 22, .ld 9 (.t 21), some (20, true)⟩,
  ⟨some 23, .call (.f 107) [(.t 22)], some (20, true)⟩,
  ⟨some 24, .un .not (.t 23), some (20, true)⟩,
  ro 25 (.pick (.t 20) (.t 24) (.c (.bool false))),
  ro 11 (.asg (.t 25))] (some [1, 3, 5, 11])) c81_12
def c81_6 : SC := .cond (.t 7) c81_7 c81_10
def c81_47 : SC := .seq (.reg [ro 6 (.asg (.c (.int .i64 0)))] (some [6])) .ret
def c81_2 : SC := .seq (.block 0 (.seq (.reg [ro 8 (.ld 55 (.t 3)),
  ro 9 (.call (.f 106) [(.t 8)]),
  ro 10 (.un .not (.t 9)),
  ro 7 (.asg (.t 10))] (some [1, 3, 5, 7])) c81_6)) c81_47
/-- (loop.example/g01075/impl.Part).reason -/
def c81 : SC := .seq (.reg [ro 3 (.bx 55 (.t 0)),
  ro 5 (.bx 114 (.t 2)),
  ro 6 (.asg (.c (.int .i64 0)))] (some [1, 3, 5])) c81_2
theorem s81 : slimC ⟨77, [0, 1, 2]⟩ (Try.f81.body.getD .skip) = some c81.strip := by kernel_rfl

def c53_6 : SC := .seq (.reg [ro 4 (.asg (.c (.int .i64 0))),
  ro 5 (.asg (.c (.int .i64 1)))] (some [4, 5])) .ret
def c53_5 : SC := .cond (.t 22) c53_6 .skip
def c53_32 : SC := .seq (.reg [ro 42 (.mv (.t 7)),
  ro 43 (.mv (.t 9)),
  ro 4 (.asg (.t 42)),
  ro 5 (.asg (.t 43))] (some [4, 5])) .ret
def c53_31 : SC := .cond (.t 41) c53_32 .skip
def c53_29 : SC := .seq (.reg [ro 40 (.mv (.t 9)),
  ro 41 (.bn .neq 2 (.t 40) (.c (.int .i64 0)))] (some [0, 6, 7, 9, 26, 27, 28, 41])) c53_31
def c53_27 : SC := .seq (.drw [ro 33 (.ld 55 (.t 8)),
  ro 34 (.mv (.t 0)),
  ro 35 (.mv (.t 6)),
  ro 36 (.mv (.t 7)),
  ro 37 (.ia 110 (.t 35) (.t 36)),
  ro 38 (.ld 114 (.t 37)),
  ro 39 (.call (.f 81) [(.t 33), (.t 34), (.t 38)]),
  ro 9 (.asg (.t 39))] [[], [], [], [], [2, 3], [4], [0, 1, 5], [6, 6, 0, 1, 2, 3, 4, 5, 6]] (some [0, 6, 7, 9, 26, 27, 28])) c53_29
def c53_36 : SC := .reg [ro 44 (.bn .add 3 (.t 28) (.c (.int .i64 1))),
  ro 28 (.mv (.t 44))] (some [0, 6, 26, 27, 28])
def c53_23 : SC := .seq (.block 1 (.seq (.reg [ro 30 (.mv (.t 28)),
  ro 31 (.ia 45 (.t 26) (.t 28)),
  ro 32 (.ld 55 (.t 31)),
  ro 8 (.alc 55),
  ro 7 (.asg (.t 30)),
  ⟨none, .sto 55 (.t 8) (.t 32), none⟩] (some [0, 6, 7, 8, 26, 27, 28])) c53_27)) c53_36
def c53_19 : SC := .seq (.cond (.t 29) .skip (.exit 0)) c53_23
def c53_17 : SC := .seq (.reg [ro 29 (.bn .lss 3 (.t 28) (.t 27))] (some [0, 6, 26, 27, 28, 29])) c53_19
def c53_15 : SC := .block 0 (.loop c53_17)
def c53_37 : SC := .seq (.reg [ro 4 (.asg (.c (.int .i64 0))),
  ro 5 (.asg (.c (.int .i64 0)))] (some [4, 5])) .ret
def c53_12 : SC := .seq (.seq (.reg [ro 25 (.fa 47 (.t 3) 2),
  ro 26 (.ld 45 (.t 25)),
  ro 27 (.len 45 (.t 26)),
  ro 28 (.mv (.c (.int .i64 0)))] (some [0, 6, 26, 27, 28])) c53_15) c53_37
def c53_10 : SC := .seq (.reg [ro 23 (.ld 47 (.t 3)),
  ro 24 (.call (.f 80) [(.t 23)]),
  ro 6 (.asg (.t 24))] (some [0, 3, 6])) c53_12
def c53_2 : SC := .seq (.seq (.drw [ro 10 (.fa 47 (.t 3) 2),
  ro 11 (.ld 45 (.t 10)),
  ro 12 (.len 45 (.t 11)),
  ro 13 (.call (.f 49) [(.t 12), (.c (.int .i64 1)), (.c (.int .i64 20))]),
  ro 14 (.un .not (.t 13)),
  ro 15 (.mv (.t 14)),
  ⟨some 16, .ld 47 (.t 3), some (15, false)⟩,
  ⟨some 17, .call (.f 79) [(.t 16), (.c (.int .i64 0))], some (15, false)⟩,
  ⟨some 18, .fa 47 (.t 3) 2, some (15, false)⟩,
  ⟨some 19, .ld 45 (.t 18), some (15, false)⟩,
  ⟨some 20, .len 45 (.t 19), some (15, false)⟩,
  ⟨some 21, .bn .neq 3 (.t 17) (.t 20), some (15, false)⟩,
  ro 22 (.pick (.t 15) (.c (.bool true)) (.t 21))] [[], [0], [1], [2], [3], [4, 3], [5], [6, 5, 5], [5], [8, 5], [9, 5], [7, 10, 5], [5, 11]] (some [0, 3, 22])) c53_5) c53_10
/-- loop.example/g01075/impl.bodyFault -/
def c53 : SC := .seq (.reg [ro 3 (.bx 47 (.t 1)),
  ro 4 (.asg (.c (.int .i64 0))),
  ro 5 (.asg (.c (.int .i64 0)))] (some [0, 3])) c53_2
theorem s53 : slimC ⟨45, [0, 1]⟩ (Try.f53.body.getD .skip) = some c53.strip := by kernel_rfl

def c36_6 : SC := .seq (.reg [ro 2 (.asg (.c (.bool false)))] (some [2])) .ret
def c36_5 : SC := .cond (.t 15) c36_6 .skip
def c36_29 : SC := .seq (.reg [ro 2 (.asg (.c (.bool false)))] (some [2])) .ret
def c36_28 : SC := .cond (.t 35) c36_29 .skip
def c36_38 : SC := .seq (.reg [ro 2 (.asg (.c (.bool false)))] (some [2])) .ret
def c36_37 : SC := .cond (.t 43) c36_38 .skip
def c36_35 : SC := .seq (.reg [ro 42 (.mv (.t 6)),
  ro 43 (.bn .neq 2 (.t 42) (.c (.int .i64 0)))] (some [0, 16, 17, 18, 43])) c36_37
def c36_33 : SC := .seq (.reg [ro 37 (.mv (.t 0)),
  ro 38 (.ld 47 (.t 4)),
  ro 39 (.call (.f 53) [(.t 37), (.t 38)]),
  ro 36 (.mv (.t 39)),
  ro 40 (.ex (.t 36) 0),
  ro 41 (.ex (.t 36) 1),
  ro 5 (.asg (.t 40)),
  ro 6 (.asg (.t 41))] (some [0, 6, 16, 17, 18])) c36_35
def c36_25 : SC := .seq (.seq (.drw [ro 23 (.fa 47 (.t 4) 0),
  ro 24 (.ld 9 (.t 23)),
  ro 25 (.call (.f 51) [(.t 24)]),
  ro 26 (.un .not (.t 25)),
  ro 27 (.mv (.t 26)),
  ⟨some 28, .mv (.t 0), some (27, false)⟩,
  ⟨some 29, .mv (.t 3), some (27, false)⟩,
  ⟨some 30, .slc 27 (.t 28) none (some (.t 29)), some (27, false)⟩,
  ⟨some 31, .fa 47 (.t 4) 0, some (27, false)⟩,
  ⟨some 32, .ld 9 (.t 31), some (27, false)⟩,
  ⟨some 33, .call (.f 52) [(.t 30), (.t 32)], some (27, false)⟩,
  ⟨some 34, .bn .geq 3 (.t 33) (.c (.int .i64 0)), some (27, false)⟩,
  ro 35 (.pick (.t 27) (.c (.bool true)) (.t 34))] [[], [0], [1], [2], [3, 2], [4], [4], [5, 6, 4], [4], [8, 4], [7, 9, 4, 4], [10, 4], [4, 11]] (some [0, 4, 16, 17, 18, 35])) c36_28) c36_33
def c36_42 : SC := .reg [ro 44 (.bn .add 3 (.t 18) (.c (.int .i64 1))),
  ro 18 (.mv (.t 44))] (some [0, 16, 17, 18])
def c36_21 : SC := .seq (.block 1 (.seq (.reg [ro 20 (.mv (.t 18)),
  ro 21 (.ia 27 (.t 16) (.t 18)),
  ro 22 (.ld 47 (.t 21)),
  ro 4 (.alc 47),
  ro 3 (.asg (.t 20)),
  ⟨none, .sto 47 (.t 4) (.t 22), none⟩] (some [0, 3, 4, 16, 17, 18])) c36_25)) c36_42
def c36_17 : SC := .seq (.cond (.t 19) .skip (.exit 0)) c36_21
def c36_15 : SC := .seq (.reg [ro 19 (.bn .lss 3 (.t 18) (.t 17))] (some [0, 16, 17, 18, 19])) c36_17
def c36_13 : SC := .block 0 (.loop c36_15)
def c36_43 : SC := .seq (.reg [ro 2 (.asg (.c (.bool true)))] (some [2])) .ret
def c36_10 : SC := .seq (.seq (.reg [ro 16 (.mv (.t 0)),
  ro 17 (.len 27 (.t 16)),
  ro 18 (.mv (.c (.int .i64 0)))] (some [0, 16, 17, 18])) c36_13) c36_43
def c36_2 : SC := .seq (.seq (.reg [ro 7 (.mv (.t 0)),
  ro 8 (.len 27 (.t 7)),
  ro 9 (.call (.f 49) [(.t 8), (.c (.int .i64 1)), (.c (.int .i64 4))]),
  ro 10 (.un .not (.t 9)),
  ro 11 (.mv (.t 10)),
  ⟨some 12, .mv (.t 0), some (11, false)⟩,
  ⟨some 13, .call (.f 50) [(.t 12)], some (11, false)⟩,
  ⟨some 14, .un .not (.t 13), some (11, false)⟩,
  ro 15 (.pick (.t 11) (.c (.bool true)) (.t 14))] (some [0, 15])) c36_5) c36_10
/-- loop.example/g01075/impl.ValidDefinitions -/
def c36 : SC := .seq (.reg [ro 2 (.asg (.c (.bool false)))] (some [0])) c36_2
theorem s36 : slimC ⟨45, [0]⟩ (Try.f36.body.getD .skip) = some c36.strip := by kernel_rfl

def c23_7 : SC := .seq (.reg [ro 6 (.asg (.c (.int .i64 1)))] (some [6])) .ret
def c23_13 : SC := .seq (.reg [ro 6 (.asg (.c (.int .i64 2)))] (some [6])) .ret
def c23_12 : SC := .cond (.t 11) c23_13 .skip
def c23_10 : SC := .seq (.reg [ro 12 (.mv (.t 1)),
  ro 13 (.mv (.t 0)),
  ro 14 (.len 27 (.t 13)),
  ro 15 (.call (.f 37) [(.t 12), (.t 14)]),
  ro 16 (.un .not (.t 15)),
  ro 17 (.mv (.t 16)),
  ⟨some 18, .mv (.t 2), some (17, false)⟩,
  ⟨some 19, .mv (.t 0), some (17, false)⟩,
  ⟨some 20, .mv (.t 1), some (17, false)⟩,
  ⟨some 21, .ia 27 (.t 19) (.t 20), some (17, false)⟩,
  ⟨some 22, .fa 47 (.t 21) 2, some (17, false)⟩,
  ⟨some 23, .ld 45 (.t 22), some (17, false)⟩,
  ⟨some 24, .len 45 (.t 23), some (17, false)⟩,
  ⟨some 25, .call (.f 37) [(.t 18), (.t 24)], some (17, false)⟩,
  ⟨some 26, .un .not (.t 25), some (17, false)⟩,
  ro 27 (.pick (.t 17) (.c (.bool true)) (.t 26)),
  ro 11 (.asg (.t 27))] (some [11])) c23_12
def c23_6 : SC := .cond (.t 7) c23_7 c23_10
def c23_17 : SC := .seq (.reg [ro 6 (.asg (.c (.int .i64 0)))] (some [6])) .ret
def c23_2 : SC := .seq (.block 0 (.seq (.reg [ro 8 (.mv (.t 0)),
  ro 9 (.call (.f 36) [(.t 8)]),
  ro 10 (.un .not (.t 9)),
  ro 7 (.asg (.t 10))] (some [0, 1, 2, 7])) c23_6)) c23_17
/-- loop.example/g01075/impl.partCode -/
def c23 : SC := .seq (.reg [ro 6 (.asg (.c (.int .i64 0)))] (some [0, 1, 2])) c23_2
theorem s23 : slimC ⟨28, [0, 1, 2]⟩ (Try.f23.body.getD .skip) = some c23.strip := by kernel_rfl





def c24_22 : SC := .reg [ro 16 (.mv (.t 3)),
  ro 17 (.fa 55 (.t 5) 1),
  ro 18 (.ld 2 (.t 17)),
  ro 19 (.bsl 24 1 [(0, (.t 18))]),
  ro 20 (.app 24 24 (.t 16) (.t 19)),
  ro 3 (.asg (.t 20))] (some [3, 7, 8, 9])
def c24_21 : SC := .cond (.t 15) c24_22 .skip
def c24_19 : SC := .seq (.reg [ro 13 (.fa 55 (.t 5) 0),
  ro 14 (.ld 2 (.t 13)),
  ro 15 (.bn .eql 2 (.t 14) (.c (.int .i64 5)))] (some [3, 5, 7, 8, 9, 15])) c24_21
def c24_24 : SC := .reg [ro 21 (.bn .add 3 (.t 9) (.c (.int .i64 1))),
  ro 9 (.mv (.t 21))] (some [3, 7, 8, 9])
def c24_15 : SC := .seq (.block 1 (.seq (.reg [ro 11 (.ia 45 (.t 7) (.t 9)),
  ro 12 (.ld 55 (.t 11)),
  ro 5 (.alc 55),
  ⟨none, .sto 55 (.t 5) (.t 12), none⟩] (some [3, 5, 7, 8, 9])) c24_19)) c24_24
def c24_11 : SC := .seq (.cond (.t 10) .skip (.exit 0)) c24_15
def c24_9 : SC := .seq (.reg [ro 10 (.bn .lss 3 (.t 9) (.t 8))] (some [3, 7, 8, 9, 10])) c24_11
def c24_7 : SC := .block 0 (.loop c24_9)
def c24_27 : SC := .seq (.reg [ro 24 (.mv (.t 3)),
  ro 25 (.call (.f 39) [(.t 24)]),
  ro 2 (.asg (.t 25))] (some [2])) .ret
def c24_25 : SC := .seq (.reg [ro 22 (.mv (.t 3)),
  ro 23 (.call (.f 38) [(.t 22)])] (some [3])) c24_27
def c24_4 : SC := .seq (.seq (.reg [ro 6 (.fa 47 (.t 1) 2),
  ro 7 (.ld 45 (.t 6)),
  ro 8 (.len 45 (.t 7)),
  ro 9 (.mv (.c (.int .i64 0)))] (some [3, 7, 8, 9])) c24_7) c24_25
def c24_2 : SC := .seq (.reg [ro 3 (.asg (.c .nils))] (some [1, 3])) c24_4
/-- (loop.example/g01075/impl.Definition).calls -/
def c24 : SC := .seq (.reg [ro 1 (.bx 47 (.t 0)),
  ro 2 (.asg (.c .nils))] (some [1])) c24_2
theorem s24 : slimC ⟨26, [0]⟩ (Try.f24.body.getD .skip) = some c24.strip := by kernel_rfl

def c8_8 : SC := .seq (.reg [ro 12 (.mv (.t 6)),
  ro 4 (.asg (.c .nils)),
  ro 5 (.asg (.t 12))] (some [4, 5])) .ret
def c8_7 : SC := .cond (.t 11) c8_8 .skip
def c8_5 : SC := .seq (.reg [ro 10 (.mv (.t 6)),
  ro 11 (.bn .neq 2 (.t 10) (.c (.int .i64 0)))] (some [0, 1, 6, 11])) c8_7
def c8_12 : SC := .seq (.reg [ro 13 (.mv (.t 0)),
  ro 14 (.mv (.t 1)),
  ro 15 (.ia 27 (.t 13) (.t 14)),
  ro 16 (.ld 47 (.t 15)),
  ro 17 (.call (.f 24) [(.t 16)]),
  ro 4 (.asg (.t 17)),
  ro 5 (.asg (.c (.int .i64 0)))] (some [4, 5])) .ret
def c8_2 : SC := .seq (.seq (.reg [ro 7 (.mv (.t 0)),
  ro 8 (.mv (.t 1)),
  ro 9 (.call (.f 23) [(.t 7), (.t 8), (.c (.int .i64 0))]),
  ro 6 (.asg (.t 9))] (some [0, 1, 6])) c8_5) c8_12
/-- loop.example/g01075/impl.CallsOf -/
def c8 : SC := .seq (.reg [ro 4 (.asg (.c .nils)),
  ro 5 (.asg (.c (.int .i64 0)))] (some [0, 1])) c8_2
theorem s8 : slimC ⟨18, [0, 1]⟩ (Try.f8.body.getD .skip) = some c8.strip := by kernel_rfl

def c9_6 : SC := .seq (.reg [ro 4 (.asg (.c (.bool false)))] (some [4])) .ret
def c9_5 : SC := .cond (.t 10) c9_6 .skip
def c9_18 : SC := .cond (.t 14) .skip (.exit 0)
def c9_26 : SC := .seq (.reg [ro 4 (.asg (.c (.bool false)))] (some [4])) .ret
def c9_25 : SC := .cond (.t 25) c9_26 .skip
def c9_30 : SC := .reg [ro 15 (.mv (.t 5)),
  ro 16 (.bn .add 3 (.t 15) (.c (.int .i64 1))),
  ro 5 (.asg (.t 16))] (some [0, 1, 5])
def c9_21 : SC := .seq (.block 1 (.seq (.drw [ro 17 (.mv (.t 0)),
  ro 18 (.mv (.t 5)),
  ro 19 (.ia 24 (.t 17) (.t 18)),
  ro 20 (.ld 2 (.t 19)),
  ro 21 (.mv (.t 1)),
  ro 22 (.mv (.t 5)),
  ro 23 (.ia 24 (.t 21) (.t 22)),
  ro 24 (.ld 2 (.t 23)),
  ro 25 (.bn .neq 2 (.t 20) (.t 24))] [[], [], [0, 1], [2], [], [], [4, 5], [6], [3, 7]] (some [0, 1, 5, 25])) c9_25)) c9_30
def c9_15 : SC := .seq (.seq (.reg [ro 11 (.mv (.t 5)),
  ro 12 (.mv (.t 0)),
  ro 13 (.len 24 (.t 12)),
  ro 14 (.bn .lss 3 (.t 11) (.t 13))] (some [0, 1, 5, 14])) c9_18) c9_21
def c9_13 : SC := .block 0 (.loop c9_15)
def c9_31 : SC := .seq (.reg [ro 4 (.asg (.c (.bool true)))] (some [4])) .ret
def c9_10 : SC := .seq (.seq (.reg [ro 5 (.asg (.c (.int .i64 0)))] (some [0, 1, 5])) c9_13) c9_31
def c9_2 : SC := .seq (.seq (.reg [ro 6 (.mv (.t 0)),
  ro 7 (.len 24 (.t 6)),
  ro 8 (.mv (.t 1)),
  ro 9 (.len 24 (.t 8)),
  ro 10 (.bn .neq 3 (.t 7) (.t 9))] (some [0, 1, 10])) c9_5) c9_10
/-- loop.example/g01075/laws.eqInt64S -/
def c9 : SC := .seq (.reg [ro 4 (.asg (.c (.bool false)))] (some [0, 1])) c9_2
theorem s9 : slimC ⟨26, [0, 1]⟩ (Try.f9.body.getD .skip) = some c9.strip := by kernel_rfl

def c126_6 : SC := .seq (.reg [ro 4 (.asg (.c (.bool false)))] (some [4])) .ret
def c126_5 : SC := .cond (.t 9) c126_6 .skip
def c126_14 : SC := .seq (.reg [ro 4 (.asg (.c (.bool false)))] (some [4])) .ret
def c126_13 : SC := .cond (.t 14) c126_14 .skip
def c126_18 : SC := .seq (.reg [ro 4 (.asg (.c (.bool true)))] (some [4])) .ret
def c126_10 : SC := .seq (.seq (.reg [ro 10 (.fa 123 (.t 2) 1),
  ro 11 (.ld 2 (.t 10)),
  ro 12 (.fa 123 (.t 3) 1),
  ro 13 (.ld 2 (.t 12)),
  ro 14 (.bn .neq 2 (.t 11) (.t 13))] (some [14])) c126_13) c126_18
def c126_2 : SC := .seq (.seq (.reg [ro 5 (.fa 123 (.t 2) 0),
  ro 6 (.ld 2 (.t 5)),
  ro 7 (.fa 123 (.t 3) 0),
  ro 8 (.ld 2 (.t 7)),
  ro 9 (.bn .neq 2 (.t 6) (.t 8))] (some [2, 3, 9])) c126_5) c126_10
/-- loop.example/g01075/laws.eqTerm -/
def c126 : SC := .seq (.reg [ro 2 (.bx 123 (.t 0)),
  ro 3 (.bx 123 (.t 1)),
  ro 4 (.asg (.c (.bool false)))] (some [2, 3])) c126_2
theorem s126 : slimC ⟨15, [0, 1]⟩ (Try.f126.body.getD .skip) = some c126.strip := by kernel_rfl

def c116_6 : SC := .seq (.reg [ro 4 (.asg (.c (.bool false)))] (some [4])) .ret
def c116_5 : SC := .cond (.t 10) c116_6 .skip
def c116_18 : SC := .cond (.t 14) .skip (.exit 0)
def c116_26 : SC := .seq (.reg [ro 4 (.asg (.c (.bool false)))] (some [4])) .ret
def c116_25 : SC := .cond (.t 26) c116_26 .skip
def c116_30 : SC := .reg [ro 15 (.mv (.t 5)),
  ro 16 (.bn .add 3 (.t 15) (.c (.int .i64 1))),
  ro 5 (.asg (.t 16))] (some [0, 1, 5])
def c116_21 : SC := .seq (.block 1 (.seq (.drw [ro 17 (.mv (.t 0)),
  ro 18 (.mv (.t 5)),
  ro 19 (.ia 87 (.t 17) (.t 18)),
  ro 20 (.ld 123 (.t 19)),
  ro 21 (.mv (.t 1)),
  ro 22 (.mv (.t 5)),
  ro 23 (.ia 87 (.t 21) (.t 22)),
  ro 24 (.ld 123 (.t 23)),
  ro 25 (.call (.f 126) [(.t 20), (.t 24)]),
  ro 26 (.un .not (.t 25))] [[], [], [0, 1], [2], [], [], [4, 5], [6], [3, 7], [8]] (some [0, 1, 5, 26])) c116_25)) c116_30
def c116_15 : SC := .seq (.seq (.reg [ro 11 (.mv (.t 5)),
  ro 12 (.mv (.t 0)),
  ro 13 (.len 87 (.t 12)),
  ro 14 (.bn .lss 3 (.t 11) (.t 13))] (some [0, 1, 5, 14])) c116_18) c116_21
def c116_13 : SC := .block 0 (.loop c116_15)
def c116_31 : SC := .seq (.reg [ro 4 (.asg (.c (.bool true)))] (some [4])) .ret
def c116_10 : SC := .seq (.seq (.reg [ro 5 (.asg (.c (.int .i64 0)))] (some [0, 1, 5])) c116_13) c116_31
def c116_2 : SC := .seq (.seq (.reg [ro 6 (.mv (.t 0)),
  ro 7 (.len 87 (.t 6)),
  ro 8 (.mv (.t 1)),
  ro 9 (.len 87 (.t 8)),
  ro 10 (.bn .neq 3 (.t 7) (.t 9))] (some [0, 1, 10])) c116_5) c116_10
/-- loop.example/g01075/laws.eqTermS -/
def c116 : SC := .seq (.reg [ro 4 (.asg (.c (.bool false)))] (some [0, 1])) c116_2
theorem s116 : slimC ⟨27, [0, 1]⟩ (Try.f116.body.getD .skip) = some c116.strip := by kernel_rfl

def c91_6 : SC := .seq (.reg [ro 4 (.asg (.c (.bool false)))] (some [4])) .ret
def c91_5 : SC := .cond (.t 10) c91_6 .skip
def c91_18 : SC := .cond (.t 14) .skip (.exit 0)
def c91_26 : SC := .seq (.reg [ro 4 (.asg (.c (.bool false)))] (some [4])) .ret
def c91_25 : SC := .cond (.t 26) c91_26 .skip
def c91_30 : SC := .reg [ro 15 (.mv (.t 5)),
  ro 16 (.bn .add 3 (.t 15) (.c (.int .i64 1))),
  ro 5 (.asg (.t 16))] (some [0, 1, 5])
def c91_21 : SC := .seq (.block 1 (.seq (.drw [ro 17 (.mv (.t 0)),
  ro 18 (.mv (.t 5)),
  ro 19 (.ia 53 (.t 17) (.t 18)),
  ro 20 (.ld 87 (.t 19)),
  ro 21 (.mv (.t 1)),
  ro 22 (.mv (.t 5)),
  ro 23 (.ia 53 (.t 21) (.t 22)),
  ro 24 (.ld 87 (.t 23)),
  ro 25 (.call (.f 116) [(.t 20), (.t 24)]),
  ro 26 (.un .not (.t 25))] [[], [], [0, 1], [2], [], [], [4, 5], [6], [3, 7], [8]] (some [0, 1, 5, 26])) c91_25)) c91_30
def c91_15 : SC := .seq (.seq (.reg [ro 11 (.mv (.t 5)),
  ro 12 (.mv (.t 0)),
  ro 13 (.len 53 (.t 12)),
  ro 14 (.bn .lss 3 (.t 11) (.t 13))] (some [0, 1, 5, 14])) c91_18) c91_21
def c91_13 : SC := .block 0 (.loop c91_15)
def c91_31 : SC := .seq (.reg [ro 4 (.asg (.c (.bool true)))] (some [4])) .ret
def c91_10 : SC := .seq (.seq (.reg [ro 5 (.asg (.c (.int .i64 0)))] (some [0, 1, 5])) c91_13) c91_31
def c91_2 : SC := .seq (.seq (.reg [ro 6 (.mv (.t 0)),
  ro 7 (.len 53 (.t 6)),
  ro 8 (.mv (.t 1)),
  ro 9 (.len 53 (.t 8)),
  ro 10 (.bn .neq 3 (.t 7) (.t 9))] (some [0, 1, 10])) c91_5) c91_10
/-- loop.example/g01075/laws.eqTermSS -/
def c91 : SC := .seq (.reg [ro 4 (.asg (.c (.bool false)))] (some [0, 1])) c91_2
theorem s91 : slimC ⟨27, [0, 1]⟩ (Try.f91.body.getD .skip) = some c91.strip := by kernel_rfl

def c55_6 : SC := .seq (.reg [ro 4 (.asg (.c (.bool false)))] (some [4])) .ret
def c55_5 : SC := .cond (.t 9) c55_6 .skip
def c55_14 : SC := .seq (.reg [ro 4 (.asg (.c (.bool false)))] (some [4])) .ret
def c55_13 : SC := .cond (.t 14) c55_14 .skip
def c55_22 : SC := .seq (.reg [ro 4 (.asg (.c (.bool false)))] (some [4])) .ret
def c55_21 : SC := .cond (.t 19) c55_22 .skip
def c55_30 : SC := .seq (.reg [ro 4 (.asg (.c (.bool false)))] (some [4])) .ret
def c55_29 : SC := .cond (.t 25) c55_30 .skip
def c55_34 : SC := .seq (.reg [ro 4 (.asg (.c (.bool true)))] (some [4])) .ret
def c55_26 : SC := .seq (.seq (.reg [ro 20 (.fa 55 (.t 2) 3),
  ro 21 (.ld 53 (.t 20)),
  ro 22 (.fa 55 (.t 3) 3),
  ro 23 (.ld 53 (.t 22)),
  ro 24 (.call (.f 91) [(.t 21), (.t 23)]),
  ro 25 (.un .not (.t 24))] (some [25])) c55_29) c55_34
def c55_18 : SC := .seq (.seq (.reg [ro 15 (.fa 55 (.t 2) 2),
  ro 16 (.ld 9 (.t 15)),
  ro 17 (.fa 55 (.t 3) 2),
  ro 18 (.ld 9 (.t 17)),
  ro 19 (.bn .neq 9 (.t 16) (.t 18))] (some [2, 3, 19])) c55_21) c55_26
def c55_10 : SC := .seq (.seq (.reg [ro 10 (.fa 55 (.t 2) 1),
  ro 11 (.ld 2 (.t 10)),
  ro 12 (.fa 55 (.t 3) 1),
  ro 13 (.ld 2 (.t 12)),
  ro 14 (.bn .neq 2 (.t 11) (.t 13))] (some [2, 3, 14])) c55_13) c55_18
def c55_2 : SC := .seq (.seq (.reg [ro 5 (.fa 55 (.t 2) 0),
  ro 6 (.ld 2 (.t 5)),
  ro 7 (.fa 55 (.t 3) 0),
  ro 8 (.ld 2 (.t 7)),
  ro 9 (.bn .neq 2 (.t 6) (.t 8))] (some [2, 3, 9])) c55_5) c55_10
/-- loop.example/g01075/laws.eqPart -/
def c55 : SC := .seq (.reg [ro 2 (.bx 55 (.t 0)),
  ro 3 (.bx 55 (.t 1)),
  ro 4 (.asg (.c (.bool false)))] (some [2, 3])) c55_2
theorem s55 : slimC ⟨26, [0, 1]⟩ (Try.f55.body.getD .skip) = some c55.strip := by kernel_rfl

def c40_6 : SC := .seq (.reg [ro 4 (.asg (.c (.bool false)))] (some [4])) .ret
def c40_5 : SC := .cond (.t 10) c40_6 .skip
def c40_18 : SC := .cond (.t 14) .skip (.exit 0)
def c40_26 : SC := .seq (.reg [ro 4 (.asg (.c (.bool false)))] (some [4])) .ret
def c40_25 : SC := .cond (.t 26) c40_26 .skip
def c40_30 : SC := .reg [ro 15 (.mv (.t 5)),
  ro 16 (.bn .add 3 (.t 15) (.c (.int .i64 1))),
  ro 5 (.asg (.t 16))] (some [0, 1, 5])
def c40_21 : SC := .seq (.block 1 (.seq (.drw [ro 17 (.mv (.t 0)),
  ro 18 (.mv (.t 5)),
  ro 19 (.ia 45 (.t 17) (.t 18)),
  ro 20 (.ld 55 (.t 19)),
  ro 21 (.mv (.t 1)),
  ro 22 (.mv (.t 5)),
  ro 23 (.ia 45 (.t 21) (.t 22)),
  ro 24 (.ld 55 (.t 23)),
  ro 25 (.call (.f 55) [(.t 20), (.t 24)]),
  ro 26 (.un .not (.t 25))] [[], [], [0, 1], [2], [], [], [4, 5], [6], [3, 7], [8]] (some [0, 1, 5, 26])) c40_25)) c40_30
def c40_15 : SC := .seq (.seq (.reg [ro 11 (.mv (.t 5)),
  ro 12 (.mv (.t 0)),
  ro 13 (.len 45 (.t 12)),
  ro 14 (.bn .lss 3 (.t 11) (.t 13))] (some [0, 1, 5, 14])) c40_18) c40_21
def c40_13 : SC := .block 0 (.loop c40_15)
def c40_31 : SC := .seq (.reg [ro 4 (.asg (.c (.bool true)))] (some [4])) .ret
def c40_10 : SC := .seq (.seq (.reg [ro 5 (.asg (.c (.int .i64 0)))] (some [0, 1, 5])) c40_13) c40_31
def c40_2 : SC := .seq (.seq (.reg [ro 6 (.mv (.t 0)),
  ro 7 (.len 45 (.t 6)),
  ro 8 (.mv (.t 1)),
  ro 9 (.len 45 (.t 8)),
  ro 10 (.bn .neq 3 (.t 7) (.t 9))] (some [0, 1, 10])) c40_5) c40_10
/-- loop.example/g01075/laws.eqPartS -/
def c40 : SC := .seq (.reg [ro 4 (.asg (.c (.bool false)))] (some [0, 1])) c40_2
theorem s40 : slimC ⟨27, [0, 1]⟩ (Try.f40.body.getD .skip) = some c40.strip := by kernel_rfl

def c25_6 : SC := .seq (.reg [ro 4 (.asg (.c (.bool false)))] (some [4])) .ret
def c25_5 : SC := .cond (.t 9) c25_6 .skip
def c25_14 : SC := .seq (.reg [ro 4 (.asg (.c (.bool false)))] (some [4])) .ret
def c25_13 : SC := .cond (.t 14) c25_14 .skip
def c25_22 : SC := .seq (.reg [ro 4 (.asg (.c (.bool false)))] (some [4])) .ret
def c25_21 : SC := .cond (.t 20) c25_22 .skip
def c25_26 : SC := .seq (.reg [ro 4 (.asg (.c (.bool true)))] (some [4])) .ret
def c25_18 : SC := .seq (.seq (.reg [ro 15 (.fa 47 (.t 2) 2),
  ro 16 (.ld 45 (.t 15)),
  ro 17 (.fa 47 (.t 3) 2),
  ro 18 (.ld 45 (.t 17)),
  ro 19 (.call (.f 40) [(.t 16), (.t 18)]),
  ro 20 (.un .not (.t 19))] (some [20])) c25_21) c25_26
def c25_10 : SC := .seq (.seq (.reg [ro 10 (.fa 47 (.t 2) 1),
  ro 11 (.ld 2 (.t 10)),
  ro 12 (.fa 47 (.t 3) 1),
  ro 13 (.ld 2 (.t 12)),
  ro 14 (.bn .neq 2 (.t 11) (.t 13))] (some [2, 3, 14])) c25_13) c25_18
def c25_2 : SC := .seq (.seq (.reg [ro 5 (.fa 47 (.t 2) 0),
  ro 6 (.ld 9 (.t 5)),
  ro 7 (.fa 47 (.t 3) 0),
  ro 8 (.ld 9 (.t 7)),
  ro 9 (.bn .neq 9 (.t 6) (.t 8))] (some [2, 3, 9])) c25_5) c25_10
/-- loop.example/g01075/laws.eqDefinition -/
def c25 : SC := .seq (.reg [ro 2 (.bx 47 (.t 0)),
  ro 3 (.bx 47 (.t 1)),
  ro 4 (.asg (.c (.bool false)))] (some [2, 3])) c25_2
theorem s25 : slimC ⟨21, [0, 1]⟩ (Try.f25.body.getD .skip) = some c25.strip := by kernel_rfl

def c10_6 : SC := .seq (.reg [ro 4 (.asg (.c (.bool false)))] (some [4])) .ret
def c10_5 : SC := .cond (.t 10) c10_6 .skip
def c10_18 : SC := .cond (.t 14) .skip (.exit 0)
def c10_26 : SC := .seq (.reg [ro 4 (.asg (.c (.bool false)))] (some [4])) .ret
def c10_25 : SC := .cond (.t 26) c10_26 .skip
def c10_30 : SC := .reg [ro 15 (.mv (.t 5)),
  ro 16 (.bn .add 3 (.t 15) (.c (.int .i64 1))),
  ro 5 (.asg (.t 16))] (some [0, 1, 5])
def c10_21 : SC := .seq (.block 1 (.seq (.drw [ro 17 (.mv (.t 0)),
  ro 18 (.mv (.t 5)),
  ro 19 (.ia 27 (.t 17) (.t 18)),
  ro 20 (.ld 47 (.t 19)),
  ro 21 (.mv (.t 1)),
  ro 22 (.mv (.t 5)),
  ro 23 (.ia 27 (.t 21) (.t 22)),
  ro 24 (.ld 47 (.t 23)),
  ro 25 (.call (.f 25) [(.t 20), (.t 24)]),
  ro 26 (.un .not (.t 25))] [[], [], [0, 1], [2], [], [], [4, 5], [6], [3, 7], [8]] (some [0, 1, 5, 26])) c10_25)) c10_30
def c10_15 : SC := .seq (.seq (.reg [ro 11 (.mv (.t 5)),
  ro 12 (.mv (.t 0)),
  ro 13 (.len 27 (.t 12)),
  ro 14 (.bn .lss 3 (.t 11) (.t 13))] (some [0, 1, 5, 14])) c10_18) c10_21
def c10_13 : SC := .block 0 (.loop c10_15)
def c10_31 : SC := .seq (.reg [ro 4 (.asg (.c (.bool true)))] (some [4])) .ret
def c10_10 : SC := .seq (.seq (.reg [ro 5 (.asg (.c (.int .i64 0)))] (some [0, 1, 5])) c10_13) c10_31
def c10_2 : SC := .seq (.seq (.reg [ro 6 (.mv (.t 0)),
  ro 7 (.len 27 (.t 6)),
  ro 8 (.mv (.t 1)),
  ro 9 (.len 27 (.t 8)),
  ro 10 (.bn .neq 3 (.t 7) (.t 9))] (some [0, 1, 10])) c10_5) c10_10
/-- loop.example/g01075/laws.eqDefinitionS -/
def c10 : SC := .seq (.reg [ro 4 (.asg (.c (.bool false)))] (some [0, 1])) c10_2
theorem s10 : slimC ⟨27, [0, 1]⟩ (Try.f10.body.getD .skip) = some c10.strip := by kernel_rfl

def c26_6 : SC := .seq (.reg [ro 2 (.asg (.c (.str [109, 48])))] (some [2])) .ret
def c26_5 : SC := .cond (.t 5) c26_6 .skip
def c26_18 : SC := .cond (.t 7) .skip (.exit 0)
def c26_24 : SC := .reg [ro 16 (.mv (.t 0)),
  ro 17 (.bn .quo 3 (.t 16) (.c (.int .i64 10))),
  ro 0 (.asg (.t 17))] (some [0, 3])
def c26_21 : SC := .block 1 (.seq (.reg [ro 8 (.mv (.t 0)),
  ro 9 (.bn .rem 3 (.t 8) (.c (.int .i64 10))),
  ro 10 (.bn .add 3 (.c (.int .i64 48)) (.t 9)),
  ro 11 (.cvt 3 5 (.t 10)),
  ro 12 (.bsl 67 1 [(0, (.t 11))]),
  ro 13 (.cvt 67 9 (.t 12)),
  ro 14 (.mv (.t 3)),
  ro 15 (.bn .add 9 (.t 13) (.t 14)),
  ro 3 (.asg (.t 15))] (some [0, 3])) c26_24)
def c26_15 : SC := .seq (.seq (.reg [ro 6 (.mv (.t 0)),
  ro 7 (.bn .gtr 3 (.t 6) (.c (.int .i64 0)))] (some [0, 3, 7])) c26_18) c26_21
def c26_25 : SC := .seq (.reg [ro 18 (.mv (.t 3)),
  ro 19 (.bn .add 9 (.c (.str [109])) (.t 18)),
  ro 2 (.asg (.t 19))] (some [2])) .ret
def c26_12 : SC := .seq (.block 0 (.loop c26_15)) c26_25
def c26_10 : SC := .seq (.reg [ro 3 (.asg (.c (.str [])))] (some [0, 3])) c26_12
def c26_2 : SC := .seq (.seq (.reg [ro 4 (.mv (.t 0)),
  ro 5 (.bn .leq 3 (.t 4) (.c (.int .i64 0)))] (some [0, 5])) c26_5) c26_10
/-- loop.example/g01075/laws.markText -/
def c26 : SC := .seq (.reg [ro 2 (.asg (.c (.str [])))] (some [0])) c26_2
theorem s26 : slimC ⟨20, []⟩ (Try.f26.body.getD .skip) = some c26.strip := by kernel_rfl

def c56_10 : SC := .cond (.t 9) .skip (.exit 0)
def c56_21 : SC := .reg [ro 24 (.mv (.t 1)),
  ro 25 (.bn .add 3 (.t 24) (.c (.int .i64 1))),
  ro 1 (.asg (.t 25))] (some [0, 1, 5])
def c56_19 : SC := .seq (.reg [ro 19 (.mv (.t 0)),
  ro 20 (.mv (.t 5)),
  ro 21 (.mv (.t 1)),
  ro 22 (.ia 87 (.t 19) (.t 20)),
  ro 23 (.fa 123 (.t 22) 1),
  ⟨none, .sto 2 (.t 23) (.t 21), none⟩] (some [0, 1, 5])) c56_21
def c56_17 : SC := .seq (.reg [ro 17 (.mv (.t 1)),
  ro 18 (.bn .add 3 (.t 17) (.c (.int .i64 1))),
  ro 1 (.asg (.t 18))] (some [0, 1, 5])) c56_19
def c56_22 : SC := .reg [ro 10 (.mv (.t 5)),
  ro 11 (.bn .add 3 (.t 10) (.c (.int .i64 1))),
  ro 5 (.asg (.t 11))] (some [0, 1, 5])
def c56_13 : SC := .seq (.block 1 (.seq (.reg [ro 12 (.mv (.t 0)),
  ro 13 (.mv (.t 5)),
  ro 14 (.mv (.t 1)),
  ro 15 (.ia 87 (.t 12) (.t 13)),
  ro 16 (.fa 123 (.t 15) 0),
  ⟨none, .sto 2 (.t 16) (.t 14), none⟩] (some [0, 1, 5])) c56_17)) c56_22
def c56_7 : SC := .seq (.seq (.reg [ro 6 (.mv (.t 5)),
  ro 7 (.mv (.t 0)),
  ro 8 (.len 87 (.t 7)),
  ro 9 (.bn .lss 3 (.t 6) (.t 8))] (some [0, 1, 5, 9])) c56_10) c56_13
def c56_5 : SC := .block 0 (.loop c56_7)
def c56_23 : SC := .seq (.reg [ro 26 (.mv (.t 1)),
  ro 4 (.asg (.t 26))] (some [0, 4])) .ret
def c56_2 : SC := .seq (.seq (.reg [ro 5 (.asg (.c (.int .i64 0)))] (some [0, 1, 5])) c56_5) c56_23
/-- loop.example/g01075/laws.markTermS -/
def c56 : SC := .seq (.reg [ro 4 (.asg (.c (.int .i64 0)))] (some [0, 1])) c56_2
theorem s56 : slimC ⟨27, [0]⟩ (Try.f56.body.getD .skip) = some c56.strip := by kernel_rfl

def c41_10 : SC := .cond (.t 9) .skip (.exit 0)
def c41_16 : SC := .reg [ro 10 (.mv (.t 5)),
  ro 11 (.bn .add 3 (.t 10) (.c (.int .i64 1))),
  ro 5 (.asg (.t 11))] (some [0, 1, 5])
def c41_13 : SC := .seq (.block 1 (.reg [ro 12 (.mv (.t 0)),
  ro 13 (.mv (.t 5)),
  ro 14 (.ia 53 (.t 12) (.t 13)),
  ro 15 (.ld 87 (.t 14)),
  ro 16 (.mv (.t 1)),
  ro 17 (.call (.f 56) [(.t 15), (.t 16)]),
  ro 1 (.asg (.t 17))] (some [0, 1, 5]))) c41_16
def c41_7 : SC := .seq (.seq (.reg [ro 6 (.mv (.t 5)),
  ro 7 (.mv (.t 0)),
  ro 8 (.len 53 (.t 7)),
  ro 9 (.bn .lss 3 (.t 6) (.t 8))] (some [0, 1, 5, 9])) c41_10) c41_13
def c41_5 : SC := .block 0 (.loop c41_7)
def c41_17 : SC := .seq (.reg [ro 18 (.mv (.t 1)),
  ro 4 (.asg (.t 18))] (some [0, 4])) .ret
def c41_2 : SC := .seq (.seq (.reg [ro 5 (.asg (.c (.int .i64 0)))] (some [0, 1, 5])) c41_5) c41_17
/-- loop.example/g01075/laws.markTermSS -/
def c41 : SC := .seq (.reg [ro 4 (.asg (.c (.int .i64 0)))] (some [0, 1])) c41_2
theorem s41 : slimC ⟨19, [0]⟩ (Try.f41.body.getD .skip) = some c41.strip := by kernel_rfl

def c27_10 : SC := .cond (.t 9) .skip (.exit 0)
def c27_27 : SC := .reg [ro 34 (.mv (.t 0)),
  ro 35 (.mv (.t 5)),
  ro 36 (.ia 45 (.t 34) (.t 35)),
  ro 37 (.fa 55 (.t 36) 3),
  ro 38 (.ld 53 (.t 37)),
  ro 39 (.mv (.t 1)),
  ro 40 (.call (.f 41) [(.t 38), (.t 39)]),
  ro 1 (.asg (.t 40))] (some [0, 1, 5])
def c27_25 : SC := .seq (.reg [ro 32 (.mv (.t 1)),
  ro 33 (.bn .add 3 (.t 32) (.c (.int .i64 1))),
  ro 1 (.asg (.t 33))] (some [0, 1, 5])) c27_27
def c27_23 : SC := .seq (.reg [ro 26 (.mv (.t 0)),
  ro 27 (.mv (.t 5)),
  ro 28 (.mv (.t 1)),
  ro 29 (.call (.f 26) [(.t 28)]),
  ro 30 (.ia 45 (.t 26) (.t 27)),
  ro 31 (.fa 55 (.t 30) 2),
  ⟨none, .sto 9 (.t 31) (.t 29), none⟩] (some [0, 1, 5])) c27_25
def c27_21 : SC := .seq (.reg [ro 24 (.mv (.t 1)),
  ro 25 (.bn .add 3 (.t 24) (.c (.int .i64 1))),
  ro 1 (.asg (.t 25))] (some [0, 1, 5])) c27_23
def c27_19 : SC := .seq (.reg [ro 19 (.mv (.t 0)),
  ro 20 (.mv (.t 5)),
  ro 21 (.mv (.t 1)),
  ro 22 (.ia 45 (.t 19) (.t 20)),
  ro 23 (.fa 55 (.t 22) 1),
  ⟨none, .sto 2 (.t 23) (.t 21), none⟩] (some [0, 1, 5])) c27_21
def c27_17 : SC := .seq (.reg [ro 17 (.mv (.t 1)),
  ro 18 (.bn .add 3 (.t 17) (.c (.int .i64 1))),
  ro 1 (.asg (.t 18))] (some [0, 1, 5])) c27_19
def c27_28 : SC := .reg [ro 10 (.mv (.t 5)),
  ro 11 (.bn .add 3 (.t 10) (.c (.int .i64 1))),
  ro 5 (.asg (.t 11))] (some [0, 1, 5])
def c27_13 : SC := .seq (.block 1 (.seq (.reg [ro 12 (.mv (.t 0)),
  ro 13 (.mv (.t 5)),
  ro 14 (.mv (.t 1)),
  ro 15 (.ia 45 (.t 12) (.t 13)),
  ro 16 (.fa 55 (.t 15) 0),
  ⟨none, .sto 2 (.t 16) (.t 14), none⟩] (some [0, 1, 5])) c27_17)) c27_28
def c27_7 : SC := .seq (.seq (.reg [ro 6 (.mv (.t 5)),
  ro 7 (.mv (.t 0)),
  ro 8 (.len 45 (.t 7)),
  ro 9 (.bn .lss 3 (.t 6) (.t 8))] (some [0, 1, 5, 9])) c27_10) c27_13
def c27_5 : SC := .block 0 (.loop c27_7)
def c27_29 : SC := .seq (.reg [ro 41 (.mv (.t 1)),
  ro 4 (.asg (.t 41))] (some [0, 4])) .ret
def c27_2 : SC := .seq (.seq (.reg [ro 5 (.asg (.c (.int .i64 0)))] (some [0, 1, 5])) c27_5) c27_29
/-- loop.example/g01075/laws.markPartS -/
def c27 : SC := .seq (.reg [ro 4 (.asg (.c (.int .i64 0)))] (some [0, 1])) c27_2
theorem s27 : slimC ⟨42, [0]⟩ (Try.f27.body.getD .skip) = some c27.strip := by kernel_rfl

def c11_10 : SC := .cond (.t 9) .skip (.exit 0)
def c11_23 : SC := .reg [ro 27 (.mv (.t 0)),
  ro 28 (.mv (.t 5)),
  ro 29 (.ia 27 (.t 27) (.t 28)),
  ro 30 (.fa 47 (.t 29) 2),
  ro 31 (.ld 45 (.t 30)),
  ro 32 (.mv (.t 1)),
  ro 33 (.call (.f 27) [(.t 31), (.t 32)]),
  ro 1 (.asg (.t 33))] (some [0, 1, 5])
def c11_21 : SC := .seq (.reg [ro 25 (.mv (.t 1)),
  ro 26 (.bn .add 3 (.t 25) (.c (.int .i64 1))),
  ro 1 (.asg (.t 26))] (some [0, 1, 5])) c11_23
def c11_19 : SC := .seq (.reg [ro 20 (.mv (.t 0)),
  ro 21 (.mv (.t 5)),
  ro 22 (.mv (.t 1)),
  ro 23 (.ia 27 (.t 20) (.t 21)),
  ro 24 (.fa 47 (.t 23) 1),
  ⟨none, .sto 2 (.t 24) (.t 22), none⟩] (some [0, 1, 5])) c11_21
def c11_17 : SC := .seq (.reg [ro 18 (.mv (.t 1)),
  ro 19 (.bn .add 3 (.t 18) (.c (.int .i64 1))),
  ro 1 (.asg (.t 19))] (some [0, 1, 5])) c11_19
def c11_24 : SC := .reg [ro 10 (.mv (.t 5)),
  ro 11 (.bn .add 3 (.t 10) (.c (.int .i64 1))),
  ro 5 (.asg (.t 11))] (some [0, 1, 5])
def c11_13 : SC := .seq (.block 1 (.seq (.reg [ro 12 (.mv (.t 0)),
  ro 13 (.mv (.t 5)),
  ro 14 (.mv (.t 1)),
  ro 15 (.call (.f 26) [(.t 14)]),
  ro 16 (.ia 27 (.t 12) (.t 13)),
  ro 17 (.fa 47 (.t 16) 0),
  ⟨none, .sto 9 (.t 17) (.t 15), none⟩] (some [0, 1, 5])) c11_17)) c11_24
def c11_7 : SC := .seq (.seq (.reg [ro 6 (.mv (.t 5)),
  ro 7 (.mv (.t 0)),
  ro 8 (.len 27 (.t 7)),
  ro 9 (.bn .lss 3 (.t 6) (.t 8))] (some [0, 1, 5, 9])) c11_10) c11_13
def c11_5 : SC := .block 0 (.loop c11_7)
def c11_25 : SC := .seq (.reg [ro 34 (.mv (.t 1)),
  ro 4 (.asg (.t 34))] (some [0, 4])) .ret
def c11_2 : SC := .seq (.seq (.reg [ro 5 (.asg (.c (.int .i64 0)))] (some [0, 1, 5])) c11_5) c11_25
/-- loop.example/g01075/laws.markDefinitionS -/
def c11 : SC := .seq (.reg [ro 4 (.asg (.c (.int .i64 0)))] (some [0, 1])) c11_2
theorem s11 : slimC ⟨35, [0]⟩ (Try.f11.body.getD .skip) = some c11.strip := by kernel_rfl

def c12_10 : SC := .cond (.t 9) .skip (.exit 0)
def c12_17 : SC := .reg [ro 16 (.mv (.t 1)),
  ro 17 (.bn .add 3 (.t 16) (.c (.int .i64 1))),
  ro 1 (.asg (.t 17))] (some [0, 1, 5])
def c12_18 : SC := .reg [ro 10 (.mv (.t 5)),
  ro 11 (.bn .add 3 (.t 10) (.c (.int .i64 1))),
  ro 5 (.asg (.t 11))] (some [0, 1, 5])
def c12_13 : SC := .seq (.block 1 (.seq (.reg [ro 12 (.mv (.t 0)),
  ro 13 (.mv (.t 5)),
  ro 14 (.mv (.t 1)),
  ro 15 (.ia 24 (.t 12) (.t 13)),
  ⟨none, .sto 2 (.t 15) (.t 14), none⟩] (some [0, 1, 5])) c12_17)) c12_18
def c12_7 : SC := .seq (.seq (.reg [ro 6 (.mv (.t 5)),
  ro 7 (.mv (.t 0)),
  ro 8 (.len 24 (.t 7)),
  ro 9 (.bn .lss 3 (.t 6) (.t 8))] (some [0, 1, 5, 9])) c12_10) c12_13
def c12_5 : SC := .block 0 (.loop c12_7)
def c12_19 : SC := .seq (.reg [ro 18 (.mv (.t 1)),
  ro 4 (.asg (.t 18))] (some [0, 4])) .ret
def c12_2 : SC := .seq (.seq (.reg [ro 5 (.asg (.c (.int .i64 0)))] (some [0, 1, 5])) c12_5) c12_19
/-- loop.example/g01075/laws.markInt64S -/
def c12 : SC := .seq (.reg [ro 4 (.asg (.c (.int .i64 0)))] (some [0, 1])) c12_2
theorem s12 : slimC ⟨19, [0]⟩ (Try.f12.body.getD .skip) = some c12.strip := by kernel_rfl

def c13_10 : SC := .cond (.t 9) .skip (.exit 0)
def c13_19 : SC := .seq (.reg [ro 4 (.asg (.c (.int .i64 (-1))))] (some [4])) .ret
def c13_18 : SC := .cond (.t 17) c13_19 .skip
def c13_23 : SC := .reg [ro 18 (.mv (.t 1)),
  ro 19 (.bn .add 3 (.t 18) (.c (.int .i64 1))),
  ro 1 (.asg (.t 19))] (some [0, 1, 5])
def c13_24 : SC := .reg [ro 10 (.mv (.t 5)),
  ro 11 (.bn .add 3 (.t 10) (.c (.int .i64 1))),
  ro 5 (.asg (.t 11))] (some [0, 1, 5])
def c13_13 : SC := .seq (.block 1 (.seq (.seq (.reg [ro 12 (.mv (.t 0)),
  ro 13 (.mv (.t 5)),
  ro 14 (.ia 24 (.t 12) (.t 13)),
  ro 15 (.ld 2 (.t 14)),
  ro 16 (.mv (.t 1)),
  ro 17 (.bn .neq 2 (.t 15) (.t 16))] (some [0, 1, 5, 17])) c13_18) c13_23)) c13_24
def c13_7 : SC := .seq (.seq (.reg [ro 6 (.mv (.t 5)),
  ro 7 (.mv (.t 0)),
  ro 8 (.len 24 (.t 7)),
  ro 9 (.bn .lss 3 (.t 6) (.t 8))] (some [0, 1, 5, 9])) c13_10) c13_13
def c13_5 : SC := .block 0 (.loop c13_7)
def c13_25 : SC := .seq (.reg [ro 20 (.mv (.t 1)),
  ro 4 (.asg (.t 20))] (some [4])) .ret
def c13_2 : SC := .seq (.seq (.reg [ro 5 (.asg (.c (.int .i64 0)))] (some [0, 1, 5])) c13_5) c13_25
/-- loop.example/g01075/laws.heldInt64S -/
def c13 : SC := .seq (.reg [ro 4 (.asg (.c (.int .i64 0)))] (some [0, 1])) c13_2
theorem s13 : slimC ⟨21, [0]⟩ (Try.f13.body.getD .skip) = some c13.strip := by kernel_rfl

def c3_10 : SC := .seq (.reg [ro 4 (.asg (.c (.bool true)))] (some [4])) .ret
def c3_9 : SC := .cond (.t 20) c3_10 .skip
def c3_24 : SC := .seq (.reg [ro 4 (.asg (.c (.bool false)))] (some [4])) .ret
def c3_23 : SC := .cond (.t 44) c3_24 .skip
def c3_32 : SC := .seq (.reg [ro 4 (.asg (.c (.bool false)))] (some [4])) .ret
def c3_31 : SC := .cond (.t 49) c3_32 .skip
def c3_44 : SC := .seq (.reg [ro 4 (.asg (.c (.bool false)))] (some [4])) .ret
def c3_43 : SC := .cond (.t 65) c3_44 .skip
def c3_60 : SC := .seq (.reg [ro 4 (.asg (.c (.bool false)))] (some [4])) .ret
def c3_59 : SC := .cond (.t 73) c3_60 .skip
def c3_68 : SC := .seq (.reg [ro 4 (.asg (.c (.bool false)))] (some [4])) .ret
def c3_67 : SC := .cond (.t 76) c3_68 .skip
def c3_78 : SC := .seq (.reg [ro 4 (.asg (.c (.bool false)))] (some [4])) .ret
def c3_77 : SC := .cond (.t 92) c3_78 .skip
def c3_90 : SC := .seq (.reg [ro 4 (.asg (.c (.bool false)))] (some [4])) .ret
def c3_89 : SC := .cond (.t 97) c3_90 .skip
def c3_98 : SC := .seq (.reg [ro 4 (.asg (.c (.bool false)))] (some [4])) .ret
def c3_97 : SC := .cond (.t 100) c3_98 .skip
def c3_102 : SC := .seq (.reg [ro 4 (.asg (.c (.bool true)))] (some [4])) .ret
def c3_94 : SC := .seq (.seq (.reg [ro 98 (.mv (.t 13)),
  ro 99 (.mv (.t 12)),
  ro 100 (.bn .neq 3 (.t 98) (.t 99))] (some [100])) c3_97) c3_102
def c3_86 : SC := .seq (.seq (.reg [ro 96 (.mv (.t 13)),
  ro 97 (.bn .lss 3 (.t 96) (.c (.int .i64 0)))] (some [12, 13, 97])) c3_89) c3_94
def c3_84 : SC := .seq (.reg [ro 93 (.mv (.t 9)),
  ro 94 (.mv (.t 13)),
  ro 95 (.call (.f 13) [(.t 93), (.t 94)]),
  ro 13 (.asg (.t 95))] (some [12, 13])) c3_86
def c3_82 : SC := .seq (.reg [ro 13 (.asg (.c (.int .i64 1)))] (some [9, 12, 13])) c3_84
def c3_74 : SC := .seq (.seq (.reg [ro 84 (.mv (.t 14)),
  ro 85 (.mv (.t 6)),
  ro 86 (.call (.f 9) [(.t 84), (.t 85)]),
  ro 87 (.un .not (.t 86)),
  ro 88 (.mv (.t 87)),
  ⟨some 89, .mv (.t 15), some (88, false)⟩,
  ⟨some 90, .mv (.t 7), some (88, false)⟩,
  ⟨some 91, .bn .neq 2 (.t 89) (.t 90), some (88, false)⟩,
  ro 92 (.pick (.t 88) (.c (.bool true)) (.t 91))] (some [9, 12, 92])) c3_77) c3_82
def c3_72 : SC := .seq (.reg [ro 78 (.mv (.t 0)),
  ro 79 (.call (.f 7) [(.t 78)]),
  ro 80 (.mv (.t 1)),
  ro 81 (.call (.f 8) [(.t 79), (.t 80)]),
  ro 77 (.mv (.t 81)),
  ro 82 (.ex (.t 77) 0),
  ro 83 (.ex (.t 77) 1),
  ro 14 (.asg (.t 82)),
  ro 15 (.asg (.t 83))] (some [6, 7, 9, 12, 14, 15])) c3_74
def c3_64 : SC := .seq (.seq (.reg [ro 74 (.mv (.t 13)),
  ro 75 (.mv (.t 12)),
  ro 76 (.bn .neq 3 (.t 74) (.t 75))] (some [0, 1, 6, 7, 9, 12, 76])) c3_67) c3_72
def c3_56 : SC := .seq (.seq (.reg [ro 72 (.mv (.t 13)),
  ro 73 (.bn .lss 3 (.t 72) (.c (.int .i64 0)))] (some [0, 1, 6, 7, 9, 12, 13, 73])) c3_59) c3_64
def c3_54 : SC := .seq (.reg [ro 69 (.mv (.t 9)),
  ro 70 (.mv (.t 13)),
  ro 71 (.call (.f 13) [(.t 69), (.t 70)]),
  ro 13 (.asg (.t 71))] (some [0, 1, 6, 7, 9, 12, 13])) c3_56
def c3_52 : SC := .seq (.reg [ro 13 (.asg (.c (.int .i64 1)))] (some [0, 1, 6, 7, 9, 12, 13])) c3_54
def c3_50 : SC := .seq (.reg [ro 66 (.mv (.t 9)),
  ro 67 (.mv (.t 12)),
  ro 68 (.call (.f 12) [(.t 66), (.t 67)]),
  ro 12 (.asg (.t 68))] (some [0, 1, 6, 7, 9, 12])) c3_52
def c3_48 : SC := .seq (.reg [ro 12 (.asg (.c (.int .i64 1)))] (some [0, 1, 6, 7, 9, 12])) c3_50
def c3_40 : SC := .seq (.seq (.reg [ro 53 (.mv (.t 11)),
  ro 54 (.bn .lss 3 (.t 53) (.c (.int .i64 0))),
  ro 55 (.mv (.t 54)),
  ⟨some 56, .mv (.t 9), some (55, false)⟩,
  ⟨some 57, .mv (.t 6), some (55, false)⟩,
  ⟨some 58, .call (.f 9) [(.t 56), (.t 57)], some (55, false)⟩,
  ⟨some 59, .un .not (.t 58), some (55, false)⟩,
  ro 60 (.pick (.t 55) (.c (.bool true)) (.t 59)),
  ro 61 (.mv (.t 60)),
  ⟨some 62, .mv (.t 10), some (61, false)⟩,
  ⟨some 63, .mv (.t 7), some (61, false)⟩,
  ⟨some 64, .bn .neq 2 (.t 62) (.t 63), some (61, false)⟩,
  ro 65 (.pick (.t 61) (.c (.bool true)) (.t 64))] (some [0, 1, 6, 7, 9, 65])) c3_43) c3_48
def c3_38 : SC := .seq (.reg [ro 50 (.mv (.t 8)),
  ro 51 (.mv (.t 11)),
  ro 52 (.call (.f 11) [(.t 50), (.t 51)]),
  ro 11 (.asg (.t 52))] (some [0, 1, 6, 7, 9, 10, 11])) c3_40
def c3_36 : SC := .seq (.reg [ro 11 (.asg (.c (.int .i64 1)))] (some [0, 1, 6, 7, 8, 9, 10, 11])) c3_38
def c3_28 : SC := .seq (.seq (.reg [ro 45 (.mv (.t 8)),
  ro 46 (.mv (.t 0)),
  ro 47 (.call (.f 7) [(.t 46)]),
  ro 48 (.call (.f 10) [(.t 45), (.t 47)]),
  ro 49 (.un .not (.t 48))] (some [0, 1, 6, 7, 8, 9, 10, 49])) c3_31) c3_36
def c3_20 : SC := .seq (.seq (.reg [ro 36 (.mv (.t 9)),
  ro 37 (.mv (.t 6)),
  ro 38 (.call (.f 9) [(.t 36), (.t 37)]),
  ro 39 (.un .not (.t 38)),
  ro 40 (.mv (.t 39)),
  ⟨some 41, .mv (.t 10), some (40, false)⟩,
  ⟨some 42, .mv (.t 7), some (40, false)⟩,
  ⟨some 43, .bn .neq 2 (.t 41) (.t 42), some (40, false)⟩,
  ro 44 (.pick (.t 40) (.c (.bool true)) (.t 43))] (some [0, 1, 6, 7, 8, 9, 10, 44])) c3_23) c3_28
def c3_18 : SC := .seq (.reg [ro 31 (.mv (.t 8)),
  ro 32 (.mv (.t 1)),
  ro 33 (.call (.f 8) [(.t 31), (.t 32)]),
  ro 30 (.mv (.t 33)),
  ro 34 (.ex (.t 30) 0),
  ro 35 (.ex (.t 30) 1),
  ro 9 (.asg (.t 34)),
  ro 10 (.asg (.t 35))] (some [0, 1, 6, 7, 8, 9, 10])) c3_20
def c3_16 : SC := .seq (.reg [ro 28 (.mv (.t 0)),
  ro 29 (.call (.f 7) [(.t 28)]),
  ro 8 (.asg (.t 29))] (some [0, 1, 6, 7, 8])) c3_18
def c3_14 : SC := .seq (.reg [ro 22 (.mv (.t 0)),
  ro 23 (.call (.f 7) [(.t 22)]),
  ro 24 (.mv (.t 1)),
  ro 25 (.call (.f 6) [(.t 23), (.t 24)]),
  ro 21 (.mv (.t 25)),
  ro 26 (.ex (.t 21) 0),
  ro 27 (.ex (.t 21) 1),
  ro 6 (.asg (.t 26)),
  ro 7 (.asg (.t 27))] (some [0, 1, 6, 7])) c3_16
def c3_6 : SC := .seq (.seq (.reg [ro 19 (.mv (.t 5)),
  ro 20 (.bn .lss 3 (.t 19) (.c (.int .i64 0)))] (some [0, 1, 20])) c3_9) c3_14
def c3_4 : SC := .seq (.reg [ro 16 (.mv (.t 0)),
  ro 17 (.mv (.t 5)),
  ro 18 (.call (.f 5) [(.t 16), (.t 17)]),
  ro 5 (.asg (.t 18))] (some [0, 1, 5])) c3_6
def c3_2 : SC := .seq (.reg [ro 5 (.asg (.c (.int .i64 1048576)))] (some [0, 1, 5])) c3_4
/-- loop.example/g01075/laws.FnExactCallsOf -/
def c3 : SC := .seq (.reg [ro 4 (.asg (.c (.bool false)))] (some [0, 1])) c3_2
theorem s3 : slimC ⟨101, [0, 1]⟩ (Try.f3.body.getD .skip) = some c3.strip := by kernel_rfl

end Go.Proofs.Ytbemmmimelklkaa
