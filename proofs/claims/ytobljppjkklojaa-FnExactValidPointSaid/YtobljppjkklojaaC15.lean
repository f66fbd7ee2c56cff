/- Part of a proof that a law returns true for every input. No condition. -/
import Derived.Test.YtobljppjkklojaaTb
import Derived.Test.YtobljppjkklojaaFwL
import Derived.Test.YtobljppjkklojaaP15
namespace Go.Proofs.Ytobljppjkklojaa
open Go Go.Fw Go.Sh
set_option linter.unusedSimpArgs false

def e_laws_Term (x : laws_Term) : AV := .agg [.int .i64 x.Kind, .int .i64 x.Value]
theorem sh_e_laws_Term (x : laws_Term) : (e_laws_Term x).share = e_laws_Term x := by
  simp only [e_laws_Term, share_s]
theorem ns_e_laws_Term (x : laws_Term) : (e_laws_Term x).nosh = true := by
  simp only [e_laws_Term, AV.nosh, AV.noshs, Bool.and_self]
def e_s_laws_Term (x : List laws_Term) : AV := .slice (x.map e_laws_Term)
theorem sh_e_s_laws_Term (x : List laws_Term) : (e_s_laws_Term x).share = e_s_laws_Term x := by
  simp only [e_s_laws_Term, share_s, @shares_map _ e_laws_Term e_laws_Term (fun _ => sh_e_laws_Term _)]
def e_laws_Part (x : laws_Part) : AV := .agg [.int .i64 x.Kind, .int .i64 x.Number, .str x.Name, .slice (x.Arguments.map e_s_laws_Term)]
theorem sh_e_laws_Part (x : laws_Part) : (e_laws_Part x).share = e_laws_Part x := by
  simp only [e_laws_Part, share_s, @shares_map _ e_s_laws_Term e_s_laws_Term (fun _ => sh_e_s_laws_Term _)]
def e_laws_Definition (x : laws_Definition) : AV := .agg [.str x.Name, .int .i64 x.Parameters, .slice (x.Body.map e_laws_Part)]
theorem sh_e_laws_Definition (x : laws_Definition) : (e_laws_Definition x).share = e_laws_Definition x := by
  simp only [e_laws_Definition, share_s, @shares_map _ e_laws_Part e_laws_Part (fun _ => sh_e_laws_Part _)]
def e_i64 (x : Int) : AV := .int .i64 x
theorem sh_e_i64 (x : Int) : (e_i64 x).share = e_i64 x := by
  simp only [e_i64, share_s]
theorem ns_e_i64 (x : Int) : (e_i64 x).nosh = true := by
  simp only [e_i64, AV.nosh, AV.noshs, Bool.and_self]
def e_laws_Point (x : laws_Point) : AV := .agg [.int .i64 x.Definition, .int .i64 x.Part, .slice (x.Values.map e_i64)]
theorem sh_e_laws_Point (x : laws_Point) : (e_laws_Point x).share = e_laws_Point x := by
  simp only [e_laws_Point, share_s, @shares_map _ e_i64 e_i64 (fun _ => sh_e_i64 _)]
def e_str (x : List UInt8) : AV := .str x
theorem sh_e_str (x : List UInt8) : (e_str x).share = e_str x := by
  simp only [e_str, share_s]
theorem ns_e_str (x : List UInt8) : (e_str x).nosh = true := by
  simp only [e_str, AV.nosh, AV.noshs, Bool.and_self]
def e_s_laws_Part (x : List laws_Part) : AV := .slice (x.map e_laws_Part)
theorem sh_e_s_laws_Part (x : List laws_Part) : (e_s_laws_Part x).share = e_s_laws_Part x := by
  simp only [e_s_laws_Part, share_s, @shares_map _ e_laws_Part e_laws_Part (fun _ => sh_e_laws_Part _)]
def e_s_s_laws_Term (x : List (List laws_Term)) : AV := .slice (x.map e_s_laws_Term)
theorem sh_e_s_s_laws_Term (x : List (List laws_Term)) : (e_s_s_laws_Term x).share = e_s_s_laws_Term x := by
  simp only [e_s_s_laws_Term, share_s, @shares_map _ e_s_laws_Term e_s_laws_Term (fun _ => sh_e_s_laws_Term _)]
def e_s_i64 (x : List Int) : AV := .slice (x.map e_i64)
theorem sh_e_s_i64 (x : List Int) : (e_s_i64 x).share = e_s_i64 x := by
  simp only [e_s_i64, share_s, @shares_map _ e_i64 e_i64 (fun _ => sh_e_i64 _)]
def e_impl_Term (x : impl_Term) : AV := .agg [.int .i64 x.Kind, .int .i64 x.Value]
theorem sh_e_impl_Term (x : impl_Term) : (e_impl_Term x).share = e_impl_Term x := by
  simp only [e_impl_Term, share_s]
theorem ns_e_impl_Term (x : impl_Term) : (e_impl_Term x).nosh = true := by
  simp only [e_impl_Term, AV.nosh, AV.noshs, Bool.and_self]
def e_s_impl_Term (x : List impl_Term) : AV := .slice (x.map e_impl_Term)
theorem sh_e_s_impl_Term (x : List impl_Term) : (e_s_impl_Term x).share = e_s_impl_Term x := by
  simp only [e_s_impl_Term, share_s, @shares_map _ e_impl_Term e_impl_Term (fun _ => sh_e_impl_Term _)]
def e_impl_Part (x : impl_Part) : AV := .agg [.int .i64 x.Kind, .int .i64 x.Number, .str x.Name, .slice (x.Arguments.map e_s_impl_Term)]
theorem sh_e_impl_Part (x : impl_Part) : (e_impl_Part x).share = e_impl_Part x := by
  simp only [e_impl_Part, share_s, @shares_map _ e_s_impl_Term e_s_impl_Term (fun _ => sh_e_s_impl_Term _)]
def e_impl_Definition (x : impl_Definition) : AV := .agg [.str x.Name, .int .i64 x.Parameters, .slice (x.Body.map e_impl_Part)]
theorem sh_e_impl_Definition (x : impl_Definition) : (e_impl_Definition x).share = e_impl_Definition x := by
  simp only [e_impl_Definition, share_s, @shares_map _ e_impl_Part e_impl_Part (fun _ => sh_e_impl_Part _)]
def u_s_impl_Term (x : List impl_Term) : AV := .uslice 2 (x.map e_impl_Term)
theorem sh_u_s_impl_Term (x : List impl_Term) : (u_s_impl_Term x).share = e_s_impl_Term x := by
  simp only [u_s_impl_Term, e_s_impl_Term, share_s, @shares_map _ e_impl_Term e_impl_Term (fun _ => sh_e_impl_Term _)]
theorem ns_u_s_impl_Term (x : List impl_Term) : (u_s_impl_Term x).nosh = true := by
  simp only [u_s_impl_Term, AV.nosh, AV.noshs, Bool.and_self, @noshs_map _ e_impl_Term (fun _ => ns_e_impl_Term _)]
def u_impl_Part (x : impl_Part) : AV := .agg [.int .i64 x.Kind, .int .i64 x.Number, .str x.Name, .uslice 1 (x.Arguments.map u_s_impl_Term)]
theorem sh_u_impl_Part (x : impl_Part) : (u_impl_Part x).share = e_impl_Part x := by
  simp only [u_impl_Part, e_impl_Part, share_s, @shares_map _ u_s_impl_Term e_s_impl_Term (fun _ => sh_u_s_impl_Term _)]
theorem ns_u_impl_Part (x : impl_Part) : (u_impl_Part x).nosh = true := by
  simp only [u_impl_Part, AV.nosh, AV.noshs, Bool.and_self, @noshs_map _ u_s_impl_Term (fun _ => ns_u_s_impl_Term _)]
def u_impl_Definition (x : impl_Definition) : AV := .agg [.str x.Name, .int .i64 x.Parameters, .uslice 4 (x.Body.map u_impl_Part)]
theorem sh_u_impl_Definition (x : impl_Definition) : (u_impl_Definition x).share = e_impl_Definition x := by
  simp only [u_impl_Definition, e_impl_Definition, share_s, @shares_map _ u_impl_Part e_impl_Part (fun _ => sh_u_impl_Part _)]
theorem ns_u_impl_Definition (x : impl_Definition) : (u_impl_Definition x).nosh = true := by
  simp only [u_impl_Definition, AV.nosh, AV.noshs, Bool.and_self, @noshs_map _ u_impl_Part (fun _ => ns_u_impl_Part _)]
def u_s_impl_Part (x : List impl_Part) : AV := .uslice 4 (x.map u_impl_Part)
def e_s_impl_Part (x : List impl_Part) : AV := .slice (x.map e_impl_Part)
theorem sh_e_s_impl_Part (x : List impl_Part) : (e_s_impl_Part x).share = e_s_impl_Part x := by
  simp only [e_s_impl_Part, share_s, @shares_map _ e_impl_Part e_impl_Part (fun _ => sh_e_impl_Part _)]
theorem sh_u_s_impl_Part (x : List impl_Part) : (u_s_impl_Part x).share = e_s_impl_Part x := by
  simp only [u_s_impl_Part, e_s_impl_Part, share_s, @shares_map _ u_impl_Part e_impl_Part (fun _ => sh_u_impl_Part _)]
theorem ns_u_s_impl_Part (x : List impl_Part) : (u_s_impl_Part x).nosh = true := by
  simp only [u_s_impl_Part, AV.nosh, AV.noshs, Bool.and_self, @noshs_map _ u_impl_Part (fun _ => ns_u_impl_Part _)]
def u_s_s_impl_Term (x : List (List impl_Term)) : AV := .uslice 1 (x.map u_s_impl_Term)
def e_s_s_impl_Term (x : List (List impl_Term)) : AV := .slice (x.map e_s_impl_Term)
theorem sh_e_s_s_impl_Term (x : List (List impl_Term)) : (e_s_s_impl_Term x).share = e_s_s_impl_Term x := by
  simp only [e_s_s_impl_Term, share_s, @shares_map _ e_s_impl_Term e_s_impl_Term (fun _ => sh_e_s_impl_Term _)]
theorem sh_u_s_s_impl_Term (x : List (List impl_Term)) : (u_s_s_impl_Term x).share = e_s_s_impl_Term x := by
  simp only [u_s_s_impl_Term, e_s_s_impl_Term, share_s, @shares_map _ u_s_impl_Term e_s_impl_Term (fun _ => sh_u_s_impl_Term _)]
theorem ns_u_s_s_impl_Term (x : List (List impl_Term)) : (u_s_s_impl_Term x).nosh = true := by
  simp only [u_s_s_impl_Term, AV.nosh, AV.noshs, Bool.and_self, @noshs_map _ u_s_impl_Term (fun _ => ns_u_s_impl_Term _)]
def u_impl_Point (x : impl_Point) : AV := .agg [.int .i64 x.Definition, .int .i64 x.Part, .uslice 1 (x.Values.map e_i64)]
def e_impl_Point (x : impl_Point) : AV := .agg [.int .i64 x.Definition, .int .i64 x.Part, .slice (x.Values.map e_i64)]
theorem sh_e_impl_Point (x : impl_Point) : (e_impl_Point x).share = e_impl_Point x := by
  simp only [e_impl_Point, share_s, @shares_map _ e_i64 e_i64 (fun _ => sh_e_i64 _)]
theorem sh_u_impl_Point (x : impl_Point) : (u_impl_Point x).share = e_impl_Point x := by
  simp only [u_impl_Point, e_impl_Point, share_s, @shares_map _ e_i64 e_i64 (fun _ => sh_e_i64 _)]
theorem ns_u_impl_Point (x : impl_Point) : (u_impl_Point x).nosh = true := by
  simp only [u_impl_Point, AV.nosh, AV.noshs, Bool.and_self, @noshs_map _ e_i64 (fun _ => ns_e_i64 _)]
def u_s_i64 (x : List Int) : AV := .uslice 1 (x.map e_i64)
theorem sh_u_s_i64 (x : List Int) : (u_s_i64 x).share = e_s_i64 x := by
  simp only [u_s_i64, e_s_i64, share_s, @shares_map _ e_i64 e_i64 (fun _ => sh_e_i64 _)]
theorem ns_u_s_i64 (x : List Int) : (u_s_i64 x).nosh = true := by
  simp only [u_s_i64, AV.nosh, AV.noshs, Bool.and_self, @noshs_map _ e_i64 (fun _ => ns_e_i64 _)]
def e_impl_place (x : impl_place) : AV := .agg [.int .i64 x.scope, .bool x.behind]
theorem sh_e_impl_place (x : impl_place) : (e_impl_place x).share = e_impl_place x := by
  simp only [e_impl_place, share_s]
theorem ns_e_impl_place (x : impl_place) : (e_impl_place x).nosh = true := by
  simp only [e_impl_place, AV.nosh, AV.noshs, Bool.and_self]
def e_bool (x : Bool) : AV := .bool x
theorem sh_e_bool (x : Bool) : (e_bool x).share = e_bool x := by
  simp only [e_bool, share_s]
theorem ns_e_bool (x : Bool) : (e_bool x).nosh = true := by
  simp only [e_bool, AV.nosh, AV.noshs, Bool.and_self]

def c31_8 : SC := .seq (.reg [ro 4 (.asg (.c (.int .i64 (-1))))] (some [4])) .ret
def c31_7 : SC := .cond (.t 10) c31_8 .skip
def c31_12 : SC := .seq (.reg [ro 11 (.mv (.t 1)),
  ro 4 (.asg (.t 11))] (some [4])) .ret
def c31_4 : SC := .seq (.seq (.reg [ro 9 (.mv (.t 1)),
  ro 10 (.bn .lss 3 (.t 9) (.c (.int .i64 0)))] (some [1, 10])) c31_7) c31_12
def c31_2 : SC := .seq (.reg [ro 5 (.mv (.t 1)),
  ro 6 (.mv (.t 0)),
  ro 7 (.len 36 (.t 6)),
  ro 8 (.bn .sub 3 (.t 5) (.t 7)),
  ro 1 (.asg (.t 8))] (some [1])) c31_4
/-- loop.example/g01075/laws.szTermS -/
def c31 : SC := .seq (.reg [ro 4 (.asg (.c (.int .i64 0)))] (some [0, 1])) c31_2
theorem s31 : slimC ⟨12, [0]⟩ (Try.f31.body.getD .skip) = some c31.strip := by kernel_rfl

def c287_8 : SC := .seq (.reg [ro 4 (.asg (.c (.int .i64 (-1))))] (some [4])) .ret
def c287_7 : SC := .cond (.t 11) c287_8 .skip
def c287_20 : SC := .cond (.t 15) .skip (.exit 0)
def c287_30 : SC := .seq (.reg [ro 4 (.asg (.c (.int .i64 (-1))))] (some [4])) .ret
def c287_29 : SC := .cond (.t 25) c287_30 .skip
def c287_27 : SC := .seq (.reg [ro 24 (.mv (.t 1)),
  ro 25 (.bn .lss 3 (.t 24) (.c (.int .i64 0)))] (some [0, 1, 5, 25])) c287_29
def c287_34 : SC := .reg [ro 16 (.mv (.t 5)),
  ro 17 (.bn .add 3 (.t 16) (.c (.int .i64 1))),
  ro 5 (.asg (.t 17))] (some [0, 1, 5])
def c287_23 : SC := .seq (.block 1 (.seq (.reg [ro 18 (.mv (.t 0)),
  ro 19 (.mv (.t 5)),
  ro 20 (.ia 260 (.t 18) (.t 19)),
  ro 21 (.ld 36 (.t 20)),
  ro 22 (.mv (.t 1)),
  ro 23 (.call (.f 31) [(.t 21), (.t 22)]),
  ro 1 (.asg (.t 23))] (some [0, 1, 5])) c287_27)) c287_34
def c287_17 : SC := .seq (.seq (.reg [ro 12 (.mv (.t 5)),
  ro 13 (.mv (.t 0)),
  ro 14 (.len 260 (.t 13)),
  ro 15 (.bn .lss 3 (.t 12) (.t 14))] (some [0, 1, 5, 15])) c287_20) c287_23
def c287_15 : SC := .block 0 (.loop c287_17)
def c287_35 : SC := .seq (.reg [ro 26 (.mv (.t 1)),
  ro 4 (.asg (.t 26))] (some [4])) .ret
def c287_12 : SC := .seq (.seq (.reg [ro 5 (.asg (.c (.int .i64 0)))] (some [0, 1, 5])) c287_15) c287_35
def c287_4 : SC := .seq (.seq (.reg [ro 10 (.mv (.t 1)),
  ro 11 (.bn .lss 3 (.t 10) (.c (.int .i64 0)))] (some [0, 1, 11])) c287_7) c287_12
def c287_2 : SC := .seq (.reg [ro 6 (.mv (.t 1)),
  ro 7 (.mv (.t 0)),
  ro 8 (.len 260 (.t 7)),
  ro 9 (.bn .sub 3 (.t 6) (.t 8)),
  ro 1 (.asg (.t 9))] (some [0, 1])) c287_4
/-- loop.example/g01075/laws.szTermSS -/
def c287 : SC := .seq (.reg [ro 4 (.asg (.c (.int .i64 0)))] (some [0, 1])) c287_2
theorem s287 : slimC ⟨27, [0]⟩ (Try.f287.body.getD .skip) = some c287.strip := by kernel_rfl

def c274_8 : SC := .seq (.reg [ro 4 (.asg (.c (.int .i64 (-1))))] (some [4])) .ret
def c274_7 : SC := .cond (.t 11) c274_8 .skip
def c274_18 : SC := .seq (.reg [ro 4 (.asg (.c (.int .i64 (-1))))] (some [4])) .ret
def c274_17 : SC := .cond (.t 17) c274_18 .skip
def c274_22 : SC := .seq (.reg [ro 18 (.mv (.t 1)),
  ro 4 (.asg (.t 18))] (some [4])) .ret
def c274_14 : SC := .seq (.seq (.reg [ro 16 (.mv (.t 1)),
  ro 17 (.bn .lss 3 (.t 16) (.c (.int .i64 0)))] (some [1, 17])) c274_17) c274_22
def c274_12 : SC := .seq (.reg [ro 12 (.fa 291 (.t 2) 3),
  ro 13 (.ld 260 (.t 12)),
  ro 14 (.mv (.t 1)),
  ro 15 (.call (.f 287) [(.t 13), (.t 14)]),
  ro 1 (.asg (.t 15))] (some [1])) c274_14
def c274_4 : SC := .seq (.seq (.reg [ro 10 (.mv (.t 1)),
  ro 11 (.bn .lss 3 (.t 10) (.c (.int .i64 0)))] (some [1, 2, 11])) c274_7) c274_12
def c274_2 : SC := .seq (.reg [ro 5 (.mv (.t 1)),
  ro 6 (.fa 291 (.t 2) 2),
  ro 7 (.ld 9 (.t 6)),
  ro 8 (.len 9 (.t 7)),
  ro 9 (.bn .sub 3 (.t 5) (.t 8)),
  ro 1 (.asg (.t 9))] (some [1, 2])) c274_4
/-- loop.example/g01075/laws.szPart -/
def c274 : SC := .seq (.reg [ro 2 (.bx 291 (.t 0)),
  ro 4 (.asg (.c (.int .i64 0)))] (some [1, 2])) c274_2
theorem s274 : slimC ⟨19, [0]⟩ (Try.f274.body.getD .skip) = some c274.strip := by kernel_rfl

def c212_8 : SC := .seq (.reg [ro 4 (.asg (.c (.int .i64 (-1))))] (some [4])) .ret
def c212_7 : SC := .cond (.t 11) c212_8 .skip
def c212_20 : SC := .cond (.t 15) .skip (.exit 0)
def c212_30 : SC := .seq (.reg [ro 4 (.asg (.c (.int .i64 (-1))))] (some [4])) .ret
def c212_29 : SC := .cond (.t 25) c212_30 .skip
def c212_27 : SC := .seq (.reg [ro 24 (.mv (.t 1)),
  ro 25 (.bn .lss 3 (.t 24) (.c (.int .i64 0)))] (some [0, 1, 5, 25])) c212_29
def c212_34 : SC := .reg [ro 16 (.mv (.t 5)),
  ro 17 (.bn .add 3 (.t 16) (.c (.int .i64 1))),
  ro 5 (.asg (.t 17))] (some [0, 1, 5])
def c212_23 : SC := .seq (.block 1 (.seq (.reg [ro 18 (.mv (.t 0)),
  ro 19 (.mv (.t 5)),
  ro 20 (.ia 165 (.t 18) (.t 19)),
  ro 21 (.ld 291 (.t 20)),
  ro 22 (.mv (.t 1)),
  ro 23 (.call (.f 274) [(.t 21), (.t 22)]),
  ro 1 (.asg (.t 23))] (some [0, 1, 5])) c212_27)) c212_34
def c212_17 : SC := .seq (.seq (.reg [ro 12 (.mv (.t 5)),
  ro 13 (.mv (.t 0)),
  ro 14 (.len 165 (.t 13)),
  ro 15 (.bn .lss 3 (.t 12) (.t 14))] (some [0, 1, 5, 15])) c212_20) c212_23
def c212_15 : SC := .block 0 (.loop c212_17)
def c212_35 : SC := .seq (.reg [ro 26 (.mv (.t 1)),
  ro 4 (.asg (.t 26))] (some [4])) .ret
def c212_12 : SC := .seq (.seq (.reg [ro 5 (.asg (.c (.int .i64 0)))] (some [0, 1, 5])) c212_15) c212_35
def c212_4 : SC := .seq (.seq (.reg [ro 10 (.mv (.t 1)),
  ro 11 (.bn .lss 3 (.t 10) (.c (.int .i64 0)))] (some [0, 1, 11])) c212_7) c212_12
def c212_2 : SC := .seq (.reg [ro 6 (.mv (.t 1)),
  ro 7 (.mv (.t 0)),
  ro 8 (.len 165 (.t 7)),
  ro 9 (.bn .sub 3 (.t 6) (.t 8)),
  ro 1 (.asg (.t 9))] (some [0, 1])) c212_4
/-- loop.example/g01075/laws.szPartS -/
def c212 : SC := .seq (.reg [ro 4 (.asg (.c (.int .i64 0)))] (some [0, 1])) c212_2
theorem s212 : slimC ⟨27, [0]⟩ (Try.f212.body.getD .skip) = some c212.strip := by kernel_rfl

def c129_8 : SC := .seq (.reg [ro 4 (.asg (.c (.int .i64 (-1))))] (some [4])) .ret
def c129_7 : SC := .cond (.t 11) c129_8 .skip
def c129_18 : SC := .seq (.reg [ro 4 (.asg (.c (.int .i64 (-1))))] (some [4])) .ret
def c129_17 : SC := .cond (.t 17) c129_18 .skip
def c129_22 : SC := .seq (.reg [ro 18 (.mv (.t 1)),
  ro 4 (.asg (.t 18))] (some [4])) .ret
def c129_14 : SC := .seq (.seq (.reg [ro 16 (.mv (.t 1)),
  ro 17 (.bn .lss 3 (.t 16) (.c (.int .i64 0)))] (some [1, 17])) c129_17) c129_22
def c129_12 : SC := .seq (.reg [ro 12 (.fa 167 (.t 2) 2),
  ro 13 (.ld 165 (.t 12)),
  ro 14 (.mv (.t 1)),
  ro 15 (.call (.f 212) [(.t 13), (.t 14)]),
  ro 1 (.asg (.t 15))] (some [1])) c129_14
def c129_4 : SC := .seq (.seq (.reg [ro 10 (.mv (.t 1)),
  ro 11 (.bn .lss 3 (.t 10) (.c (.int .i64 0)))] (some [1, 2, 11])) c129_7) c129_12
def c129_2 : SC := .seq (.reg [ro 5 (.mv (.t 1)),
  ro 6 (.fa 167 (.t 2) 0),
  ro 7 (.ld 9 (.t 6)),
  ro 8 (.len 9 (.t 7)),
  ro 9 (.bn .sub 3 (.t 5) (.t 8)),
  ro 1 (.asg (.t 9))] (some [1, 2])) c129_4
/-- loop.example/g01075/laws.szDefinition -/
def c129 : SC := .seq (.reg [ro 2 (.bx 167 (.t 0)),
  ro 4 (.asg (.c (.int .i64 0)))] (some [1, 2])) c129_2
theorem s129 : slimC ⟨19, [0]⟩ (Try.f129.body.getD .skip) = some c129.strip := by kernel_rfl

def c50_8 : SC := .seq (.reg [ro 4 (.asg (.c (.int .i64 (-1))))] (some [4])) .ret
def c50_7 : SC := .cond (.t 11) c50_8 .skip
def c50_20 : SC := .cond (.t 15) .skip (.exit 0)
def c50_30 : SC := .seq (.reg [ro 4 (.asg (.c (.int .i64 (-1))))] (some [4])) .ret
def c50_29 : SC := .cond (.t 25) c50_30 .skip
def c50_27 : SC := .seq (.reg [ro 24 (.mv (.t 1)),
  ro 25 (.bn .lss 3 (.t 24) (.c (.int .i64 0)))] (some [0, 1, 5, 25])) c50_29
def c50_34 : SC := .reg [ro 16 (.mv (.t 5)),
  ro 17 (.bn .add 3 (.t 16) (.c (.int .i64 1))),
  ro 5 (.asg (.t 17))] (some [0, 1, 5])
def c50_23 : SC := .seq (.block 1 (.seq (.reg [ro 18 (.mv (.t 0)),
  ro 19 (.mv (.t 5)),
  ro 20 (.ia 58 (.t 18) (.t 19)),
  ro 21 (.ld 167 (.t 20)),
  ro 22 (.mv (.t 1)),
  ro 23 (.call (.f 129) [(.t 21), (.t 22)]),
  ro 1 (.asg (.t 23))] (some [0, 1, 5])) c50_27)) c50_34
def c50_17 : SC := .seq (.seq (.reg [ro 12 (.mv (.t 5)),
  ro 13 (.mv (.t 0)),
  ro 14 (.len 58 (.t 13)),
  ro 15 (.bn .lss 3 (.t 12) (.t 14))] (some [0, 1, 5, 15])) c50_20) c50_23
def c50_15 : SC := .block 0 (.loop c50_17)
def c50_35 : SC := .seq (.reg [ro 26 (.mv (.t 1)),
  ro 4 (.asg (.t 26))] (some [4])) .ret
def c50_12 : SC := .seq (.seq (.reg [ro 5 (.asg (.c (.int .i64 0)))] (some [0, 1, 5])) c50_15) c50_35
def c50_4 : SC := .seq (.seq (.reg [ro 10 (.mv (.t 1)),
  ro 11 (.bn .lss 3 (.t 10) (.c (.int .i64 0)))] (some [0, 1, 11])) c50_7) c50_12
def c50_2 : SC := .seq (.reg [ro 6 (.mv (.t 1)),
  ro 7 (.mv (.t 0)),
  ro 8 (.len 58 (.t 7)),
  ro 9 (.bn .sub 3 (.t 6) (.t 8)),
  ro 1 (.asg (.t 9))] (some [0, 1])) c50_4
/-- loop.example/g01075/laws.szDefinitionS -/
def c50 : SC := .seq (.reg [ro 4 (.asg (.c (.int .i64 0)))] (some [0, 1])) c50_2
theorem s50 : slimC ⟨27, [0]⟩ (Try.f50.body.getD .skip) = some c50.strip := by kernel_rfl

def c148_8 : SC := .seq (.reg [ro 4 (.asg (.c (.int .i64 (-1))))] (some [4])) .ret
def c148_7 : SC := .cond (.t 10) c148_8 .skip
def c148_12 : SC := .seq (.reg [ro 11 (.mv (.t 1)),
  ro 4 (.asg (.t 11))] (some [4])) .ret
def c148_4 : SC := .seq (.seq (.reg [ro 9 (.mv (.t 1)),
  ro 10 (.bn .lss 3 (.t 9) (.c (.int .i64 0)))] (some [1, 10])) c148_7) c148_12
def c148_2 : SC := .seq (.reg [ro 5 (.mv (.t 1)),
  ro 6 (.mv (.t 0)),
  ro 7 (.len 68 (.t 6)),
  ro 8 (.bn .sub 3 (.t 5) (.t 7)),
  ro 1 (.asg (.t 8))] (some [1])) c148_4
/-- loop.example/g01075/laws.szInt64S -/
def c148 : SC := .seq (.reg [ro 4 (.asg (.c (.int .i64 0)))] (some [0, 1])) c148_2
theorem s148 : slimC ⟨12, [0]⟩ (Try.f148.body.getD .skip) = some c148.strip := by kernel_rfl

def c67_8 : SC := .seq (.reg [ro 4 (.asg (.c (.int .i64 (-1))))] (some [4])) .ret
def c67_7 : SC := .cond (.t 10) c67_8 .skip
def c67_12 : SC := .seq (.reg [ro 11 (.mv (.t 1)),
  ro 4 (.asg (.t 11))] (some [4])) .ret
def c67_4 : SC := .seq (.seq (.reg [ro 9 (.mv (.t 1)),
  ro 10 (.bn .lss 3 (.t 9) (.c (.int .i64 0)))] (some [1, 10])) c67_7) c67_12
def c67_2 : SC := .seq (.reg [ro 5 (.fa 77 (.t 2) 2),
  ro 6 (.ld 68 (.t 5)),
  ro 7 (.mv (.t 1)),
  ro 8 (.call (.f 148) [(.t 6), (.t 7)]),
  ro 1 (.asg (.t 8))] (some [1])) c67_4
/-- loop.example/g01075/laws.szPoint -/
def c67 : SC := .seq (.reg [ro 2 (.bx 77 (.t 0)),
  ro 4 (.asg (.c (.int .i64 0)))] (some [1, 2])) c67_2
theorem s67 : slimC ⟨12, [0]⟩ (Try.f67.body.getD .skip) = some c67.strip := by kernel_rfl

def c107_8 : SC := .seq (.reg [ro 10 (.ld 131 (.t 3)),
  ⟨none, .sto 131 (.t 2) (.t 10), none⟩] (some [2])) .ret
def c107_6 : SC := .seq (.reg [ro 7 (.fa 133 (.t 1) 1),
  ro 8 (.ld 2 (.t 7)),
  ro 9 (.fa 131 (.t 3) 1),
  ⟨none, .sto 2 (.t 9) (.t 8), none⟩] (some [2, 3])) c107_8
def c107_4 : SC := .seq (.reg [ro 4 (.fa 133 (.t 1) 0),
  ro 5 (.ld 2 (.t 4)),
  ro 6 (.fa 131 (.t 3) 0),
  ⟨none, .sto 2 (.t 6) (.t 5), none⟩] (some [1, 2, 3])) c107_6
def c107_2 : SC := .seq (.reg [ro 3 (.alc 131)] (some [1, 2, 3])) c107_4
/-- loop.example/g01075/laws.toTerm -/
def c107 : SC := .seq (.reg [ro 1 (.bx 133 (.t 0)),
  ro 2 (.alc 131)] (some [1, 2])) c107_2
theorem s107 : slimC ⟨11, [0]⟩ (Try.f107.body.getD .skip) = some c107.strip := by kernel_rfl

def c33_12 : SC := .cond (.t 11) .skip (.exit 0)
def c33_18 : SC := .reg [ro 12 (.mv (.t 4)),
  ro 13 (.bn .add 3 (.t 12) (.c (.int .i64 1))),
  ro 4 (.asg (.t 13))] (some [0, 3, 4])
def c33_15 : SC := .seq (.block 1 (.reg [ro 14 (.mv (.t 3)),
  ro 15 (.mv (.t 4)),
  ro 16 (.mv (.t 0)),
  ro 17 (.mv (.t 4)),
  ro 18 (.ia 36 (.t 16) (.t 17)),
  ro 19 (.ld 133 (.t 18)),
  ro 20 (.call (.f 107) [(.t 19)]),
  ro 21 (.ia 40 (.t 14) (.t 15)),
  ⟨none, .sto 131 (.t 21) (.t 20), none⟩] (some [0, 3, 4]))) c33_18
def c33_9 : SC := .seq (.seq (.reg [ro 8 (.mv (.t 4)),
  ro 9 (.mv (.t 0)),
  ro 10 (.len 36 (.t 9)),
  ro 11 (.bn .lss 3 (.t 8) (.t 10))] (some [0, 3, 4, 11])) c33_12) c33_15
def c33_7 : SC := .block 0 (.loop c33_9)
def c33_19 : SC := .seq (.reg [ro 22 (.mv (.t 3)),
  ro 2 (.asg (.t 22))] (some [2])) .ret
def c33_4 : SC := .seq (.seq (.reg [ro 4 (.asg (.c (.int .i64 0)))] (some [0, 3, 4])) c33_7) c33_19
def c33_2 : SC := .seq (.reg [ro 5 (.mv (.t 0)),
  ro 6 (.len 36 (.t 5)),
  ro 7 (.mks 40 (.t 6) (.t 6)),
  ro 3 (.asg (.t 7))] (some [0, 3])) c33_4
/-- loop.example/g01075/laws.toTermS -/
def c33 : SC := .seq (.reg [ro 2 (.asg (.c .nils))] (some [0])) c33_2
theorem s33 : slimC ⟨23, [0]⟩ (Try.f33.body.getD .skip) = some c33.strip := by kernel_rfl

def c290_12 : SC := .cond (.t 11) .skip (.exit 0)
def c290_18 : SC := .reg [ro 12 (.mv (.t 4)),
  ro 13 (.bn .add 3 (.t 12) (.c (.int .i64 1))),
  ro 4 (.asg (.t 13))] (some [0, 3, 4])
def c290_15 : SC := .seq (.block 1 (.reg [ro 14 (.mv (.t 3)),
  ro 15 (.mv (.t 4)),
  ro 16 (.mv (.t 0)),
  ro 17 (.mv (.t 4)),
  ro 18 (.ia 260 (.t 16) (.t 17)),
  ro 19 (.ld 36 (.t 18)),
  ro 20 (.call (.f 33) [(.t 19)]),
  ro 21 (.ia 195 (.t 14) (.t 15)),
  ⟨none, .sto 40 (.t 21) (.t 20), none⟩] (some [0, 3, 4]))) c290_18
def c290_9 : SC := .seq (.seq (.reg [ro 8 (.mv (.t 4)),
  ro 9 (.mv (.t 0)),
  ro 10 (.len 260 (.t 9)),
  ro 11 (.bn .lss 3 (.t 8) (.t 10))] (some [0, 3, 4, 11])) c290_12) c290_15
def c290_7 : SC := .block 0 (.loop c290_9)
def c290_19 : SC := .seq (.reg [ro 22 (.mv (.t 3)),
  ro 2 (.asg (.t 22))] (some [2])) .ret
def c290_4 : SC := .seq (.seq (.reg [ro 4 (.asg (.c (.int .i64 0)))] (some [0, 3, 4])) c290_7) c290_19
def c290_2 : SC := .seq (.reg [ro 5 (.mv (.t 0)),
  ro 6 (.len 260 (.t 5)),
  ro 7 (.mks 195 (.t 6) (.t 6)),
  ro 3 (.asg (.t 7))] (some [0, 3])) c290_4
/-- loop.example/g01075/laws.toTermSS -/
def c290 : SC := .seq (.reg [ro 2 (.asg (.c .nils))] (some [0])) c290_2
theorem s290 : slimC ⟨23, [0]⟩ (Try.f290.body.getD .skip) = some c290.strip := by kernel_rfl

def c276_12 : SC := .seq (.reg [ro 17 (.ld 249 (.t 3)),
  ⟨none, .sto 249 (.t 2) (.t 17), none⟩] (some [2])) .ret
def c276_10 : SC := .seq (.reg [ro 13 (.fa 291 (.t 1) 3),
  ro 14 (.ld 260 (.t 13)),
  ro 15 (.call (.f 290) [(.t 14)]),
  ro 16 (.fa 249 (.t 3) 3),
  ⟨none, .sto 195 (.t 16) (.t 15), none⟩] (some [2, 3])) c276_12
def c276_8 : SC := .seq (.reg [ro 10 (.fa 291 (.t 1) 2),
  ro 11 (.ld 9 (.t 10)),
  ro 12 (.fa 249 (.t 3) 2),
  ⟨none, .sto 9 (.t 12) (.t 11), none⟩] (some [1, 2, 3])) c276_10
def c276_6 : SC := .seq (.reg [ro 7 (.fa 291 (.t 1) 1),
  ro 8 (.ld 2 (.t 7)),
  ro 9 (.fa 249 (.t 3) 1),
  ⟨none, .sto 2 (.t 9) (.t 8), none⟩] (some [1, 2, 3])) c276_8
def c276_4 : SC := .seq (.reg [ro 4 (.fa 291 (.t 1) 0),
  ro 5 (.ld 2 (.t 4)),
  ro 6 (.fa 249 (.t 3) 0),
  ⟨none, .sto 2 (.t 6) (.t 5), none⟩] (some [1, 2, 3])) c276_6
def c276_2 : SC := .seq (.reg [ro 3 (.alc 249)] (some [1, 2, 3])) c276_4
/-- loop.example/g01075/laws.toPart -/
def c276 : SC := .seq (.reg [ro 1 (.bx 291 (.t 0)),
  ro 2 (.alc 249)] (some [1, 2])) c276_2
theorem s276 : slimC ⟨18, [0]⟩ (Try.f276.body.getD .skip) = some c276.strip := by kernel_rfl

def c215_12 : SC := .cond (.t 11) .skip (.exit 0)
def c215_18 : SC := .reg [ro 12 (.mv (.t 4)),
  ro 13 (.bn .add 3 (.t 12) (.c (.int .i64 1))),
  ro 4 (.asg (.t 13))] (some [0, 3, 4])
def c215_15 : SC := .seq (.block 1 (.reg [ro 14 (.mv (.t 3)),
  ro 15 (.mv (.t 4)),
  ro 16 (.mv (.t 0)),
  ro 17 (.mv (.t 4)),
  ro 18 (.ia 165 (.t 16) (.t 17)),
  ro 19 (.ld 291 (.t 18)),
  ro 20 (.call (.f 276) [(.t 19)]),
  ro 21 (.ia 169 (.t 14) (.t 15)),
  ⟨none, .sto 249 (.t 21) (.t 20), none⟩] (some [0, 3, 4]))) c215_18
def c215_9 : SC := .seq (.seq (.reg [ro 8 (.mv (.t 4)),
  ro 9 (.mv (.t 0)),
  ro 10 (.len 165 (.t 9)),
  ro 11 (.bn .lss 3 (.t 8) (.t 10))] (some [0, 3, 4, 11])) c215_12) c215_15
def c215_7 : SC := .block 0 (.loop c215_9)
def c215_19 : SC := .seq (.reg [ro 22 (.mv (.t 3)),
  ro 2 (.asg (.t 22))] (some [2])) .ret
def c215_4 : SC := .seq (.seq (.reg [ro 4 (.asg (.c (.int .i64 0)))] (some [0, 3, 4])) c215_7) c215_19
def c215_2 : SC := .seq (.reg [ro 5 (.mv (.t 0)),
  ro 6 (.len 165 (.t 5)),
  ro 7 (.mks 169 (.t 6) (.t 6)),
  ro 3 (.asg (.t 7))] (some [0, 3])) c215_4
/-- loop.example/g01075/laws.toPartS -/
def c215 : SC := .seq (.reg [ro 2 (.asg (.c .nils))] (some [0])) c215_2
theorem s215 : slimC ⟨23, [0]⟩ (Try.f215.body.getD .skip) = some c215.strip := by kernel_rfl

def c132_10 : SC := .seq (.reg [ro 14 (.ld 171 (.t 3)),
  ⟨none, .sto 171 (.t 2) (.t 14), none⟩] (some [2])) .ret
def c132_8 : SC := .seq (.reg [ro 10 (.fa 167 (.t 1) 2),
  ro 11 (.ld 165 (.t 10)),
  ro 12 (.call (.f 215) [(.t 11)]),
  ro 13 (.fa 171 (.t 3) 2),
  ⟨none, .sto 169 (.t 13) (.t 12), none⟩] (some [2, 3])) c132_10
def c132_6 : SC := .seq (.reg [ro 7 (.fa 167 (.t 1) 1),
  ro 8 (.ld 2 (.t 7)),
  ro 9 (.fa 171 (.t 3) 1),
  ⟨none, .sto 2 (.t 9) (.t 8), none⟩] (some [1, 2, 3])) c132_8
def c132_4 : SC := .seq (.reg [ro 4 (.fa 167 (.t 1) 0),
  ro 5 (.ld 9 (.t 4)),
  ro 6 (.fa 171 (.t 3) 0),
  ⟨none, .sto 9 (.t 6) (.t 5), none⟩] (some [1, 2, 3])) c132_6
def c132_2 : SC := .seq (.reg [ro 3 (.alc 171)] (some [1, 2, 3])) c132_4
/-- loop.example/g01075/laws.toDefinition -/
def c132 : SC := .seq (.reg [ro 1 (.bx 167 (.t 0)),
  ro 2 (.alc 171)] (some [1, 2])) c132_2
theorem s132 : slimC ⟨15, [0]⟩ (Try.f132.body.getD .skip) = some c132.strip := by kernel_rfl

def c52_12 : SC := .cond (.t 11) .skip (.exit 0)
def c52_18 : SC := .reg [ro 12 (.mv (.t 4)),
  ro 13 (.bn .add 3 (.t 12) (.c (.int .i64 1))),
  ro 4 (.asg (.t 13))] (some [0, 3, 4])
def c52_15 : SC := .seq (.block 1 (.reg [ro 14 (.mv (.t 3)),
  ro 15 (.mv (.t 4)),
  ro 16 (.mv (.t 0)),
  ro 17 (.mv (.t 4)),
  ro 18 (.ia 58 (.t 16) (.t 17)),
  ro 19 (.ld 167 (.t 18)),
  ro 20 (.call (.f 132) [(.t 19)]),
  ro 21 (.ia 62 (.t 14) (.t 15)),
  ⟨none, .sto 171 (.t 21) (.t 20), none⟩] (some [0, 3, 4]))) c52_18
def c52_9 : SC := .seq (.seq (.reg [ro 8 (.mv (.t 4)),
  ro 9 (.mv (.t 0)),
  ro 10 (.len 58 (.t 9)),
  ro 11 (.bn .lss 3 (.t 8) (.t 10))] (some [0, 3, 4, 11])) c52_12) c52_15
def c52_7 : SC := .block 0 (.loop c52_9)
def c52_19 : SC := .seq (.reg [ro 22 (.mv (.t 3)),
  ro 2 (.asg (.t 22))] (some [2])) .ret
def c52_4 : SC := .seq (.seq (.reg [ro 4 (.asg (.c (.int .i64 0)))] (some [0, 3, 4])) c52_7) c52_19
def c52_2 : SC := .seq (.reg [ro 5 (.mv (.t 0)),
  ro 6 (.len 58 (.t 5)),
  ro 7 (.mks 62 (.t 6) (.t 6)),
  ro 3 (.asg (.t 7))] (some [0, 3])) c52_4
/-- loop.example/g01075/laws.toDefinitionS -/
def c52 : SC := .seq (.reg [ro 2 (.asg (.c .nils))] (some [0])) c52_2
theorem s52 : slimC ⟨23, [0]⟩ (Try.f52.body.getD .skip) = some c52.strip := by kernel_rfl

def c150_12 : SC := .cond (.t 11) .skip (.exit 0)
def c150_18 : SC := .reg [ro 12 (.mv (.t 4)),
  ro 13 (.bn .add 3 (.t 12) (.c (.int .i64 1))),
  ro 4 (.asg (.t 13))] (some [0, 3, 4])
def c150_15 : SC := .seq (.block 1 (.reg [ro 14 (.mv (.t 3)),
  ro 15 (.mv (.t 4)),
  ro 16 (.mv (.t 0)),
  ro 17 (.mv (.t 4)),
  ro 18 (.ia 68 (.t 16) (.t 17)),
  ro 19 (.ld 2 (.t 18)),
  ro 20 (.ia 68 (.t 14) (.t 15)),
  ⟨none, .sto 2 (.t 20) (.t 19), none⟩] (some [0, 3, 4]))) c150_18
def c150_9 : SC := .seq (.seq (.reg [ro 8 (.mv (.t 4)),
  ro 9 (.mv (.t 0)),
  ro 10 (.len 68 (.t 9)),
  ro 11 (.bn .lss 3 (.t 8) (.t 10))] (some [0, 3, 4, 11])) c150_12) c150_15
def c150_7 : SC := .block 0 (.loop c150_9)
def c150_19 : SC := .seq (.reg [ro 21 (.mv (.t 3)),
  ro 2 (.asg (.t 21))] (some [2])) .ret
def c150_4 : SC := .seq (.seq (.reg [ro 4 (.asg (.c (.int .i64 0)))] (some [0, 3, 4])) c150_7) c150_19
def c150_2 : SC := .seq (.reg [ro 5 (.mv (.t 0)),
  ro 6 (.len 68 (.t 5)),
  ro 7 (.mks 68 (.t 6) (.t 6)),
  ro 3 (.asg (.t 7))] (some [0, 3])) c150_4
/-- loop.example/g01075/laws.toInt64S -/
def c150 : SC := .seq (.reg [ro 2 (.asg (.c .nils))] (some [0])) c150_2
theorem s150 : slimC ⟨22, [0]⟩ (Try.f150.body.getD .skip) = some c150.strip := by kernel_rfl

def c69_10 : SC := .seq (.reg [ro 14 (.ld 80 (.t 3)),
  ⟨none, .sto 80 (.t 2) (.t 14), none⟩] (some [2])) .ret
def c69_8 : SC := .seq (.reg [ro 10 (.fa 77 (.t 1) 2),
  ro 11 (.ld 68 (.t 10)),
  ro 12 (.call (.f 150) [(.t 11)]),
  ro 13 (.fa 80 (.t 3) 2),
  ⟨none, .sto 68 (.t 13) (.t 12), none⟩] (some [2, 3])) c69_10
def c69_6 : SC := .seq (.reg [ro 7 (.fa 77 (.t 1) 1),
  ro 8 (.ld 2 (.t 7)),
  ro 9 (.fa 80 (.t 3) 1),
  ⟨none, .sto 2 (.t 9) (.t 8), none⟩] (some [1, 2, 3])) c69_8
def c69_4 : SC := .seq (.reg [ro 4 (.fa 77 (.t 1) 0),
  ro 5 (.ld 2 (.t 4)),
  ro 6 (.fa 80 (.t 3) 0),
  ⟨none, .sto 2 (.t 6) (.t 5), none⟩] (some [1, 2, 3])) c69_6
def c69_2 : SC := .seq (.reg [ro 3 (.alc 80)] (some [1, 2, 3])) c69_4
/-- loop.example/g01075/laws.toPoint -/
def c69 : SC := .seq (.reg [ro 1 (.bx 77 (.t 0)),
  ro 2 (.alc 80)] (some [1, 2])) c69_2
theorem s69 : slimC ⟨15, [0]⟩ (Try.f69.body.getD .skip) = some c69.strip := by kernel_rfl

def c208_2 : SC := .seq (.reg [ro 3 (.mv (.t 0)),
  ro 4 (.bn .geq 5 (.t 3) (.c (.int .u8 97))),
  ro 5 (.mv (.t 4)),
  ⟨some 6, .mv (.t 0), some (5, true)⟩,
  ⟨some 7, .bn .leq 5 (.t 6) (.c (.int .u8 122)), some (5, true)⟩,
  ro 8 (.pick (.t 5) (.t 7) (.c (.bool false))),
  ro 2 (.asg (.t 8))] (some [2])) .ret
/-- loop.example/g01075/spec.l01Small -/
def c208 : SC := .seq (.reg [ro 2 (.asg (.c (.bool false)))] (some [0])) c208_2
theorem s208 : slimC ⟨9, [0]⟩ (Try.f208.body.getD .skip) = some c208.strip := by kernel_rfl

def c209_2 : SC := .seq (.reg [ro 3 (.mv (.t 0)),
  ro 4 (.bn .geq 5 (.t 3) (.c (.int .u8 48))),
  ro 5 (.mv (.t 4)),
  ⟨some 6, .mv (.t 0), some (5, true)⟩,
  ⟨some 7, .bn .leq 5 (.t 6) (.c (.int .u8 57)), some (5, true)⟩,
  ro 8 (.pick (.t 5) (.t 7) (.c (.bool false))),
  ro 2 (.asg (.t 8))] (some [2])) .ret
/-- loop.example/g01075/spec.l01Digit -/
def c209 : SC := .seq (.reg [ro 2 (.asg (.c (.bool false)))] (some [0])) c209_2
theorem s209 : slimC ⟨9, [0]⟩ (Try.f209.body.getD .skip) = some c209.strip := by kernel_rfl

def c124_6 : SC := .seq (.reg [ro 2 (.asg (.c (.bool false)))] (some [2])) .ret
def c124_5 : SC := .cond (.t 16) c124_6 .skip
def c124_18 : SC := .cond (.t 20) .skip (.exit 0)
def c124_26 : SC := .seq (.reg [ro 2 (.asg (.c (.bool false)))] (some [2])) .ret
def c124_25 : SC := .cond (.t 34) c124_26 .skip
def c124_30 : SC := .reg [ro 21 (.mv (.t 3)),
  ro 22 (.bn .add 3 (.t 21) (.c (.int .i64 1))),
  ro 3 (.asg (.t 22))] (some [0, 3])
def c124_21 : SC := .seq (.block 1 (.seq (.reg [ro 23 (.mv (.t 0)),
  ro 24 (.mv (.t 3)),
  ro 25 (.idx 9 (.t 23) (.t 24)),
  ro 26 (.call (.f 208) [(.t 25)]),
  ro 27 (.un .not (.t 26)),
  ro 28 (.mv (.t 27)),
  ⟨some 29, .mv (.t 0), some (28, true)⟩,
  ⟨some 30, .mv (.t 3), some (28, true)⟩,
  ⟨some 31, .idx 9 (.t 29) (.t 30), some (28, true)⟩,
  ⟨some 32, .call (.f 209) [(.t 31)], some (28, true)⟩,
  ⟨some 33, .un .not (.t 32), some (28, true)⟩,
  ro 34 (.pick (.t 28) (.t 33) (.c (.bool false)))] (some [0, 3, 34])) c124_25)) c124_30
def c124_15 : SC := .seq (.seq (.reg [ro 17 (.mv (.t 3)),
  ro 18 (.mv (.t 0)),
  ro 19 (.len 9 (.t 18)),
  ro 20 (.bn .lss 3 (.t 17) (.t 19))] (some [0, 3, 20])) c124_18) c124_21
def c124_13 : SC := .block 0 (.loop c124_15)
def c124_31 : SC := .seq (.reg [ro 2 (.asg (.c (.bool true)))] (some [2])) .ret
def c124_10 : SC := .seq (.seq (.reg [ro 3 (.asg (.c (.int .i64 0)))] (some [0, 3])) c124_13) c124_31
def c124_2 : SC := .seq (.seq (.reg [ro 4 (.mv (.t 0)),
  ro 5 (.bn .eql 9 (.t 4) (.c (.str []))),
  ro 6 (.mv (.t 5)),
  ⟨some 7, .mv (.t 0), some (6, false)⟩,
  ⟨some 8, .len 9 (.t 7), some (6, false)⟩,
  ⟨some 9, .bn .gtr 3 (.t 8) (.c (.int .i64 10)), some (6, false)⟩,
  ro 10 (.pick (.t 6) (.c (.bool true)) (.t 9)),
  ro 11 (.mv (.t 10)),
  ⟨some 12, .mv (.t 0), some (11, false)⟩,
  ⟨some 13, .idx 9 (.t 12) (.c (.int .i64 0)), some (11, false)⟩,
  ⟨some 14, .call (.f 208) [(.t 13)], some (11, false)⟩,
  ⟨some 15, .un .not (.t 14), some (11, false)⟩,
  ro 16 (.pick (.t 11) (.c (.bool true)) (.t 15))] (some [0, 16])) c124_5) c124_10
/-- loop.example/g01075/spec.l01Name -/
def c124 : SC := .seq (.reg [ro 2 (.asg (.c (.bool false)))] (some [0])) c124_2
theorem s124 : slimC ⟨35, [0]⟩ (Try.f124.body.getD .skip) = some c124.strip := by kernel_rfl

def c130_2 : SC := .seq (.reg [ro 7 (.mv (.t 0)),
  ro 8 (.mv (.t 1)),
  ro 9 (.bn .geq 2 (.t 7) (.t 8)),
  ro 10 (.mv (.t 9)),
  ⟨some 11, .mv (.t 0), some (10, true)⟩,
  ⟨some 12, .mv (.t 2), some (10, true)⟩,
  ⟨some 13, .bn .leq 2 (.t 11) (.t 12), some (10, true)⟩,
  ro 14 (.pick (.t 10) (.t 13) (.c (.bool false))),
  ro 6 (.asg (.t 14))] (some [6])) .ret
/-- loop.example/g01075/spec.l00In -/
def c130 : SC := .seq (.reg [ro 6 (.asg (.c (.bool false)))] (some [0, 1, 2])) c130_2
theorem s130 : slimC ⟨15, [0, 1, 2]⟩ (Try.f130.body.getD .skip) = some c130.strip := by kernel_rfl

def c225_15 : SC := .reg [ro 10 (.bn .eql 2 (.t 6) (.c (.int .i64 4))),
  ro 7 (.asg (.t 10))] (some [6, 7])
def c225_13 : SC := .cond (.t 7) .skip c225_15
def c225_11 : SC := .seq (.reg [ro 9 (.bn .eql 2 (.t 6) (.c (.int .i64 3))),
  ro 7 (.asg (.t 9))] (some [6, 7])) c225_13
def c225_9 : SC := .cond (.t 7) .skip c225_11
def c225_17 : SC := .seq (.reg [ro 2 (.asg (.c (.int .i64 1)))] (some [2])) .ret
def c225_23 : SC := .seq (.reg [ro 2 (.asg (.c (.int .i64 2)))] (some [2])) .ret
def c225_22 : SC := .cond (.t 11) c225_23 .skip
def c225_20 : SC := .seq (.reg [ro 12 (.bn .eql 2 (.t 6) (.c (.int .i64 2))),
  ro 11 (.asg (.t 12))] (some [11])) c225_22
def c225_16 : SC := .cond (.t 7) c225_17 c225_20
def c225_5 : SC := .block 0 (.seq (.seq (.reg [ro 8 (.bn .eql 2 (.t 6) (.c (.int .i64 1))),
  ro 7 (.asg (.t 8))] (some [6, 7])) c225_9) c225_16)
def c225_27 : SC := .seq (.reg [ro 2 (.asg (.c (.int .i64 0)))] (some [2])) .ret
def c225_2 : SC := .seq (.seq (.reg [ro 3 (.mv (.t 0)),
  ro 4 (.nilc (.t 3)),
  ro 5 (.fa 249 (.t 4) 0),
  ro 6 (.ld 2 (.t 5))] (some [6])) c225_5) c225_27
/-- loop.example/g01075/spec.l05Follow -/
def c225 : SC := .seq (.reg [ro 2 (.asg (.c (.int .i64 0)))] (some [0])) c225_2
theorem s225 : slimC ⟨13, [0]⟩ (Try.f225.body.getD .skip) = some c225.strip := by kernel_rfl

def c213_6 : SC := .seq (.reg [ro 2 (.asg (.c (.bool false)))] (some [2])) .ret
def c213_5 : SC := .cond (.t 12) c213_6 .skip
def c213_20 : SC := .cond (.t 16) .skip (.exit 0)
def c213_29 : SC := .seq (.reg [ro 2 (.asg (.c (.bool false)))] (some [2])) .ret
def c213_28 : SC := .cond (.t 20) c213_29 .skip
def c213_33 : SC := .reg [ro 21 (.mv (.t 3)),
  ro 22 (.mv (.t 0)),
  ro 23 (.mv (.t 4)),
  ro 24 (.ia 169 (.t 22) (.t 23)),
  ro 25 (.call (.f 225) [(.t 24)]),
  ro 26 (.bn .sub 2 (.t 25) (.c (.int .i64 1))),
  ro 27 (.bn .add 2 (.t 21) (.t 26)),
  ro 3 (.asg (.t 27))] (some [0, 3, 4])
def c213_34 : SC := .reg [ro 17 (.mv (.t 4)),
  ro 18 (.bn .add 3 (.t 17) (.c (.int .i64 1))),
  ro 4 (.asg (.t 18))] (some [0, 3, 4])
def c213_23 : SC := .seq (.block 1 (.seq (.seq (.reg [ro 19 (.mv (.t 3)),
  ro 20 (.bn .eql 2 (.t 19) (.c (.int .i64 0)))] (some [0, 3, 4, 20])) c213_28) c213_33)) c213_34
def c213_17 : SC := .seq (.seq (.reg [ro 13 (.mv (.t 4)),
  ro 14 (.mv (.t 0)),
  ro 15 (.len 169 (.t 14)),
  ro 16 (.bn .lss 3 (.t 13) (.t 15))] (some [0, 3, 4, 16])) c213_20) c213_23
def c213_15 : SC := .block 0 (.loop c213_17)
def c213_35 : SC := .seq (.reg [ro 28 (.mv (.t 3)),
  ro 29 (.bn .eql 2 (.t 28) (.c (.int .i64 0))),
  ro 2 (.asg (.t 29))] (some [2])) .ret
def c213_12 : SC := .seq (.seq (.reg [ro 4 (.asg (.c (.int .i64 0)))] (some [0, 3, 4])) c213_15) c213_35
def c213_10 : SC := .seq (.reg [ro 3 (.asg (.c (.int .i64 1)))] (some [0, 3])) c213_12
def c213_2 : SC := .seq (.seq (.reg [ro 5 (.mv (.t 0)),
  ro 6 (.len 169 (.t 5)),
  ro 7 (.bn .eql 3 (.t 6) (.c (.int .i64 0))),
  ro 8 (.mv (.t 7)),
  ⟨some 9, .mv (.t 0), some (8, false)⟩,
  ⟨some 10, .len 169 (.t 9), some (8, false)⟩,
  ⟨some 11, .bn .gtr 3 (.t 10) (.c (.int .i64 20)), some (8, false)⟩,
  ro 12 (.pick (.t 8) (.c (.bool true)) (.t 11))] (some [0, 12])) c213_5) c213_10
/-- loop.example/g01075/spec.l05Shape -/
def c213 : SC := .seq (.reg [ro 2 (.asg (.c (.bool false)))] (some [0])) c213_2
theorem s213 : slimC ⟨30, [0]⟩ (Try.f213.body.getD .skip) = some c213.strip := by kernel_rfl

def c275_11 : SC := .reg [ro 9 (.bn .eql 2 (.t 6) (.c (.int .i64 2))),
  ro 7 (.asg (.t 9))] (some [0, 6, 7])
def c275_9 : SC := .cond (.t 7) .skip c275_11
def c275_13 : SC := .seq (.reg [ro 10 (.mv (.t 0)),
  ro 11 (.nilc (.t 10)),
  ro 12 (.fa 249 (.t 11) 1),
  ro 13 (.ld 2 (.t 12)),
  ro 14 (.bn .eql 2 (.t 13) (.c (.int .i64 0))),
  ro 15 (.mv (.t 14)),
  ⟨some 16, .mv (.t 0), some (15, true)⟩,
  ⟨some 17, .nilc (.t 16), some (15, true)⟩,
  ⟨some 18, .fa 249 (.t 17) 2, some (15, true)⟩,
  ⟨some 19, .ld 9 (.t 18), some (15, true)⟩,
  ⟨some 20, .bn .eql 9 (.t 19) (.c (.str [])), some (15, true)⟩,
  ro 21 (.pick (.t 15) (.t 20) (.c (.bool false))),
  ro 22 (.mv (.t 21)),
  ⟨some 23, .mv (.t 0), some (22, true)⟩,
  ⟨some 24, .nilc (.t 23), some (22, true)⟩,
  ⟨some 25, .fa 249 (.t 24) 3, some (22, true)⟩,
  ⟨some 26, .ld 195 (.t 25), some (22, true)⟩,
  ⟨some 27, .len 195 (.t 26), some (22, true)⟩,
  ⟨some 28, .bn .eql 3 (.t 27) (.c (.int .i64 0)), some (22, true)⟩,
  ro 29 (.pick (.t 22) (.t 28) (.c (.bool false))),
  ro 2 (.asg (.t 29))] (some [2])) .ret
def c275_19 : SC := .seq (.reg [ro 32 (.mv (.t 0)),
  ro 33 (.nilc (.t 32)),
  ro 34 (.fa 249 (.t 33) 1),
  ro 35 (.ld 2 (.t 34)),
  ro 36 (.bn .eql 2 (.t 35) (.c (.int .i64 0))),
  ro 2 (.asg (.t 36))] (some [2])) .ret
def c275_25 : SC := .seq (.reg [ro 39 (.mv (.t 0)),
  ro 40 (.nilc (.t 39)),
  ro 41 (.fa 249 (.t 40) 1),
  ro 42 (.ld 2 (.t 41)),
  ro 43 (.bn .eql 2 (.t 42) (.c (.int .i64 0))),
  ro 44 (.mv (.t 43)),
  ⟨some 45, .mv (.t 0), some (44, true)⟩,
  ⟨some 46, .nilc (.t 45), some (44, true)⟩,
  ⟨some 47, .fa 249 (.t 46) 2, some (44, true)⟩,
  ⟨some 48, .ld 9 (.t 47), some (44, true)⟩,
  ⟨some 49, .bn .eql 9 (.t 48) (.c (.str [])), some (44, true)⟩,
  ro 50 (.pick (.t 44) (.t 49) (.c (.bool false))),
  ro 2 (.asg (.t 50))] (some [2])) .ret
def c275_31 : SC := .seq (.reg [ro 53 (.mv (.t 0)),
  ro 54 (.nilc (.t 53)),
  ro 55 (.fa 249 (.t 54) 2),
  ro 56 (.ld 9 (.t 55)),
  ro 57 (.bn .eql 9 (.t 56) (.c (.str []))),
  ro 58 (.mv (.t 57)),
  ⟨some 59, .mv (.t 0), some (58, true)⟩,
  ⟨some 60, .nilc (.t 59), some (58, true)⟩,
  ⟨some 61, .fa 249 (.t 60) 3, some (58, true)⟩,
  ⟨some 62, .ld 195 (.t 61), some (58, true)⟩,
  ⟨some 63, .len 195 (.t 62), some (58, true)⟩,
  ⟨some 64, .bn .eql 3 (.t 63) (.c (.int .i64 0)), some (58, true)⟩,
  ro 65 (.pick (.t 58) (.t 64) (.c (.bool false))),
  ro 2 (.asg (.t 65))] (some [2])) .ret
def c275_37 : SC := .seq (.reg [ro 68 (.mv (.t 0)),
  ro 69 (.nilc (.t 68)),
  ro 70 (.fa 249 (.t 69) 2),
  ro 71 (.ld 9 (.t 70)),
  ro 72 (.bn .eql 9 (.t 71) (.c (.str []))),
  ro 2 (.asg (.t 72))] (some [2])) .ret
def c275_36 : SC := .cond (.t 66) c275_37 .skip
def c275_34 : SC := .seq (.reg [ro 67 (.bn .eql 2 (.t 6) (.c (.int .i64 5))),
  ro 66 (.asg (.t 67))] (some [0, 66])) c275_36
def c275_30 : SC := .cond (.t 51) c275_31 c275_34
def c275_28 : SC := .seq (.reg [ro 52 (.bn .eql 2 (.t 6) (.c (.int .i64 4))),
  ro 51 (.asg (.t 52))] (some [0, 6, 51])) c275_30
def c275_24 : SC := .cond (.t 37) c275_25 c275_28
def c275_22 : SC := .seq (.reg [ro 38 (.bn .eql 2 (.t 6) (.c (.int .i64 3))),
  ro 37 (.asg (.t 38))] (some [0, 6, 37])) c275_24
def c275_18 : SC := .cond (.t 30) c275_19 c275_22
def c275_16 : SC := .seq (.reg [ro 31 (.bn .eql 2 (.t 6) (.c (.int .i64 1))),
  ro 30 (.asg (.t 31))] (some [0, 6, 30])) c275_18
def c275_12 : SC := .cond (.t 7) c275_13 c275_16
def c275_5 : SC := .block 0 (.seq (.seq (.reg [ro 8 (.bn .eql 2 (.t 6) (.c (.int .i64 0))),
  ro 7 (.asg (.t 8))] (some [0, 6, 7])) c275_9) c275_12)
def c275_41 : SC := .seq (.reg [ro 2 (.asg (.c (.bool false)))] (some [2])) .ret
def c275_2 : SC := .seq (.seq (.reg [ro 3 (.mv (.t 0)),
  ro 4 (.nilc (.t 3)),
  ro 5 (.fa 249 (.t 4) 0),
  ro 6 (.ld 2 (.t 5))] (some [0, 6])) c275_5) c275_41
/-- loop.example/g01075/spec.l05Kind -/
def c275 : SC := .seq (.reg [ro 2 (.asg (.c (.bool false)))] (some [0])) c275_2
theorem s275 : slimC ⟨73, [0]⟩ (Try.f275.body.getD .skip) = some c275.strip := by kernel_rfl

def c143_10 : SC := .cond (.t 7) .skip (.exit 0)
def c143_16 : SC := .reg [ro 15 (.mv (.t 1)),
  ro 16 (.bn .add 2 (.t 15) (.c (.int .i64 1))),
  ro 1 (.asg (.t 16))] (some [0, 1, 5])
def c143_13 : SC := .block 1 (.seq (.reg [ro 8 (.mv (.t 5)),
  ro 9 (.mv (.t 0)),
  ro 10 (.mv (.t 1)),
  ro 11 (.ia 169 (.t 9) (.t 10)),
  ro 12 (.call (.f 225) [(.t 11)]),
  ro 13 (.bn .sub 2 (.t 12) (.c (.int .i64 1))),
  ro 14 (.bn .add 2 (.t 8) (.t 13)),
  ro 5 (.asg (.t 14))] (some [0, 1, 5])) c143_16)
def c143_7 : SC := .seq (.seq (.reg [ro 6 (.mv (.t 5)),
  ro 7 (.bn .gtr 2 (.t 6) (.c (.int .i64 0)))] (some [0, 1, 5, 7])) c143_10) c143_13
def c143_17 : SC := .seq (.reg [ro 17 (.mv (.t 1)),
  ro 4 (.asg (.t 17))] (some [4])) .ret
def c143_4 : SC := .seq (.block 0 (.loop c143_7)) c143_17
def c143_2 : SC := .seq (.reg [ro 5 (.asg (.c (.int .i64 1)))] (some [0, 1, 5])) c143_4
/-- loop.example/g01075/spec.l05End -/
def c143 : SC := .seq (.reg [ro 4 (.asg (.c (.int .i64 0)))] (some [0, 1])) c143_2
theorem s143 : slimC ⟨18, [0]⟩ (Try.f143.body.getD .skip) = some c143.strip := by kernel_rfl

def c146_12 : SC := .cond (.t 13) .skip (.exit 0)
def c146_20 : SC := .reg [ro 35 (.mv (.t 5)),
  ro 36 (.bn .add 2 (.t 35) (.c (.int .i64 1))),
  ro 5 (.asg (.t 36))] (some [0, 1, 5, 6])
def c146_19 : SC := .cond (.t 34) c146_20 .skip
def c146_22 : SC := .reg [ro 14 (.mv (.t 6)),
  ro 15 (.bn .add 2 (.t 14) (.c (.int .i64 1))),
  ro 6 (.asg (.t 15))] (some [0, 1, 5, 6])
def c146_15 : SC := .seq (.block 1 (.seq (.reg [ro 16 (.mv (.t 0)),
  ro 17 (.nilc (.t 16)),
  ro 18 (.fa 171 (.t 17) 2),
  ro 19 (.ld 169 (.t 18)),
  ro 20 (.mv (.t 6)),
  ro 21 (.ia 169 (.t 19) (.t 20)),
  ro 22 (.fa 249 (.t 21) 0),
  ro 23 (.ld 2 (.t 22)),
  ro 24 (.bn .eql 2 (.t 23) (.c (.int .i64 4))),
  ro 25 (.mv (.t 24)),
  ⟨some 26, .mv (.t 0), some (25, true)⟩,
  ⟨some 27, .nilc (.t 26), some (25, true)⟩,
  ⟨some 28, .fa 171 (.t 27) 2, some (25, true)⟩,
  ⟨some 29, .ld 169 (.t 28), some (25, true)⟩,
  ⟨some 30, .mv (.t 6), some (25, true)⟩,
  ⟨some 31, .call (.f 143) [(.t 29), (.t 30)], some (25, true)⟩,
  ⟨some 32, .mv (.t 1), some (25, true)⟩,
  ⟨some 33, .bn .gtr 2 (.t 31) (.t 32), some (25, true)⟩,
  ro 34 (.pick (.t 25) (.t 33) (.c (.bool false)))] (some [0, 1, 5, 6, 34])) c146_19)) c146_22
def c146_9 : SC := .seq (.seq (.reg [ro 11 (.mv (.t 6)),
  ro 12 (.mv (.t 1)),
  ro 13 (.bn .lss 2 (.t 11) (.t 12))] (some [0, 1, 5, 6, 13])) c146_12) c146_15
def c146_7 : SC := .block 0 (.loop c146_9)
def c146_23 : SC := .seq (.reg [ro 37 (.mv (.t 5)),
  ro 4 (.asg (.t 37))] (some [4])) .ret
def c146_4 : SC := .seq (.seq (.reg [ro 6 (.asg (.c (.int .i64 0)))] (some [0, 1, 5, 6])) c146_7) c146_23
def c146_2 : SC := .seq (.reg [ro 7 (.mv (.t 0)),
  ro 8 (.nilc (.t 7)),
  ro 9 (.fa 171 (.t 8) 1),
  ro 10 (.ld 2 (.t 9)),
  ro 5 (.asg (.t 10))] (some [0, 1, 5])) c146_4
/-- loop.example/g01075/spec.l05Scope -/
def c146 : SC := .seq (.reg [ro 4 (.asg (.c (.int .i64 0)))] (some [0, 1])) c146_2
theorem s146 : slimC ⟨38, [0, 1]⟩ (Try.f146.body.getD .skip) = some c146.strip := by kernel_rfl

def c268_9 : SC := .seq (.reg [ro 11 (.mv (.t 0)),
  ro 12 (.nilc (.t 11)),
  ro 13 (.fa 131 (.t 12) 1),
  ro 14 (.ld 2 (.t 13)),
  ro 15 (.call (.f 130) [(.t 14), (.c (.int .i64 0)), (.c (.int .i64 63))]),
  ro 4 (.asg (.t 15))] (some [4])) .ret
def c268_15 : SC := .seq (.reg [ro 18 (.mv (.t 0)),
  ro 19 (.nilc (.t 18)),
  ro 20 (.fa 131 (.t 19) 1),
  ro 21 (.ld 2 (.t 20)),
  ro 22 (.mv (.t 1)),
  ro 23 (.bn .sub 2 (.t 22) (.c (.int .i64 1))),
  ro 24 (.call (.f 130) [(.t 21), (.c (.int .i64 0)), (.t 23)]),
  ro 4 (.asg (.t 24))] (some [4])) .ret
def c268_21 : SC := .seq (.reg [ro 27 (.mv (.t 0)),
  ro 28 (.nilc (.t 27)),
  ro 29 (.fa 131 (.t 28) 1),
  ro 30 (.ld 2 (.t 29)),
  ro 31 (.call (.f 130) [(.t 30), (.c (.int .i64 0)), (.c (.int .i64 8))]),
  ro 4 (.asg (.t 31))] (some [4])) .ret
def c268_27 : SC := .seq (.reg [ro 34 (.mv (.t 0)),
  ro 35 (.nilc (.t 34)),
  ro 36 (.fa 131 (.t 35) 1),
  ro 37 (.ld 2 (.t 36)),
  ro 38 (.bn .eql 2 (.t 37) (.c (.int .i64 0))),
  ro 4 (.asg (.t 38))] (some [4])) .ret
def c268_26 : SC := .cond (.t 32) c268_27 .skip
def c268_24 : SC := .seq (.reg [ro 33 (.bn .eql 2 (.t 8) (.c (.int .i64 3))),
  ro 32 (.asg (.t 33))] (some [0, 32])) c268_26
def c268_20 : SC := .cond (.t 25) c268_21 c268_24
def c268_18 : SC := .seq (.reg [ro 26 (.bn .eql 2 (.t 8) (.c (.int .i64 2))),
  ro 25 (.asg (.t 26))] (some [0, 8, 25])) c268_20
def c268_14 : SC := .cond (.t 16) c268_15 c268_18
def c268_12 : SC := .seq (.reg [ro 17 (.bn .eql 2 (.t 8) (.c (.int .i64 1))),
  ro 16 (.asg (.t 17))] (some [0, 1, 8, 16])) c268_14
def c268_8 : SC := .cond (.t 9) c268_9 c268_12
def c268_5 : SC := .block 0 (.seq (.reg [ro 10 (.bn .eql 2 (.t 8) (.c (.int .i64 0))),
  ro 9 (.asg (.t 10))] (some [0, 1, 8, 9])) c268_8)
def c268_31 : SC := .seq (.reg [ro 4 (.asg (.c (.bool false)))] (some [4])) .ret
def c268_2 : SC := .seq (.seq (.reg [ro 5 (.mv (.t 0)),
  ro 6 (.nilc (.t 5)),
  ro 7 (.fa 131 (.t 6) 0),
  ro 8 (.ld 2 (.t 7))] (some [0, 1, 8])) c268_5) c268_31
/-- loop.example/g01075/spec.l03Term -/
def c268 : SC := .seq (.reg [ro 4 (.asg (.c (.bool false)))] (some [0, 1])) c268_2
theorem s268 : slimC ⟨39, [0, 1]⟩ (Try.f268.body.getD .skip) = some c268.strip := by kernel_rfl

def c196_9 : SC := .seq (.reg [ro 2 (.asg (.c (.int .i64 2)))] (some [2])) .ret
def c196_15 : SC := .seq (.reg [ro 2 (.asg (.c (.int .i64 1)))] (some [2])) .ret
def c196_14 : SC := .cond (.t 9) c196_15 .skip
def c196_12 : SC := .seq (.reg [ro 10 (.bn .eql 2 (.t 6) (.c (.int .i64 3))),
  ro 9 (.asg (.t 10))] (some [9])) c196_14
def c196_8 : SC := .cond (.t 7) c196_9 c196_12
def c196_5 : SC := .block 0 (.seq (.reg [ro 8 (.bn .eql 2 (.t 6) (.c (.int .i64 2))),
  ro 7 (.asg (.t 8))] (some [6, 7])) c196_8)
def c196_19 : SC := .seq (.reg [ro 2 (.asg (.c (.int .i64 0)))] (some [2])) .ret
def c196_2 : SC := .seq (.seq (.reg [ro 3 (.mv (.t 0)),
  ro 4 (.nilc (.t 3)),
  ro 5 (.fa 131 (.t 4) 0),
  ro 6 (.ld 2 (.t 5))] (some [6])) c196_5) c196_19
/-- loop.example/g01075/spec.l03Arity -/
def c196 : SC := .seq (.reg [ro 2 (.asg (.c (.int .i64 0)))] (some [0])) c196_2
theorem s196 : slimC ⟨11, [0]⟩ (Try.f196.body.getD .skip) = some c196.strip := by kernel_rfl

def c195_6 : SC := .seq (.reg [ro 6 (.asg (.c (.bool false)))] (some [6])) .ret
def c195_5 : SC := .cond (.t 12) c195_6 .skip
def c195_20 : SC := .cond (.t 16) .skip (.exit 0)
def c195_29 : SC := .seq (.reg [ro 6 (.asg (.c (.bool false)))] (some [6])) .ret
def c195_28 : SC := .cond (.t 28) c195_29 .skip
def c195_33 : SC := .reg [ro 29 (.mv (.t 7)),
  ro 30 (.mv (.t 0)),
  ro 31 (.mv (.t 8)),
  ro 32 (.ia 40 (.t 30) (.t 31)),
  ro 33 (.call (.f 196) [(.t 32)]),
  ro 34 (.bn .sub 2 (.t 33) (.c (.int .i64 1))),
  ro 35 (.bn .add 2 (.t 29) (.t 34)),
  ro 7 (.asg (.t 35))] (some [0, 1, 7, 8])
def c195_34 : SC := .reg [ro 17 (.mv (.t 8)),
  ro 18 (.bn .add 3 (.t 17) (.c (.int .i64 1))),
  ro 8 (.asg (.t 18))] (some [0, 1, 7, 8])
def c195_23 : SC := .seq (.block 1 (.seq (.seq (.reg [ro 19 (.mv (.t 7)),
  ro 20 (.bn .eql 2 (.t 19) (.c (.int .i64 0))),
  ro 21 (.mv (.t 20)),
  ⟨some 22, .mv (.t 0), some (21, false)⟩,
  ⟨some 23, .mv (.t 8), some (21, false)⟩,
  ⟨some 24, .ia 40 (.t 22) (.t 23), some (21, false)⟩,
  ⟨some 25, .mv (.t 1), some (21, false)⟩,
  ⟨some 26, .call (.f 268) [(.t 24), (.t 25)], some (21, false)⟩,
  ⟨some 27, .un .not (.t 26), some (21, false)⟩,
  ro 28 (.pick (.t 21) (.c (.bool true)) (.t 27))] (some [0, 1, 7, 8, 28])) c195_28) c195_33)) c195_34
def c195_17 : SC := .seq (.seq (.reg [ro 13 (.mv (.t 8)),
  ro 14 (.mv (.t 0)),
  ro 15 (.len 40 (.t 14)),
  ro 16 (.bn .lss 3 (.t 13) (.t 15))] (some [0, 1, 7, 8, 16])) c195_20) c195_23
def c195_15 : SC := .block 0 (.loop c195_17)
def c195_35 : SC := .seq (.reg [ro 36 (.mv (.t 7)),
  ro 37 (.bn .eql 2 (.t 36) (.c (.int .i64 0))),
  ro 6 (.asg (.t 37))] (some [6])) .ret
def c195_12 : SC := .seq (.seq (.reg [ro 8 (.asg (.c (.int .i64 0)))] (some [0, 1, 7, 8])) c195_15) c195_35
def c195_10 : SC := .seq (.reg [ro 7 (.asg (.c (.int .i64 1)))] (some [0, 1, 7])) c195_12
def c195_2 : SC := .seq (.seq (.reg [ro 9 (.mv (.t 0)),
  ro 10 (.len 40 (.t 9)),
  ro 11 (.mv (.t 2)),
  ro 12 (.bn .gtr 2 (.t 10) (.t 11))] (some [0, 1, 12])) c195_5) c195_10
/-- loop.example/g01075/spec.l03Is -/
def c195 : SC := .seq (.reg [ro 6 (.asg (.c (.bool false)))] (some [0, 1, 2])) c195_2
theorem s195 : slimC ⟨38, [0, 1, 2]⟩ (Try.f195.body.getD .skip) = some c195.strip := by kernel_rfl

def c214_8 : SC := .seq (.reg [ro 6 (.asg (.c (.int .i64 2)))] (some [6])) .ret
def c214_7 : SC := .cond (.t 19) c214_8 .skip
def c214_16 : SC := .seq (.reg [ro 6 (.asg (.c (.int .i64 3)))] (some [6])) .ret
def c214_15 : SC := .cond (.t 28) c214_16 .skip
def c214_24 : SC := .seq (.reg [ro 6 (.asg (.c (.int .i64 4)))] (some [6])) .ret
def c214_23 : SC := .cond (.t 51) c214_24 .skip
def c214_40 : SC := .seq (.reg [ro 6 (.asg (.c (.int .i64 5)))] (some [6])) .ret
def c214_39 : SC := .cond (.t 69) c214_40 .skip
def c214_37 : SC := .seq (.reg [ro 59 (.mv (.t 8)),
  ro 60 (.bn .gtr 2 (.t 59) (.c (.int .i64 2))),
  ro 61 (.mv (.t 60)),
  ⟨some 62, .mv (.t 8), some (61, false)⟩,
  ⟨some 63, .bn .gtr 2 (.t 62) (.c (.int .i64 0)), some (61, false)⟩,
  ⟨some 64, .mv (.t 63), some (61, false)⟩,
  ⟨some 65, .fa 249 (.t 7) 2, some (64, true)⟩,
  ⟨some 66, .ld 9 (.t 65), some (64, true)⟩,
  ⟨some 67, .bn .eql 9 (.t 66) (.c (.str [116, 97, 117])), some (64, true)⟩,
  ⟨some 68, .pick (.t 64) (.t 67) (.c (.bool false)), some (61, false)⟩,
  ro 69 (.pick (.t 61) (.c (.bool true)) (.t 68))] (some [1, 2, 7, 8, 69])) c214_39
def c214_50 : SC := .seq (.reg [ro 6 (.asg (.c (.int .i64 5)))] (some [6])) .ret
def c214_49 : SC := .cond (.t 73) c214_50 .skip
def c214_47 : SC := .seq (.reg [ro 72 (.mv (.t 8)),
  ro 73 (.bn .neq 2 (.t 72) (.c (.int .i64 1)))] (some [1, 2, 7, 8, 73])) c214_49
def c214_60 : SC := .seq (.reg [ro 6 (.asg (.c (.int .i64 5)))] (some [6])) .ret
def c214_59 : SC := .cond (.t 83) c214_60 .skip
def c214_57 : SC := .seq (.reg [ro 76 (.mv (.t 8)),
  ro 77 (.mv (.t 0)),
  ro 78 (.fa 249 (.t 7) 1),
  ro 79 (.ld 2 (.t 78)),
  ro 80 (.ia 62 (.t 77) (.t 79)),
  ro 81 (.fa 171 (.t 80) 1),
  ro 82 (.ld 2 (.t 81)),
  ro 83 (.bn .neq 2 (.t 76) (.t 82))] (some [1, 2, 7, 8, 83])) c214_59
def c214_56 : SC := .cond (.t 74) c214_57 .skip
def c214_54 : SC := .seq (.reg [ro 75 (.bn .eql 2 (.t 56) (.c (.int .i64 5))),
  ro 74 (.asg (.t 75))] (some [0, 1, 2, 7, 8, 74])) c214_56
def c214_46 : SC := .cond (.t 70) c214_47 c214_54
def c214_44 : SC := .seq (.reg [ro 71 (.bn .eql 2 (.t 56) (.c (.int .i64 3))),
  ro 70 (.asg (.t 71))] (some [0, 1, 2, 7, 8, 56, 70])) c214_46
def c214_36 : SC := .cond (.t 57) c214_37 c214_44
def c214_33 : SC := .block 0 (.seq (.reg [ro 58 (.bn .eql 2 (.t 56) (.c (.int .i64 1))),
  ro 57 (.asg (.t 58))] (some [0, 1, 2, 7, 8, 56, 57])) c214_36)
def c214_69 : SC := .seq (.reg [ro 6 (.asg (.c (.int .i64 6)))] (some [6])) .ret
def c214_68 : SC := .cond (.t 102) c214_69 .skip
def c214_79 : SC := .seq (.reg [ro 6 (.asg (.c (.int .i64 7)))] (some [6])) .ret
def c214_78 : SC := .cond (.t 112) c214_79 .skip
def c214_91 : SC := .cond (.t 115) .skip (.exit 1)
def c214_99 : SC := .seq (.reg [ro 6 (.asg (.c (.int .i64 8)))] (some [6])) .ret
def c214_98 : SC := .cond (.t 125) c214_99 .skip
def c214_103 : SC := .reg [ro 116 (.mv (.t 10)),
  ro 117 (.bn .add 2 (.t 116) (.c (.int .i64 1))),
  ro 10 (.asg (.t 117))] (some [7, 8, 9, 10])
def c214_94 : SC := .seq (.block 2 (.seq (.reg [ro 118 (.fa 249 (.t 7) 3),
  ro 119 (.ld 195 (.t 118)),
  ro 120 (.mv (.t 10)),
  ro 121 (.ia 195 (.t 119) (.t 120)),
  ro 122 (.ld 40 (.t 121)),
  ro 123 (.mv (.t 9)),
  ro 124 (.call (.f 195) [(.t 122), (.t 123), (.c (.int .i64 15))]),
  ro 125 (.un .not (.t 124))] (some [7, 8, 9, 10, 125])) c214_98)) c214_103
def c214_88 : SC := .seq (.seq (.reg [ro 113 (.mv (.t 10)),
  ro 114 (.mv (.t 8)),
  ro 115 (.bn .lss 2 (.t 113) (.t 114))] (some [7, 8, 9, 10, 115])) c214_91) c214_94
def c214_86 : SC := .block 1 (.loop c214_88)
def c214_104 : SC := .seq (.reg [ro 6 (.asg (.c (.int .i64 0)))] (some [6])) .ret
def c214_83 : SC := .seq (.seq (.reg [ro 10 (.asg (.c (.int .i64 0)))] (some [7, 8, 9, 10])) c214_86) c214_104
def c214_75 : SC := .seq (.seq (.reg [ro 106 (.fa 249 (.t 7) 0),
  ro 107 (.ld 2 (.t 106)),
  ro 108 (.bn .eql 2 (.t 107) (.c (.int .i64 4))),
  ro 109 (.mv (.t 108)),
  ⟨some 110, .mv (.t 9), some (109, true)⟩,
  ⟨some 111, .bn .geq 2 (.t 110) (.c (.int .i64 6)), some (109, true)⟩,
  ro 112 (.pick (.t 109) (.t 111) (.c (.bool false)))] (some [7, 8, 9, 112])) c214_78) c214_83
def c214_73 : SC := .seq (.reg [ro 103 (.mv (.t 1)),
  ro 104 (.mv (.t 2)),
  ro 105 (.call (.f 146) [(.t 103), (.t 104)]),
  ro 9 (.asg (.t 105))] (some [7, 8, 9])) c214_75
def c214_65 : SC := .seq (.seq (.reg [ro 84 (.fa 249 (.t 7) 0),
  ro 85 (.ld 2 (.t 84)),
  ro 86 (.bn .eql 2 (.t 85) (.c (.int .i64 5))),
  ro 87 (.mv (.t 86)),
  ⟨some 88, .mv (.t 2), some (87, true)⟩,
  ⟨some 89, .bn .eql 2 (.t 88) (.c (.int .i64 0)), some (87, true)⟩,
  ⟨some 90, .mv (.t 89), some (87, true)⟩,
  ⟨some 91, .mv (.t 1), some (90, false)⟩,
  ⟨some 92, .nilc (.t 91), some (90, false)⟩,
  ⟨some 93, .fa 171 (.t 92) 2, some (90, false)⟩,
  ⟨some 94, .ld 169 (.t 93), some (90, false)⟩,
  ⟨some 95, .mv (.t 2), some (90, false)⟩,
  ⟨some 96, .bn .sub 2 (.t 95) (.c (.int .i64 1)), some (90, false)⟩,
  ⟨some 97, .ia 169 (.t 94) (.t 96), some (90, false)⟩,
  ⟨some 98, .fa 249 (.t 97) 0, some (90, false)⟩,
  ⟨some 99, .ld 2 (.t 98), some (90, false)⟩,
  ⟨some 100, .bn .neq 2 (.t 99) (.c (.int .i64 1)), some (90, false)⟩,
  ⟨some 101, .pick (.t 90) (.c (.bool true)) (.t 100), some (87, true)⟩,
  ro 102 (.pick (.t 87) (.t 101) (.c (.bool false)))] (some [1, 2, 7, 8, 102])) c214_68) c214_73
def c214_30 : SC := .seq (.seq (.reg [ro 55 (.fa 249 (.t 7) 0),
  ro 56 (.ld 2 (.t 55))] (some [0, 1, 2, 7, 8, 56])) c214_33) c214_65
def c214_28 : SC := .seq (.reg [ro 52 (.fa 249 (.t 7) 3),
  ro 53 (.ld 195 (.t 52)),
  ro 54 (.len 195 (.t 53)),
  ro 8 (.asg (.t 54))] (some [0, 1, 2, 7, 8])) c214_30
def c214_20 : SC := .seq (.seq (.reg [ro 29 (.fa 249 (.t 7) 0),
  ro 30 (.ld 2 (.t 29)),
  ro 31 (.bn .eql 2 (.t 30) (.c (.int .i64 4))),
  ro 32 (.mv (.t 31)),
  ⟨some 33, .fa 249 (.t 7) 1, some (32, true)⟩,
  ⟨some 34, .ld 2 (.t 33), some (32, true)⟩,
  ⟨some 35, .call (.f 130) [(.t 34), (.c (.int .i64 1)), (.c (.int .i64 7))], some (32, true)⟩,
  ⟨some 36, .un .not (.t 35), some (32, true)⟩,
  ro 37 (.pick (.t 32) (.t 36) (.c (.bool false))),
  ro 38 (.mv (.t 37)),
  ⟨some 39, .fa 249 (.t 7) 0, some (38, false)⟩,
  ⟨some 40, .ld 2 (.t 39), some (38, false)⟩,
  ⟨some 41, .bn .eql 2 (.t 40) (.c (.int .i64 5)), some (38, false)⟩,
  ⟨some 42, .mv (.t 41), some (38, false)⟩,
  ⟨some 43, .fa 249 (.t 7) 1, some (42, true)⟩,
  ⟨some 44, .ld 2 (.t 43), some (42, true)⟩,
  ⟨some 45, .mv (.t 0), some (42, true)⟩,
  ⟨some 46, .len 62 (.t 45), some (42, true)⟩,
  ⟨some 47, .bn .sub 2 (.t 46) (.c (.int .i64 1)), some (42, true)⟩,
  ⟨some 48, .call (.f 130) [(.t 44), (.c (.int .i64 0)), (.t 47)], some (42, true)⟩,
  ⟨some 49, .un .not (.t 48), some (42, true)⟩,
  ⟨some 50, .pick (.t 42) (.t 49) (.c (.bool false)), some (38, false)⟩,
  ro 51 (.pick (.t 38) (.c (.bool true)) (.t 50))] (some [0, 1, 2, 7, 51])) c214_23) c214_28
def c214_12 : SC := .seq (.seq (.reg [ro 20 (.fa 249 (.t 7) 0),
  ro 21 (.ld 2 (.t 20)),
  ro 22 (.bn .eql 2 (.t 21) (.c (.int .i64 1))),
  ro 23 (.mv (.t 22)),
  ⟨some 24, .fa 249 (.t 7) 2, some (23, true)⟩,
  ⟨some 25, .ld 9 (.t 24), some (23, true)⟩,
  ⟨some 26, .call (.f 124) [(.t 25)], some (23, true)⟩,
  ⟨some 27, .un .not (.t 26), some (23, true)⟩,
  ro 28 (.pick (.t 23) (.t 27) (.c (.bool false)))] (some [0, 1, 2, 7, 28])) c214_15) c214_20
def c214_4 : SC := .seq (.seq (.reg [ro 18 (.call (.f 275) [(.t 7)]),
  ro 19 (.un .not (.t 18))] (some [0, 1, 2, 7, 19])) c214_7) c214_12
def c214_2 : SC := .seq (.reg [ro 11 (.mv (.t 1)),
  ro 12 (.nilc (.t 11)),
  ro 13 (.fa 171 (.t 12) 2),
  ro 14 (.ld 169 (.t 13)),
  ro 15 (.mv (.t 2)),
  ro 16 (.ia 169 (.t 14) (.t 15)),
  ro 17 (.ld 249 (.t 16)),
  ro 7 (.alc 249),
  ⟨none, .sto 249 (.t 7) (.t 17), none⟩] (some [0, 1, 2, 7])) c214_4
/-- loop.example/g01075/spec.l05Reason -/
def c214 : SC := .seq (.reg [ro 6 (.asg (.c (.int .i64 0)))] (some [0, 1, 2])) c214_2
theorem s214 : slimC ⟨126, [0, 1, 2]⟩ (Try.f214.body.getD .skip) = some c214.strip := by kernel_rfl

def c131_6 : SC := .seq (.reg [ro 4 (.asg (.c (.int .i64 0))),
  ro 5 (.asg (.c (.int .i64 1)))] (some [4, 5])) .ret
def c131_5 : SC := .cond (.t 13) c131_6 .skip
def c131_18 : SC := .cond (.t 20) .skip (.exit 0)
def c131_28 : SC := .seq (.reg [ro 29 (.mv (.t 6)),
  ro 30 (.mv (.t 7)),
  ro 4 (.asg (.t 29)),
  ro 5 (.asg (.t 30))] (some [4, 5])) .ret
def c131_27 : SC := .cond (.t 28) c131_28 .skip
def c131_25 : SC := .seq (.reg [ro 27 (.mv (.t 7)),
  ro 28 (.bn .gtr 2 (.t 27) (.c (.int .i64 0)))] (some [0, 1, 6, 7, 28])) c131_27
def c131_32 : SC := .reg [ro 21 (.mv (.t 6)),
  ro 22 (.bn .add 2 (.t 21) (.c (.int .i64 1))),
  ro 6 (.asg (.t 22))] (some [0, 1, 6])
def c131_21 : SC := .seq (.block 1 (.seq (.reg [ro 23 (.mv (.t 0)),
  ro 24 (.mv (.t 1)),
  ro 25 (.mv (.t 6)),
  ro 26 (.call (.f 214) [(.t 23), (.t 24), (.t 25)]),
  ro 7 (.asg (.t 26))] (some [0, 1, 6, 7])) c131_25)) c131_32
def c131_15 : SC := .seq (.seq (.reg [ro 14 (.mv (.t 6)),
  ro 15 (.mv (.t 1)),
  ro 16 (.nilc (.t 15)),
  ro 17 (.fa 171 (.t 16) 2),
  ro 18 (.ld 169 (.t 17)),
  ro 19 (.len 169 (.t 18)),
  ro 20 (.bn .lss 2 (.t 14) (.t 19))] (some [0, 1, 6, 20])) c131_18) c131_21
def c131_13 : SC := .block 0 (.loop c131_15)
def c131_33 : SC := .seq (.reg [ro 4 (.asg (.c (.int .i64 0))),
  ro 5 (.asg (.c (.int .i64 0)))] (some [4, 5])) .ret
def c131_10 : SC := .seq (.seq (.reg [ro 6 (.asg (.c (.int .i64 0)))] (some [0, 1, 6])) c131_13) c131_33
def c131_2 : SC := .seq (.seq (.reg [ro 8 (.mv (.t 1)),
  ro 9 (.nilc (.t 8)),
  ro 10 (.fa 171 (.t 9) 2),
  ro 11 (.ld 169 (.t 10)),
  ro 12 (.call (.f 213) [(.t 11)]),
  ro 13 (.un .not (.t 12))] (some [0, 1, 13])) c131_5) c131_10
/-- loop.example/g01075/spec.l05Body -/
def c131 : SC := .seq (.reg [ro 4 (.asg (.c (.int .i64 0))),
  ro 5 (.asg (.c (.int .i64 0)))] (some [0, 1])) c131_2
theorem s131 : slimC ⟨31, [0, 1]⟩ (Try.f131.body.getD .skip) = some c131.strip := by kernel_rfl

def c137_6 : SC := .seq (.reg [ro 2 (.asg (.c (.bool false)))] (some [2])) .ret
def c137_5 : SC := .cond (.t 15) c137_6 .skip
def c137_18 : SC := .cond (.t 19) .skip (.exit 0)
def c137_27 : SC := .seq (.reg [ro 2 (.asg (.c (.bool false)))] (some [2])) .ret
def c137_26 : SC := .cond (.t 37) c137_27 .skip
def c137_38 : SC := .cond (.t 40) .skip (.exit 2)
def c137_46 : SC := .seq (.reg [ro 2 (.asg (.c (.bool false)))] (some [2])) .ret
def c137_45 : SC := .cond (.t 53) c137_46 .skip
def c137_50 : SC := .reg [ro 41 (.mv (.t 4)),
  ro 42 (.bn .add 3 (.t 41) (.c (.int .i64 1))),
  ro 4 (.asg (.t 42))] (some [0, 3, 4])
def c137_41 : SC := .seq (.block 3 (.seq (.drw [ro 43 (.mv (.t 0)),
  ro 44 (.mv (.t 4)),
  ro 45 (.ia 62 (.t 43) (.t 44)),
  ro 46 (.fa 171 (.t 45) 0),
  ro 47 (.ld 9 (.t 46)),
  ro 48 (.mv (.t 0)),
  ro 49 (.mv (.t 3)),
  ro 50 (.ia 62 (.t 48) (.t 49)),
  ro 51 (.fa 171 (.t 50) 0),
  ro 52 (.ld 9 (.t 51)),
  ro 53 (.bn .eql 9 (.t 47) (.t 52))] [[], [], [0, 1], [2], [3], [], [], [5, 6], [7], [8], [4, 9]] (some [0, 3, 4, 53])) c137_45)) c137_50
def c137_35 : SC := .seq (.seq (.reg [ro 38 (.mv (.t 4)),
  ro 39 (.mv (.t 3)),
  ro 40 (.bn .lss 3 (.t 38) (.t 39))] (some [0, 3, 4, 40])) c137_38) c137_41
def c137_33 : SC := .block 2 (.loop c137_35)
def c137_31 : SC := .seq (.reg [ro 4 (.asg (.c (.int .i64 0)))] (some [0, 3, 4])) c137_33
def c137_51 : SC := .reg [ro 20 (.mv (.t 3)),
  ro 21 (.bn .add 3 (.t 20) (.c (.int .i64 1))),
  ro 3 (.asg (.t 21))] (some [0, 3])
def c137_21 : SC := .seq (.block 1 (.seq (.seq (.reg [ro 22 (.mv (.t 0)),
  ro 23 (.mv (.t 3)),
  ro 24 (.ia 62 (.t 22) (.t 23)),
  ro 25 (.fa 171 (.t 24) 0),
  ro 26 (.ld 9 (.t 25)),
  ro 27 (.call (.f 124) [(.t 26)]),
  ro 28 (.un .not (.t 27)),
  ro 29 (.mv (.t 28)),
  ⟨some 30, .mv (.t 0), some (29, false)⟩,
  ⟨some 31, .mv (.t 3), some (29, false)⟩,
  ⟨some 32, .ia 62 (.t 30) (.t 31), some (29, false)⟩,
  ⟨some 33, .fa 171 (.t 32) 1, some (29, false)⟩,
  ⟨some 34, .ld 2 (.t 33), some (29, false)⟩,
  ⟨some 35, .call (.f 130) [(.t 34), (.c (.int .i64 0)), (.c (.int .i64 3))], some (29, false)⟩,
  ⟨some 36, .un .not (.t 35), some (29, false)⟩,
  ro 37 (.pick (.t 29) (.c (.bool true)) (.t 36))] (some [0, 3, 37])) c137_26) c137_31)) c137_51
def c137_15 : SC := .seq (.seq (.reg [ro 16 (.mv (.t 3)),
  ro 17 (.mv (.t 0)),
  ro 18 (.len 62 (.t 17)),
  ro 19 (.bn .lss 3 (.t 16) (.t 18))] (some [0, 3, 19])) c137_18) c137_21
def c137_13 : SC := .block 0 (.loop c137_15)
def c137_60 : SC := .cond (.t 57) .skip (.exit 4)
def c137_70 : SC := .seq (.reg [ro 2 (.asg (.c (.bool false)))] (some [2])) .ret
def c137_69 : SC := .cond (.t 69) c137_70 .skip
def c137_67 : SC := .seq (.reg [ro 68 (.mv (.t 7)),
  ro 69 (.bn .gtr 2 (.t 68) (.c (.int .i64 0)))] (some [0, 5, 69])) c137_69
def c137_74 : SC := .reg [ro 58 (.mv (.t 5)),
  ro 59 (.bn .add 3 (.t 58) (.c (.int .i64 1))),
  ro 5 (.asg (.t 59))] (some [0, 5])
def c137_63 : SC := .seq (.block 5 (.seq (.reg [ro 61 (.mv (.t 0)),
  ro 62 (.mv (.t 0)),
  ro 63 (.mv (.t 5)),
  ro 64 (.ia 62 (.t 62) (.t 63)),
  ro 65 (.call (.f 131) [(.t 61), (.t 64)]),
  ro 60 (.mv (.t 65)),
  ro 66 (.ex (.t 60) 0),
  ro 67 (.ex (.t 60) 1),
  ro 6 (.asg (.t 66)),
  ro 7 (.asg (.t 67))] (some [0, 5, 7])) c137_67)) c137_74
def c137_57 : SC := .seq (.seq (.reg [ro 54 (.mv (.t 5)),
  ro 55 (.mv (.t 0)),
  ro 56 (.len 62 (.t 55)),
  ro 57 (.bn .lss 3 (.t 54) (.t 56))] (some [0, 5, 57])) c137_60) c137_63
def c137_55 : SC := .block 4 (.loop c137_57)
def c137_75 : SC := .seq (.reg [ro 2 (.asg (.c (.bool true)))] (some [2])) .ret
def c137_52 : SC := .seq (.seq (.reg [ro 5 (.asg (.c (.int .i64 0)))] (some [0, 5])) c137_55) c137_75
def c137_10 : SC := .seq (.seq (.reg [ro 3 (.asg (.c (.int .i64 0)))] (some [0, 3])) c137_13) c137_52
def c137_2 : SC := .seq (.seq (.reg [ro 8 (.mv (.t 0)),
  ro 9 (.len 62 (.t 8)),
  ro 10 (.bn .eql 3 (.t 9) (.c (.int .i64 0))),
  ro 11 (.mv (.t 10)),
  ⟨some 12, .mv (.t 0), some (11, false)⟩,
  ⟨some 13, .len 62 (.t 12), some (11, false)⟩,
  ⟨some 14, .bn .gtr 3 (.t 13) (.c (.int .i64 4)), some (11, false)⟩,
  ro 15 (.pick (.t 11) (.c (.bool true)) (.t 14))] (some [0, 15])) c137_5) c137_10
/-- loop.example/g01075/spec.l05Defs -/
def c137 : SC := .seq (.reg [ro 2 (.asg (.c (.bool false)))] (some [0])) c137_2
theorem s137 : slimC ⟨70, [0]⟩ (Try.f137.body.getD .skip) = some c137.strip := by kernel_rfl

def c228_10 : SC := .cond (.t 7) .skip (.exit 0)
def c228_18 : SC := .seq (.reg [ro 2 (.asg (.c (.bool false)))] (some [2])) .ret
def c228_17 : SC := .cond (.t 15) c228_18 .skip
def c228_22 : SC := .reg [ro 8 (.mv (.t 3)),
  ro 9 (.bn .add 3 (.t 8) (.c (.int .i64 1))),
  ro 3 (.asg (.t 9))] (some [0, 3])
def c228_13 : SC := .seq (.block 1 (.seq (.reg [ro 10 (.mv (.t 0)),
  ro 11 (.mv (.t 3)),
  ro 12 (.ia 68 (.t 10) (.t 11)),
  ro 13 (.ld 2 (.t 12)),
  ro 14 (.call (.f 130) [(.t 13), (.c (.int .i64 0)), (.c (.int .i64 63))]),
  ro 15 (.un .not (.t 14))] (some [0, 3, 15])) c228_17)) c228_22
def c228_7 : SC := .seq (.seq (.reg [ro 4 (.mv (.t 3)),
  ro 5 (.mv (.t 0)),
  ro 6 (.len 68 (.t 5)),
  ro 7 (.bn .lss 3 (.t 4) (.t 6))] (some [0, 3, 7])) c228_10) c228_13
def c228_5 : SC := .block 0 (.loop c228_7)
def c228_23 : SC := .seq (.reg [ro 2 (.asg (.c (.bool true)))] (some [2])) .ret
def c228_2 : SC := .seq (.seq (.reg [ro 3 (.asg (.c (.int .i64 0)))] (some [0, 3])) c228_5) c228_23
/-- loop.example/g01075/spec.l03Data -/
def c228 : SC := .seq (.reg [ro 2 (.asg (.c (.bool false)))] (some [0])) c228_2
theorem s228 : slimC ⟨16, [0]⟩ (Try.f228.body.getD .skip) = some c228.strip := by kernel_rfl

def c149_6 : SC := .seq (.reg [ro 4 (.asg (.c (.bool false)))] (some [4])) .ret
def c149_5 : SC := .cond (.t 14) c149_6 .skip
def c149_16 : SC := .seq (.reg [ro 4 (.asg (.c (.bool false)))] (some [4])) .ret
def c149_15 : SC := .cond (.t 43) c149_16 .skip
def c149_20 : SC := .seq (.drw [ro 44 (.mv (.t 1)),
  ro 45 (.nilc (.t 44)),
  ro 46 (.fa 80 (.t 45) 2),
  ro 47 (.ld 68 (.t 46)),
  ro 48 (.len 68 (.t 47)),
  ro 49 (.mv (.t 1)),
  ro 50 (.nilc (.t 49)),
  ro 51 (.fa 80 (.t 50) 1),
  ro 52 (.ld 2 (.t 51)),
  ro 53 (.call (.f 146) [(.t 5), (.t 52)]),
  ro 54 (.bn .eql 2 (.t 48) (.t 53)),
  ro 55 (.mv (.t 54)),
  ⟨some 56, .mv (.t 1), some (55, true)⟩,
  ⟨some 57, .nilc (.t 56), some (55, true)⟩,
  ⟨some 58, .fa 80 (.t 57) 2, some (55, true)⟩,
  ⟨some 59, .ld 68 (.t 58), some (55, true)⟩,
  ⟨some 60, .call (.f 228) [(.t 59)], some (55, true)⟩,
  ro 61 (.pick (.t 55) (.t 60) (.c (.bool false))),
  ro 4 (.asg (.t 61))] [[], [0], [1], [2], [3], [], [5], [6], [7], [8], [4, 9], [10, 9], [11], [12, 11], [13, 11], [14, 11], [15, 11, 11], [11, 16], [17, 16, 0, 1, 2, 3, 4, 5, 6, 7, 8, 9, 10, 11, 12, 13, 14, 15, 16, 17]] (some [4])) .ret
def c149_12 : SC := .seq (.seq (.drw [ro 22 (.mv (.t 1)),
  ro 23 (.nilc (.t 22)),
  ro 24 (.fa 80 (.t 23) 1),
  ro 25 (.ld 2 (.t 24)),
  ro 26 (.fa 171 (.t 5) 2),
  ro 27 (.ld 169 (.t 26)),
  ro 28 (.len 169 (.t 27)),
  ro 29 (.bn .sub 2 (.t 28) (.c (.int .i64 1))),
  ro 30 (.call (.f 130) [(.t 25), (.c (.int .i64 0)), (.t 29)]),
  ro 31 (.un .not (.t 30)),
  ro 32 (.mv (.t 31)),
  ⟨some 33, .fa 171 (.t 5) 2, some (32, false)⟩,
  ⟨some 34, .ld 169 (.t 33), some (32, false)⟩,
  ⟨some 35, .mv (.t 1), some (32, false)⟩,
  ⟨some 36, .nilc (.t 35), some (32, false)⟩,
  ⟨some 37, .fa 80 (.t 36) 1, some (32, false)⟩,
  ⟨some 38, .ld 2 (.t 37), some (32, false)⟩,
  ⟨some 39, .ia 169 (.t 34) (.t 38), some (32, false)⟩,
  ⟨some 40, .fa 249 (.t 39) 0, some (32, false)⟩,
  ⟨some 41, .ld 2 (.t 40), some (32, false)⟩,
  ⟨some 42, .bn .eql 2 (.t 41) (.c (.int .i64 5)), some (32, false)⟩,
  ro 43 (.pick (.t 32) (.c (.bool true)) (.t 42))] [[], [0], [1], [2], [], [4], [5], [6], [3, 7], [8], [9, 8], [10], [11, 10], [10], [13, 10], [14, 10], [15, 10], [12, 16, 10], [17, 10], [18, 10], [19, 10], [10, 20]] (some [1, 5, 43])) c149_15) c149_20
def c149_10 : SC := .seq (.reg [ro 15 (.mv (.t 0)),
  ro 16 (.mv (.t 1)),
  ro 17 (.nilc (.t 16)),
  ro 18 (.fa 80 (.t 17) 0),
  ro 19 (.ld 2 (.t 18)),
  ro 20 (.ia 62 (.t 15) (.t 19)),
  ro 21 (.ld 171 (.t 20)),
  ro 5 (.alc 171),
  ⟨none, .sto 171 (.t 5) (.t 21), none⟩] (some [1, 5])) c149_12
def c149_2 : SC := .seq (.seq (.reg [ro 6 (.mv (.t 1)),
  ro 7 (.nilc (.t 6)),
  ro 8 (.fa 80 (.t 7) 0),
  ro 9 (.ld 2 (.t 8)),
  ro 10 (.mv (.t 0)),
  ro 11 (.len 62 (.t 10)),
  ro 12 (.bn .sub 2 (.t 11) (.c (.int .i64 1))),
  ro 13 (.call (.f 130) [(.t 9), (.c (.int .i64 0)), (.t 12)]),
  ro 14 (.un .not (.t 13))] (some [0, 1, 14])) c149_5) c149_10
/-- loop.example/g01075/spec.l07Is -/
def c149 : SC := .seq (.reg [ro 4 (.asg (.c (.bool false)))] (some [0, 1])) c149_2
theorem s149 : slimC ⟨62, [0, 1]⟩ (Try.f149.body.getD .skip) = some c149.strip := by kernel_rfl

def c68_2 : SC := .seq (.reg [ro 5 (.mv (.t 0)),
  ro 6 (.call (.f 137) [(.t 5)]),
  ro 7 (.mv (.t 6)),
  ⟨some 8, .mv (.t 0), some (7, true)⟩,
  ⟨some 9, .call (.f 149) [(.t 8), (.t 3)], some (7, true)⟩,
  ro 10 (.pick (.t 7) (.t 9) (.c (.bool false))),
  ro 4 (.asg (.t 10))] (some [4])) .ret
/-- loop.example/g01075/spec.ValidPoint -/
def c68 : SC := .seq (.reg [ro 3 (.bx 80 (.t 1)),
  ro 4 (.asg (.c (.bool false)))] (some [0, 3])) c68_2
theorem s68 : slimC ⟨11, [0, 1]⟩ (Try.f68.body.getD .skip) = some c68.strip := by kernel_rfl

def c138_2 : SC := .seq (.reg [ro 7 (.mv (.t 0)),
  ro 8 (.mv (.t 1)),
  ro 9 (.bn .geq 2 (.t 7) (.t 8)),
  ro 10 (.mv (.t 9)),
  ⟨some 11, .mv (.t 0), some (10, true)⟩,
  ⟨some 12, .mv (.t 2), some (10, true)⟩,
  ⟨some 13, .bn .leq 2 (.t 11) (.t 12), some (10, true)⟩,
  ro 14 (.pick (.t 10) (.t 13) (.c (.bool false))),
  ro 6 (.asg (.t 14))] (some [6])) .ret
/-- loop.example/g01075/impl.within -/
def c138 : SC := .seq (.reg [ro 6 (.asg (.c (.bool false)))] (some [0, 1, 2])) c138_2
theorem s138 : slimC ⟨15, [0, 1, 2]⟩ (Try.f138.body.getD .skip) = some c138.strip := by kernel_rfl

def c217_2 : SC := .seq (.reg [ro 3 (.fa 171 (.t 1) 1),
  ro 4 (.ld 2 (.t 3)),
  ro 5 (.call (.f 138) [(.t 4), (.c (.int .i64 0)), (.c (.int .i64 3))]),
  ro 6 (.un .not (.t 5)),
  ro 2 (.asg (.t 6))] (some [2])) .ret
/-- loop.example/g01075/impl.parametersOk$1 -/
def c217 : SC := .seq (.reg [ro 1 (.bx 171 (.t 0)),
  ro 2 (.asg (.c (.bool false)))] (some [1])) c217_2
theorem s217 : slimC ⟨7, [0]⟩ (Try.f217.body.getD .skip) = some c217.strip := by kernel_rfl

def c220_20 : SC := .seq (.reg [ro 17 (.mv (.t 5)),
  ro 4 (.asg (.t 17))] (some [4])) .ret
def c220_19 : SC := .cond (.t 16) c220_20 .skip
def c220_17 : SC := .seq (.reg [ro 11 (.mv (.t 1)),
  ro 12 (.mv (.t 0)),
  ro 13 (.mv (.t 5)),
  ro 14 (.ia 62 (.t 12) (.t 13)),
  ro 15 (.ld 171 (.t 14)),
  ro 16 (.call (.t 11) [(.t 15)])] (some [0, 1, 5, 7, 8, 16])) c220_19
def c220_24 : SC := .reg [ro 18 (.bn .add 3 (.t 8) (.c (.int .i64 1))),
  ro 8 (.mv (.t 18))] (some [0, 1, 7, 8])
def c220_13 : SC := .seq (.block 1 (.seq (.reg [ro 10 (.mv (.t 8)),
  ro 5 (.asg (.t 10))] (some [0, 1, 5, 7, 8])) c220_17)) c220_24
def c220_9 : SC := .seq (.cond (.t 9) .skip (.exit 0)) c220_13
def c220_7 : SC := .seq (.reg [ro 9 (.bn .lss 3 (.t 8) (.t 7))] (some [0, 1, 7, 8, 9])) c220_9
def c220_5 : SC := .block 0 (.loop c220_7)
def c220_25 : SC := .seq (.reg [ro 4 (.asg (.c (.int .i64 (-1))))] (some [4])) .ret
def c220_2 : SC := .seq (.seq (.reg [ro 6 (.mv (.t 0)),
  ro 7 (.len 62 (.t 6)),
  ro 8 (.mv (.c (.int .i64 0)))] (some [0, 1, 7, 8])) c220_5) c220_25
/-- slices.IndexFunc[[]loop.example/g01075/impl.Definition,loop.example/g01075/impl.Definition] -/
def c220 : SC := .seq (.reg [ro 4 (.asg (.c (.int .i64 0)))] (some [0, 1])) c220_2
theorem s220 : slimC ⟨19, [0, 1]⟩ (Try.f220.body.getD .skip) = some c220.strip := by kernel_rfl

def c216_2 : SC := .seq (.reg [ro 5 (.mv (.t 0)),
  ro 6 (.mv (.t 1)),
  ro 7 (.call (.f 220) [(.t 5), (.t 6)]),
  ro 8 (.bn .geq 3 (.t 7) (.c (.int .i64 0))),
  ro 4 (.asg (.t 8))] (some [4])) .ret
/-- slices.ContainsFunc[[]loop.example/g01075/impl.Definition,loop.example/g01075/impl.Definition] -/
def c216 : SC := .seq (.reg [ro 4 (.asg (.c (.bool false)))] (some [0, 1])) c216_2
theorem s216 : slimC ⟨9, [0, 1]⟩ (Try.f216.body.getD .skip) = some c216.strip := by kernel_rfl

def c134_2 : SC := .seq (.reg [ro 3 (.mv (.t 0)),
  ro 4 (.call (.f 216) [(.t 3), (.f 217)]),
  ro 5 (.un .not (.t 4)),
  ro 2 (.asg (.t 5))] (some [2])) .ret
/-- loop.example/g01075/impl.parametersOk -/
def c134 : SC := .seq (.reg [ro 2 (.asg (.c (.bool false)))] (some [0])) c134_2
theorem s134 : slimC ⟨6, [0]⟩ (Try.f134.body.getD .skip) = some c134.strip := by kernel_rfl

def c211_2 : SC := .seq (.reg [ro 3 (.mv (.t 0)),
  ro 4 (.bn .geq 5 (.t 3) (.c (.int .u8 48))),
  ro 5 (.mv (.t 4)),
  ⟨some 6, .mv (.t 0), some (5, true)⟩,
  ⟨some 7, .bn .leq 5 (.t 6) (.c (.int .u8 57)), some (5, true)⟩,
  ro 8 (.pick (.t 5) (.t 7) (.c (.bool false))),
  ro 2 (.asg (.t 8))] (some [2])) .ret
/-- loop.example/g01075/impl.isDigit -/
def c211 : SC := .seq (.reg [ro 2 (.asg (.c (.bool false)))] (some [0])) c211_2
theorem s211 : slimC ⟨9, [0]⟩ (Try.f211.body.getD .skip) = some c211.strip := by kernel_rfl

def c126_22 : SC := .seq (.reg [ro 2 (.asg (.c (.bool false)))] (some [2])) .ret
def c126_21 : SC := .cond (.t 32) c126_22 .skip
def c126_19 : SC := .seq (.reg [ro 20 (.mv (.t 4)),
  ro 21 (.un .not (.t 20)),
  ro 22 (.mv (.t 21)),
  ⟨some 23, .mv (.t 3), some (22, true)⟩,
  ⟨some 24, .bn .eql 3 (.t 23) (.c (.int .i64 0)), some (22, true)⟩,
  ⟨some 25, .mv (.t 24), some (22, true)⟩,
  ⟨some 26, .mv (.t 0), some (25, false)⟩,
  ⟨some 27, .mv (.t 3), some (25, false)⟩,
  ⟨some 28, .idx 9 (.t 26) (.t 27), some (25, false)⟩,
  ⟨some 29, .call (.f 211) [(.t 28)], some (25, false)⟩,
  ⟨some 30, .un .not (.t 29), some (25, false)⟩,
  ⟨some 31, .pick (.t 25) (.c (.bool true)) (.t 30), some (22, true)⟩,
  ro 32 (.pick (.t 22) (.t 31) (.c (.bool false)))] (some [0, 6, 7, 32])) c126_21
def c126_17 : SC := .seq (.reg [ro 10 (.mv (.t 0)),
  ro 11 (.mv (.t 3)),
  ro 12 (.idx 9 (.t 10) (.t 11)),
  ro 13 (.bn .geq 5 (.t 12) (.c (.int .u8 97))),
  ro 14 (.mv (.t 13)),
  ⟨some 15, .mv (.t 0), some (14, true)⟩,
  ⟨some 16, .mv (.t 3), some (14, true)⟩,
  ⟨some 17, .idx 9 (.t 15) (.t 16), some (14, true)⟩,
  ⟨some 18, .bn .leq 5 (.t 17) (.c (.int .u8 122)), some (14, true)⟩,
  ro 19 (.pick (.t 14) (.t 18) (.c (.bool false))),
  ro 4 (.asg (.t 19))] (some [0, 3, 4, 6, 7])) c126_19
def c126_26 : SC := .reg [ro 33 (.bn .add 3 (.t 7) (.c (.int .i64 1))),
  ro 7 (.mv (.t 33))] (some [0, 6, 7])
def c126_13 : SC := .seq (.block 1 (.seq (.reg [ro 9 (.mv (.t 7)),
  ro 3 (.asg (.t 9))] (some [0, 3, 6, 7])) c126_17)) c126_26
def c126_9 : SC := .seq (.cond (.t 8) .skip (.exit 0)) c126_13
def c126_7 : SC := .seq (.reg [ro 8 (.bn .lss 3 (.t 7) (.t 6))] (some [0, 6, 7, 8])) c126_9
def c126_5 : SC := .block 0 (.loop c126_7)
def c126_27 : SC := .seq (.reg [ro 34 (.mv (.t 0)),
  ro 35 (.len 9 (.t 34)),
  ro 36 (.bn .geq 3 (.t 35) (.c (.int .i64 1))),
  ro 37 (.mv (.t 36)),
  ⟨some 38, .mv (.t 0), some (37, true)⟩,
  ⟨some 39, .len 9 (.t 38), some (37, true)⟩,
  ⟨some 40, .bn .leq 3 (.t 39) (.c (.int .i64 10)), some (37, true)⟩,
  ro 41 (.pick (.t 37) (.t 40) (.c (.bool false))),
  ro 2 (.asg (.t 41))] (some [2])) .ret
def c126_2 : SC := .seq (.seq (.reg [ro 5 (.mv (.t 0)),
  ro 6 (.len 9 (.t 5)),
  ro 7 (.mv (.c (.int .i64 0)))] (some [0, 6, 7])) c126_5) c126_27
/-- loop.example/g01075/impl.IsName -/
def c126 : SC := .seq (.reg [ro 2 (.asg (.c (.bool false)))] (some [0])) c126_2
theorem s126 : slimC ⟨42, [0]⟩ (Try.f126.body.getD .skip) = some c126.strip := by kernel_rfl

def c221_2 : SC := .seq (.reg [ro 4 (.fa 171 (.t 2) 0),
  ro 5 (.ld 9 (.t 4)),
  ro 6 (.ld 9 (.t 1)),
  ro 7 (.bn .eql 9 (.t 5) (.t 6)),
  ro 3 (.asg (.t 7))] (some [3])) .ret
/-- loop.example/g01075/impl.definitionNamed$1 -/
def c221 : SC := .seq (.reg [ro 2 (.bx 171 (.t 0)),
  ro 3 (.asg (.c (.bool false)))] (some [1, 2])) c221_2
theorem s221 : slimC ⟨8, [0, 1]⟩ (Try.f221.body.getD .skip) = some c221.strip := by kernel_rfl

def c220v2_20 : SC := .seq (.reg [ro 17 (.mv (.t 5)),
  ro 4 (.asg (.t 17))] (some [4])) .ret
def c220v2_19 : SC := .cond (.t 16) c220v2_20 .skip
def c220v2_17 : SC := .seq (.reg [ro 11 (.mv (.t 1)),
  ro 12 (.mv (.t 0)),
  ro 13 (.mv (.t 5)),
  ro 14 (.ia 62 (.t 12) (.t 13)),
  ro 15 (.ld 171 (.t 14)),
  ro 16 (.call (.t 11) [(.t 15)])] (some [0, 1, 5, 7, 8, 16])) c220v2_19
def c220v2_24 : SC := .reg [ro 18 (.bn .add 3 (.t 8) (.c (.int .i64 1))),
  ro 8 (.mv (.t 18))] (some [0, 1, 7, 8])
def c220v2_13 : SC := .seq (.block 1 (.seq (.reg [ro 10 (.mv (.t 8)),
  ro 5 (.asg (.t 10))] (some [0, 1, 5, 7, 8])) c220v2_17)) c220v2_24
def c220v2_9 : SC := .seq (.cond (.t 9) .skip (.exit 0)) c220v2_13
def c220v2_7 : SC := .seq (.reg [ro 9 (.bn .lss 3 (.t 8) (.t 7))] (some [0, 1, 7, 8, 9])) c220v2_9
def c220v2_5 : SC := .block 0 (.loop c220v2_7)
def c220v2_25 : SC := .seq (.reg [ro 4 (.asg (.c (.int .i64 (-1))))] (some [4])) .ret
def c220v2_2 : SC := .seq (.seq (.reg [ro 6 (.mv (.t 0)),
  ro 7 (.len 62 (.t 6)),
  ro 8 (.mv (.c (.int .i64 0)))] (some [0, 1, 7, 8])) c220v2_5) c220v2_25
/-- slices.IndexFunc[[]loop.example/g01075/impl.Definition,loop.example/g01075/impl.Definition] -/
def c220v2 : SC := .seq (.reg [ro 4 (.asg (.c (.int .i64 0)))] (some [0, 1])) c220v2_2
theorem s220v2 : slimC ⟨19, [0, 1]⟩ (Try.f220.body.getD .skip) = some c220v2.strip := by kernel_rfl

def c139_2 : SC := .seq (.reg [ro 5 (.mv (.t 0)),
  ro 6 (.mkf 221 [(.t 3)]),
  ro 7 (.call (.f 220) [(.t 5), (.t 6)]),
  ro 4 (.asg (.t 7))] (some [4])) .ret
/-- loop.example/g01075/impl.definitionNamed -/
def c139 : SC := .seq (.reg [ro 3 (.bx 9 (.t 1)),
  ro 4 (.asg (.c (.int .i64 0)))] (some [0, 3])) c139_2
theorem s139 : slimC ⟨8, [0, 1]⟩ (Try.f139.body.getD .skip) = some c139.strip := by kernel_rfl

def c226_15 : SC := .reg [ro 8 (.bn .eql 2 (.t 4) (.c (.int .i64 4))),
  ro 5 (.asg (.t 8))] (some [4, 5])
def c226_13 : SC := .cond (.t 5) .skip c226_15
def c226_11 : SC := .seq (.reg [ro 7 (.bn .eql 2 (.t 4) (.c (.int .i64 3))),
  ro 5 (.asg (.t 7))] (some [4, 5])) c226_13
def c226_9 : SC := .cond (.t 5) .skip c226_11
def c226_17 : SC := .seq (.reg [ro 2 (.asg (.c (.int .i64 1)))] (some [2])) .ret
def c226_23 : SC := .seq (.reg [ro 2 (.asg (.c (.int .i64 2)))] (some [2])) .ret
def c226_22 : SC := .cond (.t 9) c226_23 .skip
def c226_20 : SC := .seq (.reg [ro 10 (.bn .eql 2 (.t 4) (.c (.int .i64 2))),
  ro 9 (.asg (.t 10))] (some [9])) c226_22
def c226_16 : SC := .cond (.t 5) c226_17 c226_20
def c226_5 : SC := .block 0 (.seq (.seq (.reg [ro 6 (.bn .eql 2 (.t 4) (.c (.int .i64 1))),
  ro 5 (.asg (.t 6))] (some [4, 5])) c226_9) c226_16)
def c226_27 : SC := .seq (.reg [ro 2 (.asg (.c (.int .i64 0)))] (some [2])) .ret
def c226_2 : SC := .seq (.seq (.reg [ro 3 (.fa 249 (.t 1) 0),
  ro 4 (.ld 2 (.t 3))] (some [4])) c226_5) c226_27
/-- (loop.example/g01075/impl.Part).follow -/
def c226 : SC := .seq (.reg [ro 1 (.bx 249 (.t 0)),
  ro 2 (.asg (.c (.int .i64 0)))] (some [1])) c226_2
theorem s226 : slimC ⟨11, [0]⟩ (Try.f226.body.getD .skip) = some c226.strip := by kernel_rfl

def c145_10 : SC := .cond (.t 7) .skip (.exit 0)
def c145_19 : SC := .seq (.reg [ro 4 (.asg (.c (.int .i64 (-1))))] (some [4])) .ret
def c145_18 : SC := .cond (.t 14) c145_19 .skip
def c145_23 : SC := .reg [ro 15 (.mv (.t 5)),
  ro 16 (.fa 171 (.t 2) 2),
  ro 17 (.ld 169 (.t 16)),
  ro 18 (.mv (.t 1)),
  ro 19 (.ia 169 (.t 17) (.t 18)),
  ro 20 (.ld 249 (.t 19)),
  ro 21 (.call (.f 226) [(.t 20)]),
  ro 22 (.bn .sub 3 (.t 21) (.c (.int .i64 1))),
  ro 23 (.bn .add 3 (.t 15) (.t 22)),
  ro 5 (.asg (.t 23))] (some [1, 2, 5])
def c145_24 : SC := .reg [ro 8 (.mv (.t 1)),
  ro 9 (.bn .add 3 (.t 8) (.c (.int .i64 1))),
  ro 1 (.asg (.t 9))] (some [1, 2, 5])
def c145_13 : SC := .seq (.block 1 (.seq (.seq (.reg [ro 10 (.mv (.t 1)),
  ro 11 (.fa 171 (.t 2) 2),
  ro 12 (.ld 169 (.t 11)),
  ro 13 (.len 169 (.t 12)),
  ro 14 (.bn .geq 3 (.t 10) (.t 13))] (some [1, 2, 5, 14])) c145_18) c145_23)) c145_24
def c145_7 : SC := .seq (.seq (.reg [ro 6 (.mv (.t 5)),
  ro 7 (.bn .gtr 3 (.t 6) (.c (.int .i64 0)))] (some [1, 2, 5, 7])) c145_10) c145_13
def c145_5 : SC := .block 0 (.loop c145_7)
def c145_25 : SC := .seq (.reg [ro 24 (.mv (.t 1)),
  ro 4 (.asg (.t 24))] (some [4])) .ret
def c145_2 : SC := .seq (.seq (.reg [ro 5 (.asg (.c (.int .i64 1)))] (some [1, 2, 5])) c145_5) c145_25
/-- (loop.example/g01075/impl.Definition).end -/
def c145 : SC := .seq (.reg [ro 2 (.bx 171 (.t 0)),
  ro 4 (.asg (.c (.int .i64 0)))] (some [1, 2])) c145_2
theorem s145 : slimC ⟨25, [0]⟩ (Try.f145.body.getD .skip) = some c145.strip := by kernel_rfl

def c227_12 : SC := .reg [ro 29 (.fa 185 (.t 9) 0),
  ro 30 (.ld 2 (.t 29)),
  ro 31 (.bn .add 2 (.t 30) (.c (.int .i64 1))),
  ro 32 (.fa 185 (.t 9) 0),
  ⟨none, .sto 2 (.t 32) (.t 31), none⟩] (some [0, 2, 3, 4, 8, 9])
def c227_11 : SC := .cond (.t 28) c227_12 .skip
def c227_30 : SC := .reg [ro 43 (.bn .add 3 (.t 37) (.c (.int .i64 1))),
  ro 37 (.mv (.t 43))] (some [2, 3, 4, 9, 10, 36, 37])
def c227_27 : SC := .seq (.block 1 (.cus (selfT Cc 227 4 2 39 ((List.range 3).map (· + 2)) [ro 40 (.mv (.t 10)), ro 41 (.ld 185 (.t 9))] [(.t 40), (.t 41)] (some 42) [ro 10 (.asg (.t 42))] [2, 3, 4, 9, 10, 36, 37]) (selfB 258 4 39 [ro 40 (.mv (.t 10)), ro 41 (.ld 185 (.t 9))] [(.t 40), (.t 41)] (some 42) [ro 10 (.asg (.t 42))]))) c227_30
def c227_23 : SC := .seq (.cond (.t 38) .skip (.exit 0)) c227_27
def c227_21 : SC := .seq (.reg [ro 38 (.bn .lss 3 (.t 37) (.t 36))] (some [2, 3, 4, 9, 10, 36, 37, 38])) c227_23
def c227_19 : SC := .block 0 (.loop c227_21)
def c227_31 : SC := .seq (.reg [ro 44 (.mv (.t 10)),
  ro 7 (.asg (.t 44))] (some [2, 3, 4, 7])) .ret
def c227_16 : SC := .seq (.seq (.reg [ro 35 (.ld 249 (.t 8)),
  ro 36 (.call (.f 226) [(.t 35)]),
  ro 37 (.mv (.c (.int .i64 0)))] (some [2, 3, 4, 9, 10, 36, 37])) c227_19) c227_31
def c227_14 : SC := .seq (.reg [ro 33 (.mv (.t 0)),
  ro 34 (.bn .add 3 (.t 33) (.c (.int .i64 1))),
  ro 10 (.asg (.t 34))] (some [2, 3, 4, 8, 9, 10])) c227_16
def c227_8 : SC := .seq (.seq (.reg [ro 26 (.fa 249 (.t 8) 0),
  ro 27 (.ld 2 (.t 26)),
  ro 28 (.bn .eql 2 (.t 27) (.c (.int .i64 4)))] (some [0, 2, 3, 4, 8, 9, 28])) c227_11) c227_14
def c227_6 : SC := .seq (.reg [ro 20 (.fa 185 (.t 6) 0),
  ro 21 (.ld 2 (.t 20)),
  ro 22 (.fa 249 (.t 8) 0),
  ro 23 (.ld 2 (.t 22)),
  ro 24 (.bn .eql 2 (.t 23) (.c (.int .i64 1))),
  ro 25 (.bld 185 [(0, (.t 21)), (1, (.t 24))]),
  ro 9 (.alc 185),
  ⟨none, .sto 185 (.t 9) (.t 25), none⟩] (some [0, 2, 3, 4, 8, 9])) c227_8
def c227_4 : SC := .seq (.reg [ro 15 (.fa 171 (.t 3) 2),
  ro 16 (.ld 169 (.t 15)),
  ro 17 (.mv (.t 0)),
  ro 18 (.ia 169 (.t 16) (.t 17)),
  ro 19 (.ld 249 (.t 18)),
  ro 8 (.alc 249),
  ⟨none, .sto 249 (.t 8) (.t 19), none⟩] (some [0, 2, 3, 4, 6, 8])) c227_6
def c227_2 : SC := .seq (.reg [ro 11 (.ld 186 (.t 2)),
  ro 12 (.mv (.t 0)),
  ro 13 (.ld 185 (.t 6)),
  ro 14 (.ia 186 (.t 11) (.t 12)),
  ⟨none, .sto 185 (.t 14) (.t 13), none⟩] (some [0, 2, 3, 4, 6])) c227_4
/-- (loop.example/g01075/impl.Definition).places$1 -/
def c227 : SC := .seq (.reg [ro 6 (.bx 185 (.t 1)),
  ro 7 (.asg (.c (.int .i64 0)))] (some [0, 2, 3, 4, 6])) c227_2
theorem hk227 : c227.hook (SelfOk Cc 227 [0, 1, 2, 3, 4] 5 2 4) := And.intro (True.intro) (And.intro (True.intro) (And.intro (True.intro) (And.intro (True.intro) (And.intro (And.intro (True.intro) (And.intro (True.intro) (True.intro))) (And.intro (True.intro) (And.intro (And.intro (True.intro) (And.intro (True.intro) (And.intro (And.intro (True.intro) (True.intro)) (And.intro (⟨258, 2, 39, 3, _, _, _, _, _, rfl, rfl, (by kernel_rfl), rfl, rfl, rfl, rfl, rfl, rfl, rfl⟩) (True.intro))))) (And.intro (True.intro) (True.intro))))))))
theorem s227 : slimC ⟨45, [0, 1, 2, 3, 4]⟩ (Try.f227.body.getD .skip) = some c227.strip := by kernel_rfl

def c147_10 : SC := .seq (.reg [ro 15 (.ld 186 (.t 3)),
  ro 2 (.asg (.t 15))] (some [2])) .ret
def c147_8 : SC := .seq (.reg [ro 10 (.ld 258 (.t 4)),
  ro 11 (.fa 171 (.t 1) 1),
  ro 12 (.ld 2 (.t 11)),
  ro 13 (.bld 185 [(0, (.t 12))]),
  ro 14 (.call (.t 10) [(.c (.int .i64 0)), (.t 13)])] (some [3])) c147_10
def c147_6 : SC := .seq (.reg [ro 9 (.mkf 227 [(.t 3), (.t 1), (.t 4)]),
  ⟨none, .sto 258 (.t 4) (.t 9), none⟩] (some [1, 3, 4])) c147_8
def c147_4 : SC := .cus (tailT Cc 227 4 2 10 9 [3, 1, 4] [ro 11 (.fa 171 (.t 1) 1), ro 12 (.ld 2 (.t 11)), ro 13 (.bld 185 [(0, (.t 12))])] [(.c (.int .i64 0)), (.t 13)] (some 14) [3] c147_10) (tailB 258 227 4 10 9 [3, 1, 4] [ro 11 (.fa 171 (.t 1) 1), ro 12 (.ld 2 (.t 11)), ro 13 (.bld 185 [(0, (.t 12))])] [(.c (.int .i64 0)), (.t 13)] (some 14) c147_10.unkeep)
def c147_2 : SC := .seq (.reg [ro 5 (.fa 171 (.t 1) 2),
  ro 6 (.ld 169 (.t 5)),
  ro 7 (.len 169 (.t 6)),
  ro 8 (.mks 186 (.t 7) (.t 7)),
  ro 3 (.alc 186),
  ⟨none, .sto 186 (.t 3) (.t 8), none⟩] (some [1, 3])) c147_4
/-- (loop.example/g01075/impl.Definition).places -/
def c147 : SC := .seq (.reg [ro 1 (.bx 171 (.t 0)),
  ro 2 (.asg (.c .nils))] (some [1])) c147_2
theorem hk147 : c147.hook (TailOk Cc) := And.intro (True.intro) (And.intro (True.intro) (⟨258, 227, 4, 2, 10, 9, _, _, _, _, _, _, rfl, rfl, (by kernel_rfl), ⟨Try.t258, _, _, (by kernel_rfl), rfl, rfl, rfl, rfl⟩, rfl, rfl, rfl, rfl, (by kernel_rfl)⟩))
theorem s147 : slimC ⟨16, [0]⟩ (Try.f147.body.getD .skip) = some c147.strip := by kernel_rfl

def c277_6 : SC := .seq (.reg [ro 26 (.fa 249 (.t 1) 0),
  ro 27 (.ld 2 (.t 26)),
  ro 28 (.call (.f 138) [(.t 27), (.c (.int .i64 0)), (.c (.int .i64 5))]),
  ro 29 (.mv (.t 28)),
  ⟨some 30, .mv (.t 3), some (29, true)⟩,
  ⟨some 31, .mv (.t 30), some (29, true)⟩,
  ⟨some 32, .fa 249 (.t 1) 1, some (31, false)⟩,
  ⟨some 33, .ld 2 (.t 32), some (31, false)⟩,
  ⟨some 34, .bn .eql 2 (.t 33) (.c (.int .i64 0)), some (31, false)⟩,
  ⟨some 35, .pick (.t 31) (.c (.bool true)) (.t 34), some (29, true)⟩,
  ro 36 (.pick (.t 29) (.t 35) (.c (.bool false))),
  ro 37 (.mv (.t 36)),
  ⟨some 38, .fa 249 (.t 1) 0, some (37, true)⟩,
  ⟨some 39, .ld 2 (.t 38), some (37, true)⟩,
  ⟨some 40, .bn .eql 2 (.t 39) (.c (.int .i64 1)), some (37, true)⟩,
  ⟨some 41, .mv (.t 40), some (37, true)⟩,
  ⟨some 42, .fa 249 (.t 1) 2, some (41, false)⟩,
  ⟨some 43, .ld 9 (.t 42), some (41, false)⟩,
  ⟨some 44, .bn .eql 9 (.t 43) (.c (.str [])), some (41, false)⟩,
  ⟨some 45, .pick (.t 41) (.c (.bool true)) (.t 44), some (37, true)⟩,
  ro 46 (.pick (.t 37) (.t 45) (.c (.bool false))),
  ro 47 (.mv (.t 46)),
  ⟨some 48, .mv (.t 4), some (47, true)⟩,
  ⟨some 49, .mv (.t 48), some (47, true)⟩,
  ⟨some 50, .fa 249 (.t 1) 3, some (49, false)⟩,
  ⟨some 51, .ld 195 (.t 50), some (49, false)⟩,
  ⟨some 52, .len 195 (.t 51), some (49, false)⟩,
  ⟨some 53, .bn .eql 3 (.t 52) (.c (.int .i64 0)), some (49, false)⟩,
  ⟨some 54, .pick (.t 49) (.c (.bool true)) (.t 53), some (47, true)⟩,
  ro 55 (.pick (.t 47) (.t 54) (.c (.bool false))),
  ro 2 (.asg (.t 55))] (some [2])) .ret
def c277_4 : SC := .seq (.reg [ro 13 (.fa 249 (.t 1) 0),
  ro 14 (.ld 2 (.t 13)),
  ro 15 (.bn .eql 2 (.t 14) (.c (.int .i64 1))),
  ro 16 (.mv (.t 15)),
  ⟨some 17, .fa 249 (.t 1) 0, some (16, false)⟩,
  ⟨some 18, .ld 2 (.t 17), some (16, false)⟩,
  ⟨some 19, .bn .eql 2 (.t 18) (.c (.int .i64 3)), some (16, false)⟩,
  ro 20 (.pick (.t 16) (.c (.bool true)) (.t 19)),
  ro 21 (.mv (.t 20)),
  ⟨some 22, .fa 249 (.t 1) 0, some (21, false)⟩,
  ⟨some 23, .ld 2 (.t 22), some (21, false)⟩,
  ⟨some 24, .bn .eql 2 (.t 23) (.c (.int .i64 5)), some (21, false)⟩,
  ro 25 (.pick (.t 21) (.c (.bool true)) (.t 24)),
  ro 4 (.asg (.t 25))] (some [1, 3, 4])) c277_6
def c277_2 : SC := .seq (.reg [ro 5 (.fa 249 (.t 1) 0),
  ro 6 (.ld 2 (.t 5)),
  ro 7 (.bn .eql 2 (.t 6) (.c (.int .i64 4))),
  ro 8 (.mv (.t 7)),
  ⟨some 9, .fa 249 (.t 1) 0, some (8, false)⟩,
  ⟨some 10, .ld 2 (.t 9), some (8, false)⟩,
  ⟨some 11, .bn .eql 2 (.t 10) (.c (.int .i64 5)), some (8, false)⟩,
  ro 12 (.pick (.t 8) (.c (.bool true)) (.t 11)),
  ro 3 (.asg (.t 12))] (some [1, 3])) c277_4
/-- (loop.example/g01075/impl.Part).kindOk -/
def c277 : SC := .seq (.reg [ro 1 (.bx 249 (.t 0)),
  ro 2 (.asg (.c (.bool false)))] (some [1])) c277_2
theorem s277 : slimC ⟨56, [0]⟩ (Try.f277.body.getD .skip) = some c277.strip := by kernel_rfl

def c278_2 : SC := .seq (.reg [ro 3 (.mv (.t 0)),
  ro 4 (.call (.f 126) [(.t 3)]),
  ro 5 (.mv (.t 4)),
  ⟨some 6, .mv (.t 0), some (5, true)⟩,
  ⟨some 7, .bn .neq 9 (.t 6) (.c (.str [116, 97, 117])), some (5, true)⟩,
  ro 8 (.pick (.t 5) (.t 7) (.c (.bool false))),
  ro 2 (.asg (.t 8))] (some [2])) .ret
/-- loop.example/g01075/impl.IsAction -/
def c278 : SC := .seq (.reg [ro 2 (.asg (.c (.bool false)))] (some [0])) c278_2
theorem s278 : slimC ⟨9, [0]⟩ (Try.f278.body.getD .skip) = some c278.strip := by kernel_rfl

def c133_2 : SC := .seq (.reg [ro 5 (.mv (.t 0)),
  ro 6 (.mv (.t 1)),
  ro 7 (.bn .sub 2 (.t 6) (.c (.int .i64 1))),
  ro 8 (.call (.f 138) [(.t 5), (.c (.int .i64 0)), (.t 7)]),
  ro 4 (.asg (.t 8))] (some [4])) .ret
/-- loop.example/g01075/impl.index -/
def c133 : SC := .seq (.reg [ro 4 (.asg (.c (.bool false)))] (some [0, 1])) c133_2
theorem s133 : slimC ⟨9, [0, 1]⟩ (Try.f133.body.getD .skip) = some c133.strip := by kernel_rfl

def c279_11 : SC := .seq (.reg [ro 13 (.mv (.t 5)),
  ro 14 (.bn .eql 3 (.t 13) (.c (.int .i64 0))),
  ro 15 (.mv (.t 14)),
  ⟨some 16, .fa 249 (.t 2) 2, some (15, false)⟩,
  ⟨some 17, .ld 9 (.t 16), some (15, false)⟩,
  ⟨some 18, .bn .neq 9 (.t 17) (.c (.str [116, 97, 117])), some (15, false)⟩,
  ⟨some 19, .mv (.t 18), some (15, false)⟩,
  ⟨some 20, .mv (.t 5), some (19, true)⟩,
  ⟨some 21, .bn .leq 3 (.t 20) (.c (.int .i64 2)), some (19, true)⟩,
  ⟨some 22, .pick (.t 19) (.t 21) (.c (.bool false)), some (15, false)⟩,
  ro 23 (.pick (.t 15) (.c (.bool true)) (.t 22)),
  ro 4 (.asg (.t 23))] (some [4])) .ret
def c279_17 : SC := .seq (.reg [ro 26 (.mv (.t 5)),
  ro 27 (.bn .eql 3 (.t 26) (.c (.int .i64 1))),
  ro 4 (.asg (.t 27))] (some [4])) .ret
def c279_23 : SC := .seq (.reg [ro 30 (.mv (.t 5)),
  ro 31 (.mv (.t 1)),
  ro 32 (.fa 249 (.t 2) 1),
  ro 33 (.ld 2 (.t 32)),
  ro 34 (.ia 62 (.t 31) (.t 33)),
  ro 35 (.fa 171 (.t 34) 1),
  ro 36 (.ld 2 (.t 35)),
  ro 37 (.bn .eql 2 (.t 30) (.t 36)),
  ro 4 (.asg (.t 37))] (some [4])) .ret
def c279_22 : SC := .cond (.t 28) c279_23 .skip
def c279_20 : SC := .seq (.reg [ro 29 (.bn .eql 2 (.t 10) (.c (.int .i64 5))),
  ro 28 (.asg (.t 29))] (some [1, 2, 5, 28])) c279_22
def c279_16 : SC := .cond (.t 24) c279_17 c279_20
def c279_14 : SC := .seq (.reg [ro 25 (.bn .eql 2 (.t 10) (.c (.int .i64 3))),
  ro 24 (.asg (.t 25))] (some [1, 2, 5, 10, 24])) c279_16
def c279_10 : SC := .cond (.t 11) c279_11 c279_14
def c279_7 : SC := .block 0 (.seq (.reg [ro 12 (.bn .eql 2 (.t 10) (.c (.int .i64 1))),
  ro 11 (.asg (.t 12))] (some [1, 2, 5, 10, 11])) c279_10)
def c279_27 : SC := .seq (.reg [ro 4 (.asg (.c (.bool true)))] (some [4])) .ret
def c279_4 : SC := .seq (.seq (.reg [ro 9 (.fa 249 (.t 2) 0),
  ro 10 (.ld 2 (.t 9))] (some [1, 2, 5, 10])) c279_7) c279_27
def c279_2 : SC := .seq (.reg [ro 6 (.fa 249 (.t 2) 3),
  ro 7 (.ld 195 (.t 6)),
  ro 8 (.len 195 (.t 7)),
  ro 5 (.asg (.t 8))] (some [1, 2, 5])) c279_4
/-- (loop.example/g01075/impl.Part).countOk -/
def c279 : SC := .seq (.reg [ro 2 (.bx 249 (.t 0)),
  ro 4 (.asg (.c (.bool false)))] (some [1, 2])) c279_2
theorem s279 : slimC ⟨38, [0, 1]⟩ (Try.f279.body.getD .skip) = some c279.strip := by kernel_rfl

def c286_2 : SC := .seq (.reg [ro 3 (.mv (.t 0)),
  ro 4 (.call (.f 138) [(.t 3), (.c (.int .i64 0)), (.c (.int .i64 63))]),
  ro 2 (.asg (.t 4))] (some [2])) .ret
/-- loop.example/g01075/impl.isValue -/
def c286 : SC := .seq (.reg [ro 2 (.asg (.c (.bool false)))] (some [0])) c286_2
theorem s286 : slimC ⟨5, [0]⟩ (Try.f286.body.getD .skip) = some c286.strip := by kernel_rfl

def c269_9 : SC := .seq (.reg [ro 9 (.fa 131 (.t 2) 1),
  ro 10 (.ld 2 (.t 9)),
  ro 11 (.call (.f 286) [(.t 10)]),
  ro 4 (.asg (.t 11))] (some [4])) .ret
def c269_15 : SC := .seq (.reg [ro 14 (.fa 131 (.t 2) 1),
  ro 15 (.ld 2 (.t 14)),
  ro 16 (.mv (.t 1)),
  ro 17 (.bn .sub 2 (.t 16) (.c (.int .i64 1))),
  ro 18 (.call (.f 138) [(.t 15), (.c (.int .i64 0)), (.t 17)]),
  ro 4 (.asg (.t 18))] (some [4])) .ret
def c269_21 : SC := .seq (.reg [ro 21 (.fa 131 (.t 2) 1),
  ro 22 (.ld 2 (.t 21)),
  ro 23 (.call (.f 138) [(.t 22), (.c (.int .i64 0)), (.c (.int .i64 8))]),
  ro 4 (.asg (.t 23))] (some [4])) .ret
def c269_27 : SC := .seq (.reg [ro 26 (.fa 131 (.t 2) 1),
  ro 27 (.ld 2 (.t 26)),
  ro 28 (.bn .eql 2 (.t 27) (.c (.int .i64 0))),
  ro 4 (.asg (.t 28))] (some [4])) .ret
def c269_26 : SC := .cond (.t 24) c269_27 .skip
def c269_24 : SC := .seq (.reg [ro 25 (.bn .eql 2 (.t 6) (.c (.int .i64 3))),
  ro 24 (.asg (.t 25))] (some [2, 24])) c269_26
def c269_20 : SC := .cond (.t 19) c269_21 c269_24
def c269_18 : SC := .seq (.reg [ro 20 (.bn .eql 2 (.t 6) (.c (.int .i64 2))),
  ro 19 (.asg (.t 20))] (some [2, 6, 19])) c269_20
def c269_14 : SC := .cond (.t 12) c269_15 c269_18
def c269_12 : SC := .seq (.reg [ro 13 (.bn .eql 2 (.t 6) (.c (.int .i64 1))),
  ro 12 (.asg (.t 13))] (some [1, 2, 6, 12])) c269_14
def c269_8 : SC := .cond (.t 7) c269_9 c269_12
def c269_5 : SC := .block 0 (.seq (.reg [ro 8 (.bn .eql 2 (.t 6) (.c (.int .i64 0))),
  ro 7 (.asg (.t 8))] (some [1, 2, 6, 7])) c269_8)
def c269_31 : SC := .seq (.reg [ro 4 (.asg (.c (.bool false)))] (some [4])) .ret
def c269_2 : SC := .seq (.seq (.reg [ro 5 (.fa 131 (.t 2) 0),
  ro 6 (.ld 2 (.t 5))] (some [1, 2, 6])) c269_5) c269_31
/-- (loop.example/g01075/impl.Term).valid -/
def c269 : SC := .seq (.reg [ro 2 (.bx 131 (.t 0)),
  ro 4 (.asg (.c (.bool false)))] (some [1, 2])) c269_2
theorem s269 : slimC ⟨29, [0, 1]⟩ (Try.f269.body.getD .skip) = some c269.strip := by kernel_rfl

def c270_9 : SC := .seq (.reg [ro 2 (.asg (.c (.int .i64 2)))] (some [2])) .ret
def c270_15 : SC := .seq (.reg [ro 2 (.asg (.c (.int .i64 1)))] (some [2])) .ret
def c270_14 : SC := .cond (.t 7) c270_15 .skip
def c270_12 : SC := .seq (.reg [ro 8 (.bn .eql 2 (.t 4) (.c (.int .i64 3))),
  ro 7 (.asg (.t 8))] (some [7])) c270_14
def c270_8 : SC := .cond (.t 5) c270_9 c270_12
def c270_5 : SC := .block 0 (.seq (.reg [ro 6 (.bn .eql 2 (.t 4) (.c (.int .i64 2))),
  ro 5 (.asg (.t 6))] (some [4, 5])) c270_8)
def c270_19 : SC := .seq (.reg [ro 2 (.asg (.c (.int .i64 0)))] (some [2])) .ret
def c270_2 : SC := .seq (.seq (.reg [ro 3 (.fa 131 (.t 1) 0),
  ro 4 (.ld 2 (.t 3))] (some [4])) c270_5) c270_19
/-- (loop.example/g01075/impl.Term).operands -/
def c270 : SC := .seq (.reg [ro 1 (.bx 131 (.t 0)),
  ro 2 (.asg (.c (.int .i64 0)))] (some [1])) c270_2
theorem s270 : slimC ⟨9, [0]⟩ (Try.f270.body.getD .skip) = some c270.strip := by kernel_rfl

def c200_6 : SC := .seq (.reg [ro 6 (.asg (.c (.bool false)))] (some [6])) .ret
def c200_5 : SC := .cond (.t 24) c200_6 .skip
def c200_31 : SC := .seq (.reg [ro 6 (.asg (.c (.bool false)))] (some [6])) .ret
def c200_30 : SC := .cond (.t 38) c200_31 .skip
def c200_35 : SC := .reg [ro 39 (.mv (.t 7)),
  ro 40 (.ld 131 (.t 9)),
  ro 41 (.call (.f 270) [(.t 40)]),
  ro 42 (.bn .sub 3 (.t 41) (.c (.int .i64 1))),
  ro 43 (.bn .add 3 (.t 39) (.t 42)),
  ro 7 (.asg (.t 43))] (some [1, 7, 25, 26, 27])
def c200_27 : SC := .seq (.seq (.reg [ro 31 (.mv (.t 7)),
  ro 32 (.bn .eql 3 (.t 31) (.c (.int .i64 0))),
  ro 33 (.mv (.t 32)),
  ⟨some 34, .ld 131 (.t 9), some (33, false)⟩,
  ⟨some 35, .mv (.t 1), some (33, false)⟩,
  ⟨some 36, .call (.f 269) [(.t 34), (.t 35)], some (33, false)⟩,
  ⟨some 37, .un .not (.t 36), some (33, false)⟩,
  ro 38 (.pick (.t 33) (.c (.bool true)) (.t 37))] (some [1, 7, 9, 25, 26, 27, 38])) c200_30) c200_35
def c200_36 : SC := .reg [ro 44 (.bn .add 3 (.t 27) (.c (.int .i64 1))),
  ro 27 (.mv (.t 44))] (some [1, 7, 25, 26, 27])
def c200_23 : SC := .seq (.block 1 (.seq (.reg [ro 29 (.ia 40 (.t 25) (.t 27)),
  ro 30 (.ld 131 (.t 29)),
  ro 9 (.alc 131),
  ⟨none, .sto 131 (.t 9) (.t 30), none⟩] (some [1, 7, 9, 25, 26, 27])) c200_27)) c200_36
def c200_19 : SC := .seq (.cond (.t 28) .skip (.exit 0)) c200_23
def c200_17 : SC := .seq (.reg [ro 28 (.bn .lss 3 (.t 27) (.t 26))] (some [1, 7, 25, 26, 27, 28])) c200_19
def c200_15 : SC := .block 0 (.loop c200_17)
def c200_37 : SC := .seq (.reg [ro 45 (.mv (.t 7)),
  ro 46 (.bn .eql 3 (.t 45) (.c (.int .i64 0))),
  ro 6 (.asg (.t 46))] (some [6])) .ret
def c200_12 : SC := .seq (.seq (.reg [ro 25 (.mv (.t 0)),
  ro 26 (.len 40 (.t 25)),
  ro 27 (.mv (.c (.int .i64 0)))] (some [1, 7, 25, 26, 27])) c200_15) c200_37
def c200_10 : SC := .seq (.reg [ro 7 (.asg (.c (.int .i64 1)))] (some [0, 1, 7])) c200_12
def c200_2 : SC := .seq (.seq (.reg [ro 10 (.mv (.t 1)),
  ro 11 (.call (.f 138) [(.t 10), (.c (.int .i64 0)), (.c (.int .i64 29))]),
  ro 12 (.un .not (.t 11)),
  ro 13 (.mv (.t 12)),
  ⟨some 14, .mv (.t 2), some (13, false)⟩,
  ⟨some 15, .call (.f 138) [(.t 14), (.c (.int .i64 1)), (.c (.int .i64 60))], some (13, false)⟩,
  ⟨some 16, .un .not (.t 15), some (13, false)⟩,
  ro 17 (.pick (.t 13) (.c (.bool true)) (.t 16)),
  ro 18 (.mv (.t 17)),
  ⟨some 19, .mv (.t 0), some (18, false)⟩,
  ⟨some 20, .len 40 (.t 19), some (18, false)⟩,
  ⟨some 21, .mv (.t 2), some (18, false)⟩,
  ⟨some 22, .call (.f 138) [(.t 20), (.c (.int .i64 1)), (.t 21)], some (18, false)⟩,
  ⟨some 23, .un .not (.t 22), some (18, false)⟩,
  ro 24 (.pick (.t 18) (.c (.bool true)) (.t 23))] (some [0, 1, 24])) c200_5) c200_10
/-- loop.example/g01075/impl.ValidTerms -/
def c200 : SC := .seq (.reg [ro 6 (.asg (.c (.bool false)))] (some [0, 1, 2])) c200_2
theorem s200 : slimC ⟨47, [0, 1, 2]⟩ (Try.f200.body.getD .skip) = some c200.strip := by kernel_rfl

def c281_2 : SC := .seq (.reg [ro 4 (.mv (.t 0)),
  ro 5 (.fa 185 (.t 1) 0),
  ro 6 (.ld 2 (.t 5)),
  ro 7 (.call (.f 200) [(.t 4), (.t 6), (.c (.int .i64 15))]),
  ro 8 (.un .not (.t 7)),
  ro 3 (.asg (.t 8))] (some [3])) .ret
/-- (loop.example/g01075/impl.Part).reason$1 -/
def c281 : SC := .seq (.reg [ro 3 (.asg (.c (.bool false)))] (some [0, 1])) c281_2
theorem s281 : slimC ⟨9, [0, 1]⟩ (Try.f281.body.getD .skip) = some c281.strip := by kernel_rfl

def c320_20 : SC := .seq (.reg [ro 17 (.mv (.t 5)),
  ro 4 (.asg (.t 17))] (some [4])) .ret
def c320_19 : SC := .cond (.t 16) c320_20 .skip
def c320_17 : SC := .seq (.reg [ro 11 (.mv (.t 1)),
  ro 12 (.mv (.t 0)),
  ro 13 (.mv (.t 5)),
  ro 14 (.ia 195 (.t 12) (.t 13)),
  ro 15 (.ld 40 (.t 14)),
  ro 16 (.call (.t 11) [(.t 15)])] (some [0, 1, 5, 7, 8, 16])) c320_19
def c320_24 : SC := .reg [ro 18 (.bn .add 3 (.t 8) (.c (.int .i64 1))),
  ro 8 (.mv (.t 18))] (some [0, 1, 7, 8])
def c320_13 : SC := .seq (.block 1 (.seq (.reg [ro 10 (.mv (.t 8)),
  ro 5 (.asg (.t 10))] (some [0, 1, 5, 7, 8])) c320_17)) c320_24
def c320_9 : SC := .seq (.cond (.t 9) .skip (.exit 0)) c320_13
def c320_7 : SC := .seq (.reg [ro 9 (.bn .lss 3 (.t 8) (.t 7))] (some [0, 1, 7, 8, 9])) c320_9
def c320_5 : SC := .block 0 (.loop c320_7)
def c320_25 : SC := .seq (.reg [ro 4 (.asg (.c (.int .i64 (-1))))] (some [4])) .ret
def c320_2 : SC := .seq (.seq (.reg [ro 6 (.mv (.t 0)),
  ro 7 (.len 195 (.t 6)),
  ro 8 (.mv (.c (.int .i64 0)))] (some [0, 1, 7, 8])) c320_5) c320_25
/-- slices.IndexFunc[[][]loop.example/g01075/impl.Term,[]loop.example/g01075/impl.Term] -/
def c320 : SC := .seq (.reg [ro 4 (.asg (.c (.int .i64 0)))] (some [0, 1])) c320_2
theorem s320 : slimC ⟨19, [0, 1]⟩ (Try.f320.body.getD .skip) = some c320.strip := by kernel_rfl

def c280_2 : SC := .seq (.reg [ro 5 (.mv (.t 0)),
  ro 6 (.mv (.t 1)),
  ro 7 (.call (.f 320) [(.t 5), (.t 6)]),
  ro 8 (.bn .geq 3 (.t 7) (.c (.int .i64 0))),
  ro 4 (.asg (.t 8))] (some [4])) .ret
/-- slices.ContainsFunc[[][]loop.example/g01075/impl.Term,[]loop.example/g01075/impl.Term] -/
def c280 : SC := .seq (.reg [ro 4 (.asg (.c (.bool false)))] (some [0, 1])) c280_2
theorem s280 : slimC ⟨9, [0, 1]⟩ (Try.f280.body.getD .skip) = some c280.strip := by kernel_rfl

def c218_7 : SC := .seq (.reg [ro 6 (.asg (.c (.int .i64 2)))] (some [6])) .ret
def c218_13 : SC := .seq (.reg [ro 6 (.asg (.c (.int .i64 3)))] (some [6])) .ret
def c218_19 : SC := .seq (.reg [ro 6 (.asg (.c (.int .i64 4)))] (some [6])) .ret
def c218_25 : SC := .seq (.reg [ro 6 (.asg (.c (.int .i64 5)))] (some [6])) .ret
def c218_31 : SC := .seq (.reg [ro 6 (.asg (.c (.int .i64 6)))] (some [6])) .ret
def c218_37 : SC := .seq (.reg [ro 6 (.asg (.c (.int .i64 7)))] (some [6])) .ret
def c218_43 : SC := .seq (.reg [ro 6 (.asg (.c (.int .i64 8)))] (some [6])) .ret
def c218_42 : SC := .cond (.t 72) c218_43 .skip
def c218_40 : SC := .seq (.reg [ro 73 (.fa 249 (.t 3) 3),
  ro 74 (.ld 195 (.t 73)),
  ro 75 (.mkf 281 [(.t 5)]),
  ro 76 (.call (.f 280) [(.t 74), (.t 75)]),
  ro 72 (.asg (.t 76))] (some [72])) c218_42
def c218_36 : SC := .cond (.t 63) c218_37 c218_40
def c218_34 : SC := .seq (.reg [ro 64 (.fa 249 (.t 3) 0),
  ro 65 (.ld 2 (.t 64)),
  ro 66 (.bn .eql 2 (.t 65) (.c (.int .i64 4))),
  ro 67 (.mv (.t 66)),
  ⟨some 68, .fa 185 (.t 5) 0, some (67, true)⟩,
  ⟨some 69, .ld 2 (.t 68), some (67, true)⟩,
  ⟨some 70, .bn .geq 2 (.t 69) (.c (.int .i64 6)), some (67, true)⟩,
  ro 71 (.pick (.t 67) (.t 70) (.c (.bool false))),
  ro 63 (.asg (.t 71))] (some [3, 5, 63])) c218_36
def c218_30 : SC := .cond (.t 54) c218_31 c218_34
def c218_28 : SC := .seq (.reg [ro 55 (.fa 249 (.t 3) 0),
  ro 56 (.ld 2 (.t 55)),
  ro 57 (.bn .eql 2 (.t 56) (.c (.int .i64 5))),
  ro 58 (.mv (.t 57)),
  ⟨some 59, .fa 185 (.t 5) 1, some (58, true)⟩,
  ⟨some 60, .ld 4 (.t 59), some (58, true)⟩,
  ⟨some 61, .un .not (.t 60), some (58, true)⟩,
  ro 62 (.pick (.t 58) (.t 61) (.c (.bool false))),
  ro 54 (.asg (.t 62))] (some [3, 5, 54])) c218_30
def c218_24 : SC := .cond (.t 49) c218_25 c218_28
def c218_22 : SC := .seq (.reg [ro 50 (.ld 249 (.t 3)),
  ro 51 (.mv (.t 1)),
  ro 52 (.call (.f 279) [(.t 50), (.t 51)]),
  ro 53 (.un .not (.t 52)),
  ro 49 (.asg (.t 53))] (some [3, 5, 49])) c218_24
def c218_18 : SC := .cond (.t 26) c218_19 c218_22
def c218_16 : SC := .seq (.reg [ro 27 (.fa 249 (.t 3) 0),
  ro 28 (.ld 2 (.t 27)),
  ro 29 (.bn .eql 2 (.t 28) (.c (.int .i64 4))),
  ro 30 (.mv (.t 29)),
  ⟨some 31, .fa 249 (.t 3) 1, some (30, true)⟩,
  ⟨some 32, .ld 2 (.t 31), some (30, true)⟩,
  ⟨some 33, .call (.f 138) [(.t 32), (.c (.int .i64 1)), (.c (.int .i64 7))], some (30, true)⟩,
  ⟨some 34, .un .not (.t 33), some (30, true)⟩,
  ro 35 (.pick (.t 30) (.t 34) (.c (.bool false))),
  ro 36 (.mv (.t 35)),
  ⟨some 37, .fa 249 (.t 3) 0, some (36, false)⟩,
  ⟨some 38, .ld 2 (.t 37), some (36, false)⟩,
  ⟨some 39, .bn .eql 2 (.t 38) (.c (.int .i64 5)), some (36, false)⟩,
  ⟨some 40, .mv (.t 39), some (36, false)⟩,
  ⟨some 41, .fa 249 (.t 3) 1, some (40, true)⟩,
  ⟨some 42, .ld 2 (.t 41), some (40, true)⟩,
  ⟨some 43, .mv (.t 1), some (40, true)⟩,
  ⟨some 44, .len 62 (.t 43), some (40, true)⟩,
  ⟨some 45, .call (.f 133) [(.t 42), (.t 44)], some (40, true)⟩,
  ⟨some 46, .un .not (.t 45), some (40, true)⟩,
  ⟨some 47, .pick (.t 40) (.t 46) (.c (.bool false)), some (36, false)⟩,
  ro 48 (.pick (.t 36) (.c (.bool true)) (.t 47)),
  ro 26 (.asg (.t 48))] (some [1, 3, 5, 26])) c218_18
def c218_12 : SC := .cond (.t 11) c218_13 c218_16
def c218_10 : SC := .seq (.reg [ro 12 (.fa 249 (.t 3) 0),
  ro 13 (.ld 2 (.t 12)),
  ro 14 (.bn .eql 2 (.t 13) (.c (.int .i64 1))),
  ro 15 (.mv (.t 14)),
  ⟨some 16, .fa 249 (.t 3) 2, some (15, true)⟩,
  ⟨some 17, .ld 9 (.t 16), some (15, true)⟩,
  ⟨some 18, .bn .neq 9 (.t 17) (.c (.str [116, 97, 117])), some (15, true)⟩,
  ro 19 (.pick (.t 15) (.t 18) (.c (.bool false))),
  ro 20 (.mv (.t 19)),
  ⟨some 21, .fa 249 (.t 3) 2, some (20, true)⟩,
  ⟨some 22, .ld 9 (.t 21), some (20, true)⟩,
  ⟨some 23, .call (.f 278) [(.t 22)], some (20, true)⟩,
  ⟨some 24, .un .not (.t 23), some (20, true)⟩,
  ro 25 (.pick (.t 20) (.t 24) (.c (.bool false))),
  ro 11 (.asg (.t 25))] (some [1, 3, 5, 11])) c218_12
def c218_6 : SC := .cond (.t 7) c218_7 c218_10
def c218_47 : SC := .seq (.reg [ro 6 (.asg (.c (.int .i64 0)))] (some [6])) .ret
def c218_2 : SC := .seq (.block 0 (.seq (.reg [ro 8 (.ld 249 (.t 3)),
  ro 9 (.call (.f 277) [(.t 8)]),
  ro 10 (.un .not (.t 9)),
  ro 7 (.asg (.t 10))] (some [1, 3, 5, 7])) c218_6)) c218_47
/-- (loop.example/g01075/impl.Part).reason -/
def c218 : SC := .seq (.reg [ro 3 (.bx 249 (.t 0)),
  ro 5 (.bx 185 (.t 2)),
  ro 6 (.asg (.c (.int .i64 0)))] (some [1, 3, 5])) c218_2
theorem s218 : slimC ⟨77, [0, 1, 2]⟩ (Try.f218.body.getD .skip) = some c218.strip := by kernel_rfl

def c135_6 : SC := .seq (.reg [ro 4 (.asg (.c (.int .i64 0))),
  ro 5 (.asg (.c (.int .i64 1)))] (some [4, 5])) .ret
def c135_5 : SC := .cond (.t 22) c135_6 .skip
def c135_32 : SC := .seq (.reg [ro 42 (.mv (.t 7)),
  ro 43 (.mv (.t 9)),
  ro 4 (.asg (.t 42)),
  ro 5 (.asg (.t 43))] (some [4, 5])) .ret
def c135_31 : SC := .cond (.t 41) c135_32 .skip
def c135_29 : SC := .seq (.reg [ro 40 (.mv (.t 9)),
  ro 41 (.bn .neq 2 (.t 40) (.c (.int .i64 0)))] (some [0, 6, 7, 9, 26, 27, 28, 41])) c135_31
def c135_27 : SC := .seq (.drw [ro 33 (.ld 249 (.t 8)),
  ro 34 (.mv (.t 0)),
  ro 35 (.mv (.t 6)),
  ro 36 (.mv (.t 7)),
  ro 37 (.ia 186 (.t 35) (.t 36)),
  ro 38 (.ld 185 (.t 37)),
  ro 39 (.call (.f 218) [(.t 33), (.t 34), (.t 38)]),
  ro 9 (.asg (.t 39))] [[], [], [], [], [2, 3], [4], [0, 1, 5], [6, 6, 0, 1, 2, 3, 4, 5, 6]] (some [0, 6, 7, 9, 26, 27, 28])) c135_29
def c135_36 : SC := .reg [ro 44 (.bn .add 3 (.t 28) (.c (.int .i64 1))),
  ro 28 (.mv (.t 44))] (some [0, 6, 26, 27, 28])
def c135_23 : SC := .seq (.block 1 (.seq (.reg [ro 30 (.mv (.t 28)),
  ro 31 (.ia 169 (.t 26) (.t 28)),
  ro 32 (.ld 249 (.t 31)),
  ro 8 (.alc 249),
  ro 7 (.asg (.t 30)),
  ⟨none, .sto 249 (.t 8) (.t 32), none⟩] (some [0, 6, 7, 8, 26, 27, 28])) c135_27)) c135_36
def c135_19 : SC := .seq (.cond (.t 29) .skip (.exit 0)) c135_23
def c135_17 : SC := .seq (.reg [ro 29 (.bn .lss 3 (.t 28) (.t 27))] (some [0, 6, 26, 27, 28, 29])) c135_19
def c135_15 : SC := .block 0 (.loop c135_17)
def c135_37 : SC := .seq (.reg [ro 4 (.asg (.c (.int .i64 0))),
  ro 5 (.asg (.c (.int .i64 0)))] (some [4, 5])) .ret
def c135_12 : SC := .seq (.seq (.reg [ro 25 (.fa 171 (.t 3) 2),
  ro 26 (.ld 169 (.t 25)),
  ro 27 (.len 169 (.t 26)),
  ro 28 (.mv (.c (.int .i64 0)))] (some [0, 6, 26, 27, 28])) c135_15) c135_37
def c135_10 : SC := .seq (.reg [ro 23 (.ld 171 (.t 3)),
  ro 24 (.call (.f 147) [(.t 23)]),
  ro 6 (.asg (.t 24))] (some [0, 3, 6])) c135_12
def c135_2 : SC := .seq (.seq (.drw [ro 10 (.fa 171 (.t 3) 2),
  ro 11 (.ld 169 (.t 10)),
  ro 12 (.len 169 (.t 11)),
  ro 13 (.call (.f 138) [(.t 12), (.c (.int .i64 1)), (.c (.int .i64 20))]),
  ro 14 (.un .not (.t 13)),
  ro 15 (.mv (.t 14)),
  ⟨some 16, .ld 171 (.t 3), some (15, false)⟩,
  ⟨some 17, .call (.f 145) [(.t 16), (.c (.int .i64 0))], some (15, false)⟩,
  ⟨some 18, .fa 171 (.t 3) 2, some (15, false)⟩,
  ⟨some 19, .ld 169 (.t 18), some (15, false)⟩,
  ⟨some 20, .len 169 (.t 19), some (15, false)⟩,
  ⟨some 21, .bn .neq 3 (.t 17) (.t 20), some (15, false)⟩,
  ro 22 (.pick (.t 15) (.c (.bool true)) (.t 21))] [[], [0], [1], [2], [3], [4, 3], [5], [6, 5, 5], [5], [8, 5], [9, 5], [7, 10, 5], [5, 11]] (some [0, 3, 22])) c135_5) c135_10
/-- loop.example/g01075/impl.bodyFault -/
def c135 : SC := .seq (.reg [ro 3 (.bx 171 (.t 1)),
  ro 4 (.asg (.c (.int .i64 0))),
  ro 5 (.asg (.c (.int .i64 0)))] (some [0, 3])) c135_2
theorem s135 : slimC ⟨45, [0, 1]⟩ (Try.f135.body.getD .skip) = some c135.strip := by kernel_rfl

def c56_6 : SC := .seq (.reg [ro 2 (.asg (.c (.bool false)))] (some [2])) .ret
def c56_5 : SC := .cond (.t 15) c56_6 .skip
def c56_29 : SC := .seq (.reg [ro 2 (.asg (.c (.bool false)))] (some [2])) .ret
def c56_28 : SC := .cond (.t 35) c56_29 .skip
def c56_38 : SC := .seq (.reg [ro 2 (.asg (.c (.bool false)))] (some [2])) .ret
def c56_37 : SC := .cond (.t 43) c56_38 .skip
def c56_35 : SC := .seq (.reg [ro 42 (.mv (.t 6)),
  ro 43 (.bn .neq 2 (.t 42) (.c (.int .i64 0)))] (some [0, 16, 17, 18, 43])) c56_37
def c56_33 : SC := .seq (.reg [ro 37 (.mv (.t 0)),
  ro 38 (.ld 171 (.t 4)),
  ro 39 (.call (.f 135) [(.t 37), (.t 38)]),
  ro 36 (.mv (.t 39)),
  ro 40 (.ex (.t 36) 0),
  ro 41 (.ex (.t 36) 1),
  ro 5 (.asg (.t 40)),
  ro 6 (.asg (.t 41))] (some [0, 6, 16, 17, 18])) c56_35
def c56_25 : SC := .seq (.seq (.drw [ro 23 (.fa 171 (.t 4) 0),
  ro 24 (.ld 9 (.t 23)),
  ro 25 (.call (.f 126) [(.t 24)]),
  ro 26 (.un .not (.t 25)),
  ro 27 (.mv (.t 26)),
  ⟨some 28, .mv (.t 0), some (27, false)⟩,
  ⟨some 29, .mv (.t 3), some (27, false)⟩,
  ⟨some 30, .slc 62 (.t 28) none (some (.t 29)), some (27, false)⟩,
  ⟨some 31, .fa 171 (.t 4) 0, some (27, false)⟩,
  ⟨some 32, .ld 9 (.t 31), some (27, false)⟩,
  ⟨some 33, .call (.f 139) [(.t 30), (.t 32)], some (27, false)⟩,
  ⟨some 34, .bn .geq 3 (.t 33) (.c (.int .i64 0)), some (27, false)⟩,
  ro 35 (.pick (.t 27) (.c (.bool true)) (.t 34))] [[], [0], [1], [2], [3, 2], [4], [4], [5, 6, 4], [4], [8, 4], [7, 9, 4, 4], [10, 4], [4, 11]] (some [0, 4, 16, 17, 18, 35])) c56_28) c56_33
def c56_42 : SC := .reg [ro 44 (.bn .add 3 (.t 18) (.c (.int .i64 1))),
  ro 18 (.mv (.t 44))] (some [0, 16, 17, 18])
def c56_21 : SC := .seq (.block 1 (.seq (.reg [ro 20 (.mv (.t 18)),
  ro 21 (.ia 62 (.t 16) (.t 18)),
  ro 22 (.ld 171 (.t 21)),
  ro 4 (.alc 171),
  ro 3 (.asg (.t 20)),
  ⟨none, .sto 171 (.t 4) (.t 22), none⟩] (some [0, 3, 4, 16, 17, 18])) c56_25)) c56_42
def c56_17 : SC := .seq (.cond (.t 19) .skip (.exit 0)) c56_21
def c56_15 : SC := .seq (.reg [ro 19 (.bn .lss 3 (.t 18) (.t 17))] (some [0, 16, 17, 18, 19])) c56_17
def c56_13 : SC := .block 0 (.loop c56_15)
def c56_43 : SC := .seq (.reg [ro 2 (.asg (.c (.bool true)))] (some [2])) .ret
def c56_10 : SC := .seq (.seq (.reg [ro 16 (.mv (.t 0)),
  ro 17 (.len 62 (.t 16)),
  ro 18 (.mv (.c (.int .i64 0)))] (some [0, 16, 17, 18])) c56_13) c56_43
def c56_2 : SC := .seq (.seq (.reg [ro 7 (.mv (.t 0)),
  ro 8 (.len 62 (.t 7)),
  ro 9 (.call (.f 138) [(.t 8), (.c (.int .i64 1)), (.c (.int .i64 4))]),
  ro 10 (.un .not (.t 9)),
  ro 11 (.mv (.t 10)),
  ⟨some 12, .mv (.t 0), some (11, false)⟩,
  ⟨some 13, .call (.f 134) [(.t 12)], some (11, false)⟩,
  ⟨some 14, .un .not (.t 13), some (11, false)⟩,
  ro 15 (.pick (.t 11) (.c (.bool true)) (.t 14))] (some [0, 15])) c56_5) c56_10
/-- loop.example/g01075/impl.ValidDefinitions -/
def c56 : SC := .seq (.reg [ro 2 (.asg (.c (.bool false)))] (some [0])) c56_2
theorem s56 : slimC ⟨45, [0]⟩ (Try.f56.body.getD .skip) = some c56.strip := by kernel_rfl

def c285_2 : SC := .seq (.reg [ro 3 (.mv (.t 0)),
  ro 4 (.call (.f 286) [(.t 3)]),
  ro 5 (.un .not (.t 4)),
  ro 2 (.asg (.t 5))] (some [2])) .ret
/-- loop.example/g01075/impl.areValues$1 -/
def c285 : SC := .seq (.reg [ro 2 (.asg (.c (.bool false)))] (some [0])) c285_2
theorem s285 : slimC ⟨6, [0]⟩ (Try.f285.body.getD .skip) = some c285.strip := by kernel_rfl

def c304_20 : SC := .seq (.reg [ro 17 (.mv (.t 5)),
  ro 4 (.asg (.t 17))] (some [4])) .ret
def c304_19 : SC := .cond (.t 16) c304_20 .skip
def c304_17 : SC := .seq (.reg [ro 11 (.mv (.t 1)),
  ro 12 (.mv (.t 0)),
  ro 13 (.mv (.t 5)),
  ro 14 (.ia 68 (.t 12) (.t 13)),
  ro 15 (.ld 2 (.t 14)),
  ro 16 (.call (.t 11) [(.t 15)])] (some [0, 1, 5, 7, 8, 16])) c304_19
def c304_24 : SC := .reg [ro 18 (.bn .add 3 (.t 8) (.c (.int .i64 1))),
  ro 8 (.mv (.t 18))] (some [0, 1, 7, 8])
def c304_13 : SC := .seq (.block 1 (.seq (.reg [ro 10 (.mv (.t 8)),
  ro 5 (.asg (.t 10))] (some [0, 1, 5, 7, 8])) c304_17)) c304_24
def c304_9 : SC := .seq (.cond (.t 9) .skip (.exit 0)) c304_13
def c304_7 : SC := .seq (.reg [ro 9 (.bn .lss 3 (.t 8) (.t 7))] (some [0, 1, 7, 8, 9])) c304_9
def c304_5 : SC := .block 0 (.loop c304_7)
def c304_25 : SC := .seq (.reg [ro 4 (.asg (.c (.int .i64 (-1))))] (some [4])) .ret
def c304_2 : SC := .seq (.seq (.reg [ro 6 (.mv (.t 0)),
  ro 7 (.len 68 (.t 6)),
  ro 8 (.mv (.c (.int .i64 0)))] (some [0, 1, 7, 8])) c304_5) c304_25
/-- slices.IndexFunc[[]int64,int64] -/
def c304 : SC := .seq (.reg [ro 4 (.asg (.c (.int .i64 0)))] (some [0, 1])) c304_2
theorem s304 : slimC ⟨19, [0, 1]⟩ (Try.f304.body.getD .skip) = some c304.strip := by kernel_rfl

def c284_2 : SC := .seq (.reg [ro 5 (.mv (.t 0)),
  ro 6 (.mv (.t 1)),
  ro 7 (.call (.f 304) [(.t 5), (.t 6)]),
  ro 8 (.bn .geq 3 (.t 7) (.c (.int .i64 0))),
  ro 4 (.asg (.t 8))] (some [4])) .ret
/-- slices.ContainsFunc[[]int64,int64] -/
def c284 : SC := .seq (.reg [ro 4 (.asg (.c (.bool false)))] (some [0, 1])) c284_2
theorem s284 : slimC ⟨9, [0, 1]⟩ (Try.f284.body.getD .skip) = some c284.strip := by kernel_rfl

def c229_2 : SC := .seq (.reg [ro 3 (.mv (.t 0)),
  ro 4 (.call (.f 284) [(.t 3), (.f 285)]),
  ro 5 (.un .not (.t 4)),
  ro 2 (.asg (.t 5))] (some [2])) .ret
/-- loop.example/g01075/impl.areValues -/
def c229 : SC := .seq (.reg [ro 2 (.asg (.c (.bool false)))] (some [0])) c229_2
theorem s229 : slimC ⟨6, [0]⟩ (Try.f229.body.getD .skip) = some c229.strip := by kernel_rfl

def c151_6 : SC := .seq (.reg [ro 4 (.asg (.c (.bool false)))] (some [4])) .ret
def c151_5 : SC := .cond (.t 24) c151_6 .skip
def c151_12 : SC := .seq (.drw [ro 30 (.fa 171 (.t 5) 2),
  ro 31 (.ld 169 (.t 30)),
  ro 32 (.fa 80 (.t 3) 1),
  ro 33 (.ld 2 (.t 32)),
  ro 34 (.ia 169 (.t 31) (.t 33)),
  ro 35 (.fa 249 (.t 34) 0),
  ro 36 (.ld 2 (.t 35)),
  ro 37 (.bn .neq 2 (.t 36) (.c (.int .i64 5))),
  ro 38 (.mv (.t 37)),
  ⟨some 39, .fa 80 (.t 3) 2, some (38, true)⟩,
  ⟨some 40, .ld 68 (.t 39), some (38, true)⟩,
  ⟨some 41, .len 68 (.t 40), some (38, true)⟩,
  ⟨some 42, .ld 171 (.t 5), some (38, true)⟩,
  ⟨some 43, .call (.f 147) [(.t 42)], some (38, true)⟩,
  ⟨some 44, .fa 80 (.t 3) 1, some (38, true)⟩,
  ⟨some 45, .ld 2 (.t 44), some (38, true)⟩,
  ⟨some 46, .ia 186 (.t 43) (.t 45), some (38, true)⟩,
  ⟨some 47, .fa 185 (.t 46) 0, some (38, true)⟩,
  ⟨some 48, .ld 2 (.t 47), some (38, true)⟩,
  ⟨some 49, .bn .eql 2 (.t 41) (.t 48), some (38, true)⟩,
  ro 50 (.pick (.t 38) (.t 49) (.c (.bool false))),
  ro 51 (.mv (.t 50)),
  ⟨some 52, .fa 80 (.t 3) 2, some (51, true)⟩,
  ⟨some 53, .ld 68 (.t 52), some (51, true)⟩,
  ⟨some 54, .call (.f 229) [(.t 53)], some (51, true)⟩,
  ro 55 (.pick (.t 51) (.t 54) (.c (.bool false))),
  ro 4 (.asg (.t 55))] [[], [0], [], [2], [1, 3], [4], [5], [6], [7], [8], [9, 8], [10, 8], [8], [12, 8, 8], [8], [14, 8], [13, 15, 8], [16, 8], [17, 8], [11, 18, 8], [8, 19], [20, 13], [21], [22, 21], [23, 21, 21], [21, 24], [25, 24, 0, 1, 2, 3, 4, 5, 6, 7, 8, 9, 10, 11, 12, 13, 14, 15, 16, 17, 18, 19, 20, 21, 22, 23, 24, 25]] (some [4])) .ret
def c151_10 : SC := .seq (.reg [ro 25 (.mv (.t 0)),
  ro 26 (.fa 80 (.t 3) 0),
  ro 27 (.ld 2 (.t 26)),
  ro 28 (.ia 62 (.t 25) (.t 27)),
  ro 29 (.ld 171 (.t 28)),
  ro 5 (.alc 171),
  ⟨none, .sto 171 (.t 5) (.t 29), none⟩] (some [3, 5])) c151_12
def c151_2 : SC := .seq (.seq (.drw [ro 6 (.fa 80 (.t 3) 0),
  ro 7 (.ld 2 (.t 6)),
  ro 8 (.mv (.t 0)),
  ro 9 (.len 62 (.t 8)),
  ro 10 (.call (.f 133) [(.t 7), (.t 9)]),
  ro 11 (.un .not (.t 10)),
  ro 12 (.mv (.t 11)),
  ⟨some 13, .fa 80 (.t 3) 1, some (12, false)⟩,
  ⟨some 14, .ld 2 (.t 13), some (12, false)⟩,
  ⟨some 15, .mv (.t 0), some (12, false)⟩,
  ⟨some 16, .fa 80 (.t 3) 0, some (12, false)⟩,
  ⟨some 17, .ld 2 (.t 16), some (12, false)⟩,
  ⟨some 18, .ia 62 (.t 15) (.t 17), some (12, false)⟩,
  ⟨some 19, .fa 171 (.t 18) 2, some (12, false)⟩,
  ⟨some 20, .ld 169 (.t 19), some (12, false)⟩,
  ⟨some 21, .len 169 (.t 20), some (12, false)⟩,
  ⟨some 22, .call (.f 133) [(.t 14), (.t 21)], some (12, false)⟩,
  ⟨some 23, .un .not (.t 22), some (12, false)⟩,
  ro 24 (.pick (.t 12) (.c (.bool true)) (.t 23))] [[], [0], [], [2], [1, 3], [4], [5, 4], [6], [7, 6], [6], [6], [10, 6], [9, 11, 6], [12, 6], [13, 6], [14, 6], [8, 15, 6, 6], [16, 6], [6, 17]] (some [0, 3, 24])) c151_5) c151_10
/-- loop.example/g01075/impl.pointOk -/
def c151 : SC := .seq (.reg [ro 3 (.bx 80 (.t 1)),
  ro 4 (.asg (.c (.bool false)))] (some [0, 3])) c151_2
theorem s151 : slimC ⟨56, [0, 1]⟩ (Try.f151.body.getD .skip) = some c151.strip := by kernel_rfl

def c70_2 : SC := .seq (.reg [ro 5 (.mv (.t 0)),
  ro 6 (.call (.f 56) [(.t 5)]),
  ro 7 (.mv (.t 6)),
  ⟨some 8, .mv (.t 0), some (7, true)⟩,
  ⟨some 9, .ld 80 (.t 3), some (7, true)⟩,
  ⟨some 10, .call (.f 151) [(.t 8), (.t 9)], some (7, true)⟩,
  ro 11 (.pick (.t 7) (.t 10) (.c (.bool false))),
  ro 4 (.asg (.t 11))] (some [4])) .ret
/-- loop.example/g01075/impl.ValidPoint -/
def c70 : SC := .seq (.reg [ro 3 (.bx 80 (.t 1)),
  ro 4 (.asg (.c (.bool false)))] (some [0, 3])) c70_2
theorem s70 : slimC ⟨12, [0, 1]⟩ (Try.f70.body.getD .skip) = some c70.strip := by kernel_rfl

def c111_6 : SC := .seq (.reg [ro 4 (.asg (.c (.bool false)))] (some [4])) .ret
def c111_5 : SC := .cond (.t 9) c111_6 .skip
def c111_14 : SC := .seq (.reg [ro 4 (.asg (.c (.bool false)))] (some [4])) .ret
def c111_13 : SC := .cond (.t 14) c111_14 .skip
def c111_18 : SC := .seq (.reg [ro 4 (.asg (.c (.bool true)))] (some [4])) .ret
def c111_10 : SC := .seq (.seq (.reg [ro 10 (.fa 131 (.t 2) 1),
  ro 11 (.ld 2 (.t 10)),
  ro 12 (.fa 131 (.t 3) 1),
  ro 13 (.ld 2 (.t 12)),
  ro 14 (.bn .neq 2 (.t 11) (.t 13))] (some [14])) c111_13) c111_18
def c111_2 : SC := .seq (.seq (.reg [ro 5 (.fa 131 (.t 2) 0),
  ro 6 (.ld 2 (.t 5)),
  ro 7 (.fa 131 (.t 3) 0),
  ro 8 (.ld 2 (.t 7)),
  ro 9 (.bn .neq 2 (.t 6) (.t 8))] (some [2, 3, 9])) c111_5) c111_10
/-- loop.example/g01075/laws.eqTerm -/
def c111 : SC := .seq (.reg [ro 2 (.bx 131 (.t 0)),
  ro 3 (.bx 131 (.t 1)),
  ro 4 (.asg (.c (.bool false)))] (some [2, 3])) c111_2
theorem s111 : slimC ⟨15, [0, 1]⟩ (Try.f111.body.getD .skip) = some c111.strip := by kernel_rfl

def c35_6 : SC := .seq (.reg [ro 4 (.asg (.c (.bool false)))] (some [4])) .ret
def c35_5 : SC := .cond (.t 10) c35_6 .skip
def c35_18 : SC := .cond (.t 14) .skip (.exit 0)
def c35_26 : SC := .seq (.reg [ro 4 (.asg (.c (.bool false)))] (some [4])) .ret
def c35_25 : SC := .cond (.t 26) c35_26 .skip
def c35_30 : SC := .reg [ro 15 (.mv (.t 5)),
  ro 16 (.bn .add 3 (.t 15) (.c (.int .i64 1))),
  ro 5 (.asg (.t 16))] (some [0, 1, 5])
def c35_21 : SC := .seq (.block 1 (.seq (.drw [ro 17 (.mv (.t 0)),
  ro 18 (.mv (.t 5)),
  ro 19 (.ia 40 (.t 17) (.t 18)),
  ro 20 (.ld 131 (.t 19)),
  ro 21 (.mv (.t 1)),
  ro 22 (.mv (.t 5)),
  ro 23 (.ia 40 (.t 21) (.t 22)),
  ro 24 (.ld 131 (.t 23)),
  ro 25 (.call (.f 111) [(.t 20), (.t 24)]),
  ro 26 (.un .not (.t 25))] [[], [], [0, 1], [2], [], [], [4, 5], [6], [3, 7], [8]] (some [0, 1, 5, 26])) c35_25)) c35_30
def c35_15 : SC := .seq (.seq (.reg [ro 11 (.mv (.t 5)),
  ro 12 (.mv (.t 0)),
  ro 13 (.len 40 (.t 12)),
  ro 14 (.bn .lss 3 (.t 11) (.t 13))] (some [0, 1, 5, 14])) c35_18) c35_21
def c35_13 : SC := .block 0 (.loop c35_15)
def c35_31 : SC := .seq (.reg [ro 4 (.asg (.c (.bool true)))] (some [4])) .ret
def c35_10 : SC := .seq (.seq (.reg [ro 5 (.asg (.c (.int .i64 0)))] (some [0, 1, 5])) c35_13) c35_31
def c35_2 : SC := .seq (.seq (.reg [ro 6 (.mv (.t 0)),
  ro 7 (.len 40 (.t 6)),
  ro 8 (.mv (.t 1)),
  ro 9 (.len 40 (.t 8)),
  ro 10 (.bn .neq 3 (.t 7) (.t 9))] (some [0, 1, 10])) c35_5) c35_10
/-- loop.example/g01075/laws.eqTermS -/
def c35 : SC := .seq (.reg [ro 4 (.asg (.c (.bool false)))] (some [0, 1])) c35_2
theorem s35 : slimC ⟨27, [0, 1]⟩ (Try.f35.body.getD .skip) = some c35.strip := by kernel_rfl

def c295_6 : SC := .seq (.reg [ro 4 (.asg (.c (.bool false)))] (some [4])) .ret
def c295_5 : SC := .cond (.t 10) c295_6 .skip
def c295_18 : SC := .cond (.t 14) .skip (.exit 0)
def c295_26 : SC := .seq (.reg [ro 4 (.asg (.c (.bool false)))] (some [4])) .ret
def c295_25 : SC := .cond (.t 26) c295_26 .skip
def c295_30 : SC := .reg [ro 15 (.mv (.t 5)),
  ro 16 (.bn .add 3 (.t 15) (.c (.int .i64 1))),
  ro 5 (.asg (.t 16))] (some [0, 1, 5])
def c295_21 : SC := .seq (.block 1 (.seq (.drw [ro 17 (.mv (.t 0)),
  ro 18 (.mv (.t 5)),
  ro 19 (.ia 195 (.t 17) (.t 18)),
  ro 20 (.ld 40 (.t 19)),
  ro 21 (.mv (.t 1)),
  ro 22 (.mv (.t 5)),
  ro 23 (.ia 195 (.t 21) (.t 22)),
  ro 24 (.ld 40 (.t 23)),
  ro 25 (.call (.f 35) [(.t 20), (.t 24)]),
  ro 26 (.un .not (.t 25))] [[], [], [0, 1], [2], [], [], [4, 5], [6], [3, 7], [8]] (some [0, 1, 5, 26])) c295_25)) c295_30
def c295_15 : SC := .seq (.seq (.reg [ro 11 (.mv (.t 5)),
  ro 12 (.mv (.t 0)),
  ro 13 (.len 195 (.t 12)),
  ro 14 (.bn .lss 3 (.t 11) (.t 13))] (some [0, 1, 5, 14])) c295_18) c295_21
def c295_13 : SC := .block 0 (.loop c295_15)
def c295_31 : SC := .seq (.reg [ro 4 (.asg (.c (.bool true)))] (some [4])) .ret
def c295_10 : SC := .seq (.seq (.reg [ro 5 (.asg (.c (.int .i64 0)))] (some [0, 1, 5])) c295_13) c295_31
def c295_2 : SC := .seq (.seq (.reg [ro 6 (.mv (.t 0)),
  ro 7 (.len 195 (.t 6)),
  ro 8 (.mv (.t 1)),
  ro 9 (.len 195 (.t 8)),
  ro 10 (.bn .neq 3 (.t 7) (.t 9))] (some [0, 1, 10])) c295_5) c295_10
/-- loop.example/g01075/laws.eqTermSS -/
def c295 : SC := .seq (.reg [ro 4 (.asg (.c (.bool false)))] (some [0, 1])) c295_2
theorem s295 : slimC ⟨27, [0, 1]⟩ (Try.f295.body.getD .skip) = some c295.strip := by kernel_rfl

def c282_6 : SC := .seq (.reg [ro 4 (.asg (.c (.bool false)))] (some [4])) .ret
def c282_5 : SC := .cond (.t 9) c282_6 .skip
def c282_14 : SC := .seq (.reg [ro 4 (.asg (.c (.bool false)))] (some [4])) .ret
def c282_13 : SC := .cond (.t 14) c282_14 .skip
def c282_22 : SC := .seq (.reg [ro 4 (.asg (.c (.bool false)))] (some [4])) .ret
def c282_21 : SC := .cond (.t 19) c282_22 .skip
def c282_30 : SC := .seq (.reg [ro 4 (.asg (.c (.bool false)))] (some [4])) .ret
def c282_29 : SC := .cond (.t 25) c282_30 .skip
def c282_34 : SC := .seq (.reg [ro 4 (.asg (.c (.bool true)))] (some [4])) .ret
def c282_26 : SC := .seq (.seq (.reg [ro 20 (.fa 249 (.t 2) 3),
  ro 21 (.ld 195 (.t 20)),
  ro 22 (.fa 249 (.t 3) 3),
  ro 23 (.ld 195 (.t 22)),
  ro 24 (.call (.f 295) [(.t 21), (.t 23)]),
  ro 25 (.un .not (.t 24))] (some [25])) c282_29) c282_34
def c282_18 : SC := .seq (.seq (.reg [ro 15 (.fa 249 (.t 2) 2),
  ro 16 (.ld 9 (.t 15)),
  ro 17 (.fa 249 (.t 3) 2),
  ro 18 (.ld 9 (.t 17)),
  ro 19 (.bn .neq 9 (.t 16) (.t 18))] (some [2, 3, 19])) c282_21) c282_26
def c282_10 : SC := .seq (.seq (.reg [ro 10 (.fa 249 (.t 2) 1),
  ro 11 (.ld 2 (.t 10)),
  ro 12 (.fa 249 (.t 3) 1),
  ro 13 (.ld 2 (.t 12)),
  ro 14 (.bn .neq 2 (.t 11) (.t 13))] (some [2, 3, 14])) c282_13) c282_18
def c282_2 : SC := .seq (.seq (.reg [ro 5 (.fa 249 (.t 2) 0),
  ro 6 (.ld 2 (.t 5)),
  ro 7 (.fa 249 (.t 3) 0),
  ro 8 (.ld 2 (.t 7)),
  ro 9 (.bn .neq 2 (.t 6) (.t 8))] (some [2, 3, 9])) c282_5) c282_10
/-- loop.example/g01075/laws.eqPart -/
def c282 : SC := .seq (.reg [ro 2 (.bx 249 (.t 0)),
  ro 3 (.bx 249 (.t 1)),
  ro 4 (.asg (.c (.bool false)))] (some [2, 3])) c282_2
theorem s282 : slimC ⟨26, [0, 1]⟩ (Try.f282.body.getD .skip) = some c282.strip := by kernel_rfl

def c219_6 : SC := .seq (.reg [ro 4 (.asg (.c (.bool false)))] (some [4])) .ret
def c219_5 : SC := .cond (.t 10) c219_6 .skip
def c219_18 : SC := .cond (.t 14) .skip (.exit 0)
def c219_26 : SC := .seq (.reg [ro 4 (.asg (.c (.bool false)))] (some [4])) .ret
def c219_25 : SC := .cond (.t 26) c219_26 .skip
def c219_30 : SC := .reg [ro 15 (.mv (.t 5)),
  ro 16 (.bn .add 3 (.t 15) (.c (.int .i64 1))),
  ro 5 (.asg (.t 16))] (some [0, 1, 5])
def c219_21 : SC := .seq (.block 1 (.seq (.drw [ro 17 (.mv (.t 0)),
  ro 18 (.mv (.t 5)),
  ro 19 (.ia 169 (.t 17) (.t 18)),
  ro 20 (.ld 249 (.t 19)),
  ro 21 (.mv (.t 1)),
  ro 22 (.mv (.t 5)),
  ro 23 (.ia 169 (.t 21) (.t 22)),
  ro 24 (.ld 249 (.t 23)),
  ro 25 (.call (.f 282) [(.t 20), (.t 24)]),
  ro 26 (.un .not (.t 25))] [[], [], [0, 1], [2], [], [], [4, 5], [6], [3, 7], [8]] (some [0, 1, 5, 26])) c219_25)) c219_30
def c219_15 : SC := .seq (.seq (.reg [ro 11 (.mv (.t 5)),
  ro 12 (.mv (.t 0)),
  ro 13 (.len 169 (.t 12)),
  ro 14 (.bn .lss 3 (.t 11) (.t 13))] (some [0, 1, 5, 14])) c219_18) c219_21
def c219_13 : SC := .block 0 (.loop c219_15)
def c219_31 : SC := .seq (.reg [ro 4 (.asg (.c (.bool true)))] (some [4])) .ret
def c219_10 : SC := .seq (.seq (.reg [ro 5 (.asg (.c (.int .i64 0)))] (some [0, 1, 5])) c219_13) c219_31
def c219_2 : SC := .seq (.seq (.reg [ro 6 (.mv (.t 0)),
  ro 7 (.len 169 (.t 6)),
  ro 8 (.mv (.t 1)),
  ro 9 (.len 169 (.t 8)),
  ro 10 (.bn .neq 3 (.t 7) (.t 9))] (some [0, 1, 10])) c219_5) c219_10
/-- loop.example/g01075/laws.eqPartS -/
def c219 : SC := .seq (.reg [ro 4 (.asg (.c (.bool false)))] (some [0, 1])) c219_2
theorem s219 : slimC ⟨27, [0, 1]⟩ (Try.f219.body.getD .skip) = some c219.strip := by kernel_rfl

def c136_6 : SC := .seq (.reg [ro 4 (.asg (.c (.bool false)))] (some [4])) .ret
def c136_5 : SC := .cond (.t 9) c136_6 .skip
def c136_14 : SC := .seq (.reg [ro 4 (.asg (.c (.bool false)))] (some [4])) .ret
def c136_13 : SC := .cond (.t 14) c136_14 .skip
def c136_22 : SC := .seq (.reg [ro 4 (.asg (.c (.bool false)))] (some [4])) .ret
def c136_21 : SC := .cond (.t 20) c136_22 .skip
def c136_26 : SC := .seq (.reg [ro 4 (.asg (.c (.bool true)))] (some [4])) .ret
def c136_18 : SC := .seq (.seq (.reg [ro 15 (.fa 171 (.t 2) 2),
  ro 16 (.ld 169 (.t 15)),
  ro 17 (.fa 171 (.t 3) 2),
  ro 18 (.ld 169 (.t 17)),
  ro 19 (.call (.f 219) [(.t 16), (.t 18)]),
  ro 20 (.un .not (.t 19))] (some [20])) c136_21) c136_26
def c136_10 : SC := .seq (.seq (.reg [ro 10 (.fa 171 (.t 2) 1),
  ro 11 (.ld 2 (.t 10)),
  ro 12 (.fa 171 (.t 3) 1),
  ro 13 (.ld 2 (.t 12)),
  ro 14 (.bn .neq 2 (.t 11) (.t 13))] (some [2, 3, 14])) c136_13) c136_18
def c136_2 : SC := .seq (.seq (.reg [ro 5 (.fa 171 (.t 2) 0),
  ro 6 (.ld 9 (.t 5)),
  ro 7 (.fa 171 (.t 3) 0),
  ro 8 (.ld 9 (.t 7)),
  ro 9 (.bn .neq 9 (.t 6) (.t 8))] (some [2, 3, 9])) c136_5) c136_10
/-- loop.example/g01075/laws.eqDefinition -/
def c136 : SC := .seq (.reg [ro 2 (.bx 171 (.t 0)),
  ro 3 (.bx 171 (.t 1)),
  ro 4 (.asg (.c (.bool false)))] (some [2, 3])) c136_2
theorem s136 : slimC ⟨21, [0, 1]⟩ (Try.f136.body.getD .skip) = some c136.strip := by kernel_rfl

def c54_6 : SC := .seq (.reg [ro 4 (.asg (.c (.bool false)))] (some [4])) .ret
def c54_5 : SC := .cond (.t 10) c54_6 .skip
def c54_18 : SC := .cond (.t 14) .skip (.exit 0)
def c54_26 : SC := .seq (.reg [ro 4 (.asg (.c (.bool false)))] (some [4])) .ret
def c54_25 : SC := .cond (.t 26) c54_26 .skip
def c54_30 : SC := .reg [ro 15 (.mv (.t 5)),
  ro 16 (.bn .add 3 (.t 15) (.c (.int .i64 1))),
  ro 5 (.asg (.t 16))] (some [0, 1, 5])
def c54_21 : SC := .seq (.block 1 (.seq (.drw [ro 17 (.mv (.t 0)),
  ro 18 (.mv (.t 5)),
  ro 19 (.ia 62 (.t 17) (.t 18)),
  ro 20 (.ld 171 (.t 19)),
  ro 21 (.mv (.t 1)),
  ro 22 (.mv (.t 5)),
  ro 23 (.ia 62 (.t 21) (.t 22)),
  ro 24 (.ld 171 (.t 23)),
  ro 25 (.call (.f 136) [(.t 20), (.t 24)]),
  ro 26 (.un .not (.t 25))] [[], [], [0, 1], [2], [], [], [4, 5], [6], [3, 7], [8]] (some [0, 1, 5, 26])) c54_25)) c54_30
def c54_15 : SC := .seq (.seq (.reg [ro 11 (.mv (.t 5)),
  ro 12 (.mv (.t 0)),
  ro 13 (.len 62 (.t 12)),
  ro 14 (.bn .lss 3 (.t 11) (.t 13))] (some [0, 1, 5, 14])) c54_18) c54_21
def c54_13 : SC := .block 0 (.loop c54_15)
def c54_31 : SC := .seq (.reg [ro 4 (.asg (.c (.bool true)))] (some [4])) .ret
def c54_10 : SC := .seq (.seq (.reg [ro 5 (.asg (.c (.int .i64 0)))] (some [0, 1, 5])) c54_13) c54_31
def c54_2 : SC := .seq (.seq (.reg [ro 6 (.mv (.t 0)),
  ro 7 (.len 62 (.t 6)),
  ro 8 (.mv (.t 1)),
  ro 9 (.len 62 (.t 8)),
  ro 10 (.bn .neq 3 (.t 7) (.t 9))] (some [0, 1, 10])) c54_5) c54_10
/-- loop.example/g01075/laws.eqDefinitionS -/
def c54 : SC := .seq (.reg [ro 4 (.asg (.c (.bool false)))] (some [0, 1])) c54_2
theorem s54 : slimC ⟨27, [0, 1]⟩ (Try.f54.body.getD .skip) = some c54.strip := by kernel_rfl

def c59_6 : SC := .seq (.reg [ro 4 (.asg (.c (.bool false)))] (some [4])) .ret
def c59_5 : SC := .cond (.t 10) c59_6 .skip
def c59_18 : SC := .cond (.t 14) .skip (.exit 0)
def c59_26 : SC := .seq (.reg [ro 4 (.asg (.c (.bool false)))] (some [4])) .ret
def c59_25 : SC := .cond (.t 25) c59_26 .skip
def c59_30 : SC := .reg [ro 15 (.mv (.t 5)),
  ro 16 (.bn .add 3 (.t 15) (.c (.int .i64 1))),
  ro 5 (.asg (.t 16))] (some [0, 1, 5])
def c59_21 : SC := .seq (.block 1 (.seq (.drw [ro 17 (.mv (.t 0)),
  ro 18 (.mv (.t 5)),
  ro 19 (.ia 68 (.t 17) (.t 18)),
  ro 20 (.ld 2 (.t 19)),
  ro 21 (.mv (.t 1)),
  ro 22 (.mv (.t 5)),
  ro 23 (.ia 68 (.t 21) (.t 22)),
  ro 24 (.ld 2 (.t 23)),
  ro 25 (.bn .neq 2 (.t 20) (.t 24))] [[], [], [0, 1], [2], [], [], [4, 5], [6], [3, 7]] (some [0, 1, 5, 25])) c59_25)) c59_30
def c59_15 : SC := .seq (.seq (.reg [ro 11 (.mv (.t 5)),
  ro 12 (.mv (.t 0)),
  ro 13 (.len 68 (.t 12)),
  ro 14 (.bn .lss 3 (.t 11) (.t 13))] (some [0, 1, 5, 14])) c59_18) c59_21
def c59_13 : SC := .block 0 (.loop c59_15)
def c59_31 : SC := .seq (.reg [ro 4 (.asg (.c (.bool true)))] (some [4])) .ret
def c59_10 : SC := .seq (.seq (.reg [ro 5 (.asg (.c (.int .i64 0)))] (some [0, 1, 5])) c59_13) c59_31
def c59_2 : SC := .seq (.seq (.reg [ro 6 (.mv (.t 0)),
  ro 7 (.len 68 (.t 6)),
  ro 8 (.mv (.t 1)),
  ro 9 (.len 68 (.t 8)),
  ro 10 (.bn .neq 3 (.t 7) (.t 9))] (some [0, 1, 10])) c59_5) c59_10
/-- loop.example/g01075/laws.eqInt64S -/
def c59 : SC := .seq (.reg [ro 4 (.asg (.c (.bool false)))] (some [0, 1])) c59_2
theorem s59 : slimC ⟨26, [0, 1]⟩ (Try.f59.body.getD .skip) = some c59.strip := by kernel_rfl

def c71_6 : SC := .seq (.reg [ro 4 (.asg (.c (.bool false)))] (some [4])) .ret
def c71_5 : SC := .cond (.t 9) c71_6 .skip
def c71_14 : SC := .seq (.reg [ro 4 (.asg (.c (.bool false)))] (some [4])) .ret
def c71_13 : SC := .cond (.t 14) c71_14 .skip
def c71_22 : SC := .seq (.reg [ro 4 (.asg (.c (.bool false)))] (some [4])) .ret
def c71_21 : SC := .cond (.t 20) c71_22 .skip
def c71_26 : SC := .seq (.reg [ro 4 (.asg (.c (.bool true)))] (some [4])) .ret
def c71_18 : SC := .seq (.seq (.reg [ro 15 (.fa 80 (.t 2) 2),
  ro 16 (.ld 68 (.t 15)),
  ro 17 (.fa 80 (.t 3) 2),
  ro 18 (.ld 68 (.t 17)),
  ro 19 (.call (.f 59) [(.t 16), (.t 18)]),
  ro 20 (.un .not (.t 19))] (some [20])) c71_21) c71_26
def c71_10 : SC := .seq (.seq (.reg [ro 10 (.fa 80 (.t 2) 1),
  ro 11 (.ld 2 (.t 10)),
  ro 12 (.fa 80 (.t 3) 1),
  ro 13 (.ld 2 (.t 12)),
  ro 14 (.bn .neq 2 (.t 11) (.t 13))] (some [2, 3, 14])) c71_13) c71_18
def c71_2 : SC := .seq (.seq (.reg [ro 5 (.fa 80 (.t 2) 0),
  ro 6 (.ld 2 (.t 5)),
  ro 7 (.fa 80 (.t 3) 0),
  ro 8 (.ld 2 (.t 7)),
  ro 9 (.bn .neq 2 (.t 6) (.t 8))] (some [2, 3, 9])) c71_5) c71_10
/-- loop.example/g01075/laws.eqPoint -/
def c71 : SC := .seq (.reg [ro 2 (.bx 80 (.t 0)),
  ro 3 (.bx 80 (.t 1)),
  ro 4 (.asg (.c (.bool false)))] (some [2, 3])) c71_2
theorem s71 : slimC ⟨21, [0, 1]⟩ (Try.f71.body.getD .skip) = some c71.strip := by kernel_rfl

def c15_10 : SC := .seq (.reg [ro 4 (.asg (.c (.bool true)))] (some [4])) .ret
def c15_9 : SC := .cond (.t 14) c15_10 .skip
def c15_20 : SC := .seq (.reg [ro 4 (.asg (.c (.bool true)))] (some [4])) .ret
def c15_19 : SC := .cond (.t 19) c15_20 .skip
def c15_36 : SC := .seq (.reg [ro 4 (.asg (.c (.bool false)))] (some [4])) .ret
def c15_35 : SC := .cond (.t 34) c15_36 .skip
def c15_44 : SC := .seq (.reg [ro 4 (.asg (.c (.bool false)))] (some [4])) .ret
def c15_43 : SC := .cond (.t 39) c15_44 .skip
def c15_52 : SC := .seq (.reg [ro 4 (.asg (.c (.bool false)))] (some [4])) .ret
def c15_51 : SC := .cond (.t 44) c15_52 .skip
def c15_56 : SC := .seq (.reg [ro 4 (.asg (.c (.bool true)))] (some [4])) .ret
def c15_48 : SC := .seq (.seq (.drw [ro 40 (.ld 80 (.t 8)),
  ro 41 (.ld 77 (.t 3)),
  ro 42 (.call (.f 69) [(.t 41)]),
  ro 43 (.call (.f 71) [(.t 40), (.t 42)]),
  ro 44 (.un .not (.t 43))] [[], [], [1], [0, 2, 2], [3]] (some [44])) c15_51) c15_56
def c15_40 : SC := .seq (.seq (.reg [ro 35 (.mv (.t 7)),
  ro 36 (.mv (.t 0)),
  ro 37 (.call (.f 52) [(.t 36)]),
  ro 38 (.call (.f 54) [(.t 35), (.t 37)]),
  ro 39 (.un .not (.t 38))] (some [3, 8, 39])) c15_43) c15_48
def c15_32 : SC := .seq (.seq (.reg [ro 32 (.mv (.t 9)),
  ro 33 (.mv (.t 6)),
  ro 34 (.bn .neq 4 (.t 32) (.t 33))] (some [0, 3, 7, 8, 34])) c15_35) c15_40
def c15_30 : SC := .seq (.reg [ro 29 (.mv (.t 7)),
  ro 30 (.ld 80 (.t 8)),
  ro 31 (.call (.f 70) [(.t 29), (.t 30)]),
  ro 9 (.asg (.t 31))] (some [0, 3, 6, 7, 8, 9])) c15_32
def c15_28 : SC := .seq (.reg [ro 27 (.ld 77 (.t 3)),
  ro 28 (.call (.f 69) [(.t 27)]),
  ro 8 (.alc 80),
  ⟨none, .sto 80 (.t 8) (.t 28), none⟩] (some [0, 3, 6, 7, 8])) c15_30
def c15_26 : SC := .seq (.reg [ro 25 (.mv (.t 0)),
  ro 26 (.call (.f 52) [(.t 25)]),
  ro 7 (.asg (.t 26))] (some [0, 3, 6, 7])) c15_28
def c15_24 : SC := .seq (.drw [ro 20 (.mv (.t 0)),
  ro 21 (.call (.f 52) [(.t 20)]),
  ro 22 (.ld 77 (.t 3)),
  ro 23 (.call (.f 69) [(.t 22)]),
  ro 24 (.call (.f 68) [(.t 21), (.t 23)]),
  ro 6 (.asg (.t 24))] [[], [0], [], [2, 1], [1, 3, 3], [4, 4, 0, 1, 2, 3, 4]] (some [0, 3, 6])) c15_26
def c15_16 : SC := .seq (.seq (.reg [ro 18 (.mv (.t 5)),
  ro 19 (.bn .lss 3 (.t 18) (.c (.int .i64 0)))] (some [0, 3, 19])) c15_19) c15_24
def c15_14 : SC := .seq (.reg [ro 15 (.ld 77 (.t 3)),
  ro 16 (.mv (.t 5)),
  ro 17 (.call (.f 67) [(.t 15), (.t 16)]),
  ro 5 (.asg (.t 17))] (some [0, 3, 5])) c15_16
def c15_6 : SC := .seq (.seq (.reg [ro 13 (.mv (.t 5)),
  ro 14 (.bn .lss 3 (.t 13) (.c (.int .i64 0)))] (some [0, 3, 5, 14])) c15_9) c15_14
def c15_4 : SC := .seq (.reg [ro 10 (.mv (.t 0)),
  ro 11 (.mv (.t 5)),
  ro 12 (.call (.f 50) [(.t 10), (.t 11)]),
  ro 5 (.asg (.t 12))] (some [0, 3, 5])) c15_6
def c15_2 : SC := .seq (.reg [ro 5 (.asg (.c (.int .i64 1048576)))] (some [0, 3, 5])) c15_4
/-- loop.example/g01075/laws.FnExactValidPoint -/
def c15 : SC := .seq (.reg [ro 3 (.bx 77 (.t 1)),
  ro 4 (.asg (.c (.bool false)))] (some [0, 3])) c15_2
theorem s15 : slimC ⟨45, [0, 1]⟩ (Try.f15.body.getD .skip) = some c15.strip := by kernel_rfl

end Go.Proofs.Ytobljppjkklojaa
