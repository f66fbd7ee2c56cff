/- Part of a proof that a law returns true for every input. No condition. -/
import Derived.Test.YtobljppjkklojaaGreatTb
import Derived.Test.YtobljppjkklojaaGreatFwL
import Derived.Test.YtobljppjkklojaaGreatP8
namespace Go.Proofs.YtobljppjkklojaaGreat
open Go Go.Fw Go.Sh
set_option linter.unusedSimpArgs false

def e_laws_Term (x : laws_Term) : AV := .agg [.int .i64 x.Kind, .int .i64 x.Value]
theorem sh_e_laws_Term (x : laws_Term) : (e_laws_Term x).share = e_laws_Term x := by
  simp only [e_laws_Term, share_s]
theorem ns_e_laws_Term (x : laws_Term) : (e_laws_Term x).nosh = true := by
  simp only [e_laws_Term, AV.nosh, AV.noshs, Bool.and_self]
def e_s_laws_Term (x : List laws_Term) : AV := .slice (x.map e_laws_Term)
theorem sh_e_s_laws_Term (x : List laws_Term) : (e_s_laws_Term x).share = e_s_laws_Term x := by
  simp only [e_s_laws_Term, share_s, @shares_map _ e_laws_Term e_laws_Term (fun _ => sh_e_laws_Term _)]
def e_laws_Part (x : laws_Part) : AV := .agg [.int .i64 x.Kind, .int .i64 x.Number, .str x.Name, .slice (x.Arguments.map e_s_laws_Term)]
theorem sh_e_laws_Part (x : laws_Part) : (e_laws_Part x).share = e_laws_Part x := by
  simp only [e_laws_Part, share_s, @shares_map _ e_s_laws_Term e_s_laws_Term (fun _ => sh_e_s_laws_Term _)]
def e_laws_Definition (x : laws_Definition) : AV := .agg [.str x.Name, .int .i64 x.Parameters, .slice (x.Body.map e_laws_Part)]
theorem sh_e_laws_Definition (x : laws_Definition) : (e_laws_Definition x).share = e_laws_Definition x := by
  simp only [e_laws_Definition, share_s, @shares_map _ e_laws_Part e_laws_Part (fun _ => sh_e_laws_Part _)]
def e_i64 (x : Int) : AV := .int .i64 x
theorem sh_e_i64 (x : Int) : (e_i64 x).share = e_i64 x := by
  simp only [e_i64, share_s]
theorem ns_e_i64 (x : Int) : (e_i64 x).nosh = true := by
  simp only [e_i64, AV.nosh, AV.noshs, Bool.and_self]
def e_laws_Component (x : laws_Component) : AV := .agg [.int .i64 x.Definition, .slice (x.Values.map e_i64)]
theorem sh_e_laws_Component (x : laws_Component) : (e_laws_Component x).share = e_laws_Component x := by
  simp only [e_laws_Component, share_s, @shares_map _ e_i64 e_i64 (fun _ => sh_e_i64 _)]
def e_laws_Meeting (x : laws_Meeting) : AV := .agg [.str x.Left, .str x.Right, .str x.Result]
theorem sh_e_laws_Meeting (x : laws_Meeting) : (e_laws_Meeting x).share = e_laws_Meeting x := by
  simp only [e_laws_Meeting, share_s]
theorem ns_e_laws_Meeting (x : laws_Meeting) : (e_laws_Meeting x).nosh = true := by
  simp only [e_laws_Meeting, AV.nosh, AV.noshs, Bool.and_self]
def e_str (x : List UInt8) : AV := .str x
theorem sh_e_str (x : List UInt8) : (e_str x).share = e_str x := by
  simp only [e_str, share_s]
theorem ns_e_str (x : List UInt8) : (e_str x).nosh = true := by
  simp only [e_str, AV.nosh, AV.noshs, Bool.and_self]
def e_laws_System (x : laws_System) : AV := .agg [.slice (x.Definitions.map e_laws_Definition), .slice (x.Components.map e_laws_Component), .slice (x.Meetings.map e_laws_Meeting), .slice (x.Allowed.map e_str), .slice (x.Hidden.map e_str)]
theorem sh_e_laws_System (x : laws_System) : (e_laws_System x).share = e_laws_System x := by
  simp only [e_laws_System, share_s, @shares_map _ e_laws_Definition e_laws_Definition (fun _ => sh_e_laws_Definition _), @shares_map _ e_laws_Component e_laws_Component (fun _ => sh_e_laws_Component _), @shares_map _ e_laws_Meeting e_laws_Meeting (fun _ => sh_e_laws_Meeting _), @shares_map _ e_str e_str (fun _ => sh_e_str _)]
def e_laws_Point (x : laws_Point) : AV := .agg [.int .i64 x.Definition, .int .i64 x.Part, .slice (x.Values.map e_i64)]
theorem sh_e_laws_Point (x : laws_Point) : (e_laws_Point x).share = e_laws_Point x := by
  simp only [e_laws_Point, share_s, @shares_map _ e_i64 e_i64 (fun _ => sh_e_i64 _)]
def e_s_laws_Definition (x : List laws_Definition) : AV := .slice (x.map e_laws_Definition)
theorem sh_e_s_laws_Definition (x : List laws_Definition) : (e_s_laws_Definition x).share = e_s_laws_Definition x := by
  simp only [e_s_laws_Definition, share_s, @shares_map _ e_laws_Definition e_laws_Definition (fun _ => sh_e_laws_Definition _)]
def e_s_laws_Component (x : List laws_Component) : AV := .slice (x.map e_laws_Component)
theorem sh_e_s_laws_Component (x : List laws_Component) : (e_s_laws_Component x).share = e_s_laws_Component x := by
  simp only [e_s_laws_Component, share_s, @shares_map _ e_laws_Component e_laws_Component (fun _ => sh_e_laws_Component _)]
def e_s_laws_Meeting (x : List laws_Meeting) : AV := .slice (x.map e_laws_Meeting)
theorem sh_e_s_laws_Meeting (x : List laws_Meeting) : (e_s_laws_Meeting x).share = e_s_laws_Meeting x := by
  simp only [e_s_laws_Meeting, share_s, @shares_map _ e_laws_Meeting e_laws_Meeting (fun _ => sh_e_laws_Meeting _)]
def e_s_str (x : List (List UInt8)) : AV := .slice (x.map e_str)
theorem sh_e_s_str (x : List (List UInt8)) : (e_s_str x).share = e_s_str x := by
  simp only [e_s_str, share_s, @shares_map _ e_str e_str (fun _ => sh_e_str _)]
def e_s_laws_Part (x : List laws_Part) : AV := .slice (x.map e_laws_Part)
theorem sh_e_s_laws_Part (x : List laws_Part) : (e_s_laws_Part x).share = e_s_laws_Part x := by
  simp only [e_s_laws_Part, share_s, @shares_map _ e_laws_Part e_laws_Part (fun _ => sh_e_laws_Part _)]
def e_s_s_laws_Term (x : List (List laws_Term)) : AV := .slice (x.map e_s_laws_Term)
theorem sh_e_s_s_laws_Term (x : List (List laws_Term)) : (e_s_s_laws_Term x).share = e_s_s_laws_Term x := by
  simp only [e_s_s_laws_Term, share_s, @shares_map _ e_s_laws_Term e_s_laws_Term (fun _ => sh_e_s_laws_Term _)]
def e_s_i64 (x : List Int) : AV := .slice (x.map e_i64)
theorem sh_e_s_i64 (x : List Int) : (e_s_i64 x).share = e_s_i64 x := by
  simp only [e_s_i64, share_s, @shares_map _ e_i64 e_i64 (fun _ => sh_e_i64 _)]
def e_impl_Term (x : impl_Term) : AV := .agg [.int .i64 x.Kind, .int .i64 x.Value]
theorem sh_e_impl_Term (x : impl_Term) : (e_impl_Term x).share = e_impl_Term x := by
  simp only [e_impl_Term, share_s]
theorem ns_e_impl_Term (x : impl_Term) : (e_impl_Term x).nosh = true := by
  simp only [e_impl_Term, AV.nosh, AV.noshs, Bool.and_self]
def e_s_impl_Term (x : List impl_Term) : AV := .slice (x.map e_impl_Term)
theorem sh_e_s_impl_Term (x : List impl_Term) : (e_s_impl_Term x).share = e_s_impl_Term x := by
  simp only [e_s_impl_Term, share_s, @shares_map _ e_impl_Term e_impl_Term (fun _ => sh_e_impl_Term _)]
def e_impl_Part (x : impl_Part) : AV := .agg [.int .i64 x.Kind, .int .i64 x.Number, .str x.Name, .slice (x.Arguments.map e_s_impl_Term)]
theorem sh_e_impl_Part (x : impl_Part) : (e_impl_Part x).share = e_impl_Part x := by
  simp only [e_impl_Part, share_s, @shares_map _ e_s_impl_Term e_s_impl_Term (fun _ => sh_e_s_impl_Term _)]
def e_impl_Definition (x : impl_Definition) : AV := .agg [.str x.Name, .int .i64 x.Parameters, .slice (x.Body.map e_impl_Part)]
theorem sh_e_impl_Definition (x : impl_Definition) : (e_impl_Definition x).share = e_impl_Definition x := by
  simp only [e_impl_Definition, share_s, @shares_map _ e_impl_Part e_impl_Part (fun _ => sh_e_impl_Part _)]
def u_s_impl_Term (x : List impl_Term) : AV := .uslice 2 (x.map e_impl_Term)
theorem sh_u_s_impl_Term (x : List impl_Term) : (u_s_impl_Term x).share = e_s_impl_Term x := by
  simp only [u_s_impl_Term, e_s_impl_Term, share_s, @shares_map _ e_impl_Term e_impl_Term (fun _ => sh_e_impl_Term _)]
theorem ns_u_s_impl_Term (x : List impl_Term) : (u_s_impl_Term x).nosh = true := by
  simp only [u_s_impl_Term, AV.nosh, AV.noshs, Bool.and_self, @noshs_map _ e_impl_Term (fun _ => ns_e_impl_Term _)]
def u_impl_Part (x : impl_Part) : AV := .agg [.int .i64 x.Kind, .int .i64 x.Number, .str x.Name, .uslice 1 (x.Arguments.map u_s_impl_Term)]
theorem sh_u_impl_Part (x : impl_Part) : (u_impl_Part x).share = e_impl_Part x := by
  simp only [u_impl_Part, e_impl_Part, share_s, @shares_map _ u_s_impl_Term e_s_impl_Term (fun _ => sh_u_s_impl_Term _)]
theorem ns_u_impl_Part (x : impl_Part) : (u_impl_Part x).nosh = true := by
  simp only [u_impl_Part, AV.nosh, AV.noshs, Bool.and_self, @noshs_map _ u_s_impl_Term (fun _ => ns_u_s_impl_Term _)]
def u_impl_Definition (x : impl_Definition) : AV := .agg [.str x.Name, .int .i64 x.Parameters, .uslice 4 (x.Body.map u_impl_Part)]
theorem sh_u_impl_Definition (x : impl_Definition) : (u_impl_Definition x).share = e_impl_Definition x := by
  simp only [u_impl_Definition, e_impl_Definition, share_s, @shares_map _ u_impl_Part e_impl_Part (fun _ => sh_u_impl_Part _)]
theorem ns_u_impl_Definition (x : impl_Definition) : (u_impl_Definition x).nosh = true := by
  simp only [u_impl_Definition, AV.nosh, AV.noshs, Bool.and_self, @noshs_map _ u_impl_Part (fun _ => ns_u_impl_Part _)]
def u_s_impl_Part (x : List impl_Part) : AV := .uslice 4 (x.map u_impl_Part)
def e_s_impl_Part (x : List impl_Part) : AV := .slice (x.map e_impl_Part)
theorem sh_e_s_impl_Part (x : List impl_Part) : (e_s_impl_Part x).share = e_s_impl_Part x := by
  simp only [e_s_impl_Part, share_s, @shares_map _ e_impl_Part e_impl_Part (fun _ => sh_e_impl_Part _)]
theorem sh_u_s_impl_Part (x : List impl_Part) : (u_s_impl_Part x).share = e_s_impl_Part x := by
  simp only [u_s_impl_Part, e_s_impl_Part, share_s, @shares_map _ u_impl_Part e_impl_Part (fun _ => sh_u_impl_Part _)]
theorem ns_u_s_impl_Part (x : List impl_Part) : (u_s_impl_Part x).nosh = true := by
  simp only [u_s_impl_Part, AV.nosh, AV.noshs, Bool.and_self, @noshs_map _ u_impl_Part (fun _ => ns_u_impl_Part _)]
def u_s_s_impl_Term (x : List (List impl_Term)) : AV := .uslice 1 (x.map u_s_impl_Term)
def e_s_s_impl_Term (x : List (List impl_Term)) : AV := .slice (x.map e_s_impl_Term)
theorem sh_e_s_s_impl_Term (x : List (List impl_Term)) : (e_s_s_impl_Term x).share = e_s_s_impl_Term x := by
  simp only [e_s_s_impl_Term, share_s, @shares_map _ e_s_impl_Term e_s_impl_Term (fun _ => sh_e_s_impl_Term _)]
theorem sh_u_s_s_impl_Term (x : List (List impl_Term)) : (u_s_s_impl_Term x).share = e_s_s_impl_Term x := by
  simp only [u_s_s_impl_Term, e_s_s_impl_Term, share_s, @shares_map _ u_s_impl_Term e_s_impl_Term (fun _ => sh_u_s_impl_Term _)]
theorem ns_u_s_s_impl_Term (x : List (List impl_Term)) : (u_s_s_impl_Term x).nosh = true := by
  simp only [u_s_s_impl_Term, AV.nosh, AV.noshs, Bool.and_self, @noshs_map _ u_s_impl_Term (fun _ => ns_u_s_impl_Term _)]
def e_impl_Component (x : impl_Component) : AV := .agg [.int .i64 x.Definition, .slice (x.Values.map e_i64)]
theorem sh_e_impl_Component (x : impl_Component) : (e_impl_Component x).share = e_impl_Component x := by
  simp only [e_impl_Component, share_s, @shares_map _ e_i64 e_i64 (fun _ => sh_e_i64 _)]
def u_impl_Component (x : impl_Component) : AV := .agg [.int .i64 x.Definition, .uslice 1 (x.Values.map e_i64)]
theorem sh_u_impl_Component (x : impl_Component) : (u_impl_Component x).share = e_impl_Component x := by
  simp only [u_impl_Component, e_impl_Component, share_s, @shares_map _ e_i64 e_i64 (fun _ => sh_e_i64 _)]
theorem ns_u_impl_Component (x : impl_Component) : (u_impl_Component x).nosh = true := by
  simp only [u_impl_Component, AV.nosh, AV.noshs, Bool.and_self, @noshs_map _ e_i64 (fun _ => ns_e_i64 _)]
def u_s_i64 (x : List Int) : AV := .uslice 1 (x.map e_i64)
theorem sh_u_s_i64 (x : List Int) : (u_s_i64 x).share = e_s_i64 x := by
  simp only [u_s_i64, e_s_i64, share_s, @shares_map _ e_i64 e_i64 (fun _ => sh_e_i64 _)]
theorem ns_u_s_i64 (x : List Int) : (u_s_i64 x).nosh = true := by
  simp only [u_s_i64, AV.nosh, AV.noshs, Bool.and_self, @noshs_map _ e_i64 (fun _ => ns_e_i64 _)]
def e_impl_Meeting (x : impl_Meeting) : AV := .agg [.str x.Left, .str x.Right, .str x.Result]
theorem sh_e_impl_Meeting (x : impl_Meeting) : (e_impl_Meeting x).share = e_impl_Meeting x := by
  simp only [e_impl_Meeting, share_s]
theorem ns_e_impl_Meeting (x : impl_Meeting) : (e_impl_Meeting x).nosh = true := by
  simp only [e_impl_Meeting, AV.nosh, AV.noshs, Bool.and_self]
def u_impl_System (x : impl_System) : AV := .agg [.uslice 3 (x.Definitions.map u_impl_Definition), .uslice 2 (x.Components.map u_impl_Component), .uslice 3 (x.Meetings.map e_impl_Meeting), .uslice 1 (x.Allowed.map e_str), .uslice 1 (x.Hidden.map e_str)]
def e_impl_System (x : impl_System) : AV := .agg [.slice (x.Definitions.map e_impl_Definition), .slice (x.Components.map e_impl_Component), .slice (x.Meetings.map e_impl_Meeting), .slice (x.Allowed.map e_str), .slice (x.Hidden.map e_str)]
theorem sh_e_impl_System (x : impl_System) : (e_impl_System x).share = e_impl_System x := by
  simp only [e_impl_System, share_s, @shares_map _ e_impl_Definition e_impl_Definition (fun _ => sh_e_impl_Definition _), @shares_map _ e_impl_Component e_impl_Component (fun _ => sh_e_impl_Component _), @shares_map _ e_impl_Meeting e_impl_Meeting (fun _ => sh_e_impl_Meeting _), @shares_map _ e_str e_str (fun _ => sh_e_str _)]
theorem sh_u_impl_System (x : impl_System) : (u_impl_System x).share = e_impl_System x := by
  simp only [u_impl_System, e_impl_System, share_s, @shares_map _ u_impl_Definition e_impl_Definition (fun _ => sh_u_impl_Definition _), @shares_map _ u_impl_Component e_impl_Component (fun _ => sh_u_impl_Component _), @shares_map _ e_impl_Meeting e_impl_Meeting (fun _ => sh_e_impl_Meeting _), @shares_map _ e_str e_str (fun _ => sh_e_str _)]
theorem ns_u_impl_System (x : impl_System) : (u_impl_System x).nosh = true := by
  simp only [u_impl_System, AV.nosh, AV.noshs, Bool.and_self, @noshs_map _ u_impl_Definition (fun _ => ns_u_impl_Definition _), @noshs_map _ u_impl_Component (fun _ => ns_u_impl_Component _), @noshs_map _ e_impl_Meeting (fun _ => ns_e_impl_Meeting _), @noshs_map _ e_str (fun _ => ns_e_str _)]
def u_s_impl_Definition (x : List impl_Definition) : AV := .uslice 3 (x.map u_impl_Definition)
def e_s_impl_Definition (x : List impl_Definition) : AV := .slice (x.map e_impl_Definition)
theorem sh_e_s_impl_Definition (x : List impl_Definition) : (e_s_impl_Definition x).share = e_s_impl_Definition x := by
  simp only [e_s_impl_Definition, share_s, @shares_map _ e_impl_Definition e_impl_Definition (fun _ => sh_e_impl_Definition _)]
theorem sh_u_s_impl_Definition (x : List impl_Definition) : (u_s_impl_Definition x).share = e_s_impl_Definition x := by
  simp only [u_s_impl_Definition, e_s_impl_Definition, share_s, @shares_map _ u_impl_Definition e_impl_Definition (fun _ => sh_u_impl_Definition _)]
theorem ns_u_s_impl_Definition (x : List impl_Definition) : (u_s_impl_Definition x).nosh = true := by
  simp only [u_s_impl_Definition, AV.nosh, AV.noshs, Bool.and_self, @noshs_map _ u_impl_Definition (fun _ => ns_u_impl_Definition _)]
def u_s_impl_Component (x : List impl_Component) : AV := .uslice 2 (x.map u_impl_Component)
def e_s_impl_Component (x : List impl_Component) : AV := .slice (x.map e_impl_Component)
theorem sh_e_s_impl_Component (x : List impl_Component) : (e_s_impl_Component x).share = e_s_impl_Component x := by
  simp only [e_s_impl_Component, share_s, @shares_map _ e_impl_Component e_impl_Component (fun _ => sh_e_impl_Component _)]
theorem sh_u_s_impl_Component (x : List impl_Component) : (u_s_impl_Component x).share = e_s_impl_Component x := by
  simp only [u_s_impl_Component, e_s_impl_Component, share_s, @shares_map _ u_impl_Component e_impl_Component (fun _ => sh_u_impl_Component _)]
theorem ns_u_s_impl_Component (x : List impl_Component) : (u_s_impl_Component x).nosh = true := by
  simp only [u_s_impl_Component, AV.nosh, AV.noshs, Bool.and_self, @noshs_map _ u_impl_Component (fun _ => ns_u_impl_Component _)]
def u_s_impl_Meeting (x : List impl_Meeting) : AV := .uslice 3 (x.map e_impl_Meeting)
def e_s_impl_Meeting (x : List impl_Meeting) : AV := .slice (x.map e_impl_Meeting)
theorem sh_e_s_impl_Meeting (x : List impl_Meeting) : (e_s_impl_Meeting x).share = e_s_impl_Meeting x := by
  simp only [e_s_impl_Meeting, share_s, @shares_map _ e_impl_Meeting e_impl_Meeting (fun _ => sh_e_impl_Meeting _)]
theorem sh_u_s_impl_Meeting (x : List impl_Meeting) : (u_s_impl_Meeting x).share = e_s_impl_Meeting x := by
  simp only [u_s_impl_Meeting, e_s_impl_Meeting, share_s, @shares_map _ e_impl_Meeting e_impl_Meeting (fun _ => sh_e_impl_Meeting _)]
theorem ns_u_s_impl_Meeting (x : List impl_Meeting) : (u_s_impl_Meeting x).nosh = true := by
  simp only [u_s_impl_Meeting, AV.nosh, AV.noshs, Bool.and_self, @noshs_map _ e_impl_Meeting (fun _ => ns_e_impl_Meeting _)]
def u_s_str (x : List (List UInt8)) : AV := .uslice 1 (x.map e_str)
theorem sh_u_s_str (x : List (List UInt8)) : (u_s_str x).share = e_s_str x := by
  simp only [u_s_str, e_s_str, share_s, @shares_map _ e_str e_str (fun _ => sh_e_str _)]
theorem ns_u_s_str (x : List (List UInt8)) : (u_s_str x).nosh = true := by
  simp only [u_s_str, AV.nosh, AV.noshs, Bool.and_self, @noshs_map _ e_str (fun _ => ns_e_str _)]
def e_impl_Point (x : impl_Point) : AV := .agg [.int .i64 x.Definition, .int .i64 x.Part, .slice (x.Values.map e_i64)]
theorem sh_e_impl_Point (x : impl_Point) : (e_impl_Point x).share = e_impl_Point x := by
  simp only [e_impl_Point, share_s, @shares_map _ e_i64 e_i64 (fun _ => sh_e_i64 _)]
def u_impl_Point (x : impl_Point) : AV := .agg [.int .i64 x.Definition, .int .i64 x.Part, .uslice 1 (x.Values.map e_i64)]
theorem sh_u_impl_Point (x : impl_Point) : (u_impl_Point x).share = e_impl_Point x := by
  simp only [u_impl_Point, e_impl_Point, share_s, @shares_map _ e_i64 e_i64 (fun _ => sh_e_i64 _)]
theorem ns_u_impl_Point (x : impl_Point) : (u_impl_Point x).nosh = true := by
  simp only [u_impl_Point, AV.nosh, AV.noshs, Bool.and_self, @noshs_map _ e_i64 (fun _ => ns_e_i64 _)]
def e_impl_place (x : impl_place) : AV := .agg [.int .i64 x.scope, .bool x.behind]
theorem sh_e_impl_place (x : impl_place) : (e_impl_place x).share = e_impl_place x := by
  simp only [e_impl_place, share_s]
theorem ns_e_impl_place (x : impl_place) : (e_impl_place x).nosh = true := by
  simp only [e_impl_place, AV.nosh, AV.noshs, Bool.and_self]
def e_bool (x : Bool) : AV := .bool x
theorem sh_e_bool (x : Bool) : (e_bool x).share = e_bool x := by
  simp only [e_bool, share_s]
theorem ns_e_bool (x : Bool) : (e_bool x).nosh = true := by
  simp only [e_bool, AV.nosh, AV.noshs, Bool.and_self]

def c156_8 : SC := .seq (.reg [ro 4 (.asg (.c (.int .i64 (-1))))] (some [4])) .ret
def c156_7 : SC := .cond (.t 10) c156_8 .skip
def c156_12 : SC := .seq (.reg [ro 11 (.mv (.t 1)),
  ro 4 (.asg (.t 11))] (some [4])) .ret
def c156_4 : SC := .seq (.seq (.reg [ro 9 (.mv (.t 1)),
  ro 10 (.bn .lss 3 (.t 9) (.c (.int .i64 0)))] (some [1, 10])) c156_7) c156_12
def c156_2 : SC := .seq (.reg [ro 5 (.mv (.t 1)),
  ro 6 (.mv (.t 0)),
  ro 7 (.len 138 (.t 6)),
  ro 8 (.bn .sub 3 (.t 5) (.t 7)),
  ro 1 (.asg (.t 8))] (some [1])) c156_4
/-- loop.example/g01075/laws.szTermS -/
def c156 : SC := .seq (.reg [ro 4 (.asg (.c (.int .i64 0)))] (some [0, 1])) c156_2
theorem s156 : slimC ⟨12, [0]⟩ (Tryz.f156.body.getD .skip) = some c156.strip := by kernel_rfl

def c157_8 : SC := .seq (.reg [ro 4 (.asg (.c (.int .i64 (-1))))] (some [4])) .ret
def c157_7 : SC := .cond (.t 11) c157_8 .skip
def c157_20 : SC := .cond (.t 15) .skip (.exit 0)
def c157_30 : SC := .seq (.reg [ro 4 (.asg (.c (.int .i64 (-1))))] (some [4])) .ret
def c157_29 : SC := .cond (.t 25) c157_30 .skip
def c157_27 : SC := .seq (.reg [ro 24 (.mv (.t 1)),
  ro 25 (.bn .lss 3 (.t 24) (.c (.int .i64 0)))] (some [0, 1, 5, 25])) c157_29
def c157_34 : SC := .reg [ro 16 (.mv (.t 5)),
  ro 17 (.bn .add 3 (.t 16) (.c (.int .i64 1))),
  ro 5 (.asg (.t 17))] (some [0, 1, 5])
def c157_23 : SC := .seq (.block 1 (.seq (.reg [ro 18 (.mv (.t 0)),
  ro 19 (.mv (.t 5)),
  ro 20 (.ia 139 (.t 18) (.t 19)),
  ro 21 (.ld 138 (.t 20)),
  ro 22 (.mv (.t 1)),
  ro 23 (.call (.f 156) [(.t 21), (.t 22)]),
  ro 1 (.asg (.t 23))] (some [0, 1, 5])) c157_27)) c157_34
def c157_17 : SC := .seq (.seq (.reg [ro 12 (.mv (.t 5)),
  ro 13 (.mv (.t 0)),
  ro 14 (.len 139 (.t 13)),
  ro 15 (.bn .lss 3 (.t 12) (.t 14))] (some [0, 1, 5, 15])) c157_20) c157_23
def c157_15 : SC := .block 0 (.loop c157_17)
def c157_35 : SC := .seq (.reg [ro 26 (.mv (.t 1)),
  ro 4 (.asg (.t 26))] (some [4])) .ret
def c157_12 : SC := .seq (.seq (.reg [ro 5 (.asg (.c (.int .i64 0)))] (some [0, 1, 5])) c157_15) c157_35
def c157_4 : SC := .seq (.seq (.reg [ro 10 (.mv (.t 1)),
  ro 11 (.bn .lss 3 (.t 10) (.c (.int .i64 0)))] (some [0, 1, 11])) c157_7) c157_12
def c157_2 : SC := .seq (.reg [ro 6 (.mv (.t 1)),
  ro 7 (.mv (.t 0)),
  ro 8 (.len 139 (.t 7)),
  ro 9 (.bn .sub 3 (.t 6) (.t 8)),
  ro 1 (.asg (.t 9))] (some [0, 1])) c157_4
/-- loop.example/g01075/laws.szTermSS -/
def c157 : SC := .seq (.reg [ro 4 (.asg (.c (.int .i64 0)))] (some [0, 1])) c157_2
theorem s157 : slimC ⟨27, [0]⟩ (Tryz.f157.body.getD .skip) = some c157.strip := by kernel_rfl

def c223_8 : SC := .seq (.reg [ro 4 (.asg (.c (.int .i64 (-1))))] (some [4])) .ret
def c223_7 : SC := .cond (.t 11) c223_8 .skip
def c223_18 : SC := .seq (.reg [ro 4 (.asg (.c (.int .i64 (-1))))] (some [4])) .ret
def c223_17 : SC := .cond (.t 17) c223_18 .skip
def c223_22 : SC := .seq (.reg [ro 18 (.mv (.t 1)),
  ro 4 (.asg (.t 18))] (some [4])) .ret
def c223_14 : SC := .seq (.seq (.reg [ro 16 (.mv (.t 1)),
  ro 17 (.bn .lss 3 (.t 16) (.c (.int .i64 0)))] (some [1, 17])) c223_17) c223_22
def c223_12 : SC := .seq (.reg [ro 12 (.fa 261 (.t 2) 3),
  ro 13 (.ld 139 (.t 12)),
  ro 14 (.mv (.t 1)),
  ro 15 (.call (.f 157) [(.t 13), (.t 14)]),
  ro 1 (.asg (.t 15))] (some [1])) c223_14
def c223_4 : SC := .seq (.seq (.reg [ro 10 (.mv (.t 1)),
  ro 11 (.bn .lss 3 (.t 10) (.c (.int .i64 0)))] (some [1, 2, 11])) c223_7) c223_12
def c223_2 : SC := .seq (.reg [ro 5 (.mv (.t 1)),
  ro 6 (.fa 261 (.t 2) 2),
  ro 7 (.ld 9 (.t 6)),
  ro 8 (.len 9 (.t 7)),
  ro 9 (.bn .sub 3 (.t 5) (.t 8)),
  ro 1 (.asg (.t 9))] (some [1, 2])) c223_4
/-- loop.example/g01075/laws.szPart -/
def c223 : SC := .seq (.reg [ro 2 (.bx 261 (.t 0)),
  ro 4 (.asg (.c (.int .i64 0)))] (some [1, 2])) c223_2
theorem s223 : slimC ⟨19, [0]⟩ (Tryz.f223.body.getD .skip) = some c223.strip := by kernel_rfl

def c178_8 : SC := .seq (.reg [ro 4 (.asg (.c (.int .i64 (-1))))] (some [4])) .ret
def c178_7 : SC := .cond (.t 11) c178_8 .skip
def c178_20 : SC := .cond (.t 15) .skip (.exit 0)
def c178_30 : SC := .seq (.reg [ro 4 (.asg (.c (.int .i64 (-1))))] (some [4])) .ret
def c178_29 : SC := .cond (.t 25) c178_30 .skip
def c178_27 : SC := .seq (.reg [ro 24 (.mv (.t 1)),
  ro 25 (.bn .lss 3 (.t 24) (.c (.int .i64 0)))] (some [0, 1, 5, 25])) c178_29
def c178_34 : SC := .reg [ro 16 (.mv (.t 5)),
  ro 17 (.bn .add 3 (.t 16) (.c (.int .i64 1))),
  ro 5 (.asg (.t 17))] (some [0, 1, 5])
def c178_23 : SC := .seq (.block 1 (.seq (.reg [ro 18 (.mv (.t 0)),
  ro 19 (.mv (.t 5)),
  ro 20 (.ia 171 (.t 18) (.t 19)),
  ro 21 (.ld 261 (.t 20)),
  ro 22 (.mv (.t 1)),
  ro 23 (.call (.f 223) [(.t 21), (.t 22)]),
  ro 1 (.asg (.t 23))] (some [0, 1, 5])) c178_27)) c178_34
def c178_17 : SC := .seq (.seq (.reg [ro 12 (.mv (.t 5)),
  ro 13 (.mv (.t 0)),
  ro 14 (.len 171 (.t 13)),
  ro 15 (.bn .lss 3 (.t 12) (.t 14))] (some [0, 1, 5, 15])) c178_20) c178_23
def c178_15 : SC := .block 0 (.loop c178_17)
def c178_35 : SC := .seq (.reg [ro 26 (.mv (.t 1)),
  ro 4 (.asg (.t 26))] (some [4])) .ret
def c178_12 : SC := .seq (.seq (.reg [ro 5 (.asg (.c (.int .i64 0)))] (some [0, 1, 5])) c178_15) c178_35
def c178_4 : SC := .seq (.seq (.reg [ro 10 (.mv (.t 1)),
  ro 11 (.bn .lss 3 (.t 10) (.c (.int .i64 0)))] (some [0, 1, 11])) c178_7) c178_12
def c178_2 : SC := .seq (.reg [ro 6 (.mv (.t 1)),
  ro 7 (.mv (.t 0)),
  ro 8 (.len 171 (.t 7)),
  ro 9 (.bn .sub 3 (.t 6) (.t 8)),
  ro 1 (.asg (.t 9))] (some [0, 1])) c178_4
/-- loop.example/g01075/laws.szPartS -/
def c178 : SC := .seq (.reg [ro 4 (.asg (.c (.int .i64 0)))] (some [0, 1])) c178_2
theorem s178 : slimC ⟨27, [0]⟩ (Tryz.f178.body.getD .skip) = some c178.strip := by kernel_rfl

def c126_8 : SC := .seq (.reg [ro 4 (.asg (.c (.int .i64 (-1))))] (some [4])) .ret
def c126_7 : SC := .cond (.t 11) c126_8 .skip
def c126_18 : SC := .seq (.reg [ro 4 (.asg (.c (.int .i64 (-1))))] (some [4])) .ret
def c126_17 : SC := .cond (.t 17) c126_18 .skip
def c126_22 : SC := .seq (.reg [ro 18 (.mv (.t 1)),
  ro 4 (.asg (.t 18))] (some [4])) .ret
def c126_14 : SC := .seq (.seq (.reg [ro 16 (.mv (.t 1)),
  ro 17 (.bn .lss 3 (.t 16) (.c (.int .i64 0)))] (some [1, 17])) c126_17) c126_22
def c126_12 : SC := .seq (.reg [ro 12 (.fa 173 (.t 2) 2),
  ro 13 (.ld 171 (.t 12)),
  ro 14 (.mv (.t 1)),
  ro 15 (.call (.f 178) [(.t 13), (.t 14)]),
  ro 1 (.asg (.t 15))] (some [1])) c126_14
def c126_4 : SC := .seq (.seq (.reg [ro 10 (.mv (.t 1)),
  ro 11 (.bn .lss 3 (.t 10) (.c (.int .i64 0)))] (some [1, 2, 11])) c126_7) c126_12
def c126_2 : SC := .seq (.reg [ro 5 (.mv (.t 1)),
  ro 6 (.fa 173 (.t 2) 0),
  ro 7 (.ld 9 (.t 6)),
  ro 8 (.len 9 (.t 7)),
  ro 9 (.bn .sub 3 (.t 5) (.t 8)),
  ro 1 (.asg (.t 9))] (some [1, 2])) c126_4
/-- loop.example/g01075/laws.szDefinition -/
def c126 : SC := .seq (.reg [ro 2 (.bx 173 (.t 0)),
  ro 4 (.asg (.c (.int .i64 0)))] (some [1, 2])) c126_2
theorem s126 : slimC ⟨19, [0]⟩ (Tryz.f126.body.getD .skip) = some c126.strip := by kernel_rfl

def c57_8 : SC := .seq (.reg [ro 4 (.asg (.c (.int .i64 (-1))))] (some [4])) .ret
def c57_7 : SC := .cond (.t 11) c57_8 .skip
def c57_20 : SC := .cond (.t 15) .skip (.exit 0)
def c57_30 : SC := .seq (.reg [ro 4 (.asg (.c (.int .i64 (-1))))] (some [4])) .ret
def c57_29 : SC := .cond (.t 25) c57_30 .skip
def c57_27 : SC := .seq (.reg [ro 24 (.mv (.t 1)),
  ro 25 (.bn .lss 3 (.t 24) (.c (.int .i64 0)))] (some [0, 1, 5, 25])) c57_29
def c57_34 : SC := .reg [ro 16 (.mv (.t 5)),
  ro 17 (.bn .add 3 (.t 16) (.c (.int .i64 1))),
  ro 5 (.asg (.t 17))] (some [0, 1, 5])
def c57_23 : SC := .seq (.block 1 (.seq (.reg [ro 18 (.mv (.t 0)),
  ro 19 (.mv (.t 5)),
  ro 20 (.ia 38 (.t 18) (.t 19)),
  ro 21 (.ld 173 (.t 20)),
  ro 22 (.mv (.t 1)),
  ro 23 (.call (.f 126) [(.t 21), (.t 22)]),
  ro 1 (.asg (.t 23))] (some [0, 1, 5])) c57_27)) c57_34
def c57_17 : SC := .seq (.seq (.reg [ro 12 (.mv (.t 5)),
  ro 13 (.mv (.t 0)),
  ro 14 (.len 38 (.t 13)),
  ro 15 (.bn .lss 3 (.t 12) (.t 14))] (some [0, 1, 5, 15])) c57_20) c57_23
def c57_15 : SC := .block 0 (.loop c57_17)
def c57_35 : SC := .seq (.reg [ro 26 (.mv (.t 1)),
  ro 4 (.asg (.t 26))] (some [4])) .ret
def c57_12 : SC := .seq (.seq (.reg [ro 5 (.asg (.c (.int .i64 0)))] (some [0, 1, 5])) c57_15) c57_35
def c57_4 : SC := .seq (.seq (.reg [ro 10 (.mv (.t 1)),
  ro 11 (.bn .lss 3 (.t 10) (.c (.int .i64 0)))] (some [0, 1, 11])) c57_7) c57_12
def c57_2 : SC := .seq (.reg [ro 6 (.mv (.t 1)),
  ro 7 (.mv (.t 0)),
  ro 8 (.len 38 (.t 7)),
  ro 9 (.bn .sub 3 (.t 6) (.t 8)),
  ro 1 (.asg (.t 9))] (some [0, 1])) c57_4
/-- loop.example/g01075/laws.szDefinitionS -/
def c57 : SC := .seq (.reg [ro 4 (.asg (.c (.int .i64 0)))] (some [0, 1])) c57_2
theorem s57 : slimC ⟨27, [0]⟩ (Tryz.f57.body.getD .skip) = some c57.strip := by kernel_rfl

def c39_8 : SC := .seq (.reg [ro 4 (.asg (.c (.int .i64 (-1))))] (some [4])) .ret
def c39_7 : SC := .cond (.t 10) c39_8 .skip
def c39_12 : SC := .seq (.reg [ro 11 (.mv (.t 1)),
  ro 4 (.asg (.t 11))] (some [4])) .ret
def c39_4 : SC := .seq (.seq (.reg [ro 9 (.mv (.t 1)),
  ro 10 (.bn .lss 3 (.t 9) (.c (.int .i64 0)))] (some [1, 10])) c39_7) c39_12
def c39_2 : SC := .seq (.reg [ro 5 (.mv (.t 1)),
  ro 6 (.mv (.t 0)),
  ro 7 (.len 22 (.t 6)),
  ro 8 (.bn .sub 3 (.t 5) (.t 7)),
  ro 1 (.asg (.t 8))] (some [1])) c39_4
/-- loop.example/g01075/laws.szInt64S -/
def c39 : SC := .seq (.reg [ro 4 (.asg (.c (.int .i64 0)))] (some [0, 1])) c39_2
theorem s39 : slimC ⟨12, [0]⟩ (Tryz.f39.body.getD .skip) = some c39.strip := by kernel_rfl

def c127_8 : SC := .seq (.reg [ro 4 (.asg (.c (.int .i64 (-1))))] (some [4])) .ret
def c127_7 : SC := .cond (.t 10) c127_8 .skip
def c127_12 : SC := .seq (.reg [ro 11 (.mv (.t 1)),
  ro 4 (.asg (.t 11))] (some [4])) .ret
def c127_4 : SC := .seq (.seq (.reg [ro 9 (.mv (.t 1)),
  ro 10 (.bn .lss 3 (.t 9) (.c (.int .i64 0)))] (some [1, 10])) c127_7) c127_12
def c127_2 : SC := .seq (.reg [ro 5 (.fa 175 (.t 2) 1),
  ro 6 (.ld 22 (.t 5)),
  ro 7 (.mv (.t 1)),
  ro 8 (.call (.f 39) [(.t 6), (.t 7)]),
  ro 1 (.asg (.t 8))] (some [1])) c127_4
/-- loop.example/g01075/laws.szComponent -/
def c127 : SC := .seq (.reg [ro 2 (.bx 175 (.t 0)),
  ro 4 (.asg (.c (.int .i64 0)))] (some [1, 2])) c127_2
theorem s127 : slimC ⟨12, [0]⟩ (Tryz.f127.body.getD .skip) = some c127.strip := by kernel_rfl

def c58_8 : SC := .seq (.reg [ro 4 (.asg (.c (.int .i64 (-1))))] (some [4])) .ret
def c58_7 : SC := .cond (.t 11) c58_8 .skip
def c58_20 : SC := .cond (.t 15) .skip (.exit 0)
def c58_30 : SC := .seq (.reg [ro 4 (.asg (.c (.int .i64 (-1))))] (some [4])) .ret
def c58_29 : SC := .cond (.t 25) c58_30 .skip
def c58_27 : SC := .seq (.reg [ro 24 (.mv (.t 1)),
  ro 25 (.bn .lss 3 (.t 24) (.c (.int .i64 0)))] (some [0, 1, 5, 25])) c58_29
def c58_34 : SC := .reg [ro 16 (.mv (.t 5)),
  ro 17 (.bn .add 3 (.t 16) (.c (.int .i64 1))),
  ro 5 (.asg (.t 17))] (some [0, 1, 5])
def c58_23 : SC := .seq (.block 1 (.seq (.reg [ro 18 (.mv (.t 0)),
  ro 19 (.mv (.t 5)),
  ro 20 (.ia 39 (.t 18) (.t 19)),
  ro 21 (.ld 175 (.t 20)),
  ro 22 (.mv (.t 1)),
  ro 23 (.call (.f 127) [(.t 21), (.t 22)]),
  ro 1 (.asg (.t 23))] (some [0, 1, 5])) c58_27)) c58_34
def c58_17 : SC := .seq (.seq (.reg [ro 12 (.mv (.t 5)),
  ro 13 (.mv (.t 0)),
  ro 14 (.len 39 (.t 13)),
  ro 15 (.bn .lss 3 (.t 12) (.t 14))] (some [0, 1, 5, 15])) c58_20) c58_23
def c58_15 : SC := .block 0 (.loop c58_17)
def c58_35 : SC := .seq (.reg [ro 26 (.mv (.t 1)),
  ro 4 (.asg (.t 26))] (some [4])) .ret
def c58_12 : SC := .seq (.seq (.reg [ro 5 (.asg (.c (.int .i64 0)))] (some [0, 1, 5])) c58_15) c58_35
def c58_4 : SC := .seq (.seq (.reg [ro 10 (.mv (.t 1)),
  ro 11 (.bn .lss 3 (.t 10) (.c (.int .i64 0)))] (some [0, 1, 11])) c58_7) c58_12
def c58_2 : SC := .seq (.reg [ro 6 (.mv (.t 1)),
  ro 7 (.mv (.t 0)),
  ro 8 (.len 39 (.t 7)),
  ro 9 (.bn .sub 3 (.t 6) (.t 8)),
  ro 1 (.asg (.t 9))] (some [0, 1])) c58_4
/-- loop.example/g01075/laws.szComponentS -/
def c58 : SC := .seq (.reg [ro 4 (.asg (.c (.int .i64 0)))] (some [0, 1])) c58_2
theorem s58 : slimC ⟨27, [0]⟩ (Tryz.f58.body.getD .skip) = some c58.strip := by kernel_rfl

def c75_8 : SC := .seq (.reg [ro 4 (.asg (.c (.int .i64 (-1))))] (some [4])) .ret
def c75_7 : SC := .cond (.t 11) c75_8 .skip
def c75_18 : SC := .seq (.reg [ro 4 (.asg (.c (.int .i64 (-1))))] (some [4])) .ret
def c75_17 : SC := .cond (.t 18) c75_18 .skip
def c75_28 : SC := .seq (.reg [ro 4 (.asg (.c (.int .i64 (-1))))] (some [4])) .ret
def c75_27 : SC := .cond (.t 25) c75_28 .skip
def c75_32 : SC := .seq (.reg [ro 26 (.mv (.t 1)),
  ro 4 (.asg (.t 26))] (some [4])) .ret
def c75_24 : SC := .seq (.seq (.reg [ro 24 (.mv (.t 1)),
  ro 25 (.bn .lss 3 (.t 24) (.c (.int .i64 0)))] (some [1, 25])) c75_27) c75_32
def c75_22 : SC := .seq (.reg [ro 19 (.mv (.t 1)),
  ro 20 (.fa 116 (.t 2) 2),
  ro 21 (.ld 9 (.t 20)),
  ro 22 (.len 9 (.t 21)),
  ro 23 (.bn .sub 3 (.t 19) (.t 22)),
  ro 1 (.asg (.t 23))] (some [1])) c75_24
def c75_14 : SC := .seq (.seq (.reg [ro 17 (.mv (.t 1)),
  ro 18 (.bn .lss 3 (.t 17) (.c (.int .i64 0)))] (some [1, 2, 18])) c75_17) c75_22
def c75_12 : SC := .seq (.reg [ro 12 (.mv (.t 1)),
  ro 13 (.fa 116 (.t 2) 1),
  ro 14 (.ld 9 (.t 13)),
  ro 15 (.len 9 (.t 14)),
  ro 16 (.bn .sub 3 (.t 12) (.t 15)),
  ro 1 (.asg (.t 16))] (some [1, 2])) c75_14
def c75_4 : SC := .seq (.seq (.reg [ro 10 (.mv (.t 1)),
  ro 11 (.bn .lss 3 (.t 10) (.c (.int .i64 0)))] (some [1, 2, 11])) c75_7) c75_12
def c75_2 : SC := .seq (.reg [ro 5 (.mv (.t 1)),
  ro 6 (.fa 116 (.t 2) 0),
  ro 7 (.ld 9 (.t 6)),
  ro 8 (.len 9 (.t 7)),
  ro 9 (.bn .sub 3 (.t 5) (.t 8)),
  ro 1 (.asg (.t 9))] (some [1, 2])) c75_4
/-- loop.example/g01075/laws.szMeeting -/
def c75 : SC := .seq (.reg [ro 2 (.bx 116 (.t 0)),
  ro 4 (.asg (.c (.int .i64 0)))] (some [1, 2])) c75_2
theorem s75 : slimC ⟨27, [0]⟩ (Tryz.f75.body.getD .skip) = some c75.strip := by kernel_rfl

def c26_8 : SC := .seq (.reg [ro 4 (.asg (.c (.int .i64 (-1))))] (some [4])) .ret
def c26_7 : SC := .cond (.t 11) c26_8 .skip
def c26_20 : SC := .cond (.t 15) .skip (.exit 0)
def c26_30 : SC := .seq (.reg [ro 4 (.asg (.c (.int .i64 (-1))))] (some [4])) .ret
def c26_29 : SC := .cond (.t 25) c26_30 .skip
def c26_27 : SC := .seq (.reg [ro 24 (.mv (.t 1)),
  ro 25 (.bn .lss 3 (.t 24) (.c (.int .i64 0)))] (some [0, 1, 5, 25])) c26_29
def c26_34 : SC := .reg [ro 16 (.mv (.t 5)),
  ro 17 (.bn .add 3 (.t 16) (.c (.int .i64 1))),
  ro 5 (.asg (.t 17))] (some [0, 1, 5])
def c26_23 : SC := .seq (.block 1 (.seq (.reg [ro 18 (.mv (.t 0)),
  ro 19 (.mv (.t 5)),
  ro 20 (.ia 40 (.t 18) (.t 19)),
  ro 21 (.ld 116 (.t 20)),
  ro 22 (.mv (.t 1)),
  ro 23 (.call (.f 75) [(.t 21), (.t 22)]),
  ro 1 (.asg (.t 23))] (some [0, 1, 5])) c26_27)) c26_34
def c26_17 : SC := .seq (.seq (.reg [ro 12 (.mv (.t 5)),
  ro 13 (.mv (.t 0)),
  ro 14 (.len 40 (.t 13)),
  ro 15 (.bn .lss 3 (.t 12) (.t 14))] (some [0, 1, 5, 15])) c26_20) c26_23
def c26_15 : SC := .block 0 (.loop c26_17)
def c26_35 : SC := .seq (.reg [ro 26 (.mv (.t 1)),
  ro 4 (.asg (.t 26))] (some [4])) .ret
def c26_12 : SC := .seq (.seq (.reg [ro 5 (.asg (.c (.int .i64 0)))] (some [0, 1, 5])) c26_15) c26_35
def c26_4 : SC := .seq (.seq (.reg [ro 10 (.mv (.t 1)),
  ro 11 (.bn .lss 3 (.t 10) (.c (.int .i64 0)))] (some [0, 1, 11])) c26_7) c26_12
def c26_2 : SC := .seq (.reg [ro 6 (.mv (.t 1)),
  ro 7 (.mv (.t 0)),
  ro 8 (.len 40 (.t 7)),
  ro 9 (.bn .sub 3 (.t 6) (.t 8)),
  ro 1 (.asg (.t 9))] (some [0, 1])) c26_4
/-- loop.example/g01075/laws.szMeetingS -/
def c26 : SC := .seq (.reg [ro 4 (.asg (.c (.int .i64 0)))] (some [0, 1])) c26_2
theorem s26 : slimC ⟨27, [0]⟩ (Tryz.f26.body.getD .skip) = some c26.strip := by kernel_rfl

def c59_8 : SC := .seq (.reg [ro 4 (.asg (.c (.int .i64 (-1))))] (some [4])) .ret
def c59_7 : SC := .cond (.t 11) c59_8 .skip
def c59_20 : SC := .cond (.t 15) .skip (.exit 0)
def c59_30 : SC := .seq (.reg [ro 4 (.asg (.c (.int .i64 (-1))))] (some [4])) .ret
def c59_29 : SC := .cond (.t 26) c59_30 .skip
def c59_27 : SC := .seq (.reg [ro 25 (.mv (.t 1)),
  ro 26 (.bn .lss 3 (.t 25) (.c (.int .i64 0)))] (some [0, 1, 5, 26])) c59_29
def c59_34 : SC := .reg [ro 16 (.mv (.t 5)),
  ro 17 (.bn .add 3 (.t 16) (.c (.int .i64 1))),
  ro 5 (.asg (.t 17))] (some [0, 1, 5])
def c59_23 : SC := .seq (.block 1 (.seq (.reg [ro 18 (.mv (.t 1)),
  ro 19 (.mv (.t 0)),
  ro 20 (.mv (.t 5)),
  ro 21 (.ia 41 (.t 19) (.t 20)),
  ro 22 (.ld 9 (.t 21)),
  ro 23 (.len 9 (.t 22)),
  ro 24 (.bn .sub 3 (.t 18) (.t 23)),
  ro 1 (.asg (.t 24))] (some [0, 1, 5])) c59_27)) c59_34
def c59_17 : SC := .seq (.seq (.reg [ro 12 (.mv (.t 5)),
  ro 13 (.mv (.t 0)),
  ro 14 (.len 41 (.t 13)),
  ro 15 (.bn .lss 3 (.t 12) (.t 14))] (some [0, 1, 5, 15])) c59_20) c59_23
def c59_15 : SC := .block 0 (.loop c59_17)
def c59_35 : SC := .seq (.reg [ro 27 (.mv (.t 1)),
  ro 4 (.asg (.t 27))] (some [4])) .ret
def c59_12 : SC := .seq (.seq (.reg [ro 5 (.asg (.c (.int .i64 0)))] (some [0, 1, 5])) c59_15) c59_35
def c59_4 : SC := .seq (.seq (.reg [ro 10 (.mv (.t 1)),
  ro 11 (.bn .lss 3 (.t 10) (.c (.int .i64 0)))] (some [0, 1, 11])) c59_7) c59_12
def c59_2 : SC := .seq (.reg [ro 6 (.mv (.t 1)),
  ro 7 (.mv (.t 0)),
  ro 8 (.len 41 (.t 7)),
  ro 9 (.bn .sub 3 (.t 6) (.t 8)),
  ro 1 (.asg (.t 9))] (some [0, 1])) c59_4
/-- loop.example/g01075/laws.szStringS -/
def c59 : SC := .seq (.reg [ro 4 (.asg (.c (.int .i64 0)))] (some [0, 1])) c59_2
theorem s59 : slimC ⟨28, [0]⟩ (Tryz.f59.body.getD .skip) = some c59.strip := by kernel_rfl

def c19_8 : SC := .seq (.reg [ro 4 (.asg (.c (.int .i64 (-1))))] (some [4])) .ret
def c19_7 : SC := .cond (.t 10) c19_8 .skip
def c19_18 : SC := .seq (.reg [ro 4 (.asg (.c (.int .i64 (-1))))] (some [4])) .ret
def c19_17 : SC := .cond (.t 16) c19_18 .skip
def c19_28 : SC := .seq (.reg [ro 4 (.asg (.c (.int .i64 (-1))))] (some [4])) .ret
def c19_27 : SC := .cond (.t 22) c19_28 .skip
def c19_38 : SC := .seq (.reg [ro 4 (.asg (.c (.int .i64 (-1))))] (some [4])) .ret
def c19_37 : SC := .cond (.t 28) c19_38 .skip
def c19_48 : SC := .seq (.reg [ro 4 (.asg (.c (.int .i64 (-1))))] (some [4])) .ret
def c19_47 : SC := .cond (.t 34) c19_48 .skip
def c19_52 : SC := .seq (.reg [ro 35 (.mv (.t 1)),
  ro 4 (.asg (.t 35))] (some [4])) .ret
def c19_44 : SC := .seq (.seq (.reg [ro 33 (.mv (.t 1)),
  ro 34 (.bn .lss 3 (.t 33) (.c (.int .i64 0)))] (some [1, 34])) c19_47) c19_52
def c19_42 : SC := .seq (.reg [ro 29 (.fa 43 (.t 2) 4),
  ro 30 (.ld 41 (.t 29)),
  ro 31 (.mv (.t 1)),
  ro 32 (.call (.f 59) [(.t 30), (.t 31)]),
  ro 1 (.asg (.t 32))] (some [1])) c19_44
def c19_34 : SC := .seq (.seq (.reg [ro 27 (.mv (.t 1)),
  ro 28 (.bn .lss 3 (.t 27) (.c (.int .i64 0)))] (some [1, 2, 28])) c19_37) c19_42
def c19_32 : SC := .seq (.reg [ro 23 (.fa 43 (.t 2) 3),
  ro 24 (.ld 41 (.t 23)),
  ro 25 (.mv (.t 1)),
  ro 26 (.call (.f 59) [(.t 24), (.t 25)]),
  ro 1 (.asg (.t 26))] (some [1, 2])) c19_34
def c19_24 : SC := .seq (.seq (.reg [ro 21 (.mv (.t 1)),
  ro 22 (.bn .lss 3 (.t 21) (.c (.int .i64 0)))] (some [1, 2, 22])) c19_27) c19_32
def c19_22 : SC := .seq (.reg [ro 17 (.fa 43 (.t 2) 2),
  ro 18 (.ld 40 (.t 17)),
  ro 19 (.mv (.t 1)),
  ro 20 (.call (.f 26) [(.t 18), (.t 19)]),
  ro 1 (.asg (.t 20))] (some [1, 2])) c19_24
def c19_14 : SC := .seq (.seq (.reg [ro 15 (.mv (.t 1)),
  ro 16 (.bn .lss 3 (.t 15) (.c (.int .i64 0)))] (some [1, 2, 16])) c19_17) c19_22
def c19_12 : SC := .seq (.reg [ro 11 (.fa 43 (.t 2) 1),
  ro 12 (.ld 39 (.t 11)),
  ro 13 (.mv (.t 1)),
  ro 14 (.call (.f 58) [(.t 12), (.t 13)]),
  ro 1 (.asg (.t 14))] (some [1, 2])) c19_14
def c19_4 : SC := .seq (.seq (.reg [ro 9 (.mv (.t 1)),
  ro 10 (.bn .lss 3 (.t 9) (.c (.int .i64 0)))] (some [1, 2, 10])) c19_7) c19_12
def c19_2 : SC := .seq (.reg [ro 5 (.fa 43 (.t 2) 0),
  ro 6 (.ld 38 (.t 5)),
  ro 7 (.mv (.t 1)),
  ro 8 (.call (.f 57) [(.t 6), (.t 7)]),
  ro 1 (.asg (.t 8))] (some [1, 2])) c19_4
/-- loop.example/g01075/laws.szSystem -/
def c19 : SC := .seq (.reg [ro 2 (.bx 43 (.t 0)),
  ro 4 (.asg (.c (.int .i64 0)))] (some [1, 2])) c19_2
theorem s19 : slimC ⟨36, [0]⟩ (Tryz.f19.body.getD .skip) = some c19.strip := by kernel_rfl

def c84_8 : SC := .seq (.reg [ro 4 (.asg (.c (.int .i64 (-1))))] (some [4])) .ret
def c84_7 : SC := .cond (.t 10) c84_8 .skip
def c84_12 : SC := .seq (.reg [ro 11 (.mv (.t 1)),
  ro 4 (.asg (.t 11))] (some [4])) .ret
def c84_4 : SC := .seq (.seq (.reg [ro 9 (.mv (.t 1)),
  ro 10 (.bn .lss 3 (.t 9) (.c (.int .i64 0)))] (some [1, 10])) c84_7) c84_12
def c84_2 : SC := .seq (.reg [ro 5 (.fa 129 (.t 2) 2),
  ro 6 (.ld 22 (.t 5)),
  ro 7 (.mv (.t 1)),
  ro 8 (.call (.f 39) [(.t 6), (.t 7)]),
  ro 1 (.asg (.t 8))] (some [1])) c84_4
/-- loop.example/g01075/laws.szPoint -/
def c84 : SC := .seq (.reg [ro 2 (.bx 129 (.t 0)),
  ro 4 (.asg (.c (.int .i64 0)))] (some [1, 2])) c84_2
theorem s84 : slimC ⟨12, [0]⟩ (Tryz.f84.body.getD .skip) = some c84.strip := by kernel_rfl

def c34_8 : SC := .seq (.reg [ro 4 (.asg (.c (.int .i64 (-1))))] (some [4])) .ret
def c34_7 : SC := .cond (.t 11) c34_8 .skip
def c34_20 : SC := .cond (.t 15) .skip (.exit 0)
def c34_30 : SC := .seq (.reg [ro 4 (.asg (.c (.int .i64 (-1))))] (some [4])) .ret
def c34_29 : SC := .cond (.t 25) c34_30 .skip
def c34_27 : SC := .seq (.reg [ro 24 (.mv (.t 1)),
  ro 25 (.bn .lss 3 (.t 24) (.c (.int .i64 0)))] (some [0, 1, 5, 25])) c34_29
def c34_34 : SC := .reg [ro 16 (.mv (.t 5)),
  ro 17 (.bn .add 3 (.t 16) (.c (.int .i64 1))),
  ro 5 (.asg (.t 17))] (some [0, 1, 5])
def c34_23 : SC := .seq (.block 1 (.seq (.reg [ro 18 (.mv (.t 0)),
  ro 19 (.mv (.t 5)),
  ro 20 (.ia 65 (.t 18) (.t 19)),
  ro 21 (.ld 129 (.t 20)),
  ro 22 (.mv (.t 1)),
  ro 23 (.call (.f 84) [(.t 21), (.t 22)]),
  ro 1 (.asg (.t 23))] (some [0, 1, 5])) c34_27)) c34_34
def c34_17 : SC := .seq (.seq (.reg [ro 12 (.mv (.t 5)),
  ro 13 (.mv (.t 0)),
  ro 14 (.len 65 (.t 13)),
  ro 15 (.bn .lss 3 (.t 12) (.t 14))] (some [0, 1, 5, 15])) c34_20) c34_23
def c34_15 : SC := .block 0 (.loop c34_17)
def c34_35 : SC := .seq (.reg [ro 26 (.mv (.t 1)),
  ro 4 (.asg (.t 26))] (some [4])) .ret
def c34_12 : SC := .seq (.seq (.reg [ro 5 (.asg (.c (.int .i64 0)))] (some [0, 1, 5])) c34_15) c34_35
def c34_4 : SC := .seq (.seq (.reg [ro 10 (.mv (.t 1)),
  ro 11 (.bn .lss 3 (.t 10) (.c (.int .i64 0)))] (some [0, 1, 11])) c34_7) c34_12
def c34_2 : SC := .seq (.reg [ro 6 (.mv (.t 1)),
  ro 7 (.mv (.t 0)),
  ro 8 (.len 65 (.t 7)),
  ro 9 (.bn .sub 3 (.t 6) (.t 8)),
  ro 1 (.asg (.t 9))] (some [0, 1])) c34_4
/-- loop.example/g01075/laws.szPointS -/
def c34 : SC := .seq (.reg [ro 4 (.asg (.c (.int .i64 0)))] (some [0, 1])) c34_2
theorem s34 : slimC ⟨27, [0]⟩ (Tryz.f34.body.getD .skip) = some c34.strip := by kernel_rfl

def c216_8 : SC := .seq (.reg [ro 10 (.ld 159 (.t 3)),
  ⟨none, .sto 159 (.t 2) (.t 10), none⟩] (some [2])) .ret
def c216_6 : SC := .seq (.reg [ro 7 (.fa 256 (.t 1) 1),
  ro 8 (.ld 2 (.t 7)),
  ro 9 (.fa 159 (.t 3) 1),
  ⟨none, .sto 2 (.t 9) (.t 8), none⟩] (some [2, 3])) c216_8
def c216_4 : SC := .seq (.reg [ro 4 (.fa 256 (.t 1) 0),
  ro 5 (.ld 2 (.t 4)),
  ro 6 (.fa 159 (.t 3) 0),
  ⟨none, .sto 2 (.t 6) (.t 5), none⟩] (some [1, 2, 3])) c216_6
def c216_2 : SC := .seq (.reg [ro 3 (.alc 159)] (some [1, 2, 3])) c216_4
/-- loop.example/g01075/laws.toTerm -/
def c216 : SC := .seq (.reg [ro 1 (.bx 256 (.t 0)),
  ro 2 (.alc 159)] (some [1, 2])) c216_2
theorem s216 : slimC ⟨11, [0]⟩ (Tryz.f216.body.getD .skip) = some c216.strip := by kernel_rfl

def c164_12 : SC := .cond (.t 11) .skip (.exit 0)
def c164_18 : SC := .reg [ro 12 (.mv (.t 4)),
  ro 13 (.bn .add 3 (.t 12) (.c (.int .i64 1))),
  ro 4 (.asg (.t 13))] (some [0, 3, 4])
def c164_15 : SC := .seq (.block 1 (.reg [ro 14 (.mv (.t 3)),
  ro 15 (.mv (.t 4)),
  ro 16 (.mv (.t 0)),
  ro 17 (.mv (.t 4)),
  ro 18 (.ia 138 (.t 16) (.t 17)),
  ro 19 (.ld 256 (.t 18)),
  ro 20 (.call (.f 216) [(.t 19)]),
  ro 21 (.ia 84 (.t 14) (.t 15)),
  ⟨none, .sto 159 (.t 21) (.t 20), none⟩] (some [0, 3, 4]))) c164_18
def c164_9 : SC := .seq (.seq (.reg [ro 8 (.mv (.t 4)),
  ro 9 (.mv (.t 0)),
  ro 10 (.len 138 (.t 9)),
  ro 11 (.bn .lss 3 (.t 8) (.t 10))] (some [0, 3, 4, 11])) c164_12) c164_15
def c164_7 : SC := .block 0 (.loop c164_9)
def c164_19 : SC := .seq (.reg [ro 22 (.mv (.t 3)),
  ro 2 (.asg (.t 22))] (some [2])) .ret
def c164_4 : SC := .seq (.seq (.reg [ro 4 (.asg (.c (.int .i64 0)))] (some [0, 3, 4])) c164_7) c164_19
def c164_2 : SC := .seq (.reg [ro 5 (.mv (.t 0)),
  ro 6 (.len 138 (.t 5)),
  ro 7 (.mks 84 (.t 6) (.t 6)),
  ro 3 (.asg (.t 7))] (some [0, 3])) c164_4
/-- loop.example/g01075/laws.toTermS -/
def c164 : SC := .seq (.reg [ro 2 (.asg (.c .nils))] (some [0])) c164_2
theorem s164 : slimC ⟨23, [0]⟩ (Tryz.f164.body.getD .skip) = some c164.strip := by kernel_rfl

def c165_12 : SC := .cond (.t 11) .skip (.exit 0)
def c165_18 : SC := .reg [ro 12 (.mv (.t 4)),
  ro 13 (.bn .add 3 (.t 12) (.c (.int .i64 1))),
  ro 4 (.asg (.t 13))] (some [0, 3, 4])
def c165_15 : SC := .seq (.block 1 (.reg [ro 14 (.mv (.t 3)),
  ro 15 (.mv (.t 4)),
  ro 16 (.mv (.t 0)),
  ro 17 (.mv (.t 4)),
  ro 18 (.ia 139 (.t 16) (.t 17)),
  ro 19 (.ld 138 (.t 18)),
  ro 20 (.call (.f 164) [(.t 19)]),
  ro 21 (.ia 85 (.t 14) (.t 15)),
  ⟨none, .sto 84 (.t 21) (.t 20), none⟩] (some [0, 3, 4]))) c165_18
def c165_9 : SC := .seq (.seq (.reg [ro 8 (.mv (.t 4)),
  ro 9 (.mv (.t 0)),
  ro 10 (.len 139 (.t 9)),
  ro 11 (.bn .lss 3 (.t 8) (.t 10))] (some [0, 3, 4, 11])) c165_12) c165_15
def c165_7 : SC := .block 0 (.loop c165_9)
def c165_19 : SC := .seq (.reg [ro 22 (.mv (.t 3)),
  ro 2 (.asg (.t 22))] (some [2])) .ret
def c165_4 : SC := .seq (.seq (.reg [ro 4 (.asg (.c (.int .i64 0)))] (some [0, 3, 4])) c165_7) c165_19
def c165_2 : SC := .seq (.reg [ro 5 (.mv (.t 0)),
  ro 6 (.len 139 (.t 5)),
  ro 7 (.mks 85 (.t 6) (.t 6)),
  ro 3 (.asg (.t 7))] (some [0, 3])) c165_4
/-- loop.example/g01075/laws.toTermSS -/
def c165 : SC := .seq (.reg [ro 2 (.asg (.c .nils))] (some [0])) c165_2
theorem s165 : slimC ⟨23, [0]⟩ (Tryz.f165.body.getD .skip) = some c165.strip := by kernel_rfl

def c228_12 : SC := .seq (.reg [ro 17 (.ld 202 (.t 3)),
  ⟨none, .sto 202 (.t 2) (.t 17), none⟩] (some [2])) .ret
def c228_10 : SC := .seq (.reg [ro 13 (.fa 261 (.t 1) 3),
  ro 14 (.ld 139 (.t 13)),
  ro 15 (.call (.f 165) [(.t 14)]),
  ro 16 (.fa 202 (.t 3) 3),
  ⟨none, .sto 85 (.t 16) (.t 15), none⟩] (some [2, 3])) c228_12
def c228_8 : SC := .seq (.reg [ro 10 (.fa 261 (.t 1) 2),
  ro 11 (.ld 9 (.t 10)),
  ro 12 (.fa 202 (.t 3) 2),
  ⟨none, .sto 9 (.t 12) (.t 11), none⟩] (some [1, 2, 3])) c228_10
def c228_6 : SC := .seq (.reg [ro 7 (.fa 261 (.t 1) 1),
  ro 8 (.ld 2 (.t 7)),
  ro 9 (.fa 202 (.t 3) 1),
  ⟨none, .sto 2 (.t 9) (.t 8), none⟩] (some [1, 2, 3])) c228_8
def c228_4 : SC := .seq (.reg [ro 4 (.fa 261 (.t 1) 0),
  ro 5 (.ld 2 (.t 4)),
  ro 6 (.fa 202 (.t 3) 0),
  ⟨none, .sto 2 (.t 6) (.t 5), none⟩] (some [1, 2, 3])) c228_6
def c228_2 : SC := .seq (.reg [ro 3 (.alc 202)] (some [1, 2, 3])) c228_4
/-- loop.example/g01075/laws.toPart -/
def c228 : SC := .seq (.reg [ro 1 (.bx 261 (.t 0)),
  ro 2 (.alc 202)] (some [1, 2])) c228_2
theorem s228 : slimC ⟨18, [0]⟩ (Tryz.f228.body.getD .skip) = some c228.strip := by kernel_rfl

def c182_12 : SC := .cond (.t 11) .skip (.exit 0)
def c182_18 : SC := .reg [ro 12 (.mv (.t 4)),
  ro 13 (.bn .add 3 (.t 12) (.c (.int .i64 1))),
  ro 4 (.asg (.t 13))] (some [0, 3, 4])
def c182_15 : SC := .seq (.block 1 (.reg [ro 14 (.mv (.t 3)),
  ro 15 (.mv (.t 4)),
  ro 16 (.mv (.t 0)),
  ro 17 (.mv (.t 4)),
  ro 18 (.ia 171 (.t 16) (.t 17)),
  ro 19 (.ld 261 (.t 18)),
  ro 20 (.call (.f 228) [(.t 19)]),
  ro 21 (.ia 176 (.t 14) (.t 15)),
  ⟨none, .sto 202 (.t 21) (.t 20), none⟩] (some [0, 3, 4]))) c182_18
def c182_9 : SC := .seq (.seq (.reg [ro 8 (.mv (.t 4)),
  ro 9 (.mv (.t 0)),
  ro 10 (.len 171 (.t 9)),
  ro 11 (.bn .lss 3 (.t 8) (.t 10))] (some [0, 3, 4, 11])) c182_12) c182_15
def c182_7 : SC := .block 0 (.loop c182_9)
def c182_19 : SC := .seq (.reg [ro 22 (.mv (.t 3)),
  ro 2 (.asg (.t 22))] (some [2])) .ret
def c182_4 : SC := .seq (.seq (.reg [ro 4 (.asg (.c (.int .i64 0)))] (some [0, 3, 4])) c182_7) c182_19
def c182_2 : SC := .seq (.reg [ro 5 (.mv (.t 0)),
  ro 6 (.len 171 (.t 5)),
  ro 7 (.mks 176 (.t 6) (.t 6)),
  ro 3 (.asg (.t 7))] (some [0, 3])) c182_4
/-- loop.example/g01075/laws.toPartS -/
def c182 : SC := .seq (.reg [ro 2 (.asg (.c .nils))] (some [0])) c182_2
theorem s182 : slimC ⟨23, [0]⟩ (Tryz.f182.body.getD .skip) = some c182.strip := by kernel_rfl

def c131_10 : SC := .seq (.reg [ro 14 (.ld 178 (.t 3)),
  ⟨none, .sto 178 (.t 2) (.t 14), none⟩] (some [2])) .ret
def c131_8 : SC := .seq (.reg [ro 10 (.fa 173 (.t 1) 2),
  ro 11 (.ld 171 (.t 10)),
  ro 12 (.call (.f 182) [(.t 11)]),
  ro 13 (.fa 178 (.t 3) 2),
  ⟨none, .sto 176 (.t 13) (.t 12), none⟩] (some [2, 3])) c131_10
def c131_6 : SC := .seq (.reg [ro 7 (.fa 173 (.t 1) 1),
  ro 8 (.ld 2 (.t 7)),
  ro 9 (.fa 178 (.t 3) 1),
  ⟨none, .sto 2 (.t 9) (.t 8), none⟩] (some [1, 2, 3])) c131_8
def c131_4 : SC := .seq (.reg [ro 4 (.fa 173 (.t 1) 0),
  ro 5 (.ld 9 (.t 4)),
  ro 6 (.fa 178 (.t 3) 0),
  ⟨none, .sto 9 (.t 6) (.t 5), none⟩] (some [1, 2, 3])) c131_6
def c131_2 : SC := .seq (.reg [ro 3 (.alc 178)] (some [1, 2, 3])) c131_4
/-- loop.example/g01075/laws.toDefinition -/
def c131 : SC := .seq (.reg [ro 1 (.bx 173 (.t 0)),
  ro 2 (.alc 178)] (some [1, 2])) c131_2
theorem s131 : slimC ⟨15, [0]⟩ (Tryz.f131.body.getD .skip) = some c131.strip := by kernel_rfl

def c61_12 : SC := .cond (.t 11) .skip (.exit 0)
def c61_18 : SC := .reg [ro 12 (.mv (.t 4)),
  ro 13 (.bn .add 3 (.t 12) (.c (.int .i64 1))),
  ro 4 (.asg (.t 13))] (some [0, 3, 4])
def c61_15 : SC := .seq (.block 1 (.reg [ro 14 (.mv (.t 3)),
  ro 15 (.mv (.t 4)),
  ro 16 (.mv (.t 0)),
  ro 17 (.mv (.t 4)),
  ro 18 (.ia 38 (.t 16) (.t 17)),
  ro 19 (.ld 173 (.t 18)),
  ro 20 (.call (.f 131) [(.t 19)]),
  ro 21 (.ia 46 (.t 14) (.t 15)),
  ⟨none, .sto 178 (.t 21) (.t 20), none⟩] (some [0, 3, 4]))) c61_18
def c61_9 : SC := .seq (.seq (.reg [ro 8 (.mv (.t 4)),
  ro 9 (.mv (.t 0)),
  ro 10 (.len 38 (.t 9)),
  ro 11 (.bn .lss 3 (.t 8) (.t 10))] (some [0, 3, 4, 11])) c61_12) c61_15
def c61_7 : SC := .block 0 (.loop c61_9)
def c61_19 : SC := .seq (.reg [ro 22 (.mv (.t 3)),
  ro 2 (.asg (.t 22))] (some [2])) .ret
def c61_4 : SC := .seq (.seq (.reg [ro 4 (.asg (.c (.int .i64 0)))] (some [0, 3, 4])) c61_7) c61_19
def c61_2 : SC := .seq (.reg [ro 5 (.mv (.t 0)),
  ro 6 (.len 38 (.t 5)),
  ro 7 (.mks 46 (.t 6) (.t 6)),
  ro 3 (.asg (.t 7))] (some [0, 3])) c61_4
/-- loop.example/g01075/laws.toDefinitionS -/
def c61 : SC := .seq (.reg [ro 2 (.asg (.c .nils))] (some [0])) c61_2
theorem s61 : slimC ⟨23, [0]⟩ (Tryz.f61.body.getD .skip) = some c61.strip := by kernel_rfl

def c45_12 : SC := .cond (.t 11) .skip (.exit 0)
def c45_18 : SC := .reg [ro 12 (.mv (.t 4)),
  ro 13 (.bn .add 3 (.t 12) (.c (.int .i64 1))),
  ro 4 (.asg (.t 13))] (some [0, 3, 4])
def c45_15 : SC := .seq (.block 1 (.reg [ro 14 (.mv (.t 3)),
  ro 15 (.mv (.t 4)),
  ro 16 (.mv (.t 0)),
  ro 17 (.mv (.t 4)),
  ro 18 (.ia 22 (.t 16) (.t 17)),
  ro 19 (.ld 2 (.t 18)),
  ro 20 (.ia 22 (.t 14) (.t 15)),
  ⟨none, .sto 2 (.t 20) (.t 19), none⟩] (some [0, 3, 4]))) c45_18
def c45_9 : SC := .seq (.seq (.reg [ro 8 (.mv (.t 4)),
  ro 9 (.mv (.t 0)),
  ro 10 (.len 22 (.t 9)),
  ro 11 (.bn .lss 3 (.t 8) (.t 10))] (some [0, 3, 4, 11])) c45_12) c45_15
def c45_7 : SC := .block 0 (.loop c45_9)
def c45_19 : SC := .seq (.reg [ro 21 (.mv (.t 3)),
  ro 2 (.asg (.t 21))] (some [2])) .ret
def c45_4 : SC := .seq (.seq (.reg [ro 4 (.asg (.c (.int .i64 0)))] (some [0, 3, 4])) c45_7) c45_19
def c45_2 : SC := .seq (.reg [ro 5 (.mv (.t 0)),
  ro 6 (.len 22 (.t 5)),
  ro 7 (.mks 22 (.t 6) (.t 6)),
  ro 3 (.asg (.t 7))] (some [0, 3])) c45_4
/-- loop.example/g01075/laws.toInt64S -/
def c45 : SC := .seq (.reg [ro 2 (.asg (.c .nils))] (some [0])) c45_2
theorem s45 : slimC ⟨22, [0]⟩ (Tryz.f45.body.getD .skip) = some c45.strip := by kernel_rfl

def c132_8 : SC := .seq (.reg [ro 11 (.ld 105 (.t 3)),
  ⟨none, .sto 105 (.t 2) (.t 11), none⟩] (some [2])) .ret
def c132_6 : SC := .seq (.reg [ro 7 (.fa 175 (.t 1) 1),
  ro 8 (.ld 22 (.t 7)),
  ro 9 (.call (.f 45) [(.t 8)]),
  ro 10 (.fa 105 (.t 3) 1),
  ⟨none, .sto 22 (.t 10) (.t 9), none⟩] (some [2, 3])) c132_8
def c132_4 : SC := .seq (.reg [ro 4 (.fa 175 (.t 1) 0),
  ro 5 (.ld 2 (.t 4)),
  ro 6 (.fa 105 (.t 3) 0),
  ⟨none, .sto 2 (.t 6) (.t 5), none⟩] (some [1, 2, 3])) c132_6
def c132_2 : SC := .seq (.reg [ro 3 (.alc 105)] (some [1, 2, 3])) c132_4
/-- loop.example/g01075/laws.toComponent -/
def c132 : SC := .seq (.reg [ro 1 (.bx 175 (.t 0)),
  ro 2 (.alc 105)] (some [1, 2])) c132_2
theorem s132 : slimC ⟨12, [0]⟩ (Tryz.f132.body.getD .skip) = some c132.strip := by kernel_rfl

def c62_12 : SC := .cond (.t 11) .skip (.exit 0)
def c62_18 : SC := .reg [ro 12 (.mv (.t 4)),
  ro 13 (.bn .add 3 (.t 12) (.c (.int .i64 1))),
  ro 4 (.asg (.t 13))] (some [0, 3, 4])
def c62_15 : SC := .seq (.block 1 (.reg [ro 14 (.mv (.t 3)),
  ro 15 (.mv (.t 4)),
  ro 16 (.mv (.t 0)),
  ro 17 (.mv (.t 4)),
  ro 18 (.ia 39 (.t 16) (.t 17)),
  ro 19 (.ld 175 (.t 18)),
  ro 20 (.call (.f 132) [(.t 19)]),
  ro 21 (.ia 47 (.t 14) (.t 15)),
  ⟨none, .sto 105 (.t 21) (.t 20), none⟩] (some [0, 3, 4]))) c62_18
def c62_9 : SC := .seq (.seq (.reg [ro 8 (.mv (.t 4)),
  ro 9 (.mv (.t 0)),
  ro 10 (.len 39 (.t 9)),
  ro 11 (.bn .lss 3 (.t 8) (.t 10))] (some [0, 3, 4, 11])) c62_12) c62_15
def c62_7 : SC := .block 0 (.loop c62_9)
def c62_19 : SC := .seq (.reg [ro 22 (.mv (.t 3)),
  ro 2 (.asg (.t 22))] (some [2])) .ret
def c62_4 : SC := .seq (.seq (.reg [ro 4 (.asg (.c (.int .i64 0)))] (some [0, 3, 4])) c62_7) c62_19
def c62_2 : SC := .seq (.reg [ro 5 (.mv (.t 0)),
  ro 6 (.len 39 (.t 5)),
  ro 7 (.mks 47 (.t 6) (.t 6)),
  ro 3 (.asg (.t 7))] (some [0, 3])) c62_4
/-- loop.example/g01075/laws.toComponentS -/
def c62 : SC := .seq (.reg [ro 2 (.asg (.c .nils))] (some [0])) c62_2
theorem s62 : slimC ⟨23, [0]⟩ (Tryz.f62.body.getD .skip) = some c62.strip := by kernel_rfl

def c78_10 : SC := .seq (.reg [ro 13 (.ld 119 (.t 3)),
  ⟨none, .sto 119 (.t 2) (.t 13), none⟩] (some [2])) .ret
def c78_8 : SC := .seq (.reg [ro 10 (.fa 116 (.t 1) 2),
  ro 11 (.ld 9 (.t 10)),
  ro 12 (.fa 119 (.t 3) 2),
  ⟨none, .sto 9 (.t 12) (.t 11), none⟩] (some [2, 3])) c78_10
def c78_6 : SC := .seq (.reg [ro 7 (.fa 116 (.t 1) 1),
  ro 8 (.ld 9 (.t 7)),
  ro 9 (.fa 119 (.t 3) 1),
  ⟨none, .sto 9 (.t 9) (.t 8), none⟩] (some [1, 2, 3])) c78_8
def c78_4 : SC := .seq (.reg [ro 4 (.fa 116 (.t 1) 0),
  ro 5 (.ld 9 (.t 4)),
  ro 6 (.fa 119 (.t 3) 0),
  ⟨none, .sto 9 (.t 6) (.t 5), none⟩] (some [1, 2, 3])) c78_6
def c78_2 : SC := .seq (.reg [ro 3 (.alc 119)] (some [1, 2, 3])) c78_4
/-- loop.example/g01075/laws.toMeeting -/
def c78 : SC := .seq (.reg [ro 1 (.bx 116 (.t 0)),
  ro 2 (.alc 119)] (some [1, 2])) c78_2
theorem s78 : slimC ⟨14, [0]⟩ (Tryz.f78.body.getD .skip) = some c78.strip := by kernel_rfl

def c28_12 : SC := .cond (.t 11) .skip (.exit 0)
def c28_18 : SC := .reg [ro 12 (.mv (.t 4)),
  ro 13 (.bn .add 3 (.t 12) (.c (.int .i64 1))),
  ro 4 (.asg (.t 13))] (some [0, 3, 4])
def c28_15 : SC := .seq (.block 1 (.reg [ro 14 (.mv (.t 3)),
  ro 15 (.mv (.t 4)),
  ro 16 (.mv (.t 0)),
  ro 17 (.mv (.t 4)),
  ro 18 (.ia 40 (.t 16) (.t 17)),
  ro 19 (.ld 116 (.t 18)),
  ro 20 (.call (.f 78) [(.t 19)]),
  ro 21 (.ia 48 (.t 14) (.t 15)),
  ⟨none, .sto 119 (.t 21) (.t 20), none⟩] (some [0, 3, 4]))) c28_18
def c28_9 : SC := .seq (.seq (.reg [ro 8 (.mv (.t 4)),
  ro 9 (.mv (.t 0)),
  ro 10 (.len 40 (.t 9)),
  ro 11 (.bn .lss 3 (.t 8) (.t 10))] (some [0, 3, 4, 11])) c28_12) c28_15
def c28_7 : SC := .block 0 (.loop c28_9)
def c28_19 : SC := .seq (.reg [ro 22 (.mv (.t 3)),
  ro 2 (.asg (.t 22))] (some [2])) .ret
def c28_4 : SC := .seq (.seq (.reg [ro 4 (.asg (.c (.int .i64 0)))] (some [0, 3, 4])) c28_7) c28_19
def c28_2 : SC := .seq (.reg [ro 5 (.mv (.t 0)),
  ro 6 (.len 40 (.t 5)),
  ro 7 (.mks 48 (.t 6) (.t 6)),
  ro 3 (.asg (.t 7))] (some [0, 3])) c28_4
/-- loop.example/g01075/laws.toMeetingS -/
def c28 : SC := .seq (.reg [ro 2 (.asg (.c .nils))] (some [0])) c28_2
theorem s28 : slimC ⟨23, [0]⟩ (Tryz.f28.body.getD .skip) = some c28.strip := by kernel_rfl

def c63_12 : SC := .cond (.t 11) .skip (.exit 0)
def c63_18 : SC := .reg [ro 12 (.mv (.t 4)),
  ro 13 (.bn .add 3 (.t 12) (.c (.int .i64 1))),
  ro 4 (.asg (.t 13))] (some [0, 3, 4])
def c63_15 : SC := .seq (.block 1 (.reg [ro 14 (.mv (.t 3)),
  ro 15 (.mv (.t 4)),
  ro 16 (.mv (.t 0)),
  ro 17 (.mv (.t 4)),
  ro 18 (.ia 41 (.t 16) (.t 17)),
  ro 19 (.ld 9 (.t 18)),
  ro 20 (.ia 41 (.t 14) (.t 15)),
  ⟨none, .sto 9 (.t 20) (.t 19), none⟩] (some [0, 3, 4]))) c63_18
def c63_9 : SC := .seq (.seq (.reg [ro 8 (.mv (.t 4)),
  ro 9 (.mv (.t 0)),
  ro 10 (.len 41 (.t 9)),
  ro 11 (.bn .lss 3 (.t 8) (.t 10))] (some [0, 3, 4, 11])) c63_12) c63_15
def c63_7 : SC := .block 0 (.loop c63_9)
def c63_19 : SC := .seq (.reg [ro 21 (.mv (.t 3)),
  ro 2 (.asg (.t 21))] (some [2])) .ret
def c63_4 : SC := .seq (.seq (.reg [ro 4 (.asg (.c (.int .i64 0)))] (some [0, 3, 4])) c63_7) c63_19
def c63_2 : SC := .seq (.reg [ro 5 (.mv (.t 0)),
  ro 6 (.len 41 (.t 5)),
  ro 7 (.mks 41 (.t 6) (.t 6)),
  ro 3 (.asg (.t 7))] (some [0, 3])) c63_4
/-- loop.example/g01075/laws.toStringS -/
def c63 : SC := .seq (.reg [ro 2 (.asg (.c .nils))] (some [0])) c63_2
theorem s63 : slimC ⟨22, [0]⟩ (Tryz.f63.body.getD .skip) = some c63.strip := by kernel_rfl

def c21_14 : SC := .seq (.reg [ro 24 (.ld 50 (.t 3)),
  ⟨none, .sto 50 (.t 2) (.t 24), none⟩] (some [2])) .ret
def c21_12 : SC := .seq (.reg [ro 20 (.fa 43 (.t 1) 4),
  ro 21 (.ld 41 (.t 20)),
  ro 22 (.call (.f 63) [(.t 21)]),
  ro 23 (.fa 50 (.t 3) 4),
  ⟨none, .sto 41 (.t 23) (.t 22), none⟩] (some [2, 3])) c21_14
def c21_10 : SC := .seq (.reg [ro 16 (.fa 43 (.t 1) 3),
  ro 17 (.ld 41 (.t 16)),
  ro 18 (.call (.f 63) [(.t 17)]),
  ro 19 (.fa 50 (.t 3) 3),
  ⟨none, .sto 41 (.t 19) (.t 18), none⟩] (some [1, 2, 3])) c21_12
def c21_8 : SC := .seq (.reg [ro 12 (.fa 43 (.t 1) 2),
  ro 13 (.ld 40 (.t 12)),
  ro 14 (.call (.f 28) [(.t 13)]),
  ro 15 (.fa 50 (.t 3) 2),
  ⟨none, .sto 48 (.t 15) (.t 14), none⟩] (some [1, 2, 3])) c21_10
def c21_6 : SC := .seq (.reg [ro 8 (.fa 43 (.t 1) 1),
  ro 9 (.ld 39 (.t 8)),
  ro 10 (.call (.f 62) [(.t 9)]),
  ro 11 (.fa 50 (.t 3) 1),
  ⟨none, .sto 47 (.t 11) (.t 10), none⟩] (some [1, 2, 3])) c21_8
def c21_4 : SC := .seq (.reg [ro 4 (.fa 43 (.t 1) 0),
  ro 5 (.ld 38 (.t 4)),
  ro 6 (.call (.f 61) [(.t 5)]),
  ro 7 (.fa 50 (.t 3) 0),
  ⟨none, .sto 46 (.t 7) (.t 6), none⟩] (some [1, 2, 3])) c21_6
def c21_2 : SC := .seq (.reg [ro 3 (.alc 50)] (some [1, 2, 3])) c21_4
/-- loop.example/g01075/laws.toSystem -/
def c21 : SC := .seq (.reg [ro 1 (.bx 43 (.t 0)),
  ro 2 (.alc 50)] (some [1, 2])) c21_2
theorem s21 : slimC ⟨25, [0]⟩ (Tryz.f21.body.getD .skip) = some c21.strip := by kernel_rfl

def c86_10 : SC := .seq (.reg [ro 14 (.ld 131 (.t 3)),
  ⟨none, .sto 131 (.t 2) (.t 14), none⟩] (some [2])) .ret
def c86_8 : SC := .seq (.reg [ro 10 (.fa 129 (.t 1) 2),
  ro 11 (.ld 22 (.t 10)),
  ro 12 (.call (.f 45) [(.t 11)]),
  ro 13 (.fa 131 (.t 3) 2),
  ⟨none, .sto 22 (.t 13) (.t 12), none⟩] (some [2, 3])) c86_10
def c86_6 : SC := .seq (.reg [ro 7 (.fa 129 (.t 1) 1),
  ro 8 (.ld 2 (.t 7)),
  ro 9 (.fa 131 (.t 3) 1),
  ⟨none, .sto 2 (.t 9) (.t 8), none⟩] (some [1, 2, 3])) c86_8
def c86_4 : SC := .seq (.reg [ro 4 (.fa 129 (.t 1) 0),
  ro 5 (.ld 2 (.t 4)),
  ro 6 (.fa 131 (.t 3) 0),
  ⟨none, .sto 2 (.t 6) (.t 5), none⟩] (some [1, 2, 3])) c86_6
def c86_2 : SC := .seq (.reg [ro 3 (.alc 131)] (some [1, 2, 3])) c86_4
/-- loop.example/g01075/laws.toPoint -/
def c86 : SC := .seq (.reg [ro 1 (.bx 129 (.t 0)),
  ro 2 (.alc 131)] (some [1, 2])) c86_2
theorem s86 : slimC ⟨15, [0]⟩ (Tryz.f86.body.getD .skip) = some c86.strip := by kernel_rfl

def c36_12 : SC := .cond (.t 11) .skip (.exit 0)
def c36_18 : SC := .reg [ro 12 (.mv (.t 4)),
  ro 13 (.bn .add 3 (.t 12) (.c (.int .i64 1))),
  ro 4 (.asg (.t 13))] (some [0, 3, 4])
def c36_15 : SC := .seq (.block 1 (.reg [ro 14 (.mv (.t 3)),
  ro 15 (.mv (.t 4)),
  ro 16 (.mv (.t 0)),
  ro 17 (.mv (.t 4)),
  ro 18 (.ia 65 (.t 16) (.t 17)),
  ro 19 (.ld 129 (.t 18)),
  ro 20 (.call (.f 86) [(.t 19)]),
  ro 21 (.ia 68 (.t 14) (.t 15)),
  ⟨none, .sto 131 (.t 21) (.t 20), none⟩] (some [0, 3, 4]))) c36_18
def c36_9 : SC := .seq (.seq (.reg [ro 8 (.mv (.t 4)),
  ro 9 (.mv (.t 0)),
  ro 10 (.len 65 (.t 9)),
  ro 11 (.bn .lss 3 (.t 8) (.t 10))] (some [0, 3, 4, 11])) c36_12) c36_15
def c36_7 : SC := .block 0 (.loop c36_9)
def c36_19 : SC := .seq (.reg [ro 22 (.mv (.t 3)),
  ro 2 (.asg (.t 22))] (some [2])) .ret
def c36_4 : SC := .seq (.seq (.reg [ro 4 (.asg (.c (.int .i64 0)))] (some [0, 3, 4])) c36_7) c36_19
def c36_2 : SC := .seq (.reg [ro 5 (.mv (.t 0)),
  ro 6 (.len 65 (.t 5)),
  ro 7 (.mks 68 (.t 6) (.t 6)),
  ro 3 (.asg (.t 7))] (some [0, 3])) c36_4
/-- loop.example/g01075/laws.toPointS -/
def c36 : SC := .seq (.reg [ro 2 (.asg (.c .nils))] (some [0])) c36_2
theorem s36 : slimC ⟨23, [0]⟩ (Tryz.f36.body.getD .skip) = some c36.strip := by kernel_rfl

def c224_2 : SC := .seq (.reg [ro 3 (.mv (.t 0)),
  ro 4 (.bn .geq 5 (.t 3) (.c (.int .u8 97))),
  ro 5 (.mv (.t 4)),
  ⟨some 6, .mv (.t 0), some (5, true)⟩,
  ⟨some 7, .bn .leq 5 (.t 6) (.c (.int .u8 122)), some (5, true)⟩,
  ro 8 (.pick (.t 5) (.t 7) (.c (.bool false))),
  ro 2 (.asg (.t 8))] (some [2])) .ret
/-- loop.example/g01075/spec.l01Small -/
def c224 : SC := .seq (.reg [ro 2 (.asg (.c (.bool false)))] (some [0])) c224_2
theorem s224 : slimC ⟨9, [0]⟩ (Tryz.f224.body.getD .skip) = some c224.strip := by kernel_rfl

def c225_2 : SC := .seq (.reg [ro 3 (.mv (.t 0)),
  ro 4 (.bn .geq 5 (.t 3) (.c (.int .u8 48))),
  ro 5 (.mv (.t 4)),
  ⟨some 6, .mv (.t 0), some (5, true)⟩,
  ⟨some 7, .bn .leq 5 (.t 6) (.c (.int .u8 57)), some (5, true)⟩,
  ro 8 (.pick (.t 5) (.t 7) (.c (.bool false))),
  ro 2 (.asg (.t 8))] (some [2])) .ret
/-- loop.example/g01075/spec.l01Digit -/
def c225 : SC := .seq (.reg [ro 2 (.asg (.c (.bool false)))] (some [0])) c225_2
theorem s225 : slimC ⟨9, [0]⟩ (Tryz.f225.body.getD .skip) = some c225.strip := by kernel_rfl

def c179_6 : SC := .seq (.reg [ro 2 (.asg (.c (.bool false)))] (some [2])) .ret
def c179_5 : SC := .cond (.t 16) c179_6 .skip
def c179_18 : SC := .cond (.t 20) .skip (.exit 0)
def c179_26 : SC := .seq (.reg [ro 2 (.asg (.c (.bool false)))] (some [2])) .ret
def c179_25 : SC := .cond (.t 34) c179_26 .skip
def c179_30 : SC := .reg [ro 21 (.mv (.t 3)),
  ro 22 (.bn .add 3 (.t 21) (.c (.int .i64 1))),
  ro 3 (.asg (.t 22))] (some [0, 3])
def c179_21 : SC := .seq (.block 1 (.seq (.reg [ro 23 (.mv (.t 0)),
  ro 24 (.mv (.t 3)),
  ro 25 (.idx 9 (.t 23) (.t 24)),
  ro 26 (.call (.f 224) [(.t 25)]),
  ro 27 (.un .not (.t 26)),
  ro 28 (.mv (.t 27)),
  ⟨some 29, .mv (.t 0), some (28, true)⟩,
  ⟨some 30, .mv (.t 3), some (28, true)⟩,
  ⟨some 31, .idx 9 (.t 29) (.t 30), some (28, true)⟩,
  ⟨some 32, .call (.f 225) [(.t 31)], some (28, true)⟩,
  ⟨some 33, .un .not (.t 32), some (28, true)⟩,
  ro 34 (.pick (.t 28) (.t 33) (.c (.bool false)))] (some [0, 3, 34])) c179_25)) c179_30
def c179_15 : SC := .seq (.seq (.reg [ro 17 (.mv (.t 3)),
  ro 18 (.mv (.t 0)),
  ro 19 (.len 9 (.t 18)),
  ro 20 (.bn .lss 3 (.t 17) (.t 19))] (some [0, 3, 20])) c179_18) c179_21
def c179_13 : SC := .block 0 (.loop c179_15)
def c179_31 : SC := .seq (.reg [ro 2 (.asg (.c (.bool true)))] (some [2])) .ret
def c179_10 : SC := .seq (.seq (.reg [ro 3 (.asg (.c (.int .i64 0)))] (some [0, 3])) c179_13) c179_31
def c179_2 : SC := .seq (.seq (.reg [ro 4 (.mv (.t 0)),
  ro 5 (.bn .eql 9 (.t 4) (.c (.str []))),
  ro 6 (.mv (.t 5)),
  ⟨some 7, .mv (.t 0), some (6, false)⟩,
  ⟨some 8, .len 9 (.t 7), some (6, false)⟩,
  ⟨some 9, .bn .gtr 3 (.t 8) (.c (.int .i64 10)), some (6, false)⟩,
  ro 10 (.pick (.t 6) (.c (.bool true)) (.t 9)),
  ro 11 (.mv (.t 10)),
  ⟨some 12, .mv (.t 0), some (11, false)⟩,
  ⟨some 13, .idx 9 (.t 12) (.c (.int .i64 0)), some (11, false)⟩,
  ⟨some 14, .call (.f 224) [(.t 13)], some (11, false)⟩,
  ⟨some 15, .un .not (.t 14), some (11, false)⟩,
  ro 16 (.pick (.t 11) (.c (.bool true)) (.t 15))] (some [0, 16])) c179_5) c179_10
/-- loop.example/g01075/spec.l01Name -/
def c179 : SC := .seq (.reg [ro 2 (.asg (.c (.bool false)))] (some [0])) c179_2
theorem s179 : slimC ⟨35, [0]⟩ (Tryz.f179.body.getD .skip) = some c179.strip := by kernel_rfl

def c92_2 : SC := .seq (.reg [ro 7 (.mv (.t 0)),
  ro 8 (.mv (.t 1)),
  ro 9 (.bn .geq 2 (.t 7) (.t 8)),
  ro 10 (.mv (.t 9)),
  ⟨some 11, .mv (.t 0), some (10, true)⟩,
  ⟨some 12, .mv (.t 2), some (10, true)⟩,
  ⟨some 13, .bn .leq 2 (.t 11) (.t 12), some (10, true)⟩,
  ro 14 (.pick (.t 10) (.t 13) (.c (.bool false))),
  ro 6 (.asg (.t 14))] (some [6])) .ret
/-- loop.example/g01075/spec.l00In -/
def c92 : SC := .seq (.reg [ro 6 (.asg (.c (.bool false)))] (some [0, 1, 2])) c92_2
theorem s92 : slimC ⟨15, [0, 1, 2]⟩ (Tryz.f92.body.getD .skip) = some c92.strip := by kernel_rfl

def c243_15 : SC := .reg [ro 10 (.bn .eql 2 (.t 6) (.c (.int .i64 4))),
  ro 7 (.asg (.t 10))] (some [6, 7])
def c243_13 : SC := .cond (.t 7) .skip c243_15
def c243_11 : SC := .seq (.reg [ro 9 (.bn .eql 2 (.t 6) (.c (.int .i64 3))),
  ro 7 (.asg (.t 9))] (some [6, 7])) c243_13
def c243_9 : SC := .cond (.t 7) .skip c243_11
def c243_17 : SC := .seq (.reg [ro 2 (.asg (.c (.int .i64 1)))] (some [2])) .ret
def c243_23 : SC := .seq (.reg [ro 2 (.asg (.c (.int .i64 2)))] (some [2])) .ret
def c243_22 : SC := .cond (.t 11) c243_23 .skip
def c243_20 : SC := .seq (.reg [ro 12 (.bn .eql 2 (.t 6) (.c (.int .i64 2))),
  ro 11 (.asg (.t 12))] (some [11])) c243_22
def c243_16 : SC := .cond (.t 7) c243_17 c243_20
def c243_5 : SC := .block 0 (.seq (.seq (.reg [ro 8 (.bn .eql 2 (.t 6) (.c (.int .i64 1))),
  ro 7 (.asg (.t 8))] (some [6, 7])) c243_9) c243_16)
def c243_27 : SC := .seq (.reg [ro 2 (.asg (.c (.int .i64 0)))] (some [2])) .ret
def c243_2 : SC := .seq (.seq (.reg [ro 3 (.mv (.t 0)),
  ro 4 (.nilc (.t 3)),
  ro 5 (.fa 202 (.t 4) 0),
  ro 6 (.ld 2 (.t 5))] (some [6])) c243_5) c243_27
/-- loop.example/g01075/spec.l05Follow -/
def c243 : SC := .seq (.reg [ro 2 (.asg (.c (.int .i64 0)))] (some [0])) c243_2
theorem s243 : slimC ⟨13, [0]⟩ (Tryz.f243.body.getD .skip) = some c243.strip := by kernel_rfl

def c226_6 : SC := .seq (.reg [ro 2 (.asg (.c (.bool false)))] (some [2])) .ret
def c226_5 : SC := .cond (.t 12) c226_6 .skip
def c226_20 : SC := .cond (.t 16) .skip (.exit 0)
def c226_29 : SC := .seq (.reg [ro 2 (.asg (.c (.bool false)))] (some [2])) .ret
def c226_28 : SC := .cond (.t 20) c226_29 .skip
def c226_33 : SC := .reg [ro 21 (.mv (.t 3)),
  ro 22 (.mv (.t 0)),
  ro 23 (.mv (.t 4)),
  ro 24 (.ia 176 (.t 22) (.t 23)),
  ro 25 (.call (.f 243) [(.t 24)]),
  ro 26 (.bn .sub 2 (.t 25) (.c (.int .i64 1))),
  ro 27 (.bn .add 2 (.t 21) (.t 26)),
  ro 3 (.asg (.t 27))] (some [0, 3, 4])
def c226_34 : SC := .reg [ro 17 (.mv (.t 4)),
  ro 18 (.bn .add 3 (.t 17) (.c (.int .i64 1))),
  ro 4 (.asg (.t 18))] (some [0, 3, 4])
def c226_23 : SC := .seq (.block 1 (.seq (.seq (.reg [ro 19 (.mv (.t 3)),
  ro 20 (.bn .eql 2 (.t 19) (.c (.int .i64 0)))] (some [0, 3, 4, 20])) c226_28) c226_33)) c226_34
def c226_17 : SC := .seq (.seq (.reg [ro 13 (.mv (.t 4)),
  ro 14 (.mv (.t 0)),
  ro 15 (.len 176 (.t 14)),
  ro 16 (.bn .lss 3 (.t 13) (.t 15))] (some [0, 3, 4, 16])) c226_20) c226_23
def c226_15 : SC := .block 0 (.loop c226_17)
def c226_35 : SC := .seq (.reg [ro 28 (.mv (.t 3)),
  ro 29 (.bn .eql 2 (.t 28) (.c (.int .i64 0))),
  ro 2 (.asg (.t 29))] (some [2])) .ret
def c226_12 : SC := .seq (.seq (.reg [ro 4 (.asg (.c (.int .i64 0)))] (some [0, 3, 4])) c226_15) c226_35
def c226_10 : SC := .seq (.reg [ro 3 (.asg (.c (.int .i64 1)))] (some [0, 3])) c226_12
def c226_2 : SC := .seq (.seq (.reg [ro 5 (.mv (.t 0)),
  ro 6 (.len 176 (.t 5)),
  ro 7 (.bn .eql 3 (.t 6) (.c (.int .i64 0))),
  ro 8 (.mv (.t 7)),
  ⟨some 9, .mv (.t 0), some (8, false)⟩,
  ⟨some 10, .len 176 (.t 9), some (8, false)⟩,
  ⟨some 11, .bn .gtr 3 (.t 10) (.c (.int .i64 20)), some (8, false)⟩,
  ro 12 (.pick (.t 8) (.c (.bool true)) (.t 11))] (some [0, 12])) c226_5) c226_10
/-- loop.example/g01075/spec.l05Shape -/
def c226 : SC := .seq (.reg [ro 2 (.asg (.c (.bool false)))] (some [0])) c226_2
theorem s226 : slimC ⟨30, [0]⟩ (Tryz.f226.body.getD .skip) = some c226.strip := by kernel_rfl

def c244_11 : SC := .reg [ro 9 (.bn .eql 2 (.t 6) (.c (.int .i64 2))),
  ro 7 (.asg (.t 9))] (some [0, 6, 7])
def c244_9 : SC := .cond (.t 7) .skip c244_11
def c244_13 : SC := .seq (.reg [ro 10 (.mv (.t 0)),
  ro 11 (.nilc (.t 10)),
  ro 12 (.fa 202 (.t 11) 1),
  ro 13 (.ld 2 (.t 12)),
  ro 14 (.bn .eql 2 (.t 13) (.c (.int .i64 0))),
  ro 15 (.mv (.t 14)),
  ⟨some 16, .mv (.t 0), some (15, true)⟩,
  ⟨some 17, .nilc (.t 16), some (15, true)⟩,
  ⟨some 18, .fa 202 (.t 17) 2, some (15, true)⟩,
  ⟨some 19, .ld 9 (.t 18), some (15, true)⟩,
  ⟨some 20, .bn .eql 9 (.t 19) (.c (.str [])), some (15, true)⟩,
  ro 21 (.pick (.t 15) (.t 20) (.c (.bool false))),
  ro 22 (.mv (.t 21)),
  ⟨some 23, .mv (.t 0), some (22, true)⟩,
  ⟨some 24, .nilc (.t 23), some (22, true)⟩,
  ⟨some 25, .fa 202 (.t 24) 3, some (22, true)⟩,
  ⟨some 26, .ld 85 (.t 25), some (22, true)⟩,
  ⟨some 27, .len 85 (.t 26), some (22, true)⟩,
  ⟨some 28, .bn .eql 3 (.t 27) (.c (.int .i64 0)), some (22, true)⟩,
  ro 29 (.pick (.t 22) (.t 28) (.c (.bool false))),
  ro 2 (.asg (.t 29))] (some [2])) .ret
def c244_19 : SC := .seq (.reg [ro 32 (.mv (.t 0)),
  ro 33 (.nilc (.t 32)),
  ro 34 (.fa 202 (.t 33) 1),
  ro 35 (.ld 2 (.t 34)),
  ro 36 (.bn .eql 2 (.t 35) (.c (.int .i64 0))),
  ro 2 (.asg (.t 36))] (some [2])) .ret
def c244_25 : SC := .seq (.reg [ro 39 (.mv (.t 0)),
  ro 40 (.nilc (.t 39)),
  ro 41 (.fa 202 (.t 40) 1),
  ro 42 (.ld 2 (.t 41)),
  ro 43 (.bn .eql 2 (.t 42) (.c (.int .i64 0))),
  ro 44 (.mv (.t 43)),
  ⟨some 45, .mv (.t 0), some (44, true)⟩,
  ⟨some 46, .nilc (.t 45), some (44, true)⟩,
  ⟨some 47, .fa 202 (.t 46) 2, some (44, true)⟩,
  ⟨some 48, .ld 9 (.t 47), some (44, true)⟩,
  ⟨some 49, .bn .eql 9 (.t 48) (.c (.str [])), some (44, true)⟩,
  ro 50 (.pick (.t 44) (.t 49) (.c (.bool false))),
  ro 2 (.asg (.t 50))] (some [2])) .ret
def c244_31 : SC := .seq (.reg [ro 53 (.mv (.t 0)),
  ro 54 (.nilc (.t 53)),
  ro 55 (.fa 202 (.t 54) 2),
  ro 56 (.ld 9 (.t 55)),
  ro 57 (.bn .eql 9 (.t 56) (.c (.str []))),
  ro 58 (.mv (.t 57)),
  ⟨some 59, .mv (.t 0), some (58, true)⟩,
  ⟨some 60, .nilc (.t 59), some (58, true)⟩,
  ⟨some 61, .fa 202 (.t 60) 3, some (58, true)⟩,
  ⟨some 62, .ld 85 (.t 61), some (58, true)⟩,
  ⟨some 63, .len 85 (.t 62), some (58, true)⟩,
  ⟨some 64, .bn .eql 3 (.t 63) (.c (.int .i64 0)), some (58, true)⟩,
  ro 65 (.pick (.t 58) (.t 64) (.c (.bool false))),
  ro 2 (.asg (.t 65))] (some [2])) .ret
def c244_37 : SC := .seq (.reg [ro 68 (.mv (.t 0)),
  ro 69 (.nilc (.t 68)),
  ro 70 (.fa 202 (.t 69) 2),
  ro 71 (.ld 9 (.t 70)),
  ro 72 (.bn .eql 9 (.t 71) (.c (.str []))),
  ro 2 (.asg (.t 72))] (some [2])) .ret
def c244_36 : SC := .cond (.t 66) c244_37 .skip
def c244_34 : SC := .seq (.reg [ro 67 (.bn .eql 2 (.t 6) (.c (.int .i64 5))),
  ro 66 (.asg (.t 67))] (some [0, 66])) c244_36
def c244_30 : SC := .cond (.t 51) c244_31 c244_34
def c244_28 : SC := .seq (.reg [ro 52 (.bn .eql 2 (.t 6) (.c (.int .i64 4))),
  ro 51 (.asg (.t 52))] (some [0, 6, 51])) c244_30
def c244_24 : SC := .cond (.t 37) c244_25 c244_28
def c244_22 : SC := .seq (.reg [ro 38 (.bn .eql 2 (.t 6) (.c (.int .i64 3))),
  ro 37 (.asg (.t 38))] (some [0, 6, 37])) c244_24
def c244_18 : SC := .cond (.t 30) c244_19 c244_22
def c244_16 : SC := .seq (.reg [ro 31 (.bn .eql 2 (.t 6) (.c (.int .i64 1))),
  ro 30 (.asg (.t 31))] (some [0, 6, 30])) c244_18
def c244_12 : SC := .cond (.t 7) c244_13 c244_16
def c244_5 : SC := .block 0 (.seq (.seq (.reg [ro 8 (.bn .eql 2 (.t 6) (.c (.int .i64 0))),
  ro 7 (.asg (.t 8))] (some [0, 6, 7])) c244_9) c244_12)
def c244_41 : SC := .seq (.reg [ro 2 (.asg (.c (.bool false)))] (some [2])) .ret
def c244_2 : SC := .seq (.seq (.reg [ro 3 (.mv (.t 0)),
  ro 4 (.nilc (.t 3)),
  ro 5 (.fa 202 (.t 4) 0),
  ro 6 (.ld 2 (.t 5))] (some [0, 6])) c244_5) c244_41
/-- loop.example/g01075/spec.l05Kind -/
def c244 : SC := .seq (.reg [ro 2 (.asg (.c (.bool false)))] (some [0])) c244_2
theorem s244 : slimC ⟨73, [0]⟩ (Tryz.f244.body.getD .skip) = some c244.strip := by kernel_rfl

def c242_10 : SC := .cond (.t 7) .skip (.exit 0)
def c242_16 : SC := .reg [ro 15 (.mv (.t 1)),
  ro 16 (.bn .add 2 (.t 15) (.c (.int .i64 1))),
  ro 1 (.asg (.t 16))] (some [0, 1, 5])
def c242_13 : SC := .block 1 (.seq (.reg [ro 8 (.mv (.t 5)),
  ro 9 (.mv (.t 0)),
  ro 10 (.mv (.t 1)),
  ro 11 (.ia 176 (.t 9) (.t 10)),
  ro 12 (.call (.f 243) [(.t 11)]),
  ro 13 (.bn .sub 2 (.t 12) (.c (.int .i64 1))),
  ro 14 (.bn .add 2 (.t 8) (.t 13)),
  ro 5 (.asg (.t 14))] (some [0, 1, 5])) c242_16)
def c242_7 : SC := .seq (.seq (.reg [ro 6 (.mv (.t 5)),
  ro 7 (.bn .gtr 2 (.t 6) (.c (.int .i64 0)))] (some [0, 1, 5, 7])) c242_10) c242_13
def c242_17 : SC := .seq (.reg [ro 17 (.mv (.t 1)),
  ro 4 (.asg (.t 17))] (some [4])) .ret
def c242_4 : SC := .seq (.block 0 (.loop c242_7)) c242_17
def c242_2 : SC := .seq (.reg [ro 5 (.asg (.c (.int .i64 1)))] (some [0, 1, 5])) c242_4
/-- loop.example/g01075/spec.l05End -/
def c242 : SC := .seq (.reg [ro 4 (.asg (.c (.int .i64 0)))] (some [0, 1])) c242_2
theorem s242 : slimC ⟨18, [0]⟩ (Tryz.f242.body.getD .skip) = some c242.strip := by kernel_rfl

def c208_12 : SC := .cond (.t 13) .skip (.exit 0)
def c208_20 : SC := .reg [ro 35 (.mv (.t 5)),
  ro 36 (.bn .add 2 (.t 35) (.c (.int .i64 1))),
  ro 5 (.asg (.t 36))] (some [0, 1, 5, 6])
def c208_19 : SC := .cond (.t 34) c208_20 .skip
def c208_22 : SC := .reg [ro 14 (.mv (.t 6)),
  ro 15 (.bn .add 2 (.t 14) (.c (.int .i64 1))),
  ro 6 (.asg (.t 15))] (some [0, 1, 5, 6])
def c208_15 : SC := .seq (.block 1 (.seq (.reg [ro 16 (.mv (.t 0)),
  ro 17 (.nilc (.t 16)),
  ro 18 (.fa 178 (.t 17) 2),
  ro 19 (.ld 176 (.t 18)),
  ro 20 (.mv (.t 6)),
  ro 21 (.ia 176 (.t 19) (.t 20)),
  ro 22 (.fa 202 (.t 21) 0),
  ro 23 (.ld 2 (.t 22)),
  ro 24 (.bn .eql 2 (.t 23) (.c (.int .i64 4))),
  ro 25 (.mv (.t 24)),
  ⟨some 26, .mv (.t 0), some (25, true)⟩,
  ⟨some 27, .nilc (.t 26), some (25, true)⟩,
  ⟨some 28, .fa 178 (.t 27) 2, some (25, true)⟩,
  ⟨some 29, .ld 176 (.t 28), some (25, true)⟩,
  ⟨some 30, .mv (.t 6), some (25, true)⟩,
  ⟨some 31, .call (.f 242) [(.t 29), (.t 30)], some (25, true)⟩,
  ⟨some 32, .mv (.t 1), some (25, true)⟩,
  ⟨some 33, .bn .gtr 2 (.t 31) (.t 32), some (25, true)⟩,
  ro 34 (.pick (.t 25) (.t 33) (.c (.bool false)))] (some [0, 1, 5, 6, 34])) c208_19)) c208_22
def c208_9 : SC := .seq (.seq (.reg [ro 11 (.mv (.t 6)),
  ro 12 (.mv (.t 1)),
  ro 13 (.bn .lss 2 (.t 11) (.t 12))] (some [0, 1, 5, 6, 13])) c208_12) c208_15
def c208_7 : SC := .block 0 (.loop c208_9)
def c208_23 : SC := .seq (.reg [ro 37 (.mv (.t 5)),
  ro 4 (.asg (.t 37))] (some [4])) .ret
def c208_4 : SC := .seq (.seq (.reg [ro 6 (.asg (.c (.int .i64 0)))] (some [0, 1, 5, 6])) c208_7) c208_23
def c208_2 : SC := .seq (.reg [ro 7 (.mv (.t 0)),
  ro 8 (.nilc (.t 7)),
  ro 9 (.fa 178 (.t 8) 1),
  ro 10 (.ld 2 (.t 9)),
  ro 5 (.asg (.t 10))] (some [0, 1, 5])) c208_4
/-- loop.example/g01075/spec.l05Scope -/
def c208 : SC := .seq (.reg [ro 4 (.asg (.c (.int .i64 0)))] (some [0, 1])) c208_2
theorem s208 : slimC ⟨38, [0, 1]⟩ (Tryz.f208.body.getD .skip) = some c208.strip := by kernel_rfl

def c211_9 : SC := .seq (.reg [ro 11 (.mv (.t 0)),
  ro 12 (.nilc (.t 11)),
  ro 13 (.fa 159 (.t 12) 1),
  ro 14 (.ld 2 (.t 13)),
  ro 15 (.call (.f 92) [(.t 14), (.c (.int .i64 0)), (.c (.int .i64 63))]),
  ro 4 (.asg (.t 15))] (some [4])) .ret
def c211_15 : SC := .seq (.reg [ro 18 (.mv (.t 0)),
  ro 19 (.nilc (.t 18)),
  ro 20 (.fa 159 (.t 19) 1),
  ro 21 (.ld 2 (.t 20)),
  ro 22 (.mv (.t 1)),
  ro 23 (.bn .sub 2 (.t 22) (.c (.int .i64 1))),
  ro 24 (.call (.f 92) [(.t 21), (.c (.int .i64 0)), (.t 23)]),
  ro 4 (.asg (.t 24))] (some [4])) .ret
def c211_21 : SC := .seq (.reg [ro 27 (.mv (.t 0)),
  ro 28 (.nilc (.t 27)),
  ro 29 (.fa 159 (.t 28) 1),
  ro 30 (.ld 2 (.t 29)),
  ro 31 (.call (.f 92) [(.t 30), (.c (.int .i64 0)), (.c (.int .i64 8))]),
  ro 4 (.asg (.t 31))] (some [4])) .ret
def c211_27 : SC := .seq (.reg [ro 34 (.mv (.t 0)),
  ro 35 (.nilc (.t 34)),
  ro 36 (.fa 159 (.t 35) 1),
  ro 37 (.ld 2 (.t 36)),
  ro 38 (.bn .eql 2 (.t 37) (.c (.int .i64 0))),
  ro 4 (.asg (.t 38))] (some [4])) .ret
def c211_26 : SC := .cond (.t 32) c211_27 .skip
def c211_24 : SC := .seq (.reg [ro 33 (.bn .eql 2 (.t 8) (.c (.int .i64 3))),
  ro 32 (.asg (.t 33))] (some [0, 32])) c211_26
def c211_20 : SC := .cond (.t 25) c211_21 c211_24
def c211_18 : SC := .seq (.reg [ro 26 (.bn .eql 2 (.t 8) (.c (.int .i64 2))),
  ro 25 (.asg (.t 26))] (some [0, 8, 25])) c211_20
def c211_14 : SC := .cond (.t 16) c211_15 c211_18
def c211_12 : SC := .seq (.reg [ro 17 (.bn .eql 2 (.t 8) (.c (.int .i64 1))),
  ro 16 (.asg (.t 17))] (some [0, 1, 8, 16])) c211_14
def c211_8 : SC := .cond (.t 9) c211_9 c211_12
def c211_5 : SC := .block 0 (.seq (.reg [ro 10 (.bn .eql 2 (.t 8) (.c (.int .i64 0))),
  ro 9 (.asg (.t 10))] (some [0, 1, 8, 9])) c211_8)
def c211_31 : SC := .seq (.reg [ro 4 (.asg (.c (.bool false)))] (some [4])) .ret
def c211_2 : SC := .seq (.seq (.reg [ro 5 (.mv (.t 0)),
  ro 6 (.nilc (.t 5)),
  ro 7 (.fa 159 (.t 6) 0),
  ro 8 (.ld 2 (.t 7))] (some [0, 1, 8])) c211_5) c211_31
/-- loop.example/g01075/spec.l03Term -/
def c211 : SC := .seq (.reg [ro 4 (.asg (.c (.bool false)))] (some [0, 1])) c211_2
theorem s211 : slimC ⟨39, [0, 1]⟩ (Tryz.f211.body.getD .skip) = some c211.strip := by kernel_rfl

def c212_9 : SC := .seq (.reg [ro 2 (.asg (.c (.int .i64 2)))] (some [2])) .ret
def c212_15 : SC := .seq (.reg [ro 2 (.asg (.c (.int .i64 1)))] (some [2])) .ret
def c212_14 : SC := .cond (.t 9) c212_15 .skip
def c212_12 : SC := .seq (.reg [ro 10 (.bn .eql 2 (.t 6) (.c (.int .i64 3))),
  ro 9 (.asg (.t 10))] (some [9])) c212_14
def c212_8 : SC := .cond (.t 7) c212_9 c212_12
def c212_5 : SC := .block 0 (.seq (.reg [ro 8 (.bn .eql 2 (.t 6) (.c (.int .i64 2))),
  ro 7 (.asg (.t 8))] (some [6, 7])) c212_8)
def c212_19 : SC := .seq (.reg [ro 2 (.asg (.c (.int .i64 0)))] (some [2])) .ret
def c212_2 : SC := .seq (.seq (.reg [ro 3 (.mv (.t 0)),
  ro 4 (.nilc (.t 3)),
  ro 5 (.fa 159 (.t 4) 0),
  ro 6 (.ld 2 (.t 5))] (some [6])) c212_5) c212_19
/-- loop.example/g01075/spec.l03Arity -/
def c212 : SC := .seq (.reg [ro 2 (.asg (.c (.int .i64 0)))] (some [0])) c212_2
theorem s212 : slimC ⟨11, [0]⟩ (Tryz.f212.body.getD .skip) = some c212.strip := by kernel_rfl

def c160_6 : SC := .seq (.reg [ro 6 (.asg (.c (.bool false)))] (some [6])) .ret
def c160_5 : SC := .cond (.t 12) c160_6 .skip
def c160_20 : SC := .cond (.t 16) .skip (.exit 0)
def c160_29 : SC := .seq (.reg [ro 6 (.asg (.c (.bool false)))] (some [6])) .ret
def c160_28 : SC := .cond (.t 28) c160_29 .skip
def c160_33 : SC := .reg [ro 29 (.mv (.t 7)),
  ro 30 (.mv (.t 0)),
  ro 31 (.mv (.t 8)),
  ro 32 (.ia 84 (.t 30) (.t 31)),
  ro 33 (.call (.f 212) [(.t 32)]),
  ro 34 (.bn .sub 2 (.t 33) (.c (.int .i64 1))),
  ro 35 (.bn .add 2 (.t 29) (.t 34)),
  ro 7 (.asg (.t 35))] (some [0, 1, 7, 8])
def c160_34 : SC := .reg [ro 17 (.mv (.t 8)),
  ro 18 (.bn .add 3 (.t 17) (.c (.int .i64 1))),
  ro 8 (.asg (.t 18))] (some [0, 1, 7, 8])
def c160_23 : SC := .seq (.block 1 (.seq (.seq (.reg [ro 19 (.mv (.t 7)),
  ro 20 (.bn .eql 2 (.t 19) (.c (.int .i64 0))),
  ro 21 (.mv (.t 20)),
  ⟨some 22, .mv (.t 0), some (21, false)⟩,
  ⟨some 23, .mv (.t 8), some (21, false)⟩,
  ⟨some 24, .ia 84 (.t 22) (.t 23), some (21, false)⟩,
  ⟨some 25, .mv (.t 1), some (21, false)⟩,
  ⟨some 26, .call (.f 211) [(.t 24), (.t 25)], some (21, false)⟩,
  ⟨some 27, .un .not (.t 26), some (21, false)⟩,
  ro 28 (.pick (.t 21) (.c (.bool true)) (.t 27))] (some [0, 1, 7, 8, 28])) c160_28) c160_33)) c160_34
def c160_17 : SC := .seq (.seq (.reg [ro 13 (.mv (.t 8)),
  ro 14 (.mv (.t 0)),
  ro 15 (.len 84 (.t 14)),
  ro 16 (.bn .lss 3 (.t 13) (.t 15))] (some [0, 1, 7, 8, 16])) c160_20) c160_23
def c160_15 : SC := .block 0 (.loop c160_17)
def c160_35 : SC := .seq (.reg [ro 36 (.mv (.t 7)),
  ro 37 (.bn .eql 2 (.t 36) (.c (.int .i64 0))),
  ro 6 (.asg (.t 37))] (some [6])) .ret
def c160_12 : SC := .seq (.seq (.reg [ro 8 (.asg (.c (.int .i64 0)))] (some [0, 1, 7, 8])) c160_15) c160_35
def c160_10 : SC := .seq (.reg [ro 7 (.asg (.c (.int .i64 1)))] (some [0, 1, 7])) c160_12
def c160_2 : SC := .seq (.seq (.reg [ro 9 (.mv (.t 0)),
  ro 10 (.len 84 (.t 9)),
  ro 11 (.mv (.t 2)),
  ro 12 (.bn .gtr 2 (.t 10) (.t 11))] (some [0, 1, 12])) c160_5) c160_10
/-- loop.example/g01075/spec.l03Is -/
def c160 : SC := .seq (.reg [ro 6 (.asg (.c (.bool false)))] (some [0, 1, 2])) c160_2
theorem s160 : slimC ⟨38, [0, 1, 2]⟩ (Tryz.f160.body.getD .skip) = some c160.strip := by kernel_rfl

def c227_8 : SC := .seq (.reg [ro 6 (.asg (.c (.int .i64 2)))] (some [6])) .ret
def c227_7 : SC := .cond (.t 19) c227_8 .skip
def c227_16 : SC := .seq (.reg [ro 6 (.asg (.c (.int .i64 3)))] (some [6])) .ret
def c227_15 : SC := .cond (.t 28) c227_16 .skip
def c227_24 : SC := .seq (.reg [ro 6 (.asg (.c (.int .i64 4)))] (some [6])) .ret
def c227_23 : SC := .cond (.t 51) c227_24 .skip
def c227_40 : SC := .seq (.reg [ro 6 (.asg (.c (.int .i64 5)))] (some [6])) .ret
def c227_39 : SC := .cond (.t 69) c227_40 .skip
def c227_37 : SC := .seq (.reg [ro 59 (.mv (.t 8)),
  ro 60 (.bn .gtr 2 (.t 59) (.c (.int .i64 2))),
  ro 61 (.mv (.t 60)),
  ⟨some 62, .mv (.t 8), some (61, false)⟩,
  ⟨some 63, .bn .gtr 2 (.t 62) (.c (.int .i64 0)), some (61, false)⟩,
  ⟨some 64, .mv (.t 63), some (61, false)⟩,
  ⟨some 65, .fa 202 (.t 7) 2, some (64, true)⟩,
  ⟨some 66, .ld 9 (.t 65), some (64, true)⟩,
  ⟨some 67, .bn .eql 9 (.t 66) (.c (.str [116, 97, 117])), some (64, true)⟩,
  ⟨some 68, .pick (.t 64) (.t 67) (.c (.bool false)), some (61, false)⟩,
  ro 69 (.pick (.t 61) (.c (.bool true)) (.t 68))] (some [1, 2, 7, 8, 69])) c227_39
def c227_50 : SC := .seq (.reg [ro 6 (.asg (.c (.int .i64 5)))] (some [6])) .ret
def c227_49 : SC := .cond (.t 73) c227_50 .skip
def c227_47 : SC := .seq (.reg [ro 72 (.mv (.t 8)),
  ro 73 (.bn .neq 2 (.t 72) (.c (.int .i64 1)))] (some [1, 2, 7, 8, 73])) c227_49
def c227_60 : SC := .seq (.reg [ro 6 (.asg (.c (.int .i64 5)))] (some [6])) .ret
def c227_59 : SC := .cond (.t 83) c227_60 .skip
def c227_57 : SC := .seq (.reg [ro 76 (.mv (.t 8)),
  ro 77 (.mv (.t 0)),
  ro 78 (.fa 202 (.t 7) 1),
  ro 79 (.ld 2 (.t 78)),
  ro 80 (.ia 46 (.t 77) (.t 79)),
  ro 81 (.fa 178 (.t 80) 1),
  ro 82 (.ld 2 (.t 81)),
  ro 83 (.bn .neq 2 (.t 76) (.t 82))] (some [1, 2, 7, 8, 83])) c227_59
def c227_56 : SC := .cond (.t 74) c227_57 .skip
def c227_54 : SC := .seq (.reg [ro 75 (.bn .eql 2 (.t 56) (.c (.int .i64 5))),
  ro 74 (.asg (.t 75))] (some [0, 1, 2, 7, 8, 74])) c227_56
def c227_46 : SC := .cond (.t 70) c227_47 c227_54
def c227_44 : SC := .seq (.reg [ro 71 (.bn .eql 2 (.t 56) (.c (.int .i64 3))),
  ro 70 (.asg (.t 71))] (some [0, 1, 2, 7, 8, 56, 70])) c227_46
def c227_36 : SC := .cond (.t 57) c227_37 c227_44
def c227_33 : SC := .block 0 (.seq (.reg [ro 58 (.bn .eql 2 (.t 56) (.c (.int .i64 1))),
  ro 57 (.asg (.t 58))] (some [0, 1, 2, 7, 8, 56, 57])) c227_36)
def c227_69 : SC := .seq (.reg [ro 6 (.asg (.c (.int .i64 6)))] (some [6])) .ret
def c227_68 : SC := .cond (.t 102) c227_69 .skip
def c227_79 : SC := .seq (.reg [ro 6 (.asg (.c (.int .i64 7)))] (some [6])) .ret
def c227_78 : SC := .cond (.t 112) c227_79 .skip
def c227_91 : SC := .cond (.t 115) .skip (.exit 1)
def c227_99 : SC := .seq (.reg [ro 6 (.asg (.c (.int .i64 8)))] (some [6])) .ret
def c227_98 : SC := .cond (.t 125) c227_99 .skip
def c227_103 : SC := .reg [ro 116 (.mv (.t 10)),
  ro 117 (.bn .add 2 (.t 116) (.c (.int .i64 1))),
  ro 10 (.asg (.t 117))] (some [7, 8, 9, 10])
def c227_94 : SC := .seq (.block 2 (.seq (.reg [ro 118 (.fa 202 (.t 7) 3),
  ro 119 (.ld 85 (.t 118)),
  ro 120 (.mv (.t 10)),
  ro 121 (.ia 85 (.t 119) (.t 120)),
  ro 122 (.ld 84 (.t 121)),
  ro 123 (.mv (.t 9)),
  ro 124 (.call (.f 160) [(.t 122), (.t 123), (.c (.int .i64 15))]),
  ro 125 (.un .not (.t 124))] (some [7, 8, 9, 10, 125])) c227_98)) c227_103
def c227_88 : SC := .seq (.seq (.reg [ro 113 (.mv (.t 10)),
  ro 114 (.mv (.t 8)),
  ro 115 (.bn .lss 2 (.t 113) (.t 114))] (some [7, 8, 9, 10, 115])) c227_91) c227_94
def c227_86 : SC := .block 1 (.loop c227_88)
def c227_104 : SC := .seq (.reg [ro 6 (.asg (.c (.int .i64 0)))] (some [6])) .ret
def c227_83 : SC := .seq (.seq (.reg [ro 10 (.asg (.c (.int .i64 0)))] (some [7, 8, 9, 10])) c227_86) c227_104
def c227_75 : SC := .seq (.seq (.reg [ro 106 (.fa 202 (.t 7) 0),
  ro 107 (.ld 2 (.t 106)),
  ro 108 (.bn .eql 2 (.t 107) (.c (.int .i64 4))),
  ro 109 (.mv (.t 108)),
  ⟨some 110, .mv (.t 9), some (109, true)⟩,
  ⟨some 111, .bn .geq 2 (.t 110) (.c (.int .i64 6)), some (109, true)⟩,
  ro 112 (.pick (.t 109) (.t 111) (.c (.bool false)))] (some [7, 8, 9, 112])) c227_78) c227_83
def c227_73 : SC := .seq (.reg [ro 103 (.mv (.t 1)),
  ro 104 (.mv (.t 2)),
  ro 105 (.call (.f 208) [(.t 103), (.t 104)]),
  ro 9 (.asg (.t 105))] (some [7, 8, 9])) c227_75
def c227_65 : SC := .seq (.seq (.reg [ro 84 (.fa 202 (.t 7) 0),
  ro 85 (.ld 2 (.t 84)),
  ro 86 (.bn .eql 2 (.t 85) (.c (.int .i64 5))),
  ro 87 (.mv (.t 86)),
  ⟨some 88, .mv (.t 2), some (87, true)⟩,
  ⟨some 89, .bn .eql 2 (.t 88) (.c (.int .i64 0)), some (87, true)⟩,
  ⟨some 90, .mv (.t 89), some (87, true)⟩,
  ⟨some 91, .mv (.t 1), some (90, false)⟩,
  ⟨some 92, .nilc (.t 91), some (90, false)⟩,
  ⟨some 93, .fa 178 (.t 92) 2, some (90, false)⟩,
  ⟨some 94, .ld 176 (.t 93), some (90, false)⟩,
  ⟨some 95, .mv (.t 2), some (90, false)⟩,
  ⟨some 96, .bn .sub 2 (.t 95) (.c (.int .i64 1)), some (90, false)⟩,
  ⟨some 97, .ia 176 (.t 94) (.t 96), some (90, false)⟩,
  ⟨some 98, .fa 202 (.t 97) 0, some (90, false)⟩,
  ⟨some 99, .ld 2 (.t 98), some (90, false)⟩,
  ⟨some 100, .bn .neq 2 (.t 99) (.c (.int .i64 1)), some (90, false)⟩,
  ⟨some 101, .pick (.t 90) (.c (.bool true)) (.t 100), some (87, true)⟩,
  ro 102 (.pick (.t 87) (.t 101) (.c (.bool false)))] (some [1, 2, 7, 8, 102])) c227_68) c227_73
def c227_30 : SC := .seq (.seq (.reg [ro 55 (.fa 202 (.t 7) 0),
  ro 56 (.ld 2 (.t 55))] (some [0, 1, 2, 7, 8, 56])) c227_33) c227_65
def c227_28 : SC := .seq (.reg [ro 52 (.fa 202 (.t 7) 3),
  ro 53 (.ld 85 (.t 52)),
  ro 54 (.len 85 (.t 53)),
  ro 8 (.asg (.t 54))] (some [0, 1, 2, 7, 8])) c227_30
def c227_20 : SC := .seq (.seq (.reg [ro 29 (.fa 202 (.t 7) 0),
  ro 30 (.ld 2 (.t 29)),
  ro 31 (.bn .eql 2 (.t 30) (.c (.int .i64 4))),
  ro 32 (.mv (.t 31)),
  ⟨some 33, .fa 202 (.t 7) 1, some (32, true)⟩,
  ⟨some 34, .ld 2 (.t 33), some (32, true)⟩,
  ⟨some 35, .call (.f 92) [(.t 34), (.c (.int .i64 1)), (.c (.int .i64 7))], some (32, true)⟩,
  ⟨some 36, .un .not (.t 35), some (32, true)⟩,
  ro 37 (.pick (.t 32) (.t 36) (.c (.bool false))),
  ro 38 (.mv (.t 37)),
  ⟨some 39, .fa 202 (.t 7) 0, some (38, false)⟩,
  ⟨some 40, .ld 2 (.t 39), some (38, false)⟩,
  ⟨some 41, .bn .eql 2 (.t 40) (.c (.int .i64 5)), some (38, false)⟩,
  ⟨some 42, .mv (.t 41), some (38, false)⟩,
  ⟨some 43, .fa 202 (.t 7) 1, some (42, true)⟩,
  ⟨some 44, .ld 2 (.t 43), some (42, true)⟩,
  ⟨some 45, .mv (.t 0), some (42, true)⟩,
  ⟨some 46, .len 46 (.t 45), some (42, true)⟩,
  ⟨some 47, .bn .sub 2 (.t 46) (.c (.int .i64 1)), some (42, true)⟩,
  ⟨some 48, .call (.f 92) [(.t 44), (.c (.int .i64 0)), (.t 47)], some (42, true)⟩,
  ⟨some 49, .un .not (.t 48), some (42, true)⟩,
  ⟨some 50, .pick (.t 42) (.t 49) (.c (.bool false)), some (38, false)⟩,
  ro 51 (.pick (.t 38) (.c (.bool true)) (.t 50))] (some [0, 1, 2, 7, 51])) c227_23) c227_28
def c227_12 : SC := .seq (.seq (.reg [ro 20 (.fa 202 (.t 7) 0),
  ro 21 (.ld 2 (.t 20)),
  ro 22 (.bn .eql 2 (.t 21) (.c (.int .i64 1))),
  ro 23 (.mv (.t 22)),
  ⟨some 24, .fa 202 (.t 7) 2, some (23, true)⟩,
  ⟨some 25, .ld 9 (.t 24), some (23, true)⟩,
  ⟨some 26, .call (.f 179) [(.t 25)], some (23, true)⟩,
  ⟨some 27, .un .not (.t 26), some (23, true)⟩,
  ro 28 (.pick (.t 23) (.t 27) (.c (.bool false)))] (some [0, 1, 2, 7, 28])) c227_15) c227_20
def c227_4 : SC := .seq (.seq (.reg [ro 18 (.call (.f 244) [(.t 7)]),
  ro 19 (.un .not (.t 18))] (some [0, 1, 2, 7, 19])) c227_7) c227_12
def c227_2 : SC := .seq (.reg [ro 11 (.mv (.t 1)),
  ro 12 (.nilc (.t 11)),
  ro 13 (.fa 178 (.t 12) 2),
  ro 14 (.ld 176 (.t 13)),
  ro 15 (.mv (.t 2)),
  ro 16 (.ia 176 (.t 14) (.t 15)),
  ro 17 (.ld 202 (.t 16)),
  ro 7 (.alc 202),
  ⟨none, .sto 202 (.t 7) (.t 17), none⟩] (some [0, 1, 2, 7])) c227_4
/-- loop.example/g01075/spec.l05Reason -/
def c227 : SC := .seq (.reg [ro 6 (.asg (.c (.int .i64 0)))] (some [0, 1, 2])) c227_2
theorem s227 : slimC ⟨126, [0, 1, 2]⟩ (Tryz.f227.body.getD .skip) = some c227.strip := by kernel_rfl

def c180_6 : SC := .seq (.reg [ro 4 (.asg (.c (.int .i64 0))),
  ro 5 (.asg (.c (.int .i64 1)))] (some [4, 5])) .ret
def c180_5 : SC := .cond (.t 13) c180_6 .skip
def c180_18 : SC := .cond (.t 20) .skip (.exit 0)
def c180_28 : SC := .seq (.reg [ro 29 (.mv (.t 6)),
  ro 30 (.mv (.t 7)),
  ro 4 (.asg (.t 29)),
  ro 5 (.asg (.t 30))] (some [4, 5])) .ret
def c180_27 : SC := .cond (.t 28) c180_28 .skip
def c180_25 : SC := .seq (.reg [ro 27 (.mv (.t 7)),
  ro 28 (.bn .gtr 2 (.t 27) (.c (.int .i64 0)))] (some [0, 1, 6, 7, 28])) c180_27
def c180_32 : SC := .reg [ro 21 (.mv (.t 6)),
  ro 22 (.bn .add 2 (.t 21) (.c (.int .i64 1))),
  ro 6 (.asg (.t 22))] (some [0, 1, 6])
def c180_21 : SC := .seq (.block 1 (.seq (.reg [ro 23 (.mv (.t 0)),
  ro 24 (.mv (.t 1)),
  ro 25 (.mv (.t 6)),
  ro 26 (.call (.f 227) [(.t 23), (.t 24), (.t 25)]),
  ro 7 (.asg (.t 26))] (some [0, 1, 6, 7])) c180_25)) c180_32
def c180_15 : SC := .seq (.seq (.reg [ro 14 (.mv (.t 6)),
  ro 15 (.mv (.t 1)),
  ro 16 (.nilc (.t 15)),
  ro 17 (.fa 178 (.t 16) 2),
  ro 18 (.ld 176 (.t 17)),
  ro 19 (.len 176 (.t 18)),
  ro 20 (.bn .lss 2 (.t 14) (.t 19))] (some [0, 1, 6, 20])) c180_18) c180_21
def c180_13 : SC := .block 0 (.loop c180_15)
def c180_33 : SC := .seq (.reg [ro 4 (.asg (.c (.int .i64 0))),
  ro 5 (.asg (.c (.int .i64 0)))] (some [4, 5])) .ret
def c180_10 : SC := .seq (.seq (.reg [ro 6 (.asg (.c (.int .i64 0)))] (some [0, 1, 6])) c180_13) c180_33
def c180_2 : SC := .seq (.seq (.reg [ro 8 (.mv (.t 1)),
  ro 9 (.nilc (.t 8)),
  ro 10 (.fa 178 (.t 9) 2),
  ro 11 (.ld 176 (.t 10)),
  ro 12 (.call (.f 226) [(.t 11)]),
  ro 13 (.un .not (.t 12))] (some [0, 1, 13])) c180_5) c180_10
/-- loop.example/g01075/spec.l05Body -/
def c180 : SC := .seq (.reg [ro 4 (.asg (.c (.int .i64 0))),
  ro 5 (.asg (.c (.int .i64 0)))] (some [0, 1])) c180_2
theorem s180 : slimC ⟨31, [0, 1]⟩ (Tryz.f180.body.getD .skip) = some c180.strip := by kernel_rfl

def c128_6 : SC := .seq (.reg [ro 2 (.asg (.c (.bool false)))] (some [2])) .ret
def c128_5 : SC := .cond (.t 15) c128_6 .skip
def c128_18 : SC := .cond (.t 19) .skip (.exit 0)
def c128_27 : SC := .seq (.reg [ro 2 (.asg (.c (.bool false)))] (some [2])) .ret
def c128_26 : SC := .cond (.t 37) c128_27 .skip
def c128_38 : SC := .cond (.t 40) .skip (.exit 2)
def c128_46 : SC := .seq (.reg [ro 2 (.asg (.c (.bool false)))] (some [2])) .ret
def c128_45 : SC := .cond (.t 53) c128_46 .skip
def c128_50 : SC := .reg [ro 41 (.mv (.t 4)),
  ro 42 (.bn .add 3 (.t 41) (.c (.int .i64 1))),
  ro 4 (.asg (.t 42))] (some [0, 3, 4])
def c128_41 : SC := .seq (.block 3 (.seq (.drw [ro 43 (.mv (.t 0)),
  ro 44 (.mv (.t 4)),
  ro 45 (.ia 46 (.t 43) (.t 44)),
  ro 46 (.fa 178 (.t 45) 0),
  ro 47 (.ld 9 (.t 46)),
  ro 48 (.mv (.t 0)),
  ro 49 (.mv (.t 3)),
  ro 50 (.ia 46 (.t 48) (.t 49)),
  ro 51 (.fa 178 (.t 50) 0),
  ro 52 (.ld 9 (.t 51)),
  ro 53 (.bn .eql 9 (.t 47) (.t 52))] [[], [], [0, 1], [2], [3], [], [], [5, 6], [7], [8], [4, 9]] (some [0, 3, 4, 53])) c128_45)) c128_50
def c128_35 : SC := .seq (.seq (.reg [ro 38 (.mv (.t 4)),
  ro 39 (.mv (.t 3)),
  ro 40 (.bn .lss 3 (.t 38) (.t 39))] (some [0, 3, 4, 40])) c128_38) c128_41
def c128_33 : SC := .block 2 (.loop c128_35)
def c128_31 : SC := .seq (.reg [ro 4 (.asg (.c (.int .i64 0)))] (some [0, 3, 4])) c128_33
def c128_51 : SC := .reg [ro 20 (.mv (.t 3)),
  ro 21 (.bn .add 3 (.t 20) (.c (.int .i64 1))),
  ro 3 (.asg (.t 21))] (some [0, 3])
def c128_21 : SC := .seq (.block 1 (.seq (.seq (.reg [ro 22 (.mv (.t 0)),
  ro 23 (.mv (.t 3)),
  ro 24 (.ia 46 (.t 22) (.t 23)),
  ro 25 (.fa 178 (.t 24) 0),
  ro 26 (.ld 9 (.t 25)),
  ro 27 (.call (.f 179) [(.t 26)]),
  ro 28 (.un .not (.t 27)),
  ro 29 (.mv (.t 28)),
  ⟨some 30, .mv (.t 0), some (29, false)⟩,
  ⟨some 31, .mv (.t 3), some (29, false)⟩,
  ⟨some 32, .ia 46 (.t 30) (.t 31), some (29, false)⟩,
  ⟨some 33, .fa 178 (.t 32) 1, some (29, false)⟩,
  ⟨some 34, .ld 2 (.t 33), some (29, false)⟩,
  ⟨some 35, .call (.f 92) [(.t 34), (.c (.int .i64 0)), (.c (.int .i64 3))], some (29, false)⟩,
  ⟨some 36, .un .not (.t 35), some (29, false)⟩,
  ro 37 (.pick (.t 29) (.c (.bool true)) (.t 36))] (some [0, 3, 37])) c128_26) c128_31)) c128_51
def c128_15 : SC := .seq (.seq (.reg [ro 16 (.mv (.t 3)),
  ro 17 (.mv (.t 0)),
  ro 18 (.len 46 (.t 17)),
  ro 19 (.bn .lss 3 (.t 16) (.t 18))] (some [0, 3, 19])) c128_18) c128_21
def c128_13 : SC := .block 0 (.loop c128_15)
def c128_60 : SC := .cond (.t 57) .skip (.exit 4)
def c128_70 : SC := .seq (.reg [ro 2 (.asg (.c (.bool false)))] (some [2])) .ret
def c128_69 : SC := .cond (.t 69) c128_70 .skip
def c128_67 : SC := .seq (.reg [ro 68 (.mv (.t 7)),
  ro 69 (.bn .gtr 2 (.t 68) (.c (.int .i64 0)))] (some [0, 5, 69])) c128_69
def c128_74 : SC := .reg [ro 58 (.mv (.t 5)),
  ro 59 (.bn .add 3 (.t 58) (.c (.int .i64 1))),
  ro 5 (.asg (.t 59))] (some [0, 5])
def c128_63 : SC := .seq (.block 5 (.seq (.reg [ro 61 (.mv (.t 0)),
  ro 62 (.mv (.t 0)),
  ro 63 (.mv (.t 5)),
  ro 64 (.ia 46 (.t 62) (.t 63)),
  ro 65 (.call (.f 180) [(.t 61), (.t 64)]),
  ro 60 (.mv (.t 65)),
  ro 66 (.ex (.t 60) 0),
  ro 67 (.ex (.t 60) 1),
  ro 6 (.asg (.t 66)),
  ro 7 (.asg (.t 67))] (some [0, 5, 7])) c128_67)) c128_74
def c128_57 : SC := .seq (.seq (.reg [ro 54 (.mv (.t 5)),
  ro 55 (.mv (.t 0)),
  ro 56 (.len 46 (.t 55)),
  ro 57 (.bn .lss 3 (.t 54) (.t 56))] (some [0, 5, 57])) c128_60) c128_63
def c128_55 : SC := .block 4 (.loop c128_57)
def c128_75 : SC := .seq (.reg [ro 2 (.asg (.c (.bool true)))] (some [2])) .ret
def c128_52 : SC := .seq (.seq (.reg [ro 5 (.asg (.c (.int .i64 0)))] (some [0, 5])) c128_55) c128_75
def c128_10 : SC := .seq (.seq (.reg [ro 3 (.asg (.c (.int .i64 0)))] (some [0, 3])) c128_13) c128_52
def c128_2 : SC := .seq (.seq (.reg [ro 8 (.mv (.t 0)),
  ro 9 (.len 46 (.t 8)),
  ro 10 (.bn .eql 3 (.t 9) (.c (.int .i64 0))),
  ro 11 (.mv (.t 10)),
  ⟨some 12, .mv (.t 0), some (11, false)⟩,
  ⟨some 13, .len 46 (.t 12), some (11, false)⟩,
  ⟨some 14, .bn .gtr 3 (.t 13) (.c (.int .i64 4)), some (11, false)⟩,
  ro 15 (.pick (.t 11) (.c (.bool true)) (.t 14))] (some [0, 15])) c128_5) c128_10
/-- loop.example/g01075/spec.l05Defs -/
def c128 : SC := .seq (.reg [ro 2 (.asg (.c (.bool false)))] (some [0])) c128_2
theorem s128 : slimC ⟨70, [0]⟩ (Tryz.f128.body.getD .skip) = some c128.strip := by kernel_rfl

def c158_10 : SC := .cond (.t 7) .skip (.exit 0)
def c158_18 : SC := .seq (.reg [ro 2 (.asg (.c (.bool false)))] (some [2])) .ret
def c158_17 : SC := .cond (.t 15) c158_18 .skip
def c158_22 : SC := .reg [ro 8 (.mv (.t 3)),
  ro 9 (.bn .add 3 (.t 8) (.c (.int .i64 1))),
  ro 3 (.asg (.t 9))] (some [0, 3])
def c158_13 : SC := .seq (.block 1 (.seq (.reg [ro 10 (.mv (.t 0)),
  ro 11 (.mv (.t 3)),
  ro 12 (.ia 22 (.t 10) (.t 11)),
  ro 13 (.ld 2 (.t 12)),
  ro 14 (.call (.f 92) [(.t 13), (.c (.int .i64 0)), (.c (.int .i64 63))]),
  ro 15 (.un .not (.t 14))] (some [0, 3, 15])) c158_17)) c158_22
def c158_7 : SC := .seq (.seq (.reg [ro 4 (.mv (.t 3)),
  ro 5 (.mv (.t 0)),
  ro 6 (.len 22 (.t 5)),
  ro 7 (.bn .lss 3 (.t 4) (.t 6))] (some [0, 3, 7])) c158_10) c158_13
def c158_5 : SC := .block 0 (.loop c158_7)
def c158_23 : SC := .seq (.reg [ro 2 (.asg (.c (.bool true)))] (some [2])) .ret
def c158_2 : SC := .seq (.seq (.reg [ro 3 (.asg (.c (.int .i64 0)))] (some [0, 3])) c158_5) c158_23
/-- loop.example/g01075/spec.l03Data -/
def c158 : SC := .seq (.reg [ro 2 (.asg (.c (.bool false)))] (some [0])) c158_2
theorem s158 : slimC ⟨16, [0]⟩ (Tryz.f158.body.getD .skip) = some c158.strip := by kernel_rfl

def c129_6 : SC := .seq (.reg [ro 2 (.asg (.c (.bool false)))] (some [2])) .ret
def c129_5 : SC := .cond (.t 18) c129_6 .skip
def c129_18 : SC := .cond (.t 25) .skip (.exit 0)
def c129_29 : SC := .seq (.reg [ro 2 (.asg (.c (.bool false)))] (some [2])) .ret
def c129_28 : SC := .cond (.t 44) c129_29 .skip
def c129_36 : SC := .seq (.reg [ro 2 (.asg (.c (.bool false)))] (some [2])) .ret
def c129_35 : SC := .cond (.t 63) c129_36 .skip
def c129_33 : SC := .seq (.drw [ro 45 (.fa 105 (.t 4) 1),
  ro 46 (.ld 22 (.t 45)),
  ro 47 (.len 22 (.t 46)),
  ro 48 (.mv (.t 0)),
  ro 49 (.nilc (.t 48)),
  ro 50 (.fa 50 (.t 49) 0),
  ro 51 (.ld 46 (.t 50)),
  ro 52 (.fa 105 (.t 4) 0),
  ro 53 (.ld 2 (.t 52)),
  ro 54 (.ia 46 (.t 51) (.t 53)),
  ro 55 (.fa 178 (.t 54) 1),
  ro 56 (.ld 2 (.t 55)),
  ro 57 (.bn .neq 2 (.t 47) (.t 56)),
  ro 58 (.mv (.t 57)),
  ⟨some 59, .fa 105 (.t 4) 1, some (58, false)⟩,
  ⟨some 60, .ld 22 (.t 59), some (58, false)⟩,
  ⟨some 61, .call (.f 158) [(.t 60)], some (58, false)⟩,
  ⟨some 62, .un .not (.t 61), some (58, false)⟩,
  ro 63 (.pick (.t 58) (.c (.bool true)) (.t 62))] [[], [0], [1], [], [3], [4], [5], [], [7], [6, 8], [9], [10], [2, 11], [12], [13], [14, 13], [15, 13, 13], [16, 13], [13, 17]] (some [0, 3, 63])) c129_35
def c129_25 : SC := .seq (.seq (.drw [ro 35 (.fa 105 (.t 4) 0),
  ro 36 (.ld 2 (.t 35)),
  ro 37 (.mv (.t 0)),
  ro 38 (.nilc (.t 37)),
  ro 39 (.fa 50 (.t 38) 0),
  ro 40 (.ld 46 (.t 39)),
  ro 41 (.len 46 (.t 40)),
  ro 42 (.bn .sub 2 (.t 41) (.c (.int .i64 1))),
  ro 43 (.call (.f 92) [(.t 36), (.c (.int .i64 0)), (.t 42)]),
  ro 44 (.un .not (.t 43))] [[], [0], [], [2], [3], [4], [5], [6], [1, 7], [8]] (some [0, 3, 4, 44])) c129_28) c129_33
def c129_40 : SC := .reg [ro 26 (.mv (.t 3)),
  ro 27 (.bn .add 3 (.t 26) (.c (.int .i64 1))),
  ro 3 (.asg (.t 27))] (some [0, 3])
def c129_21 : SC := .seq (.block 1 (.seq (.reg [ro 28 (.mv (.t 0)),
  ro 29 (.nilc (.t 28)),
  ro 30 (.fa 50 (.t 29) 1),
  ro 31 (.ld 47 (.t 30)),
  ro 32 (.mv (.t 3)),
  ro 33 (.ia 47 (.t 31) (.t 32)),
  ro 34 (.ld 105 (.t 33)),
  ro 4 (.alc 105),
  ⟨none, .sto 105 (.t 4) (.t 34), none⟩] (some [0, 3, 4])) c129_25)) c129_40
def c129_15 : SC := .seq (.seq (.reg [ro 19 (.mv (.t 3)),
  ro 20 (.mv (.t 0)),
  ro 21 (.nilc (.t 20)),
  ro 22 (.fa 50 (.t 21) 1),
  ro 23 (.ld 47 (.t 22)),
  ro 24 (.len 47 (.t 23)),
  ro 25 (.bn .lss 3 (.t 19) (.t 24))] (some [0, 3, 25])) c129_18) c129_21
def c129_13 : SC := .block 0 (.loop c129_15)
def c129_41 : SC := .seq (.reg [ro 2 (.asg (.c (.bool true)))] (some [2])) .ret
def c129_10 : SC := .seq (.seq (.reg [ro 3 (.asg (.c (.int .i64 0)))] (some [0, 3])) c129_13) c129_41
def c129_2 : SC := .seq (.seq (.reg [ro 5 (.mv (.t 0)),
  ro 6 (.nilc (.t 5)),
  ro 7 (.fa 50 (.t 6) 1),
  ro 8 (.ld 47 (.t 7)),
  ro 9 (.len 47 (.t 8)),
  ro 10 (.bn .eql 3 (.t 9) (.c (.int .i64 0))),
  ro 11 (.mv (.t 10)),
  ⟨some 12, .mv (.t 0), some (11, false)⟩,
  ⟨some 13, .nilc (.t 12), some (11, false)⟩,
  ⟨some 14, .fa 50 (.t 13) 1, some (11, false)⟩,
  ⟨some 15, .ld 47 (.t 14), some (11, false)⟩,
  ⟨some 16, .len 47 (.t 15), some (11, false)⟩,
  ⟨some 17, .bn .gtr 3 (.t 16) (.c (.int .i64 3)), some (11, false)⟩,
  ro 18 (.pick (.t 11) (.c (.bool true)) (.t 17))] (some [0, 18])) c129_5) c129_10
/-- loop.example/g01075/spec.l05Components -/
def c129 : SC := .seq (.reg [ro 2 (.asg (.c (.bool false)))] (some [0])) c129_2
theorem s129 : slimC ⟨64, [0]⟩ (Tryz.f129.body.getD .skip) = some c129.strip := by kernel_rfl

def c146_2 : SC := .seq (.reg [ro 3 (.mv (.t 0)),
  ro 4 (.call (.f 179) [(.t 3)]),
  ro 5 (.mv (.t 4)),
  ⟨some 6, .mv (.t 0), some (5, true)⟩,
  ⟨some 7, .bn .neq 9 (.t 6) (.c (.str [116, 97, 117])), some (5, true)⟩,
  ro 8 (.pick (.t 5) (.t 7) (.c (.bool false))),
  ro 2 (.asg (.t 8))] (some [2])) .ret
/-- loop.example/g01075/spec.l01Action -/
def c146 : SC := .seq (.reg [ro 2 (.asg (.c (.bool false)))] (some [0])) c146_2
theorem s146 : slimC ⟨9, [0]⟩ (Tryz.f146.body.getD .skip) = some c146.strip := by kernel_rfl

def c76_6 : SC := .seq (.reg [ro 2 (.asg (.c (.bool false)))] (some [2])) .ret
def c76_5 : SC := .cond (.t 8) c76_6 .skip
def c76_18 : SC := .cond (.t 12) .skip (.exit 0)
def c76_29 : SC := .seq (.reg [ro 2 (.asg (.c (.bool false)))] (some [2])) .ret
def c76_28 : SC := .cond (.t 41) c76_29 .skip
def c76_37 : SC := .seq (.reg [ro 2 (.asg (.c (.bool false)))] (some [2])) .ret
def c76_36 : SC := .cond (.t 76) c76_37 .skip
def c76_48 : SC := .cond (.t 80) .skip (.exit 2)
def c76_56 : SC := .seq (.reg [ro 2 (.asg (.c (.bool false)))] (some [2])) .ret
def c76_55 : SC := .cond (.t 100) c76_56 .skip
def c76_60 : SC := .reg [ro 81 (.mv (.t 5)),
  ro 82 (.bn .add 3 (.t 81) (.c (.int .i64 1))),
  ro 5 (.asg (.t 82))] (some [0, 3, 4, 5])
def c76_51 : SC := .seq (.block 3 (.seq (.drw [ro 83 (.mv (.t 0)),
  ro 84 (.mv (.t 5)),
  ro 85 (.ia 48 (.t 83) (.t 84)),
  ro 86 (.fa 119 (.t 85) 0),
  ro 87 (.ld 9 (.t 86)),
  ro 88 (.fa 119 (.t 4) 2),
  ro 89 (.ld 9 (.t 88)),
  ro 90 (.bn .eql 9 (.t 87) (.t 89)),
  ro 91 (.mv (.t 90)),
  ⟨some 92, .mv (.t 0), some (91, false)⟩,
  ⟨some 93, .mv (.t 5), some (91, false)⟩,
  ⟨some 94, .ia 48 (.t 92) (.t 93), some (91, false)⟩,
  ⟨some 95, .fa 119 (.t 94) 1, some (91, false)⟩,
  ⟨some 96, .ld 9 (.t 95), some (91, false)⟩,
  ⟨some 97, .fa 119 (.t 4) 2, some (91, false)⟩,
  ⟨some 98, .ld 9 (.t 97), some (91, false)⟩,
  ⟨some 99, .bn .eql 9 (.t 96) (.t 98), some (91, false)⟩,
  ro 100 (.pick (.t 91) (.c (.bool true)) (.t 99))] [[], [], [0, 1], [2], [3], [], [5], [4, 6], [7], [8], [8], [9, 10, 8], [11, 8], [12, 8], [8], [14, 8], [13, 15, 8], [8, 16]] (some [0, 3, 4, 5, 100])) c76_55)) c76_60
def c76_45 : SC := .seq (.seq (.reg [ro 77 (.mv (.t 5)),
  ro 78 (.mv (.t 0)),
  ro 79 (.len 48 (.t 78)),
  ro 80 (.bn .lss 3 (.t 77) (.t 79))] (some [0, 3, 4, 5, 80])) c76_48) c76_51
def c76_43 : SC := .block 2 (.loop c76_45)
def c76_41 : SC := .seq (.reg [ro 5 (.asg (.c (.int .i64 0)))] (some [0, 3, 4, 5])) c76_43
def c76_33 : SC := .seq (.seq (.drw [ro 42 (.mv (.t 3)),
  ro 43 (.bn .gtr 3 (.t 42) (.c (.int .i64 0))),
  ro 44 (.mv (.t 43)),
  ⟨some 45, .mv (.t 0), some (44, true)⟩,
  ⟨some 46, .mv (.t 3), some (44, true)⟩,
  ⟨some 47, .bn .sub 3 (.t 46) (.c (.int .i64 1)), some (44, true)⟩,
  ⟨some 48, .ia 48 (.t 45) (.t 47), some (44, true)⟩,
  ⟨some 49, .fa 119 (.t 48) 0, some (44, true)⟩,
  ⟨some 50, .ld 9 (.t 49), some (44, true)⟩,
  ⟨some 51, .fa 119 (.t 4) 0, some (44, true)⟩,
  ⟨some 52, .ld 9 (.t 51), some (44, true)⟩,
  ⟨some 53, .bn .gtr 9 (.t 50) (.t 52), some (44, true)⟩,
  ⟨some 54, .mv (.t 53), some (44, true)⟩,
  ⟨some 55, .mv (.t 0), some (54, false)⟩,
  ⟨some 56, .mv (.t 3), some (54, false)⟩,
  ⟨some 57, .bn .sub 3 (.t 56) (.c (.int .i64 1)), some (54, false)⟩,
  ⟨some 58, .ia 48 (.t 55) (.t 57), some (54, false)⟩,
  ⟨some 59, .fa 119 (.t 58) 0, some (54, false)⟩,
  ⟨some 60, .ld 9 (.t 59), some (54, false)⟩,
  ⟨some 61, .fa 119 (.t 4) 0, some (54, false)⟩,
  ⟨some 62, .ld 9 (.t 61), some (54, false)⟩,
  ⟨some 63, .bn .eql 9 (.t 60) (.t 62), some (54, false)⟩,
  ⟨some 64, .mv (.t 63), some (54, false)⟩,
  ⟨some 65, .mv (.t 0), some (64, true)⟩,
  ⟨some 66, .mv (.t 3), some (64, true)⟩,
  ⟨some 67, .bn .sub 3 (.t 66) (.c (.int .i64 1)), some (64, true)⟩,
  ⟨some 68, .ia 48 (.t 65) (.t 67), some (64, true)⟩,
  ⟨some 69, .fa 119 (.t 68) 1, some (64, true)⟩,
  ⟨some 70, .ld 9 (.t 69), some (64, true)⟩,
  ⟨some 71, .fa 119 (.t 4) 1, some (64, true)⟩,
  ⟨some 72, .ld 9 (.t 71), some (64, true)⟩,
  ⟨some 73, .bn .geq 9 (.t 70) (.t 72), some (64, true)⟩,
  ⟨some 74, .pick (.t 64) (.t 73) (.c (.bool false)), some (54, false)⟩,
  ⟨some 75, .pick (.t 54) (.c (.bool true)) (.t 74), some (44, true)⟩,
  ro 76 (.pick (.t 44) (.t 75) (.c (.bool false)))] [[], [0], [1], [2], [2], [4, 2], [3, 5, 2], [6, 2], [7, 2], [2], [9, 2], [8, 10, 2], [11, 2, 2], [12], [12], [14, 12], [13, 15, 12], [16, 12], [17, 12], [12], [19, 12], [18, 20, 12], [21, 12, 12], [22], [22], [24, 22], [23, 25, 22], [26, 22], [27, 22], [22], [29, 22], [28, 30, 22], [22, 31, 12], [12, 32, 2], [2, 33]] (some [0, 3, 4, 76])) c76_36) c76_41
def c76_25 : SC := .seq (.seq (.reg [ro 19 (.fa 119 (.t 4) 0),
  ro 20 (.ld 9 (.t 19)),
  ro 21 (.call (.f 146) [(.t 20)]),
  ro 22 (.un .not (.t 21)),
  ro 23 (.mv (.t 22)),
  ⟨some 24, .fa 119 (.t 4) 1, some (23, false)⟩,
  ⟨some 25, .ld 9 (.t 24), some (23, false)⟩,
  ⟨some 26, .call (.f 146) [(.t 25)], some (23, false)⟩,
  ⟨some 27, .un .not (.t 26), some (23, false)⟩,
  ro 28 (.pick (.t 23) (.c (.bool true)) (.t 27)),
  ro 29 (.mv (.t 28)),
  ⟨some 30, .fa 119 (.t 4) 2, some (29, false)⟩,
  ⟨some 31, .ld 9 (.t 30), some (29, false)⟩,
  ⟨some 32, .call (.f 146) [(.t 31)], some (29, false)⟩,
  ⟨some 33, .un .not (.t 32), some (29, false)⟩,
  ro 34 (.pick (.t 29) (.c (.bool true)) (.t 33)),
  ro 35 (.mv (.t 34)),
  ⟨some 36, .fa 119 (.t 4) 0, some (35, false)⟩,
  ⟨some 37, .ld 9 (.t 36), some (35, false)⟩,
  ⟨some 38, .fa 119 (.t 4) 1, some (35, false)⟩,
  ⟨some 39, .ld 9 (.t 38), some (35, false)⟩,
  ⟨some 40, .bn .gtr 9 (.t 37) (.t 39), some (35, false)⟩,
  ro 41 (.pick (.t 35) (.c (.bool true)) (.t 40))] (some [0, 3, 4, 41])) c76_28) c76_33
def c76_61 : SC := .reg [ro 13 (.mv (.t 3)),
  ro 14 (.bn .add 3 (.t 13) (.c (.int .i64 1))),
  ro 3 (.asg (.t 14))] (some [0, 3])
def c76_21 : SC := .seq (.block 1 (.seq (.reg [ro 15 (.mv (.t 0)),
  ro 16 (.mv (.t 3)),
  ro 17 (.ia 48 (.t 15) (.t 16)),
  ro 18 (.ld 119 (.t 17)),
  ro 4 (.alc 119),
  ⟨none, .sto 119 (.t 4) (.t 18), none⟩] (some [0, 3, 4])) c76_25)) c76_61
def c76_15 : SC := .seq (.seq (.reg [ro 9 (.mv (.t 3)),
  ro 10 (.mv (.t 0)),
  ro 11 (.len 48 (.t 10)),
  ro 12 (.bn .lss 3 (.t 9) (.t 11))] (some [0, 3, 12])) c76_18) c76_21
def c76_13 : SC := .block 0 (.loop c76_15)
def c76_62 : SC := .seq (.reg [ro 2 (.asg (.c (.bool true)))] (some [2])) .ret
def c76_10 : SC := .seq (.seq (.reg [ro 3 (.asg (.c (.int .i64 0)))] (some [0, 3])) c76_13) c76_62
def c76_2 : SC := .seq (.seq (.reg [ro 6 (.mv (.t 0)),
  ro 7 (.len 48 (.t 6)),
  ro 8 (.bn .gtr 3 (.t 7) (.c (.int .i64 6)))] (some [0, 8])) c76_5) c76_10
/-- loop.example/g01075/spec.l05Meetings -/
def c76 : SC := .seq (.reg [ro 2 (.asg (.c (.bool false)))] (some [0])) c76_2
theorem s76 : slimC ⟨101, [0]⟩ (Tryz.f76.body.getD .skip) = some c76.strip := by kernel_rfl

def c181_10 : SC := .cond (.t 7) .skip (.exit 0)
def c181_18 : SC := .seq (.reg [ro 2 (.asg (.c (.bool false)))] (some [2])) .ret
def c181_17 : SC := .cond (.t 15) c181_18 .skip
def c181_22 : SC := .reg [ro 8 (.mv (.t 3)),
  ro 9 (.bn .add 3 (.t 8) (.c (.int .i64 1))),
  ro 3 (.asg (.t 9))] (some [0, 3])
def c181_13 : SC := .seq (.block 1 (.seq (.reg [ro 10 (.mv (.t 0)),
  ro 11 (.mv (.t 3)),
  ro 12 (.ia 41 (.t 10) (.t 11)),
  ro 13 (.ld 9 (.t 12)),
  ro 14 (.call (.f 146) [(.t 13)]),
  ro 15 (.un .not (.t 14))] (some [0, 3, 15])) c181_17)) c181_22
def c181_7 : SC := .seq (.seq (.reg [ro 4 (.mv (.t 3)),
  ro 5 (.mv (.t 0)),
  ro 6 (.len 41 (.t 5)),
  ro 7 (.bn .lss 3 (.t 4) (.t 6))] (some [0, 3, 7])) c181_10) c181_13
def c181_5 : SC := .block 0 (.loop c181_7)
def c181_23 : SC := .seq (.reg [ro 2 (.asg (.c (.bool true)))] (some [2])) .ret
def c181_2 : SC := .seq (.seq (.reg [ro 3 (.asg (.c (.int .i64 0)))] (some [0, 3])) c181_5) c181_23
/-- loop.example/g01075/spec.l11Actions -/
def c181 : SC := .seq (.reg [ro 2 (.asg (.c (.bool false)))] (some [0])) c181_2
theorem s181 : slimC ⟨16, [0]⟩ (Tryz.f181.body.getD .skip) = some c181.strip := by kernel_rfl

def c130_6 : SC := .seq (.reg [ro 2 (.asg (.c (.bool false)))] (some [2])) .ret
def c130_5 : SC := .cond (.t 11) c130_6 .skip
def c130_18 : SC := .cond (.t 15) .skip (.exit 0)
def c130_26 : SC := .seq (.reg [ro 2 (.asg (.c (.bool false)))] (some [2])) .ret
def c130_25 : SC := .cond (.t 27) c130_26 .skip
def c130_30 : SC := .reg [ro 16 (.mv (.t 3)),
  ro 17 (.bn .add 3 (.t 16) (.c (.int .i64 1))),
  ro 3 (.asg (.t 17))] (some [0, 3])
def c130_21 : SC := .seq (.block 1 (.seq (.drw [ro 18 (.mv (.t 0)),
  ro 19 (.mv (.t 3)),
  ro 20 (.bn .sub 3 (.t 19) (.c (.int .i64 1))),
  ro 21 (.ia 41 (.t 18) (.t 20)),
  ro 22 (.ld 9 (.t 21)),
  ro 23 (.mv (.t 0)),
  ro 24 (.mv (.t 3)),
  ro 25 (.ia 41 (.t 23) (.t 24)),
  ro 26 (.ld 9 (.t 25)),
  ro 27 (.bn .geq 9 (.t 22) (.t 26))] [[], [], [1], [0, 2], [3], [], [], [5, 6], [7], [4, 8]] (some [0, 3, 27])) c130_25)) c130_30
def c130_15 : SC := .seq (.seq (.reg [ro 12 (.mv (.t 3)),
  ro 13 (.mv (.t 0)),
  ro 14 (.len 41 (.t 13)),
  ro 15 (.bn .lss 3 (.t 12) (.t 14))] (some [0, 3, 15])) c130_18) c130_21
def c130_13 : SC := .block 0 (.loop c130_15)
def c130_31 : SC := .seq (.reg [ro 2 (.asg (.c (.bool true)))] (some [2])) .ret
def c130_10 : SC := .seq (.seq (.reg [ro 3 (.asg (.c (.int .i64 1)))] (some [0, 3])) c130_13) c130_31
def c130_2 : SC := .seq (.seq (.reg [ro 4 (.mv (.t 0)),
  ro 5 (.len 41 (.t 4)),
  ro 6 (.bn .gtr 3 (.t 5) (.c (.int .i64 12))),
  ro 7 (.mv (.t 6)),
  ⟨some 8, .mv (.t 0), some (7, false)⟩,
  ⟨some 9, .call (.f 181) [(.t 8)], some (7, false)⟩,
  ⟨some 10, .un .not (.t 9), some (7, false)⟩,
  ro 11 (.pick (.t 7) (.c (.bool true)) (.t 10))] (some [0, 11])) c130_5) c130_10
/-- loop.example/g01075/spec.l05Names -/
def c130 : SC := .seq (.reg [ro 2 (.asg (.c (.bool false)))] (some [0])) c130_2
theorem s130 : slimC ⟨28, [0]⟩ (Tryz.f130.body.getD .skip) = some c130.strip := by kernel_rfl

def c60_6 : SC := .seq (.reg [ro 2 (.asg (.c (.int .i64 1)))] (some [2])) .ret
def c60_5 : SC := .cond (.t 8) c60_6 .skip
def c60_14 : SC := .seq (.reg [ro 2 (.asg (.c (.int .i64 2)))] (some [2])) .ret
def c60_13 : SC := .cond (.t 11) c60_14 .skip
def c60_22 : SC := .seq (.reg [ro 2 (.asg (.c (.int .i64 3)))] (some [2])) .ret
def c60_21 : SC := .cond (.t 17) c60_22 .skip
def c60_30 : SC := .seq (.reg [ro 2 (.asg (.c (.int .i64 4)))] (some [2])) .ret
def c60_29 : SC := .cond (.t 23) c60_30 .skip
def c60_38 : SC := .seq (.reg [ro 2 (.asg (.c (.int .i64 5)))] (some [2])) .ret
def c60_37 : SC := .cond (.t 29) c60_38 .skip
def c60_42 : SC := .seq (.reg [ro 2 (.asg (.c (.int .i64 0)))] (some [2])) .ret
def c60_34 : SC := .seq (.seq (.reg [ro 24 (.mv (.t 0)),
  ro 25 (.nilc (.t 24)),
  ro 26 (.fa 50 (.t 25) 4),
  ro 27 (.ld 41 (.t 26)),
  ro 28 (.call (.f 130) [(.t 27)]),
  ro 29 (.un .not (.t 28))] (some [29])) c60_37) c60_42
def c60_26 : SC := .seq (.seq (.reg [ro 18 (.mv (.t 0)),
  ro 19 (.nilc (.t 18)),
  ro 20 (.fa 50 (.t 19) 3),
  ro 21 (.ld 41 (.t 20)),
  ro 22 (.call (.f 130) [(.t 21)]),
  ro 23 (.un .not (.t 22))] (some [0, 23])) c60_29) c60_34
def c60_18 : SC := .seq (.seq (.reg [ro 12 (.mv (.t 0)),
  ro 13 (.nilc (.t 12)),
  ro 14 (.fa 50 (.t 13) 2),
  ro 15 (.ld 48 (.t 14)),
  ro 16 (.call (.f 76) [(.t 15)]),
  ro 17 (.un .not (.t 16))] (some [0, 17])) c60_21) c60_26
def c60_10 : SC := .seq (.seq (.reg [ro 9 (.mv (.t 0)),
  ro 10 (.call (.f 129) [(.t 9)]),
  ro 11 (.un .not (.t 10))] (some [0, 11])) c60_13) c60_18
def c60_2 : SC := .seq (.seq (.reg [ro 3 (.mv (.t 0)),
  ro 4 (.nilc (.t 3)),
  ro 5 (.fa 50 (.t 4) 0),
  ro 6 (.ld 46 (.t 5)),
  ro 7 (.call (.f 128) [(.t 6)]),
  ro 8 (.un .not (.t 7))] (some [0, 8])) c60_5) c60_10
/-- loop.example/g01075/spec.l05Fault -/
def c60 : SC := .seq (.reg [ro 2 (.asg (.c (.int .i64 0)))] (some [0])) c60_2
theorem s60 : slimC ⟨30, [0]⟩ (Tryz.f60.body.getD .skip) = some c60.strip := by kernel_rfl

def c74_2 : SC := .seq (.reg [ro 3 (.mv (.t 0)),
  ro 4 (.call (.f 60) [(.t 3)]),
  ro 5 (.bn .eql 2 (.t 4) (.c (.int .i64 0))),
  ro 2 (.asg (.t 5))] (some [2])) .ret
/-- loop.example/g01075/spec.l05Is -/
def c74 : SC := .seq (.reg [ro 2 (.asg (.c (.bool false)))] (some [0])) c74_2
theorem s74 : slimC ⟨6, [0]⟩ (Tryz.f74.body.getD .skip) = some c74.strip := by kernel_rfl

def c153_6 : SC := .seq (.reg [ro 4 (.asg (.c (.bool false)))] (some [4])) .ret
def c153_5 : SC := .cond (.t 14) c153_6 .skip
def c153_16 : SC := .seq (.reg [ro 4 (.asg (.c (.bool false)))] (some [4])) .ret
def c153_15 : SC := .cond (.t 43) c153_16 .skip
def c153_20 : SC := .seq (.drw [ro 44 (.mv (.t 1)),
  ro 45 (.nilc (.t 44)),
  ro 46 (.fa 131 (.t 45) 2),
  ro 47 (.ld 22 (.t 46)),
  ro 48 (.len 22 (.t 47)),
  ro 49 (.mv (.t 1)),
  ro 50 (.nilc (.t 49)),
  ro 51 (.fa 131 (.t 50) 1),
  ro 52 (.ld 2 (.t 51)),
  ro 53 (.call (.f 208) [(.t 5), (.t 52)]),
  ro 54 (.bn .eql 2 (.t 48) (.t 53)),
  ro 55 (.mv (.t 54)),
  ⟨some 56, .mv (.t 1), some (55, true)⟩,
  ⟨some 57, .nilc (.t 56), some (55, true)⟩,
  ⟨some 58, .fa 131 (.t 57) 2, some (55, true)⟩,
  ⟨some 59, .ld 22 (.t 58), some (55, true)⟩,
  ⟨some 60, .call (.f 158) [(.t 59)], some (55, true)⟩,
  ro 61 (.pick (.t 55) (.t 60) (.c (.bool false))),
  ro 4 (.asg (.t 61))] [[], [0], [1], [2], [3], [], [5], [6], [7], [8], [4, 9], [10, 9], [11], [12, 11], [13, 11], [14, 11], [15, 11, 11], [11, 16], [17, 16, 0, 1, 2, 3, 4, 5, 6, 7, 8, 9, 10, 11, 12, 13, 14, 15, 16, 17]] (some [4])) .ret
def c153_12 : SC := .seq (.seq (.drw [ro 22 (.mv (.t 1)),
  ro 23 (.nilc (.t 22)),
  ro 24 (.fa 131 (.t 23) 1),
  ro 25 (.ld 2 (.t 24)),
  ro 26 (.fa 178 (.t 5) 2),
  ro 27 (.ld 176 (.t 26)),
  ro 28 (.len 176 (.t 27)),
  ro 29 (.bn .sub 2 (.t 28) (.c (.int .i64 1))),
  ro 30 (.call (.f 92) [(.t 25), (.c (.int .i64 0)), (.t 29)]),
  ro 31 (.un .not (.t 30)),
  ro 32 (.mv (.t 31)),
  ⟨some 33, .fa 178 (.t 5) 2, some (32, false)⟩,
  ⟨some 34, .ld 176 (.t 33), some (32, false)⟩,
  ⟨some 35, .mv (.t 1), some (32, false)⟩,
  ⟨some 36, .nilc (.t 35), some (32, false)⟩,
  ⟨some 37, .fa 131 (.t 36) 1, some (32, false)⟩,
  ⟨some 38, .ld 2 (.t 37), some (32, false)⟩,
  ⟨some 39, .ia 176 (.t 34) (.t 38), some (32, false)⟩,
  ⟨some 40, .fa 202 (.t 39) 0, some (32, false)⟩,
  ⟨some 41, .ld 2 (.t 40), some (32, false)⟩,
  ⟨some 42, .bn .eql 2 (.t 41) (.c (.int .i64 5)), some (32, false)⟩,
  ro 43 (.pick (.t 32) (.c (.bool true)) (.t 42))] [[], [0], [1], [2], [], [4], [5], [6], [3, 7], [8], [9, 8], [10], [11, 10], [10], [13, 10], [14, 10], [15, 10], [12, 16, 10], [17, 10], [18, 10], [19, 10], [10, 20]] (some [1, 5, 43])) c153_15) c153_20
def c153_10 : SC := .seq (.reg [ro 15 (.mv (.t 0)),
  ro 16 (.mv (.t 1)),
  ro 17 (.nilc (.t 16)),
  ro 18 (.fa 131 (.t 17) 0),
  ro 19 (.ld 2 (.t 18)),
  ro 20 (.ia 46 (.t 15) (.t 19)),
  ro 21 (.ld 178 (.t 20)),
  ro 5 (.alc 178),
  ⟨none, .sto 178 (.t 5) (.t 21), none⟩] (some [1, 5])) c153_12
def c153_2 : SC := .seq (.seq (.reg [ro 6 (.mv (.t 1)),
  ro 7 (.nilc (.t 6)),
  ro 8 (.fa 131 (.t 7) 0),
  ro 9 (.ld 2 (.t 8)),
  ro 10 (.mv (.t 0)),
  ro 11 (.len 46 (.t 10)),
  ro 12 (.bn .sub 2 (.t 11) (.c (.int .i64 1))),
  ro 13 (.call (.f 92) [(.t 9), (.c (.int .i64 0)), (.t 12)]),
  ro 14 (.un .not (.t 13))] (some [0, 1, 14])) c153_5) c153_10
/-- loop.example/g01075/spec.l07Is -/
def c153 : SC := .seq (.reg [ro 4 (.asg (.c (.bool false)))] (some [0, 1])) c153_2
theorem s153 : slimC ⟨62, [0, 1]⟩ (Tryz.f153.body.getD .skip) = some c153.strip := by kernel_rfl

def c85_6 : SC := .seq (.reg [ro 4 (.asg (.c (.bool false)))] (some [4])) .ret
def c85_5 : SC := .cond (.t 13) c85_6 .skip
def c85_18 : SC := .cond (.t 17) .skip (.exit 0)
def c85_26 : SC := .seq (.reg [ro 4 (.asg (.c (.bool false)))] (some [4])) .ret
def c85_25 : SC := .cond (.t 28) c85_26 .skip
def c85_30 : SC := .reg [ro 18 (.mv (.t 5)),
  ro 19 (.bn .add 3 (.t 18) (.c (.int .i64 1))),
  ro 5 (.asg (.t 19))] (some [0, 1, 5])
def c85_21 : SC := .seq (.block 1 (.seq (.drw [ro 20 (.mv (.t 0)),
  ro 21 (.nilc (.t 20)),
  ro 22 (.fa 50 (.t 21) 0),
  ro 23 (.ld 46 (.t 22)),
  ro 24 (.mv (.t 1)),
  ro 25 (.mv (.t 5)),
  ro 26 (.ia 68 (.t 24) (.t 25)),
  ro 27 (.call (.f 153) [(.t 23), (.t 26)]),
  ro 28 (.un .not (.t 27))] [[], [0], [1], [2], [], [], [4, 5], [3, 6], [7]] (some [0, 1, 5, 28])) c85_25)) c85_30
def c85_15 : SC := .seq (.seq (.reg [ro 14 (.mv (.t 5)),
  ro 15 (.mv (.t 1)),
  ro 16 (.len 68 (.t 15)),
  ro 17 (.bn .lss 3 (.t 14) (.t 16))] (some [0, 1, 5, 17])) c85_18) c85_21
def c85_13 : SC := .block 0 (.loop c85_15)
def c85_31 : SC := .seq (.reg [ro 4 (.asg (.c (.bool true)))] (some [4])) .ret
def c85_10 : SC := .seq (.seq (.reg [ro 5 (.asg (.c (.int .i64 0)))] (some [0, 1, 5])) c85_13) c85_31
def c85_2 : SC := .seq (.seq (.reg [ro 6 (.mv (.t 1)),
  ro 7 (.len 68 (.t 6)),
  ro 8 (.mv (.t 0)),
  ro 9 (.nilc (.t 8)),
  ro 10 (.fa 50 (.t 9) 1),
  ro 11 (.ld 47 (.t 10)),
  ro 12 (.len 47 (.t 11)),
  ro 13 (.bn .neq 3 (.t 7) (.t 12))] (some [0, 1, 13])) c85_5) c85_10
/-- loop.example/g01075/spec.l07State -/
def c85 : SC := .seq (.reg [ro 4 (.asg (.c (.bool false)))] (some [0, 1])) c85_2
theorem s85 : slimC ⟨29, [0, 1]⟩ (Tryz.f85.body.getD .skip) = some c85.strip := by kernel_rfl

def c35_2 : SC := .seq (.reg [ro 5 (.call (.f 74) [(.t 2)]),
  ro 6 (.mv (.t 5)),
  ⟨some 7, .mv (.t 1), some (6, true)⟩,
  ⟨some 8, .call (.f 85) [(.t 2), (.t 7)], some (6, true)⟩,
  ro 9 (.pick (.t 6) (.t 8) (.c (.bool false))),
  ro 4 (.asg (.t 9))] (some [4])) .ret
/-- loop.example/g01075/spec.ValidState -/
def c35 : SC := .seq (.reg [ro 2 (.bx 50 (.t 0)),
  ro 4 (.asg (.c (.bool false)))] (some [1, 2])) c35_2
theorem s35 : slimC ⟨10, [0, 1]⟩ (Tryz.f35.body.getD .skip) = some c35.strip := by kernel_rfl

def c65_2 : SC := .seq (.reg [ro 7 (.mv (.t 0)),
  ro 8 (.mv (.t 1)),
  ro 9 (.bn .geq 2 (.t 7) (.t 8)),
  ro 10 (.mv (.t 9)),
  ⟨some 11, .mv (.t 0), some (10, true)⟩,
  ⟨some 12, .mv (.t 2), some (10, true)⟩,
  ⟨some 13, .bn .leq 2 (.t 11) (.t 12), some (10, true)⟩,
  ro 14 (.pick (.t 10) (.t 13) (.c (.bool false))),
  ro 6 (.asg (.t 14))] (some [6])) .ret
/-- loop.example/g01075/impl.within -/
def c65 : SC := .seq (.reg [ro 6 (.asg (.c (.bool false)))] (some [0, 1, 2])) c65_2
theorem s65 : slimC ⟨15, [0, 1, 2]⟩ (Tryz.f65.body.getD .skip) = some c65.strip := by kernel_rfl

def c184_2 : SC := .seq (.reg [ro 3 (.fa 178 (.t 1) 1),
  ro 4 (.ld 2 (.t 3)),
  ro 5 (.call (.f 65) [(.t 4), (.c (.int .i64 0)), (.c (.int .i64 3))]),
  ro 6 (.un .not (.t 5)),
  ro 2 (.asg (.t 6))] (some [2])) .ret
/-- loop.example/g01075/impl.parametersOk$1 -/
def c184 : SC := .seq (.reg [ro 1 (.bx 178 (.t 0)),
  ro 2 (.asg (.c (.bool false)))] (some [1])) c184_2
theorem s184 : slimC ⟨7, [0]⟩ (Tryz.f184.body.getD .skip) = some c184.strip := by kernel_rfl

def c186_20 : SC := .seq (.reg [ro 17 (.mv (.t 5)),
  ro 4 (.asg (.t 17))] (some [4])) .ret
def c186_19 : SC := .cond (.t 16) c186_20 .skip
def c186_17 : SC := .seq (.reg [ro 11 (.mv (.t 1)),
  ro 12 (.mv (.t 0)),
  ro 13 (.mv (.t 5)),
  ro 14 (.ia 46 (.t 12) (.t 13)),
  ro 15 (.ld 178 (.t 14)),
  ro 16 (.call (.t 11) [(.t 15)])] (some [0, 1, 5, 7, 8, 16])) c186_19
def c186_24 : SC := .reg [ro 18 (.bn .add 3 (.t 8) (.c (.int .i64 1))),
  ro 8 (.mv (.t 18))] (some [0, 1, 7, 8])
def c186_13 : SC := .seq (.block 1 (.seq (.reg [ro 10 (.mv (.t 8)),
  ro 5 (.asg (.t 10))] (some [0, 1, 5, 7, 8])) c186_17)) c186_24
def c186_9 : SC := .seq (.cond (.t 9) .skip (.exit 0)) c186_13
def c186_7 : SC := .seq (.reg [ro 9 (.bn .lss 3 (.t 8) (.t 7))] (some [0, 1, 7, 8, 9])) c186_9
def c186_5 : SC := .block 0 (.loop c186_7)
def c186_25 : SC := .seq (.reg [ro 4 (.asg (.c (.int .i64 (-1))))] (some [4])) .ret
def c186_2 : SC := .seq (.seq (.reg [ro 6 (.mv (.t 0)),
  ro 7 (.len 46 (.t 6)),
  ro 8 (.mv (.c (.int .i64 0)))] (some [0, 1, 7, 8])) c186_5) c186_25
/-- slices.IndexFunc[[]loop.example/g01075/impl.Definition,loop.example/g01075/impl.Definition] -/
def c186 : SC := .seq (.reg [ro 4 (.asg (.c (.int .i64 0)))] (some [0, 1])) c186_2
theorem s186 : slimC ⟨19, [0, 1]⟩ (Tryz.f186.body.getD .skip) = some c186.strip := by kernel_rfl

def c183_2 : SC := .seq (.reg [ro 5 (.mv (.t 0)),
  ro 6 (.mv (.t 1)),
  ro 7 (.call (.f 186) [(.t 5), (.t 6)]),
  ro 8 (.bn .geq 3 (.t 7) (.c (.int .i64 0))),
  ro 4 (.asg (.t 8))] (some [4])) .ret
/-- slices.ContainsFunc[[]loop.example/g01075/impl.Definition,loop.example/g01075/impl.Definition] -/
def c183 : SC := .seq (.reg [ro 4 (.asg (.c (.bool false)))] (some [0, 1])) c183_2
theorem s183 : slimC ⟨9, [0, 1]⟩ (Tryz.f183.body.getD .skip) = some c183.strip := by kernel_rfl

def c133_2 : SC := .seq (.reg [ro 3 (.mv (.t 0)),
  ro 4 (.call (.f 183) [(.t 3), (.f 184)]),
  ro 5 (.un .not (.t 4)),
  ro 2 (.asg (.t 5))] (some [2])) .ret
/-- loop.example/g01075/impl.parametersOk -/
def c133 : SC := .seq (.reg [ro 2 (.asg (.c (.bool false)))] (some [0])) c133_2
theorem s133 : slimC ⟨6, [0]⟩ (Tryz.f133.body.getD .skip) = some c133.strip := by kernel_rfl

def c185_2 : SC := .seq (.reg [ro 3 (.mv (.t 0)),
  ro 4 (.bn .geq 5 (.t 3) (.c (.int .u8 48))),
  ro 5 (.mv (.t 4)),
  ⟨some 6, .mv (.t 0), some (5, true)⟩,
  ⟨some 7, .bn .leq 5 (.t 6) (.c (.int .u8 57)), some (5, true)⟩,
  ro 8 (.pick (.t 5) (.t 7) (.c (.bool false))),
  ro 2 (.asg (.t 8))] (some [2])) .ret
/-- loop.example/g01075/impl.isDigit -/
def c185 : SC := .seq (.reg [ro 2 (.asg (.c (.bool false)))] (some [0])) c185_2
theorem s185 : slimC ⟨9, [0]⟩ (Tryz.f185.body.getD .skip) = some c185.strip := by kernel_rfl

def c134_22 : SC := .seq (.reg [ro 2 (.asg (.c (.bool false)))] (some [2])) .ret
def c134_21 : SC := .cond (.t 32) c134_22 .skip
def c134_19 : SC := .seq (.reg [ro 20 (.mv (.t 4)),
  ro 21 (.un .not (.t 20)),
  ro 22 (.mv (.t 21)),
  ⟨some 23, .mv (.t 3), some (22, true)⟩,
  ⟨some 24, .bn .eql 3 (.t 23) (.c (.int .i64 0)), some (22, true)⟩,
  ⟨some 25, .mv (.t 24), some (22, true)⟩,
  ⟨some 26, .mv (.t 0), some (25, false)⟩,
  ⟨some 27, .mv (.t 3), some (25, false)⟩,
  ⟨some 28, .idx 9 (.t 26) (.t 27), some (25, false)⟩,
  ⟨some 29, .call (.f 185) [(.t 28)], some (25, false)⟩,
  ⟨some 30, .un .not (.t 29), some (25, false)⟩,
  ⟨some 31, .pick (.t 25) (.c (.bool true)) (.t 30), some (22, true)⟩,
  ro 32 (.pick (.t 22) (.t 31) (.c (.bool false)))] (some [0, 6, 7, 32])) c134_21
def c134_17 : SC := .seq (.reg [ro 10 (.mv (.t 0)),
  ro 11 (.mv (.t 3)),
  ro 12 (.idx 9 (.t 10) (.t 11)),
  ro 13 (.bn .geq 5 (.t 12) (.c (.int .u8 97))),
  ro 14 (.mv (.t 13)),
  ⟨some 15, .mv (.t 0), some (14, true)⟩,
  ⟨some 16, .mv (.t 3), some (14, true)⟩,
  ⟨some 17, .idx 9 (.t 15) (.t 16), some (14, true)⟩,
  ⟨some 18, .bn .leq 5 (.t 17) (.c (.int .u8 122)), some (14, true)⟩,
  ro 19 (.pick (.t 14) (.t 18) (.c (.bool false))),
  ro 4 (.asg (.t 19))] (some [0, 3, 4, 6, 7])) c134_19
def c134_26 : SC := .reg [ro 33 (.bn .add 3 (.t 7) (.c (.int .i64 1))),
  ro 7 (.mv (.t 33))] (some [0, 6, 7])
def c134_13 : SC := .seq (.block 1 (.seq (.reg [ro 9 (.mv (.t 7)),
  ro 3 (.asg (.t 9))] (some [0, 3, 6, 7])) c134_17)) c134_26
def c134_9 : SC := .seq (.cond (.t 8) .skip (.exit 0)) c134_13
def c134_7 : SC := .seq (.reg [ro 8 (.bn .lss 3 (.t 7) (.t 6))] (some [0, 6, 7, 8])) c134_9
def c134_5 : SC := .block 0 (.loop c134_7)
def c134_27 : SC := .seq (.reg [ro 34 (.mv (.t 0)),
  ro 35 (.len 9 (.t 34)),
  ro 36 (.bn .geq 3 (.t 35) (.c (.int .i64 1))),
  ro 37 (.mv (.t 36)),
  ⟨some 38, .mv (.t 0), some (37, true)⟩,
  ⟨some 39, .len 9 (.t 38), some (37, true)⟩,
  ⟨some 40, .bn .leq 3 (.t 39) (.c (.int .i64 10)), some (37, true)⟩,
  ro 41 (.pick (.t 37) (.t 40) (.c (.bool false))),
  ro 2 (.asg (.t 41))] (some [2])) .ret
def c134_2 : SC := .seq (.seq (.reg [ro 5 (.mv (.t 0)),
  ro 6 (.len 9 (.t 5)),
  ro 7 (.mv (.c (.int .i64 0)))] (some [0, 6, 7])) c134_5) c134_27
/-- loop.example/g01075/impl.IsName -/
def c134 : SC := .seq (.reg [ro 2 (.asg (.c (.bool false)))] (some [0])) c134_2
theorem s134 : slimC ⟨42, [0]⟩ (Tryz.f134.body.getD .skip) = some c134.strip := by kernel_rfl

def c187_2 : SC := .seq (.reg [ro 4 (.fa 178 (.t 2) 0),
  ro 5 (.ld 9 (.t 4)),
  ro 6 (.ld 9 (.t 1)),
  ro 7 (.bn .eql 9 (.t 5) (.t 6)),
  ro 3 (.asg (.t 7))] (some [3])) .ret
/-- loop.example/g01075/impl.definitionNamed$1 -/
def c187 : SC := .seq (.reg [ro 2 (.bx 178 (.t 0)),
  ro 3 (.asg (.c (.bool false)))] (some [1, 2])) c187_2
theorem s187 : slimC ⟨8, [0, 1]⟩ (Tryz.f187.body.getD .skip) = some c187.strip := by kernel_rfl

def c186v2_20 : SC := .seq (.reg [ro 17 (.mv (.t 5)),
  ro 4 (.asg (.t 17))] (some [4])) .ret
def c186v2_19 : SC := .cond (.t 16) c186v2_20 .skip
def c186v2_17 : SC := .seq (.reg [ro 11 (.mv (.t 1)),
  ro 12 (.mv (.t 0)),
  ro 13 (.mv (.t 5)),
  ro 14 (.ia 46 (.t 12) (.t 13)),
  ro 15 (.ld 178 (.t 14)),
  ro 16 (.call (.t 11) [(.t 15)])] (some [0, 1, 5, 7, 8, 16])) c186v2_19
def c186v2_24 : SC := .reg [ro 18 (.bn .add 3 (.t 8) (.c (.int .i64 1))),
  ro 8 (.mv (.t 18))] (some [0, 1, 7, 8])
def c186v2_13 : SC := .seq (.block 1 (.seq (.reg [ro 10 (.mv (.t 8)),
  ro 5 (.asg (.t 10))] (some [0, 1, 5, 7, 8])) c186v2_17)) c186v2_24
def c186v2_9 : SC := .seq (.cond (.t 9) .skip (.exit 0)) c186v2_13
def c186v2_7 : SC := .seq (.reg [ro 9 (.bn .lss 3 (.t 8) (.t 7))] (some [0, 1, 7, 8, 9])) c186v2_9
def c186v2_5 : SC := .block 0 (.loop c186v2_7)
def c186v2_25 : SC := .seq (.reg [ro 4 (.asg (.c (.int .i64 (-1))))] (some [4])) .ret
def c186v2_2 : SC := .seq (.seq (.reg [ro 6 (.mv (.t 0)),
  ro 7 (.len 46 (.t 6)),
  ro 8 (.mv (.c (.int .i64 0)))] (some [0, 1, 7, 8])) c186v2_5) c186v2_25
/-- slices.IndexFunc[[]loop.example/g01075/impl.Definition,loop.example/g01075/impl.Definition] -/
def c186v2 : SC := .seq (.reg [ro 4 (.asg (.c (.int .i64 0)))] (some [0, 1])) c186v2_2
theorem s186v2 : slimC ⟨19, [0, 1]⟩ (Tryz.f186.body.getD .skip) = some c186v2.strip := by kernel_rfl

def c135_2 : SC := .seq (.reg [ro 5 (.mv (.t 0)),
  ro 6 (.mkf 187 [(.t 3)]),
  ro 7 (.call (.f 186) [(.t 5), (.t 6)]),
  ro 4 (.asg (.t 7))] (some [4])) .ret
/-- loop.example/g01075/impl.definitionNamed -/
def c135 : SC := .seq (.reg [ro 3 (.bx 9 (.t 1)),
  ro 4 (.asg (.c (.int .i64 0)))] (some [0, 3])) c135_2
theorem s135 : slimC ⟨8, [0, 1]⟩ (Tryz.f135.body.getD .skip) = some c135.strip := by kernel_rfl

def c210_15 : SC := .reg [ro 8 (.bn .eql 2 (.t 4) (.c (.int .i64 4))),
  ro 5 (.asg (.t 8))] (some [4, 5])
def c210_13 : SC := .cond (.t 5) .skip c210_15
def c210_11 : SC := .seq (.reg [ro 7 (.bn .eql 2 (.t 4) (.c (.int .i64 3))),
  ro 5 (.asg (.t 7))] (some [4, 5])) c210_13
def c210_9 : SC := .cond (.t 5) .skip c210_11
def c210_17 : SC := .seq (.reg [ro 2 (.asg (.c (.int .i64 1)))] (some [2])) .ret
def c210_23 : SC := .seq (.reg [ro 2 (.asg (.c (.int .i64 2)))] (some [2])) .ret
def c210_22 : SC := .cond (.t 9) c210_23 .skip
def c210_20 : SC := .seq (.reg [ro 10 (.bn .eql 2 (.t 4) (.c (.int .i64 2))),
  ro 9 (.asg (.t 10))] (some [9])) c210_22
def c210_16 : SC := .cond (.t 5) c210_17 c210_20
def c210_5 : SC := .block 0 (.seq (.seq (.reg [ro 6 (.bn .eql 2 (.t 4) (.c (.int .i64 1))),
  ro 5 (.asg (.t 6))] (some [4, 5])) c210_9) c210_16)
def c210_27 : SC := .seq (.reg [ro 2 (.asg (.c (.int .i64 0)))] (some [2])) .ret
def c210_2 : SC := .seq (.seq (.reg [ro 3 (.fa 202 (.t 1) 0),
  ro 4 (.ld 2 (.t 3))] (some [4])) c210_5) c210_27
/-- (loop.example/g01075/impl.Part).follow -/
def c210 : SC := .seq (.reg [ro 1 (.bx 202 (.t 0)),
  ro 2 (.asg (.c (.int .i64 0)))] (some [1])) c210_2
theorem s210 : slimC ⟨11, [0]⟩ (Tryz.f210.body.getD .skip) = some c210.strip := by kernel_rfl

def c188_10 : SC := .cond (.t 7) .skip (.exit 0)
def c188_19 : SC := .seq (.reg [ro 4 (.asg (.c (.int .i64 (-1))))] (some [4])) .ret
def c188_18 : SC := .cond (.t 14) c188_19 .skip
def c188_23 : SC := .reg [ro 15 (.mv (.t 5)),
  ro 16 (.fa 178 (.t 2) 2),
  ro 17 (.ld 176 (.t 16)),
  ro 18 (.mv (.t 1)),
  ro 19 (.ia 176 (.t 17) (.t 18)),
  ro 20 (.ld 202 (.t 19)),
  ro 21 (.call (.f 210) [(.t 20)]),
  ro 22 (.bn .sub 3 (.t 21) (.c (.int .i64 1))),
  ro 23 (.bn .add 3 (.t 15) (.t 22)),
  ro 5 (.asg (.t 23))] (some [1, 2, 5])
def c188_24 : SC := .reg [ro 8 (.mv (.t 1)),
  ro 9 (.bn .add 3 (.t 8) (.c (.int .i64 1))),
  ro 1 (.asg (.t 9))] (some [1, 2, 5])
def c188_13 : SC := .seq (.block 1 (.seq (.seq (.reg [ro 10 (.mv (.t 1)),
  ro 11 (.fa 178 (.t 2) 2),
  ro 12 (.ld 176 (.t 11)),
  ro 13 (.len 176 (.t 12)),
  ro 14 (.bn .geq 3 (.t 10) (.t 13))] (some [1, 2, 5, 14])) c188_18) c188_23)) c188_24
def c188_7 : SC := .seq (.seq (.reg [ro 6 (.mv (.t 5)),
  ro 7 (.bn .gtr 3 (.t 6) (.c (.int .i64 0)))] (some [1, 2, 5, 7])) c188_10) c188_13
def c188_5 : SC := .block 0 (.loop c188_7)
def c188_25 : SC := .seq (.reg [ro 24 (.mv (.t 1)),
  ro 4 (.asg (.t 24))] (some [4])) .ret
def c188_2 : SC := .seq (.seq (.reg [ro 5 (.asg (.c (.int .i64 1)))] (some [1, 2, 5])) c188_5) c188_25
/-- (loop.example/g01075/impl.Definition).end -/
def c188 : SC := .seq (.reg [ro 2 (.bx 178 (.t 0)),
  ro 4 (.asg (.c (.int .i64 0)))] (some [1, 2])) c188_2
theorem s188 : slimC ⟨25, [0]⟩ (Tryz.f188.body.getD .skip) = some c188.strip := by kernel_rfl

def c209_12 : SC := .reg [ro 29 (.fa 204 (.t 9) 0),
  ro 30 (.ld 2 (.t 29)),
  ro 31 (.bn .add 2 (.t 30) (.c (.int .i64 1))),
  ro 32 (.fa 204 (.t 9) 0),
  ⟨none, .sto 2 (.t 32) (.t 31), none⟩] (some [0, 2, 3, 4, 8, 9])
def c209_11 : SC := .cond (.t 28) c209_12 .skip
def c209_30 : SC := .reg [ro 43 (.bn .add 3 (.t 37) (.c (.int .i64 1))),
  ro 37 (.mv (.t 43))] (some [2, 3, 4, 9, 10, 36, 37])
def c209_27 : SC := .seq (.block 1 (.cus (selfT Cc 209 4 2 39 ((List.range 3).map (· + 2)) [ro 40 (.mv (.t 10)), ro 41 (.ld 204 (.t 9))] [(.t 40), (.t 41)] (some 42) [ro 10 (.asg (.t 42))] [2, 3, 4, 9, 10, 36, 37]) (selfB 247 4 39 [ro 40 (.mv (.t 10)), ro 41 (.ld 204 (.t 9))] [(.t 40), (.t 41)] (some 42) [ro 10 (.asg (.t 42))]))) c209_30
def c209_23 : SC := .seq (.cond (.t 38) .skip (.exit 0)) c209_27
def c209_21 : SC := .seq (.reg [ro 38 (.bn .lss 3 (.t 37) (.t 36))] (some [2, 3, 4, 9, 10, 36, 37, 38])) c209_23
def c209_19 : SC := .block 0 (.loop c209_21)
def c209_31 : SC := .seq (.reg [ro 44 (.mv (.t 10)),
  ro 7 (.asg (.t 44))] (some [2, 3, 4, 7])) .ret
def c209_16 : SC := .seq (.seq (.reg [ro 35 (.ld 202 (.t 8)),
  ro 36 (.call (.f 210) [(.t 35)]),
  ro 37 (.mv (.c (.int .i64 0)))] (some [2, 3, 4, 9, 10, 36, 37])) c209_19) c209_31
def c209_14 : SC := .seq (.reg [ro 33 (.mv (.t 0)),
  ro 34 (.bn .add 3 (.t 33) (.c (.int .i64 1))),
  ro 10 (.asg (.t 34))] (some [2, 3, 4, 8, 9, 10])) c209_16
def c209_8 : SC := .seq (.seq (.reg [ro 26 (.fa 202 (.t 8) 0),
  ro 27 (.ld 2 (.t 26)),
  ro 28 (.bn .eql 2 (.t 27) (.c (.int .i64 4)))] (some [0, 2, 3, 4, 8, 9, 28])) c209_11) c209_14
def c209_6 : SC := .seq (.reg [ro 20 (.fa 204 (.t 6) 0),
  ro 21 (.ld 2 (.t 20)),
  ro 22 (.fa 202 (.t 8) 0),
  ro 23 (.ld 2 (.t 22)),
  ro 24 (.bn .eql 2 (.t 23) (.c (.int .i64 1))),
  ro 25 (.bld 204 [(0, (.t 21)), (1, (.t 24))]),
  ro 9 (.alc 204),
  ⟨none, .sto 204 (.t 9) (.t 25), none⟩] (some [0, 2, 3, 4, 8, 9])) c209_8
def c209_4 : SC := .seq (.reg [ro 15 (.fa 178 (.t 3) 2),
  ro 16 (.ld 176 (.t 15)),
  ro 17 (.mv (.t 0)),
  ro 18 (.ia 176 (.t 16) (.t 17)),
  ro 19 (.ld 202 (.t 18)),
  ro 8 (.alc 202),
  ⟨none, .sto 202 (.t 8) (.t 19), none⟩] (some [0, 2, 3, 4, 6, 8])) c209_6
def c209_2 : SC := .seq (.reg [ro 11 (.ld 205 (.t 2)),
  ro 12 (.mv (.t 0)),
  ro 13 (.ld 204 (.t 6)),
  ro 14 (.ia 205 (.t 11) (.t 12)),
  ⟨none, .sto 204 (.t 14) (.t 13), none⟩] (some [0, 2, 3, 4, 6])) c209_4
/-- (loop.example/g01075/impl.Definition).places$1 -/
def c209 : SC := .seq (.reg [ro 6 (.bx 204 (.t 1)),
  ro 7 (.asg (.c (.int .i64 0)))] (some [0, 2, 3, 4, 6])) c209_2
theorem hk209 : c209.hook (SelfOk Cc 209 [0, 1, 2, 3, 4] 5 2 4) := And.intro (True.intro) (And.intro (True.intro) (And.intro (True.intro) (And.intro (True.intro) (And.intro (And.intro (True.intro) (And.intro (True.intro) (True.intro))) (And.intro (True.intro) (And.intro (And.intro (True.intro) (And.intro (True.intro) (And.intro (And.intro (True.intro) (True.intro)) (And.intro (⟨247, 2, 39, 3, _, _, _, _, _, rfl, rfl, (by kernel_rfl), rfl, rfl, rfl, rfl, rfl, rfl, rfl⟩) (True.intro))))) (And.intro (True.intro) (True.intro))))))))
theorem s209 : slimC ⟨45, [0, 1, 2, 3, 4]⟩ (Tryz.f209.body.getD .skip) = some c209.strip := by kernel_rfl

def c155_10 : SC := .seq (.reg [ro 15 (.ld 205 (.t 3)),
  ro 2 (.asg (.t 15))] (some [2])) .ret
def c155_8 : SC := .seq (.reg [ro 10 (.ld 247 (.t 4)),
  ro 11 (.fa 178 (.t 1) 1),
  ro 12 (.ld 2 (.t 11)),
  ro 13 (.bld 204 [(0, (.t 12))]),
  ro 14 (.call (.t 10) [(.c (.int .i64 0)), (.t 13)])] (some [3])) c155_10
def c155_6 : SC := .seq (.reg [ro 9 (.mkf 209 [(.t 3), (.t 1), (.t 4)]),
  ⟨none, .sto 247 (.t 4) (.t 9), none⟩] (some [1, 3, 4])) c155_8
def c155_4 : SC := .cus (tailT Cc 209 4 2 10 9 [3, 1, 4] [ro 11 (.fa 178 (.t 1) 1), ro 12 (.ld 2 (.t 11)), ro 13 (.bld 204 [(0, (.t 12))])] [(.c (.int .i64 0)), (.t 13)] (some 14) [3] c155_10) (tailB 247 209 4 10 9 [3, 1, 4] [ro 11 (.fa 178 (.t 1) 1), ro 12 (.ld 2 (.t 11)), ro 13 (.bld 204 [(0, (.t 12))])] [(.c (.int .i64 0)), (.t 13)] (some 14) c155_10.unkeep)
def c155_2 : SC := .seq (.reg [ro 5 (.fa 178 (.t 1) 2),
  ro 6 (.ld 176 (.t 5)),
  ro 7 (.len 176 (.t 6)),
  ro 8 (.mks 205 (.t 7) (.t 7)),
  ro 3 (.alc 205),
  ⟨none, .sto 205 (.t 3) (.t 8), none⟩] (some [1, 3])) c155_4
/-- (loop.example/g01075/impl.Definition).places -/
def c155 : SC := .seq (.reg [ro 1 (.bx 178 (.t 0)),
  ro 2 (.asg (.c .nils))] (some [1])) c155_2
theorem hk155 : c155.hook (TailOk Cc) := And.intro (True.intro) (And.intro (True.intro) (⟨247, 209, 4, 2, 10, 9, _, _, _, _, _, _, rfl, rfl, (by kernel_rfl), ⟨Tryz.t247, _, _, (by kernel_rfl), rfl, rfl, rfl, rfl⟩, rfl, rfl, rfl, rfl, (by kernel_rfl)⟩))
theorem s155 : slimC ⟨16, [0]⟩ (Tryz.f155.body.getD .skip) = some c155.strip := by kernel_rfl

def c229_6 : SC := .seq (.reg [ro 26 (.fa 202 (.t 1) 0),
  ro 27 (.ld 2 (.t 26)),
  ro 28 (.call (.f 65) [(.t 27), (.c (.int .i64 0)), (.c (.int .i64 5))]),
  ro 29 (.mv (.t 28)),
  ⟨some 30, .mv (.t 3), some (29, true)⟩,
  ⟨some 31, .mv (.t 30), some (29, true)⟩,
  ⟨some 32, .fa 202 (.t 1) 1, some (31, false)⟩,
  ⟨some 33, .ld 2 (.t 32), some (31, false)⟩,
  ⟨some 34, .bn .eql 2 (.t 33) (.c (.int .i64 0)), some (31, false)⟩,
  ⟨some 35, .pick (.t 31) (.c (.bool true)) (.t 34), some (29, true)⟩,
  ro 36 (.pick (.t 29) (.t 35) (.c (.bool false))),
  ro 37 (.mv (.t 36)),
  ⟨some 38, .fa 202 (.t 1) 0, some (37, true)⟩,
  ⟨some 39, .ld 2 (.t 38), some (37, true)⟩,
  ⟨some 40, .bn .eql 2 (.t 39) (.c (.int .i64 1)), some (37, true)⟩,
  ⟨some 41, .mv (.t 40), some (37, true)⟩,
  ⟨some 42, .fa 202 (.t 1) 2, some (41, false)⟩,
  ⟨some 43, .ld 9 (.t 42), some (41, false)⟩,
  ⟨some 44, .bn .eql 9 (.t 43) (.c (.str [])), some (41, false)⟩,
  ⟨some 45, .pick (.t 41) (.c (.bool true)) (.t 44), some (37, true)⟩,
  ro 46 (.pick (.t 37) (.t 45) (.c (.bool false))),
  ro 47 (.mv (.t 46)),
  ⟨some 48, .mv (.t 4), some (47, true)⟩,
  ⟨some 49, .mv (.t 48), some (47, true)⟩,
  ⟨some 50, .fa 202 (.t 1) 3, some (49, false)⟩,
  ⟨some 51, .ld 85 (.t 50), some (49, false)⟩,
  ⟨some 52, .len 85 (.t 51), some (49, false)⟩,
  ⟨some 53, .bn .eql 3 (.t 52) (.c (.int .i64 0)), some (49, false)⟩,
  ⟨some 54, .pick (.t 49) (.c (.bool true)) (.t 53), some (47, true)⟩,
  ro 55 (.pick (.t 47) (.t 54) (.c (.bool false))),
  ro 2 (.asg (.t 55))] (some [2])) .ret
def c229_4 : SC := .seq (.reg [ro 13 (.fa 202 (.t 1) 0),
  ro 14 (.ld 2 (.t 13)),
  ro 15 (.bn .eql 2 (.t 14) (.c (.int .i64 1))),
  ro 16 (.mv (.t 15)),
  ⟨some 17, .fa 202 (.t 1) 0, some (16, false)⟩,
  ⟨some 18, .ld 2 (.t 17), some (16, false)⟩,
  ⟨some 19, .bn .eql 2 (.t 18) (.c (.int .i64 3)), some (16, false)⟩,
  ro 20 (.pick (.t 16) (.c (.bool true)) (.t 19)),
  ro 21 (.mv (.t 20)),
  ⟨some 22, .fa 202 (.t 1) 0, some (21, false)⟩,
  ⟨some 23, .ld 2 (.t 22), some (21, false)⟩,
  ⟨some 24, .bn .eql 2 (.t 23) (.c (.int .i64 5)), some (21, false)⟩,
  ro 25 (.pick (.t 21) (.c (.bool true)) (.t 24)),
  ro 4 (.asg (.t 25))] (some [1, 3, 4])) c229_6
def c229_2 : SC := .seq (.reg [ro 5 (.fa 202 (.t 1) 0),
  ro 6 (.ld 2 (.t 5)),
  ro 7 (.bn .eql 2 (.t 6) (.c (.int .i64 4))),
  ro 8 (.mv (.t 7)),
  ⟨some 9, .fa 202 (.t 1) 0, some (8, false)⟩,
  ⟨some 10, .ld 2 (.t 9), some (8, false)⟩,
  ⟨some 11, .bn .eql 2 (.t 10) (.c (.int .i64 5)), some (8, false)⟩,
  ro 12 (.pick (.t 8) (.c (.bool true)) (.t 11)),
  ro 3 (.asg (.t 12))] (some [1, 3])) c229_4
/-- (loop.example/g01075/impl.Part).kindOk -/
def c229 : SC := .seq (.reg [ro 1 (.bx 202 (.t 0)),
  ro 2 (.asg (.c (.bool false)))] (some [1])) c229_2
theorem s229 : slimC ⟨56, [0]⟩ (Tryz.f229.body.getD .skip) = some c229.strip := by kernel_rfl

def c140_2 : SC := .seq (.reg [ro 3 (.mv (.t 0)),
  ro 4 (.call (.f 134) [(.t 3)]),
  ro 5 (.mv (.t 4)),
  ⟨some 6, .mv (.t 0), some (5, true)⟩,
  ⟨some 7, .bn .neq 9 (.t 6) (.c (.str [116, 97, 117])), some (5, true)⟩,
  ro 8 (.pick (.t 5) (.t 7) (.c (.bool false))),
  ro 2 (.asg (.t 8))] (some [2])) .ret
/-- loop.example/g01075/impl.IsAction -/
def c140 : SC := .seq (.reg [ro 2 (.asg (.c (.bool false)))] (some [0])) c140_2
theorem s140 : slimC ⟨9, [0]⟩ (Tryz.f140.body.getD .skip) = some c140.strip := by kernel_rfl

def c138_2 : SC := .seq (.reg [ro 5 (.mv (.t 0)),
  ro 6 (.mv (.t 1)),
  ro 7 (.bn .sub 2 (.t 6) (.c (.int .i64 1))),
  ro 8 (.call (.f 65) [(.t 5), (.c (.int .i64 0)), (.t 7)]),
  ro 4 (.asg (.t 8))] (some [4])) .ret
/-- loop.example/g01075/impl.index -/
def c138 : SC := .seq (.reg [ro 4 (.asg (.c (.bool false)))] (some [0, 1])) c138_2
theorem s138 : slimC ⟨9, [0, 1]⟩ (Tryz.f138.body.getD .skip) = some c138.strip := by kernel_rfl

def c230_11 : SC := .seq (.reg [ro 13 (.mv (.t 5)),
  ro 14 (.bn .eql 3 (.t 13) (.c (.int .i64 0))),
  ro 15 (.mv (.t 14)),
  ⟨some 16, .fa 202 (.t 2) 2, some (15, false)⟩,
  ⟨some 17, .ld 9 (.t 16), some (15, false)⟩,
  ⟨some 18, .bn .neq 9 (.t 17) (.c (.str [116, 97, 117])), some (15, false)⟩,
  ⟨some 19, .mv (.t 18), some (15, false)⟩,
  ⟨some 20, .mv (.t 5), some (19, true)⟩,
  ⟨some 21, .bn .leq 3 (.t 20) (.c (.int .i64 2)), some (19, true)⟩,
  ⟨some 22, .pick (.t 19) (.t 21) (.c (.bool false)), some (15, false)⟩,
  ro 23 (.pick (.t 15) (.c (.bool true)) (.t 22)),
  ro 4 (.asg (.t 23))] (some [4])) .ret
def c230_17 : SC := .seq (.reg [ro 26 (.mv (.t 5)),
  ro 27 (.bn .eql 3 (.t 26) (.c (.int .i64 1))),
  ro 4 (.asg (.t 27))] (some [4])) .ret
def c230_23 : SC := .seq (.reg [ro 30 (.mv (.t 5)),
  ro 31 (.mv (.t 1)),
  ro 32 (.fa 202 (.t 2) 1),
  ro 33 (.ld 2 (.t 32)),
  ro 34 (.ia 46 (.t 31) (.t 33)),
  ro 35 (.fa 178 (.t 34) 1),
  ro 36 (.ld 2 (.t 35)),
  ro 37 (.bn .eql 2 (.t 30) (.t 36)),
  ro 4 (.asg (.t 37))] (some [4])) .ret
def c230_22 : SC := .cond (.t 28) c230_23 .skip
def c230_20 : SC := .seq (.reg [ro 29 (.bn .eql 2 (.t 10) (.c (.int .i64 5))),
  ro 28 (.asg (.t 29))] (some [1, 2, 5, 28])) c230_22
def c230_16 : SC := .cond (.t 24) c230_17 c230_20
def c230_14 : SC := .seq (.reg [ro 25 (.bn .eql 2 (.t 10) (.c (.int .i64 3))),
  ro 24 (.asg (.t 25))] (some [1, 2, 5, 10, 24])) c230_16
def c230_10 : SC := .cond (.t 11) c230_11 c230_14
def c230_7 : SC := .block 0 (.seq (.reg [ro 12 (.bn .eql 2 (.t 10) (.c (.int .i64 1))),
  ro 11 (.asg (.t 12))] (some [1, 2, 5, 10, 11])) c230_10)
def c230_27 : SC := .seq (.reg [ro 4 (.asg (.c (.bool true)))] (some [4])) .ret
def c230_4 : SC := .seq (.seq (.reg [ro 9 (.fa 202 (.t 2) 0),
  ro 10 (.ld 2 (.t 9))] (some [1, 2, 5, 10])) c230_7) c230_27
def c230_2 : SC := .seq (.reg [ro 6 (.fa 202 (.t 2) 3),
  ro 7 (.ld 85 (.t 6)),
  ro 8 (.len 85 (.t 7)),
  ro 5 (.asg (.t 8))] (some [1, 2, 5])) c230_4
/-- (loop.example/g01075/impl.Part).countOk -/
def c230 : SC := .seq (.reg [ro 2 (.bx 202 (.t 0)),
  ro 4 (.asg (.c (.bool false)))] (some [1, 2])) c230_2
theorem s230 : slimC ⟨38, [0, 1]⟩ (Tryz.f230.body.getD .skip) = some c230.strip := by kernel_rfl

def c192_2 : SC := .seq (.reg [ro 3 (.mv (.t 0)),
  ro 4 (.call (.f 65) [(.t 3), (.c (.int .i64 0)), (.c (.int .i64 63))]),
  ro 2 (.asg (.t 4))] (some [2])) .ret
/-- loop.example/g01075/impl.isValue -/
def c192 : SC := .seq (.reg [ro 2 (.asg (.c (.bool false)))] (some [0])) c192_2
theorem s192 : slimC ⟨5, [0]⟩ (Tryz.f192.body.getD .skip) = some c192.strip := by kernel_rfl

def c218_9 : SC := .seq (.reg [ro 9 (.fa 159 (.t 2) 1),
  ro 10 (.ld 2 (.t 9)),
  ro 11 (.call (.f 192) [(.t 10)]),
  ro 4 (.asg (.t 11))] (some [4])) .ret
def c218_15 : SC := .seq (.reg [ro 14 (.fa 159 (.t 2) 1),
  ro 15 (.ld 2 (.t 14)),
  ro 16 (.mv (.t 1)),
  ro 17 (.bn .sub 2 (.t 16) (.c (.int .i64 1))),
  ro 18 (.call (.f 65) [(.t 15), (.c (.int .i64 0)), (.t 17)]),
  ro 4 (.asg (.t 18))] (some [4])) .ret
def c218_21 : SC := .seq (.reg [ro 21 (.fa 159 (.t 2) 1),
  ro 22 (.ld 2 (.t 21)),
  ro 23 (.call (.f 65) [(.t 22), (.c (.int .i64 0)), (.c (.int .i64 8))]),
  ro 4 (.asg (.t 23))] (some [4])) .ret
def c218_27 : SC := .seq (.reg [ro 26 (.fa 159 (.t 2) 1),
  ro 27 (.ld 2 (.t 26)),
  ro 28 (.bn .eql 2 (.t 27) (.c (.int .i64 0))),
  ro 4 (.asg (.t 28))] (some [4])) .ret
def c218_26 : SC := .cond (.t 24) c218_27 .skip
def c218_24 : SC := .seq (.reg [ro 25 (.bn .eql 2 (.t 6) (.c (.int .i64 3))),
  ro 24 (.asg (.t 25))] (some [2, 24])) c218_26
def c218_20 : SC := .cond (.t 19) c218_21 c218_24
def c218_18 : SC := .seq (.reg [ro 20 (.bn .eql 2 (.t 6) (.c (.int .i64 2))),
  ro 19 (.asg (.t 20))] (some [2, 6, 19])) c218_20
def c218_14 : SC := .cond (.t 12) c218_15 c218_18
def c218_12 : SC := .seq (.reg [ro 13 (.bn .eql 2 (.t 6) (.c (.int .i64 1))),
  ro 12 (.asg (.t 13))] (some [1, 2, 6, 12])) c218_14
def c218_8 : SC := .cond (.t 7) c218_9 c218_12
def c218_5 : SC := .block 0 (.seq (.reg [ro 8 (.bn .eql 2 (.t 6) (.c (.int .i64 0))),
  ro 7 (.asg (.t 8))] (some [1, 2, 6, 7])) c218_8)
def c218_31 : SC := .seq (.reg [ro 4 (.asg (.c (.bool false)))] (some [4])) .ret
def c218_2 : SC := .seq (.seq (.reg [ro 5 (.fa 159 (.t 2) 0),
  ro 6 (.ld 2 (.t 5))] (some [1, 2, 6])) c218_5) c218_31
/-- (loop.example/g01075/impl.Term).valid -/
def c218 : SC := .seq (.reg [ro 2 (.bx 159 (.t 0)),
  ro 4 (.asg (.c (.bool false)))] (some [1, 2])) c218_2
theorem s218 : slimC ⟨29, [0, 1]⟩ (Tryz.f218.body.getD .skip) = some c218.strip := by kernel_rfl

def c219_9 : SC := .seq (.reg [ro 2 (.asg (.c (.int .i64 2)))] (some [2])) .ret
def c219_15 : SC := .seq (.reg [ro 2 (.asg (.c (.int .i64 1)))] (some [2])) .ret
def c219_14 : SC := .cond (.t 7) c219_15 .skip
def c219_12 : SC := .seq (.reg [ro 8 (.bn .eql 2 (.t 4) (.c (.int .i64 3))),
  ro 7 (.asg (.t 8))] (some [7])) c219_14
def c219_8 : SC := .cond (.t 5) c219_9 c219_12
def c219_5 : SC := .block 0 (.seq (.reg [ro 6 (.bn .eql 2 (.t 4) (.c (.int .i64 2))),
  ro 5 (.asg (.t 6))] (some [4, 5])) c219_8)
def c219_19 : SC := .seq (.reg [ro 2 (.asg (.c (.int .i64 0)))] (some [2])) .ret
def c219_2 : SC := .seq (.seq (.reg [ro 3 (.fa 159 (.t 1) 0),
  ro 4 (.ld 2 (.t 3))] (some [4])) c219_5) c219_19
/-- (loop.example/g01075/impl.Term).operands -/
def c219 : SC := .seq (.reg [ro 1 (.bx 159 (.t 0)),
  ro 2 (.asg (.c (.int .i64 0)))] (some [1])) c219_2
theorem s219 : slimC ⟨9, [0]⟩ (Tryz.f219.body.getD .skip) = some c219.strip := by kernel_rfl

def c171_6 : SC := .seq (.reg [ro 6 (.asg (.c (.bool false)))] (some [6])) .ret
def c171_5 : SC := .cond (.t 24) c171_6 .skip
def c171_31 : SC := .seq (.reg [ro 6 (.asg (.c (.bool false)))] (some [6])) .ret
def c171_30 : SC := .cond (.t 38) c171_31 .skip
def c171_35 : SC := .reg [ro 39 (.mv (.t 7)),
  ro 40 (.ld 159 (.t 9)),
  ro 41 (.call (.f 219) [(.t 40)]),
  ro 42 (.bn .sub 3 (.t 41) (.c (.int .i64 1))),
  ro 43 (.bn .add 3 (.t 39) (.t 42)),
  ro 7 (.asg (.t 43))] (some [1, 7, 25, 26, 27])
def c171_27 : SC := .seq (.seq (.reg [ro 31 (.mv (.t 7)),
  ro 32 (.bn .eql 3 (.t 31) (.c (.int .i64 0))),
  ro 33 (.mv (.t 32)),
  ⟨some 34, .ld 159 (.t 9), some (33, false)⟩,
  ⟨some 35, .mv (.t 1), some (33, false)⟩,
  ⟨some 36, .call (.f 218) [(.t 34), (.t 35)], some (33, false)⟩,
  ⟨some 37, .un .not (.t 36), some (33, false)⟩,
  ro 38 (.pick (.t 33) (.c (.bool true)) (.t 37))] (some [1, 7, 9, 25, 26, 27, 38])) c171_30) c171_35
def c171_36 : SC := .reg [ro 44 (.bn .add 3 (.t 27) (.c (.int .i64 1))),
  ro 27 (.mv (.t 44))] (some [1, 7, 25, 26, 27])
def c171_23 : SC := .seq (.block 1 (.seq (.reg [ro 29 (.ia 84 (.t 25) (.t 27)),
  ro 30 (.ld 159 (.t 29)),
  ro 9 (.alc 159),
  ⟨none, .sto 159 (.t 9) (.t 30), none⟩] (some [1, 7, 9, 25, 26, 27])) c171_27)) c171_36
def c171_19 : SC := .seq (.cond (.t 28) .skip (.exit 0)) c171_23
def c171_17 : SC := .seq (.reg [ro 28 (.bn .lss 3 (.t 27) (.t 26))] (some [1, 7, 25, 26, 27, 28])) c171_19
def c171_15 : SC := .block 0 (.loop c171_17)
def c171_37 : SC := .seq (.reg [ro 45 (.mv (.t 7)),
  ro 46 (.bn .eql 3 (.t 45) (.c (.int .i64 0))),
  ro 6 (.asg (.t 46))] (some [6])) .ret
def c171_12 : SC := .seq (.seq (.reg [ro 25 (.mv (.t 0)),
  ro 26 (.len 84 (.t 25)),
  ro 27 (.mv (.c (.int .i64 0)))] (some [1, 7, 25, 26, 27])) c171_15) c171_37
def c171_10 : SC := .seq (.reg [ro 7 (.asg (.c (.int .i64 1)))] (some [0, 1, 7])) c171_12
def c171_2 : SC := .seq (.seq (.reg [ro 10 (.mv (.t 1)),
  ro 11 (.call (.f 65) [(.t 10), (.c (.int .i64 0)), (.c (.int .i64 29))]),
  ro 12 (.un .not (.t 11)),
  ro 13 (.mv (.t 12)),
  ⟨some 14, .mv (.t 2), some (13, false)⟩,
  ⟨some 15, .call (.f 65) [(.t 14), (.c (.int .i64 1)), (.c (.int .i64 60))], some (13, false)⟩,
  ⟨some 16, .un .not (.t 15), some (13, false)⟩,
  ro 17 (.pick (.t 13) (.c (.bool true)) (.t 16)),
  ro 18 (.mv (.t 17)),
  ⟨some 19, .mv (.t 0), some (18, false)⟩,
  ⟨some 20, .len 84 (.t 19), some (18, false)⟩,
  ⟨some 21, .mv (.t 2), some (18, false)⟩,
  ⟨some 22, .call (.f 65) [(.t 20), (.c (.int .i64 1)), (.t 21)], some (18, false)⟩,
  ⟨some 23, .un .not (.t 22), some (18, false)⟩,
  ro 24 (.pick (.t 18) (.c (.bool true)) (.t 23))] (some [0, 1, 24])) c171_5) c171_10
/-- loop.example/g01075/impl.ValidTerms -/
def c171 : SC := .seq (.reg [ro 6 (.asg (.c (.bool false)))] (some [0, 1, 2])) c171_2
theorem s171 : slimC ⟨47, [0, 1, 2]⟩ (Tryz.f171.body.getD .skip) = some c171.strip := by kernel_rfl

def c231_2 : SC := .seq (.reg [ro 4 (.mv (.t 0)),
  ro 5 (.fa 204 (.t 1) 0),
  ro 6 (.ld 2 (.t 5)),
  ro 7 (.call (.f 171) [(.t 4), (.t 6), (.c (.int .i64 15))]),
  ro 8 (.un .not (.t 7)),
  ro 3 (.asg (.t 8))] (some [3])) .ret
/-- (loop.example/g01075/impl.Part).reason$1 -/
def c231 : SC := .seq (.reg [ro 3 (.asg (.c (.bool false)))] (some [0, 1])) c231_2
theorem s231 : slimC ⟨9, [0, 1]⟩ (Tryz.f231.body.getD .skip) = some c231.strip := by kernel_rfl

def c217_20 : SC := .seq (.reg [ro 17 (.mv (.t 5)),
  ro 4 (.asg (.t 17))] (some [4])) .ret
def c217_19 : SC := .cond (.t 16) c217_20 .skip
def c217_17 : SC := .seq (.reg [ro 11 (.mv (.t 1)),
  ro 12 (.mv (.t 0)),
  ro 13 (.mv (.t 5)),
  ro 14 (.ia 85 (.t 12) (.t 13)),
  ro 15 (.ld 84 (.t 14)),
  ro 16 (.call (.t 11) [(.t 15)])] (some [0, 1, 5, 7, 8, 16])) c217_19
def c217_24 : SC := .reg [ro 18 (.bn .add 3 (.t 8) (.c (.int .i64 1))),
  ro 8 (.mv (.t 18))] (some [0, 1, 7, 8])
def c217_13 : SC := .seq (.block 1 (.seq (.reg [ro 10 (.mv (.t 8)),
  ro 5 (.asg (.t 10))] (some [0, 1, 5, 7, 8])) c217_17)) c217_24
def c217_9 : SC := .seq (.cond (.t 9) .skip (.exit 0)) c217_13
def c217_7 : SC := .seq (.reg [ro 9 (.bn .lss 3 (.t 8) (.t 7))] (some [0, 1, 7, 8, 9])) c217_9
def c217_5 : SC := .block 0 (.loop c217_7)
def c217_25 : SC := .seq (.reg [ro 4 (.asg (.c (.int .i64 (-1))))] (some [4])) .ret
def c217_2 : SC := .seq (.seq (.reg [ro 6 (.mv (.t 0)),
  ro 7 (.len 85 (.t 6)),
  ro 8 (.mv (.c (.int .i64 0)))] (some [0, 1, 7, 8])) c217_5) c217_25
/-- slices.IndexFunc[[][]loop.example/g01075/impl.Term,[]loop.example/g01075/impl.Term] -/
def c217 : SC := .seq (.reg [ro 4 (.asg (.c (.int .i64 0)))] (some [0, 1])) c217_2
theorem s217 : slimC ⟨19, [0, 1]⟩ (Tryz.f217.body.getD .skip) = some c217.strip := by kernel_rfl

def c168_2 : SC := .seq (.reg [ro 5 (.mv (.t 0)),
  ro 6 (.mv (.t 1)),
  ro 7 (.call (.f 217) [(.t 5), (.t 6)]),
  ro 8 (.bn .geq 3 (.t 7) (.c (.int .i64 0))),
  ro 4 (.asg (.t 8))] (some [4])) .ret
/-- slices.ContainsFunc[[][]loop.example/g01075/impl.Term,[]loop.example/g01075/impl.Term] -/
def c168 : SC := .seq (.reg [ro 4 (.asg (.c (.bool false)))] (some [0, 1])) c168_2
theorem s168 : slimC ⟨9, [0, 1]⟩ (Tryz.f168.body.getD .skip) = some c168.strip := by kernel_rfl

def c189_7 : SC := .seq (.reg [ro 6 (.asg (.c (.int .i64 2)))] (some [6])) .ret
def c189_13 : SC := .seq (.reg [ro 6 (.asg (.c (.int .i64 3)))] (some [6])) .ret
def c189_19 : SC := .seq (.reg [ro 6 (.asg (.c (.int .i64 4)))] (some [6])) .ret
def c189_25 : SC := .seq (.reg [ro 6 (.asg (.c (.int .i64 5)))] (some [6])) .ret
def c189_31 : SC := .seq (.reg [ro 6 (.asg (.c (.int .i64 6)))] (some [6])) .ret
def c189_37 : SC := .seq (.reg [ro 6 (.asg (.c (.int .i64 7)))] (some [6])) .ret
def c189_43 : SC := .seq (.reg [ro 6 (.asg (.c (.int .i64 8)))] (some [6])) .ret
def c189_42 : SC := .cond (.t 72) c189_43 .skip
def c189_40 : SC := .seq (.reg [ro 73 (.fa 202 (.t 3) 3),
  ro 74 (.ld 85 (.t 73)),
  ro 75 (.mkf 231 [(.t 5)]),
  ro 76 (.call (.f 168) [(.t 74), (.t 75)]),
  ro 72 (.asg (.t 76))] (some [72])) c189_42
def c189_36 : SC := .cond (.t 63) c189_37 c189_40
def c189_34 : SC := .seq (.reg [ro 64 (.fa 202 (.t 3) 0),
  ro 65 (.ld 2 (.t 64)),
  ro 66 (.bn .eql 2 (.t 65) (.c (.int .i64 4))),
  ro 67 (.mv (.t 66)),
  ⟨some 68, .fa 204 (.t 5) 0, some (67, true)⟩,
  ⟨some 69, .ld 2 (.t 68), some (67, true)⟩,
  ⟨some 70, .bn .geq 2 (.t 69) (.c (.int .i64 6)), some (67, true)⟩,
  ro 71 (.pick (.t 67) (.t 70) (.c (.bool false))),
  ro 63 (.asg (.t 71))] (some [3, 5, 63])) c189_36
def c189_30 : SC := .cond (.t 54) c189_31 c189_34
def c189_28 : SC := .seq (.reg [ro 55 (.fa 202 (.t 3) 0),
  ro 56 (.ld 2 (.t 55)),
  ro 57 (.bn .eql 2 (.t 56) (.c (.int .i64 5))),
  ro 58 (.mv (.t 57)),
  ⟨some 59, .fa 204 (.t 5) 1, some (58, true)⟩,
  ⟨some 60, .ld 4 (.t 59), some (58, true)⟩,
  ⟨some 61, .un .not (.t 60), some (58, true)⟩,
  ro 62 (.pick (.t 58) (.t 61) (.c (.bool false))),
  ro 54 (.asg (.t 62))] (some [3, 5, 54])) c189_30
def c189_24 : SC := .cond (.t 49) c189_25 c189_28
def c189_22 : SC := .seq (.reg [ro 50 (.ld 202 (.t 3)),
  ro 51 (.mv (.t 1)),
  ro 52 (.call (.f 230) [(.t 50), (.t 51)]),
  ro 53 (.un .not (.t 52)),
  ro 49 (.asg (.t 53))] (some [3, 5, 49])) c189_24
def c189_18 : SC := .cond (.t 26) c189_19 c189_22
def c189_16 : SC := .seq (.reg [ro 27 (.fa 202 (.t 3) 0),
  ro 28 (.ld 2 (.t 27)),
  ro 29 (.bn .eql 2 (.t 28) (.c (.int .i64 4))),
  ro 30 (.mv (.t 29)),
  ⟨some 31, .fa 202 (.t 3) 1, some (30, true)⟩,
  ⟨some 32, .ld 2 (.t 31), some (30, true)⟩,
  ⟨some 33, .call (.f 65) [(.t 32), (.c (.int .i64 1)), (.c (.int .i64 7))], some (30, true)⟩,
  ⟨some 34, .un .not (.t 33), some (30, true)⟩,
  ro 35 (.pick (.t 30) (.t 34) (.c (.bool false))),
  ro 36 (.mv (.t 35)),
  ⟨some 37, .fa 202 (.t 3) 0, some (36, false)⟩,
  ⟨some 38, .ld 2 (.t 37), some (36, false)⟩,
  ⟨some 39, .bn .eql 2 (.t 38) (.c (.int .i64 5)), some (36, false)⟩,
  ⟨some 40, .mv (.t 39), some (36, false)⟩,
  ⟨some 41, .fa 202 (.t 3) 1, some (40, true)⟩,
  ⟨some 42, .ld 2 (.t 41), some (40, true)⟩,
  ⟨some 43, .mv (.t 1), some (40, true)⟩,
  ⟨some 44, .len 46 (.t 43), some (40, true)⟩,
  ⟨some 45, .call (.f 138) [(.t 42), (.t 44)], some (40, true)⟩,
  ⟨some 46, .un .not (.t 45), some (40, true)⟩,
  ⟨some 47, .pick (.t 40) (.t 46) (.c (.bool false)), some (36, false)⟩,
  ro 48 (.pick (.t 36) (.c (.bool true)) (.t 47)),
  ro 26 (.asg (.t 48))] (some [1, 3, 5, 26])) c189_18
def c189_12 : SC := .cond (.t 11) c189_13 c189_16
def c189_10 : SC := .seq (.reg [ro 12 (.fa 202 (.t 3) 0),
  ro 13 (.ld 2 (.t 12)),
  ro 14 (.bn .eql 2 (.t 13) (.c (.int .i64 1))),
  ro 15 (.mv (.t 14)),
  ⟨some 16, .fa 202 (.t 3) 2, some (15, true)⟩,
  ⟨some 17, .ld 9 (.t 16), some (15, true)⟩,
  ⟨some 18, .bn .neq 9 (.t 17) (.c (.str [116, 97, 117])), some (15, true)⟩,
  ro 19 (.pick (.t 15) (.t 18) (.c (.bool false))),
  ro 20 (.mv (.t 19)),
  ⟨some 21, .fa 202 (.t 3) 2, some (20, true)⟩,
  ⟨some 22, .ld 9 (.t 21), some (20, true)⟩,
  ⟨some 23, .call (.f 140) [(.t 22)], some (20, true)⟩,
  ⟨some 24, .un .not (.t 23), some (20, true)⟩,
  ro 25 (.pick (.t 20) (.t 24) (.c (.bool false))),
  ro 11 (.asg (.t 25))] (some [1, 3, 5, 11])) c189_12
def c189_6 : SC := .cond (.t 7) c189_7 c189_10
def c189_47 : SC := .seq (.reg [ro 6 (.asg (.c (.int .i64 0)))] (some [6])) .ret
def c189_2 : SC := .seq (.block 0 (.seq (.reg [ro 8 (.ld 202 (.t 3)),
  ro 9 (.call (.f 229) [(.t 8)]),
  ro 10 (.un .not (.t 9)),
  ro 7 (.asg (.t 10))] (some [1, 3, 5, 7])) c189_6)) c189_47
/-- (loop.example/g01075/impl.Part).reason -/
def c189 : SC := .seq (.reg [ro 3 (.bx 202 (.t 0)),
  ro 5 (.bx 204 (.t 2)),
  ro 6 (.asg (.c (.int .i64 0)))] (some [1, 3, 5])) c189_2
theorem s189 : slimC ⟨77, [0, 1, 2]⟩ (Tryz.f189.body.getD .skip) = some c189.strip := by kernel_rfl

def c136_6 : SC := .seq (.reg [ro 4 (.asg (.c (.int .i64 0))),
  ro 5 (.asg (.c (.int .i64 1)))] (some [4, 5])) .ret
def c136_5 : SC := .cond (.t 22) c136_6 .skip
def c136_32 : SC := .seq (.reg [ro 42 (.mv (.t 7)),
  ro 43 (.mv (.t 9)),
  ro 4 (.asg (.t 42)),
  ro 5 (.asg (.t 43))] (some [4, 5])) .ret
def c136_31 : SC := .cond (.t 41) c136_32 .skip
def c136_29 : SC := .seq (.reg [ro 40 (.mv (.t 9)),
  ro 41 (.bn .neq 2 (.t 40) (.c (.int .i64 0)))] (some [0, 6, 7, 9, 26, 27, 28, 41])) c136_31
def c136_27 : SC := .seq (.drw [ro 33 (.ld 202 (.t 8)),
  ro 34 (.mv (.t 0)),
  ro 35 (.mv (.t 6)),
  ro 36 (.mv (.t 7)),
  ro 37 (.ia 205 (.t 35) (.t 36)),
  ro 38 (.ld 204 (.t 37)),
  ro 39 (.call (.f 189) [(.t 33), (.t 34), (.t 38)]),
  ro 9 (.asg (.t 39))] [[], [], [], [], [2, 3], [4], [0, 1, 5], [6, 6, 0, 1, 2, 3, 4, 5, 6]] (some [0, 6, 7, 9, 26, 27, 28])) c136_29
def c136_36 : SC := .reg [ro 44 (.bn .add 3 (.t 28) (.c (.int .i64 1))),
  ro 28 (.mv (.t 44))] (some [0, 6, 26, 27, 28])
def c136_23 : SC := .seq (.block 1 (.seq (.reg [ro 30 (.mv (.t 28)),
  ro 31 (.ia 176 (.t 26) (.t 28)),
  ro 32 (.ld 202 (.t 31)),
  ro 8 (.alc 202),
  ro 7 (.asg (.t 30)),
  ⟨none, .sto 202 (.t 8) (.t 32), none⟩] (some [0, 6, 7, 8, 26, 27, 28])) c136_27)) c136_36
def c136_19 : SC := .seq (.cond (.t 29) .skip (.exit 0)) c136_23
def c136_17 : SC := .seq (.reg [ro 29 (.bn .lss 3 (.t 28) (.t 27))] (some [0, 6, 26, 27, 28, 29])) c136_19
def c136_15 : SC := .block 0 (.loop c136_17)
def c136_37 : SC := .seq (.reg [ro 4 (.asg (.c (.int .i64 0))),
  ro 5 (.asg (.c (.int .i64 0)))] (some [4, 5])) .ret
def c136_12 : SC := .seq (.seq (.reg [ro 25 (.fa 178 (.t 3) 2),
  ro 26 (.ld 176 (.t 25)),
  ro 27 (.len 176 (.t 26)),
  ro 28 (.mv (.c (.int .i64 0)))] (some [0, 6, 26, 27, 28])) c136_15) c136_37
def c136_10 : SC := .seq (.reg [ro 23 (.ld 178 (.t 3)),
  ro 24 (.call (.f 155) [(.t 23)]),
  ro 6 (.asg (.t 24))] (some [0, 3, 6])) c136_12
def c136_2 : SC := .seq (.seq (.drw [ro 10 (.fa 178 (.t 3) 2),
  ro 11 (.ld 176 (.t 10)),
  ro 12 (.len 176 (.t 11)),
  ro 13 (.call (.f 65) [(.t 12), (.c (.int .i64 1)), (.c (.int .i64 20))]),
  ro 14 (.un .not (.t 13)),
  ro 15 (.mv (.t 14)),
  ⟨some 16, .ld 178 (.t 3), some (15, false)⟩,
  ⟨some 17, .call (.f 188) [(.t 16), (.c (.int .i64 0))], some (15, false)⟩,
  ⟨some 18, .fa 178 (.t 3) 2, some (15, false)⟩,
  ⟨some 19, .ld 176 (.t 18), some (15, false)⟩,
  ⟨some 20, .len 176 (.t 19), some (15, false)⟩,
  ⟨some 21, .bn .neq 3 (.t 17) (.t 20), some (15, false)⟩,
  ro 22 (.pick (.t 15) (.c (.bool true)) (.t 21))] [[], [0], [1], [2], [3], [4, 3], [5], [6, 5, 5], [5], [8, 5], [9, 5], [7, 10, 5], [5, 11]] (some [0, 3, 22])) c136_5) c136_10
/-- loop.example/g01075/impl.bodyFault -/
def c136 : SC := .seq (.reg [ro 3 (.bx 178 (.t 1)),
  ro 4 (.asg (.c (.int .i64 0))),
  ro 5 (.asg (.c (.int .i64 0)))] (some [0, 3])) c136_2
theorem s136 : slimC ⟨45, [0, 1]⟩ (Tryz.f136.body.getD .skip) = some c136.strip := by kernel_rfl

def c64_6 : SC := .seq (.reg [ro 2 (.asg (.c (.bool false)))] (some [2])) .ret
def c64_5 : SC := .cond (.t 15) c64_6 .skip
def c64_29 : SC := .seq (.reg [ro 2 (.asg (.c (.bool false)))] (some [2])) .ret
def c64_28 : SC := .cond (.t 35) c64_29 .skip
def c64_38 : SC := .seq (.reg [ro 2 (.asg (.c (.bool false)))] (some [2])) .ret
def c64_37 : SC := .cond (.t 43) c64_38 .skip
def c64_35 : SC := .seq (.reg [ro 42 (.mv (.t 6)),
  ro 43 (.bn .neq 2 (.t 42) (.c (.int .i64 0)))] (some [0, 16, 17, 18, 43])) c64_37
def c64_33 : SC := .seq (.reg [ro 37 (.mv (.t 0)),
  ro 38 (.ld 178 (.t 4)),
  ro 39 (.call (.f 136) [(.t 37), (.t 38)]),
  ro 36 (.mv (.t 39)),
  ro 40 (.ex (.t 36) 0),
  ro 41 (.ex (.t 36) 1),
  ro 5 (.asg (.t 40)),
  ro 6 (.asg (.t 41))] (some [0, 6, 16, 17, 18])) c64_35
def c64_25 : SC := .seq (.seq (.drw [ro 23 (.fa 178 (.t 4) 0),
  ro 24 (.ld 9 (.t 23)),
  ro 25 (.call (.f 134) [(.t 24)]),
  ro 26 (.un .not (.t 25)),
  ro 27 (.mv (.t 26)),
  ⟨some 28, .mv (.t 0), some (27, false)⟩,
  ⟨some 29, .mv (.t 3), some (27, false)⟩,
  ⟨some 30, .slc 46 (.t 28) none (some (.t 29)), some (27, false)⟩,
  ⟨some 31, .fa 178 (.t 4) 0, some (27, false)⟩,
  ⟨some 32, .ld 9 (.t 31), some (27, false)⟩,
  ⟨some 33, .call (.f 135) [(.t 30), (.t 32)], some (27, false)⟩,
  ⟨some 34, .bn .geq 3 (.t 33) (.c (.int .i64 0)), some (27, false)⟩,
  ro 35 (.pick (.t 27) (.c (.bool true)) (.t 34))] [[], [0], [1], [2], [3, 2], [4], [4], [5, 6, 4], [4], [8, 4], [7, 9, 4, 4], [10, 4], [4, 11]] (some [0, 4, 16, 17, 18, 35])) c64_28) c64_33
def c64_42 : SC := .reg [ro 44 (.bn .add 3 (.t 18) (.c (.int .i64 1))),
  ro 18 (.mv (.t 44))] (some [0, 16, 17, 18])
def c64_21 : SC := .seq (.block 1 (.seq (.reg [ro 20 (.mv (.t 18)),
  ro 21 (.ia 46 (.t 16) (.t 18)),
  ro 22 (.ld 178 (.t 21)),
  ro 4 (.alc 178),
  ro 3 (.asg (.t 20)),
  ⟨none, .sto 178 (.t 4) (.t 22), none⟩] (some [0, 3, 4, 16, 17, 18])) c64_25)) c64_42
def c64_17 : SC := .seq (.cond (.t 19) .skip (.exit 0)) c64_21
def c64_15 : SC := .seq (.reg [ro 19 (.bn .lss 3 (.t 18) (.t 17))] (some [0, 16, 17, 18, 19])) c64_17
def c64_13 : SC := .block 0 (.loop c64_15)
def c64_43 : SC := .seq (.reg [ro 2 (.asg (.c (.bool true)))] (some [2])) .ret
def c64_10 : SC := .seq (.seq (.reg [ro 16 (.mv (.t 0)),
  ro 17 (.len 46 (.t 16)),
  ro 18 (.mv (.c (.int .i64 0)))] (some [0, 16, 17, 18])) c64_13) c64_43
def c64_2 : SC := .seq (.seq (.reg [ro 7 (.mv (.t 0)),
  ro 8 (.len 46 (.t 7)),
  ro 9 (.call (.f 65) [(.t 8), (.c (.int .i64 1)), (.c (.int .i64 4))]),
  ro 10 (.un .not (.t 9)),
  ro 11 (.mv (.t 10)),
  ⟨some 12, .mv (.t 0), some (11, false)⟩,
  ⟨some 13, .call (.f 133) [(.t 12)], some (11, false)⟩,
  ⟨some 14, .un .not (.t 13), some (11, false)⟩,
  ro 15 (.pick (.t 11) (.c (.bool true)) (.t 14))] (some [0, 15])) c64_5) c64_10
/-- loop.example/g01075/impl.ValidDefinitions -/
def c64 : SC := .seq (.reg [ro 2 (.asg (.c (.bool false)))] (some [0])) c64_2
theorem s64 : slimC ⟨45, [0]⟩ (Tryz.f64.body.getD .skip) = some c64.strip := by kernel_rfl

def c191_2 : SC := .seq (.reg [ro 3 (.mv (.t 0)),
  ro 4 (.call (.f 192) [(.t 3)]),
  ro 5 (.un .not (.t 4)),
  ro 2 (.asg (.t 5))] (some [2])) .ret
/-- loop.example/g01075/impl.areValues$1 -/
def c191 : SC := .seq (.reg [ro 2 (.asg (.c (.bool false)))] (some [0])) c191_2
theorem s191 : slimC ⟨6, [0]⟩ (Tryz.f191.body.getD .skip) = some c191.strip := by kernel_rfl

def c172_20 : SC := .seq (.reg [ro 17 (.mv (.t 5)),
  ro 4 (.asg (.t 17))] (some [4])) .ret
def c172_19 : SC := .cond (.t 16) c172_20 .skip
def c172_17 : SC := .seq (.reg [ro 11 (.mv (.t 1)),
  ro 12 (.mv (.t 0)),
  ro 13 (.mv (.t 5)),
  ro 14 (.ia 22 (.t 12) (.t 13)),
  ro 15 (.ld 2 (.t 14)),
  ro 16 (.call (.t 11) [(.t 15)])] (some [0, 1, 5, 7, 8, 16])) c172_19
def c172_24 : SC := .reg [ro 18 (.bn .add 3 (.t 8) (.c (.int .i64 1))),
  ro 8 (.mv (.t 18))] (some [0, 1, 7, 8])
def c172_13 : SC := .seq (.block 1 (.seq (.reg [ro 10 (.mv (.t 8)),
  ro 5 (.asg (.t 10))] (some [0, 1, 5, 7, 8])) c172_17)) c172_24
def c172_9 : SC := .seq (.cond (.t 9) .skip (.exit 0)) c172_13
def c172_7 : SC := .seq (.reg [ro 9 (.bn .lss 3 (.t 8) (.t 7))] (some [0, 1, 7, 8, 9])) c172_9
def c172_5 : SC := .block 0 (.loop c172_7)
def c172_25 : SC := .seq (.reg [ro 4 (.asg (.c (.int .i64 (-1))))] (some [4])) .ret
def c172_2 : SC := .seq (.seq (.reg [ro 6 (.mv (.t 0)),
  ro 7 (.len 22 (.t 6)),
  ro 8 (.mv (.c (.int .i64 0)))] (some [0, 1, 7, 8])) c172_5) c172_25
/-- slices.IndexFunc[[]int64,int64] -/
def c172 : SC := .seq (.reg [ro 4 (.asg (.c (.int .i64 0)))] (some [0, 1])) c172_2
theorem s172 : slimC ⟨19, [0, 1]⟩ (Tryz.f172.body.getD .skip) = some c172.strip := by kernel_rfl

def c190_2 : SC := .seq (.reg [ro 5 (.mv (.t 0)),
  ro 6 (.mv (.t 1)),
  ro 7 (.call (.f 172) [(.t 5), (.t 6)]),
  ro 8 (.bn .geq 3 (.t 7) (.c (.int .i64 0))),
  ro 4 (.asg (.t 8))] (some [4])) .ret
/-- slices.ContainsFunc[[]int64,int64] -/
def c190 : SC := .seq (.reg [ro 4 (.asg (.c (.bool false)))] (some [0, 1])) c190_2
theorem s190 : slimC ⟨9, [0, 1]⟩ (Tryz.f190.body.getD .skip) = some c190.strip := by kernel_rfl

def c139_2 : SC := .seq (.reg [ro 3 (.mv (.t 0)),
  ro 4 (.call (.f 190) [(.t 3), (.f 191)]),
  ro 5 (.un .not (.t 4)),
  ro 2 (.asg (.t 5))] (some [2])) .ret
/-- loop.example/g01075/impl.areValues -/
def c139 : SC := .seq (.reg [ro 2 (.asg (.c (.bool false)))] (some [0])) c139_2
theorem s139 : slimC ⟨6, [0]⟩ (Tryz.f139.body.getD .skip) = some c139.strip := by kernel_rfl

def c68_2 : SC := .seq (.drw [ro 5 (.fa 105 (.t 3) 0),
  ro 6 (.ld 2 (.t 5)),
  ro 7 (.mv (.t 0)),
  ro 8 (.len 46 (.t 7)),
  ro 9 (.call (.f 138) [(.t 6), (.t 8)]),
  ro 10 (.mv (.t 9)),
  ⟨some 11, .fa 105 (.t 3) 1, some (10, true)⟩,
  ⟨some 12, .ld 22 (.t 11), some (10, true)⟩,
  ⟨some 13, .len 22 (.t 12), some (10, true)⟩,
  ⟨some 14, .mv (.t 0), some (10, true)⟩,
  ⟨some 15, .fa 105 (.t 3) 0, some (10, true)⟩,
  ⟨some 16, .ld 2 (.t 15), some (10, true)⟩,
  ⟨some 17, .ia 46 (.t 14) (.t 16), some (10, true)⟩,
  ⟨some 18, .fa 178 (.t 17) 1, some (10, true)⟩,
  ⟨some 19, .ld 2 (.t 18), some (10, true)⟩,
  ⟨some 20, .bn .eql 2 (.t 13) (.t 19), some (10, true)⟩,
  ro 21 (.pick (.t 10) (.t 20) (.c (.bool false))),
  ro 22 (.mv (.t 21)),
  ⟨some 23, .fa 105 (.t 3) 1, some (22, true)⟩,
  ⟨some 24, .ld 22 (.t 23), some (22, true)⟩,
  ⟨some 25, .call (.f 139) [(.t 24)], some (22, true)⟩,
  ro 26 (.pick (.t 22) (.t 25) (.c (.bool false))),
  ro 4 (.asg (.t 26))] [[], [0], [], [2], [1, 3], [4, 4], [5], [6, 5], [7, 5], [5], [5], [10, 5], [9, 11, 5], [12, 5], [13, 5], [8, 14, 5], [5, 15], [16, 5], [17], [18, 17], [19, 17, 17], [17, 20], [21, 20, 0, 1, 2, 3, 4, 5, 6, 7, 8, 9, 10, 11, 12, 13, 14, 15, 16, 17, 18, 19, 20, 21]] (some [4])) .ret
/-- loop.example/g01075/impl.componentOk -/
def c68 : SC := .seq (.reg [ro 3 (.bx 105 (.t 1)),
  ro 4 (.asg (.c (.bool false)))] (some [0, 3])) c68_2
theorem s68 : slimC ⟨27, [0, 1]⟩ (Tryz.f68.body.getD .skip) = some c68.strip := by kernel_rfl

def c67_2 : SC := .seq (.reg [ro 4 (.fa 50 (.t 1) 0),
  ro 5 (.ld 46 (.t 4)),
  ro 6 (.ld 105 (.t 2)),
  ro 7 (.call (.f 68) [(.t 5), (.t 6)]),
  ro 8 (.un .not (.t 7)),
  ro 3 (.asg (.t 8))] (some [3])) .ret
/-- loop.example/g01075/impl.SystemFault$1 -/
def c67 : SC := .seq (.reg [ro 2 (.bx 105 (.t 0)),
  ro 3 (.asg (.c (.bool false)))] (some [1, 2])) c67_2
theorem s67 : slimC ⟨9, [0, 1]⟩ (Tryz.f67.body.getD .skip) = some c67.strip := by kernel_rfl

def c137_20 : SC := .seq (.reg [ro 17 (.mv (.t 5)),
  ro 4 (.asg (.t 17))] (some [4])) .ret
def c137_19 : SC := .cond (.t 16) c137_20 .skip
def c137_17 : SC := .seq (.reg [ro 11 (.mv (.t 1)),
  ro 12 (.mv (.t 0)),
  ro 13 (.mv (.t 5)),
  ro 14 (.ia 47 (.t 12) (.t 13)),
  ro 15 (.ld 105 (.t 14)),
  ro 16 (.call (.t 11) [(.t 15)])] (some [0, 1, 5, 7, 8, 16])) c137_19
def c137_24 : SC := .reg [ro 18 (.bn .add 3 (.t 8) (.c (.int .i64 1))),
  ro 8 (.mv (.t 18))] (some [0, 1, 7, 8])
def c137_13 : SC := .seq (.block 1 (.seq (.reg [ro 10 (.mv (.t 8)),
  ro 5 (.asg (.t 10))] (some [0, 1, 5, 7, 8])) c137_17)) c137_24
def c137_9 : SC := .seq (.cond (.t 9) .skip (.exit 0)) c137_13
def c137_7 : SC := .seq (.reg [ro 9 (.bn .lss 3 (.t 8) (.t 7))] (some [0, 1, 7, 8, 9])) c137_9
def c137_5 : SC := .block 0 (.loop c137_7)
def c137_25 : SC := .seq (.reg [ro 4 (.asg (.c (.int .i64 (-1))))] (some [4])) .ret
def c137_2 : SC := .seq (.seq (.reg [ro 6 (.mv (.t 0)),
  ro 7 (.len 47 (.t 6)),
  ro 8 (.mv (.c (.int .i64 0)))] (some [0, 1, 7, 8])) c137_5) c137_25
/-- slices.IndexFunc[[]loop.example/g01075/impl.Component,loop.example/g01075/impl.Component] -/
def c137 : SC := .seq (.reg [ro 4 (.asg (.c (.int .i64 0)))] (some [0, 1])) c137_2
theorem s137 : slimC ⟨19, [0, 1]⟩ (Tryz.f137.body.getD .skip) = some c137.strip := by kernel_rfl

def c66_2 : SC := .seq (.reg [ro 5 (.mv (.t 0)),
  ro 6 (.mv (.t 1)),
  ro 7 (.call (.f 137) [(.t 5), (.t 6)]),
  ro 8 (.bn .geq 3 (.t 7) (.c (.int .i64 0))),
  ro 4 (.asg (.t 8))] (some [4])) .ret
/-- slices.ContainsFunc[[]loop.example/g01075/impl.Component,loop.example/g01075/impl.Component] -/
def c66 : SC := .seq (.reg [ro 4 (.asg (.c (.bool false)))] (some [0, 1])) c66_2
theorem s66 : slimC ⟨9, [0, 1]⟩ (Tryz.f66.body.getD .skip) = some c66.strip := by kernel_rfl

def c245_2 : SC := .seq (.reg [ro 3 (.mv (.t 0)),
  ro 4 (.mv (.t 0)),
  ro 5 (.bn .neq 9 (.t 3) (.t 4)),
  ro 2 (.asg (.t 5))] (some [2])) .ret
/-- cmp.isNaN[string] -/
def c245 : SC := .seq (.reg [ro 2 (.asg (.c (.bool false)))] (some [0])) c245_2
theorem s245 : slimC ⟨6, [0]⟩ (Tryz.f245.body.getD .skip) = some c245.strip := by kernel_rfl

def c232_14 : SC := .seq (.reg [ro 4 (.asg (.c (.int .i64 0)))] (some [4])) .ret
def c232_13 : SC := .cond (.t 12) c232_14 .skip
def c232_18 : SC := .seq (.reg [ro 4 (.asg (.c (.int .i64 (-1))))] (some [4])) .ret
def c232_10 : SC := .seq (.seq (.reg [ro 12 (.mv (.t 6))] (some [12])) c232_13) c232_18
def c232_9 : SC := .cond (.t 11) c232_10 .skip
def c232_26 : SC := .seq (.reg [ro 4 (.asg (.c (.int .i64 1)))] (some [4])) .ret
def c232_25 : SC := .cond (.t 13) c232_26 .skip
def c232_34 : SC := .seq (.reg [ro 4 (.asg (.c (.int .i64 (-1))))] (some [4])) .ret
def c232_33 : SC := .cond (.t 16) c232_34 .skip
def c232_42 : SC := .seq (.reg [ro 4 (.asg (.c (.int .i64 1)))] (some [4])) .ret
def c232_41 : SC := .cond (.t 19) c232_42 .skip
def c232_46 : SC := .seq (.reg [ro 4 (.asg (.c (.int .i64 0)))] (some [4])) .ret
def c232_38 : SC := .seq (.seq (.reg [ro 17 (.mv (.t 0)),
  ro 18 (.mv (.t 1)),
  ro 19 (.bn .gtr 9 (.t 17) (.t 18))] (some [19])) c232_41) c232_46
def c232_30 : SC := .seq (.seq (.reg [ro 14 (.mv (.t 0)),
  ro 15 (.mv (.t 1)),
  ro 16 (.bn .lss 9 (.t 14) (.t 15))] (some [0, 1, 16])) c232_33) c232_38
def c232_22 : SC := .seq (.seq (.reg [ro 13 (.mv (.t 6))] (some [0, 1, 13])) c232_25) c232_30
def c232_6 : SC := .seq (.seq (.reg [ro 11 (.mv (.t 5))] (some [0, 1, 6, 11])) c232_9) c232_22
def c232_4 : SC := .seq (.reg [ro 9 (.mv (.t 1)),
  ro 10 (.call (.f 245) [(.t 9)]),
  ro 6 (.asg (.t 10))] (some [0, 1, 5, 6])) c232_6
def c232_2 : SC := .seq (.reg [ro 7 (.mv (.t 0)),
  ro 8 (.call (.f 245) [(.t 7)]),
  ro 5 (.asg (.t 8))] (some [0, 1, 5])) c232_4
/-- cmp.Compare[string] -/
def c232 : SC := .seq (.reg [ro 4 (.asg (.c (.int .i64 0)))] (some [0, 1])) c232_2
theorem s232 : slimC ⟨20, [0, 1]⟩ (Tryz.f232.body.getD .skip) = some c232.strip := by kernel_rfl

def c193_21 : SC := .seq (.reg [ro 4 (.asg (.c (.int .i64 1)))] (some [4])) .ret
def c193_20 : SC := .cond (.t 19) c193_21 .skip
def c193_32 : SC := .seq (.reg [ro 29 (.mv (.t 8)),
  ro 4 (.asg (.t 29))] (some [4])) .ret
def c193_31 : SC := .cond (.t 28) c193_32 .skip
def c193_29 : SC := .seq (.reg [ro 27 (.mv (.t 8)),
  ro 28 (.bn .neq 3 (.t 27) (.c (.int .i64 0)))] (some [0, 1, 8, 9, 10, 11, 28])) c193_31
def c193_27 : SC := .seq (.reg [ro 24 (.mv (.t 6)),
  ro 25 (.mv (.t 7)),
  ro 26 (.call (.f 232) [(.t 24), (.t 25)]),
  ro 8 (.asg (.t 26))] (some [0, 1, 8, 9, 10, 11])) c193_29
def c193_25 : SC := .seq (.reg [ro 20 (.mv (.t 1)),
  ro 21 (.mv (.t 5)),
  ro 22 (.ia 41 (.t 20) (.t 21)),
  ro 23 (.ld 9 (.t 22)),
  ro 7 (.asg (.t 23))] (some [0, 1, 6, 7, 9, 10, 11])) c193_27
def c193_17 : SC := .seq (.seq (.reg [ro 16 (.mv (.t 5)),
  ro 17 (.mv (.t 1)),
  ro 18 (.len 41 (.t 17)),
  ro 19 (.bn .geq 3 (.t 16) (.t 18))] (some [0, 1, 5, 6, 9, 10, 11, 19])) c193_20) c193_25
def c193_36 : SC := .reg [ro 30 (.bn .add 3 (.t 11) (.c (.int .i64 1))),
  ro 11 (.mv (.t 30))] (some [0, 1, 9, 10, 11])
def c193_13 : SC := .seq (.block 1 (.seq (.reg [ro 13 (.mv (.t 11)),
  ro 14 (.ia 41 (.t 9) (.t 11)),
  ro 15 (.ld 9 (.t 14)),
  ro 5 (.asg (.t 13)),
  ro 6 (.asg (.t 15))] (some [0, 1, 5, 6, 9, 10, 11])) c193_17)) c193_36
def c193_9 : SC := .seq (.cond (.t 12) .skip (.exit 0)) c193_13
def c193_7 : SC := .seq (.reg [ro 12 (.bn .lss 3 (.t 11) (.t 10))] (some [0, 1, 9, 10, 11, 12])) c193_9
def c193_5 : SC := .block 0 (.loop c193_7)
def c193_41 : SC := .seq (.reg [ro 4 (.asg (.c (.int .i64 (-1))))] (some [4])) .ret
def c193_40 : SC := .cond (.t 35) c193_41 .skip
def c193_45 : SC := .seq (.reg [ro 4 (.asg (.c (.int .i64 0)))] (some [4])) .ret
def c193_37 : SC := .seq (.seq (.reg [ro 31 (.mv (.t 0)),
  ro 32 (.len 41 (.t 31)),
  ro 33 (.mv (.t 1)),
  ro 34 (.len 41 (.t 33)),
  ro 35 (.bn .lss 3 (.t 32) (.t 34))] (some [35])) c193_40) c193_45
def c193_2 : SC := .seq (.seq (.reg [ro 9 (.mv (.t 0)),
  ro 10 (.len 41 (.t 9)),
  ro 11 (.mv (.c (.int .i64 0)))] (some [0, 1, 9, 10, 11])) c193_5) c193_37
/-- slices.Compare[[]string,string] -/
def c193 : SC := .seq (.reg [ro 4 (.asg (.c (.int .i64 0)))] (some [0, 1])) c193_2
theorem s193 : slimC ⟨36, [0, 1]⟩ (Tryz.f193.body.getD .skip) = some c193.strip := by kernel_rfl

def c141_2 : SC := .seq (.reg [ro 5 (.fa 119 (.t 2) 0),
  ro 6 (.ld 9 (.t 5)),
  ro 7 (.fa 119 (.t 2) 1),
  ro 8 (.ld 9 (.t 7)),
  ro 9 (.bsl 41 2 [(0, (.t 6)), (1, (.t 8))]),
  ro 10 (.fa 119 (.t 3) 0),
  ro 11 (.ld 9 (.t 10)),
  ro 12 (.fa 119 (.t 3) 1),
  ro 13 (.ld 9 (.t 12)),
  ro 14 (.bsl 41 2 [(0, (.t 11)), (1, (.t 13))]),
  ro 15 (.call (.f 193) [(.t 9), (.t 14)]),
  ro 4 (.asg (.t 15))] (some [4])) .ret
/-- loop.example/g01075/impl.compareMeetings -/
def c141 : SC := .seq (.reg [ro 2 (.bx 119 (.t 0)),
  ro 3 (.bx 119 (.t 1)),
  ro 4 (.asg (.c (.int .i64 0)))] (some [2, 3])) c141_2
theorem s141 : slimC ⟨16, [0, 1]⟩ (Tryz.f141.body.getD .skip) = some c141.strip := by kernel_rfl

def c143_2 : SC := .seq (.reg [ro 4 (.fa 119 (.t 2) 0),
  ro 5 (.ld 9 (.t 4)),
  ro 6 (.fa 119 (.t 1) 2),
  ro 7 (.ld 9 (.t 6)),
  ro 8 (.bn .eql 9 (.t 5) (.t 7)),
  ro 9 (.mv (.t 8)),
  ⟨some 10, .fa 119 (.t 2) 1, some (9, false)⟩,
  ⟨some 11, .ld 9 (.t 10), some (9, false)⟩,
  ⟨some 12, .fa 119 (.t 1) 2, some (9, false)⟩,
  ⟨some 13, .ld 9 (.t 12), some (9, false)⟩,
  ⟨some 14, .bn .eql 9 (.t 11) (.t 13), some (9, false)⟩,
  ro 15 (.pick (.t 9) (.c (.bool true)) (.t 14)),
  ro 3 (.asg (.t 15))] (some [3])) .ret
/-- loop.example/g01075/impl.meetingsOk$1 -/
def c143 : SC := .seq (.reg [ro 2 (.bx 119 (.t 0)),
  ro 3 (.asg (.c (.bool false)))] (some [1, 2])) c143_2
theorem s143 : slimC ⟨16, [0, 1]⟩ (Tryz.f143.body.getD .skip) = some c143.strip := by kernel_rfl

def c151_20 : SC := .seq (.reg [ro 17 (.mv (.t 5)),
  ro 4 (.asg (.t 17))] (some [4])) .ret
def c151_19 : SC := .cond (.t 16) c151_20 .skip
def c151_17 : SC := .seq (.reg [ro 11 (.mv (.t 1)),
  ro 12 (.mv (.t 0)),
  ro 13 (.mv (.t 5)),
  ro 14 (.ia 48 (.t 12) (.t 13)),
  ro 15 (.ld 119 (.t 14)),
  ro 16 (.call (.t 11) [(.t 15)])] (some [0, 1, 5, 7, 8, 16])) c151_19
def c151_24 : SC := .reg [ro 18 (.bn .add 3 (.t 8) (.c (.int .i64 1))),
  ro 8 (.mv (.t 18))] (some [0, 1, 7, 8])
def c151_13 : SC := .seq (.block 1 (.seq (.reg [ro 10 (.mv (.t 8)),
  ro 5 (.asg (.t 10))] (some [0, 1, 5, 7, 8])) c151_17)) c151_24
def c151_9 : SC := .seq (.cond (.t 9) .skip (.exit 0)) c151_13
def c151_7 : SC := .seq (.reg [ro 9 (.bn .lss 3 (.t 8) (.t 7))] (some [0, 1, 7, 8, 9])) c151_9
def c151_5 : SC := .block 0 (.loop c151_7)
def c151_25 : SC := .seq (.reg [ro 4 (.asg (.c (.int .i64 (-1))))] (some [4])) .ret
def c151_2 : SC := .seq (.seq (.reg [ro 6 (.mv (.t 0)),
  ro 7 (.len 48 (.t 6)),
  ro 8 (.mv (.c (.int .i64 0)))] (some [0, 1, 7, 8])) c151_5) c151_25
/-- slices.IndexFunc[[]loop.example/g01075/impl.Meeting,loop.example/g01075/impl.Meeting] -/
def c151 : SC := .seq (.reg [ro 4 (.asg (.c (.int .i64 0)))] (some [0, 1])) c151_2
theorem s151 : slimC ⟨19, [0, 1]⟩ (Tryz.f151.body.getD .skip) = some c151.strip := by kernel_rfl

def c142_2 : SC := .seq (.reg [ro 5 (.mv (.t 0)),
  ro 6 (.mv (.t 1)),
  ro 7 (.call (.f 151) [(.t 5), (.t 6)]),
  ro 8 (.bn .geq 3 (.t 7) (.c (.int .i64 0))),
  ro 4 (.asg (.t 8))] (some [4])) .ret
/-- slices.ContainsFunc[[]loop.example/g01075/impl.Meeting,loop.example/g01075/impl.Meeting] -/
def c142 : SC := .seq (.reg [ro 4 (.asg (.c (.bool false)))] (some [0, 1])) c142_2
theorem s142 : slimC ⟨9, [0, 1]⟩ (Tryz.f142.body.getD .skip) = some c142.strip := by kernel_rfl

def c69_21 : SC := .seq (.reg [ro 2 (.asg (.c (.bool false)))] (some [2])) .ret
def c69_20 : SC := .cond (.t 48) c69_21 .skip
def c69_28 : SC := .seq (.reg [ro 2 (.asg (.c (.bool false)))] (some [2])) .ret
def c69_27 : SC := .cond (.t 51) c69_28 .skip
def c69_25 : SC := .seq (.reg [ro 49 (.mv (.t 0)),
  ro 50 (.mkf 143 [(.t 4)]),
  ro 51 (.call (.f 142) [(.t 49), (.t 50)])] (some [0, 5, 6, 7, 51])) c69_27
def c69_17 : SC := .seq (.seq (.drw [ro 12 (.fa 119 (.t 4) 0),
  ro 13 (.ld 9 (.t 12)),
  ro 14 (.call (.f 140) [(.t 13)]),
  ro 15 (.un .not (.t 14)),
  ro 16 (.mv (.t 15)),
  ⟨some 17, .fa 119 (.t 4) 1, some (16, false)⟩,
  ⟨some 18, .ld 9 (.t 17), some (16, false)⟩,
  ⟨some 19, .call (.f 140) [(.t 18)], some (16, false)⟩,
  ⟨some 20, .un .not (.t 19), some (16, false)⟩,
  ro 21 (.pick (.t 16) (.c (.bool true)) (.t 20)),
  ro 22 (.mv (.t 21)),
  ⟨some 23, .fa 119 (.t 4) 2, some (22, false)⟩,
  ⟨some 24, .ld 9 (.t 23), some (22, false)⟩,
  ⟨some 25, .call (.f 140) [(.t 24)], some (22, false)⟩,
  ⟨some 26, .un .not (.t 25), some (22, false)⟩,
  ro 27 (.pick (.t 22) (.c (.bool true)) (.t 26)),
  ro 28 (.mv (.t 27)),
  ⟨some 29, .fa 119 (.t 4) 0, some (28, false)⟩,
  ⟨some 30, .ld 9 (.t 29), some (28, false)⟩,
  ⟨some 31, .fa 119 (.t 4) 1, some (28, false)⟩,
  ⟨some 32, .ld 9 (.t 31), some (28, false)⟩,
  ⟨some 33, .bn .gtr 9 (.t 30) (.t 32), some (28, false)⟩,
  ro 34 (.pick (.t 28) (.c (.bool true)) (.t 33)),
  ro 35 (.mv (.t 34)),
  ⟨some 36, .mv (.t 3), some (35, false)⟩,
  ⟨some 37, .bn .gtr 3 (.t 36) (.c (.int .i64 0)), some (35, false)⟩,
  ⟨some 38, .mv (.t 37), some (35, false)⟩,
  ⟨some 39, .mv (.t 0), some (38, true)⟩,
  ⟨some 40, .mv (.t 3), some (38, true)⟩,
  ⟨some 41, .bn .sub 3 (.t 40) (.c (.int .i64 1)), some (38, true)⟩,
  ⟨some 42, .ia 48 (.t 39) (.t 41), some (38, true)⟩,
  ⟨some 43, .ld 119 (.t 42), some (38, true)⟩,
  ⟨some 44, .ld 119 (.t 4), some (38, true)⟩,
  ⟨some 45, .call (.f 141) [(.t 43), (.t 44)], some (38, true)⟩,
  ⟨some 46, .bn .geq 3 (.t 45) (.c (.int .i64 0)), some (38, true)⟩,
  ⟨some 47, .pick (.t 38) (.t 46) (.c (.bool false)), some (35, false)⟩,
  ro 48 (.pick (.t 35) (.c (.bool true)) (.t 47))] [[], [0], [1], [2], [3, 2], [4], [5, 4], [6, 4, 4], [7, 4], [4, 8], [9, 7], [10], [11, 10], [12, 10, 10], [13, 10], [10, 14], [15, 13], [16], [17, 16], [16], [19, 16], [18, 20, 16], [16, 21], [22, 16], [23], [24, 23], [25, 23, 23], [26], [26], [28, 26], [27, 29, 26], [30, 26], [26], [31, 32, 26, 26], [33, 26], [26, 34, 23], [23, 35]] (some [0, 4, 5, 6, 7, 48])) c69_20) c69_25
def c69_32 : SC := .reg [ro 52 (.bn .add 3 (.t 7) (.c (.int .i64 1))),
  ro 7 (.mv (.t 52))] (some [0, 5, 6, 7])
def c69_13 : SC := .seq (.block 1 (.seq (.reg [ro 9 (.mv (.t 7)),
  ro 10 (.ia 48 (.t 5) (.t 7)),
  ro 11 (.ld 119 (.t 10)),
  ro 4 (.alc 119),
  ro 3 (.asg (.t 9)),
  ⟨none, .sto 119 (.t 4) (.t 11), none⟩] (some [0, 3, 4, 5, 6, 7])) c69_17)) c69_32
def c69_9 : SC := .seq (.cond (.t 8) .skip (.exit 0)) c69_13
def c69_7 : SC := .seq (.reg [ro 8 (.bn .lss 3 (.t 7) (.t 6))] (some [0, 5, 6, 7, 8])) c69_9
def c69_5 : SC := .block 0 (.loop c69_7)
def c69_33 : SC := .seq (.reg [ro 53 (.mv (.t 0)),
  ro 54 (.len 48 (.t 53)),
  ro 55 (.bn .leq 3 (.t 54) (.c (.int .i64 6))),
  ro 2 (.asg (.t 55))] (some [2])) .ret
def c69_2 : SC := .seq (.seq (.reg [ro 5 (.mv (.t 0)),
  ro 6 (.len 48 (.t 5)),
  ro 7 (.mv (.c (.int .i64 0)))] (some [0, 5, 6, 7])) c69_5) c69_33
/-- loop.example/g01075/impl.meetingsOk -/
def c69 : SC := .seq (.reg [ro 2 (.asg (.c (.bool false)))] (some [0])) c69_2
theorem s69 : slimC ⟨56, [0]⟩ (Tryz.f69.body.getD .skip) = some c69.strip := by kernel_rfl

def c70_20 : SC := .seq (.reg [ro 2 (.asg (.c (.bool false)))] (some [2])) .ret
def c70_19 : SC := .cond (.t 27) c70_20 .skip
def c70_17 : SC := .seq (.reg [ro 12 (.mv (.t 4)),
  ro 13 (.call (.f 140) [(.t 12)]),
  ro 14 (.un .not (.t 13)),
  ro 15 (.mv (.t 14)),
  ⟨some 16, .mv (.t 3), some (15, false)⟩,
  ⟨some 17, .bn .gtr 3 (.t 16) (.c (.int .i64 0)), some (15, false)⟩,
  ⟨some 18, .mv (.t 17), some (15, false)⟩,
  ⟨some 19, .mv (.t 4), some (18, true)⟩,
  ⟨some 20, .mv (.t 0), some (18, true)⟩,
  ⟨some 21, .mv (.t 3), some (18, true)⟩,
  ⟨some 22, .bn .sub 3 (.t 21) (.c (.int .i64 1)), some (18, true)⟩,
  ⟨some 23, .ia 41 (.t 20) (.t 22), some (18, true)⟩,
  ⟨some 24, .ld 9 (.t 23), some (18, true)⟩,
  ⟨some 25, .bn .leq 9 (.t 19) (.t 24), some (18, true)⟩,
  ⟨some 26, .pick (.t 18) (.t 25) (.c (.bool false)), some (15, false)⟩,
  ro 27 (.pick (.t 15) (.c (.bool true)) (.t 26))] (some [0, 5, 6, 7, 27])) c70_19
def c70_24 : SC := .reg [ro 28 (.bn .add 3 (.t 7) (.c (.int .i64 1))),
  ro 7 (.mv (.t 28))] (some [0, 5, 6, 7])
def c70_13 : SC := .seq (.block 1 (.seq (.reg [ro 9 (.mv (.t 7)),
  ro 10 (.ia 41 (.t 5) (.t 7)),
  ro 11 (.ld 9 (.t 10)),
  ro 3 (.asg (.t 9)),
  ro 4 (.asg (.t 11))] (some [0, 3, 4, 5, 6, 7])) c70_17)) c70_24
def c70_9 : SC := .seq (.cond (.t 8) .skip (.exit 0)) c70_13
def c70_7 : SC := .seq (.reg [ro 8 (.bn .lss 3 (.t 7) (.t 6))] (some [0, 5, 6, 7, 8])) c70_9
def c70_5 : SC := .block 0 (.loop c70_7)
def c70_25 : SC := .seq (.reg [ro 29 (.mv (.t 0)),
  ro 30 (.len 41 (.t 29)),
  ro 31 (.bn .leq 3 (.t 30) (.c (.int .i64 12))),
  ro 2 (.asg (.t 31))] (some [2])) .ret
def c70_2 : SC := .seq (.seq (.reg [ro 5 (.mv (.t 0)),
  ro 6 (.len 41 (.t 5)),
  ro 7 (.mv (.c (.int .i64 0)))] (some [0, 5, 6, 7])) c70_5) c70_25
/-- loop.example/g01075/impl.namesOk -/
def c70 : SC := .seq (.reg [ro 2 (.asg (.c (.bool false)))] (some [0])) c70_2
theorem s70 : slimC ⟨32, [0]⟩ (Tryz.f70.body.getD .skip) = some c70.strip := by kernel_rfl

def c22_7 : SC := .seq (.reg [ro 2 (.asg (.c (.int .i64 1)))] (some [2])) .ret
def c22_13 : SC := .seq (.reg [ro 2 (.asg (.c (.int .i64 2)))] (some [2])) .ret
def c22_19 : SC := .seq (.reg [ro 2 (.asg (.c (.int .i64 3)))] (some [2])) .ret
def c22_25 : SC := .seq (.reg [ro 2 (.asg (.c (.int .i64 4)))] (some [2])) .ret
def c22_31 : SC := .seq (.reg [ro 2 (.asg (.c (.int .i64 5)))] (some [2])) .ret
def c22_30 : SC := .cond (.t 30) c22_31 .skip
def c22_28 : SC := .seq (.reg [ro 31 (.fa 50 (.t 1) 4),
  ro 32 (.ld 41 (.t 31)),
  ro 33 (.call (.f 70) [(.t 32)]),
  ro 34 (.un .not (.t 33)),
  ro 30 (.asg (.t 34))] (some [30])) c22_30
def c22_24 : SC := .cond (.t 25) c22_25 c22_28
def c22_22 : SC := .seq (.reg [ro 26 (.fa 50 (.t 1) 3),
  ro 27 (.ld 41 (.t 26)),
  ro 28 (.call (.f 70) [(.t 27)]),
  ro 29 (.un .not (.t 28)),
  ro 25 (.asg (.t 29))] (some [1, 25])) c22_24
def c22_18 : SC := .cond (.t 20) c22_19 c22_22
def c22_16 : SC := .seq (.reg [ro 21 (.fa 50 (.t 1) 2),
  ro 22 (.ld 48 (.t 21)),
  ro 23 (.call (.f 69) [(.t 22)]),
  ro 24 (.un .not (.t 23)),
  ro 20 (.asg (.t 24))] (some [1, 20])) c22_18
def c22_12 : SC := .cond (.t 8) c22_13 c22_16
def c22_10 : SC := .seq (.reg [ro 9 (.fa 50 (.t 1) 1),
  ro 10 (.ld 47 (.t 9)),
  ro 11 (.len 47 (.t 10)),
  ro 12 (.call (.f 65) [(.t 11), (.c (.int .i64 1)), (.c (.int .i64 3))]),
  ro 13 (.un .not (.t 12)),
  ro 14 (.mv (.t 13)),
  ⟨some 15, .fa 50 (.t 1) 1, some (14, false)⟩,
  ⟨some 16, .ld 47 (.t 15), some (14, false)⟩,
  ⟨some 17, .mkf 67 [(.t 1)], some (14, false)⟩,
  ⟨some 18, .call (.f 66) [(.t 16), (.t 17)], some (14, false)⟩,
  ro 19 (.pick (.t 14) (.c (.bool true)) (.t 18)),
  ro 8 (.asg (.t 19))] (some [1, 8])) c22_12
def c22_6 : SC := .cond (.t 3) c22_7 c22_10
def c22_35 : SC := .seq (.reg [ro 2 (.asg (.c (.int .i64 0)))] (some [2])) .ret
def c22_2 : SC := .seq (.block 0 (.seq (.reg [ro 4 (.fa 50 (.t 1) 0),
  ro 5 (.ld 46 (.t 4)),
  ro 6 (.call (.f 64) [(.t 5)]),
  ro 7 (.un .not (.t 6)),
  ro 3 (.asg (.t 7))] (some [1, 3])) c22_6)) c22_35
/-- loop.example/g01075/impl.SystemFault -/
def c22 : SC := .seq (.reg [ro 1 (.bx 50 (.t 0)),
  ro 2 (.asg (.c (.int .i64 0)))] (some [1])) c22_2
theorem s22 : slimC ⟨35, [0]⟩ (Tryz.f22.body.getD .skip) = some c22.strip := by kernel_rfl

def c25_2 : SC := .seq (.reg [ro 3 (.ld 50 (.t 1)),
  ro 4 (.call (.f 22) [(.t 3)]),
  ro 5 (.bn .eql 2 (.t 4) (.c (.int .i64 0))),
  ro 2 (.asg (.t 5))] (some [2])) .ret
/-- loop.example/g01075/impl.ValidSystem -/
def c25 : SC := .seq (.reg [ro 1 (.bx 50 (.t 0)),
  ro 2 (.asg (.c (.bool false)))] (some [1])) c25_2
theorem s25 : slimC ⟨6, [0]⟩ (Tryz.f25.body.getD .skip) = some c25.strip := by kernel_rfl

def c89_6 : SC := .seq (.reg [ro 4 (.asg (.c (.bool false)))] (some [4])) .ret
def c89_5 : SC := .cond (.t 24) c89_6 .skip
def c89_12 : SC := .seq (.drw [ro 30 (.fa 178 (.t 5) 2),
  ro 31 (.ld 176 (.t 30)),
  ro 32 (.fa 131 (.t 3) 1),
  ro 33 (.ld 2 (.t 32)),
  ro 34 (.ia 176 (.t 31) (.t 33)),
  ro 35 (.fa 202 (.t 34) 0),
  ro 36 (.ld 2 (.t 35)),
  ro 37 (.bn .neq 2 (.t 36) (.c (.int .i64 5))),
  ro 38 (.mv (.t 37)),
  ⟨some 39, .fa 131 (.t 3) 2, some (38, true)⟩,
  ⟨some 40, .ld 22 (.t 39), some (38, true)⟩,
  ⟨some 41, .len 22 (.t 40), some (38, true)⟩,
  ⟨some 42, .ld 178 (.t 5), some (38, true)⟩,
  ⟨some 43, .call (.f 155) [(.t 42)], some (38, true)⟩,
  ⟨some 44, .fa 131 (.t 3) 1, some (38, true)⟩,
  ⟨some 45, .ld 2 (.t 44), some (38, true)⟩,
  ⟨some 46, .ia 205 (.t 43) (.t 45), some (38, true)⟩,
  ⟨some 47, .fa 204 (.t 46) 0, some (38, true)⟩,
  ⟨some 48, .ld 2 (.t 47), some (38, true)⟩,
  ⟨some 49, .bn .eql 2 (.t 41) (.t 48), some (38, true)⟩,
  ro 50 (.pick (.t 38) (.t 49) (.c (.bool false))),
  ro 51 (.mv (.t 50)),
  ⟨some 52, .fa 131 (.t 3) 2, some (51, true)⟩,
  ⟨some 53, .ld 22 (.t 52), some (51, true)⟩,
  ⟨some 54, .call (.f 139) [(.t 53)], some (51, true)⟩,
  ro 55 (.pick (.t 51) (.t 54) (.c (.bool false))),
  ro 4 (.asg (.t 55))] [[], [0], [], [2], [1, 3], [4], [5], [6], [7], [8], [9, 8], [10, 8], [8], [12, 8, 8], [8], [14, 8], [13, 15, 8], [16, 8], [17, 8], [11, 18, 8], [8, 19], [20, 13], [21], [22, 21], [23, 21, 21], [21, 24], [25, 24, 0, 1, 2, 3, 4, 5, 6, 7, 8, 9, 10, 11, 12, 13, 14, 15, 16, 17, 18, 19, 20, 21, 22, 23, 24, 25]] (some [4])) .ret
def c89_10 : SC := .seq (.reg [ro 25 (.mv (.t 0)),
  ro 26 (.fa 131 (.t 3) 0),
  ro 27 (.ld 2 (.t 26)),
  ro 28 (.ia 46 (.t 25) (.t 27)),
  ro 29 (.ld 178 (.t 28)),
  ro 5 (.alc 178),
  ⟨none, .sto 178 (.t 5) (.t 29), none⟩] (some [3, 5])) c89_12
def c89_2 : SC := .seq (.seq (.drw [ro 6 (.fa 131 (.t 3) 0),
  ro 7 (.ld 2 (.t 6)),
  ro 8 (.mv (.t 0)),
  ro 9 (.len 46 (.t 8)),
  ro 10 (.call (.f 138) [(.t 7), (.t 9)]),
  ro 11 (.un .not (.t 10)),
  ro 12 (.mv (.t 11)),
  ⟨some 13, .fa 131 (.t 3) 1, some (12, false)⟩,
  ⟨some 14, .ld 2 (.t 13), some (12, false)⟩,
  ⟨some 15, .mv (.t 0), some (12, false)⟩,
  ⟨some 16, .fa 131 (.t 3) 0, some (12, false)⟩,
  ⟨some 17, .ld 2 (.t 16), some (12, false)⟩,
  ⟨some 18, .ia 46 (.t 15) (.t 17), some (12, false)⟩,
  ⟨some 19, .fa 178 (.t 18) 2, some (12, false)⟩,
  ⟨some 20, .ld 176 (.t 19), some (12, false)⟩,
  ⟨some 21, .len 176 (.t 20), some (12, false)⟩,
  ⟨some 22, .call (.f 138) [(.t 14), (.t 21)], some (12, false)⟩,
  ⟨some 23, .un .not (.t 22), some (12, false)⟩,
  ro 24 (.pick (.t 12) (.c (.bool true)) (.t 23))] [[], [0], [], [2], [1, 3], [4], [5, 4], [6], [7, 6], [6], [6], [10, 6], [9, 11, 6], [12, 6], [13, 6], [14, 6], [8, 15, 6, 6], [16, 6], [6, 17]] (some [0, 3, 24])) c89_5) c89_10
/-- loop.example/g01075/impl.pointOk -/
def c89 : SC := .seq (.reg [ro 3 (.bx 131 (.t 1)),
  ro 4 (.asg (.c (.bool false)))] (some [0, 3])) c89_2
theorem s89 : slimC ⟨56, [0, 1]⟩ (Tryz.f89.body.getD .skip) = some c89.strip := by kernel_rfl

def c88_2 : SC := .seq (.reg [ro 4 (.fa 50 (.t 1) 0),
  ro 5 (.ld 46 (.t 4)),
  ro 6 (.ld 131 (.t 2)),
  ro 7 (.call (.f 89) [(.t 5), (.t 6)]),
  ro 8 (.un .not (.t 7)),
  ro 3 (.asg (.t 8))] (some [3])) .ret
/-- loop.example/g01075/impl.ValidState$1 -/
def c88 : SC := .seq (.reg [ro 2 (.bx 131 (.t 0)),
  ro 3 (.asg (.c (.bool false)))] (some [1, 2])) c88_2
theorem s88 : slimC ⟨9, [0, 1]⟩ (Tryz.f88.body.getD .skip) = some c88.strip := by kernel_rfl

def c154_20 : SC := .seq (.reg [ro 17 (.mv (.t 5)),
  ro 4 (.asg (.t 17))] (some [4])) .ret
def c154_19 : SC := .cond (.t 16) c154_20 .skip
def c154_17 : SC := .seq (.reg [ro 11 (.mv (.t 1)),
  ro 12 (.mv (.t 0)),
  ro 13 (.mv (.t 5)),
  ro 14 (.ia 68 (.t 12) (.t 13)),
  ro 15 (.ld 131 (.t 14)),
  ro 16 (.call (.t 11) [(.t 15)])] (some [0, 1, 5, 7, 8, 16])) c154_19
def c154_24 : SC := .reg [ro 18 (.bn .add 3 (.t 8) (.c (.int .i64 1))),
  ro 8 (.mv (.t 18))] (some [0, 1, 7, 8])
def c154_13 : SC := .seq (.block 1 (.seq (.reg [ro 10 (.mv (.t 8)),
  ro 5 (.asg (.t 10))] (some [0, 1, 5, 7, 8])) c154_17)) c154_24
def c154_9 : SC := .seq (.cond (.t 9) .skip (.exit 0)) c154_13
def c154_7 : SC := .seq (.reg [ro 9 (.bn .lss 3 (.t 8) (.t 7))] (some [0, 1, 7, 8, 9])) c154_9
def c154_5 : SC := .block 0 (.loop c154_7)
def c154_25 : SC := .seq (.reg [ro 4 (.asg (.c (.int .i64 (-1))))] (some [4])) .ret
def c154_2 : SC := .seq (.seq (.reg [ro 6 (.mv (.t 0)),
  ro 7 (.len 68 (.t 6)),
  ro 8 (.mv (.c (.int .i64 0)))] (some [0, 1, 7, 8])) c154_5) c154_25
/-- slices.IndexFunc[[]loop.example/g01075/impl.Point,loop.example/g01075/impl.Point] -/
def c154 : SC := .seq (.reg [ro 4 (.asg (.c (.int .i64 0)))] (some [0, 1])) c154_2
theorem s154 : slimC ⟨19, [0, 1]⟩ (Tryz.f154.body.getD .skip) = some c154.strip := by kernel_rfl

def c87_2 : SC := .seq (.reg [ro 5 (.mv (.t 0)),
  ro 6 (.mv (.t 1)),
  ro 7 (.call (.f 154) [(.t 5), (.t 6)]),
  ro 8 (.bn .geq 3 (.t 7) (.c (.int .i64 0))),
  ro 4 (.asg (.t 8))] (some [4])) .ret
/-- slices.ContainsFunc[[]loop.example/g01075/impl.Point,loop.example/g01075/impl.Point] -/
def c87 : SC := .seq (.reg [ro 4 (.asg (.c (.bool false)))] (some [0, 1])) c87_2
theorem s87 : slimC ⟨9, [0, 1]⟩ (Tryz.f87.body.getD .skip) = some c87.strip := by kernel_rfl

def c37_2 : SC := .seq (.reg [ro 5 (.ld 50 (.t 2)),
  ro 6 (.call (.f 25) [(.t 5)]),
  ro 7 (.mv (.t 6)),
  ⟨some 8, .mv (.t 1), some (7, true)⟩,
  ⟨some 9, .len 68 (.t 8), some (7, true)⟩,
  ⟨some 10, .fa 50 (.t 2) 1, some (7, true)⟩,
  ⟨some 11, .ld 47 (.t 10), some (7, true)⟩,
  ⟨some 12, .len 47 (.t 11), some (7, true)⟩,
  ⟨some 13, .bn .eql 3 (.t 9) (.t 12), some (7, true)⟩,
  ro 14 (.pick (.t 7) (.t 13) (.c (.bool false))),
  ro 15 (.mv (.t 14)),
  ⟨some 16, .mv (.t 1), some (15, true)⟩,
  ⟨some 17, .mkf 88 [(.t 2)], some (15, true)⟩,
  ⟨some 18, .call (.f 87) [(.t 16), (.t 17)], some (15, true)⟩,
  ⟨some 19, .un .not (.t 18), some (15, true)⟩,
  ro 20 (.pick (.t 15) (.t 19) (.c (.bool false))),
  ro 4 (.asg (.t 20))] (some [4])) .ret
/-- loop.example/g01075/impl.ValidState -/
def c37 : SC := .seq (.reg [ro 2 (.bx 50 (.t 0)),
  ro 4 (.asg (.c (.bool false)))] (some [1, 2])) c37_2
theorem s37 : slimC ⟨21, [0, 1]⟩ (Tryz.f37.body.getD .skip) = some c37.strip := by kernel_rfl

def c222_6 : SC := .seq (.reg [ro 4 (.asg (.c (.bool false)))] (some [4])) .ret
def c222_5 : SC := .cond (.t 9) c222_6 .skip
def c222_14 : SC := .seq (.reg [ro 4 (.asg (.c (.bool false)))] (some [4])) .ret
def c222_13 : SC := .cond (.t 14) c222_14 .skip
def c222_18 : SC := .seq (.reg [ro 4 (.asg (.c (.bool true)))] (some [4])) .ret
def c222_10 : SC := .seq (.seq (.reg [ro 10 (.fa 159 (.t 2) 1),
  ro 11 (.ld 2 (.t 10)),
  ro 12 (.fa 159 (.t 3) 1),
  ro 13 (.ld 2 (.t 12)),
  ro 14 (.bn .neq 2 (.t 11) (.t 13))] (some [14])) c222_13) c222_18
def c222_2 : SC := .seq (.seq (.reg [ro 5 (.fa 159 (.t 2) 0),
  ro 6 (.ld 2 (.t 5)),
  ro 7 (.fa 159 (.t 3) 0),
  ro 8 (.ld 2 (.t 7)),
  ro 9 (.bn .neq 2 (.t 6) (.t 8))] (some [2, 3, 9])) c222_5) c222_10
/-- loop.example/g01075/laws.eqTerm -/
def c222 : SC := .seq (.reg [ro 2 (.bx 159 (.t 0)),
  ro 3 (.bx 159 (.t 1)),
  ro 4 (.asg (.c (.bool false)))] (some [2, 3])) c222_2
theorem s222 : slimC ⟨15, [0, 1]⟩ (Tryz.f222.body.getD .skip) = some c222.strip := by kernel_rfl

def c176_6 : SC := .seq (.reg [ro 4 (.asg (.c (.bool false)))] (some [4])) .ret
def c176_5 : SC := .cond (.t 10) c176_6 .skip
def c176_18 : SC := .cond (.t 14) .skip (.exit 0)
def c176_26 : SC := .seq (.reg [ro 4 (.asg (.c (.bool false)))] (some [4])) .ret
def c176_25 : SC := .cond (.t 26) c176_26 .skip
def c176_30 : SC := .reg [ro 15 (.mv (.t 5)),
  ro 16 (.bn .add 3 (.t 15) (.c (.int .i64 1))),
  ro 5 (.asg (.t 16))] (some [0, 1, 5])
def c176_21 : SC := .seq (.block 1 (.seq (.drw [ro 17 (.mv (.t 0)),
  ro 18 (.mv (.t 5)),
  ro 19 (.ia 84 (.t 17) (.t 18)),
  ro 20 (.ld 159 (.t 19)),
  ro 21 (.mv (.t 1)),
  ro 22 (.mv (.t 5)),
  ro 23 (.ia 84 (.t 21) (.t 22)),
  ro 24 (.ld 159 (.t 23)),
  ro 25 (.call (.f 222) [(.t 20), (.t 24)]),
  ro 26 (.un .not (.t 25))] [[], [], [0, 1], [2], [], [], [4, 5], [6], [3, 7], [8]] (some [0, 1, 5, 26])) c176_25)) c176_30
def c176_15 : SC := .seq (.seq (.reg [ro 11 (.mv (.t 5)),
  ro 12 (.mv (.t 0)),
  ro 13 (.len 84 (.t 12)),
  ro 14 (.bn .lss 3 (.t 11) (.t 13))] (some [0, 1, 5, 14])) c176_18) c176_21
def c176_13 : SC := .block 0 (.loop c176_15)
def c176_31 : SC := .seq (.reg [ro 4 (.asg (.c (.bool true)))] (some [4])) .ret
def c176_10 : SC := .seq (.seq (.reg [ro 5 (.asg (.c (.int .i64 0)))] (some [0, 1, 5])) c176_13) c176_31
def c176_2 : SC := .seq (.seq (.reg [ro 6 (.mv (.t 0)),
  ro 7 (.len 84 (.t 6)),
  ro 8 (.mv (.t 1)),
  ro 9 (.len 84 (.t 8)),
  ro 10 (.bn .neq 3 (.t 7) (.t 9))] (some [0, 1, 10])) c176_5) c176_10
/-- loop.example/g01075/laws.eqTermS -/
def c176 : SC := .seq (.reg [ro 4 (.asg (.c (.bool false)))] (some [0, 1])) c176_2
theorem s176 : slimC ⟨27, [0, 1]⟩ (Tryz.f176.body.getD .skip) = some c176.strip := by kernel_rfl

def c177_6 : SC := .seq (.reg [ro 4 (.asg (.c (.bool false)))] (some [4])) .ret
def c177_5 : SC := .cond (.t 10) c177_6 .skip
def c177_18 : SC := .cond (.t 14) .skip (.exit 0)
def c177_26 : SC := .seq (.reg [ro 4 (.asg (.c (.bool false)))] (some [4])) .ret
def c177_25 : SC := .cond (.t 26) c177_26 .skip
def c177_30 : SC := .reg [ro 15 (.mv (.t 5)),
  ro 16 (.bn .add 3 (.t 15) (.c (.int .i64 1))),
  ro 5 (.asg (.t 16))] (some [0, 1, 5])
def c177_21 : SC := .seq (.block 1 (.seq (.drw [ro 17 (.mv (.t 0)),
  ro 18 (.mv (.t 5)),
  ro 19 (.ia 85 (.t 17) (.t 18)),
  ro 20 (.ld 84 (.t 19)),
  ro 21 (.mv (.t 1)),
  ro 22 (.mv (.t 5)),
  ro 23 (.ia 85 (.t 21) (.t 22)),
  ro 24 (.ld 84 (.t 23)),
  ro 25 (.call (.f 176) [(.t 20), (.t 24)]),
  ro 26 (.un .not (.t 25))] [[], [], [0, 1], [2], [], [], [4, 5], [6], [3, 7], [8]] (some [0, 1, 5, 26])) c177_25)) c177_30
def c177_15 : SC := .seq (.seq (.reg [ro 11 (.mv (.t 5)),
  ro 12 (.mv (.t 0)),
  ro 13 (.len 85 (.t 12)),
  ro 14 (.bn .lss 3 (.t 11) (.t 13))] (some [0, 1, 5, 14])) c177_18) c177_21
def c177_13 : SC := .block 0 (.loop c177_15)
def c177_31 : SC := .seq (.reg [ro 4 (.asg (.c (.bool true)))] (some [4])) .ret
def c177_10 : SC := .seq (.seq (.reg [ro 5 (.asg (.c (.int .i64 0)))] (some [0, 1, 5])) c177_13) c177_31
def c177_2 : SC := .seq (.seq (.reg [ro 6 (.mv (.t 0)),
  ro 7 (.len 85 (.t 6)),
  ro 8 (.mv (.t 1)),
  ro 9 (.len 85 (.t 8)),
  ro 10 (.bn .neq 3 (.t 7) (.t 9))] (some [0, 1, 10])) c177_5) c177_10
/-- loop.example/g01075/laws.eqTermSS -/
def c177 : SC := .seq (.reg [ro 4 (.asg (.c (.bool false)))] (some [0, 1])) c177_2
theorem s177 : slimC ⟨27, [0, 1]⟩ (Tryz.f177.body.getD .skip) = some c177.strip := by kernel_rfl

def c233_6 : SC := .seq (.reg [ro 4 (.asg (.c (.bool false)))] (some [4])) .ret
def c233_5 : SC := .cond (.t 9) c233_6 .skip
def c233_14 : SC := .seq (.reg [ro 4 (.asg (.c (.bool false)))] (some [4])) .ret
def c233_13 : SC := .cond (.t 14) c233_14 .skip
def c233_22 : SC := .seq (.reg [ro 4 (.asg (.c (.bool false)))] (some [4])) .ret
def c233_21 : SC := .cond (.t 19) c233_22 .skip
def c233_30 : SC := .seq (.reg [ro 4 (.asg (.c (.bool false)))] (some [4])) .ret
def c233_29 : SC := .cond (.t 25) c233_30 .skip
def c233_34 : SC := .seq (.reg [ro 4 (.asg (.c (.bool true)))] (some [4])) .ret
def c233_26 : SC := .seq (.seq (.reg [ro 20 (.fa 202 (.t 2) 3),
  ro 21 (.ld 85 (.t 20)),
  ro 22 (.fa 202 (.t 3) 3),
  ro 23 (.ld 85 (.t 22)),
  ro 24 (.call (.f 177) [(.t 21), (.t 23)]),
  ro 25 (.un .not (.t 24))] (some [25])) c233_29) c233_34
def c233_18 : SC := .seq (.seq (.reg [ro 15 (.fa 202 (.t 2) 2),
  ro 16 (.ld 9 (.t 15)),
  ro 17 (.fa 202 (.t 3) 2),
  ro 18 (.ld 9 (.t 17)),
  ro 19 (.bn .neq 9 (.t 16) (.t 18))] (some [2, 3, 19])) c233_21) c233_26
def c233_10 : SC := .seq (.seq (.reg [ro 10 (.fa 202 (.t 2) 1),
  ro 11 (.ld 2 (.t 10)),
  ro 12 (.fa 202 (.t 3) 1),
  ro 13 (.ld 2 (.t 12)),
  ro 14 (.bn .neq 2 (.t 11) (.t 13))] (some [2, 3, 14])) c233_13) c233_18
def c233_2 : SC := .seq (.seq (.reg [ro 5 (.fa 202 (.t 2) 0),
  ro 6 (.ld 2 (.t 5)),
  ro 7 (.fa 202 (.t 3) 0),
  ro 8 (.ld 2 (.t 7)),
  ro 9 (.bn .neq 2 (.t 6) (.t 8))] (some [2, 3, 9])) c233_5) c233_10
/-- loop.example/g01075/laws.eqPart -/
def c233 : SC := .seq (.reg [ro 2 (.bx 202 (.t 0)),
  ro 3 (.bx 202 (.t 1)),
  ro 4 (.asg (.c (.bool false)))] (some [2, 3])) c233_2
theorem s233 : slimC ⟨26, [0, 1]⟩ (Tryz.f233.body.getD .skip) = some c233.strip := by kernel_rfl

def c194_6 : SC := .seq (.reg [ro 4 (.asg (.c (.bool false)))] (some [4])) .ret
def c194_5 : SC := .cond (.t 10) c194_6 .skip
def c194_18 : SC := .cond (.t 14) .skip (.exit 0)
def c194_26 : SC := .seq (.reg [ro 4 (.asg (.c (.bool false)))] (some [4])) .ret
def c194_25 : SC := .cond (.t 26) c194_26 .skip
def c194_30 : SC := .reg [ro 15 (.mv (.t 5)),
  ro 16 (.bn .add 3 (.t 15) (.c (.int .i64 1))),
  ro 5 (.asg (.t 16))] (some [0, 1, 5])
def c194_21 : SC := .seq (.block 1 (.seq (.drw [ro 17 (.mv (.t 0)),
  ro 18 (.mv (.t 5)),
  ro 19 (.ia 176 (.t 17) (.t 18)),
  ro 20 (.ld 202 (.t 19)),
  ro 21 (.mv (.t 1)),
  ro 22 (.mv (.t 5)),
  ro 23 (.ia 176 (.t 21) (.t 22)),
  ro 24 (.ld 202 (.t 23)),
  ro 25 (.call (.f 233) [(.t 20), (.t 24)]),
  ro 26 (.un .not (.t 25))] [[], [], [0, 1], [2], [], [], [4, 5], [6], [3, 7], [8]] (some [0, 1, 5, 26])) c194_25)) c194_30
def c194_15 : SC := .seq (.seq (.reg [ro 11 (.mv (.t 5)),
  ro 12 (.mv (.t 0)),
  ro 13 (.len 176 (.t 12)),
  ro 14 (.bn .lss 3 (.t 11) (.t 13))] (some [0, 1, 5, 14])) c194_18) c194_21
def c194_13 : SC := .block 0 (.loop c194_15)
def c194_31 : SC := .seq (.reg [ro 4 (.asg (.c (.bool true)))] (some [4])) .ret
def c194_10 : SC := .seq (.seq (.reg [ro 5 (.asg (.c (.int .i64 0)))] (some [0, 1, 5])) c194_13) c194_31
def c194_2 : SC := .seq (.seq (.reg [ro 6 (.mv (.t 0)),
  ro 7 (.len 176 (.t 6)),
  ro 8 (.mv (.t 1)),
  ro 9 (.len 176 (.t 8)),
  ro 10 (.bn .neq 3 (.t 7) (.t 9))] (some [0, 1, 10])) c194_5) c194_10
/-- loop.example/g01075/laws.eqPartS -/
def c194 : SC := .seq (.reg [ro 4 (.asg (.c (.bool false)))] (some [0, 1])) c194_2
theorem s194 : slimC ⟨27, [0, 1]⟩ (Tryz.f194.body.getD .skip) = some c194.strip := by kernel_rfl

def c144_6 : SC := .seq (.reg [ro 4 (.asg (.c (.bool false)))] (some [4])) .ret
def c144_5 : SC := .cond (.t 9) c144_6 .skip
def c144_14 : SC := .seq (.reg [ro 4 (.asg (.c (.bool false)))] (some [4])) .ret
def c144_13 : SC := .cond (.t 14) c144_14 .skip
def c144_22 : SC := .seq (.reg [ro 4 (.asg (.c (.bool false)))] (some [4])) .ret
def c144_21 : SC := .cond (.t 20) c144_22 .skip
def c144_26 : SC := .seq (.reg [ro 4 (.asg (.c (.bool true)))] (some [4])) .ret
def c144_18 : SC := .seq (.seq (.reg [ro 15 (.fa 178 (.t 2) 2),
  ro 16 (.ld 176 (.t 15)),
  ro 17 (.fa 178 (.t 3) 2),
  ro 18 (.ld 176 (.t 17)),
  ro 19 (.call (.f 194) [(.t 16), (.t 18)]),
  ro 20 (.un .not (.t 19))] (some [20])) c144_21) c144_26
def c144_10 : SC := .seq (.seq (.reg [ro 10 (.fa 178 (.t 2) 1),
  ro 11 (.ld 2 (.t 10)),
  ro 12 (.fa 178 (.t 3) 1),
  ro 13 (.ld 2 (.t 12)),
  ro 14 (.bn .neq 2 (.t 11) (.t 13))] (some [2, 3, 14])) c144_13) c144_18
def c144_2 : SC := .seq (.seq (.reg [ro 5 (.fa 178 (.t 2) 0),
  ro 6 (.ld 9 (.t 5)),
  ro 7 (.fa 178 (.t 3) 0),
  ro 8 (.ld 9 (.t 7)),
  ro 9 (.bn .neq 9 (.t 6) (.t 8))] (some [2, 3, 9])) c144_5) c144_10
/-- loop.example/g01075/laws.eqDefinition -/
def c144 : SC := .seq (.reg [ro 2 (.bx 178 (.t 0)),
  ro 3 (.bx 178 (.t 1)),
  ro 4 (.asg (.c (.bool false)))] (some [2, 3])) c144_2
theorem s144 : slimC ⟨21, [0, 1]⟩ (Tryz.f144.body.getD .skip) = some c144.strip := by kernel_rfl

def c71_6 : SC := .seq (.reg [ro 4 (.asg (.c (.bool false)))] (some [4])) .ret
def c71_5 : SC := .cond (.t 10) c71_6 .skip
def c71_18 : SC := .cond (.t 14) .skip (.exit 0)
def c71_26 : SC := .seq (.reg [ro 4 (.asg (.c (.bool false)))] (some [4])) .ret
def c71_25 : SC := .cond (.t 26) c71_26 .skip
def c71_30 : SC := .reg [ro 15 (.mv (.t 5)),
  ro 16 (.bn .add 3 (.t 15) (.c (.int .i64 1))),
  ro 5 (.asg (.t 16))] (some [0, 1, 5])
def c71_21 : SC := .seq (.block 1 (.seq (.drw [ro 17 (.mv (.t 0)),
  ro 18 (.mv (.t 5)),
  ro 19 (.ia 46 (.t 17) (.t 18)),
  ro 20 (.ld 178 (.t 19)),
  ro 21 (.mv (.t 1)),
  ro 22 (.mv (.t 5)),
  ro 23 (.ia 46 (.t 21) (.t 22)),
  ro 24 (.ld 178 (.t 23)),
  ro 25 (.call (.f 144) [(.t 20), (.t 24)]),
  ro 26 (.un .not (.t 25))] [[], [], [0, 1], [2], [], [], [4, 5], [6], [3, 7], [8]] (some [0, 1, 5, 26])) c71_25)) c71_30
def c71_15 : SC := .seq (.seq (.reg [ro 11 (.mv (.t 5)),
  ro 12 (.mv (.t 0)),
  ro 13 (.len 46 (.t 12)),
  ro 14 (.bn .lss 3 (.t 11) (.t 13))] (some [0, 1, 5, 14])) c71_18) c71_21
def c71_13 : SC := .block 0 (.loop c71_15)
def c71_31 : SC := .seq (.reg [ro 4 (.asg (.c (.bool true)))] (some [4])) .ret
def c71_10 : SC := .seq (.seq (.reg [ro 5 (.asg (.c (.int .i64 0)))] (some [0, 1, 5])) c71_13) c71_31
def c71_2 : SC := .seq (.seq (.reg [ro 6 (.mv (.t 0)),
  ro 7 (.len 46 (.t 6)),
  ro 8 (.mv (.t 1)),
  ro 9 (.len 46 (.t 8)),
  ro 10 (.bn .neq 3 (.t 7) (.t 9))] (some [0, 1, 10])) c71_5) c71_10
/-- loop.example/g01075/laws.eqDefinitionS -/
def c71 : SC := .seq (.reg [ro 4 (.asg (.c (.bool false)))] (some [0, 1])) c71_2
theorem s71 : slimC ⟨27, [0, 1]⟩ (Tryz.f71.body.getD .skip) = some c71.strip := by kernel_rfl

def c14_6 : SC := .seq (.reg [ro 4 (.asg (.c (.bool false)))] (some [4])) .ret
def c14_5 : SC := .cond (.t 10) c14_6 .skip
def c14_18 : SC := .cond (.t 14) .skip (.exit 0)
def c14_26 : SC := .seq (.reg [ro 4 (.asg (.c (.bool false)))] (some [4])) .ret
def c14_25 : SC := .cond (.t 25) c14_26 .skip
def c14_30 : SC := .reg [ro 15 (.mv (.t 5)),
  ro 16 (.bn .add 3 (.t 15) (.c (.int .i64 1))),
  ro 5 (.asg (.t 16))] (some [0, 1, 5])
def c14_21 : SC := .seq (.block 1 (.seq (.drw [ro 17 (.mv (.t 0)),
  ro 18 (.mv (.t 5)),
  ro 19 (.ia 22 (.t 17) (.t 18)),
  ro 20 (.ld 2 (.t 19)),
  ro 21 (.mv (.t 1)),
  ro 22 (.mv (.t 5)),
  ro 23 (.ia 22 (.t 21) (.t 22)),
  ro 24 (.ld 2 (.t 23)),
  ro 25 (.bn .neq 2 (.t 20) (.t 24))] [[], [], [0, 1], [2], [], [], [4, 5], [6], [3, 7]] (some [0, 1, 5, 25])) c14_25)) c14_30
def c14_15 : SC := .seq (.seq (.reg [ro 11 (.mv (.t 5)),
  ro 12 (.mv (.t 0)),
  ro 13 (.len 22 (.t 12)),
  ro 14 (.bn .lss 3 (.t 11) (.t 13))] (some [0, 1, 5, 14])) c14_18) c14_21
def c14_13 : SC := .block 0 (.loop c14_15)
def c14_31 : SC := .seq (.reg [ro 4 (.asg (.c (.bool true)))] (some [4])) .ret
def c14_10 : SC := .seq (.seq (.reg [ro 5 (.asg (.c (.int .i64 0)))] (some [0, 1, 5])) c14_13) c14_31
def c14_2 : SC := .seq (.seq (.reg [ro 6 (.mv (.t 0)),
  ro 7 (.len 22 (.t 6)),
  ro 8 (.mv (.t 1)),
  ro 9 (.len 22 (.t 8)),
  ro 10 (.bn .neq 3 (.t 7) (.t 9))] (some [0, 1, 10])) c14_5) c14_10
/-- loop.example/g01075/laws.eqInt64S -/
def c14 : SC := .seq (.reg [ro 4 (.asg (.c (.bool false)))] (some [0, 1])) c14_2
theorem s14 : slimC ⟨26, [0, 1]⟩ (Tryz.f14.body.getD .skip) = some c14.strip := by kernel_rfl

def c145_6 : SC := .seq (.reg [ro 4 (.asg (.c (.bool false)))] (some [4])) .ret
def c145_5 : SC := .cond (.t 9) c145_6 .skip
def c145_14 : SC := .seq (.reg [ro 4 (.asg (.c (.bool false)))] (some [4])) .ret
def c145_13 : SC := .cond (.t 15) c145_14 .skip
def c145_18 : SC := .seq (.reg [ro 4 (.asg (.c (.bool true)))] (some [4])) .ret
def c145_10 : SC := .seq (.seq (.reg [ro 10 (.fa 105 (.t 2) 1),
  ro 11 (.ld 22 (.t 10)),
  ro 12 (.fa 105 (.t 3) 1),
  ro 13 (.ld 22 (.t 12)),
  ro 14 (.call (.f 14) [(.t 11), (.t 13)]),
  ro 15 (.un .not (.t 14))] (some [15])) c145_13) c145_18
def c145_2 : SC := .seq (.seq (.reg [ro 5 (.fa 105 (.t 2) 0),
  ro 6 (.ld 2 (.t 5)),
  ro 7 (.fa 105 (.t 3) 0),
  ro 8 (.ld 2 (.t 7)),
  ro 9 (.bn .neq 2 (.t 6) (.t 8))] (some [2, 3, 9])) c145_5) c145_10
/-- loop.example/g01075/laws.eqComponent -/
def c145 : SC := .seq (.reg [ro 2 (.bx 105 (.t 0)),
  ro 3 (.bx 105 (.t 1)),
  ro 4 (.asg (.c (.bool false)))] (some [2, 3])) c145_2
theorem s145 : slimC ⟨16, [0, 1]⟩ (Tryz.f145.body.getD .skip) = some c145.strip := by kernel_rfl

def c72_6 : SC := .seq (.reg [ro 4 (.asg (.c (.bool false)))] (some [4])) .ret
def c72_5 : SC := .cond (.t 10) c72_6 .skip
def c72_18 : SC := .cond (.t 14) .skip (.exit 0)
def c72_26 : SC := .seq (.reg [ro 4 (.asg (.c (.bool false)))] (some [4])) .ret
def c72_25 : SC := .cond (.t 26) c72_26 .skip
def c72_30 : SC := .reg [ro 15 (.mv (.t 5)),
  ro 16 (.bn .add 3 (.t 15) (.c (.int .i64 1))),
  ro 5 (.asg (.t 16))] (some [0, 1, 5])
def c72_21 : SC := .seq (.block 1 (.seq (.drw [ro 17 (.mv (.t 0)),
  ro 18 (.mv (.t 5)),
  ro 19 (.ia 47 (.t 17) (.t 18)),
  ro 20 (.ld 105 (.t 19)),
  ro 21 (.mv (.t 1)),
  ro 22 (.mv (.t 5)),
  ro 23 (.ia 47 (.t 21) (.t 22)),
  ro 24 (.ld 105 (.t 23)),
  ro 25 (.call (.f 145) [(.t 20), (.t 24)]),
  ro 26 (.un .not (.t 25))] [[], [], [0, 1], [2], [], [], [4, 5], [6], [3, 7], [8]] (some [0, 1, 5, 26])) c72_25)) c72_30
def c72_15 : SC := .seq (.seq (.reg [ro 11 (.mv (.t 5)),
  ro 12 (.mv (.t 0)),
  ro 13 (.len 47 (.t 12)),
  ro 14 (.bn .lss 3 (.t 11) (.t 13))] (some [0, 1, 5, 14])) c72_18) c72_21
def c72_13 : SC := .block 0 (.loop c72_15)
def c72_31 : SC := .seq (.reg [ro 4 (.asg (.c (.bool true)))] (some [4])) .ret
def c72_10 : SC := .seq (.seq (.reg [ro 5 (.asg (.c (.int .i64 0)))] (some [0, 1, 5])) c72_13) c72_31
def c72_2 : SC := .seq (.seq (.reg [ro 6 (.mv (.t 0)),
  ro 7 (.len 47 (.t 6)),
  ro 8 (.mv (.t 1)),
  ro 9 (.len 47 (.t 8)),
  ro 10 (.bn .neq 3 (.t 7) (.t 9))] (some [0, 1, 10])) c72_5) c72_10
/-- loop.example/g01075/laws.eqComponentS -/
def c72 : SC := .seq (.reg [ro 4 (.asg (.c (.bool false)))] (some [0, 1])) c72_2
theorem s72 : slimC ⟨27, [0, 1]⟩ (Tryz.f72.body.getD .skip) = some c72.strip := by kernel_rfl

def c80_6 : SC := .seq (.reg [ro 4 (.asg (.c (.bool false)))] (some [4])) .ret
def c80_5 : SC := .cond (.t 9) c80_6 .skip
def c80_14 : SC := .seq (.reg [ro 4 (.asg (.c (.bool false)))] (some [4])) .ret
def c80_13 : SC := .cond (.t 14) c80_14 .skip
def c80_22 : SC := .seq (.reg [ro 4 (.asg (.c (.bool false)))] (some [4])) .ret
def c80_21 : SC := .cond (.t 19) c80_22 .skip
def c80_26 : SC := .seq (.reg [ro 4 (.asg (.c (.bool true)))] (some [4])) .ret
def c80_18 : SC := .seq (.seq (.reg [ro 15 (.fa 119 (.t 2) 2),
  ro 16 (.ld 9 (.t 15)),
  ro 17 (.fa 119 (.t 3) 2),
  ro 18 (.ld 9 (.t 17)),
  ro 19 (.bn .neq 9 (.t 16) (.t 18))] (some [19])) c80_21) c80_26
def c80_10 : SC := .seq (.seq (.reg [ro 10 (.fa 119 (.t 2) 1),
  ro 11 (.ld 9 (.t 10)),
  ro 12 (.fa 119 (.t 3) 1),
  ro 13 (.ld 9 (.t 12)),
  ro 14 (.bn .neq 9 (.t 11) (.t 13))] (some [2, 3, 14])) c80_13) c80_18
def c80_2 : SC := .seq (.seq (.reg [ro 5 (.fa 119 (.t 2) 0),
  ro 6 (.ld 9 (.t 5)),
  ro 7 (.fa 119 (.t 3) 0),
  ro 8 (.ld 9 (.t 7)),
  ro 9 (.bn .neq 9 (.t 6) (.t 8))] (some [2, 3, 9])) c80_5) c80_10
/-- loop.example/g01075/laws.eqMeeting -/
def c80 : SC := .seq (.reg [ro 2 (.bx 119 (.t 0)),
  ro 3 (.bx 119 (.t 1)),
  ro 4 (.asg (.c (.bool false)))] (some [2, 3])) c80_2
theorem s80 : slimC ⟨20, [0, 1]⟩ (Tryz.f80.body.getD .skip) = some c80.strip := by kernel_rfl

def c30_6 : SC := .seq (.reg [ro 4 (.asg (.c (.bool false)))] (some [4])) .ret
def c30_5 : SC := .cond (.t 10) c30_6 .skip
def c30_18 : SC := .cond (.t 14) .skip (.exit 0)
def c30_26 : SC := .seq (.reg [ro 4 (.asg (.c (.bool false)))] (some [4])) .ret
def c30_25 : SC := .cond (.t 26) c30_26 .skip
def c30_30 : SC := .reg [ro 15 (.mv (.t 5)),
  ro 16 (.bn .add 3 (.t 15) (.c (.int .i64 1))),
  ro 5 (.asg (.t 16))] (some [0, 1, 5])
def c30_21 : SC := .seq (.block 1 (.seq (.drw [ro 17 (.mv (.t 0)),
  ro 18 (.mv (.t 5)),
  ro 19 (.ia 48 (.t 17) (.t 18)),
  ro 20 (.ld 119 (.t 19)),
  ro 21 (.mv (.t 1)),
  ro 22 (.mv (.t 5)),
  ro 23 (.ia 48 (.t 21) (.t 22)),
  ro 24 (.ld 119 (.t 23)),
  ro 25 (.call (.f 80) [(.t 20), (.t 24)]),
  ro 26 (.un .not (.t 25))] [[], [], [0, 1], [2], [], [], [4, 5], [6], [3, 7], [8]] (some [0, 1, 5, 26])) c30_25)) c30_30
def c30_15 : SC := .seq (.seq (.reg [ro 11 (.mv (.t 5)),
  ro 12 (.mv (.t 0)),
  ro 13 (.len 48 (.t 12)),
  ro 14 (.bn .lss 3 (.t 11) (.t 13))] (some [0, 1, 5, 14])) c30_18) c30_21
def c30_13 : SC := .block 0 (.loop c30_15)
def c30_31 : SC := .seq (.reg [ro 4 (.asg (.c (.bool true)))] (some [4])) .ret
def c30_10 : SC := .seq (.seq (.reg [ro 5 (.asg (.c (.int .i64 0)))] (some [0, 1, 5])) c30_13) c30_31
def c30_2 : SC := .seq (.seq (.reg [ro 6 (.mv (.t 0)),
  ro 7 (.len 48 (.t 6)),
  ro 8 (.mv (.t 1)),
  ro 9 (.len 48 (.t 8)),
  ro 10 (.bn .neq 3 (.t 7) (.t 9))] (some [0, 1, 10])) c30_5) c30_10
/-- loop.example/g01075/laws.eqMeetingS -/
def c30 : SC := .seq (.reg [ro 4 (.asg (.c (.bool false)))] (some [0, 1])) c30_2
theorem s30 : slimC ⟨27, [0, 1]⟩ (Tryz.f30.body.getD .skip) = some c30.strip := by kernel_rfl

def c73_6 : SC := .seq (.reg [ro 4 (.asg (.c (.bool false)))] (some [4])) .ret
def c73_5 : SC := .cond (.t 10) c73_6 .skip
def c73_18 : SC := .cond (.t 14) .skip (.exit 0)
def c73_26 : SC := .seq (.reg [ro 4 (.asg (.c (.bool false)))] (some [4])) .ret
def c73_25 : SC := .cond (.t 25) c73_26 .skip
def c73_30 : SC := .reg [ro 15 (.mv (.t 5)),
  ro 16 (.bn .add 3 (.t 15) (.c (.int .i64 1))),
  ro 5 (.asg (.t 16))] (some [0, 1, 5])
def c73_21 : SC := .seq (.block 1 (.seq (.drw [ro 17 (.mv (.t 0)),
  ro 18 (.mv (.t 5)),
  ro 19 (.ia 41 (.t 17) (.t 18)),
  ro 20 (.ld 9 (.t 19)),
  ro 21 (.mv (.t 1)),
  ro 22 (.mv (.t 5)),
  ro 23 (.ia 41 (.t 21) (.t 22)),
  ro 24 (.ld 9 (.t 23)),
  ro 25 (.bn .neq 9 (.t 20) (.t 24))] [[], [], [0, 1], [2], [], [], [4, 5], [6], [3, 7]] (some [0, 1, 5, 25])) c73_25)) c73_30
def c73_15 : SC := .seq (.seq (.reg [ro 11 (.mv (.t 5)),
  ro 12 (.mv (.t 0)),
  ro 13 (.len 41 (.t 12)),
  ro 14 (.bn .lss 3 (.t 11) (.t 13))] (some [0, 1, 5, 14])) c73_18) c73_21
def c73_13 : SC := .block 0 (.loop c73_15)
def c73_31 : SC := .seq (.reg [ro 4 (.asg (.c (.bool true)))] (some [4])) .ret
def c73_10 : SC := .seq (.seq (.reg [ro 5 (.asg (.c (.int .i64 0)))] (some [0, 1, 5])) c73_13) c73_31
def c73_2 : SC := .seq (.seq (.reg [ro 6 (.mv (.t 0)),
  ro 7 (.len 41 (.t 6)),
  ro 8 (.mv (.t 1)),
  ro 9 (.len 41 (.t 8)),
  ro 10 (.bn .neq 3 (.t 7) (.t 9))] (some [0, 1, 10])) c73_5) c73_10
/-- loop.example/g01075/laws.eqStringS -/
def c73 : SC := .seq (.reg [ro 4 (.asg (.c (.bool false)))] (some [0, 1])) c73_2
theorem s73 : slimC ⟨26, [0, 1]⟩ (Tryz.f73.body.getD .skip) = some c73.strip := by kernel_rfl

def c23_6 : SC := .seq (.reg [ro 4 (.asg (.c (.bool false)))] (some [4])) .ret
def c23_5 : SC := .cond (.t 10) c23_6 .skip
def c23_14 : SC := .seq (.reg [ro 4 (.asg (.c (.bool false)))] (some [4])) .ret
def c23_13 : SC := .cond (.t 16) c23_14 .skip
def c23_22 : SC := .seq (.reg [ro 4 (.asg (.c (.bool false)))] (some [4])) .ret
def c23_21 : SC := .cond (.t 22) c23_22 .skip
def c23_30 : SC := .seq (.reg [ro 4 (.asg (.c (.bool false)))] (some [4])) .ret
def c23_29 : SC := .cond (.t 28) c23_30 .skip
def c23_38 : SC := .seq (.reg [ro 4 (.asg (.c (.bool false)))] (some [4])) .ret
def c23_37 : SC := .cond (.t 34) c23_38 .skip
def c23_42 : SC := .seq (.reg [ro 4 (.asg (.c (.bool true)))] (some [4])) .ret
def c23_34 : SC := .seq (.seq (.reg [ro 29 (.fa 50 (.t 2) 4),
  ro 30 (.ld 41 (.t 29)),
  ro 31 (.fa 50 (.t 3) 4),
  ro 32 (.ld 41 (.t 31)),
  ro 33 (.call (.f 73) [(.t 30), (.t 32)]),
  ro 34 (.un .not (.t 33))] (some [34])) c23_37) c23_42
def c23_26 : SC := .seq (.seq (.reg [ro 23 (.fa 50 (.t 2) 3),
  ro 24 (.ld 41 (.t 23)),
  ro 25 (.fa 50 (.t 3) 3),
  ro 26 (.ld 41 (.t 25)),
  ro 27 (.call (.f 73) [(.t 24), (.t 26)]),
  ro 28 (.un .not (.t 27))] (some [2, 3, 28])) c23_29) c23_34
def c23_18 : SC := .seq (.seq (.reg [ro 17 (.fa 50 (.t 2) 2),
  ro 18 (.ld 48 (.t 17)),
  ro 19 (.fa 50 (.t 3) 2),
  ro 20 (.ld 48 (.t 19)),
  ro 21 (.call (.f 30) [(.t 18), (.t 20)]),
  ro 22 (.un .not (.t 21))] (some [2, 3, 22])) c23_21) c23_26
def c23_10 : SC := .seq (.seq (.reg [ro 11 (.fa 50 (.t 2) 1),
  ro 12 (.ld 47 (.t 11)),
  ro 13 (.fa 50 (.t 3) 1),
  ro 14 (.ld 47 (.t 13)),
  ro 15 (.call (.f 72) [(.t 12), (.t 14)]),
  ro 16 (.un .not (.t 15))] (some [2, 3, 16])) c23_13) c23_18
def c23_2 : SC := .seq (.seq (.reg [ro 5 (.fa 50 (.t 2) 0),
  ro 6 (.ld 46 (.t 5)),
  ro 7 (.fa 50 (.t 3) 0),
  ro 8 (.ld 46 (.t 7)),
  ro 9 (.call (.f 71) [(.t 6), (.t 8)]),
  ro 10 (.un .not (.t 9))] (some [2, 3, 10])) c23_5) c23_10
/-- loop.example/g01075/laws.eqSystem -/
def c23 : SC := .seq (.reg [ro 2 (.bx 50 (.t 0)),
  ro 3 (.bx 50 (.t 1)),
  ro 4 (.asg (.c (.bool false)))] (some [2, 3])) c23_2
theorem s23 : slimC ⟨35, [0, 1]⟩ (Tryz.f23.body.getD .skip) = some c23.strip := by kernel_rfl

def c90_6 : SC := .seq (.reg [ro 4 (.asg (.c (.bool false)))] (some [4])) .ret
def c90_5 : SC := .cond (.t 9) c90_6 .skip
def c90_14 : SC := .seq (.reg [ro 4 (.asg (.c (.bool false)))] (some [4])) .ret
def c90_13 : SC := .cond (.t 14) c90_14 .skip
def c90_22 : SC := .seq (.reg [ro 4 (.asg (.c (.bool false)))] (some [4])) .ret
def c90_21 : SC := .cond (.t 20) c90_22 .skip
def c90_26 : SC := .seq (.reg [ro 4 (.asg (.c (.bool true)))] (some [4])) .ret
def c90_18 : SC := .seq (.seq (.reg [ro 15 (.fa 131 (.t 2) 2),
  ro 16 (.ld 22 (.t 15)),
  ro 17 (.fa 131 (.t 3) 2),
  ro 18 (.ld 22 (.t 17)),
  ro 19 (.call (.f 14) [(.t 16), (.t 18)]),
  ro 20 (.un .not (.t 19))] (some [20])) c90_21) c90_26
def c90_10 : SC := .seq (.seq (.reg [ro 10 (.fa 131 (.t 2) 1),
  ro 11 (.ld 2 (.t 10)),
  ro 12 (.fa 131 (.t 3) 1),
  ro 13 (.ld 2 (.t 12)),
  ro 14 (.bn .neq 2 (.t 11) (.t 13))] (some [2, 3, 14])) c90_13) c90_18
def c90_2 : SC := .seq (.seq (.reg [ro 5 (.fa 131 (.t 2) 0),
  ro 6 (.ld 2 (.t 5)),
  ro 7 (.fa 131 (.t 3) 0),
  ro 8 (.ld 2 (.t 7)),
  ro 9 (.bn .neq 2 (.t 6) (.t 8))] (some [2, 3, 9])) c90_5) c90_10
/-- loop.example/g01075/laws.eqPoint -/
def c90 : SC := .seq (.reg [ro 2 (.bx 131 (.t 0)),
  ro 3 (.bx 131 (.t 1)),
  ro 4 (.asg (.c (.bool false)))] (some [2, 3])) c90_2
theorem s90 : slimC ⟨21, [0, 1]⟩ (Tryz.f90.body.getD .skip) = some c90.strip := by kernel_rfl

def c38_6 : SC := .seq (.reg [ro 4 (.asg (.c (.bool false)))] (some [4])) .ret
def c38_5 : SC := .cond (.t 10) c38_6 .skip
def c38_18 : SC := .cond (.t 14) .skip (.exit 0)
def c38_26 : SC := .seq (.reg [ro 4 (.asg (.c (.bool false)))] (some [4])) .ret
def c38_25 : SC := .cond (.t 26) c38_26 .skip
def c38_30 : SC := .reg [ro 15 (.mv (.t 5)),
  ro 16 (.bn .add 3 (.t 15) (.c (.int .i64 1))),
  ro 5 (.asg (.t 16))] (some [0, 1, 5])
def c38_21 : SC := .seq (.block 1 (.seq (.drw [ro 17 (.mv (.t 0)),
  ro 18 (.mv (.t 5)),
  ro 19 (.ia 68 (.t 17) (.t 18)),
  ro 20 (.ld 131 (.t 19)),
  ro 21 (.mv (.t 1)),
  ro 22 (.mv (.t 5)),
  ro 23 (.ia 68 (.t 21) (.t 22)),
  ro 24 (.ld 131 (.t 23)),
  ro 25 (.call (.f 90) [(.t 20), (.t 24)]),
  ro 26 (.un .not (.t 25))] [[], [], [0, 1], [2], [], [], [4, 5], [6], [3, 7], [8]] (some [0, 1, 5, 26])) c38_25)) c38_30
def c38_15 : SC := .seq (.seq (.reg [ro 11 (.mv (.t 5)),
  ro 12 (.mv (.t 0)),
  ro 13 (.len 68 (.t 12)),
  ro 14 (.bn .lss 3 (.t 11) (.t 13))] (some [0, 1, 5, 14])) c38_18) c38_21
def c38_13 : SC := .block 0 (.loop c38_15)
def c38_31 : SC := .seq (.reg [ro 4 (.asg (.c (.bool true)))] (some [4])) .ret
def c38_10 : SC := .seq (.seq (.reg [ro 5 (.asg (.c (.int .i64 0)))] (some [0, 1, 5])) c38_13) c38_31
def c38_2 : SC := .seq (.seq (.reg [ro 6 (.mv (.t 0)),
  ro 7 (.len 68 (.t 6)),
  ro 8 (.mv (.t 1)),
  ro 9 (.len 68 (.t 8)),
  ro 10 (.bn .neq 3 (.t 7) (.t 9))] (some [0, 1, 10])) c38_5) c38_10
/-- loop.example/g01075/laws.eqPointS -/
def c38 : SC := .seq (.reg [ro 4 (.asg (.c (.bool false)))] (some [0, 1])) c38_2
theorem s38 : slimC ⟨27, [0, 1]⟩ (Tryz.f38.body.getD .skip) = some c38.strip := by kernel_rfl

def c8_10 : SC := .seq (.reg [ro 4 (.asg (.c (.bool true)))] (some [4])) .ret
def c8_9 : SC := .cond (.t 14) c8_10 .skip
def c8_20 : SC := .seq (.reg [ro 4 (.asg (.c (.bool true)))] (some [4])) .ret
def c8_19 : SC := .cond (.t 19) c8_20 .skip
def c8_36 : SC := .seq (.reg [ro 4 (.asg (.c (.bool false)))] (some [4])) .ret
def c8_35 : SC := .cond (.t 34) c8_36 .skip
def c8_44 : SC := .seq (.reg [ro 4 (.asg (.c (.bool false)))] (some [4])) .ret
def c8_43 : SC := .cond (.t 39) c8_44 .skip
def c8_52 : SC := .seq (.reg [ro 4 (.asg (.c (.bool false)))] (some [4])) .ret
def c8_51 : SC := .cond (.t 44) c8_52 .skip
def c8_56 : SC := .seq (.reg [ro 4 (.asg (.c (.bool true)))] (some [4])) .ret
def c8_48 : SC := .seq (.seq (.reg [ro 40 (.mv (.t 8)),
  ro 41 (.mv (.t 1)),
  ro 42 (.call (.f 36) [(.t 41)]),
  ro 43 (.call (.f 38) [(.t 40), (.t 42)]),
  ro 44 (.un .not (.t 43))] (some [44])) c8_51) c8_56
def c8_40 : SC := .seq (.seq (.drw [ro 35 (.ld 50 (.t 7)),
  ro 36 (.ld 43 (.t 2)),
  ro 37 (.call (.f 21) [(.t 36)]),
  ro 38 (.call (.f 23) [(.t 35), (.t 37)]),
  ro 39 (.un .not (.t 38))] [[], [], [1], [0, 2, 2], [3]] (some [1, 8, 39])) c8_43) c8_48
def c8_32 : SC := .seq (.seq (.reg [ro 32 (.mv (.t 9)),
  ro 33 (.mv (.t 6)),
  ro 34 (.bn .neq 4 (.t 32) (.t 33))] (some [1, 2, 7, 8, 34])) c8_35) c8_40
def c8_30 : SC := .seq (.reg [ro 29 (.ld 50 (.t 7)),
  ro 30 (.mv (.t 8)),
  ro 31 (.call (.f 37) [(.t 29), (.t 30)]),
  ro 9 (.asg (.t 31))] (some [1, 2, 6, 7, 8, 9])) c8_32
def c8_28 : SC := .seq (.reg [ro 27 (.mv (.t 1)),
  ro 28 (.call (.f 36) [(.t 27)]),
  ro 8 (.asg (.t 28))] (some [1, 2, 6, 7, 8])) c8_30
def c8_26 : SC := .seq (.reg [ro 25 (.ld 43 (.t 2)),
  ro 26 (.call (.f 21) [(.t 25)]),
  ro 7 (.alc 50),
  ⟨none, .sto 50 (.t 7) (.t 26), none⟩] (some [1, 2, 6, 7])) c8_28
def c8_24 : SC := .seq (.reg [ro 20 (.ld 43 (.t 2)),
  ro 21 (.call (.f 21) [(.t 20)]),
  ro 22 (.mv (.t 1)),
  ro 23 (.call (.f 36) [(.t 22)]),
  ro 24 (.call (.f 35) [(.t 21), (.t 23)]),
  ro 6 (.asg (.t 24))] (some [1, 2, 6])) c8_26
def c8_16 : SC := .seq (.seq (.reg [ro 18 (.mv (.t 5)),
  ro 19 (.bn .lss 3 (.t 18) (.c (.int .i64 0)))] (some [1, 2, 19])) c8_19) c8_24
def c8_14 : SC := .seq (.reg [ro 15 (.mv (.t 1)),
  ro 16 (.mv (.t 5)),
  ro 17 (.call (.f 34) [(.t 15), (.t 16)]),
  ro 5 (.asg (.t 17))] (some [1, 2, 5])) c8_16
def c8_6 : SC := .seq (.seq (.reg [ro 13 (.mv (.t 5)),
  ro 14 (.bn .lss 3 (.t 13) (.c (.int .i64 0)))] (some [1, 2, 5, 14])) c8_9) c8_14
def c8_4 : SC := .seq (.reg [ro 10 (.ld 43 (.t 2)),
  ro 11 (.mv (.t 5)),
  ro 12 (.call (.f 19) [(.t 10), (.t 11)]),
  ro 5 (.asg (.t 12))] (some [1, 2, 5])) c8_6
def c8_2 : SC := .seq (.reg [ro 5 (.asg (.c (.int .i64 1048576)))] (some [1, 2, 5])) c8_4
/-- loop.example/g01075/laws.FnExactValidState -/
def c8 : SC := .seq (.reg [ro 2 (.bx 43 (.t 0)),
  ro 4 (.asg (.c (.bool false)))] (some [1, 2])) c8_2
theorem s8 : slimC ⟨45, [0, 1]⟩ (Tryz.f8.body.getD .skip) = some c8.strip := by kernel_rfl

end Go.Proofs.YtobljppjkklojaaGreat
