/- Part of a proof that a law returns true for every input. No condition. -/
import Derived.Test.YtobljppjkklojaaTb
import Derived.Test.YtobljppjkklojaaFwI
import Derived.Test.YtobljppjkklojaaP5
namespace Go.Proofs.Ytobljppjkklojaa
open Go Go.Fw Go.Sh
set_option linter.unusedSimpArgs false

def e_laws_Term (x : laws_Term) : AV := .agg [.int .i64 x.Kind, .int .i64 x.Value]
theorem sh_e_laws_Term (x : laws_Term) : (e_laws_Term x).share = e_laws_Term x := by
  simp only [e_laws_Term, share_s]
theorem ns_e_laws_Term (x : laws_Term) : (e_laws_Term x).nosh = true := by
  simp only [e_laws_Term, AV.nosh, AV.noshs, Bool.and_self]
def e_i64 (x : Int) : AV := .int .i64 x
theorem sh_e_i64 (x : Int) : (e_i64 x).share = e_i64 x := by
  simp only [e_i64, share_s]
theorem ns_e_i64 (x : Int) : (e_i64 x).nosh = true := by
  simp only [e_i64, AV.nosh, AV.noshs, Bool.and_self]
def e_impl_Term (x : impl_Term) : AV := .agg [.int .i64 x.Kind, .int .i64 x.Value]
theorem sh_e_impl_Term (x : impl_Term) : (e_impl_Term x).share = e_impl_Term x := by
  simp only [e_impl_Term, share_s]
theorem ns_e_impl_Term (x : impl_Term) : (e_impl_Term x).nosh = true := by
  simp only [e_impl_Term, AV.nosh, AV.noshs, Bool.and_self]
theorem impl_expr_pj : (∀ a0 a1, (impl_expr.mk a0 a1).term = a0) ∧ (∀ a0 a1, (impl_expr.mk a0 a1).args = a1) := ⟨fun _ _ => rfl, fun _ _ => rfl⟩
mutual
def e_impl_expr : impl_expr → AV
  | .mk a0 a1 => .agg [e_impl_Term a0, .slice (e_impl_expr_l a1)]
def e_impl_expr_l : List impl_expr → List AV
  | [] => []
  | y :: r => .ref (e_impl_expr y) :: e_impl_expr_l r
end
def e_p_impl_expr (x : impl_expr) : AV := .ref (e_impl_expr x)
theorem e_impl_expr_le : ∀ l, e_impl_expr_l l = l.map e_p_impl_expr
  | [] => by simp only [e_impl_expr_l, List.map_nil]
  | y :: r => by simp only [e_impl_expr_l, List.map_cons, e_impl_expr_le r, e_p_impl_expr]
theorem e_impl_expr_eq (x : impl_expr) : e_impl_expr x = .agg [e_impl_Term x.term, .slice (x.args.map e_p_impl_expr)] := by
  cases x; simp only [e_impl_expr, e_impl_expr_le, impl_expr.term, impl_expr.args]
mutual
theorem sh_e_impl_expr : ∀ x : impl_expr, (e_impl_expr x).share = e_impl_expr x
  | .mk a0 a1 => by simp only [e_impl_expr, share_s, AV.share, AV.shares, sh_e_impl_expr_l a1, sh_e_impl_Term]
theorem sh_e_impl_expr_l : ∀ l : List impl_expr, AV.shares (e_impl_expr_l l) = e_impl_expr_l l
  | [] => by simp only [e_impl_expr_l, AV.shares]
  | y :: r => by simp only [e_impl_expr_l, AV.shares, AV.share, sh_e_impl_expr y, sh_e_impl_expr_l r]
end
theorem sh_e_p_impl_expr (x : impl_expr) : (e_p_impl_expr x).share = e_p_impl_expr x := by simp only [e_p_impl_expr, AV.share, sh_e_impl_expr]
mutual
def u_impl_expr : impl_expr → AV
  | .mk a0 a1 => .agg [e_impl_Term a0, .uslice 1 (u_impl_expr_l a1)]
def u_impl_expr_l : List impl_expr → List AV
  | [] => []
  | y :: r => .ubox (u_impl_expr y) :: u_impl_expr_l r
end
def u_p_impl_expr (x : impl_expr) : AV := .ubox (u_impl_expr x)
theorem u_impl_expr_le : ∀ l, u_impl_expr_l l = l.map u_p_impl_expr
  | [] => by simp only [u_impl_expr_l, List.map_nil]
  | y :: r => by simp only [u_impl_expr_l, List.map_cons, u_impl_expr_le r, u_p_impl_expr]
theorem u_impl_expr_eq (x : impl_expr) : u_impl_expr x = .agg [e_impl_Term x.term, .uslice 1 (x.args.map u_p_impl_expr)] := by
  cases x; simp only [u_impl_expr, u_impl_expr_le, impl_expr.term, impl_expr.args]
mutual
theorem sh_u_impl_expr : ∀ x : impl_expr, (u_impl_expr x).share = e_impl_expr x
  | .mk a0 a1 => by simp only [u_impl_expr, e_impl_expr, share_s, AV.share, AV.shares, sh_u_impl_expr_l a1, sh_e_impl_Term]
theorem sh_u_impl_expr_l : ∀ l : List impl_expr, AV.shares (u_impl_expr_l l) = e_impl_expr_l l
  | [] => by simp only [u_impl_expr_l, e_impl_expr_l, AV.shares]
  | y :: r => by simp only [u_impl_expr_l, e_impl_expr_l, AV.shares, AV.share, sh_u_impl_expr y, sh_u_impl_expr_l r]
end
theorem sh_u_p_impl_expr (x : impl_expr) : (u_p_impl_expr x).share = e_p_impl_expr x := by simp only [u_p_impl_expr, e_p_impl_expr, AV.share, sh_u_impl_expr]
mutual
theorem ns_u_impl_expr : ∀ x : impl_expr, (u_impl_expr x).nosh = true
  | .mk a0 a1 => by simp [u_impl_expr, AV.nosh, AV.noshs, ns_u_impl_expr_l a1, e_impl_Term]
theorem ns_u_impl_expr_l : ∀ l : List impl_expr, AV.noshs (u_impl_expr_l l) = true
  | [] => by simp only [u_impl_expr_l, AV.noshs]
  | y :: r => by simp only [u_impl_expr_l, AV.noshs, AV.nosh, ns_u_impl_expr y, ns_u_impl_expr_l r, Bool.and_self]
end
theorem ns_u_p_impl_expr (x : impl_expr) : (u_p_impl_expr x).nosh = true := by simp only [u_p_impl_expr, AV.nosh, ns_u_impl_expr]
def u_s_p_impl_expr (x : List impl_expr) : AV := .uslice 1 (x.map u_p_impl_expr)
def e_s_p_impl_expr (x : List impl_expr) : AV := .slice (x.map e_p_impl_expr)
theorem sh_e_s_p_impl_expr (x : List impl_expr) : (e_s_p_impl_expr x).share = e_s_p_impl_expr x := by
  simp only [e_s_p_impl_expr, share_s, @shares_map _ e_p_impl_expr e_p_impl_expr (fun _ => sh_e_p_impl_expr _)]
theorem sh_u_s_p_impl_expr (x : List impl_expr) : (u_s_p_impl_expr x).share = e_s_p_impl_expr x := by
  simp only [u_s_p_impl_expr, e_s_p_impl_expr, share_s, @shares_map _ u_p_impl_expr e_p_impl_expr (fun _ => sh_u_p_impl_expr _)]
theorem ns_u_s_p_impl_expr (x : List impl_expr) : (u_s_p_impl_expr x).nosh = true := by
  simp only [u_s_p_impl_expr, AV.nosh, AV.noshs, Bool.and_self, @noshs_map _ u_p_impl_expr (fun _ => ns_u_p_impl_expr _)]

def c31_8 : SC := .seq (.reg [⟨some 4, .asg (.c (.int .i64 (-1))), none⟩] (some [4])) .ret
def c31_7 : SC := .cond (.t 10) c31_8 .skip
def c31_12 : SC := .seq (.reg [⟨some 11, .mv (.t 1), none⟩,
  ⟨some 4, .asg (.t 11), none⟩] (some [4])) .ret
def c31_4 : SC := .seq (.seq (.reg [⟨some 9, .mv (.t 1), none⟩,
  ⟨some 10, .bn .lss 3 (.t 9) (.c (.int .i64 0)), none⟩] (some [1, 10])) c31_7) c31_12
def c31_2 : SC := .seq (.reg [⟨some 5, .mv (.t 1), none⟩,
  ⟨some 6, .mv (.t 0), none⟩,
  ⟨some 7, .len 36 (.t 6), none⟩,
  ⟨some 8, .bn .sub 3 (.t 5) (.t 7), none⟩,
  ⟨some 1, .asg (.t 8), none⟩] (some [1])) c31_4
/-- loop.example/g01075/laws.szTermS -/
def c31 : SC := .seq (.reg [⟨some 4, .asg (.c (.int .i64 0)), none⟩] (some [0, 1])) c31_2
theorem s31 : slimC ⟨12, [0]⟩ (Try.f31.body.getD .skip) = some c31.strip := by kernel_rfl

def c107_8 : SC := .seq (.reg [⟨some 10, .ld 131 (.t 3), none⟩,
  ⟨none, .sto 131 (.t 2) (.t 10), none⟩] (some [2])) .ret
def c107_6 : SC := .seq (.reg [⟨some 7, .fa 133 (.t 1) 1, none⟩,
  ⟨some 8, .ld 2 (.t 7), none⟩,
  ⟨some 9, .fa 131 (.t 3) 1, none⟩,
  ⟨none, .sto 2 (.t 9) (.t 8), none⟩] (some [2, 3])) c107_8
def c107_4 : SC := .seq (.reg [⟨some 4, .fa 133 (.t 1) 0, none⟩,
  ⟨some 5, .ld 2 (.t 4), none⟩,
  ⟨some 6, .fa 131 (.t 3) 0, none⟩,
  ⟨none, .sto 2 (.t 6) (.t 5), none⟩] (some [1, 2, 3])) c107_6
def c107_2 : SC := .seq (.reg [⟨some 3, .alc 131, none⟩] (some [1, 2, 3])) c107_4
/-- loop.example/g01075/laws.toTerm -/
def c107 : SC := .seq (.reg [⟨some 1, .bx 133 (.t 0), none⟩,
  ⟨some 2, .alc 131, none⟩] (some [1, 2])) c107_2
theorem s107 : slimC ⟨11, [0]⟩ (Try.f107.body.getD .skip) = some c107.strip := by kernel_rfl

def c33_12 : SC := .cond (.t 11) .skip (.exit 0)
def c33_18 : SC := .reg [⟨some 12, .mv (.t 4), none⟩,
  ⟨some 13, .bn .add 3 (.t 12) (.c (.int .i64 1)), none⟩,
  ⟨some 4, .asg (.t 13), none⟩] (some [0, 3, 4])
def c33_15 : SC := .seq (.block 1 (.reg [⟨some 14, .mv (.t 3), none⟩,
  ⟨some 15, .mv (.t 4), none⟩,
  ⟨some 16, .mv (.t 0), none⟩,
  ⟨some 17, .mv (.t 4), none⟩,
  ⟨some 18, .ia 36 (.t 16) (.t 17), none⟩,
  ⟨some 19, .ld 133 (.t 18), none⟩,
  ⟨some 20, .call (.f 107) [(.t 19)], none⟩,
  ⟨some 21, .ia 40 (.t 14) (.t 15), none⟩,
  ⟨none, .sto 131 (.t 21) (.t 20), none⟩] (some [0, 3, 4]))) c33_18
def c33_9 : SC := .seq (.seq (.reg [⟨some 8, .mv (.t 4), none⟩,
  ⟨some 9, .mv (.t 0), none⟩,
  ⟨some 10, .len 36 (.t 9), none⟩,
  ⟨some 11, .bn .lss 3 (.t 8) (.t 10), none⟩] (some [0, 3, 4, 11])) c33_12) c33_15
def c33_7 : SC := .block 0 (.loop c33_9)
def c33_19 : SC := .seq (.reg [⟨some 22, .mv (.t 3), none⟩,
  ⟨some 2, .asg (.t 22), none⟩] (some [2])) .ret
def c33_4 : SC := .seq (.seq (.reg [⟨some 4, .asg (.c (.int .i64 0)), none⟩] (some [0, 3, 4])) c33_7) c33_19
def c33_2 : SC := .seq (.reg [⟨some 5, .mv (.t 0), none⟩,
  ⟨some 6, .len 36 (.t 5), none⟩,
  ⟨some 7, .mks 40 (.t 6) (.t 6), none⟩,
  ⟨some 3, .asg (.t 7), none⟩] (some [0, 3])) c33_4
/-- loop.example/g01075/laws.toTermS -/
def c33 : SC := .seq (.reg [⟨some 2, .asg (.c .nils), none⟩] (some [0])) c33_2
theorem s33 : slimC ⟨23, [0]⟩ (Try.f33.body.getD .skip) = some c33.strip := by kernel_rfl

def c130_2 : SC := .seq (.reg [⟨some 7, .mv (.t 0), none⟩,
  ⟨some 8, .mv (.t 1), none⟩,
  ⟨some 9, .bn .geq 2 (.t 7) (.t 8), none⟩,
  ⟨some 10, .mv (.t 9), none⟩,
  ⟨some 11, .mv (.t 0), some (10, true)⟩,
  ⟨some 12, .mv (.t 2), some (10, true)⟩,
  ⟨some 13, .bn .leq 2 (.t 11) (.t 12), some (10, true)⟩,
  ⟨some 14, .pick (.t 10) (.t 13) (.c (.bool false)), none⟩,
  ⟨some 6, .asg (.t 14), none⟩] (some [6])) .ret
/-- loop.example/g01075/spec.l00In -/
def c130 : SC := .seq (.reg [⟨some 6, .asg (.c (.bool false)), none⟩] (some [0, 1, 2])) c130_2
theorem s130 : slimC ⟨15, [0, 1, 2]⟩ (Try.f130.body.getD .skip) = some c130.strip := by kernel_rfl

def c268_9 : SC := .seq (.reg [⟨some 11, .mv (.t 0), none⟩,
  ⟨some 12, .nilc (.t 11), none⟩,
  ⟨some 13, .fa 131 (.t 12) 1, none⟩,
  ⟨some 14, .ld 2 (.t 13), none⟩,
  ⟨some 15, .call (.f 130) [(.t 14), (.c (.int .i64 0)), (.c (.int .i64 63))], none⟩,
  ⟨some 4, .asg (.t 15), none⟩] (some [4])) .ret
def c268_15 : SC := .seq (.reg [⟨some 18, .mv (.t 0), none⟩,
  ⟨some 19, .nilc (.t 18), none⟩,
  ⟨some 20, .fa 131 (.t 19) 1, none⟩,
  ⟨some 21, .ld 2 (.t 20), none⟩,
  ⟨some 22, .mv (.t 1), none⟩,
  ⟨some 23, .bn .sub 2 (.t 22) (.c (.int .i64 1)), none⟩,
  ⟨some 24, .call (.f 130) [(.t 21), (.c (.int .i64 0)), (.t 23)], none⟩,
  ⟨some 4, .asg (.t 24), none⟩] (some [4])) .ret
def c268_21 : SC := .seq (.reg [⟨some 27, .mv (.t 0), none⟩,
  ⟨some 28, .nilc (.t 27), none⟩,
  ⟨some 29, .fa 131 (.t 28) 1, none⟩,
  ⟨some 30, .ld 2 (.t 29), none⟩,
  ⟨some 31, .call (.f 130) [(.t 30), (.c (.int .i64 0)), (.c (.int .i64 8))], none⟩,
  ⟨some 4, .asg (.t 31), none⟩] (some [4])) .ret
def c268_27 : SC := .seq (.reg [⟨some 34, .mv (.t 0), none⟩,
  ⟨some 35, .nilc (.t 34), none⟩,
  ⟨some 36, .fa 131 (.t 35) 1, none⟩,
  ⟨some 37, .ld 2 (.t 36), none⟩,
  ⟨some 38, .bn .eql 2 (.t 37) (.c (.int .i64 0)), none⟩,
  ⟨some 4, .asg (.t 38), none⟩] (some [4])) .ret
def c268_26 : SC := .cond (.t 32) c268_27 .skip
def c268_24 : SC := .seq (.reg [⟨some 33, .bn .eql 2 (.t 8) (.c (.int .i64 3)), none⟩,
  ⟨some 32, .asg (.t 33), none⟩] (some [0, 32])) c268_26
def c268_20 : SC := .cond (.t 25) c268_21 c268_24
def c268_18 : SC := .seq (.reg [⟨some 26, .bn .eql 2 (.t 8) (.c (.int .i64 2)), none⟩,
  ⟨some 25, .asg (.t 26), none⟩] (some [0, 8, 25])) c268_20
def c268_14 : SC := .cond (.t 16) c268_15 c268_18
def c268_12 : SC := .seq (.reg [⟨some 17, .bn .eql 2 (.t 8) (.c (.int .i64 1)), none⟩,
  ⟨some 16, .asg (.t 17), none⟩] (some [0, 1, 8, 16])) c268_14
def c268_8 : SC := .cond (.t 9) c268_9 c268_12
def c268_5 : SC := .block 0 (.seq (.reg [⟨some 10, .bn .eql 2 (.t 8) (.c (.int .i64 0)), none⟩,
  ⟨some 9, .asg (.t 10), none⟩] (some [0, 1, 8, 9])) c268_8)
def c268_31 : SC := .seq (.reg [⟨some 4, .asg (.c (.bool false)), none⟩] (some [4])) .ret
def c268_2 : SC := .seq (.seq (.reg [⟨some 5, .mv (.t 0), none⟩,
  ⟨some 6, .nilc (.t 5), none⟩,
  ⟨some 7, .fa 131 (.t 6) 0, none⟩,
  ⟨some 8, .ld 2 (.t 7), none⟩] (some [0, 1, 8])) c268_5) c268_31
/-- loop.example/g01075/spec.l03Term -/
def c268 : SC := .seq (.reg [⟨some 4, .asg (.c (.bool false)), none⟩] (some [0, 1])) c268_2
theorem s268 : slimC ⟨39, [0, 1]⟩ (Try.f268.body.getD .skip) = some c268.strip := by kernel_rfl

def c196_9 : SC := .seq (.reg [⟨some 2, .asg (.c (.int .i64 2)), none⟩] (some [2])) .ret
def c196_15 : SC := .seq (.reg [⟨some 2, .asg (.c (.int .i64 1)), none⟩] (some [2])) .ret
def c196_14 : SC := .cond (.t 9) c196_15 .skip
def c196_12 : SC := .seq (.reg [⟨some 10, .bn .eql 2 (.t 6) (.c (.int .i64 3)), none⟩,
  ⟨some 9, .asg (.t 10), none⟩] (some [9])) c196_14
def c196_8 : SC := .cond (.t 7) c196_9 c196_12
def c196_5 : SC := .block 0 (.seq (.reg [⟨some 8, .bn .eql 2 (.t 6) (.c (.int .i64 2)), none⟩,
  ⟨some 7, .asg (.t 8), none⟩] (some [6, 7])) c196_8)
def c196_19 : SC := .seq (.reg [⟨some 2, .asg (.c (.int .i64 0)), none⟩] (some [2])) .ret
def c196_2 : SC := .seq (.seq (.reg [⟨some 3, .mv (.t 0), none⟩,
  ⟨some 4, .nilc (.t 3), none⟩,
  ⟨some 5, .fa 131 (.t 4) 0, none⟩,
  ⟨some 6, .ld 2 (.t 5), none⟩] (some [6])) c196_5) c196_19
/-- loop.example/g01075/spec.l03Arity -/
def c196 : SC := .seq (.reg [⟨some 2, .asg (.c (.int .i64 0)), none⟩] (some [0])) c196_2
theorem s196 : slimC ⟨11, [0]⟩ (Try.f196.body.getD .skip) = some c196.strip := by kernel_rfl

def c195_6 : SC := .seq (.reg [⟨some 6, .asg (.c (.bool false)), none⟩] (some [6])) .ret
def c195_5 : SC := .cond (.t 12) c195_6 .skip
def c195_20 : SC := .cond (.t 16) .skip (.exit 0)
def c195_29 : SC := .seq (.reg [⟨some 6, .asg (.c (.bool false)), none⟩] (some [6])) .ret
def c195_28 : SC := .cond (.t 28) c195_29 .skip
def c195_33 : SC := .reg [⟨some 29, .mv (.t 7), none⟩,
  ⟨some 30, .mv (.t 0), none⟩,
  ⟨some 31, .mv (.t 8), none⟩,
  ⟨some 32, .ia 40 (.t 30) (.t 31), none⟩,
  ⟨some 33, .call (.f 196) [(.t 32)], none⟩,
  ⟨some 34, .bn .sub 2 (.t 33) (.c (.int .i64 1)), none⟩,
  ⟨some 35, .bn .add 2 (.t 29) (.t 34), none⟩,
  ⟨some 7, .asg (.t 35), none⟩] (some [0, 1, 7, 8])
def c195_34 : SC := .reg [⟨some 17, .mv (.t 8), none⟩,
  ⟨some 18, .bn .add 3 (.t 17) (.c (.int .i64 1)), none⟩,
  ⟨some 8, .asg (.t 18), none⟩] (some [0, 1, 7, 8])
def c195_23 : SC := .seq (.block 1 (.seq (.seq (.reg [⟨some 19, .mv (.t 7), none⟩,
  ⟨some 20, .bn .eql 2 (.t 19) (.c (.int .i64 0)), none⟩,
  ⟨some 21, .mv (.t 20), none⟩,
  ⟨some 22, .mv (.t 0), some (21, false)⟩,
  ⟨some 23, .mv (.t 8), some (21, false)⟩,
  ⟨some 24, .ia 40 (.t 22) (.t 23), some (21, false)⟩,
  ⟨some 25, .mv (.t 1), some (21, false)⟩,
  ⟨some 26, .call (.f 268) [(.t 24), (.t 25)], some (21, false)⟩,
  ⟨some 27, .un .not (.t 26), some (21, false)⟩,
  ⟨some 28, .pick (.t 21) (.c (.bool true)) (.t 27), none⟩] (some [0, 1, 7, 8, 28])) c195_28) c195_33)) c195_34
def c195_17 : SC := .seq (.seq (.reg [⟨some 13, .mv (.t 8), none⟩,
  ⟨some 14, .mv (.t 0), none⟩,
  ⟨some 15, .len 40 (.t 14), none⟩,
  ⟨some 16, .bn .lss 3 (.t 13) (.t 15), none⟩] (some [0, 1, 7, 8, 16])) c195_20) c195_23
def c195_15 : SC := .block 0 (.loop c195_17)
def c195_35 : SC := .seq (.reg [⟨some 36, .mv (.t 7), none⟩,
  ⟨some 37, .bn .eql 2 (.t 36) (.c (.int .i64 0)), none⟩,
  ⟨some 6, .asg (.t 37), none⟩] (some [6])) .ret
def c195_12 : SC := .seq (.seq (.reg [⟨some 8, .asg (.c (.int .i64 0)), none⟩] (some [0, 1, 7, 8])) c195_15) c195_35
def c195_10 : SC := .seq (.reg [⟨some 7, .asg (.c (.int .i64 1)), none⟩] (some [0, 1, 7])) c195_12
def c195_2 : SC := .seq (.seq (.reg [⟨some 9, .mv (.t 0), none⟩,
  ⟨some 10, .len 40 (.t 9), none⟩,
  ⟨some 11, .mv (.t 2), none⟩,
  ⟨some 12, .bn .gtr 2 (.t 10) (.t 11), none⟩] (some [0, 1, 12])) c195_5) c195_10
/-- loop.example/g01075/spec.l03Is -/
def c195 : SC := .seq (.reg [⟨some 6, .asg (.c (.bool false)), none⟩] (some [0, 1, 2])) c195_2
theorem s195 : slimC ⟨38, [0, 1, 2]⟩ (Try.f195.body.getD .skip) = some c195.strip := by kernel_rfl

def c105_2 : SC := .seq (.reg [⟨some 3, .mv (.t 0), none⟩,
  ⟨some 4, .call (.f 195) [(.t 3), (.c (.int .i64 29)), (.c (.int .i64 60))], none⟩,
  ⟨some 2, .asg (.t 4), none⟩] (some [2])) .ret
/-- loop.example/g01075/spec.l03Any -/
def c105 : SC := .seq (.reg [⟨some 2, .asg (.c (.bool false)), none⟩] (some [0])) c105_2
theorem s105 : slimC ⟨5, [0]⟩ (Try.f105.body.getD .skip) = some c105.strip := by kernel_rfl

def c197_2 : SC := .seq (.reg [⟨some 3, .bsl 40 0 [], none⟩,
  ⟨some 4, .mv (.t 0), none⟩,
  ⟨some 5, .app 40 40 (.t 3) (.t 4), none⟩,
  ⟨some 2, .asg (.t 5), none⟩] (some [2])) .ret
/-- loop.example/g01075/spec.l03Own -/
def c197 : SC := .seq (.reg [⟨some 2, .asg (.c .nils), none⟩] (some [0])) c197_2
theorem s197 : slimC ⟨6, [0]⟩ (Try.f197.body.getD .skip) = some c197.strip := by kernel_rfl

def c198_10 : SC := .cond (.t 7) .skip (.exit 0)
def c198_16 : SC := .reg [⟨some 15, .mv (.t 1), none⟩,
  ⟨some 16, .bn .add 2 (.t 15) (.c (.int .i64 1)), none⟩,
  ⟨some 1, .asg (.t 16), none⟩] (some [0, 1, 5])
def c198_13 : SC := .block 1 (.seq (.reg [⟨some 8, .mv (.t 5), none⟩,
  ⟨some 9, .mv (.t 0), none⟩,
  ⟨some 10, .mv (.t 1), none⟩,
  ⟨some 11, .ia 40 (.t 9) (.t 10), none⟩,
  ⟨some 12, .call (.f 196) [(.t 11)], none⟩,
  ⟨some 13, .bn .sub 2 (.t 12) (.c (.int .i64 1)), none⟩,
  ⟨some 14, .bn .add 2 (.t 8) (.t 13), none⟩,
  ⟨some 5, .asg (.t 14), none⟩] (some [0, 1, 5])) c198_16)
def c198_7 : SC := .seq (.seq (.reg [⟨some 6, .mv (.t 5), none⟩,
  ⟨some 7, .bn .gtr 2 (.t 6) (.c (.int .i64 0)), none⟩] (some [0, 1, 5, 7])) c198_10) c198_13
def c198_17 : SC := .seq (.reg [⟨some 17, .mv (.t 1), none⟩,
  ⟨some 4, .asg (.t 17), none⟩] (some [4])) .ret
def c198_4 : SC := .seq (.block 0 (.loop c198_7)) c198_17
def c198_2 : SC := .seq (.reg [⟨some 5, .asg (.c (.int .i64 1)), none⟩] (some [0, 1, 5])) c198_4
/-- loop.example/g01075/spec.l03End -/
def c198 : SC := .seq (.reg [⟨some 4, .asg (.c (.int .i64 0)), none⟩] (some [0, 1])) c198_2
theorem s198 : slimC ⟨18, [0]⟩ (Try.f198.body.getD .skip) = some c198.strip := by kernel_rfl

def c188_6 : SC := .seq (.reg [⟨some 2, .asg (.c (.int .i64 1)), none⟩] (some [2])) .ret
def c188_5 : SC := .cond (.t 3) c188_6 .skip
def c188_10 : SC := .seq (.reg [⟨some 2, .asg (.c (.int .i64 0)), none⟩] (some [2])) .ret
def c188_2 : SC := .seq (.seq (.reg [⟨some 3, .mv (.t 0), none⟩] (some [3])) c188_5) c188_10
/-- loop.example/g01075/spec.l03Truth -/
def c188 : SC := .seq (.reg [⟨some 2, .asg (.c (.int .i64 0)), none⟩] (some [0])) c188_2
theorem s188 : slimC ⟨4, [0]⟩ (Try.f188.body.getD .skip) = some c188.strip := by kernel_rfl

def c199_9 : SC := .seq (.reg [⟨some 10, .mv (.t 1), none⟩,
  ⟨some 11, .mv (.t 2), none⟩,
  ⟨some 12, .bn .add 2 (.t 10) (.t 11), none⟩,
  ⟨some 13, .bn .rem 2 (.t 12) (.c (.int .i64 64)), none⟩,
  ⟨some 6, .asg (.t 13), none⟩] (some [6])) .ret
def c199_15 : SC := .seq (.reg [⟨some 16, .mv (.t 1), none⟩,
  ⟨some 17, .mv (.t 2), none⟩,
  ⟨some 18, .bn .sub 2 (.t 16) (.t 17), none⟩,
  ⟨some 19, .bn .add 2 (.t 18) (.c (.int .i64 64)), none⟩,
  ⟨some 20, .bn .rem 2 (.t 19) (.c (.int .i64 64)), none⟩,
  ⟨some 6, .asg (.t 20), none⟩] (some [6])) .ret
def c199_21 : SC := .seq (.reg [⟨some 23, .mv (.t 1), none⟩,
  ⟨some 24, .mv (.t 2), none⟩,
  ⟨some 25, .bn .mul 2 (.t 23) (.t 24), none⟩,
  ⟨some 26, .bn .rem 2 (.t 25) (.c (.int .i64 64)), none⟩,
  ⟨some 6, .asg (.t 26), none⟩] (some [6])) .ret
def c199_27 : SC := .seq (.reg [⟨some 29, .mv (.t 1), none⟩,
  ⟨some 30, .mv (.t 2), none⟩,
  ⟨some 31, .bn .eql 2 (.t 29) (.t 30), none⟩,
  ⟨some 32, .call (.f 188) [(.t 31)], none⟩,
  ⟨some 6, .asg (.t 32), none⟩] (some [6])) .ret
def c199_33 : SC := .seq (.reg [⟨some 35, .mv (.t 1), none⟩,
  ⟨some 36, .mv (.t 2), none⟩,
  ⟨some 37, .bn .neq 2 (.t 35) (.t 36), none⟩,
  ⟨some 38, .call (.f 188) [(.t 37)], none⟩,
  ⟨some 6, .asg (.t 38), none⟩] (some [6])) .ret
def c199_39 : SC := .seq (.reg [⟨some 41, .mv (.t 1), none⟩,
  ⟨some 42, .mv (.t 2), none⟩,
  ⟨some 43, .bn .lss 2 (.t 41) (.t 42), none⟩,
  ⟨some 44, .call (.f 188) [(.t 43)], none⟩,
  ⟨some 6, .asg (.t 44), none⟩] (some [6])) .ret
def c199_45 : SC := .seq (.reg [⟨some 47, .mv (.t 1), none⟩,
  ⟨some 48, .mv (.t 2), none⟩,
  ⟨some 49, .bn .leq 2 (.t 47) (.t 48), none⟩,
  ⟨some 50, .call (.f 188) [(.t 49)], none⟩,
  ⟨some 6, .asg (.t 50), none⟩] (some [6])) .ret
def c199_51 : SC := .seq (.reg [⟨some 53, .mv (.t 1), none⟩,
  ⟨some 54, .bn .neq 2 (.t 53) (.c (.int .i64 0)), none⟩,
  ⟨some 55, .mv (.t 54), none⟩,
  ⟨some 56, .mv (.t 2), some (55, true)⟩,
  ⟨some 57, .bn .neq 2 (.t 56) (.c (.int .i64 0)), some (55, true)⟩,
  ⟨some 58, .pick (.t 55) (.t 57) (.c (.bool false)), none⟩,
  ⟨some 59, .call (.f 188) [(.t 58)], none⟩,
  ⟨some 6, .asg (.t 59), none⟩] (some [6])) .ret
def c199_50 : SC := .cond (.t 51) c199_51 .skip
def c199_48 : SC := .seq (.reg [⟨some 52, .bn .eql 2 (.t 7) (.c (.int .i64 7)), none⟩,
  ⟨some 51, .asg (.t 52), none⟩] (some [1, 2, 51])) c199_50
def c199_44 : SC := .cond (.t 45) c199_45 c199_48
def c199_42 : SC := .seq (.reg [⟨some 46, .bn .eql 2 (.t 7) (.c (.int .i64 6)), none⟩,
  ⟨some 45, .asg (.t 46), none⟩] (some [1, 2, 7, 45])) c199_44
def c199_38 : SC := .cond (.t 39) c199_39 c199_42
def c199_36 : SC := .seq (.reg [⟨some 40, .bn .eql 2 (.t 7) (.c (.int .i64 5)), none⟩,
  ⟨some 39, .asg (.t 40), none⟩] (some [1, 2, 7, 39])) c199_38
def c199_32 : SC := .cond (.t 33) c199_33 c199_36
def c199_30 : SC := .seq (.reg [⟨some 34, .bn .eql 2 (.t 7) (.c (.int .i64 4)), none⟩,
  ⟨some 33, .asg (.t 34), none⟩] (some [1, 2, 7, 33])) c199_32
def c199_26 : SC := .cond (.t 27) c199_27 c199_30
def c199_24 : SC := .seq (.reg [⟨some 28, .bn .eql 2 (.t 7) (.c (.int .i64 3)), none⟩,
  ⟨some 27, .asg (.t 28), none⟩] (some [1, 2, 7, 27])) c199_26
def c199_20 : SC := .cond (.t 21) c199_21 c199_24
def c199_18 : SC := .seq (.reg [⟨some 22, .bn .eql 2 (.t 7) (.c (.int .i64 2)), none⟩,
  ⟨some 21, .asg (.t 22), none⟩] (some [1, 2, 7, 21])) c199_20
def c199_14 : SC := .cond (.t 14) c199_15 c199_18
def c199_12 : SC := .seq (.reg [⟨some 15, .bn .eql 2 (.t 7) (.c (.int .i64 1)), none⟩,
  ⟨some 14, .asg (.t 15), none⟩] (some [1, 2, 7, 14])) c199_14
def c199_8 : SC := .cond (.t 8) c199_9 c199_12
def c199_5 : SC := .block 0 (.seq (.reg [⟨some 9, .bn .eql 2 (.t 7) (.c (.int .i64 0)), none⟩,
  ⟨some 8, .asg (.t 9), none⟩] (some [1, 2, 7, 8])) c199_8)
def c199_55 : SC := .seq (.reg [⟨some 60, .mv (.t 1), none⟩,
  ⟨some 61, .bn .neq 2 (.t 60) (.c (.int .i64 0)), none⟩,
  ⟨some 62, .mv (.t 61), none⟩,
  ⟨some 63, .mv (.t 2), some (62, false)⟩,
  ⟨some 64, .bn .neq 2 (.t 63) (.c (.int .i64 0)), some (62, false)⟩,
  ⟨some 65, .pick (.t 62) (.c (.bool true)) (.t 64), none⟩,
  ⟨some 66, .call (.f 188) [(.t 65)], none⟩,
  ⟨some 6, .asg (.t 66), none⟩] (some [6])) .ret
def c199_2 : SC := .seq (.seq (.reg [⟨some 7, .mv (.t 0), none⟩] (some [1, 2, 7])) c199_5) c199_55
/-- loop.example/g01075/spec.l03Op -/
def c199 : SC := .seq (.reg [⟨some 6, .asg (.c (.int .i64 0)), none⟩] (some [0, 1, 2])) c199_2
theorem s199 : slimC ⟨67, [0, 1, 2]⟩ (Try.f199.body.getD .skip) = some c199.strip := by kernel_rfl

def c106_6 : SC := .seq (.reg [⟨some 11, .mv (.t 0), none⟩,
  ⟨some 12, .call (.f 197) [(.t 11)], none⟩,
  ⟨some 2, .asg (.t 12), none⟩] (some [2])) .ret
def c106_5 : SC := .cond (.t 10) c106_6 .skip
def c106_22 : SC := .seq (.reg [⟨some 29, .mv (.t 4), none⟩,
  ⟨some 30, .ia 40 (.t 29) (.c (.int .i64 0)), none⟩,
  ⟨some 31, .fa 131 (.t 30) 1, none⟩,
  ⟨some 32, .ld 2 (.t 31), none⟩,
  ⟨some 33, .bn .eql 2 (.t 32) (.c (.int .i64 0)), none⟩,
  ⟨some 34, .call (.f 188) [(.t 33)], none⟩,
  ⟨some 35, .bld 131 [(0, (.c (.int .i64 0))), (1, (.t 34))], none⟩,
  ⟨some 36, .bsl 40 1 [(0, (.t 35))], none⟩,
  ⟨some 2, .asg (.t 36), none⟩] (some [2])) .ret
def c106_21 : SC := .cond (.t 28) c106_22 .skip
def c106_26 : SC := .seq (.reg [⟨some 37, .mv (.t 0), none⟩,
  ⟨some 38, .ia 40 (.t 37) (.c (.int .i64 0)), none⟩,
  ⟨some 39, .ld 131 (.t 38), none⟩,
  ⟨some 40, .bsl 40 1 [(0, (.t 39))], none⟩,
  ⟨some 41, .mv (.t 4), none⟩,
  ⟨some 42, .app 40 40 (.t 40) (.t 41), none⟩,
  ⟨some 2, .asg (.t 42), none⟩] (some [2])) .ret
def c106_18 : SC := .seq (.seq (.reg [⟨some 24, .mv (.t 4), none⟩,
  ⟨some 25, .ia 40 (.t 24) (.c (.int .i64 0)), none⟩,
  ⟨some 26, .fa 131 (.t 25) 0, none⟩,
  ⟨some 27, .ld 2 (.t 26), none⟩,
  ⟨some 28, .bn .eql 2 (.t 27) (.c (.int .i64 0)), none⟩] (some [0, 4, 28])) c106_21) c106_26
def c106_17 : SC := .cond (.t 23) c106_18 .skip
def c106_36 : SC := .seq (.drw [⟨some 59, .mv (.t 0), none⟩,
  ⟨some 60, .ia 40 (.t 59) (.c (.int .i64 0)), none⟩,
  ⟨some 61, .fa 131 (.t 60) 1, none⟩,
  ⟨some 62, .ld 2 (.t 61), none⟩,
  ⟨some 63, .mv (.t 4), none⟩,
  ⟨some 64, .ia 40 (.t 63) (.c (.int .i64 0)), none⟩,
  ⟨some 65, .fa 131 (.t 64) 1, none⟩,
  ⟨some 66, .ld 2 (.t 65), none⟩,
  ⟨some 67, .mv (.t 5), none⟩,
  ⟨some 68, .ia 40 (.t 67) (.c (.int .i64 0)), none⟩,
  ⟨some 69, .fa 131 (.t 68) 1, none⟩,
  ⟨some 70, .ld 2 (.t 69), none⟩,
  ⟨some 71, .call (.f 199) [(.t 62), (.t 66), (.t 70)], none⟩,
  ⟨some 72, .bld 131 [(0, (.c (.int .i64 0))), (1, (.t 71))], none⟩,
  ⟨some 73, .bsl 40 1 [(0, (.t 72))], none⟩,
  ⟨some 2, .asg (.t 73), none⟩] [[], [0], [1], [2], [], [4], [5], [6], [], [8], [9], [10], [3, 7, 11], [12], [13], [14, 12, 0, 1, 2, 3, 4, 5, 6, 7, 8, 9, 10, 11, 12, 13, 14]] (some [2])) .ret
def c106_35 : SC := .cond (.t 58) c106_36 .skip
def c106_42 : SC := .seq (.reg [⟨some 80, .mv (.t 6), none⟩,
  ⟨some 81, .mv (.t 5), none⟩,
  ⟨some 82, .app 40 40 (.t 80) (.t 81), none⟩,
  ⟨some 2, .asg (.t 82), none⟩] (some [2])) .ret
def c106_40 : SC := .seq (.reg [⟨some 74, .mv (.t 0), none⟩,
  ⟨some 75, .ia 40 (.t 74) (.c (.int .i64 0)), none⟩,
  ⟨some 76, .ld 131 (.t 75), none⟩,
  ⟨some 77, .bsl 40 1 [(0, (.t 76))], none⟩,
  ⟨some 78, .mv (.t 4), none⟩,
  ⟨some 79, .app 40 40 (.t 77) (.t 78), none⟩,
  ⟨some 6, .asg (.t 79), none⟩] (some [5, 6])) c106_42
def c106_32 : SC := .seq (.seq (.reg [⟨some 47, .mv (.t 4), none⟩,
  ⟨some 48, .ia 40 (.t 47) (.c (.int .i64 0)), none⟩,
  ⟨some 49, .fa 131 (.t 48) 0, none⟩,
  ⟨some 50, .ld 2 (.t 49), none⟩,
  ⟨some 51, .bn .eql 2 (.t 50) (.c (.int .i64 0)), none⟩,
  ⟨some 52, .mv (.t 51), none⟩,
  ⟨some 53, .mv (.t 5), some (52, true)⟩,
  ⟨some 54, .ia 40 (.t 53) (.c (.int .i64 0)), some (52, true)⟩,
  ⟨some 55, .fa 131 (.t 54) 0, some (52, true)⟩,
  ⟨some 56, .ld 2 (.t 55), some (52, true)⟩,
  ⟨some 57, .bn .eql 2 (.t 56) (.c (.int .i64 0)), some (52, true)⟩,
  ⟨some 58, .pick (.t 52) (.t 57) (.c (.bool false)), none⟩] (some [0, 4, 5, 58])) c106_35) c106_40
def c106_30 : SC := .seq (.reg [⟨some 43, .mv (.t 0), none⟩,
  ⟨some 44, .mv (.t 3), none⟩,
  ⟨some 45, .slc 40 (.t 43) (some (.t 44)) none, none⟩,
  ⟨some 46, .call (.f 106) [(.t 45)], none⟩,
  ⟨some 5, .asg (.t 46), none⟩] (some [0, 4, 5])) c106_32
def c106_14 : SC := .seq (.seq (.reg [⟨some 19, .mv (.t 0), none⟩,
  ⟨some 20, .ia 40 (.t 19) (.c (.int .i64 0)), none⟩,
  ⟨some 21, .fa 131 (.t 20) 0, none⟩,
  ⟨some 22, .ld 2 (.t 21), none⟩,
  ⟨some 23, .bn .eql 2 (.t 22) (.c (.int .i64 3)), none⟩] (some [0, 3, 4, 23])) c106_17) c106_30
def c106_12 : SC := .seq (.reg [⟨some 15, .mv (.t 0), none⟩,
  ⟨some 16, .mv (.t 3), none⟩,
  ⟨some 17, .slc 40 (.t 15) (some (.c (.int .i64 1))) (some (.t 16)), none⟩,
  ⟨some 18, .call (.f 106) [(.t 17)], none⟩,
  ⟨some 4, .asg (.t 18), none⟩] (some [0, 3, 4])) c106_14
def c106_10 : SC := .seq (.reg [⟨some 13, .mv (.t 0), none⟩,
  ⟨some 14, .call (.f 198) [(.t 13), (.c (.int .i64 1))], none⟩,
  ⟨some 3, .asg (.t 14), none⟩] (some [0, 3])) c106_12
def c106_2 : SC := .seq (.seq (.reg [⟨some 7, .mv (.t 0), none⟩,
  ⟨some 8, .ia 40 (.t 7) (.c (.int .i64 0)), none⟩,
  ⟨some 9, .call (.f 196) [(.t 8)], none⟩,
  ⟨some 10, .bn .eql 2 (.t 9) (.c (.int .i64 0)), none⟩] (some [0, 10])) c106_5) c106_10
/-- loop.example/g01075/spec.l03Fold -/
def c106 : SC := .seq (.reg [⟨some 2, .asg (.c .nils), none⟩] (some [0])) c106_2
theorem s106 : slimC ⟨83, [0]⟩ (Try.f106.body.getD .skip) = some c106.strip := by kernel_rfl

def c32_6 : SC := .seq (.reg [⟨some 2, .asg (.c (.int .i64 0)), none⟩,
  ⟨some 3, .asg (.c (.int .i64 1)), none⟩] (some [2, 3])) .ret
def c32_5 : SC := .cond (.t 7) c32_6 .skip
def c32_16 : SC := .seq (.reg [⟨some 2, .asg (.c (.int .i64 0)), none⟩,
  ⟨some 3, .asg (.c (.int .i64 3)), none⟩] (some [2, 3])) .ret
def c32_15 : SC := .cond (.t 14) c32_16 .skip
def c32_20 : SC := .seq (.reg [⟨some 15, .mv (.t 4), none⟩,
  ⟨some 16, .ia 40 (.t 15) (.c (.int .i64 0)), none⟩,
  ⟨some 17, .fa 131 (.t 16) 1, none⟩,
  ⟨some 18, .ld 2 (.t 17), none⟩,
  ⟨some 2, .asg (.t 18), none⟩,
  ⟨some 3, .asg (.c (.int .i64 0)), none⟩] (some [2, 3])) .ret
def c32_12 : SC := .seq (.seq (.reg [⟨some 10, .mv (.t 4), none⟩,
  ⟨some 11, .ia 40 (.t 10) (.c (.int .i64 0)), none⟩,
  ⟨some 12, .fa 131 (.t 11) 0, none⟩,
  ⟨some 13, .ld 2 (.t 12), none⟩,
  ⟨some 14, .bn .neq 2 (.t 13) (.c (.int .i64 0)), none⟩] (some [4, 14])) c32_15) c32_20
def c32_10 : SC := .seq (.reg [⟨some 8, .mv (.t 0), none⟩,
  ⟨some 9, .call (.f 106) [(.t 8)], none⟩,
  ⟨some 4, .asg (.t 9), none⟩] (some [4])) c32_12
def c32_2 : SC := .seq (.seq (.reg [⟨some 5, .mv (.t 0), none⟩,
  ⟨some 6, .call (.f 105) [(.t 5)], none⟩,
  ⟨some 7, .un .not (.t 6), none⟩] (some [0, 7])) c32_5) c32_10
/-- loop.example/g01075/spec.ConstantOf -/
def c32 : SC := .seq (.reg [⟨some 2, .asg (.c (.int .i64 0)), none⟩,
  ⟨some 3, .asg (.c (.int .i64 0)), none⟩] (some [0])) c32_2
theorem s32 : slimC ⟨19, [0]⟩ (Try.f32.body.getD .skip) = some c32.strip := by kernel_rfl

def c138_2 : SC := .seq (.reg [⟨some 7, .mv (.t 0), none⟩,
  ⟨some 8, .mv (.t 1), none⟩,
  ⟨some 9, .bn .geq 2 (.t 7) (.t 8), none⟩,
  ⟨some 10, .mv (.t 9), none⟩,
  ⟨some 11, .mv (.t 0), some (10, true)⟩,
  ⟨some 12, .mv (.t 2), some (10, true)⟩,
  ⟨some 13, .bn .leq 2 (.t 11) (.t 12), some (10, true)⟩,
  ⟨some 14, .pick (.t 10) (.t 13) (.c (.bool false)), none⟩,
  ⟨some 6, .asg (.t 14), none⟩] (some [6])) .ret
/-- loop.example/g01075/impl.within -/
def c138 : SC := .seq (.reg [⟨some 6, .asg (.c (.bool false)), none⟩] (some [0, 1, 2])) c138_2
theorem s138 : slimC ⟨15, [0, 1, 2]⟩ (Try.f138.body.getD .skip) = some c138.strip := by kernel_rfl

def c286_2 : SC := .seq (.reg [⟨some 3, .mv (.t 0), none⟩,
  ⟨some 4, .call (.f 138) [(.t 3), (.c (.int .i64 0)), (.c (.int .i64 63))], none⟩,
  ⟨some 2, .asg (.t 4), none⟩] (some [2])) .ret
/-- loop.example/g01075/impl.isValue -/
def c286 : SC := .seq (.reg [⟨some 2, .asg (.c (.bool false)), none⟩] (some [0])) c286_2
theorem s286 : slimC ⟨5, [0]⟩ (Try.f286.body.getD .skip) = some c286.strip := by kernel_rfl

def c269_9 : SC := .seq (.reg [⟨some 9, .fa 131 (.t 2) 1, none⟩,
  ⟨some 10, .ld 2 (.t 9), none⟩,
  ⟨some 11, .call (.f 286) [(.t 10)], none⟩,
  ⟨some 4, .asg (.t 11), none⟩] (some [4])) .ret
def c269_15 : SC := .seq (.reg [⟨some 14, .fa 131 (.t 2) 1, none⟩,
  ⟨some 15, .ld 2 (.t 14), none⟩,
  ⟨some 16, .mv (.t 1), none⟩,
  ⟨some 17, .bn .sub 2 (.t 16) (.c (.int .i64 1)), none⟩,
  ⟨some 18, .call (.f 138) [(.t 15), (.c (.int .i64 0)), (.t 17)], none⟩,
  ⟨some 4, .asg (.t 18), none⟩] (some [4])) .ret
def c269_21 : SC := .seq (.reg [⟨some 21, .fa 131 (.t 2) 1, none⟩,
  ⟨some 22, .ld 2 (.t 21), none⟩,
  ⟨some 23, .call (.f 138) [(.t 22), (.c (.int .i64 0)), (.c (.int .i64 8))], none⟩,
  ⟨some 4, .asg (.t 23), none⟩] (some [4])) .ret
def c269_27 : SC := .seq (.reg [⟨some 26, .fa 131 (.t 2) 1, none⟩,
  ⟨some 27, .ld 2 (.t 26), none⟩,
  ⟨some 28, .bn .eql 2 (.t 27) (.c (.int .i64 0)), none⟩,
  ⟨some 4, .asg (.t 28), none⟩] (some [4])) .ret
def c269_26 : SC := .cond (.t 24) c269_27 .skip
def c269_24 : SC := .seq (.reg [⟨some 25, .bn .eql 2 (.t 6) (.c (.int .i64 3)), none⟩,
  ⟨some 24, .asg (.t 25), none⟩] (some [2, 24])) c269_26
def c269_20 : SC := .cond (.t 19) c269_21 c269_24
def c269_18 : SC := .seq (.reg [⟨some 20, .bn .eql 2 (.t 6) (.c (.int .i64 2)), none⟩,
  ⟨some 19, .asg (.t 20), none⟩] (some [2, 6, 19])) c269_20
def c269_14 : SC := .cond (.t 12) c269_15 c269_18
def c269_12 : SC := .seq (.reg [⟨some 13, .bn .eql 2 (.t 6) (.c (.int .i64 1)), none⟩,
  ⟨some 12, .asg (.t 13), none⟩] (some [1, 2, 6, 12])) c269_14
def c269_8 : SC := .cond (.t 7) c269_9 c269_12
def c269_5 : SC := .block 0 (.seq (.reg [⟨some 8, .bn .eql 2 (.t 6) (.c (.int .i64 0)), none⟩,
  ⟨some 7, .asg (.t 8), none⟩] (some [1, 2, 6, 7])) c269_8)
def c269_31 : SC := .seq (.reg [⟨some 4, .asg (.c (.bool false)), none⟩] (some [4])) .ret
def c269_2 : SC := .seq (.seq (.reg [⟨some 5, .fa 131 (.t 2) 0, none⟩,
  ⟨some 6, .ld 2 (.t 5), none⟩] (some [1, 2, 6])) c269_5) c269_31
/-- (loop.example/g01075/impl.Term).valid -/
def c269 : SC := .seq (.reg [⟨some 2, .bx 131 (.t 0), none⟩,
  ⟨some 4, .asg (.c (.bool false)), none⟩] (some [1, 2])) c269_2
theorem s269 : slimC ⟨29, [0, 1]⟩ (Try.f269.body.getD .skip) = some c269.strip := by kernel_rfl

def c270_9 : SC := .seq (.reg [⟨some 2, .asg (.c (.int .i64 2)), none⟩] (some [2])) .ret
def c270_15 : SC := .seq (.reg [⟨some 2, .asg (.c (.int .i64 1)), none⟩] (some [2])) .ret
def c270_14 : SC := .cond (.t 7) c270_15 .skip
def c270_12 : SC := .seq (.reg [⟨some 8, .bn .eql 2 (.t 4) (.c (.int .i64 3)), none⟩,
  ⟨some 7, .asg (.t 8), none⟩] (some [7])) c270_14
def c270_8 : SC := .cond (.t 5) c270_9 c270_12
def c270_5 : SC := .block 0 (.seq (.reg [⟨some 6, .bn .eql 2 (.t 4) (.c (.int .i64 2)), none⟩,
  ⟨some 5, .asg (.t 6), none⟩] (some [4, 5])) c270_8)
def c270_19 : SC := .seq (.reg [⟨some 2, .asg (.c (.int .i64 0)), none⟩] (some [2])) .ret
def c270_2 : SC := .seq (.seq (.reg [⟨some 3, .fa 131 (.t 1) 0, none⟩,
  ⟨some 4, .ld 2 (.t 3), none⟩] (some [4])) c270_5) c270_19
/-- (loop.example/g01075/impl.Term).operands -/
def c270 : SC := .seq (.reg [⟨some 1, .bx 131 (.t 0), none⟩,
  ⟨some 2, .asg (.c (.int .i64 0)), none⟩] (some [1])) c270_2
theorem s270 : slimC ⟨9, [0]⟩ (Try.f270.body.getD .skip) = some c270.strip := by kernel_rfl

def c200_6 : SC := .seq (.reg [⟨some 6, .asg (.c (.bool false)), none⟩] (some [6])) .ret
def c200_5 : SC := .cond (.t 24) c200_6 .skip
def c200_31 : SC := .seq (.reg [⟨some 6, .asg (.c (.bool false)), none⟩] (some [6])) .ret
def c200_30 : SC := .cond (.t 38) c200_31 .skip
def c200_35 : SC := .reg [⟨some 39, .mv (.t 7), none⟩,
  ⟨some 40, .ld 131 (.t 9), none⟩,
  ⟨some 41, .call (.f 270) [(.t 40)], none⟩,
  ⟨some 42, .bn .sub 3 (.t 41) (.c (.int .i64 1)), none⟩,
  ⟨some 43, .bn .add 3 (.t 39) (.t 42), none⟩,
  ⟨some 7, .asg (.t 43), none⟩] (some [1, 7, 25, 26, 27])
def c200_27 : SC := .seq (.seq (.reg [⟨some 31, .mv (.t 7), none⟩,
  ⟨some 32, .bn .eql 3 (.t 31) (.c (.int .i64 0)), none⟩,
  ⟨some 33, .mv (.t 32), none⟩,
  ⟨some 34, .ld 131 (.t 9), some (33, false)⟩,
  ⟨some 35, .mv (.t 1), some (33, false)⟩,
  ⟨some 36, .call (.f 269) [(.t 34), (.t 35)], some (33, false)⟩,
  ⟨some 37, .un .not (.t 36), some (33, false)⟩,
  ⟨some 38, .pick (.t 33) (.c (.bool true)) (.t 37), none⟩] (some [1, 7, 9, 25, 26, 27, 38])) c200_30) c200_35
def c200_36 : SC := .reg [⟨some 44, .bn .add 3 (.t 27) (.c (.int .i64 1)), none⟩,
  ⟨some 27, .mv (.t 44), none⟩] (some [1, 7, 25, 26, 27])
def c200_23 : SC := .seq (.block 1 (.seq (.reg [⟨some 29, .ia 40 (.t 25) (.t 27), none⟩,
  ⟨some 30, .ld 131 (.t 29), none⟩,
  ⟨some 9, .alc 131, none⟩,
  ⟨none, .sto 131 (.t 9) (.t 30), none⟩] (some [1, 7, 9, 25, 26, 27])) c200_27)) c200_36
def c200_19 : SC := .seq (.cond (.t 28) .skip (.exit 0)) c200_23
def c200_17 : SC := .seq (.reg [⟨some 28, .bn .lss 3 (.t 27) (.t 26), none⟩] (some [1, 7, 25, 26, 27, 28])) c200_19
def c200_15 : SC := .block 0 (.loop c200_17)
def c200_37 : SC := .seq (.reg [⟨some 45, .mv (.t 7), none⟩,
  ⟨some 46, .bn .eql 3 (.t 45) (.c (.int .i64 0)), none⟩,
  ⟨some 6, .asg (.t 46), none⟩] (some [6])) .ret
def c200_12 : SC := .seq (.seq (.reg [⟨some 25, .mv (.t 0), none⟩,
  ⟨some 26, .len 40 (.t 25), none⟩,
  ⟨some 27, .mv (.c (.int .i64 0)), none⟩] (some [1, 7, 25, 26, 27])) c200_15) c200_37
def c200_10 : SC := .seq (.reg [⟨some 7, .asg (.c (.int .i64 1)), none⟩] (some [0, 1, 7])) c200_12
def c200_2 : SC := .seq (.seq (.reg [⟨some 10, .mv (.t 1), none⟩,
  ⟨some 11, .call (.f 138) [(.t 10), (.c (.int .i64 0)), (.c (.int .i64 29))], none⟩,
  ⟨some 12, .un .not (.t 11), none⟩,
  ⟨some 13, .mv (.t 12), none⟩,
  ⟨some 14, .mv (.t 2), some (13, false)⟩,
  ⟨some 15, .call (.f 138) [(.t 14), (.c (.int .i64 1)), (.c (.int .i64 60))], some (13, false)⟩,
  ⟨some 16, .un .not (.t 15), some (13, false)⟩,
  ⟨some 17, .pick (.t 13) (.c (.bool true)) (.t 16), none⟩,
  ⟨some 18, .mv (.t 17), none⟩,
  ⟨some 19, .mv (.t 0), some (18, false)⟩,
  ⟨some 20, .len 40 (.t 19), some (18, false)⟩,
  ⟨some 21, .mv (.t 2), some (18, false)⟩,
  ⟨some 22, .call (.f 138) [(.t 20), (.c (.int .i64 1)), (.t 21)], some (18, false)⟩,
  ⟨some 23, .un .not (.t 22), some (18, false)⟩,
  ⟨some 24, .pick (.t 18) (.c (.bool true)) (.t 23), none⟩] (some [0, 1, 24])) c200_5) c200_10
/-- loop.example/g01075/impl.ValidTerms -/
def c200 : SC := .seq (.reg [⟨some 6, .asg (.c (.bool false)), none⟩] (some [0, 1, 2])) c200_2
theorem s200 : slimC ⟨47, [0, 1, 2]⟩ (Try.f200.body.getD .skip) = some c200.strip := by kernel_rfl

def c108_2 : SC := .seq (.reg [⟨some 3, .mv (.t 0), none⟩,
  ⟨some 4, .call (.f 200) [(.t 3), (.c (.int .i64 29)), (.c (.int .i64 60))], none⟩,
  ⟨some 2, .asg (.t 4), none⟩] (some [2])) .ret
/-- loop.example/g01075/impl.termsOk -/
def c108 : SC := .seq (.reg [⟨some 2, .asg (.c (.bool false)), none⟩] (some [0])) c108_2
theorem s108 : slimC ⟨5, [0]⟩ (Try.f108.body.getD .skip) = some c108.strip := by kernel_rfl

def c201_23 : SC := .reg [⟨some 25, .mv (.t 4), none⟩,
  ⟨some 26, .mv (.t 4), none⟩,
  ⟨some 27, .nilc (.t 26), none⟩,
  ⟨some 28, .fa 139 (.t 27) 1, none⟩,
  ⟨some 29, .ld 137 (.t 28), none⟩,
  ⟨some 30, .mv (.t 6), none⟩,
  ⟨some 31, .bsl 137 1 [(0, (.t 30))], none⟩,
  ⟨some 32, .app 137 137 (.t 29) (.t 31), none⟩,
  ⟨some 33, .nilc (.t 25), none⟩,
  ⟨some 34, .fa 139 (.t 33) 1, none⟩,
  ⟨none, .sto 137 (.t 34) (.t 32), none⟩] (some [4, 5, 17, 18])
def c201_21 : SC := .seq (.reg [⟨some 21, .mv (.t 5), none⟩,
  ⟨some 22, .call (.f 201) [(.t 21)], none⟩,
  ⟨some 20, .mv (.t 22), none⟩,
  ⟨some 23, .ex (.t 20) 0, none⟩,
  ⟨some 24, .ex (.t 20) 1, none⟩,
  ⟨some 6, .asg (.t 23), none⟩,
  ⟨some 5, .asg (.t 24), none⟩] (some [4, 5, 6, 17, 18])) c201_23
def c201_24 : SC := .reg [⟨some 35, .bn .add 3 (.t 18) (.c (.int .i64 1)), none⟩,
  ⟨some 18, .mv (.t 35), none⟩] (some [4, 5, 17, 18])
def c201_17 : SC := .seq (.block 1 (.seq (.reg [⟨some 6, .asg (.c .nilp), none⟩] (some [4, 5, 17, 18])) c201_21)) c201_24
def c201_13 : SC := .seq (.cond (.t 19) .skip (.exit 0)) c201_17
def c201_11 : SC := .seq (.reg [⟨some 19, .bn .lss 3 (.t 18) (.t 17), none⟩] (some [4, 5, 17, 18, 19])) c201_13
def c201_9 : SC := .block 0 (.loop c201_11)
def c201_25 : SC := .seq (.reg [⟨some 36, .mv (.t 4), none⟩,
  ⟨some 37, .mv (.t 5), none⟩,
  ⟨some 2, .asg (.t 36), none⟩,
  ⟨some 3, .asg (.t 37), none⟩] (some [2, 3])) .ret
def c201_6 : SC := .seq (.seq (.reg [⟨some 14, .mv (.t 0), none⟩,
  ⟨some 15, .ia 40 (.t 14) (.c (.int .i64 0)), none⟩,
  ⟨some 16, .ld 131 (.t 15), none⟩,
  ⟨some 17, .call (.f 270) [(.t 16)], none⟩,
  ⟨some 18, .mv (.c (.int .i64 0)), none⟩] (some [4, 5, 17, 18])) c201_9) c201_25
def c201_4 : SC := .seq (.reg [⟨some 12, .mv (.t 0), none⟩,
  ⟨some 13, .slc 40 (.t 12) (some (.c (.int .i64 1))) none, none⟩,
  ⟨some 5, .asg (.t 13), none⟩] (some [0, 4, 5])) c201_6
def c201_2 : SC := .seq (.reg [⟨some 7, .mv (.t 0), none⟩,
  ⟨some 8, .ia 40 (.t 7) (.c (.int .i64 0)), none⟩,
  ⟨some 9, .ld 131 (.t 8), none⟩,
  ⟨some 10, .bld 139 [(0, (.t 9))], none⟩,
  ⟨some 11, .bx 139 (.t 10), none⟩,
  ⟨some 4, .asg (.t 11), none⟩] (some [0, 4])) c201_4
/-- loop.example/g01075/impl.treeFrom -/
def c201 : SC := .seq (.reg [⟨some 2, .asg (.c .nilp), none⟩,
  ⟨some 3, .asg (.c .nils), none⟩] (some [0])) c201_2
theorem s201 : slimC ⟨38, [0]⟩ (Try.f201.body.getD .skip) = some c201.strip := by kernel_rfl

def c109_4 : SC := .seq (.reg [⟨some 10, .mv (.t 3), none⟩,
  ⟨some 2, .asg (.t 10), none⟩] (some [2])) .ret
def c109_2 : SC := .seq (.reg [⟨some 6, .mv (.t 0), none⟩,
  ⟨some 7, .call (.f 201) [(.t 6)], none⟩,
  ⟨some 5, .mv (.t 7), none⟩,
  ⟨some 8, .ex (.t 5) 0, none⟩,
  ⟨some 9, .ex (.t 5) 1, none⟩,
  ⟨some 3, .asg (.t 8), none⟩,
  ⟨some 4, .asg (.t 9), none⟩] (some [3])) c109_4
/-- loop.example/g01075/impl.tree -/
def c109 : SC := .seq (.reg [⟨some 2, .asg (.c .nilp), none⟩] (some [0])) c109_2
theorem s109 : slimC ⟨11, [0]⟩ (Try.f109.body.getD .skip) = some c109.strip := by kernel_rfl

def c102_6 : SC := .seq (.reg [⟨some 2, .asg (.c (.int .i64 1)), none⟩] (some [2])) .ret
def c102_5 : SC := .cond (.t 3) c102_6 .skip
def c102_10 : SC := .seq (.reg [⟨some 2, .asg (.c (.int .i64 0)), none⟩] (some [2])) .ret
def c102_2 : SC := .seq (.seq (.reg [⟨some 3, .mv (.t 0), none⟩] (some [3])) c102_5) c102_10
/-- loop.example/g01075/impl.truth -/
def c102 : SC := .seq (.reg [⟨some 2, .asg (.c (.int .i64 0)), none⟩] (some [0])) c102_2
theorem s102 : slimC ⟨4, [0]⟩ (Try.f102.body.getD .skip) = some c102.strip := by kernel_rfl

def c271_9 : SC := .seq (.reg [⟨some 10, .mv (.t 1), none⟩,
  ⟨some 11, .mv (.t 2), none⟩,
  ⟨some 12, .bn .add 2 (.t 10) (.t 11), none⟩,
  ⟨some 13, .bn .rem 2 (.t 12) (.c (.int .i64 64)), none⟩,
  ⟨some 6, .asg (.t 13), none⟩] (some [6])) .ret
def c271_15 : SC := .seq (.reg [⟨some 16, .mv (.t 1), none⟩,
  ⟨some 17, .mv (.t 2), none⟩,
  ⟨some 18, .bn .sub 2 (.t 16) (.t 17), none⟩,
  ⟨some 19, .bn .add 2 (.t 18) (.c (.int .i64 64)), none⟩,
  ⟨some 20, .bn .rem 2 (.t 19) (.c (.int .i64 64)), none⟩,
  ⟨some 6, .asg (.t 20), none⟩] (some [6])) .ret
def c271_21 : SC := .seq (.reg [⟨some 23, .mv (.t 1), none⟩,
  ⟨some 24, .mv (.t 2), none⟩,
  ⟨some 25, .bn .mul 2 (.t 23) (.t 24), none⟩,
  ⟨some 26, .bn .rem 2 (.t 25) (.c (.int .i64 64)), none⟩,
  ⟨some 6, .asg (.t 26), none⟩] (some [6])) .ret
def c271_27 : SC := .seq (.reg [⟨some 29, .mv (.t 1), none⟩,
  ⟨some 30, .mv (.t 2), none⟩,
  ⟨some 31, .bn .eql 2 (.t 29) (.t 30), none⟩,
  ⟨some 32, .call (.f 102) [(.t 31)], none⟩,
  ⟨some 6, .asg (.t 32), none⟩] (some [6])) .ret
def c271_33 : SC := .seq (.reg [⟨some 35, .mv (.t 1), none⟩,
  ⟨some 36, .mv (.t 2), none⟩,
  ⟨some 37, .bn .neq 2 (.t 35) (.t 36), none⟩,
  ⟨some 38, .call (.f 102) [(.t 37)], none⟩,
  ⟨some 6, .asg (.t 38), none⟩] (some [6])) .ret
def c271_39 : SC := .seq (.reg [⟨some 41, .mv (.t 1), none⟩,
  ⟨some 42, .mv (.t 2), none⟩,
  ⟨some 43, .bn .lss 2 (.t 41) (.t 42), none⟩,
  ⟨some 44, .call (.f 102) [(.t 43)], none⟩,
  ⟨some 6, .asg (.t 44), none⟩] (some [6])) .ret
def c271_45 : SC := .seq (.reg [⟨some 47, .mv (.t 1), none⟩,
  ⟨some 48, .mv (.t 2), none⟩,
  ⟨some 49, .bn .leq 2 (.t 47) (.t 48), none⟩,
  ⟨some 50, .call (.f 102) [(.t 49)], none⟩,
  ⟨some 6, .asg (.t 50), none⟩] (some [6])) .ret
def c271_51 : SC := .seq (.reg [⟨some 53, .mv (.t 1), none⟩,
  ⟨some 54, .bn .neq 2 (.t 53) (.c (.int .i64 0)), none⟩,
  ⟨some 55, .mv (.t 54), none⟩,
  ⟨some 56, .mv (.t 2), some (55, true)⟩,
  ⟨some 57, .bn .neq 2 (.t 56) (.c (.int .i64 0)), some (55, true)⟩,
  ⟨some 58, .pick (.t 55) (.t 57) (.c (.bool false)), none⟩,
  ⟨some 59, .call (.f 102) [(.t 58)], none⟩,
  ⟨some 6, .asg (.t 59), none⟩] (some [6])) .ret
def c271_50 : SC := .cond (.t 51) c271_51 .skip
def c271_48 : SC := .seq (.reg [⟨some 52, .bn .eql 2 (.t 7) (.c (.int .i64 7)), none⟩,
  ⟨some 51, .asg (.t 52), none⟩] (some [1, 2, 51])) c271_50
def c271_44 : SC := .cond (.t 45) c271_45 c271_48
def c271_42 : SC := .seq (.reg [⟨some 46, .bn .eql 2 (.t 7) (.c (.int .i64 6)), none⟩,
  ⟨some 45, .asg (.t 46), none⟩] (some [1, 2, 7, 45])) c271_44
def c271_38 : SC := .cond (.t 39) c271_39 c271_42
def c271_36 : SC := .seq (.reg [⟨some 40, .bn .eql 2 (.t 7) (.c (.int .i64 5)), none⟩,
  ⟨some 39, .asg (.t 40), none⟩] (some [1, 2, 7, 39])) c271_38
def c271_32 : SC := .cond (.t 33) c271_33 c271_36
def c271_30 : SC := .seq (.reg [⟨some 34, .bn .eql 2 (.t 7) (.c (.int .i64 4)), none⟩,
  ⟨some 33, .asg (.t 34), none⟩] (some [1, 2, 7, 33])) c271_32
def c271_26 : SC := .cond (.t 27) c271_27 c271_30
def c271_24 : SC := .seq (.reg [⟨some 28, .bn .eql 2 (.t 7) (.c (.int .i64 3)), none⟩,
  ⟨some 27, .asg (.t 28), none⟩] (some [1, 2, 7, 27])) c271_26
def c271_20 : SC := .cond (.t 21) c271_21 c271_24
def c271_18 : SC := .seq (.reg [⟨some 22, .bn .eql 2 (.t 7) (.c (.int .i64 2)), none⟩,
  ⟨some 21, .asg (.t 22), none⟩] (some [1, 2, 7, 21])) c271_20
def c271_14 : SC := .cond (.t 14) c271_15 c271_18
def c271_12 : SC := .seq (.reg [⟨some 15, .bn .eql 2 (.t 7) (.c (.int .i64 1)), none⟩,
  ⟨some 14, .asg (.t 15), none⟩] (some [1, 2, 7, 14])) c271_14
def c271_8 : SC := .cond (.t 8) c271_9 c271_12
def c271_5 : SC := .block 0 (.seq (.reg [⟨some 9, .bn .eql 2 (.t 7) (.c (.int .i64 0)), none⟩,
  ⟨some 8, .asg (.t 9), none⟩] (some [1, 2, 7, 8])) c271_8)
def c271_55 : SC := .seq (.reg [⟨some 60, .mv (.t 1), none⟩,
  ⟨some 61, .bn .neq 2 (.t 60) (.c (.int .i64 0)), none⟩,
  ⟨some 62, .mv (.t 61), none⟩,
  ⟨some 63, .mv (.t 2), some (62, false)⟩,
  ⟨some 64, .bn .neq 2 (.t 63) (.c (.int .i64 0)), some (62, false)⟩,
  ⟨some 65, .pick (.t 62) (.c (.bool true)) (.t 64), none⟩,
  ⟨some 66, .call (.f 102) [(.t 65)], none⟩,
  ⟨some 6, .asg (.t 66), none⟩] (some [6])) .ret
def c271_2 : SC := .seq (.seq (.reg [⟨some 7, .mv (.t 0), none⟩] (some [1, 2, 7])) c271_5) c271_55
/-- loop.example/g01075/impl.operate -/
def c271 : SC := .seq (.reg [⟨some 6, .asg (.c (.int .i64 0)), none⟩] (some [0, 1, 2])) c271_2
theorem s271 : slimC ⟨67, [0, 1, 2]⟩ (Try.f271.body.getD .skip) = some c271.strip := by kernel_rfl

def c203_9 : SC := .seq (.reg [⟨some 12, .mv (.t 0), none⟩,
  ⟨some 13, .nilc (.t 12), none⟩,
  ⟨some 14, .fa 139 (.t 13) 0, none⟩,
  ⟨some 15, .fa 131 (.t 14) 1, none⟩,
  ⟨some 16, .ld 2 (.t 15), none⟩,
  ⟨some 4, .asg (.t 16), none⟩] (some [4])) .ret
def c203_15 : SC := .seq (.reg [⟨some 19, .mv (.t 1), none⟩,
  ⟨some 20, .mv (.t 0), none⟩,
  ⟨some 21, .nilc (.t 20), none⟩,
  ⟨some 22, .fa 139 (.t 21) 0, none⟩,
  ⟨some 23, .fa 131 (.t 22) 1, none⟩,
  ⟨some 24, .ld 2 (.t 23), none⟩,
  ⟨some 25, .ia 68 (.t 19) (.t 24), none⟩,
  ⟨some 26, .ld 2 (.t 25), none⟩,
  ⟨some 4, .asg (.t 26), none⟩] (some [4])) .ret
def c203_21 : SC := .seq (.reg [⟨some 29, .mv (.t 0), none⟩,
  ⟨some 30, .nilc (.t 29), none⟩,
  ⟨some 31, .fa 139 (.t 30) 1, none⟩,
  ⟨some 32, .ld 137 (.t 31), none⟩,
  ⟨some 33, .ia 137 (.t 32) (.c (.int .i64 0)), none⟩,
  ⟨some 34, .ld 134 (.t 33), none⟩,
  ⟨some 35, .mv (.t 1), none⟩,
  ⟨some 36, .call (.f 203) [(.t 34), (.t 35)], none⟩,
  ⟨some 37, .bn .eql 2 (.t 36) (.c (.int .i64 0)), none⟩,
  ⟨some 38, .call (.f 102) [(.t 37)], none⟩,
  ⟨some 4, .asg (.t 38), none⟩] (some [4])) .ret
def c203_20 : SC := .cond (.t 27) c203_21 .skip
def c203_18 : SC := .seq (.reg [⟨some 28, .bn .eql 2 (.t 9) (.c (.int .i64 3)), none⟩,
  ⟨some 27, .asg (.t 28), none⟩] (some [0, 1, 27])) c203_20
def c203_14 : SC := .cond (.t 17) c203_15 c203_18
def c203_12 : SC := .seq (.reg [⟨some 18, .bn .eql 2 (.t 9) (.c (.int .i64 1)), none⟩,
  ⟨some 17, .asg (.t 18), none⟩] (some [0, 1, 9, 17])) c203_14
def c203_8 : SC := .cond (.t 10) c203_9 c203_12
def c203_5 : SC := .block 0 (.seq (.reg [⟨some 11, .bn .eql 2 (.t 9) (.c (.int .i64 0)), none⟩,
  ⟨some 10, .asg (.t 11), none⟩] (some [0, 1, 9, 10])) c203_8)
def c203_25 : SC := .seq (.drw [⟨some 39, .mv (.t 0), none⟩,
  ⟨some 40, .nilc (.t 39), none⟩,
  ⟨some 41, .fa 139 (.t 40) 0, none⟩,
  ⟨some 42, .fa 131 (.t 41) 1, none⟩,
  ⟨some 43, .ld 2 (.t 42), none⟩,
  ⟨some 44, .mv (.t 0), none⟩,
  ⟨some 45, .nilc (.t 44), none⟩,
  ⟨some 46, .fa 139 (.t 45) 1, none⟩,
  ⟨some 47, .ld 137 (.t 46), none⟩,
  ⟨some 48, .ia 137 (.t 47) (.c (.int .i64 0)), none⟩,
  ⟨some 49, .ld 134 (.t 48), none⟩,
  ⟨some 50, .mv (.t 1), none⟩,
  ⟨some 51, .call (.f 203) [(.t 49), (.t 50)], none⟩,
  ⟨some 52, .mv (.t 0), none⟩,
  ⟨some 53, .nilc (.t 52), none⟩,
  ⟨some 54, .fa 139 (.t 53) 1, none⟩,
  ⟨some 55, .ld 137 (.t 54), none⟩,
  ⟨some 56, .ia 137 (.t 55) (.c (.int .i64 1)), none⟩,
  ⟨some 57, .ld 134 (.t 56), none⟩,
  ⟨some 58, .mv (.t 1), none⟩,
  ⟨some 59, .call (.f 203) [(.t 57), (.t 58)], none⟩,
  ⟨some 60, .call (.f 271) [(.t 43), (.t 51), (.t 59)], none⟩,
  ⟨some 4, .asg (.t 60), none⟩] [[], [0], [1], [2], [3], [], [5], [6], [7], [8], [9], [], [10, 11], [], [13], [14], [15], [16], [17], [], [18, 19, 12], [4, 12, 20, 20], [21, 21, 0, 1, 2, 3, 4, 5, 6, 7, 8, 9, 10, 11, 12, 13, 14, 15, 16, 17, 18, 19, 20, 21]] (some [4])) .ret
def c203_2 : SC := .seq (.seq (.reg [⟨some 5, .mv (.t 0), none⟩,
  ⟨some 6, .nilc (.t 5), none⟩,
  ⟨some 7, .fa 139 (.t 6) 0, none⟩,
  ⟨some 8, .fa 131 (.t 7) 0, none⟩,
  ⟨some 9, .ld 2 (.t 8), none⟩] (some [0, 1, 9])) c203_5) c203_25
/-- (*loop.example/g01075/impl.expr).value -/
def c203 : SC := .seq (.reg [⟨some 4, .asg (.c (.int .i64 0)), none⟩] (some [0, 1])) c203_2
theorem s203 : slimC ⟨61, [0, 1]⟩ (Try.f203.body.getD .skip) = some c203.strip := by kernel_rfl

def c202_2 : SC := .seq (.reg [⟨some 3, .mv (.t 0), none⟩,
  ⟨some 4, .bld 131 [(0, (.c (.int .i64 0))), (1, (.t 3))], none⟩,
  ⟨some 5, .bld 139 [(0, (.t 4))], none⟩,
  ⟨some 6, .bx 139 (.t 5), none⟩,
  ⟨some 2, .asg (.t 6), none⟩] (some [2])) .ret
/-- loop.example/g01075/impl.number -/
def c202 : SC := .seq (.reg [⟨some 2, .asg (.c .nilp), none⟩] (some [0])) c202_2
theorem s202 : slimC ⟨7, [0]⟩ (Try.f202.body.getD .skip) = some c202.strip := by kernel_rfl

def c110_6 : SC := .seq (.reg [⟨some 14, .mv (.t 0), none⟩,
  ⟨some 2, .asg (.t 14), none⟩] (some [2])) .ret
def c110_5 : SC := .cond (.t 13) c110_6 .skip
def c110_33 : SC := .reg [⟨some 42, .mv (.t 4), none⟩,
  ⟨some 43, .mv (.t 42), none⟩,
  ⟨some 44, .mv (.t 7), some (43, true)⟩,
  ⟨some 45, .nilc (.t 44), some (43, true)⟩,
  ⟨some 46, .fa 139 (.t 45) 0, some (43, true)⟩,
  ⟨some 47, .fa 131 (.t 46) 0, some (43, true)⟩,
  ⟨some 48, .ld 2 (.t 47), some (43, true)⟩,
  ⟨some 49, .bn .eql 2 (.t 48) (.c (.int .i64 0)), some (43, true)⟩,
  ⟨some 50, .pick (.t 43) (.t 49) (.c (.bool false)), none⟩,
  ⟨some 4, .asg (.t 50), none⟩] (some [3, 4, 24, 25, 26])
def c110_31 : SC := .seq (.reg [⟨some 32, .mv (.t 3), none⟩,
  ⟨some 33, .mv (.t 3), none⟩,
  ⟨some 34, .nilc (.t 33), none⟩,
  ⟨some 35, .fa 139 (.t 34) 1, none⟩,
  ⟨some 36, .ld 137 (.t 35), none⟩,
  ⟨some 37, .mv (.t 7), none⟩,
  ⟨some 38, .bsl 137 1 [(0, (.t 37))], none⟩,
  ⟨some 39, .app 137 137 (.t 36) (.t 38), none⟩,
  ⟨some 40, .nilc (.t 32), none⟩,
  ⟨some 41, .fa 139 (.t 40) 1, none⟩,
  ⟨none, .sto 137 (.t 41) (.t 39), none⟩] (some [3, 4, 7, 24, 25, 26])) c110_33
def c110_29 : SC := .seq (.reg [⟨some 30, .mv (.t 6), none⟩,
  ⟨some 31, .call (.f 110) [(.t 30)], none⟩,
  ⟨some 7, .asg (.t 31), none⟩] (some [3, 4, 7, 24, 25, 26])) c110_31
def c110_34 : SC := .reg [⟨some 51, .bn .add 3 (.t 26) (.c (.int .i64 1)), none⟩,
  ⟨some 26, .mv (.t 51), none⟩] (some [3, 4, 24, 25, 26])
def c110_25 : SC := .seq (.block 1 (.seq (.reg [⟨some 28, .ia 137 (.t 24) (.t 26), none⟩,
  ⟨some 29, .ld 134 (.t 28), none⟩,
  ⟨some 6, .asg (.t 29), none⟩] (some [3, 4, 6, 24, 25, 26])) c110_29)) c110_34
def c110_21 : SC := .seq (.cond (.t 27) .skip (.exit 0)) c110_25
def c110_19 : SC := .seq (.reg [⟨some 27, .bn .lss 3 (.t 26) (.t 25), none⟩] (some [3, 4, 24, 25, 26, 27])) c110_21
def c110_17 : SC := .block 0 (.loop c110_19)
def c110_39 : SC := .seq (.reg [⟨some 53, .mv (.t 3), none⟩,
  ⟨some 54, .call (.f 203) [(.t 53), (.c .nils)], none⟩,
  ⟨some 55, .call (.f 202) [(.t 54)], none⟩,
  ⟨some 2, .asg (.t 55), none⟩] (some [2])) .ret
def c110_38 : SC := .cond (.t 52) c110_39 .skip
def c110_43 : SC := .seq (.reg [⟨some 56, .mv (.t 3), none⟩,
  ⟨some 2, .asg (.t 56), none⟩] (some [2])) .ret
def c110_35 : SC := .seq (.seq (.reg [⟨some 52, .mv (.t 4), none⟩] (some [3, 52])) c110_38) c110_43
def c110_14 : SC := .seq (.seq (.reg [⟨some 21, .mv (.t 0), none⟩,
  ⟨some 22, .nilc (.t 21), none⟩,
  ⟨some 23, .fa 139 (.t 22) 1, none⟩,
  ⟨some 24, .ld 137 (.t 23), none⟩,
  ⟨some 25, .len 137 (.t 24), none⟩,
  ⟨some 26, .mv (.c (.int .i64 0)), none⟩] (some [3, 4, 24, 25, 26])) c110_17) c110_35
def c110_12 : SC := .seq (.reg [⟨some 4, .asg (.c (.bool true)), none⟩] (some [0, 3, 4])) c110_14
def c110_10 : SC := .seq (.reg [⟨some 15, .mv (.t 0), none⟩,
  ⟨some 16, .nilc (.t 15), none⟩,
  ⟨some 17, .fa 139 (.t 16) 0, none⟩,
  ⟨some 18, .ld 131 (.t 17), none⟩,
  ⟨some 19, .bld 139 [(0, (.t 18))], none⟩,
  ⟨some 20, .bx 139 (.t 19), none⟩,
  ⟨some 3, .asg (.t 20), none⟩] (some [0, 3])) c110_12
def c110_2 : SC := .seq (.seq (.reg [⟨some 8, .mv (.t 0), none⟩,
  ⟨some 9, .nilc (.t 8), none⟩,
  ⟨some 10, .fa 139 (.t 9) 1, none⟩,
  ⟨some 11, .ld 137 (.t 10), none⟩,
  ⟨some 12, .len 137 (.t 11), none⟩,
  ⟨some 13, .bn .eql 3 (.t 12) (.c (.int .i64 0)), none⟩] (some [0, 13])) c110_5) c110_10
/-- (*loop.example/g01075/impl.expr).fold -/
def c110 : SC := .seq (.reg [⟨some 2, .asg (.c .nilp), none⟩] (some [0])) c110_2
theorem s110 : slimC ⟨57, [0]⟩ (Try.f110.body.getD .skip) = some c110.strip := by kernel_rfl

def c34_6 : SC := .seq (.reg [⟨some 2, .asg (.c (.int .i64 0)), none⟩,
  ⟨some 3, .asg (.c (.int .i64 1)), none⟩] (some [2, 3])) .ret
def c34_5 : SC := .cond (.t 7) c34_6 .skip
def c34_16 : SC := .seq (.reg [⟨some 2, .asg (.c (.int .i64 0)), none⟩,
  ⟨some 3, .asg (.c (.int .i64 3)), none⟩] (some [2, 3])) .ret
def c34_15 : SC := .cond (.t 16) c34_16 .skip
def c34_20 : SC := .seq (.reg [⟨some 17, .mv (.t 4), none⟩,
  ⟨some 18, .nilc (.t 17), none⟩,
  ⟨some 19, .fa 139 (.t 18) 0, none⟩,
  ⟨some 20, .fa 131 (.t 19) 1, none⟩,
  ⟨some 21, .ld 2 (.t 20), none⟩,
  ⟨some 2, .asg (.t 21), none⟩,
  ⟨some 3, .asg (.c (.int .i64 0)), none⟩] (some [2, 3])) .ret
def c34_12 : SC := .seq (.seq (.reg [⟨some 11, .mv (.t 4), none⟩,
  ⟨some 12, .nilc (.t 11), none⟩,
  ⟨some 13, .fa 139 (.t 12) 0, none⟩,
  ⟨some 14, .fa 131 (.t 13) 0, none⟩,
  ⟨some 15, .ld 2 (.t 14), none⟩,
  ⟨some 16, .bn .neq 2 (.t 15) (.c (.int .i64 0)), none⟩] (some [4, 16])) c34_15) c34_20
def c34_10 : SC := .seq (.reg [⟨some 8, .mv (.t 0), none⟩,
  ⟨some 9, .call (.f 109) [(.t 8)], none⟩,
  ⟨some 10, .call (.f 110) [(.t 9)], none⟩,
  ⟨some 4, .asg (.t 10), none⟩] (some [4])) c34_12
def c34_2 : SC := .seq (.seq (.reg [⟨some 5, .mv (.t 0), none⟩,
  ⟨some 6, .call (.f 108) [(.t 5)], none⟩,
  ⟨some 7, .un .not (.t 6), none⟩] (some [0, 7])) c34_5) c34_10
/-- loop.example/g01075/impl.ConstantOf -/
def c34 : SC := .seq (.reg [⟨some 2, .asg (.c (.int .i64 0)), none⟩,
  ⟨some 3, .asg (.c (.int .i64 0)), none⟩] (some [0])) c34_2
theorem s34 : slimC ⟨22, [0]⟩ (Try.f34.body.getD .skip) = some c34.strip := by kernel_rfl

def c111_6 : SC := .seq (.reg [⟨some 4, .asg (.c (.bool false)), none⟩] (some [4])) .ret
def c111_5 : SC := .cond (.t 9) c111_6 .skip
def c111_14 : SC := .seq (.reg [⟨some 4, .asg (.c (.bool false)), none⟩] (some [4])) .ret
def c111_13 : SC := .cond (.t 14) c111_14 .skip
def c111_18 : SC := .seq (.reg [⟨some 4, .asg (.c (.bool true)), none⟩] (some [4])) .ret
def c111_10 : SC := .seq (.seq (.reg [⟨some 10, .fa 131 (.t 2) 1, none⟩,
  ⟨some 11, .ld 2 (.t 10), none⟩,
  ⟨some 12, .fa 131 (.t 3) 1, none⟩,
  ⟨some 13, .ld 2 (.t 12), none⟩,
  ⟨some 14, .bn .neq 2 (.t 11) (.t 13), none⟩] (some [14])) c111_13) c111_18
def c111_2 : SC := .seq (.seq (.reg [⟨some 5, .fa 131 (.t 2) 0, none⟩,
  ⟨some 6, .ld 2 (.t 5), none⟩,
  ⟨some 7, .fa 131 (.t 3) 0, none⟩,
  ⟨some 8, .ld 2 (.t 7), none⟩,
  ⟨some 9, .bn .neq 2 (.t 6) (.t 8), none⟩] (some [2, 3, 9])) c111_5) c111_10
/-- loop.example/g01075/laws.eqTerm -/
def c111 : SC := .seq (.reg [⟨some 2, .bx 131 (.t 0), none⟩,
  ⟨some 3, .bx 131 (.t 1), none⟩,
  ⟨some 4, .asg (.c (.bool false)), none⟩] (some [2, 3])) c111_2
theorem s111 : slimC ⟨15, [0, 1]⟩ (Try.f111.body.getD .skip) = some c111.strip := by kernel_rfl

def c35_6 : SC := .seq (.reg [⟨some 4, .asg (.c (.bool false)), none⟩] (some [4])) .ret
def c35_5 : SC := .cond (.t 10) c35_6 .skip
def c35_18 : SC := .cond (.t 14) .skip (.exit 0)
def c35_26 : SC := .seq (.reg [⟨some 4, .asg (.c (.bool false)), none⟩] (some [4])) .ret
def c35_25 : SC := .cond (.t 26) c35_26 .skip
def c35_30 : SC := .reg [⟨some 15, .mv (.t 5), none⟩,
  ⟨some 16, .bn .add 3 (.t 15) (.c (.int .i64 1)), none⟩,
  ⟨some 5, .asg (.t 16), none⟩] (some [0, 1, 5])
def c35_21 : SC := .seq (.block 1 (.seq (.drw [⟨some 17, .mv (.t 0), none⟩,
  ⟨some 18, .mv (.t 5), none⟩,
  ⟨some 19, .ia 40 (.t 17) (.t 18), none⟩,
  ⟨some 20, .ld 131 (.t 19), none⟩,
  ⟨some 21, .mv (.t 1), none⟩,
  ⟨some 22, .mv (.t 5), none⟩,
  ⟨some 23, .ia 40 (.t 21) (.t 22), none⟩,
  ⟨some 24, .ld 131 (.t 23), none⟩,
  ⟨some 25, .call (.f 111) [(.t 20), (.t 24)], none⟩,
  ⟨some 26, .un .not (.t 25), none⟩] [[], [], [0, 1], [2], [], [], [4, 5], [6], [3, 7], [8]] (some [0, 1, 5, 26])) c35_25)) c35_30
def c35_15 : SC := .seq (.seq (.reg [⟨some 11, .mv (.t 5), none⟩,
  ⟨some 12, .mv (.t 0), none⟩,
  ⟨some 13, .len 40 (.t 12), none⟩,
  ⟨some 14, .bn .lss 3 (.t 11) (.t 13), none⟩] (some [0, 1, 5, 14])) c35_18) c35_21
def c35_13 : SC := .block 0 (.loop c35_15)
def c35_31 : SC := .seq (.reg [⟨some 4, .asg (.c (.bool true)), none⟩] (some [4])) .ret
def c35_10 : SC := .seq (.seq (.reg [⟨some 5, .asg (.c (.int .i64 0)), none⟩] (some [0, 1, 5])) c35_13) c35_31
def c35_2 : SC := .seq (.seq (.reg [⟨some 6, .mv (.t 0), none⟩,
  ⟨some 7, .len 40 (.t 6), none⟩,
  ⟨some 8, .mv (.t 1), none⟩,
  ⟨some 9, .len 40 (.t 8), none⟩,
  ⟨some 10, .bn .neq 3 (.t 7) (.t 9), none⟩] (some [0, 1, 10])) c35_5) c35_10
/-- loop.example/g01075/laws.eqTermS -/
def c35 : SC := .seq (.reg [⟨some 4, .asg (.c (.bool false)), none⟩] (some [0, 1])) c35_2
theorem s35 : slimC ⟨27, [0, 1]⟩ (Try.f35.body.getD .skip) = some c35.strip := by kernel_rfl

def c5_10 : SC := .seq (.reg [⟨some 2, .asg (.c (.bool true)), none⟩] (some [2])) .ret
def c5_9 : SC := .cond (.t 13) c5_10 .skip
def c5_24 : SC := .seq (.reg [⟨some 2, .asg (.c (.bool false)), none⟩] (some [2])) .ret
def c5_23 : SC := .cond (.t 34) c5_24 .skip
def c5_32 : SC := .seq (.reg [⟨some 2, .asg (.c (.bool false)), none⟩] (some [2])) .ret
def c5_31 : SC := .cond (.t 39) c5_32 .skip
def c5_36 : SC := .seq (.reg [⟨some 2, .asg (.c (.bool true)), none⟩] (some [2])) .ret
def c5_28 : SC := .seq (.seq (.reg [⟨some 35, .mv (.t 6), none⟩,
  ⟨some 36, .mv (.t 0), none⟩,
  ⟨some 37, .call (.f 33) [(.t 36)], none⟩,
  ⟨some 38, .call (.f 35) [(.t 35), (.t 37)], none⟩,
  ⟨some 39, .un .not (.t 38), none⟩] (some [39])) c5_31) c5_36
def c5_20 : SC := .seq (.seq (.reg [⟨some 27, .mv (.t 7), none⟩,
  ⟨some 28, .mv (.t 4), none⟩,
  ⟨some 29, .bn .neq 2 (.t 27) (.t 28), none⟩,
  ⟨some 30, .mv (.t 29), none⟩,
  ⟨some 31, .mv (.t 8), some (30, false)⟩,
  ⟨some 32, .mv (.t 5), some (30, false)⟩,
  ⟨some 33, .bn .neq 2 (.t 31) (.t 32), some (30, false)⟩,
  ⟨some 34, .pick (.t 30) (.c (.bool true)) (.t 33), none⟩] (some [0, 6, 34])) c5_23) c5_28
def c5_18 : SC := .seq (.reg [⟨some 23, .mv (.t 6), none⟩,
  ⟨some 24, .call (.f 34) [(.t 23)], none⟩,
  ⟨some 22, .mv (.t 24), none⟩,
  ⟨some 25, .ex (.t 22) 0, none⟩,
  ⟨some 26, .ex (.t 22) 1, none⟩,
  ⟨some 7, .asg (.t 25), none⟩,
  ⟨some 8, .asg (.t 26), none⟩] (some [0, 4, 5, 6, 7, 8])) c5_20
def c5_16 : SC := .seq (.reg [⟨some 20, .mv (.t 0), none⟩,
  ⟨some 21, .call (.f 33) [(.t 20)], none⟩,
  ⟨some 6, .asg (.t 21), none⟩] (some [0, 4, 5, 6])) c5_18
def c5_14 : SC := .seq (.reg [⟨some 15, .mv (.t 0), none⟩,
  ⟨some 16, .call (.f 33) [(.t 15)], none⟩,
  ⟨some 17, .call (.f 32) [(.t 16)], none⟩,
  ⟨some 14, .mv (.t 17), none⟩,
  ⟨some 18, .ex (.t 14) 0, none⟩,
  ⟨some 19, .ex (.t 14) 1, none⟩,
  ⟨some 4, .asg (.t 18), none⟩,
  ⟨some 5, .asg (.t 19), none⟩] (some [0, 4, 5])) c5_16
def c5_6 : SC := .seq (.seq (.reg [⟨some 12, .mv (.t 3), none⟩,
  ⟨some 13, .bn .lss 3 (.t 12) (.c (.int .i64 0)), none⟩] (some [0, 13])) c5_9) c5_14
def c5_4 : SC := .seq (.reg [⟨some 9, .mv (.t 0), none⟩,
  ⟨some 10, .mv (.t 3), none⟩,
  ⟨some 11, .call (.f 31) [(.t 9), (.t 10)], none⟩,
  ⟨some 3, .asg (.t 11), none⟩] (some [0, 3])) c5_6
def c5_2 : SC := .seq (.reg [⟨some 3, .asg (.c (.int .i64 1048576)), none⟩] (some [0, 3])) c5_4
/-- loop.example/g01075/laws.FnExactConstantOf -/
def c5 : SC := .seq (.reg [⟨some 2, .asg (.c (.bool false)), none⟩] (some [0])) c5_2
theorem s5 : slimC ⟨40, [0]⟩ (Try.f5.body.getD .skip) = some c5.strip := by kernel_rfl

end Go.Proofs.Ytobljppjkklojaa
