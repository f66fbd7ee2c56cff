/- Part of a proof that a law returns true for every input. No condition. -/
import Derived.Test.YtobljppjkklojaaC14
namespace Go.Proofs.Ytobljppjkklojaa
open Go Go.Fw Go.Sh
set_option maxRecDepth 100000
set_option linter.unusedSimpArgs false
set_option linter.unusedVariables false

def zz0 := PLift.up (And.intro @e_impl_Definition.eq_1 (And.intro @e_impl_Part.eq_1 (And.intro @e_impl_Term.eq_1 @e_s_impl_Term.eq_1)))
def zz1 := PLift.up (And.intro @e_impl_Part.eq_1 (And.intro @e_impl_Term.eq_1 @e_s_impl_Term.eq_1))
def zz2 := PLift.up (And.intro @tt2 (And.intro @tt9 (And.intro @tt40 (And.intro @tt62 (And.intro @tt131 (And.intro @tt169 (And.intro @tt171 (And.intro @tt195 (And.intro @tt249 (And.intro @e_impl_Definition.eq_1 (And.intro @e_impl_Part.eq_1 (And.intro @e_impl_Term.eq_1 @e_s_impl_Term.eq_1))))))))))))
def zz3 := PLift.up (And.intro @e_impl_Definition.eq_1 (And.intro @e_impl_Part.eq_1 (And.intro @e_impl_Term.eq_1 (And.intro @e_impl_place.eq_1 @e_s_impl_Term.eq_1))))
def zz4 := PLift.up (And.intro @e_laws_Definition.eq_1 (And.intro @e_laws_Part.eq_1 (And.intro @e_laws_Term.eq_1 @e_s_laws_Term.eq_1)))
def zz5 := PLift.up (And.intro @e_laws_Part.eq_1 (And.intro @e_laws_Term.eq_1 @e_s_laws_Term.eq_1))
def zz6 := PLift.up (And.intro @tt2 (And.intro @tt9 (And.intro @tt40 (And.intro @tt131 (And.intro @tt169 (And.intro @tt171 (And.intro @tt195 (And.intro @tt249 (And.intro @e_impl_Definition.eq_1 (And.intro @e_impl_Part.eq_1 (And.intro @e_impl_Term.eq_1 @e_s_impl_Term.eq_1)))))))))))
def zz7 := PLift.up (And.intro @e_impl_Term.eq_1 (And.intro @e_laws_Definition.eq_1 (And.intro @e_laws_Part.eq_1 (And.intro @e_laws_Term.eq_1 (And.intro @e_s_laws_Term.eq_1 (And.intro @u_impl_Definition.eq_1 (And.intro @u_impl_Part.eq_1 @u_s_impl_Term.eq_1)))))))
def zz8 := PLift.up (And.intro @tt2 (And.intro @tt131 @e_impl_Term.eq_1))
def zz9 := PLift.up (And.intro @tt2 (And.intro @tt9 (And.intro @tt40 (And.intro @tt131 (And.intro @tt195 (And.intro @tt249 (And.intro @e_impl_Part.eq_1 (And.intro @e_impl_Term.eq_1 @e_s_impl_Term.eq_1))))))))
def zz10 := PLift.up (And.intro @e_laws_Term.eq_1 @e_s_laws_Term.eq_1)
def zz11 := PLift.up (And.intro @tt2 (And.intro @tt40 (And.intro @tt131 @e_impl_Term.eq_1)))
def zz12 := PLift.up (And.intro @e_impl_Term.eq_1 (And.intro @e_impl_place.eq_1 @e_s_impl_Term.eq_1))
def zz13 := PLift.up (And.intro @e_impl_Term.eq_1 @e_s_impl_Term.eq_1)
def zz14 := PLift.up (And.intro @tt2 (And.intro @tt9 (And.intro @tt40 (And.intro @tt131 (And.intro @tt169 (And.intro @tt195 (And.intro @tt249 (And.intro @e_impl_Part.eq_1 (And.intro @e_impl_Term.eq_1 @e_s_impl_Term.eq_1)))))))))
def zz15 := PLift.up (And.intro @tt2 (And.intro @tt9 (And.intro @tt40 (And.intro @tt131 (And.intro @tt195 (And.intro @tt249 (And.intro @e_impl_Definition.eq_1 (And.intro @e_impl_Part.eq_1 (And.intro @e_impl_Term.eq_1 (And.intro @e_impl_place.eq_1 @e_s_impl_Term.eq_1))))))))))
def zz16 := PLift.up (And.intro @e_impl_Part.eq_1 (And.intro @e_impl_Term.eq_1 (And.intro @e_impl_place.eq_1 @e_s_impl_Term.eq_1)))
def zz17 := PLift.up (And.intro @tt2 (And.intro @tt9 (And.intro @tt40 (And.intro @tt131 (And.intro @tt195 (And.intro @tt249 (And.intro @e_impl_Definition.eq_1 (And.intro @e_impl_Part.eq_1 (And.intro @e_impl_Term.eq_1 @e_s_impl_Term.eq_1)))))))))
def zz18 := PLift.up (And.intro @tt2 (And.intro @tt9 (And.intro @tt40 (And.intro @tt62 (And.intro @tt131 (And.intro @tt169 (And.intro @tt171 (And.intro @tt195 (And.intro @tt249 (And.intro @e_impl_Definition.eq_1 (And.intro @e_impl_Part.eq_1 (And.intro @e_impl_Term.eq_1 (And.intro @e_impl_place.eq_1 @e_s_impl_Term.eq_1)))))))))))))
def zz19 := PLift.up (And.intro @e_impl_Term.eq_1 @e_laws_Term.eq_1)
def zz20 := PLift.up (And.intro @e_impl_Term.eq_1 (And.intro @e_laws_Term.eq_1 (And.intro @e_s_laws_Term.eq_1 @u_s_impl_Term.eq_1)))
def zz21 := PLift.up (And.intro @e_impl_Term.eq_1 (And.intro @e_laws_Part.eq_1 (And.intro @e_laws_Term.eq_1 (And.intro @e_s_laws_Term.eq_1 (And.intro @u_impl_Part.eq_1 @u_s_impl_Term.eq_1)))))
def zz22 := PLift.up (And.intro @tt2 (And.intro @tt36 (And.intro @tt133 (And.intro @tt260 (And.intro @e_laws_Term.eq_1 @e_s_laws_Term.eq_1)))))
def zz23 := PLift.up (And.intro @tt2 (And.intro @tt9 (And.intro @tt36 (And.intro @tt133 (And.intro @tt260 (And.intro @tt291 (And.intro @e_laws_Part.eq_1 (And.intro @e_laws_Term.eq_1 @e_s_laws_Term.eq_1))))))))
def zz24 := PLift.up (And.intro @tt2 (And.intro @tt9 (And.intro @tt36 (And.intro @tt133 (And.intro @tt165 (And.intro @tt260 (And.intro @tt291 (And.intro @e_laws_Part.eq_1 (And.intro @e_laws_Term.eq_1 @e_s_laws_Term.eq_1)))))))))
def zz25 := PLift.up (And.intro @tt2 (And.intro @tt9 (And.intro @tt36 (And.intro @tt133 (And.intro @tt165 (And.intro @tt167 (And.intro @tt260 (And.intro @tt291 (And.intro @e_laws_Definition.eq_1 (And.intro @e_laws_Part.eq_1 (And.intro @e_laws_Term.eq_1 @e_s_laws_Term.eq_1)))))))))))
def zz26 := PLift.up (And.intro @tt2 (And.intro @tt9 (And.intro @tt36 (And.intro @tt58 (And.intro @tt133 (And.intro @tt165 (And.intro @tt167 (And.intro @tt260 (And.intro @tt291 (And.intro @e_laws_Definition.eq_1 (And.intro @e_laws_Part.eq_1 (And.intro @e_laws_Term.eq_1 @e_s_laws_Term.eq_1))))))))))))
def zz27 := PLift.up (And.intro @tt2 (And.intro @tt9 (And.intro @tt36 (And.intro @tt40 (And.intro @tt131 (And.intro @tt133 (And.intro @tt195 (And.intro @tt249 (And.intro @tt260 (And.intro @tt291 (And.intro @e_laws_Part.eq_1 (And.intro @e_laws_Term.eq_1 @e_s_laws_Term.eq_1))))))))))))
def zz28 := PLift.up (And.intro @tt2 (And.intro @tt9 (And.intro @tt40 (And.intro @tt131 (And.intro @tt169 (And.intro @tt171 (And.intro @tt195 (And.intro @tt249 (And.intro @e_impl_Definition.eq_1 (And.intro @e_impl_Part.eq_1 (And.intro @e_impl_Term.eq_1 (And.intro @e_impl_place.eq_1 @e_s_impl_Term.eq_1))))))))))))
def zz29 := PLift.up (And.intro @tt2 (And.intro @tt4 (And.intro @tt9 (And.intro @tt40 (And.intro @tt131 (And.intro @tt185 (And.intro @tt195 (And.intro @tt249 (And.intro @e_impl_Part.eq_1 (And.intro @e_impl_Term.eq_1 (And.intro @e_impl_place.eq_1 @e_s_impl_Term.eq_1)))))))))))
def zz30 := PLift.up (And.intro @tt2 (And.intro @tt40 (And.intro @tt131 (And.intro @tt195 (And.intro @e_impl_Term.eq_1 @e_s_impl_Term.eq_1)))))
def zz31 := PLift.up (And.intro @tt2 (And.intro @tt9 (And.intro @tt36 (And.intro @tt40 (And.intro @tt131 (And.intro @tt133 (And.intro @tt165 (And.intro @tt167 (And.intro @tt169 (And.intro @tt171 (And.intro @tt195 (And.intro @tt249 (And.intro @tt260 (And.intro @tt291 (And.intro @e_laws_Definition.eq_1 (And.intro @e_laws_Part.eq_1 (And.intro @e_laws_Term.eq_1 @e_s_laws_Term.eq_1)))))))))))))))))
def zz32 := PLift.up (And.intro @tt2 (And.intro @tt4 (And.intro @tt185 (And.intro @tt258 (And.intro @e_impl_Definition.eq_1 (And.intro @e_impl_Part.eq_1 (And.intro @e_impl_Term.eq_1 (And.intro @e_impl_place.eq_1 @e_s_impl_Term.eq_1))))))))
def zz33 := PLift.up (And.intro @tt2 (And.intro @tt4 (And.intro @tt9 (And.intro @tt40 (And.intro @tt131 (And.intro @tt169 (And.intro @tt171 (And.intro @tt185 (And.intro @tt195 (And.intro @tt249 (And.intro @tt258 (And.intro @e_impl_Definition.eq_1 (And.intro @e_impl_Part.eq_1 (And.intro @e_impl_Term.eq_1 (And.intro @e_impl_place.eq_1 @e_s_impl_Term.eq_1)))))))))))))))
def zz34 := PLift.up (And.intro @tt2 (And.intro @tt9 (And.intro @tt40 (And.intro @tt131 (And.intro @tt195 (And.intro @tt249 (And.intro @e_impl_Part.eq_1 (And.intro @e_impl_Term.eq_1 (And.intro @e_impl_place.eq_1 @e_s_impl_Term.eq_1)))))))))

theorem ok_laws_szTermS  (a0 : List laws_Term) (a1 : Int) (r : Int) (h : laws_szTermS  a0 a1 = some r) : OkAt Cc 31 [.slice (a0.map e_laws_Term), .int .i64 a1] (.int .i64 r) [] := by
  refine OkAt.of_wpQ (fx := [0]) Cc_ok Try.func31 rfl rfl s31 (Nat.le_of_ble_eq_true rfl) (fun Q0 r0 n0 => ?_)
  replace r0 : ∀ s, onW (Fw.Ends Cc [0] [.tmp 4] (.int .i64 r) []) s → Q0 .ret s := r0
  replace n0 : ∀ s, onW (Fw.Ends Cc [0] [.tmp 4] (.int .i64 r) []) s → Q0 .normal s := n0
  show wpC Cc c31 Q0 (stA [(0, .slice (a0.map e_laws_Term)), (1, .int .i64 a1)])
  refine w_sreg (w_abs [(0, .slice (a0.map e_laws_Term)), (1, .int .i64 a1)] (fun P hP => ?_) ?_)
  · simp only [W0.down, simprocAttr, if_true, if_false, beq_self_eq_true, ne_eq, e_laws_Term]
    (try simp only [WN.down, simprocAttr, if_true, if_false, e_laws_Term] at hP ⊢)
    exact hP
  refine w_sreg (w_abs [(1, .int .i64 (IntKind.i64.wrap (a1 - (a0.length : Int))))] (fun P hP => ?_) ?_)
  · simp only [W0.down, simprocAttr, if_true, if_false, beq_self_eq_true, ne_eq, tt2, tt36, tt133, e_laws_Term]
    (try simp only [WN.down, simprocAttr, if_true, if_false, e_laws_Term] at hP ⊢)
    exact hP
  refine w_seq (fun Q3 n3 q3 x3 => ?_)
  refine w_sreg (w_abs [(1, .int .i64 (IntKind.i64.wrap (a1 - (a0.length : Int)))), (10, .bool (decide ((IntKind.i64.wrap (a1 - (a0.length : Int))) < 0)))] (fun P hP => ?_) ?_)
  · simp only [W0.down, simprocAttr, if_true, if_false, beq_self_eq_true, ne_eq]
    (try simp only [WN.down, simprocAttr, if_true, if_false] at hP ⊢)
    exact hP
  rcases condE h with ⟨b5, h⟩ | ⟨b5, h⟩
  · refine w_ct (congrArg AV.bool b5) ?_
    simp only [b5, Bool.not_true, Bool.not_false]
    refine w_sreg (w_abs [(4, .int .i64 (-1))] (fun P hP => ?_) ?_)
    · simp only [W0.down, simprocAttr, if_true, if_false, beq_self_eq_true, ne_eq]
      (try simp only [WN.down, simprocAttr, if_true, if_false] at hP ⊢)
      exact hP
    exact w_ret (q3 _ (r0 _ (.inl (w_fin [.int .i64 (-1)] rfl (by cases someE h; rfl) (by decide) outs_nil))))
  · refine w_cf (congrArg AV.bool b5) ?_
    simp only [b5, Bool.not_true, Bool.not_false]
    refine w_skip (n3 _ (.inl ?_))
    refine w_sreg (w_abs [(4, .int .i64 (IntKind.i64.wrap (a1 - (a0.length : Int))))] (fun P hP => ?_) ?_)
    · simp only [W0.down, simprocAttr, if_true, if_false, beq_self_eq_true, ne_eq]
      (try simp only [WN.down, simprocAttr, if_true, if_false] at hP ⊢)
      exact hP
    exact w_ret (r0 _ (.inl (w_fin [.int .i64 (IntKind.i64.wrap (a1 - (a0.length : Int)))] rfl (by cases someE h; rfl) (by decide) outs_nil)))

theorem ok_laws_szTermSS  (a0 : List (List laws_Term)) (a1 : Int) (r : Int) (h : laws_szTermSS  a0 a1 = some r) : OkAt Cc 287 [.slice (a0.map e_s_laws_Term), .int .i64 a1] (.int .i64 r) [] := by
  refine OkAt.of_wpQ (fx := [0]) Cc_ok Try.func287 rfl rfl s287 (Nat.le_of_ble_eq_true rfl) (fun Q0 r0 n0 => ?_)
  replace r0 : ∀ s, onW (Fw.Ends Cc [0] [.tmp 4] (.int .i64 r) []) s → Q0 .ret s := r0
  replace n0 : ∀ s, onW (Fw.Ends Cc [0] [.tmp 4] (.int .i64 r) []) s → Q0 .normal s := n0
  show wpC Cc c287 Q0 (stA [(0, .slice (a0.map e_s_laws_Term)), (1, .int .i64 a1)])
  refine w_sreg (w_abs [(0, .slice (a0.map e_s_laws_Term)), (1, .int .i64 a1)] (fun P hP => ?_) ?_)
  · simp only [W0.down, simprocAttr, if_true, if_false, beq_self_eq_true, ne_eq, zz10.down]
    (try simp only [WN.down, simprocAttr, if_true, if_false, zz10.down] at hP ⊢)
    exact hP
  refine w_sreg (w_abs [(0, .slice (a0.map e_s_laws_Term)), (1, .int .i64 (IntKind.i64.wrap (a1 - (a0.length : Int))))] (fun P hP => ?_) ?_)
  · simp only [W0.down, simprocAttr, if_true, if_false, beq_self_eq_true, ne_eq, zz22.down]
    (try simp only [WN.down, simprocAttr, if_true, if_false, zz10.down] at hP ⊢)
    exact hP
  refine w_seq (fun Q3 n3 q3 x3 => ?_)
  refine w_sreg (w_abs [(0, .slice (a0.map e_s_laws_Term)), (1, .int .i64 (IntKind.i64.wrap (a1 - (a0.length : Int)))), (11, .bool (decide ((IntKind.i64.wrap (a1 - (a0.length : Int))) < 0)))] (fun P hP => ?_) ?_)
  · simp only [W0.down, simprocAttr, if_true, if_false, beq_self_eq_true, ne_eq, zz10.down]
    (try simp only [WN.down, simprocAttr, if_true, if_false, zz10.down] at hP ⊢)
    exact hP
  rcases condE h with ⟨b5, h⟩ | ⟨b5, h⟩
  · refine w_ct (congrArg AV.bool b5) ?_
    simp only [b5, Bool.not_true, Bool.not_false]
    refine w_sreg (w_abs [(4, .int .i64 (-1))] (fun P hP => ?_) ?_)
    · simp only [W0.down, simprocAttr, if_true, if_false, beq_self_eq_true, ne_eq, zz10.down]
      (try simp only [WN.down, simprocAttr, if_true, if_false, zz10.down] at hP ⊢)
      exact hP
    exact w_ret (q3 _ (r0 _ (.inl (w_fin [.int .i64 (-1)] rfl (by cases someE h; rfl) (by decide) outs_nil))))
  · refine w_cf (congrArg AV.bool b5) ?_
    simp only [b5, Bool.not_true, Bool.not_false]
    refine w_skip (n3 _ (.inl ?_))
    refine w_seq (fun Q7 n7 q7 x7 => ?_)
    refine w_sreg (w_abs [(0, .slice (a0.map e_s_laws_Term)), (1, .int .i64 (IntKind.i64.wrap (a1 - (a0.length : Int)))), (5, .int .i64 0)] (fun P hP => ?_) ?_)
    · simp only [W0.down, simprocAttr, if_true, if_false, beq_self_eq_true, ne_eq, zz10.down]
      (try simp only [WN.down, simprocAttr, if_true, if_false, zz10.down] at hP ⊢)
      exact hP
    refine w_blk (fun Q9 n9 q9 b9 x9 => ?_)
    have L16 : ∀ (n : Nat) (v1_16 : Int) (v5_16 : Int), laws_szTermSS_l16 a0 n v1_16 v5_16 = some r → lpC Cc c287_17 Q9 (stA [(0, .slice (a0.map e_s_laws_Term)), (1, .int .i64 v1_16), (5, .int .i64 v5_16)]) := by
      intro m16
      induction m16 with
      | zero => intro v1_16 v5_16 h; cases (show none = some r from h)
      | succ m16 ih16 =>
        intro v1_16 v5_16 h
        replace h : laws_szTermSS_b16 (laws_szTermSS_l16 a0 m16) a0 v1_16 v5_16 = some r := h
        refine lpC_step (fun Q10 n10 q10 x10 => ?_)
        refine w_seq (fun Q11 n11 q11 x11 => ?_)
        refine w_sreg (w_abs [(0, .slice (a0.map e_s_laws_Term)), (1, .int .i64 v1_16), (5, .int .i64 v5_16), (15, .bool (decide (v5_16 < (a0.length : Int))))] (fun P hP => ?_) ?_)
        · simp only [W0.down, simprocAttr, if_true, if_false, beq_self_eq_true, ne_eq, zz22.down]
          (try simp only [WN.down, simprocAttr, if_true, if_false, zz10.down] at hP ⊢)
          exact hP
        rcases condE h with ⟨b13, h⟩ | ⟨b13, h⟩
        · refine w_ct (congrArg AV.bool b13) ?_
          simp only [b13, Bool.not_true, Bool.not_false]
          refine w_skip (n11 _ (.inl ?_))
          refine w_seq (fun Q14 n14 q14 x14 => ?_)
          refine w_blk (fun Q15 n15 q15 b15 x15 => ?_)
          obtain ⟨x1, e17, h⟩ := bindE h
          obtain ⟨x2, e18, h⟩ := bindE h
          refine w_sreg (w_abs [(0, .slice (a0.map e_s_laws_Term)), (1, .int .i64 x2), (5, .int .i64 v5_16)] (fun P hP => ?_) ?_)
          · simp only [W0.down, simprocAttr, if_true, if_false, beq_self_eq_true, ne_eq, zz22.down, e17]
            refine w_call0 (ok_laws_szTermS x1 v1_16 _ e18) rfl rfl rfl rfl (.inl (by rfl)) ?_
            simp only [W0.down, simprocAttr, if_true, if_false, beq_self_eq_true, ne_eq, zz22.down, e17]
            (try simp only [WN.down, simprocAttr, if_true, if_false, zz10.down, e17] at hP ⊢)
            exact hP
          refine w_sreg (w_abs [(0, .slice (a0.map e_s_laws_Term)), (1, .int .i64 x2), (5, .int .i64 v5_16), (25, .bool (decide (x2 < 0)))] (fun P hP => ?_) ?_)
          · simp only [W0.down, simprocAttr, if_true, if_false, beq_self_eq_true, ne_eq, zz10.down]
            (try simp only [WN.down, simprocAttr, if_true, if_false, zz10.down] at hP ⊢)
            exact hP
          rcases condE h with ⟨b20, h⟩ | ⟨b20, h⟩
          · refine w_ct (congrArg AV.bool b20) ?_
            simp only [b20, Bool.not_true, Bool.not_false]
            refine w_sreg (w_abs [(4, .int .i64 (-1))] (fun P hP => ?_) ?_)
            · simp only [W0.down, simprocAttr, if_true, if_false, beq_self_eq_true, ne_eq, zz10.down]
              (try simp only [WN.down, simprocAttr, if_true, if_false, zz10.down] at hP ⊢)
              exact hP
            exact w_ret (q15 _ (q14 _ (q10 _ (q9 _ (q7 _ (r0 _ (.inl (w_fin [.int .i64 (-1)] rfl (by cases someE h; rfl) (by decide) outs_nil))))))))
          · refine w_cf (congrArg AV.bool b20) ?_
            simp only [b20, Bool.not_true, Bool.not_false]
            refine w_skip (n15 _ (n14 _ (.inl ?_)))
            refine w_reg (w_abs [(0, .slice (a0.map e_s_laws_Term)), (1, .int .i64 x2), (5, .int .i64 (IntKind.i64.wrap (v5_16 + 1)))] (fun P hP => ?_) ?_)
            · simp only [W0.down, simprocAttr, if_true, if_false, beq_self_eq_true, ne_eq, zz10.down]
              (try simp only [WN.down, simprocAttr, if_true, if_false, zz10.down] at hP ⊢)
              exact hP
            exact n10 _ (.inr ⟨_, weak_eq rfl, ih16 x2 (IntKind.i64.wrap (v5_16 + 1)) h⟩)
        · refine w_cf (congrArg AV.bool b13) ?_
          simp only [b13, Bool.not_true, Bool.not_false]
          refine w_ex (x11 0 _ (x10 0 _ (b9 _ (n7 _ (.inl ?_)))))
          refine w_sreg (w_abs [(4, .int .i64 v1_16)] (fun P hP => ?_) ?_)
          · simp only [W0.down, simprocAttr, if_true, if_false, beq_self_eq_true, ne_eq, zz10.down]
            (try simp only [WN.down, simprocAttr, if_true, if_false, zz10.down] at hP ⊢)
            exact hP
          exact w_ret (r0 _ (.inl (w_fin [.int .i64 v1_16] rfl (by cases someE h; rfl) (by decide) outs_nil)))
    obtain ⟨n, h⟩ := limE h
    exact w_loop (.inr ⟨_, weak_eq rfl, L16 n (IntKind.i64.wrap (a1 - (a0.length : Int))) 0 h⟩)

theorem ok_laws_szPart  (a0 : laws_Part) (a1 : Int) (r : Int) (h : laws_szPart  a0 a1 = some r) : OkAt Cc 274 [e_laws_Part a0, .int .i64 a1] (.int .i64 r) [] := by
  refine OkAt.of_wpQ (fx := [0]) Cc_ok Try.func274 rfl rfl s274 (Nat.le_of_ble_eq_true rfl) (fun Q0 r0 n0 => ?_)
  replace r0 : ∀ s, onW (Fw.Ends Cc [0] [.tmp 4] (.int .i64 r) []) s → Q0 .ret s := r0
  replace n0 : ∀ s, onW (Fw.Ends Cc [0] [.tmp 4] (.int .i64 r) []) s → Q0 .normal s := n0
  show wpC Cc c274 Q0 (stA [(0, e_laws_Part a0), (1, .int .i64 a1)])
  refine w_sreg (w_abs [(1, .int .i64 a1), (2, .ubox (e_laws_Part a0))] (fun P hP => ?_) ?_)
  · simp only [W0.down, simprocAttr, if_true, if_false, beq_self_eq_true, ne_eq, zz23.down]
    (try simp only [WN.down, simprocAttr, if_true, if_false, zz5.down] at hP ⊢)
    exact hP
  refine w_sreg (w_abs [(1, .int .i64 (IntKind.i64.wrap (a1 - (a0.Name.length : Int)))), (2, .ubox (e_laws_Part a0))] (fun P hP => ?_) ?_)
  · simp only [W0.down, simprocAttr, if_true, if_false, beq_self_eq_true, ne_eq, zz23.down]
    (try simp only [WN.down, simprocAttr, if_true, if_false, zz5.down] at hP ⊢)
    exact hP
  refine w_seq (fun Q3 n3 q3 x3 => ?_)
  refine w_sreg (w_abs [(1, .int .i64 (IntKind.i64.wrap (a1 - (a0.Name.length : Int)))), (2, .ubox (e_laws_Part a0)), (11, .bool (decide ((IntKind.i64.wrap (a1 - (a0.Name.length : Int))) < 0)))] (fun P hP => ?_) ?_)
  · simp only [W0.down, simprocAttr, if_true, if_false, beq_self_eq_true, ne_eq, zz5.down]
    (try simp only [WN.down, simprocAttr, if_true, if_false, zz5.down] at hP ⊢)
    exact hP
  rcases condE h with ⟨b5, h⟩ | ⟨b5, h⟩
  · refine w_ct (congrArg AV.bool b5) ?_
    simp only [b5, Bool.not_true, Bool.not_false]
    refine w_sreg (w_abs [(4, .int .i64 (-1))] (fun P hP => ?_) ?_)
    · simp only [W0.down, simprocAttr, if_true, if_false, beq_self_eq_true, ne_eq, zz5.down]
      (try simp only [WN.down, simprocAttr, if_true, if_false, zz5.down] at hP ⊢)
      exact hP
    exact w_ret (q3 _ (r0 _ (.inl (w_fin [.int .i64 (-1)] rfl (by cases someE h; rfl) (by decide) outs_nil))))
  · refine w_cf (congrArg AV.bool b5) ?_
    simp only [b5, Bool.not_true, Bool.not_false]
    refine w_skip (n3 _ (.inl ?_))
    obtain ⟨x1, e8, h⟩ := bindE h
    refine w_sreg (w_abs [(1, .int .i64 x1)] (fun P hP => ?_) ?_)
    · simp only [W0.down, simprocAttr, if_true, if_false, beq_self_eq_true, ne_eq, zz23.down]
      refine w_call0 (ok_laws_szTermSS a0.Arguments (IntKind.i64.wrap (a1 - (a0.Name.length : Int))) _ e8) rfl rfl rfl rfl (.inl (by rfl)) ?_
      simp only [W0.down, simprocAttr, if_true, if_false, beq_self_eq_true, ne_eq, zz23.down]
      (try simp only [WN.down, simprocAttr, if_true, if_false, zz5.down] at hP ⊢)
      exact hP
    refine w_seq (fun Q9 n9 q9 x9 => ?_)
    refine w_sreg (w_abs [(1, .int .i64 x1), (17, .bool (decide (x1 < 0)))] (fun P hP => ?_) ?_)
    · simp only [W0.down, simprocAttr, if_true, if_false, beq_self_eq_true, ne_eq]
      (try simp only [WN.down, simprocAttr, if_true, if_false] at hP ⊢)
      exact hP
    rcases condE h with ⟨b11, h⟩ | ⟨b11, h⟩
    · refine w_ct (congrArg AV.bool b11) ?_
      simp only [b11, Bool.not_true, Bool.not_false]
      refine w_sreg (w_abs [(4, .int .i64 (-1))] (fun P hP => ?_) ?_)
      · simp only [W0.down, simprocAttr, if_true, if_false, beq_self_eq_true, ne_eq]
        (try simp only [WN.down, simprocAttr, if_true, if_false] at hP ⊢)
        exact hP
      exact w_ret (q9 _ (r0 _ (.inl (w_fin [.int .i64 (-1)] rfl (by cases someE h; rfl) (by decide) outs_nil))))
    · refine w_cf (congrArg AV.bool b11) ?_
      simp only [b11, Bool.not_true, Bool.not_false]
      refine w_skip (n9 _ (.inl ?_))
      refine w_sreg (w_abs [(4, .int .i64 x1)] (fun P hP => ?_) ?_)
      · simp only [W0.down, simprocAttr, if_true, if_false, beq_self_eq_true, ne_eq]
        (try simp only [WN.down, simprocAttr, if_true, if_false] at hP ⊢)
        exact hP
      exact w_ret (r0 _ (.inl (w_fin [.int .i64 x1] rfl (by cases someE h; rfl) (by decide) outs_nil)))

theorem ok_laws_szPartS  (a0 : List laws_Part) (a1 : Int) (r : Int) (h : laws_szPartS  a0 a1 = some r) : OkAt Cc 212 [.slice (a0.map e_laws_Part), .int .i64 a1] (.int .i64 r) [] := by
  refine OkAt.of_wpQ (fx := [0]) Cc_ok Try.func212 rfl rfl s212 (Nat.le_of_ble_eq_true rfl) (fun Q0 r0 n0 => ?_)
  replace r0 : ∀ s, onW (Fw.Ends Cc [0] [.tmp 4] (.int .i64 r) []) s → Q0 .ret s := r0
  replace n0 : ∀ s, onW (Fw.Ends Cc [0] [.tmp 4] (.int .i64 r) []) s → Q0 .normal s := n0
  show wpC Cc c212 Q0 (stA [(0, .slice (a0.map e_laws_Part)), (1, .int .i64 a1)])
  refine w_sreg (w_abs [(0, .slice (a0.map e_laws_Part)), (1, .int .i64 a1)] (fun P hP => ?_) ?_)
  · simp only [W0.down, simprocAttr, if_true, if_false, beq_self_eq_true, ne_eq, zz5.down]
    (try simp only [WN.down, simprocAttr, if_true, if_false, zz5.down] at hP ⊢)
    exact hP
  refine w_sreg (w_abs [(0, .slice (a0.map e_laws_Part)), (1, .int .i64 (IntKind.i64.wrap (a1 - (a0.length : Int))))] (fun P hP => ?_) ?_)
  · simp only [W0.down, simprocAttr, if_true, if_false, beq_self_eq_true, ne_eq, zz24.down]
    (try simp only [WN.down, simprocAttr, if_true, if_false, zz5.down] at hP ⊢)
    exact hP
  refine w_seq (fun Q3 n3 q3 x3 => ?_)
  refine w_sreg (w_abs [(0, .slice (a0.map e_laws_Part)), (1, .int .i64 (IntKind.i64.wrap (a1 - (a0.length : Int)))), (11, .bool (decide ((IntKind.i64.wrap (a1 - (a0.length : Int))) < 0)))] (fun P hP => ?_) ?_)
  · simp only [W0.down, simprocAttr, if_true, if_false, beq_self_eq_true, ne_eq, zz5.down]
    (try simp only [WN.down, simprocAttr, if_true, if_false, zz5.down] at hP ⊢)
    exact hP
  rcases condE h with ⟨b5, h⟩ | ⟨b5, h⟩
  · refine w_ct (congrArg AV.bool b5) ?_
    simp only [b5, Bool.not_true, Bool.not_false]
    refine w_sreg (w_abs [(4, .int .i64 (-1))] (fun P hP => ?_) ?_)
    · simp only [W0.down, simprocAttr, if_true, if_false, beq_self_eq_true, ne_eq, zz5.down]
      (try simp only [WN.down, simprocAttr, if_true, if_false, zz5.down] at hP ⊢)
      exact hP
    exact w_ret (q3 _ (r0 _ (.inl (w_fin [.int .i64 (-1)] rfl (by cases someE h; rfl) (by decide) outs_nil))))
  · refine w_cf (congrArg AV.bool b5) ?_
    simp only [b5, Bool.not_true, Bool.not_false]
    refine w_skip (n3 _ (.inl ?_))
    refine w_seq (fun Q7 n7 q7 x7 => ?_)
    refine w_sreg (w_abs [(0, .slice (a0.map e_laws_Part)), (1, .int .i64 (IntKind.i64.wrap (a1 - (a0.length : Int)))), (5, .int .i64 0)] (fun P hP => ?_) ?_)
    · simp only [W0.down, simprocAttr, if_true, if_false, beq_self_eq_true, ne_eq, zz5.down]
      (try simp only [WN.down, simprocAttr, if_true, if_false, zz5.down] at hP ⊢)
      exact hP
    refine w_blk (fun Q9 n9 q9 b9 x9 => ?_)
    have L16 : ∀ (n : Nat) (v1_16 : Int) (v5_16 : Int), laws_szPartS_l16 a0 n v1_16 v5_16 = some r → lpC Cc c212_17 Q9 (stA [(0, .slice (a0.map e_laws_Part)), (1, .int .i64 v1_16), (5, .int .i64 v5_16)]) := by
      intro m16
      induction m16 with
      | zero => intro v1_16 v5_16 h; cases (show none = some r from h)
      | succ m16 ih16 =>
        intro v1_16 v5_16 h
        replace h : laws_szPartS_b16 (laws_szPartS_l16 a0 m16) a0 v1_16 v5_16 = some r := h
        refine lpC_step (fun Q10 n10 q10 x10 => ?_)
        refine w_seq (fun Q11 n11 q11 x11 => ?_)
        refine w_sreg (w_abs [(0, .slice (a0.map e_laws_Part)), (1, .int .i64 v1_16), (5, .int .i64 v5_16), (15, .bool (decide (v5_16 < (a0.length : Int))))] (fun P hP => ?_) ?_)
        · simp only [W0.down, simprocAttr, if_true, if_false, beq_self_eq_true, ne_eq, zz24.down]
          (try simp only [WN.down, simprocAttr, if_true, if_false, zz5.down] at hP ⊢)
          exact hP
        rcases condE h with ⟨b13, h⟩ | ⟨b13, h⟩
        · refine w_ct (congrArg AV.bool b13) ?_
          simp only [b13, Bool.not_true, Bool.not_false]
          refine w_skip (n11 _ (.inl ?_))
          refine w_seq (fun Q14 n14 q14 x14 => ?_)
          refine w_blk (fun Q15 n15 q15 b15 x15 => ?_)
          obtain ⟨x1, e17, h⟩ := bindE h
          obtain ⟨x2, e18, h⟩ := bindE h
          refine w_sreg (w_abs [(0, .slice (a0.map e_laws_Part)), (1, .int .i64 x2), (5, .int .i64 v5_16)] (fun P hP => ?_) ?_)
          · simp only [W0.down, simprocAttr, if_true, if_false, beq_self_eq_true, ne_eq, zz24.down, e17]
            refine w_call0 (ok_laws_szPart x1 v1_16 _ e18) rfl rfl rfl rfl (.inl (by rfl)) ?_
            simp only [W0.down, simprocAttr, if_true, if_false, beq_self_eq_true, ne_eq, zz24.down, e17]
            (try simp only [WN.down, simprocAttr, if_true, if_false, zz5.down, e17] at hP ⊢)
            exact hP
          refine w_sreg (w_abs [(0, .slice (a0.map e_laws_Part)), (1, .int .i64 x2), (5, .int .i64 v5_16), (25, .bool (decide (x2 < 0)))] (fun P hP => ?_) ?_)
          · simp only [W0.down, simprocAttr, if_true, if_false, beq_self_eq_true, ne_eq, zz5.down]
            (try simp only [WN.down, simprocAttr, if_true, if_false, zz5.down] at hP ⊢)
            exact hP
          rcases condE h with ⟨b20, h⟩ | ⟨b20, h⟩
          · refine w_ct (congrArg AV.bool b20) ?_
            simp only [b20, Bool.not_true, Bool.not_false]
            refine w_sreg (w_abs [(4, .int .i64 (-1))] (fun P hP => ?_) ?_)
            · simp only [W0.down, simprocAttr, if_true, if_false, beq_self_eq_true, ne_eq, zz5.down]
              (try simp only [WN.down, simprocAttr, if_true, if_false, zz5.down] at hP ⊢)
              exact hP
            exact w_ret (q15 _ (q14 _ (q10 _ (q9 _ (q7 _ (r0 _ (.inl (w_fin [.int .i64 (-1)] rfl (by cases someE h; rfl) (by decide) outs_nil))))))))
          · refine w_cf (congrArg AV.bool b20) ?_
            simp only [b20, Bool.not_true, Bool.not_false]
            refine w_skip (n15 _ (n14 _ (.inl ?_)))
            refine w_reg (w_abs [(0, .slice (a0.map e_laws_Part)), (1, .int .i64 x2), (5, .int .i64 (IntKind.i64.wrap (v5_16 + 1)))] (fun P hP => ?_) ?_)
            · simp only [W0.down, simprocAttr, if_true, if_false, beq_self_eq_true, ne_eq, zz5.down]
              (try simp only [WN.down, simprocAttr, if_true, if_false, zz5.down] at hP ⊢)
              exact hP
            exact n10 _ (.inr ⟨_, weak_eq rfl, ih16 x2 (IntKind.i64.wrap (v5_16 + 1)) h⟩)
        · refine w_cf (congrArg AV.bool b13) ?_
          simp only [b13, Bool.not_true, Bool.not_false]
          refine w_ex (x11 0 _ (x10 0 _ (b9 _ (n7 _ (.inl ?_)))))
          refine w_sreg (w_abs [(4, .int .i64 v1_16)] (fun P hP => ?_) ?_)
          · simp only [W0.down, simprocAttr, if_true, if_false, beq_self_eq_true, ne_eq, zz5.down]
            (try simp only [WN.down, simprocAttr, if_true, if_false, zz5.down] at hP ⊢)
            exact hP
          exact w_ret (r0 _ (.inl (w_fin [.int .i64 v1_16] rfl (by cases someE h; rfl) (by decide) outs_nil)))
    obtain ⟨n, h⟩ := limE h
    exact w_loop (.inr ⟨_, weak_eq rfl, L16 n (IntKind.i64.wrap (a1 - (a0.length : Int))) 0 h⟩)

theorem ok_laws_szDefinition  (a0 : laws_Definition) (a1 : Int) (r : Int) (h : laws_szDefinition  a0 a1 = some r) : OkAt Cc 129 [e_laws_Definition a0, .int .i64 a1] (.int .i64 r) [] := by
  refine OkAt.of_wpQ (fx := [0]) Cc_ok Try.func129 rfl rfl s129 (Nat.le_of_ble_eq_true rfl) (fun Q0 r0 n0 => ?_)
  replace r0 : ∀ s, onW (Fw.Ends Cc [0] [.tmp 4] (.int .i64 r) []) s → Q0 .ret s := r0
  replace n0 : ∀ s, onW (Fw.Ends Cc [0] [.tmp 4] (.int .i64 r) []) s → Q0 .normal s := n0
  show wpC Cc c129 Q0 (stA [(0, e_laws_Definition a0), (1, .int .i64 a1)])
  refine w_sreg (w_abs [(1, .int .i64 a1), (2, .ubox (e_laws_Definition a0))] (fun P hP => ?_) ?_)
  · simp only [W0.down, simprocAttr, if_true, if_false, beq_self_eq_true, ne_eq, zz25.down]
    (try simp only [WN.down, simprocAttr, if_true, if_false, zz4.down] at hP ⊢)
    exact hP
  refine w_sreg (w_abs [(1, .int .i64 (IntKind.i64.wrap (a1 - (a0.Name.length : Int)))), (2, .ubox (e_laws_Definition a0))] (fun P hP => ?_) ?_)
  · simp only [W0.down, simprocAttr, if_true, if_false, beq_self_eq_true, ne_eq, zz25.down]
    (try simp only [WN.down, simprocAttr, if_true, if_false, zz4.down] at hP ⊢)
    exact hP
  refine w_seq (fun Q3 n3 q3 x3 => ?_)
  refine w_sreg (w_abs [(1, .int .i64 (IntKind.i64.wrap (a1 - (a0.Name.length : Int)))), (2, .ubox (e_laws_Definition a0)), (11, .bool (decide ((IntKind.i64.wrap (a1 - (a0.Name.length : Int))) < 0)))] (fun P hP => ?_) ?_)
  · simp only [W0.down, simprocAttr, if_true, if_false, beq_self_eq_true, ne_eq, zz4.down]
    (try simp only [WN.down, simprocAttr, if_true, if_false, zz4.down] at hP ⊢)
    exact hP
  rcases condE h with ⟨b5, h⟩ | ⟨b5, h⟩
  · refine w_ct (congrArg AV.bool b5) ?_
    simp only [b5, Bool.not_true, Bool.not_false]
    refine w_sreg (w_abs [(4, .int .i64 (-1))] (fun P hP => ?_) ?_)
    · simp only [W0.down, simprocAttr, if_true, if_false, beq_self_eq_true, ne_eq, zz4.down]
      (try simp only [WN.down, simprocAttr, if_true, if_false, zz4.down] at hP ⊢)
      exact hP
    exact w_ret (q3 _ (r0 _ (.inl (w_fin [.int .i64 (-1)] rfl (by cases someE h; rfl) (by decide) outs_nil))))
  · refine w_cf (congrArg AV.bool b5) ?_
    simp only [b5, Bool.not_true, Bool.not_false]
    refine w_skip (n3 _ (.inl ?_))
    obtain ⟨x1, e8, h⟩ := bindE h
    refine w_sreg (w_abs [(1, .int .i64 x1)] (fun P hP => ?_) ?_)
    · simp only [W0.down, simprocAttr, if_true, if_false, beq_self_eq_true, ne_eq, zz25.down]
      refine w_call0 (ok_laws_szPartS a0.Body (IntKind.i64.wrap (a1 - (a0.Name.length : Int))) _ e8) rfl rfl rfl rfl (.inl (by rfl)) ?_
      simp only [W0.down, simprocAttr, if_true, if_false, beq_self_eq_true, ne_eq, zz25.down]
      (try simp only [WN.down, simprocAttr, if_true, if_false, zz4.down] at hP ⊢)
      exact hP
    refine w_seq (fun Q9 n9 q9 x9 => ?_)
    refine w_sreg (w_abs [(1, .int .i64 x1), (17, .bool (decide (x1 < 0)))] (fun P hP => ?_) ?_)
    · simp only [W0.down, simprocAttr, if_true, if_false, beq_self_eq_true, ne_eq]
      (try simp only [WN.down, simprocAttr, if_true, if_false] at hP ⊢)
      exact hP
    rcases condE h with ⟨b11, h⟩ | ⟨b11, h⟩
    · refine w_ct (congrArg AV.bool b11) ?_
      simp only [b11, Bool.not_true, Bool.not_false]
      refine w_sreg (w_abs [(4, .int .i64 (-1))] (fun P hP => ?_) ?_)
      · simp only [W0.down, simprocAttr, if_true, if_false, beq_self_eq_true, ne_eq]
        (try simp only [WN.down, simprocAttr, if_true, if_false] at hP ⊢)
        exact hP
      exact w_ret (q9 _ (r0 _ (.inl (w_fin [.int .i64 (-1)] rfl (by cases someE h; rfl) (by decide) outs_nil))))
    · refine w_cf (congrArg AV.bool b11) ?_
      simp only [b11, Bool.not_true, Bool.not_false]
      refine w_skip (n9 _ (.inl ?_))
      refine w_sreg (w_abs [(4, .int .i64 x1)] (fun P hP => ?_) ?_)
      · simp only [W0.down, simprocAttr, if_true, if_false, beq_self_eq_true, ne_eq]
        (try simp only [WN.down, simprocAttr, if_true, if_false] at hP ⊢)
        exact hP
      exact w_ret (r0 _ (.inl (w_fin [.int .i64 x1] rfl (by cases someE h; rfl) (by decide) outs_nil)))

theorem ok_laws_szDefinitionS  (a0 : List laws_Definition) (a1 : Int) (r : Int) (h : laws_szDefinitionS  a0 a1 = some r) : OkAt Cc 50 [.slice (a0.map e_laws_Definition), .int .i64 a1] (.int .i64 r) [] := by
  refine OkAt.of_wpQ (fx := [0]) Cc_ok Try.func50 rfl rfl s50 (Nat.le_of_ble_eq_true rfl) (fun Q0 r0 n0 => ?_)
  replace r0 : ∀ s, onW (Fw.Ends Cc [0] [.tmp 4] (.int .i64 r) []) s → Q0 .ret s := r0
  replace n0 : ∀ s, onW (Fw.Ends Cc [0] [.tmp 4] (.int .i64 r) []) s → Q0 .normal s := n0
  show wpC Cc c50 Q0 (stA [(0, .slice (a0.map e_laws_Definition)), (1, .int .i64 a1)])
  refine w_sreg (w_abs [(0, .slice (a0.map e_laws_Definition)), (1, .int .i64 a1)] (fun P hP => ?_) ?_)
  · simp only [W0.down, simprocAttr, if_true, if_false, beq_self_eq_true, ne_eq, zz4.down]
    (try simp only [WN.down, simprocAttr, if_true, if_false, zz4.down] at hP ⊢)
    exact hP
  refine w_sreg (w_abs [(0, .slice (a0.map e_laws_Definition)), (1, .int .i64 (IntKind.i64.wrap (a1 - (a0.length : Int))))] (fun P hP => ?_) ?_)
  · simp only [W0.down, simprocAttr, if_true, if_false, beq_self_eq_true, ne_eq, zz26.down]
    (try simp only [WN.down, simprocAttr, if_true, if_false, zz4.down] at hP ⊢)
    exact hP
  refine w_seq (fun Q3 n3 q3 x3 => ?_)
  refine w_sreg (w_abs [(0, .slice (a0.map e_laws_Definition)), (1, .int .i64 (IntKind.i64.wrap (a1 - (a0.length : Int)))), (11, .bool (decide ((IntKind.i64.wrap (a1 - (a0.length : Int))) < 0)))] (fun P hP => ?_) ?_)
  · simp only [W0.down, simprocAttr, if_true, if_false, beq_self_eq_true, ne_eq, zz4.down]
    (try simp only [WN.down, simprocAttr, if_true, if_false, zz4.down] at hP ⊢)
    exact hP
  rcases condE h with ⟨b5, h⟩ | ⟨b5, h⟩
  · refine w_ct (congrArg AV.bool b5) ?_
    simp only [b5, Bool.not_true, Bool.not_false]
    refine w_sreg (w_abs [(4, .int .i64 (-1))] (fun P hP => ?_) ?_)
    · simp only [W0.down, simprocAttr, if_true, if_false, beq_self_eq_true, ne_eq, zz4.down]
      (try simp only [WN.down, simprocAttr, if_true, if_false, zz4.down] at hP ⊢)
      exact hP
    exact w_ret (q3 _ (r0 _ (.inl (w_fin [.int .i64 (-1)] rfl (by cases someE h; rfl) (by decide) outs_nil))))
  · refine w_cf (congrArg AV.bool b5) ?_
    simp only [b5, Bool.not_true, Bool.not_false]
    refine w_skip (n3 _ (.inl ?_))
    refine w_seq (fun Q7 n7 q7 x7 => ?_)
    refine w_sreg (w_abs [(0, .slice (a0.map e_laws_Definition)), (1, .int .i64 (IntKind.i64.wrap (a1 - (a0.length : Int)))), (5, .int .i64 0)] (fun P hP => ?_) ?_)
    · simp only [W0.down, simprocAttr, if_true, if_false, beq_self_eq_true, ne_eq, zz4.down]
      (try simp only [WN.down, simprocAttr, if_true, if_false, zz4.down] at hP ⊢)
      exact hP
    refine w_blk (fun Q9 n9 q9 b9 x9 => ?_)
    have L16 : ∀ (n : Nat) (v1_16 : Int) (v5_16 : Int), laws_szDefinitionS_l16 a0 n v1_16 v5_16 = some r → lpC Cc c50_17 Q9 (stA [(0, .slice (a0.map e_laws_Definition)), (1, .int .i64 v1_16), (5, .int .i64 v5_16)]) := by
      intro m16
      induction m16 with
      | zero => intro v1_16 v5_16 h; cases (show none = some r from h)
      | succ m16 ih16 =>
        intro v1_16 v5_16 h
        replace h : laws_szDefinitionS_b16 (laws_szDefinitionS_l16 a0 m16) a0 v1_16 v5_16 = some r := h
        refine lpC_step (fun Q10 n10 q10 x10 => ?_)
        refine w_seq (fun Q11 n11 q11 x11 => ?_)
        refine w_sreg (w_abs [(0, .slice (a0.map e_laws_Definition)), (1, .int .i64 v1_16), (5, .int .i64 v5_16), (15, .bool (decide (v5_16 < (a0.length : Int))))] (fun P hP => ?_) ?_)
        · simp only [W0.down, simprocAttr, if_true, if_false, beq_self_eq_true, ne_eq, zz26.down]
          (try simp only [WN.down, simprocAttr, if_true, if_false, zz4.down] at hP ⊢)
          exact hP
        rcases condE h with ⟨b13, h⟩ | ⟨b13, h⟩
        · refine w_ct (congrArg AV.bool b13) ?_
          simp only [b13, Bool.not_true, Bool.not_false]
          refine w_skip (n11 _ (.inl ?_))
          refine w_seq (fun Q14 n14 q14 x14 => ?_)
          refine w_blk (fun Q15 n15 q15 b15 x15 => ?_)
          obtain ⟨x1, e17, h⟩ := bindE h
          obtain ⟨x2, e18, h⟩ := bindE h
          refine w_sreg (w_abs [(0, .slice (a0.map e_laws_Definition)), (1, .int .i64 x2), (5, .int .i64 v5_16)] (fun P hP => ?_) ?_)
          · simp only [W0.down, simprocAttr, if_true, if_false, beq_self_eq_true, ne_eq, zz26.down, e17]
            refine w_call0 (ok_laws_szDefinition x1 v1_16 _ e18) rfl rfl rfl rfl (.inl (by rfl)) ?_
            simp only [W0.down, simprocAttr, if_true, if_false, beq_self_eq_true, ne_eq, zz26.down, e17]
            (try simp only [WN.down, simprocAttr, if_true, if_false, zz4.down, e17] at hP ⊢)
            exact hP
          refine w_sreg (w_abs [(0, .slice (a0.map e_laws_Definition)), (1, .int .i64 x2), (5, .int .i64 v5_16), (25, .bool (decide (x2 < 0)))] (fun P hP => ?_) ?_)
          · simp only [W0.down, simprocAttr, if_true, if_false, beq_self_eq_true, ne_eq, zz4.down]
            (try simp only [WN.down, simprocAttr, if_true, if_false, zz4.down] at hP ⊢)
            exact hP
          rcases condE h with ⟨b20, h⟩ | ⟨b20, h⟩
          · refine w_ct (congrArg AV.bool b20) ?_
            simp only [b20, Bool.not_true, Bool.not_false]
            refine w_sreg (w_abs [(4, .int .i64 (-1))] (fun P hP => ?_) ?_)
            · simp only [W0.down, simprocAttr, if_true, if_false, beq_self_eq_true, ne_eq, zz4.down]
              (try simp only [WN.down, simprocAttr, if_true, if_false, zz4.down] at hP ⊢)
              exact hP
            exact w_ret (q15 _ (q14 _ (q10 _ (q9 _ (q7 _ (r0 _ (.inl (w_fin [.int .i64 (-1)] rfl (by cases someE h; rfl) (by decide) outs_nil))))))))
          · refine w_cf (congrArg AV.bool b20) ?_
            simp only [b20, Bool.not_true, Bool.not_false]
            refine w_skip (n15 _ (n14 _ (.inl ?_)))
            refine w_reg (w_abs [(0, .slice (a0.map e_laws_Definition)), (1, .int .i64 x2), (5, .int .i64 (IntKind.i64.wrap (v5_16 + 1)))] (fun P hP => ?_) ?_)
            · simp only [W0.down, simprocAttr, if_true, if_false, beq_self_eq_true, ne_eq, zz4.down]
              (try simp only [WN.down, simprocAttr, if_true, if_false, zz4.down] at hP ⊢)
              exact hP
            exact n10 _ (.inr ⟨_, weak_eq rfl, ih16 x2 (IntKind.i64.wrap (v5_16 + 1)) h⟩)
        · refine w_cf (congrArg AV.bool b13) ?_
          simp only [b13, Bool.not_true, Bool.not_false]
          refine w_ex (x11 0 _ (x10 0 _ (b9 _ (n7 _ (.inl ?_)))))
          refine w_sreg (w_abs [(4, .int .i64 v1_16)] (fun P hP => ?_) ?_)
          · simp only [W0.down, simprocAttr, if_true, if_false, beq_self_eq_true, ne_eq, zz4.down]
            (try simp only [WN.down, simprocAttr, if_true, if_false, zz4.down] at hP ⊢)
            exact hP
          exact w_ret (r0 _ (.inl (w_fin [.int .i64 v1_16] rfl (by cases someE h; rfl) (by decide) outs_nil)))
    obtain ⟨n, h⟩ := limE h
    exact w_loop (.inr ⟨_, weak_eq rfl, L16 n (IntKind.i64.wrap (a1 - (a0.length : Int))) 0 h⟩)

theorem ok_laws_toTerm  (a0 : laws_Term) (r : impl_Term) (h : laws_toTerm  a0 = some r) : OkAt Cc 107 [e_laws_Term a0] (e_impl_Term r) [] := by
  refine OkAt.of_wpQ (fx := [0]) Cc_ok Try.func107 rfl rfl s107 (Nat.le_of_ble_eq_true rfl) (fun Q0 r0 n0 => ?_)
  replace r0 : ∀ s, onW (Fw.Ends Cc [0] [.cell 2 131] (e_impl_Term r) []) s → Q0 .ret s := r0
  replace n0 : ∀ s, onW (Fw.Ends Cc [0] [.cell 2 131] (e_impl_Term r) []) s → Q0 .normal s := n0
  show wpC Cc c107 Q0 (stA [(0, e_laws_Term a0)])
  refine w_sreg (w_abs [(1, .ubox (e_laws_Term a0)), (2, .ubox (.agg [.int .i64 0, .int .i64 0]))] (fun P hP => ?_) ?_)
  · simp only [W0.down, simprocAttr, if_true, if_false, beq_self_eq_true, ne_eq, tt2, tt131, tt133, e_laws_Term]
    (try simp only [WN.down, simprocAttr, if_true, if_false, e_laws_Term] at hP ⊢)
    exact hP
  refine w_sreg (w_abs [(1, .ubox (e_laws_Term a0)), (2, .ubox (.agg [.int .i64 0, .int .i64 0])), (3, .ubox (.agg [.int .i64 0, .int .i64 0]))] (fun P hP => ?_) ?_)
  · simp only [W0.down, simprocAttr, if_true, if_false, beq_self_eq_true, ne_eq, tt2, tt131, e_laws_Term]
    (try simp only [WN.down, simprocAttr, if_true, if_false, e_laws_Term] at hP ⊢)
    exact hP
  refine w_sreg (w_abs [(1, .ubox (e_laws_Term a0)), (2, .ubox (.agg [.int .i64 0, .int .i64 0])), (3, .ubox (.agg [.int .i64 a0.Kind, .int .i64 0]))] (fun P hP => ?_) ?_)
  · simp only [W0.down, simprocAttr, if_true, if_false, beq_self_eq_true, ne_eq, tt2, tt131, tt133, e_laws_Term]
    (try simp only [WN.down, simprocAttr, if_true, if_false, e_laws_Term] at hP ⊢)
    exact hP
  refine w_sreg (w_abs [(2, .ubox (.agg [.int .i64 0, .int .i64 0])), (3, .ubox (.agg [.int .i64 a0.Kind, .int .i64 a0.Value]))] (fun P hP => ?_) ?_)
  · simp only [W0.down, simprocAttr, if_true, if_false, beq_self_eq_true, ne_eq, tt2, tt131, tt133, e_laws_Term]
    (try simp only [WN.down, simprocAttr, if_true, if_false, e_laws_Term] at hP ⊢)
    exact hP
  refine w_sreg (w_abs [(2, .ubox (.agg [.int .i64 a0.Kind, .int .i64 a0.Value]))] (fun P hP => ?_) ?_)
  · simp only [W0.down, simprocAttr, if_true, if_false, beq_self_eq_true, ne_eq, tt2, tt131]
    (try simp only [WN.down, simprocAttr, if_true, if_false] at hP ⊢)
    exact hP
  exact w_ret (r0 _ (.inl (w_fin [e_impl_Term (impl_Term.mk a0.Kind a0.Value)] rfl (by cases someE h; rfl) (by decide) outs_nil)))

theorem ok_laws_toTermS  (a0 : List laws_Term) (r : (List impl_Term)) (h : laws_toTermS  a0 = some r) : OkAt Cc 33 [.slice (a0.map e_laws_Term)] (.uslice 2 (r.map e_impl_Term)) [] := by
  refine OkAt.of_wpQ (fx := [0]) Cc_ok Try.func33 rfl rfl s33 (Nat.le_of_ble_eq_true rfl) (fun Q0 r0 n0 => ?_)
  replace r0 : ∀ s, onW (Fw.Ends Cc [0] [.tmp 2] (.uslice 2 (r.map e_impl_Term)) []) s → Q0 .ret s := r0
  replace n0 : ∀ s, onW (Fw.Ends Cc [0] [.tmp 2] (.uslice 2 (r.map e_impl_Term)) []) s → Q0 .normal s := n0
  show wpC Cc c33 Q0 (stA [(0, .slice (a0.map e_laws_Term))])
  refine w_sreg (w_abs [(0, .slice (a0.map e_laws_Term))] (fun P hP => ?_) ?_)
  · simp only [W0.down, simprocAttr, if_true, if_false, beq_self_eq_true, ne_eq, e_laws_Term]
    (try simp only [WN.down, simprocAttr, if_true, if_false, e_laws_Term] at hP ⊢)
    exact hP
  obtain ⟨u18, e3, h⟩ := bindE h
  refine w_sreg (w_abs [(0, .slice (a0.map e_laws_Term)), (3, .uslice 2 ((List.replicate (Int.toNat (a0.length : Int)) (impl_Term.mk 0 0)).map e_impl_Term))] (fun P hP => ?_) ?_)
  · simp only [W0.down, simprocAttr, if_true, if_false, beq_self_eq_true, ne_eq, tt2, tt36, tt40, tt131, tt133, e_impl_Term, e_laws_Term, (mkOkE e3).1, (mkOkE e3).2.1, (mkOkE e3).2.2, mks, List.map_replicate, -Int.reduceNatCast']
    (try simp only [WN.down, simprocAttr, if_true, if_false, zz19.down, (mkOkE e3).1, (mkOkE e3).2.1, (mkOkE e3).2.2, mks, List.map_replicate, -Int.reduceNatCast'] at hP ⊢)
    exact hP
  refine w_seq (fun Q4 n4 q4 x4 => ?_)
  refine w_sreg (w_abs [(0, .slice (a0.map e_laws_Term)), (3, .uslice 2 ((List.replicate (Int.toNat (a0.length : Int)) (impl_Term.mk 0 0)).map e_impl_Term)), (4, .int .i64 0)] (fun P hP => ?_) ?_)
  · simp only [W0.down, simprocAttr, if_true, if_false, beq_self_eq_true, ne_eq, zz19.down]
    (try simp only [WN.down, simprocAttr, if_true, if_false, zz19.down] at hP ⊢)
    exact hP
  refine w_blk (fun Q6 n6 q6 b6 x6 => ?_)
  have L8 : ∀ (n : Nat) (v3_8 : List impl_Term) (v4_8 : Int), laws_toTermS_l8 a0 n v3_8 v4_8 = some r → lpC Cc c33_9 Q6 (stA [(0, .slice (a0.map e_laws_Term)), (3, .uslice 2 (v3_8.map e_impl_Term)), (4, .int .i64 v4_8)]) := by
    intro m8
    induction m8 with
    | zero => intro v3_8 v4_8 h; cases (show none = some r from h)
    | succ m8 ih8 =>
      intro v3_8 v4_8 h
      replace h : laws_toTermS_b8 (laws_toTermS_l8 a0 m8) a0 v3_8 v4_8 = some r := h
      refine lpC_step (fun Q7 n7 q7 x7 => ?_)
      refine w_seq (fun Q8 n8 q8 x8 => ?_)
      refine w_sreg (w_abs [(0, .slice (a0.map e_laws_Term)), (3, .uslice 2 (v3_8.map e_impl_Term)), (4, .int .i64 v4_8), (11, .bool (decide (v4_8 < (a0.length : Int))))] (fun P hP => ?_) ?_)
      · simp only [W0.down, simprocAttr, if_true, if_false, beq_self_eq_true, ne_eq, tt2, tt36, tt133, e_impl_Term, e_laws_Term]
        (try simp only [WN.down, simprocAttr, if_true, if_false, zz19.down] at hP ⊢)
        exact hP
      rcases condE h with ⟨b10, h⟩ | ⟨b10, h⟩
      · refine w_ct (congrArg AV.bool b10) ?_
        simp only [b10, Bool.not_true, Bool.not_false]
        refine w_skip (n8 _ (.inl ?_))
        refine w_seq (fun Q11 n11 q11 x11 => ?_)
        refine w_blk (fun Q12 n12 q12 b12 x12 => ?_)
        obtain ⟨x1, e14, h⟩ := bindE h
        obtain ⟨x2, e15, h⟩ := bindE h
        obtain ⟨x3, e16, h⟩ := bindE h
        refine w_reg (w_abs [(0, .slice (a0.map e_laws_Term)), (3, .uslice 2 ((List.set v3_8 (Int.toNat v4_8) x2).map e_impl_Term)), (4, .int .i64 v4_8)] (fun P hP => ?_) ?_)
        · simp only [W0.down, simprocAttr, if_true, if_false, beq_self_eq_true, ne_eq, tt2, tt36, tt40, tt131, tt133, e_impl_Term, e_laws_Term, e14, e16, getI_get e16, own_s, stoS]
          refine w_call0 (ok_laws_toTerm x1 _ e15) rfl rfl rfl rfl (.inl (by rfl)) ?_
          simp only [W0.down, simprocAttr, if_true, if_false, beq_self_eq_true, ne_eq, tt2, tt36, tt40, tt131, tt133, e_impl_Term, e_laws_Term, e14, e16, getI_get e16, own_s, stoS]
          (try simp only [WN.down, simprocAttr, if_true, if_false, zz19.down, e14, e16, getI_get e16, own_s, stoS] at hP ⊢)
          exact hP
        refine n12 _ (n11 _ (.inl ?_))
        refine w_reg (w_abs [(0, .slice (a0.map e_laws_Term)), (3, .uslice 2 ((List.set v3_8 (Int.toNat v4_8) x2).map e_impl_Term)), (4, .int .i64 (IntKind.i64.wrap (v4_8 + 1)))] (fun P hP => ?_) ?_)
        · simp only [W0.down, simprocAttr, if_true, if_false, beq_self_eq_true, ne_eq, zz19.down]
          (try simp only [WN.down, simprocAttr, if_true, if_false, zz19.down] at hP ⊢)
          exact hP
        exact n7 _ (.inr ⟨_, weak_eq rfl, ih8 (List.set v3_8 (Int.toNat v4_8) x2) (IntKind.i64.wrap (v4_8 + 1)) h⟩)
      · refine w_cf (congrArg AV.bool b10) ?_
        simp only [b10, Bool.not_true, Bool.not_false]
        refine w_ex (x8 0 _ (x7 0 _ (b6 _ (n4 _ (.inl ?_)))))
        refine w_sreg (w_abs [(2, .uslice 2 (v3_8.map e_impl_Term))] (fun P hP => ?_) ?_)
        · simp only [W0.down, simprocAttr, if_true, if_false, beq_self_eq_true, ne_eq, zz19.down]
          (try simp only [WN.down, simprocAttr, if_true, if_false, zz19.down] at hP ⊢)
          exact hP
        exact w_ret (r0 _ (.inl (w_fin [.uslice 2 (v3_8.map e_impl_Term)] rfl (by cases someE h; rfl) (by decide) outs_nil)))
  obtain ⟨n, h⟩ := limE h
  exact w_loop (.inr ⟨_, weak_eq rfl, L8 n (List.replicate (Int.toNat (a0.length : Int)) (impl_Term.mk 0 0)) 0 h⟩)

theorem ok_laws_toTermSS  (a0 : List (List laws_Term)) (r : (List (List impl_Term))) (h : laws_toTermSS  a0 = some r) : OkAt Cc 290 [.slice (a0.map e_s_laws_Term)] (.uslice 1 (r.map u_s_impl_Term)) [] := by
  refine OkAt.of_wpQ (fx := [0]) Cc_ok Try.func290 rfl rfl s290 (Nat.le_of_ble_eq_true rfl) (fun Q0 r0 n0 => ?_)
  replace r0 : ∀ s, onW (Fw.Ends Cc [0] [.tmp 2] (.uslice 1 (r.map u_s_impl_Term)) []) s → Q0 .ret s := r0
  replace n0 : ∀ s, onW (Fw.Ends Cc [0] [.tmp 2] (.uslice 1 (r.map u_s_impl_Term)) []) s → Q0 .normal s := n0
  show wpC Cc c290 Q0 (stA [(0, .slice (a0.map e_s_laws_Term))])
  refine w_sreg (w_abs [(0, .slice (a0.map e_s_laws_Term))] (fun P hP => ?_) ?_)
  · simp only [W0.down, simprocAttr, if_true, if_false, beq_self_eq_true, ne_eq, zz10.down]
    (try simp only [WN.down, simprocAttr, if_true, if_false, zz10.down] at hP ⊢)
    exact hP
  obtain ⟨u18, e3, h⟩ := bindE h
  refine w_sreg (w_abs [(0, .slice (a0.map e_s_laws_Term)), (3, .uslice 1 (List.replicate (Int.toNat (a0.length : Int)) .nils))] (fun P hP => ?_) ?_)
  · simp only [W0.down, simprocAttr, if_true, if_false, beq_self_eq_true, ne_eq, tt2, tt36, tt40, tt131, tt133, tt195, tt260, e_laws_Term, e_s_laws_Term, (mkOkE e3).1, (mkOkE e3).2.1, (mkOkE e3).2.2, mks, List.map_replicate, -Int.reduceNatCast']
    (try simp only [WN.down, simprocAttr, if_true, if_false, zz10.down, (mkOkE e3).1, (mkOkE e3).2.1, (mkOkE e3).2.2, mks, List.map_replicate, -Int.reduceNatCast'] at hP ⊢)
    exact hP
  refine w_seq (fun Q4 n4 q4 x4 => ?_)
  refine w_sreg (w_abs [(0, .slice (a0.map e_s_laws_Term)), (3, .uslice 1 (List.replicate (Int.toNat (a0.length : Int)) .nils)), (4, .int .i64 0)] (fun P hP => ?_) ?_)
  · simp only [W0.down, simprocAttr, if_true, if_false, beq_self_eq_true, ne_eq, zz10.down]
    (try simp only [WN.down, simprocAttr, if_true, if_false, zz10.down] at hP ⊢)
    exact hP
  refine w_blk (fun Q6 n6 q6 b6 x6 => ?_)
  have L8 : ∀ (n : Nat) (v3_8 : List (List impl_Term)) (v4_8 : Int), laws_toTermSS_l8 a0 n v3_8 v4_8 = some r → lpC Cc c290_9 Q6 (stA [(0, .slice (a0.map e_s_laws_Term)), (3, .uslice 1 (v3_8.map u_s_impl_Term)), (4, .int .i64 v4_8)]) := by
    intro m8
    induction m8 with
    | zero => intro v3_8 v4_8 h; cases (show none = some r from h)
    | succ m8 ih8 =>
      intro v3_8 v4_8 h
      replace h : laws_toTermSS_b8 (laws_toTermSS_l8 a0 m8) a0 v3_8 v4_8 = some r := h
      refine lpC_step (fun Q7 n7 q7 x7 => ?_)
      refine w_seq (fun Q8 n8 q8 x8 => ?_)
      refine w_sreg (w_abs [(0, .slice (a0.map e_s_laws_Term)), (3, .uslice 1 (v3_8.map u_s_impl_Term)), (4, .int .i64 v4_8), (11, .bool (decide (v4_8 < (a0.length : Int))))] (fun P hP => ?_) ?_)
      · simp only [W0.down, simprocAttr, if_true, if_false, beq_self_eq_true, ne_eq, tt2, tt36, tt133, tt260, e_impl_Term, e_laws_Term, e_s_laws_Term, u_s_impl_Term]
        (try simp only [WN.down, simprocAttr, if_true, if_false, zz20.down] at hP ⊢)
        exact hP
      rcases condE h with ⟨b10, h⟩ | ⟨b10, h⟩
      · refine w_ct (congrArg AV.bool b10) ?_
        simp only [b10, Bool.not_true, Bool.not_false]
        refine w_skip (n8 _ (.inl ?_))
        refine w_seq (fun Q11 n11 q11 x11 => ?_)
        refine w_blk (fun Q12 n12 q12 b12 x12 => ?_)
        obtain ⟨x1, e14, h⟩ := bindE h
        obtain ⟨x2, e15, h⟩ := bindE h
        obtain ⟨x3, e16, h⟩ := bindE h
        refine w_reg (w_abs [(0, .slice (a0.map e_s_laws_Term)), (3, .uslice 1 ((List.set v3_8 (Int.toNat v4_8) x2).map u_s_impl_Term)), (4, .int .i64 v4_8)] (fun P hP => ?_) ?_)
        · simp only [W0.down, simprocAttr, if_true, if_false, beq_self_eq_true, ne_eq, tt2, tt36, tt40, tt131, tt133, tt195, tt260, e_impl_Term, e_laws_Term, e_s_laws_Term, u_s_impl_Term, e14, e16, getI_get e16, own_s, stoS]
          refine w_call0 (ok_laws_toTermS x1 _ e15) rfl rfl rfl rfl (.inl (by rfl)) ?_
          simp only [W0.down, simprocAttr, if_true, if_false, beq_self_eq_true, ne_eq, tt2, tt36, tt40, tt131, tt133, tt195, tt260, e_impl_Term, e_laws_Term, e_s_laws_Term, u_s_impl_Term, e14, e16, getI_get e16, own_s, stoS]
          (try simp only [WN.down, simprocAttr, if_true, if_false, zz20.down, e14, e16, getI_get e16, own_s, stoS] at hP ⊢)
          exact hP
        refine n12 _ (n11 _ (.inl ?_))
        refine w_reg (w_abs [(0, .slice (a0.map e_s_laws_Term)), (3, .uslice 1 ((List.set v3_8 (Int.toNat v4_8) x2).map u_s_impl_Term)), (4, .int .i64 (IntKind.i64.wrap (v4_8 + 1)))] (fun P hP => ?_) ?_)
        · simp only [W0.down, simprocAttr, if_true, if_false, beq_self_eq_true, ne_eq, zz20.down]
          (try simp only [WN.down, simprocAttr, if_true, if_false, zz20.down] at hP ⊢)
          exact hP
        exact n7 _ (.inr ⟨_, weak_eq rfl, ih8 (List.set v3_8 (Int.toNat v4_8) x2) (IntKind.i64.wrap (v4_8 + 1)) h⟩)
      · refine w_cf (congrArg AV.bool b10) ?_
        simp only [b10, Bool.not_true, Bool.not_false]
        refine w_ex (x8 0 _ (x7 0 _ (b6 _ (n4 _ (.inl ?_)))))
        refine w_sreg (w_abs [(2, .uslice 1 (v3_8.map u_s_impl_Term))] (fun P hP => ?_) ?_)
        · simp only [W0.down, simprocAttr, if_true, if_false, beq_self_eq_true, ne_eq, zz20.down]
          (try simp only [WN.down, simprocAttr, if_true, if_false, zz20.down] at hP ⊢)
          exact hP
        exact w_ret (r0 _ (.inl (w_fin [.uslice 1 (v3_8.map u_s_impl_Term)] rfl (by cases someE h; rfl) (by decide) outs_nil)))
  obtain ⟨n, h⟩ := limE h
  exact w_loop (.inr ⟨_, weak_mix [] rfl (wk_eq (t := 0) (d := .slice (a0.map e_s_laws_Term)) rfl (wk_wd (t := 3) (d := .uslice 1 (List.replicate (Int.toNat (a0.length : Int)) .nils)) (d' := .uslice 1 ((List.replicate (Int.toNat (a0.length : Int)) []).map u_s_impl_Term)) rfl rfl (wd_rep (u := u_s_impl_Term) (z := []) (.nilsU _) _) (by decide) (wk_eq (t := 4) (d := .int .i64 0) rfl (wk_nil)))), L8 n (List.replicate (Int.toNat (a0.length : Int)) []) 0 h⟩)

theorem ok_laws_toPart  (a0 : laws_Part) (r : impl_Part) (h : laws_toPart  a0 = some r) : OkAt Cc 276 [e_laws_Part a0] (u_impl_Part r) [] := by
  refine OkAt.of_wpQ (fx := [0]) Cc_ok Try.func276 rfl rfl s276 (Nat.le_of_ble_eq_true rfl) (fun Q0 r0 n0 => ?_)
  replace r0 : ∀ s, onW (Fw.Ends Cc [0] [.cell 2 249] (u_impl_Part r) []) s → Q0 .ret s := r0
  replace n0 : ∀ s, onW (Fw.Ends Cc [0] [.cell 2 249] (u_impl_Part r) []) s → Q0 .normal s := n0
  show wpC Cc c276 Q0 (stA [(0, e_laws_Part a0)])
  refine w_sreg (w_abs [(1, .ubox (e_laws_Part a0)), (2, .ubox (.agg [.int .i64 0, .int .i64 0, .str ([] : List UInt8), .nils]))] (fun P hP => ?_) ?_)
  · simp only [W0.down, simprocAttr, if_true, if_false, beq_self_eq_true, ne_eq, zz27.down]
    (try simp only [WN.down, simprocAttr, if_true, if_false, zz5.down] at hP ⊢)
    exact hP
  refine w_sreg (w_abs [(1, .ubox (e_laws_Part a0)), (2, .ubox (.agg [.int .i64 0, .int .i64 0, .str ([] : List UInt8), .nils])), (3, .ubox (.agg [.int .i64 0, .int .i64 0, .str ([] : List UInt8), .nils]))] (fun P hP => ?_) ?_)
  · simp only [W0.down, simprocAttr, if_true, if_false, beq_self_eq_true, ne_eq, tt2, tt9, tt40, tt131, tt195, tt249, e_laws_Part, e_laws_Term, e_s_laws_Term]
    (try simp only [WN.down, simprocAttr, if_true, if_false, zz5.down] at hP ⊢)
    exact hP
  refine w_sreg (w_abs [(1, .ubox (e_laws_Part a0)), (2, .ubox (.agg [.int .i64 0, .int .i64 0, .str ([] : List UInt8), .nils])), (3, .ubox (.agg [.int .i64 a0.Kind, .int .i64 0, .str ([] : List UInt8), .nils]))] (fun P hP => ?_) ?_)
  · simp only [W0.down, simprocAttr, if_true, if_false, beq_self_eq_true, ne_eq, zz27.down]
    (try simp only [WN.down, simprocAttr, if_true, if_false, zz5.down] at hP ⊢)
    exact hP
  refine w_sreg (w_abs [(1, .ubox (e_laws_Part a0)), (2, .ubox (.agg [.int .i64 0, .int .i64 0, .str ([] : List UInt8), .nils])), (3, .ubox (.agg [.int .i64 a0.Kind, .int .i64 a0.Number, .str ([] : List UInt8), .nils]))] (fun P hP => ?_) ?_)
  · simp only [W0.down, simprocAttr, if_true, if_false, beq_self_eq_true, ne_eq, zz27.down]
    (try simp only [WN.down, simprocAttr, if_true, if_false, zz5.down] at hP ⊢)
    exact hP
  refine w_sreg (w_abs [(1, .ubox (e_laws_Part a0)), (2, .ubox (.agg [.int .i64 0, .int .i64 0, .str ([] : List UInt8), .nils])), (3, .ubox (.agg [.int .i64 a0.Kind, .int .i64 a0.Number, .str a0.Name, .nils]))] (fun P hP => ?_) ?_)
  · simp only [W0.down, simprocAttr, if_true, if_false, beq_self_eq_true, ne_eq, zz27.down]
    (try simp only [WN.down, simprocAttr, if_true, if_false, zz5.down] at hP ⊢)
    exact hP
  obtain ⟨x1, e7, h⟩ := bindE h
  refine w_sreg (w_abs [(2, .ubox (.agg [.int .i64 0, .int .i64 0, .str ([] : List UInt8), .nils])), (3, .ubox (.agg [.int .i64 a0.Kind, .int .i64 a0.Number, .str a0.Name, .uslice 1 (x1.map u_s_impl_Term)]))] (fun P hP => ?_) ?_)
  · simp only [W0.down, simprocAttr, if_true, if_false, beq_self_eq_true, ne_eq, tt2, tt9, tt36, tt40, tt131, tt133, tt195, tt249, tt260, tt291, e_impl_Term, e_laws_Part, e_laws_Term, e_s_laws_Term, u_s_impl_Term]
    refine w_call0 (ok_laws_toTermSS a0.Arguments _ e7) rfl rfl rfl rfl (.inl (by rfl)) ?_
    simp only [W0.down, simprocAttr, if_true, if_false, beq_self_eq_true, ne_eq, tt2, tt9, tt36, tt40, tt131, tt133, tt195, tt249, tt260, tt291, e_impl_Term, e_laws_Part, e_laws_Term, e_s_laws_Term, u_s_impl_Term]
    (try simp only [WN.down, simprocAttr, if_true, if_false, e_impl_Term, e_laws_Part, e_laws_Term, e_s_laws_Term, u_s_impl_Term] at hP ⊢)
    exact hP
  refine w_sreg (w_abs [(2, .ubox (.agg [.int .i64 a0.Kind, .int .i64 a0.Number, .str a0.Name, .uslice 1 (x1.map u_s_impl_Term)]))] (fun P hP => ?_) ?_)
  · simp only [W0.down, simprocAttr, if_true, if_false, beq_self_eq_true, ne_eq, tt2, tt9, tt40, tt131, tt195, tt249, e_impl_Term, u_s_impl_Term]
    (try simp only [WN.down, simprocAttr, if_true, if_false, e_impl_Term, u_s_impl_Term] at hP ⊢)
    exact hP
  exact w_ret (r0 _ (.inl (w_fin [u_impl_Part (impl_Part.mk a0.Kind a0.Number a0.Name x1)] rfl (by cases someE h; rfl) (by decide) outs_nil)))

theorem ok_laws_toPartS  (a0 : List laws_Part) (r : (List impl_Part)) (h : laws_toPartS  a0 = some r) : OkAt Cc 215 [.slice (a0.map e_laws_Part)] (.uslice 4 (r.map u_impl_Part)) [] := by
  refine OkAt.of_wpQ (fx := [0]) Cc_ok Try.func215 rfl rfl s215 (Nat.le_of_ble_eq_true rfl) (fun Q0 r0 n0 => ?_)
  replace r0 : ∀ s, onW (Fw.Ends Cc [0] [.tmp 2] (.uslice 4 (r.map u_impl_Part)) []) s → Q0 .ret s := r0
  replace n0 : ∀ s, onW (Fw.Ends Cc [0] [.tmp 2] (.uslice 4 (r.map u_impl_Part)) []) s → Q0 .normal s := n0
  show wpC Cc c215 Q0 (stA [(0, .slice (a0.map e_laws_Part))])
  refine w_sreg (w_abs [(0, .slice (a0.map e_laws_Part))] (fun P hP => ?_) ?_)
  · simp only [W0.down, simprocAttr, if_true, if_false, beq_self_eq_true, ne_eq, zz5.down]
    (try simp only [WN.down, simprocAttr, if_true, if_false, zz5.down] at hP ⊢)
    exact hP
  obtain ⟨u18, e3, h⟩ := bindE h
  refine w_sreg (w_abs [(0, .slice (a0.map e_laws_Part)), (3, .uslice 4 (List.replicate (Int.toNat (a0.length : Int)) (.agg [(.int .i64 0), (.int .i64 0), (.str []), .nils])))] (fun P hP => ?_) ?_)
  · simp only [W0.down, simprocAttr, if_true, if_false, beq_self_eq_true, ne_eq, tt2, tt9, tt36, tt40, tt131, tt133, tt165, tt169, tt195, tt249, tt260, tt291, e_laws_Part, e_laws_Term, e_s_laws_Term, (mkOkE e3).1, (mkOkE e3).2.1, (mkOkE e3).2.2, mks, List.map_replicate, -Int.reduceNatCast']
    (try simp only [WN.down, simprocAttr, if_true, if_false, zz5.down, (mkOkE e3).1, (mkOkE e3).2.1, (mkOkE e3).2.2, mks, List.map_replicate, -Int.reduceNatCast'] at hP ⊢)
    exact hP
  refine w_seq (fun Q4 n4 q4 x4 => ?_)
  refine w_sreg (w_abs [(0, .slice (a0.map e_laws_Part)), (3, .uslice 4 (List.replicate (Int.toNat (a0.length : Int)) (.agg [(.int .i64 0), (.int .i64 0), (.str []), .nils]))), (4, .int .i64 0)] (fun P hP => ?_) ?_)
  · simp only [W0.down, simprocAttr, if_true, if_false, beq_self_eq_true, ne_eq, zz5.down]
    (try simp only [WN.down, simprocAttr, if_true, if_false, zz5.down] at hP ⊢)
    exact hP
  refine w_blk (fun Q6 n6 q6 b6 x6 => ?_)
  have L8 : ∀ (n : Nat) (v3_8 : List impl_Part) (v4_8 : Int), laws_toPartS_l8 a0 n v3_8 v4_8 = some r → lpC Cc c215_9 Q6 (stA [(0, .slice (a0.map e_laws_Part)), (3, .uslice 4 (v3_8.map u_impl_Part)), (4, .int .i64 v4_8)]) := by
    intro m8
    induction m8 with
    | zero => intro v3_8 v4_8 h; cases (show none = some r from h)
    | succ m8 ih8 =>
      intro v3_8 v4_8 h
      replace h : laws_toPartS_b8 (laws_toPartS_l8 a0 m8) a0 v3_8 v4_8 = some r := h
      refine lpC_step (fun Q7 n7 q7 x7 => ?_)
      refine w_seq (fun Q8 n8 q8 x8 => ?_)
      refine w_sreg (w_abs [(0, .slice (a0.map e_laws_Part)), (3, .uslice 4 (v3_8.map u_impl_Part)), (4, .int .i64 v4_8), (11, .bool (decide (v4_8 < (a0.length : Int))))] (fun P hP => ?_) ?_)
      · simp only [W0.down, simprocAttr, if_true, if_false, beq_self_eq_true, ne_eq, tt2, tt9, tt36, tt133, tt165, tt260, tt291, e_impl_Term, e_laws_Part, e_laws_Term, e_s_laws_Term, u_impl_Part, u_s_impl_Term]
        (try simp only [WN.down, simprocAttr, if_true, if_false, zz21.down] at hP ⊢)
        exact hP
      rcases condE h with ⟨b10, h⟩ | ⟨b10, h⟩
      · refine w_ct (congrArg AV.bool b10) ?_
        simp only [b10, Bool.not_true, Bool.not_false]
        refine w_skip (n8 _ (.inl ?_))
        refine w_seq (fun Q11 n11 q11 x11 => ?_)
        refine w_blk (fun Q12 n12 q12 b12 x12 => ?_)
        obtain ⟨x1, e14, h⟩ := bindE h
        obtain ⟨x2, e15, h⟩ := bindE h
        obtain ⟨x3, e16, h⟩ := bindE h
        refine w_reg (w_abs [(0, .slice (a0.map e_laws_Part)), (3, .uslice 4 ((List.set v3_8 (Int.toNat v4_8) x2).map u_impl_Part)), (4, .int .i64 v4_8)] (fun P hP => ?_) ?_)
        · simp only [W0.down, simprocAttr, if_true, if_false, beq_self_eq_true, ne_eq, tt2, tt9, tt36, tt40, tt131, tt133, tt165, tt169, tt195, tt249, tt260, tt291, e_impl_Term, e_laws_Part, e_laws_Term, e_s_laws_Term, u_impl_Part, u_s_impl_Term, e14, e16, getI_get e16, own_s, stoS]
          refine w_call0 (ok_laws_toPart x1 _ e15) rfl rfl rfl rfl (.inl (by rfl)) ?_
          simp only [W0.down, simprocAttr, if_true, if_false, beq_self_eq_true, ne_eq, tt2, tt9, tt36, tt40, tt131, tt133, tt165, tt169, tt195, tt249, tt260, tt291, e_impl_Term, e_laws_Part, e_laws_Term, e_s_laws_Term, u_impl_Part, u_s_impl_Term, e14, e16, getI_get e16, own_s, stoS]
          (try simp only [WN.down, simprocAttr, if_true, if_false, zz21.down, e14, e16, getI_get e16, own_s, stoS] at hP ⊢)
          exact hP
        refine n12 _ (n11 _ (.inl ?_))
        refine w_reg (w_abs [(0, .slice (a0.map e_laws_Part)), (3, .uslice 4 ((List.set v3_8 (Int.toNat v4_8) x2).map u_impl_Part)), (4, .int .i64 (IntKind.i64.wrap (v4_8 + 1)))] (fun P hP => ?_) ?_)
        · simp only [W0.down, simprocAttr, if_true, if_false, beq_self_eq_true, ne_eq, zz21.down]
          (try simp only [WN.down, simprocAttr, if_true, if_false, zz21.down] at hP ⊢)
          exact hP
        exact n7 _ (.inr ⟨_, weak_eq rfl, ih8 (List.set v3_8 (Int.toNat v4_8) x2) (IntKind.i64.wrap (v4_8 + 1)) h⟩)
      · refine w_cf (congrArg AV.bool b10) ?_
        simp only [b10, Bool.not_true, Bool.not_false]
        refine w_ex (x8 0 _ (x7 0 _ (b6 _ (n4 _ (.inl ?_)))))
        refine w_sreg (w_abs [(2, .uslice 4 (v3_8.map u_impl_Part))] (fun P hP => ?_) ?_)
        · simp only [W0.down, simprocAttr, if_true, if_false, beq_self_eq_true, ne_eq, zz21.down]
          (try simp only [WN.down, simprocAttr, if_true, if_false, zz21.down] at hP ⊢)
          exact hP
        exact w_ret (r0 _ (.inl (w_fin [.uslice 4 (v3_8.map u_impl_Part)] rfl (by cases someE h; rfl) (by decide) outs_nil)))
  obtain ⟨n, h⟩ := limE h
  exact w_loop (.inr ⟨_, weak_mix [] rfl (wk_eq (t := 0) (d := .slice (a0.map e_laws_Part)) rfl (wk_wd (t := 3) (d := .uslice 4 (List.replicate (Int.toNat (a0.length : Int)) (.agg [(.int .i64 0), (.int .i64 0), (.str []), .nils]))) (d' := .uslice 4 ((List.replicate (Int.toNat (a0.length : Int)) (impl_Part.mk 0 0 ([] : List UInt8) [])).map u_impl_Part)) rfl rfl (wd_rep (u := u_impl_Part) (z := (impl_Part.mk 0 0 ([] : List UInt8) [])) (.agg (.cons (.refl _) (.cons (.refl _) (.cons (.refl _) (.cons (.nilsU _) (.nil)))))) _) (by decide) (wk_eq (t := 4) (d := .int .i64 0) rfl (wk_nil)))), L8 n (List.replicate (Int.toNat (a0.length : Int)) (impl_Part.mk 0 0 ([] : List UInt8) [])) 0 h⟩)

theorem ok_laws_toDefinition  (a0 : laws_Definition) (r : impl_Definition) (h : laws_toDefinition  a0 = some r) : OkAt Cc 132 [e_laws_Definition a0] (u_impl_Definition r) [] := by
  refine OkAt.of_wpQ (fx := [0]) Cc_ok Try.func132 rfl rfl s132 (Nat.le_of_ble_eq_true rfl) (fun Q0 r0 n0 => ?_)
  replace r0 : ∀ s, onW (Fw.Ends Cc [0] [.cell 2 171] (u_impl_Definition r) []) s → Q0 .ret s := r0
  replace n0 : ∀ s, onW (Fw.Ends Cc [0] [.cell 2 171] (u_impl_Definition r) []) s → Q0 .normal s := n0
  show wpC Cc c132 Q0 (stA [(0, e_laws_Definition a0)])
  refine w_sreg (w_abs [(1, .ubox (e_laws_Definition a0)), (2, .ubox (.agg [.str ([] : List UInt8), .int .i64 0, .nils]))] (fun P hP => ?_) ?_)
  · simp only [W0.down, simprocAttr, if_true, if_false, beq_self_eq_true, ne_eq, zz31.down]
    (try simp only [WN.down, simprocAttr, if_true, if_false, zz4.down] at hP ⊢)
    exact hP
  refine w_sreg (w_abs [(1, .ubox (e_laws_Definition a0)), (2, .ubox (.agg [.str ([] : List UInt8), .int .i64 0, .nils])), (3, .ubox (.agg [.str ([] : List UInt8), .int .i64 0, .nils]))] (fun P hP => ?_) ?_)
  · simp only [W0.down, simprocAttr, if_true, if_false, beq_self_eq_true, ne_eq, tt2, tt9, tt40, tt131, tt169, tt171, tt195, tt249, e_laws_Definition, e_laws_Part, e_laws_Term, e_s_laws_Term]
    (try simp only [WN.down, simprocAttr, if_true, if_false, zz4.down] at hP ⊢)
    exact hP
  refine w_sreg (w_abs [(1, .ubox (e_laws_Definition a0)), (2, .ubox (.agg [.str ([] : List UInt8), .int .i64 0, .nils])), (3, .ubox (.agg [.str a0.Name, .int .i64 0, .nils]))] (fun P hP => ?_) ?_)
  · simp only [W0.down, simprocAttr, if_true, if_false, beq_self_eq_true, ne_eq, zz31.down]
    (try simp only [WN.down, simprocAttr, if_true, if_false, zz4.down] at hP ⊢)
    exact hP
  refine w_sreg (w_abs [(1, .ubox (e_laws_Definition a0)), (2, .ubox (.agg [.str ([] : List UInt8), .int .i64 0, .nils])), (3, .ubox (.agg [.str a0.Name, .int .i64 a0.Parameters, .nils]))] (fun P hP => ?_) ?_)
  · simp only [W0.down, simprocAttr, if_true, if_false, beq_self_eq_true, ne_eq, zz31.down]
    (try simp only [WN.down, simprocAttr, if_true, if_false, zz4.down] at hP ⊢)
    exact hP
  obtain ⟨x1, e6, h⟩ := bindE h
  refine w_sreg (w_abs [(2, .ubox (.agg [.str ([] : List UInt8), .int .i64 0, .nils])), (3, .ubox (.agg [.str a0.Name, .int .i64 a0.Parameters, .uslice 4 (x1.map u_impl_Part)]))] (fun P hP => ?_) ?_)
  · simp only [W0.down, simprocAttr, if_true, if_false, beq_self_eq_true, ne_eq, tt2, tt9, tt36, tt40, tt131, tt133, tt165, tt167, tt169, tt171, tt195, tt249, tt260, tt291, e_impl_Term, e_laws_Definition, e_laws_Part, e_laws_Term, e_s_laws_Term, u_impl_Part, u_s_impl_Term]
    refine w_call0 (ok_laws_toPartS a0.Body _ e6) rfl rfl rfl rfl (.inl (by rfl)) ?_
    simp only [W0.down, simprocAttr, if_true, if_false, beq_self_eq_true, ne_eq, tt2, tt9, tt36, tt40, tt131, tt133, tt165, tt167, tt169, tt171, tt195, tt249, tt260, tt291, e_impl_Term, e_laws_Definition, e_laws_Part, e_laws_Term, e_s_laws_Term, u_impl_Part, u_s_impl_Term]
    (try simp only [WN.down, simprocAttr, if_true, if_false, e_impl_Term, e_laws_Definition, e_laws_Part, e_laws_Term, e_s_laws_Term, u_impl_Part, u_s_impl_Term] at hP ⊢)
    exact hP
  refine w_sreg (w_abs [(2, .ubox (.agg [.str a0.Name, .int .i64 a0.Parameters, .uslice 4 (x1.map u_impl_Part)]))] (fun P hP => ?_) ?_)
  · simp only [W0.down, simprocAttr, if_true, if_false, beq_self_eq_true, ne_eq, tt2, tt9, tt40, tt131, tt169, tt171, tt195, tt249, e_impl_Term, u_impl_Part, u_s_impl_Term]
    (try simp only [WN.down, simprocAttr, if_true, if_false, e_impl_Term, u_impl_Part, u_s_impl_Term] at hP ⊢)
    exact hP
  exact w_ret (r0 _ (.inl (w_fin [u_impl_Definition (impl_Definition.mk a0.Name a0.Parameters x1)] rfl (by cases someE h; rfl) (by decide) outs_nil)))

theorem ok_laws_toDefinitionS  (a0 : List laws_Definition) (r : (List impl_Definition)) (h : laws_toDefinitionS  a0 = some r) : OkAt Cc 52 [.slice (a0.map e_laws_Definition)] (.uslice 3 (r.map u_impl_Definition)) [] := by
  refine OkAt.of_wpQ (fx := [0]) Cc_ok Try.func52 rfl rfl s52 (Nat.le_of_ble_eq_true rfl) (fun Q0 r0 n0 => ?_)
  replace r0 : ∀ s, onW (Fw.Ends Cc [0] [.tmp 2] (.uslice 3 (r.map u_impl_Definition)) []) s → Q0 .ret s := r0
  replace n0 : ∀ s, onW (Fw.Ends Cc [0] [.tmp 2] (.uslice 3 (r.map u_impl_Definition)) []) s → Q0 .normal s := n0
  show wpC Cc c52 Q0 (stA [(0, .slice (a0.map e_laws_Definition))])
  refine w_sreg (w_abs [(0, .slice (a0.map e_laws_Definition))] (fun P hP => ?_) ?_)
  · simp only [W0.down, simprocAttr, if_true, if_false, beq_self_eq_true, ne_eq, zz4.down]
    (try simp only [WN.down, simprocAttr, if_true, if_false, zz4.down] at hP ⊢)
    exact hP
  obtain ⟨u18, e3, h⟩ := bindE h
  refine w_sreg (w_abs [(0, .slice (a0.map e_laws_Definition)), (3, .uslice 3 (List.replicate (Int.toNat (a0.length : Int)) (.agg [(.str []), (.int .i64 0), .nils])))] (fun P hP => ?_) ?_)
  · simp only [W0.down, simprocAttr, if_true, if_false, beq_self_eq_true, ne_eq, tt2, tt9, tt36, tt40, tt58, tt62, tt131, tt133, tt165, tt167, tt169, tt171, tt195, tt249, tt260, tt291, e_laws_Definition, e_laws_Part, e_laws_Term, e_s_laws_Term, (mkOkE e3).1, (mkOkE e3).2.1, (mkOkE e3).2.2, mks, List.map_replicate, -Int.reduceNatCast']
    (try simp only [WN.down, simprocAttr, if_true, if_false, zz4.down, (mkOkE e3).1, (mkOkE e3).2.1, (mkOkE e3).2.2, mks, List.map_replicate, -Int.reduceNatCast'] at hP ⊢)
    exact hP
  refine w_seq (fun Q4 n4 q4 x4 => ?_)
  refine w_sreg (w_abs [(0, .slice (a0.map e_laws_Definition)), (3, .uslice 3 (List.replicate (Int.toNat (a0.length : Int)) (.agg [(.str []), (.int .i64 0), .nils]))), (4, .int .i64 0)] (fun P hP => ?_) ?_)
  · simp only [W0.down, simprocAttr, if_true, if_false, beq_self_eq_true, ne_eq, zz4.down]
    (try simp only [WN.down, simprocAttr, if_true, if_false, zz4.down] at hP ⊢)
    exact hP
  refine w_blk (fun Q6 n6 q6 b6 x6 => ?_)
  have L8 : ∀ (n : Nat) (v3_8 : List impl_Definition) (v4_8 : Int), laws_toDefinitionS_l8 a0 n v3_8 v4_8 = some r → lpC Cc c52_9 Q6 (stA [(0, .slice (a0.map e_laws_Definition)), (3, .uslice 3 (v3_8.map u_impl_Definition)), (4, .int .i64 v4_8)]) := by
    intro m8
    induction m8 with
    | zero => intro v3_8 v4_8 h; cases (show none = some r from h)
    | succ m8 ih8 =>
      intro v3_8 v4_8 h
      replace h : laws_toDefinitionS_b8 (laws_toDefinitionS_l8 a0 m8) a0 v3_8 v4_8 = some r := h
      refine lpC_step (fun Q7 n7 q7 x7 => ?_)
      refine w_seq (fun Q8 n8 q8 x8 => ?_)
      refine w_sreg (w_abs [(0, .slice (a0.map e_laws_Definition)), (3, .uslice 3 (v3_8.map u_impl_Definition)), (4, .int .i64 v4_8), (11, .bool (decide (v4_8 < (a0.length : Int))))] (fun P hP => ?_) ?_)
      · simp only [W0.down, simprocAttr, if_true, if_false, beq_self_eq_true, ne_eq, tt2, tt9, tt36, tt58, tt133, tt165, tt167, tt260, tt291, e_impl_Term, e_laws_Definition, e_laws_Part, e_laws_Term, e_s_laws_Term, u_impl_Definition, u_impl_Part, u_s_impl_Term]
        (try simp only [WN.down, simprocAttr, if_true, if_false, zz7.down] at hP ⊢)
        exact hP
      rcases condE h with ⟨b10, h⟩ | ⟨b10, h⟩
      · refine w_ct (congrArg AV.bool b10) ?_
        simp only [b10, Bool.not_true, Bool.not_false]
        refine w_skip (n8 _ (.inl ?_))
        refine w_seq (fun Q11 n11 q11 x11 => ?_)
        refine w_blk (fun Q12 n12 q12 b12 x12 => ?_)
        obtain ⟨x1, e14, h⟩ := bindE h
        obtain ⟨x2, e15, h⟩ := bindE h
        obtain ⟨x3, e16, h⟩ := bindE h
        refine w_reg (w_abs [(0, .slice (a0.map e_laws_Definition)), (3, .uslice 3 ((List.set v3_8 (Int.toNat v4_8) x2).map u_impl_Definition)), (4, .int .i64 v4_8)] (fun P hP => ?_) ?_)
        · simp only [W0.down, simprocAttr, if_true, if_false, beq_self_eq_true, ne_eq, tt2, tt9, tt36, tt40, tt58, tt62, tt131, tt133, tt165, tt167, tt169, tt171, tt195, tt249, tt260, tt291, e_impl_Term, e_laws_Definition, e_laws_Part, e_laws_Term, e_s_laws_Term, u_impl_Definition, u_impl_Part, u_s_impl_Term, e14, e16, getI_get e16, own_s, stoS]
          refine w_call0 (ok_laws_toDefinition x1 _ e15) rfl rfl rfl rfl (.inl (by rfl)) ?_
          simp only [W0.down, simprocAttr, if_true, if_false, beq_self_eq_true, ne_eq, tt2, tt9, tt36, tt40, tt58, tt62, tt131, tt133, tt165, tt167, tt169, tt171, tt195, tt249, tt260, tt291, e_impl_Term, e_laws_Definition, e_laws_Part, e_laws_Term, e_s_laws_Term, u_impl_Definition, u_impl_Part, u_s_impl_Term, e14, e16, getI_get e16, own_s, stoS]
          (try simp only [WN.down, simprocAttr, if_true, if_false, zz7.down, e14, e16, getI_get e16, own_s, stoS] at hP ⊢)
          exact hP
        refine n12 _ (n11 _ (.inl ?_))
        refine w_reg (w_abs [(0, .slice (a0.map e_laws_Definition)), (3, .uslice 3 ((List.set v3_8 (Int.toNat v4_8) x2).map u_impl_Definition)), (4, .int .i64 (IntKind.i64.wrap (v4_8 + 1)))] (fun P hP => ?_) ?_)
        · simp only [W0.down, simprocAttr, if_true, if_false, beq_self_eq_true, ne_eq, zz7.down]
          (try simp only [WN.down, simprocAttr, if_true, if_false, zz7.down] at hP ⊢)
          exact hP
        exact n7 _ (.inr ⟨_, weak_eq rfl, ih8 (List.set v3_8 (Int.toNat v4_8) x2) (IntKind.i64.wrap (v4_8 + 1)) h⟩)
      · refine w_cf (congrArg AV.bool b10) ?_
        simp only [b10, Bool.not_true, Bool.not_false]
        refine w_ex (x8 0 _ (x7 0 _ (b6 _ (n4 _ (.inl ?_)))))
        refine w_sreg (w_abs [(2, .uslice 3 (v3_8.map u_impl_Definition))] (fun P hP => ?_) ?_)
        · simp only [W0.down, simprocAttr, if_true, if_false, beq_self_eq_true, ne_eq, zz7.down]
          (try simp only [WN.down, simprocAttr, if_true, if_false, zz7.down] at hP ⊢)
          exact hP
        exact w_ret (r0 _ (.inl (w_fin [.uslice 3 (v3_8.map u_impl_Definition)] rfl (by cases someE h; rfl) (by decide) outs_nil)))
  obtain ⟨n, h⟩ := limE h
  exact w_loop (.inr ⟨_, weak_mix [] rfl (wk_eq (t := 0) (d := .slice (a0.map e_laws_Definition)) rfl (wk_wd (t := 3) (d := .uslice 3 (List.replicate (Int.toNat (a0.length : Int)) (.agg [(.str []), (.int .i64 0), .nils]))) (d' := .uslice 3 ((List.replicate (Int.toNat (a0.length : Int)) (impl_Definition.mk ([] : List UInt8) 0 [])).map u_impl_Definition)) rfl rfl (wd_rep (u := u_impl_Definition) (z := (impl_Definition.mk ([] : List UInt8) 0 [])) (.agg (.cons (.refl _) (.cons (.refl _) (.cons (.nilsU _) (.nil))))) _) (by decide) (wk_eq (t := 4) (d := .int .i64 0) rfl (wk_nil)))), L8 n (List.replicate (Int.toNat (a0.length : Int)) (impl_Definition.mk ([] : List UInt8) 0 [])) 0 h⟩)

theorem ok_spec_l01Small  (a0 : UInt8) (r : Bool) (h : spec_l01Small  a0 = some r) : OkAt Cc 208 [.int .u8 (a0.toNat : Int)] (.bool r) [] := by
  refine OkAt.of_wpQ (fx := [0]) Cc_ok Try.func208 rfl rfl s208 (Nat.le_of_ble_eq_true rfl) (fun Q0 r0 n0 => ?_)
  replace r0 : ∀ s, onW (Fw.Ends Cc [0] [.tmp 2] (.bool r) []) s → Q0 .ret s := r0
  replace n0 : ∀ s, onW (Fw.Ends Cc [0] [.tmp 2] (.bool r) []) s → Q0 .normal s := n0
  show wpC Cc c208 Q0 (stA [(0, .int .u8 (a0.toNat : Int))])
  refine w_sreg (w_abs [(0, .int .u8 (a0.toNat : Int))] (fun P hP => ?_) ?_)
  · simp only [W0.down, simprocAttr, if_true, if_false, beq_self_eq_true, ne_eq]
    (try simp only [WN.down, simprocAttr, if_true, if_false] at hP ⊢)
    exact hP
  refine w_sreg (w_abs [(2, .bool ((decide (97 ≤ (a0.toNat : Int))) && (decide ((a0.toNat : Int) ≤ 122))))] (fun P hP => ?_) ?_)
  · rcases Bool.eq_false_or_eq_true (decide (97 ≤ (a0.toNat : Int))) with s3 | s3
    · simp only [W0.down, simprocAttr, if_true, if_false, beq_self_eq_true, ne_eq, s3]
      (try simp only [WN.down, simprocAttr, if_true, if_false, s3] at hP ⊢)
      exact hP
    · simp only [W0.down, simprocAttr, if_true, if_false, beq_self_eq_true, ne_eq, s3]
      (try simp only [WN.down, simprocAttr, if_true, if_false, s3] at hP ⊢)
      exact hP
  exact w_ret (r0 _ (.inl (w_fin [.bool ((decide (97 ≤ (a0.toNat : Int))) && (decide ((a0.toNat : Int) ≤ 122)))] rfl (by cases someE h; rfl) (by decide) outs_nil)))

theorem ok_spec_l01Digit  (a0 : UInt8) (r : Bool) (h : spec_l01Digit  a0 = some r) : OkAt Cc 209 [.int .u8 (a0.toNat : Int)] (.bool r) [] := by
  refine OkAt.of_wpQ (fx := [0]) Cc_ok Try.func209 rfl rfl s209 (Nat.le_of_ble_eq_true rfl) (fun Q0 r0 n0 => ?_)
  replace r0 : ∀ s, onW (Fw.Ends Cc [0] [.tmp 2] (.bool r) []) s → Q0 .ret s := r0
  replace n0 : ∀ s, onW (Fw.Ends Cc [0] [.tmp 2] (.bool r) []) s → Q0 .normal s := n0
  show wpC Cc c209 Q0 (stA [(0, .int .u8 (a0.toNat : Int))])
  refine w_sreg (w_abs [(0, .int .u8 (a0.toNat : Int))] (fun P hP => ?_) ?_)
  · simp only [W0.down, simprocAttr, if_true, if_false, beq_self_eq_true, ne_eq]
    (try simp only [WN.down, simprocAttr, if_true, if_false] at hP ⊢)
    exact hP
  refine w_sreg (w_abs [(2, .bool ((decide (48 ≤ (a0.toNat : Int))) && (decide ((a0.toNat : Int) ≤ 57))))] (fun P hP => ?_) ?_)
  · rcases Bool.eq_false_or_eq_true (decide (48 ≤ (a0.toNat : Int))) with s3 | s3
    · simp only [W0.down, simprocAttr, if_true, if_false, beq_self_eq_true, ne_eq, s3]
      (try simp only [WN.down, simprocAttr, if_true, if_false, s3] at hP ⊢)
      exact hP
    · simp only [W0.down, simprocAttr, if_true, if_false, beq_self_eq_true, ne_eq, s3]
      (try simp only [WN.down, simprocAttr, if_true, if_false, s3] at hP ⊢)
      exact hP
  exact w_ret (r0 _ (.inl (w_fin [.bool ((decide (48 ≤ (a0.toNat : Int))) && (decide ((a0.toNat : Int) ≤ 57)))] rfl (by cases someE h; rfl) (by decide) outs_nil)))

theorem ok_spec_l01Name  (a0 : List UInt8) (r : Bool) (h : spec_l01Name  a0 = some r) : OkAt Cc 124 [.str a0] (.bool r) [] := by
  refine OkAt.of_wpQ (fx := [0]) Cc_ok Try.func124 rfl rfl s124 (Nat.le_of_ble_eq_true rfl) (fun Q0 r0 n0 => ?_)
  replace r0 : ∀ s, onW (Fw.Ends Cc [0] [.tmp 2] (.bool r) []) s → Q0 .ret s := r0
  replace n0 : ∀ s, onW (Fw.Ends Cc [0] [.tmp 2] (.bool r) []) s → Q0 .normal s := n0
  show wpC Cc c124 Q0 (stA [(0, .str a0)])
  refine w_sreg (w_abs [(0, .str a0)] (fun P hP => ?_) ?_)
  · simp only [W0.down, simprocAttr, if_true, if_false, beq_self_eq_true, ne_eq]
    (try simp only [WN.down, simprocAttr, if_true, if_false] at hP ⊢)
    exact hP
  refine w_seq (fun Q2 n2 q2 x2 => ?_)
  rcases condE h with ⟨b4, h⟩ | ⟨b4, h⟩
  · refine w_sreg (w_abs [(0, .str a0), (16, .bool true)] (fun P hP => ?_) ?_)
    · simp only [W0.down, simprocAttr, if_true, if_false, beq_self_eq_true, ne_eq, tt9, b4]
      (try simp only [WN.down, simprocAttr, if_true, if_false, b4] at hP ⊢)
      exact hP
    refine w_ct rfl ?_
    refine w_sreg (w_abs [(2, .bool false)] (fun P hP => ?_) ?_)
    · simp only [W0.down, simprocAttr, if_true, if_false, beq_self_eq_true, ne_eq]
      (try simp only [WN.down, simprocAttr, if_true, if_false] at hP ⊢)
      exact hP
    exact w_ret (q2 _ (r0 _ (.inl (w_fin [.bool false] rfl (by cases someE h; rfl) (by decide) outs_nil))))
  · rcases condE h with ⟨b6, h⟩ | ⟨b6, h⟩
    · refine w_sreg (w_abs [(0, .str a0), (16, .bool true)] (fun P hP => ?_) ?_)
      · simp only [W0.down, simprocAttr, if_true, if_false, beq_self_eq_true, ne_eq, tt9, b4, b6]
        (try simp only [WN.down, simprocAttr, if_true, if_false, b4, b6] at hP ⊢)
        exact hP
      refine w_ct rfl ?_
      refine w_sreg (w_abs [(2, .bool false)] (fun P hP => ?_) ?_)
      · simp only [W0.down, simprocAttr, if_true, if_false, beq_self_eq_true, ne_eq]
        (try simp only [WN.down, simprocAttr, if_true, if_false] at hP ⊢)
        exact hP
      exact w_ret (q2 _ (r0 _ (.inl (w_fin [.bool false] rfl (by cases someE h; rfl) (by decide) outs_nil))))
    · obtain ⟨x1, e8, h⟩ := bindE h
      obtain ⟨x2, e9, h⟩ := bindE h
      refine w_sreg (w_abs [(0, .str a0), (16, .bool (!x2))] (fun P hP => ?_) ?_)
      · simp only [W0.down, simprocAttr, if_true, if_false, beq_self_eq_true, ne_eq, tt9, b4, b6, e8]
        refine w_callg0 (ok_spec_l01Small x1 _ e9) rfl rfl rfl rfl (.inl (by rfl)) ?_
        simp only [W0.down, simprocAttr, if_true, if_false, beq_self_eq_true, ne_eq, tt9, b4, b6, e8]
        (try simp only [WN.down, simprocAttr, if_true, if_false, b4, b6, e8] at hP ⊢)
        exact hP
      rcases condE h with ⟨b10, h⟩ | ⟨b10, h⟩
      · refine w_ct (congrArg AV.bool b10) ?_
        simp only [b10, Bool.not_true, Bool.not_false]
        refine w_sreg (w_abs [(2, .bool false)] (fun P hP => ?_) ?_)
        · simp only [W0.down, simprocAttr, if_true, if_false, beq_self_eq_true, ne_eq]
          (try simp only [WN.down, simprocAttr, if_true, if_false] at hP ⊢)
          exact hP
        exact w_ret (q2 _ (r0 _ (.inl (w_fin [.bool false] rfl (by cases someE h; rfl) (by decide) outs_nil))))
      · refine w_cf (congrArg AV.bool b10) ?_
        simp only [b10, Bool.not_true, Bool.not_false]
        refine w_skip (n2 _ (.inl ?_))
        refine w_seq (fun Q12 n12 q12 x12 => ?_)
        refine w_sreg (w_abs [(0, .str a0), (3, .int .i64 0)] (fun P hP => ?_) ?_)
        · simp only [W0.down, simprocAttr, if_true, if_false, beq_self_eq_true, ne_eq]
          (try simp only [WN.down, simprocAttr, if_true, if_false] at hP ⊢)
          exact hP
        refine w_blk (fun Q14 n14 q14 b14 x14 => ?_)
        have L14 : ∀ (n : Nat) (v3_14 : Int), spec_l01Name_l14 a0 n v3_14 = some r → lpC Cc c124_15 Q14 (stA [(0, .str a0), (3, .int .i64 v3_14)]) := by
          intro m14
          induction m14 with
          | zero => intro v3_14 h; cases (show none = some r from h)
          | succ m14 ih14 =>
            intro v3_14 h
            replace h : spec_l01Name_b14 (spec_l01Name_l14 a0 m14) a0 v3_14 = some r := h
            refine lpC_step (fun Q15 n15 q15 x15 => ?_)
            refine w_seq (fun Q16 n16 q16 x16 => ?_)
            refine w_sreg (w_abs [(0, .str a0), (3, .int .i64 v3_14), (20, .bool (decide (v3_14 < (a0.length : Int))))] (fun P hP => ?_) ?_)
            · simp only [W0.down, simprocAttr, if_true, if_false, beq_self_eq_true, ne_eq, tt9]
              (try simp only [WN.down, simprocAttr, if_true, if_false] at hP ⊢)
              exact hP
            rcases condE h with ⟨b18, h⟩ | ⟨b18, h⟩
            · refine w_ct (congrArg AV.bool b18) ?_
              simp only [b18, Bool.not_true, Bool.not_false]
              refine w_skip (n16 _ (.inl ?_))
              refine w_seq (fun Q19 n19 q19 x19 => ?_)
              refine w_blk (fun Q20 n20 q20 b20 x20 => ?_)
              obtain ⟨x3, e22, h⟩ := bindE h
              obtain ⟨x4, e23, h⟩ := bindE h
              rcases condE h with ⟨b24, h⟩ | ⟨b24, h⟩
              · obtain ⟨x5, e25, h⟩ := bindE h
                refine w_sreg (w_abs [(0, .str a0), (3, .int .i64 v3_14), (34, .bool (!x5))] (fun P hP => ?_) ?_)
                · simp only [W0.down, simprocAttr, if_true, if_false, beq_self_eq_true, ne_eq, tt9, e22, b24]
                  refine w_call0 (ok_spec_l01Small x3 _ e23) rfl rfl rfl rfl (.inl (by rfl)) ?_
                  simp only [W0.down, simprocAttr, if_true, if_false, beq_self_eq_true, ne_eq, tt9, e22, b24]
                  refine w_callg0 (ok_spec_l01Digit x3 _ e25) rfl rfl rfl rfl (.inl (by rfl)) ?_
                  simp only [W0.down, simprocAttr, if_true, if_false, beq_self_eq_true, ne_eq, tt9, e22, b24]
                  (try simp only [WN.down, simprocAttr, if_true, if_false, e22, b24] at hP ⊢)
                  exact hP
                rcases condE h with ⟨b26, h⟩ | ⟨b26, h⟩
                · refine w_ct (congrArg AV.bool b26) ?_
                  simp only [b26, Bool.not_true, Bool.not_false]
                  refine w_sreg (w_abs [(2, .bool false)] (fun P hP => ?_) ?_)
                  · simp only [W0.down, simprocAttr, if_true, if_false, beq_self_eq_true, ne_eq]
                    (try simp only [WN.down, simprocAttr, if_true, if_false] at hP ⊢)
                    exact hP
                  exact w_ret (q20 _ (q19 _ (q15 _ (q14 _ (q12 _ (r0 _ (.inl (w_fin [.bool false] rfl (by cases someE h; rfl) (by decide) outs_nil))))))))
                · refine w_cf (congrArg AV.bool b26) ?_
                  simp only [b26, Bool.not_true, Bool.not_false]
                  refine w_skip (n20 _ (n19 _ (.inl ?_)))
                  refine w_reg (w_abs [(0, .str a0), (3, .int .i64 (IntKind.i64.wrap (v3_14 + 1)))] (fun P hP => ?_) ?_)
                  · simp only [W0.down, simprocAttr, if_true, if_false, beq_self_eq_true, ne_eq]
                    (try simp only [WN.down, simprocAttr, if_true, if_false] at hP ⊢)
                    exact hP
                  exact n15 _ (.inr ⟨_, weak_eq rfl, ih14 (IntKind.i64.wrap (v3_14 + 1)) h⟩)
              · refine w_sreg (w_abs [(0, .str a0), (3, .int .i64 v3_14), (34, .bool false)] (fun P hP => ?_) ?_)
                · simp only [W0.down, simprocAttr, if_true, if_false, beq_self_eq_true, ne_eq, tt9, e22, b24]
                  refine w_call0 (ok_spec_l01Small x3 _ e23) rfl rfl rfl rfl (.inl (by rfl)) ?_
                  simp only [W0.down, simprocAttr, if_true, if_false, beq_self_eq_true, ne_eq, tt9, e22, b24]
                  (try simp only [WN.down, simprocAttr, if_true, if_false, e22, b24] at hP ⊢)
                  exact hP
                refine w_cf rfl ?_
                refine w_skip (n20 _ (n19 _ (.inl ?_)))
                refine w_reg (w_abs [(0, .str a0), (3, .int .i64 (IntKind.i64.wrap (v3_14 + 1)))] (fun P hP => ?_) ?_)
                · simp only [W0.down, simprocAttr, if_true, if_false, beq_self_eq_true, ne_eq]
                  (try simp only [WN.down, simprocAttr, if_true, if_false] at hP ⊢)
                  exact hP
                exact n15 _ (.inr ⟨_, weak_eq rfl, ih14 (IntKind.i64.wrap (v3_14 + 1)) h⟩)
            · refine w_cf (congrArg AV.bool b18) ?_
              simp only [b18, Bool.not_true, Bool.not_false]
              refine w_ex (x16 0 _ (x15 0 _ (b14 _ (n12 _ (.inl ?_)))))
              refine w_sreg (w_abs [(2, .bool true)] (fun P hP => ?_) ?_)
              · simp only [W0.down, simprocAttr, if_true, if_false, beq_self_eq_true, ne_eq]
                (try simp only [WN.down, simprocAttr, if_true, if_false] at hP ⊢)
                exact hP
              exact w_ret (r0 _ (.inl (w_fin [.bool true] rfl (by cases someE h; rfl) (by decide) outs_nil)))
        obtain ⟨n, h⟩ := limE h
        exact w_loop (.inr ⟨_, weak_eq rfl, L14 n 0 h⟩)

theorem ok_spec_l00In  (a0 : Int) (a1 : Int) (a2 : Int) (r : Bool) (h : spec_l00In  a0 a1 a2 = some r) : OkAt Cc 130 [.int .i64 a0, .int .i64 a1, .int .i64 a2] (.bool r) [] := by
  refine OkAt.of_wpQ (fx := [0, 1, 2]) Cc_ok Try.func130 rfl rfl s130 (Nat.le_of_ble_eq_true rfl) (fun Q0 r0 n0 => ?_)
  replace r0 : ∀ s, onW (Fw.Ends Cc [0, 1, 2] [.tmp 6] (.bool r) []) s → Q0 .ret s := r0
  replace n0 : ∀ s, onW (Fw.Ends Cc [0, 1, 2] [.tmp 6] (.bool r) []) s → Q0 .normal s := n0
  show wpC Cc c130 Q0 (stA [(0, .int .i64 a0), (1, .int .i64 a1), (2, .int .i64 a2)])
  refine w_sreg (w_abs [(0, .int .i64 a0), (1, .int .i64 a1), (2, .int .i64 a2)] (fun P hP => ?_) ?_)
  · simp only [W0.down, simprocAttr, if_true, if_false, beq_self_eq_true, ne_eq]
    (try simp only [WN.down, simprocAttr, if_true, if_false] at hP ⊢)
    exact hP
  refine w_sreg (w_abs [(6, .bool ((decide (a1 ≤ a0)) && (decide (a0 ≤ a2))))] (fun P hP => ?_) ?_)
  · rcases Bool.eq_false_or_eq_true (decide (a1 ≤ a0)) with s3 | s3
    · simp only [W0.down, simprocAttr, if_true, if_false, beq_self_eq_true, ne_eq, s3]
      (try simp only [WN.down, simprocAttr, if_true, if_false, s3] at hP ⊢)
      exact hP
    · simp only [W0.down, simprocAttr, if_true, if_false, beq_self_eq_true, ne_eq, s3]
      (try simp only [WN.down, simprocAttr, if_true, if_false, s3] at hP ⊢)
      exact hP
  exact w_ret (r0 _ (.inl (w_fin [.bool ((decide (a1 ≤ a0)) && (decide (a0 ≤ a2)))] rfl (by cases someE h; rfl) (by decide) outs_nil)))

theorem ok_spec_l05Follow  (a0 : impl_Part) (r : Int) (h : spec_l05Follow  a0 = some r) : OkAt Cc 225 [.ref (e_impl_Part a0)] (.int .i64 r) [] := by
  refine OkAt.of_wpQ (fx := [0]) Cc_ok Try.func225 rfl rfl s225 (Nat.le_of_ble_eq_true rfl) (fun Q0 r0 n0 => ?_)
  replace r0 : ∀ s, onW (Fw.Ends Cc [0] [.tmp 2] (.int .i64 r) []) s → Q0 .ret s := r0
  replace n0 : ∀ s, onW (Fw.Ends Cc [0] [.tmp 2] (.int .i64 r) []) s → Q0 .normal s := n0
  show wpC Cc c225 Q0 (stA [(0, .ref (e_impl_Part a0))])
  refine w_sreg (w_abs [(0, .ref (e_impl_Part a0))] (fun P hP => ?_) ?_)
  · simp only [W0.down, simprocAttr, if_true, if_false, beq_self_eq_true, ne_eq, zz1.down]
    (try simp only [WN.down, simprocAttr, if_true, if_false, zz1.down] at hP ⊢)
    exact hP
  refine w_seq (fun Q2 n2 q2 x2 => ?_)
  refine w_sreg (w_abs [(6, .int .i64 a0.Kind)] (fun P hP => ?_) ?_)
  · simp only [W0.down, simprocAttr, if_true, if_false, beq_self_eq_true, ne_eq, zz9.down]
    (try simp only [WN.down, simprocAttr, if_true, if_false, zz1.down] at hP ⊢)
    exact hP
  refine w_blk (fun Q4 n4 q4 b4 x4 => ?_)
  have K16 : ∀ (v7_16 : Bool), spec_l05Follow_k16 a0 v7_16 = some r → wpC Cc c225_16 Q4 (stA [(6, .int .i64 a0.Kind), (7, .bool v7_16)]) := by
    intro v7_16 h
    rcases condE h with ⟨b6, h⟩ | ⟨b6, h⟩
    · refine w_ct (congrArg AV.bool b6) ?_
      simp only [b6, Bool.not_true, Bool.not_false]
      refine w_sreg (w_abs [(2, .int .i64 1)] (fun P hP => ?_) ?_)
      · simp only [W0.down, simprocAttr, if_true, if_false, beq_self_eq_true, ne_eq]
        (try simp only [WN.down, simprocAttr, if_true, if_false] at hP ⊢)
        exact hP
      exact w_ret (q4 _ (q2 _ (r0 _ (.inl (w_fin [.int .i64 1] rfl (by cases someE h; rfl) (by decide) outs_nil)))))
    · refine w_cf (congrArg AV.bool b6) ?_
      simp only [b6, Bool.not_true, Bool.not_false]
      refine w_sreg (w_abs [(11, .bool (a0.Kind == 2))] (fun P hP => ?_) ?_)
      · simp only [W0.down, simprocAttr, if_true, if_false, beq_self_eq_true, ne_eq]
        (try simp only [WN.down, simprocAttr, if_true, if_false] at hP ⊢)
        exact hP
      rcases condE h with ⟨b9, h⟩ | ⟨b9, h⟩
      · refine w_ct (congrArg AV.bool b9) ?_
        simp only [b9, Bool.not_true, Bool.not_false]
        refine w_sreg (w_abs [(2, .int .i64 2)] (fun P hP => ?_) ?_)
        · simp only [W0.down, simprocAttr, if_true, if_false, beq_self_eq_true, ne_eq]
          (try simp only [WN.down, simprocAttr, if_true, if_false] at hP ⊢)
          exact hP
        exact w_ret (q4 _ (q2 _ (r0 _ (.inl (w_fin [.int .i64 2] rfl (by cases someE h; rfl) (by decide) outs_nil)))))
      · refine w_cf (congrArg AV.bool b9) ?_
        simp only [b9, Bool.not_true, Bool.not_false]
        refine w_skip (n4 _ (n2 _ (.inl ?_)))
        refine w_sreg (w_abs [(2, .int .i64 0)] (fun P hP => ?_) ?_)
        · simp only [W0.down, simprocAttr, if_true, if_false, beq_self_eq_true, ne_eq]
          (try simp only [WN.down, simprocAttr, if_true, if_false] at hP ⊢)
          exact hP
        exact w_ret (r0 _ (.inl (w_fin [.int .i64 0] rfl (by cases someE h; rfl) (by decide) outs_nil)))
  refine w_seq (fun Q5 n5 q5 x5 => ?_)
  refine w_sreg (w_abs [(6, .int .i64 a0.Kind), (7, .bool (a0.Kind == 1))] (fun P hP => ?_) ?_)
  · simp only [W0.down, simprocAttr, if_true, if_false, beq_self_eq_true, ne_eq]
    (try simp only [WN.down, simprocAttr, if_true, if_false] at hP ⊢)
    exact hP
  rcases condE h with ⟨b13, h⟩ | ⟨b13, h⟩
  · refine w_ct (congrArg AV.bool b13) ?_
    simp only [b13, Bool.not_true, Bool.not_false]
    exact w_skip (n5 _ (.inr ⟨_, weak_eq rfl, K16 true h⟩))
  · refine w_cf (congrArg AV.bool b13) ?_
    simp only [b13, Bool.not_true, Bool.not_false]
    refine w_sreg (w_abs [(6, .int .i64 a0.Kind), (7, .bool (a0.Kind == 3))] (fun P hP => ?_) ?_)
    · simp only [W0.down, simprocAttr, if_true, if_false, beq_self_eq_true, ne_eq]
      (try simp only [WN.down, simprocAttr, if_true, if_false] at hP ⊢)
      exact hP
    rcases condE h with ⟨b15, h⟩ | ⟨b15, h⟩
    · refine w_ct (congrArg AV.bool b15) ?_
      simp only [b15, Bool.not_true, Bool.not_false]
      exact w_skip (n5 _ (.inr ⟨_, weak_eq rfl, K16 true h⟩))
    · refine w_cf (congrArg AV.bool b15) ?_
      simp only [b15, Bool.not_true, Bool.not_false]
      refine w_reg (w_abs [(6, .int .i64 a0.Kind), (7, .bool (a0.Kind == 4))] (fun P hP => ?_) ?_)
      · simp only [W0.down, simprocAttr, if_true, if_false, beq_self_eq_true, ne_eq]
        (try simp only [WN.down, simprocAttr, if_true, if_false] at hP ⊢)
        exact hP
      exact n5 _ (.inr ⟨_, weak_eq rfl, K16 (a0.Kind == 4) h⟩)

theorem ok_spec_l05Shape  (a0 : List impl_Part) (r : Bool) (h : spec_l05Shape  a0 = some r) : OkAt Cc 213 [.slice (a0.map e_impl_Part)] (.bool r) [] := by
  refine OkAt.of_wpQ (fx := [0]) Cc_ok Try.func213 rfl rfl s213 (Nat.le_of_ble_eq_true rfl) (fun Q0 r0 n0 => ?_)
  replace r0 : ∀ s, onW (Fw.Ends Cc [0] [.tmp 2] (.bool r) []) s → Q0 .ret s := r0
  replace n0 : ∀ s, onW (Fw.Ends Cc [0] [.tmp 2] (.bool r) []) s → Q0 .normal s := n0
  show wpC Cc c213 Q0 (stA [(0, .slice (a0.map e_impl_Part))])
  refine w_sreg (w_abs [(0, .slice (a0.map e_impl_Part))] (fun P hP => ?_) ?_)
  · simp only [W0.down, simprocAttr, if_true, if_false, beq_self_eq_true, ne_eq, zz1.down]
    (try simp only [WN.down, simprocAttr, if_true, if_false, zz1.down] at hP ⊢)
    exact hP
  refine w_seq (fun Q2 n2 q2 x2 => ?_)
  refine w_sreg (w_abs [(0, .slice (a0.map e_impl_Part)), (12, .bool (((a0.length : Int) == 0) || (decide (20 < (a0.length : Int)))))] (fun P hP => ?_) ?_)
  · rcases Bool.eq_false_or_eq_true ((a0.length : Int) == 0) with s4 | s4
    · simp only [W0.down, simprocAttr, if_true, if_false, beq_self_eq_true, ne_eq, zz14.down, s4]
      (try simp only [WN.down, simprocAttr, if_true, if_false, zz1.down, s4] at hP ⊢)
      exact hP
    · simp only [W0.down, simprocAttr, if_true, if_false, beq_self_eq_true, ne_eq, zz14.down, s4]
      (try simp only [WN.down, simprocAttr, if_true, if_false, zz1.down, s4] at hP ⊢)
      exact hP
  rcases condE h with ⟨b5, h⟩ | ⟨b5, h⟩
  · refine w_ct (congrArg AV.bool b5) ?_
    simp only [b5, Bool.not_true, Bool.not_false]
    refine w_sreg (w_abs [(2, .bool false)] (fun P hP => ?_) ?_)
    · simp only [W0.down, simprocAttr, if_true, if_false, beq_self_eq_true, ne_eq, zz1.down]
      (try simp only [WN.down, simprocAttr, if_true, if_false, zz1.down] at hP ⊢)
      exact hP
    exact w_ret (q2 _ (r0 _ (.inl (w_fin [.bool false] rfl (by cases someE h; rfl) (by decide) outs_nil))))
  · refine w_cf (congrArg AV.bool b5) ?_
    simp only [b5, Bool.not_true, Bool.not_false]
    refine w_skip (n2 _ (.inl ?_))
    refine w_sreg (w_abs [(0, .slice (a0.map e_impl_Part)), (3, .int .i64 1)] (fun P hP => ?_) ?_)
    · simp only [W0.down, simprocAttr, if_true, if_false, beq_self_eq_true, ne_eq, zz1.down]
      (try simp only [WN.down, simprocAttr, if_true, if_false, zz1.down] at hP ⊢)
      exact hP
    refine w_seq (fun Q8 n8 q8 x8 => ?_)
    refine w_sreg (w_abs [(0, .slice (a0.map e_impl_Part)), (3, .int .i64 1), (4, .int .i64 0)] (fun P hP => ?_) ?_)
    · simp only [W0.down, simprocAttr, if_true, if_false, beq_self_eq_true, ne_eq, zz1.down]
      (try simp only [WN.down, simprocAttr, if_true, if_false, zz1.down] at hP ⊢)
      exact hP
    refine w_blk (fun Q10 n10 q10 b10 x10 => ?_)
    have L16 : ∀ (n : Nat) (v3_16 : Int) (v4_16 : Int), spec_l05Shape_l16 a0 n v3_16 v4_16 = some r → lpC Cc c213_17 Q10 (stA [(0, .slice (a0.map e_impl_Part)), (3, .int .i64 v3_16), (4, .int .i64 v4_16)]) := by
      intro m16
      induction m16 with
      | zero => intro v3_16 v4_16 h; cases (show none = some r from h)
      | succ m16 ih16 =>
        intro v3_16 v4_16 h
        replace h : spec_l05Shape_b16 (spec_l05Shape_l16 a0 m16) a0 v3_16 v4_16 = some r := h
        refine lpC_step (fun Q11 n11 q11 x11 => ?_)
        refine w_seq (fun Q12 n12 q12 x12 => ?_)
        refine w_sreg (w_abs [(0, .slice (a0.map e_impl_Part)), (3, .int .i64 v3_16), (4, .int .i64 v4_16), (16, .bool (decide (v4_16 < (a0.length : Int))))] (fun P hP => ?_) ?_)
        · simp only [W0.down, simprocAttr, if_true, if_false, beq_self_eq_true, ne_eq, zz14.down]
          (try simp only [WN.down, simprocAttr, if_true, if_false, zz1.down] at hP ⊢)
          exact hP
        rcases condE h with ⟨b14, h⟩ | ⟨b14, h⟩
        · refine w_ct (congrArg AV.bool b14) ?_
          simp only [b14, Bool.not_true, Bool.not_false]
          refine w_skip (n12 _ (.inl ?_))
          refine w_seq (fun Q15 n15 q15 x15 => ?_)
          refine w_blk (fun Q16 n16 q16 b16 x16 => ?_)
          refine w_seq (fun Q17 n17 q17 x17 => ?_)
          refine w_sreg (w_abs [(0, .slice (a0.map e_impl_Part)), (3, .int .i64 v3_16), (4, .int .i64 v4_16), (20, .bool (v3_16 == 0))] (fun P hP => ?_) ?_)
          · simp only [W0.down, simprocAttr, if_true, if_false, beq_self_eq_true, ne_eq, zz1.down]
            (try simp only [WN.down, simprocAttr, if_true, if_false, zz1.down] at hP ⊢)
            exact hP
          rcases condE h with ⟨b19, h⟩ | ⟨b19, h⟩
          · refine w_ct (congrArg AV.bool b19) ?_
            simp only [b19, Bool.not_true, Bool.not_false]
            refine w_sreg (w_abs [(2, .bool false)] (fun P hP => ?_) ?_)
            · simp only [W0.down, simprocAttr, if_true, if_false, beq_self_eq_true, ne_eq, zz1.down]
              (try simp only [WN.down, simprocAttr, if_true, if_false, zz1.down] at hP ⊢)
              exact hP
            exact w_ret (q17 _ (q16 _ (q15 _ (q11 _ (q10 _ (q8 _ (r0 _ (.inl (w_fin [.bool false] rfl (by cases someE h; rfl) (by decide) outs_nil)))))))))
          · refine w_cf (congrArg AV.bool b19) ?_
            simp only [b19, Bool.not_true, Bool.not_false]
            refine w_skip (n17 _ (.inl ?_))
            obtain ⟨x1, e22, h⟩ := bindE h
            obtain ⟨x2, e23, h⟩ := bindE h
            refine w_reg (w_abs [(0, .slice (a0.map e_impl_Part)), (3, .int .i64 (IntKind.i64.wrap (v3_16 + (IntKind.i64.wrap (x2 - 1))))), (4, .int .i64 v4_16)] (fun P hP => ?_) ?_)
            · simp only [W0.down, simprocAttr, if_true, if_false, beq_self_eq_true, ne_eq, zz14.down, e22]
              refine w_call0 (ok_spec_l05Follow x1 _ e23) rfl rfl rfl rfl (.inl (by rfl)) ?_
              simp only [W0.down, simprocAttr, if_true, if_false, beq_self_eq_true, ne_eq, zz14.down, e22]
              (try simp only [WN.down, simprocAttr, if_true, if_false, zz1.down, e22] at hP ⊢)
              exact hP
            refine n16 _ (n15 _ (.inl ?_))
            refine w_reg (w_abs [(0, .slice (a0.map e_impl_Part)), (3, .int .i64 (IntKind.i64.wrap (v3_16 + (IntKind.i64.wrap (x2 - 1))))), (4, .int .i64 (IntKind.i64.wrap (v4_16 + 1)))] (fun P hP => ?_) ?_)
            · simp only [W0.down, simprocAttr, if_true, if_false, beq_self_eq_true, ne_eq, zz1.down]
              (try simp only [WN.down, simprocAttr, if_true, if_false, zz1.down] at hP ⊢)
              exact hP
            exact n11 _ (.inr ⟨_, weak_eq rfl, ih16 (IntKind.i64.wrap (v3_16 + (IntKind.i64.wrap (x2 - 1)))) (IntKind.i64.wrap (v4_16 + 1)) h⟩)
        · refine w_cf (congrArg AV.bool b14) ?_
          simp only [b14, Bool.not_true, Bool.not_false]
          refine w_ex (x12 0 _ (x11 0 _ (b10 _ (n8 _ (.inl ?_)))))
          refine w_sreg (w_abs [(2, .bool (v3_16 == 0))] (fun P hP => ?_) ?_)
          · simp only [W0.down, simprocAttr, if_true, if_false, beq_self_eq_true, ne_eq, zz1.down]
            (try simp only [WN.down, simprocAttr, if_true, if_false, zz1.down] at hP ⊢)
            exact hP
          exact w_ret (r0 _ (.inl (w_fin [.bool (v3_16 == 0)] rfl (by cases someE h; rfl) (by decide) outs_nil)))
    obtain ⟨n, h⟩ := limE h
    exact w_loop (.inr ⟨_, weak_eq rfl, L16 n 1 0 h⟩)

theorem ok_spec_l05Kind  (a0 : impl_Part) (r : Bool) (h : spec_l05Kind  a0 = some r) : OkAt Cc 275 [.ref (e_impl_Part a0)] (.bool r) [] := by
  refine OkAt.of_wpQ (fx := [0]) Cc_ok Try.func275 rfl rfl s275 (Nat.le_of_ble_eq_true rfl) (fun Q0 r0 n0 => ?_)
  replace r0 : ∀ s, onW (Fw.Ends Cc [0] [.tmp 2] (.bool r) []) s → Q0 .ret s := r0
  replace n0 : ∀ s, onW (Fw.Ends Cc [0] [.tmp 2] (.bool r) []) s → Q0 .normal s := n0
  show wpC Cc c275 Q0 (stA [(0, .ref (e_impl_Part a0))])
  refine w_sreg (w_abs [(0, .ref (e_impl_Part a0))] (fun P hP => ?_) ?_)
  · simp only [W0.down, simprocAttr, if_true, if_false, beq_self_eq_true, ne_eq, zz1.down]
    (try simp only [WN.down, simprocAttr, if_true, if_false, zz1.down] at hP ⊢)
    exact hP
  refine w_seq (fun Q2 n2 q2 x2 => ?_)
  refine w_sreg (w_abs [(0, .ref (e_impl_Part a0)), (6, .int .i64 a0.Kind)] (fun P hP => ?_) ?_)
  · simp only [W0.down, simprocAttr, if_true, if_false, beq_self_eq_true, ne_eq, zz9.down]
    (try simp only [WN.down, simprocAttr, if_true, if_false, zz1.down] at hP ⊢)
    exact hP
  refine w_blk (fun Q4 n4 q4 b4 x4 => ?_)
  have K12 : ∀ (v7_12 : Bool), spec_l05Kind_k12 a0 v7_12 = some r → wpC Cc c275_12 Q4 (stA [(0, .ref (e_impl_Part a0)), (6, .int .i64 a0.Kind), (7, .bool v7_12)]) := by
    intro v7_12 h
    rcases condE h with ⟨b6, h⟩ | ⟨b6, h⟩
    · refine w_ct (congrArg AV.bool b6) ?_
      simp only [b6, Bool.not_true, Bool.not_false]
      refine w_sreg (w_abs [(2, .bool (((a0.Number == 0) && (a0.Name == ([] : List UInt8))) && ((a0.Arguments.length : Int) == 0)))] (fun P hP => ?_) ?_)
      · (rcases Bool.eq_false_or_eq_true (a0.Number == 0) with s8 | s8) <;> (rcases Bool.eq_false_or_eq_true (a0.Name == ([] : List UInt8)) with s9 | s9) <;>
          (simp only [W0.down, simprocAttr, if_true, if_false, beq_self_eq_true, ne_eq, zz9.down, s8, s9]
           (try simp only [WN.down, simprocAttr, if_true, if_false, zz1.down, s8, s9] at hP ⊢)
           exact hP)
      exact w_ret (q4 _ (q2 _ (r0 _ (.inl (w_fin [.bool (((a0.Number == 0) && (a0.Name == ([] : List UInt8))) && ((a0.Arguments.length : Int) == 0))] rfl (by cases someE h; rfl) (by decide) outs_nil)))))
    · refine w_cf (congrArg AV.bool b6) ?_
      simp only [b6, Bool.not_true, Bool.not_false]
      refine w_sreg (w_abs [(0, .ref (e_impl_Part a0)), (6, .int .i64 a0.Kind), (30, .bool (a0.Kind == 1))] (fun P hP => ?_) ?_)
      · simp only [W0.down, simprocAttr, if_true, if_false, beq_self_eq_true, ne_eq, zz1.down]
        (try simp only [WN.down, simprocAttr, if_true, if_false, zz1.down] at hP ⊢)
        exact hP
      rcases condE h with ⟨b11, h⟩ | ⟨b11, h⟩
      · refine w_ct (congrArg AV.bool b11) ?_
        simp only [b11, Bool.not_true, Bool.not_false]
        refine w_sreg (w_abs [(2, .bool (a0.Number == 0))] (fun P hP => ?_) ?_)
        · simp only [W0.down, simprocAttr, if_true, if_false, beq_self_eq_true, ne_eq, zz9.down]
          (try simp only [WN.down, simprocAttr, if_true, if_false, zz1.down] at hP ⊢)
          exact hP
        exact w_ret (q4 _ (q2 _ (r0 _ (.inl (w_fin [.bool (a0.Number == 0)] rfl (by cases someE h; rfl) (by decide) outs_nil)))))
      · refine w_cf (congrArg AV.bool b11) ?_
        simp only [b11, Bool.not_true, Bool.not_false]
        refine w_sreg (w_abs [(0, .ref (e_impl_Part a0)), (6, .int .i64 a0.Kind), (37, .bool (a0.Kind == 3))] (fun P hP => ?_) ?_)
        · simp only [W0.down, simprocAttr, if_true, if_false, beq_self_eq_true, ne_eq, zz1.down]
          (try simp only [WN.down, simprocAttr, if_true, if_false, zz1.down] at hP ⊢)
          exact hP
        rcases condE h with ⟨b14, h⟩ | ⟨b14, h⟩
        · refine w_ct (congrArg AV.bool b14) ?_
          simp only [b14, Bool.not_true, Bool.not_false]
          refine w_sreg (w_abs [(2, .bool ((a0.Number == 0) && (a0.Name == ([] : List UInt8))))] (fun P hP => ?_) ?_)
          · rcases Bool.eq_false_or_eq_true (a0.Number == 0) with s16 | s16
            · simp only [W0.down, simprocAttr, if_true, if_false, beq_self_eq_true, ne_eq, zz9.down, s16]
              (try simp only [WN.down, simprocAttr, if_true, if_false, zz1.down, s16] at hP ⊢)
              exact hP
            · simp only [W0.down, simprocAttr, if_true, if_false, beq_self_eq_true, ne_eq, zz9.down, s16]
              (try simp only [WN.down, simprocAttr, if_true, if_false, zz1.down, s16] at hP ⊢)
              exact hP
          exact w_ret (q4 _ (q2 _ (r0 _ (.inl (w_fin [.bool ((a0.Number == 0) && (a0.Name == ([] : List UInt8)))] rfl (by cases someE h; rfl) (by decide) outs_nil)))))
        · refine w_cf (congrArg AV.bool b14) ?_
          simp only [b14, Bool.not_true, Bool.not_false]
          refine w_sreg (w_abs [(0, .ref (e_impl_Part a0)), (6, .int .i64 a0.Kind), (51, .bool (a0.Kind == 4))] (fun P hP => ?_) ?_)
          · simp only [W0.down, simprocAttr, if_true, if_false, beq_self_eq_true, ne_eq, zz1.down]
            (try simp only [WN.down, simprocAttr, if_true, if_false, zz1.down] at hP ⊢)
            exact hP
          rcases condE h with ⟨b18, h⟩ | ⟨b18, h⟩
          · refine w_ct (congrArg AV.bool b18) ?_
            simp only [b18, Bool.not_true, Bool.not_false]
            refine w_sreg (w_abs [(2, .bool ((a0.Name == ([] : List UInt8)) && ((a0.Arguments.length : Int) == 0)))] (fun P hP => ?_) ?_)
            · rcases Bool.eq_false_or_eq_true (a0.Name == ([] : List UInt8)) with s20 | s20
              · simp only [W0.down, simprocAttr, if_true, if_false, beq_self_eq_true, ne_eq, zz9.down, s20]
                (try simp only [WN.down, simprocAttr, if_true, if_false, zz1.down, s20] at hP ⊢)
                exact hP
              · simp only [W0.down, simprocAttr, if_true, if_false, beq_self_eq_true, ne_eq, zz9.down, s20]
                (try simp only [WN.down, simprocAttr, if_true, if_false, zz1.down, s20] at hP ⊢)
                exact hP
            exact w_ret (q4 _ (q2 _ (r0 _ (.inl (w_fin [.bool ((a0.Name == ([] : List UInt8)) && ((a0.Arguments.length : Int) == 0))] rfl (by cases someE h; rfl) (by decide) outs_nil)))))
          · refine w_cf (congrArg AV.bool b18) ?_
            simp only [b18, Bool.not_true, Bool.not_false]
            refine w_sreg (w_abs [(0, .ref (e_impl_Part a0)), (66, .bool (a0.Kind == 5))] (fun P hP => ?_) ?_)
            · simp only [W0.down, simprocAttr, if_true, if_false, beq_self_eq_true, ne_eq, zz1.down]
              (try simp only [WN.down, simprocAttr, if_true, if_false, zz1.down] at hP ⊢)
              exact hP
            rcases condE h with ⟨b22, h⟩ | ⟨b22, h⟩
            · refine w_ct (congrArg AV.bool b22) ?_
              simp only [b22, Bool.not_true, Bool.not_false]
              refine w_sreg (w_abs [(2, .bool (a0.Name == ([] : List UInt8)))] (fun P hP => ?_) ?_)
              · simp only [W0.down, simprocAttr, if_true, if_false, beq_self_eq_true, ne_eq, zz9.down]
                (try simp only [WN.down, simprocAttr, if_true, if_false, zz1.down] at hP ⊢)
                exact hP
              exact w_ret (q4 _ (q2 _ (r0 _ (.inl (w_fin [.bool (a0.Name == ([] : List UInt8))] rfl (by cases someE h; rfl) (by decide) outs_nil)))))
            · refine w_cf (congrArg AV.bool b22) ?_
              simp only [b22, Bool.not_true, Bool.not_false]
              refine w_skip (n4 _ (n2 _ (.inl ?_)))
              refine w_sreg (w_abs [(2, .bool false)] (fun P hP => ?_) ?_)
              · simp only [W0.down, simprocAttr, if_true, if_false, beq_self_eq_true, ne_eq, zz1.down]
                (try simp only [WN.down, simprocAttr, if_true, if_false, zz1.down] at hP ⊢)
                exact hP
              exact w_ret (r0 _ (.inl (w_fin [.bool false] rfl (by cases someE h; rfl) (by decide) outs_nil)))
  refine w_seq (fun Q5 n5 q5 x5 => ?_)
  refine w_sreg (w_abs [(0, .ref (e_impl_Part a0)), (6, .int .i64 a0.Kind), (7, .bool (a0.Kind == 0))] (fun P hP => ?_) ?_)
  · simp only [W0.down, simprocAttr, if_true, if_false, beq_self_eq_true, ne_eq, zz1.down]
    (try simp only [WN.down, simprocAttr, if_true, if_false, zz1.down] at hP ⊢)
    exact hP
  rcases condE h with ⟨b26, h⟩ | ⟨b26, h⟩
  · refine w_ct (congrArg AV.bool b26) ?_
    simp only [b26, Bool.not_true, Bool.not_false]
    exact w_skip (n5 _ (.inr ⟨_, weak_eq rfl, K12 true h⟩))
  · refine w_cf (congrArg AV.bool b26) ?_
    simp only [b26, Bool.not_true, Bool.not_false]
    refine w_reg (w_abs [(0, .ref (e_impl_Part a0)), (6, .int .i64 a0.Kind), (7, .bool (a0.Kind == 2))] (fun P hP => ?_) ?_)
    · simp only [W0.down, simprocAttr, if_true, if_false, beq_self_eq_true, ne_eq, zz1.down]
      (try simp only [WN.down, simprocAttr, if_true, if_false, zz1.down] at hP ⊢)
      exact hP
    exact n5 _ (.inr ⟨_, weak_eq rfl, K12 (a0.Kind == 2) h⟩)

theorem ok_spec_l05End  (a0 : List impl_Part) (a1 : Int) (r : Int) (h : spec_l05End  a0 a1 = some r) : OkAt Cc 143 [.slice (a0.map e_impl_Part), .int .i64 a1] (.int .i64 r) [] := by
  refine OkAt.of_wpQ (fx := [0]) Cc_ok Try.func143 rfl rfl s143 (Nat.le_of_ble_eq_true rfl) (fun Q0 r0 n0 => ?_)
  replace r0 : ∀ s, onW (Fw.Ends Cc [0] [.tmp 4] (.int .i64 r) []) s → Q0 .ret s := r0
  replace n0 : ∀ s, onW (Fw.Ends Cc [0] [.tmp 4] (.int .i64 r) []) s → Q0 .normal s := n0
  show wpC Cc c143 Q0 (stA [(0, .slice (a0.map e_impl_Part)), (1, .int .i64 a1)])
  refine w_sreg (w_abs [(0, .slice (a0.map e_impl_Part)), (1, .int .i64 a1)] (fun P hP => ?_) ?_)
  · simp only [W0.down, simprocAttr, if_true, if_false, beq_self_eq_true, ne_eq, zz1.down]
    (try simp only [WN.down, simprocAttr, if_true, if_false, zz1.down] at hP ⊢)
    exact hP
  refine w_sreg (w_abs [(0, .slice (a0.map e_impl_Part)), (1, .int .i64 a1), (5, .int .i64 1)] (fun P hP => ?_) ?_)
  · simp only [W0.down, simprocAttr, if_true, if_false, beq_self_eq_true, ne_eq, zz1.down]
    (try simp only [WN.down, simprocAttr, if_true, if_false, zz1.down] at hP ⊢)
    exact hP
  refine w_seq (fun Q3 n3 q3 x3 => ?_)
  refine w_blk (fun Q4 n4 q4 b4 x4 => ?_)
  have L6 : ∀ (n : Nat) (v1_6 : Int) (v5_6 : Int), spec_l05End_l6 a0 n v1_6 v5_6 = some r → lpC Cc c143_7 Q4 (stA [(0, .slice (a0.map e_impl_Part)), (1, .int .i64 v1_6), (5, .int .i64 v5_6)]) := by
    intro m6
    induction m6 with
    | zero => intro v1_6 v5_6 h; cases (show none = some r from h)
    | succ m6 ih6 =>
      intro v1_6 v5_6 h
      replace h : spec_l05End_b6 (spec_l05End_l6 a0 m6) a0 v1_6 v5_6 = some r := h
      refine lpC_step (fun Q5 n5 q5 x5 => ?_)
      refine w_seq (fun Q6 n6 q6 x6 => ?_)
      refine w_sreg (w_abs [(0, .slice (a0.map e_impl_Part)), (1, .int .i64 v1_6), (5, .int .i64 v5_6), (7, .bool (decide (0 < v5_6)))] (fun P hP => ?_) ?_)
      · simp only [W0.down, simprocAttr, if_true, if_false, beq_self_eq_true, ne_eq, zz1.down]
        (try simp only [WN.down, simprocAttr, if_true, if_false, zz1.down] at hP ⊢)
        exact hP
      rcases condE h with ⟨b8, h⟩ | ⟨b8, h⟩
      · refine w_ct (congrArg AV.bool b8) ?_
        simp only [b8, Bool.not_true, Bool.not_false]
        refine w_skip (n6 _ (.inl ?_))
        refine w_blk (fun Q9 n9 q9 b9 x9 => ?_)
        obtain ⟨x1, e11, h⟩ := bindE h
        obtain ⟨x2, e12, h⟩ := bindE h
        refine w_sreg (w_abs [(0, .slice (a0.map e_impl_Part)), (1, .int .i64 v1_6), (5, .int .i64 (IntKind.i64.wrap (v5_6 + (IntKind.i64.wrap (x2 - 1)))))] (fun P hP => ?_) ?_)
        · simp only [W0.down, simprocAttr, if_true, if_false, beq_self_eq_true, ne_eq, zz14.down, e11]
          refine w_call0 (ok_spec_l05Follow x1 _ e12) rfl rfl rfl rfl (.inl (by rfl)) ?_
          simp only [W0.down, simprocAttr, if_true, if_false, beq_self_eq_true, ne_eq, zz14.down, e11]
          (try simp only [WN.down, simprocAttr, if_true, if_false, zz1.down, e11] at hP ⊢)
          exact hP
        refine w_reg (w_abs [(0, .slice (a0.map e_impl_Part)), (1, .int .i64 (IntKind.i64.wrap (v1_6 + 1))), (5, .int .i64 (IntKind.i64.wrap (v5_6 + (IntKind.i64.wrap (x2 - 1)))))] (fun P hP => ?_) ?_)
        · simp only [W0.down, simprocAttr, if_true, if_false, beq_self_eq_true, ne_eq, zz1.down]
          (try simp only [WN.down, simprocAttr, if_true, if_false, zz1.down] at hP ⊢)
          exact hP
        exact n9 _ (n5 _ (.inr ⟨_, weak_eq rfl, ih6 (IntKind.i64.wrap (v1_6 + 1)) (IntKind.i64.wrap (v5_6 + (IntKind.i64.wrap (x2 - 1)))) h⟩))
      · refine w_cf (congrArg AV.bool b8) ?_
        simp only [b8, Bool.not_true, Bool.not_false]
        refine w_ex (x6 0 _ (x5 0 _ (b4 _ (n3 _ (.inl ?_)))))
        refine w_sreg (w_abs [(4, .int .i64 v1_6)] (fun P hP => ?_) ?_)
        · simp only [W0.down, simprocAttr, if_true, if_false, beq_self_eq_true, ne_eq, zz1.down]
          (try simp only [WN.down, simprocAttr, if_true, if_false, zz1.down] at hP ⊢)
          exact hP
        exact w_ret (r0 _ (.inl (w_fin [.int .i64 v1_6] rfl (by cases someE h; rfl) (by decide) outs_nil)))
  obtain ⟨n, h⟩ := limE h
  exact w_loop (.inr ⟨_, weak_eq rfl, L6 n a1 1 h⟩)

theorem ok_spec_l05Scope  (a0 : impl_Definition) (a1 : Int) (r : Int) (h : spec_l05Scope  a0 a1 = some r) : OkAt Cc 146 [.ref (e_impl_Definition a0), .int .i64 a1] (.int .i64 r) [] := by
  refine OkAt.of_wpQ (fx := [0, 1]) Cc_ok Try.func146 rfl rfl s146 (Nat.le_of_ble_eq_true rfl) (fun Q0 r0 n0 => ?_)
  replace r0 : ∀ s, onW (Fw.Ends Cc [0, 1] [.tmp 4] (.int .i64 r) []) s → Q0 .ret s := r0
  replace n0 : ∀ s, onW (Fw.Ends Cc [0, 1] [.tmp 4] (.int .i64 r) []) s → Q0 .normal s := n0
  show wpC Cc c146 Q0 (stA [(0, .ref (e_impl_Definition a0)), (1, .int .i64 a1)])
  refine w_sreg (w_abs [(0, .ref (e_impl_Definition a0)), (1, .int .i64 a1)] (fun P hP => ?_) ?_)
  · simp only [W0.down, simprocAttr, if_true, if_false, beq_self_eq_true, ne_eq, zz0.down]
    (try simp only [WN.down, simprocAttr, if_true, if_false, zz0.down] at hP ⊢)
    exact hP
  refine w_sreg (w_abs [(0, .ref (e_impl_Definition a0)), (1, .int .i64 a1), (5, .int .i64 a0.Parameters)] (fun P hP => ?_) ?_)
  · simp only [W0.down, simprocAttr, if_true, if_false, beq_self_eq_true, ne_eq, zz6.down]
    (try simp only [WN.down, simprocAttr, if_true, if_false, zz0.down] at hP ⊢)
    exact hP
  refine w_seq (fun Q3 n3 q3 x3 => ?_)
  refine w_sreg (w_abs [(0, .ref (e_impl_Definition a0)), (1, .int .i64 a1), (5, .int .i64 a0.Parameters), (6, .int .i64 0)] (fun P hP => ?_) ?_)
  · simp only [W0.down, simprocAttr, if_true, if_false, beq_self_eq_true, ne_eq, zz0.down]
    (try simp only [WN.down, simprocAttr, if_true, if_false, zz0.down] at hP ⊢)
    exact hP
  refine w_blk (fun Q5 n5 q5 b5 x5 => ?_)
  have L8 : ∀ (n : Nat) (v5_8 : Int) (v6_8 : Int), spec_l05Scope_l8 a0 a1 n v5_8 v6_8 = some r → lpC Cc c146_9 Q5 (stA [(0, .ref (e_impl_Definition a0)), (1, .int .i64 a1), (5, .int .i64 v5_8), (6, .int .i64 v6_8)]) := by
    intro m8
    induction m8 with
    | zero => intro v5_8 v6_8 h; cases (show none = some r from h)
    | succ m8 ih8 =>
      intro v5_8 v6_8 h
      replace h : spec_l05Scope_b8 (spec_l05Scope_l8 a0 a1 m8) a0 a1 v5_8 v6_8 = some r := h
      refine lpC_step (fun Q6 n6 q6 x6 => ?_)
      refine w_seq (fun Q7 n7 q7 x7 => ?_)
      refine w_sreg (w_abs [(0, .ref (e_impl_Definition a0)), (1, .int .i64 a1), (5, .int .i64 v5_8), (6, .int .i64 v6_8), (13, .bool (decide (v6_8 < a1)))] (fun P hP => ?_) ?_)
      · simp only [W0.down, simprocAttr, if_true, if_false, beq_self_eq_true, ne_eq, zz0.down]
        (try simp only [WN.down, simprocAttr, if_true, if_false, zz0.down] at hP ⊢)
        exact hP
      rcases condE h with ⟨b9, h⟩ | ⟨b9, h⟩
      · refine w_ct (congrArg AV.bool b9) ?_
        simp only [b9, Bool.not_true, Bool.not_false]
        refine w_skip (n7 _ (.inl ?_))
        have K22 : ∀ (v5_22 : Int) (v6_22 : Int), spec_l05Scope_k22 (spec_l05Scope_l8 a0 a1 m8) a0 a1 v5_22 v6_22 = some r → wpC Cc c146_22 Q6 (stA [(0, .ref (e_impl_Definition a0)), (1, .int .i64 a1), (5, .int .i64 v5_22), (6, .int .i64 v6_22)]) := by
          intro v5_22 v6_22 h
          refine w_reg (w_abs [(0, .ref (e_impl_Definition a0)), (1, .int .i64 a1), (5, .int .i64 v5_22), (6, .int .i64 (IntKind.i64.wrap (v6_22 + 1)))] (fun P hP => ?_) ?_)
          · simp only [W0.down, simprocAttr, if_true, if_false, beq_self_eq_true, ne_eq, zz0.down]
            (try simp only [WN.down, simprocAttr, if_true, if_false, zz0.down] at hP ⊢)
            exact hP
          exact n6 _ (.inr ⟨_, weak_eq rfl, ih8 v5_22 (IntKind.i64.wrap (v6_22 + 1)) h⟩)
        refine w_seq (fun Q10 n10 q10 x10 => ?_)
        refine w_blk (fun Q12 n12 q12 b12 x12 => ?_)
        obtain ⟨x1, e14, h⟩ := bindE h
        rcases condE h with ⟨b15, h⟩ | ⟨b15, h⟩
        · obtain ⟨x2, e16, h⟩ := bindE h
          refine w_sreg (w_abs [(0, .ref (e_impl_Definition a0)), (1, .int .i64 a1), (5, .int .i64 v5_8), (6, .int .i64 v6_8), (34, .bool (decide (a1 < x2)))] (fun P hP => ?_) ?_)
          · simp only [W0.down, simprocAttr, if_true, if_false, beq_self_eq_true, ne_eq, zz6.down, e14, b15]
            refine w_callg0 (ok_spec_l05End a0.Body v6_8 _ e16) rfl rfl rfl rfl (.inl (by rfl)) ?_
            simp only [W0.down, simprocAttr, if_true, if_false, beq_self_eq_true, ne_eq, zz6.down, e14, b15]
            (try simp only [WN.down, simprocAttr, if_true, if_false, zz0.down, e14, b15] at hP ⊢)
            exact hP
          rcases condE h with ⟨b17, h⟩ | ⟨b17, h⟩
          · refine w_ct (congrArg AV.bool b17) ?_
            simp only [b17, Bool.not_true, Bool.not_false]
            refine w_reg (w_abs [(0, .ref (e_impl_Definition a0)), (1, .int .i64 a1), (5, .int .i64 (IntKind.i64.wrap (v5_8 + 1))), (6, .int .i64 v6_8)] (fun P hP => ?_) ?_)
            · simp only [W0.down, simprocAttr, if_true, if_false, beq_self_eq_true, ne_eq, zz0.down]
              (try simp only [WN.down, simprocAttr, if_true, if_false, zz0.down] at hP ⊢)
              exact hP
            exact n12 _ (n10 _ (.inr ⟨_, weak_eq rfl, K22 (IntKind.i64.wrap (v5_8 + 1)) v6_8 h⟩))
          · refine w_cf (congrArg AV.bool b17) ?_
            simp only [b17, Bool.not_true, Bool.not_false]
            exact w_skip (n12 _ (n10 _ (.inr ⟨_, weak_eq rfl, K22 v5_8 v6_8 h⟩)))
        · refine w_sreg (w_abs [(0, .ref (e_impl_Definition a0)), (1, .int .i64 a1), (5, .int .i64 v5_8), (6, .int .i64 v6_8), (34, .bool false)] (fun P hP => ?_) ?_)
          · simp only [W0.down, simprocAttr, if_true, if_false, beq_self_eq_true, ne_eq, zz6.down, e14, b15]
            (try simp only [WN.down, simprocAttr, if_true, if_false, zz0.down, e14, b15] at hP ⊢)
            exact hP
          refine w_cf rfl ?_
          exact w_skip (n12 _ (n10 _ (.inr ⟨_, weak_eq rfl, K22 v5_8 v6_8 h⟩)))
      · refine w_cf (congrArg AV.bool b9) ?_
        simp only [b9, Bool.not_true, Bool.not_false]
        refine w_ex (x7 0 _ (x6 0 _ (b5 _ (n3 _ (.inl ?_)))))
        refine w_sreg (w_abs [(4, .int .i64 v5_8)] (fun P hP => ?_) ?_)
        · simp only [W0.down, simprocAttr, if_true, if_false, beq_self_eq_true, ne_eq, zz0.down]
          (try simp only [WN.down, simprocAttr, if_true, if_false, zz0.down] at hP ⊢)
          exact hP
        exact w_ret (r0 _ (.inl (w_fin [.int .i64 v5_8] rfl (by cases someE h; rfl) (by decide) outs_nil)))
  obtain ⟨n, h⟩ := limE h
  exact w_loop (.inr ⟨_, weak_eq rfl, L8 n a0.Parameters 0 h⟩)

theorem ok_spec_l03Term  (a0 : impl_Term) (a1 : Int) (r : Bool) (h : spec_l03Term  a0 a1 = some r) : OkAt Cc 268 [.ref (e_impl_Term a0), .int .i64 a1] (.bool r) [] := by
  refine OkAt.of_wpQ (fx := [0, 1]) Cc_ok Try.func268 rfl rfl s268 (Nat.le_of_ble_eq_true rfl) (fun Q0 r0 n0 => ?_)
  replace r0 : ∀ s, onW (Fw.Ends Cc [0, 1] [.tmp 4] (.bool r) []) s → Q0 .ret s := r0
  replace n0 : ∀ s, onW (Fw.Ends Cc [0, 1] [.tmp 4] (.bool r) []) s → Q0 .normal s := n0
  show wpC Cc c268 Q0 (stA [(0, .ref (e_impl_Term a0)), (1, .int .i64 a1)])
  refine w_sreg (w_abs [(0, .ref (e_impl_Term a0)), (1, .int .i64 a1)] (fun P hP => ?_) ?_)
  · simp only [W0.down, simprocAttr, if_true, if_false, beq_self_eq_true, ne_eq, e_impl_Term]
    (try simp only [WN.down, simprocAttr, if_true, if_false, e_impl_Term] at hP ⊢)
    exact hP
  refine w_seq (fun Q2 n2 q2 x2 => ?_)
  refine w_sreg (w_abs [(0, .ref (e_impl_Term a0)), (1, .int .i64 a1), (8, .int .i64 a0.Kind)] (fun P hP => ?_) ?_)
  · simp only [W0.down, simprocAttr, if_true, if_false, beq_self_eq_true, ne_eq, zz8.down]
    (try simp only [WN.down, simprocAttr, if_true, if_false, e_impl_Term] at hP ⊢)
    exact hP
  refine w_blk (fun Q4 n4 q4 b4 x4 => ?_)
  refine w_sreg (w_abs [(0, .ref (e_impl_Term a0)), (1, .int .i64 a1), (8, .int .i64 a0.Kind), (9, .bool (a0.Kind == 0))] (fun P hP => ?_) ?_)
  · simp only [W0.down, simprocAttr, if_true, if_false, beq_self_eq_true, ne_eq, e_impl_Term]
    (try simp only [WN.down, simprocAttr, if_true, if_false, e_impl_Term] at hP ⊢)
    exact hP
  rcases condE h with ⟨b6, h⟩ | ⟨b6, h⟩
  · refine w_ct (congrArg AV.bool b6) ?_
    simp only [b6, Bool.not_true, Bool.not_false]
    obtain ⟨x1, e8, h⟩ := bindE h
    refine w_sreg (w_abs [(4, .bool x1)] (fun P hP => ?_) ?_)
    · simp only [W0.down, simprocAttr, if_true, if_false, beq_self_eq_true, ne_eq, zz8.down]
      refine w_call0 (ok_spec_l00In a0.Value 0 63 _ e8) rfl rfl rfl rfl (.inl (by rfl)) ?_
      simp only [W0.down, simprocAttr, if_true, if_false, beq_self_eq_true, ne_eq, zz8.down]
      (try simp only [WN.down, simprocAttr, if_true, if_false, e_impl_Term] at hP ⊢)
      exact hP
    exact w_ret (q4 _ (q2 _ (r0 _ (.inl (w_fin [.bool x1] rfl (by cases someE h; rfl) (by decide) outs_nil)))))
  · refine w_cf (congrArg AV.bool b6) ?_
    simp only [b6, Bool.not_true, Bool.not_false]
    refine w_sreg (w_abs [(0, .ref (e_impl_Term a0)), (1, .int .i64 a1), (8, .int .i64 a0.Kind), (16, .bool (a0.Kind == 1))] (fun P hP => ?_) ?_)
    · simp only [W0.down, simprocAttr, if_true, if_false, beq_self_eq_true, ne_eq, e_impl_Term]
      (try simp only [WN.down, simprocAttr, if_true, if_false, e_impl_Term] at hP ⊢)
      exact hP
    rcases condE h with ⟨b10, h⟩ | ⟨b10, h⟩
    · refine w_ct (congrArg AV.bool b10) ?_
      simp only [b10, Bool.not_true, Bool.not_false]
      obtain ⟨x2, e12, h⟩ := bindE h
      refine w_sreg (w_abs [(4, .bool x2)] (fun P hP => ?_) ?_)
      · simp only [W0.down, simprocAttr, if_true, if_false, beq_self_eq_true, ne_eq, zz8.down]
        refine w_call0 (ok_spec_l00In a0.Value 0 (IntKind.i64.wrap (a1 - 1)) _ e12) rfl rfl rfl rfl (.inl (by rfl)) ?_
        simp only [W0.down, simprocAttr, if_true, if_false, beq_self_eq_true, ne_eq, zz8.down]
        (try simp only [WN.down, simprocAttr, if_true, if_false, e_impl_Term] at hP ⊢)
        exact hP
      exact w_ret (q4 _ (q2 _ (r0 _ (.inl (w_fin [.bool x2] rfl (by cases someE h; rfl) (by decide) outs_nil)))))
    · refine w_cf (congrArg AV.bool b10) ?_
      simp only [b10, Bool.not_true, Bool.not_false]
      refine w_sreg (w_abs [(0, .ref (e_impl_Term a0)), (8, .int .i64 a0.Kind), (25, .bool (a0.Kind == 2))] (fun P hP => ?_) ?_)
      · simp only [W0.down, simprocAttr, if_true, if_false, beq_self_eq_true, ne_eq, e_impl_Term]
        (try simp only [WN.down, simprocAttr, if_true, if_false, e_impl_Term] at hP ⊢)
        exact hP
      rcases condE h with ⟨b14, h⟩ | ⟨b14, h⟩
      · refine w_ct (congrArg AV.bool b14) ?_
        simp only [b14, Bool.not_true, Bool.not_false]
        obtain ⟨x3, e16, h⟩ := bindE h
        refine w_sreg (w_abs [(4, .bool x3)] (fun P hP => ?_) ?_)
        · simp only [W0.down, simprocAttr, if_true, if_false, beq_self_eq_true, ne_eq, zz8.down]
          refine w_call0 (ok_spec_l00In a0.Value 0 8 _ e16) rfl rfl rfl rfl (.inl (by rfl)) ?_
          simp only [W0.down, simprocAttr, if_true, if_false, beq_self_eq_true, ne_eq, zz8.down]
          (try simp only [WN.down, simprocAttr, if_true, if_false, e_impl_Term] at hP ⊢)
          exact hP
        exact w_ret (q4 _ (q2 _ (r0 _ (.inl (w_fin [.bool x3] rfl (by cases someE h; rfl) (by decide) outs_nil)))))
      · refine w_cf (congrArg AV.bool b14) ?_
        simp only [b14, Bool.not_true, Bool.not_false]
        refine w_sreg (w_abs [(0, .ref (e_impl_Term a0)), (32, .bool (a0.Kind == 3))] (fun P hP => ?_) ?_)
        · simp only [W0.down, simprocAttr, if_true, if_false, beq_self_eq_true, ne_eq, e_impl_Term]
          (try simp only [WN.down, simprocAttr, if_true, if_false, e_impl_Term] at hP ⊢)
          exact hP
        rcases condE h with ⟨b18, h⟩ | ⟨b18, h⟩
        · refine w_ct (congrArg AV.bool b18) ?_
          simp only [b18, Bool.not_true, Bool.not_false]
          refine w_sreg (w_abs [(4, .bool (a0.Value == 0))] (fun P hP => ?_) ?_)
          · simp only [W0.down, simprocAttr, if_true, if_false, beq_self_eq_true, ne_eq, zz8.down]
            (try simp only [WN.down, simprocAttr, if_true, if_false, e_impl_Term] at hP ⊢)
            exact hP
          exact w_ret (q4 _ (q2 _ (r0 _ (.inl (w_fin [.bool (a0.Value == 0)] rfl (by cases someE h; rfl) (by decide) outs_nil)))))
        · refine w_cf (congrArg AV.bool b18) ?_
          simp only [b18, Bool.not_true, Bool.not_false]
          refine w_skip (n4 _ (n2 _ (.inl ?_)))
          refine w_sreg (w_abs [(4, .bool false)] (fun P hP => ?_) ?_)
          · simp only [W0.down, simprocAttr, if_true, if_false, beq_self_eq_true, ne_eq, e_impl_Term]
            (try simp only [WN.down, simprocAttr, if_true, if_false, e_impl_Term] at hP ⊢)
            exact hP
          exact w_ret (r0 _ (.inl (w_fin [.bool false] rfl (by cases someE h; rfl) (by decide) outs_nil)))

theorem ok_spec_l03Arity  (a0 : impl_Term) (r : Int) (h : spec_l03Arity  a0 = some r) : OkAt Cc 196 [.ref (e_impl_Term a0)] (.int .i64 r) [] := by
  refine OkAt.of_wpQ (fx := [0]) Cc_ok Try.func196 rfl rfl s196 (Nat.le_of_ble_eq_true rfl) (fun Q0 r0 n0 => ?_)
  replace r0 : ∀ s, onW (Fw.Ends Cc [0] [.tmp 2] (.int .i64 r) []) s → Q0 .ret s := r0
  replace n0 : ∀ s, onW (Fw.Ends Cc [0] [.tmp 2] (.int .i64 r) []) s → Q0 .normal s := n0
  show wpC Cc c196 Q0 (stA [(0, .ref (e_impl_Term a0))])
  refine w_sreg (w_abs [(0, .ref (e_impl_Term a0))] (fun P hP => ?_) ?_)
  · simp only [W0.down, simprocAttr, if_true, if_false, beq_self_eq_true, ne_eq, e_impl_Term]
    (try simp only [WN.down, simprocAttr, if_true, if_false, e_impl_Term] at hP ⊢)
    exact hP
  refine w_seq (fun Q2 n2 q2 x2 => ?_)
  refine w_sreg (w_abs [(6, .int .i64 a0.Kind)] (fun P hP => ?_) ?_)
  · simp only [W0.down, simprocAttr, if_true, if_false, beq_self_eq_true, ne_eq, zz8.down]
    (try simp only [WN.down, simprocAttr, if_true, if_false, e_impl_Term] at hP ⊢)
    exact hP
  refine w_blk (fun Q4 n4 q4 b4 x4 => ?_)
  refine w_sreg (w_abs [(6, .int .i64 a0.Kind), (7, .bool (a0.Kind == 2))] (fun P hP => ?_) ?_)
  · simp only [W0.down, simprocAttr, if_true, if_false, beq_self_eq_true, ne_eq]
    (try simp only [WN.down, simprocAttr, if_true, if_false] at hP ⊢)
    exact hP
  rcases condE h with ⟨b6, h⟩ | ⟨b6, h⟩
  · refine w_ct (congrArg AV.bool b6) ?_
    simp only [b6, Bool.not_true, Bool.not_false]
    refine w_sreg (w_abs [(2, .int .i64 2)] (fun P hP => ?_) ?_)
    · simp only [W0.down, simprocAttr, if_true, if_false, beq_self_eq_true, ne_eq]
      (try simp only [WN.down, simprocAttr, if_true, if_false] at hP ⊢)
      exact hP
    exact w_ret (q4 _ (q2 _ (r0 _ (.inl (w_fin [.int .i64 2] rfl (by cases someE h; rfl) (by decide) outs_nil)))))
  · refine w_cf (congrArg AV.bool b6) ?_
    simp only [b6, Bool.not_true, Bool.not_false]
    refine w_sreg (w_abs [(9, .bool (a0.Kind == 3))] (fun P hP => ?_) ?_)
    · simp only [W0.down, simprocAttr, if_true, if_false, beq_self_eq_true, ne_eq]
      (try simp only [WN.down, simprocAttr, if_true, if_false] at hP ⊢)
      exact hP
    rcases condE h with ⟨b9, h⟩ | ⟨b9, h⟩
    · refine w_ct (congrArg AV.bool b9) ?_
      simp only [b9, Bool.not_true, Bool.not_false]
      refine w_sreg (w_abs [(2, .int .i64 1)] (fun P hP => ?_) ?_)
      · simp only [W0.down, simprocAttr, if_true, if_false, beq_self_eq_true, ne_eq]
        (try simp only [WN.down, simprocAttr, if_true, if_false] at hP ⊢)
        exact hP
      exact w_ret (q4 _ (q2 _ (r0 _ (.inl (w_fin [.int .i64 1] rfl (by cases someE h; rfl) (by decide) outs_nil)))))
    · refine w_cf (congrArg AV.bool b9) ?_
      simp only [b9, Bool.not_true, Bool.not_false]
      refine w_skip (n4 _ (n2 _ (.inl ?_)))
      refine w_sreg (w_abs [(2, .int .i64 0)] (fun P hP => ?_) ?_)
      · simp only [W0.down, simprocAttr, if_true, if_false, beq_self_eq_true, ne_eq]
        (try simp only [WN.down, simprocAttr, if_true, if_false] at hP ⊢)
        exact hP
      exact w_ret (r0 _ (.inl (w_fin [.int .i64 0] rfl (by cases someE h; rfl) (by decide) outs_nil)))

theorem ok_spec_l03Is  (a0 : List impl_Term) (a1 : Int) (a2 : Int) (r : Bool) (h : spec_l03Is  a0 a1 a2 = some r) : OkAt Cc 195 [.slice (a0.map e_impl_Term), .int .i64 a1, .int .i64 a2] (.bool r) [] := by
  refine OkAt.of_wpQ (fx := [0, 1, 2]) Cc_ok Try.func195 rfl rfl s195 (Nat.le_of_ble_eq_true rfl) (fun Q0 r0 n0 => ?_)
  replace r0 : ∀ s, onW (Fw.Ends Cc [0, 1, 2] [.tmp 6] (.bool r) []) s → Q0 .ret s := r0
  replace n0 : ∀ s, onW (Fw.Ends Cc [0, 1, 2] [.tmp 6] (.bool r) []) s → Q0 .normal s := n0
  show wpC Cc c195 Q0 (stA [(0, .slice (a0.map e_impl_Term)), (1, .int .i64 a1), (2, .int .i64 a2)])
  refine w_sreg (w_abs [(0, .slice (a0.map e_impl_Term)), (1, .int .i64 a1), (2, .int .i64 a2)] (fun P hP => ?_) ?_)
  · simp only [W0.down, simprocAttr, if_true, if_false, beq_self_eq_true, ne_eq, e_impl_Term]
    (try simp only [WN.down, simprocAttr, if_true, if_false, e_impl_Term] at hP ⊢)
    exact hP
  refine w_seq (fun Q2 n2 q2 x2 => ?_)
  refine w_sreg (w_abs [(0, .slice (a0.map e_impl_Term)), (1, .int .i64 a1), (12, .bool (decide (a2 < (a0.length : Int))))] (fun P hP => ?_) ?_)
  · simp only [W0.down, simprocAttr, if_true, if_false, beq_self_eq_true, ne_eq, zz11.down]
    (try simp only [WN.down, simprocAttr, if_true, if_false, e_impl_Term] at hP ⊢)
    exact hP
  rcases condE h with ⟨b4, h⟩ | ⟨b4, h⟩
  · refine w_ct (congrArg AV.bool b4) ?_
    simp only [b4, Bool.not_true, Bool.not_false]
    refine w_sreg (w_abs [(6, .bool false)] (fun P hP => ?_) ?_)
    · simp only [W0.down, simprocAttr, if_true, if_false, beq_self_eq_true, ne_eq, e_impl_Term]
      (try simp only [WN.down, simprocAttr, if_true, if_false, e_impl_Term] at hP ⊢)
      exact hP
    exact w_ret (q2 _ (r0 _ (.inl (w_fin [.bool false] rfl (by cases someE h; rfl) (by decide) outs_nil))))
  · refine w_cf (congrArg AV.bool b4) ?_
    simp only [b4, Bool.not_true, Bool.not_false]
    refine w_skip (n2 _ (.inl ?_))
    refine w_sreg (w_abs [(0, .slice (a0.map e_impl_Term)), (1, .int .i64 a1), (7, .int .i64 1)] (fun P hP => ?_) ?_)
    · simp only [W0.down, simprocAttr, if_true, if_false, beq_self_eq_true, ne_eq, e_impl_Term]
      (try simp only [WN.down, simprocAttr, if_true, if_false, e_impl_Term] at hP ⊢)
      exact hP
    refine w_seq (fun Q7 n7 q7 x7 => ?_)
    refine w_sreg (w_abs [(0, .slice (a0.map e_impl_Term)), (1, .int .i64 a1), (7, .int .i64 1), (8, .int .i64 0)] (fun P hP => ?_) ?_)
    · simp only [W0.down, simprocAttr, if_true, if_false, beq_self_eq_true, ne_eq, e_impl_Term]
      (try simp only [WN.down, simprocAttr, if_true, if_false, e_impl_Term] at hP ⊢)
      exact hP
    refine w_blk (fun Q9 n9 q9 b9 x9 => ?_)
    have L16 : ∀ (n : Nat) (v7_16 : Int) (v8_16 : Int), spec_l03Is_l16 a0 a1 n v7_16 v8_16 = some r → lpC Cc c195_17 Q9 (stA [(0, .slice (a0.map e_impl_Term)), (1, .int .i64 a1), (7, .int .i64 v7_16), (8, .int .i64 v8_16)]) := by
      intro m16
      induction m16 with
      | zero => intro v7_16 v8_16 h; cases (show none = some r from h)
      | succ m16 ih16 =>
        intro v7_16 v8_16 h
        replace h : spec_l03Is_b16 (spec_l03Is_l16 a0 a1 m16) a0 a1 v7_16 v8_16 = some r := h
        refine lpC_step (fun Q10 n10 q10 x10 => ?_)
        refine w_seq (fun Q11 n11 q11 x11 => ?_)
        refine w_sreg (w_abs [(0, .slice (a0.map e_impl_Term)), (1, .int .i64 a1), (7, .int .i64 v7_16), (8, .int .i64 v8_16), (16, .bool (decide (v8_16 < (a0.length : Int))))] (fun P hP => ?_) ?_)
        · simp only [W0.down, simprocAttr, if_true, if_false, beq_self_eq_true, ne_eq, zz11.down]
          (try simp only [WN.down, simprocAttr, if_true, if_false, e_impl_Term] at hP ⊢)
          exact hP
        rcases condE h with ⟨b13, h⟩ | ⟨b13, h⟩
        · refine w_ct (congrArg AV.bool b13) ?_
          simp only [b13, Bool.not_true, Bool.not_false]
          refine w_skip (n11 _ (.inl ?_))
          refine w_seq (fun Q14 n14 q14 x14 => ?_)
          refine w_blk (fun Q15 n15 q15 b15 x15 => ?_)
          refine w_seq (fun Q16 n16 q16 x16 => ?_)
          rcases condE h with ⟨b18, h⟩ | ⟨b18, h⟩
          · refine w_sreg (w_abs [(0, .slice (a0.map e_impl_Term)), (1, .int .i64 a1), (7, .int .i64 v7_16), (8, .int .i64 v8_16), (28, .bool true)] (fun P hP => ?_) ?_)
            · simp only [W0.down, simprocAttr, if_true, if_false, beq_self_eq_true, ne_eq, zz11.down, b18]
              (try simp only [WN.down, simprocAttr, if_true, if_false, e_impl_Term, b18] at hP ⊢)
              exact hP
            refine w_ct rfl ?_
            refine w_sreg (w_abs [(6, .bool false)] (fun P hP => ?_) ?_)
            · simp only [W0.down, simprocAttr, if_true, if_false, beq_self_eq_true, ne_eq, e_impl_Term]
              (try simp only [WN.down, simprocAttr, if_true, if_false, e_impl_Term] at hP ⊢)
              exact hP
            exact w_ret (q16 _ (q15 _ (q14 _ (q10 _ (q9 _ (q7 _ (r0 _ (.inl (w_fin [.bool false] rfl (by cases someE h; rfl) (by decide) outs_nil)))))))))
          · obtain ⟨x1, e20, h⟩ := bindE h
            obtain ⟨x2, e21, h⟩ := bindE h
            refine w_sreg (w_abs [(0, .slice (a0.map e_impl_Term)), (1, .int .i64 a1), (7, .int .i64 v7_16), (8, .int .i64 v8_16), (28, .bool (!x2))] (fun P hP => ?_) ?_)
            · simp only [W0.down, simprocAttr, if_true, if_false, beq_self_eq_true, ne_eq, zz11.down, b18, e20]
              refine w_callg0 (ok_spec_l03Term x1 a1 _ e21) rfl rfl rfl rfl (.inl (by rfl)) ?_
              simp only [W0.down, simprocAttr, if_true, if_false, beq_self_eq_true, ne_eq, zz11.down, b18, e20]
              (try simp only [WN.down, simprocAttr, if_true, if_false, e_impl_Term, b18, e20] at hP ⊢)
              exact hP
            rcases condE h with ⟨b22, h⟩ | ⟨b22, h⟩
            · refine w_ct (congrArg AV.bool b22) ?_
              simp only [b22, Bool.not_true, Bool.not_false]
              refine w_sreg (w_abs [(6, .bool false)] (fun P hP => ?_) ?_)
              · simp only [W0.down, simprocAttr, if_true, if_false, beq_self_eq_true, ne_eq, e_impl_Term]
                (try simp only [WN.down, simprocAttr, if_true, if_false, e_impl_Term] at hP ⊢)
                exact hP
              exact w_ret (q16 _ (q15 _ (q14 _ (q10 _ (q9 _ (q7 _ (r0 _ (.inl (w_fin [.bool false] rfl (by cases someE h; rfl) (by decide) outs_nil)))))))))
            · refine w_cf (congrArg AV.bool b22) ?_
              simp only [b22, Bool.not_true, Bool.not_false]
              refine w_skip (n16 _ (.inl ?_))
              obtain ⟨x3, e25, h⟩ := bindE h
              refine w_reg (w_abs [(0, .slice (a0.map e_impl_Term)), (1, .int .i64 a1), (7, .int .i64 (IntKind.i64.wrap (v7_16 + (IntKind.i64.wrap (x3 - 1))))), (8, .int .i64 v8_16)] (fun P hP => ?_) ?_)
              · simp only [W0.down, simprocAttr, if_true, if_false, beq_self_eq_true, ne_eq, zz11.down, e20]
                refine w_call0 (ok_spec_l03Arity x1 _ e25) rfl rfl rfl rfl (.inl (by rfl)) ?_
                simp only [W0.down, simprocAttr, if_true, if_false, beq_self_eq_true, ne_eq, zz11.down, e20]
                (try simp only [WN.down, simprocAttr, if_true, if_false, e_impl_Term, e20] at hP ⊢)
                exact hP
              refine n15 _ (n14 _ (.inl ?_))
              refine w_reg (w_abs [(0, .slice (a0.map e_impl_Term)), (1, .int .i64 a1), (7, .int .i64 (IntKind.i64.wrap (v7_16 + (IntKind.i64.wrap (x3 - 1))))), (8, .int .i64 (IntKind.i64.wrap (v8_16 + 1)))] (fun P hP => ?_) ?_)
              · simp only [W0.down, simprocAttr, if_true, if_false, beq_self_eq_true, ne_eq, e_impl_Term]
                (try simp only [WN.down, simprocAttr, if_true, if_false, e_impl_Term] at hP ⊢)
                exact hP
              exact n10 _ (.inr ⟨_, weak_eq rfl, ih16 (IntKind.i64.wrap (v7_16 + (IntKind.i64.wrap (x3 - 1)))) (IntKind.i64.wrap (v8_16 + 1)) h⟩)
        · refine w_cf (congrArg AV.bool b13) ?_
          simp only [b13, Bool.not_true, Bool.not_false]
          refine w_ex (x11 0 _ (x10 0 _ (b9 _ (n7 _ (.inl ?_)))))
          refine w_sreg (w_abs [(6, .bool (v7_16 == 0))] (fun P hP => ?_) ?_)
          · simp only [W0.down, simprocAttr, if_true, if_false, beq_self_eq_true, ne_eq, e_impl_Term]
            (try simp only [WN.down, simprocAttr, if_true, if_false, e_impl_Term] at hP ⊢)
            exact hP
          exact w_ret (r0 _ (.inl (w_fin [.bool (v7_16 == 0)] rfl (by cases someE h; rfl) (by decide) outs_nil)))
    obtain ⟨n, h⟩ := limE h
    exact w_loop (.inr ⟨_, weak_eq rfl, L16 n 1 0 h⟩)

set_option maxHeartbeats 600000 in
theorem ok_spec_l05Reason  (a0 : List impl_Definition) (a1 : impl_Definition) (a2 : Int) (r : Int) (h : spec_l05Reason  a0 a1 a2 = some r) : OkAt Cc 214 [.slice (a0.map e_impl_Definition), .ref (e_impl_Definition a1), .int .i64 a2] (.int .i64 r) [] := by
  refine OkAt.of_wpQ (fx := [0, 1, 2]) Cc_ok Try.func214 rfl rfl s214 (Nat.le_of_ble_eq_true rfl) (fun Q0 r0 n0 => ?_)
  replace r0 : ∀ s, onW (Fw.Ends Cc [0, 1, 2] [.tmp 6] (.int .i64 r) []) s → Q0 .ret s := r0
  replace n0 : ∀ s, onW (Fw.Ends Cc [0, 1, 2] [.tmp 6] (.int .i64 r) []) s → Q0 .normal s := n0
  show wpC Cc c214 Q0 (stA [(0, .slice (a0.map e_impl_Definition)), (1, .ref (e_impl_Definition a1)), (2, .int .i64 a2)])
  refine w_sreg (w_abs [(0, .slice (a0.map e_impl_Definition)), (1, .ref (e_impl_Definition a1)), (2, .int .i64 a2)] (fun P hP => ?_) ?_)
  · simp only [W0.down, simprocAttr, if_true, if_false, beq_self_eq_true, ne_eq, zz0.down]
    (try simp only [WN.down, simprocAttr, if_true, if_false, zz0.down] at hP ⊢)
    exact hP
  obtain ⟨x1, e3, h⟩ := bindE h
  refine w_sreg (w_abs [(0, .slice (a0.map e_impl_Definition)), (1, .ref (e_impl_Definition a1)), (2, .int .i64 a2), (7, .ubox (e_impl_Part x1))] (fun P hP => ?_) ?_)
  · simp only [W0.down, simprocAttr, if_true, if_false, beq_self_eq_true, ne_eq, zz6.down, e3]
    (try simp only [WN.down, simprocAttr, if_true, if_false, zz0.down, e3] at hP ⊢)
    exact hP
  refine w_seq (fun Q4 n4 q4 x4 => ?_)
  obtain ⟨x2, e6, h⟩ := bindE h
  refine w_sreg (w_abs [(0, .slice (a0.map e_impl_Definition)), (1, .ref (e_impl_Definition a1)), (2, .int .i64 a2), (7, .ubox (e_impl_Part x1)), (19, .bool (!x2))] (fun P hP => ?_) ?_)
  · refine w_call0 (ok_spec_l05Kind x1 _ e6) rfl rfl (by simp only [W0.down, simprocAttr, if_true, if_false, beq_self_eq_true, ne_eq, zz0.down, view_s, view_h, viewH_s, share_s, @shares_map _ e_s_impl_Term e_s_impl_Term (fun _ => sh_e_s_impl_Term _)] <;> rfl) rfl (.inr (by rfl)) ?_
    simp only [W0.down, simprocAttr, if_true, if_false, beq_self_eq_true, ne_eq, zz0.down]
    (try simp only [WN.down, simprocAttr, if_true, if_false, zz0.down] at hP ⊢)
    exact hP
  rcases condE h with ⟨b7, h⟩ | ⟨b7, h⟩
  · refine w_ct (congrArg AV.bool b7) ?_
    simp only [b7, Bool.not_true, Bool.not_false]
    refine w_sreg (w_abs [(6, .int .i64 2)] (fun P hP => ?_) ?_)
    · simp only [W0.down, simprocAttr, if_true, if_false, beq_self_eq_true, ne_eq, zz0.down]
      (try simp only [WN.down, simprocAttr, if_true, if_false, zz0.down] at hP ⊢)
      exact hP
    exact w_ret (q4 _ (r0 _ (.inl (w_fin [.int .i64 2] rfl (by cases someE h; rfl) (by decide) outs_nil))))
  · refine w_cf (congrArg AV.bool b7) ?_
    simp only [b7, Bool.not_true, Bool.not_false]
    refine w_skip (n4 _ (.inl ?_))
    refine w_seq (fun Q9 n9 q9 x9 => ?_)
    have K15 : ∀ (v28_15 : Bool), spec_l05Reason_k15 a0 a1 a2 x1 v28_15 = some r → wpC Cc c214_15 Q9 (stA [(0, .slice (a0.map e_impl_Definition)), (1, .ref (e_impl_Definition a1)), (2, .int .i64 a2), (7, .ubox (e_impl_Part x1)), (28, .bool v28_15)]) := by
      intro v28_15 h
      rcases condE h with ⟨b10, h⟩ | ⟨b10, h⟩
      · refine w_ct (congrArg AV.bool b10) ?_
        simp only [b10, Bool.not_true, Bool.not_false]
        refine w_sreg (w_abs [(6, .int .i64 3)] (fun P hP => ?_) ?_)
        · simp only [W0.down, simprocAttr, if_true, if_false, beq_self_eq_true, ne_eq, zz0.down]
          (try simp only [WN.down, simprocAttr, if_true, if_false, zz0.down] at hP ⊢)
          exact hP
        exact w_ret (q9 _ (r0 _ (.inl (w_fin [.int .i64 3] rfl (by cases someE h; rfl) (by decide) outs_nil))))
      · refine w_cf (congrArg AV.bool b10) ?_
        simp only [b10, Bool.not_true, Bool.not_false]
        refine w_skip (n9 _ (.inl ?_))
        refine w_seq (fun Q12 n12 q12 x12 => ?_)
        have K23 : ∀ (v51_23 : Bool), spec_l05Reason_k23 a0 a1 a2 x1 v51_23 = some r → wpC Cc c214_23 Q12 (stA [(0, .slice (a0.map e_impl_Definition)), (1, .ref (e_impl_Definition a1)), (2, .int .i64 a2), (7, .ubox (e_impl_Part x1)), (51, .bool v51_23)]) := by
          intro v51_23 h
          rcases condE h with ⟨b13, h⟩ | ⟨b13, h⟩
          · refine w_ct (congrArg AV.bool b13) ?_
            simp only [b13, Bool.not_true, Bool.not_false]
            refine w_sreg (w_abs [(6, .int .i64 4)] (fun P hP => ?_) ?_)
            · simp only [W0.down, simprocAttr, if_true, if_false, beq_self_eq_true, ne_eq, zz0.down]
              (try simp only [WN.down, simprocAttr, if_true, if_false, zz0.down] at hP ⊢)
              exact hP
            exact w_ret (q12 _ (r0 _ (.inl (w_fin [.int .i64 4] rfl (by cases someE h; rfl) (by decide) outs_nil))))
          · refine w_cf (congrArg AV.bool b13) ?_
            simp only [b13, Bool.not_true, Bool.not_false]
            refine w_skip (n12 _ (.inl ?_))
            refine w_sreg (w_abs [(0, .slice (a0.map e_impl_Definition)), (1, .ref (e_impl_Definition a1)), (2, .int .i64 a2), (7, .ubox (e_impl_Part x1)), (8, .int .i64 (x1.Arguments.length : Int))] (fun P hP => ?_) ?_)
            · simp only [W0.down, simprocAttr, if_true, if_false, beq_self_eq_true, ne_eq, zz17.down]
              (try simp only [WN.down, simprocAttr, if_true, if_false, zz0.down] at hP ⊢)
              exact hP
            have K65 : spec_l05Reason_k65 a1 a2 x1  = some r → wpC Cc c214_65 Q0 (stA [(1, .ref (e_impl_Definition a1)), (2, .int .i64 a2), (7, .ubox (e_impl_Part x1)), (8, .int .i64 (x1.Arguments.length : Int))]) := by
              intro h
              refine w_seq (fun Q17 n17 q17 x17 => ?_)
              have K68 : ∀ (v102_68 : Bool), spec_l05Reason_k68 a1 a2 x1 v102_68 = some r → wpC Cc c214_68 Q17 (stA [(1, .ref (e_impl_Definition a1)), (2, .int .i64 a2), (7, .ubox (e_impl_Part x1)), (8, .int .i64 (x1.Arguments.length : Int)), (102, .bool v102_68)]) := by
                intro v102_68 h
                rcases condE h with ⟨b18, h⟩ | ⟨b18, h⟩
                · refine w_ct (congrArg AV.bool b18) ?_
                  simp only [b18, Bool.not_true, Bool.not_false]
                  refine w_sreg (w_abs [(6, .int .i64 6)] (fun P hP => ?_) ?_)
                  · simp only [W0.down, simprocAttr, if_true, if_false, beq_self_eq_true, ne_eq, zz0.down]
                    (try simp only [WN.down, simprocAttr, if_true, if_false, zz0.down] at hP ⊢)
                    exact hP
                  exact w_ret (q17 _ (r0 _ (.inl (w_fin [.int .i64 6] rfl (by cases someE h; rfl) (by decide) outs_nil))))
                · refine w_cf (congrArg AV.bool b18) ?_
                  simp only [b18, Bool.not_true, Bool.not_false]
                  refine w_skip (n17 _ (.inl ?_))
                  obtain ⟨x3, e21, h⟩ := bindE h
                  refine w_sreg (w_abs [(7, .ubox (e_impl_Part x1)), (8, .int .i64 (x1.Arguments.length : Int)), (9, .int .i64 x3)] (fun P hP => ?_) ?_)
                  · simp only [W0.down, simprocAttr, if_true, if_false, beq_self_eq_true, ne_eq, zz0.down]
                    refine w_call0 (ok_spec_l05Scope a1 a2 _ e21) rfl rfl rfl rfl (.inl (by rfl)) ?_
                    simp only [W0.down, simprocAttr, if_true, if_false, beq_self_eq_true, ne_eq, zz0.down]
                    (try simp only [WN.down, simprocAttr, if_true, if_false, zz0.down] at hP ⊢)
                    exact hP
                  refine w_seq (fun Q22 n22 q22 x22 => ?_)
                  refine w_sreg (w_abs [(7, .ubox (e_impl_Part x1)), (8, .int .i64 (x1.Arguments.length : Int)), (9, .int .i64 x3), (112, .bool ((x1.Kind == 4) && (decide (6 ≤ x3))))] (fun P hP => ?_) ?_)
                  · rcases Bool.eq_false_or_eq_true (x1.Kind == 4) with s24 | s24
                    · simp only [W0.down, simprocAttr, if_true, if_false, beq_self_eq_true, ne_eq, zz9.down, s24]
                      (try simp only [WN.down, simprocAttr, if_true, if_false, zz1.down, s24] at hP ⊢)
                      exact hP
                    · simp only [W0.down, simprocAttr, if_true, if_false, beq_self_eq_true, ne_eq, zz9.down, s24]
                      (try simp only [WN.down, simprocAttr, if_true, if_false, zz1.down, s24] at hP ⊢)
                      exact hP
                  rcases condE h with ⟨b25, h⟩ | ⟨b25, h⟩
                  · refine w_ct (congrArg AV.bool b25) ?_
                    simp only [b25, Bool.not_true, Bool.not_false]
                    refine w_sreg (w_abs [(6, .int .i64 7)] (fun P hP => ?_) ?_)
                    · simp only [W0.down, simprocAttr, if_true, if_false, beq_self_eq_true, ne_eq, zz1.down]
                      (try simp only [WN.down, simprocAttr, if_true, if_false, zz1.down] at hP ⊢)
                      exact hP
                    exact w_ret (q22 _ (r0 _ (.inl (w_fin [.int .i64 7] rfl (by cases someE h; rfl) (by decide) outs_nil))))
                  · refine w_cf (congrArg AV.bool b25) ?_
                    simp only [b25, Bool.not_true, Bool.not_false]
                    refine w_skip (n22 _ (.inl ?_))
                    refine w_seq (fun Q27 n27 q27 x27 => ?_)
                    refine w_sreg (w_abs [(7, .ubox (e_impl_Part x1)), (8, .int .i64 (x1.Arguments.length : Int)), (9, .int .i64 x3), (10, .int .i64 0)] (fun P hP => ?_) ?_)
                    · simp only [W0.down, simprocAttr, if_true, if_false, beq_self_eq_true, ne_eq, zz1.down]
                      (try simp only [WN.down, simprocAttr, if_true, if_false, zz1.down] at hP ⊢)
                      exact hP
                    refine w_blk (fun Q29 n29 q29 b29 x29 => ?_)
                    have L87 : ∀ (n : Nat) (v9_87 : Int) (v10_87 : Int), spec_l05Reason_l87 x1 n v9_87 v10_87 = some r → lpC Cc c214_88 Q29 (stA [(7, .ubox (e_impl_Part x1)), (8, .int .i64 (x1.Arguments.length : Int)), (9, .int .i64 v9_87), (10, .int .i64 v10_87)]) := by
                      intro m87
                      induction m87 with
                      | zero => intro v9_87 v10_87 h; cases (show none = some r from h)
                      | succ m87 ih87 =>
                        intro v9_87 v10_87 h
                        replace h : spec_l05Reason_b87 (spec_l05Reason_l87 x1 m87) x1 v9_87 v10_87 = some r := h
                        refine lpC_step (fun Q30 n30 q30 x30 => ?_)
                        refine w_seq (fun Q31 n31 q31 x31 => ?_)
                        refine w_sreg (w_abs [(7, .ubox (e_impl_Part x1)), (8, .int .i64 (x1.Arguments.length : Int)), (9, .int .i64 v9_87), (10, .int .i64 v10_87), (115, .bool (decide (v10_87 < (x1.Arguments.length : Int))))] (fun P hP => ?_) ?_)
                        · simp only [W0.down, simprocAttr, if_true, if_false, beq_self_eq_true, ne_eq, zz1.down]
                          (try simp only [WN.down, simprocAttr, if_true, if_false, zz1.down] at hP ⊢)
                          exact hP
                        rcases condE h with ⟨b33, h⟩ | ⟨b33, h⟩
                        · refine w_ct (congrArg AV.bool b33) ?_
                          simp only [b33, Bool.not_true, Bool.not_false]
                          refine w_skip (n31 _ (.inl ?_))
                          refine w_seq (fun Q34 n34 q34 x34 => ?_)
                          refine w_blk (fun Q35 n35 q35 b35 x35 => ?_)
                          obtain ⟨x4, e37, h⟩ := bindE h
                          obtain ⟨x5, e38, h⟩ := bindE h
                          refine w_sreg (w_abs [(7, .ubox (e_impl_Part x1)), (8, .int .i64 (x1.Arguments.length : Int)), (9, .int .i64 v9_87), (10, .int .i64 v10_87), (125, .bool (!x5))] (fun P hP => ?_) ?_)
                          · simp only [W0.down, simprocAttr, if_true, if_false, beq_self_eq_true, ne_eq, zz9.down, e37]
                            refine w_call0 (ok_spec_l03Is x4 v9_87 15 _ e38) rfl rfl rfl rfl (.inl (by rfl)) ?_
                            simp only [W0.down, simprocAttr, if_true, if_false, beq_self_eq_true, ne_eq, zz9.down, e37]
                            (try simp only [WN.down, simprocAttr, if_true, if_false, zz1.down, e37] at hP ⊢)
                            exact hP
                          rcases condE h with ⟨b39, h⟩ | ⟨b39, h⟩
                          · refine w_ct (congrArg AV.bool b39) ?_
                            simp only [b39, Bool.not_true, Bool.not_false]
                            refine w_sreg (w_abs [(6, .int .i64 8)] (fun P hP => ?_) ?_)
                            · simp only [W0.down, simprocAttr, if_true, if_false, beq_self_eq_true, ne_eq, zz1.down]
                              (try simp only [WN.down, simprocAttr, if_true, if_false, zz1.down] at hP ⊢)
                              exact hP
                            exact w_ret (q35 _ (q34 _ (q30 _ (q29 _ (q27 _ (r0 _ (.inl (w_fin [.int .i64 8] rfl (by cases someE h; rfl) (by decide) outs_nil))))))))
                          · refine w_cf (congrArg AV.bool b39) ?_
                            simp only [b39, Bool.not_true, Bool.not_false]
                            refine w_skip (n35 _ (n34 _ (.inl ?_)))
                            refine w_reg (w_abs [(7, .ubox (e_impl_Part x1)), (8, .int .i64 (x1.Arguments.length : Int)), (9, .int .i64 v9_87), (10, .int .i64 (IntKind.i64.wrap (v10_87 + 1)))] (fun P hP => ?_) ?_)
                            · simp only [W0.down, simprocAttr, if_true, if_false, beq_self_eq_true, ne_eq, zz1.down]
                              (try simp only [WN.down, simprocAttr, if_true, if_false, zz1.down] at hP ⊢)
                              exact hP
                            exact n30 _ (.inr ⟨_, weak_eq rfl, ih87 v9_87 (IntKind.i64.wrap (v10_87 + 1)) h⟩)
                        · refine w_cf (congrArg AV.bool b33) ?_
                          simp only [b33, Bool.not_true, Bool.not_false]
                          refine w_ex (x31 1 _ (x30 1 _ (b29 _ (n27 _ (.inl ?_)))))
                          refine w_sreg (w_abs [(6, .int .i64 0)] (fun P hP => ?_) ?_)
                          · simp only [W0.down, simprocAttr, if_true, if_false, beq_self_eq_true, ne_eq, zz1.down]
                            (try simp only [WN.down, simprocAttr, if_true, if_false, zz1.down] at hP ⊢)
                            exact hP
                          exact w_ret (r0 _ (.inl (w_fin [.int .i64 0] rfl (by cases someE h; rfl) (by decide) outs_nil)))
                    obtain ⟨n, h⟩ := limE h
                    exact w_loop (.inr ⟨_, weak_eq rfl, L87 n x3 0 h⟩)
              rcases condE h with ⟨b44, h⟩ | ⟨b44, h⟩
              · rcases condE h with ⟨b45, h⟩ | ⟨b45, h⟩
                · refine w_sregW (w_abs (K := onW _) [(1, .ref (e_impl_Definition a1)), (2, .int .i64 a2), (7, .ubox (e_impl_Part x1)), (8, .int .i64 (x1.Arguments.length : Int)), (102, .bool true)] (fun P hP => ?_) ?_)
                  · simp only [W0.down, simprocAttr, if_true, if_false, beq_self_eq_true, ne_eq, zz6.down, b44, b45]
                    (try simp only [WN.down, simprocAttr, if_true, if_false, zz0.down, b44, b45] at hP ⊢)
                    exact hP
                  exact .inr ⟨_, weak_eq rfl, K68 true h⟩
                · obtain ⟨x6, e46, h⟩ := bindE h
                  refine w_sregW (w_abs (K := onW _) [(1, .ref (e_impl_Definition a1)), (2, .int .i64 a2), (7, .ubox (e_impl_Part x1)), (8, .int .i64 (x1.Arguments.length : Int)), (102, .bool (x6.Kind != 1))] (fun P hP => ?_) ?_)
                  · simp only [W0.down, simprocAttr, if_true, if_false, beq_self_eq_true, ne_eq, zz6.down, b44, b45, e46]
                    (try simp only [WN.down, simprocAttr, if_true, if_false, zz0.down, b44, b45, e46] at hP ⊢)
                    exact hP
                  exact .inr ⟨_, weak_eq rfl, K68 (x6.Kind != 1) h⟩
              · refine w_sregW (w_abs (K := onW _) [(1, .ref (e_impl_Definition a1)), (2, .int .i64 a2), (7, .ubox (e_impl_Part x1)), (8, .int .i64 (x1.Arguments.length : Int)), (102, .bool false)] (fun P hP => ?_) ?_)
                · simp only [W0.down, simprocAttr, if_true, if_false, beq_self_eq_true, ne_eq, zz6.down, b44]
                  (try simp only [WN.down, simprocAttr, if_true, if_false, zz0.down, b44] at hP ⊢)
                  exact hP
                exact .inr ⟨_, weak_eq rfl, K68 false h⟩
            refine w_seq (fun Q16 n16 q16 x16 => ?_)
            refine w_sreg (w_abs [(0, .slice (a0.map e_impl_Definition)), (1, .ref (e_impl_Definition a1)), (2, .int .i64 a2), (7, .ubox (e_impl_Part x1)), (8, .int .i64 (x1.Arguments.length : Int)), (56, .int .i64 x1.Kind)] (fun P hP => ?_) ?_)
            · simp only [W0.down, simprocAttr, if_true, if_false, beq_self_eq_true, ne_eq, zz17.down]
              (try simp only [WN.down, simprocAttr, if_true, if_false, zz0.down] at hP ⊢)
              exact hP
            refine w_blk (fun Q48 n48 q48 b48 x48 => ?_)
            refine w_sreg (w_abs [(0, .slice (a0.map e_impl_Definition)), (1, .ref (e_impl_Definition a1)), (2, .int .i64 a2), (7, .ubox (e_impl_Part x1)), (8, .int .i64 (x1.Arguments.length : Int)), (56, .int .i64 x1.Kind), (57, .bool (x1.Kind == 1))] (fun P hP => ?_) ?_)
            · simp only [W0.down, simprocAttr, if_true, if_false, beq_self_eq_true, ne_eq, zz0.down]
              (try simp only [WN.down, simprocAttr, if_true, if_false, zz0.down] at hP ⊢)
              exact hP
            rcases condE h with ⟨b50, h⟩ | ⟨b50, h⟩
            · refine w_ct (congrArg AV.bool b50) ?_
              simp only [b50, Bool.not_true, Bool.not_false]
              refine w_sreg (w_abs [(1, .ref (e_impl_Definition a1)), (2, .int .i64 a2), (7, .ubox (e_impl_Part x1)), (8, .int .i64 (x1.Arguments.length : Int)), (69, .bool ((decide (2 < (x1.Arguments.length : Int))) || ((decide (0 < (x1.Arguments.length : Int))) && (x1.Name == ([116, 97, 117] : List UInt8)))))] (fun P hP => ?_) ?_)
              · (rcases Bool.eq_false_or_eq_true (decide (2 < (x1.Arguments.length : Int))) with s52 | s52) <;> (rcases Bool.eq_false_or_eq_true (decide (0 < (x1.Arguments.length : Int))) with s53 | s53) <;>
                  (simp only [W0.down, simprocAttr, if_true, if_false, beq_self_eq_true, ne_eq, zz17.down, s52, s53]
                   (try simp only [WN.down, simprocAttr, if_true, if_false, zz0.down, s52, s53] at hP ⊢)
                   exact hP)
              rcases condE h with ⟨b54, h⟩ | ⟨b54, h⟩
              · refine w_ct (congrArg AV.bool b54) ?_
                simp only [b54, Bool.not_true, Bool.not_false]
                refine w_sreg (w_abs [(6, .int .i64 5)] (fun P hP => ?_) ?_)
                · simp only [W0.down, simprocAttr, if_true, if_false, beq_self_eq_true, ne_eq, zz0.down]
                  (try simp only [WN.down, simprocAttr, if_true, if_false, zz0.down] at hP ⊢)
                  exact hP
                exact w_ret (q48 _ (q16 _ (r0 _ (.inl (w_fin [.int .i64 5] rfl (by cases someE h; rfl) (by decide) outs_nil)))))
              · refine w_cf (congrArg AV.bool b54) ?_
                simp only [b54, Bool.not_true, Bool.not_false]
                exact w_skip (n48 _ (n16 _ (.inr ⟨_, weak_eq rfl, K65 h⟩)))
            · refine w_cf (congrArg AV.bool b50) ?_
              simp only [b50, Bool.not_true, Bool.not_false]
              refine w_sreg (w_abs [(0, .slice (a0.map e_impl_Definition)), (1, .ref (e_impl_Definition a1)), (2, .int .i64 a2), (7, .ubox (e_impl_Part x1)), (8, .int .i64 (x1.Arguments.length : Int)), (56, .int .i64 x1.Kind), (70, .bool (x1.Kind == 3))] (fun P hP => ?_) ?_)
              · simp only [W0.down, simprocAttr, if_true, if_false, beq_self_eq_true, ne_eq, zz0.down]
                (try simp only [WN.down, simprocAttr, if_true, if_false, zz0.down] at hP ⊢)
                exact hP
              rcases condE h with ⟨b57, h⟩ | ⟨b57, h⟩
              · refine w_ct (congrArg AV.bool b57) ?_
                simp only [b57, Bool.not_true, Bool.not_false]
                refine w_sreg (w_abs [(1, .ref (e_impl_Definition a1)), (2, .int .i64 a2), (7, .ubox (e_impl_Part x1)), (8, .int .i64 (x1.Arguments.length : Int)), (73, .bool ((x1.Arguments.length : Int) != 1))] (fun P hP => ?_) ?_)
                · simp only [W0.down, simprocAttr, if_true, if_false, beq_self_eq_true, ne_eq, zz0.down]
                  (try simp only [WN.down, simprocAttr, if_true, if_false, zz0.down] at hP ⊢)
                  exact hP
                rcases condE h with ⟨b59, h⟩ | ⟨b59, h⟩
                · refine w_ct (congrArg AV.bool b59) ?_
                  simp only [b59, Bool.not_true, Bool.not_false]
                  refine w_sreg (w_abs [(6, .int .i64 5)] (fun P hP => ?_) ?_)
                  · simp only [W0.down, simprocAttr, if_true, if_false, beq_self_eq_true, ne_eq, zz0.down]
                    (try simp only [WN.down, simprocAttr, if_true, if_false, zz0.down] at hP ⊢)
                    exact hP
                  exact w_ret (q48 _ (q16 _ (r0 _ (.inl (w_fin [.int .i64 5] rfl (by cases someE h; rfl) (by decide) outs_nil)))))
                · refine w_cf (congrArg AV.bool b59) ?_
                  simp only [b59, Bool.not_true, Bool.not_false]
                  exact w_skip (n48 _ (n16 _ (.inr ⟨_, weak_eq rfl, K65 h⟩)))
              · refine w_cf (congrArg AV.bool b57) ?_
                simp only [b57, Bool.not_true, Bool.not_false]
                refine w_sreg (w_abs [(0, .slice (a0.map e_impl_Definition)), (1, .ref (e_impl_Definition a1)), (2, .int .i64 a2), (7, .ubox (e_impl_Part x1)), (8, .int .i64 (x1.Arguments.length : Int)), (74, .bool (x1.Kind == 5))] (fun P hP => ?_) ?_)
                · simp only [W0.down, simprocAttr, if_true, if_false, beq_self_eq_true, ne_eq, zz0.down]
                  (try simp only [WN.down, simprocAttr, if_true, if_false, zz0.down] at hP ⊢)
                  exact hP
                rcases condE h with ⟨b62, h⟩ | ⟨b62, h⟩
                · refine w_ct (congrArg AV.bool b62) ?_
                  simp only [b62, Bool.not_true, Bool.not_false]
                  obtain ⟨x7, e64, h⟩ := bindE h
                  refine w_sreg (w_abs [(1, .ref (e_impl_Definition a1)), (2, .int .i64 a2), (7, .ubox (e_impl_Part x1)), (8, .int .i64 (x1.Arguments.length : Int)), (83, .bool ((x1.Arguments.length : Int) != x7.Parameters))] (fun P hP => ?_) ?_)
                  · simp only [W0.down, simprocAttr, if_true, if_false, beq_self_eq_true, ne_eq, zz2.down, e64]
                    (try simp only [WN.down, simprocAttr, if_true, if_false, zz0.down, e64] at hP ⊢)
                    exact hP
                  rcases condE h with ⟨b65, h⟩ | ⟨b65, h⟩
                  · refine w_ct (congrArg AV.bool b65) ?_
                    simp only [b65, Bool.not_true, Bool.not_false]
                    refine w_sreg (w_abs [(6, .int .i64 5)] (fun P hP => ?_) ?_)
                    · simp only [W0.down, simprocAttr, if_true, if_false, beq_self_eq_true, ne_eq, zz0.down]
                      (try simp only [WN.down, simprocAttr, if_true, if_false, zz0.down] at hP ⊢)
                      exact hP
                    exact w_ret (q48 _ (q16 _ (r0 _ (.inl (w_fin [.int .i64 5] rfl (by cases someE h; rfl) (by decide) outs_nil)))))
                  · refine w_cf (congrArg AV.bool b65) ?_
                    simp only [b65, Bool.not_true, Bool.not_false]
                    exact w_skip (n48 _ (n16 _ (.inr ⟨_, weak_eq rfl, K65 h⟩)))
                · refine w_cf (congrArg AV.bool b62) ?_
                  simp only [b62, Bool.not_true, Bool.not_false]
                  exact w_skip (n48 _ (n16 _ (.inr ⟨_, weak_eq rfl, K65 h⟩)))
        rcases condE h with ⟨b68, h⟩ | ⟨b68, h⟩
        · obtain ⟨x8, e69, h⟩ := bindE h
          rcases condE h with ⟨b70, h⟩ | ⟨b70, h⟩
          · refine w_sregW (w_abs (K := onW _) [(0, .slice (a0.map e_impl_Definition)), (1, .ref (e_impl_Definition a1)), (2, .int .i64 a2), (7, .ubox (e_impl_Part x1)), (51, .bool true)] (fun P hP => ?_) ?_)
            · simp only [W0.down, simprocAttr, if_true, if_false, beq_self_eq_true, ne_eq, zz2.down, b68, b70]
              refine w_callg0 (ok_spec_l00In x1.Number 1 7 _ e69) rfl rfl rfl rfl (.inl (by rfl)) ?_
              simp only [W0.down, simprocAttr, if_true, if_false, beq_self_eq_true, ne_eq, zz2.down, b68, b70]
              (try simp only [WN.down, simprocAttr, if_true, if_false, zz0.down, b68, b70] at hP ⊢)
              exact hP
            exact .inr ⟨_, weak_eq rfl, K23 true h⟩
          · rcases condE h with ⟨b71, h⟩ | ⟨b71, h⟩
            · obtain ⟨x9, e72, h⟩ := bindE h
              refine w_sregW (w_abs (K := onW _) [(0, .slice (a0.map e_impl_Definition)), (1, .ref (e_impl_Definition a1)), (2, .int .i64 a2), (7, .ubox (e_impl_Part x1)), (51, .bool (!x9))] (fun P hP => ?_) ?_)
              · simp only [W0.down, simprocAttr, if_true, if_false, beq_self_eq_true, ne_eq, zz2.down, b68, b70, b71]
                refine w_callg0 (ok_spec_l00In x1.Number 1 7 _ e69) rfl rfl rfl rfl (.inl (by rfl)) ?_
                simp only [W0.down, simprocAttr, if_true, if_false, beq_self_eq_true, ne_eq, zz2.down, b68, b70, b71]
                refine w_callg0 (ok_spec_l00In x1.Number 0 (IntKind.i64.wrap ((a0.length : Int) - 1)) _ e72) rfl rfl rfl rfl (.inl (by rfl)) ?_
                simp only [W0.down, simprocAttr, if_true, if_false, beq_self_eq_true, ne_eq, zz2.down, b68, b70, b71]
                (try simp only [WN.down, simprocAttr, if_true, if_false, zz0.down, b68, b70, b71] at hP ⊢)
                exact hP
              exact .inr ⟨_, weak_eq rfl, K23 (!x9) h⟩
            · refine w_sregW (w_abs (K := onW _) [(0, .slice (a0.map e_impl_Definition)), (1, .ref (e_impl_Definition a1)), (2, .int .i64 a2), (7, .ubox (e_impl_Part x1)), (51, .bool false)] (fun P hP => ?_) ?_)
              · simp only [W0.down, simprocAttr, if_true, if_false, beq_self_eq_true, ne_eq, zz2.down, b68, b70, b71]
                refine w_callg0 (ok_spec_l00In x1.Number 1 7 _ e69) rfl rfl rfl rfl (.inl (by rfl)) ?_
                simp only [W0.down, simprocAttr, if_true, if_false, beq_self_eq_true, ne_eq, zz2.down, b68, b70, b71]
                (try simp only [WN.down, simprocAttr, if_true, if_false, zz0.down, b68, b70, b71] at hP ⊢)
                exact hP
              exact .inr ⟨_, weak_eq rfl, K23 false h⟩
        · rcases condE h with ⟨b73, h⟩ | ⟨b73, h⟩
          · obtain ⟨x10, e74, h⟩ := bindE h
            refine w_sregW (w_abs (K := onW _) [(0, .slice (a0.map e_impl_Definition)), (1, .ref (e_impl_Definition a1)), (2, .int .i64 a2), (7, .ubox (e_impl_Part x1)), (51, .bool (!x10))] (fun P hP => ?_) ?_)
            · simp only [W0.down, simprocAttr, if_true, if_false, beq_self_eq_true, ne_eq, zz2.down, b68, b73]
              refine w_callg0 (ok_spec_l00In x1.Number 0 (IntKind.i64.wrap ((a0.length : Int) - 1)) _ e74) rfl rfl rfl rfl (.inl (by rfl)) ?_
              simp only [W0.down, simprocAttr, if_true, if_false, beq_self_eq_true, ne_eq, zz2.down, b68, b73]
              (try simp only [WN.down, simprocAttr, if_true, if_false, zz0.down, b68, b73] at hP ⊢)
              exact hP
            exact .inr ⟨_, weak_eq rfl, K23 (!x10) h⟩
          · refine w_sregW (w_abs (K := onW _) [(0, .slice (a0.map e_impl_Definition)), (1, .ref (e_impl_Definition a1)), (2, .int .i64 a2), (7, .ubox (e_impl_Part x1)), (51, .bool false)] (fun P hP => ?_) ?_)
            · simp only [W0.down, simprocAttr, if_true, if_false, beq_self_eq_true, ne_eq, zz2.down, b68, b73]
              (try simp only [WN.down, simprocAttr, if_true, if_false, zz0.down, b68, b73] at hP ⊢)
              exact hP
            exact .inr ⟨_, weak_eq rfl, K23 false h⟩
    rcases condE h with ⟨b76, h⟩ | ⟨b76, h⟩
    · obtain ⟨x11, e77, h⟩ := bindE h
      refine w_sregW (w_abs (K := onW _) [(0, .slice (a0.map e_impl_Definition)), (1, .ref (e_impl_Definition a1)), (2, .int .i64 a2), (7, .ubox (e_impl_Part x1)), (28, .bool (!x11))] (fun P hP => ?_) ?_)
      · simp only [W0.down, simprocAttr, if_true, if_false, beq_self_eq_true, ne_eq, zz17.down, b76]
        refine w_callg0 (ok_spec_l01Name x1.Name _ e77) rfl rfl rfl rfl (.inl (by rfl)) ?_
        simp only [W0.down, simprocAttr, if_true, if_false, beq_self_eq_true, ne_eq, zz17.down, b76]
        (try simp only [WN.down, simprocAttr, if_true, if_false, zz0.down, b76] at hP ⊢)
        exact hP
      exact .inr ⟨_, weak_eq rfl, K15 (!x11) h⟩
    · refine w_sregW (w_abs (K := onW _) [(0, .slice (a0.map e_impl_Definition)), (1, .ref (e_impl_Definition a1)), (2, .int .i64 a2), (7, .ubox (e_impl_Part x1)), (28, .bool false)] (fun P hP => ?_) ?_)
      · simp only [W0.down, simprocAttr, if_true, if_false, beq_self_eq_true, ne_eq, zz17.down, b76]
        (try simp only [WN.down, simprocAttr, if_true, if_false, zz0.down, b76] at hP ⊢)
        exact hP
      exact .inr ⟨_, weak_eq rfl, K15 false h⟩

theorem ok_spec_l05Body  (a0 : List impl_Definition) (a1 : impl_Definition) (r : Int × Int) (h : spec_l05Body  a0 a1 = some r) : OkAt Cc 131 [.slice (a0.map e_impl_Definition), .ref (e_impl_Definition a1)] (.tuple [.int .i64 r.1, .int .i64 r.2]) [] := by
  refine OkAt.of_wpQ (fx := [0, 1]) Cc_ok Try.func131 rfl rfl s131 (Nat.le_of_ble_eq_true rfl) (fun Q0 r0 n0 => ?_)
  replace r0 : ∀ s, onW (Fw.Ends Cc [0, 1] [.tmp 4, .tmp 5] (.tuple [.int .i64 r.1, .int .i64 r.2]) []) s → Q0 .ret s := r0
  replace n0 : ∀ s, onW (Fw.Ends Cc [0, 1] [.tmp 4, .tmp 5] (.tuple [.int .i64 r.1, .int .i64 r.2]) []) s → Q0 .normal s := n0
  show wpC Cc c131 Q0 (stA [(0, .slice (a0.map e_impl_Definition)), (1, .ref (e_impl_Definition a1))])
  refine w_sreg (w_abs [(0, .slice (a0.map e_impl_Definition)), (1, .ref (e_impl_Definition a1))] (fun P hP => ?_) ?_)
  · simp only [W0.down, simprocAttr, if_true, if_false, beq_self_eq_true, ne_eq, zz0.down]
    (try simp only [WN.down, simprocAttr, if_true, if_false, zz0.down] at hP ⊢)
    exact hP
  refine w_seq (fun Q2 n2 q2 x2 => ?_)
  obtain ⟨x1, e4, h⟩ := bindE h
  refine w_sreg (w_abs [(0, .slice (a0.map e_impl_Definition)), (1, .ref (e_impl_Definition a1)), (13, .bool (!x1))] (fun P hP => ?_) ?_)
  · simp only [W0.down, simprocAttr, if_true, if_false, beq_self_eq_true, ne_eq, zz6.down]
    refine w_call0 (ok_spec_l05Shape a1.Body _ e4) rfl rfl rfl rfl (.inl (by rfl)) ?_
    simp only [W0.down, simprocAttr, if_true, if_false, beq_self_eq_true, ne_eq, zz6.down]
    (try simp only [WN.down, simprocAttr, if_true, if_false, zz0.down] at hP ⊢)
    exact hP
  rcases condE h with ⟨b5, h⟩ | ⟨b5, h⟩
  · refine w_ct (congrArg AV.bool b5) ?_
    simp only [b5, Bool.not_true, Bool.not_false]
    refine w_sreg (w_abs [(4, .int .i64 0), (5, .int .i64 1)] (fun P hP => ?_) ?_)
    · simp only [W0.down, simprocAttr, if_true, if_false, beq_self_eq_true, ne_eq, zz0.down]
      (try simp only [WN.down, simprocAttr, if_true, if_false, zz0.down] at hP ⊢)
      exact hP
    exact w_ret (q2 _ (r0 _ (.inl (w_fin [.int .i64 0, .int .i64 1] rfl (by cases someE h; rfl) (by decide) outs_nil))))
  · refine w_cf (congrArg AV.bool b5) ?_
    simp only [b5, Bool.not_true, Bool.not_false]
    refine w_skip (n2 _ (.inl ?_))
    refine w_seq (fun Q7 n7 q7 x7 => ?_)
    refine w_sreg (w_abs [(0, .slice (a0.map e_impl_Definition)), (1, .ref (e_impl_Definition a1)), (6, .int .i64 0)] (fun P hP => ?_) ?_)
    · simp only [W0.down, simprocAttr, if_true, if_false, beq_self_eq_true, ne_eq, zz0.down]
      (try simp only [WN.down, simprocAttr, if_true, if_false, zz0.down] at hP ⊢)
      exact hP
    refine w_blk (fun Q9 n9 q9 b9 x9 => ?_)
    have L14 : ∀ (n : Nat) (v6_14 : Int), spec_l05Body_l14 a0 a1 n v6_14 = some r → lpC Cc c131_15 Q9 (stA [(0, .slice (a0.map e_impl_Definition)), (1, .ref (e_impl_Definition a1)), (6, .int .i64 v6_14)]) := by
      intro m14
      induction m14 with
      | zero => intro v6_14 h; cases (show none = some r from h)
      | succ m14 ih14 =>
        intro v6_14 h
        replace h : spec_l05Body_b14 (spec_l05Body_l14 a0 a1 m14) a0 a1 v6_14 = some r := h
        refine lpC_step (fun Q10 n10 q10 x10 => ?_)
        refine w_seq (fun Q11 n11 q11 x11 => ?_)
        refine w_sreg (w_abs [(0, .slice (a0.map e_impl_Definition)), (1, .ref (e_impl_Definition a1)), (6, .int .i64 v6_14), (20, .bool (decide (v6_14 < (a1.Body.length : Int))))] (fun P hP => ?_) ?_)
        · simp only [W0.down, simprocAttr, if_true, if_false, beq_self_eq_true, ne_eq, zz6.down]
          (try simp only [WN.down, simprocAttr, if_true, if_false, zz0.down] at hP ⊢)
          exact hP
        rcases condE h with ⟨b13, h⟩ | ⟨b13, h⟩
        · refine w_ct (congrArg AV.bool b13) ?_
          simp only [b13, Bool.not_true, Bool.not_false]
          refine w_skip (n11 _ (.inl ?_))
          refine w_seq (fun Q14 n14 q14 x14 => ?_)
          refine w_blk (fun Q15 n15 q15 b15 x15 => ?_)
          obtain ⟨x2, e17, h⟩ := bindE h
          refine w_sreg (w_abs [(0, .slice (a0.map e_impl_Definition)), (1, .ref (e_impl_Definition a1)), (6, .int .i64 v6_14), (7, .int .i64 x2)] (fun P hP => ?_) ?_)
          · simp only [W0.down, simprocAttr, if_true, if_false, beq_self_eq_true, ne_eq, zz0.down]
            refine w_call0 (ok_spec_l05Reason a0 a1 v6_14 _ e17) rfl rfl rfl rfl (.inl (by rfl)) ?_
            simp only [W0.down, simprocAttr, if_true, if_false, beq_self_eq_true, ne_eq, zz0.down]
            (try simp only [WN.down, simprocAttr, if_true, if_false, zz0.down] at hP ⊢)
            exact hP
          refine w_sreg (w_abs [(0, .slice (a0.map e_impl_Definition)), (1, .ref (e_impl_Definition a1)), (6, .int .i64 v6_14), (7, .int .i64 x2), (28, .bool (decide (0 < x2)))] (fun P hP => ?_) ?_)
          · simp only [W0.down, simprocAttr, if_true, if_false, beq_self_eq_true, ne_eq, zz0.down]
            (try simp only [WN.down, simprocAttr, if_true, if_false, zz0.down] at hP ⊢)
            exact hP
          rcases condE h with ⟨b19, h⟩ | ⟨b19, h⟩
          · refine w_ct (congrArg AV.bool b19) ?_
            simp only [b19, Bool.not_true, Bool.not_false]
            refine w_sreg (w_abs [(4, .int .i64 v6_14), (5, .int .i64 x2)] (fun P hP => ?_) ?_)
            · simp only [W0.down, simprocAttr, if_true, if_false, beq_self_eq_true, ne_eq, zz0.down]
              (try simp only [WN.down, simprocAttr, if_true, if_false, zz0.down] at hP ⊢)
              exact hP
            exact w_ret (q15 _ (q14 _ (q10 _ (q9 _ (q7 _ (r0 _ (.inl (w_fin [.int .i64 v6_14, .int .i64 x2] rfl (by cases someE h; rfl) (by decide) outs_nil))))))))
          · refine w_cf (congrArg AV.bool b19) ?_
            simp only [b19, Bool.not_true, Bool.not_false]
            refine w_skip (n15 _ (n14 _ (.inl ?_)))
            refine w_reg (w_abs [(0, .slice (a0.map e_impl_Definition)), (1, .ref (e_impl_Definition a1)), (6, .int .i64 (IntKind.i64.wrap (v6_14 + 1)))] (fun P hP => ?_) ?_)
            · simp only [W0.down, simprocAttr, if_true, if_false, beq_self_eq_true, ne_eq, zz0.down]
              (try simp only [WN.down, simprocAttr, if_true, if_false, zz0.down] at hP ⊢)
              exact hP
            exact n10 _ (.inr ⟨_, weak_eq rfl, ih14 (IntKind.i64.wrap (v6_14 + 1)) h⟩)
        · refine w_cf (congrArg AV.bool b13) ?_
          simp only [b13, Bool.not_true, Bool.not_false]
          refine w_ex (x11 0 _ (x10 0 _ (b9 _ (n7 _ (.inl ?_)))))
          refine w_sreg (w_abs [(4, .int .i64 0), (5, .int .i64 0)] (fun P hP => ?_) ?_)
          · simp only [W0.down, simprocAttr, if_true, if_false, beq_self_eq_true, ne_eq, zz0.down]
            (try simp only [WN.down, simprocAttr, if_true, if_false, zz0.down] at hP ⊢)
            exact hP
          exact w_ret (r0 _ (.inl (w_fin [.int .i64 0, .int .i64 0] rfl (by cases someE h; rfl) (by decide) outs_nil)))
    obtain ⟨n, h⟩ := limE h
    exact w_loop (.inr ⟨_, weak_eq rfl, L14 n 0 h⟩)

set_option maxHeartbeats 400000 in
theorem ok_spec_l05Defs  (a0 : List impl_Definition) (r : Bool) (h : spec_l05Defs  a0 = some r) : OkAt Cc 137 [.slice (a0.map e_impl_Definition)] (.bool r) [] := by
  refine OkAt.of_wpQ (fx := [0]) Cc_ok Try.func137 rfl rfl s137 (Nat.le_of_ble_eq_true rfl) (fun Q0 r0 n0 => ?_)
  replace r0 : ∀ s, onW (Fw.Ends Cc [0] [.tmp 2] (.bool r) []) s → Q0 .ret s := r0
  replace n0 : ∀ s, onW (Fw.Ends Cc [0] [.tmp 2] (.bool r) []) s → Q0 .normal s := n0
  show wpC Cc c137 Q0 (stA [(0, .slice (a0.map e_impl_Definition))])
  refine w_sreg (w_abs [(0, .slice (a0.map e_impl_Definition))] (fun P hP => ?_) ?_)
  · simp only [W0.down, simprocAttr, if_true, if_false, beq_self_eq_true, ne_eq, zz0.down]
    (try simp only [WN.down, simprocAttr, if_true, if_false, zz0.down] at hP ⊢)
    exact hP
  refine w_seq (fun Q2 n2 q2 x2 => ?_)
  refine w_sreg (w_abs [(0, .slice (a0.map e_impl_Definition)), (15, .bool (((a0.length : Int) == 0) || (decide (4 < (a0.length : Int)))))] (fun P hP => ?_) ?_)
  · rcases Bool.eq_false_or_eq_true ((a0.length : Int) == 0) with s4 | s4
    · simp only [W0.down, simprocAttr, if_true, if_false, beq_self_eq_true, ne_eq, zz2.down, s4]
      (try simp only [WN.down, simprocAttr, if_true, if_false, zz0.down, s4] at hP ⊢)
      exact hP
    · simp only [W0.down, simprocAttr, if_true, if_false, beq_self_eq_true, ne_eq, zz2.down, s4]
      (try simp only [WN.down, simprocAttr, if_true, if_false, zz0.down, s4] at hP ⊢)
      exact hP
  rcases condE h with ⟨b5, h⟩ | ⟨b5, h⟩
  · refine w_ct (congrArg AV.bool b5) ?_
    simp only [b5, Bool.not_true, Bool.not_false]
    refine w_sreg (w_abs [(2, .bool false)] (fun P hP => ?_) ?_)
    · simp only [W0.down, simprocAttr, if_true, if_false, beq_self_eq_true, ne_eq, zz0.down]
      (try simp only [WN.down, simprocAttr, if_true, if_false, zz0.down] at hP ⊢)
      exact hP
    exact w_ret (q2 _ (r0 _ (.inl (w_fin [.bool false] rfl (by cases someE h; rfl) (by decide) outs_nil))))
  · refine w_cf (congrArg AV.bool b5) ?_
    simp only [b5, Bool.not_true, Bool.not_false]
    refine w_skip (n2 _ (.inl ?_))
    refine w_seq (fun Q7 n7 q7 x7 => ?_)
    refine w_sreg (w_abs [(0, .slice (a0.map e_impl_Definition)), (3, .int .i64 0)] (fun P hP => ?_) ?_)
    · simp only [W0.down, simprocAttr, if_true, if_false, beq_self_eq_true, ne_eq, zz0.down]
      (try simp only [WN.down, simprocAttr, if_true, if_false, zz0.down] at hP ⊢)
      exact hP
    refine w_blk (fun Q9 n9 q9 b9 x9 => ?_)
    have L14 : ∀ (n : Nat) (v3_14 : Int), spec_l05Defs_l14 a0 n v3_14 = some r → lpC Cc c137_15 Q9 (stA [(0, .slice (a0.map e_impl_Definition)), (3, .int .i64 v3_14)]) := by
      intro m14
      induction m14 with
      | zero => intro v3_14 h; cases (show none = some r from h)
      | succ m14 ih14 =>
        intro v3_14 h
        replace h : spec_l05Defs_b14 (spec_l05Defs_l14 a0 m14) a0 v3_14 = some r := h
        refine lpC_step (fun Q10 n10 q10 x10 => ?_)
        refine w_seq (fun Q11 n11 q11 x11 => ?_)
        refine w_sreg (w_abs [(0, .slice (a0.map e_impl_Definition)), (3, .int .i64 v3_14), (19, .bool (decide (v3_14 < (a0.length : Int))))] (fun P hP => ?_) ?_)
        · simp only [W0.down, simprocAttr, if_true, if_false, beq_self_eq_true, ne_eq, zz2.down]
          (try simp only [WN.down, simprocAttr, if_true, if_false, zz0.down] at hP ⊢)
          exact hP
        rcases condE h with ⟨b13, h⟩ | ⟨b13, h⟩
        · refine w_ct (congrArg AV.bool b13) ?_
          simp only [b13, Bool.not_true, Bool.not_false]
          refine w_skip (n11 _ (.inl ?_))
          refine w_seq (fun Q14 n14 q14 x14 => ?_)
          refine w_blk (fun Q15 n15 q15 b15 x15 => ?_)
          refine w_seq (fun Q16 n16 q16 x16 => ?_)
          obtain ⟨x1, e18, h⟩ := bindE h
          obtain ⟨x2, e19, h⟩ := bindE h
          rcases condE h with ⟨b20, h⟩ | ⟨b20, h⟩
          · refine w_sreg (w_abs [(0, .slice (a0.map e_impl_Definition)), (3, .int .i64 v3_14), (37, .bool true)] (fun P hP => ?_) ?_)
            · simp only [W0.down, simprocAttr, if_true, if_false, beq_self_eq_true, ne_eq, zz2.down, e18, b20]
              refine w_call0 (ok_spec_l01Name x1.Name _ e19) rfl rfl rfl rfl (.inl (by rfl)) ?_
              simp only [W0.down, simprocAttr, if_true, if_false, beq_self_eq_true, ne_eq, zz2.down, e18, b20]
              (try simp only [WN.down, simprocAttr, if_true, if_false, zz0.down, e18, b20] at hP ⊢)
              exact hP
            refine w_ct rfl ?_
            refine w_sreg (w_abs [(2, .bool false)] (fun P hP => ?_) ?_)
            · simp only [W0.down, simprocAttr, if_true, if_false, beq_self_eq_true, ne_eq, zz0.down]
              (try simp only [WN.down, simprocAttr, if_true, if_false, zz0.down] at hP ⊢)
              exact hP
            exact w_ret (q16 _ (q15 _ (q14 _ (q10 _ (q9 _ (q7 _ (r0 _ (.inl (w_fin [.bool false] rfl (by cases someE h; rfl) (by decide) outs_nil)))))))))
          · obtain ⟨x3, e22, h⟩ := bindE h
            refine w_sreg (w_abs [(0, .slice (a0.map e_impl_Definition)), (3, .int .i64 v3_14), (37, .bool (!x3))] (fun P hP => ?_) ?_)
            · simp only [W0.down, simprocAttr, if_true, if_false, beq_self_eq_true, ne_eq, zz2.down, e18, b20]
              refine w_call0 (ok_spec_l01Name x1.Name _ e19) rfl rfl rfl rfl (.inl (by rfl)) ?_
              simp only [W0.down, simprocAttr, if_true, if_false, beq_self_eq_true, ne_eq, zz2.down, e18, b20]
              refine w_callg0 (ok_spec_l00In x1.Parameters 0 3 _ e22) rfl rfl rfl rfl (.inl (by rfl)) ?_
              simp only [W0.down, simprocAttr, if_true, if_false, beq_self_eq_true, ne_eq, zz2.down, e18, b20]
              (try simp only [WN.down, simprocAttr, if_true, if_false, zz0.down, e18, b20] at hP ⊢)
              exact hP
            rcases condE h with ⟨b23, h⟩ | ⟨b23, h⟩
            · refine w_ct (congrArg AV.bool b23) ?_
              simp only [b23, Bool.not_true, Bool.not_false]
              refine w_sreg (w_abs [(2, .bool false)] (fun P hP => ?_) ?_)
              · simp only [W0.down, simprocAttr, if_true, if_false, beq_self_eq_true, ne_eq, zz0.down]
                (try simp only [WN.down, simprocAttr, if_true, if_false, zz0.down] at hP ⊢)
                exact hP
              exact w_ret (q16 _ (q15 _ (q14 _ (q10 _ (q9 _ (q7 _ (r0 _ (.inl (w_fin [.bool false] rfl (by cases someE h; rfl) (by decide) outs_nil)))))))))
            · refine w_cf (congrArg AV.bool b23) ?_
              simp only [b23, Bool.not_true, Bool.not_false]
              refine w_skip (n16 _ (.inl ?_))
              refine w_sreg (w_abs [(0, .slice (a0.map e_impl_Definition)), (3, .int .i64 v3_14), (4, .int .i64 0)] (fun P hP => ?_) ?_)
              · simp only [W0.down, simprocAttr, if_true, if_false, beq_self_eq_true, ne_eq, zz0.down]
                (try simp only [WN.down, simprocAttr, if_true, if_false, zz0.down] at hP ⊢)
                exact hP
              refine w_blk (fun Q26 n26 q26 b26 x26 => ?_)
              have L34 : ∀ (n : Nat) (v3_34 : Int) (v4_34 : Int), spec_l05Defs_l34 (spec_l05Defs_l14 a0 m14) a0 n v3_34 v4_34 = some r → lpC Cc c137_35 Q26 (stA [(0, .slice (a0.map e_impl_Definition)), (3, .int .i64 v3_34), (4, .int .i64 v4_34)]) := by
                intro m34
                induction m34 with
                | zero => intro v3_34 v4_34 h; cases (show none = some r from h)
                | succ m34 ih34 =>
                  intro v3_34 v4_34 h
                  replace h : spec_l05Defs_b34 (spec_l05Defs_l14 a0 m14) (spec_l05Defs_l34 (spec_l05Defs_l14 a0 m14) a0 m34) a0 v3_34 v4_34 = some r := h
                  refine lpC_step (fun Q27 n27 q27 x27 => ?_)
                  refine w_seq (fun Q28 n28 q28 x28 => ?_)
                  refine w_sreg (w_abs [(0, .slice (a0.map e_impl_Definition)), (3, .int .i64 v3_34), (4, .int .i64 v4_34), (40, .bool (decide (v4_34 < v3_34)))] (fun P hP => ?_) ?_)
                  · simp only [W0.down, simprocAttr, if_true, if_false, beq_self_eq_true, ne_eq, zz0.down]
                    (try simp only [WN.down, simprocAttr, if_true, if_false, zz0.down] at hP ⊢)
                    exact hP
                  rcases condE h with ⟨b30, h⟩ | ⟨b30, h⟩
                  · refine w_ct (congrArg AV.bool b30) ?_
                    simp only [b30, Bool.not_true, Bool.not_false]
                    refine w_skip (n28 _ (.inl ?_))
                    refine w_seq (fun Q31 n31 q31 x31 => ?_)
                    refine w_blk (fun Q32 n32 q32 b32 x32 => ?_)
                    obtain ⟨x4, e34, h⟩ := bindE h
                    obtain ⟨x5, e35, h⟩ := bindE h
                    refine w_sdrw rfl (w_absd [(0, .slice (a0.map e_impl_Definition)), (3, .int .i64 v3_34), (4, .int .i64 v4_34), (53, .bool (x4.Name == x5.Name))] (fun P hP => ?_) ?_)
                    · simp only [W1.down, simprocAttr, if_true, if_false, beq_self_eq_true, ne_eq, zz2.down, e34, e35]
                      refine ⟨by kernel_rfl, ?_⟩
                      (try simp only [WN.down, simprocAttr, if_true, if_false, zz0.down, e34, e35] at hP ⊢)
                      exact hP
                    rcases condE h with ⟨b36, h⟩ | ⟨b36, h⟩
                    · refine w_ct (congrArg AV.bool b36) ?_
                      simp only [b36, Bool.not_true, Bool.not_false]
                      refine w_sreg (w_abs [(2, .bool false)] (fun P hP => ?_) ?_)
                      · simp only [W0.down, simprocAttr, if_true, if_false, beq_self_eq_true, ne_eq, zz0.down]
                        (try simp only [WN.down, simprocAttr, if_true, if_false, zz0.down] at hP ⊢)
                        exact hP
                      exact w_ret (q32 _ (q31 _ (q27 _ (q26 _ (q15 _ (q14 _ (q10 _ (q9 _ (q7 _ (r0 _ (.inl (w_fin [.bool false] rfl (by cases someE h; rfl) (by decide) outs_nil))))))))))))
                    · refine w_cf (congrArg AV.bool b36) ?_
                      simp only [b36, Bool.not_true, Bool.not_false]
                      refine w_skip (n32 _ (n31 _ (.inl ?_)))
                      refine w_reg (w_abs [(0, .slice (a0.map e_impl_Definition)), (3, .int .i64 v3_34), (4, .int .i64 (IntKind.i64.wrap (v4_34 + 1)))] (fun P hP => ?_) ?_)
                      · simp only [W0.down, simprocAttr, if_true, if_false, beq_self_eq_true, ne_eq, zz0.down]
                        (try simp only [WN.down, simprocAttr, if_true, if_false, zz0.down] at hP ⊢)
                        exact hP
                      exact n27 _ (.inr ⟨_, weak_eq rfl, ih34 v3_34 (IntKind.i64.wrap (v4_34 + 1)) h⟩)
                  · refine w_cf (congrArg AV.bool b30) ?_
                    simp only [b30, Bool.not_true, Bool.not_false]
                    refine w_ex (x28 2 _ (x27 2 _ (b26 _ (n15 _ (n14 _ (.inl ?_))))))
                    refine w_reg (w_abs [(0, .slice (a0.map e_impl_Definition)), (3, .int .i64 (IntKind.i64.wrap (v3_34 + 1)))] (fun P hP => ?_) ?_)
                    · simp only [W0.down, simprocAttr, if_true, if_false, beq_self_eq_true, ne_eq, zz0.down]
                      (try simp only [WN.down, simprocAttr, if_true, if_false, zz0.down] at hP ⊢)
                      exact hP
                    exact n10 _ (.inr ⟨_, weak_eq rfl, ih14 (IntKind.i64.wrap (v3_34 + 1)) h⟩)
              obtain ⟨n, h⟩ := limE h
              exact w_loop (.inr ⟨_, weak_eq rfl, L34 n v3_14 0 h⟩)
        · refine w_cf (congrArg AV.bool b13) ?_
          simp only [b13, Bool.not_true, Bool.not_false]
          refine w_ex (x11 0 _ (x10 0 _ (b9 _ (n7 _ (.inl ?_)))))
          refine w_seq (fun Q40 n40 q40 x40 => ?_)
          refine w_sreg (w_abs [(0, .slice (a0.map e_impl_Definition)), (5, .int .i64 0)] (fun P hP => ?_) ?_)
          · simp only [W0.down, simprocAttr, if_true, if_false, beq_self_eq_true, ne_eq, zz0.down]
            (try simp only [WN.down, simprocAttr, if_true, if_false, zz0.down] at hP ⊢)
            exact hP
          refine w_blk (fun Q42 n42 q42 b42 x42 => ?_)
          have L56 : ∀ (n : Nat) (v5_56 : Int), spec_l05Defs_l56 a0 n v5_56 = some r → lpC Cc c137_57 Q42 (stA [(0, .slice (a0.map e_impl_Definition)), (5, .int .i64 v5_56)]) := by
            intro m56
            induction m56 with
            | zero => intro v5_56 h; cases (show none = some r from h)
            | succ m56 ih56 =>
              intro v5_56 h
              replace h : spec_l05Defs_b56 (spec_l05Defs_l56 a0 m56) a0 v5_56 = some r := h
              refine lpC_step (fun Q43 n43 q43 x43 => ?_)
              refine w_seq (fun Q44 n44 q44 x44 => ?_)
              refine w_sreg (w_abs [(0, .slice (a0.map e_impl_Definition)), (5, .int .i64 v5_56), (57, .bool (decide (v5_56 < (a0.length : Int))))] (fun P hP => ?_) ?_)
              · simp only [W0.down, simprocAttr, if_true, if_false, beq_self_eq_true, ne_eq, zz2.down]
                (try simp only [WN.down, simprocAttr, if_true, if_false, zz0.down] at hP ⊢)
                exact hP
              rcases condE h with ⟨b46, h⟩ | ⟨b46, h⟩
              · refine w_ct (congrArg AV.bool b46) ?_
                simp only [b46, Bool.not_true, Bool.not_false]
                refine w_skip (n44 _ (.inl ?_))
                refine w_seq (fun Q47 n47 q47 x47 => ?_)
                refine w_blk (fun Q48 n48 q48 b48 x48 => ?_)
                obtain ⟨x6, e50, h⟩ := bindE h
                obtain ⟨x7, e51, h⟩ := bindE h
                refine w_sreg (w_abs [(0, .slice (a0.map e_impl_Definition)), (5, .int .i64 v5_56), (7, .int .i64 x7.2)] (fun P hP => ?_) ?_)
                · simp only [W0.down, simprocAttr, if_true, if_false, beq_self_eq_true, ne_eq, zz2.down, e50]
                  refine w_call0 (ok_spec_l05Body a0 x6 _ e51) rfl rfl rfl rfl (.inl (by rfl)) ?_
                  simp only [W0.down, simprocAttr, if_true, if_false, beq_self_eq_true, ne_eq, zz2.down, e50]
                  (try simp only [WN.down, simprocAttr, if_true, if_false, zz0.down, e50] at hP ⊢)
                  exact hP
                refine w_sreg (w_abs [(0, .slice (a0.map e_impl_Definition)), (5, .int .i64 v5_56), (69, .bool (decide (0 < x7.2)))] (fun P hP => ?_) ?_)
                · simp only [W0.down, simprocAttr, if_true, if_false, beq_self_eq_true, ne_eq, zz0.down]
                  (try simp only [WN.down, simprocAttr, if_true, if_false, zz0.down] at hP ⊢)
                  exact hP
                rcases condE h with ⟨b53, h⟩ | ⟨b53, h⟩
                · refine w_ct (congrArg AV.bool b53) ?_
                  simp only [b53, Bool.not_true, Bool.not_false]
                  refine w_sreg (w_abs [(2, .bool false)] (fun P hP => ?_) ?_)
                  · simp only [W0.down, simprocAttr, if_true, if_false, beq_self_eq_true, ne_eq, zz0.down]
                    (try simp only [WN.down, simprocAttr, if_true, if_false, zz0.down] at hP ⊢)
                    exact hP
                  exact w_ret (q48 _ (q47 _ (q43 _ (q42 _ (q40 _ (r0 _ (.inl (w_fin [.bool false] rfl (by cases someE h; rfl) (by decide) outs_nil))))))))
                · refine w_cf (congrArg AV.bool b53) ?_
                  simp only [b53, Bool.not_true, Bool.not_false]
                  refine w_skip (n48 _ (n47 _ (.inl ?_)))
                  refine w_reg (w_abs [(0, .slice (a0.map e_impl_Definition)), (5, .int .i64 (IntKind.i64.wrap (v5_56 + 1)))] (fun P hP => ?_) ?_)
                  · simp only [W0.down, simprocAttr, if_true, if_false, beq_self_eq_true, ne_eq, zz0.down]
                    (try simp only [WN.down, simprocAttr, if_true, if_false, zz0.down] at hP ⊢)
                    exact hP
                  exact n43 _ (.inr ⟨_, weak_eq rfl, ih56 (IntKind.i64.wrap (v5_56 + 1)) h⟩)
              · refine w_cf (congrArg AV.bool b46) ?_
                simp only [b46, Bool.not_true, Bool.not_false]
                refine w_ex (x44 4 _ (x43 4 _ (b42 _ (n40 _ (.inl ?_)))))
                refine w_sreg (w_abs [(2, .bool true)] (fun P hP => ?_) ?_)
                · simp only [W0.down, simprocAttr, if_true, if_false, beq_self_eq_true, ne_eq, zz0.down]
                  (try simp only [WN.down, simprocAttr, if_true, if_false, zz0.down] at hP ⊢)
                  exact hP
                exact w_ret (r0 _ (.inl (w_fin [.bool true] rfl (by cases someE h; rfl) (by decide) outs_nil)))
          obtain ⟨n, h⟩ := limE h
          exact w_loop (.inr ⟨_, weak_eq rfl, L56 n 0 h⟩)
    obtain ⟨n, h⟩ := limE h
    exact w_loop (.inr ⟨_, weak_eq rfl, L14 n 0 h⟩)

theorem ok_spec_l05Ask  (a0 : List impl_Definition) (a1 : Int) (a2 : Int) (r : Int) (h : spec_l05Ask  a0 a1 a2 = some r) : OkAt Cc 142 [.slice (a0.map e_impl_Definition), .int .i64 a1, .int .i64 a2] (.int .i64 r) [] := by
  refine OkAt.of_wpQ (fx := [0, 1, 2]) Cc_ok Try.func142 rfl rfl s142 (Nat.le_of_ble_eq_true rfl) (fun Q0 r0 n0 => ?_)
  replace r0 : ∀ s, onW (Fw.Ends Cc [0, 1, 2] [.tmp 6] (.int .i64 r) []) s → Q0 .ret s := r0
  replace n0 : ∀ s, onW (Fw.Ends Cc [0, 1, 2] [.tmp 6] (.int .i64 r) []) s → Q0 .normal s := n0
  show wpC Cc c142 Q0 (stA [(0, .slice (a0.map e_impl_Definition)), (1, .int .i64 a1), (2, .int .i64 a2)])
  refine w_sreg (w_abs [(0, .slice (a0.map e_impl_Definition)), (1, .int .i64 a1), (2, .int .i64 a2)] (fun P hP => ?_) ?_)
  · simp only [W0.down, simprocAttr, if_true, if_false, beq_self_eq_true, ne_eq, zz0.down]
    (try simp only [WN.down, simprocAttr, if_true, if_false, zz0.down] at hP ⊢)
    exact hP
  refine w_seq (fun Q2 n2 q2 x2 => ?_)
  obtain ⟨x1, e4, h⟩ := bindE h
  refine w_sreg (w_abs [(0, .slice (a0.map e_impl_Definition)), (1, .int .i64 a1), (2, .int .i64 a2), (9, .bool (!x1))] (fun P hP => ?_) ?_)
  · simp only [W0.down, simprocAttr, if_true, if_false, beq_self_eq_true, ne_eq, zz0.down]
    refine w_call0 (ok_spec_l05Defs a0 _ e4) rfl rfl rfl rfl (.inl (by rfl)) ?_
    simp only [W0.down, simprocAttr, if_true, if_false, beq_self_eq_true, ne_eq, zz0.down]
    (try simp only [WN.down, simprocAttr, if_true, if_false, zz0.down] at hP ⊢)
    exact hP
  rcases condE h with ⟨b5, h⟩ | ⟨b5, h⟩
  · refine w_ct (congrArg AV.bool b5) ?_
    simp only [b5, Bool.not_true, Bool.not_false]
    refine w_sreg (w_abs [(6, .int .i64 1)] (fun P hP => ?_) ?_)
    · simp only [W0.down, simprocAttr, if_true, if_false, beq_self_eq_true, ne_eq, zz0.down]
      (try simp only [WN.down, simprocAttr, if_true, if_false, zz0.down] at hP ⊢)
      exact hP
    exact w_ret (q2 _ (r0 _ (.inl (w_fin [.int .i64 1] rfl (by cases someE h; rfl) (by decide) outs_nil))))
  · refine w_cf (congrArg AV.bool b5) ?_
    simp only [b5, Bool.not_true, Bool.not_false]
    refine w_skip (n2 _ (.inl ?_))
    refine w_seq (fun Q7 n7 q7 x7 => ?_)
    obtain ⟨x2, e9, h⟩ := bindE h
    rcases condE h with ⟨b10, h⟩ | ⟨b10, h⟩
    · refine w_sreg (w_abs [(27, .bool true)] (fun P hP => ?_) ?_)
      · simp only [W0.down, simprocAttr, if_true, if_false, beq_self_eq_true, ne_eq, zz2.down, b10]
        refine w_call0 (ok_spec_l00In a1 0 (IntKind.i64.wrap ((a0.length : Int) - 1)) _ e9) rfl rfl rfl rfl (.inl (by rfl)) ?_
        simp only [W0.down, simprocAttr, if_true, if_false, beq_self_eq_true, ne_eq, zz2.down, b10]
        (try simp only [WN.down, simprocAttr, if_true, if_false, zz0.down, b10] at hP ⊢)
        exact hP
      refine w_ct rfl ?_
      refine w_sreg (w_abs [(6, .int .i64 2)] (fun P hP => ?_) ?_)
      · simp only [W0.down, simprocAttr, if_true, if_false, beq_self_eq_true, ne_eq]
        (try simp only [WN.down, simprocAttr, if_true, if_false] at hP ⊢)
        exact hP
      exact w_ret (q7 _ (r0 _ (.inl (w_fin [.int .i64 2] rfl (by cases someE h; rfl) (by decide) outs_nil))))
    · obtain ⟨x3, e12, h⟩ := bindE h
      obtain ⟨x4, e13, h⟩ := bindE h
      refine w_sreg (w_abs [(27, .bool (!x4))] (fun P hP => ?_) ?_)
      · simp only [W0.down, simprocAttr, if_true, if_false, beq_self_eq_true, ne_eq, zz2.down, b10, e12]
        refine w_call0 (ok_spec_l00In a1 0 (IntKind.i64.wrap ((a0.length : Int) - 1)) _ e9) rfl rfl rfl rfl (.inl (by rfl)) ?_
        simp only [W0.down, simprocAttr, if_true, if_false, beq_self_eq_true, ne_eq, zz2.down, b10, e12]
        refine w_callg0 (ok_spec_l00In a2 0 (IntKind.i64.wrap ((x3.Body.length : Int) - 1)) _ e13) rfl rfl rfl rfl (.inl (by rfl)) ?_
        simp only [W0.down, simprocAttr, if_true, if_false, beq_self_eq_true, ne_eq, zz2.down, b10, e12]
        (try simp only [WN.down, simprocAttr, if_true, if_false, zz0.down, b10, e12] at hP ⊢)
        exact hP
      rcases condE h with ⟨b14, h⟩ | ⟨b14, h⟩
      · refine w_ct (congrArg AV.bool b14) ?_
        simp only [b14, Bool.not_true, Bool.not_false]
        refine w_sreg (w_abs [(6, .int .i64 2)] (fun P hP => ?_) ?_)
        · simp only [W0.down, simprocAttr, if_true, if_false, beq_self_eq_true, ne_eq]
          (try simp only [WN.down, simprocAttr, if_true, if_false] at hP ⊢)
          exact hP
        exact w_ret (q7 _ (r0 _ (.inl (w_fin [.int .i64 2] rfl (by cases someE h; rfl) (by decide) outs_nil))))
      · refine w_cf (congrArg AV.bool b14) ?_
        simp only [b14, Bool.not_true, Bool.not_false]
        refine w_skip (n7 _ (.inl ?_))
        refine w_sreg (w_abs [(6, .int .i64 0)] (fun P hP => ?_) ?_)
        · simp only [W0.down, simprocAttr, if_true, if_false, beq_self_eq_true, ne_eq]
          (try simp only [WN.down, simprocAttr, if_true, if_false] at hP ⊢)
          exact hP
        exact w_ret (r0 _ (.inl (w_fin [.int .i64 0] rfl (by cases someE h; rfl) (by decide) outs_nil)))

theorem ok_spec_ScopeAt  (a0 : List impl_Definition) (a1 : Int) (a2 : Int) (r : Int × Int) (h : spec_ScopeAt  a0 a1 a2 = some r) : OkAt Cc 65 [.slice (a0.map e_impl_Definition), .int .i64 a1, .int .i64 a2] (.tuple [.int .i64 r.1, .int .i64 r.2]) [] := by
  refine OkAt.of_wpQ (fx := [0, 1, 2]) Cc_ok Try.func65 rfl rfl s65 (Nat.le_of_ble_eq_true rfl) (fun Q0 r0 n0 => ?_)
  replace r0 : ∀ s, onW (Fw.Ends Cc [0, 1, 2] [.tmp 6, .tmp 7] (.tuple [.int .i64 r.1, .int .i64 r.2]) []) s → Q0 .ret s := r0
  replace n0 : ∀ s, onW (Fw.Ends Cc [0, 1, 2] [.tmp 6, .tmp 7] (.tuple [.int .i64 r.1, .int .i64 r.2]) []) s → Q0 .normal s := n0
  show wpC Cc c65 Q0 (stA [(0, .slice (a0.map e_impl_Definition)), (1, .int .i64 a1), (2, .int .i64 a2)])
  refine w_sreg (w_abs [(0, .slice (a0.map e_impl_Definition)), (1, .int .i64 a1), (2, .int .i64 a2)] (fun P hP => ?_) ?_)
  · simp only [W0.down, simprocAttr, if_true, if_false, beq_self_eq_true, ne_eq, zz0.down]
    (try simp only [WN.down, simprocAttr, if_true, if_false, zz0.down] at hP ⊢)
    exact hP
  obtain ⟨x1, e3, h⟩ := bindE h
  refine w_sreg (w_abs [(0, .slice (a0.map e_impl_Definition)), (1, .int .i64 a1), (2, .int .i64 a2), (8, .int .i64 x1)] (fun P hP => ?_) ?_)
  · simp only [W0.down, simprocAttr, if_true, if_false, beq_self_eq_true, ne_eq, zz0.down]
    refine w_call0 (ok_spec_l05Ask a0 a1 a2 _ e3) rfl rfl rfl rfl (.inl (by rfl)) ?_
    simp only [W0.down, simprocAttr, if_true, if_false, beq_self_eq_true, ne_eq, zz0.down]
    (try simp only [WN.down, simprocAttr, if_true, if_false, zz0.down] at hP ⊢)
    exact hP
  refine w_seq (fun Q4 n4 q4 x4 => ?_)
  refine w_sreg (w_abs [(0, .slice (a0.map e_impl_Definition)), (1, .int .i64 a1), (2, .int .i64 a2), (8, .int .i64 x1), (14, .bool (x1 != 0))] (fun P hP => ?_) ?_)
  · simp only [W0.down, simprocAttr, if_true, if_false, beq_self_eq_true, ne_eq, zz0.down]
    (try simp only [WN.down, simprocAttr, if_true, if_false, zz0.down] at hP ⊢)
    exact hP
  rcases condE h with ⟨b6, h⟩ | ⟨b6, h⟩
  · refine w_ct (congrArg AV.bool b6) ?_
    simp only [b6, Bool.not_true, Bool.not_false]
    refine w_sreg (w_abs [(6, .int .i64 0), (7, .int .i64 x1)] (fun P hP => ?_) ?_)
    · simp only [W0.down, simprocAttr, if_true, if_false, beq_self_eq_true, ne_eq, zz0.down]
      (try simp only [WN.down, simprocAttr, if_true, if_false, zz0.down] at hP ⊢)
      exact hP
    exact w_ret (q4 _ (r0 _ (.inl (w_fin [.int .i64 0, .int .i64 x1] rfl (by cases someE h; rfl) (by decide) outs_nil))))
  · refine w_cf (congrArg AV.bool b6) ?_
    simp only [b6, Bool.not_true, Bool.not_false]
    refine w_skip (n4 _ (.inl ?_))
    obtain ⟨x2, e9, h⟩ := bindE h
    obtain ⟨x3, e10, h⟩ := bindE h
    refine w_sreg (w_abs [(6, .int .i64 x3), (7, .int .i64 0)] (fun P hP => ?_) ?_)
    · simp only [W0.down, simprocAttr, if_true, if_false, beq_self_eq_true, ne_eq, zz2.down, e9]
      refine w_call0 (ok_spec_l05Scope x2 a2 _ e10) rfl rfl rfl rfl (.inl (by rfl)) ?_
      simp only [W0.down, simprocAttr, if_true, if_false, beq_self_eq_true, ne_eq, zz2.down, e9]
      (try simp only [WN.down, simprocAttr, if_true, if_false, zz0.down, e9] at hP ⊢)
      exact hP
    exact w_ret (r0 _ (.inl (w_fin [.int .i64 x3, .int .i64 0] rfl (by cases someE h; rfl) (by decide) outs_nil)))

theorem ok_impl_within  (a0 : Int) (a1 : Int) (a2 : Int) (r : Bool) (h : impl_within  a0 a1 a2 = some r) : OkAt Cc 138 [.int .i64 a0, .int .i64 a1, .int .i64 a2] (.bool r) [] := by
  refine OkAt.of_wpQ (fx := [0, 1, 2]) Cc_ok Try.func138 rfl rfl s138 (Nat.le_of_ble_eq_true rfl) (fun Q0 r0 n0 => ?_)
  replace r0 : ∀ s, onW (Fw.Ends Cc [0, 1, 2] [.tmp 6] (.bool r) []) s → Q0 .ret s := r0
  replace n0 : ∀ s, onW (Fw.Ends Cc [0, 1, 2] [.tmp 6] (.bool r) []) s → Q0 .normal s := n0
  show wpC Cc c138 Q0 (stA [(0, .int .i64 a0), (1, .int .i64 a1), (2, .int .i64 a2)])
  refine w_sreg (w_abs [(0, .int .i64 a0), (1, .int .i64 a1), (2, .int .i64 a2)] (fun P hP => ?_) ?_)
  · simp only [W0.down, simprocAttr, if_true, if_false, beq_self_eq_true, ne_eq]
    (try simp only [WN.down, simprocAttr, if_true, if_false] at hP ⊢)
    exact hP
  refine w_sreg (w_abs [(6, .bool ((decide (a1 ≤ a0)) && (decide (a0 ≤ a2))))] (fun P hP => ?_) ?_)
  · rcases Bool.eq_false_or_eq_true (decide (a1 ≤ a0)) with s3 | s3
    · simp only [W0.down, simprocAttr, if_true, if_false, beq_self_eq_true, ne_eq, s3]
      (try simp only [WN.down, simprocAttr, if_true, if_false, s3] at hP ⊢)
      exact hP
    · simp only [W0.down, simprocAttr, if_true, if_false, beq_self_eq_true, ne_eq, s3]
      (try simp only [WN.down, simprocAttr, if_true, if_false, s3] at hP ⊢)
      exact hP
  exact w_ret (r0 _ (.inl (w_fin [.bool ((decide (a1 ≤ a0)) && (decide (a0 ≤ a2)))] rfl (by cases someE h; rfl) (by decide) outs_nil)))

theorem ok_impl_parametersOk_c1  (a0 : impl_Definition) (r : Bool) (h : impl_parametersOk_c1  a0 = some r) : OkAt Cc 217 [e_impl_Definition a0] (.bool r) [] := by
  refine OkAt.of_wpQ (fx := [0]) Cc_ok Try.func217 rfl rfl s217 (Nat.le_of_ble_eq_true rfl) (fun Q0 r0 n0 => ?_)
  replace r0 : ∀ s, onW (Fw.Ends Cc [0] [.tmp 2] (.bool r) []) s → Q0 .ret s := r0
  replace n0 : ∀ s, onW (Fw.Ends Cc [0] [.tmp 2] (.bool r) []) s → Q0 .normal s := n0
  show wpC Cc c217 Q0 (stA [(0, e_impl_Definition a0)])
  refine w_sreg (w_abs [(1, .ubox (e_impl_Definition a0))] (fun P hP => ?_) ?_)
  · simp only [W0.down, simprocAttr, if_true, if_false, beq_self_eq_true, ne_eq, zz6.down]
    (try simp only [WN.down, simprocAttr, if_true, if_false, zz0.down] at hP ⊢)
    exact hP
  obtain ⟨x1, e3, h⟩ := bindE h
  refine w_sreg (w_abs [(2, .bool (!x1))] (fun P hP => ?_) ?_)
  · simp only [W0.down, simprocAttr, if_true, if_false, beq_self_eq_true, ne_eq, zz6.down]
    refine w_call0 (ok_impl_within a0.Parameters 0 3 _ e3) rfl rfl rfl rfl (.inl (by rfl)) ?_
    simp only [W0.down, simprocAttr, if_true, if_false, beq_self_eq_true, ne_eq, zz6.down]
    (try simp only [WN.down, simprocAttr, if_true, if_false, zz0.down] at hP ⊢)
    exact hP
  exact w_ret (r0 _ (.inl (w_fin [.bool (!x1)] rfl (by cases someE h; rfl) (by decide) outs_nil)))

theorem ok_slices_IndexFunc_impl_Definition__impl_parametersOk_c1  (a0 : List impl_Definition) (r : Int) (h : slices_IndexFunc_impl_Definition__impl_parametersOk_c1  a0 = some r) : OkAt Cc 220 [.slice (a0.map e_impl_Definition), .fn 217 []] (.int .i64 r) [] := by
  refine OkAt.of_wpQ (fx := [0, 1]) Cc_ok Try.func220 rfl rfl s220 (Nat.le_of_ble_eq_true rfl) (fun Q0 r0 n0 => ?_)
  replace r0 : ∀ s, onW (Fw.Ends Cc [0, 1] [.tmp 4] (.int .i64 r) []) s → Q0 .ret s := r0
  replace n0 : ∀ s, onW (Fw.Ends Cc [0, 1] [.tmp 4] (.int .i64 r) []) s → Q0 .normal s := n0
  show wpC Cc c220 Q0 (stA [(0, .slice (a0.map e_impl_Definition)), (1, .fn 217 [])])
  refine w_sreg (w_abs [(0, .slice (a0.map e_impl_Definition)), (1, .fn 217 [])] (fun P hP => ?_) ?_)
  · simp only [W0.down, simprocAttr, if_true, if_false, beq_self_eq_true, ne_eq, zz0.down]
    (try simp only [WN.down, simprocAttr, if_true, if_false, zz0.down] at hP ⊢)
    exact hP
  refine w_seq (fun Q2 n2 q2 x2 => ?_)
  refine w_sreg (w_abs [(0, .slice (a0.map e_impl_Definition)), (1, .fn 217 []), (7, .int .i64 (a0.length : Int)), (8, .int .i64 0)] (fun P hP => ?_) ?_)
  · simp only [W0.down, simprocAttr, if_true, if_false, beq_self_eq_true, ne_eq, zz2.down]
    (try simp only [WN.down, simprocAttr, if_true, if_false, zz0.down] at hP ⊢)
    exact hP
  refine w_blk (fun Q4 n4 q4 b4 x4 => ?_)
  have L6 : ∀ (n : Nat) (v8_6 : Int), slices_IndexFunc_impl_Definition__impl_parametersOk_c1_l6 a0 n v8_6 = some r → lpC Cc c220_7 Q4 (stA [(0, .slice (a0.map e_impl_Definition)), (1, .fn 217 []), (7, .int .i64 (a0.length : Int)), (8, .int .i64 v8_6)]) := by
    intro m6
    induction m6 with
    | zero => intro v8_6 h; cases (show none = some r from h)
    | succ m6 ih6 =>
      intro v8_6 h
      replace h : slices_IndexFunc_impl_Definition__impl_parametersOk_c1_b6 (slices_IndexFunc_impl_Definition__impl_parametersOk_c1_l6 a0 m6) a0 v8_6 = some r := h
      refine lpC_step (fun Q5 n5 q5 x5 => ?_)
      refine w_sreg (w_abs [(0, .slice (a0.map e_impl_Definition)), (1, .fn 217 []), (7, .int .i64 (a0.length : Int)), (8, .int .i64 v8_6), (9, .bool (decide (v8_6 < (a0.length : Int))))] (fun P hP => ?_) ?_)
      · simp only [W0.down, simprocAttr, if_true, if_false, beq_self_eq_true, ne_eq, zz0.down]
        (try simp only [WN.down, simprocAttr, if_true, if_false, zz0.down] at hP ⊢)
        exact hP
      refine w_seq (fun Q7 n7 q7 x7 => ?_)
      rcases condE h with ⟨b8, h⟩ | ⟨b8, h⟩
      · refine w_ct (congrArg AV.bool b8) ?_
        simp only [b8, Bool.not_true, Bool.not_false]
        refine w_skip (n7 _ (.inl ?_))
        refine w_seq (fun Q9 n9 q9 x9 => ?_)
        refine w_blk (fun Q10 n10 q10 b10 x10 => ?_)
        refine w_sreg (w_abs [(0, .slice (a0.map e_impl_Definition)), (1, .fn 217 []), (5, .int .i64 v8_6), (7, .int .i64 (a0.length : Int)), (8, .int .i64 v8_6)] (fun P hP => ?_) ?_)
        · simp only [W0.down, simprocAttr, if_true, if_false, beq_self_eq_true, ne_eq, zz0.down]
          (try simp only [WN.down, simprocAttr, if_true, if_false, zz0.down] at hP ⊢)
          exact hP
        obtain ⟨x1, e13, h⟩ := bindE h
        obtain ⟨x2, e14, h⟩ := bindE h
        refine w_sreg (w_abs [(0, .slice (a0.map e_impl_Definition)), (1, .fn 217 []), (5, .int .i64 v8_6), (7, .int .i64 (a0.length : Int)), (8, .int .i64 v8_6), (16, .bool x2)] (fun P hP => ?_) ?_)
        · simp only [W0.down, simprocAttr, if_true, if_false, beq_self_eq_true, ne_eq, zz2.down, e13]
          refine w_call0 (ok_impl_parametersOk_c1 x1 _ e14) rfl rfl rfl rfl (.inl (by rfl)) ?_
          simp only [W0.down, simprocAttr, if_true, if_false, beq_self_eq_true, ne_eq, zz2.down, e13]
          (try simp only [WN.down, simprocAttr, if_true, if_false, zz0.down, e13] at hP ⊢)
          exact hP
        rcases condE h with ⟨b15, h⟩ | ⟨b15, h⟩
        · refine w_ct (congrArg AV.bool b15) ?_
          simp only [b15, Bool.not_true, Bool.not_false]
          refine w_sreg (w_abs [(4, .int .i64 v8_6)] (fun P hP => ?_) ?_)
          · simp only [W0.down, simprocAttr, if_true, if_false, beq_self_eq_true, ne_eq, zz0.down]
            (try simp only [WN.down, simprocAttr, if_true, if_false, zz0.down] at hP ⊢)
            exact hP
          exact w_ret (q10 _ (q9 _ (q5 _ (q4 _ (q2 _ (r0 _ (.inl (w_fin [.int .i64 v8_6] rfl (by cases someE h; rfl) (by decide) outs_nil))))))))
        · refine w_cf (congrArg AV.bool b15) ?_
          simp only [b15, Bool.not_true, Bool.not_false]
          refine w_skip (n10 _ (n9 _ (.inl ?_)))
          refine w_reg (w_abs [(0, .slice (a0.map e_impl_Definition)), (1, .fn 217 []), (7, .int .i64 (a0.length : Int)), (8, .int .i64 (IntKind.i64.wrap (v8_6 + 1)))] (fun P hP => ?_) ?_)
          · simp only [W0.down, simprocAttr, if_true, if_false, beq_self_eq_true, ne_eq, zz0.down]
            (try simp only [WN.down, simprocAttr, if_true, if_false, zz0.down] at hP ⊢)
            exact hP
          exact n5 _ (.inr ⟨_, weak_eq rfl, ih6 (IntKind.i64.wrap (v8_6 + 1)) h⟩)
      · refine w_cf (congrArg AV.bool b8) ?_
        simp only [b8, Bool.not_true, Bool.not_false]
        refine w_ex (x7 0 _ (x5 0 _ (b4 _ (n2 _ (.inl ?_)))))
        refine w_sreg (w_abs [(4, .int .i64 (-1))] (fun P hP => ?_) ?_)
        · simp only [W0.down, simprocAttr, if_true, if_false, beq_self_eq_true, ne_eq, zz0.down]
          (try simp only [WN.down, simprocAttr, if_true, if_false, zz0.down] at hP ⊢)
          exact hP
        exact w_ret (r0 _ (.inl (w_fin [.int .i64 (-1)] rfl (by cases someE h; rfl) (by decide) outs_nil)))
  obtain ⟨n, h⟩ := limE h
  exact w_loop (.inr ⟨_, weak_eq rfl, L6 n 0 h⟩)

theorem ok_slices_ContainsFunc_impl_Definition__impl_parametersOk_c1  (a0 : List impl_Definition) (r : Bool) (h : slices_ContainsFunc_impl_Definition__impl_parametersOk_c1  a0 = some r) : OkAt Cc 216 [.slice (a0.map e_impl_Definition), .fn 217 []] (.bool r) [] := by
  refine OkAt.of_wpQ (fx := [0, 1]) Cc_ok Try.func216 rfl rfl s216 (Nat.le_of_ble_eq_true rfl) (fun Q0 r0 n0 => ?_)
  replace r0 : ∀ s, onW (Fw.Ends Cc [0, 1] [.tmp 4] (.bool r) []) s → Q0 .ret s := r0
  replace n0 : ∀ s, onW (Fw.Ends Cc [0, 1] [.tmp 4] (.bool r) []) s → Q0 .normal s := n0
  show wpC Cc c216 Q0 (stA [(0, .slice (a0.map e_impl_Definition)), (1, .fn 217 [])])
  refine w_sreg (w_abs [(0, .slice (a0.map e_impl_Definition)), (1, .fn 217 [])] (fun P hP => ?_) ?_)
  · simp only [W0.down, simprocAttr, if_true, if_false, beq_self_eq_true, ne_eq, zz0.down]
    (try simp only [WN.down, simprocAttr, if_true, if_false, zz0.down] at hP ⊢)
    exact hP
  obtain ⟨x1, e3, h⟩ := bindE h
  refine w_sreg (w_abs [(4, .bool (decide (0 ≤ x1)))] (fun P hP => ?_) ?_)
  · simp only [W0.down, simprocAttr, if_true, if_false, beq_self_eq_true, ne_eq, zz0.down]
    refine w_call0 (ok_slices_IndexFunc_impl_Definition__impl_parametersOk_c1 a0 _ e3) rfl rfl rfl rfl (.inl (by rfl)) ?_
    simp only [W0.down, simprocAttr, if_true, if_false, beq_self_eq_true, ne_eq, zz0.down]
    (try simp only [WN.down, simprocAttr, if_true, if_false, zz0.down] at hP ⊢)
    exact hP
  exact w_ret (r0 _ (.inl (w_fin [.bool (decide (0 ≤ x1))] rfl (by cases someE h; rfl) (by decide) outs_nil)))

theorem ok_impl_parametersOk  (a0 : List impl_Definition) (r : Bool) (h : impl_parametersOk  a0 = some r) : OkAt Cc 134 [.slice (a0.map e_impl_Definition)] (.bool r) [] := by
  refine OkAt.of_wpQ (fx := [0]) Cc_ok Try.func134 rfl rfl s134 (Nat.le_of_ble_eq_true rfl) (fun Q0 r0 n0 => ?_)
  replace r0 : ∀ s, onW (Fw.Ends Cc [0] [.tmp 2] (.bool r) []) s → Q0 .ret s := r0
  replace n0 : ∀ s, onW (Fw.Ends Cc [0] [.tmp 2] (.bool r) []) s → Q0 .normal s := n0
  show wpC Cc c134 Q0 (stA [(0, .slice (a0.map e_impl_Definition))])
  refine w_sreg (w_abs [(0, .slice (a0.map e_impl_Definition))] (fun P hP => ?_) ?_)
  · simp only [W0.down, simprocAttr, if_true, if_false, beq_self_eq_true, ne_eq, zz0.down]
    (try simp only [WN.down, simprocAttr, if_true, if_false, zz0.down] at hP ⊢)
    exact hP
  obtain ⟨x1, e3, h⟩ := bindE h
  refine w_sreg (w_abs [(2, .bool (!x1))] (fun P hP => ?_) ?_)
  · simp only [W0.down, simprocAttr, if_true, if_false, beq_self_eq_true, ne_eq, zz0.down]
    refine w_call0 (ok_slices_ContainsFunc_impl_Definition__impl_parametersOk_c1 a0 _ e3) rfl rfl rfl rfl (.inl (by rfl)) ?_
    simp only [W0.down, simprocAttr, if_true, if_false, beq_self_eq_true, ne_eq, zz0.down]
    (try simp only [WN.down, simprocAttr, if_true, if_false, zz0.down] at hP ⊢)
    exact hP
  exact w_ret (r0 _ (.inl (w_fin [.bool (!x1)] rfl (by cases someE h; rfl) (by decide) outs_nil)))

theorem ok_impl_isDigit  (a0 : UInt8) (r : Bool) (h : impl_isDigit  a0 = some r) : OkAt Cc 211 [.int .u8 (a0.toNat : Int)] (.bool r) [] := by
  refine OkAt.of_wpQ (fx := [0]) Cc_ok Try.func211 rfl rfl s211 (Nat.le_of_ble_eq_true rfl) (fun Q0 r0 n0 => ?_)
  replace r0 : ∀ s, onW (Fw.Ends Cc [0] [.tmp 2] (.bool r) []) s → Q0 .ret s := r0
  replace n0 : ∀ s, onW (Fw.Ends Cc [0] [.tmp 2] (.bool r) []) s → Q0 .normal s := n0
  show wpC Cc c211 Q0 (stA [(0, .int .u8 (a0.toNat : Int))])
  refine w_sreg (w_abs [(0, .int .u8 (a0.toNat : Int))] (fun P hP => ?_) ?_)
  · simp only [W0.down, simprocAttr, if_true, if_false, beq_self_eq_true, ne_eq]
    (try simp only [WN.down, simprocAttr, if_true, if_false] at hP ⊢)
    exact hP
  refine w_sreg (w_abs [(2, .bool ((decide (48 ≤ (a0.toNat : Int))) && (decide ((a0.toNat : Int) ≤ 57))))] (fun P hP => ?_) ?_)
  · rcases Bool.eq_false_or_eq_true (decide (48 ≤ (a0.toNat : Int))) with s3 | s3
    · simp only [W0.down, simprocAttr, if_true, if_false, beq_self_eq_true, ne_eq, s3]
      (try simp only [WN.down, simprocAttr, if_true, if_false, s3] at hP ⊢)
      exact hP
    · simp only [W0.down, simprocAttr, if_true, if_false, beq_self_eq_true, ne_eq, s3]
      (try simp only [WN.down, simprocAttr, if_true, if_false, s3] at hP ⊢)
      exact hP
  exact w_ret (r0 _ (.inl (w_fin [.bool ((decide (48 ≤ (a0.toNat : Int))) && (decide ((a0.toNat : Int) ≤ 57)))] rfl (by cases someE h; rfl) (by decide) outs_nil)))

theorem ok_impl_IsName  (a0 : List UInt8) (r : Bool) (h : impl_IsName  a0 = some r) : OkAt Cc 126 [.str a0] (.bool r) [] := by
  refine OkAt.of_wpQ (fx := [0]) Cc_ok Try.func126 rfl rfl s126 (Nat.le_of_ble_eq_true rfl) (fun Q0 r0 n0 => ?_)
  replace r0 : ∀ s, onW (Fw.Ends Cc [0] [.tmp 2] (.bool r) []) s → Q0 .ret s := r0
  replace n0 : ∀ s, onW (Fw.Ends Cc [0] [.tmp 2] (.bool r) []) s → Q0 .normal s := n0
  show wpC Cc c126 Q0 (stA [(0, .str a0)])
  refine w_sreg (w_abs [(0, .str a0)] (fun P hP => ?_) ?_)
  · simp only [W0.down, simprocAttr, if_true, if_false, beq_self_eq_true, ne_eq]
    (try simp only [WN.down, simprocAttr, if_true, if_false] at hP ⊢)
    exact hP
  refine w_seq (fun Q2 n2 q2 x2 => ?_)
  refine w_sreg (w_abs [(0, .str a0), (6, .int .i64 (a0.length : Int)), (7, .int .i64 0)] (fun P hP => ?_) ?_)
  · simp only [W0.down, simprocAttr, if_true, if_false, beq_self_eq_true, ne_eq, tt9]
    (try simp only [WN.down, simprocAttr, if_true, if_false] at hP ⊢)
    exact hP
  refine w_blk (fun Q4 n4 q4 b4 x4 => ?_)
  have L6 : ∀ (n : Nat) (v7_6 : Int), impl_IsName_l6 a0 n v7_6 = some r → lpC Cc c126_7 Q4 (stA [(0, .str a0), (6, .int .i64 (a0.length : Int)), (7, .int .i64 v7_6)]) := by
    intro m6
    induction m6 with
    | zero => intro v7_6 h; cases (show none = some r from h)
    | succ m6 ih6 =>
      intro v7_6 h
      replace h : impl_IsName_b6 (impl_IsName_l6 a0 m6) a0 v7_6 = some r := h
      refine lpC_step (fun Q5 n5 q5 x5 => ?_)
      refine w_sreg (w_abs [(0, .str a0), (6, .int .i64 (a0.length : Int)), (7, .int .i64 v7_6), (8, .bool (decide (v7_6 < (a0.length : Int))))] (fun P hP => ?_) ?_)
      · simp only [W0.down, simprocAttr, if_true, if_false, beq_self_eq_true, ne_eq]
        (try simp only [WN.down, simprocAttr, if_true, if_false] at hP ⊢)
        exact hP
      refine w_seq (fun Q7 n7 q7 x7 => ?_)
      rcases condE h with ⟨b8, h⟩ | ⟨b8, h⟩
      · refine w_ct (congrArg AV.bool b8) ?_
        simp only [b8, Bool.not_true, Bool.not_false]
        refine w_skip (n7 _ (.inl ?_))
        refine w_seq (fun Q9 n9 q9 x9 => ?_)
        refine w_blk (fun Q10 n10 q10 b10 x10 => ?_)
        refine w_sreg (w_abs [(0, .str a0), (3, .int .i64 v7_6), (6, .int .i64 (a0.length : Int)), (7, .int .i64 v7_6)] (fun P hP => ?_) ?_)
        · simp only [W0.down, simprocAttr, if_true, if_false, beq_self_eq_true, ne_eq]
          (try simp only [WN.down, simprocAttr, if_true, if_false] at hP ⊢)
          exact hP
        obtain ⟨x1, e13, h⟩ := bindE h
        refine w_sreg (w_abs [(0, .str a0), (3, .int .i64 v7_6), (4, .bool ((decide (97 ≤ (x1.toNat : Int))) && (decide ((x1.toNat : Int) ≤ 122)))), (6, .int .i64 (a0.length : Int)), (7, .int .i64 v7_6)] (fun P hP => ?_) ?_)
        · rcases Bool.eq_false_or_eq_true (decide (97 ≤ (x1.toNat : Int))) with s14 | s14
          · simp only [W0.down, simprocAttr, if_true, if_false, beq_self_eq_true, ne_eq, tt9, e13, s14]
            (try simp only [WN.down, simprocAttr, if_true, if_false, e13, s14] at hP ⊢)
            exact hP
          · simp only [W0.down, simprocAttr, if_true, if_false, beq_self_eq_true, ne_eq, tt9, e13, s14]
            (try simp only [WN.down, simprocAttr, if_true, if_false, e13, s14] at hP ⊢)
            exact hP
        rcases condE h with ⟨b16, h⟩ | ⟨b16, h⟩
        · rcases condE h with ⟨b17, h⟩ | ⟨b17, h⟩
          · refine w_sreg (w_abs [(0, .str a0), (6, .int .i64 (a0.length : Int)), (7, .int .i64 v7_6), (32, .bool true)] (fun P hP => ?_) ?_)
            · simp only [W0.down, simprocAttr, if_true, if_false, beq_self_eq_true, ne_eq, tt9, b16, b17]
              (try simp only [WN.down, simprocAttr, if_true, if_false, b16, b17] at hP ⊢)
              exact hP
            refine w_ct rfl ?_
            refine w_sreg (w_abs [(2, .bool false)] (fun P hP => ?_) ?_)
            · simp only [W0.down, simprocAttr, if_true, if_false, beq_self_eq_true, ne_eq]
              (try simp only [WN.down, simprocAttr, if_true, if_false] at hP ⊢)
              exact hP
            exact w_ret (q10 _ (q9 _ (q5 _ (q4 _ (q2 _ (r0 _ (.inl (w_fin [.bool false] rfl (by cases someE h; rfl) (by decide) outs_nil))))))))
          · obtain ⟨x2, e19, h⟩ := bindE h
            refine w_sreg (w_abs [(0, .str a0), (6, .int .i64 (a0.length : Int)), (7, .int .i64 v7_6), (32, .bool (!x2))] (fun P hP => ?_) ?_)
            · simp only [W0.down, simprocAttr, if_true, if_false, beq_self_eq_true, ne_eq, tt9, b16, b17, e13]
              refine w_callg0 (ok_impl_isDigit x1 _ e19) rfl rfl rfl rfl (.inl (by rfl)) ?_
              simp only [W0.down, simprocAttr, if_true, if_false, beq_self_eq_true, ne_eq, tt9, b16, b17, e13]
              (try simp only [WN.down, simprocAttr, if_true, if_false, b16, b17, e13] at hP ⊢)
              exact hP
            rcases condE h with ⟨b20, h⟩ | ⟨b20, h⟩
            · refine w_ct (congrArg AV.bool b20) ?_
              simp only [b20, Bool.not_true, Bool.not_false]
              refine w_sreg (w_abs [(2, .bool false)] (fun P hP => ?_) ?_)
              · simp only [W0.down, simprocAttr, if_true, if_false, beq_self_eq_true, ne_eq]
                (try simp only [WN.down, simprocAttr, if_true, if_false] at hP ⊢)
                exact hP
              exact w_ret (q10 _ (q9 _ (q5 _ (q4 _ (q2 _ (r0 _ (.inl (w_fin [.bool false] rfl (by cases someE h; rfl) (by decide) outs_nil))))))))
            · refine w_cf (congrArg AV.bool b20) ?_
              simp only [b20, Bool.not_true, Bool.not_false]
              refine w_skip (n10 _ (n9 _ (.inl ?_)))
              refine w_reg (w_abs [(0, .str a0), (6, .int .i64 (a0.length : Int)), (7, .int .i64 (IntKind.i64.wrap (v7_6 + 1)))] (fun P hP => ?_) ?_)
              · simp only [W0.down, simprocAttr, if_true, if_false, beq_self_eq_true, ne_eq]
                (try simp only [WN.down, simprocAttr, if_true, if_false] at hP ⊢)
                exact hP
              exact n5 _ (.inr ⟨_, weak_eq rfl, ih6 (IntKind.i64.wrap (v7_6 + 1)) h⟩)
        · refine w_sreg (w_abs [(0, .str a0), (6, .int .i64 (a0.length : Int)), (7, .int .i64 v7_6), (32, .bool false)] (fun P hP => ?_) ?_)
          · simp only [W0.down, simprocAttr, if_true, if_false, beq_self_eq_true, ne_eq, tt9, b16]
            (try simp only [WN.down, simprocAttr, if_true, if_false, b16] at hP ⊢)
            exact hP
          refine w_cf rfl ?_
          refine w_skip (n10 _ (n9 _ (.inl ?_)))
          refine w_reg (w_abs [(0, .str a0), (6, .int .i64 (a0.length : Int)), (7, .int .i64 (IntKind.i64.wrap (v7_6 + 1)))] (fun P hP => ?_) ?_)
          · simp only [W0.down, simprocAttr, if_true, if_false, beq_self_eq_true, ne_eq]
            (try simp only [WN.down, simprocAttr, if_true, if_false] at hP ⊢)
            exact hP
          exact n5 _ (.inr ⟨_, weak_eq rfl, ih6 (IntKind.i64.wrap (v7_6 + 1)) h⟩)
      · refine w_cf (congrArg AV.bool b8) ?_
        simp only [b8, Bool.not_true, Bool.not_false]
        refine w_ex (x7 0 _ (x5 0 _ (b4 _ (n2 _ (.inl ?_)))))
        refine w_sreg (w_abs [(2, .bool ((decide (1 ≤ (a0.length : Int))) && (decide ((a0.length : Int) ≤ 10))))] (fun P hP => ?_) ?_)
        · rcases Bool.eq_false_or_eq_true (decide (1 ≤ (a0.length : Int))) with s25 | s25
          · simp only [W0.down, simprocAttr, if_true, if_false, beq_self_eq_true, ne_eq, tt9, s25]
            (try simp only [WN.down, simprocAttr, if_true, if_false, s25] at hP ⊢)
            exact hP
          · simp only [W0.down, simprocAttr, if_true, if_false, beq_self_eq_true, ne_eq, tt9, s25]
            (try simp only [WN.down, simprocAttr, if_true, if_false, s25] at hP ⊢)
            exact hP
        exact w_ret (r0 _ (.inl (w_fin [.bool ((decide (1 ≤ (a0.length : Int))) && (decide ((a0.length : Int) ≤ 10)))] rfl (by cases someE h; rfl) (by decide) outs_nil)))
  obtain ⟨n, h⟩ := limE h
  exact w_loop (.inr ⟨_, weak_eq rfl, L6 n 0 h⟩)

theorem ok_impl_definitionNamed_c1_2  (a0 : impl_Definition) (a1 : List UInt8) (r : Bool) (h : impl_definitionNamed_c1_2  a0 a1 = some r) : OkAt Cc 221 [e_impl_Definition a0, .ref (.str a1)] (.bool r) [] := by
  refine OkAt.of_wpQ (fx := [0, 1]) Cc_ok Try.func221 rfl rfl s221 (Nat.le_of_ble_eq_true rfl) (fun Q0 r0 n0 => ?_)
  replace r0 : ∀ s, onW (Fw.Ends Cc [0, 1] [.tmp 3] (.bool r) []) s → Q0 .ret s := r0
  replace n0 : ∀ s, onW (Fw.Ends Cc [0, 1] [.tmp 3] (.bool r) []) s → Q0 .normal s := n0
  show wpC Cc c221 Q0 (stA [(0, e_impl_Definition a0), (1, .ref (.str a1))])
  refine w_sreg (w_abs [(1, .ref (.str a1)), (2, .ubox (e_impl_Definition a0))] (fun P hP => ?_) ?_)
  · simp only [W0.down, simprocAttr, if_true, if_false, beq_self_eq_true, ne_eq, zz6.down]
    (try simp only [WN.down, simprocAttr, if_true, if_false, zz0.down] at hP ⊢)
    exact hP
  refine w_sreg (w_abs [(3, .bool (a0.Name == a1))] (fun P hP => ?_) ?_)
  · simp only [W0.down, simprocAttr, if_true, if_false, beq_self_eq_true, ne_eq, zz6.down]
    (try simp only [WN.down, simprocAttr, if_true, if_false, zz0.down] at hP ⊢)
    exact hP
  exact w_ret (r0 _ (.inl (w_fin [.bool (a0.Name == a1)] rfl (by cases someE h; rfl) (by decide) outs_nil)))

theorem ok_slices_IndexFunc_impl_Definition__impl_definitionNamed_c1  (a0 : List impl_Definition) (a1 : List UInt8) (r : Int) (h : slices_IndexFunc_impl_Definition__impl_definitionNamed_c1  a0 a1 = some r) : OkAt Cc 220 [.slice (a0.map e_impl_Definition), .fn 221 [.ref (.str a1)]] (.int .i64 r) [] := by
  refine OkAt.of_wpQ (fx := [0, 1]) Cc_ok Try.func220 rfl rfl s220v2 (Nat.le_of_ble_eq_true rfl) (fun Q0 r0 n0 => ?_)
  replace r0 : ∀ s, onW (Fw.Ends Cc [0, 1] [.tmp 4] (.int .i64 r) []) s → Q0 .ret s := r0
  replace n0 : ∀ s, onW (Fw.Ends Cc [0, 1] [.tmp 4] (.int .i64 r) []) s → Q0 .normal s := n0
  show wpC Cc c220v2 Q0 (stA [(0, .slice (a0.map e_impl_Definition)), (1, .fn 221 [.ref (.str a1)])])
  refine w_sreg (w_abs [(0, .slice (a0.map e_impl_Definition)), (1, .fn 221 [.ref (.str a1)])] (fun P hP => ?_) ?_)
  · simp only [W0.down, simprocAttr, if_true, if_false, beq_self_eq_true, ne_eq, zz0.down]
    (try simp only [WN.down, simprocAttr, if_true, if_false, zz0.down] at hP ⊢)
    exact hP
  refine w_seq (fun Q2 n2 q2 x2 => ?_)
  refine w_sreg (w_abs [(0, .slice (a0.map e_impl_Definition)), (1, .fn 221 [.ref (.str a1)]), (7, .int .i64 (a0.length : Int)), (8, .int .i64 0)] (fun P hP => ?_) ?_)
  · simp only [W0.down, simprocAttr, if_true, if_false, beq_self_eq_true, ne_eq, zz2.down]
    (try simp only [WN.down, simprocAttr, if_true, if_false, zz0.down] at hP ⊢)
    exact hP
  refine w_blk (fun Q4 n4 q4 b4 x4 => ?_)
  have L6 : ∀ (n : Nat) (v8_6 : Int), slices_IndexFunc_impl_Definition__impl_definitionNamed_c1_l6 a0 a1 n v8_6 = some r → lpC Cc c220v2_7 Q4 (stA [(0, .slice (a0.map e_impl_Definition)), (1, .fn 221 [.ref (.str a1)]), (7, .int .i64 (a0.length : Int)), (8, .int .i64 v8_6)]) := by
    intro m6
    induction m6 with
    | zero => intro v8_6 h; cases (show none = some r from h)
    | succ m6 ih6 =>
      intro v8_6 h
      replace h : slices_IndexFunc_impl_Definition__impl_definitionNamed_c1_b6 (slices_IndexFunc_impl_Definition__impl_definitionNamed_c1_l6 a0 a1 m6) a0 a1 v8_6 = some r := h
      refine lpC_step (fun Q5 n5 q5 x5 => ?_)
      refine w_sreg (w_abs [(0, .slice (a0.map e_impl_Definition)), (1, .fn 221 [.ref (.str a1)]), (7, .int .i64 (a0.length : Int)), (8, .int .i64 v8_6), (9, .bool (decide (v8_6 < (a0.length : Int))))] (fun P hP => ?_) ?_)
      · simp only [W0.down, simprocAttr, if_true, if_false, beq_self_eq_true, ne_eq, zz0.down]
        (try simp only [WN.down, simprocAttr, if_true, if_false, zz0.down] at hP ⊢)
        exact hP
      refine w_seq (fun Q7 n7 q7 x7 => ?_)
      rcases condE h with ⟨b8, h⟩ | ⟨b8, h⟩
      · refine w_ct (congrArg AV.bool b8) ?_
        simp only [b8, Bool.not_true, Bool.not_false]
        refine w_skip (n7 _ (.inl ?_))
        refine w_seq (fun Q9 n9 q9 x9 => ?_)
        refine w_blk (fun Q10 n10 q10 b10 x10 => ?_)
        refine w_sreg (w_abs [(0, .slice (a0.map e_impl_Definition)), (1, .fn 221 [.ref (.str a1)]), (5, .int .i64 v8_6), (7, .int .i64 (a0.length : Int)), (8, .int .i64 v8_6)] (fun P hP => ?_) ?_)
        · simp only [W0.down, simprocAttr, if_true, if_false, beq_self_eq_true, ne_eq, zz0.down]
          (try simp only [WN.down, simprocAttr, if_true, if_false, zz0.down] at hP ⊢)
          exact hP
        obtain ⟨x1, e13, h⟩ := bindE h
        obtain ⟨x2, e14, h⟩ := bindE h
        refine w_sreg (w_abs [(0, .slice (a0.map e_impl_Definition)), (1, .fn 221 [.ref (.str a1)]), (5, .int .i64 v8_6), (7, .int .i64 (a0.length : Int)), (8, .int .i64 v8_6), (16, .bool x2)] (fun P hP => ?_) ?_)
        · simp only [W0.down, simprocAttr, if_true, if_false, beq_self_eq_true, ne_eq, zz2.down, e13]
          refine w_call0 (ok_impl_definitionNamed_c1_2 x1 a1 _ e14) rfl rfl rfl rfl (.inl (by rfl)) ?_
          simp only [W0.down, simprocAttr, if_true, if_false, beq_self_eq_true, ne_eq, zz2.down, e13]
          (try simp only [WN.down, simprocAttr, if_true, if_false, zz0.down, e13] at hP ⊢)
          exact hP
        rcases condE h with ⟨b15, h⟩ | ⟨b15, h⟩
        · refine w_ct (congrArg AV.bool b15) ?_
          simp only [b15, Bool.not_true, Bool.not_false]
          refine w_sreg (w_abs [(4, .int .i64 v8_6)] (fun P hP => ?_) ?_)
          · simp only [W0.down, simprocAttr, if_true, if_false, beq_self_eq_true, ne_eq, zz0.down]
            (try simp only [WN.down, simprocAttr, if_true, if_false, zz0.down] at hP ⊢)
            exact hP
          exact w_ret (q10 _ (q9 _ (q5 _ (q4 _ (q2 _ (r0 _ (.inl (w_fin [.int .i64 v8_6] rfl (by cases someE h; rfl) (by decide) outs_nil))))))))
        · refine w_cf (congrArg AV.bool b15) ?_
          simp only [b15, Bool.not_true, Bool.not_false]
          refine w_skip (n10 _ (n9 _ (.inl ?_)))
          refine w_reg (w_abs [(0, .slice (a0.map e_impl_Definition)), (1, .fn 221 [.ref (.str a1)]), (7, .int .i64 (a0.length : Int)), (8, .int .i64 (IntKind.i64.wrap (v8_6 + 1)))] (fun P hP => ?_) ?_)
          · simp only [W0.down, simprocAttr, if_true, if_false, beq_self_eq_true, ne_eq, zz0.down]
            (try simp only [WN.down, simprocAttr, if_true, if_false, zz0.down] at hP ⊢)
            exact hP
          exact n5 _ (.inr ⟨_, weak_eq rfl, ih6 (IntKind.i64.wrap (v8_6 + 1)) h⟩)
      · refine w_cf (congrArg AV.bool b8) ?_
        simp only [b8, Bool.not_true, Bool.not_false]
        refine w_ex (x7 0 _ (x5 0 _ (b4 _ (n2 _ (.inl ?_)))))
        refine w_sreg (w_abs [(4, .int .i64 (-1))] (fun P hP => ?_) ?_)
        · simp only [W0.down, simprocAttr, if_true, if_false, beq_self_eq_true, ne_eq, zz0.down]
          (try simp only [WN.down, simprocAttr, if_true, if_false, zz0.down] at hP ⊢)
          exact hP
        exact w_ret (r0 _ (.inl (w_fin [.int .i64 (-1)] rfl (by cases someE h; rfl) (by decide) outs_nil)))
  obtain ⟨n, h⟩ := limE h
  exact w_loop (.inr ⟨_, weak_eq rfl, L6 n 0 h⟩)

theorem ok_impl_definitionNamed  (a0 : List impl_Definition) (a1 : List UInt8) (r : Int) (h : impl_definitionNamed  a0 a1 = some r) : OkAt Cc 139 [.slice (a0.map e_impl_Definition), .str a1] (.int .i64 r) [] := by
  refine OkAt.of_wpQ (fx := [0, 1]) Cc_ok Try.func139 rfl rfl s139 (Nat.le_of_ble_eq_true rfl) (fun Q0 r0 n0 => ?_)
  replace r0 : ∀ s, onW (Fw.Ends Cc [0, 1] [.tmp 4] (.int .i64 r) []) s → Q0 .ret s := r0
  replace n0 : ∀ s, onW (Fw.Ends Cc [0, 1] [.tmp 4] (.int .i64 r) []) s → Q0 .normal s := n0
  show wpC Cc c139 Q0 (stA [(0, .slice (a0.map e_impl_Definition)), (1, .str a1)])
  refine w_sreg (w_abs [(0, .slice (a0.map e_impl_Definition)), (3, .ubox (.str a1))] (fun P hP => ?_) ?_)
  · simp only [W0.down, simprocAttr, if_true, if_false, beq_self_eq_true, ne_eq, tt9, e_impl_Definition, e_impl_Part, e_impl_Term, e_s_impl_Term]
    (try simp only [WN.down, simprocAttr, if_true, if_false, zz0.down] at hP ⊢)
    exact hP
  obtain ⟨x1, e3, h⟩ := bindE h
  refine w_sreg (w_abs [(4, .int .i64 x1)] (fun P hP => ?_) ?_)
  · simp only [W0.down, simprocAttr, if_true, if_false, beq_self_eq_true, ne_eq, zz0.down]
    refine w_call0 (ok_slices_IndexFunc_impl_Definition__impl_definitionNamed_c1 a0 a1 _ e3) rfl rfl (by simp only [W0.down, simprocAttr, if_true, if_false, beq_self_eq_true, ne_eq, zz0.down, view_s, view_h, viewH_s, share_s] <;> rfl) rfl (.inr (by rfl)) ?_
    simp only [W0.down, simprocAttr, if_true, if_false, beq_self_eq_true, ne_eq, zz0.down]
    (try simp only [WN.down, simprocAttr, if_true, if_false, zz0.down] at hP ⊢)
    exact hP
  exact w_ret (r0 _ (.inl (w_fin [.int .i64 x1] rfl (by cases someE h; rfl) (by decide) outs_nil)))

theorem ok_impl_Part_follow  (a0 : impl_Part) (r : Int) (h : impl_Part_follow  a0 = some r) : OkAt Cc 226 [e_impl_Part a0] (.int .i64 r) [] := by
  refine OkAt.of_wpQ (fx := [0]) Cc_ok Try.func226 rfl rfl s226 (Nat.le_of_ble_eq_true rfl) (fun Q0 r0 n0 => ?_)
  replace r0 : ∀ s, onW (Fw.Ends Cc [0] [.tmp 2] (.int .i64 r) []) s → Q0 .ret s := r0
  replace n0 : ∀ s, onW (Fw.Ends Cc [0] [.tmp 2] (.int .i64 r) []) s → Q0 .normal s := n0
  show wpC Cc c226 Q0 (stA [(0, e_impl_Part a0)])
  refine w_sreg (w_abs [(1, .ubox (e_impl_Part a0))] (fun P hP => ?_) ?_)
  · simp only [W0.down, simprocAttr, if_true, if_false, beq_self_eq_true, ne_eq, zz9.down]
    (try simp only [WN.down, simprocAttr, if_true, if_false, zz1.down] at hP ⊢)
    exact hP
  refine w_seq (fun Q2 n2 q2 x2 => ?_)
  refine w_sreg (w_abs [(4, .int .i64 a0.Kind)] (fun P hP => ?_) ?_)
  · simp only [W0.down, simprocAttr, if_true, if_false, beq_self_eq_true, ne_eq, zz9.down]
    (try simp only [WN.down, simprocAttr, if_true, if_false, zz1.down] at hP ⊢)
    exact hP
  refine w_blk (fun Q4 n4 q4 b4 x4 => ?_)
  have K16 : ∀ (v5_16 : Bool), impl_Part_follow_k16 a0 v5_16 = some r → wpC Cc c226_16 Q4 (stA [(4, .int .i64 a0.Kind), (5, .bool v5_16)]) := by
    intro v5_16 h
    rcases condE h with ⟨b6, h⟩ | ⟨b6, h⟩
    · refine w_ct (congrArg AV.bool b6) ?_
      simp only [b6, Bool.not_true, Bool.not_false]
      refine w_sreg (w_abs [(2, .int .i64 1)] (fun P hP => ?_) ?_)
      · simp only [W0.down, simprocAttr, if_true, if_false, beq_self_eq_true, ne_eq]
        (try simp only [WN.down, simprocAttr, if_true, if_false] at hP ⊢)
        exact hP
      exact w_ret (q4 _ (q2 _ (r0 _ (.inl (w_fin [.int .i64 1] rfl (by cases someE h; rfl) (by decide) outs_nil)))))
    · refine w_cf (congrArg AV.bool b6) ?_
      simp only [b6, Bool.not_true, Bool.not_false]
      refine w_sreg (w_abs [(9, .bool (a0.Kind == 2))] (fun P hP => ?_) ?_)
      · simp only [W0.down, simprocAttr, if_true, if_false, beq_self_eq_true, ne_eq]
        (try simp only [WN.down, simprocAttr, if_true, if_false] at hP ⊢)
        exact hP
      rcases condE h with ⟨b9, h⟩ | ⟨b9, h⟩
      · refine w_ct (congrArg AV.bool b9) ?_
        simp only [b9, Bool.not_true, Bool.not_false]
        refine w_sreg (w_abs [(2, .int .i64 2)] (fun P hP => ?_) ?_)
        · simp only [W0.down, simprocAttr, if_true, if_false, beq_self_eq_true, ne_eq]
          (try simp only [WN.down, simprocAttr, if_true, if_false] at hP ⊢)
          exact hP
        exact w_ret (q4 _ (q2 _ (r0 _ (.inl (w_fin [.int .i64 2] rfl (by cases someE h; rfl) (by decide) outs_nil)))))
      · refine w_cf (congrArg AV.bool b9) ?_
        simp only [b9, Bool.not_true, Bool.not_false]
        refine w_skip (n4 _ (n2 _ (.inl ?_)))
        refine w_sreg (w_abs [(2, .int .i64 0)] (fun P hP => ?_) ?_)
        · simp only [W0.down, simprocAttr, if_true, if_false, beq_self_eq_true, ne_eq]
          (try simp only [WN.down, simprocAttr, if_true, if_false] at hP ⊢)
          exact hP
        exact w_ret (r0 _ (.inl (w_fin [.int .i64 0] rfl (by cases someE h; rfl) (by decide) outs_nil)))
  refine w_seq (fun Q5 n5 q5 x5 => ?_)
  refine w_sreg (w_abs [(4, .int .i64 a0.Kind), (5, .bool (a0.Kind == 1))] (fun P hP => ?_) ?_)
  · simp only [W0.down, simprocAttr, if_true, if_false, beq_self_eq_true, ne_eq]
    (try simp only [WN.down, simprocAttr, if_true, if_false] at hP ⊢)
    exact hP
  rcases condE h with ⟨b13, h⟩ | ⟨b13, h⟩
  · refine w_ct (congrArg AV.bool b13) ?_
    simp only [b13, Bool.not_true, Bool.not_false]
    exact w_skip (n5 _ (.inr ⟨_, weak_eq rfl, K16 true h⟩))
  · refine w_cf (congrArg AV.bool b13) ?_
    simp only [b13, Bool.not_true, Bool.not_false]
    refine w_sreg (w_abs [(4, .int .i64 a0.Kind), (5, .bool (a0.Kind == 3))] (fun P hP => ?_) ?_)
    · simp only [W0.down, simprocAttr, if_true, if_false, beq_self_eq_true, ne_eq]
      (try simp only [WN.down, simprocAttr, if_true, if_false] at hP ⊢)
      exact hP
    rcases condE h with ⟨b15, h⟩ | ⟨b15, h⟩
    · refine w_ct (congrArg AV.bool b15) ?_
      simp only [b15, Bool.not_true, Bool.not_false]
      exact w_skip (n5 _ (.inr ⟨_, weak_eq rfl, K16 true h⟩))
    · refine w_cf (congrArg AV.bool b15) ?_
      simp only [b15, Bool.not_true, Bool.not_false]
      refine w_reg (w_abs [(4, .int .i64 a0.Kind), (5, .bool (a0.Kind == 4))] (fun P hP => ?_) ?_)
      · simp only [W0.down, simprocAttr, if_true, if_false, beq_self_eq_true, ne_eq]
        (try simp only [WN.down, simprocAttr, if_true, if_false] at hP ⊢)
        exact hP
      exact n5 _ (.inr ⟨_, weak_eq rfl, K16 (a0.Kind == 4) h⟩)

theorem ok_impl_Definition_end  (a0 : impl_Definition) (a1 : Int) (r : Int) (h : impl_Definition_end  a0 a1 = some r) : OkAt Cc 145 [e_impl_Definition a0, .int .i64 a1] (.int .i64 r) [] := by
  refine OkAt.of_wpQ (fx := [0]) Cc_ok Try.func145 rfl rfl s145 (Nat.le_of_ble_eq_true rfl) (fun Q0 r0 n0 => ?_)
  replace r0 : ∀ s, onW (Fw.Ends Cc [0] [.tmp 4] (.int .i64 r) []) s → Q0 .ret s := r0
  replace n0 : ∀ s, onW (Fw.Ends Cc [0] [.tmp 4] (.int .i64 r) []) s → Q0 .normal s := n0
  show wpC Cc c145 Q0 (stA [(0, e_impl_Definition a0), (1, .int .i64 a1)])
  refine w_sreg (w_abs [(1, .int .i64 a1), (2, .ubox (e_impl_Definition a0))] (fun P hP => ?_) ?_)
  · simp only [W0.down, simprocAttr, if_true, if_false, beq_self_eq_true, ne_eq, zz6.down]
    (try simp only [WN.down, simprocAttr, if_true, if_false, zz0.down] at hP ⊢)
    exact hP
  refine w_seq (fun Q2 n2 q2 x2 => ?_)
  refine w_sreg (w_abs [(1, .int .i64 a1), (2, .ubox (e_impl_Definition a0)), (5, .int .i64 1)] (fun P hP => ?_) ?_)
  · simp only [W0.down, simprocAttr, if_true, if_false, beq_self_eq_true, ne_eq, zz0.down]
    (try simp only [WN.down, simprocAttr, if_true, if_false, zz0.down] at hP ⊢)
    exact hP
  refine w_blk (fun Q4 n4 q4 b4 x4 => ?_)
  have L6 : ∀ (n : Nat) (v1_6 : Int) (v5_6 : Int), impl_Definition_end_l6 a0 n v1_6 v5_6 = some r → lpC Cc c145_7 Q4 (stA [(1, .int .i64 v1_6), (2, .ubox (e_impl_Definition a0)), (5, .int .i64 v5_6)]) := by
    intro m6
    induction m6 with
    | zero => intro v1_6 v5_6 h; cases (show none = some r from h)
    | succ m6 ih6 =>
      intro v1_6 v5_6 h
      replace h : impl_Definition_end_b6 (impl_Definition_end_l6 a0 m6) a0 v1_6 v5_6 = some r := h
      refine lpC_step (fun Q5 n5 q5 x5 => ?_)
      refine w_seq (fun Q6 n6 q6 x6 => ?_)
      refine w_sreg (w_abs [(1, .int .i64 v1_6), (2, .ubox (e_impl_Definition a0)), (5, .int .i64 v5_6), (7, .bool (decide (0 < v5_6)))] (fun P hP => ?_) ?_)
      · simp only [W0.down, simprocAttr, if_true, if_false, beq_self_eq_true, ne_eq, zz0.down]
        (try simp only [WN.down, simprocAttr, if_true, if_false, zz0.down] at hP ⊢)
        exact hP
      rcases condE h with ⟨b8, h⟩ | ⟨b8, h⟩
      · refine w_ct (congrArg AV.bool b8) ?_
        simp only [b8, Bool.not_true, Bool.not_false]
        refine w_skip (n6 _ (.inl ?_))
        refine w_seq (fun Q9 n9 q9 x9 => ?_)
        refine w_blk (fun Q10 n10 q10 b10 x10 => ?_)
        refine w_seq (fun Q11 n11 q11 x11 => ?_)
        refine w_sreg (w_abs [(1, .int .i64 v1_6), (2, .ubox (e_impl_Definition a0)), (5, .int .i64 v5_6), (14, .bool (decide ((a0.Body.length : Int) ≤ v1_6)))] (fun P hP => ?_) ?_)
        · simp only [W0.down, simprocAttr, if_true, if_false, beq_self_eq_true, ne_eq, zz6.down]
          (try simp only [WN.down, simprocAttr, if_true, if_false, zz0.down] at hP ⊢)
          exact hP
        rcases condE h with ⟨b13, h⟩ | ⟨b13, h⟩
        · refine w_ct (congrArg AV.bool b13) ?_
          simp only [b13, Bool.not_true, Bool.not_false]
          refine w_sreg (w_abs [(4, .int .i64 (-1))] (fun P hP => ?_) ?_)
          · simp only [W0.down, simprocAttr, if_true, if_false, beq_self_eq_true, ne_eq, zz0.down]
            (try simp only [WN.down, simprocAttr, if_true, if_false, zz0.down] at hP ⊢)
            exact hP
          exact w_ret (q11 _ (q10 _ (q9 _ (q5 _ (q4 _ (q2 _ (r0 _ (.inl (w_fin [.int .i64 (-1)] rfl (by cases someE h; rfl) (by decide) outs_nil)))))))))
        · refine w_cf (congrArg AV.bool b13) ?_
          simp only [b13, Bool.not_true, Bool.not_false]
          refine w_skip (n11 _ (.inl ?_))
          obtain ⟨x1, e16, h⟩ := bindE h
          obtain ⟨x2, e17, h⟩ := bindE h
          refine w_reg (w_abs [(1, .int .i64 v1_6), (2, .ubox (e_impl_Definition a0)), (5, .int .i64 (IntKind.i64.wrap (v5_6 + (IntKind.i64.wrap (x2 - 1)))))] (fun P hP => ?_) ?_)
          · simp only [W0.down, simprocAttr, if_true, if_false, beq_self_eq_true, ne_eq, zz6.down, e16]
            refine w_call0 (ok_impl_Part_follow x1 _ e17) rfl rfl rfl rfl (.inl (by rfl)) ?_
            simp only [W0.down, simprocAttr, if_true, if_false, beq_self_eq_true, ne_eq, zz6.down, e16]
            (try simp only [WN.down, simprocAttr, if_true, if_false, zz0.down, e16] at hP ⊢)
            exact hP
          refine n10 _ (n9 _ (.inl ?_))
          refine w_reg (w_abs [(1, .int .i64 (IntKind.i64.wrap (v1_6 + 1))), (2, .ubox (e_impl_Definition a0)), (5, .int .i64 (IntKind.i64.wrap (v5_6 + (IntKind.i64.wrap (x2 - 1)))))] (fun P hP => ?_) ?_)
          · simp only [W0.down, simprocAttr, if_true, if_false, beq_self_eq_true, ne_eq, zz0.down]
            (try simp only [WN.down, simprocAttr, if_true, if_false, zz0.down] at hP ⊢)
            exact hP
          exact n5 _ (.inr ⟨_, weak_eq rfl, ih6 (IntKind.i64.wrap (v1_6 + 1)) (IntKind.i64.wrap (v5_6 + (IntKind.i64.wrap (x2 - 1)))) h⟩)
      · refine w_cf (congrArg AV.bool b8) ?_
        simp only [b8, Bool.not_true, Bool.not_false]
        refine w_ex (x6 0 _ (x5 0 _ (b4 _ (n2 _ (.inl ?_)))))
        refine w_sreg (w_abs [(4, .int .i64 v1_6)] (fun P hP => ?_) ?_)
        · simp only [W0.down, simprocAttr, if_true, if_false, beq_self_eq_true, ne_eq, zz0.down]
          (try simp only [WN.down, simprocAttr, if_true, if_false, zz0.down] at hP ⊢)
          exact hP
        exact w_ret (r0 _ (.inl (w_fin [.int .i64 v1_6] rfl (by cases someE h; rfl) (by decide) outs_nil)))
  obtain ⟨n, h⟩ := limE h
  exact w_loop (.inr ⟨_, weak_eq rfl, L6 n a1 1 h⟩)

theorem ok_impl_Definition_places_c1_f (rec50 : Int → impl_place → (List impl_place) → impl_Definition → Option (Int × (List impl_place))) (hrec50 : ∀ (a0 : Int) (a1 : impl_place) (a2 : List impl_place) (a3 : impl_Definition) (r : Int × (List impl_place)), rec50 a0 a1 a2 a3 = some r → OkSelf Cc 227 2 4 [.int .i64 a0, e_impl_place a1, .ubox (.uslice 2 (a2.map e_impl_place)), .ref (e_impl_Definition a3), .ref (.hole)] (.int .i64 r.1) [.hole, .hole, .ubox (.uslice 2 (r.2.map e_impl_place)), .hole, .hole]) (a0 : Int) (a1 : impl_place) (a2 : List impl_place) (a3 : impl_Definition) (r : Int × (List impl_place)) (h : impl_Definition_places_c1_f rec50 a0 a1 a2 a3 = some r) : OkSelf Cc 227 2 4 [.int .i64 a0, e_impl_place a1, .ubox (.uslice 2 (a2.map e_impl_place)), .ref (e_impl_Definition a3), .ref (.hole)] (.int .i64 r.1) [.hole, .hole, .ubox (.uslice 2 (r.2.map e_impl_place)), .hole, .hole] := by
  refine OkSelf.of_wp (fx := [0, 1, 2, 3, 4]) Cc_ok Try.func227 rfl rfl s227 (Nat.le_of_ble_eq_true rfl) hk227 (fun Q0 r0 n0 => ?_)
  replace r0 : ∀ s, onW (Fw.Ends Cc [0, 1, 2, 3, 4] [.tmp 7] (.int .i64 r.1) [.hole, .hole, .ubox (.uslice 2 (r.2.map e_impl_place)), .hole, .hole]) s → Q0 .ret s := r0
  replace n0 : ∀ s, onW (Fw.Ends Cc [0, 1, 2, 3, 4] [.tmp 7] (.int .i64 r.1) [.hole, .hole, .ubox (.uslice 2 (r.2.map e_impl_place)), .hole, .hole]) s → Q0 .normal s := n0
  show wpC Cc c227 Q0 (stA [(0, .int .i64 a0), (1, e_impl_place a1), (2, .ubox (.uslice 2 (a2.map e_impl_place))), (3, .ref (e_impl_Definition a3)), (4, .ref (.hole))])
  refine w_sreg (w_abs [(0, .int .i64 a0), (2, .ubox (.uslice 2 (a2.map e_impl_place))), (3, .ref (e_impl_Definition a3)), (4, .ref (.hole)), (6, .ubox (e_impl_place a1))] (fun P hP => ?_) ?_)
  · simp only [W0.down, simprocAttr, if_true, if_false, beq_self_eq_true, ne_eq, tt2, tt4, tt185, e_impl_Definition, e_impl_Part, e_impl_Term, e_impl_place, e_s_impl_Term]
    (try simp only [WN.down, simprocAttr, if_true, if_false, zz3.down] at hP ⊢)
    exact hP
  obtain ⟨x1, e3, h⟩ := bindE h
  refine w_sreg (w_abs [(0, .int .i64 a0), (2, .ubox (.uslice 2 ((List.set a2 (Int.toNat a0) a1).map e_impl_place))), (3, .ref (e_impl_Definition a3)), (4, .ref (.hole)), (6, .ubox (e_impl_place a1))] (fun P hP => ?_) ?_)
  · simp only [W0.down, simprocAttr, if_true, if_false, beq_self_eq_true, ne_eq, tt2, tt4, tt185, tt186, e_impl_Definition, e_impl_Part, e_impl_Term, e_impl_place, e_s_impl_Term, e3, getI_get e3, own_s, stoS]
    (try simp only [WN.down, simprocAttr, if_true, if_false, zz3.down, e3, getI_get e3, own_s, stoS] at hP ⊢)
    exact hP
  obtain ⟨x2, e5, h⟩ := bindE h
  refine w_sreg (w_abs [(0, .int .i64 a0), (2, .ubox (.uslice 2 ((List.set a2 (Int.toNat a0) a1).map e_impl_place))), (3, .ref (e_impl_Definition a3)), (4, .ref (.hole)), (6, .ubox (e_impl_place a1)), (8, .ubox (e_impl_Part x2))] (fun P hP => ?_) ?_)
  · simp only [W0.down, simprocAttr, if_true, if_false, beq_self_eq_true, ne_eq, zz28.down, e5]
    (try simp only [WN.down, simprocAttr, if_true, if_false, zz3.down, e5] at hP ⊢)
    exact hP
  refine w_sreg (w_abs [(0, .int .i64 a0), (2, .ubox (.uslice 2 ((List.set a2 (Int.toNat a0) a1).map e_impl_place))), (3, .ref (e_impl_Definition a3)), (4, .ref (.hole)), (8, .ubox (e_impl_Part x2)), (9, .ubox (.agg [.int .i64 a1.scope, .bool (x2.Kind == 1)]))] (fun P hP => ?_) ?_)
  · simp only [W0.down, simprocAttr, if_true, if_false, beq_self_eq_true, ne_eq, tt2, tt4, tt9, tt40, tt131, tt185, tt195, tt249, e_impl_Definition, e_impl_Part, e_impl_Term, e_impl_place, e_s_impl_Term, (show ∀ s, bld Cc s 185 [(0, .int .i64 a1.scope), (1, .bool (x2.Kind == 1))] = some (.agg [.int .i64 a1.scope, .bool (x2.Kind == 1)], s) from fun s => by kernel_rfl)]
    (try simp only [WN.down, simprocAttr, if_true, if_false, zz3.down, (show ∀ s, bld Cc s 185 [(0, .int .i64 a1.scope), (1, .bool (x2.Kind == 1))] = some (.agg [.int .i64 a1.scope, .bool (x2.Kind == 1)], s) from fun s => by kernel_rfl)] at hP ⊢)
    exact hP
  have K14 : ∀ (v9_14 : Int), impl_Definition_places_c1_k14 rec50 a0 a1 a2 a3 x2 v9_14 = some r → wpC Cc c227_14 Q0 (stA [(0, .int .i64 a0), (2, .ubox (.uslice 2 ((List.set a2 (Int.toNat a0) a1).map e_impl_place))), (3, .ref (e_impl_Definition a3)), (4, .ref (.hole)), (8, .ubox (e_impl_Part x2)), (9, .ubox (.agg [.int .i64 v9_14, .bool (x2.Kind == 1)]))]) := by
    intro v9_14 h
    refine w_sreg (w_abs [(2, .ubox (.uslice 2 ((List.set a2 (Int.toNat a0) a1).map e_impl_place))), (3, .ref (e_impl_Definition a3)), (4, .ref (.hole)), (8, .ubox (e_impl_Part x2)), (9, .ubox (.agg [.int .i64 v9_14, .bool (x2.Kind == 1)])), (10, .int .i64 (IntKind.i64.wrap (a0 + 1)))] (fun P hP => ?_) ?_)
    · simp only [W0.down, simprocAttr, if_true, if_false, beq_self_eq_true, ne_eq, zz3.down]
      (try simp only [WN.down, simprocAttr, if_true, if_false, zz3.down] at hP ⊢)
      exact hP
    refine w_seq (fun Q9 n9 q9 x9 => ?_)
    obtain ⟨x3, e11, h⟩ := bindE h
    refine w_sreg (w_abs [(2, .ubox (.uslice 2 ((List.set a2 (Int.toNat a0) a1).map e_impl_place))), (3, .ref (e_impl_Definition a3)), (4, .ref (.hole)), (9, .ubox (.agg [.int .i64 v9_14, .bool (x2.Kind == 1)])), (10, .int .i64 (IntKind.i64.wrap (a0 + 1))), (36, .int .i64 x3), (37, .int .i64 0)] (fun P hP => ?_) ?_)
    · simp only [W0.down, simprocAttr, if_true, if_false, beq_self_eq_true, ne_eq, zz15.down]
      refine w_call0 (ok_impl_Part_follow x2 _ e11) rfl rfl rfl rfl (.inl (by rfl)) ?_
      simp only [W0.down, simprocAttr, if_true, if_false, beq_self_eq_true, ne_eq, zz15.down]
      (try simp only [WN.down, simprocAttr, if_true, if_false, zz3.down] at hP ⊢)
      exact hP
    refine w_blk (fun Q12 n12 q12 b12 x12 => ?_)
    have L20 : ∀ (n : Nat) (v2_20 : List impl_place) (v10_20 : Int) (v37_20 : Int), impl_Definition_places_c1_l20 rec50 a3 v9_14 x2 x3 n v2_20 v10_20 v37_20 = some r → lpC Cc c227_21 Q12 (stA [(2, .ubox (.uslice 2 (v2_20.map e_impl_place))), (3, .ref (e_impl_Definition a3)), (4, .ref (.hole)), (9, .ubox (.agg [.int .i64 v9_14, .bool (x2.Kind == 1)])), (10, .int .i64 v10_20), (36, .int .i64 x3), (37, .int .i64 v37_20)]) := by
      intro m20
      induction m20 with
      | zero => intro v2_20 v10_20 v37_20 h; cases (show none = some r from h)
      | succ m20 ih20 =>
        intro v2_20 v10_20 v37_20 h
        replace h : impl_Definition_places_c1_b20 rec50 (impl_Definition_places_c1_l20 rec50 a3 v9_14 x2 x3 m20) a3 v9_14 x2 x3 v2_20 v10_20 v37_20 = some r := h
        refine lpC_step (fun Q13 n13 q13 x13 => ?_)
        refine w_sreg (w_abs [(2, .ubox (.uslice 2 (v2_20.map e_impl_place))), (3, .ref (e_impl_Definition a3)), (4, .ref (.hole)), (9, .ubox (.agg [.int .i64 v9_14, .bool (x2.Kind == 1)])), (10, .int .i64 v10_20), (36, .int .i64 x3), (37, .int .i64 v37_20), (38, .bool (decide (v37_20 < x3)))] (fun P hP => ?_) ?_)
        · simp only [W0.down, simprocAttr, if_true, if_false, beq_self_eq_true, ne_eq, zz3.down]
          (try simp only [WN.down, simprocAttr, if_true, if_false, zz3.down] at hP ⊢)
          exact hP
        refine w_seq (fun Q15 n15 q15 x15 => ?_)
        rcases condE h with ⟨b16, h⟩ | ⟨b16, h⟩
        · refine w_ct (congrArg AV.bool b16) ?_
          simp only [b16, Bool.not_true, Bool.not_false]
          refine w_skip (n15 _ (.inl ?_))
          refine w_seq (fun Q17 n17 q17 x17 => ?_)
          refine w_blk (fun Q18 n18 q18 b18 x18 => ?_)
          obtain ⟨x4, e20, h⟩ := bindE h
          refine w_self [(2, .ubox (.uslice 2 (x4.2.map e_impl_place))), (3, .ref (e_impl_Definition a3)), (4, .ref (.hole)), (9, .ubox (.agg [.int .i64 v9_14, .bool (x2.Kind == 1)])), (10, .int .i64 x4.1), (36, .int .i64 x3), (37, .int .i64 v37_20)] (fun P hP => ?_) ?_
          · simp only [W0.down, simprocAttr, if_true, if_false, beq_self_eq_true, ne_eq, zz32.down, cellP]
            refine w_cell [⟨.int .i64 v10_20, false, _, .hole⟩, ⟨.agg [.int .i64 v9_14, .bool (x2.Kind == 1)], false, _, .hole⟩, ⟨.h 2 [], true, _, _⟩, ⟨.ref (e_impl_Definition a3), false, _, .hole⟩, ⟨.ref (.hole), false, _, .hole⟩] (hrec50 v10_20 (impl_place.mk v9_14 (x2.Kind == 1)) v2_20 a3 _ e20) rfl (by simp only [W0.down, simprocAttr, if_true, if_false, beq_self_eq_true, ne_eq, zz32.down, cellP, c_nrm, okp_s, own_r, view_s, view_h, viewH_s, share_s, or_true, true_or, @shares_map _ e_impl_place e_impl_place (fun _ => sh_e_impl_place _)]) rfl rfl (.inl rfl) ?_
            simp only [W0.down, simprocAttr, if_true, if_false, beq_self_eq_true, ne_eq, zz32.down, cellP, gv_s]
            (try simp only [WN.down, simprocAttr, if_true, if_false, zz3.down, cellP] at hP ⊢)
            exact hP
          refine n18 _ (n17 _ (.inl ?_))
          refine w_reg (w_abs [(2, .ubox (.uslice 2 (x4.2.map e_impl_place))), (3, .ref (e_impl_Definition a3)), (4, .ref (.hole)), (9, .ubox (.agg [.int .i64 v9_14, .bool (x2.Kind == 1)])), (10, .int .i64 x4.1), (36, .int .i64 x3), (37, .int .i64 (IntKind.i64.wrap (v37_20 + 1)))] (fun P hP => ?_) ?_)
          · simp only [W0.down, simprocAttr, if_true, if_false, beq_self_eq_true, ne_eq, zz3.down]
            (try simp only [WN.down, simprocAttr, if_true, if_false, zz3.down] at hP ⊢)
            exact hP
          exact n13 _ (.inr ⟨_, weak_eq rfl, ih20 x4.2 x4.1 (IntKind.i64.wrap (v37_20 + 1)) h⟩)
        · refine w_cf (congrArg AV.bool b16) ?_
          simp only [b16, Bool.not_true, Bool.not_false]
          refine w_ex (x15 0 _ (x13 0 _ (b12 _ (n9 _ (.inl ?_)))))
          refine w_sreg (w_abs [(2, .ubox (.uslice 2 (v2_20.map e_impl_place))), (3, .ref (e_impl_Definition a3)), (4, .ref (.hole)), (7, .int .i64 v10_20)] (fun P hP => ?_) ?_)
          · simp only [W0.down, simprocAttr, if_true, if_false, beq_self_eq_true, ne_eq, zz3.down]
            (try simp only [WN.down, simprocAttr, if_true, if_false, zz3.down] at hP ⊢)
            exact hP
          exact w_ret (r0 _ (.inl (w_fin [.int .i64 v10_20] rfl (by cases someE h; rfl) (by decide) (outs_of (out_no (out_no (out_is (by cases someE h; rfl) rfl rfl rfl (out_no (out_no (out_end))))))))))
    obtain ⟨n, h⟩ := limE h
    exact w_loop (.inr ⟨_, weak_eq rfl, L20 n (List.set a2 (Int.toNat a0) a1) (IntKind.i64.wrap (a0 + 1)) 0 h⟩)
  refine w_seq (fun Q7 n7 q7 x7 => ?_)
  refine w_sreg (w_abs [(0, .int .i64 a0), (2, .ubox (.uslice 2 ((List.set a2 (Int.toNat a0) a1).map e_impl_place))), (3, .ref (e_impl_Definition a3)), (4, .ref (.hole)), (8, .ubox (e_impl_Part x2)), (9, .ubox (.agg [.int .i64 a1.scope, .bool (x2.Kind == 1)])), (28, .bool (x2.Kind == 4))] (fun P hP => ?_) ?_)
  · simp only [W0.down, simprocAttr, if_true, if_false, beq_self_eq_true, ne_eq, zz15.down]
    (try simp only [WN.down, simprocAttr, if_true, if_false, zz3.down] at hP ⊢)
    exact hP
  rcases condE h with ⟨b24, h⟩ | ⟨b24, h⟩
  · refine w_ct (congrArg AV.bool b24) ?_
    simp only [b24, Bool.not_true, Bool.not_false]
    refine w_reg (w_abs [(0, .int .i64 a0), (2, .ubox (.uslice 2 ((List.set a2 (Int.toNat a0) a1).map e_impl_place))), (3, .ref (e_impl_Definition a3)), (4, .ref (.hole)), (8, .ubox (e_impl_Part x2)), (9, .ubox (.agg [.int .i64 (IntKind.i64.wrap (a1.scope + 1)), .bool (x2.Kind == 1)]))] (fun P hP => ?_) ?_)
    · simp only [W0.down, simprocAttr, if_true, if_false, beq_self_eq_true, ne_eq, tt2, tt4, tt185, e_impl_Definition, e_impl_Part, e_impl_Term, e_impl_place, e_s_impl_Term]
      (try simp only [WN.down, simprocAttr, if_true, if_false, zz3.down] at hP ⊢)
      exact hP
    exact n7 _ (.inr ⟨_, weak_eq rfl, K14 (IntKind.i64.wrap (a1.scope + 1)) h⟩)
  · refine w_cf (congrArg AV.bool b24) ?_
    simp only [b24, Bool.not_true, Bool.not_false]
    exact w_skip (n7 _ (.inr ⟨_, weak_eq rfl, K14 a1.scope h⟩))
theorem ok_impl_Definition_places_c1_r  : ∀ (n : Nat) (a0 : Int) (a1 : impl_place) (a2 : List impl_place) (a3 : impl_Definition) (r : Int × (List impl_place)), impl_Definition_places_c1_r  n a0 a1 a2 a3 = some r → OkSelf Cc 227 2 4 [.int .i64 a0, e_impl_place a1, .ubox (.uslice 2 (a2.map e_impl_place)), .ref (e_impl_Definition a3), .ref (.hole)] (.int .i64 r.1) [.hole, .hole, .ubox (.uslice 2 (r.2.map e_impl_place)), .hole, .hole] := by
  intro n
  induction n with
  | zero => intro a0 a1 a2 a3 r h; cases (show none = some r from h)
  | succ n ih => intro a0 a1 a2 a3 r h; exact ok_impl_Definition_places_c1_f  (impl_Definition_places_c1_r  n) ih a0 a1 a2 a3 r h
theorem ok_impl_Definition_places_c1  (a0 : Int) (a1 : impl_place) (a2 : List impl_place) (a3 : impl_Definition) (r : Int × (List impl_place)) (h : impl_Definition_places_c1  a0 a1 a2 a3 = some r) : OkSelf Cc 227 2 4 [.int .i64 a0, e_impl_place a1, .ubox (.uslice 2 (a2.map e_impl_place)), .ref (e_impl_Definition a3), .ref (.hole)] (.int .i64 r.1) [.hole, .hole, .ubox (.uslice 2 (r.2.map e_impl_place)), .hole, .hole] := by
  obtain ⟨n, h⟩ := limE h
  exact ok_impl_Definition_places_c1_r  n a0 a1 a2 a3 r h

theorem ok_impl_Definition_places  (a0 : impl_Definition) (r : (List impl_place)) (h : impl_Definition_places  a0 = some r) : OkAt Cc 147 [e_impl_Definition a0] (.uslice 2 (r.map e_impl_place)) [] := by
  refine OkAt.of_tail (fx := [0]) Cc_ok Try.func147 rfl rfl s147 (Nat.le_of_ble_eq_true rfl) hk147 (fun Q0 r0 n0 => ?_)
  replace r0 : ∀ s, onW (Fw.Ends Cc [0] [.tmp 2] (.uslice 2 (r.map e_impl_place)) []) s → Q0 .ret s := r0
  replace n0 : ∀ s, onW (Fw.Ends Cc [0] [.tmp 2] (.uslice 2 (r.map e_impl_place)) []) s → Q0 .normal s := n0
  show wpC Cc c147 Q0 (stA [(0, e_impl_Definition a0)])
  refine w_sreg (w_abs [(1, .ubox (e_impl_Definition a0))] (fun P hP => ?_) ?_)
  · simp only [W0.down, simprocAttr, if_true, if_false, beq_self_eq_true, ne_eq, zz6.down]
    (try simp only [WN.down, simprocAttr, if_true, if_false, zz0.down] at hP ⊢)
    exact hP
  obtain ⟨u6, e3, h⟩ := bindE h
  refine w_sreg (w_abs [(1, .ubox (e_impl_Definition a0)), (3, .ubox (.uslice 2 ((List.replicate (Int.toNat (a0.Body.length : Int)) (impl_place.mk 0 false)).map e_impl_place)))] (fun P hP => ?_) ?_)
  · simp only [W0.down, simprocAttr, if_true, if_false, beq_self_eq_true, ne_eq, tt2, tt4, tt9, tt40, tt131, tt169, tt171, tt185, tt186, tt195, tt249, e_impl_Definition, e_impl_Part, e_impl_Term, e_impl_place, e_s_impl_Term, (mkOkE e3).1, (mkOkE e3).2.1, (mkOkE e3).2.2, mks, List.map_replicate, -Int.reduceNatCast']
    (try simp only [WN.down, simprocAttr, if_true, if_false, zz3.down, (mkOkE e3).1, (mkOkE e3).2.1, (mkOkE e3).2.2, mks, List.map_replicate, -Int.reduceNatCast'] at hP ⊢)
    exact hP
  obtain ⟨x1, e5, h⟩ := bindE h
  refine w_tail [(3, .ubox (.uslice 2 (x1.2.map e_impl_place)))] (fun P hP => ?_) ?_
  · simp only [W0.down, simprocAttr, if_true, if_false, beq_self_eq_true, ne_eq, zz33.down, (show ∀ s, bld Cc s 185 [(0, .int .i64 a0.Parameters)] = some (.agg [.int .i64 a0.Parameters, .bool false], s) from fun s => by kernel_rfl), cellP]
    refine w_cell [⟨.int .i64 0, false, _, .hole⟩, ⟨.agg [.int .i64 a0.Parameters, .bool false], false, _, .hole⟩, ⟨.h 3 [], true, _, _⟩, ⟨.h 1 [], false, _, .hole⟩, ⟨.ref (.hole), false, _, .hole⟩] (ok_impl_Definition_places_c1 0 (impl_place.mk a0.Parameters false) (List.replicate (Int.toNat (a0.Body.length : Int)) (impl_place.mk 0 false)) a0 _ e5) rfl (by simp only [W0.down, simprocAttr, if_true, if_false, beq_self_eq_true, ne_eq, zz33.down, (show ∀ s, bld Cc s 185 [(0, .int .i64 a0.Parameters)] = some (.agg [.int .i64 a0.Parameters, .bool false], s) from fun s => by kernel_rfl), cellP, c_nrm, okp_s, own_r, view_s, view_h, viewH_s, share_s, or_true, true_or, @shares_map _ e_impl_place e_impl_place (fun _ => sh_e_impl_place _), @shares_map _ e_impl_Part e_impl_Part (fun _ => sh_e_impl_Part _)]) rfl rfl ((.inr (by simp only [nshPs, AV.nosh, AV.noshs, Bool.and_self, @noshs_map _ e_impl_place (fun _ => ns_e_impl_place _)]))) ?_
    simp only [W0.down, simprocAttr, if_true, if_false, beq_self_eq_true, ne_eq, zz33.down, (show ∀ s, bld Cc s 185 [(0, .int .i64 a0.Parameters)] = some (.agg [.int .i64 a0.Parameters, .bool false], s) from fun s => by kernel_rfl), cellP, gv_s]
    (try simp only [WN.down, simprocAttr, if_true, if_false, zz3.down, (show ∀ s, bld Cc s 185 [(0, .int .i64 a0.Parameters)] = some (.agg [.int .i64 a0.Parameters, .bool false], s) from fun s => by kernel_rfl), cellP] at hP ⊢)
    exact hP
  refine w_sreg (w_abs [(2, .uslice 2 (x1.2.map e_impl_place))] (fun P hP => ?_) ?_)
  · simp only [W0.down, simprocAttr, if_true, if_false, beq_self_eq_true, ne_eq, tt2, tt4, tt185, tt186, e_impl_place]
    (try simp only [WN.down, simprocAttr, if_true, if_false, e_impl_place] at hP ⊢)
    exact hP
  exact w_ret (r0 _ (.inl (w_fin [.uslice 2 (x1.2.map e_impl_place)] rfl (by cases someE h; rfl) (by decide) outs_nil)))

set_option maxHeartbeats 1800000 in
theorem ok_impl_Part_kindOk  (a0 : impl_Part) (r : Bool) (h : impl_Part_kindOk  a0 = some r) : OkAt Cc 277 [e_impl_Part a0] (.bool r) [] := by
  refine OkAt.of_wpQ (fx := [0]) Cc_ok Try.func277 rfl rfl s277 (Nat.le_of_ble_eq_true rfl) (fun Q0 r0 n0 => ?_)
  replace r0 : ∀ s, onW (Fw.Ends Cc [0] [.tmp 2] (.bool r) []) s → Q0 .ret s := r0
  replace n0 : ∀ s, onW (Fw.Ends Cc [0] [.tmp 2] (.bool r) []) s → Q0 .normal s := n0
  show wpC Cc c277 Q0 (stA [(0, e_impl_Part a0)])
  refine w_sreg (w_abs [(1, .ubox (e_impl_Part a0))] (fun P hP => ?_) ?_)
  · simp only [W0.down, simprocAttr, if_true, if_false, beq_self_eq_true, ne_eq, zz9.down]
    (try simp only [WN.down, simprocAttr, if_true, if_false, zz1.down] at hP ⊢)
    exact hP
  refine w_sreg (w_abs [(1, .ubox (e_impl_Part a0)), (3, .bool ((a0.Kind == 4) || (a0.Kind == 5)))] (fun P hP => ?_) ?_)
  · rcases Bool.eq_false_or_eq_true (a0.Kind == 4) with s3 | s3
    · simp only [W0.down, simprocAttr, if_true, if_false, beq_self_eq_true, ne_eq, zz9.down, s3]
      (try simp only [WN.down, simprocAttr, if_true, if_false, zz1.down, s3] at hP ⊢)
      exact hP
    · simp only [W0.down, simprocAttr, if_true, if_false, beq_self_eq_true, ne_eq, zz9.down, s3]
      (try simp only [WN.down, simprocAttr, if_true, if_false, zz1.down, s3] at hP ⊢)
      exact hP
  refine w_sreg (w_abs [(1, .ubox (e_impl_Part a0)), (3, .bool ((a0.Kind == 4) || (a0.Kind == 5))), (4, .bool (((a0.Kind == 1) || (a0.Kind == 3)) || (a0.Kind == 5)))] (fun P hP => ?_) ?_)
  · (rcases Bool.eq_false_or_eq_true (a0.Kind == 1) with s5 | s5) <;> (rcases Bool.eq_false_or_eq_true (a0.Kind == 3) with s6 | s6) <;>
      (simp only [W0.down, simprocAttr, if_true, if_false, beq_self_eq_true, ne_eq, zz9.down, s5, s6]
       (try simp only [WN.down, simprocAttr, if_true, if_false, zz1.down, s5, s6] at hP ⊢)
       exact hP)
  obtain ⟨x1, e8, h⟩ := bindE h
  refine w_sreg (w_abs [(2, .bool (((x1 && (((a0.Kind == 4) || (a0.Kind == 5)) || (a0.Number == 0))) && ((a0.Kind == 1) || (a0.Name == ([] : List UInt8)))) && ((((a0.Kind == 1) || (a0.Kind == 3)) || (a0.Kind == 5)) || ((a0.Arguments.length : Int) == 0))))] (fun P hP => ?_) ?_)
  · (rcases Bool.eq_false_or_eq_true (x1) with s9 | s9) <;> (rcases Bool.eq_false_or_eq_true (a0.Kind == 4) with s10 | s10) <;> (rcases Bool.eq_false_or_eq_true (a0.Kind == 5) with s11 | s11) <;> (rcases Bool.eq_false_or_eq_true (a0.Number == 0) with s12 | s12) <;> (rcases Bool.eq_false_or_eq_true (a0.Kind == 1) with s13 | s13) <;> (rcases Bool.eq_false_or_eq_true (a0.Name == ([] : List UInt8)) with s14 | s14) <;> (rcases Bool.eq_false_or_eq_true (a0.Kind == 3) with s15 | s15) <;>
      (simp only [W0.down, simprocAttr, if_true, if_false, beq_self_eq_true, ne_eq, zz9.down, s9, s10, s11, s12, s13, s14, s15]
       refine w_call0 (ok_impl_within a0.Kind 0 5 _ e8) rfl rfl rfl rfl (.inl (by rfl)) ?_
       simp only [W0.down, simprocAttr, if_true, if_false, beq_self_eq_true, ne_eq, zz9.down, s9, s10, s11, s12, s13, s14, s15]
       (try simp only [WN.down, simprocAttr, if_true, if_false, zz1.down, s9, s10, s11, s12, s13, s14, s15] at hP ⊢)
       exact hP)
  exact w_ret (r0 _ (.inl (w_fin [.bool (((x1 && (((a0.Kind == 4) || (a0.Kind == 5)) || (a0.Number == 0))) && ((a0.Kind == 1) || (a0.Name == ([] : List UInt8)))) && ((((a0.Kind == 1) || (a0.Kind == 3)) || (a0.Kind == 5)) || ((a0.Arguments.length : Int) == 0)))] rfl (by cases someE h; rfl) (by decide) outs_nil)))

theorem ok_impl_IsAction  (a0 : List UInt8) (r : Bool) (h : impl_IsAction  a0 = some r) : OkAt Cc 278 [.str a0] (.bool r) [] := by
  refine OkAt.of_wpQ (fx := [0]) Cc_ok Try.func278 rfl rfl s278 (Nat.le_of_ble_eq_true rfl) (fun Q0 r0 n0 => ?_)
  replace r0 : ∀ s, onW (Fw.Ends Cc [0] [.tmp 2] (.bool r) []) s → Q0 .ret s := r0
  replace n0 : ∀ s, onW (Fw.Ends Cc [0] [.tmp 2] (.bool r) []) s → Q0 .normal s := n0
  show wpC Cc c278 Q0 (stA [(0, .str a0)])
  refine w_sreg (w_abs [(0, .str a0)] (fun P hP => ?_) ?_)
  · simp only [W0.down, simprocAttr, if_true, if_false, beq_self_eq_true, ne_eq]
    (try simp only [WN.down, simprocAttr, if_true, if_false] at hP ⊢)
    exact hP
  obtain ⟨x1, e3, h⟩ := bindE h
  refine w_sreg (w_abs [(2, .bool (x1 && (!(a0 == ([116, 97, 117] : List UInt8)))))] (fun P hP => ?_) ?_)
  · rcases Bool.eq_false_or_eq_true (x1) with s4 | s4
    · simp only [W0.down, simprocAttr, if_true, if_false, beq_self_eq_true, ne_eq, s4]
      refine w_call0 (ok_impl_IsName a0 _ e3) rfl rfl rfl rfl (.inl (by rfl)) ?_
      simp only [W0.down, simprocAttr, if_true, if_false, beq_self_eq_true, ne_eq, s4]
      (try simp only [WN.down, simprocAttr, if_true, if_false, s4] at hP ⊢)
      exact hP
    · simp only [W0.down, simprocAttr, if_true, if_false, beq_self_eq_true, ne_eq, s4]
      refine w_call0 (ok_impl_IsName a0 _ e3) rfl rfl rfl rfl (.inl (by rfl)) ?_
      simp only [W0.down, simprocAttr, if_true, if_false, beq_self_eq_true, ne_eq, s4]
      (try simp only [WN.down, simprocAttr, if_true, if_false, s4] at hP ⊢)
      exact hP
  exact w_ret (r0 _ (.inl (w_fin [.bool (x1 && (!(a0 == ([116, 97, 117] : List UInt8))))] rfl (by cases someE h; rfl) (by decide) outs_nil)))

theorem ok_impl_index  (a0 : Int) (a1 : Int) (r : Bool) (h : impl_index  a0 a1 = some r) : OkAt Cc 133 [.int .i64 a0, .int .i64 a1] (.bool r) [] := by
  refine OkAt.of_wpQ (fx := [0, 1]) Cc_ok Try.func133 rfl rfl s133 (Nat.le_of_ble_eq_true rfl) (fun Q0 r0 n0 => ?_)
  replace r0 : ∀ s, onW (Fw.Ends Cc [0, 1] [.tmp 4] (.bool r) []) s → Q0 .ret s := r0
  replace n0 : ∀ s, onW (Fw.Ends Cc [0, 1] [.tmp 4] (.bool r) []) s → Q0 .normal s := n0
  show wpC Cc c133 Q0 (stA [(0, .int .i64 a0), (1, .int .i64 a1)])
  refine w_sreg (w_abs [(0, .int .i64 a0), (1, .int .i64 a1)] (fun P hP => ?_) ?_)
  · simp only [W0.down, simprocAttr, if_true, if_false, beq_self_eq_true, ne_eq]
    (try simp only [WN.down, simprocAttr, if_true, if_false] at hP ⊢)
    exact hP
  obtain ⟨x1, e3, h⟩ := bindE h
  refine w_sreg (w_abs [(4, .bool x1)] (fun P hP => ?_) ?_)
  · simp only [W0.down, simprocAttr, if_true, if_false, beq_self_eq_true, ne_eq]
    refine w_call0 (ok_impl_within a0 0 (IntKind.i64.wrap (a1 - 1)) _ e3) rfl rfl rfl rfl (.inl (by rfl)) ?_
    simp only [W0.down, simprocAttr, if_true, if_false, beq_self_eq_true, ne_eq]
    (try simp only [WN.down, simprocAttr, if_true, if_false] at hP ⊢)
    exact hP
  exact w_ret (r0 _ (.inl (w_fin [.bool x1] rfl (by cases someE h; rfl) (by decide) outs_nil)))

theorem ok_impl_Part_countOk  (a0 : impl_Part) (a1 : List impl_Definition) (r : Bool) (h : impl_Part_countOk  a0 a1 = some r) : OkAt Cc 279 [e_impl_Part a0, .slice (a1.map e_impl_Definition)] (.bool r) [] := by
  refine OkAt.of_wpQ (fx := [0, 1]) Cc_ok Try.func279 rfl rfl s279 (Nat.le_of_ble_eq_true rfl) (fun Q0 r0 n0 => ?_)
  replace r0 : ∀ s, onW (Fw.Ends Cc [0, 1] [.tmp 4] (.bool r) []) s → Q0 .ret s := r0
  replace n0 : ∀ s, onW (Fw.Ends Cc [0, 1] [.tmp 4] (.bool r) []) s → Q0 .normal s := n0
  show wpC Cc c279 Q0 (stA [(0, e_impl_Part a0), (1, .slice (a1.map e_impl_Definition))])
  refine w_sreg (w_abs [(1, .slice (a1.map e_impl_Definition)), (2, .ubox (e_impl_Part a0))] (fun P hP => ?_) ?_)
  · simp only [W0.down, simprocAttr, if_true, if_false, beq_self_eq_true, ne_eq, zz17.down]
    (try simp only [WN.down, simprocAttr, if_true, if_false, zz0.down] at hP ⊢)
    exact hP
  refine w_sreg (w_abs [(1, .slice (a1.map e_impl_Definition)), (2, .ubox (e_impl_Part a0)), (5, .int .i64 (a0.Arguments.length : Int))] (fun P hP => ?_) ?_)
  · simp only [W0.down, simprocAttr, if_true, if_false, beq_self_eq_true, ne_eq, zz17.down]
    (try simp only [WN.down, simprocAttr, if_true, if_false, zz0.down] at hP ⊢)
    exact hP
  refine w_seq (fun Q3 n3 q3 x3 => ?_)
  refine w_sreg (w_abs [(1, .slice (a1.map e_impl_Definition)), (2, .ubox (e_impl_Part a0)), (5, .int .i64 (a0.Arguments.length : Int)), (10, .int .i64 a0.Kind)] (fun P hP => ?_) ?_)
  · simp only [W0.down, simprocAttr, if_true, if_false, beq_self_eq_true, ne_eq, zz17.down]
    (try simp only [WN.down, simprocAttr, if_true, if_false, zz0.down] at hP ⊢)
    exact hP
  refine w_blk (fun Q5 n5 q5 b5 x5 => ?_)
  refine w_sreg (w_abs [(1, .slice (a1.map e_impl_Definition)), (2, .ubox (e_impl_Part a0)), (5, .int .i64 (a0.Arguments.length : Int)), (10, .int .i64 a0.Kind), (11, .bool (a0.Kind == 1))] (fun P hP => ?_) ?_)
  · simp only [W0.down, simprocAttr, if_true, if_false, beq_self_eq_true, ne_eq, zz0.down]
    (try simp only [WN.down, simprocAttr, if_true, if_false, zz0.down] at hP ⊢)
    exact hP
  rcases condE h with ⟨b7, h⟩ | ⟨b7, h⟩
  · refine w_ct (congrArg AV.bool b7) ?_
    simp only [b7, Bool.not_true, Bool.not_false]
    refine w_sreg (w_abs [(4, .bool (((a0.Arguments.length : Int) == 0) || ((!(a0.Name == ([116, 97, 117] : List UInt8))) && (decide ((a0.Arguments.length : Int) ≤ 2)))))] (fun P hP => ?_) ?_)
    · (rcases Bool.eq_false_or_eq_true ((a0.Arguments.length : Int) == 0) with s9 | s9) <;> (rcases Bool.eq_false_or_eq_true (a0.Name == ([116, 97, 117] : List UInt8)) with s10 | s10) <;>
        (simp only [W0.down, simprocAttr, if_true, if_false, beq_self_eq_true, ne_eq, zz17.down, s9, s10]
         (try simp only [WN.down, simprocAttr, if_true, if_false, zz0.down, s9, s10] at hP ⊢)
         exact hP)
    exact w_ret (q5 _ (q3 _ (r0 _ (.inl (w_fin [.bool (((a0.Arguments.length : Int) == 0) || ((!(a0.Name == ([116, 97, 117] : List UInt8))) && (decide ((a0.Arguments.length : Int) ≤ 2))))] rfl (by cases someE h; rfl) (by decide) outs_nil)))))
  · refine w_cf (congrArg AV.bool b7) ?_
    simp only [b7, Bool.not_true, Bool.not_false]
    refine w_sreg (w_abs [(1, .slice (a1.map e_impl_Definition)), (2, .ubox (e_impl_Part a0)), (5, .int .i64 (a0.Arguments.length : Int)), (10, .int .i64 a0.Kind), (24, .bool (a0.Kind == 3))] (fun P hP => ?_) ?_)
    · simp only [W0.down, simprocAttr, if_true, if_false, beq_self_eq_true, ne_eq, zz0.down]
      (try simp only [WN.down, simprocAttr, if_true, if_false, zz0.down] at hP ⊢)
      exact hP
    rcases condE h with ⟨b12, h⟩ | ⟨b12, h⟩
    · refine w_ct (congrArg AV.bool b12) ?_
      simp only [b12, Bool.not_true, Bool.not_false]
      refine w_sreg (w_abs [(4, .bool ((a0.Arguments.length : Int) == 1))] (fun P hP => ?_) ?_)
      · simp only [W0.down, simprocAttr, if_true, if_false, beq_self_eq_true, ne_eq, zz0.down]
        (try simp only [WN.down, simprocAttr, if_true, if_false, zz0.down] at hP ⊢)
        exact hP
      exact w_ret (q5 _ (q3 _ (r0 _ (.inl (w_fin [.bool ((a0.Arguments.length : Int) == 1)] rfl (by cases someE h; rfl) (by decide) outs_nil)))))
    · refine w_cf (congrArg AV.bool b12) ?_
      simp only [b12, Bool.not_true, Bool.not_false]
      refine w_sreg (w_abs [(1, .slice (a1.map e_impl_Definition)), (2, .ubox (e_impl_Part a0)), (5, .int .i64 (a0.Arguments.length : Int)), (28, .bool (a0.Kind == 5))] (fun P hP => ?_) ?_)
      · simp only [W0.down, simprocAttr, if_true, if_false, beq_self_eq_true, ne_eq, zz0.down]
        (try simp only [WN.down, simprocAttr, if_true, if_false, zz0.down] at hP ⊢)
        exact hP
      rcases condE h with ⟨b15, h⟩ | ⟨b15, h⟩
      · refine w_ct (congrArg AV.bool b15) ?_
        simp only [b15, Bool.not_true, Bool.not_false]
        obtain ⟨x1, e17, h⟩ := bindE h
        refine w_sreg (w_abs [(4, .bool ((a0.Arguments.length : Int) == x1.Parameters))] (fun P hP => ?_) ?_)
        · simp only [W0.down, simprocAttr, if_true, if_false, beq_self_eq_true, ne_eq, zz2.down, e17]
          (try simp only [WN.down, simprocAttr, if_true, if_false, zz0.down, e17] at hP ⊢)
          exact hP
        exact w_ret (q5 _ (q3 _ (r0 _ (.inl (w_fin [.bool ((a0.Arguments.length : Int) == x1.Parameters)] rfl (by cases someE h; rfl) (by decide) outs_nil)))))
      · refine w_cf (congrArg AV.bool b15) ?_
        simp only [b15, Bool.not_true, Bool.not_false]
        refine w_skip (n5 _ (n3 _ (.inl ?_)))
        refine w_sreg (w_abs [(4, .bool true)] (fun P hP => ?_) ?_)
        · simp only [W0.down, simprocAttr, if_true, if_false, beq_self_eq_true, ne_eq, zz0.down]
          (try simp only [WN.down, simprocAttr, if_true, if_false, zz0.down] at hP ⊢)
          exact hP
        exact w_ret (r0 _ (.inl (w_fin [.bool true] rfl (by cases someE h; rfl) (by decide) outs_nil)))

theorem ok_impl_isValue  (a0 : Int) (r : Bool) (h : impl_isValue  a0 = some r) : OkAt Cc 286 [.int .i64 a0] (.bool r) [] := by
  refine OkAt.of_wpQ (fx := [0]) Cc_ok Try.func286 rfl rfl s286 (Nat.le_of_ble_eq_true rfl) (fun Q0 r0 n0 => ?_)
  replace r0 : ∀ s, onW (Fw.Ends Cc [0] [.tmp 2] (.bool r) []) s → Q0 .ret s := r0
  replace n0 : ∀ s, onW (Fw.Ends Cc [0] [.tmp 2] (.bool r) []) s → Q0 .normal s := n0
  show wpC Cc c286 Q0 (stA [(0, .int .i64 a0)])
  refine w_sreg (w_abs [(0, .int .i64 a0)] (fun P hP => ?_) ?_)
  · simp only [W0.down, simprocAttr, if_true, if_false, beq_self_eq_true, ne_eq]
    (try simp only [WN.down, simprocAttr, if_true, if_false] at hP ⊢)
    exact hP
  obtain ⟨x1, e3, h⟩ := bindE h
  refine w_sreg (w_abs [(2, .bool x1)] (fun P hP => ?_) ?_)
  · simp only [W0.down, simprocAttr, if_true, if_false, beq_self_eq_true, ne_eq]
    refine w_call0 (ok_impl_within a0 0 63 _ e3) rfl rfl rfl rfl (.inl (by rfl)) ?_
    simp only [W0.down, simprocAttr, if_true, if_false, beq_self_eq_true, ne_eq]
    (try simp only [WN.down, simprocAttr, if_true, if_false] at hP ⊢)
    exact hP
  exact w_ret (r0 _ (.inl (w_fin [.bool x1] rfl (by cases someE h; rfl) (by decide) outs_nil)))

end Go.Proofs.Ytobljppjkklojaa
