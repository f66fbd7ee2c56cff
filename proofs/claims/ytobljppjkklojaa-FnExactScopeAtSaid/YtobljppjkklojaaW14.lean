/- Part of a proof that a law returns true for every input. No condition. -/
import Derived.Test.YtobljppjkklojaaW1x14
namespace Go.Proofs.Ytobljppjkklojaa
open Go Go.Fw Go.Sh
set_option maxRecDepth 100000
set_option linter.unusedSimpArgs false
set_option linter.unusedVariables false

theorem ok_impl_Term_valid  (a0 : impl_Term) (a1 : Int) (r : Bool) (h : impl_Term_valid  a0 a1 = some r) : OkAt Cc 269 [e_impl_Term a0, .int .i64 a1] (.bool r) [] := by
  refine OkAt.of_wpQ (fx := [0, 1]) Cc_ok Try.func269 rfl rfl s269 (Nat.le_of_ble_eq_true rfl) (fun Q0 r0 n0 => ?_)
  replace r0 : ∀ s, onW (Fw.Ends Cc [0, 1] [.tmp 4] (.bool r) []) s → Q0 .ret s := r0
  replace n0 : ∀ s, onW (Fw.Ends Cc [0, 1] [.tmp 4] (.bool r) []) s → Q0 .normal s := n0
  show wpC Cc c269 Q0 (stA [(0, e_impl_Term a0), (1, .int .i64 a1)])
  refine w_sreg (w_abs [(1, .int .i64 a1), (2, .ubox (e_impl_Term a0))] (fun P hP => ?_) ?_)
  · simp only [W0.down, simprocAttr, if_true, if_false, beq_self_eq_true, ne_eq, zz8.down]
    (try simp only [WN.down, simprocAttr, if_true, if_false, e_impl_Term] at hP ⊢)
    exact hP
  refine w_seq (fun Q2 n2 q2 x2 => ?_)
  refine w_sreg (w_abs [(1, .int .i64 a1), (2, .ubox (e_impl_Term a0)), (6, .int .i64 a0.Kind)] (fun P hP => ?_) ?_)
  · simp only [W0.down, simprocAttr, if_true, if_false, beq_self_eq_true, ne_eq, zz8.down]
    (try simp only [WN.down, simprocAttr, if_true, if_false, e_impl_Term] at hP ⊢)
    exact hP
  refine w_blk (fun Q4 n4 q4 b4 x4 => ?_)
  refine w_sreg (w_abs [(1, .int .i64 a1), (2, .ubox (e_impl_Term a0)), (6, .int .i64 a0.Kind), (7, .bool (a0.Kind == 0))] (fun P hP => ?_) ?_)
  · simp only [W0.down, simprocAttr, if_true, if_false, beq_self_eq_true, ne_eq, e_impl_Term]
    (try simp only [WN.down, simprocAttr, if_true, if_false, e_impl_Term] at hP ⊢)
    exact hP
  rcases condE h with ⟨b6, h⟩ | ⟨b6, h⟩
  · refine w_ct (congrArg AV.bool b6) ?_
    simp only [b6, Bool.not_true, Bool.not_false]
    obtain ⟨x1, e8, h⟩ := bindE h
    refine w_sreg (w_abs [(4, .bool x1)] (fun P hP => ?_) ?_)
    · simp only [W0.down, simprocAttr, if_true, if_false, beq_self_eq_true, ne_eq, zz8.down]
      refine w_call0 (ok_impl_isValue a0.Value _ e8) rfl rfl rfl rfl (.inl (by rfl)) ?_
      simp only [W0.down, simprocAttr, if_true, if_false, beq_self_eq_true, ne_eq, zz8.down]
      (try simp only [WN.down, simprocAttr, if_true, if_false, e_impl_Term] at hP ⊢)
      exact hP
    exact w_ret (q4 _ (q2 _ (r0 _ (.inl (w_fin [.bool x1] rfl (by cases someE h; rfl) (by decide) outs_nil)))))
  · refine w_cf (congrArg AV.bool b6) ?_
    simp only [b6, Bool.not_true, Bool.not_false]
    refine w_sreg (w_abs [(1, .int .i64 a1), (2, .ubox (e_impl_Term a0)), (6, .int .i64 a0.Kind), (12, .bool (a0.Kind == 1))] (fun P hP => ?_) ?_)
    · simp only [W0.down, simprocAttr, if_true, if_false, beq_self_eq_true, ne_eq, e_impl_Term]
      (try simp only [WN.down, simprocAttr, if_true, if_false, e_impl_Term] at hP ⊢)
      exact hP
    rcases condE h with ⟨b10, h⟩ | ⟨b10, h⟩
    · refine w_ct (congrArg AV.bool b10) ?_
      simp only [b10, Bool.not_true, Bool.not_false]
      obtain ⟨x2, e12, h⟩ := bindE h
      refine w_sreg (w_abs [(4, .bool x2)] (fun P hP => ?_) ?_)
      · simp only [W0.down, simprocAttr, if_true, if_false, beq_self_eq_true, ne_eq, zz8.down]
        refine w_call0 (ok_impl_within a0.Value 0 (IntKind.i64.wrap (a1 - 1)) _ e12) rfl rfl rfl rfl (.inl (by rfl)) ?_
        simp only [W0.down, simprocAttr, if_true, if_false, beq_self_eq_true, ne_eq, zz8.down]
        (try simp only [WN.down, simprocAttr, if_true, if_false, e_impl_Term] at hP ⊢)
        exact hP
      exact w_ret (q4 _ (q2 _ (r0 _ (.inl (w_fin [.bool x2] rfl (by cases someE h; rfl) (by decide) outs_nil)))))
    · refine w_cf (congrArg AV.bool b10) ?_
      simp only [b10, Bool.not_true, Bool.not_false]
      refine w_sreg (w_abs [(2, .ubox (e_impl_Term a0)), (6, .int .i64 a0.Kind), (19, .bool (a0.Kind == 2))] (fun P hP => ?_) ?_)
      · simp only [W0.down, simprocAttr, if_true, if_false, beq_self_eq_true, ne_eq, e_impl_Term]
        (try simp only [WN.down, simprocAttr, if_true, if_false, e_impl_Term] at hP ⊢)
        exact hP
      rcases condE h with ⟨b14, h⟩ | ⟨b14, h⟩
      · refine w_ct (congrArg AV.bool b14) ?_
        simp only [b14, Bool.not_true, Bool.not_false]
        obtain ⟨x3, e16, h⟩ := bindE h
        refine w_sreg (w_abs [(4, .bool x3)] (fun P hP => ?_) ?_)
        · simp only [W0.down, simprocAttr, if_true, if_false, beq_self_eq_true, ne_eq, zz8.down]
          refine w_call0 (ok_impl_within a0.Value 0 8 _ e16) rfl rfl rfl rfl (.inl (by rfl)) ?_
          simp only [W0.down, simprocAttr, if_true, if_false, beq_self_eq_true, ne_eq, zz8.down]
          (try simp only [WN.down, simprocAttr, if_true, if_false, e_impl_Term] at hP ⊢)
          exact hP
        exact w_ret (q4 _ (q2 _ (r0 _ (.inl (w_fin [.bool x3] rfl (by cases someE h; rfl) (by decide) outs_nil)))))
      · refine w_cf (congrArg AV.bool b14) ?_
        simp only [b14, Bool.not_true, Bool.not_false]
        refine w_sreg (w_abs [(2, .ubox (e_impl_Term a0)), (24, .bool (a0.Kind == 3))] (fun P hP => ?_) ?_)
        · simp only [W0.down, simprocAttr, if_true, if_false, beq_self_eq_true, ne_eq, e_impl_Term]
          (try simp only [WN.down, simprocAttr, if_true, if_false, e_impl_Term] at hP ⊢)
          exact hP
        rcases condE h with ⟨b18, h⟩ | ⟨b18, h⟩
        · refine w_ct (congrArg AV.bool b18) ?_
          simp only [b18, Bool.not_true, Bool.not_false]
          refine w_sreg (w_abs [(4, .bool (a0.Value == 0))] (fun P hP => ?_) ?_)
          · simp only [W0.down, simprocAttr, if_true, if_false, beq_self_eq_true, ne_eq, zz8.down]
            (try simp only [WN.down, simprocAttr, if_true, if_false, e_impl_Term] at hP ⊢)
            exact hP
          exact w_ret (q4 _ (q2 _ (r0 _ (.inl (w_fin [.bool (a0.Value == 0)] rfl (by cases someE h; rfl) (by decide) outs_nil)))))
        · refine w_cf (congrArg AV.bool b18) ?_
          simp only [b18, Bool.not_true, Bool.not_false]
          refine w_skip (n4 _ (n2 _ (.inl ?_)))
          refine w_sreg (w_abs [(4, .bool false)] (fun P hP => ?_) ?_)
          · simp only [W0.down, simprocAttr, if_true, if_false, beq_self_eq_true, ne_eq, e_impl_Term]
            (try simp only [WN.down, simprocAttr, if_true, if_false, e_impl_Term] at hP ⊢)
            exact hP
          exact w_ret (r0 _ (.inl (w_fin [.bool false] rfl (by cases someE h; rfl) (by decide) outs_nil)))

theorem ok_impl_Term_operands  (a0 : impl_Term) (r : Int) (h : impl_Term_operands  a0 = some r) : OkAt Cc 270 [e_impl_Term a0] (.int .i64 r) [] := by
  refine OkAt.of_wpQ (fx := [0]) Cc_ok Try.func270 rfl rfl s270 (Nat.le_of_ble_eq_true rfl) (fun Q0 r0 n0 => ?_)
  replace r0 : ∀ s, onW (Fw.Ends Cc [0] [.tmp 2] (.int .i64 r) []) s → Q0 .ret s := r0
  replace n0 : ∀ s, onW (Fw.Ends Cc [0] [.tmp 2] (.int .i64 r) []) s → Q0 .normal s := n0
  show wpC Cc c270 Q0 (stA [(0, e_impl_Term a0)])
  refine w_sreg (w_abs [(1, .ubox (e_impl_Term a0))] (fun P hP => ?_) ?_)
  · simp only [W0.down, simprocAttr, if_true, if_false, beq_self_eq_true, ne_eq, zz8.down]
    (try simp only [WN.down, simprocAttr, if_true, if_false, e_impl_Term] at hP ⊢)
    exact hP
  refine w_seq (fun Q2 n2 q2 x2 => ?_)
  refine w_sreg (w_abs [(4, .int .i64 a0.Kind)] (fun P hP => ?_) ?_)
  · simp only [W0.down, simprocAttr, if_true, if_false, beq_self_eq_true, ne_eq, zz8.down]
    (try simp only [WN.down, simprocAttr, if_true, if_false, e_impl_Term] at hP ⊢)
    exact hP
  refine w_blk (fun Q4 n4 q4 b4 x4 => ?_)
  refine w_sreg (w_abs [(4, .int .i64 a0.Kind), (5, .bool (a0.Kind == 2))] (fun P hP => ?_) ?_)
  · simp only [W0.down, simprocAttr, if_true, if_false, beq_self_eq_true, ne_eq]
    (try simp only [WN.down, simprocAttr, if_true, if_false] at hP ⊢)
    exact hP
  rcases condE h with ⟨b6, h⟩ | ⟨b6, h⟩
  · refine w_ct (congrArg AV.bool b6) ?_
    simp only [b6, Bool.not_true, Bool.not_false]
    refine w_sreg (w_abs [(2, .int .i64 2)] (fun P hP => ?_) ?_)
    · simp only [W0.down, simprocAttr, if_true, if_false, beq_self_eq_true, ne_eq]
      (try simp only [WN.down, simprocAttr, if_true, if_false] at hP ⊢)
      exact hP
    exact w_ret (q4 _ (q2 _ (r0 _ (.inl (w_fin [.int .i64 2] rfl (by cases someE h; rfl) (by decide) outs_nil)))))
  · refine w_cf (congrArg AV.bool b6) ?_
    simp only [b6, Bool.not_true, Bool.not_false]
    refine w_sreg (w_abs [(7, .bool (a0.Kind == 3))] (fun P hP => ?_) ?_)
    · simp only [W0.down, simprocAttr, if_true, if_false, beq_self_eq_true, ne_eq]
      (try simp only [WN.down, simprocAttr, if_true, if_false] at hP ⊢)
      exact hP
    rcases condE h with ⟨b9, h⟩ | ⟨b9, h⟩
    · refine w_ct (congrArg AV.bool b9) ?_
      simp only [b9, Bool.not_true, Bool.not_false]
      refine w_sreg (w_abs [(2, .int .i64 1)] (fun P hP => ?_) ?_)
      · simp only [W0.down, simprocAttr, if_true, if_false, beq_self_eq_true, ne_eq]
        (try simp only [WN.down, simprocAttr, if_true, if_false] at hP ⊢)
        exact hP
      exact w_ret (q4 _ (q2 _ (r0 _ (.inl (w_fin [.int .i64 1] rfl (by cases someE h; rfl) (by decide) outs_nil)))))
    · refine w_cf (congrArg AV.bool b9) ?_
      simp only [b9, Bool.not_true, Bool.not_false]
      refine w_skip (n4 _ (n2 _ (.inl ?_)))
      refine w_sreg (w_abs [(2, .int .i64 0)] (fun P hP => ?_) ?_)
      · simp only [W0.down, simprocAttr, if_true, if_false, beq_self_eq_true, ne_eq]
        (try simp only [WN.down, simprocAttr, if_true, if_false] at hP ⊢)
        exact hP
      exact w_ret (r0 _ (.inl (w_fin [.int .i64 0] rfl (by cases someE h; rfl) (by decide) outs_nil)))

theorem ok_impl_ValidTerms  (a0 : List impl_Term) (a1 : Int) (a2 : Int) (r : Bool) (h : impl_ValidTerms  a0 a1 a2 = some r) : OkAt Cc 200 [.slice (a0.map e_impl_Term), .int .i64 a1, .int .i64 a2] (.bool r) [] := by
  refine OkAt.of_wpQ (fx := [0, 1, 2]) Cc_ok Try.func200 rfl rfl s200 (Nat.le_of_ble_eq_true rfl) (fun Q0 r0 n0 => ?_)
  replace r0 : ∀ s, onW (Fw.Ends Cc [0, 1, 2] [.tmp 6] (.bool r) []) s → Q0 .ret s := r0
  replace n0 : ∀ s, onW (Fw.Ends Cc [0, 1, 2] [.tmp 6] (.bool r) []) s → Q0 .normal s := n0
  show wpC Cc c200 Q0 (stA [(0, .slice (a0.map e_impl_Term)), (1, .int .i64 a1), (2, .int .i64 a2)])
  refine w_sreg (w_abs [(0, .slice (a0.map e_impl_Term)), (1, .int .i64 a1), (2, .int .i64 a2)] (fun P hP => ?_) ?_)
  · simp only [W0.down, simprocAttr, if_true, if_false, beq_self_eq_true, ne_eq, e_impl_Term]
    (try simp only [WN.down, simprocAttr, if_true, if_false, e_impl_Term] at hP ⊢)
    exact hP
  refine w_seq (fun Q2 n2 q2 x2 => ?_)
  obtain ⟨x1, e4, h⟩ := bindE h
  rcases condE h with ⟨b5, h⟩ | ⟨b5, h⟩
  · refine w_sreg (w_abs [(0, .slice (a0.map e_impl_Term)), (1, .int .i64 a1), (24, .bool true)] (fun P hP => ?_) ?_)
    · simp only [W0.down, simprocAttr, if_true, if_false, beq_self_eq_true, ne_eq, zz11.down, b5]
      refine w_call0 (ok_impl_within a1 0 29 _ e4) rfl rfl rfl rfl (.inl (by rfl)) ?_
      simp only [W0.down, simprocAttr, if_true, if_false, beq_self_eq_true, ne_eq, zz11.down, b5]
      (try simp only [WN.down, simprocAttr, if_true, if_false, e_impl_Term, b5] at hP ⊢)
      exact hP
    refine w_ct rfl ?_
    refine w_sreg (w_abs [(6, .bool false)] (fun P hP => ?_) ?_)
    · simp only [W0.down, simprocAttr, if_true, if_false, beq_self_eq_true, ne_eq, e_impl_Term]
      (try simp only [WN.down, simprocAttr, if_true, if_false, e_impl_Term] at hP ⊢)
      exact hP
    exact w_ret (q2 _ (r0 _ (.inl (w_fin [.bool false] rfl (by cases someE h; rfl) (by decide) outs_nil))))
  · obtain ⟨x2, e7, h⟩ := bindE h
    rcases condE h with ⟨b8, h⟩ | ⟨b8, h⟩
    · refine w_sreg (w_abs [(0, .slice (a0.map e_impl_Term)), (1, .int .i64 a1), (24, .bool true)] (fun P hP => ?_) ?_)
      · simp only [W0.down, simprocAttr, if_true, if_false, beq_self_eq_true, ne_eq, zz11.down, b5, b8]
        refine w_call0 (ok_impl_within a1 0 29 _ e4) rfl rfl rfl rfl (.inl (by rfl)) ?_
        simp only [W0.down, simprocAttr, if_true, if_false, beq_self_eq_true, ne_eq, zz11.down, b5, b8]
        refine w_callg0 (ok_impl_within a2 1 60 _ e7) rfl rfl rfl rfl (.inl (by rfl)) ?_
        simp only [W0.down, simprocAttr, if_true, if_false, beq_self_eq_true, ne_eq, zz11.down, b5, b8]
        (try simp only [WN.down, simprocAttr, if_true, if_false, e_impl_Term, b5, b8] at hP ⊢)
        exact hP
      refine w_ct rfl ?_
      refine w_sreg (w_abs [(6, .bool false)] (fun P hP => ?_) ?_)
      · simp only [W0.down, simprocAttr, if_true, if_false, beq_self_eq_true, ne_eq, e_impl_Term]
        (try simp only [WN.down, simprocAttr, if_true, if_false, e_impl_Term] at hP ⊢)
        exact hP
      exact w_ret (q2 _ (r0 _ (.inl (w_fin [.bool false] rfl (by cases someE h; rfl) (by decide) outs_nil))))
    · obtain ⟨x3, e10, h⟩ := bindE h
      refine w_sreg (w_abs [(0, .slice (a0.map e_impl_Term)), (1, .int .i64 a1), (24, .bool (!x3))] (fun P hP => ?_) ?_)
      · simp only [W0.down, simprocAttr, if_true, if_false, beq_self_eq_true, ne_eq, zz11.down, b5, b8]
        refine w_call0 (ok_impl_within a1 0 29 _ e4) rfl rfl rfl rfl (.inl (by rfl)) ?_
        simp only [W0.down, simprocAttr, if_true, if_false, beq_self_eq_true, ne_eq, zz11.down, b5, b8]
        refine w_callg0 (ok_impl_within a2 1 60 _ e7) rfl rfl rfl rfl (.inl (by rfl)) ?_
        simp only [W0.down, simprocAttr, if_true, if_false, beq_self_eq_true, ne_eq, zz11.down, b5, b8]
        refine w_callg0 (ok_impl_within (a0.length : Int) 1 a2 _ e10) rfl rfl rfl rfl (.inl (by rfl)) ?_
        simp only [W0.down, simprocAttr, if_true, if_false, beq_self_eq_true, ne_eq, zz11.down, b5, b8]
        (try simp only [WN.down, simprocAttr, if_true, if_false, e_impl_Term, b5, b8] at hP ⊢)
        exact hP
      rcases condE h with ⟨b11, h⟩ | ⟨b11, h⟩
      · refine w_ct (congrArg AV.bool b11) ?_
        simp only [b11, Bool.not_true, Bool.not_false]
        refine w_sreg (w_abs [(6, .bool false)] (fun P hP => ?_) ?_)
        · simp only [W0.down, simprocAttr, if_true, if_false, beq_self_eq_true, ne_eq, e_impl_Term]
          (try simp only [WN.down, simprocAttr, if_true, if_false, e_impl_Term] at hP ⊢)
          exact hP
        exact w_ret (q2 _ (r0 _ (.inl (w_fin [.bool false] rfl (by cases someE h; rfl) (by decide) outs_nil))))
      · refine w_cf (congrArg AV.bool b11) ?_
        simp only [b11, Bool.not_true, Bool.not_false]
        refine w_skip (n2 _ (.inl ?_))
        refine w_sreg (w_abs [(0, .slice (a0.map e_impl_Term)), (1, .int .i64 a1), (7, .int .i64 1)] (fun P hP => ?_) ?_)
        · simp only [W0.down, simprocAttr, if_true, if_false, beq_self_eq_true, ne_eq, e_impl_Term]
          (try simp only [WN.down, simprocAttr, if_true, if_false, e_impl_Term] at hP ⊢)
          exact hP
        refine w_seq (fun Q14 n14 q14 x14 => ?_)
        refine w_sreg (w_abs [(1, .int .i64 a1), (7, .int .i64 1), (25, .slice (a0.map e_impl_Term)), (26, .int .i64 (a0.length : Int)), (27, .int .i64 0)] (fun P hP => ?_) ?_)
        · simp only [W0.down, simprocAttr, if_true, if_false, beq_self_eq_true, ne_eq, zz11.down]
          (try simp only [WN.down, simprocAttr, if_true, if_false, e_impl_Term] at hP ⊢)
          exact hP
        refine w_blk (fun Q16 n16 q16 b16 x16 => ?_)
        have L16 : ∀ (n : Nat) (v7_16 : Int) (v27_16 : Int), impl_ValidTerms_l16 a0 a1 n v7_16 v27_16 = some r → lpC Cc c200_17 Q16 (stA [(1, .int .i64 a1), (7, .int .i64 v7_16), (25, .slice (a0.map e_impl_Term)), (26, .int .i64 (a0.length : Int)), (27, .int .i64 v27_16)]) := by
          intro m16
          induction m16 with
          | zero => intro v7_16 v27_16 h; cases (show none = some r from h)
          | succ m16 ih16 =>
            intro v7_16 v27_16 h
            replace h : impl_ValidTerms_b16 (impl_ValidTerms_l16 a0 a1 m16) a0 a1 v7_16 v27_16 = some r := h
            refine lpC_step (fun Q17 n17 q17 x17 => ?_)
            refine w_sreg (w_abs [(1, .int .i64 a1), (7, .int .i64 v7_16), (25, .slice (a0.map e_impl_Term)), (26, .int .i64 (a0.length : Int)), (27, .int .i64 v27_16), (28, .bool (decide (v27_16 < (a0.length : Int))))] (fun P hP => ?_) ?_)
            · simp only [W0.down, simprocAttr, if_true, if_false, beq_self_eq_true, ne_eq, e_impl_Term]
              (try simp only [WN.down, simprocAttr, if_true, if_false, e_impl_Term] at hP ⊢)
              exact hP
            refine w_seq (fun Q19 n19 q19 x19 => ?_)
            rcases condE h with ⟨b20, h⟩ | ⟨b20, h⟩
            · refine w_ct (congrArg AV.bool b20) ?_
              simp only [b20, Bool.not_true, Bool.not_false]
              refine w_skip (n19 _ (.inl ?_))
              refine w_seq (fun Q21 n21 q21 x21 => ?_)
              refine w_blk (fun Q22 n22 q22 b22 x22 => ?_)
              obtain ⟨x4, e24, h⟩ := bindE h
              refine w_sreg (w_abs [(1, .int .i64 a1), (7, .int .i64 v7_16), (9, .ubox (e_impl_Term x4)), (25, .slice (a0.map e_impl_Term)), (26, .int .i64 (a0.length : Int)), (27, .int .i64 v27_16)] (fun P hP => ?_) ?_)
              · simp only [W0.down, simprocAttr, if_true, if_false, beq_self_eq_true, ne_eq, zz11.down, e24]
                (try simp only [WN.down, simprocAttr, if_true, if_false, e_impl_Term, e24] at hP ⊢)
                exact hP
              refine w_seq (fun Q25 n25 q25 x25 => ?_)
              rcases condE h with ⟨b27, h⟩ | ⟨b27, h⟩
              · refine w_sreg (w_abs [(1, .int .i64 a1), (7, .int .i64 v7_16), (9, .ubox (e_impl_Term x4)), (25, .slice (a0.map e_impl_Term)), (26, .int .i64 (a0.length : Int)), (27, .int .i64 v27_16), (38, .bool true)] (fun P hP => ?_) ?_)
                · simp only [W0.down, simprocAttr, if_true, if_false, beq_self_eq_true, ne_eq, zz8.down, b27]
                  (try simp only [WN.down, simprocAttr, if_true, if_false, e_impl_Term, b27] at hP ⊢)
                  exact hP
                refine w_ct rfl ?_
                refine w_sreg (w_abs [(6, .bool false)] (fun P hP => ?_) ?_)
                · simp only [W0.down, simprocAttr, if_true, if_false, beq_self_eq_true, ne_eq, e_impl_Term]
                  (try simp only [WN.down, simprocAttr, if_true, if_false, e_impl_Term] at hP ⊢)
                  exact hP
                exact w_ret (q25 _ (q22 _ (q21 _ (q17 _ (q16 _ (q14 _ (r0 _ (.inl (w_fin [.bool false] rfl (by cases someE h; rfl) (by decide) outs_nil)))))))))
              · obtain ⟨x5, e29, h⟩ := bindE h
                refine w_sreg (w_abs [(1, .int .i64 a1), (7, .int .i64 v7_16), (9, .ubox (e_impl_Term x4)), (25, .slice (a0.map e_impl_Term)), (26, .int .i64 (a0.length : Int)), (27, .int .i64 v27_16), (38, .bool (!x5))] (fun P hP => ?_) ?_)
                · simp only [W0.down, simprocAttr, if_true, if_false, beq_self_eq_true, ne_eq, zz8.down, b27]
                  refine w_callg0 (ok_impl_Term_valid x4 a1 _ e29) rfl rfl rfl rfl (.inl (by rfl)) ?_
                  simp only [W0.down, simprocAttr, if_true, if_false, beq_self_eq_true, ne_eq, zz8.down, b27]
                  (try simp only [WN.down, simprocAttr, if_true, if_false, e_impl_Term, b27] at hP ⊢)
                  exact hP
                rcases condE h with ⟨b30, h⟩ | ⟨b30, h⟩
                · refine w_ct (congrArg AV.bool b30) ?_
                  simp only [b30, Bool.not_true, Bool.not_false]
                  refine w_sreg (w_abs [(6, .bool false)] (fun P hP => ?_) ?_)
                  · simp only [W0.down, simprocAttr, if_true, if_false, beq_self_eq_true, ne_eq, e_impl_Term]
                    (try simp only [WN.down, simprocAttr, if_true, if_false, e_impl_Term] at hP ⊢)
                    exact hP
                  exact w_ret (q25 _ (q22 _ (q21 _ (q17 _ (q16 _ (q14 _ (r0 _ (.inl (w_fin [.bool false] rfl (by cases someE h; rfl) (by decide) outs_nil)))))))))
                · refine w_cf (congrArg AV.bool b30) ?_
                  simp only [b30, Bool.not_true, Bool.not_false]
                  refine w_skip (n25 _ (.inl ?_))
                  obtain ⟨x6, e33, h⟩ := bindE h
                  refine w_reg (w_abs [(1, .int .i64 a1), (7, .int .i64 (IntKind.i64.wrap (v7_16 + (IntKind.i64.wrap (x6 - 1))))), (25, .slice (a0.map e_impl_Term)), (26, .int .i64 (a0.length : Int)), (27, .int .i64 v27_16)] (fun P hP => ?_) ?_)
                  · simp only [W0.down, simprocAttr, if_true, if_false, beq_self_eq_true, ne_eq, zz8.down]
                    refine w_call0 (ok_impl_Term_operands x4 _ e33) rfl rfl rfl rfl (.inl (by rfl)) ?_
                    simp only [W0.down, simprocAttr, if_true, if_false, beq_self_eq_true, ne_eq, zz8.down]
                    (try simp only [WN.down, simprocAttr, if_true, if_false, e_impl_Term] at hP ⊢)
                    exact hP
                  refine n22 _ (n21 _ (.inl ?_))
                  refine w_reg (w_abs [(1, .int .i64 a1), (7, .int .i64 (IntKind.i64.wrap (v7_16 + (IntKind.i64.wrap (x6 - 1))))), (25, .slice (a0.map e_impl_Term)), (26, .int .i64 (a0.length : Int)), (27, .int .i64 (IntKind.i64.wrap (v27_16 + 1)))] (fun P hP => ?_) ?_)
                  · simp only [W0.down, simprocAttr, if_true, if_false, beq_self_eq_true, ne_eq, e_impl_Term]
                    (try simp only [WN.down, simprocAttr, if_true, if_false, e_impl_Term] at hP ⊢)
                    exact hP
                  exact n17 _ (.inr ⟨_, weak_eq rfl, ih16 (IntKind.i64.wrap (v7_16 + (IntKind.i64.wrap (x6 - 1)))) (IntKind.i64.wrap (v27_16 + 1)) h⟩)
            · refine w_cf (congrArg AV.bool b20) ?_
              simp only [b20, Bool.not_true, Bool.not_false]
              refine w_ex (x19 0 _ (x17 0 _ (b16 _ (n14 _ (.inl ?_)))))
              refine w_sreg (w_abs [(6, .bool (v7_16 == 0))] (fun P hP => ?_) ?_)
              · simp only [W0.down, simprocAttr, if_true, if_false, beq_self_eq_true, ne_eq, e_impl_Term]
                (try simp only [WN.down, simprocAttr, if_true, if_false, e_impl_Term] at hP ⊢)
                exact hP
              exact w_ret (r0 _ (.inl (w_fin [.bool (v7_16 == 0)] rfl (by cases someE h; rfl) (by decide) outs_nil)))
        obtain ⟨n, h⟩ := limE h
        exact w_loop (.inr ⟨_, weak_eq rfl, L16 n 1 0 h⟩)

theorem ok_impl_Part_reason_c1_2  (a0 : List impl_Term) (a1 : impl_place) (r : Bool) (h : impl_Part_reason_c1_2  a0 a1 = some r) : OkAt Cc 281 [.slice (a0.map e_impl_Term), .ref (e_impl_place a1)] (.bool r) [] := by
  refine OkAt.of_wpQ (fx := [0, 1]) Cc_ok Try.func281 rfl rfl s281 (Nat.le_of_ble_eq_true rfl) (fun Q0 r0 n0 => ?_)
  replace r0 : ∀ s, onW (Fw.Ends Cc [0, 1] [.tmp 3] (.bool r) []) s → Q0 .ret s := r0
  replace n0 : ∀ s, onW (Fw.Ends Cc [0, 1] [.tmp 3] (.bool r) []) s → Q0 .normal s := n0
  show wpC Cc c281 Q0 (stA [(0, .slice (a0.map e_impl_Term)), (1, .ref (e_impl_place a1))])
  refine w_sreg (w_abs [(0, .slice (a0.map e_impl_Term)), (1, .ref (e_impl_place a1))] (fun P hP => ?_) ?_)
  · simp only [W0.down, simprocAttr, if_true, if_false, beq_self_eq_true, ne_eq, e_impl_Term, e_impl_place]
    (try simp only [WN.down, simprocAttr, if_true, if_false, e_impl_Term, e_impl_place] at hP ⊢)
    exact hP
  obtain ⟨x1, e3, h⟩ := bindE h
  refine w_sreg (w_abs [(3, .bool (!x1))] (fun P hP => ?_) ?_)
  · simp only [W0.down, simprocAttr, if_true, if_false, beq_self_eq_true, ne_eq, tt2, tt4, tt185, e_impl_Term, e_impl_place]
    refine w_call0 (ok_impl_ValidTerms a0 a1.scope 15 _ e3) rfl rfl rfl rfl (.inl (by rfl)) ?_
    simp only [W0.down, simprocAttr, if_true, if_false, beq_self_eq_true, ne_eq, tt2, tt4, tt185, e_impl_Term, e_impl_place]
    (try simp only [WN.down, simprocAttr, if_true, if_false, e_impl_Term, e_impl_place] at hP ⊢)
    exact hP
  exact w_ret (r0 _ (.inl (w_fin [.bool (!x1)] rfl (by cases someE h; rfl) (by decide) outs_nil)))

theorem ok_slices_IndexFunc_impl_Term__impl_Part_reason_c1  (a0 : List (List impl_Term)) (a1 : impl_place) (r : Int) (h : slices_IndexFunc_impl_Term__impl_Part_reason_c1  a0 a1 = some r) : OkAt Cc 320 [.slice (a0.map e_s_impl_Term), .fn 281 [.ref (e_impl_place a1)]] (.int .i64 r) [] := by
  refine OkAt.of_wpQ (fx := [0, 1]) Cc_ok Try.func320 rfl rfl s320 (Nat.le_of_ble_eq_true rfl) (fun Q0 r0 n0 => ?_)
  replace r0 : ∀ s, onW (Fw.Ends Cc [0, 1] [.tmp 4] (.int .i64 r) []) s → Q0 .ret s := r0
  replace n0 : ∀ s, onW (Fw.Ends Cc [0, 1] [.tmp 4] (.int .i64 r) []) s → Q0 .normal s := n0
  show wpC Cc c320 Q0 (stA [(0, .slice (a0.map e_s_impl_Term)), (1, .fn 281 [.ref (e_impl_place a1)])])
  refine w_sreg (w_abs [(0, .slice (a0.map e_s_impl_Term)), (1, .fn 281 [.ref (e_impl_place a1)])] (fun P hP => ?_) ?_)
  · simp only [W0.down, simprocAttr, if_true, if_false, beq_self_eq_true, ne_eq, zz12.down]
    (try simp only [WN.down, simprocAttr, if_true, if_false, zz12.down] at hP ⊢)
    exact hP
  refine w_seq (fun Q2 n2 q2 x2 => ?_)
  refine w_sreg (w_abs [(0, .slice (a0.map e_s_impl_Term)), (1, .fn 281 [.ref (e_impl_place a1)]), (7, .int .i64 (a0.length : Int)), (8, .int .i64 0)] (fun P hP => ?_) ?_)
  · simp only [W0.down, simprocAttr, if_true, if_false, beq_self_eq_true, ne_eq, tt2, tt40, tt131, tt195, e_impl_Term, e_impl_place, e_s_impl_Term]
    (try simp only [WN.down, simprocAttr, if_true, if_false, zz12.down] at hP ⊢)
    exact hP
  refine w_blk (fun Q4 n4 q4 b4 x4 => ?_)
  have L6 : ∀ (n : Nat) (v8_6 : Int), slices_IndexFunc_impl_Term__impl_Part_reason_c1_l6 a0 a1 n v8_6 = some r → lpC Cc c320_7 Q4 (stA [(0, .slice (a0.map e_s_impl_Term)), (1, .fn 281 [.ref (e_impl_place a1)]), (7, .int .i64 (a0.length : Int)), (8, .int .i64 v8_6)]) := by
    intro m6
    induction m6 with
    | zero => intro v8_6 h; cases (show none = some r from h)
    | succ m6 ih6 =>
      intro v8_6 h
      replace h : slices_IndexFunc_impl_Term__impl_Part_reason_c1_b6 (slices_IndexFunc_impl_Term__impl_Part_reason_c1_l6 a0 a1 m6) a0 a1 v8_6 = some r := h
      refine lpC_step (fun Q5 n5 q5 x5 => ?_)
      refine w_sreg (w_abs [(0, .slice (a0.map e_s_impl_Term)), (1, .fn 281 [.ref (e_impl_place a1)]), (7, .int .i64 (a0.length : Int)), (8, .int .i64 v8_6), (9, .bool (decide (v8_6 < (a0.length : Int))))] (fun P hP => ?_) ?_)
      · simp only [W0.down, simprocAttr, if_true, if_false, beq_self_eq_true, ne_eq, zz12.down]
        (try simp only [WN.down, simprocAttr, if_true, if_false, zz12.down] at hP ⊢)
        exact hP
      refine w_seq (fun Q7 n7 q7 x7 => ?_)
      rcases condE h with ⟨b8, h⟩ | ⟨b8, h⟩
      · refine w_ct (congrArg AV.bool b8) ?_
        simp only [b8, Bool.not_true, Bool.not_false]
        refine w_skip (n7 _ (.inl ?_))
        refine w_seq (fun Q9 n9 q9 x9 => ?_)
        refine w_blk (fun Q10 n10 q10 b10 x10 => ?_)
        refine w_sreg (w_abs [(0, .slice (a0.map e_s_impl_Term)), (1, .fn 281 [.ref (e_impl_place a1)]), (5, .int .i64 v8_6), (7, .int .i64 (a0.length : Int)), (8, .int .i64 v8_6)] (fun P hP => ?_) ?_)
        · simp only [W0.down, simprocAttr, if_true, if_false, beq_self_eq_true, ne_eq, zz12.down]
          (try simp only [WN.down, simprocAttr, if_true, if_false, zz12.down] at hP ⊢)
          exact hP
        obtain ⟨x1, e13, h⟩ := bindE h
        obtain ⟨x2, e14, h⟩ := bindE h
        refine w_sreg (w_abs [(0, .slice (a0.map e_s_impl_Term)), (1, .fn 281 [.ref (e_impl_place a1)]), (5, .int .i64 v8_6), (7, .int .i64 (a0.length : Int)), (8, .int .i64 v8_6), (16, .bool x2)] (fun P hP => ?_) ?_)
        · simp only [W0.down, simprocAttr, if_true, if_false, beq_self_eq_true, ne_eq, tt2, tt40, tt131, tt195, e_impl_Term, e_impl_place, e_s_impl_Term, e13]
          refine w_call0 (ok_impl_Part_reason_c1_2 x1 a1 _ e14) rfl rfl rfl rfl (.inl (by rfl)) ?_
          simp only [W0.down, simprocAttr, if_true, if_false, beq_self_eq_true, ne_eq, tt2, tt40, tt131, tt195, e_impl_Term, e_impl_place, e_s_impl_Term, e13]
          (try simp only [WN.down, simprocAttr, if_true, if_false, zz12.down, e13] at hP ⊢)
          exact hP
        rcases condE h with ⟨b15, h⟩ | ⟨b15, h⟩
        · refine w_ct (congrArg AV.bool b15) ?_
          simp only [b15, Bool.not_true, Bool.not_false]
          refine w_sreg (w_abs [(4, .int .i64 v8_6)] (fun P hP => ?_) ?_)
          · simp only [W0.down, simprocAttr, if_true, if_false, beq_self_eq_true, ne_eq, zz12.down]
            (try simp only [WN.down, simprocAttr, if_true, if_false, zz12.down] at hP ⊢)
            exact hP
          exact w_ret (q10 _ (q9 _ (q5 _ (q4 _ (q2 _ (r0 _ (.inl (w_fin [.int .i64 v8_6] rfl (by cases someE h; rfl) (by decide) outs_nil))))))))
        · refine w_cf (congrArg AV.bool b15) ?_
          simp only [b15, Bool.not_true, Bool.not_false]
          refine w_skip (n10 _ (n9 _ (.inl ?_)))
          refine w_reg (w_abs [(0, .slice (a0.map e_s_impl_Term)), (1, .fn 281 [.ref (e_impl_place a1)]), (7, .int .i64 (a0.length : Int)), (8, .int .i64 (IntKind.i64.wrap (v8_6 + 1)))] (fun P hP => ?_) ?_)
          · simp only [W0.down, simprocAttr, if_true, if_false, beq_self_eq_true, ne_eq, zz12.down]
            (try simp only [WN.down, simprocAttr, if_true, if_false, zz12.down] at hP ⊢)
            exact hP
          exact n5 _ (.inr ⟨_, weak_eq rfl, ih6 (IntKind.i64.wrap (v8_6 + 1)) h⟩)
      · refine w_cf (congrArg AV.bool b8) ?_
        simp only [b8, Bool.not_true, Bool.not_false]
        refine w_ex (x7 0 _ (x5 0 _ (b4 _ (n2 _ (.inl ?_)))))
        refine w_sreg (w_abs [(4, .int .i64 (-1))] (fun P hP => ?_) ?_)
        · simp only [W0.down, simprocAttr, if_true, if_false, beq_self_eq_true, ne_eq, zz12.down]
          (try simp only [WN.down, simprocAttr, if_true, if_false, zz12.down] at hP ⊢)
          exact hP
        exact w_ret (r0 _ (.inl (w_fin [.int .i64 (-1)] rfl (by cases someE h; rfl) (by decide) outs_nil)))
  obtain ⟨n, h⟩ := limE h
  exact w_loop (.inr ⟨_, weak_eq rfl, L6 n 0 h⟩)

theorem ok_slices_ContainsFunc_impl_Term__impl_Part_reason_c1  (a0 : List (List impl_Term)) (a1 : impl_place) (r : Bool) (h : slices_ContainsFunc_impl_Term__impl_Part_reason_c1  a0 a1 = some r) : OkAt Cc 280 [.slice (a0.map e_s_impl_Term), .fn 281 [.ref (e_impl_place a1)]] (.bool r) [] := by
  refine OkAt.of_wpQ (fx := [0, 1]) Cc_ok Try.func280 rfl rfl s280 (Nat.le_of_ble_eq_true rfl) (fun Q0 r0 n0 => ?_)
  replace r0 : ∀ s, onW (Fw.Ends Cc [0, 1] [.tmp 4] (.bool r) []) s → Q0 .ret s := r0
  replace n0 : ∀ s, onW (Fw.Ends Cc [0, 1] [.tmp 4] (.bool r) []) s → Q0 .normal s := n0
  show wpC Cc c280 Q0 (stA [(0, .slice (a0.map e_s_impl_Term)), (1, .fn 281 [.ref (e_impl_place a1)])])
  refine w_sreg (w_abs [(0, .slice (a0.map e_s_impl_Term)), (1, .fn 281 [.ref (e_impl_place a1)])] (fun P hP => ?_) ?_)
  · simp only [W0.down, simprocAttr, if_true, if_false, beq_self_eq_true, ne_eq, zz12.down]
    (try simp only [WN.down, simprocAttr, if_true, if_false, zz12.down] at hP ⊢)
    exact hP
  obtain ⟨x1, e3, h⟩ := bindE h
  refine w_sreg (w_abs [(4, .bool (decide (0 ≤ x1)))] (fun P hP => ?_) ?_)
  · simp only [W0.down, simprocAttr, if_true, if_false, beq_self_eq_true, ne_eq, zz12.down]
    refine w_call0 (ok_slices_IndexFunc_impl_Term__impl_Part_reason_c1 a0 a1 _ e3) rfl rfl rfl rfl (.inl (by rfl)) ?_
    simp only [W0.down, simprocAttr, if_true, if_false, beq_self_eq_true, ne_eq, zz12.down]
    (try simp only [WN.down, simprocAttr, if_true, if_false, zz12.down] at hP ⊢)
    exact hP
  exact w_ret (r0 _ (.inl (w_fin [.bool (decide (0 ≤ x1))] rfl (by cases someE h; rfl) (by decide) outs_nil)))

theorem ok_impl_Part_reason  (a0 : impl_Part) (a1 : List impl_Definition) (a2 : impl_place) (r : Int) (h : impl_Part_reason  a0 a1 a2 = some r) : OkAt Cc 218 [e_impl_Part a0, .slice (a1.map e_impl_Definition), e_impl_place a2] (.int .i64 r) [] := by
  refine OkAt.of_wpQ (fx := [0, 1, 2]) Cc_ok Try.func218 rfl rfl s218 (Nat.le_of_ble_eq_true rfl) (fun Q0 r0 n0 => ?_)
  replace r0 : ∀ s, onW (Fw.Ends Cc [0, 1, 2] [.tmp 6] (.int .i64 r) []) s → Q0 .ret s := r0
  replace n0 : ∀ s, onW (Fw.Ends Cc [0, 1, 2] [.tmp 6] (.int .i64 r) []) s → Q0 .normal s := n0
  show wpC Cc c218 Q0 (stA [(0, e_impl_Part a0), (1, .slice (a1.map e_impl_Definition)), (2, e_impl_place a2)])
  refine w_sreg (w_abs [(1, .slice (a1.map e_impl_Definition)), (3, .ubox (e_impl_Part a0)), (5, .ubox (e_impl_place a2))] (fun P hP => ?_) ?_)
  · simp only [W0.down, simprocAttr, if_true, if_false, beq_self_eq_true, ne_eq, tt2, tt4, tt9, tt40, tt131, tt185, tt195, tt249, e_impl_Definition, e_impl_Part, e_impl_Term, e_impl_place, e_s_impl_Term]
    (try simp only [WN.down, simprocAttr, if_true, if_false, zz3.down] at hP ⊢)
    exact hP
  refine w_seq (fun Q2 n2 q2 x2 => ?_)
  refine w_blk (fun Q3 n3 q3 b3 x3 => ?_)
  obtain ⟨x1, e5, h⟩ := bindE h
  refine w_sreg (w_abs [(1, .slice (a1.map e_impl_Definition)), (3, .ubox (e_impl_Part a0)), (5, .ubox (e_impl_place a2)), (7, .bool (!x1))] (fun P hP => ?_) ?_)
  · simp only [W0.down, simprocAttr, if_true, if_false, beq_self_eq_true, ne_eq, zz15.down]
    refine w_call0 (ok_impl_Part_kindOk a0 _ e5) rfl rfl rfl rfl (.inl (by rfl)) ?_
    simp only [W0.down, simprocAttr, if_true, if_false, beq_self_eq_true, ne_eq, zz15.down]
    (try simp only [WN.down, simprocAttr, if_true, if_false, zz3.down] at hP ⊢)
    exact hP
  rcases condE h with ⟨b6, h⟩ | ⟨b6, h⟩
  · refine w_ct (congrArg AV.bool b6) ?_
    simp only [b6, Bool.not_true, Bool.not_false]
    refine w_sreg (w_abs [(6, .int .i64 2)] (fun P hP => ?_) ?_)
    · simp only [W0.down, simprocAttr, if_true, if_false, beq_self_eq_true, ne_eq, zz3.down]
      (try simp only [WN.down, simprocAttr, if_true, if_false, zz3.down] at hP ⊢)
      exact hP
    exact w_ret (q3 _ (q2 _ (r0 _ (.inl (w_fin [.int .i64 2] rfl (by cases someE h; rfl) (by decide) outs_nil)))))
  · refine w_cf (congrArg AV.bool b6) ?_
    simp only [b6, Bool.not_true, Bool.not_false]
    have K12 : ∀ (v11_12 : Bool), impl_Part_reason_k12 a0 a1 a2 v11_12 = some r → wpC Cc c218_12 Q3 (stA [(1, .slice (a1.map e_impl_Definition)), (3, .ubox (e_impl_Part a0)), (5, .ubox (e_impl_place a2)), (11, .bool v11_12)]) := by
      intro v11_12 h
      rcases condE h with ⟨b8, h⟩ | ⟨b8, h⟩
      · refine w_ct (congrArg AV.bool b8) ?_
        simp only [b8, Bool.not_true, Bool.not_false]
        refine w_sreg (w_abs [(6, .int .i64 3)] (fun P hP => ?_) ?_)
        · simp only [W0.down, simprocAttr, if_true, if_false, beq_self_eq_true, ne_eq, zz3.down]
          (try simp only [WN.down, simprocAttr, if_true, if_false, zz3.down] at hP ⊢)
          exact hP
        exact w_ret (q3 _ (q2 _ (r0 _ (.inl (w_fin [.int .i64 3] rfl (by cases someE h; rfl) (by decide) outs_nil)))))
      · refine w_cf (congrArg AV.bool b8) ?_
        simp only [b8, Bool.not_true, Bool.not_false]
        have K18 : ∀ (v26_18 : Bool), impl_Part_reason_k18 a0 a1 a2 v26_18 = some r → wpC Cc c218_18 Q3 (stA [(1, .slice (a1.map e_impl_Definition)), (3, .ubox (e_impl_Part a0)), (5, .ubox (e_impl_place a2)), (26, .bool v26_18)]) := by
          intro v26_18 h
          rcases condE h with ⟨b10, h⟩ | ⟨b10, h⟩
          · refine w_ct (congrArg AV.bool b10) ?_
            simp only [b10, Bool.not_true, Bool.not_false]
            refine w_sreg (w_abs [(6, .int .i64 4)] (fun P hP => ?_) ?_)
            · simp only [W0.down, simprocAttr, if_true, if_false, beq_self_eq_true, ne_eq, zz3.down]
              (try simp only [WN.down, simprocAttr, if_true, if_false, zz3.down] at hP ⊢)
              exact hP
            exact w_ret (q3 _ (q2 _ (r0 _ (.inl (w_fin [.int .i64 4] rfl (by cases someE h; rfl) (by decide) outs_nil)))))
          · refine w_cf (congrArg AV.bool b10) ?_
            simp only [b10, Bool.not_true, Bool.not_false]
            obtain ⟨x2, e13, h⟩ := bindE h
            refine w_sreg (w_abs [(3, .ubox (e_impl_Part a0)), (5, .ubox (e_impl_place a2)), (49, .bool (!x2))] (fun P hP => ?_) ?_)
            · simp only [W0.down, simprocAttr, if_true, if_false, beq_self_eq_true, ne_eq, zz15.down]
              refine w_call0 (ok_impl_Part_countOk a0 a1 _ e13) rfl rfl rfl rfl (.inl (by rfl)) ?_
              simp only [W0.down, simprocAttr, if_true, if_false, beq_self_eq_true, ne_eq, zz15.down]
              (try simp only [WN.down, simprocAttr, if_true, if_false, zz3.down] at hP ⊢)
              exact hP
            rcases condE h with ⟨b14, h⟩ | ⟨b14, h⟩
            · refine w_ct (congrArg AV.bool b14) ?_
              simp only [b14, Bool.not_true, Bool.not_false]
              refine w_sreg (w_abs [(6, .int .i64 5)] (fun P hP => ?_) ?_)
              · simp only [W0.down, simprocAttr, if_true, if_false, beq_self_eq_true, ne_eq, zz16.down]
                (try simp only [WN.down, simprocAttr, if_true, if_false, zz16.down] at hP ⊢)
                exact hP
              exact w_ret (q3 _ (q2 _ (r0 _ (.inl (w_fin [.int .i64 5] rfl (by cases someE h; rfl) (by decide) outs_nil)))))
            · refine w_cf (congrArg AV.bool b14) ?_
              simp only [b14, Bool.not_true, Bool.not_false]
              refine w_sreg (w_abs [(3, .ubox (e_impl_Part a0)), (5, .ubox (e_impl_place a2)), (54, .bool ((a0.Kind == 5) && (!a2.behind)))] (fun P hP => ?_) ?_)
              · rcases Bool.eq_false_or_eq_true (a0.Kind == 5) with s17 | s17
                · simp only [W0.down, simprocAttr, if_true, if_false, beq_self_eq_true, ne_eq, zz29.down, s17]
                  (try simp only [WN.down, simprocAttr, if_true, if_false, zz16.down, s17] at hP ⊢)
                  exact hP
                · simp only [W0.down, simprocAttr, if_true, if_false, beq_self_eq_true, ne_eq, zz29.down, s17]
                  (try simp only [WN.down, simprocAttr, if_true, if_false, zz16.down, s17] at hP ⊢)
                  exact hP
              rcases condE h with ⟨b18, h⟩ | ⟨b18, h⟩
              · refine w_ct (congrArg AV.bool b18) ?_
                simp only [b18, Bool.not_true, Bool.not_false]
                refine w_sreg (w_abs [(6, .int .i64 6)] (fun P hP => ?_) ?_)
                · simp only [W0.down, simprocAttr, if_true, if_false, beq_self_eq_true, ne_eq, zz16.down]
                  (try simp only [WN.down, simprocAttr, if_true, if_false, zz16.down] at hP ⊢)
                  exact hP
                exact w_ret (q3 _ (q2 _ (r0 _ (.inl (w_fin [.int .i64 6] rfl (by cases someE h; rfl) (by decide) outs_nil)))))
              · refine w_cf (congrArg AV.bool b18) ?_
                simp only [b18, Bool.not_true, Bool.not_false]
                refine w_sreg (w_abs [(3, .ubox (e_impl_Part a0)), (5, .ubox (e_impl_place a2)), (63, .bool ((a0.Kind == 4) && (decide (6 ≤ a2.scope))))] (fun P hP => ?_) ?_)
                · rcases Bool.eq_false_or_eq_true (a0.Kind == 4) with s21 | s21
                  · simp only [W0.down, simprocAttr, if_true, if_false, beq_self_eq_true, ne_eq, zz29.down, s21]
                    (try simp only [WN.down, simprocAttr, if_true, if_false, zz16.down, s21] at hP ⊢)
                    exact hP
                  · simp only [W0.down, simprocAttr, if_true, if_false, beq_self_eq_true, ne_eq, zz29.down, s21]
                    (try simp only [WN.down, simprocAttr, if_true, if_false, zz16.down, s21] at hP ⊢)
                    exact hP
                rcases condE h with ⟨b22, h⟩ | ⟨b22, h⟩
                · refine w_ct (congrArg AV.bool b22) ?_
                  simp only [b22, Bool.not_true, Bool.not_false]
                  refine w_sreg (w_abs [(6, .int .i64 7)] (fun P hP => ?_) ?_)
                  · simp only [W0.down, simprocAttr, if_true, if_false, beq_self_eq_true, ne_eq, zz16.down]
                    (try simp only [WN.down, simprocAttr, if_true, if_false, zz16.down] at hP ⊢)
                    exact hP
                  exact w_ret (q3 _ (q2 _ (r0 _ (.inl (w_fin [.int .i64 7] rfl (by cases someE h; rfl) (by decide) outs_nil)))))
                · refine w_cf (congrArg AV.bool b22) ?_
                  simp only [b22, Bool.not_true, Bool.not_false]
                  obtain ⟨x3, e25, h⟩ := bindE h
                  refine w_sreg (w_abs [(72, .bool x3)] (fun P hP => ?_) ?_)
                  · simp only [W0.down, simprocAttr, if_true, if_false, beq_self_eq_true, ne_eq, zz34.down]
                    refine w_call0 (ok_slices_ContainsFunc_impl_Term__impl_Part_reason_c1 a0.Arguments a2 _ e25) rfl rfl (by simp only [W0.down, simprocAttr, if_true, if_false, beq_self_eq_true, ne_eq, zz34.down, view_s, view_h, viewH_s, share_s] <;> rfl) rfl (.inr (by rfl)) ?_
                    simp only [W0.down, simprocAttr, if_true, if_false, beq_self_eq_true, ne_eq, zz34.down]
                    (try simp only [WN.down, simprocAttr, if_true, if_false, zz16.down] at hP ⊢)
                    exact hP
                  rcases condE h with ⟨b26, h⟩ | ⟨b26, h⟩
                  · refine w_ct (congrArg AV.bool b26) ?_
                    simp only [b26, Bool.not_true, Bool.not_false]
                    refine w_sreg (w_abs [(6, .int .i64 8)] (fun P hP => ?_) ?_)
                    · simp only [W0.down, simprocAttr, if_true, if_false, beq_self_eq_true, ne_eq]
                      (try simp only [WN.down, simprocAttr, if_true, if_false] at hP ⊢)
                      exact hP
                    exact w_ret (q3 _ (q2 _ (r0 _ (.inl (w_fin [.int .i64 8] rfl (by cases someE h; rfl) (by decide) outs_nil)))))
                  · refine w_cf (congrArg AV.bool b26) ?_
                    simp only [b26, Bool.not_true, Bool.not_false]
                    refine w_skip (n3 _ (n2 _ (.inl ?_)))
                    refine w_sreg (w_abs [(6, .int .i64 0)] (fun P hP => ?_) ?_)
                    · simp only [W0.down, simprocAttr, if_true, if_false, beq_self_eq_true, ne_eq]
                      (try simp only [WN.down, simprocAttr, if_true, if_false] at hP ⊢)
                      exact hP
                    exact w_ret (r0 _ (.inl (w_fin [.int .i64 0] rfl (by cases someE h; rfl) (by decide) outs_nil)))
        rcases condE h with ⟨b30, h⟩ | ⟨b30, h⟩
        · obtain ⟨x4, e31, h⟩ := bindE h
          rcases condE h with ⟨b32, h⟩ | ⟨b32, h⟩
          · refine w_sregW (w_abs (K := onW _) [(1, .slice (a1.map e_impl_Definition)), (3, .ubox (e_impl_Part a0)), (5, .ubox (e_impl_place a2)), (26, .bool true)] (fun P hP => ?_) ?_)
            · simp only [W0.down, simprocAttr, if_true, if_false, beq_self_eq_true, ne_eq, zz18.down, b30, b32]
              refine w_callg0 (ok_impl_within a0.Number 1 7 _ e31) rfl rfl rfl rfl (.inl (by rfl)) ?_
              simp only [W0.down, simprocAttr, if_true, if_false, beq_self_eq_true, ne_eq, zz18.down, b30, b32]
              (try simp only [WN.down, simprocAttr, if_true, if_false, zz3.down, b30, b32] at hP ⊢)
              exact hP
            exact .inr ⟨_, weak_eq rfl, K18 true h⟩
          · rcases condE h with ⟨b33, h⟩ | ⟨b33, h⟩
            · obtain ⟨x5, e34, h⟩ := bindE h
              refine w_sregW (w_abs (K := onW _) [(1, .slice (a1.map e_impl_Definition)), (3, .ubox (e_impl_Part a0)), (5, .ubox (e_impl_place a2)), (26, .bool (!x5))] (fun P hP => ?_) ?_)
              · simp only [W0.down, simprocAttr, if_true, if_false, beq_self_eq_true, ne_eq, zz18.down, b30, b32, b33]
                refine w_callg0 (ok_impl_within a0.Number 1 7 _ e31) rfl rfl rfl rfl (.inl (by rfl)) ?_
                simp only [W0.down, simprocAttr, if_true, if_false, beq_self_eq_true, ne_eq, zz18.down, b30, b32, b33]
                refine w_callg0 (ok_impl_index a0.Number (a1.length : Int) _ e34) rfl rfl rfl rfl (.inl (by rfl)) ?_
                simp only [W0.down, simprocAttr, if_true, if_false, beq_self_eq_true, ne_eq, zz18.down, b30, b32, b33]
                (try simp only [WN.down, simprocAttr, if_true, if_false, zz3.down, b30, b32, b33] at hP ⊢)
                exact hP
              exact .inr ⟨_, weak_eq rfl, K18 (!x5) h⟩
            · refine w_sregW (w_abs (K := onW _) [(1, .slice (a1.map e_impl_Definition)), (3, .ubox (e_impl_Part a0)), (5, .ubox (e_impl_place a2)), (26, .bool false)] (fun P hP => ?_) ?_)
              · simp only [W0.down, simprocAttr, if_true, if_false, beq_self_eq_true, ne_eq, zz18.down, b30, b32, b33]
                refine w_callg0 (ok_impl_within a0.Number 1 7 _ e31) rfl rfl rfl rfl (.inl (by rfl)) ?_
                simp only [W0.down, simprocAttr, if_true, if_false, beq_self_eq_true, ne_eq, zz18.down, b30, b32, b33]
                (try simp only [WN.down, simprocAttr, if_true, if_false, zz3.down, b30, b32, b33] at hP ⊢)
                exact hP
              exact .inr ⟨_, weak_eq rfl, K18 false h⟩
        · rcases condE h with ⟨b35, h⟩ | ⟨b35, h⟩
          · obtain ⟨x6, e36, h⟩ := bindE h
            refine w_sregW (w_abs (K := onW _) [(1, .slice (a1.map e_impl_Definition)), (3, .ubox (e_impl_Part a0)), (5, .ubox (e_impl_place a2)), (26, .bool (!x6))] (fun P hP => ?_) ?_)
            · simp only [W0.down, simprocAttr, if_true, if_false, beq_self_eq_true, ne_eq, zz18.down, b30, b35]
              refine w_callg0 (ok_impl_index a0.Number (a1.length : Int) _ e36) rfl rfl rfl rfl (.inl (by rfl)) ?_
              simp only [W0.down, simprocAttr, if_true, if_false, beq_self_eq_true, ne_eq, zz18.down, b30, b35]
              (try simp only [WN.down, simprocAttr, if_true, if_false, zz3.down, b30, b35] at hP ⊢)
              exact hP
            exact .inr ⟨_, weak_eq rfl, K18 (!x6) h⟩
          · refine w_sregW (w_abs (K := onW _) [(1, .slice (a1.map e_impl_Definition)), (3, .ubox (e_impl_Part a0)), (5, .ubox (e_impl_place a2)), (26, .bool false)] (fun P hP => ?_) ?_)
            · simp only [W0.down, simprocAttr, if_true, if_false, beq_self_eq_true, ne_eq, zz18.down, b30, b35]
              (try simp only [WN.down, simprocAttr, if_true, if_false, zz3.down, b30, b35] at hP ⊢)
              exact hP
            exact .inr ⟨_, weak_eq rfl, K18 false h⟩
    rcases condE h with ⟨b38, h⟩ | ⟨b38, h⟩
    · rcases condE h with ⟨b39, h⟩ | ⟨b39, h⟩
      · obtain ⟨x7, e40, h⟩ := bindE h
        refine w_sregW (w_abs (K := onW _) [(1, .slice (a1.map e_impl_Definition)), (3, .ubox (e_impl_Part a0)), (5, .ubox (e_impl_place a2)), (11, .bool (!x7))] (fun P hP => ?_) ?_)
        · simp only [W0.down, simprocAttr, if_true, if_false, beq_self_eq_true, ne_eq, zz15.down, b38, b39]
          refine w_callg0 (ok_impl_IsAction a0.Name _ e40) rfl rfl rfl rfl (.inl (by rfl)) ?_
          simp only [W0.down, simprocAttr, if_true, if_false, beq_self_eq_true, ne_eq, zz15.down, b38, b39]
          (try simp only [WN.down, simprocAttr, if_true, if_false, zz3.down, b38, b39] at hP ⊢)
          exact hP
        exact .inr ⟨_, weak_eq rfl, K12 (!x7) h⟩
      · refine w_sregW (w_abs (K := onW _) [(1, .slice (a1.map e_impl_Definition)), (3, .ubox (e_impl_Part a0)), (5, .ubox (e_impl_place a2)), (11, .bool false)] (fun P hP => ?_) ?_)
        · simp only [W0.down, simprocAttr, if_true, if_false, beq_self_eq_true, ne_eq, zz15.down, b38, b39]
          (try simp only [WN.down, simprocAttr, if_true, if_false, zz3.down, b38, b39] at hP ⊢)
          exact hP
        exact .inr ⟨_, weak_eq rfl, K12 false h⟩
    · refine w_sregW (w_abs (K := onW _) [(1, .slice (a1.map e_impl_Definition)), (3, .ubox (e_impl_Part a0)), (5, .ubox (e_impl_place a2)), (11, .bool false)] (fun P hP => ?_) ?_)
      · simp only [W0.down, simprocAttr, if_true, if_false, beq_self_eq_true, ne_eq, zz15.down, b38]
        (try simp only [WN.down, simprocAttr, if_true, if_false, zz3.down, b38] at hP ⊢)
        exact hP
      exact .inr ⟨_, weak_eq rfl, K12 false h⟩

theorem ok_impl_bodyFault  (a0 : List impl_Definition) (a1 : impl_Definition) (r : Int × Int) (h : impl_bodyFault  a0 a1 = some r) : OkAt Cc 135 [.slice (a0.map e_impl_Definition), e_impl_Definition a1] (.tuple [.int .i64 r.1, .int .i64 r.2]) [] := by
  refine OkAt.of_wpQ (fx := [0, 1]) Cc_ok Try.func135 rfl rfl s135 (Nat.le_of_ble_eq_true rfl) (fun Q0 r0 n0 => ?_)
  replace r0 : ∀ s, onW (Fw.Ends Cc [0, 1] [.tmp 4, .tmp 5] (.tuple [.int .i64 r.1, .int .i64 r.2]) []) s → Q0 .ret s := r0
  replace n0 : ∀ s, onW (Fw.Ends Cc [0, 1] [.tmp 4, .tmp 5] (.tuple [.int .i64 r.1, .int .i64 r.2]) []) s → Q0 .normal s := n0
  show wpC Cc c135 Q0 (stA [(0, .slice (a0.map e_impl_Definition)), (1, e_impl_Definition a1)])
  refine w_sreg (w_abs [(0, .slice (a0.map e_impl_Definition)), (3, .ubox (e_impl_Definition a1))] (fun P hP => ?_) ?_)
  · simp only [W0.down, simprocAttr, if_true, if_false, beq_self_eq_true, ne_eq, zz6.down]
    (try simp only [WN.down, simprocAttr, if_true, if_false, zz0.down] at hP ⊢)
    exact hP
  refine w_seq (fun Q2 n2 q2 x2 => ?_)
  obtain ⟨x1, e4, h⟩ := bindE h
  rcases condE h with ⟨b5, h⟩ | ⟨b5, h⟩
  · refine w_sdrw rfl (w_absd [(0, .slice (a0.map e_impl_Definition)), (3, .ubox (e_impl_Definition a1)), (22, .bool true)] (fun P hP => ?_) ?_)
    · simp only [W1.down, simprocAttr, if_true, if_false, beq_self_eq_true, ne_eq, zz6.down, b5]
      refine w_call1 (ok_impl_within (a1.Body.length : Int) 1 20 _ e4) rfl rfl rfl rfl (.inl (by rfl)) ?_
      simp only [W1.down, simprocAttr, if_true, if_false, beq_self_eq_true, ne_eq, zz6.down, b5]
      refine ⟨by kernel_rfl, ?_⟩
      (try simp only [WN.down, simprocAttr, if_true, if_false, zz0.down, b5] at hP ⊢)
      exact hP
    refine w_ct rfl ?_
    refine w_sreg (w_abs [(4, .int .i64 0), (5, .int .i64 1)] (fun P hP => ?_) ?_)
    · simp only [W0.down, simprocAttr, if_true, if_false, beq_self_eq_true, ne_eq, zz0.down]
      (try simp only [WN.down, simprocAttr, if_true, if_false, zz0.down] at hP ⊢)
      exact hP
    exact w_ret (q2 _ (r0 _ (.inl (w_fin [.int .i64 0, .int .i64 1] rfl (by cases someE h; rfl) (by decide) outs_nil))))
  · obtain ⟨x2, e7, h⟩ := bindE h
    refine w_sdrw rfl (w_absd [(0, .slice (a0.map e_impl_Definition)), (3, .ubox (e_impl_Definition a1)), (22, .bool (x2 != (a1.Body.length : Int)))] (fun P hP => ?_) ?_)
    · simp only [W1.down, simprocAttr, if_true, if_false, beq_self_eq_true, ne_eq, zz6.down, b5]
      refine w_call1 (ok_impl_within (a1.Body.length : Int) 1 20 _ e4) rfl rfl rfl rfl (.inl (by rfl)) ?_
      simp only [W1.down, simprocAttr, if_true, if_false, beq_self_eq_true, ne_eq, zz6.down, b5]
      refine w_callg1 (ok_impl_Definition_end a1 0 _ e7) rfl rfl rfl rfl (.inl (by rfl)) ?_
      simp only [W1.down, simprocAttr, if_true, if_false, beq_self_eq_true, ne_eq, zz6.down, b5]
      refine ⟨by kernel_rfl, ?_⟩
      (try simp only [WN.down, simprocAttr, if_true, if_false, zz0.down, b5] at hP ⊢)
      exact hP
    rcases condE h with ⟨b8, h⟩ | ⟨b8, h⟩
    · refine w_ct (congrArg AV.bool b8) ?_
      simp only [b8, Bool.not_true, Bool.not_false]
      refine w_sreg (w_abs [(4, .int .i64 0), (5, .int .i64 1)] (fun P hP => ?_) ?_)
      · simp only [W0.down, simprocAttr, if_true, if_false, beq_self_eq_true, ne_eq, zz0.down]
        (try simp only [WN.down, simprocAttr, if_true, if_false, zz0.down] at hP ⊢)
        exact hP
      exact w_ret (q2 _ (r0 _ (.inl (w_fin [.int .i64 0, .int .i64 1] rfl (by cases someE h; rfl) (by decide) outs_nil))))
    · refine w_cf (congrArg AV.bool b8) ?_
      simp only [b8, Bool.not_true, Bool.not_false]
      refine w_skip (n2 _ (.inl ?_))
      obtain ⟨x3, e11, h⟩ := bindE h
      refine w_sreg (w_abs [(0, .slice (a0.map e_impl_Definition)), (3, .ubox (e_impl_Definition a1)), (6, .uslice 2 (x3.map e_impl_place))] (fun P hP => ?_) ?_)
      · simp only [W0.down, simprocAttr, if_true, if_false, beq_self_eq_true, ne_eq, zz28.down]
        refine w_call0 (ok_impl_Definition_places a1 _ e11) rfl rfl rfl rfl (.inl (by rfl)) ?_
        simp only [W0.down, simprocAttr, if_true, if_false, beq_self_eq_true, ne_eq, zz28.down]
        (try simp only [WN.down, simprocAttr, if_true, if_false, zz3.down] at hP ⊢)
        exact hP
      refine w_seq (fun Q12 n12 q12 x12 => ?_)
      refine w_sreg (w_abs [(0, .slice (a0.map e_impl_Definition)), (6, .uslice 2 (x3.map e_impl_place)), (26, .slice (a1.Body.map e_impl_Part)), (27, .int .i64 (a1.Body.length : Int)), (28, .int .i64 0)] (fun P hP => ?_) ?_)
      · simp only [W0.down, simprocAttr, if_true, if_false, beq_self_eq_true, ne_eq, zz28.down]
        (try simp only [WN.down, simprocAttr, if_true, if_false, zz3.down] at hP ⊢)
        exact hP
      refine w_blk (fun Q14 n14 q14 b14 x14 => ?_)
      have L16 : ∀ (n : Nat) (v28_16 : Int), impl_bodyFault_l16 a0 a1 x3 n v28_16 = some r → lpC Cc c135_17 Q14 (stA [(0, .slice (a0.map e_impl_Definition)), (6, .uslice 2 (x3.map e_impl_place)), (26, .slice (a1.Body.map e_impl_Part)), (27, .int .i64 (a1.Body.length : Int)), (28, .int .i64 v28_16)]) := by
        intro m16
        induction m16 with
        | zero => intro v28_16 h; cases (show none = some r from h)
        | succ m16 ih16 =>
          intro v28_16 h
          replace h : impl_bodyFault_b16 (impl_bodyFault_l16 a0 a1 x3 m16) a0 a1 x3 v28_16 = some r := h
          refine lpC_step (fun Q15 n15 q15 x15 => ?_)
          refine w_sreg (w_abs [(0, .slice (a0.map e_impl_Definition)), (6, .uslice 2 (x3.map e_impl_place)), (26, .slice (a1.Body.map e_impl_Part)), (27, .int .i64 (a1.Body.length : Int)), (28, .int .i64 v28_16), (29, .bool (decide (v28_16 < (a1.Body.length : Int))))] (fun P hP => ?_) ?_)
          · simp only [W0.down, simprocAttr, if_true, if_false, beq_self_eq_true, ne_eq, zz3.down]
            (try simp only [WN.down, simprocAttr, if_true, if_false, zz3.down] at hP ⊢)
            exact hP
          refine w_seq (fun Q17 n17 q17 x17 => ?_)
          rcases condE h with ⟨b18, h⟩ | ⟨b18, h⟩
          · refine w_ct (congrArg AV.bool b18) ?_
            simp only [b18, Bool.not_true, Bool.not_false]
            refine w_skip (n17 _ (.inl ?_))
            refine w_seq (fun Q19 n19 q19 x19 => ?_)
            refine w_blk (fun Q20 n20 q20 b20 x20 => ?_)
            obtain ⟨x4, e22, h⟩ := bindE h
            refine w_sreg (w_abs [(0, .slice (a0.map e_impl_Definition)), (6, .uslice 2 (x3.map e_impl_place)), (7, .int .i64 v28_16), (8, .ubox (e_impl_Part x4)), (26, .slice (a1.Body.map e_impl_Part)), (27, .int .i64 (a1.Body.length : Int)), (28, .int .i64 v28_16)] (fun P hP => ?_) ?_)
            · simp only [W0.down, simprocAttr, if_true, if_false, beq_self_eq_true, ne_eq, tt2, tt9, tt40, tt131, tt169, tt195, tt249, e_impl_Definition, e_impl_Part, e_impl_Term, e_impl_place, e_s_impl_Term, e22]
              (try simp only [WN.down, simprocAttr, if_true, if_false, zz3.down, e22] at hP ⊢)
              exact hP
            obtain ⟨x5, e24, h⟩ := bindE h
            obtain ⟨x6, e25, h⟩ := bindE h
            refine w_sdrw rfl (w_absd [(0, .slice (a0.map e_impl_Definition)), (6, .uslice 2 (x3.map e_impl_place)), (7, .int .i64 v28_16), (9, .int .i64 x6), (26, .slice (a1.Body.map e_impl_Part)), (27, .int .i64 (a1.Body.length : Int)), (28, .int .i64 v28_16)] (fun P hP => ?_) ?_)
            · simp only [W1.down, simprocAttr, if_true, if_false, beq_self_eq_true, ne_eq, tt2, tt4, tt9, tt40, tt131, tt185, tt186, tt195, tt249, e_impl_Definition, e_impl_Part, e_impl_Term, e_impl_place, e_s_impl_Term, e24, getI_get e24]
              refine w_call1 (ok_impl_Part_reason x4 a0 x5 _ e25) rfl rfl rfl rfl (.inl (by rfl)) ?_
              simp only [W1.down, simprocAttr, if_true, if_false, beq_self_eq_true, ne_eq, tt2, tt4, tt9, tt40, tt131, tt185, tt186, tt195, tt249, e_impl_Definition, e_impl_Part, e_impl_Term, e_impl_place, e_s_impl_Term, e24, getI_get e24]
              refine ⟨by kernel_rfl, ?_⟩
              (try simp only [WN.down, simprocAttr, if_true, if_false, zz3.down, e24, getI_get e24] at hP ⊢)
              exact hP
            refine w_sreg (w_abs [(0, .slice (a0.map e_impl_Definition)), (6, .uslice 2 (x3.map e_impl_place)), (7, .int .i64 v28_16), (9, .int .i64 x6), (26, .slice (a1.Body.map e_impl_Part)), (27, .int .i64 (a1.Body.length : Int)), (28, .int .i64 v28_16), (41, .bool (x6 != 0))] (fun P hP => ?_) ?_)
            · simp only [W0.down, simprocAttr, if_true, if_false, beq_self_eq_true, ne_eq, zz3.down]
              (try simp only [WN.down, simprocAttr, if_true, if_false, zz3.down] at hP ⊢)
              exact hP
            rcases condE h with ⟨b27, h⟩ | ⟨b27, h⟩
            · refine w_ct (congrArg AV.bool b27) ?_
              simp only [b27, Bool.not_true, Bool.not_false]
              refine w_sreg (w_abs [(4, .int .i64 v28_16), (5, .int .i64 x6)] (fun P hP => ?_) ?_)
              · simp only [W0.down, simprocAttr, if_true, if_false, beq_self_eq_true, ne_eq, zz3.down]
                (try simp only [WN.down, simprocAttr, if_true, if_false, zz3.down] at hP ⊢)
                exact hP
              exact w_ret (q20 _ (q19 _ (q15 _ (q14 _ (q12 _ (r0 _ (.inl (w_fin [.int .i64 v28_16, .int .i64 x6] rfl (by cases someE h; rfl) (by decide) outs_nil))))))))
            · refine w_cf (congrArg AV.bool b27) ?_
              simp only [b27, Bool.not_true, Bool.not_false]
              refine w_skip (n20 _ (n19 _ (.inl ?_)))
              refine w_reg (w_abs [(0, .slice (a0.map e_impl_Definition)), (6, .uslice 2 (x3.map e_impl_place)), (26, .slice (a1.Body.map e_impl_Part)), (27, .int .i64 (a1.Body.length : Int)), (28, .int .i64 (IntKind.i64.wrap (v28_16 + 1)))] (fun P hP => ?_) ?_)
              · simp only [W0.down, simprocAttr, if_true, if_false, beq_self_eq_true, ne_eq, zz3.down]
                (try simp only [WN.down, simprocAttr, if_true, if_false, zz3.down] at hP ⊢)
                exact hP
              exact n15 _ (.inr ⟨_, weak_eq rfl, ih16 (IntKind.i64.wrap (v28_16 + 1)) h⟩)
          · refine w_cf (congrArg AV.bool b18) ?_
            simp only [b18, Bool.not_true, Bool.not_false]
            refine w_ex (x17 0 _ (x15 0 _ (b14 _ (n12 _ (.inl ?_)))))
            refine w_sreg (w_abs [(4, .int .i64 0), (5, .int .i64 0)] (fun P hP => ?_) ?_)
            · simp only [W0.down, simprocAttr, if_true, if_false, beq_self_eq_true, ne_eq, zz3.down]
              (try simp only [WN.down, simprocAttr, if_true, if_false, zz3.down] at hP ⊢)
              exact hP
            exact w_ret (r0 _ (.inl (w_fin [.int .i64 0, .int .i64 0] rfl (by cases someE h; rfl) (by decide) outs_nil)))
      obtain ⟨n, h⟩ := limE h
      exact w_loop (.inr ⟨_, weak_eq rfl, L16 n 0 h⟩)

theorem ok_impl_ValidDefinitions  (a0 : List impl_Definition) (r : Bool) (h : impl_ValidDefinitions  a0 = some r) : OkAt Cc 56 [.slice (a0.map e_impl_Definition)] (.bool r) [] := by
  refine OkAt.of_wpQ (fx := [0]) Cc_ok Try.func56 rfl rfl s56 (Nat.le_of_ble_eq_true rfl) (fun Q0 r0 n0 => ?_)
  replace r0 : ∀ s, onW (Fw.Ends Cc [0] [.tmp 2] (.bool r) []) s → Q0 .ret s := r0
  replace n0 : ∀ s, onW (Fw.Ends Cc [0] [.tmp 2] (.bool r) []) s → Q0 .normal s := n0
  show wpC Cc c56 Q0 (stA [(0, .slice (a0.map e_impl_Definition))])
  refine w_sreg (w_abs [(0, .slice (a0.map e_impl_Definition))] (fun P hP => ?_) ?_)
  · simp only [W0.down, simprocAttr, if_true, if_false, beq_self_eq_true, ne_eq, zz0.down]
    (try simp only [WN.down, simprocAttr, if_true, if_false, zz0.down] at hP ⊢)
    exact hP
  refine w_seq (fun Q2 n2 q2 x2 => ?_)
  obtain ⟨x1, e4, h⟩ := bindE h
  rcases condE h with ⟨b5, h⟩ | ⟨b5, h⟩
  · refine w_sreg (w_abs [(0, .slice (a0.map e_impl_Definition)), (15, .bool true)] (fun P hP => ?_) ?_)
    · simp only [W0.down, simprocAttr, if_true, if_false, beq_self_eq_true, ne_eq, zz2.down, b5]
      refine w_call0 (ok_impl_within (a0.length : Int) 1 4 _ e4) rfl rfl rfl rfl (.inl (by rfl)) ?_
      simp only [W0.down, simprocAttr, if_true, if_false, beq_self_eq_true, ne_eq, zz2.down, b5]
      (try simp only [WN.down, simprocAttr, if_true, if_false, zz0.down, b5] at hP ⊢)
      exact hP
    refine w_ct rfl ?_
    refine w_sreg (w_abs [(2, .bool false)] (fun P hP => ?_) ?_)
    · simp only [W0.down, simprocAttr, if_true, if_false, beq_self_eq_true, ne_eq, zz0.down]
      (try simp only [WN.down, simprocAttr, if_true, if_false, zz0.down] at hP ⊢)
      exact hP
    exact w_ret (q2 _ (r0 _ (.inl (w_fin [.bool false] rfl (by cases someE h; rfl) (by decide) outs_nil))))
  · obtain ⟨x2, e7, h⟩ := bindE h
    refine w_sreg (w_abs [(0, .slice (a0.map e_impl_Definition)), (15, .bool (!x2))] (fun P hP => ?_) ?_)
    · simp only [W0.down, simprocAttr, if_true, if_false, beq_self_eq_true, ne_eq, zz2.down, b5]
      refine w_call0 (ok_impl_within (a0.length : Int) 1 4 _ e4) rfl rfl rfl rfl (.inl (by rfl)) ?_
      simp only [W0.down, simprocAttr, if_true, if_false, beq_self_eq_true, ne_eq, zz2.down, b5]
      refine w_callg0 (ok_impl_parametersOk a0 _ e7) rfl rfl rfl rfl (.inl (by rfl)) ?_
      simp only [W0.down, simprocAttr, if_true, if_false, beq_self_eq_true, ne_eq, zz2.down, b5]
      (try simp only [WN.down, simprocAttr, if_true, if_false, zz0.down, b5] at hP ⊢)
      exact hP
    rcases condE h with ⟨b8, h⟩ | ⟨b8, h⟩
    · refine w_ct (congrArg AV.bool b8) ?_
      simp only [b8, Bool.not_true, Bool.not_false]
      refine w_sreg (w_abs [(2, .bool false)] (fun P hP => ?_) ?_)
      · simp only [W0.down, simprocAttr, if_true, if_false, beq_self_eq_true, ne_eq, zz0.down]
        (try simp only [WN.down, simprocAttr, if_true, if_false, zz0.down] at hP ⊢)
        exact hP
      exact w_ret (q2 _ (r0 _ (.inl (w_fin [.bool false] rfl (by cases someE h; rfl) (by decide) outs_nil))))
    · refine w_cf (congrArg AV.bool b8) ?_
      simp only [b8, Bool.not_true, Bool.not_false]
      refine w_skip (n2 _ (.inl ?_))
      refine w_seq (fun Q10 n10 q10 x10 => ?_)
      refine w_sreg (w_abs [(0, .slice (a0.map e_impl_Definition)), (16, .slice (a0.map e_impl_Definition)), (17, .int .i64 (a0.length : Int)), (18, .int .i64 0)] (fun P hP => ?_) ?_)
      · simp only [W0.down, simprocAttr, if_true, if_false, beq_self_eq_true, ne_eq, zz2.down]
        (try simp only [WN.down, simprocAttr, if_true, if_false, zz0.down] at hP ⊢)
        exact hP
      refine w_blk (fun Q12 n12 q12 b12 x12 => ?_)
      have L14 : ∀ (n : Nat) (v18_14 : Int), impl_ValidDefinitions_l14 a0 n v18_14 = some r → lpC Cc c56_15 Q12 (stA [(0, .slice (a0.map e_impl_Definition)), (16, .slice (a0.map e_impl_Definition)), (17, .int .i64 (a0.length : Int)), (18, .int .i64 v18_14)]) := by
        intro m14
        induction m14 with
        | zero => intro v18_14 h; cases (show none = some r from h)
        | succ m14 ih14 =>
          intro v18_14 h
          replace h : impl_ValidDefinitions_b14 (impl_ValidDefinitions_l14 a0 m14) a0 v18_14 = some r := h
          refine lpC_step (fun Q13 n13 q13 x13 => ?_)
          refine w_sreg (w_abs [(0, .slice (a0.map e_impl_Definition)), (16, .slice (a0.map e_impl_Definition)), (17, .int .i64 (a0.length : Int)), (18, .int .i64 v18_14), (19, .bool (decide (v18_14 < (a0.length : Int))))] (fun P hP => ?_) ?_)
          · simp only [W0.down, simprocAttr, if_true, if_false, beq_self_eq_true, ne_eq, zz0.down]
            (try simp only [WN.down, simprocAttr, if_true, if_false, zz0.down] at hP ⊢)
            exact hP
          refine w_seq (fun Q15 n15 q15 x15 => ?_)
          rcases condE h with ⟨b16, h⟩ | ⟨b16, h⟩
          · refine w_ct (congrArg AV.bool b16) ?_
            simp only [b16, Bool.not_true, Bool.not_false]
            refine w_skip (n15 _ (.inl ?_))
            refine w_seq (fun Q17 n17 q17 x17 => ?_)
            refine w_blk (fun Q18 n18 q18 b18 x18 => ?_)
            obtain ⟨x3, e20, h⟩ := bindE h
            refine w_sreg (w_abs [(0, .slice (a0.map e_impl_Definition)), (3, .int .i64 v18_14), (4, .ubox (e_impl_Definition x3)), (16, .slice (a0.map e_impl_Definition)), (17, .int .i64 (a0.length : Int)), (18, .int .i64 v18_14)] (fun P hP => ?_) ?_)
            · simp only [W0.down, simprocAttr, if_true, if_false, beq_self_eq_true, ne_eq, zz2.down, e20]
              (try simp only [WN.down, simprocAttr, if_true, if_false, zz0.down, e20] at hP ⊢)
              exact hP
            refine w_seq (fun Q21 n21 q21 x21 => ?_)
            obtain ⟨x4, e23, h⟩ := bindE h
            rcases condE h with ⟨b24, h⟩ | ⟨b24, h⟩
            · refine w_sdrw rfl (w_absd [(0, .slice (a0.map e_impl_Definition)), (4, .ubox (e_impl_Definition x3)), (16, .slice (a0.map e_impl_Definition)), (17, .int .i64 (a0.length : Int)), (18, .int .i64 v18_14), (35, .bool true)] (fun P hP => ?_) ?_)
              · simp only [W1.down, simprocAttr, if_true, if_false, beq_self_eq_true, ne_eq, zz2.down, b24]
                refine w_call1 (ok_impl_IsName x3.Name _ e23) rfl rfl rfl rfl (.inl (by rfl)) ?_
                simp only [W1.down, simprocAttr, if_true, if_false, beq_self_eq_true, ne_eq, zz2.down, b24]
                refine ⟨by kernel_rfl, ?_⟩
                (try simp only [WN.down, simprocAttr, if_true, if_false, zz0.down, b24] at hP ⊢)
                exact hP
              refine w_ct rfl ?_
              refine w_sreg (w_abs [(2, .bool false)] (fun P hP => ?_) ?_)
              · simp only [W0.down, simprocAttr, if_true, if_false, beq_self_eq_true, ne_eq, zz0.down]
                (try simp only [WN.down, simprocAttr, if_true, if_false, zz0.down] at hP ⊢)
                exact hP
              exact w_ret (q21 _ (q18 _ (q17 _ (q13 _ (q12 _ (q10 _ (r0 _ (.inl (w_fin [.bool false] rfl (by cases someE h; rfl) (by decide) outs_nil)))))))))
            · obtain ⟨x5, e26, h⟩ := bindE h
              obtain ⟨x6, e27, h⟩ := bindE h
              refine w_sdrw rfl (w_absd [(0, .slice (a0.map e_impl_Definition)), (4, .ubox (e_impl_Definition x3)), (16, .slice (a0.map e_impl_Definition)), (17, .int .i64 (a0.length : Int)), (18, .int .i64 v18_14), (35, .bool (decide (0 ≤ x6)))] (fun P hP => ?_) ?_)
              · simp only [W1.down, simprocAttr, if_true, if_false, beq_self_eq_true, ne_eq, zz2.down, b24, e26, @all_wd' _ e_impl_Definition 3 (fun _ => rfl)]
                refine w_call1 (ok_impl_IsName x3.Name _ e23) rfl rfl rfl rfl (.inl (by rfl)) ?_
                simp only [W1.down, simprocAttr, if_true, if_false, beq_self_eq_true, ne_eq, zz2.down, b24, e26, @all_wd' _ e_impl_Definition 3 (fun _ => rfl)]
                refine w_callg1 (ok_impl_definitionNamed x5 x3.Name _ e27) rfl rfl rfl rfl (.inl (by rfl)) ?_
                simp only [W1.down, simprocAttr, if_true, if_false, beq_self_eq_true, ne_eq, zz2.down, b24, e26, @all_wd' _ e_impl_Definition 3 (fun _ => rfl)]
                refine ⟨by kernel_rfl, ?_⟩
                (try simp only [WN.down, simprocAttr, if_true, if_false, zz0.down, b24, e26, @all_wd' _ e_impl_Definition 3 (fun _ => rfl)] at hP ⊢)
                exact hP
              rcases condE h with ⟨b28, h⟩ | ⟨b28, h⟩
              · refine w_ct (congrArg AV.bool b28) ?_
                simp only [b28, Bool.not_true, Bool.not_false]
                refine w_sreg (w_abs [(2, .bool false)] (fun P hP => ?_) ?_)
                · simp only [W0.down, simprocAttr, if_true, if_false, beq_self_eq_true, ne_eq, zz0.down]
                  (try simp only [WN.down, simprocAttr, if_true, if_false, zz0.down] at hP ⊢)
                  exact hP
                exact w_ret (q21 _ (q18 _ (q17 _ (q13 _ (q12 _ (q10 _ (r0 _ (.inl (w_fin [.bool false] rfl (by cases someE h; rfl) (by decide) outs_nil)))))))))
              · refine w_cf (congrArg AV.bool b28) ?_
                simp only [b28, Bool.not_true, Bool.not_false]
                refine w_skip (n21 _ (.inl ?_))
                obtain ⟨x7, e31, h⟩ := bindE h
                refine w_sreg (w_abs [(0, .slice (a0.map e_impl_Definition)), (6, .int .i64 x7.2), (16, .slice (a0.map e_impl_Definition)), (17, .int .i64 (a0.length : Int)), (18, .int .i64 v18_14)] (fun P hP => ?_) ?_)
                · simp only [W0.down, simprocAttr, if_true, if_false, beq_self_eq_true, ne_eq, zz6.down]
                  refine w_call0 (ok_impl_bodyFault a0 x3 _ e31) rfl rfl rfl rfl (.inl (by rfl)) ?_
                  simp only [W0.down, simprocAttr, if_true, if_false, beq_self_eq_true, ne_eq, zz6.down]
                  (try simp only [WN.down, simprocAttr, if_true, if_false, zz0.down] at hP ⊢)
                  exact hP
                refine w_sreg (w_abs [(0, .slice (a0.map e_impl_Definition)), (16, .slice (a0.map e_impl_Definition)), (17, .int .i64 (a0.length : Int)), (18, .int .i64 v18_14), (43, .bool (x7.2 != 0))] (fun P hP => ?_) ?_)
                · simp only [W0.down, simprocAttr, if_true, if_false, beq_self_eq_true, ne_eq, zz0.down]
                  (try simp only [WN.down, simprocAttr, if_true, if_false, zz0.down] at hP ⊢)
                  exact hP
                rcases condE h with ⟨b33, h⟩ | ⟨b33, h⟩
                · refine w_ct (congrArg AV.bool b33) ?_
                  simp only [b33, Bool.not_true, Bool.not_false]
                  refine w_sreg (w_abs [(2, .bool false)] (fun P hP => ?_) ?_)
                  · simp only [W0.down, simprocAttr, if_true, if_false, beq_self_eq_true, ne_eq, zz0.down]
                    (try simp only [WN.down, simprocAttr, if_true, if_false, zz0.down] at hP ⊢)
                    exact hP
                  exact w_ret (q18 _ (q17 _ (q13 _ (q12 _ (q10 _ (r0 _ (.inl (w_fin [.bool false] rfl (by cases someE h; rfl) (by decide) outs_nil))))))))
                · refine w_cf (congrArg AV.bool b33) ?_
                  simp only [b33, Bool.not_true, Bool.not_false]
                  refine w_skip (n18 _ (n17 _ (.inl ?_)))
                  refine w_reg (w_abs [(0, .slice (a0.map e_impl_Definition)), (16, .slice (a0.map e_impl_Definition)), (17, .int .i64 (a0.length : Int)), (18, .int .i64 (IntKind.i64.wrap (v18_14 + 1)))] (fun P hP => ?_) ?_)
                  · simp only [W0.down, simprocAttr, if_true, if_false, beq_self_eq_true, ne_eq, zz0.down]
                    (try simp only [WN.down, simprocAttr, if_true, if_false, zz0.down] at hP ⊢)
                    exact hP
                  exact n13 _ (.inr ⟨_, weak_eq rfl, ih14 (IntKind.i64.wrap (v18_14 + 1)) h⟩)
          · refine w_cf (congrArg AV.bool b16) ?_
            simp only [b16, Bool.not_true, Bool.not_false]
            refine w_ex (x15 0 _ (x13 0 _ (b12 _ (n10 _ (.inl ?_)))))
            refine w_sreg (w_abs [(2, .bool true)] (fun P hP => ?_) ?_)
            · simp only [W0.down, simprocAttr, if_true, if_false, beq_self_eq_true, ne_eq, zz0.down]
              (try simp only [WN.down, simprocAttr, if_true, if_false, zz0.down] at hP ⊢)
              exact hP
            exact w_ret (r0 _ (.inl (w_fin [.bool true] rfl (by cases someE h; rfl) (by decide) outs_nil)))
      obtain ⟨n, h⟩ := limE h
      exact w_loop (.inr ⟨_, weak_eq rfl, L14 n 0 h⟩)

theorem ok_impl_partCode  (a0 : List impl_Definition) (a1 : Int) (a2 : Int) (r : Int) (h : impl_partCode  a0 a1 a2 = some r) : OkAt Cc 144 [.slice (a0.map e_impl_Definition), .int .i64 a1, .int .i64 a2] (.int .i64 r) [] := by
  refine OkAt.of_wpQ (fx := [0, 1, 2]) Cc_ok Try.func144 rfl rfl s144 (Nat.le_of_ble_eq_true rfl) (fun Q0 r0 n0 => ?_)
  replace r0 : ∀ s, onW (Fw.Ends Cc [0, 1, 2] [.tmp 6] (.int .i64 r) []) s → Q0 .ret s := r0
  replace n0 : ∀ s, onW (Fw.Ends Cc [0, 1, 2] [.tmp 6] (.int .i64 r) []) s → Q0 .normal s := n0
  show wpC Cc c144 Q0 (stA [(0, .slice (a0.map e_impl_Definition)), (1, .int .i64 a1), (2, .int .i64 a2)])
  refine w_sreg (w_abs [(0, .slice (a0.map e_impl_Definition)), (1, .int .i64 a1), (2, .int .i64 a2)] (fun P hP => ?_) ?_)
  · simp only [W0.down, simprocAttr, if_true, if_false, beq_self_eq_true, ne_eq, zz0.down]
    (try simp only [WN.down, simprocAttr, if_true, if_false, zz0.down] at hP ⊢)
    exact hP
  refine w_seq (fun Q2 n2 q2 x2 => ?_)
  refine w_blk (fun Q3 n3 q3 b3 x3 => ?_)
  obtain ⟨x1, e5, h⟩ := bindE h
  refine w_sreg (w_abs [(0, .slice (a0.map e_impl_Definition)), (1, .int .i64 a1), (2, .int .i64 a2), (7, .bool (!x1))] (fun P hP => ?_) ?_)
  · simp only [W0.down, simprocAttr, if_true, if_false, beq_self_eq_true, ne_eq, zz0.down]
    refine w_call0 (ok_impl_ValidDefinitions a0 _ e5) rfl rfl rfl rfl (.inl (by rfl)) ?_
    simp only [W0.down, simprocAttr, if_true, if_false, beq_self_eq_true, ne_eq, zz0.down]
    (try simp only [WN.down, simprocAttr, if_true, if_false, zz0.down] at hP ⊢)
    exact hP
  rcases condE h with ⟨b6, h⟩ | ⟨b6, h⟩
  · refine w_ct (congrArg AV.bool b6) ?_
    simp only [b6, Bool.not_true, Bool.not_false]
    refine w_sreg (w_abs [(6, .int .i64 1)] (fun P hP => ?_) ?_)
    · simp only [W0.down, simprocAttr, if_true, if_false, beq_self_eq_true, ne_eq, zz0.down]
      (try simp only [WN.down, simprocAttr, if_true, if_false, zz0.down] at hP ⊢)
      exact hP
    exact w_ret (q3 _ (q2 _ (r0 _ (.inl (w_fin [.int .i64 1] rfl (by cases someE h; rfl) (by decide) outs_nil)))))
  · refine w_cf (congrArg AV.bool b6) ?_
    simp only [b6, Bool.not_true, Bool.not_false]
    obtain ⟨x2, e9, h⟩ := bindE h
    rcases condE h with ⟨b10, h⟩ | ⟨b10, h⟩
    · refine w_sreg (w_abs [(11, .bool true)] (fun P hP => ?_) ?_)
      · simp only [W0.down, simprocAttr, if_true, if_false, beq_self_eq_true, ne_eq, zz2.down, b10]
        refine w_call0 (ok_impl_index a1 (a0.length : Int) _ e9) rfl rfl rfl rfl (.inl (by rfl)) ?_
        simp only [W0.down, simprocAttr, if_true, if_false, beq_self_eq_true, ne_eq, zz2.down, b10]
        (try simp only [WN.down, simprocAttr, if_true, if_false, zz0.down, b10] at hP ⊢)
        exact hP
      refine w_ct rfl ?_
      refine w_sreg (w_abs [(6, .int .i64 2)] (fun P hP => ?_) ?_)
      · simp only [W0.down, simprocAttr, if_true, if_false, beq_self_eq_true, ne_eq]
        (try simp only [WN.down, simprocAttr, if_true, if_false] at hP ⊢)
        exact hP
      exact w_ret (q3 _ (q2 _ (r0 _ (.inl (w_fin [.int .i64 2] rfl (by cases someE h; rfl) (by decide) outs_nil)))))
    · obtain ⟨x3, e12, h⟩ := bindE h
      obtain ⟨x4, e13, h⟩ := bindE h
      refine w_sreg (w_abs [(11, .bool (!x4))] (fun P hP => ?_) ?_)
      · simp only [W0.down, simprocAttr, if_true, if_false, beq_self_eq_true, ne_eq, zz2.down, b10, e12]
        refine w_call0 (ok_impl_index a1 (a0.length : Int) _ e9) rfl rfl rfl rfl (.inl (by rfl)) ?_
        simp only [W0.down, simprocAttr, if_true, if_false, beq_self_eq_true, ne_eq, zz2.down, b10, e12]
        refine w_callg0 (ok_impl_index a2 (x3.Body.length : Int) _ e13) rfl rfl rfl rfl (.inl (by rfl)) ?_
        simp only [W0.down, simprocAttr, if_true, if_false, beq_self_eq_true, ne_eq, zz2.down, b10, e12]
        (try simp only [WN.down, simprocAttr, if_true, if_false, zz0.down, b10, e12] at hP ⊢)
        exact hP
      rcases condE h with ⟨b14, h⟩ | ⟨b14, h⟩
      · refine w_ct (congrArg AV.bool b14) ?_
        simp only [b14, Bool.not_true, Bool.not_false]
        refine w_sreg (w_abs [(6, .int .i64 2)] (fun P hP => ?_) ?_)
        · simp only [W0.down, simprocAttr, if_true, if_false, beq_self_eq_true, ne_eq]
          (try simp only [WN.down, simprocAttr, if_true, if_false] at hP ⊢)
          exact hP
        exact w_ret (q3 _ (q2 _ (r0 _ (.inl (w_fin [.int .i64 2] rfl (by cases someE h; rfl) (by decide) outs_nil)))))
      · refine w_cf (congrArg AV.bool b14) ?_
        simp only [b14, Bool.not_true, Bool.not_false]
        refine w_skip (n3 _ (n2 _ (.inl ?_)))
        refine w_sreg (w_abs [(6, .int .i64 0)] (fun P hP => ?_) ?_)
        · simp only [W0.down, simprocAttr, if_true, if_false, beq_self_eq_true, ne_eq]
          (try simp only [WN.down, simprocAttr, if_true, if_false] at hP ⊢)
          exact hP
        exact w_ret (r0 _ (.inl (w_fin [.int .i64 0] rfl (by cases someE h; rfl) (by decide) outs_nil)))

theorem ok_impl_ScopeAt  (a0 : List impl_Definition) (a1 : Int) (a2 : Int) (r : Int × Int) (h : impl_ScopeAt  a0 a1 a2 = some r) : OkAt Cc 66 [.slice (a0.map e_impl_Definition), .int .i64 a1, .int .i64 a2] (.tuple [.int .i64 r.1, .int .i64 r.2]) [] := by
  refine OkAt.of_wpQ (fx := [0, 1, 2]) Cc_ok Try.func66 rfl rfl s66 (Nat.le_of_ble_eq_true rfl) (fun Q0 r0 n0 => ?_)
  replace r0 : ∀ s, onW (Fw.Ends Cc [0, 1, 2] [.tmp 6, .tmp 7] (.tuple [.int .i64 r.1, .int .i64 r.2]) []) s → Q0 .ret s := r0
  replace n0 : ∀ s, onW (Fw.Ends Cc [0, 1, 2] [.tmp 6, .tmp 7] (.tuple [.int .i64 r.1, .int .i64 r.2]) []) s → Q0 .normal s := n0
  show wpC Cc c66 Q0 (stA [(0, .slice (a0.map e_impl_Definition)), (1, .int .i64 a1), (2, .int .i64 a2)])
  refine w_sreg (w_abs [(0, .slice (a0.map e_impl_Definition)), (1, .int .i64 a1), (2, .int .i64 a2)] (fun P hP => ?_) ?_)
  · simp only [W0.down, simprocAttr, if_true, if_false, beq_self_eq_true, ne_eq, zz0.down]
    (try simp only [WN.down, simprocAttr, if_true, if_false, zz0.down] at hP ⊢)
    exact hP
  refine w_seq (fun Q2 n2 q2 x2 => ?_)
  obtain ⟨x1, e4, h⟩ := bindE h
  refine w_sreg (w_abs [(0, .slice (a0.map e_impl_Definition)), (1, .int .i64 a1), (2, .int .i64 a2), (8, .int .i64 x1)] (fun P hP => ?_) ?_)
  · simp only [W0.down, simprocAttr, if_true, if_false, beq_self_eq_true, ne_eq, zz0.down]
    refine w_call0 (ok_impl_partCode a0 a1 a2 _ e4) rfl rfl rfl rfl (.inl (by rfl)) ?_
    simp only [W0.down, simprocAttr, if_true, if_false, beq_self_eq_true, ne_eq, zz0.down]
    (try simp only [WN.down, simprocAttr, if_true, if_false, zz0.down] at hP ⊢)
    exact hP
  refine w_sreg (w_abs [(0, .slice (a0.map e_impl_Definition)), (1, .int .i64 a1), (2, .int .i64 a2), (8, .int .i64 x1), (14, .bool (x1 != 0))] (fun P hP => ?_) ?_)
  · simp only [W0.down, simprocAttr, if_true, if_false, beq_self_eq_true, ne_eq, zz0.down]
    (try simp only [WN.down, simprocAttr, if_true, if_false, zz0.down] at hP ⊢)
    exact hP
  rcases condE h with ⟨b6, h⟩ | ⟨b6, h⟩
  · refine w_ct (congrArg AV.bool b6) ?_
    simp only [b6, Bool.not_true, Bool.not_false]
    refine w_sreg (w_abs [(6, .int .i64 0), (7, .int .i64 x1)] (fun P hP => ?_) ?_)
    · simp only [W0.down, simprocAttr, if_true, if_false, beq_self_eq_true, ne_eq, zz0.down]
      (try simp only [WN.down, simprocAttr, if_true, if_false, zz0.down] at hP ⊢)
      exact hP
    exact w_ret (q2 _ (r0 _ (.inl (w_fin [.int .i64 0, .int .i64 x1] rfl (by cases someE h; rfl) (by decide) outs_nil))))
  · refine w_cf (congrArg AV.bool b6) ?_
    simp only [b6, Bool.not_true, Bool.not_false]
    refine w_skip (n2 _ (.inl ?_))
    obtain ⟨x2, e9, h⟩ := bindE h
    obtain ⟨x3, e10, h⟩ := bindE h
    obtain ⟨x4, e11, h⟩ := bindE h
    refine w_sreg (w_abs [(6, .int .i64 x4.scope), (7, .int .i64 0)] (fun P hP => ?_) ?_)
    · simp only [W0.down, simprocAttr, if_true, if_false, beq_self_eq_true, ne_eq, tt2, tt4, tt9, tt40, tt62, tt131, tt169, tt171, tt185, tt186, tt195, tt249, e_impl_Definition, e_impl_Part, e_impl_Term, e_impl_place, e_s_impl_Term, e9, e11, getI_get e11]
      refine w_call0 (ok_impl_Definition_places x2 _ e10) rfl rfl rfl rfl (.inl (by rfl)) ?_
      simp only [W0.down, simprocAttr, if_true, if_false, beq_self_eq_true, ne_eq, tt2, tt4, tt9, tt40, tt62, tt131, tt169, tt171, tt185, tt186, tt195, tt249, e_impl_Definition, e_impl_Part, e_impl_Term, e_impl_place, e_s_impl_Term, e9, e11, getI_get e11]
      (try simp only [WN.down, simprocAttr, if_true, if_false, zz3.down, e9, e11, getI_get e11] at hP ⊢)
      exact hP
    exact w_ret (r0 _ (.inl (w_fin [.int .i64 x4.scope, .int .i64 0] rfl (by cases someE h; rfl) (by decide) outs_nil)))

theorem ok_laws_eqTerm  (a0 : impl_Term) (a1 : impl_Term) (r : Bool) (h : laws_eqTerm  a0 a1 = some r) : OkAt Cc 111 [e_impl_Term a0, e_impl_Term a1] (.bool r) [] := by
  refine OkAt.of_wpQ (fx := [0, 1]) Cc_ok Try.func111 rfl rfl s111 (Nat.le_of_ble_eq_true rfl) (fun Q0 r0 n0 => ?_)
  replace r0 : ∀ s, onW (Fw.Ends Cc [0, 1] [.tmp 4] (.bool r) []) s → Q0 .ret s := r0
  replace n0 : ∀ s, onW (Fw.Ends Cc [0, 1] [.tmp 4] (.bool r) []) s → Q0 .normal s := n0
  show wpC Cc c111 Q0 (stA [(0, e_impl_Term a0), (1, e_impl_Term a1)])
  refine w_sreg (w_abs [(2, .ubox (e_impl_Term a0)), (3, .ubox (e_impl_Term a1))] (fun P hP => ?_) ?_)
  · simp only [W0.down, simprocAttr, if_true, if_false, beq_self_eq_true, ne_eq, zz8.down]
    (try simp only [WN.down, simprocAttr, if_true, if_false, e_impl_Term] at hP ⊢)
    exact hP
  refine w_seq (fun Q2 n2 q2 x2 => ?_)
  refine w_sreg (w_abs [(2, .ubox (e_impl_Term a0)), (3, .ubox (e_impl_Term a1)), (9, .bool (a0.Kind != a1.Kind))] (fun P hP => ?_) ?_)
  · simp only [W0.down, simprocAttr, if_true, if_false, beq_self_eq_true, ne_eq, zz8.down]
    (try simp only [WN.down, simprocAttr, if_true, if_false, e_impl_Term] at hP ⊢)
    exact hP
  rcases condE h with ⟨b4, h⟩ | ⟨b4, h⟩
  · refine w_ct (congrArg AV.bool b4) ?_
    simp only [b4, Bool.not_true, Bool.not_false]
    refine w_sreg (w_abs [(4, .bool false)] (fun P hP => ?_) ?_)
    · simp only [W0.down, simprocAttr, if_true, if_false, beq_self_eq_true, ne_eq, e_impl_Term]
      (try simp only [WN.down, simprocAttr, if_true, if_false, e_impl_Term] at hP ⊢)
      exact hP
    exact w_ret (q2 _ (r0 _ (.inl (w_fin [.bool false] rfl (by cases someE h; rfl) (by decide) outs_nil))))
  · refine w_cf (congrArg AV.bool b4) ?_
    simp only [b4, Bool.not_true, Bool.not_false]
    refine w_skip (n2 _ (.inl ?_))
    refine w_seq (fun Q6 n6 q6 x6 => ?_)
    refine w_sreg (w_abs [(14, .bool (a0.Value != a1.Value))] (fun P hP => ?_) ?_)
    · simp only [W0.down, simprocAttr, if_true, if_false, beq_self_eq_true, ne_eq, zz8.down]
      (try simp only [WN.down, simprocAttr, if_true, if_false, e_impl_Term] at hP ⊢)
      exact hP
    rcases condE h with ⟨b8, h⟩ | ⟨b8, h⟩
    · refine w_ct (congrArg AV.bool b8) ?_
      simp only [b8, Bool.not_true, Bool.not_false]
      refine w_sreg (w_abs [(4, .bool false)] (fun P hP => ?_) ?_)
      · simp only [W0.down, simprocAttr, if_true, if_false, beq_self_eq_true, ne_eq]
        (try simp only [WN.down, simprocAttr, if_true, if_false] at hP ⊢)
        exact hP
      exact w_ret (q6 _ (r0 _ (.inl (w_fin [.bool false] rfl (by cases someE h; rfl) (by decide) outs_nil))))
    · refine w_cf (congrArg AV.bool b8) ?_
      simp only [b8, Bool.not_true, Bool.not_false]
      refine w_skip (n6 _ (.inl ?_))
      refine w_sreg (w_abs [(4, .bool true)] (fun P hP => ?_) ?_)
      · simp only [W0.down, simprocAttr, if_true, if_false, beq_self_eq_true, ne_eq]
        (try simp only [WN.down, simprocAttr, if_true, if_false] at hP ⊢)
        exact hP
      exact w_ret (r0 _ (.inl (w_fin [.bool true] rfl (by cases someE h; rfl) (by decide) outs_nil)))

theorem ok_laws_eqTermS  (a0 : List impl_Term) (a1 : List impl_Term) (r : Bool) (h : laws_eqTermS  a0 a1 = some r) : OkAt Cc 35 [.slice (a0.map e_impl_Term), .slice (a1.map e_impl_Term)] (.bool r) [] := by
  refine OkAt.of_wpQ (fx := [0, 1]) Cc_ok Try.func35 rfl rfl s35 (Nat.le_of_ble_eq_true rfl) (fun Q0 r0 n0 => ?_)
  replace r0 : ∀ s, onW (Fw.Ends Cc [0, 1] [.tmp 4] (.bool r) []) s → Q0 .ret s := r0
  replace n0 : ∀ s, onW (Fw.Ends Cc [0, 1] [.tmp 4] (.bool r) []) s → Q0 .normal s := n0
  show wpC Cc c35 Q0 (stA [(0, .slice (a0.map e_impl_Term)), (1, .slice (a1.map e_impl_Term))])
  refine w_sreg (w_abs [(0, .slice (a0.map e_impl_Term)), (1, .slice (a1.map e_impl_Term))] (fun P hP => ?_) ?_)
  · simp only [W0.down, simprocAttr, if_true, if_false, beq_self_eq_true, ne_eq, e_impl_Term]
    (try simp only [WN.down, simprocAttr, if_true, if_false, e_impl_Term] at hP ⊢)
    exact hP
  refine w_seq (fun Q2 n2 q2 x2 => ?_)
  refine w_sreg (w_abs [(0, .slice (a0.map e_impl_Term)), (1, .slice (a1.map e_impl_Term)), (10, .bool ((a0.length : Int) != (a1.length : Int)))] (fun P hP => ?_) ?_)
  · simp only [W0.down, simprocAttr, if_true, if_false, beq_self_eq_true, ne_eq, zz11.down]
    (try simp only [WN.down, simprocAttr, if_true, if_false, e_impl_Term] at hP ⊢)
    exact hP
  rcases condE h with ⟨b4, h⟩ | ⟨b4, h⟩
  · refine w_ct (congrArg AV.bool b4) ?_
    simp only [b4, Bool.not_true, Bool.not_false]
    refine w_sreg (w_abs [(4, .bool false)] (fun P hP => ?_) ?_)
    · simp only [W0.down, simprocAttr, if_true, if_false, beq_self_eq_true, ne_eq, e_impl_Term]
      (try simp only [WN.down, simprocAttr, if_true, if_false, e_impl_Term] at hP ⊢)
      exact hP
    exact w_ret (q2 _ (r0 _ (.inl (w_fin [.bool false] rfl (by cases someE h; rfl) (by decide) outs_nil))))
  · refine w_cf (congrArg AV.bool b4) ?_
    simp only [b4, Bool.not_true, Bool.not_false]
    refine w_skip (n2 _ (.inl ?_))
    refine w_seq (fun Q6 n6 q6 x6 => ?_)
    refine w_sreg (w_abs [(0, .slice (a0.map e_impl_Term)), (1, .slice (a1.map e_impl_Term)), (5, .int .i64 0)] (fun P hP => ?_) ?_)
    · simp only [W0.down, simprocAttr, if_true, if_false, beq_self_eq_true, ne_eq, e_impl_Term]
      (try simp only [WN.down, simprocAttr, if_true, if_false, e_impl_Term] at hP ⊢)
      exact hP
    refine w_blk (fun Q8 n8 q8 b8 x8 => ?_)
    have L14 : ∀ (n : Nat) (v5_14 : Int), laws_eqTermS_l14 a0 a1 n v5_14 = some r → lpC Cc c35_15 Q8 (stA [(0, .slice (a0.map e_impl_Term)), (1, .slice (a1.map e_impl_Term)), (5, .int .i64 v5_14)]) := by
      intro m14
      induction m14 with
      | zero => intro v5_14 h; cases (show none = some r from h)
      | succ m14 ih14 =>
        intro v5_14 h
        replace h : laws_eqTermS_b14 (laws_eqTermS_l14 a0 a1 m14) a0 a1 v5_14 = some r := h
        refine lpC_step (fun Q9 n9 q9 x9 => ?_)
        refine w_seq (fun Q10 n10 q10 x10 => ?_)
        refine w_sreg (w_abs [(0, .slice (a0.map e_impl_Term)), (1, .slice (a1.map e_impl_Term)), (5, .int .i64 v5_14), (14, .bool (decide (v5_14 < (a0.length : Int))))] (fun P hP => ?_) ?_)
        · simp only [W0.down, simprocAttr, if_true, if_false, beq_self_eq_true, ne_eq, zz11.down]
          (try simp only [WN.down, simprocAttr, if_true, if_false, e_impl_Term] at hP ⊢)
          exact hP
        rcases condE h with ⟨b12, h⟩ | ⟨b12, h⟩
        · refine w_ct (congrArg AV.bool b12) ?_
          simp only [b12, Bool.not_true, Bool.not_false]
          refine w_skip (n10 _ (.inl ?_))
          refine w_seq (fun Q13 n13 q13 x13 => ?_)
          refine w_blk (fun Q14 n14 q14 b14 x14 => ?_)
          obtain ⟨x1, e16, h⟩ := bindE h
          obtain ⟨x2, e17, h⟩ := bindE h
          obtain ⟨x3, e18, h⟩ := bindE h
          refine w_sdrw rfl (w_absd [(0, .slice (a0.map e_impl_Term)), (1, .slice (a1.map e_impl_Term)), (5, .int .i64 v5_14), (26, .bool (!x3))] (fun P hP => ?_) ?_)
          · simp only [W1.down, simprocAttr, if_true, if_false, beq_self_eq_true, ne_eq, zz11.down, e16, e17]
            refine w_call1 (ok_laws_eqTerm x1 x2 _ e18) rfl rfl rfl rfl (.inl (by rfl)) ?_
            simp only [W1.down, simprocAttr, if_true, if_false, beq_self_eq_true, ne_eq, zz11.down, e16, e17]
            refine ⟨by kernel_rfl, ?_⟩
            (try simp only [WN.down, simprocAttr, if_true, if_false, e_impl_Term, e16, e17] at hP ⊢)
            exact hP
          rcases condE h with ⟨b19, h⟩ | ⟨b19, h⟩
          · refine w_ct (congrArg AV.bool b19) ?_
            simp only [b19, Bool.not_true, Bool.not_false]
            refine w_sreg (w_abs [(4, .bool false)] (fun P hP => ?_) ?_)
            · simp only [W0.down, simprocAttr, if_true, if_false, beq_self_eq_true, ne_eq, e_impl_Term]
              (try simp only [WN.down, simprocAttr, if_true, if_false, e_impl_Term] at hP ⊢)
              exact hP
            exact w_ret (q14 _ (q13 _ (q9 _ (q8 _ (q6 _ (r0 _ (.inl (w_fin [.bool false] rfl (by cases someE h; rfl) (by decide) outs_nil))))))))
          · refine w_cf (congrArg AV.bool b19) ?_
            simp only [b19, Bool.not_true, Bool.not_false]
            refine w_skip (n14 _ (n13 _ (.inl ?_)))
            refine w_reg (w_abs [(0, .slice (a0.map e_impl_Term)), (1, .slice (a1.map e_impl_Term)), (5, .int .i64 (IntKind.i64.wrap (v5_14 + 1)))] (fun P hP => ?_) ?_)
            · simp only [W0.down, simprocAttr, if_true, if_false, beq_self_eq_true, ne_eq, e_impl_Term]
              (try simp only [WN.down, simprocAttr, if_true, if_false, e_impl_Term] at hP ⊢)
              exact hP
            exact n9 _ (.inr ⟨_, weak_eq rfl, ih14 (IntKind.i64.wrap (v5_14 + 1)) h⟩)
        · refine w_cf (congrArg AV.bool b12) ?_
          simp only [b12, Bool.not_true, Bool.not_false]
          refine w_ex (x10 0 _ (x9 0 _ (b8 _ (n6 _ (.inl ?_)))))
          refine w_sreg (w_abs [(4, .bool true)] (fun P hP => ?_) ?_)
          · simp only [W0.down, simprocAttr, if_true, if_false, beq_self_eq_true, ne_eq, e_impl_Term]
            (try simp only [WN.down, simprocAttr, if_true, if_false, e_impl_Term] at hP ⊢)
            exact hP
          exact w_ret (r0 _ (.inl (w_fin [.bool true] rfl (by cases someE h; rfl) (by decide) outs_nil)))
    obtain ⟨n, h⟩ := limE h
    exact w_loop (.inr ⟨_, weak_eq rfl, L14 n 0 h⟩)

theorem ok_laws_eqTermSS  (a0 : List (List impl_Term)) (a1 : List (List impl_Term)) (r : Bool) (h : laws_eqTermSS  a0 a1 = some r) : OkAt Cc 295 [.slice (a0.map e_s_impl_Term), .slice (a1.map e_s_impl_Term)] (.bool r) [] := by
  refine OkAt.of_wpQ (fx := [0, 1]) Cc_ok Try.func295 rfl rfl s295 (Nat.le_of_ble_eq_true rfl) (fun Q0 r0 n0 => ?_)
  replace r0 : ∀ s, onW (Fw.Ends Cc [0, 1] [.tmp 4] (.bool r) []) s → Q0 .ret s := r0
  replace n0 : ∀ s, onW (Fw.Ends Cc [0, 1] [.tmp 4] (.bool r) []) s → Q0 .normal s := n0
  show wpC Cc c295 Q0 (stA [(0, .slice (a0.map e_s_impl_Term)), (1, .slice (a1.map e_s_impl_Term))])
  refine w_sreg (w_abs [(0, .slice (a0.map e_s_impl_Term)), (1, .slice (a1.map e_s_impl_Term))] (fun P hP => ?_) ?_)
  · simp only [W0.down, simprocAttr, if_true, if_false, beq_self_eq_true, ne_eq, zz13.down]
    (try simp only [WN.down, simprocAttr, if_true, if_false, zz13.down] at hP ⊢)
    exact hP
  refine w_seq (fun Q2 n2 q2 x2 => ?_)
  refine w_sreg (w_abs [(0, .slice (a0.map e_s_impl_Term)), (1, .slice (a1.map e_s_impl_Term)), (10, .bool ((a0.length : Int) != (a1.length : Int)))] (fun P hP => ?_) ?_)
  · simp only [W0.down, simprocAttr, if_true, if_false, beq_self_eq_true, ne_eq, zz30.down]
    (try simp only [WN.down, simprocAttr, if_true, if_false, zz13.down] at hP ⊢)
    exact hP
  rcases condE h with ⟨b4, h⟩ | ⟨b4, h⟩
  · refine w_ct (congrArg AV.bool b4) ?_
    simp only [b4, Bool.not_true, Bool.not_false]
    refine w_sreg (w_abs [(4, .bool false)] (fun P hP => ?_) ?_)
    · simp only [W0.down, simprocAttr, if_true, if_false, beq_self_eq_true, ne_eq, zz13.down]
      (try simp only [WN.down, simprocAttr, if_true, if_false, zz13.down] at hP ⊢)
      exact hP
    exact w_ret (q2 _ (r0 _ (.inl (w_fin [.bool false] rfl (by cases someE h; rfl) (by decide) outs_nil))))
  · refine w_cf (congrArg AV.bool b4) ?_
    simp only [b4, Bool.not_true, Bool.not_false]
    refine w_skip (n2 _ (.inl ?_))
    refine w_seq (fun Q6 n6 q6 x6 => ?_)
    refine w_sreg (w_abs [(0, .slice (a0.map e_s_impl_Term)), (1, .slice (a1.map e_s_impl_Term)), (5, .int .i64 0)] (fun P hP => ?_) ?_)
    · simp only [W0.down, simprocAttr, if_true, if_false, beq_self_eq_true, ne_eq, zz13.down]
      (try simp only [WN.down, simprocAttr, if_true, if_false, zz13.down] at hP ⊢)
      exact hP
    refine w_blk (fun Q8 n8 q8 b8 x8 => ?_)
    have L14 : ∀ (n : Nat) (v5_14 : Int), laws_eqTermSS_l14 a0 a1 n v5_14 = some r → lpC Cc c295_15 Q8 (stA [(0, .slice (a0.map e_s_impl_Term)), (1, .slice (a1.map e_s_impl_Term)), (5, .int .i64 v5_14)]) := by
      intro m14
      induction m14 with
      | zero => intro v5_14 h; cases (show none = some r from h)
      | succ m14 ih14 =>
        intro v5_14 h
        replace h : laws_eqTermSS_b14 (laws_eqTermSS_l14 a0 a1 m14) a0 a1 v5_14 = some r := h
        refine lpC_step (fun Q9 n9 q9 x9 => ?_)
        refine w_seq (fun Q10 n10 q10 x10 => ?_)
        refine w_sreg (w_abs [(0, .slice (a0.map e_s_impl_Term)), (1, .slice (a1.map e_s_impl_Term)), (5, .int .i64 v5_14), (14, .bool (decide (v5_14 < (a0.length : Int))))] (fun P hP => ?_) ?_)
        · simp only [W0.down, simprocAttr, if_true, if_false, beq_self_eq_true, ne_eq, zz30.down]
          (try simp only [WN.down, simprocAttr, if_true, if_false, zz13.down] at hP ⊢)
          exact hP
        rcases condE h with ⟨b12, h⟩ | ⟨b12, h⟩
        · refine w_ct (congrArg AV.bool b12) ?_
          simp only [b12, Bool.not_true, Bool.not_false]
          refine w_skip (n10 _ (.inl ?_))
          refine w_seq (fun Q13 n13 q13 x13 => ?_)
          refine w_blk (fun Q14 n14 q14 b14 x14 => ?_)
          obtain ⟨x1, e16, h⟩ := bindE h
          obtain ⟨x2, e17, h⟩ := bindE h
          obtain ⟨x3, e18, h⟩ := bindE h
          refine w_sdrw rfl (w_absd [(0, .slice (a0.map e_s_impl_Term)), (1, .slice (a1.map e_s_impl_Term)), (5, .int .i64 v5_14), (26, .bool (!x3))] (fun P hP => ?_) ?_)
          · simp only [W1.down, simprocAttr, if_true, if_false, beq_self_eq_true, ne_eq, zz30.down, e16, e17]
            refine w_call1 (ok_laws_eqTermS x1 x2 _ e18) rfl rfl rfl rfl (.inl (by rfl)) ?_
            simp only [W1.down, simprocAttr, if_true, if_false, beq_self_eq_true, ne_eq, zz30.down, e16, e17]
            refine ⟨by kernel_rfl, ?_⟩
            (try simp only [WN.down, simprocAttr, if_true, if_false, zz13.down, e16, e17] at hP ⊢)
            exact hP
          rcases condE h with ⟨b19, h⟩ | ⟨b19, h⟩
          · refine w_ct (congrArg AV.bool b19) ?_
            simp only [b19, Bool.not_true, Bool.not_false]
            refine w_sreg (w_abs [(4, .bool false)] (fun P hP => ?_) ?_)
            · simp only [W0.down, simprocAttr, if_true, if_false, beq_self_eq_true, ne_eq, zz13.down]
              (try simp only [WN.down, simprocAttr, if_true, if_false, zz13.down] at hP ⊢)
              exact hP
            exact w_ret (q14 _ (q13 _ (q9 _ (q8 _ (q6 _ (r0 _ (.inl (w_fin [.bool false] rfl (by cases someE h; rfl) (by decide) outs_nil))))))))
          · refine w_cf (congrArg AV.bool b19) ?_
            simp only [b19, Bool.not_true, Bool.not_false]
            refine w_skip (n14 _ (n13 _ (.inl ?_)))
            refine w_reg (w_abs [(0, .slice (a0.map e_s_impl_Term)), (1, .slice (a1.map e_s_impl_Term)), (5, .int .i64 (IntKind.i64.wrap (v5_14 + 1)))] (fun P hP => ?_) ?_)
            · simp only [W0.down, simprocAttr, if_true, if_false, beq_self_eq_true, ne_eq, zz13.down]
              (try simp only [WN.down, simprocAttr, if_true, if_false, zz13.down] at hP ⊢)
              exact hP
            exact n9 _ (.inr ⟨_, weak_eq rfl, ih14 (IntKind.i64.wrap (v5_14 + 1)) h⟩)
        · refine w_cf (congrArg AV.bool b12) ?_
          simp only [b12, Bool.not_true, Bool.not_false]
          refine w_ex (x10 0 _ (x9 0 _ (b8 _ (n6 _ (.inl ?_)))))
          refine w_sreg (w_abs [(4, .bool true)] (fun P hP => ?_) ?_)
          · simp only [W0.down, simprocAttr, if_true, if_false, beq_self_eq_true, ne_eq, zz13.down]
            (try simp only [WN.down, simprocAttr, if_true, if_false, zz13.down] at hP ⊢)
            exact hP
          exact w_ret (r0 _ (.inl (w_fin [.bool true] rfl (by cases someE h; rfl) (by decide) outs_nil)))
    obtain ⟨n, h⟩ := limE h
    exact w_loop (.inr ⟨_, weak_eq rfl, L14 n 0 h⟩)

theorem ok_laws_eqPart  (a0 : impl_Part) (a1 : impl_Part) (r : Bool) (h : laws_eqPart  a0 a1 = some r) : OkAt Cc 282 [e_impl_Part a0, e_impl_Part a1] (.bool r) [] := by
  refine OkAt.of_wpQ (fx := [0, 1]) Cc_ok Try.func282 rfl rfl s282 (Nat.le_of_ble_eq_true rfl) (fun Q0 r0 n0 => ?_)
  replace r0 : ∀ s, onW (Fw.Ends Cc [0, 1] [.tmp 4] (.bool r) []) s → Q0 .ret s := r0
  replace n0 : ∀ s, onW (Fw.Ends Cc [0, 1] [.tmp 4] (.bool r) []) s → Q0 .normal s := n0
  show wpC Cc c282 Q0 (stA [(0, e_impl_Part a0), (1, e_impl_Part a1)])
  refine w_sreg (w_abs [(2, .ubox (e_impl_Part a0)), (3, .ubox (e_impl_Part a1))] (fun P hP => ?_) ?_)
  · simp only [W0.down, simprocAttr, if_true, if_false, beq_self_eq_true, ne_eq, zz9.down]
    (try simp only [WN.down, simprocAttr, if_true, if_false, zz1.down] at hP ⊢)
    exact hP
  refine w_seq (fun Q2 n2 q2 x2 => ?_)
  refine w_sreg (w_abs [(2, .ubox (e_impl_Part a0)), (3, .ubox (e_impl_Part a1)), (9, .bool (a0.Kind != a1.Kind))] (fun P hP => ?_) ?_)
  · simp only [W0.down, simprocAttr, if_true, if_false, beq_self_eq_true, ne_eq, zz9.down]
    (try simp only [WN.down, simprocAttr, if_true, if_false, zz1.down] at hP ⊢)
    exact hP
  rcases condE h with ⟨b4, h⟩ | ⟨b4, h⟩
  · refine w_ct (congrArg AV.bool b4) ?_
    simp only [b4, Bool.not_true, Bool.not_false]
    refine w_sreg (w_abs [(4, .bool false)] (fun P hP => ?_) ?_)
    · simp only [W0.down, simprocAttr, if_true, if_false, beq_self_eq_true, ne_eq, zz1.down]
      (try simp only [WN.down, simprocAttr, if_true, if_false, zz1.down] at hP ⊢)
      exact hP
    exact w_ret (q2 _ (r0 _ (.inl (w_fin [.bool false] rfl (by cases someE h; rfl) (by decide) outs_nil))))
  · refine w_cf (congrArg AV.bool b4) ?_
    simp only [b4, Bool.not_true, Bool.not_false]
    refine w_skip (n2 _ (.inl ?_))
    refine w_seq (fun Q6 n6 q6 x6 => ?_)
    refine w_sreg (w_abs [(2, .ubox (e_impl_Part a0)), (3, .ubox (e_impl_Part a1)), (14, .bool (a0.Number != a1.Number))] (fun P hP => ?_) ?_)
    · simp only [W0.down, simprocAttr, if_true, if_false, beq_self_eq_true, ne_eq, zz9.down]
      (try simp only [WN.down, simprocAttr, if_true, if_false, zz1.down] at hP ⊢)
      exact hP
    rcases condE h with ⟨b8, h⟩ | ⟨b8, h⟩
    · refine w_ct (congrArg AV.bool b8) ?_
      simp only [b8, Bool.not_true, Bool.not_false]
      refine w_sreg (w_abs [(4, .bool false)] (fun P hP => ?_) ?_)
      · simp only [W0.down, simprocAttr, if_true, if_false, beq_self_eq_true, ne_eq, zz1.down]
        (try simp only [WN.down, simprocAttr, if_true, if_false, zz1.down] at hP ⊢)
        exact hP
      exact w_ret (q6 _ (r0 _ (.inl (w_fin [.bool false] rfl (by cases someE h; rfl) (by decide) outs_nil))))
    · refine w_cf (congrArg AV.bool b8) ?_
      simp only [b8, Bool.not_true, Bool.not_false]
      refine w_skip (n6 _ (.inl ?_))
      refine w_seq (fun Q10 n10 q10 x10 => ?_)
      refine w_sreg (w_abs [(2, .ubox (e_impl_Part a0)), (3, .ubox (e_impl_Part a1)), (19, .bool (!(a0.Name == a1.Name)))] (fun P hP => ?_) ?_)
      · simp only [W0.down, simprocAttr, if_true, if_false, beq_self_eq_true, ne_eq, zz9.down]
        (try simp only [WN.down, simprocAttr, if_true, if_false, zz1.down] at hP ⊢)
        exact hP
      rcases condE h with ⟨b12, h⟩ | ⟨b12, h⟩
      · refine w_ct (congrArg AV.bool b12) ?_
        simp only [b12, Bool.not_true, Bool.not_false]
        refine w_sreg (w_abs [(4, .bool false)] (fun P hP => ?_) ?_)
        · simp only [W0.down, simprocAttr, if_true, if_false, beq_self_eq_true, ne_eq, zz1.down]
          (try simp only [WN.down, simprocAttr, if_true, if_false, zz1.down] at hP ⊢)
          exact hP
        exact w_ret (q10 _ (r0 _ (.inl (w_fin [.bool false] rfl (by cases someE h; rfl) (by decide) outs_nil))))
      · refine w_cf (congrArg AV.bool b12) ?_
        simp only [b12, Bool.not_true, Bool.not_false]
        refine w_skip (n10 _ (.inl ?_))
        refine w_seq (fun Q14 n14 q14 x14 => ?_)
        obtain ⟨x1, e16, h⟩ := bindE h
        refine w_sreg (w_abs [(25, .bool (!x1))] (fun P hP => ?_) ?_)
        · simp only [W0.down, simprocAttr, if_true, if_false, beq_self_eq_true, ne_eq, zz9.down]
          refine w_call0 (ok_laws_eqTermSS a0.Arguments a1.Arguments _ e16) rfl rfl rfl rfl (.inl (by rfl)) ?_
          simp only [W0.down, simprocAttr, if_true, if_false, beq_self_eq_true, ne_eq, zz9.down]
          (try simp only [WN.down, simprocAttr, if_true, if_false, zz1.down] at hP ⊢)
          exact hP
        rcases condE h with ⟨b17, h⟩ | ⟨b17, h⟩
        · refine w_ct (congrArg AV.bool b17) ?_
          simp only [b17, Bool.not_true, Bool.not_false]
          refine w_sreg (w_abs [(4, .bool false)] (fun P hP => ?_) ?_)
          · simp only [W0.down, simprocAttr, if_true, if_false, beq_self_eq_true, ne_eq]
            (try simp only [WN.down, simprocAttr, if_true, if_false] at hP ⊢)
            exact hP
          exact w_ret (q14 _ (r0 _ (.inl (w_fin [.bool false] rfl (by cases someE h; rfl) (by decide) outs_nil))))
        · refine w_cf (congrArg AV.bool b17) ?_
          simp only [b17, Bool.not_true, Bool.not_false]
          refine w_skip (n14 _ (.inl ?_))
          refine w_sreg (w_abs [(4, .bool true)] (fun P hP => ?_) ?_)
          · simp only [W0.down, simprocAttr, if_true, if_false, beq_self_eq_true, ne_eq]
            (try simp only [WN.down, simprocAttr, if_true, if_false] at hP ⊢)
            exact hP
          exact w_ret (r0 _ (.inl (w_fin [.bool true] rfl (by cases someE h; rfl) (by decide) outs_nil)))

theorem ok_laws_eqPartS  (a0 : List impl_Part) (a1 : List impl_Part) (r : Bool) (h : laws_eqPartS  a0 a1 = some r) : OkAt Cc 219 [.slice (a0.map e_impl_Part), .slice (a1.map e_impl_Part)] (.bool r) [] := by
  refine OkAt.of_wpQ (fx := [0, 1]) Cc_ok Try.func219 rfl rfl s219 (Nat.le_of_ble_eq_true rfl) (fun Q0 r0 n0 => ?_)
  replace r0 : ∀ s, onW (Fw.Ends Cc [0, 1] [.tmp 4] (.bool r) []) s → Q0 .ret s := r0
  replace n0 : ∀ s, onW (Fw.Ends Cc [0, 1] [.tmp 4] (.bool r) []) s → Q0 .normal s := n0
  show wpC Cc c219 Q0 (stA [(0, .slice (a0.map e_impl_Part)), (1, .slice (a1.map e_impl_Part))])
  refine w_sreg (w_abs [(0, .slice (a0.map e_impl_Part)), (1, .slice (a1.map e_impl_Part))] (fun P hP => ?_) ?_)
  · simp only [W0.down, simprocAttr, if_true, if_false, beq_self_eq_true, ne_eq, zz1.down]
    (try simp only [WN.down, simprocAttr, if_true, if_false, zz1.down] at hP ⊢)
    exact hP
  refine w_seq (fun Q2 n2 q2 x2 => ?_)
  refine w_sreg (w_abs [(0, .slice (a0.map e_impl_Part)), (1, .slice (a1.map e_impl_Part)), (10, .bool ((a0.length : Int) != (a1.length : Int)))] (fun P hP => ?_) ?_)
  · simp only [W0.down, simprocAttr, if_true, if_false, beq_self_eq_true, ne_eq, zz14.down]
    (try simp only [WN.down, simprocAttr, if_true, if_false, zz1.down] at hP ⊢)
    exact hP
  rcases condE h with ⟨b4, h⟩ | ⟨b4, h⟩
  · refine w_ct (congrArg AV.bool b4) ?_
    simp only [b4, Bool.not_true, Bool.not_false]
    refine w_sreg (w_abs [(4, .bool false)] (fun P hP => ?_) ?_)
    · simp only [W0.down, simprocAttr, if_true, if_false, beq_self_eq_true, ne_eq, zz1.down]
      (try simp only [WN.down, simprocAttr, if_true, if_false, zz1.down] at hP ⊢)
      exact hP
    exact w_ret (q2 _ (r0 _ (.inl (w_fin [.bool false] rfl (by cases someE h; rfl) (by decide) outs_nil))))
  · refine w_cf (congrArg AV.bool b4) ?_
    simp only [b4, Bool.not_true, Bool.not_false]
    refine w_skip (n2 _ (.inl ?_))
    refine w_seq (fun Q6 n6 q6 x6 => ?_)
    refine w_sreg (w_abs [(0, .slice (a0.map e_impl_Part)), (1, .slice (a1.map e_impl_Part)), (5, .int .i64 0)] (fun P hP => ?_) ?_)
    · simp only [W0.down, simprocAttr, if_true, if_false, beq_self_eq_true, ne_eq, zz1.down]
      (try simp only [WN.down, simprocAttr, if_true, if_false, zz1.down] at hP ⊢)
      exact hP
    refine w_blk (fun Q8 n8 q8 b8 x8 => ?_)
    have L14 : ∀ (n : Nat) (v5_14 : Int), laws_eqPartS_l14 a0 a1 n v5_14 = some r → lpC Cc c219_15 Q8 (stA [(0, .slice (a0.map e_impl_Part)), (1, .slice (a1.map e_impl_Part)), (5, .int .i64 v5_14)]) := by
      intro m14
      induction m14 with
      | zero => intro v5_14 h; cases (show none = some r from h)
      | succ m14 ih14 =>
        intro v5_14 h
        replace h : laws_eqPartS_b14 (laws_eqPartS_l14 a0 a1 m14) a0 a1 v5_14 = some r := h
        refine lpC_step (fun Q9 n9 q9 x9 => ?_)
        refine w_seq (fun Q10 n10 q10 x10 => ?_)
        refine w_sreg (w_abs [(0, .slice (a0.map e_impl_Part)), (1, .slice (a1.map e_impl_Part)), (5, .int .i64 v5_14), (14, .bool (decide (v5_14 < (a0.length : Int))))] (fun P hP => ?_) ?_)
        · simp only [W0.down, simprocAttr, if_true, if_false, beq_self_eq_true, ne_eq, zz14.down]
          (try simp only [WN.down, simprocAttr, if_true, if_false, zz1.down] at hP ⊢)
          exact hP
        rcases condE h with ⟨b12, h⟩ | ⟨b12, h⟩
        · refine w_ct (congrArg AV.bool b12) ?_
          simp only [b12, Bool.not_true, Bool.not_false]
          refine w_skip (n10 _ (.inl ?_))
          refine w_seq (fun Q13 n13 q13 x13 => ?_)
          refine w_blk (fun Q14 n14 q14 b14 x14 => ?_)
          obtain ⟨x1, e16, h⟩ := bindE h
          obtain ⟨x2, e17, h⟩ := bindE h
          obtain ⟨x3, e18, h⟩ := bindE h
          refine w_sdrw rfl (w_absd [(0, .slice (a0.map e_impl_Part)), (1, .slice (a1.map e_impl_Part)), (5, .int .i64 v5_14), (26, .bool (!x3))] (fun P hP => ?_) ?_)
          · simp only [W1.down, simprocAttr, if_true, if_false, beq_self_eq_true, ne_eq, zz14.down, e16, e17]
            refine w_call1 (ok_laws_eqPart x1 x2 _ e18) rfl rfl rfl rfl (.inl (by rfl)) ?_
            simp only [W1.down, simprocAttr, if_true, if_false, beq_self_eq_true, ne_eq, zz14.down, e16, e17]
            refine ⟨by kernel_rfl, ?_⟩
            (try simp only [WN.down, simprocAttr, if_true, if_false, zz1.down, e16, e17] at hP ⊢)
            exact hP
          rcases condE h with ⟨b19, h⟩ | ⟨b19, h⟩
          · refine w_ct (congrArg AV.bool b19) ?_
            simp only [b19, Bool.not_true, Bool.not_false]
            refine w_sreg (w_abs [(4, .bool false)] (fun P hP => ?_) ?_)
            · simp only [W0.down, simprocAttr, if_true, if_false, beq_self_eq_true, ne_eq, zz1.down]
              (try simp only [WN.down, simprocAttr, if_true, if_false, zz1.down] at hP ⊢)
              exact hP
            exact w_ret (q14 _ (q13 _ (q9 _ (q8 _ (q6 _ (r0 _ (.inl (w_fin [.bool false] rfl (by cases someE h; rfl) (by decide) outs_nil))))))))
          · refine w_cf (congrArg AV.bool b19) ?_
            simp only [b19, Bool.not_true, Bool.not_false]
            refine w_skip (n14 _ (n13 _ (.inl ?_)))
            refine w_reg (w_abs [(0, .slice (a0.map e_impl_Part)), (1, .slice (a1.map e_impl_Part)), (5, .int .i64 (IntKind.i64.wrap (v5_14 + 1)))] (fun P hP => ?_) ?_)
            · simp only [W0.down, simprocAttr, if_true, if_false, beq_self_eq_true, ne_eq, zz1.down]
              (try simp only [WN.down, simprocAttr, if_true, if_false, zz1.down] at hP ⊢)
              exact hP
            exact n9 _ (.inr ⟨_, weak_eq rfl, ih14 (IntKind.i64.wrap (v5_14 + 1)) h⟩)
        · refine w_cf (congrArg AV.bool b12) ?_
          simp only [b12, Bool.not_true, Bool.not_false]
          refine w_ex (x10 0 _ (x9 0 _ (b8 _ (n6 _ (.inl ?_)))))
          refine w_sreg (w_abs [(4, .bool true)] (fun P hP => ?_) ?_)
          · simp only [W0.down, simprocAttr, if_true, if_false, beq_self_eq_true, ne_eq, zz1.down]
            (try simp only [WN.down, simprocAttr, if_true, if_false, zz1.down] at hP ⊢)
            exact hP
          exact w_ret (r0 _ (.inl (w_fin [.bool true] rfl (by cases someE h; rfl) (by decide) outs_nil)))
    obtain ⟨n, h⟩ := limE h
    exact w_loop (.inr ⟨_, weak_eq rfl, L14 n 0 h⟩)

theorem ok_laws_eqDefinition  (a0 : impl_Definition) (a1 : impl_Definition) (r : Bool) (h : laws_eqDefinition  a0 a1 = some r) : OkAt Cc 136 [e_impl_Definition a0, e_impl_Definition a1] (.bool r) [] := by
  refine OkAt.of_wpQ (fx := [0, 1]) Cc_ok Try.func136 rfl rfl s136 (Nat.le_of_ble_eq_true rfl) (fun Q0 r0 n0 => ?_)
  replace r0 : ∀ s, onW (Fw.Ends Cc [0, 1] [.tmp 4] (.bool r) []) s → Q0 .ret s := r0
  replace n0 : ∀ s, onW (Fw.Ends Cc [0, 1] [.tmp 4] (.bool r) []) s → Q0 .normal s := n0
  show wpC Cc c136 Q0 (stA [(0, e_impl_Definition a0), (1, e_impl_Definition a1)])
  refine w_sreg (w_abs [(2, .ubox (e_impl_Definition a0)), (3, .ubox (e_impl_Definition a1))] (fun P hP => ?_) ?_)
  · simp only [W0.down, simprocAttr, if_true, if_false, beq_self_eq_true, ne_eq, zz6.down]
    (try simp only [WN.down, simprocAttr, if_true, if_false, zz0.down] at hP ⊢)
    exact hP
  refine w_seq (fun Q2 n2 q2 x2 => ?_)
  refine w_sreg (w_abs [(2, .ubox (e_impl_Definition a0)), (3, .ubox (e_impl_Definition a1)), (9, .bool (!(a0.Name == a1.Name)))] (fun P hP => ?_) ?_)
  · simp only [W0.down, simprocAttr, if_true, if_false, beq_self_eq_true, ne_eq, zz6.down]
    (try simp only [WN.down, simprocAttr, if_true, if_false, zz0.down] at hP ⊢)
    exact hP
  rcases condE h with ⟨b4, h⟩ | ⟨b4, h⟩
  · refine w_ct (congrArg AV.bool b4) ?_
    simp only [b4, Bool.not_true, Bool.not_false]
    refine w_sreg (w_abs [(4, .bool false)] (fun P hP => ?_) ?_)
    · simp only [W0.down, simprocAttr, if_true, if_false, beq_self_eq_true, ne_eq, zz0.down]
      (try simp only [WN.down, simprocAttr, if_true, if_false, zz0.down] at hP ⊢)
      exact hP
    exact w_ret (q2 _ (r0 _ (.inl (w_fin [.bool false] rfl (by cases someE h; rfl) (by decide) outs_nil))))
  · refine w_cf (congrArg AV.bool b4) ?_
    simp only [b4, Bool.not_true, Bool.not_false]
    refine w_skip (n2 _ (.inl ?_))
    refine w_seq (fun Q6 n6 q6 x6 => ?_)
    refine w_sreg (w_abs [(2, .ubox (e_impl_Definition a0)), (3, .ubox (e_impl_Definition a1)), (14, .bool (a0.Parameters != a1.Parameters))] (fun P hP => ?_) ?_)
    · simp only [W0.down, simprocAttr, if_true, if_false, beq_self_eq_true, ne_eq, zz6.down]
      (try simp only [WN.down, simprocAttr, if_true, if_false, zz0.down] at hP ⊢)
      exact hP
    rcases condE h with ⟨b8, h⟩ | ⟨b8, h⟩
    · refine w_ct (congrArg AV.bool b8) ?_
      simp only [b8, Bool.not_true, Bool.not_false]
      refine w_sreg (w_abs [(4, .bool false)] (fun P hP => ?_) ?_)
      · simp only [W0.down, simprocAttr, if_true, if_false, beq_self_eq_true, ne_eq, zz0.down]
        (try simp only [WN.down, simprocAttr, if_true, if_false, zz0.down] at hP ⊢)
        exact hP
      exact w_ret (q6 _ (r0 _ (.inl (w_fin [.bool false] rfl (by cases someE h; rfl) (by decide) outs_nil))))
    · refine w_cf (congrArg AV.bool b8) ?_
      simp only [b8, Bool.not_true, Bool.not_false]
      refine w_skip (n6 _ (.inl ?_))
      refine w_seq (fun Q10 n10 q10 x10 => ?_)
      obtain ⟨x1, e12, h⟩ := bindE h
      refine w_sreg (w_abs [(20, .bool (!x1))] (fun P hP => ?_) ?_)
      · simp only [W0.down, simprocAttr, if_true, if_false, beq_self_eq_true, ne_eq, zz6.down]
        refine w_call0 (ok_laws_eqPartS a0.Body a1.Body _ e12) rfl rfl rfl rfl (.inl (by rfl)) ?_
        simp only [W0.down, simprocAttr, if_true, if_false, beq_self_eq_true, ne_eq, zz6.down]
        (try simp only [WN.down, simprocAttr, if_true, if_false, zz0.down] at hP ⊢)
        exact hP
      rcases condE h with ⟨b13, h⟩ | ⟨b13, h⟩
      · refine w_ct (congrArg AV.bool b13) ?_
        simp only [b13, Bool.not_true, Bool.not_false]
        refine w_sreg (w_abs [(4, .bool false)] (fun P hP => ?_) ?_)
        · simp only [W0.down, simprocAttr, if_true, if_false, beq_self_eq_true, ne_eq]
          (try simp only [WN.down, simprocAttr, if_true, if_false] at hP ⊢)
          exact hP
        exact w_ret (q10 _ (r0 _ (.inl (w_fin [.bool false] rfl (by cases someE h; rfl) (by decide) outs_nil))))
      · refine w_cf (congrArg AV.bool b13) ?_
        simp only [b13, Bool.not_true, Bool.not_false]
        refine w_skip (n10 _ (.inl ?_))
        refine w_sreg (w_abs [(4, .bool true)] (fun P hP => ?_) ?_)
        · simp only [W0.down, simprocAttr, if_true, if_false, beq_self_eq_true, ne_eq]
          (try simp only [WN.down, simprocAttr, if_true, if_false] at hP ⊢)
          exact hP
        exact w_ret (r0 _ (.inl (w_fin [.bool true] rfl (by cases someE h; rfl) (by decide) outs_nil)))

theorem ok_laws_eqDefinitionS  (a0 : List impl_Definition) (a1 : List impl_Definition) (r : Bool) (h : laws_eqDefinitionS  a0 a1 = some r) : OkAt Cc 54 [.slice (a0.map e_impl_Definition), .slice (a1.map e_impl_Definition)] (.bool r) [] := by
  refine OkAt.of_wpQ (fx := [0, 1]) Cc_ok Try.func54 rfl rfl s54 (Nat.le_of_ble_eq_true rfl) (fun Q0 r0 n0 => ?_)
  replace r0 : ∀ s, onW (Fw.Ends Cc [0, 1] [.tmp 4] (.bool r) []) s → Q0 .ret s := r0
  replace n0 : ∀ s, onW (Fw.Ends Cc [0, 1] [.tmp 4] (.bool r) []) s → Q0 .normal s := n0
  show wpC Cc c54 Q0 (stA [(0, .slice (a0.map e_impl_Definition)), (1, .slice (a1.map e_impl_Definition))])
  refine w_sreg (w_abs [(0, .slice (a0.map e_impl_Definition)), (1, .slice (a1.map e_impl_Definition))] (fun P hP => ?_) ?_)
  · simp only [W0.down, simprocAttr, if_true, if_false, beq_self_eq_true, ne_eq, zz0.down]
    (try simp only [WN.down, simprocAttr, if_true, if_false, zz0.down] at hP ⊢)
    exact hP
  refine w_seq (fun Q2 n2 q2 x2 => ?_)
  refine w_sreg (w_abs [(0, .slice (a0.map e_impl_Definition)), (1, .slice (a1.map e_impl_Definition)), (10, .bool ((a0.length : Int) != (a1.length : Int)))] (fun P hP => ?_) ?_)
  · simp only [W0.down, simprocAttr, if_true, if_false, beq_self_eq_true, ne_eq, zz2.down]
    (try simp only [WN.down, simprocAttr, if_true, if_false, zz0.down] at hP ⊢)
    exact hP
  rcases condE h with ⟨b4, h⟩ | ⟨b4, h⟩
  · refine w_ct (congrArg AV.bool b4) ?_
    simp only [b4, Bool.not_true, Bool.not_false]
    refine w_sreg (w_abs [(4, .bool false)] (fun P hP => ?_) ?_)
    · simp only [W0.down, simprocAttr, if_true, if_false, beq_self_eq_true, ne_eq, zz0.down]
      (try simp only [WN.down, simprocAttr, if_true, if_false, zz0.down] at hP ⊢)
      exact hP
    exact w_ret (q2 _ (r0 _ (.inl (w_fin [.bool false] rfl (by cases someE h; rfl) (by decide) outs_nil))))
  · refine w_cf (congrArg AV.bool b4) ?_
    simp only [b4, Bool.not_true, Bool.not_false]
    refine w_skip (n2 _ (.inl ?_))
    refine w_seq (fun Q6 n6 q6 x6 => ?_)
    refine w_sreg (w_abs [(0, .slice (a0.map e_impl_Definition)), (1, .slice (a1.map e_impl_Definition)), (5, .int .i64 0)] (fun P hP => ?_) ?_)
    · simp only [W0.down, simprocAttr, if_true, if_false, beq_self_eq_true, ne_eq, zz0.down]
      (try simp only [WN.down, simprocAttr, if_true, if_false, zz0.down] at hP ⊢)
      exact hP
    refine w_blk (fun Q8 n8 q8 b8 x8 => ?_)
    have L14 : ∀ (n : Nat) (v5_14 : Int), laws_eqDefinitionS_l14 a0 a1 n v5_14 = some r → lpC Cc c54_15 Q8 (stA [(0, .slice (a0.map e_impl_Definition)), (1, .slice (a1.map e_impl_Definition)), (5, .int .i64 v5_14)]) := by
      intro m14
      induction m14 with
      | zero => intro v5_14 h; cases (show none = some r from h)
      | succ m14 ih14 =>
        intro v5_14 h
        replace h : laws_eqDefinitionS_b14 (laws_eqDefinitionS_l14 a0 a1 m14) a0 a1 v5_14 = some r := h
        refine lpC_step (fun Q9 n9 q9 x9 => ?_)
        refine w_seq (fun Q10 n10 q10 x10 => ?_)
        refine w_sreg (w_abs [(0, .slice (a0.map e_impl_Definition)), (1, .slice (a1.map e_impl_Definition)), (5, .int .i64 v5_14), (14, .bool (decide (v5_14 < (a0.length : Int))))] (fun P hP => ?_) ?_)
        · simp only [W0.down, simprocAttr, if_true, if_false, beq_self_eq_true, ne_eq, zz2.down]
          (try simp only [WN.down, simprocAttr, if_true, if_false, zz0.down] at hP ⊢)
          exact hP
        rcases condE h with ⟨b12, h⟩ | ⟨b12, h⟩
        · refine w_ct (congrArg AV.bool b12) ?_
          simp only [b12, Bool.not_true, Bool.not_false]
          refine w_skip (n10 _ (.inl ?_))
          refine w_seq (fun Q13 n13 q13 x13 => ?_)
          refine w_blk (fun Q14 n14 q14 b14 x14 => ?_)
          obtain ⟨x1, e16, h⟩ := bindE h
          obtain ⟨x2, e17, h⟩ := bindE h
          obtain ⟨x3, e18, h⟩ := bindE h
          refine w_sdrw rfl (w_absd [(0, .slice (a0.map e_impl_Definition)), (1, .slice (a1.map e_impl_Definition)), (5, .int .i64 v5_14), (26, .bool (!x3))] (fun P hP => ?_) ?_)
          · simp only [W1.down, simprocAttr, if_true, if_false, beq_self_eq_true, ne_eq, zz2.down, e16, e17]
            refine w_call1 (ok_laws_eqDefinition x1 x2 _ e18) rfl rfl rfl rfl (.inl (by rfl)) ?_
            simp only [W1.down, simprocAttr, if_true, if_false, beq_self_eq_true, ne_eq, zz2.down, e16, e17]
            refine ⟨by kernel_rfl, ?_⟩
            (try simp only [WN.down, simprocAttr, if_true, if_false, zz0.down, e16, e17] at hP ⊢)
            exact hP
          rcases condE h with ⟨b19, h⟩ | ⟨b19, h⟩
          · refine w_ct (congrArg AV.bool b19) ?_
            simp only [b19, Bool.not_true, Bool.not_false]
            refine w_sreg (w_abs [(4, .bool false)] (fun P hP => ?_) ?_)
            · simp only [W0.down, simprocAttr, if_true, if_false, beq_self_eq_true, ne_eq, zz0.down]
              (try simp only [WN.down, simprocAttr, if_true, if_false, zz0.down] at hP ⊢)
              exact hP
            exact w_ret (q14 _ (q13 _ (q9 _ (q8 _ (q6 _ (r0 _ (.inl (w_fin [.bool false] rfl (by cases someE h; rfl) (by decide) outs_nil))))))))
          · refine w_cf (congrArg AV.bool b19) ?_
            simp only [b19, Bool.not_true, Bool.not_false]
            refine w_skip (n14 _ (n13 _ (.inl ?_)))
            refine w_reg (w_abs [(0, .slice (a0.map e_impl_Definition)), (1, .slice (a1.map e_impl_Definition)), (5, .int .i64 (IntKind.i64.wrap (v5_14 + 1)))] (fun P hP => ?_) ?_)
            · simp only [W0.down, simprocAttr, if_true, if_false, beq_self_eq_true, ne_eq, zz0.down]
              (try simp only [WN.down, simprocAttr, if_true, if_false, zz0.down] at hP ⊢)
              exact hP
            exact n9 _ (.inr ⟨_, weak_eq rfl, ih14 (IntKind.i64.wrap (v5_14 + 1)) h⟩)
        · refine w_cf (congrArg AV.bool b12) ?_
          simp only [b12, Bool.not_true, Bool.not_false]
          refine w_ex (x10 0 _ (x9 0 _ (b8 _ (n6 _ (.inl ?_)))))
          refine w_sreg (w_abs [(4, .bool true)] (fun P hP => ?_) ?_)
          · simp only [W0.down, simprocAttr, if_true, if_false, beq_self_eq_true, ne_eq, zz0.down]
            (try simp only [WN.down, simprocAttr, if_true, if_false, zz0.down] at hP ⊢)
            exact hP
          exact w_ret (r0 _ (.inl (w_fin [.bool true] rfl (by cases someE h; rfl) (by decide) outs_nil)))
    obtain ⟨n, h⟩ := limE h
    exact w_loop (.inr ⟨_, weak_eq rfl, L14 n 0 h⟩)

theorem ok_laws_FnExactScopeAt  (a0 : List laws_Definition) (a1 : Int) (a2 : Int) (r : Bool) (h : laws_FnExactScopeAt  a0 a1 a2 = some r) : OkAt Cc 14 [.slice (a0.map e_laws_Definition), .int .i64 a1, .int .i64 a2] (.bool r) [] := by
  refine OkAt.of_wpQ (fx := [0, 1, 2]) Cc_ok Try.func14 rfl rfl s14 (Nat.le_of_ble_eq_true rfl) (fun Q0 r0 n0 => ?_)
  replace r0 : ∀ s, onW (Fw.Ends Cc [0, 1, 2] [.tmp 6] (.bool r) []) s → Q0 .ret s := r0
  replace n0 : ∀ s, onW (Fw.Ends Cc [0, 1, 2] [.tmp 6] (.bool r) []) s → Q0 .normal s := n0
  show wpC Cc c14 Q0 (stA [(0, .slice (a0.map e_laws_Definition)), (1, .int .i64 a1), (2, .int .i64 a2)])
  refine w_sreg (w_abs [(0, .slice (a0.map e_laws_Definition)), (1, .int .i64 a1), (2, .int .i64 a2)] (fun P hP => ?_) ?_)
  · simp only [W0.down, simprocAttr, if_true, if_false, beq_self_eq_true, ne_eq, zz4.down]
    (try simp only [WN.down, simprocAttr, if_true, if_false, zz4.down] at hP ⊢)
    exact hP
  refine w_sreg (w_abs [(0, .slice (a0.map e_laws_Definition)), (1, .int .i64 a1), (2, .int .i64 a2), (7, .int .i64 1048576)] (fun P hP => ?_) ?_)
  · simp only [W0.down, simprocAttr, if_true, if_false, beq_self_eq_true, ne_eq, zz4.down]
    (try simp only [WN.down, simprocAttr, if_true, if_false, zz4.down] at hP ⊢)
    exact hP
  obtain ⟨x1, e4, h⟩ := bindE h
  refine w_sreg (w_abs [(0, .slice (a0.map e_laws_Definition)), (1, .int .i64 a1), (2, .int .i64 a2), (7, .int .i64 x1)] (fun P hP => ?_) ?_)
  · simp only [W0.down, simprocAttr, if_true, if_false, beq_self_eq_true, ne_eq, zz4.down]
    refine w_call0 (ok_laws_szDefinitionS a0 1048576 _ e4) rfl rfl rfl rfl (.inl (by rfl)) ?_
    simp only [W0.down, simprocAttr, if_true, if_false, beq_self_eq_true, ne_eq, zz4.down]
    (try simp only [WN.down, simprocAttr, if_true, if_false, zz4.down] at hP ⊢)
    exact hP
  refine w_seq (fun Q5 n5 q5 x5 => ?_)
  refine w_sreg (w_abs [(0, .slice (a0.map e_laws_Definition)), (1, .int .i64 a1), (2, .int .i64 a2), (17, .bool (decide (x1 < 0)))] (fun P hP => ?_) ?_)
  · simp only [W0.down, simprocAttr, if_true, if_false, beq_self_eq_true, ne_eq, zz4.down]
    (try simp only [WN.down, simprocAttr, if_true, if_false, zz4.down] at hP ⊢)
    exact hP
  rcases condE h with ⟨b7, h⟩ | ⟨b7, h⟩
  · refine w_ct (congrArg AV.bool b7) ?_
    simp only [b7, Bool.not_true, Bool.not_false]
    refine w_sreg (w_abs [(6, .bool true)] (fun P hP => ?_) ?_)
    · simp only [W0.down, simprocAttr, if_true, if_false, beq_self_eq_true, ne_eq, zz4.down]
      (try simp only [WN.down, simprocAttr, if_true, if_false, zz4.down] at hP ⊢)
      exact hP
    exact w_ret (q5 _ (r0 _ (.inl (w_fin [.bool true] rfl (by cases someE h; rfl) (by decide) outs_nil))))
  · refine w_cf (congrArg AV.bool b7) ?_
    simp only [b7, Bool.not_true, Bool.not_false]
    refine w_skip (n5 _ (.inl ?_))
    obtain ⟨x2, e10, h⟩ := bindE h
    obtain ⟨x3, e11, h⟩ := bindE h
    refine w_sreg (w_abs [(0, .slice (a0.map e_laws_Definition)), (1, .int .i64 a1), (2, .int .i64 a2), (8, .int .i64 x3.1), (9, .int .i64 x3.2)] (fun P hP => ?_) ?_)
    · simp only [W0.down, simprocAttr, if_true, if_false, beq_self_eq_true, ne_eq, zz7.down]
      refine w_call0 (ok_laws_toDefinitionS a0 _ e10) rfl rfl rfl rfl (.inl (by rfl)) ?_
      simp only [W0.down, simprocAttr, if_true, if_false, beq_self_eq_true, ne_eq, zz7.down]
      refine w_call0 (ok_spec_ScopeAt x2 a1 a2 _ e11) rfl rfl (by simp only [W0.down, simprocAttr, if_true, if_false, beq_self_eq_true, ne_eq, zz7.down, view_s, view_h, viewH_s, share_s, @shares_map _ u_impl_Definition e_impl_Definition (fun _ => sh_u_impl_Definition _)] <;> rfl) rfl (.inr (by rfl)) ?_
      simp only [W0.down, simprocAttr, if_true, if_false, beq_self_eq_true, ne_eq, zz7.down]
      (try simp only [WN.down, simprocAttr, if_true, if_false, zz7.down] at hP ⊢)
      exact hP
    obtain ⟨x4, e13, h⟩ := bindE h
    refine w_sreg (w_abs [(0, .slice (a0.map e_laws_Definition)), (1, .int .i64 a1), (2, .int .i64 a2), (8, .int .i64 x3.1), (9, .int .i64 x3.2), (10, .uslice 3 (x4.map u_impl_Definition))] (fun P hP => ?_) ?_)
    · simp only [W0.down, simprocAttr, if_true, if_false, beq_self_eq_true, ne_eq, zz7.down]
      refine w_call0 (ok_laws_toDefinitionS a0 _ e13) rfl rfl rfl rfl (.inl (by rfl)) ?_
      simp only [W0.down, simprocAttr, if_true, if_false, beq_self_eq_true, ne_eq, zz7.down]
      (try simp only [WN.down, simprocAttr, if_true, if_false, zz7.down] at hP ⊢)
      exact hP
    obtain ⟨x5, e15, h⟩ := bindE h
    refine w_sreg (w_abs [(0, .slice (a0.map e_laws_Definition)), (8, .int .i64 x3.1), (9, .int .i64 x3.2), (10, .uslice 3 (x4.map u_impl_Definition)), (11, .int .i64 x5.1), (12, .int .i64 x5.2)] (fun P hP => ?_) ?_)
    · simp only [W0.down, simprocAttr, if_true, if_false, beq_self_eq_true, ne_eq, zz7.down]
      refine w_call0 (ok_impl_ScopeAt x4 a1 a2 _ e15) rfl rfl (by simp only [W0.down, simprocAttr, if_true, if_false, beq_self_eq_true, ne_eq, zz7.down, view_s, view_h, viewH_s, share_s, @shares_map _ u_impl_Definition e_impl_Definition (fun _ => sh_u_impl_Definition _)] <;> rfl) rfl (.inr (by rfl)) ?_
      simp only [W0.down, simprocAttr, if_true, if_false, beq_self_eq_true, ne_eq, zz7.down]
      (try simp only [WN.down, simprocAttr, if_true, if_false, zz7.down] at hP ⊢)
      exact hP
    refine w_seq (fun Q16 n16 q16 x16 => ?_)
    refine w_sreg (w_abs [(0, .slice (a0.map e_laws_Definition)), (10, .uslice 3 (x4.map u_impl_Definition)), (42, .bool ((x5.1 != x3.1) || (x5.2 != x3.2)))] (fun P hP => ?_) ?_)
    · rcases Bool.eq_false_or_eq_true (x5.1 != x3.1) with s18 | s18
      · simp only [W0.down, simprocAttr, if_true, if_false, beq_self_eq_true, ne_eq, zz7.down, s18]
        (try simp only [WN.down, simprocAttr, if_true, if_false, zz7.down, s18] at hP ⊢)
        exact hP
      · simp only [W0.down, simprocAttr, if_true, if_false, beq_self_eq_true, ne_eq, zz7.down, s18]
        (try simp only [WN.down, simprocAttr, if_true, if_false, zz7.down, s18] at hP ⊢)
        exact hP
    rcases condE h with ⟨b19, h⟩ | ⟨b19, h⟩
    · refine w_ct (congrArg AV.bool b19) ?_
      simp only [b19, Bool.not_true, Bool.not_false]
      refine w_sreg (w_abs [(6, .bool false)] (fun P hP => ?_) ?_)
      · simp only [W0.down, simprocAttr, if_true, if_false, beq_self_eq_true, ne_eq, zz7.down]
        (try simp only [WN.down, simprocAttr, if_true, if_false, zz7.down] at hP ⊢)
        exact hP
      exact w_ret (q16 _ (r0 _ (.inl (w_fin [.bool false] rfl (by cases someE h; rfl) (by decide) outs_nil))))
    · refine w_cf (congrArg AV.bool b19) ?_
      simp only [b19, Bool.not_true, Bool.not_false]
      refine w_skip (n16 _ (.inl ?_))
      refine w_seq (fun Q21 n21 q21 x21 => ?_)
      obtain ⟨x6, e23, h⟩ := bindE h
      obtain ⟨x7, e24, h⟩ := bindE h
      refine w_sreg (w_abs [(47, .bool (!x7))] (fun P hP => ?_) ?_)
      · simp only [W0.down, simprocAttr, if_true, if_false, beq_self_eq_true, ne_eq, zz7.down]
        refine w_call0 (ok_laws_toDefinitionS a0 _ e23) rfl rfl rfl rfl (.inl (by rfl)) ?_
        simp only [W0.down, simprocAttr, if_true, if_false, beq_self_eq_true, ne_eq, zz7.down]
        refine w_call0 (ok_laws_eqDefinitionS x4 x6 _ e24) rfl rfl (by simp only [W0.down, simprocAttr, if_true, if_false, beq_self_eq_true, ne_eq, zz7.down, view_s, view_h, viewH_s, share_s, @shares_map _ u_impl_Definition e_impl_Definition (fun _ => sh_u_impl_Definition _), @shares_map _ u_impl_Definition e_impl_Definition (fun _ => sh_u_impl_Definition _)] <;> rfl) rfl (.inr (by rfl)) ?_
        simp only [W0.down, simprocAttr, if_true, if_false, beq_self_eq_true, ne_eq, zz7.down]
        (try simp only [WN.down, simprocAttr, if_true, if_false, zz7.down] at hP ⊢)
        exact hP
      rcases condE h with ⟨b25, h⟩ | ⟨b25, h⟩
      · refine w_ct (congrArg AV.bool b25) ?_
        simp only [b25, Bool.not_true, Bool.not_false]
        refine w_sreg (w_abs [(6, .bool false)] (fun P hP => ?_) ?_)
        · simp only [W0.down, simprocAttr, if_true, if_false, beq_self_eq_true, ne_eq]
          (try simp only [WN.down, simprocAttr, if_true, if_false] at hP ⊢)
          exact hP
        exact w_ret (q21 _ (r0 _ (.inl (w_fin [.bool false] rfl (by cases someE h; rfl) (by decide) outs_nil))))
      · refine w_cf (congrArg AV.bool b25) ?_
        simp only [b25, Bool.not_true, Bool.not_false]
        refine w_skip (n21 _ (.inl ?_))
        refine w_sreg (w_abs [(6, .bool true)] (fun P hP => ?_) ?_)
        · simp only [W0.down, simprocAttr, if_true, if_false, beq_self_eq_true, ne_eq]
          (try simp only [WN.down, simprocAttr, if_true, if_false] at hP ⊢)
          exact hP
        exact w_ret (r0 _ (.inl (w_fin [.bool true] rfl (by cases someE h; rfl) (by decide) outs_nil)))

end Go.Proofs.Ytobljppjkklojaa
