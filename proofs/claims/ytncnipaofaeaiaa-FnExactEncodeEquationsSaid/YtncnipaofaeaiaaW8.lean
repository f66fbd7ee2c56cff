/- Part of a proof that a law returns true for every input. No condition. -/
import Derived.Test.YtncnipaofaeaiaaC8
namespace Go.Proofs.Ytncnipaofaeaiaa
open Go Go.Fw Go.Sh
set_option maxRecDepth 100000
set_option linter.unusedSimpArgs false
set_option linter.unusedVariables false

theorem ok_laws_szInt64S (a0 : List Int) (a1 : Int) (r : Int) (h : laws_szInt64S a0 a1 = some r) : OkAt Cc 58 [.slice (a0.map e_i64), .int .i64 a1] (.int .i64 r) [] := by
  refine OkAt.of_wpQ (fx := [0]) Cc_ok Try.func58 rfl rfl s58 (Nat.le_of_ble_eq_true rfl) (fun Q0 r0 n0 => ?_)
  replace r0 : ∀ s, onW (Fw.Ends Cc [0] [.tmp 4] (.int .i64 r) []) s → Q0 .ret s := r0
  replace n0 : ∀ s, onW (Fw.Ends Cc [0] [.tmp 4] (.int .i64 r) []) s → Q0 .normal s := n0
  show wpC Cc c58 Q0 (stA [(0, .slice (a0.map e_i64)), (1, .int .i64 a1)])
  refine w_sreg (w_abs [(0, .slice (a0.map e_i64)), (1, .int .i64 a1)] (fun P hP => ?_) ?_)
  · simp only [W0.down, Nat.reduceEqDiff, ↓reduceIte, reduceCtorEq, Nat.reduceAdd, Nat.reduceSub, Nat.reduceMul, Nat.reduceLeDiff, Nat.reduceBEq, Nat.reduceLT, if_true, if_false, beq_self_eq_true, BEq.rfl, ne_eq, e_i64]
    (try simp only [WN.down, Nat.reduceAdd, if_true, if_false, ↓reduceIte, e_i64] at hP)
    (try simp only [WN.down, Nat.reduceAdd, if_true, if_false, ↓reduceIte, e_i64])
    exact hP
  refine w_sreg (w_abs [(1, .int .i64 (IntKind.i64.wrap (a1 - (a0.length : Int))))] (fun P hP => ?_) ?_)
  · simp only [W0.down, Nat.reduceEqDiff, ↓reduceIte, reduceCtorEq, Nat.reduceAdd, Nat.reduceSub, Nat.reduceMul, Nat.reduceLeDiff, Nat.reduceBEq, Nat.reduceLT, if_true, if_false, beq_self_eq_true, BEq.rfl, ne_eq, tt2, tt68, e_i64]
    (try simp only [WN.down, Nat.reduceAdd, if_true, if_false, ↓reduceIte, tt2, tt68, e_i64] at hP)
    (try simp only [WN.down, Nat.reduceAdd, if_true, if_false, ↓reduceIte, tt2, tt68, e_i64])
    exact hP
  refine w_seq (fun Q3 n3 q3 x3 => ?_)
  refine w_sreg (w_abs [(1, .int .i64 (IntKind.i64.wrap (a1 - (a0.length : Int)))), (10, .bool (decide ((IntKind.i64.wrap (a1 - (a0.length : Int))) < 0)))] (fun P hP => ?_) ?_)
  · simp only [W0.down, Nat.reduceEqDiff, ↓reduceIte, reduceCtorEq, Nat.reduceAdd, Nat.reduceSub, Nat.reduceMul, Nat.reduceLeDiff, Nat.reduceBEq, Nat.reduceLT, if_true, if_false, beq_self_eq_true, BEq.rfl, ne_eq]
    (try simp only [WN.down, Nat.reduceAdd, if_true, if_false, ↓reduceIte] at hP)
    (try simp only [WN.down, Nat.reduceAdd, if_true, if_false, ↓reduceIte])
    exact hP
  rcases condE h with ⟨b5, h⟩ | ⟨b5, h⟩
  · refine w_ct (congrArg AV.bool b5) ?_
    simp only [b5, Bool.not_true, Bool.not_false]
    refine w_sreg (w_abs [(4, .int .i64 (-1))] (fun P hP => ?_) ?_)
    · simp only [W0.down, Nat.reduceEqDiff, ↓reduceIte, reduceCtorEq, Nat.reduceAdd, Nat.reduceSub, Nat.reduceMul, Nat.reduceLeDiff, Nat.reduceBEq, Nat.reduceLT, if_true, if_false, beq_self_eq_true, BEq.rfl, ne_eq]
      (try simp only [WN.down, Nat.reduceAdd, if_true, if_false, ↓reduceIte] at hP)
      (try simp only [WN.down, Nat.reduceAdd, if_true, if_false, ↓reduceIte])
      exact hP
    exact w_ret (q3 _ (r0 _ (.inl (w_fin [.int .i64 (-1)] rfl (by cases someE h; rfl) (by decide) outs_nil))))
  · refine w_cf (congrArg AV.bool b5) ?_
    simp only [b5, Bool.not_true, Bool.not_false]
    refine w_skip (n3 _ (.inl ?_))
    refine w_sreg (w_abs [(4, .int .i64 (IntKind.i64.wrap (a1 - (a0.length : Int))))] (fun P hP => ?_) ?_)
    · simp only [W0.down, Nat.reduceEqDiff, ↓reduceIte, reduceCtorEq, Nat.reduceAdd, Nat.reduceSub, Nat.reduceMul, Nat.reduceLeDiff, Nat.reduceBEq, Nat.reduceLT, if_true, if_false, beq_self_eq_true, BEq.rfl, ne_eq]
      (try simp only [WN.down, Nat.reduceAdd, if_true, if_false, ↓reduceIte] at hP)
      (try simp only [WN.down, Nat.reduceAdd, if_true, if_false, ↓reduceIte])
      exact hP
    exact w_ret (r0 _ (.inl (w_fin [.int .i64 (IntKind.i64.wrap (a1 - (a0.length : Int)))] rfl (by cases someE h; rfl) (by decide) outs_nil)))

theorem ok_laws_szEquation (a0 : laws_Equation) (a1 : Int) (r : Int) (h : laws_szEquation a0 a1 = some r) : OkAt Cc 43 [e_laws_Equation a0, .int .i64 a1] (.int .i64 r) [] := by
  refine OkAt.of_wpQ (fx := [0]) Cc_ok Try.func43 rfl rfl s43 (Nat.le_of_ble_eq_true rfl) (fun Q0 r0 n0 => ?_)
  replace r0 : ∀ s, onW (Fw.Ends Cc [0] [.tmp 4] (.int .i64 r) []) s → Q0 .ret s := r0
  replace n0 : ∀ s, onW (Fw.Ends Cc [0] [.tmp 4] (.int .i64 r) []) s → Q0 .normal s := n0
  show wpC Cc c43 Q0 (stA [(0, e_laws_Equation a0), (1, .int .i64 a1)])
  refine w_sreg (w_abs [(1, .int .i64 a1), (2, .ubox (e_laws_Equation a0))] (fun P hP => ?_) ?_)
  · simp only [W0.down, Nat.reduceEqDiff, ↓reduceIte, reduceCtorEq, Nat.reduceAdd, Nat.reduceSub, Nat.reduceMul, Nat.reduceLeDiff, Nat.reduceBEq, Nat.reduceLT, if_true, if_false, beq_self_eq_true, BEq.rfl, ne_eq, tt2, tt4, tt68, tt70, e_i64, e_laws_Equation]
    (try simp only [WN.down, Nat.reduceAdd, if_true, if_false, ↓reduceIte, tt2, tt4, tt68, tt70, e_i64, e_laws_Equation] at hP)
    (try simp only [WN.down, Nat.reduceAdd, if_true, if_false, ↓reduceIte, tt2, tt4, tt68, tt70, e_i64, e_laws_Equation])
    exact hP
  obtain ⟨x1, e3, h⟩ := bindE h
  refine w_sreg (w_abs [(1, .int .i64 x1)] (fun P hP => ?_) ?_)
  · simp only [W0.down, Nat.reduceEqDiff, ↓reduceIte, reduceCtorEq, Nat.reduceAdd, Nat.reduceSub, Nat.reduceMul, Nat.reduceLeDiff, Nat.reduceBEq, Nat.reduceLT, if_true, if_false, beq_self_eq_true, BEq.rfl, ne_eq, tt2, tt4, tt68, tt70, e_i64, e_laws_Equation]
    refine w_call0 (ok_laws_szInt64S a0.Terms a1 _ e3) rfl rfl rfl rfl (.inl rfl) ?_
    simp only [W0.down, Nat.reduceEqDiff, ↓reduceIte, reduceCtorEq, Nat.reduceAdd, Nat.reduceSub, Nat.reduceMul, Nat.reduceLeDiff, Nat.reduceBEq, Nat.reduceLT, if_true, if_false, beq_self_eq_true, BEq.rfl, ne_eq, tt2, tt4, tt68, tt70, e_i64, e_laws_Equation]
    (try simp only [WN.down, Nat.reduceAdd, if_true, if_false, ↓reduceIte, tt2, tt4, tt68, tt70, e_i64, e_laws_Equation] at hP)
    (try simp only [WN.down, Nat.reduceAdd, if_true, if_false, ↓reduceIte, tt2, tt4, tt68, tt70, e_i64, e_laws_Equation])
    exact hP
  refine w_seq (fun Q4 n4 q4 x4 => ?_)
  refine w_sreg (w_abs [(1, .int .i64 x1), (10, .bool (decide (x1 < 0)))] (fun P hP => ?_) ?_)
  · simp only [W0.down, Nat.reduceEqDiff, ↓reduceIte, reduceCtorEq, Nat.reduceAdd, Nat.reduceSub, Nat.reduceMul, Nat.reduceLeDiff, Nat.reduceBEq, Nat.reduceLT, if_true, if_false, beq_self_eq_true, BEq.rfl, ne_eq]
    (try simp only [WN.down, Nat.reduceAdd, if_true, if_false, ↓reduceIte] at hP)
    (try simp only [WN.down, Nat.reduceAdd, if_true, if_false, ↓reduceIte])
    exact hP
  rcases condE h with ⟨b6, h⟩ | ⟨b6, h⟩
  · refine w_ct (congrArg AV.bool b6) ?_
    simp only [b6, Bool.not_true, Bool.not_false]
    refine w_sreg (w_abs [(4, .int .i64 (-1))] (fun P hP => ?_) ?_)
    · simp only [W0.down, Nat.reduceEqDiff, ↓reduceIte, reduceCtorEq, Nat.reduceAdd, Nat.reduceSub, Nat.reduceMul, Nat.reduceLeDiff, Nat.reduceBEq, Nat.reduceLT, if_true, if_false, beq_self_eq_true, BEq.rfl, ne_eq]
      (try simp only [WN.down, Nat.reduceAdd, if_true, if_false, ↓reduceIte] at hP)
      (try simp only [WN.down, Nat.reduceAdd, if_true, if_false, ↓reduceIte])
      exact hP
    exact w_ret (q4 _ (r0 _ (.inl (w_fin [.int .i64 (-1)] rfl (by cases someE h; rfl) (by decide) outs_nil))))
  · refine w_cf (congrArg AV.bool b6) ?_
    simp only [b6, Bool.not_true, Bool.not_false]
    refine w_skip (n4 _ (.inl ?_))
    refine w_sreg (w_abs [(4, .int .i64 x1)] (fun P hP => ?_) ?_)
    · simp only [W0.down, Nat.reduceEqDiff, ↓reduceIte, reduceCtorEq, Nat.reduceAdd, Nat.reduceSub, Nat.reduceMul, Nat.reduceLeDiff, Nat.reduceBEq, Nat.reduceLT, if_true, if_false, beq_self_eq_true, BEq.rfl, ne_eq]
      (try simp only [WN.down, Nat.reduceAdd, if_true, if_false, ↓reduceIte] at hP)
      (try simp only [WN.down, Nat.reduceAdd, if_true, if_false, ↓reduceIte])
      exact hP
    exact w_ret (r0 _ (.inl (w_fin [.int .i64 x1] rfl (by cases someE h; rfl) (by decide) outs_nil)))

theorem ok_laws_szEquationS (a0 : List laws_Equation) (a1 : Int) (r : Int) (h : laws_szEquationS a0 a1 = some r) : OkAt Cc 22 [.slice (a0.map e_laws_Equation), .int .i64 a1] (.int .i64 r) [] := by
  refine OkAt.of_wpQ (fx := [0]) Cc_ok Try.func22 rfl rfl s22 (Nat.le_of_ble_eq_true rfl) (fun Q0 r0 n0 => ?_)
  replace r0 : ∀ s, onW (Fw.Ends Cc [0] [.tmp 4] (.int .i64 r) []) s → Q0 .ret s := r0
  replace n0 : ∀ s, onW (Fw.Ends Cc [0] [.tmp 4] (.int .i64 r) []) s → Q0 .normal s := n0
  show wpC Cc c22 Q0 (stA [(0, .slice (a0.map e_laws_Equation)), (1, .int .i64 a1)])
  refine w_sreg (w_abs [(0, .slice (a0.map e_laws_Equation)), (1, .int .i64 a1)] (fun P hP => ?_) ?_)
  · simp only [W0.down, Nat.reduceEqDiff, ↓reduceIte, reduceCtorEq, Nat.reduceAdd, Nat.reduceSub, Nat.reduceMul, Nat.reduceLeDiff, Nat.reduceBEq, Nat.reduceLT, if_true, if_false, beq_self_eq_true, BEq.rfl, ne_eq, e_i64, e_laws_Equation]
    (try simp only [WN.down, Nat.reduceAdd, if_true, if_false, ↓reduceIte, e_i64, e_laws_Equation] at hP)
    (try simp only [WN.down, Nat.reduceAdd, if_true, if_false, ↓reduceIte, e_i64, e_laws_Equation])
    exact hP
  refine w_sreg (w_abs [(0, .slice (a0.map e_laws_Equation)), (1, .int .i64 (IntKind.i64.wrap (a1 - (a0.length : Int))))] (fun P hP => ?_) ?_)
  · simp only [W0.down, Nat.reduceEqDiff, ↓reduceIte, reduceCtorEq, Nat.reduceAdd, Nat.reduceSub, Nat.reduceMul, Nat.reduceLeDiff, Nat.reduceBEq, Nat.reduceLT, if_true, if_false, beq_self_eq_true, BEq.rfl, ne_eq, tt2, tt4, tt38, tt68, tt70, e_i64, e_laws_Equation]
    (try simp only [WN.down, Nat.reduceAdd, if_true, if_false, ↓reduceIte, tt2, tt4, tt38, tt68, tt70, e_i64, e_laws_Equation] at hP)
    (try simp only [WN.down, Nat.reduceAdd, if_true, if_false, ↓reduceIte, tt2, tt4, tt38, tt68, tt70, e_i64, e_laws_Equation])
    exact hP
  refine w_seq (fun Q3 n3 q3 x3 => ?_)
  refine w_sreg (w_abs [(0, .slice (a0.map e_laws_Equation)), (1, .int .i64 (IntKind.i64.wrap (a1 - (a0.length : Int)))), (11, .bool (decide ((IntKind.i64.wrap (a1 - (a0.length : Int))) < 0)))] (fun P hP => ?_) ?_)
  · simp only [W0.down, Nat.reduceEqDiff, ↓reduceIte, reduceCtorEq, Nat.reduceAdd, Nat.reduceSub, Nat.reduceMul, Nat.reduceLeDiff, Nat.reduceBEq, Nat.reduceLT, if_true, if_false, beq_self_eq_true, BEq.rfl, ne_eq, e_i64, e_laws_Equation]
    (try simp only [WN.down, Nat.reduceAdd, if_true, if_false, ↓reduceIte, e_i64, e_laws_Equation] at hP)
    (try simp only [WN.down, Nat.reduceAdd, if_true, if_false, ↓reduceIte, e_i64, e_laws_Equation])
    exact hP
  rcases condE h with ⟨b5, h⟩ | ⟨b5, h⟩
  · refine w_ct (congrArg AV.bool b5) ?_
    simp only [b5, Bool.not_true, Bool.not_false]
    refine w_sreg (w_abs [(4, .int .i64 (-1))] (fun P hP => ?_) ?_)
    · simp only [W0.down, Nat.reduceEqDiff, ↓reduceIte, reduceCtorEq, Nat.reduceAdd, Nat.reduceSub, Nat.reduceMul, Nat.reduceLeDiff, Nat.reduceBEq, Nat.reduceLT, if_true, if_false, beq_self_eq_true, BEq.rfl, ne_eq, e_i64, e_laws_Equation]
      (try simp only [WN.down, Nat.reduceAdd, if_true, if_false, ↓reduceIte, e_i64, e_laws_Equation] at hP)
      (try simp only [WN.down, Nat.reduceAdd, if_true, if_false, ↓reduceIte, e_i64, e_laws_Equation])
      exact hP
    exact w_ret (q3 _ (r0 _ (.inl (w_fin [.int .i64 (-1)] rfl (by cases someE h; rfl) (by decide) outs_nil))))
  · refine w_cf (congrArg AV.bool b5) ?_
    simp only [b5, Bool.not_true, Bool.not_false]
    refine w_skip (n3 _ (.inl ?_))
    refine w_seq (fun Q7 n7 q7 x7 => ?_)
    refine w_sreg (w_abs [(0, .slice (a0.map e_laws_Equation)), (1, .int .i64 (IntKind.i64.wrap (a1 - (a0.length : Int)))), (5, .int .i64 0)] (fun P hP => ?_) ?_)
    · simp only [W0.down, Nat.reduceEqDiff, ↓reduceIte, reduceCtorEq, Nat.reduceAdd, Nat.reduceSub, Nat.reduceMul, Nat.reduceLeDiff, Nat.reduceBEq, Nat.reduceLT, if_true, if_false, beq_self_eq_true, BEq.rfl, ne_eq, e_i64, e_laws_Equation]
      (try simp only [WN.down, Nat.reduceAdd, if_true, if_false, ↓reduceIte, e_i64, e_laws_Equation] at hP)
      (try simp only [WN.down, Nat.reduceAdd, if_true, if_false, ↓reduceIte, e_i64, e_laws_Equation])
      exact hP
    refine w_blk (fun Q9 n9 q9 b9 x9 => ?_)
    have L16 : ∀ (n : Nat) (v1_16 : Int) (v5_16 : Int), laws_szEquationS_l16 a0 n v1_16 v5_16 = some r → lpC Cc c22_17 Q9 (stA [(0, .slice (a0.map e_laws_Equation)), (1, .int .i64 v1_16), (5, .int .i64 v5_16)]) := by
      intro m16
      induction m16 with
      | zero => intro v1_16 v5_16 h; cases (show none = some r from h)
      | succ m16 ih16 =>
        intro v1_16 v5_16 h
        replace h : laws_szEquationS_b16 (laws_szEquationS_l16 a0 m16) a0 v1_16 v5_16 = some r := h
        refine lpC_step (fun Q10 n10 q10 x10 => ?_)
        refine w_seq (fun Q11 n11 q11 x11 => ?_)
        refine w_sreg (w_abs [(0, .slice (a0.map e_laws_Equation)), (1, .int .i64 v1_16), (5, .int .i64 v5_16), (15, .bool (decide (v5_16 < (a0.length : Int))))] (fun P hP => ?_) ?_)
        · simp only [W0.down, Nat.reduceEqDiff, ↓reduceIte, reduceCtorEq, Nat.reduceAdd, Nat.reduceSub, Nat.reduceMul, Nat.reduceLeDiff, Nat.reduceBEq, Nat.reduceLT, if_true, if_false, beq_self_eq_true, BEq.rfl, ne_eq, tt2, tt4, tt38, tt68, tt70, e_i64, e_laws_Equation]
          (try simp only [WN.down, Nat.reduceAdd, if_true, if_false, ↓reduceIte, tt2, tt4, tt38, tt68, tt70, e_i64, e_laws_Equation] at hP)
          (try simp only [WN.down, Nat.reduceAdd, if_true, if_false, ↓reduceIte, tt2, tt4, tt38, tt68, tt70, e_i64, e_laws_Equation])
          exact hP
        rcases condE h with ⟨b13, h⟩ | ⟨b13, h⟩
        · refine w_ct (congrArg AV.bool b13) ?_
          simp only [b13, Bool.not_true, Bool.not_false]
          refine w_skip (n11 _ (.inl ?_))
          refine w_seq (fun Q14 n14 q14 x14 => ?_)
          refine w_blk (fun Q15 n15 q15 b15 x15 => ?_)
          obtain ⟨x1, e17, h⟩ := bindE h
          obtain ⟨x2, e18, h⟩ := bindE h
          refine w_sreg (w_abs [(0, .slice (a0.map e_laws_Equation)), (1, .int .i64 x2), (5, .int .i64 v5_16)] (fun P hP => ?_) ?_)
          · simp only [W0.down, Nat.reduceEqDiff, ↓reduceIte, reduceCtorEq, Nat.reduceAdd, Nat.reduceSub, Nat.reduceMul, Nat.reduceLeDiff, Nat.reduceBEq, Nat.reduceLT, if_true, if_false, beq_self_eq_true, BEq.rfl, ne_eq, tt2, tt4, tt38, tt68, tt70, e_i64, e_laws_Equation, e17]
            refine w_call0 (ok_laws_szEquation x1 v1_16 _ e18) rfl rfl rfl rfl (.inl rfl) ?_
            simp only [W0.down, Nat.reduceEqDiff, ↓reduceIte, reduceCtorEq, Nat.reduceAdd, Nat.reduceSub, Nat.reduceMul, Nat.reduceLeDiff, Nat.reduceBEq, Nat.reduceLT, if_true, if_false, beq_self_eq_true, BEq.rfl, ne_eq, tt2, tt4, tt38, tt68, tt70, e_i64, e_laws_Equation, e17]
            (try simp only [WN.down, Nat.reduceAdd, if_true, if_false, ↓reduceIte, tt2, tt4, tt38, tt68, tt70, e_i64, e_laws_Equation, e17] at hP)
            (try simp only [WN.down, Nat.reduceAdd, if_true, if_false, ↓reduceIte, tt2, tt4, tt38, tt68, tt70, e_i64, e_laws_Equation, e17])
            exact hP
          refine w_sreg (w_abs [(0, .slice (a0.map e_laws_Equation)), (1, .int .i64 x2), (5, .int .i64 v5_16), (25, .bool (decide (x2 < 0)))] (fun P hP => ?_) ?_)
          · simp only [W0.down, Nat.reduceEqDiff, ↓reduceIte, reduceCtorEq, Nat.reduceAdd, Nat.reduceSub, Nat.reduceMul, Nat.reduceLeDiff, Nat.reduceBEq, Nat.reduceLT, if_true, if_false, beq_self_eq_true, BEq.rfl, ne_eq, e_i64, e_laws_Equation]
            (try simp only [WN.down, Nat.reduceAdd, if_true, if_false, ↓reduceIte, e_i64, e_laws_Equation] at hP)
            (try simp only [WN.down, Nat.reduceAdd, if_true, if_false, ↓reduceIte, e_i64, e_laws_Equation])
            exact hP
          rcases condE h with ⟨b20, h⟩ | ⟨b20, h⟩
          · refine w_ct (congrArg AV.bool b20) ?_
            simp only [b20, Bool.not_true, Bool.not_false]
            refine w_sreg (w_abs [(4, .int .i64 (-1))] (fun P hP => ?_) ?_)
            · simp only [W0.down, Nat.reduceEqDiff, ↓reduceIte, reduceCtorEq, Nat.reduceAdd, Nat.reduceSub, Nat.reduceMul, Nat.reduceLeDiff, Nat.reduceBEq, Nat.reduceLT, if_true, if_false, beq_self_eq_true, BEq.rfl, ne_eq, e_i64, e_laws_Equation]
              (try simp only [WN.down, Nat.reduceAdd, if_true, if_false, ↓reduceIte, e_i64, e_laws_Equation] at hP)
              (try simp only [WN.down, Nat.reduceAdd, if_true, if_false, ↓reduceIte, e_i64, e_laws_Equation])
              exact hP
            exact w_ret (q15 _ (q14 _ (q10 _ (q9 _ (q7 _ (r0 _ (.inl (w_fin [.int .i64 (-1)] rfl (by cases someE h; rfl) (by decide) outs_nil))))))))
          · refine w_cf (congrArg AV.bool b20) ?_
            simp only [b20, Bool.not_true, Bool.not_false]
            refine w_skip (n15 _ (n14 _ (.inl ?_)))
            refine w_reg (w_abs [(0, .slice (a0.map e_laws_Equation)), (1, .int .i64 x2), (5, .int .i64 (IntKind.i64.wrap (v5_16 + 1)))] (fun P hP => ?_) ?_)
            · simp only [W0.down, Nat.reduceEqDiff, ↓reduceIte, reduceCtorEq, Nat.reduceAdd, Nat.reduceSub, Nat.reduceMul, Nat.reduceLeDiff, Nat.reduceBEq, Nat.reduceLT, if_true, if_false, beq_self_eq_true, BEq.rfl, ne_eq, e_i64, e_laws_Equation]
              (try simp only [WN.down, Nat.reduceAdd, if_true, if_false, ↓reduceIte, e_i64, e_laws_Equation] at hP)
              (try simp only [WN.down, Nat.reduceAdd, if_true, if_false, ↓reduceIte, e_i64, e_laws_Equation])
              exact hP
            exact n10 _ (.inr ⟨_, weak_eq rfl, ih16 x2 (IntKind.i64.wrap (v5_16 + 1)) h⟩)
        · refine w_cf (congrArg AV.bool b13) ?_
          simp only [b13, Bool.not_true, Bool.not_false]
          refine w_ex (x11 0 _ (x10 0 _ (b9 _ (n7 _ (.inl ?_)))))
          refine w_sreg (w_abs [(4, .int .i64 v1_16)] (fun P hP => ?_) ?_)
          · simp only [W0.down, Nat.reduceEqDiff, ↓reduceIte, reduceCtorEq, Nat.reduceAdd, Nat.reduceSub, Nat.reduceMul, Nat.reduceLeDiff, Nat.reduceBEq, Nat.reduceLT, if_true, if_false, beq_self_eq_true, BEq.rfl, ne_eq, e_i64, e_laws_Equation]
            (try simp only [WN.down, Nat.reduceAdd, if_true, if_false, ↓reduceIte, e_i64, e_laws_Equation] at hP)
            (try simp only [WN.down, Nat.reduceAdd, if_true, if_false, ↓reduceIte, e_i64, e_laws_Equation])
            exact hP
          exact w_ret (r0 _ (.inl (w_fin [.int .i64 v1_16] rfl (by cases someE h; rfl) (by decide) outs_nil)))
    obtain ⟨n, h⟩ := limE h
    exact w_loop (.inr ⟨_, weak_eq rfl, L16 n (IntKind.i64.wrap (a1 - (a0.length : Int))) 0 h⟩)

theorem ok_laws_toInt64S (a0 : List Int) (r : (List Int)) (h : laws_toInt64S a0 = some r) : OkAt Cc 64 [.slice (a0.map e_i64)] (.uslice 1 (r.map e_i64)) [] := by
  refine OkAt.of_wpQ (fx := [0]) Cc_ok Try.func64 rfl rfl s64 (Nat.le_of_ble_eq_true rfl) (fun Q0 r0 n0 => ?_)
  replace r0 : ∀ s, onW (Fw.Ends Cc [0] [.tmp 2] (.uslice 1 (r.map e_i64)) []) s → Q0 .ret s := r0
  replace n0 : ∀ s, onW (Fw.Ends Cc [0] [.tmp 2] (.uslice 1 (r.map e_i64)) []) s → Q0 .normal s := n0
  show wpC Cc c64 Q0 (stA [(0, .slice (a0.map e_i64))])
  refine w_sreg (w_abs [(0, .slice (a0.map e_i64))] (fun P hP => ?_) ?_)
  · simp only [W0.down, Nat.reduceEqDiff, ↓reduceIte, reduceCtorEq, Nat.reduceAdd, Nat.reduceSub, Nat.reduceMul, Nat.reduceLeDiff, Nat.reduceBEq, Nat.reduceLT, if_true, if_false, beq_self_eq_true, BEq.rfl, ne_eq, e_i64]
    (try simp only [WN.down, Nat.reduceAdd, if_true, if_false, ↓reduceIte, e_i64] at hP)
    (try simp only [WN.down, Nat.reduceAdd, if_true, if_false, ↓reduceIte, e_i64])
    exact hP
  obtain ⟨u17, e3, h⟩ := bindE h
  refine w_sreg (w_abs [(0, .slice (a0.map e_i64)), (3, .uslice 1 ((List.replicate (Int.toNat (a0.length : Int)) 0).map e_i64))] (fun P hP => ?_) ?_)
  · simp only [W0.down, Nat.reduceEqDiff, ↓reduceIte, reduceCtorEq, Nat.reduceAdd, Nat.reduceSub, Nat.reduceMul, Nat.reduceLeDiff, Nat.reduceBEq, Nat.reduceLT, if_true, if_false, beq_self_eq_true, BEq.rfl, ne_eq, tt2, tt68, e_i64, (mkOkE e3).1, (mkOkE e3).2.1, (mkOkE e3).2.2, mks, List.map_replicate]
    (try simp only [WN.down, Nat.reduceAdd, if_true, if_false, ↓reduceIte, tt2, tt68, e_i64, (mkOkE e3).1, (mkOkE e3).2.1, (mkOkE e3).2.2, mks, List.map_replicate] at hP)
    (try simp only [WN.down, Nat.reduceAdd, if_true, if_false, ↓reduceIte, tt2, tt68, e_i64, (mkOkE e3).1, (mkOkE e3).2.1, (mkOkE e3).2.2, mks, List.map_replicate])
    exact hP
  refine w_seq (fun Q4 n4 q4 x4 => ?_)
  refine w_sreg (w_abs [(0, .slice (a0.map e_i64)), (3, .uslice 1 ((List.replicate (Int.toNat (a0.length : Int)) 0).map e_i64)), (4, .int .i64 0)] (fun P hP => ?_) ?_)
  · simp only [W0.down, Nat.reduceEqDiff, ↓reduceIte, reduceCtorEq, Nat.reduceAdd, Nat.reduceSub, Nat.reduceMul, Nat.reduceLeDiff, Nat.reduceBEq, Nat.reduceLT, if_true, if_false, beq_self_eq_true, BEq.rfl, ne_eq, e_i64]
    (try simp only [WN.down, Nat.reduceAdd, if_true, if_false, ↓reduceIte, e_i64] at hP)
    (try simp only [WN.down, Nat.reduceAdd, if_true, if_false, ↓reduceIte, e_i64])
    exact hP
  refine w_blk (fun Q6 n6 q6 b6 x6 => ?_)
  have L8 : ∀ (n : Nat) (v3_8 : List Int) (v4_8 : Int), laws_toInt64S_l8 a0 n v3_8 v4_8 = some r → lpC Cc c64_9 Q6 (stA [(0, .slice (a0.map e_i64)), (3, .uslice 1 (v3_8.map e_i64)), (4, .int .i64 v4_8)]) := by
    intro m8
    induction m8 with
    | zero => intro v3_8 v4_8 h; cases (show none = some r from h)
    | succ m8 ih8 =>
      intro v3_8 v4_8 h
      replace h : laws_toInt64S_b8 (laws_toInt64S_l8 a0 m8) a0 v3_8 v4_8 = some r := h
      refine lpC_step (fun Q7 n7 q7 x7 => ?_)
      refine w_seq (fun Q8 n8 q8 x8 => ?_)
      refine w_sreg (w_abs [(0, .slice (a0.map e_i64)), (3, .uslice 1 (v3_8.map e_i64)), (4, .int .i64 v4_8), (11, .bool (decide (v4_8 < (a0.length : Int))))] (fun P hP => ?_) ?_)
      · simp only [W0.down, Nat.reduceEqDiff, ↓reduceIte, reduceCtorEq, Nat.reduceAdd, Nat.reduceSub, Nat.reduceMul, Nat.reduceLeDiff, Nat.reduceBEq, Nat.reduceLT, if_true, if_false, beq_self_eq_true, BEq.rfl, ne_eq, tt2, tt68, e_i64]
        (try simp only [WN.down, Nat.reduceAdd, if_true, if_false, ↓reduceIte, tt2, tt68, e_i64] at hP)
        (try simp only [WN.down, Nat.reduceAdd, if_true, if_false, ↓reduceIte, tt2, tt68, e_i64])
        exact hP
      rcases condE h with ⟨b10, h⟩ | ⟨b10, h⟩
      · refine w_ct (congrArg AV.bool b10) ?_
        simp only [b10, Bool.not_true, Bool.not_false]
        refine w_skip (n8 _ (.inl ?_))
        refine w_seq (fun Q11 n11 q11 x11 => ?_)
        refine w_blk (fun Q12 n12 q12 b12 x12 => ?_)
        obtain ⟨x1, e14, h⟩ := bindE h
        obtain ⟨x2, e15, h⟩ := bindE h
        refine w_reg (w_abs [(0, .slice (a0.map e_i64)), (3, .uslice 1 ((List.set v3_8 (Int.toNat v4_8) x1).map e_i64)), (4, .int .i64 v4_8)] (fun P hP => ?_) ?_)
        · simp only [W0.down, Nat.reduceEqDiff, ↓reduceIte, reduceCtorEq, Nat.reduceAdd, Nat.reduceSub, Nat.reduceMul, Nat.reduceLeDiff, Nat.reduceBEq, Nat.reduceLT, if_true, if_false, beq_self_eq_true, BEq.rfl, ne_eq, tt2, tt68, e_i64, e14, e15, getI_get e15]
          (try simp only [WN.down, Nat.reduceAdd, if_true, if_false, ↓reduceIte, tt2, tt68, e_i64, e14, e15, getI_get e15] at hP)
          (try simp only [WN.down, Nat.reduceAdd, if_true, if_false, ↓reduceIte, tt2, tt68, e_i64, e14, e15, getI_get e15])
          exact hP
        refine n12 _ (n11 _ (.inl ?_))
        refine w_reg (w_abs [(0, .slice (a0.map e_i64)), (3, .uslice 1 ((List.set v3_8 (Int.toNat v4_8) x1).map e_i64)), (4, .int .i64 (IntKind.i64.wrap (v4_8 + 1)))] (fun P hP => ?_) ?_)
        · simp only [W0.down, Nat.reduceEqDiff, ↓reduceIte, reduceCtorEq, Nat.reduceAdd, Nat.reduceSub, Nat.reduceMul, Nat.reduceLeDiff, Nat.reduceBEq, Nat.reduceLT, if_true, if_false, beq_self_eq_true, BEq.rfl, ne_eq, e_i64]
          (try simp only [WN.down, Nat.reduceAdd, if_true, if_false, ↓reduceIte, e_i64] at hP)
          (try simp only [WN.down, Nat.reduceAdd, if_true, if_false, ↓reduceIte, e_i64])
          exact hP
        exact n7 _ (.inr ⟨_, weak_eq rfl, ih8 (List.set v3_8 (Int.toNat v4_8) x1) (IntKind.i64.wrap (v4_8 + 1)) h⟩)
      · refine w_cf (congrArg AV.bool b10) ?_
        simp only [b10, Bool.not_true, Bool.not_false]
        refine w_ex (x8 0 _ (x7 0 _ (b6 _ (n4 _ (.inl ?_)))))
        refine w_sreg (w_abs [(2, .uslice 1 (v3_8.map e_i64))] (fun P hP => ?_) ?_)
        · simp only [W0.down, Nat.reduceEqDiff, ↓reduceIte, reduceCtorEq, Nat.reduceAdd, Nat.reduceSub, Nat.reduceMul, Nat.reduceLeDiff, Nat.reduceBEq, Nat.reduceLT, if_true, if_false, beq_self_eq_true, BEq.rfl, ne_eq, e_i64]
          (try simp only [WN.down, Nat.reduceAdd, if_true, if_false, ↓reduceIte, e_i64] at hP)
          (try simp only [WN.down, Nat.reduceAdd, if_true, if_false, ↓reduceIte, e_i64])
          exact hP
        exact w_ret (r0 _ (.inl (w_fin [.uslice 1 (v3_8.map e_i64)] rfl (by cases someE h; rfl) (by decide) outs_nil)))
  obtain ⟨n, h⟩ := limE h
  exact w_loop (.inr ⟨_, weak_eq rfl, L8 n (List.replicate (Int.toNat (a0.length : Int)) 0) 0 h⟩)

theorem ok_laws_toEquation (a0 : laws_Equation) (r : impl_Equation) (h : laws_toEquation a0 = some r) : OkAt Cc 46 [e_laws_Equation a0] (u_impl_Equation r) [] := by
  refine OkAt.of_wpQ (fx := [0]) Cc_ok Try.func46 rfl rfl s46 (Nat.le_of_ble_eq_true rfl) (fun Q0 r0 n0 => ?_)
  replace r0 : ∀ s, onW (Fw.Ends Cc [0] [.cell 2 72] (u_impl_Equation r) []) s → Q0 .ret s := r0
  replace n0 : ∀ s, onW (Fw.Ends Cc [0] [.cell 2 72] (u_impl_Equation r) []) s → Q0 .normal s := n0
  show wpC Cc c46 Q0 (stA [(0, e_laws_Equation a0)])
  refine w_sreg (w_abs [(1, .ubox (e_laws_Equation a0)), (2, .ubox (.agg [.bool false, .bool false, .nils]))] (fun P hP => ?_) ?_)
  · simp only [W0.down, Nat.reduceEqDiff, ↓reduceIte, reduceCtorEq, Nat.reduceAdd, Nat.reduceSub, Nat.reduceMul, Nat.reduceLeDiff, Nat.reduceBEq, Nat.reduceLT, if_true, if_false, beq_self_eq_true, BEq.rfl, ne_eq, tt2, tt4, tt68, tt70, tt72, e_i64, e_laws_Equation]
    (try simp only [WN.down, Nat.reduceAdd, if_true, if_false, ↓reduceIte, tt2, tt4, tt68, tt70, tt72, e_i64, e_laws_Equation] at hP)
    (try simp only [WN.down, Nat.reduceAdd, if_true, if_false, ↓reduceIte, tt2, tt4, tt68, tt70, tt72, e_i64, e_laws_Equation])
    exact hP
  refine w_sreg (w_abs [(1, .ubox (e_laws_Equation a0)), (2, .ubox (.agg [.bool false, .bool false, .nils])), (3, .ubox (.agg [.bool false, .bool false, .nils]))] (fun P hP => ?_) ?_)
  · simp only [W0.down, Nat.reduceEqDiff, ↓reduceIte, reduceCtorEq, Nat.reduceAdd, Nat.reduceSub, Nat.reduceMul, Nat.reduceLeDiff, Nat.reduceBEq, Nat.reduceLT, if_true, if_false, beq_self_eq_true, BEq.rfl, ne_eq, tt2, tt4, tt68, tt72, e_i64, e_laws_Equation]
    (try simp only [WN.down, Nat.reduceAdd, if_true, if_false, ↓reduceIte, tt2, tt4, tt68, tt72, e_i64, e_laws_Equation] at hP)
    (try simp only [WN.down, Nat.reduceAdd, if_true, if_false, ↓reduceIte, tt2, tt4, tt68, tt72, e_i64, e_laws_Equation])
    exact hP
  refine w_sreg (w_abs [(1, .ubox (e_laws_Equation a0)), (2, .ubox (.agg [.bool false, .bool false, .nils])), (3, .ubox (.agg [.bool a0.Greatest, .bool false, .nils]))] (fun P hP => ?_) ?_)
  · simp only [W0.down, Nat.reduceEqDiff, ↓reduceIte, reduceCtorEq, Nat.reduceAdd, Nat.reduceSub, Nat.reduceMul, Nat.reduceLeDiff, Nat.reduceBEq, Nat.reduceLT, if_true, if_false, beq_self_eq_true, BEq.rfl, ne_eq, tt2, tt4, tt68, tt70, tt72, e_i64, e_laws_Equation]
    (try simp only [WN.down, Nat.reduceAdd, if_true, if_false, ↓reduceIte, tt2, tt4, tt68, tt70, tt72, e_i64, e_laws_Equation] at hP)
    (try simp only [WN.down, Nat.reduceAdd, if_true, if_false, ↓reduceIte, tt2, tt4, tt68, tt70, tt72, e_i64, e_laws_Equation])
    exact hP
  refine w_sreg (w_abs [(1, .ubox (e_laws_Equation a0)), (2, .ubox (.agg [.bool false, .bool false, .nils])), (3, .ubox (.agg [.bool a0.Greatest, .bool a0.All, .nils]))] (fun P hP => ?_) ?_)
  · simp only [W0.down, Nat.reduceEqDiff, ↓reduceIte, reduceCtorEq, Nat.reduceAdd, Nat.reduceSub, Nat.reduceMul, Nat.reduceLeDiff, Nat.reduceBEq, Nat.reduceLT, if_true, if_false, beq_self_eq_true, BEq.rfl, ne_eq, tt2, tt4, tt68, tt70, tt72, e_i64, e_laws_Equation]
    (try simp only [WN.down, Nat.reduceAdd, if_true, if_false, ↓reduceIte, tt2, tt4, tt68, tt70, tt72, e_i64, e_laws_Equation] at hP)
    (try simp only [WN.down, Nat.reduceAdd, if_true, if_false, ↓reduceIte, tt2, tt4, tt68, tt70, tt72, e_i64, e_laws_Equation])
    exact hP
  obtain ⟨x1, e6, h⟩ := bindE h
  refine w_sreg (w_abs [(2, .ubox (.agg [.bool false, .bool false, .nils])), (3, .ubox (.agg [.bool a0.Greatest, .bool a0.All, .uslice 1 (x1.map e_i64)]))] (fun P hP => ?_) ?_)
  · simp only [W0.down, Nat.reduceEqDiff, ↓reduceIte, reduceCtorEq, Nat.reduceAdd, Nat.reduceSub, Nat.reduceMul, Nat.reduceLeDiff, Nat.reduceBEq, Nat.reduceLT, if_true, if_false, beq_self_eq_true, BEq.rfl, ne_eq, tt2, tt4, tt68, tt70, tt72, e_i64, e_laws_Equation]
    refine w_call0 (ok_laws_toInt64S a0.Terms _ e6) rfl rfl rfl rfl (.inl rfl) ?_
    simp only [W0.down, Nat.reduceEqDiff, ↓reduceIte, reduceCtorEq, Nat.reduceAdd, Nat.reduceSub, Nat.reduceMul, Nat.reduceLeDiff, Nat.reduceBEq, Nat.reduceLT, if_true, if_false, beq_self_eq_true, BEq.rfl, ne_eq, tt2, tt4, tt68, tt70, tt72, e_i64, e_laws_Equation]
    (try simp only [WN.down, Nat.reduceAdd, if_true, if_false, ↓reduceIte, tt2, tt4, tt68, tt70, tt72, e_i64, e_laws_Equation] at hP)
    (try simp only [WN.down, Nat.reduceAdd, if_true, if_false, ↓reduceIte, tt2, tt4, tt68, tt70, tt72, e_i64, e_laws_Equation])
    exact hP
  refine w_sreg (w_abs [(2, .ubox (.agg [.bool a0.Greatest, .bool a0.All, .uslice 1 (x1.map e_i64)]))] (fun P hP => ?_) ?_)
  · simp only [W0.down, Nat.reduceEqDiff, ↓reduceIte, reduceCtorEq, Nat.reduceAdd, Nat.reduceSub, Nat.reduceMul, Nat.reduceLeDiff, Nat.reduceBEq, Nat.reduceLT, if_true, if_false, beq_self_eq_true, BEq.rfl, ne_eq, tt2, tt4, tt68, tt72, e_i64]
    (try simp only [WN.down, Nat.reduceAdd, if_true, if_false, ↓reduceIte, tt2, tt4, tt68, tt72, e_i64] at hP)
    (try simp only [WN.down, Nat.reduceAdd, if_true, if_false, ↓reduceIte, tt2, tt4, tt68, tt72, e_i64])
    exact hP
  exact w_ret (r0 _ (.inl (w_fin [u_impl_Equation (impl_Equation.mk a0.Greatest a0.All x1)] rfl (by cases someE h; rfl) (by decide) outs_nil)))

theorem ok_laws_toEquationS (a0 : List laws_Equation) (r : (List impl_Equation)) (h : laws_toEquationS a0 = some r) : OkAt Cc 24 [.slice (a0.map e_laws_Equation)] (.uslice 3 (r.map u_impl_Equation)) [] := by
  refine OkAt.of_wpQ (fx := [0]) Cc_ok Try.func24 rfl rfl s24 (Nat.le_of_ble_eq_true rfl) (fun Q0 r0 n0 => ?_)
  replace r0 : ∀ s, onW (Fw.Ends Cc [0] [.tmp 2] (.uslice 3 (r.map u_impl_Equation)) []) s → Q0 .ret s := r0
  replace n0 : ∀ s, onW (Fw.Ends Cc [0] [.tmp 2] (.uslice 3 (r.map u_impl_Equation)) []) s → Q0 .normal s := n0
  show wpC Cc c24 Q0 (stA [(0, .slice (a0.map e_laws_Equation))])
  refine w_sreg (w_abs [(0, .slice (a0.map e_laws_Equation))] (fun P hP => ?_) ?_)
  · simp only [W0.down, Nat.reduceEqDiff, ↓reduceIte, reduceCtorEq, Nat.reduceAdd, Nat.reduceSub, Nat.reduceMul, Nat.reduceLeDiff, Nat.reduceBEq, Nat.reduceLT, if_true, if_false, beq_self_eq_true, BEq.rfl, ne_eq, e_i64, e_laws_Equation]
    (try simp only [WN.down, Nat.reduceAdd, if_true, if_false, ↓reduceIte, e_i64, e_laws_Equation] at hP)
    (try simp only [WN.down, Nat.reduceAdd, if_true, if_false, ↓reduceIte, e_i64, e_laws_Equation])
    exact hP
  obtain ⟨u18, e3, h⟩ := bindE h
  refine w_sreg (w_abs [(0, .slice (a0.map e_laws_Equation)), (3, .uslice 3 (List.replicate (Int.toNat (a0.length : Int)) (.agg [(.bool false), (.bool false), .nils])))] (fun P hP => ?_) ?_)
  · simp only [W0.down, Nat.reduceEqDiff, ↓reduceIte, reduceCtorEq, Nat.reduceAdd, Nat.reduceSub, Nat.reduceMul, Nat.reduceLeDiff, Nat.reduceBEq, Nat.reduceLT, if_true, if_false, beq_self_eq_true, BEq.rfl, ne_eq, tt2, tt4, tt38, tt41, tt68, tt70, tt72, e_i64, e_laws_Equation, (mkOkE e3).1, (mkOkE e3).2.1, (mkOkE e3).2.2, mks, List.map_replicate]
    (try simp only [WN.down, Nat.reduceAdd, if_true, if_false, ↓reduceIte, tt2, tt4, tt38, tt41, tt68, tt70, tt72, e_i64, e_laws_Equation, (mkOkE e3).1, (mkOkE e3).2.1, (mkOkE e3).2.2, mks, List.map_replicate] at hP)
    (try simp only [WN.down, Nat.reduceAdd, if_true, if_false, ↓reduceIte, tt2, tt4, tt38, tt41, tt68, tt70, tt72, e_i64, e_laws_Equation, (mkOkE e3).1, (mkOkE e3).2.1, (mkOkE e3).2.2, mks, List.map_replicate])
    exact hP
  refine w_seq (fun Q4 n4 q4 x4 => ?_)
  refine w_sreg (w_abs [(0, .slice (a0.map e_laws_Equation)), (3, .uslice 3 (List.replicate (Int.toNat (a0.length : Int)) (.agg [(.bool false), (.bool false), .nils]))), (4, .int .i64 0)] (fun P hP => ?_) ?_)
  · simp only [W0.down, Nat.reduceEqDiff, ↓reduceIte, reduceCtorEq, Nat.reduceAdd, Nat.reduceSub, Nat.reduceMul, Nat.reduceLeDiff, Nat.reduceBEq, Nat.reduceLT, if_true, if_false, beq_self_eq_true, BEq.rfl, ne_eq, e_i64, e_laws_Equation]
    (try simp only [WN.down, Nat.reduceAdd, if_true, if_false, ↓reduceIte, e_i64, e_laws_Equation] at hP)
    (try simp only [WN.down, Nat.reduceAdd, if_true, if_false, ↓reduceIte, e_i64, e_laws_Equation])
    exact hP
  refine w_blk (fun Q6 n6 q6 b6 x6 => ?_)
  have L8 : ∀ (n : Nat) (v3_8 : List impl_Equation) (v4_8 : Int), laws_toEquationS_l8 a0 n v3_8 v4_8 = some r → lpC Cc c24_9 Q6 (stA [(0, .slice (a0.map e_laws_Equation)), (3, .uslice 3 (v3_8.map u_impl_Equation)), (4, .int .i64 v4_8)]) := by
    intro m8
    induction m8 with
    | zero => intro v3_8 v4_8 h; cases (show none = some r from h)
    | succ m8 ih8 =>
      intro v3_8 v4_8 h
      replace h : laws_toEquationS_b8 (laws_toEquationS_l8 a0 m8) a0 v3_8 v4_8 = some r := h
      refine lpC_step (fun Q7 n7 q7 x7 => ?_)
      refine w_seq (fun Q8 n8 q8 x8 => ?_)
      refine w_sreg (w_abs [(0, .slice (a0.map e_laws_Equation)), (3, .uslice 3 (v3_8.map u_impl_Equation)), (4, .int .i64 v4_8), (11, .bool (decide (v4_8 < (a0.length : Int))))] (fun P hP => ?_) ?_)
      · simp only [W0.down, Nat.reduceEqDiff, ↓reduceIte, reduceCtorEq, Nat.reduceAdd, Nat.reduceSub, Nat.reduceMul, Nat.reduceLeDiff, Nat.reduceBEq, Nat.reduceLT, if_true, if_false, beq_self_eq_true, BEq.rfl, ne_eq, tt2, tt4, tt38, tt68, tt70, e_i64, e_laws_Equation, u_impl_Equation]
        (try simp only [WN.down, Nat.reduceAdd, if_true, if_false, ↓reduceIte, tt2, tt4, tt38, tt68, tt70, e_i64, e_laws_Equation, u_impl_Equation] at hP)
        (try simp only [WN.down, Nat.reduceAdd, if_true, if_false, ↓reduceIte, tt2, tt4, tt38, tt68, tt70, e_i64, e_laws_Equation, u_impl_Equation])
        exact hP
      rcases condE h with ⟨b10, h⟩ | ⟨b10, h⟩
      · refine w_ct (congrArg AV.bool b10) ?_
        simp only [b10, Bool.not_true, Bool.not_false]
        refine w_skip (n8 _ (.inl ?_))
        refine w_seq (fun Q11 n11 q11 x11 => ?_)
        refine w_blk (fun Q12 n12 q12 b12 x12 => ?_)
        obtain ⟨x1, e14, h⟩ := bindE h
        obtain ⟨x2, e15, h⟩ := bindE h
        obtain ⟨x3, e16, h⟩ := bindE h
        refine w_reg (w_abs [(0, .slice (a0.map e_laws_Equation)), (3, .uslice 3 ((List.set v3_8 (Int.toNat v4_8) x2).map u_impl_Equation)), (4, .int .i64 v4_8)] (fun P hP => ?_) ?_)
        · simp only [W0.down, Nat.reduceEqDiff, ↓reduceIte, reduceCtorEq, Nat.reduceAdd, Nat.reduceSub, Nat.reduceMul, Nat.reduceLeDiff, Nat.reduceBEq, Nat.reduceLT, if_true, if_false, beq_self_eq_true, BEq.rfl, ne_eq, tt2, tt4, tt38, tt41, tt68, tt70, tt72, e_i64, e_laws_Equation, u_impl_Equation, e14, e16, getI_get e16]
          refine w_call0 (ok_laws_toEquation x1 _ e15) rfl rfl rfl rfl (.inl rfl) ?_
          simp only [W0.down, Nat.reduceEqDiff, ↓reduceIte, reduceCtorEq, Nat.reduceAdd, Nat.reduceSub, Nat.reduceMul, Nat.reduceLeDiff, Nat.reduceBEq, Nat.reduceLT, if_true, if_false, beq_self_eq_true, BEq.rfl, ne_eq, tt2, tt4, tt38, tt41, tt68, tt70, tt72, e_i64, e_laws_Equation, u_impl_Equation, e14, e16, getI_get e16]
          (try simp only [WN.down, Nat.reduceAdd, if_true, if_false, ↓reduceIte, tt2, tt4, tt38, tt41, tt68, tt70, tt72, e_i64, e_laws_Equation, u_impl_Equation, e14, e16, getI_get e16] at hP)
          (try simp only [WN.down, Nat.reduceAdd, if_true, if_false, ↓reduceIte, tt2, tt4, tt38, tt41, tt68, tt70, tt72, e_i64, e_laws_Equation, u_impl_Equation, e14, e16, getI_get e16])
          exact hP
        refine n12 _ (n11 _ (.inl ?_))
        refine w_reg (w_abs [(0, .slice (a0.map e_laws_Equation)), (3, .uslice 3 ((List.set v3_8 (Int.toNat v4_8) x2).map u_impl_Equation)), (4, .int .i64 (IntKind.i64.wrap (v4_8 + 1)))] (fun P hP => ?_) ?_)
        · simp only [W0.down, Nat.reduceEqDiff, ↓reduceIte, reduceCtorEq, Nat.reduceAdd, Nat.reduceSub, Nat.reduceMul, Nat.reduceLeDiff, Nat.reduceBEq, Nat.reduceLT, if_true, if_false, beq_self_eq_true, BEq.rfl, ne_eq, e_i64, e_laws_Equation, u_impl_Equation]
          (try simp only [WN.down, Nat.reduceAdd, if_true, if_false, ↓reduceIte, e_i64, e_laws_Equation, u_impl_Equation] at hP)
          (try simp only [WN.down, Nat.reduceAdd, if_true, if_false, ↓reduceIte, e_i64, e_laws_Equation, u_impl_Equation])
          exact hP
        exact n7 _ (.inr ⟨_, weak_eq rfl, ih8 (List.set v3_8 (Int.toNat v4_8) x2) (IntKind.i64.wrap (v4_8 + 1)) h⟩)
      · refine w_cf (congrArg AV.bool b10) ?_
        simp only [b10, Bool.not_true, Bool.not_false]
        refine w_ex (x8 0 _ (x7 0 _ (b6 _ (n4 _ (.inl ?_)))))
        refine w_sreg (w_abs [(2, .uslice 3 (v3_8.map u_impl_Equation))] (fun P hP => ?_) ?_)
        · simp only [W0.down, Nat.reduceEqDiff, ↓reduceIte, reduceCtorEq, Nat.reduceAdd, Nat.reduceSub, Nat.reduceMul, Nat.reduceLeDiff, Nat.reduceBEq, Nat.reduceLT, if_true, if_false, beq_self_eq_true, BEq.rfl, ne_eq, e_i64, e_laws_Equation, u_impl_Equation]
          (try simp only [WN.down, Nat.reduceAdd, if_true, if_false, ↓reduceIte, e_i64, e_laws_Equation, u_impl_Equation] at hP)
          (try simp only [WN.down, Nat.reduceAdd, if_true, if_false, ↓reduceIte, e_i64, e_laws_Equation, u_impl_Equation])
          exact hP
        exact w_ret (r0 _ (.inl (w_fin [.uslice 3 (v3_8.map u_impl_Equation)] rfl (by cases someE h; rfl) (by decide) outs_nil)))
  obtain ⟨n, h⟩ := limE h
  exact w_loop (.inr ⟨_, weak_mix [] rfl (wk_eq (t := 0) (d := .slice (a0.map e_laws_Equation)) rfl (wk_wd (t := 3) (d := .uslice 3 (List.replicate (Int.toNat (a0.length : Int)) (.agg [(.bool false), (.bool false), .nils]))) (d' := .uslice 3 ((List.replicate (Int.toNat (a0.length : Int)) (impl_Equation.mk false false [])).map u_impl_Equation)) rfl rfl (wd_rep (u := u_impl_Equation) (z := (impl_Equation.mk false false [])) (.agg (.cons (.refl _) (.cons (.refl _) (.cons (.nilsU _) (.nil))))) _) (by decide) (wk_eq (t := 4) (d := .int .i64 0) rfl (wk_nil)))), L8 n (List.replicate (Int.toNat (a0.length : Int)) (impl_Equation.mk false false [])) 0 h⟩)

theorem ok_spec_l22Count (a0 : List impl_Equation) (r : Int) (h : spec_l22Count a0 = some r) : OkAt Cc 59 [.slice (a0.map e_impl_Equation)] (.int .i64 r) [] := by
  refine OkAt.of_wpQ (fx := [0]) Cc_ok Try.func59 rfl rfl s59 (Nat.le_of_ble_eq_true rfl) (fun Q0 r0 n0 => ?_)
  replace r0 : ∀ s, onW (Fw.Ends Cc [0] [.tmp 2] (.int .i64 r) []) s → Q0 .ret s := r0
  replace n0 : ∀ s, onW (Fw.Ends Cc [0] [.tmp 2] (.int .i64 r) []) s → Q0 .normal s := n0
  show wpC Cc c59 Q0 (stA [(0, .slice (a0.map e_impl_Equation))])
  refine w_sreg (w_abs [(0, .slice (a0.map e_impl_Equation))] (fun P hP => ?_) ?_)
  · simp only [W0.down, Nat.reduceEqDiff, ↓reduceIte, reduceCtorEq, Nat.reduceAdd, Nat.reduceSub, Nat.reduceMul, Nat.reduceLeDiff, Nat.reduceBEq, Nat.reduceLT, if_true, if_false, beq_self_eq_true, BEq.rfl, ne_eq, e_i64, e_impl_Equation]
    (try simp only [WN.down, Nat.reduceAdd, if_true, if_false, ↓reduceIte, e_i64, e_impl_Equation] at hP)
    (try simp only [WN.down, Nat.reduceAdd, if_true, if_false, ↓reduceIte, e_i64, e_impl_Equation])
    exact hP
  refine w_sreg (w_abs [(0, .slice (a0.map e_impl_Equation)), (3, .int .i64 1)] (fun P hP => ?_) ?_)
  · simp only [W0.down, Nat.reduceEqDiff, ↓reduceIte, reduceCtorEq, Nat.reduceAdd, Nat.reduceSub, Nat.reduceMul, Nat.reduceLeDiff, Nat.reduceBEq, Nat.reduceLT, if_true, if_false, beq_self_eq_true, BEq.rfl, ne_eq, e_i64, e_impl_Equation]
    (try simp only [WN.down, Nat.reduceAdd, if_true, if_false, ↓reduceIte, e_i64, e_impl_Equation] at hP)
    (try simp only [WN.down, Nat.reduceAdd, if_true, if_false, ↓reduceIte, e_i64, e_impl_Equation])
    exact hP
  refine w_seq (fun Q3 n3 q3 x3 => ?_)
  refine w_sreg (w_abs [(0, .slice (a0.map e_impl_Equation)), (3, .int .i64 1), (4, .int .i64 1)] (fun P hP => ?_) ?_)
  · simp only [W0.down, Nat.reduceEqDiff, ↓reduceIte, reduceCtorEq, Nat.reduceAdd, Nat.reduceSub, Nat.reduceMul, Nat.reduceLeDiff, Nat.reduceBEq, Nat.reduceLT, if_true, if_false, beq_self_eq_true, BEq.rfl, ne_eq, e_i64, e_impl_Equation]
    (try simp only [WN.down, Nat.reduceAdd, if_true, if_false, ↓reduceIte, e_i64, e_impl_Equation] at hP)
    (try simp only [WN.down, Nat.reduceAdd, if_true, if_false, ↓reduceIte, e_i64, e_impl_Equation])
    exact hP
  refine w_blk (fun Q5 n5 q5 b5 x5 => ?_)
  have L8 : ∀ (n : Nat) (v3_8 : Int) (v4_8 : Int), spec_l22Count_l8 a0 n v3_8 v4_8 = some r → lpC Cc c59_9 Q5 (stA [(0, .slice (a0.map e_impl_Equation)), (3, .int .i64 v3_8), (4, .int .i64 v4_8)]) := by
    intro m8
    induction m8 with
    | zero => intro v3_8 v4_8 h; cases (show none = some r from h)
    | succ m8 ih8 =>
      intro v3_8 v4_8 h
      replace h : spec_l22Count_b8 (spec_l22Count_l8 a0 m8) a0 v3_8 v4_8 = some r := h
      refine lpC_step (fun Q6 n6 q6 x6 => ?_)
      refine w_seq (fun Q7 n7 q7 x7 => ?_)
      refine w_sreg (w_abs [(0, .slice (a0.map e_impl_Equation)), (3, .int .i64 v3_8), (4, .int .i64 v4_8), (8, .bool (decide (v4_8 < (a0.length : Int))))] (fun P hP => ?_) ?_)
      · simp only [W0.down, Nat.reduceEqDiff, ↓reduceIte, reduceCtorEq, Nat.reduceAdd, Nat.reduceSub, Nat.reduceMul, Nat.reduceLeDiff, Nat.reduceBEq, Nat.reduceLT, if_true, if_false, beq_self_eq_true, BEq.rfl, ne_eq, tt2, tt4, tt41, tt68, tt72, e_i64, e_impl_Equation]
        (try simp only [WN.down, Nat.reduceAdd, if_true, if_false, ↓reduceIte, tt2, tt4, tt41, tt68, tt72, e_i64, e_impl_Equation] at hP)
        (try simp only [WN.down, Nat.reduceAdd, if_true, if_false, ↓reduceIte, tt2, tt4, tt41, tt68, tt72, e_i64, e_impl_Equation])
        exact hP
      rcases condE h with ⟨b9, h⟩ | ⟨b9, h⟩
      · refine w_ct (congrArg AV.bool b9) ?_
        simp only [b9, Bool.not_true, Bool.not_false]
        refine w_skip (n7 _ (.inl ?_))
        have K22 : ∀ (v3_22 : Int) (v4_22 : Int), spec_l22Count_k22 (spec_l22Count_l8 a0 m8) a0 v3_22 v4_22 = some r → wpC Cc c59_22 Q6 (stA [(0, .slice (a0.map e_impl_Equation)), (3, .int .i64 v3_22), (4, .int .i64 v4_22)]) := by
          intro v3_22 v4_22 h
          refine w_reg (w_abs [(0, .slice (a0.map e_impl_Equation)), (3, .int .i64 v3_22), (4, .int .i64 (IntKind.i64.wrap (v4_22 + 1)))] (fun P hP => ?_) ?_)
          · simp only [W0.down, Nat.reduceEqDiff, ↓reduceIte, reduceCtorEq, Nat.reduceAdd, Nat.reduceSub, Nat.reduceMul, Nat.reduceLeDiff, Nat.reduceBEq, Nat.reduceLT, if_true, if_false, beq_self_eq_true, BEq.rfl, ne_eq, e_i64, e_impl_Equation]
            (try simp only [WN.down, Nat.reduceAdd, if_true, if_false, ↓reduceIte, e_i64, e_impl_Equation] at hP)
            (try simp only [WN.down, Nat.reduceAdd, if_true, if_false, ↓reduceIte, e_i64, e_impl_Equation])
            exact hP
          exact n6 _ (.inr ⟨_, weak_eq rfl, ih8 v3_22 (IntKind.i64.wrap (v4_22 + 1)) h⟩)
        refine w_seq (fun Q10 n10 q10 x10 => ?_)
        refine w_blk (fun Q12 n12 q12 b12 x12 => ?_)
        obtain ⟨x1, e14, h⟩ := bindE h
        obtain ⟨x2, e15, h⟩ := bindE h
        refine w_sdrw rfl (w_absd [(0, .slice (a0.map e_impl_Equation)), (3, .int .i64 v3_8), (4, .int .i64 v4_8), (22, .bool (!(x1.Greatest == x2.Greatest)))] (fun P hP => ?_) ?_)
        · simp only [W1.down, Nat.reduceEqDiff, ↓reduceIte, reduceCtorEq, Nat.reduceAdd, Nat.reduceSub, Nat.reduceMul, Nat.reduceLeDiff, Nat.reduceBEq, Nat.reduceLT, if_true, if_false, beq_self_eq_true, BEq.rfl, ne_eq, tt2, tt4, tt41, tt68, tt72, e_i64, e_impl_Equation, e14, e15]
          refine ⟨by kernel_rfl, ?_⟩
          (try simp only [WN.down, Nat.reduceAdd, if_true, if_false, ↓reduceIte, tt2, tt4, tt41, tt68, tt72, e_i64, e_impl_Equation, e14, e15] at hP)
          (try simp only [WN.down, Nat.reduceAdd, if_true, if_false, ↓reduceIte, tt2, tt4, tt41, tt68, tt72, e_i64, e_impl_Equation, e14, e15])
          exact hP
        rcases condE h with ⟨b16, h⟩ | ⟨b16, h⟩
        · refine w_ct (congrArg AV.bool b16) ?_
          simp only [b16, Bool.not_true, Bool.not_false]
          refine w_reg (w_abs [(0, .slice (a0.map e_impl_Equation)), (3, .int .i64 (IntKind.i64.wrap (v3_8 + 1))), (4, .int .i64 v4_8)] (fun P hP => ?_) ?_)
          · simp only [W0.down, Nat.reduceEqDiff, ↓reduceIte, reduceCtorEq, Nat.reduceAdd, Nat.reduceSub, Nat.reduceMul, Nat.reduceLeDiff, Nat.reduceBEq, Nat.reduceLT, if_true, if_false, beq_self_eq_true, BEq.rfl, ne_eq, e_i64, e_impl_Equation]
            (try simp only [WN.down, Nat.reduceAdd, if_true, if_false, ↓reduceIte, e_i64, e_impl_Equation] at hP)
            (try simp only [WN.down, Nat.reduceAdd, if_true, if_false, ↓reduceIte, e_i64, e_impl_Equation])
            exact hP
          exact n12 _ (n10 _ (.inr ⟨_, weak_eq rfl, K22 (IntKind.i64.wrap (v3_8 + 1)) v4_8 h⟩))
        · refine w_cf (congrArg AV.bool b16) ?_
          simp only [b16, Bool.not_true, Bool.not_false]
          exact w_skip (n12 _ (n10 _ (.inr ⟨_, weak_eq rfl, K22 v3_8 v4_8 h⟩)))
      · refine w_cf (congrArg AV.bool b9) ?_
        simp only [b9, Bool.not_true, Bool.not_false]
        refine w_ex (x7 0 _ (x6 0 _ (b5 _ (n3 _ (.inl ?_)))))
        refine w_sreg (w_abs [(2, .int .i64 v3_8)] (fun P hP => ?_) ?_)
        · simp only [W0.down, Nat.reduceEqDiff, ↓reduceIte, reduceCtorEq, Nat.reduceAdd, Nat.reduceSub, Nat.reduceMul, Nat.reduceLeDiff, Nat.reduceBEq, Nat.reduceLT, if_true, if_false, beq_self_eq_true, BEq.rfl, ne_eq, e_i64, e_impl_Equation]
          (try simp only [WN.down, Nat.reduceAdd, if_true, if_false, ↓reduceIte, e_i64, e_impl_Equation] at hP)
          (try simp only [WN.down, Nat.reduceAdd, if_true, if_false, ↓reduceIte, e_i64, e_impl_Equation])
          exact hP
        exact w_ret (r0 _ (.inl (w_fin [.int .i64 v3_8] rfl (by cases someE h; rfl) (by decide) outs_nil)))
  obtain ⟨n, h⟩ := limE h
  exact w_loop (.inr ⟨_, weak_eq rfl, L8 n 1 1 h⟩)

theorem ok_spec_l00In (a0 : Int) (a1 : Int) (a2 : Int) (r : Bool) (h : spec_l00In a0 a1 a2 = some r) : OkAt Cc 27 [.int .i64 a0, .int .i64 a1, .int .i64 a2] (.bool r) [] := by
  refine OkAt.of_wpQ (fx := [0, 1, 2]) Cc_ok Try.func27 rfl rfl s27 (Nat.le_of_ble_eq_true rfl) (fun Q0 r0 n0 => ?_)
  replace r0 : ∀ s, onW (Fw.Ends Cc [0, 1, 2] [.tmp 6] (.bool r) []) s → Q0 .ret s := r0
  replace n0 : ∀ s, onW (Fw.Ends Cc [0, 1, 2] [.tmp 6] (.bool r) []) s → Q0 .normal s := n0
  show wpC Cc c27 Q0 (stA [(0, .int .i64 a0), (1, .int .i64 a1), (2, .int .i64 a2)])
  refine w_sreg (w_abs [(0, .int .i64 a0), (1, .int .i64 a1), (2, .int .i64 a2)] (fun P hP => ?_) ?_)
  · simp only [W0.down, Nat.reduceEqDiff, ↓reduceIte, reduceCtorEq, Nat.reduceAdd, Nat.reduceSub, Nat.reduceMul, Nat.reduceLeDiff, Nat.reduceBEq, Nat.reduceLT, if_true, if_false, beq_self_eq_true, BEq.rfl, ne_eq]
    (try simp only [WN.down, Nat.reduceAdd, if_true, if_false, ↓reduceIte] at hP)
    (try simp only [WN.down, Nat.reduceAdd, if_true, if_false, ↓reduceIte])
    exact hP
  refine w_sreg (w_abs [(6, .bool ((decide (a1 ≤ a0)) && (decide (a0 ≤ a2))))] (fun P hP => ?_) ?_)
  · rcases Bool.eq_false_or_eq_true ((decide (a1 ≤ a0))) with s3 | s3
    · simp only [W0.down, Nat.reduceEqDiff, ↓reduceIte, reduceCtorEq, Nat.reduceAdd, Nat.reduceSub, Nat.reduceMul, Nat.reduceLeDiff, Nat.reduceBEq, Nat.reduceLT, if_true, if_false, beq_self_eq_true, BEq.rfl, ne_eq, s3]
      (try simp only [WN.down, Nat.reduceAdd, if_true, if_false, ↓reduceIte, s3] at hP)
      (try simp only [WN.down, Nat.reduceAdd, if_true, if_false, ↓reduceIte, s3])
      exact hP
    · simp only [W0.down, Nat.reduceEqDiff, ↓reduceIte, reduceCtorEq, Nat.reduceAdd, Nat.reduceSub, Nat.reduceMul, Nat.reduceLeDiff, Nat.reduceBEq, Nat.reduceLT, if_true, if_false, beq_self_eq_true, BEq.rfl, ne_eq, s3]
      (try simp only [WN.down, Nat.reduceAdd, if_true, if_false, ↓reduceIte, s3] at hP)
      (try simp only [WN.down, Nat.reduceAdd, if_true, if_false, ↓reduceIte, s3])
      exact hP
  exact w_ret (r0 _ (.inl (w_fin [.bool ((decide (a1 ≤ a0)) && (decide (a0 ≤ a2)))] rfl (by cases someE h; rfl) (by decide) outs_nil)))

theorem ok_spec_l00Rises (a0 : List Int) (a1 : Int) (a2 : Int) (r : Bool) (h : spec_l00Rises a0 a1 a2 = some r) : OkAt Cc 60 [.slice (a0.map e_i64), .int .i64 a1, .int .i64 a2] (.bool r) [] := by
  refine OkAt.of_wpQ (fx := [0, 1, 2]) Cc_ok Try.func60 rfl rfl s60 (Nat.le_of_ble_eq_true rfl) (fun Q0 r0 n0 => ?_)
  replace r0 : ∀ s, onW (Fw.Ends Cc [0, 1, 2] [.tmp 6] (.bool r) []) s → Q0 .ret s := r0
  replace n0 : ∀ s, onW (Fw.Ends Cc [0, 1, 2] [.tmp 6] (.bool r) []) s → Q0 .normal s := n0
  show wpC Cc c60 Q0 (stA [(0, .slice (a0.map e_i64)), (1, .int .i64 a1), (2, .int .i64 a2)])
  refine w_sreg (w_abs [(0, .slice (a0.map e_i64)), (1, .int .i64 a1), (2, .int .i64 a2)] (fun P hP => ?_) ?_)
  · simp only [W0.down, Nat.reduceEqDiff, ↓reduceIte, reduceCtorEq, Nat.reduceAdd, Nat.reduceSub, Nat.reduceMul, Nat.reduceLeDiff, Nat.reduceBEq, Nat.reduceLT, if_true, if_false, beq_self_eq_true, BEq.rfl, ne_eq, e_i64]
    (try simp only [WN.down, Nat.reduceAdd, if_true, if_false, ↓reduceIte, e_i64] at hP)
    (try simp only [WN.down, Nat.reduceAdd, if_true, if_false, ↓reduceIte, e_i64])
    exact hP
  refine w_seq (fun Q2 n2 q2 x2 => ?_)
  refine w_sreg (w_abs [(0, .slice (a0.map e_i64)), (1, .int .i64 a1), (2, .int .i64 a2), (7, .int .i64 0)] (fun P hP => ?_) ?_)
  · simp only [W0.down, Nat.reduceEqDiff, ↓reduceIte, reduceCtorEq, Nat.reduceAdd, Nat.reduceSub, Nat.reduceMul, Nat.reduceLeDiff, Nat.reduceBEq, Nat.reduceLT, if_true, if_false, beq_self_eq_true, BEq.rfl, ne_eq, e_i64]
    (try simp only [WN.down, Nat.reduceAdd, if_true, if_false, ↓reduceIte, e_i64] at hP)
    (try simp only [WN.down, Nat.reduceAdd, if_true, if_false, ↓reduceIte, e_i64])
    exact hP
  refine w_blk (fun Q4 n4 q4 b4 x4 => ?_)
  have L6 : ∀ (n : Nat) (v7_6 : Int), spec_l00Rises_l6 a0 a1 a2 n v7_6 = some r → lpC Cc c60_7 Q4 (stA [(0, .slice (a0.map e_i64)), (1, .int .i64 a1), (2, .int .i64 a2), (7, .int .i64 v7_6)]) := by
    intro m6
    induction m6 with
    | zero => intro v7_6 h; cases (show none = some r from h)
    | succ m6 ih6 =>
      intro v7_6 h
      replace h : spec_l00Rises_b6 (spec_l00Rises_l6 a0 a1 a2 m6) a0 a1 a2 v7_6 = some r := h
      refine lpC_step (fun Q5 n5 q5 x5 => ?_)
      refine w_seq (fun Q6 n6 q6 x6 => ?_)
      refine w_sreg (w_abs [(0, .slice (a0.map e_i64)), (1, .int .i64 a1), (2, .int .i64 a2), (7, .int .i64 v7_6), (11, .bool (decide (v7_6 < (a0.length : Int))))] (fun P hP => ?_) ?_)
      · simp only [W0.down, Nat.reduceEqDiff, ↓reduceIte, reduceCtorEq, Nat.reduceAdd, Nat.reduceSub, Nat.reduceMul, Nat.reduceLeDiff, Nat.reduceBEq, Nat.reduceLT, if_true, if_false, beq_self_eq_true, BEq.rfl, ne_eq, tt2, tt68, e_i64]
        (try simp only [WN.down, Nat.reduceAdd, if_true, if_false, ↓reduceIte, tt2, tt68, e_i64] at hP)
        (try simp only [WN.down, Nat.reduceAdd, if_true, if_false, ↓reduceIte, tt2, tt68, e_i64])
        exact hP
      rcases condE h with ⟨b8, h⟩ | ⟨b8, h⟩
      · refine w_ct (congrArg AV.bool b8) ?_
        simp only [b8, Bool.not_true, Bool.not_false]
        refine w_skip (n6 _ (.inl ?_))
        refine w_seq (fun Q9 n9 q9 x9 => ?_)
        refine w_blk (fun Q10 n10 q10 b10 x10 => ?_)
        obtain ⟨x1, e12, h⟩ := bindE h
        obtain ⟨x2, e13, h⟩ := bindE h
        rcases condE h with ⟨b14, h⟩ | ⟨b14, h⟩
        · refine w_sdrw rfl (w_absd [(0, .slice (a0.map e_i64)), (1, .int .i64 a1), (2, .int .i64 a2), (7, .int .i64 v7_6), (37, .bool true)] (fun P hP => ?_) ?_)
          · simp only [W1.down, Nat.reduceEqDiff, ↓reduceIte, reduceCtorEq, Nat.reduceAdd, Nat.reduceSub, Nat.reduceMul, Nat.reduceLeDiff, Nat.reduceBEq, Nat.reduceLT, if_true, if_false, beq_self_eq_true, BEq.rfl, ne_eq, tt2, tt68, e_i64, e12, b14]
            refine w_call1 (ok_spec_l00In x1 a1 a2 _ e13) rfl rfl rfl rfl (.inl rfl) ?_
            simp only [W1.down, Nat.reduceEqDiff, ↓reduceIte, reduceCtorEq, Nat.reduceAdd, Nat.reduceSub, Nat.reduceMul, Nat.reduceLeDiff, Nat.reduceBEq, Nat.reduceLT, if_true, if_false, beq_self_eq_true, BEq.rfl, ne_eq, tt2, tt68, e_i64, e12, b14]
            refine ⟨by kernel_rfl, ?_⟩
            (try simp only [WN.down, Nat.reduceAdd, if_true, if_false, ↓reduceIte, tt2, tt68, e_i64, e12, b14] at hP)
            (try simp only [WN.down, Nat.reduceAdd, if_true, if_false, ↓reduceIte, tt2, tt68, e_i64, e12, b14])
            exact hP
          refine w_ct rfl ?_
          refine w_sreg (w_abs [(6, .bool false)] (fun P hP => ?_) ?_)
          · simp only [W0.down, Nat.reduceEqDiff, ↓reduceIte, reduceCtorEq, Nat.reduceAdd, Nat.reduceSub, Nat.reduceMul, Nat.reduceLeDiff, Nat.reduceBEq, Nat.reduceLT, if_true, if_false, beq_self_eq_true, BEq.rfl, ne_eq, e_i64]
            (try simp only [WN.down, Nat.reduceAdd, if_true, if_false, ↓reduceIte, e_i64] at hP)
            (try simp only [WN.down, Nat.reduceAdd, if_true, if_false, ↓reduceIte, e_i64])
            exact hP
          exact w_ret (q10 _ (q9 _ (q5 _ (q4 _ (q2 _ (r0 _ (.inl (w_fin [.bool false] rfl (by cases someE h; rfl) (by decide) outs_nil))))))))
        · rcases condE h with ⟨b16, h⟩ | ⟨b16, h⟩
          · obtain ⟨x3, e17, h⟩ := bindE h
            refine w_sdrw rfl (w_absd [(0, .slice (a0.map e_i64)), (1, .int .i64 a1), (2, .int .i64 a2), (7, .int .i64 v7_6), (37, .bool (decide (x1 ≤ x3)))] (fun P hP => ?_) ?_)
            · simp only [W1.down, Nat.reduceEqDiff, ↓reduceIte, reduceCtorEq, Nat.reduceAdd, Nat.reduceSub, Nat.reduceMul, Nat.reduceLeDiff, Nat.reduceBEq, Nat.reduceLT, if_true, if_false, beq_self_eq_true, BEq.rfl, ne_eq, tt2, tt68, e_i64, e12, b14, b16, e17]
              refine w_call1 (ok_spec_l00In x1 a1 a2 _ e13) rfl rfl rfl rfl (.inl rfl) ?_
              simp only [W1.down, Nat.reduceEqDiff, ↓reduceIte, reduceCtorEq, Nat.reduceAdd, Nat.reduceSub, Nat.reduceMul, Nat.reduceLeDiff, Nat.reduceBEq, Nat.reduceLT, if_true, if_false, beq_self_eq_true, BEq.rfl, ne_eq, tt2, tt68, e_i64, e12, b14, b16, e17]
              refine ⟨by kernel_rfl, ?_⟩
              (try simp only [WN.down, Nat.reduceAdd, if_true, if_false, ↓reduceIte, tt2, tt68, e_i64, e12, b14, b16, e17] at hP)
              (try simp only [WN.down, Nat.reduceAdd, if_true, if_false, ↓reduceIte, tt2, tt68, e_i64, e12, b14, b16, e17])
              exact hP
            rcases condE h with ⟨b18, h⟩ | ⟨b18, h⟩
            · refine w_ct (congrArg AV.bool b18) ?_
              simp only [b18, Bool.not_true, Bool.not_false]
              refine w_sreg (w_abs [(6, .bool false)] (fun P hP => ?_) ?_)
              · simp only [W0.down, Nat.reduceEqDiff, ↓reduceIte, reduceCtorEq, Nat.reduceAdd, Nat.reduceSub, Nat.reduceMul, Nat.reduceLeDiff, Nat.reduceBEq, Nat.reduceLT, if_true, if_false, beq_self_eq_true, BEq.rfl, ne_eq, e_i64]
                (try simp only [WN.down, Nat.reduceAdd, if_true, if_false, ↓reduceIte, e_i64] at hP)
                (try simp only [WN.down, Nat.reduceAdd, if_true, if_false, ↓reduceIte, e_i64])
                exact hP
              exact w_ret (q10 _ (q9 _ (q5 _ (q4 _ (q2 _ (r0 _ (.inl (w_fin [.bool false] rfl (by cases someE h; rfl) (by decide) outs_nil))))))))
            · refine w_cf (congrArg AV.bool b18) ?_
              simp only [b18, Bool.not_true, Bool.not_false]
              refine w_skip (n10 _ (n9 _ (.inl ?_)))
              refine w_reg (w_abs [(0, .slice (a0.map e_i64)), (1, .int .i64 a1), (2, .int .i64 a2), (7, .int .i64 (IntKind.i64.wrap (v7_6 + 1)))] (fun P hP => ?_) ?_)
              · simp only [W0.down, Nat.reduceEqDiff, ↓reduceIte, reduceCtorEq, Nat.reduceAdd, Nat.reduceSub, Nat.reduceMul, Nat.reduceLeDiff, Nat.reduceBEq, Nat.reduceLT, if_true, if_false, beq_self_eq_true, BEq.rfl, ne_eq, e_i64]
                (try simp only [WN.down, Nat.reduceAdd, if_true, if_false, ↓reduceIte, e_i64] at hP)
                (try simp only [WN.down, Nat.reduceAdd, if_true, if_false, ↓reduceIte, e_i64])
                exact hP
              exact n5 _ (.inr ⟨_, weak_eq rfl, ih6 (IntKind.i64.wrap (v7_6 + 1)) h⟩)
          · refine w_sdrw rfl (w_absd [(0, .slice (a0.map e_i64)), (1, .int .i64 a1), (2, .int .i64 a2), (7, .int .i64 v7_6), (37, .bool false)] (fun P hP => ?_) ?_)
            · simp only [W1.down, Nat.reduceEqDiff, ↓reduceIte, reduceCtorEq, Nat.reduceAdd, Nat.reduceSub, Nat.reduceMul, Nat.reduceLeDiff, Nat.reduceBEq, Nat.reduceLT, if_true, if_false, beq_self_eq_true, BEq.rfl, ne_eq, tt2, tt68, e_i64, e12, b14, b16]
              refine w_call1 (ok_spec_l00In x1 a1 a2 _ e13) rfl rfl rfl rfl (.inl rfl) ?_
              simp only [W1.down, Nat.reduceEqDiff, ↓reduceIte, reduceCtorEq, Nat.reduceAdd, Nat.reduceSub, Nat.reduceMul, Nat.reduceLeDiff, Nat.reduceBEq, Nat.reduceLT, if_true, if_false, beq_self_eq_true, BEq.rfl, ne_eq, tt2, tt68, e_i64, e12, b14, b16]
              refine ⟨by kernel_rfl, ?_⟩
              (try simp only [WN.down, Nat.reduceAdd, if_true, if_false, ↓reduceIte, tt2, tt68, e_i64, e12, b14, b16] at hP)
              (try simp only [WN.down, Nat.reduceAdd, if_true, if_false, ↓reduceIte, tt2, tt68, e_i64, e12, b14, b16])
              exact hP
            refine w_cf rfl ?_
            refine w_skip (n10 _ (n9 _ (.inl ?_)))
            refine w_reg (w_abs [(0, .slice (a0.map e_i64)), (1, .int .i64 a1), (2, .int .i64 a2), (7, .int .i64 (IntKind.i64.wrap (v7_6 + 1)))] (fun P hP => ?_) ?_)
            · simp only [W0.down, Nat.reduceEqDiff, ↓reduceIte, reduceCtorEq, Nat.reduceAdd, Nat.reduceSub, Nat.reduceMul, Nat.reduceLeDiff, Nat.reduceBEq, Nat.reduceLT, if_true, if_false, beq_self_eq_true, BEq.rfl, ne_eq, e_i64]
              (try simp only [WN.down, Nat.reduceAdd, if_true, if_false, ↓reduceIte, e_i64] at hP)
              (try simp only [WN.down, Nat.reduceAdd, if_true, if_false, ↓reduceIte, e_i64])
              exact hP
            exact n5 _ (.inr ⟨_, weak_eq rfl, ih6 (IntKind.i64.wrap (v7_6 + 1)) h⟩)
      · refine w_cf (congrArg AV.bool b8) ?_
        simp only [b8, Bool.not_true, Bool.not_false]
        refine w_ex (x6 0 _ (x5 0 _ (b4 _ (n2 _ (.inl ?_)))))
        refine w_sreg (w_abs [(6, .bool true)] (fun P hP => ?_) ?_)
        · simp only [W0.down, Nat.reduceEqDiff, ↓reduceIte, reduceCtorEq, Nat.reduceAdd, Nat.reduceSub, Nat.reduceMul, Nat.reduceLeDiff, Nat.reduceBEq, Nat.reduceLT, if_true, if_false, beq_self_eq_true, BEq.rfl, ne_eq, e_i64]
          (try simp only [WN.down, Nat.reduceAdd, if_true, if_false, ↓reduceIte, e_i64] at hP)
          (try simp only [WN.down, Nat.reduceAdd, if_true, if_false, ↓reduceIte, e_i64])
          exact hP
        exact w_ret (r0 _ (.inl (w_fin [.bool true] rfl (by cases someE h; rfl) (by decide) outs_nil)))
  obtain ⟨n, h⟩ := limE h
  exact w_loop (.inr ⟨_, weak_eq rfl, L6 n 0 h⟩)

theorem ok_spec_l22Is (a0 : List impl_Equation) (r : Bool) (h : spec_l22Is a0 = some r) : OkAt Cc 44 [.slice (a0.map e_impl_Equation)] (.bool r) [] := by
  refine OkAt.of_wpQ (fx := [0]) Cc_ok Try.func44 rfl rfl s44 (Nat.le_of_ble_eq_true rfl) (fun Q0 r0 n0 => ?_)
  replace r0 : ∀ s, onW (Fw.Ends Cc [0] [.tmp 2] (.bool r) []) s → Q0 .ret s := r0
  replace n0 : ∀ s, onW (Fw.Ends Cc [0] [.tmp 2] (.bool r) []) s → Q0 .normal s := n0
  show wpC Cc c44 Q0 (stA [(0, .slice (a0.map e_impl_Equation))])
  refine w_sreg (w_abs [(0, .slice (a0.map e_impl_Equation))] (fun P hP => ?_) ?_)
  · simp only [W0.down, Nat.reduceEqDiff, ↓reduceIte, reduceCtorEq, Nat.reduceAdd, Nat.reduceSub, Nat.reduceMul, Nat.reduceLeDiff, Nat.reduceBEq, Nat.reduceLT, if_true, if_false, beq_self_eq_true, BEq.rfl, ne_eq, e_i64, e_impl_Equation]
    (try simp only [WN.down, Nat.reduceAdd, if_true, if_false, ↓reduceIte, e_i64, e_impl_Equation] at hP)
    (try simp only [WN.down, Nat.reduceAdd, if_true, if_false, ↓reduceIte, e_i64, e_impl_Equation])
    exact hP
  refine w_seq (fun Q2 n2 q2 x2 => ?_)
  rcases condE h with ⟨b4, h⟩ | ⟨b4, h⟩
  · refine w_sreg (w_abs [(0, .slice (a0.map e_impl_Equation)), (16, .bool true)] (fun P hP => ?_) ?_)
    · simp only [W0.down, Nat.reduceEqDiff, ↓reduceIte, reduceCtorEq, Nat.reduceAdd, Nat.reduceSub, Nat.reduceMul, Nat.reduceLeDiff, Nat.reduceBEq, Nat.reduceLT, if_true, if_false, beq_self_eq_true, BEq.rfl, ne_eq, tt2, tt4, tt41, tt68, tt72, e_i64, e_impl_Equation, b4]
      (try simp only [WN.down, Nat.reduceAdd, if_true, if_false, ↓reduceIte, tt2, tt4, tt41, tt68, tt72, e_i64, e_impl_Equation, b4] at hP)
      (try simp only [WN.down, Nat.reduceAdd, if_true, if_false, ↓reduceIte, tt2, tt4, tt41, tt68, tt72, e_i64, e_impl_Equation, b4])
      exact hP
    refine w_ct rfl ?_
    refine w_sreg (w_abs [(2, .bool false)] (fun P hP => ?_) ?_)
    · simp only [W0.down, Nat.reduceEqDiff, ↓reduceIte, reduceCtorEq, Nat.reduceAdd, Nat.reduceSub, Nat.reduceMul, Nat.reduceLeDiff, Nat.reduceBEq, Nat.reduceLT, if_true, if_false, beq_self_eq_true, BEq.rfl, ne_eq, e_i64, e_impl_Equation]
      (try simp only [WN.down, Nat.reduceAdd, if_true, if_false, ↓reduceIte, e_i64, e_impl_Equation] at hP)
      (try simp only [WN.down, Nat.reduceAdd, if_true, if_false, ↓reduceIte, e_i64, e_impl_Equation])
      exact hP
    exact w_ret (q2 _ (r0 _ (.inl (w_fin [.bool false] rfl (by cases someE h; rfl) (by decide) outs_nil))))
  · rcases condE h with ⟨b6, h⟩ | ⟨b6, h⟩
    · refine w_sreg (w_abs [(0, .slice (a0.map e_impl_Equation)), (16, .bool true)] (fun P hP => ?_) ?_)
      · simp only [W0.down, Nat.reduceEqDiff, ↓reduceIte, reduceCtorEq, Nat.reduceAdd, Nat.reduceSub, Nat.reduceMul, Nat.reduceLeDiff, Nat.reduceBEq, Nat.reduceLT, if_true, if_false, beq_self_eq_true, BEq.rfl, ne_eq, tt2, tt4, tt41, tt68, tt72, e_i64, e_impl_Equation, b4, b6]
        (try simp only [WN.down, Nat.reduceAdd, if_true, if_false, ↓reduceIte, tt2, tt4, tt41, tt68, tt72, e_i64, e_impl_Equation, b4, b6] at hP)
        (try simp only [WN.down, Nat.reduceAdd, if_true, if_false, ↓reduceIte, tt2, tt4, tt41, tt68, tt72, e_i64, e_impl_Equation, b4, b6])
        exact hP
      refine w_ct rfl ?_
      refine w_sreg (w_abs [(2, .bool false)] (fun P hP => ?_) ?_)
      · simp only [W0.down, Nat.reduceEqDiff, ↓reduceIte, reduceCtorEq, Nat.reduceAdd, Nat.reduceSub, Nat.reduceMul, Nat.reduceLeDiff, Nat.reduceBEq, Nat.reduceLT, if_true, if_false, beq_self_eq_true, BEq.rfl, ne_eq, e_i64, e_impl_Equation]
        (try simp only [WN.down, Nat.reduceAdd, if_true, if_false, ↓reduceIte, e_i64, e_impl_Equation] at hP)
        (try simp only [WN.down, Nat.reduceAdd, if_true, if_false, ↓reduceIte, e_i64, e_impl_Equation])
        exact hP
      exact w_ret (q2 _ (r0 _ (.inl (w_fin [.bool false] rfl (by cases someE h; rfl) (by decide) outs_nil))))
    · obtain ⟨x1, e8, h⟩ := bindE h
      refine w_sreg (w_abs [(0, .slice (a0.map e_impl_Equation)), (16, .bool (decide (9 < x1)))] (fun P hP => ?_) ?_)
      · simp only [W0.down, Nat.reduceEqDiff, ↓reduceIte, reduceCtorEq, Nat.reduceAdd, Nat.reduceSub, Nat.reduceMul, Nat.reduceLeDiff, Nat.reduceBEq, Nat.reduceLT, if_true, if_false, beq_self_eq_true, BEq.rfl, ne_eq, tt2, tt4, tt41, tt68, tt72, e_i64, e_impl_Equation, b4, b6]
        refine w_callg0 (ok_spec_l22Count a0 _ e8) rfl rfl rfl rfl (.inl rfl) ?_
        simp only [W0.down, Nat.reduceEqDiff, ↓reduceIte, reduceCtorEq, Nat.reduceAdd, Nat.reduceSub, Nat.reduceMul, Nat.reduceLeDiff, Nat.reduceBEq, Nat.reduceLT, if_true, if_false, beq_self_eq_true, BEq.rfl, ne_eq, tt2, tt4, tt41, tt68, tt72, e_i64, e_impl_Equation, b4, b6]
        (try simp only [WN.down, Nat.reduceAdd, if_true, if_false, ↓reduceIte, tt2, tt4, tt41, tt68, tt72, e_i64, e_impl_Equation, b4, b6] at hP)
        (try simp only [WN.down, Nat.reduceAdd, if_true, if_false, ↓reduceIte, tt2, tt4, tt41, tt68, tt72, e_i64, e_impl_Equation, b4, b6])
        exact hP
      rcases condE h with ⟨b9, h⟩ | ⟨b9, h⟩
      · refine w_ct (congrArg AV.bool b9) ?_
        simp only [b9, Bool.not_true, Bool.not_false]
        refine w_sreg (w_abs [(2, .bool false)] (fun P hP => ?_) ?_)
        · simp only [W0.down, Nat.reduceEqDiff, ↓reduceIte, reduceCtorEq, Nat.reduceAdd, Nat.reduceSub, Nat.reduceMul, Nat.reduceLeDiff, Nat.reduceBEq, Nat.reduceLT, if_true, if_false, beq_self_eq_true, BEq.rfl, ne_eq, e_i64, e_impl_Equation]
          (try simp only [WN.down, Nat.reduceAdd, if_true, if_false, ↓reduceIte, e_i64, e_impl_Equation] at hP)
          (try simp only [WN.down, Nat.reduceAdd, if_true, if_false, ↓reduceIte, e_i64, e_impl_Equation])
          exact hP
        exact w_ret (q2 _ (r0 _ (.inl (w_fin [.bool false] rfl (by cases someE h; rfl) (by decide) outs_nil))))
      · refine w_cf (congrArg AV.bool b9) ?_
        simp only [b9, Bool.not_true, Bool.not_false]
        refine w_skip (n2 _ (.inl ?_))
        refine w_seq (fun Q11 n11 q11 x11 => ?_)
        refine w_sreg (w_abs [(0, .slice (a0.map e_impl_Equation)), (3, .int .i64 0)] (fun P hP => ?_) ?_)
        · simp only [W0.down, Nat.reduceEqDiff, ↓reduceIte, reduceCtorEq, Nat.reduceAdd, Nat.reduceSub, Nat.reduceMul, Nat.reduceLeDiff, Nat.reduceBEq, Nat.reduceLT, if_true, if_false, beq_self_eq_true, BEq.rfl, ne_eq, e_i64, e_impl_Equation]
          (try simp only [WN.down, Nat.reduceAdd, if_true, if_false, ↓reduceIte, e_i64, e_impl_Equation] at hP)
          (try simp only [WN.down, Nat.reduceAdd, if_true, if_false, ↓reduceIte, e_i64, e_impl_Equation])
          exact hP
        refine w_blk (fun Q13 n13 q13 b13 x13 => ?_)
        have L14 : ∀ (n : Nat) (v3_14 : Int), spec_l22Is_l14 a0 n v3_14 = some r → lpC Cc c44_15 Q13 (stA [(0, .slice (a0.map e_impl_Equation)), (3, .int .i64 v3_14)]) := by
          intro m14
          induction m14 with
          | zero => intro v3_14 h; cases (show none = some r from h)
          | succ m14 ih14 =>
            intro v3_14 h
            replace h : spec_l22Is_b14 (spec_l22Is_l14 a0 m14) a0 v3_14 = some r := h
            refine lpC_step (fun Q14 n14 q14 x14 => ?_)
            refine w_seq (fun Q15 n15 q15 x15 => ?_)
            refine w_sreg (w_abs [(0, .slice (a0.map e_impl_Equation)), (3, .int .i64 v3_14), (20, .bool (decide (v3_14 < (a0.length : Int))))] (fun P hP => ?_) ?_)
            · simp only [W0.down, Nat.reduceEqDiff, ↓reduceIte, reduceCtorEq, Nat.reduceAdd, Nat.reduceSub, Nat.reduceMul, Nat.reduceLeDiff, Nat.reduceBEq, Nat.reduceLT, if_true, if_false, beq_self_eq_true, BEq.rfl, ne_eq, tt2, tt4, tt41, tt68, tt72, e_i64, e_impl_Equation]
              (try simp only [WN.down, Nat.reduceAdd, if_true, if_false, ↓reduceIte, tt2, tt4, tt41, tt68, tt72, e_i64, e_impl_Equation] at hP)
              (try simp only [WN.down, Nat.reduceAdd, if_true, if_false, ↓reduceIte, tt2, tt4, tt41, tt68, tt72, e_i64, e_impl_Equation])
              exact hP
            rcases condE h with ⟨b17, h⟩ | ⟨b17, h⟩
            · refine w_ct (congrArg AV.bool b17) ?_
              simp only [b17, Bool.not_true, Bool.not_false]
              refine w_skip (n15 _ (.inl ?_))
              refine w_seq (fun Q18 n18 q18 x18 => ?_)
              refine w_blk (fun Q19 n19 q19 b19 x19 => ?_)
              obtain ⟨x2, e21, h⟩ := bindE h
              obtain ⟨x3, e22, h⟩ := bindE h
              refine w_sreg (w_abs [(0, .slice (a0.map e_impl_Equation)), (3, .int .i64 v3_14), (32, .bool (!x3))] (fun P hP => ?_) ?_)
              · simp only [W0.down, Nat.reduceEqDiff, ↓reduceIte, reduceCtorEq, Nat.reduceAdd, Nat.reduceSub, Nat.reduceMul, Nat.reduceLeDiff, Nat.reduceBEq, Nat.reduceLT, if_true, if_false, beq_self_eq_true, BEq.rfl, ne_eq, tt2, tt4, tt41, tt68, tt72, e_i64, e_impl_Equation, e21]
                refine w_call0 (ok_spec_l00Rises x2.Terms 0 (IntKind.i64.wrap ((a0.length : Int) - 1)) _ e22) rfl rfl rfl rfl (.inl rfl) ?_
                simp only [W0.down, Nat.reduceEqDiff, ↓reduceIte, reduceCtorEq, Nat.reduceAdd, Nat.reduceSub, Nat.reduceMul, Nat.reduceLeDiff, Nat.reduceBEq, Nat.reduceLT, if_true, if_false, beq_self_eq_true, BEq.rfl, ne_eq, tt2, tt4, tt41, tt68, tt72, e_i64, e_impl_Equation, e21]
                (try simp only [WN.down, Nat.reduceAdd, if_true, if_false, ↓reduceIte, tt2, tt4, tt41, tt68, tt72, e_i64, e_impl_Equation, e21] at hP)
                (try simp only [WN.down, Nat.reduceAdd, if_true, if_false, ↓reduceIte, tt2, tt4, tt41, tt68, tt72, e_i64, e_impl_Equation, e21])
                exact hP
              rcases condE h with ⟨b23, h⟩ | ⟨b23, h⟩
              · refine w_ct (congrArg AV.bool b23) ?_
                simp only [b23, Bool.not_true, Bool.not_false]
                refine w_sreg (w_abs [(2, .bool false)] (fun P hP => ?_) ?_)
                · simp only [W0.down, Nat.reduceEqDiff, ↓reduceIte, reduceCtorEq, Nat.reduceAdd, Nat.reduceSub, Nat.reduceMul, Nat.reduceLeDiff, Nat.reduceBEq, Nat.reduceLT, if_true, if_false, beq_self_eq_true, BEq.rfl, ne_eq, e_i64, e_impl_Equation]
                  (try simp only [WN.down, Nat.reduceAdd, if_true, if_false, ↓reduceIte, e_i64, e_impl_Equation] at hP)
                  (try simp only [WN.down, Nat.reduceAdd, if_true, if_false, ↓reduceIte, e_i64, e_impl_Equation])
                  exact hP
                exact w_ret (q19 _ (q18 _ (q14 _ (q13 _ (q11 _ (r0 _ (.inl (w_fin [.bool false] rfl (by cases someE h; rfl) (by decide) outs_nil))))))))
              · refine w_cf (congrArg AV.bool b23) ?_
                simp only [b23, Bool.not_true, Bool.not_false]
                refine w_skip (n19 _ (n18 _ (.inl ?_)))
                refine w_reg (w_abs [(0, .slice (a0.map e_impl_Equation)), (3, .int .i64 (IntKind.i64.wrap (v3_14 + 1)))] (fun P hP => ?_) ?_)
                · simp only [W0.down, Nat.reduceEqDiff, ↓reduceIte, reduceCtorEq, Nat.reduceAdd, Nat.reduceSub, Nat.reduceMul, Nat.reduceLeDiff, Nat.reduceBEq, Nat.reduceLT, if_true, if_false, beq_self_eq_true, BEq.rfl, ne_eq, e_i64, e_impl_Equation]
                  (try simp only [WN.down, Nat.reduceAdd, if_true, if_false, ↓reduceIte, e_i64, e_impl_Equation] at hP)
                  (try simp only [WN.down, Nat.reduceAdd, if_true, if_false, ↓reduceIte, e_i64, e_impl_Equation])
                  exact hP
                exact n14 _ (.inr ⟨_, weak_eq rfl, ih14 (IntKind.i64.wrap (v3_14 + 1)) h⟩)
            · refine w_cf (congrArg AV.bool b17) ?_
              simp only [b17, Bool.not_true, Bool.not_false]
              refine w_ex (x15 0 _ (x14 0 _ (b13 _ (n11 _ (.inl ?_)))))
              refine w_sreg (w_abs [(2, .bool true)] (fun P hP => ?_) ?_)
              · simp only [W0.down, Nat.reduceEqDiff, ↓reduceIte, reduceCtorEq, Nat.reduceAdd, Nat.reduceSub, Nat.reduceMul, Nat.reduceLeDiff, Nat.reduceBEq, Nat.reduceLT, if_true, if_false, beq_self_eq_true, BEq.rfl, ne_eq, e_i64, e_impl_Equation]
                (try simp only [WN.down, Nat.reduceAdd, if_true, if_false, ↓reduceIte, e_i64, e_impl_Equation] at hP)
                (try simp only [WN.down, Nat.reduceAdd, if_true, if_false, ↓reduceIte, e_i64, e_impl_Equation])
                exact hP
              exact w_ret (r0 _ (.inl (w_fin [.bool true] rfl (by cases someE h; rfl) (by decide) outs_nil)))
        obtain ⟨n, h⟩ := limE h
        exact w_loop (.inr ⟨_, weak_eq rfl, L14 n 0 h⟩)

theorem ok_spec_l32Number (a0 : Int) (r : (List UInt8)) (h : spec_l32Number a0 = some r) : OkAt Cc 61 [.int .i64 a0] (.str r) [] := by
  refine OkAt.of_wpQ (fx := []) Cc_ok Try.func61 rfl rfl s61 (Nat.le_of_ble_eq_true rfl) (fun Q0 r0 n0 => ?_)
  replace r0 : ∀ s, onW (Fw.Ends Cc [] [.tmp 2] (.str r) []) s → Q0 .ret s := r0
  replace n0 : ∀ s, onW (Fw.Ends Cc [] [.tmp 2] (.str r) []) s → Q0 .normal s := n0
  show wpC Cc c61 Q0 (stA [(0, .int .i64 a0)])
  refine w_sreg (w_abs [(0, .int .i64 a0)] (fun P hP => ?_) ?_)
  · simp only [W0.down, Nat.reduceEqDiff, ↓reduceIte, reduceCtorEq, Nat.reduceAdd, Nat.reduceSub, Nat.reduceMul, Nat.reduceLeDiff, Nat.reduceBEq, Nat.reduceLT, if_true, if_false, beq_self_eq_true, BEq.rfl, ne_eq]
    (try simp only [WN.down, Nat.reduceAdd, if_true, if_false, ↓reduceIte] at hP)
    (try simp only [WN.down, Nat.reduceAdd, if_true, if_false, ↓reduceIte])
    exact hP
  refine w_sreg (w_abs [(0, .int .i64 a0), (3, .uslice 1 [])] (fun P hP => ?_) ?_)
  · simp only [W0.down, Nat.reduceEqDiff, ↓reduceIte, reduceCtorEq, Nat.reduceAdd, Nat.reduceSub, Nat.reduceMul, Nat.reduceLeDiff, Nat.reduceBEq, Nat.reduceLT, if_true, if_false, beq_self_eq_true, BEq.rfl, ne_eq, tt5, tt59, byteAV, (show ∀ s, bsl Cc s 59 0 [] = some (.uslice 1 [], s) from fun s => by kernel_rfl)]
    (try simp only [WN.down, Nat.reduceAdd, if_true, if_false, ↓reduceIte, tt5, tt59, byteAV, (show ∀ s, bsl Cc s 59 0 [] = some (.uslice 1 [], s) from fun s => by kernel_rfl)] at hP)
    (try simp only [WN.down, Nat.reduceAdd, if_true, if_false, ↓reduceIte, tt5, tt59, byteAV, (show ∀ s, bsl Cc s 59 0 [] = some (.uslice 1 [], s) from fun s => by kernel_rfl)])
    exact hP
  refine w_seq (fun Q3 n3 q3 x3 => ?_)
  refine w_blk (fun Q4 n4 q4 b4 x4 => ?_)
  have L6 : ∀ (n : Nat) (v0_6 : Int) (v3_6 : List UInt8), spec_l32Number_l6 n v0_6 v3_6 = some r → lpC Cc c61_7 Q4 (stA [(0, .int .i64 v0_6), (3, .uslice 1 (v3_6.map byteAV))]) := by
    intro m6
    induction m6 with
    | zero => intro v0_6 v3_6 h; cases (show none = some r from h)
    | succ m6 ih6 =>
      intro v0_6 v3_6 h
      replace h : spec_l32Number_b6 (spec_l32Number_l6 m6) v0_6 v3_6 = some r := h
      refine lpC_step (fun Q5 n5 q5 x5 => ?_)
      refine w_seq (fun Q6 n6 q6 x6 => ?_)
      refine w_sreg (w_abs [(0, .int .i64 v0_6), (3, .uslice 1 (v3_6.map byteAV)), (6, .bool (decide (128 ≤ v0_6)))] (fun P hP => ?_) ?_)
      · simp only [W0.down, Nat.reduceEqDiff, ↓reduceIte, reduceCtorEq, Nat.reduceAdd, Nat.reduceSub, Nat.reduceMul, Nat.reduceLeDiff, Nat.reduceBEq, Nat.reduceLT, if_true, if_false, beq_self_eq_true, BEq.rfl, ne_eq, byteAV]
        (try simp only [WN.down, Nat.reduceAdd, if_true, if_false, ↓reduceIte, byteAV] at hP)
        (try simp only [WN.down, Nat.reduceAdd, if_true, if_false, ↓reduceIte, byteAV])
        exact hP
      rcases condE h with ⟨b8, h⟩ | ⟨b8, h⟩
      · refine w_ct (congrArg AV.bool b8) ?_
        simp only [b8, Bool.not_true, Bool.not_false]
        refine w_skip (n6 _ (.inl ?_))
        refine w_blk (fun Q9 n9 q9 b9 x9 => ?_)
        obtain ⟨u12, e11, h⟩ := bindE h
        (try simp only [List.length_append, List.length_cons, List.length_nil, List.length_map, List.length_replicate, Nat.zero_add, Nat.add_zero, Nat.reduceAdd] at e11)
        refine w_sreg (w_abs [(0, .int .i64 v0_6), (3, .uslice 1 ((v3_6 ++ [(toB (IntKind.i64.wrap (128 + (Int.tmod v0_6 128))))]).map byteAV))] (fun P hP => ?_) ?_)
        · simp only [W0.down, Nat.reduceEqDiff, ↓reduceIte, reduceCtorEq, Nat.reduceAdd, Nat.reduceSub, Nat.reduceMul, Nat.reduceLeDiff, Nat.reduceBEq, Nat.reduceLT, if_true, if_false, beq_self_eq_true, BEq.rfl, ne_eq, tt5, tt59, byteAV, @bnI_rem' .i64 128 (by decide), @cvt_i' Cc 2 5 .u8 rfl rfl, (show ∀ s, bsl Cc s 59 1 [(0, .int .u8 (IntKind.u8.wrap (IntKind.i64.wrap (128 + (Int.tmod v0_6 128)))))] = some (.uslice 1 [.int .u8 (IntKind.u8.wrap (IntKind.i64.wrap (128 + (Int.tmod v0_6 128))))], s) from fun s => by kernel_rfl), @apd_s Cc 59 59 5 rfl rfl, ap_s, ap2_s, ap3_s, all_cons, all_nil, e11, byte_all]
          (try simp only [WN.down, Nat.reduceAdd, if_true, if_false, ↓reduceIte, tt5, tt59, byteAV, @bnI_rem' .i64 128 (by decide), @cvt_i' Cc 2 5 .u8 rfl rfl, (show ∀ s, bsl Cc s 59 1 [(0, .int .u8 (IntKind.u8.wrap (IntKind.i64.wrap (128 + (Int.tmod v0_6 128)))))] = some (.uslice 1 [.int .u8 (IntKind.u8.wrap (IntKind.i64.wrap (128 + (Int.tmod v0_6 128))))], s) from fun s => by kernel_rfl), @apd_s Cc 59 59 5 rfl rfl, ap_s, ap2_s, ap3_s, all_cons, all_nil, e11, byte_all] at hP)
          (try simp only [WN.down, Nat.reduceAdd, if_true, if_false, ↓reduceIte, tt5, tt59, byteAV, @bnI_rem' .i64 128 (by decide), @cvt_i' Cc 2 5 .u8 rfl rfl, (show ∀ s, bsl Cc s 59 1 [(0, .int .u8 (IntKind.u8.wrap (IntKind.i64.wrap (128 + (Int.tmod v0_6 128)))))] = some (.uslice 1 [.int .u8 (IntKind.u8.wrap (IntKind.i64.wrap (128 + (Int.tmod v0_6 128))))], s) from fun s => by kernel_rfl), @apd_s Cc 59 59 5 rfl rfl, ap_s, ap2_s, ap3_s, all_cons, all_nil, e11, byte_all])
          exact hP
        refine w_reg (w_abs [(0, .int .i64 (IntKind.i64.wrap (Int.tdiv v0_6 128))), (3, .uslice 1 ((v3_6 ++ [(toB (IntKind.i64.wrap (128 + (Int.tmod v0_6 128))))]).map byteAV))] (fun P hP => ?_) ?_)
        · simp only [W0.down, Nat.reduceEqDiff, ↓reduceIte, reduceCtorEq, Nat.reduceAdd, Nat.reduceSub, Nat.reduceMul, Nat.reduceLeDiff, Nat.reduceBEq, Nat.reduceLT, if_true, if_false, beq_self_eq_true, BEq.rfl, ne_eq, byteAV, @bnI_quo' .i64 128 (by decide)]
          (try simp only [WN.down, Nat.reduceAdd, if_true, if_false, ↓reduceIte, byteAV, @bnI_quo' .i64 128 (by decide)] at hP)
          (try simp only [WN.down, Nat.reduceAdd, if_true, if_false, ↓reduceIte, byteAV, @bnI_quo' .i64 128 (by decide)])
          exact hP
        exact n9 _ (n5 _ (.inr ⟨_, weak_eq rfl, ih6 (IntKind.i64.wrap (Int.tdiv v0_6 128)) (v3_6 ++ [(toB (IntKind.i64.wrap (128 + (Int.tmod v0_6 128))))]) h⟩))
      · refine w_cf (congrArg AV.bool b8) ?_
        simp only [b8, Bool.not_true, Bool.not_false]
        refine w_ex (x6 0 _ (x5 0 _ (b4 _ (n3 _ (.inl ?_)))))
        obtain ⟨u15, e14, h⟩ := bindE h
        (try simp only [List.length_append, List.length_cons, List.length_nil, List.length_map, List.length_replicate, Nat.zero_add, Nat.add_zero, Nat.reduceAdd] at e14)
        refine w_sreg (w_abs [(3, .uslice 1 ((v3_6 ++ [(toB v0_6)]).map byteAV))] (fun P hP => ?_) ?_)
        · simp only [W0.down, Nat.reduceEqDiff, ↓reduceIte, reduceCtorEq, Nat.reduceAdd, Nat.reduceSub, Nat.reduceMul, Nat.reduceLeDiff, Nat.reduceBEq, Nat.reduceLT, if_true, if_false, beq_self_eq_true, BEq.rfl, ne_eq, tt5, tt59, byteAV, @cvt_i' Cc 2 5 .u8 rfl rfl, (show ∀ s, bsl Cc s 59 1 [(0, .int .u8 (IntKind.u8.wrap v0_6))] = some (.uslice 1 [.int .u8 (IntKind.u8.wrap v0_6)], s) from fun s => by kernel_rfl), @apd_s Cc 59 59 5 rfl rfl, ap_s, ap2_s, ap3_s, all_cons, all_nil, e14, byte_all]
          (try simp only [WN.down, Nat.reduceAdd, if_true, if_false, ↓reduceIte, tt5, tt59, byteAV, @cvt_i' Cc 2 5 .u8 rfl rfl, (show ∀ s, bsl Cc s 59 1 [(0, .int .u8 (IntKind.u8.wrap v0_6))] = some (.uslice 1 [.int .u8 (IntKind.u8.wrap v0_6)], s) from fun s => by kernel_rfl), @apd_s Cc 59 59 5 rfl rfl, ap_s, ap2_s, ap3_s, all_cons, all_nil, e14, byte_all] at hP)
          (try simp only [WN.down, Nat.reduceAdd, if_true, if_false, ↓reduceIte, tt5, tt59, byteAV, @cvt_i' Cc 2 5 .u8 rfl rfl, (show ∀ s, bsl Cc s 59 1 [(0, .int .u8 (IntKind.u8.wrap v0_6))] = some (.uslice 1 [.int .u8 (IntKind.u8.wrap v0_6)], s) from fun s => by kernel_rfl), @apd_s Cc 59 59 5 rfl rfl, ap_s, ap2_s, ap3_s, all_cons, all_nil, e14, byte_all])
          exact hP
        refine w_sreg (w_abs [(2, .str (v3_6 ++ [(toB v0_6)]))] (fun P hP => ?_) ?_)
        · simp only [W0.down, Nat.reduceEqDiff, ↓reduceIte, reduceCtorEq, Nat.reduceAdd, Nat.reduceSub, Nat.reduceMul, Nat.reduceLeDiff, Nat.reduceBEq, Nat.reduceLT, if_true, if_false, beq_self_eq_true, BEq.rfl, ne_eq, byteAV, (@cvt_bs' Cc 59 9 5 rfl rfl rfl).2.2, bytesOf_s, strU_s]
          (try simp only [WN.down, Nat.reduceAdd, if_true, if_false, ↓reduceIte, byteAV, (@cvt_bs' Cc 59 9 5 rfl rfl rfl).2.2, bytesOf_s, strU_s] at hP)
          (try simp only [WN.down, Nat.reduceAdd, if_true, if_false, ↓reduceIte, byteAV, (@cvt_bs' Cc 59 9 5 rfl rfl rfl).2.2, bytesOf_s, strU_s])
          exact hP
        exact w_ret (r0 _ (.inl (w_fin [.str (v3_6 ++ [(toB v0_6)])] rfl (by cases someE h; rfl) (by decide) outs_nil)))
  obtain ⟨n, h⟩ := limE h
  exact w_loop (.inr ⟨_, weak_eq rfl, L6 n a0 [] h⟩)

theorem ok_spec_l03Truth (a0 : Bool) (r : Int) (h : spec_l03Truth a0 = some r) : OkAt Cc 62 [.bool a0] (.int .i64 r) [] := by
  refine OkAt.of_wpQ (fx := [0]) Cc_ok Try.func62 rfl rfl s62 (Nat.le_of_ble_eq_true rfl) (fun Q0 r0 n0 => ?_)
  replace r0 : ∀ s, onW (Fw.Ends Cc [0] [.tmp 2] (.int .i64 r) []) s → Q0 .ret s := r0
  replace n0 : ∀ s, onW (Fw.Ends Cc [0] [.tmp 2] (.int .i64 r) []) s → Q0 .normal s := n0
  show wpC Cc c62 Q0 (stA [(0, .bool a0)])
  refine w_sreg (w_abs [(0, .bool a0)] (fun P hP => ?_) ?_)
  · simp only [W0.down, Nat.reduceEqDiff, ↓reduceIte, reduceCtorEq, Nat.reduceAdd, Nat.reduceSub, Nat.reduceMul, Nat.reduceLeDiff, Nat.reduceBEq, Nat.reduceLT, if_true, if_false, beq_self_eq_true, BEq.rfl, ne_eq]
    (try simp only [WN.down, Nat.reduceAdd, if_true, if_false, ↓reduceIte] at hP)
    (try simp only [WN.down, Nat.reduceAdd, if_true, if_false, ↓reduceIte])
    exact hP
  refine w_seq (fun Q2 n2 q2 x2 => ?_)
  refine w_sreg (w_abs [(3, .bool a0)] (fun P hP => ?_) ?_)
  · simp only [W0.down, Nat.reduceEqDiff, ↓reduceIte, reduceCtorEq, Nat.reduceAdd, Nat.reduceSub, Nat.reduceMul, Nat.reduceLeDiff, Nat.reduceBEq, Nat.reduceLT, if_true, if_false, beq_self_eq_true, BEq.rfl, ne_eq]
    (try simp only [WN.down, Nat.reduceAdd, if_true, if_false, ↓reduceIte] at hP)
    (try simp only [WN.down, Nat.reduceAdd, if_true, if_false, ↓reduceIte])
    exact hP
  rcases condE h with ⟨b4, h⟩ | ⟨b4, h⟩
  · refine w_ct (congrArg AV.bool b4) ?_
    simp only [b4, Bool.not_true, Bool.not_false]
    refine w_sreg (w_abs [(2, .int .i64 1)] (fun P hP => ?_) ?_)
    · simp only [W0.down, Nat.reduceEqDiff, ↓reduceIte, reduceCtorEq, Nat.reduceAdd, Nat.reduceSub, Nat.reduceMul, Nat.reduceLeDiff, Nat.reduceBEq, Nat.reduceLT, if_true, if_false, beq_self_eq_true, BEq.rfl, ne_eq]
      (try simp only [WN.down, Nat.reduceAdd, if_true, if_false, ↓reduceIte] at hP)
      (try simp only [WN.down, Nat.reduceAdd, if_true, if_false, ↓reduceIte])
      exact hP
    exact w_ret (q2 _ (r0 _ (.inl (w_fin [.int .i64 1] rfl (by cases someE h; rfl) (by decide) outs_nil))))
  · refine w_cf (congrArg AV.bool b4) ?_
    simp only [b4, Bool.not_true, Bool.not_false]
    refine w_skip (n2 _ (.inl ?_))
    refine w_sreg (w_abs [(2, .int .i64 0)] (fun P hP => ?_) ?_)
    · simp only [W0.down, Nat.reduceEqDiff, ↓reduceIte, reduceCtorEq, Nat.reduceAdd, Nat.reduceSub, Nat.reduceMul, Nat.reduceLeDiff, Nat.reduceBEq, Nat.reduceLT, if_true, if_false, beq_self_eq_true, BEq.rfl, ne_eq]
      (try simp only [WN.down, Nat.reduceAdd, if_true, if_false, ↓reduceIte] at hP)
      (try simp only [WN.down, Nat.reduceAdd, if_true, if_false, ↓reduceIte])
      exact hP
    exact w_ret (r0 _ (.inl (w_fin [.int .i64 0] rfl (by cases someE h; rfl) (by decide) outs_nil)))

theorem ok_spec_l01Crc (a0 : List UInt8) (a1 : Int) (r : Int) (h : spec_l01Crc a0 a1 = some r) : OkAt Cc 52 [.str a0, .int .i64 a1] (.int .i64 r) [] := by
  refine OkAt.of_wpQ (fx := [0]) Cc_ok Try.func52 rfl rfl s52 (Nat.le_of_ble_eq_true rfl) (fun Q0 r0 n0 => ?_)
  replace r0 : ∀ s, onW (Fw.Ends Cc [0] [.tmp 4] (.int .i64 r) []) s → Q0 .ret s := r0
  replace n0 : ∀ s, onW (Fw.Ends Cc [0] [.tmp 4] (.int .i64 r) []) s → Q0 .normal s := n0
  show wpC Cc c52 Q0 (stA [(0, .str a0), (1, .int .i64 a1)])
  refine w_sreg (w_abs [(0, .str a0), (1, .int .i64 a1)] (fun P hP => ?_) ?_)
  · simp only [W0.down, Nat.reduceEqDiff, ↓reduceIte, reduceCtorEq, Nat.reduceAdd, Nat.reduceSub, Nat.reduceMul, Nat.reduceLeDiff, Nat.reduceBEq, Nat.reduceLT, if_true, if_false, beq_self_eq_true, BEq.rfl, ne_eq]
    (try simp only [WN.down, Nat.reduceAdd, if_true, if_false, ↓reduceIte] at hP)
    (try simp only [WN.down, Nat.reduceAdd, if_true, if_false, ↓reduceIte])
    exact hP
  refine w_seq (fun Q2 n2 q2 x2 => ?_)
  refine w_sreg (w_abs [(0, .str a0), (1, .int .i64 a1), (5, .int .i64 0)] (fun P hP => ?_) ?_)
  · simp only [W0.down, Nat.reduceEqDiff, ↓reduceIte, reduceCtorEq, Nat.reduceAdd, Nat.reduceSub, Nat.reduceMul, Nat.reduceLeDiff, Nat.reduceBEq, Nat.reduceLT, if_true, if_false, beq_self_eq_true, BEq.rfl, ne_eq]
    (try simp only [WN.down, Nat.reduceAdd, if_true, if_false, ↓reduceIte] at hP)
    (try simp only [WN.down, Nat.reduceAdd, if_true, if_false, ↓reduceIte])
    exact hP
  refine w_blk (fun Q4 n4 q4 b4 x4 => ?_)
  have L6 : ∀ (n : Nat) (v1_6 : Int) (v5_6 : Int), spec_l01Crc_l6 a0 n v1_6 v5_6 = some r → lpC Cc c52_7 Q4 (stA [(0, .str a0), (1, .int .i64 v1_6), (5, .int .i64 v5_6)]) := by
    intro m6
    induction m6 with
    | zero => intro v1_6 v5_6 h; cases (show none = some r from h)
    | succ m6 ih6 =>
      intro v1_6 v5_6 h
      replace h : spec_l01Crc_b6 (spec_l01Crc_l6 a0 m6) a0 v1_6 v5_6 = some r := h
      refine lpC_step (fun Q5 n5 q5 x5 => ?_)
      refine w_seq (fun Q6 n6 q6 x6 => ?_)
      refine w_sreg (w_abs [(0, .str a0), (1, .int .i64 v1_6), (5, .int .i64 v5_6), (10, .bool (decide (v5_6 < (a0.length : Int))))] (fun P hP => ?_) ?_)
      · simp only [W0.down, Nat.reduceEqDiff, ↓reduceIte, reduceCtorEq, Nat.reduceAdd, Nat.reduceSub, Nat.reduceMul, Nat.reduceLeDiff, Nat.reduceBEq, Nat.reduceLT, if_true, if_false, beq_self_eq_true, BEq.rfl, ne_eq, tt9]
        (try simp only [WN.down, Nat.reduceAdd, if_true, if_false, ↓reduceIte, tt9] at hP)
        (try simp only [WN.down, Nat.reduceAdd, if_true, if_false, ↓reduceIte, tt9])
        exact hP
      rcases condE h with ⟨b8, h⟩ | ⟨b8, h⟩
      · refine w_ct (congrArg AV.bool b8) ?_
        simp only [b8, Bool.not_true, Bool.not_false]
        refine w_skip (n6 _ (.inl ?_))
        refine w_seq (fun Q9 n9 q9 x9 => ?_)
        refine w_blk (fun Q10 n10 q10 b10 x10 => ?_)
        obtain ⟨x1, e12, h⟩ := bindE h
        refine w_sreg (w_abs [(0, .str a0), (1, .int .i64 (bitsOf .xor .i64 v1_6 (IntKind.i64.wrap ((x1.toNat : Int) * 2 ^ (min (Int.toNat 8) 64))))), (5, .int .i64 v5_6)] (fun P hP => ?_) ?_)
        · simp only [W0.down, Nat.reduceEqDiff, ↓reduceIte, reduceCtorEq, Nat.reduceAdd, Nat.reduceSub, Nat.reduceMul, Nat.reduceLeDiff, Nat.reduceBEq, Nat.reduceLT, if_true, if_false, beq_self_eq_true, BEq.rfl, ne_eq, tt9, e12, @cvt_i' Cc 5 2 .i64 rfl rfl, @bnI_shl' .i64 .u64 8 (by decide)]
          (try simp only [WN.down, Nat.reduceAdd, if_true, if_false, ↓reduceIte, tt9, e12, @cvt_i' Cc 5 2 .i64 rfl rfl, @bnI_shl' .i64 .u64 8 (by decide)] at hP)
          (try simp only [WN.down, Nat.reduceAdd, if_true, if_false, ↓reduceIte, tt9, e12, @cvt_i' Cc 5 2 .i64 rfl rfl, @bnI_shl' .i64 .u64 8 (by decide)])
          exact hP
        refine w_sreg (w_abs [(0, .str a0), (1, .int .i64 (bitsOf .xor .i64 v1_6 (IntKind.i64.wrap ((x1.toNat : Int) * 2 ^ (min (Int.toNat 8) 64))))), (5, .int .i64 v5_6), (6, .int .i64 0)] (fun P hP => ?_) ?_)
        · simp only [W0.down, Nat.reduceEqDiff, ↓reduceIte, reduceCtorEq, Nat.reduceAdd, Nat.reduceSub, Nat.reduceMul, Nat.reduceLeDiff, Nat.reduceBEq, Nat.reduceLT, if_true, if_false, beq_self_eq_true, BEq.rfl, ne_eq]
          (try simp only [WN.down, Nat.reduceAdd, if_true, if_false, ↓reduceIte] at hP)
          (try simp only [WN.down, Nat.reduceAdd, if_true, if_false, ↓reduceIte])
          exact hP
        refine w_blk (fun Q14 n14 q14 b14 x14 => ?_)
        have L20 : ∀ (n : Nat) (v1_20 : Int) (v5_20 : Int) (v6_20 : Int), spec_l01Crc_l20 (spec_l01Crc_l6 a0 m6) a0 n v1_20 v5_20 v6_20 = some r → lpC Cc c52_21 Q14 (stA [(0, .str a0), (1, .int .i64 v1_20), (5, .int .i64 v5_20), (6, .int .i64 v6_20)]) := by
          intro m20
          induction m20 with
          | zero => intro v1_20 v5_20 v6_20 h; cases (show none = some r from h)
          | succ m20 ih20 =>
            intro v1_20 v5_20 v6_20 h
            replace h : spec_l01Crc_b20 (spec_l01Crc_l6 a0 m6) (spec_l01Crc_l20 (spec_l01Crc_l6 a0 m6) a0 m20) a0 v1_20 v5_20 v6_20 = some r := h
            refine lpC_step (fun Q15 n15 q15 x15 => ?_)
            refine w_seq (fun Q16 n16 q16 x16 => ?_)
            refine w_sreg (w_abs [(0, .str a0), (1, .int .i64 v1_20), (5, .int .i64 v5_20), (6, .int .i64 v6_20), (21, .bool (decide (v6_20 < 8)))] (fun P hP => ?_) ?_)
            · simp only [W0.down, Nat.reduceEqDiff, ↓reduceIte, reduceCtorEq, Nat.reduceAdd, Nat.reduceSub, Nat.reduceMul, Nat.reduceLeDiff, Nat.reduceBEq, Nat.reduceLT, if_true, if_false, beq_self_eq_true, BEq.rfl, ne_eq]
              (try simp only [WN.down, Nat.reduceAdd, if_true, if_false, ↓reduceIte] at hP)
              (try simp only [WN.down, Nat.reduceAdd, if_true, if_false, ↓reduceIte])
              exact hP
            rcases condE h with ⟨b18, h⟩ | ⟨b18, h⟩
            · refine w_ct (congrArg AV.bool b18) ?_
              simp only [b18, Bool.not_true, Bool.not_false]
              refine w_skip (n16 _ (.inl ?_))
              have K36 : ∀ (v1_36 : Int) (v5_36 : Int) (v6_36 : Int), spec_l01Crc_k36 (spec_l01Crc_l6 a0 m6) (spec_l01Crc_l20 (spec_l01Crc_l6 a0 m6) a0 m20) a0 v1_36 v5_36 v6_36 = some r → wpC Cc c52_36 Q15 (stA [(0, .str a0), (1, .int .i64 v1_36), (5, .int .i64 v5_36), (6, .int .i64 v6_36)]) := by
                intro v1_36 v5_36 v6_36 h
                refine w_reg (w_abs [(0, .str a0), (1, .int .i64 v1_36), (5, .int .i64 v5_36), (6, .int .i64 (IntKind.i64.wrap (v6_36 + 1)))] (fun P hP => ?_) ?_)
                · simp only [W0.down, Nat.reduceEqDiff, ↓reduceIte, reduceCtorEq, Nat.reduceAdd, Nat.reduceSub, Nat.reduceMul, Nat.reduceLeDiff, Nat.reduceBEq, Nat.reduceLT, if_true, if_false, beq_self_eq_true, BEq.rfl, ne_eq]
                  (try simp only [WN.down, Nat.reduceAdd, if_true, if_false, ↓reduceIte] at hP)
                  (try simp only [WN.down, Nat.reduceAdd, if_true, if_false, ↓reduceIte])
                  exact hP
                exact n15 _ (.inr ⟨_, weak_eq rfl, ih20 v1_36 v5_36 (IntKind.i64.wrap (v6_36 + 1)) h⟩)
              refine w_seq (fun Q19 n19 q19 x19 => ?_)
              refine w_blk (fun Q21 n21 q21 b21 x21 => ?_)
              refine w_sreg (w_abs [(0, .str a0), (1, .int .i64 (IntKind.i64.wrap (v1_20 * 2 ^ (min (Int.toNat 1) 64)))), (5, .int .i64 v5_20), (6, .int .i64 v6_20)] (fun P hP => ?_) ?_)
              · simp only [W0.down, Nat.reduceEqDiff, ↓reduceIte, reduceCtorEq, Nat.reduceAdd, Nat.reduceSub, Nat.reduceMul, Nat.reduceLeDiff, Nat.reduceBEq, Nat.reduceLT, if_true, if_false, beq_self_eq_true, BEq.rfl, ne_eq, @bnI_shl' .i64 .u64 1 (by decide)]
                (try simp only [WN.down, Nat.reduceAdd, if_true, if_false, ↓reduceIte, @bnI_shl' .i64 .u64 1 (by decide)] at hP)
                (try simp only [WN.down, Nat.reduceAdd, if_true, if_false, ↓reduceIte, @bnI_shl' .i64 .u64 1 (by decide)])
                exact hP
              refine w_sreg (w_abs [(0, .str a0), (1, .int .i64 (IntKind.i64.wrap (v1_20 * 2 ^ (min (Int.toNat 1) 64)))), (5, .int .i64 v5_20), (6, .int .i64 v6_20), (27, .bool (decide (65535 < (IntKind.i64.wrap (v1_20 * 2 ^ (min (Int.toNat 1) 64))))))] (fun P hP => ?_) ?_)
              · simp only [W0.down, Nat.reduceEqDiff, ↓reduceIte, reduceCtorEq, Nat.reduceAdd, Nat.reduceSub, Nat.reduceMul, Nat.reduceLeDiff, Nat.reduceBEq, Nat.reduceLT, if_true, if_false, beq_self_eq_true, BEq.rfl, ne_eq]
                (try simp only [WN.down, Nat.reduceAdd, if_true, if_false, ↓reduceIte] at hP)
                (try simp only [WN.down, Nat.reduceAdd, if_true, if_false, ↓reduceIte])
                exact hP
              rcases condE h with ⟨b24, h⟩ | ⟨b24, h⟩
              · refine w_ct (congrArg AV.bool b24) ?_
                simp only [b24, Bool.not_true, Bool.not_false]
                refine w_reg (w_abs [(0, .str a0), (1, .int .i64 (bitsOf .xor .i64 (bitsOf .and .i64 (IntKind.i64.wrap (v1_20 * 2 ^ (min (Int.toNat 1) 64))) 65535) 4129)), (5, .int .i64 v5_20), (6, .int .i64 v6_20)] (fun P hP => ?_) ?_)
                · simp only [W0.down, Nat.reduceEqDiff, ↓reduceIte, reduceCtorEq, Nat.reduceAdd, Nat.reduceSub, Nat.reduceMul, Nat.reduceLeDiff, Nat.reduceBEq, Nat.reduceLT, if_true, if_false, beq_self_eq_true, BEq.rfl, ne_eq]
                  (try simp only [WN.down, Nat.reduceAdd, if_true, if_false, ↓reduceIte] at hP)
                  (try simp only [WN.down, Nat.reduceAdd, if_true, if_false, ↓reduceIte])
                  exact hP
                exact n21 _ (n19 _ (.inr ⟨_, weak_eq rfl, K36 (bitsOf .xor .i64 (bitsOf .and .i64 (IntKind.i64.wrap (v1_20 * 2 ^ (min (Int.toNat 1) 64))) 65535) 4129) v5_20 v6_20 h⟩))
              · refine w_cf (congrArg AV.bool b24) ?_
                simp only [b24, Bool.not_true, Bool.not_false]
                exact w_skip (n21 _ (n19 _ (.inr ⟨_, weak_eq rfl, K36 (IntKind.i64.wrap (v1_20 * 2 ^ (min (Int.toNat 1) 64))) v5_20 v6_20 h⟩)))
            · refine w_cf (congrArg AV.bool b18) ?_
              simp only [b18, Bool.not_true, Bool.not_false]
              refine w_ex (x16 2 _ (x15 2 _ (b14 _ (n10 _ (n9 _ (.inl ?_))))))
              refine w_reg (w_abs [(0, .str a0), (1, .int .i64 v1_20), (5, .int .i64 (IntKind.i64.wrap (v5_20 + 1)))] (fun P hP => ?_) ?_)
              · simp only [W0.down, Nat.reduceEqDiff, ↓reduceIte, reduceCtorEq, Nat.reduceAdd, Nat.reduceSub, Nat.reduceMul, Nat.reduceLeDiff, Nat.reduceBEq, Nat.reduceLT, if_true, if_false, beq_self_eq_true, BEq.rfl, ne_eq]
                (try simp only [WN.down, Nat.reduceAdd, if_true, if_false, ↓reduceIte] at hP)
                (try simp only [WN.down, Nat.reduceAdd, if_true, if_false, ↓reduceIte])
                exact hP
              exact n5 _ (.inr ⟨_, weak_eq rfl, ih6 v1_20 (IntKind.i64.wrap (v5_20 + 1)) h⟩)
        obtain ⟨n, h⟩ := limE h
        exact w_loop (.inr ⟨_, weak_eq rfl, L20 n (bitsOf .xor .i64 v1_6 (IntKind.i64.wrap ((x1.toNat : Int) * 2 ^ (min (Int.toNat 8) 64)))) v5_6 0 h⟩)
      · refine w_cf (congrArg AV.bool b8) ?_
        simp only [b8, Bool.not_true, Bool.not_false]
        refine w_ex (x6 0 _ (x5 0 _ (b4 _ (n2 _ (.inl ?_)))))
        refine w_sreg (w_abs [(4, .int .i64 v1_6)] (fun P hP => ?_) ?_)
        · simp only [W0.down, Nat.reduceEqDiff, ↓reduceIte, reduceCtorEq, Nat.reduceAdd, Nat.reduceSub, Nat.reduceMul, Nat.reduceLeDiff, Nat.reduceBEq, Nat.reduceLT, if_true, if_false, beq_self_eq_true, BEq.rfl, ne_eq]
          (try simp only [WN.down, Nat.reduceAdd, if_true, if_false, ↓reduceIte] at hP)
          (try simp only [WN.down, Nat.reduceAdd, if_true, if_false, ↓reduceIte])
          exact hP
        exact w_ret (r0 _ (.inl (w_fin [.int .i64 v1_6] rfl (by cases someE h; rfl) (by decide) outs_nil)))
  obtain ⟨n, h⟩ := limE h
  exact w_loop (.inr ⟨_, weak_eq rfl, L6 n a1 0 h⟩)

theorem ok_spec_l32Seal (a0 : Int) (a1 : List UInt8) (r : (List UInt8)) (h : spec_l32Seal a0 a1 = some r) : OkAt Cc 63 [.int .i64 a0, .str a1] (.str r) [] := by
  refine OkAt.of_wpQ (fx := [0, 1]) Cc_ok Try.func63 rfl rfl s63 (Nat.le_of_ble_eq_true rfl) (fun Q0 r0 n0 => ?_)
  replace r0 : ∀ s, onW (Fw.Ends Cc [0, 1] [.tmp 4] (.str r) []) s → Q0 .ret s := r0
  replace n0 : ∀ s, onW (Fw.Ends Cc [0, 1] [.tmp 4] (.str r) []) s → Q0 .normal s := n0
  show wpC Cc c63 Q0 (stA [(0, .int .i64 a0), (1, .str a1)])
  refine w_sreg (w_abs [(0, .int .i64 a0), (1, .str a1)] (fun P hP => ?_) ?_)
  · simp only [W0.down, Nat.reduceEqDiff, ↓reduceIte, reduceCtorEq, Nat.reduceAdd, Nat.reduceSub, Nat.reduceMul, Nat.reduceLeDiff, Nat.reduceBEq, Nat.reduceLT, if_true, if_false, beq_self_eq_true, BEq.rfl, ne_eq]
    (try simp only [WN.down, Nat.reduceAdd, if_true, if_false, ↓reduceIte] at hP)
    (try simp only [WN.down, Nat.reduceAdd, if_true, if_false, ↓reduceIte])
    exact hP
  obtain ⟨u11, e3, h⟩ := bindE h
  (try simp only [List.length_append, List.length_cons, List.length_nil, List.length_map, List.length_replicate, Nat.zero_add, Nat.add_zero, Nat.reduceAdd] at e3)
  refine w_sreg (w_abs [(5, .str ([(toB a0)] ++ a1))] (fun P hP => ?_) ?_)
  · simp only [W0.down, Nat.reduceEqDiff, ↓reduceIte, reduceCtorEq, Nat.reduceAdd, Nat.reduceSub, Nat.reduceMul, Nat.reduceLeDiff, Nat.reduceBEq, Nat.reduceLT, if_true, if_false, beq_self_eq_true, BEq.rfl, ne_eq, tt5, tt59, byteAV, @cvt_i' Cc 2 5 .u8 rfl rfl, (show ∀ s, bsl Cc s 59 1 [(0, .int .u8 (IntKind.u8.wrap a0))] = some (.uslice 1 [.int .u8 (IntKind.u8.wrap a0)], s) from fun s => by kernel_rfl), (@cvt_bs' Cc 59 9 5 rfl rfl rfl).2.2, bytesOf_s, strU_s, e3, bnS_cat, addR_s]
    (try simp only [WN.down, Nat.reduceAdd, if_true, if_false, ↓reduceIte, tt5, tt59, byteAV, @cvt_i' Cc 2 5 .u8 rfl rfl, (show ∀ s, bsl Cc s 59 1 [(0, .int .u8 (IntKind.u8.wrap a0))] = some (.uslice 1 [.int .u8 (IntKind.u8.wrap a0)], s) from fun s => by kernel_rfl), (@cvt_bs' Cc 59 9 5 rfl rfl rfl).2.2, bytesOf_s, strU_s, e3, bnS_cat, addR_s] at hP)
    (try simp only [WN.down, Nat.reduceAdd, if_true, if_false, ↓reduceIte, tt5, tt59, byteAV, @cvt_i' Cc 2 5 .u8 rfl rfl, (show ∀ s, bsl Cc s 59 1 [(0, .int .u8 (IntKind.u8.wrap a0))] = some (.uslice 1 [.int .u8 (IntKind.u8.wrap a0)], s) from fun s => by kernel_rfl), (@cvt_bs' Cc 59 9 5 rfl rfl rfl).2.2, bytesOf_s, strU_s, e3, bnS_cat, addR_s])
    exact hP
  refine w_seq (fun Q4 n4 q4 x4 => ?_)
  refine w_sreg (w_abs [(5, .str ([(toB a0)] ++ a1)), (16, .bool (decide (6000 < (IntKind.i64.wrap ((([(toB a0)] ++ a1).length : Int) + 2)))))] (fun P hP => ?_) ?_)
  · simp only [W0.down, Nat.reduceEqDiff, ↓reduceIte, reduceCtorEq, Nat.reduceAdd, Nat.reduceSub, Nat.reduceMul, Nat.reduceLeDiff, Nat.reduceBEq, Nat.reduceLT, if_true, if_false, beq_self_eq_true, BEq.rfl, ne_eq, tt9]
    (try simp only [WN.down, Nat.reduceAdd, if_true, if_false, ↓reduceIte, tt9] at hP)
    (try simp only [WN.down, Nat.reduceAdd, if_true, if_false, ↓reduceIte, tt9])
    exact hP
  rcases condE h with ⟨b6, h⟩ | ⟨b6, h⟩
  · refine w_ct (congrArg AV.bool b6) ?_
    simp only [b6, Bool.not_true, Bool.not_false]
    refine w_sreg (w_abs [(4, .str ([] : List UInt8))] (fun P hP => ?_) ?_)
    · simp only [W0.down, Nat.reduceEqDiff, ↓reduceIte, reduceCtorEq, Nat.reduceAdd, Nat.reduceSub, Nat.reduceMul, Nat.reduceLeDiff, Nat.reduceBEq, Nat.reduceLT, if_true, if_false, beq_self_eq_true, BEq.rfl, ne_eq]
      (try simp only [WN.down, Nat.reduceAdd, if_true, if_false, ↓reduceIte] at hP)
      (try simp only [WN.down, Nat.reduceAdd, if_true, if_false, ↓reduceIte])
      exact hP
    exact w_ret (q4 _ (r0 _ (.inl (w_fin [.str ([] : List UInt8)] rfl (by cases someE h; rfl) (by decide) outs_nil))))
  · refine w_cf (congrArg AV.bool b6) ?_
    simp only [b6, Bool.not_true, Bool.not_false]
    refine w_skip (n4 _ (.inl ?_))
    obtain ⟨x1, e9, h⟩ := bindE h
    refine w_sreg (w_abs [(5, .str ([(toB a0)] ++ a1)), (6, .int .i64 x1)] (fun P hP => ?_) ?_)
    · simp only [W0.down, Nat.reduceEqDiff, ↓reduceIte, reduceCtorEq, Nat.reduceAdd, Nat.reduceSub, Nat.reduceMul, Nat.reduceLeDiff, Nat.reduceBEq, Nat.reduceLT, if_true, if_false, beq_self_eq_true, BEq.rfl, ne_eq]
      refine w_call0 (ok_spec_l01Crc ([(toB a0)] ++ a1) 65535 _ e9) rfl rfl rfl rfl (.inl rfl) ?_
      simp only [W0.down, Nat.reduceEqDiff, ↓reduceIte, reduceCtorEq, Nat.reduceAdd, Nat.reduceSub, Nat.reduceMul, Nat.reduceLeDiff, Nat.reduceBEq, Nat.reduceLT, if_true, if_false, beq_self_eq_true, BEq.rfl, ne_eq]
      (try simp only [WN.down, Nat.reduceAdd, if_true, if_false, ↓reduceIte] at hP)
      (try simp only [WN.down, Nat.reduceAdd, if_true, if_false, ↓reduceIte])
      exact hP
    obtain ⟨u11, e11, h⟩ := bindE h
    (try simp only [List.length_append, List.length_cons, List.length_nil, List.length_map, List.length_replicate, Nat.zero_add, Nat.add_zero, Nat.reduceAdd] at e11)
    refine w_sreg (w_abs [(4, .str (([(toB a0)] ++ a1) ++ [(toB (IntKind.i64.wrap (Int.tdiv x1 256))), (toB (Int.tmod x1 256))]))] (fun P hP => ?_) ?_)
    · simp only [W0.down, Nat.reduceEqDiff, ↓reduceIte, reduceCtorEq, Nat.reduceAdd, Nat.reduceSub, Nat.reduceMul, Nat.reduceLeDiff, Nat.reduceBEq, Nat.reduceLT, if_true, if_false, beq_self_eq_true, BEq.rfl, ne_eq, tt5, tt59, byteAV, @bnI_quo' .i64 256 (by decide), @cvt_i' Cc 2 5 .u8 rfl rfl, @bnI_rem' .i64 256 (by decide), (show ∀ s, bsl Cc s 59 2 [(0, .int .u8 (IntKind.u8.wrap (IntKind.i64.wrap (Int.tdiv x1 256)))), (1, .int .u8 (IntKind.u8.wrap (Int.tmod x1 256)))] = some (.uslice 1 [.int .u8 (IntKind.u8.wrap (IntKind.i64.wrap (Int.tdiv x1 256))), .int .u8 (IntKind.u8.wrap (Int.tmod x1 256))], s) from fun s => by kernel_rfl), (@cvt_bs' Cc 59 9 5 rfl rfl rfl).2.2, bytesOf_s, strU_s, e11, bnS_cat, addR_s]
      (try simp only [WN.down, Nat.reduceAdd, if_true, if_false, ↓reduceIte, tt5, tt59, byteAV, @bnI_quo' .i64 256 (by decide), @cvt_i' Cc 2 5 .u8 rfl rfl, @bnI_rem' .i64 256 (by decide), (show ∀ s, bsl Cc s 59 2 [(0, .int .u8 (IntKind.u8.wrap (IntKind.i64.wrap (Int.tdiv x1 256)))), (1, .int .u8 (IntKind.u8.wrap (Int.tmod x1 256)))] = some (.uslice 1 [.int .u8 (IntKind.u8.wrap (IntKind.i64.wrap (Int.tdiv x1 256))), .int .u8 (IntKind.u8.wrap (Int.tmod x1 256))], s) from fun s => by kernel_rfl), (@cvt_bs' Cc 59 9 5 rfl rfl rfl).2.2, bytesOf_s, strU_s, e11, bnS_cat, addR_s] at hP)
      (try simp only [WN.down, Nat.reduceAdd, if_true, if_false, ↓reduceIte, tt5, tt59, byteAV, @bnI_quo' .i64 256 (by decide), @cvt_i' Cc 2 5 .u8 rfl rfl, @bnI_rem' .i64 256 (by decide), (show ∀ s, bsl Cc s 59 2 [(0, .int .u8 (IntKind.u8.wrap (IntKind.i64.wrap (Int.tdiv x1 256)))), (1, .int .u8 (IntKind.u8.wrap (Int.tmod x1 256)))] = some (.uslice 1 [.int .u8 (IntKind.u8.wrap (IntKind.i64.wrap (Int.tdiv x1 256))), .int .u8 (IntKind.u8.wrap (Int.tmod x1 256))], s) from fun s => by kernel_rfl), (@cvt_bs' Cc 59 9 5 rfl rfl rfl).2.2, bytesOf_s, strU_s, e11, bnS_cat, addR_s])
      exact hP
    exact w_ret (r0 _ (.inl (w_fin [.str (([(toB a0)] ++ a1) ++ [(toB (IntKind.i64.wrap (Int.tdiv x1 256))), (toB (Int.tmod x1 256))])] rfl (by cases someE h; rfl) (by decide) outs_nil)))

theorem ok_spec_l32Equations (a0 : List impl_Equation) (r : (List UInt8)) (h : spec_l32Equations a0 = some r) : OkAt Cc 45 [.slice (a0.map e_impl_Equation)] (.str r) [] := by
  refine OkAt.of_wpQ (fx := [0]) Cc_ok Try.func45 rfl rfl s45 (Nat.le_of_ble_eq_true rfl) (fun Q0 r0 n0 => ?_)
  replace r0 : ∀ s, onW (Fw.Ends Cc [0] [.tmp 2] (.str r) []) s → Q0 .ret s := r0
  replace n0 : ∀ s, onW (Fw.Ends Cc [0] [.tmp 2] (.str r) []) s → Q0 .normal s := n0
  show wpC Cc c45 Q0 (stA [(0, .slice (a0.map e_impl_Equation))])
  refine w_sreg (w_abs [(0, .slice (a0.map e_impl_Equation))] (fun P hP => ?_) ?_)
  · simp only [W0.down, Nat.reduceEqDiff, ↓reduceIte, reduceCtorEq, Nat.reduceAdd, Nat.reduceSub, Nat.reduceMul, Nat.reduceLeDiff, Nat.reduceBEq, Nat.reduceLT, if_true, if_false, beq_self_eq_true, BEq.rfl, ne_eq, e_i64, e_impl_Equation]
    (try simp only [WN.down, Nat.reduceAdd, if_true, if_false, ↓reduceIte, e_i64, e_impl_Equation] at hP)
    (try simp only [WN.down, Nat.reduceAdd, if_true, if_false, ↓reduceIte, e_i64, e_impl_Equation])
    exact hP
  obtain ⟨x1, e3, h⟩ := bindE h
  refine w_sreg (w_abs [(0, .slice (a0.map e_impl_Equation)), (3, .str x1)] (fun P hP => ?_) ?_)
  · simp only [W0.down, Nat.reduceEqDiff, ↓reduceIte, reduceCtorEq, Nat.reduceAdd, Nat.reduceSub, Nat.reduceMul, Nat.reduceLeDiff, Nat.reduceBEq, Nat.reduceLT, if_true, if_false, beq_self_eq_true, BEq.rfl, ne_eq, tt2, tt4, tt41, tt68, tt72, e_i64, e_impl_Equation]
    refine w_call0 (ok_spec_l32Number (a0.length : Int) _ e3) rfl rfl rfl rfl (.inl rfl) ?_
    simp only [W0.down, Nat.reduceEqDiff, ↓reduceIte, reduceCtorEq, Nat.reduceAdd, Nat.reduceSub, Nat.reduceMul, Nat.reduceLeDiff, Nat.reduceBEq, Nat.reduceLT, if_true, if_false, beq_self_eq_true, BEq.rfl, ne_eq, tt2, tt4, tt41, tt68, tt72, e_i64, e_impl_Equation]
    (try simp only [WN.down, Nat.reduceAdd, if_true, if_false, ↓reduceIte, tt2, tt4, tt41, tt68, tt72, e_i64, e_impl_Equation] at hP)
    (try simp only [WN.down, Nat.reduceAdd, if_true, if_false, ↓reduceIte, tt2, tt4, tt41, tt68, tt72, e_i64, e_impl_Equation])
    exact hP
  refine w_seq (fun Q4 n4 q4 x4 => ?_)
  refine w_sreg (w_abs [(0, .slice (a0.map e_impl_Equation)), (3, .str x1), (4, .int .i64 0)] (fun P hP => ?_) ?_)
  · simp only [W0.down, Nat.reduceEqDiff, ↓reduceIte, reduceCtorEq, Nat.reduceAdd, Nat.reduceSub, Nat.reduceMul, Nat.reduceLeDiff, Nat.reduceBEq, Nat.reduceLT, if_true, if_false, beq_self_eq_true, BEq.rfl, ne_eq, e_i64, e_impl_Equation]
    (try simp only [WN.down, Nat.reduceAdd, if_true, if_false, ↓reduceIte, e_i64, e_impl_Equation] at hP)
    (try simp only [WN.down, Nat.reduceAdd, if_true, if_false, ↓reduceIte, e_i64, e_impl_Equation])
    exact hP
  refine w_blk (fun Q6 n6 q6 b6 x6 => ?_)
  have L8 : ∀ (n : Nat) (v3_8 : List UInt8) (v4_8 : Int), spec_l32Equations_l8 a0 n v3_8 v4_8 = some r → lpC Cc c45_9 Q6 (stA [(0, .slice (a0.map e_impl_Equation)), (3, .str v3_8), (4, .int .i64 v4_8)]) := by
    intro m8
    induction m8 with
    | zero => intro v3_8 v4_8 h; cases (show none = some r from h)
    | succ m8 ih8 =>
      intro v3_8 v4_8 h
      replace h : spec_l32Equations_b8 (spec_l32Equations_l8 a0 m8) a0 v3_8 v4_8 = some r := h
      refine lpC_step (fun Q7 n7 q7 x7 => ?_)
      refine w_seq (fun Q8 n8 q8 x8 => ?_)
      refine w_sreg (w_abs [(0, .slice (a0.map e_impl_Equation)), (3, .str v3_8), (4, .int .i64 v4_8), (12, .bool (decide (v4_8 < (a0.length : Int))))] (fun P hP => ?_) ?_)
      · simp only [W0.down, Nat.reduceEqDiff, ↓reduceIte, reduceCtorEq, Nat.reduceAdd, Nat.reduceSub, Nat.reduceMul, Nat.reduceLeDiff, Nat.reduceBEq, Nat.reduceLT, if_true, if_false, beq_self_eq_true, BEq.rfl, ne_eq, tt2, tt4, tt41, tt68, tt72, e_i64, e_impl_Equation]
        (try simp only [WN.down, Nat.reduceAdd, if_true, if_false, ↓reduceIte, tt2, tt4, tt41, tt68, tt72, e_i64, e_impl_Equation] at hP)
        (try simp only [WN.down, Nat.reduceAdd, if_true, if_false, ↓reduceIte, tt2, tt4, tt41, tt68, tt72, e_i64, e_impl_Equation])
        exact hP
      rcases condE h with ⟨b10, h⟩ | ⟨b10, h⟩
      · refine w_ct (congrArg AV.bool b10) ?_
        simp only [b10, Bool.not_true, Bool.not_false]
        refine w_skip (n8 _ (.inl ?_))
        refine w_seq (fun Q11 n11 q11 x11 => ?_)
        refine w_blk (fun Q12 n12 q12 b12 x12 => ?_)
        obtain ⟨x2, e14, h⟩ := bindE h
        obtain ⟨x3, e15, h⟩ := bindE h
        obtain ⟨x4, e16, h⟩ := bindE h
        obtain ⟨x5, e17, h⟩ := bindE h
        obtain ⟨x6, e18, h⟩ := bindE h
        obtain ⟨u39, e19, h⟩ := bindE h
        (try simp only [List.length_append, List.length_cons, List.length_nil, List.length_map, List.length_replicate, Nat.zero_add, Nat.add_zero, Nat.reduceAdd] at e19)
        obtain ⟨u39, e20, h⟩ := bindE h
        (try simp only [List.length_append, List.length_cons, List.length_nil, List.length_map, List.length_replicate, Nat.zero_add, Nat.add_zero, Nat.reduceAdd] at e20)
        refine w_sdrw rfl (w_absd [(0, .slice (a0.map e_impl_Equation)), (3, .str (v3_8 ++ (x5 ++ x6))), (4, .int .i64 v4_8)] (fun P hP => ?_) ?_)
        · simp only [W1.down, Nat.reduceEqDiff, ↓reduceIte, reduceCtorEq, Nat.reduceAdd, Nat.reduceSub, Nat.reduceMul, Nat.reduceLeDiff, Nat.reduceBEq, Nat.reduceLT, if_true, if_false, beq_self_eq_true, BEq.rfl, ne_eq, tt2, tt4, tt41, tt68, tt72, e_i64, e_impl_Equation, e14, e19, bnS_cat, addR_s, e20]
          refine w_call1 (ok_spec_l03Truth x2.Greatest _ e15) rfl rfl rfl rfl (.inl rfl) ?_
          simp only [W1.down, Nat.reduceEqDiff, ↓reduceIte, reduceCtorEq, Nat.reduceAdd, Nat.reduceSub, Nat.reduceMul, Nat.reduceLeDiff, Nat.reduceBEq, Nat.reduceLT, if_true, if_false, beq_self_eq_true, BEq.rfl, ne_eq, tt2, tt4, tt41, tt68, tt72, e_i64, e_impl_Equation, e14, e19, bnS_cat, addR_s, e20]
          refine w_call1 (ok_spec_l03Truth x2.All _ e16) rfl rfl rfl rfl (.inl rfl) ?_
          simp only [W1.down, Nat.reduceEqDiff, ↓reduceIte, reduceCtorEq, Nat.reduceAdd, Nat.reduceSub, Nat.reduceMul, Nat.reduceLeDiff, Nat.reduceBEq, Nat.reduceLT, if_true, if_false, beq_self_eq_true, BEq.rfl, ne_eq, tt2, tt4, tt41, tt68, tt72, e_i64, e_impl_Equation, e14, e19, bnS_cat, addR_s, e20]
          refine w_call1 (ok_spec_l32Number (IntKind.i64.wrap (x3 + (IntKind.i64.wrap (2 * x4)))) _ e17) rfl rfl rfl rfl (.inl rfl) ?_
          simp only [W1.down, Nat.reduceEqDiff, ↓reduceIte, reduceCtorEq, Nat.reduceAdd, Nat.reduceSub, Nat.reduceMul, Nat.reduceLeDiff, Nat.reduceBEq, Nat.reduceLT, if_true, if_false, beq_self_eq_true, BEq.rfl, ne_eq, tt2, tt4, tt41, tt68, tt72, e_i64, e_impl_Equation, e14, e19, bnS_cat, addR_s, e20]
          refine w_call1 (ok_spec_l32Number (x2.Terms.length : Int) _ e18) rfl rfl rfl rfl (.inl rfl) ?_
          simp only [W1.down, Nat.reduceEqDiff, ↓reduceIte, reduceCtorEq, Nat.reduceAdd, Nat.reduceSub, Nat.reduceMul, Nat.reduceLeDiff, Nat.reduceBEq, Nat.reduceLT, if_true, if_false, beq_self_eq_true, BEq.rfl, ne_eq, tt2, tt4, tt41, tt68, tt72, e_i64, e_impl_Equation, e14, e19, bnS_cat, addR_s, e20]
          refine ⟨by kernel_rfl, ?_⟩
          (try simp only [WN.down, Nat.reduceAdd, if_true, if_false, ↓reduceIte, tt2, tt4, tt41, tt68, tt72, e_i64, e_impl_Equation, e14, e19, bnS_cat, addR_s, e20] at hP)
          (try simp only [WN.down, Nat.reduceAdd, if_true, if_false, ↓reduceIte, tt2, tt4, tt41, tt68, tt72, e_i64, e_impl_Equation, e14, e19, bnS_cat, addR_s, e20])
          exact hP
        refine w_seq (fun Q21 n21 q21 x21 => ?_)
        refine w_sreg (w_abs [(0, .slice (a0.map e_impl_Equation)), (3, .str (v3_8 ++ (x5 ++ x6))), (4, .int .i64 v4_8), (5, .int .i64 0)] (fun P hP => ?_) ?_)
        · simp only [W0.down, Nat.reduceEqDiff, ↓reduceIte, reduceCtorEq, Nat.reduceAdd, Nat.reduceSub, Nat.reduceMul, Nat.reduceLeDiff, Nat.reduceBEq, Nat.reduceLT, if_true, if_false, beq_self_eq_true, BEq.rfl, ne_eq, e_i64, e_impl_Equation]
          (try simp only [WN.down, Nat.reduceAdd, if_true, if_false, ↓reduceIte, e_i64, e_impl_Equation] at hP)
          (try simp only [WN.down, Nat.reduceAdd, if_true, if_false, ↓reduceIte, e_i64, e_impl_Equation])
          exact hP
        refine w_blk (fun Q23 n23 q23 b23 x23 => ?_)
        have L23 : ∀ (n : Nat) (v3_23 : List UInt8) (v4_23 : Int) (v5_23 : Int), spec_l32Equations_l23 (spec_l32Equations_l8 a0 m8) a0 n v3_23 v4_23 v5_23 = some r → lpC Cc c45_24 Q23 (stA [(0, .slice (a0.map e_impl_Equation)), (3, .str v3_23), (4, .int .i64 v4_23), (5, .int .i64 v5_23)]) := by
          intro m23
          induction m23 with
          | zero => intro v3_23 v4_23 v5_23 h; cases (show none = some r from h)
          | succ m23 ih23 =>
            intro v3_23 v4_23 v5_23 h
            replace h : spec_l32Equations_b23 (spec_l32Equations_l8 a0 m8) (spec_l32Equations_l23 (spec_l32Equations_l8 a0 m8) a0 m23) a0 v3_23 v4_23 v5_23 = some r := h
            refine lpC_step (fun Q24 n24 q24 x24 => ?_)
            refine w_seq (fun Q25 n25 q25 x25 => ?_)
            obtain ⟨x7, e27, h⟩ := bindE h
            refine w_sreg (w_abs [(0, .slice (a0.map e_impl_Equation)), (3, .str v3_23), (4, .int .i64 v4_23), (5, .int .i64 v5_23), (47, .bool (decide (v5_23 < (x7.Terms.length : Int))))] (fun P hP => ?_) ?_)
            · simp only [W0.down, Nat.reduceEqDiff, ↓reduceIte, reduceCtorEq, Nat.reduceAdd, Nat.reduceSub, Nat.reduceMul, Nat.reduceLeDiff, Nat.reduceBEq, Nat.reduceLT, if_true, if_false, beq_self_eq_true, BEq.rfl, ne_eq, tt2, tt4, tt41, tt68, tt72, e_i64, e_impl_Equation, e27]
              (try simp only [WN.down, Nat.reduceAdd, if_true, if_false, ↓reduceIte, tt2, tt4, tt41, tt68, tt72, e_i64, e_impl_Equation, e27] at hP)
              (try simp only [WN.down, Nat.reduceAdd, if_true, if_false, ↓reduceIte, tt2, tt4, tt41, tt68, tt72, e_i64, e_impl_Equation, e27])
              exact hP
            rcases condE h with ⟨b28, h⟩ | ⟨b28, h⟩
            · refine w_ct (congrArg AV.bool b28) ?_
              simp only [b28, Bool.not_true, Bool.not_false]
              refine w_skip (n25 _ (.inl ?_))
              refine w_seq (fun Q29 n29 q29 x29 => ?_)
              refine w_blk (fun Q30 n30 q30 b30 x30 => ?_)
              obtain ⟨x8, e32, h⟩ := bindE h
              obtain ⟨x9, e33, h⟩ := bindE h
              obtain ⟨u35, e34, h⟩ := bindE h
              (try simp only [List.length_append, List.length_cons, List.length_nil, List.length_map, List.length_replicate, Nat.zero_add, Nat.add_zero, Nat.reduceAdd] at e34)
              refine w_reg (w_abs [(0, .slice (a0.map e_impl_Equation)), (3, .str (v3_23 ++ x9)), (4, .int .i64 v4_23), (5, .int .i64 v5_23)] (fun P hP => ?_) ?_)
              · simp only [W0.down, Nat.reduceEqDiff, ↓reduceIte, reduceCtorEq, Nat.reduceAdd, Nat.reduceSub, Nat.reduceMul, Nat.reduceLeDiff, Nat.reduceBEq, Nat.reduceLT, if_true, if_false, beq_self_eq_true, BEq.rfl, ne_eq, tt2, tt4, tt41, tt68, tt72, e_i64, e_impl_Equation, e27, e32, e34, bnS_cat, addR_s]
                refine w_call0 (ok_spec_l32Number x8 _ e33) rfl rfl rfl rfl (.inl rfl) ?_
                simp only [W0.down, Nat.reduceEqDiff, ↓reduceIte, reduceCtorEq, Nat.reduceAdd, Nat.reduceSub, Nat.reduceMul, Nat.reduceLeDiff, Nat.reduceBEq, Nat.reduceLT, if_true, if_false, beq_self_eq_true, BEq.rfl, ne_eq, tt2, tt4, tt41, tt68, tt72, e_i64, e_impl_Equation, e27, e32, e34, bnS_cat, addR_s]
                (try simp only [WN.down, Nat.reduceAdd, if_true, if_false, ↓reduceIte, tt2, tt4, tt41, tt68, tt72, e_i64, e_impl_Equation, e27, e32, e34, bnS_cat, addR_s] at hP)
                (try simp only [WN.down, Nat.reduceAdd, if_true, if_false, ↓reduceIte, tt2, tt4, tt41, tt68, tt72, e_i64, e_impl_Equation, e27, e32, e34, bnS_cat, addR_s])
                exact hP
              refine n30 _ (n29 _ (.inl ?_))
              refine w_reg (w_abs [(0, .slice (a0.map e_impl_Equation)), (3, .str (v3_23 ++ x9)), (4, .int .i64 v4_23), (5, .int .i64 (IntKind.i64.wrap (v5_23 + 1)))] (fun P hP => ?_) ?_)
              · simp only [W0.down, Nat.reduceEqDiff, ↓reduceIte, reduceCtorEq, Nat.reduceAdd, Nat.reduceSub, Nat.reduceMul, Nat.reduceLeDiff, Nat.reduceBEq, Nat.reduceLT, if_true, if_false, beq_self_eq_true, BEq.rfl, ne_eq, e_i64, e_impl_Equation]
                (try simp only [WN.down, Nat.reduceAdd, if_true, if_false, ↓reduceIte, e_i64, e_impl_Equation] at hP)
                (try simp only [WN.down, Nat.reduceAdd, if_true, if_false, ↓reduceIte, e_i64, e_impl_Equation])
                exact hP
              exact n24 _ (.inr ⟨_, weak_eq rfl, ih23 (v3_23 ++ x9) v4_23 (IntKind.i64.wrap (v5_23 + 1)) h⟩)
            · refine w_cf (congrArg AV.bool b28) ?_
              simp only [b28, Bool.not_true, Bool.not_false]
              refine w_ex (x25 2 _ (x24 2 _ (b23 _ (n21 _ (.inl ?_)))))
              refine w_sreg (w_abs [(0, .slice (a0.map e_impl_Equation)), (3, .str v3_23), (4, .int .i64 v4_23), (63, .bool (decide (6000 < (v3_23.length : Int))))] (fun P hP => ?_) ?_)
              · simp only [W0.down, Nat.reduceEqDiff, ↓reduceIte, reduceCtorEq, Nat.reduceAdd, Nat.reduceSub, Nat.reduceMul, Nat.reduceLeDiff, Nat.reduceBEq, Nat.reduceLT, if_true, if_false, beq_self_eq_true, BEq.rfl, ne_eq, tt9, e_i64, e_impl_Equation]
                (try simp only [WN.down, Nat.reduceAdd, if_true, if_false, ↓reduceIte, tt9, e_i64, e_impl_Equation] at hP)
                (try simp only [WN.down, Nat.reduceAdd, if_true, if_false, ↓reduceIte, tt9, e_i64, e_impl_Equation])
                exact hP
              rcases condE h with ⟨b37, h⟩ | ⟨b37, h⟩
              · refine w_ct (congrArg AV.bool b37) ?_
                simp only [b37, Bool.not_true, Bool.not_false]
                refine w_sreg (w_abs [(2, .str ([] : List UInt8))] (fun P hP => ?_) ?_)
                · simp only [W0.down, Nat.reduceEqDiff, ↓reduceIte, reduceCtorEq, Nat.reduceAdd, Nat.reduceSub, Nat.reduceMul, Nat.reduceLeDiff, Nat.reduceBEq, Nat.reduceLT, if_true, if_false, beq_self_eq_true, BEq.rfl, ne_eq, e_i64, e_impl_Equation]
                  (try simp only [WN.down, Nat.reduceAdd, if_true, if_false, ↓reduceIte, e_i64, e_impl_Equation] at hP)
                  (try simp only [WN.down, Nat.reduceAdd, if_true, if_false, ↓reduceIte, e_i64, e_impl_Equation])
                  exact hP
                exact w_ret (q12 _ (q11 _ (q7 _ (q6 _ (q4 _ (r0 _ (.inl (w_fin [.str ([] : List UInt8)] rfl (by cases someE h; rfl) (by decide) outs_nil))))))))
              · refine w_cf (congrArg AV.bool b37) ?_
                simp only [b37, Bool.not_true, Bool.not_false]
                refine w_skip (n12 _ (n11 _ (.inl ?_)))
                refine w_reg (w_abs [(0, .slice (a0.map e_impl_Equation)), (3, .str v3_23), (4, .int .i64 (IntKind.i64.wrap (v4_23 + 1)))] (fun P hP => ?_) ?_)
                · simp only [W0.down, Nat.reduceEqDiff, ↓reduceIte, reduceCtorEq, Nat.reduceAdd, Nat.reduceSub, Nat.reduceMul, Nat.reduceLeDiff, Nat.reduceBEq, Nat.reduceLT, if_true, if_false, beq_self_eq_true, BEq.rfl, ne_eq, e_i64, e_impl_Equation]
                  (try simp only [WN.down, Nat.reduceAdd, if_true, if_false, ↓reduceIte, e_i64, e_impl_Equation] at hP)
                  (try simp only [WN.down, Nat.reduceAdd, if_true, if_false, ↓reduceIte, e_i64, e_impl_Equation])
                  exact hP
                exact n7 _ (.inr ⟨_, weak_eq rfl, ih8 v3_23 (IntKind.i64.wrap (v4_23 + 1)) h⟩)
        obtain ⟨n, h⟩ := limE h
        exact w_loop (.inr ⟨_, weak_eq rfl, L23 n (v3_8 ++ (x5 ++ x6)) v4_8 0 h⟩)
      · refine w_cf (congrArg AV.bool b10) ?_
        simp only [b10, Bool.not_true, Bool.not_false]
        refine w_ex (x8 0 _ (x7 0 _ (b6 _ (n4 _ (.inl ?_)))))
        obtain ⟨x10, e41, h⟩ := bindE h
        refine w_sreg (w_abs [(2, .str x10)] (fun P hP => ?_) ?_)
        · simp only [W0.down, Nat.reduceEqDiff, ↓reduceIte, reduceCtorEq, Nat.reduceAdd, Nat.reduceSub, Nat.reduceMul, Nat.reduceLeDiff, Nat.reduceBEq, Nat.reduceLT, if_true, if_false, beq_self_eq_true, BEq.rfl, ne_eq, e_i64, e_impl_Equation]
          refine w_call0 (ok_spec_l32Seal 3 v3_8 _ e41) rfl rfl rfl rfl (.inl rfl) ?_
          simp only [W0.down, Nat.reduceEqDiff, ↓reduceIte, reduceCtorEq, Nat.reduceAdd, Nat.reduceSub, Nat.reduceMul, Nat.reduceLeDiff, Nat.reduceBEq, Nat.reduceLT, if_true, if_false, beq_self_eq_true, BEq.rfl, ne_eq, e_i64, e_impl_Equation]
          (try simp only [WN.down, Nat.reduceAdd, if_true, if_false, ↓reduceIte, e_i64, e_impl_Equation] at hP)
          (try simp only [WN.down, Nat.reduceAdd, if_true, if_false, ↓reduceIte, e_i64, e_impl_Equation])
          exact hP
        exact w_ret (r0 _ (.inl (w_fin [.str x10] rfl (by cases someE h; rfl) (by decide) outs_nil)))
  obtain ⟨n, h⟩ := limE h
  exact w_loop (.inr ⟨_, weak_eq rfl, L8 n x1 0 h⟩)

theorem ok_spec_EncodeEquations (a0 : List impl_Equation) (r : (List UInt8)) (h : spec_EncodeEquations a0 = some r) : OkAt Cc 23 [.slice (a0.map e_impl_Equation)] (.str r) [] := by
  refine OkAt.of_wpQ (fx := [0]) Cc_ok Try.func23 rfl rfl s23 (Nat.le_of_ble_eq_true rfl) (fun Q0 r0 n0 => ?_)
  replace r0 : ∀ s, onW (Fw.Ends Cc [0] [.tmp 2] (.str r) []) s → Q0 .ret s := r0
  replace n0 : ∀ s, onW (Fw.Ends Cc [0] [.tmp 2] (.str r) []) s → Q0 .normal s := n0
  show wpC Cc c23 Q0 (stA [(0, .slice (a0.map e_impl_Equation))])
  refine w_sreg (w_abs [(0, .slice (a0.map e_impl_Equation))] (fun P hP => ?_) ?_)
  · simp only [W0.down, Nat.reduceEqDiff, ↓reduceIte, reduceCtorEq, Nat.reduceAdd, Nat.reduceSub, Nat.reduceMul, Nat.reduceLeDiff, Nat.reduceBEq, Nat.reduceLT, if_true, if_false, beq_self_eq_true, BEq.rfl, ne_eq, e_i64, e_impl_Equation]
    (try simp only [WN.down, Nat.reduceAdd, if_true, if_false, ↓reduceIte, e_i64, e_impl_Equation] at hP)
    (try simp only [WN.down, Nat.reduceAdd, if_true, if_false, ↓reduceIte, e_i64, e_impl_Equation])
    exact hP
  refine w_seq (fun Q2 n2 q2 x2 => ?_)
  obtain ⟨x1, e4, h⟩ := bindE h
  refine w_sreg (w_abs [(0, .slice (a0.map e_impl_Equation)), (5, .bool (!x1))] (fun P hP => ?_) ?_)
  · simp only [W0.down, Nat.reduceEqDiff, ↓reduceIte, reduceCtorEq, Nat.reduceAdd, Nat.reduceSub, Nat.reduceMul, Nat.reduceLeDiff, Nat.reduceBEq, Nat.reduceLT, if_true, if_false, beq_self_eq_true, BEq.rfl, ne_eq, e_i64, e_impl_Equation]
    refine w_call0 (ok_spec_l22Is a0 _ e4) rfl rfl rfl rfl (.inl rfl) ?_
    simp only [W0.down, Nat.reduceEqDiff, ↓reduceIte, reduceCtorEq, Nat.reduceAdd, Nat.reduceSub, Nat.reduceMul, Nat.reduceLeDiff, Nat.reduceBEq, Nat.reduceLT, if_true, if_false, beq_self_eq_true, BEq.rfl, ne_eq, e_i64, e_impl_Equation]
    (try simp only [WN.down, Nat.reduceAdd, if_true, if_false, ↓reduceIte, e_i64, e_impl_Equation] at hP)
    (try simp only [WN.down, Nat.reduceAdd, if_true, if_false, ↓reduceIte, e_i64, e_impl_Equation])
    exact hP
  rcases condE h with ⟨b5, h⟩ | ⟨b5, h⟩
  · refine w_ct (congrArg AV.bool b5) ?_
    simp only [b5, Bool.not_true, Bool.not_false]
    refine w_sreg (w_abs [(2, .str ([] : List UInt8))] (fun P hP => ?_) ?_)
    · simp only [W0.down, Nat.reduceEqDiff, ↓reduceIte, reduceCtorEq, Nat.reduceAdd, Nat.reduceSub, Nat.reduceMul, Nat.reduceLeDiff, Nat.reduceBEq, Nat.reduceLT, if_true, if_false, beq_self_eq_true, BEq.rfl, ne_eq, e_i64, e_impl_Equation]
      (try simp only [WN.down, Nat.reduceAdd, if_true, if_false, ↓reduceIte, e_i64, e_impl_Equation] at hP)
      (try simp only [WN.down, Nat.reduceAdd, if_true, if_false, ↓reduceIte, e_i64, e_impl_Equation])
      exact hP
    exact w_ret (q2 _ (r0 _ (.inl (w_fin [.str ([] : List UInt8)] rfl (by cases someE h; rfl) (by decide) outs_nil))))
  · refine w_cf (congrArg AV.bool b5) ?_
    simp only [b5, Bool.not_true, Bool.not_false]
    refine w_skip (n2 _ (.inl ?_))
    obtain ⟨x2, e8, h⟩ := bindE h
    refine w_sreg (w_abs [(2, .str x2)] (fun P hP => ?_) ?_)
    · simp only [W0.down, Nat.reduceEqDiff, ↓reduceIte, reduceCtorEq, Nat.reduceAdd, Nat.reduceSub, Nat.reduceMul, Nat.reduceLeDiff, Nat.reduceBEq, Nat.reduceLT, if_true, if_false, beq_self_eq_true, BEq.rfl, ne_eq, e_i64, e_impl_Equation]
      refine w_call0 (ok_spec_l32Equations a0 _ e8) rfl rfl rfl rfl (.inl rfl) ?_
      simp only [W0.down, Nat.reduceEqDiff, ↓reduceIte, reduceCtorEq, Nat.reduceAdd, Nat.reduceSub, Nat.reduceMul, Nat.reduceLeDiff, Nat.reduceBEq, Nat.reduceLT, if_true, if_false, beq_self_eq_true, BEq.rfl, ne_eq, e_i64, e_impl_Equation]
      (try simp only [WN.down, Nat.reduceAdd, if_true, if_false, ↓reduceIte, e_i64, e_impl_Equation] at hP)
      (try simp only [WN.down, Nat.reduceAdd, if_true, if_false, ↓reduceIte, e_i64, e_impl_Equation])
      exact hP
    exact w_ret (r0 _ (.inl (w_fin [.str x2] rfl (by cases someE h; rfl) (by decide) outs_nil)))

theorem ok_impl_within (a0 : Int) (a1 : Int) (a2 : Int) (r : Bool) (h : impl_within a0 a1 a2 = some r) : OkAt Cc 31 [.int .i64 a0, .int .i64 a1, .int .i64 a2] (.bool r) [] := by
  refine OkAt.of_wpQ (fx := [0, 1, 2]) Cc_ok Try.func31 rfl rfl s31 (Nat.le_of_ble_eq_true rfl) (fun Q0 r0 n0 => ?_)
  replace r0 : ∀ s, onW (Fw.Ends Cc [0, 1, 2] [.tmp 6] (.bool r) []) s → Q0 .ret s := r0
  replace n0 : ∀ s, onW (Fw.Ends Cc [0, 1, 2] [.tmp 6] (.bool r) []) s → Q0 .normal s := n0
  show wpC Cc c31 Q0 (stA [(0, .int .i64 a0), (1, .int .i64 a1), (2, .int .i64 a2)])
  refine w_sreg (w_abs [(0, .int .i64 a0), (1, .int .i64 a1), (2, .int .i64 a2)] (fun P hP => ?_) ?_)
  · simp only [W0.down, Nat.reduceEqDiff, ↓reduceIte, reduceCtorEq, Nat.reduceAdd, Nat.reduceSub, Nat.reduceMul, Nat.reduceLeDiff, Nat.reduceBEq, Nat.reduceLT, if_true, if_false, beq_self_eq_true, BEq.rfl, ne_eq]
    (try simp only [WN.down, Nat.reduceAdd, if_true, if_false, ↓reduceIte] at hP)
    (try simp only [WN.down, Nat.reduceAdd, if_true, if_false, ↓reduceIte])
    exact hP
  refine w_sreg (w_abs [(6, .bool ((decide (a1 ≤ a0)) && (decide (a0 ≤ a2))))] (fun P hP => ?_) ?_)
  · rcases Bool.eq_false_or_eq_true ((decide (a1 ≤ a0))) with s3 | s3
    · simp only [W0.down, Nat.reduceEqDiff, ↓reduceIte, reduceCtorEq, Nat.reduceAdd, Nat.reduceSub, Nat.reduceMul, Nat.reduceLeDiff, Nat.reduceBEq, Nat.reduceLT, if_true, if_false, beq_self_eq_true, BEq.rfl, ne_eq, s3]
      (try simp only [WN.down, Nat.reduceAdd, if_true, if_false, ↓reduceIte, s3] at hP)
      (try simp only [WN.down, Nat.reduceAdd, if_true, if_false, ↓reduceIte, s3])
      exact hP
    · simp only [W0.down, Nat.reduceEqDiff, ↓reduceIte, reduceCtorEq, Nat.reduceAdd, Nat.reduceSub, Nat.reduceMul, Nat.reduceLeDiff, Nat.reduceBEq, Nat.reduceLT, if_true, if_false, beq_self_eq_true, BEq.rfl, ne_eq, s3]
      (try simp only [WN.down, Nat.reduceAdd, if_true, if_false, ↓reduceIte, s3] at hP)
      (try simp only [WN.down, Nat.reduceAdd, if_true, if_false, ↓reduceIte, s3])
      exact hP
  exact w_ret (r0 _ (.inl (w_fin [.bool ((decide (a1 ≤ a0)) && (decide (a0 ≤ a2)))] rfl (by cases someE h; rfl) (by decide) outs_nil)))

theorem ok_impl_equationBlocks (a0 : List impl_Equation) (r : (List Int)) (h : impl_equationBlocks a0 = some r) : OkAt Cc 75 [.slice (a0.map e_impl_Equation)] (.uslice 1 (r.map e_i64)) [] := by
  refine OkAt.of_wpQ (fx := [0]) Cc_ok Try.func75 rfl rfl s75 (Nat.le_of_ble_eq_true rfl) (fun Q0 r0 n0 => ?_)
  replace r0 : ∀ s, onW (Fw.Ends Cc [0] [.tmp 2] (.uslice 1 (r.map e_i64)) []) s → Q0 .ret s := r0
  replace n0 : ∀ s, onW (Fw.Ends Cc [0] [.tmp 2] (.uslice 1 (r.map e_i64)) []) s → Q0 .normal s := n0
  show wpC Cc c75 Q0 (stA [(0, .slice (a0.map e_impl_Equation))])
  refine w_sreg (w_abs [(0, .slice (a0.map e_impl_Equation))] (fun P hP => ?_) ?_)
  · simp only [W0.down, Nat.reduceEqDiff, ↓reduceIte, reduceCtorEq, Nat.reduceAdd, Nat.reduceSub, Nat.reduceMul, Nat.reduceLeDiff, Nat.reduceBEq, Nat.reduceLT, if_true, if_false, beq_self_eq_true, BEq.rfl, ne_eq, e_i64, e_impl_Equation]
    (try simp only [WN.down, Nat.reduceAdd, if_true, if_false, ↓reduceIte, e_i64, e_impl_Equation] at hP)
    (try simp only [WN.down, Nat.reduceAdd, if_true, if_false, ↓reduceIte, e_i64, e_impl_Equation])
    exact hP
  refine w_sreg (w_abs [(0, .slice (a0.map e_impl_Equation)), (3, .nils)] (fun P hP => ?_) ?_)
  · simp only [W0.down, Nat.reduceEqDiff, ↓reduceIte, reduceCtorEq, Nat.reduceAdd, Nat.reduceSub, Nat.reduceMul, Nat.reduceLeDiff, Nat.reduceBEq, Nat.reduceLT, if_true, if_false, beq_self_eq_true, BEq.rfl, ne_eq, e_i64, e_impl_Equation]
    (try simp only [WN.down, Nat.reduceAdd, if_true, if_false, ↓reduceIte, e_i64, e_impl_Equation] at hP)
    (try simp only [WN.down, Nat.reduceAdd, if_true, if_false, ↓reduceIte, e_i64, e_impl_Equation])
    exact hP
  refine w_sreg (w_abs [(0, .slice (a0.map e_impl_Equation)), (3, .nils), (4, .int .i64 0)] (fun P hP => ?_) ?_)
  · simp only [W0.down, Nat.reduceEqDiff, ↓reduceIte, reduceCtorEq, Nat.reduceAdd, Nat.reduceSub, Nat.reduceMul, Nat.reduceLeDiff, Nat.reduceBEq, Nat.reduceLT, if_true, if_false, beq_self_eq_true, BEq.rfl, ne_eq, e_i64, e_impl_Equation]
    (try simp only [WN.down, Nat.reduceAdd, if_true, if_false, ↓reduceIte, e_i64, e_impl_Equation] at hP)
    (try simp only [WN.down, Nat.reduceAdd, if_true, if_false, ↓reduceIte, e_i64, e_impl_Equation])
    exact hP
  refine w_seq (fun Q4 n4 q4 x4 => ?_)
  refine w_sreg (w_abs [(0, .slice (a0.map e_impl_Equation)), (3, .nils), (4, .int .i64 0), (7, .slice (a0.map e_impl_Equation)), (8, .int .i64 (a0.length : Int)), (9, .int .i64 0)] (fun P hP => ?_) ?_)
  · simp only [W0.down, Nat.reduceEqDiff, ↓reduceIte, reduceCtorEq, Nat.reduceAdd, Nat.reduceSub, Nat.reduceMul, Nat.reduceLeDiff, Nat.reduceBEq, Nat.reduceLT, if_true, if_false, beq_self_eq_true, BEq.rfl, ne_eq, tt2, tt4, tt41, tt68, tt72, e_i64, e_impl_Equation]
    (try simp only [WN.down, Nat.reduceAdd, if_true, if_false, ↓reduceIte, tt2, tt4, tt41, tt68, tt72, e_i64, e_impl_Equation] at hP)
    (try simp only [WN.down, Nat.reduceAdd, if_true, if_false, ↓reduceIte, tt2, tt4, tt41, tt68, tt72, e_i64, e_impl_Equation])
    exact hP
  refine w_blk (fun Q6 n6 q6 b6 x6 => ?_)
  have L10 : ∀ (n : Nat) (v3_10 : List Int) (v4_10 : Int) (v9_10 : Int), impl_equationBlocks_l10 a0 n v3_10 v4_10 v9_10 = some r → lpC Cc c75_11 Q6 (stA [(0, .slice (a0.map e_impl_Equation)), (3, .uslice 1 (v3_10.map e_i64)), (4, .int .i64 v4_10), (7, .slice (a0.map e_impl_Equation)), (8, .int .i64 (a0.length : Int)), (9, .int .i64 v9_10)]) := by
    intro m10
    induction m10 with
    | zero => intro v3_10 v4_10 v9_10 h; cases (show none = some r from h)
    | succ m10 ih10 =>
      intro v3_10 v4_10 v9_10 h
      replace h : impl_equationBlocks_b10 (impl_equationBlocks_l10 a0 m10) a0 v3_10 v4_10 v9_10 = some r := h
      refine lpC_step (fun Q7 n7 q7 x7 => ?_)
      refine w_sreg (w_abs [(0, .slice (a0.map e_impl_Equation)), (3, .uslice 1 (v3_10.map e_i64)), (4, .int .i64 v4_10), (7, .slice (a0.map e_impl_Equation)), (8, .int .i64 (a0.length : Int)), (9, .int .i64 v9_10), (10, .bool (decide (v9_10 < (a0.length : Int))))] (fun P hP => ?_) ?_)
      · simp only [W0.down, Nat.reduceEqDiff, ↓reduceIte, reduceCtorEq, Nat.reduceAdd, Nat.reduceSub, Nat.reduceMul, Nat.reduceLeDiff, Nat.reduceBEq, Nat.reduceLT, if_true, if_false, beq_self_eq_true, BEq.rfl, ne_eq, e_i64, e_impl_Equation]
        (try simp only [WN.down, Nat.reduceAdd, if_true, if_false, ↓reduceIte, e_i64, e_impl_Equation] at hP)
        (try simp only [WN.down, Nat.reduceAdd, if_true, if_false, ↓reduceIte, e_i64, e_impl_Equation])
        exact hP
      refine w_seq (fun Q9 n9 q9 x9 => ?_)
      rcases condE h with ⟨b10, h⟩ | ⟨b10, h⟩
      · refine w_ct (congrArg AV.bool b10) ?_
        simp only [b10, Bool.not_true, Bool.not_false]
        refine w_skip (n9 _ (.inl ?_))
        refine w_seq (fun Q11 n11 q11 x11 => ?_)
        refine w_blk (fun Q12 n12 q12 b12 x12 => ?_)
        obtain ⟨x1, e14, h⟩ := bindE h
        refine w_sreg (w_abs [(0, .slice (a0.map e_impl_Equation)), (3, .uslice 1 (v3_10.map e_i64)), (4, .int .i64 v4_10), (5, .int .i64 v9_10), (6, .ubox (e_impl_Equation x1)), (7, .slice (a0.map e_impl_Equation)), (8, .int .i64 (a0.length : Int)), (9, .int .i64 v9_10)] (fun P hP => ?_) ?_)
        · simp only [W0.down, Nat.reduceEqDiff, ↓reduceIte, reduceCtorEq, Nat.reduceAdd, Nat.reduceSub, Nat.reduceMul, Nat.reduceLeDiff, Nat.reduceBEq, Nat.reduceLT, if_true, if_false, beq_self_eq_true, BEq.rfl, ne_eq, tt2, tt4, tt41, tt68, tt72, e_i64, e_impl_Equation, e14]
          (try simp only [WN.down, Nat.reduceAdd, if_true, if_false, ↓reduceIte, tt2, tt4, tt41, tt68, tt72, e_i64, e_impl_Equation, e14] at hP)
          (try simp only [WN.down, Nat.reduceAdd, if_true, if_false, ↓reduceIte, tt2, tt4, tt41, tt68, tt72, e_i64, e_impl_Equation, e14])
          exact hP
        have K27 : ∀ (v3_27 : List Int) (v4_27 : Int) (v9_27 : Int), impl_equationBlocks_k27 (impl_equationBlocks_l10 a0 m10) a0 v3_27 v4_27 v9_27 = some r → wpC Cc c75_27 Q12 (stA [(0, .slice (a0.map e_impl_Equation)), (3, .uslice 1 (v3_27.map e_i64)), (4, .int .i64 v4_27), (7, .slice (a0.map e_impl_Equation)), (8, .int .i64 (a0.length : Int)), (9, .int .i64 v9_27)]) := by
          intro v3_27 v4_27 v9_27 h
          obtain ⟨u18, e17, h⟩ := bindE h
          (try simp only [List.length_append, List.length_cons, List.length_nil, List.length_map, List.length_replicate, Nat.zero_add, Nat.add_zero, Nat.reduceAdd] at e17)
          refine w_reg (w_abs [(0, .slice (a0.map e_impl_Equation)), (3, .uslice 1 ((v3_27 ++ [v4_27]).map e_i64)), (4, .int .i64 v4_27), (7, .slice (a0.map e_impl_Equation)), (8, .int .i64 (a0.length : Int)), (9, .int .i64 v9_27)] (fun P hP => ?_) ?_)
          · simp only [W0.down, Nat.reduceEqDiff, ↓reduceIte, reduceCtorEq, Nat.reduceAdd, Nat.reduceSub, Nat.reduceMul, Nat.reduceLeDiff, Nat.reduceBEq, Nat.reduceLT, if_true, if_false, beq_self_eq_true, BEq.rfl, ne_eq, tt2, tt68, e_i64, e_impl_Equation, (show ∀ s, bsl Cc s 68 1 [(0, .int .i64 v4_27)] = some (.uslice 1 [.int .i64 v4_27], s) from fun s => by kernel_rfl), @apd_s Cc 68 68 2 rfl rfl, ap_s, ap2_s, ap3_s, all_cons, all_nil, e17, @all_wd' _ e_i64 1 (fun _ => rfl)]
            (try simp only [WN.down, Nat.reduceAdd, if_true, if_false, ↓reduceIte, tt2, tt68, e_i64, e_impl_Equation, (show ∀ s, bsl Cc s 68 1 [(0, .int .i64 v4_27)] = some (.uslice 1 [.int .i64 v4_27], s) from fun s => by kernel_rfl), @apd_s Cc 68 68 2 rfl rfl, ap_s, ap2_s, ap3_s, all_cons, all_nil, e17, @all_wd' _ e_i64 1 (fun _ => rfl)] at hP)
            (try simp only [WN.down, Nat.reduceAdd, if_true, if_false, ↓reduceIte, tt2, tt68, e_i64, e_impl_Equation, (show ∀ s, bsl Cc s 68 1 [(0, .int .i64 v4_27)] = some (.uslice 1 [.int .i64 v4_27], s) from fun s => by kernel_rfl), @apd_s Cc 68 68 2 rfl rfl, ap_s, ap2_s, ap3_s, all_cons, all_nil, e17, @all_wd' _ e_i64 1 (fun _ => rfl)])
            exact hP
          refine n12 _ (n11 _ (.inl ?_))
          refine w_reg (w_abs [(0, .slice (a0.map e_impl_Equation)), (3, .uslice 1 ((v3_27 ++ [v4_27]).map e_i64)), (4, .int .i64 v4_27), (7, .slice (a0.map e_impl_Equation)), (8, .int .i64 (a0.length : Int)), (9, .int .i64 (IntKind.i64.wrap (v9_27 + 1)))] (fun P hP => ?_) ?_)
          · simp only [W0.down, Nat.reduceEqDiff, ↓reduceIte, reduceCtorEq, Nat.reduceAdd, Nat.reduceSub, Nat.reduceMul, Nat.reduceLeDiff, Nat.reduceBEq, Nat.reduceLT, if_true, if_false, beq_self_eq_true, BEq.rfl, ne_eq, e_i64, e_impl_Equation]
            (try simp only [WN.down, Nat.reduceAdd, if_true, if_false, ↓reduceIte, e_i64, e_impl_Equation] at hP)
            (try simp only [WN.down, Nat.reduceAdd, if_true, if_false, ↓reduceIte, e_i64, e_impl_Equation])
            exact hP
          exact n7 _ (.inr ⟨_, weak_eq rfl, ih10 (v3_27 ++ [v4_27]) v4_27 (IntKind.i64.wrap (v9_27 + 1)) h⟩)
        refine w_seq (fun Q15 n15 q15 x15 => ?_)
        rcases condE h with ⟨b20, h⟩ | ⟨b20, h⟩
        · obtain ⟨x2, e21, h⟩ := bindE h
          refine w_sdrw rfl (w_absd [(0, .slice (a0.map e_impl_Equation)), (3, .uslice 1 (v3_10.map e_i64)), (4, .int .i64 v4_10), (7, .slice (a0.map e_impl_Equation)), (8, .int .i64 (a0.length : Int)), (9, .int .i64 v9_10), (26, .bool (!(x1.Greatest == x2.Greatest)))] (fun P hP => ?_) ?_)
          · simp only [W1.down, Nat.reduceEqDiff, ↓reduceIte, reduceCtorEq, Nat.reduceAdd, Nat.reduceSub, Nat.reduceMul, Nat.reduceLeDiff, Nat.reduceBEq, Nat.reduceLT, if_true, if_false, beq_self_eq_true, BEq.rfl, ne_eq, tt2, tt4, tt41, tt68, tt72, e_i64, e_impl_Equation, b20, e21]
            refine ⟨by kernel_rfl, ?_⟩
            (try simp only [WN.down, Nat.reduceAdd, if_true, if_false, ↓reduceIte, tt2, tt4, tt41, tt68, tt72, e_i64, e_impl_Equation, b20, e21] at hP)
            (try simp only [WN.down, Nat.reduceAdd, if_true, if_false, ↓reduceIte, tt2, tt4, tt41, tt68, tt72, e_i64, e_impl_Equation, b20, e21])
            exact hP
          rcases condE h with ⟨b22, h⟩ | ⟨b22, h⟩
          · refine w_ct (congrArg AV.bool b22) ?_
            simp only [b22, Bool.not_true, Bool.not_false]
            refine w_reg (w_abs [(0, .slice (a0.map e_impl_Equation)), (3, .uslice 1 (v3_10.map e_i64)), (4, .int .i64 (IntKind.i64.wrap (v4_10 + 1))), (7, .slice (a0.map e_impl_Equation)), (8, .int .i64 (a0.length : Int)), (9, .int .i64 v9_10)] (fun P hP => ?_) ?_)
            · simp only [W0.down, Nat.reduceEqDiff, ↓reduceIte, reduceCtorEq, Nat.reduceAdd, Nat.reduceSub, Nat.reduceMul, Nat.reduceLeDiff, Nat.reduceBEq, Nat.reduceLT, if_true, if_false, beq_self_eq_true, BEq.rfl, ne_eq, e_i64, e_impl_Equation]
              (try simp only [WN.down, Nat.reduceAdd, if_true, if_false, ↓reduceIte, e_i64, e_impl_Equation] at hP)
              (try simp only [WN.down, Nat.reduceAdd, if_true, if_false, ↓reduceIte, e_i64, e_impl_Equation])
              exact hP
            exact n15 _ (.inr ⟨_, weak_eq rfl, K27 v3_10 (IntKind.i64.wrap (v4_10 + 1)) v9_10 h⟩)
          · refine w_cf (congrArg AV.bool b22) ?_
            simp only [b22, Bool.not_true, Bool.not_false]
            exact w_skip (n15 _ (.inr ⟨_, weak_eq rfl, K27 v3_10 v4_10 v9_10 h⟩))
        · refine w_sdrw rfl (w_absd [(0, .slice (a0.map e_impl_Equation)), (3, .uslice 1 (v3_10.map e_i64)), (4, .int .i64 v4_10), (7, .slice (a0.map e_impl_Equation)), (8, .int .i64 (a0.length : Int)), (9, .int .i64 v9_10), (26, .bool false)] (fun P hP => ?_) ?_)
          · simp only [W1.down, Nat.reduceEqDiff, ↓reduceIte, reduceCtorEq, Nat.reduceAdd, Nat.reduceSub, Nat.reduceMul, Nat.reduceLeDiff, Nat.reduceBEq, Nat.reduceLT, if_true, if_false, beq_self_eq_true, BEq.rfl, ne_eq, tt2, tt4, tt41, tt68, tt72, e_i64, e_impl_Equation, b20]
            refine ⟨by kernel_rfl, ?_⟩
            (try simp only [WN.down, Nat.reduceAdd, if_true, if_false, ↓reduceIte, tt2, tt4, tt41, tt68, tt72, e_i64, e_impl_Equation, b20] at hP)
            (try simp only [WN.down, Nat.reduceAdd, if_true, if_false, ↓reduceIte, tt2, tt4, tt41, tt68, tt72, e_i64, e_impl_Equation, b20])
            exact hP
          refine w_cf rfl ?_
          exact w_skip (n15 _ (.inr ⟨_, weak_eq rfl, K27 v3_10 v4_10 v9_10 h⟩))
      · refine w_cf (congrArg AV.bool b10) ?_
        simp only [b10, Bool.not_true, Bool.not_false]
        refine w_ex (x9 0 _ (x7 0 _ (b6 _ (n4 _ (.inl ?_)))))
        refine w_sreg (w_abs [(2, .uslice 1 (v3_10.map e_i64))] (fun P hP => ?_) ?_)
        · simp only [W0.down, Nat.reduceEqDiff, ↓reduceIte, reduceCtorEq, Nat.reduceAdd, Nat.reduceSub, Nat.reduceMul, Nat.reduceLeDiff, Nat.reduceBEq, Nat.reduceLT, if_true, if_false, beq_self_eq_true, BEq.rfl, ne_eq, e_i64, e_impl_Equation]
          (try simp only [WN.down, Nat.reduceAdd, if_true, if_false, ↓reduceIte, e_i64, e_impl_Equation] at hP)
          (try simp only [WN.down, Nat.reduceAdd, if_true, if_false, ↓reduceIte, e_i64, e_impl_Equation])
          exact hP
        exact w_ret (r0 _ (.inl (w_fin [.uslice 1 (v3_10.map e_i64)] rfl (by cases someE h; rfl) (by decide) outs_nil)))
  obtain ⟨n, h⟩ := limE h
  exact w_loop (.inr ⟨_, weak_mix [] rfl (wk_eq (t := 0) (d := .slice (a0.map e_impl_Equation)) rfl (wk_wd (t := 3) (d := .nils) (d' := .uslice 1 []) rfl rfl (.nilsU _) (by decide) (wk_eq (t := 4) (d := .int .i64 0) rfl (wk_eq (t := 7) (d := .slice (a0.map e_impl_Equation)) rfl (wk_eq (t := 8) (d := .int .i64 (a0.length : Int)) rfl (wk_eq (t := 9) (d := .int .i64 0) rfl (wk_nil))))))), L10 n [] 0 0 h⟩)

theorem ok_impl_last_int64 (a0 : List Int) (r : Int) (h : impl_last_int64 a0 = some r) : OkAt Cc 74 [.slice (a0.map e_i64)] (.int .i64 r) [] := by
  refine OkAt.of_wpQ (fx := [0]) Cc_ok Try.func74 rfl rfl s74 (Nat.le_of_ble_eq_true rfl) (fun Q0 r0 n0 => ?_)
  replace r0 : ∀ s, onW (Fw.Ends Cc [0] [.tmp 2] (.int .i64 r) []) s → Q0 .ret s := r0
  replace n0 : ∀ s, onW (Fw.Ends Cc [0] [.tmp 2] (.int .i64 r) []) s → Q0 .normal s := n0
  show wpC Cc c74 Q0 (stA [(0, .slice (a0.map e_i64))])
  refine w_sreg (w_abs [(0, .slice (a0.map e_i64))] (fun P hP => ?_) ?_)
  · simp only [W0.down, Nat.reduceEqDiff, ↓reduceIte, reduceCtorEq, Nat.reduceAdd, Nat.reduceSub, Nat.reduceMul, Nat.reduceLeDiff, Nat.reduceBEq, Nat.reduceLT, if_true, if_false, beq_self_eq_true, BEq.rfl, ne_eq, e_i64]
    (try simp only [WN.down, Nat.reduceAdd, if_true, if_false, ↓reduceIte, e_i64] at hP)
    (try simp only [WN.down, Nat.reduceAdd, if_true, if_false, ↓reduceIte, e_i64])
    exact hP
  obtain ⟨x1, e3, h⟩ := bindE h
  refine w_sreg (w_abs [(2, .int .i64 x1)] (fun P hP => ?_) ?_)
  · simp only [W0.down, Nat.reduceEqDiff, ↓reduceIte, reduceCtorEq, Nat.reduceAdd, Nat.reduceSub, Nat.reduceMul, Nat.reduceLeDiff, Nat.reduceBEq, Nat.reduceLT, if_true, if_false, beq_self_eq_true, BEq.rfl, ne_eq, tt2, tt68, e_i64, e3]
    (try simp only [WN.down, Nat.reduceAdd, if_true, if_false, ↓reduceIte, tt2, tt68, e_i64, e3] at hP)
    (try simp only [WN.down, Nat.reduceAdd, if_true, if_false, ↓reduceIte, tt2, tt68, e_i64, e3])
    exact hP
  exact w_ret (r0 _ (.inl (w_fin [.int .i64 x1] rfl (by cases someE h; rfl) (by decide) outs_nil)))

theorem ok_impl_blocksFit (a0 : List impl_Equation) (r : Bool) (h : impl_blocksFit a0 = some r) : OkAt Cc 65 [.slice (a0.map e_impl_Equation)] (.bool r) [] := by
  refine OkAt.of_wpQ (fx := [0]) Cc_ok Try.func65 rfl rfl s65 (Nat.le_of_ble_eq_true rfl) (fun Q0 r0 n0 => ?_)
  replace r0 : ∀ s, onW (Fw.Ends Cc [0] [.tmp 2] (.bool r) []) s → Q0 .ret s := r0
  replace n0 : ∀ s, onW (Fw.Ends Cc [0] [.tmp 2] (.bool r) []) s → Q0 .normal s := n0
  show wpC Cc c65 Q0 (stA [(0, .slice (a0.map e_impl_Equation))])
  refine w_sreg (w_abs [(0, .slice (a0.map e_impl_Equation))] (fun P hP => ?_) ?_)
  · simp only [W0.down, Nat.reduceEqDiff, ↓reduceIte, reduceCtorEq, Nat.reduceAdd, Nat.reduceSub, Nat.reduceMul, Nat.reduceLeDiff, Nat.reduceBEq, Nat.reduceLT, if_true, if_false, beq_self_eq_true, BEq.rfl, ne_eq, e_i64, e_impl_Equation]
    (try simp only [WN.down, Nat.reduceAdd, if_true, if_false, ↓reduceIte, e_i64, e_impl_Equation] at hP)
    (try simp only [WN.down, Nat.reduceAdd, if_true, if_false, ↓reduceIte, e_i64, e_impl_Equation])
    exact hP
  obtain ⟨x1, e3, h⟩ := bindE h
  obtain ⟨x2, e4, h⟩ := bindE h
  refine w_sreg (w_abs [(2, .bool (decide (x2 < 9)))] (fun P hP => ?_) ?_)
  · simp only [W0.down, Nat.reduceEqDiff, ↓reduceIte, reduceCtorEq, Nat.reduceAdd, Nat.reduceSub, Nat.reduceMul, Nat.reduceLeDiff, Nat.reduceBEq, Nat.reduceLT, if_true, if_false, beq_self_eq_true, BEq.rfl, ne_eq, e_i64, e_impl_Equation]
    refine w_call0 (ok_impl_equationBlocks a0 _ e3) rfl rfl rfl rfl (.inl rfl) ?_
    simp only [W0.down, Nat.reduceEqDiff, ↓reduceIte, reduceCtorEq, Nat.reduceAdd, Nat.reduceSub, Nat.reduceMul, Nat.reduceLeDiff, Nat.reduceBEq, Nat.reduceLT, if_true, if_false, beq_self_eq_true, BEq.rfl, ne_eq, e_i64, e_impl_Equation]
    refine w_call0 (ok_impl_last_int64 x1 _ e4) rfl rfl (by simp only [W0.down, Nat.reduceEqDiff, ↓reduceIte, reduceCtorEq, Nat.reduceAdd, Nat.reduceSub, Nat.reduceMul, Nat.reduceLeDiff, Nat.reduceBEq, Nat.reduceLT, if_true, if_false, beq_self_eq_true, BEq.rfl, ne_eq, e_i64, e_impl_Equation, view_s, view_h, viewH_s, share_s, @shares_map _ e_i64 e_i64 (fun _ => sh_e_i64 _)]) rfl (.inr rfl) ?_
    simp only [W0.down, Nat.reduceEqDiff, ↓reduceIte, reduceCtorEq, Nat.reduceAdd, Nat.reduceSub, Nat.reduceMul, Nat.reduceLeDiff, Nat.reduceBEq, Nat.reduceLT, if_true, if_false, beq_self_eq_true, BEq.rfl, ne_eq, e_i64, e_impl_Equation]
    (try simp only [WN.down, Nat.reduceAdd, if_true, if_false, ↓reduceIte, e_i64, e_impl_Equation] at hP)
    (try simp only [WN.down, Nat.reduceAdd, if_true, if_false, ↓reduceIte, e_i64, e_impl_Equation])
    exact hP
  exact w_ret (r0 _ (.inl (w_fin [.bool (decide (x2 < 9))] rfl (by cases someE h; rfl) (by decide) outs_nil)))

theorem ok_impl_index (a0 : Int) (a1 : Int) (r : Bool) (h : impl_index a0 a1 = some r) : OkAt Cc 28 [.int .i64 a0, .int .i64 a1] (.bool r) [] := by
  refine OkAt.of_wpQ (fx := [0, 1]) Cc_ok Try.func28 rfl rfl s28 (Nat.le_of_ble_eq_true rfl) (fun Q0 r0 n0 => ?_)
  replace r0 : ∀ s, onW (Fw.Ends Cc [0, 1] [.tmp 4] (.bool r) []) s → Q0 .ret s := r0
  replace n0 : ∀ s, onW (Fw.Ends Cc [0, 1] [.tmp 4] (.bool r) []) s → Q0 .normal s := n0
  show wpC Cc c28 Q0 (stA [(0, .int .i64 a0), (1, .int .i64 a1)])
  refine w_sreg (w_abs [(0, .int .i64 a0), (1, .int .i64 a1)] (fun P hP => ?_) ?_)
  · simp only [W0.down, Nat.reduceEqDiff, ↓reduceIte, reduceCtorEq, Nat.reduceAdd, Nat.reduceSub, Nat.reduceMul, Nat.reduceLeDiff, Nat.reduceBEq, Nat.reduceLT, if_true, if_false, beq_self_eq_true, BEq.rfl, ne_eq]
    (try simp only [WN.down, Nat.reduceAdd, if_true, if_false, ↓reduceIte] at hP)
    (try simp only [WN.down, Nat.reduceAdd, if_true, if_false, ↓reduceIte])
    exact hP
  obtain ⟨x1, e3, h⟩ := bindE h
  refine w_sreg (w_abs [(4, .bool x1)] (fun P hP => ?_) ?_)
  · simp only [W0.down, Nat.reduceEqDiff, ↓reduceIte, reduceCtorEq, Nat.reduceAdd, Nat.reduceSub, Nat.reduceMul, Nat.reduceLeDiff, Nat.reduceBEq, Nat.reduceLT, if_true, if_false, beq_self_eq_true, BEq.rfl, ne_eq]
    refine w_call0 (ok_impl_within a0 0 (IntKind.i64.wrap (a1 - 1)) _ e3) rfl rfl rfl rfl (.inl rfl) ?_
    simp only [W0.down, Nat.reduceEqDiff, ↓reduceIte, reduceCtorEq, Nat.reduceAdd, Nat.reduceSub, Nat.reduceMul, Nat.reduceLeDiff, Nat.reduceBEq, Nat.reduceLT, if_true, if_false, beq_self_eq_true, BEq.rfl, ne_eq]
    (try simp only [WN.down, Nat.reduceAdd, if_true, if_false, ↓reduceIte] at hP)
    (try simp only [WN.down, Nat.reduceAdd, if_true, if_false, ↓reduceIte])
    exact hP
  exact w_ret (r0 _ (.inl (w_fin [.bool x1] rfl (by cases someE h; rfl) (by decide) outs_nil)))

theorem ok_impl_increasing (a0 : List Int) (a1 : Int) (r : Bool) (h : impl_increasing a0 a1 = some r) : OkAt Cc 68 [.slice (a0.map e_i64), .int .i64 a1] (.bool r) [] := by
  refine OkAt.of_wpQ (fx := [0, 1]) Cc_ok Try.func68 rfl rfl s68 (Nat.le_of_ble_eq_true rfl) (fun Q0 r0 n0 => ?_)
  replace r0 : ∀ s, onW (Fw.Ends Cc [0, 1] [.tmp 4] (.bool r) []) s → Q0 .ret s := r0
  replace n0 : ∀ s, onW (Fw.Ends Cc [0, 1] [.tmp 4] (.bool r) []) s → Q0 .normal s := n0
  show wpC Cc c68 Q0 (stA [(0, .slice (a0.map e_i64)), (1, .int .i64 a1)])
  refine w_sreg (w_abs [(0, .slice (a0.map e_i64)), (1, .int .i64 a1)] (fun P hP => ?_) ?_)
  · simp only [W0.down, Nat.reduceEqDiff, ↓reduceIte, reduceCtorEq, Nat.reduceAdd, Nat.reduceSub, Nat.reduceMul, Nat.reduceLeDiff, Nat.reduceBEq, Nat.reduceLT, if_true, if_false, beq_self_eq_true, BEq.rfl, ne_eq, e_i64]
    (try simp only [WN.down, Nat.reduceAdd, if_true, if_false, ↓reduceIte, e_i64] at hP)
    (try simp only [WN.down, Nat.reduceAdd, if_true, if_false, ↓reduceIte, e_i64])
    exact hP
  refine w_seq (fun Q2 n2 q2 x2 => ?_)
  refine w_sreg (w_abs [(0, .slice (a0.map e_i64)), (1, .int .i64 a1), (7, .slice (a0.map e_i64)), (8, .int .i64 (a0.length : Int)), (9, .int .i64 0)] (fun P hP => ?_) ?_)
  · simp only [W0.down, Nat.reduceEqDiff, ↓reduceIte, reduceCtorEq, Nat.reduceAdd, Nat.reduceSub, Nat.reduceMul, Nat.reduceLeDiff, Nat.reduceBEq, Nat.reduceLT, if_true, if_false, beq_self_eq_true, BEq.rfl, ne_eq, tt2, tt68, e_i64]
    (try simp only [WN.down, Nat.reduceAdd, if_true, if_false, ↓reduceIte, tt2, tt68, e_i64] at hP)
    (try simp only [WN.down, Nat.reduceAdd, if_true, if_false, ↓reduceIte, tt2, tt68, e_i64])
    exact hP
  refine w_blk (fun Q4 n4 q4 b4 x4 => ?_)
  have L6 : ∀ (n : Nat) (v9_6 : Int), impl_increasing_l6 a0 a1 n v9_6 = some r → lpC Cc c68_7 Q4 (stA [(0, .slice (a0.map e_i64)), (1, .int .i64 a1), (7, .slice (a0.map e_i64)), (8, .int .i64 (a0.length : Int)), (9, .int .i64 v9_6)]) := by
    intro m6
    induction m6 with
    | zero => intro v9_6 h; cases (show none = some r from h)
    | succ m6 ih6 =>
      intro v9_6 h
      replace h : impl_increasing_b6 (impl_increasing_l6 a0 a1 m6) a0 a1 v9_6 = some r := h
      refine lpC_step (fun Q5 n5 q5 x5 => ?_)
      refine w_sreg (w_abs [(0, .slice (a0.map e_i64)), (1, .int .i64 a1), (7, .slice (a0.map e_i64)), (8, .int .i64 (a0.length : Int)), (9, .int .i64 v9_6), (10, .bool (decide (v9_6 < (a0.length : Int))))] (fun P hP => ?_) ?_)
      · simp only [W0.down, Nat.reduceEqDiff, ↓reduceIte, reduceCtorEq, Nat.reduceAdd, Nat.reduceSub, Nat.reduceMul, Nat.reduceLeDiff, Nat.reduceBEq, Nat.reduceLT, if_true, if_false, beq_self_eq_true, BEq.rfl, ne_eq, e_i64]
        (try simp only [WN.down, Nat.reduceAdd, if_true, if_false, ↓reduceIte, e_i64] at hP)
        (try simp only [WN.down, Nat.reduceAdd, if_true, if_false, ↓reduceIte, e_i64])
        exact hP
      refine w_seq (fun Q7 n7 q7 x7 => ?_)
      rcases condE h with ⟨b8, h⟩ | ⟨b8, h⟩
      · refine w_ct (congrArg AV.bool b8) ?_
        simp only [b8, Bool.not_true, Bool.not_false]
        refine w_skip (n7 _ (.inl ?_))
        refine w_seq (fun Q9 n9 q9 x9 => ?_)
        refine w_blk (fun Q10 n10 q10 b10 x10 => ?_)
        obtain ⟨x1, e12, h⟩ := bindE h
        refine w_sreg (w_abs [(0, .slice (a0.map e_i64)), (1, .int .i64 a1), (5, .int .i64 v9_6), (6, .int .i64 x1), (7, .slice (a0.map e_i64)), (8, .int .i64 (a0.length : Int)), (9, .int .i64 v9_6)] (fun P hP => ?_) ?_)
        · simp only [W0.down, Nat.reduceEqDiff, ↓reduceIte, reduceCtorEq, Nat.reduceAdd, Nat.reduceSub, Nat.reduceMul, Nat.reduceLeDiff, Nat.reduceBEq, Nat.reduceLT, if_true, if_false, beq_self_eq_true, BEq.rfl, ne_eq, tt2, tt68, e_i64, e12]
          (try simp only [WN.down, Nat.reduceAdd, if_true, if_false, ↓reduceIte, tt2, tt68, e_i64, e12] at hP)
          (try simp only [WN.down, Nat.reduceAdd, if_true, if_false, ↓reduceIte, tt2, tt68, e_i64, e12])
          exact hP
        obtain ⟨x2, e14, h⟩ := bindE h
        rcases condE h with ⟨b15, h⟩ | ⟨b15, h⟩
        · refine w_sreg (w_abs [(0, .slice (a0.map e_i64)), (1, .int .i64 a1), (7, .slice (a0.map e_i64)), (8, .int .i64 (a0.length : Int)), (9, .int .i64 v9_6), (30, .bool true)] (fun P hP => ?_) ?_)
          · simp only [W0.down, Nat.reduceEqDiff, ↓reduceIte, reduceCtorEq, Nat.reduceAdd, Nat.reduceSub, Nat.reduceMul, Nat.reduceLeDiff, Nat.reduceBEq, Nat.reduceLT, if_true, if_false, beq_self_eq_true, BEq.rfl, ne_eq, tt2, tt68, e_i64, b15]
            refine w_call0 (ok_impl_index x1 a1 _ e14) rfl rfl rfl rfl (.inl rfl) ?_
            simp only [W0.down, Nat.reduceEqDiff, ↓reduceIte, reduceCtorEq, Nat.reduceAdd, Nat.reduceSub, Nat.reduceMul, Nat.reduceLeDiff, Nat.reduceBEq, Nat.reduceLT, if_true, if_false, beq_self_eq_true, BEq.rfl, ne_eq, tt2, tt68, e_i64, b15]
            (try simp only [WN.down, Nat.reduceAdd, if_true, if_false, ↓reduceIte, tt2, tt68, e_i64, b15] at hP)
            (try simp only [WN.down, Nat.reduceAdd, if_true, if_false, ↓reduceIte, tt2, tt68, e_i64, b15])
            exact hP
          refine w_ct rfl ?_
          refine w_sreg (w_abs [(4, .bool false)] (fun P hP => ?_) ?_)
          · simp only [W0.down, Nat.reduceEqDiff, ↓reduceIte, reduceCtorEq, Nat.reduceAdd, Nat.reduceSub, Nat.reduceMul, Nat.reduceLeDiff, Nat.reduceBEq, Nat.reduceLT, if_true, if_false, beq_self_eq_true, BEq.rfl, ne_eq, e_i64]
            (try simp only [WN.down, Nat.reduceAdd, if_true, if_false, ↓reduceIte, e_i64] at hP)
            (try simp only [WN.down, Nat.reduceAdd, if_true, if_false, ↓reduceIte, e_i64])
            exact hP
          exact w_ret (q10 _ (q9 _ (q5 _ (q4 _ (q2 _ (r0 _ (.inl (w_fin [.bool false] rfl (by cases someE h; rfl) (by decide) outs_nil))))))))
        · rcases condE h with ⟨b17, h⟩ | ⟨b17, h⟩
          · obtain ⟨x3, e18, h⟩ := bindE h
            refine w_sreg (w_abs [(0, .slice (a0.map e_i64)), (1, .int .i64 a1), (7, .slice (a0.map e_i64)), (8, .int .i64 (a0.length : Int)), (9, .int .i64 v9_6), (30, .bool (decide (x1 ≤ x3)))] (fun P hP => ?_) ?_)
            · simp only [W0.down, Nat.reduceEqDiff, ↓reduceIte, reduceCtorEq, Nat.reduceAdd, Nat.reduceSub, Nat.reduceMul, Nat.reduceLeDiff, Nat.reduceBEq, Nat.reduceLT, if_true, if_false, beq_self_eq_true, BEq.rfl, ne_eq, tt2, tt68, e_i64, b15, b17, e18]
              refine w_call0 (ok_impl_index x1 a1 _ e14) rfl rfl rfl rfl (.inl rfl) ?_
              simp only [W0.down, Nat.reduceEqDiff, ↓reduceIte, reduceCtorEq, Nat.reduceAdd, Nat.reduceSub, Nat.reduceMul, Nat.reduceLeDiff, Nat.reduceBEq, Nat.reduceLT, if_true, if_false, beq_self_eq_true, BEq.rfl, ne_eq, tt2, tt68, e_i64, b15, b17, e18]
              (try simp only [WN.down, Nat.reduceAdd, if_true, if_false, ↓reduceIte, tt2, tt68, e_i64, b15, b17, e18] at hP)
              (try simp only [WN.down, Nat.reduceAdd, if_true, if_false, ↓reduceIte, tt2, tt68, e_i64, b15, b17, e18])
              exact hP
            rcases condE h with ⟨b19, h⟩ | ⟨b19, h⟩
            · refine w_ct (congrArg AV.bool b19) ?_
              simp only [b19, Bool.not_true, Bool.not_false]
              refine w_sreg (w_abs [(4, .bool false)] (fun P hP => ?_) ?_)
              · simp only [W0.down, Nat.reduceEqDiff, ↓reduceIte, reduceCtorEq, Nat.reduceAdd, Nat.reduceSub, Nat.reduceMul, Nat.reduceLeDiff, Nat.reduceBEq, Nat.reduceLT, if_true, if_false, beq_self_eq_true, BEq.rfl, ne_eq, e_i64]
                (try simp only [WN.down, Nat.reduceAdd, if_true, if_false, ↓reduceIte, e_i64] at hP)
                (try simp only [WN.down, Nat.reduceAdd, if_true, if_false, ↓reduceIte, e_i64])
                exact hP
              exact w_ret (q10 _ (q9 _ (q5 _ (q4 _ (q2 _ (r0 _ (.inl (w_fin [.bool false] rfl (by cases someE h; rfl) (by decide) outs_nil))))))))
            · refine w_cf (congrArg AV.bool b19) ?_
              simp only [b19, Bool.not_true, Bool.not_false]
              refine w_skip (n10 _ (n9 _ (.inl ?_)))
              refine w_reg (w_abs [(0, .slice (a0.map e_i64)), (1, .int .i64 a1), (7, .slice (a0.map e_i64)), (8, .int .i64 (a0.length : Int)), (9, .int .i64 (IntKind.i64.wrap (v9_6 + 1)))] (fun P hP => ?_) ?_)
              · simp only [W0.down, Nat.reduceEqDiff, ↓reduceIte, reduceCtorEq, Nat.reduceAdd, Nat.reduceSub, Nat.reduceMul, Nat.reduceLeDiff, Nat.reduceBEq, Nat.reduceLT, if_true, if_false, beq_self_eq_true, BEq.rfl, ne_eq, e_i64]
                (try simp only [WN.down, Nat.reduceAdd, if_true, if_false, ↓reduceIte, e_i64] at hP)
                (try simp only [WN.down, Nat.reduceAdd, if_true, if_false, ↓reduceIte, e_i64])
                exact hP
              exact n5 _ (.inr ⟨_, weak_eq rfl, ih6 (IntKind.i64.wrap (v9_6 + 1)) h⟩)
          · refine w_sreg (w_abs [(0, .slice (a0.map e_i64)), (1, .int .i64 a1), (7, .slice (a0.map e_i64)), (8, .int .i64 (a0.length : Int)), (9, .int .i64 v9_6), (30, .bool false)] (fun P hP => ?_) ?_)
            · simp only [W0.down, Nat.reduceEqDiff, ↓reduceIte, reduceCtorEq, Nat.reduceAdd, Nat.reduceSub, Nat.reduceMul, Nat.reduceLeDiff, Nat.reduceBEq, Nat.reduceLT, if_true, if_false, beq_self_eq_true, BEq.rfl, ne_eq, tt2, tt68, e_i64, b15, b17]
              refine w_call0 (ok_impl_index x1 a1 _ e14) rfl rfl rfl rfl (.inl rfl) ?_
              simp only [W0.down, Nat.reduceEqDiff, ↓reduceIte, reduceCtorEq, Nat.reduceAdd, Nat.reduceSub, Nat.reduceMul, Nat.reduceLeDiff, Nat.reduceBEq, Nat.reduceLT, if_true, if_false, beq_self_eq_true, BEq.rfl, ne_eq, tt2, tt68, e_i64, b15, b17]
              (try simp only [WN.down, Nat.reduceAdd, if_true, if_false, ↓reduceIte, tt2, tt68, e_i64, b15, b17] at hP)
              (try simp only [WN.down, Nat.reduceAdd, if_true, if_false, ↓reduceIte, tt2, tt68, e_i64, b15, b17])
              exact hP
            refine w_cf rfl ?_
            refine w_skip (n10 _ (n9 _ (.inl ?_)))
            refine w_reg (w_abs [(0, .slice (a0.map e_i64)), (1, .int .i64 a1), (7, .slice (a0.map e_i64)), (8, .int .i64 (a0.length : Int)), (9, .int .i64 (IntKind.i64.wrap (v9_6 + 1)))] (fun P hP => ?_) ?_)
            · simp only [W0.down, Nat.reduceEqDiff, ↓reduceIte, reduceCtorEq, Nat.reduceAdd, Nat.reduceSub, Nat.reduceMul, Nat.reduceLeDiff, Nat.reduceBEq, Nat.reduceLT, if_true, if_false, beq_self_eq_true, BEq.rfl, ne_eq, e_i64]
              (try simp only [WN.down, Nat.reduceAdd, if_true, if_false, ↓reduceIte, e_i64] at hP)
              (try simp only [WN.down, Nat.reduceAdd, if_true, if_false, ↓reduceIte, e_i64])
              exact hP
            exact n5 _ (.inr ⟨_, weak_eq rfl, ih6 (IntKind.i64.wrap (v9_6 + 1)) h⟩)
      · refine w_cf (congrArg AV.bool b8) ?_
        simp only [b8, Bool.not_true, Bool.not_false]
        refine w_ex (x7 0 _ (x5 0 _ (b4 _ (n2 _ (.inl ?_)))))
        refine w_sreg (w_abs [(4, .bool true)] (fun P hP => ?_) ?_)
        · simp only [W0.down, Nat.reduceEqDiff, ↓reduceIte, reduceCtorEq, Nat.reduceAdd, Nat.reduceSub, Nat.reduceMul, Nat.reduceLeDiff, Nat.reduceBEq, Nat.reduceLT, if_true, if_false, beq_self_eq_true, BEq.rfl, ne_eq, e_i64]
          (try simp only [WN.down, Nat.reduceAdd, if_true, if_false, ↓reduceIte, e_i64] at hP)
          (try simp only [WN.down, Nat.reduceAdd, if_true, if_false, ↓reduceIte, e_i64])
          exact hP
        exact w_ret (r0 _ (.inl (w_fin [.bool true] rfl (by cases someE h; rfl) (by decide) outs_nil)))
  obtain ⟨n, h⟩ := limE h
  exact w_loop (.inr ⟨_, weak_eq rfl, L6 n 0 h⟩)

theorem ok_impl_ValidEquations_c1_2 (a0 : impl_Equation) (a1 : List impl_Equation) (r : Bool) (h : impl_ValidEquations_c1_2 a0 a1 = some r) : OkAt Cc 67 [e_impl_Equation a0, .ref (.slice (a1.map e_impl_Equation))] (.bool r) [] := by
  refine OkAt.of_wpQ (fx := [0, 1]) Cc_ok Try.func67 rfl rfl s67 (Nat.le_of_ble_eq_true rfl) (fun Q0 r0 n0 => ?_)
  replace r0 : ∀ s, onW (Fw.Ends Cc [0, 1] [.tmp 3] (.bool r) []) s → Q0 .ret s := r0
  replace n0 : ∀ s, onW (Fw.Ends Cc [0, 1] [.tmp 3] (.bool r) []) s → Q0 .normal s := n0
  show wpC Cc c67 Q0 (stA [(0, e_impl_Equation a0), (1, .ref (.slice (a1.map e_impl_Equation)))])
  refine w_sreg (w_abs [(1, .ref (.slice (a1.map e_impl_Equation))), (2, .ubox (e_impl_Equation a0))] (fun P hP => ?_) ?_)
  · simp only [W0.down, Nat.reduceEqDiff, ↓reduceIte, reduceCtorEq, Nat.reduceAdd, Nat.reduceSub, Nat.reduceMul, Nat.reduceLeDiff, Nat.reduceBEq, Nat.reduceLT, if_true, if_false, beq_self_eq_true, BEq.rfl, ne_eq, tt2, tt4, tt68, tt72, e_i64, e_impl_Equation]
    (try simp only [WN.down, Nat.reduceAdd, if_true, if_false, ↓reduceIte, tt2, tt4, tt68, tt72, e_i64, e_impl_Equation] at hP)
    (try simp only [WN.down, Nat.reduceAdd, if_true, if_false, ↓reduceIte, tt2, tt4, tt68, tt72, e_i64, e_impl_Equation])
    exact hP
  obtain ⟨x1, e3, h⟩ := bindE h
  refine w_sreg (w_abs [(3, .bool (!x1))] (fun P hP => ?_) ?_)
  · simp only [W0.down, Nat.reduceEqDiff, ↓reduceIte, reduceCtorEq, Nat.reduceAdd, Nat.reduceSub, Nat.reduceMul, Nat.reduceLeDiff, Nat.reduceBEq, Nat.reduceLT, if_true, if_false, beq_self_eq_true, BEq.rfl, ne_eq, tt2, tt4, tt41, tt68, tt72, e_i64, e_impl_Equation]
    refine w_call0 (ok_impl_increasing a0.Terms (a1.length : Int) _ e3) rfl rfl rfl rfl (.inl rfl) ?_
    simp only [W0.down, Nat.reduceEqDiff, ↓reduceIte, reduceCtorEq, Nat.reduceAdd, Nat.reduceSub, Nat.reduceMul, Nat.reduceLeDiff, Nat.reduceBEq, Nat.reduceLT, if_true, if_false, beq_self_eq_true, BEq.rfl, ne_eq, tt2, tt4, tt41, tt68, tt72, e_i64, e_impl_Equation]
    (try simp only [WN.down, Nat.reduceAdd, if_true, if_false, ↓reduceIte, tt2, tt4, tt41, tt68, tt72, e_i64, e_impl_Equation] at hP)
    (try simp only [WN.down, Nat.reduceAdd, if_true, if_false, ↓reduceIte, tt2, tt4, tt41, tt68, tt72, e_i64, e_impl_Equation])
    exact hP
  exact w_ret (r0 _ (.inl (w_fin [.bool (!x1)] rfl (by cases someE h; rfl) (by decide) outs_nil)))

theorem ok_slices_IndexFunc_impl_Equation__impl_ValidEquations_c1 (a0 : List impl_Equation) (a1 : List impl_Equation) (r : Int) (h : slices_IndexFunc_impl_Equation__impl_ValidEquations_c1 a0 a1 = some r) : OkAt Cc 76 [.slice (a0.map e_impl_Equation), .fn 67 [.ref (.slice (a1.map e_impl_Equation))]] (.int .i64 r) [] := by
  refine OkAt.of_wpQ (fx := [0, 1]) Cc_ok Try.func76 rfl rfl s76 (Nat.le_of_ble_eq_true rfl) (fun Q0 r0 n0 => ?_)
  replace r0 : ∀ s, onW (Fw.Ends Cc [0, 1] [.tmp 4] (.int .i64 r) []) s → Q0 .ret s := r0
  replace n0 : ∀ s, onW (Fw.Ends Cc [0, 1] [.tmp 4] (.int .i64 r) []) s → Q0 .normal s := n0
  show wpC Cc c76 Q0 (stA [(0, .slice (a0.map e_impl_Equation)), (1, .fn 67 [.ref (.slice (a1.map e_impl_Equation))])])
  refine w_sreg (w_abs [(0, .slice (a0.map e_impl_Equation)), (1, .fn 67 [.ref (.slice (a1.map e_impl_Equation))])] (fun P hP => ?_) ?_)
  · simp only [W0.down, Nat.reduceEqDiff, ↓reduceIte, reduceCtorEq, Nat.reduceAdd, Nat.reduceSub, Nat.reduceMul, Nat.reduceLeDiff, Nat.reduceBEq, Nat.reduceLT, if_true, if_false, beq_self_eq_true, BEq.rfl, ne_eq, e_i64, e_impl_Equation]
    (try simp only [WN.down, Nat.reduceAdd, if_true, if_false, ↓reduceIte, e_i64, e_impl_Equation] at hP)
    (try simp only [WN.down, Nat.reduceAdd, if_true, if_false, ↓reduceIte, e_i64, e_impl_Equation])
    exact hP
  refine w_seq (fun Q2 n2 q2 x2 => ?_)
  refine w_sreg (w_abs [(0, .slice (a0.map e_impl_Equation)), (1, .fn 67 [.ref (.slice (a1.map e_impl_Equation))]), (7, .int .i64 (a0.length : Int)), (8, .int .i64 0)] (fun P hP => ?_) ?_)
  · simp only [W0.down, Nat.reduceEqDiff, ↓reduceIte, reduceCtorEq, Nat.reduceAdd, Nat.reduceSub, Nat.reduceMul, Nat.reduceLeDiff, Nat.reduceBEq, Nat.reduceLT, if_true, if_false, beq_self_eq_true, BEq.rfl, ne_eq, tt2, tt4, tt41, tt68, tt72, e_i64, e_impl_Equation]
    (try simp only [WN.down, Nat.reduceAdd, if_true, if_false, ↓reduceIte, tt2, tt4, tt41, tt68, tt72, e_i64, e_impl_Equation] at hP)
    (try simp only [WN.down, Nat.reduceAdd, if_true, if_false, ↓reduceIte, tt2, tt4, tt41, tt68, tt72, e_i64, e_impl_Equation])
    exact hP
  refine w_blk (fun Q4 n4 q4 b4 x4 => ?_)
  have L6 : ∀ (n : Nat) (v8_6 : Int), slices_IndexFunc_impl_Equation__impl_ValidEquations_c1_l6 a0 a1 n v8_6 = some r → lpC Cc c76_7 Q4 (stA [(0, .slice (a0.map e_impl_Equation)), (1, .fn 67 [.ref (.slice (a1.map e_impl_Equation))]), (7, .int .i64 (a0.length : Int)), (8, .int .i64 v8_6)]) := by
    intro m6
    induction m6 with
    | zero => intro v8_6 h; cases (show none = some r from h)
    | succ m6 ih6 =>
      intro v8_6 h
      replace h : slices_IndexFunc_impl_Equation__impl_ValidEquations_c1_b6 (slices_IndexFunc_impl_Equation__impl_ValidEquations_c1_l6 a0 a1 m6) a0 a1 v8_6 = some r := h
      refine lpC_step (fun Q5 n5 q5 x5 => ?_)
      refine w_sreg (w_abs [(0, .slice (a0.map e_impl_Equation)), (1, .fn 67 [.ref (.slice (a1.map e_impl_Equation))]), (7, .int .i64 (a0.length : Int)), (8, .int .i64 v8_6), (9, .bool (decide (v8_6 < (a0.length : Int))))] (fun P hP => ?_) ?_)
      · simp only [W0.down, Nat.reduceEqDiff, ↓reduceIte, reduceCtorEq, Nat.reduceAdd, Nat.reduceSub, Nat.reduceMul, Nat.reduceLeDiff, Nat.reduceBEq, Nat.reduceLT, if_true, if_false, beq_self_eq_true, BEq.rfl, ne_eq, e_i64, e_impl_Equation]
        (try simp only [WN.down, Nat.reduceAdd, if_true, if_false, ↓reduceIte, e_i64, e_impl_Equation] at hP)
        (try simp only [WN.down, Nat.reduceAdd, if_true, if_false, ↓reduceIte, e_i64, e_impl_Equation])
        exact hP
      refine w_seq (fun Q7 n7 q7 x7 => ?_)
      rcases condE h with ⟨b8, h⟩ | ⟨b8, h⟩
      · refine w_ct (congrArg AV.bool b8) ?_
        simp only [b8, Bool.not_true, Bool.not_false]
        refine w_skip (n7 _ (.inl ?_))
        refine w_seq (fun Q9 n9 q9 x9 => ?_)
        refine w_blk (fun Q10 n10 q10 b10 x10 => ?_)
        refine w_sreg (w_abs [(0, .slice (a0.map e_impl_Equation)), (1, .fn 67 [.ref (.slice (a1.map e_impl_Equation))]), (5, .int .i64 v8_6), (7, .int .i64 (a0.length : Int)), (8, .int .i64 v8_6)] (fun P hP => ?_) ?_)
        · simp only [W0.down, Nat.reduceEqDiff, ↓reduceIte, reduceCtorEq, Nat.reduceAdd, Nat.reduceSub, Nat.reduceMul, Nat.reduceLeDiff, Nat.reduceBEq, Nat.reduceLT, if_true, if_false, beq_self_eq_true, BEq.rfl, ne_eq, e_i64, e_impl_Equation]
          (try simp only [WN.down, Nat.reduceAdd, if_true, if_false, ↓reduceIte, e_i64, e_impl_Equation] at hP)
          (try simp only [WN.down, Nat.reduceAdd, if_true, if_false, ↓reduceIte, e_i64, e_impl_Equation])
          exact hP
        obtain ⟨x1, e13, h⟩ := bindE h
        obtain ⟨x2, e14, h⟩ := bindE h
        refine w_sreg (w_abs [(0, .slice (a0.map e_impl_Equation)), (1, .fn 67 [.ref (.slice (a1.map e_impl_Equation))]), (5, .int .i64 v8_6), (7, .int .i64 (a0.length : Int)), (8, .int .i64 v8_6), (16, .bool x2)] (fun P hP => ?_) ?_)
        · simp only [W0.down, Nat.reduceEqDiff, ↓reduceIte, reduceCtorEq, Nat.reduceAdd, Nat.reduceSub, Nat.reduceMul, Nat.reduceLeDiff, Nat.reduceBEq, Nat.reduceLT, if_true, if_false, beq_self_eq_true, BEq.rfl, ne_eq, tt2, tt4, tt41, tt68, tt72, e_i64, e_impl_Equation, e13]
          refine w_call0 (ok_impl_ValidEquations_c1_2 x1 a1 _ e14) rfl rfl rfl rfl (.inl rfl) ?_
          simp only [W0.down, Nat.reduceEqDiff, ↓reduceIte, reduceCtorEq, Nat.reduceAdd, Nat.reduceSub, Nat.reduceMul, Nat.reduceLeDiff, Nat.reduceBEq, Nat.reduceLT, if_true, if_false, beq_self_eq_true, BEq.rfl, ne_eq, tt2, tt4, tt41, tt68, tt72, e_i64, e_impl_Equation, e13]
          (try simp only [WN.down, Nat.reduceAdd, if_true, if_false, ↓reduceIte, tt2, tt4, tt41, tt68, tt72, e_i64, e_impl_Equation, e13] at hP)
          (try simp only [WN.down, Nat.reduceAdd, if_true, if_false, ↓reduceIte, tt2, tt4, tt41, tt68, tt72, e_i64, e_impl_Equation, e13])
          exact hP
        rcases condE h with ⟨b15, h⟩ | ⟨b15, h⟩
        · refine w_ct (congrArg AV.bool b15) ?_
          simp only [b15, Bool.not_true, Bool.not_false]
          refine w_sreg (w_abs [(4, .int .i64 v8_6)] (fun P hP => ?_) ?_)
          · simp only [W0.down, Nat.reduceEqDiff, ↓reduceIte, reduceCtorEq, Nat.reduceAdd, Nat.reduceSub, Nat.reduceMul, Nat.reduceLeDiff, Nat.reduceBEq, Nat.reduceLT, if_true, if_false, beq_self_eq_true, BEq.rfl, ne_eq, e_i64, e_impl_Equation]
            (try simp only [WN.down, Nat.reduceAdd, if_true, if_false, ↓reduceIte, e_i64, e_impl_Equation] at hP)
            (try simp only [WN.down, Nat.reduceAdd, if_true, if_false, ↓reduceIte, e_i64, e_impl_Equation])
            exact hP
          exact w_ret (q10 _ (q9 _ (q5 _ (q4 _ (q2 _ (r0 _ (.inl (w_fin [.int .i64 v8_6] rfl (by cases someE h; rfl) (by decide) outs_nil))))))))
        · refine w_cf (congrArg AV.bool b15) ?_
          simp only [b15, Bool.not_true, Bool.not_false]
          refine w_skip (n10 _ (n9 _ (.inl ?_)))
          refine w_reg (w_abs [(0, .slice (a0.map e_impl_Equation)), (1, .fn 67 [.ref (.slice (a1.map e_impl_Equation))]), (7, .int .i64 (a0.length : Int)), (8, .int .i64 (IntKind.i64.wrap (v8_6 + 1)))] (fun P hP => ?_) ?_)
          · simp only [W0.down, Nat.reduceEqDiff, ↓reduceIte, reduceCtorEq, Nat.reduceAdd, Nat.reduceSub, Nat.reduceMul, Nat.reduceLeDiff, Nat.reduceBEq, Nat.reduceLT, if_true, if_false, beq_self_eq_true, BEq.rfl, ne_eq, e_i64, e_impl_Equation]
            (try simp only [WN.down, Nat.reduceAdd, if_true, if_false, ↓reduceIte, e_i64, e_impl_Equation] at hP)
            (try simp only [WN.down, Nat.reduceAdd, if_true, if_false, ↓reduceIte, e_i64, e_impl_Equation])
            exact hP
          exact n5 _ (.inr ⟨_, weak_eq rfl, ih6 (IntKind.i64.wrap (v8_6 + 1)) h⟩)
      · refine w_cf (congrArg AV.bool b8) ?_
        simp only [b8, Bool.not_true, Bool.not_false]
        refine w_ex (x7 0 _ (x5 0 _ (b4 _ (n2 _ (.inl ?_)))))
        refine w_sreg (w_abs [(4, .int .i64 (-1))] (fun P hP => ?_) ?_)
        · simp only [W0.down, Nat.reduceEqDiff, ↓reduceIte, reduceCtorEq, Nat.reduceAdd, Nat.reduceSub, Nat.reduceMul, Nat.reduceLeDiff, Nat.reduceBEq, Nat.reduceLT, if_true, if_false, beq_self_eq_true, BEq.rfl, ne_eq, e_i64, e_impl_Equation]
          (try simp only [WN.down, Nat.reduceAdd, if_true, if_false, ↓reduceIte, e_i64, e_impl_Equation] at hP)
          (try simp only [WN.down, Nat.reduceAdd, if_true, if_false, ↓reduceIte, e_i64, e_impl_Equation])
          exact hP
        exact w_ret (r0 _ (.inl (w_fin [.int .i64 (-1)] rfl (by cases someE h; rfl) (by decide) outs_nil)))
  obtain ⟨n, h⟩ := limE h
  exact w_loop (.inr ⟨_, weak_eq rfl, L6 n 0 h⟩)

theorem ok_slices_ContainsFunc_impl_Equation__impl_ValidEquations_c1 (a0 : List impl_Equation) (a1 : List impl_Equation) (r : Bool) (h : slices_ContainsFunc_impl_Equation__impl_ValidEquations_c1 a0 a1 = some r) : OkAt Cc 66 [.slice (a0.map e_impl_Equation), .fn 67 [.ref (.slice (a1.map e_impl_Equation))]] (.bool r) [] := by
  refine OkAt.of_wpQ (fx := [0, 1]) Cc_ok Try.func66 rfl rfl s66 (Nat.le_of_ble_eq_true rfl) (fun Q0 r0 n0 => ?_)
  replace r0 : ∀ s, onW (Fw.Ends Cc [0, 1] [.tmp 4] (.bool r) []) s → Q0 .ret s := r0
  replace n0 : ∀ s, onW (Fw.Ends Cc [0, 1] [.tmp 4] (.bool r) []) s → Q0 .normal s := n0
  show wpC Cc c66 Q0 (stA [(0, .slice (a0.map e_impl_Equation)), (1, .fn 67 [.ref (.slice (a1.map e_impl_Equation))])])
  refine w_sreg (w_abs [(0, .slice (a0.map e_impl_Equation)), (1, .fn 67 [.ref (.slice (a1.map e_impl_Equation))])] (fun P hP => ?_) ?_)
  · simp only [W0.down, Nat.reduceEqDiff, ↓reduceIte, reduceCtorEq, Nat.reduceAdd, Nat.reduceSub, Nat.reduceMul, Nat.reduceLeDiff, Nat.reduceBEq, Nat.reduceLT, if_true, if_false, beq_self_eq_true, BEq.rfl, ne_eq, e_i64, e_impl_Equation]
    (try simp only [WN.down, Nat.reduceAdd, if_true, if_false, ↓reduceIte, e_i64, e_impl_Equation] at hP)
    (try simp only [WN.down, Nat.reduceAdd, if_true, if_false, ↓reduceIte, e_i64, e_impl_Equation])
    exact hP
  obtain ⟨x1, e3, h⟩ := bindE h
  refine w_sreg (w_abs [(4, .bool (decide (0 ≤ x1)))] (fun P hP => ?_) ?_)
  · simp only [W0.down, Nat.reduceEqDiff, ↓reduceIte, reduceCtorEq, Nat.reduceAdd, Nat.reduceSub, Nat.reduceMul, Nat.reduceLeDiff, Nat.reduceBEq, Nat.reduceLT, if_true, if_false, beq_self_eq_true, BEq.rfl, ne_eq, e_i64, e_impl_Equation]
    refine w_call0 (ok_slices_IndexFunc_impl_Equation__impl_ValidEquations_c1 a0 a1 _ e3) rfl rfl rfl rfl (.inl rfl) ?_
    simp only [W0.down, Nat.reduceEqDiff, ↓reduceIte, reduceCtorEq, Nat.reduceAdd, Nat.reduceSub, Nat.reduceMul, Nat.reduceLeDiff, Nat.reduceBEq, Nat.reduceLT, if_true, if_false, beq_self_eq_true, BEq.rfl, ne_eq, e_i64, e_impl_Equation]
    (try simp only [WN.down, Nat.reduceAdd, if_true, if_false, ↓reduceIte, e_i64, e_impl_Equation] at hP)
    (try simp only [WN.down, Nat.reduceAdd, if_true, if_false, ↓reduceIte, e_i64, e_impl_Equation])
    exact hP
  exact w_ret (r0 _ (.inl (w_fin [.bool (decide (0 ≤ x1))] rfl (by cases someE h; rfl) (by decide) outs_nil)))

theorem ok_impl_ValidEquations (a0 : List impl_Equation) (r : Bool) (h : impl_ValidEquations a0 = some r) : OkAt Cc 47 [.slice (a0.map e_impl_Equation)] (.bool r) [] := by
  refine OkAt.of_wpQ (fx := [0]) Cc_ok Try.func47 rfl rfl s47 (Nat.le_of_ble_eq_true rfl) (fun Q0 r0 n0 => ?_)
  replace r0 : ∀ s, onW (Fw.Ends Cc [0] [.tmp 2] (.bool r) []) s → Q0 .ret s := r0
  replace n0 : ∀ s, onW (Fw.Ends Cc [0] [.tmp 2] (.bool r) []) s → Q0 .normal s := n0
  show wpC Cc c47 Q0 (stA [(0, .slice (a0.map e_impl_Equation))])
  refine w_sreg (w_abs [(1, .ubox (.slice (a0.map e_impl_Equation)))] (fun P hP => ?_) ?_)
  · simp only [W0.down, Nat.reduceEqDiff, ↓reduceIte, reduceCtorEq, Nat.reduceAdd, Nat.reduceSub, Nat.reduceMul, Nat.reduceLeDiff, Nat.reduceBEq, Nat.reduceLT, if_true, if_false, beq_self_eq_true, BEq.rfl, ne_eq, tt2, tt4, tt41, tt68, tt72, e_i64, e_impl_Equation]
    (try simp only [WN.down, Nat.reduceAdd, if_true, if_false, ↓reduceIte, tt2, tt4, tt41, tt68, tt72, e_i64, e_impl_Equation] at hP)
    (try simp only [WN.down, Nat.reduceAdd, if_true, if_false, ↓reduceIte, tt2, tt4, tt41, tt68, tt72, e_i64, e_impl_Equation])
    exact hP
  refine w_seq (fun Q2 n2 q2 x2 => ?_)
  obtain ⟨x1, e4, h⟩ := bindE h
  rcases condE h with ⟨b5, h⟩ | ⟨b5, h⟩
  · refine w_sreg (w_abs [(1, .ubox (.slice (a0.map e_impl_Equation))), (11, .bool true)] (fun P hP => ?_) ?_)
    · simp only [W0.down, Nat.reduceEqDiff, ↓reduceIte, reduceCtorEq, Nat.reduceAdd, Nat.reduceSub, Nat.reduceMul, Nat.reduceLeDiff, Nat.reduceBEq, Nat.reduceLT, if_true, if_false, beq_self_eq_true, BEq.rfl, ne_eq, tt2, tt4, tt41, tt68, tt72, e_i64, e_impl_Equation, b5]
      refine w_call0 (ok_impl_within (a0.length : Int) 1 120 _ e4) rfl rfl rfl rfl (.inl rfl) ?_
      simp only [W0.down, Nat.reduceEqDiff, ↓reduceIte, reduceCtorEq, Nat.reduceAdd, Nat.reduceSub, Nat.reduceMul, Nat.reduceLeDiff, Nat.reduceBEq, Nat.reduceLT, if_true, if_false, beq_self_eq_true, BEq.rfl, ne_eq, tt2, tt4, tt41, tt68, tt72, e_i64, e_impl_Equation, b5]
      (try simp only [WN.down, Nat.reduceAdd, if_true, if_false, ↓reduceIte, tt2, tt4, tt41, tt68, tt72, e_i64, e_impl_Equation, b5] at hP)
      (try simp only [WN.down, Nat.reduceAdd, if_true, if_false, ↓reduceIte, tt2, tt4, tt41, tt68, tt72, e_i64, e_impl_Equation, b5])
      exact hP
    refine w_ct rfl ?_
    refine w_sreg (w_abs [(2, .bool false)] (fun P hP => ?_) ?_)
    · simp only [W0.down, Nat.reduceEqDiff, ↓reduceIte, reduceCtorEq, Nat.reduceAdd, Nat.reduceSub, Nat.reduceMul, Nat.reduceLeDiff, Nat.reduceBEq, Nat.reduceLT, if_true, if_false, beq_self_eq_true, BEq.rfl, ne_eq, e_i64, e_impl_Equation]
      (try simp only [WN.down, Nat.reduceAdd, if_true, if_false, ↓reduceIte, e_i64, e_impl_Equation] at hP)
      (try simp only [WN.down, Nat.reduceAdd, if_true, if_false, ↓reduceIte, e_i64, e_impl_Equation])
      exact hP
    exact w_ret (q2 _ (r0 _ (.inl (w_fin [.bool false] rfl (by cases someE h; rfl) (by decide) outs_nil))))
  · obtain ⟨x2, e7, h⟩ := bindE h
    refine w_sreg (w_abs [(1, .ubox (.slice (a0.map e_impl_Equation))), (11, .bool (!x2))] (fun P hP => ?_) ?_)
    · simp only [W0.down, Nat.reduceEqDiff, ↓reduceIte, reduceCtorEq, Nat.reduceAdd, Nat.reduceSub, Nat.reduceMul, Nat.reduceLeDiff, Nat.reduceBEq, Nat.reduceLT, if_true, if_false, beq_self_eq_true, BEq.rfl, ne_eq, tt2, tt4, tt41, tt68, tt72, e_i64, e_impl_Equation, b5]
      refine w_call0 (ok_impl_within (a0.length : Int) 1 120 _ e4) rfl rfl rfl rfl (.inl rfl) ?_
      simp only [W0.down, Nat.reduceEqDiff, ↓reduceIte, reduceCtorEq, Nat.reduceAdd, Nat.reduceSub, Nat.reduceMul, Nat.reduceLeDiff, Nat.reduceBEq, Nat.reduceLT, if_true, if_false, beq_self_eq_true, BEq.rfl, ne_eq, tt2, tt4, tt41, tt68, tt72, e_i64, e_impl_Equation, b5]
      refine w_callg0 (ok_impl_blocksFit a0 _ e7) rfl rfl rfl rfl (.inl rfl) ?_
      simp only [W0.down, Nat.reduceEqDiff, ↓reduceIte, reduceCtorEq, Nat.reduceAdd, Nat.reduceSub, Nat.reduceMul, Nat.reduceLeDiff, Nat.reduceBEq, Nat.reduceLT, if_true, if_false, beq_self_eq_true, BEq.rfl, ne_eq, tt2, tt4, tt41, tt68, tt72, e_i64, e_impl_Equation, b5]
      (try simp only [WN.down, Nat.reduceAdd, if_true, if_false, ↓reduceIte, tt2, tt4, tt41, tt68, tt72, e_i64, e_impl_Equation, b5] at hP)
      (try simp only [WN.down, Nat.reduceAdd, if_true, if_false, ↓reduceIte, tt2, tt4, tt41, tt68, tt72, e_i64, e_impl_Equation, b5])
      exact hP
    rcases condE h with ⟨b8, h⟩ | ⟨b8, h⟩
    · refine w_ct (congrArg AV.bool b8) ?_
      simp only [b8, Bool.not_true, Bool.not_false]
      refine w_sreg (w_abs [(2, .bool false)] (fun P hP => ?_) ?_)
      · simp only [W0.down, Nat.reduceEqDiff, ↓reduceIte, reduceCtorEq, Nat.reduceAdd, Nat.reduceSub, Nat.reduceMul, Nat.reduceLeDiff, Nat.reduceBEq, Nat.reduceLT, if_true, if_false, beq_self_eq_true, BEq.rfl, ne_eq, e_i64, e_impl_Equation]
        (try simp only [WN.down, Nat.reduceAdd, if_true, if_false, ↓reduceIte, e_i64, e_impl_Equation] at hP)
        (try simp only [WN.down, Nat.reduceAdd, if_true, if_false, ↓reduceIte, e_i64, e_impl_Equation])
        exact hP
      exact w_ret (q2 _ (r0 _ (.inl (w_fin [.bool false] rfl (by cases someE h; rfl) (by decide) outs_nil))))
    · refine w_cf (congrArg AV.bool b8) ?_
      simp only [b8, Bool.not_true, Bool.not_false]
      refine w_skip (n2 _ (.inl ?_))
      obtain ⟨x3, e11, h⟩ := bindE h
      refine w_sreg (w_abs [(2, .bool (!x3))] (fun P hP => ?_) ?_)
      · simp only [W0.down, Nat.reduceEqDiff, ↓reduceIte, reduceCtorEq, Nat.reduceAdd, Nat.reduceSub, Nat.reduceMul, Nat.reduceLeDiff, Nat.reduceBEq, Nat.reduceLT, if_true, if_false, beq_self_eq_true, BEq.rfl, ne_eq, tt2, tt4, tt41, tt68, tt72, e_i64, e_impl_Equation]
        refine w_call0 (ok_slices_ContainsFunc_impl_Equation__impl_ValidEquations_c1 a0 a0 _ e11) rfl rfl (by simp only [W0.down, Nat.reduceEqDiff, ↓reduceIte, reduceCtorEq, Nat.reduceAdd, Nat.reduceSub, Nat.reduceMul, Nat.reduceLeDiff, Nat.reduceBEq, Nat.reduceLT, if_true, if_false, beq_self_eq_true, BEq.rfl, ne_eq, tt2, tt4, tt41, tt68, tt72, e_i64, e_impl_Equation, view_s, view_h, viewH_s, share_s, @shares_map _ e_impl_Equation e_impl_Equation (fun _ => sh_e_impl_Equation _)]) rfl (.inr rfl) ?_
        simp only [W0.down, Nat.reduceEqDiff, ↓reduceIte, reduceCtorEq, Nat.reduceAdd, Nat.reduceSub, Nat.reduceMul, Nat.reduceLeDiff, Nat.reduceBEq, Nat.reduceLT, if_true, if_false, beq_self_eq_true, BEq.rfl, ne_eq, tt2, tt4, tt41, tt68, tt72, e_i64, e_impl_Equation]
        (try simp only [WN.down, Nat.reduceAdd, if_true, if_false, ↓reduceIte, tt2, tt4, tt41, tt68, tt72, e_i64, e_impl_Equation] at hP)
        (try simp only [WN.down, Nat.reduceAdd, if_true, if_false, ↓reduceIte, tt2, tt4, tt41, tt68, tt72, e_i64, e_impl_Equation])
        exact hP
      exact w_ret (r0 _ (.inl (w_fin [.bool (!x3)] rfl (by cases someE h; rfl) (by decide) outs_nil)))

theorem ok_impl_writer_number (a0 : List UInt8) (a1 : List Int) (r : (List UInt8)) (h : impl_writer_number a0 a1 = some r) : OkAt Cc 48 [.ubox (.agg [.uslice 1 (a0.map byteAV)]), .slice (a1.map e_i64)] (.tuple []) [.ubox (.agg [.uslice 1 (r.map byteAV)]), .hole] := by
  refine OkAt.of_wpQ (fx := [0, 1]) Cc_ok Try.func48 rfl rfl s48 (Nat.le_of_ble_eq_true rfl) (fun Q0 r0 n0 => ?_)
  replace r0 : ∀ s, onW (Fw.Ends Cc [0, 1] [] (.tuple []) [.ubox (.agg [.uslice 1 (r.map byteAV)]), .hole]) s → Q0 .ret s := r0
  replace n0 : ∀ s, onW (Fw.Ends Cc [0, 1] [] (.tuple []) [.ubox (.agg [.uslice 1 (r.map byteAV)]), .hole]) s → Q0 .normal s := n0
  show wpC Cc c48 Q0 (stA [(0, .ubox (.agg [.uslice 1 (a0.map byteAV)])), (1, .slice (a1.map e_i64))])
  refine w_sreg (w_abs [(0, .ubox (.agg [.uslice 1 (a0.map byteAV)])), (6, .slice (a1.map e_i64)), (7, .int .i64 (a1.length : Int)), (8, .int .i64 0)] (fun P hP => ?_) ?_)
  · simp only [W0.down, Nat.reduceEqDiff, ↓reduceIte, reduceCtorEq, Nat.reduceAdd, Nat.reduceSub, Nat.reduceMul, Nat.reduceLeDiff, Nat.reduceBEq, Nat.reduceLT, if_true, if_false, beq_self_eq_true, BEq.rfl, ne_eq, tt2, tt68, byteAV, e_i64]
    (try simp only [WN.down, Nat.reduceAdd, if_true, if_false, ↓reduceIte, tt2, tt68, byteAV, e_i64] at hP)
    (try simp only [WN.down, Nat.reduceAdd, if_true, if_false, ↓reduceIte, tt2, tt68, byteAV, e_i64])
    exact hP
  refine w_blk (fun Q2 n2 q2 b2 x2 => ?_)
  have L3 : ∀ (n : Nat) (v0_3 : List UInt8) (v8_3 : Int), impl_writer_number_l3 a1 n v0_3 v8_3 = some r → lpC Cc c48_4 Q2 (stA [(0, .ubox (.agg [.uslice 1 (v0_3.map byteAV)])), (6, .slice (a1.map e_i64)), (7, .int .i64 (a1.length : Int)), (8, .int .i64 v8_3)]) := by
    intro m3
    induction m3 with
    | zero => intro v0_3 v8_3 h; cases (show none = some r from h)
    | succ m3 ih3 =>
      intro v0_3 v8_3 h
      replace h : impl_writer_number_b3 (impl_writer_number_l3 a1 m3) a1 v0_3 v8_3 = some r := h
      refine lpC_step (fun Q3 n3 q3 x3 => ?_)
      refine w_sreg (w_abs [(0, .ubox (.agg [.uslice 1 (v0_3.map byteAV)])), (6, .slice (a1.map e_i64)), (7, .int .i64 (a1.length : Int)), (8, .int .i64 v8_3), (9, .bool (decide (v8_3 < (a1.length : Int))))] (fun P hP => ?_) ?_)
      · simp only [W0.down, Nat.reduceEqDiff, ↓reduceIte, reduceCtorEq, Nat.reduceAdd, Nat.reduceSub, Nat.reduceMul, Nat.reduceLeDiff, Nat.reduceBEq, Nat.reduceLT, if_true, if_false, beq_self_eq_true, BEq.rfl, ne_eq, byteAV, e_i64]
        (try simp only [WN.down, Nat.reduceAdd, if_true, if_false, ↓reduceIte, byteAV, e_i64] at hP)
        (try simp only [WN.down, Nat.reduceAdd, if_true, if_false, ↓reduceIte, byteAV, e_i64])
        exact hP
      refine w_seq (fun Q5 n5 q5 x5 => ?_)
      rcases condE h with ⟨b6, h⟩ | ⟨b6, h⟩
      · refine w_ct (congrArg AV.bool b6) ?_
        simp only [b6, Bool.not_true, Bool.not_false]
        refine w_skip (n5 _ (.inl ?_))
        refine w_seq (fun Q7 n7 q7 x7 => ?_)
        refine w_blk (fun Q8 n8 q8 b8 x8 => ?_)
        obtain ⟨x1, e10, h⟩ := bindE h
        refine w_sreg (w_abs [(0, .ubox (.agg [.uslice 1 (v0_3.map byteAV)])), (5, .int .i64 x1), (6, .slice (a1.map e_i64)), (7, .int .i64 (a1.length : Int)), (8, .int .i64 v8_3)] (fun P hP => ?_) ?_)
        · simp only [W0.down, Nat.reduceEqDiff, ↓reduceIte, reduceCtorEq, Nat.reduceAdd, Nat.reduceSub, Nat.reduceMul, Nat.reduceLeDiff, Nat.reduceBEq, Nat.reduceLT, if_true, if_false, beq_self_eq_true, BEq.rfl, ne_eq, tt2, tt68, byteAV, e_i64, e10]
          (try simp only [WN.down, Nat.reduceAdd, if_true, if_false, ↓reduceIte, tt2, tt68, byteAV, e_i64, e10] at hP)
          (try simp only [WN.down, Nat.reduceAdd, if_true, if_false, ↓reduceIte, tt2, tt68, byteAV, e_i64, e10])
          exact hP
        refine w_seq (fun Q11 n11 q11 x11 => ?_)
        refine w_blk (fun Q12 n12 q12 b12 x12 => ?_)
        have L16 : ∀ (n : Nat) (v0_16 : List UInt8) (v5_16 : Int) (v8_16 : Int), impl_writer_number_l16 (impl_writer_number_l3 a1 m3) a1 n v0_16 v5_16 v8_16 = some r → lpC Cc c48_17 Q12 (stA [(0, .ubox (.agg [.uslice 1 (v0_16.map byteAV)])), (5, .int .i64 v5_16), (6, .slice (a1.map e_i64)), (7, .int .i64 (a1.length : Int)), (8, .int .i64 v8_16)]) := by
          intro m16
          induction m16 with
          | zero => intro v0_16 v5_16 v8_16 h; cases (show none = some r from h)
          | succ m16 ih16 =>
            intro v0_16 v5_16 v8_16 h
            replace h : impl_writer_number_b16 (impl_writer_number_l3 a1 m3) (impl_writer_number_l16 (impl_writer_number_l3 a1 m3) a1 m16) a1 v0_16 v5_16 v8_16 = some r := h
            refine lpC_step (fun Q13 n13 q13 x13 => ?_)
            refine w_seq (fun Q14 n14 q14 x14 => ?_)
            refine w_sreg (w_abs [(0, .ubox (.agg [.uslice 1 (v0_16.map byteAV)])), (5, .int .i64 v5_16), (6, .slice (a1.map e_i64)), (7, .int .i64 (a1.length : Int)), (8, .int .i64 v8_16), (13, .bool (decide (128 ≤ v5_16)))] (fun P hP => ?_) ?_)
            · simp only [W0.down, Nat.reduceEqDiff, ↓reduceIte, reduceCtorEq, Nat.reduceAdd, Nat.reduceSub, Nat.reduceMul, Nat.reduceLeDiff, Nat.reduceBEq, Nat.reduceLT, if_true, if_false, beq_self_eq_true, BEq.rfl, ne_eq, byteAV, e_i64]
              (try simp only [WN.down, Nat.reduceAdd, if_true, if_false, ↓reduceIte, byteAV, e_i64] at hP)
              (try simp only [WN.down, Nat.reduceAdd, if_true, if_false, ↓reduceIte, byteAV, e_i64])
              exact hP
            rcases condE h with ⟨b16, h⟩ | ⟨b16, h⟩
            · refine w_ct (congrArg AV.bool b16) ?_
              simp only [b16, Bool.not_true, Bool.not_false]
              refine w_skip (n14 _ (.inl ?_))
              refine w_blk (fun Q17 n17 q17 b17 x17 => ?_)
              obtain ⟨u20, e19, h⟩ := bindE h
              (try simp only [List.length_append, List.length_cons, List.length_nil, List.length_map, List.length_replicate, Nat.zero_add, Nat.add_zero, Nat.reduceAdd] at e19)
              refine w_sreg (w_abs [(0, .ubox (.agg [.uslice 1 ((v0_16 ++ [(toB (IntKind.i64.wrap (128 + (Int.tmod v5_16 128))))]).map byteAV)])), (5, .int .i64 v5_16), (6, .slice (a1.map e_i64)), (7, .int .i64 (a1.length : Int)), (8, .int .i64 v8_16)] (fun P hP => ?_) ?_)
              · simp only [W0.down, Nat.reduceEqDiff, ↓reduceIte, reduceCtorEq, Nat.reduceAdd, Nat.reduceSub, Nat.reduceMul, Nat.reduceLeDiff, Nat.reduceBEq, Nat.reduceLT, if_true, if_false, beq_self_eq_true, BEq.rfl, ne_eq, tt5, tt59, tt76, byteAV, e_i64, @bnI_rem' .i64 128 (by decide), @cvt_i' Cc 2 5 .u8 rfl rfl, (show ∀ s, bsl Cc s 59 1 [(0, .int .u8 (IntKind.u8.wrap (IntKind.i64.wrap (128 + (Int.tmod v5_16 128)))))] = some (.uslice 1 [.int .u8 (IntKind.u8.wrap (IntKind.i64.wrap (128 + (Int.tmod v5_16 128))))], s) from fun s => by kernel_rfl), @apd_s Cc 59 59 5 rfl rfl, ap_s, ap2_s, ap3_s, all_cons, all_nil, e19, byte_all]
                (try simp only [WN.down, Nat.reduceAdd, if_true, if_false, ↓reduceIte, tt5, tt59, tt76, byteAV, e_i64, @bnI_rem' .i64 128 (by decide), @cvt_i' Cc 2 5 .u8 rfl rfl, (show ∀ s, bsl Cc s 59 1 [(0, .int .u8 (IntKind.u8.wrap (IntKind.i64.wrap (128 + (Int.tmod v5_16 128)))))] = some (.uslice 1 [.int .u8 (IntKind.u8.wrap (IntKind.i64.wrap (128 + (Int.tmod v5_16 128))))], s) from fun s => by kernel_rfl), @apd_s Cc 59 59 5 rfl rfl, ap_s, ap2_s, ap3_s, all_cons, all_nil, e19, byte_all] at hP)
                (try simp only [WN.down, Nat.reduceAdd, if_true, if_false, ↓reduceIte, tt5, tt59, tt76, byteAV, e_i64, @bnI_rem' .i64 128 (by decide), @cvt_i' Cc 2 5 .u8 rfl rfl, (show ∀ s, bsl Cc s 59 1 [(0, .int .u8 (IntKind.u8.wrap (IntKind.i64.wrap (128 + (Int.tmod v5_16 128)))))] = some (.uslice 1 [.int .u8 (IntKind.u8.wrap (IntKind.i64.wrap (128 + (Int.tmod v5_16 128))))], s) from fun s => by kernel_rfl), @apd_s Cc 59 59 5 rfl rfl, ap_s, ap2_s, ap3_s, all_cons, all_nil, e19, byte_all])
                exact hP
              refine w_reg (w_abs [(0, .ubox (.agg [.uslice 1 ((v0_16 ++ [(toB (IntKind.i64.wrap (128 + (Int.tmod v5_16 128))))]).map byteAV)])), (5, .int .i64 (IntKind.i64.wrap (Int.tdiv v5_16 128))), (6, .slice (a1.map e_i64)), (7, .int .i64 (a1.length : Int)), (8, .int .i64 v8_16)] (fun P hP => ?_) ?_)
              · simp only [W0.down, Nat.reduceEqDiff, ↓reduceIte, reduceCtorEq, Nat.reduceAdd, Nat.reduceSub, Nat.reduceMul, Nat.reduceLeDiff, Nat.reduceBEq, Nat.reduceLT, if_true, if_false, beq_self_eq_true, BEq.rfl, ne_eq, byteAV, e_i64, @bnI_quo' .i64 128 (by decide)]
                (try simp only [WN.down, Nat.reduceAdd, if_true, if_false, ↓reduceIte, byteAV, e_i64, @bnI_quo' .i64 128 (by decide)] at hP)
                (try simp only [WN.down, Nat.reduceAdd, if_true, if_false, ↓reduceIte, byteAV, e_i64, @bnI_quo' .i64 128 (by decide)])
                exact hP
              exact n17 _ (n13 _ (.inr ⟨_, weak_eq rfl, ih16 (v0_16 ++ [(toB (IntKind.i64.wrap (128 + (Int.tmod v5_16 128))))]) (IntKind.i64.wrap (Int.tdiv v5_16 128)) v8_16 h⟩))
            · refine w_cf (congrArg AV.bool b16) ?_
              simp only [b16, Bool.not_true, Bool.not_false]
              refine w_ex (x14 2 _ (x13 2 _ (b12 _ (n11 _ (.inl ?_)))))
              obtain ⟨u23, e22, h⟩ := bindE h
              (try simp only [List.length_append, List.length_cons, List.length_nil, List.length_map, List.length_replicate, Nat.zero_add, Nat.add_zero, Nat.reduceAdd] at e22)
              refine w_reg (w_abs [(0, .ubox (.agg [.uslice 1 ((v0_16 ++ [(toB v5_16)]).map byteAV)])), (6, .slice (a1.map e_i64)), (7, .int .i64 (a1.length : Int)), (8, .int .i64 v8_16)] (fun P hP => ?_) ?_)
              · simp only [W0.down, Nat.reduceEqDiff, ↓reduceIte, reduceCtorEq, Nat.reduceAdd, Nat.reduceSub, Nat.reduceMul, Nat.reduceLeDiff, Nat.reduceBEq, Nat.reduceLT, if_true, if_false, beq_self_eq_true, BEq.rfl, ne_eq, tt5, tt59, tt76, byteAV, e_i64, @cvt_i' Cc 2 5 .u8 rfl rfl, (show ∀ s, bsl Cc s 59 1 [(0, .int .u8 (IntKind.u8.wrap v5_16))] = some (.uslice 1 [.int .u8 (IntKind.u8.wrap v5_16)], s) from fun s => by kernel_rfl), @apd_s Cc 59 59 5 rfl rfl, ap_s, ap2_s, ap3_s, all_cons, all_nil, e22, byte_all]
                (try simp only [WN.down, Nat.reduceAdd, if_true, if_false, ↓reduceIte, tt5, tt59, tt76, byteAV, e_i64, @cvt_i' Cc 2 5 .u8 rfl rfl, (show ∀ s, bsl Cc s 59 1 [(0, .int .u8 (IntKind.u8.wrap v5_16))] = some (.uslice 1 [.int .u8 (IntKind.u8.wrap v5_16)], s) from fun s => by kernel_rfl), @apd_s Cc 59 59 5 rfl rfl, ap_s, ap2_s, ap3_s, all_cons, all_nil, e22, byte_all] at hP)
                (try simp only [WN.down, Nat.reduceAdd, if_true, if_false, ↓reduceIte, tt5, tt59, tt76, byteAV, e_i64, @cvt_i' Cc 2 5 .u8 rfl rfl, (show ∀ s, bsl Cc s 59 1 [(0, .int .u8 (IntKind.u8.wrap v5_16))] = some (.uslice 1 [.int .u8 (IntKind.u8.wrap v5_16)], s) from fun s => by kernel_rfl), @apd_s Cc 59 59 5 rfl rfl, ap_s, ap2_s, ap3_s, all_cons, all_nil, e22, byte_all])
                exact hP
              refine n8 _ (n7 _ (.inl ?_))
              refine w_reg (w_abs [(0, .ubox (.agg [.uslice 1 ((v0_16 ++ [(toB v5_16)]).map byteAV)])), (6, .slice (a1.map e_i64)), (7, .int .i64 (a1.length : Int)), (8, .int .i64 (IntKind.i64.wrap (v8_16 + 1)))] (fun P hP => ?_) ?_)
              · simp only [W0.down, Nat.reduceEqDiff, ↓reduceIte, reduceCtorEq, Nat.reduceAdd, Nat.reduceSub, Nat.reduceMul, Nat.reduceLeDiff, Nat.reduceBEq, Nat.reduceLT, if_true, if_false, beq_self_eq_true, BEq.rfl, ne_eq, byteAV, e_i64]
                (try simp only [WN.down, Nat.reduceAdd, if_true, if_false, ↓reduceIte, byteAV, e_i64] at hP)
                (try simp only [WN.down, Nat.reduceAdd, if_true, if_false, ↓reduceIte, byteAV, e_i64])
                exact hP
              exact n3 _ (.inr ⟨_, weak_eq rfl, ih3 (v0_16 ++ [(toB v5_16)]) (IntKind.i64.wrap (v8_16 + 1)) h⟩)
        obtain ⟨n, h⟩ := limE h
        exact w_loop (.inr ⟨_, weak_eq rfl, L16 n v0_3 x1 v8_3 h⟩)
      · refine w_cf (congrArg AV.bool b6) ?_
        simp only [b6, Bool.not_true, Bool.not_false]
        exact w_ex (x5 0 _ (x3 0 _ (b2 _ (n0 _ (.inl (w_fin [] rfl (by cases someE h; rfl) (by decide) (outs_of (out_is (by cases someE h; rfl) rfl rfl rfl (out_no (out_end))))))))))
  obtain ⟨n, h⟩ := limE h
  exact w_loop (.inr ⟨_, weak_eq rfl, L3 n a0 0 h⟩)

theorem ok_impl_truth (a0 : Bool) (r : Int) (h : impl_truth a0 = some r) : OkAt Cc 49 [.bool a0] (.int .i64 r) [] := by
  refine OkAt.of_wpQ (fx := [0]) Cc_ok Try.func49 rfl rfl s49 (Nat.le_of_ble_eq_true rfl) (fun Q0 r0 n0 => ?_)
  replace r0 : ∀ s, onW (Fw.Ends Cc [0] [.tmp 2] (.int .i64 r) []) s → Q0 .ret s := r0
  replace n0 : ∀ s, onW (Fw.Ends Cc [0] [.tmp 2] (.int .i64 r) []) s → Q0 .normal s := n0
  show wpC Cc c49 Q0 (stA [(0, .bool a0)])
  refine w_sreg (w_abs [(0, .bool a0)] (fun P hP => ?_) ?_)
  · simp only [W0.down, Nat.reduceEqDiff, ↓reduceIte, reduceCtorEq, Nat.reduceAdd, Nat.reduceSub, Nat.reduceMul, Nat.reduceLeDiff, Nat.reduceBEq, Nat.reduceLT, if_true, if_false, beq_self_eq_true, BEq.rfl, ne_eq]
    (try simp only [WN.down, Nat.reduceAdd, if_true, if_false, ↓reduceIte] at hP)
    (try simp only [WN.down, Nat.reduceAdd, if_true, if_false, ↓reduceIte])
    exact hP
  refine w_seq (fun Q2 n2 q2 x2 => ?_)
  refine w_sreg (w_abs [(3, .bool a0)] (fun P hP => ?_) ?_)
  · simp only [W0.down, Nat.reduceEqDiff, ↓reduceIte, reduceCtorEq, Nat.reduceAdd, Nat.reduceSub, Nat.reduceMul, Nat.reduceLeDiff, Nat.reduceBEq, Nat.reduceLT, if_true, if_false, beq_self_eq_true, BEq.rfl, ne_eq]
    (try simp only [WN.down, Nat.reduceAdd, if_true, if_false, ↓reduceIte] at hP)
    (try simp only [WN.down, Nat.reduceAdd, if_true, if_false, ↓reduceIte])
    exact hP
  rcases condE h with ⟨b4, h⟩ | ⟨b4, h⟩
  · refine w_ct (congrArg AV.bool b4) ?_
    simp only [b4, Bool.not_true, Bool.not_false]
    refine w_sreg (w_abs [(2, .int .i64 1)] (fun P hP => ?_) ?_)
    · simp only [W0.down, Nat.reduceEqDiff, ↓reduceIte, reduceCtorEq, Nat.reduceAdd, Nat.reduceSub, Nat.reduceMul, Nat.reduceLeDiff, Nat.reduceBEq, Nat.reduceLT, if_true, if_false, beq_self_eq_true, BEq.rfl, ne_eq]
      (try simp only [WN.down, Nat.reduceAdd, if_true, if_false, ↓reduceIte] at hP)
      (try simp only [WN.down, Nat.reduceAdd, if_true, if_false, ↓reduceIte])
      exact hP
    exact w_ret (q2 _ (r0 _ (.inl (w_fin [.int .i64 1] rfl (by cases someE h; rfl) (by decide) outs_nil))))
  · refine w_cf (congrArg AV.bool b4) ?_
    simp only [b4, Bool.not_true, Bool.not_false]
    refine w_skip (n2 _ (.inl ?_))
    refine w_sreg (w_abs [(2, .int .i64 0)] (fun P hP => ?_) ?_)
    · simp only [W0.down, Nat.reduceEqDiff, ↓reduceIte, reduceCtorEq, Nat.reduceAdd, Nat.reduceSub, Nat.reduceMul, Nat.reduceLeDiff, Nat.reduceBEq, Nat.reduceLT, if_true, if_false, beq_self_eq_true, BEq.rfl, ne_eq]
      (try simp only [WN.down, Nat.reduceAdd, if_true, if_false, ↓reduceIte] at hP)
      (try simp only [WN.down, Nat.reduceAdd, if_true, if_false, ↓reduceIte])
      exact hP
    exact w_ret (r0 _ (.inl (w_fin [.int .i64 0] rfl (by cases someE h; rfl) (by decide) outs_nil)))

theorem ok_impl_Crc16 (a0 : List UInt8) (a1 : Int) (r : Int) (h : impl_Crc16 a0 a1 = some r) : OkAt Cc 30 [.str a0, .int .i64 a1] (.int .i64 r) [] := by
  refine OkAt.of_wpQ (fx := [0, 1]) Cc_ok Try.func30 rfl rfl s30 (Nat.le_of_ble_eq_true rfl) (fun Q0 r0 n0 => ?_)
  replace r0 : ∀ s, onW (Fw.Ends Cc [0, 1] [.tmp 4] (.int .i64 r) []) s → Q0 .ret s := r0
  replace n0 : ∀ s, onW (Fw.Ends Cc [0, 1] [.tmp 4] (.int .i64 r) []) s → Q0 .normal s := n0
  show wpC Cc c30 Q0 (stA [(0, .str a0), (1, .int .i64 a1)])
  refine w_sreg (w_abs [(0, .str a0), (1, .int .i64 a1)] (fun P hP => ?_) ?_)
  · simp only [W0.down, Nat.reduceEqDiff, ↓reduceIte, reduceCtorEq, Nat.reduceAdd, Nat.reduceSub, Nat.reduceMul, Nat.reduceLeDiff, Nat.reduceBEq, Nat.reduceLT, if_true, if_false, beq_self_eq_true, BEq.rfl, ne_eq]
    (try simp only [WN.down, Nat.reduceAdd, if_true, if_false, ↓reduceIte] at hP)
    (try simp only [WN.down, Nat.reduceAdd, if_true, if_false, ↓reduceIte])
    exact hP
  refine w_seq (fun Q2 n2 q2 x2 => ?_)
  obtain ⟨x1, e4, h⟩ := bindE h
  refine w_sreg (w_abs [(0, .str a0), (1, .int .i64 a1), (9, .bool (!x1))] (fun P hP => ?_) ?_)
  · simp only [W0.down, Nat.reduceEqDiff, ↓reduceIte, reduceCtorEq, Nat.reduceAdd, Nat.reduceSub, Nat.reduceMul, Nat.reduceLeDiff, Nat.reduceBEq, Nat.reduceLT, if_true, if_false, beq_self_eq_true, BEq.rfl, ne_eq]
    refine w_call0 (ok_impl_within a1 0 65535 _ e4) rfl rfl rfl rfl (.inl rfl) ?_
    simp only [W0.down, Nat.reduceEqDiff, ↓reduceIte, reduceCtorEq, Nat.reduceAdd, Nat.reduceSub, Nat.reduceMul, Nat.reduceLeDiff, Nat.reduceBEq, Nat.reduceLT, if_true, if_false, beq_self_eq_true, BEq.rfl, ne_eq]
    (try simp only [WN.down, Nat.reduceAdd, if_true, if_false, ↓reduceIte] at hP)
    (try simp only [WN.down, Nat.reduceAdd, if_true, if_false, ↓reduceIte])
    exact hP
  rcases condE h with ⟨b5, h⟩ | ⟨b5, h⟩
  · refine w_ct (congrArg AV.bool b5) ?_
    simp only [b5, Bool.not_true, Bool.not_false]
    refine w_sreg (w_abs [(4, .int .i64 0)] (fun P hP => ?_) ?_)
    · simp only [W0.down, Nat.reduceEqDiff, ↓reduceIte, reduceCtorEq, Nat.reduceAdd, Nat.reduceSub, Nat.reduceMul, Nat.reduceLeDiff, Nat.reduceBEq, Nat.reduceLT, if_true, if_false, beq_self_eq_true, BEq.rfl, ne_eq]
      (try simp only [WN.down, Nat.reduceAdd, if_true, if_false, ↓reduceIte] at hP)
      (try simp only [WN.down, Nat.reduceAdd, if_true, if_false, ↓reduceIte])
      exact hP
    exact w_ret (q2 _ (r0 _ (.inl (w_fin [.int .i64 0] rfl (by cases someE h; rfl) (by decide) outs_nil))))
  · refine w_cf (congrArg AV.bool b5) ?_
    simp only [b5, Bool.not_true, Bool.not_false]
    refine w_skip (n2 _ (.inl ?_))
    refine w_sreg (w_abs [(0, .str a0), (5, .int .i64 a1)] (fun P hP => ?_) ?_)
    · simp only [W0.down, Nat.reduceEqDiff, ↓reduceIte, reduceCtorEq, Nat.reduceAdd, Nat.reduceSub, Nat.reduceMul, Nat.reduceLeDiff, Nat.reduceBEq, Nat.reduceLT, if_true, if_false, beq_self_eq_true, BEq.rfl, ne_eq]
      (try simp only [WN.down, Nat.reduceAdd, if_true, if_false, ↓reduceIte] at hP)
      (try simp only [WN.down, Nat.reduceAdd, if_true, if_false, ↓reduceIte])
      exact hP
    refine w_seq (fun Q8 n8 q8 x8 => ?_)
    refine w_sreg (w_abs [(0, .str a0), (5, .int .i64 a1), (12, .int .i64 (a0.length : Int)), (13, .int .i64 0)] (fun P hP => ?_) ?_)
    · simp only [W0.down, Nat.reduceEqDiff, ↓reduceIte, reduceCtorEq, Nat.reduceAdd, Nat.reduceSub, Nat.reduceMul, Nat.reduceLeDiff, Nat.reduceBEq, Nat.reduceLT, if_true, if_false, beq_self_eq_true, BEq.rfl, ne_eq, tt9]
      (try simp only [WN.down, Nat.reduceAdd, if_true, if_false, ↓reduceIte, tt9] at hP)
      (try simp only [WN.down, Nat.reduceAdd, if_true, if_false, ↓reduceIte, tt9])
      exact hP
    refine w_blk (fun Q10 n10 q10 b10 x10 => ?_)
    have L16 : ∀ (n : Nat) (v5_16 : Int) (v13_16 : Int), impl_Crc16_l16 a0 n v5_16 v13_16 = some r → lpC Cc c30_17 Q10 (stA [(0, .str a0), (5, .int .i64 v5_16), (12, .int .i64 (a0.length : Int)), (13, .int .i64 v13_16)]) := by
      intro m16
      induction m16 with
      | zero => intro v5_16 v13_16 h; cases (show none = some r from h)
      | succ m16 ih16 =>
        intro v5_16 v13_16 h
        replace h : impl_Crc16_b16 (impl_Crc16_l16 a0 m16) a0 v5_16 v13_16 = some r := h
        refine lpC_step (fun Q11 n11 q11 x11 => ?_)
        refine w_sreg (w_abs [(0, .str a0), (5, .int .i64 v5_16), (12, .int .i64 (a0.length : Int)), (13, .int .i64 v13_16), (14, .bool (decide (v13_16 < (a0.length : Int))))] (fun P hP => ?_) ?_)
        · simp only [W0.down, Nat.reduceEqDiff, ↓reduceIte, reduceCtorEq, Nat.reduceAdd, Nat.reduceSub, Nat.reduceMul, Nat.reduceLeDiff, Nat.reduceBEq, Nat.reduceLT, if_true, if_false, beq_self_eq_true, BEq.rfl, ne_eq]
          (try simp only [WN.down, Nat.reduceAdd, if_true, if_false, ↓reduceIte] at hP)
          (try simp only [WN.down, Nat.reduceAdd, if_true, if_false, ↓reduceIte])
          exact hP
        refine w_seq (fun Q13 n13 q13 x13 => ?_)
        rcases condE h with ⟨b14, h⟩ | ⟨b14, h⟩
        · refine w_ct (congrArg AV.bool b14) ?_
          simp only [b14, Bool.not_true, Bool.not_false]
          refine w_skip (n13 _ (.inl ?_))
          refine w_seq (fun Q15 n15 q15 x15 => ?_)
          refine w_blk (fun Q16 n16 q16 b16 x16 => ?_)
          refine w_sreg (w_abs [(0, .str a0), (5, .int .i64 v5_16), (6, .int .i64 v13_16), (12, .int .i64 (a0.length : Int)), (13, .int .i64 v13_16)] (fun P hP => ?_) ?_)
          · simp only [W0.down, Nat.reduceEqDiff, ↓reduceIte, reduceCtorEq, Nat.reduceAdd, Nat.reduceSub, Nat.reduceMul, Nat.reduceLeDiff, Nat.reduceBEq, Nat.reduceLT, if_true, if_false, beq_self_eq_true, BEq.rfl, ne_eq]
            (try simp only [WN.down, Nat.reduceAdd, if_true, if_false, ↓reduceIte] at hP)
            (try simp only [WN.down, Nat.reduceAdd, if_true, if_false, ↓reduceIte])
            exact hP
          obtain ⟨x2, e19, h⟩ := bindE h
          refine w_sreg (w_abs [(0, .str a0), (5, .int .i64 (bitsOf .xor .i64 v5_16 (IntKind.i64.wrap ((x2.toNat : Int) * 256)))), (12, .int .i64 (a0.length : Int)), (13, .int .i64 v13_16)] (fun P hP => ?_) ?_)
          · simp only [W0.down, Nat.reduceEqDiff, ↓reduceIte, reduceCtorEq, Nat.reduceAdd, Nat.reduceSub, Nat.reduceMul, Nat.reduceLeDiff, Nat.reduceBEq, Nat.reduceLT, if_true, if_false, beq_self_eq_true, BEq.rfl, ne_eq, tt9, e19, @cvt_i' Cc 5 2 .i64 rfl rfl]
            (try simp only [WN.down, Nat.reduceAdd, if_true, if_false, ↓reduceIte, tt9, e19, @cvt_i' Cc 5 2 .i64 rfl rfl] at hP)
            (try simp only [WN.down, Nat.reduceAdd, if_true, if_false, ↓reduceIte, tt9, e19, @cvt_i' Cc 5 2 .i64 rfl rfl])
            exact hP
          refine w_sreg (w_abs [(0, .str a0), (5, .int .i64 (bitsOf .xor .i64 v5_16 (IntKind.i64.wrap ((x2.toNat : Int) * 256)))), (12, .int .i64 (a0.length : Int)), (13, .int .i64 v13_16), (23, .int .i64 0)] (fun P hP => ?_) ?_)
          · simp only [W0.down, Nat.reduceEqDiff, ↓reduceIte, reduceCtorEq, Nat.reduceAdd, Nat.reduceSub, Nat.reduceMul, Nat.reduceLeDiff, Nat.reduceBEq, Nat.reduceLT, if_true, if_false, beq_self_eq_true, BEq.rfl, ne_eq]
            (try simp only [WN.down, Nat.reduceAdd, if_true, if_false, ↓reduceIte] at hP)
            (try simp only [WN.down, Nat.reduceAdd, if_true, if_false, ↓reduceIte])
            exact hP
          refine w_blk (fun Q21 n21 q21 b21 x21 => ?_)
          have L32 : ∀ (n : Nat) (v5_32 : Int) (v13_32 : Int) (v23_32 : Int), impl_Crc16_l32 (impl_Crc16_l16 a0 m16) a0 n v5_32 v13_32 v23_32 = some r → lpC Cc c30_33 Q21 (stA [(0, .str a0), (5, .int .i64 v5_32), (12, .int .i64 (a0.length : Int)), (13, .int .i64 v13_32), (23, .int .i64 v23_32)]) := by
            intro m32
            induction m32 with
            | zero => intro v5_32 v13_32 v23_32 h; cases (show none = some r from h)
            | succ m32 ih32 =>
              intro v5_32 v13_32 v23_32 h
              replace h : impl_Crc16_b32 (impl_Crc16_l16 a0 m16) (impl_Crc16_l32 (impl_Crc16_l16 a0 m16) a0 m32) a0 v5_32 v13_32 v23_32 = some r := h
              refine lpC_step (fun Q22 n22 q22 x22 => ?_)
              refine w_sreg (w_abs [(0, .str a0), (5, .int .i64 v5_32), (12, .int .i64 (a0.length : Int)), (13, .int .i64 v13_32), (23, .int .i64 v23_32), (24, .bool (decide (v23_32 < 8)))] (fun P hP => ?_) ?_)
              · simp only [W0.down, Nat.reduceEqDiff, ↓reduceIte, reduceCtorEq, Nat.reduceAdd, Nat.reduceSub, Nat.reduceMul, Nat.reduceLeDiff, Nat.reduceBEq, Nat.reduceLT, if_true, if_false, beq_self_eq_true, BEq.rfl, ne_eq]
                (try simp only [WN.down, Nat.reduceAdd, if_true, if_false, ↓reduceIte] at hP)
                (try simp only [WN.down, Nat.reduceAdd, if_true, if_false, ↓reduceIte])
                exact hP
              refine w_seq (fun Q24 n24 q24 x24 => ?_)
              rcases condE h with ⟨b25, h⟩ | ⟨b25, h⟩
              · refine w_ct (congrArg AV.bool b25) ?_
                simp only [b25, Bool.not_true, Bool.not_false]
                refine w_skip (n24 _ (.inl ?_))
                have K48 : ∀ (v5_48 : Int) (v13_48 : Int) (v23_48 : Int), impl_Crc16_k48 (impl_Crc16_l16 a0 m16) (impl_Crc16_l32 (impl_Crc16_l16 a0 m16) a0 m32) a0 v5_48 v13_48 v23_48 = some r → wpC Cc c30_48 Q22 (stA [(0, .str a0), (5, .int .i64 v5_48), (12, .int .i64 (a0.length : Int)), (13, .int .i64 v13_48), (23, .int .i64 v23_48)]) := by
                  intro v5_48 v13_48 v23_48 h
                  refine w_reg (w_abs [(0, .str a0), (5, .int .i64 v5_48), (12, .int .i64 (a0.length : Int)), (13, .int .i64 v13_48), (23, .int .i64 (IntKind.i64.wrap (v23_48 + 1)))] (fun P hP => ?_) ?_)
                  · simp only [W0.down, Nat.reduceEqDiff, ↓reduceIte, reduceCtorEq, Nat.reduceAdd, Nat.reduceSub, Nat.reduceMul, Nat.reduceLeDiff, Nat.reduceBEq, Nat.reduceLT, if_true, if_false, beq_self_eq_true, BEq.rfl, ne_eq]
                    (try simp only [WN.down, Nat.reduceAdd, if_true, if_false, ↓reduceIte] at hP)
                    (try simp only [WN.down, Nat.reduceAdd, if_true, if_false, ↓reduceIte])
                    exact hP
                  exact n22 _ (.inr ⟨_, weak_eq rfl, ih32 v5_48 v13_48 (IntKind.i64.wrap (v23_48 + 1)) h⟩)
                refine w_seq (fun Q26 n26 q26 x26 => ?_)
                refine w_blk (fun Q28 n28 q28 b28 x28 => ?_)
                refine w_sreg (w_abs [(0, .str a0), (5, .int .i64 (IntKind.i64.wrap (v5_32 * 2))), (12, .int .i64 (a0.length : Int)), (13, .int .i64 v13_32), (23, .int .i64 v23_32)] (fun P hP => ?_) ?_)
                · simp only [W0.down, Nat.reduceEqDiff, ↓reduceIte, reduceCtorEq, Nat.reduceAdd, Nat.reduceSub, Nat.reduceMul, Nat.reduceLeDiff, Nat.reduceBEq, Nat.reduceLT, if_true, if_false, beq_self_eq_true, BEq.rfl, ne_eq]
                  (try simp only [WN.down, Nat.reduceAdd, if_true, if_false, ↓reduceIte] at hP)
                  (try simp only [WN.down, Nat.reduceAdd, if_true, if_false, ↓reduceIte])
                  exact hP
                refine w_sreg (w_abs [(0, .str a0), (5, .int .i64 (IntKind.i64.wrap (v5_32 * 2))), (12, .int .i64 (a0.length : Int)), (13, .int .i64 v13_32), (23, .int .i64 v23_32), (28, .bool (decide (65535 < (IntKind.i64.wrap (v5_32 * 2)))))] (fun P hP => ?_) ?_)
                · simp only [W0.down, Nat.reduceEqDiff, ↓reduceIte, reduceCtorEq, Nat.reduceAdd, Nat.reduceSub, Nat.reduceMul, Nat.reduceLeDiff, Nat.reduceBEq, Nat.reduceLT, if_true, if_false, beq_self_eq_true, BEq.rfl, ne_eq]
                  (try simp only [WN.down, Nat.reduceAdd, if_true, if_false, ↓reduceIte] at hP)
                  (try simp only [WN.down, Nat.reduceAdd, if_true, if_false, ↓reduceIte])
                  exact hP
                rcases condE h with ⟨b31, h⟩ | ⟨b31, h⟩
                · refine w_ct (congrArg AV.bool b31) ?_
                  simp only [b31, Bool.not_true, Bool.not_false]
                  refine w_reg (w_abs [(0, .str a0), (5, .int .i64 (bitsOf .xor .i64 (bitsOf .and .i64 (IntKind.i64.wrap (v5_32 * 2)) 65535) 4129)), (12, .int .i64 (a0.length : Int)), (13, .int .i64 v13_32), (23, .int .i64 v23_32)] (fun P hP => ?_) ?_)
                  · simp only [W0.down, Nat.reduceEqDiff, ↓reduceIte, reduceCtorEq, Nat.reduceAdd, Nat.reduceSub, Nat.reduceMul, Nat.reduceLeDiff, Nat.reduceBEq, Nat.reduceLT, if_true, if_false, beq_self_eq_true, BEq.rfl, ne_eq]
                    (try simp only [WN.down, Nat.reduceAdd, if_true, if_false, ↓reduceIte] at hP)
                    (try simp only [WN.down, Nat.reduceAdd, if_true, if_false, ↓reduceIte])
                    exact hP
                  exact n28 _ (n26 _ (.inr ⟨_, weak_eq rfl, K48 (bitsOf .xor .i64 (bitsOf .and .i64 (IntKind.i64.wrap (v5_32 * 2)) 65535) 4129) v13_32 v23_32 h⟩))
                · refine w_cf (congrArg AV.bool b31) ?_
                  simp only [b31, Bool.not_true, Bool.not_false]
                  exact w_skip (n28 _ (n26 _ (.inr ⟨_, weak_eq rfl, K48 (IntKind.i64.wrap (v5_32 * 2)) v13_32 v23_32 h⟩)))
              · refine w_cf (congrArg AV.bool b25) ?_
                simp only [b25, Bool.not_true, Bool.not_false]
                refine w_ex (x24 2 _ (x22 2 _ (b21 _ (n16 _ (n15 _ (.inl ?_))))))
                refine w_reg (w_abs [(0, .str a0), (5, .int .i64 v5_32), (12, .int .i64 (a0.length : Int)), (13, .int .i64 (IntKind.i64.wrap (v13_32 + 1)))] (fun P hP => ?_) ?_)
                · simp only [W0.down, Nat.reduceEqDiff, ↓reduceIte, reduceCtorEq, Nat.reduceAdd, Nat.reduceSub, Nat.reduceMul, Nat.reduceLeDiff, Nat.reduceBEq, Nat.reduceLT, if_true, if_false, beq_self_eq_true, BEq.rfl, ne_eq]
                  (try simp only [WN.down, Nat.reduceAdd, if_true, if_false, ↓reduceIte] at hP)
                  (try simp only [WN.down, Nat.reduceAdd, if_true, if_false, ↓reduceIte])
                  exact hP
                exact n11 _ (.inr ⟨_, weak_eq rfl, ih16 v5_32 (IntKind.i64.wrap (v13_32 + 1)) h⟩)
          obtain ⟨n, h⟩ := limE h
          exact w_loop (.inr ⟨_, weak_eq rfl, L32 n (bitsOf .xor .i64 v5_16 (IntKind.i64.wrap ((x2.toNat : Int) * 256))) v13_16 0 h⟩)
        · refine w_cf (congrArg AV.bool b14) ?_
          simp only [b14, Bool.not_true, Bool.not_false]
          refine w_ex (x13 0 _ (x11 0 _ (b10 _ (n8 _ (.inl ?_)))))
          refine w_sreg (w_abs [(4, .int .i64 v5_16)] (fun P hP => ?_) ?_)
          · simp only [W0.down, Nat.reduceEqDiff, ↓reduceIte, reduceCtorEq, Nat.reduceAdd, Nat.reduceSub, Nat.reduceMul, Nat.reduceLeDiff, Nat.reduceBEq, Nat.reduceLT, if_true, if_false, beq_self_eq_true, BEq.rfl, ne_eq]
            (try simp only [WN.down, Nat.reduceAdd, if_true, if_false, ↓reduceIte] at hP)
            (try simp only [WN.down, Nat.reduceAdd, if_true, if_false, ↓reduceIte])
            exact hP
          exact w_ret (r0 _ (.inl (w_fin [.int .i64 v5_16] rfl (by cases someE h; rfl) (by decide) outs_nil)))
    obtain ⟨n, h⟩ := limE h
    exact w_loop (.inr ⟨_, weak_eq rfl, L16 n a1 0 h⟩)

theorem ok_impl_writer_image (a0 : List UInt8) (r : (List UInt8)) (h : impl_writer_image a0 = some r) : OkAt Cc 50 [.ubox (.agg [.uslice 1 (a0.map byteAV)])] (.str r) [.hole] := by
  refine OkAt.of_wpQ (fx := [0]) Cc_ok Try.func50 rfl rfl s50 (Nat.le_of_ble_eq_true rfl) (fun Q0 r0 n0 => ?_)
  replace r0 : ∀ s, onW (Fw.Ends Cc [0] [.tmp 2] (.str r) [.hole]) s → Q0 .ret s := r0
  replace n0 : ∀ s, onW (Fw.Ends Cc [0] [.tmp 2] (.str r) [.hole]) s → Q0 .normal s := n0
  show wpC Cc c50 Q0 (stA [(0, .ubox (.agg [.uslice 1 (a0.map byteAV)]))])
  refine w_sreg (w_abs [(0, .ubox (.agg [.uslice 1 (a0.map byteAV)]))] (fun P hP => ?_) ?_)
  · simp only [W0.down, Nat.reduceEqDiff, ↓reduceIte, reduceCtorEq, Nat.reduceAdd, Nat.reduceSub, Nat.reduceMul, Nat.reduceLeDiff, Nat.reduceBEq, Nat.reduceLT, if_true, if_false, beq_self_eq_true, BEq.rfl, ne_eq, byteAV]
    (try simp only [WN.down, Nat.reduceAdd, if_true, if_false, ↓reduceIte, byteAV] at hP)
    (try simp only [WN.down, Nat.reduceAdd, if_true, if_false, ↓reduceIte, byteAV])
    exact hP
  obtain ⟨x1, e3, h⟩ := bindE h
  refine w_sreg (w_abs [(0, .ubox (.agg [.uslice 1 (a0.map byteAV)])), (3, .int .i64 x1)] (fun P hP => ?_) ?_)
  · simp only [W0.down, Nat.reduceEqDiff, ↓reduceIte, reduceCtorEq, Nat.reduceAdd, Nat.reduceSub, Nat.reduceMul, Nat.reduceLeDiff, Nat.reduceBEq, Nat.reduceLT, if_true, if_false, beq_self_eq_true, BEq.rfl, ne_eq, tt5, tt59, tt76, byteAV, (@cvt_bs' Cc 59 9 5 rfl rfl rfl).2.2, bytesOf_s, strU_s]
    refine w_call0 (ok_impl_Crc16 a0 65535 _ e3) rfl rfl rfl rfl (.inl rfl) ?_
    simp only [W0.down, Nat.reduceEqDiff, ↓reduceIte, reduceCtorEq, Nat.reduceAdd, Nat.reduceSub, Nat.reduceMul, Nat.reduceLeDiff, Nat.reduceBEq, Nat.reduceLT, if_true, if_false, beq_self_eq_true, BEq.rfl, ne_eq, tt5, tt59, tt76, byteAV, (@cvt_bs' Cc 59 9 5 rfl rfl rfl).2.2, bytesOf_s, strU_s]
    (try simp only [WN.down, Nat.reduceAdd, if_true, if_false, ↓reduceIte, tt5, tt59, tt76, byteAV, (@cvt_bs' Cc 59 9 5 rfl rfl rfl).2.2, bytesOf_s, strU_s] at hP)
    (try simp only [WN.down, Nat.reduceAdd, if_true, if_false, ↓reduceIte, tt5, tt59, tt76, byteAV, (@cvt_bs' Cc 59 9 5 rfl rfl rfl).2.2, bytesOf_s, strU_s])
    exact hP
  obtain ⟨u10, e5, h⟩ := bindE h
  (try simp only [List.length_append, List.length_cons, List.length_nil, List.length_map, List.length_replicate, Nat.zero_add, Nat.add_zero, Nat.reduceAdd] at e5)
  refine w_sreg (w_abs [(0, .ubox (.agg [.hole])), (4, .uslice 1 ((a0 ++ [(toB (IntKind.i64.wrap (Int.tdiv x1 256))), (toB (Int.tmod x1 256))]).map byteAV))] (fun P hP => ?_) ?_)
  · simp only [W0.down, Nat.reduceEqDiff, ↓reduceIte, reduceCtorEq, Nat.reduceAdd, Nat.reduceSub, Nat.reduceMul, Nat.reduceLeDiff, Nat.reduceBEq, Nat.reduceLT, if_true, if_false, beq_self_eq_true, BEq.rfl, ne_eq, tt5, tt59, tt76, byteAV, @bnI_quo' .i64 256 (by decide), @cvt_i' Cc 2 5 .u8 rfl rfl, @bnI_rem' .i64 256 (by decide), (show ∀ s, bsl Cc s 59 2 [(0, .int .u8 (IntKind.u8.wrap (IntKind.i64.wrap (Int.tdiv x1 256)))), (1, .int .u8 (IntKind.u8.wrap (Int.tmod x1 256)))] = some (.uslice 1 [.int .u8 (IntKind.u8.wrap (IntKind.i64.wrap (Int.tdiv x1 256))), .int .u8 (IntKind.u8.wrap (Int.tmod x1 256))], s) from fun s => by kernel_rfl), @apd_s Cc 59 59 5 rfl rfl, ap_s, ap2_s, ap3_s, all_cons, all_nil, e5, byte_all]
    (try simp only [WN.down, Nat.reduceAdd, if_true, if_false, ↓reduceIte, tt5, tt59, tt76, byteAV, @bnI_quo' .i64 256 (by decide), @cvt_i' Cc 2 5 .u8 rfl rfl, @bnI_rem' .i64 256 (by decide), (show ∀ s, bsl Cc s 59 2 [(0, .int .u8 (IntKind.u8.wrap (IntKind.i64.wrap (Int.tdiv x1 256)))), (1, .int .u8 (IntKind.u8.wrap (Int.tmod x1 256)))] = some (.uslice 1 [.int .u8 (IntKind.u8.wrap (IntKind.i64.wrap (Int.tdiv x1 256))), .int .u8 (IntKind.u8.wrap (Int.tmod x1 256))], s) from fun s => by kernel_rfl), @apd_s Cc 59 59 5 rfl rfl, ap_s, ap2_s, ap3_s, all_cons, all_nil, e5, byte_all] at hP)
    (try simp only [WN.down, Nat.reduceAdd, if_true, if_false, ↓reduceIte, tt5, tt59, tt76, byteAV, @bnI_quo' .i64 256 (by decide), @cvt_i' Cc 2 5 .u8 rfl rfl, @bnI_rem' .i64 256 (by decide), (show ∀ s, bsl Cc s 59 2 [(0, .int .u8 (IntKind.u8.wrap (IntKind.i64.wrap (Int.tdiv x1 256)))), (1, .int .u8 (IntKind.u8.wrap (Int.tmod x1 256)))] = some (.uslice 1 [.int .u8 (IntKind.u8.wrap (IntKind.i64.wrap (Int.tdiv x1 256))), .int .u8 (IntKind.u8.wrap (Int.tmod x1 256))], s) from fun s => by kernel_rfl), @apd_s Cc 59 59 5 rfl rfl, ap_s, ap2_s, ap3_s, all_cons, all_nil, e5, byte_all])
    exact hP
  refine w_seq (fun Q6 n6 q6 x6 => ?_)
  refine w_sreg (w_abs [(0, .ubox (.agg [.hole])), (4, .uslice 1 ((a0 ++ [(toB (IntKind.i64.wrap (Int.tdiv x1 256))), (toB (Int.tmod x1 256))]).map byteAV)), (25, .bool (decide (6000 < ((a0 ++ [(toB (IntKind.i64.wrap (Int.tdiv x1 256))), (toB (Int.tmod x1 256))]).length : Int))))] (fun P hP => ?_) ?_)
  · simp only [W0.down, Nat.reduceEqDiff, ↓reduceIte, reduceCtorEq, Nat.reduceAdd, Nat.reduceSub, Nat.reduceMul, Nat.reduceLeDiff, Nat.reduceBEq, Nat.reduceLT, if_true, if_false, beq_self_eq_true, BEq.rfl, ne_eq, tt5, tt59, byteAV]
    (try simp only [WN.down, Nat.reduceAdd, if_true, if_false, ↓reduceIte, tt5, tt59, byteAV] at hP)
    (try simp only [WN.down, Nat.reduceAdd, if_true, if_false, ↓reduceIte, tt5, tt59, byteAV])
    exact hP
  rcases condE h with ⟨b8, h⟩ | ⟨b8, h⟩
  · refine w_ct (congrArg AV.bool b8) ?_
    simp only [b8, Bool.not_true, Bool.not_false]
    refine w_sreg (w_abs [(0, .ubox (.agg [.hole])), (2, .str ([] : List UInt8))] (fun P hP => ?_) ?_)
    · simp only [W0.down, Nat.reduceEqDiff, ↓reduceIte, reduceCtorEq, Nat.reduceAdd, Nat.reduceSub, Nat.reduceMul, Nat.reduceLeDiff, Nat.reduceBEq, Nat.reduceLT, if_true, if_false, beq_self_eq_true, BEq.rfl, ne_eq, byteAV]
      (try simp only [WN.down, Nat.reduceAdd, if_true, if_false, ↓reduceIte, byteAV] at hP)
      (try simp only [WN.down, Nat.reduceAdd, if_true, if_false, ↓reduceIte, byteAV])
      exact hP
    exact w_ret (q6 _ (r0 _ (.inl (w_fin [.str ([] : List UInt8)] rfl (by cases someE h; rfl) (by decide) (outs_of (out_no (out_end)))))))
  · refine w_cf (congrArg AV.bool b8) ?_
    simp only [b8, Bool.not_true, Bool.not_false]
    refine w_skip (n6 _ (.inl ?_))
    refine w_sreg (w_abs [(0, .ubox (.agg [.hole])), (2, .str (a0 ++ [(toB (IntKind.i64.wrap (Int.tdiv x1 256))), (toB (Int.tmod x1 256))]))] (fun P hP => ?_) ?_)
    · simp only [W0.down, Nat.reduceEqDiff, ↓reduceIte, reduceCtorEq, Nat.reduceAdd, Nat.reduceSub, Nat.reduceMul, Nat.reduceLeDiff, Nat.reduceBEq, Nat.reduceLT, if_true, if_false, beq_self_eq_true, BEq.rfl, ne_eq, byteAV, (@cvt_bs' Cc 59 9 5 rfl rfl rfl).2.2, bytesOf_s, strU_s]
      (try simp only [WN.down, Nat.reduceAdd, if_true, if_false, ↓reduceIte, byteAV, (@cvt_bs' Cc 59 9 5 rfl rfl rfl).2.2, bytesOf_s, strU_s] at hP)
      (try simp only [WN.down, Nat.reduceAdd, if_true, if_false, ↓reduceIte, byteAV, (@cvt_bs' Cc 59 9 5 rfl rfl rfl).2.2, bytesOf_s, strU_s])
      exact hP
    exact w_ret (r0 _ (.inl (w_fin [.str (a0 ++ [(toB (IntKind.i64.wrap (Int.tdiv x1 256))), (toB (Int.tmod x1 256))])] rfl (by cases someE h; rfl) (by decide) (outs_of (out_no (out_end))))))

theorem ok_impl_EncodeEquations (a0 : List impl_Equation) (r : (List UInt8)) (h : impl_EncodeEquations a0 = some r) : OkAt Cc 25 [.slice (a0.map e_impl_Equation)] (.str r) [] := by
  refine OkAt.of_wpQ (fx := [0]) Cc_ok Try.func25 rfl rfl s25 (Nat.le_of_ble_eq_true rfl) (fun Q0 r0 n0 => ?_)
  replace r0 : ∀ s, onW (Fw.Ends Cc [0] [.tmp 2] (.str r) []) s → Q0 .ret s := r0
  replace n0 : ∀ s, onW (Fw.Ends Cc [0] [.tmp 2] (.str r) []) s → Q0 .normal s := n0
  show wpC Cc c25 Q0 (stA [(0, .slice (a0.map e_impl_Equation))])
  refine w_sreg (w_abs [(0, .slice (a0.map e_impl_Equation))] (fun P hP => ?_) ?_)
  · simp only [W0.down, Nat.reduceEqDiff, ↓reduceIte, reduceCtorEq, Nat.reduceAdd, Nat.reduceSub, Nat.reduceMul, Nat.reduceLeDiff, Nat.reduceBEq, Nat.reduceLT, if_true, if_false, beq_self_eq_true, BEq.rfl, ne_eq, e_i64, e_impl_Equation]
    (try simp only [WN.down, Nat.reduceAdd, if_true, if_false, ↓reduceIte, e_i64, e_impl_Equation] at hP)
    (try simp only [WN.down, Nat.reduceAdd, if_true, if_false, ↓reduceIte, e_i64, e_impl_Equation])
    exact hP
  refine w_seq (fun Q2 n2 q2 x2 => ?_)
  obtain ⟨x1, e4, h⟩ := bindE h
  refine w_sreg (w_abs [(0, .slice (a0.map e_impl_Equation)), (8, .bool (!x1))] (fun P hP => ?_) ?_)
  · simp only [W0.down, Nat.reduceEqDiff, ↓reduceIte, reduceCtorEq, Nat.reduceAdd, Nat.reduceSub, Nat.reduceMul, Nat.reduceLeDiff, Nat.reduceBEq, Nat.reduceLT, if_true, if_false, beq_self_eq_true, BEq.rfl, ne_eq, e_i64, e_impl_Equation]
    refine w_call0 (ok_impl_ValidEquations a0 _ e4) rfl rfl rfl rfl (.inl rfl) ?_
    simp only [W0.down, Nat.reduceEqDiff, ↓reduceIte, reduceCtorEq, Nat.reduceAdd, Nat.reduceSub, Nat.reduceMul, Nat.reduceLeDiff, Nat.reduceBEq, Nat.reduceLT, if_true, if_false, beq_self_eq_true, BEq.rfl, ne_eq, e_i64, e_impl_Equation]
    (try simp only [WN.down, Nat.reduceAdd, if_true, if_false, ↓reduceIte, e_i64, e_impl_Equation] at hP)
    (try simp only [WN.down, Nat.reduceAdd, if_true, if_false, ↓reduceIte, e_i64, e_impl_Equation])
    exact hP
  rcases condE h with ⟨b5, h⟩ | ⟨b5, h⟩
  · refine w_ct (congrArg AV.bool b5) ?_
    simp only [b5, Bool.not_true, Bool.not_false]
    refine w_sreg (w_abs [(2, .str ([] : List UInt8))] (fun P hP => ?_) ?_)
    · simp only [W0.down, Nat.reduceEqDiff, ↓reduceIte, reduceCtorEq, Nat.reduceAdd, Nat.reduceSub, Nat.reduceMul, Nat.reduceLeDiff, Nat.reduceBEq, Nat.reduceLT, if_true, if_false, beq_self_eq_true, BEq.rfl, ne_eq, e_i64, e_impl_Equation]
      (try simp only [WN.down, Nat.reduceAdd, if_true, if_false, ↓reduceIte, e_i64, e_impl_Equation] at hP)
      (try simp only [WN.down, Nat.reduceAdd, if_true, if_false, ↓reduceIte, e_i64, e_impl_Equation])
      exact hP
    exact w_ret (q2 _ (r0 _ (.inl (w_fin [.str ([] : List UInt8)] rfl (by cases someE h; rfl) (by decide) outs_nil))))
  · refine w_cf (congrArg AV.bool b5) ?_
    simp only [b5, Bool.not_true, Bool.not_false]
    refine w_skip (n2 _ (.inl ?_))
    refine w_sreg (w_abs [(0, .slice (a0.map e_impl_Equation)), (3, .ubox (.agg [.uslice 1 ([(3 : UInt8)].map byteAV)]))] (fun P hP => ?_) ?_)
    · simp only [W0.down, Nat.reduceEqDiff, ↓reduceIte, reduceCtorEq, Nat.reduceAdd, Nat.reduceSub, Nat.reduceMul, Nat.reduceLeDiff, Nat.reduceBEq, Nat.reduceLT, if_true, if_false, beq_self_eq_true, BEq.rfl, ne_eq, tt5, tt59, tt76, byteAV, e_i64, e_impl_Equation, (show ∀ s, bsl Cc s 59 1 [(0, .int .u8 3)] = some (.uslice 1 [.int .u8 3], s) from fun s => by kernel_rfl), @bld_s Cc 76 [(59, 0)] [.nils] rfl rfl (by kernel_rfl), bldU, flw_s, flwC, pkOs_s, own_s, ap3_s]
      (try simp only [WN.down, Nat.reduceAdd, if_true, if_false, ↓reduceIte, tt5, tt59, tt76, byteAV, e_i64, e_impl_Equation, (show ∀ s, bsl Cc s 59 1 [(0, .int .u8 3)] = some (.uslice 1 [.int .u8 3], s) from fun s => by kernel_rfl), @bld_s Cc 76 [(59, 0)] [.nils] rfl rfl (by kernel_rfl), bldU, flw_s, flwC, pkOs_s, own_s, ap3_s] at hP)
      (try simp only [WN.down, Nat.reduceAdd, if_true, if_false, ↓reduceIte, tt5, tt59, tt76, byteAV, e_i64, e_impl_Equation, (show ∀ s, bsl Cc s 59 1 [(0, .int .u8 3)] = some (.uslice 1 [.int .u8 3], s) from fun s => by kernel_rfl), @bld_s Cc 76 [(59, 0)] [.nils] rfl rfl (by kernel_rfl), bldU, flw_s, flwC, pkOs_s, own_s, ap3_s])
      exact hP
    obtain ⟨x2, e9, h⟩ := bindE h
    refine w_sreg (w_abs [(0, .slice (a0.map e_impl_Equation)), (3, .ubox (.agg [.uslice 1 (x2.map byteAV)]))] (fun P hP => ?_) ?_)
    · simp only [W0.down, Nat.reduceEqDiff, ↓reduceIte, reduceCtorEq, Nat.reduceAdd, Nat.reduceSub, Nat.reduceMul, Nat.reduceLeDiff, Nat.reduceBEq, Nat.reduceLT, if_true, if_false, beq_self_eq_true, BEq.rfl, ne_eq, tt2, tt4, tt41, tt68, tt72, byteAV, e_i64, e_impl_Equation, (show ∀ s, bsl Cc s 68 1 [(0, .int .i64 (a0.length : Int))] = some (.uslice 1 [.int .i64 (a0.length : Int)], s) from fun s => by kernel_rfl)]
      refine w_callp0 [⟨.h 3 [], true, _, _⟩, ⟨.h 15 [], false, _, .hole⟩] (ok_impl_writer_number [(3 : UInt8)] [(a0.length : Int)] _ e9) rfl rfl rfl (by simp only [W0.down, Nat.reduceEqDiff, ↓reduceIte, reduceCtorEq, Nat.reduceAdd, Nat.reduceSub, Nat.reduceMul, Nat.reduceLeDiff, Nat.reduceBEq, Nat.reduceLT, if_true, if_false, beq_self_eq_true, BEq.rfl, ne_eq, tt2, tt4, tt41, tt68, tt72, byteAV, e_i64, e_impl_Equation, (show ∀ s, bsl Cc s 68 1 [(0, .int .i64 (a0.length : Int))] = some (.uslice 1 [.int .i64 (a0.length : Int)], s) from fun s => by kernel_rfl), c_nrm, okp_s, own_r, view_s, view_h, viewH_s, share_s, or_true, true_or, @shares_map _ byteAV byteAV (fun _ => byte_share _), @shares_map _ e_i64 e_i64 (fun _ => sh_e_i64 _)]) rfl rfl ((.inr (by simp only [nshPs, AV.nosh, AV.noshs, Bool.and_self, @noshs_map _ byteAV (fun _ => byte_nosh _)]))) ?_
      simp only [W0.down, Nat.reduceEqDiff, ↓reduceIte, reduceCtorEq, Nat.reduceAdd, Nat.reduceSub, Nat.reduceMul, Nat.reduceLeDiff, Nat.reduceBEq, Nat.reduceLT, if_true, if_false, beq_self_eq_true, BEq.rfl, ne_eq, tt2, tt4, tt41, tt68, tt72, byteAV, e_i64, e_impl_Equation, (show ∀ s, bsl Cc s 68 1 [(0, .int .i64 (a0.length : Int))] = some (.uslice 1 [.int .i64 (a0.length : Int)], s) from fun s => by kernel_rfl), gv_s]
      (try simp only [WN.down, Nat.reduceAdd, if_true, if_false, ↓reduceIte, tt2, tt4, tt41, tt68, tt72, byteAV, e_i64, e_impl_Equation, (show ∀ s, bsl Cc s 68 1 [(0, .int .i64 (a0.length : Int))] = some (.uslice 1 [.int .i64 (a0.length : Int)], s) from fun s => by kernel_rfl)] at hP)
      (try simp only [WN.down, Nat.reduceAdd, if_true, if_false, ↓reduceIte, tt2, tt4, tt41, tt68, tt72, byteAV, e_i64, e_impl_Equation, (show ∀ s, bsl Cc s 68 1 [(0, .int .i64 (a0.length : Int))] = some (.uslice 1 [.int .i64 (a0.length : Int)], s) from fun s => by kernel_rfl)])
      exact hP
    refine w_seq (fun Q10 n10 q10 x10 => ?_)
    refine w_sreg (w_abs [(3, .ubox (.agg [.uslice 1 (x2.map byteAV)])), (17, .slice (a0.map e_impl_Equation)), (18, .int .i64 (a0.length : Int)), (19, .int .i64 0)] (fun P hP => ?_) ?_)
    · simp only [W0.down, Nat.reduceEqDiff, ↓reduceIte, reduceCtorEq, Nat.reduceAdd, Nat.reduceSub, Nat.reduceMul, Nat.reduceLeDiff, Nat.reduceBEq, Nat.reduceLT, if_true, if_false, beq_self_eq_true, BEq.rfl, ne_eq, tt2, tt4, tt41, tt68, tt72, byteAV, e_i64, e_impl_Equation]
      (try simp only [WN.down, Nat.reduceAdd, if_true, if_false, ↓reduceIte, tt2, tt4, tt41, tt68, tt72, byteAV, e_i64, e_impl_Equation] at hP)
      (try simp only [WN.down, Nat.reduceAdd, if_true, if_false, ↓reduceIte, tt2, tt4, tt41, tt68, tt72, byteAV, e_i64, e_impl_Equation])
      exact hP
    refine w_blk (fun Q12 n12 q12 b12 x12 => ?_)
    have L18 : ∀ (n : Nat) (v3_18 : List UInt8) (v19_18 : Int), impl_EncodeEquations_l18 a0 n v3_18 v19_18 = some r → lpC Cc c25_19 Q12 (stA [(3, .ubox (.agg [.uslice 1 (v3_18.map byteAV)])), (17, .slice (a0.map e_impl_Equation)), (18, .int .i64 (a0.length : Int)), (19, .int .i64 v19_18)]) := by
      intro m18
      induction m18 with
      | zero => intro v3_18 v19_18 h; cases (show none = some r from h)
      | succ m18 ih18 =>
        intro v3_18 v19_18 h
        replace h : impl_EncodeEquations_b18 (impl_EncodeEquations_l18 a0 m18) a0 v3_18 v19_18 = some r := h
        refine lpC_step (fun Q13 n13 q13 x13 => ?_)
        refine w_sreg (w_abs [(3, .ubox (.agg [.uslice 1 (v3_18.map byteAV)])), (17, .slice (a0.map e_impl_Equation)), (18, .int .i64 (a0.length : Int)), (19, .int .i64 v19_18), (20, .bool (decide (v19_18 < (a0.length : Int))))] (fun P hP => ?_) ?_)
        · simp only [W0.down, Nat.reduceEqDiff, ↓reduceIte, reduceCtorEq, Nat.reduceAdd, Nat.reduceSub, Nat.reduceMul, Nat.reduceLeDiff, Nat.reduceBEq, Nat.reduceLT, if_true, if_false, beq_self_eq_true, BEq.rfl, ne_eq, byteAV, e_i64, e_impl_Equation]
          (try simp only [WN.down, Nat.reduceAdd, if_true, if_false, ↓reduceIte, byteAV, e_i64, e_impl_Equation] at hP)
          (try simp only [WN.down, Nat.reduceAdd, if_true, if_false, ↓reduceIte, byteAV, e_i64, e_impl_Equation])
          exact hP
        refine w_seq (fun Q15 n15 q15 x15 => ?_)
        rcases condE h with ⟨b16, h⟩ | ⟨b16, h⟩
        · refine w_ct (congrArg AV.bool b16) ?_
          simp only [b16, Bool.not_true, Bool.not_false]
          refine w_skip (n15 _ (.inl ?_))
          refine w_seq (fun Q17 n17 q17 x17 => ?_)
          refine w_blk (fun Q18 n18 q18 b18 x18 => ?_)
          obtain ⟨x3, e20, h⟩ := bindE h
          refine w_sreg (w_abs [(3, .ubox (.agg [.uslice 1 (v3_18.map byteAV)])), (5, .ubox (e_impl_Equation x3)), (17, .slice (a0.map e_impl_Equation)), (18, .int .i64 (a0.length : Int)), (19, .int .i64 v19_18)] (fun P hP => ?_) ?_)
          · simp only [W0.down, Nat.reduceEqDiff, ↓reduceIte, reduceCtorEq, Nat.reduceAdd, Nat.reduceSub, Nat.reduceMul, Nat.reduceLeDiff, Nat.reduceBEq, Nat.reduceLT, if_true, if_false, beq_self_eq_true, BEq.rfl, ne_eq, tt2, tt4, tt41, tt68, tt72, byteAV, e_i64, e_impl_Equation, e20]
            (try simp only [WN.down, Nat.reduceAdd, if_true, if_false, ↓reduceIte, tt2, tt4, tt41, tt68, tt72, byteAV, e_i64, e_impl_Equation, e20] at hP)
            (try simp only [WN.down, Nat.reduceAdd, if_true, if_false, ↓reduceIte, tt2, tt4, tt41, tt68, tt72, byteAV, e_i64, e_impl_Equation, e20])
            exact hP
          obtain ⟨x4, e22, h⟩ := bindE h
          obtain ⟨x5, e23, h⟩ := bindE h
          obtain ⟨x6, e24, h⟩ := bindE h
          refine w_sdrw rfl (w_absd [(3, .ubox (.agg [.uslice 1 (x6.map byteAV)])), (5, .ubox (e_impl_Equation x3)), (17, .slice (a0.map e_impl_Equation)), (18, .int .i64 (a0.length : Int)), (19, .int .i64 v19_18)] (fun P hP => ?_) ?_)
          · simp only [W1.down, Nat.reduceEqDiff, ↓reduceIte, reduceCtorEq, Nat.reduceAdd, Nat.reduceSub, Nat.reduceMul, Nat.reduceLeDiff, Nat.reduceBEq, Nat.reduceLT, if_true, if_false, beq_self_eq_true, BEq.rfl, ne_eq, tt2, tt4, tt68, tt72, byteAV, e_i64, e_impl_Equation, (show ∀ s, bsl Cc s 68 2 [(0, .int .i64 (IntKind.i64.wrap (x4 + (IntKind.i64.wrap (2 * x5))))), (1, .int .i64 (x3.Terms.length : Int))] = some (.uslice 1 [.int .i64 (IntKind.i64.wrap (x4 + (IntKind.i64.wrap (2 * x5)))), .int .i64 (x3.Terms.length : Int)], s) from fun s => by kernel_rfl)]
            refine w_call1 (ok_impl_truth x3.Greatest _ e22) rfl rfl rfl rfl (.inl rfl) ?_
            simp only [W1.down, Nat.reduceEqDiff, ↓reduceIte, reduceCtorEq, Nat.reduceAdd, Nat.reduceSub, Nat.reduceMul, Nat.reduceLeDiff, Nat.reduceBEq, Nat.reduceLT, if_true, if_false, beq_self_eq_true, BEq.rfl, ne_eq, tt2, tt4, tt68, tt72, byteAV, e_i64, e_impl_Equation, (show ∀ s, bsl Cc s 68 2 [(0, .int .i64 (IntKind.i64.wrap (x4 + (IntKind.i64.wrap (2 * x5))))), (1, .int .i64 (x3.Terms.length : Int))] = some (.uslice 1 [.int .i64 (IntKind.i64.wrap (x4 + (IntKind.i64.wrap (2 * x5)))), .int .i64 (x3.Terms.length : Int)], s) from fun s => by kernel_rfl)]
            refine w_call1 (ok_impl_truth x3.All _ e23) rfl rfl rfl rfl (.inl rfl) ?_
            simp only [W1.down, Nat.reduceEqDiff, ↓reduceIte, reduceCtorEq, Nat.reduceAdd, Nat.reduceSub, Nat.reduceMul, Nat.reduceLeDiff, Nat.reduceBEq, Nat.reduceLT, if_true, if_false, beq_self_eq_true, BEq.rfl, ne_eq, tt2, tt4, tt68, tt72, byteAV, e_i64, e_impl_Equation, (show ∀ s, bsl Cc s 68 2 [(0, .int .i64 (IntKind.i64.wrap (x4 + (IntKind.i64.wrap (2 * x5))))), (1, .int .i64 (x3.Terms.length : Int))] = some (.uslice 1 [.int .i64 (IntKind.i64.wrap (x4 + (IntKind.i64.wrap (2 * x5)))), .int .i64 (x3.Terms.length : Int)], s) from fun s => by kernel_rfl)]
            refine w_callp1 [⟨.h 3 [], true, _, _⟩, ⟨.h 35 [], false, _, .hole⟩] (ok_impl_writer_number v3_18 [(IntKind.i64.wrap (x4 + (IntKind.i64.wrap (2 * x5)))), (x3.Terms.length : Int)] _ e24) rfl rfl rfl (by simp only [W1.down, Nat.reduceEqDiff, ↓reduceIte, reduceCtorEq, Nat.reduceAdd, Nat.reduceSub, Nat.reduceMul, Nat.reduceLeDiff, Nat.reduceBEq, Nat.reduceLT, if_true, if_false, beq_self_eq_true, BEq.rfl, ne_eq, tt2, tt4, tt68, tt72, byteAV, e_i64, e_impl_Equation, (show ∀ s, bsl Cc s 68 2 [(0, .int .i64 (IntKind.i64.wrap (x4 + (IntKind.i64.wrap (2 * x5))))), (1, .int .i64 (x3.Terms.length : Int))] = some (.uslice 1 [.int .i64 (IntKind.i64.wrap (x4 + (IntKind.i64.wrap (2 * x5)))), .int .i64 (x3.Terms.length : Int)], s) from fun s => by kernel_rfl), c_nrm, okp_s, own_r, view_s, view_h, viewH_s, share_s, or_true, true_or, @shares_map _ byteAV byteAV (fun _ => byte_share _), @shares_map _ e_i64 e_i64 (fun _ => sh_e_i64 _)]) rfl rfl ((.inr (by simp only [nshPs, AV.nosh, AV.noshs, Bool.and_self, @noshs_map _ byteAV (fun _ => byte_nosh _)]))) ?_
            simp only [W1.down, Nat.reduceEqDiff, ↓reduceIte, reduceCtorEq, Nat.reduceAdd, Nat.reduceSub, Nat.reduceMul, Nat.reduceLeDiff, Nat.reduceBEq, Nat.reduceLT, if_true, if_false, beq_self_eq_true, BEq.rfl, ne_eq, tt2, tt4, tt68, tt72, byteAV, e_i64, e_impl_Equation, (show ∀ s, bsl Cc s 68 2 [(0, .int .i64 (IntKind.i64.wrap (x4 + (IntKind.i64.wrap (2 * x5))))), (1, .int .i64 (x3.Terms.length : Int))] = some (.uslice 1 [.int .i64 (IntKind.i64.wrap (x4 + (IntKind.i64.wrap (2 * x5)))), .int .i64 (x3.Terms.length : Int)], s) from fun s => by kernel_rfl), gv_s]
            refine ⟨by kernel_rfl, ?_⟩
            (try simp only [WN.down, Nat.reduceAdd, if_true, if_false, ↓reduceIte, tt2, tt4, tt68, tt72, byteAV, e_i64, e_impl_Equation, (show ∀ s, bsl Cc s 68 2 [(0, .int .i64 (IntKind.i64.wrap (x4 + (IntKind.i64.wrap (2 * x5))))), (1, .int .i64 (x3.Terms.length : Int))] = some (.uslice 1 [.int .i64 (IntKind.i64.wrap (x4 + (IntKind.i64.wrap (2 * x5)))), .int .i64 (x3.Terms.length : Int)], s) from fun s => by kernel_rfl)] at hP)
            (try simp only [WN.down, Nat.reduceAdd, if_true, if_false, ↓reduceIte, tt2, tt4, tt68, tt72, byteAV, e_i64, e_impl_Equation, (show ∀ s, bsl Cc s 68 2 [(0, .int .i64 (IntKind.i64.wrap (x4 + (IntKind.i64.wrap (2 * x5))))), (1, .int .i64 (x3.Terms.length : Int))] = some (.uslice 1 [.int .i64 (IntKind.i64.wrap (x4 + (IntKind.i64.wrap (2 * x5)))), .int .i64 (x3.Terms.length : Int)], s) from fun s => by kernel_rfl)])
            exact hP
          obtain ⟨x7, e26, h⟩ := bindE h
          refine w_reg (w_abs [(3, .ubox (.agg [.uslice 1 (x7.map byteAV)])), (17, .slice (a0.map e_impl_Equation)), (18, .int .i64 (a0.length : Int)), (19, .int .i64 v19_18)] (fun P hP => ?_) ?_)
          · simp only [W0.down, Nat.reduceEqDiff, ↓reduceIte, reduceCtorEq, Nat.reduceAdd, Nat.reduceSub, Nat.reduceMul, Nat.reduceLeDiff, Nat.reduceBEq, Nat.reduceLT, if_true, if_false, beq_self_eq_true, BEq.rfl, ne_eq, tt2, tt4, tt68, tt72, byteAV, e_i64, e_impl_Equation]
            refine w_callp0 [⟨.h 3 [], true, _, _⟩, ⟨.slice (x3.Terms.map e_i64), false, _, .hole⟩] (ok_impl_writer_number x6 x3.Terms _ e26) rfl rfl rfl (by simp only [W0.down, Nat.reduceEqDiff, ↓reduceIte, reduceCtorEq, Nat.reduceAdd, Nat.reduceSub, Nat.reduceMul, Nat.reduceLeDiff, Nat.reduceBEq, Nat.reduceLT, if_true, if_false, beq_self_eq_true, BEq.rfl, ne_eq, tt2, tt4, tt68, tt72, byteAV, e_i64, e_impl_Equation, c_nrm, okp_s, own_r, view_s, view_h, viewH_s, share_s, or_true, true_or, @shares_map _ byteAV byteAV (fun _ => byte_share _)]) rfl rfl (.inl rfl) ?_
            simp only [W0.down, Nat.reduceEqDiff, ↓reduceIte, reduceCtorEq, Nat.reduceAdd, Nat.reduceSub, Nat.reduceMul, Nat.reduceLeDiff, Nat.reduceBEq, Nat.reduceLT, if_true, if_false, beq_self_eq_true, BEq.rfl, ne_eq, tt2, tt4, tt68, tt72, byteAV, e_i64, e_impl_Equation, gv_s]
            (try simp only [WN.down, Nat.reduceAdd, if_true, if_false, ↓reduceIte, tt2, tt4, tt68, tt72, byteAV, e_i64, e_impl_Equation] at hP)
            (try simp only [WN.down, Nat.reduceAdd, if_true, if_false, ↓reduceIte, tt2, tt4, tt68, tt72, byteAV, e_i64, e_impl_Equation])
            exact hP
          refine n18 _ (n17 _ (.inl ?_))
          refine w_reg (w_abs [(3, .ubox (.agg [.uslice 1 (x7.map byteAV)])), (17, .slice (a0.map e_impl_Equation)), (18, .int .i64 (a0.length : Int)), (19, .int .i64 (IntKind.i64.wrap (v19_18 + 1)))] (fun P hP => ?_) ?_)
          · simp only [W0.down, Nat.reduceEqDiff, ↓reduceIte, reduceCtorEq, Nat.reduceAdd, Nat.reduceSub, Nat.reduceMul, Nat.reduceLeDiff, Nat.reduceBEq, Nat.reduceLT, if_true, if_false, beq_self_eq_true, BEq.rfl, ne_eq, byteAV, e_i64, e_impl_Equation]
            (try simp only [WN.down, Nat.reduceAdd, if_true, if_false, ↓reduceIte, byteAV, e_i64, e_impl_Equation] at hP)
            (try simp only [WN.down, Nat.reduceAdd, if_true, if_false, ↓reduceIte, byteAV, e_i64, e_impl_Equation])
            exact hP
          exact n13 _ (.inr ⟨_, weak_eq rfl, ih18 x7 (IntKind.i64.wrap (v19_18 + 1)) h⟩)
        · refine w_cf (congrArg AV.bool b16) ?_
          simp only [b16, Bool.not_true, Bool.not_false]
          refine w_ex (x15 0 _ (x13 0 _ (b12 _ (n10 _ (.inl ?_)))))
          obtain ⟨x8, e29, h⟩ := bindE h
          refine w_sreg (w_abs [(2, .str x8)] (fun P hP => ?_) ?_)
          · simp only [W0.down, Nat.reduceEqDiff, ↓reduceIte, reduceCtorEq, Nat.reduceAdd, Nat.reduceSub, Nat.reduceMul, Nat.reduceLeDiff, Nat.reduceBEq, Nat.reduceLT, if_true, if_false, beq_self_eq_true, BEq.rfl, ne_eq, byteAV, e_i64, e_impl_Equation]
            refine w_callp0 [⟨.h 3 [], true, _, .hole⟩] (ok_impl_writer_image v3_18 _ e29) rfl rfl rfl (by simp only [W0.down, Nat.reduceEqDiff, ↓reduceIte, reduceCtorEq, Nat.reduceAdd, Nat.reduceSub, Nat.reduceMul, Nat.reduceLeDiff, Nat.reduceBEq, Nat.reduceLT, if_true, if_false, beq_self_eq_true, BEq.rfl, ne_eq, byteAV, e_i64, e_impl_Equation, c_nrm, okp_s, own_r, view_s, view_h, viewH_s, share_s, or_true, true_or, @shares_map _ byteAV byteAV (fun _ => byte_share _)]) rfl rfl (.inl rfl) ?_
            simp only [W0.down, Nat.reduceEqDiff, ↓reduceIte, reduceCtorEq, Nat.reduceAdd, Nat.reduceSub, Nat.reduceMul, Nat.reduceLeDiff, Nat.reduceBEq, Nat.reduceLT, if_true, if_false, beq_self_eq_true, BEq.rfl, ne_eq, byteAV, e_i64, e_impl_Equation, gv_s]
            (try simp only [WN.down, Nat.reduceAdd, if_true, if_false, ↓reduceIte, byteAV, e_i64, e_impl_Equation] at hP)
            (try simp only [WN.down, Nat.reduceAdd, if_true, if_false, ↓reduceIte, byteAV, e_i64, e_impl_Equation])
            exact hP
          exact w_ret (r0 _ (.inl (w_fin [.str x8] rfl (by cases someE h; rfl) (by decide) outs_nil)))
    obtain ⟨n, h⟩ := limE h
    exact w_loop (.inr ⟨_, weak_eq rfl, L18 n x2 0 h⟩)

theorem ok_laws_eqInt64S (a0 : List Int) (a1 : List Int) (r : Bool) (h : laws_eqInt64S a0 a1 = some r) : OkAt Cc 69 [.slice (a0.map e_i64), .slice (a1.map e_i64)] (.bool r) [] := by
  refine OkAt.of_wpQ (fx := [0, 1]) Cc_ok Try.func69 rfl rfl s69 (Nat.le_of_ble_eq_true rfl) (fun Q0 r0 n0 => ?_)
  replace r0 : ∀ s, onW (Fw.Ends Cc [0, 1] [.tmp 4] (.bool r) []) s → Q0 .ret s := r0
  replace n0 : ∀ s, onW (Fw.Ends Cc [0, 1] [.tmp 4] (.bool r) []) s → Q0 .normal s := n0
  show wpC Cc c69 Q0 (stA [(0, .slice (a0.map e_i64)), (1, .slice (a1.map e_i64))])
  refine w_sreg (w_abs [(0, .slice (a0.map e_i64)), (1, .slice (a1.map e_i64))] (fun P hP => ?_) ?_)
  · simp only [W0.down, Nat.reduceEqDiff, ↓reduceIte, reduceCtorEq, Nat.reduceAdd, Nat.reduceSub, Nat.reduceMul, Nat.reduceLeDiff, Nat.reduceBEq, Nat.reduceLT, if_true, if_false, beq_self_eq_true, BEq.rfl, ne_eq, e_i64]
    (try simp only [WN.down, Nat.reduceAdd, if_true, if_false, ↓reduceIte, e_i64] at hP)
    (try simp only [WN.down, Nat.reduceAdd, if_true, if_false, ↓reduceIte, e_i64])
    exact hP
  refine w_seq (fun Q2 n2 q2 x2 => ?_)
  refine w_sreg (w_abs [(0, .slice (a0.map e_i64)), (1, .slice (a1.map e_i64)), (10, .bool ((a0.length : Int) != (a1.length : Int)))] (fun P hP => ?_) ?_)
  · simp only [W0.down, Nat.reduceEqDiff, ↓reduceIte, reduceCtorEq, Nat.reduceAdd, Nat.reduceSub, Nat.reduceMul, Nat.reduceLeDiff, Nat.reduceBEq, Nat.reduceLT, if_true, if_false, beq_self_eq_true, BEq.rfl, ne_eq, tt2, tt68, e_i64]
    (try simp only [WN.down, Nat.reduceAdd, if_true, if_false, ↓reduceIte, tt2, tt68, e_i64] at hP)
    (try simp only [WN.down, Nat.reduceAdd, if_true, if_false, ↓reduceIte, tt2, tt68, e_i64])
    exact hP
  rcases condE h with ⟨b4, h⟩ | ⟨b4, h⟩
  · refine w_ct (congrArg AV.bool b4) ?_
    simp only [b4, Bool.not_true, Bool.not_false]
    refine w_sreg (w_abs [(4, .bool false)] (fun P hP => ?_) ?_)
    · simp only [W0.down, Nat.reduceEqDiff, ↓reduceIte, reduceCtorEq, Nat.reduceAdd, Nat.reduceSub, Nat.reduceMul, Nat.reduceLeDiff, Nat.reduceBEq, Nat.reduceLT, if_true, if_false, beq_self_eq_true, BEq.rfl, ne_eq, e_i64]
      (try simp only [WN.down, Nat.reduceAdd, if_true, if_false, ↓reduceIte, e_i64] at hP)
      (try simp only [WN.down, Nat.reduceAdd, if_true, if_false, ↓reduceIte, e_i64])
      exact hP
    exact w_ret (q2 _ (r0 _ (.inl (w_fin [.bool false] rfl (by cases someE h; rfl) (by decide) outs_nil))))
  · refine w_cf (congrArg AV.bool b4) ?_
    simp only [b4, Bool.not_true, Bool.not_false]
    refine w_skip (n2 _ (.inl ?_))
    refine w_seq (fun Q6 n6 q6 x6 => ?_)
    refine w_sreg (w_abs [(0, .slice (a0.map e_i64)), (1, .slice (a1.map e_i64)), (5, .int .i64 0)] (fun P hP => ?_) ?_)
    · simp only [W0.down, Nat.reduceEqDiff, ↓reduceIte, reduceCtorEq, Nat.reduceAdd, Nat.reduceSub, Nat.reduceMul, Nat.reduceLeDiff, Nat.reduceBEq, Nat.reduceLT, if_true, if_false, beq_self_eq_true, BEq.rfl, ne_eq, e_i64]
      (try simp only [WN.down, Nat.reduceAdd, if_true, if_false, ↓reduceIte, e_i64] at hP)
      (try simp only [WN.down, Nat.reduceAdd, if_true, if_false, ↓reduceIte, e_i64])
      exact hP
    refine w_blk (fun Q8 n8 q8 b8 x8 => ?_)
    have L14 : ∀ (n : Nat) (v5_14 : Int), laws_eqInt64S_l14 a0 a1 n v5_14 = some r → lpC Cc c69_15 Q8 (stA [(0, .slice (a0.map e_i64)), (1, .slice (a1.map e_i64)), (5, .int .i64 v5_14)]) := by
      intro m14
      induction m14 with
      | zero => intro v5_14 h; cases (show none = some r from h)
      | succ m14 ih14 =>
        intro v5_14 h
        replace h : laws_eqInt64S_b14 (laws_eqInt64S_l14 a0 a1 m14) a0 a1 v5_14 = some r := h
        refine lpC_step (fun Q9 n9 q9 x9 => ?_)
        refine w_seq (fun Q10 n10 q10 x10 => ?_)
        refine w_sreg (w_abs [(0, .slice (a0.map e_i64)), (1, .slice (a1.map e_i64)), (5, .int .i64 v5_14), (14, .bool (decide (v5_14 < (a0.length : Int))))] (fun P hP => ?_) ?_)
        · simp only [W0.down, Nat.reduceEqDiff, ↓reduceIte, reduceCtorEq, Nat.reduceAdd, Nat.reduceSub, Nat.reduceMul, Nat.reduceLeDiff, Nat.reduceBEq, Nat.reduceLT, if_true, if_false, beq_self_eq_true, BEq.rfl, ne_eq, tt2, tt68, e_i64]
          (try simp only [WN.down, Nat.reduceAdd, if_true, if_false, ↓reduceIte, tt2, tt68, e_i64] at hP)
          (try simp only [WN.down, Nat.reduceAdd, if_true, if_false, ↓reduceIte, tt2, tt68, e_i64])
          exact hP
        rcases condE h with ⟨b12, h⟩ | ⟨b12, h⟩
        · refine w_ct (congrArg AV.bool b12) ?_
          simp only [b12, Bool.not_true, Bool.not_false]
          refine w_skip (n10 _ (.inl ?_))
          refine w_seq (fun Q13 n13 q13 x13 => ?_)
          refine w_blk (fun Q14 n14 q14 b14 x14 => ?_)
          obtain ⟨x1, e16, h⟩ := bindE h
          obtain ⟨x2, e17, h⟩ := bindE h
          refine w_sdrw rfl (w_absd [(0, .slice (a0.map e_i64)), (1, .slice (a1.map e_i64)), (5, .int .i64 v5_14), (25, .bool (x1 != x2))] (fun P hP => ?_) ?_)
          · simp only [W1.down, Nat.reduceEqDiff, ↓reduceIte, reduceCtorEq, Nat.reduceAdd, Nat.reduceSub, Nat.reduceMul, Nat.reduceLeDiff, Nat.reduceBEq, Nat.reduceLT, if_true, if_false, beq_self_eq_true, BEq.rfl, ne_eq, tt2, tt68, e_i64, e16, e17]
            refine ⟨by kernel_rfl, ?_⟩
            (try simp only [WN.down, Nat.reduceAdd, if_true, if_false, ↓reduceIte, tt2, tt68, e_i64, e16, e17] at hP)
            (try simp only [WN.down, Nat.reduceAdd, if_true, if_false, ↓reduceIte, tt2, tt68, e_i64, e16, e17])
            exact hP
          rcases condE h with ⟨b18, h⟩ | ⟨b18, h⟩
          · refine w_ct (congrArg AV.bool b18) ?_
            simp only [b18, Bool.not_true, Bool.not_false]
            refine w_sreg (w_abs [(4, .bool false)] (fun P hP => ?_) ?_)
            · simp only [W0.down, Nat.reduceEqDiff, ↓reduceIte, reduceCtorEq, Nat.reduceAdd, Nat.reduceSub, Nat.reduceMul, Nat.reduceLeDiff, Nat.reduceBEq, Nat.reduceLT, if_true, if_false, beq_self_eq_true, BEq.rfl, ne_eq, e_i64]
              (try simp only [WN.down, Nat.reduceAdd, if_true, if_false, ↓reduceIte, e_i64] at hP)
              (try simp only [WN.down, Nat.reduceAdd, if_true, if_false, ↓reduceIte, e_i64])
              exact hP
            exact w_ret (q14 _ (q13 _ (q9 _ (q8 _ (q6 _ (r0 _ (.inl (w_fin [.bool false] rfl (by cases someE h; rfl) (by decide) outs_nil))))))))
          · refine w_cf (congrArg AV.bool b18) ?_
            simp only [b18, Bool.not_true, Bool.not_false]
            refine w_skip (n14 _ (n13 _ (.inl ?_)))
            refine w_reg (w_abs [(0, .slice (a0.map e_i64)), (1, .slice (a1.map e_i64)), (5, .int .i64 (IntKind.i64.wrap (v5_14 + 1)))] (fun P hP => ?_) ?_)
            · simp only [W0.down, Nat.reduceEqDiff, ↓reduceIte, reduceCtorEq, Nat.reduceAdd, Nat.reduceSub, Nat.reduceMul, Nat.reduceLeDiff, Nat.reduceBEq, Nat.reduceLT, if_true, if_false, beq_self_eq_true, BEq.rfl, ne_eq, e_i64]
              (try simp only [WN.down, Nat.reduceAdd, if_true, if_false, ↓reduceIte, e_i64] at hP)
              (try simp only [WN.down, Nat.reduceAdd, if_true, if_false, ↓reduceIte, e_i64])
              exact hP
            exact n9 _ (.inr ⟨_, weak_eq rfl, ih14 (IntKind.i64.wrap (v5_14 + 1)) h⟩)
        · refine w_cf (congrArg AV.bool b12) ?_
          simp only [b12, Bool.not_true, Bool.not_false]
          refine w_ex (x10 0 _ (x9 0 _ (b8 _ (n6 _ (.inl ?_)))))
          refine w_sreg (w_abs [(4, .bool true)] (fun P hP => ?_) ?_)
          · simp only [W0.down, Nat.reduceEqDiff, ↓reduceIte, reduceCtorEq, Nat.reduceAdd, Nat.reduceSub, Nat.reduceMul, Nat.reduceLeDiff, Nat.reduceBEq, Nat.reduceLT, if_true, if_false, beq_self_eq_true, BEq.rfl, ne_eq, e_i64]
            (try simp only [WN.down, Nat.reduceAdd, if_true, if_false, ↓reduceIte, e_i64] at hP)
            (try simp only [WN.down, Nat.reduceAdd, if_true, if_false, ↓reduceIte, e_i64])
            exact hP
          exact w_ret (r0 _ (.inl (w_fin [.bool true] rfl (by cases someE h; rfl) (by decide) outs_nil)))
    obtain ⟨n, h⟩ := limE h
    exact w_loop (.inr ⟨_, weak_eq rfl, L14 n 0 h⟩)

theorem ok_laws_eqEquation (a0 : impl_Equation) (a1 : impl_Equation) (r : Bool) (h : laws_eqEquation a0 a1 = some r) : OkAt Cc 51 [e_impl_Equation a0, e_impl_Equation a1] (.bool r) [] := by
  refine OkAt.of_wpQ (fx := [0, 1]) Cc_ok Try.func51 rfl rfl s51 (Nat.le_of_ble_eq_true rfl) (fun Q0 r0 n0 => ?_)
  replace r0 : ∀ s, onW (Fw.Ends Cc [0, 1] [.tmp 4] (.bool r) []) s → Q0 .ret s := r0
  replace n0 : ∀ s, onW (Fw.Ends Cc [0, 1] [.tmp 4] (.bool r) []) s → Q0 .normal s := n0
  show wpC Cc c51 Q0 (stA [(0, e_impl_Equation a0), (1, e_impl_Equation a1)])
  refine w_sreg (w_abs [(2, .ubox (e_impl_Equation a0)), (3, .ubox (e_impl_Equation a1))] (fun P hP => ?_) ?_)
  · simp only [W0.down, Nat.reduceEqDiff, ↓reduceIte, reduceCtorEq, Nat.reduceAdd, Nat.reduceSub, Nat.reduceMul, Nat.reduceLeDiff, Nat.reduceBEq, Nat.reduceLT, if_true, if_false, beq_self_eq_true, BEq.rfl, ne_eq, tt2, tt4, tt68, tt72, e_i64, e_impl_Equation]
    (try simp only [WN.down, Nat.reduceAdd, if_true, if_false, ↓reduceIte, tt2, tt4, tt68, tt72, e_i64, e_impl_Equation] at hP)
    (try simp only [WN.down, Nat.reduceAdd, if_true, if_false, ↓reduceIte, tt2, tt4, tt68, tt72, e_i64, e_impl_Equation])
    exact hP
  refine w_seq (fun Q2 n2 q2 x2 => ?_)
  refine w_sreg (w_abs [(2, .ubox (e_impl_Equation a0)), (3, .ubox (e_impl_Equation a1)), (9, .bool (!(a0.Greatest == a1.Greatest)))] (fun P hP => ?_) ?_)
  · simp only [W0.down, Nat.reduceEqDiff, ↓reduceIte, reduceCtorEq, Nat.reduceAdd, Nat.reduceSub, Nat.reduceMul, Nat.reduceLeDiff, Nat.reduceBEq, Nat.reduceLT, if_true, if_false, beq_self_eq_true, BEq.rfl, ne_eq, tt2, tt4, tt68, tt72, e_i64, e_impl_Equation]
    (try simp only [WN.down, Nat.reduceAdd, if_true, if_false, ↓reduceIte, tt2, tt4, tt68, tt72, e_i64, e_impl_Equation] at hP)
    (try simp only [WN.down, Nat.reduceAdd, if_true, if_false, ↓reduceIte, tt2, tt4, tt68, tt72, e_i64, e_impl_Equation])
    exact hP
  rcases condE h with ⟨b4, h⟩ | ⟨b4, h⟩
  · refine w_ct (congrArg AV.bool b4) ?_
    simp only [b4, Bool.not_true, Bool.not_false]
    refine w_sreg (w_abs [(4, .bool false)] (fun P hP => ?_) ?_)
    · simp only [W0.down, Nat.reduceEqDiff, ↓reduceIte, reduceCtorEq, Nat.reduceAdd, Nat.reduceSub, Nat.reduceMul, Nat.reduceLeDiff, Nat.reduceBEq, Nat.reduceLT, if_true, if_false, beq_self_eq_true, BEq.rfl, ne_eq, e_i64, e_impl_Equation]
      (try simp only [WN.down, Nat.reduceAdd, if_true, if_false, ↓reduceIte, e_i64, e_impl_Equation] at hP)
      (try simp only [WN.down, Nat.reduceAdd, if_true, if_false, ↓reduceIte, e_i64, e_impl_Equation])
      exact hP
    exact w_ret (q2 _ (r0 _ (.inl (w_fin [.bool false] rfl (by cases someE h; rfl) (by decide) outs_nil))))
  · refine w_cf (congrArg AV.bool b4) ?_
    simp only [b4, Bool.not_true, Bool.not_false]
    refine w_skip (n2 _ (.inl ?_))
    refine w_seq (fun Q6 n6 q6 x6 => ?_)
    refine w_sreg (w_abs [(2, .ubox (e_impl_Equation a0)), (3, .ubox (e_impl_Equation a1)), (14, .bool (!(a0.All == a1.All)))] (fun P hP => ?_) ?_)
    · simp only [W0.down, Nat.reduceEqDiff, ↓reduceIte, reduceCtorEq, Nat.reduceAdd, Nat.reduceSub, Nat.reduceMul, Nat.reduceLeDiff, Nat.reduceBEq, Nat.reduceLT, if_true, if_false, beq_self_eq_true, BEq.rfl, ne_eq, tt2, tt4, tt68, tt72, e_i64, e_impl_Equation]
      (try simp only [WN.down, Nat.reduceAdd, if_true, if_false, ↓reduceIte, tt2, tt4, tt68, tt72, e_i64, e_impl_Equation] at hP)
      (try simp only [WN.down, Nat.reduceAdd, if_true, if_false, ↓reduceIte, tt2, tt4, tt68, tt72, e_i64, e_impl_Equation])
      exact hP
    rcases condE h with ⟨b8, h⟩ | ⟨b8, h⟩
    · refine w_ct (congrArg AV.bool b8) ?_
      simp only [b8, Bool.not_true, Bool.not_false]
      refine w_sreg (w_abs [(4, .bool false)] (fun P hP => ?_) ?_)
      · simp only [W0.down, Nat.reduceEqDiff, ↓reduceIte, reduceCtorEq, Nat.reduceAdd, Nat.reduceSub, Nat.reduceMul, Nat.reduceLeDiff, Nat.reduceBEq, Nat.reduceLT, if_true, if_false, beq_self_eq_true, BEq.rfl, ne_eq, e_i64, e_impl_Equation]
        (try simp only [WN.down, Nat.reduceAdd, if_true, if_false, ↓reduceIte, e_i64, e_impl_Equation] at hP)
        (try simp only [WN.down, Nat.reduceAdd, if_true, if_false, ↓reduceIte, e_i64, e_impl_Equation])
        exact hP
      exact w_ret (q6 _ (r0 _ (.inl (w_fin [.bool false] rfl (by cases someE h; rfl) (by decide) outs_nil))))
    · refine w_cf (congrArg AV.bool b8) ?_
      simp only [b8, Bool.not_true, Bool.not_false]
      refine w_skip (n6 _ (.inl ?_))
      refine w_seq (fun Q10 n10 q10 x10 => ?_)
      obtain ⟨x1, e12, h⟩ := bindE h
      refine w_sreg (w_abs [(20, .bool (!x1))] (fun P hP => ?_) ?_)
      · simp only [W0.down, Nat.reduceEqDiff, ↓reduceIte, reduceCtorEq, Nat.reduceAdd, Nat.reduceSub, Nat.reduceMul, Nat.reduceLeDiff, Nat.reduceBEq, Nat.reduceLT, if_true, if_false, beq_self_eq_true, BEq.rfl, ne_eq, tt2, tt4, tt68, tt72, e_i64, e_impl_Equation]
        refine w_call0 (ok_laws_eqInt64S a0.Terms a1.Terms _ e12) rfl rfl rfl rfl (.inl rfl) ?_
        simp only [W0.down, Nat.reduceEqDiff, ↓reduceIte, reduceCtorEq, Nat.reduceAdd, Nat.reduceSub, Nat.reduceMul, Nat.reduceLeDiff, Nat.reduceBEq, Nat.reduceLT, if_true, if_false, beq_self_eq_true, BEq.rfl, ne_eq, tt2, tt4, tt68, tt72, e_i64, e_impl_Equation]
        (try simp only [WN.down, Nat.reduceAdd, if_true, if_false, ↓reduceIte, tt2, tt4, tt68, tt72, e_i64, e_impl_Equation] at hP)
        (try simp only [WN.down, Nat.reduceAdd, if_true, if_false, ↓reduceIte, tt2, tt4, tt68, tt72, e_i64, e_impl_Equation])
        exact hP
      rcases condE h with ⟨b13, h⟩ | ⟨b13, h⟩
      · refine w_ct (congrArg AV.bool b13) ?_
        simp only [b13, Bool.not_true, Bool.not_false]
        refine w_sreg (w_abs [(4, .bool false)] (fun P hP => ?_) ?_)
        · simp only [W0.down, Nat.reduceEqDiff, ↓reduceIte, reduceCtorEq, Nat.reduceAdd, Nat.reduceSub, Nat.reduceMul, Nat.reduceLeDiff, Nat.reduceBEq, Nat.reduceLT, if_true, if_false, beq_self_eq_true, BEq.rfl, ne_eq]
          (try simp only [WN.down, Nat.reduceAdd, if_true, if_false, ↓reduceIte] at hP)
          (try simp only [WN.down, Nat.reduceAdd, if_true, if_false, ↓reduceIte])
          exact hP
        exact w_ret (q10 _ (r0 _ (.inl (w_fin [.bool false] rfl (by cases someE h; rfl) (by decide) outs_nil))))
      · refine w_cf (congrArg AV.bool b13) ?_
        simp only [b13, Bool.not_true, Bool.not_false]
        refine w_skip (n10 _ (.inl ?_))
        refine w_sreg (w_abs [(4, .bool true)] (fun P hP => ?_) ?_)
        · simp only [W0.down, Nat.reduceEqDiff, ↓reduceIte, reduceCtorEq, Nat.reduceAdd, Nat.reduceSub, Nat.reduceMul, Nat.reduceLeDiff, Nat.reduceBEq, Nat.reduceLT, if_true, if_false, beq_self_eq_true, BEq.rfl, ne_eq]
          (try simp only [WN.down, Nat.reduceAdd, if_true, if_false, ↓reduceIte] at hP)
          (try simp only [WN.down, Nat.reduceAdd, if_true, if_false, ↓reduceIte])
          exact hP
        exact w_ret (r0 _ (.inl (w_fin [.bool true] rfl (by cases someE h; rfl) (by decide) outs_nil)))

theorem ok_laws_eqEquationS (a0 : List impl_Equation) (a1 : List impl_Equation) (r : Bool) (h : laws_eqEquationS a0 a1 = some r) : OkAt Cc 26 [.slice (a0.map e_impl_Equation), .slice (a1.map e_impl_Equation)] (.bool r) [] := by
  refine OkAt.of_wpQ (fx := [0, 1]) Cc_ok Try.func26 rfl rfl s26 (Nat.le_of_ble_eq_true rfl) (fun Q0 r0 n0 => ?_)
  replace r0 : ∀ s, onW (Fw.Ends Cc [0, 1] [.tmp 4] (.bool r) []) s → Q0 .ret s := r0
  replace n0 : ∀ s, onW (Fw.Ends Cc [0, 1] [.tmp 4] (.bool r) []) s → Q0 .normal s := n0
  show wpC Cc c26 Q0 (stA [(0, .slice (a0.map e_impl_Equation)), (1, .slice (a1.map e_impl_Equation))])
  refine w_sreg (w_abs [(0, .slice (a0.map e_impl_Equation)), (1, .slice (a1.map e_impl_Equation))] (fun P hP => ?_) ?_)
  · simp only [W0.down, Nat.reduceEqDiff, ↓reduceIte, reduceCtorEq, Nat.reduceAdd, Nat.reduceSub, Nat.reduceMul, Nat.reduceLeDiff, Nat.reduceBEq, Nat.reduceLT, if_true, if_false, beq_self_eq_true, BEq.rfl, ne_eq, e_i64, e_impl_Equation]
    (try simp only [WN.down, Nat.reduceAdd, if_true, if_false, ↓reduceIte, e_i64, e_impl_Equation] at hP)
    (try simp only [WN.down, Nat.reduceAdd, if_true, if_false, ↓reduceIte, e_i64, e_impl_Equation])
    exact hP
  refine w_seq (fun Q2 n2 q2 x2 => ?_)
  refine w_sreg (w_abs [(0, .slice (a0.map e_impl_Equation)), (1, .slice (a1.map e_impl_Equation)), (10, .bool ((a0.length : Int) != (a1.length : Int)))] (fun P hP => ?_) ?_)
  · simp only [W0.down, Nat.reduceEqDiff, ↓reduceIte, reduceCtorEq, Nat.reduceAdd, Nat.reduceSub, Nat.reduceMul, Nat.reduceLeDiff, Nat.reduceBEq, Nat.reduceLT, if_true, if_false, beq_self_eq_true, BEq.rfl, ne_eq, tt2, tt4, tt41, tt68, tt72, e_i64, e_impl_Equation]
    (try simp only [WN.down, Nat.reduceAdd, if_true, if_false, ↓reduceIte, tt2, tt4, tt41, tt68, tt72, e_i64, e_impl_Equation] at hP)
    (try simp only [WN.down, Nat.reduceAdd, if_true, if_false, ↓reduceIte, tt2, tt4, tt41, tt68, tt72, e_i64, e_impl_Equation])
    exact hP
  rcases condE h with ⟨b4, h⟩ | ⟨b4, h⟩
  · refine w_ct (congrArg AV.bool b4) ?_
    simp only [b4, Bool.not_true, Bool.not_false]
    refine w_sreg (w_abs [(4, .bool false)] (fun P hP => ?_) ?_)
    · simp only [W0.down, Nat.reduceEqDiff, ↓reduceIte, reduceCtorEq, Nat.reduceAdd, Nat.reduceSub, Nat.reduceMul, Nat.reduceLeDiff, Nat.reduceBEq, Nat.reduceLT, if_true, if_false, beq_self_eq_true, BEq.rfl, ne_eq, e_i64, e_impl_Equation]
      (try simp only [WN.down, Nat.reduceAdd, if_true, if_false, ↓reduceIte, e_i64, e_impl_Equation] at hP)
      (try simp only [WN.down, Nat.reduceAdd, if_true, if_false, ↓reduceIte, e_i64, e_impl_Equation])
      exact hP
    exact w_ret (q2 _ (r0 _ (.inl (w_fin [.bool false] rfl (by cases someE h; rfl) (by decide) outs_nil))))
  · refine w_cf (congrArg AV.bool b4) ?_
    simp only [b4, Bool.not_true, Bool.not_false]
    refine w_skip (n2 _ (.inl ?_))
    refine w_seq (fun Q6 n6 q6 x6 => ?_)
    refine w_sreg (w_abs [(0, .slice (a0.map e_impl_Equation)), (1, .slice (a1.map e_impl_Equation)), (5, .int .i64 0)] (fun P hP => ?_) ?_)
    · simp only [W0.down, Nat.reduceEqDiff, ↓reduceIte, reduceCtorEq, Nat.reduceAdd, Nat.reduceSub, Nat.reduceMul, Nat.reduceLeDiff, Nat.reduceBEq, Nat.reduceLT, if_true, if_false, beq_self_eq_true, BEq.rfl, ne_eq, e_i64, e_impl_Equation]
      (try simp only [WN.down, Nat.reduceAdd, if_true, if_false, ↓reduceIte, e_i64, e_impl_Equation] at hP)
      (try simp only [WN.down, Nat.reduceAdd, if_true, if_false, ↓reduceIte, e_i64, e_impl_Equation])
      exact hP
    refine w_blk (fun Q8 n8 q8 b8 x8 => ?_)
    have L14 : ∀ (n : Nat) (v5_14 : Int), laws_eqEquationS_l14 a0 a1 n v5_14 = some r → lpC Cc c26_15 Q8 (stA [(0, .slice (a0.map e_impl_Equation)), (1, .slice (a1.map e_impl_Equation)), (5, .int .i64 v5_14)]) := by
      intro m14
      induction m14 with
      | zero => intro v5_14 h; cases (show none = some r from h)
      | succ m14 ih14 =>
        intro v5_14 h
        replace h : laws_eqEquationS_b14 (laws_eqEquationS_l14 a0 a1 m14) a0 a1 v5_14 = some r := h
        refine lpC_step (fun Q9 n9 q9 x9 => ?_)
        refine w_seq (fun Q10 n10 q10 x10 => ?_)
        refine w_sreg (w_abs [(0, .slice (a0.map e_impl_Equation)), (1, .slice (a1.map e_impl_Equation)), (5, .int .i64 v5_14), (14, .bool (decide (v5_14 < (a0.length : Int))))] (fun P hP => ?_) ?_)
        · simp only [W0.down, Nat.reduceEqDiff, ↓reduceIte, reduceCtorEq, Nat.reduceAdd, Nat.reduceSub, Nat.reduceMul, Nat.reduceLeDiff, Nat.reduceBEq, Nat.reduceLT, if_true, if_false, beq_self_eq_true, BEq.rfl, ne_eq, tt2, tt4, tt41, tt68, tt72, e_i64, e_impl_Equation]
          (try simp only [WN.down, Nat.reduceAdd, if_true, if_false, ↓reduceIte, tt2, tt4, tt41, tt68, tt72, e_i64, e_impl_Equation] at hP)
          (try simp only [WN.down, Nat.reduceAdd, if_true, if_false, ↓reduceIte, tt2, tt4, tt41, tt68, tt72, e_i64, e_impl_Equation])
          exact hP
        rcases condE h with ⟨b12, h⟩ | ⟨b12, h⟩
        · refine w_ct (congrArg AV.bool b12) ?_
          simp only [b12, Bool.not_true, Bool.not_false]
          refine w_skip (n10 _ (.inl ?_))
          refine w_seq (fun Q13 n13 q13 x13 => ?_)
          refine w_blk (fun Q14 n14 q14 b14 x14 => ?_)
          obtain ⟨x1, e16, h⟩ := bindE h
          obtain ⟨x2, e17, h⟩ := bindE h
          obtain ⟨x3, e18, h⟩ := bindE h
          refine w_sdrw rfl (w_absd [(0, .slice (a0.map e_impl_Equation)), (1, .slice (a1.map e_impl_Equation)), (5, .int .i64 v5_14), (26, .bool (!x3))] (fun P hP => ?_) ?_)
          · simp only [W1.down, Nat.reduceEqDiff, ↓reduceIte, reduceCtorEq, Nat.reduceAdd, Nat.reduceSub, Nat.reduceMul, Nat.reduceLeDiff, Nat.reduceBEq, Nat.reduceLT, if_true, if_false, beq_self_eq_true, BEq.rfl, ne_eq, tt2, tt4, tt41, tt68, tt72, e_i64, e_impl_Equation, e16, e17]
            refine w_call1 (ok_laws_eqEquation x1 x2 _ e18) rfl rfl rfl rfl (.inl rfl) ?_
            simp only [W1.down, Nat.reduceEqDiff, ↓reduceIte, reduceCtorEq, Nat.reduceAdd, Nat.reduceSub, Nat.reduceMul, Nat.reduceLeDiff, Nat.reduceBEq, Nat.reduceLT, if_true, if_false, beq_self_eq_true, BEq.rfl, ne_eq, tt2, tt4, tt41, tt68, tt72, e_i64, e_impl_Equation, e16, e17]
            refine ⟨by kernel_rfl, ?_⟩
            (try simp only [WN.down, Nat.reduceAdd, if_true, if_false, ↓reduceIte, tt2, tt4, tt41, tt68, tt72, e_i64, e_impl_Equation, e16, e17] at hP)
            (try simp only [WN.down, Nat.reduceAdd, if_true, if_false, ↓reduceIte, tt2, tt4, tt41, tt68, tt72, e_i64, e_impl_Equation, e16, e17])
            exact hP
          rcases condE h with ⟨b19, h⟩ | ⟨b19, h⟩
          · refine w_ct (congrArg AV.bool b19) ?_
            simp only [b19, Bool.not_true, Bool.not_false]
            refine w_sreg (w_abs [(4, .bool false)] (fun P hP => ?_) ?_)
            · simp only [W0.down, Nat.reduceEqDiff, ↓reduceIte, reduceCtorEq, Nat.reduceAdd, Nat.reduceSub, Nat.reduceMul, Nat.reduceLeDiff, Nat.reduceBEq, Nat.reduceLT, if_true, if_false, beq_self_eq_true, BEq.rfl, ne_eq, e_i64, e_impl_Equation]
              (try simp only [WN.down, Nat.reduceAdd, if_true, if_false, ↓reduceIte, e_i64, e_impl_Equation] at hP)
              (try simp only [WN.down, Nat.reduceAdd, if_true, if_false, ↓reduceIte, e_i64, e_impl_Equation])
              exact hP
            exact w_ret (q14 _ (q13 _ (q9 _ (q8 _ (q6 _ (r0 _ (.inl (w_fin [.bool false] rfl (by cases someE h; rfl) (by decide) outs_nil))))))))
          · refine w_cf (congrArg AV.bool b19) ?_
            simp only [b19, Bool.not_true, Bool.not_false]
            refine w_skip (n14 _ (n13 _ (.inl ?_)))
            refine w_reg (w_abs [(0, .slice (a0.map e_impl_Equation)), (1, .slice (a1.map e_impl_Equation)), (5, .int .i64 (IntKind.i64.wrap (v5_14 + 1)))] (fun P hP => ?_) ?_)
            · simp only [W0.down, Nat.reduceEqDiff, ↓reduceIte, reduceCtorEq, Nat.reduceAdd, Nat.reduceSub, Nat.reduceMul, Nat.reduceLeDiff, Nat.reduceBEq, Nat.reduceLT, if_true, if_false, beq_self_eq_true, BEq.rfl, ne_eq, e_i64, e_impl_Equation]
              (try simp only [WN.down, Nat.reduceAdd, if_true, if_false, ↓reduceIte, e_i64, e_impl_Equation] at hP)
              (try simp only [WN.down, Nat.reduceAdd, if_true, if_false, ↓reduceIte, e_i64, e_impl_Equation])
              exact hP
            exact n9 _ (.inr ⟨_, weak_eq rfl, ih14 (IntKind.i64.wrap (v5_14 + 1)) h⟩)
        · refine w_cf (congrArg AV.bool b12) ?_
          simp only [b12, Bool.not_true, Bool.not_false]
          refine w_ex (x10 0 _ (x9 0 _ (b8 _ (n6 _ (.inl ?_)))))
          refine w_sreg (w_abs [(4, .bool true)] (fun P hP => ?_) ?_)
          · simp only [W0.down, Nat.reduceEqDiff, ↓reduceIte, reduceCtorEq, Nat.reduceAdd, Nat.reduceSub, Nat.reduceMul, Nat.reduceLeDiff, Nat.reduceBEq, Nat.reduceLT, if_true, if_false, beq_self_eq_true, BEq.rfl, ne_eq, e_i64, e_impl_Equation]
            (try simp only [WN.down, Nat.reduceAdd, if_true, if_false, ↓reduceIte, e_i64, e_impl_Equation] at hP)
            (try simp only [WN.down, Nat.reduceAdd, if_true, if_false, ↓reduceIte, e_i64, e_impl_Equation])
            exact hP
          exact w_ret (r0 _ (.inl (w_fin [.bool true] rfl (by cases someE h; rfl) (by decide) outs_nil)))
    obtain ⟨n, h⟩ := limE h
    exact w_loop (.inr ⟨_, weak_eq rfl, L14 n 0 h⟩)

theorem ok_laws_FnExactEncodeEquations (a0 : List laws_Equation) (r : Bool) (h : laws_FnExactEncodeEquations a0 = some r) : OkAt Cc 8 [.slice (a0.map e_laws_Equation)] (.bool r) [] := by
  refine OkAt.of_wpQ (fx := [0]) Cc_ok Try.func8 rfl rfl s8 (Nat.le_of_ble_eq_true rfl) (fun Q0 r0 n0 => ?_)
  replace r0 : ∀ s, onW (Fw.Ends Cc [0] [.tmp 2] (.bool r) []) s → Q0 .ret s := r0
  replace n0 : ∀ s, onW (Fw.Ends Cc [0] [.tmp 2] (.bool r) []) s → Q0 .normal s := n0
  show wpC Cc c8 Q0 (stA [(0, .slice (a0.map e_laws_Equation))])
  refine w_sreg (w_abs [(0, .slice (a0.map e_laws_Equation))] (fun P hP => ?_) ?_)
  · simp only [W0.down, Nat.reduceEqDiff, ↓reduceIte, reduceCtorEq, Nat.reduceAdd, Nat.reduceSub, Nat.reduceMul, Nat.reduceLeDiff, Nat.reduceBEq, Nat.reduceLT, if_true, if_false, beq_self_eq_true, BEq.rfl, ne_eq, e_i64, e_laws_Equation]
    (try simp only [WN.down, Nat.reduceAdd, if_true, if_false, ↓reduceIte, e_i64, e_laws_Equation] at hP)
    (try simp only [WN.down, Nat.reduceAdd, if_true, if_false, ↓reduceIte, e_i64, e_laws_Equation])
    exact hP
  refine w_sreg (w_abs [(0, .slice (a0.map e_laws_Equation)), (3, .int .i64 1048576)] (fun P hP => ?_) ?_)
  · simp only [W0.down, Nat.reduceEqDiff, ↓reduceIte, reduceCtorEq, Nat.reduceAdd, Nat.reduceSub, Nat.reduceMul, Nat.reduceLeDiff, Nat.reduceBEq, Nat.reduceLT, if_true, if_false, beq_self_eq_true, BEq.rfl, ne_eq, e_i64, e_laws_Equation]
    (try simp only [WN.down, Nat.reduceAdd, if_true, if_false, ↓reduceIte, e_i64, e_laws_Equation] at hP)
    (try simp only [WN.down, Nat.reduceAdd, if_true, if_false, ↓reduceIte, e_i64, e_laws_Equation])
    exact hP
  obtain ⟨x1, e4, h⟩ := bindE h
  refine w_sreg (w_abs [(0, .slice (a0.map e_laws_Equation)), (3, .int .i64 x1)] (fun P hP => ?_) ?_)
  · simp only [W0.down, Nat.reduceEqDiff, ↓reduceIte, reduceCtorEq, Nat.reduceAdd, Nat.reduceSub, Nat.reduceMul, Nat.reduceLeDiff, Nat.reduceBEq, Nat.reduceLT, if_true, if_false, beq_self_eq_true, BEq.rfl, ne_eq, e_i64, e_laws_Equation]
    refine w_call0 (ok_laws_szEquationS a0 1048576 _ e4) rfl rfl rfl rfl (.inl rfl) ?_
    simp only [W0.down, Nat.reduceEqDiff, ↓reduceIte, reduceCtorEq, Nat.reduceAdd, Nat.reduceSub, Nat.reduceMul, Nat.reduceLeDiff, Nat.reduceBEq, Nat.reduceLT, if_true, if_false, beq_self_eq_true, BEq.rfl, ne_eq, e_i64, e_laws_Equation]
    (try simp only [WN.down, Nat.reduceAdd, if_true, if_false, ↓reduceIte, e_i64, e_laws_Equation] at hP)
    (try simp only [WN.down, Nat.reduceAdd, if_true, if_false, ↓reduceIte, e_i64, e_laws_Equation])
    exact hP
  refine w_seq (fun Q5 n5 q5 x5 => ?_)
  refine w_sreg (w_abs [(0, .slice (a0.map e_laws_Equation)), (11, .bool (decide (x1 < 0)))] (fun P hP => ?_) ?_)
  · simp only [W0.down, Nat.reduceEqDiff, ↓reduceIte, reduceCtorEq, Nat.reduceAdd, Nat.reduceSub, Nat.reduceMul, Nat.reduceLeDiff, Nat.reduceBEq, Nat.reduceLT, if_true, if_false, beq_self_eq_true, BEq.rfl, ne_eq, e_i64, e_laws_Equation]
    (try simp only [WN.down, Nat.reduceAdd, if_true, if_false, ↓reduceIte, e_i64, e_laws_Equation] at hP)
    (try simp only [WN.down, Nat.reduceAdd, if_true, if_false, ↓reduceIte, e_i64, e_laws_Equation])
    exact hP
  rcases condE h with ⟨b7, h⟩ | ⟨b7, h⟩
  · refine w_ct (congrArg AV.bool b7) ?_
    simp only [b7, Bool.not_true, Bool.not_false]
    refine w_sreg (w_abs [(2, .bool true)] (fun P hP => ?_) ?_)
    · simp only [W0.down, Nat.reduceEqDiff, ↓reduceIte, reduceCtorEq, Nat.reduceAdd, Nat.reduceSub, Nat.reduceMul, Nat.reduceLeDiff, Nat.reduceBEq, Nat.reduceLT, if_true, if_false, beq_self_eq_true, BEq.rfl, ne_eq, e_i64, e_laws_Equation]
      (try simp only [WN.down, Nat.reduceAdd, if_true, if_false, ↓reduceIte, e_i64, e_laws_Equation] at hP)
      (try simp only [WN.down, Nat.reduceAdd, if_true, if_false, ↓reduceIte, e_i64, e_laws_Equation])
      exact hP
    exact w_ret (q5 _ (r0 _ (.inl (w_fin [.bool true] rfl (by cases someE h; rfl) (by decide) outs_nil))))
  · refine w_cf (congrArg AV.bool b7) ?_
    simp only [b7, Bool.not_true, Bool.not_false]
    refine w_skip (n5 _ (.inl ?_))
    obtain ⟨x2, e10, h⟩ := bindE h
    obtain ⟨x3, e11, h⟩ := bindE h
    refine w_sreg (w_abs [(0, .slice (a0.map e_laws_Equation)), (4, .str x3)] (fun P hP => ?_) ?_)
    · simp only [W0.down, Nat.reduceEqDiff, ↓reduceIte, reduceCtorEq, Nat.reduceAdd, Nat.reduceSub, Nat.reduceMul, Nat.reduceLeDiff, Nat.reduceBEq, Nat.reduceLT, if_true, if_false, beq_self_eq_true, BEq.rfl, ne_eq, e_i64, e_laws_Equation, u_impl_Equation]
      refine w_call0 (ok_laws_toEquationS a0 _ e10) rfl rfl rfl rfl (.inl rfl) ?_
      simp only [W0.down, Nat.reduceEqDiff, ↓reduceIte, reduceCtorEq, Nat.reduceAdd, Nat.reduceSub, Nat.reduceMul, Nat.reduceLeDiff, Nat.reduceBEq, Nat.reduceLT, if_true, if_false, beq_self_eq_true, BEq.rfl, ne_eq, e_i64, e_laws_Equation, u_impl_Equation]
      refine w_call0 (ok_spec_EncodeEquations x2 _ e11) rfl rfl (by simp only [W0.down, Nat.reduceEqDiff, ↓reduceIte, reduceCtorEq, Nat.reduceAdd, Nat.reduceSub, Nat.reduceMul, Nat.reduceLeDiff, Nat.reduceBEq, Nat.reduceLT, if_true, if_false, beq_self_eq_true, BEq.rfl, ne_eq, e_i64, e_laws_Equation, u_impl_Equation, view_s, view_h, viewH_s, share_s, @shares_map _ u_impl_Equation e_impl_Equation (fun _ => sh_u_impl_Equation _)]) rfl (.inr rfl) ?_
      simp only [W0.down, Nat.reduceEqDiff, ↓reduceIte, reduceCtorEq, Nat.reduceAdd, Nat.reduceSub, Nat.reduceMul, Nat.reduceLeDiff, Nat.reduceBEq, Nat.reduceLT, if_true, if_false, beq_self_eq_true, BEq.rfl, ne_eq, e_i64, e_laws_Equation, u_impl_Equation]
      (try simp only [WN.down, Nat.reduceAdd, if_true, if_false, ↓reduceIte, e_i64, e_laws_Equation, u_impl_Equation] at hP)
      (try simp only [WN.down, Nat.reduceAdd, if_true, if_false, ↓reduceIte, e_i64, e_laws_Equation, u_impl_Equation])
      exact hP
    obtain ⟨x4, e13, h⟩ := bindE h
    refine w_sreg (w_abs [(0, .slice (a0.map e_laws_Equation)), (4, .str x3), (5, .uslice 3 (x4.map u_impl_Equation))] (fun P hP => ?_) ?_)
    · simp only [W0.down, Nat.reduceEqDiff, ↓reduceIte, reduceCtorEq, Nat.reduceAdd, Nat.reduceSub, Nat.reduceMul, Nat.reduceLeDiff, Nat.reduceBEq, Nat.reduceLT, if_true, if_false, beq_self_eq_true, BEq.rfl, ne_eq, e_i64, e_laws_Equation, u_impl_Equation]
      refine w_call0 (ok_laws_toEquationS a0 _ e13) rfl rfl rfl rfl (.inl rfl) ?_
      simp only [W0.down, Nat.reduceEqDiff, ↓reduceIte, reduceCtorEq, Nat.reduceAdd, Nat.reduceSub, Nat.reduceMul, Nat.reduceLeDiff, Nat.reduceBEq, Nat.reduceLT, if_true, if_false, beq_self_eq_true, BEq.rfl, ne_eq, e_i64, e_laws_Equation, u_impl_Equation]
      (try simp only [WN.down, Nat.reduceAdd, if_true, if_false, ↓reduceIte, e_i64, e_laws_Equation, u_impl_Equation] at hP)
      (try simp only [WN.down, Nat.reduceAdd, if_true, if_false, ↓reduceIte, e_i64, e_laws_Equation, u_impl_Equation])
      exact hP
    obtain ⟨x5, e15, h⟩ := bindE h
    refine w_sreg (w_abs [(0, .slice (a0.map e_laws_Equation)), (4, .str x3), (5, .uslice 3 (x4.map u_impl_Equation)), (6, .str x5)] (fun P hP => ?_) ?_)
    · simp only [W0.down, Nat.reduceEqDiff, ↓reduceIte, reduceCtorEq, Nat.reduceAdd, Nat.reduceSub, Nat.reduceMul, Nat.reduceLeDiff, Nat.reduceBEq, Nat.reduceLT, if_true, if_false, beq_self_eq_true, BEq.rfl, ne_eq, e_i64, e_laws_Equation, u_impl_Equation]
      refine w_call0 (ok_impl_EncodeEquations x4 _ e15) rfl rfl (by simp only [W0.down, Nat.reduceEqDiff, ↓reduceIte, reduceCtorEq, Nat.reduceAdd, Nat.reduceSub, Nat.reduceMul, Nat.reduceLeDiff, Nat.reduceBEq, Nat.reduceLT, if_true, if_false, beq_self_eq_true, BEq.rfl, ne_eq, e_i64, e_laws_Equation, u_impl_Equation, view_s, view_h, viewH_s, share_s, @shares_map _ u_impl_Equation e_impl_Equation (fun _ => sh_u_impl_Equation _)]) rfl (.inr rfl) ?_
      simp only [W0.down, Nat.reduceEqDiff, ↓reduceIte, reduceCtorEq, Nat.reduceAdd, Nat.reduceSub, Nat.reduceMul, Nat.reduceLeDiff, Nat.reduceBEq, Nat.reduceLT, if_true, if_false, beq_self_eq_true, BEq.rfl, ne_eq, e_i64, e_laws_Equation, u_impl_Equation]
      (try simp only [WN.down, Nat.reduceAdd, if_true, if_false, ↓reduceIte, e_i64, e_laws_Equation, u_impl_Equation] at hP)
      (try simp only [WN.down, Nat.reduceAdd, if_true, if_false, ↓reduceIte, e_i64, e_laws_Equation, u_impl_Equation])
      exact hP
    refine w_seq (fun Q16 n16 q16 x16 => ?_)
    refine w_sreg (w_abs [(0, .slice (a0.map e_laws_Equation)), (5, .uslice 3 (x4.map u_impl_Equation)), (21, .bool (!(x5 == x3)))] (fun P hP => ?_) ?_)
    · simp only [W0.down, Nat.reduceEqDiff, ↓reduceIte, reduceCtorEq, Nat.reduceAdd, Nat.reduceSub, Nat.reduceMul, Nat.reduceLeDiff, Nat.reduceBEq, Nat.reduceLT, if_true, if_false, beq_self_eq_true, BEq.rfl, ne_eq, e_i64, e_laws_Equation, u_impl_Equation]
      (try simp only [WN.down, Nat.reduceAdd, if_true, if_false, ↓reduceIte, e_i64, e_laws_Equation, u_impl_Equation] at hP)
      (try simp only [WN.down, Nat.reduceAdd, if_true, if_false, ↓reduceIte, e_i64, e_laws_Equation, u_impl_Equation])
      exact hP
    rcases condE h with ⟨b18, h⟩ | ⟨b18, h⟩
    · refine w_ct (congrArg AV.bool b18) ?_
      simp only [b18, Bool.not_true, Bool.not_false]
      refine w_sreg (w_abs [(2, .bool false)] (fun P hP => ?_) ?_)
      · simp only [W0.down, Nat.reduceEqDiff, ↓reduceIte, reduceCtorEq, Nat.reduceAdd, Nat.reduceSub, Nat.reduceMul, Nat.reduceLeDiff, Nat.reduceBEq, Nat.reduceLT, if_true, if_false, beq_self_eq_true, BEq.rfl, ne_eq, e_i64, e_laws_Equation, u_impl_Equation]
        (try simp only [WN.down, Nat.reduceAdd, if_true, if_false, ↓reduceIte, e_i64, e_laws_Equation, u_impl_Equation] at hP)
        (try simp only [WN.down, Nat.reduceAdd, if_true, if_false, ↓reduceIte, e_i64, e_laws_Equation, u_impl_Equation])
        exact hP
      exact w_ret (q16 _ (r0 _ (.inl (w_fin [.bool false] rfl (by cases someE h; rfl) (by decide) outs_nil))))
    · refine w_cf (congrArg AV.bool b18) ?_
      simp only [b18, Bool.not_true, Bool.not_false]
      refine w_skip (n16 _ (.inl ?_))
      refine w_seq (fun Q20 n20 q20 x20 => ?_)
      obtain ⟨x6, e22, h⟩ := bindE h
      obtain ⟨x7, e23, h⟩ := bindE h
      refine w_sreg (w_abs [(26, .bool (!x7))] (fun P hP => ?_) ?_)
      · simp only [W0.down, Nat.reduceEqDiff, ↓reduceIte, reduceCtorEq, Nat.reduceAdd, Nat.reduceSub, Nat.reduceMul, Nat.reduceLeDiff, Nat.reduceBEq, Nat.reduceLT, if_true, if_false, beq_self_eq_true, BEq.rfl, ne_eq, e_i64, e_laws_Equation, u_impl_Equation]
        refine w_call0 (ok_laws_toEquationS a0 _ e22) rfl rfl rfl rfl (.inl rfl) ?_
        simp only [W0.down, Nat.reduceEqDiff, ↓reduceIte, reduceCtorEq, Nat.reduceAdd, Nat.reduceSub, Nat.reduceMul, Nat.reduceLeDiff, Nat.reduceBEq, Nat.reduceLT, if_true, if_false, beq_self_eq_true, BEq.rfl, ne_eq, e_i64, e_laws_Equation, u_impl_Equation]
        refine w_call0 (ok_laws_eqEquationS x4 x6 _ e23) rfl rfl (by simp only [W0.down, Nat.reduceEqDiff, ↓reduceIte, reduceCtorEq, Nat.reduceAdd, Nat.reduceSub, Nat.reduceMul, Nat.reduceLeDiff, Nat.reduceBEq, Nat.reduceLT, if_true, if_false, beq_self_eq_true, BEq.rfl, ne_eq, e_i64, e_laws_Equation, u_impl_Equation, view_s, view_h, viewH_s, share_s, @shares_map _ u_impl_Equation e_impl_Equation (fun _ => sh_u_impl_Equation _), @shares_map _ u_impl_Equation e_impl_Equation (fun _ => sh_u_impl_Equation _)]) rfl (.inr rfl) ?_
        simp only [W0.down, Nat.reduceEqDiff, ↓reduceIte, reduceCtorEq, Nat.reduceAdd, Nat.reduceSub, Nat.reduceMul, Nat.reduceLeDiff, Nat.reduceBEq, Nat.reduceLT, if_true, if_false, beq_self_eq_true, BEq.rfl, ne_eq, e_i64, e_laws_Equation, u_impl_Equation]
        (try simp only [WN.down, Nat.reduceAdd, if_true, if_false, ↓reduceIte, e_i64, e_laws_Equation, u_impl_Equation] at hP)
        (try simp only [WN.down, Nat.reduceAdd, if_true, if_false, ↓reduceIte, e_i64, e_laws_Equation, u_impl_Equation])
        exact hP
      rcases condE h with ⟨b24, h⟩ | ⟨b24, h⟩
      · refine w_ct (congrArg AV.bool b24) ?_
        simp only [b24, Bool.not_true, Bool.not_false]
        refine w_sreg (w_abs [(2, .bool false)] (fun P hP => ?_) ?_)
        · simp only [W0.down, Nat.reduceEqDiff, ↓reduceIte, reduceCtorEq, Nat.reduceAdd, Nat.reduceSub, Nat.reduceMul, Nat.reduceLeDiff, Nat.reduceBEq, Nat.reduceLT, if_true, if_false, beq_self_eq_true, BEq.rfl, ne_eq]
          (try simp only [WN.down, Nat.reduceAdd, if_true, if_false, ↓reduceIte] at hP)
          (try simp only [WN.down, Nat.reduceAdd, if_true, if_false, ↓reduceIte])
          exact hP
        exact w_ret (q20 _ (r0 _ (.inl (w_fin [.bool false] rfl (by cases someE h; rfl) (by decide) outs_nil))))
      · refine w_cf (congrArg AV.bool b24) ?_
        simp only [b24, Bool.not_true, Bool.not_false]
        refine w_skip (n20 _ (.inl ?_))
        refine w_sreg (w_abs [(2, .bool true)] (fun P hP => ?_) ?_)
        · simp only [W0.down, Nat.reduceEqDiff, ↓reduceIte, reduceCtorEq, Nat.reduceAdd, Nat.reduceSub, Nat.reduceMul, Nat.reduceLeDiff, Nat.reduceBEq, Nat.reduceLT, if_true, if_false, beq_self_eq_true, BEq.rfl, ne_eq]
          (try simp only [WN.down, Nat.reduceAdd, if_true, if_false, ↓reduceIte] at hP)
          (try simp only [WN.down, Nat.reduceAdd, if_true, if_false, ↓reduceIte])
          exact hP
        exact w_ret (r0 _ (.inl (w_fin [.bool true] rfl (by cases someE h; rfl) (by decide) outs_nil)))

end Go.Proofs.Ytncnipaofaeaiaa
