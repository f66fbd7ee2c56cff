/- Part of a proof that a law returns true for every input. No condition. -/
import Derived.Test.YtncnipaofaeaiaaC6
namespace Go.Proofs.Ytncnipaofaeaiaa
open Go Go.Fw Go.Sh
set_option maxRecDepth 100000
set_option linter.unusedSimpArgs false
set_option linter.unusedVariables false

theorem ok_laws_szItem (a0 : laws_Item) (a1 : Int) (r : Int) (h : laws_szItem a0 a1 = some r) : OkAt Cc 32 [e_laws_Item a0, .int .i64 a1] (.int .i64 r) [] := by
  refine OkAt.of_wpQ (fx := [0]) Cc_ok Try.func32 rfl rfl s32 (Nat.le_of_ble_eq_true rfl) (fun Q0 r0 n0 => ?_)
  replace r0 : ∀ s, onW (Fw.Ends Cc [0] [.tmp 4] (.int .i64 r) []) s → Q0 .ret s := r0
  replace n0 : ∀ s, onW (Fw.Ends Cc [0] [.tmp 4] (.int .i64 r) []) s → Q0 .normal s := n0
  show wpC Cc c32 Q0 (stA [(0, e_laws_Item a0), (1, .int .i64 a1)])
  refine w_sreg (w_abs [(1, .int .i64 a1), (2, .ubox (e_laws_Item a0))] (fun P hP => ?_) ?_)
  · simp only [W0.down, Nat.reduceEqDiff, ↓reduceIte, reduceCtorEq, Nat.reduceAdd, Nat.reduceSub, Nat.reduceMul, Nat.reduceLeDiff, Nat.reduceBEq, Nat.reduceLT, if_true, if_false, beq_self_eq_true, BEq.rfl, ne_eq, tt9, tt51, e_laws_Item]
    (try simp only [WN.down, Nat.reduceAdd, if_true, if_false, ↓reduceIte, tt9, tt51, e_laws_Item] at hP)
    (try simp only [WN.down, Nat.reduceAdd, if_true, if_false, ↓reduceIte, tt9, tt51, e_laws_Item])
    exact hP
  refine w_sreg (w_abs [(1, .int .i64 (IntKind.i64.wrap (a1 - (a0.Name.length : Int)))), (2, .ubox (e_laws_Item a0))] (fun P hP => ?_) ?_)
  · simp only [W0.down, Nat.reduceEqDiff, ↓reduceIte, reduceCtorEq, Nat.reduceAdd, Nat.reduceSub, Nat.reduceMul, Nat.reduceLeDiff, Nat.reduceBEq, Nat.reduceLT, if_true, if_false, beq_self_eq_true, BEq.rfl, ne_eq, tt9, tt51, e_laws_Item]
    (try simp only [WN.down, Nat.reduceAdd, if_true, if_false, ↓reduceIte, tt9, tt51, e_laws_Item] at hP)
    (try simp only [WN.down, Nat.reduceAdd, if_true, if_false, ↓reduceIte, tt9, tt51, e_laws_Item])
    exact hP
  refine w_seq (fun Q3 n3 q3 x3 => ?_)
  refine w_sreg (w_abs [(1, .int .i64 (IntKind.i64.wrap (a1 - (a0.Name.length : Int)))), (2, .ubox (e_laws_Item a0)), (11, .bool (decide ((IntKind.i64.wrap (a1 - (a0.Name.length : Int))) < 0)))] (fun P hP => ?_) ?_)
  · simp only [W0.down, Nat.reduceEqDiff, ↓reduceIte, reduceCtorEq, Nat.reduceAdd, Nat.reduceSub, Nat.reduceMul, Nat.reduceLeDiff, Nat.reduceBEq, Nat.reduceLT, if_true, if_false, beq_self_eq_true, BEq.rfl, ne_eq, e_laws_Item]
    (try simp only [WN.down, Nat.reduceAdd, if_true, if_false, ↓reduceIte, e_laws_Item] at hP)
    (try simp only [WN.down, Nat.reduceAdd, if_true, if_false, ↓reduceIte, e_laws_Item])
    exact hP
  rcases condE h with ⟨b5, h⟩ | ⟨b5, h⟩
  · refine w_ct (congrArg AV.bool b5) ?_
    simp only [b5, Bool.not_true, Bool.not_false]
    refine w_sreg (w_abs [(4, .int .i64 (-1))] (fun P hP => ?_) ?_)
    · simp only [W0.down, Nat.reduceEqDiff, ↓reduceIte, reduceCtorEq, Nat.reduceAdd, Nat.reduceSub, Nat.reduceMul, Nat.reduceLeDiff, Nat.reduceBEq, Nat.reduceLT, if_true, if_false, beq_self_eq_true, BEq.rfl, ne_eq, e_laws_Item]
      (try simp only [WN.down, Nat.reduceAdd, if_true, if_false, ↓reduceIte, e_laws_Item] at hP)
      (try simp only [WN.down, Nat.reduceAdd, if_true, if_false, ↓reduceIte, e_laws_Item])
      exact hP
    exact w_ret (q3 _ (r0 _ (.inl (w_fin [.int .i64 (-1)] rfl (by cases someE h; rfl) (by decide) outs_nil))))
  · refine w_cf (congrArg AV.bool b5) ?_
    simp only [b5, Bool.not_true, Bool.not_false]
    refine w_skip (n3 _ (.inl ?_))
    refine w_sreg (w_abs [(1, .int .i64 (IntKind.i64.wrap ((IntKind.i64.wrap (a1 - (a0.Name.length : Int))) - (a0.Image.length : Int))))] (fun P hP => ?_) ?_)
    · simp only [W0.down, Nat.reduceEqDiff, ↓reduceIte, reduceCtorEq, Nat.reduceAdd, Nat.reduceSub, Nat.reduceMul, Nat.reduceLeDiff, Nat.reduceBEq, Nat.reduceLT, if_true, if_false, beq_self_eq_true, BEq.rfl, ne_eq, tt9, tt51, e_laws_Item]
      (try simp only [WN.down, Nat.reduceAdd, if_true, if_false, ↓reduceIte, tt9, tt51, e_laws_Item] at hP)
      (try simp only [WN.down, Nat.reduceAdd, if_true, if_false, ↓reduceIte, tt9, tt51, e_laws_Item])
      exact hP
    refine w_seq (fun Q8 n8 q8 x8 => ?_)
    refine w_sreg (w_abs [(1, .int .i64 (IntKind.i64.wrap ((IntKind.i64.wrap (a1 - (a0.Name.length : Int))) - (a0.Image.length : Int)))), (18, .bool (decide ((IntKind.i64.wrap ((IntKind.i64.wrap (a1 - (a0.Name.length : Int))) - (a0.Image.length : Int))) < 0)))] (fun P hP => ?_) ?_)
    · simp only [W0.down, Nat.reduceEqDiff, ↓reduceIte, reduceCtorEq, Nat.reduceAdd, Nat.reduceSub, Nat.reduceMul, Nat.reduceLeDiff, Nat.reduceBEq, Nat.reduceLT, if_true, if_false, beq_self_eq_true, BEq.rfl, ne_eq]
      (try simp only [WN.down, Nat.reduceAdd, if_true, if_false, ↓reduceIte] at hP)
      (try simp only [WN.down, Nat.reduceAdd, if_true, if_false, ↓reduceIte])
      exact hP
    rcases condE h with ⟨b10, h⟩ | ⟨b10, h⟩
    · refine w_ct (congrArg AV.bool b10) ?_
      simp only [b10, Bool.not_true, Bool.not_false]
      refine w_sreg (w_abs [(4, .int .i64 (-1))] (fun P hP => ?_) ?_)
      · simp only [W0.down, Nat.reduceEqDiff, ↓reduceIte, reduceCtorEq, Nat.reduceAdd, Nat.reduceSub, Nat.reduceMul, Nat.reduceLeDiff, Nat.reduceBEq, Nat.reduceLT, if_true, if_false, beq_self_eq_true, BEq.rfl, ne_eq]
        (try simp only [WN.down, Nat.reduceAdd, if_true, if_false, ↓reduceIte] at hP)
        (try simp only [WN.down, Nat.reduceAdd, if_true, if_false, ↓reduceIte])
        exact hP
      exact w_ret (q8 _ (r0 _ (.inl (w_fin [.int .i64 (-1)] rfl (by cases someE h; rfl) (by decide) outs_nil))))
    · refine w_cf (congrArg AV.bool b10) ?_
      simp only [b10, Bool.not_true, Bool.not_false]
      refine w_skip (n8 _ (.inl ?_))
      refine w_sreg (w_abs [(4, .int .i64 (IntKind.i64.wrap ((IntKind.i64.wrap (a1 - (a0.Name.length : Int))) - (a0.Image.length : Int))))] (fun P hP => ?_) ?_)
      · simp only [W0.down, Nat.reduceEqDiff, ↓reduceIte, reduceCtorEq, Nat.reduceAdd, Nat.reduceSub, Nat.reduceMul, Nat.reduceLeDiff, Nat.reduceBEq, Nat.reduceLT, if_true, if_false, beq_self_eq_true, BEq.rfl, ne_eq]
        (try simp only [WN.down, Nat.reduceAdd, if_true, if_false, ↓reduceIte] at hP)
        (try simp only [WN.down, Nat.reduceAdd, if_true, if_false, ↓reduceIte])
        exact hP
      exact w_ret (r0 _ (.inl (w_fin [.int .i64 (IntKind.i64.wrap ((IntKind.i64.wrap (a1 - (a0.Name.length : Int))) - (a0.Image.length : Int)))] rfl (by cases someE h; rfl) (by decide) outs_nil)))

theorem ok_laws_szItemS (a0 : List laws_Item) (a1 : Int) (r : Int) (h : laws_szItemS a0 a1 = some r) : OkAt Cc 13 [.slice (a0.map e_laws_Item), .int .i64 a1] (.int .i64 r) [] := by
  refine OkAt.of_wpQ (fx := [0]) Cc_ok Try.func13 rfl rfl s13 (Nat.le_of_ble_eq_true rfl) (fun Q0 r0 n0 => ?_)
  replace r0 : ∀ s, onW (Fw.Ends Cc [0] [.tmp 4] (.int .i64 r) []) s → Q0 .ret s := r0
  replace n0 : ∀ s, onW (Fw.Ends Cc [0] [.tmp 4] (.int .i64 r) []) s → Q0 .normal s := n0
  show wpC Cc c13 Q0 (stA [(0, .slice (a0.map e_laws_Item)), (1, .int .i64 a1)])
  refine w_sreg (w_abs [(0, .slice (a0.map e_laws_Item)), (1, .int .i64 a1)] (fun P hP => ?_) ?_)
  · simp only [W0.down, Nat.reduceEqDiff, ↓reduceIte, reduceCtorEq, Nat.reduceAdd, Nat.reduceSub, Nat.reduceMul, Nat.reduceLeDiff, Nat.reduceBEq, Nat.reduceLT, if_true, if_false, beq_self_eq_true, BEq.rfl, ne_eq, e_laws_Item]
    (try simp only [WN.down, Nat.reduceAdd, if_true, if_false, ↓reduceIte, e_laws_Item] at hP)
    (try simp only [WN.down, Nat.reduceAdd, if_true, if_false, ↓reduceIte, e_laws_Item])
    exact hP
  refine w_sreg (w_abs [(0, .slice (a0.map e_laws_Item)), (1, .int .i64 (IntKind.i64.wrap (a1 - (a0.length : Int))))] (fun P hP => ?_) ?_)
  · simp only [W0.down, Nat.reduceEqDiff, ↓reduceIte, reduceCtorEq, Nat.reduceAdd, Nat.reduceSub, Nat.reduceMul, Nat.reduceLeDiff, Nat.reduceBEq, Nat.reduceLT, if_true, if_false, beq_self_eq_true, BEq.rfl, ne_eq, tt9, tt27, tt51, e_laws_Item]
    (try simp only [WN.down, Nat.reduceAdd, if_true, if_false, ↓reduceIte, tt9, tt27, tt51, e_laws_Item] at hP)
    (try simp only [WN.down, Nat.reduceAdd, if_true, if_false, ↓reduceIte, tt9, tt27, tt51, e_laws_Item])
    exact hP
  refine w_seq (fun Q3 n3 q3 x3 => ?_)
  refine w_sreg (w_abs [(0, .slice (a0.map e_laws_Item)), (1, .int .i64 (IntKind.i64.wrap (a1 - (a0.length : Int)))), (11, .bool (decide ((IntKind.i64.wrap (a1 - (a0.length : Int))) < 0)))] (fun P hP => ?_) ?_)
  · simp only [W0.down, Nat.reduceEqDiff, ↓reduceIte, reduceCtorEq, Nat.reduceAdd, Nat.reduceSub, Nat.reduceMul, Nat.reduceLeDiff, Nat.reduceBEq, Nat.reduceLT, if_true, if_false, beq_self_eq_true, BEq.rfl, ne_eq, e_laws_Item]
    (try simp only [WN.down, Nat.reduceAdd, if_true, if_false, ↓reduceIte, e_laws_Item] at hP)
    (try simp only [WN.down, Nat.reduceAdd, if_true, if_false, ↓reduceIte, e_laws_Item])
    exact hP
  rcases condE h with ⟨b5, h⟩ | ⟨b5, h⟩
  · refine w_ct (congrArg AV.bool b5) ?_
    simp only [b5, Bool.not_true, Bool.not_false]
    refine w_sreg (w_abs [(4, .int .i64 (-1))] (fun P hP => ?_) ?_)
    · simp only [W0.down, Nat.reduceEqDiff, ↓reduceIte, reduceCtorEq, Nat.reduceAdd, Nat.reduceSub, Nat.reduceMul, Nat.reduceLeDiff, Nat.reduceBEq, Nat.reduceLT, if_true, if_false, beq_self_eq_true, BEq.rfl, ne_eq, e_laws_Item]
      (try simp only [WN.down, Nat.reduceAdd, if_true, if_false, ↓reduceIte, e_laws_Item] at hP)
      (try simp only [WN.down, Nat.reduceAdd, if_true, if_false, ↓reduceIte, e_laws_Item])
      exact hP
    exact w_ret (q3 _ (r0 _ (.inl (w_fin [.int .i64 (-1)] rfl (by cases someE h; rfl) (by decide) outs_nil))))
  · refine w_cf (congrArg AV.bool b5) ?_
    simp only [b5, Bool.not_true, Bool.not_false]
    refine w_skip (n3 _ (.inl ?_))
    refine w_seq (fun Q7 n7 q7 x7 => ?_)
    refine w_sreg (w_abs [(0, .slice (a0.map e_laws_Item)), (1, .int .i64 (IntKind.i64.wrap (a1 - (a0.length : Int)))), (5, .int .i64 0)] (fun P hP => ?_) ?_)
    · simp only [W0.down, Nat.reduceEqDiff, ↓reduceIte, reduceCtorEq, Nat.reduceAdd, Nat.reduceSub, Nat.reduceMul, Nat.reduceLeDiff, Nat.reduceBEq, Nat.reduceLT, if_true, if_false, beq_self_eq_true, BEq.rfl, ne_eq, e_laws_Item]
      (try simp only [WN.down, Nat.reduceAdd, if_true, if_false, ↓reduceIte, e_laws_Item] at hP)
      (try simp only [WN.down, Nat.reduceAdd, if_true, if_false, ↓reduceIte, e_laws_Item])
      exact hP
    refine w_blk (fun Q9 n9 q9 b9 x9 => ?_)
    have L16 : ∀ (n : Nat) (v1_16 : Int) (v5_16 : Int), laws_szItemS_l16 a0 n v1_16 v5_16 = some r → lpC Cc c13_17 Q9 (stA [(0, .slice (a0.map e_laws_Item)), (1, .int .i64 v1_16), (5, .int .i64 v5_16)]) := by
      intro m16
      induction m16 with
      | zero => intro v1_16 v5_16 h; cases (show none = some r from h)
      | succ m16 ih16 =>
        intro v1_16 v5_16 h
        replace h : laws_szItemS_b16 (laws_szItemS_l16 a0 m16) a0 v1_16 v5_16 = some r := h
        refine lpC_step (fun Q10 n10 q10 x10 => ?_)
        refine w_seq (fun Q11 n11 q11 x11 => ?_)
        refine w_sreg (w_abs [(0, .slice (a0.map e_laws_Item)), (1, .int .i64 v1_16), (5, .int .i64 v5_16), (15, .bool (decide (v5_16 < (a0.length : Int))))] (fun P hP => ?_) ?_)
        · simp only [W0.down, Nat.reduceEqDiff, ↓reduceIte, reduceCtorEq, Nat.reduceAdd, Nat.reduceSub, Nat.reduceMul, Nat.reduceLeDiff, Nat.reduceBEq, Nat.reduceLT, if_true, if_false, beq_self_eq_true, BEq.rfl, ne_eq, tt9, tt27, tt51, e_laws_Item]
          (try simp only [WN.down, Nat.reduceAdd, if_true, if_false, ↓reduceIte, tt9, tt27, tt51, e_laws_Item] at hP)
          (try simp only [WN.down, Nat.reduceAdd, if_true, if_false, ↓reduceIte, tt9, tt27, tt51, e_laws_Item])
          exact hP
        rcases condE h with ⟨b13, h⟩ | ⟨b13, h⟩
        · refine w_ct (congrArg AV.bool b13) ?_
          simp only [b13, Bool.not_true, Bool.not_false]
          refine w_skip (n11 _ (.inl ?_))
          refine w_seq (fun Q14 n14 q14 x14 => ?_)
          refine w_blk (fun Q15 n15 q15 b15 x15 => ?_)
          obtain ⟨x1, e17, h⟩ := bindE h
          obtain ⟨x2, e18, h⟩ := bindE h
          refine w_sreg (w_abs [(0, .slice (a0.map e_laws_Item)), (1, .int .i64 x2), (5, .int .i64 v5_16)] (fun P hP => ?_) ?_)
          · simp only [W0.down, Nat.reduceEqDiff, ↓reduceIte, reduceCtorEq, Nat.reduceAdd, Nat.reduceSub, Nat.reduceMul, Nat.reduceLeDiff, Nat.reduceBEq, Nat.reduceLT, if_true, if_false, beq_self_eq_true, BEq.rfl, ne_eq, tt9, tt27, tt51, e_laws_Item, e17]
            refine w_call0 (ok_laws_szItem x1 v1_16 _ e18) rfl rfl rfl rfl (.inl rfl) ?_
            simp only [W0.down, Nat.reduceEqDiff, ↓reduceIte, reduceCtorEq, Nat.reduceAdd, Nat.reduceSub, Nat.reduceMul, Nat.reduceLeDiff, Nat.reduceBEq, Nat.reduceLT, if_true, if_false, beq_self_eq_true, BEq.rfl, ne_eq, tt9, tt27, tt51, e_laws_Item, e17]
            (try simp only [WN.down, Nat.reduceAdd, if_true, if_false, ↓reduceIte, tt9, tt27, tt51, e_laws_Item, e17] at hP)
            (try simp only [WN.down, Nat.reduceAdd, if_true, if_false, ↓reduceIte, tt9, tt27, tt51, e_laws_Item, e17])
            exact hP
          refine w_sreg (w_abs [(0, .slice (a0.map e_laws_Item)), (1, .int .i64 x2), (5, .int .i64 v5_16), (25, .bool (decide (x2 < 0)))] (fun P hP => ?_) ?_)
          · simp only [W0.down, Nat.reduceEqDiff, ↓reduceIte, reduceCtorEq, Nat.reduceAdd, Nat.reduceSub, Nat.reduceMul, Nat.reduceLeDiff, Nat.reduceBEq, Nat.reduceLT, if_true, if_false, beq_self_eq_true, BEq.rfl, ne_eq, e_laws_Item]
            (try simp only [WN.down, Nat.reduceAdd, if_true, if_false, ↓reduceIte, e_laws_Item] at hP)
            (try simp only [WN.down, Nat.reduceAdd, if_true, if_false, ↓reduceIte, e_laws_Item])
            exact hP
          rcases condE h with ⟨b20, h⟩ | ⟨b20, h⟩
          · refine w_ct (congrArg AV.bool b20) ?_
            simp only [b20, Bool.not_true, Bool.not_false]
            refine w_sreg (w_abs [(4, .int .i64 (-1))] (fun P hP => ?_) ?_)
            · simp only [W0.down, Nat.reduceEqDiff, ↓reduceIte, reduceCtorEq, Nat.reduceAdd, Nat.reduceSub, Nat.reduceMul, Nat.reduceLeDiff, Nat.reduceBEq, Nat.reduceLT, if_true, if_false, beq_self_eq_true, BEq.rfl, ne_eq, e_laws_Item]
              (try simp only [WN.down, Nat.reduceAdd, if_true, if_false, ↓reduceIte, e_laws_Item] at hP)
              (try simp only [WN.down, Nat.reduceAdd, if_true, if_false, ↓reduceIte, e_laws_Item])
              exact hP
            exact w_ret (q15 _ (q14 _ (q10 _ (q9 _ (q7 _ (r0 _ (.inl (w_fin [.int .i64 (-1)] rfl (by cases someE h; rfl) (by decide) outs_nil))))))))
          · refine w_cf (congrArg AV.bool b20) ?_
            simp only [b20, Bool.not_true, Bool.not_false]
            refine w_skip (n15 _ (n14 _ (.inl ?_)))
            refine w_reg (w_abs [(0, .slice (a0.map e_laws_Item)), (1, .int .i64 x2), (5, .int .i64 (IntKind.i64.wrap (v5_16 + 1)))] (fun P hP => ?_) ?_)
            · simp only [W0.down, Nat.reduceEqDiff, ↓reduceIte, reduceCtorEq, Nat.reduceAdd, Nat.reduceSub, Nat.reduceMul, Nat.reduceLeDiff, Nat.reduceBEq, Nat.reduceLT, if_true, if_false, beq_self_eq_true, BEq.rfl, ne_eq, e_laws_Item]
              (try simp only [WN.down, Nat.reduceAdd, if_true, if_false, ↓reduceIte, e_laws_Item] at hP)
              (try simp only [WN.down, Nat.reduceAdd, if_true, if_false, ↓reduceIte, e_laws_Item])
              exact hP
            exact n10 _ (.inr ⟨_, weak_eq rfl, ih16 x2 (IntKind.i64.wrap (v5_16 + 1)) h⟩)
        · refine w_cf (congrArg AV.bool b13) ?_
          simp only [b13, Bool.not_true, Bool.not_false]
          refine w_ex (x11 0 _ (x10 0 _ (b9 _ (n7 _ (.inl ?_)))))
          refine w_sreg (w_abs [(4, .int .i64 v1_16)] (fun P hP => ?_) ?_)
          · simp only [W0.down, Nat.reduceEqDiff, ↓reduceIte, reduceCtorEq, Nat.reduceAdd, Nat.reduceSub, Nat.reduceMul, Nat.reduceLeDiff, Nat.reduceBEq, Nat.reduceLT, if_true, if_false, beq_self_eq_true, BEq.rfl, ne_eq, e_laws_Item]
            (try simp only [WN.down, Nat.reduceAdd, if_true, if_false, ↓reduceIte, e_laws_Item] at hP)
            (try simp only [WN.down, Nat.reduceAdd, if_true, if_false, ↓reduceIte, e_laws_Item])
            exact hP
          exact w_ret (r0 _ (.inl (w_fin [.int .i64 v1_16] rfl (by cases someE h; rfl) (by decide) outs_nil)))
    obtain ⟨n, h⟩ := limE h
    exact w_loop (.inr ⟨_, weak_eq rfl, L16 n (IntKind.i64.wrap (a1 - (a0.length : Int))) 0 h⟩)

theorem ok_laws_toItem (a0 : laws_Item) (r : impl_Item) (h : laws_toItem a0 = some r) : OkAt Cc 34 [e_laws_Item a0] (e_impl_Item r) [] := by
  refine OkAt.of_wpQ (fx := [0]) Cc_ok Try.func34 rfl rfl s34 (Nat.le_of_ble_eq_true rfl) (fun Q0 r0 n0 => ?_)
  replace r0 : ∀ s, onW (Fw.Ends Cc [0] [.cell 2 52] (e_impl_Item r) []) s → Q0 .ret s := r0
  replace n0 : ∀ s, onW (Fw.Ends Cc [0] [.cell 2 52] (e_impl_Item r) []) s → Q0 .normal s := n0
  show wpC Cc c34 Q0 (stA [(0, e_laws_Item a0)])
  refine w_sreg (w_abs [(1, .ubox (e_laws_Item a0)), (2, .ubox (.agg [.str ([] : List UInt8), .str ([] : List UInt8)]))] (fun P hP => ?_) ?_)
  · simp only [W0.down, Nat.reduceEqDiff, ↓reduceIte, reduceCtorEq, Nat.reduceAdd, Nat.reduceSub, Nat.reduceMul, Nat.reduceLeDiff, Nat.reduceBEq, Nat.reduceLT, if_true, if_false, beq_self_eq_true, BEq.rfl, ne_eq, tt9, tt51, tt52, e_laws_Item]
    (try simp only [WN.down, Nat.reduceAdd, if_true, if_false, ↓reduceIte, tt9, tt51, tt52, e_laws_Item] at hP)
    (try simp only [WN.down, Nat.reduceAdd, if_true, if_false, ↓reduceIte, tt9, tt51, tt52, e_laws_Item])
    exact hP
  refine w_sreg (w_abs [(1, .ubox (e_laws_Item a0)), (2, .ubox (.agg [.str ([] : List UInt8), .str ([] : List UInt8)])), (3, .ubox (.agg [.str ([] : List UInt8), .str ([] : List UInt8)]))] (fun P hP => ?_) ?_)
  · simp only [W0.down, Nat.reduceEqDiff, ↓reduceIte, reduceCtorEq, Nat.reduceAdd, Nat.reduceSub, Nat.reduceMul, Nat.reduceLeDiff, Nat.reduceBEq, Nat.reduceLT, if_true, if_false, beq_self_eq_true, BEq.rfl, ne_eq, tt9, tt52, e_laws_Item]
    (try simp only [WN.down, Nat.reduceAdd, if_true, if_false, ↓reduceIte, tt9, tt52, e_laws_Item] at hP)
    (try simp only [WN.down, Nat.reduceAdd, if_true, if_false, ↓reduceIte, tt9, tt52, e_laws_Item])
    exact hP
  refine w_sreg (w_abs [(1, .ubox (e_laws_Item a0)), (2, .ubox (.agg [.str ([] : List UInt8), .str ([] : List UInt8)])), (3, .ubox (.agg [.str a0.Name, .str ([] : List UInt8)]))] (fun P hP => ?_) ?_)
  · simp only [W0.down, Nat.reduceEqDiff, ↓reduceIte, reduceCtorEq, Nat.reduceAdd, Nat.reduceSub, Nat.reduceMul, Nat.reduceLeDiff, Nat.reduceBEq, Nat.reduceLT, if_true, if_false, beq_self_eq_true, BEq.rfl, ne_eq, tt9, tt51, tt52, e_laws_Item]
    (try simp only [WN.down, Nat.reduceAdd, if_true, if_false, ↓reduceIte, tt9, tt51, tt52, e_laws_Item] at hP)
    (try simp only [WN.down, Nat.reduceAdd, if_true, if_false, ↓reduceIte, tt9, tt51, tt52, e_laws_Item])
    exact hP
  refine w_sreg (w_abs [(2, .ubox (.agg [.str ([] : List UInt8), .str ([] : List UInt8)])), (3, .ubox (.agg [.str a0.Name, .str a0.Image]))] (fun P hP => ?_) ?_)
  · simp only [W0.down, Nat.reduceEqDiff, ↓reduceIte, reduceCtorEq, Nat.reduceAdd, Nat.reduceSub, Nat.reduceMul, Nat.reduceLeDiff, Nat.reduceBEq, Nat.reduceLT, if_true, if_false, beq_self_eq_true, BEq.rfl, ne_eq, tt9, tt51, tt52, e_laws_Item]
    (try simp only [WN.down, Nat.reduceAdd, if_true, if_false, ↓reduceIte, tt9, tt51, tt52, e_laws_Item] at hP)
    (try simp only [WN.down, Nat.reduceAdd, if_true, if_false, ↓reduceIte, tt9, tt51, tt52, e_laws_Item])
    exact hP
  refine w_sreg (w_abs [(2, .ubox (.agg [.str a0.Name, .str a0.Image]))] (fun P hP => ?_) ?_)
  · simp only [W0.down, Nat.reduceEqDiff, ↓reduceIte, reduceCtorEq, Nat.reduceAdd, Nat.reduceSub, Nat.reduceMul, Nat.reduceLeDiff, Nat.reduceBEq, Nat.reduceLT, if_true, if_false, beq_self_eq_true, BEq.rfl, ne_eq, tt9, tt52]
    (try simp only [WN.down, Nat.reduceAdd, if_true, if_false, ↓reduceIte, tt9, tt52] at hP)
    (try simp only [WN.down, Nat.reduceAdd, if_true, if_false, ↓reduceIte, tt9, tt52])
    exact hP
  exact w_ret (r0 _ (.inl (w_fin [e_impl_Item (impl_Item.mk a0.Name a0.Image)] rfl (by cases someE h; rfl) (by decide) outs_nil)))

theorem ok_laws_toItemS (a0 : List laws_Item) (r : (List impl_Item)) (h : laws_toItemS a0 = some r) : OkAt Cc 15 [.slice (a0.map e_laws_Item)] (.uslice 2 (r.map e_impl_Item)) [] := by
  refine OkAt.of_wpQ (fx := [0]) Cc_ok Try.func15 rfl rfl s15 (Nat.le_of_ble_eq_true rfl) (fun Q0 r0 n0 => ?_)
  replace r0 : ∀ s, onW (Fw.Ends Cc [0] [.tmp 2] (.uslice 2 (r.map e_impl_Item)) []) s → Q0 .ret s := r0
  replace n0 : ∀ s, onW (Fw.Ends Cc [0] [.tmp 2] (.uslice 2 (r.map e_impl_Item)) []) s → Q0 .normal s := n0
  show wpC Cc c15 Q0 (stA [(0, .slice (a0.map e_laws_Item))])
  refine w_sreg (w_abs [(0, .slice (a0.map e_laws_Item))] (fun P hP => ?_) ?_)
  · simp only [W0.down, Nat.reduceEqDiff, ↓reduceIte, reduceCtorEq, Nat.reduceAdd, Nat.reduceSub, Nat.reduceMul, Nat.reduceLeDiff, Nat.reduceBEq, Nat.reduceLT, if_true, if_false, beq_self_eq_true, BEq.rfl, ne_eq, e_laws_Item]
    (try simp only [WN.down, Nat.reduceAdd, if_true, if_false, ↓reduceIte, e_laws_Item] at hP)
    (try simp only [WN.down, Nat.reduceAdd, if_true, if_false, ↓reduceIte, e_laws_Item])
    exact hP
  obtain ⟨u18, e3, h⟩ := bindE h
  refine w_sreg (w_abs [(0, .slice (a0.map e_laws_Item)), (3, .uslice 2 ((List.replicate (Int.toNat (a0.length : Int)) (impl_Item.mk ([] : List UInt8) ([] : List UInt8))).map e_impl_Item))] (fun P hP => ?_) ?_)
  · simp only [W0.down, Nat.reduceEqDiff, ↓reduceIte, reduceCtorEq, Nat.reduceAdd, Nat.reduceSub, Nat.reduceMul, Nat.reduceLeDiff, Nat.reduceBEq, Nat.reduceLT, if_true, if_false, beq_self_eq_true, BEq.rfl, ne_eq, tt9, tt27, tt30, tt51, tt52, e_impl_Item, e_laws_Item, (mkOkE e3).1, (mkOkE e3).2.1, (mkOkE e3).2.2, mks, List.map_replicate]
    (try simp only [WN.down, Nat.reduceAdd, if_true, if_false, ↓reduceIte, tt9, tt27, tt30, tt51, tt52, e_impl_Item, e_laws_Item, (mkOkE e3).1, (mkOkE e3).2.1, (mkOkE e3).2.2, mks, List.map_replicate] at hP)
    (try simp only [WN.down, Nat.reduceAdd, if_true, if_false, ↓reduceIte, tt9, tt27, tt30, tt51, tt52, e_impl_Item, e_laws_Item, (mkOkE e3).1, (mkOkE e3).2.1, (mkOkE e3).2.2, mks, List.map_replicate])
    exact hP
  refine w_seq (fun Q4 n4 q4 x4 => ?_)
  refine w_sreg (w_abs [(0, .slice (a0.map e_laws_Item)), (3, .uslice 2 ((List.replicate (Int.toNat (a0.length : Int)) (impl_Item.mk ([] : List UInt8) ([] : List UInt8))).map e_impl_Item)), (4, .int .i64 0)] (fun P hP => ?_) ?_)
  · simp only [W0.down, Nat.reduceEqDiff, ↓reduceIte, reduceCtorEq, Nat.reduceAdd, Nat.reduceSub, Nat.reduceMul, Nat.reduceLeDiff, Nat.reduceBEq, Nat.reduceLT, if_true, if_false, beq_self_eq_true, BEq.rfl, ne_eq, e_impl_Item, e_laws_Item]
    (try simp only [WN.down, Nat.reduceAdd, if_true, if_false, ↓reduceIte, e_impl_Item, e_laws_Item] at hP)
    (try simp only [WN.down, Nat.reduceAdd, if_true, if_false, ↓reduceIte, e_impl_Item, e_laws_Item])
    exact hP
  refine w_blk (fun Q6 n6 q6 b6 x6 => ?_)
  have L8 : ∀ (n : Nat) (v3_8 : List impl_Item) (v4_8 : Int), laws_toItemS_l8 a0 n v3_8 v4_8 = some r → lpC Cc c15_9 Q6 (stA [(0, .slice (a0.map e_laws_Item)), (3, .uslice 2 (v3_8.map e_impl_Item)), (4, .int .i64 v4_8)]) := by
    intro m8
    induction m8 with
    | zero => intro v3_8 v4_8 h; cases (show none = some r from h)
    | succ m8 ih8 =>
      intro v3_8 v4_8 h
      replace h : laws_toItemS_b8 (laws_toItemS_l8 a0 m8) a0 v3_8 v4_8 = some r := h
      refine lpC_step (fun Q7 n7 q7 x7 => ?_)
      refine w_seq (fun Q8 n8 q8 x8 => ?_)
      refine w_sreg (w_abs [(0, .slice (a0.map e_laws_Item)), (3, .uslice 2 (v3_8.map e_impl_Item)), (4, .int .i64 v4_8), (11, .bool (decide (v4_8 < (a0.length : Int))))] (fun P hP => ?_) ?_)
      · simp only [W0.down, Nat.reduceEqDiff, ↓reduceIte, reduceCtorEq, Nat.reduceAdd, Nat.reduceSub, Nat.reduceMul, Nat.reduceLeDiff, Nat.reduceBEq, Nat.reduceLT, if_true, if_false, beq_self_eq_true, BEq.rfl, ne_eq, tt9, tt27, tt51, e_impl_Item, e_laws_Item]
        (try simp only [WN.down, Nat.reduceAdd, if_true, if_false, ↓reduceIte, tt9, tt27, tt51, e_impl_Item, e_laws_Item] at hP)
        (try simp only [WN.down, Nat.reduceAdd, if_true, if_false, ↓reduceIte, tt9, tt27, tt51, e_impl_Item, e_laws_Item])
        exact hP
      rcases condE h with ⟨b10, h⟩ | ⟨b10, h⟩
      · refine w_ct (congrArg AV.bool b10) ?_
        simp only [b10, Bool.not_true, Bool.not_false]
        refine w_skip (n8 _ (.inl ?_))
        refine w_seq (fun Q11 n11 q11 x11 => ?_)
        refine w_blk (fun Q12 n12 q12 b12 x12 => ?_)
        obtain ⟨x1, e14, h⟩ := bindE h
        obtain ⟨x2, e15, h⟩ := bindE h
        obtain ⟨x3, e16, h⟩ := bindE h
        refine w_reg (w_abs [(0, .slice (a0.map e_laws_Item)), (3, .uslice 2 ((List.set v3_8 (Int.toNat v4_8) x2).map e_impl_Item)), (4, .int .i64 v4_8)] (fun P hP => ?_) ?_)
        · simp only [W0.down, Nat.reduceEqDiff, ↓reduceIte, reduceCtorEq, Nat.reduceAdd, Nat.reduceSub, Nat.reduceMul, Nat.reduceLeDiff, Nat.reduceBEq, Nat.reduceLT, if_true, if_false, beq_self_eq_true, BEq.rfl, ne_eq, tt9, tt27, tt30, tt51, tt52, e_impl_Item, e_laws_Item, e14, e16, getI_get e16]
          refine w_call0 (ok_laws_toItem x1 _ e15) rfl rfl rfl rfl (.inl rfl) ?_
          simp only [W0.down, Nat.reduceEqDiff, ↓reduceIte, reduceCtorEq, Nat.reduceAdd, Nat.reduceSub, Nat.reduceMul, Nat.reduceLeDiff, Nat.reduceBEq, Nat.reduceLT, if_true, if_false, beq_self_eq_true, BEq.rfl, ne_eq, tt9, tt27, tt30, tt51, tt52, e_impl_Item, e_laws_Item, e14, e16, getI_get e16]
          (try simp only [WN.down, Nat.reduceAdd, if_true, if_false, ↓reduceIte, tt9, tt27, tt30, tt51, tt52, e_impl_Item, e_laws_Item, e14, e16, getI_get e16] at hP)
          (try simp only [WN.down, Nat.reduceAdd, if_true, if_false, ↓reduceIte, tt9, tt27, tt30, tt51, tt52, e_impl_Item, e_laws_Item, e14, e16, getI_get e16])
          exact hP
        refine n12 _ (n11 _ (.inl ?_))
        refine w_reg (w_abs [(0, .slice (a0.map e_laws_Item)), (3, .uslice 2 ((List.set v3_8 (Int.toNat v4_8) x2).map e_impl_Item)), (4, .int .i64 (IntKind.i64.wrap (v4_8 + 1)))] (fun P hP => ?_) ?_)
        · simp only [W0.down, Nat.reduceEqDiff, ↓reduceIte, reduceCtorEq, Nat.reduceAdd, Nat.reduceSub, Nat.reduceMul, Nat.reduceLeDiff, Nat.reduceBEq, Nat.reduceLT, if_true, if_false, beq_self_eq_true, BEq.rfl, ne_eq, e_impl_Item, e_laws_Item]
          (try simp only [WN.down, Nat.reduceAdd, if_true, if_false, ↓reduceIte, e_impl_Item, e_laws_Item] at hP)
          (try simp only [WN.down, Nat.reduceAdd, if_true, if_false, ↓reduceIte, e_impl_Item, e_laws_Item])
          exact hP
        exact n7 _ (.inr ⟨_, weak_eq rfl, ih8 (List.set v3_8 (Int.toNat v4_8) x2) (IntKind.i64.wrap (v4_8 + 1)) h⟩)
      · refine w_cf (congrArg AV.bool b10) ?_
        simp only [b10, Bool.not_true, Bool.not_false]
        refine w_ex (x8 0 _ (x7 0 _ (b6 _ (n4 _ (.inl ?_)))))
        refine w_sreg (w_abs [(2, .uslice 2 (v3_8.map e_impl_Item))] (fun P hP => ?_) ?_)
        · simp only [W0.down, Nat.reduceEqDiff, ↓reduceIte, reduceCtorEq, Nat.reduceAdd, Nat.reduceSub, Nat.reduceMul, Nat.reduceLeDiff, Nat.reduceBEq, Nat.reduceLT, if_true, if_false, beq_self_eq_true, BEq.rfl, ne_eq, e_impl_Item, e_laws_Item]
          (try simp only [WN.down, Nat.reduceAdd, if_true, if_false, ↓reduceIte, e_impl_Item, e_laws_Item] at hP)
          (try simp only [WN.down, Nat.reduceAdd, if_true, if_false, ↓reduceIte, e_impl_Item, e_laws_Item])
          exact hP
        exact w_ret (r0 _ (.inl (w_fin [.uslice 2 (v3_8.map e_impl_Item)] rfl (by cases someE h; rfl) (by decide) outs_nil)))
  obtain ⟨n, h⟩ := limE h
  exact w_loop (.inr ⟨_, weak_eq rfl, L8 n (List.replicate (Int.toNat (a0.length : Int)) (impl_Item.mk ([] : List UInt8) ([] : List UInt8))) 0 h⟩)

theorem ok_spec_l01Small (a0 : UInt8) (r : Bool) (h : spec_l01Small a0 = some r) : OkAt Cc 70 [.int .u8 (a0.toNat : Int)] (.bool r) [] := by
  refine OkAt.of_wpQ (fx := [0]) Cc_ok Try.func70 rfl rfl s70 (Nat.le_of_ble_eq_true rfl) (fun Q0 r0 n0 => ?_)
  replace r0 : ∀ s, onW (Fw.Ends Cc [0] [.tmp 2] (.bool r) []) s → Q0 .ret s := r0
  replace n0 : ∀ s, onW (Fw.Ends Cc [0] [.tmp 2] (.bool r) []) s → Q0 .normal s := n0
  show wpC Cc c70 Q0 (stA [(0, .int .u8 (a0.toNat : Int))])
  refine w_sreg (w_abs [(0, .int .u8 (a0.toNat : Int))] (fun P hP => ?_) ?_)
  · simp only [W0.down, Nat.reduceEqDiff, ↓reduceIte, reduceCtorEq, Nat.reduceAdd, Nat.reduceSub, Nat.reduceMul, Nat.reduceLeDiff, Nat.reduceBEq, Nat.reduceLT, if_true, if_false, beq_self_eq_true, BEq.rfl, ne_eq]
    (try simp only [WN.down, Nat.reduceAdd, if_true, if_false, ↓reduceIte] at hP)
    (try simp only [WN.down, Nat.reduceAdd, if_true, if_false, ↓reduceIte])
    exact hP
  refine w_sreg (w_abs [(2, .bool ((decide (97 ≤ (a0.toNat : Int))) && (decide ((a0.toNat : Int) ≤ 122))))] (fun P hP => ?_) ?_)
  · rcases Bool.eq_false_or_eq_true ((decide (97 ≤ (a0.toNat : Int)))) with s3 | s3
    · simp only [W0.down, Nat.reduceEqDiff, ↓reduceIte, reduceCtorEq, Nat.reduceAdd, Nat.reduceSub, Nat.reduceMul, Nat.reduceLeDiff, Nat.reduceBEq, Nat.reduceLT, if_true, if_false, beq_self_eq_true, BEq.rfl, ne_eq, s3]
      (try simp only [WN.down, Nat.reduceAdd, if_true, if_false, ↓reduceIte, s3] at hP)
      (try simp only [WN.down, Nat.reduceAdd, if_true, if_false, ↓reduceIte, s3])
      exact hP
    · simp only [W0.down, Nat.reduceEqDiff, ↓reduceIte, reduceCtorEq, Nat.reduceAdd, Nat.reduceSub, Nat.reduceMul, Nat.reduceLeDiff, Nat.reduceBEq, Nat.reduceLT, if_true, if_false, beq_self_eq_true, BEq.rfl, ne_eq, s3]
      (try simp only [WN.down, Nat.reduceAdd, if_true, if_false, ↓reduceIte, s3] at hP)
      (try simp only [WN.down, Nat.reduceAdd, if_true, if_false, ↓reduceIte, s3])
      exact hP
  exact w_ret (r0 _ (.inl (w_fin [.bool ((decide (97 ≤ (a0.toNat : Int))) && (decide ((a0.toNat : Int) ≤ 122)))] rfl (by cases someE h; rfl) (by decide) outs_nil)))

theorem ok_spec_l01Digit (a0 : UInt8) (r : Bool) (h : spec_l01Digit a0 = some r) : OkAt Cc 71 [.int .u8 (a0.toNat : Int)] (.bool r) [] := by
  refine OkAt.of_wpQ (fx := [0]) Cc_ok Try.func71 rfl rfl s71 (Nat.le_of_ble_eq_true rfl) (fun Q0 r0 n0 => ?_)
  replace r0 : ∀ s, onW (Fw.Ends Cc [0] [.tmp 2] (.bool r) []) s → Q0 .ret s := r0
  replace n0 : ∀ s, onW (Fw.Ends Cc [0] [.tmp 2] (.bool r) []) s → Q0 .normal s := n0
  show wpC Cc c71 Q0 (stA [(0, .int .u8 (a0.toNat : Int))])
  refine w_sreg (w_abs [(0, .int .u8 (a0.toNat : Int))] (fun P hP => ?_) ?_)
  · simp only [W0.down, Nat.reduceEqDiff, ↓reduceIte, reduceCtorEq, Nat.reduceAdd, Nat.reduceSub, Nat.reduceMul, Nat.reduceLeDiff, Nat.reduceBEq, Nat.reduceLT, if_true, if_false, beq_self_eq_true, BEq.rfl, ne_eq]
    (try simp only [WN.down, Nat.reduceAdd, if_true, if_false, ↓reduceIte] at hP)
    (try simp only [WN.down, Nat.reduceAdd, if_true, if_false, ↓reduceIte])
    exact hP
  refine w_sreg (w_abs [(2, .bool ((decide (48 ≤ (a0.toNat : Int))) && (decide ((a0.toNat : Int) ≤ 57))))] (fun P hP => ?_) ?_)
  · rcases Bool.eq_false_or_eq_true ((decide (48 ≤ (a0.toNat : Int)))) with s3 | s3
    · simp only [W0.down, Nat.reduceEqDiff, ↓reduceIte, reduceCtorEq, Nat.reduceAdd, Nat.reduceSub, Nat.reduceMul, Nat.reduceLeDiff, Nat.reduceBEq, Nat.reduceLT, if_true, if_false, beq_self_eq_true, BEq.rfl, ne_eq, s3]
      (try simp only [WN.down, Nat.reduceAdd, if_true, if_false, ↓reduceIte, s3] at hP)
      (try simp only [WN.down, Nat.reduceAdd, if_true, if_false, ↓reduceIte, s3])
      exact hP
    · simp only [W0.down, Nat.reduceEqDiff, ↓reduceIte, reduceCtorEq, Nat.reduceAdd, Nat.reduceSub, Nat.reduceMul, Nat.reduceLeDiff, Nat.reduceBEq, Nat.reduceLT, if_true, if_false, beq_self_eq_true, BEq.rfl, ne_eq, s3]
      (try simp only [WN.down, Nat.reduceAdd, if_true, if_false, ↓reduceIte, s3] at hP)
      (try simp only [WN.down, Nat.reduceAdd, if_true, if_false, ↓reduceIte, s3])
      exact hP
  exact w_ret (r0 _ (.inl (w_fin [.bool ((decide (48 ≤ (a0.toNat : Int))) && (decide ((a0.toNat : Int) ≤ 57)))] rfl (by cases someE h; rfl) (by decide) outs_nil)))

theorem ok_spec_l01Name (a0 : List UInt8) (r : Bool) (h : spec_l01Name a0 = some r) : OkAt Cc 53 [.str a0] (.bool r) [] := by
  refine OkAt.of_wpQ (fx := [0]) Cc_ok Try.func53 rfl rfl s53 (Nat.le_of_ble_eq_true rfl) (fun Q0 r0 n0 => ?_)
  replace r0 : ∀ s, onW (Fw.Ends Cc [0] [.tmp 2] (.bool r) []) s → Q0 .ret s := r0
  replace n0 : ∀ s, onW (Fw.Ends Cc [0] [.tmp 2] (.bool r) []) s → Q0 .normal s := n0
  show wpC Cc c53 Q0 (stA [(0, .str a0)])
  refine w_sreg (w_abs [(0, .str a0)] (fun P hP => ?_) ?_)
  · simp only [W0.down, Nat.reduceEqDiff, ↓reduceIte, reduceCtorEq, Nat.reduceAdd, Nat.reduceSub, Nat.reduceMul, Nat.reduceLeDiff, Nat.reduceBEq, Nat.reduceLT, if_true, if_false, beq_self_eq_true, BEq.rfl, ne_eq]
    (try simp only [WN.down, Nat.reduceAdd, if_true, if_false, ↓reduceIte] at hP)
    (try simp only [WN.down, Nat.reduceAdd, if_true, if_false, ↓reduceIte])
    exact hP
  refine w_seq (fun Q2 n2 q2 x2 => ?_)
  rcases condE h with ⟨b4, h⟩ | ⟨b4, h⟩
  · refine w_sreg (w_abs [(0, .str a0), (16, .bool true)] (fun P hP => ?_) ?_)
    · simp only [W0.down, Nat.reduceEqDiff, ↓reduceIte, reduceCtorEq, Nat.reduceAdd, Nat.reduceSub, Nat.reduceMul, Nat.reduceLeDiff, Nat.reduceBEq, Nat.reduceLT, if_true, if_false, beq_self_eq_true, BEq.rfl, ne_eq, tt9, b4]
      (try simp only [WN.down, Nat.reduceAdd, if_true, if_false, ↓reduceIte, tt9, b4] at hP)
      (try simp only [WN.down, Nat.reduceAdd, if_true, if_false, ↓reduceIte, tt9, b4])
      exact hP
    refine w_ct rfl ?_
    refine w_sreg (w_abs [(2, .bool false)] (fun P hP => ?_) ?_)
    · simp only [W0.down, Nat.reduceEqDiff, ↓reduceIte, reduceCtorEq, Nat.reduceAdd, Nat.reduceSub, Nat.reduceMul, Nat.reduceLeDiff, Nat.reduceBEq, Nat.reduceLT, if_true, if_false, beq_self_eq_true, BEq.rfl, ne_eq]
      (try simp only [WN.down, Nat.reduceAdd, if_true, if_false, ↓reduceIte] at hP)
      (try simp only [WN.down, Nat.reduceAdd, if_true, if_false, ↓reduceIte])
      exact hP
    exact w_ret (q2 _ (r0 _ (.inl (w_fin [.bool false] rfl (by cases someE h; rfl) (by decide) outs_nil))))
  · rcases condE h with ⟨b6, h⟩ | ⟨b6, h⟩
    · refine w_sreg (w_abs [(0, .str a0), (16, .bool true)] (fun P hP => ?_) ?_)
      · simp only [W0.down, Nat.reduceEqDiff, ↓reduceIte, reduceCtorEq, Nat.reduceAdd, Nat.reduceSub, Nat.reduceMul, Nat.reduceLeDiff, Nat.reduceBEq, Nat.reduceLT, if_true, if_false, beq_self_eq_true, BEq.rfl, ne_eq, tt9, b4, b6]
        (try simp only [WN.down, Nat.reduceAdd, if_true, if_false, ↓reduceIte, tt9, b4, b6] at hP)
        (try simp only [WN.down, Nat.reduceAdd, if_true, if_false, ↓reduceIte, tt9, b4, b6])
        exact hP
      refine w_ct rfl ?_
      refine w_sreg (w_abs [(2, .bool false)] (fun P hP => ?_) ?_)
      · simp only [W0.down, Nat.reduceEqDiff, ↓reduceIte, reduceCtorEq, Nat.reduceAdd, Nat.reduceSub, Nat.reduceMul, Nat.reduceLeDiff, Nat.reduceBEq, Nat.reduceLT, if_true, if_false, beq_self_eq_true, BEq.rfl, ne_eq]
        (try simp only [WN.down, Nat.reduceAdd, if_true, if_false, ↓reduceIte] at hP)
        (try simp only [WN.down, Nat.reduceAdd, if_true, if_false, ↓reduceIte])
        exact hP
      exact w_ret (q2 _ (r0 _ (.inl (w_fin [.bool false] rfl (by cases someE h; rfl) (by decide) outs_nil))))
    · obtain ⟨x1, e8, h⟩ := bindE h
      obtain ⟨x2, e9, h⟩ := bindE h
      refine w_sreg (w_abs [(0, .str a0), (16, .bool (!x2))] (fun P hP => ?_) ?_)
      · simp only [W0.down, Nat.reduceEqDiff, ↓reduceIte, reduceCtorEq, Nat.reduceAdd, Nat.reduceSub, Nat.reduceMul, Nat.reduceLeDiff, Nat.reduceBEq, Nat.reduceLT, if_true, if_false, beq_self_eq_true, BEq.rfl, ne_eq, tt9, b4, b6, e8]
        refine w_callg0 (ok_spec_l01Small x1 _ e9) rfl rfl rfl rfl (.inl rfl) ?_
        simp only [W0.down, Nat.reduceEqDiff, ↓reduceIte, reduceCtorEq, Nat.reduceAdd, Nat.reduceSub, Nat.reduceMul, Nat.reduceLeDiff, Nat.reduceBEq, Nat.reduceLT, if_true, if_false, beq_self_eq_true, BEq.rfl, ne_eq, tt9, b4, b6, e8]
        (try simp only [WN.down, Nat.reduceAdd, if_true, if_false, ↓reduceIte, tt9, b4, b6, e8] at hP)
        (try simp only [WN.down, Nat.reduceAdd, if_true, if_false, ↓reduceIte, tt9, b4, b6, e8])
        exact hP
      rcases condE h with ⟨b10, h⟩ | ⟨b10, h⟩
      · refine w_ct (congrArg AV.bool b10) ?_
        simp only [b10, Bool.not_true, Bool.not_false]
        refine w_sreg (w_abs [(2, .bool false)] (fun P hP => ?_) ?_)
        · simp only [W0.down, Nat.reduceEqDiff, ↓reduceIte, reduceCtorEq, Nat.reduceAdd, Nat.reduceSub, Nat.reduceMul, Nat.reduceLeDiff, Nat.reduceBEq, Nat.reduceLT, if_true, if_false, beq_self_eq_true, BEq.rfl, ne_eq]
          (try simp only [WN.down, Nat.reduceAdd, if_true, if_false, ↓reduceIte] at hP)
          (try simp only [WN.down, Nat.reduceAdd, if_true, if_false, ↓reduceIte])
          exact hP
        exact w_ret (q2 _ (r0 _ (.inl (w_fin [.bool false] rfl (by cases someE h; rfl) (by decide) outs_nil))))
      · refine w_cf (congrArg AV.bool b10) ?_
        simp only [b10, Bool.not_true, Bool.not_false]
        refine w_skip (n2 _ (.inl ?_))
        refine w_seq (fun Q12 n12 q12 x12 => ?_)
        refine w_sreg (w_abs [(0, .str a0), (3, .int .i64 0)] (fun P hP => ?_) ?_)
        · simp only [W0.down, Nat.reduceEqDiff, ↓reduceIte, reduceCtorEq, Nat.reduceAdd, Nat.reduceSub, Nat.reduceMul, Nat.reduceLeDiff, Nat.reduceBEq, Nat.reduceLT, if_true, if_false, beq_self_eq_true, BEq.rfl, ne_eq]
          (try simp only [WN.down, Nat.reduceAdd, if_true, if_false, ↓reduceIte] at hP)
          (try simp only [WN.down, Nat.reduceAdd, if_true, if_false, ↓reduceIte])
          exact hP
        refine w_blk (fun Q14 n14 q14 b14 x14 => ?_)
        have L14 : ∀ (n : Nat) (v3_14 : Int), spec_l01Name_l14 a0 n v3_14 = some r → lpC Cc c53_15 Q14 (stA [(0, .str a0), (3, .int .i64 v3_14)]) := by
          intro m14
          induction m14 with
          | zero => intro v3_14 h; cases (show none = some r from h)
          | succ m14 ih14 =>
            intro v3_14 h
            replace h : spec_l01Name_b14 (spec_l01Name_l14 a0 m14) a0 v3_14 = some r := h
            refine lpC_step (fun Q15 n15 q15 x15 => ?_)
            refine w_seq (fun Q16 n16 q16 x16 => ?_)
            refine w_sreg (w_abs [(0, .str a0), (3, .int .i64 v3_14), (20, .bool (decide (v3_14 < (a0.length : Int))))] (fun P hP => ?_) ?_)
            · simp only [W0.down, Nat.reduceEqDiff, ↓reduceIte, reduceCtorEq, Nat.reduceAdd, Nat.reduceSub, Nat.reduceMul, Nat.reduceLeDiff, Nat.reduceBEq, Nat.reduceLT, if_true, if_false, beq_self_eq_true, BEq.rfl, ne_eq, tt9]
              (try simp only [WN.down, Nat.reduceAdd, if_true, if_false, ↓reduceIte, tt9] at hP)
              (try simp only [WN.down, Nat.reduceAdd, if_true, if_false, ↓reduceIte, tt9])
              exact hP
            rcases condE h with ⟨b18, h⟩ | ⟨b18, h⟩
            · refine w_ct (congrArg AV.bool b18) ?_
              simp only [b18, Bool.not_true, Bool.not_false]
              refine w_skip (n16 _ (.inl ?_))
              refine w_seq (fun Q19 n19 q19 x19 => ?_)
              refine w_blk (fun Q20 n20 q20 b20 x20 => ?_)
              obtain ⟨x3, e22, h⟩ := bindE h
              obtain ⟨x4, e23, h⟩ := bindE h
              rcases condE h with ⟨b24, h⟩ | ⟨b24, h⟩
              · obtain ⟨x5, e25, h⟩ := bindE h
                refine w_sreg (w_abs [(0, .str a0), (3, .int .i64 v3_14), (34, .bool (!x5))] (fun P hP => ?_) ?_)
                · simp only [W0.down, Nat.reduceEqDiff, ↓reduceIte, reduceCtorEq, Nat.reduceAdd, Nat.reduceSub, Nat.reduceMul, Nat.reduceLeDiff, Nat.reduceBEq, Nat.reduceLT, if_true, if_false, beq_self_eq_true, BEq.rfl, ne_eq, tt9, e22, b24]
                  refine w_call0 (ok_spec_l01Small x3 _ e23) rfl rfl rfl rfl (.inl rfl) ?_
                  simp only [W0.down, Nat.reduceEqDiff, ↓reduceIte, reduceCtorEq, Nat.reduceAdd, Nat.reduceSub, Nat.reduceMul, Nat.reduceLeDiff, Nat.reduceBEq, Nat.reduceLT, if_true, if_false, beq_self_eq_true, BEq.rfl, ne_eq, tt9, e22, b24]
                  refine w_callg0 (ok_spec_l01Digit x3 _ e25) rfl rfl rfl rfl (.inl rfl) ?_
                  simp only [W0.down, Nat.reduceEqDiff, ↓reduceIte, reduceCtorEq, Nat.reduceAdd, Nat.reduceSub, Nat.reduceMul, Nat.reduceLeDiff, Nat.reduceBEq, Nat.reduceLT, if_true, if_false, beq_self_eq_true, BEq.rfl, ne_eq, tt9, e22, b24]
                  (try simp only [WN.down, Nat.reduceAdd, if_true, if_false, ↓reduceIte, tt9, e22, b24] at hP)
                  (try simp only [WN.down, Nat.reduceAdd, if_true, if_false, ↓reduceIte, tt9, e22, b24])
                  exact hP
                rcases condE h with ⟨b26, h⟩ | ⟨b26, h⟩
                · refine w_ct (congrArg AV.bool b26) ?_
                  simp only [b26, Bool.not_true, Bool.not_false]
                  refine w_sreg (w_abs [(2, .bool false)] (fun P hP => ?_) ?_)
                  · simp only [W0.down, Nat.reduceEqDiff, ↓reduceIte, reduceCtorEq, Nat.reduceAdd, Nat.reduceSub, Nat.reduceMul, Nat.reduceLeDiff, Nat.reduceBEq, Nat.reduceLT, if_true, if_false, beq_self_eq_true, BEq.rfl, ne_eq]
                    (try simp only [WN.down, Nat.reduceAdd, if_true, if_false, ↓reduceIte] at hP)
                    (try simp only [WN.down, Nat.reduceAdd, if_true, if_false, ↓reduceIte])
                    exact hP
                  exact w_ret (q20 _ (q19 _ (q15 _ (q14 _ (q12 _ (r0 _ (.inl (w_fin [.bool false] rfl (by cases someE h; rfl) (by decide) outs_nil))))))))
                · refine w_cf (congrArg AV.bool b26) ?_
                  simp only [b26, Bool.not_true, Bool.not_false]
                  refine w_skip (n20 _ (n19 _ (.inl ?_)))
                  refine w_reg (w_abs [(0, .str a0), (3, .int .i64 (IntKind.i64.wrap (v3_14 + 1)))] (fun P hP => ?_) ?_)
                  · simp only [W0.down, Nat.reduceEqDiff, ↓reduceIte, reduceCtorEq, Nat.reduceAdd, Nat.reduceSub, Nat.reduceMul, Nat.reduceLeDiff, Nat.reduceBEq, Nat.reduceLT, if_true, if_false, beq_self_eq_true, BEq.rfl, ne_eq]
                    (try simp only [WN.down, Nat.reduceAdd, if_true, if_false, ↓reduceIte] at hP)
                    (try simp only [WN.down, Nat.reduceAdd, if_true, if_false, ↓reduceIte])
                    exact hP
                  exact n15 _ (.inr ⟨_, weak_eq rfl, ih14 (IntKind.i64.wrap (v3_14 + 1)) h⟩)
              · refine w_sreg (w_abs [(0, .str a0), (3, .int .i64 v3_14), (34, .bool false)] (fun P hP => ?_) ?_)
                · simp only [W0.down, Nat.reduceEqDiff, ↓reduceIte, reduceCtorEq, Nat.reduceAdd, Nat.reduceSub, Nat.reduceMul, Nat.reduceLeDiff, Nat.reduceBEq, Nat.reduceLT, if_true, if_false, beq_self_eq_true, BEq.rfl, ne_eq, tt9, e22, b24]
                  refine w_call0 (ok_spec_l01Small x3 _ e23) rfl rfl rfl rfl (.inl rfl) ?_
                  simp only [W0.down, Nat.reduceEqDiff, ↓reduceIte, reduceCtorEq, Nat.reduceAdd, Nat.reduceSub, Nat.reduceMul, Nat.reduceLeDiff, Nat.reduceBEq, Nat.reduceLT, if_true, if_false, beq_self_eq_true, BEq.rfl, ne_eq, tt9, e22, b24]
                  (try simp only [WN.down, Nat.reduceAdd, if_true, if_false, ↓reduceIte, tt9, e22, b24] at hP)
                  (try simp only [WN.down, Nat.reduceAdd, if_true, if_false, ↓reduceIte, tt9, e22, b24])
                  exact hP
                refine w_cf rfl ?_
                refine w_skip (n20 _ (n19 _ (.inl ?_)))
                refine w_reg (w_abs [(0, .str a0), (3, .int .i64 (IntKind.i64.wrap (v3_14 + 1)))] (fun P hP => ?_) ?_)
                · simp only [W0.down, Nat.reduceEqDiff, ↓reduceIte, reduceCtorEq, Nat.reduceAdd, Nat.reduceSub, Nat.reduceMul, Nat.reduceLeDiff, Nat.reduceBEq, Nat.reduceLT, if_true, if_false, beq_self_eq_true, BEq.rfl, ne_eq]
                  (try simp only [WN.down, Nat.reduceAdd, if_true, if_false, ↓reduceIte] at hP)
                  (try simp only [WN.down, Nat.reduceAdd, if_true, if_false, ↓reduceIte])
                  exact hP
                exact n15 _ (.inr ⟨_, weak_eq rfl, ih14 (IntKind.i64.wrap (v3_14 + 1)) h⟩)
            · refine w_cf (congrArg AV.bool b18) ?_
              simp only [b18, Bool.not_true, Bool.not_false]
              refine w_ex (x16 0 _ (x15 0 _ (b14 _ (n12 _ (.inl ?_)))))
              refine w_sreg (w_abs [(2, .bool true)] (fun P hP => ?_) ?_)
              · simp only [W0.down, Nat.reduceEqDiff, ↓reduceIte, reduceCtorEq, Nat.reduceAdd, Nat.reduceSub, Nat.reduceMul, Nat.reduceLeDiff, Nat.reduceBEq, Nat.reduceLT, if_true, if_false, beq_self_eq_true, BEq.rfl, ne_eq]
                (try simp only [WN.down, Nat.reduceAdd, if_true, if_false, ↓reduceIte] at hP)
                (try simp only [WN.down, Nat.reduceAdd, if_true, if_false, ↓reduceIte])
                exact hP
              exact w_ret (r0 _ (.inl (w_fin [.bool true] rfl (by cases someE h; rfl) (by decide) outs_nil)))
        obtain ⟨n, h⟩ := limE h
        exact w_loop (.inr ⟨_, weak_eq rfl, L14 n 0 h⟩)

theorem ok_spec_l01Crc (a0 : List UInt8) (a1 : Int) (r : Int) (h : spec_l01Crc a0 a1 = some r) : OkAt Cc 52 [.str a0, .int .i64 a1] (.int .i64 r) [] := by
  refine OkAt.of_wpQ (fx := [0]) Cc_ok Try.func52 rfl rfl s52 (Nat.le_of_ble_eq_true rfl) (fun Q0 r0 n0 => ?_)
  replace r0 : ∀ s, onW (Fw.Ends Cc [0] [.tmp 4] (.int .i64 r) []) s → Q0 .ret s := r0
  replace n0 : ∀ s, onW (Fw.Ends Cc [0] [.tmp 4] (.int .i64 r) []) s → Q0 .normal s := n0
  show wpC Cc c52 Q0 (stA [(0, .str a0), (1, .int .i64 a1)])
  refine w_sreg (w_abs [(0, .str a0), (1, .int .i64 a1)] (fun P hP => ?_) ?_)
  · simp only [W0.down, Nat.reduceEqDiff, ↓reduceIte, reduceCtorEq, Nat.reduceAdd, Nat.reduceSub, Nat.reduceMul, Nat.reduceLeDiff, Nat.reduceBEq, Nat.reduceLT, if_true, if_false, beq_self_eq_true, BEq.rfl, ne_eq]
    (try simp only [WN.down, Nat.reduceAdd, if_true, if_false, ↓reduceIte] at hP)
    (try simp only [WN.down, Nat.reduceAdd, if_true, if_false, ↓reduceIte])
    exact hP
  refine w_seq (fun Q2 n2 q2 x2 => ?_)
  refine w_sreg (w_abs [(0, .str a0), (1, .int .i64 a1), (5, .int .i64 0)] (fun P hP => ?_) ?_)
  · simp only [W0.down, Nat.reduceEqDiff, ↓reduceIte, reduceCtorEq, Nat.reduceAdd, Nat.reduceSub, Nat.reduceMul, Nat.reduceLeDiff, Nat.reduceBEq, Nat.reduceLT, if_true, if_false, beq_self_eq_true, BEq.rfl, ne_eq]
    (try simp only [WN.down, Nat.reduceAdd, if_true, if_false, ↓reduceIte] at hP)
    (try simp only [WN.down, Nat.reduceAdd, if_true, if_false, ↓reduceIte])
    exact hP
  refine w_blk (fun Q4 n4 q4 b4 x4 => ?_)
  have L6 : ∀ (n : Nat) (v1_6 : Int) (v5_6 : Int), spec_l01Crc_l6 a0 n v1_6 v5_6 = some r → lpC Cc c52_7 Q4 (stA [(0, .str a0), (1, .int .i64 v1_6), (5, .int .i64 v5_6)]) := by
    intro m6
    induction m6 with
    | zero => intro v1_6 v5_6 h; cases (show none = some r from h)
    | succ m6 ih6 =>
      intro v1_6 v5_6 h
      replace h : spec_l01Crc_b6 (spec_l01Crc_l6 a0 m6) a0 v1_6 v5_6 = some r := h
      refine lpC_step (fun Q5 n5 q5 x5 => ?_)
      refine w_seq (fun Q6 n6 q6 x6 => ?_)
      refine w_sreg (w_abs [(0, .str a0), (1, .int .i64 v1_6), (5, .int .i64 v5_6), (10, .bool (decide (v5_6 < (a0.length : Int))))] (fun P hP => ?_) ?_)
      · simp only [W0.down, Nat.reduceEqDiff, ↓reduceIte, reduceCtorEq, Nat.reduceAdd, Nat.reduceSub, Nat.reduceMul, Nat.reduceLeDiff, Nat.reduceBEq, Nat.reduceLT, if_true, if_false, beq_self_eq_true, BEq.rfl, ne_eq, tt9]
        (try simp only [WN.down, Nat.reduceAdd, if_true, if_false, ↓reduceIte, tt9] at hP)
        (try simp only [WN.down, Nat.reduceAdd, if_true, if_false, ↓reduceIte, tt9])
        exact hP
      rcases condE h with ⟨b8, h⟩ | ⟨b8, h⟩
      · refine w_ct (congrArg AV.bool b8) ?_
        simp only [b8, Bool.not_true, Bool.not_false]
        refine w_skip (n6 _ (.inl ?_))
        refine w_seq (fun Q9 n9 q9 x9 => ?_)
        refine w_blk (fun Q10 n10 q10 b10 x10 => ?_)
        obtain ⟨x1, e12, h⟩ := bindE h
        refine w_sreg (w_abs [(0, .str a0), (1, .int .i64 (bitsOf .xor .i64 v1_6 (IntKind.i64.wrap ((x1.toNat : Int) * 2 ^ (min (Int.toNat 8) 64))))), (5, .int .i64 v5_6)] (fun P hP => ?_) ?_)
        · simp only [W0.down, Nat.reduceEqDiff, ↓reduceIte, reduceCtorEq, Nat.reduceAdd, Nat.reduceSub, Nat.reduceMul, Nat.reduceLeDiff, Nat.reduceBEq, Nat.reduceLT, if_true, if_false, beq_self_eq_true, BEq.rfl, ne_eq, tt9, e12, @cvt_i' Cc 5 2 .i64 rfl rfl, @bnI_shl' .i64 .u64 8 (by decide)]
          (try simp only [WN.down, Nat.reduceAdd, if_true, if_false, ↓reduceIte, tt9, e12, @cvt_i' Cc 5 2 .i64 rfl rfl, @bnI_shl' .i64 .u64 8 (by decide)] at hP)
          (try simp only [WN.down, Nat.reduceAdd, if_true, if_false, ↓reduceIte, tt9, e12, @cvt_i' Cc 5 2 .i64 rfl rfl, @bnI_shl' .i64 .u64 8 (by decide)])
          exact hP
        refine w_sreg (w_abs [(0, .str a0), (1, .int .i64 (bitsOf .xor .i64 v1_6 (IntKind.i64.wrap ((x1.toNat : Int) * 2 ^ (min (Int.toNat 8) 64))))), (5, .int .i64 v5_6), (6, .int .i64 0)] (fun P hP => ?_) ?_)
        · simp only [W0.down, Nat.reduceEqDiff, ↓reduceIte, reduceCtorEq, Nat.reduceAdd, Nat.reduceSub, Nat.reduceMul, Nat.reduceLeDiff, Nat.reduceBEq, Nat.reduceLT, if_true, if_false, beq_self_eq_true, BEq.rfl, ne_eq]
          (try simp only [WN.down, Nat.reduceAdd, if_true, if_false, ↓reduceIte] at hP)
          (try simp only [WN.down, Nat.reduceAdd, if_true, if_false, ↓reduceIte])
          exact hP
        refine w_blk (fun Q14 n14 q14 b14 x14 => ?_)
        have L20 : ∀ (n : Nat) (v1_20 : Int) (v5_20 : Int) (v6_20 : Int), spec_l01Crc_l20 (spec_l01Crc_l6 a0 m6) a0 n v1_20 v5_20 v6_20 = some r → lpC Cc c52_21 Q14 (stA [(0, .str a0), (1, .int .i64 v1_20), (5, .int .i64 v5_20), (6, .int .i64 v6_20)]) := by
          intro m20
          induction m20 with
          | zero => intro v1_20 v5_20 v6_20 h; cases (show none = some r from h)
          | succ m20 ih20 =>
            intro v1_20 v5_20 v6_20 h
            replace h : spec_l01Crc_b20 (spec_l01Crc_l6 a0 m6) (spec_l01Crc_l20 (spec_l01Crc_l6 a0 m6) a0 m20) a0 v1_20 v5_20 v6_20 = some r := h
            refine lpC_step (fun Q15 n15 q15 x15 => ?_)
            refine w_seq (fun Q16 n16 q16 x16 => ?_)
            refine w_sreg (w_abs [(0, .str a0), (1, .int .i64 v1_20), (5, .int .i64 v5_20), (6, .int .i64 v6_20), (21, .bool (decide (v6_20 < 8)))] (fun P hP => ?_) ?_)
            · simp only [W0.down, Nat.reduceEqDiff, ↓reduceIte, reduceCtorEq, Nat.reduceAdd, Nat.reduceSub, Nat.reduceMul, Nat.reduceLeDiff, Nat.reduceBEq, Nat.reduceLT, if_true, if_false, beq_self_eq_true, BEq.rfl, ne_eq]
              (try simp only [WN.down, Nat.reduceAdd, if_true, if_false, ↓reduceIte] at hP)
              (try simp only [WN.down, Nat.reduceAdd, if_true, if_false, ↓reduceIte])
              exact hP
            rcases condE h with ⟨b18, h⟩ | ⟨b18, h⟩
            · refine w_ct (congrArg AV.bool b18) ?_
              simp only [b18, Bool.not_true, Bool.not_false]
              refine w_skip (n16 _ (.inl ?_))
              have K36 : ∀ (v1_36 : Int) (v5_36 : Int) (v6_36 : Int), spec_l01Crc_k36 (spec_l01Crc_l6 a0 m6) (spec_l01Crc_l20 (spec_l01Crc_l6 a0 m6) a0 m20) a0 v1_36 v5_36 v6_36 = some r → wpC Cc c52_36 Q15 (stA [(0, .str a0), (1, .int .i64 v1_36), (5, .int .i64 v5_36), (6, .int .i64 v6_36)]) := by
                intro v1_36 v5_36 v6_36 h
                refine w_reg (w_abs [(0, .str a0), (1, .int .i64 v1_36), (5, .int .i64 v5_36), (6, .int .i64 (IntKind.i64.wrap (v6_36 + 1)))] (fun P hP => ?_) ?_)
                · simp only [W0.down, Nat.reduceEqDiff, ↓reduceIte, reduceCtorEq, Nat.reduceAdd, Nat.reduceSub, Nat.reduceMul, Nat.reduceLeDiff, Nat.reduceBEq, Nat.reduceLT, if_true, if_false, beq_self_eq_true, BEq.rfl, ne_eq]
                  (try simp only [WN.down, Nat.reduceAdd, if_true, if_false, ↓reduceIte] at hP)
                  (try simp only [WN.down, Nat.reduceAdd, if_true, if_false, ↓reduceIte])
                  exact hP
                exact n15 _ (.inr ⟨_, weak_eq rfl, ih20 v1_36 v5_36 (IntKind.i64.wrap (v6_36 + 1)) h⟩)
              refine w_seq (fun Q19 n19 q19 x19 => ?_)
              refine w_blk (fun Q21 n21 q21 b21 x21 => ?_)
              refine w_sreg (w_abs [(0, .str a0), (1, .int .i64 (IntKind.i64.wrap (v1_20 * 2 ^ (min (Int.toNat 1) 64)))), (5, .int .i64 v5_20), (6, .int .i64 v6_20)] (fun P hP => ?_) ?_)
              · simp only [W0.down, Nat.reduceEqDiff, ↓reduceIte, reduceCtorEq, Nat.reduceAdd, Nat.reduceSub, Nat.reduceMul, Nat.reduceLeDiff, Nat.reduceBEq, Nat.reduceLT, if_true, if_false, beq_self_eq_true, BEq.rfl, ne_eq, @bnI_shl' .i64 .u64 1 (by decide)]
                (try simp only [WN.down, Nat.reduceAdd, if_true, if_false, ↓reduceIte, @bnI_shl' .i64 .u64 1 (by decide)] at hP)
                (try simp only [WN.down, Nat.reduceAdd, if_true, if_false, ↓reduceIte, @bnI_shl' .i64 .u64 1 (by decide)])
                exact hP
              refine w_sreg (w_abs [(0, .str a0), (1, .int .i64 (IntKind.i64.wrap (v1_20 * 2 ^ (min (Int.toNat 1) 64)))), (5, .int .i64 v5_20), (6, .int .i64 v6_20), (27, .bool (decide (65535 < (IntKind.i64.wrap (v1_20 * 2 ^ (min (Int.toNat 1) 64))))))] (fun P hP => ?_) ?_)
              · simp only [W0.down, Nat.reduceEqDiff, ↓reduceIte, reduceCtorEq, Nat.reduceAdd, Nat.reduceSub, Nat.reduceMul, Nat.reduceLeDiff, Nat.reduceBEq, Nat.reduceLT, if_true, if_false, beq_self_eq_true, BEq.rfl, ne_eq]
                (try simp only [WN.down, Nat.reduceAdd, if_true, if_false, ↓reduceIte] at hP)
                (try simp only [WN.down, Nat.reduceAdd, if_true, if_false, ↓reduceIte])
                exact hP
              rcases condE h with ⟨b24, h⟩ | ⟨b24, h⟩
              · refine w_ct (congrArg AV.bool b24) ?_
                simp only [b24, Bool.not_true, Bool.not_false]
                refine w_reg (w_abs [(0, .str a0), (1, .int .i64 (bitsOf .xor .i64 (bitsOf .and .i64 (IntKind.i64.wrap (v1_20 * 2 ^ (min (Int.toNat 1) 64))) 65535) 4129)), (5, .int .i64 v5_20), (6, .int .i64 v6_20)] (fun P hP => ?_) ?_)
                · simp only [W0.down, Nat.reduceEqDiff, ↓reduceIte, reduceCtorEq, Nat.reduceAdd, Nat.reduceSub, Nat.reduceMul, Nat.reduceLeDiff, Nat.reduceBEq, Nat.reduceLT, if_true, if_false, beq_self_eq_true, BEq.rfl, ne_eq]
                  (try simp only [WN.down, Nat.reduceAdd, if_true, if_false, ↓reduceIte] at hP)
                  (try simp only [WN.down, Nat.reduceAdd, if_true, if_false, ↓reduceIte])
                  exact hP
                exact n21 _ (n19 _ (.inr ⟨_, weak_eq rfl, K36 (bitsOf .xor .i64 (bitsOf .and .i64 (IntKind.i64.wrap (v1_20 * 2 ^ (min (Int.toNat 1) 64))) 65535) 4129) v5_20 v6_20 h⟩))
              · refine w_cf (congrArg AV.bool b24) ?_
                simp only [b24, Bool.not_true, Bool.not_false]
                exact w_skip (n21 _ (n19 _ (.inr ⟨_, weak_eq rfl, K36 (IntKind.i64.wrap (v1_20 * 2 ^ (min (Int.toNat 1) 64))) v5_20 v6_20 h⟩)))
            · refine w_cf (congrArg AV.bool b18) ?_
              simp only [b18, Bool.not_true, Bool.not_false]
              refine w_ex (x16 2 _ (x15 2 _ (b14 _ (n10 _ (n9 _ (.inl ?_))))))
              refine w_reg (w_abs [(0, .str a0), (1, .int .i64 v1_20), (5, .int .i64 (IntKind.i64.wrap (v5_20 + 1)))] (fun P hP => ?_) ?_)
              · simp only [W0.down, Nat.reduceEqDiff, ↓reduceIte, reduceCtorEq, Nat.reduceAdd, Nat.reduceSub, Nat.reduceMul, Nat.reduceLeDiff, Nat.reduceBEq, Nat.reduceLT, if_true, if_false, beq_self_eq_true, BEq.rfl, ne_eq]
                (try simp only [WN.down, Nat.reduceAdd, if_true, if_false, ↓reduceIte] at hP)
                (try simp only [WN.down, Nat.reduceAdd, if_true, if_false, ↓reduceIte])
                exact hP
              exact n5 _ (.inr ⟨_, weak_eq rfl, ih6 v1_20 (IntKind.i64.wrap (v5_20 + 1)) h⟩)
        obtain ⟨n, h⟩ := limE h
        exact w_loop (.inr ⟨_, weak_eq rfl, L20 n (bitsOf .xor .i64 v1_6 (IntKind.i64.wrap ((x1.toNat : Int) * 2 ^ (min (Int.toNat 8) 64)))) v5_6 0 h⟩)
      · refine w_cf (congrArg AV.bool b8) ?_
        simp only [b8, Bool.not_true, Bool.not_false]
        refine w_ex (x6 0 _ (x5 0 _ (b4 _ (n2 _ (.inl ?_)))))
        refine w_sreg (w_abs [(4, .int .i64 v1_6)] (fun P hP => ?_) ?_)
        · simp only [W0.down, Nat.reduceEqDiff, ↓reduceIte, reduceCtorEq, Nat.reduceAdd, Nat.reduceSub, Nat.reduceMul, Nat.reduceLeDiff, Nat.reduceBEq, Nat.reduceLT, if_true, if_false, beq_self_eq_true, BEq.rfl, ne_eq]
          (try simp only [WN.down, Nat.reduceAdd, if_true, if_false, ↓reduceIte] at hP)
          (try simp only [WN.down, Nat.reduceAdd, if_true, if_false, ↓reduceIte])
          exact hP
        exact w_ret (r0 _ (.inl (w_fin [.int .i64 v1_6] rfl (by cases someE h; rfl) (by decide) outs_nil)))
  obtain ⟨n, h⟩ := limE h
  exact w_loop (.inr ⟨_, weak_eq rfl, L6 n a1 0 h⟩)

theorem ok_spec_l00In (a0 : Int) (a1 : Int) (a2 : Int) (r : Bool) (h : spec_l00In a0 a1 a2 = some r) : OkAt Cc 27 [.int .i64 a0, .int .i64 a1, .int .i64 a2] (.bool r) [] := by
  refine OkAt.of_wpQ (fx := [0, 1, 2]) Cc_ok Try.func27 rfl rfl s27 (Nat.le_of_ble_eq_true rfl) (fun Q0 r0 n0 => ?_)
  replace r0 : ∀ s, onW (Fw.Ends Cc [0, 1, 2] [.tmp 6] (.bool r) []) s → Q0 .ret s := r0
  replace n0 : ∀ s, onW (Fw.Ends Cc [0, 1, 2] [.tmp 6] (.bool r) []) s → Q0 .normal s := n0
  show wpC Cc c27 Q0 (stA [(0, .int .i64 a0), (1, .int .i64 a1), (2, .int .i64 a2)])
  refine w_sreg (w_abs [(0, .int .i64 a0), (1, .int .i64 a1), (2, .int .i64 a2)] (fun P hP => ?_) ?_)
  · simp only [W0.down, Nat.reduceEqDiff, ↓reduceIte, reduceCtorEq, Nat.reduceAdd, Nat.reduceSub, Nat.reduceMul, Nat.reduceLeDiff, Nat.reduceBEq, Nat.reduceLT, if_true, if_false, beq_self_eq_true, BEq.rfl, ne_eq]
    (try simp only [WN.down, Nat.reduceAdd, if_true, if_false, ↓reduceIte] at hP)
    (try simp only [WN.down, Nat.reduceAdd, if_true, if_false, ↓reduceIte])
    exact hP
  refine w_sreg (w_abs [(6, .bool ((decide (a1 ≤ a0)) && (decide (a0 ≤ a2))))] (fun P hP => ?_) ?_)
  · rcases Bool.eq_false_or_eq_true ((decide (a1 ≤ a0))) with s3 | s3
    · simp only [W0.down, Nat.reduceEqDiff, ↓reduceIte, reduceCtorEq, Nat.reduceAdd, Nat.reduceSub, Nat.reduceMul, Nat.reduceLeDiff, Nat.reduceBEq, Nat.reduceLT, if_true, if_false, beq_self_eq_true, BEq.rfl, ne_eq, s3]
      (try simp only [WN.down, Nat.reduceAdd, if_true, if_false, ↓reduceIte, s3] at hP)
      (try simp only [WN.down, Nat.reduceAdd, if_true, if_false, ↓reduceIte, s3])
      exact hP
    · simp only [W0.down, Nat.reduceEqDiff, ↓reduceIte, reduceCtorEq, Nat.reduceAdd, Nat.reduceSub, Nat.reduceMul, Nat.reduceLeDiff, Nat.reduceBEq, Nat.reduceLT, if_true, if_false, beq_self_eq_true, BEq.rfl, ne_eq, s3]
      (try simp only [WN.down, Nat.reduceAdd, if_true, if_false, ↓reduceIte, s3] at hP)
      (try simp only [WN.down, Nat.reduceAdd, if_true, if_false, ↓reduceIte, s3])
      exact hP
  exact w_ret (r0 _ (.inl (w_fin [.bool ((decide (a1 ≤ a0)) && (decide (a0 ≤ a2)))] rfl (by cases someE h; rfl) (by decide) outs_nil)))

theorem ok_spec_l32Kind (a0 : List UInt8) (r : Int × Int) (h : spec_l32Kind a0 = some r) : OkAt Cc 29 [.str a0] (.tuple [.int .i64 r.1, .int .i64 r.2]) [] := by
  refine OkAt.of_wpQ (fx := [0]) Cc_ok Try.func29 rfl rfl s29 (Nat.le_of_ble_eq_true rfl) (fun Q0 r0 n0 => ?_)
  replace r0 : ∀ s, onW (Fw.Ends Cc [0] [.tmp 2, .tmp 3] (.tuple [.int .i64 r.1, .int .i64 r.2]) []) s → Q0 .ret s := r0
  replace n0 : ∀ s, onW (Fw.Ends Cc [0] [.tmp 2, .tmp 3] (.tuple [.int .i64 r.1, .int .i64 r.2]) []) s → Q0 .normal s := n0
  show wpC Cc c29 Q0 (stA [(0, .str a0)])
  refine w_sreg (w_abs [(0, .str a0)] (fun P hP => ?_) ?_)
  · simp only [W0.down, Nat.reduceEqDiff, ↓reduceIte, reduceCtorEq, Nat.reduceAdd, Nat.reduceSub, Nat.reduceMul, Nat.reduceLeDiff, Nat.reduceBEq, Nat.reduceLT, if_true, if_false, beq_self_eq_true, BEq.rfl, ne_eq]
    (try simp only [WN.down, Nat.reduceAdd, if_true, if_false, ↓reduceIte] at hP)
    (try simp only [WN.down, Nat.reduceAdd, if_true, if_false, ↓reduceIte])
    exact hP
  refine w_sreg (w_abs [(0, .str a0), (4, .int .i64 (a0.length : Int))] (fun P hP => ?_) ?_)
  · simp only [W0.down, Nat.reduceEqDiff, ↓reduceIte, reduceCtorEq, Nat.reduceAdd, Nat.reduceSub, Nat.reduceMul, Nat.reduceLeDiff, Nat.reduceBEq, Nat.reduceLT, if_true, if_false, beq_self_eq_true, BEq.rfl, ne_eq, tt9]
    (try simp only [WN.down, Nat.reduceAdd, if_true, if_false, ↓reduceIte, tt9] at hP)
    (try simp only [WN.down, Nat.reduceAdd, if_true, if_false, ↓reduceIte, tt9])
    exact hP
  refine w_seq (fun Q3 n3 q3 x3 => ?_)
  refine w_sreg (w_abs [(0, .str a0), (4, .int .i64 (a0.length : Int)), (9, .bool (decide ((a0.length : Int) < 3)))] (fun P hP => ?_) ?_)
  · simp only [W0.down, Nat.reduceEqDiff, ↓reduceIte, reduceCtorEq, Nat.reduceAdd, Nat.reduceSub, Nat.reduceMul, Nat.reduceLeDiff, Nat.reduceBEq, Nat.reduceLT, if_true, if_false, beq_self_eq_true, BEq.rfl, ne_eq]
    (try simp only [WN.down, Nat.reduceAdd, if_true, if_false, ↓reduceIte] at hP)
    (try simp only [WN.down, Nat.reduceAdd, if_true, if_false, ↓reduceIte])
    exact hP
  rcases condE h with ⟨b5, h⟩ | ⟨b5, h⟩
  · refine w_ct (congrArg AV.bool b5) ?_
    simp only [b5, Bool.not_true, Bool.not_false]
    refine w_sreg (w_abs [(2, .int .i64 0), (3, .int .i64 11)] (fun P hP => ?_) ?_)
    · simp only [W0.down, Nat.reduceEqDiff, ↓reduceIte, reduceCtorEq, Nat.reduceAdd, Nat.reduceSub, Nat.reduceMul, Nat.reduceLeDiff, Nat.reduceBEq, Nat.reduceLT, if_true, if_false, beq_self_eq_true, BEq.rfl, ne_eq]
      (try simp only [WN.down, Nat.reduceAdd, if_true, if_false, ↓reduceIte] at hP)
      (try simp only [WN.down, Nat.reduceAdd, if_true, if_false, ↓reduceIte])
      exact hP
    exact w_ret (q3 _ (r0 _ (.inl (w_fin [.int .i64 0, .int .i64 11] rfl (by cases someE h; rfl) (by decide) outs_nil))))
  · refine w_cf (congrArg AV.bool b5) ?_
    simp only [b5, Bool.not_true, Bool.not_false]
    refine w_skip (n3 _ (.inl ?_))
    refine w_seq (fun Q7 n7 q7 x7 => ?_)
    obtain ⟨x1, e9, h⟩ := bindE h
    obtain ⟨x2, e10, h⟩ := bindE h
    obtain ⟨x3, e11, h⟩ := bindE h
    obtain ⟨x4, e12, h⟩ := bindE h
    refine w_sdrw rfl (w_absd [(0, .str a0), (4, .int .i64 (a0.length : Int)), (27, .bool (x2 != (IntKind.i64.wrap ((IntKind.i64.wrap ((x3.toNat : Int) * 256)) + (x4.toNat : Int)))))] (fun P hP => ?_) ?_)
    · simp only [W1.down, Nat.reduceEqDiff, ↓reduceIte, reduceCtorEq, Nat.reduceAdd, Nat.reduceSub, Nat.reduceMul, Nat.reduceLeDiff, Nat.reduceBEq, Nat.reduceLT, if_true, if_false, beq_self_eq_true, BEq.rfl, ne_eq, tt9, e9, e11, @cvt_i' Cc 5 2 .i64 rfl rfl, e12]
      refine w_call1 (ok_spec_l01Crc x1 65535 _ e10) rfl rfl rfl rfl (.inl rfl) ?_
      simp only [W1.down, Nat.reduceEqDiff, ↓reduceIte, reduceCtorEq, Nat.reduceAdd, Nat.reduceSub, Nat.reduceMul, Nat.reduceLeDiff, Nat.reduceBEq, Nat.reduceLT, if_true, if_false, beq_self_eq_true, BEq.rfl, ne_eq, tt9, e9, e11, @cvt_i' Cc 5 2 .i64 rfl rfl, e12]
      refine ⟨by kernel_rfl, ?_⟩
      (try simp only [WN.down, Nat.reduceAdd, if_true, if_false, ↓reduceIte, tt9, e9, e11, @cvt_i' Cc 5 2 .i64 rfl rfl, e12] at hP)
      (try simp only [WN.down, Nat.reduceAdd, if_true, if_false, ↓reduceIte, tt9, e9, e11, @cvt_i' Cc 5 2 .i64 rfl rfl, e12])
      exact hP
    rcases condE h with ⟨b13, h⟩ | ⟨b13, h⟩
    · refine w_ct (congrArg AV.bool b13) ?_
      simp only [b13, Bool.not_true, Bool.not_false]
      refine w_sreg (w_abs [(2, .int .i64 0), (3, .int .i64 10)] (fun P hP => ?_) ?_)
      · simp only [W0.down, Nat.reduceEqDiff, ↓reduceIte, reduceCtorEq, Nat.reduceAdd, Nat.reduceSub, Nat.reduceMul, Nat.reduceLeDiff, Nat.reduceBEq, Nat.reduceLT, if_true, if_false, beq_self_eq_true, BEq.rfl, ne_eq]
        (try simp only [WN.down, Nat.reduceAdd, if_true, if_false, ↓reduceIte] at hP)
        (try simp only [WN.down, Nat.reduceAdd, if_true, if_false, ↓reduceIte])
        exact hP
      exact w_ret (q7 _ (r0 _ (.inl (w_fin [.int .i64 0, .int .i64 10] rfl (by cases someE h; rfl) (by decide) outs_nil))))
    · refine w_cf (congrArg AV.bool b13) ?_
      simp only [b13, Bool.not_true, Bool.not_false]
      refine w_skip (n7 _ (.inl ?_))
      obtain ⟨x5, e16, h⟩ := bindE h
      refine w_sreg (w_abs [(4, .int .i64 (a0.length : Int)), (5, .int .i64 (x5.toNat : Int))] (fun P hP => ?_) ?_)
      · simp only [W0.down, Nat.reduceEqDiff, ↓reduceIte, reduceCtorEq, Nat.reduceAdd, Nat.reduceSub, Nat.reduceMul, Nat.reduceLeDiff, Nat.reduceBEq, Nat.reduceLT, if_true, if_false, beq_self_eq_true, BEq.rfl, ne_eq, tt9, e16, @cvt_i' Cc 5 2 .i64 rfl rfl]
        (try simp only [WN.down, Nat.reduceAdd, if_true, if_false, ↓reduceIte, tt9, e16, @cvt_i' Cc 5 2 .i64 rfl rfl] at hP)
        (try simp only [WN.down, Nat.reduceAdd, if_true, if_false, ↓reduceIte, tt9, e16, @cvt_i' Cc 5 2 .i64 rfl rfl])
        exact hP
      refine w_seq (fun Q17 n17 q17 x17 => ?_)
      obtain ⟨x6, e19, h⟩ := bindE h
      refine w_sreg (w_abs [(5, .int .i64 (x5.toNat : Int)), (37, .bool ((!x6) || (decide (6000 < (a0.length : Int)))))] (fun P hP => ?_) ?_)
      · rcases Bool.eq_false_or_eq_true ((!x6)) with s20 | s20
        · simp only [W0.down, Nat.reduceEqDiff, ↓reduceIte, reduceCtorEq, Nat.reduceAdd, Nat.reduceSub, Nat.reduceMul, Nat.reduceLeDiff, Nat.reduceBEq, Nat.reduceLT, if_true, if_false, beq_self_eq_true, BEq.rfl, ne_eq, s20]
          refine w_call0 (ok_spec_l00In (x5.toNat : Int) 1 3 _ e19) rfl rfl rfl rfl (.inl rfl) ?_
          simp only [W0.down, Nat.reduceEqDiff, ↓reduceIte, reduceCtorEq, Nat.reduceAdd, Nat.reduceSub, Nat.reduceMul, Nat.reduceLeDiff, Nat.reduceBEq, Nat.reduceLT, if_true, if_false, beq_self_eq_true, BEq.rfl, ne_eq, s20]
          (try simp only [WN.down, Nat.reduceAdd, if_true, if_false, ↓reduceIte, s20] at hP)
          (try simp only [WN.down, Nat.reduceAdd, if_true, if_false, ↓reduceIte, s20])
          exact hP
        · simp only [W0.down, Nat.reduceEqDiff, ↓reduceIte, reduceCtorEq, Nat.reduceAdd, Nat.reduceSub, Nat.reduceMul, Nat.reduceLeDiff, Nat.reduceBEq, Nat.reduceLT, if_true, if_false, beq_self_eq_true, BEq.rfl, ne_eq, s20]
          refine w_call0 (ok_spec_l00In (x5.toNat : Int) 1 3 _ e19) rfl rfl rfl rfl (.inl rfl) ?_
          simp only [W0.down, Nat.reduceEqDiff, ↓reduceIte, reduceCtorEq, Nat.reduceAdd, Nat.reduceSub, Nat.reduceMul, Nat.reduceLeDiff, Nat.reduceBEq, Nat.reduceLT, if_true, if_false, beq_self_eq_true, BEq.rfl, ne_eq, s20]
          (try simp only [WN.down, Nat.reduceAdd, if_true, if_false, ↓reduceIte, s20] at hP)
          (try simp only [WN.down, Nat.reduceAdd, if_true, if_false, ↓reduceIte, s20])
          exact hP
      rcases condE h with ⟨b21, h⟩ | ⟨b21, h⟩
      · refine w_ct (congrArg AV.bool b21) ?_
        simp only [b21, Bool.not_true, Bool.not_false]
        refine w_sreg (w_abs [(2, .int .i64 0), (3, .int .i64 9)] (fun P hP => ?_) ?_)
        · simp only [W0.down, Nat.reduceEqDiff, ↓reduceIte, reduceCtorEq, Nat.reduceAdd, Nat.reduceSub, Nat.reduceMul, Nat.reduceLeDiff, Nat.reduceBEq, Nat.reduceLT, if_true, if_false, beq_self_eq_true, BEq.rfl, ne_eq]
          (try simp only [WN.down, Nat.reduceAdd, if_true, if_false, ↓reduceIte] at hP)
          (try simp only [WN.down, Nat.reduceAdd, if_true, if_false, ↓reduceIte])
          exact hP
        exact w_ret (q17 _ (r0 _ (.inl (w_fin [.int .i64 0, .int .i64 9] rfl (by cases someE h; rfl) (by decide) outs_nil))))
      · refine w_cf (congrArg AV.bool b21) ?_
        simp only [b21, Bool.not_true, Bool.not_false]
        refine w_skip (n17 _ (.inl ?_))
        refine w_sreg (w_abs [(2, .int .i64 (x5.toNat : Int)), (3, .int .i64 0)] (fun P hP => ?_) ?_)
        · simp only [W0.down, Nat.reduceEqDiff, ↓reduceIte, reduceCtorEq, Nat.reduceAdd, Nat.reduceSub, Nat.reduceMul, Nat.reduceLeDiff, Nat.reduceBEq, Nat.reduceLT, if_true, if_false, beq_self_eq_true, BEq.rfl, ne_eq]
          (try simp only [WN.down, Nat.reduceAdd, if_true, if_false, ↓reduceIte] at hP)
          (try simp only [WN.down, Nat.reduceAdd, if_true, if_false, ↓reduceIte])
          exact hP
        exact w_ret (r0 _ (.inl (w_fin [.int .i64 (x5.toNat : Int), .int .i64 0] rfl (by cases someE h; rfl) (by decide) outs_nil)))

theorem ok_spec_l32Items (a0 : List impl_Item) (r : Bool) (h : spec_l32Items a0 = some r) : OkAt Cc 33 [.slice (a0.map e_impl_Item)] (.bool r) [] := by
  refine OkAt.of_wpQ (fx := [0]) Cc_ok Try.func33 rfl rfl s33 (Nat.le_of_ble_eq_true rfl) (fun Q0 r0 n0 => ?_)
  replace r0 : ∀ s, onW (Fw.Ends Cc [0] [.tmp 2] (.bool r) []) s → Q0 .ret s := r0
  replace n0 : ∀ s, onW (Fw.Ends Cc [0] [.tmp 2] (.bool r) []) s → Q0 .normal s := n0
  show wpC Cc c33 Q0 (stA [(0, .slice (a0.map e_impl_Item))])
  refine w_sreg (w_abs [(0, .slice (a0.map e_impl_Item))] (fun P hP => ?_) ?_)
  · simp only [W0.down, Nat.reduceEqDiff, ↓reduceIte, reduceCtorEq, Nat.reduceAdd, Nat.reduceSub, Nat.reduceMul, Nat.reduceLeDiff, Nat.reduceBEq, Nat.reduceLT, if_true, if_false, beq_self_eq_true, BEq.rfl, ne_eq, e_impl_Item]
    (try simp only [WN.down, Nat.reduceAdd, if_true, if_false, ↓reduceIte, e_impl_Item] at hP)
    (try simp only [WN.down, Nat.reduceAdd, if_true, if_false, ↓reduceIte, e_impl_Item])
    exact hP
  refine w_seq (fun Q2 n2 q2 x2 => ?_)
  refine w_sreg (w_abs [(0, .slice (a0.map e_impl_Item)), (8, .bool (decide (16 < (a0.length : Int))))] (fun P hP => ?_) ?_)
  · simp only [W0.down, Nat.reduceEqDiff, ↓reduceIte, reduceCtorEq, Nat.reduceAdd, Nat.reduceSub, Nat.reduceMul, Nat.reduceLeDiff, Nat.reduceBEq, Nat.reduceLT, if_true, if_false, beq_self_eq_true, BEq.rfl, ne_eq, tt9, tt30, tt52, e_impl_Item]
    (try simp only [WN.down, Nat.reduceAdd, if_true, if_false, ↓reduceIte, tt9, tt30, tt52, e_impl_Item] at hP)
    (try simp only [WN.down, Nat.reduceAdd, if_true, if_false, ↓reduceIte, tt9, tt30, tt52, e_impl_Item])
    exact hP
  rcases condE h with ⟨b4, h⟩ | ⟨b4, h⟩
  · refine w_ct (congrArg AV.bool b4) ?_
    simp only [b4, Bool.not_true, Bool.not_false]
    refine w_sreg (w_abs [(2, .bool false)] (fun P hP => ?_) ?_)
    · simp only [W0.down, Nat.reduceEqDiff, ↓reduceIte, reduceCtorEq, Nat.reduceAdd, Nat.reduceSub, Nat.reduceMul, Nat.reduceLeDiff, Nat.reduceBEq, Nat.reduceLT, if_true, if_false, beq_self_eq_true, BEq.rfl, ne_eq, e_impl_Item]
      (try simp only [WN.down, Nat.reduceAdd, if_true, if_false, ↓reduceIte, e_impl_Item] at hP)
      (try simp only [WN.down, Nat.reduceAdd, if_true, if_false, ↓reduceIte, e_impl_Item])
      exact hP
    exact w_ret (q2 _ (r0 _ (.inl (w_fin [.bool false] rfl (by cases someE h; rfl) (by decide) outs_nil))))
  · refine w_cf (congrArg AV.bool b4) ?_
    simp only [b4, Bool.not_true, Bool.not_false]
    refine w_skip (n2 _ (.inl ?_))
    refine w_seq (fun Q6 n6 q6 x6 => ?_)
    refine w_sreg (w_abs [(0, .slice (a0.map e_impl_Item)), (3, .int .i64 0)] (fun P hP => ?_) ?_)
    · simp only [W0.down, Nat.reduceEqDiff, ↓reduceIte, reduceCtorEq, Nat.reduceAdd, Nat.reduceSub, Nat.reduceMul, Nat.reduceLeDiff, Nat.reduceBEq, Nat.reduceLT, if_true, if_false, beq_self_eq_true, BEq.rfl, ne_eq, e_impl_Item]
      (try simp only [WN.down, Nat.reduceAdd, if_true, if_false, ↓reduceIte, e_impl_Item] at hP)
      (try simp only [WN.down, Nat.reduceAdd, if_true, if_false, ↓reduceIte, e_impl_Item])
      exact hP
    refine w_blk (fun Q8 n8 q8 b8 x8 => ?_)
    have L14 : ∀ (n : Nat) (v3_14 : Int), spec_l32Items_l14 a0 n v3_14 = some r → lpC Cc c33_15 Q8 (stA [(0, .slice (a0.map e_impl_Item)), (3, .int .i64 v3_14)]) := by
      intro m14
      induction m14 with
      | zero => intro v3_14 h; cases (show none = some r from h)
      | succ m14 ih14 =>
        intro v3_14 h
        replace h : spec_l32Items_b14 (spec_l32Items_l14 a0 m14) a0 v3_14 = some r := h
        refine lpC_step (fun Q9 n9 q9 x9 => ?_)
        refine w_seq (fun Q10 n10 q10 x10 => ?_)
        refine w_sreg (w_abs [(0, .slice (a0.map e_impl_Item)), (3, .int .i64 v3_14), (12, .bool (decide (v3_14 < (a0.length : Int))))] (fun P hP => ?_) ?_)
        · simp only [W0.down, Nat.reduceEqDiff, ↓reduceIte, reduceCtorEq, Nat.reduceAdd, Nat.reduceSub, Nat.reduceMul, Nat.reduceLeDiff, Nat.reduceBEq, Nat.reduceLT, if_true, if_false, beq_self_eq_true, BEq.rfl, ne_eq, tt9, tt30, tt52, e_impl_Item]
          (try simp only [WN.down, Nat.reduceAdd, if_true, if_false, ↓reduceIte, tt9, tt30, tt52, e_impl_Item] at hP)
          (try simp only [WN.down, Nat.reduceAdd, if_true, if_false, ↓reduceIte, tt9, tt30, tt52, e_impl_Item])
          exact hP
        rcases condE h with ⟨b12, h⟩ | ⟨b12, h⟩
        · refine w_ct (congrArg AV.bool b12) ?_
          simp only [b12, Bool.not_true, Bool.not_false]
          refine w_skip (n10 _ (.inl ?_))
          refine w_seq (fun Q13 n13 q13 x13 => ?_)
          refine w_blk (fun Q14 n14 q14 b14 x14 => ?_)
          refine w_seq (fun Q15 n15 q15 x15 => ?_)
          obtain ⟨x1, e17, h⟩ := bindE h
          obtain ⟨x2, e18, h⟩ := bindE h
          rcases condE h with ⟨b19, h⟩ | ⟨b19, h⟩
          · refine w_sdrw rfl (w_absd [(0, .slice (a0.map e_impl_Item)), (3, .int .i64 v3_14), (39, .bool true)] (fun P hP => ?_) ?_)
            · simp only [W1.down, Nat.reduceEqDiff, ↓reduceIte, reduceCtorEq, Nat.reduceAdd, Nat.reduceSub, Nat.reduceMul, Nat.reduceLeDiff, Nat.reduceBEq, Nat.reduceLT, if_true, if_false, beq_self_eq_true, BEq.rfl, ne_eq, tt9, tt30, tt52, e_impl_Item, e17, b19]
              refine w_call1 (ok_spec_l01Name x1.Name _ e18) rfl rfl rfl rfl (.inl rfl) ?_
              simp only [W1.down, Nat.reduceEqDiff, ↓reduceIte, reduceCtorEq, Nat.reduceAdd, Nat.reduceSub, Nat.reduceMul, Nat.reduceLeDiff, Nat.reduceBEq, Nat.reduceLT, if_true, if_false, beq_self_eq_true, BEq.rfl, ne_eq, tt9, tt30, tt52, e_impl_Item, e17, b19]
              refine ⟨by kernel_rfl, ?_⟩
              (try simp only [WN.down, Nat.reduceAdd, if_true, if_false, ↓reduceIte, tt9, tt30, tt52, e_impl_Item, e17, b19] at hP)
              (try simp only [WN.down, Nat.reduceAdd, if_true, if_false, ↓reduceIte, tt9, tt30, tt52, e_impl_Item, e17, b19])
              exact hP
            refine w_ct rfl ?_
            refine w_sreg (w_abs [(2, .bool false)] (fun P hP => ?_) ?_)
            · simp only [W0.down, Nat.reduceEqDiff, ↓reduceIte, reduceCtorEq, Nat.reduceAdd, Nat.reduceSub, Nat.reduceMul, Nat.reduceLeDiff, Nat.reduceBEq, Nat.reduceLT, if_true, if_false, beq_self_eq_true, BEq.rfl, ne_eq, e_impl_Item]
              (try simp only [WN.down, Nat.reduceAdd, if_true, if_false, ↓reduceIte, e_impl_Item] at hP)
              (try simp only [WN.down, Nat.reduceAdd, if_true, if_false, ↓reduceIte, e_impl_Item])
              exact hP
            exact w_ret (q15 _ (q14 _ (q13 _ (q9 _ (q8 _ (q6 _ (r0 _ (.inl (w_fin [.bool false] rfl (by cases someE h; rfl) (by decide) outs_nil)))))))))
          · rcases condE h with ⟨b21, h⟩ | ⟨b21, h⟩
            · obtain ⟨x3, e22, h⟩ := bindE h
              refine w_sdrw rfl (w_absd [(0, .slice (a0.map e_impl_Item)), (3, .int .i64 v3_14), (39, .bool (!(Op.bytesLess x3.Name x1.Name)))] (fun P hP => ?_) ?_)
              · simp only [W1.down, Nat.reduceEqDiff, ↓reduceIte, reduceCtorEq, Nat.reduceAdd, Nat.reduceSub, Nat.reduceMul, Nat.reduceLeDiff, Nat.reduceBEq, Nat.reduceLT, if_true, if_false, beq_self_eq_true, BEq.rfl, ne_eq, tt9, tt30, tt52, e_impl_Item, e17, b19, b21, e22]
                refine w_call1 (ok_spec_l01Name x1.Name _ e18) rfl rfl rfl rfl (.inl rfl) ?_
                simp only [W1.down, Nat.reduceEqDiff, ↓reduceIte, reduceCtorEq, Nat.reduceAdd, Nat.reduceSub, Nat.reduceMul, Nat.reduceLeDiff, Nat.reduceBEq, Nat.reduceLT, if_true, if_false, beq_self_eq_true, BEq.rfl, ne_eq, tt9, tt30, tt52, e_impl_Item, e17, b19, b21, e22]
                refine ⟨by kernel_rfl, ?_⟩
                (try simp only [WN.down, Nat.reduceAdd, if_true, if_false, ↓reduceIte, tt9, tt30, tt52, e_impl_Item, e17, b19, b21, e22] at hP)
                (try simp only [WN.down, Nat.reduceAdd, if_true, if_false, ↓reduceIte, tt9, tt30, tt52, e_impl_Item, e17, b19, b21, e22])
                exact hP
              rcases condE h with ⟨b23, h⟩ | ⟨b23, h⟩
              · refine w_ct (congrArg AV.bool b23) ?_
                simp only [b23, Bool.not_true, Bool.not_false]
                refine w_sreg (w_abs [(2, .bool false)] (fun P hP => ?_) ?_)
                · simp only [W0.down, Nat.reduceEqDiff, ↓reduceIte, reduceCtorEq, Nat.reduceAdd, Nat.reduceSub, Nat.reduceMul, Nat.reduceLeDiff, Nat.reduceBEq, Nat.reduceLT, if_true, if_false, beq_self_eq_true, BEq.rfl, ne_eq, e_impl_Item]
                  (try simp only [WN.down, Nat.reduceAdd, if_true, if_false, ↓reduceIte, e_impl_Item] at hP)
                  (try simp only [WN.down, Nat.reduceAdd, if_true, if_false, ↓reduceIte, e_impl_Item])
                  exact hP
                exact w_ret (q15 _ (q14 _ (q13 _ (q9 _ (q8 _ (q6 _ (r0 _ (.inl (w_fin [.bool false] rfl (by cases someE h; rfl) (by decide) outs_nil)))))))))
              · refine w_cf (congrArg AV.bool b23) ?_
                simp only [b23, Bool.not_true, Bool.not_false]
                refine w_skip (n15 _ (.inl ?_))
                obtain ⟨x4, e26, h⟩ := bindE h
                refine w_sreg (w_abs [(0, .slice (a0.map e_impl_Item)), (3, .int .i64 v3_14), (5, .int .i64 x4.2)] (fun P hP => ?_) ?_)
                · simp only [W0.down, Nat.reduceEqDiff, ↓reduceIte, reduceCtorEq, Nat.reduceAdd, Nat.reduceSub, Nat.reduceMul, Nat.reduceLeDiff, Nat.reduceBEq, Nat.reduceLT, if_true, if_false, beq_self_eq_true, BEq.rfl, ne_eq, tt9, tt30, tt52, e_impl_Item, e17]
                  refine w_call0 (ok_spec_l32Kind x1.Image _ e26) rfl rfl rfl rfl (.inl rfl) ?_
                  simp only [W0.down, Nat.reduceEqDiff, ↓reduceIte, reduceCtorEq, Nat.reduceAdd, Nat.reduceSub, Nat.reduceMul, Nat.reduceLeDiff, Nat.reduceBEq, Nat.reduceLT, if_true, if_false, beq_self_eq_true, BEq.rfl, ne_eq, tt9, tt30, tt52, e_impl_Item, e17]
                  (try simp only [WN.down, Nat.reduceAdd, if_true, if_false, ↓reduceIte, tt9, tt30, tt52, e_impl_Item, e17] at hP)
                  (try simp only [WN.down, Nat.reduceAdd, if_true, if_false, ↓reduceIte, tt9, tt30, tt52, e_impl_Item, e17])
                  exact hP
                refine w_sreg (w_abs [(0, .slice (a0.map e_impl_Item)), (3, .int .i64 v3_14), (50, .bool (x4.2 != 0))] (fun P hP => ?_) ?_)
                · simp only [W0.down, Nat.reduceEqDiff, ↓reduceIte, reduceCtorEq, Nat.reduceAdd, Nat.reduceSub, Nat.reduceMul, Nat.reduceLeDiff, Nat.reduceBEq, Nat.reduceLT, if_true, if_false, beq_self_eq_true, BEq.rfl, ne_eq, e_impl_Item]
                  (try simp only [WN.down, Nat.reduceAdd, if_true, if_false, ↓reduceIte, e_impl_Item] at hP)
                  (try simp only [WN.down, Nat.reduceAdd, if_true, if_false, ↓reduceIte, e_impl_Item])
                  exact hP
                rcases condE h with ⟨b28, h⟩ | ⟨b28, h⟩
                · refine w_ct (congrArg AV.bool b28) ?_
                  simp only [b28, Bool.not_true, Bool.not_false]
                  refine w_sreg (w_abs [(2, .bool false)] (fun P hP => ?_) ?_)
                  · simp only [W0.down, Nat.reduceEqDiff, ↓reduceIte, reduceCtorEq, Nat.reduceAdd, Nat.reduceSub, Nat.reduceMul, Nat.reduceLeDiff, Nat.reduceBEq, Nat.reduceLT, if_true, if_false, beq_self_eq_true, BEq.rfl, ne_eq, e_impl_Item]
                    (try simp only [WN.down, Nat.reduceAdd, if_true, if_false, ↓reduceIte, e_impl_Item] at hP)
                    (try simp only [WN.down, Nat.reduceAdd, if_true, if_false, ↓reduceIte, e_impl_Item])
                    exact hP
                  exact w_ret (q14 _ (q13 _ (q9 _ (q8 _ (q6 _ (r0 _ (.inl (w_fin [.bool false] rfl (by cases someE h; rfl) (by decide) outs_nil))))))))
                · refine w_cf (congrArg AV.bool b28) ?_
                  simp only [b28, Bool.not_true, Bool.not_false]
                  refine w_skip (n14 _ (n13 _ (.inl ?_)))
                  refine w_reg (w_abs [(0, .slice (a0.map e_impl_Item)), (3, .int .i64 (IntKind.i64.wrap (v3_14 + 1)))] (fun P hP => ?_) ?_)
                  · simp only [W0.down, Nat.reduceEqDiff, ↓reduceIte, reduceCtorEq, Nat.reduceAdd, Nat.reduceSub, Nat.reduceMul, Nat.reduceLeDiff, Nat.reduceBEq, Nat.reduceLT, if_true, if_false, beq_self_eq_true, BEq.rfl, ne_eq, e_impl_Item]
                    (try simp only [WN.down, Nat.reduceAdd, if_true, if_false, ↓reduceIte, e_impl_Item] at hP)
                    (try simp only [WN.down, Nat.reduceAdd, if_true, if_false, ↓reduceIte, e_impl_Item])
                    exact hP
                  exact n9 _ (.inr ⟨_, weak_eq rfl, ih14 (IntKind.i64.wrap (v3_14 + 1)) h⟩)
            · refine w_sdrw rfl (w_absd [(0, .slice (a0.map e_impl_Item)), (3, .int .i64 v3_14), (39, .bool false)] (fun P hP => ?_) ?_)
              · simp only [W1.down, Nat.reduceEqDiff, ↓reduceIte, reduceCtorEq, Nat.reduceAdd, Nat.reduceSub, Nat.reduceMul, Nat.reduceLeDiff, Nat.reduceBEq, Nat.reduceLT, if_true, if_false, beq_self_eq_true, BEq.rfl, ne_eq, tt9, tt30, tt52, e_impl_Item, e17, b19, b21]
                refine w_call1 (ok_spec_l01Name x1.Name _ e18) rfl rfl rfl rfl (.inl rfl) ?_
                simp only [W1.down, Nat.reduceEqDiff, ↓reduceIte, reduceCtorEq, Nat.reduceAdd, Nat.reduceSub, Nat.reduceMul, Nat.reduceLeDiff, Nat.reduceBEq, Nat.reduceLT, if_true, if_false, beq_self_eq_true, BEq.rfl, ne_eq, tt9, tt30, tt52, e_impl_Item, e17, b19, b21]
                refine ⟨by kernel_rfl, ?_⟩
                (try simp only [WN.down, Nat.reduceAdd, if_true, if_false, ↓reduceIte, tt9, tt30, tt52, e_impl_Item, e17, b19, b21] at hP)
                (try simp only [WN.down, Nat.reduceAdd, if_true, if_false, ↓reduceIte, tt9, tt30, tt52, e_impl_Item, e17, b19, b21])
                exact hP
              refine w_cf rfl ?_
              refine w_skip (n15 _ (.inl ?_))
              obtain ⟨x5, e32, h⟩ := bindE h
              refine w_sreg (w_abs [(0, .slice (a0.map e_impl_Item)), (3, .int .i64 v3_14), (5, .int .i64 x5.2)] (fun P hP => ?_) ?_)
              · simp only [W0.down, Nat.reduceEqDiff, ↓reduceIte, reduceCtorEq, Nat.reduceAdd, Nat.reduceSub, Nat.reduceMul, Nat.reduceLeDiff, Nat.reduceBEq, Nat.reduceLT, if_true, if_false, beq_self_eq_true, BEq.rfl, ne_eq, tt9, tt30, tt52, e_impl_Item, e17]
                refine w_call0 (ok_spec_l32Kind x1.Image _ e32) rfl rfl rfl rfl (.inl rfl) ?_
                simp only [W0.down, Nat.reduceEqDiff, ↓reduceIte, reduceCtorEq, Nat.reduceAdd, Nat.reduceSub, Nat.reduceMul, Nat.reduceLeDiff, Nat.reduceBEq, Nat.reduceLT, if_true, if_false, beq_self_eq_true, BEq.rfl, ne_eq, tt9, tt30, tt52, e_impl_Item, e17]
                (try simp only [WN.down, Nat.reduceAdd, if_true, if_false, ↓reduceIte, tt9, tt30, tt52, e_impl_Item, e17] at hP)
                (try simp only [WN.down, Nat.reduceAdd, if_true, if_false, ↓reduceIte, tt9, tt30, tt52, e_impl_Item, e17])
                exact hP
              refine w_sreg (w_abs [(0, .slice (a0.map e_impl_Item)), (3, .int .i64 v3_14), (50, .bool (x5.2 != 0))] (fun P hP => ?_) ?_)
              · simp only [W0.down, Nat.reduceEqDiff, ↓reduceIte, reduceCtorEq, Nat.reduceAdd, Nat.reduceSub, Nat.reduceMul, Nat.reduceLeDiff, Nat.reduceBEq, Nat.reduceLT, if_true, if_false, beq_self_eq_true, BEq.rfl, ne_eq, e_impl_Item]
                (try simp only [WN.down, Nat.reduceAdd, if_true, if_false, ↓reduceIte, e_impl_Item] at hP)
                (try simp only [WN.down, Nat.reduceAdd, if_true, if_false, ↓reduceIte, e_impl_Item])
                exact hP
              rcases condE h with ⟨b34, h⟩ | ⟨b34, h⟩
              · refine w_ct (congrArg AV.bool b34) ?_
                simp only [b34, Bool.not_true, Bool.not_false]
                refine w_sreg (w_abs [(2, .bool false)] (fun P hP => ?_) ?_)
                · simp only [W0.down, Nat.reduceEqDiff, ↓reduceIte, reduceCtorEq, Nat.reduceAdd, Nat.reduceSub, Nat.reduceMul, Nat.reduceLeDiff, Nat.reduceBEq, Nat.reduceLT, if_true, if_false, beq_self_eq_true, BEq.rfl, ne_eq, e_impl_Item]
                  (try simp only [WN.down, Nat.reduceAdd, if_true, if_false, ↓reduceIte, e_impl_Item] at hP)
                  (try simp only [WN.down, Nat.reduceAdd, if_true, if_false, ↓reduceIte, e_impl_Item])
                  exact hP
                exact w_ret (q14 _ (q13 _ (q9 _ (q8 _ (q6 _ (r0 _ (.inl (w_fin [.bool false] rfl (by cases someE h; rfl) (by decide) outs_nil))))))))
              · refine w_cf (congrArg AV.bool b34) ?_
                simp only [b34, Bool.not_true, Bool.not_false]
                refine w_skip (n14 _ (n13 _ (.inl ?_)))
                refine w_reg (w_abs [(0, .slice (a0.map e_impl_Item)), (3, .int .i64 (IntKind.i64.wrap (v3_14 + 1)))] (fun P hP => ?_) ?_)
                · simp only [W0.down, Nat.reduceEqDiff, ↓reduceIte, reduceCtorEq, Nat.reduceAdd, Nat.reduceSub, Nat.reduceMul, Nat.reduceLeDiff, Nat.reduceBEq, Nat.reduceLT, if_true, if_false, beq_self_eq_true, BEq.rfl, ne_eq, e_impl_Item]
                  (try simp only [WN.down, Nat.reduceAdd, if_true, if_false, ↓reduceIte, e_impl_Item] at hP)
                  (try simp only [WN.down, Nat.reduceAdd, if_true, if_false, ↓reduceIte, e_impl_Item])
                  exact hP
                exact n9 _ (.inr ⟨_, weak_eq rfl, ih14 (IntKind.i64.wrap (v3_14 + 1)) h⟩)
        · refine w_cf (congrArg AV.bool b12) ?_
          simp only [b12, Bool.not_true, Bool.not_false]
          refine w_ex (x10 0 _ (x9 0 _ (b8 _ (n6 _ (.inl ?_)))))
          refine w_sreg (w_abs [(2, .bool true)] (fun P hP => ?_) ?_)
          · simp only [W0.down, Nat.reduceEqDiff, ↓reduceIte, reduceCtorEq, Nat.reduceAdd, Nat.reduceSub, Nat.reduceMul, Nat.reduceLeDiff, Nat.reduceBEq, Nat.reduceLT, if_true, if_false, beq_self_eq_true, BEq.rfl, ne_eq, e_impl_Item]
            (try simp only [WN.down, Nat.reduceAdd, if_true, if_false, ↓reduceIte, e_impl_Item] at hP)
            (try simp only [WN.down, Nat.reduceAdd, if_true, if_false, ↓reduceIte, e_impl_Item])
            exact hP
          exact w_ret (r0 _ (.inl (w_fin [.bool true] rfl (by cases someE h; rfl) (by decide) outs_nil)))
    obtain ⟨n, h⟩ := limE h
    exact w_loop (.inr ⟨_, weak_eq rfl, L14 n 0 h⟩)

theorem ok_spec_FindItem (a0 : List impl_Item) (a1 : List UInt8) (r : (List UInt8) × Int) (h : spec_FindItem a0 a1 = some r) : OkAt Cc 18 [.slice (a0.map e_impl_Item), .str a1] (.tuple [.str r.1, .int .i64 r.2]) [] := by
  refine OkAt.of_wpQ (fx := [0, 1]) Cc_ok Try.func18 rfl rfl s18 (Nat.le_of_ble_eq_true rfl) (fun Q0 r0 n0 => ?_)
  replace r0 : ∀ s, onW (Fw.Ends Cc [0, 1] [.tmp 4, .tmp 5] (.tuple [.str r.1, .int .i64 r.2]) []) s → Q0 .ret s := r0
  replace n0 : ∀ s, onW (Fw.Ends Cc [0, 1] [.tmp 4, .tmp 5] (.tuple [.str r.1, .int .i64 r.2]) []) s → Q0 .normal s := n0
  show wpC Cc c18 Q0 (stA [(0, .slice (a0.map e_impl_Item)), (1, .str a1)])
  refine w_sreg (w_abs [(0, .slice (a0.map e_impl_Item)), (1, .str a1)] (fun P hP => ?_) ?_)
  · simp only [W0.down, Nat.reduceEqDiff, ↓reduceIte, reduceCtorEq, Nat.reduceAdd, Nat.reduceSub, Nat.reduceMul, Nat.reduceLeDiff, Nat.reduceBEq, Nat.reduceLT, if_true, if_false, beq_self_eq_true, BEq.rfl, ne_eq, e_impl_Item]
    (try simp only [WN.down, Nat.reduceAdd, if_true, if_false, ↓reduceIte, e_impl_Item] at hP)
    (try simp only [WN.down, Nat.reduceAdd, if_true, if_false, ↓reduceIte, e_impl_Item])
    exact hP
  refine w_seq (fun Q2 n2 q2 x2 => ?_)
  obtain ⟨x1, e4, h⟩ := bindE h
  refine w_sreg (w_abs [(0, .slice (a0.map e_impl_Item)), (1, .str a1), (9, .bool (!x1))] (fun P hP => ?_) ?_)
  · simp only [W0.down, Nat.reduceEqDiff, ↓reduceIte, reduceCtorEq, Nat.reduceAdd, Nat.reduceSub, Nat.reduceMul, Nat.reduceLeDiff, Nat.reduceBEq, Nat.reduceLT, if_true, if_false, beq_self_eq_true, BEq.rfl, ne_eq, e_impl_Item]
    refine w_call0 (ok_spec_l32Items a0 _ e4) rfl rfl rfl rfl (.inl rfl) ?_
    simp only [W0.down, Nat.reduceEqDiff, ↓reduceIte, reduceCtorEq, Nat.reduceAdd, Nat.reduceSub, Nat.reduceMul, Nat.reduceLeDiff, Nat.reduceBEq, Nat.reduceLT, if_true, if_false, beq_self_eq_true, BEq.rfl, ne_eq, e_impl_Item]
    (try simp only [WN.down, Nat.reduceAdd, if_true, if_false, ↓reduceIte, e_impl_Item] at hP)
    (try simp only [WN.down, Nat.reduceAdd, if_true, if_false, ↓reduceIte, e_impl_Item])
    exact hP
  rcases condE h with ⟨b5, h⟩ | ⟨b5, h⟩
  · refine w_ct (congrArg AV.bool b5) ?_
    simp only [b5, Bool.not_true, Bool.not_false]
    refine w_sreg (w_abs [(4, .str ([] : List UInt8)), (5, .int .i64 1)] (fun P hP => ?_) ?_)
    · simp only [W0.down, Nat.reduceEqDiff, ↓reduceIte, reduceCtorEq, Nat.reduceAdd, Nat.reduceSub, Nat.reduceMul, Nat.reduceLeDiff, Nat.reduceBEq, Nat.reduceLT, if_true, if_false, beq_self_eq_true, BEq.rfl, ne_eq, e_impl_Item]
      (try simp only [WN.down, Nat.reduceAdd, if_true, if_false, ↓reduceIte, e_impl_Item] at hP)
      (try simp only [WN.down, Nat.reduceAdd, if_true, if_false, ↓reduceIte, e_impl_Item])
      exact hP
    exact w_ret (q2 _ (r0 _ (.inl (w_fin [.str ([] : List UInt8), .int .i64 1] rfl (by cases someE h; rfl) (by decide) outs_nil))))
  · refine w_cf (congrArg AV.bool b5) ?_
    simp only [b5, Bool.not_true, Bool.not_false]
    refine w_skip (n2 _ (.inl ?_))
    refine w_seq (fun Q7 n7 q7 x7 => ?_)
    refine w_sreg (w_abs [(0, .slice (a0.map e_impl_Item)), (1, .str a1), (6, .int .i64 0)] (fun P hP => ?_) ?_)
    · simp only [W0.down, Nat.reduceEqDiff, ↓reduceIte, reduceCtorEq, Nat.reduceAdd, Nat.reduceSub, Nat.reduceMul, Nat.reduceLeDiff, Nat.reduceBEq, Nat.reduceLT, if_true, if_false, beq_self_eq_true, BEq.rfl, ne_eq, e_impl_Item]
      (try simp only [WN.down, Nat.reduceAdd, if_true, if_false, ↓reduceIte, e_impl_Item] at hP)
      (try simp only [WN.down, Nat.reduceAdd, if_true, if_false, ↓reduceIte, e_impl_Item])
      exact hP
    refine w_blk (fun Q9 n9 q9 b9 x9 => ?_)
    have L14 : ∀ (n : Nat) (v6_14 : Int), spec_FindItem_l14 a0 a1 n v6_14 = some r → lpC Cc c18_15 Q9 (stA [(0, .slice (a0.map e_impl_Item)), (1, .str a1), (6, .int .i64 v6_14)]) := by
      intro m14
      induction m14 with
      | zero => intro v6_14 h; cases (show none = some r from h)
      | succ m14 ih14 =>
        intro v6_14 h
        replace h : spec_FindItem_b14 (spec_FindItem_l14 a0 a1 m14) a0 a1 v6_14 = some r := h
        refine lpC_step (fun Q10 n10 q10 x10 => ?_)
        refine w_seq (fun Q11 n11 q11 x11 => ?_)
        refine w_sreg (w_abs [(0, .slice (a0.map e_impl_Item)), (1, .str a1), (6, .int .i64 v6_14), (13, .bool (decide (v6_14 < (a0.length : Int))))] (fun P hP => ?_) ?_)
        · simp only [W0.down, Nat.reduceEqDiff, ↓reduceIte, reduceCtorEq, Nat.reduceAdd, Nat.reduceSub, Nat.reduceMul, Nat.reduceLeDiff, Nat.reduceBEq, Nat.reduceLT, if_true, if_false, beq_self_eq_true, BEq.rfl, ne_eq, tt9, tt30, tt52, e_impl_Item]
          (try simp only [WN.down, Nat.reduceAdd, if_true, if_false, ↓reduceIte, tt9, tt30, tt52, e_impl_Item] at hP)
          (try simp only [WN.down, Nat.reduceAdd, if_true, if_false, ↓reduceIte, tt9, tt30, tt52, e_impl_Item])
          exact hP
        rcases condE h with ⟨b13, h⟩ | ⟨b13, h⟩
        · refine w_ct (congrArg AV.bool b13) ?_
          simp only [b13, Bool.not_true, Bool.not_false]
          refine w_skip (n11 _ (.inl ?_))
          refine w_seq (fun Q14 n14 q14 x14 => ?_)
          refine w_blk (fun Q15 n15 q15 b15 x15 => ?_)
          obtain ⟨x2, e17, h⟩ := bindE h
          refine w_sreg (w_abs [(0, .slice (a0.map e_impl_Item)), (1, .str a1), (6, .int .i64 v6_14), (22, .bool (x2.Name == a1))] (fun P hP => ?_) ?_)
          · simp only [W0.down, Nat.reduceEqDiff, ↓reduceIte, reduceCtorEq, Nat.reduceAdd, Nat.reduceSub, Nat.reduceMul, Nat.reduceLeDiff, Nat.reduceBEq, Nat.reduceLT, if_true, if_false, beq_self_eq_true, BEq.rfl, ne_eq, tt9, tt30, tt52, e_impl_Item, e17]
            (try simp only [WN.down, Nat.reduceAdd, if_true, if_false, ↓reduceIte, tt9, tt30, tt52, e_impl_Item, e17] at hP)
            (try simp only [WN.down, Nat.reduceAdd, if_true, if_false, ↓reduceIte, tt9, tt30, tt52, e_impl_Item, e17])
            exact hP
          rcases condE h with ⟨b18, h⟩ | ⟨b18, h⟩
          · refine w_ct (congrArg AV.bool b18) ?_
            simp only [b18, Bool.not_true, Bool.not_false]
            refine w_sreg (w_abs [(4, .str x2.Image), (5, .int .i64 0)] (fun P hP => ?_) ?_)
            · simp only [W0.down, Nat.reduceEqDiff, ↓reduceIte, reduceCtorEq, Nat.reduceAdd, Nat.reduceSub, Nat.reduceMul, Nat.reduceLeDiff, Nat.reduceBEq, Nat.reduceLT, if_true, if_false, beq_self_eq_true, BEq.rfl, ne_eq, tt9, tt30, tt52, e_impl_Item, e17]
              (try simp only [WN.down, Nat.reduceAdd, if_true, if_false, ↓reduceIte, tt9, tt30, tt52, e_impl_Item, e17] at hP)
              (try simp only [WN.down, Nat.reduceAdd, if_true, if_false, ↓reduceIte, tt9, tt30, tt52, e_impl_Item, e17])
              exact hP
            exact w_ret (q15 _ (q14 _ (q10 _ (q9 _ (q7 _ (r0 _ (.inl (w_fin [.str x2.Image, .int .i64 0] rfl (by cases someE h; rfl) (by decide) outs_nil))))))))
          · refine w_cf (congrArg AV.bool b18) ?_
            simp only [b18, Bool.not_true, Bool.not_false]
            refine w_skip (n15 _ (n14 _ (.inl ?_)))
            refine w_reg (w_abs [(0, .slice (a0.map e_impl_Item)), (1, .str a1), (6, .int .i64 (IntKind.i64.wrap (v6_14 + 1)))] (fun P hP => ?_) ?_)
            · simp only [W0.down, Nat.reduceEqDiff, ↓reduceIte, reduceCtorEq, Nat.reduceAdd, Nat.reduceSub, Nat.reduceMul, Nat.reduceLeDiff, Nat.reduceBEq, Nat.reduceLT, if_true, if_false, beq_self_eq_true, BEq.rfl, ne_eq, e_impl_Item]
              (try simp only [WN.down, Nat.reduceAdd, if_true, if_false, ↓reduceIte, e_impl_Item] at hP)
              (try simp only [WN.down, Nat.reduceAdd, if_true, if_false, ↓reduceIte, e_impl_Item])
              exact hP
            exact n10 _ (.inr ⟨_, weak_eq rfl, ih14 (IntKind.i64.wrap (v6_14 + 1)) h⟩)
        · refine w_cf (congrArg AV.bool b13) ?_
          simp only [b13, Bool.not_true, Bool.not_false]
          refine w_ex (x11 0 _ (x10 0 _ (b9 _ (n7 _ (.inl ?_)))))
          refine w_sreg (w_abs [(4, .str ([] : List UInt8)), (5, .int .i64 3)] (fun P hP => ?_) ?_)
          · simp only [W0.down, Nat.reduceEqDiff, ↓reduceIte, reduceCtorEq, Nat.reduceAdd, Nat.reduceSub, Nat.reduceMul, Nat.reduceLeDiff, Nat.reduceBEq, Nat.reduceLT, if_true, if_false, beq_self_eq_true, BEq.rfl, ne_eq, e_impl_Item]
            (try simp only [WN.down, Nat.reduceAdd, if_true, if_false, ↓reduceIte, e_impl_Item] at hP)
            (try simp only [WN.down, Nat.reduceAdd, if_true, if_false, ↓reduceIte, e_impl_Item])
            exact hP
          exact w_ret (r0 _ (.inl (w_fin [.str ([] : List UInt8), .int .i64 3] rfl (by cases someE h; rfl) (by decide) outs_nil)))
    obtain ⟨n, h⟩ := limE h
    exact w_loop (.inr ⟨_, weak_eq rfl, L14 n 0 h⟩)

theorem ok_impl_isDigit (a0 : UInt8) (r : Bool) (h : impl_isDigit a0 = some r) : OkAt Cc 54 [.int .u8 (a0.toNat : Int)] (.bool r) [] := by
  refine OkAt.of_wpQ (fx := [0]) Cc_ok Try.func54 rfl rfl s54 (Nat.le_of_ble_eq_true rfl) (fun Q0 r0 n0 => ?_)
  replace r0 : ∀ s, onW (Fw.Ends Cc [0] [.tmp 2] (.bool r) []) s → Q0 .ret s := r0
  replace n0 : ∀ s, onW (Fw.Ends Cc [0] [.tmp 2] (.bool r) []) s → Q0 .normal s := n0
  show wpC Cc c54 Q0 (stA [(0, .int .u8 (a0.toNat : Int))])
  refine w_sreg (w_abs [(0, .int .u8 (a0.toNat : Int))] (fun P hP => ?_) ?_)
  · simp only [W0.down, Nat.reduceEqDiff, ↓reduceIte, reduceCtorEq, Nat.reduceAdd, Nat.reduceSub, Nat.reduceMul, Nat.reduceLeDiff, Nat.reduceBEq, Nat.reduceLT, if_true, if_false, beq_self_eq_true, BEq.rfl, ne_eq]
    (try simp only [WN.down, Nat.reduceAdd, if_true, if_false, ↓reduceIte] at hP)
    (try simp only [WN.down, Nat.reduceAdd, if_true, if_false, ↓reduceIte])
    exact hP
  refine w_sreg (w_abs [(2, .bool ((decide (48 ≤ (a0.toNat : Int))) && (decide ((a0.toNat : Int) ≤ 57))))] (fun P hP => ?_) ?_)
  · rcases Bool.eq_false_or_eq_true ((decide (48 ≤ (a0.toNat : Int)))) with s3 | s3
    · simp only [W0.down, Nat.reduceEqDiff, ↓reduceIte, reduceCtorEq, Nat.reduceAdd, Nat.reduceSub, Nat.reduceMul, Nat.reduceLeDiff, Nat.reduceBEq, Nat.reduceLT, if_true, if_false, beq_self_eq_true, BEq.rfl, ne_eq, s3]
      (try simp only [WN.down, Nat.reduceAdd, if_true, if_false, ↓reduceIte, s3] at hP)
      (try simp only [WN.down, Nat.reduceAdd, if_true, if_false, ↓reduceIte, s3])
      exact hP
    · simp only [W0.down, Nat.reduceEqDiff, ↓reduceIte, reduceCtorEq, Nat.reduceAdd, Nat.reduceSub, Nat.reduceMul, Nat.reduceLeDiff, Nat.reduceBEq, Nat.reduceLT, if_true, if_false, beq_self_eq_true, BEq.rfl, ne_eq, s3]
      (try simp only [WN.down, Nat.reduceAdd, if_true, if_false, ↓reduceIte, s3] at hP)
      (try simp only [WN.down, Nat.reduceAdd, if_true, if_false, ↓reduceIte, s3])
      exact hP
  exact w_ret (r0 _ (.inl (w_fin [.bool ((decide (48 ≤ (a0.toNat : Int))) && (decide ((a0.toNat : Int) ≤ 57)))] rfl (by cases someE h; rfl) (by decide) outs_nil)))

theorem ok_impl_IsName (a0 : List UInt8) (r : Bool) (h : impl_IsName a0 = some r) : OkAt Cc 35 [.str a0] (.bool r) [] := by
  refine OkAt.of_wpQ (fx := [0]) Cc_ok Try.func35 rfl rfl s35 (Nat.le_of_ble_eq_true rfl) (fun Q0 r0 n0 => ?_)
  replace r0 : ∀ s, onW (Fw.Ends Cc [0] [.tmp 2] (.bool r) []) s → Q0 .ret s := r0
  replace n0 : ∀ s, onW (Fw.Ends Cc [0] [.tmp 2] (.bool r) []) s → Q0 .normal s := n0
  show wpC Cc c35 Q0 (stA [(0, .str a0)])
  refine w_sreg (w_abs [(0, .str a0)] (fun P hP => ?_) ?_)
  · simp only [W0.down, Nat.reduceEqDiff, ↓reduceIte, reduceCtorEq, Nat.reduceAdd, Nat.reduceSub, Nat.reduceMul, Nat.reduceLeDiff, Nat.reduceBEq, Nat.reduceLT, if_true, if_false, beq_self_eq_true, BEq.rfl, ne_eq]
    (try simp only [WN.down, Nat.reduceAdd, if_true, if_false, ↓reduceIte] at hP)
    (try simp only [WN.down, Nat.reduceAdd, if_true, if_false, ↓reduceIte])
    exact hP
  refine w_seq (fun Q2 n2 q2 x2 => ?_)
  refine w_sreg (w_abs [(0, .str a0), (6, .int .i64 (a0.length : Int)), (7, .int .i64 0)] (fun P hP => ?_) ?_)
  · simp only [W0.down, Nat.reduceEqDiff, ↓reduceIte, reduceCtorEq, Nat.reduceAdd, Nat.reduceSub, Nat.reduceMul, Nat.reduceLeDiff, Nat.reduceBEq, Nat.reduceLT, if_true, if_false, beq_self_eq_true, BEq.rfl, ne_eq, tt9]
    (try simp only [WN.down, Nat.reduceAdd, if_true, if_false, ↓reduceIte, tt9] at hP)
    (try simp only [WN.down, Nat.reduceAdd, if_true, if_false, ↓reduceIte, tt9])
    exact hP
  refine w_blk (fun Q4 n4 q4 b4 x4 => ?_)
  have L6 : ∀ (n : Nat) (v7_6 : Int), impl_IsName_l6 a0 n v7_6 = some r → lpC Cc c35_7 Q4 (stA [(0, .str a0), (6, .int .i64 (a0.length : Int)), (7, .int .i64 v7_6)]) := by
    intro m6
    induction m6 with
    | zero => intro v7_6 h; cases (show none = some r from h)
    | succ m6 ih6 =>
      intro v7_6 h
      replace h : impl_IsName_b6 (impl_IsName_l6 a0 m6) a0 v7_6 = some r := h
      refine lpC_step (fun Q5 n5 q5 x5 => ?_)
      refine w_sreg (w_abs [(0, .str a0), (6, .int .i64 (a0.length : Int)), (7, .int .i64 v7_6), (8, .bool (decide (v7_6 < (a0.length : Int))))] (fun P hP => ?_) ?_)
      · simp only [W0.down, Nat.reduceEqDiff, ↓reduceIte, reduceCtorEq, Nat.reduceAdd, Nat.reduceSub, Nat.reduceMul, Nat.reduceLeDiff, Nat.reduceBEq, Nat.reduceLT, if_true, if_false, beq_self_eq_true, BEq.rfl, ne_eq]
        (try simp only [WN.down, Nat.reduceAdd, if_true, if_false, ↓reduceIte] at hP)
        (try simp only [WN.down, Nat.reduceAdd, if_true, if_false, ↓reduceIte])
        exact hP
      refine w_seq (fun Q7 n7 q7 x7 => ?_)
      rcases condE h with ⟨b8, h⟩ | ⟨b8, h⟩
      · refine w_ct (congrArg AV.bool b8) ?_
        simp only [b8, Bool.not_true, Bool.not_false]
        refine w_skip (n7 _ (.inl ?_))
        refine w_seq (fun Q9 n9 q9 x9 => ?_)
        refine w_blk (fun Q10 n10 q10 b10 x10 => ?_)
        refine w_sreg (w_abs [(0, .str a0), (3, .int .i64 v7_6), (6, .int .i64 (a0.length : Int)), (7, .int .i64 v7_6)] (fun P hP => ?_) ?_)
        · simp only [W0.down, Nat.reduceEqDiff, ↓reduceIte, reduceCtorEq, Nat.reduceAdd, Nat.reduceSub, Nat.reduceMul, Nat.reduceLeDiff, Nat.reduceBEq, Nat.reduceLT, if_true, if_false, beq_self_eq_true, BEq.rfl, ne_eq]
          (try simp only [WN.down, Nat.reduceAdd, if_true, if_false, ↓reduceIte] at hP)
          (try simp only [WN.down, Nat.reduceAdd, if_true, if_false, ↓reduceIte])
          exact hP
        obtain ⟨x1, e13, h⟩ := bindE h
        refine w_sreg (w_abs [(0, .str a0), (3, .int .i64 v7_6), (4, .bool ((decide (97 ≤ (x1.toNat : Int))) && (decide ((x1.toNat : Int) ≤ 122)))), (6, .int .i64 (a0.length : Int)), (7, .int .i64 v7_6)] (fun P hP => ?_) ?_)
        · rcases Bool.eq_false_or_eq_true ((decide (97 ≤ (x1.toNat : Int)))) with s14 | s14
          · simp only [W0.down, Nat.reduceEqDiff, ↓reduceIte, reduceCtorEq, Nat.reduceAdd, Nat.reduceSub, Nat.reduceMul, Nat.reduceLeDiff, Nat.reduceBEq, Nat.reduceLT, if_true, if_false, beq_self_eq_true, BEq.rfl, ne_eq, tt9, e13, s14]
            (try simp only [WN.down, Nat.reduceAdd, if_true, if_false, ↓reduceIte, tt9, e13, s14] at hP)
            (try simp only [WN.down, Nat.reduceAdd, if_true, if_false, ↓reduceIte, tt9, e13, s14])
            exact hP
          · simp only [W0.down, Nat.reduceEqDiff, ↓reduceIte, reduceCtorEq, Nat.reduceAdd, Nat.reduceSub, Nat.reduceMul, Nat.reduceLeDiff, Nat.reduceBEq, Nat.reduceLT, if_true, if_false, beq_self_eq_true, BEq.rfl, ne_eq, tt9, e13, s14]
            (try simp only [WN.down, Nat.reduceAdd, if_true, if_false, ↓reduceIte, tt9, e13, s14] at hP)
            (try simp only [WN.down, Nat.reduceAdd, if_true, if_false, ↓reduceIte, tt9, e13, s14])
            exact hP
        rcases condE h with ⟨b16, h⟩ | ⟨b16, h⟩
        · rcases condE h with ⟨b17, h⟩ | ⟨b17, h⟩
          · refine w_sreg (w_abs [(0, .str a0), (6, .int .i64 (a0.length : Int)), (7, .int .i64 v7_6), (32, .bool true)] (fun P hP => ?_) ?_)
            · simp only [W0.down, Nat.reduceEqDiff, ↓reduceIte, reduceCtorEq, Nat.reduceAdd, Nat.reduceSub, Nat.reduceMul, Nat.reduceLeDiff, Nat.reduceBEq, Nat.reduceLT, if_true, if_false, beq_self_eq_true, BEq.rfl, ne_eq, tt9, b16, b17]
              (try simp only [WN.down, Nat.reduceAdd, if_true, if_false, ↓reduceIte, tt9, b16, b17] at hP)
              (try simp only [WN.down, Nat.reduceAdd, if_true, if_false, ↓reduceIte, tt9, b16, b17])
              exact hP
            refine w_ct rfl ?_
            refine w_sreg (w_abs [(2, .bool false)] (fun P hP => ?_) ?_)
            · simp only [W0.down, Nat.reduceEqDiff, ↓reduceIte, reduceCtorEq, Nat.reduceAdd, Nat.reduceSub, Nat.reduceMul, Nat.reduceLeDiff, Nat.reduceBEq, Nat.reduceLT, if_true, if_false, beq_self_eq_true, BEq.rfl, ne_eq]
              (try simp only [WN.down, Nat.reduceAdd, if_true, if_false, ↓reduceIte] at hP)
              (try simp only [WN.down, Nat.reduceAdd, if_true, if_false, ↓reduceIte])
              exact hP
            exact w_ret (q10 _ (q9 _ (q5 _ (q4 _ (q2 _ (r0 _ (.inl (w_fin [.bool false] rfl (by cases someE h; rfl) (by decide) outs_nil))))))))
          · obtain ⟨x2, e19, h⟩ := bindE h
            refine w_sreg (w_abs [(0, .str a0), (6, .int .i64 (a0.length : Int)), (7, .int .i64 v7_6), (32, .bool (!x2))] (fun P hP => ?_) ?_)
            · simp only [W0.down, Nat.reduceEqDiff, ↓reduceIte, reduceCtorEq, Nat.reduceAdd, Nat.reduceSub, Nat.reduceMul, Nat.reduceLeDiff, Nat.reduceBEq, Nat.reduceLT, if_true, if_false, beq_self_eq_true, BEq.rfl, ne_eq, tt9, b16, b17, e13]
              refine w_callg0 (ok_impl_isDigit x1 _ e19) rfl rfl rfl rfl (.inl rfl) ?_
              simp only [W0.down, Nat.reduceEqDiff, ↓reduceIte, reduceCtorEq, Nat.reduceAdd, Nat.reduceSub, Nat.reduceMul, Nat.reduceLeDiff, Nat.reduceBEq, Nat.reduceLT, if_true, if_false, beq_self_eq_true, BEq.rfl, ne_eq, tt9, b16, b17, e13]
              (try simp only [WN.down, Nat.reduceAdd, if_true, if_false, ↓reduceIte, tt9, b16, b17, e13] at hP)
              (try simp only [WN.down, Nat.reduceAdd, if_true, if_false, ↓reduceIte, tt9, b16, b17, e13])
              exact hP
            rcases condE h with ⟨b20, h⟩ | ⟨b20, h⟩
            · refine w_ct (congrArg AV.bool b20) ?_
              simp only [b20, Bool.not_true, Bool.not_false]
              refine w_sreg (w_abs [(2, .bool false)] (fun P hP => ?_) ?_)
              · simp only [W0.down, Nat.reduceEqDiff, ↓reduceIte, reduceCtorEq, Nat.reduceAdd, Nat.reduceSub, Nat.reduceMul, Nat.reduceLeDiff, Nat.reduceBEq, Nat.reduceLT, if_true, if_false, beq_self_eq_true, BEq.rfl, ne_eq]
                (try simp only [WN.down, Nat.reduceAdd, if_true, if_false, ↓reduceIte] at hP)
                (try simp only [WN.down, Nat.reduceAdd, if_true, if_false, ↓reduceIte])
                exact hP
              exact w_ret (q10 _ (q9 _ (q5 _ (q4 _ (q2 _ (r0 _ (.inl (w_fin [.bool false] rfl (by cases someE h; rfl) (by decide) outs_nil))))))))
            · refine w_cf (congrArg AV.bool b20) ?_
              simp only [b20, Bool.not_true, Bool.not_false]
              refine w_skip (n10 _ (n9 _ (.inl ?_)))
              refine w_reg (w_abs [(0, .str a0), (6, .int .i64 (a0.length : Int)), (7, .int .i64 (IntKind.i64.wrap (v7_6 + 1)))] (fun P hP => ?_) ?_)
              · simp only [W0.down, Nat.reduceEqDiff, ↓reduceIte, reduceCtorEq, Nat.reduceAdd, Nat.reduceSub, Nat.reduceMul, Nat.reduceLeDiff, Nat.reduceBEq, Nat.reduceLT, if_true, if_false, beq_self_eq_true, BEq.rfl, ne_eq]
                (try simp only [WN.down, Nat.reduceAdd, if_true, if_false, ↓reduceIte] at hP)
                (try simp only [WN.down, Nat.reduceAdd, if_true, if_false, ↓reduceIte])
                exact hP
              exact n5 _ (.inr ⟨_, weak_eq rfl, ih6 (IntKind.i64.wrap (v7_6 + 1)) h⟩)
        · refine w_sreg (w_abs [(0, .str a0), (6, .int .i64 (a0.length : Int)), (7, .int .i64 v7_6), (32, .bool false)] (fun P hP => ?_) ?_)
          · simp only [W0.down, Nat.reduceEqDiff, ↓reduceIte, reduceCtorEq, Nat.reduceAdd, Nat.reduceSub, Nat.reduceMul, Nat.reduceLeDiff, Nat.reduceBEq, Nat.reduceLT, if_true, if_false, beq_self_eq_true, BEq.rfl, ne_eq, tt9, b16]
            (try simp only [WN.down, Nat.reduceAdd, if_true, if_false, ↓reduceIte, tt9, b16] at hP)
            (try simp only [WN.down, Nat.reduceAdd, if_true, if_false, ↓reduceIte, tt9, b16])
            exact hP
          refine w_cf rfl ?_
          refine w_skip (n10 _ (n9 _ (.inl ?_)))
          refine w_reg (w_abs [(0, .str a0), (6, .int .i64 (a0.length : Int)), (7, .int .i64 (IntKind.i64.wrap (v7_6 + 1)))] (fun P hP => ?_) ?_)
          · simp only [W0.down, Nat.reduceEqDiff, ↓reduceIte, reduceCtorEq, Nat.reduceAdd, Nat.reduceSub, Nat.reduceMul, Nat.reduceLeDiff, Nat.reduceBEq, Nat.reduceLT, if_true, if_false, beq_self_eq_true, BEq.rfl, ne_eq]
            (try simp only [WN.down, Nat.reduceAdd, if_true, if_false, ↓reduceIte] at hP)
            (try simp only [WN.down, Nat.reduceAdd, if_true, if_false, ↓reduceIte])
            exact hP
          exact n5 _ (.inr ⟨_, weak_eq rfl, ih6 (IntKind.i64.wrap (v7_6 + 1)) h⟩)
      · refine w_cf (congrArg AV.bool b8) ?_
        simp only [b8, Bool.not_true, Bool.not_false]
        refine w_ex (x7 0 _ (x5 0 _ (b4 _ (n2 _ (.inl ?_)))))
        refine w_sreg (w_abs [(2, .bool ((decide (1 ≤ (a0.length : Int))) && (decide ((a0.length : Int) ≤ 10))))] (fun P hP => ?_) ?_)
        · rcases Bool.eq_false_or_eq_true ((decide (1 ≤ (a0.length : Int)))) with s25 | s25
          · simp only [W0.down, Nat.reduceEqDiff, ↓reduceIte, reduceCtorEq, Nat.reduceAdd, Nat.reduceSub, Nat.reduceMul, Nat.reduceLeDiff, Nat.reduceBEq, Nat.reduceLT, if_true, if_false, beq_self_eq_true, BEq.rfl, ne_eq, tt9, s25]
            (try simp only [WN.down, Nat.reduceAdd, if_true, if_false, ↓reduceIte, tt9, s25] at hP)
            (try simp only [WN.down, Nat.reduceAdd, if_true, if_false, ↓reduceIte, tt9, s25])
            exact hP
          · simp only [W0.down, Nat.reduceEqDiff, ↓reduceIte, reduceCtorEq, Nat.reduceAdd, Nat.reduceSub, Nat.reduceMul, Nat.reduceLeDiff, Nat.reduceBEq, Nat.reduceLT, if_true, if_false, beq_self_eq_true, BEq.rfl, ne_eq, tt9, s25]
            (try simp only [WN.down, Nat.reduceAdd, if_true, if_false, ↓reduceIte, tt9, s25] at hP)
            (try simp only [WN.down, Nat.reduceAdd, if_true, if_false, ↓reduceIte, tt9, s25])
            exact hP
        exact w_ret (r0 _ (.inl (w_fin [.bool ((decide (1 ≤ (a0.length : Int))) && (decide ((a0.length : Int) ≤ 10)))] rfl (by cases someE h; rfl) (by decide) outs_nil)))
  obtain ⟨n, h⟩ := limE h
  exact w_loop (.inr ⟨_, weak_eq rfl, L6 n 0 h⟩)

theorem ok_impl_within (a0 : Int) (a1 : Int) (a2 : Int) (r : Bool) (h : impl_within a0 a1 a2 = some r) : OkAt Cc 31 [.int .i64 a0, .int .i64 a1, .int .i64 a2] (.bool r) [] := by
  refine OkAt.of_wpQ (fx := [0, 1, 2]) Cc_ok Try.func31 rfl rfl s31 (Nat.le_of_ble_eq_true rfl) (fun Q0 r0 n0 => ?_)
  replace r0 : ∀ s, onW (Fw.Ends Cc [0, 1, 2] [.tmp 6] (.bool r) []) s → Q0 .ret s := r0
  replace n0 : ∀ s, onW (Fw.Ends Cc [0, 1, 2] [.tmp 6] (.bool r) []) s → Q0 .normal s := n0
  show wpC Cc c31 Q0 (stA [(0, .int .i64 a0), (1, .int .i64 a1), (2, .int .i64 a2)])
  refine w_sreg (w_abs [(0, .int .i64 a0), (1, .int .i64 a1), (2, .int .i64 a2)] (fun P hP => ?_) ?_)
  · simp only [W0.down, Nat.reduceEqDiff, ↓reduceIte, reduceCtorEq, Nat.reduceAdd, Nat.reduceSub, Nat.reduceMul, Nat.reduceLeDiff, Nat.reduceBEq, Nat.reduceLT, if_true, if_false, beq_self_eq_true, BEq.rfl, ne_eq]
    (try simp only [WN.down, Nat.reduceAdd, if_true, if_false, ↓reduceIte] at hP)
    (try simp only [WN.down, Nat.reduceAdd, if_true, if_false, ↓reduceIte])
    exact hP
  refine w_sreg (w_abs [(6, .bool ((decide (a1 ≤ a0)) && (decide (a0 ≤ a2))))] (fun P hP => ?_) ?_)
  · rcases Bool.eq_false_or_eq_true ((decide (a1 ≤ a0))) with s3 | s3
    · simp only [W0.down, Nat.reduceEqDiff, ↓reduceIte, reduceCtorEq, Nat.reduceAdd, Nat.reduceSub, Nat.reduceMul, Nat.reduceLeDiff, Nat.reduceBEq, Nat.reduceLT, if_true, if_false, beq_self_eq_true, BEq.rfl, ne_eq, s3]
      (try simp only [WN.down, Nat.reduceAdd, if_true, if_false, ↓reduceIte, s3] at hP)
      (try simp only [WN.down, Nat.reduceAdd, if_true, if_false, ↓reduceIte, s3])
      exact hP
    · simp only [W0.down, Nat.reduceEqDiff, ↓reduceIte, reduceCtorEq, Nat.reduceAdd, Nat.reduceSub, Nat.reduceMul, Nat.reduceLeDiff, Nat.reduceBEq, Nat.reduceLT, if_true, if_false, beq_self_eq_true, BEq.rfl, ne_eq, s3]
      (try simp only [WN.down, Nat.reduceAdd, if_true, if_false, ↓reduceIte, s3] at hP)
      (try simp only [WN.down, Nat.reduceAdd, if_true, if_false, ↓reduceIte, s3])
      exact hP
  exact w_ret (r0 _ (.inl (w_fin [.bool ((decide (a1 ≤ a0)) && (decide (a0 ≤ a2)))] rfl (by cases someE h; rfl) (by decide) outs_nil)))

theorem ok_impl_Crc16 (a0 : List UInt8) (a1 : Int) (r : Int) (h : impl_Crc16 a0 a1 = some r) : OkAt Cc 30 [.str a0, .int .i64 a1] (.int .i64 r) [] := by
  refine OkAt.of_wpQ (fx := [0, 1]) Cc_ok Try.func30 rfl rfl s30 (Nat.le_of_ble_eq_true rfl) (fun Q0 r0 n0 => ?_)
  replace r0 : ∀ s, onW (Fw.Ends Cc [0, 1] [.tmp 4] (.int .i64 r) []) s → Q0 .ret s := r0
  replace n0 : ∀ s, onW (Fw.Ends Cc [0, 1] [.tmp 4] (.int .i64 r) []) s → Q0 .normal s := n0
  show wpC Cc c30 Q0 (stA [(0, .str a0), (1, .int .i64 a1)])
  refine w_sreg (w_abs [(0, .str a0), (1, .int .i64 a1)] (fun P hP => ?_) ?_)
  · simp only [W0.down, Nat.reduceEqDiff, ↓reduceIte, reduceCtorEq, Nat.reduceAdd, Nat.reduceSub, Nat.reduceMul, Nat.reduceLeDiff, Nat.reduceBEq, Nat.reduceLT, if_true, if_false, beq_self_eq_true, BEq.rfl, ne_eq]
    (try simp only [WN.down, Nat.reduceAdd, if_true, if_false, ↓reduceIte] at hP)
    (try simp only [WN.down, Nat.reduceAdd, if_true, if_false, ↓reduceIte])
    exact hP
  refine w_seq (fun Q2 n2 q2 x2 => ?_)
  obtain ⟨x1, e4, h⟩ := bindE h
  refine w_sreg (w_abs [(0, .str a0), (1, .int .i64 a1), (9, .bool (!x1))] (fun P hP => ?_) ?_)
  · simp only [W0.down, Nat.reduceEqDiff, ↓reduceIte, reduceCtorEq, Nat.reduceAdd, Nat.reduceSub, Nat.reduceMul, Nat.reduceLeDiff, Nat.reduceBEq, Nat.reduceLT, if_true, if_false, beq_self_eq_true, BEq.rfl, ne_eq]
    refine w_call0 (ok_impl_within a1 0 65535 _ e4) rfl rfl rfl rfl (.inl rfl) ?_
    simp only [W0.down, Nat.reduceEqDiff, ↓reduceIte, reduceCtorEq, Nat.reduceAdd, Nat.reduceSub, Nat.reduceMul, Nat.reduceLeDiff, Nat.reduceBEq, Nat.reduceLT, if_true, if_false, beq_self_eq_true, BEq.rfl, ne_eq]
    (try simp only [WN.down, Nat.reduceAdd, if_true, if_false, ↓reduceIte] at hP)
    (try simp only [WN.down, Nat.reduceAdd, if_true, if_false, ↓reduceIte])
    exact hP
  rcases condE h with ⟨b5, h⟩ | ⟨b5, h⟩
  · refine w_ct (congrArg AV.bool b5) ?_
    simp only [b5, Bool.not_true, Bool.not_false]
    refine w_sreg (w_abs [(4, .int .i64 0)] (fun P hP => ?_) ?_)
    · simp only [W0.down, Nat.reduceEqDiff, ↓reduceIte, reduceCtorEq, Nat.reduceAdd, Nat.reduceSub, Nat.reduceMul, Nat.reduceLeDiff, Nat.reduceBEq, Nat.reduceLT, if_true, if_false, beq_self_eq_true, BEq.rfl, ne_eq]
      (try simp only [WN.down, Nat.reduceAdd, if_true, if_false, ↓reduceIte] at hP)
      (try simp only [WN.down, Nat.reduceAdd, if_true, if_false, ↓reduceIte])
      exact hP
    exact w_ret (q2 _ (r0 _ (.inl (w_fin [.int .i64 0] rfl (by cases someE h; rfl) (by decide) outs_nil))))
  · refine w_cf (congrArg AV.bool b5) ?_
    simp only [b5, Bool.not_true, Bool.not_false]
    refine w_skip (n2 _ (.inl ?_))
    refine w_sreg (w_abs [(0, .str a0), (5, .int .i64 a1)] (fun P hP => ?_) ?_)
    · simp only [W0.down, Nat.reduceEqDiff, ↓reduceIte, reduceCtorEq, Nat.reduceAdd, Nat.reduceSub, Nat.reduceMul, Nat.reduceLeDiff, Nat.reduceBEq, Nat.reduceLT, if_true, if_false, beq_self_eq_true, BEq.rfl, ne_eq]
      (try simp only [WN.down, Nat.reduceAdd, if_true, if_false, ↓reduceIte] at hP)
      (try simp only [WN.down, Nat.reduceAdd, if_true, if_false, ↓reduceIte])
      exact hP
    refine w_seq (fun Q8 n8 q8 x8 => ?_)
    refine w_sreg (w_abs [(0, .str a0), (5, .int .i64 a1), (12, .int .i64 (a0.length : Int)), (13, .int .i64 0)] (fun P hP => ?_) ?_)
    · simp only [W0.down, Nat.reduceEqDiff, ↓reduceIte, reduceCtorEq, Nat.reduceAdd, Nat.reduceSub, Nat.reduceMul, Nat.reduceLeDiff, Nat.reduceBEq, Nat.reduceLT, if_true, if_false, beq_self_eq_true, BEq.rfl, ne_eq, tt9]
      (try simp only [WN.down, Nat.reduceAdd, if_true, if_false, ↓reduceIte, tt9] at hP)
      (try simp only [WN.down, Nat.reduceAdd, if_true, if_false, ↓reduceIte, tt9])
      exact hP
    refine w_blk (fun Q10 n10 q10 b10 x10 => ?_)
    have L16 : ∀ (n : Nat) (v5_16 : Int) (v13_16 : Int), impl_Crc16_l16 a0 n v5_16 v13_16 = some r → lpC Cc c30_17 Q10 (stA [(0, .str a0), (5, .int .i64 v5_16), (12, .int .i64 (a0.length : Int)), (13, .int .i64 v13_16)]) := by
      intro m16
      induction m16 with
      | zero => intro v5_16 v13_16 h; cases (show none = some r from h)
      | succ m16 ih16 =>
        intro v5_16 v13_16 h
        replace h : impl_Crc16_b16 (impl_Crc16_l16 a0 m16) a0 v5_16 v13_16 = some r := h
        refine lpC_step (fun Q11 n11 q11 x11 => ?_)
        refine w_sreg (w_abs [(0, .str a0), (5, .int .i64 v5_16), (12, .int .i64 (a0.length : Int)), (13, .int .i64 v13_16), (14, .bool (decide (v13_16 < (a0.length : Int))))] (fun P hP => ?_) ?_)
        · simp only [W0.down, Nat.reduceEqDiff, ↓reduceIte, reduceCtorEq, Nat.reduceAdd, Nat.reduceSub, Nat.reduceMul, Nat.reduceLeDiff, Nat.reduceBEq, Nat.reduceLT, if_true, if_false, beq_self_eq_true, BEq.rfl, ne_eq]
          (try simp only [WN.down, Nat.reduceAdd, if_true, if_false, ↓reduceIte] at hP)
          (try simp only [WN.down, Nat.reduceAdd, if_true, if_false, ↓reduceIte])
          exact hP
        refine w_seq (fun Q13 n13 q13 x13 => ?_)
        rcases condE h with ⟨b14, h⟩ | ⟨b14, h⟩
        · refine w_ct (congrArg AV.bool b14) ?_
          simp only [b14, Bool.not_true, Bool.not_false]
          refine w_skip (n13 _ (.inl ?_))
          refine w_seq (fun Q15 n15 q15 x15 => ?_)
          refine w_blk (fun Q16 n16 q16 b16 x16 => ?_)
          refine w_sreg (w_abs [(0, .str a0), (5, .int .i64 v5_16), (6, .int .i64 v13_16), (12, .int .i64 (a0.length : Int)), (13, .int .i64 v13_16)] (fun P hP => ?_) ?_)
          · simp only [W0.down, Nat.reduceEqDiff, ↓reduceIte, reduceCtorEq, Nat.reduceAdd, Nat.reduceSub, Nat.reduceMul, Nat.reduceLeDiff, Nat.reduceBEq, Nat.reduceLT, if_true, if_false, beq_self_eq_true, BEq.rfl, ne_eq]
            (try simp only [WN.down, Nat.reduceAdd, if_true, if_false, ↓reduceIte] at hP)
            (try simp only [WN.down, Nat.reduceAdd, if_true, if_false, ↓reduceIte])
            exact hP
          obtain ⟨x2, e19, h⟩ := bindE h
          refine w_sreg (w_abs [(0, .str a0), (5, .int .i64 (bitsOf .xor .i64 v5_16 (IntKind.i64.wrap ((x2.toNat : Int) * 256)))), (12, .int .i64 (a0.length : Int)), (13, .int .i64 v13_16)] (fun P hP => ?_) ?_)
          · simp only [W0.down, Nat.reduceEqDiff, ↓reduceIte, reduceCtorEq, Nat.reduceAdd, Nat.reduceSub, Nat.reduceMul, Nat.reduceLeDiff, Nat.reduceBEq, Nat.reduceLT, if_true, if_false, beq_self_eq_true, BEq.rfl, ne_eq, tt9, e19, @cvt_i' Cc 5 2 .i64 rfl rfl]
            (try simp only [WN.down, Nat.reduceAdd, if_true, if_false, ↓reduceIte, tt9, e19, @cvt_i' Cc 5 2 .i64 rfl rfl] at hP)
            (try simp only [WN.down, Nat.reduceAdd, if_true, if_false, ↓reduceIte, tt9, e19, @cvt_i' Cc 5 2 .i64 rfl rfl])
            exact hP
          refine w_sreg (w_abs [(0, .str a0), (5, .int .i64 (bitsOf .xor .i64 v5_16 (IntKind.i64.wrap ((x2.toNat : Int) * 256)))), (12, .int .i64 (a0.length : Int)), (13, .int .i64 v13_16), (23, .int .i64 0)] (fun P hP => ?_) ?_)
          · simp only [W0.down, Nat.reduceEqDiff, ↓reduceIte, reduceCtorEq, Nat.reduceAdd, Nat.reduceSub, Nat.reduceMul, Nat.reduceLeDiff, Nat.reduceBEq, Nat.reduceLT, if_true, if_false, beq_self_eq_true, BEq.rfl, ne_eq]
            (try simp only [WN.down, Nat.reduceAdd, if_true, if_false, ↓reduceIte] at hP)
            (try simp only [WN.down, Nat.reduceAdd, if_true, if_false, ↓reduceIte])
            exact hP
          refine w_blk (fun Q21 n21 q21 b21 x21 => ?_)
          have L32 : ∀ (n : Nat) (v5_32 : Int) (v13_32 : Int) (v23_32 : Int), impl_Crc16_l32 (impl_Crc16_l16 a0 m16) a0 n v5_32 v13_32 v23_32 = some r → lpC Cc c30_33 Q21 (stA [(0, .str a0), (5, .int .i64 v5_32), (12, .int .i64 (a0.length : Int)), (13, .int .i64 v13_32), (23, .int .i64 v23_32)]) := by
            intro m32
            induction m32 with
            | zero => intro v5_32 v13_32 v23_32 h; cases (show none = some r from h)
            | succ m32 ih32 =>
              intro v5_32 v13_32 v23_32 h
              replace h : impl_Crc16_b32 (impl_Crc16_l16 a0 m16) (impl_Crc16_l32 (impl_Crc16_l16 a0 m16) a0 m32) a0 v5_32 v13_32 v23_32 = some r := h
              refine lpC_step (fun Q22 n22 q22 x22 => ?_)
              refine w_sreg (w_abs [(0, .str a0), (5, .int .i64 v5_32), (12, .int .i64 (a0.length : Int)), (13, .int .i64 v13_32), (23, .int .i64 v23_32), (24, .bool (decide (v23_32 < 8)))] (fun P hP => ?_) ?_)
              · simp only [W0.down, Nat.reduceEqDiff, ↓reduceIte, reduceCtorEq, Nat.reduceAdd, Nat.reduceSub, Nat.reduceMul, Nat.reduceLeDiff, Nat.reduceBEq, Nat.reduceLT, if_true, if_false, beq_self_eq_true, BEq.rfl, ne_eq]
                (try simp only [WN.down, Nat.reduceAdd, if_true, if_false, ↓reduceIte] at hP)
                (try simp only [WN.down, Nat.reduceAdd, if_true, if_false, ↓reduceIte])
                exact hP
              refine w_seq (fun Q24 n24 q24 x24 => ?_)
              rcases condE h with ⟨b25, h⟩ | ⟨b25, h⟩
              · refine w_ct (congrArg AV.bool b25) ?_
                simp only [b25, Bool.not_true, Bool.not_false]
                refine w_skip (n24 _ (.inl ?_))
                have K48 : ∀ (v5_48 : Int) (v13_48 : Int) (v23_48 : Int), impl_Crc16_k48 (impl_Crc16_l16 a0 m16) (impl_Crc16_l32 (impl_Crc16_l16 a0 m16) a0 m32) a0 v5_48 v13_48 v23_48 = some r → wpC Cc c30_48 Q22 (stA [(0, .str a0), (5, .int .i64 v5_48), (12, .int .i64 (a0.length : Int)), (13, .int .i64 v13_48), (23, .int .i64 v23_48)]) := by
                  intro v5_48 v13_48 v23_48 h
                  refine w_reg (w_abs [(0, .str a0), (5, .int .i64 v5_48), (12, .int .i64 (a0.length : Int)), (13, .int .i64 v13_48), (23, .int .i64 (IntKind.i64.wrap (v23_48 + 1)))] (fun P hP => ?_) ?_)
                  · simp only [W0.down, Nat.reduceEqDiff, ↓reduceIte, reduceCtorEq, Nat.reduceAdd, Nat.reduceSub, Nat.reduceMul, Nat.reduceLeDiff, Nat.reduceBEq, Nat.reduceLT, if_true, if_false, beq_self_eq_true, BEq.rfl, ne_eq]
                    (try simp only [WN.down, Nat.reduceAdd, if_true, if_false, ↓reduceIte] at hP)
                    (try simp only [WN.down, Nat.reduceAdd, if_true, if_false, ↓reduceIte])
                    exact hP
                  exact n22 _ (.inr ⟨_, weak_eq rfl, ih32 v5_48 v13_48 (IntKind.i64.wrap (v23_48 + 1)) h⟩)
                refine w_seq (fun Q26 n26 q26 x26 => ?_)
                refine w_blk (fun Q28 n28 q28 b28 x28 => ?_)
                refine w_sreg (w_abs [(0, .str a0), (5, .int .i64 (IntKind.i64.wrap (v5_32 * 2))), (12, .int .i64 (a0.length : Int)), (13, .int .i64 v13_32), (23, .int .i64 v23_32)] (fun P hP => ?_) ?_)
                · simp only [W0.down, Nat.reduceEqDiff, ↓reduceIte, reduceCtorEq, Nat.reduceAdd, Nat.reduceSub, Nat.reduceMul, Nat.reduceLeDiff, Nat.reduceBEq, Nat.reduceLT, if_true, if_false, beq_self_eq_true, BEq.rfl, ne_eq]
                  (try simp only [WN.down, Nat.reduceAdd, if_true, if_false, ↓reduceIte] at hP)
                  (try simp only [WN.down, Nat.reduceAdd, if_true, if_false, ↓reduceIte])
                  exact hP
                refine w_sreg (w_abs [(0, .str a0), (5, .int .i64 (IntKind.i64.wrap (v5_32 * 2))), (12, .int .i64 (a0.length : Int)), (13, .int .i64 v13_32), (23, .int .i64 v23_32), (28, .bool (decide (65535 < (IntKind.i64.wrap (v5_32 * 2)))))] (fun P hP => ?_) ?_)
                · simp only [W0.down, Nat.reduceEqDiff, ↓reduceIte, reduceCtorEq, Nat.reduceAdd, Nat.reduceSub, Nat.reduceMul, Nat.reduceLeDiff, Nat.reduceBEq, Nat.reduceLT, if_true, if_false, beq_self_eq_true, BEq.rfl, ne_eq]
                  (try simp only [WN.down, Nat.reduceAdd, if_true, if_false, ↓reduceIte] at hP)
                  (try simp only [WN.down, Nat.reduceAdd, if_true, if_false, ↓reduceIte])
                  exact hP
                rcases condE h with ⟨b31, h⟩ | ⟨b31, h⟩
                · refine w_ct (congrArg AV.bool b31) ?_
                  simp only [b31, Bool.not_true, Bool.not_false]
                  refine w_reg (w_abs [(0, .str a0), (5, .int .i64 (bitsOf .xor .i64 (bitsOf .and .i64 (IntKind.i64.wrap (v5_32 * 2)) 65535) 4129)), (12, .int .i64 (a0.length : Int)), (13, .int .i64 v13_32), (23, .int .i64 v23_32)] (fun P hP => ?_) ?_)
                  · simp only [W0.down, Nat.reduceEqDiff, ↓reduceIte, reduceCtorEq, Nat.reduceAdd, Nat.reduceSub, Nat.reduceMul, Nat.reduceLeDiff, Nat.reduceBEq, Nat.reduceLT, if_true, if_false, beq_self_eq_true, BEq.rfl, ne_eq]
                    (try simp only [WN.down, Nat.reduceAdd, if_true, if_false, ↓reduceIte] at hP)
                    (try simp only [WN.down, Nat.reduceAdd, if_true, if_false, ↓reduceIte])
                    exact hP
                  exact n28 _ (n26 _ (.inr ⟨_, weak_eq rfl, K48 (bitsOf .xor .i64 (bitsOf .and .i64 (IntKind.i64.wrap (v5_32 * 2)) 65535) 4129) v13_32 v23_32 h⟩))
                · refine w_cf (congrArg AV.bool b31) ?_
                  simp only [b31, Bool.not_true, Bool.not_false]
                  exact w_skip (n28 _ (n26 _ (.inr ⟨_, weak_eq rfl, K48 (IntKind.i64.wrap (v5_32 * 2)) v13_32 v23_32 h⟩)))
              · refine w_cf (congrArg AV.bool b25) ?_
                simp only [b25, Bool.not_true, Bool.not_false]
                refine w_ex (x24 2 _ (x22 2 _ (b21 _ (n16 _ (n15 _ (.inl ?_))))))
                refine w_reg (w_abs [(0, .str a0), (5, .int .i64 v5_32), (12, .int .i64 (a0.length : Int)), (13, .int .i64 (IntKind.i64.wrap (v13_32 + 1)))] (fun P hP => ?_) ?_)
                · simp only [W0.down, Nat.reduceEqDiff, ↓reduceIte, reduceCtorEq, Nat.reduceAdd, Nat.reduceSub, Nat.reduceMul, Nat.reduceLeDiff, Nat.reduceBEq, Nat.reduceLT, if_true, if_false, beq_self_eq_true, BEq.rfl, ne_eq]
                  (try simp only [WN.down, Nat.reduceAdd, if_true, if_false, ↓reduceIte] at hP)
                  (try simp only [WN.down, Nat.reduceAdd, if_true, if_false, ↓reduceIte])
                  exact hP
                exact n11 _ (.inr ⟨_, weak_eq rfl, ih16 v5_32 (IntKind.i64.wrap (v13_32 + 1)) h⟩)
          obtain ⟨n, h⟩ := limE h
          exact w_loop (.inr ⟨_, weak_eq rfl, L32 n (bitsOf .xor .i64 v5_16 (IntKind.i64.wrap ((x2.toNat : Int) * 256))) v13_16 0 h⟩)
        · refine w_cf (congrArg AV.bool b14) ?_
          simp only [b14, Bool.not_true, Bool.not_false]
          refine w_ex (x13 0 _ (x11 0 _ (b10 _ (n8 _ (.inl ?_)))))
          refine w_sreg (w_abs [(4, .int .i64 v5_16)] (fun P hP => ?_) ?_)
          · simp only [W0.down, Nat.reduceEqDiff, ↓reduceIte, reduceCtorEq, Nat.reduceAdd, Nat.reduceSub, Nat.reduceMul, Nat.reduceLeDiff, Nat.reduceBEq, Nat.reduceLT, if_true, if_false, beq_self_eq_true, BEq.rfl, ne_eq]
            (try simp only [WN.down, Nat.reduceAdd, if_true, if_false, ↓reduceIte] at hP)
            (try simp only [WN.down, Nat.reduceAdd, if_true, if_false, ↓reduceIte])
            exact hP
          exact w_ret (r0 _ (.inl (w_fin [.int .i64 v5_16] rfl (by cases someE h; rfl) (by decide) outs_nil)))
    obtain ⟨n, h⟩ := limE h
    exact w_loop (.inr ⟨_, weak_eq rfl, L16 n a1 0 h⟩)

theorem ok_impl_ImageKind (a0 : List UInt8) (r : Int × Int) (h : impl_ImageKind a0 = some r) : OkAt Cc 12 [.str a0] (.tuple [.int .i64 r.1, .int .i64 r.2]) [] := by
  refine OkAt.of_wpQ (fx := [0]) Cc_ok Try.func12 rfl rfl s12 (Nat.le_of_ble_eq_true rfl) (fun Q0 r0 n0 => ?_)
  replace r0 : ∀ s, onW (Fw.Ends Cc [0] [.tmp 2, .tmp 3] (.tuple [.int .i64 r.1, .int .i64 r.2]) []) s → Q0 .ret s := r0
  replace n0 : ∀ s, onW (Fw.Ends Cc [0] [.tmp 2, .tmp 3] (.tuple [.int .i64 r.1, .int .i64 r.2]) []) s → Q0 .normal s := n0
  show wpC Cc c12 Q0 (stA [(0, .str a0)])
  refine w_sreg (w_abs [(0, .str a0)] (fun P hP => ?_) ?_)
  · simp only [W0.down, Nat.reduceEqDiff, ↓reduceIte, reduceCtorEq, Nat.reduceAdd, Nat.reduceSub, Nat.reduceMul, Nat.reduceLeDiff, Nat.reduceBEq, Nat.reduceLT, if_true, if_false, beq_self_eq_true, BEq.rfl, ne_eq]
    (try simp only [WN.down, Nat.reduceAdd, if_true, if_false, ↓reduceIte] at hP)
    (try simp only [WN.down, Nat.reduceAdd, if_true, if_false, ↓reduceIte])
    exact hP
  refine w_seq (fun Q2 n2 q2 x2 => ?_)
  refine w_sreg (w_abs [(0, .str a0), (9, .bool (decide ((a0.length : Int) < 3)))] (fun P hP => ?_) ?_)
  · simp only [W0.down, Nat.reduceEqDiff, ↓reduceIte, reduceCtorEq, Nat.reduceAdd, Nat.reduceSub, Nat.reduceMul, Nat.reduceLeDiff, Nat.reduceBEq, Nat.reduceLT, if_true, if_false, beq_self_eq_true, BEq.rfl, ne_eq, tt9]
    (try simp only [WN.down, Nat.reduceAdd, if_true, if_false, ↓reduceIte, tt9] at hP)
    (try simp only [WN.down, Nat.reduceAdd, if_true, if_false, ↓reduceIte, tt9])
    exact hP
  rcases condE h with ⟨b4, h⟩ | ⟨b4, h⟩
  · refine w_ct (congrArg AV.bool b4) ?_
    simp only [b4, Bool.not_true, Bool.not_false]
    refine w_sreg (w_abs [(2, .int .i64 0), (3, .int .i64 11)] (fun P hP => ?_) ?_)
    · simp only [W0.down, Nat.reduceEqDiff, ↓reduceIte, reduceCtorEq, Nat.reduceAdd, Nat.reduceSub, Nat.reduceMul, Nat.reduceLeDiff, Nat.reduceBEq, Nat.reduceLT, if_true, if_false, beq_self_eq_true, BEq.rfl, ne_eq]
      (try simp only [WN.down, Nat.reduceAdd, if_true, if_false, ↓reduceIte] at hP)
      (try simp only [WN.down, Nat.reduceAdd, if_true, if_false, ↓reduceIte])
      exact hP
    exact w_ret (q2 _ (r0 _ (.inl (w_fin [.int .i64 0, .int .i64 11] rfl (by cases someE h; rfl) (by decide) outs_nil))))
  · refine w_cf (congrArg AV.bool b4) ?_
    simp only [b4, Bool.not_true, Bool.not_false]
    refine w_skip (n2 _ (.inl ?_))
    obtain ⟨x1, e7, h⟩ := bindE h
    refine w_sreg (w_abs [(0, .str a0), (4, .str x1)] (fun P hP => ?_) ?_)
    · simp only [W0.down, Nat.reduceEqDiff, ↓reduceIte, reduceCtorEq, Nat.reduceAdd, Nat.reduceSub, Nat.reduceMul, Nat.reduceLeDiff, Nat.reduceBEq, Nat.reduceLT, if_true, if_false, beq_self_eq_true, BEq.rfl, ne_eq, tt9, e7]
      (try simp only [WN.down, Nat.reduceAdd, if_true, if_false, ↓reduceIte, tt9, e7] at hP)
      (try simp only [WN.down, Nat.reduceAdd, if_true, if_false, ↓reduceIte, tt9, e7])
      exact hP
    obtain ⟨x2, e9, h⟩ := bindE h
    refine w_sreg (w_abs [(0, .str a0), (5, .int .i64 x2)] (fun P hP => ?_) ?_)
    · simp only [W0.down, Nat.reduceEqDiff, ↓reduceIte, reduceCtorEq, Nat.reduceAdd, Nat.reduceSub, Nat.reduceMul, Nat.reduceLeDiff, Nat.reduceBEq, Nat.reduceLT, if_true, if_false, beq_self_eq_true, BEq.rfl, ne_eq]
      refine w_call0 (ok_impl_Crc16 x1 65535 _ e9) rfl rfl rfl rfl (.inl rfl) ?_
      simp only [W0.down, Nat.reduceEqDiff, ↓reduceIte, reduceCtorEq, Nat.reduceAdd, Nat.reduceSub, Nat.reduceMul, Nat.reduceLeDiff, Nat.reduceBEq, Nat.reduceLT, if_true, if_false, beq_self_eq_true, BEq.rfl, ne_eq]
      (try simp only [WN.down, Nat.reduceAdd, if_true, if_false, ↓reduceIte] at hP)
      (try simp only [WN.down, Nat.reduceAdd, if_true, if_false, ↓reduceIte])
      exact hP
    obtain ⟨x3, e11, h⟩ := bindE h
    refine w_sreg (w_abs [(0, .str a0), (5, .int .i64 x2), (6, .int .i64 (x3.toNat : Int))] (fun P hP => ?_) ?_)
    · simp only [W0.down, Nat.reduceEqDiff, ↓reduceIte, reduceCtorEq, Nat.reduceAdd, Nat.reduceSub, Nat.reduceMul, Nat.reduceLeDiff, Nat.reduceBEq, Nat.reduceLT, if_true, if_false, beq_self_eq_true, BEq.rfl, ne_eq, tt9, e11, @cvt_i' Cc 5 2 .i64 rfl rfl]
      (try simp only [WN.down, Nat.reduceAdd, if_true, if_false, ↓reduceIte, tt9, e11, @cvt_i' Cc 5 2 .i64 rfl rfl] at hP)
      (try simp only [WN.down, Nat.reduceAdd, if_true, if_false, ↓reduceIte, tt9, e11, @cvt_i' Cc 5 2 .i64 rfl rfl])
      exact hP
    refine w_seq (fun Q12 n12 q12 x12 => ?_)
    refine w_blk (fun Q13 n13 q13 b13 x13 => ?_)
    obtain ⟨x4, e15, h⟩ := bindE h
    obtain ⟨x5, e16, h⟩ := bindE h
    refine w_sdrw rfl (w_absd [(0, .str a0), (6, .int .i64 (x3.toNat : Int)), (20, .bool ((IntKind.i64.wrap ((IntKind.i64.wrap ((x4.toNat : Int) * 256)) + (x5.toNat : Int))) != x2))] (fun P hP => ?_) ?_)
    · simp only [W1.down, Nat.reduceEqDiff, ↓reduceIte, reduceCtorEq, Nat.reduceAdd, Nat.reduceSub, Nat.reduceMul, Nat.reduceLeDiff, Nat.reduceBEq, Nat.reduceLT, if_true, if_false, beq_self_eq_true, BEq.rfl, ne_eq, tt9, e15, @cvt_i' Cc 5 2 .i64 rfl rfl, e16]
      refine ⟨by kernel_rfl, ?_⟩
      (try simp only [WN.down, Nat.reduceAdd, if_true, if_false, ↓reduceIte, tt9, e15, @cvt_i' Cc 5 2 .i64 rfl rfl, e16] at hP)
      (try simp only [WN.down, Nat.reduceAdd, if_true, if_false, ↓reduceIte, tt9, e15, @cvt_i' Cc 5 2 .i64 rfl rfl, e16])
      exact hP
    rcases condE h with ⟨b17, h⟩ | ⟨b17, h⟩
    · refine w_ct (congrArg AV.bool b17) ?_
      simp only [b17, Bool.not_true, Bool.not_false]
      refine w_sreg (w_abs [(2, .int .i64 0), (3, .int .i64 10)] (fun P hP => ?_) ?_)
      · simp only [W0.down, Nat.reduceEqDiff, ↓reduceIte, reduceCtorEq, Nat.reduceAdd, Nat.reduceSub, Nat.reduceMul, Nat.reduceLeDiff, Nat.reduceBEq, Nat.reduceLT, if_true, if_false, beq_self_eq_true, BEq.rfl, ne_eq]
        (try simp only [WN.down, Nat.reduceAdd, if_true, if_false, ↓reduceIte] at hP)
        (try simp only [WN.down, Nat.reduceAdd, if_true, if_false, ↓reduceIte])
        exact hP
      exact w_ret (q13 _ (q12 _ (r0 _ (.inl (w_fin [.int .i64 0, .int .i64 10] rfl (by cases someE h; rfl) (by decide) outs_nil)))))
    · refine w_cf (congrArg AV.bool b17) ?_
      simp only [b17, Bool.not_true, Bool.not_false]
      obtain ⟨x6, e20, h⟩ := bindE h
      refine w_sreg (w_abs [(6, .int .i64 (x3.toNat : Int)), (37, .bool ((!x6) || (decide (6000 < (a0.length : Int)))))] (fun P hP => ?_) ?_)
      · rcases Bool.eq_false_or_eq_true ((!x6)) with s21 | s21
        · simp only [W0.down, Nat.reduceEqDiff, ↓reduceIte, reduceCtorEq, Nat.reduceAdd, Nat.reduceSub, Nat.reduceMul, Nat.reduceLeDiff, Nat.reduceBEq, Nat.reduceLT, if_true, if_false, beq_self_eq_true, BEq.rfl, ne_eq, tt9, s21]
          refine w_call0 (ok_impl_within (x3.toNat : Int) 1 3 _ e20) rfl rfl rfl rfl (.inl rfl) ?_
          simp only [W0.down, Nat.reduceEqDiff, ↓reduceIte, reduceCtorEq, Nat.reduceAdd, Nat.reduceSub, Nat.reduceMul, Nat.reduceLeDiff, Nat.reduceBEq, Nat.reduceLT, if_true, if_false, beq_self_eq_true, BEq.rfl, ne_eq, tt9, s21]
          (try simp only [WN.down, Nat.reduceAdd, if_true, if_false, ↓reduceIte, tt9, s21] at hP)
          (try simp only [WN.down, Nat.reduceAdd, if_true, if_false, ↓reduceIte, tt9, s21])
          exact hP
        · simp only [W0.down, Nat.reduceEqDiff, ↓reduceIte, reduceCtorEq, Nat.reduceAdd, Nat.reduceSub, Nat.reduceMul, Nat.reduceLeDiff, Nat.reduceBEq, Nat.reduceLT, if_true, if_false, beq_self_eq_true, BEq.rfl, ne_eq, tt9, s21]
          refine w_call0 (ok_impl_within (x3.toNat : Int) 1 3 _ e20) rfl rfl rfl rfl (.inl rfl) ?_
          simp only [W0.down, Nat.reduceEqDiff, ↓reduceIte, reduceCtorEq, Nat.reduceAdd, Nat.reduceSub, Nat.reduceMul, Nat.reduceLeDiff, Nat.reduceBEq, Nat.reduceLT, if_true, if_false, beq_self_eq_true, BEq.rfl, ne_eq, tt9, s21]
          (try simp only [WN.down, Nat.reduceAdd, if_true, if_false, ↓reduceIte, tt9, s21] at hP)
          (try simp only [WN.down, Nat.reduceAdd, if_true, if_false, ↓reduceIte, tt9, s21])
          exact hP
      rcases condE h with ⟨b22, h⟩ | ⟨b22, h⟩
      · refine w_ct (congrArg AV.bool b22) ?_
        simp only [b22, Bool.not_true, Bool.not_false]
        refine w_sreg (w_abs [(2, .int .i64 0), (3, .int .i64 9)] (fun P hP => ?_) ?_)
        · simp only [W0.down, Nat.reduceEqDiff, ↓reduceIte, reduceCtorEq, Nat.reduceAdd, Nat.reduceSub, Nat.reduceMul, Nat.reduceLeDiff, Nat.reduceBEq, Nat.reduceLT, if_true, if_false, beq_self_eq_true, BEq.rfl, ne_eq]
          (try simp only [WN.down, Nat.reduceAdd, if_true, if_false, ↓reduceIte] at hP)
          (try simp only [WN.down, Nat.reduceAdd, if_true, if_false, ↓reduceIte])
          exact hP
        exact w_ret (q13 _ (q12 _ (r0 _ (.inl (w_fin [.int .i64 0, .int .i64 9] rfl (by cases someE h; rfl) (by decide) outs_nil)))))
      · refine w_cf (congrArg AV.bool b22) ?_
        simp only [b22, Bool.not_true, Bool.not_false]
        refine w_skip (n13 _ (n12 _ (.inl ?_)))
        refine w_sreg (w_abs [(2, .int .i64 (x3.toNat : Int)), (3, .int .i64 0)] (fun P hP => ?_) ?_)
        · simp only [W0.down, Nat.reduceEqDiff, ↓reduceIte, reduceCtorEq, Nat.reduceAdd, Nat.reduceSub, Nat.reduceMul, Nat.reduceLeDiff, Nat.reduceBEq, Nat.reduceLT, if_true, if_false, beq_self_eq_true, BEq.rfl, ne_eq]
          (try simp only [WN.down, Nat.reduceAdd, if_true, if_false, ↓reduceIte] at hP)
          (try simp only [WN.down, Nat.reduceAdd, if_true, if_false, ↓reduceIte])
          exact hP
        exact w_ret (r0 _ (.inl (w_fin [.int .i64 (x3.toNat : Int), .int .i64 0] rfl (by cases someE h; rfl) (by decide) outs_nil)))

theorem ok_impl_isImage (a0 : List UInt8) (r : Bool) (h : impl_isImage a0 = some r) : OkAt Cc 36 [.str a0] (.bool r) [] := by
  refine OkAt.of_wpQ (fx := [0]) Cc_ok Try.func36 rfl rfl s36 (Nat.le_of_ble_eq_true rfl) (fun Q0 r0 n0 => ?_)
  replace r0 : ∀ s, onW (Fw.Ends Cc [0] [.tmp 2] (.bool r) []) s → Q0 .ret s := r0
  replace n0 : ∀ s, onW (Fw.Ends Cc [0] [.tmp 2] (.bool r) []) s → Q0 .normal s := n0
  show wpC Cc c36 Q0 (stA [(0, .str a0)])
  refine w_sreg (w_abs [(0, .str a0)] (fun P hP => ?_) ?_)
  · simp only [W0.down, Nat.reduceEqDiff, ↓reduceIte, reduceCtorEq, Nat.reduceAdd, Nat.reduceSub, Nat.reduceMul, Nat.reduceLeDiff, Nat.reduceBEq, Nat.reduceLT, if_true, if_false, beq_self_eq_true, BEq.rfl, ne_eq]
    (try simp only [WN.down, Nat.reduceAdd, if_true, if_false, ↓reduceIte] at hP)
    (try simp only [WN.down, Nat.reduceAdd, if_true, if_false, ↓reduceIte])
    exact hP
  obtain ⟨x1, e3, h⟩ := bindE h
  refine w_sreg (w_abs [(4, .int .i64 x1.2)] (fun P hP => ?_) ?_)
  · simp only [W0.down, Nat.reduceEqDiff, ↓reduceIte, reduceCtorEq, Nat.reduceAdd, Nat.reduceSub, Nat.reduceMul, Nat.reduceLeDiff, Nat.reduceBEq, Nat.reduceLT, if_true, if_false, beq_self_eq_true, BEq.rfl, ne_eq]
    refine w_call0 (ok_impl_ImageKind a0 _ e3) rfl rfl rfl rfl (.inl rfl) ?_
    simp only [W0.down, Nat.reduceEqDiff, ↓reduceIte, reduceCtorEq, Nat.reduceAdd, Nat.reduceSub, Nat.reduceMul, Nat.reduceLeDiff, Nat.reduceBEq, Nat.reduceLT, if_true, if_false, beq_self_eq_true, BEq.rfl, ne_eq]
    (try simp only [WN.down, Nat.reduceAdd, if_true, if_false, ↓reduceIte] at hP)
    (try simp only [WN.down, Nat.reduceAdd, if_true, if_false, ↓reduceIte])
    exact hP
  refine w_sreg (w_abs [(2, .bool (x1.2 == 0))] (fun P hP => ?_) ?_)
  · simp only [W0.down, Nat.reduceEqDiff, ↓reduceIte, reduceCtorEq, Nat.reduceAdd, Nat.reduceSub, Nat.reduceMul, Nat.reduceLeDiff, Nat.reduceBEq, Nat.reduceLT, if_true, if_false, beq_self_eq_true, BEq.rfl, ne_eq]
    (try simp only [WN.down, Nat.reduceAdd, if_true, if_false, ↓reduceIte] at hP)
    (try simp only [WN.down, Nat.reduceAdd, if_true, if_false, ↓reduceIte])
    exact hP
  exact w_ret (r0 _ (.inl (w_fin [.bool (x1.2 == 0)] rfl (by cases someE h; rfl) (by decide) outs_nil)))

theorem ok_impl_ValidItems (a0 : List impl_Item) (r : Bool) (h : impl_ValidItems a0 = some r) : OkAt Cc 16 [.slice (a0.map e_impl_Item)] (.bool r) [] := by
  refine OkAt.of_wpQ (fx := [0]) Cc_ok Try.func16 rfl rfl s16 (Nat.le_of_ble_eq_true rfl) (fun Q0 r0 n0 => ?_)
  replace r0 : ∀ s, onW (Fw.Ends Cc [0] [.tmp 2] (.bool r) []) s → Q0 .ret s := r0
  replace n0 : ∀ s, onW (Fw.Ends Cc [0] [.tmp 2] (.bool r) []) s → Q0 .normal s := n0
  show wpC Cc c16 Q0 (stA [(0, .slice (a0.map e_impl_Item))])
  refine w_sreg (w_abs [(0, .slice (a0.map e_impl_Item))] (fun P hP => ?_) ?_)
  · simp only [W0.down, Nat.reduceEqDiff, ↓reduceIte, reduceCtorEq, Nat.reduceAdd, Nat.reduceSub, Nat.reduceMul, Nat.reduceLeDiff, Nat.reduceBEq, Nat.reduceLT, if_true, if_false, beq_self_eq_true, BEq.rfl, ne_eq, e_impl_Item]
    (try simp only [WN.down, Nat.reduceAdd, if_true, if_false, ↓reduceIte, e_impl_Item] at hP)
    (try simp only [WN.down, Nat.reduceAdd, if_true, if_false, ↓reduceIte, e_impl_Item])
    exact hP
  refine w_seq (fun Q2 n2 q2 x2 => ?_)
  refine w_sreg (w_abs [(0, .slice (a0.map e_impl_Item)), (5, .slice (a0.map e_impl_Item)), (6, .int .i64 (a0.length : Int)), (7, .int .i64 0)] (fun P hP => ?_) ?_)
  · simp only [W0.down, Nat.reduceEqDiff, ↓reduceIte, reduceCtorEq, Nat.reduceAdd, Nat.reduceSub, Nat.reduceMul, Nat.reduceLeDiff, Nat.reduceBEq, Nat.reduceLT, if_true, if_false, beq_self_eq_true, BEq.rfl, ne_eq, tt9, tt30, tt52, e_impl_Item]
    (try simp only [WN.down, Nat.reduceAdd, if_true, if_false, ↓reduceIte, tt9, tt30, tt52, e_impl_Item] at hP)
    (try simp only [WN.down, Nat.reduceAdd, if_true, if_false, ↓reduceIte, tt9, tt30, tt52, e_impl_Item])
    exact hP
  refine w_blk (fun Q4 n4 q4 b4 x4 => ?_)
  have L6 : ∀ (n : Nat) (v7_6 : Int), impl_ValidItems_l6 a0 n v7_6 = some r → lpC Cc c16_7 Q4 (stA [(0, .slice (a0.map e_impl_Item)), (5, .slice (a0.map e_impl_Item)), (6, .int .i64 (a0.length : Int)), (7, .int .i64 v7_6)]) := by
    intro m6
    induction m6 with
    | zero => intro v7_6 h; cases (show none = some r from h)
    | succ m6 ih6 =>
      intro v7_6 h
      replace h : impl_ValidItems_b6 (impl_ValidItems_l6 a0 m6) a0 v7_6 = some r := h
      refine lpC_step (fun Q5 n5 q5 x5 => ?_)
      refine w_sreg (w_abs [(0, .slice (a0.map e_impl_Item)), (5, .slice (a0.map e_impl_Item)), (6, .int .i64 (a0.length : Int)), (7, .int .i64 v7_6), (8, .bool (decide (v7_6 < (a0.length : Int))))] (fun P hP => ?_) ?_)
      · simp only [W0.down, Nat.reduceEqDiff, ↓reduceIte, reduceCtorEq, Nat.reduceAdd, Nat.reduceSub, Nat.reduceMul, Nat.reduceLeDiff, Nat.reduceBEq, Nat.reduceLT, if_true, if_false, beq_self_eq_true, BEq.rfl, ne_eq, e_impl_Item]
        (try simp only [WN.down, Nat.reduceAdd, if_true, if_false, ↓reduceIte, e_impl_Item] at hP)
        (try simp only [WN.down, Nat.reduceAdd, if_true, if_false, ↓reduceIte, e_impl_Item])
        exact hP
      refine w_seq (fun Q7 n7 q7 x7 => ?_)
      rcases condE h with ⟨b8, h⟩ | ⟨b8, h⟩
      · refine w_ct (congrArg AV.bool b8) ?_
        simp only [b8, Bool.not_true, Bool.not_false]
        refine w_skip (n7 _ (.inl ?_))
        refine w_seq (fun Q9 n9 q9 x9 => ?_)
        refine w_blk (fun Q10 n10 q10 b10 x10 => ?_)
        obtain ⟨x1, e12, h⟩ := bindE h
        refine w_sreg (w_abs [(0, .slice (a0.map e_impl_Item)), (3, .int .i64 v7_6), (4, .ubox (e_impl_Item x1)), (5, .slice (a0.map e_impl_Item)), (6, .int .i64 (a0.length : Int)), (7, .int .i64 v7_6)] (fun P hP => ?_) ?_)
        · simp only [W0.down, Nat.reduceEqDiff, ↓reduceIte, reduceCtorEq, Nat.reduceAdd, Nat.reduceSub, Nat.reduceMul, Nat.reduceLeDiff, Nat.reduceBEq, Nat.reduceLT, if_true, if_false, beq_self_eq_true, BEq.rfl, ne_eq, tt9, tt30, tt52, e_impl_Item, e12]
          (try simp only [WN.down, Nat.reduceAdd, if_true, if_false, ↓reduceIte, tt9, tt30, tt52, e_impl_Item, e12] at hP)
          (try simp only [WN.down, Nat.reduceAdd, if_true, if_false, ↓reduceIte, tt9, tt30, tt52, e_impl_Item, e12])
          exact hP
        obtain ⟨x2, e14, h⟩ := bindE h
        rcases condE h with ⟨b15, h⟩ | ⟨b15, h⟩
        · refine w_sdrw rfl (w_absd [(0, .slice (a0.map e_impl_Item)), (5, .slice (a0.map e_impl_Item)), (6, .int .i64 (a0.length : Int)), (7, .int .i64 v7_6), (36, .bool true)] (fun P hP => ?_) ?_)
          · simp only [W1.down, Nat.reduceEqDiff, ↓reduceIte, reduceCtorEq, Nat.reduceAdd, Nat.reduceSub, Nat.reduceMul, Nat.reduceLeDiff, Nat.reduceBEq, Nat.reduceLT, if_true, if_false, beq_self_eq_true, BEq.rfl, ne_eq, tt9, tt30, tt52, e_impl_Item, b15]
            refine w_call1 (ok_impl_IsName x1.Name _ e14) rfl rfl rfl rfl (.inl rfl) ?_
            simp only [W1.down, Nat.reduceEqDiff, ↓reduceIte, reduceCtorEq, Nat.reduceAdd, Nat.reduceSub, Nat.reduceMul, Nat.reduceLeDiff, Nat.reduceBEq, Nat.reduceLT, if_true, if_false, beq_self_eq_true, BEq.rfl, ne_eq, tt9, tt30, tt52, e_impl_Item, b15]
            refine ⟨by kernel_rfl, ?_⟩
            (try simp only [WN.down, Nat.reduceAdd, if_true, if_false, ↓reduceIte, tt9, tt30, tt52, e_impl_Item, b15] at hP)
            (try simp only [WN.down, Nat.reduceAdd, if_true, if_false, ↓reduceIte, tt9, tt30, tt52, e_impl_Item, b15])
            exact hP
          refine w_ct rfl ?_
          refine w_sreg (w_abs [(2, .bool false)] (fun P hP => ?_) ?_)
          · simp only [W0.down, Nat.reduceEqDiff, ↓reduceIte, reduceCtorEq, Nat.reduceAdd, Nat.reduceSub, Nat.reduceMul, Nat.reduceLeDiff, Nat.reduceBEq, Nat.reduceLT, if_true, if_false, beq_self_eq_true, BEq.rfl, ne_eq, e_impl_Item]
            (try simp only [WN.down, Nat.reduceAdd, if_true, if_false, ↓reduceIte, e_impl_Item] at hP)
            (try simp only [WN.down, Nat.reduceAdd, if_true, if_false, ↓reduceIte, e_impl_Item])
            exact hP
          exact w_ret (q10 _ (q9 _ (q5 _ (q4 _ (q2 _ (r0 _ (.inl (w_fin [.bool false] rfl (by cases someE h; rfl) (by decide) outs_nil))))))))
        · obtain ⟨x3, e17, h⟩ := bindE h
          rcases condE h with ⟨b18, h⟩ | ⟨b18, h⟩
          · refine w_sdrw rfl (w_absd [(0, .slice (a0.map e_impl_Item)), (5, .slice (a0.map e_impl_Item)), (6, .int .i64 (a0.length : Int)), (7, .int .i64 v7_6), (36, .bool true)] (fun P hP => ?_) ?_)
            · simp only [W1.down, Nat.reduceEqDiff, ↓reduceIte, reduceCtorEq, Nat.reduceAdd, Nat.reduceSub, Nat.reduceMul, Nat.reduceLeDiff, Nat.reduceBEq, Nat.reduceLT, if_true, if_false, beq_self_eq_true, BEq.rfl, ne_eq, tt9, tt30, tt52, e_impl_Item, b15, b18]
              refine w_call1 (ok_impl_IsName x1.Name _ e14) rfl rfl rfl rfl (.inl rfl) ?_
              simp only [W1.down, Nat.reduceEqDiff, ↓reduceIte, reduceCtorEq, Nat.reduceAdd, Nat.reduceSub, Nat.reduceMul, Nat.reduceLeDiff, Nat.reduceBEq, Nat.reduceLT, if_true, if_false, beq_self_eq_true, BEq.rfl, ne_eq, tt9, tt30, tt52, e_impl_Item, b15, b18]
              refine w_callg1 (ok_impl_isImage x1.Image _ e17) rfl rfl rfl rfl (.inl rfl) ?_
              simp only [W1.down, Nat.reduceEqDiff, ↓reduceIte, reduceCtorEq, Nat.reduceAdd, Nat.reduceSub, Nat.reduceMul, Nat.reduceLeDiff, Nat.reduceBEq, Nat.reduceLT, if_true, if_false, beq_self_eq_true, BEq.rfl, ne_eq, tt9, tt30, tt52, e_impl_Item, b15, b18]
              refine ⟨by kernel_rfl, ?_⟩
              (try simp only [WN.down, Nat.reduceAdd, if_true, if_false, ↓reduceIte, tt9, tt30, tt52, e_impl_Item, b15, b18] at hP)
              (try simp only [WN.down, Nat.reduceAdd, if_true, if_false, ↓reduceIte, tt9, tt30, tt52, e_impl_Item, b15, b18])
              exact hP
            refine w_ct rfl ?_
            refine w_sreg (w_abs [(2, .bool false)] (fun P hP => ?_) ?_)
            · simp only [W0.down, Nat.reduceEqDiff, ↓reduceIte, reduceCtorEq, Nat.reduceAdd, Nat.reduceSub, Nat.reduceMul, Nat.reduceLeDiff, Nat.reduceBEq, Nat.reduceLT, if_true, if_false, beq_self_eq_true, BEq.rfl, ne_eq, e_impl_Item]
              (try simp only [WN.down, Nat.reduceAdd, if_true, if_false, ↓reduceIte, e_impl_Item] at hP)
              (try simp only [WN.down, Nat.reduceAdd, if_true, if_false, ↓reduceIte, e_impl_Item])
              exact hP
            exact w_ret (q10 _ (q9 _ (q5 _ (q4 _ (q2 _ (r0 _ (.inl (w_fin [.bool false] rfl (by cases someE h; rfl) (by decide) outs_nil))))))))
          · rcases condE h with ⟨b20, h⟩ | ⟨b20, h⟩
            · obtain ⟨x4, e21, h⟩ := bindE h
              refine w_sdrw rfl (w_absd [(0, .slice (a0.map e_impl_Item)), (5, .slice (a0.map e_impl_Item)), (6, .int .i64 (a0.length : Int)), (7, .int .i64 v7_6), (36, .bool (Op.bytesLess x1.Name x4.Name || x1.Name == x4.Name))] (fun P hP => ?_) ?_)
              · simp only [W1.down, Nat.reduceEqDiff, ↓reduceIte, reduceCtorEq, Nat.reduceAdd, Nat.reduceSub, Nat.reduceMul, Nat.reduceLeDiff, Nat.reduceBEq, Nat.reduceLT, if_true, if_false, beq_self_eq_true, BEq.rfl, ne_eq, tt9, tt30, tt52, e_impl_Item, b15, b18, b20, e21]
                refine w_call1 (ok_impl_IsName x1.Name _ e14) rfl rfl rfl rfl (.inl rfl) ?_
                simp only [W1.down, Nat.reduceEqDiff, ↓reduceIte, reduceCtorEq, Nat.reduceAdd, Nat.reduceSub, Nat.reduceMul, Nat.reduceLeDiff, Nat.reduceBEq, Nat.reduceLT, if_true, if_false, beq_self_eq_true, BEq.rfl, ne_eq, tt9, tt30, tt52, e_impl_Item, b15, b18, b20, e21]
                refine w_callg1 (ok_impl_isImage x1.Image _ e17) rfl rfl rfl rfl (.inl rfl) ?_
                simp only [W1.down, Nat.reduceEqDiff, ↓reduceIte, reduceCtorEq, Nat.reduceAdd, Nat.reduceSub, Nat.reduceMul, Nat.reduceLeDiff, Nat.reduceBEq, Nat.reduceLT, if_true, if_false, beq_self_eq_true, BEq.rfl, ne_eq, tt9, tt30, tt52, e_impl_Item, b15, b18, b20, e21]
                refine ⟨by kernel_rfl, ?_⟩
                (try simp only [WN.down, Nat.reduceAdd, if_true, if_false, ↓reduceIte, tt9, tt30, tt52, e_impl_Item, b15, b18, b20, e21] at hP)
                (try simp only [WN.down, Nat.reduceAdd, if_true, if_false, ↓reduceIte, tt9, tt30, tt52, e_impl_Item, b15, b18, b20, e21])
                exact hP
              rcases condE h with ⟨b22, h⟩ | ⟨b22, h⟩
              · refine w_ct (congrArg AV.bool b22) ?_
                simp only [b22, Bool.not_true, Bool.not_false]
                refine w_sreg (w_abs [(2, .bool false)] (fun P hP => ?_) ?_)
                · simp only [W0.down, Nat.reduceEqDiff, ↓reduceIte, reduceCtorEq, Nat.reduceAdd, Nat.reduceSub, Nat.reduceMul, Nat.reduceLeDiff, Nat.reduceBEq, Nat.reduceLT, if_true, if_false, beq_self_eq_true, BEq.rfl, ne_eq, e_impl_Item]
                  (try simp only [WN.down, Nat.reduceAdd, if_true, if_false, ↓reduceIte, e_impl_Item] at hP)
                  (try simp only [WN.down, Nat.reduceAdd, if_true, if_false, ↓reduceIte, e_impl_Item])
                  exact hP
                exact w_ret (q10 _ (q9 _ (q5 _ (q4 _ (q2 _ (r0 _ (.inl (w_fin [.bool false] rfl (by cases someE h; rfl) (by decide) outs_nil))))))))
              · refine w_cf (congrArg AV.bool b22) ?_
                simp only [b22, Bool.not_true, Bool.not_false]
                refine w_skip (n10 _ (n9 _ (.inl ?_)))
                refine w_reg (w_abs [(0, .slice (a0.map e_impl_Item)), (5, .slice (a0.map e_impl_Item)), (6, .int .i64 (a0.length : Int)), (7, .int .i64 (IntKind.i64.wrap (v7_6 + 1)))] (fun P hP => ?_) ?_)
                · simp only [W0.down, Nat.reduceEqDiff, ↓reduceIte, reduceCtorEq, Nat.reduceAdd, Nat.reduceSub, Nat.reduceMul, Nat.reduceLeDiff, Nat.reduceBEq, Nat.reduceLT, if_true, if_false, beq_self_eq_true, BEq.rfl, ne_eq, e_impl_Item]
                  (try simp only [WN.down, Nat.reduceAdd, if_true, if_false, ↓reduceIte, e_impl_Item] at hP)
                  (try simp only [WN.down, Nat.reduceAdd, if_true, if_false, ↓reduceIte, e_impl_Item])
                  exact hP
                exact n5 _ (.inr ⟨_, weak_eq rfl, ih6 (IntKind.i64.wrap (v7_6 + 1)) h⟩)
            · refine w_sdrw rfl (w_absd [(0, .slice (a0.map e_impl_Item)), (5, .slice (a0.map e_impl_Item)), (6, .int .i64 (a0.length : Int)), (7, .int .i64 v7_6), (36, .bool false)] (fun P hP => ?_) ?_)
              · simp only [W1.down, Nat.reduceEqDiff, ↓reduceIte, reduceCtorEq, Nat.reduceAdd, Nat.reduceSub, Nat.reduceMul, Nat.reduceLeDiff, Nat.reduceBEq, Nat.reduceLT, if_true, if_false, beq_self_eq_true, BEq.rfl, ne_eq, tt9, tt30, tt52, e_impl_Item, b15, b18, b20]
                refine w_call1 (ok_impl_IsName x1.Name _ e14) rfl rfl rfl rfl (.inl rfl) ?_
                simp only [W1.down, Nat.reduceEqDiff, ↓reduceIte, reduceCtorEq, Nat.reduceAdd, Nat.reduceSub, Nat.reduceMul, Nat.reduceLeDiff, Nat.reduceBEq, Nat.reduceLT, if_true, if_false, beq_self_eq_true, BEq.rfl, ne_eq, tt9, tt30, tt52, e_impl_Item, b15, b18, b20]
                refine w_callg1 (ok_impl_isImage x1.Image _ e17) rfl rfl rfl rfl (.inl rfl) ?_
                simp only [W1.down, Nat.reduceEqDiff, ↓reduceIte, reduceCtorEq, Nat.reduceAdd, Nat.reduceSub, Nat.reduceMul, Nat.reduceLeDiff, Nat.reduceBEq, Nat.reduceLT, if_true, if_false, beq_self_eq_true, BEq.rfl, ne_eq, tt9, tt30, tt52, e_impl_Item, b15, b18, b20]
                refine ⟨by kernel_rfl, ?_⟩
                (try simp only [WN.down, Nat.reduceAdd, if_true, if_false, ↓reduceIte, tt9, tt30, tt52, e_impl_Item, b15, b18, b20] at hP)
                (try simp only [WN.down, Nat.reduceAdd, if_true, if_false, ↓reduceIte, tt9, tt30, tt52, e_impl_Item, b15, b18, b20])
                exact hP
              refine w_cf rfl ?_
              refine w_skip (n10 _ (n9 _ (.inl ?_)))
              refine w_reg (w_abs [(0, .slice (a0.map e_impl_Item)), (5, .slice (a0.map e_impl_Item)), (6, .int .i64 (a0.length : Int)), (7, .int .i64 (IntKind.i64.wrap (v7_6 + 1)))] (fun P hP => ?_) ?_)
              · simp only [W0.down, Nat.reduceEqDiff, ↓reduceIte, reduceCtorEq, Nat.reduceAdd, Nat.reduceSub, Nat.reduceMul, Nat.reduceLeDiff, Nat.reduceBEq, Nat.reduceLT, if_true, if_false, beq_self_eq_true, BEq.rfl, ne_eq, e_impl_Item]
                (try simp only [WN.down, Nat.reduceAdd, if_true, if_false, ↓reduceIte, e_impl_Item] at hP)
                (try simp only [WN.down, Nat.reduceAdd, if_true, if_false, ↓reduceIte, e_impl_Item])
                exact hP
              exact n5 _ (.inr ⟨_, weak_eq rfl, ih6 (IntKind.i64.wrap (v7_6 + 1)) h⟩)
      · refine w_cf (congrArg AV.bool b8) ?_
        simp only [b8, Bool.not_true, Bool.not_false]
        refine w_ex (x7 0 _ (x5 0 _ (b4 _ (n2 _ (.inl ?_)))))
        refine w_sreg (w_abs [(2, .bool (decide ((a0.length : Int) ≤ 16)))] (fun P hP => ?_) ?_)
        · simp only [W0.down, Nat.reduceEqDiff, ↓reduceIte, reduceCtorEq, Nat.reduceAdd, Nat.reduceSub, Nat.reduceMul, Nat.reduceLeDiff, Nat.reduceBEq, Nat.reduceLT, if_true, if_false, beq_self_eq_true, BEq.rfl, ne_eq, tt9, tt30, tt52, e_impl_Item]
          (try simp only [WN.down, Nat.reduceAdd, if_true, if_false, ↓reduceIte, tt9, tt30, tt52, e_impl_Item] at hP)
          (try simp only [WN.down, Nat.reduceAdd, if_true, if_false, ↓reduceIte, tt9, tt30, tt52, e_impl_Item])
          exact hP
        exact w_ret (r0 _ (.inl (w_fin [.bool (decide ((a0.length : Int) ≤ 16))] rfl (by cases someE h; rfl) (by decide) outs_nil)))
  obtain ⟨n, h⟩ := limE h
  exact w_loop (.inr ⟨_, weak_eq rfl, L6 n 0 h⟩)

theorem cmpS_eq : ∀ a b, cmpS a b = Lib.compareBytes a b
  | [], [] => rfl
  | [], _ :: _ => rfl
  | _ :: _, [] => rfl
  | a :: x, b :: y => by simp only [cmpS, Lib.compareBytes, cmpS_eq x y]
theorem ok_bytealg_cmpstring (a0 : List UInt8) (a1 : List UInt8) (r : Int) (h : bytealg_cmpstring a0 a1 = some r) : OkAt Cc 77 [.str a0, .str a1] (.int .i64 r) [] := by
  rw [show r = Lib.compareBytes a0 a1 from (someE h).trans (cmpS_eq a0 a1)]
  exact ext_cmp Try.func77 (by kernel_rfl) (by kernel_rfl) (by kernel_rfl) (by kernel_rfl) a0 a1

theorem ok_internal_bytealg_CompareString (a0 : List UInt8) (a1 : List UInt8) (r : Int) (h : internal_bytealg_CompareString a0 a1 = some r) : OkAt Cc 72 [.str a0, .str a1] (.int .i64 r) [] := by
  refine OkAt.of_wpQ (fx := [0, 1]) Cc_ok Try.func72 rfl rfl s72 (Nat.le_of_ble_eq_true rfl) (fun Q0 r0 n0 => ?_)
  replace r0 : ∀ s, onW (Fw.Ends Cc [0, 1] [.tmp 4] (.int .i64 r) []) s → Q0 .ret s := r0
  replace n0 : ∀ s, onW (Fw.Ends Cc [0, 1] [.tmp 4] (.int .i64 r) []) s → Q0 .normal s := n0
  show wpC Cc c72 Q0 (stA [(0, .str a0), (1, .str a1)])
  refine w_sreg (w_abs [(0, .str a0), (1, .str a1)] (fun P hP => ?_) ?_)
  · simp only [W0.down, Nat.reduceEqDiff, ↓reduceIte, reduceCtorEq, Nat.reduceAdd, Nat.reduceSub, Nat.reduceMul, Nat.reduceLeDiff, Nat.reduceBEq, Nat.reduceLT, if_true, if_false, beq_self_eq_true, BEq.rfl, ne_eq]
    (try simp only [WN.down, Nat.reduceAdd, if_true, if_false, ↓reduceIte] at hP)
    (try simp only [WN.down, Nat.reduceAdd, if_true, if_false, ↓reduceIte])
    exact hP
  obtain ⟨x1, e3, h⟩ := bindE h
  refine w_sreg (w_abs [(4, .int .i64 x1)] (fun P hP => ?_) ?_)
  · simp only [W0.down, Nat.reduceEqDiff, ↓reduceIte, reduceCtorEq, Nat.reduceAdd, Nat.reduceSub, Nat.reduceMul, Nat.reduceLeDiff, Nat.reduceBEq, Nat.reduceLT, if_true, if_false, beq_self_eq_true, BEq.rfl, ne_eq]
    refine w_call0 (ok_bytealg_cmpstring a0 a1 _ e3) rfl rfl rfl rfl (.inl rfl) ?_
    simp only [W0.down, Nat.reduceEqDiff, ↓reduceIte, reduceCtorEq, Nat.reduceAdd, Nat.reduceSub, Nat.reduceMul, Nat.reduceLeDiff, Nat.reduceBEq, Nat.reduceLT, if_true, if_false, beq_self_eq_true, BEq.rfl, ne_eq]
    (try simp only [WN.down, Nat.reduceAdd, if_true, if_false, ↓reduceIte] at hP)
    (try simp only [WN.down, Nat.reduceAdd, if_true, if_false, ↓reduceIte])
    exact hP
  exact w_ret (r0 _ (.inl (w_fin [.int .i64 x1] rfl (by cases someE h; rfl) (by decide) outs_nil)))

theorem ok_strings_Compare (a0 : List UInt8) (a1 : List UInt8) (r : Int) (h : strings_Compare a0 a1 = some r) : OkAt Cc 55 [.str a0, .str a1] (.int .i64 r) [] := by
  refine OkAt.of_wpQ (fx := [0, 1]) Cc_ok Try.func55 rfl rfl s55 (Nat.le_of_ble_eq_true rfl) (fun Q0 r0 n0 => ?_)
  replace r0 : ∀ s, onW (Fw.Ends Cc [0, 1] [.tmp 4] (.int .i64 r) []) s → Q0 .ret s := r0
  replace n0 : ∀ s, onW (Fw.Ends Cc [0, 1] [.tmp 4] (.int .i64 r) []) s → Q0 .normal s := n0
  show wpC Cc c55 Q0 (stA [(0, .str a0), (1, .str a1)])
  refine w_sreg (w_abs [(0, .str a0), (1, .str a1)] (fun P hP => ?_) ?_)
  · simp only [W0.down, Nat.reduceEqDiff, ↓reduceIte, reduceCtorEq, Nat.reduceAdd, Nat.reduceSub, Nat.reduceMul, Nat.reduceLeDiff, Nat.reduceBEq, Nat.reduceLT, if_true, if_false, beq_self_eq_true, BEq.rfl, ne_eq]
    (try simp only [WN.down, Nat.reduceAdd, if_true, if_false, ↓reduceIte] at hP)
    (try simp only [WN.down, Nat.reduceAdd, if_true, if_false, ↓reduceIte])
    exact hP
  obtain ⟨x1, e3, h⟩ := bindE h
  refine w_sreg (w_abs [(4, .int .i64 x1)] (fun P hP => ?_) ?_)
  · simp only [W0.down, Nat.reduceEqDiff, ↓reduceIte, reduceCtorEq, Nat.reduceAdd, Nat.reduceSub, Nat.reduceMul, Nat.reduceLeDiff, Nat.reduceBEq, Nat.reduceLT, if_true, if_false, beq_self_eq_true, BEq.rfl, ne_eq]
    refine w_call0 (ok_internal_bytealg_CompareString a0 a1 _ e3) rfl rfl rfl rfl (.inl rfl) ?_
    simp only [W0.down, Nat.reduceEqDiff, ↓reduceIte, reduceCtorEq, Nat.reduceAdd, Nat.reduceSub, Nat.reduceMul, Nat.reduceLeDiff, Nat.reduceBEq, Nat.reduceLT, if_true, if_false, beq_self_eq_true, BEq.rfl, ne_eq]
    (try simp only [WN.down, Nat.reduceAdd, if_true, if_false, ↓reduceIte] at hP)
    (try simp only [WN.down, Nat.reduceAdd, if_true, if_false, ↓reduceIte])
    exact hP
  exact w_ret (r0 _ (.inl (w_fin [.int .i64 x1] rfl (by cases someE h; rfl) (by decide) outs_nil)))

theorem ok_impl_compareItems (a0 : impl_Item) (a1 : List UInt8) (r : Int) (h : impl_compareItems a0 a1 = some r) : OkAt Cc 39 [e_impl_Item a0, .str a1] (.int .i64 r) [] := by
  refine OkAt.of_wpQ (fx := [0, 1]) Cc_ok Try.func39 rfl rfl s39 (Nat.le_of_ble_eq_true rfl) (fun Q0 r0 n0 => ?_)
  replace r0 : ∀ s, onW (Fw.Ends Cc [0, 1] [.tmp 4] (.int .i64 r) []) s → Q0 .ret s := r0
  replace n0 : ∀ s, onW (Fw.Ends Cc [0, 1] [.tmp 4] (.int .i64 r) []) s → Q0 .normal s := n0
  show wpC Cc c39 Q0 (stA [(0, e_impl_Item a0), (1, .str a1)])
  refine w_sreg (w_abs [(1, .str a1), (2, .ubox (e_impl_Item a0))] (fun P hP => ?_) ?_)
  · simp only [W0.down, Nat.reduceEqDiff, ↓reduceIte, reduceCtorEq, Nat.reduceAdd, Nat.reduceSub, Nat.reduceMul, Nat.reduceLeDiff, Nat.reduceBEq, Nat.reduceLT, if_true, if_false, beq_self_eq_true, BEq.rfl, ne_eq, tt9, tt52, e_impl_Item]
    (try simp only [WN.down, Nat.reduceAdd, if_true, if_false, ↓reduceIte, tt9, tt52, e_impl_Item] at hP)
    (try simp only [WN.down, Nat.reduceAdd, if_true, if_false, ↓reduceIte, tt9, tt52, e_impl_Item])
    exact hP
  obtain ⟨x1, e3, h⟩ := bindE h
  refine w_sreg (w_abs [(4, .int .i64 x1)] (fun P hP => ?_) ?_)
  · simp only [W0.down, Nat.reduceEqDiff, ↓reduceIte, reduceCtorEq, Nat.reduceAdd, Nat.reduceSub, Nat.reduceMul, Nat.reduceLeDiff, Nat.reduceBEq, Nat.reduceLT, if_true, if_false, beq_self_eq_true, BEq.rfl, ne_eq, tt9, tt52, e_impl_Item]
    refine w_call0 (ok_strings_Compare a0.Name a1 _ e3) rfl rfl rfl rfl (.inl rfl) ?_
    simp only [W0.down, Nat.reduceEqDiff, ↓reduceIte, reduceCtorEq, Nat.reduceAdd, Nat.reduceSub, Nat.reduceMul, Nat.reduceLeDiff, Nat.reduceBEq, Nat.reduceLT, if_true, if_false, beq_self_eq_true, BEq.rfl, ne_eq, tt9, tt52, e_impl_Item]
    (try simp only [WN.down, Nat.reduceAdd, if_true, if_false, ↓reduceIte, tt9, tt52, e_impl_Item] at hP)
    (try simp only [WN.down, Nat.reduceAdd, if_true, if_false, ↓reduceIte, tt9, tt52, e_impl_Item])
    exact hP
  exact w_ret (r0 _ (.inl (w_fin [.int .i64 x1] rfl (by cases someE h; rfl) (by decide) outs_nil)))

theorem ok_slices_BinarySearchFunc_Item_string__impl_compareItems (a0 : List impl_Item) (a1 : List UInt8) (r : Int × Bool) (h : slices_BinarySearchFunc_Item_string__impl_compareItems a0 a1 = some r) : OkAt Cc 38 [.slice (a0.map e_impl_Item), .str a1, .fn 39 []] (.tuple [.int .i64 r.1, .bool r.2]) [] := by
  refine OkAt.of_wpQ (fx := [0, 1, 2]) Cc_ok Try.func38 rfl rfl s38 (Nat.le_of_ble_eq_true rfl) (fun Q0 r0 n0 => ?_)
  replace r0 : ∀ s, onW (Fw.Ends Cc [0, 1, 2] [.tmp 6, .tmp 7] (.tuple [.int .i64 r.1, .bool r.2]) []) s → Q0 .ret s := r0
  replace n0 : ∀ s, onW (Fw.Ends Cc [0, 1, 2] [.tmp 6, .tmp 7] (.tuple [.int .i64 r.1, .bool r.2]) []) s → Q0 .normal s := n0
  show wpC Cc c38 Q0 (stA [(0, .slice (a0.map e_impl_Item)), (1, .str a1), (2, .fn 39 [])])
  refine w_sreg (w_abs [(0, .slice (a0.map e_impl_Item)), (1, .str a1), (2, .fn 39 [])] (fun P hP => ?_) ?_)
  · simp only [W0.down, Nat.reduceEqDiff, ↓reduceIte, reduceCtorEq, Nat.reduceAdd, Nat.reduceSub, Nat.reduceMul, Nat.reduceLeDiff, Nat.reduceBEq, Nat.reduceLT, if_true, if_false, beq_self_eq_true, BEq.rfl, ne_eq, e_impl_Item]
    (try simp only [WN.down, Nat.reduceAdd, if_true, if_false, ↓reduceIte, e_impl_Item] at hP)
    (try simp only [WN.down, Nat.reduceAdd, if_true, if_false, ↓reduceIte, e_impl_Item])
    exact hP
  refine w_sreg (w_abs [(0, .slice (a0.map e_impl_Item)), (1, .str a1), (2, .fn 39 []), (8, .int .i64 (a0.length : Int))] (fun P hP => ?_) ?_)
  · simp only [W0.down, Nat.reduceEqDiff, ↓reduceIte, reduceCtorEq, Nat.reduceAdd, Nat.reduceSub, Nat.reduceMul, Nat.reduceLeDiff, Nat.reduceBEq, Nat.reduceLT, if_true, if_false, beq_self_eq_true, BEq.rfl, ne_eq, tt9, tt30, tt52, e_impl_Item]
    (try simp only [WN.down, Nat.reduceAdd, if_true, if_false, ↓reduceIte, tt9, tt30, tt52, e_impl_Item] at hP)
    (try simp only [WN.down, Nat.reduceAdd, if_true, if_false, ↓reduceIte, tt9, tt30, tt52, e_impl_Item])
    exact hP
  refine w_sreg (w_abs [(0, .slice (a0.map e_impl_Item)), (1, .str a1), (2, .fn 39 []), (8, .int .i64 (a0.length : Int)), (9, .int .i64 0), (10, .int .i64 (a0.length : Int))] (fun P hP => ?_) ?_)
  · simp only [W0.down, Nat.reduceEqDiff, ↓reduceIte, reduceCtorEq, Nat.reduceAdd, Nat.reduceSub, Nat.reduceMul, Nat.reduceLeDiff, Nat.reduceBEq, Nat.reduceLT, if_true, if_false, beq_self_eq_true, BEq.rfl, ne_eq, e_impl_Item]
    (try simp only [WN.down, Nat.reduceAdd, if_true, if_false, ↓reduceIte, e_impl_Item] at hP)
    (try simp only [WN.down, Nat.reduceAdd, if_true, if_false, ↓reduceIte, e_impl_Item])
    exact hP
  refine w_seq (fun Q4 n4 q4 x4 => ?_)
  refine w_blk (fun Q5 n5 q5 b5 x5 => ?_)
  have L8 : ∀ (n : Nat) (v9_8 : Int) (v10_8 : Int), slices_BinarySearchFunc_Item_string__impl_compareItems_l8 a0 a1 n v9_8 v10_8 = some r → lpC Cc c38_9 Q5 (stA [(0, .slice (a0.map e_impl_Item)), (1, .str a1), (2, .fn 39 []), (8, .int .i64 (a0.length : Int)), (9, .int .i64 v9_8), (10, .int .i64 v10_8)]) := by
    intro m8
    induction m8 with
    | zero => intro v9_8 v10_8 h; cases (show none = some r from h)
    | succ m8 ih8 =>
      intro v9_8 v10_8 h
      replace h : slices_BinarySearchFunc_Item_string__impl_compareItems_b8 (slices_BinarySearchFunc_Item_string__impl_compareItems_l8 a0 a1 m8) a0 a1 v9_8 v10_8 = some r := h
      refine lpC_step (fun Q6 n6 q6 x6 => ?_)
      refine w_seq (fun Q7 n7 q7 x7 => ?_)
      refine w_sreg (w_abs [(0, .slice (a0.map e_impl_Item)), (1, .str a1), (2, .fn 39 []), (8, .int .i64 (a0.length : Int)), (9, .int .i64 v9_8), (10, .int .i64 v10_8), (17, .bool (decide (v9_8 < v10_8)))] (fun P hP => ?_) ?_)
      · simp only [W0.down, Nat.reduceEqDiff, ↓reduceIte, reduceCtorEq, Nat.reduceAdd, Nat.reduceSub, Nat.reduceMul, Nat.reduceLeDiff, Nat.reduceBEq, Nat.reduceLT, if_true, if_false, beq_self_eq_true, BEq.rfl, ne_eq, e_impl_Item]
        (try simp only [WN.down, Nat.reduceAdd, if_true, if_false, ↓reduceIte, e_impl_Item] at hP)
        (try simp only [WN.down, Nat.reduceAdd, if_true, if_false, ↓reduceIte, e_impl_Item])
        exact hP
      rcases condE h with ⟨b9, h⟩ | ⟨b9, h⟩
      · refine w_ct (congrArg AV.bool b9) ?_
        simp only [b9, Bool.not_true, Bool.not_false]
        refine w_skip (n7 _ (.inl ?_))
        refine w_blk (fun Q10 n10 q10 b10 x10 => ?_)
        refine w_sreg (w_abs [(0, .slice (a0.map e_impl_Item)), (1, .str a1), (2, .fn 39 []), (8, .int .i64 (a0.length : Int)), (9, .int .i64 v9_8), (10, .int .i64 v10_8), (11, .int .i64 (IntKind.i64.wrap (Int.fdiv (IntKind.u64.wrap (IntKind.i64.wrap (v9_8 + v10_8))) (2 ^ (min (Int.toNat 1) 64)))))] (fun P hP => ?_) ?_)
        · simp only [W0.down, Nat.reduceEqDiff, ↓reduceIte, reduceCtorEq, Nat.reduceAdd, Nat.reduceSub, Nat.reduceMul, Nat.reduceLeDiff, Nat.reduceBEq, Nat.reduceLT, if_true, if_false, beq_self_eq_true, BEq.rfl, ne_eq, e_impl_Item, @cvt_i' Cc 3 81 .u64 rfl rfl, @bnI_shr' .u64 .u64 1 (by decide), @cvt_i' Cc 81 3 .i64 rfl rfl]
          (try simp only [WN.down, Nat.reduceAdd, if_true, if_false, ↓reduceIte, e_impl_Item, @cvt_i' Cc 3 81 .u64 rfl rfl, @bnI_shr' .u64 .u64 1 (by decide), @cvt_i' Cc 81 3 .i64 rfl rfl] at hP)
          (try simp only [WN.down, Nat.reduceAdd, if_true, if_false, ↓reduceIte, e_impl_Item, @cvt_i' Cc 3 81 .u64 rfl rfl, @bnI_shr' .u64 .u64 1 (by decide), @cvt_i' Cc 81 3 .i64 rfl rfl])
          exact hP
        obtain ⟨x1, e13, h⟩ := bindE h
        obtain ⟨x2, e14, h⟩ := bindE h
        refine w_sreg (w_abs [(0, .slice (a0.map e_impl_Item)), (1, .str a1), (2, .fn 39 []), (8, .int .i64 (a0.length : Int)), (9, .int .i64 v9_8), (10, .int .i64 v10_8), (11, .int .i64 (IntKind.i64.wrap (Int.fdiv (IntKind.u64.wrap (IntKind.i64.wrap (v9_8 + v10_8))) (2 ^ (min (Int.toNat 1) 64))))), (31, .bool (decide (x2 < 0)))] (fun P hP => ?_) ?_)
        · simp only [W0.down, Nat.reduceEqDiff, ↓reduceIte, reduceCtorEq, Nat.reduceAdd, Nat.reduceSub, Nat.reduceMul, Nat.reduceLeDiff, Nat.reduceBEq, Nat.reduceLT, if_true, if_false, beq_self_eq_true, BEq.rfl, ne_eq, tt9, tt30, tt52, e_impl_Item, e13]
          refine w_call0 (ok_impl_compareItems x1 a1 _ e14) rfl rfl rfl rfl (.inl rfl) ?_
          simp only [W0.down, Nat.reduceEqDiff, ↓reduceIte, reduceCtorEq, Nat.reduceAdd, Nat.reduceSub, Nat.reduceMul, Nat.reduceLeDiff, Nat.reduceBEq, Nat.reduceLT, if_true, if_false, beq_self_eq_true, BEq.rfl, ne_eq, tt9, tt30, tt52, e_impl_Item, e13]
          (try simp only [WN.down, Nat.reduceAdd, if_true, if_false, ↓reduceIte, tt9, tt30, tt52, e_impl_Item, e13] at hP)
          (try simp only [WN.down, Nat.reduceAdd, if_true, if_false, ↓reduceIte, tt9, tt30, tt52, e_impl_Item, e13])
          exact hP
        rcases condE h with ⟨b15, h⟩ | ⟨b15, h⟩
        · refine w_ct (congrArg AV.bool b15) ?_
          simp only [b15, Bool.not_true, Bool.not_false]
          refine w_reg (w_abs [(0, .slice (a0.map e_impl_Item)), (1, .str a1), (2, .fn 39 []), (8, .int .i64 (a0.length : Int)), (9, .int .i64 (IntKind.i64.wrap ((IntKind.i64.wrap (Int.fdiv (IntKind.u64.wrap (IntKind.i64.wrap (v9_8 + v10_8))) (2 ^ (min (Int.toNat 1) 64)))) + 1))), (10, .int .i64 v10_8)] (fun P hP => ?_) ?_)
          · simp only [W0.down, Nat.reduceEqDiff, ↓reduceIte, reduceCtorEq, Nat.reduceAdd, Nat.reduceSub, Nat.reduceMul, Nat.reduceLeDiff, Nat.reduceBEq, Nat.reduceLT, if_true, if_false, beq_self_eq_true, BEq.rfl, ne_eq, e_impl_Item]
            (try simp only [WN.down, Nat.reduceAdd, if_true, if_false, ↓reduceIte, e_impl_Item] at hP)
            (try simp only [WN.down, Nat.reduceAdd, if_true, if_false, ↓reduceIte, e_impl_Item])
            exact hP
          exact n10 _ (n6 _ (.inr ⟨_, weak_eq rfl, ih8 (IntKind.i64.wrap ((IntKind.i64.wrap (Int.fdiv (IntKind.u64.wrap (IntKind.i64.wrap (v9_8 + v10_8))) (2 ^ (min (Int.toNat 1) 64)))) + 1)) v10_8 h⟩))
        · refine w_cf (congrArg AV.bool b15) ?_
          simp only [b15, Bool.not_true, Bool.not_false]
          refine w_reg (w_abs [(0, .slice (a0.map e_impl_Item)), (1, .str a1), (2, .fn 39 []), (8, .int .i64 (a0.length : Int)), (9, .int .i64 v9_8), (10, .int .i64 (IntKind.i64.wrap (Int.fdiv (IntKind.u64.wrap (IntKind.i64.wrap (v9_8 + v10_8))) (2 ^ (min (Int.toNat 1) 64)))))] (fun P hP => ?_) ?_)
          · simp only [W0.down, Nat.reduceEqDiff, ↓reduceIte, reduceCtorEq, Nat.reduceAdd, Nat.reduceSub, Nat.reduceMul, Nat.reduceLeDiff, Nat.reduceBEq, Nat.reduceLT, if_true, if_false, beq_self_eq_true, BEq.rfl, ne_eq, e_impl_Item]
            (try simp only [WN.down, Nat.reduceAdd, if_true, if_false, ↓reduceIte, e_impl_Item] at hP)
            (try simp only [WN.down, Nat.reduceAdd, if_true, if_false, ↓reduceIte, e_impl_Item])
            exact hP
          exact n10 _ (n6 _ (.inr ⟨_, weak_eq rfl, ih8 v9_8 (IntKind.i64.wrap (Int.fdiv (IntKind.u64.wrap (IntKind.i64.wrap (v9_8 + v10_8))) (2 ^ (min (Int.toNat 1) 64)))) h⟩))
      · refine w_cf (congrArg AV.bool b9) ?_
        simp only [b9, Bool.not_true, Bool.not_false]
        refine w_ex (x7 0 _ (x6 0 _ (b5 _ (n4 _ (.inl ?_)))))
        rcases condE h with ⟨b19, h⟩ | ⟨b19, h⟩
        · obtain ⟨x3, e20, h⟩ := bindE h
          obtain ⟨x4, e21, h⟩ := bindE h
          refine w_sreg (w_abs [(6, .int .i64 v9_8), (7, .bool (x4 == 0))] (fun P hP => ?_) ?_)
          · simp only [W0.down, Nat.reduceEqDiff, ↓reduceIte, reduceCtorEq, Nat.reduceAdd, Nat.reduceSub, Nat.reduceMul, Nat.reduceLeDiff, Nat.reduceBEq, Nat.reduceLT, if_true, if_false, beq_self_eq_true, BEq.rfl, ne_eq, tt9, tt30, tt52, e_impl_Item, b19, e20]
            refine w_callg0 (ok_impl_compareItems x3 a1 _ e21) rfl rfl rfl rfl (.inl rfl) ?_
            simp only [W0.down, Nat.reduceEqDiff, ↓reduceIte, reduceCtorEq, Nat.reduceAdd, Nat.reduceSub, Nat.reduceMul, Nat.reduceLeDiff, Nat.reduceBEq, Nat.reduceLT, if_true, if_false, beq_self_eq_true, BEq.rfl, ne_eq, tt9, tt30, tt52, e_impl_Item, b19, e20]
            (try simp only [WN.down, Nat.reduceAdd, if_true, if_false, ↓reduceIte, tt9, tt30, tt52, e_impl_Item, b19, e20] at hP)
            (try simp only [WN.down, Nat.reduceAdd, if_true, if_false, ↓reduceIte, tt9, tt30, tt52, e_impl_Item, b19, e20])
            exact hP
          exact w_ret (r0 _ (.inl (w_fin [.int .i64 v9_8, .bool (x4 == 0)] rfl (by cases someE h; rfl) (by decide) outs_nil)))
        · refine w_sreg (w_abs [(6, .int .i64 v9_8), (7, .bool false)] (fun P hP => ?_) ?_)
          · simp only [W0.down, Nat.reduceEqDiff, ↓reduceIte, reduceCtorEq, Nat.reduceAdd, Nat.reduceSub, Nat.reduceMul, Nat.reduceLeDiff, Nat.reduceBEq, Nat.reduceLT, if_true, if_false, beq_self_eq_true, BEq.rfl, ne_eq, tt9, tt30, tt52, e_impl_Item, b19]
            (try simp only [WN.down, Nat.reduceAdd, if_true, if_false, ↓reduceIte, tt9, tt30, tt52, e_impl_Item, b19] at hP)
            (try simp only [WN.down, Nat.reduceAdd, if_true, if_false, ↓reduceIte, tt9, tt30, tt52, e_impl_Item, b19])
            exact hP
          exact w_ret (r0 _ (.inl (w_fin [.int .i64 v9_8, .bool false] rfl (by cases someE h; rfl) (by decide) outs_nil)))
  obtain ⟨n, h⟩ := limE h
  exact w_loop (.inr ⟨_, weak_eq rfl, L8 n 0 (a0.length : Int) h⟩)

theorem ok_impl_FindItem (a0 : List impl_Item) (a1 : List UInt8) (r : (List UInt8) × Int) (h : impl_FindItem a0 a1 = some r) : OkAt Cc 19 [.slice (a0.map e_impl_Item), .str a1] (.tuple [.str r.1, .int .i64 r.2]) [] := by
  refine OkAt.of_wpQ (fx := [0, 1]) Cc_ok Try.func19 rfl rfl s19 (Nat.le_of_ble_eq_true rfl) (fun Q0 r0 n0 => ?_)
  replace r0 : ∀ s, onW (Fw.Ends Cc [0, 1] [.tmp 4, .tmp 5] (.tuple [.str r.1, .int .i64 r.2]) []) s → Q0 .ret s := r0
  replace n0 : ∀ s, onW (Fw.Ends Cc [0, 1] [.tmp 4, .tmp 5] (.tuple [.str r.1, .int .i64 r.2]) []) s → Q0 .normal s := n0
  show wpC Cc c19 Q0 (stA [(0, .slice (a0.map e_impl_Item)), (1, .str a1)])
  refine w_sreg (w_abs [(0, .slice (a0.map e_impl_Item)), (1, .str a1)] (fun P hP => ?_) ?_)
  · simp only [W0.down, Nat.reduceEqDiff, ↓reduceIte, reduceCtorEq, Nat.reduceAdd, Nat.reduceSub, Nat.reduceMul, Nat.reduceLeDiff, Nat.reduceBEq, Nat.reduceLT, if_true, if_false, beq_self_eq_true, BEq.rfl, ne_eq, e_impl_Item]
    (try simp only [WN.down, Nat.reduceAdd, if_true, if_false, ↓reduceIte, e_impl_Item] at hP)
    (try simp only [WN.down, Nat.reduceAdd, if_true, if_false, ↓reduceIte, e_impl_Item])
    exact hP
  refine w_seq (fun Q2 n2 q2 x2 => ?_)
  obtain ⟨x1, e4, h⟩ := bindE h
  refine w_sreg (w_abs [(0, .slice (a0.map e_impl_Item)), (1, .str a1), (10, .bool (!x1))] (fun P hP => ?_) ?_)
  · simp only [W0.down, Nat.reduceEqDiff, ↓reduceIte, reduceCtorEq, Nat.reduceAdd, Nat.reduceSub, Nat.reduceMul, Nat.reduceLeDiff, Nat.reduceBEq, Nat.reduceLT, if_true, if_false, beq_self_eq_true, BEq.rfl, ne_eq, e_impl_Item]
    refine w_call0 (ok_impl_ValidItems a0 _ e4) rfl rfl rfl rfl (.inl rfl) ?_
    simp only [W0.down, Nat.reduceEqDiff, ↓reduceIte, reduceCtorEq, Nat.reduceAdd, Nat.reduceSub, Nat.reduceMul, Nat.reduceLeDiff, Nat.reduceBEq, Nat.reduceLT, if_true, if_false, beq_self_eq_true, BEq.rfl, ne_eq, e_impl_Item]
    (try simp only [WN.down, Nat.reduceAdd, if_true, if_false, ↓reduceIte, e_impl_Item] at hP)
    (try simp only [WN.down, Nat.reduceAdd, if_true, if_false, ↓reduceIte, e_impl_Item])
    exact hP
  rcases condE h with ⟨b5, h⟩ | ⟨b5, h⟩
  · refine w_ct (congrArg AV.bool b5) ?_
    simp only [b5, Bool.not_true, Bool.not_false]
    refine w_sreg (w_abs [(4, .str ([] : List UInt8)), (5, .int .i64 1)] (fun P hP => ?_) ?_)
    · simp only [W0.down, Nat.reduceEqDiff, ↓reduceIte, reduceCtorEq, Nat.reduceAdd, Nat.reduceSub, Nat.reduceMul, Nat.reduceLeDiff, Nat.reduceBEq, Nat.reduceLT, if_true, if_false, beq_self_eq_true, BEq.rfl, ne_eq, e_impl_Item]
      (try simp only [WN.down, Nat.reduceAdd, if_true, if_false, ↓reduceIte, e_impl_Item] at hP)
      (try simp only [WN.down, Nat.reduceAdd, if_true, if_false, ↓reduceIte, e_impl_Item])
      exact hP
    exact w_ret (q2 _ (r0 _ (.inl (w_fin [.str ([] : List UInt8), .int .i64 1] rfl (by cases someE h; rfl) (by decide) outs_nil))))
  · refine w_cf (congrArg AV.bool b5) ?_
    simp only [b5, Bool.not_true, Bool.not_false]
    refine w_skip (n2 _ (.inl ?_))
    obtain ⟨x2, e8, h⟩ := bindE h
    refine w_sreg (w_abs [(0, .slice (a0.map e_impl_Item)), (6, .int .i64 x2.1), (7, .bool x2.2)] (fun P hP => ?_) ?_)
    · simp only [W0.down, Nat.reduceEqDiff, ↓reduceIte, reduceCtorEq, Nat.reduceAdd, Nat.reduceSub, Nat.reduceMul, Nat.reduceLeDiff, Nat.reduceBEq, Nat.reduceLT, if_true, if_false, beq_self_eq_true, BEq.rfl, ne_eq, e_impl_Item]
      refine w_call0 (ok_slices_BinarySearchFunc_Item_string__impl_compareItems a0 a1 _ e8) rfl rfl rfl rfl (.inl rfl) ?_
      simp only [W0.down, Nat.reduceEqDiff, ↓reduceIte, reduceCtorEq, Nat.reduceAdd, Nat.reduceSub, Nat.reduceMul, Nat.reduceLeDiff, Nat.reduceBEq, Nat.reduceLT, if_true, if_false, beq_self_eq_true, BEq.rfl, ne_eq, e_impl_Item]
      (try simp only [WN.down, Nat.reduceAdd, if_true, if_false, ↓reduceIte, e_impl_Item] at hP)
      (try simp only [WN.down, Nat.reduceAdd, if_true, if_false, ↓reduceIte, e_impl_Item])
      exact hP
    refine w_seq (fun Q9 n9 q9 x9 => ?_)
    refine w_sreg (w_abs [(0, .slice (a0.map e_impl_Item)), (6, .int .i64 x2.1), (18, .bool (!x2.2))] (fun P hP => ?_) ?_)
    · simp only [W0.down, Nat.reduceEqDiff, ↓reduceIte, reduceCtorEq, Nat.reduceAdd, Nat.reduceSub, Nat.reduceMul, Nat.reduceLeDiff, Nat.reduceBEq, Nat.reduceLT, if_true, if_false, beq_self_eq_true, BEq.rfl, ne_eq, e_impl_Item]
      (try simp only [WN.down, Nat.reduceAdd, if_true, if_false, ↓reduceIte, e_impl_Item] at hP)
      (try simp only [WN.down, Nat.reduceAdd, if_true, if_false, ↓reduceIte, e_impl_Item])
      exact hP
    rcases condE h with ⟨b11, h⟩ | ⟨b11, h⟩
    · refine w_ct (congrArg AV.bool b11) ?_
      simp only [b11, Bool.not_true, Bool.not_false]
      refine w_sreg (w_abs [(4, .str ([] : List UInt8)), (5, .int .i64 3)] (fun P hP => ?_) ?_)
      · simp only [W0.down, Nat.reduceEqDiff, ↓reduceIte, reduceCtorEq, Nat.reduceAdd, Nat.reduceSub, Nat.reduceMul, Nat.reduceLeDiff, Nat.reduceBEq, Nat.reduceLT, if_true, if_false, beq_self_eq_true, BEq.rfl, ne_eq, e_impl_Item]
        (try simp only [WN.down, Nat.reduceAdd, if_true, if_false, ↓reduceIte, e_impl_Item] at hP)
        (try simp only [WN.down, Nat.reduceAdd, if_true, if_false, ↓reduceIte, e_impl_Item])
        exact hP
      exact w_ret (q9 _ (r0 _ (.inl (w_fin [.str ([] : List UInt8), .int .i64 3] rfl (by cases someE h; rfl) (by decide) outs_nil))))
    · refine w_cf (congrArg AV.bool b11) ?_
      simp only [b11, Bool.not_true, Bool.not_false]
      refine w_skip (n9 _ (.inl ?_))
      obtain ⟨x3, e14, h⟩ := bindE h
      refine w_sreg (w_abs [(4, .str x3.Image), (5, .int .i64 0)] (fun P hP => ?_) ?_)
      · simp only [W0.down, Nat.reduceEqDiff, ↓reduceIte, reduceCtorEq, Nat.reduceAdd, Nat.reduceSub, Nat.reduceMul, Nat.reduceLeDiff, Nat.reduceBEq, Nat.reduceLT, if_true, if_false, beq_self_eq_true, BEq.rfl, ne_eq, tt9, tt30, tt52, e_impl_Item, e14]
        (try simp only [WN.down, Nat.reduceAdd, if_true, if_false, ↓reduceIte, tt9, tt30, tt52, e_impl_Item, e14] at hP)
        (try simp only [WN.down, Nat.reduceAdd, if_true, if_false, ↓reduceIte, tt9, tt30, tt52, e_impl_Item, e14])
        exact hP
      exact w_ret (r0 _ (.inl (w_fin [.str x3.Image, .int .i64 0] rfl (by cases someE h; rfl) (by decide) outs_nil)))

theorem ok_laws_eqItem (a0 : impl_Item) (a1 : impl_Item) (r : Bool) (h : laws_eqItem a0 a1 = some r) : OkAt Cc 37 [e_impl_Item a0, e_impl_Item a1] (.bool r) [] := by
  refine OkAt.of_wpQ (fx := [0, 1]) Cc_ok Try.func37 rfl rfl s37 (Nat.le_of_ble_eq_true rfl) (fun Q0 r0 n0 => ?_)
  replace r0 : ∀ s, onW (Fw.Ends Cc [0, 1] [.tmp 4] (.bool r) []) s → Q0 .ret s := r0
  replace n0 : ∀ s, onW (Fw.Ends Cc [0, 1] [.tmp 4] (.bool r) []) s → Q0 .normal s := n0
  show wpC Cc c37 Q0 (stA [(0, e_impl_Item a0), (1, e_impl_Item a1)])
  refine w_sreg (w_abs [(2, .ubox (e_impl_Item a0)), (3, .ubox (e_impl_Item a1))] (fun P hP => ?_) ?_)
  · simp only [W0.down, Nat.reduceEqDiff, ↓reduceIte, reduceCtorEq, Nat.reduceAdd, Nat.reduceSub, Nat.reduceMul, Nat.reduceLeDiff, Nat.reduceBEq, Nat.reduceLT, if_true, if_false, beq_self_eq_true, BEq.rfl, ne_eq, tt9, tt52, e_impl_Item]
    (try simp only [WN.down, Nat.reduceAdd, if_true, if_false, ↓reduceIte, tt9, tt52, e_impl_Item] at hP)
    (try simp only [WN.down, Nat.reduceAdd, if_true, if_false, ↓reduceIte, tt9, tt52, e_impl_Item])
    exact hP
  refine w_seq (fun Q2 n2 q2 x2 => ?_)
  refine w_sreg (w_abs [(2, .ubox (e_impl_Item a0)), (3, .ubox (e_impl_Item a1)), (9, .bool (!(a0.Name == a1.Name)))] (fun P hP => ?_) ?_)
  · simp only [W0.down, Nat.reduceEqDiff, ↓reduceIte, reduceCtorEq, Nat.reduceAdd, Nat.reduceSub, Nat.reduceMul, Nat.reduceLeDiff, Nat.reduceBEq, Nat.reduceLT, if_true, if_false, beq_self_eq_true, BEq.rfl, ne_eq, tt9, tt52, e_impl_Item]
    (try simp only [WN.down, Nat.reduceAdd, if_true, if_false, ↓reduceIte, tt9, tt52, e_impl_Item] at hP)
    (try simp only [WN.down, Nat.reduceAdd, if_true, if_false, ↓reduceIte, tt9, tt52, e_impl_Item])
    exact hP
  rcases condE h with ⟨b4, h⟩ | ⟨b4, h⟩
  · refine w_ct (congrArg AV.bool b4) ?_
    simp only [b4, Bool.not_true, Bool.not_false]
    refine w_sreg (w_abs [(4, .bool false)] (fun P hP => ?_) ?_)
    · simp only [W0.down, Nat.reduceEqDiff, ↓reduceIte, reduceCtorEq, Nat.reduceAdd, Nat.reduceSub, Nat.reduceMul, Nat.reduceLeDiff, Nat.reduceBEq, Nat.reduceLT, if_true, if_false, beq_self_eq_true, BEq.rfl, ne_eq, e_impl_Item]
      (try simp only [WN.down, Nat.reduceAdd, if_true, if_false, ↓reduceIte, e_impl_Item] at hP)
      (try simp only [WN.down, Nat.reduceAdd, if_true, if_false, ↓reduceIte, e_impl_Item])
      exact hP
    exact w_ret (q2 _ (r0 _ (.inl (w_fin [.bool false] rfl (by cases someE h; rfl) (by decide) outs_nil))))
  · refine w_cf (congrArg AV.bool b4) ?_
    simp only [b4, Bool.not_true, Bool.not_false]
    refine w_skip (n2 _ (.inl ?_))
    refine w_seq (fun Q6 n6 q6 x6 => ?_)
    refine w_sreg (w_abs [(14, .bool (!(a0.Image == a1.Image)))] (fun P hP => ?_) ?_)
    · simp only [W0.down, Nat.reduceEqDiff, ↓reduceIte, reduceCtorEq, Nat.reduceAdd, Nat.reduceSub, Nat.reduceMul, Nat.reduceLeDiff, Nat.reduceBEq, Nat.reduceLT, if_true, if_false, beq_self_eq_true, BEq.rfl, ne_eq, tt9, tt52, e_impl_Item]
      (try simp only [WN.down, Nat.reduceAdd, if_true, if_false, ↓reduceIte, tt9, tt52, e_impl_Item] at hP)
      (try simp only [WN.down, Nat.reduceAdd, if_true, if_false, ↓reduceIte, tt9, tt52, e_impl_Item])
      exact hP
    rcases condE h with ⟨b8, h⟩ | ⟨b8, h⟩
    · refine w_ct (congrArg AV.bool b8) ?_
      simp only [b8, Bool.not_true, Bool.not_false]
      refine w_sreg (w_abs [(4, .bool false)] (fun P hP => ?_) ?_)
      · simp only [W0.down, Nat.reduceEqDiff, ↓reduceIte, reduceCtorEq, Nat.reduceAdd, Nat.reduceSub, Nat.reduceMul, Nat.reduceLeDiff, Nat.reduceBEq, Nat.reduceLT, if_true, if_false, beq_self_eq_true, BEq.rfl, ne_eq]
        (try simp only [WN.down, Nat.reduceAdd, if_true, if_false, ↓reduceIte] at hP)
        (try simp only [WN.down, Nat.reduceAdd, if_true, if_false, ↓reduceIte])
        exact hP
      exact w_ret (q6 _ (r0 _ (.inl (w_fin [.bool false] rfl (by cases someE h; rfl) (by decide) outs_nil))))
    · refine w_cf (congrArg AV.bool b8) ?_
      simp only [b8, Bool.not_true, Bool.not_false]
      refine w_skip (n6 _ (.inl ?_))
      refine w_sreg (w_abs [(4, .bool true)] (fun P hP => ?_) ?_)
      · simp only [W0.down, Nat.reduceEqDiff, ↓reduceIte, reduceCtorEq, Nat.reduceAdd, Nat.reduceSub, Nat.reduceMul, Nat.reduceLeDiff, Nat.reduceBEq, Nat.reduceLT, if_true, if_false, beq_self_eq_true, BEq.rfl, ne_eq]
        (try simp only [WN.down, Nat.reduceAdd, if_true, if_false, ↓reduceIte] at hP)
        (try simp only [WN.down, Nat.reduceAdd, if_true, if_false, ↓reduceIte])
        exact hP
      exact w_ret (r0 _ (.inl (w_fin [.bool true] rfl (by cases someE h; rfl) (by decide) outs_nil)))

theorem ok_laws_eqItemS (a0 : List impl_Item) (a1 : List impl_Item) (r : Bool) (h : laws_eqItemS a0 a1 = some r) : OkAt Cc 17 [.slice (a0.map e_impl_Item), .slice (a1.map e_impl_Item)] (.bool r) [] := by
  refine OkAt.of_wpQ (fx := [0, 1]) Cc_ok Try.func17 rfl rfl s17 (Nat.le_of_ble_eq_true rfl) (fun Q0 r0 n0 => ?_)
  replace r0 : ∀ s, onW (Fw.Ends Cc [0, 1] [.tmp 4] (.bool r) []) s → Q0 .ret s := r0
  replace n0 : ∀ s, onW (Fw.Ends Cc [0, 1] [.tmp 4] (.bool r) []) s → Q0 .normal s := n0
  show wpC Cc c17 Q0 (stA [(0, .slice (a0.map e_impl_Item)), (1, .slice (a1.map e_impl_Item))])
  refine w_sreg (w_abs [(0, .slice (a0.map e_impl_Item)), (1, .slice (a1.map e_impl_Item))] (fun P hP => ?_) ?_)
  · simp only [W0.down, Nat.reduceEqDiff, ↓reduceIte, reduceCtorEq, Nat.reduceAdd, Nat.reduceSub, Nat.reduceMul, Nat.reduceLeDiff, Nat.reduceBEq, Nat.reduceLT, if_true, if_false, beq_self_eq_true, BEq.rfl, ne_eq, e_impl_Item]
    (try simp only [WN.down, Nat.reduceAdd, if_true, if_false, ↓reduceIte, e_impl_Item] at hP)
    (try simp only [WN.down, Nat.reduceAdd, if_true, if_false, ↓reduceIte, e_impl_Item])
    exact hP
  refine w_seq (fun Q2 n2 q2 x2 => ?_)
  refine w_sreg (w_abs [(0, .slice (a0.map e_impl_Item)), (1, .slice (a1.map e_impl_Item)), (10, .bool ((a0.length : Int) != (a1.length : Int)))] (fun P hP => ?_) ?_)
  · simp only [W0.down, Nat.reduceEqDiff, ↓reduceIte, reduceCtorEq, Nat.reduceAdd, Nat.reduceSub, Nat.reduceMul, Nat.reduceLeDiff, Nat.reduceBEq, Nat.reduceLT, if_true, if_false, beq_self_eq_true, BEq.rfl, ne_eq, tt9, tt30, tt52, e_impl_Item]
    (try simp only [WN.down, Nat.reduceAdd, if_true, if_false, ↓reduceIte, tt9, tt30, tt52, e_impl_Item] at hP)
    (try simp only [WN.down, Nat.reduceAdd, if_true, if_false, ↓reduceIte, tt9, tt30, tt52, e_impl_Item])
    exact hP
  rcases condE h with ⟨b4, h⟩ | ⟨b4, h⟩
  · refine w_ct (congrArg AV.bool b4) ?_
    simp only [b4, Bool.not_true, Bool.not_false]
    refine w_sreg (w_abs [(4, .bool false)] (fun P hP => ?_) ?_)
    · simp only [W0.down, Nat.reduceEqDiff, ↓reduceIte, reduceCtorEq, Nat.reduceAdd, Nat.reduceSub, Nat.reduceMul, Nat.reduceLeDiff, Nat.reduceBEq, Nat.reduceLT, if_true, if_false, beq_self_eq_true, BEq.rfl, ne_eq, e_impl_Item]
      (try simp only [WN.down, Nat.reduceAdd, if_true, if_false, ↓reduceIte, e_impl_Item] at hP)
      (try simp only [WN.down, Nat.reduceAdd, if_true, if_false, ↓reduceIte, e_impl_Item])
      exact hP
    exact w_ret (q2 _ (r0 _ (.inl (w_fin [.bool false] rfl (by cases someE h; rfl) (by decide) outs_nil))))
  · refine w_cf (congrArg AV.bool b4) ?_
    simp only [b4, Bool.not_true, Bool.not_false]
    refine w_skip (n2 _ (.inl ?_))
    refine w_seq (fun Q6 n6 q6 x6 => ?_)
    refine w_sreg (w_abs [(0, .slice (a0.map e_impl_Item)), (1, .slice (a1.map e_impl_Item)), (5, .int .i64 0)] (fun P hP => ?_) ?_)
    · simp only [W0.down, Nat.reduceEqDiff, ↓reduceIte, reduceCtorEq, Nat.reduceAdd, Nat.reduceSub, Nat.reduceMul, Nat.reduceLeDiff, Nat.reduceBEq, Nat.reduceLT, if_true, if_false, beq_self_eq_true, BEq.rfl, ne_eq, e_impl_Item]
      (try simp only [WN.down, Nat.reduceAdd, if_true, if_false, ↓reduceIte, e_impl_Item] at hP)
      (try simp only [WN.down, Nat.reduceAdd, if_true, if_false, ↓reduceIte, e_impl_Item])
      exact hP
    refine w_blk (fun Q8 n8 q8 b8 x8 => ?_)
    have L14 : ∀ (n : Nat) (v5_14 : Int), laws_eqItemS_l14 a0 a1 n v5_14 = some r → lpC Cc c17_15 Q8 (stA [(0, .slice (a0.map e_impl_Item)), (1, .slice (a1.map e_impl_Item)), (5, .int .i64 v5_14)]) := by
      intro m14
      induction m14 with
      | zero => intro v5_14 h; cases (show none = some r from h)
      | succ m14 ih14 =>
        intro v5_14 h
        replace h : laws_eqItemS_b14 (laws_eqItemS_l14 a0 a1 m14) a0 a1 v5_14 = some r := h
        refine lpC_step (fun Q9 n9 q9 x9 => ?_)
        refine w_seq (fun Q10 n10 q10 x10 => ?_)
        refine w_sreg (w_abs [(0, .slice (a0.map e_impl_Item)), (1, .slice (a1.map e_impl_Item)), (5, .int .i64 v5_14), (14, .bool (decide (v5_14 < (a0.length : Int))))] (fun P hP => ?_) ?_)
        · simp only [W0.down, Nat.reduceEqDiff, ↓reduceIte, reduceCtorEq, Nat.reduceAdd, Nat.reduceSub, Nat.reduceMul, Nat.reduceLeDiff, Nat.reduceBEq, Nat.reduceLT, if_true, if_false, beq_self_eq_true, BEq.rfl, ne_eq, tt9, tt30, tt52, e_impl_Item]
          (try simp only [WN.down, Nat.reduceAdd, if_true, if_false, ↓reduceIte, tt9, tt30, tt52, e_impl_Item] at hP)
          (try simp only [WN.down, Nat.reduceAdd, if_true, if_false, ↓reduceIte, tt9, tt30, tt52, e_impl_Item])
          exact hP
        rcases condE h with ⟨b12, h⟩ | ⟨b12, h⟩
        · refine w_ct (congrArg AV.bool b12) ?_
          simp only [b12, Bool.not_true, Bool.not_false]
          refine w_skip (n10 _ (.inl ?_))
          refine w_seq (fun Q13 n13 q13 x13 => ?_)
          refine w_blk (fun Q14 n14 q14 b14 x14 => ?_)
          obtain ⟨x1, e16, h⟩ := bindE h
          obtain ⟨x2, e17, h⟩ := bindE h
          obtain ⟨x3, e18, h⟩ := bindE h
          refine w_sdrw rfl (w_absd [(0, .slice (a0.map e_impl_Item)), (1, .slice (a1.map e_impl_Item)), (5, .int .i64 v5_14), (26, .bool (!x3))] (fun P hP => ?_) ?_)
          · simp only [W1.down, Nat.reduceEqDiff, ↓reduceIte, reduceCtorEq, Nat.reduceAdd, Nat.reduceSub, Nat.reduceMul, Nat.reduceLeDiff, Nat.reduceBEq, Nat.reduceLT, if_true, if_false, beq_self_eq_true, BEq.rfl, ne_eq, tt9, tt30, tt52, e_impl_Item, e16, e17]
            refine w_call1 (ok_laws_eqItem x1 x2 _ e18) rfl rfl rfl rfl (.inl rfl) ?_
            simp only [W1.down, Nat.reduceEqDiff, ↓reduceIte, reduceCtorEq, Nat.reduceAdd, Nat.reduceSub, Nat.reduceMul, Nat.reduceLeDiff, Nat.reduceBEq, Nat.reduceLT, if_true, if_false, beq_self_eq_true, BEq.rfl, ne_eq, tt9, tt30, tt52, e_impl_Item, e16, e17]
            refine ⟨by kernel_rfl, ?_⟩
            (try simp only [WN.down, Nat.reduceAdd, if_true, if_false, ↓reduceIte, tt9, tt30, tt52, e_impl_Item, e16, e17] at hP)
            (try simp only [WN.down, Nat.reduceAdd, if_true, if_false, ↓reduceIte, tt9, tt30, tt52, e_impl_Item, e16, e17])
            exact hP
          rcases condE h with ⟨b19, h⟩ | ⟨b19, h⟩
          · refine w_ct (congrArg AV.bool b19) ?_
            simp only [b19, Bool.not_true, Bool.not_false]
            refine w_sreg (w_abs [(4, .bool false)] (fun P hP => ?_) ?_)
            · simp only [W0.down, Nat.reduceEqDiff, ↓reduceIte, reduceCtorEq, Nat.reduceAdd, Nat.reduceSub, Nat.reduceMul, Nat.reduceLeDiff, Nat.reduceBEq, Nat.reduceLT, if_true, if_false, beq_self_eq_true, BEq.rfl, ne_eq, e_impl_Item]
              (try simp only [WN.down, Nat.reduceAdd, if_true, if_false, ↓reduceIte, e_impl_Item] at hP)
              (try simp only [WN.down, Nat.reduceAdd, if_true, if_false, ↓reduceIte, e_impl_Item])
              exact hP
            exact w_ret (q14 _ (q13 _ (q9 _ (q8 _ (q6 _ (r0 _ (.inl (w_fin [.bool false] rfl (by cases someE h; rfl) (by decide) outs_nil))))))))
          · refine w_cf (congrArg AV.bool b19) ?_
            simp only [b19, Bool.not_true, Bool.not_false]
            refine w_skip (n14 _ (n13 _ (.inl ?_)))
            refine w_reg (w_abs [(0, .slice (a0.map e_impl_Item)), (1, .slice (a1.map e_impl_Item)), (5, .int .i64 (IntKind.i64.wrap (v5_14 + 1)))] (fun P hP => ?_) ?_)
            · simp only [W0.down, Nat.reduceEqDiff, ↓reduceIte, reduceCtorEq, Nat.reduceAdd, Nat.reduceSub, Nat.reduceMul, Nat.reduceLeDiff, Nat.reduceBEq, Nat.reduceLT, if_true, if_false, beq_self_eq_true, BEq.rfl, ne_eq, e_impl_Item]
              (try simp only [WN.down, Nat.reduceAdd, if_true, if_false, ↓reduceIte, e_impl_Item] at hP)
              (try simp only [WN.down, Nat.reduceAdd, if_true, if_false, ↓reduceIte, e_impl_Item])
              exact hP
            exact n9 _ (.inr ⟨_, weak_eq rfl, ih14 (IntKind.i64.wrap (v5_14 + 1)) h⟩)
        · refine w_cf (congrArg AV.bool b12) ?_
          simp only [b12, Bool.not_true, Bool.not_false]
          refine w_ex (x10 0 _ (x9 0 _ (b8 _ (n6 _ (.inl ?_)))))
          refine w_sreg (w_abs [(4, .bool true)] (fun P hP => ?_) ?_)
          · simp only [W0.down, Nat.reduceEqDiff, ↓reduceIte, reduceCtorEq, Nat.reduceAdd, Nat.reduceSub, Nat.reduceMul, Nat.reduceLeDiff, Nat.reduceBEq, Nat.reduceLT, if_true, if_false, beq_self_eq_true, BEq.rfl, ne_eq, e_impl_Item]
            (try simp only [WN.down, Nat.reduceAdd, if_true, if_false, ↓reduceIte, e_impl_Item] at hP)
            (try simp only [WN.down, Nat.reduceAdd, if_true, if_false, ↓reduceIte, e_impl_Item])
            exact hP
          exact w_ret (r0 _ (.inl (w_fin [.bool true] rfl (by cases someE h; rfl) (by decide) outs_nil)))
    obtain ⟨n, h⟩ := limE h
    exact w_loop (.inr ⟨_, weak_eq rfl, L14 n 0 h⟩)

theorem ok_laws_FnExactFindItem (a0 : List laws_Item) (a1 : List UInt8) (r : Bool) (h : laws_FnExactFindItem a0 a1 = some r) : OkAt Cc 6 [.slice (a0.map e_laws_Item), .str a1] (.bool r) [] := by
  refine OkAt.of_wpQ (fx := [0, 1]) Cc_ok Try.func6 rfl rfl s6 (Nat.le_of_ble_eq_true rfl) (fun Q0 r0 n0 => ?_)
  replace r0 : ∀ s, onW (Fw.Ends Cc [0, 1] [.tmp 4] (.bool r) []) s → Q0 .ret s := r0
  replace n0 : ∀ s, onW (Fw.Ends Cc [0, 1] [.tmp 4] (.bool r) []) s → Q0 .normal s := n0
  show wpC Cc c6 Q0 (stA [(0, .slice (a0.map e_laws_Item)), (1, .str a1)])
  refine w_sreg (w_abs [(0, .slice (a0.map e_laws_Item)), (1, .str a1)] (fun P hP => ?_) ?_)
  · simp only [W0.down, Nat.reduceEqDiff, ↓reduceIte, reduceCtorEq, Nat.reduceAdd, Nat.reduceSub, Nat.reduceMul, Nat.reduceLeDiff, Nat.reduceBEq, Nat.reduceLT, if_true, if_false, beq_self_eq_true, BEq.rfl, ne_eq, e_laws_Item]
    (try simp only [WN.down, Nat.reduceAdd, if_true, if_false, ↓reduceIte, e_laws_Item] at hP)
    (try simp only [WN.down, Nat.reduceAdd, if_true, if_false, ↓reduceIte, e_laws_Item])
    exact hP
  refine w_seq (fun Q2 n2 q2 x2 => ?_)
  refine w_sreg (w_abs [(0, .slice (a0.map e_laws_Item)), (1, .str a1), (13, .bool (decide (1048576 < (a1.length : Int))))] (fun P hP => ?_) ?_)
  · simp only [W0.down, Nat.reduceEqDiff, ↓reduceIte, reduceCtorEq, Nat.reduceAdd, Nat.reduceSub, Nat.reduceMul, Nat.reduceLeDiff, Nat.reduceBEq, Nat.reduceLT, if_true, if_false, beq_self_eq_true, BEq.rfl, ne_eq, tt9, e_laws_Item]
    (try simp only [WN.down, Nat.reduceAdd, if_true, if_false, ↓reduceIte, tt9, e_laws_Item] at hP)
    (try simp only [WN.down, Nat.reduceAdd, if_true, if_false, ↓reduceIte, tt9, e_laws_Item])
    exact hP
  rcases condE h with ⟨b4, h⟩ | ⟨b4, h⟩
  · refine w_ct (congrArg AV.bool b4) ?_
    simp only [b4, Bool.not_true, Bool.not_false]
    refine w_sreg (w_abs [(4, .bool true)] (fun P hP => ?_) ?_)
    · simp only [W0.down, Nat.reduceEqDiff, ↓reduceIte, reduceCtorEq, Nat.reduceAdd, Nat.reduceSub, Nat.reduceMul, Nat.reduceLeDiff, Nat.reduceBEq, Nat.reduceLT, if_true, if_false, beq_self_eq_true, BEq.rfl, ne_eq, e_laws_Item]
      (try simp only [WN.down, Nat.reduceAdd, if_true, if_false, ↓reduceIte, e_laws_Item] at hP)
      (try simp only [WN.down, Nat.reduceAdd, if_true, if_false, ↓reduceIte, e_laws_Item])
      exact hP
    exact w_ret (q2 _ (r0 _ (.inl (w_fin [.bool true] rfl (by cases someE h; rfl) (by decide) outs_nil))))
  · refine w_cf (congrArg AV.bool b4) ?_
    simp only [b4, Bool.not_true, Bool.not_false]
    refine w_skip (n2 _ (.inl ?_))
    refine w_sreg (w_abs [(0, .slice (a0.map e_laws_Item)), (1, .str a1), (5, .int .i64 1048576)] (fun P hP => ?_) ?_)
    · simp only [W0.down, Nat.reduceEqDiff, ↓reduceIte, reduceCtorEq, Nat.reduceAdd, Nat.reduceSub, Nat.reduceMul, Nat.reduceLeDiff, Nat.reduceBEq, Nat.reduceLT, if_true, if_false, beq_self_eq_true, BEq.rfl, ne_eq, e_laws_Item]
      (try simp only [WN.down, Nat.reduceAdd, if_true, if_false, ↓reduceIte, e_laws_Item] at hP)
      (try simp only [WN.down, Nat.reduceAdd, if_true, if_false, ↓reduceIte, e_laws_Item])
      exact hP
    obtain ⟨x1, e8, h⟩ := bindE h
    refine w_sreg (w_abs [(0, .slice (a0.map e_laws_Item)), (1, .str a1), (5, .int .i64 x1)] (fun P hP => ?_) ?_)
    · simp only [W0.down, Nat.reduceEqDiff, ↓reduceIte, reduceCtorEq, Nat.reduceAdd, Nat.reduceSub, Nat.reduceMul, Nat.reduceLeDiff, Nat.reduceBEq, Nat.reduceLT, if_true, if_false, beq_self_eq_true, BEq.rfl, ne_eq, e_laws_Item]
      refine w_call0 (ok_laws_szItemS a0 1048576 _ e8) rfl rfl rfl rfl (.inl rfl) ?_
      simp only [W0.down, Nat.reduceEqDiff, ↓reduceIte, reduceCtorEq, Nat.reduceAdd, Nat.reduceSub, Nat.reduceMul, Nat.reduceLeDiff, Nat.reduceBEq, Nat.reduceLT, if_true, if_false, beq_self_eq_true, BEq.rfl, ne_eq, e_laws_Item]
      (try simp only [WN.down, Nat.reduceAdd, if_true, if_false, ↓reduceIte, e_laws_Item] at hP)
      (try simp only [WN.down, Nat.reduceAdd, if_true, if_false, ↓reduceIte, e_laws_Item])
      exact hP
    refine w_seq (fun Q9 n9 q9 x9 => ?_)
    refine w_sreg (w_abs [(0, .slice (a0.map e_laws_Item)), (1, .str a1), (18, .bool (decide (x1 < 0)))] (fun P hP => ?_) ?_)
    · simp only [W0.down, Nat.reduceEqDiff, ↓reduceIte, reduceCtorEq, Nat.reduceAdd, Nat.reduceSub, Nat.reduceMul, Nat.reduceLeDiff, Nat.reduceBEq, Nat.reduceLT, if_true, if_false, beq_self_eq_true, BEq.rfl, ne_eq, e_laws_Item]
      (try simp only [WN.down, Nat.reduceAdd, if_true, if_false, ↓reduceIte, e_laws_Item] at hP)
      (try simp only [WN.down, Nat.reduceAdd, if_true, if_false, ↓reduceIte, e_laws_Item])
      exact hP
    rcases condE h with ⟨b11, h⟩ | ⟨b11, h⟩
    · refine w_ct (congrArg AV.bool b11) ?_
      simp only [b11, Bool.not_true, Bool.not_false]
      refine w_sreg (w_abs [(4, .bool true)] (fun P hP => ?_) ?_)
      · simp only [W0.down, Nat.reduceEqDiff, ↓reduceIte, reduceCtorEq, Nat.reduceAdd, Nat.reduceSub, Nat.reduceMul, Nat.reduceLeDiff, Nat.reduceBEq, Nat.reduceLT, if_true, if_false, beq_self_eq_true, BEq.rfl, ne_eq, e_laws_Item]
        (try simp only [WN.down, Nat.reduceAdd, if_true, if_false, ↓reduceIte, e_laws_Item] at hP)
        (try simp only [WN.down, Nat.reduceAdd, if_true, if_false, ↓reduceIte, e_laws_Item])
        exact hP
      exact w_ret (q9 _ (r0 _ (.inl (w_fin [.bool true] rfl (by cases someE h; rfl) (by decide) outs_nil))))
    · refine w_cf (congrArg AV.bool b11) ?_
      simp only [b11, Bool.not_true, Bool.not_false]
      refine w_skip (n9 _ (.inl ?_))
      obtain ⟨x2, e14, h⟩ := bindE h
      obtain ⟨x3, e15, h⟩ := bindE h
      refine w_sreg (w_abs [(0, .slice (a0.map e_laws_Item)), (1, .str a1), (6, .str x3.1), (7, .int .i64 x3.2)] (fun P hP => ?_) ?_)
      · simp only [W0.down, Nat.reduceEqDiff, ↓reduceIte, reduceCtorEq, Nat.reduceAdd, Nat.reduceSub, Nat.reduceMul, Nat.reduceLeDiff, Nat.reduceBEq, Nat.reduceLT, if_true, if_false, beq_self_eq_true, BEq.rfl, ne_eq, e_impl_Item, e_laws_Item]
        refine w_call0 (ok_laws_toItemS a0 _ e14) rfl rfl rfl rfl (.inl rfl) ?_
        simp only [W0.down, Nat.reduceEqDiff, ↓reduceIte, reduceCtorEq, Nat.reduceAdd, Nat.reduceSub, Nat.reduceMul, Nat.reduceLeDiff, Nat.reduceBEq, Nat.reduceLT, if_true, if_false, beq_self_eq_true, BEq.rfl, ne_eq, e_impl_Item, e_laws_Item]
        refine w_call0 (ok_spec_FindItem x2 a1 _ e15) rfl rfl (by simp only [W0.down, Nat.reduceEqDiff, ↓reduceIte, reduceCtorEq, Nat.reduceAdd, Nat.reduceSub, Nat.reduceMul, Nat.reduceLeDiff, Nat.reduceBEq, Nat.reduceLT, if_true, if_false, beq_self_eq_true, BEq.rfl, ne_eq, e_impl_Item, e_laws_Item, view_s, view_h, viewH_s, share_s, @shares_map _ e_impl_Item e_impl_Item (fun _ => sh_e_impl_Item _)]) rfl (.inr rfl) ?_
        simp only [W0.down, Nat.reduceEqDiff, ↓reduceIte, reduceCtorEq, Nat.reduceAdd, Nat.reduceSub, Nat.reduceMul, Nat.reduceLeDiff, Nat.reduceBEq, Nat.reduceLT, if_true, if_false, beq_self_eq_true, BEq.rfl, ne_eq, e_impl_Item, e_laws_Item]
        (try simp only [WN.down, Nat.reduceAdd, if_true, if_false, ↓reduceIte, e_impl_Item, e_laws_Item] at hP)
        (try simp only [WN.down, Nat.reduceAdd, if_true, if_false, ↓reduceIte, e_impl_Item, e_laws_Item])
        exact hP
      obtain ⟨x4, e17, h⟩ := bindE h
      refine w_sreg (w_abs [(0, .slice (a0.map e_laws_Item)), (1, .str a1), (6, .str x3.1), (7, .int .i64 x3.2), (8, .uslice 2 (x4.map e_impl_Item))] (fun P hP => ?_) ?_)
      · simp only [W0.down, Nat.reduceEqDiff, ↓reduceIte, reduceCtorEq, Nat.reduceAdd, Nat.reduceSub, Nat.reduceMul, Nat.reduceLeDiff, Nat.reduceBEq, Nat.reduceLT, if_true, if_false, beq_self_eq_true, BEq.rfl, ne_eq, e_impl_Item, e_laws_Item]
        refine w_call0 (ok_laws_toItemS a0 _ e17) rfl rfl rfl rfl (.inl rfl) ?_
        simp only [W0.down, Nat.reduceEqDiff, ↓reduceIte, reduceCtorEq, Nat.reduceAdd, Nat.reduceSub, Nat.reduceMul, Nat.reduceLeDiff, Nat.reduceBEq, Nat.reduceLT, if_true, if_false, beq_self_eq_true, BEq.rfl, ne_eq, e_impl_Item, e_laws_Item]
        (try simp only [WN.down, Nat.reduceAdd, if_true, if_false, ↓reduceIte, e_impl_Item, e_laws_Item] at hP)
        (try simp only [WN.down, Nat.reduceAdd, if_true, if_false, ↓reduceIte, e_impl_Item, e_laws_Item])
        exact hP
      obtain ⟨x5, e19, h⟩ := bindE h
      refine w_sreg (w_abs [(0, .slice (a0.map e_laws_Item)), (6, .str x3.1), (7, .int .i64 x3.2), (8, .uslice 2 (x4.map e_impl_Item)), (9, .str x5.1), (10, .int .i64 x5.2)] (fun P hP => ?_) ?_)
      · simp only [W0.down, Nat.reduceEqDiff, ↓reduceIte, reduceCtorEq, Nat.reduceAdd, Nat.reduceSub, Nat.reduceMul, Nat.reduceLeDiff, Nat.reduceBEq, Nat.reduceLT, if_true, if_false, beq_self_eq_true, BEq.rfl, ne_eq, e_impl_Item, e_laws_Item]
        refine w_call0 (ok_impl_FindItem x4 a1 _ e19) rfl rfl (by simp only [W0.down, Nat.reduceEqDiff, ↓reduceIte, reduceCtorEq, Nat.reduceAdd, Nat.reduceSub, Nat.reduceMul, Nat.reduceLeDiff, Nat.reduceBEq, Nat.reduceLT, if_true, if_false, beq_self_eq_true, BEq.rfl, ne_eq, e_impl_Item, e_laws_Item, view_s, view_h, viewH_s, share_s, @shares_map _ e_impl_Item e_impl_Item (fun _ => sh_e_impl_Item _)]) rfl (.inr rfl) ?_
        simp only [W0.down, Nat.reduceEqDiff, ↓reduceIte, reduceCtorEq, Nat.reduceAdd, Nat.reduceSub, Nat.reduceMul, Nat.reduceLeDiff, Nat.reduceBEq, Nat.reduceLT, if_true, if_false, beq_self_eq_true, BEq.rfl, ne_eq, e_impl_Item, e_laws_Item]
        (try simp only [WN.down, Nat.reduceAdd, if_true, if_false, ↓reduceIte, e_impl_Item, e_laws_Item] at hP)
        (try simp only [WN.down, Nat.reduceAdd, if_true, if_false, ↓reduceIte, e_impl_Item, e_laws_Item])
        exact hP
      refine w_seq (fun Q20 n20 q20 x20 => ?_)
      refine w_sreg (w_abs [(0, .slice (a0.map e_laws_Item)), (8, .uslice 2 (x4.map e_impl_Item)), (41, .bool ((!(x5.1 == x3.1)) || (x5.2 != x3.2)))] (fun P hP => ?_) ?_)
      · rcases Bool.eq_false_or_eq_true ((!(x5.1 == x3.1))) with s22 | s22
        · simp only [W0.down, Nat.reduceEqDiff, ↓reduceIte, reduceCtorEq, Nat.reduceAdd, Nat.reduceSub, Nat.reduceMul, Nat.reduceLeDiff, Nat.reduceBEq, Nat.reduceLT, if_true, if_false, beq_self_eq_true, BEq.rfl, ne_eq, e_impl_Item, e_laws_Item, s22]
          (try simp only [WN.down, Nat.reduceAdd, if_true, if_false, ↓reduceIte, e_impl_Item, e_laws_Item, s22] at hP)
          (try simp only [WN.down, Nat.reduceAdd, if_true, if_false, ↓reduceIte, e_impl_Item, e_laws_Item, s22])
          exact hP
        · simp only [W0.down, Nat.reduceEqDiff, ↓reduceIte, reduceCtorEq, Nat.reduceAdd, Nat.reduceSub, Nat.reduceMul, Nat.reduceLeDiff, Nat.reduceBEq, Nat.reduceLT, if_true, if_false, beq_self_eq_true, BEq.rfl, ne_eq, e_impl_Item, e_laws_Item, s22]
          (try simp only [WN.down, Nat.reduceAdd, if_true, if_false, ↓reduceIte, e_impl_Item, e_laws_Item, s22] at hP)
          (try simp only [WN.down, Nat.reduceAdd, if_true, if_false, ↓reduceIte, e_impl_Item, e_laws_Item, s22])
          exact hP
      rcases condE h with ⟨b23, h⟩ | ⟨b23, h⟩
      · refine w_ct (congrArg AV.bool b23) ?_
        simp only [b23, Bool.not_true, Bool.not_false]
        refine w_sreg (w_abs [(4, .bool false)] (fun P hP => ?_) ?_)
        · simp only [W0.down, Nat.reduceEqDiff, ↓reduceIte, reduceCtorEq, Nat.reduceAdd, Nat.reduceSub, Nat.reduceMul, Nat.reduceLeDiff, Nat.reduceBEq, Nat.reduceLT, if_true, if_false, beq_self_eq_true, BEq.rfl, ne_eq, e_impl_Item, e_laws_Item]
          (try simp only [WN.down, Nat.reduceAdd, if_true, if_false, ↓reduceIte, e_impl_Item, e_laws_Item] at hP)
          (try simp only [WN.down, Nat.reduceAdd, if_true, if_false, ↓reduceIte, e_impl_Item, e_laws_Item])
          exact hP
        exact w_ret (q20 _ (r0 _ (.inl (w_fin [.bool false] rfl (by cases someE h; rfl) (by decide) outs_nil))))
      · refine w_cf (congrArg AV.bool b23) ?_
        simp only [b23, Bool.not_true, Bool.not_false]
        refine w_skip (n20 _ (.inl ?_))
        refine w_seq (fun Q25 n25 q25 x25 => ?_)
        obtain ⟨x6, e27, h⟩ := bindE h
        obtain ⟨x7, e28, h⟩ := bindE h
        refine w_sreg (w_abs [(46, .bool (!x7))] (fun P hP => ?_) ?_)
        · simp only [W0.down, Nat.reduceEqDiff, ↓reduceIte, reduceCtorEq, Nat.reduceAdd, Nat.reduceSub, Nat.reduceMul, Nat.reduceLeDiff, Nat.reduceBEq, Nat.reduceLT, if_true, if_false, beq_self_eq_true, BEq.rfl, ne_eq, e_impl_Item, e_laws_Item]
          refine w_call0 (ok_laws_toItemS a0 _ e27) rfl rfl rfl rfl (.inl rfl) ?_
          simp only [W0.down, Nat.reduceEqDiff, ↓reduceIte, reduceCtorEq, Nat.reduceAdd, Nat.reduceSub, Nat.reduceMul, Nat.reduceLeDiff, Nat.reduceBEq, Nat.reduceLT, if_true, if_false, beq_self_eq_true, BEq.rfl, ne_eq, e_impl_Item, e_laws_Item]
          refine w_call0 (ok_laws_eqItemS x4 x6 _ e28) rfl rfl (by simp only [W0.down, Nat.reduceEqDiff, ↓reduceIte, reduceCtorEq, Nat.reduceAdd, Nat.reduceSub, Nat.reduceMul, Nat.reduceLeDiff, Nat.reduceBEq, Nat.reduceLT, if_true, if_false, beq_self_eq_true, BEq.rfl, ne_eq, e_impl_Item, e_laws_Item, view_s, view_h, viewH_s, share_s, @shares_map _ e_impl_Item e_impl_Item (fun _ => sh_e_impl_Item _), @shares_map _ e_impl_Item e_impl_Item (fun _ => sh_e_impl_Item _)]) rfl (.inr rfl) ?_
          simp only [W0.down, Nat.reduceEqDiff, ↓reduceIte, reduceCtorEq, Nat.reduceAdd, Nat.reduceSub, Nat.reduceMul, Nat.reduceLeDiff, Nat.reduceBEq, Nat.reduceLT, if_true, if_false, beq_self_eq_true, BEq.rfl, ne_eq, e_impl_Item, e_laws_Item]
          (try simp only [WN.down, Nat.reduceAdd, if_true, if_false, ↓reduceIte, e_impl_Item, e_laws_Item] at hP)
          (try simp only [WN.down, Nat.reduceAdd, if_true, if_false, ↓reduceIte, e_impl_Item, e_laws_Item])
          exact hP
        rcases condE h with ⟨b29, h⟩ | ⟨b29, h⟩
        · refine w_ct (congrArg AV.bool b29) ?_
          simp only [b29, Bool.not_true, Bool.not_false]
          refine w_sreg (w_abs [(4, .bool false)] (fun P hP => ?_) ?_)
          · simp only [W0.down, Nat.reduceEqDiff, ↓reduceIte, reduceCtorEq, Nat.reduceAdd, Nat.reduceSub, Nat.reduceMul, Nat.reduceLeDiff, Nat.reduceBEq, Nat.reduceLT, if_true, if_false, beq_self_eq_true, BEq.rfl, ne_eq]
            (try simp only [WN.down, Nat.reduceAdd, if_true, if_false, ↓reduceIte] at hP)
            (try simp only [WN.down, Nat.reduceAdd, if_true, if_false, ↓reduceIte])
            exact hP
          exact w_ret (q25 _ (r0 _ (.inl (w_fin [.bool false] rfl (by cases someE h; rfl) (by decide) outs_nil))))
        · refine w_cf (congrArg AV.bool b29) ?_
          simp only [b29, Bool.not_true, Bool.not_false]
          refine w_skip (n25 _ (.inl ?_))
          refine w_sreg (w_abs [(4, .bool true)] (fun P hP => ?_) ?_)
          · simp only [W0.down, Nat.reduceEqDiff, ↓reduceIte, reduceCtorEq, Nat.reduceAdd, Nat.reduceSub, Nat.reduceMul, Nat.reduceLeDiff, Nat.reduceBEq, Nat.reduceLT, if_true, if_false, beq_self_eq_true, BEq.rfl, ne_eq]
            (try simp only [WN.down, Nat.reduceAdd, if_true, if_false, ↓reduceIte] at hP)
            (try simp only [WN.down, Nat.reduceAdd, if_true, if_false, ↓reduceIte])
            exact hP
          exact w_ret (r0 _ (.inl (w_fin [.bool true] rfl (by cases someE h; rfl) (by decide) outs_nil)))

end Go.Proofs.Ytncnipaofaeaiaa
