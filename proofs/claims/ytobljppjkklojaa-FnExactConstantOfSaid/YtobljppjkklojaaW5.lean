/- Part of a proof that a law returns true for every input. No condition. -/
import Derived.Test.YtobljppjkklojaaC5
namespace Go.Proofs.Ytobljppjkklojaa
open Go Go.Fw Go.Sh
set_option maxRecDepth 100000
set_option linter.unusedSimpArgs false
set_option linter.unusedVariables false

theorem ok_laws_szTermS  (a0 : List laws_Term) (a1 : Int) (r : Int) (h : laws_szTermS  a0 a1 = some r) : OkAt Cc 31 [.slice (a0.map e_laws_Term), .int .i64 a1] (.int .i64 r) [] := by
  refine OkAt.of_wpQ (fx := [0]) Cc_ok Try.func31 rfl rfl s31 (Nat.le_of_ble_eq_true rfl) (fun Q0 r0 n0 => ?_)
  replace r0 : ∀ s, onW (Fw.Ends Cc [0] [.tmp 4] (.int .i64 r) []) s → Q0 .ret s := r0
  replace n0 : ∀ s, onW (Fw.Ends Cc [0] [.tmp 4] (.int .i64 r) []) s → Q0 .normal s := n0
  show wpC Cc c31 Q0 (stA [(0, .slice (a0.map e_laws_Term)), (1, .int .i64 a1)])
  refine w_sreg (w_abs [(0, .slice (a0.map e_laws_Term)), (1, .int .i64 a1)] (fun P hP => ?_) ?_)
  · simp only [W0.down, Nat.reduceEqDiff, ↓reduceIte, reduceCtorEq, Nat.reduceAdd, Nat.reduceSub, Nat.reduceMul, Nat.reduceLeDiff, Nat.reduceBEq, Nat.reduceLT, if_true, if_false, beq_self_eq_true, BEq.rfl, ne_eq, e_laws_Term]
    (try simp only [WN.down, Nat.reduceAdd, if_true, if_false, ↓reduceIte, e_laws_Term] at hP)
    (try simp only [WN.down, Nat.reduceAdd, if_true, if_false, ↓reduceIte, e_laws_Term])
    exact hP
  refine w_sreg (w_abs [(1, .int .i64 (IntKind.i64.wrap (a1 - (a0.length : Int))))] (fun P hP => ?_) ?_)
  · simp only [W0.down, Nat.reduceEqDiff, ↓reduceIte, reduceCtorEq, Nat.reduceAdd, Nat.reduceSub, Nat.reduceMul, Nat.reduceLeDiff, Nat.reduceBEq, Nat.reduceLT, if_true, if_false, beq_self_eq_true, BEq.rfl, ne_eq, tt2, tt36, tt133, e_laws_Term]
    (try simp only [WN.down, Nat.reduceAdd, if_true, if_false, ↓reduceIte, tt2, tt36, tt133, e_laws_Term] at hP)
    (try simp only [WN.down, Nat.reduceAdd, if_true, if_false, ↓reduceIte, tt2, tt36, tt133, e_laws_Term])
    exact hP
  refine w_seq (fun Q3 n3 q3 x3 => ?_)
  refine w_sreg (w_abs [(1, .int .i64 (IntKind.i64.wrap (a1 - (a0.length : Int)))), (10, .bool (decide ((IntKind.i64.wrap (a1 - (a0.length : Int))) < 0)))] (fun P hP => ?_) ?_)
  · simp only [W0.down, Nat.reduceEqDiff, ↓reduceIte, reduceCtorEq, Nat.reduceAdd, Nat.reduceSub, Nat.reduceMul, Nat.reduceLeDiff, Nat.reduceBEq, Nat.reduceLT, if_true, if_false, beq_self_eq_true, BEq.rfl, ne_eq]
    (try simp only [WN.down, Nat.reduceAdd, if_true, if_false, ↓reduceIte] at hP)
    (try simp only [WN.down, Nat.reduceAdd, if_true, if_false, ↓reduceIte])
    exact hP
  rcases condE h with ⟨b5, h⟩ | ⟨b5, h⟩
  · refine w_ct (congrArg AV.bool b5) ?_
    simp only [b5, Bool.not_true, Bool.not_false]
    refine w_sreg (w_abs [(4, .int .i64 (-1))] (fun P hP => ?_) ?_)
    · simp only [W0.down, Nat.reduceEqDiff, ↓reduceIte, reduceCtorEq, Nat.reduceAdd, Nat.reduceSub, Nat.reduceMul, Nat.reduceLeDiff, Nat.reduceBEq, Nat.reduceLT, if_true, if_false, beq_self_eq_true, BEq.rfl, ne_eq]
      (try simp only [WN.down, Nat.reduceAdd, if_true, if_false, ↓reduceIte] at hP)
      (try simp only [WN.down, Nat.reduceAdd, if_true, if_false, ↓reduceIte])
      exact hP
    exact w_ret (q3 _ (r0 _ (.inl (w_fin [.int .i64 (-1)] rfl (by cases someE h; rfl) (by decide) outs_nil))))
  · refine w_cf (congrArg AV.bool b5) ?_
    simp only [b5, Bool.not_true, Bool.not_false]
    refine w_skip (n3 _ (.inl ?_))
    refine w_sreg (w_abs [(4, .int .i64 (IntKind.i64.wrap (a1 - (a0.length : Int))))] (fun P hP => ?_) ?_)
    · simp only [W0.down, Nat.reduceEqDiff, ↓reduceIte, reduceCtorEq, Nat.reduceAdd, Nat.reduceSub, Nat.reduceMul, Nat.reduceLeDiff, Nat.reduceBEq, Nat.reduceLT, if_true, if_false, beq_self_eq_true, BEq.rfl, ne_eq]
      (try simp only [WN.down, Nat.reduceAdd, if_true, if_false, ↓reduceIte] at hP)
      (try simp only [WN.down, Nat.reduceAdd, if_true, if_false, ↓reduceIte])
      exact hP
    exact w_ret (r0 _ (.inl (w_fin [.int .i64 (IntKind.i64.wrap (a1 - (a0.length : Int)))] rfl (by cases someE h; rfl) (by decide) outs_nil)))

theorem ok_laws_toTerm  (a0 : laws_Term) (r : impl_Term) (h : laws_toTerm  a0 = some r) : OkAt Cc 107 [e_laws_Term a0] (e_impl_Term r) [] := by
  refine OkAt.of_wpQ (fx := [0]) Cc_ok Try.func107 rfl rfl s107 (Nat.le_of_ble_eq_true rfl) (fun Q0 r0 n0 => ?_)
  replace r0 : ∀ s, onW (Fw.Ends Cc [0] [.cell 2 131] (e_impl_Term r) []) s → Q0 .ret s := r0
  replace n0 : ∀ s, onW (Fw.Ends Cc [0] [.cell 2 131] (e_impl_Term r) []) s → Q0 .normal s := n0
  show wpC Cc c107 Q0 (stA [(0, e_laws_Term a0)])
  refine w_sreg (w_abs [(1, .ubox (e_laws_Term a0)), (2, .ubox (.agg [.int .i64 0, .int .i64 0]))] (fun P hP => ?_) ?_)
  · simp only [W0.down, Nat.reduceEqDiff, ↓reduceIte, reduceCtorEq, Nat.reduceAdd, Nat.reduceSub, Nat.reduceMul, Nat.reduceLeDiff, Nat.reduceBEq, Nat.reduceLT, if_true, if_false, beq_self_eq_true, BEq.rfl, ne_eq, tt2, tt131, tt133, e_laws_Term]
    (try simp only [WN.down, Nat.reduceAdd, if_true, if_false, ↓reduceIte, tt2, tt131, tt133, e_laws_Term] at hP)
    (try simp only [WN.down, Nat.reduceAdd, if_true, if_false, ↓reduceIte, tt2, tt131, tt133, e_laws_Term])
    exact hP
  refine w_sreg (w_abs [(1, .ubox (e_laws_Term a0)), (2, .ubox (.agg [.int .i64 0, .int .i64 0])), (3, .ubox (.agg [.int .i64 0, .int .i64 0]))] (fun P hP => ?_) ?_)
  · simp only [W0.down, Nat.reduceEqDiff, ↓reduceIte, reduceCtorEq, Nat.reduceAdd, Nat.reduceSub, Nat.reduceMul, Nat.reduceLeDiff, Nat.reduceBEq, Nat.reduceLT, if_true, if_false, beq_self_eq_true, BEq.rfl, ne_eq, tt2, tt131, e_laws_Term]
    (try simp only [WN.down, Nat.reduceAdd, if_true, if_false, ↓reduceIte, tt2, tt131, e_laws_Term] at hP)
    (try simp only [WN.down, Nat.reduceAdd, if_true, if_false, ↓reduceIte, tt2, tt131, e_laws_Term])
    exact hP
  refine w_sreg (w_abs [(1, .ubox (e_laws_Term a0)), (2, .ubox (.agg [.int .i64 0, .int .i64 0])), (3, .ubox (.agg [.int .i64 a0.Kind, .int .i64 0]))] (fun P hP => ?_) ?_)
  · simp only [W0.down, Nat.reduceEqDiff, ↓reduceIte, reduceCtorEq, Nat.reduceAdd, Nat.reduceSub, Nat.reduceMul, Nat.reduceLeDiff, Nat.reduceBEq, Nat.reduceLT, if_true, if_false, beq_self_eq_true, BEq.rfl, ne_eq, tt2, tt131, tt133, e_laws_Term]
    (try simp only [WN.down, Nat.reduceAdd, if_true, if_false, ↓reduceIte, tt2, tt131, tt133, e_laws_Term] at hP)
    (try simp only [WN.down, Nat.reduceAdd, if_true, if_false, ↓reduceIte, tt2, tt131, tt133, e_laws_Term])
    exact hP
  refine w_sreg (w_abs [(2, .ubox (.agg [.int .i64 0, .int .i64 0])), (3, .ubox (.agg [.int .i64 a0.Kind, .int .i64 a0.Value]))] (fun P hP => ?_) ?_)
  · simp only [W0.down, Nat.reduceEqDiff, ↓reduceIte, reduceCtorEq, Nat.reduceAdd, Nat.reduceSub, Nat.reduceMul, Nat.reduceLeDiff, Nat.reduceBEq, Nat.reduceLT, if_true, if_false, beq_self_eq_true, BEq.rfl, ne_eq, tt2, tt131, tt133, e_laws_Term]
    (try simp only [WN.down, Nat.reduceAdd, if_true, if_false, ↓reduceIte, tt2, tt131, tt133, e_laws_Term] at hP)
    (try simp only [WN.down, Nat.reduceAdd, if_true, if_false, ↓reduceIte, tt2, tt131, tt133, e_laws_Term])
    exact hP
  refine w_sreg (w_abs [(2, .ubox (.agg [.int .i64 a0.Kind, .int .i64 a0.Value]))] (fun P hP => ?_) ?_)
  · simp only [W0.down, Nat.reduceEqDiff, ↓reduceIte, reduceCtorEq, Nat.reduceAdd, Nat.reduceSub, Nat.reduceMul, Nat.reduceLeDiff, Nat.reduceBEq, Nat.reduceLT, if_true, if_false, beq_self_eq_true, BEq.rfl, ne_eq, tt2, tt131]
    (try simp only [WN.down, Nat.reduceAdd, if_true, if_false, ↓reduceIte, tt2, tt131] at hP)
    (try simp only [WN.down, Nat.reduceAdd, if_true, if_false, ↓reduceIte, tt2, tt131])
    exact hP
  exact w_ret (r0 _ (.inl (w_fin [e_impl_Term (impl_Term.mk a0.Kind a0.Value)] rfl (by cases someE h; rfl) (by decide) outs_nil)))

theorem ok_laws_toTermS  (a0 : List laws_Term) (r : (List impl_Term)) (h : laws_toTermS  a0 = some r) : OkAt Cc 33 [.slice (a0.map e_laws_Term)] (.uslice 2 (r.map e_impl_Term)) [] := by
  refine OkAt.of_wpQ (fx := [0]) Cc_ok Try.func33 rfl rfl s33 (Nat.le_of_ble_eq_true rfl) (fun Q0 r0 n0 => ?_)
  replace r0 : ∀ s, onW (Fw.Ends Cc [0] [.tmp 2] (.uslice 2 (r.map e_impl_Term)) []) s → Q0 .ret s := r0
  replace n0 : ∀ s, onW (Fw.Ends Cc [0] [.tmp 2] (.uslice 2 (r.map e_impl_Term)) []) s → Q0 .normal s := n0
  show wpC Cc c33 Q0 (stA [(0, .slice (a0.map e_laws_Term))])
  refine w_sreg (w_abs [(0, .slice (a0.map e_laws_Term))] (fun P hP => ?_) ?_)
  · simp only [W0.down, Nat.reduceEqDiff, ↓reduceIte, reduceCtorEq, Nat.reduceAdd, Nat.reduceSub, Nat.reduceMul, Nat.reduceLeDiff, Nat.reduceBEq, Nat.reduceLT, if_true, if_false, beq_self_eq_true, BEq.rfl, ne_eq, e_laws_Term]
    (try simp only [WN.down, Nat.reduceAdd, if_true, if_false, ↓reduceIte, e_laws_Term] at hP)
    (try simp only [WN.down, Nat.reduceAdd, if_true, if_false, ↓reduceIte, e_laws_Term])
    exact hP
  obtain ⟨u18, e3, h⟩ := bindE h
  refine w_sreg (w_abs [(0, .slice (a0.map e_laws_Term)), (3, .uslice 2 ((List.replicate (Int.toNat (a0.length : Int)) (impl_Term.mk 0 0)).map e_impl_Term))] (fun P hP => ?_) ?_)
  · simp only [W0.down, Nat.reduceEqDiff, ↓reduceIte, reduceCtorEq, Nat.reduceAdd, Nat.reduceSub, Nat.reduceMul, Nat.reduceLeDiff, Nat.reduceBEq, Nat.reduceLT, if_true, if_false, beq_self_eq_true, BEq.rfl, ne_eq, tt2, tt36, tt40, tt131, tt133, e_impl_Term, e_laws_Term, (mkOkE e3).1, (mkOkE e3).2.1, (mkOkE e3).2.2, mks, List.map_replicate]
    (try simp only [WN.down, Nat.reduceAdd, if_true, if_false, ↓reduceIte, tt2, tt36, tt40, tt131, tt133, e_impl_Term, e_laws_Term, (mkOkE e3).1, (mkOkE e3).2.1, (mkOkE e3).2.2, mks, List.map_replicate] at hP)
    (try simp only [WN.down, Nat.reduceAdd, if_true, if_false, ↓reduceIte, tt2, tt36, tt40, tt131, tt133, e_impl_Term, e_laws_Term, (mkOkE e3).1, (mkOkE e3).2.1, (mkOkE e3).2.2, mks, List.map_replicate])
    exact hP
  refine w_seq (fun Q4 n4 q4 x4 => ?_)
  refine w_sreg (w_abs [(0, .slice (a0.map e_laws_Term)), (3, .uslice 2 ((List.replicate (Int.toNat (a0.length : Int)) (impl_Term.mk 0 0)).map e_impl_Term)), (4, .int .i64 0)] (fun P hP => ?_) ?_)
  · simp only [W0.down, Nat.reduceEqDiff, ↓reduceIte, reduceCtorEq, Nat.reduceAdd, Nat.reduceSub, Nat.reduceMul, Nat.reduceLeDiff, Nat.reduceBEq, Nat.reduceLT, if_true, if_false, beq_self_eq_true, BEq.rfl, ne_eq, e_impl_Term, e_laws_Term]
    (try simp only [WN.down, Nat.reduceAdd, if_true, if_false, ↓reduceIte, e_impl_Term, e_laws_Term] at hP)
    (try simp only [WN.down, Nat.reduceAdd, if_true, if_false, ↓reduceIte, e_impl_Term, e_laws_Term])
    exact hP
  refine w_blk (fun Q6 n6 q6 b6 x6 => ?_)
  have L8 : ∀ (n : Nat) (v3_8 : List impl_Term) (v4_8 : Int), laws_toTermS_l8 a0 n v3_8 v4_8 = some r → lpC Cc c33_9 Q6 (stA [(0, .slice (a0.map e_laws_Term)), (3, .uslice 2 (v3_8.map e_impl_Term)), (4, .int .i64 v4_8)]) := by
    intro m8
    induction m8 with
    | zero => intro v3_8 v4_8 h; cases (show none = some r from h)
    | succ m8 ih8 =>
      intro v3_8 v4_8 h
      replace h : laws_toTermS_b8 (laws_toTermS_l8 a0 m8) a0 v3_8 v4_8 = some r := h
      refine lpC_step (fun Q7 n7 q7 x7 => ?_)
      refine w_seq (fun Q8 n8 q8 x8 => ?_)
      refine w_sreg (w_abs [(0, .slice (a0.map e_laws_Term)), (3, .uslice 2 (v3_8.map e_impl_Term)), (4, .int .i64 v4_8), (11, .bool (decide (v4_8 < (a0.length : Int))))] (fun P hP => ?_) ?_)
      · simp only [W0.down, Nat.reduceEqDiff, ↓reduceIte, reduceCtorEq, Nat.reduceAdd, Nat.reduceSub, Nat.reduceMul, Nat.reduceLeDiff, Nat.reduceBEq, Nat.reduceLT, if_true, if_false, beq_self_eq_true, BEq.rfl, ne_eq, tt2, tt36, tt133, e_impl_Term, e_laws_Term]
        (try simp only [WN.down, Nat.reduceAdd, if_true, if_false, ↓reduceIte, tt2, tt36, tt133, e_impl_Term, e_laws_Term] at hP)
        (try simp only [WN.down, Nat.reduceAdd, if_true, if_false, ↓reduceIte, tt2, tt36, tt133, e_impl_Term, e_laws_Term])
        exact hP
      rcases condE h with ⟨b10, h⟩ | ⟨b10, h⟩
      · refine w_ct (congrArg AV.bool b10) ?_
        simp only [b10, Bool.not_true, Bool.not_false]
        refine w_skip (n8 _ (.inl ?_))
        refine w_seq (fun Q11 n11 q11 x11 => ?_)
        refine w_blk (fun Q12 n12 q12 b12 x12 => ?_)
        obtain ⟨x1, e14, h⟩ := bindE h
        obtain ⟨x2, e15, h⟩ := bindE h
        obtain ⟨x3, e16, h⟩ := bindE h
        refine w_reg (w_abs [(0, .slice (a0.map e_laws_Term)), (3, .uslice 2 ((List.set v3_8 (Int.toNat v4_8) x2).map e_impl_Term)), (4, .int .i64 v4_8)] (fun P hP => ?_) ?_)
        · simp only [W0.down, Nat.reduceEqDiff, ↓reduceIte, reduceCtorEq, Nat.reduceAdd, Nat.reduceSub, Nat.reduceMul, Nat.reduceLeDiff, Nat.reduceBEq, Nat.reduceLT, if_true, if_false, beq_self_eq_true, BEq.rfl, ne_eq, tt2, tt36, tt40, tt131, tt133, e_impl_Term, e_laws_Term, e14, e16, getI_get e16]
          refine w_call0 (ok_laws_toTerm x1 _ e15) rfl rfl rfl rfl (.inl (by rfl)) ?_
          simp only [W0.down, Nat.reduceEqDiff, ↓reduceIte, reduceCtorEq, Nat.reduceAdd, Nat.reduceSub, Nat.reduceMul, Nat.reduceLeDiff, Nat.reduceBEq, Nat.reduceLT, if_true, if_false, beq_self_eq_true, BEq.rfl, ne_eq, tt2, tt36, tt40, tt131, tt133, e_impl_Term, e_laws_Term, e14, e16, getI_get e16]
          (try simp only [WN.down, Nat.reduceAdd, if_true, if_false, ↓reduceIte, tt2, tt36, tt40, tt131, tt133, e_impl_Term, e_laws_Term, e14, e16, getI_get e16] at hP)
          (try simp only [WN.down, Nat.reduceAdd, if_true, if_false, ↓reduceIte, tt2, tt36, tt40, tt131, tt133, e_impl_Term, e_laws_Term, e14, e16, getI_get e16])
          exact hP
        refine n12 _ (n11 _ (.inl ?_))
        refine w_reg (w_abs [(0, .slice (a0.map e_laws_Term)), (3, .uslice 2 ((List.set v3_8 (Int.toNat v4_8) x2).map e_impl_Term)), (4, .int .i64 (IntKind.i64.wrap (v4_8 + 1)))] (fun P hP => ?_) ?_)
        · simp only [W0.down, Nat.reduceEqDiff, ↓reduceIte, reduceCtorEq, Nat.reduceAdd, Nat.reduceSub, Nat.reduceMul, Nat.reduceLeDiff, Nat.reduceBEq, Nat.reduceLT, if_true, if_false, beq_self_eq_true, BEq.rfl, ne_eq, e_impl_Term, e_laws_Term]
          (try simp only [WN.down, Nat.reduceAdd, if_true, if_false, ↓reduceIte, e_impl_Term, e_laws_Term] at hP)
          (try simp only [WN.down, Nat.reduceAdd, if_true, if_false, ↓reduceIte, e_impl_Term, e_laws_Term])
          exact hP
        exact n7 _ (.inr ⟨_, weak_eq rfl, ih8 (List.set v3_8 (Int.toNat v4_8) x2) (IntKind.i64.wrap (v4_8 + 1)) h⟩)
      · refine w_cf (congrArg AV.bool b10) ?_
        simp only [b10, Bool.not_true, Bool.not_false]
        refine w_ex (x8 0 _ (x7 0 _ (b6 _ (n4 _ (.inl ?_)))))
        refine w_sreg (w_abs [(2, .uslice 2 (v3_8.map e_impl_Term))] (fun P hP => ?_) ?_)
        · simp only [W0.down, Nat.reduceEqDiff, ↓reduceIte, reduceCtorEq, Nat.reduceAdd, Nat.reduceSub, Nat.reduceMul, Nat.reduceLeDiff, Nat.reduceBEq, Nat.reduceLT, if_true, if_false, beq_self_eq_true, BEq.rfl, ne_eq, e_impl_Term, e_laws_Term]
          (try simp only [WN.down, Nat.reduceAdd, if_true, if_false, ↓reduceIte, e_impl_Term, e_laws_Term] at hP)
          (try simp only [WN.down, Nat.reduceAdd, if_true, if_false, ↓reduceIte, e_impl_Term, e_laws_Term])
          exact hP
        exact w_ret (r0 _ (.inl (w_fin [.uslice 2 (v3_8.map e_impl_Term)] rfl (by cases someE h; rfl) (by decide) outs_nil)))
  obtain ⟨n, h⟩ := limE h
  exact w_loop (.inr ⟨_, weak_eq rfl, L8 n (List.replicate (Int.toNat (a0.length : Int)) (impl_Term.mk 0 0)) 0 h⟩)

theorem ok_spec_l00In  (a0 : Int) (a1 : Int) (a2 : Int) (r : Bool) (h : spec_l00In  a0 a1 a2 = some r) : OkAt Cc 130 [.int .i64 a0, .int .i64 a1, .int .i64 a2] (.bool r) [] := by
  refine OkAt.of_wpQ (fx := [0, 1, 2]) Cc_ok Try.func130 rfl rfl s130 (Nat.le_of_ble_eq_true rfl) (fun Q0 r0 n0 => ?_)
  replace r0 : ∀ s, onW (Fw.Ends Cc [0, 1, 2] [.tmp 6] (.bool r) []) s → Q0 .ret s := r0
  replace n0 : ∀ s, onW (Fw.Ends Cc [0, 1, 2] [.tmp 6] (.bool r) []) s → Q0 .normal s := n0
  show wpC Cc c130 Q0 (stA [(0, .int .i64 a0), (1, .int .i64 a1), (2, .int .i64 a2)])
  refine w_sreg (w_abs [(0, .int .i64 a0), (1, .int .i64 a1), (2, .int .i64 a2)] (fun P hP => ?_) ?_)
  · simp only [W0.down, Nat.reduceEqDiff, ↓reduceIte, reduceCtorEq, Nat.reduceAdd, Nat.reduceSub, Nat.reduceMul, Nat.reduceLeDiff, Nat.reduceBEq, Nat.reduceLT, if_true, if_false, beq_self_eq_true, BEq.rfl, ne_eq]
    (try simp only [WN.down, Nat.reduceAdd, if_true, if_false, ↓reduceIte] at hP)
    (try simp only [WN.down, Nat.reduceAdd, if_true, if_false, ↓reduceIte])
    exact hP
  refine w_sreg (w_abs [(6, .bool ((decide (a1 ≤ a0)) && (decide (a0 ≤ a2))))] (fun P hP => ?_) ?_)
  · rcases Bool.eq_false_or_eq_true ((decide (a1 ≤ a0))) with s3 | s3
    · simp only [W0.down, Nat.reduceEqDiff, ↓reduceIte, reduceCtorEq, Nat.reduceAdd, Nat.reduceSub, Nat.reduceMul, Nat.reduceLeDiff, Nat.reduceBEq, Nat.reduceLT, if_true, if_false, beq_self_eq_true, BEq.rfl, ne_eq, s3]
      (try simp only [WN.down, Nat.reduceAdd, if_true, if_false, ↓reduceIte, s3] at hP)
      (try simp only [WN.down, Nat.reduceAdd, if_true, if_false, ↓reduceIte, s3])
      exact hP
    · simp only [W0.down, Nat.reduceEqDiff, ↓reduceIte, reduceCtorEq, Nat.reduceAdd, Nat.reduceSub, Nat.reduceMul, Nat.reduceLeDiff, Nat.reduceBEq, Nat.reduceLT, if_true, if_false, beq_self_eq_true, BEq.rfl, ne_eq, s3]
      (try simp only [WN.down, Nat.reduceAdd, if_true, if_false, ↓reduceIte, s3] at hP)
      (try simp only [WN.down, Nat.reduceAdd, if_true, if_false, ↓reduceIte, s3])
      exact hP
  exact w_ret (r0 _ (.inl (w_fin [.bool ((decide (a1 ≤ a0)) && (decide (a0 ≤ a2)))] rfl (by cases someE h; rfl) (by decide) outs_nil)))

theorem ok_spec_l03Term  (a0 : impl_Term) (a1 : Int) (r : Bool) (h : spec_l03Term  a0 a1 = some r) : OkAt Cc 268 [.ref (e_impl_Term a0), .int .i64 a1] (.bool r) [] := by
  refine OkAt.of_wpQ (fx := [0, 1]) Cc_ok Try.func268 rfl rfl s268 (Nat.le_of_ble_eq_true rfl) (fun Q0 r0 n0 => ?_)
  replace r0 : ∀ s, onW (Fw.Ends Cc [0, 1] [.tmp 4] (.bool r) []) s → Q0 .ret s := r0
  replace n0 : ∀ s, onW (Fw.Ends Cc [0, 1] [.tmp 4] (.bool r) []) s → Q0 .normal s := n0
  show wpC Cc c268 Q0 (stA [(0, .ref (e_impl_Term a0)), (1, .int .i64 a1)])
  refine w_sreg (w_abs [(0, .ref (e_impl_Term a0)), (1, .int .i64 a1)] (fun P hP => ?_) ?_)
  · simp only [W0.down, Nat.reduceEqDiff, ↓reduceIte, reduceCtorEq, Nat.reduceAdd, Nat.reduceSub, Nat.reduceMul, Nat.reduceLeDiff, Nat.reduceBEq, Nat.reduceLT, if_true, if_false, beq_self_eq_true, BEq.rfl, ne_eq, e_impl_Term]
    (try simp only [WN.down, Nat.reduceAdd, if_true, if_false, ↓reduceIte, e_impl_Term] at hP)
    (try simp only [WN.down, Nat.reduceAdd, if_true, if_false, ↓reduceIte, e_impl_Term])
    exact hP
  refine w_seq (fun Q2 n2 q2 x2 => ?_)
  refine w_sreg (w_abs [(0, .ref (e_impl_Term a0)), (1, .int .i64 a1), (8, .int .i64 a0.Kind)] (fun P hP => ?_) ?_)
  · simp only [W0.down, Nat.reduceEqDiff, ↓reduceIte, reduceCtorEq, Nat.reduceAdd, Nat.reduceSub, Nat.reduceMul, Nat.reduceLeDiff, Nat.reduceBEq, Nat.reduceLT, if_true, if_false, beq_self_eq_true, BEq.rfl, ne_eq, tt2, tt131, e_impl_Term]
    (try simp only [WN.down, Nat.reduceAdd, if_true, if_false, ↓reduceIte, tt2, tt131, e_impl_Term] at hP)
    (try simp only [WN.down, Nat.reduceAdd, if_true, if_false, ↓reduceIte, tt2, tt131, e_impl_Term])
    exact hP
  refine w_blk (fun Q4 n4 q4 b4 x4 => ?_)
  refine w_sreg (w_abs [(0, .ref (e_impl_Term a0)), (1, .int .i64 a1), (8, .int .i64 a0.Kind), (9, .bool (a0.Kind == 0))] (fun P hP => ?_) ?_)
  · simp only [W0.down, Nat.reduceEqDiff, ↓reduceIte, reduceCtorEq, Nat.reduceAdd, Nat.reduceSub, Nat.reduceMul, Nat.reduceLeDiff, Nat.reduceBEq, Nat.reduceLT, if_true, if_false, beq_self_eq_true, BEq.rfl, ne_eq, e_impl_Term]
    (try simp only [WN.down, Nat.reduceAdd, if_true, if_false, ↓reduceIte, e_impl_Term] at hP)
    (try simp only [WN.down, Nat.reduceAdd, if_true, if_false, ↓reduceIte, e_impl_Term])
    exact hP
  rcases condE h with ⟨b6, h⟩ | ⟨b6, h⟩
  · refine w_ct (congrArg AV.bool b6) ?_
    simp only [b6, Bool.not_true, Bool.not_false]
    obtain ⟨x1, e8, h⟩ := bindE h
    refine w_sreg (w_abs [(4, .bool x1)] (fun P hP => ?_) ?_)
    · simp only [W0.down, Nat.reduceEqDiff, ↓reduceIte, reduceCtorEq, Nat.reduceAdd, Nat.reduceSub, Nat.reduceMul, Nat.reduceLeDiff, Nat.reduceBEq, Nat.reduceLT, if_true, if_false, beq_self_eq_true, BEq.rfl, ne_eq, tt2, tt131, e_impl_Term]
      refine w_call0 (ok_spec_l00In a0.Value 0 63 _ e8) rfl rfl rfl rfl (.inl (by rfl)) ?_
      simp only [W0.down, Nat.reduceEqDiff, ↓reduceIte, reduceCtorEq, Nat.reduceAdd, Nat.reduceSub, Nat.reduceMul, Nat.reduceLeDiff, Nat.reduceBEq, Nat.reduceLT, if_true, if_false, beq_self_eq_true, BEq.rfl, ne_eq, tt2, tt131, e_impl_Term]
      (try simp only [WN.down, Nat.reduceAdd, if_true, if_false, ↓reduceIte, tt2, tt131, e_impl_Term] at hP)
      (try simp only [WN.down, Nat.reduceAdd, if_true, if_false, ↓reduceIte, tt2, tt131, e_impl_Term])
      exact hP
    exact w_ret (q4 _ (q2 _ (r0 _ (.inl (w_fin [.bool x1] rfl (by cases someE h; rfl) (by decide) outs_nil)))))
  · refine w_cf (congrArg AV.bool b6) ?_
    simp only [b6, Bool.not_true, Bool.not_false]
    refine w_sreg (w_abs [(0, .ref (e_impl_Term a0)), (1, .int .i64 a1), (8, .int .i64 a0.Kind), (16, .bool (a0.Kind == 1))] (fun P hP => ?_) ?_)
    · simp only [W0.down, Nat.reduceEqDiff, ↓reduceIte, reduceCtorEq, Nat.reduceAdd, Nat.reduceSub, Nat.reduceMul, Nat.reduceLeDiff, Nat.reduceBEq, Nat.reduceLT, if_true, if_false, beq_self_eq_true, BEq.rfl, ne_eq, e_impl_Term]
      (try simp only [WN.down, Nat.reduceAdd, if_true, if_false, ↓reduceIte, e_impl_Term] at hP)
      (try simp only [WN.down, Nat.reduceAdd, if_true, if_false, ↓reduceIte, e_impl_Term])
      exact hP
    rcases condE h with ⟨b10, h⟩ | ⟨b10, h⟩
    · refine w_ct (congrArg AV.bool b10) ?_
      simp only [b10, Bool.not_true, Bool.not_false]
      obtain ⟨x2, e12, h⟩ := bindE h
      refine w_sreg (w_abs [(4, .bool x2)] (fun P hP => ?_) ?_)
      · simp only [W0.down, Nat.reduceEqDiff, ↓reduceIte, reduceCtorEq, Nat.reduceAdd, Nat.reduceSub, Nat.reduceMul, Nat.reduceLeDiff, Nat.reduceBEq, Nat.reduceLT, if_true, if_false, beq_self_eq_true, BEq.rfl, ne_eq, tt2, tt131, e_impl_Term]
        refine w_call0 (ok_spec_l00In a0.Value 0 (IntKind.i64.wrap (a1 - 1)) _ e12) rfl rfl rfl rfl (.inl (by rfl)) ?_
        simp only [W0.down, Nat.reduceEqDiff, ↓reduceIte, reduceCtorEq, Nat.reduceAdd, Nat.reduceSub, Nat.reduceMul, Nat.reduceLeDiff, Nat.reduceBEq, Nat.reduceLT, if_true, if_false, beq_self_eq_true, BEq.rfl, ne_eq, tt2, tt131, e_impl_Term]
        (try simp only [WN.down, Nat.reduceAdd, if_true, if_false, ↓reduceIte, tt2, tt131, e_impl_Term] at hP)
        (try simp only [WN.down, Nat.reduceAdd, if_true, if_false, ↓reduceIte, tt2, tt131, e_impl_Term])
        exact hP
      exact w_ret (q4 _ (q2 _ (r0 _ (.inl (w_fin [.bool x2] rfl (by cases someE h; rfl) (by decide) outs_nil)))))
    · refine w_cf (congrArg AV.bool b10) ?_
      simp only [b10, Bool.not_true, Bool.not_false]
      refine w_sreg (w_abs [(0, .ref (e_impl_Term a0)), (8, .int .i64 a0.Kind), (25, .bool (a0.Kind == 2))] (fun P hP => ?_) ?_)
      · simp only [W0.down, Nat.reduceEqDiff, ↓reduceIte, reduceCtorEq, Nat.reduceAdd, Nat.reduceSub, Nat.reduceMul, Nat.reduceLeDiff, Nat.reduceBEq, Nat.reduceLT, if_true, if_false, beq_self_eq_true, BEq.rfl, ne_eq, e_impl_Term]
        (try simp only [WN.down, Nat.reduceAdd, if_true, if_false, ↓reduceIte, e_impl_Term] at hP)
        (try simp only [WN.down, Nat.reduceAdd, if_true, if_false, ↓reduceIte, e_impl_Term])
        exact hP
      rcases condE h with ⟨b14, h⟩ | ⟨b14, h⟩
      · refine w_ct (congrArg AV.bool b14) ?_
        simp only [b14, Bool.not_true, Bool.not_false]
        obtain ⟨x3, e16, h⟩ := bindE h
        refine w_sreg (w_abs [(4, .bool x3)] (fun P hP => ?_) ?_)
        · simp only [W0.down, Nat.reduceEqDiff, ↓reduceIte, reduceCtorEq, Nat.reduceAdd, Nat.reduceSub, Nat.reduceMul, Nat.reduceLeDiff, Nat.reduceBEq, Nat.reduceLT, if_true, if_false, beq_self_eq_true, BEq.rfl, ne_eq, tt2, tt131, e_impl_Term]
          refine w_call0 (ok_spec_l00In a0.Value 0 8 _ e16) rfl rfl rfl rfl (.inl (by rfl)) ?_
          simp only [W0.down, Nat.reduceEqDiff, ↓reduceIte, reduceCtorEq, Nat.reduceAdd, Nat.reduceSub, Nat.reduceMul, Nat.reduceLeDiff, Nat.reduceBEq, Nat.reduceLT, if_true, if_false, beq_self_eq_true, BEq.rfl, ne_eq, tt2, tt131, e_impl_Term]
          (try simp only [WN.down, Nat.reduceAdd, if_true, if_false, ↓reduceIte, tt2, tt131, e_impl_Term] at hP)
          (try simp only [WN.down, Nat.reduceAdd, if_true, if_false, ↓reduceIte, tt2, tt131, e_impl_Term])
          exact hP
        exact w_ret (q4 _ (q2 _ (r0 _ (.inl (w_fin [.bool x3] rfl (by cases someE h; rfl) (by decide) outs_nil)))))
      · refine w_cf (congrArg AV.bool b14) ?_
        simp only [b14, Bool.not_true, Bool.not_false]
        refine w_sreg (w_abs [(0, .ref (e_impl_Term a0)), (32, .bool (a0.Kind == 3))] (fun P hP => ?_) ?_)
        · simp only [W0.down, Nat.reduceEqDiff, ↓reduceIte, reduceCtorEq, Nat.reduceAdd, Nat.reduceSub, Nat.reduceMul, Nat.reduceLeDiff, Nat.reduceBEq, Nat.reduceLT, if_true, if_false, beq_self_eq_true, BEq.rfl, ne_eq, e_impl_Term]
          (try simp only [WN.down, Nat.reduceAdd, if_true, if_false, ↓reduceIte, e_impl_Term] at hP)
          (try simp only [WN.down, Nat.reduceAdd, if_true, if_false, ↓reduceIte, e_impl_Term])
          exact hP
        rcases condE h with ⟨b18, h⟩ | ⟨b18, h⟩
        · refine w_ct (congrArg AV.bool b18) ?_
          simp only [b18, Bool.not_true, Bool.not_false]
          refine w_sreg (w_abs [(4, .bool (a0.Value == 0))] (fun P hP => ?_) ?_)
          · simp only [W0.down, Nat.reduceEqDiff, ↓reduceIte, reduceCtorEq, Nat.reduceAdd, Nat.reduceSub, Nat.reduceMul, Nat.reduceLeDiff, Nat.reduceBEq, Nat.reduceLT, if_true, if_false, beq_self_eq_true, BEq.rfl, ne_eq, tt2, tt131, e_impl_Term]
            (try simp only [WN.down, Nat.reduceAdd, if_true, if_false, ↓reduceIte, tt2, tt131, e_impl_Term] at hP)
            (try simp only [WN.down, Nat.reduceAdd, if_true, if_false, ↓reduceIte, tt2, tt131, e_impl_Term])
            exact hP
          exact w_ret (q4 _ (q2 _ (r0 _ (.inl (w_fin [.bool (a0.Value == 0)] rfl (by cases someE h; rfl) (by decide) outs_nil)))))
        · refine w_cf (congrArg AV.bool b18) ?_
          simp only [b18, Bool.not_true, Bool.not_false]
          refine w_skip (n4 _ (n2 _ (.inl ?_)))
          refine w_sreg (w_abs [(4, .bool false)] (fun P hP => ?_) ?_)
          · simp only [W0.down, Nat.reduceEqDiff, ↓reduceIte, reduceCtorEq, Nat.reduceAdd, Nat.reduceSub, Nat.reduceMul, Nat.reduceLeDiff, Nat.reduceBEq, Nat.reduceLT, if_true, if_false, beq_self_eq_true, BEq.rfl, ne_eq, e_impl_Term]
            (try simp only [WN.down, Nat.reduceAdd, if_true, if_false, ↓reduceIte, e_impl_Term] at hP)
            (try simp only [WN.down, Nat.reduceAdd, if_true, if_false, ↓reduceIte, e_impl_Term])
            exact hP
          exact w_ret (r0 _ (.inl (w_fin [.bool false] rfl (by cases someE h; rfl) (by decide) outs_nil)))

theorem ok_spec_l03Arity  (a0 : impl_Term) (r : Int) (h : spec_l03Arity  a0 = some r) : OkAt Cc 196 [.ref (e_impl_Term a0)] (.int .i64 r) [] := by
  refine OkAt.of_wpQ (fx := [0]) Cc_ok Try.func196 rfl rfl s196 (Nat.le_of_ble_eq_true rfl) (fun Q0 r0 n0 => ?_)
  replace r0 : ∀ s, onW (Fw.Ends Cc [0] [.tmp 2] (.int .i64 r) []) s → Q0 .ret s := r0
  replace n0 : ∀ s, onW (Fw.Ends Cc [0] [.tmp 2] (.int .i64 r) []) s → Q0 .normal s := n0
  show wpC Cc c196 Q0 (stA [(0, .ref (e_impl_Term a0))])
  refine w_sreg (w_abs [(0, .ref (e_impl_Term a0))] (fun P hP => ?_) ?_)
  · simp only [W0.down, Nat.reduceEqDiff, ↓reduceIte, reduceCtorEq, Nat.reduceAdd, Nat.reduceSub, Nat.reduceMul, Nat.reduceLeDiff, Nat.reduceBEq, Nat.reduceLT, if_true, if_false, beq_self_eq_true, BEq.rfl, ne_eq, e_impl_Term]
    (try simp only [WN.down, Nat.reduceAdd, if_true, if_false, ↓reduceIte, e_impl_Term] at hP)
    (try simp only [WN.down, Nat.reduceAdd, if_true, if_false, ↓reduceIte, e_impl_Term])
    exact hP
  refine w_seq (fun Q2 n2 q2 x2 => ?_)
  refine w_sreg (w_abs [(6, .int .i64 a0.Kind)] (fun P hP => ?_) ?_)
  · simp only [W0.down, Nat.reduceEqDiff, ↓reduceIte, reduceCtorEq, Nat.reduceAdd, Nat.reduceSub, Nat.reduceMul, Nat.reduceLeDiff, Nat.reduceBEq, Nat.reduceLT, if_true, if_false, beq_self_eq_true, BEq.rfl, ne_eq, tt2, tt131, e_impl_Term]
    (try simp only [WN.down, Nat.reduceAdd, if_true, if_false, ↓reduceIte, tt2, tt131, e_impl_Term] at hP)
    (try simp only [WN.down, Nat.reduceAdd, if_true, if_false, ↓reduceIte, tt2, tt131, e_impl_Term])
    exact hP
  refine w_blk (fun Q4 n4 q4 b4 x4 => ?_)
  refine w_sreg (w_abs [(6, .int .i64 a0.Kind), (7, .bool (a0.Kind == 2))] (fun P hP => ?_) ?_)
  · simp only [W0.down, Nat.reduceEqDiff, ↓reduceIte, reduceCtorEq, Nat.reduceAdd, Nat.reduceSub, Nat.reduceMul, Nat.reduceLeDiff, Nat.reduceBEq, Nat.reduceLT, if_true, if_false, beq_self_eq_true, BEq.rfl, ne_eq]
    (try simp only [WN.down, Nat.reduceAdd, if_true, if_false, ↓reduceIte] at hP)
    (try simp only [WN.down, Nat.reduceAdd, if_true, if_false, ↓reduceIte])
    exact hP
  rcases condE h with ⟨b6, h⟩ | ⟨b6, h⟩
  · refine w_ct (congrArg AV.bool b6) ?_
    simp only [b6, Bool.not_true, Bool.not_false]
    refine w_sreg (w_abs [(2, .int .i64 2)] (fun P hP => ?_) ?_)
    · simp only [W0.down, Nat.reduceEqDiff, ↓reduceIte, reduceCtorEq, Nat.reduceAdd, Nat.reduceSub, Nat.reduceMul, Nat.reduceLeDiff, Nat.reduceBEq, Nat.reduceLT, if_true, if_false, beq_self_eq_true, BEq.rfl, ne_eq]
      (try simp only [WN.down, Nat.reduceAdd, if_true, if_false, ↓reduceIte] at hP)
      (try simp only [WN.down, Nat.reduceAdd, if_true, if_false, ↓reduceIte])
      exact hP
    exact w_ret (q4 _ (q2 _ (r0 _ (.inl (w_fin [.int .i64 2] rfl (by cases someE h; rfl) (by decide) outs_nil)))))
  · refine w_cf (congrArg AV.bool b6) ?_
    simp only [b6, Bool.not_true, Bool.not_false]
    refine w_sreg (w_abs [(9, .bool (a0.Kind == 3))] (fun P hP => ?_) ?_)
    · simp only [W0.down, Nat.reduceEqDiff, ↓reduceIte, reduceCtorEq, Nat.reduceAdd, Nat.reduceSub, Nat.reduceMul, Nat.reduceLeDiff, Nat.reduceBEq, Nat.reduceLT, if_true, if_false, beq_self_eq_true, BEq.rfl, ne_eq]
      (try simp only [WN.down, Nat.reduceAdd, if_true, if_false, ↓reduceIte] at hP)
      (try simp only [WN.down, Nat.reduceAdd, if_true, if_false, ↓reduceIte])
      exact hP
    rcases condE h with ⟨b9, h⟩ | ⟨b9, h⟩
    · refine w_ct (congrArg AV.bool b9) ?_
      simp only [b9, Bool.not_true, Bool.not_false]
      refine w_sreg (w_abs [(2, .int .i64 1)] (fun P hP => ?_) ?_)
      · simp only [W0.down, Nat.reduceEqDiff, ↓reduceIte, reduceCtorEq, Nat.reduceAdd, Nat.reduceSub, Nat.reduceMul, Nat.reduceLeDiff, Nat.reduceBEq, Nat.reduceLT, if_true, if_false, beq_self_eq_true, BEq.rfl, ne_eq]
        (try simp only [WN.down, Nat.reduceAdd, if_true, if_false, ↓reduceIte] at hP)
        (try simp only [WN.down, Nat.reduceAdd, if_true, if_false, ↓reduceIte])
        exact hP
      exact w_ret (q4 _ (q2 _ (r0 _ (.inl (w_fin [.int .i64 1] rfl (by cases someE h; rfl) (by decide) outs_nil)))))
    · refine w_cf (congrArg AV.bool b9) ?_
      simp only [b9, Bool.not_true, Bool.not_false]
      refine w_skip (n4 _ (n2 _ (.inl ?_)))
      refine w_sreg (w_abs [(2, .int .i64 0)] (fun P hP => ?_) ?_)
      · simp only [W0.down, Nat.reduceEqDiff, ↓reduceIte, reduceCtorEq, Nat.reduceAdd, Nat.reduceSub, Nat.reduceMul, Nat.reduceLeDiff, Nat.reduceBEq, Nat.reduceLT, if_true, if_false, beq_self_eq_true, BEq.rfl, ne_eq]
        (try simp only [WN.down, Nat.reduceAdd, if_true, if_false, ↓reduceIte] at hP)
        (try simp only [WN.down, Nat.reduceAdd, if_true, if_false, ↓reduceIte])
        exact hP
      exact w_ret (r0 _ (.inl (w_fin [.int .i64 0] rfl (by cases someE h; rfl) (by decide) outs_nil)))

theorem ok_spec_l03Is  (a0 : List impl_Term) (a1 : Int) (a2 : Int) (r : Bool) (h : spec_l03Is  a0 a1 a2 = some r) : OkAt Cc 195 [.slice (a0.map e_impl_Term), .int .i64 a1, .int .i64 a2] (.bool r) [] := by
  refine OkAt.of_wpQ (fx := [0, 1, 2]) Cc_ok Try.func195 rfl rfl s195 (Nat.le_of_ble_eq_true rfl) (fun Q0 r0 n0 => ?_)
  replace r0 : ∀ s, onW (Fw.Ends Cc [0, 1, 2] [.tmp 6] (.bool r) []) s → Q0 .ret s := r0
  replace n0 : ∀ s, onW (Fw.Ends Cc [0, 1, 2] [.tmp 6] (.bool r) []) s → Q0 .normal s := n0
  show wpC Cc c195 Q0 (stA [(0, .slice (a0.map e_impl_Term)), (1, .int .i64 a1), (2, .int .i64 a2)])
  refine w_sreg (w_abs [(0, .slice (a0.map e_impl_Term)), (1, .int .i64 a1), (2, .int .i64 a2)] (fun P hP => ?_) ?_)
  · simp only [W0.down, Nat.reduceEqDiff, ↓reduceIte, reduceCtorEq, Nat.reduceAdd, Nat.reduceSub, Nat.reduceMul, Nat.reduceLeDiff, Nat.reduceBEq, Nat.reduceLT, if_true, if_false, beq_self_eq_true, BEq.rfl, ne_eq, e_impl_Term]
    (try simp only [WN.down, Nat.reduceAdd, if_true, if_false, ↓reduceIte, e_impl_Term] at hP)
    (try simp only [WN.down, Nat.reduceAdd, if_true, if_false, ↓reduceIte, e_impl_Term])
    exact hP
  refine w_seq (fun Q2 n2 q2 x2 => ?_)
  refine w_sreg (w_abs [(0, .slice (a0.map e_impl_Term)), (1, .int .i64 a1), (12, .bool (decide (a2 < (a0.length : Int))))] (fun P hP => ?_) ?_)
  · simp only [W0.down, Nat.reduceEqDiff, ↓reduceIte, reduceCtorEq, Nat.reduceAdd, Nat.reduceSub, Nat.reduceMul, Nat.reduceLeDiff, Nat.reduceBEq, Nat.reduceLT, if_true, if_false, beq_self_eq_true, BEq.rfl, ne_eq, tt2, tt40, tt131, e_impl_Term]
    (try simp only [WN.down, Nat.reduceAdd, if_true, if_false, ↓reduceIte, tt2, tt40, tt131, e_impl_Term] at hP)
    (try simp only [WN.down, Nat.reduceAdd, if_true, if_false, ↓reduceIte, tt2, tt40, tt131, e_impl_Term])
    exact hP
  rcases condE h with ⟨b4, h⟩ | ⟨b4, h⟩
  · refine w_ct (congrArg AV.bool b4) ?_
    simp only [b4, Bool.not_true, Bool.not_false]
    refine w_sreg (w_abs [(6, .bool false)] (fun P hP => ?_) ?_)
    · simp only [W0.down, Nat.reduceEqDiff, ↓reduceIte, reduceCtorEq, Nat.reduceAdd, Nat.reduceSub, Nat.reduceMul, Nat.reduceLeDiff, Nat.reduceBEq, Nat.reduceLT, if_true, if_false, beq_self_eq_true, BEq.rfl, ne_eq, e_impl_Term]
      (try simp only [WN.down, Nat.reduceAdd, if_true, if_false, ↓reduceIte, e_impl_Term] at hP)
      (try simp only [WN.down, Nat.reduceAdd, if_true, if_false, ↓reduceIte, e_impl_Term])
      exact hP
    exact w_ret (q2 _ (r0 _ (.inl (w_fin [.bool false] rfl (by cases someE h; rfl) (by decide) outs_nil))))
  · refine w_cf (congrArg AV.bool b4) ?_
    simp only [b4, Bool.not_true, Bool.not_false]
    refine w_skip (n2 _ (.inl ?_))
    refine w_sreg (w_abs [(0, .slice (a0.map e_impl_Term)), (1, .int .i64 a1), (7, .int .i64 1)] (fun P hP => ?_) ?_)
    · simp only [W0.down, Nat.reduceEqDiff, ↓reduceIte, reduceCtorEq, Nat.reduceAdd, Nat.reduceSub, Nat.reduceMul, Nat.reduceLeDiff, Nat.reduceBEq, Nat.reduceLT, if_true, if_false, beq_self_eq_true, BEq.rfl, ne_eq, e_impl_Term]
      (try simp only [WN.down, Nat.reduceAdd, if_true, if_false, ↓reduceIte, e_impl_Term] at hP)
      (try simp only [WN.down, Nat.reduceAdd, if_true, if_false, ↓reduceIte, e_impl_Term])
      exact hP
    refine w_seq (fun Q7 n7 q7 x7 => ?_)
    refine w_sreg (w_abs [(0, .slice (a0.map e_impl_Term)), (1, .int .i64 a1), (7, .int .i64 1), (8, .int .i64 0)] (fun P hP => ?_) ?_)
    · simp only [W0.down, Nat.reduceEqDiff, ↓reduceIte, reduceCtorEq, Nat.reduceAdd, Nat.reduceSub, Nat.reduceMul, Nat.reduceLeDiff, Nat.reduceBEq, Nat.reduceLT, if_true, if_false, beq_self_eq_true, BEq.rfl, ne_eq, e_impl_Term]
      (try simp only [WN.down, Nat.reduceAdd, if_true, if_false, ↓reduceIte, e_impl_Term] at hP)
      (try simp only [WN.down, Nat.reduceAdd, if_true, if_false, ↓reduceIte, e_impl_Term])
      exact hP
    refine w_blk (fun Q9 n9 q9 b9 x9 => ?_)
    have L16 : ∀ (n : Nat) (v7_16 : Int) (v8_16 : Int), spec_l03Is_l16 a0 a1 n v7_16 v8_16 = some r → lpC Cc c195_17 Q9 (stA [(0, .slice (a0.map e_impl_Term)), (1, .int .i64 a1), (7, .int .i64 v7_16), (8, .int .i64 v8_16)]) := by
      intro m16
      induction m16 with
      | zero => intro v7_16 v8_16 h; cases (show none = some r from h)
      | succ m16 ih16 =>
        intro v7_16 v8_16 h
        replace h : spec_l03Is_b16 (spec_l03Is_l16 a0 a1 m16) a0 a1 v7_16 v8_16 = some r := h
        refine lpC_step (fun Q10 n10 q10 x10 => ?_)
        refine w_seq (fun Q11 n11 q11 x11 => ?_)
        refine w_sreg (w_abs [(0, .slice (a0.map e_impl_Term)), (1, .int .i64 a1), (7, .int .i64 v7_16), (8, .int .i64 v8_16), (16, .bool (decide (v8_16 < (a0.length : Int))))] (fun P hP => ?_) ?_)
        · simp only [W0.down, Nat.reduceEqDiff, ↓reduceIte, reduceCtorEq, Nat.reduceAdd, Nat.reduceSub, Nat.reduceMul, Nat.reduceLeDiff, Nat.reduceBEq, Nat.reduceLT, if_true, if_false, beq_self_eq_true, BEq.rfl, ne_eq, tt2, tt40, tt131, e_impl_Term]
          (try simp only [WN.down, Nat.reduceAdd, if_true, if_false, ↓reduceIte, tt2, tt40, tt131, e_impl_Term] at hP)
          (try simp only [WN.down, Nat.reduceAdd, if_true, if_false, ↓reduceIte, tt2, tt40, tt131, e_impl_Term])
          exact hP
        rcases condE h with ⟨b13, h⟩ | ⟨b13, h⟩
        · refine w_ct (congrArg AV.bool b13) ?_
          simp only [b13, Bool.not_true, Bool.not_false]
          refine w_skip (n11 _ (.inl ?_))
          refine w_seq (fun Q14 n14 q14 x14 => ?_)
          refine w_blk (fun Q15 n15 q15 b15 x15 => ?_)
          refine w_seq (fun Q16 n16 q16 x16 => ?_)
          rcases condE h with ⟨b18, h⟩ | ⟨b18, h⟩
          · refine w_sreg (w_abs [(0, .slice (a0.map e_impl_Term)), (1, .int .i64 a1), (7, .int .i64 v7_16), (8, .int .i64 v8_16), (28, .bool true)] (fun P hP => ?_) ?_)
            · simp only [W0.down, Nat.reduceEqDiff, ↓reduceIte, reduceCtorEq, Nat.reduceAdd, Nat.reduceSub, Nat.reduceMul, Nat.reduceLeDiff, Nat.reduceBEq, Nat.reduceLT, if_true, if_false, beq_self_eq_true, BEq.rfl, ne_eq, tt2, tt40, tt131, e_impl_Term, b18]
              (try simp only [WN.down, Nat.reduceAdd, if_true, if_false, ↓reduceIte, tt2, tt40, tt131, e_impl_Term, b18] at hP)
              (try simp only [WN.down, Nat.reduceAdd, if_true, if_false, ↓reduceIte, tt2, tt40, tt131, e_impl_Term, b18])
              exact hP
            refine w_ct rfl ?_
            refine w_sreg (w_abs [(6, .bool false)] (fun P hP => ?_) ?_)
            · simp only [W0.down, Nat.reduceEqDiff, ↓reduceIte, reduceCtorEq, Nat.reduceAdd, Nat.reduceSub, Nat.reduceMul, Nat.reduceLeDiff, Nat.reduceBEq, Nat.reduceLT, if_true, if_false, beq_self_eq_true, BEq.rfl, ne_eq, e_impl_Term]
              (try simp only [WN.down, Nat.reduceAdd, if_true, if_false, ↓reduceIte, e_impl_Term] at hP)
              (try simp only [WN.down, Nat.reduceAdd, if_true, if_false, ↓reduceIte, e_impl_Term])
              exact hP
            exact w_ret (q16 _ (q15 _ (q14 _ (q10 _ (q9 _ (q7 _ (r0 _ (.inl (w_fin [.bool false] rfl (by cases someE h; rfl) (by decide) outs_nil)))))))))
          · obtain ⟨x1, e20, h⟩ := bindE h
            obtain ⟨x2, e21, h⟩ := bindE h
            refine w_sreg (w_abs [(0, .slice (a0.map e_impl_Term)), (1, .int .i64 a1), (7, .int .i64 v7_16), (8, .int .i64 v8_16), (28, .bool (!x2))] (fun P hP => ?_) ?_)
            · simp only [W0.down, Nat.reduceEqDiff, ↓reduceIte, reduceCtorEq, Nat.reduceAdd, Nat.reduceSub, Nat.reduceMul, Nat.reduceLeDiff, Nat.reduceBEq, Nat.reduceLT, if_true, if_false, beq_self_eq_true, BEq.rfl, ne_eq, tt2, tt40, tt131, e_impl_Term, b18, e20]
              refine w_callg0 (ok_spec_l03Term x1 a1 _ e21) rfl rfl rfl rfl (.inl (by rfl)) ?_
              simp only [W0.down, Nat.reduceEqDiff, ↓reduceIte, reduceCtorEq, Nat.reduceAdd, Nat.reduceSub, Nat.reduceMul, Nat.reduceLeDiff, Nat.reduceBEq, Nat.reduceLT, if_true, if_false, beq_self_eq_true, BEq.rfl, ne_eq, tt2, tt40, tt131, e_impl_Term, b18, e20]
              (try simp only [WN.down, Nat.reduceAdd, if_true, if_false, ↓reduceIte, tt2, tt40, tt131, e_impl_Term, b18, e20] at hP)
              (try simp only [WN.down, Nat.reduceAdd, if_true, if_false, ↓reduceIte, tt2, tt40, tt131, e_impl_Term, b18, e20])
              exact hP
            rcases condE h with ⟨b22, h⟩ | ⟨b22, h⟩
            · refine w_ct (congrArg AV.bool b22) ?_
              simp only [b22, Bool.not_true, Bool.not_false]
              refine w_sreg (w_abs [(6, .bool false)] (fun P hP => ?_) ?_)
              · simp only [W0.down, Nat.reduceEqDiff, ↓reduceIte, reduceCtorEq, Nat.reduceAdd, Nat.reduceSub, Nat.reduceMul, Nat.reduceLeDiff, Nat.reduceBEq, Nat.reduceLT, if_true, if_false, beq_self_eq_true, BEq.rfl, ne_eq, e_impl_Term]
                (try simp only [WN.down, Nat.reduceAdd, if_true, if_false, ↓reduceIte, e_impl_Term] at hP)
                (try simp only [WN.down, Nat.reduceAdd, if_true, if_false, ↓reduceIte, e_impl_Term])
                exact hP
              exact w_ret (q16 _ (q15 _ (q14 _ (q10 _ (q9 _ (q7 _ (r0 _ (.inl (w_fin [.bool false] rfl (by cases someE h; rfl) (by decide) outs_nil)))))))))
            · refine w_cf (congrArg AV.bool b22) ?_
              simp only [b22, Bool.not_true, Bool.not_false]
              refine w_skip (n16 _ (.inl ?_))
              obtain ⟨x3, e25, h⟩ := bindE h
              refine w_reg (w_abs [(0, .slice (a0.map e_impl_Term)), (1, .int .i64 a1), (7, .int .i64 (IntKind.i64.wrap (v7_16 + (IntKind.i64.wrap (x3 - 1))))), (8, .int .i64 v8_16)] (fun P hP => ?_) ?_)
              · simp only [W0.down, Nat.reduceEqDiff, ↓reduceIte, reduceCtorEq, Nat.reduceAdd, Nat.reduceSub, Nat.reduceMul, Nat.reduceLeDiff, Nat.reduceBEq, Nat.reduceLT, if_true, if_false, beq_self_eq_true, BEq.rfl, ne_eq, tt2, tt40, tt131, e_impl_Term, e20]
                refine w_call0 (ok_spec_l03Arity x1 _ e25) rfl rfl rfl rfl (.inl (by rfl)) ?_
                simp only [W0.down, Nat.reduceEqDiff, ↓reduceIte, reduceCtorEq, Nat.reduceAdd, Nat.reduceSub, Nat.reduceMul, Nat.reduceLeDiff, Nat.reduceBEq, Nat.reduceLT, if_true, if_false, beq_self_eq_true, BEq.rfl, ne_eq, tt2, tt40, tt131, e_impl_Term, e20]
                (try simp only [WN.down, Nat.reduceAdd, if_true, if_false, ↓reduceIte, tt2, tt40, tt131, e_impl_Term, e20] at hP)
                (try simp only [WN.down, Nat.reduceAdd, if_true, if_false, ↓reduceIte, tt2, tt40, tt131, e_impl_Term, e20])
                exact hP
              refine n15 _ (n14 _ (.inl ?_))
              refine w_reg (w_abs [(0, .slice (a0.map e_impl_Term)), (1, .int .i64 a1), (7, .int .i64 (IntKind.i64.wrap (v7_16 + (IntKind.i64.wrap (x3 - 1))))), (8, .int .i64 (IntKind.i64.wrap (v8_16 + 1)))] (fun P hP => ?_) ?_)
              · simp only [W0.down, Nat.reduceEqDiff, ↓reduceIte, reduceCtorEq, Nat.reduceAdd, Nat.reduceSub, Nat.reduceMul, Nat.reduceLeDiff, Nat.reduceBEq, Nat.reduceLT, if_true, if_false, beq_self_eq_true, BEq.rfl, ne_eq, e_impl_Term]
                (try simp only [WN.down, Nat.reduceAdd, if_true, if_false, ↓reduceIte, e_impl_Term] at hP)
                (try simp only [WN.down, Nat.reduceAdd, if_true, if_false, ↓reduceIte, e_impl_Term])
                exact hP
              exact n10 _ (.inr ⟨_, weak_eq rfl, ih16 (IntKind.i64.wrap (v7_16 + (IntKind.i64.wrap (x3 - 1)))) (IntKind.i64.wrap (v8_16 + 1)) h⟩)
        · refine w_cf (congrArg AV.bool b13) ?_
          simp only [b13, Bool.not_true, Bool.not_false]
          refine w_ex (x11 0 _ (x10 0 _ (b9 _ (n7 _ (.inl ?_)))))
          refine w_sreg (w_abs [(6, .bool (v7_16 == 0))] (fun P hP => ?_) ?_)
          · simp only [W0.down, Nat.reduceEqDiff, ↓reduceIte, reduceCtorEq, Nat.reduceAdd, Nat.reduceSub, Nat.reduceMul, Nat.reduceLeDiff, Nat.reduceBEq, Nat.reduceLT, if_true, if_false, beq_self_eq_true, BEq.rfl, ne_eq, e_impl_Term]
            (try simp only [WN.down, Nat.reduceAdd, if_true, if_false, ↓reduceIte, e_impl_Term] at hP)
            (try simp only [WN.down, Nat.reduceAdd, if_true, if_false, ↓reduceIte, e_impl_Term])
            exact hP
          exact w_ret (r0 _ (.inl (w_fin [.bool (v7_16 == 0)] rfl (by cases someE h; rfl) (by decide) outs_nil)))
    obtain ⟨n, h⟩ := limE h
    exact w_loop (.inr ⟨_, weak_eq rfl, L16 n 1 0 h⟩)

theorem ok_spec_l03Any  (a0 : List impl_Term) (r : Bool) (h : spec_l03Any  a0 = some r) : OkAt Cc 105 [.slice (a0.map e_impl_Term)] (.bool r) [] := by
  refine OkAt.of_wpQ (fx := [0]) Cc_ok Try.func105 rfl rfl s105 (Nat.le_of_ble_eq_true rfl) (fun Q0 r0 n0 => ?_)
  replace r0 : ∀ s, onW (Fw.Ends Cc [0] [.tmp 2] (.bool r) []) s → Q0 .ret s := r0
  replace n0 : ∀ s, onW (Fw.Ends Cc [0] [.tmp 2] (.bool r) []) s → Q0 .normal s := n0
  show wpC Cc c105 Q0 (stA [(0, .slice (a0.map e_impl_Term))])
  refine w_sreg (w_abs [(0, .slice (a0.map e_impl_Term))] (fun P hP => ?_) ?_)
  · simp only [W0.down, Nat.reduceEqDiff, ↓reduceIte, reduceCtorEq, Nat.reduceAdd, Nat.reduceSub, Nat.reduceMul, Nat.reduceLeDiff, Nat.reduceBEq, Nat.reduceLT, if_true, if_false, beq_self_eq_true, BEq.rfl, ne_eq, e_impl_Term]
    (try simp only [WN.down, Nat.reduceAdd, if_true, if_false, ↓reduceIte, e_impl_Term] at hP)
    (try simp only [WN.down, Nat.reduceAdd, if_true, if_false, ↓reduceIte, e_impl_Term])
    exact hP
  obtain ⟨x1, e3, h⟩ := bindE h
  refine w_sreg (w_abs [(2, .bool x1)] (fun P hP => ?_) ?_)
  · simp only [W0.down, Nat.reduceEqDiff, ↓reduceIte, reduceCtorEq, Nat.reduceAdd, Nat.reduceSub, Nat.reduceMul, Nat.reduceLeDiff, Nat.reduceBEq, Nat.reduceLT, if_true, if_false, beq_self_eq_true, BEq.rfl, ne_eq, e_impl_Term]
    refine w_call0 (ok_spec_l03Is a0 29 60 _ e3) rfl rfl rfl rfl (.inl (by rfl)) ?_
    simp only [W0.down, Nat.reduceEqDiff, ↓reduceIte, reduceCtorEq, Nat.reduceAdd, Nat.reduceSub, Nat.reduceMul, Nat.reduceLeDiff, Nat.reduceBEq, Nat.reduceLT, if_true, if_false, beq_self_eq_true, BEq.rfl, ne_eq, e_impl_Term]
    (try simp only [WN.down, Nat.reduceAdd, if_true, if_false, ↓reduceIte, e_impl_Term] at hP)
    (try simp only [WN.down, Nat.reduceAdd, if_true, if_false, ↓reduceIte, e_impl_Term])
    exact hP
  exact w_ret (r0 _ (.inl (w_fin [.bool x1] rfl (by cases someE h; rfl) (by decide) outs_nil)))

theorem ok_spec_l03Own  (a0 : List impl_Term) (r : (List impl_Term)) (h : spec_l03Own  a0 = some r) : OkAt Cc 197 [.slice (a0.map e_impl_Term)] (.uslice 2 (r.map e_impl_Term)) [] := by
  refine OkAt.of_wpQ (fx := [0]) Cc_ok Try.func197 rfl rfl s197 (Nat.le_of_ble_eq_true rfl) (fun Q0 r0 n0 => ?_)
  replace r0 : ∀ s, onW (Fw.Ends Cc [0] [.tmp 2] (.uslice 2 (r.map e_impl_Term)) []) s → Q0 .ret s := r0
  replace n0 : ∀ s, onW (Fw.Ends Cc [0] [.tmp 2] (.uslice 2 (r.map e_impl_Term)) []) s → Q0 .normal s := n0
  show wpC Cc c197 Q0 (stA [(0, .slice (a0.map e_impl_Term))])
  refine w_sreg (w_abs [(0, .slice (a0.map e_impl_Term))] (fun P hP => ?_) ?_)
  · simp only [W0.down, Nat.reduceEqDiff, ↓reduceIte, reduceCtorEq, Nat.reduceAdd, Nat.reduceSub, Nat.reduceMul, Nat.reduceLeDiff, Nat.reduceBEq, Nat.reduceLT, if_true, if_false, beq_self_eq_true, BEq.rfl, ne_eq, e_impl_Term]
    (try simp only [WN.down, Nat.reduceAdd, if_true, if_false, ↓reduceIte, e_impl_Term] at hP)
    (try simp only [WN.down, Nat.reduceAdd, if_true, if_false, ↓reduceIte, e_impl_Term])
    exact hP
  obtain ⟨u3, e3, h⟩ := bindE h
  (try simp only [List.length_append, List.length_cons, List.length_nil, List.length_map, List.length_replicate, Nat.zero_add, Nat.add_zero, Nat.reduceAdd] at e3)
  refine w_sreg (w_abs [(2, .uslice 2 (a0.map e_impl_Term))] (fun P hP => ?_) ?_)
  · simp only [W0.down, Nat.reduceEqDiff, ↓reduceIte, reduceCtorEq, Nat.reduceAdd, Nat.reduceSub, Nat.reduceMul, Nat.reduceLeDiff, Nat.reduceBEq, Nat.reduceLT, if_true, if_false, beq_self_eq_true, BEq.rfl, ne_eq, tt2, tt40, tt131, e_impl_Term, (show ∀ s, bsl Cc s 40 0 [] = some (.uslice 2 [], s) from fun s => by kernel_rfl), @apd_s Cc 40 40 131 rfl rfl, ap_s, ap2_s, ap3_s, all_cons, all_nil, e3, @all_wd' _ e_impl_Term 2 (fun _ => rfl)]
    (try simp only [WN.down, Nat.reduceAdd, if_true, if_false, ↓reduceIte, tt2, tt40, tt131, e_impl_Term, (show ∀ s, bsl Cc s 40 0 [] = some (.uslice 2 [], s) from fun s => by kernel_rfl), @apd_s Cc 40 40 131 rfl rfl, ap_s, ap2_s, ap3_s, all_cons, all_nil, e3, @all_wd' _ e_impl_Term 2 (fun _ => rfl)] at hP)
    (try simp only [WN.down, Nat.reduceAdd, if_true, if_false, ↓reduceIte, tt2, tt40, tt131, e_impl_Term, (show ∀ s, bsl Cc s 40 0 [] = some (.uslice 2 [], s) from fun s => by kernel_rfl), @apd_s Cc 40 40 131 rfl rfl, ap_s, ap2_s, ap3_s, all_cons, all_nil, e3, @all_wd' _ e_impl_Term 2 (fun _ => rfl)])
    exact hP
  exact w_ret (r0 _ (.inl (w_fin [.uslice 2 (a0.map e_impl_Term)] rfl (by cases someE h; rfl) (by decide) outs_nil)))

theorem ok_spec_l03End  (a0 : List impl_Term) (a1 : Int) (r : Int) (h : spec_l03End  a0 a1 = some r) : OkAt Cc 198 [.slice (a0.map e_impl_Term), .int .i64 a1] (.int .i64 r) [] := by
  refine OkAt.of_wpQ (fx := [0]) Cc_ok Try.func198 rfl rfl s198 (Nat.le_of_ble_eq_true rfl) (fun Q0 r0 n0 => ?_)
  replace r0 : ∀ s, onW (Fw.Ends Cc [0] [.tmp 4] (.int .i64 r) []) s → Q0 .ret s := r0
  replace n0 : ∀ s, onW (Fw.Ends Cc [0] [.tmp 4] (.int .i64 r) []) s → Q0 .normal s := n0
  show wpC Cc c198 Q0 (stA [(0, .slice (a0.map e_impl_Term)), (1, .int .i64 a1)])
  refine w_sreg (w_abs [(0, .slice (a0.map e_impl_Term)), (1, .int .i64 a1)] (fun P hP => ?_) ?_)
  · simp only [W0.down, Nat.reduceEqDiff, ↓reduceIte, reduceCtorEq, Nat.reduceAdd, Nat.reduceSub, Nat.reduceMul, Nat.reduceLeDiff, Nat.reduceBEq, Nat.reduceLT, if_true, if_false, beq_self_eq_true, BEq.rfl, ne_eq, e_impl_Term]
    (try simp only [WN.down, Nat.reduceAdd, if_true, if_false, ↓reduceIte, e_impl_Term] at hP)
    (try simp only [WN.down, Nat.reduceAdd, if_true, if_false, ↓reduceIte, e_impl_Term])
    exact hP
  refine w_sreg (w_abs [(0, .slice (a0.map e_impl_Term)), (1, .int .i64 a1), (5, .int .i64 1)] (fun P hP => ?_) ?_)
  · simp only [W0.down, Nat.reduceEqDiff, ↓reduceIte, reduceCtorEq, Nat.reduceAdd, Nat.reduceSub, Nat.reduceMul, Nat.reduceLeDiff, Nat.reduceBEq, Nat.reduceLT, if_true, if_false, beq_self_eq_true, BEq.rfl, ne_eq, e_impl_Term]
    (try simp only [WN.down, Nat.reduceAdd, if_true, if_false, ↓reduceIte, e_impl_Term] at hP)
    (try simp only [WN.down, Nat.reduceAdd, if_true, if_false, ↓reduceIte, e_impl_Term])
    exact hP
  refine w_seq (fun Q3 n3 q3 x3 => ?_)
  refine w_blk (fun Q4 n4 q4 b4 x4 => ?_)
  have L6 : ∀ (n : Nat) (v1_6 : Int) (v5_6 : Int), spec_l03End_l6 a0 n v1_6 v5_6 = some r → lpC Cc c198_7 Q4 (stA [(0, .slice (a0.map e_impl_Term)), (1, .int .i64 v1_6), (5, .int .i64 v5_6)]) := by
    intro m6
    induction m6 with
    | zero => intro v1_6 v5_6 h; cases (show none = some r from h)
    | succ m6 ih6 =>
      intro v1_6 v5_6 h
      replace h : spec_l03End_b6 (spec_l03End_l6 a0 m6) a0 v1_6 v5_6 = some r := h
      refine lpC_step (fun Q5 n5 q5 x5 => ?_)
      refine w_seq (fun Q6 n6 q6 x6 => ?_)
      refine w_sreg (w_abs [(0, .slice (a0.map e_impl_Term)), (1, .int .i64 v1_6), (5, .int .i64 v5_6), (7, .bool (decide (0 < v5_6)))] (fun P hP => ?_) ?_)
      · simp only [W0.down, Nat.reduceEqDiff, ↓reduceIte, reduceCtorEq, Nat.reduceAdd, Nat.reduceSub, Nat.reduceMul, Nat.reduceLeDiff, Nat.reduceBEq, Nat.reduceLT, if_true, if_false, beq_self_eq_true, BEq.rfl, ne_eq, e_impl_Term]
        (try simp only [WN.down, Nat.reduceAdd, if_true, if_false, ↓reduceIte, e_impl_Term] at hP)
        (try simp only [WN.down, Nat.reduceAdd, if_true, if_false, ↓reduceIte, e_impl_Term])
        exact hP
      rcases condE h with ⟨b8, h⟩ | ⟨b8, h⟩
      · refine w_ct (congrArg AV.bool b8) ?_
        simp only [b8, Bool.not_true, Bool.not_false]
        refine w_skip (n6 _ (.inl ?_))
        refine w_blk (fun Q9 n9 q9 b9 x9 => ?_)
        obtain ⟨x1, e11, h⟩ := bindE h
        obtain ⟨x2, e12, h⟩ := bindE h
        refine w_sreg (w_abs [(0, .slice (a0.map e_impl_Term)), (1, .int .i64 v1_6), (5, .int .i64 (IntKind.i64.wrap (v5_6 + (IntKind.i64.wrap (x2 - 1)))))] (fun P hP => ?_) ?_)
        · simp only [W0.down, Nat.reduceEqDiff, ↓reduceIte, reduceCtorEq, Nat.reduceAdd, Nat.reduceSub, Nat.reduceMul, Nat.reduceLeDiff, Nat.reduceBEq, Nat.reduceLT, if_true, if_false, beq_self_eq_true, BEq.rfl, ne_eq, tt2, tt40, tt131, e_impl_Term, e11]
          refine w_call0 (ok_spec_l03Arity x1 _ e12) rfl rfl rfl rfl (.inl (by rfl)) ?_
          simp only [W0.down, Nat.reduceEqDiff, ↓reduceIte, reduceCtorEq, Nat.reduceAdd, Nat.reduceSub, Nat.reduceMul, Nat.reduceLeDiff, Nat.reduceBEq, Nat.reduceLT, if_true, if_false, beq_self_eq_true, BEq.rfl, ne_eq, tt2, tt40, tt131, e_impl_Term, e11]
          (try simp only [WN.down, Nat.reduceAdd, if_true, if_false, ↓reduceIte, tt2, tt40, tt131, e_impl_Term, e11] at hP)
          (try simp only [WN.down, Nat.reduceAdd, if_true, if_false, ↓reduceIte, tt2, tt40, tt131, e_impl_Term, e11])
          exact hP
        refine w_reg (w_abs [(0, .slice (a0.map e_impl_Term)), (1, .int .i64 (IntKind.i64.wrap (v1_6 + 1))), (5, .int .i64 (IntKind.i64.wrap (v5_6 + (IntKind.i64.wrap (x2 - 1)))))] (fun P hP => ?_) ?_)
        · simp only [W0.down, Nat.reduceEqDiff, ↓reduceIte, reduceCtorEq, Nat.reduceAdd, Nat.reduceSub, Nat.reduceMul, Nat.reduceLeDiff, Nat.reduceBEq, Nat.reduceLT, if_true, if_false, beq_self_eq_true, BEq.rfl, ne_eq, e_impl_Term]
          (try simp only [WN.down, Nat.reduceAdd, if_true, if_false, ↓reduceIte, e_impl_Term] at hP)
          (try simp only [WN.down, Nat.reduceAdd, if_true, if_false, ↓reduceIte, e_impl_Term])
          exact hP
        exact n9 _ (n5 _ (.inr ⟨_, weak_eq rfl, ih6 (IntKind.i64.wrap (v1_6 + 1)) (IntKind.i64.wrap (v5_6 + (IntKind.i64.wrap (x2 - 1)))) h⟩))
      · refine w_cf (congrArg AV.bool b8) ?_
        simp only [b8, Bool.not_true, Bool.not_false]
        refine w_ex (x6 0 _ (x5 0 _ (b4 _ (n3 _ (.inl ?_)))))
        refine w_sreg (w_abs [(4, .int .i64 v1_6)] (fun P hP => ?_) ?_)
        · simp only [W0.down, Nat.reduceEqDiff, ↓reduceIte, reduceCtorEq, Nat.reduceAdd, Nat.reduceSub, Nat.reduceMul, Nat.reduceLeDiff, Nat.reduceBEq, Nat.reduceLT, if_true, if_false, beq_self_eq_true, BEq.rfl, ne_eq, e_impl_Term]
          (try simp only [WN.down, Nat.reduceAdd, if_true, if_false, ↓reduceIte, e_impl_Term] at hP)
          (try simp only [WN.down, Nat.reduceAdd, if_true, if_false, ↓reduceIte, e_impl_Term])
          exact hP
        exact w_ret (r0 _ (.inl (w_fin [.int .i64 v1_6] rfl (by cases someE h; rfl) (by decide) outs_nil)))
  obtain ⟨n, h⟩ := limE h
  exact w_loop (.inr ⟨_, weak_eq rfl, L6 n a1 1 h⟩)

theorem ok_spec_l03Truth  (a0 : Bool) (r : Int) (h : spec_l03Truth  a0 = some r) : OkAt Cc 188 [.bool a0] (.int .i64 r) [] := by
  refine OkAt.of_wpQ (fx := [0]) Cc_ok Try.func188 rfl rfl s188 (Nat.le_of_ble_eq_true rfl) (fun Q0 r0 n0 => ?_)
  replace r0 : ∀ s, onW (Fw.Ends Cc [0] [.tmp 2] (.int .i64 r) []) s → Q0 .ret s := r0
  replace n0 : ∀ s, onW (Fw.Ends Cc [0] [.tmp 2] (.int .i64 r) []) s → Q0 .normal s := n0
  show wpC Cc c188 Q0 (stA [(0, .bool a0)])
  refine w_sreg (w_abs [(0, .bool a0)] (fun P hP => ?_) ?_)
  · simp only [W0.down, Nat.reduceEqDiff, ↓reduceIte, reduceCtorEq, Nat.reduceAdd, Nat.reduceSub, Nat.reduceMul, Nat.reduceLeDiff, Nat.reduceBEq, Nat.reduceLT, if_true, if_false, beq_self_eq_true, BEq.rfl, ne_eq]
    (try simp only [WN.down, Nat.reduceAdd, if_true, if_false, ↓reduceIte] at hP)
    (try simp only [WN.down, Nat.reduceAdd, if_true, if_false, ↓reduceIte])
    exact hP
  refine w_seq (fun Q2 n2 q2 x2 => ?_)
  refine w_sreg (w_abs [(3, .bool a0)] (fun P hP => ?_) ?_)
  · simp only [W0.down, Nat.reduceEqDiff, ↓reduceIte, reduceCtorEq, Nat.reduceAdd, Nat.reduceSub, Nat.reduceMul, Nat.reduceLeDiff, Nat.reduceBEq, Nat.reduceLT, if_true, if_false, beq_self_eq_true, BEq.rfl, ne_eq]
    (try simp only [WN.down, Nat.reduceAdd, if_true, if_false, ↓reduceIte] at hP)
    (try simp only [WN.down, Nat.reduceAdd, if_true, if_false, ↓reduceIte])
    exact hP
  rcases condE h with ⟨b4, h⟩ | ⟨b4, h⟩
  · refine w_ct (congrArg AV.bool b4) ?_
    simp only [b4, Bool.not_true, Bool.not_false]
    refine w_sreg (w_abs [(2, .int .i64 1)] (fun P hP => ?_) ?_)
    · simp only [W0.down, Nat.reduceEqDiff, ↓reduceIte, reduceCtorEq, Nat.reduceAdd, Nat.reduceSub, Nat.reduceMul, Nat.reduceLeDiff, Nat.reduceBEq, Nat.reduceLT, if_true, if_false, beq_self_eq_true, BEq.rfl, ne_eq]
      (try simp only [WN.down, Nat.reduceAdd, if_true, if_false, ↓reduceIte] at hP)
      (try simp only [WN.down, Nat.reduceAdd, if_true, if_false, ↓reduceIte])
      exact hP
    exact w_ret (q2 _ (r0 _ (.inl (w_fin [.int .i64 1] rfl (by cases someE h; rfl) (by decide) outs_nil))))
  · refine w_cf (congrArg AV.bool b4) ?_
    simp only [b4, Bool.not_true, Bool.not_false]
    refine w_skip (n2 _ (.inl ?_))
    refine w_sreg (w_abs [(2, .int .i64 0)] (fun P hP => ?_) ?_)
    · simp only [W0.down, Nat.reduceEqDiff, ↓reduceIte, reduceCtorEq, Nat.reduceAdd, Nat.reduceSub, Nat.reduceMul, Nat.reduceLeDiff, Nat.reduceBEq, Nat.reduceLT, if_true, if_false, beq_self_eq_true, BEq.rfl, ne_eq]
      (try simp only [WN.down, Nat.reduceAdd, if_true, if_false, ↓reduceIte] at hP)
      (try simp only [WN.down, Nat.reduceAdd, if_true, if_false, ↓reduceIte])
      exact hP
    exact w_ret (r0 _ (.inl (w_fin [.int .i64 0] rfl (by cases someE h; rfl) (by decide) outs_nil)))

theorem ok_spec_l03Op  (a0 : Int) (a1 : Int) (a2 : Int) (r : Int) (h : spec_l03Op  a0 a1 a2 = some r) : OkAt Cc 199 [.int .i64 a0, .int .i64 a1, .int .i64 a2] (.int .i64 r) [] := by
  refine OkAt.of_wpQ (fx := [0, 1, 2]) Cc_ok Try.func199 rfl rfl s199 (Nat.le_of_ble_eq_true rfl) (fun Q0 r0 n0 => ?_)
  replace r0 : ∀ s, onW (Fw.Ends Cc [0, 1, 2] [.tmp 6] (.int .i64 r) []) s → Q0 .ret s := r0
  replace n0 : ∀ s, onW (Fw.Ends Cc [0, 1, 2] [.tmp 6] (.int .i64 r) []) s → Q0 .normal s := n0
  show wpC Cc c199 Q0 (stA [(0, .int .i64 a0), (1, .int .i64 a1), (2, .int .i64 a2)])
  refine w_sreg (w_abs [(0, .int .i64 a0), (1, .int .i64 a1), (2, .int .i64 a2)] (fun P hP => ?_) ?_)
  · simp only [W0.down, Nat.reduceEqDiff, ↓reduceIte, reduceCtorEq, Nat.reduceAdd, Nat.reduceSub, Nat.reduceMul, Nat.reduceLeDiff, Nat.reduceBEq, Nat.reduceLT, if_true, if_false, beq_self_eq_true, BEq.rfl, ne_eq]
    (try simp only [WN.down, Nat.reduceAdd, if_true, if_false, ↓reduceIte] at hP)
    (try simp only [WN.down, Nat.reduceAdd, if_true, if_false, ↓reduceIte])
    exact hP
  refine w_seq (fun Q2 n2 q2 x2 => ?_)
  refine w_sreg (w_abs [(1, .int .i64 a1), (2, .int .i64 a2), (7, .int .i64 a0)] (fun P hP => ?_) ?_)
  · simp only [W0.down, Nat.reduceEqDiff, ↓reduceIte, reduceCtorEq, Nat.reduceAdd, Nat.reduceSub, Nat.reduceMul, Nat.reduceLeDiff, Nat.reduceBEq, Nat.reduceLT, if_true, if_false, beq_self_eq_true, BEq.rfl, ne_eq]
    (try simp only [WN.down, Nat.reduceAdd, if_true, if_false, ↓reduceIte] at hP)
    (try simp only [WN.down, Nat.reduceAdd, if_true, if_false, ↓reduceIte])
    exact hP
  refine w_blk (fun Q4 n4 q4 b4 x4 => ?_)
  refine w_sreg (w_abs [(1, .int .i64 a1), (2, .int .i64 a2), (7, .int .i64 a0), (8, .bool (a0 == 0))] (fun P hP => ?_) ?_)
  · simp only [W0.down, Nat.reduceEqDiff, ↓reduceIte, reduceCtorEq, Nat.reduceAdd, Nat.reduceSub, Nat.reduceMul, Nat.reduceLeDiff, Nat.reduceBEq, Nat.reduceLT, if_true, if_false, beq_self_eq_true, BEq.rfl, ne_eq]
    (try simp only [WN.down, Nat.reduceAdd, if_true, if_false, ↓reduceIte] at hP)
    (try simp only [WN.down, Nat.reduceAdd, if_true, if_false, ↓reduceIte])
    exact hP
  rcases condE h with ⟨b6, h⟩ | ⟨b6, h⟩
  · refine w_ct (congrArg AV.bool b6) ?_
    simp only [b6, Bool.not_true, Bool.not_false]
    refine w_sreg (w_abs [(6, .int .i64 (Int.tmod (IntKind.i64.wrap (a1 + a2)) 64))] (fun P hP => ?_) ?_)
    · simp only [W0.down, Nat.reduceEqDiff, ↓reduceIte, reduceCtorEq, Nat.reduceAdd, Nat.reduceSub, Nat.reduceMul, Nat.reduceLeDiff, Nat.reduceBEq, Nat.reduceLT, if_true, if_false, beq_self_eq_true, BEq.rfl, ne_eq, @bnI_rem' .i64 64 (by decide)]
      (try simp only [WN.down, Nat.reduceAdd, if_true, if_false, ↓reduceIte, @bnI_rem' .i64 64 (by decide)] at hP)
      (try simp only [WN.down, Nat.reduceAdd, if_true, if_false, ↓reduceIte, @bnI_rem' .i64 64 (by decide)])
      exact hP
    exact w_ret (q4 _ (q2 _ (r0 _ (.inl (w_fin [.int .i64 (Int.tmod (IntKind.i64.wrap (a1 + a2)) 64)] rfl (by cases someE h; rfl) (by decide) outs_nil)))))
  · refine w_cf (congrArg AV.bool b6) ?_
    simp only [b6, Bool.not_true, Bool.not_false]
    refine w_sreg (w_abs [(1, .int .i64 a1), (2, .int .i64 a2), (7, .int .i64 a0), (14, .bool (a0 == 1))] (fun P hP => ?_) ?_)
    · simp only [W0.down, Nat.reduceEqDiff, ↓reduceIte, reduceCtorEq, Nat.reduceAdd, Nat.reduceSub, Nat.reduceMul, Nat.reduceLeDiff, Nat.reduceBEq, Nat.reduceLT, if_true, if_false, beq_self_eq_true, BEq.rfl, ne_eq]
      (try simp only [WN.down, Nat.reduceAdd, if_true, if_false, ↓reduceIte] at hP)
      (try simp only [WN.down, Nat.reduceAdd, if_true, if_false, ↓reduceIte])
      exact hP
    rcases condE h with ⟨b9, h⟩ | ⟨b9, h⟩
    · refine w_ct (congrArg AV.bool b9) ?_
      simp only [b9, Bool.not_true, Bool.not_false]
      refine w_sreg (w_abs [(6, .int .i64 (Int.tmod (IntKind.i64.wrap ((IntKind.i64.wrap (a1 - a2)) + 64)) 64))] (fun P hP => ?_) ?_)
      · simp only [W0.down, Nat.reduceEqDiff, ↓reduceIte, reduceCtorEq, Nat.reduceAdd, Nat.reduceSub, Nat.reduceMul, Nat.reduceLeDiff, Nat.reduceBEq, Nat.reduceLT, if_true, if_false, beq_self_eq_true, BEq.rfl, ne_eq, @bnI_rem' .i64 64 (by decide)]
        (try simp only [WN.down, Nat.reduceAdd, if_true, if_false, ↓reduceIte, @bnI_rem' .i64 64 (by decide)] at hP)
        (try simp only [WN.down, Nat.reduceAdd, if_true, if_false, ↓reduceIte, @bnI_rem' .i64 64 (by decide)])
        exact hP
      exact w_ret (q4 _ (q2 _ (r0 _ (.inl (w_fin [.int .i64 (Int.tmod (IntKind.i64.wrap ((IntKind.i64.wrap (a1 - a2)) + 64)) 64)] rfl (by cases someE h; rfl) (by decide) outs_nil)))))
    · refine w_cf (congrArg AV.bool b9) ?_
      simp only [b9, Bool.not_true, Bool.not_false]
      refine w_sreg (w_abs [(1, .int .i64 a1), (2, .int .i64 a2), (7, .int .i64 a0), (21, .bool (a0 == 2))] (fun P hP => ?_) ?_)
      · simp only [W0.down, Nat.reduceEqDiff, ↓reduceIte, reduceCtorEq, Nat.reduceAdd, Nat.reduceSub, Nat.reduceMul, Nat.reduceLeDiff, Nat.reduceBEq, Nat.reduceLT, if_true, if_false, beq_self_eq_true, BEq.rfl, ne_eq]
        (try simp only [WN.down, Nat.reduceAdd, if_true, if_false, ↓reduceIte] at hP)
        (try simp only [WN.down, Nat.reduceAdd, if_true, if_false, ↓reduceIte])
        exact hP
      rcases condE h with ⟨b12, h⟩ | ⟨b12, h⟩
      · refine w_ct (congrArg AV.bool b12) ?_
        simp only [b12, Bool.not_true, Bool.not_false]
        refine w_sreg (w_abs [(6, .int .i64 (Int.tmod (IntKind.i64.wrap (a1 * a2)) 64))] (fun P hP => ?_) ?_)
        · simp only [W0.down, Nat.reduceEqDiff, ↓reduceIte, reduceCtorEq, Nat.reduceAdd, Nat.reduceSub, Nat.reduceMul, Nat.reduceLeDiff, Nat.reduceBEq, Nat.reduceLT, if_true, if_false, beq_self_eq_true, BEq.rfl, ne_eq, @bnI_rem' .i64 64 (by decide)]
          (try simp only [WN.down, Nat.reduceAdd, if_true, if_false, ↓reduceIte, @bnI_rem' .i64 64 (by decide)] at hP)
          (try simp only [WN.down, Nat.reduceAdd, if_true, if_false, ↓reduceIte, @bnI_rem' .i64 64 (by decide)])
          exact hP
        exact w_ret (q4 _ (q2 _ (r0 _ (.inl (w_fin [.int .i64 (Int.tmod (IntKind.i64.wrap (a1 * a2)) 64)] rfl (by cases someE h; rfl) (by decide) outs_nil)))))
      · refine w_cf (congrArg AV.bool b12) ?_
        simp only [b12, Bool.not_true, Bool.not_false]
        refine w_sreg (w_abs [(1, .int .i64 a1), (2, .int .i64 a2), (7, .int .i64 a0), (27, .bool (a0 == 3))] (fun P hP => ?_) ?_)
        · simp only [W0.down, Nat.reduceEqDiff, ↓reduceIte, reduceCtorEq, Nat.reduceAdd, Nat.reduceSub, Nat.reduceMul, Nat.reduceLeDiff, Nat.reduceBEq, Nat.reduceLT, if_true, if_false, beq_self_eq_true, BEq.rfl, ne_eq]
          (try simp only [WN.down, Nat.reduceAdd, if_true, if_false, ↓reduceIte] at hP)
          (try simp only [WN.down, Nat.reduceAdd, if_true, if_false, ↓reduceIte])
          exact hP
        rcases condE h with ⟨b15, h⟩ | ⟨b15, h⟩
        · refine w_ct (congrArg AV.bool b15) ?_
          simp only [b15, Bool.not_true, Bool.not_false]
          obtain ⟨x1, e17, h⟩ := bindE h
          refine w_sreg (w_abs [(6, .int .i64 x1)] (fun P hP => ?_) ?_)
          · simp only [W0.down, Nat.reduceEqDiff, ↓reduceIte, reduceCtorEq, Nat.reduceAdd, Nat.reduceSub, Nat.reduceMul, Nat.reduceLeDiff, Nat.reduceBEq, Nat.reduceLT, if_true, if_false, beq_self_eq_true, BEq.rfl, ne_eq]
            refine w_call0 (ok_spec_l03Truth (a1 == a2) _ e17) rfl rfl rfl rfl (.inl (by rfl)) ?_
            simp only [W0.down, Nat.reduceEqDiff, ↓reduceIte, reduceCtorEq, Nat.reduceAdd, Nat.reduceSub, Nat.reduceMul, Nat.reduceLeDiff, Nat.reduceBEq, Nat.reduceLT, if_true, if_false, beq_self_eq_true, BEq.rfl, ne_eq]
            (try simp only [WN.down, Nat.reduceAdd, if_true, if_false, ↓reduceIte] at hP)
            (try simp only [WN.down, Nat.reduceAdd, if_true, if_false, ↓reduceIte])
            exact hP
          exact w_ret (q4 _ (q2 _ (r0 _ (.inl (w_fin [.int .i64 x1] rfl (by cases someE h; rfl) (by decide) outs_nil)))))
        · refine w_cf (congrArg AV.bool b15) ?_
          simp only [b15, Bool.not_true, Bool.not_false]
          refine w_sreg (w_abs [(1, .int .i64 a1), (2, .int .i64 a2), (7, .int .i64 a0), (33, .bool (a0 == 4))] (fun P hP => ?_) ?_)
          · simp only [W0.down, Nat.reduceEqDiff, ↓reduceIte, reduceCtorEq, Nat.reduceAdd, Nat.reduceSub, Nat.reduceMul, Nat.reduceLeDiff, Nat.reduceBEq, Nat.reduceLT, if_true, if_false, beq_self_eq_true, BEq.rfl, ne_eq]
            (try simp only [WN.down, Nat.reduceAdd, if_true, if_false, ↓reduceIte] at hP)
            (try simp only [WN.down, Nat.reduceAdd, if_true, if_false, ↓reduceIte])
            exact hP
          rcases condE h with ⟨b19, h⟩ | ⟨b19, h⟩
          · refine w_ct (congrArg AV.bool b19) ?_
            simp only [b19, Bool.not_true, Bool.not_false]
            obtain ⟨x2, e21, h⟩ := bindE h
            refine w_sreg (w_abs [(6, .int .i64 x2)] (fun P hP => ?_) ?_)
            · simp only [W0.down, Nat.reduceEqDiff, ↓reduceIte, reduceCtorEq, Nat.reduceAdd, Nat.reduceSub, Nat.reduceMul, Nat.reduceLeDiff, Nat.reduceBEq, Nat.reduceLT, if_true, if_false, beq_self_eq_true, BEq.rfl, ne_eq]
              refine w_call0 (ok_spec_l03Truth (a1 != a2) _ e21) rfl rfl rfl rfl (.inl (by rfl)) ?_
              simp only [W0.down, Nat.reduceEqDiff, ↓reduceIte, reduceCtorEq, Nat.reduceAdd, Nat.reduceSub, Nat.reduceMul, Nat.reduceLeDiff, Nat.reduceBEq, Nat.reduceLT, if_true, if_false, beq_self_eq_true, BEq.rfl, ne_eq]
              (try simp only [WN.down, Nat.reduceAdd, if_true, if_false, ↓reduceIte] at hP)
              (try simp only [WN.down, Nat.reduceAdd, if_true, if_false, ↓reduceIte])
              exact hP
            exact w_ret (q4 _ (q2 _ (r0 _ (.inl (w_fin [.int .i64 x2] rfl (by cases someE h; rfl) (by decide) outs_nil)))))
          · refine w_cf (congrArg AV.bool b19) ?_
            simp only [b19, Bool.not_true, Bool.not_false]
            refine w_sreg (w_abs [(1, .int .i64 a1), (2, .int .i64 a2), (7, .int .i64 a0), (39, .bool (a0 == 5))] (fun P hP => ?_) ?_)
            · simp only [W0.down, Nat.reduceEqDiff, ↓reduceIte, reduceCtorEq, Nat.reduceAdd, Nat.reduceSub, Nat.reduceMul, Nat.reduceLeDiff, Nat.reduceBEq, Nat.reduceLT, if_true, if_false, beq_self_eq_true, BEq.rfl, ne_eq]
              (try simp only [WN.down, Nat.reduceAdd, if_true, if_false, ↓reduceIte] at hP)
              (try simp only [WN.down, Nat.reduceAdd, if_true, if_false, ↓reduceIte])
              exact hP
            rcases condE h with ⟨b23, h⟩ | ⟨b23, h⟩
            · refine w_ct (congrArg AV.bool b23) ?_
              simp only [b23, Bool.not_true, Bool.not_false]
              obtain ⟨x3, e25, h⟩ := bindE h
              refine w_sreg (w_abs [(6, .int .i64 x3)] (fun P hP => ?_) ?_)
              · simp only [W0.down, Nat.reduceEqDiff, ↓reduceIte, reduceCtorEq, Nat.reduceAdd, Nat.reduceSub, Nat.reduceMul, Nat.reduceLeDiff, Nat.reduceBEq, Nat.reduceLT, if_true, if_false, beq_self_eq_true, BEq.rfl, ne_eq]
                refine w_call0 (ok_spec_l03Truth (decide (a1 < a2)) _ e25) rfl rfl rfl rfl (.inl (by rfl)) ?_
                simp only [W0.down, Nat.reduceEqDiff, ↓reduceIte, reduceCtorEq, Nat.reduceAdd, Nat.reduceSub, Nat.reduceMul, Nat.reduceLeDiff, Nat.reduceBEq, Nat.reduceLT, if_true, if_false, beq_self_eq_true, BEq.rfl, ne_eq]
                (try simp only [WN.down, Nat.reduceAdd, if_true, if_false, ↓reduceIte] at hP)
                (try simp only [WN.down, Nat.reduceAdd, if_true, if_false, ↓reduceIte])
                exact hP
              exact w_ret (q4 _ (q2 _ (r0 _ (.inl (w_fin [.int .i64 x3] rfl (by cases someE h; rfl) (by decide) outs_nil)))))
            · refine w_cf (congrArg AV.bool b23) ?_
              simp only [b23, Bool.not_true, Bool.not_false]
              refine w_sreg (w_abs [(1, .int .i64 a1), (2, .int .i64 a2), (7, .int .i64 a0), (45, .bool (a0 == 6))] (fun P hP => ?_) ?_)
              · simp only [W0.down, Nat.reduceEqDiff, ↓reduceIte, reduceCtorEq, Nat.reduceAdd, Nat.reduceSub, Nat.reduceMul, Nat.reduceLeDiff, Nat.reduceBEq, Nat.reduceLT, if_true, if_false, beq_self_eq_true, BEq.rfl, ne_eq]
                (try simp only [WN.down, Nat.reduceAdd, if_true, if_false, ↓reduceIte] at hP)
                (try simp only [WN.down, Nat.reduceAdd, if_true, if_false, ↓reduceIte])
                exact hP
              rcases condE h with ⟨b27, h⟩ | ⟨b27, h⟩
              · refine w_ct (congrArg AV.bool b27) ?_
                simp only [b27, Bool.not_true, Bool.not_false]
                obtain ⟨x4, e29, h⟩ := bindE h
                refine w_sreg (w_abs [(6, .int .i64 x4)] (fun P hP => ?_) ?_)
                · simp only [W0.down, Nat.reduceEqDiff, ↓reduceIte, reduceCtorEq, Nat.reduceAdd, Nat.reduceSub, Nat.reduceMul, Nat.reduceLeDiff, Nat.reduceBEq, Nat.reduceLT, if_true, if_false, beq_self_eq_true, BEq.rfl, ne_eq]
                  refine w_call0 (ok_spec_l03Truth (decide (a1 ≤ a2)) _ e29) rfl rfl rfl rfl (.inl (by rfl)) ?_
                  simp only [W0.down, Nat.reduceEqDiff, ↓reduceIte, reduceCtorEq, Nat.reduceAdd, Nat.reduceSub, Nat.reduceMul, Nat.reduceLeDiff, Nat.reduceBEq, Nat.reduceLT, if_true, if_false, beq_self_eq_true, BEq.rfl, ne_eq]
                  (try simp only [WN.down, Nat.reduceAdd, if_true, if_false, ↓reduceIte] at hP)
                  (try simp only [WN.down, Nat.reduceAdd, if_true, if_false, ↓reduceIte])
                  exact hP
                exact w_ret (q4 _ (q2 _ (r0 _ (.inl (w_fin [.int .i64 x4] rfl (by cases someE h; rfl) (by decide) outs_nil)))))
              · refine w_cf (congrArg AV.bool b27) ?_
                simp only [b27, Bool.not_true, Bool.not_false]
                refine w_sreg (w_abs [(1, .int .i64 a1), (2, .int .i64 a2), (51, .bool (a0 == 7))] (fun P hP => ?_) ?_)
                · simp only [W0.down, Nat.reduceEqDiff, ↓reduceIte, reduceCtorEq, Nat.reduceAdd, Nat.reduceSub, Nat.reduceMul, Nat.reduceLeDiff, Nat.reduceBEq, Nat.reduceLT, if_true, if_false, beq_self_eq_true, BEq.rfl, ne_eq]
                  (try simp only [WN.down, Nat.reduceAdd, if_true, if_false, ↓reduceIte] at hP)
                  (try simp only [WN.down, Nat.reduceAdd, if_true, if_false, ↓reduceIte])
                  exact hP
                rcases condE h with ⟨b31, h⟩ | ⟨b31, h⟩
                · refine w_ct (congrArg AV.bool b31) ?_
                  simp only [b31, Bool.not_true, Bool.not_false]
                  rcases condE h with ⟨b33, h⟩ | ⟨b33, h⟩
                  · obtain ⟨x5, e34, h⟩ := bindE h
                    refine w_sreg (w_abs [(6, .int .i64 x5)] (fun P hP => ?_) ?_)
                    · simp only [W0.down, Nat.reduceEqDiff, ↓reduceIte, reduceCtorEq, Nat.reduceAdd, Nat.reduceSub, Nat.reduceMul, Nat.reduceLeDiff, Nat.reduceBEq, Nat.reduceLT, if_true, if_false, beq_self_eq_true, BEq.rfl, ne_eq, b33]
                      refine w_call0 (ok_spec_l03Truth (a2 != 0) _ e34) rfl rfl rfl rfl (.inl (by rfl)) ?_
                      simp only [W0.down, Nat.reduceEqDiff, ↓reduceIte, reduceCtorEq, Nat.reduceAdd, Nat.reduceSub, Nat.reduceMul, Nat.reduceLeDiff, Nat.reduceBEq, Nat.reduceLT, if_true, if_false, beq_self_eq_true, BEq.rfl, ne_eq, b33]
                      (try simp only [WN.down, Nat.reduceAdd, if_true, if_false, ↓reduceIte, b33] at hP)
                      (try simp only [WN.down, Nat.reduceAdd, if_true, if_false, ↓reduceIte, b33])
                      exact hP
                    exact w_ret (q4 _ (q2 _ (r0 _ (.inl (w_fin [.int .i64 x5] rfl (by cases someE h; rfl) (by decide) outs_nil)))))
                  · obtain ⟨x6, e35, h⟩ := bindE h
                    refine w_sreg (w_abs [(6, .int .i64 x6)] (fun P hP => ?_) ?_)
                    · simp only [W0.down, Nat.reduceEqDiff, ↓reduceIte, reduceCtorEq, Nat.reduceAdd, Nat.reduceSub, Nat.reduceMul, Nat.reduceLeDiff, Nat.reduceBEq, Nat.reduceLT, if_true, if_false, beq_self_eq_true, BEq.rfl, ne_eq, b33]
                      refine w_call0 (ok_spec_l03Truth false _ e35) rfl rfl rfl rfl (.inl (by rfl)) ?_
                      simp only [W0.down, Nat.reduceEqDiff, ↓reduceIte, reduceCtorEq, Nat.reduceAdd, Nat.reduceSub, Nat.reduceMul, Nat.reduceLeDiff, Nat.reduceBEq, Nat.reduceLT, if_true, if_false, beq_self_eq_true, BEq.rfl, ne_eq, b33]
                      (try simp only [WN.down, Nat.reduceAdd, if_true, if_false, ↓reduceIte, b33] at hP)
                      (try simp only [WN.down, Nat.reduceAdd, if_true, if_false, ↓reduceIte, b33])
                      exact hP
                    exact w_ret (q4 _ (q2 _ (r0 _ (.inl (w_fin [.int .i64 x6] rfl (by cases someE h; rfl) (by decide) outs_nil)))))
                · refine w_cf (congrArg AV.bool b31) ?_
                  simp only [b31, Bool.not_true, Bool.not_false]
                  refine w_skip (n4 _ (n2 _ (.inl ?_)))
                  rcases condE h with ⟨b37, h⟩ | ⟨b37, h⟩
                  · obtain ⟨x7, e38, h⟩ := bindE h
                    refine w_sreg (w_abs [(6, .int .i64 x7)] (fun P hP => ?_) ?_)
                    · simp only [W0.down, Nat.reduceEqDiff, ↓reduceIte, reduceCtorEq, Nat.reduceAdd, Nat.reduceSub, Nat.reduceMul, Nat.reduceLeDiff, Nat.reduceBEq, Nat.reduceLT, if_true, if_false, beq_self_eq_true, BEq.rfl, ne_eq, b37]
                      refine w_call0 (ok_spec_l03Truth true _ e38) rfl rfl rfl rfl (.inl (by rfl)) ?_
                      simp only [W0.down, Nat.reduceEqDiff, ↓reduceIte, reduceCtorEq, Nat.reduceAdd, Nat.reduceSub, Nat.reduceMul, Nat.reduceLeDiff, Nat.reduceBEq, Nat.reduceLT, if_true, if_false, beq_self_eq_true, BEq.rfl, ne_eq, b37]
                      (try simp only [WN.down, Nat.reduceAdd, if_true, if_false, ↓reduceIte, b37] at hP)
                      (try simp only [WN.down, Nat.reduceAdd, if_true, if_false, ↓reduceIte, b37])
                      exact hP
                    exact w_ret (r0 _ (.inl (w_fin [.int .i64 x7] rfl (by cases someE h; rfl) (by decide) outs_nil)))
                  · obtain ⟨x8, e39, h⟩ := bindE h
                    refine w_sreg (w_abs [(6, .int .i64 x8)] (fun P hP => ?_) ?_)
                    · simp only [W0.down, Nat.reduceEqDiff, ↓reduceIte, reduceCtorEq, Nat.reduceAdd, Nat.reduceSub, Nat.reduceMul, Nat.reduceLeDiff, Nat.reduceBEq, Nat.reduceLT, if_true, if_false, beq_self_eq_true, BEq.rfl, ne_eq, b37]
                      refine w_call0 (ok_spec_l03Truth (a2 != 0) _ e39) rfl rfl rfl rfl (.inl (by rfl)) ?_
                      simp only [W0.down, Nat.reduceEqDiff, ↓reduceIte, reduceCtorEq, Nat.reduceAdd, Nat.reduceSub, Nat.reduceMul, Nat.reduceLeDiff, Nat.reduceBEq, Nat.reduceLT, if_true, if_false, beq_self_eq_true, BEq.rfl, ne_eq, b37]
                      (try simp only [WN.down, Nat.reduceAdd, if_true, if_false, ↓reduceIte, b37] at hP)
                      (try simp only [WN.down, Nat.reduceAdd, if_true, if_false, ↓reduceIte, b37])
                      exact hP
                    exact w_ret (r0 _ (.inl (w_fin [.int .i64 x8] rfl (by cases someE h; rfl) (by decide) outs_nil)))

theorem ok_spec_l03Fold_f (rec11 : (List impl_Term) → Option ((List impl_Term))) (hrec11 : ∀ (a0 : List impl_Term) (r : (List impl_Term)), rec11 a0 = some r → OkAt Cc 106 [.slice (a0.map e_impl_Term)] (.uslice 2 (r.map e_impl_Term)) []) (a0 : List impl_Term) (r : (List impl_Term)) (h : spec_l03Fold_f rec11 a0 = some r) : OkAt Cc 106 [.slice (a0.map e_impl_Term)] (.uslice 2 (r.map e_impl_Term)) [] := by
  refine OkAt.of_wpQ (fx := [0]) Cc_ok Try.func106 rfl rfl s106 (Nat.le_of_ble_eq_true rfl) (fun Q0 r0 n0 => ?_)
  replace r0 : ∀ s, onW (Fw.Ends Cc [0] [.tmp 2] (.uslice 2 (r.map e_impl_Term)) []) s → Q0 .ret s := r0
  replace n0 : ∀ s, onW (Fw.Ends Cc [0] [.tmp 2] (.uslice 2 (r.map e_impl_Term)) []) s → Q0 .normal s := n0
  show wpC Cc c106 Q0 (stA [(0, .slice (a0.map e_impl_Term))])
  refine w_sreg (w_abs [(0, .slice (a0.map e_impl_Term))] (fun P hP => ?_) ?_)
  · simp only [W0.down, Nat.reduceEqDiff, ↓reduceIte, reduceCtorEq, Nat.reduceAdd, Nat.reduceSub, Nat.reduceMul, Nat.reduceLeDiff, Nat.reduceBEq, Nat.reduceLT, if_true, if_false, beq_self_eq_true, BEq.rfl, ne_eq, e_impl_Term]
    (try simp only [WN.down, Nat.reduceAdd, if_true, if_false, ↓reduceIte, e_impl_Term] at hP)
    (try simp only [WN.down, Nat.reduceAdd, if_true, if_false, ↓reduceIte, e_impl_Term])
    exact hP
  refine w_seq (fun Q2 n2 q2 x2 => ?_)
  obtain ⟨x1, e4, h⟩ := bindE h
  obtain ⟨x2, e5, h⟩ := bindE h
  refine w_sreg (w_abs [(0, .slice (a0.map e_impl_Term)), (10, .bool (x2 == 0))] (fun P hP => ?_) ?_)
  · simp only [W0.down, Nat.reduceEqDiff, ↓reduceIte, reduceCtorEq, Nat.reduceAdd, Nat.reduceSub, Nat.reduceMul, Nat.reduceLeDiff, Nat.reduceBEq, Nat.reduceLT, if_true, if_false, beq_self_eq_true, BEq.rfl, ne_eq, tt2, tt40, tt131, e_impl_Term, e4]
    refine w_call0 (ok_spec_l03Arity x1 _ e5) rfl rfl rfl rfl (.inl (by rfl)) ?_
    simp only [W0.down, Nat.reduceEqDiff, ↓reduceIte, reduceCtorEq, Nat.reduceAdd, Nat.reduceSub, Nat.reduceMul, Nat.reduceLeDiff, Nat.reduceBEq, Nat.reduceLT, if_true, if_false, beq_self_eq_true, BEq.rfl, ne_eq, tt2, tt40, tt131, e_impl_Term, e4]
    (try simp only [WN.down, Nat.reduceAdd, if_true, if_false, ↓reduceIte, tt2, tt40, tt131, e_impl_Term, e4] at hP)
    (try simp only [WN.down, Nat.reduceAdd, if_true, if_false, ↓reduceIte, tt2, tt40, tt131, e_impl_Term, e4])
    exact hP
  rcases condE h with ⟨b6, h⟩ | ⟨b6, h⟩
  · refine w_ct (congrArg AV.bool b6) ?_
    simp only [b6, Bool.not_true, Bool.not_false]
    obtain ⟨x3, e8, h⟩ := bindE h
    refine w_sreg (w_abs [(2, .uslice 2 (x3.map e_impl_Term))] (fun P hP => ?_) ?_)
    · simp only [W0.down, Nat.reduceEqDiff, ↓reduceIte, reduceCtorEq, Nat.reduceAdd, Nat.reduceSub, Nat.reduceMul, Nat.reduceLeDiff, Nat.reduceBEq, Nat.reduceLT, if_true, if_false, beq_self_eq_true, BEq.rfl, ne_eq, e_impl_Term]
      refine w_call0 (ok_spec_l03Own a0 _ e8) rfl rfl rfl rfl (.inl (by rfl)) ?_
      simp only [W0.down, Nat.reduceEqDiff, ↓reduceIte, reduceCtorEq, Nat.reduceAdd, Nat.reduceSub, Nat.reduceMul, Nat.reduceLeDiff, Nat.reduceBEq, Nat.reduceLT, if_true, if_false, beq_self_eq_true, BEq.rfl, ne_eq, e_impl_Term]
      (try simp only [WN.down, Nat.reduceAdd, if_true, if_false, ↓reduceIte, e_impl_Term] at hP)
      (try simp only [WN.down, Nat.reduceAdd, if_true, if_false, ↓reduceIte, e_impl_Term])
      exact hP
    exact w_ret (q2 _ (r0 _ (.inl (w_fin [.uslice 2 (x3.map e_impl_Term)] rfl (by cases someE h; rfl) (by decide) outs_nil))))
  · refine w_cf (congrArg AV.bool b6) ?_
    simp only [b6, Bool.not_true, Bool.not_false]
    refine w_skip (n2 _ (.inl ?_))
    obtain ⟨x4, e10, h⟩ := bindE h
    refine w_sreg (w_abs [(0, .slice (a0.map e_impl_Term)), (3, .int .i64 x4)] (fun P hP => ?_) ?_)
    · simp only [W0.down, Nat.reduceEqDiff, ↓reduceIte, reduceCtorEq, Nat.reduceAdd, Nat.reduceSub, Nat.reduceMul, Nat.reduceLeDiff, Nat.reduceBEq, Nat.reduceLT, if_true, if_false, beq_self_eq_true, BEq.rfl, ne_eq, e_impl_Term]
      refine w_call0 (ok_spec_l03End a0 1 _ e10) rfl rfl rfl rfl (.inl (by rfl)) ?_
      simp only [W0.down, Nat.reduceEqDiff, ↓reduceIte, reduceCtorEq, Nat.reduceAdd, Nat.reduceSub, Nat.reduceMul, Nat.reduceLeDiff, Nat.reduceBEq, Nat.reduceLT, if_true, if_false, beq_self_eq_true, BEq.rfl, ne_eq, e_impl_Term]
      (try simp only [WN.down, Nat.reduceAdd, if_true, if_false, ↓reduceIte, e_impl_Term] at hP)
      (try simp only [WN.down, Nat.reduceAdd, if_true, if_false, ↓reduceIte, e_impl_Term])
      exact hP
    obtain ⟨x5, e12, h⟩ := bindE h
    obtain ⟨x6, e13, h⟩ := bindE h
    refine w_sreg (w_abs [(0, .slice (a0.map e_impl_Term)), (3, .int .i64 x4), (4, .uslice 2 (x6.map e_impl_Term))] (fun P hP => ?_) ?_)
    · simp only [W0.down, Nat.reduceEqDiff, ↓reduceIte, reduceCtorEq, Nat.reduceAdd, Nat.reduceSub, Nat.reduceMul, Nat.reduceLeDiff, Nat.reduceBEq, Nat.reduceLT, if_true, if_false, beq_self_eq_true, BEq.rfl, ne_eq, tt2, tt40, tt131, e_impl_Term, e12, @all_wd' _ e_impl_Term 2 (fun _ => rfl)]
      refine w_call0 (hrec11 x5 _ e13) rfl rfl rfl rfl (.inl (by rfl)) ?_
      simp only [W0.down, Nat.reduceEqDiff, ↓reduceIte, reduceCtorEq, Nat.reduceAdd, Nat.reduceSub, Nat.reduceMul, Nat.reduceLeDiff, Nat.reduceBEq, Nat.reduceLT, if_true, if_false, beq_self_eq_true, BEq.rfl, ne_eq, tt2, tt40, tt131, e_impl_Term, e12, @all_wd' _ e_impl_Term 2 (fun _ => rfl)]
      (try simp only [WN.down, Nat.reduceAdd, if_true, if_false, ↓reduceIte, tt2, tt40, tt131, e_impl_Term, e12, @all_wd' _ e_impl_Term 2 (fun _ => rfl)] at hP)
      (try simp only [WN.down, Nat.reduceAdd, if_true, if_false, ↓reduceIte, tt2, tt40, tt131, e_impl_Term, e12, @all_wd' _ e_impl_Term 2 (fun _ => rfl)])
      exact hP
    refine w_seq (fun Q14 n14 q14 x14 => ?_)
    refine w_sreg (w_abs [(0, .slice (a0.map e_impl_Term)), (3, .int .i64 x4), (4, .uslice 2 (x6.map e_impl_Term)), (23, .bool (x1.Kind == 3))] (fun P hP => ?_) ?_)
    · simp only [W0.down, Nat.reduceEqDiff, ↓reduceIte, reduceCtorEq, Nat.reduceAdd, Nat.reduceSub, Nat.reduceMul, Nat.reduceLeDiff, Nat.reduceBEq, Nat.reduceLT, if_true, if_false, beq_self_eq_true, BEq.rfl, ne_eq, tt2, tt40, tt131, e_impl_Term, e4]
      (try simp only [WN.down, Nat.reduceAdd, if_true, if_false, ↓reduceIte, tt2, tt40, tt131, e_impl_Term, e4] at hP)
      (try simp only [WN.down, Nat.reduceAdd, if_true, if_false, ↓reduceIte, tt2, tt40, tt131, e_impl_Term, e4])
      exact hP
    rcases condE h with ⟨b16, h⟩ | ⟨b16, h⟩
    · refine w_ct (congrArg AV.bool b16) ?_
      simp only [b16, Bool.not_true, Bool.not_false]
      refine w_seq (fun Q17 n17 q17 x17 => ?_)
      obtain ⟨x7, e19, h⟩ := bindE h
      refine w_sreg (w_abs [(0, .slice (a0.map e_impl_Term)), (4, .uslice 2 (x6.map e_impl_Term)), (28, .bool (x7.Kind == 0))] (fun P hP => ?_) ?_)
      · simp only [W0.down, Nat.reduceEqDiff, ↓reduceIte, reduceCtorEq, Nat.reduceAdd, Nat.reduceSub, Nat.reduceMul, Nat.reduceLeDiff, Nat.reduceBEq, Nat.reduceLT, if_true, if_false, beq_self_eq_true, BEq.rfl, ne_eq, tt2, tt40, tt131, e_impl_Term, e19, getI_get e19]
        (try simp only [WN.down, Nat.reduceAdd, if_true, if_false, ↓reduceIte, tt2, tt40, tt131, e_impl_Term, e19, getI_get e19] at hP)
        (try simp only [WN.down, Nat.reduceAdd, if_true, if_false, ↓reduceIte, tt2, tt40, tt131, e_impl_Term, e19, getI_get e19])
        exact hP
      rcases condE h with ⟨b20, h⟩ | ⟨b20, h⟩
      · refine w_ct (congrArg AV.bool b20) ?_
        simp only [b20, Bool.not_true, Bool.not_false]
        obtain ⟨x8, e22, h⟩ := bindE h
        refine w_sreg (w_abs [(2, .uslice 2 ([(impl_Term.mk 0 x8)].map e_impl_Term))] (fun P hP => ?_) ?_)
        · simp only [W0.down, Nat.reduceEqDiff, ↓reduceIte, reduceCtorEq, Nat.reduceAdd, Nat.reduceSub, Nat.reduceMul, Nat.reduceLeDiff, Nat.reduceBEq, Nat.reduceLT, if_true, if_false, beq_self_eq_true, BEq.rfl, ne_eq, tt2, tt40, tt131, e_impl_Term, e19, getI_get e19, (show ∀ s, bld Cc s 131 [(0, .int .i64 0), (1, .int .i64 x8)] = some (.agg [.int .i64 0, .int .i64 x8], s) from fun s => by kernel_rfl), (show ∀ s, bsl Cc s 40 1 [(0, .agg [.int .i64 0, .int .i64 x8])] = some (.uslice 2 [.agg [.int .i64 0, .int .i64 x8]], s) from fun s => by kernel_rfl)]
          refine w_call0 (ok_spec_l03Truth (x7.Value == 0) _ e22) rfl rfl rfl rfl (.inl (by rfl)) ?_
          simp only [W0.down, Nat.reduceEqDiff, ↓reduceIte, reduceCtorEq, Nat.reduceAdd, Nat.reduceSub, Nat.reduceMul, Nat.reduceLeDiff, Nat.reduceBEq, Nat.reduceLT, if_true, if_false, beq_self_eq_true, BEq.rfl, ne_eq, tt2, tt40, tt131, e_impl_Term, e19, getI_get e19, (show ∀ s, bld Cc s 131 [(0, .int .i64 0), (1, .int .i64 x8)] = some (.agg [.int .i64 0, .int .i64 x8], s) from fun s => by kernel_rfl), (show ∀ s, bsl Cc s 40 1 [(0, .agg [.int .i64 0, .int .i64 x8])] = some (.uslice 2 [.agg [.int .i64 0, .int .i64 x8]], s) from fun s => by kernel_rfl)]
          (try simp only [WN.down, Nat.reduceAdd, if_true, if_false, ↓reduceIte, tt2, tt40, tt131, e_impl_Term, e19, getI_get e19, (show ∀ s, bld Cc s 131 [(0, .int .i64 0), (1, .int .i64 x8)] = some (.agg [.int .i64 0, .int .i64 x8], s) from fun s => by kernel_rfl), (show ∀ s, bsl Cc s 40 1 [(0, .agg [.int .i64 0, .int .i64 x8])] = some (.uslice 2 [.agg [.int .i64 0, .int .i64 x8]], s) from fun s => by kernel_rfl)] at hP)
          (try simp only [WN.down, Nat.reduceAdd, if_true, if_false, ↓reduceIte, tt2, tt40, tt131, e_impl_Term, e19, getI_get e19, (show ∀ s, bld Cc s 131 [(0, .int .i64 0), (1, .int .i64 x8)] = some (.agg [.int .i64 0, .int .i64 x8], s) from fun s => by kernel_rfl), (show ∀ s, bsl Cc s 40 1 [(0, .agg [.int .i64 0, .int .i64 x8])] = some (.uslice 2 [.agg [.int .i64 0, .int .i64 x8]], s) from fun s => by kernel_rfl)])
          exact hP
        exact w_ret (q17 _ (q14 _ (r0 _ (.inl (w_fin [.uslice 2 ([(impl_Term.mk 0 x8)].map e_impl_Term)] rfl (by cases someE h; rfl) (by decide) outs_nil)))))
      · refine w_cf (congrArg AV.bool b20) ?_
        simp only [b20, Bool.not_true, Bool.not_false]
        refine w_skip (n17 _ (.inl ?_))
        obtain ⟨u24, e24, h⟩ := bindE h
        (try simp only [List.length_append, List.length_cons, List.length_nil, List.length_map, List.length_replicate, Nat.zero_add, Nat.add_zero, Nat.reduceAdd] at e24)
        refine w_sreg (w_abs [(2, .uslice 2 (([x1] ++ x6).map e_impl_Term))] (fun P hP => ?_) ?_)
        · simp only [W0.down, Nat.reduceEqDiff, ↓reduceIte, reduceCtorEq, Nat.reduceAdd, Nat.reduceSub, Nat.reduceMul, Nat.reduceLeDiff, Nat.reduceBEq, Nat.reduceLT, if_true, if_false, beq_self_eq_true, BEq.rfl, ne_eq, tt2, tt40, tt131, e_impl_Term, e4, (show ∀ s, bsl Cc s 40 1 [(0, .agg [.int .i64 x1.Kind, .int .i64 x1.Value])] = some (.uslice 2 [.agg [.int .i64 x1.Kind, .int .i64 x1.Value]], s) from fun s => by kernel_rfl), @apd_s Cc 40 40 131 rfl rfl, ap_s, ap2_s, ap3_s, all_cons, all_nil, e24, @all_wd' _ e_impl_Term 2 (fun _ => rfl)]
          (try simp only [WN.down, Nat.reduceAdd, if_true, if_false, ↓reduceIte, tt2, tt40, tt131, e_impl_Term, e4, (show ∀ s, bsl Cc s 40 1 [(0, .agg [.int .i64 x1.Kind, .int .i64 x1.Value])] = some (.uslice 2 [.agg [.int .i64 x1.Kind, .int .i64 x1.Value]], s) from fun s => by kernel_rfl), @apd_s Cc 40 40 131 rfl rfl, ap_s, ap2_s, ap3_s, all_cons, all_nil, e24, @all_wd' _ e_impl_Term 2 (fun _ => rfl)] at hP)
          (try simp only [WN.down, Nat.reduceAdd, if_true, if_false, ↓reduceIte, tt2, tt40, tt131, e_impl_Term, e4, (show ∀ s, bsl Cc s 40 1 [(0, .agg [.int .i64 x1.Kind, .int .i64 x1.Value])] = some (.uslice 2 [.agg [.int .i64 x1.Kind, .int .i64 x1.Value]], s) from fun s => by kernel_rfl), @apd_s Cc 40 40 131 rfl rfl, ap_s, ap2_s, ap3_s, all_cons, all_nil, e24, @all_wd' _ e_impl_Term 2 (fun _ => rfl)])
          exact hP
        exact w_ret (q14 _ (r0 _ (.inl (w_fin [.uslice 2 (([x1] ++ x6).map e_impl_Term)] rfl (by cases someE h; rfl) (by decide) outs_nil))))
    · refine w_cf (congrArg AV.bool b16) ?_
      simp only [b16, Bool.not_true, Bool.not_false]
      refine w_skip (n14 _ (.inl ?_))
      obtain ⟨x9, e26, h⟩ := bindE h
      obtain ⟨x10, e27, h⟩ := bindE h
      refine w_sreg (w_abs [(0, .slice (a0.map e_impl_Term)), (4, .uslice 2 (x6.map e_impl_Term)), (5, .uslice 2 (x10.map e_impl_Term))] (fun P hP => ?_) ?_)
      · simp only [W0.down, Nat.reduceEqDiff, ↓reduceIte, reduceCtorEq, Nat.reduceAdd, Nat.reduceSub, Nat.reduceMul, Nat.reduceLeDiff, Nat.reduceBEq, Nat.reduceLT, if_true, if_false, beq_self_eq_true, BEq.rfl, ne_eq, tt2, tt40, tt131, e_impl_Term, e26, @all_wd' _ e_impl_Term 2 (fun _ => rfl)]
        refine w_call0 (hrec11 x9 _ e27) rfl rfl rfl rfl (.inl (by rfl)) ?_
        simp only [W0.down, Nat.reduceEqDiff, ↓reduceIte, reduceCtorEq, Nat.reduceAdd, Nat.reduceSub, Nat.reduceMul, Nat.reduceLeDiff, Nat.reduceBEq, Nat.reduceLT, if_true, if_false, beq_self_eq_true, BEq.rfl, ne_eq, tt2, tt40, tt131, e_impl_Term, e26, @all_wd' _ e_impl_Term 2 (fun _ => rfl)]
        (try simp only [WN.down, Nat.reduceAdd, if_true, if_false, ↓reduceIte, tt2, tt40, tt131, e_impl_Term, e26, @all_wd' _ e_impl_Term 2 (fun _ => rfl)] at hP)
        (try simp only [WN.down, Nat.reduceAdd, if_true, if_false, ↓reduceIte, tt2, tt40, tt131, e_impl_Term, e26, @all_wd' _ e_impl_Term 2 (fun _ => rfl)])
        exact hP
      refine w_seq (fun Q28 n28 q28 x28 => ?_)
      obtain ⟨x11, e30, h⟩ := bindE h
      rcases condE h with ⟨b31, h⟩ | ⟨b31, h⟩
      · obtain ⟨x12, e32, h⟩ := bindE h
        refine w_sreg (w_abs [(0, .slice (a0.map e_impl_Term)), (4, .uslice 2 (x6.map e_impl_Term)), (5, .uslice 2 (x10.map e_impl_Term)), (58, .bool (x12.Kind == 0))] (fun P hP => ?_) ?_)
        · simp only [W0.down, Nat.reduceEqDiff, ↓reduceIte, reduceCtorEq, Nat.reduceAdd, Nat.reduceSub, Nat.reduceMul, Nat.reduceLeDiff, Nat.reduceBEq, Nat.reduceLT, if_true, if_false, beq_self_eq_true, BEq.rfl, ne_eq, tt2, tt40, tt131, e_impl_Term, e30, getI_get e30, b31, e32, getI_get e32]
          (try simp only [WN.down, Nat.reduceAdd, if_true, if_false, ↓reduceIte, tt2, tt40, tt131, e_impl_Term, e30, getI_get e30, b31, e32, getI_get e32] at hP)
          (try simp only [WN.down, Nat.reduceAdd, if_true, if_false, ↓reduceIte, tt2, tt40, tt131, e_impl_Term, e30, getI_get e30, b31, e32, getI_get e32])
          exact hP
        rcases condE h with ⟨b33, h⟩ | ⟨b33, h⟩
        · refine w_ct (congrArg AV.bool b33) ?_
          simp only [b33, Bool.not_true, Bool.not_false]
          obtain ⟨x13, e35, h⟩ := bindE h
          refine w_sdrw rfl (w_absd [(2, .uslice 2 ([(impl_Term.mk 0 x13)].map e_impl_Term))] (fun P hP => ?_) ?_)
          · simp only [W1.down, Nat.reduceEqDiff, ↓reduceIte, reduceCtorEq, Nat.reduceAdd, Nat.reduceSub, Nat.reduceMul, Nat.reduceLeDiff, Nat.reduceBEq, Nat.reduceLT, if_true, if_false, beq_self_eq_true, BEq.rfl, ne_eq, tt2, tt40, tt131, e_impl_Term, e4, e30, getI_get e30, e32, getI_get e32, (show ∀ s, bld Cc s 131 [(0, .int .i64 0), (1, .int .i64 x13)] = some (.agg [.int .i64 0, .int .i64 x13], s) from fun s => by kernel_rfl), (show ∀ s, bsl Cc s 40 1 [(0, .agg [.int .i64 0, .int .i64 x13])] = some (.uslice 2 [.agg [.int .i64 0, .int .i64 x13]], s) from fun s => by kernel_rfl)]
            refine w_call1 (ok_spec_l03Op x1.Value x11.Value x12.Value _ e35) rfl rfl rfl rfl (.inl (by rfl)) ?_
            simp only [W1.down, Nat.reduceEqDiff, ↓reduceIte, reduceCtorEq, Nat.reduceAdd, Nat.reduceSub, Nat.reduceMul, Nat.reduceLeDiff, Nat.reduceBEq, Nat.reduceLT, if_true, if_false, beq_self_eq_true, BEq.rfl, ne_eq, tt2, tt40, tt131, e_impl_Term, e4, e30, getI_get e30, e32, getI_get e32, (show ∀ s, bld Cc s 131 [(0, .int .i64 0), (1, .int .i64 x13)] = some (.agg [.int .i64 0, .int .i64 x13], s) from fun s => by kernel_rfl), (show ∀ s, bsl Cc s 40 1 [(0, .agg [.int .i64 0, .int .i64 x13])] = some (.uslice 2 [.agg [.int .i64 0, .int .i64 x13]], s) from fun s => by kernel_rfl)]
            refine ⟨by kernel_rfl, ?_⟩
            (try simp only [WN.down, Nat.reduceAdd, if_true, if_false, ↓reduceIte, tt2, tt40, tt131, e_impl_Term, e4, e30, getI_get e30, e32, getI_get e32, (show ∀ s, bld Cc s 131 [(0, .int .i64 0), (1, .int .i64 x13)] = some (.agg [.int .i64 0, .int .i64 x13], s) from fun s => by kernel_rfl), (show ∀ s, bsl Cc s 40 1 [(0, .agg [.int .i64 0, .int .i64 x13])] = some (.uslice 2 [.agg [.int .i64 0, .int .i64 x13]], s) from fun s => by kernel_rfl)] at hP)
            (try simp only [WN.down, Nat.reduceAdd, if_true, if_false, ↓reduceIte, tt2, tt40, tt131, e_impl_Term, e4, e30, getI_get e30, e32, getI_get e32, (show ∀ s, bld Cc s 131 [(0, .int .i64 0), (1, .int .i64 x13)] = some (.agg [.int .i64 0, .int .i64 x13], s) from fun s => by kernel_rfl), (show ∀ s, bsl Cc s 40 1 [(0, .agg [.int .i64 0, .int .i64 x13])] = some (.uslice 2 [.agg [.int .i64 0, .int .i64 x13]], s) from fun s => by kernel_rfl)])
            exact hP
          exact w_ret (q28 _ (r0 _ (.inl (w_fin [.uslice 2 ([(impl_Term.mk 0 x13)].map e_impl_Term)] rfl (by cases someE h; rfl) (by decide) outs_nil))))
        · refine w_cf (congrArg AV.bool b33) ?_
          simp only [b33, Bool.not_true, Bool.not_false]
          refine w_skip (n28 _ (.inl ?_))
          obtain ⟨u39, e37, h⟩ := bindE h
          (try simp only [List.length_append, List.length_cons, List.length_nil, List.length_map, List.length_replicate, Nat.zero_add, Nat.add_zero, Nat.reduceAdd] at e37)
          refine w_sreg (w_abs [(5, .uslice 2 (x10.map e_impl_Term)), (6, .uslice 2 (([x1] ++ x6).map e_impl_Term))] (fun P hP => ?_) ?_)
          · simp only [W0.down, Nat.reduceEqDiff, ↓reduceIte, reduceCtorEq, Nat.reduceAdd, Nat.reduceSub, Nat.reduceMul, Nat.reduceLeDiff, Nat.reduceBEq, Nat.reduceLT, if_true, if_false, beq_self_eq_true, BEq.rfl, ne_eq, tt2, tt40, tt131, e_impl_Term, e4, (show ∀ s, bsl Cc s 40 1 [(0, .agg [.int .i64 x1.Kind, .int .i64 x1.Value])] = some (.uslice 2 [.agg [.int .i64 x1.Kind, .int .i64 x1.Value]], s) from fun s => by kernel_rfl), @apd_s Cc 40 40 131 rfl rfl, ap_s, ap2_s, ap3_s, all_cons, all_nil, e37, @all_wd' _ e_impl_Term 2 (fun _ => rfl)]
            (try simp only [WN.down, Nat.reduceAdd, if_true, if_false, ↓reduceIte, tt2, tt40, tt131, e_impl_Term, e4, (show ∀ s, bsl Cc s 40 1 [(0, .agg [.int .i64 x1.Kind, .int .i64 x1.Value])] = some (.uslice 2 [.agg [.int .i64 x1.Kind, .int .i64 x1.Value]], s) from fun s => by kernel_rfl), @apd_s Cc 40 40 131 rfl rfl, ap_s, ap2_s, ap3_s, all_cons, all_nil, e37, @all_wd' _ e_impl_Term 2 (fun _ => rfl)] at hP)
            (try simp only [WN.down, Nat.reduceAdd, if_true, if_false, ↓reduceIte, tt2, tt40, tt131, e_impl_Term, e4, (show ∀ s, bsl Cc s 40 1 [(0, .agg [.int .i64 x1.Kind, .int .i64 x1.Value])] = some (.uslice 2 [.agg [.int .i64 x1.Kind, .int .i64 x1.Value]], s) from fun s => by kernel_rfl), @apd_s Cc 40 40 131 rfl rfl, ap_s, ap2_s, ap3_s, all_cons, all_nil, e37, @all_wd' _ e_impl_Term 2 (fun _ => rfl)])
            exact hP
          obtain ⟨u39, e39, h⟩ := bindE h
          (try simp only [List.length_append, List.length_cons, List.length_nil, List.length_map, List.length_replicate, Nat.zero_add, Nat.add_zero, Nat.reduceAdd] at e39)
          refine w_sreg (w_abs [(2, .uslice 2 ((([x1] ++ x6) ++ x10).map e_impl_Term))] (fun P hP => ?_) ?_)
          · simp only [W0.down, Nat.reduceEqDiff, ↓reduceIte, reduceCtorEq, Nat.reduceAdd, Nat.reduceSub, Nat.reduceMul, Nat.reduceLeDiff, Nat.reduceBEq, Nat.reduceLT, if_true, if_false, beq_self_eq_true, BEq.rfl, ne_eq, tt2, tt40, tt131, e_impl_Term, @apd_s Cc 40 40 131 rfl rfl, ap_s, ap2_s, ap3_s, all_cons, all_nil, e39, @all_wd' _ e_impl_Term 2 (fun _ => rfl)]
            (try simp only [WN.down, Nat.reduceAdd, if_true, if_false, ↓reduceIte, tt2, tt40, tt131, e_impl_Term, @apd_s Cc 40 40 131 rfl rfl, ap_s, ap2_s, ap3_s, all_cons, all_nil, e39, @all_wd' _ e_impl_Term 2 (fun _ => rfl)] at hP)
            (try simp only [WN.down, Nat.reduceAdd, if_true, if_false, ↓reduceIte, tt2, tt40, tt131, e_impl_Term, @apd_s Cc 40 40 131 rfl rfl, ap_s, ap2_s, ap3_s, all_cons, all_nil, e39, @all_wd' _ e_impl_Term 2 (fun _ => rfl)])
            exact hP
          exact w_ret (r0 _ (.inl (w_fin [.uslice 2 ((([x1] ++ x6) ++ x10).map e_impl_Term)] rfl (by cases someE h; rfl) (by decide) outs_nil)))
      · refine w_sreg (w_abs [(0, .slice (a0.map e_impl_Term)), (4, .uslice 2 (x6.map e_impl_Term)), (5, .uslice 2 (x10.map e_impl_Term)), (58, .bool false)] (fun P hP => ?_) ?_)
        · simp only [W0.down, Nat.reduceEqDiff, ↓reduceIte, reduceCtorEq, Nat.reduceAdd, Nat.reduceSub, Nat.reduceMul, Nat.reduceLeDiff, Nat.reduceBEq, Nat.reduceLT, if_true, if_false, beq_self_eq_true, BEq.rfl, ne_eq, tt2, tt40, tt131, e_impl_Term, e30, getI_get e30, b31]
          (try simp only [WN.down, Nat.reduceAdd, if_true, if_false, ↓reduceIte, tt2, tt40, tt131, e_impl_Term, e30, getI_get e30, b31] at hP)
          (try simp only [WN.down, Nat.reduceAdd, if_true, if_false, ↓reduceIte, tt2, tt40, tt131, e_impl_Term, e30, getI_get e30, b31])
          exact hP
        refine w_cf rfl ?_
        refine w_skip (n28 _ (.inl ?_))
        obtain ⟨u43, e41, h⟩ := bindE h
        (try simp only [List.length_append, List.length_cons, List.length_nil, List.length_map, List.length_replicate, Nat.zero_add, Nat.add_zero, Nat.reduceAdd] at e41)
        refine w_sreg (w_abs [(5, .uslice 2 (x10.map e_impl_Term)), (6, .uslice 2 (([x1] ++ x6).map e_impl_Term))] (fun P hP => ?_) ?_)
        · simp only [W0.down, Nat.reduceEqDiff, ↓reduceIte, reduceCtorEq, Nat.reduceAdd, Nat.reduceSub, Nat.reduceMul, Nat.reduceLeDiff, Nat.reduceBEq, Nat.reduceLT, if_true, if_false, beq_self_eq_true, BEq.rfl, ne_eq, tt2, tt40, tt131, e_impl_Term, e4, (show ∀ s, bsl Cc s 40 1 [(0, .agg [.int .i64 x1.Kind, .int .i64 x1.Value])] = some (.uslice 2 [.agg [.int .i64 x1.Kind, .int .i64 x1.Value]], s) from fun s => by kernel_rfl), @apd_s Cc 40 40 131 rfl rfl, ap_s, ap2_s, ap3_s, all_cons, all_nil, e41, @all_wd' _ e_impl_Term 2 (fun _ => rfl)]
          (try simp only [WN.down, Nat.reduceAdd, if_true, if_false, ↓reduceIte, tt2, tt40, tt131, e_impl_Term, e4, (show ∀ s, bsl Cc s 40 1 [(0, .agg [.int .i64 x1.Kind, .int .i64 x1.Value])] = some (.uslice 2 [.agg [.int .i64 x1.Kind, .int .i64 x1.Value]], s) from fun s => by kernel_rfl), @apd_s Cc 40 40 131 rfl rfl, ap_s, ap2_s, ap3_s, all_cons, all_nil, e41, @all_wd' _ e_impl_Term 2 (fun _ => rfl)] at hP)
          (try simp only [WN.down, Nat.reduceAdd, if_true, if_false, ↓reduceIte, tt2, tt40, tt131, e_impl_Term, e4, (show ∀ s, bsl Cc s 40 1 [(0, .agg [.int .i64 x1.Kind, .int .i64 x1.Value])] = some (.uslice 2 [.agg [.int .i64 x1.Kind, .int .i64 x1.Value]], s) from fun s => by kernel_rfl), @apd_s Cc 40 40 131 rfl rfl, ap_s, ap2_s, ap3_s, all_cons, all_nil, e41, @all_wd' _ e_impl_Term 2 (fun _ => rfl)])
          exact hP
        obtain ⟨u43, e43, h⟩ := bindE h
        (try simp only [List.length_append, List.length_cons, List.length_nil, List.length_map, List.length_replicate, Nat.zero_add, Nat.add_zero, Nat.reduceAdd] at e43)
        refine w_sreg (w_abs [(2, .uslice 2 ((([x1] ++ x6) ++ x10).map e_impl_Term))] (fun P hP => ?_) ?_)
        · simp only [W0.down, Nat.reduceEqDiff, ↓reduceIte, reduceCtorEq, Nat.reduceAdd, Nat.reduceSub, Nat.reduceMul, Nat.reduceLeDiff, Nat.reduceBEq, Nat.reduceLT, if_true, if_false, beq_self_eq_true, BEq.rfl, ne_eq, tt2, tt40, tt131, e_impl_Term, @apd_s Cc 40 40 131 rfl rfl, ap_s, ap2_s, ap3_s, all_cons, all_nil, e43, @all_wd' _ e_impl_Term 2 (fun _ => rfl)]
          (try simp only [WN.down, Nat.reduceAdd, if_true, if_false, ↓reduceIte, tt2, tt40, tt131, e_impl_Term, @apd_s Cc 40 40 131 rfl rfl, ap_s, ap2_s, ap3_s, all_cons, all_nil, e43, @all_wd' _ e_impl_Term 2 (fun _ => rfl)] at hP)
          (try simp only [WN.down, Nat.reduceAdd, if_true, if_false, ↓reduceIte, tt2, tt40, tt131, e_impl_Term, @apd_s Cc 40 40 131 rfl rfl, ap_s, ap2_s, ap3_s, all_cons, all_nil, e43, @all_wd' _ e_impl_Term 2 (fun _ => rfl)])
          exact hP
        exact w_ret (r0 _ (.inl (w_fin [.uslice 2 ((([x1] ++ x6) ++ x10).map e_impl_Term)] rfl (by cases someE h; rfl) (by decide) outs_nil)))
theorem ok_spec_l03Fold_r  : ∀ (n : Nat) (a0 : List impl_Term) (r : (List impl_Term)), spec_l03Fold_r  n a0 = some r → OkAt Cc 106 [.slice (a0.map e_impl_Term)] (.uslice 2 (r.map e_impl_Term)) [] := by
  intro n
  induction n with
  | zero => intro a0 r h; cases (show none = some r from h)
  | succ n ih => intro a0 r h; exact ok_spec_l03Fold_f  (spec_l03Fold_r  n) ih a0 r h
theorem ok_spec_l03Fold  (a0 : List impl_Term) (r : (List impl_Term)) (h : spec_l03Fold  a0 = some r) : OkAt Cc 106 [.slice (a0.map e_impl_Term)] (.uslice 2 (r.map e_impl_Term)) [] := by
  obtain ⟨n, h⟩ := limE h
  exact ok_spec_l03Fold_r  n a0 r h

theorem ok_spec_ConstantOf  (a0 : List impl_Term) (r : Int × Int) (h : spec_ConstantOf  a0 = some r) : OkAt Cc 32 [.slice (a0.map e_impl_Term)] (.tuple [.int .i64 r.1, .int .i64 r.2]) [] := by
  refine OkAt.of_wpQ (fx := [0]) Cc_ok Try.func32 rfl rfl s32 (Nat.le_of_ble_eq_true rfl) (fun Q0 r0 n0 => ?_)
  replace r0 : ∀ s, onW (Fw.Ends Cc [0] [.tmp 2, .tmp 3] (.tuple [.int .i64 r.1, .int .i64 r.2]) []) s → Q0 .ret s := r0
  replace n0 : ∀ s, onW (Fw.Ends Cc [0] [.tmp 2, .tmp 3] (.tuple [.int .i64 r.1, .int .i64 r.2]) []) s → Q0 .normal s := n0
  show wpC Cc c32 Q0 (stA [(0, .slice (a0.map e_impl_Term))])
  refine w_sreg (w_abs [(0, .slice (a0.map e_impl_Term))] (fun P hP => ?_) ?_)
  · simp only [W0.down, Nat.reduceEqDiff, ↓reduceIte, reduceCtorEq, Nat.reduceAdd, Nat.reduceSub, Nat.reduceMul, Nat.reduceLeDiff, Nat.reduceBEq, Nat.reduceLT, if_true, if_false, beq_self_eq_true, BEq.rfl, ne_eq, e_impl_Term]
    (try simp only [WN.down, Nat.reduceAdd, if_true, if_false, ↓reduceIte, e_impl_Term] at hP)
    (try simp only [WN.down, Nat.reduceAdd, if_true, if_false, ↓reduceIte, e_impl_Term])
    exact hP
  refine w_seq (fun Q2 n2 q2 x2 => ?_)
  obtain ⟨x1, e4, h⟩ := bindE h
  refine w_sreg (w_abs [(0, .slice (a0.map e_impl_Term)), (7, .bool (!x1))] (fun P hP => ?_) ?_)
  · simp only [W0.down, Nat.reduceEqDiff, ↓reduceIte, reduceCtorEq, Nat.reduceAdd, Nat.reduceSub, Nat.reduceMul, Nat.reduceLeDiff, Nat.reduceBEq, Nat.reduceLT, if_true, if_false, beq_self_eq_true, BEq.rfl, ne_eq, e_impl_Term]
    refine w_call0 (ok_spec_l03Any a0 _ e4) rfl rfl rfl rfl (.inl (by rfl)) ?_
    simp only [W0.down, Nat.reduceEqDiff, ↓reduceIte, reduceCtorEq, Nat.reduceAdd, Nat.reduceSub, Nat.reduceMul, Nat.reduceLeDiff, Nat.reduceBEq, Nat.reduceLT, if_true, if_false, beq_self_eq_true, BEq.rfl, ne_eq, e_impl_Term]
    (try simp only [WN.down, Nat.reduceAdd, if_true, if_false, ↓reduceIte, e_impl_Term] at hP)
    (try simp only [WN.down, Nat.reduceAdd, if_true, if_false, ↓reduceIte, e_impl_Term])
    exact hP
  rcases condE h with ⟨b5, h⟩ | ⟨b5, h⟩
  · refine w_ct (congrArg AV.bool b5) ?_
    simp only [b5, Bool.not_true, Bool.not_false]
    refine w_sreg (w_abs [(2, .int .i64 0), (3, .int .i64 1)] (fun P hP => ?_) ?_)
    · simp only [W0.down, Nat.reduceEqDiff, ↓reduceIte, reduceCtorEq, Nat.reduceAdd, Nat.reduceSub, Nat.reduceMul, Nat.reduceLeDiff, Nat.reduceBEq, Nat.reduceLT, if_true, if_false, beq_self_eq_true, BEq.rfl, ne_eq, e_impl_Term]
      (try simp only [WN.down, Nat.reduceAdd, if_true, if_false, ↓reduceIte, e_impl_Term] at hP)
      (try simp only [WN.down, Nat.reduceAdd, if_true, if_false, ↓reduceIte, e_impl_Term])
      exact hP
    exact w_ret (q2 _ (r0 _ (.inl (w_fin [.int .i64 0, .int .i64 1] rfl (by cases someE h; rfl) (by decide) outs_nil))))
  · refine w_cf (congrArg AV.bool b5) ?_
    simp only [b5, Bool.not_true, Bool.not_false]
    refine w_skip (n2 _ (.inl ?_))
    obtain ⟨x2, e8, h⟩ := bindE h
    refine w_sreg (w_abs [(4, .uslice 2 (x2.map e_impl_Term))] (fun P hP => ?_) ?_)
    · simp only [W0.down, Nat.reduceEqDiff, ↓reduceIte, reduceCtorEq, Nat.reduceAdd, Nat.reduceSub, Nat.reduceMul, Nat.reduceLeDiff, Nat.reduceBEq, Nat.reduceLT, if_true, if_false, beq_self_eq_true, BEq.rfl, ne_eq, e_impl_Term]
      refine w_call0 (ok_spec_l03Fold a0 _ e8) rfl rfl rfl rfl (.inl (by rfl)) ?_
      simp only [W0.down, Nat.reduceEqDiff, ↓reduceIte, reduceCtorEq, Nat.reduceAdd, Nat.reduceSub, Nat.reduceMul, Nat.reduceLeDiff, Nat.reduceBEq, Nat.reduceLT, if_true, if_false, beq_self_eq_true, BEq.rfl, ne_eq, e_impl_Term]
      (try simp only [WN.down, Nat.reduceAdd, if_true, if_false, ↓reduceIte, e_impl_Term] at hP)
      (try simp only [WN.down, Nat.reduceAdd, if_true, if_false, ↓reduceIte, e_impl_Term])
      exact hP
    refine w_seq (fun Q9 n9 q9 x9 => ?_)
    obtain ⟨x3, e11, h⟩ := bindE h
    refine w_sreg (w_abs [(4, .uslice 2 (x2.map e_impl_Term)), (14, .bool (x3.Kind != 0))] (fun P hP => ?_) ?_)
    · simp only [W0.down, Nat.reduceEqDiff, ↓reduceIte, reduceCtorEq, Nat.reduceAdd, Nat.reduceSub, Nat.reduceMul, Nat.reduceLeDiff, Nat.reduceBEq, Nat.reduceLT, if_true, if_false, beq_self_eq_true, BEq.rfl, ne_eq, tt2, tt40, tt131, e_impl_Term, e11, getI_get e11]
      (try simp only [WN.down, Nat.reduceAdd, if_true, if_false, ↓reduceIte, tt2, tt40, tt131, e_impl_Term, e11, getI_get e11] at hP)
      (try simp only [WN.down, Nat.reduceAdd, if_true, if_false, ↓reduceIte, tt2, tt40, tt131, e_impl_Term, e11, getI_get e11])
      exact hP
    rcases condE h with ⟨b12, h⟩ | ⟨b12, h⟩
    · refine w_ct (congrArg AV.bool b12) ?_
      simp only [b12, Bool.not_true, Bool.not_false]
      refine w_sreg (w_abs [(2, .int .i64 0), (3, .int .i64 3)] (fun P hP => ?_) ?_)
      · simp only [W0.down, Nat.reduceEqDiff, ↓reduceIte, reduceCtorEq, Nat.reduceAdd, Nat.reduceSub, Nat.reduceMul, Nat.reduceLeDiff, Nat.reduceBEq, Nat.reduceLT, if_true, if_false, beq_self_eq_true, BEq.rfl, ne_eq, e_impl_Term]
        (try simp only [WN.down, Nat.reduceAdd, if_true, if_false, ↓reduceIte, e_impl_Term] at hP)
        (try simp only [WN.down, Nat.reduceAdd, if_true, if_false, ↓reduceIte, e_impl_Term])
        exact hP
      exact w_ret (q9 _ (r0 _ (.inl (w_fin [.int .i64 0, .int .i64 3] rfl (by cases someE h; rfl) (by decide) outs_nil))))
    · refine w_cf (congrArg AV.bool b12) ?_
      simp only [b12, Bool.not_true, Bool.not_false]
      refine w_skip (n9 _ (.inl ?_))
      refine w_sreg (w_abs [(2, .int .i64 x3.Value), (3, .int .i64 0)] (fun P hP => ?_) ?_)
      · simp only [W0.down, Nat.reduceEqDiff, ↓reduceIte, reduceCtorEq, Nat.reduceAdd, Nat.reduceSub, Nat.reduceMul, Nat.reduceLeDiff, Nat.reduceBEq, Nat.reduceLT, if_true, if_false, beq_self_eq_true, BEq.rfl, ne_eq, tt2, tt40, tt131, e_impl_Term, e11, getI_get e11]
        (try simp only [WN.down, Nat.reduceAdd, if_true, if_false, ↓reduceIte, tt2, tt40, tt131, e_impl_Term, e11, getI_get e11] at hP)
        (try simp only [WN.down, Nat.reduceAdd, if_true, if_false, ↓reduceIte, tt2, tt40, tt131, e_impl_Term, e11, getI_get e11])
        exact hP
      exact w_ret (r0 _ (.inl (w_fin [.int .i64 x3.Value, .int .i64 0] rfl (by cases someE h; rfl) (by decide) outs_nil)))

theorem ok_impl_within  (a0 : Int) (a1 : Int) (a2 : Int) (r : Bool) (h : impl_within  a0 a1 a2 = some r) : OkAt Cc 138 [.int .i64 a0, .int .i64 a1, .int .i64 a2] (.bool r) [] := by
  refine OkAt.of_wpQ (fx := [0, 1, 2]) Cc_ok Try.func138 rfl rfl s138 (Nat.le_of_ble_eq_true rfl) (fun Q0 r0 n0 => ?_)
  replace r0 : ∀ s, onW (Fw.Ends Cc [0, 1, 2] [.tmp 6] (.bool r) []) s → Q0 .ret s := r0
  replace n0 : ∀ s, onW (Fw.Ends Cc [0, 1, 2] [.tmp 6] (.bool r) []) s → Q0 .normal s := n0
  show wpC Cc c138 Q0 (stA [(0, .int .i64 a0), (1, .int .i64 a1), (2, .int .i64 a2)])
  refine w_sreg (w_abs [(0, .int .i64 a0), (1, .int .i64 a1), (2, .int .i64 a2)] (fun P hP => ?_) ?_)
  · simp only [W0.down, Nat.reduceEqDiff, ↓reduceIte, reduceCtorEq, Nat.reduceAdd, Nat.reduceSub, Nat.reduceMul, Nat.reduceLeDiff, Nat.reduceBEq, Nat.reduceLT, if_true, if_false, beq_self_eq_true, BEq.rfl, ne_eq]
    (try simp only [WN.down, Nat.reduceAdd, if_true, if_false, ↓reduceIte] at hP)
    (try simp only [WN.down, Nat.reduceAdd, if_true, if_false, ↓reduceIte])
    exact hP
  refine w_sreg (w_abs [(6, .bool ((decide (a1 ≤ a0)) && (decide (a0 ≤ a2))))] (fun P hP => ?_) ?_)
  · rcases Bool.eq_false_or_eq_true ((decide (a1 ≤ a0))) with s3 | s3
    · simp only [W0.down, Nat.reduceEqDiff, ↓reduceIte, reduceCtorEq, Nat.reduceAdd, Nat.reduceSub, Nat.reduceMul, Nat.reduceLeDiff, Nat.reduceBEq, Nat.reduceLT, if_true, if_false, beq_self_eq_true, BEq.rfl, ne_eq, s3]
      (try simp only [WN.down, Nat.reduceAdd, if_true, if_false, ↓reduceIte, s3] at hP)
      (try simp only [WN.down, Nat.reduceAdd, if_true, if_false, ↓reduceIte, s3])
      exact hP
    · simp only [W0.down, Nat.reduceEqDiff, ↓reduceIte, reduceCtorEq, Nat.reduceAdd, Nat.reduceSub, Nat.reduceMul, Nat.reduceLeDiff, Nat.reduceBEq, Nat.reduceLT, if_true, if_false, beq_self_eq_true, BEq.rfl, ne_eq, s3]
      (try simp only [WN.down, Nat.reduceAdd, if_true, if_false, ↓reduceIte, s3] at hP)
      (try simp only [WN.down, Nat.reduceAdd, if_true, if_false, ↓reduceIte, s3])
      exact hP
  exact w_ret (r0 _ (.inl (w_fin [.bool ((decide (a1 ≤ a0)) && (decide (a0 ≤ a2)))] rfl (by cases someE h; rfl) (by decide) outs_nil)))

theorem ok_impl_isValue  (a0 : Int) (r : Bool) (h : impl_isValue  a0 = some r) : OkAt Cc 286 [.int .i64 a0] (.bool r) [] := by
  refine OkAt.of_wpQ (fx := [0]) Cc_ok Try.func286 rfl rfl s286 (Nat.le_of_ble_eq_true rfl) (fun Q0 r0 n0 => ?_)
  replace r0 : ∀ s, onW (Fw.Ends Cc [0] [.tmp 2] (.bool r) []) s → Q0 .ret s := r0
  replace n0 : ∀ s, onW (Fw.Ends Cc [0] [.tmp 2] (.bool r) []) s → Q0 .normal s := n0
  show wpC Cc c286 Q0 (stA [(0, .int .i64 a0)])
  refine w_sreg (w_abs [(0, .int .i64 a0)] (fun P hP => ?_) ?_)
  · simp only [W0.down, Nat.reduceEqDiff, ↓reduceIte, reduceCtorEq, Nat.reduceAdd, Nat.reduceSub, Nat.reduceMul, Nat.reduceLeDiff, Nat.reduceBEq, Nat.reduceLT, if_true, if_false, beq_self_eq_true, BEq.rfl, ne_eq]
    (try simp only [WN.down, Nat.reduceAdd, if_true, if_false, ↓reduceIte] at hP)
    (try simp only [WN.down, Nat.reduceAdd, if_true, if_false, ↓reduceIte])
    exact hP
  obtain ⟨x1, e3, h⟩ := bindE h
  refine w_sreg (w_abs [(2, .bool x1)] (fun P hP => ?_) ?_)
  · simp only [W0.down, Nat.reduceEqDiff, ↓reduceIte, reduceCtorEq, Nat.reduceAdd, Nat.reduceSub, Nat.reduceMul, Nat.reduceLeDiff, Nat.reduceBEq, Nat.reduceLT, if_true, if_false, beq_self_eq_true, BEq.rfl, ne_eq]
    refine w_call0 (ok_impl_within a0 0 63 _ e3) rfl rfl rfl rfl (.inl (by rfl)) ?_
    simp only [W0.down, Nat.reduceEqDiff, ↓reduceIte, reduceCtorEq, Nat.reduceAdd, Nat.reduceSub, Nat.reduceMul, Nat.reduceLeDiff, Nat.reduceBEq, Nat.reduceLT, if_true, if_false, beq_self_eq_true, BEq.rfl, ne_eq]
    (try simp only [WN.down, Nat.reduceAdd, if_true, if_false, ↓reduceIte] at hP)
    (try simp only [WN.down, Nat.reduceAdd, if_true, if_false, ↓reduceIte])
    exact hP
  exact w_ret (r0 _ (.inl (w_fin [.bool x1] rfl (by cases someE h; rfl) (by decide) outs_nil)))

theorem ok_impl_Term_valid  (a0 : impl_Term) (a1 : Int) (r : Bool) (h : impl_Term_valid  a0 a1 = some r) : OkAt Cc 269 [e_impl_Term a0, .int .i64 a1] (.bool r) [] := by
  refine OkAt.of_wpQ (fx := [0, 1]) Cc_ok Try.func269 rfl rfl s269 (Nat.le_of_ble_eq_true rfl) (fun Q0 r0 n0 => ?_)
  replace r0 : ∀ s, onW (Fw.Ends Cc [0, 1] [.tmp 4] (.bool r) []) s → Q0 .ret s := r0
  replace n0 : ∀ s, onW (Fw.Ends Cc [0, 1] [.tmp 4] (.bool r) []) s → Q0 .normal s := n0
  show wpC Cc c269 Q0 (stA [(0, e_impl_Term a0), (1, .int .i64 a1)])
  refine w_sreg (w_abs [(1, .int .i64 a1), (2, .ubox (e_impl_Term a0))] (fun P hP => ?_) ?_)
  · simp only [W0.down, Nat.reduceEqDiff, ↓reduceIte, reduceCtorEq, Nat.reduceAdd, Nat.reduceSub, Nat.reduceMul, Nat.reduceLeDiff, Nat.reduceBEq, Nat.reduceLT, if_true, if_false, beq_self_eq_true, BEq.rfl, ne_eq, tt2, tt131, e_impl_Term]
    (try simp only [WN.down, Nat.reduceAdd, if_true, if_false, ↓reduceIte, tt2, tt131, e_impl_Term] at hP)
    (try simp only [WN.down, Nat.reduceAdd, if_true, if_false, ↓reduceIte, tt2, tt131, e_impl_Term])
    exact hP
  refine w_seq (fun Q2 n2 q2 x2 => ?_)
  refine w_sreg (w_abs [(1, .int .i64 a1), (2, .ubox (e_impl_Term a0)), (6, .int .i64 a0.Kind)] (fun P hP => ?_) ?_)
  · simp only [W0.down, Nat.reduceEqDiff, ↓reduceIte, reduceCtorEq, Nat.reduceAdd, Nat.reduceSub, Nat.reduceMul, Nat.reduceLeDiff, Nat.reduceBEq, Nat.reduceLT, if_true, if_false, beq_self_eq_true, BEq.rfl, ne_eq, tt2, tt131, e_impl_Term]
    (try simp only [WN.down, Nat.reduceAdd, if_true, if_false, ↓reduceIte, tt2, tt131, e_impl_Term] at hP)
    (try simp only [WN.down, Nat.reduceAdd, if_true, if_false, ↓reduceIte, tt2, tt131, e_impl_Term])
    exact hP
  refine w_blk (fun Q4 n4 q4 b4 x4 => ?_)
  refine w_sreg (w_abs [(1, .int .i64 a1), (2, .ubox (e_impl_Term a0)), (6, .int .i64 a0.Kind), (7, .bool (a0.Kind == 0))] (fun P hP => ?_) ?_)
  · simp only [W0.down, Nat.reduceEqDiff, ↓reduceIte, reduceCtorEq, Nat.reduceAdd, Nat.reduceSub, Nat.reduceMul, Nat.reduceLeDiff, Nat.reduceBEq, Nat.reduceLT, if_true, if_false, beq_self_eq_true, BEq.rfl, ne_eq, e_impl_Term]
    (try simp only [WN.down, Nat.reduceAdd, if_true, if_false, ↓reduceIte, e_impl_Term] at hP)
    (try simp only [WN.down, Nat.reduceAdd, if_true, if_false, ↓reduceIte, e_impl_Term])
    exact hP
  rcases condE h with ⟨b6, h⟩ | ⟨b6, h⟩
  · refine w_ct (congrArg AV.bool b6) ?_
    simp only [b6, Bool.not_true, Bool.not_false]
    obtain ⟨x1, e8, h⟩ := bindE h
    refine w_sreg (w_abs [(4, .bool x1)] (fun P hP => ?_) ?_)
    · simp only [W0.down, Nat.reduceEqDiff, ↓reduceIte, reduceCtorEq, Nat.reduceAdd, Nat.reduceSub, Nat.reduceMul, Nat.reduceLeDiff, Nat.reduceBEq, Nat.reduceLT, if_true, if_false, beq_self_eq_true, BEq.rfl, ne_eq, tt2, tt131, e_impl_Term]
      refine w_call0 (ok_impl_isValue a0.Value _ e8) rfl rfl rfl rfl (.inl (by rfl)) ?_
      simp only [W0.down, Nat.reduceEqDiff, ↓reduceIte, reduceCtorEq, Nat.reduceAdd, Nat.reduceSub, Nat.reduceMul, Nat.reduceLeDiff, Nat.reduceBEq, Nat.reduceLT, if_true, if_false, beq_self_eq_true, BEq.rfl, ne_eq, tt2, tt131, e_impl_Term]
      (try simp only [WN.down, Nat.reduceAdd, if_true, if_false, ↓reduceIte, tt2, tt131, e_impl_Term] at hP)
      (try simp only [WN.down, Nat.reduceAdd, if_true, if_false, ↓reduceIte, tt2, tt131, e_impl_Term])
      exact hP
    exact w_ret (q4 _ (q2 _ (r0 _ (.inl (w_fin [.bool x1] rfl (by cases someE h; rfl) (by decide) outs_nil)))))
  · refine w_cf (congrArg AV.bool b6) ?_
    simp only [b6, Bool.not_true, Bool.not_false]
    refine w_sreg (w_abs [(1, .int .i64 a1), (2, .ubox (e_impl_Term a0)), (6, .int .i64 a0.Kind), (12, .bool (a0.Kind == 1))] (fun P hP => ?_) ?_)
    · simp only [W0.down, Nat.reduceEqDiff, ↓reduceIte, reduceCtorEq, Nat.reduceAdd, Nat.reduceSub, Nat.reduceMul, Nat.reduceLeDiff, Nat.reduceBEq, Nat.reduceLT, if_true, if_false, beq_self_eq_true, BEq.rfl, ne_eq, e_impl_Term]
      (try simp only [WN.down, Nat.reduceAdd, if_true, if_false, ↓reduceIte, e_impl_Term] at hP)
      (try simp only [WN.down, Nat.reduceAdd, if_true, if_false, ↓reduceIte, e_impl_Term])
      exact hP
    rcases condE h with ⟨b10, h⟩ | ⟨b10, h⟩
    · refine w_ct (congrArg AV.bool b10) ?_
      simp only [b10, Bool.not_true, Bool.not_false]
      obtain ⟨x2, e12, h⟩ := bindE h
      refine w_sreg (w_abs [(4, .bool x2)] (fun P hP => ?_) ?_)
      · simp only [W0.down, Nat.reduceEqDiff, ↓reduceIte, reduceCtorEq, Nat.reduceAdd, Nat.reduceSub, Nat.reduceMul, Nat.reduceLeDiff, Nat.reduceBEq, Nat.reduceLT, if_true, if_false, beq_self_eq_true, BEq.rfl, ne_eq, tt2, tt131, e_impl_Term]
        refine w_call0 (ok_impl_within a0.Value 0 (IntKind.i64.wrap (a1 - 1)) _ e12) rfl rfl rfl rfl (.inl (by rfl)) ?_
        simp only [W0.down, Nat.reduceEqDiff, ↓reduceIte, reduceCtorEq, Nat.reduceAdd, Nat.reduceSub, Nat.reduceMul, Nat.reduceLeDiff, Nat.reduceBEq, Nat.reduceLT, if_true, if_false, beq_self_eq_true, BEq.rfl, ne_eq, tt2, tt131, e_impl_Term]
        (try simp only [WN.down, Nat.reduceAdd, if_true, if_false, ↓reduceIte, tt2, tt131, e_impl_Term] at hP)
        (try simp only [WN.down, Nat.reduceAdd, if_true, if_false, ↓reduceIte, tt2, tt131, e_impl_Term])
        exact hP
      exact w_ret (q4 _ (q2 _ (r0 _ (.inl (w_fin [.bool x2] rfl (by cases someE h; rfl) (by decide) outs_nil)))))
    · refine w_cf (congrArg AV.bool b10) ?_
      simp only [b10, Bool.not_true, Bool.not_false]
      refine w_sreg (w_abs [(2, .ubox (e_impl_Term a0)), (6, .int .i64 a0.Kind), (19, .bool (a0.Kind == 2))] (fun P hP => ?_) ?_)
      · simp only [W0.down, Nat.reduceEqDiff, ↓reduceIte, reduceCtorEq, Nat.reduceAdd, Nat.reduceSub, Nat.reduceMul, Nat.reduceLeDiff, Nat.reduceBEq, Nat.reduceLT, if_true, if_false, beq_self_eq_true, BEq.rfl, ne_eq, e_impl_Term]
        (try simp only [WN.down, Nat.reduceAdd, if_true, if_false, ↓reduceIte, e_impl_Term] at hP)
        (try simp only [WN.down, Nat.reduceAdd, if_true, if_false, ↓reduceIte, e_impl_Term])
        exact hP
      rcases condE h with ⟨b14, h⟩ | ⟨b14, h⟩
      · refine w_ct (congrArg AV.bool b14) ?_
        simp only [b14, Bool.not_true, Bool.not_false]
        obtain ⟨x3, e16, h⟩ := bindE h
        refine w_sreg (w_abs [(4, .bool x3)] (fun P hP => ?_) ?_)
        · simp only [W0.down, Nat.reduceEqDiff, ↓reduceIte, reduceCtorEq, Nat.reduceAdd, Nat.reduceSub, Nat.reduceMul, Nat.reduceLeDiff, Nat.reduceBEq, Nat.reduceLT, if_true, if_false, beq_self_eq_true, BEq.rfl, ne_eq, tt2, tt131, e_impl_Term]
          refine w_call0 (ok_impl_within a0.Value 0 8 _ e16) rfl rfl rfl rfl (.inl (by rfl)) ?_
          simp only [W0.down, Nat.reduceEqDiff, ↓reduceIte, reduceCtorEq, Nat.reduceAdd, Nat.reduceSub, Nat.reduceMul, Nat.reduceLeDiff, Nat.reduceBEq, Nat.reduceLT, if_true, if_false, beq_self_eq_true, BEq.rfl, ne_eq, tt2, tt131, e_impl_Term]
          (try simp only [WN.down, Nat.reduceAdd, if_true, if_false, ↓reduceIte, tt2, tt131, e_impl_Term] at hP)
          (try simp only [WN.down, Nat.reduceAdd, if_true, if_false, ↓reduceIte, tt2, tt131, e_impl_Term])
          exact hP
        exact w_ret (q4 _ (q2 _ (r0 _ (.inl (w_fin [.bool x3] rfl (by cases someE h; rfl) (by decide) outs_nil)))))
      · refine w_cf (congrArg AV.bool b14) ?_
        simp only [b14, Bool.not_true, Bool.not_false]
        refine w_sreg (w_abs [(2, .ubox (e_impl_Term a0)), (24, .bool (a0.Kind == 3))] (fun P hP => ?_) ?_)
        · simp only [W0.down, Nat.reduceEqDiff, ↓reduceIte, reduceCtorEq, Nat.reduceAdd, Nat.reduceSub, Nat.reduceMul, Nat.reduceLeDiff, Nat.reduceBEq, Nat.reduceLT, if_true, if_false, beq_self_eq_true, BEq.rfl, ne_eq, e_impl_Term]
          (try simp only [WN.down, Nat.reduceAdd, if_true, if_false, ↓reduceIte, e_impl_Term] at hP)
          (try simp only [WN.down, Nat.reduceAdd, if_true, if_false, ↓reduceIte, e_impl_Term])
          exact hP
        rcases condE h with ⟨b18, h⟩ | ⟨b18, h⟩
        · refine w_ct (congrArg AV.bool b18) ?_
          simp only [b18, Bool.not_true, Bool.not_false]
          refine w_sreg (w_abs [(4, .bool (a0.Value == 0))] (fun P hP => ?_) ?_)
          · simp only [W0.down, Nat.reduceEqDiff, ↓reduceIte, reduceCtorEq, Nat.reduceAdd, Nat.reduceSub, Nat.reduceMul, Nat.reduceLeDiff, Nat.reduceBEq, Nat.reduceLT, if_true, if_false, beq_self_eq_true, BEq.rfl, ne_eq, tt2, tt131, e_impl_Term]
            (try simp only [WN.down, Nat.reduceAdd, if_true, if_false, ↓reduceIte, tt2, tt131, e_impl_Term] at hP)
            (try simp only [WN.down, Nat.reduceAdd, if_true, if_false, ↓reduceIte, tt2, tt131, e_impl_Term])
            exact hP
          exact w_ret (q4 _ (q2 _ (r0 _ (.inl (w_fin [.bool (a0.Value == 0)] rfl (by cases someE h; rfl) (by decide) outs_nil)))))
        · refine w_cf (congrArg AV.bool b18) ?_
          simp only [b18, Bool.not_true, Bool.not_false]
          refine w_skip (n4 _ (n2 _ (.inl ?_)))
          refine w_sreg (w_abs [(4, .bool false)] (fun P hP => ?_) ?_)
          · simp only [W0.down, Nat.reduceEqDiff, ↓reduceIte, reduceCtorEq, Nat.reduceAdd, Nat.reduceSub, Nat.reduceMul, Nat.reduceLeDiff, Nat.reduceBEq, Nat.reduceLT, if_true, if_false, beq_self_eq_true, BEq.rfl, ne_eq, e_impl_Term]
            (try simp only [WN.down, Nat.reduceAdd, if_true, if_false, ↓reduceIte, e_impl_Term] at hP)
            (try simp only [WN.down, Nat.reduceAdd, if_true, if_false, ↓reduceIte, e_impl_Term])
            exact hP
          exact w_ret (r0 _ (.inl (w_fin [.bool false] rfl (by cases someE h; rfl) (by decide) outs_nil)))

theorem ok_impl_Term_operands  (a0 : impl_Term) (r : Int) (h : impl_Term_operands  a0 = some r) : OkAt Cc 270 [e_impl_Term a0] (.int .i64 r) [] := by
  refine OkAt.of_wpQ (fx := [0]) Cc_ok Try.func270 rfl rfl s270 (Nat.le_of_ble_eq_true rfl) (fun Q0 r0 n0 => ?_)
  replace r0 : ∀ s, onW (Fw.Ends Cc [0] [.tmp 2] (.int .i64 r) []) s → Q0 .ret s := r0
  replace n0 : ∀ s, onW (Fw.Ends Cc [0] [.tmp 2] (.int .i64 r) []) s → Q0 .normal s := n0
  show wpC Cc c270 Q0 (stA [(0, e_impl_Term a0)])
  refine w_sreg (w_abs [(1, .ubox (e_impl_Term a0))] (fun P hP => ?_) ?_)
  · simp only [W0.down, Nat.reduceEqDiff, ↓reduceIte, reduceCtorEq, Nat.reduceAdd, Nat.reduceSub, Nat.reduceMul, Nat.reduceLeDiff, Nat.reduceBEq, Nat.reduceLT, if_true, if_false, beq_self_eq_true, BEq.rfl, ne_eq, tt2, tt131, e_impl_Term]
    (try simp only [WN.down, Nat.reduceAdd, if_true, if_false, ↓reduceIte, tt2, tt131, e_impl_Term] at hP)
    (try simp only [WN.down, Nat.reduceAdd, if_true, if_false, ↓reduceIte, tt2, tt131, e_impl_Term])
    exact hP
  refine w_seq (fun Q2 n2 q2 x2 => ?_)
  refine w_sreg (w_abs [(4, .int .i64 a0.Kind)] (fun P hP => ?_) ?_)
  · simp only [W0.down, Nat.reduceEqDiff, ↓reduceIte, reduceCtorEq, Nat.reduceAdd, Nat.reduceSub, Nat.reduceMul, Nat.reduceLeDiff, Nat.reduceBEq, Nat.reduceLT, if_true, if_false, beq_self_eq_true, BEq.rfl, ne_eq, tt2, tt131, e_impl_Term]
    (try simp only [WN.down, Nat.reduceAdd, if_true, if_false, ↓reduceIte, tt2, tt131, e_impl_Term] at hP)
    (try simp only [WN.down, Nat.reduceAdd, if_true, if_false, ↓reduceIte, tt2, tt131, e_impl_Term])
    exact hP
  refine w_blk (fun Q4 n4 q4 b4 x4 => ?_)
  refine w_sreg (w_abs [(4, .int .i64 a0.Kind), (5, .bool (a0.Kind == 2))] (fun P hP => ?_) ?_)
  · simp only [W0.down, Nat.reduceEqDiff, ↓reduceIte, reduceCtorEq, Nat.reduceAdd, Nat.reduceSub, Nat.reduceMul, Nat.reduceLeDiff, Nat.reduceBEq, Nat.reduceLT, if_true, if_false, beq_self_eq_true, BEq.rfl, ne_eq]
    (try simp only [WN.down, Nat.reduceAdd, if_true, if_false, ↓reduceIte] at hP)
    (try simp only [WN.down, Nat.reduceAdd, if_true, if_false, ↓reduceIte])
    exact hP
  rcases condE h with ⟨b6, h⟩ | ⟨b6, h⟩
  · refine w_ct (congrArg AV.bool b6) ?_
    simp only [b6, Bool.not_true, Bool.not_false]
    refine w_sreg (w_abs [(2, .int .i64 2)] (fun P hP => ?_) ?_)
    · simp only [W0.down, Nat.reduceEqDiff, ↓reduceIte, reduceCtorEq, Nat.reduceAdd, Nat.reduceSub, Nat.reduceMul, Nat.reduceLeDiff, Nat.reduceBEq, Nat.reduceLT, if_true, if_false, beq_self_eq_true, BEq.rfl, ne_eq]
      (try simp only [WN.down, Nat.reduceAdd, if_true, if_false, ↓reduceIte] at hP)
      (try simp only [WN.down, Nat.reduceAdd, if_true, if_false, ↓reduceIte])
      exact hP
    exact w_ret (q4 _ (q2 _ (r0 _ (.inl (w_fin [.int .i64 2] rfl (by cases someE h; rfl) (by decide) outs_nil)))))
  · refine w_cf (congrArg AV.bool b6) ?_
    simp only [b6, Bool.not_true, Bool.not_false]
    refine w_sreg (w_abs [(7, .bool (a0.Kind == 3))] (fun P hP => ?_) ?_)
    · simp only [W0.down, Nat.reduceEqDiff, ↓reduceIte, reduceCtorEq, Nat.reduceAdd, Nat.reduceSub, Nat.reduceMul, Nat.reduceLeDiff, Nat.reduceBEq, Nat.reduceLT, if_true, if_false, beq_self_eq_true, BEq.rfl, ne_eq]
      (try simp only [WN.down, Nat.reduceAdd, if_true, if_false, ↓reduceIte] at hP)
      (try simp only [WN.down, Nat.reduceAdd, if_true, if_false, ↓reduceIte])
      exact hP
    rcases condE h with ⟨b9, h⟩ | ⟨b9, h⟩
    · refine w_ct (congrArg AV.bool b9) ?_
      simp only [b9, Bool.not_true, Bool.not_false]
      refine w_sreg (w_abs [(2, .int .i64 1)] (fun P hP => ?_) ?_)
      · simp only [W0.down, Nat.reduceEqDiff, ↓reduceIte, reduceCtorEq, Nat.reduceAdd, Nat.reduceSub, Nat.reduceMul, Nat.reduceLeDiff, Nat.reduceBEq, Nat.reduceLT, if_true, if_false, beq_self_eq_true, BEq.rfl, ne_eq]
        (try simp only [WN.down, Nat.reduceAdd, if_true, if_false, ↓reduceIte] at hP)
        (try simp only [WN.down, Nat.reduceAdd, if_true, if_false, ↓reduceIte])
        exact hP
      exact w_ret (q4 _ (q2 _ (r0 _ (.inl (w_fin [.int .i64 1] rfl (by cases someE h; rfl) (by decide) outs_nil)))))
    · refine w_cf (congrArg AV.bool b9) ?_
      simp only [b9, Bool.not_true, Bool.not_false]
      refine w_skip (n4 _ (n2 _ (.inl ?_)))
      refine w_sreg (w_abs [(2, .int .i64 0)] (fun P hP => ?_) ?_)
      · simp only [W0.down, Nat.reduceEqDiff, ↓reduceIte, reduceCtorEq, Nat.reduceAdd, Nat.reduceSub, Nat.reduceMul, Nat.reduceLeDiff, Nat.reduceBEq, Nat.reduceLT, if_true, if_false, beq_self_eq_true, BEq.rfl, ne_eq]
        (try simp only [WN.down, Nat.reduceAdd, if_true, if_false, ↓reduceIte] at hP)
        (try simp only [WN.down, Nat.reduceAdd, if_true, if_false, ↓reduceIte])
        exact hP
      exact w_ret (r0 _ (.inl (w_fin [.int .i64 0] rfl (by cases someE h; rfl) (by decide) outs_nil)))

theorem ok_impl_ValidTerms  (a0 : List impl_Term) (a1 : Int) (a2 : Int) (r : Bool) (h : impl_ValidTerms  a0 a1 a2 = some r) : OkAt Cc 200 [.slice (a0.map e_impl_Term), .int .i64 a1, .int .i64 a2] (.bool r) [] := by
  refine OkAt.of_wpQ (fx := [0, 1, 2]) Cc_ok Try.func200 rfl rfl s200 (Nat.le_of_ble_eq_true rfl) (fun Q0 r0 n0 => ?_)
  replace r0 : ∀ s, onW (Fw.Ends Cc [0, 1, 2] [.tmp 6] (.bool r) []) s → Q0 .ret s := r0
  replace n0 : ∀ s, onW (Fw.Ends Cc [0, 1, 2] [.tmp 6] (.bool r) []) s → Q0 .normal s := n0
  show wpC Cc c200 Q0 (stA [(0, .slice (a0.map e_impl_Term)), (1, .int .i64 a1), (2, .int .i64 a2)])
  refine w_sreg (w_abs [(0, .slice (a0.map e_impl_Term)), (1, .int .i64 a1), (2, .int .i64 a2)] (fun P hP => ?_) ?_)
  · simp only [W0.down, Nat.reduceEqDiff, ↓reduceIte, reduceCtorEq, Nat.reduceAdd, Nat.reduceSub, Nat.reduceMul, Nat.reduceLeDiff, Nat.reduceBEq, Nat.reduceLT, if_true, if_false, beq_self_eq_true, BEq.rfl, ne_eq, e_impl_Term]
    (try simp only [WN.down, Nat.reduceAdd, if_true, if_false, ↓reduceIte, e_impl_Term] at hP)
    (try simp only [WN.down, Nat.reduceAdd, if_true, if_false, ↓reduceIte, e_impl_Term])
    exact hP
  refine w_seq (fun Q2 n2 q2 x2 => ?_)
  obtain ⟨x1, e4, h⟩ := bindE h
  rcases condE h with ⟨b5, h⟩ | ⟨b5, h⟩
  · refine w_sreg (w_abs [(0, .slice (a0.map e_impl_Term)), (1, .int .i64 a1), (24, .bool true)] (fun P hP => ?_) ?_)
    · simp only [W0.down, Nat.reduceEqDiff, ↓reduceIte, reduceCtorEq, Nat.reduceAdd, Nat.reduceSub, Nat.reduceMul, Nat.reduceLeDiff, Nat.reduceBEq, Nat.reduceLT, if_true, if_false, beq_self_eq_true, BEq.rfl, ne_eq, tt2, tt40, tt131, e_impl_Term, b5]
      refine w_call0 (ok_impl_within a1 0 29 _ e4) rfl rfl rfl rfl (.inl (by rfl)) ?_
      simp only [W0.down, Nat.reduceEqDiff, ↓reduceIte, reduceCtorEq, Nat.reduceAdd, Nat.reduceSub, Nat.reduceMul, Nat.reduceLeDiff, Nat.reduceBEq, Nat.reduceLT, if_true, if_false, beq_self_eq_true, BEq.rfl, ne_eq, tt2, tt40, tt131, e_impl_Term, b5]
      (try simp only [WN.down, Nat.reduceAdd, if_true, if_false, ↓reduceIte, tt2, tt40, tt131, e_impl_Term, b5] at hP)
      (try simp only [WN.down, Nat.reduceAdd, if_true, if_false, ↓reduceIte, tt2, tt40, tt131, e_impl_Term, b5])
      exact hP
    refine w_ct rfl ?_
    refine w_sreg (w_abs [(6, .bool false)] (fun P hP => ?_) ?_)
    · simp only [W0.down, Nat.reduceEqDiff, ↓reduceIte, reduceCtorEq, Nat.reduceAdd, Nat.reduceSub, Nat.reduceMul, Nat.reduceLeDiff, Nat.reduceBEq, Nat.reduceLT, if_true, if_false, beq_self_eq_true, BEq.rfl, ne_eq, e_impl_Term]
      (try simp only [WN.down, Nat.reduceAdd, if_true, if_false, ↓reduceIte, e_impl_Term] at hP)
      (try simp only [WN.down, Nat.reduceAdd, if_true, if_false, ↓reduceIte, e_impl_Term])
      exact hP
    exact w_ret (q2 _ (r0 _ (.inl (w_fin [.bool false] rfl (by cases someE h; rfl) (by decide) outs_nil))))
  · obtain ⟨x2, e7, h⟩ := bindE h
    rcases condE h with ⟨b8, h⟩ | ⟨b8, h⟩
    · refine w_sreg (w_abs [(0, .slice (a0.map e_impl_Term)), (1, .int .i64 a1), (24, .bool true)] (fun P hP => ?_) ?_)
      · simp only [W0.down, Nat.reduceEqDiff, ↓reduceIte, reduceCtorEq, Nat.reduceAdd, Nat.reduceSub, Nat.reduceMul, Nat.reduceLeDiff, Nat.reduceBEq, Nat.reduceLT, if_true, if_false, beq_self_eq_true, BEq.rfl, ne_eq, tt2, tt40, tt131, e_impl_Term, b5, b8]
        refine w_call0 (ok_impl_within a1 0 29 _ e4) rfl rfl rfl rfl (.inl (by rfl)) ?_
        simp only [W0.down, Nat.reduceEqDiff, ↓reduceIte, reduceCtorEq, Nat.reduceAdd, Nat.reduceSub, Nat.reduceMul, Nat.reduceLeDiff, Nat.reduceBEq, Nat.reduceLT, if_true, if_false, beq_self_eq_true, BEq.rfl, ne_eq, tt2, tt40, tt131, e_impl_Term, b5, b8]
        refine w_callg0 (ok_impl_within a2 1 60 _ e7) rfl rfl rfl rfl (.inl (by rfl)) ?_
        simp only [W0.down, Nat.reduceEqDiff, ↓reduceIte, reduceCtorEq, Nat.reduceAdd, Nat.reduceSub, Nat.reduceMul, Nat.reduceLeDiff, Nat.reduceBEq, Nat.reduceLT, if_true, if_false, beq_self_eq_true, BEq.rfl, ne_eq, tt2, tt40, tt131, e_impl_Term, b5, b8]
        (try simp only [WN.down, Nat.reduceAdd, if_true, if_false, ↓reduceIte, tt2, tt40, tt131, e_impl_Term, b5, b8] at hP)
        (try simp only [WN.down, Nat.reduceAdd, if_true, if_false, ↓reduceIte, tt2, tt40, tt131, e_impl_Term, b5, b8])
        exact hP
      refine w_ct rfl ?_
      refine w_sreg (w_abs [(6, .bool false)] (fun P hP => ?_) ?_)
      · simp only [W0.down, Nat.reduceEqDiff, ↓reduceIte, reduceCtorEq, Nat.reduceAdd, Nat.reduceSub, Nat.reduceMul, Nat.reduceLeDiff, Nat.reduceBEq, Nat.reduceLT, if_true, if_false, beq_self_eq_true, BEq.rfl, ne_eq, e_impl_Term]
        (try simp only [WN.down, Nat.reduceAdd, if_true, if_false, ↓reduceIte, e_impl_Term] at hP)
        (try simp only [WN.down, Nat.reduceAdd, if_true, if_false, ↓reduceIte, e_impl_Term])
        exact hP
      exact w_ret (q2 _ (r0 _ (.inl (w_fin [.bool false] rfl (by cases someE h; rfl) (by decide) outs_nil))))
    · obtain ⟨x3, e10, h⟩ := bindE h
      refine w_sreg (w_abs [(0, .slice (a0.map e_impl_Term)), (1, .int .i64 a1), (24, .bool (!x3))] (fun P hP => ?_) ?_)
      · simp only [W0.down, Nat.reduceEqDiff, ↓reduceIte, reduceCtorEq, Nat.reduceAdd, Nat.reduceSub, Nat.reduceMul, Nat.reduceLeDiff, Nat.reduceBEq, Nat.reduceLT, if_true, if_false, beq_self_eq_true, BEq.rfl, ne_eq, tt2, tt40, tt131, e_impl_Term, b5, b8]
        refine w_call0 (ok_impl_within a1 0 29 _ e4) rfl rfl rfl rfl (.inl (by rfl)) ?_
        simp only [W0.down, Nat.reduceEqDiff, ↓reduceIte, reduceCtorEq, Nat.reduceAdd, Nat.reduceSub, Nat.reduceMul, Nat.reduceLeDiff, Nat.reduceBEq, Nat.reduceLT, if_true, if_false, beq_self_eq_true, BEq.rfl, ne_eq, tt2, tt40, tt131, e_impl_Term, b5, b8]
        refine w_callg0 (ok_impl_within a2 1 60 _ e7) rfl rfl rfl rfl (.inl (by rfl)) ?_
        simp only [W0.down, Nat.reduceEqDiff, ↓reduceIte, reduceCtorEq, Nat.reduceAdd, Nat.reduceSub, Nat.reduceMul, Nat.reduceLeDiff, Nat.reduceBEq, Nat.reduceLT, if_true, if_false, beq_self_eq_true, BEq.rfl, ne_eq, tt2, tt40, tt131, e_impl_Term, b5, b8]
        refine w_callg0 (ok_impl_within (a0.length : Int) 1 a2 _ e10) rfl rfl rfl rfl (.inl (by rfl)) ?_
        simp only [W0.down, Nat.reduceEqDiff, ↓reduceIte, reduceCtorEq, Nat.reduceAdd, Nat.reduceSub, Nat.reduceMul, Nat.reduceLeDiff, Nat.reduceBEq, Nat.reduceLT, if_true, if_false, beq_self_eq_true, BEq.rfl, ne_eq, tt2, tt40, tt131, e_impl_Term, b5, b8]
        (try simp only [WN.down, Nat.reduceAdd, if_true, if_false, ↓reduceIte, tt2, tt40, tt131, e_impl_Term, b5, b8] at hP)
        (try simp only [WN.down, Nat.reduceAdd, if_true, if_false, ↓reduceIte, tt2, tt40, tt131, e_impl_Term, b5, b8])
        exact hP
      rcases condE h with ⟨b11, h⟩ | ⟨b11, h⟩
      · refine w_ct (congrArg AV.bool b11) ?_
        simp only [b11, Bool.not_true, Bool.not_false]
        refine w_sreg (w_abs [(6, .bool false)] (fun P hP => ?_) ?_)
        · simp only [W0.down, Nat.reduceEqDiff, ↓reduceIte, reduceCtorEq, Nat.reduceAdd, Nat.reduceSub, Nat.reduceMul, Nat.reduceLeDiff, Nat.reduceBEq, Nat.reduceLT, if_true, if_false, beq_self_eq_true, BEq.rfl, ne_eq, e_impl_Term]
          (try simp only [WN.down, Nat.reduceAdd, if_true, if_false, ↓reduceIte, e_impl_Term] at hP)
          (try simp only [WN.down, Nat.reduceAdd, if_true, if_false, ↓reduceIte, e_impl_Term])
          exact hP
        exact w_ret (q2 _ (r0 _ (.inl (w_fin [.bool false] rfl (by cases someE h; rfl) (by decide) outs_nil))))
      · refine w_cf (congrArg AV.bool b11) ?_
        simp only [b11, Bool.not_true, Bool.not_false]
        refine w_skip (n2 _ (.inl ?_))
        refine w_sreg (w_abs [(0, .slice (a0.map e_impl_Term)), (1, .int .i64 a1), (7, .int .i64 1)] (fun P hP => ?_) ?_)
        · simp only [W0.down, Nat.reduceEqDiff, ↓reduceIte, reduceCtorEq, Nat.reduceAdd, Nat.reduceSub, Nat.reduceMul, Nat.reduceLeDiff, Nat.reduceBEq, Nat.reduceLT, if_true, if_false, beq_self_eq_true, BEq.rfl, ne_eq, e_impl_Term]
          (try simp only [WN.down, Nat.reduceAdd, if_true, if_false, ↓reduceIte, e_impl_Term] at hP)
          (try simp only [WN.down, Nat.reduceAdd, if_true, if_false, ↓reduceIte, e_impl_Term])
          exact hP
        refine w_seq (fun Q14 n14 q14 x14 => ?_)
        refine w_sreg (w_abs [(1, .int .i64 a1), (7, .int .i64 1), (25, .slice (a0.map e_impl_Term)), (26, .int .i64 (a0.length : Int)), (27, .int .i64 0)] (fun P hP => ?_) ?_)
        · simp only [W0.down, Nat.reduceEqDiff, ↓reduceIte, reduceCtorEq, Nat.reduceAdd, Nat.reduceSub, Nat.reduceMul, Nat.reduceLeDiff, Nat.reduceBEq, Nat.reduceLT, if_true, if_false, beq_self_eq_true, BEq.rfl, ne_eq, tt2, tt40, tt131, e_impl_Term]
          (try simp only [WN.down, Nat.reduceAdd, if_true, if_false, ↓reduceIte, tt2, tt40, tt131, e_impl_Term] at hP)
          (try simp only [WN.down, Nat.reduceAdd, if_true, if_false, ↓reduceIte, tt2, tt40, tt131, e_impl_Term])
          exact hP
        refine w_blk (fun Q16 n16 q16 b16 x16 => ?_)
        have L16 : ∀ (n : Nat) (v7_16 : Int) (v27_16 : Int), impl_ValidTerms_l16 a0 a1 n v7_16 v27_16 = some r → lpC Cc c200_17 Q16 (stA [(1, .int .i64 a1), (7, .int .i64 v7_16), (25, .slice (a0.map e_impl_Term)), (26, .int .i64 (a0.length : Int)), (27, .int .i64 v27_16)]) := by
          intro m16
          induction m16 with
          | zero => intro v7_16 v27_16 h; cases (show none = some r from h)
          | succ m16 ih16 =>
            intro v7_16 v27_16 h
            replace h : impl_ValidTerms_b16 (impl_ValidTerms_l16 a0 a1 m16) a0 a1 v7_16 v27_16 = some r := h
            refine lpC_step (fun Q17 n17 q17 x17 => ?_)
            refine w_sreg (w_abs [(1, .int .i64 a1), (7, .int .i64 v7_16), (25, .slice (a0.map e_impl_Term)), (26, .int .i64 (a0.length : Int)), (27, .int .i64 v27_16), (28, .bool (decide (v27_16 < (a0.length : Int))))] (fun P hP => ?_) ?_)
            · simp only [W0.down, Nat.reduceEqDiff, ↓reduceIte, reduceCtorEq, Nat.reduceAdd, Nat.reduceSub, Nat.reduceMul, Nat.reduceLeDiff, Nat.reduceBEq, Nat.reduceLT, if_true, if_false, beq_self_eq_true, BEq.rfl, ne_eq, e_impl_Term]
              (try simp only [WN.down, Nat.reduceAdd, if_true, if_false, ↓reduceIte, e_impl_Term] at hP)
              (try simp only [WN.down, Nat.reduceAdd, if_true, if_false, ↓reduceIte, e_impl_Term])
              exact hP
            refine w_seq (fun Q19 n19 q19 x19 => ?_)
            rcases condE h with ⟨b20, h⟩ | ⟨b20, h⟩
            · refine w_ct (congrArg AV.bool b20) ?_
              simp only [b20, Bool.not_true, Bool.not_false]
              refine w_skip (n19 _ (.inl ?_))
              refine w_seq (fun Q21 n21 q21 x21 => ?_)
              refine w_blk (fun Q22 n22 q22 b22 x22 => ?_)
              obtain ⟨x4, e24, h⟩ := bindE h
              refine w_sreg (w_abs [(1, .int .i64 a1), (7, .int .i64 v7_16), (9, .ubox (e_impl_Term x4)), (25, .slice (a0.map e_impl_Term)), (26, .int .i64 (a0.length : Int)), (27, .int .i64 v27_16)] (fun P hP => ?_) ?_)
              · simp only [W0.down, Nat.reduceEqDiff, ↓reduceIte, reduceCtorEq, Nat.reduceAdd, Nat.reduceSub, Nat.reduceMul, Nat.reduceLeDiff, Nat.reduceBEq, Nat.reduceLT, if_true, if_false, beq_self_eq_true, BEq.rfl, ne_eq, tt2, tt40, tt131, e_impl_Term, e24]
                (try simp only [WN.down, Nat.reduceAdd, if_true, if_false, ↓reduceIte, tt2, tt40, tt131, e_impl_Term, e24] at hP)
                (try simp only [WN.down, Nat.reduceAdd, if_true, if_false, ↓reduceIte, tt2, tt40, tt131, e_impl_Term, e24])
                exact hP
              refine w_seq (fun Q25 n25 q25 x25 => ?_)
              rcases condE h with ⟨b27, h⟩ | ⟨b27, h⟩
              · refine w_sreg (w_abs [(1, .int .i64 a1), (7, .int .i64 v7_16), (9, .ubox (e_impl_Term x4)), (25, .slice (a0.map e_impl_Term)), (26, .int .i64 (a0.length : Int)), (27, .int .i64 v27_16), (38, .bool true)] (fun P hP => ?_) ?_)
                · simp only [W0.down, Nat.reduceEqDiff, ↓reduceIte, reduceCtorEq, Nat.reduceAdd, Nat.reduceSub, Nat.reduceMul, Nat.reduceLeDiff, Nat.reduceBEq, Nat.reduceLT, if_true, if_false, beq_self_eq_true, BEq.rfl, ne_eq, tt2, tt131, e_impl_Term, b27]
                  (try simp only [WN.down, Nat.reduceAdd, if_true, if_false, ↓reduceIte, tt2, tt131, e_impl_Term, b27] at hP)
                  (try simp only [WN.down, Nat.reduceAdd, if_true, if_false, ↓reduceIte, tt2, tt131, e_impl_Term, b27])
                  exact hP
                refine w_ct rfl ?_
                refine w_sreg (w_abs [(6, .bool false)] (fun P hP => ?_) ?_)
                · simp only [W0.down, Nat.reduceEqDiff, ↓reduceIte, reduceCtorEq, Nat.reduceAdd, Nat.reduceSub, Nat.reduceMul, Nat.reduceLeDiff, Nat.reduceBEq, Nat.reduceLT, if_true, if_false, beq_self_eq_true, BEq.rfl, ne_eq, e_impl_Term]
                  (try simp only [WN.down, Nat.reduceAdd, if_true, if_false, ↓reduceIte, e_impl_Term] at hP)
                  (try simp only [WN.down, Nat.reduceAdd, if_true, if_false, ↓reduceIte, e_impl_Term])
                  exact hP
                exact w_ret (q25 _ (q22 _ (q21 _ (q17 _ (q16 _ (q14 _ (r0 _ (.inl (w_fin [.bool false] rfl (by cases someE h; rfl) (by decide) outs_nil)))))))))
              · obtain ⟨x5, e29, h⟩ := bindE h
                refine w_sreg (w_abs [(1, .int .i64 a1), (7, .int .i64 v7_16), (9, .ubox (e_impl_Term x4)), (25, .slice (a0.map e_impl_Term)), (26, .int .i64 (a0.length : Int)), (27, .int .i64 v27_16), (38, .bool (!x5))] (fun P hP => ?_) ?_)
                · simp only [W0.down, Nat.reduceEqDiff, ↓reduceIte, reduceCtorEq, Nat.reduceAdd, Nat.reduceSub, Nat.reduceMul, Nat.reduceLeDiff, Nat.reduceBEq, Nat.reduceLT, if_true, if_false, beq_self_eq_true, BEq.rfl, ne_eq, tt2, tt131, e_impl_Term, b27]
                  refine w_callg0 (ok_impl_Term_valid x4 a1 _ e29) rfl rfl rfl rfl (.inl (by rfl)) ?_
                  simp only [W0.down, Nat.reduceEqDiff, ↓reduceIte, reduceCtorEq, Nat.reduceAdd, Nat.reduceSub, Nat.reduceMul, Nat.reduceLeDiff, Nat.reduceBEq, Nat.reduceLT, if_true, if_false, beq_self_eq_true, BEq.rfl, ne_eq, tt2, tt131, e_impl_Term, b27]
                  (try simp only [WN.down, Nat.reduceAdd, if_true, if_false, ↓reduceIte, tt2, tt131, e_impl_Term, b27] at hP)
                  (try simp only [WN.down, Nat.reduceAdd, if_true, if_false, ↓reduceIte, tt2, tt131, e_impl_Term, b27])
                  exact hP
                rcases condE h with ⟨b30, h⟩ | ⟨b30, h⟩
                · refine w_ct (congrArg AV.bool b30) ?_
                  simp only [b30, Bool.not_true, Bool.not_false]
                  refine w_sreg (w_abs [(6, .bool false)] (fun P hP => ?_) ?_)
                  · simp only [W0.down, Nat.reduceEqDiff, ↓reduceIte, reduceCtorEq, Nat.reduceAdd, Nat.reduceSub, Nat.reduceMul, Nat.reduceLeDiff, Nat.reduceBEq, Nat.reduceLT, if_true, if_false, beq_self_eq_true, BEq.rfl, ne_eq, e_impl_Term]
                    (try simp only [WN.down, Nat.reduceAdd, if_true, if_false, ↓reduceIte, e_impl_Term] at hP)
                    (try simp only [WN.down, Nat.reduceAdd, if_true, if_false, ↓reduceIte, e_impl_Term])
                    exact hP
                  exact w_ret (q25 _ (q22 _ (q21 _ (q17 _ (q16 _ (q14 _ (r0 _ (.inl (w_fin [.bool false] rfl (by cases someE h; rfl) (by decide) outs_nil)))))))))
                · refine w_cf (congrArg AV.bool b30) ?_
                  simp only [b30, Bool.not_true, Bool.not_false]
                  refine w_skip (n25 _ (.inl ?_))
                  obtain ⟨x6, e33, h⟩ := bindE h
                  refine w_reg (w_abs [(1, .int .i64 a1), (7, .int .i64 (IntKind.i64.wrap (v7_16 + (IntKind.i64.wrap (x6 - 1))))), (25, .slice (a0.map e_impl_Term)), (26, .int .i64 (a0.length : Int)), (27, .int .i64 v27_16)] (fun P hP => ?_) ?_)
                  · simp only [W0.down, Nat.reduceEqDiff, ↓reduceIte, reduceCtorEq, Nat.reduceAdd, Nat.reduceSub, Nat.reduceMul, Nat.reduceLeDiff, Nat.reduceBEq, Nat.reduceLT, if_true, if_false, beq_self_eq_true, BEq.rfl, ne_eq, tt2, tt131, e_impl_Term]
                    refine w_call0 (ok_impl_Term_operands x4 _ e33) rfl rfl rfl rfl (.inl (by rfl)) ?_
                    simp only [W0.down, Nat.reduceEqDiff, ↓reduceIte, reduceCtorEq, Nat.reduceAdd, Nat.reduceSub, Nat.reduceMul, Nat.reduceLeDiff, Nat.reduceBEq, Nat.reduceLT, if_true, if_false, beq_self_eq_true, BEq.rfl, ne_eq, tt2, tt131, e_impl_Term]
                    (try simp only [WN.down, Nat.reduceAdd, if_true, if_false, ↓reduceIte, tt2, tt131, e_impl_Term] at hP)
                    (try simp only [WN.down, Nat.reduceAdd, if_true, if_false, ↓reduceIte, tt2, tt131, e_impl_Term])
                    exact hP
                  refine n22 _ (n21 _ (.inl ?_))
                  refine w_reg (w_abs [(1, .int .i64 a1), (7, .int .i64 (IntKind.i64.wrap (v7_16 + (IntKind.i64.wrap (x6 - 1))))), (25, .slice (a0.map e_impl_Term)), (26, .int .i64 (a0.length : Int)), (27, .int .i64 (IntKind.i64.wrap (v27_16 + 1)))] (fun P hP => ?_) ?_)
                  · simp only [W0.down, Nat.reduceEqDiff, ↓reduceIte, reduceCtorEq, Nat.reduceAdd, Nat.reduceSub, Nat.reduceMul, Nat.reduceLeDiff, Nat.reduceBEq, Nat.reduceLT, if_true, if_false, beq_self_eq_true, BEq.rfl, ne_eq, e_impl_Term]
                    (try simp only [WN.down, Nat.reduceAdd, if_true, if_false, ↓reduceIte, e_impl_Term] at hP)
                    (try simp only [WN.down, Nat.reduceAdd, if_true, if_false, ↓reduceIte, e_impl_Term])
                    exact hP
                  exact n17 _ (.inr ⟨_, weak_eq rfl, ih16 (IntKind.i64.wrap (v7_16 + (IntKind.i64.wrap (x6 - 1)))) (IntKind.i64.wrap (v27_16 + 1)) h⟩)
            · refine w_cf (congrArg AV.bool b20) ?_
              simp only [b20, Bool.not_true, Bool.not_false]
              refine w_ex (x19 0 _ (x17 0 _ (b16 _ (n14 _ (.inl ?_)))))
              refine w_sreg (w_abs [(6, .bool (v7_16 == 0))] (fun P hP => ?_) ?_)
              · simp only [W0.down, Nat.reduceEqDiff, ↓reduceIte, reduceCtorEq, Nat.reduceAdd, Nat.reduceSub, Nat.reduceMul, Nat.reduceLeDiff, Nat.reduceBEq, Nat.reduceLT, if_true, if_false, beq_self_eq_true, BEq.rfl, ne_eq, e_impl_Term]
                (try simp only [WN.down, Nat.reduceAdd, if_true, if_false, ↓reduceIte, e_impl_Term] at hP)
                (try simp only [WN.down, Nat.reduceAdd, if_true, if_false, ↓reduceIte, e_impl_Term])
                exact hP
              exact w_ret (r0 _ (.inl (w_fin [.bool (v7_16 == 0)] rfl (by cases someE h; rfl) (by decide) outs_nil)))
        obtain ⟨n, h⟩ := limE h
        exact w_loop (.inr ⟨_, weak_eq rfl, L16 n 1 0 h⟩)

theorem ok_impl_termsOk  (a0 : List impl_Term) (r : Bool) (h : impl_termsOk  a0 = some r) : OkAt Cc 108 [.slice (a0.map e_impl_Term)] (.bool r) [] := by
  refine OkAt.of_wpQ (fx := [0]) Cc_ok Try.func108 rfl rfl s108 (Nat.le_of_ble_eq_true rfl) (fun Q0 r0 n0 => ?_)
  replace r0 : ∀ s, onW (Fw.Ends Cc [0] [.tmp 2] (.bool r) []) s → Q0 .ret s := r0
  replace n0 : ∀ s, onW (Fw.Ends Cc [0] [.tmp 2] (.bool r) []) s → Q0 .normal s := n0
  show wpC Cc c108 Q0 (stA [(0, .slice (a0.map e_impl_Term))])
  refine w_sreg (w_abs [(0, .slice (a0.map e_impl_Term))] (fun P hP => ?_) ?_)
  · simp only [W0.down, Nat.reduceEqDiff, ↓reduceIte, reduceCtorEq, Nat.reduceAdd, Nat.reduceSub, Nat.reduceMul, Nat.reduceLeDiff, Nat.reduceBEq, Nat.reduceLT, if_true, if_false, beq_self_eq_true, BEq.rfl, ne_eq, e_impl_Term]
    (try simp only [WN.down, Nat.reduceAdd, if_true, if_false, ↓reduceIte, e_impl_Term] at hP)
    (try simp only [WN.down, Nat.reduceAdd, if_true, if_false, ↓reduceIte, e_impl_Term])
    exact hP
  obtain ⟨x1, e3, h⟩ := bindE h
  refine w_sreg (w_abs [(2, .bool x1)] (fun P hP => ?_) ?_)
  · simp only [W0.down, Nat.reduceEqDiff, ↓reduceIte, reduceCtorEq, Nat.reduceAdd, Nat.reduceSub, Nat.reduceMul, Nat.reduceLeDiff, Nat.reduceBEq, Nat.reduceLT, if_true, if_false, beq_self_eq_true, BEq.rfl, ne_eq, e_impl_Term]
    refine w_call0 (ok_impl_ValidTerms a0 29 60 _ e3) rfl rfl rfl rfl (.inl (by rfl)) ?_
    simp only [W0.down, Nat.reduceEqDiff, ↓reduceIte, reduceCtorEq, Nat.reduceAdd, Nat.reduceSub, Nat.reduceMul, Nat.reduceLeDiff, Nat.reduceBEq, Nat.reduceLT, if_true, if_false, beq_self_eq_true, BEq.rfl, ne_eq, e_impl_Term]
    (try simp only [WN.down, Nat.reduceAdd, if_true, if_false, ↓reduceIte, e_impl_Term] at hP)
    (try simp only [WN.down, Nat.reduceAdd, if_true, if_false, ↓reduceIte, e_impl_Term])
    exact hP
  exact w_ret (r0 _ (.inl (w_fin [.bool x1] rfl (by cases someE h; rfl) (by decide) outs_nil)))

theorem ok_impl_treeFrom_f (rec24 : (List impl_Term) → Option (impl_Term × (List impl_expr) × (List impl_Term))) (hrec24 : ∀ (a0 : List impl_Term) (r : impl_Term × (List impl_expr) × (List impl_Term)), rec24 a0 = some r → OkAt Cc 201 [.slice (a0.map e_impl_Term)] (.tuple [.ubox (.agg [e_impl_Term r.1, .uslice 1 (r.2.1.map u_p_impl_expr)]), .slice (r.2.2.map e_impl_Term)]) []) (a0 : List impl_Term) (r : impl_Term × (List impl_expr) × (List impl_Term)) (h : impl_treeFrom_f rec24 a0 = some r) : OkAt Cc 201 [.slice (a0.map e_impl_Term)] (.tuple [.ubox (.agg [e_impl_Term r.1, .uslice 1 (r.2.1.map u_p_impl_expr)]), .slice (r.2.2.map e_impl_Term)]) [] := by
  refine OkAt.of_wpQ (fx := [0]) Cc_ok Try.func201 rfl rfl s201 (Nat.le_of_ble_eq_true rfl) (fun Q0 r0 n0 => ?_)
  replace r0 : ∀ s, onW (Fw.Ends Cc [0] [.tmp 2, .tmp 3] (.tuple [.ubox (.agg [e_impl_Term r.1, .uslice 1 (r.2.1.map u_p_impl_expr)]), .slice (r.2.2.map e_impl_Term)]) []) s → Q0 .ret s := r0
  replace n0 : ∀ s, onW (Fw.Ends Cc [0] [.tmp 2, .tmp 3] (.tuple [.ubox (.agg [e_impl_Term r.1, .uslice 1 (r.2.1.map u_p_impl_expr)]), .slice (r.2.2.map e_impl_Term)]) []) s → Q0 .normal s := n0
  show wpC Cc c201 Q0 (stA [(0, .slice (a0.map e_impl_Term))])
  refine w_sreg (w_abs [(0, .slice (a0.map e_impl_Term))] (fun P hP => ?_) ?_)
  · simp only [W0.down, Nat.reduceEqDiff, ↓reduceIte, reduceCtorEq, Nat.reduceAdd, Nat.reduceSub, Nat.reduceMul, Nat.reduceLeDiff, Nat.reduceBEq, Nat.reduceLT, if_true, if_false, beq_self_eq_true, BEq.rfl, ne_eq, e_impl_Term]
    (try simp only [WN.down, Nat.reduceAdd, if_true, if_false, ↓reduceIte, e_impl_Term] at hP)
    (try simp only [WN.down, Nat.reduceAdd, if_true, if_false, ↓reduceIte, e_impl_Term])
    exact hP
  obtain ⟨x1, e3, h⟩ := bindE h
  refine w_sreg (w_abs [(0, .slice (a0.map e_impl_Term)), (4, .ubox (.agg [e_impl_Term x1, .nils]))] (fun P hP => ?_) ?_)
  · simp only [W0.down, Nat.reduceEqDiff, ↓reduceIte, reduceCtorEq, Nat.reduceAdd, Nat.reduceSub, Nat.reduceMul, Nat.reduceLeDiff, Nat.reduceBEq, Nat.reduceLT, if_true, if_false, beq_self_eq_true, BEq.rfl, ne_eq, tt2, tt40, tt131, tt134, tt137, tt139, e_impl_Term, e3, (show ∀ s, bld Cc s 139 [(0, .agg [.int .i64 x1.Kind, .int .i64 x1.Value])] = some (.agg [.agg [.int .i64 x1.Kind, .int .i64 x1.Value], .nils], s) from fun s => by kernel_rfl)]
    (try simp only [WN.down, Nat.reduceAdd, if_true, if_false, ↓reduceIte, tt2, tt40, tt131, tt134, tt137, tt139, e_impl_Term, e3, (show ∀ s, bld Cc s 139 [(0, .agg [.int .i64 x1.Kind, .int .i64 x1.Value])] = some (.agg [.agg [.int .i64 x1.Kind, .int .i64 x1.Value], .nils], s) from fun s => by kernel_rfl)] at hP)
    (try simp only [WN.down, Nat.reduceAdd, if_true, if_false, ↓reduceIte, tt2, tt40, tt131, tt134, tt137, tt139, e_impl_Term, e3, (show ∀ s, bld Cc s 139 [(0, .agg [.int .i64 x1.Kind, .int .i64 x1.Value])] = some (.agg [.agg [.int .i64 x1.Kind, .int .i64 x1.Value], .nils], s) from fun s => by kernel_rfl)])
    exact hP
  obtain ⟨x2, e5, h⟩ := bindE h
  refine w_sreg (w_abs [(0, .slice (a0.map e_impl_Term)), (4, .ubox (.agg [e_impl_Term x1, .nils])), (5, .slice (x2.map e_impl_Term))] (fun P hP => ?_) ?_)
  · simp only [W0.down, Nat.reduceEqDiff, ↓reduceIte, reduceCtorEq, Nat.reduceAdd, Nat.reduceSub, Nat.reduceMul, Nat.reduceLeDiff, Nat.reduceBEq, Nat.reduceLT, if_true, if_false, beq_self_eq_true, BEq.rfl, ne_eq, tt2, tt40, tt131, e_impl_Term, e5, @all_wd' _ e_impl_Term 2 (fun _ => rfl)]
    (try simp only [WN.down, Nat.reduceAdd, if_true, if_false, ↓reduceIte, tt2, tt40, tt131, e_impl_Term, e5, @all_wd' _ e_impl_Term 2 (fun _ => rfl)] at hP)
    (try simp only [WN.down, Nat.reduceAdd, if_true, if_false, ↓reduceIte, tt2, tt40, tt131, e_impl_Term, e5, @all_wd' _ e_impl_Term 2 (fun _ => rfl)])
    exact hP
  refine w_seq (fun Q6 n6 q6 x6 => ?_)
  obtain ⟨x3, e8, h⟩ := bindE h
  refine w_sreg (w_abs [(4, .ubox (.agg [e_impl_Term x1, .nils])), (5, .slice (x2.map e_impl_Term)), (17, .int .i64 x3), (18, .int .i64 0)] (fun P hP => ?_) ?_)
  · simp only [W0.down, Nat.reduceEqDiff, ↓reduceIte, reduceCtorEq, Nat.reduceAdd, Nat.reduceSub, Nat.reduceMul, Nat.reduceLeDiff, Nat.reduceBEq, Nat.reduceLT, if_true, if_false, beq_self_eq_true, BEq.rfl, ne_eq, tt2, tt40, tt131, e_impl_Term, e3]
    refine w_call0 (ok_impl_Term_operands x1 _ e8) rfl rfl rfl rfl (.inl (by rfl)) ?_
    simp only [W0.down, Nat.reduceEqDiff, ↓reduceIte, reduceCtorEq, Nat.reduceAdd, Nat.reduceSub, Nat.reduceMul, Nat.reduceLeDiff, Nat.reduceBEq, Nat.reduceLT, if_true, if_false, beq_self_eq_true, BEq.rfl, ne_eq, tt2, tt40, tt131, e_impl_Term, e3]
    (try simp only [WN.down, Nat.reduceAdd, if_true, if_false, ↓reduceIte, tt2, tt40, tt131, e_impl_Term, e3] at hP)
    (try simp only [WN.down, Nat.reduceAdd, if_true, if_false, ↓reduceIte, tt2, tt40, tt131, e_impl_Term, e3])
    exact hP
  refine w_blk (fun Q9 n9 q9 b9 x9 => ?_)
  have L10 : ∀ (n : Nat) (v4_10 : List impl_expr) (v5_10 : List impl_Term) (v18_10 : Int), impl_treeFrom_l10 rec24 x1 x3 n v4_10 v5_10 v18_10 = some r → lpC Cc c201_11 Q9 (stA [(4, .ubox (.agg [e_impl_Term x1, .uslice 1 (v4_10.map u_p_impl_expr)])), (5, .slice (v5_10.map e_impl_Term)), (17, .int .i64 x3), (18, .int .i64 v18_10)]) := by
    intro m10
    induction m10 with
    | zero => intro v4_10 v5_10 v18_10 h; cases (show none = some r from h)
    | succ m10 ih10 =>
      intro v4_10 v5_10 v18_10 h
      replace h : impl_treeFrom_b10 rec24 (impl_treeFrom_l10 rec24 x1 x3 m10) x1 x3 v4_10 v5_10 v18_10 = some r := h
      refine lpC_step (fun Q10 n10 q10 x10 => ?_)
      refine w_sreg (w_abs [(4, .ubox (.agg [e_impl_Term x1, .uslice 1 (v4_10.map u_p_impl_expr)])), (5, .slice (v5_10.map e_impl_Term)), (17, .int .i64 x3), (18, .int .i64 v18_10), (19, .bool (decide (v18_10 < x3)))] (fun P hP => ?_) ?_)
      · simp only [W0.down, Nat.reduceEqDiff, ↓reduceIte, reduceCtorEq, Nat.reduceAdd, Nat.reduceSub, Nat.reduceMul, Nat.reduceLeDiff, Nat.reduceBEq, Nat.reduceLT, if_true, if_false, beq_self_eq_true, BEq.rfl, ne_eq, e_impl_Term, u_impl_expr_eq, impl_expr_pj, u_p_impl_expr]
        (try simp only [WN.down, Nat.reduceAdd, if_true, if_false, ↓reduceIte, e_impl_Term, u_impl_expr_eq, impl_expr_pj, u_p_impl_expr] at hP)
        (try simp only [WN.down, Nat.reduceAdd, if_true, if_false, ↓reduceIte, e_impl_Term, u_impl_expr_eq, impl_expr_pj, u_p_impl_expr])
        exact hP
      refine w_seq (fun Q12 n12 q12 x12 => ?_)
      rcases condE h with ⟨b13, h⟩ | ⟨b13, h⟩
      · refine w_ct (congrArg AV.bool b13) ?_
        simp only [b13, Bool.not_true, Bool.not_false]
        refine w_skip (n12 _ (.inl ?_))
        refine w_seq (fun Q14 n14 q14 x14 => ?_)
        refine w_blk (fun Q15 n15 q15 b15 x15 => ?_)
        refine w_sreg (w_abs [(4, .ubox (.agg [e_impl_Term x1, .uslice 1 (v4_10.map u_p_impl_expr)])), (5, .slice (v5_10.map e_impl_Term)), (17, .int .i64 x3), (18, .int .i64 v18_10)] (fun P hP => ?_) ?_)
        · simp only [W0.down, Nat.reduceEqDiff, ↓reduceIte, reduceCtorEq, Nat.reduceAdd, Nat.reduceSub, Nat.reduceMul, Nat.reduceLeDiff, Nat.reduceBEq, Nat.reduceLT, if_true, if_false, beq_self_eq_true, BEq.rfl, ne_eq, e_impl_Term, u_impl_expr_eq, impl_expr_pj, u_p_impl_expr]
          (try simp only [WN.down, Nat.reduceAdd, if_true, if_false, ↓reduceIte, e_impl_Term, u_impl_expr_eq, impl_expr_pj, u_p_impl_expr] at hP)
          (try simp only [WN.down, Nat.reduceAdd, if_true, if_false, ↓reduceIte, e_impl_Term, u_impl_expr_eq, impl_expr_pj, u_p_impl_expr])
          exact hP
        obtain ⟨x4, e18, h⟩ := bindE h
        refine w_sreg (w_abs [(4, .ubox (.agg [e_impl_Term x1, .uslice 1 (v4_10.map u_p_impl_expr)])), (5, .slice (x4.2.2.map e_impl_Term)), (6, .ubox (.agg [e_impl_Term x4.1, .uslice 1 (x4.2.1.map u_p_impl_expr)])), (17, .int .i64 x3), (18, .int .i64 v18_10)] (fun P hP => ?_) ?_)
        · simp only [W0.down, Nat.reduceEqDiff, ↓reduceIte, reduceCtorEq, Nat.reduceAdd, Nat.reduceSub, Nat.reduceMul, Nat.reduceLeDiff, Nat.reduceBEq, Nat.reduceLT, if_true, if_false, beq_self_eq_true, BEq.rfl, ne_eq, e_impl_Term, u_impl_expr_eq, impl_expr_pj, u_p_impl_expr]
          refine w_call0 (hrec24 v5_10 _ e18) rfl rfl rfl rfl (.inl (by rfl)) ?_
          simp only [W0.down, Nat.reduceEqDiff, ↓reduceIte, reduceCtorEq, Nat.reduceAdd, Nat.reduceSub, Nat.reduceMul, Nat.reduceLeDiff, Nat.reduceBEq, Nat.reduceLT, if_true, if_false, beq_self_eq_true, BEq.rfl, ne_eq, e_impl_Term, u_impl_expr_eq, impl_expr_pj, u_p_impl_expr]
          (try simp only [WN.down, Nat.reduceAdd, if_true, if_false, ↓reduceIte, e_impl_Term, u_impl_expr_eq, impl_expr_pj, u_p_impl_expr] at hP)
          (try simp only [WN.down, Nat.reduceAdd, if_true, if_false, ↓reduceIte, e_impl_Term, u_impl_expr_eq, impl_expr_pj, u_p_impl_expr])
          exact hP
        obtain ⟨u21, e20, h⟩ := bindE h
        (try simp only [List.length_append, List.length_cons, List.length_nil, List.length_map, List.length_replicate, Nat.zero_add, Nat.add_zero, Nat.reduceAdd] at e20)
        refine w_reg (w_abs [(4, .ubox (.agg [e_impl_Term x1, .uslice 1 ((v4_10 ++ [(impl_expr.mk x4.1 x4.2.1)]).map u_p_impl_expr)])), (5, .slice (x4.2.2.map e_impl_Term)), (17, .int .i64 x3), (18, .int .i64 v18_10)] (fun P hP => ?_) ?_)
        · simp only [W0.down, Nat.reduceEqDiff, ↓reduceIte, reduceCtorEq, Nat.reduceAdd, Nat.reduceSub, Nat.reduceMul, Nat.reduceLeDiff, Nat.reduceBEq, Nat.reduceLT, if_true, if_false, beq_self_eq_true, BEq.rfl, ne_eq, tt2, tt131, tt134, tt137, tt139, e_impl_Term, u_impl_expr_eq, impl_expr_pj, u_p_impl_expr, @bsl_s Cc 137 134 1 1 [.nilp] rfl rfl rfl (by kernel_rfl), bslU, flw_s, flwC, pkOs_s, own_s, ap3_s, @apd_s Cc 137 137 134 rfl rfl, ap_s, ap2_s, all_cons, all_nil, e20, @all_wd' _ u_p_impl_expr 1 (fun _ => rfl)]
          (try simp only [WN.down, Nat.reduceAdd, if_true, if_false, ↓reduceIte, tt2, tt131, tt134, tt137, tt139, e_impl_Term, u_impl_expr_eq, impl_expr_pj, u_p_impl_expr, @bsl_s Cc 137 134 1 1 [.nilp] rfl rfl rfl (by kernel_rfl), bslU, flw_s, flwC, pkOs_s, own_s, ap3_s, @apd_s Cc 137 137 134 rfl rfl, ap_s, ap2_s, all_cons, all_nil, e20, @all_wd' _ u_p_impl_expr 1 (fun _ => rfl)] at hP)
          (try simp only [WN.down, Nat.reduceAdd, if_true, if_false, ↓reduceIte, tt2, tt131, tt134, tt137, tt139, e_impl_Term, u_impl_expr_eq, impl_expr_pj, u_p_impl_expr, @bsl_s Cc 137 134 1 1 [.nilp] rfl rfl rfl (by kernel_rfl), bslU, flw_s, flwC, pkOs_s, own_s, ap3_s, @apd_s Cc 137 137 134 rfl rfl, ap_s, ap2_s, all_cons, all_nil, e20, @all_wd' _ u_p_impl_expr 1 (fun _ => rfl)])
          exact hP
        refine n15 _ (n14 _ (.inl ?_))
        refine w_reg (w_abs [(4, .ubox (.agg [e_impl_Term x1, .uslice 1 ((v4_10 ++ [(impl_expr.mk x4.1 x4.2.1)]).map u_p_impl_expr)])), (5, .slice (x4.2.2.map e_impl_Term)), (17, .int .i64 x3), (18, .int .i64 (IntKind.i64.wrap (v18_10 + 1)))] (fun P hP => ?_) ?_)
        · simp only [W0.down, Nat.reduceEqDiff, ↓reduceIte, reduceCtorEq, Nat.reduceAdd, Nat.reduceSub, Nat.reduceMul, Nat.reduceLeDiff, Nat.reduceBEq, Nat.reduceLT, if_true, if_false, beq_self_eq_true, BEq.rfl, ne_eq, e_impl_Term, u_impl_expr_eq, impl_expr_pj, u_p_impl_expr]
          (try simp only [WN.down, Nat.reduceAdd, if_true, if_false, ↓reduceIte, e_impl_Term, u_impl_expr_eq, impl_expr_pj, u_p_impl_expr] at hP)
          (try simp only [WN.down, Nat.reduceAdd, if_true, if_false, ↓reduceIte, e_impl_Term, u_impl_expr_eq, impl_expr_pj, u_p_impl_expr])
          exact hP
        exact n10 _ (.inr ⟨_, weak_eq rfl, ih10 (v4_10 ++ [(impl_expr.mk x4.1 x4.2.1)]) x4.2.2 (IntKind.i64.wrap (v18_10 + 1)) h⟩)
      · refine w_cf (congrArg AV.bool b13) ?_
        simp only [b13, Bool.not_true, Bool.not_false]
        refine w_ex (x12 0 _ (x10 0 _ (b9 _ (n6 _ (.inl ?_)))))
        refine w_sreg (w_abs [(2, .ubox (.agg [e_impl_Term x1, .uslice 1 (v4_10.map u_p_impl_expr)])), (3, .slice (v5_10.map e_impl_Term))] (fun P hP => ?_) ?_)
        · simp only [W0.down, Nat.reduceEqDiff, ↓reduceIte, reduceCtorEq, Nat.reduceAdd, Nat.reduceSub, Nat.reduceMul, Nat.reduceLeDiff, Nat.reduceBEq, Nat.reduceLT, if_true, if_false, beq_self_eq_true, BEq.rfl, ne_eq, e_impl_Term, u_impl_expr_eq, impl_expr_pj, u_p_impl_expr]
          (try simp only [WN.down, Nat.reduceAdd, if_true, if_false, ↓reduceIte, e_impl_Term, u_impl_expr_eq, impl_expr_pj, u_p_impl_expr] at hP)
          (try simp only [WN.down, Nat.reduceAdd, if_true, if_false, ↓reduceIte, e_impl_Term, u_impl_expr_eq, impl_expr_pj, u_p_impl_expr])
          exact hP
        exact w_ret (r0 _ (.inl (w_fin [.ubox (.agg [e_impl_Term x1, .uslice 1 (v4_10.map u_p_impl_expr)]), .slice (v5_10.map e_impl_Term)] rfl (by cases someE h; rfl) (by decide) outs_nil)))
  obtain ⟨n, h⟩ := limE h
  exact w_loop (.inr ⟨_, weak_mix [] rfl (wk_wd (t := 4) (d := .ubox (.agg [e_impl_Term x1, .nils])) (d' := .ubox (.agg [e_impl_Term x1, .uslice 1 []])) rfl rfl (.ubox (.agg (.cons (.refl _) (.cons (.nilsU _) (.nil))))) (by decide) (wk_eq (t := 5) (d := .slice (x2.map e_impl_Term)) rfl (wk_eq (t := 17) (d := .int .i64 x3) rfl (wk_eq (t := 18) (d := .int .i64 0) rfl (wk_nil))))), L10 n [] x2 0 h⟩)
theorem ok_impl_treeFrom_r  : ∀ (n : Nat) (a0 : List impl_Term) (r : impl_Term × (List impl_expr) × (List impl_Term)), impl_treeFrom_r  n a0 = some r → OkAt Cc 201 [.slice (a0.map e_impl_Term)] (.tuple [.ubox (.agg [e_impl_Term r.1, .uslice 1 (r.2.1.map u_p_impl_expr)]), .slice (r.2.2.map e_impl_Term)]) [] := by
  intro n
  induction n with
  | zero => intro a0 r h; cases (show none = some r from h)
  | succ n ih => intro a0 r h; exact ok_impl_treeFrom_f  (impl_treeFrom_r  n) ih a0 r h
theorem ok_impl_treeFrom  (a0 : List impl_Term) (r : impl_Term × (List impl_expr) × (List impl_Term)) (h : impl_treeFrom  a0 = some r) : OkAt Cc 201 [.slice (a0.map e_impl_Term)] (.tuple [.ubox (.agg [e_impl_Term r.1, .uslice 1 (r.2.1.map u_p_impl_expr)]), .slice (r.2.2.map e_impl_Term)]) [] := by
  obtain ⟨n, h⟩ := limE h
  exact ok_impl_treeFrom_r  n a0 r h

theorem ok_impl_tree  (a0 : List impl_Term) (r : impl_Term × (List impl_expr)) (h : impl_tree  a0 = some r) : OkAt Cc 109 [.slice (a0.map e_impl_Term)] (.ubox (.agg [e_impl_Term r.1, .uslice 1 (r.2.map u_p_impl_expr)])) [] := by
  refine OkAt.of_wpQ (fx := [0]) Cc_ok Try.func109 rfl rfl s109 (Nat.le_of_ble_eq_true rfl) (fun Q0 r0 n0 => ?_)
  replace r0 : ∀ s, onW (Fw.Ends Cc [0] [.tmp 2] (.ubox (.agg [e_impl_Term r.1, .uslice 1 (r.2.map u_p_impl_expr)])) []) s → Q0 .ret s := r0
  replace n0 : ∀ s, onW (Fw.Ends Cc [0] [.tmp 2] (.ubox (.agg [e_impl_Term r.1, .uslice 1 (r.2.map u_p_impl_expr)])) []) s → Q0 .normal s := n0
  show wpC Cc c109 Q0 (stA [(0, .slice (a0.map e_impl_Term))])
  refine w_sreg (w_abs [(0, .slice (a0.map e_impl_Term))] (fun P hP => ?_) ?_)
  · simp only [W0.down, Nat.reduceEqDiff, ↓reduceIte, reduceCtorEq, Nat.reduceAdd, Nat.reduceSub, Nat.reduceMul, Nat.reduceLeDiff, Nat.reduceBEq, Nat.reduceLT, if_true, if_false, beq_self_eq_true, BEq.rfl, ne_eq, e_impl_Term]
    (try simp only [WN.down, Nat.reduceAdd, if_true, if_false, ↓reduceIte, e_impl_Term] at hP)
    (try simp only [WN.down, Nat.reduceAdd, if_true, if_false, ↓reduceIte, e_impl_Term])
    exact hP
  obtain ⟨x1, e3, h⟩ := bindE h
  refine w_sreg (w_abs [(3, .ubox (.agg [e_impl_Term x1.1, .uslice 1 (x1.2.1.map u_p_impl_expr)]))] (fun P hP => ?_) ?_)
  · simp only [W0.down, Nat.reduceEqDiff, ↓reduceIte, reduceCtorEq, Nat.reduceAdd, Nat.reduceSub, Nat.reduceMul, Nat.reduceLeDiff, Nat.reduceBEq, Nat.reduceLT, if_true, if_false, beq_self_eq_true, BEq.rfl, ne_eq, e_impl_Term, u_impl_expr_eq, impl_expr_pj, u_p_impl_expr]
    refine w_call0 (ok_impl_treeFrom a0 _ e3) rfl rfl rfl rfl (.inl (by rfl)) ?_
    simp only [W0.down, Nat.reduceEqDiff, ↓reduceIte, reduceCtorEq, Nat.reduceAdd, Nat.reduceSub, Nat.reduceMul, Nat.reduceLeDiff, Nat.reduceBEq, Nat.reduceLT, if_true, if_false, beq_self_eq_true, BEq.rfl, ne_eq, e_impl_Term, u_impl_expr_eq, impl_expr_pj, u_p_impl_expr]
    (try simp only [WN.down, Nat.reduceAdd, if_true, if_false, ↓reduceIte, e_impl_Term, u_impl_expr_eq, impl_expr_pj, u_p_impl_expr] at hP)
    (try simp only [WN.down, Nat.reduceAdd, if_true, if_false, ↓reduceIte, e_impl_Term, u_impl_expr_eq, impl_expr_pj, u_p_impl_expr])
    exact hP
  refine w_sreg (w_abs [(2, .ubox (.agg [e_impl_Term x1.1, .uslice 1 (x1.2.1.map u_p_impl_expr)]))] (fun P hP => ?_) ?_)
  · simp only [W0.down, Nat.reduceEqDiff, ↓reduceIte, reduceCtorEq, Nat.reduceAdd, Nat.reduceSub, Nat.reduceMul, Nat.reduceLeDiff, Nat.reduceBEq, Nat.reduceLT, if_true, if_false, beq_self_eq_true, BEq.rfl, ne_eq, e_impl_Term, u_impl_expr_eq, impl_expr_pj, u_p_impl_expr]
    (try simp only [WN.down, Nat.reduceAdd, if_true, if_false, ↓reduceIte, e_impl_Term, u_impl_expr_eq, impl_expr_pj, u_p_impl_expr] at hP)
    (try simp only [WN.down, Nat.reduceAdd, if_true, if_false, ↓reduceIte, e_impl_Term, u_impl_expr_eq, impl_expr_pj, u_p_impl_expr])
    exact hP
  exact w_ret (r0 _ (.inl (w_fin [.ubox (.agg [e_impl_Term x1.1, .uslice 1 (x1.2.1.map u_p_impl_expr)])] rfl (by cases someE h; rfl) (by decide) outs_nil)))

theorem ok_impl_truth  (a0 : Bool) (r : Int) (h : impl_truth  a0 = some r) : OkAt Cc 102 [.bool a0] (.int .i64 r) [] := by
  refine OkAt.of_wpQ (fx := [0]) Cc_ok Try.func102 rfl rfl s102 (Nat.le_of_ble_eq_true rfl) (fun Q0 r0 n0 => ?_)
  replace r0 : ∀ s, onW (Fw.Ends Cc [0] [.tmp 2] (.int .i64 r) []) s → Q0 .ret s := r0
  replace n0 : ∀ s, onW (Fw.Ends Cc [0] [.tmp 2] (.int .i64 r) []) s → Q0 .normal s := n0
  show wpC Cc c102 Q0 (stA [(0, .bool a0)])
  refine w_sreg (w_abs [(0, .bool a0)] (fun P hP => ?_) ?_)
  · simp only [W0.down, Nat.reduceEqDiff, ↓reduceIte, reduceCtorEq, Nat.reduceAdd, Nat.reduceSub, Nat.reduceMul, Nat.reduceLeDiff, Nat.reduceBEq, Nat.reduceLT, if_true, if_false, beq_self_eq_true, BEq.rfl, ne_eq]
    (try simp only [WN.down, Nat.reduceAdd, if_true, if_false, ↓reduceIte] at hP)
    (try simp only [WN.down, Nat.reduceAdd, if_true, if_false, ↓reduceIte])
    exact hP
  refine w_seq (fun Q2 n2 q2 x2 => ?_)
  refine w_sreg (w_abs [(3, .bool a0)] (fun P hP => ?_) ?_)
  · simp only [W0.down, Nat.reduceEqDiff, ↓reduceIte, reduceCtorEq, Nat.reduceAdd, Nat.reduceSub, Nat.reduceMul, Nat.reduceLeDiff, Nat.reduceBEq, Nat.reduceLT, if_true, if_false, beq_self_eq_true, BEq.rfl, ne_eq]
    (try simp only [WN.down, Nat.reduceAdd, if_true, if_false, ↓reduceIte] at hP)
    (try simp only [WN.down, Nat.reduceAdd, if_true, if_false, ↓reduceIte])
    exact hP
  rcases condE h with ⟨b4, h⟩ | ⟨b4, h⟩
  · refine w_ct (congrArg AV.bool b4) ?_
    simp only [b4, Bool.not_true, Bool.not_false]
    refine w_sreg (w_abs [(2, .int .i64 1)] (fun P hP => ?_) ?_)
    · simp only [W0.down, Nat.reduceEqDiff, ↓reduceIte, reduceCtorEq, Nat.reduceAdd, Nat.reduceSub, Nat.reduceMul, Nat.reduceLeDiff, Nat.reduceBEq, Nat.reduceLT, if_true, if_false, beq_self_eq_true, BEq.rfl, ne_eq]
      (try simp only [WN.down, Nat.reduceAdd, if_true, if_false, ↓reduceIte] at hP)
      (try simp only [WN.down, Nat.reduceAdd, if_true, if_false, ↓reduceIte])
      exact hP
    exact w_ret (q2 _ (r0 _ (.inl (w_fin [.int .i64 1] rfl (by cases someE h; rfl) (by decide) outs_nil))))
  · refine w_cf (congrArg AV.bool b4) ?_
    simp only [b4, Bool.not_true, Bool.not_false]
    refine w_skip (n2 _ (.inl ?_))
    refine w_sreg (w_abs [(2, .int .i64 0)] (fun P hP => ?_) ?_)
    · simp only [W0.down, Nat.reduceEqDiff, ↓reduceIte, reduceCtorEq, Nat.reduceAdd, Nat.reduceSub, Nat.reduceMul, Nat.reduceLeDiff, Nat.reduceBEq, Nat.reduceLT, if_true, if_false, beq_self_eq_true, BEq.rfl, ne_eq]
      (try simp only [WN.down, Nat.reduceAdd, if_true, if_false, ↓reduceIte] at hP)
      (try simp only [WN.down, Nat.reduceAdd, if_true, if_false, ↓reduceIte])
      exact hP
    exact w_ret (r0 _ (.inl (w_fin [.int .i64 0] rfl (by cases someE h; rfl) (by decide) outs_nil)))

theorem ok_impl_operate  (a0 : Int) (a1 : Int) (a2 : Int) (r : Int) (h : impl_operate  a0 a1 a2 = some r) : OkAt Cc 271 [.int .i64 a0, .int .i64 a1, .int .i64 a2] (.int .i64 r) [] := by
  refine OkAt.of_wpQ (fx := [0, 1, 2]) Cc_ok Try.func271 rfl rfl s271 (Nat.le_of_ble_eq_true rfl) (fun Q0 r0 n0 => ?_)
  replace r0 : ∀ s, onW (Fw.Ends Cc [0, 1, 2] [.tmp 6] (.int .i64 r) []) s → Q0 .ret s := r0
  replace n0 : ∀ s, onW (Fw.Ends Cc [0, 1, 2] [.tmp 6] (.int .i64 r) []) s → Q0 .normal s := n0
  show wpC Cc c271 Q0 (stA [(0, .int .i64 a0), (1, .int .i64 a1), (2, .int .i64 a2)])
  refine w_sreg (w_abs [(0, .int .i64 a0), (1, .int .i64 a1), (2, .int .i64 a2)] (fun P hP => ?_) ?_)
  · simp only [W0.down, Nat.reduceEqDiff, ↓reduceIte, reduceCtorEq, Nat.reduceAdd, Nat.reduceSub, Nat.reduceMul, Nat.reduceLeDiff, Nat.reduceBEq, Nat.reduceLT, if_true, if_false, beq_self_eq_true, BEq.rfl, ne_eq]
    (try simp only [WN.down, Nat.reduceAdd, if_true, if_false, ↓reduceIte] at hP)
    (try simp only [WN.down, Nat.reduceAdd, if_true, if_false, ↓reduceIte])
    exact hP
  refine w_seq (fun Q2 n2 q2 x2 => ?_)
  refine w_sreg (w_abs [(1, .int .i64 a1), (2, .int .i64 a2), (7, .int .i64 a0)] (fun P hP => ?_) ?_)
  · simp only [W0.down, Nat.reduceEqDiff, ↓reduceIte, reduceCtorEq, Nat.reduceAdd, Nat.reduceSub, Nat.reduceMul, Nat.reduceLeDiff, Nat.reduceBEq, Nat.reduceLT, if_true, if_false, beq_self_eq_true, BEq.rfl, ne_eq]
    (try simp only [WN.down, Nat.reduceAdd, if_true, if_false, ↓reduceIte] at hP)
    (try simp only [WN.down, Nat.reduceAdd, if_true, if_false, ↓reduceIte])
    exact hP
  refine w_blk (fun Q4 n4 q4 b4 x4 => ?_)
  refine w_sreg (w_abs [(1, .int .i64 a1), (2, .int .i64 a2), (7, .int .i64 a0), (8, .bool (a0 == 0))] (fun P hP => ?_) ?_)
  · simp only [W0.down, Nat.reduceEqDiff, ↓reduceIte, reduceCtorEq, Nat.reduceAdd, Nat.reduceSub, Nat.reduceMul, Nat.reduceLeDiff, Nat.reduceBEq, Nat.reduceLT, if_true, if_false, beq_self_eq_true, BEq.rfl, ne_eq]
    (try simp only [WN.down, Nat.reduceAdd, if_true, if_false, ↓reduceIte] at hP)
    (try simp only [WN.down, Nat.reduceAdd, if_true, if_false, ↓reduceIte])
    exact hP
  rcases condE h with ⟨b6, h⟩ | ⟨b6, h⟩
  · refine w_ct (congrArg AV.bool b6) ?_
    simp only [b6, Bool.not_true, Bool.not_false]
    refine w_sreg (w_abs [(6, .int .i64 (Int.tmod (IntKind.i64.wrap (a1 + a2)) 64))] (fun P hP => ?_) ?_)
    · simp only [W0.down, Nat.reduceEqDiff, ↓reduceIte, reduceCtorEq, Nat.reduceAdd, Nat.reduceSub, Nat.reduceMul, Nat.reduceLeDiff, Nat.reduceBEq, Nat.reduceLT, if_true, if_false, beq_self_eq_true, BEq.rfl, ne_eq, @bnI_rem' .i64 64 (by decide)]
      (try simp only [WN.down, Nat.reduceAdd, if_true, if_false, ↓reduceIte, @bnI_rem' .i64 64 (by decide)] at hP)
      (try simp only [WN.down, Nat.reduceAdd, if_true, if_false, ↓reduceIte, @bnI_rem' .i64 64 (by decide)])
      exact hP
    exact w_ret (q4 _ (q2 _ (r0 _ (.inl (w_fin [.int .i64 (Int.tmod (IntKind.i64.wrap (a1 + a2)) 64)] rfl (by cases someE h; rfl) (by decide) outs_nil)))))
  · refine w_cf (congrArg AV.bool b6) ?_
    simp only [b6, Bool.not_true, Bool.not_false]
    refine w_sreg (w_abs [(1, .int .i64 a1), (2, .int .i64 a2), (7, .int .i64 a0), (14, .bool (a0 == 1))] (fun P hP => ?_) ?_)
    · simp only [W0.down, Nat.reduceEqDiff, ↓reduceIte, reduceCtorEq, Nat.reduceAdd, Nat.reduceSub, Nat.reduceMul, Nat.reduceLeDiff, Nat.reduceBEq, Nat.reduceLT, if_true, if_false, beq_self_eq_true, BEq.rfl, ne_eq]
      (try simp only [WN.down, Nat.reduceAdd, if_true, if_false, ↓reduceIte] at hP)
      (try simp only [WN.down, Nat.reduceAdd, if_true, if_false, ↓reduceIte])
      exact hP
    rcases condE h with ⟨b9, h⟩ | ⟨b9, h⟩
    · refine w_ct (congrArg AV.bool b9) ?_
      simp only [b9, Bool.not_true, Bool.not_false]
      refine w_sreg (w_abs [(6, .int .i64 (Int.tmod (IntKind.i64.wrap ((IntKind.i64.wrap (a1 - a2)) + 64)) 64))] (fun P hP => ?_) ?_)
      · simp only [W0.down, Nat.reduceEqDiff, ↓reduceIte, reduceCtorEq, Nat.reduceAdd, Nat.reduceSub, Nat.reduceMul, Nat.reduceLeDiff, Nat.reduceBEq, Nat.reduceLT, if_true, if_false, beq_self_eq_true, BEq.rfl, ne_eq, @bnI_rem' .i64 64 (by decide)]
        (try simp only [WN.down, Nat.reduceAdd, if_true, if_false, ↓reduceIte, @bnI_rem' .i64 64 (by decide)] at hP)
        (try simp only [WN.down, Nat.reduceAdd, if_true, if_false, ↓reduceIte, @bnI_rem' .i64 64 (by decide)])
        exact hP
      exact w_ret (q4 _ (q2 _ (r0 _ (.inl (w_fin [.int .i64 (Int.tmod (IntKind.i64.wrap ((IntKind.i64.wrap (a1 - a2)) + 64)) 64)] rfl (by cases someE h; rfl) (by decide) outs_nil)))))
    · refine w_cf (congrArg AV.bool b9) ?_
      simp only [b9, Bool.not_true, Bool.not_false]
      refine w_sreg (w_abs [(1, .int .i64 a1), (2, .int .i64 a2), (7, .int .i64 a0), (21, .bool (a0 == 2))] (fun P hP => ?_) ?_)
      · simp only [W0.down, Nat.reduceEqDiff, ↓reduceIte, reduceCtorEq, Nat.reduceAdd, Nat.reduceSub, Nat.reduceMul, Nat.reduceLeDiff, Nat.reduceBEq, Nat.reduceLT, if_true, if_false, beq_self_eq_true, BEq.rfl, ne_eq]
        (try simp only [WN.down, Nat.reduceAdd, if_true, if_false, ↓reduceIte] at hP)
        (try simp only [WN.down, Nat.reduceAdd, if_true, if_false, ↓reduceIte])
        exact hP
      rcases condE h with ⟨b12, h⟩ | ⟨b12, h⟩
      · refine w_ct (congrArg AV.bool b12) ?_
        simp only [b12, Bool.not_true, Bool.not_false]
        refine w_sreg (w_abs [(6, .int .i64 (Int.tmod (IntKind.i64.wrap (a1 * a2)) 64))] (fun P hP => ?_) ?_)
        · simp only [W0.down, Nat.reduceEqDiff, ↓reduceIte, reduceCtorEq, Nat.reduceAdd, Nat.reduceSub, Nat.reduceMul, Nat.reduceLeDiff, Nat.reduceBEq, Nat.reduceLT, if_true, if_false, beq_self_eq_true, BEq.rfl, ne_eq, @bnI_rem' .i64 64 (by decide)]
          (try simp only [WN.down, Nat.reduceAdd, if_true, if_false, ↓reduceIte, @bnI_rem' .i64 64 (by decide)] at hP)
          (try simp only [WN.down, Nat.reduceAdd, if_true, if_false, ↓reduceIte, @bnI_rem' .i64 64 (by decide)])
          exact hP
        exact w_ret (q4 _ (q2 _ (r0 _ (.inl (w_fin [.int .i64 (Int.tmod (IntKind.i64.wrap (a1 * a2)) 64)] rfl (by cases someE h; rfl) (by decide) outs_nil)))))
      · refine w_cf (congrArg AV.bool b12) ?_
        simp only [b12, Bool.not_true, Bool.not_false]
        refine w_sreg (w_abs [(1, .int .i64 a1), (2, .int .i64 a2), (7, .int .i64 a0), (27, .bool (a0 == 3))] (fun P hP => ?_) ?_)
        · simp only [W0.down, Nat.reduceEqDiff, ↓reduceIte, reduceCtorEq, Nat.reduceAdd, Nat.reduceSub, Nat.reduceMul, Nat.reduceLeDiff, Nat.reduceBEq, Nat.reduceLT, if_true, if_false, beq_self_eq_true, BEq.rfl, ne_eq]
          (try simp only [WN.down, Nat.reduceAdd, if_true, if_false, ↓reduceIte] at hP)
          (try simp only [WN.down, Nat.reduceAdd, if_true, if_false, ↓reduceIte])
          exact hP
        rcases condE h with ⟨b15, h⟩ | ⟨b15, h⟩
        · refine w_ct (congrArg AV.bool b15) ?_
          simp only [b15, Bool.not_true, Bool.not_false]
          obtain ⟨x1, e17, h⟩ := bindE h
          refine w_sreg (w_abs [(6, .int .i64 x1)] (fun P hP => ?_) ?_)
          · simp only [W0.down, Nat.reduceEqDiff, ↓reduceIte, reduceCtorEq, Nat.reduceAdd, Nat.reduceSub, Nat.reduceMul, Nat.reduceLeDiff, Nat.reduceBEq, Nat.reduceLT, if_true, if_false, beq_self_eq_true, BEq.rfl, ne_eq]
            refine w_call0 (ok_impl_truth (a1 == a2) _ e17) rfl rfl rfl rfl (.inl (by rfl)) ?_
            simp only [W0.down, Nat.reduceEqDiff, ↓reduceIte, reduceCtorEq, Nat.reduceAdd, Nat.reduceSub, Nat.reduceMul, Nat.reduceLeDiff, Nat.reduceBEq, Nat.reduceLT, if_true, if_false, beq_self_eq_true, BEq.rfl, ne_eq]
            (try simp only [WN.down, Nat.reduceAdd, if_true, if_false, ↓reduceIte] at hP)
            (try simp only [WN.down, Nat.reduceAdd, if_true, if_false, ↓reduceIte])
            exact hP
          exact w_ret (q4 _ (q2 _ (r0 _ (.inl (w_fin [.int .i64 x1] rfl (by cases someE h; rfl) (by decide) outs_nil)))))
        · refine w_cf (congrArg AV.bool b15) ?_
          simp only [b15, Bool.not_true, Bool.not_false]
          refine w_sreg (w_abs [(1, .int .i64 a1), (2, .int .i64 a2), (7, .int .i64 a0), (33, .bool (a0 == 4))] (fun P hP => ?_) ?_)
          · simp only [W0.down, Nat.reduceEqDiff, ↓reduceIte, reduceCtorEq, Nat.reduceAdd, Nat.reduceSub, Nat.reduceMul, Nat.reduceLeDiff, Nat.reduceBEq, Nat.reduceLT, if_true, if_false, beq_self_eq_true, BEq.rfl, ne_eq]
            (try simp only [WN.down, Nat.reduceAdd, if_true, if_false, ↓reduceIte] at hP)
            (try simp only [WN.down, Nat.reduceAdd, if_true, if_false, ↓reduceIte])
            exact hP
          rcases condE h with ⟨b19, h⟩ | ⟨b19, h⟩
          · refine w_ct (congrArg AV.bool b19) ?_
            simp only [b19, Bool.not_true, Bool.not_false]
            obtain ⟨x2, e21, h⟩ := bindE h
            refine w_sreg (w_abs [(6, .int .i64 x2)] (fun P hP => ?_) ?_)
            · simp only [W0.down, Nat.reduceEqDiff, ↓reduceIte, reduceCtorEq, Nat.reduceAdd, Nat.reduceSub, Nat.reduceMul, Nat.reduceLeDiff, Nat.reduceBEq, Nat.reduceLT, if_true, if_false, beq_self_eq_true, BEq.rfl, ne_eq]
              refine w_call0 (ok_impl_truth (a1 != a2) _ e21) rfl rfl rfl rfl (.inl (by rfl)) ?_
              simp only [W0.down, Nat.reduceEqDiff, ↓reduceIte, reduceCtorEq, Nat.reduceAdd, Nat.reduceSub, Nat.reduceMul, Nat.reduceLeDiff, Nat.reduceBEq, Nat.reduceLT, if_true, if_false, beq_self_eq_true, BEq.rfl, ne_eq]
              (try simp only [WN.down, Nat.reduceAdd, if_true, if_false, ↓reduceIte] at hP)
              (try simp only [WN.down, Nat.reduceAdd, if_true, if_false, ↓reduceIte])
              exact hP
            exact w_ret (q4 _ (q2 _ (r0 _ (.inl (w_fin [.int .i64 x2] rfl (by cases someE h; rfl) (by decide) outs_nil)))))
          · refine w_cf (congrArg AV.bool b19) ?_
            simp only [b19, Bool.not_true, Bool.not_false]
            refine w_sreg (w_abs [(1, .int .i64 a1), (2, .int .i64 a2), (7, .int .i64 a0), (39, .bool (a0 == 5))] (fun P hP => ?_) ?_)
            · simp only [W0.down, Nat.reduceEqDiff, ↓reduceIte, reduceCtorEq, Nat.reduceAdd, Nat.reduceSub, Nat.reduceMul, Nat.reduceLeDiff, Nat.reduceBEq, Nat.reduceLT, if_true, if_false, beq_self_eq_true, BEq.rfl, ne_eq]
              (try simp only [WN.down, Nat.reduceAdd, if_true, if_false, ↓reduceIte] at hP)
              (try simp only [WN.down, Nat.reduceAdd, if_true, if_false, ↓reduceIte])
              exact hP
            rcases condE h with ⟨b23, h⟩ | ⟨b23, h⟩
            · refine w_ct (congrArg AV.bool b23) ?_
              simp only [b23, Bool.not_true, Bool.not_false]
              obtain ⟨x3, e25, h⟩ := bindE h
              refine w_sreg (w_abs [(6, .int .i64 x3)] (fun P hP => ?_) ?_)
              · simp only [W0.down, Nat.reduceEqDiff, ↓reduceIte, reduceCtorEq, Nat.reduceAdd, Nat.reduceSub, Nat.reduceMul, Nat.reduceLeDiff, Nat.reduceBEq, Nat.reduceLT, if_true, if_false, beq_self_eq_true, BEq.rfl, ne_eq]
                refine w_call0 (ok_impl_truth (decide (a1 < a2)) _ e25) rfl rfl rfl rfl (.inl (by rfl)) ?_
                simp only [W0.down, Nat.reduceEqDiff, ↓reduceIte, reduceCtorEq, Nat.reduceAdd, Nat.reduceSub, Nat.reduceMul, Nat.reduceLeDiff, Nat.reduceBEq, Nat.reduceLT, if_true, if_false, beq_self_eq_true, BEq.rfl, ne_eq]
                (try simp only [WN.down, Nat.reduceAdd, if_true, if_false, ↓reduceIte] at hP)
                (try simp only [WN.down, Nat.reduceAdd, if_true, if_false, ↓reduceIte])
                exact hP
              exact w_ret (q4 _ (q2 _ (r0 _ (.inl (w_fin [.int .i64 x3] rfl (by cases someE h; rfl) (by decide) outs_nil)))))
            · refine w_cf (congrArg AV.bool b23) ?_
              simp only [b23, Bool.not_true, Bool.not_false]
              refine w_sreg (w_abs [(1, .int .i64 a1), (2, .int .i64 a2), (7, .int .i64 a0), (45, .bool (a0 == 6))] (fun P hP => ?_) ?_)
              · simp only [W0.down, Nat.reduceEqDiff, ↓reduceIte, reduceCtorEq, Nat.reduceAdd, Nat.reduceSub, Nat.reduceMul, Nat.reduceLeDiff, Nat.reduceBEq, Nat.reduceLT, if_true, if_false, beq_self_eq_true, BEq.rfl, ne_eq]
                (try simp only [WN.down, Nat.reduceAdd, if_true, if_false, ↓reduceIte] at hP)
                (try simp only [WN.down, Nat.reduceAdd, if_true, if_false, ↓reduceIte])
                exact hP
              rcases condE h with ⟨b27, h⟩ | ⟨b27, h⟩
              · refine w_ct (congrArg AV.bool b27) ?_
                simp only [b27, Bool.not_true, Bool.not_false]
                obtain ⟨x4, e29, h⟩ := bindE h
                refine w_sreg (w_abs [(6, .int .i64 x4)] (fun P hP => ?_) ?_)
                · simp only [W0.down, Nat.reduceEqDiff, ↓reduceIte, reduceCtorEq, Nat.reduceAdd, Nat.reduceSub, Nat.reduceMul, Nat.reduceLeDiff, Nat.reduceBEq, Nat.reduceLT, if_true, if_false, beq_self_eq_true, BEq.rfl, ne_eq]
                  refine w_call0 (ok_impl_truth (decide (a1 ≤ a2)) _ e29) rfl rfl rfl rfl (.inl (by rfl)) ?_
                  simp only [W0.down, Nat.reduceEqDiff, ↓reduceIte, reduceCtorEq, Nat.reduceAdd, Nat.reduceSub, Nat.reduceMul, Nat.reduceLeDiff, Nat.reduceBEq, Nat.reduceLT, if_true, if_false, beq_self_eq_true, BEq.rfl, ne_eq]
                  (try simp only [WN.down, Nat.reduceAdd, if_true, if_false, ↓reduceIte] at hP)
                  (try simp only [WN.down, Nat.reduceAdd, if_true, if_false, ↓reduceIte])
                  exact hP
                exact w_ret (q4 _ (q2 _ (r0 _ (.inl (w_fin [.int .i64 x4] rfl (by cases someE h; rfl) (by decide) outs_nil)))))
              · refine w_cf (congrArg AV.bool b27) ?_
                simp only [b27, Bool.not_true, Bool.not_false]
                refine w_sreg (w_abs [(1, .int .i64 a1), (2, .int .i64 a2), (51, .bool (a0 == 7))] (fun P hP => ?_) ?_)
                · simp only [W0.down, Nat.reduceEqDiff, ↓reduceIte, reduceCtorEq, Nat.reduceAdd, Nat.reduceSub, Nat.reduceMul, Nat.reduceLeDiff, Nat.reduceBEq, Nat.reduceLT, if_true, if_false, beq_self_eq_true, BEq.rfl, ne_eq]
                  (try simp only [WN.down, Nat.reduceAdd, if_true, if_false, ↓reduceIte] at hP)
                  (try simp only [WN.down, Nat.reduceAdd, if_true, if_false, ↓reduceIte])
                  exact hP
                rcases condE h with ⟨b31, h⟩ | ⟨b31, h⟩
                · refine w_ct (congrArg AV.bool b31) ?_
                  simp only [b31, Bool.not_true, Bool.not_false]
                  rcases condE h with ⟨b33, h⟩ | ⟨b33, h⟩
                  · obtain ⟨x5, e34, h⟩ := bindE h
                    refine w_sreg (w_abs [(6, .int .i64 x5)] (fun P hP => ?_) ?_)
                    · simp only [W0.down, Nat.reduceEqDiff, ↓reduceIte, reduceCtorEq, Nat.reduceAdd, Nat.reduceSub, Nat.reduceMul, Nat.reduceLeDiff, Nat.reduceBEq, Nat.reduceLT, if_true, if_false, beq_self_eq_true, BEq.rfl, ne_eq, b33]
                      refine w_call0 (ok_impl_truth (a2 != 0) _ e34) rfl rfl rfl rfl (.inl (by rfl)) ?_
                      simp only [W0.down, Nat.reduceEqDiff, ↓reduceIte, reduceCtorEq, Nat.reduceAdd, Nat.reduceSub, Nat.reduceMul, Nat.reduceLeDiff, Nat.reduceBEq, Nat.reduceLT, if_true, if_false, beq_self_eq_true, BEq.rfl, ne_eq, b33]
                      (try simp only [WN.down, Nat.reduceAdd, if_true, if_false, ↓reduceIte, b33] at hP)
                      (try simp only [WN.down, Nat.reduceAdd, if_true, if_false, ↓reduceIte, b33])
                      exact hP
                    exact w_ret (q4 _ (q2 _ (r0 _ (.inl (w_fin [.int .i64 x5] rfl (by cases someE h; rfl) (by decide) outs_nil)))))
                  · obtain ⟨x6, e35, h⟩ := bindE h
                    refine w_sreg (w_abs [(6, .int .i64 x6)] (fun P hP => ?_) ?_)
                    · simp only [W0.down, Nat.reduceEqDiff, ↓reduceIte, reduceCtorEq, Nat.reduceAdd, Nat.reduceSub, Nat.reduceMul, Nat.reduceLeDiff, Nat.reduceBEq, Nat.reduceLT, if_true, if_false, beq_self_eq_true, BEq.rfl, ne_eq, b33]
                      refine w_call0 (ok_impl_truth false _ e35) rfl rfl rfl rfl (.inl (by rfl)) ?_
                      simp only [W0.down, Nat.reduceEqDiff, ↓reduceIte, reduceCtorEq, Nat.reduceAdd, Nat.reduceSub, Nat.reduceMul, Nat.reduceLeDiff, Nat.reduceBEq, Nat.reduceLT, if_true, if_false, beq_self_eq_true, BEq.rfl, ne_eq, b33]
                      (try simp only [WN.down, Nat.reduceAdd, if_true, if_false, ↓reduceIte, b33] at hP)
                      (try simp only [WN.down, Nat.reduceAdd, if_true, if_false, ↓reduceIte, b33])
                      exact hP
                    exact w_ret (q4 _ (q2 _ (r0 _ (.inl (w_fin [.int .i64 x6] rfl (by cases someE h; rfl) (by decide) outs_nil)))))
                · refine w_cf (congrArg AV.bool b31) ?_
                  simp only [b31, Bool.not_true, Bool.not_false]
                  refine w_skip (n4 _ (n2 _ (.inl ?_)))
                  rcases condE h with ⟨b37, h⟩ | ⟨b37, h⟩
                  · obtain ⟨x7, e38, h⟩ := bindE h
                    refine w_sreg (w_abs [(6, .int .i64 x7)] (fun P hP => ?_) ?_)
                    · simp only [W0.down, Nat.reduceEqDiff, ↓reduceIte, reduceCtorEq, Nat.reduceAdd, Nat.reduceSub, Nat.reduceMul, Nat.reduceLeDiff, Nat.reduceBEq, Nat.reduceLT, if_true, if_false, beq_self_eq_true, BEq.rfl, ne_eq, b37]
                      refine w_call0 (ok_impl_truth true _ e38) rfl rfl rfl rfl (.inl (by rfl)) ?_
                      simp only [W0.down, Nat.reduceEqDiff, ↓reduceIte, reduceCtorEq, Nat.reduceAdd, Nat.reduceSub, Nat.reduceMul, Nat.reduceLeDiff, Nat.reduceBEq, Nat.reduceLT, if_true, if_false, beq_self_eq_true, BEq.rfl, ne_eq, b37]
                      (try simp only [WN.down, Nat.reduceAdd, if_true, if_false, ↓reduceIte, b37] at hP)
                      (try simp only [WN.down, Nat.reduceAdd, if_true, if_false, ↓reduceIte, b37])
                      exact hP
                    exact w_ret (r0 _ (.inl (w_fin [.int .i64 x7] rfl (by cases someE h; rfl) (by decide) outs_nil)))
                  · obtain ⟨x8, e39, h⟩ := bindE h
                    refine w_sreg (w_abs [(6, .int .i64 x8)] (fun P hP => ?_) ?_)
                    · simp only [W0.down, Nat.reduceEqDiff, ↓reduceIte, reduceCtorEq, Nat.reduceAdd, Nat.reduceSub, Nat.reduceMul, Nat.reduceLeDiff, Nat.reduceBEq, Nat.reduceLT, if_true, if_false, beq_self_eq_true, BEq.rfl, ne_eq, b37]
                      refine w_call0 (ok_impl_truth (a2 != 0) _ e39) rfl rfl rfl rfl (.inl (by rfl)) ?_
                      simp only [W0.down, Nat.reduceEqDiff, ↓reduceIte, reduceCtorEq, Nat.reduceAdd, Nat.reduceSub, Nat.reduceMul, Nat.reduceLeDiff, Nat.reduceBEq, Nat.reduceLT, if_true, if_false, beq_self_eq_true, BEq.rfl, ne_eq, b37]
                      (try simp only [WN.down, Nat.reduceAdd, if_true, if_false, ↓reduceIte, b37] at hP)
                      (try simp only [WN.down, Nat.reduceAdd, if_true, if_false, ↓reduceIte, b37])
                      exact hP
                    exact w_ret (r0 _ (.inl (w_fin [.int .i64 x8] rfl (by cases someE h; rfl) (by decide) outs_nil)))

theorem ok_impl_expr_value_f (rec26 : impl_expr → (List Int) → Option Int) (hrec26 : ∀ (a0 : impl_expr) (a1 : List Int) (r : Int), rec26 a0 a1 = some r → OkAt Cc 203 [.ref (e_impl_expr a0), .slice (a1.map e_i64)] (.int .i64 r) []) (a0 : impl_expr) (a1 : List Int) (r : Int) (h : impl_expr_value_f rec26 a0 a1 = some r) : OkAt Cc 203 [.ref (e_impl_expr a0), .slice (a1.map e_i64)] (.int .i64 r) [] := by
  refine OkAt.of_wpQ (fx := [0, 1]) Cc_ok Try.func203 rfl rfl s203 (Nat.le_of_ble_eq_true rfl) (fun Q0 r0 n0 => ?_)
  replace r0 : ∀ s, onW (Fw.Ends Cc [0, 1] [.tmp 4] (.int .i64 r) []) s → Q0 .ret s := r0
  replace n0 : ∀ s, onW (Fw.Ends Cc [0, 1] [.tmp 4] (.int .i64 r) []) s → Q0 .normal s := n0
  show wpC Cc c203 Q0 (stA [(0, .ref (e_impl_expr a0)), (1, .slice (a1.map e_i64))])
  refine w_sreg (w_abs [(0, .ref (e_impl_expr a0)), (1, .slice (a1.map e_i64))] (fun P hP => ?_) ?_)
  · simp only [W0.down, Nat.reduceEqDiff, ↓reduceIte, reduceCtorEq, Nat.reduceAdd, Nat.reduceSub, Nat.reduceMul, Nat.reduceLeDiff, Nat.reduceBEq, Nat.reduceLT, if_true, if_false, beq_self_eq_true, BEq.rfl, ne_eq, e_i64, e_impl_Term, e_impl_expr_eq, impl_expr_pj, e_p_impl_expr]
    (try simp only [WN.down, Nat.reduceAdd, if_true, if_false, ↓reduceIte, e_i64, e_impl_Term, e_impl_expr_eq, impl_expr_pj, e_p_impl_expr] at hP)
    (try simp only [WN.down, Nat.reduceAdd, if_true, if_false, ↓reduceIte, e_i64, e_impl_Term, e_impl_expr_eq, impl_expr_pj, e_p_impl_expr])
    exact hP
  refine w_seq (fun Q2 n2 q2 x2 => ?_)
  refine w_sreg (w_abs [(0, .ref (e_impl_expr a0)), (1, .slice (a1.map e_i64)), (9, .int .i64 a0.term.Kind)] (fun P hP => ?_) ?_)
  · simp only [W0.down, Nat.reduceEqDiff, ↓reduceIte, reduceCtorEq, Nat.reduceAdd, Nat.reduceSub, Nat.reduceMul, Nat.reduceLeDiff, Nat.reduceBEq, Nat.reduceLT, if_true, if_false, beq_self_eq_true, BEq.rfl, ne_eq, tt2, tt131, tt134, tt137, tt139, e_i64, e_impl_Term, e_impl_expr_eq, impl_expr_pj, e_p_impl_expr]
    (try simp only [WN.down, Nat.reduceAdd, if_true, if_false, ↓reduceIte, tt2, tt131, tt134, tt137, tt139, e_i64, e_impl_Term, e_impl_expr_eq, impl_expr_pj, e_p_impl_expr] at hP)
    (try simp only [WN.down, Nat.reduceAdd, if_true, if_false, ↓reduceIte, tt2, tt131, tt134, tt137, tt139, e_i64, e_impl_Term, e_impl_expr_eq, impl_expr_pj, e_p_impl_expr])
    exact hP
  refine w_blk (fun Q4 n4 q4 b4 x4 => ?_)
  refine w_sreg (w_abs [(0, .ref (e_impl_expr a0)), (1, .slice (a1.map e_i64)), (9, .int .i64 a0.term.Kind), (10, .bool (a0.term.Kind == 0))] (fun P hP => ?_) ?_)
  · simp only [W0.down, Nat.reduceEqDiff, ↓reduceIte, reduceCtorEq, Nat.reduceAdd, Nat.reduceSub, Nat.reduceMul, Nat.reduceLeDiff, Nat.reduceBEq, Nat.reduceLT, if_true, if_false, beq_self_eq_true, BEq.rfl, ne_eq, e_i64, e_impl_Term, e_impl_expr_eq, impl_expr_pj, e_p_impl_expr]
    (try simp only [WN.down, Nat.reduceAdd, if_true, if_false, ↓reduceIte, e_i64, e_impl_Term, e_impl_expr_eq, impl_expr_pj, e_p_impl_expr] at hP)
    (try simp only [WN.down, Nat.reduceAdd, if_true, if_false, ↓reduceIte, e_i64, e_impl_Term, e_impl_expr_eq, impl_expr_pj, e_p_impl_expr])
    exact hP
  rcases condE h with ⟨b6, h⟩ | ⟨b6, h⟩
  · refine w_ct (congrArg AV.bool b6) ?_
    simp only [b6, Bool.not_true, Bool.not_false]
    refine w_sreg (w_abs [(4, .int .i64 a0.term.Value)] (fun P hP => ?_) ?_)
    · simp only [W0.down, Nat.reduceEqDiff, ↓reduceIte, reduceCtorEq, Nat.reduceAdd, Nat.reduceSub, Nat.reduceMul, Nat.reduceLeDiff, Nat.reduceBEq, Nat.reduceLT, if_true, if_false, beq_self_eq_true, BEq.rfl, ne_eq, tt2, tt131, tt134, tt137, tt139, e_i64, e_impl_Term, e_impl_expr_eq, impl_expr_pj, e_p_impl_expr]
      (try simp only [WN.down, Nat.reduceAdd, if_true, if_false, ↓reduceIte, tt2, tt131, tt134, tt137, tt139, e_i64, e_impl_Term, e_impl_expr_eq, impl_expr_pj, e_p_impl_expr] at hP)
      (try simp only [WN.down, Nat.reduceAdd, if_true, if_false, ↓reduceIte, tt2, tt131, tt134, tt137, tt139, e_i64, e_impl_Term, e_impl_expr_eq, impl_expr_pj, e_p_impl_expr])
      exact hP
    exact w_ret (q4 _ (q2 _ (r0 _ (.inl (w_fin [.int .i64 a0.term.Value] rfl (by cases someE h; rfl) (by decide) outs_nil)))))
  · refine w_cf (congrArg AV.bool b6) ?_
    simp only [b6, Bool.not_true, Bool.not_false]
    refine w_sreg (w_abs [(0, .ref (e_impl_expr a0)), (1, .slice (a1.map e_i64)), (9, .int .i64 a0.term.Kind), (17, .bool (a0.term.Kind == 1))] (fun P hP => ?_) ?_)
    · simp only [W0.down, Nat.reduceEqDiff, ↓reduceIte, reduceCtorEq, Nat.reduceAdd, Nat.reduceSub, Nat.reduceMul, Nat.reduceLeDiff, Nat.reduceBEq, Nat.reduceLT, if_true, if_false, beq_self_eq_true, BEq.rfl, ne_eq, e_i64, e_impl_Term, e_impl_expr_eq, impl_expr_pj, e_p_impl_expr]
      (try simp only [WN.down, Nat.reduceAdd, if_true, if_false, ↓reduceIte, e_i64, e_impl_Term, e_impl_expr_eq, impl_expr_pj, e_p_impl_expr] at hP)
      (try simp only [WN.down, Nat.reduceAdd, if_true, if_false, ↓reduceIte, e_i64, e_impl_Term, e_impl_expr_eq, impl_expr_pj, e_p_impl_expr])
      exact hP
    rcases condE h with ⟨b9, h⟩ | ⟨b9, h⟩
    · refine w_ct (congrArg AV.bool b9) ?_
      simp only [b9, Bool.not_true, Bool.not_false]
      obtain ⟨x1, e11, h⟩ := bindE h
      refine w_sreg (w_abs [(4, .int .i64 x1)] (fun P hP => ?_) ?_)
      · simp only [W0.down, Nat.reduceEqDiff, ↓reduceIte, reduceCtorEq, Nat.reduceAdd, Nat.reduceSub, Nat.reduceMul, Nat.reduceLeDiff, Nat.reduceBEq, Nat.reduceLT, if_true, if_false, beq_self_eq_true, BEq.rfl, ne_eq, tt2, tt68, tt131, tt134, tt137, tt139, e_i64, e_impl_Term, e_impl_expr_eq, impl_expr_pj, e_p_impl_expr, e11]
        (try simp only [WN.down, Nat.reduceAdd, if_true, if_false, ↓reduceIte, tt2, tt68, tt131, tt134, tt137, tt139, e_i64, e_impl_Term, e_impl_expr_eq, impl_expr_pj, e_p_impl_expr, e11] at hP)
        (try simp only [WN.down, Nat.reduceAdd, if_true, if_false, ↓reduceIte, tt2, tt68, tt131, tt134, tt137, tt139, e_i64, e_impl_Term, e_impl_expr_eq, impl_expr_pj, e_p_impl_expr, e11])
        exact hP
      exact w_ret (q4 _ (q2 _ (r0 _ (.inl (w_fin [.int .i64 x1] rfl (by cases someE h; rfl) (by decide) outs_nil)))))
    · refine w_cf (congrArg AV.bool b9) ?_
      simp only [b9, Bool.not_true, Bool.not_false]
      refine w_sreg (w_abs [(0, .ref (e_impl_expr a0)), (1, .slice (a1.map e_i64)), (27, .bool (a0.term.Kind == 3))] (fun P hP => ?_) ?_)
      · simp only [W0.down, Nat.reduceEqDiff, ↓reduceIte, reduceCtorEq, Nat.reduceAdd, Nat.reduceSub, Nat.reduceMul, Nat.reduceLeDiff, Nat.reduceBEq, Nat.reduceLT, if_true, if_false, beq_self_eq_true, BEq.rfl, ne_eq, e_i64, e_impl_Term, e_impl_expr_eq, impl_expr_pj, e_p_impl_expr]
        (try simp only [WN.down, Nat.reduceAdd, if_true, if_false, ↓reduceIte, e_i64, e_impl_Term, e_impl_expr_eq, impl_expr_pj, e_p_impl_expr] at hP)
        (try simp only [WN.down, Nat.reduceAdd, if_true, if_false, ↓reduceIte, e_i64, e_impl_Term, e_impl_expr_eq, impl_expr_pj, e_p_impl_expr])
        exact hP
      rcases condE h with ⟨b13, h⟩ | ⟨b13, h⟩
      · refine w_ct (congrArg AV.bool b13) ?_
        simp only [b13, Bool.not_true, Bool.not_false]
        obtain ⟨x2, e15, h⟩ := bindE h
        obtain ⟨x3, e16, h⟩ := bindE h
        obtain ⟨x4, e17, h⟩ := bindE h
        refine w_sreg (w_abs [(4, .int .i64 x4)] (fun P hP => ?_) ?_)
        · simp only [W0.down, Nat.reduceEqDiff, ↓reduceIte, reduceCtorEq, Nat.reduceAdd, Nat.reduceSub, Nat.reduceMul, Nat.reduceLeDiff, Nat.reduceBEq, Nat.reduceLT, if_true, if_false, beq_self_eq_true, BEq.rfl, ne_eq, tt2, tt131, tt134, tt137, tt139, e_i64, e_impl_Term, e_impl_expr_eq, impl_expr_pj, e_p_impl_expr, e15]
          refine w_call0 (hrec26 x2 a1 _ e16) rfl rfl (by simp only [W0.down, Nat.reduceEqDiff, ↓reduceIte, reduceCtorEq, Nat.reduceAdd, Nat.reduceSub, Nat.reduceMul, Nat.reduceLeDiff, Nat.reduceBEq, Nat.reduceLT, if_true, if_false, beq_self_eq_true, BEq.rfl, ne_eq, tt2, tt131, tt134, tt137, tt139, e_i64, e_impl_Term, e_impl_expr_eq, impl_expr_pj, e_p_impl_expr, e15, view_s, view_h, viewH_s, share_s]) rfl (.inl (by rfl)) ?_
          simp only [W0.down, Nat.reduceEqDiff, ↓reduceIte, reduceCtorEq, Nat.reduceAdd, Nat.reduceSub, Nat.reduceMul, Nat.reduceLeDiff, Nat.reduceBEq, Nat.reduceLT, if_true, if_false, beq_self_eq_true, BEq.rfl, ne_eq, tt2, tt131, tt134, tt137, tt139, e_i64, e_impl_Term, e_impl_expr_eq, impl_expr_pj, e_p_impl_expr, e15]
          refine w_call0 (ok_impl_truth (x3 == 0) _ e17) rfl rfl rfl rfl (.inl (by rfl)) ?_
          simp only [W0.down, Nat.reduceEqDiff, ↓reduceIte, reduceCtorEq, Nat.reduceAdd, Nat.reduceSub, Nat.reduceMul, Nat.reduceLeDiff, Nat.reduceBEq, Nat.reduceLT, if_true, if_false, beq_self_eq_true, BEq.rfl, ne_eq, tt2, tt131, tt134, tt137, tt139, e_i64, e_impl_Term, e_impl_expr_eq, impl_expr_pj, e_p_impl_expr, e15]
          (try simp only [WN.down, Nat.reduceAdd, if_true, if_false, ↓reduceIte, tt2, tt131, tt134, tt137, tt139, e_i64, e_impl_Term, e_impl_expr_eq, impl_expr_pj, e_p_impl_expr, e15] at hP)
          (try simp only [WN.down, Nat.reduceAdd, if_true, if_false, ↓reduceIte, tt2, tt131, tt134, tt137, tt139, e_i64, e_impl_Term, e_impl_expr_eq, impl_expr_pj, e_p_impl_expr, e15])
          exact hP
        exact w_ret (q4 _ (q2 _ (r0 _ (.inl (w_fin [.int .i64 x4] rfl (by cases someE h; rfl) (by decide) outs_nil)))))
      · refine w_cf (congrArg AV.bool b13) ?_
        simp only [b13, Bool.not_true, Bool.not_false]
        refine w_skip (n4 _ (n2 _ (.inl ?_)))
        obtain ⟨x5, e19, h⟩ := bindE h
        obtain ⟨x6, e20, h⟩ := bindE h
        obtain ⟨x7, e21, h⟩ := bindE h
        obtain ⟨x8, e22, h⟩ := bindE h
        obtain ⟨x9, e23, h⟩ := bindE h
        refine w_sdrw rfl (w_absd [(4, .int .i64 x9)] (fun P hP => ?_) ?_)
        · simp only [W1.down, Nat.reduceEqDiff, ↓reduceIte, reduceCtorEq, Nat.reduceAdd, Nat.reduceSub, Nat.reduceMul, Nat.reduceLeDiff, Nat.reduceBEq, Nat.reduceLT, if_true, if_false, beq_self_eq_true, BEq.rfl, ne_eq, tt2, tt131, tt134, tt137, tt139, e_i64, e_impl_Term, e_impl_expr_eq, impl_expr_pj, e_p_impl_expr, e19, e21]
          refine w_call1 (hrec26 x5 a1 _ e20) rfl rfl (by simp only [W1.down, Nat.reduceEqDiff, ↓reduceIte, reduceCtorEq, Nat.reduceAdd, Nat.reduceSub, Nat.reduceMul, Nat.reduceLeDiff, Nat.reduceBEq, Nat.reduceLT, if_true, if_false, beq_self_eq_true, BEq.rfl, ne_eq, tt2, tt131, tt134, tt137, tt139, e_i64, e_impl_Term, e_impl_expr_eq, impl_expr_pj, e_p_impl_expr, e19, e21, view_s, view_h, viewH_s, share_s]) rfl (.inl (by rfl)) ?_
          simp only [W1.down, Nat.reduceEqDiff, ↓reduceIte, reduceCtorEq, Nat.reduceAdd, Nat.reduceSub, Nat.reduceMul, Nat.reduceLeDiff, Nat.reduceBEq, Nat.reduceLT, if_true, if_false, beq_self_eq_true, BEq.rfl, ne_eq, tt2, tt131, tt134, tt137, tt139, e_i64, e_impl_Term, e_impl_expr_eq, impl_expr_pj, e_p_impl_expr, e19, e21]
          refine w_call1 (hrec26 x7 a1 _ e22) rfl rfl (by simp only [W1.down, Nat.reduceEqDiff, ↓reduceIte, reduceCtorEq, Nat.reduceAdd, Nat.reduceSub, Nat.reduceMul, Nat.reduceLeDiff, Nat.reduceBEq, Nat.reduceLT, if_true, if_false, beq_self_eq_true, BEq.rfl, ne_eq, tt2, tt131, tt134, tt137, tt139, e_i64, e_impl_Term, e_impl_expr_eq, impl_expr_pj, e_p_impl_expr, e19, e21, view_s, view_h, viewH_s, share_s]) rfl (.inl (by rfl)) ?_
          simp only [W1.down, Nat.reduceEqDiff, ↓reduceIte, reduceCtorEq, Nat.reduceAdd, Nat.reduceSub, Nat.reduceMul, Nat.reduceLeDiff, Nat.reduceBEq, Nat.reduceLT, if_true, if_false, beq_self_eq_true, BEq.rfl, ne_eq, tt2, tt131, tt134, tt137, tt139, e_i64, e_impl_Term, e_impl_expr_eq, impl_expr_pj, e_p_impl_expr, e19, e21]
          refine w_call1 (ok_impl_operate a0.term.Value x6 x8 _ e23) rfl rfl rfl rfl (.inl (by rfl)) ?_
          simp only [W1.down, Nat.reduceEqDiff, ↓reduceIte, reduceCtorEq, Nat.reduceAdd, Nat.reduceSub, Nat.reduceMul, Nat.reduceLeDiff, Nat.reduceBEq, Nat.reduceLT, if_true, if_false, beq_self_eq_true, BEq.rfl, ne_eq, tt2, tt131, tt134, tt137, tt139, e_i64, e_impl_Term, e_impl_expr_eq, impl_expr_pj, e_p_impl_expr, e19, e21]
          refine ⟨by kernel_rfl, ?_⟩
          (try simp only [WN.down, Nat.reduceAdd, if_true, if_false, ↓reduceIte, tt2, tt131, tt134, tt137, tt139, e_i64, e_impl_Term, e_impl_expr_eq, impl_expr_pj, e_p_impl_expr, e19, e21] at hP)
          (try simp only [WN.down, Nat.reduceAdd, if_true, if_false, ↓reduceIte, tt2, tt131, tt134, tt137, tt139, e_i64, e_impl_Term, e_impl_expr_eq, impl_expr_pj, e_p_impl_expr, e19, e21])
          exact hP
        exact w_ret (r0 _ (.inl (w_fin [.int .i64 x9] rfl (by cases someE h; rfl) (by decide) outs_nil)))
theorem ok_impl_expr_value_r  : ∀ (n : Nat) (a0 : impl_expr) (a1 : List Int) (r : Int), impl_expr_value_r  n a0 a1 = some r → OkAt Cc 203 [.ref (e_impl_expr a0), .slice (a1.map e_i64)] (.int .i64 r) [] := by
  intro n
  induction n with
  | zero => intro a0 a1 r h; cases (show none = some r from h)
  | succ n ih => intro a0 a1 r h; exact ok_impl_expr_value_f  (impl_expr_value_r  n) ih a0 a1 r h
theorem ok_impl_expr_value  (a0 : impl_expr) (a1 : List Int) (r : Int) (h : impl_expr_value  a0 a1 = some r) : OkAt Cc 203 [.ref (e_impl_expr a0), .slice (a1.map e_i64)] (.int .i64 r) [] := by
  obtain ⟨n, h⟩ := limE h
  exact ok_impl_expr_value_r  n a0 a1 r h

theorem ok_impl_number  (a0 : Int) (r : Int × Int) (h : impl_number  a0 = some r) : OkAt Cc 202 [.int .i64 a0] (.ubox (.agg [.agg [.int .i64 r.1, .int .i64 r.2], .nils])) [] := by
  refine OkAt.of_wpQ (fx := [0]) Cc_ok Try.func202 rfl rfl s202 (Nat.le_of_ble_eq_true rfl) (fun Q0 r0 n0 => ?_)
  replace r0 : ∀ s, onW (Fw.Ends Cc [0] [.tmp 2] (.ubox (.agg [.agg [.int .i64 r.1, .int .i64 r.2], .nils])) []) s → Q0 .ret s := r0
  replace n0 : ∀ s, onW (Fw.Ends Cc [0] [.tmp 2] (.ubox (.agg [.agg [.int .i64 r.1, .int .i64 r.2], .nils])) []) s → Q0 .normal s := n0
  show wpC Cc c202 Q0 (stA [(0, .int .i64 a0)])
  refine w_sreg (w_abs [(0, .int .i64 a0)] (fun P hP => ?_) ?_)
  · simp only [W0.down, Nat.reduceEqDiff, ↓reduceIte, reduceCtorEq, Nat.reduceAdd, Nat.reduceSub, Nat.reduceMul, Nat.reduceLeDiff, Nat.reduceBEq, Nat.reduceLT, if_true, if_false, beq_self_eq_true, BEq.rfl, ne_eq]
    (try simp only [WN.down, Nat.reduceAdd, if_true, if_false, ↓reduceIte] at hP)
    (try simp only [WN.down, Nat.reduceAdd, if_true, if_false, ↓reduceIte])
    exact hP
  refine w_sreg (w_abs [(2, .ubox (.agg [.agg [.int .i64 0, .int .i64 a0], .nils]))] (fun P hP => ?_) ?_)
  · simp only [W0.down, Nat.reduceEqDiff, ↓reduceIte, reduceCtorEq, Nat.reduceAdd, Nat.reduceSub, Nat.reduceMul, Nat.reduceLeDiff, Nat.reduceBEq, Nat.reduceLT, if_true, if_false, beq_self_eq_true, BEq.rfl, ne_eq, tt2, tt131, tt134, tt137, tt139, (show ∀ s, bld Cc s 131 [(0, .int .i64 0), (1, .int .i64 a0)] = some (.agg [.int .i64 0, .int .i64 a0], s) from fun s => by kernel_rfl), (show ∀ s, bld Cc s 139 [(0, .agg [.int .i64 0, .int .i64 a0])] = some (.agg [.agg [.int .i64 0, .int .i64 a0], .nils], s) from fun s => by kernel_rfl)]
    (try simp only [WN.down, Nat.reduceAdd, if_true, if_false, ↓reduceIte, tt2, tt131, tt134, tt137, tt139, (show ∀ s, bld Cc s 131 [(0, .int .i64 0), (1, .int .i64 a0)] = some (.agg [.int .i64 0, .int .i64 a0], s) from fun s => by kernel_rfl), (show ∀ s, bld Cc s 139 [(0, .agg [.int .i64 0, .int .i64 a0])] = some (.agg [.agg [.int .i64 0, .int .i64 a0], .nils], s) from fun s => by kernel_rfl)] at hP)
    (try simp only [WN.down, Nat.reduceAdd, if_true, if_false, ↓reduceIte, tt2, tt131, tt134, tt137, tt139, (show ∀ s, bld Cc s 131 [(0, .int .i64 0), (1, .int .i64 a0)] = some (.agg [.int .i64 0, .int .i64 a0], s) from fun s => by kernel_rfl), (show ∀ s, bld Cc s 139 [(0, .agg [.int .i64 0, .int .i64 a0])] = some (.agg [.agg [.int .i64 0, .int .i64 a0], .nils], s) from fun s => by kernel_rfl)])
    exact hP
  exact w_ret (r0 _ (.inl (w_fin [.ubox (.agg [.agg [.int .i64 0, .int .i64 a0], .nils])] rfl (by cases someE h; rfl) (by decide) outs_nil)))

theorem ok_impl_expr_fold_f (rec25 : impl_expr → Option impl_expr) (hrec25 : ∀ (a0 : impl_expr) (r : impl_expr), rec25 a0 = some r → OkAt Cc 110 [.ref (e_impl_expr a0)] (.ref (e_impl_expr r)) []) (a0 : impl_expr) (r : impl_expr) (h : impl_expr_fold_f rec25 a0 = some r) : OkAt Cc 110 [.ref (e_impl_expr a0)] (.ref (e_impl_expr r)) [] := by
  refine OkAt.of_wpQ (fx := [0]) Cc_ok Try.func110 rfl rfl s110 (Nat.le_of_ble_eq_true rfl) (fun Q0 r0 n0 => ?_)
  replace r0 : ∀ s, onW (Fw.Ends Cc [0] [.tmp 2] (.ref (e_impl_expr r)) []) s → Q0 .ret s := r0
  replace n0 : ∀ s, onW (Fw.Ends Cc [0] [.tmp 2] (.ref (e_impl_expr r)) []) s → Q0 .normal s := n0
  show wpC Cc c110 Q0 (stA [(0, .ref (e_impl_expr a0))])
  refine w_sreg (w_abs [(0, .ref (e_impl_expr a0))] (fun P hP => ?_) ?_)
  · simp only [W0.down, Nat.reduceEqDiff, ↓reduceIte, reduceCtorEq, Nat.reduceAdd, Nat.reduceSub, Nat.reduceMul, Nat.reduceLeDiff, Nat.reduceBEq, Nat.reduceLT, if_true, if_false, beq_self_eq_true, BEq.rfl, ne_eq, e_impl_Term, e_impl_expr_eq, impl_expr_pj, e_p_impl_expr]
    (try simp only [WN.down, Nat.reduceAdd, if_true, if_false, ↓reduceIte, e_impl_Term, e_impl_expr_eq, impl_expr_pj, e_p_impl_expr] at hP)
    (try simp only [WN.down, Nat.reduceAdd, if_true, if_false, ↓reduceIte, e_impl_Term, e_impl_expr_eq, impl_expr_pj, e_p_impl_expr])
    exact hP
  refine w_seq (fun Q2 n2 q2 x2 => ?_)
  refine w_sreg (w_abs [(0, .ref (e_impl_expr a0)), (13, .bool ((a0.args.length : Int) == 0))] (fun P hP => ?_) ?_)
  · simp only [W0.down, Nat.reduceEqDiff, ↓reduceIte, reduceCtorEq, Nat.reduceAdd, Nat.reduceSub, Nat.reduceMul, Nat.reduceLeDiff, Nat.reduceBEq, Nat.reduceLT, if_true, if_false, beq_self_eq_true, BEq.rfl, ne_eq, tt2, tt131, tt134, tt137, tt139, e_impl_Term, e_impl_expr_eq, impl_expr_pj, e_p_impl_expr]
    (try simp only [WN.down, Nat.reduceAdd, if_true, if_false, ↓reduceIte, tt2, tt131, tt134, tt137, tt139, e_impl_Term, e_impl_expr_eq, impl_expr_pj, e_p_impl_expr] at hP)
    (try simp only [WN.down, Nat.reduceAdd, if_true, if_false, ↓reduceIte, tt2, tt131, tt134, tt137, tt139, e_impl_Term, e_impl_expr_eq, impl_expr_pj, e_p_impl_expr])
    exact hP
  rcases condE h with ⟨b4, h⟩ | ⟨b4, h⟩
  · refine w_ct (congrArg AV.bool b4) ?_
    simp only [b4, Bool.not_true, Bool.not_false]
    refine w_sreg (w_abs [(2, .ref (e_impl_expr a0))] (fun P hP => ?_) ?_)
    · simp only [W0.down, Nat.reduceEqDiff, ↓reduceIte, reduceCtorEq, Nat.reduceAdd, Nat.reduceSub, Nat.reduceMul, Nat.reduceLeDiff, Nat.reduceBEq, Nat.reduceLT, if_true, if_false, beq_self_eq_true, BEq.rfl, ne_eq, e_impl_Term, e_impl_expr_eq, impl_expr_pj, e_p_impl_expr]
      (try simp only [WN.down, Nat.reduceAdd, if_true, if_false, ↓reduceIte, e_impl_Term, e_impl_expr_eq, impl_expr_pj, e_p_impl_expr] at hP)
      (try simp only [WN.down, Nat.reduceAdd, if_true, if_false, ↓reduceIte, e_impl_Term, e_impl_expr_eq, impl_expr_pj, e_p_impl_expr])
      exact hP
    exact w_ret (q2 _ (r0 _ (.inl (w_fin [.ref (e_impl_expr a0)] rfl (by cases someE h; rfl) (by decide) outs_nil))))
  · refine w_cf (congrArg AV.bool b4) ?_
    simp only [b4, Bool.not_true, Bool.not_false]
    refine w_skip (n2 _ (.inl ?_))
    refine w_sreg (w_abs [(0, .ref (e_impl_expr a0)), (3, .ubox (.agg [e_impl_Term a0.term, .nils]))] (fun P hP => ?_) ?_)
    · simp only [W0.down, Nat.reduceEqDiff, ↓reduceIte, reduceCtorEq, Nat.reduceAdd, Nat.reduceSub, Nat.reduceMul, Nat.reduceLeDiff, Nat.reduceBEq, Nat.reduceLT, if_true, if_false, beq_self_eq_true, BEq.rfl, ne_eq, tt2, tt131, tt134, tt137, tt139, e_impl_Term, e_impl_expr_eq, impl_expr_pj, e_p_impl_expr, (show ∀ s, bld Cc s 139 [(0, .agg [.int .i64 a0.term.Kind, .int .i64 a0.term.Value])] = some (.agg [.agg [.int .i64 a0.term.Kind, .int .i64 a0.term.Value], .nils], s) from fun s => by kernel_rfl)]
      (try simp only [WN.down, Nat.reduceAdd, if_true, if_false, ↓reduceIte, tt2, tt131, tt134, tt137, tt139, e_impl_Term, e_impl_expr_eq, impl_expr_pj, e_p_impl_expr, (show ∀ s, bld Cc s 139 [(0, .agg [.int .i64 a0.term.Kind, .int .i64 a0.term.Value])] = some (.agg [.agg [.int .i64 a0.term.Kind, .int .i64 a0.term.Value], .nils], s) from fun s => by kernel_rfl)] at hP)
      (try simp only [WN.down, Nat.reduceAdd, if_true, if_false, ↓reduceIte, tt2, tt131, tt134, tt137, tt139, e_impl_Term, e_impl_expr_eq, impl_expr_pj, e_p_impl_expr, (show ∀ s, bld Cc s 139 [(0, .agg [.int .i64 a0.term.Kind, .int .i64 a0.term.Value])] = some (.agg [.agg [.int .i64 a0.term.Kind, .int .i64 a0.term.Value], .nils], s) from fun s => by kernel_rfl)])
      exact hP
    refine w_sreg (w_abs [(0, .ref (e_impl_expr a0)), (3, .ubox (.agg [e_impl_Term a0.term, .nils])), (4, .bool true)] (fun P hP => ?_) ?_)
    · simp only [W0.down, Nat.reduceEqDiff, ↓reduceIte, reduceCtorEq, Nat.reduceAdd, Nat.reduceSub, Nat.reduceMul, Nat.reduceLeDiff, Nat.reduceBEq, Nat.reduceLT, if_true, if_false, beq_self_eq_true, BEq.rfl, ne_eq, e_impl_Term, e_impl_expr_eq, impl_expr_pj, e_p_impl_expr]
      (try simp only [WN.down, Nat.reduceAdd, if_true, if_false, ↓reduceIte, e_impl_Term, e_impl_expr_eq, impl_expr_pj, e_p_impl_expr] at hP)
      (try simp only [WN.down, Nat.reduceAdd, if_true, if_false, ↓reduceIte, e_impl_Term, e_impl_expr_eq, impl_expr_pj, e_p_impl_expr])
      exact hP
    refine w_seq (fun Q8 n8 q8 x8 => ?_)
    refine w_sreg (w_abs [(3, .ubox (.agg [e_impl_Term a0.term, .nils])), (4, .bool true), (24, .slice (a0.args.map e_p_impl_expr)), (25, .int .i64 (a0.args.length : Int)), (26, .int .i64 0)] (fun P hP => ?_) ?_)
    · simp only [W0.down, Nat.reduceEqDiff, ↓reduceIte, reduceCtorEq, Nat.reduceAdd, Nat.reduceSub, Nat.reduceMul, Nat.reduceLeDiff, Nat.reduceBEq, Nat.reduceLT, if_true, if_false, beq_self_eq_true, BEq.rfl, ne_eq, tt2, tt131, tt134, tt137, tt139, e_impl_Term, e_impl_expr_eq, impl_expr_pj, e_p_impl_expr]
      (try simp only [WN.down, Nat.reduceAdd, if_true, if_false, ↓reduceIte, tt2, tt131, tt134, tt137, tt139, e_impl_Term, e_impl_expr_eq, impl_expr_pj, e_p_impl_expr] at hP)
      (try simp only [WN.down, Nat.reduceAdd, if_true, if_false, ↓reduceIte, tt2, tt131, tt134, tt137, tt139, e_impl_Term, e_impl_expr_eq, impl_expr_pj, e_p_impl_expr])
      exact hP
    refine w_blk (fun Q10 n10 q10 b10 x10 => ?_)
    have L18 : ∀ (n : Nat) (v3_18 : List impl_expr) (v4_18 : Bool) (v26_18 : Int), impl_expr_fold_l18 rec25 a0 n v3_18 v4_18 v26_18 = some r → lpC Cc c110_19 Q10 (stA [(3, .ubox (.agg [e_impl_Term a0.term, .uslice 1 (v3_18.map e_p_impl_expr)])), (4, .bool v4_18), (24, .slice (a0.args.map e_p_impl_expr)), (25, .int .i64 (a0.args.length : Int)), (26, .int .i64 v26_18)]) := by
      intro m18
      induction m18 with
      | zero => intro v3_18 v4_18 v26_18 h; cases (show none = some r from h)
      | succ m18 ih18 =>
        intro v3_18 v4_18 v26_18 h
        replace h : impl_expr_fold_b18 rec25 (impl_expr_fold_l18 rec25 a0 m18) a0 v3_18 v4_18 v26_18 = some r := h
        refine lpC_step (fun Q11 n11 q11 x11 => ?_)
        refine w_sreg (w_abs [(3, .ubox (.agg [e_impl_Term a0.term, .uslice 1 (v3_18.map e_p_impl_expr)])), (4, .bool v4_18), (24, .slice (a0.args.map e_p_impl_expr)), (25, .int .i64 (a0.args.length : Int)), (26, .int .i64 v26_18), (27, .bool (decide (v26_18 < (a0.args.length : Int))))] (fun P hP => ?_) ?_)
        · simp only [W0.down, Nat.reduceEqDiff, ↓reduceIte, reduceCtorEq, Nat.reduceAdd, Nat.reduceSub, Nat.reduceMul, Nat.reduceLeDiff, Nat.reduceBEq, Nat.reduceLT, if_true, if_false, beq_self_eq_true, BEq.rfl, ne_eq, e_impl_Term, e_impl_expr_eq, impl_expr_pj, e_p_impl_expr]
          (try simp only [WN.down, Nat.reduceAdd, if_true, if_false, ↓reduceIte, e_impl_Term, e_impl_expr_eq, impl_expr_pj, e_p_impl_expr] at hP)
          (try simp only [WN.down, Nat.reduceAdd, if_true, if_false, ↓reduceIte, e_impl_Term, e_impl_expr_eq, impl_expr_pj, e_p_impl_expr])
          exact hP
        refine w_seq (fun Q13 n13 q13 x13 => ?_)
        rcases condE h with ⟨b14, h⟩ | ⟨b14, h⟩
        · refine w_ct (congrArg AV.bool b14) ?_
          simp only [b14, Bool.not_true, Bool.not_false]
          refine w_skip (n13 _ (.inl ?_))
          refine w_seq (fun Q15 n15 q15 x15 => ?_)
          refine w_blk (fun Q16 n16 q16 b16 x16 => ?_)
          obtain ⟨x1, e18, h⟩ := bindE h
          refine w_sreg (w_abs [(3, .ubox (.agg [e_impl_Term a0.term, .uslice 1 (v3_18.map e_p_impl_expr)])), (4, .bool v4_18), (6, .ref (e_impl_expr x1)), (24, .slice (a0.args.map e_p_impl_expr)), (25, .int .i64 (a0.args.length : Int)), (26, .int .i64 v26_18)] (fun P hP => ?_) ?_)
          · simp only [W0.down, Nat.reduceEqDiff, ↓reduceIte, reduceCtorEq, Nat.reduceAdd, Nat.reduceSub, Nat.reduceMul, Nat.reduceLeDiff, Nat.reduceBEq, Nat.reduceLT, if_true, if_false, beq_self_eq_true, BEq.rfl, ne_eq, tt134, tt137, e_impl_Term, e_impl_expr_eq, impl_expr_pj, e_p_impl_expr, e18]
            (try simp only [WN.down, Nat.reduceAdd, if_true, if_false, ↓reduceIte, tt134, tt137, e_impl_Term, e_impl_expr_eq, impl_expr_pj, e_p_impl_expr, e18] at hP)
            (try simp only [WN.down, Nat.reduceAdd, if_true, if_false, ↓reduceIte, tt134, tt137, e_impl_Term, e_impl_expr_eq, impl_expr_pj, e_p_impl_expr, e18])
            exact hP
          obtain ⟨x2, e20, h⟩ := bindE h
          refine w_sreg (w_abs [(3, .ubox (.agg [e_impl_Term a0.term, .uslice 1 (v3_18.map e_p_impl_expr)])), (4, .bool v4_18), (7, .ref (e_impl_expr x2)), (24, .slice (a0.args.map e_p_impl_expr)), (25, .int .i64 (a0.args.length : Int)), (26, .int .i64 v26_18)] (fun P hP => ?_) ?_)
          · simp only [W0.down, Nat.reduceEqDiff, ↓reduceIte, reduceCtorEq, Nat.reduceAdd, Nat.reduceSub, Nat.reduceMul, Nat.reduceLeDiff, Nat.reduceBEq, Nat.reduceLT, if_true, if_false, beq_self_eq_true, BEq.rfl, ne_eq, e_impl_Term, e_impl_expr_eq, impl_expr_pj, e_p_impl_expr]
            refine w_call0 (hrec25 x1 _ e20) rfl rfl (by simp only [W0.down, Nat.reduceEqDiff, ↓reduceIte, reduceCtorEq, Nat.reduceAdd, Nat.reduceSub, Nat.reduceMul, Nat.reduceLeDiff, Nat.reduceBEq, Nat.reduceLT, if_true, if_false, beq_self_eq_true, BEq.rfl, ne_eq, e_impl_Term, e_impl_expr_eq, impl_expr_pj, e_p_impl_expr, view_s, view_h, viewH_s, share_s]) rfl (.inl (by rfl)) ?_
            simp only [W0.down, Nat.reduceEqDiff, ↓reduceIte, reduceCtorEq, Nat.reduceAdd, Nat.reduceSub, Nat.reduceMul, Nat.reduceLeDiff, Nat.reduceBEq, Nat.reduceLT, if_true, if_false, beq_self_eq_true, BEq.rfl, ne_eq, e_impl_Term, e_impl_expr_eq, impl_expr_pj, e_p_impl_expr]
            (try simp only [WN.down, Nat.reduceAdd, if_true, if_false, ↓reduceIte, e_impl_Term, e_impl_expr_eq, impl_expr_pj, e_p_impl_expr] at hP)
            (try simp only [WN.down, Nat.reduceAdd, if_true, if_false, ↓reduceIte, e_impl_Term, e_impl_expr_eq, impl_expr_pj, e_p_impl_expr])
            exact hP
          obtain ⟨u25, e22, h⟩ := bindE h
          (try simp only [List.length_append, List.length_cons, List.length_nil, List.length_map, List.length_replicate, Nat.zero_add, Nat.add_zero, Nat.reduceAdd] at e22)
          refine w_sreg (w_abs [(3, .ubox (.agg [e_impl_Term a0.term, .uslice 1 ((v3_18 ++ [x2]).map e_p_impl_expr)])), (4, .bool v4_18), (7, .ref (e_impl_expr x2)), (24, .slice (a0.args.map e_p_impl_expr)), (25, .int .i64 (a0.args.length : Int)), (26, .int .i64 v26_18)] (fun P hP => ?_) ?_)
          · simp only [W0.down, Nat.reduceEqDiff, ↓reduceIte, reduceCtorEq, Nat.reduceAdd, Nat.reduceSub, Nat.reduceMul, Nat.reduceLeDiff, Nat.reduceBEq, Nat.reduceLT, if_true, if_false, beq_self_eq_true, BEq.rfl, ne_eq, tt2, tt131, tt134, tt137, tt139, e_impl_Term, e_impl_expr_eq, impl_expr_pj, e_p_impl_expr, (show ∀ s, bsl Cc s 137 1 [(0, .ref (.agg [.agg [.int .i64 x2.term.Kind, .int .i64 x2.term.Value], .slice (x2.args.map e_p_impl_expr)]))] = some (.uslice 1 [.ref (.agg [.agg [.int .i64 x2.term.Kind, .int .i64 x2.term.Value], .slice (x2.args.map e_p_impl_expr)])], s) from fun s => by kernel_rfl), @apd_s Cc 137 137 134 rfl rfl, ap_s, ap2_s, ap3_s, all_cons, all_nil, e22, @all_wd' _ e_p_impl_expr 1 (fun _ => rfl)]
            (try simp only [WN.down, Nat.reduceAdd, if_true, if_false, ↓reduceIte, tt2, tt131, tt134, tt137, tt139, e_impl_Term, e_impl_expr_eq, impl_expr_pj, e_p_impl_expr, (show ∀ s, bsl Cc s 137 1 [(0, .ref (.agg [.agg [.int .i64 x2.term.Kind, .int .i64 x2.term.Value], .slice (x2.args.map e_p_impl_expr)]))] = some (.uslice 1 [.ref (.agg [.agg [.int .i64 x2.term.Kind, .int .i64 x2.term.Value], .slice (x2.args.map e_p_impl_expr)])], s) from fun s => by kernel_rfl), @apd_s Cc 137 137 134 rfl rfl, ap_s, ap2_s, ap3_s, all_cons, all_nil, e22, @all_wd' _ e_p_impl_expr 1 (fun _ => rfl)] at hP)
            (try simp only [WN.down, Nat.reduceAdd, if_true, if_false, ↓reduceIte, tt2, tt131, tt134, tt137, tt139, e_impl_Term, e_impl_expr_eq, impl_expr_pj, e_p_impl_expr, (show ∀ s, bsl Cc s 137 1 [(0, .ref (.agg [.agg [.int .i64 x2.term.Kind, .int .i64 x2.term.Value], .slice (x2.args.map e_p_impl_expr)]))] = some (.uslice 1 [.ref (.agg [.agg [.int .i64 x2.term.Kind, .int .i64 x2.term.Value], .slice (x2.args.map e_p_impl_expr)])], s) from fun s => by kernel_rfl), @apd_s Cc 137 137 134 rfl rfl, ap_s, ap2_s, ap3_s, all_cons, all_nil, e22, @all_wd' _ e_p_impl_expr 1 (fun _ => rfl)])
            exact hP
          refine w_reg (w_abs [(3, .ubox (.agg [e_impl_Term a0.term, .uslice 1 ((v3_18 ++ [x2]).map e_p_impl_expr)])), (4, .bool (v4_18 && (x2.term.Kind == 0))), (24, .slice (a0.args.map e_p_impl_expr)), (25, .int .i64 (a0.args.length : Int)), (26, .int .i64 v26_18)] (fun P hP => ?_) ?_)
          · rcases Bool.eq_false_or_eq_true (v4_18) with s24 | s24
            · simp only [W0.down, Nat.reduceEqDiff, ↓reduceIte, reduceCtorEq, Nat.reduceAdd, Nat.reduceSub, Nat.reduceMul, Nat.reduceLeDiff, Nat.reduceBEq, Nat.reduceLT, if_true, if_false, beq_self_eq_true, BEq.rfl, ne_eq, tt2, tt131, tt134, tt137, tt139, e_impl_Term, e_impl_expr_eq, impl_expr_pj, e_p_impl_expr, s24]
              (try simp only [WN.down, Nat.reduceAdd, if_true, if_false, ↓reduceIte, tt2, tt131, tt134, tt137, tt139, e_impl_Term, e_impl_expr_eq, impl_expr_pj, e_p_impl_expr, s24] at hP)
              (try simp only [WN.down, Nat.reduceAdd, if_true, if_false, ↓reduceIte, tt2, tt131, tt134, tt137, tt139, e_impl_Term, e_impl_expr_eq, impl_expr_pj, e_p_impl_expr, s24])
              exact hP
            · simp only [W0.down, Nat.reduceEqDiff, ↓reduceIte, reduceCtorEq, Nat.reduceAdd, Nat.reduceSub, Nat.reduceMul, Nat.reduceLeDiff, Nat.reduceBEq, Nat.reduceLT, if_true, if_false, beq_self_eq_true, BEq.rfl, ne_eq, tt2, tt131, tt134, tt137, tt139, e_impl_Term, e_impl_expr_eq, impl_expr_pj, e_p_impl_expr, s24]
              (try simp only [WN.down, Nat.reduceAdd, if_true, if_false, ↓reduceIte, tt2, tt131, tt134, tt137, tt139, e_impl_Term, e_impl_expr_eq, impl_expr_pj, e_p_impl_expr, s24] at hP)
              (try simp only [WN.down, Nat.reduceAdd, if_true, if_false, ↓reduceIte, tt2, tt131, tt134, tt137, tt139, e_impl_Term, e_impl_expr_eq, impl_expr_pj, e_p_impl_expr, s24])
              exact hP
          refine n16 _ (n15 _ (.inl ?_))
          refine w_reg (w_abs [(3, .ubox (.agg [e_impl_Term a0.term, .uslice 1 ((v3_18 ++ [x2]).map e_p_impl_expr)])), (4, .bool (v4_18 && (x2.term.Kind == 0))), (24, .slice (a0.args.map e_p_impl_expr)), (25, .int .i64 (a0.args.length : Int)), (26, .int .i64 (IntKind.i64.wrap (v26_18 + 1)))] (fun P hP => ?_) ?_)
          · simp only [W0.down, Nat.reduceEqDiff, ↓reduceIte, reduceCtorEq, Nat.reduceAdd, Nat.reduceSub, Nat.reduceMul, Nat.reduceLeDiff, Nat.reduceBEq, Nat.reduceLT, if_true, if_false, beq_self_eq_true, BEq.rfl, ne_eq, e_impl_Term, e_impl_expr_eq, impl_expr_pj, e_p_impl_expr]
            (try simp only [WN.down, Nat.reduceAdd, if_true, if_false, ↓reduceIte, e_impl_Term, e_impl_expr_eq, impl_expr_pj, e_p_impl_expr] at hP)
            (try simp only [WN.down, Nat.reduceAdd, if_true, if_false, ↓reduceIte, e_impl_Term, e_impl_expr_eq, impl_expr_pj, e_p_impl_expr])
            exact hP
          exact n11 _ (.inr ⟨_, weak_eq rfl, ih18 (v3_18 ++ [x2]) (v4_18 && (x2.term.Kind == 0)) (IntKind.i64.wrap (v26_18 + 1)) h⟩)
        · refine w_cf (congrArg AV.bool b14) ?_
          simp only [b14, Bool.not_true, Bool.not_false]
          refine w_ex (x13 0 _ (x11 0 _ (b10 _ (n8 _ (.inl ?_)))))
          refine w_seq (fun Q26 n26 q26 x26 => ?_)
          refine w_sreg (w_abs [(3, .ubox (.agg [e_impl_Term a0.term, .uslice 1 (v3_18.map e_p_impl_expr)])), (52, .bool v4_18)] (fun P hP => ?_) ?_)
          · simp only [W0.down, Nat.reduceEqDiff, ↓reduceIte, reduceCtorEq, Nat.reduceAdd, Nat.reduceSub, Nat.reduceMul, Nat.reduceLeDiff, Nat.reduceBEq, Nat.reduceLT, if_true, if_false, beq_self_eq_true, BEq.rfl, ne_eq, e_impl_Term, e_impl_expr_eq, impl_expr_pj, e_p_impl_expr]
            (try simp only [WN.down, Nat.reduceAdd, if_true, if_false, ↓reduceIte, e_impl_Term, e_impl_expr_eq, impl_expr_pj, e_p_impl_expr] at hP)
            (try simp only [WN.down, Nat.reduceAdd, if_true, if_false, ↓reduceIte, e_impl_Term, e_impl_expr_eq, impl_expr_pj, e_p_impl_expr])
            exact hP
          rcases condE h with ⟨b28, h⟩ | ⟨b28, h⟩
          · refine w_ct (congrArg AV.bool b28) ?_
            simp only [b28, Bool.not_true, Bool.not_false]
            obtain ⟨x3, e30, h⟩ := bindE h
            obtain ⟨x4, e31, h⟩ := bindE h
            refine w_sreg (w_abs [(2, .ubox (.agg [.agg [.int .i64 x4.1, .int .i64 x4.2], .nils]))] (fun P hP => ?_) ?_)
            · simp only [W0.down, Nat.reduceEqDiff, ↓reduceIte, reduceCtorEq, Nat.reduceAdd, Nat.reduceSub, Nat.reduceMul, Nat.reduceLeDiff, Nat.reduceBEq, Nat.reduceLT, if_true, if_false, beq_self_eq_true, BEq.rfl, ne_eq, e_impl_Term, e_impl_expr_eq, impl_expr_pj, e_p_impl_expr]
              refine w_call0 (OkAt.nil (args := [.ref (e_impl_expr (impl_expr.mk a0.term v3_18)), .nils]) 1 (ok_impl_expr_value (impl_expr.mk a0.term v3_18) [] _ e30) rfl) rfl rfl (by simp only [W0.down, Nat.reduceEqDiff, ↓reduceIte, reduceCtorEq, Nat.reduceAdd, Nat.reduceSub, Nat.reduceMul, Nat.reduceLeDiff, Nat.reduceBEq, Nat.reduceLT, if_true, if_false, beq_self_eq_true, BEq.rfl, ne_eq, e_impl_Term, e_impl_expr_eq, impl_expr_pj, e_p_impl_expr, e_i64, view_s, view_h, viewH_s, share_s, @shares_map _ e_p_impl_expr e_p_impl_expr (fun _ => sh_e_p_impl_expr _)]) rfl (.inr (by rfl)) ?_
              simp only [W0.down, Nat.reduceEqDiff, ↓reduceIte, reduceCtorEq, Nat.reduceAdd, Nat.reduceSub, Nat.reduceMul, Nat.reduceLeDiff, Nat.reduceBEq, Nat.reduceLT, if_true, if_false, beq_self_eq_true, BEq.rfl, ne_eq, e_impl_Term, e_impl_expr_eq, impl_expr_pj, e_p_impl_expr, e_i64]
              refine w_call0 (ok_impl_number x3 _ e31) rfl rfl rfl rfl (.inl (by rfl)) ?_
              simp only [W0.down, Nat.reduceEqDiff, ↓reduceIte, reduceCtorEq, Nat.reduceAdd, Nat.reduceSub, Nat.reduceMul, Nat.reduceLeDiff, Nat.reduceBEq, Nat.reduceLT, if_true, if_false, beq_self_eq_true, BEq.rfl, ne_eq, e_impl_Term, e_impl_expr_eq, impl_expr_pj, e_p_impl_expr, e_i64]
              (try simp only [WN.down, Nat.reduceAdd, if_true, if_false, ↓reduceIte, e_impl_Term, e_impl_expr_eq, impl_expr_pj, e_p_impl_expr, e_i64] at hP)
              (try simp only [WN.down, Nat.reduceAdd, if_true, if_false, ↓reduceIte, e_impl_Term, e_impl_expr_eq, impl_expr_pj, e_p_impl_expr, e_i64])
              exact hP
            exact w_ret (q26 _ (r0 _ (.inr ⟨[(2, .ref (e_impl_expr (impl_expr.mk (impl_Term.mk x4.1 x4.2) [])))], weak_mix [] rfl (wk_wd (t := 2) (d := .ubox (.agg [.agg [.int .i64 x4.1, .int .i64 x4.2], .nils])) rfl rfl (.trans (wd_sh rfl rfl (by simp only [share_s, AV.share, AV.shares, e_impl_expr_eq, impl_expr_pj] <;> rfl)) (.ref (.agg (.cons (.refl _) (.cons (.nilsS) (.nil)))))) (by decide) (wk_nil)), w_fin [.ref (e_impl_expr (impl_expr.mk (impl_Term.mk x4.1 x4.2) []))] rfl (by cases someE h; rfl) (by decide) outs_nil⟩)))
          · refine w_cf (congrArg AV.bool b28) ?_
            simp only [b28, Bool.not_true, Bool.not_false]
            refine w_skip (n26 _ (.inl ?_))
            refine w_sreg (w_abs [(2, .ubox (.agg [e_impl_Term a0.term, .uslice 1 (v3_18.map e_p_impl_expr)]))] (fun P hP => ?_) ?_)
            · simp only [W0.down, Nat.reduceEqDiff, ↓reduceIte, reduceCtorEq, Nat.reduceAdd, Nat.reduceSub, Nat.reduceMul, Nat.reduceLeDiff, Nat.reduceBEq, Nat.reduceLT, if_true, if_false, beq_self_eq_true, BEq.rfl, ne_eq, e_impl_Term, e_impl_expr_eq, impl_expr_pj, e_p_impl_expr]
              (try simp only [WN.down, Nat.reduceAdd, if_true, if_false, ↓reduceIte, e_impl_Term, e_impl_expr_eq, impl_expr_pj, e_p_impl_expr] at hP)
              (try simp only [WN.down, Nat.reduceAdd, if_true, if_false, ↓reduceIte, e_impl_Term, e_impl_expr_eq, impl_expr_pj, e_p_impl_expr])
              exact hP
            exact w_ret (r0 _ (.inr ⟨[(2, .ref (e_impl_expr (impl_expr.mk a0.term v3_18)))], weak_mix [] rfl (wk_wd (t := 2) (d := .ubox (.agg [e_impl_Term a0.term, .uslice 1 (v3_18.map e_p_impl_expr)])) rfl rfl ((wd_sh rfl rfl (by simp only [share_s, AV.share, AV.shares, sh_e_impl_Term, @shares_map _ e_p_impl_expr e_p_impl_expr (fun _ => sh_e_p_impl_expr _), e_impl_expr_eq, impl_expr_pj] <;> rfl))) (by decide) (wk_nil)), w_fin [.ref (e_impl_expr (impl_expr.mk a0.term v3_18))] rfl (by cases someE h; rfl) (by decide) outs_nil⟩))
    obtain ⟨n, h⟩ := limE h
    exact w_loop (.inr ⟨_, weak_mix [] rfl (wk_wd (t := 3) (d := .ubox (.agg [e_impl_Term a0.term, .nils])) (d' := .ubox (.agg [e_impl_Term a0.term, .uslice 1 []])) rfl rfl (.ubox (.agg (.cons (.refl _) (.cons (.nilsU _) (.nil))))) (by decide) (wk_eq (t := 4) (d := .bool true) rfl (wk_eq (t := 24) (d := .slice (a0.args.map e_p_impl_expr)) rfl (wk_eq (t := 25) (d := .int .i64 (a0.args.length : Int)) rfl (wk_eq (t := 26) (d := .int .i64 0) rfl (wk_nil)))))), L18 n [] true 0 h⟩)
theorem ok_impl_expr_fold_r  : ∀ (n : Nat) (a0 : impl_expr) (r : impl_expr), impl_expr_fold_r  n a0 = some r → OkAt Cc 110 [.ref (e_impl_expr a0)] (.ref (e_impl_expr r)) [] := by
  intro n
  induction n with
  | zero => intro a0 r h; cases (show none = some r from h)
  | succ n ih => intro a0 r h; exact ok_impl_expr_fold_f  (impl_expr_fold_r  n) ih a0 r h
theorem ok_impl_expr_fold  (a0 : impl_expr) (r : impl_expr) (h : impl_expr_fold  a0 = some r) : OkAt Cc 110 [.ref (e_impl_expr a0)] (.ref (e_impl_expr r)) [] := by
  obtain ⟨n, h⟩ := limE h
  exact ok_impl_expr_fold_r  n a0 r h

theorem ok_impl_ConstantOf  (a0 : List impl_Term) (r : Int × Int) (h : impl_ConstantOf  a0 = some r) : OkAt Cc 34 [.slice (a0.map e_impl_Term)] (.tuple [.int .i64 r.1, .int .i64 r.2]) [] := by
  refine OkAt.of_wpQ (fx := [0]) Cc_ok Try.func34 rfl rfl s34 (Nat.le_of_ble_eq_true rfl) (fun Q0 r0 n0 => ?_)
  replace r0 : ∀ s, onW (Fw.Ends Cc [0] [.tmp 2, .tmp 3] (.tuple [.int .i64 r.1, .int .i64 r.2]) []) s → Q0 .ret s := r0
  replace n0 : ∀ s, onW (Fw.Ends Cc [0] [.tmp 2, .tmp 3] (.tuple [.int .i64 r.1, .int .i64 r.2]) []) s → Q0 .normal s := n0
  show wpC Cc c34 Q0 (stA [(0, .slice (a0.map e_impl_Term))])
  refine w_sreg (w_abs [(0, .slice (a0.map e_impl_Term))] (fun P hP => ?_) ?_)
  · simp only [W0.down, Nat.reduceEqDiff, ↓reduceIte, reduceCtorEq, Nat.reduceAdd, Nat.reduceSub, Nat.reduceMul, Nat.reduceLeDiff, Nat.reduceBEq, Nat.reduceLT, if_true, if_false, beq_self_eq_true, BEq.rfl, ne_eq, e_impl_Term]
    (try simp only [WN.down, Nat.reduceAdd, if_true, if_false, ↓reduceIte, e_impl_Term] at hP)
    (try simp only [WN.down, Nat.reduceAdd, if_true, if_false, ↓reduceIte, e_impl_Term])
    exact hP
  refine w_seq (fun Q2 n2 q2 x2 => ?_)
  obtain ⟨x1, e4, h⟩ := bindE h
  refine w_sreg (w_abs [(0, .slice (a0.map e_impl_Term)), (7, .bool (!x1))] (fun P hP => ?_) ?_)
  · simp only [W0.down, Nat.reduceEqDiff, ↓reduceIte, reduceCtorEq, Nat.reduceAdd, Nat.reduceSub, Nat.reduceMul, Nat.reduceLeDiff, Nat.reduceBEq, Nat.reduceLT, if_true, if_false, beq_self_eq_true, BEq.rfl, ne_eq, e_impl_Term]
    refine w_call0 (ok_impl_termsOk a0 _ e4) rfl rfl rfl rfl (.inl (by rfl)) ?_
    simp only [W0.down, Nat.reduceEqDiff, ↓reduceIte, reduceCtorEq, Nat.reduceAdd, Nat.reduceSub, Nat.reduceMul, Nat.reduceLeDiff, Nat.reduceBEq, Nat.reduceLT, if_true, if_false, beq_self_eq_true, BEq.rfl, ne_eq, e_impl_Term]
    (try simp only [WN.down, Nat.reduceAdd, if_true, if_false, ↓reduceIte, e_impl_Term] at hP)
    (try simp only [WN.down, Nat.reduceAdd, if_true, if_false, ↓reduceIte, e_impl_Term])
    exact hP
  rcases condE h with ⟨b5, h⟩ | ⟨b5, h⟩
  · refine w_ct (congrArg AV.bool b5) ?_
    simp only [b5, Bool.not_true, Bool.not_false]
    refine w_sreg (w_abs [(2, .int .i64 0), (3, .int .i64 1)] (fun P hP => ?_) ?_)
    · simp only [W0.down, Nat.reduceEqDiff, ↓reduceIte, reduceCtorEq, Nat.reduceAdd, Nat.reduceSub, Nat.reduceMul, Nat.reduceLeDiff, Nat.reduceBEq, Nat.reduceLT, if_true, if_false, beq_self_eq_true, BEq.rfl, ne_eq, e_impl_Term]
      (try simp only [WN.down, Nat.reduceAdd, if_true, if_false, ↓reduceIte, e_impl_Term] at hP)
      (try simp only [WN.down, Nat.reduceAdd, if_true, if_false, ↓reduceIte, e_impl_Term])
      exact hP
    exact w_ret (q2 _ (r0 _ (.inl (w_fin [.int .i64 0, .int .i64 1] rfl (by cases someE h; rfl) (by decide) outs_nil))))
  · refine w_cf (congrArg AV.bool b5) ?_
    simp only [b5, Bool.not_true, Bool.not_false]
    refine w_skip (n2 _ (.inl ?_))
    obtain ⟨x2, e8, h⟩ := bindE h
    obtain ⟨x3, e9, h⟩ := bindE h
    refine w_sreg (w_abs [(4, .ref (e_impl_expr x3))] (fun P hP => ?_) ?_)
    · simp only [W0.down, Nat.reduceEqDiff, ↓reduceIte, reduceCtorEq, Nat.reduceAdd, Nat.reduceSub, Nat.reduceMul, Nat.reduceLeDiff, Nat.reduceBEq, Nat.reduceLT, if_true, if_false, beq_self_eq_true, BEq.rfl, ne_eq, e_impl_Term, e_impl_expr_eq, impl_expr_pj, e_p_impl_expr]
      refine w_call0 (((ok_impl_tree a0 _ e8)).wide (wd_sh rfl rfl (by simp only [share_s, AV.share, AV.shares, sh_e_impl_Term, @shares_map _ u_p_impl_expr e_p_impl_expr (fun _ => sh_u_p_impl_expr _), e_impl_expr_eq, impl_expr_pj] <;> rfl)) rfl rfl) rfl rfl rfl rfl (.inl (by rfl)) ?_
      simp only [W0.down, Nat.reduceEqDiff, ↓reduceIte, reduceCtorEq, Nat.reduceAdd, Nat.reduceSub, Nat.reduceMul, Nat.reduceLeDiff, Nat.reduceBEq, Nat.reduceLT, if_true, if_false, beq_self_eq_true, BEq.rfl, ne_eq, e_impl_Term, e_impl_expr_eq, impl_expr_pj, e_p_impl_expr]
      refine w_call0 (ok_impl_expr_fold (impl_expr.mk x2.1 x2.2) _ e9) rfl rfl (by simp only [W0.down, Nat.reduceEqDiff, ↓reduceIte, reduceCtorEq, Nat.reduceAdd, Nat.reduceSub, Nat.reduceMul, Nat.reduceLeDiff, Nat.reduceBEq, Nat.reduceLT, if_true, if_false, beq_self_eq_true, BEq.rfl, ne_eq, e_impl_Term, e_impl_expr_eq, impl_expr_pj, e_p_impl_expr, view_s, view_h, viewH_s, share_s]) rfl (.inl (by rfl)) ?_
      simp only [W0.down, Nat.reduceEqDiff, ↓reduceIte, reduceCtorEq, Nat.reduceAdd, Nat.reduceSub, Nat.reduceMul, Nat.reduceLeDiff, Nat.reduceBEq, Nat.reduceLT, if_true, if_false, beq_self_eq_true, BEq.rfl, ne_eq, e_impl_Term, e_impl_expr_eq, impl_expr_pj, e_p_impl_expr]
      (try simp only [WN.down, Nat.reduceAdd, if_true, if_false, ↓reduceIte, e_impl_Term, e_impl_expr_eq, impl_expr_pj, e_p_impl_expr] at hP)
      (try simp only [WN.down, Nat.reduceAdd, if_true, if_false, ↓reduceIte, e_impl_Term, e_impl_expr_eq, impl_expr_pj, e_p_impl_expr])
      exact hP
    refine w_seq (fun Q10 n10 q10 x10 => ?_)
    refine w_sreg (w_abs [(4, .ref (e_impl_expr x3)), (16, .bool (x3.term.Kind != 0))] (fun P hP => ?_) ?_)
    · simp only [W0.down, Nat.reduceEqDiff, ↓reduceIte, reduceCtorEq, Nat.reduceAdd, Nat.reduceSub, Nat.reduceMul, Nat.reduceLeDiff, Nat.reduceBEq, Nat.reduceLT, if_true, if_false, beq_self_eq_true, BEq.rfl, ne_eq, tt2, tt131, tt134, tt137, tt139, e_impl_Term, e_impl_expr_eq, impl_expr_pj, e_p_impl_expr]
      (try simp only [WN.down, Nat.reduceAdd, if_true, if_false, ↓reduceIte, tt2, tt131, tt134, tt137, tt139, e_impl_Term, e_impl_expr_eq, impl_expr_pj, e_p_impl_expr] at hP)
      (try simp only [WN.down, Nat.reduceAdd, if_true, if_false, ↓reduceIte, tt2, tt131, tt134, tt137, tt139, e_impl_Term, e_impl_expr_eq, impl_expr_pj, e_p_impl_expr])
      exact hP
    rcases condE h with ⟨b12, h⟩ | ⟨b12, h⟩
    · refine w_ct (congrArg AV.bool b12) ?_
      simp only [b12, Bool.not_true, Bool.not_false]
      refine w_sreg (w_abs [(2, .int .i64 0), (3, .int .i64 3)] (fun P hP => ?_) ?_)
      · simp only [W0.down, Nat.reduceEqDiff, ↓reduceIte, reduceCtorEq, Nat.reduceAdd, Nat.reduceSub, Nat.reduceMul, Nat.reduceLeDiff, Nat.reduceBEq, Nat.reduceLT, if_true, if_false, beq_self_eq_true, BEq.rfl, ne_eq, e_impl_Term, e_impl_expr_eq, impl_expr_pj, e_p_impl_expr]
        (try simp only [WN.down, Nat.reduceAdd, if_true, if_false, ↓reduceIte, e_impl_Term, e_impl_expr_eq, impl_expr_pj, e_p_impl_expr] at hP)
        (try simp only [WN.down, Nat.reduceAdd, if_true, if_false, ↓reduceIte, e_impl_Term, e_impl_expr_eq, impl_expr_pj, e_p_impl_expr])
        exact hP
      exact w_ret (q10 _ (r0 _ (.inl (w_fin [.int .i64 0, .int .i64 3] rfl (by cases someE h; rfl) (by decide) outs_nil))))
    · refine w_cf (congrArg AV.bool b12) ?_
      simp only [b12, Bool.not_true, Bool.not_false]
      refine w_skip (n10 _ (.inl ?_))
      refine w_sreg (w_abs [(2, .int .i64 x3.term.Value), (3, .int .i64 0)] (fun P hP => ?_) ?_)
      · simp only [W0.down, Nat.reduceEqDiff, ↓reduceIte, reduceCtorEq, Nat.reduceAdd, Nat.reduceSub, Nat.reduceMul, Nat.reduceLeDiff, Nat.reduceBEq, Nat.reduceLT, if_true, if_false, beq_self_eq_true, BEq.rfl, ne_eq, tt2, tt131, tt134, tt137, tt139, e_impl_Term, e_impl_expr_eq, impl_expr_pj, e_p_impl_expr]
        (try simp only [WN.down, Nat.reduceAdd, if_true, if_false, ↓reduceIte, tt2, tt131, tt134, tt137, tt139, e_impl_Term, e_impl_expr_eq, impl_expr_pj, e_p_impl_expr] at hP)
        (try simp only [WN.down, Nat.reduceAdd, if_true, if_false, ↓reduceIte, tt2, tt131, tt134, tt137, tt139, e_impl_Term, e_impl_expr_eq, impl_expr_pj, e_p_impl_expr])
        exact hP
      exact w_ret (r0 _ (.inl (w_fin [.int .i64 x3.term.Value, .int .i64 0] rfl (by cases someE h; rfl) (by decide) outs_nil)))

theorem ok_laws_eqTerm  (a0 : impl_Term) (a1 : impl_Term) (r : Bool) (h : laws_eqTerm  a0 a1 = some r) : OkAt Cc 111 [e_impl_Term a0, e_impl_Term a1] (.bool r) [] := by
  refine OkAt.of_wpQ (fx := [0, 1]) Cc_ok Try.func111 rfl rfl s111 (Nat.le_of_ble_eq_true rfl) (fun Q0 r0 n0 => ?_)
  replace r0 : ∀ s, onW (Fw.Ends Cc [0, 1] [.tmp 4] (.bool r) []) s → Q0 .ret s := r0
  replace n0 : ∀ s, onW (Fw.Ends Cc [0, 1] [.tmp 4] (.bool r) []) s → Q0 .normal s := n0
  show wpC Cc c111 Q0 (stA [(0, e_impl_Term a0), (1, e_impl_Term a1)])
  refine w_sreg (w_abs [(2, .ubox (e_impl_Term a0)), (3, .ubox (e_impl_Term a1))] (fun P hP => ?_) ?_)
  · simp only [W0.down, Nat.reduceEqDiff, ↓reduceIte, reduceCtorEq, Nat.reduceAdd, Nat.reduceSub, Nat.reduceMul, Nat.reduceLeDiff, Nat.reduceBEq, Nat.reduceLT, if_true, if_false, beq_self_eq_true, BEq.rfl, ne_eq, tt2, tt131, e_impl_Term]
    (try simp only [WN.down, Nat.reduceAdd, if_true, if_false, ↓reduceIte, tt2, tt131, e_impl_Term] at hP)
    (try simp only [WN.down, Nat.reduceAdd, if_true, if_false, ↓reduceIte, tt2, tt131, e_impl_Term])
    exact hP
  refine w_seq (fun Q2 n2 q2 x2 => ?_)
  refine w_sreg (w_abs [(2, .ubox (e_impl_Term a0)), (3, .ubox (e_impl_Term a1)), (9, .bool (a0.Kind != a1.Kind))] (fun P hP => ?_) ?_)
  · simp only [W0.down, Nat.reduceEqDiff, ↓reduceIte, reduceCtorEq, Nat.reduceAdd, Nat.reduceSub, Nat.reduceMul, Nat.reduceLeDiff, Nat.reduceBEq, Nat.reduceLT, if_true, if_false, beq_self_eq_true, BEq.rfl, ne_eq, tt2, tt131, e_impl_Term]
    (try simp only [WN.down, Nat.reduceAdd, if_true, if_false, ↓reduceIte, tt2, tt131, e_impl_Term] at hP)
    (try simp only [WN.down, Nat.reduceAdd, if_true, if_false, ↓reduceIte, tt2, tt131, e_impl_Term])
    exact hP
  rcases condE h with ⟨b4, h⟩ | ⟨b4, h⟩
  · refine w_ct (congrArg AV.bool b4) ?_
    simp only [b4, Bool.not_true, Bool.not_false]
    refine w_sreg (w_abs [(4, .bool false)] (fun P hP => ?_) ?_)
    · simp only [W0.down, Nat.reduceEqDiff, ↓reduceIte, reduceCtorEq, Nat.reduceAdd, Nat.reduceSub, Nat.reduceMul, Nat.reduceLeDiff, Nat.reduceBEq, Nat.reduceLT, if_true, if_false, beq_self_eq_true, BEq.rfl, ne_eq, e_impl_Term]
      (try simp only [WN.down, Nat.reduceAdd, if_true, if_false, ↓reduceIte, e_impl_Term] at hP)
      (try simp only [WN.down, Nat.reduceAdd, if_true, if_false, ↓reduceIte, e_impl_Term])
      exact hP
    exact w_ret (q2 _ (r0 _ (.inl (w_fin [.bool false] rfl (by cases someE h; rfl) (by decide) outs_nil))))
  · refine w_cf (congrArg AV.bool b4) ?_
    simp only [b4, Bool.not_true, Bool.not_false]
    refine w_skip (n2 _ (.inl ?_))
    refine w_seq (fun Q6 n6 q6 x6 => ?_)
    refine w_sreg (w_abs [(14, .bool (a0.Value != a1.Value))] (fun P hP => ?_) ?_)
    · simp only [W0.down, Nat.reduceEqDiff, ↓reduceIte, reduceCtorEq, Nat.reduceAdd, Nat.reduceSub, Nat.reduceMul, Nat.reduceLeDiff, Nat.reduceBEq, Nat.reduceLT, if_true, if_false, beq_self_eq_true, BEq.rfl, ne_eq, tt2, tt131, e_impl_Term]
      (try simp only [WN.down, Nat.reduceAdd, if_true, if_false, ↓reduceIte, tt2, tt131, e_impl_Term] at hP)
      (try simp only [WN.down, Nat.reduceAdd, if_true, if_false, ↓reduceIte, tt2, tt131, e_impl_Term])
      exact hP
    rcases condE h with ⟨b8, h⟩ | ⟨b8, h⟩
    · refine w_ct (congrArg AV.bool b8) ?_
      simp only [b8, Bool.not_true, Bool.not_false]
      refine w_sreg (w_abs [(4, .bool false)] (fun P hP => ?_) ?_)
      · simp only [W0.down, Nat.reduceEqDiff, ↓reduceIte, reduceCtorEq, Nat.reduceAdd, Nat.reduceSub, Nat.reduceMul, Nat.reduceLeDiff, Nat.reduceBEq, Nat.reduceLT, if_true, if_false, beq_self_eq_true, BEq.rfl, ne_eq]
        (try simp only [WN.down, Nat.reduceAdd, if_true, if_false, ↓reduceIte] at hP)
        (try simp only [WN.down, Nat.reduceAdd, if_true, if_false, ↓reduceIte])
        exact hP
      exact w_ret (q6 _ (r0 _ (.inl (w_fin [.bool false] rfl (by cases someE h; rfl) (by decide) outs_nil))))
    · refine w_cf (congrArg AV.bool b8) ?_
      simp only [b8, Bool.not_true, Bool.not_false]
      refine w_skip (n6 _ (.inl ?_))
      refine w_sreg (w_abs [(4, .bool true)] (fun P hP => ?_) ?_)
      · simp only [W0.down, Nat.reduceEqDiff, ↓reduceIte, reduceCtorEq, Nat.reduceAdd, Nat.reduceSub, Nat.reduceMul, Nat.reduceLeDiff, Nat.reduceBEq, Nat.reduceLT, if_true, if_false, beq_self_eq_true, BEq.rfl, ne_eq]
        (try simp only [WN.down, Nat.reduceAdd, if_true, if_false, ↓reduceIte] at hP)
        (try simp only [WN.down, Nat.reduceAdd, if_true, if_false, ↓reduceIte])
        exact hP
      exact w_ret (r0 _ (.inl (w_fin [.bool true] rfl (by cases someE h; rfl) (by decide) outs_nil)))

theorem ok_laws_eqTermS  (a0 : List impl_Term) (a1 : List impl_Term) (r : Bool) (h : laws_eqTermS  a0 a1 = some r) : OkAt Cc 35 [.slice (a0.map e_impl_Term), .slice (a1.map e_impl_Term)] (.bool r) [] := by
  refine OkAt.of_wpQ (fx := [0, 1]) Cc_ok Try.func35 rfl rfl s35 (Nat.le_of_ble_eq_true rfl) (fun Q0 r0 n0 => ?_)
  replace r0 : ∀ s, onW (Fw.Ends Cc [0, 1] [.tmp 4] (.bool r) []) s → Q0 .ret s := r0
  replace n0 : ∀ s, onW (Fw.Ends Cc [0, 1] [.tmp 4] (.bool r) []) s → Q0 .normal s := n0
  show wpC Cc c35 Q0 (stA [(0, .slice (a0.map e_impl_Term)), (1, .slice (a1.map e_impl_Term))])
  refine w_sreg (w_abs [(0, .slice (a0.map e_impl_Term)), (1, .slice (a1.map e_impl_Term))] (fun P hP => ?_) ?_)
  · simp only [W0.down, Nat.reduceEqDiff, ↓reduceIte, reduceCtorEq, Nat.reduceAdd, Nat.reduceSub, Nat.reduceMul, Nat.reduceLeDiff, Nat.reduceBEq, Nat.reduceLT, if_true, if_false, beq_self_eq_true, BEq.rfl, ne_eq, e_impl_Term]
    (try simp only [WN.down, Nat.reduceAdd, if_true, if_false, ↓reduceIte, e_impl_Term] at hP)
    (try simp only [WN.down, Nat.reduceAdd, if_true, if_false, ↓reduceIte, e_impl_Term])
    exact hP
  refine w_seq (fun Q2 n2 q2 x2 => ?_)
  refine w_sreg (w_abs [(0, .slice (a0.map e_impl_Term)), (1, .slice (a1.map e_impl_Term)), (10, .bool ((a0.length : Int) != (a1.length : Int)))] (fun P hP => ?_) ?_)
  · simp only [W0.down, Nat.reduceEqDiff, ↓reduceIte, reduceCtorEq, Nat.reduceAdd, Nat.reduceSub, Nat.reduceMul, Nat.reduceLeDiff, Nat.reduceBEq, Nat.reduceLT, if_true, if_false, beq_self_eq_true, BEq.rfl, ne_eq, tt2, tt40, tt131, e_impl_Term]
    (try simp only [WN.down, Nat.reduceAdd, if_true, if_false, ↓reduceIte, tt2, tt40, tt131, e_impl_Term] at hP)
    (try simp only [WN.down, Nat.reduceAdd, if_true, if_false, ↓reduceIte, tt2, tt40, tt131, e_impl_Term])
    exact hP
  rcases condE h with ⟨b4, h⟩ | ⟨b4, h⟩
  · refine w_ct (congrArg AV.bool b4) ?_
    simp only [b4, Bool.not_true, Bool.not_false]
    refine w_sreg (w_abs [(4, .bool false)] (fun P hP => ?_) ?_)
    · simp only [W0.down, Nat.reduceEqDiff, ↓reduceIte, reduceCtorEq, Nat.reduceAdd, Nat.reduceSub, Nat.reduceMul, Nat.reduceLeDiff, Nat.reduceBEq, Nat.reduceLT, if_true, if_false, beq_self_eq_true, BEq.rfl, ne_eq, e_impl_Term]
      (try simp only [WN.down, Nat.reduceAdd, if_true, if_false, ↓reduceIte, e_impl_Term] at hP)
      (try simp only [WN.down, Nat.reduceAdd, if_true, if_false, ↓reduceIte, e_impl_Term])
      exact hP
    exact w_ret (q2 _ (r0 _ (.inl (w_fin [.bool false] rfl (by cases someE h; rfl) (by decide) outs_nil))))
  · refine w_cf (congrArg AV.bool b4) ?_
    simp only [b4, Bool.not_true, Bool.not_false]
    refine w_skip (n2 _ (.inl ?_))
    refine w_seq (fun Q6 n6 q6 x6 => ?_)
    refine w_sreg (w_abs [(0, .slice (a0.map e_impl_Term)), (1, .slice (a1.map e_impl_Term)), (5, .int .i64 0)] (fun P hP => ?_) ?_)
    · simp only [W0.down, Nat.reduceEqDiff, ↓reduceIte, reduceCtorEq, Nat.reduceAdd, Nat.reduceSub, Nat.reduceMul, Nat.reduceLeDiff, Nat.reduceBEq, Nat.reduceLT, if_true, if_false, beq_self_eq_true, BEq.rfl, ne_eq, e_impl_Term]
      (try simp only [WN.down, Nat.reduceAdd, if_true, if_false, ↓reduceIte, e_impl_Term] at hP)
      (try simp only [WN.down, Nat.reduceAdd, if_true, if_false, ↓reduceIte, e_impl_Term])
      exact hP
    refine w_blk (fun Q8 n8 q8 b8 x8 => ?_)
    have L14 : ∀ (n : Nat) (v5_14 : Int), laws_eqTermS_l14 a0 a1 n v5_14 = some r → lpC Cc c35_15 Q8 (stA [(0, .slice (a0.map e_impl_Term)), (1, .slice (a1.map e_impl_Term)), (5, .int .i64 v5_14)]) := by
      intro m14
      induction m14 with
      | zero => intro v5_14 h; cases (show none = some r from h)
      | succ m14 ih14 =>
        intro v5_14 h
        replace h : laws_eqTermS_b14 (laws_eqTermS_l14 a0 a1 m14) a0 a1 v5_14 = some r := h
        refine lpC_step (fun Q9 n9 q9 x9 => ?_)
        refine w_seq (fun Q10 n10 q10 x10 => ?_)
        refine w_sreg (w_abs [(0, .slice (a0.map e_impl_Term)), (1, .slice (a1.map e_impl_Term)), (5, .int .i64 v5_14), (14, .bool (decide (v5_14 < (a0.length : Int))))] (fun P hP => ?_) ?_)
        · simp only [W0.down, Nat.reduceEqDiff, ↓reduceIte, reduceCtorEq, Nat.reduceAdd, Nat.reduceSub, Nat.reduceMul, Nat.reduceLeDiff, Nat.reduceBEq, Nat.reduceLT, if_true, if_false, beq_self_eq_true, BEq.rfl, ne_eq, tt2, tt40, tt131, e_impl_Term]
          (try simp only [WN.down, Nat.reduceAdd, if_true, if_false, ↓reduceIte, tt2, tt40, tt131, e_impl_Term] at hP)
          (try simp only [WN.down, Nat.reduceAdd, if_true, if_false, ↓reduceIte, tt2, tt40, tt131, e_impl_Term])
          exact hP
        rcases condE h with ⟨b12, h⟩ | ⟨b12, h⟩
        · refine w_ct (congrArg AV.bool b12) ?_
          simp only [b12, Bool.not_true, Bool.not_false]
          refine w_skip (n10 _ (.inl ?_))
          refine w_seq (fun Q13 n13 q13 x13 => ?_)
          refine w_blk (fun Q14 n14 q14 b14 x14 => ?_)
          obtain ⟨x1, e16, h⟩ := bindE h
          obtain ⟨x2, e17, h⟩ := bindE h
          obtain ⟨x3, e18, h⟩ := bindE h
          refine w_sdrw rfl (w_absd [(0, .slice (a0.map e_impl_Term)), (1, .slice (a1.map e_impl_Term)), (5, .int .i64 v5_14), (26, .bool (!x3))] (fun P hP => ?_) ?_)
          · simp only [W1.down, Nat.reduceEqDiff, ↓reduceIte, reduceCtorEq, Nat.reduceAdd, Nat.reduceSub, Nat.reduceMul, Nat.reduceLeDiff, Nat.reduceBEq, Nat.reduceLT, if_true, if_false, beq_self_eq_true, BEq.rfl, ne_eq, tt2, tt40, tt131, e_impl_Term, e16, e17]
            refine w_call1 (ok_laws_eqTerm x1 x2 _ e18) rfl rfl rfl rfl (.inl (by rfl)) ?_
            simp only [W1.down, Nat.reduceEqDiff, ↓reduceIte, reduceCtorEq, Nat.reduceAdd, Nat.reduceSub, Nat.reduceMul, Nat.reduceLeDiff, Nat.reduceBEq, Nat.reduceLT, if_true, if_false, beq_self_eq_true, BEq.rfl, ne_eq, tt2, tt40, tt131, e_impl_Term, e16, e17]
            refine ⟨by kernel_rfl, ?_⟩
            (try simp only [WN.down, Nat.reduceAdd, if_true, if_false, ↓reduceIte, tt2, tt40, tt131, e_impl_Term, e16, e17] at hP)
            (try simp only [WN.down, Nat.reduceAdd, if_true, if_false, ↓reduceIte, tt2, tt40, tt131, e_impl_Term, e16, e17])
            exact hP
          rcases condE h with ⟨b19, h⟩ | ⟨b19, h⟩
          · refine w_ct (congrArg AV.bool b19) ?_
            simp only [b19, Bool.not_true, Bool.not_false]
            refine w_sreg (w_abs [(4, .bool false)] (fun P hP => ?_) ?_)
            · simp only [W0.down, Nat.reduceEqDiff, ↓reduceIte, reduceCtorEq, Nat.reduceAdd, Nat.reduceSub, Nat.reduceMul, Nat.reduceLeDiff, Nat.reduceBEq, Nat.reduceLT, if_true, if_false, beq_self_eq_true, BEq.rfl, ne_eq, e_impl_Term]
              (try simp only [WN.down, Nat.reduceAdd, if_true, if_false, ↓reduceIte, e_impl_Term] at hP)
              (try simp only [WN.down, Nat.reduceAdd, if_true, if_false, ↓reduceIte, e_impl_Term])
              exact hP
            exact w_ret (q14 _ (q13 _ (q9 _ (q8 _ (q6 _ (r0 _ (.inl (w_fin [.bool false] rfl (by cases someE h; rfl) (by decide) outs_nil))))))))
          · refine w_cf (congrArg AV.bool b19) ?_
            simp only [b19, Bool.not_true, Bool.not_false]
            refine w_skip (n14 _ (n13 _ (.inl ?_)))
            refine w_reg (w_abs [(0, .slice (a0.map e_impl_Term)), (1, .slice (a1.map e_impl_Term)), (5, .int .i64 (IntKind.i64.wrap (v5_14 + 1)))] (fun P hP => ?_) ?_)
            · simp only [W0.down, Nat.reduceEqDiff, ↓reduceIte, reduceCtorEq, Nat.reduceAdd, Nat.reduceSub, Nat.reduceMul, Nat.reduceLeDiff, Nat.reduceBEq, Nat.reduceLT, if_true, if_false, beq_self_eq_true, BEq.rfl, ne_eq, e_impl_Term]
              (try simp only [WN.down, Nat.reduceAdd, if_true, if_false, ↓reduceIte, e_impl_Term] at hP)
              (try simp only [WN.down, Nat.reduceAdd, if_true, if_false, ↓reduceIte, e_impl_Term])
              exact hP
            exact n9 _ (.inr ⟨_, weak_eq rfl, ih14 (IntKind.i64.wrap (v5_14 + 1)) h⟩)
        · refine w_cf (congrArg AV.bool b12) ?_
          simp only [b12, Bool.not_true, Bool.not_false]
          refine w_ex (x10 0 _ (x9 0 _ (b8 _ (n6 _ (.inl ?_)))))
          refine w_sreg (w_abs [(4, .bool true)] (fun P hP => ?_) ?_)
          · simp only [W0.down, Nat.reduceEqDiff, ↓reduceIte, reduceCtorEq, Nat.reduceAdd, Nat.reduceSub, Nat.reduceMul, Nat.reduceLeDiff, Nat.reduceBEq, Nat.reduceLT, if_true, if_false, beq_self_eq_true, BEq.rfl, ne_eq, e_impl_Term]
            (try simp only [WN.down, Nat.reduceAdd, if_true, if_false, ↓reduceIte, e_impl_Term] at hP)
            (try simp only [WN.down, Nat.reduceAdd, if_true, if_false, ↓reduceIte, e_impl_Term])
            exact hP
          exact w_ret (r0 _ (.inl (w_fin [.bool true] rfl (by cases someE h; rfl) (by decide) outs_nil)))
    obtain ⟨n, h⟩ := limE h
    exact w_loop (.inr ⟨_, weak_eq rfl, L14 n 0 h⟩)

theorem ok_laws_FnExactConstantOf  (a0 : List laws_Term) (r : Bool) (h : laws_FnExactConstantOf  a0 = some r) : OkAt Cc 5 [.slice (a0.map e_laws_Term)] (.bool r) [] := by
  refine OkAt.of_wpQ (fx := [0]) Cc_ok Try.func5 rfl rfl s5 (Nat.le_of_ble_eq_true rfl) (fun Q0 r0 n0 => ?_)
  replace r0 : ∀ s, onW (Fw.Ends Cc [0] [.tmp 2] (.bool r) []) s → Q0 .ret s := r0
  replace n0 : ∀ s, onW (Fw.Ends Cc [0] [.tmp 2] (.bool r) []) s → Q0 .normal s := n0
  show wpC Cc c5 Q0 (stA [(0, .slice (a0.map e_laws_Term))])
  refine w_sreg (w_abs [(0, .slice (a0.map e_laws_Term))] (fun P hP => ?_) ?_)
  · simp only [W0.down, Nat.reduceEqDiff, ↓reduceIte, reduceCtorEq, Nat.reduceAdd, Nat.reduceSub, Nat.reduceMul, Nat.reduceLeDiff, Nat.reduceBEq, Nat.reduceLT, if_true, if_false, beq_self_eq_true, BEq.rfl, ne_eq, e_laws_Term]
    (try simp only [WN.down, Nat.reduceAdd, if_true, if_false, ↓reduceIte, e_laws_Term] at hP)
    (try simp only [WN.down, Nat.reduceAdd, if_true, if_false, ↓reduceIte, e_laws_Term])
    exact hP
  refine w_sreg (w_abs [(0, .slice (a0.map e_laws_Term)), (3, .int .i64 1048576)] (fun P hP => ?_) ?_)
  · simp only [W0.down, Nat.reduceEqDiff, ↓reduceIte, reduceCtorEq, Nat.reduceAdd, Nat.reduceSub, Nat.reduceMul, Nat.reduceLeDiff, Nat.reduceBEq, Nat.reduceLT, if_true, if_false, beq_self_eq_true, BEq.rfl, ne_eq, e_laws_Term]
    (try simp only [WN.down, Nat.reduceAdd, if_true, if_false, ↓reduceIte, e_laws_Term] at hP)
    (try simp only [WN.down, Nat.reduceAdd, if_true, if_false, ↓reduceIte, e_laws_Term])
    exact hP
  obtain ⟨x1, e4, h⟩ := bindE h
  refine w_sreg (w_abs [(0, .slice (a0.map e_laws_Term)), (3, .int .i64 x1)] (fun P hP => ?_) ?_)
  · simp only [W0.down, Nat.reduceEqDiff, ↓reduceIte, reduceCtorEq, Nat.reduceAdd, Nat.reduceSub, Nat.reduceMul, Nat.reduceLeDiff, Nat.reduceBEq, Nat.reduceLT, if_true, if_false, beq_self_eq_true, BEq.rfl, ne_eq, e_laws_Term]
    refine w_call0 (ok_laws_szTermS a0 1048576 _ e4) rfl rfl rfl rfl (.inl (by rfl)) ?_
    simp only [W0.down, Nat.reduceEqDiff, ↓reduceIte, reduceCtorEq, Nat.reduceAdd, Nat.reduceSub, Nat.reduceMul, Nat.reduceLeDiff, Nat.reduceBEq, Nat.reduceLT, if_true, if_false, beq_self_eq_true, BEq.rfl, ne_eq, e_laws_Term]
    (try simp only [WN.down, Nat.reduceAdd, if_true, if_false, ↓reduceIte, e_laws_Term] at hP)
    (try simp only [WN.down, Nat.reduceAdd, if_true, if_false, ↓reduceIte, e_laws_Term])
    exact hP
  refine w_seq (fun Q5 n5 q5 x5 => ?_)
  refine w_sreg (w_abs [(0, .slice (a0.map e_laws_Term)), (13, .bool (decide (x1 < 0)))] (fun P hP => ?_) ?_)
  · simp only [W0.down, Nat.reduceEqDiff, ↓reduceIte, reduceCtorEq, Nat.reduceAdd, Nat.reduceSub, Nat.reduceMul, Nat.reduceLeDiff, Nat.reduceBEq, Nat.reduceLT, if_true, if_false, beq_self_eq_true, BEq.rfl, ne_eq, e_laws_Term]
    (try simp only [WN.down, Nat.reduceAdd, if_true, if_false, ↓reduceIte, e_laws_Term] at hP)
    (try simp only [WN.down, Nat.reduceAdd, if_true, if_false, ↓reduceIte, e_laws_Term])
    exact hP
  rcases condE h with ⟨b7, h⟩ | ⟨b7, h⟩
  · refine w_ct (congrArg AV.bool b7) ?_
    simp only [b7, Bool.not_true, Bool.not_false]
    refine w_sreg (w_abs [(2, .bool true)] (fun P hP => ?_) ?_)
    · simp only [W0.down, Nat.reduceEqDiff, ↓reduceIte, reduceCtorEq, Nat.reduceAdd, Nat.reduceSub, Nat.reduceMul, Nat.reduceLeDiff, Nat.reduceBEq, Nat.reduceLT, if_true, if_false, beq_self_eq_true, BEq.rfl, ne_eq, e_laws_Term]
      (try simp only [WN.down, Nat.reduceAdd, if_true, if_false, ↓reduceIte, e_laws_Term] at hP)
      (try simp only [WN.down, Nat.reduceAdd, if_true, if_false, ↓reduceIte, e_laws_Term])
      exact hP
    exact w_ret (q5 _ (r0 _ (.inl (w_fin [.bool true] rfl (by cases someE h; rfl) (by decide) outs_nil))))
  · refine w_cf (congrArg AV.bool b7) ?_
    simp only [b7, Bool.not_true, Bool.not_false]
    refine w_skip (n5 _ (.inl ?_))
    obtain ⟨x2, e10, h⟩ := bindE h
    obtain ⟨x3, e11, h⟩ := bindE h
    refine w_sreg (w_abs [(0, .slice (a0.map e_laws_Term)), (4, .int .i64 x3.1), (5, .int .i64 x3.2)] (fun P hP => ?_) ?_)
    · simp only [W0.down, Nat.reduceEqDiff, ↓reduceIte, reduceCtorEq, Nat.reduceAdd, Nat.reduceSub, Nat.reduceMul, Nat.reduceLeDiff, Nat.reduceBEq, Nat.reduceLT, if_true, if_false, beq_self_eq_true, BEq.rfl, ne_eq, e_impl_Term, e_laws_Term]
      refine w_call0 (ok_laws_toTermS a0 _ e10) rfl rfl rfl rfl (.inl (by rfl)) ?_
      simp only [W0.down, Nat.reduceEqDiff, ↓reduceIte, reduceCtorEq, Nat.reduceAdd, Nat.reduceSub, Nat.reduceMul, Nat.reduceLeDiff, Nat.reduceBEq, Nat.reduceLT, if_true, if_false, beq_self_eq_true, BEq.rfl, ne_eq, e_impl_Term, e_laws_Term]
      refine w_call0 (ok_spec_ConstantOf x2 _ e11) rfl rfl (by simp only [W0.down, Nat.reduceEqDiff, ↓reduceIte, reduceCtorEq, Nat.reduceAdd, Nat.reduceSub, Nat.reduceMul, Nat.reduceLeDiff, Nat.reduceBEq, Nat.reduceLT, if_true, if_false, beq_self_eq_true, BEq.rfl, ne_eq, e_impl_Term, e_laws_Term, view_s, view_h, viewH_s, share_s, @shares_map _ e_impl_Term e_impl_Term (fun _ => sh_e_impl_Term _)]) rfl (.inr (by rfl)) ?_
      simp only [W0.down, Nat.reduceEqDiff, ↓reduceIte, reduceCtorEq, Nat.reduceAdd, Nat.reduceSub, Nat.reduceMul, Nat.reduceLeDiff, Nat.reduceBEq, Nat.reduceLT, if_true, if_false, beq_self_eq_true, BEq.rfl, ne_eq, e_impl_Term, e_laws_Term]
      (try simp only [WN.down, Nat.reduceAdd, if_true, if_false, ↓reduceIte, e_impl_Term, e_laws_Term] at hP)
      (try simp only [WN.down, Nat.reduceAdd, if_true, if_false, ↓reduceIte, e_impl_Term, e_laws_Term])
      exact hP
    obtain ⟨x4, e13, h⟩ := bindE h
    refine w_sreg (w_abs [(0, .slice (a0.map e_laws_Term)), (4, .int .i64 x3.1), (5, .int .i64 x3.2), (6, .uslice 2 (x4.map e_impl_Term))] (fun P hP => ?_) ?_)
    · simp only [W0.down, Nat.reduceEqDiff, ↓reduceIte, reduceCtorEq, Nat.reduceAdd, Nat.reduceSub, Nat.reduceMul, Nat.reduceLeDiff, Nat.reduceBEq, Nat.reduceLT, if_true, if_false, beq_self_eq_true, BEq.rfl, ne_eq, e_impl_Term, e_laws_Term]
      refine w_call0 (ok_laws_toTermS a0 _ e13) rfl rfl rfl rfl (.inl (by rfl)) ?_
      simp only [W0.down, Nat.reduceEqDiff, ↓reduceIte, reduceCtorEq, Nat.reduceAdd, Nat.reduceSub, Nat.reduceMul, Nat.reduceLeDiff, Nat.reduceBEq, Nat.reduceLT, if_true, if_false, beq_self_eq_true, BEq.rfl, ne_eq, e_impl_Term, e_laws_Term]
      (try simp only [WN.down, Nat.reduceAdd, if_true, if_false, ↓reduceIte, e_impl_Term, e_laws_Term] at hP)
      (try simp only [WN.down, Nat.reduceAdd, if_true, if_false, ↓reduceIte, e_impl_Term, e_laws_Term])
      exact hP
    obtain ⟨x5, e15, h⟩ := bindE h
    refine w_sreg (w_abs [(0, .slice (a0.map e_laws_Term)), (4, .int .i64 x3.1), (5, .int .i64 x3.2), (6, .uslice 2 (x4.map e_impl_Term)), (7, .int .i64 x5.1), (8, .int .i64 x5.2)] (fun P hP => ?_) ?_)
    · simp only [W0.down, Nat.reduceEqDiff, ↓reduceIte, reduceCtorEq, Nat.reduceAdd, Nat.reduceSub, Nat.reduceMul, Nat.reduceLeDiff, Nat.reduceBEq, Nat.reduceLT, if_true, if_false, beq_self_eq_true, BEq.rfl, ne_eq, e_impl_Term, e_laws_Term]
      refine w_call0 (ok_impl_ConstantOf x4 _ e15) rfl rfl (by simp only [W0.down, Nat.reduceEqDiff, ↓reduceIte, reduceCtorEq, Nat.reduceAdd, Nat.reduceSub, Nat.reduceMul, Nat.reduceLeDiff, Nat.reduceBEq, Nat.reduceLT, if_true, if_false, beq_self_eq_true, BEq.rfl, ne_eq, e_impl_Term, e_laws_Term, view_s, view_h, viewH_s, share_s, @shares_map _ e_impl_Term e_impl_Term (fun _ => sh_e_impl_Term _)]) rfl (.inr (by rfl)) ?_
      simp only [W0.down, Nat.reduceEqDiff, ↓reduceIte, reduceCtorEq, Nat.reduceAdd, Nat.reduceSub, Nat.reduceMul, Nat.reduceLeDiff, Nat.reduceBEq, Nat.reduceLT, if_true, if_false, beq_self_eq_true, BEq.rfl, ne_eq, e_impl_Term, e_laws_Term]
      (try simp only [WN.down, Nat.reduceAdd, if_true, if_false, ↓reduceIte, e_impl_Term, e_laws_Term] at hP)
      (try simp only [WN.down, Nat.reduceAdd, if_true, if_false, ↓reduceIte, e_impl_Term, e_laws_Term])
      exact hP
    refine w_seq (fun Q16 n16 q16 x16 => ?_)
    refine w_sreg (w_abs [(0, .slice (a0.map e_laws_Term)), (6, .uslice 2 (x4.map e_impl_Term)), (34, .bool ((x5.1 != x3.1) || (x5.2 != x3.2)))] (fun P hP => ?_) ?_)
    · rcases Bool.eq_false_or_eq_true ((x5.1 != x3.1)) with s18 | s18
      · simp only [W0.down, Nat.reduceEqDiff, ↓reduceIte, reduceCtorEq, Nat.reduceAdd, Nat.reduceSub, Nat.reduceMul, Nat.reduceLeDiff, Nat.reduceBEq, Nat.reduceLT, if_true, if_false, beq_self_eq_true, BEq.rfl, ne_eq, e_impl_Term, e_laws_Term, s18]
        (try simp only [WN.down, Nat.reduceAdd, if_true, if_false, ↓reduceIte, e_impl_Term, e_laws_Term, s18] at hP)
        (try simp only [WN.down, Nat.reduceAdd, if_true, if_false, ↓reduceIte, e_impl_Term, e_laws_Term, s18])
        exact hP
      · simp only [W0.down, Nat.reduceEqDiff, ↓reduceIte, reduceCtorEq, Nat.reduceAdd, Nat.reduceSub, Nat.reduceMul, Nat.reduceLeDiff, Nat.reduceBEq, Nat.reduceLT, if_true, if_false, beq_self_eq_true, BEq.rfl, ne_eq, e_impl_Term, e_laws_Term, s18]
        (try simp only [WN.down, Nat.reduceAdd, if_true, if_false, ↓reduceIte, e_impl_Term, e_laws_Term, s18] at hP)
        (try simp only [WN.down, Nat.reduceAdd, if_true, if_false, ↓reduceIte, e_impl_Term, e_laws_Term, s18])
        exact hP
    rcases condE h with ⟨b19, h⟩ | ⟨b19, h⟩
    · refine w_ct (congrArg AV.bool b19) ?_
      simp only [b19, Bool.not_true, Bool.not_false]
      refine w_sreg (w_abs [(2, .bool false)] (fun P hP => ?_) ?_)
      · simp only [W0.down, Nat.reduceEqDiff, ↓reduceIte, reduceCtorEq, Nat.reduceAdd, Nat.reduceSub, Nat.reduceMul, Nat.reduceLeDiff, Nat.reduceBEq, Nat.reduceLT, if_true, if_false, beq_self_eq_true, BEq.rfl, ne_eq, e_impl_Term, e_laws_Term]
        (try simp only [WN.down, Nat.reduceAdd, if_true, if_false, ↓reduceIte, e_impl_Term, e_laws_Term] at hP)
        (try simp only [WN.down, Nat.reduceAdd, if_true, if_false, ↓reduceIte, e_impl_Term, e_laws_Term])
        exact hP
      exact w_ret (q16 _ (r0 _ (.inl (w_fin [.bool false] rfl (by cases someE h; rfl) (by decide) outs_nil))))
    · refine w_cf (congrArg AV.bool b19) ?_
      simp only [b19, Bool.not_true, Bool.not_false]
      refine w_skip (n16 _ (.inl ?_))
      refine w_seq (fun Q21 n21 q21 x21 => ?_)
      obtain ⟨x6, e23, h⟩ := bindE h
      obtain ⟨x7, e24, h⟩ := bindE h
      refine w_sreg (w_abs [(39, .bool (!x7))] (fun P hP => ?_) ?_)
      · simp only [W0.down, Nat.reduceEqDiff, ↓reduceIte, reduceCtorEq, Nat.reduceAdd, Nat.reduceSub, Nat.reduceMul, Nat.reduceLeDiff, Nat.reduceBEq, Nat.reduceLT, if_true, if_false, beq_self_eq_true, BEq.rfl, ne_eq, e_impl_Term, e_laws_Term]
        refine w_call0 (ok_laws_toTermS a0 _ e23) rfl rfl rfl rfl (.inl (by rfl)) ?_
        simp only [W0.down, Nat.reduceEqDiff, ↓reduceIte, reduceCtorEq, Nat.reduceAdd, Nat.reduceSub, Nat.reduceMul, Nat.reduceLeDiff, Nat.reduceBEq, Nat.reduceLT, if_true, if_false, beq_self_eq_true, BEq.rfl, ne_eq, e_impl_Term, e_laws_Term]
        refine w_call0 (ok_laws_eqTermS x4 x6 _ e24) rfl rfl (by simp only [W0.down, Nat.reduceEqDiff, ↓reduceIte, reduceCtorEq, Nat.reduceAdd, Nat.reduceSub, Nat.reduceMul, Nat.reduceLeDiff, Nat.reduceBEq, Nat.reduceLT, if_true, if_false, beq_self_eq_true, BEq.rfl, ne_eq, e_impl_Term, e_laws_Term, view_s, view_h, viewH_s, share_s, @shares_map _ e_impl_Term e_impl_Term (fun _ => sh_e_impl_Term _), @shares_map _ e_impl_Term e_impl_Term (fun _ => sh_e_impl_Term _)]) rfl (.inr (by rfl)) ?_
        simp only [W0.down, Nat.reduceEqDiff, ↓reduceIte, reduceCtorEq, Nat.reduceAdd, Nat.reduceSub, Nat.reduceMul, Nat.reduceLeDiff, Nat.reduceBEq, Nat.reduceLT, if_true, if_false, beq_self_eq_true, BEq.rfl, ne_eq, e_impl_Term, e_laws_Term]
        (try simp only [WN.down, Nat.reduceAdd, if_true, if_false, ↓reduceIte, e_impl_Term, e_laws_Term] at hP)
        (try simp only [WN.down, Nat.reduceAdd, if_true, if_false, ↓reduceIte, e_impl_Term, e_laws_Term])
        exact hP
      rcases condE h with ⟨b25, h⟩ | ⟨b25, h⟩
      · refine w_ct (congrArg AV.bool b25) ?_
        simp only [b25, Bool.not_true, Bool.not_false]
        refine w_sreg (w_abs [(2, .bool false)] (fun P hP => ?_) ?_)
        · simp only [W0.down, Nat.reduceEqDiff, ↓reduceIte, reduceCtorEq, Nat.reduceAdd, Nat.reduceSub, Nat.reduceMul, Nat.reduceLeDiff, Nat.reduceBEq, Nat.reduceLT, if_true, if_false, beq_self_eq_true, BEq.rfl, ne_eq]
          (try simp only [WN.down, Nat.reduceAdd, if_true, if_false, ↓reduceIte] at hP)
          (try simp only [WN.down, Nat.reduceAdd, if_true, if_false, ↓reduceIte])
          exact hP
        exact w_ret (q21 _ (r0 _ (.inl (w_fin [.bool false] rfl (by cases someE h; rfl) (by decide) outs_nil))))
      · refine w_cf (congrArg AV.bool b25) ?_
        simp only [b25, Bool.not_true, Bool.not_false]
        refine w_skip (n21 _ (.inl ?_))
        refine w_sreg (w_abs [(2, .bool true)] (fun P hP => ?_) ?_)
        · simp only [W0.down, Nat.reduceEqDiff, ↓reduceIte, reduceCtorEq, Nat.reduceAdd, Nat.reduceSub, Nat.reduceMul, Nat.reduceLeDiff, Nat.reduceBEq, Nat.reduceLT, if_true, if_false, beq_self_eq_true, BEq.rfl, ne_eq]
          (try simp only [WN.down, Nat.reduceAdd, if_true, if_false, ↓reduceIte] at hP)
          (try simp only [WN.down, Nat.reduceAdd, if_true, if_false, ↓reduceIte])
          exact hP
        exact w_ret (r0 _ (.inl (w_fin [.bool true] rfl (by cases someE h; rfl) (by decide) outs_nil)))

end Go.Proofs.Ytobljppjkklojaa
