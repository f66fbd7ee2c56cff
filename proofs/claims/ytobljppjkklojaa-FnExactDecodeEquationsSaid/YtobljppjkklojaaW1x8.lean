/- Part of a proof that a law returns true for every input. No condition. -/
import Derived.Test.YtobljppjkklojaaC8
namespace Go.Proofs.Ytobljppjkklojaa
open Go Go.Fw Go.Sh
set_option maxRecDepth 100000
set_option linter.unusedSimpArgs false
set_option linter.unusedVariables false

theorem ok_spec_l01Crc  (a0 : List UInt8) (a1 : Int) (r : Int) (h : spec_l01Crc  a0 a1 = some r) : OkAt Cc 210 [.str a0, .int .i64 a1] (.int .i64 r) [] := by
  refine OkAt.of_wpQ (fx := [0]) Cc_ok Try.func210 rfl rfl s210 (Nat.le_of_ble_eq_true rfl) (fun Q0 r0 n0 => ?_)
  replace r0 : ∀ s, onW (Fw.Ends Cc [0] [.tmp 4] (.int .i64 r) []) s → Q0 .ret s := r0
  replace n0 : ∀ s, onW (Fw.Ends Cc [0] [.tmp 4] (.int .i64 r) []) s → Q0 .normal s := n0
  show wpC Cc c210 Q0 (stA [(0, .str a0), (1, .int .i64 a1)])
  refine w_sreg (w_abs [(0, .str a0), (1, .int .i64 a1)] (fun P hP => ?_) ?_)
  · simp only [W0.down, Nat.reduceEqDiff, ↓reduceIte, reduceCtorEq, Nat.reduceAdd, Nat.reduceSub, Nat.reduceMul, Nat.reduceLeDiff, Nat.reduceBEq, Nat.reduceLT, if_true, if_false, beq_self_eq_true, BEq.rfl, ne_eq]
    (try simp only [WN.down, Nat.reduceAdd, if_true, if_false, ↓reduceIte] at hP)
    (try simp only [WN.down, Nat.reduceAdd, if_true, if_false, ↓reduceIte])
    exact hP
  refine w_seq (fun Q2 n2 q2 x2 => ?_)
  refine w_sreg (w_abs [(0, .str a0), (1, .int .i64 a1), (5, .int .i64 0)] (fun P hP => ?_) ?_)
  · simp only [W0.down, Nat.reduceEqDiff, ↓reduceIte, reduceCtorEq, Nat.reduceAdd, Nat.reduceSub, Nat.reduceMul, Nat.reduceLeDiff, Nat.reduceBEq, Nat.reduceLT, if_true, if_false, beq_self_eq_true, BEq.rfl, ne_eq]
    (try simp only [WN.down, Nat.reduceAdd, if_true, if_false, ↓reduceIte] at hP)
    (try simp only [WN.down, Nat.reduceAdd, if_true, if_false, ↓reduceIte])
    exact hP
  refine w_blk (fun Q4 n4 q4 b4 x4 => ?_)
  have L6 : ∀ (n : Nat) (v1_6 : Int) (v5_6 : Int), spec_l01Crc_l6 a0 n v1_6 v5_6 = some r → lpC Cc c210_7 Q4 (stA [(0, .str a0), (1, .int .i64 v1_6), (5, .int .i64 v5_6)]) := by
    intro m6
    induction m6 with
    | zero => intro v1_6 v5_6 h; cases (show none = some r from h)
    | succ m6 ih6 =>
      intro v1_6 v5_6 h
      replace h : spec_l01Crc_b6 (spec_l01Crc_l6 a0 m6) a0 v1_6 v5_6 = some r := h
      refine lpC_step (fun Q5 n5 q5 x5 => ?_)
      refine w_seq (fun Q6 n6 q6 x6 => ?_)
      refine w_sreg (w_abs [(0, .str a0), (1, .int .i64 v1_6), (5, .int .i64 v5_6), (10, .bool (decide (v5_6 < (a0.length : Int))))] (fun P hP => ?_) ?_)
      · simp only [W0.down, Nat.reduceEqDiff, ↓reduceIte, reduceCtorEq, Nat.reduceAdd, Nat.reduceSub, Nat.reduceMul, Nat.reduceLeDiff, Nat.reduceBEq, Nat.reduceLT, if_true, if_false, beq_self_eq_true, BEq.rfl, ne_eq, tt9]
        (try simp only [WN.down, Nat.reduceAdd, if_true, if_false, ↓reduceIte, tt9] at hP)
        (try simp only [WN.down, Nat.reduceAdd, if_true, if_false, ↓reduceIte, tt9])
        exact hP
      rcases condE h with ⟨b8, h⟩ | ⟨b8, h⟩
      · refine w_ct (congrArg AV.bool b8) ?_
        simp only [b8, Bool.not_true, Bool.not_false]
        refine w_skip (n6 _ (.inl ?_))
        refine w_seq (fun Q9 n9 q9 x9 => ?_)
        refine w_blk (fun Q10 n10 q10 b10 x10 => ?_)
        obtain ⟨x1, e12, h⟩ := bindE h
        refine w_sreg (w_abs [(0, .str a0), (1, .int .i64 (bitsOf .xor .i64 v1_6 (IntKind.i64.wrap ((x1.toNat : Int) * 2 ^ (min (Int.toNat 8) 64))))), (5, .int .i64 v5_6)] (fun P hP => ?_) ?_)
        · simp only [W0.down, Nat.reduceEqDiff, ↓reduceIte, reduceCtorEq, Nat.reduceAdd, Nat.reduceSub, Nat.reduceMul, Nat.reduceLeDiff, Nat.reduceBEq, Nat.reduceLT, if_true, if_false, beq_self_eq_true, BEq.rfl, ne_eq, tt9, e12, @cvt_i' Cc 5 2 .i64 rfl rfl, @bnI_shl' .i64 .u64 8 (by decide)]
          (try simp only [WN.down, Nat.reduceAdd, if_true, if_false, ↓reduceIte, tt9, e12, @cvt_i' Cc 5 2 .i64 rfl rfl, @bnI_shl' .i64 .u64 8 (by decide)] at hP)
          (try simp only [WN.down, Nat.reduceAdd, if_true, if_false, ↓reduceIte, tt9, e12, @cvt_i' Cc 5 2 .i64 rfl rfl, @bnI_shl' .i64 .u64 8 (by decide)])
          exact hP
        refine w_sreg (w_abs [(0, .str a0), (1, .int .i64 (bitsOf .xor .i64 v1_6 (IntKind.i64.wrap ((x1.toNat : Int) * 2 ^ (min (Int.toNat 8) 64))))), (5, .int .i64 v5_6), (6, .int .i64 0)] (fun P hP => ?_) ?_)
        · simp only [W0.down, Nat.reduceEqDiff, ↓reduceIte, reduceCtorEq, Nat.reduceAdd, Nat.reduceSub, Nat.reduceMul, Nat.reduceLeDiff, Nat.reduceBEq, Nat.reduceLT, if_true, if_false, beq_self_eq_true, BEq.rfl, ne_eq]
          (try simp only [WN.down, Nat.reduceAdd, if_true, if_false, ↓reduceIte] at hP)
          (try simp only [WN.down, Nat.reduceAdd, if_true, if_false, ↓reduceIte])
          exact hP
        refine w_blk (fun Q14 n14 q14 b14 x14 => ?_)
        have L20 : ∀ (n : Nat) (v1_20 : Int) (v5_20 : Int) (v6_20 : Int), spec_l01Crc_l20 (spec_l01Crc_l6 a0 m6) a0 n v1_20 v5_20 v6_20 = some r → lpC Cc c210_21 Q14 (stA [(0, .str a0), (1, .int .i64 v1_20), (5, .int .i64 v5_20), (6, .int .i64 v6_20)]) := by
          intro m20
          induction m20 with
          | zero => intro v1_20 v5_20 v6_20 h; cases (show none = some r from h)
          | succ m20 ih20 =>
            intro v1_20 v5_20 v6_20 h
            replace h : spec_l01Crc_b20 (spec_l01Crc_l6 a0 m6) (spec_l01Crc_l20 (spec_l01Crc_l6 a0 m6) a0 m20) a0 v1_20 v5_20 v6_20 = some r := h
            refine lpC_step (fun Q15 n15 q15 x15 => ?_)
            refine w_seq (fun Q16 n16 q16 x16 => ?_)
            refine w_sreg (w_abs [(0, .str a0), (1, .int .i64 v1_20), (5, .int .i64 v5_20), (6, .int .i64 v6_20), (21, .bool (decide (v6_20 < 8)))] (fun P hP => ?_) ?_)
            · simp only [W0.down, Nat.reduceEqDiff, ↓reduceIte, reduceCtorEq, Nat.reduceAdd, Nat.reduceSub, Nat.reduceMul, Nat.reduceLeDiff, Nat.reduceBEq, Nat.reduceLT, if_true, if_false, beq_self_eq_true, BEq.rfl, ne_eq]
              (try simp only [WN.down, Nat.reduceAdd, if_true, if_false, ↓reduceIte] at hP)
              (try simp only [WN.down, Nat.reduceAdd, if_true, if_false, ↓reduceIte])
              exact hP
            rcases condE h with ⟨b18, h⟩ | ⟨b18, h⟩
            · refine w_ct (congrArg AV.bool b18) ?_
              simp only [b18, Bool.not_true, Bool.not_false]
              refine w_skip (n16 _ (.inl ?_))
              have K36 : ∀ (v1_36 : Int) (v5_36 : Int) (v6_36 : Int), spec_l01Crc_k36 (spec_l01Crc_l6 a0 m6) (spec_l01Crc_l20 (spec_l01Crc_l6 a0 m6) a0 m20) a0 v1_36 v5_36 v6_36 = some r → wpC Cc c210_36 Q15 (stA [(0, .str a0), (1, .int .i64 v1_36), (5, .int .i64 v5_36), (6, .int .i64 v6_36)]) := by
                intro v1_36 v5_36 v6_36 h
                refine w_reg (w_abs [(0, .str a0), (1, .int .i64 v1_36), (5, .int .i64 v5_36), (6, .int .i64 (IntKind.i64.wrap (v6_36 + 1)))] (fun P hP => ?_) ?_)
                · simp only [W0.down, Nat.reduceEqDiff, ↓reduceIte, reduceCtorEq, Nat.reduceAdd, Nat.reduceSub, Nat.reduceMul, Nat.reduceLeDiff, Nat.reduceBEq, Nat.reduceLT, if_true, if_false, beq_self_eq_true, BEq.rfl, ne_eq]
                  (try simp only [WN.down, Nat.reduceAdd, if_true, if_false, ↓reduceIte] at hP)
                  (try simp only [WN.down, Nat.reduceAdd, if_true, if_false, ↓reduceIte])
                  exact hP
                exact n15 _ (.inr ⟨_, weak_eq rfl, ih20 v1_36 v5_36 (IntKind.i64.wrap (v6_36 + 1)) h⟩)
              refine w_seq (fun Q19 n19 q19 x19 => ?_)
              refine w_blk (fun Q21 n21 q21 b21 x21 => ?_)
              refine w_sreg (w_abs [(0, .str a0), (1, .int .i64 (IntKind.i64.wrap (v1_20 * 2 ^ (min (Int.toNat 1) 64)))), (5, .int .i64 v5_20), (6, .int .i64 v6_20)] (fun P hP => ?_) ?_)
              · simp only [W0.down, Nat.reduceEqDiff, ↓reduceIte, reduceCtorEq, Nat.reduceAdd, Nat.reduceSub, Nat.reduceMul, Nat.reduceLeDiff, Nat.reduceBEq, Nat.reduceLT, if_true, if_false, beq_self_eq_true, BEq.rfl, ne_eq, @bnI_shl' .i64 .u64 1 (by decide)]
                (try simp only [WN.down, Nat.reduceAdd, if_true, if_false, ↓reduceIte, @bnI_shl' .i64 .u64 1 (by decide)] at hP)
                (try simp only [WN.down, Nat.reduceAdd, if_true, if_false, ↓reduceIte, @bnI_shl' .i64 .u64 1 (by decide)])
                exact hP
              refine w_sreg (w_abs [(0, .str a0), (1, .int .i64 (IntKind.i64.wrap (v1_20 * 2 ^ (min (Int.toNat 1) 64)))), (5, .int .i64 v5_20), (6, .int .i64 v6_20), (27, .bool (decide (65535 < (IntKind.i64.wrap (v1_20 * 2 ^ (min (Int.toNat 1) 64))))))] (fun P hP => ?_) ?_)
              · simp only [W0.down, Nat.reduceEqDiff, ↓reduceIte, reduceCtorEq, Nat.reduceAdd, Nat.reduceSub, Nat.reduceMul, Nat.reduceLeDiff, Nat.reduceBEq, Nat.reduceLT, if_true, if_false, beq_self_eq_true, BEq.rfl, ne_eq]
                (try simp only [WN.down, Nat.reduceAdd, if_true, if_false, ↓reduceIte] at hP)
                (try simp only [WN.down, Nat.reduceAdd, if_true, if_false, ↓reduceIte])
                exact hP
              rcases condE h with ⟨b24, h⟩ | ⟨b24, h⟩
              · refine w_ct (congrArg AV.bool b24) ?_
                simp only [b24, Bool.not_true, Bool.not_false]
                refine w_reg (w_abs [(0, .str a0), (1, .int .i64 (bitsOf .xor .i64 (bitsOf .and .i64 (IntKind.i64.wrap (v1_20 * 2 ^ (min (Int.toNat 1) 64))) 65535) 4129)), (5, .int .i64 v5_20), (6, .int .i64 v6_20)] (fun P hP => ?_) ?_)
                · simp only [W0.down, Nat.reduceEqDiff, ↓reduceIte, reduceCtorEq, Nat.reduceAdd, Nat.reduceSub, Nat.reduceMul, Nat.reduceLeDiff, Nat.reduceBEq, Nat.reduceLT, if_true, if_false, beq_self_eq_true, BEq.rfl, ne_eq]
                  (try simp only [WN.down, Nat.reduceAdd, if_true, if_false, ↓reduceIte] at hP)
                  (try simp only [WN.down, Nat.reduceAdd, if_true, if_false, ↓reduceIte])
                  exact hP
                exact n21 _ (n19 _ (.inr ⟨_, weak_eq rfl, K36 (bitsOf .xor .i64 (bitsOf .and .i64 (IntKind.i64.wrap (v1_20 * 2 ^ (min (Int.toNat 1) 64))) 65535) 4129) v5_20 v6_20 h⟩))
              · refine w_cf (congrArg AV.bool b24) ?_
                simp only [b24, Bool.not_true, Bool.not_false]
                exact w_skip (n21 _ (n19 _ (.inr ⟨_, weak_eq rfl, K36 (IntKind.i64.wrap (v1_20 * 2 ^ (min (Int.toNat 1) 64))) v5_20 v6_20 h⟩)))
            · refine w_cf (congrArg AV.bool b18) ?_
              simp only [b18, Bool.not_true, Bool.not_false]
              refine w_ex (x16 2 _ (x15 2 _ (b14 _ (n10 _ (n9 _ (.inl ?_))))))
              refine w_reg (w_abs [(0, .str a0), (1, .int .i64 v1_20), (5, .int .i64 (IntKind.i64.wrap (v5_20 + 1)))] (fun P hP => ?_) ?_)
              · simp only [W0.down, Nat.reduceEqDiff, ↓reduceIte, reduceCtorEq, Nat.reduceAdd, Nat.reduceSub, Nat.reduceMul, Nat.reduceLeDiff, Nat.reduceBEq, Nat.reduceLT, if_true, if_false, beq_self_eq_true, BEq.rfl, ne_eq]
                (try simp only [WN.down, Nat.reduceAdd, if_true, if_false, ↓reduceIte] at hP)
                (try simp only [WN.down, Nat.reduceAdd, if_true, if_false, ↓reduceIte])
                exact hP
              exact n5 _ (.inr ⟨_, weak_eq rfl, ih6 v1_20 (IntKind.i64.wrap (v5_20 + 1)) h⟩)
        obtain ⟨n, h⟩ := limE h
        exact w_loop (.inr ⟨_, weak_eq rfl, L20 n (bitsOf .xor .i64 v1_6 (IntKind.i64.wrap ((x1.toNat : Int) * 2 ^ (min (Int.toNat 8) 64)))) v5_6 0 h⟩)
      · refine w_cf (congrArg AV.bool b8) ?_
        simp only [b8, Bool.not_true, Bool.not_false]
        refine w_ex (x6 0 _ (x5 0 _ (b4 _ (n2 _ (.inl ?_)))))
        refine w_sreg (w_abs [(4, .int .i64 v1_6)] (fun P hP => ?_) ?_)
        · simp only [W0.down, Nat.reduceEqDiff, ↓reduceIte, reduceCtorEq, Nat.reduceAdd, Nat.reduceSub, Nat.reduceMul, Nat.reduceLeDiff, Nat.reduceBEq, Nat.reduceLT, if_true, if_false, beq_self_eq_true, BEq.rfl, ne_eq]
          (try simp only [WN.down, Nat.reduceAdd, if_true, if_false, ↓reduceIte] at hP)
          (try simp only [WN.down, Nat.reduceAdd, if_true, if_false, ↓reduceIte])
          exact hP
        exact w_ret (r0 _ (.inl (w_fin [.int .i64 v1_6] rfl (by cases someE h; rfl) (by decide) outs_nil)))
  obtain ⟨n, h⟩ := limE h
  exact w_loop (.inr ⟨_, weak_eq rfl, L6 n a1 0 h⟩)

theorem ok_spec_l00In  (a0 : Int) (a1 : Int) (a2 : Int) (r : Bool) (h : spec_l00In  a0 a1 a2 = some r) : OkAt Cc 130 [.int .i64 a0, .int .i64 a1, .int .i64 a2] (.bool r) [] := by
  refine OkAt.of_wpQ (fx := [0, 1, 2]) Cc_ok Try.func130 rfl rfl s130 (Nat.le_of_ble_eq_true rfl) (fun Q0 r0 n0 => ?_)
  replace r0 : ∀ s, onW (Fw.Ends Cc [0, 1, 2] [.tmp 6] (.bool r) []) s → Q0 .ret s := r0
  replace n0 : ∀ s, onW (Fw.Ends Cc [0, 1, 2] [.tmp 6] (.bool r) []) s → Q0 .normal s := n0
  show wpC Cc c130 Q0 (stA [(0, .int .i64 a0), (1, .int .i64 a1), (2, .int .i64 a2)])
  refine w_sreg (w_abs [(0, .int .i64 a0), (1, .int .i64 a1), (2, .int .i64 a2)] (fun P hP => ?_) ?_)
  · simp only [W0.down, Nat.reduceEqDiff, ↓reduceIte, reduceCtorEq, Nat.reduceAdd, Nat.reduceSub, Nat.reduceMul, Nat.reduceLeDiff, Nat.reduceBEq, Nat.reduceLT, if_true, if_false, beq_self_eq_true, BEq.rfl, ne_eq]
    (try simp only [WN.down, Nat.reduceAdd, if_true, if_false, ↓reduceIte] at hP)
    (try simp only [WN.down, Nat.reduceAdd, if_true, if_false, ↓reduceIte])
    exact hP
  refine w_sreg (w_abs [(6, .bool ((decide (a1 ≤ a0)) && (decide (a0 ≤ a2))))] (fun P hP => ?_) ?_)
  · rcases Bool.eq_false_or_eq_true ((decide (a1 ≤ a0))) with s3 | s3
    · simp only [W0.down, Nat.reduceEqDiff, ↓reduceIte, reduceCtorEq, Nat.reduceAdd, Nat.reduceSub, Nat.reduceMul, Nat.reduceLeDiff, Nat.reduceBEq, Nat.reduceLT, if_true, if_false, beq_self_eq_true, BEq.rfl, ne_eq, s3]
      (try simp only [WN.down, Nat.reduceAdd, if_true, if_false, ↓reduceIte, s3] at hP)
      (try simp only [WN.down, Nat.reduceAdd, if_true, if_false, ↓reduceIte, s3])
      exact hP
    · simp only [W0.down, Nat.reduceEqDiff, ↓reduceIte, reduceCtorEq, Nat.reduceAdd, Nat.reduceSub, Nat.reduceMul, Nat.reduceLeDiff, Nat.reduceBEq, Nat.reduceLT, if_true, if_false, beq_self_eq_true, BEq.rfl, ne_eq, s3]
      (try simp only [WN.down, Nat.reduceAdd, if_true, if_false, ↓reduceIte, s3] at hP)
      (try simp only [WN.down, Nat.reduceAdd, if_true, if_false, ↓reduceIte, s3])
      exact hP
  exact w_ret (r0 _ (.inl (w_fin [.bool ((decide (a1 ≤ a0)) && (decide (a0 ≤ a2)))] rfl (by cases someE h; rfl) (by decide) outs_nil)))

theorem ok_spec_l32Kind  (a0 : List UInt8) (r : Int × Int) (h : spec_l32Kind  a0 = some r) : OkAt Cc 125 [.str a0] (.tuple [.int .i64 r.1, .int .i64 r.2]) [] := by
  refine OkAt.of_wpQ (fx := [0]) Cc_ok Try.func125 rfl rfl s125 (Nat.le_of_ble_eq_true rfl) (fun Q0 r0 n0 => ?_)
  replace r0 : ∀ s, onW (Fw.Ends Cc [0] [.tmp 2, .tmp 3] (.tuple [.int .i64 r.1, .int .i64 r.2]) []) s → Q0 .ret s := r0
  replace n0 : ∀ s, onW (Fw.Ends Cc [0] [.tmp 2, .tmp 3] (.tuple [.int .i64 r.1, .int .i64 r.2]) []) s → Q0 .normal s := n0
  show wpC Cc c125 Q0 (stA [(0, .str a0)])
  refine w_sreg (w_abs [(0, .str a0)] (fun P hP => ?_) ?_)
  · simp only [W0.down, Nat.reduceEqDiff, ↓reduceIte, reduceCtorEq, Nat.reduceAdd, Nat.reduceSub, Nat.reduceMul, Nat.reduceLeDiff, Nat.reduceBEq, Nat.reduceLT, if_true, if_false, beq_self_eq_true, BEq.rfl, ne_eq]
    (try simp only [WN.down, Nat.reduceAdd, if_true, if_false, ↓reduceIte] at hP)
    (try simp only [WN.down, Nat.reduceAdd, if_true, if_false, ↓reduceIte])
    exact hP
  refine w_sreg (w_abs [(0, .str a0), (4, .int .i64 (a0.length : Int))] (fun P hP => ?_) ?_)
  · simp only [W0.down, Nat.reduceEqDiff, ↓reduceIte, reduceCtorEq, Nat.reduceAdd, Nat.reduceSub, Nat.reduceMul, Nat.reduceLeDiff, Nat.reduceBEq, Nat.reduceLT, if_true, if_false, beq_self_eq_true, BEq.rfl, ne_eq, tt9]
    (try simp only [WN.down, Nat.reduceAdd, if_true, if_false, ↓reduceIte, tt9] at hP)
    (try simp only [WN.down, Nat.reduceAdd, if_true, if_false, ↓reduceIte, tt9])
    exact hP
  refine w_seq (fun Q3 n3 q3 x3 => ?_)
  refine w_sreg (w_abs [(0, .str a0), (4, .int .i64 (a0.length : Int)), (9, .bool (decide ((a0.length : Int) < 3)))] (fun P hP => ?_) ?_)
  · simp only [W0.down, Nat.reduceEqDiff, ↓reduceIte, reduceCtorEq, Nat.reduceAdd, Nat.reduceSub, Nat.reduceMul, Nat.reduceLeDiff, Nat.reduceBEq, Nat.reduceLT, if_true, if_false, beq_self_eq_true, BEq.rfl, ne_eq]
    (try simp only [WN.down, Nat.reduceAdd, if_true, if_false, ↓reduceIte] at hP)
    (try simp only [WN.down, Nat.reduceAdd, if_true, if_false, ↓reduceIte])
    exact hP
  rcases condE h with ⟨b5, h⟩ | ⟨b5, h⟩
  · refine w_ct (congrArg AV.bool b5) ?_
    simp only [b5, Bool.not_true, Bool.not_false]
    refine w_sreg (w_abs [(2, .int .i64 0), (3, .int .i64 11)] (fun P hP => ?_) ?_)
    · simp only [W0.down, Nat.reduceEqDiff, ↓reduceIte, reduceCtorEq, Nat.reduceAdd, Nat.reduceSub, Nat.reduceMul, Nat.reduceLeDiff, Nat.reduceBEq, Nat.reduceLT, if_true, if_false, beq_self_eq_true, BEq.rfl, ne_eq]
      (try simp only [WN.down, Nat.reduceAdd, if_true, if_false, ↓reduceIte] at hP)
      (try simp only [WN.down, Nat.reduceAdd, if_true, if_false, ↓reduceIte])
      exact hP
    exact w_ret (q3 _ (r0 _ (.inl (w_fin [.int .i64 0, .int .i64 11] rfl (by cases someE h; rfl) (by decide) outs_nil))))
  · refine w_cf (congrArg AV.bool b5) ?_
    simp only [b5, Bool.not_true, Bool.not_false]
    refine w_skip (n3 _ (.inl ?_))
    refine w_seq (fun Q7 n7 q7 x7 => ?_)
    obtain ⟨x1, e9, h⟩ := bindE h
    obtain ⟨x2, e10, h⟩ := bindE h
    obtain ⟨x3, e11, h⟩ := bindE h
    obtain ⟨x4, e12, h⟩ := bindE h
    refine w_sdrw rfl (w_absd [(0, .str a0), (4, .int .i64 (a0.length : Int)), (27, .bool (x2 != (IntKind.i64.wrap ((IntKind.i64.wrap ((x3.toNat : Int) * 256)) + (x4.toNat : Int)))))] (fun P hP => ?_) ?_)
    · simp only [W1.down, Nat.reduceEqDiff, ↓reduceIte, reduceCtorEq, Nat.reduceAdd, Nat.reduceSub, Nat.reduceMul, Nat.reduceLeDiff, Nat.reduceBEq, Nat.reduceLT, if_true, if_false, beq_self_eq_true, BEq.rfl, ne_eq, tt9, e9, e11, @cvt_i' Cc 5 2 .i64 rfl rfl, e12]
      refine w_call1 (ok_spec_l01Crc x1 65535 _ e10) rfl rfl rfl rfl (.inl (by rfl)) ?_
      simp only [W1.down, Nat.reduceEqDiff, ↓reduceIte, reduceCtorEq, Nat.reduceAdd, Nat.reduceSub, Nat.reduceMul, Nat.reduceLeDiff, Nat.reduceBEq, Nat.reduceLT, if_true, if_false, beq_self_eq_true, BEq.rfl, ne_eq, tt9, e9, e11, @cvt_i' Cc 5 2 .i64 rfl rfl, e12]
      refine ⟨by kernel_rfl, ?_⟩
      (try simp only [WN.down, Nat.reduceAdd, if_true, if_false, ↓reduceIte, tt9, e9, e11, @cvt_i' Cc 5 2 .i64 rfl rfl, e12] at hP)
      (try simp only [WN.down, Nat.reduceAdd, if_true, if_false, ↓reduceIte, tt9, e9, e11, @cvt_i' Cc 5 2 .i64 rfl rfl, e12])
      exact hP
    rcases condE h with ⟨b13, h⟩ | ⟨b13, h⟩
    · refine w_ct (congrArg AV.bool b13) ?_
      simp only [b13, Bool.not_true, Bool.not_false]
      refine w_sreg (w_abs [(2, .int .i64 0), (3, .int .i64 10)] (fun P hP => ?_) ?_)
      · simp only [W0.down, Nat.reduceEqDiff, ↓reduceIte, reduceCtorEq, Nat.reduceAdd, Nat.reduceSub, Nat.reduceMul, Nat.reduceLeDiff, Nat.reduceBEq, Nat.reduceLT, if_true, if_false, beq_self_eq_true, BEq.rfl, ne_eq]
        (try simp only [WN.down, Nat.reduceAdd, if_true, if_false, ↓reduceIte] at hP)
        (try simp only [WN.down, Nat.reduceAdd, if_true, if_false, ↓reduceIte])
        exact hP
      exact w_ret (q7 _ (r0 _ (.inl (w_fin [.int .i64 0, .int .i64 10] rfl (by cases someE h; rfl) (by decide) outs_nil))))
    · refine w_cf (congrArg AV.bool b13) ?_
      simp only [b13, Bool.not_true, Bool.not_false]
      refine w_skip (n7 _ (.inl ?_))
      obtain ⟨x5, e16, h⟩ := bindE h
      refine w_sreg (w_abs [(4, .int .i64 (a0.length : Int)), (5, .int .i64 (x5.toNat : Int))] (fun P hP => ?_) ?_)
      · simp only [W0.down, Nat.reduceEqDiff, ↓reduceIte, reduceCtorEq, Nat.reduceAdd, Nat.reduceSub, Nat.reduceMul, Nat.reduceLeDiff, Nat.reduceBEq, Nat.reduceLT, if_true, if_false, beq_self_eq_true, BEq.rfl, ne_eq, tt9, e16, @cvt_i' Cc 5 2 .i64 rfl rfl]
        (try simp only [WN.down, Nat.reduceAdd, if_true, if_false, ↓reduceIte, tt9, e16, @cvt_i' Cc 5 2 .i64 rfl rfl] at hP)
        (try simp only [WN.down, Nat.reduceAdd, if_true, if_false, ↓reduceIte, tt9, e16, @cvt_i' Cc 5 2 .i64 rfl rfl])
        exact hP
      refine w_seq (fun Q17 n17 q17 x17 => ?_)
      obtain ⟨x6, e19, h⟩ := bindE h
      refine w_sreg (w_abs [(5, .int .i64 (x5.toNat : Int)), (37, .bool ((!x6) || (decide (6000 < (a0.length : Int)))))] (fun P hP => ?_) ?_)
      · rcases Bool.eq_false_or_eq_true ((!x6)) with s20 | s20
        · simp only [W0.down, Nat.reduceEqDiff, ↓reduceIte, reduceCtorEq, Nat.reduceAdd, Nat.reduceSub, Nat.reduceMul, Nat.reduceLeDiff, Nat.reduceBEq, Nat.reduceLT, if_true, if_false, beq_self_eq_true, BEq.rfl, ne_eq, s20]
          refine w_call0 (ok_spec_l00In (x5.toNat : Int) 1 3 _ e19) rfl rfl rfl rfl (.inl (by rfl)) ?_
          simp only [W0.down, Nat.reduceEqDiff, ↓reduceIte, reduceCtorEq, Nat.reduceAdd, Nat.reduceSub, Nat.reduceMul, Nat.reduceLeDiff, Nat.reduceBEq, Nat.reduceLT, if_true, if_false, beq_self_eq_true, BEq.rfl, ne_eq, s20]
          (try simp only [WN.down, Nat.reduceAdd, if_true, if_false, ↓reduceIte, s20] at hP)
          (try simp only [WN.down, Nat.reduceAdd, if_true, if_false, ↓reduceIte, s20])
          exact hP
        · simp only [W0.down, Nat.reduceEqDiff, ↓reduceIte, reduceCtorEq, Nat.reduceAdd, Nat.reduceSub, Nat.reduceMul, Nat.reduceLeDiff, Nat.reduceBEq, Nat.reduceLT, if_true, if_false, beq_self_eq_true, BEq.rfl, ne_eq, s20]
          refine w_call0 (ok_spec_l00In (x5.toNat : Int) 1 3 _ e19) rfl rfl rfl rfl (.inl (by rfl)) ?_
          simp only [W0.down, Nat.reduceEqDiff, ↓reduceIte, reduceCtorEq, Nat.reduceAdd, Nat.reduceSub, Nat.reduceMul, Nat.reduceLeDiff, Nat.reduceBEq, Nat.reduceLT, if_true, if_false, beq_self_eq_true, BEq.rfl, ne_eq, s20]
          (try simp only [WN.down, Nat.reduceAdd, if_true, if_false, ↓reduceIte, s20] at hP)
          (try simp only [WN.down, Nat.reduceAdd, if_true, if_false, ↓reduceIte, s20])
          exact hP
      rcases condE h with ⟨b21, h⟩ | ⟨b21, h⟩
      · refine w_ct (congrArg AV.bool b21) ?_
        simp only [b21, Bool.not_true, Bool.not_false]
        refine w_sreg (w_abs [(2, .int .i64 0), (3, .int .i64 9)] (fun P hP => ?_) ?_)
        · simp only [W0.down, Nat.reduceEqDiff, ↓reduceIte, reduceCtorEq, Nat.reduceAdd, Nat.reduceSub, Nat.reduceMul, Nat.reduceLeDiff, Nat.reduceBEq, Nat.reduceLT, if_true, if_false, beq_self_eq_true, BEq.rfl, ne_eq]
          (try simp only [WN.down, Nat.reduceAdd, if_true, if_false, ↓reduceIte] at hP)
          (try simp only [WN.down, Nat.reduceAdd, if_true, if_false, ↓reduceIte])
          exact hP
        exact w_ret (q17 _ (r0 _ (.inl (w_fin [.int .i64 0, .int .i64 9] rfl (by cases someE h; rfl) (by decide) outs_nil))))
      · refine w_cf (congrArg AV.bool b21) ?_
        simp only [b21, Bool.not_true, Bool.not_false]
        refine w_skip (n17 _ (.inl ?_))
        refine w_sreg (w_abs [(2, .int .i64 (x5.toNat : Int)), (3, .int .i64 0)] (fun P hP => ?_) ?_)
        · simp only [W0.down, Nat.reduceEqDiff, ↓reduceIte, reduceCtorEq, Nat.reduceAdd, Nat.reduceSub, Nat.reduceMul, Nat.reduceLeDiff, Nat.reduceBEq, Nat.reduceLT, if_true, if_false, beq_self_eq_true, BEq.rfl, ne_eq]
          (try simp only [WN.down, Nat.reduceAdd, if_true, if_false, ↓reduceIte] at hP)
          (try simp only [WN.down, Nat.reduceAdd, if_true, if_false, ↓reduceIte])
          exact hP
        exact w_ret (r0 _ (.inl (w_fin [.int .i64 (x5.toNat : Int), .int .i64 0] rfl (by cases someE h; rfl) (by decide) outs_nil)))

theorem ok_spec_l32Open  (a0 : List UInt8) (a1 : Int) (r : (Option ((List UInt8) × Int × Bool)) × Int) (h : spec_l32Open  a0 a1 = some r) : OkAt Cc 119 [.str a0, .int .i64 a1] (.tuple [optP (fun y => .ubox (.agg [.str y.1, .int .i64 y.2.1, .bool y.2.2])) r.1, .int .i64 r.2]) [] := by
  refine OkAt.of_wpQ (fx := [0, 1]) Cc_ok Try.func119 rfl rfl s119 (Nat.le_of_ble_eq_true rfl) (fun Q0 r0 n0 => ?_)
  replace r0 : ∀ s, onW (Fw.Ends Cc [0, 1] [.tmp 4, .tmp 5] (.tuple [optP (fun y => .ubox (.agg [.str y.1, .int .i64 y.2.1, .bool y.2.2])) r.1, .int .i64 r.2]) []) s → Q0 .ret s := r0
  replace n0 : ∀ s, onW (Fw.Ends Cc [0, 1] [.tmp 4, .tmp 5] (.tuple [optP (fun y => .ubox (.agg [.str y.1, .int .i64 y.2.1, .bool y.2.2])) r.1, .int .i64 r.2]) []) s → Q0 .normal s := n0
  show wpC Cc c119 Q0 (stA [(0, .str a0), (1, .int .i64 a1)])
  refine w_sreg (w_abs [(0, .str a0), (1, .int .i64 a1)] (fun P hP => ?_) ?_)
  · simp only [W0.down, Nat.reduceEqDiff, ↓reduceIte, reduceCtorEq, Nat.reduceAdd, Nat.reduceSub, Nat.reduceMul, Nat.reduceLeDiff, Nat.reduceBEq, Nat.reduceLT, if_true, if_false, beq_self_eq_true, BEq.rfl, ne_eq]
    (try simp only [WN.down, Nat.reduceAdd, if_true, if_false, ↓reduceIte] at hP)
    (try simp only [WN.down, Nat.reduceAdd, if_true, if_false, ↓reduceIte])
    exact hP
  obtain ⟨x1, e3, h⟩ := bindE h
  refine w_sreg (w_abs [(0, .str a0), (1, .int .i64 a1), (6, .int .i64 x1.1), (7, .int .i64 x1.2)] (fun P hP => ?_) ?_)
  · simp only [W0.down, Nat.reduceEqDiff, ↓reduceIte, reduceCtorEq, Nat.reduceAdd, Nat.reduceSub, Nat.reduceMul, Nat.reduceLeDiff, Nat.reduceBEq, Nat.reduceLT, if_true, if_false, beq_self_eq_true, BEq.rfl, ne_eq]
    refine w_call0 (ok_spec_l32Kind a0 _ e3) rfl rfl rfl rfl (.inl (by rfl)) ?_
    simp only [W0.down, Nat.reduceEqDiff, ↓reduceIte, reduceCtorEq, Nat.reduceAdd, Nat.reduceSub, Nat.reduceMul, Nat.reduceLeDiff, Nat.reduceBEq, Nat.reduceLT, if_true, if_false, beq_self_eq_true, BEq.rfl, ne_eq]
    (try simp only [WN.down, Nat.reduceAdd, if_true, if_false, ↓reduceIte] at hP)
    (try simp only [WN.down, Nat.reduceAdd, if_true, if_false, ↓reduceIte])
    exact hP
  refine w_seq (fun Q4 n4 q4 x4 => ?_)
  refine w_sreg (w_abs [(0, .str a0), (1, .int .i64 a1), (6, .int .i64 x1.1), (7, .int .i64 x1.2), (14, .bool (x1.2 != 0))] (fun P hP => ?_) ?_)
  · simp only [W0.down, Nat.reduceEqDiff, ↓reduceIte, reduceCtorEq, Nat.reduceAdd, Nat.reduceSub, Nat.reduceMul, Nat.reduceLeDiff, Nat.reduceBEq, Nat.reduceLT, if_true, if_false, beq_self_eq_true, BEq.rfl, ne_eq]
    (try simp only [WN.down, Nat.reduceAdd, if_true, if_false, ↓reduceIte] at hP)
    (try simp only [WN.down, Nat.reduceAdd, if_true, if_false, ↓reduceIte])
    exact hP
  rcases condE h with ⟨b6, h⟩ | ⟨b6, h⟩
  · refine w_ct (congrArg AV.bool b6) ?_
    simp only [b6, Bool.not_true, Bool.not_false]
    refine w_sreg (w_abs [(4, .nilp), (5, .int .i64 x1.2)] (fun P hP => ?_) ?_)
    · simp only [W0.down, Nat.reduceEqDiff, ↓reduceIte, reduceCtorEq, Nat.reduceAdd, Nat.reduceSub, Nat.reduceMul, Nat.reduceLeDiff, Nat.reduceBEq, Nat.reduceLT, if_true, if_false, beq_self_eq_true, BEq.rfl, ne_eq]
      (try simp only [WN.down, Nat.reduceAdd, if_true, if_false, ↓reduceIte] at hP)
      (try simp only [WN.down, Nat.reduceAdd, if_true, if_false, ↓reduceIte])
      exact hP
    exact w_ret (q4 _ (r0 _ (.inl (w_fin [.nilp, .int .i64 x1.2] rfl (by cases someE h; rfl) (by decide) outs_nil))))
  · refine w_cf (congrArg AV.bool b6) ?_
    simp only [b6, Bool.not_true, Bool.not_false]
    refine w_skip (n4 _ (.inl ?_))
    refine w_seq (fun Q8 n8 q8 x8 => ?_)
    refine w_sreg (w_abs [(0, .str a0), (18, .bool (x1.1 != a1))] (fun P hP => ?_) ?_)
    · simp only [W0.down, Nat.reduceEqDiff, ↓reduceIte, reduceCtorEq, Nat.reduceAdd, Nat.reduceSub, Nat.reduceMul, Nat.reduceLeDiff, Nat.reduceBEq, Nat.reduceLT, if_true, if_false, beq_self_eq_true, BEq.rfl, ne_eq]
      (try simp only [WN.down, Nat.reduceAdd, if_true, if_false, ↓reduceIte] at hP)
      (try simp only [WN.down, Nat.reduceAdd, if_true, if_false, ↓reduceIte])
      exact hP
    rcases condE h with ⟨b10, h⟩ | ⟨b10, h⟩
    · refine w_ct (congrArg AV.bool b10) ?_
      simp only [b10, Bool.not_true, Bool.not_false]
      refine w_sreg (w_abs [(4, .nilp), (5, .int .i64 6)] (fun P hP => ?_) ?_)
      · simp only [W0.down, Nat.reduceEqDiff, ↓reduceIte, reduceCtorEq, Nat.reduceAdd, Nat.reduceSub, Nat.reduceMul, Nat.reduceLeDiff, Nat.reduceBEq, Nat.reduceLT, if_true, if_false, beq_self_eq_true, BEq.rfl, ne_eq]
        (try simp only [WN.down, Nat.reduceAdd, if_true, if_false, ↓reduceIte] at hP)
        (try simp only [WN.down, Nat.reduceAdd, if_true, if_false, ↓reduceIte])
        exact hP
      exact w_ret (q8 _ (r0 _ (.inl (w_fin [.nilp, .int .i64 6] rfl (by cases someE h; rfl) (by decide) outs_nil))))
    · refine w_cf (congrArg AV.bool b10) ?_
      simp only [b10, Bool.not_true, Bool.not_false]
      refine w_skip (n8 _ (.inl ?_))
      obtain ⟨x2, e13, h⟩ := bindE h
      refine w_sreg (w_abs [(4, .ubox (.agg [.str x2, .int .i64 0, .bool false])), (5, .int .i64 0)] (fun P hP => ?_) ?_)
      · simp only [W0.down, Nat.reduceEqDiff, ↓reduceIte, reduceCtorEq, Nat.reduceAdd, Nat.reduceSub, Nat.reduceMul, Nat.reduceLeDiff, Nat.reduceBEq, Nat.reduceLT, if_true, if_false, beq_self_eq_true, BEq.rfl, ne_eq, tt3, tt4, tt9, tt155, e13, (show ∀ s, bld Cc s 155 [(0, .str x2)] = some (.agg [.str x2, .int .i64 0, .bool false], s) from fun s => by kernel_rfl)]
        (try simp only [WN.down, Nat.reduceAdd, if_true, if_false, ↓reduceIte, tt3, tt4, tt9, tt155, e13, (show ∀ s, bld Cc s 155 [(0, .str x2)] = some (.agg [.str x2, .int .i64 0, .bool false], s) from fun s => by kernel_rfl)] at hP)
        (try simp only [WN.down, Nat.reduceAdd, if_true, if_false, ↓reduceIte, tt3, tt4, tt9, tt155, e13, (show ∀ s, bld Cc s 155 [(0, .str x2)] = some (.agg [.str x2, .int .i64 0, .bool false], s) from fun s => by kernel_rfl)])
        exact hP
      exact w_ret (r0 _ (.inl (w_fin [.ubox (.agg [.str x2, .int .i64 0, .bool false]), .int .i64 0] rfl (by cases someE h; rfl) (by decide) outs_nil)))

theorem ok_spec_l32Reader_number  (a000 : List UInt8) (a001 : Int) (a002 : Bool) (r : Int × (List UInt8) × Int × Bool) (h : spec_l32Reader_number  a000 a001 a002 = some r) : OkAt Cc 120 [.ubox (.agg [.str a000, .int .i64 a001, .bool a002])] (.int .i64 r.1) [.ubox (.agg [.str r.2.1, .int .i64 r.2.2.1, .bool r.2.2.2])] := by
  refine OkAt.of_wpQ (fx := [0]) Cc_ok Try.func120 rfl rfl s120 (Nat.le_of_ble_eq_true rfl) (fun Q0 r0 n0 => ?_)
  replace r0 : ∀ s, onW (Fw.Ends Cc [0] [.tmp 2] (.int .i64 r.1) [.ubox (.agg [.str r.2.1, .int .i64 r.2.2.1, .bool r.2.2.2])]) s → Q0 .ret s := r0
  replace n0 : ∀ s, onW (Fw.Ends Cc [0] [.tmp 2] (.int .i64 r.1) [.ubox (.agg [.str r.2.1, .int .i64 r.2.2.1, .bool r.2.2.2])]) s → Q0 .normal s := n0
  show wpC Cc c120 Q0 (stA [(0, .ubox (.agg [.str a000, .int .i64 a001, .bool a002]))])
  refine w_sreg (w_abs [(0, .ubox (.agg [.str a000, .int .i64 a001, .bool a002]))] (fun P hP => ?_) ?_)
  · simp only [W0.down, Nat.reduceEqDiff, ↓reduceIte, reduceCtorEq, Nat.reduceAdd, Nat.reduceSub, Nat.reduceMul, Nat.reduceLeDiff, Nat.reduceBEq, Nat.reduceLT, if_true, if_false, beq_self_eq_true, BEq.rfl, ne_eq]
    (try simp only [WN.down, Nat.reduceAdd, if_true, if_false, ↓reduceIte] at hP)
    (try simp only [WN.down, Nat.reduceAdd, if_true, if_false, ↓reduceIte])
    exact hP
  refine w_sreg (w_abs [(0, .ubox (.agg [.str a000, .int .i64 a001, .bool a002])), (3, .int .i64 0)] (fun P hP => ?_) ?_)
  · simp only [W0.down, Nat.reduceEqDiff, ↓reduceIte, reduceCtorEq, Nat.reduceAdd, Nat.reduceSub, Nat.reduceMul, Nat.reduceLeDiff, Nat.reduceBEq, Nat.reduceLT, if_true, if_false, beq_self_eq_true, BEq.rfl, ne_eq]
    (try simp only [WN.down, Nat.reduceAdd, if_true, if_false, ↓reduceIte] at hP)
    (try simp only [WN.down, Nat.reduceAdd, if_true, if_false, ↓reduceIte])
    exact hP
  refine w_sreg (w_abs [(0, .ubox (.agg [.str a000, .int .i64 a001, .bool a002])), (3, .int .i64 0), (4, .int .i64 1)] (fun P hP => ?_) ?_)
  · simp only [W0.down, Nat.reduceEqDiff, ↓reduceIte, reduceCtorEq, Nat.reduceAdd, Nat.reduceSub, Nat.reduceMul, Nat.reduceLeDiff, Nat.reduceBEq, Nat.reduceLT, if_true, if_false, beq_self_eq_true, BEq.rfl, ne_eq]
    (try simp only [WN.down, Nat.reduceAdd, if_true, if_false, ↓reduceIte] at hP)
    (try simp only [WN.down, Nat.reduceAdd, if_true, if_false, ↓reduceIte])
    exact hP
  refine w_seq (fun Q4 n4 q4 x4 => ?_)
  refine w_sreg (w_abs [(0, .ubox (.agg [.str a000, .int .i64 a001, .bool a002])), (3, .int .i64 0), (4, .int .i64 1), (5, .int .i64 0)] (fun P hP => ?_) ?_)
  · simp only [W0.down, Nat.reduceEqDiff, ↓reduceIte, reduceCtorEq, Nat.reduceAdd, Nat.reduceSub, Nat.reduceMul, Nat.reduceLeDiff, Nat.reduceBEq, Nat.reduceLT, if_true, if_false, beq_self_eq_true, BEq.rfl, ne_eq]
    (try simp only [WN.down, Nat.reduceAdd, if_true, if_false, ↓reduceIte] at hP)
    (try simp only [WN.down, Nat.reduceAdd, if_true, if_false, ↓reduceIte])
    exact hP
  refine w_blk (fun Q6 n6 q6 b6 x6 => ?_)
  have L10 : ∀ (n : Nat) (v0_10 : Int) (v3_10 : Int) (v4_10 : Int) (v5_10 : Int), spec_l32Reader_number_l10 a000 a002 n v0_10 v3_10 v4_10 v5_10 = some r → lpC Cc c120_11 Q6 (stA [(0, .ubox (.agg [.str a000, .int .i64 v0_10, .bool a002])), (3, .int .i64 v3_10), (4, .int .i64 v4_10), (5, .int .i64 v5_10)]) := by
    intro m10
    induction m10 with
    | zero => intro v0_10 v3_10 v4_10 v5_10 h; cases (show none = some r from h)
    | succ m10 ih10 =>
      intro v0_10 v3_10 v4_10 v5_10 h
      replace h : spec_l32Reader_number_b10 (spec_l32Reader_number_l10 a000 a002 m10) a000 a002 v0_10 v3_10 v4_10 v5_10 = some r := h
      refine lpC_step (fun Q7 n7 q7 x7 => ?_)
      refine w_seq (fun Q8 n8 q8 x8 => ?_)
      refine w_sreg (w_abs [(0, .ubox (.agg [.str a000, .int .i64 v0_10, .bool a002])), (3, .int .i64 v3_10), (4, .int .i64 v4_10), (5, .int .i64 v5_10), (8, .bool (decide (v5_10 < 3)))] (fun P hP => ?_) ?_)
      · simp only [W0.down, Nat.reduceEqDiff, ↓reduceIte, reduceCtorEq, Nat.reduceAdd, Nat.reduceSub, Nat.reduceMul, Nat.reduceLeDiff, Nat.reduceBEq, Nat.reduceLT, if_true, if_false, beq_self_eq_true, BEq.rfl, ne_eq]
        (try simp only [WN.down, Nat.reduceAdd, if_true, if_false, ↓reduceIte] at hP)
        (try simp only [WN.down, Nat.reduceAdd, if_true, if_false, ↓reduceIte])
        exact hP
      rcases condE h with ⟨b10, h⟩ | ⟨b10, h⟩
      · refine w_ct (congrArg AV.bool b10) ?_
        simp only [b10, Bool.not_true, Bool.not_false]
        refine w_skip (n8 _ (.inl ?_))
        refine w_seq (fun Q11 n11 q11 x11 => ?_)
        refine w_blk (fun Q12 n12 q12 b12 x12 => ?_)
        refine w_seq (fun Q13 n13 q13 x13 => ?_)
        refine w_sdrw rfl (w_absd [(0, .ubox (.agg [.str a000, .int .i64 v0_10, .bool a002])), (3, .int .i64 v3_10), (4, .int .i64 v4_10), (5, .int .i64 v5_10), (20, .bool (decide ((a000.length : Int) ≤ v0_10)))] (fun P hP => ?_) ?_)
        · simp only [W1.down, Nat.reduceEqDiff, ↓reduceIte, reduceCtorEq, Nat.reduceAdd, Nat.reduceSub, Nat.reduceMul, Nat.reduceLeDiff, Nat.reduceBEq, Nat.reduceLT, if_true, if_false, beq_self_eq_true, BEq.rfl, ne_eq, tt3, tt4, tt9, tt155]
          refine ⟨by kernel_rfl, ?_⟩
          (try simp only [WN.down, Nat.reduceAdd, if_true, if_false, ↓reduceIte, tt3, tt4, tt9, tt155] at hP)
          (try simp only [WN.down, Nat.reduceAdd, if_true, if_false, ↓reduceIte, tt3, tt4, tt9, tt155])
          exact hP
        rcases condE h with ⟨b15, h⟩ | ⟨b15, h⟩
        · refine w_ct (congrArg AV.bool b15) ?_
          simp only [b15, Bool.not_true, Bool.not_false]
          refine w_sreg (w_abs [(0, .ubox (.agg [.str a000, .int .i64 v0_10, .bool true]))] (fun P hP => ?_) ?_)
          · simp only [W0.down, Nat.reduceEqDiff, ↓reduceIte, reduceCtorEq, Nat.reduceAdd, Nat.reduceSub, Nat.reduceMul, Nat.reduceLeDiff, Nat.reduceBEq, Nat.reduceLT, if_true, if_false, beq_self_eq_true, BEq.rfl, ne_eq, tt3, tt4, tt9, tt155]
            (try simp only [WN.down, Nat.reduceAdd, if_true, if_false, ↓reduceIte, tt3, tt4, tt9, tt155] at hP)
            (try simp only [WN.down, Nat.reduceAdd, if_true, if_false, ↓reduceIte, tt3, tt4, tt9, tt155])
            exact hP
          refine w_sreg (w_abs [(0, .ubox (.agg [.str a000, .int .i64 v0_10, .bool true])), (2, .int .i64 0)] (fun P hP => ?_) ?_)
          · simp only [W0.down, Nat.reduceEqDiff, ↓reduceIte, reduceCtorEq, Nat.reduceAdd, Nat.reduceSub, Nat.reduceMul, Nat.reduceLeDiff, Nat.reduceBEq, Nat.reduceLT, if_true, if_false, beq_self_eq_true, BEq.rfl, ne_eq]
            (try simp only [WN.down, Nat.reduceAdd, if_true, if_false, ↓reduceIte] at hP)
            (try simp only [WN.down, Nat.reduceAdd, if_true, if_false, ↓reduceIte])
            exact hP
          exact w_ret (q13 _ (q12 _ (q11 _ (q7 _ (q6 _ (q4 _ (r0 _ (.inl (w_fin [.int .i64 0] rfl (by cases someE h; rfl) (by decide) (outs_of (out_is (by cases someE h; rfl) rfl rfl rfl (out_end))))))))))))
        · refine w_cf (congrArg AV.bool b15) ?_
          simp only [b15, Bool.not_true, Bool.not_false]
          refine w_skip (n13 _ (.inl ?_))
          obtain ⟨x1, e19, h⟩ := bindE h
          refine w_sdrw rfl (w_absd [(0, .ubox (.agg [.str a000, .int .i64 v0_10, .bool a002])), (3, .int .i64 v3_10), (4, .int .i64 v4_10), (5, .int .i64 v5_10), (6, .int .i64 (x1.toNat : Int))] (fun P hP => ?_) ?_)
          · simp only [W1.down, Nat.reduceEqDiff, ↓reduceIte, reduceCtorEq, Nat.reduceAdd, Nat.reduceSub, Nat.reduceMul, Nat.reduceLeDiff, Nat.reduceBEq, Nat.reduceLT, if_true, if_false, beq_self_eq_true, BEq.rfl, ne_eq, tt3, tt4, tt9, tt155, e19, @cvt_i' Cc 5 2 .i64 rfl rfl]
            refine ⟨by kernel_rfl, ?_⟩
            (try simp only [WN.down, Nat.reduceAdd, if_true, if_false, ↓reduceIte, tt3, tt4, tt9, tt155, e19, @cvt_i' Cc 5 2 .i64 rfl rfl] at hP)
            (try simp only [WN.down, Nat.reduceAdd, if_true, if_false, ↓reduceIte, tt3, tt4, tt9, tt155, e19, @cvt_i' Cc 5 2 .i64 rfl rfl])
            exact hP
          refine w_sreg (w_abs [(0, .ubox (.agg [.str a000, .int .i64 (IntKind.i64.wrap (v0_10 + 1)), .bool a002])), (3, .int .i64 v3_10), (4, .int .i64 v4_10), (5, .int .i64 v5_10), (6, .int .i64 (x1.toNat : Int))] (fun P hP => ?_) ?_)
          · simp only [W0.down, Nat.reduceEqDiff, ↓reduceIte, reduceCtorEq, Nat.reduceAdd, Nat.reduceSub, Nat.reduceMul, Nat.reduceLeDiff, Nat.reduceBEq, Nat.reduceLT, if_true, if_false, beq_self_eq_true, BEq.rfl, ne_eq, tt3, tt4, tt9, tt155]
            (try simp only [WN.down, Nat.reduceAdd, if_true, if_false, ↓reduceIte, tt3, tt4, tt9, tt155] at hP)
            (try simp only [WN.down, Nat.reduceAdd, if_true, if_false, ↓reduceIte, tt3, tt4, tt9, tt155])
            exact hP
          refine w_sreg (w_abs [(0, .ubox (.agg [.str a000, .int .i64 (IntKind.i64.wrap (v0_10 + 1)), .bool a002])), (3, .int .i64 (IntKind.i64.wrap (v3_10 + (IntKind.i64.wrap ((Int.tmod (x1.toNat : Int) 128) * v4_10))))), (4, .int .i64 v4_10), (5, .int .i64 v5_10), (6, .int .i64 (x1.toNat : Int))] (fun P hP => ?_) ?_)
          · simp only [W0.down, Nat.reduceEqDiff, ↓reduceIte, reduceCtorEq, Nat.reduceAdd, Nat.reduceSub, Nat.reduceMul, Nat.reduceLeDiff, Nat.reduceBEq, Nat.reduceLT, if_true, if_false, beq_self_eq_true, BEq.rfl, ne_eq, @bnI_rem' .i64 128 (by decide)]
            (try simp only [WN.down, Nat.reduceAdd, if_true, if_false, ↓reduceIte, @bnI_rem' .i64 128 (by decide)] at hP)
            (try simp only [WN.down, Nat.reduceAdd, if_true, if_false, ↓reduceIte, @bnI_rem' .i64 128 (by decide)])
            exact hP
          refine w_seq (fun Q22 n22 q22 x22 => ?_)
          refine w_sreg (w_abs [(0, .ubox (.agg [.str a000, .int .i64 (IntKind.i64.wrap (v0_10 + 1)), .bool a002])), (3, .int .i64 (IntKind.i64.wrap (v3_10 + (IntKind.i64.wrap ((Int.tmod (x1.toNat : Int) 128) * v4_10))))), (4, .int .i64 v4_10), (5, .int .i64 v5_10), (48, .bool (decide ((x1.toNat : Int) < 128)))] (fun P hP => ?_) ?_)
          · simp only [W0.down, Nat.reduceEqDiff, ↓reduceIte, reduceCtorEq, Nat.reduceAdd, Nat.reduceSub, Nat.reduceMul, Nat.reduceLeDiff, Nat.reduceBEq, Nat.reduceLT, if_true, if_false, beq_self_eq_true, BEq.rfl, ne_eq]
            (try simp only [WN.down, Nat.reduceAdd, if_true, if_false, ↓reduceIte] at hP)
            (try simp only [WN.down, Nat.reduceAdd, if_true, if_false, ↓reduceIte])
            exact hP
          rcases condE h with ⟨b24, h⟩ | ⟨b24, h⟩
          · refine w_ct (congrArg AV.bool b24) ?_
            simp only [b24, Bool.not_true, Bool.not_false]
            refine w_sreg (w_abs [(0, .ubox (.agg [.str a000, .int .i64 (IntKind.i64.wrap (v0_10 + 1)), .bool a002])), (2, .int .i64 (IntKind.i64.wrap (v3_10 + (IntKind.i64.wrap ((Int.tmod (x1.toNat : Int) 128) * v4_10)))))] (fun P hP => ?_) ?_)
            · simp only [W0.down, Nat.reduceEqDiff, ↓reduceIte, reduceCtorEq, Nat.reduceAdd, Nat.reduceSub, Nat.reduceMul, Nat.reduceLeDiff, Nat.reduceBEq, Nat.reduceLT, if_true, if_false, beq_self_eq_true, BEq.rfl, ne_eq]
              (try simp only [WN.down, Nat.reduceAdd, if_true, if_false, ↓reduceIte] at hP)
              (try simp only [WN.down, Nat.reduceAdd, if_true, if_false, ↓reduceIte])
              exact hP
            exact w_ret (q22 _ (q12 _ (q11 _ (q7 _ (q6 _ (q4 _ (r0 _ (.inl (w_fin [.int .i64 (IntKind.i64.wrap (v3_10 + (IntKind.i64.wrap ((Int.tmod (x1.toNat : Int) 128) * v4_10))))] rfl (by cases someE h; rfl) (by decide) (outs_of (out_is (by cases someE h; rfl) rfl rfl rfl (out_end))))))))))))
          · refine w_cf (congrArg AV.bool b24) ?_
            simp only [b24, Bool.not_true, Bool.not_false]
            refine w_skip (n22 _ (.inl ?_))
            refine w_reg (w_abs [(0, .ubox (.agg [.str a000, .int .i64 (IntKind.i64.wrap (v0_10 + 1)), .bool a002])), (3, .int .i64 (IntKind.i64.wrap (v3_10 + (IntKind.i64.wrap ((Int.tmod (x1.toNat : Int) 128) * v4_10))))), (4, .int .i64 (IntKind.i64.wrap (v4_10 * 128))), (5, .int .i64 v5_10)] (fun P hP => ?_) ?_)
            · simp only [W0.down, Nat.reduceEqDiff, ↓reduceIte, reduceCtorEq, Nat.reduceAdd, Nat.reduceSub, Nat.reduceMul, Nat.reduceLeDiff, Nat.reduceBEq, Nat.reduceLT, if_true, if_false, beq_self_eq_true, BEq.rfl, ne_eq]
              (try simp only [WN.down, Nat.reduceAdd, if_true, if_false, ↓reduceIte] at hP)
              (try simp only [WN.down, Nat.reduceAdd, if_true, if_false, ↓reduceIte])
              exact hP
            refine n12 _ (n11 _ (.inl ?_))
            refine w_reg (w_abs [(0, .ubox (.agg [.str a000, .int .i64 (IntKind.i64.wrap (v0_10 + 1)), .bool a002])), (3, .int .i64 (IntKind.i64.wrap (v3_10 + (IntKind.i64.wrap ((Int.tmod (x1.toNat : Int) 128) * v4_10))))), (4, .int .i64 (IntKind.i64.wrap (v4_10 * 128))), (5, .int .i64 (IntKind.i64.wrap (v5_10 + 1)))] (fun P hP => ?_) ?_)
            · simp only [W0.down, Nat.reduceEqDiff, ↓reduceIte, reduceCtorEq, Nat.reduceAdd, Nat.reduceSub, Nat.reduceMul, Nat.reduceLeDiff, Nat.reduceBEq, Nat.reduceLT, if_true, if_false, beq_self_eq_true, BEq.rfl, ne_eq]
              (try simp only [WN.down, Nat.reduceAdd, if_true, if_false, ↓reduceIte] at hP)
              (try simp only [WN.down, Nat.reduceAdd, if_true, if_false, ↓reduceIte])
              exact hP
            exact n7 _ (.inr ⟨_, weak_eq rfl, ih10 (IntKind.i64.wrap (v0_10 + 1)) (IntKind.i64.wrap (v3_10 + (IntKind.i64.wrap ((Int.tmod (x1.toNat : Int) 128) * v4_10)))) (IntKind.i64.wrap (v4_10 * 128)) (IntKind.i64.wrap (v5_10 + 1)) h⟩)
      · refine w_cf (congrArg AV.bool b10) ?_
        simp only [b10, Bool.not_true, Bool.not_false]
        refine w_ex (x8 0 _ (x7 0 _ (b6 _ (n4 _ (.inl ?_)))))
        refine w_sreg (w_abs [(0, .ubox (.agg [.str a000, .int .i64 v0_10, .bool true]))] (fun P hP => ?_) ?_)
        · simp only [W0.down, Nat.reduceEqDiff, ↓reduceIte, reduceCtorEq, Nat.reduceAdd, Nat.reduceSub, Nat.reduceMul, Nat.reduceLeDiff, Nat.reduceBEq, Nat.reduceLT, if_true, if_false, beq_self_eq_true, BEq.rfl, ne_eq, tt3, tt4, tt9, tt155]
          (try simp only [WN.down, Nat.reduceAdd, if_true, if_false, ↓reduceIte, tt3, tt4, tt9, tt155] at hP)
          (try simp only [WN.down, Nat.reduceAdd, if_true, if_false, ↓reduceIte, tt3, tt4, tt9, tt155])
          exact hP
        refine w_sreg (w_abs [(0, .ubox (.agg [.str a000, .int .i64 v0_10, .bool true])), (2, .int .i64 0)] (fun P hP => ?_) ?_)
        · simp only [W0.down, Nat.reduceEqDiff, ↓reduceIte, reduceCtorEq, Nat.reduceAdd, Nat.reduceSub, Nat.reduceMul, Nat.reduceLeDiff, Nat.reduceBEq, Nat.reduceLT, if_true, if_false, beq_self_eq_true, BEq.rfl, ne_eq]
          (try simp only [WN.down, Nat.reduceAdd, if_true, if_false, ↓reduceIte] at hP)
          (try simp only [WN.down, Nat.reduceAdd, if_true, if_false, ↓reduceIte])
          exact hP
        exact w_ret (r0 _ (.inl (w_fin [.int .i64 0] rfl (by cases someE h; rfl) (by decide) (outs_of (out_is (by cases someE h; rfl) rfl rfl rfl (out_end))))))
  obtain ⟨n, h⟩ := limE h
  exact w_loop (.inr ⟨_, weak_eq rfl, L10 n a001 0 1 0 h⟩)

theorem ok_spec_l22Count  (a0 : List impl_Equation) (r : Int) (h : spec_l22Count  a0 = some r) : OkAt Cc 185 [.slice (a0.map e_impl_Equation)] (.int .i64 r) [] := by
  refine OkAt.of_wpQ (fx := [0]) Cc_ok Try.func185 rfl rfl s185 (Nat.le_of_ble_eq_true rfl) (fun Q0 r0 n0 => ?_)
  replace r0 : ∀ s, onW (Fw.Ends Cc [0] [.tmp 2] (.int .i64 r) []) s → Q0 .ret s := r0
  replace n0 : ∀ s, onW (Fw.Ends Cc [0] [.tmp 2] (.int .i64 r) []) s → Q0 .normal s := n0
  show wpC Cc c185 Q0 (stA [(0, .slice (a0.map e_impl_Equation))])
  refine w_sreg (w_abs [(0, .slice (a0.map e_impl_Equation))] (fun P hP => ?_) ?_)
  · simp only [W0.down, Nat.reduceEqDiff, ↓reduceIte, reduceCtorEq, Nat.reduceAdd, Nat.reduceSub, Nat.reduceMul, Nat.reduceLeDiff, Nat.reduceBEq, Nat.reduceLT, if_true, if_false, beq_self_eq_true, BEq.rfl, ne_eq, e_i64, e_impl_Equation]
    (try simp only [WN.down, Nat.reduceAdd, if_true, if_false, ↓reduceIte, e_i64, e_impl_Equation] at hP)
    (try simp only [WN.down, Nat.reduceAdd, if_true, if_false, ↓reduceIte, e_i64, e_impl_Equation])
    exact hP
  refine w_sreg (w_abs [(0, .slice (a0.map e_impl_Equation)), (3, .int .i64 1)] (fun P hP => ?_) ?_)
  · simp only [W0.down, Nat.reduceEqDiff, ↓reduceIte, reduceCtorEq, Nat.reduceAdd, Nat.reduceSub, Nat.reduceMul, Nat.reduceLeDiff, Nat.reduceBEq, Nat.reduceLT, if_true, if_false, beq_self_eq_true, BEq.rfl, ne_eq, e_i64, e_impl_Equation]
    (try simp only [WN.down, Nat.reduceAdd, if_true, if_false, ↓reduceIte, e_i64, e_impl_Equation] at hP)
    (try simp only [WN.down, Nat.reduceAdd, if_true, if_false, ↓reduceIte, e_i64, e_impl_Equation])
    exact hP
  refine w_seq (fun Q3 n3 q3 x3 => ?_)
  refine w_sreg (w_abs [(0, .slice (a0.map e_impl_Equation)), (3, .int .i64 1), (4, .int .i64 1)] (fun P hP => ?_) ?_)
  · simp only [W0.down, Nat.reduceEqDiff, ↓reduceIte, reduceCtorEq, Nat.reduceAdd, Nat.reduceSub, Nat.reduceMul, Nat.reduceLeDiff, Nat.reduceBEq, Nat.reduceLT, if_true, if_false, beq_self_eq_true, BEq.rfl, ne_eq, e_i64, e_impl_Equation]
    (try simp only [WN.down, Nat.reduceAdd, if_true, if_false, ↓reduceIte, e_i64, e_impl_Equation] at hP)
    (try simp only [WN.down, Nat.reduceAdd, if_true, if_false, ↓reduceIte, e_i64, e_impl_Equation])
    exact hP
  refine w_blk (fun Q5 n5 q5 b5 x5 => ?_)
  have L8 : ∀ (n : Nat) (v3_8 : Int) (v4_8 : Int), spec_l22Count_l8 a0 n v3_8 v4_8 = some r → lpC Cc c185_9 Q5 (stA [(0, .slice (a0.map e_impl_Equation)), (3, .int .i64 v3_8), (4, .int .i64 v4_8)]) := by
    intro m8
    induction m8 with
    | zero => intro v3_8 v4_8 h; cases (show none = some r from h)
    | succ m8 ih8 =>
      intro v3_8 v4_8 h
      replace h : spec_l22Count_b8 (spec_l22Count_l8 a0 m8) a0 v3_8 v4_8 = some r := h
      refine lpC_step (fun Q6 n6 q6 x6 => ?_)
      refine w_seq (fun Q7 n7 q7 x7 => ?_)
      refine w_sreg (w_abs [(0, .slice (a0.map e_impl_Equation)), (3, .int .i64 v3_8), (4, .int .i64 v4_8), (8, .bool (decide (v4_8 < (a0.length : Int))))] (fun P hP => ?_) ?_)
      · simp only [W0.down, Nat.reduceEqDiff, ↓reduceIte, reduceCtorEq, Nat.reduceAdd, Nat.reduceSub, Nat.reduceMul, Nat.reduceLeDiff, Nat.reduceBEq, Nat.reduceLT, if_true, if_false, beq_self_eq_true, BEq.rfl, ne_eq, tt2, tt4, tt32, tt68, tt120, e_i64, e_impl_Equation]
        (try simp only [WN.down, Nat.reduceAdd, if_true, if_false, ↓reduceIte, tt2, tt4, tt32, tt68, tt120, e_i64, e_impl_Equation] at hP)
        (try simp only [WN.down, Nat.reduceAdd, if_true, if_false, ↓reduceIte, tt2, tt4, tt32, tt68, tt120, e_i64, e_impl_Equation])
        exact hP
      rcases condE h with ⟨b9, h⟩ | ⟨b9, h⟩
      · refine w_ct (congrArg AV.bool b9) ?_
        simp only [b9, Bool.not_true, Bool.not_false]
        refine w_skip (n7 _ (.inl ?_))
        have K22 : ∀ (v3_22 : Int) (v4_22 : Int), spec_l22Count_k22 (spec_l22Count_l8 a0 m8) a0 v3_22 v4_22 = some r → wpC Cc c185_22 Q6 (stA [(0, .slice (a0.map e_impl_Equation)), (3, .int .i64 v3_22), (4, .int .i64 v4_22)]) := by
          intro v3_22 v4_22 h
          refine w_reg (w_abs [(0, .slice (a0.map e_impl_Equation)), (3, .int .i64 v3_22), (4, .int .i64 (IntKind.i64.wrap (v4_22 + 1)))] (fun P hP => ?_) ?_)
          · simp only [W0.down, Nat.reduceEqDiff, ↓reduceIte, reduceCtorEq, Nat.reduceAdd, Nat.reduceSub, Nat.reduceMul, Nat.reduceLeDiff, Nat.reduceBEq, Nat.reduceLT, if_true, if_false, beq_self_eq_true, BEq.rfl, ne_eq, e_i64, e_impl_Equation]
            (try simp only [WN.down, Nat.reduceAdd, if_true, if_false, ↓reduceIte, e_i64, e_impl_Equation] at hP)
            (try simp only [WN.down, Nat.reduceAdd, if_true, if_false, ↓reduceIte, e_i64, e_impl_Equation])
            exact hP
          exact n6 _ (.inr ⟨_, weak_eq rfl, ih8 v3_22 (IntKind.i64.wrap (v4_22 + 1)) h⟩)
        refine w_seq (fun Q10 n10 q10 x10 => ?_)
        refine w_blk (fun Q12 n12 q12 b12 x12 => ?_)
        obtain ⟨x1, e14, h⟩ := bindE h
        obtain ⟨x2, e15, h⟩ := bindE h
        refine w_sdrw rfl (w_absd [(0, .slice (a0.map e_impl_Equation)), (3, .int .i64 v3_8), (4, .int .i64 v4_8), (22, .bool (!(x1.Greatest == x2.Greatest)))] (fun P hP => ?_) ?_)
        · simp only [W1.down, Nat.reduceEqDiff, ↓reduceIte, reduceCtorEq, Nat.reduceAdd, Nat.reduceSub, Nat.reduceMul, Nat.reduceLeDiff, Nat.reduceBEq, Nat.reduceLT, if_true, if_false, beq_self_eq_true, BEq.rfl, ne_eq, tt2, tt4, tt32, tt68, tt120, e_i64, e_impl_Equation, e14, e15]
          refine ⟨by kernel_rfl, ?_⟩
          (try simp only [WN.down, Nat.reduceAdd, if_true, if_false, ↓reduceIte, tt2, tt4, tt32, tt68, tt120, e_i64, e_impl_Equation, e14, e15] at hP)
          (try simp only [WN.down, Nat.reduceAdd, if_true, if_false, ↓reduceIte, tt2, tt4, tt32, tt68, tt120, e_i64, e_impl_Equation, e14, e15])
          exact hP
        rcases condE h with ⟨b16, h⟩ | ⟨b16, h⟩
        · refine w_ct (congrArg AV.bool b16) ?_
          simp only [b16, Bool.not_true, Bool.not_false]
          refine w_reg (w_abs [(0, .slice (a0.map e_impl_Equation)), (3, .int .i64 (IntKind.i64.wrap (v3_8 + 1))), (4, .int .i64 v4_8)] (fun P hP => ?_) ?_)
          · simp only [W0.down, Nat.reduceEqDiff, ↓reduceIte, reduceCtorEq, Nat.reduceAdd, Nat.reduceSub, Nat.reduceMul, Nat.reduceLeDiff, Nat.reduceBEq, Nat.reduceLT, if_true, if_false, beq_self_eq_true, BEq.rfl, ne_eq, e_i64, e_impl_Equation]
            (try simp only [WN.down, Nat.reduceAdd, if_true, if_false, ↓reduceIte, e_i64, e_impl_Equation] at hP)
            (try simp only [WN.down, Nat.reduceAdd, if_true, if_false, ↓reduceIte, e_i64, e_impl_Equation])
            exact hP
          exact n12 _ (n10 _ (.inr ⟨_, weak_eq rfl, K22 (IntKind.i64.wrap (v3_8 + 1)) v4_8 h⟩))
        · refine w_cf (congrArg AV.bool b16) ?_
          simp only [b16, Bool.not_true, Bool.not_false]
          exact w_skip (n12 _ (n10 _ (.inr ⟨_, weak_eq rfl, K22 v3_8 v4_8 h⟩)))
      · refine w_cf (congrArg AV.bool b9) ?_
        simp only [b9, Bool.not_true, Bool.not_false]
        refine w_ex (x7 0 _ (x6 0 _ (b5 _ (n3 _ (.inl ?_)))))
        refine w_sreg (w_abs [(2, .int .i64 v3_8)] (fun P hP => ?_) ?_)
        · simp only [W0.down, Nat.reduceEqDiff, ↓reduceIte, reduceCtorEq, Nat.reduceAdd, Nat.reduceSub, Nat.reduceMul, Nat.reduceLeDiff, Nat.reduceBEq, Nat.reduceLT, if_true, if_false, beq_self_eq_true, BEq.rfl, ne_eq, e_i64, e_impl_Equation]
          (try simp only [WN.down, Nat.reduceAdd, if_true, if_false, ↓reduceIte, e_i64, e_impl_Equation] at hP)
          (try simp only [WN.down, Nat.reduceAdd, if_true, if_false, ↓reduceIte, e_i64, e_impl_Equation])
          exact hP
        exact w_ret (r0 _ (.inl (w_fin [.int .i64 v3_8] rfl (by cases someE h; rfl) (by decide) outs_nil)))
  obtain ⟨n, h⟩ := limE h
  exact w_loop (.inr ⟨_, weak_eq rfl, L8 n 1 1 h⟩)

theorem ok_spec_l00Rises  (a0 : List Int) (a1 : Int) (a2 : Int) (r : Bool) (h : spec_l00Rises  a0 a1 a2 = some r) : OkAt Cc 186 [.slice (a0.map e_i64), .int .i64 a1, .int .i64 a2] (.bool r) [] := by
  refine OkAt.of_wpQ (fx := [0, 1, 2]) Cc_ok Try.func186 rfl rfl s186 (Nat.le_of_ble_eq_true rfl) (fun Q0 r0 n0 => ?_)
  replace r0 : ∀ s, onW (Fw.Ends Cc [0, 1, 2] [.tmp 6] (.bool r) []) s → Q0 .ret s := r0
  replace n0 : ∀ s, onW (Fw.Ends Cc [0, 1, 2] [.tmp 6] (.bool r) []) s → Q0 .normal s := n0
  show wpC Cc c186 Q0 (stA [(0, .slice (a0.map e_i64)), (1, .int .i64 a1), (2, .int .i64 a2)])
  refine w_sreg (w_abs [(0, .slice (a0.map e_i64)), (1, .int .i64 a1), (2, .int .i64 a2)] (fun P hP => ?_) ?_)
  · simp only [W0.down, Nat.reduceEqDiff, ↓reduceIte, reduceCtorEq, Nat.reduceAdd, Nat.reduceSub, Nat.reduceMul, Nat.reduceLeDiff, Nat.reduceBEq, Nat.reduceLT, if_true, if_false, beq_self_eq_true, BEq.rfl, ne_eq, e_i64]
    (try simp only [WN.down, Nat.reduceAdd, if_true, if_false, ↓reduceIte, e_i64] at hP)
    (try simp only [WN.down, Nat.reduceAdd, if_true, if_false, ↓reduceIte, e_i64])
    exact hP
  refine w_seq (fun Q2 n2 q2 x2 => ?_)
  refine w_sreg (w_abs [(0, .slice (a0.map e_i64)), (1, .int .i64 a1), (2, .int .i64 a2), (7, .int .i64 0)] (fun P hP => ?_) ?_)
  · simp only [W0.down, Nat.reduceEqDiff, ↓reduceIte, reduceCtorEq, Nat.reduceAdd, Nat.reduceSub, Nat.reduceMul, Nat.reduceLeDiff, Nat.reduceBEq, Nat.reduceLT, if_true, if_false, beq_self_eq_true, BEq.rfl, ne_eq, e_i64]
    (try simp only [WN.down, Nat.reduceAdd, if_true, if_false, ↓reduceIte, e_i64] at hP)
    (try simp only [WN.down, Nat.reduceAdd, if_true, if_false, ↓reduceIte, e_i64])
    exact hP
  refine w_blk (fun Q4 n4 q4 b4 x4 => ?_)
  have L6 : ∀ (n : Nat) (v7_6 : Int), spec_l00Rises_l6 a0 a1 a2 n v7_6 = some r → lpC Cc c186_7 Q4 (stA [(0, .slice (a0.map e_i64)), (1, .int .i64 a1), (2, .int .i64 a2), (7, .int .i64 v7_6)]) := by
    intro m6
    induction m6 with
    | zero => intro v7_6 h; cases (show none = some r from h)
    | succ m6 ih6 =>
      intro v7_6 h
      replace h : spec_l00Rises_b6 (spec_l00Rises_l6 a0 a1 a2 m6) a0 a1 a2 v7_6 = some r := h
      refine lpC_step (fun Q5 n5 q5 x5 => ?_)
      refine w_seq (fun Q6 n6 q6 x6 => ?_)
      refine w_sreg (w_abs [(0, .slice (a0.map e_i64)), (1, .int .i64 a1), (2, .int .i64 a2), (7, .int .i64 v7_6), (11, .bool (decide (v7_6 < (a0.length : Int))))] (fun P hP => ?_) ?_)
      · simp only [W0.down, Nat.reduceEqDiff, ↓reduceIte, reduceCtorEq, Nat.reduceAdd, Nat.reduceSub, Nat.reduceMul, Nat.reduceLeDiff, Nat.reduceBEq, Nat.reduceLT, if_true, if_false, beq_self_eq_true, BEq.rfl, ne_eq, tt2, tt68, e_i64]
        (try simp only [WN.down, Nat.reduceAdd, if_true, if_false, ↓reduceIte, tt2, tt68, e_i64] at hP)
        (try simp only [WN.down, Nat.reduceAdd, if_true, if_false, ↓reduceIte, tt2, tt68, e_i64])
        exact hP
      rcases condE h with ⟨b8, h⟩ | ⟨b8, h⟩
      · refine w_ct (congrArg AV.bool b8) ?_
        simp only [b8, Bool.not_true, Bool.not_false]
        refine w_skip (n6 _ (.inl ?_))
        refine w_seq (fun Q9 n9 q9 x9 => ?_)
        refine w_blk (fun Q10 n10 q10 b10 x10 => ?_)
        obtain ⟨x1, e12, h⟩ := bindE h
        obtain ⟨x2, e13, h⟩ := bindE h
        rcases condE h with ⟨b14, h⟩ | ⟨b14, h⟩
        · refine w_sdrw rfl (w_absd [(0, .slice (a0.map e_i64)), (1, .int .i64 a1), (2, .int .i64 a2), (7, .int .i64 v7_6), (37, .bool true)] (fun P hP => ?_) ?_)
          · simp only [W1.down, Nat.reduceEqDiff, ↓reduceIte, reduceCtorEq, Nat.reduceAdd, Nat.reduceSub, Nat.reduceMul, Nat.reduceLeDiff, Nat.reduceBEq, Nat.reduceLT, if_true, if_false, beq_self_eq_true, BEq.rfl, ne_eq, tt2, tt68, e_i64, e12, b14]
            refine w_call1 (ok_spec_l00In x1 a1 a2 _ e13) rfl rfl rfl rfl (.inl (by rfl)) ?_
            simp only [W1.down, Nat.reduceEqDiff, ↓reduceIte, reduceCtorEq, Nat.reduceAdd, Nat.reduceSub, Nat.reduceMul, Nat.reduceLeDiff, Nat.reduceBEq, Nat.reduceLT, if_true, if_false, beq_self_eq_true, BEq.rfl, ne_eq, tt2, tt68, e_i64, e12, b14]
            refine ⟨by kernel_rfl, ?_⟩
            (try simp only [WN.down, Nat.reduceAdd, if_true, if_false, ↓reduceIte, tt2, tt68, e_i64, e12, b14] at hP)
            (try simp only [WN.down, Nat.reduceAdd, if_true, if_false, ↓reduceIte, tt2, tt68, e_i64, e12, b14])
            exact hP
          refine w_ct rfl ?_
          refine w_sreg (w_abs [(6, .bool false)] (fun P hP => ?_) ?_)
          · simp only [W0.down, Nat.reduceEqDiff, ↓reduceIte, reduceCtorEq, Nat.reduceAdd, Nat.reduceSub, Nat.reduceMul, Nat.reduceLeDiff, Nat.reduceBEq, Nat.reduceLT, if_true, if_false, beq_self_eq_true, BEq.rfl, ne_eq, e_i64]
            (try simp only [WN.down, Nat.reduceAdd, if_true, if_false, ↓reduceIte, e_i64] at hP)
            (try simp only [WN.down, Nat.reduceAdd, if_true, if_false, ↓reduceIte, e_i64])
            exact hP
          exact w_ret (q10 _ (q9 _ (q5 _ (q4 _ (q2 _ (r0 _ (.inl (w_fin [.bool false] rfl (by cases someE h; rfl) (by decide) outs_nil))))))))
        · rcases condE h with ⟨b16, h⟩ | ⟨b16, h⟩
          · obtain ⟨x3, e17, h⟩ := bindE h
            refine w_sdrw rfl (w_absd [(0, .slice (a0.map e_i64)), (1, .int .i64 a1), (2, .int .i64 a2), (7, .int .i64 v7_6), (37, .bool (decide (x1 ≤ x3)))] (fun P hP => ?_) ?_)
            · simp only [W1.down, Nat.reduceEqDiff, ↓reduceIte, reduceCtorEq, Nat.reduceAdd, Nat.reduceSub, Nat.reduceMul, Nat.reduceLeDiff, Nat.reduceBEq, Nat.reduceLT, if_true, if_false, beq_self_eq_true, BEq.rfl, ne_eq, tt2, tt68, e_i64, e12, b14, b16, e17]
              refine w_call1 (ok_spec_l00In x1 a1 a2 _ e13) rfl rfl rfl rfl (.inl (by rfl)) ?_
              simp only [W1.down, Nat.reduceEqDiff, ↓reduceIte, reduceCtorEq, Nat.reduceAdd, Nat.reduceSub, Nat.reduceMul, Nat.reduceLeDiff, Nat.reduceBEq, Nat.reduceLT, if_true, if_false, beq_self_eq_true, BEq.rfl, ne_eq, tt2, tt68, e_i64, e12, b14, b16, e17]
              refine ⟨by kernel_rfl, ?_⟩
              (try simp only [WN.down, Nat.reduceAdd, if_true, if_false, ↓reduceIte, tt2, tt68, e_i64, e12, b14, b16, e17] at hP)
              (try simp only [WN.down, Nat.reduceAdd, if_true, if_false, ↓reduceIte, tt2, tt68, e_i64, e12, b14, b16, e17])
              exact hP
            rcases condE h with ⟨b18, h⟩ | ⟨b18, h⟩
            · refine w_ct (congrArg AV.bool b18) ?_
              simp only [b18, Bool.not_true, Bool.not_false]
              refine w_sreg (w_abs [(6, .bool false)] (fun P hP => ?_) ?_)
              · simp only [W0.down, Nat.reduceEqDiff, ↓reduceIte, reduceCtorEq, Nat.reduceAdd, Nat.reduceSub, Nat.reduceMul, Nat.reduceLeDiff, Nat.reduceBEq, Nat.reduceLT, if_true, if_false, beq_self_eq_true, BEq.rfl, ne_eq, e_i64]
                (try simp only [WN.down, Nat.reduceAdd, if_true, if_false, ↓reduceIte, e_i64] at hP)
                (try simp only [WN.down, Nat.reduceAdd, if_true, if_false, ↓reduceIte, e_i64])
                exact hP
              exact w_ret (q10 _ (q9 _ (q5 _ (q4 _ (q2 _ (r0 _ (.inl (w_fin [.bool false] rfl (by cases someE h; rfl) (by decide) outs_nil))))))))
            · refine w_cf (congrArg AV.bool b18) ?_
              simp only [b18, Bool.not_true, Bool.not_false]
              refine w_skip (n10 _ (n9 _ (.inl ?_)))
              refine w_reg (w_abs [(0, .slice (a0.map e_i64)), (1, .int .i64 a1), (2, .int .i64 a2), (7, .int .i64 (IntKind.i64.wrap (v7_6 + 1)))] (fun P hP => ?_) ?_)
              · simp only [W0.down, Nat.reduceEqDiff, ↓reduceIte, reduceCtorEq, Nat.reduceAdd, Nat.reduceSub, Nat.reduceMul, Nat.reduceLeDiff, Nat.reduceBEq, Nat.reduceLT, if_true, if_false, beq_self_eq_true, BEq.rfl, ne_eq, e_i64]
                (try simp only [WN.down, Nat.reduceAdd, if_true, if_false, ↓reduceIte, e_i64] at hP)
                (try simp only [WN.down, Nat.reduceAdd, if_true, if_false, ↓reduceIte, e_i64])
                exact hP
              exact n5 _ (.inr ⟨_, weak_eq rfl, ih6 (IntKind.i64.wrap (v7_6 + 1)) h⟩)
          · refine w_sdrw rfl (w_absd [(0, .slice (a0.map e_i64)), (1, .int .i64 a1), (2, .int .i64 a2), (7, .int .i64 v7_6), (37, .bool false)] (fun P hP => ?_) ?_)
            · simp only [W1.down, Nat.reduceEqDiff, ↓reduceIte, reduceCtorEq, Nat.reduceAdd, Nat.reduceSub, Nat.reduceMul, Nat.reduceLeDiff, Nat.reduceBEq, Nat.reduceLT, if_true, if_false, beq_self_eq_true, BEq.rfl, ne_eq, tt2, tt68, e_i64, e12, b14, b16]
              refine w_call1 (ok_spec_l00In x1 a1 a2 _ e13) rfl rfl rfl rfl (.inl (by rfl)) ?_
              simp only [W1.down, Nat.reduceEqDiff, ↓reduceIte, reduceCtorEq, Nat.reduceAdd, Nat.reduceSub, Nat.reduceMul, Nat.reduceLeDiff, Nat.reduceBEq, Nat.reduceLT, if_true, if_false, beq_self_eq_true, BEq.rfl, ne_eq, tt2, tt68, e_i64, e12, b14, b16]
              refine ⟨by kernel_rfl, ?_⟩
              (try simp only [WN.down, Nat.reduceAdd, if_true, if_false, ↓reduceIte, tt2, tt68, e_i64, e12, b14, b16] at hP)
              (try simp only [WN.down, Nat.reduceAdd, if_true, if_false, ↓reduceIte, tt2, tt68, e_i64, e12, b14, b16])
              exact hP
            refine w_cf rfl ?_
            refine w_skip (n10 _ (n9 _ (.inl ?_)))
            refine w_reg (w_abs [(0, .slice (a0.map e_i64)), (1, .int .i64 a1), (2, .int .i64 a2), (7, .int .i64 (IntKind.i64.wrap (v7_6 + 1)))] (fun P hP => ?_) ?_)
            · simp only [W0.down, Nat.reduceEqDiff, ↓reduceIte, reduceCtorEq, Nat.reduceAdd, Nat.reduceSub, Nat.reduceMul, Nat.reduceLeDiff, Nat.reduceBEq, Nat.reduceLT, if_true, if_false, beq_self_eq_true, BEq.rfl, ne_eq, e_i64]
              (try simp only [WN.down, Nat.reduceAdd, if_true, if_false, ↓reduceIte, e_i64] at hP)
              (try simp only [WN.down, Nat.reduceAdd, if_true, if_false, ↓reduceIte, e_i64])
              exact hP
            exact n5 _ (.inr ⟨_, weak_eq rfl, ih6 (IntKind.i64.wrap (v7_6 + 1)) h⟩)
      · refine w_cf (congrArg AV.bool b8) ?_
        simp only [b8, Bool.not_true, Bool.not_false]
        refine w_ex (x6 0 _ (x5 0 _ (b4 _ (n2 _ (.inl ?_)))))
        refine w_sreg (w_abs [(6, .bool true)] (fun P hP => ?_) ?_)
        · simp only [W0.down, Nat.reduceEqDiff, ↓reduceIte, reduceCtorEq, Nat.reduceAdd, Nat.reduceSub, Nat.reduceMul, Nat.reduceLeDiff, Nat.reduceBEq, Nat.reduceLT, if_true, if_false, beq_self_eq_true, BEq.rfl, ne_eq, e_i64]
          (try simp only [WN.down, Nat.reduceAdd, if_true, if_false, ↓reduceIte, e_i64] at hP)
          (try simp only [WN.down, Nat.reduceAdd, if_true, if_false, ↓reduceIte, e_i64])
          exact hP
        exact w_ret (r0 _ (.inl (w_fin [.bool true] rfl (by cases someE h; rfl) (by decide) outs_nil)))
  obtain ⟨n, h⟩ := limE h
  exact w_loop (.inr ⟨_, weak_eq rfl, L6 n 0 h⟩)

theorem ok_spec_l22Is  (a0 : List impl_Equation) (r : Bool) (h : spec_l22Is  a0 = some r) : OkAt Cc 97 [.slice (a0.map e_impl_Equation)] (.bool r) [] := by
  refine OkAt.of_wpQ (fx := [0]) Cc_ok Try.func97 rfl rfl s97 (Nat.le_of_ble_eq_true rfl) (fun Q0 r0 n0 => ?_)
  replace r0 : ∀ s, onW (Fw.Ends Cc [0] [.tmp 2] (.bool r) []) s → Q0 .ret s := r0
  replace n0 : ∀ s, onW (Fw.Ends Cc [0] [.tmp 2] (.bool r) []) s → Q0 .normal s := n0
  show wpC Cc c97 Q0 (stA [(0, .slice (a0.map e_impl_Equation))])
  refine w_sreg (w_abs [(0, .slice (a0.map e_impl_Equation))] (fun P hP => ?_) ?_)
  · simp only [W0.down, Nat.reduceEqDiff, ↓reduceIte, reduceCtorEq, Nat.reduceAdd, Nat.reduceSub, Nat.reduceMul, Nat.reduceLeDiff, Nat.reduceBEq, Nat.reduceLT, if_true, if_false, beq_self_eq_true, BEq.rfl, ne_eq, e_i64, e_impl_Equation]
    (try simp only [WN.down, Nat.reduceAdd, if_true, if_false, ↓reduceIte, e_i64, e_impl_Equation] at hP)
    (try simp only [WN.down, Nat.reduceAdd, if_true, if_false, ↓reduceIte, e_i64, e_impl_Equation])
    exact hP
  refine w_seq (fun Q2 n2 q2 x2 => ?_)
  rcases condE h with ⟨b4, h⟩ | ⟨b4, h⟩
  · refine w_sreg (w_abs [(0, .slice (a0.map e_impl_Equation)), (16, .bool true)] (fun P hP => ?_) ?_)
    · simp only [W0.down, Nat.reduceEqDiff, ↓reduceIte, reduceCtorEq, Nat.reduceAdd, Nat.reduceSub, Nat.reduceMul, Nat.reduceLeDiff, Nat.reduceBEq, Nat.reduceLT, if_true, if_false, beq_self_eq_true, BEq.rfl, ne_eq, tt2, tt4, tt32, tt68, tt120, e_i64, e_impl_Equation, b4]
      (try simp only [WN.down, Nat.reduceAdd, if_true, if_false, ↓reduceIte, tt2, tt4, tt32, tt68, tt120, e_i64, e_impl_Equation, b4] at hP)
      (try simp only [WN.down, Nat.reduceAdd, if_true, if_false, ↓reduceIte, tt2, tt4, tt32, tt68, tt120, e_i64, e_impl_Equation, b4])
      exact hP
    refine w_ct rfl ?_
    refine w_sreg (w_abs [(2, .bool false)] (fun P hP => ?_) ?_)
    · simp only [W0.down, Nat.reduceEqDiff, ↓reduceIte, reduceCtorEq, Nat.reduceAdd, Nat.reduceSub, Nat.reduceMul, Nat.reduceLeDiff, Nat.reduceBEq, Nat.reduceLT, if_true, if_false, beq_self_eq_true, BEq.rfl, ne_eq, e_i64, e_impl_Equation]
      (try simp only [WN.down, Nat.reduceAdd, if_true, if_false, ↓reduceIte, e_i64, e_impl_Equation] at hP)
      (try simp only [WN.down, Nat.reduceAdd, if_true, if_false, ↓reduceIte, e_i64, e_impl_Equation])
      exact hP
    exact w_ret (q2 _ (r0 _ (.inl (w_fin [.bool false] rfl (by cases someE h; rfl) (by decide) outs_nil))))
  · rcases condE h with ⟨b6, h⟩ | ⟨b6, h⟩
    · refine w_sreg (w_abs [(0, .slice (a0.map e_impl_Equation)), (16, .bool true)] (fun P hP => ?_) ?_)
      · simp only [W0.down, Nat.reduceEqDiff, ↓reduceIte, reduceCtorEq, Nat.reduceAdd, Nat.reduceSub, Nat.reduceMul, Nat.reduceLeDiff, Nat.reduceBEq, Nat.reduceLT, if_true, if_false, beq_self_eq_true, BEq.rfl, ne_eq, tt2, tt4, tt32, tt68, tt120, e_i64, e_impl_Equation, b4, b6]
        (try simp only [WN.down, Nat.reduceAdd, if_true, if_false, ↓reduceIte, tt2, tt4, tt32, tt68, tt120, e_i64, e_impl_Equation, b4, b6] at hP)
        (try simp only [WN.down, Nat.reduceAdd, if_true, if_false, ↓reduceIte, tt2, tt4, tt32, tt68, tt120, e_i64, e_impl_Equation, b4, b6])
        exact hP
      refine w_ct rfl ?_
      refine w_sreg (w_abs [(2, .bool false)] (fun P hP => ?_) ?_)
      · simp only [W0.down, Nat.reduceEqDiff, ↓reduceIte, reduceCtorEq, Nat.reduceAdd, Nat.reduceSub, Nat.reduceMul, Nat.reduceLeDiff, Nat.reduceBEq, Nat.reduceLT, if_true, if_false, beq_self_eq_true, BEq.rfl, ne_eq, e_i64, e_impl_Equation]
        (try simp only [WN.down, Nat.reduceAdd, if_true, if_false, ↓reduceIte, e_i64, e_impl_Equation] at hP)
        (try simp only [WN.down, Nat.reduceAdd, if_true, if_false, ↓reduceIte, e_i64, e_impl_Equation])
        exact hP
      exact w_ret (q2 _ (r0 _ (.inl (w_fin [.bool false] rfl (by cases someE h; rfl) (by decide) outs_nil))))
    · obtain ⟨x1, e8, h⟩ := bindE h
      refine w_sreg (w_abs [(0, .slice (a0.map e_impl_Equation)), (16, .bool (decide (9 < x1)))] (fun P hP => ?_) ?_)
      · simp only [W0.down, Nat.reduceEqDiff, ↓reduceIte, reduceCtorEq, Nat.reduceAdd, Nat.reduceSub, Nat.reduceMul, Nat.reduceLeDiff, Nat.reduceBEq, Nat.reduceLT, if_true, if_false, beq_self_eq_true, BEq.rfl, ne_eq, tt2, tt4, tt32, tt68, tt120, e_i64, e_impl_Equation, b4, b6]
        refine w_callg0 (ok_spec_l22Count a0 _ e8) rfl rfl rfl rfl (.inl (by rfl)) ?_
        simp only [W0.down, Nat.reduceEqDiff, ↓reduceIte, reduceCtorEq, Nat.reduceAdd, Nat.reduceSub, Nat.reduceMul, Nat.reduceLeDiff, Nat.reduceBEq, Nat.reduceLT, if_true, if_false, beq_self_eq_true, BEq.rfl, ne_eq, tt2, tt4, tt32, tt68, tt120, e_i64, e_impl_Equation, b4, b6]
        (try simp only [WN.down, Nat.reduceAdd, if_true, if_false, ↓reduceIte, tt2, tt4, tt32, tt68, tt120, e_i64, e_impl_Equation, b4, b6] at hP)
        (try simp only [WN.down, Nat.reduceAdd, if_true, if_false, ↓reduceIte, tt2, tt4, tt32, tt68, tt120, e_i64, e_impl_Equation, b4, b6])
        exact hP
      rcases condE h with ⟨b9, h⟩ | ⟨b9, h⟩
      · refine w_ct (congrArg AV.bool b9) ?_
        simp only [b9, Bool.not_true, Bool.not_false]
        refine w_sreg (w_abs [(2, .bool false)] (fun P hP => ?_) ?_)
        · simp only [W0.down, Nat.reduceEqDiff, ↓reduceIte, reduceCtorEq, Nat.reduceAdd, Nat.reduceSub, Nat.reduceMul, Nat.reduceLeDiff, Nat.reduceBEq, Nat.reduceLT, if_true, if_false, beq_self_eq_true, BEq.rfl, ne_eq, e_i64, e_impl_Equation]
          (try simp only [WN.down, Nat.reduceAdd, if_true, if_false, ↓reduceIte, e_i64, e_impl_Equation] at hP)
          (try simp only [WN.down, Nat.reduceAdd, if_true, if_false, ↓reduceIte, e_i64, e_impl_Equation])
          exact hP
        exact w_ret (q2 _ (r0 _ (.inl (w_fin [.bool false] rfl (by cases someE h; rfl) (by decide) outs_nil))))
      · refine w_cf (congrArg AV.bool b9) ?_
        simp only [b9, Bool.not_true, Bool.not_false]
        refine w_skip (n2 _ (.inl ?_))
        refine w_seq (fun Q11 n11 q11 x11 => ?_)
        refine w_sreg (w_abs [(0, .slice (a0.map e_impl_Equation)), (3, .int .i64 0)] (fun P hP => ?_) ?_)
        · simp only [W0.down, Nat.reduceEqDiff, ↓reduceIte, reduceCtorEq, Nat.reduceAdd, Nat.reduceSub, Nat.reduceMul, Nat.reduceLeDiff, Nat.reduceBEq, Nat.reduceLT, if_true, if_false, beq_self_eq_true, BEq.rfl, ne_eq, e_i64, e_impl_Equation]
          (try simp only [WN.down, Nat.reduceAdd, if_true, if_false, ↓reduceIte, e_i64, e_impl_Equation] at hP)
          (try simp only [WN.down, Nat.reduceAdd, if_true, if_false, ↓reduceIte, e_i64, e_impl_Equation])
          exact hP
        refine w_blk (fun Q13 n13 q13 b13 x13 => ?_)
        have L14 : ∀ (n : Nat) (v3_14 : Int), spec_l22Is_l14 a0 n v3_14 = some r → lpC Cc c97_15 Q13 (stA [(0, .slice (a0.map e_impl_Equation)), (3, .int .i64 v3_14)]) := by
          intro m14
          induction m14 with
          | zero => intro v3_14 h; cases (show none = some r from h)
          | succ m14 ih14 =>
            intro v3_14 h
            replace h : spec_l22Is_b14 (spec_l22Is_l14 a0 m14) a0 v3_14 = some r := h
            refine lpC_step (fun Q14 n14 q14 x14 => ?_)
            refine w_seq (fun Q15 n15 q15 x15 => ?_)
            refine w_sreg (w_abs [(0, .slice (a0.map e_impl_Equation)), (3, .int .i64 v3_14), (20, .bool (decide (v3_14 < (a0.length : Int))))] (fun P hP => ?_) ?_)
            · simp only [W0.down, Nat.reduceEqDiff, ↓reduceIte, reduceCtorEq, Nat.reduceAdd, Nat.reduceSub, Nat.reduceMul, Nat.reduceLeDiff, Nat.reduceBEq, Nat.reduceLT, if_true, if_false, beq_self_eq_true, BEq.rfl, ne_eq, tt2, tt4, tt32, tt68, tt120, e_i64, e_impl_Equation]
              (try simp only [WN.down, Nat.reduceAdd, if_true, if_false, ↓reduceIte, tt2, tt4, tt32, tt68, tt120, e_i64, e_impl_Equation] at hP)
              (try simp only [WN.down, Nat.reduceAdd, if_true, if_false, ↓reduceIte, tt2, tt4, tt32, tt68, tt120, e_i64, e_impl_Equation])
              exact hP
            rcases condE h with ⟨b17, h⟩ | ⟨b17, h⟩
            · refine w_ct (congrArg AV.bool b17) ?_
              simp only [b17, Bool.not_true, Bool.not_false]
              refine w_skip (n15 _ (.inl ?_))
              refine w_seq (fun Q18 n18 q18 x18 => ?_)
              refine w_blk (fun Q19 n19 q19 b19 x19 => ?_)
              obtain ⟨x2, e21, h⟩ := bindE h
              obtain ⟨x3, e22, h⟩ := bindE h
              refine w_sreg (w_abs [(0, .slice (a0.map e_impl_Equation)), (3, .int .i64 v3_14), (32, .bool (!x3))] (fun P hP => ?_) ?_)
              · simp only [W0.down, Nat.reduceEqDiff, ↓reduceIte, reduceCtorEq, Nat.reduceAdd, Nat.reduceSub, Nat.reduceMul, Nat.reduceLeDiff, Nat.reduceBEq, Nat.reduceLT, if_true, if_false, beq_self_eq_true, BEq.rfl, ne_eq, tt2, tt4, tt32, tt68, tt120, e_i64, e_impl_Equation, e21]
                refine w_call0 (ok_spec_l00Rises x2.Terms 0 (IntKind.i64.wrap ((a0.length : Int) - 1)) _ e22) rfl rfl rfl rfl (.inl (by rfl)) ?_
                simp only [W0.down, Nat.reduceEqDiff, ↓reduceIte, reduceCtorEq, Nat.reduceAdd, Nat.reduceSub, Nat.reduceMul, Nat.reduceLeDiff, Nat.reduceBEq, Nat.reduceLT, if_true, if_false, beq_self_eq_true, BEq.rfl, ne_eq, tt2, tt4, tt32, tt68, tt120, e_i64, e_impl_Equation, e21]
                (try simp only [WN.down, Nat.reduceAdd, if_true, if_false, ↓reduceIte, tt2, tt4, tt32, tt68, tt120, e_i64, e_impl_Equation, e21] at hP)
                (try simp only [WN.down, Nat.reduceAdd, if_true, if_false, ↓reduceIte, tt2, tt4, tt32, tt68, tt120, e_i64, e_impl_Equation, e21])
                exact hP
              rcases condE h with ⟨b23, h⟩ | ⟨b23, h⟩
              · refine w_ct (congrArg AV.bool b23) ?_
                simp only [b23, Bool.not_true, Bool.not_false]
                refine w_sreg (w_abs [(2, .bool false)] (fun P hP => ?_) ?_)
                · simp only [W0.down, Nat.reduceEqDiff, ↓reduceIte, reduceCtorEq, Nat.reduceAdd, Nat.reduceSub, Nat.reduceMul, Nat.reduceLeDiff, Nat.reduceBEq, Nat.reduceLT, if_true, if_false, beq_self_eq_true, BEq.rfl, ne_eq, e_i64, e_impl_Equation]
                  (try simp only [WN.down, Nat.reduceAdd, if_true, if_false, ↓reduceIte, e_i64, e_impl_Equation] at hP)
                  (try simp only [WN.down, Nat.reduceAdd, if_true, if_false, ↓reduceIte, e_i64, e_impl_Equation])
                  exact hP
                exact w_ret (q19 _ (q18 _ (q14 _ (q13 _ (q11 _ (r0 _ (.inl (w_fin [.bool false] rfl (by cases someE h; rfl) (by decide) outs_nil))))))))
              · refine w_cf (congrArg AV.bool b23) ?_
                simp only [b23, Bool.not_true, Bool.not_false]
                refine w_skip (n19 _ (n18 _ (.inl ?_)))
                refine w_reg (w_abs [(0, .slice (a0.map e_impl_Equation)), (3, .int .i64 (IntKind.i64.wrap (v3_14 + 1)))] (fun P hP => ?_) ?_)
                · simp only [W0.down, Nat.reduceEqDiff, ↓reduceIte, reduceCtorEq, Nat.reduceAdd, Nat.reduceSub, Nat.reduceMul, Nat.reduceLeDiff, Nat.reduceBEq, Nat.reduceLT, if_true, if_false, beq_self_eq_true, BEq.rfl, ne_eq, e_i64, e_impl_Equation]
                  (try simp only [WN.down, Nat.reduceAdd, if_true, if_false, ↓reduceIte, e_i64, e_impl_Equation] at hP)
                  (try simp only [WN.down, Nat.reduceAdd, if_true, if_false, ↓reduceIte, e_i64, e_impl_Equation])
                  exact hP
                exact n14 _ (.inr ⟨_, weak_eq rfl, ih14 (IntKind.i64.wrap (v3_14 + 1)) h⟩)
            · refine w_cf (congrArg AV.bool b17) ?_
              simp only [b17, Bool.not_true, Bool.not_false]
              refine w_ex (x15 0 _ (x14 0 _ (b13 _ (n11 _ (.inl ?_)))))
              refine w_sreg (w_abs [(2, .bool true)] (fun P hP => ?_) ?_)
              · simp only [W0.down, Nat.reduceEqDiff, ↓reduceIte, reduceCtorEq, Nat.reduceAdd, Nat.reduceSub, Nat.reduceMul, Nat.reduceLeDiff, Nat.reduceBEq, Nat.reduceLT, if_true, if_false, beq_self_eq_true, BEq.rfl, ne_eq, e_i64, e_impl_Equation]
                (try simp only [WN.down, Nat.reduceAdd, if_true, if_false, ↓reduceIte, e_i64, e_impl_Equation] at hP)
                (try simp only [WN.down, Nat.reduceAdd, if_true, if_false, ↓reduceIte, e_i64, e_impl_Equation])
                exact hP
              exact w_ret (r0 _ (.inl (w_fin [.bool true] rfl (by cases someE h; rfl) (by decide) outs_nil)))
        obtain ⟨n, h⟩ := limE h
        exact w_loop (.inr ⟨_, weak_eq rfl, L14 n 0 h⟩)

theorem ok_spec_l32Number  (a0 : Int) (r : (List UInt8)) (h : spec_l32Number  a0 = some r) : OkAt Cc 187 [.int .i64 a0] (.str r) [] := by
  refine OkAt.of_wpQ (fx := []) Cc_ok Try.func187 rfl rfl s187 (Nat.le_of_ble_eq_true rfl) (fun Q0 r0 n0 => ?_)
  replace r0 : ∀ s, onW (Fw.Ends Cc [] [.tmp 2] (.str r) []) s → Q0 .ret s := r0
  replace n0 : ∀ s, onW (Fw.Ends Cc [] [.tmp 2] (.str r) []) s → Q0 .normal s := n0
  show wpC Cc c187 Q0 (stA [(0, .int .i64 a0)])
  refine w_sreg (w_abs [(0, .int .i64 a0)] (fun P hP => ?_) ?_)
  · simp only [W0.down, Nat.reduceEqDiff, ↓reduceIte, reduceCtorEq, Nat.reduceAdd, Nat.reduceSub, Nat.reduceMul, Nat.reduceLeDiff, Nat.reduceBEq, Nat.reduceLT, if_true, if_false, beq_self_eq_true, BEq.rfl, ne_eq]
    (try simp only [WN.down, Nat.reduceAdd, if_true, if_false, ↓reduceIte] at hP)
    (try simp only [WN.down, Nat.reduceAdd, if_true, if_false, ↓reduceIte])
    exact hP
  refine w_sreg (w_abs [(0, .int .i64 a0), (3, .uslice 1 [])] (fun P hP => ?_) ?_)
  · simp only [W0.down, Nat.reduceEqDiff, ↓reduceIte, reduceCtorEq, Nat.reduceAdd, Nat.reduceSub, Nat.reduceMul, Nat.reduceLeDiff, Nat.reduceBEq, Nat.reduceLT, if_true, if_false, beq_self_eq_true, BEq.rfl, ne_eq, tt5, tt107, byteAV, (show ∀ s, bsl Cc s 107 0 [] = some (.uslice 1 [], s) from fun s => by kernel_rfl)]
    (try simp only [WN.down, Nat.reduceAdd, if_true, if_false, ↓reduceIte, tt5, tt107, byteAV, (show ∀ s, bsl Cc s 107 0 [] = some (.uslice 1 [], s) from fun s => by kernel_rfl)] at hP)
    (try simp only [WN.down, Nat.reduceAdd, if_true, if_false, ↓reduceIte, tt5, tt107, byteAV, (show ∀ s, bsl Cc s 107 0 [] = some (.uslice 1 [], s) from fun s => by kernel_rfl)])
    exact hP
  refine w_seq (fun Q3 n3 q3 x3 => ?_)
  refine w_blk (fun Q4 n4 q4 b4 x4 => ?_)
  have L6 : ∀ (n : Nat) (v0_6 : Int) (v3_6 : List UInt8), spec_l32Number_l6 n v0_6 v3_6 = some r → lpC Cc c187_7 Q4 (stA [(0, .int .i64 v0_6), (3, .uslice 1 (v3_6.map byteAV))]) := by
    intro m6
    induction m6 with
    | zero => intro v0_6 v3_6 h; cases (show none = some r from h)
    | succ m6 ih6 =>
      intro v0_6 v3_6 h
      replace h : spec_l32Number_b6 (spec_l32Number_l6 m6) v0_6 v3_6 = some r := h
      refine lpC_step (fun Q5 n5 q5 x5 => ?_)
      refine w_seq (fun Q6 n6 q6 x6 => ?_)
      refine w_sreg (w_abs [(0, .int .i64 v0_6), (3, .uslice 1 (v3_6.map byteAV)), (6, .bool (decide (128 ≤ v0_6)))] (fun P hP => ?_) ?_)
      · simp only [W0.down, Nat.reduceEqDiff, ↓reduceIte, reduceCtorEq, Nat.reduceAdd, Nat.reduceSub, Nat.reduceMul, Nat.reduceLeDiff, Nat.reduceBEq, Nat.reduceLT, if_true, if_false, beq_self_eq_true, BEq.rfl, ne_eq, byteAV]
        (try simp only [WN.down, Nat.reduceAdd, if_true, if_false, ↓reduceIte, byteAV] at hP)
        (try simp only [WN.down, Nat.reduceAdd, if_true, if_false, ↓reduceIte, byteAV])
        exact hP
      rcases condE h with ⟨b8, h⟩ | ⟨b8, h⟩
      · refine w_ct (congrArg AV.bool b8) ?_
        simp only [b8, Bool.not_true, Bool.not_false]
        refine w_skip (n6 _ (.inl ?_))
        refine w_blk (fun Q9 n9 q9 b9 x9 => ?_)
        obtain ⟨u12, e11, h⟩ := bindE h
        (try simp only [List.length_append, List.length_cons, List.length_nil, List.length_map, List.length_replicate, Nat.zero_add, Nat.add_zero, Nat.reduceAdd] at e11)
        refine w_sreg (w_abs [(0, .int .i64 v0_6), (3, .uslice 1 ((v3_6 ++ [(toB (IntKind.i64.wrap (128 + (Int.tmod v0_6 128))))]).map byteAV))] (fun P hP => ?_) ?_)
        · simp only [W0.down, Nat.reduceEqDiff, ↓reduceIte, reduceCtorEq, Nat.reduceAdd, Nat.reduceSub, Nat.reduceMul, Nat.reduceLeDiff, Nat.reduceBEq, Nat.reduceLT, if_true, if_false, beq_self_eq_true, BEq.rfl, ne_eq, tt5, tt107, byteAV, @bnI_rem' .i64 128 (by decide), @cvt_i' Cc 2 5 .u8 rfl rfl, (show ∀ s, bsl Cc s 107 1 [(0, .int .u8 (IntKind.u8.wrap (IntKind.i64.wrap (128 + (Int.tmod v0_6 128)))))] = some (.uslice 1 [.int .u8 (IntKind.u8.wrap (IntKind.i64.wrap (128 + (Int.tmod v0_6 128))))], s) from fun s => by kernel_rfl), @apd_s Cc 107 107 5 rfl rfl, ap_s, ap2_s, ap3_s, all_cons, all_nil, e11, byte_all]
          (try simp only [WN.down, Nat.reduceAdd, if_true, if_false, ↓reduceIte, tt5, tt107, byteAV, @bnI_rem' .i64 128 (by decide), @cvt_i' Cc 2 5 .u8 rfl rfl, (show ∀ s, bsl Cc s 107 1 [(0, .int .u8 (IntKind.u8.wrap (IntKind.i64.wrap (128 + (Int.tmod v0_6 128)))))] = some (.uslice 1 [.int .u8 (IntKind.u8.wrap (IntKind.i64.wrap (128 + (Int.tmod v0_6 128))))], s) from fun s => by kernel_rfl), @apd_s Cc 107 107 5 rfl rfl, ap_s, ap2_s, ap3_s, all_cons, all_nil, e11, byte_all] at hP)
          (try simp only [WN.down, Nat.reduceAdd, if_true, if_false, ↓reduceIte, tt5, tt107, byteAV, @bnI_rem' .i64 128 (by decide), @cvt_i' Cc 2 5 .u8 rfl rfl, (show ∀ s, bsl Cc s 107 1 [(0, .int .u8 (IntKind.u8.wrap (IntKind.i64.wrap (128 + (Int.tmod v0_6 128)))))] = some (.uslice 1 [.int .u8 (IntKind.u8.wrap (IntKind.i64.wrap (128 + (Int.tmod v0_6 128))))], s) from fun s => by kernel_rfl), @apd_s Cc 107 107 5 rfl rfl, ap_s, ap2_s, ap3_s, all_cons, all_nil, e11, byte_all])
          exact hP
        refine w_reg (w_abs [(0, .int .i64 (IntKind.i64.wrap (Int.tdiv v0_6 128))), (3, .uslice 1 ((v3_6 ++ [(toB (IntKind.i64.wrap (128 + (Int.tmod v0_6 128))))]).map byteAV))] (fun P hP => ?_) ?_)
        · simp only [W0.down, Nat.reduceEqDiff, ↓reduceIte, reduceCtorEq, Nat.reduceAdd, Nat.reduceSub, Nat.reduceMul, Nat.reduceLeDiff, Nat.reduceBEq, Nat.reduceLT, if_true, if_false, beq_self_eq_true, BEq.rfl, ne_eq, byteAV, @bnI_quo' .i64 128 (by decide)]
          (try simp only [WN.down, Nat.reduceAdd, if_true, if_false, ↓reduceIte, byteAV, @bnI_quo' .i64 128 (by decide)] at hP)
          (try simp only [WN.down, Nat.reduceAdd, if_true, if_false, ↓reduceIte, byteAV, @bnI_quo' .i64 128 (by decide)])
          exact hP
        exact n9 _ (n5 _ (.inr ⟨_, weak_eq rfl, ih6 (IntKind.i64.wrap (Int.tdiv v0_6 128)) (v3_6 ++ [(toB (IntKind.i64.wrap (128 + (Int.tmod v0_6 128))))]) h⟩))
      · refine w_cf (congrArg AV.bool b8) ?_
        simp only [b8, Bool.not_true, Bool.not_false]
        refine w_ex (x6 0 _ (x5 0 _ (b4 _ (n3 _ (.inl ?_)))))
        obtain ⟨u15, e14, h⟩ := bindE h
        (try simp only [List.length_append, List.length_cons, List.length_nil, List.length_map, List.length_replicate, Nat.zero_add, Nat.add_zero, Nat.reduceAdd] at e14)
        refine w_sreg (w_abs [(3, .uslice 1 ((v3_6 ++ [(toB v0_6)]).map byteAV))] (fun P hP => ?_) ?_)
        · simp only [W0.down, Nat.reduceEqDiff, ↓reduceIte, reduceCtorEq, Nat.reduceAdd, Nat.reduceSub, Nat.reduceMul, Nat.reduceLeDiff, Nat.reduceBEq, Nat.reduceLT, if_true, if_false, beq_self_eq_true, BEq.rfl, ne_eq, tt5, tt107, byteAV, @cvt_i' Cc 2 5 .u8 rfl rfl, (show ∀ s, bsl Cc s 107 1 [(0, .int .u8 (IntKind.u8.wrap v0_6))] = some (.uslice 1 [.int .u8 (IntKind.u8.wrap v0_6)], s) from fun s => by kernel_rfl), @apd_s Cc 107 107 5 rfl rfl, ap_s, ap2_s, ap3_s, all_cons, all_nil, e14, byte_all]
          (try simp only [WN.down, Nat.reduceAdd, if_true, if_false, ↓reduceIte, tt5, tt107, byteAV, @cvt_i' Cc 2 5 .u8 rfl rfl, (show ∀ s, bsl Cc s 107 1 [(0, .int .u8 (IntKind.u8.wrap v0_6))] = some (.uslice 1 [.int .u8 (IntKind.u8.wrap v0_6)], s) from fun s => by kernel_rfl), @apd_s Cc 107 107 5 rfl rfl, ap_s, ap2_s, ap3_s, all_cons, all_nil, e14, byte_all] at hP)
          (try simp only [WN.down, Nat.reduceAdd, if_true, if_false, ↓reduceIte, tt5, tt107, byteAV, @cvt_i' Cc 2 5 .u8 rfl rfl, (show ∀ s, bsl Cc s 107 1 [(0, .int .u8 (IntKind.u8.wrap v0_6))] = some (.uslice 1 [.int .u8 (IntKind.u8.wrap v0_6)], s) from fun s => by kernel_rfl), @apd_s Cc 107 107 5 rfl rfl, ap_s, ap2_s, ap3_s, all_cons, all_nil, e14, byte_all])
          exact hP
        refine w_sreg (w_abs [(2, .str (v3_6 ++ [(toB v0_6)]))] (fun P hP => ?_) ?_)
        · simp only [W0.down, Nat.reduceEqDiff, ↓reduceIte, reduceCtorEq, Nat.reduceAdd, Nat.reduceSub, Nat.reduceMul, Nat.reduceLeDiff, Nat.reduceBEq, Nat.reduceLT, if_true, if_false, beq_self_eq_true, BEq.rfl, ne_eq, byteAV, (@cvt_bs' Cc 107 9 5 rfl rfl rfl).2.2, bytesOf_s, strU_s]
          (try simp only [WN.down, Nat.reduceAdd, if_true, if_false, ↓reduceIte, byteAV, (@cvt_bs' Cc 107 9 5 rfl rfl rfl).2.2, bytesOf_s, strU_s] at hP)
          (try simp only [WN.down, Nat.reduceAdd, if_true, if_false, ↓reduceIte, byteAV, (@cvt_bs' Cc 107 9 5 rfl rfl rfl).2.2, bytesOf_s, strU_s])
          exact hP
        exact w_ret (r0 _ (.inl (w_fin [.str (v3_6 ++ [(toB v0_6)])] rfl (by cases someE h; rfl) (by decide) outs_nil)))
  obtain ⟨n, h⟩ := limE h
  exact w_loop (.inr ⟨_, weak_eq rfl, L6 n a0 [] h⟩)

theorem ok_spec_l03Truth  (a0 : Bool) (r : Int) (h : spec_l03Truth  a0 = some r) : OkAt Cc 188 [.bool a0] (.int .i64 r) [] := by
  refine OkAt.of_wpQ (fx := [0]) Cc_ok Try.func188 rfl rfl s188 (Nat.le_of_ble_eq_true rfl) (fun Q0 r0 n0 => ?_)
  replace r0 : ∀ s, onW (Fw.Ends Cc [0] [.tmp 2] (.int .i64 r) []) s → Q0 .ret s := r0
  replace n0 : ∀ s, onW (Fw.Ends Cc [0] [.tmp 2] (.int .i64 r) []) s → Q0 .normal s := n0
  show wpC Cc c188 Q0 (stA [(0, .bool a0)])
  refine w_sreg (w_abs [(0, .bool a0)] (fun P hP => ?_) ?_)
  · simp only [W0.down, Nat.reduceEqDiff, ↓reduceIte, reduceCtorEq, Nat.reduceAdd, Nat.reduceSub, Nat.reduceMul, Nat.reduceLeDiff, Nat.reduceBEq, Nat.reduceLT, if_true, if_false, beq_self_eq_true, BEq.rfl, ne_eq]
    (try simp only [WN.down, Nat.reduceAdd, if_true, if_false, ↓reduceIte] at hP)
    (try simp only [WN.down, Nat.reduceAdd, if_true, if_false, ↓reduceIte])
    exact hP
  refine w_seq (fun Q2 n2 q2 x2 => ?_)
  refine w_sreg (w_abs [(3, .bool a0)] (fun P hP => ?_) ?_)
  · simp only [W0.down, Nat.reduceEqDiff, ↓reduceIte, reduceCtorEq, Nat.reduceAdd, Nat.reduceSub, Nat.reduceMul, Nat.reduceLeDiff, Nat.reduceBEq, Nat.reduceLT, if_true, if_false, beq_self_eq_true, BEq.rfl, ne_eq]
    (try simp only [WN.down, Nat.reduceAdd, if_true, if_false, ↓reduceIte] at hP)
    (try simp only [WN.down, Nat.reduceAdd, if_true, if_false, ↓reduceIte])
    exact hP
  rcases condE h with ⟨b4, h⟩ | ⟨b4, h⟩
  · refine w_ct (congrArg AV.bool b4) ?_
    simp only [b4, Bool.not_true, Bool.not_false]
    refine w_sreg (w_abs [(2, .int .i64 1)] (fun P hP => ?_) ?_)
    · simp only [W0.down, Nat.reduceEqDiff, ↓reduceIte, reduceCtorEq, Nat.reduceAdd, Nat.reduceSub, Nat.reduceMul, Nat.reduceLeDiff, Nat.reduceBEq, Nat.reduceLT, if_true, if_false, beq_self_eq_true, BEq.rfl, ne_eq]
      (try simp only [WN.down, Nat.reduceAdd, if_true, if_false, ↓reduceIte] at hP)
      (try simp only [WN.down, Nat.reduceAdd, if_true, if_false, ↓reduceIte])
      exact hP
    exact w_ret (q2 _ (r0 _ (.inl (w_fin [.int .i64 1] rfl (by cases someE h; rfl) (by decide) outs_nil))))
  · refine w_cf (congrArg AV.bool b4) ?_
    simp only [b4, Bool.not_true, Bool.not_false]
    refine w_skip (n2 _ (.inl ?_))
    refine w_sreg (w_abs [(2, .int .i64 0)] (fun P hP => ?_) ?_)
    · simp only [W0.down, Nat.reduceEqDiff, ↓reduceIte, reduceCtorEq, Nat.reduceAdd, Nat.reduceSub, Nat.reduceMul, Nat.reduceLeDiff, Nat.reduceBEq, Nat.reduceLT, if_true, if_false, beq_self_eq_true, BEq.rfl, ne_eq]
      (try simp only [WN.down, Nat.reduceAdd, if_true, if_false, ↓reduceIte] at hP)
      (try simp only [WN.down, Nat.reduceAdd, if_true, if_false, ↓reduceIte])
      exact hP
    exact w_ret (r0 _ (.inl (w_fin [.int .i64 0] rfl (by cases someE h; rfl) (by decide) outs_nil)))

theorem ok_spec_l32Seal  (a0 : Int) (a1 : List UInt8) (r : (List UInt8)) (h : spec_l32Seal  a0 a1 = some r) : OkAt Cc 189 [.int .i64 a0, .str a1] (.str r) [] := by
  refine OkAt.of_wpQ (fx := [0, 1]) Cc_ok Try.func189 rfl rfl s189 (Nat.le_of_ble_eq_true rfl) (fun Q0 r0 n0 => ?_)
  replace r0 : ∀ s, onW (Fw.Ends Cc [0, 1] [.tmp 4] (.str r) []) s → Q0 .ret s := r0
  replace n0 : ∀ s, onW (Fw.Ends Cc [0, 1] [.tmp 4] (.str r) []) s → Q0 .normal s := n0
  show wpC Cc c189 Q0 (stA [(0, .int .i64 a0), (1, .str a1)])
  refine w_sreg (w_abs [(0, .int .i64 a0), (1, .str a1)] (fun P hP => ?_) ?_)
  · simp only [W0.down, Nat.reduceEqDiff, ↓reduceIte, reduceCtorEq, Nat.reduceAdd, Nat.reduceSub, Nat.reduceMul, Nat.reduceLeDiff, Nat.reduceBEq, Nat.reduceLT, if_true, if_false, beq_self_eq_true, BEq.rfl, ne_eq]
    (try simp only [WN.down, Nat.reduceAdd, if_true, if_false, ↓reduceIte] at hP)
    (try simp only [WN.down, Nat.reduceAdd, if_true, if_false, ↓reduceIte])
    exact hP
  obtain ⟨u11, e3, h⟩ := bindE h
  (try simp only [List.length_append, List.length_cons, List.length_nil, List.length_map, List.length_replicate, Nat.zero_add, Nat.add_zero, Nat.reduceAdd] at e3)
  refine w_sreg (w_abs [(5, .str ([(toB a0)] ++ a1))] (fun P hP => ?_) ?_)
  · simp only [W0.down, Nat.reduceEqDiff, ↓reduceIte, reduceCtorEq, Nat.reduceAdd, Nat.reduceSub, Nat.reduceMul, Nat.reduceLeDiff, Nat.reduceBEq, Nat.reduceLT, if_true, if_false, beq_self_eq_true, BEq.rfl, ne_eq, tt5, tt107, byteAV, @cvt_i' Cc 2 5 .u8 rfl rfl, (show ∀ s, bsl Cc s 107 1 [(0, .int .u8 (IntKind.u8.wrap a0))] = some (.uslice 1 [.int .u8 (IntKind.u8.wrap a0)], s) from fun s => by kernel_rfl), (@cvt_bs' Cc 107 9 5 rfl rfl rfl).2.2, bytesOf_s, strU_s, e3, bnS_cat, addR_s]
    (try simp only [WN.down, Nat.reduceAdd, if_true, if_false, ↓reduceIte, tt5, tt107, byteAV, @cvt_i' Cc 2 5 .u8 rfl rfl, (show ∀ s, bsl Cc s 107 1 [(0, .int .u8 (IntKind.u8.wrap a0))] = some (.uslice 1 [.int .u8 (IntKind.u8.wrap a0)], s) from fun s => by kernel_rfl), (@cvt_bs' Cc 107 9 5 rfl rfl rfl).2.2, bytesOf_s, strU_s, e3, bnS_cat, addR_s] at hP)
    (try simp only [WN.down, Nat.reduceAdd, if_true, if_false, ↓reduceIte, tt5, tt107, byteAV, @cvt_i' Cc 2 5 .u8 rfl rfl, (show ∀ s, bsl Cc s 107 1 [(0, .int .u8 (IntKind.u8.wrap a0))] = some (.uslice 1 [.int .u8 (IntKind.u8.wrap a0)], s) from fun s => by kernel_rfl), (@cvt_bs' Cc 107 9 5 rfl rfl rfl).2.2, bytesOf_s, strU_s, e3, bnS_cat, addR_s])
    exact hP
  refine w_seq (fun Q4 n4 q4 x4 => ?_)
  refine w_sreg (w_abs [(5, .str ([(toB a0)] ++ a1)), (16, .bool (decide (6000 < (IntKind.i64.wrap ((([(toB a0)] ++ a1).length : Int) + 2)))))] (fun P hP => ?_) ?_)
  · simp only [W0.down, Nat.reduceEqDiff, ↓reduceIte, reduceCtorEq, Nat.reduceAdd, Nat.reduceSub, Nat.reduceMul, Nat.reduceLeDiff, Nat.reduceBEq, Nat.reduceLT, if_true, if_false, beq_self_eq_true, BEq.rfl, ne_eq, tt9]
    (try simp only [WN.down, Nat.reduceAdd, if_true, if_false, ↓reduceIte, tt9] at hP)
    (try simp only [WN.down, Nat.reduceAdd, if_true, if_false, ↓reduceIte, tt9])
    exact hP
  rcases condE h with ⟨b6, h⟩ | ⟨b6, h⟩
  · refine w_ct (congrArg AV.bool b6) ?_
    simp only [b6, Bool.not_true, Bool.not_false]
    refine w_sreg (w_abs [(4, .str ([] : List UInt8))] (fun P hP => ?_) ?_)
    · simp only [W0.down, Nat.reduceEqDiff, ↓reduceIte, reduceCtorEq, Nat.reduceAdd, Nat.reduceSub, Nat.reduceMul, Nat.reduceLeDiff, Nat.reduceBEq, Nat.reduceLT, if_true, if_false, beq_self_eq_true, BEq.rfl, ne_eq]
      (try simp only [WN.down, Nat.reduceAdd, if_true, if_false, ↓reduceIte] at hP)
      (try simp only [WN.down, Nat.reduceAdd, if_true, if_false, ↓reduceIte])
      exact hP
    exact w_ret (q4 _ (r0 _ (.inl (w_fin [.str ([] : List UInt8)] rfl (by cases someE h; rfl) (by decide) outs_nil))))
  · refine w_cf (congrArg AV.bool b6) ?_
    simp only [b6, Bool.not_true, Bool.not_false]
    refine w_skip (n4 _ (.inl ?_))
    obtain ⟨x1, e9, h⟩ := bindE h
    refine w_sreg (w_abs [(5, .str ([(toB a0)] ++ a1)), (6, .int .i64 x1)] (fun P hP => ?_) ?_)
    · simp only [W0.down, Nat.reduceEqDiff, ↓reduceIte, reduceCtorEq, Nat.reduceAdd, Nat.reduceSub, Nat.reduceMul, Nat.reduceLeDiff, Nat.reduceBEq, Nat.reduceLT, if_true, if_false, beq_self_eq_true, BEq.rfl, ne_eq]
      refine w_call0 (ok_spec_l01Crc ([(toB a0)] ++ a1) 65535 _ e9) rfl rfl rfl rfl (.inl (by rfl)) ?_
      simp only [W0.down, Nat.reduceEqDiff, ↓reduceIte, reduceCtorEq, Nat.reduceAdd, Nat.reduceSub, Nat.reduceMul, Nat.reduceLeDiff, Nat.reduceBEq, Nat.reduceLT, if_true, if_false, beq_self_eq_true, BEq.rfl, ne_eq]
      (try simp only [WN.down, Nat.reduceAdd, if_true, if_false, ↓reduceIte] at hP)
      (try simp only [WN.down, Nat.reduceAdd, if_true, if_false, ↓reduceIte])
      exact hP
    obtain ⟨u11, e11, h⟩ := bindE h
    (try simp only [List.length_append, List.length_cons, List.length_nil, List.length_map, List.length_replicate, Nat.zero_add, Nat.add_zero, Nat.reduceAdd] at e11)
    refine w_sreg (w_abs [(4, .str (([(toB a0)] ++ a1) ++ [(toB (IntKind.i64.wrap (Int.tdiv x1 256))), (toB (Int.tmod x1 256))]))] (fun P hP => ?_) ?_)
    · simp only [W0.down, Nat.reduceEqDiff, ↓reduceIte, reduceCtorEq, Nat.reduceAdd, Nat.reduceSub, Nat.reduceMul, Nat.reduceLeDiff, Nat.reduceBEq, Nat.reduceLT, if_true, if_false, beq_self_eq_true, BEq.rfl, ne_eq, tt5, tt107, byteAV, @bnI_quo' .i64 256 (by decide), @cvt_i' Cc 2 5 .u8 rfl rfl, @bnI_rem' .i64 256 (by decide), (show ∀ s, bsl Cc s 107 2 [(0, .int .u8 (IntKind.u8.wrap (IntKind.i64.wrap (Int.tdiv x1 256)))), (1, .int .u8 (IntKind.u8.wrap (Int.tmod x1 256)))] = some (.uslice 1 [.int .u8 (IntKind.u8.wrap (IntKind.i64.wrap (Int.tdiv x1 256))), .int .u8 (IntKind.u8.wrap (Int.tmod x1 256))], s) from fun s => by kernel_rfl), (@cvt_bs' Cc 107 9 5 rfl rfl rfl).2.2, bytesOf_s, strU_s, e11, bnS_cat, addR_s]
      (try simp only [WN.down, Nat.reduceAdd, if_true, if_false, ↓reduceIte, tt5, tt107, byteAV, @bnI_quo' .i64 256 (by decide), @cvt_i' Cc 2 5 .u8 rfl rfl, @bnI_rem' .i64 256 (by decide), (show ∀ s, bsl Cc s 107 2 [(0, .int .u8 (IntKind.u8.wrap (IntKind.i64.wrap (Int.tdiv x1 256)))), (1, .int .u8 (IntKind.u8.wrap (Int.tmod x1 256)))] = some (.uslice 1 [.int .u8 (IntKind.u8.wrap (IntKind.i64.wrap (Int.tdiv x1 256))), .int .u8 (IntKind.u8.wrap (Int.tmod x1 256))], s) from fun s => by kernel_rfl), (@cvt_bs' Cc 107 9 5 rfl rfl rfl).2.2, bytesOf_s, strU_s, e11, bnS_cat, addR_s] at hP)
      (try simp only [WN.down, Nat.reduceAdd, if_true, if_false, ↓reduceIte, tt5, tt107, byteAV, @bnI_quo' .i64 256 (by decide), @cvt_i' Cc 2 5 .u8 rfl rfl, @bnI_rem' .i64 256 (by decide), (show ∀ s, bsl Cc s 107 2 [(0, .int .u8 (IntKind.u8.wrap (IntKind.i64.wrap (Int.tdiv x1 256)))), (1, .int .u8 (IntKind.u8.wrap (Int.tmod x1 256)))] = some (.uslice 1 [.int .u8 (IntKind.u8.wrap (IntKind.i64.wrap (Int.tdiv x1 256))), .int .u8 (IntKind.u8.wrap (Int.tmod x1 256))], s) from fun s => by kernel_rfl), (@cvt_bs' Cc 107 9 5 rfl rfl rfl).2.2, bytesOf_s, strU_s, e11, bnS_cat, addR_s])
      exact hP
    exact w_ret (r0 _ (.inl (w_fin [.str (([(toB a0)] ++ a1) ++ [(toB (IntKind.i64.wrap (Int.tdiv x1 256))), (toB (Int.tmod x1 256))])] rfl (by cases someE h; rfl) (by decide) outs_nil)))

theorem ok_spec_l32Equations  (a0 : List impl_Equation) (r : (List UInt8)) (h : spec_l32Equations  a0 = some r) : OkAt Cc 98 [.slice (a0.map e_impl_Equation)] (.str r) [] := by
  refine OkAt.of_wpQ (fx := [0]) Cc_ok Try.func98 rfl rfl s98 (Nat.le_of_ble_eq_true rfl) (fun Q0 r0 n0 => ?_)
  replace r0 : ∀ s, onW (Fw.Ends Cc [0] [.tmp 2] (.str r) []) s → Q0 .ret s := r0
  replace n0 : ∀ s, onW (Fw.Ends Cc [0] [.tmp 2] (.str r) []) s → Q0 .normal s := n0
  show wpC Cc c98 Q0 (stA [(0, .slice (a0.map e_impl_Equation))])
  refine w_sreg (w_abs [(0, .slice (a0.map e_impl_Equation))] (fun P hP => ?_) ?_)
  · simp only [W0.down, Nat.reduceEqDiff, ↓reduceIte, reduceCtorEq, Nat.reduceAdd, Nat.reduceSub, Nat.reduceMul, Nat.reduceLeDiff, Nat.reduceBEq, Nat.reduceLT, if_true, if_false, beq_self_eq_true, BEq.rfl, ne_eq, e_i64, e_impl_Equation]
    (try simp only [WN.down, Nat.reduceAdd, if_true, if_false, ↓reduceIte, e_i64, e_impl_Equation] at hP)
    (try simp only [WN.down, Nat.reduceAdd, if_true, if_false, ↓reduceIte, e_i64, e_impl_Equation])
    exact hP
  obtain ⟨x1, e3, h⟩ := bindE h
  refine w_sreg (w_abs [(0, .slice (a0.map e_impl_Equation)), (3, .str x1)] (fun P hP => ?_) ?_)
  · simp only [W0.down, Nat.reduceEqDiff, ↓reduceIte, reduceCtorEq, Nat.reduceAdd, Nat.reduceSub, Nat.reduceMul, Nat.reduceLeDiff, Nat.reduceBEq, Nat.reduceLT, if_true, if_false, beq_self_eq_true, BEq.rfl, ne_eq, tt2, tt4, tt32, tt68, tt120, e_i64, e_impl_Equation]
    refine w_call0 (ok_spec_l32Number (a0.length : Int) _ e3) rfl rfl rfl rfl (.inl (by rfl)) ?_
    simp only [W0.down, Nat.reduceEqDiff, ↓reduceIte, reduceCtorEq, Nat.reduceAdd, Nat.reduceSub, Nat.reduceMul, Nat.reduceLeDiff, Nat.reduceBEq, Nat.reduceLT, if_true, if_false, beq_self_eq_true, BEq.rfl, ne_eq, tt2, tt4, tt32, tt68, tt120, e_i64, e_impl_Equation]
    (try simp only [WN.down, Nat.reduceAdd, if_true, if_false, ↓reduceIte, tt2, tt4, tt32, tt68, tt120, e_i64, e_impl_Equation] at hP)
    (try simp only [WN.down, Nat.reduceAdd, if_true, if_false, ↓reduceIte, tt2, tt4, tt32, tt68, tt120, e_i64, e_impl_Equation])
    exact hP
  refine w_seq (fun Q4 n4 q4 x4 => ?_)
  refine w_sreg (w_abs [(0, .slice (a0.map e_impl_Equation)), (3, .str x1), (4, .int .i64 0)] (fun P hP => ?_) ?_)
  · simp only [W0.down, Nat.reduceEqDiff, ↓reduceIte, reduceCtorEq, Nat.reduceAdd, Nat.reduceSub, Nat.reduceMul, Nat.reduceLeDiff, Nat.reduceBEq, Nat.reduceLT, if_true, if_false, beq_self_eq_true, BEq.rfl, ne_eq, e_i64, e_impl_Equation]
    (try simp only [WN.down, Nat.reduceAdd, if_true, if_false, ↓reduceIte, e_i64, e_impl_Equation] at hP)
    (try simp only [WN.down, Nat.reduceAdd, if_true, if_false, ↓reduceIte, e_i64, e_impl_Equation])
    exact hP
  refine w_blk (fun Q6 n6 q6 b6 x6 => ?_)
  have L8 : ∀ (n : Nat) (v3_8 : List UInt8) (v4_8 : Int), spec_l32Equations_l8 a0 n v3_8 v4_8 = some r → lpC Cc c98_9 Q6 (stA [(0, .slice (a0.map e_impl_Equation)), (3, .str v3_8), (4, .int .i64 v4_8)]) := by
    intro m8
    induction m8 with
    | zero => intro v3_8 v4_8 h; cases (show none = some r from h)
    | succ m8 ih8 =>
      intro v3_8 v4_8 h
      replace h : spec_l32Equations_b8 (spec_l32Equations_l8 a0 m8) a0 v3_8 v4_8 = some r := h
      refine lpC_step (fun Q7 n7 q7 x7 => ?_)
      refine w_seq (fun Q8 n8 q8 x8 => ?_)
      refine w_sreg (w_abs [(0, .slice (a0.map e_impl_Equation)), (3, .str v3_8), (4, .int .i64 v4_8), (12, .bool (decide (v4_8 < (a0.length : Int))))] (fun P hP => ?_) ?_)
      · simp only [W0.down, Nat.reduceEqDiff, ↓reduceIte, reduceCtorEq, Nat.reduceAdd, Nat.reduceSub, Nat.reduceMul, Nat.reduceLeDiff, Nat.reduceBEq, Nat.reduceLT, if_true, if_false, beq_self_eq_true, BEq.rfl, ne_eq, tt2, tt4, tt32, tt68, tt120, e_i64, e_impl_Equation]
        (try simp only [WN.down, Nat.reduceAdd, if_true, if_false, ↓reduceIte, tt2, tt4, tt32, tt68, tt120, e_i64, e_impl_Equation] at hP)
        (try simp only [WN.down, Nat.reduceAdd, if_true, if_false, ↓reduceIte, tt2, tt4, tt32, tt68, tt120, e_i64, e_impl_Equation])
        exact hP
      rcases condE h with ⟨b10, h⟩ | ⟨b10, h⟩
      · refine w_ct (congrArg AV.bool b10) ?_
        simp only [b10, Bool.not_true, Bool.not_false]
        refine w_skip (n8 _ (.inl ?_))
        refine w_seq (fun Q11 n11 q11 x11 => ?_)
        refine w_blk (fun Q12 n12 q12 b12 x12 => ?_)
        obtain ⟨x2, e14, h⟩ := bindE h
        obtain ⟨x3, e15, h⟩ := bindE h
        obtain ⟨x4, e16, h⟩ := bindE h
        obtain ⟨x5, e17, h⟩ := bindE h
        obtain ⟨x6, e18, h⟩ := bindE h
        obtain ⟨u39, e19, h⟩ := bindE h
        (try simp only [List.length_append, List.length_cons, List.length_nil, List.length_map, List.length_replicate, Nat.zero_add, Nat.add_zero, Nat.reduceAdd] at e19)
        obtain ⟨u39, e20, h⟩ := bindE h
        (try simp only [List.length_append, List.length_cons, List.length_nil, List.length_map, List.length_replicate, Nat.zero_add, Nat.add_zero, Nat.reduceAdd] at e20)
        refine w_sdrw rfl (w_absd [(0, .slice (a0.map e_impl_Equation)), (3, .str (v3_8 ++ (x5 ++ x6))), (4, .int .i64 v4_8)] (fun P hP => ?_) ?_)
        · simp only [W1.down, Nat.reduceEqDiff, ↓reduceIte, reduceCtorEq, Nat.reduceAdd, Nat.reduceSub, Nat.reduceMul, Nat.reduceLeDiff, Nat.reduceBEq, Nat.reduceLT, if_true, if_false, beq_self_eq_true, BEq.rfl, ne_eq, tt2, tt4, tt32, tt68, tt120, e_i64, e_impl_Equation, e14, e19, bnS_cat, addR_s, e20]
          refine w_call1 (ok_spec_l03Truth x2.Greatest _ e15) rfl rfl rfl rfl (.inl (by rfl)) ?_
          simp only [W1.down, Nat.reduceEqDiff, ↓reduceIte, reduceCtorEq, Nat.reduceAdd, Nat.reduceSub, Nat.reduceMul, Nat.reduceLeDiff, Nat.reduceBEq, Nat.reduceLT, if_true, if_false, beq_self_eq_true, BEq.rfl, ne_eq, tt2, tt4, tt32, tt68, tt120, e_i64, e_impl_Equation, e14, e19, bnS_cat, addR_s, e20]
          refine w_call1 (ok_spec_l03Truth x2.All _ e16) rfl rfl rfl rfl (.inl (by rfl)) ?_
          simp only [W1.down, Nat.reduceEqDiff, ↓reduceIte, reduceCtorEq, Nat.reduceAdd, Nat.reduceSub, Nat.reduceMul, Nat.reduceLeDiff, Nat.reduceBEq, Nat.reduceLT, if_true, if_false, beq_self_eq_true, BEq.rfl, ne_eq, tt2, tt4, tt32, tt68, tt120, e_i64, e_impl_Equation, e14, e19, bnS_cat, addR_s, e20]
          refine w_call1 (ok_spec_l32Number (IntKind.i64.wrap (x3 + (IntKind.i64.wrap (2 * x4)))) _ e17) rfl rfl rfl rfl (.inl (by rfl)) ?_
          simp only [W1.down, Nat.reduceEqDiff, ↓reduceIte, reduceCtorEq, Nat.reduceAdd, Nat.reduceSub, Nat.reduceMul, Nat.reduceLeDiff, Nat.reduceBEq, Nat.reduceLT, if_true, if_false, beq_self_eq_true, BEq.rfl, ne_eq, tt2, tt4, tt32, tt68, tt120, e_i64, e_impl_Equation, e14, e19, bnS_cat, addR_s, e20]
          refine w_call1 (ok_spec_l32Number (x2.Terms.length : Int) _ e18) rfl rfl rfl rfl (.inl (by rfl)) ?_
          simp only [W1.down, Nat.reduceEqDiff, ↓reduceIte, reduceCtorEq, Nat.reduceAdd, Nat.reduceSub, Nat.reduceMul, Nat.reduceLeDiff, Nat.reduceBEq, Nat.reduceLT, if_true, if_false, beq_self_eq_true, BEq.rfl, ne_eq, tt2, tt4, tt32, tt68, tt120, e_i64, e_impl_Equation, e14, e19, bnS_cat, addR_s, e20]
          refine ⟨by kernel_rfl, ?_⟩
          (try simp only [WN.down, Nat.reduceAdd, if_true, if_false, ↓reduceIte, tt2, tt4, tt32, tt68, tt120, e_i64, e_impl_Equation, e14, e19, bnS_cat, addR_s, e20] at hP)
          (try simp only [WN.down, Nat.reduceAdd, if_true, if_false, ↓reduceIte, tt2, tt4, tt32, tt68, tt120, e_i64, e_impl_Equation, e14, e19, bnS_cat, addR_s, e20])
          exact hP
        refine w_seq (fun Q21 n21 q21 x21 => ?_)
        refine w_sreg (w_abs [(0, .slice (a0.map e_impl_Equation)), (3, .str (v3_8 ++ (x5 ++ x6))), (4, .int .i64 v4_8), (5, .int .i64 0)] (fun P hP => ?_) ?_)
        · simp only [W0.down, Nat.reduceEqDiff, ↓reduceIte, reduceCtorEq, Nat.reduceAdd, Nat.reduceSub, Nat.reduceMul, Nat.reduceLeDiff, Nat.reduceBEq, Nat.reduceLT, if_true, if_false, beq_self_eq_true, BEq.rfl, ne_eq, e_i64, e_impl_Equation]
          (try simp only [WN.down, Nat.reduceAdd, if_true, if_false, ↓reduceIte, e_i64, e_impl_Equation] at hP)
          (try simp only [WN.down, Nat.reduceAdd, if_true, if_false, ↓reduceIte, e_i64, e_impl_Equation])
          exact hP
        refine w_blk (fun Q23 n23 q23 b23 x23 => ?_)
        have L23 : ∀ (n : Nat) (v3_23 : List UInt8) (v4_23 : Int) (v5_23 : Int), spec_l32Equations_l23 (spec_l32Equations_l8 a0 m8) a0 n v3_23 v4_23 v5_23 = some r → lpC Cc c98_24 Q23 (stA [(0, .slice (a0.map e_impl_Equation)), (3, .str v3_23), (4, .int .i64 v4_23), (5, .int .i64 v5_23)]) := by
          intro m23
          induction m23 with
          | zero => intro v3_23 v4_23 v5_23 h; cases (show none = some r from h)
          | succ m23 ih23 =>
            intro v3_23 v4_23 v5_23 h
            replace h : spec_l32Equations_b23 (spec_l32Equations_l8 a0 m8) (spec_l32Equations_l23 (spec_l32Equations_l8 a0 m8) a0 m23) a0 v3_23 v4_23 v5_23 = some r := h
            refine lpC_step (fun Q24 n24 q24 x24 => ?_)
            refine w_seq (fun Q25 n25 q25 x25 => ?_)
            obtain ⟨x7, e27, h⟩ := bindE h
            refine w_sreg (w_abs [(0, .slice (a0.map e_impl_Equation)), (3, .str v3_23), (4, .int .i64 v4_23), (5, .int .i64 v5_23), (47, .bool (decide (v5_23 < (x7.Terms.length : Int))))] (fun P hP => ?_) ?_)
            · simp only [W0.down, Nat.reduceEqDiff, ↓reduceIte, reduceCtorEq, Nat.reduceAdd, Nat.reduceSub, Nat.reduceMul, Nat.reduceLeDiff, Nat.reduceBEq, Nat.reduceLT, if_true, if_false, beq_self_eq_true, BEq.rfl, ne_eq, tt2, tt4, tt32, tt68, tt120, e_i64, e_impl_Equation, e27]
              (try simp only [WN.down, Nat.reduceAdd, if_true, if_false, ↓reduceIte, tt2, tt4, tt32, tt68, tt120, e_i64, e_impl_Equation, e27] at hP)
              (try simp only [WN.down, Nat.reduceAdd, if_true, if_false, ↓reduceIte, tt2, tt4, tt32, tt68, tt120, e_i64, e_impl_Equation, e27])
              exact hP
            rcases condE h with ⟨b28, h⟩ | ⟨b28, h⟩
            · refine w_ct (congrArg AV.bool b28) ?_
              simp only [b28, Bool.not_true, Bool.not_false]
              refine w_skip (n25 _ (.inl ?_))
              refine w_seq (fun Q29 n29 q29 x29 => ?_)
              refine w_blk (fun Q30 n30 q30 b30 x30 => ?_)
              obtain ⟨x8, e32, h⟩ := bindE h
              obtain ⟨x9, e33, h⟩ := bindE h
              obtain ⟨u35, e34, h⟩ := bindE h
              (try simp only [List.length_append, List.length_cons, List.length_nil, List.length_map, List.length_replicate, Nat.zero_add, Nat.add_zero, Nat.reduceAdd] at e34)
              refine w_reg (w_abs [(0, .slice (a0.map e_impl_Equation)), (3, .str (v3_23 ++ x9)), (4, .int .i64 v4_23), (5, .int .i64 v5_23)] (fun P hP => ?_) ?_)
              · simp only [W0.down, Nat.reduceEqDiff, ↓reduceIte, reduceCtorEq, Nat.reduceAdd, Nat.reduceSub, Nat.reduceMul, Nat.reduceLeDiff, Nat.reduceBEq, Nat.reduceLT, if_true, if_false, beq_self_eq_true, BEq.rfl, ne_eq, tt2, tt4, tt32, tt68, tt120, e_i64, e_impl_Equation, e27, e32, e34, bnS_cat, addR_s]
                refine w_call0 (ok_spec_l32Number x8 _ e33) rfl rfl rfl rfl (.inl (by rfl)) ?_
                simp only [W0.down, Nat.reduceEqDiff, ↓reduceIte, reduceCtorEq, Nat.reduceAdd, Nat.reduceSub, Nat.reduceMul, Nat.reduceLeDiff, Nat.reduceBEq, Nat.reduceLT, if_true, if_false, beq_self_eq_true, BEq.rfl, ne_eq, tt2, tt4, tt32, tt68, tt120, e_i64, e_impl_Equation, e27, e32, e34, bnS_cat, addR_s]
                (try simp only [WN.down, Nat.reduceAdd, if_true, if_false, ↓reduceIte, tt2, tt4, tt32, tt68, tt120, e_i64, e_impl_Equation, e27, e32, e34, bnS_cat, addR_s] at hP)
                (try simp only [WN.down, Nat.reduceAdd, if_true, if_false, ↓reduceIte, tt2, tt4, tt32, tt68, tt120, e_i64, e_impl_Equation, e27, e32, e34, bnS_cat, addR_s])
                exact hP
              refine n30 _ (n29 _ (.inl ?_))
              refine w_reg (w_abs [(0, .slice (a0.map e_impl_Equation)), (3, .str (v3_23 ++ x9)), (4, .int .i64 v4_23), (5, .int .i64 (IntKind.i64.wrap (v5_23 + 1)))] (fun P hP => ?_) ?_)
              · simp only [W0.down, Nat.reduceEqDiff, ↓reduceIte, reduceCtorEq, Nat.reduceAdd, Nat.reduceSub, Nat.reduceMul, Nat.reduceLeDiff, Nat.reduceBEq, Nat.reduceLT, if_true, if_false, beq_self_eq_true, BEq.rfl, ne_eq, e_i64, e_impl_Equation]
                (try simp only [WN.down, Nat.reduceAdd, if_true, if_false, ↓reduceIte, e_i64, e_impl_Equation] at hP)
                (try simp only [WN.down, Nat.reduceAdd, if_true, if_false, ↓reduceIte, e_i64, e_impl_Equation])
                exact hP
              exact n24 _ (.inr ⟨_, weak_eq rfl, ih23 (v3_23 ++ x9) v4_23 (IntKind.i64.wrap (v5_23 + 1)) h⟩)
            · refine w_cf (congrArg AV.bool b28) ?_
              simp only [b28, Bool.not_true, Bool.not_false]
              refine w_ex (x25 2 _ (x24 2 _ (b23 _ (n21 _ (.inl ?_)))))
              refine w_sreg (w_abs [(0, .slice (a0.map e_impl_Equation)), (3, .str v3_23), (4, .int .i64 v4_23), (63, .bool (decide (6000 < (v3_23.length : Int))))] (fun P hP => ?_) ?_)
              · simp only [W0.down, Nat.reduceEqDiff, ↓reduceIte, reduceCtorEq, Nat.reduceAdd, Nat.reduceSub, Nat.reduceMul, Nat.reduceLeDiff, Nat.reduceBEq, Nat.reduceLT, if_true, if_false, beq_self_eq_true, BEq.rfl, ne_eq, tt9, e_i64, e_impl_Equation]
                (try simp only [WN.down, Nat.reduceAdd, if_true, if_false, ↓reduceIte, tt9, e_i64, e_impl_Equation] at hP)
                (try simp only [WN.down, Nat.reduceAdd, if_true, if_false, ↓reduceIte, tt9, e_i64, e_impl_Equation])
                exact hP
              rcases condE h with ⟨b37, h⟩ | ⟨b37, h⟩
              · refine w_ct (congrArg AV.bool b37) ?_
                simp only [b37, Bool.not_true, Bool.not_false]
                refine w_sreg (w_abs [(2, .str ([] : List UInt8))] (fun P hP => ?_) ?_)
                · simp only [W0.down, Nat.reduceEqDiff, ↓reduceIte, reduceCtorEq, Nat.reduceAdd, Nat.reduceSub, Nat.reduceMul, Nat.reduceLeDiff, Nat.reduceBEq, Nat.reduceLT, if_true, if_false, beq_self_eq_true, BEq.rfl, ne_eq, e_i64, e_impl_Equation]
                  (try simp only [WN.down, Nat.reduceAdd, if_true, if_false, ↓reduceIte, e_i64, e_impl_Equation] at hP)
                  (try simp only [WN.down, Nat.reduceAdd, if_true, if_false, ↓reduceIte, e_i64, e_impl_Equation])
                  exact hP
                exact w_ret (q12 _ (q11 _ (q7 _ (q6 _ (q4 _ (r0 _ (.inl (w_fin [.str ([] : List UInt8)] rfl (by cases someE h; rfl) (by decide) outs_nil))))))))
              · refine w_cf (congrArg AV.bool b37) ?_
                simp only [b37, Bool.not_true, Bool.not_false]
                refine w_skip (n12 _ (n11 _ (.inl ?_)))
                refine w_reg (w_abs [(0, .slice (a0.map e_impl_Equation)), (3, .str v3_23), (4, .int .i64 (IntKind.i64.wrap (v4_23 + 1)))] (fun P hP => ?_) ?_)
                · simp only [W0.down, Nat.reduceEqDiff, ↓reduceIte, reduceCtorEq, Nat.reduceAdd, Nat.reduceSub, Nat.reduceMul, Nat.reduceLeDiff, Nat.reduceBEq, Nat.reduceLT, if_true, if_false, beq_self_eq_true, BEq.rfl, ne_eq, e_i64, e_impl_Equation]
                  (try simp only [WN.down, Nat.reduceAdd, if_true, if_false, ↓reduceIte, e_i64, e_impl_Equation] at hP)
                  (try simp only [WN.down, Nat.reduceAdd, if_true, if_false, ↓reduceIte, e_i64, e_impl_Equation])
                  exact hP
                exact n7 _ (.inr ⟨_, weak_eq rfl, ih8 v3_23 (IntKind.i64.wrap (v4_23 + 1)) h⟩)
        obtain ⟨n, h⟩ := limE h
        exact w_loop (.inr ⟨_, weak_eq rfl, L23 n (v3_8 ++ (x5 ++ x6)) v4_8 0 h⟩)
      · refine w_cf (congrArg AV.bool b10) ?_
        simp only [b10, Bool.not_true, Bool.not_false]
        refine w_ex (x8 0 _ (x7 0 _ (b6 _ (n4 _ (.inl ?_)))))
        obtain ⟨x10, e41, h⟩ := bindE h
        refine w_sreg (w_abs [(2, .str x10)] (fun P hP => ?_) ?_)
        · simp only [W0.down, Nat.reduceEqDiff, ↓reduceIte, reduceCtorEq, Nat.reduceAdd, Nat.reduceSub, Nat.reduceMul, Nat.reduceLeDiff, Nat.reduceBEq, Nat.reduceLT, if_true, if_false, beq_self_eq_true, BEq.rfl, ne_eq, e_i64, e_impl_Equation]
          refine w_call0 (ok_spec_l32Seal 3 v3_8 _ e41) rfl rfl rfl rfl (.inl (by rfl)) ?_
          simp only [W0.down, Nat.reduceEqDiff, ↓reduceIte, reduceCtorEq, Nat.reduceAdd, Nat.reduceSub, Nat.reduceMul, Nat.reduceLeDiff, Nat.reduceBEq, Nat.reduceLT, if_true, if_false, beq_self_eq_true, BEq.rfl, ne_eq, e_i64, e_impl_Equation]
          (try simp only [WN.down, Nat.reduceAdd, if_true, if_false, ↓reduceIte, e_i64, e_impl_Equation] at hP)
          (try simp only [WN.down, Nat.reduceAdd, if_true, if_false, ↓reduceIte, e_i64, e_impl_Equation])
          exact hP
        exact w_ret (r0 _ (.inl (w_fin [.str x10] rfl (by cases someE h; rfl) (by decide) outs_nil)))
  obtain ⟨n, h⟩ := limE h
  exact w_loop (.inr ⟨_, weak_eq rfl, L8 n x1 0 h⟩)

theorem ok_spec_DecodeEquations  (a0 : List UInt8) (r : (List impl_Equation) × Int) (h : spec_DecodeEquations  a0 = some r) : OkAt Cc 42 [.str a0] (.tuple [.uslice 3 (r.1.map e_impl_Equation), .int .i64 r.2]) [] := by
  refine OkAt.of_wpQ (fx := [0]) Cc_ok Try.func42 rfl rfl s42 (Nat.le_of_ble_eq_true rfl) (fun Q0 r0 n0 => ?_)
  replace r0 : ∀ s, onW (Fw.Ends Cc [0] [.tmp 2, .tmp 3] (.tuple [.uslice 3 (r.1.map e_impl_Equation), .int .i64 r.2]) []) s → Q0 .ret s := r0
  replace n0 : ∀ s, onW (Fw.Ends Cc [0] [.tmp 2, .tmp 3] (.tuple [.uslice 3 (r.1.map e_impl_Equation), .int .i64 r.2]) []) s → Q0 .normal s := n0
  show wpC Cc c42 Q0 (stA [(0, .str a0)])
  refine w_sreg (w_abs [(0, .str a0)] (fun P hP => ?_) ?_)
  · simp only [W0.down, Nat.reduceEqDiff, ↓reduceIte, reduceCtorEq, Nat.reduceAdd, Nat.reduceSub, Nat.reduceMul, Nat.reduceLeDiff, Nat.reduceBEq, Nat.reduceLT, if_true, if_false, beq_self_eq_true, BEq.rfl, ne_eq]
    (try simp only [WN.down, Nat.reduceAdd, if_true, if_false, ↓reduceIte] at hP)
    (try simp only [WN.down, Nat.reduceAdd, if_true, if_false, ↓reduceIte])
    exact hP
  obtain ⟨x1, e3, h⟩ := bindE h
  rcases optE h with ⟨b4, h⟩ | ⟨x2, b4, h⟩
  · refine w_sreg (w_abs [(0, .str a0), (4, .nilp), (5, .int .i64 x1.2)] (fun P hP => ?_) ?_)
    · simp only [W0.down, Nat.reduceEqDiff, ↓reduceIte, reduceCtorEq, Nat.reduceAdd, Nat.reduceSub, Nat.reduceMul, Nat.reduceLeDiff, Nat.reduceBEq, Nat.reduceLT, if_true, if_false, beq_self_eq_true, BEq.rfl, ne_eq]
      refine w_call0 (by have q := (ok_spec_l32Open a0 3 _ e3); simp only [b4, optP] at q; exact q) rfl rfl rfl rfl (.inl (by rfl)) ?_
      simp only [W0.down, Nat.reduceEqDiff, ↓reduceIte, reduceCtorEq, Nat.reduceAdd, Nat.reduceSub, Nat.reduceMul, Nat.reduceLeDiff, Nat.reduceBEq, Nat.reduceLT, if_true, if_false, beq_self_eq_true, BEq.rfl, ne_eq]
      (try simp only [WN.down, Nat.reduceAdd, if_true, if_false, ↓reduceIte] at hP)
      (try simp only [WN.down, Nat.reduceAdd, if_true, if_false, ↓reduceIte])
      exact hP
    refine w_seq (fun Q5 n5 q5 x5 => ?_)
    refine w_sreg (w_abs [(0, .str a0), (4, .nilp), (5, .int .i64 x1.2), (17, .bool (x1.2 != 0))] (fun P hP => ?_) ?_)
    · simp only [W0.down, Nat.reduceEqDiff, ↓reduceIte, reduceCtorEq, Nat.reduceAdd, Nat.reduceSub, Nat.reduceMul, Nat.reduceLeDiff, Nat.reduceBEq, Nat.reduceLT, if_true, if_false, beq_self_eq_true, BEq.rfl, ne_eq]
      (try simp only [WN.down, Nat.reduceAdd, if_true, if_false, ↓reduceIte] at hP)
      (try simp only [WN.down, Nat.reduceAdd, if_true, if_false, ↓reduceIte])
      exact hP
    rcases condE h with ⟨b7, h⟩ | ⟨b7, h⟩
    · refine w_ct (congrArg AV.bool b7) ?_
      simp only [b7, Bool.not_true, Bool.not_false]
      refine w_sreg (w_abs [(2, .nils), (3, .int .i64 x1.2)] (fun P hP => ?_) ?_)
      · simp only [W0.down, Nat.reduceEqDiff, ↓reduceIte, reduceCtorEq, Nat.reduceAdd, Nat.reduceSub, Nat.reduceMul, Nat.reduceLeDiff, Nat.reduceBEq, Nat.reduceLT, if_true, if_false, beq_self_eq_true, BEq.rfl, ne_eq]
        (try simp only [WN.down, Nat.reduceAdd, if_true, if_false, ↓reduceIte] at hP)
        (try simp only [WN.down, Nat.reduceAdd, if_true, if_false, ↓reduceIte])
        exact hP
      exact w_ret (q5 _ (r0 _ (.inr ⟨[(2, .uslice 3 []), (3, .int .i64 x1.2)], weak_mix [] rfl (wk_wd (t := 2) (d := .nils) rfl rfl (.nilsU _) (by decide) (wk_eq rfl (wk_nil))), w_fin [.uslice 3 [], .int .i64 x1.2] rfl (by cases someE h; rfl) (by decide) outs_nil⟩)))
    · refine w_cf (congrArg AV.bool b7) ?_
      simp only [b7, Bool.not_true, Bool.not_false]
      refine w_skip (n5 _ (.inl ?_))
      refine w_sreg (w_abs [(0, .str a0), (4, .nilp), (6, .uslice 3 [])] (fun P hP => ?_) ?_)
      · simp only [W0.down, Nat.reduceEqDiff, ↓reduceIte, reduceCtorEq, Nat.reduceAdd, Nat.reduceSub, Nat.reduceMul, Nat.reduceLeDiff, Nat.reduceBEq, Nat.reduceLT, if_true, if_false, beq_self_eq_true, BEq.rfl, ne_eq, tt2, tt4, tt32, tt68, tt120, e_i64, e_impl_Equation, (show ∀ s, bsl Cc s 32 0 [] = some (.uslice 3 [], s) from fun s => by kernel_rfl)]
        (try simp only [WN.down, Nat.reduceAdd, if_true, if_false, ↓reduceIte, tt2, tt4, tt32, tt68, tt120, e_i64, e_impl_Equation, (show ∀ s, bsl Cc s 32 0 [] = some (.uslice 3 [], s) from fun s => by kernel_rfl)] at hP)
        (try simp only [WN.down, Nat.reduceAdd, if_true, if_false, ↓reduceIte, tt2, tt4, tt32, tt68, tt120, e_i64, e_impl_Equation, (show ∀ s, bsl Cc s 32 0 [] = some (.uslice 3 [], s) from fun s => by kernel_rfl)])
        exact hP
      refine w_seq (fun Q10 n10 q10 x10 => ?_)
      cases h
  · refine w_sreg (w_abs [(0, .str a0), (4, .ubox (.agg [.str x2.1, .int .i64 x2.2.1, .bool x2.2.2])), (5, .int .i64 x1.2)] (fun P hP => ?_) ?_)
    · simp only [W0.down, Nat.reduceEqDiff, ↓reduceIte, reduceCtorEq, Nat.reduceAdd, Nat.reduceSub, Nat.reduceMul, Nat.reduceLeDiff, Nat.reduceBEq, Nat.reduceLT, if_true, if_false, beq_self_eq_true, BEq.rfl, ne_eq]
      refine w_call0 (by have q := (ok_spec_l32Open a0 3 _ e3); simp only [b4, optP] at q; exact q) rfl rfl rfl rfl (.inl (by rfl)) ?_
      simp only [W0.down, Nat.reduceEqDiff, ↓reduceIte, reduceCtorEq, Nat.reduceAdd, Nat.reduceSub, Nat.reduceMul, Nat.reduceLeDiff, Nat.reduceBEq, Nat.reduceLT, if_true, if_false, beq_self_eq_true, BEq.rfl, ne_eq]
      (try simp only [WN.down, Nat.reduceAdd, if_true, if_false, ↓reduceIte] at hP)
      (try simp only [WN.down, Nat.reduceAdd, if_true, if_false, ↓reduceIte])
      exact hP
    refine w_seq (fun Q12 n12 q12 x12 => ?_)
    refine w_sreg (w_abs [(0, .str a0), (4, .ubox (.agg [.str x2.1, .int .i64 x2.2.1, .bool x2.2.2])), (5, .int .i64 x1.2), (17, .bool (x1.2 != 0))] (fun P hP => ?_) ?_)
    · simp only [W0.down, Nat.reduceEqDiff, ↓reduceIte, reduceCtorEq, Nat.reduceAdd, Nat.reduceSub, Nat.reduceMul, Nat.reduceLeDiff, Nat.reduceBEq, Nat.reduceLT, if_true, if_false, beq_self_eq_true, BEq.rfl, ne_eq]
      (try simp only [WN.down, Nat.reduceAdd, if_true, if_false, ↓reduceIte] at hP)
      (try simp only [WN.down, Nat.reduceAdd, if_true, if_false, ↓reduceIte])
      exact hP
    rcases condE h with ⟨b14, h⟩ | ⟨b14, h⟩
    · refine w_ct (congrArg AV.bool b14) ?_
      simp only [b14, Bool.not_true, Bool.not_false]
      refine w_sreg (w_abs [(2, .nils), (3, .int .i64 x1.2)] (fun P hP => ?_) ?_)
      · simp only [W0.down, Nat.reduceEqDiff, ↓reduceIte, reduceCtorEq, Nat.reduceAdd, Nat.reduceSub, Nat.reduceMul, Nat.reduceLeDiff, Nat.reduceBEq, Nat.reduceLT, if_true, if_false, beq_self_eq_true, BEq.rfl, ne_eq]
        (try simp only [WN.down, Nat.reduceAdd, if_true, if_false, ↓reduceIte] at hP)
        (try simp only [WN.down, Nat.reduceAdd, if_true, if_false, ↓reduceIte])
        exact hP
      exact w_ret (q12 _ (r0 _ (.inr ⟨[(2, .uslice 3 []), (3, .int .i64 x1.2)], weak_mix [] rfl (wk_wd (t := 2) (d := .nils) rfl rfl (.nilsU _) (by decide) (wk_eq rfl (wk_nil))), w_fin [.uslice 3 [], .int .i64 x1.2] rfl (by cases someE h; rfl) (by decide) outs_nil⟩)))
    · refine w_cf (congrArg AV.bool b14) ?_
      simp only [b14, Bool.not_true, Bool.not_false]
      refine w_skip (n12 _ (.inl ?_))
      refine w_sreg (w_abs [(0, .str a0), (4, .ubox (.agg [.str x2.1, .int .i64 x2.2.1, .bool x2.2.2])), (6, .uslice 3 [])] (fun P hP => ?_) ?_)
      · simp only [W0.down, Nat.reduceEqDiff, ↓reduceIte, reduceCtorEq, Nat.reduceAdd, Nat.reduceSub, Nat.reduceMul, Nat.reduceLeDiff, Nat.reduceBEq, Nat.reduceLT, if_true, if_false, beq_self_eq_true, BEq.rfl, ne_eq, tt2, tt4, tt32, tt68, tt120, e_i64, e_impl_Equation, (show ∀ s, bsl Cc s 32 0 [] = some (.uslice 3 [], s) from fun s => by kernel_rfl)]
        (try simp only [WN.down, Nat.reduceAdd, if_true, if_false, ↓reduceIte, tt2, tt4, tt32, tt68, tt120, e_i64, e_impl_Equation, (show ∀ s, bsl Cc s 32 0 [] = some (.uslice 3 [], s) from fun s => by kernel_rfl)] at hP)
        (try simp only [WN.down, Nat.reduceAdd, if_true, if_false, ↓reduceIte, tt2, tt4, tt32, tt68, tt120, e_i64, e_impl_Equation, (show ∀ s, bsl Cc s 32 0 [] = some (.uslice 3 [], s) from fun s => by kernel_rfl)])
        exact hP
      refine w_seq (fun Q17 n17 q17 x17 => ?_)
      obtain ⟨x3, e19, h⟩ := bindE h
      refine w_sreg (w_abs [(0, .str a0), (4, .ubox (.agg [.str x3.2.1, .int .i64 x3.2.2.1, .bool x3.2.2.2])), (6, .uslice 3 []), (7, .int .i64 x3.1)] (fun P hP => ?_) ?_)
      · simp only [W0.down, Nat.reduceEqDiff, ↓reduceIte, reduceCtorEq, Nat.reduceAdd, Nat.reduceSub, Nat.reduceMul, Nat.reduceLeDiff, Nat.reduceBEq, Nat.reduceLT, if_true, if_false, beq_self_eq_true, BEq.rfl, ne_eq, e_i64, e_impl_Equation]
        refine w_callp0 [⟨.h 4 [], true, _, _⟩] (ok_spec_l32Reader_number x2.1 x2.2.1 x2.2.2 _ e19) rfl rfl rfl (by simp only [W0.down, Nat.reduceEqDiff, ↓reduceIte, reduceCtorEq, Nat.reduceAdd, Nat.reduceSub, Nat.reduceMul, Nat.reduceLeDiff, Nat.reduceBEq, Nat.reduceLT, if_true, if_false, beq_self_eq_true, BEq.rfl, ne_eq, e_i64, e_impl_Equation, c_nrm, okp_s, own_r, view_s, view_h, viewH_s, share_s, or_true, true_or]) rfl rfl (.inl rfl) ?_
        simp only [W0.down, Nat.reduceEqDiff, ↓reduceIte, reduceCtorEq, Nat.reduceAdd, Nat.reduceSub, Nat.reduceMul, Nat.reduceLeDiff, Nat.reduceBEq, Nat.reduceLT, if_true, if_false, beq_self_eq_true, BEq.rfl, ne_eq, e_i64, e_impl_Equation, gv_s]
        (try simp only [WN.down, Nat.reduceAdd, if_true, if_false, ↓reduceIte, e_i64, e_impl_Equation] at hP)
        (try simp only [WN.down, Nat.reduceAdd, if_true, if_false, ↓reduceIte, e_i64, e_impl_Equation])
        exact hP
      refine w_blk (fun Q20 n20 q20 b20 x20 => ?_)
      have L18 : ∀ (n : Nat) (v4_18 : List UInt8) (v4a_18 : Int) (v4b_18 : Bool) (v6_18 : List impl_Equation) (v7_18 : Int), spec_DecodeEquations_l18 a0 n v4_18 v4a_18 v4b_18 v6_18 v7_18 = some r → lpC Cc c42_19 Q20 (stA [(0, .str a0), (4, .ubox (.agg [.str v4_18, .int .i64 v4a_18, .bool v4b_18])), (6, .uslice 3 (v6_18.map u_impl_Equation)), (7, .int .i64 v7_18)]) := by
        intro m18
        induction m18 with
        | zero => intro v4_18 v4a_18 v4b_18 v6_18 v7_18 h; cases (show none = some r from h)
        | succ m18 ih18 =>
          intro v4_18 v4a_18 v4b_18 v6_18 v7_18 h
          replace h : spec_DecodeEquations_b18 (spec_DecodeEquations_l18 a0 m18) a0 v4_18 v4a_18 v4b_18 v6_18 v7_18 = some r := h
          refine lpC_step (fun Q21 n21 q21 x21 => ?_)
          refine w_seq (fun Q22 n22 q22 x22 => ?_)
          refine w_sreg (w_abs [(0, .str a0), (4, .ubox (.agg [.str v4_18, .int .i64 v4a_18, .bool v4b_18])), (6, .uslice 3 (v6_18.map u_impl_Equation)), (7, .int .i64 v7_18), (30, .bool ((decide (0 < v7_18)) && (!v4b_18)))] (fun P hP => ?_) ?_)
          · rcases Bool.eq_false_or_eq_true ((decide (0 < v7_18))) with s24 | s24
            · simp only [W0.down, Nat.reduceEqDiff, ↓reduceIte, reduceCtorEq, Nat.reduceAdd, Nat.reduceSub, Nat.reduceMul, Nat.reduceLeDiff, Nat.reduceBEq, Nat.reduceLT, if_true, if_false, beq_self_eq_true, BEq.rfl, ne_eq, tt3, tt4, tt9, tt155, e_i64, u_impl_Equation, s24]
              (try simp only [WN.down, Nat.reduceAdd, if_true, if_false, ↓reduceIte, tt3, tt4, tt9, tt155, e_i64, u_impl_Equation, s24] at hP)
              (try simp only [WN.down, Nat.reduceAdd, if_true, if_false, ↓reduceIte, tt3, tt4, tt9, tt155, e_i64, u_impl_Equation, s24])
              exact hP
            · simp only [W0.down, Nat.reduceEqDiff, ↓reduceIte, reduceCtorEq, Nat.reduceAdd, Nat.reduceSub, Nat.reduceMul, Nat.reduceLeDiff, Nat.reduceBEq, Nat.reduceLT, if_true, if_false, beq_self_eq_true, BEq.rfl, ne_eq, tt3, tt4, tt9, tt155, e_i64, u_impl_Equation, s24]
              (try simp only [WN.down, Nat.reduceAdd, if_true, if_false, ↓reduceIte, tt3, tt4, tt9, tt155, e_i64, u_impl_Equation, s24] at hP)
              (try simp only [WN.down, Nat.reduceAdd, if_true, if_false, ↓reduceIte, tt3, tt4, tt9, tt155, e_i64, u_impl_Equation, s24])
              exact hP
          rcases condE h with ⟨b25, h⟩ | ⟨b25, h⟩
          · refine w_ct (congrArg AV.bool b25) ?_
            simp only [b25, Bool.not_true, Bool.not_false]
            refine w_skip (n22 _ (.inl ?_))
            refine w_seq (fun Q26 n26 q26 x26 => ?_)
            refine w_blk (fun Q27 n27 q27 b27 x27 => ?_)
            obtain ⟨x4, e29, h⟩ := bindE h
            refine w_sreg (w_abs [(0, .str a0), (4, .ubox (.agg [.str x4.2.1, .int .i64 x4.2.2.1, .bool x4.2.2.2])), (6, .uslice 3 (v6_18.map u_impl_Equation)), (7, .int .i64 v7_18), (8, .int .i64 x4.1)] (fun P hP => ?_) ?_)
            · simp only [W0.down, Nat.reduceEqDiff, ↓reduceIte, reduceCtorEq, Nat.reduceAdd, Nat.reduceSub, Nat.reduceMul, Nat.reduceLeDiff, Nat.reduceBEq, Nat.reduceLT, if_true, if_false, beq_self_eq_true, BEq.rfl, ne_eq, e_i64, u_impl_Equation]
              refine w_callp0 [⟨.h 4 [], true, _, _⟩] (ok_spec_l32Reader_number v4_18 v4a_18 v4b_18 _ e29) rfl rfl rfl (by simp only [W0.down, Nat.reduceEqDiff, ↓reduceIte, reduceCtorEq, Nat.reduceAdd, Nat.reduceSub, Nat.reduceMul, Nat.reduceLeDiff, Nat.reduceBEq, Nat.reduceLT, if_true, if_false, beq_self_eq_true, BEq.rfl, ne_eq, e_i64, u_impl_Equation, c_nrm, okp_s, own_r, view_s, view_h, viewH_s, share_s, or_true, true_or]) rfl rfl (.inl rfl) ?_
              simp only [W0.down, Nat.reduceEqDiff, ↓reduceIte, reduceCtorEq, Nat.reduceAdd, Nat.reduceSub, Nat.reduceMul, Nat.reduceLeDiff, Nat.reduceBEq, Nat.reduceLT, if_true, if_false, beq_self_eq_true, BEq.rfl, ne_eq, e_i64, u_impl_Equation, gv_s]
              (try simp only [WN.down, Nat.reduceAdd, if_true, if_false, ↓reduceIte, e_i64, u_impl_Equation] at hP)
              (try simp only [WN.down, Nat.reduceAdd, if_true, if_false, ↓reduceIte, e_i64, u_impl_Equation])
              exact hP
            refine w_sreg (w_abs [(0, .str a0), (4, .ubox (.agg [.str x4.2.1, .int .i64 x4.2.2.1, .bool x4.2.2.2])), (6, .uslice 3 (v6_18.map u_impl_Equation)), (7, .int .i64 v7_18), (9, .ubox (.agg [.bool ((Int.tmod x4.1 2) == 1), .bool ((IntKind.i64.wrap (Int.tdiv x4.1 2)) == 1), .nils]))] (fun P hP => ?_) ?_)
            · simp only [W0.down, Nat.reduceEqDiff, ↓reduceIte, reduceCtorEq, Nat.reduceAdd, Nat.reduceSub, Nat.reduceMul, Nat.reduceLeDiff, Nat.reduceBEq, Nat.reduceLT, if_true, if_false, beq_self_eq_true, BEq.rfl, ne_eq, tt2, tt4, tt68, tt120, e_i64, u_impl_Equation, @bnI_rem' .i64 2 (by decide), @bnI_quo' .i64 2 (by decide), (show ∀ s, bld Cc s 120 [(0, .bool ((Int.tmod x4.1 2) == 1)), (1, .bool ((IntKind.i64.wrap (Int.tdiv x4.1 2)) == 1))] = some (.agg [.bool ((Int.tmod x4.1 2) == 1), .bool ((IntKind.i64.wrap (Int.tdiv x4.1 2)) == 1), .nils], s) from fun s => by kernel_rfl)]
              (try simp only [WN.down, Nat.reduceAdd, if_true, if_false, ↓reduceIte, tt2, tt4, tt68, tt120, e_i64, u_impl_Equation, @bnI_rem' .i64 2 (by decide), @bnI_quo' .i64 2 (by decide), (show ∀ s, bld Cc s 120 [(0, .bool ((Int.tmod x4.1 2) == 1)), (1, .bool ((IntKind.i64.wrap (Int.tdiv x4.1 2)) == 1))] = some (.agg [.bool ((Int.tmod x4.1 2) == 1), .bool ((IntKind.i64.wrap (Int.tdiv x4.1 2)) == 1), .nils], s) from fun s => by kernel_rfl)] at hP)
              (try simp only [WN.down, Nat.reduceAdd, if_true, if_false, ↓reduceIte, tt2, tt4, tt68, tt120, e_i64, u_impl_Equation, @bnI_rem' .i64 2 (by decide), @bnI_quo' .i64 2 (by decide), (show ∀ s, bld Cc s 120 [(0, .bool ((Int.tmod x4.1 2) == 1)), (1, .bool ((IntKind.i64.wrap (Int.tdiv x4.1 2)) == 1))] = some (.agg [.bool ((Int.tmod x4.1 2) == 1), .bool ((IntKind.i64.wrap (Int.tdiv x4.1 2)) == 1), .nils], s) from fun s => by kernel_rfl)])
              exact hP
            refine w_seq (fun Q31 n31 q31 x31 => ?_)
            obtain ⟨x5, e33, h⟩ := bindE h
            refine w_sreg (w_abs [(0, .str a0), (4, .ubox (.agg [.str x5.2.1, .int .i64 x5.2.2.1, .bool x5.2.2.2])), (6, .uslice 3 (v6_18.map u_impl_Equation)), (7, .int .i64 v7_18), (9, .ubox (.agg [.bool ((Int.tmod x4.1 2) == 1), .bool ((IntKind.i64.wrap (Int.tdiv x4.1 2)) == 1), .nils])), (10, .int .i64 x5.1)] (fun P hP => ?_) ?_)
            · simp only [W0.down, Nat.reduceEqDiff, ↓reduceIte, reduceCtorEq, Nat.reduceAdd, Nat.reduceSub, Nat.reduceMul, Nat.reduceLeDiff, Nat.reduceBEq, Nat.reduceLT, if_true, if_false, beq_self_eq_true, BEq.rfl, ne_eq, e_i64, u_impl_Equation]
              refine w_callp0 [⟨.h 4 [], true, _, _⟩] (ok_spec_l32Reader_number x4.2.1 x4.2.2.1 x4.2.2.2 _ e33) rfl rfl rfl (by simp only [W0.down, Nat.reduceEqDiff, ↓reduceIte, reduceCtorEq, Nat.reduceAdd, Nat.reduceSub, Nat.reduceMul, Nat.reduceLeDiff, Nat.reduceBEq, Nat.reduceLT, if_true, if_false, beq_self_eq_true, BEq.rfl, ne_eq, e_i64, u_impl_Equation, c_nrm, okp_s, own_r, view_s, view_h, viewH_s, share_s, or_true, true_or]) rfl rfl (.inl rfl) ?_
              simp only [W0.down, Nat.reduceEqDiff, ↓reduceIte, reduceCtorEq, Nat.reduceAdd, Nat.reduceSub, Nat.reduceMul, Nat.reduceLeDiff, Nat.reduceBEq, Nat.reduceLT, if_true, if_false, beq_self_eq_true, BEq.rfl, ne_eq, e_i64, u_impl_Equation, gv_s]
              (try simp only [WN.down, Nat.reduceAdd, if_true, if_false, ↓reduceIte, e_i64, u_impl_Equation] at hP)
              (try simp only [WN.down, Nat.reduceAdd, if_true, if_false, ↓reduceIte, e_i64, u_impl_Equation])
              exact hP
            refine w_blk (fun Q34 n34 q34 b34 x34 => ?_)
            have L35 : ∀ (n : Nat) (v4_35 : List UInt8) (v4a_35 : Int) (v4b_35 : Bool) (v6_35 : List impl_Equation) (v7_35 : Int) (v9_35 : List Int) (v10_35 : Int), spec_DecodeEquations_l35 (spec_DecodeEquations_l18 a0 m18) a0 x4 n v4_35 v4a_35 v4b_35 v6_35 v7_35 v9_35 v10_35 = some r → lpC Cc c42_36 Q34 (stA [(0, .str a0), (4, .ubox (.agg [.str v4_35, .int .i64 v4a_35, .bool v4b_35])), (6, .uslice 3 (v6_35.map u_impl_Equation)), (7, .int .i64 v7_35), (9, .ubox (.agg [.bool ((Int.tmod x4.1 2) == 1), .bool ((IntKind.i64.wrap (Int.tdiv x4.1 2)) == 1), .uslice 1 (v9_35.map e_i64)])), (10, .int .i64 v10_35)]) := by
              intro m35
              induction m35 with
              | zero => intro v4_35 v4a_35 v4b_35 v6_35 v7_35 v9_35 v10_35 h; cases (show none = some r from h)
              | succ m35 ih35 =>
                intro v4_35 v4a_35 v4b_35 v6_35 v7_35 v9_35 v10_35 h
                replace h : spec_DecodeEquations_b35 (spec_DecodeEquations_l18 a0 m18) (spec_DecodeEquations_l35 (spec_DecodeEquations_l18 a0 m18) a0 x4 m35) a0 x4 v4_35 v4a_35 v4b_35 v6_35 v7_35 v9_35 v10_35 = some r := h
                refine lpC_step (fun Q35 n35 q35 x35 => ?_)
                refine w_seq (fun Q36 n36 q36 x36 => ?_)
                refine w_sreg (w_abs [(0, .str a0), (4, .ubox (.agg [.str v4_35, .int .i64 v4a_35, .bool v4b_35])), (6, .uslice 3 (v6_35.map u_impl_Equation)), (7, .int .i64 v7_35), (9, .ubox (.agg [.bool ((Int.tmod x4.1 2) == 1), .bool ((IntKind.i64.wrap (Int.tdiv x4.1 2)) == 1), .uslice 1 (v9_35.map e_i64)])), (10, .int .i64 v10_35), (52, .bool ((decide (0 < v10_35)) && (!v4b_35)))] (fun P hP => ?_) ?_)
                · rcases Bool.eq_false_or_eq_true ((decide (0 < v10_35))) with s38 | s38
                  · simp only [W0.down, Nat.reduceEqDiff, ↓reduceIte, reduceCtorEq, Nat.reduceAdd, Nat.reduceSub, Nat.reduceMul, Nat.reduceLeDiff, Nat.reduceBEq, Nat.reduceLT, if_true, if_false, beq_self_eq_true, BEq.rfl, ne_eq, tt3, tt4, tt9, tt155, e_i64, u_impl_Equation, s38]
                    (try simp only [WN.down, Nat.reduceAdd, if_true, if_false, ↓reduceIte, tt3, tt4, tt9, tt155, e_i64, u_impl_Equation, s38] at hP)
                    (try simp only [WN.down, Nat.reduceAdd, if_true, if_false, ↓reduceIte, tt3, tt4, tt9, tt155, e_i64, u_impl_Equation, s38])
                    exact hP
                  · simp only [W0.down, Nat.reduceEqDiff, ↓reduceIte, reduceCtorEq, Nat.reduceAdd, Nat.reduceSub, Nat.reduceMul, Nat.reduceLeDiff, Nat.reduceBEq, Nat.reduceLT, if_true, if_false, beq_self_eq_true, BEq.rfl, ne_eq, tt3, tt4, tt9, tt155, e_i64, u_impl_Equation, s38]
                    (try simp only [WN.down, Nat.reduceAdd, if_true, if_false, ↓reduceIte, tt3, tt4, tt9, tt155, e_i64, u_impl_Equation, s38] at hP)
                    (try simp only [WN.down, Nat.reduceAdd, if_true, if_false, ↓reduceIte, tt3, tt4, tt9, tt155, e_i64, u_impl_Equation, s38])
                    exact hP
                rcases condE h with ⟨b39, h⟩ | ⟨b39, h⟩
                · refine w_ct (congrArg AV.bool b39) ?_
                  simp only [b39, Bool.not_true, Bool.not_false]
                  refine w_skip (n36 _ (.inl ?_))
                  refine w_seq (fun Q40 n40 q40 x40 => ?_)
                  refine w_blk (fun Q41 n41 q41 b41 x41 => ?_)
                  obtain ⟨x6, e43, h⟩ := bindE h
                  obtain ⟨u45, e44, h⟩ := bindE h
                  (try simp only [List.length_append, List.length_cons, List.length_nil, List.length_map, List.length_replicate, Nat.zero_add, Nat.add_zero, Nat.reduceAdd] at e44)
                  refine w_drw rfl (w_absd [(0, .str a0), (4, .ubox (.agg [.str x6.2.1, .int .i64 x6.2.2.1, .bool x6.2.2.2])), (6, .uslice 3 (v6_35.map u_impl_Equation)), (7, .int .i64 v7_35), (9, .ubox (.agg [.bool ((Int.tmod x4.1 2) == 1), .bool ((IntKind.i64.wrap (Int.tdiv x4.1 2)) == 1), .uslice 1 ((v9_35 ++ [x6.1]).map e_i64)])), (10, .int .i64 v10_35)] (fun P hP => ?_) ?_)
                  · simp only [W1.down, Nat.reduceEqDiff, ↓reduceIte, reduceCtorEq, Nat.reduceAdd, Nat.reduceSub, Nat.reduceMul, Nat.reduceLeDiff, Nat.reduceBEq, Nat.reduceLT, if_true, if_false, beq_self_eq_true, BEq.rfl, ne_eq, tt2, tt4, tt68, tt120, e_i64, u_impl_Equation, (show ∀ s, bsl Cc s 68 1 [(0, .int .i64 x6.1)] = some (.uslice 1 [.int .i64 x6.1], s) from fun s => by kernel_rfl), @apd_s Cc 68 68 2 rfl rfl, ap_s, ap2_s, ap3_s, all_cons, all_nil, e44, @all_wd' _ e_i64 1 (fun _ => rfl)]
                    refine w_callp1 [⟨.h 4 [], true, _, _⟩] (ok_spec_l32Reader_number v4_35 v4a_35 v4b_35 _ e43) rfl rfl rfl (by simp only [W1.down, Nat.reduceEqDiff, ↓reduceIte, reduceCtorEq, Nat.reduceAdd, Nat.reduceSub, Nat.reduceMul, Nat.reduceLeDiff, Nat.reduceBEq, Nat.reduceLT, if_true, if_false, beq_self_eq_true, BEq.rfl, ne_eq, tt2, tt4, tt68, tt120, e_i64, u_impl_Equation, (show ∀ s, bsl Cc s 68 1 [(0, .int .i64 x6.1)] = some (.uslice 1 [.int .i64 x6.1], s) from fun s => by kernel_rfl), @apd_s Cc 68 68 2 rfl rfl, ap_s, ap2_s, ap3_s, all_cons, all_nil, e44, @all_wd' _ e_i64 1 (fun _ => rfl), c_nrm, okp_s, own_r, view_s, view_h, viewH_s, share_s, or_true, true_or]) rfl rfl (.inl rfl) ?_
                    simp only [W1.down, Nat.reduceEqDiff, ↓reduceIte, reduceCtorEq, Nat.reduceAdd, Nat.reduceSub, Nat.reduceMul, Nat.reduceLeDiff, Nat.reduceBEq, Nat.reduceLT, if_true, if_false, beq_self_eq_true, BEq.rfl, ne_eq, tt2, tt4, tt68, tt120, e_i64, u_impl_Equation, (show ∀ s, bsl Cc s 68 1 [(0, .int .i64 x6.1)] = some (.uslice 1 [.int .i64 x6.1], s) from fun s => by kernel_rfl), @apd_s Cc 68 68 2 rfl rfl, ap_s, ap2_s, ap3_s, all_cons, all_nil, e44, @all_wd' _ e_i64 1 (fun _ => rfl), gv_s]
                    refine ⟨by kernel_rfl, ?_⟩
                    (try simp only [WN.down, Nat.reduceAdd, if_true, if_false, ↓reduceIte, tt2, tt4, tt68, tt120, e_i64, u_impl_Equation, (show ∀ s, bsl Cc s 68 1 [(0, .int .i64 x6.1)] = some (.uslice 1 [.int .i64 x6.1], s) from fun s => by kernel_rfl), @apd_s Cc 68 68 2 rfl rfl, ap_s, ap2_s, ap3_s, all_cons, all_nil, e44, @all_wd' _ e_i64 1 (fun _ => rfl)] at hP)
                    (try simp only [WN.down, Nat.reduceAdd, if_true, if_false, ↓reduceIte, tt2, tt4, tt68, tt120, e_i64, u_impl_Equation, (show ∀ s, bsl Cc s 68 1 [(0, .int .i64 x6.1)] = some (.uslice 1 [.int .i64 x6.1], s) from fun s => by kernel_rfl), @apd_s Cc 68 68 2 rfl rfl, ap_s, ap2_s, ap3_s, all_cons, all_nil, e44, @all_wd' _ e_i64 1 (fun _ => rfl)])
                    exact hP
                  refine n41 _ (n40 _ (.inl ?_))
                  refine w_reg (w_abs [(0, .str a0), (4, .ubox (.agg [.str x6.2.1, .int .i64 x6.2.2.1, .bool x6.2.2.2])), (6, .uslice 3 (v6_35.map u_impl_Equation)), (7, .int .i64 v7_35), (9, .ubox (.agg [.bool ((Int.tmod x4.1 2) == 1), .bool ((IntKind.i64.wrap (Int.tdiv x4.1 2)) == 1), .uslice 1 ((v9_35 ++ [x6.1]).map e_i64)])), (10, .int .i64 (IntKind.i64.wrap (v10_35 - 1)))] (fun P hP => ?_) ?_)
                  · simp only [W0.down, Nat.reduceEqDiff, ↓reduceIte, reduceCtorEq, Nat.reduceAdd, Nat.reduceSub, Nat.reduceMul, Nat.reduceLeDiff, Nat.reduceBEq, Nat.reduceLT, if_true, if_false, beq_self_eq_true, BEq.rfl, ne_eq, e_i64, u_impl_Equation]
                    (try simp only [WN.down, Nat.reduceAdd, if_true, if_false, ↓reduceIte, e_i64, u_impl_Equation] at hP)
                    (try simp only [WN.down, Nat.reduceAdd, if_true, if_false, ↓reduceIte, e_i64, u_impl_Equation])
                    exact hP
                  exact n35 _ (.inr ⟨_, weak_eq rfl, ih35 x6.2.1 x6.2.2.1 x6.2.2.2 v6_35 v7_35 (v9_35 ++ [x6.1]) (IntKind.i64.wrap (v10_35 - 1)) h⟩)
                · refine w_cf (congrArg AV.bool b39) ?_
                  simp only [b39, Bool.not_true, Bool.not_false]
                  refine w_ex (x36 2 _ (x35 2 _ (b34 _ (n31 _ (.inl ?_)))))
                  obtain ⟨u48, e47, h⟩ := bindE h
                  (try simp only [List.length_append, List.length_cons, List.length_nil, List.length_map, List.length_replicate, Nat.zero_add, Nat.add_zero, Nat.reduceAdd] at e47)
                  refine w_reg (w_abs [(0, .str a0), (4, .ubox (.agg [.str v4_35, .int .i64 v4a_35, .bool v4b_35])), (6, .uslice 3 ((v6_35 ++ [(impl_Equation.mk ((Int.tmod x4.1 2) == 1) ((IntKind.i64.wrap (Int.tdiv x4.1 2)) == 1) v9_35)]).map u_impl_Equation)), (7, .int .i64 v7_35)] (fun P hP => ?_) ?_)
                  · simp only [W0.down, Nat.reduceEqDiff, ↓reduceIte, reduceCtorEq, Nat.reduceAdd, Nat.reduceSub, Nat.reduceMul, Nat.reduceLeDiff, Nat.reduceBEq, Nat.reduceLT, if_true, if_false, beq_self_eq_true, BEq.rfl, ne_eq, tt2, tt4, tt32, tt68, tt120, e_i64, u_impl_Equation, @bsl_s Cc 32 120 1 3 [(.agg [(.bool false), (.bool false), .nils])] rfl rfl rfl (by kernel_rfl), bslU, flw_s, flwC, pkOs_s, own_s, ap3_s, List.nil_append, List.cons_append, @apd_s Cc 32 32 120 rfl rfl, ap_s, ap2_s, all_cons, all_nil, e47, @all_wd' _ u_impl_Equation 3 (fun _ => rfl)]
                    (try simp only [WN.down, Nat.reduceAdd, if_true, if_false, ↓reduceIte, tt2, tt4, tt32, tt68, tt120, e_i64, u_impl_Equation, @bsl_s Cc 32 120 1 3 [(.agg [(.bool false), (.bool false), .nils])] rfl rfl rfl (by kernel_rfl), bslU, flw_s, flwC, pkOs_s, own_s, ap3_s, List.nil_append, List.cons_append, @apd_s Cc 32 32 120 rfl rfl, ap_s, ap2_s, all_cons, all_nil, e47, @all_wd' _ u_impl_Equation 3 (fun _ => rfl)] at hP)
                    (try simp only [WN.down, Nat.reduceAdd, if_true, if_false, ↓reduceIte, tt2, tt4, tt32, tt68, tt120, e_i64, u_impl_Equation, @bsl_s Cc 32 120 1 3 [(.agg [(.bool false), (.bool false), .nils])] rfl rfl rfl (by kernel_rfl), bslU, flw_s, flwC, pkOs_s, own_s, ap3_s, List.nil_append, List.cons_append, @apd_s Cc 32 32 120 rfl rfl, ap_s, ap2_s, all_cons, all_nil, e47, @all_wd' _ u_impl_Equation 3 (fun _ => rfl)])
                    exact hP
                  refine n27 _ (n26 _ (.inl ?_))
                  refine w_reg (w_abs [(0, .str a0), (4, .ubox (.agg [.str v4_35, .int .i64 v4a_35, .bool v4b_35])), (6, .uslice 3 ((v6_35 ++ [(impl_Equation.mk ((Int.tmod x4.1 2) == 1) ((IntKind.i64.wrap (Int.tdiv x4.1 2)) == 1) v9_35)]).map u_impl_Equation)), (7, .int .i64 (IntKind.i64.wrap (v7_35 - 1)))] (fun P hP => ?_) ?_)
                  · simp only [W0.down, Nat.reduceEqDiff, ↓reduceIte, reduceCtorEq, Nat.reduceAdd, Nat.reduceSub, Nat.reduceMul, Nat.reduceLeDiff, Nat.reduceBEq, Nat.reduceLT, if_true, if_false, beq_self_eq_true, BEq.rfl, ne_eq, e_i64, u_impl_Equation]
                    (try simp only [WN.down, Nat.reduceAdd, if_true, if_false, ↓reduceIte, e_i64, u_impl_Equation] at hP)
                    (try simp only [WN.down, Nat.reduceAdd, if_true, if_false, ↓reduceIte, e_i64, u_impl_Equation])
                    exact hP
                  exact n21 _ (.inr ⟨_, weak_eq rfl, ih18 v4_35 v4a_35 v4b_35 (v6_35 ++ [(impl_Equation.mk ((Int.tmod x4.1 2) == 1) ((IntKind.i64.wrap (Int.tdiv x4.1 2)) == 1) v9_35)]) (IntKind.i64.wrap (v7_35 - 1)) h⟩)
            obtain ⟨n, h⟩ := limE h
            exact w_loop (.inr ⟨_, weak_mix [] rfl (wk_eq (t := 0) (d := .str a0) rfl (wk_eq (t := 4) (d := .ubox (.agg [.str x5.2.1, .int .i64 x5.2.2.1, .bool x5.2.2.2])) rfl (wk_eq (t := 6) (d := .uslice 3 (v6_18.map u_impl_Equation)) rfl (wk_eq (t := 7) (d := .int .i64 v7_18) rfl (wk_wd (t := 9) (d := .ubox (.agg [.bool ((Int.tmod x4.1 2) == 1), .bool ((IntKind.i64.wrap (Int.tdiv x4.1 2)) == 1), .nils])) (d' := .ubox (.agg [.bool ((Int.tmod x4.1 2) == 1), .bool ((IntKind.i64.wrap (Int.tdiv x4.1 2)) == 1), .uslice 1 []])) rfl rfl (.ubox (.agg (.cons (.refl _) (.cons (.refl _) (.cons (.nilsU _) (.nil)))))) (by decide) (wk_eq (t := 10) (d := .int .i64 x5.1) rfl (wk_nil))))))), L35 n x5.2.1 x5.2.2.1 x5.2.2.2 v6_18 v7_18 [] x5.1 h⟩)
          · refine w_cf (congrArg AV.bool b25) ?_
            simp only [b25, Bool.not_true, Bool.not_false]
            refine w_ex (x22 0 _ (x21 0 _ (b20 _ (n17 _ (.inl ?_)))))
            refine w_seq (fun Q49 n49 q49 x49 => ?_)
            rcases condE h with ⟨b51, h⟩ | ⟨b51, h⟩
            · refine w_sreg (w_abs [(6, .uslice 3 (v6_18.map u_impl_Equation)), (80, .bool true)] (fun P hP => ?_) ?_)
              · simp only [W0.down, Nat.reduceEqDiff, ↓reduceIte, reduceCtorEq, Nat.reduceAdd, Nat.reduceSub, Nat.reduceMul, Nat.reduceLeDiff, Nat.reduceBEq, Nat.reduceLT, if_true, if_false, beq_self_eq_true, BEq.rfl, ne_eq, tt3, tt4, tt9, tt155, e_i64, u_impl_Equation, b51]
                (try simp only [WN.down, Nat.reduceAdd, if_true, if_false, ↓reduceIte, tt3, tt4, tt9, tt155, e_i64, u_impl_Equation, b51] at hP)
                (try simp only [WN.down, Nat.reduceAdd, if_true, if_false, ↓reduceIte, tt3, tt4, tt9, tt155, e_i64, u_impl_Equation, b51])
                exact hP
              refine w_ct rfl ?_
              refine w_sreg (w_abs [(2, .nils), (3, .int .i64 9)] (fun P hP => ?_) ?_)
              · simp only [W0.down, Nat.reduceEqDiff, ↓reduceIte, reduceCtorEq, Nat.reduceAdd, Nat.reduceSub, Nat.reduceMul, Nat.reduceLeDiff, Nat.reduceBEq, Nat.reduceLT, if_true, if_false, beq_self_eq_true, BEq.rfl, ne_eq, e_i64, u_impl_Equation]
                (try simp only [WN.down, Nat.reduceAdd, if_true, if_false, ↓reduceIte, e_i64, u_impl_Equation] at hP)
                (try simp only [WN.down, Nat.reduceAdd, if_true, if_false, ↓reduceIte, e_i64, u_impl_Equation])
                exact hP
              exact w_ret (q49 _ (r0 _ (.inr ⟨[(2, .uslice 3 []), (3, .int .i64 9)], weak_mix [] rfl (wk_wd (t := 2) (d := .nils) rfl rfl (.nilsU _) (by decide) (wk_eq rfl (wk_nil))), w_fin [.uslice 3 [], .int .i64 9] rfl (by cases someE h; rfl) (by decide) outs_nil⟩)))
            · obtain ⟨x7, e53, h⟩ := bindE h
              rcases condE h with ⟨b54, h⟩ | ⟨b54, h⟩
              · refine w_sreg (w_abs [(6, .uslice 3 (v6_18.map u_impl_Equation)), (80, .bool true)] (fun P hP => ?_) ?_)
                · simp only [W0.down, Nat.reduceEqDiff, ↓reduceIte, reduceCtorEq, Nat.reduceAdd, Nat.reduceSub, Nat.reduceMul, Nat.reduceLeDiff, Nat.reduceBEq, Nat.reduceLT, if_true, if_false, beq_self_eq_true, BEq.rfl, ne_eq, tt3, tt4, tt9, tt155, e_i64, u_impl_Equation, b51, b54]
                  refine w_callg0 (ok_spec_l22Is v6_18 _ e53) rfl rfl (by simp only [W0.down, Nat.reduceEqDiff, ↓reduceIte, reduceCtorEq, Nat.reduceAdd, Nat.reduceSub, Nat.reduceMul, Nat.reduceLeDiff, Nat.reduceBEq, Nat.reduceLT, if_true, if_false, beq_self_eq_true, BEq.rfl, ne_eq, tt3, tt4, tt9, tt155, e_i64, u_impl_Equation, b51, b54, view_s, view_h, viewH_s, share_s, @shares_map _ u_impl_Equation e_impl_Equation (fun _ => sh_u_impl_Equation _)]) rfl (.inr (by rfl)) ?_
                  simp only [W0.down, Nat.reduceEqDiff, ↓reduceIte, reduceCtorEq, Nat.reduceAdd, Nat.reduceSub, Nat.reduceMul, Nat.reduceLeDiff, Nat.reduceBEq, Nat.reduceLT, if_true, if_false, beq_self_eq_true, BEq.rfl, ne_eq, tt3, tt4, tt9, tt155, e_i64, u_impl_Equation, b51, b54]
                  (try simp only [WN.down, Nat.reduceAdd, if_true, if_false, ↓reduceIte, tt3, tt4, tt9, tt155, e_i64, u_impl_Equation, b51, b54] at hP)
                  (try simp only [WN.down, Nat.reduceAdd, if_true, if_false, ↓reduceIte, tt3, tt4, tt9, tt155, e_i64, u_impl_Equation, b51, b54])
                  exact hP
                refine w_ct rfl ?_
                refine w_sreg (w_abs [(2, .nils), (3, .int .i64 9)] (fun P hP => ?_) ?_)
                · simp only [W0.down, Nat.reduceEqDiff, ↓reduceIte, reduceCtorEq, Nat.reduceAdd, Nat.reduceSub, Nat.reduceMul, Nat.reduceLeDiff, Nat.reduceBEq, Nat.reduceLT, if_true, if_false, beq_self_eq_true, BEq.rfl, ne_eq, e_i64, u_impl_Equation]
                  (try simp only [WN.down, Nat.reduceAdd, if_true, if_false, ↓reduceIte, e_i64, u_impl_Equation] at hP)
                  (try simp only [WN.down, Nat.reduceAdd, if_true, if_false, ↓reduceIte, e_i64, u_impl_Equation])
                  exact hP
                exact w_ret (q49 _ (r0 _ (.inr ⟨[(2, .uslice 3 []), (3, .int .i64 9)], weak_mix [] rfl (wk_wd (t := 2) (d := .nils) rfl rfl (.nilsU _) (by decide) (wk_eq rfl (wk_nil))), w_fin [.uslice 3 [], .int .i64 9] rfl (by cases someE h; rfl) (by decide) outs_nil⟩)))
              · obtain ⟨x8, e56, h⟩ := bindE h
                refine w_sreg (w_abs [(6, .uslice 3 (v6_18.map u_impl_Equation)), (80, .bool (!(x8 == a0)))] (fun P hP => ?_) ?_)
                · simp only [W0.down, Nat.reduceEqDiff, ↓reduceIte, reduceCtorEq, Nat.reduceAdd, Nat.reduceSub, Nat.reduceMul, Nat.reduceLeDiff, Nat.reduceBEq, Nat.reduceLT, if_true, if_false, beq_self_eq_true, BEq.rfl, ne_eq, tt3, tt4, tt9, tt155, e_i64, u_impl_Equation, b51, b54]
                  refine w_callg0 (ok_spec_l22Is v6_18 _ e53) rfl rfl (by simp only [W0.down, Nat.reduceEqDiff, ↓reduceIte, reduceCtorEq, Nat.reduceAdd, Nat.reduceSub, Nat.reduceMul, Nat.reduceLeDiff, Nat.reduceBEq, Nat.reduceLT, if_true, if_false, beq_self_eq_true, BEq.rfl, ne_eq, tt3, tt4, tt9, tt155, e_i64, u_impl_Equation, b51, b54, view_s, view_h, viewH_s, share_s, @shares_map _ u_impl_Equation e_impl_Equation (fun _ => sh_u_impl_Equation _)]) rfl (.inr (by rfl)) ?_
                  simp only [W0.down, Nat.reduceEqDiff, ↓reduceIte, reduceCtorEq, Nat.reduceAdd, Nat.reduceSub, Nat.reduceMul, Nat.reduceLeDiff, Nat.reduceBEq, Nat.reduceLT, if_true, if_false, beq_self_eq_true, BEq.rfl, ne_eq, tt3, tt4, tt9, tt155, e_i64, u_impl_Equation, b51, b54]
                  refine w_callg0 (ok_spec_l32Equations v6_18 _ e56) rfl rfl (by simp only [W0.down, Nat.reduceEqDiff, ↓reduceIte, reduceCtorEq, Nat.reduceAdd, Nat.reduceSub, Nat.reduceMul, Nat.reduceLeDiff, Nat.reduceBEq, Nat.reduceLT, if_true, if_false, beq_self_eq_true, BEq.rfl, ne_eq, tt3, tt4, tt9, tt155, e_i64, u_impl_Equation, b51, b54, view_s, view_h, viewH_s, share_s, @shares_map _ u_impl_Equation e_impl_Equation (fun _ => sh_u_impl_Equation _)]) rfl (.inr (by rfl)) ?_
                  simp only [W0.down, Nat.reduceEqDiff, ↓reduceIte, reduceCtorEq, Nat.reduceAdd, Nat.reduceSub, Nat.reduceMul, Nat.reduceLeDiff, Nat.reduceBEq, Nat.reduceLT, if_true, if_false, beq_self_eq_true, BEq.rfl, ne_eq, tt3, tt4, tt9, tt155, e_i64, u_impl_Equation, b51, b54]
                  (try simp only [WN.down, Nat.reduceAdd, if_true, if_false, ↓reduceIte, tt3, tt4, tt9, tt155, e_i64, u_impl_Equation, b51, b54] at hP)
                  (try simp only [WN.down, Nat.reduceAdd, if_true, if_false, ↓reduceIte, tt3, tt4, tt9, tt155, e_i64, u_impl_Equation, b51, b54])
                  exact hP
                rcases condE h with ⟨b57, h⟩ | ⟨b57, h⟩
                · refine w_ct (congrArg AV.bool b57) ?_
                  simp only [b57, Bool.not_true, Bool.not_false]
                  refine w_sreg (w_abs [(2, .nils), (3, .int .i64 9)] (fun P hP => ?_) ?_)
                  · simp only [W0.down, Nat.reduceEqDiff, ↓reduceIte, reduceCtorEq, Nat.reduceAdd, Nat.reduceSub, Nat.reduceMul, Nat.reduceLeDiff, Nat.reduceBEq, Nat.reduceLT, if_true, if_false, beq_self_eq_true, BEq.rfl, ne_eq, e_i64, u_impl_Equation]
                    (try simp only [WN.down, Nat.reduceAdd, if_true, if_false, ↓reduceIte, e_i64, u_impl_Equation] at hP)
                    (try simp only [WN.down, Nat.reduceAdd, if_true, if_false, ↓reduceIte, e_i64, u_impl_Equation])
                    exact hP
                  exact w_ret (q49 _ (r0 _ (.inr ⟨[(2, .uslice 3 []), (3, .int .i64 9)], weak_mix [] rfl (wk_wd (t := 2) (d := .nils) rfl rfl (.nilsU _) (by decide) (wk_eq rfl (wk_nil))), w_fin [.uslice 3 [], .int .i64 9] rfl (by cases someE h; rfl) (by decide) outs_nil⟩)))
                · refine w_cf (congrArg AV.bool b57) ?_
                  simp only [b57, Bool.not_true, Bool.not_false]
                  refine w_skip (n49 _ (.inl ?_))
                  refine w_sreg (w_abs [(2, .uslice 3 (v6_18.map u_impl_Equation)), (3, .int .i64 0)] (fun P hP => ?_) ?_)
                  · simp only [W0.down, Nat.reduceEqDiff, ↓reduceIte, reduceCtorEq, Nat.reduceAdd, Nat.reduceSub, Nat.reduceMul, Nat.reduceLeDiff, Nat.reduceBEq, Nat.reduceLT, if_true, if_false, beq_self_eq_true, BEq.rfl, ne_eq, e_i64, u_impl_Equation]
                    (try simp only [WN.down, Nat.reduceAdd, if_true, if_false, ↓reduceIte, e_i64, u_impl_Equation] at hP)
                    (try simp only [WN.down, Nat.reduceAdd, if_true, if_false, ↓reduceIte, e_i64, u_impl_Equation])
                    exact hP
                  exact w_ret (r0 _ (.inr ⟨[(2, .uslice 3 (v6_18.map e_impl_Equation)), (3, .int .i64 0)], weak_mix [] rfl (wk_wd (t := 2) (d := .uslice 3 (v6_18.map u_impl_Equation)) rfl rfl (.uslice (wds_map (fun _ => wd_sh rfl rfl (sh_u_impl_Equation _)) _)) (by decide) (wk_eq rfl (wk_nil))), w_fin [.uslice 3 (v6_18.map e_impl_Equation), .int .i64 0] rfl (by cases someE h; rfl) (by decide) outs_nil⟩))
      obtain ⟨n, h⟩ := limE h
      exact w_loop (.inr ⟨_, weak_eq rfl, L18 n x3.2.1 x3.2.2.1 x3.2.2.2 [] x3.1 h⟩)

theorem ok_impl_within  (a0 : Int) (a1 : Int) (a2 : Int) (r : Bool) (h : impl_within  a0 a1 a2 = some r) : OkAt Cc 138 [.int .i64 a0, .int .i64 a1, .int .i64 a2] (.bool r) [] := by
  refine OkAt.of_wpQ (fx := [0, 1, 2]) Cc_ok Try.func138 rfl rfl s138 (Nat.le_of_ble_eq_true rfl) (fun Q0 r0 n0 => ?_)
  replace r0 : ∀ s, onW (Fw.Ends Cc [0, 1, 2] [.tmp 6] (.bool r) []) s → Q0 .ret s := r0
  replace n0 : ∀ s, onW (Fw.Ends Cc [0, 1, 2] [.tmp 6] (.bool r) []) s → Q0 .normal s := n0
  show wpC Cc c138 Q0 (stA [(0, .int .i64 a0), (1, .int .i64 a1), (2, .int .i64 a2)])
  refine w_sreg (w_abs [(0, .int .i64 a0), (1, .int .i64 a1), (2, .int .i64 a2)] (fun P hP => ?_) ?_)
  · simp only [W0.down, Nat.reduceEqDiff, ↓reduceIte, reduceCtorEq, Nat.reduceAdd, Nat.reduceSub, Nat.reduceMul, Nat.reduceLeDiff, Nat.reduceBEq, Nat.reduceLT, if_true, if_false, beq_self_eq_true, BEq.rfl, ne_eq]
    (try simp only [WN.down, Nat.reduceAdd, if_true, if_false, ↓reduceIte] at hP)
    (try simp only [WN.down, Nat.reduceAdd, if_true, if_false, ↓reduceIte])
    exact hP
  refine w_sreg (w_abs [(6, .bool ((decide (a1 ≤ a0)) && (decide (a0 ≤ a2))))] (fun P hP => ?_) ?_)
  · rcases Bool.eq_false_or_eq_true ((decide (a1 ≤ a0))) with s3 | s3
    · simp only [W0.down, Nat.reduceEqDiff, ↓reduceIte, reduceCtorEq, Nat.reduceAdd, Nat.reduceSub, Nat.reduceMul, Nat.reduceLeDiff, Nat.reduceBEq, Nat.reduceLT, if_true, if_false, beq_self_eq_true, BEq.rfl, ne_eq, s3]
      (try simp only [WN.down, Nat.reduceAdd, if_true, if_false, ↓reduceIte, s3] at hP)
      (try simp only [WN.down, Nat.reduceAdd, if_true, if_false, ↓reduceIte, s3])
      exact hP
    · simp only [W0.down, Nat.reduceEqDiff, ↓reduceIte, reduceCtorEq, Nat.reduceAdd, Nat.reduceSub, Nat.reduceMul, Nat.reduceLeDiff, Nat.reduceBEq, Nat.reduceLT, if_true, if_false, beq_self_eq_true, BEq.rfl, ne_eq, s3]
      (try simp only [WN.down, Nat.reduceAdd, if_true, if_false, ↓reduceIte, s3] at hP)
      (try simp only [WN.down, Nat.reduceAdd, if_true, if_false, ↓reduceIte, s3])
      exact hP
  exact w_ret (r0 _ (.inl (w_fin [.bool ((decide (a1 ≤ a0)) && (decide (a0 ≤ a2)))] rfl (by cases someE h; rfl) (by decide) outs_nil)))

theorem ok_impl_Crc16  (a0 : List UInt8) (a1 : Int) (r : Int) (h : impl_Crc16  a0 a1 = some r) : OkAt Cc 194 [.str a0, .int .i64 a1] (.int .i64 r) [] := by
  refine OkAt.of_wpQ (fx := [0, 1]) Cc_ok Try.func194 rfl rfl s194 (Nat.le_of_ble_eq_true rfl) (fun Q0 r0 n0 => ?_)
  replace r0 : ∀ s, onW (Fw.Ends Cc [0, 1] [.tmp 4] (.int .i64 r) []) s → Q0 .ret s := r0
  replace n0 : ∀ s, onW (Fw.Ends Cc [0, 1] [.tmp 4] (.int .i64 r) []) s → Q0 .normal s := n0
  show wpC Cc c194 Q0 (stA [(0, .str a0), (1, .int .i64 a1)])
  refine w_sreg (w_abs [(0, .str a0), (1, .int .i64 a1)] (fun P hP => ?_) ?_)
  · simp only [W0.down, Nat.reduceEqDiff, ↓reduceIte, reduceCtorEq, Nat.reduceAdd, Nat.reduceSub, Nat.reduceMul, Nat.reduceLeDiff, Nat.reduceBEq, Nat.reduceLT, if_true, if_false, beq_self_eq_true, BEq.rfl, ne_eq]
    (try simp only [WN.down, Nat.reduceAdd, if_true, if_false, ↓reduceIte] at hP)
    (try simp only [WN.down, Nat.reduceAdd, if_true, if_false, ↓reduceIte])
    exact hP
  refine w_seq (fun Q2 n2 q2 x2 => ?_)
  obtain ⟨x1, e4, h⟩ := bindE h
  refine w_sreg (w_abs [(0, .str a0), (1, .int .i64 a1), (9, .bool (!x1))] (fun P hP => ?_) ?_)
  · simp only [W0.down, Nat.reduceEqDiff, ↓reduceIte, reduceCtorEq, Nat.reduceAdd, Nat.reduceSub, Nat.reduceMul, Nat.reduceLeDiff, Nat.reduceBEq, Nat.reduceLT, if_true, if_false, beq_self_eq_true, BEq.rfl, ne_eq]
    refine w_call0 (ok_impl_within a1 0 65535 _ e4) rfl rfl rfl rfl (.inl (by rfl)) ?_
    simp only [W0.down, Nat.reduceEqDiff, ↓reduceIte, reduceCtorEq, Nat.reduceAdd, Nat.reduceSub, Nat.reduceMul, Nat.reduceLeDiff, Nat.reduceBEq, Nat.reduceLT, if_true, if_false, beq_self_eq_true, BEq.rfl, ne_eq]
    (try simp only [WN.down, Nat.reduceAdd, if_true, if_false, ↓reduceIte] at hP)
    (try simp only [WN.down, Nat.reduceAdd, if_true, if_false, ↓reduceIte])
    exact hP
  rcases condE h with ⟨b5, h⟩ | ⟨b5, h⟩
  · refine w_ct (congrArg AV.bool b5) ?_
    simp only [b5, Bool.not_true, Bool.not_false]
    refine w_sreg (w_abs [(4, .int .i64 0)] (fun P hP => ?_) ?_)
    · simp only [W0.down, Nat.reduceEqDiff, ↓reduceIte, reduceCtorEq, Nat.reduceAdd, Nat.reduceSub, Nat.reduceMul, Nat.reduceLeDiff, Nat.reduceBEq, Nat.reduceLT, if_true, if_false, beq_self_eq_true, BEq.rfl, ne_eq]
      (try simp only [WN.down, Nat.reduceAdd, if_true, if_false, ↓reduceIte] at hP)
      (try simp only [WN.down, Nat.reduceAdd, if_true, if_false, ↓reduceIte])
      exact hP
    exact w_ret (q2 _ (r0 _ (.inl (w_fin [.int .i64 0] rfl (by cases someE h; rfl) (by decide) outs_nil))))
  · refine w_cf (congrArg AV.bool b5) ?_
    simp only [b5, Bool.not_true, Bool.not_false]
    refine w_skip (n2 _ (.inl ?_))
    refine w_sreg (w_abs [(0, .str a0), (5, .int .i64 a1)] (fun P hP => ?_) ?_)
    · simp only [W0.down, Nat.reduceEqDiff, ↓reduceIte, reduceCtorEq, Nat.reduceAdd, Nat.reduceSub, Nat.reduceMul, Nat.reduceLeDiff, Nat.reduceBEq, Nat.reduceLT, if_true, if_false, beq_self_eq_true, BEq.rfl, ne_eq]
      (try simp only [WN.down, Nat.reduceAdd, if_true, if_false, ↓reduceIte] at hP)
      (try simp only [WN.down, Nat.reduceAdd, if_true, if_false, ↓reduceIte])
      exact hP
    refine w_seq (fun Q8 n8 q8 x8 => ?_)
    refine w_sreg (w_abs [(0, .str a0), (5, .int .i64 a1), (12, .int .i64 (a0.length : Int)), (13, .int .i64 0)] (fun P hP => ?_) ?_)
    · simp only [W0.down, Nat.reduceEqDiff, ↓reduceIte, reduceCtorEq, Nat.reduceAdd, Nat.reduceSub, Nat.reduceMul, Nat.reduceLeDiff, Nat.reduceBEq, Nat.reduceLT, if_true, if_false, beq_self_eq_true, BEq.rfl, ne_eq, tt9]
      (try simp only [WN.down, Nat.reduceAdd, if_true, if_false, ↓reduceIte, tt9] at hP)
      (try simp only [WN.down, Nat.reduceAdd, if_true, if_false, ↓reduceIte, tt9])
      exact hP
    refine w_blk (fun Q10 n10 q10 b10 x10 => ?_)
    have L16 : ∀ (n : Nat) (v5_16 : Int) (v13_16 : Int), impl_Crc16_l16 a0 n v5_16 v13_16 = some r → lpC Cc c194_17 Q10 (stA [(0, .str a0), (5, .int .i64 v5_16), (12, .int .i64 (a0.length : Int)), (13, .int .i64 v13_16)]) := by
      intro m16
      induction m16 with
      | zero => intro v5_16 v13_16 h; cases (show none = some r from h)
      | succ m16 ih16 =>
        intro v5_16 v13_16 h
        replace h : impl_Crc16_b16 (impl_Crc16_l16 a0 m16) a0 v5_16 v13_16 = some r := h
        refine lpC_step (fun Q11 n11 q11 x11 => ?_)
        refine w_sreg (w_abs [(0, .str a0), (5, .int .i64 v5_16), (12, .int .i64 (a0.length : Int)), (13, .int .i64 v13_16), (14, .bool (decide (v13_16 < (a0.length : Int))))] (fun P hP => ?_) ?_)
        · simp only [W0.down, Nat.reduceEqDiff, ↓reduceIte, reduceCtorEq, Nat.reduceAdd, Nat.reduceSub, Nat.reduceMul, Nat.reduceLeDiff, Nat.reduceBEq, Nat.reduceLT, if_true, if_false, beq_self_eq_true, BEq.rfl, ne_eq]
          (try simp only [WN.down, Nat.reduceAdd, if_true, if_false, ↓reduceIte] at hP)
          (try simp only [WN.down, Nat.reduceAdd, if_true, if_false, ↓reduceIte])
          exact hP
        refine w_seq (fun Q13 n13 q13 x13 => ?_)
        rcases condE h with ⟨b14, h⟩ | ⟨b14, h⟩
        · refine w_ct (congrArg AV.bool b14) ?_
          simp only [b14, Bool.not_true, Bool.not_false]
          refine w_skip (n13 _ (.inl ?_))
          refine w_seq (fun Q15 n15 q15 x15 => ?_)
          refine w_blk (fun Q16 n16 q16 b16 x16 => ?_)
          refine w_sreg (w_abs [(0, .str a0), (5, .int .i64 v5_16), (6, .int .i64 v13_16), (12, .int .i64 (a0.length : Int)), (13, .int .i64 v13_16)] (fun P hP => ?_) ?_)
          · simp only [W0.down, Nat.reduceEqDiff, ↓reduceIte, reduceCtorEq, Nat.reduceAdd, Nat.reduceSub, Nat.reduceMul, Nat.reduceLeDiff, Nat.reduceBEq, Nat.reduceLT, if_true, if_false, beq_self_eq_true, BEq.rfl, ne_eq]
            (try simp only [WN.down, Nat.reduceAdd, if_true, if_false, ↓reduceIte] at hP)
            (try simp only [WN.down, Nat.reduceAdd, if_true, if_false, ↓reduceIte])
            exact hP
          obtain ⟨x2, e19, h⟩ := bindE h
          refine w_sreg (w_abs [(0, .str a0), (5, .int .i64 (bitsOf .xor .i64 v5_16 (IntKind.i64.wrap ((x2.toNat : Int) * 256)))), (12, .int .i64 (a0.length : Int)), (13, .int .i64 v13_16)] (fun P hP => ?_) ?_)
          · simp only [W0.down, Nat.reduceEqDiff, ↓reduceIte, reduceCtorEq, Nat.reduceAdd, Nat.reduceSub, Nat.reduceMul, Nat.reduceLeDiff, Nat.reduceBEq, Nat.reduceLT, if_true, if_false, beq_self_eq_true, BEq.rfl, ne_eq, tt9, e19, @cvt_i' Cc 5 2 .i64 rfl rfl]
            (try simp only [WN.down, Nat.reduceAdd, if_true, if_false, ↓reduceIte, tt9, e19, @cvt_i' Cc 5 2 .i64 rfl rfl] at hP)
            (try simp only [WN.down, Nat.reduceAdd, if_true, if_false, ↓reduceIte, tt9, e19, @cvt_i' Cc 5 2 .i64 rfl rfl])
            exact hP
          refine w_sreg (w_abs [(0, .str a0), (5, .int .i64 (bitsOf .xor .i64 v5_16 (IntKind.i64.wrap ((x2.toNat : Int) * 256)))), (12, .int .i64 (a0.length : Int)), (13, .int .i64 v13_16), (23, .int .i64 0)] (fun P hP => ?_) ?_)
          · simp only [W0.down, Nat.reduceEqDiff, ↓reduceIte, reduceCtorEq, Nat.reduceAdd, Nat.reduceSub, Nat.reduceMul, Nat.reduceLeDiff, Nat.reduceBEq, Nat.reduceLT, if_true, if_false, beq_self_eq_true, BEq.rfl, ne_eq]
            (try simp only [WN.down, Nat.reduceAdd, if_true, if_false, ↓reduceIte] at hP)
            (try simp only [WN.down, Nat.reduceAdd, if_true, if_false, ↓reduceIte])
            exact hP
          refine w_blk (fun Q21 n21 q21 b21 x21 => ?_)
          have L32 : ∀ (n : Nat) (v5_32 : Int) (v13_32 : Int) (v23_32 : Int), impl_Crc16_l32 (impl_Crc16_l16 a0 m16) a0 n v5_32 v13_32 v23_32 = some r → lpC Cc c194_33 Q21 (stA [(0, .str a0), (5, .int .i64 v5_32), (12, .int .i64 (a0.length : Int)), (13, .int .i64 v13_32), (23, .int .i64 v23_32)]) := by
            intro m32
            induction m32 with
            | zero => intro v5_32 v13_32 v23_32 h; cases (show none = some r from h)
            | succ m32 ih32 =>
              intro v5_32 v13_32 v23_32 h
              replace h : impl_Crc16_b32 (impl_Crc16_l16 a0 m16) (impl_Crc16_l32 (impl_Crc16_l16 a0 m16) a0 m32) a0 v5_32 v13_32 v23_32 = some r := h
              refine lpC_step (fun Q22 n22 q22 x22 => ?_)
              refine w_sreg (w_abs [(0, .str a0), (5, .int .i64 v5_32), (12, .int .i64 (a0.length : Int)), (13, .int .i64 v13_32), (23, .int .i64 v23_32), (24, .bool (decide (v23_32 < 8)))] (fun P hP => ?_) ?_)
              · simp only [W0.down, Nat.reduceEqDiff, ↓reduceIte, reduceCtorEq, Nat.reduceAdd, Nat.reduceSub, Nat.reduceMul, Nat.reduceLeDiff, Nat.reduceBEq, Nat.reduceLT, if_true, if_false, beq_self_eq_true, BEq.rfl, ne_eq]
                (try simp only [WN.down, Nat.reduceAdd, if_true, if_false, ↓reduceIte] at hP)
                (try simp only [WN.down, Nat.reduceAdd, if_true, if_false, ↓reduceIte])
                exact hP
              refine w_seq (fun Q24 n24 q24 x24 => ?_)
              rcases condE h with ⟨b25, h⟩ | ⟨b25, h⟩
              · refine w_ct (congrArg AV.bool b25) ?_
                simp only [b25, Bool.not_true, Bool.not_false]
                refine w_skip (n24 _ (.inl ?_))
                have K48 : ∀ (v5_48 : Int) (v13_48 : Int) (v23_48 : Int), impl_Crc16_k48 (impl_Crc16_l16 a0 m16) (impl_Crc16_l32 (impl_Crc16_l16 a0 m16) a0 m32) a0 v5_48 v13_48 v23_48 = some r → wpC Cc c194_48 Q22 (stA [(0, .str a0), (5, .int .i64 v5_48), (12, .int .i64 (a0.length : Int)), (13, .int .i64 v13_48), (23, .int .i64 v23_48)]) := by
                  intro v5_48 v13_48 v23_48 h
                  refine w_reg (w_abs [(0, .str a0), (5, .int .i64 v5_48), (12, .int .i64 (a0.length : Int)), (13, .int .i64 v13_48), (23, .int .i64 (IntKind.i64.wrap (v23_48 + 1)))] (fun P hP => ?_) ?_)
                  · simp only [W0.down, Nat.reduceEqDiff, ↓reduceIte, reduceCtorEq, Nat.reduceAdd, Nat.reduceSub, Nat.reduceMul, Nat.reduceLeDiff, Nat.reduceBEq, Nat.reduceLT, if_true, if_false, beq_self_eq_true, BEq.rfl, ne_eq]
                    (try simp only [WN.down, Nat.reduceAdd, if_true, if_false, ↓reduceIte] at hP)
                    (try simp only [WN.down, Nat.reduceAdd, if_true, if_false, ↓reduceIte])
                    exact hP
                  exact n22 _ (.inr ⟨_, weak_eq rfl, ih32 v5_48 v13_48 (IntKind.i64.wrap (v23_48 + 1)) h⟩)
                refine w_seq (fun Q26 n26 q26 x26 => ?_)
                refine w_blk (fun Q28 n28 q28 b28 x28 => ?_)
                refine w_sreg (w_abs [(0, .str a0), (5, .int .i64 (IntKind.i64.wrap (v5_32 * 2))), (12, .int .i64 (a0.length : Int)), (13, .int .i64 v13_32), (23, .int .i64 v23_32)] (fun P hP => ?_) ?_)
                · simp only [W0.down, Nat.reduceEqDiff, ↓reduceIte, reduceCtorEq, Nat.reduceAdd, Nat.reduceSub, Nat.reduceMul, Nat.reduceLeDiff, Nat.reduceBEq, Nat.reduceLT, if_true, if_false, beq_self_eq_true, BEq.rfl, ne_eq]
                  (try simp only [WN.down, Nat.reduceAdd, if_true, if_false, ↓reduceIte] at hP)
                  (try simp only [WN.down, Nat.reduceAdd, if_true, if_false, ↓reduceIte])
                  exact hP
                refine w_sreg (w_abs [(0, .str a0), (5, .int .i64 (IntKind.i64.wrap (v5_32 * 2))), (12, .int .i64 (a0.length : Int)), (13, .int .i64 v13_32), (23, .int .i64 v23_32), (28, .bool (decide (65535 < (IntKind.i64.wrap (v5_32 * 2)))))] (fun P hP => ?_) ?_)
                · simp only [W0.down, Nat.reduceEqDiff, ↓reduceIte, reduceCtorEq, Nat.reduceAdd, Nat.reduceSub, Nat.reduceMul, Nat.reduceLeDiff, Nat.reduceBEq, Nat.reduceLT, if_true, if_false, beq_self_eq_true, BEq.rfl, ne_eq]
                  (try simp only [WN.down, Nat.reduceAdd, if_true, if_false, ↓reduceIte] at hP)
                  (try simp only [WN.down, Nat.reduceAdd, if_true, if_false, ↓reduceIte])
                  exact hP
                rcases condE h with ⟨b31, h⟩ | ⟨b31, h⟩
                · refine w_ct (congrArg AV.bool b31) ?_
                  simp only [b31, Bool.not_true, Bool.not_false]
                  refine w_reg (w_abs [(0, .str a0), (5, .int .i64 (bitsOf .xor .i64 (bitsOf .and .i64 (IntKind.i64.wrap (v5_32 * 2)) 65535) 4129)), (12, .int .i64 (a0.length : Int)), (13, .int .i64 v13_32), (23, .int .i64 v23_32)] (fun P hP => ?_) ?_)
                  · simp only [W0.down, Nat.reduceEqDiff, ↓reduceIte, reduceCtorEq, Nat.reduceAdd, Nat.reduceSub, Nat.reduceMul, Nat.reduceLeDiff, Nat.reduceBEq, Nat.reduceLT, if_true, if_false, beq_self_eq_true, BEq.rfl, ne_eq]
                    (try simp only [WN.down, Nat.reduceAdd, if_true, if_false, ↓reduceIte] at hP)
                    (try simp only [WN.down, Nat.reduceAdd, if_true, if_false, ↓reduceIte])
                    exact hP
                  exact n28 _ (n26 _ (.inr ⟨_, weak_eq rfl, K48 (bitsOf .xor .i64 (bitsOf .and .i64 (IntKind.i64.wrap (v5_32 * 2)) 65535) 4129) v13_32 v23_32 h⟩))
                · refine w_cf (congrArg AV.bool b31) ?_
                  simp only [b31, Bool.not_true, Bool.not_false]
                  exact w_skip (n28 _ (n26 _ (.inr ⟨_, weak_eq rfl, K48 (IntKind.i64.wrap (v5_32 * 2)) v13_32 v23_32 h⟩)))
              · refine w_cf (congrArg AV.bool b25) ?_
                simp only [b25, Bool.not_true, Bool.not_false]
                refine w_ex (x24 2 _ (x22 2 _ (b21 _ (n16 _ (n15 _ (.inl ?_))))))
                refine w_reg (w_abs [(0, .str a0), (5, .int .i64 v5_32), (12, .int .i64 (a0.length : Int)), (13, .int .i64 (IntKind.i64.wrap (v13_32 + 1)))] (fun P hP => ?_) ?_)
                · simp only [W0.down, Nat.reduceEqDiff, ↓reduceIte, reduceCtorEq, Nat.reduceAdd, Nat.reduceSub, Nat.reduceMul, Nat.reduceLeDiff, Nat.reduceBEq, Nat.reduceLT, if_true, if_false, beq_self_eq_true, BEq.rfl, ne_eq]
                  (try simp only [WN.down, Nat.reduceAdd, if_true, if_false, ↓reduceIte] at hP)
                  (try simp only [WN.down, Nat.reduceAdd, if_true, if_false, ↓reduceIte])
                  exact hP
                exact n11 _ (.inr ⟨_, weak_eq rfl, ih16 v5_32 (IntKind.i64.wrap (v13_32 + 1)) h⟩)
          obtain ⟨n, h⟩ := limE h
          exact w_loop (.inr ⟨_, weak_eq rfl, L32 n (bitsOf .xor .i64 v5_16 (IntKind.i64.wrap ((x2.toNat : Int) * 256))) v13_16 0 h⟩)
        · refine w_cf (congrArg AV.bool b14) ?_
          simp only [b14, Bool.not_true, Bool.not_false]
          refine w_ex (x13 0 _ (x11 0 _ (b10 _ (n8 _ (.inl ?_)))))
          refine w_sreg (w_abs [(4, .int .i64 v5_16)] (fun P hP => ?_) ?_)
          · simp only [W0.down, Nat.reduceEqDiff, ↓reduceIte, reduceCtorEq, Nat.reduceAdd, Nat.reduceSub, Nat.reduceMul, Nat.reduceLeDiff, Nat.reduceBEq, Nat.reduceLT, if_true, if_false, beq_self_eq_true, BEq.rfl, ne_eq]
            (try simp only [WN.down, Nat.reduceAdd, if_true, if_false, ↓reduceIte] at hP)
            (try simp only [WN.down, Nat.reduceAdd, if_true, if_false, ↓reduceIte])
            exact hP
          exact w_ret (r0 _ (.inl (w_fin [.int .i64 v5_16] rfl (by cases someE h; rfl) (by decide) outs_nil)))
    obtain ⟨n, h⟩ := limE h
    exact w_loop (.inr ⟨_, weak_eq rfl, L16 n a1 0 h⟩)

theorem ok_impl_ImageKind  (a0 : List UInt8) (r : Int × Int) (h : impl_ImageKind  a0 = some r) : OkAt Cc 127 [.str a0] (.tuple [.int .i64 r.1, .int .i64 r.2]) [] := by
  refine OkAt.of_wpQ (fx := [0]) Cc_ok Try.func127 rfl rfl s127 (Nat.le_of_ble_eq_true rfl) (fun Q0 r0 n0 => ?_)
  replace r0 : ∀ s, onW (Fw.Ends Cc [0] [.tmp 2, .tmp 3] (.tuple [.int .i64 r.1, .int .i64 r.2]) []) s → Q0 .ret s := r0
  replace n0 : ∀ s, onW (Fw.Ends Cc [0] [.tmp 2, .tmp 3] (.tuple [.int .i64 r.1, .int .i64 r.2]) []) s → Q0 .normal s := n0
  show wpC Cc c127 Q0 (stA [(0, .str a0)])
  refine w_sreg (w_abs [(0, .str a0)] (fun P hP => ?_) ?_)
  · simp only [W0.down, Nat.reduceEqDiff, ↓reduceIte, reduceCtorEq, Nat.reduceAdd, Nat.reduceSub, Nat.reduceMul, Nat.reduceLeDiff, Nat.reduceBEq, Nat.reduceLT, if_true, if_false, beq_self_eq_true, BEq.rfl, ne_eq]
    (try simp only [WN.down, Nat.reduceAdd, if_true, if_false, ↓reduceIte] at hP)
    (try simp only [WN.down, Nat.reduceAdd, if_true, if_false, ↓reduceIte])
    exact hP
  refine w_seq (fun Q2 n2 q2 x2 => ?_)
  refine w_sreg (w_abs [(0, .str a0), (9, .bool (decide ((a0.length : Int) < 3)))] (fun P hP => ?_) ?_)
  · simp only [W0.down, Nat.reduceEqDiff, ↓reduceIte, reduceCtorEq, Nat.reduceAdd, Nat.reduceSub, Nat.reduceMul, Nat.reduceLeDiff, Nat.reduceBEq, Nat.reduceLT, if_true, if_false, beq_self_eq_true, BEq.rfl, ne_eq, tt9]
    (try simp only [WN.down, Nat.reduceAdd, if_true, if_false, ↓reduceIte, tt9] at hP)
    (try simp only [WN.down, Nat.reduceAdd, if_true, if_false, ↓reduceIte, tt9])
    exact hP
  rcases condE h with ⟨b4, h⟩ | ⟨b4, h⟩
  · refine w_ct (congrArg AV.bool b4) ?_
    simp only [b4, Bool.not_true, Bool.not_false]
    refine w_sreg (w_abs [(2, .int .i64 0), (3, .int .i64 11)] (fun P hP => ?_) ?_)
    · simp only [W0.down, Nat.reduceEqDiff, ↓reduceIte, reduceCtorEq, Nat.reduceAdd, Nat.reduceSub, Nat.reduceMul, Nat.reduceLeDiff, Nat.reduceBEq, Nat.reduceLT, if_true, if_false, beq_self_eq_true, BEq.rfl, ne_eq]
      (try simp only [WN.down, Nat.reduceAdd, if_true, if_false, ↓reduceIte] at hP)
      (try simp only [WN.down, Nat.reduceAdd, if_true, if_false, ↓reduceIte])
      exact hP
    exact w_ret (q2 _ (r0 _ (.inl (w_fin [.int .i64 0, .int .i64 11] rfl (by cases someE h; rfl) (by decide) outs_nil))))
  · refine w_cf (congrArg AV.bool b4) ?_
    simp only [b4, Bool.not_true, Bool.not_false]
    refine w_skip (n2 _ (.inl ?_))
    obtain ⟨x1, e7, h⟩ := bindE h
    refine w_sreg (w_abs [(0, .str a0), (4, .str x1)] (fun P hP => ?_) ?_)
    · simp only [W0.down, Nat.reduceEqDiff, ↓reduceIte, reduceCtorEq, Nat.reduceAdd, Nat.reduceSub, Nat.reduceMul, Nat.reduceLeDiff, Nat.reduceBEq, Nat.reduceLT, if_true, if_false, beq_self_eq_true, BEq.rfl, ne_eq, tt9, e7]
      (try simp only [WN.down, Nat.reduceAdd, if_true, if_false, ↓reduceIte, tt9, e7] at hP)
      (try simp only [WN.down, Nat.reduceAdd, if_true, if_false, ↓reduceIte, tt9, e7])
      exact hP
    obtain ⟨x2, e9, h⟩ := bindE h
    refine w_sreg (w_abs [(0, .str a0), (5, .int .i64 x2)] (fun P hP => ?_) ?_)
    · simp only [W0.down, Nat.reduceEqDiff, ↓reduceIte, reduceCtorEq, Nat.reduceAdd, Nat.reduceSub, Nat.reduceMul, Nat.reduceLeDiff, Nat.reduceBEq, Nat.reduceLT, if_true, if_false, beq_self_eq_true, BEq.rfl, ne_eq]
      refine w_call0 (ok_impl_Crc16 x1 65535 _ e9) rfl rfl rfl rfl (.inl (by rfl)) ?_
      simp only [W0.down, Nat.reduceEqDiff, ↓reduceIte, reduceCtorEq, Nat.reduceAdd, Nat.reduceSub, Nat.reduceMul, Nat.reduceLeDiff, Nat.reduceBEq, Nat.reduceLT, if_true, if_false, beq_self_eq_true, BEq.rfl, ne_eq]
      (try simp only [WN.down, Nat.reduceAdd, if_true, if_false, ↓reduceIte] at hP)
      (try simp only [WN.down, Nat.reduceAdd, if_true, if_false, ↓reduceIte])
      exact hP
    obtain ⟨x3, e11, h⟩ := bindE h
    refine w_sreg (w_abs [(0, .str a0), (5, .int .i64 x2), (6, .int .i64 (x3.toNat : Int))] (fun P hP => ?_) ?_)
    · simp only [W0.down, Nat.reduceEqDiff, ↓reduceIte, reduceCtorEq, Nat.reduceAdd, Nat.reduceSub, Nat.reduceMul, Nat.reduceLeDiff, Nat.reduceBEq, Nat.reduceLT, if_true, if_false, beq_self_eq_true, BEq.rfl, ne_eq, tt9, e11, @cvt_i' Cc 5 2 .i64 rfl rfl]
      (try simp only [WN.down, Nat.reduceAdd, if_true, if_false, ↓reduceIte, tt9, e11, @cvt_i' Cc 5 2 .i64 rfl rfl] at hP)
      (try simp only [WN.down, Nat.reduceAdd, if_true, if_false, ↓reduceIte, tt9, e11, @cvt_i' Cc 5 2 .i64 rfl rfl])
      exact hP
    refine w_seq (fun Q12 n12 q12 x12 => ?_)
    refine w_blk (fun Q13 n13 q13 b13 x13 => ?_)
    obtain ⟨x4, e15, h⟩ := bindE h
    obtain ⟨x5, e16, h⟩ := bindE h
    refine w_sdrw rfl (w_absd [(0, .str a0), (6, .int .i64 (x3.toNat : Int)), (20, .bool ((IntKind.i64.wrap ((IntKind.i64.wrap ((x4.toNat : Int) * 256)) + (x5.toNat : Int))) != x2))] (fun P hP => ?_) ?_)
    · simp only [W1.down, Nat.reduceEqDiff, ↓reduceIte, reduceCtorEq, Nat.reduceAdd, Nat.reduceSub, Nat.reduceMul, Nat.reduceLeDiff, Nat.reduceBEq, Nat.reduceLT, if_true, if_false, beq_self_eq_true, BEq.rfl, ne_eq, tt9, e15, @cvt_i' Cc 5 2 .i64 rfl rfl, e16]
      refine ⟨by kernel_rfl, ?_⟩
      (try simp only [WN.down, Nat.reduceAdd, if_true, if_false, ↓reduceIte, tt9, e15, @cvt_i' Cc 5 2 .i64 rfl rfl, e16] at hP)
      (try simp only [WN.down, Nat.reduceAdd, if_true, if_false, ↓reduceIte, tt9, e15, @cvt_i' Cc 5 2 .i64 rfl rfl, e16])
      exact hP
    rcases condE h with ⟨b17, h⟩ | ⟨b17, h⟩
    · refine w_ct (congrArg AV.bool b17) ?_
      simp only [b17, Bool.not_true, Bool.not_false]
      refine w_sreg (w_abs [(2, .int .i64 0), (3, .int .i64 10)] (fun P hP => ?_) ?_)
      · simp only [W0.down, Nat.reduceEqDiff, ↓reduceIte, reduceCtorEq, Nat.reduceAdd, Nat.reduceSub, Nat.reduceMul, Nat.reduceLeDiff, Nat.reduceBEq, Nat.reduceLT, if_true, if_false, beq_self_eq_true, BEq.rfl, ne_eq]
        (try simp only [WN.down, Nat.reduceAdd, if_true, if_false, ↓reduceIte] at hP)
        (try simp only [WN.down, Nat.reduceAdd, if_true, if_false, ↓reduceIte])
        exact hP
      exact w_ret (q13 _ (q12 _ (r0 _ (.inl (w_fin [.int .i64 0, .int .i64 10] rfl (by cases someE h; rfl) (by decide) outs_nil)))))
    · refine w_cf (congrArg AV.bool b17) ?_
      simp only [b17, Bool.not_true, Bool.not_false]
      obtain ⟨x6, e20, h⟩ := bindE h
      refine w_sreg (w_abs [(6, .int .i64 (x3.toNat : Int)), (37, .bool ((!x6) || (decide (6000 < (a0.length : Int)))))] (fun P hP => ?_) ?_)
      · rcases Bool.eq_false_or_eq_true ((!x6)) with s21 | s21
        · simp only [W0.down, Nat.reduceEqDiff, ↓reduceIte, reduceCtorEq, Nat.reduceAdd, Nat.reduceSub, Nat.reduceMul, Nat.reduceLeDiff, Nat.reduceBEq, Nat.reduceLT, if_true, if_false, beq_self_eq_true, BEq.rfl, ne_eq, tt9, s21]
          refine w_call0 (ok_impl_within (x3.toNat : Int) 1 3 _ e20) rfl rfl rfl rfl (.inl (by rfl)) ?_
          simp only [W0.down, Nat.reduceEqDiff, ↓reduceIte, reduceCtorEq, Nat.reduceAdd, Nat.reduceSub, Nat.reduceMul, Nat.reduceLeDiff, Nat.reduceBEq, Nat.reduceLT, if_true, if_false, beq_self_eq_true, BEq.rfl, ne_eq, tt9, s21]
          (try simp only [WN.down, Nat.reduceAdd, if_true, if_false, ↓reduceIte, tt9, s21] at hP)
          (try simp only [WN.down, Nat.reduceAdd, if_true, if_false, ↓reduceIte, tt9, s21])
          exact hP
        · simp only [W0.down, Nat.reduceEqDiff, ↓reduceIte, reduceCtorEq, Nat.reduceAdd, Nat.reduceSub, Nat.reduceMul, Nat.reduceLeDiff, Nat.reduceBEq, Nat.reduceLT, if_true, if_false, beq_self_eq_true, BEq.rfl, ne_eq, tt9, s21]
          refine w_call0 (ok_impl_within (x3.toNat : Int) 1 3 _ e20) rfl rfl rfl rfl (.inl (by rfl)) ?_
          simp only [W0.down, Nat.reduceEqDiff, ↓reduceIte, reduceCtorEq, Nat.reduceAdd, Nat.reduceSub, Nat.reduceMul, Nat.reduceLeDiff, Nat.reduceBEq, Nat.reduceLT, if_true, if_false, beq_self_eq_true, BEq.rfl, ne_eq, tt9, s21]
          (try simp only [WN.down, Nat.reduceAdd, if_true, if_false, ↓reduceIte, tt9, s21] at hP)
          (try simp only [WN.down, Nat.reduceAdd, if_true, if_false, ↓reduceIte, tt9, s21])
          exact hP
      rcases condE h with ⟨b22, h⟩ | ⟨b22, h⟩
      · refine w_ct (congrArg AV.bool b22) ?_
        simp only [b22, Bool.not_true, Bool.not_false]
        refine w_sreg (w_abs [(2, .int .i64 0), (3, .int .i64 9)] (fun P hP => ?_) ?_)
        · simp only [W0.down, Nat.reduceEqDiff, ↓reduceIte, reduceCtorEq, Nat.reduceAdd, Nat.reduceSub, Nat.reduceMul, Nat.reduceLeDiff, Nat.reduceBEq, Nat.reduceLT, if_true, if_false, beq_self_eq_true, BEq.rfl, ne_eq]
          (try simp only [WN.down, Nat.reduceAdd, if_true, if_false, ↓reduceIte] at hP)
          (try simp only [WN.down, Nat.reduceAdd, if_true, if_false, ↓reduceIte])
          exact hP
        exact w_ret (q13 _ (q12 _ (r0 _ (.inl (w_fin [.int .i64 0, .int .i64 9] rfl (by cases someE h; rfl) (by decide) outs_nil)))))
      · refine w_cf (congrArg AV.bool b22) ?_
        simp only [b22, Bool.not_true, Bool.not_false]
        refine w_skip (n13 _ (n12 _ (.inl ?_)))
        refine w_sreg (w_abs [(2, .int .i64 (x3.toNat : Int)), (3, .int .i64 0)] (fun P hP => ?_) ?_)
        · simp only [W0.down, Nat.reduceEqDiff, ↓reduceIte, reduceCtorEq, Nat.reduceAdd, Nat.reduceSub, Nat.reduceMul, Nat.reduceLeDiff, Nat.reduceBEq, Nat.reduceLT, if_true, if_false, beq_self_eq_true, BEq.rfl, ne_eq]
          (try simp only [WN.down, Nat.reduceAdd, if_true, if_false, ↓reduceIte] at hP)
          (try simp only [WN.down, Nat.reduceAdd, if_true, if_false, ↓reduceIte])
          exact hP
        exact w_ret (r0 _ (.inl (w_fin [.int .i64 (x3.toNat : Int), .int .i64 0] rfl (by cases someE h; rfl) (by decide) outs_nil)))

theorem ok_impl_contents  (a0 : List UInt8) (a1 : Int) (r : (Option ((List UInt8) × Bool)) × Int) (h : impl_contents  a0 a1 = some r) : OkAt Cc 121 [.str a0, .int .i64 a1] (.tuple [optP (fun y => .ubox (.agg [.str y.1, .bool y.2])) r.1, .int .i64 r.2]) [] := by
  refine OkAt.of_wpQ (fx := [0, 1]) Cc_ok Try.func121 rfl rfl s121 (Nat.le_of_ble_eq_true rfl) (fun Q0 r0 n0 => ?_)
  replace r0 : ∀ s, onW (Fw.Ends Cc [0, 1] [.tmp 4, .tmp 5] (.tuple [optP (fun y => .ubox (.agg [.str y.1, .bool y.2])) r.1, .int .i64 r.2]) []) s → Q0 .ret s := r0
  replace n0 : ∀ s, onW (Fw.Ends Cc [0, 1] [.tmp 4, .tmp 5] (.tuple [optP (fun y => .ubox (.agg [.str y.1, .bool y.2])) r.1, .int .i64 r.2]) []) s → Q0 .normal s := n0
  show wpC Cc c121 Q0 (stA [(0, .str a0), (1, .int .i64 a1)])
  refine w_sreg (w_abs [(0, .str a0), (1, .int .i64 a1)] (fun P hP => ?_) ?_)
  · simp only [W0.down, Nat.reduceEqDiff, ↓reduceIte, reduceCtorEq, Nat.reduceAdd, Nat.reduceSub, Nat.reduceMul, Nat.reduceLeDiff, Nat.reduceBEq, Nat.reduceLT, if_true, if_false, beq_self_eq_true, BEq.rfl, ne_eq]
    (try simp only [WN.down, Nat.reduceAdd, if_true, if_false, ↓reduceIte] at hP)
    (try simp only [WN.down, Nat.reduceAdd, if_true, if_false, ↓reduceIte])
    exact hP
  obtain ⟨x1, e3, h⟩ := bindE h
  refine w_sreg (w_abs [(0, .str a0), (1, .int .i64 a1), (6, .int .i64 x1.1), (7, .int .i64 x1.2)] (fun P hP => ?_) ?_)
  · simp only [W0.down, Nat.reduceEqDiff, ↓reduceIte, reduceCtorEq, Nat.reduceAdd, Nat.reduceSub, Nat.reduceMul, Nat.reduceLeDiff, Nat.reduceBEq, Nat.reduceLT, if_true, if_false, beq_self_eq_true, BEq.rfl, ne_eq]
    refine w_call0 (ok_impl_ImageKind a0 _ e3) rfl rfl rfl rfl (.inl (by rfl)) ?_
    simp only [W0.down, Nat.reduceEqDiff, ↓reduceIte, reduceCtorEq, Nat.reduceAdd, Nat.reduceSub, Nat.reduceMul, Nat.reduceLeDiff, Nat.reduceBEq, Nat.reduceLT, if_true, if_false, beq_self_eq_true, BEq.rfl, ne_eq]
    (try simp only [WN.down, Nat.reduceAdd, if_true, if_false, ↓reduceIte] at hP)
    (try simp only [WN.down, Nat.reduceAdd, if_true, if_false, ↓reduceIte])
    exact hP
  refine w_seq (fun Q4 n4 q4 x4 => ?_)
  refine w_blk (fun Q5 n5 q5 b5 x5 => ?_)
  refine w_sreg (w_abs [(0, .str a0), (1, .int .i64 a1), (6, .int .i64 x1.1), (7, .int .i64 x1.2), (13, .bool (x1.2 != 0))] (fun P hP => ?_) ?_)
  · simp only [W0.down, Nat.reduceEqDiff, ↓reduceIte, reduceCtorEq, Nat.reduceAdd, Nat.reduceSub, Nat.reduceMul, Nat.reduceLeDiff, Nat.reduceBEq, Nat.reduceLT, if_true, if_false, beq_self_eq_true, BEq.rfl, ne_eq]
    (try simp only [WN.down, Nat.reduceAdd, if_true, if_false, ↓reduceIte] at hP)
    (try simp only [WN.down, Nat.reduceAdd, if_true, if_false, ↓reduceIte])
    exact hP
  rcases condE h with ⟨b7, h⟩ | ⟨b7, h⟩
  · refine w_ct (congrArg AV.bool b7) ?_
    simp only [b7, Bool.not_true, Bool.not_false]
    refine w_sreg (w_abs [(4, .nilp), (5, .int .i64 x1.2)] (fun P hP => ?_) ?_)
    · simp only [W0.down, Nat.reduceEqDiff, ↓reduceIte, reduceCtorEq, Nat.reduceAdd, Nat.reduceSub, Nat.reduceMul, Nat.reduceLeDiff, Nat.reduceBEq, Nat.reduceLT, if_true, if_false, beq_self_eq_true, BEq.rfl, ne_eq]
      (try simp only [WN.down, Nat.reduceAdd, if_true, if_false, ↓reduceIte] at hP)
      (try simp only [WN.down, Nat.reduceAdd, if_true, if_false, ↓reduceIte])
      exact hP
    exact w_ret (q5 _ (q4 _ (r0 _ (.inl (w_fin [.nilp, .int .i64 x1.2] rfl (by cases someE h; rfl) (by decide) outs_nil)))))
  · refine w_cf (congrArg AV.bool b7) ?_
    simp only [b7, Bool.not_true, Bool.not_false]
    refine w_sreg (w_abs [(0, .str a0), (17, .bool (x1.1 != a1))] (fun P hP => ?_) ?_)
    · simp only [W0.down, Nat.reduceEqDiff, ↓reduceIte, reduceCtorEq, Nat.reduceAdd, Nat.reduceSub, Nat.reduceMul, Nat.reduceLeDiff, Nat.reduceBEq, Nat.reduceLT, if_true, if_false, beq_self_eq_true, BEq.rfl, ne_eq]
      (try simp only [WN.down, Nat.reduceAdd, if_true, if_false, ↓reduceIte] at hP)
      (try simp only [WN.down, Nat.reduceAdd, if_true, if_false, ↓reduceIte])
      exact hP
    rcases condE h with ⟨b10, h⟩ | ⟨b10, h⟩
    · refine w_ct (congrArg AV.bool b10) ?_
      simp only [b10, Bool.not_true, Bool.not_false]
      refine w_sreg (w_abs [(4, .nilp), (5, .int .i64 6)] (fun P hP => ?_) ?_)
      · simp only [W0.down, Nat.reduceEqDiff, ↓reduceIte, reduceCtorEq, Nat.reduceAdd, Nat.reduceSub, Nat.reduceMul, Nat.reduceLeDiff, Nat.reduceBEq, Nat.reduceLT, if_true, if_false, beq_self_eq_true, BEq.rfl, ne_eq]
        (try simp only [WN.down, Nat.reduceAdd, if_true, if_false, ↓reduceIte] at hP)
        (try simp only [WN.down, Nat.reduceAdd, if_true, if_false, ↓reduceIte])
        exact hP
      exact w_ret (q5 _ (q4 _ (r0 _ (.inl (w_fin [.nilp, .int .i64 6] rfl (by cases someE h; rfl) (by decide) outs_nil)))))
    · refine w_cf (congrArg AV.bool b10) ?_
      simp only [b10, Bool.not_true, Bool.not_false]
      refine w_skip (n5 _ (n4 _ (.inl ?_)))
      obtain ⟨x2, e13, h⟩ := bindE h
      refine w_sreg (w_abs [(4, .ubox (.agg [.str x2, .bool false])), (5, .int .i64 0)] (fun P hP => ?_) ?_)
      · simp only [W0.down, Nat.reduceEqDiff, ↓reduceIte, reduceCtorEq, Nat.reduceAdd, Nat.reduceSub, Nat.reduceMul, Nat.reduceLeDiff, Nat.reduceBEq, Nat.reduceLT, if_true, if_false, beq_self_eq_true, BEq.rfl, ne_eq, tt4, tt9, tt160, e13, (show ∀ s, bld Cc s 160 [(0, .str x2)] = some (.agg [.str x2, .bool false], s) from fun s => by kernel_rfl)]
        (try simp only [WN.down, Nat.reduceAdd, if_true, if_false, ↓reduceIte, tt4, tt9, tt160, e13, (show ∀ s, bld Cc s 160 [(0, .str x2)] = some (.agg [.str x2, .bool false], s) from fun s => by kernel_rfl)] at hP)
        (try simp only [WN.down, Nat.reduceAdd, if_true, if_false, ↓reduceIte, tt4, tt9, tt160, e13, (show ∀ s, bld Cc s 160 [(0, .str x2)] = some (.agg [.str x2, .bool false], s) from fun s => by kernel_rfl)])
        exact hP
      exact w_ret (r0 _ (.inl (w_fin [.ubox (.agg [.str x2, .bool false]), .int .i64 0] rfl (by cases someE h; rfl) (by decide) outs_nil)))

theorem ok_impl_unpacker_byte  (a000 : List UInt8) (a001 : Bool) (r : Int × (List UInt8) × Bool) (h : impl_unpacker_byte  a000 a001 = some r) : OkAt Cc 204 [.ubox (.agg [.str a000, .bool a001])] (.int .i64 r.1) [.ubox (.agg [.str r.2.1, .bool r.2.2])] := by
  refine OkAt.of_wpQ (fx := [0]) Cc_ok Try.func204 rfl rfl s204 (Nat.le_of_ble_eq_true rfl) (fun Q0 r0 n0 => ?_)
  replace r0 : ∀ s, onW (Fw.Ends Cc [0] [.tmp 2] (.int .i64 r.1) [.ubox (.agg [.str r.2.1, .bool r.2.2])]) s → Q0 .ret s := r0
  replace n0 : ∀ s, onW (Fw.Ends Cc [0] [.tmp 2] (.int .i64 r.1) [.ubox (.agg [.str r.2.1, .bool r.2.2])]) s → Q0 .normal s := n0
  show wpC Cc c204 Q0 (stA [(0, .ubox (.agg [.str a000, .bool a001]))])
  refine w_sreg (w_abs [(0, .ubox (.agg [.str a000, .bool a001]))] (fun P hP => ?_) ?_)
  · simp only [W0.down, Nat.reduceEqDiff, ↓reduceIte, reduceCtorEq, Nat.reduceAdd, Nat.reduceSub, Nat.reduceMul, Nat.reduceLeDiff, Nat.reduceBEq, Nat.reduceLT, if_true, if_false, beq_self_eq_true, BEq.rfl, ne_eq]
    (try simp only [WN.down, Nat.reduceAdd, if_true, if_false, ↓reduceIte] at hP)
    (try simp only [WN.down, Nat.reduceAdd, if_true, if_false, ↓reduceIte])
    exact hP
  refine w_seq (fun Q2 n2 q2 x2 => ?_)
  refine w_sreg (w_abs [(0, .ubox (.agg [.str a000, .bool a001])), (8, .bool (a000 == ([] : List UInt8)))] (fun P hP => ?_) ?_)
  · simp only [W0.down, Nat.reduceEqDiff, ↓reduceIte, reduceCtorEq, Nat.reduceAdd, Nat.reduceSub, Nat.reduceMul, Nat.reduceLeDiff, Nat.reduceBEq, Nat.reduceLT, if_true, if_false, beq_self_eq_true, BEq.rfl, ne_eq, tt4, tt9, tt160]
    (try simp only [WN.down, Nat.reduceAdd, if_true, if_false, ↓reduceIte, tt4, tt9, tt160] at hP)
    (try simp only [WN.down, Nat.reduceAdd, if_true, if_false, ↓reduceIte, tt4, tt9, tt160])
    exact hP
  rcases condE h with ⟨b4, h⟩ | ⟨b4, h⟩
  · refine w_ct (congrArg AV.bool b4) ?_
    simp only [b4, Bool.not_true, Bool.not_false]
    refine w_sreg (w_abs [(0, .ubox (.agg [.str a000, .bool true]))] (fun P hP => ?_) ?_)
    · simp only [W0.down, Nat.reduceEqDiff, ↓reduceIte, reduceCtorEq, Nat.reduceAdd, Nat.reduceSub, Nat.reduceMul, Nat.reduceLeDiff, Nat.reduceBEq, Nat.reduceLT, if_true, if_false, beq_self_eq_true, BEq.rfl, ne_eq, tt4, tt9, tt160]
      (try simp only [WN.down, Nat.reduceAdd, if_true, if_false, ↓reduceIte, tt4, tt9, tt160] at hP)
      (try simp only [WN.down, Nat.reduceAdd, if_true, if_false, ↓reduceIte, tt4, tt9, tt160])
      exact hP
    refine w_sreg (w_abs [(0, .ubox (.agg [.str a000, .bool true])), (2, .int .i64 0)] (fun P hP => ?_) ?_)
    · simp only [W0.down, Nat.reduceEqDiff, ↓reduceIte, reduceCtorEq, Nat.reduceAdd, Nat.reduceSub, Nat.reduceMul, Nat.reduceLeDiff, Nat.reduceBEq, Nat.reduceLT, if_true, if_false, beq_self_eq_true, BEq.rfl, ne_eq]
      (try simp only [WN.down, Nat.reduceAdd, if_true, if_false, ↓reduceIte] at hP)
      (try simp only [WN.down, Nat.reduceAdd, if_true, if_false, ↓reduceIte])
      exact hP
    exact w_ret (q2 _ (r0 _ (.inl (w_fin [.int .i64 0] rfl (by cases someE h; rfl) (by decide) (outs_of (out_is (by cases someE h; rfl) rfl rfl rfl (out_end)))))))
  · refine w_cf (congrArg AV.bool b4) ?_
    simp only [b4, Bool.not_true, Bool.not_false]
    refine w_skip (n2 _ (.inl ?_))
    obtain ⟨x1, e8, h⟩ := bindE h
    refine w_sreg (w_abs [(0, .ubox (.agg [.str a000, .bool a001])), (3, .int .u8 (x1.toNat : Int))] (fun P hP => ?_) ?_)
    · simp only [W0.down, Nat.reduceEqDiff, ↓reduceIte, reduceCtorEq, Nat.reduceAdd, Nat.reduceSub, Nat.reduceMul, Nat.reduceLeDiff, Nat.reduceBEq, Nat.reduceLT, if_true, if_false, beq_self_eq_true, BEq.rfl, ne_eq, tt4, tt9, tt160, e8]
      (try simp only [WN.down, Nat.reduceAdd, if_true, if_false, ↓reduceIte, tt4, tt9, tt160, e8] at hP)
      (try simp only [WN.down, Nat.reduceAdd, if_true, if_false, ↓reduceIte, tt4, tt9, tt160, e8])
      exact hP
    obtain ⟨x2, e10, h⟩ := bindE h
    refine w_sreg (w_abs [(0, .ubox (.agg [.str x2, .bool a001])), (3, .int .u8 (x1.toNat : Int))] (fun P hP => ?_) ?_)
    · simp only [W0.down, Nat.reduceEqDiff, ↓reduceIte, reduceCtorEq, Nat.reduceAdd, Nat.reduceSub, Nat.reduceMul, Nat.reduceLeDiff, Nat.reduceBEq, Nat.reduceLT, if_true, if_false, beq_self_eq_true, BEq.rfl, ne_eq, tt4, tt9, tt160, e10]
      (try simp only [WN.down, Nat.reduceAdd, if_true, if_false, ↓reduceIte, tt4, tt9, tt160, e10] at hP)
      (try simp only [WN.down, Nat.reduceAdd, if_true, if_false, ↓reduceIte, tt4, tt9, tt160, e10])
      exact hP
    refine w_sreg (w_abs [(0, .ubox (.agg [.str x2, .bool a001])), (2, .int .i64 (x1.toNat : Int))] (fun P hP => ?_) ?_)
    · simp only [W0.down, Nat.reduceEqDiff, ↓reduceIte, reduceCtorEq, Nat.reduceAdd, Nat.reduceSub, Nat.reduceMul, Nat.reduceLeDiff, Nat.reduceBEq, Nat.reduceLT, if_true, if_false, beq_self_eq_true, BEq.rfl, ne_eq, @cvt_i' Cc 5 2 .i64 rfl rfl]
      (try simp only [WN.down, Nat.reduceAdd, if_true, if_false, ↓reduceIte, @cvt_i' Cc 5 2 .i64 rfl rfl] at hP)
      (try simp only [WN.down, Nat.reduceAdd, if_true, if_false, ↓reduceIte, @cvt_i' Cc 5 2 .i64 rfl rfl])
      exact hP
    exact w_ret (r0 _ (.inl (w_fin [.int .i64 (x1.toNat : Int)] rfl (by cases someE h; rfl) (by decide) (outs_of (out_is (by cases someE h; rfl) rfl rfl rfl (out_end))))))

theorem ok_impl_unpacker_number  (a000 : List UInt8) (a001 : Bool) (r : Int × (List UInt8) × Bool) (h : impl_unpacker_number  a000 a001 = some r) : OkAt Cc 122 [.ubox (.agg [.str a000, .bool a001])] (.int .i64 r.1) [.ubox (.agg [.str r.2.1, .bool r.2.2])] := by
  refine OkAt.of_wpQ (fx := [0]) Cc_ok Try.func122 rfl rfl s122 (Nat.le_of_ble_eq_true rfl) (fun Q0 r0 n0 => ?_)
  replace r0 : ∀ s, onW (Fw.Ends Cc [0] [.tmp 2] (.int .i64 r.1) [.ubox (.agg [.str r.2.1, .bool r.2.2])]) s → Q0 .ret s := r0
  replace n0 : ∀ s, onW (Fw.Ends Cc [0] [.tmp 2] (.int .i64 r.1) [.ubox (.agg [.str r.2.1, .bool r.2.2])]) s → Q0 .normal s := n0
  show wpC Cc c122 Q0 (stA [(0, .ubox (.agg [.str a000, .bool a001]))])
  refine w_sreg (w_abs [(0, .ubox (.agg [.str a000, .bool a001]))] (fun P hP => ?_) ?_)
  · simp only [W0.down, Nat.reduceEqDiff, ↓reduceIte, reduceCtorEq, Nat.reduceAdd, Nat.reduceSub, Nat.reduceMul, Nat.reduceLeDiff, Nat.reduceBEq, Nat.reduceLT, if_true, if_false, beq_self_eq_true, BEq.rfl, ne_eq]
    (try simp only [WN.down, Nat.reduceAdd, if_true, if_false, ↓reduceIte] at hP)
    (try simp only [WN.down, Nat.reduceAdd, if_true, if_false, ↓reduceIte])
    exact hP
  refine w_sreg (w_abs [(0, .ubox (.agg [.str a000, .bool a001])), (3, .int .i64 0), (4, .int .i64 1)] (fun P hP => ?_) ?_)
  · simp only [W0.down, Nat.reduceEqDiff, ↓reduceIte, reduceCtorEq, Nat.reduceAdd, Nat.reduceSub, Nat.reduceMul, Nat.reduceLeDiff, Nat.reduceBEq, Nat.reduceLT, if_true, if_false, beq_self_eq_true, BEq.rfl, ne_eq]
    (try simp only [WN.down, Nat.reduceAdd, if_true, if_false, ↓reduceIte] at hP)
    (try simp only [WN.down, Nat.reduceAdd, if_true, if_false, ↓reduceIte])
    exact hP
  refine w_seq (fun Q3 n3 q3 x3 => ?_)
  refine w_sreg (w_abs [(0, .ubox (.agg [.str a000, .bool a001])), (3, .int .i64 0), (4, .int .i64 1), (6, .int .i64 0)] (fun P hP => ?_) ?_)
  · simp only [W0.down, Nat.reduceEqDiff, ↓reduceIte, reduceCtorEq, Nat.reduceAdd, Nat.reduceSub, Nat.reduceMul, Nat.reduceLeDiff, Nat.reduceBEq, Nat.reduceLT, if_true, if_false, beq_self_eq_true, BEq.rfl, ne_eq]
    (try simp only [WN.down, Nat.reduceAdd, if_true, if_false, ↓reduceIte] at hP)
    (try simp only [WN.down, Nat.reduceAdd, if_true, if_false, ↓reduceIte])
    exact hP
  refine w_blk (fun Q5 n5 q5 b5 x5 => ?_)
  have L8 : ∀ (n : Nat) (v0_8 : List UInt8) (v0a_8 : Bool) (v3_8 : Int) (v4_8 : Int) (v6_8 : Int), impl_unpacker_number_l8 n v0_8 v0a_8 v3_8 v4_8 v6_8 = some r → lpC Cc c122_9 Q5 (stA [(0, .ubox (.agg [.str v0_8, .bool v0a_8])), (3, .int .i64 v3_8), (4, .int .i64 v4_8), (6, .int .i64 v6_8)]) := by
    intro m8
    induction m8 with
    | zero => intro v0_8 v0a_8 v3_8 v4_8 v6_8 h; cases (show none = some r from h)
    | succ m8 ih8 =>
      intro v0_8 v0a_8 v3_8 v4_8 v6_8 h
      replace h : impl_unpacker_number_b8 (impl_unpacker_number_l8 m8) v0_8 v0a_8 v3_8 v4_8 v6_8 = some r := h
      refine lpC_step (fun Q6 n6 q6 x6 => ?_)
      refine w_sreg (w_abs [(0, .ubox (.agg [.str v0_8, .bool v0a_8])), (3, .int .i64 v3_8), (4, .int .i64 v4_8), (6, .int .i64 v6_8), (7, .bool (decide (v6_8 < 4)))] (fun P hP => ?_) ?_)
      · simp only [W0.down, Nat.reduceEqDiff, ↓reduceIte, reduceCtorEq, Nat.reduceAdd, Nat.reduceSub, Nat.reduceMul, Nat.reduceLeDiff, Nat.reduceBEq, Nat.reduceLT, if_true, if_false, beq_self_eq_true, BEq.rfl, ne_eq]
        (try simp only [WN.down, Nat.reduceAdd, if_true, if_false, ↓reduceIte] at hP)
        (try simp only [WN.down, Nat.reduceAdd, if_true, if_false, ↓reduceIte])
        exact hP
      refine w_seq (fun Q8 n8 q8 x8 => ?_)
      rcases condE h with ⟨b9, h⟩ | ⟨b9, h⟩
      · refine w_ct (congrArg AV.bool b9) ?_
        simp only [b9, Bool.not_true, Bool.not_false]
        refine w_skip (n8 _ (.inl ?_))
        refine w_seq (fun Q10 n10 q10 x10 => ?_)
        refine w_blk (fun Q11 n11 q11 b11 x11 => ?_)
        obtain ⟨x1, e13, h⟩ := bindE h
        refine w_sreg (w_abs [(0, .ubox (.agg [.str x1.2.1, .bool x1.2.2])), (3, .int .i64 v3_8), (4, .int .i64 v4_8), (5, .int .i64 x1.1), (6, .int .i64 v6_8)] (fun P hP => ?_) ?_)
        · simp only [W0.down, Nat.reduceEqDiff, ↓reduceIte, reduceCtorEq, Nat.reduceAdd, Nat.reduceSub, Nat.reduceMul, Nat.reduceLeDiff, Nat.reduceBEq, Nat.reduceLT, if_true, if_false, beq_self_eq_true, BEq.rfl, ne_eq]
          refine w_callp0 [⟨.h 0 [], true, _, _⟩] (ok_impl_unpacker_byte v0_8 v0a_8 _ e13) rfl rfl rfl (by simp only [W0.down, Nat.reduceEqDiff, ↓reduceIte, reduceCtorEq, Nat.reduceAdd, Nat.reduceSub, Nat.reduceMul, Nat.reduceLeDiff, Nat.reduceBEq, Nat.reduceLT, if_true, if_false, beq_self_eq_true, BEq.rfl, ne_eq, c_nrm, okp_s, own_r, view_s, view_h, viewH_s, share_s, or_true, true_or]) rfl rfl (.inl rfl) ?_
          simp only [W0.down, Nat.reduceEqDiff, ↓reduceIte, reduceCtorEq, Nat.reduceAdd, Nat.reduceSub, Nat.reduceMul, Nat.reduceLeDiff, Nat.reduceBEq, Nat.reduceLT, if_true, if_false, beq_self_eq_true, BEq.rfl, ne_eq, gv_s]
          (try simp only [WN.down, Nat.reduceAdd, if_true, if_false, ↓reduceIte] at hP)
          (try simp only [WN.down, Nat.reduceAdd, if_true, if_false, ↓reduceIte])
          exact hP
        refine w_sreg (w_abs [(0, .ubox (.agg [.str x1.2.1, .bool x1.2.2])), (3, .int .i64 (IntKind.i64.wrap (v3_8 + (IntKind.i64.wrap ((Int.tmod x1.1 128) * v4_8))))), (4, .int .i64 v4_8), (5, .int .i64 x1.1), (6, .int .i64 v6_8)] (fun P hP => ?_) ?_)
        · simp only [W0.down, Nat.reduceEqDiff, ↓reduceIte, reduceCtorEq, Nat.reduceAdd, Nat.reduceSub, Nat.reduceMul, Nat.reduceLeDiff, Nat.reduceBEq, Nat.reduceLT, if_true, if_false, beq_self_eq_true, BEq.rfl, ne_eq, @bnI_rem' .i64 128 (by decide)]
          (try simp only [WN.down, Nat.reduceAdd, if_true, if_false, ↓reduceIte, @bnI_rem' .i64 128 (by decide)] at hP)
          (try simp only [WN.down, Nat.reduceAdd, if_true, if_false, ↓reduceIte, @bnI_rem' .i64 128 (by decide)])
          exact hP
        refine w_seq (fun Q15 n15 q15 x15 => ?_)
        refine w_sreg (w_abs [(0, .ubox (.agg [.str x1.2.1, .bool x1.2.2])), (3, .int .i64 (IntKind.i64.wrap (v3_8 + (IntKind.i64.wrap ((Int.tmod x1.1 128) * v4_8))))), (4, .int .i64 v4_8), (6, .int .i64 v6_8), (17, .bool (decide (x1.1 < 128)))] (fun P hP => ?_) ?_)
        · simp only [W0.down, Nat.reduceEqDiff, ↓reduceIte, reduceCtorEq, Nat.reduceAdd, Nat.reduceSub, Nat.reduceMul, Nat.reduceLeDiff, Nat.reduceBEq, Nat.reduceLT, if_true, if_false, beq_self_eq_true, BEq.rfl, ne_eq]
          (try simp only [WN.down, Nat.reduceAdd, if_true, if_false, ↓reduceIte] at hP)
          (try simp only [WN.down, Nat.reduceAdd, if_true, if_false, ↓reduceIte])
          exact hP
        rcases condE h with ⟨b17, h⟩ | ⟨b17, h⟩
        · refine w_ct (congrArg AV.bool b17) ?_
          simp only [b17, Bool.not_true, Bool.not_false]
          refine w_sreg (w_abs [(0, .ubox (.agg [.str x1.2.1, .bool x1.2.2])), (2, .int .i64 (IntKind.i64.wrap (v3_8 + (IntKind.i64.wrap ((Int.tmod x1.1 128) * v4_8)))))] (fun P hP => ?_) ?_)
          · simp only [W0.down, Nat.reduceEqDiff, ↓reduceIte, reduceCtorEq, Nat.reduceAdd, Nat.reduceSub, Nat.reduceMul, Nat.reduceLeDiff, Nat.reduceBEq, Nat.reduceLT, if_true, if_false, beq_self_eq_true, BEq.rfl, ne_eq]
            (try simp only [WN.down, Nat.reduceAdd, if_true, if_false, ↓reduceIte] at hP)
            (try simp only [WN.down, Nat.reduceAdd, if_true, if_false, ↓reduceIte])
            exact hP
          exact w_ret (q15 _ (q11 _ (q10 _ (q6 _ (q5 _ (q3 _ (r0 _ (.inl (w_fin [.int .i64 (IntKind.i64.wrap (v3_8 + (IntKind.i64.wrap ((Int.tmod x1.1 128) * v4_8))))] rfl (by cases someE h; rfl) (by decide) (outs_of (out_is (by cases someE h; rfl) rfl rfl rfl (out_end))))))))))))
        · refine w_cf (congrArg AV.bool b17) ?_
          simp only [b17, Bool.not_true, Bool.not_false]
          refine w_skip (n15 _ (.inl ?_))
          refine w_reg (w_abs [(0, .ubox (.agg [.str x1.2.1, .bool x1.2.2])), (3, .int .i64 (IntKind.i64.wrap (v3_8 + (IntKind.i64.wrap ((Int.tmod x1.1 128) * v4_8))))), (4, .int .i64 (IntKind.i64.wrap (v4_8 * 128))), (6, .int .i64 v6_8)] (fun P hP => ?_) ?_)
          · simp only [W0.down, Nat.reduceEqDiff, ↓reduceIte, reduceCtorEq, Nat.reduceAdd, Nat.reduceSub, Nat.reduceMul, Nat.reduceLeDiff, Nat.reduceBEq, Nat.reduceLT, if_true, if_false, beq_self_eq_true, BEq.rfl, ne_eq]
            (try simp only [WN.down, Nat.reduceAdd, if_true, if_false, ↓reduceIte] at hP)
            (try simp only [WN.down, Nat.reduceAdd, if_true, if_false, ↓reduceIte])
            exact hP
          refine n11 _ (n10 _ (.inl ?_))
          refine w_reg (w_abs [(0, .ubox (.agg [.str x1.2.1, .bool x1.2.2])), (3, .int .i64 (IntKind.i64.wrap (v3_8 + (IntKind.i64.wrap ((Int.tmod x1.1 128) * v4_8))))), (4, .int .i64 (IntKind.i64.wrap (v4_8 * 128))), (6, .int .i64 (IntKind.i64.wrap (v6_8 + 1)))] (fun P hP => ?_) ?_)
          · simp only [W0.down, Nat.reduceEqDiff, ↓reduceIte, reduceCtorEq, Nat.reduceAdd, Nat.reduceSub, Nat.reduceMul, Nat.reduceLeDiff, Nat.reduceBEq, Nat.reduceLT, if_true, if_false, beq_self_eq_true, BEq.rfl, ne_eq]
            (try simp only [WN.down, Nat.reduceAdd, if_true, if_false, ↓reduceIte] at hP)
            (try simp only [WN.down, Nat.reduceAdd, if_true, if_false, ↓reduceIte])
            exact hP
          exact n6 _ (.inr ⟨_, weak_eq rfl, ih8 x1.2.1 x1.2.2 (IntKind.i64.wrap (v3_8 + (IntKind.i64.wrap ((Int.tmod x1.1 128) * v4_8)))) (IntKind.i64.wrap (v4_8 * 128)) (IntKind.i64.wrap (v6_8 + 1)) h⟩)
      · refine w_cf (congrArg AV.bool b9) ?_
        simp only [b9, Bool.not_true, Bool.not_false]
        refine w_ex (x8 0 _ (x6 0 _ (b5 _ (n3 _ (.inl ?_)))))
        refine w_sreg (w_abs [(0, .ubox (.agg [.str v0_8, .bool true]))] (fun P hP => ?_) ?_)
        · simp only [W0.down, Nat.reduceEqDiff, ↓reduceIte, reduceCtorEq, Nat.reduceAdd, Nat.reduceSub, Nat.reduceMul, Nat.reduceLeDiff, Nat.reduceBEq, Nat.reduceLT, if_true, if_false, beq_self_eq_true, BEq.rfl, ne_eq, tt4, tt9, tt160]
          (try simp only [WN.down, Nat.reduceAdd, if_true, if_false, ↓reduceIte, tt4, tt9, tt160] at hP)
          (try simp only [WN.down, Nat.reduceAdd, if_true, if_false, ↓reduceIte, tt4, tt9, tt160])
          exact hP
        refine w_sreg (w_abs [(0, .ubox (.agg [.str v0_8, .bool true])), (2, .int .i64 0)] (fun P hP => ?_) ?_)
        · simp only [W0.down, Nat.reduceEqDiff, ↓reduceIte, reduceCtorEq, Nat.reduceAdd, Nat.reduceSub, Nat.reduceMul, Nat.reduceLeDiff, Nat.reduceBEq, Nat.reduceLT, if_true, if_false, beq_self_eq_true, BEq.rfl, ne_eq]
          (try simp only [WN.down, Nat.reduceAdd, if_true, if_false, ↓reduceIte] at hP)
          (try simp only [WN.down, Nat.reduceAdd, if_true, if_false, ↓reduceIte])
          exact hP
        exact w_ret (r0 _ (.inl (w_fin [.int .i64 0] rfl (by cases someE h; rfl) (by decide) (outs_of (out_is (by cases someE h; rfl) rfl rfl rfl (out_end))))))
  obtain ⟨n, h⟩ := limE h
  exact w_loop (.inr ⟨_, weak_eq rfl, L8 n a000 a001 0 1 0 h⟩)

theorem ok_impl_unpacker_numbers  (a000 : List UInt8) (a001 : Bool) (a1 : Int) (r : (List Int) × (List UInt8) × Bool) (h : impl_unpacker_numbers  a000 a001 a1 = some r) : OkAt Cc 123 [.ubox (.agg [.str a000, .bool a001]), .int .i64 a1] (.uslice 1 (r.1.map e_i64)) [.ubox (.agg [.str r.2.1, .bool r.2.2]), .hole] := by
  refine OkAt.of_wpQ (fx := [0, 1]) Cc_ok Try.func123 rfl rfl s123 (Nat.le_of_ble_eq_true rfl) (fun Q0 r0 n0 => ?_)
  replace r0 : ∀ s, onW (Fw.Ends Cc [0, 1] [.tmp 4] (.uslice 1 (r.1.map e_i64)) [.ubox (.agg [.str r.2.1, .bool r.2.2]), .hole]) s → Q0 .ret s := r0
  replace n0 : ∀ s, onW (Fw.Ends Cc [0, 1] [.tmp 4] (.uslice 1 (r.1.map e_i64)) [.ubox (.agg [.str r.2.1, .bool r.2.2]), .hole]) s → Q0 .normal s := n0
  show wpC Cc c123 Q0 (stA [(0, .ubox (.agg [.str a000, .bool a001])), (1, .int .i64 a1)])
  refine w_sreg (w_abs [(0, .ubox (.agg [.str a000, .bool a001])), (1, .int .i64 a1)] (fun P hP => ?_) ?_)
  · simp only [W0.down, Nat.reduceEqDiff, ↓reduceIte, reduceCtorEq, Nat.reduceAdd, Nat.reduceSub, Nat.reduceMul, Nat.reduceLeDiff, Nat.reduceBEq, Nat.reduceLT, if_true, if_false, beq_self_eq_true, BEq.rfl, ne_eq]
    (try simp only [WN.down, Nat.reduceAdd, if_true, if_false, ↓reduceIte] at hP)
    (try simp only [WN.down, Nat.reduceAdd, if_true, if_false, ↓reduceIte])
    exact hP
  refine w_sreg (w_abs [(0, .ubox (.agg [.str a000, .bool a001])), (1, .int .i64 a1), (5, .nils)] (fun P hP => ?_) ?_)
  · simp only [W0.down, Nat.reduceEqDiff, ↓reduceIte, reduceCtorEq, Nat.reduceAdd, Nat.reduceSub, Nat.reduceMul, Nat.reduceLeDiff, Nat.reduceBEq, Nat.reduceLT, if_true, if_false, beq_self_eq_true, BEq.rfl, ne_eq]
    (try simp only [WN.down, Nat.reduceAdd, if_true, if_false, ↓reduceIte] at hP)
    (try simp only [WN.down, Nat.reduceAdd, if_true, if_false, ↓reduceIte])
    exact hP
  refine w_seq (fun Q3 n3 q3 x3 => ?_)
  refine w_sreg (w_abs [(0, .ubox (.agg [.str a000, .bool a001])), (1, .int .i64 a1), (5, .nils), (6, .int .i64 0)] (fun P hP => ?_) ?_)
  · simp only [W0.down, Nat.reduceEqDiff, ↓reduceIte, reduceCtorEq, Nat.reduceAdd, Nat.reduceSub, Nat.reduceMul, Nat.reduceLeDiff, Nat.reduceBEq, Nat.reduceLT, if_true, if_false, beq_self_eq_true, BEq.rfl, ne_eq]
    (try simp only [WN.down, Nat.reduceAdd, if_true, if_false, ↓reduceIte] at hP)
    (try simp only [WN.down, Nat.reduceAdd, if_true, if_false, ↓reduceIte])
    exact hP
  refine w_blk (fun Q5 n5 q5 b5 x5 => ?_)
  have L8 : ∀ (n : Nat) (v0_8 : List UInt8) (v0a_8 : Bool) (v5_8 : List Int) (v6_8 : Int), impl_unpacker_numbers_l8 a1 n v0_8 v0a_8 v5_8 v6_8 = some r → lpC Cc c123_9 Q5 (stA [(0, .ubox (.agg [.str v0_8, .bool v0a_8])), (1, .int .i64 a1), (5, .uslice 1 (v5_8.map e_i64)), (6, .int .i64 v6_8)]) := by
    intro m8
    induction m8 with
    | zero => intro v0_8 v0a_8 v5_8 v6_8 h; cases (show none = some r from h)
    | succ m8 ih8 =>
      intro v0_8 v0a_8 v5_8 v6_8 h
      replace h : impl_unpacker_numbers_b8 (impl_unpacker_numbers_l8 a1 m8) a1 v0_8 v0a_8 v5_8 v6_8 = some r := h
      refine lpC_step (fun Q6 n6 q6 x6 => ?_)
      refine w_seq (fun Q7 n7 q7 x7 => ?_)
      refine w_sreg (w_abs [(0, .ubox (.agg [.str v0_8, .bool v0a_8])), (1, .int .i64 a1), (5, .uslice 1 (v5_8.map e_i64)), (6, .int .i64 v6_8), (16, .bool ((decide (v6_8 < a1)) && (!v0a_8)))] (fun P hP => ?_) ?_)
      · rcases Bool.eq_false_or_eq_true ((decide (v6_8 < a1))) with s9 | s9
        · simp only [W0.down, Nat.reduceEqDiff, ↓reduceIte, reduceCtorEq, Nat.reduceAdd, Nat.reduceSub, Nat.reduceMul, Nat.reduceLeDiff, Nat.reduceBEq, Nat.reduceLT, if_true, if_false, beq_self_eq_true, BEq.rfl, ne_eq, tt4, tt9, tt160, e_i64, s9]
          (try simp only [WN.down, Nat.reduceAdd, if_true, if_false, ↓reduceIte, tt4, tt9, tt160, e_i64, s9] at hP)
          (try simp only [WN.down, Nat.reduceAdd, if_true, if_false, ↓reduceIte, tt4, tt9, tt160, e_i64, s9])
          exact hP
        · simp only [W0.down, Nat.reduceEqDiff, ↓reduceIte, reduceCtorEq, Nat.reduceAdd, Nat.reduceSub, Nat.reduceMul, Nat.reduceLeDiff, Nat.reduceBEq, Nat.reduceLT, if_true, if_false, beq_self_eq_true, BEq.rfl, ne_eq, tt4, tt9, tt160, e_i64, s9]
          (try simp only [WN.down, Nat.reduceAdd, if_true, if_false, ↓reduceIte, tt4, tt9, tt160, e_i64, s9] at hP)
          (try simp only [WN.down, Nat.reduceAdd, if_true, if_false, ↓reduceIte, tt4, tt9, tt160, e_i64, s9])
          exact hP
      rcases condE h with ⟨b10, h⟩ | ⟨b10, h⟩
      · refine w_ct (congrArg AV.bool b10) ?_
        simp only [b10, Bool.not_true, Bool.not_false]
        refine w_skip (n7 _ (.inl ?_))
        refine w_seq (fun Q11 n11 q11 x11 => ?_)
        refine w_blk (fun Q12 n12 q12 b12 x12 => ?_)
        obtain ⟨x1, e14, h⟩ := bindE h
        obtain ⟨u16, e15, h⟩ := bindE h
        (try simp only [List.length_append, List.length_cons, List.length_nil, List.length_map, List.length_replicate, Nat.zero_add, Nat.add_zero, Nat.reduceAdd] at e15)
        refine w_reg (w_abs [(0, .ubox (.agg [.str x1.2.1, .bool x1.2.2])), (1, .int .i64 a1), (5, .uslice 1 ((v5_8 ++ [x1.1]).map e_i64)), (6, .int .i64 v6_8)] (fun P hP => ?_) ?_)
        · simp only [W0.down, Nat.reduceEqDiff, ↓reduceIte, reduceCtorEq, Nat.reduceAdd, Nat.reduceSub, Nat.reduceMul, Nat.reduceLeDiff, Nat.reduceBEq, Nat.reduceLT, if_true, if_false, beq_self_eq_true, BEq.rfl, ne_eq, tt2, tt68, e_i64, (show ∀ s, bsl Cc s 68 1 [(0, .int .i64 x1.1)] = some (.uslice 1 [.int .i64 x1.1], s) from fun s => by kernel_rfl), @apd_s Cc 68 68 2 rfl rfl, ap_s, ap2_s, ap3_s, all_cons, all_nil, e15, @all_wd' _ e_i64 1 (fun _ => rfl)]
          refine w_callp0 [⟨.h 0 [], true, _, _⟩] (ok_impl_unpacker_number v0_8 v0a_8 _ e14) rfl rfl rfl (by simp only [W0.down, Nat.reduceEqDiff, ↓reduceIte, reduceCtorEq, Nat.reduceAdd, Nat.reduceSub, Nat.reduceMul, Nat.reduceLeDiff, Nat.reduceBEq, Nat.reduceLT, if_true, if_false, beq_self_eq_true, BEq.rfl, ne_eq, tt2, tt68, e_i64, (show ∀ s, bsl Cc s 68 1 [(0, .int .i64 x1.1)] = some (.uslice 1 [.int .i64 x1.1], s) from fun s => by kernel_rfl), @apd_s Cc 68 68 2 rfl rfl, ap_s, ap2_s, ap3_s, all_cons, all_nil, e15, @all_wd' _ e_i64 1 (fun _ => rfl), c_nrm, okp_s, own_r, view_s, view_h, viewH_s, share_s, or_true, true_or]) rfl rfl (.inl rfl) ?_
          simp only [W0.down, Nat.reduceEqDiff, ↓reduceIte, reduceCtorEq, Nat.reduceAdd, Nat.reduceSub, Nat.reduceMul, Nat.reduceLeDiff, Nat.reduceBEq, Nat.reduceLT, if_true, if_false, beq_self_eq_true, BEq.rfl, ne_eq, tt2, tt68, e_i64, (show ∀ s, bsl Cc s 68 1 [(0, .int .i64 x1.1)] = some (.uslice 1 [.int .i64 x1.1], s) from fun s => by kernel_rfl), @apd_s Cc 68 68 2 rfl rfl, ap_s, ap2_s, ap3_s, all_cons, all_nil, e15, @all_wd' _ e_i64 1 (fun _ => rfl), gv_s]
          (try simp only [WN.down, Nat.reduceAdd, if_true, if_false, ↓reduceIte, tt2, tt68, e_i64, (show ∀ s, bsl Cc s 68 1 [(0, .int .i64 x1.1)] = some (.uslice 1 [.int .i64 x1.1], s) from fun s => by kernel_rfl), @apd_s Cc 68 68 2 rfl rfl, ap_s, ap2_s, ap3_s, all_cons, all_nil, e15, @all_wd' _ e_i64 1 (fun _ => rfl)] at hP)
          (try simp only [WN.down, Nat.reduceAdd, if_true, if_false, ↓reduceIte, tt2, tt68, e_i64, (show ∀ s, bsl Cc s 68 1 [(0, .int .i64 x1.1)] = some (.uslice 1 [.int .i64 x1.1], s) from fun s => by kernel_rfl), @apd_s Cc 68 68 2 rfl rfl, ap_s, ap2_s, ap3_s, all_cons, all_nil, e15, @all_wd' _ e_i64 1 (fun _ => rfl)])
          exact hP
        refine n12 _ (n11 _ (.inl ?_))
        refine w_reg (w_abs [(0, .ubox (.agg [.str x1.2.1, .bool x1.2.2])), (1, .int .i64 a1), (5, .uslice 1 ((v5_8 ++ [x1.1]).map e_i64)), (6, .int .i64 (IntKind.i64.wrap (v6_8 + 1)))] (fun P hP => ?_) ?_)
        · simp only [W0.down, Nat.reduceEqDiff, ↓reduceIte, reduceCtorEq, Nat.reduceAdd, Nat.reduceSub, Nat.reduceMul, Nat.reduceLeDiff, Nat.reduceBEq, Nat.reduceLT, if_true, if_false, beq_self_eq_true, BEq.rfl, ne_eq, e_i64]
          (try simp only [WN.down, Nat.reduceAdd, if_true, if_false, ↓reduceIte, e_i64] at hP)
          (try simp only [WN.down, Nat.reduceAdd, if_true, if_false, ↓reduceIte, e_i64])
          exact hP
        exact n6 _ (.inr ⟨_, weak_eq rfl, ih8 x1.2.1 x1.2.2 (v5_8 ++ [x1.1]) (IntKind.i64.wrap (v6_8 + 1)) h⟩)
      · refine w_cf (congrArg AV.bool b10) ?_
        simp only [b10, Bool.not_true, Bool.not_false]
        refine w_ex (x7 0 _ (x6 0 _ (b5 _ (n3 _ (.inl ?_)))))
        refine w_sreg (w_abs [(0, .ubox (.agg [.str v0_8, .bool v0a_8])), (4, .uslice 1 (v5_8.map e_i64))] (fun P hP => ?_) ?_)
        · simp only [W0.down, Nat.reduceEqDiff, ↓reduceIte, reduceCtorEq, Nat.reduceAdd, Nat.reduceSub, Nat.reduceMul, Nat.reduceLeDiff, Nat.reduceBEq, Nat.reduceLT, if_true, if_false, beq_self_eq_true, BEq.rfl, ne_eq, e_i64]
          (try simp only [WN.down, Nat.reduceAdd, if_true, if_false, ↓reduceIte, e_i64] at hP)
          (try simp only [WN.down, Nat.reduceAdd, if_true, if_false, ↓reduceIte, e_i64])
          exact hP
        exact w_ret (r0 _ (.inl (w_fin [.uslice 1 (v5_8.map e_i64)] rfl (by cases someE h; rfl) (by decide) (outs_of (out_is (by cases someE h; rfl) rfl rfl rfl (out_no (out_end)))))))
  obtain ⟨n, h⟩ := limE h
  exact w_loop (.inr ⟨_, weak_mix [] rfl (wk_eq (t := 0) (d := .ubox (.agg [.str a000, .bool a001])) rfl (wk_eq (t := 1) (d := .int .i64 a1) rfl (wk_wd (t := 5) (d := .nils) (d' := .uslice 1 []) rfl rfl (.nilsU _) (by decide) (wk_eq (t := 6) (d := .int .i64 0) rfl (wk_nil))))), L8 n a000 a001 [] 0 h⟩)

theorem ok_impl_equationBlocks  (a0 : List impl_Equation) (r : (List Int)) (h : impl_equationBlocks  a0 = some r) : OkAt Cc 266 [.slice (a0.map e_impl_Equation)] (.uslice 1 (r.map e_i64)) [] := by
  refine OkAt.of_wpQ (fx := [0]) Cc_ok Try.func266 rfl rfl s266 (Nat.le_of_ble_eq_true rfl) (fun Q0 r0 n0 => ?_)
  replace r0 : ∀ s, onW (Fw.Ends Cc [0] [.tmp 2] (.uslice 1 (r.map e_i64)) []) s → Q0 .ret s := r0
  replace n0 : ∀ s, onW (Fw.Ends Cc [0] [.tmp 2] (.uslice 1 (r.map e_i64)) []) s → Q0 .normal s := n0
  show wpC Cc c266 Q0 (stA [(0, .slice (a0.map e_impl_Equation))])
  refine w_sreg (w_abs [(0, .slice (a0.map e_impl_Equation))] (fun P hP => ?_) ?_)
  · simp only [W0.down, Nat.reduceEqDiff, ↓reduceIte, reduceCtorEq, Nat.reduceAdd, Nat.reduceSub, Nat.reduceMul, Nat.reduceLeDiff, Nat.reduceBEq, Nat.reduceLT, if_true, if_false, beq_self_eq_true, BEq.rfl, ne_eq, e_i64, e_impl_Equation]
    (try simp only [WN.down, Nat.reduceAdd, if_true, if_false, ↓reduceIte, e_i64, e_impl_Equation] at hP)
    (try simp only [WN.down, Nat.reduceAdd, if_true, if_false, ↓reduceIte, e_i64, e_impl_Equation])
    exact hP
  refine w_sreg (w_abs [(0, .slice (a0.map e_impl_Equation)), (3, .nils)] (fun P hP => ?_) ?_)
  · simp only [W0.down, Nat.reduceEqDiff, ↓reduceIte, reduceCtorEq, Nat.reduceAdd, Nat.reduceSub, Nat.reduceMul, Nat.reduceLeDiff, Nat.reduceBEq, Nat.reduceLT, if_true, if_false, beq_self_eq_true, BEq.rfl, ne_eq, e_i64, e_impl_Equation]
    (try simp only [WN.down, Nat.reduceAdd, if_true, if_false, ↓reduceIte, e_i64, e_impl_Equation] at hP)
    (try simp only [WN.down, Nat.reduceAdd, if_true, if_false, ↓reduceIte, e_i64, e_impl_Equation])
    exact hP
  refine w_sreg (w_abs [(0, .slice (a0.map e_impl_Equation)), (3, .nils), (4, .int .i64 0)] (fun P hP => ?_) ?_)
  · simp only [W0.down, Nat.reduceEqDiff, ↓reduceIte, reduceCtorEq, Nat.reduceAdd, Nat.reduceSub, Nat.reduceMul, Nat.reduceLeDiff, Nat.reduceBEq, Nat.reduceLT, if_true, if_false, beq_self_eq_true, BEq.rfl, ne_eq, e_i64, e_impl_Equation]
    (try simp only [WN.down, Nat.reduceAdd, if_true, if_false, ↓reduceIte, e_i64, e_impl_Equation] at hP)
    (try simp only [WN.down, Nat.reduceAdd, if_true, if_false, ↓reduceIte, e_i64, e_impl_Equation])
    exact hP
  refine w_seq (fun Q4 n4 q4 x4 => ?_)
  refine w_sreg (w_abs [(0, .slice (a0.map e_impl_Equation)), (3, .nils), (4, .int .i64 0), (7, .slice (a0.map e_impl_Equation)), (8, .int .i64 (a0.length : Int)), (9, .int .i64 0)] (fun P hP => ?_) ?_)
  · simp only [W0.down, Nat.reduceEqDiff, ↓reduceIte, reduceCtorEq, Nat.reduceAdd, Nat.reduceSub, Nat.reduceMul, Nat.reduceLeDiff, Nat.reduceBEq, Nat.reduceLT, if_true, if_false, beq_self_eq_true, BEq.rfl, ne_eq, tt2, tt4, tt32, tt68, tt120, e_i64, e_impl_Equation]
    (try simp only [WN.down, Nat.reduceAdd, if_true, if_false, ↓reduceIte, tt2, tt4, tt32, tt68, tt120, e_i64, e_impl_Equation] at hP)
    (try simp only [WN.down, Nat.reduceAdd, if_true, if_false, ↓reduceIte, tt2, tt4, tt32, tt68, tt120, e_i64, e_impl_Equation])
    exact hP
  refine w_blk (fun Q6 n6 q6 b6 x6 => ?_)
  have L10 : ∀ (n : Nat) (v3_10 : List Int) (v4_10 : Int) (v9_10 : Int), impl_equationBlocks_l10 a0 n v3_10 v4_10 v9_10 = some r → lpC Cc c266_11 Q6 (stA [(0, .slice (a0.map e_impl_Equation)), (3, .uslice 1 (v3_10.map e_i64)), (4, .int .i64 v4_10), (7, .slice (a0.map e_impl_Equation)), (8, .int .i64 (a0.length : Int)), (9, .int .i64 v9_10)]) := by
    intro m10
    induction m10 with
    | zero => intro v3_10 v4_10 v9_10 h; cases (show none = some r from h)
    | succ m10 ih10 =>
      intro v3_10 v4_10 v9_10 h
      replace h : impl_equationBlocks_b10 (impl_equationBlocks_l10 a0 m10) a0 v3_10 v4_10 v9_10 = some r := h
      refine lpC_step (fun Q7 n7 q7 x7 => ?_)
      refine w_sreg (w_abs [(0, .slice (a0.map e_impl_Equation)), (3, .uslice 1 (v3_10.map e_i64)), (4, .int .i64 v4_10), (7, .slice (a0.map e_impl_Equation)), (8, .int .i64 (a0.length : Int)), (9, .int .i64 v9_10), (10, .bool (decide (v9_10 < (a0.length : Int))))] (fun P hP => ?_) ?_)
      · simp only [W0.down, Nat.reduceEqDiff, ↓reduceIte, reduceCtorEq, Nat.reduceAdd, Nat.reduceSub, Nat.reduceMul, Nat.reduceLeDiff, Nat.reduceBEq, Nat.reduceLT, if_true, if_false, beq_self_eq_true, BEq.rfl, ne_eq, e_i64, e_impl_Equation]
        (try simp only [WN.down, Nat.reduceAdd, if_true, if_false, ↓reduceIte, e_i64, e_impl_Equation] at hP)
        (try simp only [WN.down, Nat.reduceAdd, if_true, if_false, ↓reduceIte, e_i64, e_impl_Equation])
        exact hP
      refine w_seq (fun Q9 n9 q9 x9 => ?_)
      rcases condE h with ⟨b10, h⟩ | ⟨b10, h⟩
      · refine w_ct (congrArg AV.bool b10) ?_
        simp only [b10, Bool.not_true, Bool.not_false]
        refine w_skip (n9 _ (.inl ?_))
        refine w_seq (fun Q11 n11 q11 x11 => ?_)
        refine w_blk (fun Q12 n12 q12 b12 x12 => ?_)
        obtain ⟨x1, e14, h⟩ := bindE h
        refine w_sreg (w_abs [(0, .slice (a0.map e_impl_Equation)), (3, .uslice 1 (v3_10.map e_i64)), (4, .int .i64 v4_10), (5, .int .i64 v9_10), (6, .ubox (e_impl_Equation x1)), (7, .slice (a0.map e_impl_Equation)), (8, .int .i64 (a0.length : Int)), (9, .int .i64 v9_10)] (fun P hP => ?_) ?_)
        · simp only [W0.down, Nat.reduceEqDiff, ↓reduceIte, reduceCtorEq, Nat.reduceAdd, Nat.reduceSub, Nat.reduceMul, Nat.reduceLeDiff, Nat.reduceBEq, Nat.reduceLT, if_true, if_false, beq_self_eq_true, BEq.rfl, ne_eq, tt2, tt4, tt32, tt68, tt120, e_i64, e_impl_Equation, e14]
          (try simp only [WN.down, Nat.reduceAdd, if_true, if_false, ↓reduceIte, tt2, tt4, tt32, tt68, tt120, e_i64, e_impl_Equation, e14] at hP)
          (try simp only [WN.down, Nat.reduceAdd, if_true, if_false, ↓reduceIte, tt2, tt4, tt32, tt68, tt120, e_i64, e_impl_Equation, e14])
          exact hP
        have K27 : ∀ (v3_27 : List Int) (v4_27 : Int) (v9_27 : Int), impl_equationBlocks_k27 (impl_equationBlocks_l10 a0 m10) a0 v3_27 v4_27 v9_27 = some r → wpC Cc c266_27 Q12 (stA [(0, .slice (a0.map e_impl_Equation)), (3, .uslice 1 (v3_27.map e_i64)), (4, .int .i64 v4_27), (7, .slice (a0.map e_impl_Equation)), (8, .int .i64 (a0.length : Int)), (9, .int .i64 v9_27)]) := by
          intro v3_27 v4_27 v9_27 h
          obtain ⟨u18, e17, h⟩ := bindE h
          (try simp only [List.length_append, List.length_cons, List.length_nil, List.length_map, List.length_replicate, Nat.zero_add, Nat.add_zero, Nat.reduceAdd] at e17)
          refine w_reg (w_abs [(0, .slice (a0.map e_impl_Equation)), (3, .uslice 1 ((v3_27 ++ [v4_27]).map e_i64)), (4, .int .i64 v4_27), (7, .slice (a0.map e_impl_Equation)), (8, .int .i64 (a0.length : Int)), (9, .int .i64 v9_27)] (fun P hP => ?_) ?_)
          · simp only [W0.down, Nat.reduceEqDiff, ↓reduceIte, reduceCtorEq, Nat.reduceAdd, Nat.reduceSub, Nat.reduceMul, Nat.reduceLeDiff, Nat.reduceBEq, Nat.reduceLT, if_true, if_false, beq_self_eq_true, BEq.rfl, ne_eq, tt2, tt68, e_i64, e_impl_Equation, (show ∀ s, bsl Cc s 68 1 [(0, .int .i64 v4_27)] = some (.uslice 1 [.int .i64 v4_27], s) from fun s => by kernel_rfl), @apd_s Cc 68 68 2 rfl rfl, ap_s, ap2_s, ap3_s, all_cons, all_nil, e17, @all_wd' _ e_i64 1 (fun _ => rfl)]
            (try simp only [WN.down, Nat.reduceAdd, if_true, if_false, ↓reduceIte, tt2, tt68, e_i64, e_impl_Equation, (show ∀ s, bsl Cc s 68 1 [(0, .int .i64 v4_27)] = some (.uslice 1 [.int .i64 v4_27], s) from fun s => by kernel_rfl), @apd_s Cc 68 68 2 rfl rfl, ap_s, ap2_s, ap3_s, all_cons, all_nil, e17, @all_wd' _ e_i64 1 (fun _ => rfl)] at hP)
            (try simp only [WN.down, Nat.reduceAdd, if_true, if_false, ↓reduceIte, tt2, tt68, e_i64, e_impl_Equation, (show ∀ s, bsl Cc s 68 1 [(0, .int .i64 v4_27)] = some (.uslice 1 [.int .i64 v4_27], s) from fun s => by kernel_rfl), @apd_s Cc 68 68 2 rfl rfl, ap_s, ap2_s, ap3_s, all_cons, all_nil, e17, @all_wd' _ e_i64 1 (fun _ => rfl)])
            exact hP
          refine n12 _ (n11 _ (.inl ?_))
          refine w_reg (w_abs [(0, .slice (a0.map e_impl_Equation)), (3, .uslice 1 ((v3_27 ++ [v4_27]).map e_i64)), (4, .int .i64 v4_27), (7, .slice (a0.map e_impl_Equation)), (8, .int .i64 (a0.length : Int)), (9, .int .i64 (IntKind.i64.wrap (v9_27 + 1)))] (fun P hP => ?_) ?_)
          · simp only [W0.down, Nat.reduceEqDiff, ↓reduceIte, reduceCtorEq, Nat.reduceAdd, Nat.reduceSub, Nat.reduceMul, Nat.reduceLeDiff, Nat.reduceBEq, Nat.reduceLT, if_true, if_false, beq_self_eq_true, BEq.rfl, ne_eq, e_i64, e_impl_Equation]
            (try simp only [WN.down, Nat.reduceAdd, if_true, if_false, ↓reduceIte, e_i64, e_impl_Equation] at hP)
            (try simp only [WN.down, Nat.reduceAdd, if_true, if_false, ↓reduceIte, e_i64, e_impl_Equation])
            exact hP
          exact n7 _ (.inr ⟨_, weak_eq rfl, ih10 (v3_27 ++ [v4_27]) v4_27 (IntKind.i64.wrap (v9_27 + 1)) h⟩)
        refine w_seq (fun Q15 n15 q15 x15 => ?_)
        rcases condE h with ⟨b20, h⟩ | ⟨b20, h⟩
        · obtain ⟨x2, e21, h⟩ := bindE h
          refine w_sdrw rfl (w_absd [(0, .slice (a0.map e_impl_Equation)), (3, .uslice 1 (v3_10.map e_i64)), (4, .int .i64 v4_10), (7, .slice (a0.map e_impl_Equation)), (8, .int .i64 (a0.length : Int)), (9, .int .i64 v9_10), (26, .bool (!(x1.Greatest == x2.Greatest)))] (fun P hP => ?_) ?_)
          · simp only [W1.down, Nat.reduceEqDiff, ↓reduceIte, reduceCtorEq, Nat.reduceAdd, Nat.reduceSub, Nat.reduceMul, Nat.reduceLeDiff, Nat.reduceBEq, Nat.reduceLT, if_true, if_false, beq_self_eq_true, BEq.rfl, ne_eq, tt2, tt4, tt32, tt68, tt120, e_i64, e_impl_Equation, b20, e21]
            refine ⟨by kernel_rfl, ?_⟩
            (try simp only [WN.down, Nat.reduceAdd, if_true, if_false, ↓reduceIte, tt2, tt4, tt32, tt68, tt120, e_i64, e_impl_Equation, b20, e21] at hP)
            (try simp only [WN.down, Nat.reduceAdd, if_true, if_false, ↓reduceIte, tt2, tt4, tt32, tt68, tt120, e_i64, e_impl_Equation, b20, e21])
            exact hP
          rcases condE h with ⟨b22, h⟩ | ⟨b22, h⟩
          · refine w_ct (congrArg AV.bool b22) ?_
            simp only [b22, Bool.not_true, Bool.not_false]
            refine w_reg (w_abs [(0, .slice (a0.map e_impl_Equation)), (3, .uslice 1 (v3_10.map e_i64)), (4, .int .i64 (IntKind.i64.wrap (v4_10 + 1))), (7, .slice (a0.map e_impl_Equation)), (8, .int .i64 (a0.length : Int)), (9, .int .i64 v9_10)] (fun P hP => ?_) ?_)
            · simp only [W0.down, Nat.reduceEqDiff, ↓reduceIte, reduceCtorEq, Nat.reduceAdd, Nat.reduceSub, Nat.reduceMul, Nat.reduceLeDiff, Nat.reduceBEq, Nat.reduceLT, if_true, if_false, beq_self_eq_true, BEq.rfl, ne_eq, e_i64, e_impl_Equation]
              (try simp only [WN.down, Nat.reduceAdd, if_true, if_false, ↓reduceIte, e_i64, e_impl_Equation] at hP)
              (try simp only [WN.down, Nat.reduceAdd, if_true, if_false, ↓reduceIte, e_i64, e_impl_Equation])
              exact hP
            exact n15 _ (.inr ⟨_, weak_eq rfl, K27 v3_10 (IntKind.i64.wrap (v4_10 + 1)) v9_10 h⟩)
          · refine w_cf (congrArg AV.bool b22) ?_
            simp only [b22, Bool.not_true, Bool.not_false]
            exact w_skip (n15 _ (.inr ⟨_, weak_eq rfl, K27 v3_10 v4_10 v9_10 h⟩))
        · refine w_sdrw rfl (w_absd [(0, .slice (a0.map e_impl_Equation)), (3, .uslice 1 (v3_10.map e_i64)), (4, .int .i64 v4_10), (7, .slice (a0.map e_impl_Equation)), (8, .int .i64 (a0.length : Int)), (9, .int .i64 v9_10), (26, .bool false)] (fun P hP => ?_) ?_)
          · simp only [W1.down, Nat.reduceEqDiff, ↓reduceIte, reduceCtorEq, Nat.reduceAdd, Nat.reduceSub, Nat.reduceMul, Nat.reduceLeDiff, Nat.reduceBEq, Nat.reduceLT, if_true, if_false, beq_self_eq_true, BEq.rfl, ne_eq, tt2, tt4, tt32, tt68, tt120, e_i64, e_impl_Equation, b20]
            refine ⟨by kernel_rfl, ?_⟩
            (try simp only [WN.down, Nat.reduceAdd, if_true, if_false, ↓reduceIte, tt2, tt4, tt32, tt68, tt120, e_i64, e_impl_Equation, b20] at hP)
            (try simp only [WN.down, Nat.reduceAdd, if_true, if_false, ↓reduceIte, tt2, tt4, tt32, tt68, tt120, e_i64, e_impl_Equation, b20])
            exact hP
          refine w_cf rfl ?_
          exact w_skip (n15 _ (.inr ⟨_, weak_eq rfl, K27 v3_10 v4_10 v9_10 h⟩))
      · refine w_cf (congrArg AV.bool b10) ?_
        simp only [b10, Bool.not_true, Bool.not_false]
        refine w_ex (x9 0 _ (x7 0 _ (b6 _ (n4 _ (.inl ?_)))))
        refine w_sreg (w_abs [(2, .uslice 1 (v3_10.map e_i64))] (fun P hP => ?_) ?_)
        · simp only [W0.down, Nat.reduceEqDiff, ↓reduceIte, reduceCtorEq, Nat.reduceAdd, Nat.reduceSub, Nat.reduceMul, Nat.reduceLeDiff, Nat.reduceBEq, Nat.reduceLT, if_true, if_false, beq_self_eq_true, BEq.rfl, ne_eq, e_i64, e_impl_Equation]
          (try simp only [WN.down, Nat.reduceAdd, if_true, if_false, ↓reduceIte, e_i64, e_impl_Equation] at hP)
          (try simp only [WN.down, Nat.reduceAdd, if_true, if_false, ↓reduceIte, e_i64, e_impl_Equation])
          exact hP
        exact w_ret (r0 _ (.inl (w_fin [.uslice 1 (v3_10.map e_i64)] rfl (by cases someE h; rfl) (by decide) outs_nil)))
  obtain ⟨n, h⟩ := limE h
  exact w_loop (.inr ⟨_, weak_mix [] rfl (wk_eq (t := 0) (d := .slice (a0.map e_impl_Equation)) rfl (wk_wd (t := 3) (d := .nils) (d' := .uslice 1 []) rfl rfl (.nilsU _) (by decide) (wk_eq (t := 4) (d := .int .i64 0) rfl (wk_eq (t := 7) (d := .slice (a0.map e_impl_Equation)) rfl (wk_eq (t := 8) (d := .int .i64 (a0.length : Int)) rfl (wk_eq (t := 9) (d := .int .i64 0) rfl (wk_nil))))))), L10 n [] 0 0 h⟩)

theorem ok_impl_last_int64  (a0 : List Int) (r : Int) (h : impl_last_int64  a0 = some r) : OkAt Cc 265 [.slice (a0.map e_i64)] (.int .i64 r) [] := by
  refine OkAt.of_wpQ (fx := [0]) Cc_ok Try.func265 rfl rfl s265 (Nat.le_of_ble_eq_true rfl) (fun Q0 r0 n0 => ?_)
  replace r0 : ∀ s, onW (Fw.Ends Cc [0] [.tmp 2] (.int .i64 r) []) s → Q0 .ret s := r0
  replace n0 : ∀ s, onW (Fw.Ends Cc [0] [.tmp 2] (.int .i64 r) []) s → Q0 .normal s := n0
  show wpC Cc c265 Q0 (stA [(0, .slice (a0.map e_i64))])
  refine w_sreg (w_abs [(0, .slice (a0.map e_i64))] (fun P hP => ?_) ?_)
  · simp only [W0.down, Nat.reduceEqDiff, ↓reduceIte, reduceCtorEq, Nat.reduceAdd, Nat.reduceSub, Nat.reduceMul, Nat.reduceLeDiff, Nat.reduceBEq, Nat.reduceLT, if_true, if_false, beq_self_eq_true, BEq.rfl, ne_eq, e_i64]
    (try simp only [WN.down, Nat.reduceAdd, if_true, if_false, ↓reduceIte, e_i64] at hP)
    (try simp only [WN.down, Nat.reduceAdd, if_true, if_false, ↓reduceIte, e_i64])
    exact hP
  obtain ⟨x1, e3, h⟩ := bindE h
  refine w_sreg (w_abs [(2, .int .i64 x1)] (fun P hP => ?_) ?_)
  · simp only [W0.down, Nat.reduceEqDiff, ↓reduceIte, reduceCtorEq, Nat.reduceAdd, Nat.reduceSub, Nat.reduceMul, Nat.reduceLeDiff, Nat.reduceBEq, Nat.reduceLT, if_true, if_false, beq_self_eq_true, BEq.rfl, ne_eq, tt2, tt68, e_i64, e3]
    (try simp only [WN.down, Nat.reduceAdd, if_true, if_false, ↓reduceIte, tt2, tt68, e_i64, e3] at hP)
    (try simp only [WN.down, Nat.reduceAdd, if_true, if_false, ↓reduceIte, tt2, tt68, e_i64, e3])
    exact hP
  exact w_ret (r0 _ (.inl (w_fin [.int .i64 x1] rfl (by cases someE h; rfl) (by decide) outs_nil)))

theorem ok_impl_blocksFit  (a0 : List impl_Equation) (r : Bool) (h : impl_blocksFit  a0 = some r) : OkAt Cc 190 [.slice (a0.map e_impl_Equation)] (.bool r) [] := by
  refine OkAt.of_wpQ (fx := [0]) Cc_ok Try.func190 rfl rfl s190 (Nat.le_of_ble_eq_true rfl) (fun Q0 r0 n0 => ?_)
  replace r0 : ∀ s, onW (Fw.Ends Cc [0] [.tmp 2] (.bool r) []) s → Q0 .ret s := r0
  replace n0 : ∀ s, onW (Fw.Ends Cc [0] [.tmp 2] (.bool r) []) s → Q0 .normal s := n0
  show wpC Cc c190 Q0 (stA [(0, .slice (a0.map e_impl_Equation))])
  refine w_sreg (w_abs [(0, .slice (a0.map e_impl_Equation))] (fun P hP => ?_) ?_)
  · simp only [W0.down, Nat.reduceEqDiff, ↓reduceIte, reduceCtorEq, Nat.reduceAdd, Nat.reduceSub, Nat.reduceMul, Nat.reduceLeDiff, Nat.reduceBEq, Nat.reduceLT, if_true, if_false, beq_self_eq_true, BEq.rfl, ne_eq, e_i64, e_impl_Equation]
    (try simp only [WN.down, Nat.reduceAdd, if_true, if_false, ↓reduceIte, e_i64, e_impl_Equation] at hP)
    (try simp only [WN.down, Nat.reduceAdd, if_true, if_false, ↓reduceIte, e_i64, e_impl_Equation])
    exact hP
  obtain ⟨x1, e3, h⟩ := bindE h
  obtain ⟨x2, e4, h⟩ := bindE h
  refine w_sreg (w_abs [(2, .bool (decide (x2 < 9)))] (fun P hP => ?_) ?_)
  · simp only [W0.down, Nat.reduceEqDiff, ↓reduceIte, reduceCtorEq, Nat.reduceAdd, Nat.reduceSub, Nat.reduceMul, Nat.reduceLeDiff, Nat.reduceBEq, Nat.reduceLT, if_true, if_false, beq_self_eq_true, BEq.rfl, ne_eq, e_i64, e_impl_Equation]
    refine w_call0 (ok_impl_equationBlocks a0 _ e3) rfl rfl rfl rfl (.inl (by rfl)) ?_
    simp only [W0.down, Nat.reduceEqDiff, ↓reduceIte, reduceCtorEq, Nat.reduceAdd, Nat.reduceSub, Nat.reduceMul, Nat.reduceLeDiff, Nat.reduceBEq, Nat.reduceLT, if_true, if_false, beq_self_eq_true, BEq.rfl, ne_eq, e_i64, e_impl_Equation]
    refine w_call0 (ok_impl_last_int64 x1 _ e4) rfl rfl (by simp only [W0.down, Nat.reduceEqDiff, ↓reduceIte, reduceCtorEq, Nat.reduceAdd, Nat.reduceSub, Nat.reduceMul, Nat.reduceLeDiff, Nat.reduceBEq, Nat.reduceLT, if_true, if_false, beq_self_eq_true, BEq.rfl, ne_eq, e_i64, e_impl_Equation, view_s, view_h, viewH_s, share_s, @shares_map _ e_i64 e_i64 (fun _ => sh_e_i64 _)]) rfl (.inr (by rfl)) ?_
    simp only [W0.down, Nat.reduceEqDiff, ↓reduceIte, reduceCtorEq, Nat.reduceAdd, Nat.reduceSub, Nat.reduceMul, Nat.reduceLeDiff, Nat.reduceBEq, Nat.reduceLT, if_true, if_false, beq_self_eq_true, BEq.rfl, ne_eq, e_i64, e_impl_Equation]
    (try simp only [WN.down, Nat.reduceAdd, if_true, if_false, ↓reduceIte, e_i64, e_impl_Equation] at hP)
    (try simp only [WN.down, Nat.reduceAdd, if_true, if_false, ↓reduceIte, e_i64, e_impl_Equation])
    exact hP
  exact w_ret (r0 _ (.inl (w_fin [.bool (decide (x2 < 9))] rfl (by cases someE h; rfl) (by decide) outs_nil)))

theorem ok_impl_index  (a0 : Int) (a1 : Int) (r : Bool) (h : impl_index  a0 a1 = some r) : OkAt Cc 133 [.int .i64 a0, .int .i64 a1] (.bool r) [] := by
  refine OkAt.of_wpQ (fx := [0, 1]) Cc_ok Try.func133 rfl rfl s133 (Nat.le_of_ble_eq_true rfl) (fun Q0 r0 n0 => ?_)
  replace r0 : ∀ s, onW (Fw.Ends Cc [0, 1] [.tmp 4] (.bool r) []) s → Q0 .ret s := r0
  replace n0 : ∀ s, onW (Fw.Ends Cc [0, 1] [.tmp 4] (.bool r) []) s → Q0 .normal s := n0
  show wpC Cc c133 Q0 (stA [(0, .int .i64 a0), (1, .int .i64 a1)])
  refine w_sreg (w_abs [(0, .int .i64 a0), (1, .int .i64 a1)] (fun P hP => ?_) ?_)
  · simp only [W0.down, Nat.reduceEqDiff, ↓reduceIte, reduceCtorEq, Nat.reduceAdd, Nat.reduceSub, Nat.reduceMul, Nat.reduceLeDiff, Nat.reduceBEq, Nat.reduceLT, if_true, if_false, beq_self_eq_true, BEq.rfl, ne_eq]
    (try simp only [WN.down, Nat.reduceAdd, if_true, if_false, ↓reduceIte] at hP)
    (try simp only [WN.down, Nat.reduceAdd, if_true, if_false, ↓reduceIte])
    exact hP
  obtain ⟨x1, e3, h⟩ := bindE h
  refine w_sreg (w_abs [(4, .bool x1)] (fun P hP => ?_) ?_)
  · simp only [W0.down, Nat.reduceEqDiff, ↓reduceIte, reduceCtorEq, Nat.reduceAdd, Nat.reduceSub, Nat.reduceMul, Nat.reduceLeDiff, Nat.reduceBEq, Nat.reduceLT, if_true, if_false, beq_self_eq_true, BEq.rfl, ne_eq]
    refine w_call0 (ok_impl_within a0 0 (IntKind.i64.wrap (a1 - 1)) _ e3) rfl rfl rfl rfl (.inl (by rfl)) ?_
    simp only [W0.down, Nat.reduceEqDiff, ↓reduceIte, reduceCtorEq, Nat.reduceAdd, Nat.reduceSub, Nat.reduceMul, Nat.reduceLeDiff, Nat.reduceBEq, Nat.reduceLT, if_true, if_false, beq_self_eq_true, BEq.rfl, ne_eq]
    (try simp only [WN.down, Nat.reduceAdd, if_true, if_false, ↓reduceIte] at hP)
    (try simp only [WN.down, Nat.reduceAdd, if_true, if_false, ↓reduceIte])
    exact hP
  exact w_ret (r0 _ (.inl (w_fin [.bool x1] rfl (by cases someE h; rfl) (by decide) outs_nil)))

theorem ok_impl_increasing  (a0 : List Int) (a1 : Int) (r : Bool) (h : impl_increasing  a0 a1 = some r) : OkAt Cc 193 [.slice (a0.map e_i64), .int .i64 a1] (.bool r) [] := by
  refine OkAt.of_wpQ (fx := [0, 1]) Cc_ok Try.func193 rfl rfl s193 (Nat.le_of_ble_eq_true rfl) (fun Q0 r0 n0 => ?_)
  replace r0 : ∀ s, onW (Fw.Ends Cc [0, 1] [.tmp 4] (.bool r) []) s → Q0 .ret s := r0
  replace n0 : ∀ s, onW (Fw.Ends Cc [0, 1] [.tmp 4] (.bool r) []) s → Q0 .normal s := n0
  show wpC Cc c193 Q0 (stA [(0, .slice (a0.map e_i64)), (1, .int .i64 a1)])
  refine w_sreg (w_abs [(0, .slice (a0.map e_i64)), (1, .int .i64 a1)] (fun P hP => ?_) ?_)
  · simp only [W0.down, Nat.reduceEqDiff, ↓reduceIte, reduceCtorEq, Nat.reduceAdd, Nat.reduceSub, Nat.reduceMul, Nat.reduceLeDiff, Nat.reduceBEq, Nat.reduceLT, if_true, if_false, beq_self_eq_true, BEq.rfl, ne_eq, e_i64]
    (try simp only [WN.down, Nat.reduceAdd, if_true, if_false, ↓reduceIte, e_i64] at hP)
    (try simp only [WN.down, Nat.reduceAdd, if_true, if_false, ↓reduceIte, e_i64])
    exact hP
  refine w_seq (fun Q2 n2 q2 x2 => ?_)
  refine w_sreg (w_abs [(0, .slice (a0.map e_i64)), (1, .int .i64 a1), (7, .slice (a0.map e_i64)), (8, .int .i64 (a0.length : Int)), (9, .int .i64 0)] (fun P hP => ?_) ?_)
  · simp only [W0.down, Nat.reduceEqDiff, ↓reduceIte, reduceCtorEq, Nat.reduceAdd, Nat.reduceSub, Nat.reduceMul, Nat.reduceLeDiff, Nat.reduceBEq, Nat.reduceLT, if_true, if_false, beq_self_eq_true, BEq.rfl, ne_eq, tt2, tt68, e_i64]
    (try simp only [WN.down, Nat.reduceAdd, if_true, if_false, ↓reduceIte, tt2, tt68, e_i64] at hP)
    (try simp only [WN.down, Nat.reduceAdd, if_true, if_false, ↓reduceIte, tt2, tt68, e_i64])
    exact hP
  refine w_blk (fun Q4 n4 q4 b4 x4 => ?_)
  have L6 : ∀ (n : Nat) (v9_6 : Int), impl_increasing_l6 a0 a1 n v9_6 = some r → lpC Cc c193_7 Q4 (stA [(0, .slice (a0.map e_i64)), (1, .int .i64 a1), (7, .slice (a0.map e_i64)), (8, .int .i64 (a0.length : Int)), (9, .int .i64 v9_6)]) := by
    intro m6
    induction m6 with
    | zero => intro v9_6 h; cases (show none = some r from h)
    | succ m6 ih6 =>
      intro v9_6 h
      replace h : impl_increasing_b6 (impl_increasing_l6 a0 a1 m6) a0 a1 v9_6 = some r := h
      refine lpC_step (fun Q5 n5 q5 x5 => ?_)
      refine w_sreg (w_abs [(0, .slice (a0.map e_i64)), (1, .int .i64 a1), (7, .slice (a0.map e_i64)), (8, .int .i64 (a0.length : Int)), (9, .int .i64 v9_6), (10, .bool (decide (v9_6 < (a0.length : Int))))] (fun P hP => ?_) ?_)
      · simp only [W0.down, Nat.reduceEqDiff, ↓reduceIte, reduceCtorEq, Nat.reduceAdd, Nat.reduceSub, Nat.reduceMul, Nat.reduceLeDiff, Nat.reduceBEq, Nat.reduceLT, if_true, if_false, beq_self_eq_true, BEq.rfl, ne_eq, e_i64]
        (try simp only [WN.down, Nat.reduceAdd, if_true, if_false, ↓reduceIte, e_i64] at hP)
        (try simp only [WN.down, Nat.reduceAdd, if_true, if_false, ↓reduceIte, e_i64])
        exact hP
      refine w_seq (fun Q7 n7 q7 x7 => ?_)
      rcases condE h with ⟨b8, h⟩ | ⟨b8, h⟩
      · refine w_ct (congrArg AV.bool b8) ?_
        simp only [b8, Bool.not_true, Bool.not_false]
        refine w_skip (n7 _ (.inl ?_))
        refine w_seq (fun Q9 n9 q9 x9 => ?_)
        refine w_blk (fun Q10 n10 q10 b10 x10 => ?_)
        obtain ⟨x1, e12, h⟩ := bindE h
        refine w_sreg (w_abs [(0, .slice (a0.map e_i64)), (1, .int .i64 a1), (5, .int .i64 v9_6), (6, .int .i64 x1), (7, .slice (a0.map e_i64)), (8, .int .i64 (a0.length : Int)), (9, .int .i64 v9_6)] (fun P hP => ?_) ?_)
        · simp only [W0.down, Nat.reduceEqDiff, ↓reduceIte, reduceCtorEq, Nat.reduceAdd, Nat.reduceSub, Nat.reduceMul, Nat.reduceLeDiff, Nat.reduceBEq, Nat.reduceLT, if_true, if_false, beq_self_eq_true, BEq.rfl, ne_eq, tt2, tt68, e_i64, e12]
          (try simp only [WN.down, Nat.reduceAdd, if_true, if_false, ↓reduceIte, tt2, tt68, e_i64, e12] at hP)
          (try simp only [WN.down, Nat.reduceAdd, if_true, if_false, ↓reduceIte, tt2, tt68, e_i64, e12])
          exact hP
        obtain ⟨x2, e14, h⟩ := bindE h
        rcases condE h with ⟨b15, h⟩ | ⟨b15, h⟩
        · refine w_sreg (w_abs [(0, .slice (a0.map e_i64)), (1, .int .i64 a1), (7, .slice (a0.map e_i64)), (8, .int .i64 (a0.length : Int)), (9, .int .i64 v9_6), (30, .bool true)] (fun P hP => ?_) ?_)
          · simp only [W0.down, Nat.reduceEqDiff, ↓reduceIte, reduceCtorEq, Nat.reduceAdd, Nat.reduceSub, Nat.reduceMul, Nat.reduceLeDiff, Nat.reduceBEq, Nat.reduceLT, if_true, if_false, beq_self_eq_true, BEq.rfl, ne_eq, tt2, tt68, e_i64, b15]
            refine w_call0 (ok_impl_index x1 a1 _ e14) rfl rfl rfl rfl (.inl (by rfl)) ?_
            simp only [W0.down, Nat.reduceEqDiff, ↓reduceIte, reduceCtorEq, Nat.reduceAdd, Nat.reduceSub, Nat.reduceMul, Nat.reduceLeDiff, Nat.reduceBEq, Nat.reduceLT, if_true, if_false, beq_self_eq_true, BEq.rfl, ne_eq, tt2, tt68, e_i64, b15]
            (try simp only [WN.down, Nat.reduceAdd, if_true, if_false, ↓reduceIte, tt2, tt68, e_i64, b15] at hP)
            (try simp only [WN.down, Nat.reduceAdd, if_true, if_false, ↓reduceIte, tt2, tt68, e_i64, b15])
            exact hP
          refine w_ct rfl ?_
          refine w_sreg (w_abs [(4, .bool false)] (fun P hP => ?_) ?_)
          · simp only [W0.down, Nat.reduceEqDiff, ↓reduceIte, reduceCtorEq, Nat.reduceAdd, Nat.reduceSub, Nat.reduceMul, Nat.reduceLeDiff, Nat.reduceBEq, Nat.reduceLT, if_true, if_false, beq_self_eq_true, BEq.rfl, ne_eq, e_i64]
            (try simp only [WN.down, Nat.reduceAdd, if_true, if_false, ↓reduceIte, e_i64] at hP)
            (try simp only [WN.down, Nat.reduceAdd, if_true, if_false, ↓reduceIte, e_i64])
            exact hP
          exact w_ret (q10 _ (q9 _ (q5 _ (q4 _ (q2 _ (r0 _ (.inl (w_fin [.bool false] rfl (by cases someE h; rfl) (by decide) outs_nil))))))))
        · rcases condE h with ⟨b17, h⟩ | ⟨b17, h⟩
          · obtain ⟨x3, e18, h⟩ := bindE h
            refine w_sreg (w_abs [(0, .slice (a0.map e_i64)), (1, .int .i64 a1), (7, .slice (a0.map e_i64)), (8, .int .i64 (a0.length : Int)), (9, .int .i64 v9_6), (30, .bool (decide (x1 ≤ x3)))] (fun P hP => ?_) ?_)
            · simp only [W0.down, Nat.reduceEqDiff, ↓reduceIte, reduceCtorEq, Nat.reduceAdd, Nat.reduceSub, Nat.reduceMul, Nat.reduceLeDiff, Nat.reduceBEq, Nat.reduceLT, if_true, if_false, beq_self_eq_true, BEq.rfl, ne_eq, tt2, tt68, e_i64, b15, b17, e18]
              refine w_call0 (ok_impl_index x1 a1 _ e14) rfl rfl rfl rfl (.inl (by rfl)) ?_
              simp only [W0.down, Nat.reduceEqDiff, ↓reduceIte, reduceCtorEq, Nat.reduceAdd, Nat.reduceSub, Nat.reduceMul, Nat.reduceLeDiff, Nat.reduceBEq, Nat.reduceLT, if_true, if_false, beq_self_eq_true, BEq.rfl, ne_eq, tt2, tt68, e_i64, b15, b17, e18]
              (try simp only [WN.down, Nat.reduceAdd, if_true, if_false, ↓reduceIte, tt2, tt68, e_i64, b15, b17, e18] at hP)
              (try simp only [WN.down, Nat.reduceAdd, if_true, if_false, ↓reduceIte, tt2, tt68, e_i64, b15, b17, e18])
              exact hP
            rcases condE h with ⟨b19, h⟩ | ⟨b19, h⟩
            · refine w_ct (congrArg AV.bool b19) ?_
              simp only [b19, Bool.not_true, Bool.not_false]
              refine w_sreg (w_abs [(4, .bool false)] (fun P hP => ?_) ?_)
              · simp only [W0.down, Nat.reduceEqDiff, ↓reduceIte, reduceCtorEq, Nat.reduceAdd, Nat.reduceSub, Nat.reduceMul, Nat.reduceLeDiff, Nat.reduceBEq, Nat.reduceLT, if_true, if_false, beq_self_eq_true, BEq.rfl, ne_eq, e_i64]
                (try simp only [WN.down, Nat.reduceAdd, if_true, if_false, ↓reduceIte, e_i64] at hP)
                (try simp only [WN.down, Nat.reduceAdd, if_true, if_false, ↓reduceIte, e_i64])
                exact hP
              exact w_ret (q10 _ (q9 _ (q5 _ (q4 _ (q2 _ (r0 _ (.inl (w_fin [.bool false] rfl (by cases someE h; rfl) (by decide) outs_nil))))))))
            · refine w_cf (congrArg AV.bool b19) ?_
              simp only [b19, Bool.not_true, Bool.not_false]
              refine w_skip (n10 _ (n9 _ (.inl ?_)))
              refine w_reg (w_abs [(0, .slice (a0.map e_i64)), (1, .int .i64 a1), (7, .slice (a0.map e_i64)), (8, .int .i64 (a0.length : Int)), (9, .int .i64 (IntKind.i64.wrap (v9_6 + 1)))] (fun P hP => ?_) ?_)
              · simp only [W0.down, Nat.reduceEqDiff, ↓reduceIte, reduceCtorEq, Nat.reduceAdd, Nat.reduceSub, Nat.reduceMul, Nat.reduceLeDiff, Nat.reduceBEq, Nat.reduceLT, if_true, if_false, beq_self_eq_true, BEq.rfl, ne_eq, e_i64]
                (try simp only [WN.down, Nat.reduceAdd, if_true, if_false, ↓reduceIte, e_i64] at hP)
                (try simp only [WN.down, Nat.reduceAdd, if_true, if_false, ↓reduceIte, e_i64])
                exact hP
              exact n5 _ (.inr ⟨_, weak_eq rfl, ih6 (IntKind.i64.wrap (v9_6 + 1)) h⟩)
          · refine w_sreg (w_abs [(0, .slice (a0.map e_i64)), (1, .int .i64 a1), (7, .slice (a0.map e_i64)), (8, .int .i64 (a0.length : Int)), (9, .int .i64 v9_6), (30, .bool false)] (fun P hP => ?_) ?_)
            · simp only [W0.down, Nat.reduceEqDiff, ↓reduceIte, reduceCtorEq, Nat.reduceAdd, Nat.reduceSub, Nat.reduceMul, Nat.reduceLeDiff, Nat.reduceBEq, Nat.reduceLT, if_true, if_false, beq_self_eq_true, BEq.rfl, ne_eq, tt2, tt68, e_i64, b15, b17]
              refine w_call0 (ok_impl_index x1 a1 _ e14) rfl rfl rfl rfl (.inl (by rfl)) ?_
              simp only [W0.down, Nat.reduceEqDiff, ↓reduceIte, reduceCtorEq, Nat.reduceAdd, Nat.reduceSub, Nat.reduceMul, Nat.reduceLeDiff, Nat.reduceBEq, Nat.reduceLT, if_true, if_false, beq_self_eq_true, BEq.rfl, ne_eq, tt2, tt68, e_i64, b15, b17]
              (try simp only [WN.down, Nat.reduceAdd, if_true, if_false, ↓reduceIte, tt2, tt68, e_i64, b15, b17] at hP)
              (try simp only [WN.down, Nat.reduceAdd, if_true, if_false, ↓reduceIte, tt2, tt68, e_i64, b15, b17])
              exact hP
            refine w_cf rfl ?_
            refine w_skip (n10 _ (n9 _ (.inl ?_)))
            refine w_reg (w_abs [(0, .slice (a0.map e_i64)), (1, .int .i64 a1), (7, .slice (a0.map e_i64)), (8, .int .i64 (a0.length : Int)), (9, .int .i64 (IntKind.i64.wrap (v9_6 + 1)))] (fun P hP => ?_) ?_)
            · simp only [W0.down, Nat.reduceEqDiff, ↓reduceIte, reduceCtorEq, Nat.reduceAdd, Nat.reduceSub, Nat.reduceMul, Nat.reduceLeDiff, Nat.reduceBEq, Nat.reduceLT, if_true, if_false, beq_self_eq_true, BEq.rfl, ne_eq, e_i64]
              (try simp only [WN.down, Nat.reduceAdd, if_true, if_false, ↓reduceIte, e_i64] at hP)
              (try simp only [WN.down, Nat.reduceAdd, if_true, if_false, ↓reduceIte, e_i64])
              exact hP
            exact n5 _ (.inr ⟨_, weak_eq rfl, ih6 (IntKind.i64.wrap (v9_6 + 1)) h⟩)
      · refine w_cf (congrArg AV.bool b8) ?_
        simp only [b8, Bool.not_true, Bool.not_false]
        refine w_ex (x7 0 _ (x5 0 _ (b4 _ (n2 _ (.inl ?_)))))
        refine w_sreg (w_abs [(4, .bool true)] (fun P hP => ?_) ?_)
        · simp only [W0.down, Nat.reduceEqDiff, ↓reduceIte, reduceCtorEq, Nat.reduceAdd, Nat.reduceSub, Nat.reduceMul, Nat.reduceLeDiff, Nat.reduceBEq, Nat.reduceLT, if_true, if_false, beq_self_eq_true, BEq.rfl, ne_eq, e_i64]
          (try simp only [WN.down, Nat.reduceAdd, if_true, if_false, ↓reduceIte, e_i64] at hP)
          (try simp only [WN.down, Nat.reduceAdd, if_true, if_false, ↓reduceIte, e_i64])
          exact hP
        exact w_ret (r0 _ (.inl (w_fin [.bool true] rfl (by cases someE h; rfl) (by decide) outs_nil)))
  obtain ⟨n, h⟩ := limE h
  exact w_loop (.inr ⟨_, weak_eq rfl, L6 n 0 h⟩)

theorem ok_impl_ValidEquations_c1_2  (a0 : impl_Equation) (a1 : List impl_Equation) (r : Bool) (h : impl_ValidEquations_c1_2  a0 a1 = some r) : OkAt Cc 192 [e_impl_Equation a0, .ref (.slice (a1.map e_impl_Equation))] (.bool r) [] := by
  refine OkAt.of_wpQ (fx := [0, 1]) Cc_ok Try.func192 rfl rfl s192 (Nat.le_of_ble_eq_true rfl) (fun Q0 r0 n0 => ?_)
  replace r0 : ∀ s, onW (Fw.Ends Cc [0, 1] [.tmp 3] (.bool r) []) s → Q0 .ret s := r0
  replace n0 : ∀ s, onW (Fw.Ends Cc [0, 1] [.tmp 3] (.bool r) []) s → Q0 .normal s := n0
  show wpC Cc c192 Q0 (stA [(0, e_impl_Equation a0), (1, .ref (.slice (a1.map e_impl_Equation)))])
  refine w_sreg (w_abs [(1, .ref (.slice (a1.map e_impl_Equation))), (2, .ubox (e_impl_Equation a0))] (fun P hP => ?_) ?_)
  · simp only [W0.down, Nat.reduceEqDiff, ↓reduceIte, reduceCtorEq, Nat.reduceAdd, Nat.reduceSub, Nat.reduceMul, Nat.reduceLeDiff, Nat.reduceBEq, Nat.reduceLT, if_true, if_false, beq_self_eq_true, BEq.rfl, ne_eq, tt2, tt4, tt68, tt120, e_i64, e_impl_Equation]
    (try simp only [WN.down, Nat.reduceAdd, if_true, if_false, ↓reduceIte, tt2, tt4, tt68, tt120, e_i64, e_impl_Equation] at hP)
    (try simp only [WN.down, Nat.reduceAdd, if_true, if_false, ↓reduceIte, tt2, tt4, tt68, tt120, e_i64, e_impl_Equation])
    exact hP
  obtain ⟨x1, e3, h⟩ := bindE h
  refine w_sreg (w_abs [(3, .bool (!x1))] (fun P hP => ?_) ?_)
  · simp only [W0.down, Nat.reduceEqDiff, ↓reduceIte, reduceCtorEq, Nat.reduceAdd, Nat.reduceSub, Nat.reduceMul, Nat.reduceLeDiff, Nat.reduceBEq, Nat.reduceLT, if_true, if_false, beq_self_eq_true, BEq.rfl, ne_eq, tt2, tt4, tt32, tt68, tt120, e_i64, e_impl_Equation]
    refine w_call0 (ok_impl_increasing a0.Terms (a1.length : Int) _ e3) rfl rfl rfl rfl (.inl (by rfl)) ?_
    simp only [W0.down, Nat.reduceEqDiff, ↓reduceIte, reduceCtorEq, Nat.reduceAdd, Nat.reduceSub, Nat.reduceMul, Nat.reduceLeDiff, Nat.reduceBEq, Nat.reduceLT, if_true, if_false, beq_self_eq_true, BEq.rfl, ne_eq, tt2, tt4, tt32, tt68, tt120, e_i64, e_impl_Equation]
    (try simp only [WN.down, Nat.reduceAdd, if_true, if_false, ↓reduceIte, tt2, tt4, tt32, tt68, tt120, e_i64, e_impl_Equation] at hP)
    (try simp only [WN.down, Nat.reduceAdd, if_true, if_false, ↓reduceIte, tt2, tt4, tt32, tt68, tt120, e_i64, e_impl_Equation])
    exact hP
  exact w_ret (r0 _ (.inl (w_fin [.bool (!x1)] rfl (by cases someE h; rfl) (by decide) outs_nil)))

theorem ok_slices_IndexFunc_impl_Equation__impl_ValidEquations_c1  (a0 : List impl_Equation) (a1 : List impl_Equation) (r : Int) (h : slices_IndexFunc_impl_Equation__impl_ValidEquations_c1  a0 a1 = some r) : OkAt Cc 267 [.slice (a0.map e_impl_Equation), .fn 192 [.ref (.slice (a1.map e_impl_Equation))]] (.int .i64 r) [] := by
  refine OkAt.of_wpQ (fx := [0, 1]) Cc_ok Try.func267 rfl rfl s267 (Nat.le_of_ble_eq_true rfl) (fun Q0 r0 n0 => ?_)
  replace r0 : ∀ s, onW (Fw.Ends Cc [0, 1] [.tmp 4] (.int .i64 r) []) s → Q0 .ret s := r0
  replace n0 : ∀ s, onW (Fw.Ends Cc [0, 1] [.tmp 4] (.int .i64 r) []) s → Q0 .normal s := n0
  show wpC Cc c267 Q0 (stA [(0, .slice (a0.map e_impl_Equation)), (1, .fn 192 [.ref (.slice (a1.map e_impl_Equation))])])
  refine w_sreg (w_abs [(0, .slice (a0.map e_impl_Equation)), (1, .fn 192 [.ref (.slice (a1.map e_impl_Equation))])] (fun P hP => ?_) ?_)
  · simp only [W0.down, Nat.reduceEqDiff, ↓reduceIte, reduceCtorEq, Nat.reduceAdd, Nat.reduceSub, Nat.reduceMul, Nat.reduceLeDiff, Nat.reduceBEq, Nat.reduceLT, if_true, if_false, beq_self_eq_true, BEq.rfl, ne_eq, e_i64, e_impl_Equation]
    (try simp only [WN.down, Nat.reduceAdd, if_true, if_false, ↓reduceIte, e_i64, e_impl_Equation] at hP)
    (try simp only [WN.down, Nat.reduceAdd, if_true, if_false, ↓reduceIte, e_i64, e_impl_Equation])
    exact hP
  refine w_seq (fun Q2 n2 q2 x2 => ?_)
  refine w_sreg (w_abs [(0, .slice (a0.map e_impl_Equation)), (1, .fn 192 [.ref (.slice (a1.map e_impl_Equation))]), (7, .int .i64 (a0.length : Int)), (8, .int .i64 0)] (fun P hP => ?_) ?_)
  · simp only [W0.down, Nat.reduceEqDiff, ↓reduceIte, reduceCtorEq, Nat.reduceAdd, Nat.reduceSub, Nat.reduceMul, Nat.reduceLeDiff, Nat.reduceBEq, Nat.reduceLT, if_true, if_false, beq_self_eq_true, BEq.rfl, ne_eq, tt2, tt4, tt32, tt68, tt120, e_i64, e_impl_Equation]
    (try simp only [WN.down, Nat.reduceAdd, if_true, if_false, ↓reduceIte, tt2, tt4, tt32, tt68, tt120, e_i64, e_impl_Equation] at hP)
    (try simp only [WN.down, Nat.reduceAdd, if_true, if_false, ↓reduceIte, tt2, tt4, tt32, tt68, tt120, e_i64, e_impl_Equation])
    exact hP
  refine w_blk (fun Q4 n4 q4 b4 x4 => ?_)
  have L6 : ∀ (n : Nat) (v8_6 : Int), slices_IndexFunc_impl_Equation__impl_ValidEquations_c1_l6 a0 a1 n v8_6 = some r → lpC Cc c267_7 Q4 (stA [(0, .slice (a0.map e_impl_Equation)), (1, .fn 192 [.ref (.slice (a1.map e_impl_Equation))]), (7, .int .i64 (a0.length : Int)), (8, .int .i64 v8_6)]) := by
    intro m6
    induction m6 with
    | zero => intro v8_6 h; cases (show none = some r from h)
    | succ m6 ih6 =>
      intro v8_6 h
      replace h : slices_IndexFunc_impl_Equation__impl_ValidEquations_c1_b6 (slices_IndexFunc_impl_Equation__impl_ValidEquations_c1_l6 a0 a1 m6) a0 a1 v8_6 = some r := h
      refine lpC_step (fun Q5 n5 q5 x5 => ?_)
      refine w_sreg (w_abs [(0, .slice (a0.map e_impl_Equation)), (1, .fn 192 [.ref (.slice (a1.map e_impl_Equation))]), (7, .int .i64 (a0.length : Int)), (8, .int .i64 v8_6), (9, .bool (decide (v8_6 < (a0.length : Int))))] (fun P hP => ?_) ?_)
      · simp only [W0.down, Nat.reduceEqDiff, ↓reduceIte, reduceCtorEq, Nat.reduceAdd, Nat.reduceSub, Nat.reduceMul, Nat.reduceLeDiff, Nat.reduceBEq, Nat.reduceLT, if_true, if_false, beq_self_eq_true, BEq.rfl, ne_eq, e_i64, e_impl_Equation]
        (try simp only [WN.down, Nat.reduceAdd, if_true, if_false, ↓reduceIte, e_i64, e_impl_Equation] at hP)
        (try simp only [WN.down, Nat.reduceAdd, if_true, if_false, ↓reduceIte, e_i64, e_impl_Equation])
        exact hP
      refine w_seq (fun Q7 n7 q7 x7 => ?_)
      rcases condE h with ⟨b8, h⟩ | ⟨b8, h⟩
      · refine w_ct (congrArg AV.bool b8) ?_
        simp only [b8, Bool.not_true, Bool.not_false]
        refine w_skip (n7 _ (.inl ?_))
        refine w_seq (fun Q9 n9 q9 x9 => ?_)
        refine w_blk (fun Q10 n10 q10 b10 x10 => ?_)
        refine w_sreg (w_abs [(0, .slice (a0.map e_impl_Equation)), (1, .fn 192 [.ref (.slice (a1.map e_impl_Equation))]), (5, .int .i64 v8_6), (7, .int .i64 (a0.length : Int)), (8, .int .i64 v8_6)] (fun P hP => ?_) ?_)
        · simp only [W0.down, Nat.reduceEqDiff, ↓reduceIte, reduceCtorEq, Nat.reduceAdd, Nat.reduceSub, Nat.reduceMul, Nat.reduceLeDiff, Nat.reduceBEq, Nat.reduceLT, if_true, if_false, beq_self_eq_true, BEq.rfl, ne_eq, e_i64, e_impl_Equation]
          (try simp only [WN.down, Nat.reduceAdd, if_true, if_false, ↓reduceIte, e_i64, e_impl_Equation] at hP)
          (try simp only [WN.down, Nat.reduceAdd, if_true, if_false, ↓reduceIte, e_i64, e_impl_Equation])
          exact hP
        obtain ⟨x1, e13, h⟩ := bindE h
        obtain ⟨x2, e14, h⟩ := bindE h
        refine w_sreg (w_abs [(0, .slice (a0.map e_impl_Equation)), (1, .fn 192 [.ref (.slice (a1.map e_impl_Equation))]), (5, .int .i64 v8_6), (7, .int .i64 (a0.length : Int)), (8, .int .i64 v8_6), (16, .bool x2)] (fun P hP => ?_) ?_)
        · simp only [W0.down, Nat.reduceEqDiff, ↓reduceIte, reduceCtorEq, Nat.reduceAdd, Nat.reduceSub, Nat.reduceMul, Nat.reduceLeDiff, Nat.reduceBEq, Nat.reduceLT, if_true, if_false, beq_self_eq_true, BEq.rfl, ne_eq, tt2, tt4, tt32, tt68, tt120, e_i64, e_impl_Equation, e13]
          refine w_call0 (ok_impl_ValidEquations_c1_2 x1 a1 _ e14) rfl rfl rfl rfl (.inl (by rfl)) ?_
          simp only [W0.down, Nat.reduceEqDiff, ↓reduceIte, reduceCtorEq, Nat.reduceAdd, Nat.reduceSub, Nat.reduceMul, Nat.reduceLeDiff, Nat.reduceBEq, Nat.reduceLT, if_true, if_false, beq_self_eq_true, BEq.rfl, ne_eq, tt2, tt4, tt32, tt68, tt120, e_i64, e_impl_Equation, e13]
          (try simp only [WN.down, Nat.reduceAdd, if_true, if_false, ↓reduceIte, tt2, tt4, tt32, tt68, tt120, e_i64, e_impl_Equation, e13] at hP)
          (try simp only [WN.down, Nat.reduceAdd, if_true, if_false, ↓reduceIte, tt2, tt4, tt32, tt68, tt120, e_i64, e_impl_Equation, e13])
          exact hP
        rcases condE h with ⟨b15, h⟩ | ⟨b15, h⟩
        · refine w_ct (congrArg AV.bool b15) ?_
          simp only [b15, Bool.not_true, Bool.not_false]
          refine w_sreg (w_abs [(4, .int .i64 v8_6)] (fun P hP => ?_) ?_)
          · simp only [W0.down, Nat.reduceEqDiff, ↓reduceIte, reduceCtorEq, Nat.reduceAdd, Nat.reduceSub, Nat.reduceMul, Nat.reduceLeDiff, Nat.reduceBEq, Nat.reduceLT, if_true, if_false, beq_self_eq_true, BEq.rfl, ne_eq, e_i64, e_impl_Equation]
            (try simp only [WN.down, Nat.reduceAdd, if_true, if_false, ↓reduceIte, e_i64, e_impl_Equation] at hP)
            (try simp only [WN.down, Nat.reduceAdd, if_true, if_false, ↓reduceIte, e_i64, e_impl_Equation])
            exact hP
          exact w_ret (q10 _ (q9 _ (q5 _ (q4 _ (q2 _ (r0 _ (.inl (w_fin [.int .i64 v8_6] rfl (by cases someE h; rfl) (by decide) outs_nil))))))))
        · refine w_cf (congrArg AV.bool b15) ?_
          simp only [b15, Bool.not_true, Bool.not_false]
          refine w_skip (n10 _ (n9 _ (.inl ?_)))
          refine w_reg (w_abs [(0, .slice (a0.map e_impl_Equation)), (1, .fn 192 [.ref (.slice (a1.map e_impl_Equation))]), (7, .int .i64 (a0.length : Int)), (8, .int .i64 (IntKind.i64.wrap (v8_6 + 1)))] (fun P hP => ?_) ?_)
          · simp only [W0.down, Nat.reduceEqDiff, ↓reduceIte, reduceCtorEq, Nat.reduceAdd, Nat.reduceSub, Nat.reduceMul, Nat.reduceLeDiff, Nat.reduceBEq, Nat.reduceLT, if_true, if_false, beq_self_eq_true, BEq.rfl, ne_eq, e_i64, e_impl_Equation]
            (try simp only [WN.down, Nat.reduceAdd, if_true, if_false, ↓reduceIte, e_i64, e_impl_Equation] at hP)
            (try simp only [WN.down, Nat.reduceAdd, if_true, if_false, ↓reduceIte, e_i64, e_impl_Equation])
            exact hP
          exact n5 _ (.inr ⟨_, weak_eq rfl, ih6 (IntKind.i64.wrap (v8_6 + 1)) h⟩)
      · refine w_cf (congrArg AV.bool b8) ?_
        simp only [b8, Bool.not_true, Bool.not_false]
        refine w_ex (x7 0 _ (x5 0 _ (b4 _ (n2 _ (.inl ?_)))))
        refine w_sreg (w_abs [(4, .int .i64 (-1))] (fun P hP => ?_) ?_)
        · simp only [W0.down, Nat.reduceEqDiff, ↓reduceIte, reduceCtorEq, Nat.reduceAdd, Nat.reduceSub, Nat.reduceMul, Nat.reduceLeDiff, Nat.reduceBEq, Nat.reduceLT, if_true, if_false, beq_self_eq_true, BEq.rfl, ne_eq, e_i64, e_impl_Equation]
          (try simp only [WN.down, Nat.reduceAdd, if_true, if_false, ↓reduceIte, e_i64, e_impl_Equation] at hP)
          (try simp only [WN.down, Nat.reduceAdd, if_true, if_false, ↓reduceIte, e_i64, e_impl_Equation])
          exact hP
        exact w_ret (r0 _ (.inl (w_fin [.int .i64 (-1)] rfl (by cases someE h; rfl) (by decide) outs_nil)))
  obtain ⟨n, h⟩ := limE h
  exact w_loop (.inr ⟨_, weak_eq rfl, L6 n 0 h⟩)

theorem ok_slices_ContainsFunc_impl_Equation__impl_ValidEquations_c1  (a0 : List impl_Equation) (a1 : List impl_Equation) (r : Bool) (h : slices_ContainsFunc_impl_Equation__impl_ValidEquations_c1  a0 a1 = some r) : OkAt Cc 191 [.slice (a0.map e_impl_Equation), .fn 192 [.ref (.slice (a1.map e_impl_Equation))]] (.bool r) [] := by
  refine OkAt.of_wpQ (fx := [0, 1]) Cc_ok Try.func191 rfl rfl s191 (Nat.le_of_ble_eq_true rfl) (fun Q0 r0 n0 => ?_)
  replace r0 : ∀ s, onW (Fw.Ends Cc [0, 1] [.tmp 4] (.bool r) []) s → Q0 .ret s := r0
  replace n0 : ∀ s, onW (Fw.Ends Cc [0, 1] [.tmp 4] (.bool r) []) s → Q0 .normal s := n0
  show wpC Cc c191 Q0 (stA [(0, .slice (a0.map e_impl_Equation)), (1, .fn 192 [.ref (.slice (a1.map e_impl_Equation))])])
  refine w_sreg (w_abs [(0, .slice (a0.map e_impl_Equation)), (1, .fn 192 [.ref (.slice (a1.map e_impl_Equation))])] (fun P hP => ?_) ?_)
  · simp only [W0.down, Nat.reduceEqDiff, ↓reduceIte, reduceCtorEq, Nat.reduceAdd, Nat.reduceSub, Nat.reduceMul, Nat.reduceLeDiff, Nat.reduceBEq, Nat.reduceLT, if_true, if_false, beq_self_eq_true, BEq.rfl, ne_eq, e_i64, e_impl_Equation]
    (try simp only [WN.down, Nat.reduceAdd, if_true, if_false, ↓reduceIte, e_i64, e_impl_Equation] at hP)
    (try simp only [WN.down, Nat.reduceAdd, if_true, if_false, ↓reduceIte, e_i64, e_impl_Equation])
    exact hP
  obtain ⟨x1, e3, h⟩ := bindE h
  refine w_sreg (w_abs [(4, .bool (decide (0 ≤ x1)))] (fun P hP => ?_) ?_)
  · simp only [W0.down, Nat.reduceEqDiff, ↓reduceIte, reduceCtorEq, Nat.reduceAdd, Nat.reduceSub, Nat.reduceMul, Nat.reduceLeDiff, Nat.reduceBEq, Nat.reduceLT, if_true, if_false, beq_self_eq_true, BEq.rfl, ne_eq, e_i64, e_impl_Equation]
    refine w_call0 (ok_slices_IndexFunc_impl_Equation__impl_ValidEquations_c1 a0 a1 _ e3) rfl rfl rfl rfl (.inl (by rfl)) ?_
    simp only [W0.down, Nat.reduceEqDiff, ↓reduceIte, reduceCtorEq, Nat.reduceAdd, Nat.reduceSub, Nat.reduceMul, Nat.reduceLeDiff, Nat.reduceBEq, Nat.reduceLT, if_true, if_false, beq_self_eq_true, BEq.rfl, ne_eq, e_i64, e_impl_Equation]
    (try simp only [WN.down, Nat.reduceAdd, if_true, if_false, ↓reduceIte, e_i64, e_impl_Equation] at hP)
    (try simp only [WN.down, Nat.reduceAdd, if_true, if_false, ↓reduceIte, e_i64, e_impl_Equation])
    exact hP
  exact w_ret (r0 _ (.inl (w_fin [.bool (decide (0 ≤ x1))] rfl (by cases someE h; rfl) (by decide) outs_nil)))

theorem ok_impl_ValidEquations  (a0 : List impl_Equation) (r : Bool) (h : impl_ValidEquations  a0 = some r) : OkAt Cc 100 [.slice (a0.map e_impl_Equation)] (.bool r) [] := by
  refine OkAt.of_wpQ (fx := [0]) Cc_ok Try.func100 rfl rfl s100 (Nat.le_of_ble_eq_true rfl) (fun Q0 r0 n0 => ?_)
  replace r0 : ∀ s, onW (Fw.Ends Cc [0] [.tmp 2] (.bool r) []) s → Q0 .ret s := r0
  replace n0 : ∀ s, onW (Fw.Ends Cc [0] [.tmp 2] (.bool r) []) s → Q0 .normal s := n0
  show wpC Cc c100 Q0 (stA [(0, .slice (a0.map e_impl_Equation))])
  refine w_sreg (w_abs [(1, .ubox (.slice (a0.map e_impl_Equation)))] (fun P hP => ?_) ?_)
  · simp only [W0.down, Nat.reduceEqDiff, ↓reduceIte, reduceCtorEq, Nat.reduceAdd, Nat.reduceSub, Nat.reduceMul, Nat.reduceLeDiff, Nat.reduceBEq, Nat.reduceLT, if_true, if_false, beq_self_eq_true, BEq.rfl, ne_eq, tt2, tt4, tt32, tt68, tt120, e_i64, e_impl_Equation]
    (try simp only [WN.down, Nat.reduceAdd, if_true, if_false, ↓reduceIte, tt2, tt4, tt32, tt68, tt120, e_i64, e_impl_Equation] at hP)
    (try simp only [WN.down, Nat.reduceAdd, if_true, if_false, ↓reduceIte, tt2, tt4, tt32, tt68, tt120, e_i64, e_impl_Equation])
    exact hP
  refine w_seq (fun Q2 n2 q2 x2 => ?_)
  obtain ⟨x1, e4, h⟩ := bindE h
  rcases condE h with ⟨b5, h⟩ | ⟨b5, h⟩
  · refine w_sreg (w_abs [(1, .ubox (.slice (a0.map e_impl_Equation))), (11, .bool true)] (fun P hP => ?_) ?_)
    · simp only [W0.down, Nat.reduceEqDiff, ↓reduceIte, reduceCtorEq, Nat.reduceAdd, Nat.reduceSub, Nat.reduceMul, Nat.reduceLeDiff, Nat.reduceBEq, Nat.reduceLT, if_true, if_false, beq_self_eq_true, BEq.rfl, ne_eq, tt2, tt4, tt32, tt68, tt120, e_i64, e_impl_Equation, b5]
      refine w_call0 (ok_impl_within (a0.length : Int) 1 120 _ e4) rfl rfl rfl rfl (.inl (by rfl)) ?_
      simp only [W0.down, Nat.reduceEqDiff, ↓reduceIte, reduceCtorEq, Nat.reduceAdd, Nat.reduceSub, Nat.reduceMul, Nat.reduceLeDiff, Nat.reduceBEq, Nat.reduceLT, if_true, if_false, beq_self_eq_true, BEq.rfl, ne_eq, tt2, tt4, tt32, tt68, tt120, e_i64, e_impl_Equation, b5]
      (try simp only [WN.down, Nat.reduceAdd, if_true, if_false, ↓reduceIte, tt2, tt4, tt32, tt68, tt120, e_i64, e_impl_Equation, b5] at hP)
      (try simp only [WN.down, Nat.reduceAdd, if_true, if_false, ↓reduceIte, tt2, tt4, tt32, tt68, tt120, e_i64, e_impl_Equation, b5])
      exact hP
    refine w_ct rfl ?_
    refine w_sreg (w_abs [(2, .bool false)] (fun P hP => ?_) ?_)
    · simp only [W0.down, Nat.reduceEqDiff, ↓reduceIte, reduceCtorEq, Nat.reduceAdd, Nat.reduceSub, Nat.reduceMul, Nat.reduceLeDiff, Nat.reduceBEq, Nat.reduceLT, if_true, if_false, beq_self_eq_true, BEq.rfl, ne_eq, e_i64, e_impl_Equation]
      (try simp only [WN.down, Nat.reduceAdd, if_true, if_false, ↓reduceIte, e_i64, e_impl_Equation] at hP)
      (try simp only [WN.down, Nat.reduceAdd, if_true, if_false, ↓reduceIte, e_i64, e_impl_Equation])
      exact hP
    exact w_ret (q2 _ (r0 _ (.inl (w_fin [.bool false] rfl (by cases someE h; rfl) (by decide) outs_nil))))
  · obtain ⟨x2, e7, h⟩ := bindE h
    refine w_sreg (w_abs [(1, .ubox (.slice (a0.map e_impl_Equation))), (11, .bool (!x2))] (fun P hP => ?_) ?_)
    · simp only [W0.down, Nat.reduceEqDiff, ↓reduceIte, reduceCtorEq, Nat.reduceAdd, Nat.reduceSub, Nat.reduceMul, Nat.reduceLeDiff, Nat.reduceBEq, Nat.reduceLT, if_true, if_false, beq_self_eq_true, BEq.rfl, ne_eq, tt2, tt4, tt32, tt68, tt120, e_i64, e_impl_Equation, b5]
      refine w_call0 (ok_impl_within (a0.length : Int) 1 120 _ e4) rfl rfl rfl rfl (.inl (by rfl)) ?_
      simp only [W0.down, Nat.reduceEqDiff, ↓reduceIte, reduceCtorEq, Nat.reduceAdd, Nat.reduceSub, Nat.reduceMul, Nat.reduceLeDiff, Nat.reduceBEq, Nat.reduceLT, if_true, if_false, beq_self_eq_true, BEq.rfl, ne_eq, tt2, tt4, tt32, tt68, tt120, e_i64, e_impl_Equation, b5]
      refine w_callg0 (ok_impl_blocksFit a0 _ e7) rfl rfl rfl rfl (.inl (by rfl)) ?_
      simp only [W0.down, Nat.reduceEqDiff, ↓reduceIte, reduceCtorEq, Nat.reduceAdd, Nat.reduceSub, Nat.reduceMul, Nat.reduceLeDiff, Nat.reduceBEq, Nat.reduceLT, if_true, if_false, beq_self_eq_true, BEq.rfl, ne_eq, tt2, tt4, tt32, tt68, tt120, e_i64, e_impl_Equation, b5]
      (try simp only [WN.down, Nat.reduceAdd, if_true, if_false, ↓reduceIte, tt2, tt4, tt32, tt68, tt120, e_i64, e_impl_Equation, b5] at hP)
      (try simp only [WN.down, Nat.reduceAdd, if_true, if_false, ↓reduceIte, tt2, tt4, tt32, tt68, tt120, e_i64, e_impl_Equation, b5])
      exact hP
    rcases condE h with ⟨b8, h⟩ | ⟨b8, h⟩
    · refine w_ct (congrArg AV.bool b8) ?_
      simp only [b8, Bool.not_true, Bool.not_false]
      refine w_sreg (w_abs [(2, .bool false)] (fun P hP => ?_) ?_)
      · simp only [W0.down, Nat.reduceEqDiff, ↓reduceIte, reduceCtorEq, Nat.reduceAdd, Nat.reduceSub, Nat.reduceMul, Nat.reduceLeDiff, Nat.reduceBEq, Nat.reduceLT, if_true, if_false, beq_self_eq_true, BEq.rfl, ne_eq, e_i64, e_impl_Equation]
        (try simp only [WN.down, Nat.reduceAdd, if_true, if_false, ↓reduceIte, e_i64, e_impl_Equation] at hP)
        (try simp only [WN.down, Nat.reduceAdd, if_true, if_false, ↓reduceIte, e_i64, e_impl_Equation])
        exact hP
      exact w_ret (q2 _ (r0 _ (.inl (w_fin [.bool false] rfl (by cases someE h; rfl) (by decide) outs_nil))))
    · refine w_cf (congrArg AV.bool b8) ?_
      simp only [b8, Bool.not_true, Bool.not_false]
      refine w_skip (n2 _ (.inl ?_))
      obtain ⟨x3, e11, h⟩ := bindE h
      refine w_sreg (w_abs [(2, .bool (!x3))] (fun P hP => ?_) ?_)
      · simp only [W0.down, Nat.reduceEqDiff, ↓reduceIte, reduceCtorEq, Nat.reduceAdd, Nat.reduceSub, Nat.reduceMul, Nat.reduceLeDiff, Nat.reduceBEq, Nat.reduceLT, if_true, if_false, beq_self_eq_true, BEq.rfl, ne_eq, tt2, tt4, tt32, tt68, tt120, e_i64, e_impl_Equation]
        refine w_call0 (ok_slices_ContainsFunc_impl_Equation__impl_ValidEquations_c1 a0 a0 _ e11) rfl rfl (by simp only [W0.down, Nat.reduceEqDiff, ↓reduceIte, reduceCtorEq, Nat.reduceAdd, Nat.reduceSub, Nat.reduceMul, Nat.reduceLeDiff, Nat.reduceBEq, Nat.reduceLT, if_true, if_false, beq_self_eq_true, BEq.rfl, ne_eq, tt2, tt4, tt32, tt68, tt120, e_i64, e_impl_Equation, view_s, view_h, viewH_s, share_s, @shares_map _ e_impl_Equation e_impl_Equation (fun _ => sh_e_impl_Equation _)]) rfl (.inr (by rfl)) ?_
        simp only [W0.down, Nat.reduceEqDiff, ↓reduceIte, reduceCtorEq, Nat.reduceAdd, Nat.reduceSub, Nat.reduceMul, Nat.reduceLeDiff, Nat.reduceBEq, Nat.reduceLT, if_true, if_false, beq_self_eq_true, BEq.rfl, ne_eq, tt2, tt4, tt32, tt68, tt120, e_i64, e_impl_Equation]
        (try simp only [WN.down, Nat.reduceAdd, if_true, if_false, ↓reduceIte, tt2, tt4, tt32, tt68, tt120, e_i64, e_impl_Equation] at hP)
        (try simp only [WN.down, Nat.reduceAdd, if_true, if_false, ↓reduceIte, tt2, tt4, tt32, tt68, tt120, e_i64, e_impl_Equation])
        exact hP
      exact w_ret (r0 _ (.inl (w_fin [.bool (!x3)] rfl (by cases someE h; rfl) (by decide) outs_nil)))

end Go.Proofs.Ytobljppjkklojaa
