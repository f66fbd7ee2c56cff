/- Part of a proof that a law returns true for every input. No condition. -/
import Derived.Test.YtobljppjkklojaaW1x8
namespace Go.Proofs.Ytobljppjkklojaa
open Go Go.Fw Go.Sh
set_option maxRecDepth 100000
set_option linter.unusedSimpArgs false
set_option linter.unusedVariables false

theorem ok_impl_writer_number  (a0 : List UInt8) (a1 : List Int) (r : (List UInt8)) (h : impl_writer_number  a0 a1 = some r) : OkAt Cc 101 [.ubox (.agg [.uslice 1 (a0.map byteAV)]), .slice (a1.map e_i64)] (.tuple []) [.ubox (.agg [.uslice 1 (r.map byteAV)]), .hole] := by
  refine OkAt.of_wpQ (fx := [0, 1]) Cc_ok Try.func101 rfl rfl s101 (Nat.le_of_ble_eq_true rfl) (fun Q0 r0 n0 => ?_)
  replace r0 : ∀ s, onW (Fw.Ends Cc [0, 1] [] (.tuple []) [.ubox (.agg [.uslice 1 (r.map byteAV)]), .hole]) s → Q0 .ret s := r0
  replace n0 : ∀ s, onW (Fw.Ends Cc [0, 1] [] (.tuple []) [.ubox (.agg [.uslice 1 (r.map byteAV)]), .hole]) s → Q0 .normal s := n0
  show wpC Cc c101 Q0 (stA [(0, .ubox (.agg [.uslice 1 (a0.map byteAV)])), (1, .slice (a1.map e_i64))])
  refine w_sreg (w_abs [(0, .ubox (.agg [.uslice 1 (a0.map byteAV)])), (6, .slice (a1.map e_i64)), (7, .int .i64 (a1.length : Int)), (8, .int .i64 0)] (fun P hP => ?_) ?_)
  · simp only [W0.down, Nat.reduceEqDiff, ↓reduceIte, reduceCtorEq, Nat.reduceAdd, Nat.reduceSub, Nat.reduceMul, Nat.reduceLeDiff, Nat.reduceBEq, Nat.reduceLT, if_true, if_false, beq_self_eq_true, BEq.rfl, ne_eq, tt2, tt68, byteAV, e_i64]
    (try simp only [WN.down, Nat.reduceAdd, if_true, if_false, ↓reduceIte, tt2, tt68, byteAV, e_i64] at hP)
    (try simp only [WN.down, Nat.reduceAdd, if_true, if_false, ↓reduceIte, tt2, tt68, byteAV, e_i64])
    exact hP
  refine w_blk (fun Q2 n2 q2 b2 x2 => ?_)
  have L3 : ∀ (n : Nat) (v0_3 : List UInt8) (v8_3 : Int), impl_writer_number_l3 a1 n v0_3 v8_3 = some r → lpC Cc c101_4 Q2 (stA [(0, .ubox (.agg [.uslice 1 (v0_3.map byteAV)])), (6, .slice (a1.map e_i64)), (7, .int .i64 (a1.length : Int)), (8, .int .i64 v8_3)]) := by
    intro m3
    induction m3 with
    | zero => intro v0_3 v8_3 h; cases (show none = some r from h)
    | succ m3 ih3 =>
      intro v0_3 v8_3 h
      replace h : impl_writer_number_b3 (impl_writer_number_l3 a1 m3) a1 v0_3 v8_3 = some r := h
      refine lpC_step (fun Q3 n3 q3 x3 => ?_)
      refine w_sreg (w_abs [(0, .ubox (.agg [.uslice 1 (v0_3.map byteAV)])), (6, .slice (a1.map e_i64)), (7, .int .i64 (a1.length : Int)), (8, .int .i64 v8_3), (9, .bool (decide (v8_3 < (a1.length : Int))))] (fun P hP => ?_) ?_)
      · simp only [W0.down, Nat.reduceEqDiff, ↓reduceIte, reduceCtorEq, Nat.reduceAdd, Nat.reduceSub, Nat.reduceMul, Nat.reduceLeDiff, Nat.reduceBEq, Nat.reduceLT, if_true, if_false, beq_self_eq_true, BEq.rfl, ne_eq, byteAV, e_i64]
        (try simp only [WN.down, Nat.reduceAdd, if_true, if_false, ↓reduceIte, byteAV, e_i64] at hP)
        (try simp only [WN.down, Nat.reduceAdd, if_true, if_false, ↓reduceIte, byteAV, e_i64])
        exact hP
      refine w_seq (fun Q5 n5 q5 x5 => ?_)
      rcases condE h with ⟨b6, h⟩ | ⟨b6, h⟩
      · refine w_ct (congrArg AV.bool b6) ?_
        simp only [b6, Bool.not_true, Bool.not_false]
        refine w_skip (n5 _ (.inl ?_))
        refine w_seq (fun Q7 n7 q7 x7 => ?_)
        refine w_blk (fun Q8 n8 q8 b8 x8 => ?_)
        obtain ⟨x1, e10, h⟩ := bindE h
        refine w_sreg (w_abs [(0, .ubox (.agg [.uslice 1 (v0_3.map byteAV)])), (5, .int .i64 x1), (6, .slice (a1.map e_i64)), (7, .int .i64 (a1.length : Int)), (8, .int .i64 v8_3)] (fun P hP => ?_) ?_)
        · simp only [W0.down, Nat.reduceEqDiff, ↓reduceIte, reduceCtorEq, Nat.reduceAdd, Nat.reduceSub, Nat.reduceMul, Nat.reduceLeDiff, Nat.reduceBEq, Nat.reduceLT, if_true, if_false, beq_self_eq_true, BEq.rfl, ne_eq, tt2, tt68, byteAV, e_i64, e10]
          (try simp only [WN.down, Nat.reduceAdd, if_true, if_false, ↓reduceIte, tt2, tt68, byteAV, e_i64, e10] at hP)
          (try simp only [WN.down, Nat.reduceAdd, if_true, if_false, ↓reduceIte, tt2, tt68, byteAV, e_i64, e10])
          exact hP
        refine w_seq (fun Q11 n11 q11 x11 => ?_)
        refine w_blk (fun Q12 n12 q12 b12 x12 => ?_)
        have L16 : ∀ (n : Nat) (v0_16 : List UInt8) (v5_16 : Int) (v8_16 : Int), impl_writer_number_l16 (impl_writer_number_l3 a1 m3) a1 n v0_16 v5_16 v8_16 = some r → lpC Cc c101_17 Q12 (stA [(0, .ubox (.agg [.uslice 1 (v0_16.map byteAV)])), (5, .int .i64 v5_16), (6, .slice (a1.map e_i64)), (7, .int .i64 (a1.length : Int)), (8, .int .i64 v8_16)]) := by
          intro m16
          induction m16 with
          | zero => intro v0_16 v5_16 v8_16 h; cases (show none = some r from h)
          | succ m16 ih16 =>
            intro v0_16 v5_16 v8_16 h
            replace h : impl_writer_number_b16 (impl_writer_number_l3 a1 m3) (impl_writer_number_l16 (impl_writer_number_l3 a1 m3) a1 m16) a1 v0_16 v5_16 v8_16 = some r := h
            refine lpC_step (fun Q13 n13 q13 x13 => ?_)
            refine w_seq (fun Q14 n14 q14 x14 => ?_)
            refine w_sreg (w_abs [(0, .ubox (.agg [.uslice 1 (v0_16.map byteAV)])), (5, .int .i64 v5_16), (6, .slice (a1.map e_i64)), (7, .int .i64 (a1.length : Int)), (8, .int .i64 v8_16), (13, .bool (decide (128 ≤ v5_16)))] (fun P hP => ?_) ?_)
            · simp only [W0.down, Nat.reduceEqDiff, ↓reduceIte, reduceCtorEq, Nat.reduceAdd, Nat.reduceSub, Nat.reduceMul, Nat.reduceLeDiff, Nat.reduceBEq, Nat.reduceLT, if_true, if_false, beq_self_eq_true, BEq.rfl, ne_eq, byteAV, e_i64]
              (try simp only [WN.down, Nat.reduceAdd, if_true, if_false, ↓reduceIte, byteAV, e_i64] at hP)
              (try simp only [WN.down, Nat.reduceAdd, if_true, if_false, ↓reduceIte, byteAV, e_i64])
              exact hP
            rcases condE h with ⟨b16, h⟩ | ⟨b16, h⟩
            · refine w_ct (congrArg AV.bool b16) ?_
              simp only [b16, Bool.not_true, Bool.not_false]
              refine w_skip (n14 _ (.inl ?_))
              refine w_blk (fun Q17 n17 q17 b17 x17 => ?_)
              obtain ⟨u20, e19, h⟩ := bindE h
              (try simp only [List.length_append, List.length_cons, List.length_nil, List.length_map, List.length_replicate, Nat.zero_add, Nat.add_zero, Nat.reduceAdd] at e19)
              refine w_sreg (w_abs [(0, .ubox (.agg [.uslice 1 ((v0_16 ++ [(toB (IntKind.i64.wrap (128 + (Int.tmod v5_16 128))))]).map byteAV)])), (5, .int .i64 v5_16), (6, .slice (a1.map e_i64)), (7, .int .i64 (a1.length : Int)), (8, .int .i64 v8_16)] (fun P hP => ?_) ?_)
              · simp only [W0.down, Nat.reduceEqDiff, ↓reduceIte, reduceCtorEq, Nat.reduceAdd, Nat.reduceSub, Nat.reduceMul, Nat.reduceLeDiff, Nat.reduceBEq, Nat.reduceLT, if_true, if_false, beq_self_eq_true, BEq.rfl, ne_eq, tt5, tt107, tt124, byteAV, e_i64, @bnI_rem' .i64 128 (by decide), @cvt_i' Cc 2 5 .u8 rfl rfl, (show ∀ s, bsl Cc s 107 1 [(0, .int .u8 (IntKind.u8.wrap (IntKind.i64.wrap (128 + (Int.tmod v5_16 128)))))] = some (.uslice 1 [.int .u8 (IntKind.u8.wrap (IntKind.i64.wrap (128 + (Int.tmod v5_16 128))))], s) from fun s => by kernel_rfl), @apd_s Cc 107 107 5 rfl rfl, ap_s, ap2_s, ap3_s, all_cons, all_nil, e19, byte_all]
                (try simp only [WN.down, Nat.reduceAdd, if_true, if_false, ↓reduceIte, tt5, tt107, tt124, byteAV, e_i64, @bnI_rem' .i64 128 (by decide), @cvt_i' Cc 2 5 .u8 rfl rfl, (show ∀ s, bsl Cc s 107 1 [(0, .int .u8 (IntKind.u8.wrap (IntKind.i64.wrap (128 + (Int.tmod v5_16 128)))))] = some (.uslice 1 [.int .u8 (IntKind.u8.wrap (IntKind.i64.wrap (128 + (Int.tmod v5_16 128))))], s) from fun s => by kernel_rfl), @apd_s Cc 107 107 5 rfl rfl, ap_s, ap2_s, ap3_s, all_cons, all_nil, e19, byte_all] at hP)
                (try simp only [WN.down, Nat.reduceAdd, if_true, if_false, ↓reduceIte, tt5, tt107, tt124, byteAV, e_i64, @bnI_rem' .i64 128 (by decide), @cvt_i' Cc 2 5 .u8 rfl rfl, (show ∀ s, bsl Cc s 107 1 [(0, .int .u8 (IntKind.u8.wrap (IntKind.i64.wrap (128 + (Int.tmod v5_16 128)))))] = some (.uslice 1 [.int .u8 (IntKind.u8.wrap (IntKind.i64.wrap (128 + (Int.tmod v5_16 128))))], s) from fun s => by kernel_rfl), @apd_s Cc 107 107 5 rfl rfl, ap_s, ap2_s, ap3_s, all_cons, all_nil, e19, byte_all])
                exact hP
              refine w_reg (w_abs [(0, .ubox (.agg [.uslice 1 ((v0_16 ++ [(toB (IntKind.i64.wrap (128 + (Int.tmod v5_16 128))))]).map byteAV)])), (5, .int .i64 (IntKind.i64.wrap (Int.tdiv v5_16 128))), (6, .slice (a1.map e_i64)), (7, .int .i64 (a1.length : Int)), (8, .int .i64 v8_16)] (fun P hP => ?_) ?_)
              · simp only [W0.down, Nat.reduceEqDiff, ↓reduceIte, reduceCtorEq, Nat.reduceAdd, Nat.reduceSub, Nat.reduceMul, Nat.reduceLeDiff, Nat.reduceBEq, Nat.reduceLT, if_true, if_false, beq_self_eq_true, BEq.rfl, ne_eq, byteAV, e_i64, @bnI_quo' .i64 128 (by decide)]
                (try simp only [WN.down, Nat.reduceAdd, if_true, if_false, ↓reduceIte, byteAV, e_i64, @bnI_quo' .i64 128 (by decide)] at hP)
                (try simp only [WN.down, Nat.reduceAdd, if_true, if_false, ↓reduceIte, byteAV, e_i64, @bnI_quo' .i64 128 (by decide)])
                exact hP
              exact n17 _ (n13 _ (.inr ⟨_, weak_eq rfl, ih16 (v0_16 ++ [(toB (IntKind.i64.wrap (128 + (Int.tmod v5_16 128))))]) (IntKind.i64.wrap (Int.tdiv v5_16 128)) v8_16 h⟩))
            · refine w_cf (congrArg AV.bool b16) ?_
              simp only [b16, Bool.not_true, Bool.not_false]
              refine w_ex (x14 2 _ (x13 2 _ (b12 _ (n11 _ (.inl ?_)))))
              obtain ⟨u23, e22, h⟩ := bindE h
              (try simp only [List.length_append, List.length_cons, List.length_nil, List.length_map, List.length_replicate, Nat.zero_add, Nat.add_zero, Nat.reduceAdd] at e22)
              refine w_reg (w_abs [(0, .ubox (.agg [.uslice 1 ((v0_16 ++ [(toB v5_16)]).map byteAV)])), (6, .slice (a1.map e_i64)), (7, .int .i64 (a1.length : Int)), (8, .int .i64 v8_16)] (fun P hP => ?_) ?_)
              · simp only [W0.down, Nat.reduceEqDiff, ↓reduceIte, reduceCtorEq, Nat.reduceAdd, Nat.reduceSub, Nat.reduceMul, Nat.reduceLeDiff, Nat.reduceBEq, Nat.reduceLT, if_true, if_false, beq_self_eq_true, BEq.rfl, ne_eq, tt5, tt107, tt124, byteAV, e_i64, @cvt_i' Cc 2 5 .u8 rfl rfl, (show ∀ s, bsl Cc s 107 1 [(0, .int .u8 (IntKind.u8.wrap v5_16))] = some (.uslice 1 [.int .u8 (IntKind.u8.wrap v5_16)], s) from fun s => by kernel_rfl), @apd_s Cc 107 107 5 rfl rfl, ap_s, ap2_s, ap3_s, all_cons, all_nil, e22, byte_all]
                (try simp only [WN.down, Nat.reduceAdd, if_true, if_false, ↓reduceIte, tt5, tt107, tt124, byteAV, e_i64, @cvt_i' Cc 2 5 .u8 rfl rfl, (show ∀ s, bsl Cc s 107 1 [(0, .int .u8 (IntKind.u8.wrap v5_16))] = some (.uslice 1 [.int .u8 (IntKind.u8.wrap v5_16)], s) from fun s => by kernel_rfl), @apd_s Cc 107 107 5 rfl rfl, ap_s, ap2_s, ap3_s, all_cons, all_nil, e22, byte_all] at hP)
                (try simp only [WN.down, Nat.reduceAdd, if_true, if_false, ↓reduceIte, tt5, tt107, tt124, byteAV, e_i64, @cvt_i' Cc 2 5 .u8 rfl rfl, (show ∀ s, bsl Cc s 107 1 [(0, .int .u8 (IntKind.u8.wrap v5_16))] = some (.uslice 1 [.int .u8 (IntKind.u8.wrap v5_16)], s) from fun s => by kernel_rfl), @apd_s Cc 107 107 5 rfl rfl, ap_s, ap2_s, ap3_s, all_cons, all_nil, e22, byte_all])
                exact hP
              refine n8 _ (n7 _ (.inl ?_))
              refine w_reg (w_abs [(0, .ubox (.agg [.uslice 1 ((v0_16 ++ [(toB v5_16)]).map byteAV)])), (6, .slice (a1.map e_i64)), (7, .int .i64 (a1.length : Int)), (8, .int .i64 (IntKind.i64.wrap (v8_16 + 1)))] (fun P hP => ?_) ?_)
              · simp only [W0.down, Nat.reduceEqDiff, ↓reduceIte, reduceCtorEq, Nat.reduceAdd, Nat.reduceSub, Nat.reduceMul, Nat.reduceLeDiff, Nat.reduceBEq, Nat.reduceLT, if_true, if_false, beq_self_eq_true, BEq.rfl, ne_eq, byteAV, e_i64]
                (try simp only [WN.down, Nat.reduceAdd, if_true, if_false, ↓reduceIte, byteAV, e_i64] at hP)
                (try simp only [WN.down, Nat.reduceAdd, if_true, if_false, ↓reduceIte, byteAV, e_i64])
                exact hP
              exact n3 _ (.inr ⟨_, weak_eq rfl, ih3 (v0_16 ++ [(toB v5_16)]) (IntKind.i64.wrap (v8_16 + 1)) h⟩)
        obtain ⟨n, h⟩ := limE h
        exact w_loop (.inr ⟨_, weak_eq rfl, L16 n v0_3 x1 v8_3 h⟩)
      · refine w_cf (congrArg AV.bool b6) ?_
        simp only [b6, Bool.not_true, Bool.not_false]
        exact w_ex (x5 0 _ (x3 0 _ (b2 _ (n0 _ (.inl (w_fin [] rfl (by cases someE h; rfl) (by decide) (outs_of (out_is (by cases someE h; rfl) rfl rfl rfl (out_no (out_end))))))))))
  obtain ⟨n, h⟩ := limE h
  exact w_loop (.inr ⟨_, weak_eq rfl, L3 n a0 0 h⟩)

theorem ok_impl_truth  (a0 : Bool) (r : Int) (h : impl_truth  a0 = some r) : OkAt Cc 102 [.bool a0] (.int .i64 r) [] := by
  refine OkAt.of_wpQ (fx := [0]) Cc_ok Try.func102 rfl rfl s102 (Nat.le_of_ble_eq_true rfl) (fun Q0 r0 n0 => ?_)
  replace r0 : ∀ s, onW (Fw.Ends Cc [0] [.tmp 2] (.int .i64 r) []) s → Q0 .ret s := r0
  replace n0 : ∀ s, onW (Fw.Ends Cc [0] [.tmp 2] (.int .i64 r) []) s → Q0 .normal s := n0
  show wpC Cc c102 Q0 (stA [(0, .bool a0)])
  refine w_sreg (w_abs [(0, .bool a0)] (fun P hP => ?_) ?_)
  · simp only [W0.down, Nat.reduceEqDiff, ↓reduceIte, reduceCtorEq, Nat.reduceAdd, Nat.reduceSub, Nat.reduceMul, Nat.reduceLeDiff, Nat.reduceBEq, Nat.reduceLT, if_true, if_false, beq_self_eq_true, BEq.rfl, ne_eq]
    (try simp only [WN.down, Nat.reduceAdd, if_true, if_false, ↓reduceIte] at hP)
    (try simp only [WN.down, Nat.reduceAdd, if_true, if_false, ↓reduceIte])
    exact hP
  refine w_seq (fun Q2 n2 q2 x2 => ?_)
  refine w_sreg (w_abs [(3, .bool a0)] (fun P hP => ?_) ?_)
  · simp only [W0.down, Nat.reduceEqDiff, ↓reduceIte, reduceCtorEq, Nat.reduceAdd, Nat.reduceSub, Nat.reduceMul, Nat.reduceLeDiff, Nat.reduceBEq, Nat.reduceLT, if_true, if_false, beq_self_eq_true, BEq.rfl, ne_eq]
    (try simp only [WN.down, Nat.reduceAdd, if_true, if_false, ↓reduceIte] at hP)
    (try simp only [WN.down, Nat.reduceAdd, if_true, if_false, ↓reduceIte])
    exact hP
  rcases condE h with ⟨b4, h⟩ | ⟨b4, h⟩
  · refine w_ct (congrArg AV.bool b4) ?_
    simp only [b4, Bool.not_true, Bool.not_false]
    refine w_sreg (w_abs [(2, .int .i64 1)] (fun P hP => ?_) ?_)
    · simp only [W0.down, Nat.reduceEqDiff, ↓reduceIte, reduceCtorEq, Nat.reduceAdd, Nat.reduceSub, Nat.reduceMul, Nat.reduceLeDiff, Nat.reduceBEq, Nat.reduceLT, if_true, if_false, beq_self_eq_true, BEq.rfl, ne_eq]
      (try simp only [WN.down, Nat.reduceAdd, if_true, if_false, ↓reduceIte] at hP)
      (try simp only [WN.down, Nat.reduceAdd, if_true, if_false, ↓reduceIte])
      exact hP
    exact w_ret (q2 _ (r0 _ (.inl (w_fin [.int .i64 1] rfl (by cases someE h; rfl) (by decide) outs_nil))))
  · refine w_cf (congrArg AV.bool b4) ?_
    simp only [b4, Bool.not_true, Bool.not_false]
    refine w_skip (n2 _ (.inl ?_))
    refine w_sreg (w_abs [(2, .int .i64 0)] (fun P hP => ?_) ?_)
    · simp only [W0.down, Nat.reduceEqDiff, ↓reduceIte, reduceCtorEq, Nat.reduceAdd, Nat.reduceSub, Nat.reduceMul, Nat.reduceLeDiff, Nat.reduceBEq, Nat.reduceLT, if_true, if_false, beq_self_eq_true, BEq.rfl, ne_eq]
      (try simp only [WN.down, Nat.reduceAdd, if_true, if_false, ↓reduceIte] at hP)
      (try simp only [WN.down, Nat.reduceAdd, if_true, if_false, ↓reduceIte])
      exact hP
    exact w_ret (r0 _ (.inl (w_fin [.int .i64 0] rfl (by cases someE h; rfl) (by decide) outs_nil)))

theorem ok_impl_writer_image  (a0 : List UInt8) (r : (List UInt8)) (h : impl_writer_image  a0 = some r) : OkAt Cc 103 [.ubox (.agg [.uslice 1 (a0.map byteAV)])] (.str r) [.hole] := by
  refine OkAt.of_wpQ (fx := [0]) Cc_ok Try.func103 rfl rfl s103 (Nat.le_of_ble_eq_true rfl) (fun Q0 r0 n0 => ?_)
  replace r0 : ∀ s, onW (Fw.Ends Cc [0] [.tmp 2] (.str r) [.hole]) s → Q0 .ret s := r0
  replace n0 : ∀ s, onW (Fw.Ends Cc [0] [.tmp 2] (.str r) [.hole]) s → Q0 .normal s := n0
  show wpC Cc c103 Q0 (stA [(0, .ubox (.agg [.uslice 1 (a0.map byteAV)]))])
  refine w_sreg (w_abs [(0, .ubox (.agg [.uslice 1 (a0.map byteAV)]))] (fun P hP => ?_) ?_)
  · simp only [W0.down, Nat.reduceEqDiff, ↓reduceIte, reduceCtorEq, Nat.reduceAdd, Nat.reduceSub, Nat.reduceMul, Nat.reduceLeDiff, Nat.reduceBEq, Nat.reduceLT, if_true, if_false, beq_self_eq_true, BEq.rfl, ne_eq, byteAV]
    (try simp only [WN.down, Nat.reduceAdd, if_true, if_false, ↓reduceIte, byteAV] at hP)
    (try simp only [WN.down, Nat.reduceAdd, if_true, if_false, ↓reduceIte, byteAV])
    exact hP
  obtain ⟨x1, e3, h⟩ := bindE h
  refine w_sreg (w_abs [(0, .ubox (.agg [.uslice 1 (a0.map byteAV)])), (3, .int .i64 x1)] (fun P hP => ?_) ?_)
  · simp only [W0.down, Nat.reduceEqDiff, ↓reduceIte, reduceCtorEq, Nat.reduceAdd, Nat.reduceSub, Nat.reduceMul, Nat.reduceLeDiff, Nat.reduceBEq, Nat.reduceLT, if_true, if_false, beq_self_eq_true, BEq.rfl, ne_eq, tt5, tt107, tt124, byteAV, (@cvt_bs' Cc 107 9 5 rfl rfl rfl).2.2, bytesOf_s, strU_s]
    refine w_call0 (ok_impl_Crc16 a0 65535 _ e3) rfl rfl rfl rfl (.inl (by rfl)) ?_
    simp only [W0.down, Nat.reduceEqDiff, ↓reduceIte, reduceCtorEq, Nat.reduceAdd, Nat.reduceSub, Nat.reduceMul, Nat.reduceLeDiff, Nat.reduceBEq, Nat.reduceLT, if_true, if_false, beq_self_eq_true, BEq.rfl, ne_eq, tt5, tt107, tt124, byteAV, (@cvt_bs' Cc 107 9 5 rfl rfl rfl).2.2, bytesOf_s, strU_s]
    (try simp only [WN.down, Nat.reduceAdd, if_true, if_false, ↓reduceIte, tt5, tt107, tt124, byteAV, (@cvt_bs' Cc 107 9 5 rfl rfl rfl).2.2, bytesOf_s, strU_s] at hP)
    (try simp only [WN.down, Nat.reduceAdd, if_true, if_false, ↓reduceIte, tt5, tt107, tt124, byteAV, (@cvt_bs' Cc 107 9 5 rfl rfl rfl).2.2, bytesOf_s, strU_s])
    exact hP
  obtain ⟨u10, e5, h⟩ := bindE h
  (try simp only [List.length_append, List.length_cons, List.length_nil, List.length_map, List.length_replicate, Nat.zero_add, Nat.add_zero, Nat.reduceAdd] at e5)
  refine w_sreg (w_abs [(0, .ubox (.agg [.hole])), (4, .uslice 1 ((a0 ++ [(toB (IntKind.i64.wrap (Int.tdiv x1 256))), (toB (Int.tmod x1 256))]).map byteAV))] (fun P hP => ?_) ?_)
  · simp only [W0.down, Nat.reduceEqDiff, ↓reduceIte, reduceCtorEq, Nat.reduceAdd, Nat.reduceSub, Nat.reduceMul, Nat.reduceLeDiff, Nat.reduceBEq, Nat.reduceLT, if_true, if_false, beq_self_eq_true, BEq.rfl, ne_eq, tt5, tt107, tt124, byteAV, @bnI_quo' .i64 256 (by decide), @cvt_i' Cc 2 5 .u8 rfl rfl, @bnI_rem' .i64 256 (by decide), (show ∀ s, bsl Cc s 107 2 [(0, .int .u8 (IntKind.u8.wrap (IntKind.i64.wrap (Int.tdiv x1 256)))), (1, .int .u8 (IntKind.u8.wrap (Int.tmod x1 256)))] = some (.uslice 1 [.int .u8 (IntKind.u8.wrap (IntKind.i64.wrap (Int.tdiv x1 256))), .int .u8 (IntKind.u8.wrap (Int.tmod x1 256))], s) from fun s => by kernel_rfl), @apd_s Cc 107 107 5 rfl rfl, ap_s, ap2_s, ap3_s, all_cons, all_nil, e5, byte_all]
    (try simp only [WN.down, Nat.reduceAdd, if_true, if_false, ↓reduceIte, tt5, tt107, tt124, byteAV, @bnI_quo' .i64 256 (by decide), @cvt_i' Cc 2 5 .u8 rfl rfl, @bnI_rem' .i64 256 (by decide), (show ∀ s, bsl Cc s 107 2 [(0, .int .u8 (IntKind.u8.wrap (IntKind.i64.wrap (Int.tdiv x1 256)))), (1, .int .u8 (IntKind.u8.wrap (Int.tmod x1 256)))] = some (.uslice 1 [.int .u8 (IntKind.u8.wrap (IntKind.i64.wrap (Int.tdiv x1 256))), .int .u8 (IntKind.u8.wrap (Int.tmod x1 256))], s) from fun s => by kernel_rfl), @apd_s Cc 107 107 5 rfl rfl, ap_s, ap2_s, ap3_s, all_cons, all_nil, e5, byte_all] at hP)
    (try simp only [WN.down, Nat.reduceAdd, if_true, if_false, ↓reduceIte, tt5, tt107, tt124, byteAV, @bnI_quo' .i64 256 (by decide), @cvt_i' Cc 2 5 .u8 rfl rfl, @bnI_rem' .i64 256 (by decide), (show ∀ s, bsl Cc s 107 2 [(0, .int .u8 (IntKind.u8.wrap (IntKind.i64.wrap (Int.tdiv x1 256)))), (1, .int .u8 (IntKind.u8.wrap (Int.tmod x1 256)))] = some (.uslice 1 [.int .u8 (IntKind.u8.wrap (IntKind.i64.wrap (Int.tdiv x1 256))), .int .u8 (IntKind.u8.wrap (Int.tmod x1 256))], s) from fun s => by kernel_rfl), @apd_s Cc 107 107 5 rfl rfl, ap_s, ap2_s, ap3_s, all_cons, all_nil, e5, byte_all])
    exact hP
  refine w_seq (fun Q6 n6 q6 x6 => ?_)
  refine w_sreg (w_abs [(0, .ubox (.agg [.hole])), (4, .uslice 1 ((a0 ++ [(toB (IntKind.i64.wrap (Int.tdiv x1 256))), (toB (Int.tmod x1 256))]).map byteAV)), (25, .bool (decide (6000 < ((a0 ++ [(toB (IntKind.i64.wrap (Int.tdiv x1 256))), (toB (Int.tmod x1 256))]).length : Int))))] (fun P hP => ?_) ?_)
  · simp only [W0.down, Nat.reduceEqDiff, ↓reduceIte, reduceCtorEq, Nat.reduceAdd, Nat.reduceSub, Nat.reduceMul, Nat.reduceLeDiff, Nat.reduceBEq, Nat.reduceLT, if_true, if_false, beq_self_eq_true, BEq.rfl, ne_eq, tt5, tt107, byteAV]
    (try simp only [WN.down, Nat.reduceAdd, if_true, if_false, ↓reduceIte, tt5, tt107, byteAV] at hP)
    (try simp only [WN.down, Nat.reduceAdd, if_true, if_false, ↓reduceIte, tt5, tt107, byteAV])
    exact hP
  rcases condE h with ⟨b8, h⟩ | ⟨b8, h⟩
  · refine w_ct (congrArg AV.bool b8) ?_
    simp only [b8, Bool.not_true, Bool.not_false]
    refine w_sreg (w_abs [(0, .ubox (.agg [.hole])), (2, .str ([] : List UInt8))] (fun P hP => ?_) ?_)
    · simp only [W0.down, Nat.reduceEqDiff, ↓reduceIte, reduceCtorEq, Nat.reduceAdd, Nat.reduceSub, Nat.reduceMul, Nat.reduceLeDiff, Nat.reduceBEq, Nat.reduceLT, if_true, if_false, beq_self_eq_true, BEq.rfl, ne_eq, byteAV]
      (try simp only [WN.down, Nat.reduceAdd, if_true, if_false, ↓reduceIte, byteAV] at hP)
      (try simp only [WN.down, Nat.reduceAdd, if_true, if_false, ↓reduceIte, byteAV])
      exact hP
    exact w_ret (q6 _ (r0 _ (.inl (w_fin [.str ([] : List UInt8)] rfl (by cases someE h; rfl) (by decide) (outs_of (out_no (out_end)))))))
  · refine w_cf (congrArg AV.bool b8) ?_
    simp only [b8, Bool.not_true, Bool.not_false]
    refine w_skip (n6 _ (.inl ?_))
    refine w_sreg (w_abs [(0, .ubox (.agg [.hole])), (2, .str (a0 ++ [(toB (IntKind.i64.wrap (Int.tdiv x1 256))), (toB (Int.tmod x1 256))]))] (fun P hP => ?_) ?_)
    · simp only [W0.down, Nat.reduceEqDiff, ↓reduceIte, reduceCtorEq, Nat.reduceAdd, Nat.reduceSub, Nat.reduceMul, Nat.reduceLeDiff, Nat.reduceBEq, Nat.reduceLT, if_true, if_false, beq_self_eq_true, BEq.rfl, ne_eq, byteAV, (@cvt_bs' Cc 107 9 5 rfl rfl rfl).2.2, bytesOf_s, strU_s]
      (try simp only [WN.down, Nat.reduceAdd, if_true, if_false, ↓reduceIte, byteAV, (@cvt_bs' Cc 107 9 5 rfl rfl rfl).2.2, bytesOf_s, strU_s] at hP)
      (try simp only [WN.down, Nat.reduceAdd, if_true, if_false, ↓reduceIte, byteAV, (@cvt_bs' Cc 107 9 5 rfl rfl rfl).2.2, bytesOf_s, strU_s])
      exact hP
    exact w_ret (r0 _ (.inl (w_fin [.str (a0 ++ [(toB (IntKind.i64.wrap (Int.tdiv x1 256))), (toB (Int.tmod x1 256))])] rfl (by cases someE h; rfl) (by decide) (outs_of (out_no (out_end))))))

theorem ok_impl_EncodeEquations  (a0 : List impl_Equation) (r : (List UInt8)) (h : impl_EncodeEquations  a0 = some r) : OkAt Cc 29 [.slice (a0.map e_impl_Equation)] (.str r) [] := by
  refine OkAt.of_wpQ (fx := [0]) Cc_ok Try.func29 rfl rfl s29 (Nat.le_of_ble_eq_true rfl) (fun Q0 r0 n0 => ?_)
  replace r0 : ∀ s, onW (Fw.Ends Cc [0] [.tmp 2] (.str r) []) s → Q0 .ret s := r0
  replace n0 : ∀ s, onW (Fw.Ends Cc [0] [.tmp 2] (.str r) []) s → Q0 .normal s := n0
  show wpC Cc c29 Q0 (stA [(0, .slice (a0.map e_impl_Equation))])
  refine w_sreg (w_abs [(0, .slice (a0.map e_impl_Equation))] (fun P hP => ?_) ?_)
  · simp only [W0.down, Nat.reduceEqDiff, ↓reduceIte, reduceCtorEq, Nat.reduceAdd, Nat.reduceSub, Nat.reduceMul, Nat.reduceLeDiff, Nat.reduceBEq, Nat.reduceLT, if_true, if_false, beq_self_eq_true, BEq.rfl, ne_eq, e_i64, e_impl_Equation]
    (try simp only [WN.down, Nat.reduceAdd, if_true, if_false, ↓reduceIte, e_i64, e_impl_Equation] at hP)
    (try simp only [WN.down, Nat.reduceAdd, if_true, if_false, ↓reduceIte, e_i64, e_impl_Equation])
    exact hP
  refine w_seq (fun Q2 n2 q2 x2 => ?_)
  obtain ⟨x1, e4, h⟩ := bindE h
  refine w_sreg (w_abs [(0, .slice (a0.map e_impl_Equation)), (8, .bool (!x1))] (fun P hP => ?_) ?_)
  · simp only [W0.down, Nat.reduceEqDiff, ↓reduceIte, reduceCtorEq, Nat.reduceAdd, Nat.reduceSub, Nat.reduceMul, Nat.reduceLeDiff, Nat.reduceBEq, Nat.reduceLT, if_true, if_false, beq_self_eq_true, BEq.rfl, ne_eq, e_i64, e_impl_Equation]
    refine w_call0 (ok_impl_ValidEquations a0 _ e4) rfl rfl rfl rfl (.inl (by rfl)) ?_
    simp only [W0.down, Nat.reduceEqDiff, ↓reduceIte, reduceCtorEq, Nat.reduceAdd, Nat.reduceSub, Nat.reduceMul, Nat.reduceLeDiff, Nat.reduceBEq, Nat.reduceLT, if_true, if_false, beq_self_eq_true, BEq.rfl, ne_eq, e_i64, e_impl_Equation]
    (try simp only [WN.down, Nat.reduceAdd, if_true, if_false, ↓reduceIte, e_i64, e_impl_Equation] at hP)
    (try simp only [WN.down, Nat.reduceAdd, if_true, if_false, ↓reduceIte, e_i64, e_impl_Equation])
    exact hP
  rcases condE h with ⟨b5, h⟩ | ⟨b5, h⟩
  · refine w_ct (congrArg AV.bool b5) ?_
    simp only [b5, Bool.not_true, Bool.not_false]
    refine w_sreg (w_abs [(2, .str ([] : List UInt8))] (fun P hP => ?_) ?_)
    · simp only [W0.down, Nat.reduceEqDiff, ↓reduceIte, reduceCtorEq, Nat.reduceAdd, Nat.reduceSub, Nat.reduceMul, Nat.reduceLeDiff, Nat.reduceBEq, Nat.reduceLT, if_true, if_false, beq_self_eq_true, BEq.rfl, ne_eq, e_i64, e_impl_Equation]
      (try simp only [WN.down, Nat.reduceAdd, if_true, if_false, ↓reduceIte, e_i64, e_impl_Equation] at hP)
      (try simp only [WN.down, Nat.reduceAdd, if_true, if_false, ↓reduceIte, e_i64, e_impl_Equation])
      exact hP
    exact w_ret (q2 _ (r0 _ (.inl (w_fin [.str ([] : List UInt8)] rfl (by cases someE h; rfl) (by decide) outs_nil))))
  · refine w_cf (congrArg AV.bool b5) ?_
    simp only [b5, Bool.not_true, Bool.not_false]
    refine w_skip (n2 _ (.inl ?_))
    refine w_sreg (w_abs [(0, .slice (a0.map e_impl_Equation)), (3, .ubox (.agg [.uslice 1 ([(3 : UInt8)].map byteAV)]))] (fun P hP => ?_) ?_)
    · simp only [W0.down, Nat.reduceEqDiff, ↓reduceIte, reduceCtorEq, Nat.reduceAdd, Nat.reduceSub, Nat.reduceMul, Nat.reduceLeDiff, Nat.reduceBEq, Nat.reduceLT, if_true, if_false, beq_self_eq_true, BEq.rfl, ne_eq, tt5, tt107, tt124, byteAV, e_i64, e_impl_Equation, (show ∀ s, bsl Cc s 107 1 [(0, .int .u8 3)] = some (.uslice 1 [.int .u8 3], s) from fun s => by kernel_rfl), @bld_s Cc 124 [(107, 0)] [.nils] rfl rfl (by kernel_rfl), bldU, flw_s, flwC, pkOs_s, own_s, ap3_s, List.nil_append, List.cons_append]
      (try simp only [WN.down, Nat.reduceAdd, if_true, if_false, ↓reduceIte, tt5, tt107, tt124, byteAV, e_i64, e_impl_Equation, (show ∀ s, bsl Cc s 107 1 [(0, .int .u8 3)] = some (.uslice 1 [.int .u8 3], s) from fun s => by kernel_rfl), @bld_s Cc 124 [(107, 0)] [.nils] rfl rfl (by kernel_rfl), bldU, flw_s, flwC, pkOs_s, own_s, ap3_s, List.nil_append, List.cons_append] at hP)
      (try simp only [WN.down, Nat.reduceAdd, if_true, if_false, ↓reduceIte, tt5, tt107, tt124, byteAV, e_i64, e_impl_Equation, (show ∀ s, bsl Cc s 107 1 [(0, .int .u8 3)] = some (.uslice 1 [.int .u8 3], s) from fun s => by kernel_rfl), @bld_s Cc 124 [(107, 0)] [.nils] rfl rfl (by kernel_rfl), bldU, flw_s, flwC, pkOs_s, own_s, ap3_s, List.nil_append, List.cons_append])
      exact hP
    obtain ⟨x2, e9, h⟩ := bindE h
    refine w_sreg (w_abs [(0, .slice (a0.map e_impl_Equation)), (3, .ubox (.agg [.uslice 1 (x2.map byteAV)]))] (fun P hP => ?_) ?_)
    · simp only [W0.down, Nat.reduceEqDiff, ↓reduceIte, reduceCtorEq, Nat.reduceAdd, Nat.reduceSub, Nat.reduceMul, Nat.reduceLeDiff, Nat.reduceBEq, Nat.reduceLT, if_true, if_false, beq_self_eq_true, BEq.rfl, ne_eq, tt2, tt4, tt32, tt68, tt120, byteAV, e_i64, e_impl_Equation, (show ∀ s, bsl Cc s 68 1 [(0, .int .i64 (a0.length : Int))] = some (.uslice 1 [.int .i64 (a0.length : Int)], s) from fun s => by kernel_rfl)]
      refine w_callp0 [⟨.h 3 [], true, _, _⟩, ⟨.h 15 [], false, _, .hole⟩] (ok_impl_writer_number [(3 : UInt8)] [(a0.length : Int)] _ e9) rfl rfl rfl (by simp only [W0.down, Nat.reduceEqDiff, ↓reduceIte, reduceCtorEq, Nat.reduceAdd, Nat.reduceSub, Nat.reduceMul, Nat.reduceLeDiff, Nat.reduceBEq, Nat.reduceLT, if_true, if_false, beq_self_eq_true, BEq.rfl, ne_eq, tt2, tt4, tt32, tt68, tt120, byteAV, e_i64, e_impl_Equation, (show ∀ s, bsl Cc s 68 1 [(0, .int .i64 (a0.length : Int))] = some (.uslice 1 [.int .i64 (a0.length : Int)], s) from fun s => by kernel_rfl), c_nrm, okp_s, own_r, view_s, view_h, viewH_s, share_s, or_true, true_or, @shares_map _ byteAV byteAV (fun _ => byte_share _), @shares_map _ e_i64 e_i64 (fun _ => sh_e_i64 _)]) rfl rfl ((.inr (by simp only [nshPs, AV.nosh, AV.noshs, Bool.and_self, @noshs_map _ byteAV (fun _ => byte_nosh _)]))) ?_
      simp only [W0.down, Nat.reduceEqDiff, ↓reduceIte, reduceCtorEq, Nat.reduceAdd, Nat.reduceSub, Nat.reduceMul, Nat.reduceLeDiff, Nat.reduceBEq, Nat.reduceLT, if_true, if_false, beq_self_eq_true, BEq.rfl, ne_eq, tt2, tt4, tt32, tt68, tt120, byteAV, e_i64, e_impl_Equation, (show ∀ s, bsl Cc s 68 1 [(0, .int .i64 (a0.length : Int))] = some (.uslice 1 [.int .i64 (a0.length : Int)], s) from fun s => by kernel_rfl), gv_s]
      (try simp only [WN.down, Nat.reduceAdd, if_true, if_false, ↓reduceIte, tt2, tt4, tt32, tt68, tt120, byteAV, e_i64, e_impl_Equation, (show ∀ s, bsl Cc s 68 1 [(0, .int .i64 (a0.length : Int))] = some (.uslice 1 [.int .i64 (a0.length : Int)], s) from fun s => by kernel_rfl)] at hP)
      (try simp only [WN.down, Nat.reduceAdd, if_true, if_false, ↓reduceIte, tt2, tt4, tt32, tt68, tt120, byteAV, e_i64, e_impl_Equation, (show ∀ s, bsl Cc s 68 1 [(0, .int .i64 (a0.length : Int))] = some (.uslice 1 [.int .i64 (a0.length : Int)], s) from fun s => by kernel_rfl)])
      exact hP
    refine w_seq (fun Q10 n10 q10 x10 => ?_)
    refine w_sreg (w_abs [(3, .ubox (.agg [.uslice 1 (x2.map byteAV)])), (17, .slice (a0.map e_impl_Equation)), (18, .int .i64 (a0.length : Int)), (19, .int .i64 0)] (fun P hP => ?_) ?_)
    · simp only [W0.down, Nat.reduceEqDiff, ↓reduceIte, reduceCtorEq, Nat.reduceAdd, Nat.reduceSub, Nat.reduceMul, Nat.reduceLeDiff, Nat.reduceBEq, Nat.reduceLT, if_true, if_false, beq_self_eq_true, BEq.rfl, ne_eq, tt2, tt4, tt32, tt68, tt120, byteAV, e_i64, e_impl_Equation]
      (try simp only [WN.down, Nat.reduceAdd, if_true, if_false, ↓reduceIte, tt2, tt4, tt32, tt68, tt120, byteAV, e_i64, e_impl_Equation] at hP)
      (try simp only [WN.down, Nat.reduceAdd, if_true, if_false, ↓reduceIte, tt2, tt4, tt32, tt68, tt120, byteAV, e_i64, e_impl_Equation])
      exact hP
    refine w_blk (fun Q12 n12 q12 b12 x12 => ?_)
    have L18 : ∀ (n : Nat) (v3_18 : List UInt8) (v19_18 : Int), impl_EncodeEquations_l18 a0 n v3_18 v19_18 = some r → lpC Cc c29_19 Q12 (stA [(3, .ubox (.agg [.uslice 1 (v3_18.map byteAV)])), (17, .slice (a0.map e_impl_Equation)), (18, .int .i64 (a0.length : Int)), (19, .int .i64 v19_18)]) := by
      intro m18
      induction m18 with
      | zero => intro v3_18 v19_18 h; cases (show none = some r from h)
      | succ m18 ih18 =>
        intro v3_18 v19_18 h
        replace h : impl_EncodeEquations_b18 (impl_EncodeEquations_l18 a0 m18) a0 v3_18 v19_18 = some r := h
        refine lpC_step (fun Q13 n13 q13 x13 => ?_)
        refine w_sreg (w_abs [(3, .ubox (.agg [.uslice 1 (v3_18.map byteAV)])), (17, .slice (a0.map e_impl_Equation)), (18, .int .i64 (a0.length : Int)), (19, .int .i64 v19_18), (20, .bool (decide (v19_18 < (a0.length : Int))))] (fun P hP => ?_) ?_)
        · simp only [W0.down, Nat.reduceEqDiff, ↓reduceIte, reduceCtorEq, Nat.reduceAdd, Nat.reduceSub, Nat.reduceMul, Nat.reduceLeDiff, Nat.reduceBEq, Nat.reduceLT, if_true, if_false, beq_self_eq_true, BEq.rfl, ne_eq, byteAV, e_i64, e_impl_Equation]
          (try simp only [WN.down, Nat.reduceAdd, if_true, if_false, ↓reduceIte, byteAV, e_i64, e_impl_Equation] at hP)
          (try simp only [WN.down, Nat.reduceAdd, if_true, if_false, ↓reduceIte, byteAV, e_i64, e_impl_Equation])
          exact hP
        refine w_seq (fun Q15 n15 q15 x15 => ?_)
        rcases condE h with ⟨b16, h⟩ | ⟨b16, h⟩
        · refine w_ct (congrArg AV.bool b16) ?_
          simp only [b16, Bool.not_true, Bool.not_false]
          refine w_skip (n15 _ (.inl ?_))
          refine w_seq (fun Q17 n17 q17 x17 => ?_)
          refine w_blk (fun Q18 n18 q18 b18 x18 => ?_)
          obtain ⟨x3, e20, h⟩ := bindE h
          refine w_sreg (w_abs [(3, .ubox (.agg [.uslice 1 (v3_18.map byteAV)])), (5, .ubox (e_impl_Equation x3)), (17, .slice (a0.map e_impl_Equation)), (18, .int .i64 (a0.length : Int)), (19, .int .i64 v19_18)] (fun P hP => ?_) ?_)
          · simp only [W0.down, Nat.reduceEqDiff, ↓reduceIte, reduceCtorEq, Nat.reduceAdd, Nat.reduceSub, Nat.reduceMul, Nat.reduceLeDiff, Nat.reduceBEq, Nat.reduceLT, if_true, if_false, beq_self_eq_true, BEq.rfl, ne_eq, tt2, tt4, tt32, tt68, tt120, byteAV, e_i64, e_impl_Equation, e20]
            (try simp only [WN.down, Nat.reduceAdd, if_true, if_false, ↓reduceIte, tt2, tt4, tt32, tt68, tt120, byteAV, e_i64, e_impl_Equation, e20] at hP)
            (try simp only [WN.down, Nat.reduceAdd, if_true, if_false, ↓reduceIte, tt2, tt4, tt32, tt68, tt120, byteAV, e_i64, e_impl_Equation, e20])
            exact hP
          obtain ⟨x4, e22, h⟩ := bindE h
          obtain ⟨x5, e23, h⟩ := bindE h
          obtain ⟨x6, e24, h⟩ := bindE h
          refine w_sdrw rfl (w_absd [(3, .ubox (.agg [.uslice 1 (x6.map byteAV)])), (5, .ubox (e_impl_Equation x3)), (17, .slice (a0.map e_impl_Equation)), (18, .int .i64 (a0.length : Int)), (19, .int .i64 v19_18)] (fun P hP => ?_) ?_)
          · simp only [W1.down, Nat.reduceEqDiff, ↓reduceIte, reduceCtorEq, Nat.reduceAdd, Nat.reduceSub, Nat.reduceMul, Nat.reduceLeDiff, Nat.reduceBEq, Nat.reduceLT, if_true, if_false, beq_self_eq_true, BEq.rfl, ne_eq, tt2, tt4, tt68, tt120, byteAV, e_i64, e_impl_Equation, (show ∀ s, bsl Cc s 68 2 [(0, .int .i64 (IntKind.i64.wrap (x4 + (IntKind.i64.wrap (2 * x5))))), (1, .int .i64 (x3.Terms.length : Int))] = some (.uslice 1 [.int .i64 (IntKind.i64.wrap (x4 + (IntKind.i64.wrap (2 * x5)))), .int .i64 (x3.Terms.length : Int)], s) from fun s => by kernel_rfl)]
            refine w_call1 (ok_impl_truth x3.Greatest _ e22) rfl rfl rfl rfl (.inl (by rfl)) ?_
            simp only [W1.down, Nat.reduceEqDiff, ↓reduceIte, reduceCtorEq, Nat.reduceAdd, Nat.reduceSub, Nat.reduceMul, Nat.reduceLeDiff, Nat.reduceBEq, Nat.reduceLT, if_true, if_false, beq_self_eq_true, BEq.rfl, ne_eq, tt2, tt4, tt68, tt120, byteAV, e_i64, e_impl_Equation, (show ∀ s, bsl Cc s 68 2 [(0, .int .i64 (IntKind.i64.wrap (x4 + (IntKind.i64.wrap (2 * x5))))), (1, .int .i64 (x3.Terms.length : Int))] = some (.uslice 1 [.int .i64 (IntKind.i64.wrap (x4 + (IntKind.i64.wrap (2 * x5)))), .int .i64 (x3.Terms.length : Int)], s) from fun s => by kernel_rfl)]
            refine w_call1 (ok_impl_truth x3.All _ e23) rfl rfl rfl rfl (.inl (by rfl)) ?_
            simp only [W1.down, Nat.reduceEqDiff, ↓reduceIte, reduceCtorEq, Nat.reduceAdd, Nat.reduceSub, Nat.reduceMul, Nat.reduceLeDiff, Nat.reduceBEq, Nat.reduceLT, if_true, if_false, beq_self_eq_true, BEq.rfl, ne_eq, tt2, tt4, tt68, tt120, byteAV, e_i64, e_impl_Equation, (show ∀ s, bsl Cc s 68 2 [(0, .int .i64 (IntKind.i64.wrap (x4 + (IntKind.i64.wrap (2 * x5))))), (1, .int .i64 (x3.Terms.length : Int))] = some (.uslice 1 [.int .i64 (IntKind.i64.wrap (x4 + (IntKind.i64.wrap (2 * x5)))), .int .i64 (x3.Terms.length : Int)], s) from fun s => by kernel_rfl)]
            refine w_callp1 [⟨.h 3 [], true, _, _⟩, ⟨.h 35 [], false, _, .hole⟩] (ok_impl_writer_number v3_18 [(IntKind.i64.wrap (x4 + (IntKind.i64.wrap (2 * x5)))), (x3.Terms.length : Int)] _ e24) rfl rfl rfl (by simp only [W1.down, Nat.reduceEqDiff, ↓reduceIte, reduceCtorEq, Nat.reduceAdd, Nat.reduceSub, Nat.reduceMul, Nat.reduceLeDiff, Nat.reduceBEq, Nat.reduceLT, if_true, if_false, beq_self_eq_true, BEq.rfl, ne_eq, tt2, tt4, tt68, tt120, byteAV, e_i64, e_impl_Equation, (show ∀ s, bsl Cc s 68 2 [(0, .int .i64 (IntKind.i64.wrap (x4 + (IntKind.i64.wrap (2 * x5))))), (1, .int .i64 (x3.Terms.length : Int))] = some (.uslice 1 [.int .i64 (IntKind.i64.wrap (x4 + (IntKind.i64.wrap (2 * x5)))), .int .i64 (x3.Terms.length : Int)], s) from fun s => by kernel_rfl), c_nrm, okp_s, own_r, view_s, view_h, viewH_s, share_s, or_true, true_or, @shares_map _ byteAV byteAV (fun _ => byte_share _), @shares_map _ e_i64 e_i64 (fun _ => sh_e_i64 _)]) rfl rfl ((.inr (by simp only [nshPs, AV.nosh, AV.noshs, Bool.and_self, @noshs_map _ byteAV (fun _ => byte_nosh _)]))) ?_
            simp only [W1.down, Nat.reduceEqDiff, ↓reduceIte, reduceCtorEq, Nat.reduceAdd, Nat.reduceSub, Nat.reduceMul, Nat.reduceLeDiff, Nat.reduceBEq, Nat.reduceLT, if_true, if_false, beq_self_eq_true, BEq.rfl, ne_eq, tt2, tt4, tt68, tt120, byteAV, e_i64, e_impl_Equation, (show ∀ s, bsl Cc s 68 2 [(0, .int .i64 (IntKind.i64.wrap (x4 + (IntKind.i64.wrap (2 * x5))))), (1, .int .i64 (x3.Terms.length : Int))] = some (.uslice 1 [.int .i64 (IntKind.i64.wrap (x4 + (IntKind.i64.wrap (2 * x5)))), .int .i64 (x3.Terms.length : Int)], s) from fun s => by kernel_rfl), gv_s]
            refine ⟨by kernel_rfl, ?_⟩
            (try simp only [WN.down, Nat.reduceAdd, if_true, if_false, ↓reduceIte, tt2, tt4, tt68, tt120, byteAV, e_i64, e_impl_Equation, (show ∀ s, bsl Cc s 68 2 [(0, .int .i64 (IntKind.i64.wrap (x4 + (IntKind.i64.wrap (2 * x5))))), (1, .int .i64 (x3.Terms.length : Int))] = some (.uslice 1 [.int .i64 (IntKind.i64.wrap (x4 + (IntKind.i64.wrap (2 * x5)))), .int .i64 (x3.Terms.length : Int)], s) from fun s => by kernel_rfl)] at hP)
            (try simp only [WN.down, Nat.reduceAdd, if_true, if_false, ↓reduceIte, tt2, tt4, tt68, tt120, byteAV, e_i64, e_impl_Equation, (show ∀ s, bsl Cc s 68 2 [(0, .int .i64 (IntKind.i64.wrap (x4 + (IntKind.i64.wrap (2 * x5))))), (1, .int .i64 (x3.Terms.length : Int))] = some (.uslice 1 [.int .i64 (IntKind.i64.wrap (x4 + (IntKind.i64.wrap (2 * x5)))), .int .i64 (x3.Terms.length : Int)], s) from fun s => by kernel_rfl)])
            exact hP
          obtain ⟨x7, e26, h⟩ := bindE h
          refine w_reg (w_abs [(3, .ubox (.agg [.uslice 1 (x7.map byteAV)])), (17, .slice (a0.map e_impl_Equation)), (18, .int .i64 (a0.length : Int)), (19, .int .i64 v19_18)] (fun P hP => ?_) ?_)
          · simp only [W0.down, Nat.reduceEqDiff, ↓reduceIte, reduceCtorEq, Nat.reduceAdd, Nat.reduceSub, Nat.reduceMul, Nat.reduceLeDiff, Nat.reduceBEq, Nat.reduceLT, if_true, if_false, beq_self_eq_true, BEq.rfl, ne_eq, tt2, tt4, tt68, tt120, byteAV, e_i64, e_impl_Equation]
            refine w_callp0 [⟨.h 3 [], true, _, _⟩, ⟨.slice (x3.Terms.map e_i64), false, _, .hole⟩] (ok_impl_writer_number x6 x3.Terms _ e26) rfl rfl rfl (by simp only [W0.down, Nat.reduceEqDiff, ↓reduceIte, reduceCtorEq, Nat.reduceAdd, Nat.reduceSub, Nat.reduceMul, Nat.reduceLeDiff, Nat.reduceBEq, Nat.reduceLT, if_true, if_false, beq_self_eq_true, BEq.rfl, ne_eq, tt2, tt4, tt68, tt120, byteAV, e_i64, e_impl_Equation, c_nrm, okp_s, own_r, view_s, view_h, viewH_s, share_s, or_true, true_or, @shares_map _ byteAV byteAV (fun _ => byte_share _)]) rfl rfl (.inl rfl) ?_
            simp only [W0.down, Nat.reduceEqDiff, ↓reduceIte, reduceCtorEq, Nat.reduceAdd, Nat.reduceSub, Nat.reduceMul, Nat.reduceLeDiff, Nat.reduceBEq, Nat.reduceLT, if_true, if_false, beq_self_eq_true, BEq.rfl, ne_eq, tt2, tt4, tt68, tt120, byteAV, e_i64, e_impl_Equation, gv_s]
            (try simp only [WN.down, Nat.reduceAdd, if_true, if_false, ↓reduceIte, tt2, tt4, tt68, tt120, byteAV, e_i64, e_impl_Equation] at hP)
            (try simp only [WN.down, Nat.reduceAdd, if_true, if_false, ↓reduceIte, tt2, tt4, tt68, tt120, byteAV, e_i64, e_impl_Equation])
            exact hP
          refine n18 _ (n17 _ (.inl ?_))
          refine w_reg (w_abs [(3, .ubox (.agg [.uslice 1 (x7.map byteAV)])), (17, .slice (a0.map e_impl_Equation)), (18, .int .i64 (a0.length : Int)), (19, .int .i64 (IntKind.i64.wrap (v19_18 + 1)))] (fun P hP => ?_) ?_)
          · simp only [W0.down, Nat.reduceEqDiff, ↓reduceIte, reduceCtorEq, Nat.reduceAdd, Nat.reduceSub, Nat.reduceMul, Nat.reduceLeDiff, Nat.reduceBEq, Nat.reduceLT, if_true, if_false, beq_self_eq_true, BEq.rfl, ne_eq, byteAV, e_i64, e_impl_Equation]
            (try simp only [WN.down, Nat.reduceAdd, if_true, if_false, ↓reduceIte, byteAV, e_i64, e_impl_Equation] at hP)
            (try simp only [WN.down, Nat.reduceAdd, if_true, if_false, ↓reduceIte, byteAV, e_i64, e_impl_Equation])
            exact hP
          exact n13 _ (.inr ⟨_, weak_eq rfl, ih18 x7 (IntKind.i64.wrap (v19_18 + 1)) h⟩)
        · refine w_cf (congrArg AV.bool b16) ?_
          simp only [b16, Bool.not_true, Bool.not_false]
          refine w_ex (x15 0 _ (x13 0 _ (b12 _ (n10 _ (.inl ?_)))))
          obtain ⟨x8, e29, h⟩ := bindE h
          refine w_sreg (w_abs [(2, .str x8)] (fun P hP => ?_) ?_)
          · simp only [W0.down, Nat.reduceEqDiff, ↓reduceIte, reduceCtorEq, Nat.reduceAdd, Nat.reduceSub, Nat.reduceMul, Nat.reduceLeDiff, Nat.reduceBEq, Nat.reduceLT, if_true, if_false, beq_self_eq_true, BEq.rfl, ne_eq, byteAV, e_i64, e_impl_Equation]
            refine w_callp0 [⟨.h 3 [], true, _, .hole⟩] (ok_impl_writer_image v3_18 _ e29) rfl rfl rfl (by simp only [W0.down, Nat.reduceEqDiff, ↓reduceIte, reduceCtorEq, Nat.reduceAdd, Nat.reduceSub, Nat.reduceMul, Nat.reduceLeDiff, Nat.reduceBEq, Nat.reduceLT, if_true, if_false, beq_self_eq_true, BEq.rfl, ne_eq, byteAV, e_i64, e_impl_Equation, c_nrm, okp_s, own_r, view_s, view_h, viewH_s, share_s, or_true, true_or, @shares_map _ byteAV byteAV (fun _ => byte_share _)]) rfl rfl (.inl rfl) ?_
            simp only [W0.down, Nat.reduceEqDiff, ↓reduceIte, reduceCtorEq, Nat.reduceAdd, Nat.reduceSub, Nat.reduceMul, Nat.reduceLeDiff, Nat.reduceBEq, Nat.reduceLT, if_true, if_false, beq_self_eq_true, BEq.rfl, ne_eq, byteAV, e_i64, e_impl_Equation, gv_s]
            (try simp only [WN.down, Nat.reduceAdd, if_true, if_false, ↓reduceIte, byteAV, e_i64, e_impl_Equation] at hP)
            (try simp only [WN.down, Nat.reduceAdd, if_true, if_false, ↓reduceIte, byteAV, e_i64, e_impl_Equation])
            exact hP
          exact w_ret (r0 _ (.inl (w_fin [.str x8] rfl (by cases someE h; rfl) (by decide) outs_nil)))
    obtain ⟨n, h⟩ := limE h
    exact w_loop (.inr ⟨_, weak_eq rfl, L18 n x2 0 h⟩)

theorem ok_impl_DecodeEquations  (a0 : List UInt8) (r : (List impl_Equation) × Int) (h : impl_DecodeEquations  a0 = some r) : OkAt Cc 43 [.str a0] (.tuple [.uslice 3 (r.1.map u_impl_Equation), .int .i64 r.2]) [] := by
  refine OkAt.of_wpQ (fx := [0]) Cc_ok Try.func43 rfl rfl s43 (Nat.le_of_ble_eq_true rfl) (fun Q0 r0 n0 => ?_)
  replace r0 : ∀ s, onW (Fw.Ends Cc [0] [.tmp 2, .tmp 3] (.tuple [.uslice 3 (r.1.map u_impl_Equation), .int .i64 r.2]) []) s → Q0 .ret s := r0
  replace n0 : ∀ s, onW (Fw.Ends Cc [0] [.tmp 2, .tmp 3] (.tuple [.uslice 3 (r.1.map u_impl_Equation), .int .i64 r.2]) []) s → Q0 .normal s := n0
  show wpC Cc c43 Q0 (stA [(0, .str a0)])
  refine w_sreg (w_abs [(0, .str a0)] (fun P hP => ?_) ?_)
  · simp only [W0.down, Nat.reduceEqDiff, ↓reduceIte, reduceCtorEq, Nat.reduceAdd, Nat.reduceSub, Nat.reduceMul, Nat.reduceLeDiff, Nat.reduceBEq, Nat.reduceLT, if_true, if_false, beq_self_eq_true, BEq.rfl, ne_eq]
    (try simp only [WN.down, Nat.reduceAdd, if_true, if_false, ↓reduceIte] at hP)
    (try simp only [WN.down, Nat.reduceAdd, if_true, if_false, ↓reduceIte])
    exact hP
  obtain ⟨x1, e3, h⟩ := bindE h
  rcases optE h with ⟨b4, h⟩ | ⟨x2, b4, h⟩
  · refine w_sreg (w_abs [(0, .str a0), (4, .nilp), (5, .int .i64 x1.2)] (fun P hP => ?_) ?_)
    · simp only [W0.down, Nat.reduceEqDiff, ↓reduceIte, reduceCtorEq, Nat.reduceAdd, Nat.reduceSub, Nat.reduceMul, Nat.reduceLeDiff, Nat.reduceBEq, Nat.reduceLT, if_true, if_false, beq_self_eq_true, BEq.rfl, ne_eq]
      refine w_call0 (by have q := (ok_impl_contents a0 3 _ e3); simp only [b4, optP] at q; exact q) rfl rfl rfl rfl (.inl (by rfl)) ?_
      simp only [W0.down, Nat.reduceEqDiff, ↓reduceIte, reduceCtorEq, Nat.reduceAdd, Nat.reduceSub, Nat.reduceMul, Nat.reduceLeDiff, Nat.reduceBEq, Nat.reduceLT, if_true, if_false, beq_self_eq_true, BEq.rfl, ne_eq]
      (try simp only [WN.down, Nat.reduceAdd, if_true, if_false, ↓reduceIte] at hP)
      (try simp only [WN.down, Nat.reduceAdd, if_true, if_false, ↓reduceIte])
      exact hP
    refine w_seq (fun Q5 n5 q5 x5 => ?_)
    refine w_sreg (w_abs [(0, .str a0), (4, .nilp), (5, .int .i64 x1.2), (15, .bool (x1.2 != 0))] (fun P hP => ?_) ?_)
    · simp only [W0.down, Nat.reduceEqDiff, ↓reduceIte, reduceCtorEq, Nat.reduceAdd, Nat.reduceSub, Nat.reduceMul, Nat.reduceLeDiff, Nat.reduceBEq, Nat.reduceLT, if_true, if_false, beq_self_eq_true, BEq.rfl, ne_eq]
      (try simp only [WN.down, Nat.reduceAdd, if_true, if_false, ↓reduceIte] at hP)
      (try simp only [WN.down, Nat.reduceAdd, if_true, if_false, ↓reduceIte])
      exact hP
    rcases condE h with ⟨b7, h⟩ | ⟨b7, h⟩
    · refine w_ct (congrArg AV.bool b7) ?_
      simp only [b7, Bool.not_true, Bool.not_false]
      refine w_sreg (w_abs [(2, .nils), (3, .int .i64 x1.2)] (fun P hP => ?_) ?_)
      · simp only [W0.down, Nat.reduceEqDiff, ↓reduceIte, reduceCtorEq, Nat.reduceAdd, Nat.reduceSub, Nat.reduceMul, Nat.reduceLeDiff, Nat.reduceBEq, Nat.reduceLT, if_true, if_false, beq_self_eq_true, BEq.rfl, ne_eq]
        (try simp only [WN.down, Nat.reduceAdd, if_true, if_false, ↓reduceIte] at hP)
        (try simp only [WN.down, Nat.reduceAdd, if_true, if_false, ↓reduceIte])
        exact hP
      exact w_ret (q5 _ (r0 _ (.inr ⟨[(2, .uslice 3 []), (3, .int .i64 x1.2)], weak_mix [] rfl (wk_wd (t := 2) (d := .nils) rfl rfl (.nilsU _) (by decide) (wk_eq rfl (wk_nil))), w_fin [.uslice 3 [], .int .i64 x1.2] rfl (by cases someE h; rfl) (by decide) outs_nil⟩)))
    · refine w_cf (congrArg AV.bool b7) ?_
      simp only [b7, Bool.not_true, Bool.not_false]
      refine w_skip (n5 _ (.inl ?_))
      refine w_sreg (w_abs [(0, .str a0), (4, .nilp), (6, .nils)] (fun P hP => ?_) ?_)
      · simp only [W0.down, Nat.reduceEqDiff, ↓reduceIte, reduceCtorEq, Nat.reduceAdd, Nat.reduceSub, Nat.reduceMul, Nat.reduceLeDiff, Nat.reduceBEq, Nat.reduceLT, if_true, if_false, beq_self_eq_true, BEq.rfl, ne_eq]
        (try simp only [WN.down, Nat.reduceAdd, if_true, if_false, ↓reduceIte] at hP)
        (try simp only [WN.down, Nat.reduceAdd, if_true, if_false, ↓reduceIte])
        exact hP
      refine w_seq (fun Q10 n10 q10 x10 => ?_)
      cases h
  · refine w_sreg (w_abs [(0, .str a0), (4, .ubox (.agg [.str x2.1, .bool x2.2])), (5, .int .i64 x1.2)] (fun P hP => ?_) ?_)
    · simp only [W0.down, Nat.reduceEqDiff, ↓reduceIte, reduceCtorEq, Nat.reduceAdd, Nat.reduceSub, Nat.reduceMul, Nat.reduceLeDiff, Nat.reduceBEq, Nat.reduceLT, if_true, if_false, beq_self_eq_true, BEq.rfl, ne_eq]
      refine w_call0 (by have q := (ok_impl_contents a0 3 _ e3); simp only [b4, optP] at q; exact q) rfl rfl rfl rfl (.inl (by rfl)) ?_
      simp only [W0.down, Nat.reduceEqDiff, ↓reduceIte, reduceCtorEq, Nat.reduceAdd, Nat.reduceSub, Nat.reduceMul, Nat.reduceLeDiff, Nat.reduceBEq, Nat.reduceLT, if_true, if_false, beq_self_eq_true, BEq.rfl, ne_eq]
      (try simp only [WN.down, Nat.reduceAdd, if_true, if_false, ↓reduceIte] at hP)
      (try simp only [WN.down, Nat.reduceAdd, if_true, if_false, ↓reduceIte])
      exact hP
    refine w_seq (fun Q12 n12 q12 x12 => ?_)
    refine w_sreg (w_abs [(0, .str a0), (4, .ubox (.agg [.str x2.1, .bool x2.2])), (5, .int .i64 x1.2), (15, .bool (x1.2 != 0))] (fun P hP => ?_) ?_)
    · simp only [W0.down, Nat.reduceEqDiff, ↓reduceIte, reduceCtorEq, Nat.reduceAdd, Nat.reduceSub, Nat.reduceMul, Nat.reduceLeDiff, Nat.reduceBEq, Nat.reduceLT, if_true, if_false, beq_self_eq_true, BEq.rfl, ne_eq]
      (try simp only [WN.down, Nat.reduceAdd, if_true, if_false, ↓reduceIte] at hP)
      (try simp only [WN.down, Nat.reduceAdd, if_true, if_false, ↓reduceIte])
      exact hP
    rcases condE h with ⟨b14, h⟩ | ⟨b14, h⟩
    · refine w_ct (congrArg AV.bool b14) ?_
      simp only [b14, Bool.not_true, Bool.not_false]
      refine w_sreg (w_abs [(2, .nils), (3, .int .i64 x1.2)] (fun P hP => ?_) ?_)
      · simp only [W0.down, Nat.reduceEqDiff, ↓reduceIte, reduceCtorEq, Nat.reduceAdd, Nat.reduceSub, Nat.reduceMul, Nat.reduceLeDiff, Nat.reduceBEq, Nat.reduceLT, if_true, if_false, beq_self_eq_true, BEq.rfl, ne_eq]
        (try simp only [WN.down, Nat.reduceAdd, if_true, if_false, ↓reduceIte] at hP)
        (try simp only [WN.down, Nat.reduceAdd, if_true, if_false, ↓reduceIte])
        exact hP
      exact w_ret (q12 _ (r0 _ (.inr ⟨[(2, .uslice 3 []), (3, .int .i64 x1.2)], weak_mix [] rfl (wk_wd (t := 2) (d := .nils) rfl rfl (.nilsU _) (by decide) (wk_eq rfl (wk_nil))), w_fin [.uslice 3 [], .int .i64 x1.2] rfl (by cases someE h; rfl) (by decide) outs_nil⟩)))
    · refine w_cf (congrArg AV.bool b14) ?_
      simp only [b14, Bool.not_true, Bool.not_false]
      refine w_skip (n12 _ (.inl ?_))
      refine w_sreg (w_abs [(0, .str a0), (4, .ubox (.agg [.str x2.1, .bool x2.2])), (6, .nils)] (fun P hP => ?_) ?_)
      · simp only [W0.down, Nat.reduceEqDiff, ↓reduceIte, reduceCtorEq, Nat.reduceAdd, Nat.reduceSub, Nat.reduceMul, Nat.reduceLeDiff, Nat.reduceBEq, Nat.reduceLT, if_true, if_false, beq_self_eq_true, BEq.rfl, ne_eq]
        (try simp only [WN.down, Nat.reduceAdd, if_true, if_false, ↓reduceIte] at hP)
        (try simp only [WN.down, Nat.reduceAdd, if_true, if_false, ↓reduceIte])
        exact hP
      refine w_seq (fun Q17 n17 q17 x17 => ?_)
      obtain ⟨x3, e19, h⟩ := bindE h
      refine w_sreg (w_abs [(0, .str a0), (4, .ubox (.agg [.str x3.2.1, .bool x3.2.2])), (6, .nils), (7, .int .i64 x3.1)] (fun P hP => ?_) ?_)
      · simp only [W0.down, Nat.reduceEqDiff, ↓reduceIte, reduceCtorEq, Nat.reduceAdd, Nat.reduceSub, Nat.reduceMul, Nat.reduceLeDiff, Nat.reduceBEq, Nat.reduceLT, if_true, if_false, beq_self_eq_true, BEq.rfl, ne_eq]
        refine w_callp0 [⟨.h 4 [], true, _, _⟩] (ok_impl_unpacker_number x2.1 x2.2 _ e19) rfl rfl rfl (by simp only [W0.down, Nat.reduceEqDiff, ↓reduceIte, reduceCtorEq, Nat.reduceAdd, Nat.reduceSub, Nat.reduceMul, Nat.reduceLeDiff, Nat.reduceBEq, Nat.reduceLT, if_true, if_false, beq_self_eq_true, BEq.rfl, ne_eq, c_nrm, okp_s, own_r, view_s, view_h, viewH_s, share_s, or_true, true_or]) rfl rfl (.inl rfl) ?_
        simp only [W0.down, Nat.reduceEqDiff, ↓reduceIte, reduceCtorEq, Nat.reduceAdd, Nat.reduceSub, Nat.reduceMul, Nat.reduceLeDiff, Nat.reduceBEq, Nat.reduceLT, if_true, if_false, beq_self_eq_true, BEq.rfl, ne_eq, gv_s]
        (try simp only [WN.down, Nat.reduceAdd, if_true, if_false, ↓reduceIte] at hP)
        (try simp only [WN.down, Nat.reduceAdd, if_true, if_false, ↓reduceIte])
        exact hP
      refine w_blk (fun Q20 n20 q20 b20 x20 => ?_)
      have L18 : ∀ (n : Nat) (v4_18 : List UInt8) (v4a_18 : Bool) (v6_18 : List impl_Equation) (v7_18 : Int), impl_DecodeEquations_l18 a0 n v4_18 v4a_18 v6_18 v7_18 = some r → lpC Cc c43_19 Q20 (stA [(0, .str a0), (4, .ubox (.agg [.str v4_18, .bool v4a_18])), (6, .uslice 3 (v6_18.map u_impl_Equation)), (7, .int .i64 v7_18)]) := by
        intro m18
        induction m18 with
        | zero => intro v4_18 v4a_18 v6_18 v7_18 h; cases (show none = some r from h)
        | succ m18 ih18 =>
          intro v4_18 v4a_18 v6_18 v7_18 h
          replace h : impl_DecodeEquations_b18 (impl_DecodeEquations_l18 a0 m18) a0 v4_18 v4a_18 v6_18 v7_18 = some r := h
          refine lpC_step (fun Q21 n21 q21 x21 => ?_)
          refine w_seq (fun Q22 n22 q22 x22 => ?_)
          refine w_sreg (w_abs [(0, .str a0), (4, .ubox (.agg [.str v4_18, .bool v4a_18])), (6, .uslice 3 (v6_18.map u_impl_Equation)), (7, .int .i64 v7_18), (27, .bool ((decide (0 < v7_18)) && (!v4a_18)))] (fun P hP => ?_) ?_)
          · rcases Bool.eq_false_or_eq_true ((decide (0 < v7_18))) with s24 | s24
            · simp only [W0.down, Nat.reduceEqDiff, ↓reduceIte, reduceCtorEq, Nat.reduceAdd, Nat.reduceSub, Nat.reduceMul, Nat.reduceLeDiff, Nat.reduceBEq, Nat.reduceLT, if_true, if_false, beq_self_eq_true, BEq.rfl, ne_eq, tt4, tt9, tt160, e_i64, u_impl_Equation, s24]
              (try simp only [WN.down, Nat.reduceAdd, if_true, if_false, ↓reduceIte, tt4, tt9, tt160, e_i64, u_impl_Equation, s24] at hP)
              (try simp only [WN.down, Nat.reduceAdd, if_true, if_false, ↓reduceIte, tt4, tt9, tt160, e_i64, u_impl_Equation, s24])
              exact hP
            · simp only [W0.down, Nat.reduceEqDiff, ↓reduceIte, reduceCtorEq, Nat.reduceAdd, Nat.reduceSub, Nat.reduceMul, Nat.reduceLeDiff, Nat.reduceBEq, Nat.reduceLT, if_true, if_false, beq_self_eq_true, BEq.rfl, ne_eq, tt4, tt9, tt160, e_i64, u_impl_Equation, s24]
              (try simp only [WN.down, Nat.reduceAdd, if_true, if_false, ↓reduceIte, tt4, tt9, tt160, e_i64, u_impl_Equation, s24] at hP)
              (try simp only [WN.down, Nat.reduceAdd, if_true, if_false, ↓reduceIte, tt4, tt9, tt160, e_i64, u_impl_Equation, s24])
              exact hP
          rcases condE h with ⟨b25, h⟩ | ⟨b25, h⟩
          · refine w_ct (congrArg AV.bool b25) ?_
            simp only [b25, Bool.not_true, Bool.not_false]
            refine w_skip (n22 _ (.inl ?_))
            refine w_seq (fun Q26 n26 q26 x26 => ?_)
            refine w_blk (fun Q27 n27 q27 b27 x27 => ?_)
            obtain ⟨x4, e29, h⟩ := bindE h
            refine w_sreg (w_abs [(0, .str a0), (4, .ubox (.agg [.str x4.2.1, .bool x4.2.2])), (6, .uslice 3 (v6_18.map u_impl_Equation)), (7, .int .i64 v7_18), (8, .int .i64 x4.1)] (fun P hP => ?_) ?_)
            · simp only [W0.down, Nat.reduceEqDiff, ↓reduceIte, reduceCtorEq, Nat.reduceAdd, Nat.reduceSub, Nat.reduceMul, Nat.reduceLeDiff, Nat.reduceBEq, Nat.reduceLT, if_true, if_false, beq_self_eq_true, BEq.rfl, ne_eq, e_i64, u_impl_Equation]
              refine w_callp0 [⟨.h 4 [], true, _, _⟩] (ok_impl_unpacker_number v4_18 v4a_18 _ e29) rfl rfl rfl (by simp only [W0.down, Nat.reduceEqDiff, ↓reduceIte, reduceCtorEq, Nat.reduceAdd, Nat.reduceSub, Nat.reduceMul, Nat.reduceLeDiff, Nat.reduceBEq, Nat.reduceLT, if_true, if_false, beq_self_eq_true, BEq.rfl, ne_eq, e_i64, u_impl_Equation, c_nrm, okp_s, own_r, view_s, view_h, viewH_s, share_s, or_true, true_or]) rfl rfl (.inl rfl) ?_
              simp only [W0.down, Nat.reduceEqDiff, ↓reduceIte, reduceCtorEq, Nat.reduceAdd, Nat.reduceSub, Nat.reduceMul, Nat.reduceLeDiff, Nat.reduceBEq, Nat.reduceLT, if_true, if_false, beq_self_eq_true, BEq.rfl, ne_eq, e_i64, u_impl_Equation, gv_s]
              (try simp only [WN.down, Nat.reduceAdd, if_true, if_false, ↓reduceIte, e_i64, u_impl_Equation] at hP)
              (try simp only [WN.down, Nat.reduceAdd, if_true, if_false, ↓reduceIte, e_i64, u_impl_Equation])
              exact hP
            obtain ⟨x5, e31, h⟩ := bindE h
            obtain ⟨x6, e32, h⟩ := bindE h
            obtain ⟨u34, e33, h⟩ := bindE h
            (try simp only [List.length_append, List.length_cons, List.length_nil, List.length_map, List.length_replicate, Nat.zero_add, Nat.add_zero, Nat.reduceAdd] at e33)
            refine w_reg (w_abs [(0, .str a0), (4, .ubox (.agg [.str x6.2.1, .bool x6.2.2])), (6, .uslice 3 ((v6_18 ++ [(impl_Equation.mk ((Int.tmod x4.1 2) == 1) ((IntKind.i64.wrap (Int.tdiv x4.1 2)) == 1) x6.1)]).map u_impl_Equation)), (7, .int .i64 v7_18)] (fun P hP => ?_) ?_)
            · simp only [W0.down, Nat.reduceEqDiff, ↓reduceIte, reduceCtorEq, Nat.reduceAdd, Nat.reduceSub, Nat.reduceMul, Nat.reduceLeDiff, Nat.reduceBEq, Nat.reduceLT, if_true, if_false, beq_self_eq_true, BEq.rfl, ne_eq, tt2, tt4, tt32, tt68, tt120, e_i64, u_impl_Equation, @bnI_rem' .i64 2 (by decide), @bnI_quo' .i64 2 (by decide), @bld_s Cc 120 [(4, 0), (4, 1), (68, 2)] [(.bool false), (.bool false), .nils] rfl rfl (by kernel_rfl), bldU, flw_s, flwC, pkOs_s, own_s, ap3_s, List.nil_append, List.cons_append, @bsl_s Cc 32 120 1 3 [(.agg [(.bool false), (.bool false), .nils])] rfl rfl rfl (by kernel_rfl), bslU, @apd_s Cc 32 32 120 rfl rfl, ap_s, ap2_s, all_cons, all_nil, e33, @all_wd' _ u_impl_Equation 3 (fun _ => rfl)]
              refine w_callk0 [⟨.h 4 [], true, _, _⟩] (ok_impl_unpacker_number x4.2.1 x4.2.2 _ e31) rfl rfl rfl (by simp only [W0.down, Nat.reduceEqDiff, ↓reduceIte, reduceCtorEq, Nat.reduceAdd, Nat.reduceSub, Nat.reduceMul, Nat.reduceLeDiff, Nat.reduceBEq, Nat.reduceLT, if_true, if_false, beq_self_eq_true, BEq.rfl, ne_eq, tt2, tt4, tt32, tt68, tt120, e_i64, u_impl_Equation, @bnI_rem' .i64 2 (by decide), @bnI_quo' .i64 2 (by decide), @bld_s Cc 120 [(4, 0), (4, 1), (68, 2)] [(.bool false), (.bool false), .nils] rfl rfl (by kernel_rfl), bldU, flw_s, flwC, pkOs_s, own_s, ap3_s, List.nil_append, List.cons_append, @bsl_s Cc 32 120 1 3 [(.agg [(.bool false), (.bool false), .nils])] rfl rfl rfl (by kernel_rfl), bslU, @apd_s Cc 32 32 120 rfl rfl, ap_s, ap2_s, all_cons, all_nil, e33, @all_wd' _ u_impl_Equation 3 (fun _ => rfl), c_nrm, okp_s, own_r, view_s, view_h, viewH_s, share_s, or_true, true_or]) rfl rfl (.inl rfl) rfl rfl ?_
              simp only [W0.down, Nat.reduceEqDiff, ↓reduceIte, reduceCtorEq, Nat.reduceAdd, Nat.reduceSub, Nat.reduceMul, Nat.reduceLeDiff, Nat.reduceBEq, Nat.reduceLT, if_true, if_false, beq_self_eq_true, BEq.rfl, ne_eq, tt2, tt4, tt32, tt68, tt120, e_i64, u_impl_Equation, @bnI_rem' .i64 2 (by decide), @bnI_quo' .i64 2 (by decide), @bld_s Cc 120 [(4, 0), (4, 1), (68, 2)] [(.bool false), (.bool false), .nils] rfl rfl (by kernel_rfl), bldU, flw_s, flwC, pkOs_s, own_s, ap3_s, List.nil_append, List.cons_append, @bsl_s Cc 32 120 1 3 [(.agg [(.bool false), (.bool false), .nils])] rfl rfl rfl (by kernel_rfl), bslU, @apd_s Cc 32 32 120 rfl rfl, ap_s, ap2_s, all_cons, all_nil, e33, @all_wd' _ u_impl_Equation 3 (fun _ => rfl), gv_s, own_r, eq_self]
              refine w_callp0 [⟨.h 4 [], true, _, _⟩, ⟨.int .i64 x5.1, false, _, .hole⟩] (ok_impl_unpacker_numbers x5.2.1 x5.2.2 x5.1 _ e32) rfl rfl rfl (by simp only [W0.down, Nat.reduceEqDiff, ↓reduceIte, reduceCtorEq, Nat.reduceAdd, Nat.reduceSub, Nat.reduceMul, Nat.reduceLeDiff, Nat.reduceBEq, Nat.reduceLT, if_true, if_false, beq_self_eq_true, BEq.rfl, ne_eq, tt2, tt4, tt32, tt68, tt120, e_i64, u_impl_Equation, @bnI_rem' .i64 2 (by decide), @bnI_quo' .i64 2 (by decide), @bld_s Cc 120 [(4, 0), (4, 1), (68, 2)] [(.bool false), (.bool false), .nils] rfl rfl (by kernel_rfl), bldU, flw_s, flwC, pkOs_s, own_s, ap3_s, List.nil_append, List.cons_append, @bsl_s Cc 32 120 1 3 [(.agg [(.bool false), (.bool false), .nils])] rfl rfl rfl (by kernel_rfl), bslU, @apd_s Cc 32 32 120 rfl rfl, ap_s, ap2_s, all_cons, all_nil, e33, @all_wd' _ u_impl_Equation 3 (fun _ => rfl), c_nrm, okp_s, own_r, view_s, view_h, viewH_s, share_s, or_true, true_or]) rfl rfl (.inl rfl) ?_
              simp only [W0.down, Nat.reduceEqDiff, ↓reduceIte, reduceCtorEq, Nat.reduceAdd, Nat.reduceSub, Nat.reduceMul, Nat.reduceLeDiff, Nat.reduceBEq, Nat.reduceLT, if_true, if_false, beq_self_eq_true, BEq.rfl, ne_eq, tt2, tt4, tt32, tt68, tt120, e_i64, u_impl_Equation, @bnI_rem' .i64 2 (by decide), @bnI_quo' .i64 2 (by decide), @bld_s Cc 120 [(4, 0), (4, 1), (68, 2)] [(.bool false), (.bool false), .nils] rfl rfl (by kernel_rfl), bldU, flw_s, flwC, pkOs_s, own_s, ap3_s, List.nil_append, List.cons_append, @bsl_s Cc 32 120 1 3 [(.agg [(.bool false), (.bool false), .nils])] rfl rfl rfl (by kernel_rfl), bslU, @apd_s Cc 32 32 120 rfl rfl, ap_s, ap2_s, all_cons, all_nil, e33, @all_wd' _ u_impl_Equation 3 (fun _ => rfl), gv_s]
              (try simp only [WN.down, Nat.reduceAdd, if_true, if_false, ↓reduceIte, tt2, tt4, tt32, tt68, tt120, e_i64, u_impl_Equation, @bnI_rem' .i64 2 (by decide), @bnI_quo' .i64 2 (by decide), @bld_s Cc 120 [(4, 0), (4, 1), (68, 2)] [(.bool false), (.bool false), .nils] rfl rfl (by kernel_rfl), bldU, flw_s, flwC, pkOs_s, own_s, ap3_s, List.nil_append, List.cons_append, @bsl_s Cc 32 120 1 3 [(.agg [(.bool false), (.bool false), .nils])] rfl rfl rfl (by kernel_rfl), bslU, @apd_s Cc 32 32 120 rfl rfl, ap_s, ap2_s, all_cons, all_nil, e33, @all_wd' _ u_impl_Equation 3 (fun _ => rfl)] at hP)
              (try simp only [WN.down, Nat.reduceAdd, if_true, if_false, ↓reduceIte, tt2, tt4, tt32, tt68, tt120, e_i64, u_impl_Equation, @bnI_rem' .i64 2 (by decide), @bnI_quo' .i64 2 (by decide), @bld_s Cc 120 [(4, 0), (4, 1), (68, 2)] [(.bool false), (.bool false), .nils] rfl rfl (by kernel_rfl), bldU, flw_s, flwC, pkOs_s, own_s, ap3_s, List.nil_append, List.cons_append, @bsl_s Cc 32 120 1 3 [(.agg [(.bool false), (.bool false), .nils])] rfl rfl rfl (by kernel_rfl), bslU, @apd_s Cc 32 32 120 rfl rfl, ap_s, ap2_s, all_cons, all_nil, e33, @all_wd' _ u_impl_Equation 3 (fun _ => rfl)])
              exact hP
            refine n27 _ (n26 _ (.inl ?_))
            refine w_reg (w_abs [(0, .str a0), (4, .ubox (.agg [.str x6.2.1, .bool x6.2.2])), (6, .uslice 3 ((v6_18 ++ [(impl_Equation.mk ((Int.tmod x4.1 2) == 1) ((IntKind.i64.wrap (Int.tdiv x4.1 2)) == 1) x6.1)]).map u_impl_Equation)), (7, .int .i64 (IntKind.i64.wrap (v7_18 - 1)))] (fun P hP => ?_) ?_)
            · simp only [W0.down, Nat.reduceEqDiff, ↓reduceIte, reduceCtorEq, Nat.reduceAdd, Nat.reduceSub, Nat.reduceMul, Nat.reduceLeDiff, Nat.reduceBEq, Nat.reduceLT, if_true, if_false, beq_self_eq_true, BEq.rfl, ne_eq, e_i64, u_impl_Equation]
              (try simp only [WN.down, Nat.reduceAdd, if_true, if_false, ↓reduceIte, e_i64, u_impl_Equation] at hP)
              (try simp only [WN.down, Nat.reduceAdd, if_true, if_false, ↓reduceIte, e_i64, u_impl_Equation])
              exact hP
            exact n21 _ (.inr ⟨_, weak_eq rfl, ih18 x6.2.1 x6.2.2 (v6_18 ++ [(impl_Equation.mk ((Int.tmod x4.1 2) == 1) ((IntKind.i64.wrap (Int.tdiv x4.1 2)) == 1) x6.1)]) (IntKind.i64.wrap (v7_18 - 1)) h⟩)
          · refine w_cf (congrArg AV.bool b25) ?_
            simp only [b25, Bool.not_true, Bool.not_false]
            refine w_ex (x22 0 _ (x21 0 _ (b20 _ (n17 _ (.inl ?_)))))
            refine w_seq (fun Q35 n35 q35 x35 => ?_)
            obtain ⟨x7, e37, h⟩ := bindE h
            refine w_sreg (w_abs [(6, .uslice 3 (v6_18.map u_impl_Equation)), (49, .bool (!(x7 == a0)))] (fun P hP => ?_) ?_)
            · simp only [W0.down, Nat.reduceEqDiff, ↓reduceIte, reduceCtorEq, Nat.reduceAdd, Nat.reduceSub, Nat.reduceMul, Nat.reduceLeDiff, Nat.reduceBEq, Nat.reduceLT, if_true, if_false, beq_self_eq_true, BEq.rfl, ne_eq, e_i64, u_impl_Equation]
              refine w_call0 (ok_impl_EncodeEquations v6_18 _ e37) rfl rfl (by simp only [W0.down, Nat.reduceEqDiff, ↓reduceIte, reduceCtorEq, Nat.reduceAdd, Nat.reduceSub, Nat.reduceMul, Nat.reduceLeDiff, Nat.reduceBEq, Nat.reduceLT, if_true, if_false, beq_self_eq_true, BEq.rfl, ne_eq, e_i64, u_impl_Equation, view_s, view_h, viewH_s, share_s, @shares_map _ u_impl_Equation e_impl_Equation (fun _ => sh_u_impl_Equation _)]) rfl (.inr (by rfl)) ?_
              simp only [W0.down, Nat.reduceEqDiff, ↓reduceIte, reduceCtorEq, Nat.reduceAdd, Nat.reduceSub, Nat.reduceMul, Nat.reduceLeDiff, Nat.reduceBEq, Nat.reduceLT, if_true, if_false, beq_self_eq_true, BEq.rfl, ne_eq, e_i64, u_impl_Equation]
              (try simp only [WN.down, Nat.reduceAdd, if_true, if_false, ↓reduceIte, e_i64, u_impl_Equation] at hP)
              (try simp only [WN.down, Nat.reduceAdd, if_true, if_false, ↓reduceIte, e_i64, u_impl_Equation])
              exact hP
            rcases condE h with ⟨b38, h⟩ | ⟨b38, h⟩
            · refine w_ct (congrArg AV.bool b38) ?_
              simp only [b38, Bool.not_true, Bool.not_false]
              refine w_sreg (w_abs [(2, .nils), (3, .int .i64 9)] (fun P hP => ?_) ?_)
              · simp only [W0.down, Nat.reduceEqDiff, ↓reduceIte, reduceCtorEq, Nat.reduceAdd, Nat.reduceSub, Nat.reduceMul, Nat.reduceLeDiff, Nat.reduceBEq, Nat.reduceLT, if_true, if_false, beq_self_eq_true, BEq.rfl, ne_eq, e_i64, u_impl_Equation]
                (try simp only [WN.down, Nat.reduceAdd, if_true, if_false, ↓reduceIte, e_i64, u_impl_Equation] at hP)
                (try simp only [WN.down, Nat.reduceAdd, if_true, if_false, ↓reduceIte, e_i64, u_impl_Equation])
                exact hP
              exact w_ret (q35 _ (r0 _ (.inr ⟨[(2, .uslice 3 []), (3, .int .i64 9)], weak_mix [] rfl (wk_wd (t := 2) (d := .nils) rfl rfl (.nilsU _) (by decide) (wk_eq rfl (wk_nil))), w_fin [.uslice 3 [], .int .i64 9] rfl (by cases someE h; rfl) (by decide) outs_nil⟩)))
            · refine w_cf (congrArg AV.bool b38) ?_
              simp only [b38, Bool.not_true, Bool.not_false]
              refine w_skip (n35 _ (.inl ?_))
              refine w_sreg (w_abs [(2, .uslice 3 (v6_18.map u_impl_Equation)), (3, .int .i64 0)] (fun P hP => ?_) ?_)
              · simp only [W0.down, Nat.reduceEqDiff, ↓reduceIte, reduceCtorEq, Nat.reduceAdd, Nat.reduceSub, Nat.reduceMul, Nat.reduceLeDiff, Nat.reduceBEq, Nat.reduceLT, if_true, if_false, beq_self_eq_true, BEq.rfl, ne_eq, e_i64, u_impl_Equation]
                (try simp only [WN.down, Nat.reduceAdd, if_true, if_false, ↓reduceIte, e_i64, u_impl_Equation] at hP)
                (try simp only [WN.down, Nat.reduceAdd, if_true, if_false, ↓reduceIte, e_i64, u_impl_Equation])
                exact hP
              exact w_ret (r0 _ (.inl (w_fin [.uslice 3 (v6_18.map u_impl_Equation), .int .i64 0] rfl (by cases someE h; rfl) (by decide) outs_nil)))
      obtain ⟨n, h⟩ := limE h
      exact w_loop (.inr ⟨_, weak_mix [] rfl (wk_eq (t := 0) (d := .str a0) rfl (wk_eq (t := 4) (d := .ubox (.agg [.str x3.2.1, .bool x3.2.2])) rfl (wk_wd (t := 6) (d := .nils) (d' := .uslice 3 []) rfl rfl (.nilsU _) (by decide) (wk_eq (t := 7) (d := .int .i64 x3.1) rfl (wk_nil))))), L18 n x3.2.1 x3.2.2 [] x3.1 h⟩)

theorem ok_laws_eqInt64S  (a0 : List Int) (a1 : List Int) (r : Bool) (h : laws_eqInt64S  a0 a1 = some r) : OkAt Cc 59 [.slice (a0.map e_i64), .slice (a1.map e_i64)] (.bool r) [] := by
  refine OkAt.of_wpQ (fx := [0, 1]) Cc_ok Try.func59 rfl rfl s59 (Nat.le_of_ble_eq_true rfl) (fun Q0 r0 n0 => ?_)
  replace r0 : ∀ s, onW (Fw.Ends Cc [0, 1] [.tmp 4] (.bool r) []) s → Q0 .ret s := r0
  replace n0 : ∀ s, onW (Fw.Ends Cc [0, 1] [.tmp 4] (.bool r) []) s → Q0 .normal s := n0
  show wpC Cc c59 Q0 (stA [(0, .slice (a0.map e_i64)), (1, .slice (a1.map e_i64))])
  refine w_sreg (w_abs [(0, .slice (a0.map e_i64)), (1, .slice (a1.map e_i64))] (fun P hP => ?_) ?_)
  · simp only [W0.down, Nat.reduceEqDiff, ↓reduceIte, reduceCtorEq, Nat.reduceAdd, Nat.reduceSub, Nat.reduceMul, Nat.reduceLeDiff, Nat.reduceBEq, Nat.reduceLT, if_true, if_false, beq_self_eq_true, BEq.rfl, ne_eq, e_i64]
    (try simp only [WN.down, Nat.reduceAdd, if_true, if_false, ↓reduceIte, e_i64] at hP)
    (try simp only [WN.down, Nat.reduceAdd, if_true, if_false, ↓reduceIte, e_i64])
    exact hP
  refine w_seq (fun Q2 n2 q2 x2 => ?_)
  refine w_sreg (w_abs [(0, .slice (a0.map e_i64)), (1, .slice (a1.map e_i64)), (10, .bool ((a0.length : Int) != (a1.length : Int)))] (fun P hP => ?_) ?_)
  · simp only [W0.down, Nat.reduceEqDiff, ↓reduceIte, reduceCtorEq, Nat.reduceAdd, Nat.reduceSub, Nat.reduceMul, Nat.reduceLeDiff, Nat.reduceBEq, Nat.reduceLT, if_true, if_false, beq_self_eq_true, BEq.rfl, ne_eq, tt2, tt68, e_i64]
    (try simp only [WN.down, Nat.reduceAdd, if_true, if_false, ↓reduceIte, tt2, tt68, e_i64] at hP)
    (try simp only [WN.down, Nat.reduceAdd, if_true, if_false, ↓reduceIte, tt2, tt68, e_i64])
    exact hP
  rcases condE h with ⟨b4, h⟩ | ⟨b4, h⟩
  · refine w_ct (congrArg AV.bool b4) ?_
    simp only [b4, Bool.not_true, Bool.not_false]
    refine w_sreg (w_abs [(4, .bool false)] (fun P hP => ?_) ?_)
    · simp only [W0.down, Nat.reduceEqDiff, ↓reduceIte, reduceCtorEq, Nat.reduceAdd, Nat.reduceSub, Nat.reduceMul, Nat.reduceLeDiff, Nat.reduceBEq, Nat.reduceLT, if_true, if_false, beq_self_eq_true, BEq.rfl, ne_eq, e_i64]
      (try simp only [WN.down, Nat.reduceAdd, if_true, if_false, ↓reduceIte, e_i64] at hP)
      (try simp only [WN.down, Nat.reduceAdd, if_true, if_false, ↓reduceIte, e_i64])
      exact hP
    exact w_ret (q2 _ (r0 _ (.inl (w_fin [.bool false] rfl (by cases someE h; rfl) (by decide) outs_nil))))
  · refine w_cf (congrArg AV.bool b4) ?_
    simp only [b4, Bool.not_true, Bool.not_false]
    refine w_skip (n2 _ (.inl ?_))
    refine w_seq (fun Q6 n6 q6 x6 => ?_)
    refine w_sreg (w_abs [(0, .slice (a0.map e_i64)), (1, .slice (a1.map e_i64)), (5, .int .i64 0)] (fun P hP => ?_) ?_)
    · simp only [W0.down, Nat.reduceEqDiff, ↓reduceIte, reduceCtorEq, Nat.reduceAdd, Nat.reduceSub, Nat.reduceMul, Nat.reduceLeDiff, Nat.reduceBEq, Nat.reduceLT, if_true, if_false, beq_self_eq_true, BEq.rfl, ne_eq, e_i64]
      (try simp only [WN.down, Nat.reduceAdd, if_true, if_false, ↓reduceIte, e_i64] at hP)
      (try simp only [WN.down, Nat.reduceAdd, if_true, if_false, ↓reduceIte, e_i64])
      exact hP
    refine w_blk (fun Q8 n8 q8 b8 x8 => ?_)
    have L14 : ∀ (n : Nat) (v5_14 : Int), laws_eqInt64S_l14 a0 a1 n v5_14 = some r → lpC Cc c59_15 Q8 (stA [(0, .slice (a0.map e_i64)), (1, .slice (a1.map e_i64)), (5, .int .i64 v5_14)]) := by
      intro m14
      induction m14 with
      | zero => intro v5_14 h; cases (show none = some r from h)
      | succ m14 ih14 =>
        intro v5_14 h
        replace h : laws_eqInt64S_b14 (laws_eqInt64S_l14 a0 a1 m14) a0 a1 v5_14 = some r := h
        refine lpC_step (fun Q9 n9 q9 x9 => ?_)
        refine w_seq (fun Q10 n10 q10 x10 => ?_)
        refine w_sreg (w_abs [(0, .slice (a0.map e_i64)), (1, .slice (a1.map e_i64)), (5, .int .i64 v5_14), (14, .bool (decide (v5_14 < (a0.length : Int))))] (fun P hP => ?_) ?_)
        · simp only [W0.down, Nat.reduceEqDiff, ↓reduceIte, reduceCtorEq, Nat.reduceAdd, Nat.reduceSub, Nat.reduceMul, Nat.reduceLeDiff, Nat.reduceBEq, Nat.reduceLT, if_true, if_false, beq_self_eq_true, BEq.rfl, ne_eq, tt2, tt68, e_i64]
          (try simp only [WN.down, Nat.reduceAdd, if_true, if_false, ↓reduceIte, tt2, tt68, e_i64] at hP)
          (try simp only [WN.down, Nat.reduceAdd, if_true, if_false, ↓reduceIte, tt2, tt68, e_i64])
          exact hP
        rcases condE h with ⟨b12, h⟩ | ⟨b12, h⟩
        · refine w_ct (congrArg AV.bool b12) ?_
          simp only [b12, Bool.not_true, Bool.not_false]
          refine w_skip (n10 _ (.inl ?_))
          refine w_seq (fun Q13 n13 q13 x13 => ?_)
          refine w_blk (fun Q14 n14 q14 b14 x14 => ?_)
          obtain ⟨x1, e16, h⟩ := bindE h
          obtain ⟨x2, e17, h⟩ := bindE h
          refine w_sdrw rfl (w_absd [(0, .slice (a0.map e_i64)), (1, .slice (a1.map e_i64)), (5, .int .i64 v5_14), (25, .bool (x1 != x2))] (fun P hP => ?_) ?_)
          · simp only [W1.down, Nat.reduceEqDiff, ↓reduceIte, reduceCtorEq, Nat.reduceAdd, Nat.reduceSub, Nat.reduceMul, Nat.reduceLeDiff, Nat.reduceBEq, Nat.reduceLT, if_true, if_false, beq_self_eq_true, BEq.rfl, ne_eq, tt2, tt68, e_i64, e16, e17]
            refine ⟨by kernel_rfl, ?_⟩
            (try simp only [WN.down, Nat.reduceAdd, if_true, if_false, ↓reduceIte, tt2, tt68, e_i64, e16, e17] at hP)
            (try simp only [WN.down, Nat.reduceAdd, if_true, if_false, ↓reduceIte, tt2, tt68, e_i64, e16, e17])
            exact hP
          rcases condE h with ⟨b18, h⟩ | ⟨b18, h⟩
          · refine w_ct (congrArg AV.bool b18) ?_
            simp only [b18, Bool.not_true, Bool.not_false]
            refine w_sreg (w_abs [(4, .bool false)] (fun P hP => ?_) ?_)
            · simp only [W0.down, Nat.reduceEqDiff, ↓reduceIte, reduceCtorEq, Nat.reduceAdd, Nat.reduceSub, Nat.reduceMul, Nat.reduceLeDiff, Nat.reduceBEq, Nat.reduceLT, if_true, if_false, beq_self_eq_true, BEq.rfl, ne_eq, e_i64]
              (try simp only [WN.down, Nat.reduceAdd, if_true, if_false, ↓reduceIte, e_i64] at hP)
              (try simp only [WN.down, Nat.reduceAdd, if_true, if_false, ↓reduceIte, e_i64])
              exact hP
            exact w_ret (q14 _ (q13 _ (q9 _ (q8 _ (q6 _ (r0 _ (.inl (w_fin [.bool false] rfl (by cases someE h; rfl) (by decide) outs_nil))))))))
          · refine w_cf (congrArg AV.bool b18) ?_
            simp only [b18, Bool.not_true, Bool.not_false]
            refine w_skip (n14 _ (n13 _ (.inl ?_)))
            refine w_reg (w_abs [(0, .slice (a0.map e_i64)), (1, .slice (a1.map e_i64)), (5, .int .i64 (IntKind.i64.wrap (v5_14 + 1)))] (fun P hP => ?_) ?_)
            · simp only [W0.down, Nat.reduceEqDiff, ↓reduceIte, reduceCtorEq, Nat.reduceAdd, Nat.reduceSub, Nat.reduceMul, Nat.reduceLeDiff, Nat.reduceBEq, Nat.reduceLT, if_true, if_false, beq_self_eq_true, BEq.rfl, ne_eq, e_i64]
              (try simp only [WN.down, Nat.reduceAdd, if_true, if_false, ↓reduceIte, e_i64] at hP)
              (try simp only [WN.down, Nat.reduceAdd, if_true, if_false, ↓reduceIte, e_i64])
              exact hP
            exact n9 _ (.inr ⟨_, weak_eq rfl, ih14 (IntKind.i64.wrap (v5_14 + 1)) h⟩)
        · refine w_cf (congrArg AV.bool b12) ?_
          simp only [b12, Bool.not_true, Bool.not_false]
          refine w_ex (x10 0 _ (x9 0 _ (b8 _ (n6 _ (.inl ?_)))))
          refine w_sreg (w_abs [(4, .bool true)] (fun P hP => ?_) ?_)
          · simp only [W0.down, Nat.reduceEqDiff, ↓reduceIte, reduceCtorEq, Nat.reduceAdd, Nat.reduceSub, Nat.reduceMul, Nat.reduceLeDiff, Nat.reduceBEq, Nat.reduceLT, if_true, if_false, beq_self_eq_true, BEq.rfl, ne_eq, e_i64]
            (try simp only [WN.down, Nat.reduceAdd, if_true, if_false, ↓reduceIte, e_i64] at hP)
            (try simp only [WN.down, Nat.reduceAdd, if_true, if_false, ↓reduceIte, e_i64])
            exact hP
          exact w_ret (r0 _ (.inl (w_fin [.bool true] rfl (by cases someE h; rfl) (by decide) outs_nil)))
    obtain ⟨n, h⟩ := limE h
    exact w_loop (.inr ⟨_, weak_eq rfl, L14 n 0 h⟩)

theorem ok_laws_eqEquation  (a0 : impl_Equation) (a1 : impl_Equation) (r : Bool) (h : laws_eqEquation  a0 a1 = some r) : OkAt Cc 104 [e_impl_Equation a0, e_impl_Equation a1] (.bool r) [] := by
  refine OkAt.of_wpQ (fx := [0, 1]) Cc_ok Try.func104 rfl rfl s104 (Nat.le_of_ble_eq_true rfl) (fun Q0 r0 n0 => ?_)
  replace r0 : ∀ s, onW (Fw.Ends Cc [0, 1] [.tmp 4] (.bool r) []) s → Q0 .ret s := r0
  replace n0 : ∀ s, onW (Fw.Ends Cc [0, 1] [.tmp 4] (.bool r) []) s → Q0 .normal s := n0
  show wpC Cc c104 Q0 (stA [(0, e_impl_Equation a0), (1, e_impl_Equation a1)])
  refine w_sreg (w_abs [(2, .ubox (e_impl_Equation a0)), (3, .ubox (e_impl_Equation a1))] (fun P hP => ?_) ?_)
  · simp only [W0.down, Nat.reduceEqDiff, ↓reduceIte, reduceCtorEq, Nat.reduceAdd, Nat.reduceSub, Nat.reduceMul, Nat.reduceLeDiff, Nat.reduceBEq, Nat.reduceLT, if_true, if_false, beq_self_eq_true, BEq.rfl, ne_eq, tt2, tt4, tt68, tt120, e_i64, e_impl_Equation]
    (try simp only [WN.down, Nat.reduceAdd, if_true, if_false, ↓reduceIte, tt2, tt4, tt68, tt120, e_i64, e_impl_Equation] at hP)
    (try simp only [WN.down, Nat.reduceAdd, if_true, if_false, ↓reduceIte, tt2, tt4, tt68, tt120, e_i64, e_impl_Equation])
    exact hP
  refine w_seq (fun Q2 n2 q2 x2 => ?_)
  refine w_sreg (w_abs [(2, .ubox (e_impl_Equation a0)), (3, .ubox (e_impl_Equation a1)), (9, .bool (!(a0.Greatest == a1.Greatest)))] (fun P hP => ?_) ?_)
  · simp only [W0.down, Nat.reduceEqDiff, ↓reduceIte, reduceCtorEq, Nat.reduceAdd, Nat.reduceSub, Nat.reduceMul, Nat.reduceLeDiff, Nat.reduceBEq, Nat.reduceLT, if_true, if_false, beq_self_eq_true, BEq.rfl, ne_eq, tt2, tt4, tt68, tt120, e_i64, e_impl_Equation]
    (try simp only [WN.down, Nat.reduceAdd, if_true, if_false, ↓reduceIte, tt2, tt4, tt68, tt120, e_i64, e_impl_Equation] at hP)
    (try simp only [WN.down, Nat.reduceAdd, if_true, if_false, ↓reduceIte, tt2, tt4, tt68, tt120, e_i64, e_impl_Equation])
    exact hP
  rcases condE h with ⟨b4, h⟩ | ⟨b4, h⟩
  · refine w_ct (congrArg AV.bool b4) ?_
    simp only [b4, Bool.not_true, Bool.not_false]
    refine w_sreg (w_abs [(4, .bool false)] (fun P hP => ?_) ?_)
    · simp only [W0.down, Nat.reduceEqDiff, ↓reduceIte, reduceCtorEq, Nat.reduceAdd, Nat.reduceSub, Nat.reduceMul, Nat.reduceLeDiff, Nat.reduceBEq, Nat.reduceLT, if_true, if_false, beq_self_eq_true, BEq.rfl, ne_eq, e_i64, e_impl_Equation]
      (try simp only [WN.down, Nat.reduceAdd, if_true, if_false, ↓reduceIte, e_i64, e_impl_Equation] at hP)
      (try simp only [WN.down, Nat.reduceAdd, if_true, if_false, ↓reduceIte, e_i64, e_impl_Equation])
      exact hP
    exact w_ret (q2 _ (r0 _ (.inl (w_fin [.bool false] rfl (by cases someE h; rfl) (by decide) outs_nil))))
  · refine w_cf (congrArg AV.bool b4) ?_
    simp only [b4, Bool.not_true, Bool.not_false]
    refine w_skip (n2 _ (.inl ?_))
    refine w_seq (fun Q6 n6 q6 x6 => ?_)
    refine w_sreg (w_abs [(2, .ubox (e_impl_Equation a0)), (3, .ubox (e_impl_Equation a1)), (14, .bool (!(a0.All == a1.All)))] (fun P hP => ?_) ?_)
    · simp only [W0.down, Nat.reduceEqDiff, ↓reduceIte, reduceCtorEq, Nat.reduceAdd, Nat.reduceSub, Nat.reduceMul, Nat.reduceLeDiff, Nat.reduceBEq, Nat.reduceLT, if_true, if_false, beq_self_eq_true, BEq.rfl, ne_eq, tt2, tt4, tt68, tt120, e_i64, e_impl_Equation]
      (try simp only [WN.down, Nat.reduceAdd, if_true, if_false, ↓reduceIte, tt2, tt4, tt68, tt120, e_i64, e_impl_Equation] at hP)
      (try simp only [WN.down, Nat.reduceAdd, if_true, if_false, ↓reduceIte, tt2, tt4, tt68, tt120, e_i64, e_impl_Equation])
      exact hP
    rcases condE h with ⟨b8, h⟩ | ⟨b8, h⟩
    · refine w_ct (congrArg AV.bool b8) ?_
      simp only [b8, Bool.not_true, Bool.not_false]
      refine w_sreg (w_abs [(4, .bool false)] (fun P hP => ?_) ?_)
      · simp only [W0.down, Nat.reduceEqDiff, ↓reduceIte, reduceCtorEq, Nat.reduceAdd, Nat.reduceSub, Nat.reduceMul, Nat.reduceLeDiff, Nat.reduceBEq, Nat.reduceLT, if_true, if_false, beq_self_eq_true, BEq.rfl, ne_eq, e_i64, e_impl_Equation]
        (try simp only [WN.down, Nat.reduceAdd, if_true, if_false, ↓reduceIte, e_i64, e_impl_Equation] at hP)
        (try simp only [WN.down, Nat.reduceAdd, if_true, if_false, ↓reduceIte, e_i64, e_impl_Equation])
        exact hP
      exact w_ret (q6 _ (r0 _ (.inl (w_fin [.bool false] rfl (by cases someE h; rfl) (by decide) outs_nil))))
    · refine w_cf (congrArg AV.bool b8) ?_
      simp only [b8, Bool.not_true, Bool.not_false]
      refine w_skip (n6 _ (.inl ?_))
      refine w_seq (fun Q10 n10 q10 x10 => ?_)
      obtain ⟨x1, e12, h⟩ := bindE h
      refine w_sreg (w_abs [(20, .bool (!x1))] (fun P hP => ?_) ?_)
      · simp only [W0.down, Nat.reduceEqDiff, ↓reduceIte, reduceCtorEq, Nat.reduceAdd, Nat.reduceSub, Nat.reduceMul, Nat.reduceLeDiff, Nat.reduceBEq, Nat.reduceLT, if_true, if_false, beq_self_eq_true, BEq.rfl, ne_eq, tt2, tt4, tt68, tt120, e_i64, e_impl_Equation]
        refine w_call0 (ok_laws_eqInt64S a0.Terms a1.Terms _ e12) rfl rfl rfl rfl (.inl (by rfl)) ?_
        simp only [W0.down, Nat.reduceEqDiff, ↓reduceIte, reduceCtorEq, Nat.reduceAdd, Nat.reduceSub, Nat.reduceMul, Nat.reduceLeDiff, Nat.reduceBEq, Nat.reduceLT, if_true, if_false, beq_self_eq_true, BEq.rfl, ne_eq, tt2, tt4, tt68, tt120, e_i64, e_impl_Equation]
        (try simp only [WN.down, Nat.reduceAdd, if_true, if_false, ↓reduceIte, tt2, tt4, tt68, tt120, e_i64, e_impl_Equation] at hP)
        (try simp only [WN.down, Nat.reduceAdd, if_true, if_false, ↓reduceIte, tt2, tt4, tt68, tt120, e_i64, e_impl_Equation])
        exact hP
      rcases condE h with ⟨b13, h⟩ | ⟨b13, h⟩
      · refine w_ct (congrArg AV.bool b13) ?_
        simp only [b13, Bool.not_true, Bool.not_false]
        refine w_sreg (w_abs [(4, .bool false)] (fun P hP => ?_) ?_)
        · simp only [W0.down, Nat.reduceEqDiff, ↓reduceIte, reduceCtorEq, Nat.reduceAdd, Nat.reduceSub, Nat.reduceMul, Nat.reduceLeDiff, Nat.reduceBEq, Nat.reduceLT, if_true, if_false, beq_self_eq_true, BEq.rfl, ne_eq]
          (try simp only [WN.down, Nat.reduceAdd, if_true, if_false, ↓reduceIte] at hP)
          (try simp only [WN.down, Nat.reduceAdd, if_true, if_false, ↓reduceIte])
          exact hP
        exact w_ret (q10 _ (r0 _ (.inl (w_fin [.bool false] rfl (by cases someE h; rfl) (by decide) outs_nil))))
      · refine w_cf (congrArg AV.bool b13) ?_
        simp only [b13, Bool.not_true, Bool.not_false]
        refine w_skip (n10 _ (.inl ?_))
        refine w_sreg (w_abs [(4, .bool true)] (fun P hP => ?_) ?_)
        · simp only [W0.down, Nat.reduceEqDiff, ↓reduceIte, reduceCtorEq, Nat.reduceAdd, Nat.reduceSub, Nat.reduceMul, Nat.reduceLeDiff, Nat.reduceBEq, Nat.reduceLT, if_true, if_false, beq_self_eq_true, BEq.rfl, ne_eq]
          (try simp only [WN.down, Nat.reduceAdd, if_true, if_false, ↓reduceIte] at hP)
          (try simp only [WN.down, Nat.reduceAdd, if_true, if_false, ↓reduceIte])
          exact hP
        exact w_ret (r0 _ (.inl (w_fin [.bool true] rfl (by cases someE h; rfl) (by decide) outs_nil)))

theorem ok_laws_eqEquationS  (a0 : List impl_Equation) (a1 : List impl_Equation) (r : Bool) (h : laws_eqEquationS  a0 a1 = some r) : OkAt Cc 30 [.slice (a0.map e_impl_Equation), .slice (a1.map e_impl_Equation)] (.bool r) [] := by
  refine OkAt.of_wpQ (fx := [0, 1]) Cc_ok Try.func30 rfl rfl s30 (Nat.le_of_ble_eq_true rfl) (fun Q0 r0 n0 => ?_)
  replace r0 : ∀ s, onW (Fw.Ends Cc [0, 1] [.tmp 4] (.bool r) []) s → Q0 .ret s := r0
  replace n0 : ∀ s, onW (Fw.Ends Cc [0, 1] [.tmp 4] (.bool r) []) s → Q0 .normal s := n0
  show wpC Cc c30 Q0 (stA [(0, .slice (a0.map e_impl_Equation)), (1, .slice (a1.map e_impl_Equation))])
  refine w_sreg (w_abs [(0, .slice (a0.map e_impl_Equation)), (1, .slice (a1.map e_impl_Equation))] (fun P hP => ?_) ?_)
  · simp only [W0.down, Nat.reduceEqDiff, ↓reduceIte, reduceCtorEq, Nat.reduceAdd, Nat.reduceSub, Nat.reduceMul, Nat.reduceLeDiff, Nat.reduceBEq, Nat.reduceLT, if_true, if_false, beq_self_eq_true, BEq.rfl, ne_eq, e_i64, e_impl_Equation]
    (try simp only [WN.down, Nat.reduceAdd, if_true, if_false, ↓reduceIte, e_i64, e_impl_Equation] at hP)
    (try simp only [WN.down, Nat.reduceAdd, if_true, if_false, ↓reduceIte, e_i64, e_impl_Equation])
    exact hP
  refine w_seq (fun Q2 n2 q2 x2 => ?_)
  refine w_sreg (w_abs [(0, .slice (a0.map e_impl_Equation)), (1, .slice (a1.map e_impl_Equation)), (10, .bool ((a0.length : Int) != (a1.length : Int)))] (fun P hP => ?_) ?_)
  · simp only [W0.down, Nat.reduceEqDiff, ↓reduceIte, reduceCtorEq, Nat.reduceAdd, Nat.reduceSub, Nat.reduceMul, Nat.reduceLeDiff, Nat.reduceBEq, Nat.reduceLT, if_true, if_false, beq_self_eq_true, BEq.rfl, ne_eq, tt2, tt4, tt32, tt68, tt120, e_i64, e_impl_Equation]
    (try simp only [WN.down, Nat.reduceAdd, if_true, if_false, ↓reduceIte, tt2, tt4, tt32, tt68, tt120, e_i64, e_impl_Equation] at hP)
    (try simp only [WN.down, Nat.reduceAdd, if_true, if_false, ↓reduceIte, tt2, tt4, tt32, tt68, tt120, e_i64, e_impl_Equation])
    exact hP
  rcases condE h with ⟨b4, h⟩ | ⟨b4, h⟩
  · refine w_ct (congrArg AV.bool b4) ?_
    simp only [b4, Bool.not_true, Bool.not_false]
    refine w_sreg (w_abs [(4, .bool false)] (fun P hP => ?_) ?_)
    · simp only [W0.down, Nat.reduceEqDiff, ↓reduceIte, reduceCtorEq, Nat.reduceAdd, Nat.reduceSub, Nat.reduceMul, Nat.reduceLeDiff, Nat.reduceBEq, Nat.reduceLT, if_true, if_false, beq_self_eq_true, BEq.rfl, ne_eq, e_i64, e_impl_Equation]
      (try simp only [WN.down, Nat.reduceAdd, if_true, if_false, ↓reduceIte, e_i64, e_impl_Equation] at hP)
      (try simp only [WN.down, Nat.reduceAdd, if_true, if_false, ↓reduceIte, e_i64, e_impl_Equation])
      exact hP
    exact w_ret (q2 _ (r0 _ (.inl (w_fin [.bool false] rfl (by cases someE h; rfl) (by decide) outs_nil))))
  · refine w_cf (congrArg AV.bool b4) ?_
    simp only [b4, Bool.not_true, Bool.not_false]
    refine w_skip (n2 _ (.inl ?_))
    refine w_seq (fun Q6 n6 q6 x6 => ?_)
    refine w_sreg (w_abs [(0, .slice (a0.map e_impl_Equation)), (1, .slice (a1.map e_impl_Equation)), (5, .int .i64 0)] (fun P hP => ?_) ?_)
    · simp only [W0.down, Nat.reduceEqDiff, ↓reduceIte, reduceCtorEq, Nat.reduceAdd, Nat.reduceSub, Nat.reduceMul, Nat.reduceLeDiff, Nat.reduceBEq, Nat.reduceLT, if_true, if_false, beq_self_eq_true, BEq.rfl, ne_eq, e_i64, e_impl_Equation]
      (try simp only [WN.down, Nat.reduceAdd, if_true, if_false, ↓reduceIte, e_i64, e_impl_Equation] at hP)
      (try simp only [WN.down, Nat.reduceAdd, if_true, if_false, ↓reduceIte, e_i64, e_impl_Equation])
      exact hP
    refine w_blk (fun Q8 n8 q8 b8 x8 => ?_)
    have L14 : ∀ (n : Nat) (v5_14 : Int), laws_eqEquationS_l14 a0 a1 n v5_14 = some r → lpC Cc c30_15 Q8 (stA [(0, .slice (a0.map e_impl_Equation)), (1, .slice (a1.map e_impl_Equation)), (5, .int .i64 v5_14)]) := by
      intro m14
      induction m14 with
      | zero => intro v5_14 h; cases (show none = some r from h)
      | succ m14 ih14 =>
        intro v5_14 h
        replace h : laws_eqEquationS_b14 (laws_eqEquationS_l14 a0 a1 m14) a0 a1 v5_14 = some r := h
        refine lpC_step (fun Q9 n9 q9 x9 => ?_)
        refine w_seq (fun Q10 n10 q10 x10 => ?_)
        refine w_sreg (w_abs [(0, .slice (a0.map e_impl_Equation)), (1, .slice (a1.map e_impl_Equation)), (5, .int .i64 v5_14), (14, .bool (decide (v5_14 < (a0.length : Int))))] (fun P hP => ?_) ?_)
        · simp only [W0.down, Nat.reduceEqDiff, ↓reduceIte, reduceCtorEq, Nat.reduceAdd, Nat.reduceSub, Nat.reduceMul, Nat.reduceLeDiff, Nat.reduceBEq, Nat.reduceLT, if_true, if_false, beq_self_eq_true, BEq.rfl, ne_eq, tt2, tt4, tt32, tt68, tt120, e_i64, e_impl_Equation]
          (try simp only [WN.down, Nat.reduceAdd, if_true, if_false, ↓reduceIte, tt2, tt4, tt32, tt68, tt120, e_i64, e_impl_Equation] at hP)
          (try simp only [WN.down, Nat.reduceAdd, if_true, if_false, ↓reduceIte, tt2, tt4, tt32, tt68, tt120, e_i64, e_impl_Equation])
          exact hP
        rcases condE h with ⟨b12, h⟩ | ⟨b12, h⟩
        · refine w_ct (congrArg AV.bool b12) ?_
          simp only [b12, Bool.not_true, Bool.not_false]
          refine w_skip (n10 _ (.inl ?_))
          refine w_seq (fun Q13 n13 q13 x13 => ?_)
          refine w_blk (fun Q14 n14 q14 b14 x14 => ?_)
          obtain ⟨x1, e16, h⟩ := bindE h
          obtain ⟨x2, e17, h⟩ := bindE h
          obtain ⟨x3, e18, h⟩ := bindE h
          refine w_sdrw rfl (w_absd [(0, .slice (a0.map e_impl_Equation)), (1, .slice (a1.map e_impl_Equation)), (5, .int .i64 v5_14), (26, .bool (!x3))] (fun P hP => ?_) ?_)
          · simp only [W1.down, Nat.reduceEqDiff, ↓reduceIte, reduceCtorEq, Nat.reduceAdd, Nat.reduceSub, Nat.reduceMul, Nat.reduceLeDiff, Nat.reduceBEq, Nat.reduceLT, if_true, if_false, beq_self_eq_true, BEq.rfl, ne_eq, tt2, tt4, tt32, tt68, tt120, e_i64, e_impl_Equation, e16, e17]
            refine w_call1 (ok_laws_eqEquation x1 x2 _ e18) rfl rfl rfl rfl (.inl (by rfl)) ?_
            simp only [W1.down, Nat.reduceEqDiff, ↓reduceIte, reduceCtorEq, Nat.reduceAdd, Nat.reduceSub, Nat.reduceMul, Nat.reduceLeDiff, Nat.reduceBEq, Nat.reduceLT, if_true, if_false, beq_self_eq_true, BEq.rfl, ne_eq, tt2, tt4, tt32, tt68, tt120, e_i64, e_impl_Equation, e16, e17]
            refine ⟨by kernel_rfl, ?_⟩
            (try simp only [WN.down, Nat.reduceAdd, if_true, if_false, ↓reduceIte, tt2, tt4, tt32, tt68, tt120, e_i64, e_impl_Equation, e16, e17] at hP)
            (try simp only [WN.down, Nat.reduceAdd, if_true, if_false, ↓reduceIte, tt2, tt4, tt32, tt68, tt120, e_i64, e_impl_Equation, e16, e17])
            exact hP
          rcases condE h with ⟨b19, h⟩ | ⟨b19, h⟩
          · refine w_ct (congrArg AV.bool b19) ?_
            simp only [b19, Bool.not_true, Bool.not_false]
            refine w_sreg (w_abs [(4, .bool false)] (fun P hP => ?_) ?_)
            · simp only [W0.down, Nat.reduceEqDiff, ↓reduceIte, reduceCtorEq, Nat.reduceAdd, Nat.reduceSub, Nat.reduceMul, Nat.reduceLeDiff, Nat.reduceBEq, Nat.reduceLT, if_true, if_false, beq_self_eq_true, BEq.rfl, ne_eq, e_i64, e_impl_Equation]
              (try simp only [WN.down, Nat.reduceAdd, if_true, if_false, ↓reduceIte, e_i64, e_impl_Equation] at hP)
              (try simp only [WN.down, Nat.reduceAdd, if_true, if_false, ↓reduceIte, e_i64, e_impl_Equation])
              exact hP
            exact w_ret (q14 _ (q13 _ (q9 _ (q8 _ (q6 _ (r0 _ (.inl (w_fin [.bool false] rfl (by cases someE h; rfl) (by decide) outs_nil))))))))
          · refine w_cf (congrArg AV.bool b19) ?_
            simp only [b19, Bool.not_true, Bool.not_false]
            refine w_skip (n14 _ (n13 _ (.inl ?_)))
            refine w_reg (w_abs [(0, .slice (a0.map e_impl_Equation)), (1, .slice (a1.map e_impl_Equation)), (5, .int .i64 (IntKind.i64.wrap (v5_14 + 1)))] (fun P hP => ?_) ?_)
            · simp only [W0.down, Nat.reduceEqDiff, ↓reduceIte, reduceCtorEq, Nat.reduceAdd, Nat.reduceSub, Nat.reduceMul, Nat.reduceLeDiff, Nat.reduceBEq, Nat.reduceLT, if_true, if_false, beq_self_eq_true, BEq.rfl, ne_eq, e_i64, e_impl_Equation]
              (try simp only [WN.down, Nat.reduceAdd, if_true, if_false, ↓reduceIte, e_i64, e_impl_Equation] at hP)
              (try simp only [WN.down, Nat.reduceAdd, if_true, if_false, ↓reduceIte, e_i64, e_impl_Equation])
              exact hP
            exact n9 _ (.inr ⟨_, weak_eq rfl, ih14 (IntKind.i64.wrap (v5_14 + 1)) h⟩)
        · refine w_cf (congrArg AV.bool b12) ?_
          simp only [b12, Bool.not_true, Bool.not_false]
          refine w_ex (x10 0 _ (x9 0 _ (b8 _ (n6 _ (.inl ?_)))))
          refine w_sreg (w_abs [(4, .bool true)] (fun P hP => ?_) ?_)
          · simp only [W0.down, Nat.reduceEqDiff, ↓reduceIte, reduceCtorEq, Nat.reduceAdd, Nat.reduceSub, Nat.reduceMul, Nat.reduceLeDiff, Nat.reduceBEq, Nat.reduceLT, if_true, if_false, beq_self_eq_true, BEq.rfl, ne_eq, e_i64, e_impl_Equation]
            (try simp only [WN.down, Nat.reduceAdd, if_true, if_false, ↓reduceIte, e_i64, e_impl_Equation] at hP)
            (try simp only [WN.down, Nat.reduceAdd, if_true, if_false, ↓reduceIte, e_i64, e_impl_Equation])
            exact hP
          exact w_ret (r0 _ (.inl (w_fin [.bool true] rfl (by cases someE h; rfl) (by decide) outs_nil)))
    obtain ⟨n, h⟩ := limE h
    exact w_loop (.inr ⟨_, weak_eq rfl, L14 n 0 h⟩)

theorem ok_laws_markInt64S  (a0 : List Int) (a1 : Int) (r : Int × (List Int)) (h : laws_markInt64S  a0 a1 = some r) : OkAt Cc 61 [.uslice 1 (a0.map e_i64), .int .i64 a1] (.int .i64 r.1) [.uslice 1 (r.2.map e_i64), .hole] := by
  refine OkAt.of_wpQ (fx := [0]) Cc_ok Try.func61 rfl rfl s61 (Nat.le_of_ble_eq_true rfl) (fun Q0 r0 n0 => ?_)
  replace r0 : ∀ s, onW (Fw.Ends Cc [0] [.tmp 4] (.int .i64 r.1) [.uslice 1 (r.2.map e_i64), .hole]) s → Q0 .ret s := r0
  replace n0 : ∀ s, onW (Fw.Ends Cc [0] [.tmp 4] (.int .i64 r.1) [.uslice 1 (r.2.map e_i64), .hole]) s → Q0 .normal s := n0
  show wpC Cc c61 Q0 (stA [(0, .uslice 1 (a0.map e_i64)), (1, .int .i64 a1)])
  refine w_sreg (w_abs [(0, .uslice 1 (a0.map e_i64)), (1, .int .i64 a1)] (fun P hP => ?_) ?_)
  · simp only [W0.down, Nat.reduceEqDiff, ↓reduceIte, reduceCtorEq, Nat.reduceAdd, Nat.reduceSub, Nat.reduceMul, Nat.reduceLeDiff, Nat.reduceBEq, Nat.reduceLT, if_true, if_false, beq_self_eq_true, BEq.rfl, ne_eq, e_i64]
    (try simp only [WN.down, Nat.reduceAdd, if_true, if_false, ↓reduceIte, e_i64] at hP)
    (try simp only [WN.down, Nat.reduceAdd, if_true, if_false, ↓reduceIte, e_i64])
    exact hP
  refine w_seq (fun Q2 n2 q2 x2 => ?_)
  refine w_sreg (w_abs [(0, .uslice 1 (a0.map e_i64)), (1, .int .i64 a1), (5, .int .i64 0)] (fun P hP => ?_) ?_)
  · simp only [W0.down, Nat.reduceEqDiff, ↓reduceIte, reduceCtorEq, Nat.reduceAdd, Nat.reduceSub, Nat.reduceMul, Nat.reduceLeDiff, Nat.reduceBEq, Nat.reduceLT, if_true, if_false, beq_self_eq_true, BEq.rfl, ne_eq, e_i64]
    (try simp only [WN.down, Nat.reduceAdd, if_true, if_false, ↓reduceIte, e_i64] at hP)
    (try simp only [WN.down, Nat.reduceAdd, if_true, if_false, ↓reduceIte, e_i64])
    exact hP
  refine w_blk (fun Q4 n4 q4 b4 x4 => ?_)
  have L6 : ∀ (n : Nat) (v0_6 : List Int) (v1_6 : Int) (v5_6 : Int), laws_markInt64S_l6 n v0_6 v1_6 v5_6 = some r → lpC Cc c61_7 Q4 (stA [(0, .uslice 1 (v0_6.map e_i64)), (1, .int .i64 v1_6), (5, .int .i64 v5_6)]) := by
    intro m6
    induction m6 with
    | zero => intro v0_6 v1_6 v5_6 h; cases (show none = some r from h)
    | succ m6 ih6 =>
      intro v0_6 v1_6 v5_6 h
      replace h : laws_markInt64S_b6 (laws_markInt64S_l6 m6) v0_6 v1_6 v5_6 = some r := h
      refine lpC_step (fun Q5 n5 q5 x5 => ?_)
      refine w_seq (fun Q6 n6 q6 x6 => ?_)
      refine w_sreg (w_abs [(0, .uslice 1 (v0_6.map e_i64)), (1, .int .i64 v1_6), (5, .int .i64 v5_6), (9, .bool (decide (v5_6 < (v0_6.length : Int))))] (fun P hP => ?_) ?_)
      · simp only [W0.down, Nat.reduceEqDiff, ↓reduceIte, reduceCtorEq, Nat.reduceAdd, Nat.reduceSub, Nat.reduceMul, Nat.reduceLeDiff, Nat.reduceBEq, Nat.reduceLT, if_true, if_false, beq_self_eq_true, BEq.rfl, ne_eq, tt2, tt68, e_i64]
        (try simp only [WN.down, Nat.reduceAdd, if_true, if_false, ↓reduceIte, tt2, tt68, e_i64] at hP)
        (try simp only [WN.down, Nat.reduceAdd, if_true, if_false, ↓reduceIte, tt2, tt68, e_i64])
        exact hP
      rcases condE h with ⟨b8, h⟩ | ⟨b8, h⟩
      · refine w_ct (congrArg AV.bool b8) ?_
        simp only [b8, Bool.not_true, Bool.not_false]
        refine w_skip (n6 _ (.inl ?_))
        refine w_seq (fun Q9 n9 q9 x9 => ?_)
        refine w_blk (fun Q10 n10 q10 b10 x10 => ?_)
        obtain ⟨x1, e12, h⟩ := bindE h
        refine w_sreg (w_abs [(0, .uslice 1 ((List.set v0_6 (Int.toNat v5_6) v1_6).map e_i64)), (1, .int .i64 v1_6), (5, .int .i64 v5_6)] (fun P hP => ?_) ?_)
        · simp only [W0.down, Nat.reduceEqDiff, ↓reduceIte, reduceCtorEq, Nat.reduceAdd, Nat.reduceSub, Nat.reduceMul, Nat.reduceLeDiff, Nat.reduceBEq, Nat.reduceLT, if_true, if_false, beq_self_eq_true, BEq.rfl, ne_eq, tt2, tt68, e_i64, e12, getI_get e12]
          (try simp only [WN.down, Nat.reduceAdd, if_true, if_false, ↓reduceIte, tt2, tt68, e_i64, e12, getI_get e12] at hP)
          (try simp only [WN.down, Nat.reduceAdd, if_true, if_false, ↓reduceIte, tt2, tt68, e_i64, e12, getI_get e12])
          exact hP
        refine w_reg (w_abs [(0, .uslice 1 ((List.set v0_6 (Int.toNat v5_6) v1_6).map e_i64)), (1, .int .i64 (IntKind.i64.wrap (v1_6 + 1))), (5, .int .i64 v5_6)] (fun P hP => ?_) ?_)
        · simp only [W0.down, Nat.reduceEqDiff, ↓reduceIte, reduceCtorEq, Nat.reduceAdd, Nat.reduceSub, Nat.reduceMul, Nat.reduceLeDiff, Nat.reduceBEq, Nat.reduceLT, if_true, if_false, beq_self_eq_true, BEq.rfl, ne_eq, e_i64]
          (try simp only [WN.down, Nat.reduceAdd, if_true, if_false, ↓reduceIte, e_i64] at hP)
          (try simp only [WN.down, Nat.reduceAdd, if_true, if_false, ↓reduceIte, e_i64])
          exact hP
        refine n10 _ (n9 _ (.inl ?_))
        refine w_reg (w_abs [(0, .uslice 1 ((List.set v0_6 (Int.toNat v5_6) v1_6).map e_i64)), (1, .int .i64 (IntKind.i64.wrap (v1_6 + 1))), (5, .int .i64 (IntKind.i64.wrap (v5_6 + 1)))] (fun P hP => ?_) ?_)
        · simp only [W0.down, Nat.reduceEqDiff, ↓reduceIte, reduceCtorEq, Nat.reduceAdd, Nat.reduceSub, Nat.reduceMul, Nat.reduceLeDiff, Nat.reduceBEq, Nat.reduceLT, if_true, if_false, beq_self_eq_true, BEq.rfl, ne_eq, e_i64]
          (try simp only [WN.down, Nat.reduceAdd, if_true, if_false, ↓reduceIte, e_i64] at hP)
          (try simp only [WN.down, Nat.reduceAdd, if_true, if_false, ↓reduceIte, e_i64])
          exact hP
        exact n5 _ (.inr ⟨_, weak_eq rfl, ih6 (List.set v0_6 (Int.toNat v5_6) v1_6) (IntKind.i64.wrap (v1_6 + 1)) (IntKind.i64.wrap (v5_6 + 1)) h⟩)
      · refine w_cf (congrArg AV.bool b8) ?_
        simp only [b8, Bool.not_true, Bool.not_false]
        refine w_ex (x6 0 _ (x5 0 _ (b4 _ (n2 _ (.inl ?_)))))
        refine w_sreg (w_abs [(0, .uslice 1 (v0_6.map e_i64)), (4, .int .i64 v1_6)] (fun P hP => ?_) ?_)
        · simp only [W0.down, Nat.reduceEqDiff, ↓reduceIte, reduceCtorEq, Nat.reduceAdd, Nat.reduceSub, Nat.reduceMul, Nat.reduceLeDiff, Nat.reduceBEq, Nat.reduceLT, if_true, if_false, beq_self_eq_true, BEq.rfl, ne_eq, e_i64]
          (try simp only [WN.down, Nat.reduceAdd, if_true, if_false, ↓reduceIte, e_i64] at hP)
          (try simp only [WN.down, Nat.reduceAdd, if_true, if_false, ↓reduceIte, e_i64])
          exact hP
        exact w_ret (r0 _ (.inl (w_fin [.int .i64 v1_6] rfl (by cases someE h; rfl) (by decide) (outs_of (out_is (by cases someE h; rfl) rfl rfl rfl (out_no (out_end)))))))
  obtain ⟨n, h⟩ := limE h
  exact w_loop (.inr ⟨_, weak_eq rfl, L6 n a0 a1 0 h⟩)

theorem ok_laws_markEquationS  (a0 : List impl_Equation) (a1 : Int) (r : Int × (List impl_Equation)) (h : laws_markEquationS  a0 a1 = some r) : OkAt Cc 44 [.uslice 3 (a0.map u_impl_Equation), .int .i64 a1] (.int .i64 r.1) [.uslice 3 (r.2.map u_impl_Equation), .hole] := by
  refine OkAt.of_wpQ (fx := [0]) Cc_ok Try.func44 rfl rfl s44 (Nat.le_of_ble_eq_true rfl) (fun Q0 r0 n0 => ?_)
  replace r0 : ∀ s, onW (Fw.Ends Cc [0] [.tmp 4] (.int .i64 r.1) [.uslice 3 (r.2.map u_impl_Equation), .hole]) s → Q0 .ret s := r0
  replace n0 : ∀ s, onW (Fw.Ends Cc [0] [.tmp 4] (.int .i64 r.1) [.uslice 3 (r.2.map u_impl_Equation), .hole]) s → Q0 .normal s := n0
  show wpC Cc c44 Q0 (stA [(0, .uslice 3 (a0.map u_impl_Equation)), (1, .int .i64 a1)])
  refine w_sreg (w_abs [(0, .uslice 3 (a0.map u_impl_Equation)), (1, .int .i64 a1)] (fun P hP => ?_) ?_)
  · simp only [W0.down, Nat.reduceEqDiff, ↓reduceIte, reduceCtorEq, Nat.reduceAdd, Nat.reduceSub, Nat.reduceMul, Nat.reduceLeDiff, Nat.reduceBEq, Nat.reduceLT, if_true, if_false, beq_self_eq_true, BEq.rfl, ne_eq, e_i64, u_impl_Equation]
    (try simp only [WN.down, Nat.reduceAdd, if_true, if_false, ↓reduceIte, e_i64, u_impl_Equation] at hP)
    (try simp only [WN.down, Nat.reduceAdd, if_true, if_false, ↓reduceIte, e_i64, u_impl_Equation])
    exact hP
  refine w_seq (fun Q2 n2 q2 x2 => ?_)
  refine w_sreg (w_abs [(0, .uslice 3 (a0.map u_impl_Equation)), (1, .int .i64 a1), (5, .int .i64 0)] (fun P hP => ?_) ?_)
  · simp only [W0.down, Nat.reduceEqDiff, ↓reduceIte, reduceCtorEq, Nat.reduceAdd, Nat.reduceSub, Nat.reduceMul, Nat.reduceLeDiff, Nat.reduceBEq, Nat.reduceLT, if_true, if_false, beq_self_eq_true, BEq.rfl, ne_eq, e_i64, u_impl_Equation]
    (try simp only [WN.down, Nat.reduceAdd, if_true, if_false, ↓reduceIte, e_i64, u_impl_Equation] at hP)
    (try simp only [WN.down, Nat.reduceAdd, if_true, if_false, ↓reduceIte, e_i64, u_impl_Equation])
    exact hP
  refine w_blk (fun Q4 n4 q4 b4 x4 => ?_)
  have L6 : ∀ (n : Nat) (v0_6 : List impl_Equation) (v1_6 : Int) (v5_6 : Int), laws_markEquationS_l6 n v0_6 v1_6 v5_6 = some r → lpC Cc c44_7 Q4 (stA [(0, .uslice 3 (v0_6.map u_impl_Equation)), (1, .int .i64 v1_6), (5, .int .i64 v5_6)]) := by
    intro m6
    induction m6 with
    | zero => intro v0_6 v1_6 v5_6 h; cases (show none = some r from h)
    | succ m6 ih6 =>
      intro v0_6 v1_6 v5_6 h
      replace h : laws_markEquationS_b6 (laws_markEquationS_l6 m6) v0_6 v1_6 v5_6 = some r := h
      refine lpC_step (fun Q5 n5 q5 x5 => ?_)
      refine w_seq (fun Q6 n6 q6 x6 => ?_)
      refine w_sreg (w_abs [(0, .uslice 3 (v0_6.map u_impl_Equation)), (1, .int .i64 v1_6), (5, .int .i64 v5_6), (9, .bool (decide (v5_6 < (v0_6.length : Int))))] (fun P hP => ?_) ?_)
      · simp only [W0.down, Nat.reduceEqDiff, ↓reduceIte, reduceCtorEq, Nat.reduceAdd, Nat.reduceSub, Nat.reduceMul, Nat.reduceLeDiff, Nat.reduceBEq, Nat.reduceLT, if_true, if_false, beq_self_eq_true, BEq.rfl, ne_eq, tt2, tt4, tt32, tt68, tt120, e_i64, u_impl_Equation]
        (try simp only [WN.down, Nat.reduceAdd, if_true, if_false, ↓reduceIte, tt2, tt4, tt32, tt68, tt120, e_i64, u_impl_Equation] at hP)
        (try simp only [WN.down, Nat.reduceAdd, if_true, if_false, ↓reduceIte, tt2, tt4, tt32, tt68, tt120, e_i64, u_impl_Equation])
        exact hP
      rcases condE h with ⟨b8, h⟩ | ⟨b8, h⟩
      · refine w_ct (congrArg AV.bool b8) ?_
        simp only [b8, Bool.not_true, Bool.not_false]
        refine w_skip (n6 _ (.inl ?_))
        refine w_seq (fun Q9 n9 q9 x9 => ?_)
        refine w_blk (fun Q10 n10 q10 b10 x10 => ?_)
        obtain ⟨x1, e12, h⟩ := bindE h
        refine w_sreg (w_abs [(0, .uslice 3 ((List.set v0_6 (Int.toNat v5_6) (impl_Equation.mk ((Int.tmod v1_6 3) == 0) x1.All x1.Terms)).map u_impl_Equation)), (1, .int .i64 v1_6), (5, .int .i64 v5_6)] (fun P hP => ?_) ?_)
        · simp only [W0.down, Nat.reduceEqDiff, ↓reduceIte, reduceCtorEq, Nat.reduceAdd, Nat.reduceSub, Nat.reduceMul, Nat.reduceLeDiff, Nat.reduceBEq, Nat.reduceLT, if_true, if_false, beq_self_eq_true, BEq.rfl, ne_eq, tt2, tt4, tt32, tt68, tt120, e_i64, u_impl_Equation, @bnI_rem' .i64 3 (by decide), e12, getI_get e12]
          (try simp only [WN.down, Nat.reduceAdd, if_true, if_false, ↓reduceIte, tt2, tt4, tt32, tt68, tt120, e_i64, u_impl_Equation, @bnI_rem' .i64 3 (by decide), e12, getI_get e12] at hP)
          (try simp only [WN.down, Nat.reduceAdd, if_true, if_false, ↓reduceIte, tt2, tt4, tt32, tt68, tt120, e_i64, u_impl_Equation, @bnI_rem' .i64 3 (by decide), e12, getI_get e12])
          exact hP
        refine w_sreg (w_abs [(0, .uslice 3 ((List.set v0_6 (Int.toNat v5_6) (impl_Equation.mk ((Int.tmod v1_6 3) == 0) x1.All x1.Terms)).map u_impl_Equation)), (1, .int .i64 (IntKind.i64.wrap (v1_6 + 1))), (5, .int .i64 v5_6)] (fun P hP => ?_) ?_)
        · simp only [W0.down, Nat.reduceEqDiff, ↓reduceIte, reduceCtorEq, Nat.reduceAdd, Nat.reduceSub, Nat.reduceMul, Nat.reduceLeDiff, Nat.reduceBEq, Nat.reduceLT, if_true, if_false, beq_self_eq_true, BEq.rfl, ne_eq, e_i64, u_impl_Equation]
          (try simp only [WN.down, Nat.reduceAdd, if_true, if_false, ↓reduceIte, e_i64, u_impl_Equation] at hP)
          (try simp only [WN.down, Nat.reduceAdd, if_true, if_false, ↓reduceIte, e_i64, u_impl_Equation])
          exact hP
        obtain ⟨x2, e15, h⟩ := bindE h
        refine w_sreg (w_abs [(0, .uslice 3 ((List.set (List.set v0_6 (Int.toNat v5_6) (impl_Equation.mk ((Int.tmod v1_6 3) == 0) x1.All x1.Terms)) (Int.toNat v5_6) (impl_Equation.mk x2.Greatest ((Int.tmod (IntKind.i64.wrap (v1_6 + 1)) 3) == 0) x2.Terms)).map u_impl_Equation)), (1, .int .i64 (IntKind.i64.wrap (v1_6 + 1))), (5, .int .i64 v5_6)] (fun P hP => ?_) ?_)
        · simp only [W0.down, Nat.reduceEqDiff, ↓reduceIte, reduceCtorEq, Nat.reduceAdd, Nat.reduceSub, Nat.reduceMul, Nat.reduceLeDiff, Nat.reduceBEq, Nat.reduceLT, if_true, if_false, beq_self_eq_true, BEq.rfl, ne_eq, tt2, tt4, tt32, tt68, tt120, e_i64, u_impl_Equation, @bnI_rem' .i64 3 (by decide), e15, getI_get e15]
          (try simp only [WN.down, Nat.reduceAdd, if_true, if_false, ↓reduceIte, tt2, tt4, tt32, tt68, tt120, e_i64, u_impl_Equation, @bnI_rem' .i64 3 (by decide), e15, getI_get e15] at hP)
          (try simp only [WN.down, Nat.reduceAdd, if_true, if_false, ↓reduceIte, tt2, tt4, tt32, tt68, tt120, e_i64, u_impl_Equation, @bnI_rem' .i64 3 (by decide), e15, getI_get e15])
          exact hP
        refine w_sreg (w_abs [(0, .uslice 3 ((List.set (List.set v0_6 (Int.toNat v5_6) (impl_Equation.mk ((Int.tmod v1_6 3) == 0) x1.All x1.Terms)) (Int.toNat v5_6) (impl_Equation.mk x2.Greatest ((Int.tmod (IntKind.i64.wrap (v1_6 + 1)) 3) == 0) x2.Terms)).map u_impl_Equation)), (1, .int .i64 (IntKind.i64.wrap ((IntKind.i64.wrap (v1_6 + 1)) + 1))), (5, .int .i64 v5_6)] (fun P hP => ?_) ?_)
        · simp only [W0.down, Nat.reduceEqDiff, ↓reduceIte, reduceCtorEq, Nat.reduceAdd, Nat.reduceSub, Nat.reduceMul, Nat.reduceLeDiff, Nat.reduceBEq, Nat.reduceLT, if_true, if_false, beq_self_eq_true, BEq.rfl, ne_eq, e_i64, u_impl_Equation]
          (try simp only [WN.down, Nat.reduceAdd, if_true, if_false, ↓reduceIte, e_i64, u_impl_Equation] at hP)
          (try simp only [WN.down, Nat.reduceAdd, if_true, if_false, ↓reduceIte, e_i64, u_impl_Equation])
          exact hP
        obtain ⟨x3, e18, h⟩ := bindE h
        obtain ⟨x4, e19, h⟩ := bindE h
        refine w_reg (w_abs [(0, .uslice 3 ((List.set (List.set (List.set v0_6 (Int.toNat v5_6) (impl_Equation.mk ((Int.tmod v1_6 3) == 0) x1.All x1.Terms)) (Int.toNat v5_6) (impl_Equation.mk x2.Greatest ((Int.tmod (IntKind.i64.wrap (v1_6 + 1)) 3) == 0) x2.Terms)) (Int.toNat v5_6) (impl_Equation.mk x3.Greatest x3.All x4.2)).map u_impl_Equation)), (1, .int .i64 x4.1), (5, .int .i64 v5_6)] (fun P hP => ?_) ?_)
        · simp only [W0.down, Nat.reduceEqDiff, ↓reduceIte, reduceCtorEq, Nat.reduceAdd, Nat.reduceSub, Nat.reduceMul, Nat.reduceLeDiff, Nat.reduceBEq, Nat.reduceLT, if_true, if_false, beq_self_eq_true, BEq.rfl, ne_eq, tt2, tt4, tt32, tt68, tt120, e_i64, u_impl_Equation, e18, getI_get e18]
          refine w_callp0 [⟨.h 0 [Int.toNat v5_6, 2], true, _, _⟩, ⟨.int .i64 (IntKind.i64.wrap ((IntKind.i64.wrap (v1_6 + 1)) + 1)), false, _, .hole⟩] (ok_laws_markInt64S x3.Terms (IntKind.i64.wrap ((IntKind.i64.wrap (v1_6 + 1)) + 1)) _ e19) rfl rfl rfl (by simp only [W0.down, Nat.reduceEqDiff, ↓reduceIte, reduceCtorEq, Nat.reduceAdd, Nat.reduceSub, Nat.reduceMul, Nat.reduceLeDiff, Nat.reduceBEq, Nat.reduceLT, if_true, if_false, beq_self_eq_true, BEq.rfl, ne_eq, tt2, tt4, tt32, tt68, tt120, e_i64, u_impl_Equation, e18, getI_get e18, okp_s, own_r, view_s, view_h, viewH_s, share_s, or_true, true_or, @shares_map _ e_i64 e_i64 (fun _ => sh_e_i64 _)]) rfl rfl (.inl rfl) ?_
          simp only [W0.down, Nat.reduceEqDiff, ↓reduceIte, reduceCtorEq, Nat.reduceAdd, Nat.reduceSub, Nat.reduceMul, Nat.reduceLeDiff, Nat.reduceBEq, Nat.reduceLT, if_true, if_false, beq_self_eq_true, BEq.rfl, ne_eq, tt2, tt4, tt32, tt68, tt120, e_i64, u_impl_Equation, e18, getI_get e18, gv_s, (get_set (getI_get e18)), set_mset]
          (try simp only [WN.down, Nat.reduceAdd, if_true, if_false, ↓reduceIte, tt2, tt4, tt32, tt68, tt120, e_i64, u_impl_Equation, e18, getI_get e18] at hP)
          (try simp only [WN.down, Nat.reduceAdd, if_true, if_false, ↓reduceIte, tt2, tt4, tt32, tt68, tt120, e_i64, u_impl_Equation, e18, getI_get e18])
          exact hP
        refine n10 _ (n9 _ (.inl ?_))
        refine w_reg (w_abs [(0, .uslice 3 ((List.set (List.set (List.set v0_6 (Int.toNat v5_6) (impl_Equation.mk ((Int.tmod v1_6 3) == 0) x1.All x1.Terms)) (Int.toNat v5_6) (impl_Equation.mk x2.Greatest ((Int.tmod (IntKind.i64.wrap (v1_6 + 1)) 3) == 0) x2.Terms)) (Int.toNat v5_6) (impl_Equation.mk x3.Greatest x3.All x4.2)).map u_impl_Equation)), (1, .int .i64 x4.1), (5, .int .i64 (IntKind.i64.wrap (v5_6 + 1)))] (fun P hP => ?_) ?_)
        · simp only [W0.down, Nat.reduceEqDiff, ↓reduceIte, reduceCtorEq, Nat.reduceAdd, Nat.reduceSub, Nat.reduceMul, Nat.reduceLeDiff, Nat.reduceBEq, Nat.reduceLT, if_true, if_false, beq_self_eq_true, BEq.rfl, ne_eq, e_i64, u_impl_Equation]
          (try simp only [WN.down, Nat.reduceAdd, if_true, if_false, ↓reduceIte, e_i64, u_impl_Equation] at hP)
          (try simp only [WN.down, Nat.reduceAdd, if_true, if_false, ↓reduceIte, e_i64, u_impl_Equation])
          exact hP
        exact n5 _ (.inr ⟨_, weak_eq rfl, ih6 (List.set (List.set (List.set v0_6 (Int.toNat v5_6) (impl_Equation.mk ((Int.tmod v1_6 3) == 0) x1.All x1.Terms)) (Int.toNat v5_6) (impl_Equation.mk x2.Greatest ((Int.tmod (IntKind.i64.wrap (v1_6 + 1)) 3) == 0) x2.Terms)) (Int.toNat v5_6) (impl_Equation.mk x3.Greatest x3.All x4.2)) x4.1 (IntKind.i64.wrap (v5_6 + 1)) h⟩)
      · refine w_cf (congrArg AV.bool b8) ?_
        simp only [b8, Bool.not_true, Bool.not_false]
        refine w_ex (x6 0 _ (x5 0 _ (b4 _ (n2 _ (.inl ?_)))))
        refine w_sreg (w_abs [(0, .uslice 3 (v0_6.map u_impl_Equation)), (4, .int .i64 v1_6)] (fun P hP => ?_) ?_)
        · simp only [W0.down, Nat.reduceEqDiff, ↓reduceIte, reduceCtorEq, Nat.reduceAdd, Nat.reduceSub, Nat.reduceMul, Nat.reduceLeDiff, Nat.reduceBEq, Nat.reduceLT, if_true, if_false, beq_self_eq_true, BEq.rfl, ne_eq, e_i64, u_impl_Equation]
          (try simp only [WN.down, Nat.reduceAdd, if_true, if_false, ↓reduceIte, e_i64, u_impl_Equation] at hP)
          (try simp only [WN.down, Nat.reduceAdd, if_true, if_false, ↓reduceIte, e_i64, u_impl_Equation])
          exact hP
        exact w_ret (r0 _ (.inl (w_fin [.int .i64 v1_6] rfl (by cases someE h; rfl) (by decide) (outs_of (out_is (by cases someE h; rfl) rfl rfl rfl (out_no (out_end)))))))
  obtain ⟨n, h⟩ := limE h
  exact w_loop (.inr ⟨_, weak_eq rfl, L6 n a0 a1 0 h⟩)

theorem ok_laws_heldInt64S  (a0 : List Int) (a1 : Int) (r : Int) (h : laws_heldInt64S  a0 a1 = some r) : OkAt Cc 62 [.slice (a0.map e_i64), .int .i64 a1] (.int .i64 r) [] := by
  refine OkAt.of_wpQ (fx := [0]) Cc_ok Try.func62 rfl rfl s62 (Nat.le_of_ble_eq_true rfl) (fun Q0 r0 n0 => ?_)
  replace r0 : ∀ s, onW (Fw.Ends Cc [0] [.tmp 4] (.int .i64 r) []) s → Q0 .ret s := r0
  replace n0 : ∀ s, onW (Fw.Ends Cc [0] [.tmp 4] (.int .i64 r) []) s → Q0 .normal s := n0
  show wpC Cc c62 Q0 (stA [(0, .slice (a0.map e_i64)), (1, .int .i64 a1)])
  refine w_sreg (w_abs [(0, .slice (a0.map e_i64)), (1, .int .i64 a1)] (fun P hP => ?_) ?_)
  · simp only [W0.down, Nat.reduceEqDiff, ↓reduceIte, reduceCtorEq, Nat.reduceAdd, Nat.reduceSub, Nat.reduceMul, Nat.reduceLeDiff, Nat.reduceBEq, Nat.reduceLT, if_true, if_false, beq_self_eq_true, BEq.rfl, ne_eq, e_i64]
    (try simp only [WN.down, Nat.reduceAdd, if_true, if_false, ↓reduceIte, e_i64] at hP)
    (try simp only [WN.down, Nat.reduceAdd, if_true, if_false, ↓reduceIte, e_i64])
    exact hP
  refine w_seq (fun Q2 n2 q2 x2 => ?_)
  refine w_sreg (w_abs [(0, .slice (a0.map e_i64)), (1, .int .i64 a1), (5, .int .i64 0)] (fun P hP => ?_) ?_)
  · simp only [W0.down, Nat.reduceEqDiff, ↓reduceIte, reduceCtorEq, Nat.reduceAdd, Nat.reduceSub, Nat.reduceMul, Nat.reduceLeDiff, Nat.reduceBEq, Nat.reduceLT, if_true, if_false, beq_self_eq_true, BEq.rfl, ne_eq, e_i64]
    (try simp only [WN.down, Nat.reduceAdd, if_true, if_false, ↓reduceIte, e_i64] at hP)
    (try simp only [WN.down, Nat.reduceAdd, if_true, if_false, ↓reduceIte, e_i64])
    exact hP
  refine w_blk (fun Q4 n4 q4 b4 x4 => ?_)
  have L6 : ∀ (n : Nat) (v1_6 : Int) (v5_6 : Int), laws_heldInt64S_l6 a0 n v1_6 v5_6 = some r → lpC Cc c62_7 Q4 (stA [(0, .slice (a0.map e_i64)), (1, .int .i64 v1_6), (5, .int .i64 v5_6)]) := by
    intro m6
    induction m6 with
    | zero => intro v1_6 v5_6 h; cases (show none = some r from h)
    | succ m6 ih6 =>
      intro v1_6 v5_6 h
      replace h : laws_heldInt64S_b6 (laws_heldInt64S_l6 a0 m6) a0 v1_6 v5_6 = some r := h
      refine lpC_step (fun Q5 n5 q5 x5 => ?_)
      refine w_seq (fun Q6 n6 q6 x6 => ?_)
      refine w_sreg (w_abs [(0, .slice (a0.map e_i64)), (1, .int .i64 v1_6), (5, .int .i64 v5_6), (9, .bool (decide (v5_6 < (a0.length : Int))))] (fun P hP => ?_) ?_)
      · simp only [W0.down, Nat.reduceEqDiff, ↓reduceIte, reduceCtorEq, Nat.reduceAdd, Nat.reduceSub, Nat.reduceMul, Nat.reduceLeDiff, Nat.reduceBEq, Nat.reduceLT, if_true, if_false, beq_self_eq_true, BEq.rfl, ne_eq, tt2, tt68, e_i64]
        (try simp only [WN.down, Nat.reduceAdd, if_true, if_false, ↓reduceIte, tt2, tt68, e_i64] at hP)
        (try simp only [WN.down, Nat.reduceAdd, if_true, if_false, ↓reduceIte, tt2, tt68, e_i64])
        exact hP
      rcases condE h with ⟨b8, h⟩ | ⟨b8, h⟩
      · refine w_ct (congrArg AV.bool b8) ?_
        simp only [b8, Bool.not_true, Bool.not_false]
        refine w_skip (n6 _ (.inl ?_))
        refine w_seq (fun Q9 n9 q9 x9 => ?_)
        refine w_blk (fun Q10 n10 q10 b10 x10 => ?_)
        refine w_seq (fun Q11 n11 q11 x11 => ?_)
        obtain ⟨x1, e13, h⟩ := bindE h
        refine w_sreg (w_abs [(0, .slice (a0.map e_i64)), (1, .int .i64 v1_6), (5, .int .i64 v5_6), (17, .bool (x1 != v1_6))] (fun P hP => ?_) ?_)
        · simp only [W0.down, Nat.reduceEqDiff, ↓reduceIte, reduceCtorEq, Nat.reduceAdd, Nat.reduceSub, Nat.reduceMul, Nat.reduceLeDiff, Nat.reduceBEq, Nat.reduceLT, if_true, if_false, beq_self_eq_true, BEq.rfl, ne_eq, tt2, tt68, e_i64, e13]
          (try simp only [WN.down, Nat.reduceAdd, if_true, if_false, ↓reduceIte, tt2, tt68, e_i64, e13] at hP)
          (try simp only [WN.down, Nat.reduceAdd, if_true, if_false, ↓reduceIte, tt2, tt68, e_i64, e13])
          exact hP
        rcases condE h with ⟨b14, h⟩ | ⟨b14, h⟩
        · refine w_ct (congrArg AV.bool b14) ?_
          simp only [b14, Bool.not_true, Bool.not_false]
          refine w_sreg (w_abs [(4, .int .i64 (-1))] (fun P hP => ?_) ?_)
          · simp only [W0.down, Nat.reduceEqDiff, ↓reduceIte, reduceCtorEq, Nat.reduceAdd, Nat.reduceSub, Nat.reduceMul, Nat.reduceLeDiff, Nat.reduceBEq, Nat.reduceLT, if_true, if_false, beq_self_eq_true, BEq.rfl, ne_eq, e_i64]
            (try simp only [WN.down, Nat.reduceAdd, if_true, if_false, ↓reduceIte, e_i64] at hP)
            (try simp only [WN.down, Nat.reduceAdd, if_true, if_false, ↓reduceIte, e_i64])
            exact hP
          exact w_ret (q11 _ (q10 _ (q9 _ (q5 _ (q4 _ (q2 _ (r0 _ (.inl (w_fin [.int .i64 (-1)] rfl (by cases someE h; rfl) (by decide) outs_nil)))))))))
        · refine w_cf (congrArg AV.bool b14) ?_
          simp only [b14, Bool.not_true, Bool.not_false]
          refine w_skip (n11 _ (.inl ?_))
          refine w_reg (w_abs [(0, .slice (a0.map e_i64)), (1, .int .i64 (IntKind.i64.wrap (v1_6 + 1))), (5, .int .i64 v5_6)] (fun P hP => ?_) ?_)
          · simp only [W0.down, Nat.reduceEqDiff, ↓reduceIte, reduceCtorEq, Nat.reduceAdd, Nat.reduceSub, Nat.reduceMul, Nat.reduceLeDiff, Nat.reduceBEq, Nat.reduceLT, if_true, if_false, beq_self_eq_true, BEq.rfl, ne_eq, e_i64]
            (try simp only [WN.down, Nat.reduceAdd, if_true, if_false, ↓reduceIte, e_i64] at hP)
            (try simp only [WN.down, Nat.reduceAdd, if_true, if_false, ↓reduceIte, e_i64])
            exact hP
          refine n10 _ (n9 _ (.inl ?_))
          refine w_reg (w_abs [(0, .slice (a0.map e_i64)), (1, .int .i64 (IntKind.i64.wrap (v1_6 + 1))), (5, .int .i64 (IntKind.i64.wrap (v5_6 + 1)))] (fun P hP => ?_) ?_)
          · simp only [W0.down, Nat.reduceEqDiff, ↓reduceIte, reduceCtorEq, Nat.reduceAdd, Nat.reduceSub, Nat.reduceMul, Nat.reduceLeDiff, Nat.reduceBEq, Nat.reduceLT, if_true, if_false, beq_self_eq_true, BEq.rfl, ne_eq, e_i64]
            (try simp only [WN.down, Nat.reduceAdd, if_true, if_false, ↓reduceIte, e_i64] at hP)
            (try simp only [WN.down, Nat.reduceAdd, if_true, if_false, ↓reduceIte, e_i64])
            exact hP
          exact n5 _ (.inr ⟨_, weak_eq rfl, ih6 (IntKind.i64.wrap (v1_6 + 1)) (IntKind.i64.wrap (v5_6 + 1)) h⟩)
      · refine w_cf (congrArg AV.bool b8) ?_
        simp only [b8, Bool.not_true, Bool.not_false]
        refine w_ex (x6 0 _ (x5 0 _ (b4 _ (n2 _ (.inl ?_)))))
        refine w_sreg (w_abs [(4, .int .i64 v1_6)] (fun P hP => ?_) ?_)
        · simp only [W0.down, Nat.reduceEqDiff, ↓reduceIte, reduceCtorEq, Nat.reduceAdd, Nat.reduceSub, Nat.reduceMul, Nat.reduceLeDiff, Nat.reduceBEq, Nat.reduceLT, if_true, if_false, beq_self_eq_true, BEq.rfl, ne_eq, e_i64]
          (try simp only [WN.down, Nat.reduceAdd, if_true, if_false, ↓reduceIte, e_i64] at hP)
          (try simp only [WN.down, Nat.reduceAdd, if_true, if_false, ↓reduceIte, e_i64])
          exact hP
        exact w_ret (r0 _ (.inl (w_fin [.int .i64 v1_6] rfl (by cases someE h; rfl) (by decide) outs_nil)))
  obtain ⟨n, h⟩ := limE h
  exact w_loop (.inr ⟨_, weak_eq rfl, L6 n a1 0 h⟩)

theorem ok_laws_heldEquationS  (a0 : List impl_Equation) (a1 : Int) (r : Int) (h : laws_heldEquationS  a0 a1 = some r) : OkAt Cc 45 [.slice (a0.map e_impl_Equation), .int .i64 a1] (.int .i64 r) [] := by
  refine OkAt.of_wpQ (fx := [0]) Cc_ok Try.func45 rfl rfl s45 (Nat.le_of_ble_eq_true rfl) (fun Q0 r0 n0 => ?_)
  replace r0 : ∀ s, onW (Fw.Ends Cc [0] [.tmp 4] (.int .i64 r) []) s → Q0 .ret s := r0
  replace n0 : ∀ s, onW (Fw.Ends Cc [0] [.tmp 4] (.int .i64 r) []) s → Q0 .normal s := n0
  show wpC Cc c45 Q0 (stA [(0, .slice (a0.map e_impl_Equation)), (1, .int .i64 a1)])
  refine w_sreg (w_abs [(0, .slice (a0.map e_impl_Equation)), (1, .int .i64 a1)] (fun P hP => ?_) ?_)
  · simp only [W0.down, Nat.reduceEqDiff, ↓reduceIte, reduceCtorEq, Nat.reduceAdd, Nat.reduceSub, Nat.reduceMul, Nat.reduceLeDiff, Nat.reduceBEq, Nat.reduceLT, if_true, if_false, beq_self_eq_true, BEq.rfl, ne_eq, e_i64, e_impl_Equation]
    (try simp only [WN.down, Nat.reduceAdd, if_true, if_false, ↓reduceIte, e_i64, e_impl_Equation] at hP)
    (try simp only [WN.down, Nat.reduceAdd, if_true, if_false, ↓reduceIte, e_i64, e_impl_Equation])
    exact hP
  refine w_seq (fun Q2 n2 q2 x2 => ?_)
  refine w_sreg (w_abs [(0, .slice (a0.map e_impl_Equation)), (1, .int .i64 a1), (5, .int .i64 0)] (fun P hP => ?_) ?_)
  · simp only [W0.down, Nat.reduceEqDiff, ↓reduceIte, reduceCtorEq, Nat.reduceAdd, Nat.reduceSub, Nat.reduceMul, Nat.reduceLeDiff, Nat.reduceBEq, Nat.reduceLT, if_true, if_false, beq_self_eq_true, BEq.rfl, ne_eq, e_i64, e_impl_Equation]
    (try simp only [WN.down, Nat.reduceAdd, if_true, if_false, ↓reduceIte, e_i64, e_impl_Equation] at hP)
    (try simp only [WN.down, Nat.reduceAdd, if_true, if_false, ↓reduceIte, e_i64, e_impl_Equation])
    exact hP
  refine w_blk (fun Q4 n4 q4 b4 x4 => ?_)
  have L6 : ∀ (n : Nat) (v1_6 : Int) (v5_6 : Int), laws_heldEquationS_l6 a0 n v1_6 v5_6 = some r → lpC Cc c45_7 Q4 (stA [(0, .slice (a0.map e_impl_Equation)), (1, .int .i64 v1_6), (5, .int .i64 v5_6)]) := by
    intro m6
    induction m6 with
    | zero => intro v1_6 v5_6 h; cases (show none = some r from h)
    | succ m6 ih6 =>
      intro v1_6 v5_6 h
      replace h : laws_heldEquationS_b6 (laws_heldEquationS_l6 a0 m6) a0 v1_6 v5_6 = some r := h
      refine lpC_step (fun Q5 n5 q5 x5 => ?_)
      refine w_seq (fun Q6 n6 q6 x6 => ?_)
      refine w_sreg (w_abs [(0, .slice (a0.map e_impl_Equation)), (1, .int .i64 v1_6), (5, .int .i64 v5_6), (9, .bool (decide (v5_6 < (a0.length : Int))))] (fun P hP => ?_) ?_)
      · simp only [W0.down, Nat.reduceEqDiff, ↓reduceIte, reduceCtorEq, Nat.reduceAdd, Nat.reduceSub, Nat.reduceMul, Nat.reduceLeDiff, Nat.reduceBEq, Nat.reduceLT, if_true, if_false, beq_self_eq_true, BEq.rfl, ne_eq, tt2, tt4, tt32, tt68, tt120, e_i64, e_impl_Equation]
        (try simp only [WN.down, Nat.reduceAdd, if_true, if_false, ↓reduceIte, tt2, tt4, tt32, tt68, tt120, e_i64, e_impl_Equation] at hP)
        (try simp only [WN.down, Nat.reduceAdd, if_true, if_false, ↓reduceIte, tt2, tt4, tt32, tt68, tt120, e_i64, e_impl_Equation])
        exact hP
      rcases condE h with ⟨b8, h⟩ | ⟨b8, h⟩
      · refine w_ct (congrArg AV.bool b8) ?_
        simp only [b8, Bool.not_true, Bool.not_false]
        refine w_skip (n6 _ (.inl ?_))
        refine w_seq (fun Q9 n9 q9 x9 => ?_)
        refine w_blk (fun Q10 n10 q10 b10 x10 => ?_)
        refine w_seq (fun Q11 n11 q11 x11 => ?_)
        obtain ⟨x1, e13, h⟩ := bindE h
        refine w_sreg (w_abs [(0, .slice (a0.map e_impl_Equation)), (1, .int .i64 v1_6), (5, .int .i64 v5_6), (20, .bool (!(x1.Greatest == ((Int.tmod v1_6 3) == 0))))] (fun P hP => ?_) ?_)
        · simp only [W0.down, Nat.reduceEqDiff, ↓reduceIte, reduceCtorEq, Nat.reduceAdd, Nat.reduceSub, Nat.reduceMul, Nat.reduceLeDiff, Nat.reduceBEq, Nat.reduceLT, if_true, if_false, beq_self_eq_true, BEq.rfl, ne_eq, tt2, tt4, tt32, tt68, tt120, e_i64, e_impl_Equation, e13, @bnI_rem' .i64 3 (by decide)]
          (try simp only [WN.down, Nat.reduceAdd, if_true, if_false, ↓reduceIte, tt2, tt4, tt32, tt68, tt120, e_i64, e_impl_Equation, e13, @bnI_rem' .i64 3 (by decide)] at hP)
          (try simp only [WN.down, Nat.reduceAdd, if_true, if_false, ↓reduceIte, tt2, tt4, tt32, tt68, tt120, e_i64, e_impl_Equation, e13, @bnI_rem' .i64 3 (by decide)])
          exact hP
        rcases condE h with ⟨b14, h⟩ | ⟨b14, h⟩
        · refine w_ct (congrArg AV.bool b14) ?_
          simp only [b14, Bool.not_true, Bool.not_false]
          refine w_sreg (w_abs [(4, .int .i64 (-1))] (fun P hP => ?_) ?_)
          · simp only [W0.down, Nat.reduceEqDiff, ↓reduceIte, reduceCtorEq, Nat.reduceAdd, Nat.reduceSub, Nat.reduceMul, Nat.reduceLeDiff, Nat.reduceBEq, Nat.reduceLT, if_true, if_false, beq_self_eq_true, BEq.rfl, ne_eq, e_i64, e_impl_Equation]
            (try simp only [WN.down, Nat.reduceAdd, if_true, if_false, ↓reduceIte, e_i64, e_impl_Equation] at hP)
            (try simp only [WN.down, Nat.reduceAdd, if_true, if_false, ↓reduceIte, e_i64, e_impl_Equation])
            exact hP
          exact w_ret (q11 _ (q10 _ (q9 _ (q5 _ (q4 _ (q2 _ (r0 _ (.inl (w_fin [.int .i64 (-1)] rfl (by cases someE h; rfl) (by decide) outs_nil)))))))))
        · refine w_cf (congrArg AV.bool b14) ?_
          simp only [b14, Bool.not_true, Bool.not_false]
          refine w_skip (n11 _ (.inl ?_))
          refine w_sreg (w_abs [(0, .slice (a0.map e_impl_Equation)), (1, .int .i64 (IntKind.i64.wrap (v1_6 + 1))), (5, .int .i64 v5_6)] (fun P hP => ?_) ?_)
          · simp only [W0.down, Nat.reduceEqDiff, ↓reduceIte, reduceCtorEq, Nat.reduceAdd, Nat.reduceSub, Nat.reduceMul, Nat.reduceLeDiff, Nat.reduceBEq, Nat.reduceLT, if_true, if_false, beq_self_eq_true, BEq.rfl, ne_eq, e_i64, e_impl_Equation]
            (try simp only [WN.down, Nat.reduceAdd, if_true, if_false, ↓reduceIte, e_i64, e_impl_Equation] at hP)
            (try simp only [WN.down, Nat.reduceAdd, if_true, if_false, ↓reduceIte, e_i64, e_impl_Equation])
            exact hP
          refine w_seq (fun Q17 n17 q17 x17 => ?_)
          refine w_sreg (w_abs [(0, .slice (a0.map e_impl_Equation)), (1, .int .i64 (IntKind.i64.wrap (v1_6 + 1))), (5, .int .i64 v5_6), (31, .bool (!(x1.All == ((Int.tmod (IntKind.i64.wrap (v1_6 + 1)) 3) == 0))))] (fun P hP => ?_) ?_)
          · simp only [W0.down, Nat.reduceEqDiff, ↓reduceIte, reduceCtorEq, Nat.reduceAdd, Nat.reduceSub, Nat.reduceMul, Nat.reduceLeDiff, Nat.reduceBEq, Nat.reduceLT, if_true, if_false, beq_self_eq_true, BEq.rfl, ne_eq, tt2, tt4, tt32, tt68, tt120, e_i64, e_impl_Equation, e13, @bnI_rem' .i64 3 (by decide)]
            (try simp only [WN.down, Nat.reduceAdd, if_true, if_false, ↓reduceIte, tt2, tt4, tt32, tt68, tt120, e_i64, e_impl_Equation, e13, @bnI_rem' .i64 3 (by decide)] at hP)
            (try simp only [WN.down, Nat.reduceAdd, if_true, if_false, ↓reduceIte, tt2, tt4, tt32, tt68, tt120, e_i64, e_impl_Equation, e13, @bnI_rem' .i64 3 (by decide)])
            exact hP
          rcases condE h with ⟨b19, h⟩ | ⟨b19, h⟩
          · refine w_ct (congrArg AV.bool b19) ?_
            simp only [b19, Bool.not_true, Bool.not_false]
            refine w_sreg (w_abs [(4, .int .i64 (-1))] (fun P hP => ?_) ?_)
            · simp only [W0.down, Nat.reduceEqDiff, ↓reduceIte, reduceCtorEq, Nat.reduceAdd, Nat.reduceSub, Nat.reduceMul, Nat.reduceLeDiff, Nat.reduceBEq, Nat.reduceLT, if_true, if_false, beq_self_eq_true, BEq.rfl, ne_eq, e_i64, e_impl_Equation]
              (try simp only [WN.down, Nat.reduceAdd, if_true, if_false, ↓reduceIte, e_i64, e_impl_Equation] at hP)
              (try simp only [WN.down, Nat.reduceAdd, if_true, if_false, ↓reduceIte, e_i64, e_impl_Equation])
              exact hP
            exact w_ret (q17 _ (q10 _ (q9 _ (q5 _ (q4 _ (q2 _ (r0 _ (.inl (w_fin [.int .i64 (-1)] rfl (by cases someE h; rfl) (by decide) outs_nil)))))))))
          · refine w_cf (congrArg AV.bool b19) ?_
            simp only [b19, Bool.not_true, Bool.not_false]
            refine w_skip (n17 _ (.inl ?_))
            refine w_sreg (w_abs [(0, .slice (a0.map e_impl_Equation)), (1, .int .i64 (IntKind.i64.wrap ((IntKind.i64.wrap (v1_6 + 1)) + 1))), (5, .int .i64 v5_6)] (fun P hP => ?_) ?_)
            · simp only [W0.down, Nat.reduceEqDiff, ↓reduceIte, reduceCtorEq, Nat.reduceAdd, Nat.reduceSub, Nat.reduceMul, Nat.reduceLeDiff, Nat.reduceBEq, Nat.reduceLT, if_true, if_false, beq_self_eq_true, BEq.rfl, ne_eq, e_i64, e_impl_Equation]
              (try simp only [WN.down, Nat.reduceAdd, if_true, if_false, ↓reduceIte, e_i64, e_impl_Equation] at hP)
              (try simp only [WN.down, Nat.reduceAdd, if_true, if_false, ↓reduceIte, e_i64, e_impl_Equation])
              exact hP
            obtain ⟨x2, e23, h⟩ := bindE h
            refine w_sreg (w_abs [(0, .slice (a0.map e_impl_Equation)), (1, .int .i64 x2), (5, .int .i64 v5_6)] (fun P hP => ?_) ?_)
            · simp only [W0.down, Nat.reduceEqDiff, ↓reduceIte, reduceCtorEq, Nat.reduceAdd, Nat.reduceSub, Nat.reduceMul, Nat.reduceLeDiff, Nat.reduceBEq, Nat.reduceLT, if_true, if_false, beq_self_eq_true, BEq.rfl, ne_eq, tt2, tt4, tt32, tt68, tt120, e_i64, e_impl_Equation, e13]
              refine w_call0 (ok_laws_heldInt64S x1.Terms (IntKind.i64.wrap ((IntKind.i64.wrap (v1_6 + 1)) + 1)) _ e23) rfl rfl rfl rfl (.inl (by rfl)) ?_
              simp only [W0.down, Nat.reduceEqDiff, ↓reduceIte, reduceCtorEq, Nat.reduceAdd, Nat.reduceSub, Nat.reduceMul, Nat.reduceLeDiff, Nat.reduceBEq, Nat.reduceLT, if_true, if_false, beq_self_eq_true, BEq.rfl, ne_eq, tt2, tt4, tt32, tt68, tt120, e_i64, e_impl_Equation, e13]
              (try simp only [WN.down, Nat.reduceAdd, if_true, if_false, ↓reduceIte, tt2, tt4, tt32, tt68, tt120, e_i64, e_impl_Equation, e13] at hP)
              (try simp only [WN.down, Nat.reduceAdd, if_true, if_false, ↓reduceIte, tt2, tt4, tt32, tt68, tt120, e_i64, e_impl_Equation, e13])
              exact hP
            refine w_sreg (w_abs [(0, .slice (a0.map e_impl_Equation)), (1, .int .i64 x2), (5, .int .i64 v5_6), (42, .bool (decide (x2 < 0)))] (fun P hP => ?_) ?_)
            · simp only [W0.down, Nat.reduceEqDiff, ↓reduceIte, reduceCtorEq, Nat.reduceAdd, Nat.reduceSub, Nat.reduceMul, Nat.reduceLeDiff, Nat.reduceBEq, Nat.reduceLT, if_true, if_false, beq_self_eq_true, BEq.rfl, ne_eq, e_i64, e_impl_Equation]
              (try simp only [WN.down, Nat.reduceAdd, if_true, if_false, ↓reduceIte, e_i64, e_impl_Equation] at hP)
              (try simp only [WN.down, Nat.reduceAdd, if_true, if_false, ↓reduceIte, e_i64, e_impl_Equation])
              exact hP
            rcases condE h with ⟨b25, h⟩ | ⟨b25, h⟩
            · refine w_ct (congrArg AV.bool b25) ?_
              simp only [b25, Bool.not_true, Bool.not_false]
              refine w_sreg (w_abs [(4, .int .i64 (-1))] (fun P hP => ?_) ?_)
              · simp only [W0.down, Nat.reduceEqDiff, ↓reduceIte, reduceCtorEq, Nat.reduceAdd, Nat.reduceSub, Nat.reduceMul, Nat.reduceLeDiff, Nat.reduceBEq, Nat.reduceLT, if_true, if_false, beq_self_eq_true, BEq.rfl, ne_eq, e_i64, e_impl_Equation]
                (try simp only [WN.down, Nat.reduceAdd, if_true, if_false, ↓reduceIte, e_i64, e_impl_Equation] at hP)
                (try simp only [WN.down, Nat.reduceAdd, if_true, if_false, ↓reduceIte, e_i64, e_impl_Equation])
                exact hP
              exact w_ret (q10 _ (q9 _ (q5 _ (q4 _ (q2 _ (r0 _ (.inl (w_fin [.int .i64 (-1)] rfl (by cases someE h; rfl) (by decide) outs_nil))))))))
            · refine w_cf (congrArg AV.bool b25) ?_
              simp only [b25, Bool.not_true, Bool.not_false]
              refine w_skip (n10 _ (n9 _ (.inl ?_)))
              refine w_reg (w_abs [(0, .slice (a0.map e_impl_Equation)), (1, .int .i64 x2), (5, .int .i64 (IntKind.i64.wrap (v5_6 + 1)))] (fun P hP => ?_) ?_)
              · simp only [W0.down, Nat.reduceEqDiff, ↓reduceIte, reduceCtorEq, Nat.reduceAdd, Nat.reduceSub, Nat.reduceMul, Nat.reduceLeDiff, Nat.reduceBEq, Nat.reduceLT, if_true, if_false, beq_self_eq_true, BEq.rfl, ne_eq, e_i64, e_impl_Equation]
                (try simp only [WN.down, Nat.reduceAdd, if_true, if_false, ↓reduceIte, e_i64, e_impl_Equation] at hP)
                (try simp only [WN.down, Nat.reduceAdd, if_true, if_false, ↓reduceIte, e_i64, e_impl_Equation])
                exact hP
              exact n5 _ (.inr ⟨_, weak_eq rfl, ih6 x2 (IntKind.i64.wrap (v5_6 + 1)) h⟩)
      · refine w_cf (congrArg AV.bool b8) ?_
        simp only [b8, Bool.not_true, Bool.not_false]
        refine w_ex (x6 0 _ (x5 0 _ (b4 _ (n2 _ (.inl ?_)))))
        refine w_sreg (w_abs [(4, .int .i64 v1_6)] (fun P hP => ?_) ?_)
        · simp only [W0.down, Nat.reduceEqDiff, ↓reduceIte, reduceCtorEq, Nat.reduceAdd, Nat.reduceSub, Nat.reduceMul, Nat.reduceLeDiff, Nat.reduceBEq, Nat.reduceLT, if_true, if_false, beq_self_eq_true, BEq.rfl, ne_eq, e_i64, e_impl_Equation]
          (try simp only [WN.down, Nat.reduceAdd, if_true, if_false, ↓reduceIte, e_i64, e_impl_Equation] at hP)
          (try simp only [WN.down, Nat.reduceAdd, if_true, if_false, ↓reduceIte, e_i64, e_impl_Equation])
          exact hP
        exact w_ret (r0 _ (.inl (w_fin [.int .i64 v1_6] rfl (by cases someE h; rfl) (by decide) outs_nil)))
  obtain ⟨n, h⟩ := limE h
  exact w_loop (.inr ⟨_, weak_eq rfl, L6 n a1 0 h⟩)

theorem ok_laws_FnExactDecodeEquations  (a0 : List UInt8) (r : Bool) (h : laws_FnExactDecodeEquations  a0 = some r) : OkAt Cc 8 [.str a0] (.bool r) [] := by
  refine OkAt.of_wpQ (fx := [0]) Cc_ok Try.func8 rfl rfl s8 (Nat.le_of_ble_eq_true rfl) (fun Q0 r0 n0 => ?_)
  replace r0 : ∀ s, onW (Fw.Ends Cc [0] [.tmp 2] (.bool r) []) s → Q0 .ret s := r0
  replace n0 : ∀ s, onW (Fw.Ends Cc [0] [.tmp 2] (.bool r) []) s → Q0 .normal s := n0
  show wpC Cc c8 Q0 (stA [(0, .str a0)])
  refine w_sreg (w_abs [(0, .str a0)] (fun P hP => ?_) ?_)
  · simp only [W0.down, Nat.reduceEqDiff, ↓reduceIte, reduceCtorEq, Nat.reduceAdd, Nat.reduceSub, Nat.reduceMul, Nat.reduceLeDiff, Nat.reduceBEq, Nat.reduceLT, if_true, if_false, beq_self_eq_true, BEq.rfl, ne_eq]
    (try simp only [WN.down, Nat.reduceAdd, if_true, if_false, ↓reduceIte] at hP)
    (try simp only [WN.down, Nat.reduceAdd, if_true, if_false, ↓reduceIte])
    exact hP
  refine w_seq (fun Q2 n2 q2 x2 => ?_)
  refine w_sreg (w_abs [(0, .str a0), (13, .bool (decide (1048576 < (a0.length : Int))))] (fun P hP => ?_) ?_)
  · simp only [W0.down, Nat.reduceEqDiff, ↓reduceIte, reduceCtorEq, Nat.reduceAdd, Nat.reduceSub, Nat.reduceMul, Nat.reduceLeDiff, Nat.reduceBEq, Nat.reduceLT, if_true, if_false, beq_self_eq_true, BEq.rfl, ne_eq, tt9]
    (try simp only [WN.down, Nat.reduceAdd, if_true, if_false, ↓reduceIte, tt9] at hP)
    (try simp only [WN.down, Nat.reduceAdd, if_true, if_false, ↓reduceIte, tt9])
    exact hP
  rcases condE h with ⟨b4, h⟩ | ⟨b4, h⟩
  · refine w_ct (congrArg AV.bool b4) ?_
    simp only [b4, Bool.not_true, Bool.not_false]
    refine w_sreg (w_abs [(2, .bool true)] (fun P hP => ?_) ?_)
    · simp only [W0.down, Nat.reduceEqDiff, ↓reduceIte, reduceCtorEq, Nat.reduceAdd, Nat.reduceSub, Nat.reduceMul, Nat.reduceLeDiff, Nat.reduceBEq, Nat.reduceLT, if_true, if_false, beq_self_eq_true, BEq.rfl, ne_eq]
      (try simp only [WN.down, Nat.reduceAdd, if_true, if_false, ↓reduceIte] at hP)
      (try simp only [WN.down, Nat.reduceAdd, if_true, if_false, ↓reduceIte])
      exact hP
    exact w_ret (q2 _ (r0 _ (.inl (w_fin [.bool true] rfl (by cases someE h; rfl) (by decide) outs_nil))))
  · refine w_cf (congrArg AV.bool b4) ?_
    simp only [b4, Bool.not_true, Bool.not_false]
    refine w_skip (n2 _ (.inl ?_))
    obtain ⟨x1, e7, h⟩ := bindE h
    refine w_sreg (w_abs [(0, .str a0), (3, .uslice 3 (x1.1.map e_impl_Equation)), (4, .int .i64 x1.2)] (fun P hP => ?_) ?_)
    · simp only [W0.down, Nat.reduceEqDiff, ↓reduceIte, reduceCtorEq, Nat.reduceAdd, Nat.reduceSub, Nat.reduceMul, Nat.reduceLeDiff, Nat.reduceBEq, Nat.reduceLT, if_true, if_false, beq_self_eq_true, BEq.rfl, ne_eq, e_i64, e_impl_Equation]
      refine w_call0 (ok_spec_DecodeEquations a0 _ e7) rfl rfl rfl rfl (.inl (by rfl)) ?_
      simp only [W0.down, Nat.reduceEqDiff, ↓reduceIte, reduceCtorEq, Nat.reduceAdd, Nat.reduceSub, Nat.reduceMul, Nat.reduceLeDiff, Nat.reduceBEq, Nat.reduceLT, if_true, if_false, beq_self_eq_true, BEq.rfl, ne_eq, e_i64, e_impl_Equation]
      (try simp only [WN.down, Nat.reduceAdd, if_true, if_false, ↓reduceIte, e_i64, e_impl_Equation] at hP)
      (try simp only [WN.down, Nat.reduceAdd, if_true, if_false, ↓reduceIte, e_i64, e_impl_Equation])
      exact hP
    obtain ⟨x2, e9, h⟩ := bindE h
    refine w_sreg (w_abs [(0, .str a0), (3, .uslice 3 (x1.1.map e_impl_Equation)), (4, .int .i64 x1.2), (5, .uslice 3 (x2.1.map u_impl_Equation)), (6, .int .i64 x2.2)] (fun P hP => ?_) ?_)
    · simp only [W0.down, Nat.reduceEqDiff, ↓reduceIte, reduceCtorEq, Nat.reduceAdd, Nat.reduceSub, Nat.reduceMul, Nat.reduceLeDiff, Nat.reduceBEq, Nat.reduceLT, if_true, if_false, beq_self_eq_true, BEq.rfl, ne_eq, e_i64, e_impl_Equation, u_impl_Equation]
      refine w_call0 (ok_impl_DecodeEquations a0 _ e9) rfl rfl rfl rfl (.inl (by rfl)) ?_
      simp only [W0.down, Nat.reduceEqDiff, ↓reduceIte, reduceCtorEq, Nat.reduceAdd, Nat.reduceSub, Nat.reduceMul, Nat.reduceLeDiff, Nat.reduceBEq, Nat.reduceLT, if_true, if_false, beq_self_eq_true, BEq.rfl, ne_eq, e_i64, e_impl_Equation, u_impl_Equation]
      (try simp only [WN.down, Nat.reduceAdd, if_true, if_false, ↓reduceIte, e_i64, e_impl_Equation, u_impl_Equation] at hP)
      (try simp only [WN.down, Nat.reduceAdd, if_true, if_false, ↓reduceIte, e_i64, e_impl_Equation, u_impl_Equation])
      exact hP
    refine w_seq (fun Q10 n10 q10 x10 => ?_)
    obtain ⟨x3, e12, h⟩ := bindE h
    refine w_sreg (w_abs [(0, .str a0), (3, .uslice 3 (x1.1.map e_impl_Equation)), (4, .int .i64 x1.2), (5, .uslice 3 (x2.1.map u_impl_Equation)), (32, .bool ((!x3) || (x2.2 != x1.2)))] (fun P hP => ?_) ?_)
    · rcases Bool.eq_false_or_eq_true ((!x3)) with s13 | s13
      · simp only [W0.down, Nat.reduceEqDiff, ↓reduceIte, reduceCtorEq, Nat.reduceAdd, Nat.reduceSub, Nat.reduceMul, Nat.reduceLeDiff, Nat.reduceBEq, Nat.reduceLT, if_true, if_false, beq_self_eq_true, BEq.rfl, ne_eq, e_i64, e_impl_Equation, u_impl_Equation, s13]
        refine w_call0 (ok_laws_eqEquationS x2.1 x1.1 _ e12) rfl rfl (by simp only [W0.down, Nat.reduceEqDiff, ↓reduceIte, reduceCtorEq, Nat.reduceAdd, Nat.reduceSub, Nat.reduceMul, Nat.reduceLeDiff, Nat.reduceBEq, Nat.reduceLT, if_true, if_false, beq_self_eq_true, BEq.rfl, ne_eq, e_i64, e_impl_Equation, u_impl_Equation, s13, view_s, view_h, viewH_s, share_s, @shares_map _ u_impl_Equation e_impl_Equation (fun _ => sh_u_impl_Equation _), @shares_map _ e_impl_Equation e_impl_Equation (fun _ => sh_e_impl_Equation _)]) rfl (.inr (by rfl)) ?_
        simp only [W0.down, Nat.reduceEqDiff, ↓reduceIte, reduceCtorEq, Nat.reduceAdd, Nat.reduceSub, Nat.reduceMul, Nat.reduceLeDiff, Nat.reduceBEq, Nat.reduceLT, if_true, if_false, beq_self_eq_true, BEq.rfl, ne_eq, e_i64, e_impl_Equation, u_impl_Equation, s13]
        (try simp only [WN.down, Nat.reduceAdd, if_true, if_false, ↓reduceIte, e_i64, e_impl_Equation, u_impl_Equation, s13] at hP)
        (try simp only [WN.down, Nat.reduceAdd, if_true, if_false, ↓reduceIte, e_i64, e_impl_Equation, u_impl_Equation, s13])
        exact hP
      · simp only [W0.down, Nat.reduceEqDiff, ↓reduceIte, reduceCtorEq, Nat.reduceAdd, Nat.reduceSub, Nat.reduceMul, Nat.reduceLeDiff, Nat.reduceBEq, Nat.reduceLT, if_true, if_false, beq_self_eq_true, BEq.rfl, ne_eq, e_i64, e_impl_Equation, u_impl_Equation, s13]
        refine w_call0 (ok_laws_eqEquationS x2.1 x1.1 _ e12) rfl rfl (by simp only [W0.down, Nat.reduceEqDiff, ↓reduceIte, reduceCtorEq, Nat.reduceAdd, Nat.reduceSub, Nat.reduceMul, Nat.reduceLeDiff, Nat.reduceBEq, Nat.reduceLT, if_true, if_false, beq_self_eq_true, BEq.rfl, ne_eq, e_i64, e_impl_Equation, u_impl_Equation, s13, view_s, view_h, viewH_s, share_s, @shares_map _ u_impl_Equation e_impl_Equation (fun _ => sh_u_impl_Equation _), @shares_map _ e_impl_Equation e_impl_Equation (fun _ => sh_e_impl_Equation _)]) rfl (.inr (by rfl)) ?_
        simp only [W0.down, Nat.reduceEqDiff, ↓reduceIte, reduceCtorEq, Nat.reduceAdd, Nat.reduceSub, Nat.reduceMul, Nat.reduceLeDiff, Nat.reduceBEq, Nat.reduceLT, if_true, if_false, beq_self_eq_true, BEq.rfl, ne_eq, e_i64, e_impl_Equation, u_impl_Equation, s13]
        (try simp only [WN.down, Nat.reduceAdd, if_true, if_false, ↓reduceIte, e_i64, e_impl_Equation, u_impl_Equation, s13] at hP)
        (try simp only [WN.down, Nat.reduceAdd, if_true, if_false, ↓reduceIte, e_i64, e_impl_Equation, u_impl_Equation, s13])
        exact hP
    rcases condE h with ⟨b14, h⟩ | ⟨b14, h⟩
    · refine w_ct (congrArg AV.bool b14) ?_
      simp only [b14, Bool.not_true, Bool.not_false]
      refine w_sreg (w_abs [(2, .bool false)] (fun P hP => ?_) ?_)
      · simp only [W0.down, Nat.reduceEqDiff, ↓reduceIte, reduceCtorEq, Nat.reduceAdd, Nat.reduceSub, Nat.reduceMul, Nat.reduceLeDiff, Nat.reduceBEq, Nat.reduceLT, if_true, if_false, beq_self_eq_true, BEq.rfl, ne_eq, e_i64, e_impl_Equation, u_impl_Equation]
        (try simp only [WN.down, Nat.reduceAdd, if_true, if_false, ↓reduceIte, e_i64, e_impl_Equation, u_impl_Equation] at hP)
        (try simp only [WN.down, Nat.reduceAdd, if_true, if_false, ↓reduceIte, e_i64, e_impl_Equation, u_impl_Equation])
        exact hP
      exact w_ret (q10 _ (r0 _ (.inl (w_fin [.bool false] rfl (by cases someE h; rfl) (by decide) outs_nil))))
    · refine w_cf (congrArg AV.bool b14) ?_
      simp only [b14, Bool.not_true, Bool.not_false]
      refine w_skip (n10 _ (.inl ?_))
      refine w_sreg (w_abs [(0, .str a0), (3, .uslice 3 (x1.1.map e_impl_Equation)), (4, .int .i64 x1.2), (5, .uslice 3 (x2.1.map u_impl_Equation)), (7, .int .i64 1)] (fun P hP => ?_) ?_)
      · simp only [W0.down, Nat.reduceEqDiff, ↓reduceIte, reduceCtorEq, Nat.reduceAdd, Nat.reduceSub, Nat.reduceMul, Nat.reduceLeDiff, Nat.reduceBEq, Nat.reduceLT, if_true, if_false, beq_self_eq_true, BEq.rfl, ne_eq, e_i64, e_impl_Equation, u_impl_Equation]
        (try simp only [WN.down, Nat.reduceAdd, if_true, if_false, ↓reduceIte, e_i64, e_impl_Equation, u_impl_Equation] at hP)
        (try simp only [WN.down, Nat.reduceAdd, if_true, if_false, ↓reduceIte, e_i64, e_impl_Equation, u_impl_Equation])
        exact hP
      obtain ⟨x4, e18, h⟩ := bindE h
      refine w_sreg (w_abs [(0, .str a0), (3, .uslice 3 (x1.1.map e_impl_Equation)), (4, .int .i64 x1.2), (5, .uslice 3 (x4.2.map u_impl_Equation)), (7, .int .i64 x4.1)] (fun P hP => ?_) ?_)
      · simp only [W0.down, Nat.reduceEqDiff, ↓reduceIte, reduceCtorEq, Nat.reduceAdd, Nat.reduceSub, Nat.reduceMul, Nat.reduceLeDiff, Nat.reduceBEq, Nat.reduceLT, if_true, if_false, beq_self_eq_true, BEq.rfl, ne_eq, e_i64, e_impl_Equation, u_impl_Equation]
        refine w_callp0 [⟨.h 5 [], true, _, _⟩, ⟨.int .i64 1, false, _, .hole⟩] (ok_laws_markEquationS x2.1 1 _ e18) rfl rfl rfl (by simp only [W0.down, Nat.reduceEqDiff, ↓reduceIte, reduceCtorEq, Nat.reduceAdd, Nat.reduceSub, Nat.reduceMul, Nat.reduceLeDiff, Nat.reduceBEq, Nat.reduceLT, if_true, if_false, beq_self_eq_true, BEq.rfl, ne_eq, e_i64, e_impl_Equation, u_impl_Equation, c_nrm, okp_s, own_r, view_s, view_h, viewH_s, share_s, or_true, true_or, @shares_map _ u_impl_Equation e_impl_Equation (fun _ => sh_u_impl_Equation _)]) rfl rfl (.inl rfl) ?_
        simp only [W0.down, Nat.reduceEqDiff, ↓reduceIte, reduceCtorEq, Nat.reduceAdd, Nat.reduceSub, Nat.reduceMul, Nat.reduceLeDiff, Nat.reduceBEq, Nat.reduceLT, if_true, if_false, beq_self_eq_true, BEq.rfl, ne_eq, e_i64, e_impl_Equation, u_impl_Equation, gv_s]
        (try simp only [WN.down, Nat.reduceAdd, if_true, if_false, ↓reduceIte, e_i64, e_impl_Equation, u_impl_Equation] at hP)
        (try simp only [WN.down, Nat.reduceAdd, if_true, if_false, ↓reduceIte, e_i64, e_impl_Equation, u_impl_Equation])
        exact hP
      refine w_sreg (w_abs [(0, .str a0), (3, .uslice 3 (x1.1.map e_impl_Equation)), (4, .int .i64 x1.2), (5, .uslice 3 (x4.2.map u_impl_Equation)), (7, .int .i64 x4.1), (8, .int .i64 1)] (fun P hP => ?_) ?_)
      · simp only [W0.down, Nat.reduceEqDiff, ↓reduceIte, reduceCtorEq, Nat.reduceAdd, Nat.reduceSub, Nat.reduceMul, Nat.reduceLeDiff, Nat.reduceBEq, Nat.reduceLT, if_true, if_false, beq_self_eq_true, BEq.rfl, ne_eq, e_i64, e_impl_Equation, u_impl_Equation]
        (try simp only [WN.down, Nat.reduceAdd, if_true, if_false, ↓reduceIte, e_i64, e_impl_Equation, u_impl_Equation] at hP)
        (try simp only [WN.down, Nat.reduceAdd, if_true, if_false, ↓reduceIte, e_i64, e_impl_Equation, u_impl_Equation])
        exact hP
      obtain ⟨x5, e21, h⟩ := bindE h
      refine w_sreg (w_abs [(0, .str a0), (3, .uslice 3 (x1.1.map e_impl_Equation)), (4, .int .i64 x1.2), (5, .uslice 3 (x4.2.map u_impl_Equation)), (7, .int .i64 x4.1), (8, .int .i64 x5)] (fun P hP => ?_) ?_)
      · simp only [W0.down, Nat.reduceEqDiff, ↓reduceIte, reduceCtorEq, Nat.reduceAdd, Nat.reduceSub, Nat.reduceMul, Nat.reduceLeDiff, Nat.reduceBEq, Nat.reduceLT, if_true, if_false, beq_self_eq_true, BEq.rfl, ne_eq, e_i64, e_impl_Equation, u_impl_Equation]
        refine w_call0 (ok_laws_heldEquationS x4.2 1 _ e21) rfl rfl (by simp only [W0.down, Nat.reduceEqDiff, ↓reduceIte, reduceCtorEq, Nat.reduceAdd, Nat.reduceSub, Nat.reduceMul, Nat.reduceLeDiff, Nat.reduceBEq, Nat.reduceLT, if_true, if_false, beq_self_eq_true, BEq.rfl, ne_eq, e_i64, e_impl_Equation, u_impl_Equation, view_s, view_h, viewH_s, share_s, @shares_map _ u_impl_Equation e_impl_Equation (fun _ => sh_u_impl_Equation _)]) rfl (.inr (by rfl)) ?_
        simp only [W0.down, Nat.reduceEqDiff, ↓reduceIte, reduceCtorEq, Nat.reduceAdd, Nat.reduceSub, Nat.reduceMul, Nat.reduceLeDiff, Nat.reduceBEq, Nat.reduceLT, if_true, if_false, beq_self_eq_true, BEq.rfl, ne_eq, e_i64, e_impl_Equation, u_impl_Equation]
        (try simp only [WN.down, Nat.reduceAdd, if_true, if_false, ↓reduceIte, e_i64, e_impl_Equation, u_impl_Equation] at hP)
        (try simp only [WN.down, Nat.reduceAdd, if_true, if_false, ↓reduceIte, e_i64, e_impl_Equation, u_impl_Equation])
        exact hP
      refine w_seq (fun Q22 n22 q22 x22 => ?_)
      refine w_sreg (w_abs [(0, .str a0), (3, .uslice 3 (x1.1.map e_impl_Equation)), (4, .int .i64 x1.2), (5, .uslice 3 (x4.2.map u_impl_Equation)), (7, .int .i64 x4.1), (8, .int .i64 x5), (40, .bool (decide (x5 < 0)))] (fun P hP => ?_) ?_)
      · simp only [W0.down, Nat.reduceEqDiff, ↓reduceIte, reduceCtorEq, Nat.reduceAdd, Nat.reduceSub, Nat.reduceMul, Nat.reduceLeDiff, Nat.reduceBEq, Nat.reduceLT, if_true, if_false, beq_self_eq_true, BEq.rfl, ne_eq, e_i64, e_impl_Equation, u_impl_Equation]
        (try simp only [WN.down, Nat.reduceAdd, if_true, if_false, ↓reduceIte, e_i64, e_impl_Equation, u_impl_Equation] at hP)
        (try simp only [WN.down, Nat.reduceAdd, if_true, if_false, ↓reduceIte, e_i64, e_impl_Equation, u_impl_Equation])
        exact hP
      rcases condE h with ⟨b24, h⟩ | ⟨b24, h⟩
      · refine w_ct (congrArg AV.bool b24) ?_
        simp only [b24, Bool.not_true, Bool.not_false]
        refine w_sreg (w_abs [(2, .bool false)] (fun P hP => ?_) ?_)
        · simp only [W0.down, Nat.reduceEqDiff, ↓reduceIte, reduceCtorEq, Nat.reduceAdd, Nat.reduceSub, Nat.reduceMul, Nat.reduceLeDiff, Nat.reduceBEq, Nat.reduceLT, if_true, if_false, beq_self_eq_true, BEq.rfl, ne_eq, e_i64, e_impl_Equation, u_impl_Equation]
          (try simp only [WN.down, Nat.reduceAdd, if_true, if_false, ↓reduceIte, e_i64, e_impl_Equation, u_impl_Equation] at hP)
          (try simp only [WN.down, Nat.reduceAdd, if_true, if_false, ↓reduceIte, e_i64, e_impl_Equation, u_impl_Equation])
          exact hP
        exact w_ret (q22 _ (r0 _ (.inl (w_fin [.bool false] rfl (by cases someE h; rfl) (by decide) outs_nil))))
      · refine w_cf (congrArg AV.bool b24) ?_
        simp only [b24, Bool.not_true, Bool.not_false]
        refine w_skip (n22 _ (.inl ?_))
        refine w_seq (fun Q26 n26 q26 x26 => ?_)
        refine w_sreg (w_abs [(0, .str a0), (3, .uslice 3 (x1.1.map e_impl_Equation)), (4, .int .i64 x1.2), (5, .uslice 3 (x4.2.map u_impl_Equation)), (7, .int .i64 x4.1), (43, .bool (x5 != x4.1))] (fun P hP => ?_) ?_)
        · simp only [W0.down, Nat.reduceEqDiff, ↓reduceIte, reduceCtorEq, Nat.reduceAdd, Nat.reduceSub, Nat.reduceMul, Nat.reduceLeDiff, Nat.reduceBEq, Nat.reduceLT, if_true, if_false, beq_self_eq_true, BEq.rfl, ne_eq, e_i64, e_impl_Equation, u_impl_Equation]
          (try simp only [WN.down, Nat.reduceAdd, if_true, if_false, ↓reduceIte, e_i64, e_impl_Equation, u_impl_Equation] at hP)
          (try simp only [WN.down, Nat.reduceAdd, if_true, if_false, ↓reduceIte, e_i64, e_impl_Equation, u_impl_Equation])
          exact hP
        rcases condE h with ⟨b28, h⟩ | ⟨b28, h⟩
        · refine w_ct (congrArg AV.bool b28) ?_
          simp only [b28, Bool.not_true, Bool.not_false]
          refine w_sreg (w_abs [(2, .bool false)] (fun P hP => ?_) ?_)
          · simp only [W0.down, Nat.reduceEqDiff, ↓reduceIte, reduceCtorEq, Nat.reduceAdd, Nat.reduceSub, Nat.reduceMul, Nat.reduceLeDiff, Nat.reduceBEq, Nat.reduceLT, if_true, if_false, beq_self_eq_true, BEq.rfl, ne_eq, e_i64, e_impl_Equation, u_impl_Equation]
            (try simp only [WN.down, Nat.reduceAdd, if_true, if_false, ↓reduceIte, e_i64, e_impl_Equation, u_impl_Equation] at hP)
            (try simp only [WN.down, Nat.reduceAdd, if_true, if_false, ↓reduceIte, e_i64, e_impl_Equation, u_impl_Equation])
            exact hP
          exact w_ret (q26 _ (r0 _ (.inl (w_fin [.bool false] rfl (by cases someE h; rfl) (by decide) outs_nil))))
        · refine w_cf (congrArg AV.bool b28) ?_
          simp only [b28, Bool.not_true, Bool.not_false]
          refine w_skip (n26 _ (.inl ?_))
          obtain ⟨x6, e31, h⟩ := bindE h
          refine w_sreg (w_abs [(3, .uslice 3 (x1.1.map e_impl_Equation)), (4, .int .i64 x1.2), (5, .uslice 3 (x4.2.map u_impl_Equation)), (7, .int .i64 x4.1), (9, .uslice 3 (x6.1.map u_impl_Equation)), (10, .int .i64 x6.2)] (fun P hP => ?_) ?_)
          · simp only [W0.down, Nat.reduceEqDiff, ↓reduceIte, reduceCtorEq, Nat.reduceAdd, Nat.reduceSub, Nat.reduceMul, Nat.reduceLeDiff, Nat.reduceBEq, Nat.reduceLT, if_true, if_false, beq_self_eq_true, BEq.rfl, ne_eq, e_i64, e_impl_Equation, u_impl_Equation]
            refine w_call0 (ok_impl_DecodeEquations a0 _ e31) rfl rfl rfl rfl (.inl (by rfl)) ?_
            simp only [W0.down, Nat.reduceEqDiff, ↓reduceIte, reduceCtorEq, Nat.reduceAdd, Nat.reduceSub, Nat.reduceMul, Nat.reduceLeDiff, Nat.reduceBEq, Nat.reduceLT, if_true, if_false, beq_self_eq_true, BEq.rfl, ne_eq, e_i64, e_impl_Equation, u_impl_Equation]
            (try simp only [WN.down, Nat.reduceAdd, if_true, if_false, ↓reduceIte, e_i64, e_impl_Equation, u_impl_Equation] at hP)
            (try simp only [WN.down, Nat.reduceAdd, if_true, if_false, ↓reduceIte, e_i64, e_impl_Equation, u_impl_Equation])
            exact hP
          refine w_seq (fun Q32 n32 q32 x32 => ?_)
          obtain ⟨x7, e34, h⟩ := bindE h
          refine w_sreg (w_abs [(5, .uslice 3 (x4.2.map u_impl_Equation)), (7, .int .i64 x4.1), (57, .bool ((!x7) || (x6.2 != x1.2)))] (fun P hP => ?_) ?_)
          · rcases Bool.eq_false_or_eq_true ((!x7)) with s35 | s35
            · simp only [W0.down, Nat.reduceEqDiff, ↓reduceIte, reduceCtorEq, Nat.reduceAdd, Nat.reduceSub, Nat.reduceMul, Nat.reduceLeDiff, Nat.reduceBEq, Nat.reduceLT, if_true, if_false, beq_self_eq_true, BEq.rfl, ne_eq, e_i64, e_impl_Equation, u_impl_Equation, s35]
              refine w_call0 (ok_laws_eqEquationS x6.1 x1.1 _ e34) rfl rfl (by simp only [W0.down, Nat.reduceEqDiff, ↓reduceIte, reduceCtorEq, Nat.reduceAdd, Nat.reduceSub, Nat.reduceMul, Nat.reduceLeDiff, Nat.reduceBEq, Nat.reduceLT, if_true, if_false, beq_self_eq_true, BEq.rfl, ne_eq, e_i64, e_impl_Equation, u_impl_Equation, s35, view_s, view_h, viewH_s, share_s, @shares_map _ u_impl_Equation e_impl_Equation (fun _ => sh_u_impl_Equation _), @shares_map _ e_impl_Equation e_impl_Equation (fun _ => sh_e_impl_Equation _)]) rfl (.inr (by rfl)) ?_
              simp only [W0.down, Nat.reduceEqDiff, ↓reduceIte, reduceCtorEq, Nat.reduceAdd, Nat.reduceSub, Nat.reduceMul, Nat.reduceLeDiff, Nat.reduceBEq, Nat.reduceLT, if_true, if_false, beq_self_eq_true, BEq.rfl, ne_eq, e_i64, e_impl_Equation, u_impl_Equation, s35]
              (try simp only [WN.down, Nat.reduceAdd, if_true, if_false, ↓reduceIte, e_i64, e_impl_Equation, u_impl_Equation, s35] at hP)
              (try simp only [WN.down, Nat.reduceAdd, if_true, if_false, ↓reduceIte, e_i64, e_impl_Equation, u_impl_Equation, s35])
              exact hP
            · simp only [W0.down, Nat.reduceEqDiff, ↓reduceIte, reduceCtorEq, Nat.reduceAdd, Nat.reduceSub, Nat.reduceMul, Nat.reduceLeDiff, Nat.reduceBEq, Nat.reduceLT, if_true, if_false, beq_self_eq_true, BEq.rfl, ne_eq, e_i64, e_impl_Equation, u_impl_Equation, s35]
              refine w_call0 (ok_laws_eqEquationS x6.1 x1.1 _ e34) rfl rfl (by simp only [W0.down, Nat.reduceEqDiff, ↓reduceIte, reduceCtorEq, Nat.reduceAdd, Nat.reduceSub, Nat.reduceMul, Nat.reduceLeDiff, Nat.reduceBEq, Nat.reduceLT, if_true, if_false, beq_self_eq_true, BEq.rfl, ne_eq, e_i64, e_impl_Equation, u_impl_Equation, s35, view_s, view_h, viewH_s, share_s, @shares_map _ u_impl_Equation e_impl_Equation (fun _ => sh_u_impl_Equation _), @shares_map _ e_impl_Equation e_impl_Equation (fun _ => sh_e_impl_Equation _)]) rfl (.inr (by rfl)) ?_
              simp only [W0.down, Nat.reduceEqDiff, ↓reduceIte, reduceCtorEq, Nat.reduceAdd, Nat.reduceSub, Nat.reduceMul, Nat.reduceLeDiff, Nat.reduceBEq, Nat.reduceLT, if_true, if_false, beq_self_eq_true, BEq.rfl, ne_eq, e_i64, e_impl_Equation, u_impl_Equation, s35]
              (try simp only [WN.down, Nat.reduceAdd, if_true, if_false, ↓reduceIte, e_i64, e_impl_Equation, u_impl_Equation, s35] at hP)
              (try simp only [WN.down, Nat.reduceAdd, if_true, if_false, ↓reduceIte, e_i64, e_impl_Equation, u_impl_Equation, s35])
              exact hP
          rcases condE h with ⟨b36, h⟩ | ⟨b36, h⟩
          · refine w_ct (congrArg AV.bool b36) ?_
            simp only [b36, Bool.not_true, Bool.not_false]
            refine w_sreg (w_abs [(2, .bool false)] (fun P hP => ?_) ?_)
            · simp only [W0.down, Nat.reduceEqDiff, ↓reduceIte, reduceCtorEq, Nat.reduceAdd, Nat.reduceSub, Nat.reduceMul, Nat.reduceLeDiff, Nat.reduceBEq, Nat.reduceLT, if_true, if_false, beq_self_eq_true, BEq.rfl, ne_eq, e_i64, u_impl_Equation]
              (try simp only [WN.down, Nat.reduceAdd, if_true, if_false, ↓reduceIte, e_i64, u_impl_Equation] at hP)
              (try simp only [WN.down, Nat.reduceAdd, if_true, if_false, ↓reduceIte, e_i64, u_impl_Equation])
              exact hP
            exact w_ret (q32 _ (r0 _ (.inl (w_fin [.bool false] rfl (by cases someE h; rfl) (by decide) outs_nil))))
          · refine w_cf (congrArg AV.bool b36) ?_
            simp only [b36, Bool.not_true, Bool.not_false]
            refine w_skip (n32 _ (.inl ?_))
            refine w_sreg (w_abs [(5, .uslice 3 (x4.2.map u_impl_Equation)), (7, .int .i64 x4.1), (8, .int .i64 1)] (fun P hP => ?_) ?_)
            · simp only [W0.down, Nat.reduceEqDiff, ↓reduceIte, reduceCtorEq, Nat.reduceAdd, Nat.reduceSub, Nat.reduceMul, Nat.reduceLeDiff, Nat.reduceBEq, Nat.reduceLT, if_true, if_false, beq_self_eq_true, BEq.rfl, ne_eq, e_i64, u_impl_Equation]
              (try simp only [WN.down, Nat.reduceAdd, if_true, if_false, ↓reduceIte, e_i64, u_impl_Equation] at hP)
              (try simp only [WN.down, Nat.reduceAdd, if_true, if_false, ↓reduceIte, e_i64, u_impl_Equation])
              exact hP
            obtain ⟨x8, e40, h⟩ := bindE h
            refine w_sreg (w_abs [(7, .int .i64 x4.1), (8, .int .i64 x8)] (fun P hP => ?_) ?_)
            · simp only [W0.down, Nat.reduceEqDiff, ↓reduceIte, reduceCtorEq, Nat.reduceAdd, Nat.reduceSub, Nat.reduceMul, Nat.reduceLeDiff, Nat.reduceBEq, Nat.reduceLT, if_true, if_false, beq_self_eq_true, BEq.rfl, ne_eq, e_i64, u_impl_Equation]
              refine w_call0 (ok_laws_heldEquationS x4.2 1 _ e40) rfl rfl (by simp only [W0.down, Nat.reduceEqDiff, ↓reduceIte, reduceCtorEq, Nat.reduceAdd, Nat.reduceSub, Nat.reduceMul, Nat.reduceLeDiff, Nat.reduceBEq, Nat.reduceLT, if_true, if_false, beq_self_eq_true, BEq.rfl, ne_eq, e_i64, u_impl_Equation, view_s, view_h, viewH_s, share_s, @shares_map _ u_impl_Equation e_impl_Equation (fun _ => sh_u_impl_Equation _)]) rfl (.inr (by rfl)) ?_
              simp only [W0.down, Nat.reduceEqDiff, ↓reduceIte, reduceCtorEq, Nat.reduceAdd, Nat.reduceSub, Nat.reduceMul, Nat.reduceLeDiff, Nat.reduceBEq, Nat.reduceLT, if_true, if_false, beq_self_eq_true, BEq.rfl, ne_eq, e_i64, u_impl_Equation]
              (try simp only [WN.down, Nat.reduceAdd, if_true, if_false, ↓reduceIte, e_i64, u_impl_Equation] at hP)
              (try simp only [WN.down, Nat.reduceAdd, if_true, if_false, ↓reduceIte, e_i64, u_impl_Equation])
              exact hP
            refine w_seq (fun Q41 n41 q41 x41 => ?_)
            refine w_sreg (w_abs [(7, .int .i64 x4.1), (8, .int .i64 x8), (62, .bool (decide (x8 < 0)))] (fun P hP => ?_) ?_)
            · simp only [W0.down, Nat.reduceEqDiff, ↓reduceIte, reduceCtorEq, Nat.reduceAdd, Nat.reduceSub, Nat.reduceMul, Nat.reduceLeDiff, Nat.reduceBEq, Nat.reduceLT, if_true, if_false, beq_self_eq_true, BEq.rfl, ne_eq]
              (try simp only [WN.down, Nat.reduceAdd, if_true, if_false, ↓reduceIte] at hP)
              (try simp only [WN.down, Nat.reduceAdd, if_true, if_false, ↓reduceIte])
              exact hP
            rcases condE h with ⟨b43, h⟩ | ⟨b43, h⟩
            · refine w_ct (congrArg AV.bool b43) ?_
              simp only [b43, Bool.not_true, Bool.not_false]
              refine w_sreg (w_abs [(2, .bool false)] (fun P hP => ?_) ?_)
              · simp only [W0.down, Nat.reduceEqDiff, ↓reduceIte, reduceCtorEq, Nat.reduceAdd, Nat.reduceSub, Nat.reduceMul, Nat.reduceLeDiff, Nat.reduceBEq, Nat.reduceLT, if_true, if_false, beq_self_eq_true, BEq.rfl, ne_eq]
                (try simp only [WN.down, Nat.reduceAdd, if_true, if_false, ↓reduceIte] at hP)
                (try simp only [WN.down, Nat.reduceAdd, if_true, if_false, ↓reduceIte])
                exact hP
              exact w_ret (q41 _ (r0 _ (.inl (w_fin [.bool false] rfl (by cases someE h; rfl) (by decide) outs_nil))))
            · refine w_cf (congrArg AV.bool b43) ?_
              simp only [b43, Bool.not_true, Bool.not_false]
              refine w_skip (n41 _ (.inl ?_))
              refine w_seq (fun Q45 n45 q45 x45 => ?_)
              refine w_sreg (w_abs [(65, .bool (x8 != x4.1))] (fun P hP => ?_) ?_)
              · simp only [W0.down, Nat.reduceEqDiff, ↓reduceIte, reduceCtorEq, Nat.reduceAdd, Nat.reduceSub, Nat.reduceMul, Nat.reduceLeDiff, Nat.reduceBEq, Nat.reduceLT, if_true, if_false, beq_self_eq_true, BEq.rfl, ne_eq]
                (try simp only [WN.down, Nat.reduceAdd, if_true, if_false, ↓reduceIte] at hP)
                (try simp only [WN.down, Nat.reduceAdd, if_true, if_false, ↓reduceIte])
                exact hP
              rcases condE h with ⟨b47, h⟩ | ⟨b47, h⟩
              · refine w_ct (congrArg AV.bool b47) ?_
                simp only [b47, Bool.not_true, Bool.not_false]
                refine w_sreg (w_abs [(2, .bool false)] (fun P hP => ?_) ?_)
                · simp only [W0.down, Nat.reduceEqDiff, ↓reduceIte, reduceCtorEq, Nat.reduceAdd, Nat.reduceSub, Nat.reduceMul, Nat.reduceLeDiff, Nat.reduceBEq, Nat.reduceLT, if_true, if_false, beq_self_eq_true, BEq.rfl, ne_eq]
                  (try simp only [WN.down, Nat.reduceAdd, if_true, if_false, ↓reduceIte] at hP)
                  (try simp only [WN.down, Nat.reduceAdd, if_true, if_false, ↓reduceIte])
                  exact hP
                exact w_ret (q45 _ (r0 _ (.inl (w_fin [.bool false] rfl (by cases someE h; rfl) (by decide) outs_nil))))
              · refine w_cf (congrArg AV.bool b47) ?_
                simp only [b47, Bool.not_true, Bool.not_false]
                refine w_skip (n45 _ (.inl ?_))
                refine w_sreg (w_abs [(2, .bool true)] (fun P hP => ?_) ?_)
                · simp only [W0.down, Nat.reduceEqDiff, ↓reduceIte, reduceCtorEq, Nat.reduceAdd, Nat.reduceSub, Nat.reduceMul, Nat.reduceLeDiff, Nat.reduceBEq, Nat.reduceLT, if_true, if_false, beq_self_eq_true, BEq.rfl, ne_eq]
                  (try simp only [WN.down, Nat.reduceAdd, if_true, if_false, ↓reduceIte] at hP)
                  (try simp only [WN.down, Nat.reduceAdd, if_true, if_false, ↓reduceIte])
                  exact hP
                exact w_ret (r0 _ (.inl (w_fin [.bool true] rfl (by cases someE h; rfl) (by decide) outs_nil)))

end Go.Proofs.Ytobljppjkklojaa
