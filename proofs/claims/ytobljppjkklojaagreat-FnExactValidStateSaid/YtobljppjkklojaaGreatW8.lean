/- Part of a proof that a law returns true for every input. No condition. -/
import Derived.Test.YtobljppjkklojaaGreatW1x8
namespace Go.Proofs.YtobljppjkklojaaGreat
open Go Go.Fw Go.Sh
set_option maxRecDepth 100000
set_option linter.unusedSimpArgs false
set_option linter.unusedVariables false

set_option maxHeartbeats 1200000 in
theorem ok_impl_componentOk (a0 : List impl_Definition) (a1 : impl_Component) (r : Bool) (h : impl_componentOk a0 a1 = some r) : OkAt Cc 68 [.slice (a0.map e_impl_Definition), e_impl_Component a1] (.bool r) [] := by
 refine OkAt.of_wpR (fx := [0, 1]) Cc_ok [.tmp 4] [(0, .slice (a0.map e_impl_Definition)), (1, e_impl_Component a1)] Tryz.func68 rfl rfl s68 (Nat.le_of_ble_eq_true rfl) rfl rfl (fun Q0 r0 n0 => ?_)
 refine ws _ ?_
 obtain ⟨x1, e3, h⟩ := bindE h
 rcases condE h with ⟨b4, h⟩ | ⟨b4, h⟩
 ·obtain ⟨x2, e5, h⟩ := bindE h
  rcases condE h with ⟨b6, h⟩ | ⟨b6, h⟩
  ·obtain ⟨x3, e7, h⟩ := bindE h
   refine w_sdrw rfl (w_absd [(4, .bool x3)] (fun P hP => ?_) ?_)
   ·simp only [V1.down, simprocAttr, zz14.down, b4, e5, b6]
    refine w_call1 (ok_impl_index a1.Definition (a0.length : Int) _ e3) rfl rfl rfl rfl (.inl (by rfl)) ?_
    simp only [V1.down, simprocAttr, zz14.down, b4, e5, b6]
    refine w_callg1 (ok_impl_areValues a1.Values _ e7) rfl rfl rfl rfl (.inl (by rfl)) ?_
    simp only [V1.down, simprocAttr, zz14.down, b4, e5, b6]
    refine ⟨okP_D (by kernel_rfl), ?_⟩
    (try simp only [VN.down, simprocAttr, zz31.down, b4, e5, b6] at hP ⊢); exact hP
   exact w_ret (r0 _ (.inl (w_fin [.bool x3] rfl (by cases someE h; rfl) (by decide) outs_nil)))
  ·refine w_sdrw rfl (w_absd [(4, .bool false)] (fun P hP => ?_) ?_)
   ·simp only [V1.down, simprocAttr, zz14.down, b4, e5, b6]
    refine w_call1 (ok_impl_index a1.Definition (a0.length : Int) _ e3) rfl rfl rfl rfl (.inl (by rfl)) ?_
    simp only [V1.down, simprocAttr, zz14.down, b4, e5, b6]
    refine ⟨okP_D (by kernel_rfl), ?_⟩
    (try simp only [VN.down, simprocAttr, zz31.down, b4, e5, b6] at hP ⊢); exact hP
   exact w_ret (r0 _ (.inl (w_fin [.bool false] rfl (by cases someE h; rfl) (by decide) outs_nil)))
 ·refine w_sdrw rfl (w_absd [(4, .bool false)] (fun P hP => ?_) ?_)
  ·simp only [V1.down, simprocAttr, zz14.down, b4]
   refine w_call1 (ok_impl_index a1.Definition (a0.length : Int) _ e3) rfl rfl rfl rfl (.inl (by rfl)) ?_
   simp only [V1.down, simprocAttr, zz14.down, b4]
   refine ⟨okP_D (by kernel_rfl), ?_⟩
   (try simp only [VN.down, simprocAttr, zz31.down, b4] at hP ⊢); exact hP
  exact w_ret (r0 _ (.inl (w_fin [.bool false] rfl (by cases someE h; rfl) (by decide) outs_nil)))

theorem ok_impl_SystemFault_c1_2 (a0 : impl_Component) (a1 : impl_System) (r : Bool) (h : impl_SystemFault_c1_2 a0 a1 = some r) : OkAt Cc 67 [e_impl_Component a0, .ref (e_impl_System a1)] (.bool r) [] := by
 refine OkAt.of_wpR (fx := [0, 1]) Cc_ok [.tmp 3] [(0, e_impl_Component a0), (1, .ref (e_impl_System a1))] Tryz.func67 rfl rfl s67 (Nat.le_of_ble_eq_true rfl) rfl rfl (fun Q0 r0 n0 => ?_)
 refine ws _ ?_
 obtain ⟨x1, e3, h⟩ := bindE h
 refine wsc (ok_impl_componentOk a1.Definitions a0 _ e3) _ ?_
 exact w_ret (r0 _ (.inl (w_fin [.bool (!x1)] rfl (by cases someE h; rfl) (by decide) outs_nil)))

theorem ok_slices_IndexFunc_impl_Component__impl_SystemFault_c1 (a0 : List impl_Component) (a1 : impl_System) (r : Int) (h : slices_IndexFunc_impl_Component__impl_SystemFault_c1 a0 a1 = some r) : OkAt Cc 137 [.slice (a0.map e_impl_Component), .fn 67 [.ref (e_impl_System a1)]] (.int .i64 r) [] := by
 refine OkAt.of_wpR (fx := [0, 1]) Cc_ok [.tmp 4] [(0, .slice (a0.map e_impl_Component)), (1, .fn 67 [.ref (e_impl_System a1)])] Tryz.func137 rfl rfl s137 (Nat.le_of_ble_eq_true rfl) rfl rfl (fun Q0 r0 n0 => ?_)
 refine ws _ ?_
 refine w_seq (fun Q2 n2 q2 x2 => ?_)
 refine ws _ ?_
 refine w_blk (fun Q4 n4 q4 b4 x4 => ?_)
 have L6 : ∀ (n : Nat) (v8_6 : Int), slices_IndexFunc_impl_Component__impl_SystemFault_c1_l6 a0 a1 n v8_6 = some r → lpC Cc c137_7 Q4 (stA [(0, .slice (a0.map e_impl_Component)), (1, .fn 67 [.ref (e_impl_System a1)]), (7, .int .i64 (a0.length : Int)), (8, .int .i64 v8_6)]) := by
  intro m6
  induction m6 with
  | zero => intro v8_6 h; cases (show none = some r from h)
  | succ m6 ih6 =>
   intro v8_6 h
   replace h : slices_IndexFunc_impl_Component__impl_SystemFault_c1_b6 (slices_IndexFunc_impl_Component__impl_SystemFault_c1_l6 a0 a1 m6) a0 a1 v8_6 = some r := h
   refine lpC_step (fun Q5 n5 q5 x5 => ?_)
   refine ws _ ?_
   refine w_seq (fun Q7 n7 q7 x7 => ?_)
   rcases condE h with ⟨b8, h⟩ | ⟨b8, h⟩
   ·refine w_ct (congrArg AV.bool b8) ?_
    simp only [b8, Bool.not_true, Bool.not_false]
    refine w_skip (n7 _ (.inl ?_))
    refine w_seq (fun Q9 n9 q9 x9 => ?_)
    refine w_blk (fun Q10 n10 q10 b10 x10 => ?_)
    refine ws _ ?_
    obtain ⟨x1, e13, h⟩ := bindE h
    obtain ⟨x2, e14, h⟩ := bindE h
    refine wscf e13 (ok_impl_SystemFault_c1_2 x1 a1 _ e14) _ ?_
    rcases condE h with ⟨b15, h⟩ | ⟨b15, h⟩
    ·refine w_ct (congrArg AV.bool b15) ?_
     simp only [b15, Bool.not_true, Bool.not_false]
     refine ws _ ?_
     exact w_ret (q10 _ (q9 _ (q5 _ (q4 _ (q2 _ (r0 _ (.inl (w_fin [.int .i64 v8_6] rfl (by cases someE h; rfl) (by decide) outs_nil))))))))
    ·refine w_cf (congrArg AV.bool b15) ?_
     simp only [b15, Bool.not_true, Bool.not_false]
     refine w_skip (n10 _ (n9 _ (.inl ?_)))
     refine wr _ ?_
     exact n5 _ (.inr ⟨_, weak_eq rfl, ih6 (IntKind.i64.wrap (v8_6 + 1)) h⟩)
   ·refine w_cf (congrArg AV.bool b8) ?_
    simp only [b8, Bool.not_true, Bool.not_false]
    refine w_ex (x7 0 _ (x5 0 _ (b4 _ (n2 _ (.inl ?_)))))
    refine ws _ ?_
    exact w_ret (r0 _ (.inl (w_fin [.int .i64 (-1)] rfl (by cases someE h; rfl) (by decide) outs_nil)))
 obtain ⟨n, h⟩ := limE h
 exact w_loop (.inr ⟨_, weak_eq rfl, L6 n 0 h⟩)

theorem ok_slices_ContainsFunc_impl_Component__impl_SystemFault_c1 (a0 : List impl_Component) (a1 : impl_System) (r : Bool) (h : slices_ContainsFunc_impl_Component__impl_SystemFault_c1 a0 a1 = some r) : OkAt Cc 66 [.slice (a0.map e_impl_Component), .fn 67 [.ref (e_impl_System a1)]] (.bool r) [] := by
 refine OkAt.of_wpR (fx := [0, 1]) Cc_ok [.tmp 4] [(0, .slice (a0.map e_impl_Component)), (1, .fn 67 [.ref (e_impl_System a1)])] Tryz.func66 rfl rfl s66 (Nat.le_of_ble_eq_true rfl) rfl rfl (fun Q0 r0 n0 => ?_)
 refine ws _ ?_
 obtain ⟨x1, e3, h⟩ := bindE h
 refine wsc (ok_slices_IndexFunc_impl_Component__impl_SystemFault_c1 a0 a1 _ e3) _ ?_
 exact w_ret (r0 _ (.inl (w_fin [.bool (decide (0 ≤ x1))] rfl (by cases someE h; rfl) (by decide) outs_nil)))

theorem ok_cmp_isNaN_string (a0 : List UInt8) (r : Bool) (h : cmp_isNaN_string a0 = some r) : OkAt Cc 245 [.str a0] (.bool r) [] := by
 refine OkAt.of_wpR (fx := [0]) Cc_ok [.tmp 2] [(0, .str a0)] Tryz.func245 rfl rfl s245 (Nat.le_of_ble_eq_true rfl) rfl rfl (fun Q0 r0 n0 => ?_)
 refine ws _ ?_
 refine ws _ ?_
 exact w_ret (r0 _ (.inl (w_fin [.bool false] rfl (by cases someE h; rfl) (by decide) outs_nil)))

theorem ok_cmp_Compare_string (a0 : List UInt8) (a1 : List UInt8) (r : Int) (h : cmp_Compare_string a0 a1 = some r) : OkAt Cc 232 [.str a0, .str a1] (.int .i64 r) [] := by
 refine OkAt.of_wpR (fx := [0, 1]) Cc_ok [.tmp 4] [(0, .str a0), (1, .str a1)] Tryz.func232 rfl rfl s232 (Nat.le_of_ble_eq_true rfl) rfl rfl (fun Q0 r0 n0 => ?_)
 refine ws _ ?_
 obtain ⟨x1, e3, h⟩ := bindE h
 refine wsc (ok_cmp_isNaN_string a0 _ e3) _ ?_
 obtain ⟨x2, e5, h⟩ := bindE h
 refine wsc (ok_cmp_isNaN_string a1 _ e5) _ ?_
 refine w_seq (fun Q6 n6 q6 x6 => ?_)
 refine ws _ ?_
 rcases condE h with ⟨b8, h⟩ | ⟨b8, h⟩
 ·refine w_ct (congrArg AV.bool b8) ?_
  simp only [b8, Bool.not_true, Bool.not_false]
  refine w_seq (fun Q9 n9 q9 x9 => ?_)
  refine ws _ ?_
  rcases condE h with ⟨b11, h⟩ | ⟨b11, h⟩
  ·refine w_ct (congrArg AV.bool b11) ?_
   simp only [b11, Bool.not_true, Bool.not_false]
   refine ws _ ?_
   exact w_ret (q9 _ (q6 _ (r0 _ (.inl (w_fin [.int .i64 0] rfl (by cases someE h; rfl) (by decide) outs_nil)))))
  ·refine w_cf (congrArg AV.bool b11) ?_
   simp only [b11, Bool.not_true, Bool.not_false]
   refine w_skip (n9 _ (.inl ?_))
   refine ws _ ?_
   exact w_ret (q6 _ (r0 _ (.inl (w_fin [.int .i64 (-1)] rfl (by cases someE h; rfl) (by decide) outs_nil))))
 ·refine w_cf (congrArg AV.bool b8) ?_
  simp only [b8, Bool.not_true, Bool.not_false]
  refine w_skip (n6 _ (.inl ?_))
  refine w_seq (fun Q14 n14 q14 x14 => ?_)
  refine ws _ ?_
  rcases condE h with ⟨b16, h⟩ | ⟨b16, h⟩
  ·refine w_ct (congrArg AV.bool b16) ?_
   simp only [b16, Bool.not_true, Bool.not_false]
   refine ws _ ?_
   exact w_ret (q14 _ (r0 _ (.inl (w_fin [.int .i64 1] rfl (by cases someE h; rfl) (by decide) outs_nil))))
  ·refine w_cf (congrArg AV.bool b16) ?_
   simp only [b16, Bool.not_true, Bool.not_false]
   refine w_skip (n14 _ (.inl ?_))
   refine w_seq (fun Q18 n18 q18 x18 => ?_)
   refine ws _ ?_
   rcases condE h with ⟨b20, h⟩ | ⟨b20, h⟩
   ·refine w_ct (congrArg AV.bool b20) ?_
    simp only [b20, Bool.not_true, Bool.not_false]
    refine ws _ ?_
    exact w_ret (q18 _ (r0 _ (.inl (w_fin [.int .i64 (-1)] rfl (by cases someE h; rfl) (by decide) outs_nil))))
   ·refine w_cf (congrArg AV.bool b20) ?_
    simp only [b20, Bool.not_true, Bool.not_false]
    refine w_skip (n18 _ (.inl ?_))
    refine w_seq (fun Q22 n22 q22 x22 => ?_)
    refine ws _ ?_
    rcases condE h with ⟨b24, h⟩ | ⟨b24, h⟩
    ·refine w_ct (congrArg AV.bool b24) ?_
     simp only [b24, Bool.not_true, Bool.not_false]
     refine ws _ ?_
     exact w_ret (q22 _ (r0 _ (.inl (w_fin [.int .i64 1] rfl (by cases someE h; rfl) (by decide) outs_nil))))
    ·refine w_cf (congrArg AV.bool b24) ?_
     simp only [b24, Bool.not_true, Bool.not_false]
     refine w_skip (n22 _ (.inl ?_))
     refine ws _ ?_
     exact w_ret (r0 _ (.inl (w_fin [.int .i64 0] rfl (by cases someE h; rfl) (by decide) outs_nil)))

set_option maxHeartbeats 600000 in
theorem ok_slices_Compare_string_string (a0 : List (List UInt8)) (a1 : List (List UInt8)) (r : Int) (h : slices_Compare_string_string a0 a1 = some r) : OkAt Cc 193 [.slice (a0.map e_str), .slice (a1.map e_str)] (.int .i64 r) [] := by
 refine OkAt.of_wpR (fx := [0, 1]) Cc_ok [.tmp 4] [(0, .slice (a0.map e_str)), (1, .slice (a1.map e_str))] Tryz.func193 rfl rfl s193 (Nat.le_of_ble_eq_true rfl) rfl rfl (fun Q0 r0 n0 => ?_)
 refine ws _ ?_
 refine w_seq (fun Q2 n2 q2 x2 => ?_)
 refine ws _ ?_
 refine w_blk (fun Q4 n4 q4 b4 x4 => ?_)
 have L6 : ∀ (n : Nat) (v11_6 : Int), slices_Compare_string_string_l6 a0 a1 n v11_6 = some r → lpC Cc c193_7 Q4 (stA [(0, .slice (a0.map e_str)), (1, .slice (a1.map e_str)), (9, .slice (a0.map e_str)), (10, .int .i64 (a0.length : Int)), (11, .int .i64 v11_6)]) := by
  intro m6
  induction m6 with
  | zero => intro v11_6 h; cases (show none = some r from h)
  | succ m6 ih6 =>
   intro v11_6 h
   replace h : slices_Compare_string_string_b6 (slices_Compare_string_string_l6 a0 a1 m6) a0 a1 v11_6 = some r := h
   refine lpC_step (fun Q5 n5 q5 x5 => ?_)
   refine ws _ ?_
   refine w_seq (fun Q7 n7 q7 x7 => ?_)
   rcases condE h with ⟨b8, h⟩ | ⟨b8, h⟩
   ·refine w_ct (congrArg AV.bool b8) ?_
    simp only [b8, Bool.not_true, Bool.not_false]
    refine w_skip (n7 _ (.inl ?_))
    refine w_seq (fun Q9 n9 q9 x9 => ?_)
    refine w_blk (fun Q10 n10 q10 b10 x10 => ?_)
    obtain ⟨x1, e12, h⟩ := bindE h
    refine wsf e12 _ ?_
    refine w_seq (fun Q13 n13 q13 x13 => ?_)
    refine ws _ ?_
    rcases condE h with ⟨b15, h⟩ | ⟨b15, h⟩
    ·refine w_ct (congrArg AV.bool b15) ?_
     simp only [b15, Bool.not_true, Bool.not_false]
     refine ws _ ?_
     exact w_ret (q13 _ (q10 _ (q9 _ (q5 _ (q4 _ (q2 _ (r0 _ (.inl (w_fin [.int .i64 1] rfl (by cases someE h; rfl) (by decide) outs_nil)))))))))
    ·refine w_cf (congrArg AV.bool b15) ?_
     simp only [b15, Bool.not_true, Bool.not_false]
     refine w_skip (n13 _ (.inl ?_))
     obtain ⟨x2, e18, h⟩ := bindE h
     refine wsf e18 _ ?_
     obtain ⟨x3, e20, h⟩ := bindE h
     refine wsc (ok_cmp_Compare_string x1 x2 _ e20) _ ?_
     refine ws _ ?_
     rcases condE h with ⟨b22, h⟩ | ⟨b22, h⟩
     ·refine w_ct (congrArg AV.bool b22) ?_
      simp only [b22, Bool.not_true, Bool.not_false]
      refine ws _ ?_
      exact w_ret (q10 _ (q9 _ (q5 _ (q4 _ (q2 _ (r0 _ (.inl (w_fin [.int .i64 x3] rfl (by cases someE h; rfl) (by decide) outs_nil))))))))
     ·refine w_cf (congrArg AV.bool b22) ?_
      simp only [b22, Bool.not_true, Bool.not_false]
      refine w_skip (n10 _ (n9 _ (.inl ?_)))
      refine wr _ ?_
      exact n5 _ (.inr ⟨_, weak_eq rfl, ih6 (IntKind.i64.wrap (v11_6 + 1)) h⟩)
   ·refine w_cf (congrArg AV.bool b8) ?_
    simp only [b8, Bool.not_true, Bool.not_false]
    refine w_ex (x7 0 _ (x5 0 _ (b4 _ (n2 _ (.inl ?_)))))
    refine w_seq (fun Q25 n25 q25 x25 => ?_)
    refine ws _ ?_
    rcases condE h with ⟨b27, h⟩ | ⟨b27, h⟩
    ·refine w_ct (congrArg AV.bool b27) ?_
     simp only [b27, Bool.not_true, Bool.not_false]
     refine ws _ ?_
     exact w_ret (q25 _ (r0 _ (.inl (w_fin [.int .i64 (-1)] rfl (by cases someE h; rfl) (by decide) outs_nil))))
    ·refine w_cf (congrArg AV.bool b27) ?_
     simp only [b27, Bool.not_true, Bool.not_false]
     refine w_skip (n25 _ (.inl ?_))
     refine ws _ ?_
     exact w_ret (r0 _ (.inl (w_fin [.int .i64 0] rfl (by cases someE h; rfl) (by decide) outs_nil)))
 obtain ⟨n, h⟩ := limE h
 exact w_loop (.inr ⟨_, weak_eq rfl, L6 n 0 h⟩)

theorem ok_impl_compareMeetings (a0 : impl_Meeting) (a1 : impl_Meeting) (r : Int) (h : impl_compareMeetings a0 a1 = some r) : OkAt Cc 141 [e_impl_Meeting a0, e_impl_Meeting a1] (.int .i64 r) [] := by
 refine OkAt.of_wpR (fx := [0, 1]) Cc_ok [.tmp 4] [(0, e_impl_Meeting a0), (1, e_impl_Meeting a1)] Tryz.func141 rfl rfl s141 (Nat.le_of_ble_eq_true rfl) rfl rfl (fun Q0 r0 n0 => ?_)
 refine ws _ ?_
 obtain ⟨x1, e3, h⟩ := bindE h
 refine w_sreg (w_abs [(4, .int .i64 x1)] (fun P hP => ?_) ?_)
 ·simp only [V0.down, simprocAttr, tt9, tt41, tt119, e_impl_Meeting, e_str, (show ∀ s, bsl Cc s 41 2 [(0, .str a0.Left), (1, .str a0.Right)] = some (.uslice 1 [.str a0.Left, .str a0.Right], s) from fun s => by kernel_rfl), (show ∀ s, bsl Cc s 41 2 [(0, .str a1.Left), (1, .str a1.Right)] = some (.uslice 1 [.str a1.Left, .str a1.Right], s) from fun s => by kernel_rfl)]
  refine w_call0 (ok_slices_Compare_string_string [a0.Left, a0.Right] [a1.Left, a1.Right] _ e3) rfl rfl (by simp only [V0.down, simprocAttr, tt9, tt41, tt119, e_impl_Meeting, e_str, (show ∀ s, bsl Cc s 41 2 [(0, .str a0.Left), (1, .str a0.Right)] = some (.uslice 1 [.str a0.Left, .str a0.Right], s) from fun s => by kernel_rfl), (show ∀ s, bsl Cc s 41 2 [(0, .str a1.Left), (1, .str a1.Right)] = some (.uslice 1 [.str a1.Left, .str a1.Right], s) from fun s => by kernel_rfl), view_s, view_h, viewH_s, share_s, @shares_map _ e_str e_str (fun _ => sh_e_str _), @shares_map _ e_str e_str (fun _ => sh_e_str _)] <;> rfl) rfl (.inr (by rfl)) ?_
  simp only [V0.down, simprocAttr, tt9, tt41, tt119, e_impl_Meeting, e_str, (show ∀ s, bsl Cc s 41 2 [(0, .str a0.Left), (1, .str a0.Right)] = some (.uslice 1 [.str a0.Left, .str a0.Right], s) from fun s => by kernel_rfl), (show ∀ s, bsl Cc s 41 2 [(0, .str a1.Left), (1, .str a1.Right)] = some (.uslice 1 [.str a1.Left, .str a1.Right], s) from fun s => by kernel_rfl)]
  (try simp only [VN.down, simprocAttr, e_impl_Meeting, e_str, (show ∀ s, bsl Cc s 41 2 [(0, .str a0.Left), (1, .str a0.Right)] = some (.uslice 1 [.str a0.Left, .str a0.Right], s) from fun s => by kernel_rfl), (show ∀ s, bsl Cc s 41 2 [(0, .str a1.Left), (1, .str a1.Right)] = some (.uslice 1 [.str a1.Left, .str a1.Right], s) from fun s => by kernel_rfl)] at hP ⊢); exact hP
 exact w_ret (r0 _ (.inl (w_fin [.int .i64 x1] rfl (by cases someE h; rfl) (by decide) outs_nil)))

theorem ok_impl_meetingsOk_c1_2 (a0 : impl_Meeting) (a1 : impl_Meeting) (r : Bool) (h : impl_meetingsOk_c1_2 a0 a1 = some r) : OkAt Cc 143 [e_impl_Meeting a0, .ref (e_impl_Meeting a1)] (.bool r) [] := by
 refine OkAt.of_wpR (fx := [0, 1]) Cc_ok [.tmp 3] [(0, e_impl_Meeting a0), (1, .ref (e_impl_Meeting a1))] Tryz.func143 rfl rfl s143 (Nat.le_of_ble_eq_true rfl) rfl rfl (fun Q0 r0 n0 => ?_)
 refine ws _ ?_
 refine w_sreg (w_abs [(3, .bool ((a0.Left == a1.Result) || (a0.Right == a1.Result)))] (fun P hP => ?_) ?_)
 ·rcases Bool.eq_false_or_eq_true (a0.Left == a1.Result) with s3 | s3
  ·simp only [V0.down, simprocAttr, zz4.down, s3]
   (try simp only [VN.down, simprocAttr, e_impl_Meeting, s3] at hP ⊢); exact hP
  ·simp only [V0.down, simprocAttr, zz4.down, s3]
   (try simp only [VN.down, simprocAttr, e_impl_Meeting, s3] at hP ⊢); exact hP
 exact w_ret (r0 _ (.inl (w_fin [.bool ((a0.Left == a1.Result) || (a0.Right == a1.Result))] rfl (by cases someE h; rfl) (by decide) outs_nil)))

theorem ok_slices_IndexFunc_impl_Meeting__impl_meetingsOk_c1 (a0 : List impl_Meeting) (a1 : impl_Meeting) (r : Int) (h : slices_IndexFunc_impl_Meeting__impl_meetingsOk_c1 a0 a1 = some r) : OkAt Cc 151 [.slice (a0.map e_impl_Meeting), .fn 143 [.ref (e_impl_Meeting a1)]] (.int .i64 r) [] := by
 refine OkAt.of_wpR (fx := [0, 1]) Cc_ok [.tmp 4] [(0, .slice (a0.map e_impl_Meeting)), (1, .fn 143 [.ref (e_impl_Meeting a1)])] Tryz.func151 rfl rfl s151 (Nat.le_of_ble_eq_true rfl) rfl rfl (fun Q0 r0 n0 => ?_)
 refine ws _ ?_
 refine w_seq (fun Q2 n2 q2 x2 => ?_)
 refine ws _ ?_
 refine w_blk (fun Q4 n4 q4 b4 x4 => ?_)
 have L6 : ∀ (n : Nat) (v8_6 : Int), slices_IndexFunc_impl_Meeting__impl_meetingsOk_c1_l6 a0 a1 n v8_6 = some r → lpC Cc c151_7 Q4 (stA [(0, .slice (a0.map e_impl_Meeting)), (1, .fn 143 [.ref (e_impl_Meeting a1)]), (7, .int .i64 (a0.length : Int)), (8, .int .i64 v8_6)]) := by
  intro m6
  induction m6 with
  | zero => intro v8_6 h; cases (show none = some r from h)
  | succ m6 ih6 =>
   intro v8_6 h
   replace h : slices_IndexFunc_impl_Meeting__impl_meetingsOk_c1_b6 (slices_IndexFunc_impl_Meeting__impl_meetingsOk_c1_l6 a0 a1 m6) a0 a1 v8_6 = some r := h
   refine lpC_step (fun Q5 n5 q5 x5 => ?_)
   refine ws _ ?_
   refine w_seq (fun Q7 n7 q7 x7 => ?_)
   rcases condE h with ⟨b8, h⟩ | ⟨b8, h⟩
   ·refine w_ct (congrArg AV.bool b8) ?_
    simp only [b8, Bool.not_true, Bool.not_false]
    refine w_skip (n7 _ (.inl ?_))
    refine w_seq (fun Q9 n9 q9 x9 => ?_)
    refine w_blk (fun Q10 n10 q10 b10 x10 => ?_)
    refine ws _ ?_
    obtain ⟨x1, e13, h⟩ := bindE h
    obtain ⟨x2, e14, h⟩ := bindE h
    refine wscf e13 (ok_impl_meetingsOk_c1_2 x1 a1 _ e14) _ ?_
    rcases condE h with ⟨b15, h⟩ | ⟨b15, h⟩
    ·refine w_ct (congrArg AV.bool b15) ?_
     simp only [b15, Bool.not_true, Bool.not_false]
     refine ws _ ?_
     exact w_ret (q10 _ (q9 _ (q5 _ (q4 _ (q2 _ (r0 _ (.inl (w_fin [.int .i64 v8_6] rfl (by cases someE h; rfl) (by decide) outs_nil))))))))
    ·refine w_cf (congrArg AV.bool b15) ?_
     simp only [b15, Bool.not_true, Bool.not_false]
     refine w_skip (n10 _ (n9 _ (.inl ?_)))
     refine wr _ ?_
     exact n5 _ (.inr ⟨_, weak_eq rfl, ih6 (IntKind.i64.wrap (v8_6 + 1)) h⟩)
   ·refine w_cf (congrArg AV.bool b8) ?_
    simp only [b8, Bool.not_true, Bool.not_false]
    refine w_ex (x7 0 _ (x5 0 _ (b4 _ (n2 _ (.inl ?_)))))
    refine ws _ ?_
    exact w_ret (r0 _ (.inl (w_fin [.int .i64 (-1)] rfl (by cases someE h; rfl) (by decide) outs_nil)))
 obtain ⟨n, h⟩ := limE h
 exact w_loop (.inr ⟨_, weak_eq rfl, L6 n 0 h⟩)

theorem ok_slices_ContainsFunc_impl_Meeting__impl_meetingsOk_c1 (a0 : List impl_Meeting) (a1 : impl_Meeting) (r : Bool) (h : slices_ContainsFunc_impl_Meeting__impl_meetingsOk_c1 a0 a1 = some r) : OkAt Cc 142 [.slice (a0.map e_impl_Meeting), .fn 143 [.ref (e_impl_Meeting a1)]] (.bool r) [] := by
 refine OkAt.of_wpR (fx := [0, 1]) Cc_ok [.tmp 4] [(0, .slice (a0.map e_impl_Meeting)), (1, .fn 143 [.ref (e_impl_Meeting a1)])] Tryz.func142 rfl rfl s142 (Nat.le_of_ble_eq_true rfl) rfl rfl (fun Q0 r0 n0 => ?_)
 refine ws _ ?_
 obtain ⟨x1, e3, h⟩ := bindE h
 refine wsc (ok_slices_IndexFunc_impl_Meeting__impl_meetingsOk_c1 a0 a1 _ e3) _ ?_
 exact w_ret (r0 _ (.inl (w_fin [.bool (decide (0 ≤ x1))] rfl (by cases someE h; rfl) (by decide) outs_nil)))

set_option maxHeartbeats 2400000 in
theorem ok_impl_meetingsOk (a0 : List impl_Meeting) (r : Bool) (h : impl_meetingsOk a0 = some r) : OkAt Cc 69 [.slice (a0.map e_impl_Meeting)] (.bool r) [] := by
 refine OkAt.of_wpR (fx := [0]) Cc_ok [.tmp 2] [(0, .slice (a0.map e_impl_Meeting))] Tryz.func69 rfl rfl s69 (Nat.le_of_ble_eq_true rfl) rfl rfl (fun Q0 r0 n0 => ?_)
 refine ws _ ?_
 refine w_seq (fun Q2 n2 q2 x2 => ?_)
 refine ws _ ?_
 refine w_blk (fun Q4 n4 q4 b4 x4 => ?_)
 have L6 : ∀ (n : Nat) (v7_6 : Int), impl_meetingsOk_l6 a0 n v7_6 = some r → lpC Cc c69_7 Q4 (stA [(0, .slice (a0.map e_impl_Meeting)), (5, .slice (a0.map e_impl_Meeting)), (6, .int .i64 (a0.length : Int)), (7, .int .i64 v7_6)]) := by
  intro m6
  induction m6 with
  | zero => intro v7_6 h; cases (show none = some r from h)
  | succ m6 ih6 =>
   intro v7_6 h
   replace h : impl_meetingsOk_b6 (impl_meetingsOk_l6 a0 m6) a0 v7_6 = some r := h
   refine lpC_step (fun Q5 n5 q5 x5 => ?_)
   refine ws _ ?_
   refine w_seq (fun Q7 n7 q7 x7 => ?_)
   rcases condE h with ⟨b8, h⟩ | ⟨b8, h⟩
   ·refine w_ct (congrArg AV.bool b8) ?_
    simp only [b8, Bool.not_true, Bool.not_false]
    refine w_skip (n7 _ (.inl ?_))
    refine w_seq (fun Q9 n9 q9 x9 => ?_)
    refine w_blk (fun Q10 n10 q10 b10 x10 => ?_)
    obtain ⟨x1, e12, h⟩ := bindE h
    refine wsf e12 _ ?_
    refine w_seq (fun Q13 n13 q13 x13 => ?_)
    obtain ⟨x5, e22, h⟩ := bindE h
    rcases condE h with ⟨b23, h⟩ | ⟨b23, h⟩
    ·refine w_sdrw rfl (w_absd [(0, .slice (a0.map e_impl_Meeting)), (4, .ubox (e_impl_Meeting x1)), (5, .slice (a0.map e_impl_Meeting)), (6, .int .i64 (a0.length : Int)), (7, .int .i64 v7_6), (48, .bool true)] (fun P hP => ?_) ?_)
     ·simp only [V1.down, simprocAttr, zz1.down, b23]
      refine w_call1 (ok_impl_IsAction x1.Left _ e22) rfl rfl rfl rfl (.inl (by rfl)) ?_
      simp only [V1.down, simprocAttr, zz1.down, b23]
      refine ⟨okP_D (by kernel_rfl), ?_⟩
      (try simp only [VN.down, simprocAttr, e_impl_Meeting, b23] at hP ⊢); exact hP
     refine w_ct rfl ?_
     refine ws _ ?_
     exact w_ret (q13 _ (q10 _ (q9 _ (q5 _ (q4 _ (q2 _ (r0 _ (.inl (w_fin [.bool false] rfl (by cases someE h; rfl) (by decide) outs_nil)))))))))
    ·obtain ⟨x6, e25, h⟩ := bindE h
     rcases condE h with ⟨b26, h⟩ | ⟨b26, h⟩
     ·refine w_sdrw rfl (w_absd [(0, .slice (a0.map e_impl_Meeting)), (4, .ubox (e_impl_Meeting x1)), (5, .slice (a0.map e_impl_Meeting)), (6, .int .i64 (a0.length : Int)), (7, .int .i64 v7_6), (48, .bool true)] (fun P hP => ?_) ?_)
      ·simp only [V1.down, simprocAttr, zz1.down, b23, b26]
       refine w_call1 (ok_impl_IsAction x1.Left _ e22) rfl rfl rfl rfl (.inl (by rfl)) ?_
       simp only [V1.down, simprocAttr, zz1.down, b23, b26]
       refine w_callg1 (ok_impl_IsAction x1.Right _ e25) rfl rfl rfl rfl (.inl (by rfl)) ?_
       simp only [V1.down, simprocAttr, zz1.down, b23, b26]
       refine ⟨okP_D (by kernel_rfl), ?_⟩
       (try simp only [VN.down, simprocAttr, e_impl_Meeting, b23, b26] at hP ⊢); exact hP
      refine w_ct rfl ?_
      refine ws _ ?_
      exact w_ret (q13 _ (q10 _ (q9 _ (q5 _ (q4 _ (q2 _ (r0 _ (.inl (w_fin [.bool false] rfl (by cases someE h; rfl) (by decide) outs_nil)))))))))
     ·obtain ⟨x7, e28, h⟩ := bindE h
      rcases condE h with ⟨b29, h⟩ | ⟨b29, h⟩
      ·refine w_sdrw rfl (w_absd [(0, .slice (a0.map e_impl_Meeting)), (4, .ubox (e_impl_Meeting x1)), (5, .slice (a0.map e_impl_Meeting)), (6, .int .i64 (a0.length : Int)), (7, .int .i64 v7_6), (48, .bool true)] (fun P hP => ?_) ?_)
       ·simp only [V1.down, simprocAttr, zz1.down, b23, b26, b29]
        refine w_call1 (ok_impl_IsAction x1.Left _ e22) rfl rfl rfl rfl (.inl (by rfl)) ?_
        simp only [V1.down, simprocAttr, zz1.down, b23, b26, b29]
        refine w_callg1 (ok_impl_IsAction x1.Right _ e25) rfl rfl rfl rfl (.inl (by rfl)) ?_
        simp only [V1.down, simprocAttr, zz1.down, b23, b26, b29]
        refine w_callg1 (ok_impl_IsAction x1.Result _ e28) rfl rfl rfl rfl (.inl (by rfl)) ?_
        simp only [V1.down, simprocAttr, zz1.down, b23, b26, b29]
        refine ⟨okP_D (by kernel_rfl), ?_⟩
        (try simp only [VN.down, simprocAttr, e_impl_Meeting, b23, b26, b29] at hP ⊢); exact hP
       refine w_ct rfl ?_
       refine ws _ ?_
       exact w_ret (q13 _ (q10 _ (q9 _ (q5 _ (q4 _ (q2 _ (r0 _ (.inl (w_fin [.bool false] rfl (by cases someE h; rfl) (by decide) outs_nil)))))))))
      ·rcases condE h with ⟨b31, h⟩ | ⟨b31, h⟩
       ·refine w_sdrw rfl (w_absd [(0, .slice (a0.map e_impl_Meeting)), (4, .ubox (e_impl_Meeting x1)), (5, .slice (a0.map e_impl_Meeting)), (6, .int .i64 (a0.length : Int)), (7, .int .i64 v7_6), (48, .bool true)] (fun P hP => ?_) ?_)
        ·simp only [V1.down, simprocAttr, zz1.down, b23, b26, b29, b31]
         refine w_call1 (ok_impl_IsAction x1.Left _ e22) rfl rfl rfl rfl (.inl (by rfl)) ?_
         simp only [V1.down, simprocAttr, zz1.down, b23, b26, b29, b31]
         refine w_callg1 (ok_impl_IsAction x1.Right _ e25) rfl rfl rfl rfl (.inl (by rfl)) ?_
         simp only [V1.down, simprocAttr, zz1.down, b23, b26, b29, b31]
         refine w_callg1 (ok_impl_IsAction x1.Result _ e28) rfl rfl rfl rfl (.inl (by rfl)) ?_
         simp only [V1.down, simprocAttr, zz1.down, b23, b26, b29, b31]
         refine ⟨okP_D (by kernel_rfl), ?_⟩
         (try simp only [VN.down, simprocAttr, e_impl_Meeting, b23, b26, b29, b31] at hP ⊢); exact hP
        refine w_ct rfl ?_
        refine ws _ ?_
        exact w_ret (q13 _ (q10 _ (q9 _ (q5 _ (q4 _ (q2 _ (r0 _ (.inl (w_fin [.bool false] rfl (by cases someE h; rfl) (by decide) outs_nil)))))))))
       ·rcases condE h with ⟨b33, h⟩ | ⟨b33, h⟩
        ·obtain ⟨x8, e34, h⟩ := bindE h
         obtain ⟨x9, e35, h⟩ := bindE h
         refine w_sdrw rfl (w_absd [(0, .slice (a0.map e_impl_Meeting)), (4, .ubox (e_impl_Meeting x1)), (5, .slice (a0.map e_impl_Meeting)), (6, .int .i64 (a0.length : Int)), (7, .int .i64 v7_6), (48, .bool (decide (0 ≤ x9)))] (fun P hP => ?_) ?_)
         ·simp only [V1.down, simprocAttr, zz1.down, b23, b26, b29, b31, b33, e34]
          refine w_call1 (ok_impl_IsAction x1.Left _ e22) rfl rfl rfl rfl (.inl (by rfl)) ?_
          simp only [V1.down, simprocAttr, zz1.down, b23, b26, b29, b31, b33, e34]
          refine w_callg1 (ok_impl_IsAction x1.Right _ e25) rfl rfl rfl rfl (.inl (by rfl)) ?_
          simp only [V1.down, simprocAttr, zz1.down, b23, b26, b29, b31, b33, e34]
          refine w_callg1 (ok_impl_IsAction x1.Result _ e28) rfl rfl rfl rfl (.inl (by rfl)) ?_
          simp only [V1.down, simprocAttr, zz1.down, b23, b26, b29, b31, b33, e34]
          refine w_callg1 (ok_impl_compareMeetings x8 x1 _ e35) rfl rfl rfl rfl (.inl (by rfl)) ?_
          simp only [V1.down, simprocAttr, zz1.down, b23, b26, b29, b31, b33, e34]
          refine ⟨okP_D (by kernel_rfl), ?_⟩
          (try simp only [VN.down, simprocAttr, e_impl_Meeting, b23, b26, b29, b31, b33, e34] at hP ⊢); exact hP
         rcases condE h with ⟨b36, h⟩ | ⟨b36, h⟩
         ·refine w_ct (congrArg AV.bool b36) ?_
          simp only [b36, Bool.not_true, Bool.not_false]
          refine ws _ ?_
          exact w_ret (q13 _ (q10 _ (q9 _ (q5 _ (q4 _ (q2 _ (r0 _ (.inl (w_fin [.bool false] rfl (by cases someE h; rfl) (by decide) outs_nil)))))))))
         ·refine w_cf (congrArg AV.bool b36) ?_
          simp only [b36, Bool.not_true, Bool.not_false]
          refine w_skip (n13 _ (.inl ?_))
          obtain ⟨x10, e39, h⟩ := bindE h
          refine w_sreg (w_abs [(0, .slice (a0.map e_impl_Meeting)), (5, .slice (a0.map e_impl_Meeting)), (6, .int .i64 (a0.length : Int)), (7, .int .i64 v7_6), (51, .bool x10)] (fun P hP => ?_) ?_)
          ·simp only [V0.down, simprocAttr, e_impl_Meeting]
           refine w_call0 (ok_slices_ContainsFunc_impl_Meeting__impl_meetingsOk_c1 a0 x1 _ e39) rfl rfl (by simp only [V0.down, simprocAttr, e_impl_Meeting, view_s, view_h, viewH_s, share_s] <;> rfl) rfl (.inr (by rfl)) ?_
           simp only [V0.down, simprocAttr, e_impl_Meeting]
           (try simp only [VN.down, simprocAttr, e_impl_Meeting] at hP ⊢); exact hP
          rcases condE h with ⟨b40, h⟩ | ⟨b40, h⟩
          ·refine w_ct (congrArg AV.bool b40) ?_
           simp only [b40, Bool.not_true, Bool.not_false]
           refine ws _ ?_
           exact w_ret (q10 _ (q9 _ (q5 _ (q4 _ (q2 _ (r0 _ (.inl (w_fin [.bool false] rfl (by cases someE h; rfl) (by decide) outs_nil))))))))
          ·refine w_cf (congrArg AV.bool b40) ?_
           simp only [b40, Bool.not_true, Bool.not_false]
           refine w_skip (n10 _ (n9 _ (.inl ?_)))
           refine wr _ ?_
           exact n5 _ (.inr ⟨_, weak_eq rfl, ih6 (IntKind.i64.wrap (v7_6 + 1)) h⟩)
        ·refine w_sdrw rfl (w_absd [(0, .slice (a0.map e_impl_Meeting)), (4, .ubox (e_impl_Meeting x1)), (5, .slice (a0.map e_impl_Meeting)), (6, .int .i64 (a0.length : Int)), (7, .int .i64 v7_6), (48, .bool false)] (fun P hP => ?_) ?_)
         ·simp only [V1.down, simprocAttr, zz1.down, b23, b26, b29, b31, b33]
          refine w_call1 (ok_impl_IsAction x1.Left _ e22) rfl rfl rfl rfl (.inl (by rfl)) ?_
          simp only [V1.down, simprocAttr, zz1.down, b23, b26, b29, b31, b33]
          refine w_callg1 (ok_impl_IsAction x1.Right _ e25) rfl rfl rfl rfl (.inl (by rfl)) ?_
          simp only [V1.down, simprocAttr, zz1.down, b23, b26, b29, b31, b33]
          refine w_callg1 (ok_impl_IsAction x1.Result _ e28) rfl rfl rfl rfl (.inl (by rfl)) ?_
          simp only [V1.down, simprocAttr, zz1.down, b23, b26, b29, b31, b33]
          refine ⟨okP_D (by kernel_rfl), ?_⟩
          (try simp only [VN.down, simprocAttr, e_impl_Meeting, b23, b26, b29, b31, b33] at hP ⊢); exact hP
         refine w_cf rfl ?_
         refine w_skip (n13 _ (.inl ?_))
         obtain ⟨x11, e44, h⟩ := bindE h
         refine w_sreg (w_abs [(0, .slice (a0.map e_impl_Meeting)), (5, .slice (a0.map e_impl_Meeting)), (6, .int .i64 (a0.length : Int)), (7, .int .i64 v7_6), (51, .bool x11)] (fun P hP => ?_) ?_)
         ·simp only [V0.down, simprocAttr, e_impl_Meeting]
          refine w_call0 (ok_slices_ContainsFunc_impl_Meeting__impl_meetingsOk_c1 a0 x1 _ e44) rfl rfl (by simp only [V0.down, simprocAttr, e_impl_Meeting, view_s, view_h, viewH_s, share_s] <;> rfl) rfl (.inr (by rfl)) ?_
          simp only [V0.down, simprocAttr, e_impl_Meeting]
          (try simp only [VN.down, simprocAttr, e_impl_Meeting] at hP ⊢); exact hP
         rcases condE h with ⟨b45, h⟩ | ⟨b45, h⟩
         ·refine w_ct (congrArg AV.bool b45) ?_
          simp only [b45, Bool.not_true, Bool.not_false]
          refine ws _ ?_
          exact w_ret (q10 _ (q9 _ (q5 _ (q4 _ (q2 _ (r0 _ (.inl (w_fin [.bool false] rfl (by cases someE h; rfl) (by decide) outs_nil))))))))
         ·refine w_cf (congrArg AV.bool b45) ?_
          simp only [b45, Bool.not_true, Bool.not_false]
          refine w_skip (n10 _ (n9 _ (.inl ?_)))
          refine wr _ ?_
          exact n5 _ (.inr ⟨_, weak_eq rfl, ih6 (IntKind.i64.wrap (v7_6 + 1)) h⟩)
   ·refine w_cf (congrArg AV.bool b8) ?_
    simp only [b8, Bool.not_true, Bool.not_false]
    refine w_ex (x7 0 _ (x5 0 _ (b4 _ (n2 _ (.inl ?_)))))
    refine ws _ ?_
    exact w_ret (r0 _ (.inl (w_fin [.bool (decide ((a0.length : Int) ≤ 6))] rfl (by cases someE h; rfl) (by decide) outs_nil)))
 obtain ⟨n, h⟩ := limE h
 exact w_loop (.inr ⟨_, weak_eq rfl, L6 n 0 h⟩)

theorem ok_impl_namesOk (a0 : List (List UInt8)) (r : Bool) (h : impl_namesOk a0 = some r) : OkAt Cc 70 [.slice (a0.map e_str)] (.bool r) [] := by
 refine OkAt.of_wpR (fx := [0]) Cc_ok [.tmp 2] [(0, .slice (a0.map e_str))] Tryz.func70 rfl rfl s70 (Nat.le_of_ble_eq_true rfl) rfl rfl (fun Q0 r0 n0 => ?_)
 refine ws _ ?_
 refine w_seq (fun Q2 n2 q2 x2 => ?_)
 refine ws _ ?_
 refine w_blk (fun Q4 n4 q4 b4 x4 => ?_)
 have L6 : ∀ (n : Nat) (v7_6 : Int), impl_namesOk_l6 a0 n v7_6 = some r → lpC Cc c70_7 Q4 (stA [(0, .slice (a0.map e_str)), (5, .slice (a0.map e_str)), (6, .int .i64 (a0.length : Int)), (7, .int .i64 v7_6)]) := by
  intro m6
  induction m6 with
  | zero => intro v7_6 h; cases (show none = some r from h)
  | succ m6 ih6 =>
   intro v7_6 h
   replace h : impl_namesOk_b6 (impl_namesOk_l6 a0 m6) a0 v7_6 = some r := h
   refine lpC_step (fun Q5 n5 q5 x5 => ?_)
   refine ws _ ?_
   refine w_seq (fun Q7 n7 q7 x7 => ?_)
   rcases condE h with ⟨b8, h⟩ | ⟨b8, h⟩
   ·refine w_ct (congrArg AV.bool b8) ?_
    simp only [b8, Bool.not_true, Bool.not_false]
    refine w_skip (n7 _ (.inl ?_))
    refine w_seq (fun Q9 n9 q9 x9 => ?_)
    refine w_blk (fun Q10 n10 q10 b10 x10 => ?_)
    obtain ⟨x1, e12, h⟩ := bindE h
    refine wsf e12 _ ?_
    obtain ⟨x2, e14, h⟩ := bindE h
    rcases condE h with ⟨b15, h⟩ | ⟨b15, h⟩
    ·refine wscf b15 (ok_impl_IsAction x1 _ e14) _ ?_
     refine w_ct rfl ?_
     refine ws _ ?_
     exact w_ret (q10 _ (q9 _ (q5 _ (q4 _ (q2 _ (r0 _ (.inl (w_fin [.bool false] rfl (by cases someE h; rfl) (by decide) outs_nil))))))))
    ·rcases condE h with ⟨b17, h⟩ | ⟨b17, h⟩
     ·obtain ⟨x3, e18, h⟩ := bindE h
      refine wscf (And.intro b15 (And.intro b17 e18)) (ok_impl_IsAction x1 _ e14) _ ?_
      rcases condE h with ⟨b19, h⟩ | ⟨b19, h⟩
      ·refine w_ct (congrArg AV.bool b19) ?_
       simp only [b19, Bool.not_true, Bool.not_false]
       refine ws _ ?_
       exact w_ret (q10 _ (q9 _ (q5 _ (q4 _ (q2 _ (r0 _ (.inl (w_fin [.bool false] rfl (by cases someE h; rfl) (by decide) outs_nil))))))))
      ·refine w_cf (congrArg AV.bool b19) ?_
       simp only [b19, Bool.not_true, Bool.not_false]
       refine w_skip (n10 _ (n9 _ (.inl ?_)))
       refine wr _ ?_
       exact n5 _ (.inr ⟨_, weak_eq rfl, ih6 (IntKind.i64.wrap (v7_6 + 1)) h⟩)
     ·refine wscf (And.intro b15 b17) (ok_impl_IsAction x1 _ e14) _ ?_
      refine w_cf rfl ?_
      refine w_skip (n10 _ (n9 _ (.inl ?_)))
      refine wr _ ?_
      exact n5 _ (.inr ⟨_, weak_eq rfl, ih6 (IntKind.i64.wrap (v7_6 + 1)) h⟩)
   ·refine w_cf (congrArg AV.bool b8) ?_
    simp only [b8, Bool.not_true, Bool.not_false]
    refine w_ex (x7 0 _ (x5 0 _ (b4 _ (n2 _ (.inl ?_)))))
    refine ws _ ?_
    exact w_ret (r0 _ (.inl (w_fin [.bool (decide ((a0.length : Int) ≤ 12))] rfl (by cases someE h; rfl) (by decide) outs_nil)))
 obtain ⟨n, h⟩ := limE h
 exact w_loop (.inr ⟨_, weak_eq rfl, L6 n 0 h⟩)

set_option maxHeartbeats 600000 in
theorem ok_impl_SystemFault (a0 : impl_System) (r : Int) (h : impl_SystemFault a0 = some r) : OkAt Cc 22 [e_impl_System a0] (.int .i64 r) [] := by
 refine OkAt.of_wpR (fx := [0]) Cc_ok [.tmp 2] [(0, e_impl_System a0)] Tryz.func22 rfl rfl s22 (Nat.le_of_ble_eq_true rfl) rfl rfl (fun Q0 r0 n0 => ?_)
 refine ws _ ?_
 refine w_seq (fun Q2 n2 q2 x2 => ?_)
 refine w_blk (fun Q3 n3 q3 b3 x3 => ?_)
 obtain ⟨x1, e5, h⟩ := bindE h
 refine wsc (ok_impl_ValidDefinitions a0.Definitions _ e5) _ ?_
 rcases condE h with ⟨b6, h⟩ | ⟨b6, h⟩
 ·refine w_ct (congrArg AV.bool b6) ?_
  simp only [b6, Bool.not_true, Bool.not_false]
  refine ws _ ?_
  exact w_ret (q3 _ (q2 _ (r0 _ (.inl (w_fin [.int .i64 1] rfl (by cases someE h; rfl) (by decide) outs_nil)))))
 ·refine w_cf (congrArg AV.bool b6) ?_
  simp only [b6, Bool.not_true, Bool.not_false]
  obtain ⟨x2, e9, h⟩ := bindE h
  rcases condE h with ⟨b10, h⟩ | ⟨b10, h⟩
  ·refine wscf b10 (ok_impl_within (a0.Components.length : Int) 1 3 _ e9) _ ?_
   refine w_ct rfl ?_
   refine ws _ ?_
   exact w_ret (q3 _ (q2 _ (r0 _ (.inl (w_fin [.int .i64 2] rfl (by cases someE h; rfl) (by decide) outs_nil)))))
  ·obtain ⟨x3, e12, h⟩ := bindE h
   refine w_sreg (w_abs [(1, .ubox (e_impl_System a0)), (8, .bool x3)] (fun P hP => ?_) ?_)
   ·simp only [V0.down, simprocAttr, zz8.down, b10]
    refine w_call0 (ok_impl_within (a0.Components.length : Int) 1 3 _ e9) rfl rfl rfl rfl (.inl (by rfl)) ?_
    simp only [V0.down, simprocAttr, zz8.down, b10]
    refine w_callg0 (ok_slices_ContainsFunc_impl_Component__impl_SystemFault_c1 a0.Components a0 _ e12) rfl rfl (by simp only [V0.down, simprocAttr, zz8.down, b10, view_s, view_h, viewH_s, share_s, @shares_map _ e_impl_Definition e_impl_Definition (fun _ => sh_e_impl_Definition _), @shares_map _ e_impl_Component e_impl_Component (fun _ => sh_e_impl_Component _), @shares_map _ e_impl_Meeting e_impl_Meeting (fun _ => sh_e_impl_Meeting _), @shares_map _ e_str e_str (fun _ => sh_e_str _), @shares_map _ e_str e_str (fun _ => sh_e_str _)] <;> rfl) rfl (.inr (by rfl)) ?_
    simp only [V0.down, simprocAttr, zz8.down, b10]
    (try simp only [VN.down, simprocAttr, zz16.down, b10] at hP ⊢); exact hP
   rcases condE h with ⟨b13, h⟩ | ⟨b13, h⟩
   ·refine w_ct (congrArg AV.bool b13) ?_
    simp only [b13, Bool.not_true, Bool.not_false]
    refine ws _ ?_
    exact w_ret (q3 _ (q2 _ (r0 _ (.inl (w_fin [.int .i64 2] rfl (by cases someE h; rfl) (by decide) outs_nil)))))
   ·refine w_cf (congrArg AV.bool b13) ?_
    simp only [b13, Bool.not_true, Bool.not_false]
    obtain ⟨x4, e16, h⟩ := bindE h
    refine wsc (ok_impl_meetingsOk a0.Meetings _ e16) _ ?_
    rcases condE h with ⟨b17, h⟩ | ⟨b17, h⟩
    ·refine w_ct (congrArg AV.bool b17) ?_
     simp only [b17, Bool.not_true, Bool.not_false]
     refine ws _ ?_
     exact w_ret (q3 _ (q2 _ (r0 _ (.inl (w_fin [.int .i64 3] rfl (by cases someE h; rfl) (by decide) outs_nil)))))
    ·refine w_cf (congrArg AV.bool b17) ?_
     simp only [b17, Bool.not_true, Bool.not_false]
     obtain ⟨x5, e20, h⟩ := bindE h
     refine wsc (ok_impl_namesOk a0.Allowed _ e20) _ ?_
     rcases condE h with ⟨b21, h⟩ | ⟨b21, h⟩
     ·refine w_ct (congrArg AV.bool b21) ?_
      simp only [b21, Bool.not_true, Bool.not_false]
      refine ws _ ?_
      exact w_ret (q3 _ (q2 _ (r0 _ (.inl (w_fin [.int .i64 4] rfl (by cases someE h; rfl) (by decide) outs_nil)))))
     ·refine w_cf (congrArg AV.bool b21) ?_
      simp only [b21, Bool.not_true, Bool.not_false]
      obtain ⟨x6, e24, h⟩ := bindE h
      refine wsc (ok_impl_namesOk a0.Hidden _ e24) _ ?_
      rcases condE h with ⟨b25, h⟩ | ⟨b25, h⟩
      ·refine w_ct (congrArg AV.bool b25) ?_
       simp only [b25, Bool.not_true, Bool.not_false]
       refine ws _ ?_
       exact w_ret (q3 _ (q2 _ (r0 _ (.inl (w_fin [.int .i64 5] rfl (by cases someE h; rfl) (by decide) outs_nil)))))
      ·refine w_cf (congrArg AV.bool b25) ?_
       simp only [b25, Bool.not_true, Bool.not_false]
       refine w_skip (n3 _ (n2 _ (.inl ?_)))
       refine ws _ ?_
       exact w_ret (r0 _ (.inl (w_fin [.int .i64 0] rfl (by cases someE h; rfl) (by decide) outs_nil)))

theorem ok_impl_ValidSystem (a0 : impl_System) (r : Bool) (h : impl_ValidSystem a0 = some r) : OkAt Cc 25 [e_impl_System a0] (.bool r) [] := by
 refine OkAt.of_wpR (fx := [0]) Cc_ok [.tmp 2] [(0, e_impl_System a0)] Tryz.func25 rfl rfl s25 (Nat.le_of_ble_eq_true rfl) rfl rfl (fun Q0 r0 n0 => ?_)
 refine ws _ ?_
 obtain ⟨x1, e3, h⟩ := bindE h
 refine wsc (ok_impl_SystemFault a0 _ e3) _ ?_
 exact w_ret (r0 _ (.inl (w_fin [.bool (x1 == 0)] rfl (by cases someE h; rfl) (by decide) outs_nil)))

set_option maxHeartbeats 1800000 in
theorem ok_impl_pointOk (a0 : List impl_Definition) (a1 : impl_Point) (r : Bool) (h : impl_pointOk a0 a1 = some r) : OkAt Cc 89 [.slice (a0.map e_impl_Definition), e_impl_Point a1] (.bool r) [] := by
 refine OkAt.of_wpR (fx := [0, 1]) Cc_ok [.tmp 4] [(0, .slice (a0.map e_impl_Definition)), (1, e_impl_Point a1)] Tryz.func89 rfl rfl s89 (Nat.le_of_ble_eq_true rfl) rfl rfl (fun Q0 r0 n0 => ?_)
 refine ws _ ?_
 refine w_seq (fun Q2 n2 q2 x2 => ?_)
 obtain ⟨x1, e4, h⟩ := bindE h
 rcases condE h with ⟨b5, h⟩ | ⟨b5, h⟩
 ·refine w_sdrw rfl (w_absd [(0, .slice (a0.map e_impl_Definition)), (3, .ubox (e_impl_Point a1)), (24, .bool true)] (fun P hP => ?_) ?_)
  ·simp only [V1.down, simprocAttr, zz20.down, b5]
   refine w_call1 (ok_impl_index a1.Definition (a0.length : Int) _ e4) rfl rfl rfl rfl (.inl (by rfl)) ?_
   simp only [V1.down, simprocAttr, zz20.down, b5]
   refine ⟨okP_D (by kernel_rfl), ?_⟩
   (try simp only [VN.down, simprocAttr, zz12.down, b5] at hP ⊢); exact hP
  refine w_ct rfl ?_
  refine ws _ ?_
  exact w_ret (q2 _ (r0 _ (.inl (w_fin [.bool false] rfl (by cases someE h; rfl) (by decide) outs_nil))))
 ·obtain ⟨x2, e7, h⟩ := bindE h
  obtain ⟨x3, e8, h⟩ := bindE h
  refine w_sdrw rfl (w_absd [(0, .slice (a0.map e_impl_Definition)), (3, .ubox (e_impl_Point a1)), (24, .bool (!x3))] (fun P hP => ?_) ?_)
  ·simp only [V1.down, simprocAttr, zz20.down, b5, e7]
   refine w_call1 (ok_impl_index a1.Definition (a0.length : Int) _ e4) rfl rfl rfl rfl (.inl (by rfl)) ?_
   simp only [V1.down, simprocAttr, zz20.down, b5, e7]
   refine w_callg1 (ok_impl_index a1.Part (x2.Body.length : Int) _ e8) rfl rfl rfl rfl (.inl (by rfl)) ?_
   simp only [V1.down, simprocAttr, zz20.down, b5, e7]
   refine ⟨okP_D (by kernel_rfl), ?_⟩
   (try simp only [VN.down, simprocAttr, zz12.down, b5, e7] at hP ⊢); exact hP
  rcases condE h with ⟨b9, h⟩ | ⟨b9, h⟩
  ·refine w_ct (congrArg AV.bool b9) ?_
   simp only [b9, Bool.not_true, Bool.not_false]
   refine ws _ ?_
   exact w_ret (q2 _ (r0 _ (.inl (w_fin [.bool false] rfl (by cases someE h; rfl) (by decide) outs_nil))))
  ·refine w_cf (congrArg AV.bool b9) ?_
   simp only [b9, Bool.not_true, Bool.not_false]
   refine w_skip (n2 _ (.inl ?_))
   refine wsf e7 _ ?_
   obtain ⟨x4, e13, h⟩ := bindE h
   rcases condE h with ⟨b14, h⟩ | ⟨b14, h⟩
   ·obtain ⟨x5, e15, h⟩ := bindE h
    obtain ⟨x6, e16, h⟩ := bindE h
    rcases condE h with ⟨b17, h⟩ | ⟨b17, h⟩
    ·obtain ⟨x7, e18, h⟩ := bindE h
     refine w_sdrw rfl (w_absd [(4, .bool x7)] (fun P hP => ?_) ?_)
     ·simp only [V1.down, simprocAttr, zz21.down, e13, b14, e16, getI_get e16, b17]
      refine w_callg1 (ok_impl_Definition_places x2 _ e15) rfl rfl rfl rfl (.inl (by rfl)) ?_
      simp only [V1.down, simprocAttr, zz21.down, e13, b14, e16, getI_get e16, b17]
      refine w_callg1 (ok_impl_areValues a1.Values _ e18) rfl rfl rfl rfl (.inl (by rfl)) ?_
      simp only [V1.down, simprocAttr, zz21.down, e13, b14, e16, getI_get e16, b17]
      refine ⟨okP_D (by kernel_rfl), ?_⟩
      (try simp only [VN.down, simprocAttr, e_i64, e_impl_Definition, e_impl_Part, e_impl_Point, e_impl_Term, e_impl_place, e_s_impl_Term, e13, b14, e16, getI_get e16, b17] at hP ⊢); exact hP
     exact w_ret (r0 _ (.inl (w_fin [.bool x7] rfl (by cases someE h; rfl) (by decide) outs_nil)))
    ·refine w_sdrw rfl (w_absd [(4, .bool false)] (fun P hP => ?_) ?_)
     ·simp only [V1.down, simprocAttr, zz21.down, e13, b14, e16, getI_get e16, b17]
      refine w_callg1 (ok_impl_Definition_places x2 _ e15) rfl rfl rfl rfl (.inl (by rfl)) ?_
      simp only [V1.down, simprocAttr, zz21.down, e13, b14, e16, getI_get e16, b17]
      refine ⟨okP_D (by kernel_rfl), ?_⟩
      (try simp only [VN.down, simprocAttr, e_i64, e_impl_Definition, e_impl_Part, e_impl_Point, e_impl_Term, e_impl_place, e_s_impl_Term, e13, b14, e16, getI_get e16, b17] at hP ⊢); exact hP
     exact w_ret (r0 _ (.inl (w_fin [.bool false] rfl (by cases someE h; rfl) (by decide) outs_nil)))
   ·refine w_sdrw rfl (w_absd [(4, .bool false)] (fun P hP => ?_) ?_)
    ·simp only [V1.down, simprocAttr, tt2, tt4, tt9, tt22, tt84, tt85, tt131, tt159, tt176, tt178, tt202, tt204, tt205, e_i64, e_impl_Definition, e_impl_Part, e_impl_Point, e_impl_Term, e_s_impl_Term, e13, b14]
     refine ⟨okP_D (by kernel_rfl), ?_⟩
     (try simp only [VN.down, simprocAttr, zz12.down, e13, b14] at hP ⊢); exact hP
    exact w_ret (r0 _ (.inl (w_fin [.bool false] rfl (by cases someE h; rfl) (by decide) outs_nil)))

theorem ok_impl_ValidState_c1_2 (a0 : impl_Point) (a1 : impl_System) (r : Bool) (h : impl_ValidState_c1_2 a0 a1 = some r) : OkAt Cc 88 [e_impl_Point a0, .ref (e_impl_System a1)] (.bool r) [] := by
 refine OkAt.of_wpR (fx := [0, 1]) Cc_ok [.tmp 3] [(0, e_impl_Point a0), (1, .ref (e_impl_System a1))] Tryz.func88 rfl rfl s88 (Nat.le_of_ble_eq_true rfl) rfl rfl (fun Q0 r0 n0 => ?_)
 refine ws _ ?_
 obtain ⟨x1, e3, h⟩ := bindE h
 refine wsc (ok_impl_pointOk a1.Definitions a0 _ e3) _ ?_
 exact w_ret (r0 _ (.inl (w_fin [.bool (!x1)] rfl (by cases someE h; rfl) (by decide) outs_nil)))

theorem ok_slices_IndexFunc_impl_Point__impl_ValidState_c1 (a0 : List impl_Point) (a1 : impl_System) (r : Int) (h : slices_IndexFunc_impl_Point__impl_ValidState_c1 a0 a1 = some r) : OkAt Cc 154 [.slice (a0.map e_impl_Point), .fn 88 [.ref (e_impl_System a1)]] (.int .i64 r) [] := by
 refine OkAt.of_wpR (fx := [0, 1]) Cc_ok [.tmp 4] [(0, .slice (a0.map e_impl_Point)), (1, .fn 88 [.ref (e_impl_System a1)])] Tryz.func154 rfl rfl s154 (Nat.le_of_ble_eq_true rfl) rfl rfl (fun Q0 r0 n0 => ?_)
 refine ws _ ?_
 refine w_seq (fun Q2 n2 q2 x2 => ?_)
 refine ws _ ?_
 refine w_blk (fun Q4 n4 q4 b4 x4 => ?_)
 have L6 : ∀ (n : Nat) (v8_6 : Int), slices_IndexFunc_impl_Point__impl_ValidState_c1_l6 a0 a1 n v8_6 = some r → lpC Cc c154_7 Q4 (stA [(0, .slice (a0.map e_impl_Point)), (1, .fn 88 [.ref (e_impl_System a1)]), (7, .int .i64 (a0.length : Int)), (8, .int .i64 v8_6)]) := by
  intro m6
  induction m6 with
  | zero => intro v8_6 h; cases (show none = some r from h)
  | succ m6 ih6 =>
   intro v8_6 h
   replace h : slices_IndexFunc_impl_Point__impl_ValidState_c1_b6 (slices_IndexFunc_impl_Point__impl_ValidState_c1_l6 a0 a1 m6) a0 a1 v8_6 = some r := h
   refine lpC_step (fun Q5 n5 q5 x5 => ?_)
   refine ws _ ?_
   refine w_seq (fun Q7 n7 q7 x7 => ?_)
   rcases condE h with ⟨b8, h⟩ | ⟨b8, h⟩
   ·refine w_ct (congrArg AV.bool b8) ?_
    simp only [b8, Bool.not_true, Bool.not_false]
    refine w_skip (n7 _ (.inl ?_))
    refine w_seq (fun Q9 n9 q9 x9 => ?_)
    refine w_blk (fun Q10 n10 q10 b10 x10 => ?_)
    refine ws _ ?_
    obtain ⟨x1, e13, h⟩ := bindE h
    obtain ⟨x2, e14, h⟩ := bindE h
    refine wscf e13 (ok_impl_ValidState_c1_2 x1 a1 _ e14) _ ?_
    rcases condE h with ⟨b15, h⟩ | ⟨b15, h⟩
    ·refine w_ct (congrArg AV.bool b15) ?_
     simp only [b15, Bool.not_true, Bool.not_false]
     refine ws _ ?_
     exact w_ret (q10 _ (q9 _ (q5 _ (q4 _ (q2 _ (r0 _ (.inl (w_fin [.int .i64 v8_6] rfl (by cases someE h; rfl) (by decide) outs_nil))))))))
    ·refine w_cf (congrArg AV.bool b15) ?_
     simp only [b15, Bool.not_true, Bool.not_false]
     refine w_skip (n10 _ (n9 _ (.inl ?_)))
     refine wr _ ?_
     exact n5 _ (.inr ⟨_, weak_eq rfl, ih6 (IntKind.i64.wrap (v8_6 + 1)) h⟩)
   ·refine w_cf (congrArg AV.bool b8) ?_
    simp only [b8, Bool.not_true, Bool.not_false]
    refine w_ex (x7 0 _ (x5 0 _ (b4 _ (n2 _ (.inl ?_)))))
    refine ws _ ?_
    exact w_ret (r0 _ (.inl (w_fin [.int .i64 (-1)] rfl (by cases someE h; rfl) (by decide) outs_nil)))
 obtain ⟨n, h⟩ := limE h
 exact w_loop (.inr ⟨_, weak_eq rfl, L6 n 0 h⟩)

theorem ok_slices_ContainsFunc_impl_Point__impl_ValidState_c1 (a0 : List impl_Point) (a1 : impl_System) (r : Bool) (h : slices_ContainsFunc_impl_Point__impl_ValidState_c1 a0 a1 = some r) : OkAt Cc 87 [.slice (a0.map e_impl_Point), .fn 88 [.ref (e_impl_System a1)]] (.bool r) [] := by
 refine OkAt.of_wpR (fx := [0, 1]) Cc_ok [.tmp 4] [(0, .slice (a0.map e_impl_Point)), (1, .fn 88 [.ref (e_impl_System a1)])] Tryz.func87 rfl rfl s87 (Nat.le_of_ble_eq_true rfl) rfl rfl (fun Q0 r0 n0 => ?_)
 refine ws _ ?_
 obtain ⟨x1, e3, h⟩ := bindE h
 refine wsc (ok_slices_IndexFunc_impl_Point__impl_ValidState_c1 a0 a1 _ e3) _ ?_
 exact w_ret (r0 _ (.inl (w_fin [.bool (decide (0 ≤ x1))] rfl (by cases someE h; rfl) (by decide) outs_nil)))

theorem ok_impl_ValidState (a0 : impl_System) (a1 : List impl_Point) (r : Bool) (h : impl_ValidState a0 a1 = some r) : OkAt Cc 37 [e_impl_System a0, .slice (a1.map e_impl_Point)] (.bool r) [] := by
 refine OkAt.of_wpR (fx := [0, 1]) Cc_ok [.tmp 4] [(0, e_impl_System a0), (1, .slice (a1.map e_impl_Point))] Tryz.func37 rfl rfl s37 (Nat.le_of_ble_eq_true rfl) rfl rfl (fun Q0 r0 n0 => ?_)
 refine ws _ ?_
 obtain ⟨x2, e4, h⟩ := bindE h
 rcases condE h with ⟨b5, h⟩ | ⟨b5, h⟩
 ·rcases condE h with ⟨b6, h⟩ | ⟨b6, h⟩
  ·obtain ⟨x3, e7, h⟩ := bindE h
   refine w_sreg (w_abs [(4, .bool (!x3))] (fun P hP => ?_) ?_)
   ·simp only [V0.down, simprocAttr, zz17.down, b5, b6]
    refine w_call0 (ok_impl_ValidSystem a0 _ e4) rfl rfl rfl rfl (.inl (by rfl)) ?_
    simp only [V0.down, simprocAttr, zz17.down, b5, b6]
    refine w_callg0 (ok_slices_ContainsFunc_impl_Point__impl_ValidState_c1 a1 a0 _ e7) rfl rfl (by simp only [V0.down, simprocAttr, zz17.down, b5, b6, view_s, view_h, viewH_s, share_s, @shares_map _ e_impl_Definition e_impl_Definition (fun _ => sh_e_impl_Definition _), @shares_map _ e_impl_Component e_impl_Component (fun _ => sh_e_impl_Component _), @shares_map _ e_impl_Meeting e_impl_Meeting (fun _ => sh_e_impl_Meeting _), @shares_map _ e_str e_str (fun _ => sh_e_str _), @shares_map _ e_str e_str (fun _ => sh_e_str _)] <;> rfl) rfl (.inr (by rfl)) ?_
    simp only [V0.down, simprocAttr, zz17.down, b5, b6]
    (try simp only [VN.down, simprocAttr, zz10.down, b5, b6] at hP ⊢); exact hP
   exact w_ret (r0 _ (.inl (w_fin [.bool (!x3)] rfl (by cases someE h; rfl) (by decide) outs_nil)))
  ·refine wscf (And.intro b5 b6) (ok_impl_ValidSystem a0 _ e4) _ ?_
   exact w_ret (r0 _ (.inl (w_fin [.bool false] rfl (by cases someE h; rfl) (by decide) outs_nil)))
 ·refine wscf b5 (ok_impl_ValidSystem a0 _ e4) _ ?_
  exact w_ret (r0 _ (.inl (w_fin [.bool false] rfl (by cases someE h; rfl) (by decide) outs_nil)))

theorem ok_laws_eqTerm (a0 : impl_Term) (a1 : impl_Term) (r : Bool) (h : laws_eqTerm a0 a1 = some r) : OkAt Cc 222 [e_impl_Term a0, e_impl_Term a1] (.bool r) [] := by
 refine OkAt.of_wpR (fx := [0, 1]) Cc_ok [.tmp 4] [(0, e_impl_Term a0), (1, e_impl_Term a1)] Tryz.func222 rfl rfl s222 (Nat.le_of_ble_eq_true rfl) rfl rfl (fun Q0 r0 n0 => ?_)
 refine ws _ ?_
 refine w_seq (fun Q2 n2 q2 x2 => ?_)
 refine ws _ ?_
 rcases condE h with ⟨b4, h⟩ | ⟨b4, h⟩
 ·refine w_ct (congrArg AV.bool b4) ?_
  simp only [b4, Bool.not_true, Bool.not_false]
  refine ws _ ?_
  exact w_ret (q2 _ (r0 _ (.inl (w_fin [.bool false] rfl (by cases someE h; rfl) (by decide) outs_nil))))
 ·refine w_cf (congrArg AV.bool b4) ?_
  simp only [b4, Bool.not_true, Bool.not_false]
  refine w_skip (n2 _ (.inl ?_))
  refine w_seq (fun Q6 n6 q6 x6 => ?_)
  refine ws _ ?_
  rcases condE h with ⟨b8, h⟩ | ⟨b8, h⟩
  ·refine w_ct (congrArg AV.bool b8) ?_
   simp only [b8, Bool.not_true, Bool.not_false]
   refine ws _ ?_
   exact w_ret (q6 _ (r0 _ (.inl (w_fin [.bool false] rfl (by cases someE h; rfl) (by decide) outs_nil))))
  ·refine w_cf (congrArg AV.bool b8) ?_
   simp only [b8, Bool.not_true, Bool.not_false]
   refine w_skip (n6 _ (.inl ?_))
   refine ws _ ?_
   exact w_ret (r0 _ (.inl (w_fin [.bool true] rfl (by cases someE h; rfl) (by decide) outs_nil)))

set_option maxHeartbeats 800000 in
theorem ok_laws_eqTermS (a0 : List impl_Term) (a1 : List impl_Term) (r : Bool) (h : laws_eqTermS a0 a1 = some r) : OkAt Cc 176 [.slice (a0.map e_impl_Term), .slice (a1.map e_impl_Term)] (.bool r) [] := by
 refine OkAt.of_wpR (fx := [0, 1]) Cc_ok [.tmp 4] [(0, .slice (a0.map e_impl_Term)), (1, .slice (a1.map e_impl_Term))] Tryz.func176 rfl rfl s176 (Nat.le_of_ble_eq_true rfl) rfl rfl (fun Q0 r0 n0 => ?_)
 refine ws _ ?_
 refine w_seq (fun Q2 n2 q2 x2 => ?_)
 refine ws _ ?_
 rcases condE h with ⟨b4, h⟩ | ⟨b4, h⟩
 ·refine w_ct (congrArg AV.bool b4) ?_
  simp only [b4, Bool.not_true, Bool.not_false]
  refine ws _ ?_
  exact w_ret (q2 _ (r0 _ (.inl (w_fin [.bool false] rfl (by cases someE h; rfl) (by decide) outs_nil))))
 ·refine w_cf (congrArg AV.bool b4) ?_
  simp only [b4, Bool.not_true, Bool.not_false]
  refine w_skip (n2 _ (.inl ?_))
  refine w_seq (fun Q6 n6 q6 x6 => ?_)
  refine ws _ ?_
  refine w_blk (fun Q8 n8 q8 b8 x8 => ?_)
  have L14 : ∀ (n : Nat) (v5_14 : Int), laws_eqTermS_l14 a0 a1 n v5_14 = some r → lpC Cc c176_15 Q8 (stA [(0, .slice (a0.map e_impl_Term)), (1, .slice (a1.map e_impl_Term)), (5, .int .i64 v5_14)]) := by
   intro m14
   induction m14 with
   | zero => intro v5_14 h; cases (show none = some r from h)
   | succ m14 ih14 =>
    intro v5_14 h
    replace h : laws_eqTermS_b14 (laws_eqTermS_l14 a0 a1 m14) a0 a1 v5_14 = some r := h
    refine lpC_step (fun Q9 n9 q9 x9 => ?_)
    refine w_seq (fun Q10 n10 q10 x10 => ?_)
    refine ws _ ?_
    rcases condE h with ⟨b12, h⟩ | ⟨b12, h⟩
    ·refine w_ct (congrArg AV.bool b12) ?_
     simp only [b12, Bool.not_true, Bool.not_false]
     refine w_skip (n10 _ (.inl ?_))
     refine w_seq (fun Q13 n13 q13 x13 => ?_)
     refine w_blk (fun Q14 n14 q14 b14 x14 => ?_)
     obtain ⟨x1, e16, h⟩ := bindE h
     obtain ⟨x2, e17, h⟩ := bindE h
     obtain ⟨x3, e18, h⟩ := bindE h
     refine w_sdrw rfl (w_absd [(0, .slice (a0.map e_impl_Term)), (1, .slice (a1.map e_impl_Term)), (5, .int .i64 v5_14), (26, .bool (!x3))] (fun P hP => ?_) ?_)
     ·simp only [V1.down, simprocAttr, zz7.down, e16, e17]
      refine w_call1 (ok_laws_eqTerm x1 x2 _ e18) rfl rfl rfl rfl (.inl (by rfl)) ?_
      simp only [V1.down, simprocAttr, zz7.down, e16, e17]
      refine ⟨okP_D (by kernel_rfl), ?_⟩
      (try simp only [VN.down, simprocAttr, e_impl_Term, e16, e17] at hP ⊢); exact hP
     rcases condE h with ⟨b19, h⟩ | ⟨b19, h⟩
     ·refine w_ct (congrArg AV.bool b19) ?_
      simp only [b19, Bool.not_true, Bool.not_false]
      refine ws _ ?_
      exact w_ret (q14 _ (q13 _ (q9 _ (q8 _ (q6 _ (r0 _ (.inl (w_fin [.bool false] rfl (by cases someE h; rfl) (by decide) outs_nil))))))))
     ·refine w_cf (congrArg AV.bool b19) ?_
      simp only [b19, Bool.not_true, Bool.not_false]
      refine w_skip (n14 _ (n13 _ (.inl ?_)))
      refine wr _ ?_
      exact n9 _ (.inr ⟨_, weak_eq rfl, ih14 (IntKind.i64.wrap (v5_14 + 1)) h⟩)
    ·refine w_cf (congrArg AV.bool b12) ?_
     simp only [b12, Bool.not_true, Bool.not_false]
     refine w_ex (x10 0 _ (x9 0 _ (b8 _ (n6 _ (.inl ?_)))))
     refine ws _ ?_
     exact w_ret (r0 _ (.inl (w_fin [.bool true] rfl (by cases someE h; rfl) (by decide) outs_nil)))
  obtain ⟨n, h⟩ := limE h
  exact w_loop (.inr ⟨_, weak_eq rfl, L14 n 0 h⟩)

set_option maxHeartbeats 800000 in
theorem ok_laws_eqTermSS (a0 : List (List impl_Term)) (a1 : List (List impl_Term)) (r : Bool) (h : laws_eqTermSS a0 a1 = some r) : OkAt Cc 177 [.slice (a0.map e_s_impl_Term), .slice (a1.map e_s_impl_Term)] (.bool r) [] := by
 refine OkAt.of_wpR (fx := [0, 1]) Cc_ok [.tmp 4] [(0, .slice (a0.map e_s_impl_Term)), (1, .slice (a1.map e_s_impl_Term))] Tryz.func177 rfl rfl s177 (Nat.le_of_ble_eq_true rfl) rfl rfl (fun Q0 r0 n0 => ?_)
 refine ws _ ?_
 refine w_seq (fun Q2 n2 q2 x2 => ?_)
 refine ws _ ?_
 rcases condE h with ⟨b4, h⟩ | ⟨b4, h⟩
 ·refine w_ct (congrArg AV.bool b4) ?_
  simp only [b4, Bool.not_true, Bool.not_false]
  refine ws _ ?_
  exact w_ret (q2 _ (r0 _ (.inl (w_fin [.bool false] rfl (by cases someE h; rfl) (by decide) outs_nil))))
 ·refine w_cf (congrArg AV.bool b4) ?_
  simp only [b4, Bool.not_true, Bool.not_false]
  refine w_skip (n2 _ (.inl ?_))
  refine w_seq (fun Q6 n6 q6 x6 => ?_)
  refine ws _ ?_
  refine w_blk (fun Q8 n8 q8 b8 x8 => ?_)
  have L14 : ∀ (n : Nat) (v5_14 : Int), laws_eqTermSS_l14 a0 a1 n v5_14 = some r → lpC Cc c177_15 Q8 (stA [(0, .slice (a0.map e_s_impl_Term)), (1, .slice (a1.map e_s_impl_Term)), (5, .int .i64 v5_14)]) := by
   intro m14
   induction m14 with
   | zero => intro v5_14 h; cases (show none = some r from h)
   | succ m14 ih14 =>
    intro v5_14 h
    replace h : laws_eqTermSS_b14 (laws_eqTermSS_l14 a0 a1 m14) a0 a1 v5_14 = some r := h
    refine lpC_step (fun Q9 n9 q9 x9 => ?_)
    refine w_seq (fun Q10 n10 q10 x10 => ?_)
    refine ws _ ?_
    rcases condE h with ⟨b12, h⟩ | ⟨b12, h⟩
    ·refine w_ct (congrArg AV.bool b12) ?_
     simp only [b12, Bool.not_true, Bool.not_false]
     refine w_skip (n10 _ (.inl ?_))
     refine w_seq (fun Q13 n13 q13 x13 => ?_)
     refine w_blk (fun Q14 n14 q14 b14 x14 => ?_)
     obtain ⟨x1, e16, h⟩ := bindE h
     obtain ⟨x2, e17, h⟩ := bindE h
     obtain ⟨x3, e18, h⟩ := bindE h
     refine w_sdrw rfl (w_absd [(0, .slice (a0.map e_s_impl_Term)), (1, .slice (a1.map e_s_impl_Term)), (5, .int .i64 v5_14), (26, .bool (!x3))] (fun P hP => ?_) ?_)
     ·simp only [V1.down, simprocAttr, tt2, tt84, tt85, tt159, e_impl_Term, e_s_impl_Term, e16, e17]
      refine w_call1 (ok_laws_eqTermS x1 x2 _ e18) rfl rfl rfl rfl (.inl (by rfl)) ?_
      simp only [V1.down, simprocAttr, tt2, tt84, tt85, tt159, e_impl_Term, e_s_impl_Term, e16, e17]
      refine ⟨okP_D (by kernel_rfl), ?_⟩
      (try simp only [VN.down, simprocAttr, e_impl_Term, e_s_impl_Term, e16, e17] at hP ⊢); exact hP
     rcases condE h with ⟨b19, h⟩ | ⟨b19, h⟩
     ·refine w_ct (congrArg AV.bool b19) ?_
      simp only [b19, Bool.not_true, Bool.not_false]
      refine ws _ ?_
      exact w_ret (q14 _ (q13 _ (q9 _ (q8 _ (q6 _ (r0 _ (.inl (w_fin [.bool false] rfl (by cases someE h; rfl) (by decide) outs_nil))))))))
     ·refine w_cf (congrArg AV.bool b19) ?_
      simp only [b19, Bool.not_true, Bool.not_false]
      refine w_skip (n14 _ (n13 _ (.inl ?_)))
      refine wr _ ?_
      exact n9 _ (.inr ⟨_, weak_eq rfl, ih14 (IntKind.i64.wrap (v5_14 + 1)) h⟩)
    ·refine w_cf (congrArg AV.bool b12) ?_
     simp only [b12, Bool.not_true, Bool.not_false]
     refine w_ex (x10 0 _ (x9 0 _ (b8 _ (n6 _ (.inl ?_)))))
     refine ws _ ?_
     exact w_ret (r0 _ (.inl (w_fin [.bool true] rfl (by cases someE h; rfl) (by decide) outs_nil)))
  obtain ⟨n, h⟩ := limE h
  exact w_loop (.inr ⟨_, weak_eq rfl, L14 n 0 h⟩)

theorem ok_laws_eqPart (a0 : impl_Part) (a1 : impl_Part) (r : Bool) (h : laws_eqPart a0 a1 = some r) : OkAt Cc 233 [e_impl_Part a0, e_impl_Part a1] (.bool r) [] := by
 refine OkAt.of_wpR (fx := [0, 1]) Cc_ok [.tmp 4] [(0, e_impl_Part a0), (1, e_impl_Part a1)] Tryz.func233 rfl rfl s233 (Nat.le_of_ble_eq_true rfl) rfl rfl (fun Q0 r0 n0 => ?_)
 refine ws _ ?_
 refine w_seq (fun Q2 n2 q2 x2 => ?_)
 refine ws _ ?_
 rcases condE h with ⟨b4, h⟩ | ⟨b4, h⟩
 ·refine w_ct (congrArg AV.bool b4) ?_
  simp only [b4, Bool.not_true, Bool.not_false]
  refine ws _ ?_
  exact w_ret (q2 _ (r0 _ (.inl (w_fin [.bool false] rfl (by cases someE h; rfl) (by decide) outs_nil))))
 ·refine w_cf (congrArg AV.bool b4) ?_
  simp only [b4, Bool.not_true, Bool.not_false]
  refine w_skip (n2 _ (.inl ?_))
  refine w_seq (fun Q6 n6 q6 x6 => ?_)
  refine ws _ ?_
  rcases condE h with ⟨b8, h⟩ | ⟨b8, h⟩
  ·refine w_ct (congrArg AV.bool b8) ?_
   simp only [b8, Bool.not_true, Bool.not_false]
   refine ws _ ?_
   exact w_ret (q6 _ (r0 _ (.inl (w_fin [.bool false] rfl (by cases someE h; rfl) (by decide) outs_nil))))
  ·refine w_cf (congrArg AV.bool b8) ?_
   simp only [b8, Bool.not_true, Bool.not_false]
   refine w_skip (n6 _ (.inl ?_))
   refine w_seq (fun Q10 n10 q10 x10 => ?_)
   refine ws _ ?_
   rcases condE h with ⟨b12, h⟩ | ⟨b12, h⟩
   ·refine w_ct (congrArg AV.bool b12) ?_
    simp only [b12, Bool.not_true, Bool.not_false]
    refine ws _ ?_
    exact w_ret (q10 _ (r0 _ (.inl (w_fin [.bool false] rfl (by cases someE h; rfl) (by decide) outs_nil))))
   ·refine w_cf (congrArg AV.bool b12) ?_
    simp only [b12, Bool.not_true, Bool.not_false]
    refine w_skip (n10 _ (.inl ?_))
    refine w_seq (fun Q14 n14 q14 x14 => ?_)
    obtain ⟨x1, e16, h⟩ := bindE h
    refine wsc (ok_laws_eqTermSS a0.Arguments a1.Arguments _ e16) _ ?_
    rcases condE h with ⟨b17, h⟩ | ⟨b17, h⟩
    ·refine w_ct (congrArg AV.bool b17) ?_
     simp only [b17, Bool.not_true, Bool.not_false]
     refine ws _ ?_
     exact w_ret (q14 _ (r0 _ (.inl (w_fin [.bool false] rfl (by cases someE h; rfl) (by decide) outs_nil))))
    ·refine w_cf (congrArg AV.bool b17) ?_
     simp only [b17, Bool.not_true, Bool.not_false]
     refine w_skip (n14 _ (.inl ?_))
     refine ws _ ?_
     exact w_ret (r0 _ (.inl (w_fin [.bool true] rfl (by cases someE h; rfl) (by decide) outs_nil)))

set_option maxHeartbeats 800000 in
theorem ok_laws_eqPartS (a0 : List impl_Part) (a1 : List impl_Part) (r : Bool) (h : laws_eqPartS a0 a1 = some r) : OkAt Cc 194 [.slice (a0.map e_impl_Part), .slice (a1.map e_impl_Part)] (.bool r) [] := by
 refine OkAt.of_wpR (fx := [0, 1]) Cc_ok [.tmp 4] [(0, .slice (a0.map e_impl_Part)), (1, .slice (a1.map e_impl_Part))] Tryz.func194 rfl rfl s194 (Nat.le_of_ble_eq_true rfl) rfl rfl (fun Q0 r0 n0 => ?_)
 refine ws _ ?_
 refine w_seq (fun Q2 n2 q2 x2 => ?_)
 refine ws _ ?_
 rcases condE h with ⟨b4, h⟩ | ⟨b4, h⟩
 ·refine w_ct (congrArg AV.bool b4) ?_
  simp only [b4, Bool.not_true, Bool.not_false]
  refine ws _ ?_
  exact w_ret (q2 _ (r0 _ (.inl (w_fin [.bool false] rfl (by cases someE h; rfl) (by decide) outs_nil))))
 ·refine w_cf (congrArg AV.bool b4) ?_
  simp only [b4, Bool.not_true, Bool.not_false]
  refine w_skip (n2 _ (.inl ?_))
  refine w_seq (fun Q6 n6 q6 x6 => ?_)
  refine ws _ ?_
  refine w_blk (fun Q8 n8 q8 b8 x8 => ?_)
  have L14 : ∀ (n : Nat) (v5_14 : Int), laws_eqPartS_l14 a0 a1 n v5_14 = some r → lpC Cc c194_15 Q8 (stA [(0, .slice (a0.map e_impl_Part)), (1, .slice (a1.map e_impl_Part)), (5, .int .i64 v5_14)]) := by
   intro m14
   induction m14 with
   | zero => intro v5_14 h; cases (show none = some r from h)
   | succ m14 ih14 =>
    intro v5_14 h
    replace h : laws_eqPartS_b14 (laws_eqPartS_l14 a0 a1 m14) a0 a1 v5_14 = some r := h
    refine lpC_step (fun Q9 n9 q9 x9 => ?_)
    refine w_seq (fun Q10 n10 q10 x10 => ?_)
    refine ws _ ?_
    rcases condE h with ⟨b12, h⟩ | ⟨b12, h⟩
    ·refine w_ct (congrArg AV.bool b12) ?_
     simp only [b12, Bool.not_true, Bool.not_false]
     refine w_skip (n10 _ (.inl ?_))
     refine w_seq (fun Q13 n13 q13 x13 => ?_)
     refine w_blk (fun Q14 n14 q14 b14 x14 => ?_)
     obtain ⟨x1, e16, h⟩ := bindE h
     obtain ⟨x2, e17, h⟩ := bindE h
     obtain ⟨x3, e18, h⟩ := bindE h
     refine w_sdrw rfl (w_absd [(0, .slice (a0.map e_impl_Part)), (1, .slice (a1.map e_impl_Part)), (5, .int .i64 v5_14), (26, .bool (!x3))] (fun P hP => ?_) ?_)
     ·simp only [V1.down, simprocAttr, zz23.down, e16, e17]
      refine w_call1 (ok_laws_eqPart x1 x2 _ e18) rfl rfl rfl rfl (.inl (by rfl)) ?_
      simp only [V1.down, simprocAttr, zz23.down, e16, e17]
      refine ⟨okP_D (by kernel_rfl), ?_⟩
      (try simp only [VN.down, simprocAttr, zz3.down, e16, e17] at hP ⊢); exact hP
     rcases condE h with ⟨b19, h⟩ | ⟨b19, h⟩
     ·refine w_ct (congrArg AV.bool b19) ?_
      simp only [b19, Bool.not_true, Bool.not_false]
      refine ws _ ?_
      exact w_ret (q14 _ (q13 _ (q9 _ (q8 _ (q6 _ (r0 _ (.inl (w_fin [.bool false] rfl (by cases someE h; rfl) (by decide) outs_nil))))))))
     ·refine w_cf (congrArg AV.bool b19) ?_
      simp only [b19, Bool.not_true, Bool.not_false]
      refine w_skip (n14 _ (n13 _ (.inl ?_)))
      refine wr _ ?_
      exact n9 _ (.inr ⟨_, weak_eq rfl, ih14 (IntKind.i64.wrap (v5_14 + 1)) h⟩)
    ·refine w_cf (congrArg AV.bool b12) ?_
     simp only [b12, Bool.not_true, Bool.not_false]
     refine w_ex (x10 0 _ (x9 0 _ (b8 _ (n6 _ (.inl ?_)))))
     refine ws _ ?_
     exact w_ret (r0 _ (.inl (w_fin [.bool true] rfl (by cases someE h; rfl) (by decide) outs_nil)))
  obtain ⟨n, h⟩ := limE h
  exact w_loop (.inr ⟨_, weak_eq rfl, L14 n 0 h⟩)

theorem ok_laws_eqDefinition (a0 : impl_Definition) (a1 : impl_Definition) (r : Bool) (h : laws_eqDefinition a0 a1 = some r) : OkAt Cc 144 [e_impl_Definition a0, e_impl_Definition a1] (.bool r) [] := by
 refine OkAt.of_wpR (fx := [0, 1]) Cc_ok [.tmp 4] [(0, e_impl_Definition a0), (1, e_impl_Definition a1)] Tryz.func144 rfl rfl s144 (Nat.le_of_ble_eq_true rfl) rfl rfl (fun Q0 r0 n0 => ?_)
 refine ws _ ?_
 refine w_seq (fun Q2 n2 q2 x2 => ?_)
 refine ws _ ?_
 rcases condE h with ⟨b4, h⟩ | ⟨b4, h⟩
 ·refine w_ct (congrArg AV.bool b4) ?_
  simp only [b4, Bool.not_true, Bool.not_false]
  refine ws _ ?_
  exact w_ret (q2 _ (r0 _ (.inl (w_fin [.bool false] rfl (by cases someE h; rfl) (by decide) outs_nil))))
 ·refine w_cf (congrArg AV.bool b4) ?_
  simp only [b4, Bool.not_true, Bool.not_false]
  refine w_skip (n2 _ (.inl ?_))
  refine w_seq (fun Q6 n6 q6 x6 => ?_)
  refine ws _ ?_
  rcases condE h with ⟨b8, h⟩ | ⟨b8, h⟩
  ·refine w_ct (congrArg AV.bool b8) ?_
   simp only [b8, Bool.not_true, Bool.not_false]
   refine ws _ ?_
   exact w_ret (q6 _ (r0 _ (.inl (w_fin [.bool false] rfl (by cases someE h; rfl) (by decide) outs_nil))))
  ·refine w_cf (congrArg AV.bool b8) ?_
   simp only [b8, Bool.not_true, Bool.not_false]
   refine w_skip (n6 _ (.inl ?_))
   refine w_seq (fun Q10 n10 q10 x10 => ?_)
   obtain ⟨x1, e12, h⟩ := bindE h
   refine wsc (ok_laws_eqPartS a0.Body a1.Body _ e12) _ ?_
   rcases condE h with ⟨b13, h⟩ | ⟨b13, h⟩
   ·refine w_ct (congrArg AV.bool b13) ?_
    simp only [b13, Bool.not_true, Bool.not_false]
    refine ws _ ?_
    exact w_ret (q10 _ (r0 _ (.inl (w_fin [.bool false] rfl (by cases someE h; rfl) (by decide) outs_nil))))
   ·refine w_cf (congrArg AV.bool b13) ?_
    simp only [b13, Bool.not_true, Bool.not_false]
    refine w_skip (n10 _ (.inl ?_))
    refine ws _ ?_
    exact w_ret (r0 _ (.inl (w_fin [.bool true] rfl (by cases someE h; rfl) (by decide) outs_nil)))

set_option maxHeartbeats 800000 in
theorem ok_laws_eqDefinitionS (a0 : List impl_Definition) (a1 : List impl_Definition) (r : Bool) (h : laws_eqDefinitionS a0 a1 = some r) : OkAt Cc 71 [.slice (a0.map e_impl_Definition), .slice (a1.map e_impl_Definition)] (.bool r) [] := by
 refine OkAt.of_wpR (fx := [0, 1]) Cc_ok [.tmp 4] [(0, .slice (a0.map e_impl_Definition)), (1, .slice (a1.map e_impl_Definition))] Tryz.func71 rfl rfl s71 (Nat.le_of_ble_eq_true rfl) rfl rfl (fun Q0 r0 n0 => ?_)
 refine ws _ ?_
 refine w_seq (fun Q2 n2 q2 x2 => ?_)
 refine ws _ ?_
 rcases condE h with ⟨b4, h⟩ | ⟨b4, h⟩
 ·refine w_ct (congrArg AV.bool b4) ?_
  simp only [b4, Bool.not_true, Bool.not_false]
  refine ws _ ?_
  exact w_ret (q2 _ (r0 _ (.inl (w_fin [.bool false] rfl (by cases someE h; rfl) (by decide) outs_nil))))
 ·refine w_cf (congrArg AV.bool b4) ?_
  simp only [b4, Bool.not_true, Bool.not_false]
  refine w_skip (n2 _ (.inl ?_))
  refine w_seq (fun Q6 n6 q6 x6 => ?_)
  refine ws _ ?_
  refine w_blk (fun Q8 n8 q8 b8 x8 => ?_)
  have L14 : ∀ (n : Nat) (v5_14 : Int), laws_eqDefinitionS_l14 a0 a1 n v5_14 = some r → lpC Cc c71_15 Q8 (stA [(0, .slice (a0.map e_impl_Definition)), (1, .slice (a1.map e_impl_Definition)), (5, .int .i64 v5_14)]) := by
   intro m14
   induction m14 with
   | zero => intro v5_14 h; cases (show none = some r from h)
   | succ m14 ih14 =>
    intro v5_14 h
    replace h : laws_eqDefinitionS_b14 (laws_eqDefinitionS_l14 a0 a1 m14) a0 a1 v5_14 = some r := h
    refine lpC_step (fun Q9 n9 q9 x9 => ?_)
    refine w_seq (fun Q10 n10 q10 x10 => ?_)
    refine ws _ ?_
    rcases condE h with ⟨b12, h⟩ | ⟨b12, h⟩
    ·refine w_ct (congrArg AV.bool b12) ?_
     simp only [b12, Bool.not_true, Bool.not_false]
     refine w_skip (n10 _ (.inl ?_))
     refine w_seq (fun Q13 n13 q13 x13 => ?_)
     refine w_blk (fun Q14 n14 q14 b14 x14 => ?_)
     obtain ⟨x1, e16, h⟩ := bindE h
     obtain ⟨x2, e17, h⟩ := bindE h
     obtain ⟨x3, e18, h⟩ := bindE h
     refine w_sdrw rfl (w_absd [(0, .slice (a0.map e_impl_Definition)), (1, .slice (a1.map e_impl_Definition)), (5, .int .i64 v5_14), (26, .bool (!x3))] (fun P hP => ?_) ?_)
     ·simp only [V1.down, simprocAttr, zz2.down, e16, e17]
      refine w_call1 (ok_laws_eqDefinition x1 x2 _ e18) rfl rfl rfl rfl (.inl (by rfl)) ?_
      simp only [V1.down, simprocAttr, zz2.down, e16, e17]
      refine ⟨okP_D (by kernel_rfl), ?_⟩
      (try simp only [VN.down, simprocAttr, zz0.down, e16, e17] at hP ⊢); exact hP
     rcases condE h with ⟨b19, h⟩ | ⟨b19, h⟩
     ·refine w_ct (congrArg AV.bool b19) ?_
      simp only [b19, Bool.not_true, Bool.not_false]
      refine ws _ ?_
      exact w_ret (q14 _ (q13 _ (q9 _ (q8 _ (q6 _ (r0 _ (.inl (w_fin [.bool false] rfl (by cases someE h; rfl) (by decide) outs_nil))))))))
     ·refine w_cf (congrArg AV.bool b19) ?_
      simp only [b19, Bool.not_true, Bool.not_false]
      refine w_skip (n14 _ (n13 _ (.inl ?_)))
      refine wr _ ?_
      exact n9 _ (.inr ⟨_, weak_eq rfl, ih14 (IntKind.i64.wrap (v5_14 + 1)) h⟩)
    ·refine w_cf (congrArg AV.bool b12) ?_
     simp only [b12, Bool.not_true, Bool.not_false]
     refine w_ex (x10 0 _ (x9 0 _ (b8 _ (n6 _ (.inl ?_)))))
     refine ws _ ?_
     exact w_ret (r0 _ (.inl (w_fin [.bool true] rfl (by cases someE h; rfl) (by decide) outs_nil)))
  obtain ⟨n, h⟩ := limE h
  exact w_loop (.inr ⟨_, weak_eq rfl, L14 n 0 h⟩)

set_option maxHeartbeats 800000 in
theorem ok_laws_eqInt64S (a0 : List Int) (a1 : List Int) (r : Bool) (h : laws_eqInt64S a0 a1 = some r) : OkAt Cc 14 [.slice (a0.map e_i64), .slice (a1.map e_i64)] (.bool r) [] := by
 refine OkAt.of_wpR (fx := [0, 1]) Cc_ok [.tmp 4] [(0, .slice (a0.map e_i64)), (1, .slice (a1.map e_i64))] Tryz.func14 rfl rfl s14 (Nat.le_of_ble_eq_true rfl) rfl rfl (fun Q0 r0 n0 => ?_)
 refine ws _ ?_
 refine w_seq (fun Q2 n2 q2 x2 => ?_)
 refine ws _ ?_
 rcases condE h with ⟨b4, h⟩ | ⟨b4, h⟩
 ·refine w_ct (congrArg AV.bool b4) ?_
  simp only [b4, Bool.not_true, Bool.not_false]
  refine ws _ ?_
  exact w_ret (q2 _ (r0 _ (.inl (w_fin [.bool false] rfl (by cases someE h; rfl) (by decide) outs_nil))))
 ·refine w_cf (congrArg AV.bool b4) ?_
  simp only [b4, Bool.not_true, Bool.not_false]
  refine w_skip (n2 _ (.inl ?_))
  refine w_seq (fun Q6 n6 q6 x6 => ?_)
  refine ws _ ?_
  refine w_blk (fun Q8 n8 q8 b8 x8 => ?_)
  have L14 : ∀ (n : Nat) (v5_14 : Int), laws_eqInt64S_l14 a0 a1 n v5_14 = some r → lpC Cc c14_15 Q8 (stA [(0, .slice (a0.map e_i64)), (1, .slice (a1.map e_i64)), (5, .int .i64 v5_14)]) := by
   intro m14
   induction m14 with
   | zero => intro v5_14 h; cases (show none = some r from h)
   | succ m14 ih14 =>
    intro v5_14 h
    replace h : laws_eqInt64S_b14 (laws_eqInt64S_l14 a0 a1 m14) a0 a1 v5_14 = some r := h
    refine lpC_step (fun Q9 n9 q9 x9 => ?_)
    refine w_seq (fun Q10 n10 q10 x10 => ?_)
    refine ws _ ?_
    rcases condE h with ⟨b12, h⟩ | ⟨b12, h⟩
    ·refine w_ct (congrArg AV.bool b12) ?_
     simp only [b12, Bool.not_true, Bool.not_false]
     refine w_skip (n10 _ (.inl ?_))
     refine w_seq (fun Q13 n13 q13 x13 => ?_)
     refine w_blk (fun Q14 n14 q14 b14 x14 => ?_)
     obtain ⟨x1, e16, h⟩ := bindE h
     obtain ⟨x2, e17, h⟩ := bindE h
     refine w_sdrw rfl (w_absd [(0, .slice (a0.map e_i64)), (1, .slice (a1.map e_i64)), (5, .int .i64 v5_14), (25, .bool (x1 != x2))] (fun P hP => ?_) ?_)
     ·simp only [V1.down, simprocAttr, tt2, tt22, e_i64, e16, e17]
      refine ⟨okP_D (by kernel_rfl), ?_⟩
      (try simp only [VN.down, simprocAttr, e_i64, e16, e17] at hP ⊢); exact hP
     rcases condE h with ⟨b18, h⟩ | ⟨b18, h⟩
     ·refine w_ct (congrArg AV.bool b18) ?_
      simp only [b18, Bool.not_true, Bool.not_false]
      refine ws _ ?_
      exact w_ret (q14 _ (q13 _ (q9 _ (q8 _ (q6 _ (r0 _ (.inl (w_fin [.bool false] rfl (by cases someE h; rfl) (by decide) outs_nil))))))))
     ·refine w_cf (congrArg AV.bool b18) ?_
      simp only [b18, Bool.not_true, Bool.not_false]
      refine w_skip (n14 _ (n13 _ (.inl ?_)))
      refine wr _ ?_
      exact n9 _ (.inr ⟨_, weak_eq rfl, ih14 (IntKind.i64.wrap (v5_14 + 1)) h⟩)
    ·refine w_cf (congrArg AV.bool b12) ?_
     simp only [b12, Bool.not_true, Bool.not_false]
     refine w_ex (x10 0 _ (x9 0 _ (b8 _ (n6 _ (.inl ?_)))))
     refine ws _ ?_
     exact w_ret (r0 _ (.inl (w_fin [.bool true] rfl (by cases someE h; rfl) (by decide) outs_nil)))
  obtain ⟨n, h⟩ := limE h
  exact w_loop (.inr ⟨_, weak_eq rfl, L14 n 0 h⟩)

theorem ok_laws_eqComponent (a0 : impl_Component) (a1 : impl_Component) (r : Bool) (h : laws_eqComponent a0 a1 = some r) : OkAt Cc 145 [e_impl_Component a0, e_impl_Component a1] (.bool r) [] := by
 refine OkAt.of_wpR (fx := [0, 1]) Cc_ok [.tmp 4] [(0, e_impl_Component a0), (1, e_impl_Component a1)] Tryz.func145 rfl rfl s145 (Nat.le_of_ble_eq_true rfl) rfl rfl (fun Q0 r0 n0 => ?_)
 refine ws _ ?_
 refine w_seq (fun Q2 n2 q2 x2 => ?_)
 refine ws _ ?_
 rcases condE h with ⟨b4, h⟩ | ⟨b4, h⟩
 ·refine w_ct (congrArg AV.bool b4) ?_
  simp only [b4, Bool.not_true, Bool.not_false]
  refine ws _ ?_
  exact w_ret (q2 _ (r0 _ (.inl (w_fin [.bool false] rfl (by cases someE h; rfl) (by decide) outs_nil))))
 ·refine w_cf (congrArg AV.bool b4) ?_
  simp only [b4, Bool.not_true, Bool.not_false]
  refine w_skip (n2 _ (.inl ?_))
  refine w_seq (fun Q6 n6 q6 x6 => ?_)
  obtain ⟨x1, e8, h⟩ := bindE h
  refine wsc (ok_laws_eqInt64S a0.Values a1.Values _ e8) _ ?_
  rcases condE h with ⟨b9, h⟩ | ⟨b9, h⟩
  ·refine w_ct (congrArg AV.bool b9) ?_
   simp only [b9, Bool.not_true, Bool.not_false]
   refine ws _ ?_
   exact w_ret (q6 _ (r0 _ (.inl (w_fin [.bool false] rfl (by cases someE h; rfl) (by decide) outs_nil))))
  ·refine w_cf (congrArg AV.bool b9) ?_
   simp only [b9, Bool.not_true, Bool.not_false]
   refine w_skip (n6 _ (.inl ?_))
   refine ws _ ?_
   exact w_ret (r0 _ (.inl (w_fin [.bool true] rfl (by cases someE h; rfl) (by decide) outs_nil)))

set_option maxHeartbeats 800000 in
theorem ok_laws_eqComponentS (a0 : List impl_Component) (a1 : List impl_Component) (r : Bool) (h : laws_eqComponentS a0 a1 = some r) : OkAt Cc 72 [.slice (a0.map e_impl_Component), .slice (a1.map e_impl_Component)] (.bool r) [] := by
 refine OkAt.of_wpR (fx := [0, 1]) Cc_ok [.tmp 4] [(0, .slice (a0.map e_impl_Component)), (1, .slice (a1.map e_impl_Component))] Tryz.func72 rfl rfl s72 (Nat.le_of_ble_eq_true rfl) rfl rfl (fun Q0 r0 n0 => ?_)
 refine ws _ ?_
 refine w_seq (fun Q2 n2 q2 x2 => ?_)
 refine ws _ ?_
 rcases condE h with ⟨b4, h⟩ | ⟨b4, h⟩
 ·refine w_ct (congrArg AV.bool b4) ?_
  simp only [b4, Bool.not_true, Bool.not_false]
  refine ws _ ?_
  exact w_ret (q2 _ (r0 _ (.inl (w_fin [.bool false] rfl (by cases someE h; rfl) (by decide) outs_nil))))
 ·refine w_cf (congrArg AV.bool b4) ?_
  simp only [b4, Bool.not_true, Bool.not_false]
  refine w_skip (n2 _ (.inl ?_))
  refine w_seq (fun Q6 n6 q6 x6 => ?_)
  refine ws _ ?_
  refine w_blk (fun Q8 n8 q8 b8 x8 => ?_)
  have L14 : ∀ (n : Nat) (v5_14 : Int), laws_eqComponentS_l14 a0 a1 n v5_14 = some r → lpC Cc c72_15 Q8 (stA [(0, .slice (a0.map e_impl_Component)), (1, .slice (a1.map e_impl_Component)), (5, .int .i64 v5_14)]) := by
   intro m14
   induction m14 with
   | zero => intro v5_14 h; cases (show none = some r from h)
   | succ m14 ih14 =>
    intro v5_14 h
    replace h : laws_eqComponentS_b14 (laws_eqComponentS_l14 a0 a1 m14) a0 a1 v5_14 = some r := h
    refine lpC_step (fun Q9 n9 q9 x9 => ?_)
    refine w_seq (fun Q10 n10 q10 x10 => ?_)
    refine ws _ ?_
    rcases condE h with ⟨b12, h⟩ | ⟨b12, h⟩
    ·refine w_ct (congrArg AV.bool b12) ?_
     simp only [b12, Bool.not_true, Bool.not_false]
     refine w_skip (n10 _ (.inl ?_))
     refine w_seq (fun Q13 n13 q13 x13 => ?_)
     refine w_blk (fun Q14 n14 q14 b14 x14 => ?_)
     obtain ⟨x1, e16, h⟩ := bindE h
     obtain ⟨x2, e17, h⟩ := bindE h
     obtain ⟨x3, e18, h⟩ := bindE h
     refine w_sdrw rfl (w_absd [(0, .slice (a0.map e_impl_Component)), (1, .slice (a1.map e_impl_Component)), (5, .int .i64 v5_14), (26, .bool (!x3))] (fun P hP => ?_) ?_)
     ·simp only [V1.down, simprocAttr, tt2, tt22, tt47, tt105, e_i64, e_impl_Component, e16, e17]
      refine w_call1 (ok_laws_eqComponent x1 x2 _ e18) rfl rfl rfl rfl (.inl (by rfl)) ?_
      simp only [V1.down, simprocAttr, tt2, tt22, tt47, tt105, e_i64, e_impl_Component, e16, e17]
      refine ⟨okP_D (by kernel_rfl), ?_⟩
      (try simp only [VN.down, simprocAttr, e_i64, e_impl_Component, e16, e17] at hP ⊢); exact hP
     rcases condE h with ⟨b19, h⟩ | ⟨b19, h⟩
     ·refine w_ct (congrArg AV.bool b19) ?_
      simp only [b19, Bool.not_true, Bool.not_false]
      refine ws _ ?_
      exact w_ret (q14 _ (q13 _ (q9 _ (q8 _ (q6 _ (r0 _ (.inl (w_fin [.bool false] rfl (by cases someE h; rfl) (by decide) outs_nil))))))))
     ·refine w_cf (congrArg AV.bool b19) ?_
      simp only [b19, Bool.not_true, Bool.not_false]
      refine w_skip (n14 _ (n13 _ (.inl ?_)))
      refine wr _ ?_
      exact n9 _ (.inr ⟨_, weak_eq rfl, ih14 (IntKind.i64.wrap (v5_14 + 1)) h⟩)
    ·refine w_cf (congrArg AV.bool b12) ?_
     simp only [b12, Bool.not_true, Bool.not_false]
     refine w_ex (x10 0 _ (x9 0 _ (b8 _ (n6 _ (.inl ?_)))))
     refine ws _ ?_
     exact w_ret (r0 _ (.inl (w_fin [.bool true] rfl (by cases someE h; rfl) (by decide) outs_nil)))
  obtain ⟨n, h⟩ := limE h
  exact w_loop (.inr ⟨_, weak_eq rfl, L14 n 0 h⟩)

theorem ok_laws_eqMeeting (a0 : impl_Meeting) (a1 : impl_Meeting) (r : Bool) (h : laws_eqMeeting a0 a1 = some r) : OkAt Cc 80 [e_impl_Meeting a0, e_impl_Meeting a1] (.bool r) [] := by
 refine OkAt.of_wpR (fx := [0, 1]) Cc_ok [.tmp 4] [(0, e_impl_Meeting a0), (1, e_impl_Meeting a1)] Tryz.func80 rfl rfl s80 (Nat.le_of_ble_eq_true rfl) rfl rfl (fun Q0 r0 n0 => ?_)
 refine ws _ ?_
 refine w_seq (fun Q2 n2 q2 x2 => ?_)
 refine ws _ ?_
 rcases condE h with ⟨b4, h⟩ | ⟨b4, h⟩
 ·refine w_ct (congrArg AV.bool b4) ?_
  simp only [b4, Bool.not_true, Bool.not_false]
  refine ws _ ?_
  exact w_ret (q2 _ (r0 _ (.inl (w_fin [.bool false] rfl (by cases someE h; rfl) (by decide) outs_nil))))
 ·refine w_cf (congrArg AV.bool b4) ?_
  simp only [b4, Bool.not_true, Bool.not_false]
  refine w_skip (n2 _ (.inl ?_))
  refine w_seq (fun Q6 n6 q6 x6 => ?_)
  refine ws _ ?_
  rcases condE h with ⟨b8, h⟩ | ⟨b8, h⟩
  ·refine w_ct (congrArg AV.bool b8) ?_
   simp only [b8, Bool.not_true, Bool.not_false]
   refine ws _ ?_
   exact w_ret (q6 _ (r0 _ (.inl (w_fin [.bool false] rfl (by cases someE h; rfl) (by decide) outs_nil))))
  ·refine w_cf (congrArg AV.bool b8) ?_
   simp only [b8, Bool.not_true, Bool.not_false]
   refine w_skip (n6 _ (.inl ?_))
   refine w_seq (fun Q10 n10 q10 x10 => ?_)
   refine ws _ ?_
   rcases condE h with ⟨b12, h⟩ | ⟨b12, h⟩
   ·refine w_ct (congrArg AV.bool b12) ?_
    simp only [b12, Bool.not_true, Bool.not_false]
    refine ws _ ?_
    exact w_ret (q10 _ (r0 _ (.inl (w_fin [.bool false] rfl (by cases someE h; rfl) (by decide) outs_nil))))
   ·refine w_cf (congrArg AV.bool b12) ?_
    simp only [b12, Bool.not_true, Bool.not_false]
    refine w_skip (n10 _ (.inl ?_))
    refine ws _ ?_
    exact w_ret (r0 _ (.inl (w_fin [.bool true] rfl (by cases someE h; rfl) (by decide) outs_nil)))

set_option maxHeartbeats 800000 in
theorem ok_laws_eqMeetingS (a0 : List impl_Meeting) (a1 : List impl_Meeting) (r : Bool) (h : laws_eqMeetingS a0 a1 = some r) : OkAt Cc 30 [.slice (a0.map e_impl_Meeting), .slice (a1.map e_impl_Meeting)] (.bool r) [] := by
 refine OkAt.of_wpR (fx := [0, 1]) Cc_ok [.tmp 4] [(0, .slice (a0.map e_impl_Meeting)), (1, .slice (a1.map e_impl_Meeting))] Tryz.func30 rfl rfl s30 (Nat.le_of_ble_eq_true rfl) rfl rfl (fun Q0 r0 n0 => ?_)
 refine ws _ ?_
 refine w_seq (fun Q2 n2 q2 x2 => ?_)
 refine ws _ ?_
 rcases condE h with ⟨b4, h⟩ | ⟨b4, h⟩
 ·refine w_ct (congrArg AV.bool b4) ?_
  simp only [b4, Bool.not_true, Bool.not_false]
  refine ws _ ?_
  exact w_ret (q2 _ (r0 _ (.inl (w_fin [.bool false] rfl (by cases someE h; rfl) (by decide) outs_nil))))
 ·refine w_cf (congrArg AV.bool b4) ?_
  simp only [b4, Bool.not_true, Bool.not_false]
  refine w_skip (n2 _ (.inl ?_))
  refine w_seq (fun Q6 n6 q6 x6 => ?_)
  refine ws _ ?_
  refine w_blk (fun Q8 n8 q8 b8 x8 => ?_)
  have L14 : ∀ (n : Nat) (v5_14 : Int), laws_eqMeetingS_l14 a0 a1 n v5_14 = some r → lpC Cc c30_15 Q8 (stA [(0, .slice (a0.map e_impl_Meeting)), (1, .slice (a1.map e_impl_Meeting)), (5, .int .i64 v5_14)]) := by
   intro m14
   induction m14 with
   | zero => intro v5_14 h; cases (show none = some r from h)
   | succ m14 ih14 =>
    intro v5_14 h
    replace h : laws_eqMeetingS_b14 (laws_eqMeetingS_l14 a0 a1 m14) a0 a1 v5_14 = some r := h
    refine lpC_step (fun Q9 n9 q9 x9 => ?_)
    refine w_seq (fun Q10 n10 q10 x10 => ?_)
    refine ws _ ?_
    rcases condE h with ⟨b12, h⟩ | ⟨b12, h⟩
    ·refine w_ct (congrArg AV.bool b12) ?_
     simp only [b12, Bool.not_true, Bool.not_false]
     refine w_skip (n10 _ (.inl ?_))
     refine w_seq (fun Q13 n13 q13 x13 => ?_)
     refine w_blk (fun Q14 n14 q14 b14 x14 => ?_)
     obtain ⟨x1, e16, h⟩ := bindE h
     obtain ⟨x2, e17, h⟩ := bindE h
     obtain ⟨x3, e18, h⟩ := bindE h
     refine w_sdrw rfl (w_absd [(0, .slice (a0.map e_impl_Meeting)), (1, .slice (a1.map e_impl_Meeting)), (5, .int .i64 v5_14), (26, .bool (!x3))] (fun P hP => ?_) ?_)
     ·simp only [V1.down, simprocAttr, zz1.down, e16, e17]
      refine w_call1 (ok_laws_eqMeeting x1 x2 _ e18) rfl rfl rfl rfl (.inl (by rfl)) ?_
      simp only [V1.down, simprocAttr, zz1.down, e16, e17]
      refine ⟨okP_D (by kernel_rfl), ?_⟩
      (try simp only [VN.down, simprocAttr, e_impl_Meeting, e16, e17] at hP ⊢); exact hP
     rcases condE h with ⟨b19, h⟩ | ⟨b19, h⟩
     ·refine w_ct (congrArg AV.bool b19) ?_
      simp only [b19, Bool.not_true, Bool.not_false]
      refine ws _ ?_
      exact w_ret (q14 _ (q13 _ (q9 _ (q8 _ (q6 _ (r0 _ (.inl (w_fin [.bool false] rfl (by cases someE h; rfl) (by decide) outs_nil))))))))
     ·refine w_cf (congrArg AV.bool b19) ?_
      simp only [b19, Bool.not_true, Bool.not_false]
      refine w_skip (n14 _ (n13 _ (.inl ?_)))
      refine wr _ ?_
      exact n9 _ (.inr ⟨_, weak_eq rfl, ih14 (IntKind.i64.wrap (v5_14 + 1)) h⟩)
    ·refine w_cf (congrArg AV.bool b12) ?_
     simp only [b12, Bool.not_true, Bool.not_false]
     refine w_ex (x10 0 _ (x9 0 _ (b8 _ (n6 _ (.inl ?_)))))
     refine ws _ ?_
     exact w_ret (r0 _ (.inl (w_fin [.bool true] rfl (by cases someE h; rfl) (by decide) outs_nil)))
  obtain ⟨n, h⟩ := limE h
  exact w_loop (.inr ⟨_, weak_eq rfl, L14 n 0 h⟩)

set_option maxHeartbeats 800000 in
theorem ok_laws_eqStringS (a0 : List (List UInt8)) (a1 : List (List UInt8)) (r : Bool) (h : laws_eqStringS a0 a1 = some r) : OkAt Cc 73 [.slice (a0.map e_str), .slice (a1.map e_str)] (.bool r) [] := by
 refine OkAt.of_wpR (fx := [0, 1]) Cc_ok [.tmp 4] [(0, .slice (a0.map e_str)), (1, .slice (a1.map e_str))] Tryz.func73 rfl rfl s73 (Nat.le_of_ble_eq_true rfl) rfl rfl (fun Q0 r0 n0 => ?_)
 refine ws _ ?_
 refine w_seq (fun Q2 n2 q2 x2 => ?_)
 refine ws _ ?_
 rcases condE h with ⟨b4, h⟩ | ⟨b4, h⟩
 ·refine w_ct (congrArg AV.bool b4) ?_
  simp only [b4, Bool.not_true, Bool.not_false]
  refine ws _ ?_
  exact w_ret (q2 _ (r0 _ (.inl (w_fin [.bool false] rfl (by cases someE h; rfl) (by decide) outs_nil))))
 ·refine w_cf (congrArg AV.bool b4) ?_
  simp only [b4, Bool.not_true, Bool.not_false]
  refine w_skip (n2 _ (.inl ?_))
  refine w_seq (fun Q6 n6 q6 x6 => ?_)
  refine ws _ ?_
  refine w_blk (fun Q8 n8 q8 b8 x8 => ?_)
  have L14 : ∀ (n : Nat) (v5_14 : Int), laws_eqStringS_l14 a0 a1 n v5_14 = some r → lpC Cc c73_15 Q8 (stA [(0, .slice (a0.map e_str)), (1, .slice (a1.map e_str)), (5, .int .i64 v5_14)]) := by
   intro m14
   induction m14 with
   | zero => intro v5_14 h; cases (show none = some r from h)
   | succ m14 ih14 =>
    intro v5_14 h
    replace h : laws_eqStringS_b14 (laws_eqStringS_l14 a0 a1 m14) a0 a1 v5_14 = some r := h
    refine lpC_step (fun Q9 n9 q9 x9 => ?_)
    refine w_seq (fun Q10 n10 q10 x10 => ?_)
    refine ws _ ?_
    rcases condE h with ⟨b12, h⟩ | ⟨b12, h⟩
    ·refine w_ct (congrArg AV.bool b12) ?_
     simp only [b12, Bool.not_true, Bool.not_false]
     refine w_skip (n10 _ (.inl ?_))
     refine w_seq (fun Q13 n13 q13 x13 => ?_)
     refine w_blk (fun Q14 n14 q14 b14 x14 => ?_)
     obtain ⟨x1, e16, h⟩ := bindE h
     obtain ⟨x2, e17, h⟩ := bindE h
     refine w_sdrw rfl (w_absd [(0, .slice (a0.map e_str)), (1, .slice (a1.map e_str)), (5, .int .i64 v5_14), (25, .bool (!(x1 == x2)))] (fun P hP => ?_) ?_)
     ·simp only [V1.down, simprocAttr, tt9, tt41, e_str, e16, e17]
      refine ⟨okP_D (by kernel_rfl), ?_⟩
      (try simp only [VN.down, simprocAttr, e_str, e16, e17] at hP ⊢); exact hP
     rcases condE h with ⟨b18, h⟩ | ⟨b18, h⟩
     ·refine w_ct (congrArg AV.bool b18) ?_
      simp only [b18, Bool.not_true, Bool.not_false]
      refine ws _ ?_
      exact w_ret (q14 _ (q13 _ (q9 _ (q8 _ (q6 _ (r0 _ (.inl (w_fin [.bool false] rfl (by cases someE h; rfl) (by decide) outs_nil))))))))
     ·refine w_cf (congrArg AV.bool b18) ?_
      simp only [b18, Bool.not_true, Bool.not_false]
      refine w_skip (n14 _ (n13 _ (.inl ?_)))
      refine wr _ ?_
      exact n9 _ (.inr ⟨_, weak_eq rfl, ih14 (IntKind.i64.wrap (v5_14 + 1)) h⟩)
    ·refine w_cf (congrArg AV.bool b12) ?_
     simp only [b12, Bool.not_true, Bool.not_false]
     refine w_ex (x10 0 _ (x9 0 _ (b8 _ (n6 _ (.inl ?_)))))
     refine ws _ ?_
     exact w_ret (r0 _ (.inl (w_fin [.bool true] rfl (by cases someE h; rfl) (by decide) outs_nil)))
  obtain ⟨n, h⟩ := limE h
  exact w_loop (.inr ⟨_, weak_eq rfl, L14 n 0 h⟩)

theorem ok_laws_eqSystem (a0 : impl_System) (a1 : impl_System) (r : Bool) (h : laws_eqSystem a0 a1 = some r) : OkAt Cc 23 [e_impl_System a0, e_impl_System a1] (.bool r) [] := by
 refine OkAt.of_wpR (fx := [0, 1]) Cc_ok [.tmp 4] [(0, e_impl_System a0), (1, e_impl_System a1)] Tryz.func23 rfl rfl s23 (Nat.le_of_ble_eq_true rfl) rfl rfl (fun Q0 r0 n0 => ?_)
 refine ws _ ?_
 refine w_seq (fun Q2 n2 q2 x2 => ?_)
 obtain ⟨x1, e4, h⟩ := bindE h
 refine wsc (ok_laws_eqDefinitionS a0.Definitions a1.Definitions _ e4) _ ?_
 rcases condE h with ⟨b5, h⟩ | ⟨b5, h⟩
 ·refine w_ct (congrArg AV.bool b5) ?_
  simp only [b5, Bool.not_true, Bool.not_false]
  refine ws _ ?_
  exact w_ret (q2 _ (r0 _ (.inl (w_fin [.bool false] rfl (by cases someE h; rfl) (by decide) outs_nil))))
 ·refine w_cf (congrArg AV.bool b5) ?_
  simp only [b5, Bool.not_true, Bool.not_false]
  refine w_skip (n2 _ (.inl ?_))
  refine w_seq (fun Q7 n7 q7 x7 => ?_)
  obtain ⟨x2, e9, h⟩ := bindE h
  refine wsc (ok_laws_eqComponentS a0.Components a1.Components _ e9) _ ?_
  rcases condE h with ⟨b10, h⟩ | ⟨b10, h⟩
  ·refine w_ct (congrArg AV.bool b10) ?_
   simp only [b10, Bool.not_true, Bool.not_false]
   refine ws _ ?_
   exact w_ret (q7 _ (r0 _ (.inl (w_fin [.bool false] rfl (by cases someE h; rfl) (by decide) outs_nil))))
  ·refine w_cf (congrArg AV.bool b10) ?_
   simp only [b10, Bool.not_true, Bool.not_false]
   refine w_skip (n7 _ (.inl ?_))
   refine w_seq (fun Q12 n12 q12 x12 => ?_)
   obtain ⟨x3, e14, h⟩ := bindE h
   refine wsc (ok_laws_eqMeetingS a0.Meetings a1.Meetings _ e14) _ ?_
   rcases condE h with ⟨b15, h⟩ | ⟨b15, h⟩
   ·refine w_ct (congrArg AV.bool b15) ?_
    simp only [b15, Bool.not_true, Bool.not_false]
    refine ws _ ?_
    exact w_ret (q12 _ (r0 _ (.inl (w_fin [.bool false] rfl (by cases someE h; rfl) (by decide) outs_nil))))
   ·refine w_cf (congrArg AV.bool b15) ?_
    simp only [b15, Bool.not_true, Bool.not_false]
    refine w_skip (n12 _ (.inl ?_))
    refine w_seq (fun Q17 n17 q17 x17 => ?_)
    obtain ⟨x4, e19, h⟩ := bindE h
    refine wsc (ok_laws_eqStringS a0.Allowed a1.Allowed _ e19) _ ?_
    rcases condE h with ⟨b20, h⟩ | ⟨b20, h⟩
    ·refine w_ct (congrArg AV.bool b20) ?_
     simp only [b20, Bool.not_true, Bool.not_false]
     refine ws _ ?_
     exact w_ret (q17 _ (r0 _ (.inl (w_fin [.bool false] rfl (by cases someE h; rfl) (by decide) outs_nil))))
    ·refine w_cf (congrArg AV.bool b20) ?_
     simp only [b20, Bool.not_true, Bool.not_false]
     refine w_skip (n17 _ (.inl ?_))
     refine w_seq (fun Q22 n22 q22 x22 => ?_)
     obtain ⟨x5, e24, h⟩ := bindE h
     refine wsc (ok_laws_eqStringS a0.Hidden a1.Hidden _ e24) _ ?_
     rcases condE h with ⟨b25, h⟩ | ⟨b25, h⟩
     ·refine w_ct (congrArg AV.bool b25) ?_
      simp only [b25, Bool.not_true, Bool.not_false]
      refine ws _ ?_
      exact w_ret (q22 _ (r0 _ (.inl (w_fin [.bool false] rfl (by cases someE h; rfl) (by decide) outs_nil))))
     ·refine w_cf (congrArg AV.bool b25) ?_
      simp only [b25, Bool.not_true, Bool.not_false]
      refine w_skip (n22 _ (.inl ?_))
      refine ws _ ?_
      exact w_ret (r0 _ (.inl (w_fin [.bool true] rfl (by cases someE h; rfl) (by decide) outs_nil)))

theorem ok_laws_eqPoint (a0 : impl_Point) (a1 : impl_Point) (r : Bool) (h : laws_eqPoint a0 a1 = some r) : OkAt Cc 90 [e_impl_Point a0, e_impl_Point a1] (.bool r) [] := by
 refine OkAt.of_wpR (fx := [0, 1]) Cc_ok [.tmp 4] [(0, e_impl_Point a0), (1, e_impl_Point a1)] Tryz.func90 rfl rfl s90 (Nat.le_of_ble_eq_true rfl) rfl rfl (fun Q0 r0 n0 => ?_)
 refine ws _ ?_
 refine w_seq (fun Q2 n2 q2 x2 => ?_)
 refine ws _ ?_
 rcases condE h with ⟨b4, h⟩ | ⟨b4, h⟩
 ·refine w_ct (congrArg AV.bool b4) ?_
  simp only [b4, Bool.not_true, Bool.not_false]
  refine ws _ ?_
  exact w_ret (q2 _ (r0 _ (.inl (w_fin [.bool false] rfl (by cases someE h; rfl) (by decide) outs_nil))))
 ·refine w_cf (congrArg AV.bool b4) ?_
  simp only [b4, Bool.not_true, Bool.not_false]
  refine w_skip (n2 _ (.inl ?_))
  refine w_seq (fun Q6 n6 q6 x6 => ?_)
  refine ws _ ?_
  rcases condE h with ⟨b8, h⟩ | ⟨b8, h⟩
  ·refine w_ct (congrArg AV.bool b8) ?_
   simp only [b8, Bool.not_true, Bool.not_false]
   refine ws _ ?_
   exact w_ret (q6 _ (r0 _ (.inl (w_fin [.bool false] rfl (by cases someE h; rfl) (by decide) outs_nil))))
  ·refine w_cf (congrArg AV.bool b8) ?_
   simp only [b8, Bool.not_true, Bool.not_false]
   refine w_skip (n6 _ (.inl ?_))
   refine w_seq (fun Q10 n10 q10 x10 => ?_)
   obtain ⟨x1, e12, h⟩ := bindE h
   refine wsc (ok_laws_eqInt64S a0.Values a1.Values _ e12) _ ?_
   rcases condE h with ⟨b13, h⟩ | ⟨b13, h⟩
   ·refine w_ct (congrArg AV.bool b13) ?_
    simp only [b13, Bool.not_true, Bool.not_false]
    refine ws _ ?_
    exact w_ret (q10 _ (r0 _ (.inl (w_fin [.bool false] rfl (by cases someE h; rfl) (by decide) outs_nil))))
   ·refine w_cf (congrArg AV.bool b13) ?_
    simp only [b13, Bool.not_true, Bool.not_false]
    refine w_skip (n10 _ (.inl ?_))
    refine ws _ ?_
    exact w_ret (r0 _ (.inl (w_fin [.bool true] rfl (by cases someE h; rfl) (by decide) outs_nil)))

set_option maxHeartbeats 800000 in
theorem ok_laws_eqPointS (a0 : List impl_Point) (a1 : List impl_Point) (r : Bool) (h : laws_eqPointS a0 a1 = some r) : OkAt Cc 38 [.slice (a0.map e_impl_Point), .slice (a1.map e_impl_Point)] (.bool r) [] := by
 refine OkAt.of_wpR (fx := [0, 1]) Cc_ok [.tmp 4] [(0, .slice (a0.map e_impl_Point)), (1, .slice (a1.map e_impl_Point))] Tryz.func38 rfl rfl s38 (Nat.le_of_ble_eq_true rfl) rfl rfl (fun Q0 r0 n0 => ?_)
 refine ws _ ?_
 refine w_seq (fun Q2 n2 q2 x2 => ?_)
 refine ws _ ?_
 rcases condE h with ⟨b4, h⟩ | ⟨b4, h⟩
 ·refine w_ct (congrArg AV.bool b4) ?_
  simp only [b4, Bool.not_true, Bool.not_false]
  refine ws _ ?_
  exact w_ret (q2 _ (r0 _ (.inl (w_fin [.bool false] rfl (by cases someE h; rfl) (by decide) outs_nil))))
 ·refine w_cf (congrArg AV.bool b4) ?_
  simp only [b4, Bool.not_true, Bool.not_false]
  refine w_skip (n2 _ (.inl ?_))
  refine w_seq (fun Q6 n6 q6 x6 => ?_)
  refine ws _ ?_
  refine w_blk (fun Q8 n8 q8 b8 x8 => ?_)
  have L14 : ∀ (n : Nat) (v5_14 : Int), laws_eqPointS_l14 a0 a1 n v5_14 = some r → lpC Cc c38_15 Q8 (stA [(0, .slice (a0.map e_impl_Point)), (1, .slice (a1.map e_impl_Point)), (5, .int .i64 v5_14)]) := by
   intro m14
   induction m14 with
   | zero => intro v5_14 h; cases (show none = some r from h)
   | succ m14 ih14 =>
    intro v5_14 h
    replace h : laws_eqPointS_b14 (laws_eqPointS_l14 a0 a1 m14) a0 a1 v5_14 = some r := h
    refine lpC_step (fun Q9 n9 q9 x9 => ?_)
    refine w_seq (fun Q10 n10 q10 x10 => ?_)
    refine ws _ ?_
    rcases condE h with ⟨b12, h⟩ | ⟨b12, h⟩
    ·refine w_ct (congrArg AV.bool b12) ?_
     simp only [b12, Bool.not_true, Bool.not_false]
     refine w_skip (n10 _ (.inl ?_))
     refine w_seq (fun Q13 n13 q13 x13 => ?_)
     refine w_blk (fun Q14 n14 q14 b14 x14 => ?_)
     obtain ⟨x1, e16, h⟩ := bindE h
     obtain ⟨x2, e17, h⟩ := bindE h
     obtain ⟨x3, e18, h⟩ := bindE h
     refine w_sdrw rfl (w_absd [(0, .slice (a0.map e_impl_Point)), (1, .slice (a1.map e_impl_Point)), (5, .int .i64 v5_14), (26, .bool (!x3))] (fun P hP => ?_) ?_)
     ·simp only [V1.down, simprocAttr, tt2, tt22, tt68, tt131, e_i64, e_impl_Point, e16, e17]
      refine w_call1 (ok_laws_eqPoint x1 x2 _ e18) rfl rfl rfl rfl (.inl (by rfl)) ?_
      simp only [V1.down, simprocAttr, tt2, tt22, tt68, tt131, e_i64, e_impl_Point, e16, e17]
      refine ⟨okP_D (by kernel_rfl), ?_⟩
      (try simp only [VN.down, simprocAttr, e_i64, e_impl_Point, e16, e17] at hP ⊢); exact hP
     rcases condE h with ⟨b19, h⟩ | ⟨b19, h⟩
     ·refine w_ct (congrArg AV.bool b19) ?_
      simp only [b19, Bool.not_true, Bool.not_false]
      refine ws _ ?_
      exact w_ret (q14 _ (q13 _ (q9 _ (q8 _ (q6 _ (r0 _ (.inl (w_fin [.bool false] rfl (by cases someE h; rfl) (by decide) outs_nil))))))))
     ·refine w_cf (congrArg AV.bool b19) ?_
      simp only [b19, Bool.not_true, Bool.not_false]
      refine w_skip (n14 _ (n13 _ (.inl ?_)))
      refine wr _ ?_
      exact n9 _ (.inr ⟨_, weak_eq rfl, ih14 (IntKind.i64.wrap (v5_14 + 1)) h⟩)
    ·refine w_cf (congrArg AV.bool b12) ?_
     simp only [b12, Bool.not_true, Bool.not_false]
     refine w_ex (x10 0 _ (x9 0 _ (b8 _ (n6 _ (.inl ?_)))))
     refine ws _ ?_
     exact w_ret (r0 _ (.inl (w_fin [.bool true] rfl (by cases someE h; rfl) (by decide) outs_nil)))
  obtain ⟨n, h⟩ := limE h
  exact w_loop (.inr ⟨_, weak_eq rfl, L14 n 0 h⟩)

set_option maxHeartbeats 1000000 in
theorem ok_laws_FnExactValidState (a0 : laws_System) (a1 : List laws_Point) (r : Bool) (h : laws_FnExactValidState a0 a1 = some r) : OkAt Cc 8 [e_laws_System a0, .slice (a1.map e_laws_Point)] (.bool r) [] := by
 refine OkAt.of_wpR (fx := [0, 1]) Cc_ok [.tmp 4] [(0, e_laws_System a0), (1, .slice (a1.map e_laws_Point))] Tryz.func8 rfl rfl s8 (Nat.le_of_ble_eq_true rfl) rfl rfl (fun Q0 r0 n0 => ?_)
 refine ws _ ?_
 refine ws _ ?_
 obtain ⟨x1, e4, h⟩ := bindE h
 refine wsc (ok_laws_szSystem a0 1048576 _ e4) _ ?_
 refine w_seq (fun Q5 n5 q5 x5 => ?_)
 refine ws _ ?_
 rcases condE h with ⟨b7, h⟩ | ⟨b7, h⟩
 ·refine w_ct (congrArg AV.bool b7) ?_
  simp only [b7, Bool.not_true, Bool.not_false]
  refine ws _ ?_
  exact w_ret (q5 _ (r0 _ (.inl (w_fin [.bool true] rfl (by cases someE h; rfl) (by decide) outs_nil))))
 ·refine w_cf (congrArg AV.bool b7) ?_
  simp only [b7, Bool.not_true, Bool.not_false]
  refine w_skip (n5 _ (.inl ?_))
  obtain ⟨x2, e10, h⟩ := bindE h
  refine wsc (ok_laws_szPointS a1 x1 _ e10) _ ?_
  refine w_seq (fun Q11 n11 q11 x11 => ?_)
  refine ws _ ?_
  rcases condE h with ⟨b13, h⟩ | ⟨b13, h⟩
  ·refine w_ct (congrArg AV.bool b13) ?_
   simp only [b13, Bool.not_true, Bool.not_false]
   refine ws _ ?_
   exact w_ret (q11 _ (r0 _ (.inl (w_fin [.bool true] rfl (by cases someE h; rfl) (by decide) outs_nil))))
  ·refine w_cf (congrArg AV.bool b13) ?_
   simp only [b13, Bool.not_true, Bool.not_false]
   refine w_skip (n11 _ (.inl ?_))
   obtain ⟨x3, e16, h⟩ := bindE h
   obtain ⟨x4, e17, h⟩ := bindE h
   obtain ⟨x5, e18, h⟩ := bindE h
   refine w_sreg (w_abs [(1, .slice (a1.map e_laws_Point)), (2, .ubox (e_laws_System a0)), (6, .bool x5)] (fun P hP => ?_) ?_)
   ·simp only [V0.down, simprocAttr, zz22.down]
    refine w_call0 (ok_laws_toSystem a0 _ e16) rfl rfl rfl rfl (.inl (by rfl)) ?_
    simp only [V0.down, simprocAttr, zz22.down]
    refine w_call0 (ok_laws_toPointS a1 _ e17) rfl rfl rfl rfl (.inl (by rfl)) ?_
    simp only [V0.down, simprocAttr, zz22.down]
    refine w_call0 (ok_spec_ValidState x3 x4 _ e18) rfl rfl (by simp only [V0.down, simprocAttr, zz22.down, view_s, view_h, viewH_s, share_s, @shares_map _ u_impl_Definition e_impl_Definition (fun _ => sh_u_impl_Definition _), @shares_map _ u_impl_Component e_impl_Component (fun _ => sh_u_impl_Component _), @shares_map _ e_impl_Meeting e_impl_Meeting (fun _ => sh_e_impl_Meeting _), @shares_map _ e_str e_str (fun _ => sh_e_str _), @shares_map _ e_str e_str (fun _ => sh_e_str _), @shares_map _ u_impl_Point e_impl_Point (fun _ => sh_u_impl_Point _)] <;> rfl) rfl (.inr (by rfl)) ?_
    simp only [V0.down, simprocAttr, zz22.down]
    (try simp only [VN.down, simprocAttr, zz32.down] at hP ⊢); exact hP
   obtain ⟨x6, e20, h⟩ := bindE h
   refine wsc (ok_laws_toSystem a0 _ e20) _ ?_
   obtain ⟨x7, e22, h⟩ := bindE h
   refine wsc (ok_laws_toPointS a1 _ e22) _ ?_
   obtain ⟨x8, e24, h⟩ := bindE h
   refine w_sreg (w_abs [(1, .slice (a1.map e_laws_Point)), (2, .ubox (e_laws_System a0)), (6, .bool x5), (7, .ubox (u_impl_System x6)), (8, .uslice 3 (x7.map u_impl_Point)), (9, .bool x8)] (fun P hP => ?_) ?_)
   ·simp only [V0.down, simprocAttr, zz33.down]
    refine w_call0 (ok_impl_ValidState x6 x7 _ e24) rfl rfl (by simp only [V0.down, simprocAttr, zz33.down, view_s, view_h, viewH_s, share_s, @shares_map _ u_impl_Definition e_impl_Definition (fun _ => sh_u_impl_Definition _), @shares_map _ u_impl_Component e_impl_Component (fun _ => sh_u_impl_Component _), @shares_map _ e_impl_Meeting e_impl_Meeting (fun _ => sh_e_impl_Meeting _), @shares_map _ e_str e_str (fun _ => sh_e_str _), @shares_map _ e_str e_str (fun _ => sh_e_str _), @shares_map _ u_impl_Point e_impl_Point (fun _ => sh_u_impl_Point _)] <;> rfl) rfl (.inr (by rfl)) ?_
    simp only [V0.down, simprocAttr, zz33.down]
    (try simp only [VN.down, simprocAttr, zz32.down] at hP ⊢); exact hP
   refine w_seq (fun Q25 n25 q25 x25 => ?_)
   refine ws _ ?_
   rcases condE h with ⟨b27, h⟩ | ⟨b27, h⟩
   ·refine w_ct (congrArg AV.bool b27) ?_
    simp only [b27, Bool.not_true, Bool.not_false]
    refine ws _ ?_
    exact w_ret (q25 _ (r0 _ (.inl (w_fin [.bool false] rfl (by cases someE h; rfl) (by decide) outs_nil))))
   ·refine w_cf (congrArg AV.bool b27) ?_
    simp only [b27, Bool.not_true, Bool.not_false]
    refine w_skip (n25 _ (.inl ?_))
    refine w_seq (fun Q29 n29 q29 x29 => ?_)
    obtain ⟨x9, e31, h⟩ := bindE h
    obtain ⟨x10, e32, h⟩ := bindE h
    refine w_sdrw rfl (w_absd [(1, .slice (a1.map e_laws_Point)), (8, .uslice 3 (x7.map u_impl_Point)), (39, .bool (!x10))] (fun P hP => ?_) ?_)
    ·simp only [V1.down, simprocAttr, zz27.down]
     refine w_call1 (ok_laws_toSystem a0 _ e31) rfl rfl rfl rfl (.inl (by rfl)) ?_
     simp only [V1.down, simprocAttr, zz27.down]
     refine w_call1 (ok_laws_eqSystem x6 x9 _ e32) rfl rfl (by simp only [V1.down, simprocAttr, zz27.down, view_s, view_h, viewH_s, share_s, @shares_map _ u_impl_Definition e_impl_Definition (fun _ => sh_u_impl_Definition _), @shares_map _ u_impl_Component e_impl_Component (fun _ => sh_u_impl_Component _), @shares_map _ e_impl_Meeting e_impl_Meeting (fun _ => sh_e_impl_Meeting _), @shares_map _ e_str e_str (fun _ => sh_e_str _), @shares_map _ e_str e_str (fun _ => sh_e_str _), @shares_map _ u_impl_Definition e_impl_Definition (fun _ => sh_u_impl_Definition _), @shares_map _ u_impl_Component e_impl_Component (fun _ => sh_u_impl_Component _), @shares_map _ e_impl_Meeting e_impl_Meeting (fun _ => sh_e_impl_Meeting _), @shares_map _ e_str e_str (fun _ => sh_e_str _), @shares_map _ e_str e_str (fun _ => sh_e_str _)] <;> rfl) rfl (.inr (by rfl)) ?_
     simp only [V1.down, simprocAttr, zz27.down]
     refine ⟨okP_D (by kernel_rfl), ?_⟩
     (try simp only [VN.down, simprocAttr, zz32.down] at hP ⊢); exact hP
    rcases condE h with ⟨b33, h⟩ | ⟨b33, h⟩
    ·refine w_ct (congrArg AV.bool b33) ?_
     simp only [b33, Bool.not_true, Bool.not_false]
     refine ws _ ?_
     exact w_ret (q29 _ (r0 _ (.inl (w_fin [.bool false] rfl (by cases someE h; rfl) (by decide) outs_nil))))
    ·refine w_cf (congrArg AV.bool b33) ?_
     simp only [b33, Bool.not_true, Bool.not_false]
     refine w_skip (n29 _ (.inl ?_))
     refine w_seq (fun Q35 n35 q35 x35 => ?_)
     obtain ⟨x11, e37, h⟩ := bindE h
     obtain ⟨x12, e38, h⟩ := bindE h
     refine w_sreg (w_abs [(44, .bool (!x12))] (fun P hP => ?_) ?_)
     ·simp only [V0.down, simprocAttr, zz15.down]
      refine w_call0 (ok_laws_toPointS a1 _ e37) rfl rfl rfl rfl (.inl (by rfl)) ?_
      simp only [V0.down, simprocAttr, zz15.down]
      refine w_call0 (ok_laws_eqPointS x7 x11 _ e38) rfl rfl (by simp only [V0.down, simprocAttr, zz15.down, view_s, view_h, viewH_s, share_s, @shares_map _ u_impl_Point e_impl_Point (fun _ => sh_u_impl_Point _), @shares_map _ u_impl_Point e_impl_Point (fun _ => sh_u_impl_Point _)] <;> rfl) rfl (.inr (by rfl)) ?_
      simp only [V0.down, simprocAttr, zz15.down]
      (try simp only [VN.down, simprocAttr, zz15.down] at hP ⊢); exact hP
     rcases condE h with ⟨b39, h⟩ | ⟨b39, h⟩
     ·refine w_ct (congrArg AV.bool b39) ?_
      simp only [b39, Bool.not_true, Bool.not_false]
      refine ws _ ?_
      exact w_ret (q35 _ (r0 _ (.inl (w_fin [.bool false] rfl (by cases someE h; rfl) (by decide) outs_nil))))
     ·refine w_cf (congrArg AV.bool b39) ?_
      simp only [b39, Bool.not_true, Bool.not_false]
      refine w_skip (n35 _ (.inl ?_))
      refine ws _ ?_
      exact w_ret (r0 _ (.inl (w_fin [.bool true] rfl (by cases someE h; rfl) (by decide) outs_nil)))

end Go.Proofs.YtobljppjkklojaaGreat
