/- Part of a proof that a law returns true for every input. No condition. -/
import Derived.Test.YtobljppjkklojaaSl
namespace Go.Proofs.Ytobljppjkklojaa
open Go Go.Fw Go.Sh
set_option maxRecDepth 100000
set_option linter.unusedSimpArgs false
set_option linter.unusedVariables false

def ZZ := PLift.up (And.intro @tt2 (And.intro @tt36 (And.intro @tt40 (And.intro @tt68 (And.intro @tt131 (And.intro @tt133 (And.intro @e_i64.eq_1 (And.intro @e_impl_Term.eq_1 @e_laws_Term.eq_1))))))))
theorem ws {Q : Exit → St → Prop} {l : List (Nat × AV)} {ros : List RO} {k : List Nat} {b : SC} (l' : List (Nat × AV)) (hk : wpC Cc b Q (stA l')) (h : ∀ P : List (Nat × AV) → Prop, P l' → wpT Cc (stA l) ros none (fun _ s => P (kpA k s)) := by
  intro P hP
  simp only [V0.down, simprocAttr, ZZ.down]
  (try simp only [VN.down, simprocAttr, ZZ.down] at hP ⊢)
  exact hP) : wpC Cc (.seq (.reg ros (some k)) b) Q (stA l) :=
  w_sreg (w_abs l' (h) hk)
theorem wsc {Q : Exit → St → Prop} {l : List (Nat × AV)} {ros : List RO} {k : List Nat} {b : SC} {g : FuncId} {ds : List AV} {r : AV} (ok : OkAt Cc g ds r []) (l' : List (Nat × AV)) (hk : wpC Cc b Q (stA l')) (h : OkAt Cc g ds r [] → ∀ P : List (Nat × AV) → Prop, P l' → wpT Cc (stA l) ros none (fun _ s => P (kpA k s)) := by
  intro okk P hP
  (try simp only [V0.down, simprocAttr, ZZ.down])
  refine w_call0 okk rfl rfl rfl rfl (.inl (by rfl)) ?_
  simp only [V0.down, simprocAttr, ZZ.down]
  (try simp only [VN.down, simprocAttr, ZZ.down] at hP ⊢)
  exact hP) : wpC Cc (.seq (.reg ros (some k)) b) Q (stA l) :=
  w_sreg (w_abs l' (h ok) hk)
theorem wsf {F : Prop} (hF : F) {Q : Exit → St → Prop} {l : List (Nat × AV)} {ros : List RO} {k : List Nat} {b : SC} (l' : List (Nat × AV)) (hk : wpC Cc b Q (stA l')) (h : F → ∀ P : List (Nat × AV) → Prop, P l' → wpT Cc (stA l) ros none (fun _ s => P (kpA k s)) := by
  intro hF P hP
  simp only [V0.down, simprocAttr, ZZ.down, hF]
  (try simp only [VN.down, simprocAttr, ZZ.down, hF] at hP ⊢)
  exact hP) : wpC Cc (.seq (.reg ros (some k)) b) Q (stA l) :=
  w_sreg (w_abs l' (h hF) hk)
theorem wscf {F : Prop} (hF : F) {Q : Exit → St → Prop} {l : List (Nat × AV)} {ros : List RO} {k : List Nat} {b : SC} {g : FuncId} {ds : List AV} {r : AV} (ok : OkAt Cc g ds r []) (l' : List (Nat × AV)) (hk : wpC Cc b Q (stA l')) (h : OkAt Cc g ds r [] → F → ∀ P : List (Nat × AV) → Prop, P l' → wpT Cc (stA l) ros none (fun _ s => P (kpA k s)) := by
  intro okk hF P hP
  (try simp only [V0.down, simprocAttr, ZZ.down, hF])
  refine w_call0 okk rfl rfl rfl rfl (.inl (by rfl)) ?_
  simp only [V0.down, simprocAttr, ZZ.down, hF]
  (try simp only [VN.down, simprocAttr, ZZ.down, hF] at hP ⊢)
  exact hP) : wpC Cc (.seq (.reg ros (some k)) b) Q (stA l) :=
  w_sreg (w_abs l' (h ok hF) hk)
theorem wr {Q : Exit → St → Prop} {l : List (Nat × AV)} {ros : List RO} {k : List Nat} (l' : List (Nat × AV)) (hk : Q .normal (stA l')) (h : ∀ P : List (Nat × AV) → Prop, P l' → wpT Cc (stA l) ros none (fun _ s => P (kpA k s)) := by
  intro P hP
  simp only [V0.down, simprocAttr, ZZ.down]
  (try simp only [VN.down, simprocAttr, ZZ.down] at hP ⊢)
  exact hP) : wpC Cc (.reg ros (some k)) Q (stA l) :=
  w_reg (w_abs l' (h) hk)
theorem wrc {Q : Exit → St → Prop} {l : List (Nat × AV)} {ros : List RO} {k : List Nat} {g : FuncId} {ds : List AV} {r : AV} (ok : OkAt Cc g ds r []) (l' : List (Nat × AV)) (hk : Q .normal (stA l')) (h : OkAt Cc g ds r [] → ∀ P : List (Nat × AV) → Prop, P l' → wpT Cc (stA l) ros none (fun _ s => P (kpA k s)) := by
  intro okk P hP
  (try simp only [V0.down, simprocAttr, ZZ.down])
  refine w_call0 okk rfl rfl rfl rfl (.inl (by rfl)) ?_
  simp only [V0.down, simprocAttr, ZZ.down]
  (try simp only [VN.down, simprocAttr, ZZ.down] at hP ⊢)
  exact hP) : wpC Cc (.reg ros (some k)) Q (stA l) :=
  w_reg (w_abs l' (h ok) hk)
theorem wrf {F : Prop} (hF : F) {Q : Exit → St → Prop} {l : List (Nat × AV)} {ros : List RO} {k : List Nat} (l' : List (Nat × AV)) (hk : Q .normal (stA l')) (h : F → ∀ P : List (Nat × AV) → Prop, P l' → wpT Cc (stA l) ros none (fun _ s => P (kpA k s)) := by
  intro hF P hP
  simp only [V0.down, simprocAttr, ZZ.down, hF]
  (try simp only [VN.down, simprocAttr, ZZ.down, hF] at hP ⊢)
  exact hP) : wpC Cc (.reg ros (some k)) Q (stA l) :=
  w_reg (w_abs l' (h hF) hk)
theorem wrcf {F : Prop} (hF : F) {Q : Exit → St → Prop} {l : List (Nat × AV)} {ros : List RO} {k : List Nat} {g : FuncId} {ds : List AV} {r : AV} (ok : OkAt Cc g ds r []) (l' : List (Nat × AV)) (hk : Q .normal (stA l')) (h : OkAt Cc g ds r [] → F → ∀ P : List (Nat × AV) → Prop, P l' → wpT Cc (stA l) ros none (fun _ s => P (kpA k s)) := by
  intro okk hF P hP
  (try simp only [V0.down, simprocAttr, ZZ.down, hF])
  refine w_call0 okk rfl rfl rfl rfl (.inl (by rfl)) ?_
  simp only [V0.down, simprocAttr, ZZ.down, hF]
  (try simp only [VN.down, simprocAttr, ZZ.down, hF] at hP ⊢)
  exact hP) : wpC Cc (.reg ros (some k)) Q (stA l) :=
  w_reg (w_abs l' (h ok hF) hk)
def zz0 := PLift.up (And.intro @e_i64.eq_1 (And.intro @e_impl_Term.eq_1 @e_laws_Term.eq_1))
def zz1 := PLift.up (And.intro @e_i64.eq_1 @e_laws_Term.eq_1)
def zz2 := PLift.up (And.intro @tt2 (And.intro @tt40 (And.intro @tt131 @e_impl_Term.eq_1)))

theorem ok_laws_szTermS (a0 : List laws_Term) (a1 : Int) (r : Int) (h : laws_szTermS a0 a1 = some r) : OkAt Cc 31 [.slice (a0.map e_laws_Term), .int .i64 a1] (.int .i64 r) [] := by
 refine OkAt.of_wpR (fx := [0]) Cc_ok [.tmp 4] [(0, .slice (a0.map e_laws_Term)), (1, .int .i64 a1)] Try.func31 rfl rfl s31 (Nat.le_of_ble_eq_true rfl) rfl rfl (fun Q0 r0 n0 => ?_)
 refine ws _ ?_
 refine ws _ ?_
 refine w_seq (fun Q3 n3 q3 x3 => ?_)
 refine ws _ ?_
 rcases condE h with ⟨b5, h⟩ | ⟨b5, h⟩
 ·refine w_ct (congrArg AV.bool b5) ?_
  simp only [b5, Bool.not_true, Bool.not_false]
  refine ws _ ?_
  exact w_ret (q3 _ (r0 _ (.inl (w_fin [.int .i64 (-1)] rfl (by cases someE h; rfl) (by decide) outs_nil))))
 ·refine w_cf (congrArg AV.bool b5) ?_
  simp only [b5, Bool.not_true, Bool.not_false]
  refine w_skip (n3 _ (.inl ?_))
  refine ws _ ?_
  exact w_ret (r0 _ (.inl (w_fin [.int .i64 (IntKind.i64.wrap (a1 - (a0.length : Int)))] rfl (by cases someE h; rfl) (by decide) outs_nil)))

theorem ok_laws_toTerm (a0 : laws_Term) (r : impl_Term) (h : laws_toTerm a0 = some r) : OkAt Cc 107 [e_laws_Term a0] (e_impl_Term r) [] := by
 refine OkAt.of_wpR (fx := [0]) Cc_ok [.cell 2 131] [(0, e_laws_Term a0)] Try.func107 rfl rfl s107 (Nat.le_of_ble_eq_true rfl) rfl rfl (fun Q0 r0 n0 => ?_)
 refine ws _ ?_
 refine ws _ ?_
 refine ws _ ?_
 refine ws _ ?_
 refine ws _ ?_
 exact w_ret (r0 _ (.inl (w_fin [e_impl_Term (impl_Term.mk a0.Kind a0.Value)] rfl (by cases someE h; rfl) (by decide) outs_nil)))

theorem ok_laws_toTermS (a0 : List laws_Term) (r : (List impl_Term)) (h : laws_toTermS a0 = some r) : OkAt Cc 33 [.slice (a0.map e_laws_Term)] (.uslice 2 (r.map e_impl_Term)) [] := by
 refine OkAt.of_wpR (fx := [0]) Cc_ok [.tmp 2] [(0, .slice (a0.map e_laws_Term))] Try.func33 rfl rfl s33 (Nat.le_of_ble_eq_true rfl) rfl rfl (fun Q0 r0 n0 => ?_)
 refine ws _ ?_
 obtain ⟨u18, e3, h⟩ := bindE h
 refine w_sreg (w_abs [(0, .slice (a0.map e_laws_Term)), (3, .uslice 2 ((List.replicate (Int.toNat (a0.length : Int)) (impl_Term.mk 0 0)).map e_impl_Term))] (fun P hP => ?_) ?_)
 ·simp only [V0.down, simprocAttr, tt2, tt36, tt40, tt131, tt133, e_impl_Term, e_laws_Term, (mkOkE e3).1, (mkOkE e3).2.1, (mkOkE e3).2.2, mks, List.map_replicate, -Int.reduceNatCast']
  (try simp only [VN.down, simprocAttr, e_impl_Term, e_laws_Term, (mkOkE e3).1, (mkOkE e3).2.1, (mkOkE e3).2.2, mks, List.map_replicate, -Int.reduceNatCast'] at hP ⊢); exact hP
 refine w_seq (fun Q4 n4 q4 x4 => ?_)
 refine ws [(0, .slice (a0.map e_laws_Term)), (3, .uslice 2 ((List.replicate (Int.toNat (a0.length : Int)) (impl_Term.mk 0 0)).map e_impl_Term)), (4, .int .i64 0)] ?_
 refine w_blk (fun Q6 n6 q6 b6 x6 => ?_)
 have L8 : ∀ (n : Nat) (v3_8 : List impl_Term) (v4_8 : Int), laws_toTermS_l8 a0 n v3_8 v4_8 = some r → lpC Cc c33_9 Q6 (stA [(0, .slice (a0.map e_laws_Term)), (3, .uslice 2 (v3_8.map e_impl_Term)), (4, .int .i64 v4_8)]) := by
  intro m8
  induction m8 with
  | zero => intro v3_8 v4_8 h; cases (show none = some r from h)
  | succ m8 ih8 =>
   intro v3_8 v4_8 h
   replace h : laws_toTermS_b8 (laws_toTermS_l8 a0 m8) a0 v3_8 v4_8 = some r := h
   refine lpC_step (fun Q7 n7 q7 x7 => ?_)
   refine w_seq (fun Q8 n8 q8 x8 => ?_)
   refine ws _ ?_
   rcases condE h with ⟨b10, h⟩ | ⟨b10, h⟩
   ·refine w_ct (congrArg AV.bool b10) ?_
    simp only [b10, Bool.not_true, Bool.not_false]
    refine w_skip (n8 _ (.inl ?_))
    refine w_seq (fun Q11 n11 q11 x11 => ?_)
    refine w_blk (fun Q12 n12 q12 b12 x12 => ?_)
    obtain ⟨x1, e14, h⟩ := bindE h
    obtain ⟨x2, e15, h⟩ := bindE h
    obtain ⟨x3, e16, h⟩ := bindE h
    refine w_reg (w_abs [(0, .slice (a0.map e_laws_Term)), (3, .uslice 2 ((List.set v3_8 (Int.toNat v4_8) x2).map e_impl_Term)), (4, .int .i64 v4_8)] (fun P hP => ?_) ?_)
    ·simp only [V0.down, simprocAttr, tt2, tt36, tt40, tt131, tt133, e_impl_Term, e_laws_Term, e14, e16, getI_get e16, own_s, stoS]
     refine w_call0 (ok_laws_toTerm x1 _ e15) rfl rfl rfl rfl (.inl (by rfl)) ?_
     simp only [V0.down, simprocAttr, tt2, tt36, tt40, tt131, tt133, e_impl_Term, e_laws_Term, e14, e16, getI_get e16, own_s, stoS]
     (try simp only [VN.down, simprocAttr, e_impl_Term, e_laws_Term, e14, e16, getI_get e16, own_s, stoS] at hP ⊢); exact hP
    refine n12 _ (n11 _ (.inl ?_))
    refine wr [(0, .slice (a0.map e_laws_Term)), (3, .uslice 2 ((List.set v3_8 (Int.toNat v4_8) x2).map e_impl_Term)), (4, .int .i64 (IntKind.i64.wrap (v4_8 + 1)))] ?_
    exact n7 _ (.inr ⟨_, weak_eq rfl, ih8 (List.set v3_8 (Int.toNat v4_8) x2) (IntKind.i64.wrap (v4_8 + 1)) h⟩)
   ·refine w_cf (congrArg AV.bool b10) ?_
    simp only [b10, Bool.not_true, Bool.not_false]
    refine w_ex (x8 0 _ (x7 0 _ (b6 _ (n4 _ (.inl ?_)))))
    refine ws _ ?_
    exact w_ret (r0 _ (.inl (w_fin [.uslice 2 (v3_8.map e_impl_Term)] rfl (by cases someE h; rfl) (by decide) outs_nil)))
 obtain ⟨n, h⟩ := limE h
 exact w_loop (.inr ⟨_, weak_eq rfl, L8 n (List.replicate (Int.toNat (a0.length : Int)) (impl_Term.mk 0 0)) 0 h⟩)

theorem ok_spec_l00In (a0 : Int) (a1 : Int) (a2 : Int) (r : Bool) (h : spec_l00In a0 a1 a2 = some r) : OkAt Cc 130 [.int .i64 a0, .int .i64 a1, .int .i64 a2] (.bool r) [] := by
 refine OkAt.of_wpR (fx := [0, 1, 2]) Cc_ok [.tmp 6] [(0, .int .i64 a0), (1, .int .i64 a1), (2, .int .i64 a2)] Try.func130 rfl rfl s130 (Nat.le_of_ble_eq_true rfl) rfl rfl (fun Q0 r0 n0 => ?_)
 refine ws _ ?_
 refine w_sreg (w_abs [(6, .bool ((decide (a1 ≤ a0)) && (decide (a0 ≤ a2))))] (fun P hP => ?_) ?_)
 ·rcases Bool.eq_false_or_eq_true (decide (a1 ≤ a0)) with s3 | s3
  ·simp only [V0.down, simprocAttr, s3]
   (try simp only [VN.down, simprocAttr, s3] at hP ⊢); exact hP
  ·simp only [V0.down, simprocAttr, s3]
   (try simp only [VN.down, simprocAttr, s3] at hP ⊢); exact hP
 exact w_ret (r0 _ (.inl (w_fin [.bool ((decide (a1 ≤ a0)) && (decide (a0 ≤ a2)))] rfl (by cases someE h; rfl) (by decide) outs_nil)))

theorem ok_spec_l03Term (a0 : impl_Term) (a1 : Int) (r : Bool) (h : spec_l03Term a0 a1 = some r) : OkAt Cc 268 [.ref (e_impl_Term a0), .int .i64 a1] (.bool r) [] := by
 refine OkAt.of_wpR (fx := [0, 1]) Cc_ok [.tmp 4] [(0, .ref (e_impl_Term a0)), (1, .int .i64 a1)] Try.func268 rfl rfl s268 (Nat.le_of_ble_eq_true rfl) rfl rfl (fun Q0 r0 n0 => ?_)
 refine ws _ ?_
 refine w_seq (fun Q2 n2 q2 x2 => ?_)
 refine ws _ ?_
 refine w_blk (fun Q4 n4 q4 b4 x4 => ?_)
 refine ws _ ?_
 rcases condE h with ⟨b6, h⟩ | ⟨b6, h⟩
 ·refine w_ct (congrArg AV.bool b6) ?_
  simp only [b6, Bool.not_true, Bool.not_false]
  obtain ⟨x1, e8, h⟩ := bindE h
  refine wsc (ok_spec_l00In a0.Value 0 63 _ e8) _ ?_
  exact w_ret (q4 _ (q2 _ (r0 _ (.inl (w_fin [.bool x1] rfl (by cases someE h; rfl) (by decide) outs_nil)))))
 ·refine w_cf (congrArg AV.bool b6) ?_
  simp only [b6, Bool.not_true, Bool.not_false]
  refine ws _ ?_
  rcases condE h with ⟨b10, h⟩ | ⟨b10, h⟩
  ·refine w_ct (congrArg AV.bool b10) ?_
   simp only [b10, Bool.not_true, Bool.not_false]
   obtain ⟨x2, e12, h⟩ := bindE h
   refine wsc (ok_spec_l00In a0.Value 0 (IntKind.i64.wrap (a1 - 1)) _ e12) _ ?_
   exact w_ret (q4 _ (q2 _ (r0 _ (.inl (w_fin [.bool x2] rfl (by cases someE h; rfl) (by decide) outs_nil)))))
  ·refine w_cf (congrArg AV.bool b10) ?_
   simp only [b10, Bool.not_true, Bool.not_false]
   refine ws _ ?_
   rcases condE h with ⟨b14, h⟩ | ⟨b14, h⟩
   ·refine w_ct (congrArg AV.bool b14) ?_
    simp only [b14, Bool.not_true, Bool.not_false]
    obtain ⟨x3, e16, h⟩ := bindE h
    refine wsc (ok_spec_l00In a0.Value 0 8 _ e16) _ ?_
    exact w_ret (q4 _ (q2 _ (r0 _ (.inl (w_fin [.bool x3] rfl (by cases someE h; rfl) (by decide) outs_nil)))))
   ·refine w_cf (congrArg AV.bool b14) ?_
    simp only [b14, Bool.not_true, Bool.not_false]
    refine ws _ ?_
    rcases condE h with ⟨b18, h⟩ | ⟨b18, h⟩
    ·refine w_ct (congrArg AV.bool b18) ?_
     simp only [b18, Bool.not_true, Bool.not_false]
     refine ws _ ?_
     exact w_ret (q4 _ (q2 _ (r0 _ (.inl (w_fin [.bool (a0.Value == 0)] rfl (by cases someE h; rfl) (by decide) outs_nil)))))
    ·refine w_cf (congrArg AV.bool b18) ?_
     simp only [b18, Bool.not_true, Bool.not_false]
     refine w_skip (n4 _ (n2 _ (.inl ?_)))
     refine ws _ ?_
     exact w_ret (r0 _ (.inl (w_fin [.bool false] rfl (by cases someE h; rfl) (by decide) outs_nil)))

theorem ok_spec_l03Arity (a0 : impl_Term) (r : Int) (h : spec_l03Arity a0 = some r) : OkAt Cc 196 [.ref (e_impl_Term a0)] (.int .i64 r) [] := by
 refine OkAt.of_wpR (fx := [0]) Cc_ok [.tmp 2] [(0, .ref (e_impl_Term a0))] Try.func196 rfl rfl s196 (Nat.le_of_ble_eq_true rfl) rfl rfl (fun Q0 r0 n0 => ?_)
 refine ws _ ?_
 refine w_seq (fun Q2 n2 q2 x2 => ?_)
 refine ws _ ?_
 refine w_blk (fun Q4 n4 q4 b4 x4 => ?_)
 refine ws _ ?_
 rcases condE h with ⟨b6, h⟩ | ⟨b6, h⟩
 ·refine w_ct (congrArg AV.bool b6) ?_
  simp only [b6, Bool.not_true, Bool.not_false]
  refine ws _ ?_
  exact w_ret (q4 _ (q2 _ (r0 _ (.inl (w_fin [.int .i64 2] rfl (by cases someE h; rfl) (by decide) outs_nil)))))
 ·refine w_cf (congrArg AV.bool b6) ?_
  simp only [b6, Bool.not_true, Bool.not_false]
  refine ws _ ?_
  rcases condE h with ⟨b9, h⟩ | ⟨b9, h⟩
  ·refine w_ct (congrArg AV.bool b9) ?_
   simp only [b9, Bool.not_true, Bool.not_false]
   refine ws _ ?_
   exact w_ret (q4 _ (q2 _ (r0 _ (.inl (w_fin [.int .i64 1] rfl (by cases someE h; rfl) (by decide) outs_nil)))))
  ·refine w_cf (congrArg AV.bool b9) ?_
   simp only [b9, Bool.not_true, Bool.not_false]
   refine w_skip (n4 _ (n2 _ (.inl ?_)))
   refine ws _ ?_
   exact w_ret (r0 _ (.inl (w_fin [.int .i64 0] rfl (by cases someE h; rfl) (by decide) outs_nil)))

set_option maxHeartbeats 600000 in
theorem ok_spec_l03Is (a0 : List impl_Term) (a1 : Int) (a2 : Int) (r : Bool) (h : spec_l03Is a0 a1 a2 = some r) : OkAt Cc 195 [.slice (a0.map e_impl_Term), .int .i64 a1, .int .i64 a2] (.bool r) [] := by
 refine OkAt.of_wpR (fx := [0, 1, 2]) Cc_ok [.tmp 6] [(0, .slice (a0.map e_impl_Term)), (1, .int .i64 a1), (2, .int .i64 a2)] Try.func195 rfl rfl s195 (Nat.le_of_ble_eq_true rfl) rfl rfl (fun Q0 r0 n0 => ?_)
 refine ws _ ?_
 refine w_seq (fun Q2 n2 q2 x2 => ?_)
 refine ws _ ?_
 rcases condE h with ⟨b4, h⟩ | ⟨b4, h⟩
 ·refine w_ct (congrArg AV.bool b4) ?_
  simp only [b4, Bool.not_true, Bool.not_false]
  refine ws _ ?_
  exact w_ret (q2 _ (r0 _ (.inl (w_fin [.bool false] rfl (by cases someE h; rfl) (by decide) outs_nil))))
 ·refine w_cf (congrArg AV.bool b4) ?_
  simp only [b4, Bool.not_true, Bool.not_false]
  refine w_skip (n2 _ (.inl ?_))
  refine ws _ ?_
  refine w_seq (fun Q7 n7 q7 x7 => ?_)
  refine ws _ ?_
  refine w_blk (fun Q9 n9 q9 b9 x9 => ?_)
  have L16 : ∀ (n : Nat) (v7_16 : Int) (v8_16 : Int), spec_l03Is_l16 a0 a1 n v7_16 v8_16 = some r → lpC Cc c195_17 Q9 (stA [(0, .slice (a0.map e_impl_Term)), (1, .int .i64 a1), (7, .int .i64 v7_16), (8, .int .i64 v8_16)]) := by
   intro m16
   induction m16 with
   | zero => intro v7_16 v8_16 h; cases (show none = some r from h)
   | succ m16 ih16 =>
    intro v7_16 v8_16 h
    replace h : spec_l03Is_b16 (spec_l03Is_l16 a0 a1 m16) a0 a1 v7_16 v8_16 = some r := h
    refine lpC_step (fun Q10 n10 q10 x10 => ?_)
    refine w_seq (fun Q11 n11 q11 x11 => ?_)
    refine ws _ ?_
    rcases condE h with ⟨b13, h⟩ | ⟨b13, h⟩
    ·refine w_ct (congrArg AV.bool b13) ?_
     simp only [b13, Bool.not_true, Bool.not_false]
     refine w_skip (n11 _ (.inl ?_))
     refine w_seq (fun Q14 n14 q14 x14 => ?_)
     refine w_blk (fun Q15 n15 q15 b15 x15 => ?_)
     refine w_seq (fun Q16 n16 q16 x16 => ?_)
     rcases condE h with ⟨b18, h⟩ | ⟨b18, h⟩
     ·refine wsf b18 _ ?_
      refine w_ct rfl ?_
      refine ws _ ?_
      exact w_ret (q16 _ (q15 _ (q14 _ (q10 _ (q9 _ (q7 _ (r0 _ (.inl (w_fin [.bool false] rfl (by cases someE h; rfl) (by decide) outs_nil)))))))))
     ·obtain ⟨x1, e20, h⟩ := bindE h
      obtain ⟨x2, e21, h⟩ := bindE h
      refine w_sreg (w_abs [(0, .slice (a0.map e_impl_Term)), (1, .int .i64 a1), (7, .int .i64 v7_16), (8, .int .i64 v8_16), (28, .bool (!x2))] (fun P hP => ?_) ?_)
      ·simp only [V0.down, simprocAttr, zz2.down, b18, e20]
       refine w_callg0 (ok_spec_l03Term x1 a1 _ e21) rfl rfl rfl rfl (.inl (by rfl)) ?_
       simp only [V0.down, simprocAttr, zz2.down, b18, e20]
       (try simp only [VN.down, simprocAttr, e_impl_Term, b18, e20] at hP ⊢); exact hP
      rcases condE h with ⟨b22, h⟩ | ⟨b22, h⟩
      ·refine w_ct (congrArg AV.bool b22) ?_
       simp only [(bnT b22), Bool.not_true, Bool.not_false]
       refine ws _ ?_
       exact w_ret (q16 _ (q15 _ (q14 _ (q10 _ (q9 _ (q7 _ (r0 _ (.inl (w_fin [.bool false] rfl (by cases someE h; rfl) (by decide) outs_nil)))))))))
      ·refine w_cf (congrArg AV.bool b22) ?_
       simp only [(bnF b22), Bool.not_true, Bool.not_false]
       refine w_skip (n16 _ (.inl ?_))
       obtain ⟨x3, e25, h⟩ := bindE h
       refine wrcf e20 (ok_spec_l03Arity x1 _ e25) _ ?_
       refine n15 _ (n14 _ (.inl ?_))
       refine wr _ ?_
       exact n10 _ (.inr ⟨_, weak_eq rfl, ih16 (IntKind.i64.wrap (v7_16 + (IntKind.i64.wrap (x3 - 1)))) (IntKind.i64.wrap (v8_16 + 1)) h⟩)
    ·refine w_cf (congrArg AV.bool b13) ?_
     simp only [b13, Bool.not_true, Bool.not_false]
     refine w_ex (x11 0 _ (x10 0 _ (b9 _ (n7 _ (.inl ?_)))))
     refine ws _ ?_
     exact w_ret (r0 _ (.inl (w_fin [.bool (v7_16 == 0)] rfl (by cases someE h; rfl) (by decide) outs_nil)))
  obtain ⟨n, h⟩ := limE h
  exact w_loop (.inr ⟨_, weak_eq rfl, L16 n 1 0 h⟩)

theorem ok_spec_l03Any (a0 : List impl_Term) (r : Bool) (h : spec_l03Any a0 = some r) : OkAt Cc 105 [.slice (a0.map e_impl_Term)] (.bool r) [] := by
 refine OkAt.of_wpR (fx := [0]) Cc_ok [.tmp 2] [(0, .slice (a0.map e_impl_Term))] Try.func105 rfl rfl s105 (Nat.le_of_ble_eq_true rfl) rfl rfl (fun Q0 r0 n0 => ?_)
 refine ws _ ?_
 obtain ⟨x1, e3, h⟩ := bindE h
 refine wsc (ok_spec_l03Is a0 29 60 _ e3) _ ?_
 exact w_ret (r0 _ (.inl (w_fin [.bool x1] rfl (by cases someE h; rfl) (by decide) outs_nil)))

set_option maxHeartbeats 600000 in
theorem ok_spec_l00Put (a0 : List Int) (a1 : Int) (r : (List Int)) (h : spec_l00Put a0 a1 = some r) : OkAt Cc 222 [.slice (a0.map e_i64), .int .i64 a1] (.uslice 1 (r.map e_i64)) [] := by
 refine OkAt.of_wpR (fx := [0, 1]) Cc_ok [.tmp 4] [(0, .slice (a0.map e_i64)), (1, .int .i64 a1)] Try.func222 rfl rfl s222 (Nat.le_of_ble_eq_true rfl) rfl rfl (fun Q0 r0 n0 => ?_)
 refine ws _ ?_
 refine wsf (show ∀ s, bsl Cc s 68 0 [] = some (.uslice 1 [], s) from fun s => by kernel_rfl) _ ?_
 refine ws _ ?_
 refine w_seq (fun Q4 n4 q4 x4 => ?_)
 refine ws _ ?_
 refine w_blk (fun Q6 n6 q6 b6 x6 => ?_)
 have L10 : ∀ (n : Nat) (v5_10 : List Int) (v6_10 : Bool) (v7_10 : Int), spec_l00Put_l10 a0 a1 n v5_10 v6_10 v7_10 = some r → lpC Cc c222_11 Q6 (stA [(0, .slice (a0.map e_i64)), (1, .int .i64 a1), (5, .uslice 1 (v5_10.map e_i64)), (6, .bool v6_10), (7, .int .i64 v7_10)]) := by
  intro m10
  induction m10 with
  | zero => intro v5_10 v6_10 v7_10 h; cases (show none = some r from h)
  | succ m10 ih10 =>
   intro v5_10 v6_10 v7_10 h
   replace h : spec_l00Put_b10 (spec_l00Put_l10 a0 a1 m10) a0 a1 v5_10 v6_10 v7_10 = some r := h
   refine lpC_step (fun Q7 n7 q7 x7 => ?_)
   refine w_seq (fun Q8 n8 q8 x8 => ?_)
   refine ws _ ?_
   rcases condE h with ⟨b10, h⟩ | ⟨b10, h⟩
   ·refine w_ct (congrArg AV.bool b10) ?_
    simp only [b10, Bool.not_true, Bool.not_false]
    refine w_skip (n8 _ (.inl ?_))
    refine w_seq (fun Q11 n11 q11 x11 => ?_)
    refine w_blk (fun Q12 n12 q12 b12 x12 => ?_)
    have K31 : ∀ (v5_31 : List Int) (v6_31 : Bool) (v7_31 : Int), spec_l00Put_k31 (spec_l00Put_l10 a0 a1 m10) a0 a1 v5_31 v6_31 v7_31 = some r → wpC Cc c222_31 Q12 (stA [(0, .slice (a0.map e_i64)), (1, .int .i64 a1), (5, .uslice 1 (v5_31.map e_i64)), (6, .bool v6_31), (7, .int .i64 v7_31)]) := by
     intro v5_31 v6_31 v7_31 h
     obtain ⟨x1, e15, h⟩ := bindE h
     obtain ⟨u17, e16, h⟩ := bindE h
     (try simp only [List.length_append, List.length_cons, List.length_nil, List.length_map, List.length_replicate, Nat.zero_add, Nat.add_zero, Nat.reduceAdd] at e16)
     refine w_reg (w_abs [(0, .slice (a0.map e_i64)), (1, .int .i64 a1), (5, .uslice 1 ((v5_31 ++ [x1]).map e_i64)), (6, .bool v6_31), (7, .int .i64 v7_31)] (fun P hP => ?_) ?_)
     ·simp only [V0.down, simprocAttr, tt2, tt68, e_i64, e15, (show ∀ s, bsl Cc s 68 1 [(0, .int .i64 x1)] = some (.uslice 1 [.int .i64 x1], s) from fun s => by kernel_rfl), @apd_s Cc 68 68 2 rfl rfl, ap_s, ap2_s, ap3_s, all_cons, all_nil, e16, @all_wd' _ e_i64 1 (fun _ => rfl)]
      (try simp only [VN.down, simprocAttr, e_i64, e15, (show ∀ s, bsl Cc s 68 1 [(0, .int .i64 x1)] = some (.uslice 1 [.int .i64 x1], s) from fun s => by kernel_rfl), @apd_s Cc 68 68 2 rfl rfl, ap_s, ap2_s, ap3_s, all_cons, all_nil, e16, @all_wd' _ e_i64 1 (fun _ => rfl)] at hP ⊢); exact hP
     refine n12 _ (n11 _ (.inl ?_))
     refine wr [(0, .slice (a0.map e_i64)), (1, .int .i64 a1), (5, .uslice 1 ((v5_31 ++ [x1]).map e_i64)), (6, .bool v6_31), (7, .int .i64 (IntKind.i64.wrap (v7_31 + 1)))] ?_
     exact n7 _ (.inr ⟨_, weak_eq rfl, ih10 (v5_31 ++ [x1]) v6_31 (IntKind.i64.wrap (v7_31 + 1)) h⟩)
    refine w_seq (fun Q13 n13 q13 x13 => ?_)
    rcases condE h with ⟨b19, h⟩ | ⟨b19, h⟩
    ·obtain ⟨x2, e20, h⟩ := bindE h
     refine wsf (And.intro (bnT b19) e20) _ ?_
     rcases condE h with ⟨b21, h⟩ | ⟨b21, h⟩
     ·refine w_ct (congrArg AV.bool b21) ?_
      simp only [b21, Bool.not_true, Bool.not_false]
      refine ws _ ?_
      refine wsf e20 _ ?_
      rcases condE h with ⟨b24, h⟩ | ⟨b24, h⟩
      ·refine w_ct (congrArg AV.bool b24) ?_
       simp only [b24, Bool.not_true, Bool.not_false]
       obtain ⟨u26, e26, h⟩ := bindE h
       (try simp only [List.length_append, List.length_cons, List.length_nil, List.length_map, List.length_replicate, Nat.zero_add, Nat.add_zero, Nat.reduceAdd] at e26)
       refine w_reg (w_abs [(0, .slice (a0.map e_i64)), (1, .int .i64 a1), (5, .uslice 1 ((v5_10 ++ [a1]).map e_i64)), (6, .bool true), (7, .int .i64 v7_10)] (fun P hP => ?_) ?_)
       ·simp only [V0.down, simprocAttr, tt2, tt68, e_i64, (show ∀ s, bsl Cc s 68 1 [(0, .int .i64 a1)] = some (.uslice 1 [.int .i64 a1], s) from fun s => by kernel_rfl), @apd_s Cc 68 68 2 rfl rfl, ap_s, ap2_s, ap3_s, all_cons, all_nil, e26, @all_wd' _ e_i64 1 (fun _ => rfl)]
        (try simp only [VN.down, simprocAttr, e_i64, (show ∀ s, bsl Cc s 68 1 [(0, .int .i64 a1)] = some (.uslice 1 [.int .i64 a1], s) from fun s => by kernel_rfl), @apd_s Cc 68 68 2 rfl rfl, ap_s, ap2_s, ap3_s, all_cons, all_nil, e26, @all_wd' _ e_i64 1 (fun _ => rfl)] at hP ⊢); exact hP
       exact n13 _ (.inr ⟨_, weak_eq rfl, K31 (v5_10 ++ [a1]) true v7_10 h⟩)
      ·refine w_cf (congrArg AV.bool b24) ?_
       simp only [b24, Bool.not_true, Bool.not_false]
       exact w_skip (n13 _ (.inr ⟨_, weak_eq rfl, K31 v5_10 true v7_10 h⟩))
     ·refine w_cf (congrArg AV.bool b21) ?_
      simp only [b21, Bool.not_true, Bool.not_false]
      exact w_skip (n13 _ (.inr ⟨_, weak_eq rfl, K31 v5_10 false v7_10 h⟩))
    ·refine wsf (bnF b19) _ ?_
     refine w_cf rfl ?_
     exact w_skip (n13 _ (.inr ⟨_, weak_eq rfl, K31 v5_10 true v7_10 h⟩))
   ·refine w_cf (congrArg AV.bool b10) ?_
    simp only [b10, Bool.not_true, Bool.not_false]
    refine w_ex (x8 0 _ (x7 0 _ (b6 _ (n4 _ (.inl ?_)))))
    have K39 : ∀ (v5_39 : List Int), spec_l00Put_k39 v5_39 = some r → wpC Cc c222_39 Q0 (stA [(5, .uslice 1 (v5_39.map e_i64))]) := by
     intro v5_39 h
     refine ws _ ?_
     exact w_ret (r0 _ (.inl (w_fin [.uslice 1 (v5_39.map e_i64)] rfl (by cases someE h; rfl) (by decide) outs_nil)))
    refine w_seq (fun Q27 n27 q27 x27 => ?_)
    refine ws _ ?_
    rcases condE h with ⟨b30, h⟩ | ⟨b30, h⟩
    ·refine w_ct (congrArg AV.bool b30) ?_
     simp only [(bnT b30), Bool.not_true, Bool.not_false]
     obtain ⟨u32, e32, h⟩ := bindE h
     (try simp only [List.length_append, List.length_cons, List.length_nil, List.length_map, List.length_replicate, Nat.zero_add, Nat.add_zero, Nat.reduceAdd] at e32)
     refine w_reg (w_abs [(5, .uslice 1 ((v5_10 ++ [a1]).map e_i64))] (fun P hP => ?_) ?_)
     ·simp only [V0.down, simprocAttr, tt2, tt68, e_i64, (show ∀ s, bsl Cc s 68 1 [(0, .int .i64 a1)] = some (.uslice 1 [.int .i64 a1], s) from fun s => by kernel_rfl), @apd_s Cc 68 68 2 rfl rfl, ap_s, ap2_s, ap3_s, all_cons, all_nil, e32, @all_wd' _ e_i64 1 (fun _ => rfl)]
      (try simp only [VN.down, simprocAttr, e_i64, (show ∀ s, bsl Cc s 68 1 [(0, .int .i64 a1)] = some (.uslice 1 [.int .i64 a1], s) from fun s => by kernel_rfl), @apd_s Cc 68 68 2 rfl rfl, ap_s, ap2_s, ap3_s, all_cons, all_nil, e32, @all_wd' _ e_i64 1 (fun _ => rfl)] at hP ⊢); exact hP
     exact n27 _ (.inr ⟨_, weak_eq rfl, K39 (v5_10 ++ [a1]) h⟩)
    ·refine w_cf (congrArg AV.bool b30) ?_
     simp only [(bnF b30), Bool.not_true, Bool.not_false]
     exact w_skip (n27 _ (.inr ⟨_, weak_eq rfl, K39 v5_10 h⟩))
 obtain ⟨n, h⟩ := limE h
 exact w_loop (.inr ⟨_, weak_eq rfl, L10 n [] false 0 h⟩)

theorem ok_spec_l03Names (a0 : List impl_Term) (r : (List Int)) (h : spec_l03Names a0 = some r) : OkAt Cc 140 [.slice (a0.map e_impl_Term)] (.uslice 1 (r.map e_i64)) [] := by
 refine OkAt.of_wpR (fx := [0]) Cc_ok [.tmp 2] [(0, .slice (a0.map e_impl_Term))] Try.func140 rfl rfl s140 (Nat.le_of_ble_eq_true rfl) rfl rfl (fun Q0 r0 n0 => ?_)
 refine ws _ ?_
 refine wsf (show ∀ s, bsl Cc s 68 0 [] = some (.uslice 1 [], s) from fun s => by kernel_rfl) _ ?_
 refine w_seq (fun Q3 n3 q3 x3 => ?_)
 refine ws _ ?_
 refine w_blk (fun Q5 n5 q5 b5 x5 => ?_)
 have L8 : ∀ (n : Nat) (v3_8 : List Int) (v4_8 : Int), spec_l03Names_l8 a0 n v3_8 v4_8 = some r → lpC Cc c140_9 Q5 (stA [(0, .slice (a0.map e_impl_Term)), (3, .uslice 1 (v3_8.map e_i64)), (4, .int .i64 v4_8)]) := by
  intro m8
  induction m8 with
  | zero => intro v3_8 v4_8 h; cases (show none = some r from h)
  | succ m8 ih8 =>
   intro v3_8 v4_8 h
   replace h : spec_l03Names_b8 (spec_l03Names_l8 a0 m8) a0 v3_8 v4_8 = some r := h
   refine lpC_step (fun Q6 n6 q6 x6 => ?_)
   refine w_seq (fun Q7 n7 q7 x7 => ?_)
   refine ws _ ?_
   rcases condE h with ⟨b9, h⟩ | ⟨b9, h⟩
   ·refine w_ct (congrArg AV.bool b9) ?_
    simp only [b9, Bool.not_true, Bool.not_false]
    refine w_skip (n7 _ (.inl ?_))
    have K22 : ∀ (v3_22 : List Int) (v4_22 : Int), spec_l03Names_k22 (spec_l03Names_l8 a0 m8) a0 v3_22 v4_22 = some r → wpC Cc c140_22 Q6 (stA [(0, .slice (a0.map e_impl_Term)), (3, .uslice 1 (v3_22.map e_i64)), (4, .int .i64 v4_22)]) := by
     intro v3_22 v4_22 h
     refine wr _ ?_
     exact n6 _ (.inr ⟨_, weak_eq rfl, ih8 v3_22 (IntKind.i64.wrap (v4_22 + 1)) h⟩)
    refine w_seq (fun Q10 n10 q10 x10 => ?_)
    refine w_blk (fun Q12 n12 q12 b12 x12 => ?_)
    obtain ⟨x1, e14, h⟩ := bindE h
    refine wsf e14 _ ?_
    rcases condE h with ⟨b15, h⟩ | ⟨b15, h⟩
    ·refine w_ct (congrArg AV.bool b15) ?_
     simp only [b15, Bool.not_true, Bool.not_false]
     obtain ⟨x2, e17, h⟩ := bindE h
     refine w_reg (w_abs [(0, .slice (a0.map e_impl_Term)), (3, .uslice 1 (x2.map e_i64)), (4, .int .i64 v4_8)] (fun P hP => ?_) ?_)
     ·simp only [V0.down, simprocAttr, tt2, tt40, tt131, e_i64, e_impl_Term, e14]
      refine w_call0 (ok_spec_l00Put v3_8 x1.Value _ e17) rfl rfl (by simp only [V0.down, simprocAttr, tt2, tt40, tt131, e_i64, e_impl_Term, e14, view_s, view_h, viewH_s, share_s, @shares_map _ e_i64 e_i64 (fun _ => sh_e_i64 _)] <;> rfl) rfl (.inr (noshs_map (fun _ => ns_e_i64 _) _)) ?_
      simp only [V0.down, simprocAttr, tt2, tt40, tt131, e_i64, e_impl_Term, e14]
      (try simp only [VN.down, simprocAttr, e_i64, e_impl_Term, e14] at hP ⊢); exact hP
     exact n12 _ (n10 _ (.inr ⟨_, weak_eq rfl, K22 x2 v4_8 h⟩))
    ·refine w_cf (congrArg AV.bool b15) ?_
     simp only [b15, Bool.not_true, Bool.not_false]
     exact w_skip (n12 _ (n10 _ (.inr ⟨_, weak_eq rfl, K22 v3_8 v4_8 h⟩)))
   ·refine w_cf (congrArg AV.bool b9) ?_
    simp only [b9, Bool.not_true, Bool.not_false]
    refine w_ex (x7 0 _ (x6 0 _ (b5 _ (n3 _ (.inl ?_)))))
    refine ws _ ?_
    exact w_ret (r0 _ (.inl (w_fin [.uslice 1 (v3_8.map e_i64)] rfl (by cases someE h; rfl) (by decide) outs_nil)))
 obtain ⟨n, h⟩ := limE h
 exact w_loop (.inr ⟨_, weak_eq rfl, L8 n [] 0 h⟩)

theorem ok_spec_VariablesOf (a0 : List impl_Term) (r : (List Int) × Int) (h : spec_VariablesOf a0 = some r) : OkAt Cc 57 [.slice (a0.map e_impl_Term)] (.tuple [.uslice 1 (r.1.map e_i64), .int .i64 r.2]) [] := by
 refine OkAt.of_wpR (fx := [0]) Cc_ok [.tmp 2, .tmp 3] [(0, .slice (a0.map e_impl_Term))] Try.func57 rfl rfl s57 (Nat.le_of_ble_eq_true rfl) rfl rfl (fun Q0 r0 n0 => ?_)
 refine ws _ ?_
 refine w_seq (fun Q2 n2 q2 x2 => ?_)
 obtain ⟨x1, e4, h⟩ := bindE h
 refine wsc (ok_spec_l03Any a0 _ e4) _ ?_
 rcases condE h with ⟨b5, h⟩ | ⟨b5, h⟩
 ·refine w_ct (congrArg AV.bool b5) ?_
  simp only [(bnT b5), Bool.not_true, Bool.not_false]
  refine ws _ ?_
  exact w_ret (q2 _ (r0 _ (.inr ⟨[(2, .uslice 1 []), (3, .int .i64 1)], weak_mix [] rfl (wk_wd (t := 2) (d := .nils) rfl rfl (.nilsU _) (by decide) (wk_eq rfl (wk_nil))), w_fin [.uslice 1 [], .int .i64 1] rfl (by cases someE h; rfl) (by decide) outs_nil⟩)))
 ·refine w_cf (congrArg AV.bool b5) ?_
  simp only [(bnF b5), Bool.not_true, Bool.not_false]
  refine w_skip (n2 _ (.inl ?_))
  obtain ⟨x2, e8, h⟩ := bindE h
  refine wsc (ok_spec_l03Names a0 _ e8) _ ?_
  exact w_ret (r0 _ (.inl (w_fin [.uslice 1 (x2.map e_i64), .int .i64 0] rfl (by cases someE h; rfl) (by decide) outs_nil)))

theorem ok_impl_within (a0 : Int) (a1 : Int) (a2 : Int) (r : Bool) (h : impl_within a0 a1 a2 = some r) : OkAt Cc 138 [.int .i64 a0, .int .i64 a1, .int .i64 a2] (.bool r) [] := by
 refine OkAt.of_wpR (fx := [0, 1, 2]) Cc_ok [.tmp 6] [(0, .int .i64 a0), (1, .int .i64 a1), (2, .int .i64 a2)] Try.func138 rfl rfl s138 (Nat.le_of_ble_eq_true rfl) rfl rfl (fun Q0 r0 n0 => ?_)
 refine ws _ ?_
 refine w_sreg (w_abs [(6, .bool ((decide (a1 ≤ a0)) && (decide (a0 ≤ a2))))] (fun P hP => ?_) ?_)
 ·rcases Bool.eq_false_or_eq_true (decide (a1 ≤ a0)) with s3 | s3
  ·simp only [V0.down, simprocAttr, s3]
   (try simp only [VN.down, simprocAttr, s3] at hP ⊢); exact hP
  ·simp only [V0.down, simprocAttr, s3]
   (try simp only [VN.down, simprocAttr, s3] at hP ⊢); exact hP
 exact w_ret (r0 _ (.inl (w_fin [.bool ((decide (a1 ≤ a0)) && (decide (a0 ≤ a2)))] rfl (by cases someE h; rfl) (by decide) outs_nil)))

theorem ok_impl_isValue (a0 : Int) (r : Bool) (h : impl_isValue a0 = some r) : OkAt Cc 286 [.int .i64 a0] (.bool r) [] := by
 refine OkAt.of_wpR (fx := [0]) Cc_ok [.tmp 2] [(0, .int .i64 a0)] Try.func286 rfl rfl s286 (Nat.le_of_ble_eq_true rfl) rfl rfl (fun Q0 r0 n0 => ?_)
 refine ws _ ?_
 obtain ⟨x1, e3, h⟩ := bindE h
 refine wsc (ok_impl_within a0 0 63 _ e3) _ ?_
 exact w_ret (r0 _ (.inl (w_fin [.bool x1] rfl (by cases someE h; rfl) (by decide) outs_nil)))

theorem ok_impl_Term_valid (a0 : impl_Term) (a1 : Int) (r : Bool) (h : impl_Term_valid a0 a1 = some r) : OkAt Cc 269 [e_impl_Term a0, .int .i64 a1] (.bool r) [] := by
 refine OkAt.of_wpR (fx := [0, 1]) Cc_ok [.tmp 4] [(0, e_impl_Term a0), (1, .int .i64 a1)] Try.func269 rfl rfl s269 (Nat.le_of_ble_eq_true rfl) rfl rfl (fun Q0 r0 n0 => ?_)
 refine ws _ ?_
 refine w_seq (fun Q2 n2 q2 x2 => ?_)
 refine ws _ ?_
 refine w_blk (fun Q4 n4 q4 b4 x4 => ?_)
 refine ws _ ?_
 rcases condE h with ⟨b6, h⟩ | ⟨b6, h⟩
 ·refine w_ct (congrArg AV.bool b6) ?_
  simp only [b6, Bool.not_true, Bool.not_false]
  obtain ⟨x1, e8, h⟩ := bindE h
  refine wsc (ok_impl_isValue a0.Value _ e8) _ ?_
  exact w_ret (q4 _ (q2 _ (r0 _ (.inl (w_fin [.bool x1] rfl (by cases someE h; rfl) (by decide) outs_nil)))))
 ·refine w_cf (congrArg AV.bool b6) ?_
  simp only [b6, Bool.not_true, Bool.not_false]
  refine ws _ ?_
  rcases condE h with ⟨b10, h⟩ | ⟨b10, h⟩
  ·refine w_ct (congrArg AV.bool b10) ?_
   simp only [b10, Bool.not_true, Bool.not_false]
   obtain ⟨x2, e12, h⟩ := bindE h
   refine wsc (ok_impl_within a0.Value 0 (IntKind.i64.wrap (a1 - 1)) _ e12) _ ?_
   exact w_ret (q4 _ (q2 _ (r0 _ (.inl (w_fin [.bool x2] rfl (by cases someE h; rfl) (by decide) outs_nil)))))
  ·refine w_cf (congrArg AV.bool b10) ?_
   simp only [b10, Bool.not_true, Bool.not_false]
   refine ws _ ?_
   rcases condE h with ⟨b14, h⟩ | ⟨b14, h⟩
   ·refine w_ct (congrArg AV.bool b14) ?_
    simp only [b14, Bool.not_true, Bool.not_false]
    obtain ⟨x3, e16, h⟩ := bindE h
    refine wsc (ok_impl_within a0.Value 0 8 _ e16) _ ?_
    exact w_ret (q4 _ (q2 _ (r0 _ (.inl (w_fin [.bool x3] rfl (by cases someE h; rfl) (by decide) outs_nil)))))
   ·refine w_cf (congrArg AV.bool b14) ?_
    simp only [b14, Bool.not_true, Bool.not_false]
    refine ws _ ?_
    rcases condE h with ⟨b18, h⟩ | ⟨b18, h⟩
    ·refine w_ct (congrArg AV.bool b18) ?_
     simp only [b18, Bool.not_true, Bool.not_false]
     refine ws _ ?_
     exact w_ret (q4 _ (q2 _ (r0 _ (.inl (w_fin [.bool (a0.Value == 0)] rfl (by cases someE h; rfl) (by decide) outs_nil)))))
    ·refine w_cf (congrArg AV.bool b18) ?_
     simp only [b18, Bool.not_true, Bool.not_false]
     refine w_skip (n4 _ (n2 _ (.inl ?_)))
     refine ws _ ?_
     exact w_ret (r0 _ (.inl (w_fin [.bool false] rfl (by cases someE h; rfl) (by decide) outs_nil)))

theorem ok_impl_Term_operands (a0 : impl_Term) (r : Int) (h : impl_Term_operands a0 = some r) : OkAt Cc 270 [e_impl_Term a0] (.int .i64 r) [] := by
 refine OkAt.of_wpR (fx := [0]) Cc_ok [.tmp 2] [(0, e_impl_Term a0)] Try.func270 rfl rfl s270 (Nat.le_of_ble_eq_true rfl) rfl rfl (fun Q0 r0 n0 => ?_)
 refine ws _ ?_
 refine w_seq (fun Q2 n2 q2 x2 => ?_)
 refine ws _ ?_
 refine w_blk (fun Q4 n4 q4 b4 x4 => ?_)
 refine ws _ ?_
 rcases condE h with ⟨b6, h⟩ | ⟨b6, h⟩
 ·refine w_ct (congrArg AV.bool b6) ?_
  simp only [b6, Bool.not_true, Bool.not_false]
  refine ws _ ?_
  exact w_ret (q4 _ (q2 _ (r0 _ (.inl (w_fin [.int .i64 2] rfl (by cases someE h; rfl) (by decide) outs_nil)))))
 ·refine w_cf (congrArg AV.bool b6) ?_
  simp only [b6, Bool.not_true, Bool.not_false]
  refine ws _ ?_
  rcases condE h with ⟨b9, h⟩ | ⟨b9, h⟩
  ·refine w_ct (congrArg AV.bool b9) ?_
   simp only [b9, Bool.not_true, Bool.not_false]
   refine ws _ ?_
   exact w_ret (q4 _ (q2 _ (r0 _ (.inl (w_fin [.int .i64 1] rfl (by cases someE h; rfl) (by decide) outs_nil)))))
  ·refine w_cf (congrArg AV.bool b9) ?_
   simp only [b9, Bool.not_true, Bool.not_false]
   refine w_skip (n4 _ (n2 _ (.inl ?_)))
   refine ws _ ?_
   exact w_ret (r0 _ (.inl (w_fin [.int .i64 0] rfl (by cases someE h; rfl) (by decide) outs_nil)))

set_option maxHeartbeats 600000 in
theorem ok_impl_ValidTerms (a0 : List impl_Term) (a1 : Int) (a2 : Int) (r : Bool) (h : impl_ValidTerms a0 a1 a2 = some r) : OkAt Cc 200 [.slice (a0.map e_impl_Term), .int .i64 a1, .int .i64 a2] (.bool r) [] := by
 refine OkAt.of_wpR (fx := [0, 1, 2]) Cc_ok [.tmp 6] [(0, .slice (a0.map e_impl_Term)), (1, .int .i64 a1), (2, .int .i64 a2)] Try.func200 rfl rfl s200 (Nat.le_of_ble_eq_true rfl) rfl rfl (fun Q0 r0 n0 => ?_)
 refine ws _ ?_
 refine w_seq (fun Q2 n2 q2 x2 => ?_)
 obtain ⟨x1, e4, h⟩ := bindE h
 rcases condE h with ⟨b5, h⟩ | ⟨b5, h⟩
 ·refine wscf (bnT b5) (ok_impl_within a1 0 29 _ e4) _ ?_
  refine w_ct rfl ?_
  refine ws _ ?_
  exact w_ret (q2 _ (r0 _ (.inl (w_fin [.bool false] rfl (by cases someE h; rfl) (by decide) outs_nil))))
 ·obtain ⟨x2, e7, h⟩ := bindE h
  rcases condE h with ⟨b8, h⟩ | ⟨b8, h⟩
  ·refine w_sreg (w_abs [(0, .slice (a0.map e_impl_Term)), (1, .int .i64 a1), (24, .bool true)] (fun P hP => ?_) ?_)
   ·simp only [V0.down, simprocAttr, zz2.down, (bnF b5), (bnT b8)]
    refine w_call0 (ok_impl_within a1 0 29 _ e4) rfl rfl rfl rfl (.inl (by rfl)) ?_
    simp only [V0.down, simprocAttr, zz2.down, (bnF b5), (bnT b8)]
    refine w_callg0 (ok_impl_within a2 1 60 _ e7) rfl rfl rfl rfl (.inl (by rfl)) ?_
    simp only [V0.down, simprocAttr, zz2.down, (bnF b5), (bnT b8)]
    (try simp only [VN.down, simprocAttr, e_impl_Term, (bnF b5), (bnT b8)] at hP ⊢); exact hP
   refine w_ct rfl ?_
   refine ws _ ?_
   exact w_ret (q2 _ (r0 _ (.inl (w_fin [.bool false] rfl (by cases someE h; rfl) (by decide) outs_nil))))
  ·obtain ⟨x3, e10, h⟩ := bindE h
   refine w_sreg (w_abs [(0, .slice (a0.map e_impl_Term)), (1, .int .i64 a1), (24, .bool (!x3))] (fun P hP => ?_) ?_)
   ·simp only [V0.down, simprocAttr, zz2.down, (bnF b5), (bnF b8)]
    refine w_call0 (ok_impl_within a1 0 29 _ e4) rfl rfl rfl rfl (.inl (by rfl)) ?_
    simp only [V0.down, simprocAttr, zz2.down, (bnF b5), (bnF b8)]
    refine w_callg0 (ok_impl_within a2 1 60 _ e7) rfl rfl rfl rfl (.inl (by rfl)) ?_
    simp only [V0.down, simprocAttr, zz2.down, (bnF b5), (bnF b8)]
    refine w_callg0 (ok_impl_within (a0.length : Int) 1 a2 _ e10) rfl rfl rfl rfl (.inl (by rfl)) ?_
    simp only [V0.down, simprocAttr, zz2.down, (bnF b5), (bnF b8)]
    (try simp only [VN.down, simprocAttr, e_impl_Term, (bnF b5), (bnF b8)] at hP ⊢); exact hP
   rcases condE h with ⟨b11, h⟩ | ⟨b11, h⟩
   ·refine w_ct (congrArg AV.bool b11) ?_
    simp only [(bnT b11), Bool.not_true, Bool.not_false]
    refine ws _ ?_
    exact w_ret (q2 _ (r0 _ (.inl (w_fin [.bool false] rfl (by cases someE h; rfl) (by decide) outs_nil))))
   ·refine w_cf (congrArg AV.bool b11) ?_
    simp only [(bnF b11), Bool.not_true, Bool.not_false]
    refine w_skip (n2 _ (.inl ?_))
    refine ws _ ?_
    refine w_seq (fun Q14 n14 q14 x14 => ?_)
    refine ws _ ?_
    refine w_blk (fun Q16 n16 q16 b16 x16 => ?_)
    have L16 : ∀ (n : Nat) (v7_16 : Int) (v27_16 : Int), impl_ValidTerms_l16 a0 a1 n v7_16 v27_16 = some r → lpC Cc c200_17 Q16 (stA [(1, .int .i64 a1), (7, .int .i64 v7_16), (25, .slice (a0.map e_impl_Term)), (26, .int .i64 (a0.length : Int)), (27, .int .i64 v27_16)]) := by
     intro m16
     induction m16 with
     | zero => intro v7_16 v27_16 h; cases (show none = some r from h)
     | succ m16 ih16 =>
      intro v7_16 v27_16 h
      replace h : impl_ValidTerms_b16 (impl_ValidTerms_l16 a0 a1 m16) a0 a1 v7_16 v27_16 = some r := h
      refine lpC_step (fun Q17 n17 q17 x17 => ?_)
      refine ws _ ?_
      refine w_seq (fun Q19 n19 q19 x19 => ?_)
      rcases condE h with ⟨b20, h⟩ | ⟨b20, h⟩
      ·refine w_ct (congrArg AV.bool b20) ?_
       simp only [b20, Bool.not_true, Bool.not_false]
       refine w_skip (n19 _ (.inl ?_))
       refine w_seq (fun Q21 n21 q21 x21 => ?_)
       refine w_blk (fun Q22 n22 q22 b22 x22 => ?_)
       obtain ⟨x4, e24, h⟩ := bindE h
       refine wsf e24 _ ?_
       refine w_seq (fun Q25 n25 q25 x25 => ?_)
       rcases condE h with ⟨b27, h⟩ | ⟨b27, h⟩
       ·refine wsf b27 _ ?_
        refine w_ct rfl ?_
        refine ws _ ?_
        exact w_ret (q25 _ (q22 _ (q21 _ (q17 _ (q16 _ (q14 _ (r0 _ (.inl (w_fin [.bool false] rfl (by cases someE h; rfl) (by decide) outs_nil)))))))))
       ·obtain ⟨x5, e29, h⟩ := bindE h
        refine w_sreg (w_abs [(1, .int .i64 a1), (7, .int .i64 v7_16), (9, .ubox (e_impl_Term x4)), (25, .slice (a0.map e_impl_Term)), (26, .int .i64 (a0.length : Int)), (27, .int .i64 v27_16), (38, .bool (!x5))] (fun P hP => ?_) ?_)
        ·simp only [V0.down, simprocAttr, tt2, tt131, e_impl_Term, b27]
         refine w_callg0 (ok_impl_Term_valid x4 a1 _ e29) rfl rfl rfl rfl (.inl (by rfl)) ?_
         simp only [V0.down, simprocAttr, tt2, tt131, e_impl_Term, b27]
         (try simp only [VN.down, simprocAttr, e_impl_Term, b27] at hP ⊢); exact hP
        rcases condE h with ⟨b30, h⟩ | ⟨b30, h⟩
        ·refine w_ct (congrArg AV.bool b30) ?_
         simp only [(bnT b30), Bool.not_true, Bool.not_false]
         refine ws _ ?_
         exact w_ret (q25 _ (q22 _ (q21 _ (q17 _ (q16 _ (q14 _ (r0 _ (.inl (w_fin [.bool false] rfl (by cases someE h; rfl) (by decide) outs_nil)))))))))
        ·refine w_cf (congrArg AV.bool b30) ?_
         simp only [(bnF b30), Bool.not_true, Bool.not_false]
         refine w_skip (n25 _ (.inl ?_))
         obtain ⟨x6, e33, h⟩ := bindE h
         refine wrc (ok_impl_Term_operands x4 _ e33) _ ?_
         refine n22 _ (n21 _ (.inl ?_))
         refine wr _ ?_
         exact n17 _ (.inr ⟨_, weak_eq rfl, ih16 (IntKind.i64.wrap (v7_16 + (IntKind.i64.wrap (x6 - 1)))) (IntKind.i64.wrap (v27_16 + 1)) h⟩)
      ·refine w_cf (congrArg AV.bool b20) ?_
       simp only [b20, Bool.not_true, Bool.not_false]
       refine w_ex (x19 0 _ (x17 0 _ (b16 _ (n14 _ (.inl ?_)))))
       refine ws _ ?_
       exact w_ret (r0 _ (.inl (w_fin [.bool (v7_16 == 0)] rfl (by cases someE h; rfl) (by decide) outs_nil)))
    obtain ⟨n, h⟩ := limE h
    exact w_loop (.inr ⟨_, weak_eq rfl, L16 n 1 0 h⟩)

theorem ok_impl_termsOk (a0 : List impl_Term) (r : Bool) (h : impl_termsOk a0 = some r) : OkAt Cc 108 [.slice (a0.map e_impl_Term)] (.bool r) [] := by
 refine OkAt.of_wpR (fx := [0]) Cc_ok [.tmp 2] [(0, .slice (a0.map e_impl_Term))] Try.func108 rfl rfl s108 (Nat.le_of_ble_eq_true rfl) rfl rfl (fun Q0 r0 n0 => ?_)
 refine ws _ ?_
 obtain ⟨x1, e3, h⟩ := bindE h
 refine wsc (ok_impl_ValidTerms a0 29 60 _ e3) _ ?_
 exact w_ret (r0 _ (.inl (w_fin [.bool x1] rfl (by cases someE h; rfl) (by decide) outs_nil)))

theorem ok_slices_Sort_int64_int64 (a0 r : List Int) (h : slices_Sort_int64_int64 a0 = some r) : OkAt Cc 223 [.uslice 1 (a0.map e_i64)] (.tuple []) [.uslice 1 (r.map e_i64)] := sl_Sort_int64 a0 r h

theorem ok_slices_Compact_int64_int64 (a0 r : List Int) (h : slices_Compact_int64_int64 a0 = some r) : OkAt Cc 224 [.uslice 1 (a0.map e_i64)] (.uslice 1 (r.map e_i64)) [.hole] := sl_Compact_int64 a0 r h

theorem ok_impl_variables (a0 : List impl_Term) (r : (List Int)) (h : impl_variables a0 = some r) : OkAt Cc 141 [.slice (a0.map e_impl_Term)] (.uslice 1 (r.map e_i64)) [] := by
 refine OkAt.of_wpR (fx := [0]) Cc_ok [.tmp 2] [(0, .slice (a0.map e_impl_Term))] Try.func141 rfl rfl s141 (Nat.le_of_ble_eq_true rfl) rfl rfl (fun Q0 r0 n0 => ?_)
 refine ws _ ?_
 refine ws _ ?_
 refine w_seq (fun Q3 n3 q3 x3 => ?_)
 refine ws _ ?_
 refine w_blk (fun Q5 n5 q5 b5 x5 => ?_)
 have L8 : ∀ (n : Nat) (v3_8 : List Int) (v8_8 : Int), impl_variables_l8 a0 n v3_8 v8_8 = some r → lpC Cc c141_9 Q5 (stA [(3, .uslice 1 (v3_8.map e_i64)), (6, .slice (a0.map e_impl_Term)), (7, .int .i64 (a0.length : Int)), (8, .int .i64 v8_8)]) := by
  intro m8
  induction m8 with
  | zero => intro v3_8 v8_8 h; cases (show none = some r from h)
  | succ m8 ih8 =>
   intro v3_8 v8_8 h
   replace h : impl_variables_b8 (impl_variables_l8 a0 m8) a0 v3_8 v8_8 = some r := h
   refine lpC_step (fun Q6 n6 q6 x6 => ?_)
   refine ws _ ?_
   refine w_seq (fun Q8 n8 q8 x8 => ?_)
   rcases condE h with ⟨b9, h⟩ | ⟨b9, h⟩
   ·refine w_ct (congrArg AV.bool b9) ?_
    simp only [b9, Bool.not_true, Bool.not_false]
    refine w_skip (n8 _ (.inl ?_))
    have K24 : ∀ (v3_24 : List Int) (v8_24 : Int), impl_variables_k24 (impl_variables_l8 a0 m8) a0 v3_24 v8_24 = some r → wpC Cc c141_24 Q6 (stA [(3, .uslice 1 (v3_24.map e_i64)), (6, .slice (a0.map e_impl_Term)), (7, .int .i64 (a0.length : Int)), (8, .int .i64 v8_24)]) := by
     intro v3_24 v8_24 h
     refine wr _ ?_
     exact n6 _ (.inr ⟨_, weak_eq rfl, ih8 v3_24 (IntKind.i64.wrap (v8_24 + 1)) h⟩)
    refine w_seq (fun Q10 n10 q10 x10 => ?_)
    refine w_blk (fun Q12 n12 q12 b12 x12 => ?_)
    obtain ⟨x1, e14, h⟩ := bindE h
    refine wsf e14 _ ?_
    refine ws _ ?_
    rcases condE h with ⟨b16, h⟩ | ⟨b16, h⟩
    ·refine w_ct (congrArg AV.bool b16) ?_
     simp only [b16, Bool.not_true, Bool.not_false]
     obtain ⟨u18, e18, h⟩ := bindE h
     (try simp only [List.length_append, List.length_cons, List.length_nil, List.length_map, List.length_replicate, Nat.zero_add, Nat.add_zero, Nat.reduceAdd] at e18)
     refine w_reg (w_abs [(3, .uslice 1 ((v3_8 ++ [x1.Value]).map e_i64)), (6, .slice (a0.map e_impl_Term)), (7, .int .i64 (a0.length : Int)), (8, .int .i64 v8_8)] (fun P hP => ?_) ?_)
     ·simp only [V0.down, simprocAttr, tt2, tt68, tt131, e_i64, e_impl_Term, (show ∀ s, bsl Cc s 68 1 [(0, .int .i64 x1.Value)] = some (.uslice 1 [.int .i64 x1.Value], s) from fun s => by kernel_rfl), @apd_s Cc 68 68 2 rfl rfl, ap_s, ap2_s, ap3_s, all_cons, all_nil, e18, @all_wd' _ e_i64 1 (fun _ => rfl)]
      (try simp only [VN.down, simprocAttr, e_i64, e_impl_Term, (show ∀ s, bsl Cc s 68 1 [(0, .int .i64 x1.Value)] = some (.uslice 1 [.int .i64 x1.Value], s) from fun s => by kernel_rfl), @apd_s Cc 68 68 2 rfl rfl, ap_s, ap2_s, ap3_s, all_cons, all_nil, e18, @all_wd' _ e_i64 1 (fun _ => rfl)] at hP ⊢); exact hP
     exact n12 _ (n10 _ (.inr ⟨_, weak_eq rfl, K24 (v3_8 ++ [x1.Value]) v8_8 h⟩))
    ·refine w_cf (congrArg AV.bool b16) ?_
     simp only [b16, Bool.not_true, Bool.not_false]
     exact w_skip (n12 _ (n10 _ (.inr ⟨_, weak_eq rfl, K24 v3_8 v8_8 h⟩)))
   ·refine w_cf (congrArg AV.bool b9) ?_
    simp only [b9, Bool.not_true, Bool.not_false]
    refine w_ex (x8 0 _ (x6 0 _ (b5 _ (n3 _ (.inl ?_)))))
    obtain ⟨x2, e20, h⟩ := bindE h
    refine w_sreg (w_abs [(3, .uslice 1 (x2.map e_i64))] (fun P hP => ?_) ?_)
    ·simp only [V0.down, simprocAttr, e_i64, e_impl_Term]
     refine w_callp0 [⟨.h 3 [], true, _, _⟩] (ok_slices_Sort_int64_int64 v3_8 _ e20) rfl rfl rfl (by simp only [V0.down, simprocAttr, e_i64, e_impl_Term, c_nrm, okp_s, own_r, view_s, view_h, viewH_s, share_s, or_true, true_or, @shares_map _ e_i64 e_i64 (fun _ => sh_e_i64 _)]) rfl rfl (.inl rfl) ?_
     simp only [V0.down, simprocAttr, e_i64, e_impl_Term, gv_s]
     (try simp only [VN.down, simprocAttr, e_i64, e_impl_Term] at hP ⊢); exact hP
    obtain ⟨x3, e22, h⟩ := bindE h
    refine w_sreg (w_abs [(2, .uslice 1 (x3.map e_i64))] (fun P hP => ?_) ?_)
    ·simp only [V0.down, simprocAttr, e_i64]
     refine w_callp0 [⟨.h 3 [], true, _, .hole⟩] (ok_slices_Compact_int64_int64 x2 _ e22) rfl rfl rfl (by simp only [V0.down, simprocAttr, e_i64, c_nrm, okp_s, own_r, view_s, view_h, viewH_s, share_s, or_true, true_or, @shares_map _ e_i64 e_i64 (fun _ => sh_e_i64 _)]) rfl rfl (.inl rfl) ?_
     simp only [V0.down, simprocAttr, e_i64, gv_s]
     (try simp only [VN.down, simprocAttr, e_i64] at hP ⊢); exact hP
    exact w_ret (r0 _ (.inl (w_fin [.uslice 1 (x3.map e_i64)] rfl (by cases someE h; rfl) (by decide) outs_nil)))
 obtain ⟨n, h⟩ := limE h
 exact w_loop (.inr ⟨_, weak_mix [] rfl (wk_wd (t := 3) (d := .nils) (d' := .uslice 1 []) rfl rfl (.nilsU _) (by decide) (wk_eq (t := 6) (d := .slice (a0.map e_impl_Term)) rfl (wk_eq (t := 7) (d := .int .i64 (a0.length : Int)) rfl (wk_eq (t := 8) (d := .int .i64 0) rfl (wk_nil))))), L8 n [] 0 h⟩)

theorem ok_impl_VariablesOf (a0 : List impl_Term) (r : (List Int) × Int) (h : impl_VariablesOf a0 = some r) : OkAt Cc 58 [.slice (a0.map e_impl_Term)] (.tuple [.uslice 1 (r.1.map e_i64), .int .i64 r.2]) [] := by
 refine OkAt.of_wpR (fx := [0]) Cc_ok [.tmp 2, .tmp 3] [(0, .slice (a0.map e_impl_Term))] Try.func58 rfl rfl s58 (Nat.le_of_ble_eq_true rfl) rfl rfl (fun Q0 r0 n0 => ?_)
 refine ws _ ?_
 refine w_seq (fun Q2 n2 q2 x2 => ?_)
 obtain ⟨x1, e4, h⟩ := bindE h
 refine wsc (ok_impl_termsOk a0 _ e4) _ ?_
 rcases condE h with ⟨b5, h⟩ | ⟨b5, h⟩
 ·refine w_ct (congrArg AV.bool b5) ?_
  simp only [(bnT b5), Bool.not_true, Bool.not_false]
  refine ws _ ?_
  exact w_ret (q2 _ (r0 _ (.inr ⟨[(2, .uslice 1 []), (3, .int .i64 1)], weak_mix [] rfl (wk_wd (t := 2) (d := .nils) rfl rfl (.nilsU _) (by decide) (wk_eq rfl (wk_nil))), w_fin [.uslice 1 [], .int .i64 1] rfl (by cases someE h; rfl) (by decide) outs_nil⟩)))
 ·refine w_cf (congrArg AV.bool b5) ?_
  simp only [(bnF b5), Bool.not_true, Bool.not_false]
  refine w_skip (n2 _ (.inl ?_))
  obtain ⟨x2, e8, h⟩ := bindE h
  refine wsc (ok_impl_variables a0 _ e8) _ ?_
  exact w_ret (r0 _ (.inl (w_fin [.uslice 1 (x2.map e_i64), .int .i64 0] rfl (by cases someE h; rfl) (by decide) outs_nil)))

set_option maxHeartbeats 800000 in
theorem ok_laws_eqInt64S (a0 : List Int) (a1 : List Int) (r : Bool) (h : laws_eqInt64S a0 a1 = some r) : OkAt Cc 59 [.slice (a0.map e_i64), .slice (a1.map e_i64)] (.bool r) [] := by
 refine OkAt.of_wpR (fx := [0, 1]) Cc_ok [.tmp 4] [(0, .slice (a0.map e_i64)), (1, .slice (a1.map e_i64))] Try.func59 rfl rfl s59 (Nat.le_of_ble_eq_true rfl) rfl rfl (fun Q0 r0 n0 => ?_)
 refine ws _ ?_
 refine w_seq (fun Q2 n2 q2 x2 => ?_)
 refine ws _ ?_
 rcases condE h with ⟨b4, h⟩ | ⟨b4, h⟩
 ·refine w_ct (congrArg AV.bool b4) ?_
  simp only [b4, Bool.not_true, Bool.not_false]
  refine ws _ ?_
  exact w_ret (q2 _ (r0 _ (.inl (w_fin [.bool false] rfl (by cases someE h; rfl) (by decide) outs_nil))))
 ·refine w_cf (congrArg AV.bool b4) ?_
  simp only [b4, Bool.not_true, Bool.not_false]
  refine w_skip (n2 _ (.inl ?_))
  refine w_seq (fun Q6 n6 q6 x6 => ?_)
  refine ws _ ?_
  refine w_blk (fun Q8 n8 q8 b8 x8 => ?_)
  have L14 : ∀ (n : Nat) (v5_14 : Int), laws_eqInt64S_l14 a0 a1 n v5_14 = some r → lpC Cc c59_15 Q8 (stA [(0, .slice (a0.map e_i64)), (1, .slice (a1.map e_i64)), (5, .int .i64 v5_14)]) := by
   intro m14
   induction m14 with
   | zero => intro v5_14 h; cases (show none = some r from h)
   | succ m14 ih14 =>
    intro v5_14 h
    replace h : laws_eqInt64S_b14 (laws_eqInt64S_l14 a0 a1 m14) a0 a1 v5_14 = some r := h
    refine lpC_step (fun Q9 n9 q9 x9 => ?_)
    refine w_seq (fun Q10 n10 q10 x10 => ?_)
    refine ws _ ?_
    rcases condE h with ⟨b12, h⟩ | ⟨b12, h⟩
    ·refine w_ct (congrArg AV.bool b12) ?_
     simp only [b12, Bool.not_true, Bool.not_false]
     refine w_skip (n10 _ (.inl ?_))
     refine w_seq (fun Q13 n13 q13 x13 => ?_)
     refine w_blk (fun Q14 n14 q14 b14 x14 => ?_)
     obtain ⟨x1, e16, h⟩ := bindE h
     obtain ⟨x2, e17, h⟩ := bindE h
     refine w_sdrw rfl (w_absd [(0, .slice (a0.map e_i64)), (1, .slice (a1.map e_i64)), (5, .int .i64 v5_14), (25, .bool (x1 != x2))] (fun P hP => ?_) ?_)
     ·simp only [V1.down, simprocAttr, tt2, tt68, e_i64, e16, e17]
      refine ⟨okP_D (by kernel_rfl), ?_⟩
      (try simp only [VN.down, simprocAttr, e_i64, e16, e17] at hP ⊢); exact hP
     rcases condE h with ⟨b18, h⟩ | ⟨b18, h⟩
     ·refine w_ct (congrArg AV.bool b18) ?_
      simp only [b18, Bool.not_true, Bool.not_false]
      refine ws _ ?_
      exact w_ret (q14 _ (q13 _ (q9 _ (q8 _ (q6 _ (r0 _ (.inl (w_fin [.bool false] rfl (by cases someE h; rfl) (by decide) outs_nil))))))))
     ·refine w_cf (congrArg AV.bool b18) ?_
      simp only [b18, Bool.not_true, Bool.not_false]
      refine w_skip (n14 _ (n13 _ (.inl ?_)))
      refine wr _ ?_
      exact n9 _ (.inr ⟨_, weak_eq rfl, ih14 (IntKind.i64.wrap (v5_14 + 1)) h⟩)
    ·refine w_cf (congrArg AV.bool b12) ?_
     simp only [b12, Bool.not_true, Bool.not_false]
     refine w_ex (x10 0 _ (x9 0 _ (b8 _ (n6 _ (.inl ?_)))))
     refine ws _ ?_
     exact w_ret (r0 _ (.inl (w_fin [.bool true] rfl (by cases someE h; rfl) (by decide) outs_nil)))
  obtain ⟨n, h⟩ := limE h
  exact w_loop (.inr ⟨_, weak_eq rfl, L14 n 0 h⟩)

theorem ok_laws_eqTerm (a0 : impl_Term) (a1 : impl_Term) (r : Bool) (h : laws_eqTerm a0 a1 = some r) : OkAt Cc 111 [e_impl_Term a0, e_impl_Term a1] (.bool r) [] := by
 refine OkAt.of_wpR (fx := [0, 1]) Cc_ok [.tmp 4] [(0, e_impl_Term a0), (1, e_impl_Term a1)] Try.func111 rfl rfl s111 (Nat.le_of_ble_eq_true rfl) rfl rfl (fun Q0 r0 n0 => ?_)
 refine ws _ ?_
 refine w_seq (fun Q2 n2 q2 x2 => ?_)
 refine ws _ ?_
 rcases condE h with ⟨b4, h⟩ | ⟨b4, h⟩
 ·refine w_ct (congrArg AV.bool b4) ?_
  simp only [b4, Bool.not_true, Bool.not_false]
  refine ws _ ?_
  exact w_ret (q2 _ (r0 _ (.inl (w_fin [.bool false] rfl (by cases someE h; rfl) (by decide) outs_nil))))
 ·refine w_cf (congrArg AV.bool b4) ?_
  simp only [b4, Bool.not_true, Bool.not_false]
  refine w_skip (n2 _ (.inl ?_))
  refine w_seq (fun Q6 n6 q6 x6 => ?_)
  refine ws _ ?_
  rcases condE h with ⟨b8, h⟩ | ⟨b8, h⟩
  ·refine w_ct (congrArg AV.bool b8) ?_
   simp only [b8, Bool.not_true, Bool.not_false]
   refine ws _ ?_
   exact w_ret (q6 _ (r0 _ (.inl (w_fin [.bool false] rfl (by cases someE h; rfl) (by decide) outs_nil))))
  ·refine w_cf (congrArg AV.bool b8) ?_
   simp only [b8, Bool.not_true, Bool.not_false]
   refine w_skip (n6 _ (.inl ?_))
   refine ws _ ?_
   exact w_ret (r0 _ (.inl (w_fin [.bool true] rfl (by cases someE h; rfl) (by decide) outs_nil)))

set_option maxHeartbeats 800000 in
theorem ok_laws_eqTermS (a0 : List impl_Term) (a1 : List impl_Term) (r : Bool) (h : laws_eqTermS a0 a1 = some r) : OkAt Cc 35 [.slice (a0.map e_impl_Term), .slice (a1.map e_impl_Term)] (.bool r) [] := by
 refine OkAt.of_wpR (fx := [0, 1]) Cc_ok [.tmp 4] [(0, .slice (a0.map e_impl_Term)), (1, .slice (a1.map e_impl_Term))] Try.func35 rfl rfl s35 (Nat.le_of_ble_eq_true rfl) rfl rfl (fun Q0 r0 n0 => ?_)
 refine ws _ ?_
 refine w_seq (fun Q2 n2 q2 x2 => ?_)
 refine ws _ ?_
 rcases condE h with ⟨b4, h⟩ | ⟨b4, h⟩
 ·refine w_ct (congrArg AV.bool b4) ?_
  simp only [b4, Bool.not_true, Bool.not_false]
  refine ws _ ?_
  exact w_ret (q2 _ (r0 _ (.inl (w_fin [.bool false] rfl (by cases someE h; rfl) (by decide) outs_nil))))
 ·refine w_cf (congrArg AV.bool b4) ?_
  simp only [b4, Bool.not_true, Bool.not_false]
  refine w_skip (n2 _ (.inl ?_))
  refine w_seq (fun Q6 n6 q6 x6 => ?_)
  refine ws _ ?_
  refine w_blk (fun Q8 n8 q8 b8 x8 => ?_)
  have L14 : ∀ (n : Nat) (v5_14 : Int), laws_eqTermS_l14 a0 a1 n v5_14 = some r → lpC Cc c35_15 Q8 (stA [(0, .slice (a0.map e_impl_Term)), (1, .slice (a1.map e_impl_Term)), (5, .int .i64 v5_14)]) := by
   intro m14
   induction m14 with
   | zero => intro v5_14 h; cases (show none = some r from h)
   | succ m14 ih14 =>
    intro v5_14 h
    replace h : laws_eqTermS_b14 (laws_eqTermS_l14 a0 a1 m14) a0 a1 v5_14 = some r := h
    refine lpC_step (fun Q9 n9 q9 x9 => ?_)
    refine w_seq (fun Q10 n10 q10 x10 => ?_)
    refine ws _ ?_
    rcases condE h with ⟨b12, h⟩ | ⟨b12, h⟩
    ·refine w_ct (congrArg AV.bool b12) ?_
     simp only [b12, Bool.not_true, Bool.not_false]
     refine w_skip (n10 _ (.inl ?_))
     refine w_seq (fun Q13 n13 q13 x13 => ?_)
     refine w_blk (fun Q14 n14 q14 b14 x14 => ?_)
     obtain ⟨x1, e16, h⟩ := bindE h
     obtain ⟨x2, e17, h⟩ := bindE h
     obtain ⟨x3, e18, h⟩ := bindE h
     refine w_sdrw rfl (w_absd [(0, .slice (a0.map e_impl_Term)), (1, .slice (a1.map e_impl_Term)), (5, .int .i64 v5_14), (26, .bool (!x3))] (fun P hP => ?_) ?_)
     ·simp only [V1.down, simprocAttr, zz2.down, e16, e17]
      refine w_call1 (ok_laws_eqTerm x1 x2 _ e18) rfl rfl rfl rfl (.inl (by rfl)) ?_
      simp only [V1.down, simprocAttr, zz2.down, e16, e17]
      refine ⟨okP_D (by kernel_rfl), ?_⟩
      (try simp only [VN.down, simprocAttr, e_impl_Term, e16, e17] at hP ⊢); exact hP
     rcases condE h with ⟨b19, h⟩ | ⟨b19, h⟩
     ·refine w_ct (congrArg AV.bool b19) ?_
      simp only [(bnT b19), Bool.not_true, Bool.not_false]
      refine ws _ ?_
      exact w_ret (q14 _ (q13 _ (q9 _ (q8 _ (q6 _ (r0 _ (.inl (w_fin [.bool false] rfl (by cases someE h; rfl) (by decide) outs_nil))))))))
     ·refine w_cf (congrArg AV.bool b19) ?_
      simp only [(bnF b19), Bool.not_true, Bool.not_false]
      refine w_skip (n14 _ (n13 _ (.inl ?_)))
      refine wr _ ?_
      exact n9 _ (.inr ⟨_, weak_eq rfl, ih14 (IntKind.i64.wrap (v5_14 + 1)) h⟩)
    ·refine w_cf (congrArg AV.bool b12) ?_
     simp only [b12, Bool.not_true, Bool.not_false]
     refine w_ex (x10 0 _ (x9 0 _ (b8 _ (n6 _ (.inl ?_)))))
     refine ws _ ?_
     exact w_ret (r0 _ (.inl (w_fin [.bool true] rfl (by cases someE h; rfl) (by decide) outs_nil)))
  obtain ⟨n, h⟩ := limE h
  exact w_loop (.inr ⟨_, weak_eq rfl, L14 n 0 h⟩)

theorem ok_laws_markTermS (a0 : List impl_Term) (a1 : Int) (r : Int × (List impl_Term)) (h : laws_markTermS a0 a1 = some r) : OkAt Cc 60 [.uslice 2 (a0.map e_impl_Term), .int .i64 a1] (.int .i64 r.1) [.uslice 2 (r.2.map e_impl_Term), .hole] := by
 refine OkAt.of_wpR (fx := [0]) Cc_ok [.tmp 4] [(0, .uslice 2 (a0.map e_impl_Term)), (1, .int .i64 a1)] Try.func60 rfl rfl s60 (Nat.le_of_ble_eq_true rfl) rfl rfl (fun Q0 r0 n0 => ?_)
 refine ws _ ?_
 refine w_seq (fun Q2 n2 q2 x2 => ?_)
 refine ws _ ?_
 refine w_blk (fun Q4 n4 q4 b4 x4 => ?_)
 have L6 : ∀ (n : Nat) (v0_6 : List impl_Term) (v1_6 : Int) (v5_6 : Int), laws_markTermS_l6 n v0_6 v1_6 v5_6 = some r → lpC Cc c60_7 Q4 (stA [(0, .uslice 2 (v0_6.map e_impl_Term)), (1, .int .i64 v1_6), (5, .int .i64 v5_6)]) := by
  intro m6
  induction m6 with
  | zero => intro v0_6 v1_6 v5_6 h; cases (show none = some r from h)
  | succ m6 ih6 =>
   intro v0_6 v1_6 v5_6 h
   replace h : laws_markTermS_b6 (laws_markTermS_l6 m6) v0_6 v1_6 v5_6 = some r := h
   refine lpC_step (fun Q5 n5 q5 x5 => ?_)
   refine w_seq (fun Q6 n6 q6 x6 => ?_)
   refine ws _ ?_
   rcases condE h with ⟨b8, h⟩ | ⟨b8, h⟩
   ·refine w_ct (congrArg AV.bool b8) ?_
    simp only [b8, Bool.not_true, Bool.not_false]
    refine w_skip (n6 _ (.inl ?_))
    refine w_seq (fun Q9 n9 q9 x9 => ?_)
    refine w_blk (fun Q10 n10 q10 b10 x10 => ?_)
    obtain ⟨x1, e12, h⟩ := bindE h
    refine w_sreg (w_abs [(0, .uslice 2 ((List.set v0_6 (Int.toNat v5_6) (impl_Term.mk v1_6 x1.Value)).map e_impl_Term)), (1, .int .i64 v1_6), (5, .int .i64 v5_6)] (fun P hP => ?_) ?_)
    ·simp only [V0.down, simprocAttr, zz2.down, e12, getI_get e12, own_s, stoS]
     (try simp only [VN.down, simprocAttr, e_impl_Term, e12, getI_get e12, own_s, stoS] at hP ⊢); exact hP
    refine ws [(0, .uslice 2 ((List.set v0_6 (Int.toNat v5_6) (impl_Term.mk v1_6 x1.Value)).map e_impl_Term)), (1, .int .i64 (IntKind.i64.wrap (v1_6 + 1))), (5, .int .i64 v5_6)] ?_
    obtain ⟨x2, e15, h⟩ := bindE h
    refine w_sreg (w_abs [(0, .uslice 2 ((List.set (List.set v0_6 (Int.toNat v5_6) (impl_Term.mk v1_6 x1.Value)) (Int.toNat v5_6) (impl_Term.mk x2.Kind (IntKind.i64.wrap (v1_6 + 1)))).map e_impl_Term)), (1, .int .i64 (IntKind.i64.wrap (v1_6 + 1))), (5, .int .i64 v5_6)] (fun P hP => ?_) ?_)
    ·simp only [V0.down, simprocAttr, zz2.down, e15, getI_get e15, own_s, stoS]
     (try simp only [VN.down, simprocAttr, e_impl_Term, e15, getI_get e15, own_s, stoS] at hP ⊢); exact hP
    refine wr [(0, .uslice 2 ((List.set (List.set v0_6 (Int.toNat v5_6) (impl_Term.mk v1_6 x1.Value)) (Int.toNat v5_6) (impl_Term.mk x2.Kind (IntKind.i64.wrap (v1_6 + 1)))).map e_impl_Term)), (1, .int .i64 (IntKind.i64.wrap ((IntKind.i64.wrap (v1_6 + 1)) + 1))), (5, .int .i64 v5_6)] ?_
    refine n10 _ (n9 _ (.inl ?_))
    refine wr [(0, .uslice 2 ((List.set (List.set v0_6 (Int.toNat v5_6) (impl_Term.mk v1_6 x1.Value)) (Int.toNat v5_6) (impl_Term.mk x2.Kind (IntKind.i64.wrap (v1_6 + 1)))).map e_impl_Term)), (1, .int .i64 (IntKind.i64.wrap ((IntKind.i64.wrap (v1_6 + 1)) + 1))), (5, .int .i64 (IntKind.i64.wrap (v5_6 + 1)))] ?_
    exact n5 _ (.inr ⟨_, weak_eq rfl, ih6 (List.set (List.set v0_6 (Int.toNat v5_6) (impl_Term.mk v1_6 x1.Value)) (Int.toNat v5_6) (impl_Term.mk x2.Kind (IntKind.i64.wrap (v1_6 + 1)))) (IntKind.i64.wrap ((IntKind.i64.wrap (v1_6 + 1)) + 1)) (IntKind.i64.wrap (v5_6 + 1)) h⟩)
   ·refine w_cf (congrArg AV.bool b8) ?_
    simp only [b8, Bool.not_true, Bool.not_false]
    refine w_ex (x6 0 _ (x5 0 _ (b4 _ (n2 _ (.inl ?_)))))
    refine ws _ ?_
    exact w_ret (r0 _ (.inl (w_fin [.int .i64 v1_6] rfl (by cases someE h; rfl) (by decide) (outs_of (out_is (by cases someE h; rfl) rfl rfl rfl (out_no (out_end)))))))
 obtain ⟨n, h⟩ := limE h
 exact w_loop (.inr ⟨_, weak_eq rfl, L6 n a0 a1 0 h⟩)

theorem ok_laws_markInt64S (a0 : List Int) (a1 : Int) (r : Int × (List Int)) (h : laws_markInt64S a0 a1 = some r) : OkAt Cc 61 [.uslice 1 (a0.map e_i64), .int .i64 a1] (.int .i64 r.1) [.uslice 1 (r.2.map e_i64), .hole] := by
 refine OkAt.of_wpR (fx := [0]) Cc_ok [.tmp 4] [(0, .uslice 1 (a0.map e_i64)), (1, .int .i64 a1)] Try.func61 rfl rfl s61 (Nat.le_of_ble_eq_true rfl) rfl rfl (fun Q0 r0 n0 => ?_)
 refine ws _ ?_
 refine w_seq (fun Q2 n2 q2 x2 => ?_)
 refine ws _ ?_
 refine w_blk (fun Q4 n4 q4 b4 x4 => ?_)
 have L6 : ∀ (n : Nat) (v0_6 : List Int) (v1_6 : Int) (v5_6 : Int), laws_markInt64S_l6 n v0_6 v1_6 v5_6 = some r → lpC Cc c61_7 Q4 (stA [(0, .uslice 1 (v0_6.map e_i64)), (1, .int .i64 v1_6), (5, .int .i64 v5_6)]) := by
  intro m6
  induction m6 with
  | zero => intro v0_6 v1_6 v5_6 h; cases (show none = some r from h)
  | succ m6 ih6 =>
   intro v0_6 v1_6 v5_6 h
   replace h : laws_markInt64S_b6 (laws_markInt64S_l6 m6) v0_6 v1_6 v5_6 = some r := h
   refine lpC_step (fun Q5 n5 q5 x5 => ?_)
   refine w_seq (fun Q6 n6 q6 x6 => ?_)
   refine ws _ ?_
   rcases condE h with ⟨b8, h⟩ | ⟨b8, h⟩
   ·refine w_ct (congrArg AV.bool b8) ?_
    simp only [b8, Bool.not_true, Bool.not_false]
    refine w_skip (n6 _ (.inl ?_))
    refine w_seq (fun Q9 n9 q9 x9 => ?_)
    refine w_blk (fun Q10 n10 q10 b10 x10 => ?_)
    obtain ⟨x1, e12, h⟩ := bindE h
    refine w_sreg (w_abs [(0, .uslice 1 ((List.set v0_6 (Int.toNat v5_6) v1_6).map e_i64)), (1, .int .i64 v1_6), (5, .int .i64 v5_6)] (fun P hP => ?_) ?_)
    ·simp only [V0.down, simprocAttr, tt2, tt68, e_i64, e12, getI_get e12, own_s, stoS]
     (try simp only [VN.down, simprocAttr, e_i64, e12, getI_get e12, own_s, stoS] at hP ⊢); exact hP
    refine wr [(0, .uslice 1 ((List.set v0_6 (Int.toNat v5_6) v1_6).map e_i64)), (1, .int .i64 (IntKind.i64.wrap (v1_6 + 1))), (5, .int .i64 v5_6)] ?_
    refine n10 _ (n9 _ (.inl ?_))
    refine wr [(0, .uslice 1 ((List.set v0_6 (Int.toNat v5_6) v1_6).map e_i64)), (1, .int .i64 (IntKind.i64.wrap (v1_6 + 1))), (5, .int .i64 (IntKind.i64.wrap (v5_6 + 1)))] ?_
    exact n5 _ (.inr ⟨_, weak_eq rfl, ih6 (List.set v0_6 (Int.toNat v5_6) v1_6) (IntKind.i64.wrap (v1_6 + 1)) (IntKind.i64.wrap (v5_6 + 1)) h⟩)
   ·refine w_cf (congrArg AV.bool b8) ?_
    simp only [b8, Bool.not_true, Bool.not_false]
    refine w_ex (x6 0 _ (x5 0 _ (b4 _ (n2 _ (.inl ?_)))))
    refine ws _ ?_
    exact w_ret (r0 _ (.inl (w_fin [.int .i64 v1_6] rfl (by cases someE h; rfl) (by decide) (outs_of (out_is (by cases someE h; rfl) rfl rfl rfl (out_no (out_end)))))))
 obtain ⟨n, h⟩ := limE h
 exact w_loop (.inr ⟨_, weak_eq rfl, L6 n a0 a1 0 h⟩)

theorem ok_laws_heldInt64S (a0 : List Int) (a1 : Int) (r : Int) (h : laws_heldInt64S a0 a1 = some r) : OkAt Cc 62 [.slice (a0.map e_i64), .int .i64 a1] (.int .i64 r) [] := by
 refine OkAt.of_wpR (fx := [0]) Cc_ok [.tmp 4] [(0, .slice (a0.map e_i64)), (1, .int .i64 a1)] Try.func62 rfl rfl s62 (Nat.le_of_ble_eq_true rfl) rfl rfl (fun Q0 r0 n0 => ?_)
 refine ws _ ?_
 refine w_seq (fun Q2 n2 q2 x2 => ?_)
 refine ws _ ?_
 refine w_blk (fun Q4 n4 q4 b4 x4 => ?_)
 have L6 : ∀ (n : Nat) (v1_6 : Int) (v5_6 : Int), laws_heldInt64S_l6 a0 n v1_6 v5_6 = some r → lpC Cc c62_7 Q4 (stA [(0, .slice (a0.map e_i64)), (1, .int .i64 v1_6), (5, .int .i64 v5_6)]) := by
  intro m6
  induction m6 with
  | zero => intro v1_6 v5_6 h; cases (show none = some r from h)
  | succ m6 ih6 =>
   intro v1_6 v5_6 h
   replace h : laws_heldInt64S_b6 (laws_heldInt64S_l6 a0 m6) a0 v1_6 v5_6 = some r := h
   refine lpC_step (fun Q5 n5 q5 x5 => ?_)
   refine w_seq (fun Q6 n6 q6 x6 => ?_)
   refine ws _ ?_
   rcases condE h with ⟨b8, h⟩ | ⟨b8, h⟩
   ·refine w_ct (congrArg AV.bool b8) ?_
    simp only [b8, Bool.not_true, Bool.not_false]
    refine w_skip (n6 _ (.inl ?_))
    refine w_seq (fun Q9 n9 q9 x9 => ?_)
    refine w_blk (fun Q10 n10 q10 b10 x10 => ?_)
    refine w_seq (fun Q11 n11 q11 x11 => ?_)
    obtain ⟨x1, e13, h⟩ := bindE h
    refine wsf e13 _ ?_
    rcases condE h with ⟨b14, h⟩ | ⟨b14, h⟩
    ·refine w_ct (congrArg AV.bool b14) ?_
     simp only [b14, Bool.not_true, Bool.not_false]
     refine ws _ ?_
     exact w_ret (q11 _ (q10 _ (q9 _ (q5 _ (q4 _ (q2 _ (r0 _ (.inl (w_fin [.int .i64 (-1)] rfl (by cases someE h; rfl) (by decide) outs_nil)))))))))
    ·refine w_cf (congrArg AV.bool b14) ?_
     simp only [b14, Bool.not_true, Bool.not_false]
     refine w_skip (n11 _ (.inl ?_))
     refine wr _ ?_
     refine n10 _ (n9 _ (.inl ?_))
     refine wr _ ?_
     exact n5 _ (.inr ⟨_, weak_eq rfl, ih6 (IntKind.i64.wrap (v1_6 + 1)) (IntKind.i64.wrap (v5_6 + 1)) h⟩)
   ·refine w_cf (congrArg AV.bool b8) ?_
    simp only [b8, Bool.not_true, Bool.not_false]
    refine w_ex (x6 0 _ (x5 0 _ (b4 _ (n2 _ (.inl ?_)))))
    refine ws _ ?_
    exact w_ret (r0 _ (.inl (w_fin [.int .i64 v1_6] rfl (by cases someE h; rfl) (by decide) outs_nil)))
 obtain ⟨n, h⟩ := limE h
 exact w_loop (.inr ⟨_, weak_eq rfl, L6 n a1 0 h⟩)

set_option maxHeartbeats 1000000 in
theorem ok_laws_FnExactVariablesOf (a0 : List laws_Term) (r : Bool) (h : laws_FnExactVariablesOf a0 = some r) : OkAt Cc 12 [.slice (a0.map e_laws_Term)] (.bool r) [] := by
 refine OkAt.of_wpR (fx := [0]) Cc_ok [.tmp 2] [(0, .slice (a0.map e_laws_Term))] Try.func12 rfl rfl s12 (Nat.le_of_ble_eq_true rfl) rfl rfl (fun Q0 r0 n0 => ?_)
 refine ws _ ?_
 refine ws _ ?_
 obtain ⟨x1, e4, h⟩ := bindE h
 refine wsc (ok_laws_szTermS a0 1048576 _ e4) _ ?_
 refine w_seq (fun Q5 n5 q5 x5 => ?_)
 refine ws _ ?_
 rcases condE h with ⟨b7, h⟩ | ⟨b7, h⟩
 ·refine w_ct (congrArg AV.bool b7) ?_
  simp only [b7, Bool.not_true, Bool.not_false]
  refine ws _ ?_
  exact w_ret (q5 _ (r0 _ (.inl (w_fin [.bool true] rfl (by cases someE h; rfl) (by decide) outs_nil))))
 ·refine w_cf (congrArg AV.bool b7) ?_
  simp only [b7, Bool.not_true, Bool.not_false]
  refine w_skip (n5 _ (.inl ?_))
  obtain ⟨x2, e10, h⟩ := bindE h
  obtain ⟨x3, e11, h⟩ := bindE h
  refine w_sreg (w_abs [(0, .slice (a0.map e_laws_Term)), (4, .uslice 1 (x3.1.map e_i64)), (5, .int .i64 x3.2)] (fun P hP => ?_) ?_)
  ·simp only [V0.down, simprocAttr, zz0.down]
   refine w_call0 (ok_laws_toTermS a0 _ e10) rfl rfl rfl rfl (.inl (by rfl)) ?_
   simp only [V0.down, simprocAttr, zz0.down]
   refine w_call0 (ok_spec_VariablesOf x2 _ e11) rfl rfl (by simp only [V0.down, simprocAttr, zz0.down, view_s, view_h, viewH_s, share_s, @shares_map _ e_impl_Term e_impl_Term (fun _ => sh_e_impl_Term _)] <;> rfl) rfl (.inr (by simp only [AV.nosh, AV.noshs, @noshs_map _ e_i64 (fun _ => ns_e_i64 _), Bool.and_self])) ?_
   simp only [V0.down, simprocAttr, zz0.down]
   (try simp only [VN.down, simprocAttr, zz0.down] at hP ⊢); exact hP
  obtain ⟨x4, e13, h⟩ := bindE h
  refine wsc (ok_laws_toTermS a0 _ e13) _ ?_
  obtain ⟨x5, e15, h⟩ := bindE h
  refine w_sreg (w_abs [(0, .slice (a0.map e_laws_Term)), (4, .uslice 1 (x3.1.map e_i64)), (5, .int .i64 x3.2), (6, .uslice 2 (x4.map e_impl_Term)), (7, .uslice 1 (x5.1.map e_i64)), (8, .int .i64 x5.2)] (fun P hP => ?_) ?_)
  ·simp only [V0.down, simprocAttr, zz0.down]
   refine w_call0 (ok_impl_VariablesOf x4 _ e15) rfl rfl (by simp only [V0.down, simprocAttr, zz0.down, view_s, view_h, viewH_s, share_s, @shares_map _ e_impl_Term e_impl_Term (fun _ => sh_e_impl_Term _)] <;> rfl) rfl (.inr (by simp only [AV.nosh, AV.noshs, @noshs_map _ e_i64 (fun _ => ns_e_i64 _), Bool.and_self])) ?_
   simp only [V0.down, simprocAttr, zz0.down]
   (try simp only [VN.down, simprocAttr, zz0.down] at hP ⊢); exact hP
  refine w_seq (fun Q16 n16 q16 x16 => ?_)
  obtain ⟨x6, e18, h⟩ := bindE h
  refine w_sreg (w_abs [(0, .slice (a0.map e_laws_Term)), (4, .uslice 1 (x3.1.map e_i64)), (5, .int .i64 x3.2), (6, .uslice 2 (x4.map e_impl_Term)), (7, .uslice 1 (x5.1.map e_i64)), (8, .int .i64 x5.2), (40, .bool ((!x6) || (x5.2 != x3.2)))] (fun P hP => ?_) ?_)
  ·rcases Bool.eq_false_or_eq_true (x6) with s19 | s19
   ·simp only [V0.down, simprocAttr, zz0.down, s19]
    refine w_call0 (ok_laws_eqInt64S x5.1 x3.1 _ e18) rfl rfl (by simp only [V0.down, simprocAttr, zz0.down, s19, view_s, view_h, viewH_s, share_s, @shares_map _ e_i64 e_i64 (fun _ => sh_e_i64 _), @shares_map _ e_i64 e_i64 (fun _ => sh_e_i64 _)] <;> rfl) rfl (.inr (by rfl)) ?_
    simp only [V0.down, simprocAttr, zz0.down, s19]
    (try simp only [VN.down, simprocAttr, zz0.down, s19] at hP ⊢); exact hP
   ·simp only [V0.down, simprocAttr, zz0.down, s19]
    refine w_call0 (ok_laws_eqInt64S x5.1 x3.1 _ e18) rfl rfl (by simp only [V0.down, simprocAttr, zz0.down, s19, view_s, view_h, viewH_s, share_s, @shares_map _ e_i64 e_i64 (fun _ => sh_e_i64 _), @shares_map _ e_i64 e_i64 (fun _ => sh_e_i64 _)] <;> rfl) rfl (.inr (by rfl)) ?_
    simp only [V0.down, simprocAttr, zz0.down, s19]
    (try simp only [VN.down, simprocAttr, zz0.down, s19] at hP ⊢); exact hP
  rcases condE h with ⟨b20, h⟩ | ⟨b20, h⟩
  ·refine w_ct (congrArg AV.bool b20) ?_
   simp only [b20, Bool.not_true, Bool.not_false]
   refine ws _ ?_
   exact w_ret (q16 _ (r0 _ (.inl (w_fin [.bool false] rfl (by cases someE h; rfl) (by decide) outs_nil))))
  ·refine w_cf (congrArg AV.bool b20) ?_
   simp only [b20, Bool.not_true, Bool.not_false]
   refine w_skip (n16 _ (.inl ?_))
   refine w_seq (fun Q22 n22 q22 x22 => ?_)
   obtain ⟨x7, e24, h⟩ := bindE h
   obtain ⟨x8, e25, h⟩ := bindE h
   refine w_sreg (w_abs [(0, .slice (a0.map e_laws_Term)), (4, .uslice 1 (x3.1.map e_i64)), (5, .int .i64 x3.2), (6, .uslice 2 (x4.map e_impl_Term)), (7, .uslice 1 (x5.1.map e_i64)), (8, .int .i64 x5.2), (45, .bool (!x8))] (fun P hP => ?_) ?_)
   ·simp only [V0.down, simprocAttr, zz0.down]
    refine w_call0 (ok_laws_toTermS a0 _ e24) rfl rfl rfl rfl (.inl (by rfl)) ?_
    simp only [V0.down, simprocAttr, zz0.down]
    refine w_call0 (ok_laws_eqTermS x4 x7 _ e25) rfl rfl (by simp only [V0.down, simprocAttr, zz0.down, view_s, view_h, viewH_s, share_s, @shares_map _ e_impl_Term e_impl_Term (fun _ => sh_e_impl_Term _), @shares_map _ e_impl_Term e_impl_Term (fun _ => sh_e_impl_Term _)] <;> rfl) rfl (.inr (by rfl)) ?_
    simp only [V0.down, simprocAttr, zz0.down]
    (try simp only [VN.down, simprocAttr, zz0.down] at hP ⊢); exact hP
   rcases condE h with ⟨b26, h⟩ | ⟨b26, h⟩
   ·refine w_ct (congrArg AV.bool b26) ?_
    simp only [(bnT b26), Bool.not_true, Bool.not_false]
    refine ws _ ?_
    exact w_ret (q22 _ (r0 _ (.inl (w_fin [.bool false] rfl (by cases someE h; rfl) (by decide) outs_nil))))
   ·refine w_cf (congrArg AV.bool b26) ?_
    simp only [(bnF b26), Bool.not_true, Bool.not_false]
    refine w_skip (n22 _ (.inl ?_))
    refine ws _ ?_
    obtain ⟨x9, e30, h⟩ := bindE h
    refine w_sreg (w_abs [(0, .slice (a0.map e_laws_Term)), (4, .uslice 1 (x3.1.map e_i64)), (5, .int .i64 x3.2), (7, .uslice 1 (x5.1.map e_i64)), (8, .int .i64 x5.2), (9, .int .i64 x9.1)] (fun P hP => ?_) ?_)
    ·simp only [V0.down, simprocAttr, zz0.down]
     refine w_callp0 [⟨.h 6 [], true, _, _⟩, ⟨.int .i64 1, false, _, .hole⟩] (ok_laws_markTermS x4 1 _ e30) rfl rfl rfl (by simp only [V0.down, simprocAttr, zz0.down, c_nrm, okp_s, own_r, view_s, view_h, viewH_s, share_s, or_true, true_or, @shares_map _ e_impl_Term e_impl_Term (fun _ => sh_e_impl_Term _)]) rfl rfl (.inl rfl) ?_
     simp only [V0.down, simprocAttr, zz0.down, gv_s]
     (try simp only [VN.down, simprocAttr, zz0.down] at hP ⊢); exact hP
    refine w_seq (fun Q31 n31 q31 x31 => ?_)
    rcases condE h with ⟨b33, h⟩ | ⟨b33, h⟩
    ·refine wsf b33 _ ?_
     refine w_ct rfl ?_
     refine ws _ ?_
     exact w_ret (q31 _ (r0 _ (.inl (w_fin [.bool false] rfl (by cases someE h; rfl) (by decide) outs_nil))))
    ·obtain ⟨x10, e35, h⟩ := bindE h
     refine w_sreg (w_abs [(0, .slice (a0.map e_laws_Term)), (4, .uslice 1 (x3.1.map e_i64)), (5, .int .i64 x3.2), (7, .uslice 1 (x5.1.map e_i64)), (61, .bool ((!x10) || (x5.2 != x3.2)))] (fun P hP => ?_) ?_)
     ·rcases Bool.eq_false_or_eq_true (x10) with s36 | s36
      ·simp only [V0.down, simprocAttr, zz1.down, b33, s36]
       refine w_callg0 (ok_laws_eqInt64S x5.1 x3.1 _ e35) rfl rfl (by simp only [V0.down, simprocAttr, zz1.down, b33, s36, view_s, view_h, viewH_s, share_s, @shares_map _ e_i64 e_i64 (fun _ => sh_e_i64 _), @shares_map _ e_i64 e_i64 (fun _ => sh_e_i64 _)] <;> rfl) rfl (.inr (by rfl)) ?_
       simp only [V0.down, simprocAttr, zz1.down, b33, s36]
       (try simp only [VN.down, simprocAttr, zz1.down, b33, s36] at hP ⊢); exact hP
      ·simp only [V0.down, simprocAttr, zz1.down, b33, s36]
       refine w_callg0 (ok_laws_eqInt64S x5.1 x3.1 _ e35) rfl rfl (by simp only [V0.down, simprocAttr, zz1.down, b33, s36, view_s, view_h, viewH_s, share_s, @shares_map _ e_i64 e_i64 (fun _ => sh_e_i64 _), @shares_map _ e_i64 e_i64 (fun _ => sh_e_i64 _)] <;> rfl) rfl (.inr (by rfl)) ?_
       simp only [V0.down, simprocAttr, zz1.down, b33, s36]
       (try simp only [VN.down, simprocAttr, zz1.down, b33, s36] at hP ⊢); exact hP
     rcases condE h with ⟨b37, h⟩ | ⟨b37, h⟩
     ·refine w_ct (congrArg AV.bool b37) ?_
      simp only [b37, Bool.not_true, Bool.not_false]
      refine ws _ ?_
      exact w_ret (q31 _ (r0 _ (.inl (w_fin [.bool false] rfl (by cases someE h; rfl) (by decide) outs_nil))))
     ·refine w_cf (congrArg AV.bool b37) ?_
      simp only [b37, Bool.not_true, Bool.not_false]
      refine w_skip (n31 _ (.inl ?_))
      refine ws _ ?_
      obtain ⟨x11, e41, h⟩ := bindE h
      refine w_sreg (w_abs [(0, .slice (a0.map e_laws_Term)), (4, .uslice 1 (x3.1.map e_i64)), (5, .int .i64 x3.2), (7, .uslice 1 (x11.2.map e_i64)), (10, .int .i64 x11.1)] (fun P hP => ?_) ?_)
      ·simp only [V0.down, simprocAttr, zz1.down]
       refine w_callp0 [⟨.h 7 [], true, _, _⟩, ⟨.int .i64 1, false, _, .hole⟩] (ok_laws_markInt64S x5.1 1 _ e41) rfl rfl rfl (by simp only [V0.down, simprocAttr, zz1.down, c_nrm, okp_s, own_r, view_s, view_h, viewH_s, share_s, or_true, true_or, @shares_map _ e_i64 e_i64 (fun _ => sh_e_i64 _)]) rfl rfl (.inl rfl) ?_
       simp only [V0.down, simprocAttr, zz1.down, gv_s]
       (try simp only [VN.down, simprocAttr, zz1.down] at hP ⊢); exact hP
      refine ws _ ?_
      obtain ⟨x12, e44, h⟩ := bindE h
      refine w_sreg (w_abs [(0, .slice (a0.map e_laws_Term)), (4, .uslice 1 (x3.1.map e_i64)), (5, .int .i64 x3.2), (7, .uslice 1 (x11.2.map e_i64)), (10, .int .i64 x11.1), (11, .int .i64 x12)] (fun P hP => ?_) ?_)
      ·simp only [V0.down, simprocAttr, zz1.down]
       refine w_call0 (ok_laws_heldInt64S x11.2 1 _ e44) rfl rfl (by simp only [V0.down, simprocAttr, zz1.down, view_s, view_h, viewH_s, share_s, @shares_map _ e_i64 e_i64 (fun _ => sh_e_i64 _)] <;> rfl) rfl (.inr (by rfl)) ?_
       simp only [V0.down, simprocAttr, zz1.down]
       (try simp only [VN.down, simprocAttr, zz1.down] at hP ⊢); exact hP
      refine w_seq (fun Q45 n45 q45 x45 => ?_)
      refine ws _ ?_
      rcases condE h with ⟨b47, h⟩ | ⟨b47, h⟩
      ·refine w_ct (congrArg AV.bool b47) ?_
       simp only [b47, Bool.not_true, Bool.not_false]
       refine ws _ ?_
       exact w_ret (q45 _ (r0 _ (.inl (w_fin [.bool false] rfl (by cases someE h; rfl) (by decide) outs_nil))))
      ·refine w_cf (congrArg AV.bool b47) ?_
       simp only [b47, Bool.not_true, Bool.not_false]
       refine w_skip (n45 _ (.inl ?_))
       refine w_seq (fun Q49 n49 q49 x49 => ?_)
       refine ws _ ?_
       rcases condE h with ⟨b51, h⟩ | ⟨b51, h⟩
       ·refine w_ct (congrArg AV.bool b51) ?_
        simp only [b51, Bool.not_true, Bool.not_false]
        refine ws _ ?_
        exact w_ret (q49 _ (r0 _ (.inl (w_fin [.bool false] rfl (by cases someE h; rfl) (by decide) outs_nil))))
       ·refine w_cf (congrArg AV.bool b51) ?_
        simp only [b51, Bool.not_true, Bool.not_false]
        refine w_skip (n49 _ (.inl ?_))
        obtain ⟨x13, e54, h⟩ := bindE h
        obtain ⟨x14, e55, h⟩ := bindE h
        refine w_sreg (w_abs [(4, .uslice 1 (x3.1.map e_i64)), (5, .int .i64 x3.2), (7, .uslice 1 (x11.2.map e_i64)), (10, .int .i64 x11.1), (12, .uslice 1 (x14.1.map e_i64)), (13, .int .i64 x14.2)] (fun P hP => ?_) ?_)
        ·simp only [V0.down, simprocAttr, zz0.down]
         refine w_call0 (ok_laws_toTermS a0 _ e54) rfl rfl rfl rfl (.inl (by rfl)) ?_
         simp only [V0.down, simprocAttr, zz0.down]
         refine w_call0 (ok_impl_VariablesOf x13 _ e55) rfl rfl (by simp only [V0.down, simprocAttr, zz0.down, view_s, view_h, viewH_s, share_s, @shares_map _ e_impl_Term e_impl_Term (fun _ => sh_e_impl_Term _)] <;> rfl) rfl (.inr (by simp only [AV.nosh, AV.noshs, @noshs_map _ e_i64 (fun _ => ns_e_i64 _), Bool.and_self])) ?_
         simp only [V0.down, simprocAttr, zz0.down]
         (try simp only [VN.down, simprocAttr, zz0.down] at hP ⊢); exact hP
        refine w_seq (fun Q56 n56 q56 x56 => ?_)
        obtain ⟨x15, e58, h⟩ := bindE h
        refine w_sreg (w_abs [(7, .uslice 1 (x11.2.map e_i64)), (10, .int .i64 x11.1), (87, .bool ((!x15) || (x14.2 != x3.2)))] (fun P hP => ?_) ?_)
        ·rcases Bool.eq_false_or_eq_true (x15) with s59 | s59
         ·simp only [V0.down, simprocAttr, e_i64, s59]
          refine w_call0 (ok_laws_eqInt64S x14.1 x3.1 _ e58) rfl rfl (by simp only [V0.down, simprocAttr, e_i64, s59, view_s, view_h, viewH_s, share_s, @shares_map _ e_i64 e_i64 (fun _ => sh_e_i64 _), @shares_map _ e_i64 e_i64 (fun _ => sh_e_i64 _)] <;> rfl) rfl (.inr (by rfl)) ?_
          simp only [V0.down, simprocAttr, e_i64, s59]
          (try simp only [VN.down, simprocAttr, e_i64, s59] at hP ⊢); exact hP
         ·simp only [V0.down, simprocAttr, e_i64, s59]
          refine w_call0 (ok_laws_eqInt64S x14.1 x3.1 _ e58) rfl rfl (by simp only [V0.down, simprocAttr, e_i64, s59, view_s, view_h, viewH_s, share_s, @shares_map _ e_i64 e_i64 (fun _ => sh_e_i64 _), @shares_map _ e_i64 e_i64 (fun _ => sh_e_i64 _)] <;> rfl) rfl (.inr (by rfl)) ?_
          simp only [V0.down, simprocAttr, e_i64, s59]
          (try simp only [VN.down, simprocAttr, e_i64, s59] at hP ⊢); exact hP
        rcases condE h with ⟨b60, h⟩ | ⟨b60, h⟩
        ·refine w_ct (congrArg AV.bool b60) ?_
         simp only [b60, Bool.not_true, Bool.not_false]
         refine ws _ ?_
         exact w_ret (q56 _ (r0 _ (.inl (w_fin [.bool false] rfl (by cases someE h; rfl) (by decide) outs_nil))))
        ·refine w_cf (congrArg AV.bool b60) ?_
         simp only [b60, Bool.not_true, Bool.not_false]
         refine w_skip (n56 _ (.inl ?_))
         refine ws _ ?_
         obtain ⟨x16, e64, h⟩ := bindE h
         refine w_sreg (w_abs [(10, .int .i64 x11.1), (11, .int .i64 x16)] (fun P hP => ?_) ?_)
         ·simp only [V0.down, simprocAttr, e_i64]
          refine w_call0 (ok_laws_heldInt64S x11.2 1 _ e64) rfl rfl (by simp only [V0.down, simprocAttr, e_i64, view_s, view_h, viewH_s, share_s, @shares_map _ e_i64 e_i64 (fun _ => sh_e_i64 _)] <;> rfl) rfl (.inr (by rfl)) ?_
          simp only [V0.down, simprocAttr, e_i64]
          (try simp only [VN.down, simprocAttr, e_i64] at hP ⊢); exact hP
         refine w_seq (fun Q65 n65 q65 x65 => ?_)
         refine ws _ ?_
         rcases condE h with ⟨b67, h⟩ | ⟨b67, h⟩
         ·refine w_ct (congrArg AV.bool b67) ?_
          simp only [b67, Bool.not_true, Bool.not_false]
          refine ws _ ?_
          exact w_ret (q65 _ (r0 _ (.inl (w_fin [.bool false] rfl (by cases someE h; rfl) (by decide) outs_nil))))
         ·refine w_cf (congrArg AV.bool b67) ?_
          simp only [b67, Bool.not_true, Bool.not_false]
          refine w_skip (n65 _ (.inl ?_))
          refine w_seq (fun Q69 n69 q69 x69 => ?_)
          refine ws _ ?_
          rcases condE h with ⟨b71, h⟩ | ⟨b71, h⟩
          ·refine w_ct (congrArg AV.bool b71) ?_
           simp only [b71, Bool.not_true, Bool.not_false]
           refine ws _ ?_
           exact w_ret (q69 _ (r0 _ (.inl (w_fin [.bool false] rfl (by cases someE h; rfl) (by decide) outs_nil))))
          ·refine w_cf (congrArg AV.bool b71) ?_
           simp only [b71, Bool.not_true, Bool.not_false]
           refine w_skip (n69 _ (.inl ?_))
           refine ws _ ?_
           exact w_ret (r0 _ (.inl (w_fin [.bool true] rfl (by cases someE h; rfl) (by decide) outs_nil)))

end Go.Proofs.Ytobljppjkklojaa
