/- Part of a proof that a law returns true for every input. No condition. -/
import Derived.Test.YtobljppjkklojaaSl
namespace Go.Proofs.Ytobljppjkklojaa
open Go Go.Fw Go.Sh
set_option maxRecDepth 100000
set_option linter.unusedSimpArgs false
set_option linter.unusedVariables false

def ZZ := PLift.up (And.intro @tt2 (And.intro @tt4 (And.intro @tt9 (And.intro @tt36 (And.intro @tt40 (And.intro @tt68 (And.intro @tt84 (And.intro @tt86 (And.intro @tt88 (And.intro @tt90 (And.intro @tt131 (And.intro @tt133 (And.intro @tt195 (And.intro @tt197 (And.intro @tt214 (And.intro @tt260 (And.intro @tt262 (And.intro @tt308 (And.intro @e_bool.eq_1 (And.intro @e_i64.eq_1 (And.intro @e_impl_Linear.eq_1 (And.intro @e_impl_Summand.eq_1 (And.intro @e_impl_Term.eq_1 (And.intro @e_laws_Linear.eq_1 (And.intro @e_laws_Summand.eq_1 (And.intro @e_laws_Term.eq_1 (And.intro @e_s_impl_Term.eq_1 (And.intro @e_s_laws_Term.eq_1 (And.intro @e_s_s_impl_Term.eq_1 (And.intro @u_impl_Linear.eq_1 (And.intro @u_impl_Summand.eq_1 @u_s_impl_Term.eq_1)))))))))))))))))))))))))))))))
theorem ws {Q : Exit → St → Prop} {l : List (Nat × AV)} {ros : List RO} {k : List Nat} {b : SC} (l' : List (Nat × AV)) (hk : wpC Cc b Q (stA l')) (h : ∀ P : List (Nat × AV) → Prop, P l' → wpT Cc (stA l) ros none (fun _ s => P (kpA k s)) := by
  intro P hP
  simp only [V0.down, simprocAttr, ZZ.down]
  (try simp only [VN.down, simprocAttr, ZZ.down] at hP ⊢)
  exact hP) : wpC Cc (.seq (.reg ros (some k)) b) Q (stA l) :=
  w_sreg (w_abs l' (h) hk)
theorem wsc {Q : Exit → St → Prop} {l : List (Nat × AV)} {ros : List RO} {k : List Nat} {b : SC} {g : FuncId} {ds : List AV} {r : AV} (ok : OkAt Cc g ds r []) (l' : List (Nat × AV)) (hk : wpC Cc b Q (stA l')) (h : OkAt Cc g ds r [] → ∀ P : List (Nat × AV) → Prop, P l' → wpT Cc (stA l) ros none (fun _ s => P (kpA k s)) := by
  intro okk P hP
  (try simp only [V0.down, simprocAttr, ZZ.down])
  refine w_call0 okk rfl rfl rfl rfl (.inl (by rfl)) ?_
  simp only [V0.down, simprocAttr, ZZ.down]
  (try simp only [VN.down, simprocAttr, ZZ.down] at hP ⊢)
  exact hP) : wpC Cc (.seq (.reg ros (some k)) b) Q (stA l) :=
  w_sreg (w_abs l' (h ok) hk)
theorem wsf {F : Prop} (hF : F) {Q : Exit → St → Prop} {l : List (Nat × AV)} {ros : List RO} {k : List Nat} {b : SC} (l' : List (Nat × AV)) (hk : wpC Cc b Q (stA l')) (h : F → ∀ P : List (Nat × AV) → Prop, P l' → wpT Cc (stA l) ros none (fun _ s => P (kpA k s)) := by
  intro hF P hP
  simp only [V0.down, simprocAttr, ZZ.down, hF]
  (try simp only [VN.down, simprocAttr, ZZ.down, hF] at hP ⊢)
  exact hP) : wpC Cc (.seq (.reg ros (some k)) b) Q (stA l) :=
  w_sreg (w_abs l' (h hF) hk)
theorem wscf {F : Prop} (hF : F) {Q : Exit → St → Prop} {l : List (Nat × AV)} {ros : List RO} {k : List Nat} {b : SC} {g : FuncId} {ds : List AV} {r : AV} (ok : OkAt Cc g ds r []) (l' : List (Nat × AV)) (hk : wpC Cc b Q (stA l')) (h : OkAt Cc g ds r [] → F → ∀ P : List (Nat × AV) → Prop, P l' → wpT Cc (stA l) ros none (fun _ s => P (kpA k s)) := by
  intro okk hF P hP
  (try simp only [V0.down, simprocAttr, ZZ.down, hF])
  refine w_call0 okk rfl rfl rfl rfl (.inl (by rfl)) ?_
  simp only [V0.down, simprocAttr, ZZ.down, hF]
  (try simp only [VN.down, simprocAttr, ZZ.down, hF] at hP ⊢)
  exact hP) : wpC Cc (.seq (.reg ros (some k)) b) Q (stA l) :=
  w_sreg (w_abs l' (h ok hF) hk)
theorem wr {Q : Exit → St → Prop} {l : List (Nat × AV)} {ros : List RO} {k : List Nat} (l' : List (Nat × AV)) (hk : Q .normal (stA l')) (h : ∀ P : List (Nat × AV) → Prop, P l' → wpT Cc (stA l) ros none (fun _ s => P (kpA k s)) := by
  intro P hP
  simp only [V0.down, simprocAttr, ZZ.down]
  (try simp only [VN.down, simprocAttr, ZZ.down] at hP ⊢)
  exact hP) : wpC Cc (.reg ros (some k)) Q (stA l) :=
  w_reg (w_abs l' (h) hk)
theorem wrc {Q : Exit → St → Prop} {l : List (Nat × AV)} {ros : List RO} {k : List Nat} {g : FuncId} {ds : List AV} {r : AV} (ok : OkAt Cc g ds r []) (l' : List (Nat × AV)) (hk : Q .normal (stA l')) (h : OkAt Cc g ds r [] → ∀ P : List (Nat × AV) → Prop, P l' → wpT Cc (stA l) ros none (fun _ s => P (kpA k s)) := by
  intro okk P hP
  (try simp only [V0.down, simprocAttr, ZZ.down])
  refine w_call0 okk rfl rfl rfl rfl (.inl (by rfl)) ?_
  simp only [V0.down, simprocAttr, ZZ.down]
  (try simp only [VN.down, simprocAttr, ZZ.down] at hP ⊢)
  exact hP) : wpC Cc (.reg ros (some k)) Q (stA l) :=
  w_reg (w_abs l' (h ok) hk)
theorem wrf {F : Prop} (hF : F) {Q : Exit → St → Prop} {l : List (Nat × AV)} {ros : List RO} {k : List Nat} (l' : List (Nat × AV)) (hk : Q .normal (stA l')) (h : F → ∀ P : List (Nat × AV) → Prop, P l' → wpT Cc (stA l) ros none (fun _ s => P (kpA k s)) := by
  intro hF P hP
  simp only [V0.down, simprocAttr, ZZ.down, hF]
  (try simp only [VN.down, simprocAttr, ZZ.down, hF] at hP ⊢)
  exact hP) : wpC Cc (.reg ros (some k)) Q (stA l) :=
  w_reg (w_abs l' (h hF) hk)
theorem wrcf {F : Prop} (hF : F) {Q : Exit → St → Prop} {l : List (Nat × AV)} {ros : List RO} {k : List Nat} {g : FuncId} {ds : List AV} {r : AV} (ok : OkAt Cc g ds r []) (l' : List (Nat × AV)) (hk : Q .normal (stA l')) (h : OkAt Cc g ds r [] → F → ∀ P : List (Nat × AV) → Prop, P l' → wpT Cc (stA l) ros none (fun _ s => P (kpA k s)) := by
  intro okk hF P hP
  (try simp only [V0.down, simprocAttr, ZZ.down, hF])
  refine w_call0 okk rfl rfl rfl rfl (.inl (by rfl)) ?_
  simp only [V0.down, simprocAttr, ZZ.down, hF]
  (try simp only [VN.down, simprocAttr, ZZ.down, hF] at hP ⊢)
  exact hP) : wpC Cc (.reg ros (some k)) Q (stA l) :=
  w_reg (w_abs l' (h ok hF) hk)
def zz0 := PLift.up (And.intro @tt2 (And.intro @tt9 (And.intro @tt40 (And.intro @tt68 (And.intro @tt131 (And.intro @tt195 (And.intro @tt197 (And.intro @e_i64.eq_1 (And.intro @e_impl_Summand.eq_1 (And.intro @e_impl_Term.eq_1 @e_s_impl_Term.eq_1))))))))))
def zz1 := PLift.up (And.intro @tt2 (And.intro @tt9 (And.intro @tt40 (And.intro @tt68 (And.intro @tt88 (And.intro @tt90 (And.intro @tt131 (And.intro @tt195 (And.intro @tt197 (And.intro @e_i64.eq_1 (And.intro @e_impl_Linear.eq_1 (And.intro @e_impl_Summand.eq_1 (And.intro @e_impl_Term.eq_1 @e_s_impl_Term.eq_1)))))))))))))
def zz2 := PLift.up (And.intro @e_i64.eq_1 (And.intro @e_impl_Linear.eq_1 (And.intro @e_impl_Summand.eq_1 (And.intro @e_impl_Term.eq_1 @e_s_impl_Term.eq_1))))
def zz3 := PLift.up (And.intro @e_i64.eq_1 (And.intro @e_impl_Summand.eq_1 (And.intro @e_impl_Term.eq_1 @e_s_impl_Term.eq_1)))
def zz4 := PLift.up (And.intro @e_i64.eq_1 (And.intro @e_laws_Linear.eq_1 (And.intro @e_laws_Summand.eq_1 (And.intro @e_laws_Term.eq_1 @e_s_laws_Term.eq_1))))
def zz5 := PLift.up (And.intro @tt2 (And.intro @tt9 (And.intro @tt40 (And.intro @tt68 (And.intro @tt88 (And.intro @tt131 (And.intro @tt195 (And.intro @tt197 (And.intro @e_i64.eq_1 (And.intro @e_impl_Term.eq_1 (And.intro @u_impl_Summand.eq_1 @u_s_impl_Term.eq_1)))))))))))
def zz6 := PLift.up (And.intro @tt2 (And.intro @tt40 (And.intro @tt131 @e_impl_Term.eq_1)))
def zz7 := PLift.up (And.intro @e_i64.eq_1 (And.intro @e_impl_Term.eq_1 (And.intro @e_laws_Linear.eq_1 (And.intro @e_laws_Summand.eq_1 (And.intro @e_laws_Term.eq_1 (And.intro @e_s_laws_Term.eq_1 (And.intro @u_impl_Linear.eq_1 (And.intro @u_impl_Summand.eq_1 @u_s_impl_Term.eq_1))))))))
def zz8 := PLift.up (And.intro @e_bool.eq_1 (And.intro @e_i64.eq_1 (And.intro @e_impl_Linear.eq_1 (And.intro @e_impl_Summand.eq_1 (And.intro @e_impl_Term.eq_1 @e_s_impl_Term.eq_1)))))
def zz9 := PLift.up (And.intro @tt2 (And.intro @tt9 (And.intro @tt40 (And.intro @tt68 (And.intro @tt88 (And.intro @tt90 (And.intro @tt131 (And.intro @tt195 (And.intro @tt197 (And.intro @e_bool.eq_1 (And.intro @e_i64.eq_1 (And.intro @e_impl_Linear.eq_1 (And.intro @e_impl_Summand.eq_1 (And.intro @e_impl_Term.eq_1 @e_s_impl_Term.eq_1))))))))))))))
def zz10 := PLift.up (And.intro @e_i64.eq_1 (And.intro @e_impl_Term.eq_1 (And.intro @u_impl_Summand.eq_1 @u_s_impl_Term.eq_1)))
def zz11 := PLift.up (And.intro @tt2 (And.intro @tt9 (And.intro @tt40 (And.intro @tt68 (And.intro @tt88 (And.intro @tt90 (And.intro @tt131 (And.intro @tt195 (And.intro @tt197 (And.intro @e_i64.eq_1 (And.intro @e_impl_Term.eq_1 (And.intro @u_impl_Summand.eq_1 @u_s_impl_Term.eq_1))))))))))))
def zz12 := PLift.up (And.intro @tt2 (And.intro @tt9 (And.intro @tt36 (And.intro @tt68 (And.intro @tt84 (And.intro @tt86 (And.intro @tt133 (And.intro @tt260 (And.intro @tt262 (And.intro @e_i64.eq_1 (And.intro @e_impl_Term.eq_1 (And.intro @e_laws_Linear.eq_1 (And.intro @e_laws_Summand.eq_1 (And.intro @e_laws_Term.eq_1 (And.intro @e_s_laws_Term.eq_1 (And.intro @u_impl_Linear.eq_1 (And.intro @u_impl_Summand.eq_1 @u_s_impl_Term.eq_1)))))))))))))))))
def zz13 := PLift.up (And.intro @tt2 (And.intro @tt9 (And.intro @tt40 (And.intro @tt68 (And.intro @tt88 (And.intro @tt90 (And.intro @tt131 (And.intro @tt195 (And.intro @tt197 (And.intro @e_i64.eq_1 (And.intro @e_impl_Term.eq_1 (And.intro @e_laws_Linear.eq_1 (And.intro @e_laws_Summand.eq_1 (And.intro @e_laws_Term.eq_1 (And.intro @e_s_laws_Term.eq_1 (And.intro @u_impl_Linear.eq_1 (And.intro @u_impl_Summand.eq_1 @u_s_impl_Term.eq_1)))))))))))))))))
def zz14 := PLift.up (And.intro @tt2 (And.intro @tt68 (And.intro @e_i64.eq_1 (And.intro @e_impl_Linear.eq_1 (And.intro @e_impl_Summand.eq_1 (And.intro @e_impl_Term.eq_1 @e_s_impl_Term.eq_1))))))
def zz15 := PLift.up (And.intro @tt2 (And.intro @tt9 (And.intro @tt40 (And.intro @tt68 (And.intro @tt131 (And.intro @tt195 (And.intro @tt197 (And.intro @e_i64.eq_1 (And.intro @e_impl_Linear.eq_1 (And.intro @e_impl_Summand.eq_1 (And.intro @e_impl_Term.eq_1 @e_s_impl_Term.eq_1)))))))))))
def zz16 := PLift.up (And.intro @tt2 (And.intro @tt9 (And.intro @tt36 (And.intro @tt40 (And.intro @tt68 (And.intro @tt84 (And.intro @tt86 (And.intro @tt88 (And.intro @tt90 (And.intro @tt131 (And.intro @tt133 (And.intro @tt195 (And.intro @tt197 (And.intro @tt260 (And.intro @tt262 (And.intro @e_i64.eq_1 (And.intro @e_impl_Term.eq_1 (And.intro @e_laws_Linear.eq_1 (And.intro @e_laws_Summand.eq_1 (And.intro @e_laws_Term.eq_1 (And.intro @e_s_laws_Term.eq_1 (And.intro @u_impl_Linear.eq_1 (And.intro @u_impl_Summand.eq_1 @u_s_impl_Term.eq_1)))))))))))))))))))))))

theorem ok_laws_szInt64S (a0 : List Int) (a1 : Int) (r : Int) (h : laws_szInt64S a0 a1 = some r) : OkAt Cc 148 [.slice (a0.map e_i64), .int .i64 a1] (.int .i64 r) [] := by
 refine OkAt.of_wpR (fx := [0]) Cc_ok [.tmp 4] [(0, .slice (a0.map e_i64)), (1, .int .i64 a1)] Try.func148 rfl rfl s148 (Nat.le_of_ble_eq_true rfl) rfl rfl (fun Q0 r0 n0 => ?_)
 refine ws _ ?_
 refine ws _ ?_
 refine w_seq (fun Q3 n3 q3 x3 => ?_)
 refine ws _ ?_
 rcases condE h with ⟨b5, h⟩ | ⟨b5, h⟩
 ·refine w_ct (congrArg AV.bool b5) ?_
  simp only [b5, Bool.not_true, Bool.not_false]
  refine ws _ ?_
  exact w_ret (q3 _ (r0 _ (.inl (w_fin [.int .i64 (-1)] rfl (by cases someE h; rfl) (by decide) outs_nil))))
 ·refine w_cf (congrArg AV.bool b5) ?_
  simp only [b5, Bool.not_true, Bool.not_false]
  refine w_skip (n3 _ (.inl ?_))
  refine ws _ ?_
  exact w_ret (r0 _ (.inl (w_fin [.int .i64 (IntKind.i64.wrap (a1 - (a0.length : Int)))] rfl (by cases someE h; rfl) (by decide) outs_nil)))

theorem ok_laws_szTermS (a0 : List laws_Term) (a1 : Int) (r : Int) (h : laws_szTermS a0 a1 = some r) : OkAt Cc 31 [.slice (a0.map e_laws_Term), .int .i64 a1] (.int .i64 r) [] := by
 refine OkAt.of_wpR (fx := [0]) Cc_ok [.tmp 4] [(0, .slice (a0.map e_laws_Term)), (1, .int .i64 a1)] Try.func31 rfl rfl s31 (Nat.le_of_ble_eq_true rfl) rfl rfl (fun Q0 r0 n0 => ?_)
 refine ws _ ?_
 refine ws _ ?_
 refine w_seq (fun Q3 n3 q3 x3 => ?_)
 refine ws _ ?_
 rcases condE h with ⟨b5, h⟩ | ⟨b5, h⟩
 ·refine w_ct (congrArg AV.bool b5) ?_
  simp only [b5, Bool.not_true, Bool.not_false]
  refine ws _ ?_
  exact w_ret (q3 _ (r0 _ (.inl (w_fin [.int .i64 (-1)] rfl (by cases someE h; rfl) (by decide) outs_nil))))
 ·refine w_cf (congrArg AV.bool b5) ?_
  simp only [b5, Bool.not_true, Bool.not_false]
  refine w_skip (n3 _ (.inl ?_))
  refine ws _ ?_
  exact w_ret (r0 _ (.inl (w_fin [.int .i64 (IntKind.i64.wrap (a1 - (a0.length : Int)))] rfl (by cases someE h; rfl) (by decide) outs_nil)))

theorem ok_laws_szTermSS (a0 : List (List laws_Term)) (a1 : Int) (r : Int) (h : laws_szTermSS a0 a1 = some r) : OkAt Cc 287 [.slice (a0.map e_s_laws_Term), .int .i64 a1] (.int .i64 r) [] := by
 refine OkAt.of_wpR (fx := [0]) Cc_ok [.tmp 4] [(0, .slice (a0.map e_s_laws_Term)), (1, .int .i64 a1)] Try.func287 rfl rfl s287 (Nat.le_of_ble_eq_true rfl) rfl rfl (fun Q0 r0 n0 => ?_)
 refine ws _ ?_
 refine ws _ ?_
 refine w_seq (fun Q3 n3 q3 x3 => ?_)
 refine ws _ ?_
 rcases condE h with ⟨b5, h⟩ | ⟨b5, h⟩
 ·refine w_ct (congrArg AV.bool b5) ?_
  simp only [b5, Bool.not_true, Bool.not_false]
  refine ws _ ?_
  exact w_ret (q3 _ (r0 _ (.inl (w_fin [.int .i64 (-1)] rfl (by cases someE h; rfl) (by decide) outs_nil))))
 ·refine w_cf (congrArg AV.bool b5) ?_
  simp only [b5, Bool.not_true, Bool.not_false]
  refine w_skip (n3 _ (.inl ?_))
  refine w_seq (fun Q7 n7 q7 x7 => ?_)
  refine ws _ ?_
  refine w_blk (fun Q9 n9 q9 b9 x9 => ?_)
  have L16 : ∀ (n : Nat) (v1_16 : Int) (v5_16 : Int), laws_szTermSS_l16 a0 n v1_16 v5_16 = some r → lpC Cc c287_17 Q9 (stA [(0, .slice (a0.map e_s_laws_Term)), (1, .int .i64 v1_16), (5, .int .i64 v5_16)]) := by
   intro m16
   induction m16 with
   | zero => intro v1_16 v5_16 h; cases (show none = some r from h)
   | succ m16 ih16 =>
    intro v1_16 v5_16 h
    replace h : laws_szTermSS_b16 (laws_szTermSS_l16 a0 m16) a0 v1_16 v5_16 = some r := h
    refine lpC_step (fun Q10 n10 q10 x10 => ?_)
    refine w_seq (fun Q11 n11 q11 x11 => ?_)
    refine ws _ ?_
    rcases condE h with ⟨b13, h⟩ | ⟨b13, h⟩
    ·refine w_ct (congrArg AV.bool b13) ?_
     simp only [b13, Bool.not_true, Bool.not_false]
     refine w_skip (n11 _ (.inl ?_))
     refine w_seq (fun Q14 n14 q14 x14 => ?_)
     refine w_blk (fun Q15 n15 q15 b15 x15 => ?_)
     obtain ⟨x1, e17, h⟩ := bindE h
     obtain ⟨x2, e18, h⟩ := bindE h
     refine wscf e17 (ok_laws_szTermS x1 v1_16 _ e18) _ ?_
     refine ws _ ?_
     rcases condE h with ⟨b20, h⟩ | ⟨b20, h⟩
     ·refine w_ct (congrArg AV.bool b20) ?_
      simp only [b20, Bool.not_true, Bool.not_false]
      refine ws _ ?_
      exact w_ret (q15 _ (q14 _ (q10 _ (q9 _ (q7 _ (r0 _ (.inl (w_fin [.int .i64 (-1)] rfl (by cases someE h; rfl) (by decide) outs_nil))))))))
     ·refine w_cf (congrArg AV.bool b20) ?_
      simp only [b20, Bool.not_true, Bool.not_false]
      refine w_skip (n15 _ (n14 _ (.inl ?_)))
      refine wr _ ?_
      exact n10 _ (.inr ⟨_, weak_eq rfl, ih16 x2 (IntKind.i64.wrap (v5_16 + 1)) h⟩)
    ·refine w_cf (congrArg AV.bool b13) ?_
     simp only [b13, Bool.not_true, Bool.not_false]
     refine w_ex (x11 0 _ (x10 0 _ (b9 _ (n7 _ (.inl ?_)))))
     refine ws _ ?_
     exact w_ret (r0 _ (.inl (w_fin [.int .i64 v1_16] rfl (by cases someE h; rfl) (by decide) outs_nil)))
  obtain ⟨n, h⟩ := limE h
  exact w_loop (.inr ⟨_, weak_eq rfl, L16 n (IntKind.i64.wrap (a1 - (a0.length : Int))) 0 h⟩)

set_option maxHeartbeats 600000 in
theorem ok_laws_szSummand (a0 : laws_Summand) (a1 : Int) (r : Int) (h : laws_szSummand a0 a1 = some r) : OkAt Cc 230 [e_laws_Summand a0, .int .i64 a1] (.int .i64 r) [] := by
 refine OkAt.of_wpR (fx := [0]) Cc_ok [.tmp 4] [(0, e_laws_Summand a0), (1, .int .i64 a1)] Try.func230 rfl rfl s230 (Nat.le_of_ble_eq_true rfl) rfl rfl (fun Q0 r0 n0 => ?_)
 refine ws _ ?_
 obtain ⟨x1, e3, h⟩ := bindE h
 refine wsc (ok_laws_szInt64S a0.Sums a1 _ e3) _ ?_
 refine w_seq (fun Q4 n4 q4 x4 => ?_)
 refine ws _ ?_
 rcases condE h with ⟨b6, h⟩ | ⟨b6, h⟩
 ·refine w_ct (congrArg AV.bool b6) ?_
  simp only [b6, Bool.not_true, Bool.not_false]
  refine ws _ ?_
  exact w_ret (q4 _ (r0 _ (.inl (w_fin [.int .i64 (-1)] rfl (by cases someE h; rfl) (by decide) outs_nil))))
 ·refine w_cf (congrArg AV.bool b6) ?_
  simp only [b6, Bool.not_true, Bool.not_false]
  refine w_skip (n4 _ (.inl ?_))
  obtain ⟨x2, e9, h⟩ := bindE h
  refine wsc (ok_laws_szTermS a0.Guard x1 _ e9) _ ?_
  refine w_seq (fun Q10 n10 q10 x10 => ?_)
  refine ws _ ?_
  rcases condE h with ⟨b12, h⟩ | ⟨b12, h⟩
  ·refine w_ct (congrArg AV.bool b12) ?_
   simp only [b12, Bool.not_true, Bool.not_false]
   refine ws _ ?_
   exact w_ret (q10 _ (r0 _ (.inl (w_fin [.int .i64 (-1)] rfl (by cases someE h; rfl) (by decide) outs_nil))))
  ·refine w_cf (congrArg AV.bool b12) ?_
   simp only [b12, Bool.not_true, Bool.not_false]
   refine w_skip (n10 _ (.inl ?_))
   refine ws _ ?_
   refine w_seq (fun Q15 n15 q15 x15 => ?_)
   refine ws _ ?_
   rcases condE h with ⟨b17, h⟩ | ⟨b17, h⟩
   ·refine w_ct (congrArg AV.bool b17) ?_
    simp only [b17, Bool.not_true, Bool.not_false]
    refine ws _ ?_
    exact w_ret (q15 _ (r0 _ (.inl (w_fin [.int .i64 (-1)] rfl (by cases someE h; rfl) (by decide) outs_nil))))
   ·refine w_cf (congrArg AV.bool b17) ?_
    simp only [b17, Bool.not_true, Bool.not_false]
    refine w_skip (n15 _ (.inl ?_))
    obtain ⟨x3, e20, h⟩ := bindE h
    refine wsc (ok_laws_szTermSS a0.Arguments (IntKind.i64.wrap (x2 - (a0.Name.length : Int))) _ e20) _ ?_
    refine w_seq (fun Q21 n21 q21 x21 => ?_)
    refine ws _ ?_
    rcases condE h with ⟨b23, h⟩ | ⟨b23, h⟩
    ·refine w_ct (congrArg AV.bool b23) ?_
     simp only [b23, Bool.not_true, Bool.not_false]
     refine ws _ ?_
     exact w_ret (q21 _ (r0 _ (.inl (w_fin [.int .i64 (-1)] rfl (by cases someE h; rfl) (by decide) outs_nil))))
    ·refine w_cf (congrArg AV.bool b23) ?_
     simp only [b23, Bool.not_true, Bool.not_false]
     refine w_skip (n21 _ (.inl ?_))
     obtain ⟨x4, e26, h⟩ := bindE h
     refine wsc (ok_laws_szTermSS a0.Next x3 _ e26) _ ?_
     refine w_seq (fun Q27 n27 q27 x27 => ?_)
     refine ws _ ?_
     rcases condE h with ⟨b29, h⟩ | ⟨b29, h⟩
     ·refine w_ct (congrArg AV.bool b29) ?_
      simp only [b29, Bool.not_true, Bool.not_false]
      refine ws _ ?_
      exact w_ret (q27 _ (r0 _ (.inl (w_fin [.int .i64 (-1)] rfl (by cases someE h; rfl) (by decide) outs_nil))))
     ·refine w_cf (congrArg AV.bool b29) ?_
      simp only [b29, Bool.not_true, Bool.not_false]
      refine w_skip (n27 _ (.inl ?_))
      refine ws _ ?_
      exact w_ret (r0 _ (.inl (w_fin [.int .i64 x4] rfl (by cases someE h; rfl) (by decide) outs_nil)))

theorem ok_laws_szSummandS (a0 : List laws_Summand) (a1 : Int) (r : Int) (h : laws_szSummandS a0 a1 = some r) : OkAt Cc 152 [.slice (a0.map e_laws_Summand), .int .i64 a1] (.int .i64 r) [] := by
 refine OkAt.of_wpR (fx := [0]) Cc_ok [.tmp 4] [(0, .slice (a0.map e_laws_Summand)), (1, .int .i64 a1)] Try.func152 rfl rfl s152 (Nat.le_of_ble_eq_true rfl) rfl rfl (fun Q0 r0 n0 => ?_)
 refine ws _ ?_
 refine ws _ ?_
 refine w_seq (fun Q3 n3 q3 x3 => ?_)
 refine ws _ ?_
 rcases condE h with ⟨b5, h⟩ | ⟨b5, h⟩
 ·refine w_ct (congrArg AV.bool b5) ?_
  simp only [b5, Bool.not_true, Bool.not_false]
  refine ws _ ?_
  exact w_ret (q3 _ (r0 _ (.inl (w_fin [.int .i64 (-1)] rfl (by cases someE h; rfl) (by decide) outs_nil))))
 ·refine w_cf (congrArg AV.bool b5) ?_
  simp only [b5, Bool.not_true, Bool.not_false]
  refine w_skip (n3 _ (.inl ?_))
  refine w_seq (fun Q7 n7 q7 x7 => ?_)
  refine ws _ ?_
  refine w_blk (fun Q9 n9 q9 b9 x9 => ?_)
  have L16 : ∀ (n : Nat) (v1_16 : Int) (v5_16 : Int), laws_szSummandS_l16 a0 n v1_16 v5_16 = some r → lpC Cc c152_17 Q9 (stA [(0, .slice (a0.map e_laws_Summand)), (1, .int .i64 v1_16), (5, .int .i64 v5_16)]) := by
   intro m16
   induction m16 with
   | zero => intro v1_16 v5_16 h; cases (show none = some r from h)
   | succ m16 ih16 =>
    intro v1_16 v5_16 h
    replace h : laws_szSummandS_b16 (laws_szSummandS_l16 a0 m16) a0 v1_16 v5_16 = some r := h
    refine lpC_step (fun Q10 n10 q10 x10 => ?_)
    refine w_seq (fun Q11 n11 q11 x11 => ?_)
    refine ws _ ?_
    rcases condE h with ⟨b13, h⟩ | ⟨b13, h⟩
    ·refine w_ct (congrArg AV.bool b13) ?_
     simp only [b13, Bool.not_true, Bool.not_false]
     refine w_skip (n11 _ (.inl ?_))
     refine w_seq (fun Q14 n14 q14 x14 => ?_)
     refine w_blk (fun Q15 n15 q15 b15 x15 => ?_)
     obtain ⟨x1, e17, h⟩ := bindE h
     obtain ⟨x2, e18, h⟩ := bindE h
     refine wscf e17 (ok_laws_szSummand x1 v1_16 _ e18) _ ?_
     refine ws _ ?_
     rcases condE h with ⟨b20, h⟩ | ⟨b20, h⟩
     ·refine w_ct (congrArg AV.bool b20) ?_
      simp only [b20, Bool.not_true, Bool.not_false]
      refine ws _ ?_
      exact w_ret (q15 _ (q14 _ (q10 _ (q9 _ (q7 _ (r0 _ (.inl (w_fin [.int .i64 (-1)] rfl (by cases someE h; rfl) (by decide) outs_nil))))))))
     ·refine w_cf (congrArg AV.bool b20) ?_
      simp only [b20, Bool.not_true, Bool.not_false]
      refine w_skip (n15 _ (n14 _ (.inl ?_)))
      refine wr _ ?_
      exact n10 _ (.inr ⟨_, weak_eq rfl, ih16 x2 (IntKind.i64.wrap (v5_16 + 1)) h⟩)
    ·refine w_cf (congrArg AV.bool b13) ?_
     simp only [b13, Bool.not_true, Bool.not_false]
     refine w_ex (x11 0 _ (x10 0 _ (b9 _ (n7 _ (.inl ?_)))))
     refine ws _ ?_
     exact w_ret (r0 _ (.inl (w_fin [.int .i64 v1_16] rfl (by cases someE h; rfl) (by decide) outs_nil)))
  obtain ⟨n, h⟩ := limE h
  exact w_loop (.inr ⟨_, weak_eq rfl, L16 n (IntKind.i64.wrap (a1 - (a0.length : Int))) 0 h⟩)

theorem ok_laws_szLinear (a0 : laws_Linear) (a1 : Int) (r : Int) (h : laws_szLinear a0 a1 = some r) : OkAt Cc 72 [e_laws_Linear a0, .int .i64 a1] (.int .i64 r) [] := by
 refine OkAt.of_wpR (fx := [0]) Cc_ok [.tmp 4] [(0, e_laws_Linear a0), (1, .int .i64 a1)] Try.func72 rfl rfl s72 (Nat.le_of_ble_eq_true rfl) rfl rfl (fun Q0 r0 n0 => ?_)
 refine ws _ ?_
 obtain ⟨x1, e3, h⟩ := bindE h
 refine wsc (ok_laws_szInt64S a0.Start a1 _ e3) _ ?_
 refine w_seq (fun Q4 n4 q4 x4 => ?_)
 refine ws _ ?_
 rcases condE h with ⟨b6, h⟩ | ⟨b6, h⟩
 ·refine w_ct (congrArg AV.bool b6) ?_
  simp only [b6, Bool.not_true, Bool.not_false]
  refine ws _ ?_
  exact w_ret (q4 _ (r0 _ (.inl (w_fin [.int .i64 (-1)] rfl (by cases someE h; rfl) (by decide) outs_nil))))
 ·refine w_cf (congrArg AV.bool b6) ?_
  simp only [b6, Bool.not_true, Bool.not_false]
  refine w_skip (n4 _ (.inl ?_))
  obtain ⟨x2, e9, h⟩ := bindE h
  refine wsc (ok_laws_szSummandS a0.Summands x1 _ e9) _ ?_
  refine w_seq (fun Q10 n10 q10 x10 => ?_)
  refine ws _ ?_
  rcases condE h with ⟨b12, h⟩ | ⟨b12, h⟩
  ·refine w_ct (congrArg AV.bool b12) ?_
   simp only [b12, Bool.not_true, Bool.not_false]
   refine ws _ ?_
   exact w_ret (q10 _ (r0 _ (.inl (w_fin [.int .i64 (-1)] rfl (by cases someE h; rfl) (by decide) outs_nil))))
  ·refine w_cf (congrArg AV.bool b12) ?_
   simp only [b12, Bool.not_true, Bool.not_false]
   refine w_skip (n10 _ (.inl ?_))
   refine ws _ ?_
   exact w_ret (r0 _ (.inl (w_fin [.int .i64 x2] rfl (by cases someE h; rfl) (by decide) outs_nil)))

theorem ok_laws_toInt64S (a0 : List Int) (r : (List Int)) (h : laws_toInt64S a0 = some r) : OkAt Cc 150 [.slice (a0.map e_i64)] (.uslice 1 (r.map e_i64)) [] := by
 refine OkAt.of_wpR (fx := [0]) Cc_ok [.tmp 2] [(0, .slice (a0.map e_i64))] Try.func150 rfl rfl s150 (Nat.le_of_ble_eq_true rfl) rfl rfl (fun Q0 r0 n0 => ?_)
 refine ws _ ?_
 obtain ⟨u17, e3, h⟩ := bindE h
 refine w_sreg (w_abs [(0, .slice (a0.map e_i64)), (3, .uslice 1 ((List.replicate (Int.toNat (a0.length : Int)) 0).map e_i64))] (fun P hP => ?_) ?_)
 ·simp only [V0.down, simprocAttr, tt2, tt68, e_i64, (mkOkE e3).1, (mkOkE e3).2.1, (mkOkE e3).2.2, mks, List.map_replicate, -Int.reduceNatCast']
  (try simp only [VN.down, simprocAttr, e_i64, (mkOkE e3).1, (mkOkE e3).2.1, (mkOkE e3).2.2, mks, List.map_replicate, -Int.reduceNatCast'] at hP ⊢); exact hP
 refine w_seq (fun Q4 n4 q4 x4 => ?_)
 refine ws [(0, .slice (a0.map e_i64)), (3, .uslice 1 ((List.replicate (Int.toNat (a0.length : Int)) 0).map e_i64)), (4, .int .i64 0)] ?_
 refine w_blk (fun Q6 n6 q6 b6 x6 => ?_)
 have L8 : ∀ (n : Nat) (v3_8 : List Int) (v4_8 : Int), laws_toInt64S_l8 a0 n v3_8 v4_8 = some r → lpC Cc c150_9 Q6 (stA [(0, .slice (a0.map e_i64)), (3, .uslice 1 (v3_8.map e_i64)), (4, .int .i64 v4_8)]) := by
  intro m8
  induction m8 with
  | zero => intro v3_8 v4_8 h; cases (show none = some r from h)
  | succ m8 ih8 =>
   intro v3_8 v4_8 h
   replace h : laws_toInt64S_b8 (laws_toInt64S_l8 a0 m8) a0 v3_8 v4_8 = some r := h
   refine lpC_step (fun Q7 n7 q7 x7 => ?_)
   refine w_seq (fun Q8 n8 q8 x8 => ?_)
   refine ws _ ?_
   rcases condE h with ⟨b10, h⟩ | ⟨b10, h⟩
   ·refine w_ct (congrArg AV.bool b10) ?_
    simp only [b10, Bool.not_true, Bool.not_false]
    refine w_skip (n8 _ (.inl ?_))
    refine w_seq (fun Q11 n11 q11 x11 => ?_)
    refine w_blk (fun Q12 n12 q12 b12 x12 => ?_)
    obtain ⟨x1, e14, h⟩ := bindE h
    obtain ⟨x2, e15, h⟩ := bindE h
    refine w_reg (w_abs [(0, .slice (a0.map e_i64)), (3, .uslice 1 ((List.set v3_8 (Int.toNat v4_8) x1).map e_i64)), (4, .int .i64 v4_8)] (fun P hP => ?_) ?_)
    ·simp only [V0.down, simprocAttr, tt2, tt68, e_i64, e14, e15, getI_get e15, own_s, stoS]
     (try simp only [VN.down, simprocAttr, e_i64, e14, e15, getI_get e15, own_s, stoS] at hP ⊢); exact hP
    refine n12 _ (n11 _ (.inl ?_))
    refine wr [(0, .slice (a0.map e_i64)), (3, .uslice 1 ((List.set v3_8 (Int.toNat v4_8) x1).map e_i64)), (4, .int .i64 (IntKind.i64.wrap (v4_8 + 1)))] ?_
    exact n7 _ (.inr ⟨_, weak_eq rfl, ih8 (List.set v3_8 (Int.toNat v4_8) x1) (IntKind.i64.wrap (v4_8 + 1)) h⟩)
   ·refine w_cf (congrArg AV.bool b10) ?_
    simp only [b10, Bool.not_true, Bool.not_false]
    refine w_ex (x8 0 _ (x7 0 _ (b6 _ (n4 _ (.inl ?_)))))
    refine ws _ ?_
    exact w_ret (r0 _ (.inl (w_fin [.uslice 1 (v3_8.map e_i64)] rfl (by cases someE h; rfl) (by decide) outs_nil)))
 obtain ⟨n, h⟩ := limE h
 exact w_loop (.inr ⟨_, weak_eq rfl, L8 n (List.replicate (Int.toNat (a0.length : Int)) 0) 0 h⟩)

theorem ok_laws_toTerm (a0 : laws_Term) (r : impl_Term) (h : laws_toTerm a0 = some r) : OkAt Cc 107 [e_laws_Term a0] (e_impl_Term r) [] := by
 refine OkAt.of_wpR (fx := [0]) Cc_ok [.cell 2 131] [(0, e_laws_Term a0)] Try.func107 rfl rfl s107 (Nat.le_of_ble_eq_true rfl) rfl rfl (fun Q0 r0 n0 => ?_)
 refine ws _ ?_
 refine ws _ ?_
 refine ws _ ?_
 refine ws _ ?_
 refine ws _ ?_
 exact w_ret (r0 _ (.inl (w_fin [e_impl_Term (impl_Term.mk a0.Kind a0.Value)] rfl (by cases someE h; rfl) (by decide) outs_nil)))

theorem ok_laws_toTermS (a0 : List laws_Term) (r : (List impl_Term)) (h : laws_toTermS a0 = some r) : OkAt Cc 33 [.slice (a0.map e_laws_Term)] (.uslice 2 (r.map e_impl_Term)) [] := by
 refine OkAt.of_wpR (fx := [0]) Cc_ok [.tmp 2] [(0, .slice (a0.map e_laws_Term))] Try.func33 rfl rfl s33 (Nat.le_of_ble_eq_true rfl) rfl rfl (fun Q0 r0 n0 => ?_)
 refine ws _ ?_
 obtain ⟨u18, e3, h⟩ := bindE h
 refine w_sreg (w_abs [(0, .slice (a0.map e_laws_Term)), (3, .uslice 2 ((List.replicate (Int.toNat (a0.length : Int)) (impl_Term.mk 0 0)).map e_impl_Term))] (fun P hP => ?_) ?_)
 ·simp only [V0.down, simprocAttr, tt2, tt36, tt40, tt131, tt133, e_impl_Term, e_laws_Term, (mkOkE e3).1, (mkOkE e3).2.1, (mkOkE e3).2.2, mks, List.map_replicate, -Int.reduceNatCast']
  (try simp only [VN.down, simprocAttr, e_impl_Term, e_laws_Term, (mkOkE e3).1, (mkOkE e3).2.1, (mkOkE e3).2.2, mks, List.map_replicate, -Int.reduceNatCast'] at hP ⊢); exact hP
 refine w_seq (fun Q4 n4 q4 x4 => ?_)
 refine ws [(0, .slice (a0.map e_laws_Term)), (3, .uslice 2 ((List.replicate (Int.toNat (a0.length : Int)) (impl_Term.mk 0 0)).map e_impl_Term)), (4, .int .i64 0)] ?_
 refine w_blk (fun Q6 n6 q6 b6 x6 => ?_)
 have L8 : ∀ (n : Nat) (v3_8 : List impl_Term) (v4_8 : Int), laws_toTermS_l8 a0 n v3_8 v4_8 = some r → lpC Cc c33_9 Q6 (stA [(0, .slice (a0.map e_laws_Term)), (3, .uslice 2 (v3_8.map e_impl_Term)), (4, .int .i64 v4_8)]) := by
  intro m8
  induction m8 with
  | zero => intro v3_8 v4_8 h; cases (show none = some r from h)
  | succ m8 ih8 =>
   intro v3_8 v4_8 h
   replace h : laws_toTermS_b8 (laws_toTermS_l8 a0 m8) a0 v3_8 v4_8 = some r := h
   refine lpC_step (fun Q7 n7 q7 x7 => ?_)
   refine w_seq (fun Q8 n8 q8 x8 => ?_)
   refine ws _ ?_
   rcases condE h with ⟨b10, h⟩ | ⟨b10, h⟩
   ·refine w_ct (congrArg AV.bool b10) ?_
    simp only [b10, Bool.not_true, Bool.not_false]
    refine w_skip (n8 _ (.inl ?_))
    refine w_seq (fun Q11 n11 q11 x11 => ?_)
    refine w_blk (fun Q12 n12 q12 b12 x12 => ?_)
    obtain ⟨x1, e14, h⟩ := bindE h
    obtain ⟨x2, e15, h⟩ := bindE h
    obtain ⟨x3, e16, h⟩ := bindE h
    refine w_reg (w_abs [(0, .slice (a0.map e_laws_Term)), (3, .uslice 2 ((List.set v3_8 (Int.toNat v4_8) x2).map e_impl_Term)), (4, .int .i64 v4_8)] (fun P hP => ?_) ?_)
    ·simp only [V0.down, simprocAttr, tt2, tt36, tt40, tt131, tt133, e_impl_Term, e_laws_Term, e14, e16, getI_get e16, own_s, stoS]
     refine w_call0 (ok_laws_toTerm x1 _ e15) rfl rfl rfl rfl (.inl (by rfl)) ?_
     simp only [V0.down, simprocAttr, tt2, tt36, tt40, tt131, tt133, e_impl_Term, e_laws_Term, e14, e16, getI_get e16, own_s, stoS]
     (try simp only [VN.down, simprocAttr, e_impl_Term, e_laws_Term, e14, e16, getI_get e16, own_s, stoS] at hP ⊢); exact hP
    refine n12 _ (n11 _ (.inl ?_))
    refine wr [(0, .slice (a0.map e_laws_Term)), (3, .uslice 2 ((List.set v3_8 (Int.toNat v4_8) x2).map e_impl_Term)), (4, .int .i64 (IntKind.i64.wrap (v4_8 + 1)))] ?_
    exact n7 _ (.inr ⟨_, weak_eq rfl, ih8 (List.set v3_8 (Int.toNat v4_8) x2) (IntKind.i64.wrap (v4_8 + 1)) h⟩)
   ·refine w_cf (congrArg AV.bool b10) ?_
    simp only [b10, Bool.not_true, Bool.not_false]
    refine w_ex (x8 0 _ (x7 0 _ (b6 _ (n4 _ (.inl ?_)))))
    refine ws _ ?_
    exact w_ret (r0 _ (.inl (w_fin [.uslice 2 (v3_8.map e_impl_Term)] rfl (by cases someE h; rfl) (by decide) outs_nil)))
 obtain ⟨n, h⟩ := limE h
 exact w_loop (.inr ⟨_, weak_eq rfl, L8 n (List.replicate (Int.toNat (a0.length : Int)) (impl_Term.mk 0 0)) 0 h⟩)

theorem ok_laws_toTermSS (a0 : List (List laws_Term)) (r : (List (List impl_Term))) (h : laws_toTermSS a0 = some r) : OkAt Cc 290 [.slice (a0.map e_s_laws_Term)] (.uslice 1 (r.map u_s_impl_Term)) [] := by
 refine OkAt.of_wpR (fx := [0]) Cc_ok [.tmp 2] [(0, .slice (a0.map e_s_laws_Term))] Try.func290 rfl rfl s290 (Nat.le_of_ble_eq_true rfl) rfl rfl (fun Q0 r0 n0 => ?_)
 refine ws _ ?_
 obtain ⟨u18, e3, h⟩ := bindE h
 refine w_sreg (w_abs [(0, .slice (a0.map e_s_laws_Term)), (3, .uslice 1 (List.replicate (Int.toNat (a0.length : Int)) .nils))] (fun P hP => ?_) ?_)
 ·simp only [V0.down, simprocAttr, tt2, tt36, tt40, tt131, tt133, tt195, tt260, e_laws_Term, e_s_laws_Term, (mkOkE e3).1, (mkOkE e3).2.1, (mkOkE e3).2.2, mks, List.map_replicate, -Int.reduceNatCast']
  (try simp only [VN.down, simprocAttr, e_laws_Term, e_s_laws_Term, (mkOkE e3).1, (mkOkE e3).2.1, (mkOkE e3).2.2, mks, List.map_replicate, -Int.reduceNatCast'] at hP ⊢); exact hP
 refine w_seq (fun Q4 n4 q4 x4 => ?_)
 refine ws [(0, .slice (a0.map e_s_laws_Term)), (3, .uslice 1 (List.replicate (Int.toNat (a0.length : Int)) .nils)), (4, .int .i64 0)] ?_
 refine w_blk (fun Q6 n6 q6 b6 x6 => ?_)
 have L8 : ∀ (n : Nat) (v3_8 : List (List impl_Term)) (v4_8 : Int), laws_toTermSS_l8 a0 n v3_8 v4_8 = some r → lpC Cc c290_9 Q6 (stA [(0, .slice (a0.map e_s_laws_Term)), (3, .uslice 1 (v3_8.map u_s_impl_Term)), (4, .int .i64 v4_8)]) := by
  intro m8
  induction m8 with
  | zero => intro v3_8 v4_8 h; cases (show none = some r from h)
  | succ m8 ih8 =>
   intro v3_8 v4_8 h
   replace h : laws_toTermSS_b8 (laws_toTermSS_l8 a0 m8) a0 v3_8 v4_8 = some r := h
   refine lpC_step (fun Q7 n7 q7 x7 => ?_)
   refine w_seq (fun Q8 n8 q8 x8 => ?_)
   refine ws _ ?_
   rcases condE h with ⟨b10, h⟩ | ⟨b10, h⟩
   ·refine w_ct (congrArg AV.bool b10) ?_
    simp only [b10, Bool.not_true, Bool.not_false]
    refine w_skip (n8 _ (.inl ?_))
    refine w_seq (fun Q11 n11 q11 x11 => ?_)
    refine w_blk (fun Q12 n12 q12 b12 x12 => ?_)
    obtain ⟨x1, e14, h⟩ := bindE h
    obtain ⟨x2, e15, h⟩ := bindE h
    obtain ⟨x3, e16, h⟩ := bindE h
    refine w_reg (w_abs [(0, .slice (a0.map e_s_laws_Term)), (3, .uslice 1 ((List.set v3_8 (Int.toNat v4_8) x2).map u_s_impl_Term)), (4, .int .i64 v4_8)] (fun P hP => ?_) ?_)
    ·simp only [V0.down, simprocAttr, tt2, tt36, tt40, tt131, tt133, tt195, tt260, e_impl_Term, e_laws_Term, e_s_laws_Term, u_s_impl_Term, e14, e16, getI_get e16, own_s, stoS]
     refine w_call0 (ok_laws_toTermS x1 _ e15) rfl rfl rfl rfl (.inl (by rfl)) ?_
     simp only [V0.down, simprocAttr, tt2, tt36, tt40, tt131, tt133, tt195, tt260, e_impl_Term, e_laws_Term, e_s_laws_Term, u_s_impl_Term, e14, e16, getI_get e16, own_s, stoS]
     (try simp only [VN.down, simprocAttr, e_impl_Term, e_laws_Term, e_s_laws_Term, u_s_impl_Term, e14, e16, getI_get e16, own_s, stoS] at hP ⊢); exact hP
    refine n12 _ (n11 _ (.inl ?_))
    refine wr [(0, .slice (a0.map e_s_laws_Term)), (3, .uslice 1 ((List.set v3_8 (Int.toNat v4_8) x2).map u_s_impl_Term)), (4, .int .i64 (IntKind.i64.wrap (v4_8 + 1)))] ?_
    exact n7 _ (.inr ⟨_, weak_eq rfl, ih8 (List.set v3_8 (Int.toNat v4_8) x2) (IntKind.i64.wrap (v4_8 + 1)) h⟩)
   ·refine w_cf (congrArg AV.bool b10) ?_
    simp only [b10, Bool.not_true, Bool.not_false]
    refine w_ex (x8 0 _ (x7 0 _ (b6 _ (n4 _ (.inl ?_)))))
    refine ws _ ?_
    exact w_ret (r0 _ (.inl (w_fin [.uslice 1 (v3_8.map u_s_impl_Term)] rfl (by cases someE h; rfl) (by decide) outs_nil)))
 obtain ⟨n, h⟩ := limE h
 exact w_loop (.inr ⟨_, weak_mix [] rfl (wk_eq (t := 0) (d := .slice (a0.map e_s_laws_Term)) rfl (wk_wd (t := 3) (d := .uslice 1 (List.replicate (Int.toNat (a0.length : Int)) .nils)) (d' := .uslice 1 ((List.replicate (Int.toNat (a0.length : Int)) []).map u_s_impl_Term)) rfl rfl (wd_rep (u := u_s_impl_Term) (z := []) (.nilsU _) _) (by decide) (wk_eq (t := 4) (d := .int .i64 0) rfl (wk_nil)))), L8 n (List.replicate (Int.toNat (a0.length : Int)) []) 0 h⟩)

theorem ok_laws_toSummand (a0 : laws_Summand) (r : impl_Summand) (h : laws_toSummand a0 = some r) : OkAt Cc 233 [e_laws_Summand a0] (u_impl_Summand r) [] := by
 refine OkAt.of_wpR (fx := [0]) Cc_ok [.cell 2 197] [(0, e_laws_Summand a0)] Try.func233 rfl rfl s233 (Nat.le_of_ble_eq_true rfl) rfl rfl (fun Q0 r0 n0 => ?_)
 refine ws _ ?_
 refine ws _ ?_
 obtain ⟨x1, e4, h⟩ := bindE h
 refine wsc (ok_laws_toInt64S a0.Sums _ e4) _ ?_
 obtain ⟨x2, e6, h⟩ := bindE h
 refine wsc (ok_laws_toTermS a0.Guard _ e6) _ ?_
 refine ws _ ?_
 obtain ⟨x3, e9, h⟩ := bindE h
 refine wsc (ok_laws_toTermSS a0.Arguments _ e9) _ ?_
 obtain ⟨x4, e11, h⟩ := bindE h
 refine wsc (ok_laws_toTermSS a0.Next _ e11) _ ?_
 refine ws _ ?_
 exact w_ret (r0 _ (.inl (w_fin [u_impl_Summand (impl_Summand.mk x1 x2 a0.Name x3 x4)] rfl (by cases someE h; rfl) (by decide) outs_nil)))

theorem ok_laws_toSummandS (a0 : List laws_Summand) (r : (List impl_Summand)) (h : laws_toSummandS a0 = some r) : OkAt Cc 159 [.slice (a0.map e_laws_Summand)] (.uslice 5 (r.map u_impl_Summand)) [] := by
 refine OkAt.of_wpR (fx := [0]) Cc_ok [.tmp 2] [(0, .slice (a0.map e_laws_Summand))] Try.func159 rfl rfl s159 (Nat.le_of_ble_eq_true rfl) rfl rfl (fun Q0 r0 n0 => ?_)
 refine ws _ ?_
 obtain ⟨u18, e3, h⟩ := bindE h
 refine w_sreg (w_abs [(0, .slice (a0.map e_laws_Summand)), (3, .uslice 5 (List.replicate (Int.toNat (a0.length : Int)) (.agg [.nils, .nils, (.str []), .nils, .nils])))] (fun P hP => ?_) ?_)
 ·simp only [V0.down, simprocAttr, tt2, tt9, tt36, tt40, tt68, tt84, tt88, tt131, tt133, tt195, tt197, tt260, tt262, e_i64, e_laws_Summand, e_laws_Term, e_s_laws_Term, (mkOkE e3).1, (mkOkE e3).2.1, (mkOkE e3).2.2, mks, List.map_replicate, -Int.reduceNatCast']
  (try simp only [VN.down, simprocAttr, e_i64, e_laws_Summand, e_laws_Term, e_s_laws_Term, (mkOkE e3).1, (mkOkE e3).2.1, (mkOkE e3).2.2, mks, List.map_replicate, -Int.reduceNatCast'] at hP ⊢); exact hP
 refine w_seq (fun Q4 n4 q4 x4 => ?_)
 refine ws [(0, .slice (a0.map e_laws_Summand)), (3, .uslice 5 (List.replicate (Int.toNat (a0.length : Int)) (.agg [.nils, .nils, (.str []), .nils, .nils]))), (4, .int .i64 0)] ?_
 refine w_blk (fun Q6 n6 q6 b6 x6 => ?_)
 have L8 : ∀ (n : Nat) (v3_8 : List impl_Summand) (v4_8 : Int), laws_toSummandS_l8 a0 n v3_8 v4_8 = some r → lpC Cc c159_9 Q6 (stA [(0, .slice (a0.map e_laws_Summand)), (3, .uslice 5 (v3_8.map u_impl_Summand)), (4, .int .i64 v4_8)]) := by
  intro m8
  induction m8 with
  | zero => intro v3_8 v4_8 h; cases (show none = some r from h)
  | succ m8 ih8 =>
   intro v3_8 v4_8 h
   replace h : laws_toSummandS_b8 (laws_toSummandS_l8 a0 m8) a0 v3_8 v4_8 = some r := h
   refine lpC_step (fun Q7 n7 q7 x7 => ?_)
   refine w_seq (fun Q8 n8 q8 x8 => ?_)
   refine ws _ ?_
   rcases condE h with ⟨b10, h⟩ | ⟨b10, h⟩
   ·refine w_ct (congrArg AV.bool b10) ?_
    simp only [b10, Bool.not_true, Bool.not_false]
    refine w_skip (n8 _ (.inl ?_))
    refine w_seq (fun Q11 n11 q11 x11 => ?_)
    refine w_blk (fun Q12 n12 q12 b12 x12 => ?_)
    obtain ⟨x1, e14, h⟩ := bindE h
    obtain ⟨x2, e15, h⟩ := bindE h
    obtain ⟨x3, e16, h⟩ := bindE h
    refine w_reg (w_abs [(0, .slice (a0.map e_laws_Summand)), (3, .uslice 5 ((List.set v3_8 (Int.toNat v4_8) x2).map u_impl_Summand)), (4, .int .i64 v4_8)] (fun P hP => ?_) ?_)
    ·simp only [V0.down, simprocAttr, tt2, tt9, tt36, tt40, tt68, tt84, tt88, tt131, tt133, tt195, tt197, tt260, tt262, e_i64, e_impl_Term, e_laws_Summand, e_laws_Term, e_s_laws_Term, u_impl_Summand, u_s_impl_Term, e14, e16, getI_get e16, own_s, stoS]
     refine w_call0 (ok_laws_toSummand x1 _ e15) rfl rfl rfl rfl (.inl (by rfl)) ?_
     simp only [V0.down, simprocAttr, tt2, tt9, tt36, tt40, tt68, tt84, tt88, tt131, tt133, tt195, tt197, tt260, tt262, e_i64, e_impl_Term, e_laws_Summand, e_laws_Term, e_s_laws_Term, u_impl_Summand, u_s_impl_Term, e14, e16, getI_get e16, own_s, stoS]
     (try simp only [VN.down, simprocAttr, e_i64, e_impl_Term, e_laws_Summand, e_laws_Term, e_s_laws_Term, u_impl_Summand, u_s_impl_Term, e14, e16, getI_get e16, own_s, stoS] at hP ⊢); exact hP
    refine n12 _ (n11 _ (.inl ?_))
    refine wr [(0, .slice (a0.map e_laws_Summand)), (3, .uslice 5 ((List.set v3_8 (Int.toNat v4_8) x2).map u_impl_Summand)), (4, .int .i64 (IntKind.i64.wrap (v4_8 + 1)))] ?_
    exact n7 _ (.inr ⟨_, weak_eq rfl, ih8 (List.set v3_8 (Int.toNat v4_8) x2) (IntKind.i64.wrap (v4_8 + 1)) h⟩)
   ·refine w_cf (congrArg AV.bool b10) ?_
    simp only [b10, Bool.not_true, Bool.not_false]
    refine w_ex (x8 0 _ (x7 0 _ (b6 _ (n4 _ (.inl ?_)))))
    refine ws _ ?_
    exact w_ret (r0 _ (.inl (w_fin [.uslice 5 (v3_8.map u_impl_Summand)] rfl (by cases someE h; rfl) (by decide) outs_nil)))
 obtain ⟨n, h⟩ := limE h
 exact w_loop (.inr ⟨_, weak_mix [] rfl (wk_eq (t := 0) (d := .slice (a0.map e_laws_Summand)) rfl (wk_wd (t := 3) (d := .uslice 5 (List.replicate (Int.toNat (a0.length : Int)) (.agg [.nils, .nils, (.str []), .nils, .nils]))) (d' := .uslice 5 ((List.replicate (Int.toNat (a0.length : Int)) (impl_Summand.mk [] [] ([] : List UInt8) [] [])).map u_impl_Summand)) rfl rfl (wd_rep (u := u_impl_Summand) (z := (impl_Summand.mk [] [] ([] : List UInt8) [] [])) (.agg (.cons (.nilsU _) (.cons (.nilsU _) (.cons (.refl _) (.cons (.nilsU _) (.cons (.nilsU _) (.nil))))))) _) (by decide) (wk_eq (t := 4) (d := .int .i64 0) rfl (wk_nil)))), L8 n (List.replicate (Int.toNat (a0.length : Int)) (impl_Summand.mk [] [] ([] : List UInt8) [] [])) 0 h⟩)

theorem ok_laws_toLinear (a0 : laws_Linear) (r : impl_Linear) (h : laws_toLinear a0 = some r) : OkAt Cc 74 [e_laws_Linear a0] (u_impl_Linear r) [] := by
 refine OkAt.of_wpR (fx := [0]) Cc_ok [.cell 2 90] [(0, e_laws_Linear a0)] Try.func74 rfl rfl s74 (Nat.le_of_ble_eq_true rfl) rfl rfl (fun Q0 r0 n0 => ?_)
 refine ws _ ?_
 refine ws _ ?_
 refine ws _ ?_
 obtain ⟨x1, e5, h⟩ := bindE h
 refine wsc (ok_laws_toInt64S a0.Start _ e5) _ ?_
 obtain ⟨x2, e7, h⟩ := bindE h
 refine wsc (ok_laws_toSummandS a0.Summands _ e7) _ ?_
 refine ws _ ?_
 exact w_ret (r0 _ (.inl (w_fin [u_impl_Linear (impl_Linear.mk a0.Parameters x1 x2)] rfl (by cases someE h; rfl) (by decide) outs_nil)))

theorem ok_spec_l00In (a0 : Int) (a1 : Int) (a2 : Int) (r : Bool) (h : spec_l00In a0 a1 a2 = some r) : OkAt Cc 130 [.int .i64 a0, .int .i64 a1, .int .i64 a2] (.bool r) [] := by
 refine OkAt.of_wpR (fx := [0, 1, 2]) Cc_ok [.tmp 6] [(0, .int .i64 a0), (1, .int .i64 a1), (2, .int .i64 a2)] Try.func130 rfl rfl s130 (Nat.le_of_ble_eq_true rfl) rfl rfl (fun Q0 r0 n0 => ?_)
 refine ws _ ?_
 refine w_sreg (w_abs [(6, .bool ((decide (a1 ≤ a0)) && (decide (a0 ≤ a2))))] (fun P hP => ?_) ?_)
 ·rcases Bool.eq_false_or_eq_true (decide (a1 ≤ a0)) with s3 | s3
  ·simp only [V0.down, simprocAttr, s3]
   (try simp only [VN.down, simprocAttr, s3] at hP ⊢); exact hP
  ·simp only [V0.down, simprocAttr, s3]
   (try simp only [VN.down, simprocAttr, s3] at hP ⊢); exact hP
 exact w_ret (r0 _ (.inl (w_fin [.bool ((decide (a1 ≤ a0)) && (decide (a0 ≤ a2)))] rfl (by cases someE h; rfl) (by decide) outs_nil)))

theorem ok_spec_l03Data (a0 : List Int) (r : Bool) (h : spec_l03Data a0 = some r) : OkAt Cc 228 [.slice (a0.map e_i64)] (.bool r) [] := by
 refine OkAt.of_wpR (fx := [0]) Cc_ok [.tmp 2] [(0, .slice (a0.map e_i64))] Try.func228 rfl rfl s228 (Nat.le_of_ble_eq_true rfl) rfl rfl (fun Q0 r0 n0 => ?_)
 refine ws _ ?_
 refine w_seq (fun Q2 n2 q2 x2 => ?_)
 refine ws _ ?_
 refine w_blk (fun Q4 n4 q4 b4 x4 => ?_)
 have L6 : ∀ (n : Nat) (v3_6 : Int), spec_l03Data_l6 a0 n v3_6 = some r → lpC Cc c228_7 Q4 (stA [(0, .slice (a0.map e_i64)), (3, .int .i64 v3_6)]) := by
  intro m6
  induction m6 with
  | zero => intro v3_6 h; cases (show none = some r from h)
  | succ m6 ih6 =>
   intro v3_6 h
   replace h : spec_l03Data_b6 (spec_l03Data_l6 a0 m6) a0 v3_6 = some r := h
   refine lpC_step (fun Q5 n5 q5 x5 => ?_)
   refine w_seq (fun Q6 n6 q6 x6 => ?_)
   refine ws _ ?_
   rcases condE h with ⟨b8, h⟩ | ⟨b8, h⟩
   ·refine w_ct (congrArg AV.bool b8) ?_
    simp only [b8, Bool.not_true, Bool.not_false]
    refine w_skip (n6 _ (.inl ?_))
    refine w_seq (fun Q9 n9 q9 x9 => ?_)
    refine w_blk (fun Q10 n10 q10 b10 x10 => ?_)
    obtain ⟨x1, e12, h⟩ := bindE h
    obtain ⟨x2, e13, h⟩ := bindE h
    refine wscf e12 (ok_spec_l00In x1 0 63 _ e13) _ ?_
    rcases condE h with ⟨b14, h⟩ | ⟨b14, h⟩
    ·refine w_ct (congrArg AV.bool b14) ?_
     simp only [(bnT b14), Bool.not_true, Bool.not_false]
     refine ws _ ?_
     exact w_ret (q10 _ (q9 _ (q5 _ (q4 _ (q2 _ (r0 _ (.inl (w_fin [.bool false] rfl (by cases someE h; rfl) (by decide) outs_nil))))))))
    ·refine w_cf (congrArg AV.bool b14) ?_
     simp only [(bnF b14), Bool.not_true, Bool.not_false]
     refine w_skip (n10 _ (n9 _ (.inl ?_)))
     refine wr _ ?_
     exact n5 _ (.inr ⟨_, weak_eq rfl, ih6 (IntKind.i64.wrap (v3_6 + 1)) h⟩)
   ·refine w_cf (congrArg AV.bool b8) ?_
    simp only [b8, Bool.not_true, Bool.not_false]
    refine w_ex (x6 0 _ (x5 0 _ (b4 _ (n2 _ (.inl ?_)))))
    refine ws _ ?_
    exact w_ret (r0 _ (.inl (w_fin [.bool true] rfl (by cases someE h; rfl) (by decide) outs_nil)))
 obtain ⟨n, h⟩ := limE h
 exact w_loop (.inr ⟨_, weak_eq rfl, L6 n 0 h⟩)

theorem ok_spec_l08Data (a0 : List Int) (a1 : Int) (r : Bool) (h : spec_l08Data a0 a1 = some r) : OkAt Cc 231 [.slice (a0.map e_i64), .int .i64 a1] (.bool r) [] := by
 refine OkAt.of_wpR (fx := [0, 1]) Cc_ok [.tmp 4] [(0, .slice (a0.map e_i64)), (1, .int .i64 a1)] Try.func231 rfl rfl s231 (Nat.le_of_ble_eq_true rfl) rfl rfl (fun Q0 r0 n0 => ?_)
 refine ws _ ?_
 rcases condE h with ⟨b3, h⟩ | ⟨b3, h⟩
 ·obtain ⟨x1, e4, h⟩ := bindE h
  refine w_sreg (w_abs [(4, .bool x1)] (fun P hP => ?_) ?_)
  ·simp only [V0.down, simprocAttr, tt2, tt68, e_i64, b3]
   refine w_callg0 (ok_spec_l03Data a0 _ e4) rfl rfl rfl rfl (.inl (by rfl)) ?_
   simp only [V0.down, simprocAttr, tt2, tt68, e_i64, b3]
   (try simp only [VN.down, simprocAttr, e_i64, b3] at hP ⊢); exact hP
  exact w_ret (r0 _ (.inl (w_fin [.bool x1] rfl (by cases someE h; rfl) (by decide) outs_nil)))
 ·refine wsf b3 _ ?_
  exact w_ret (r0 _ (.inl (w_fin [.bool false] rfl (by cases someE h; rfl) (by decide) outs_nil)))

set_option maxHeartbeats 600000 in
theorem ok_spec_l08Tries (a0 : List Int) (r : Int) (h : spec_l08Tries a0 = some r) : OkAt Cc 154 [.slice (a0.map e_i64)] (.int .i64 r) [] := by
 refine OkAt.of_wpR (fx := [0]) Cc_ok [.tmp 2] [(0, .slice (a0.map e_i64))] Try.func154 rfl rfl s154 (Nat.le_of_ble_eq_true rfl) rfl rfl (fun Q0 r0 n0 => ?_)
 refine ws _ ?_
 refine w_seq (fun Q2 n2 q2 x2 => ?_)
 refine ws _ ?_
 rcases condE h with ⟨b4, h⟩ | ⟨b4, h⟩
 ·refine w_ct (congrArg AV.bool b4) ?_
  simp only [b4, Bool.not_true, Bool.not_false]
  refine ws _ ?_
  exact w_ret (q2 _ (r0 _ (.inl (w_fin [.int .i64 0] rfl (by cases someE h; rfl) (by decide) outs_nil))))
 ·refine w_cf (congrArg AV.bool b4) ?_
  simp only [b4, Bool.not_true, Bool.not_false]
  refine w_skip (n2 _ (.inl ?_))
  refine ws _ ?_
  refine w_seq (fun Q7 n7 q7 x7 => ?_)
  refine ws _ ?_
  refine w_blk (fun Q9 n9 q9 b9 x9 => ?_)
  have L16 : ∀ (n : Nat) (v3_16 : Int) (v4_16 : Int), spec_l08Tries_l16 a0 n v3_16 v4_16 = some r → lpC Cc c154_17 Q9 (stA [(0, .slice (a0.map e_i64)), (3, .int .i64 v3_16), (4, .int .i64 v4_16)]) := by
   intro m16
   induction m16 with
   | zero => intro v3_16 v4_16 h; cases (show none = some r from h)
   | succ m16 ih16 =>
    intro v3_16 v4_16 h
    replace h : spec_l08Tries_b16 (spec_l08Tries_l16 a0 m16) a0 v3_16 v4_16 = some r := h
    refine lpC_step (fun Q10 n10 q10 x10 => ?_)
    refine w_seq (fun Q11 n11 q11 x11 => ?_)
    refine ws _ ?_
    rcases condE h with ⟨b13, h⟩ | ⟨b13, h⟩
    ·refine w_ct (congrArg AV.bool b13) ?_
     simp only [b13, Bool.not_true, Bool.not_false]
     refine w_skip (n11 _ (.inl ?_))
     refine w_seq (fun Q14 n14 q14 x14 => ?_)
     refine w_blk (fun Q15 n15 q15 b15 x15 => ?_)
     refine w_seq (fun Q16 n16 q16 x16 => ?_)
     obtain ⟨x1, e18, h⟩ := bindE h
     obtain ⟨x2, e19, h⟩ := bindE h
     refine wscf e18 (ok_spec_l00In x1 1 7 _ e19) _ ?_
     rcases condE h with ⟨b20, h⟩ | ⟨b20, h⟩
     ·refine w_ct (congrArg AV.bool b20) ?_
      simp only [(bnT b20), Bool.not_true, Bool.not_false]
      refine ws _ ?_
      exact w_ret (q16 _ (q15 _ (q14 _ (q10 _ (q9 _ (q7 _ (r0 _ (.inl (w_fin [.int .i64 0] rfl (by cases someE h; rfl) (by decide) outs_nil)))))))))
     ·refine w_cf (congrArg AV.bool b20) ?_
      simp only [(bnF b20), Bool.not_true, Bool.not_false]
      refine w_skip (n16 _ (.inl ?_))
      refine wrf e18 _ ?_
      refine n15 _ (n14 _ (.inl ?_))
      refine wr _ ?_
      exact n10 _ (.inr ⟨_, weak_eq rfl, ih16 (IntKind.i64.wrap (v3_16 * (IntKind.i64.wrap (x1 + 1)))) (IntKind.i64.wrap (v4_16 + 1)) h⟩)
    ·refine w_cf (congrArg AV.bool b13) ?_
     simp only [b13, Bool.not_true, Bool.not_false]
     refine w_ex (x11 0 _ (x10 0 _ (b9 _ (n7 _ (.inl ?_)))))
     refine w_seq (fun Q24 n24 q24 x24 => ?_)
     refine ws _ ?_
     rcases condE h with ⟨b26, h⟩ | ⟨b26, h⟩
     ·refine w_ct (congrArg AV.bool b26) ?_
      simp only [b26, Bool.not_true, Bool.not_false]
      refine ws _ ?_
      exact w_ret (q24 _ (r0 _ (.inl (w_fin [.int .i64 0] rfl (by cases someE h; rfl) (by decide) outs_nil))))
     ·refine w_cf (congrArg AV.bool b26) ?_
      simp only [b26, Bool.not_true, Bool.not_false]
      refine w_skip (n24 _ (.inl ?_))
      refine ws _ ?_
      exact w_ret (r0 _ (.inl (w_fin [.int .i64 v3_16] rfl (by cases someE h; rfl) (by decide) outs_nil)))
  obtain ⟨n, h⟩ := limE h
  exact w_loop (.inr ⟨_, weak_eq rfl, L16 n 1 0 h⟩)

theorem ok_spec_l03Term (a0 : impl_Term) (a1 : Int) (r : Bool) (h : spec_l03Term a0 a1 = some r) : OkAt Cc 268 [.ref (e_impl_Term a0), .int .i64 a1] (.bool r) [] := by
 refine OkAt.of_wpR (fx := [0, 1]) Cc_ok [.tmp 4] [(0, .ref (e_impl_Term a0)), (1, .int .i64 a1)] Try.func268 rfl rfl s268 (Nat.le_of_ble_eq_true rfl) rfl rfl (fun Q0 r0 n0 => ?_)
 refine ws _ ?_
 refine w_seq (fun Q2 n2 q2 x2 => ?_)
 refine ws _ ?_
 refine w_blk (fun Q4 n4 q4 b4 x4 => ?_)
 refine ws _ ?_
 rcases condE h with ⟨b6, h⟩ | ⟨b6, h⟩
 ·refine w_ct (congrArg AV.bool b6) ?_
  simp only [b6, Bool.not_true, Bool.not_false]
  obtain ⟨x1, e8, h⟩ := bindE h
  refine wsc (ok_spec_l00In a0.Value 0 63 _ e8) _ ?_
  exact w_ret (q4 _ (q2 _ (r0 _ (.inl (w_fin [.bool x1] rfl (by cases someE h; rfl) (by decide) outs_nil)))))
 ·refine w_cf (congrArg AV.bool b6) ?_
  simp only [b6, Bool.not_true, Bool.not_false]
  refine ws _ ?_
  rcases condE h with ⟨b10, h⟩ | ⟨b10, h⟩
  ·refine w_ct (congrArg AV.bool b10) ?_
   simp only [b10, Bool.not_true, Bool.not_false]
   obtain ⟨x2, e12, h⟩ := bindE h
   refine wsc (ok_spec_l00In a0.Value 0 (IntKind.i64.wrap (a1 - 1)) _ e12) _ ?_
   exact w_ret (q4 _ (q2 _ (r0 _ (.inl (w_fin [.bool x2] rfl (by cases someE h; rfl) (by decide) outs_nil)))))
  ·refine w_cf (congrArg AV.bool b10) ?_
   simp only [b10, Bool.not_true, Bool.not_false]
   refine ws _ ?_
   rcases condE h with ⟨b14, h⟩ | ⟨b14, h⟩
   ·refine w_ct (congrArg AV.bool b14) ?_
    simp only [b14, Bool.not_true, Bool.not_false]
    obtain ⟨x3, e16, h⟩ := bindE h
    refine wsc (ok_spec_l00In a0.Value 0 8 _ e16) _ ?_
    exact w_ret (q4 _ (q2 _ (r0 _ (.inl (w_fin [.bool x3] rfl (by cases someE h; rfl) (by decide) outs_nil)))))
   ·refine w_cf (congrArg AV.bool b14) ?_
    simp only [b14, Bool.not_true, Bool.not_false]
    refine ws _ ?_
    rcases condE h with ⟨b18, h⟩ | ⟨b18, h⟩
    ·refine w_ct (congrArg AV.bool b18) ?_
     simp only [b18, Bool.not_true, Bool.not_false]
     refine ws _ ?_
     exact w_ret (q4 _ (q2 _ (r0 _ (.inl (w_fin [.bool (a0.Value == 0)] rfl (by cases someE h; rfl) (by decide) outs_nil)))))
    ·refine w_cf (congrArg AV.bool b18) ?_
     simp only [b18, Bool.not_true, Bool.not_false]
     refine w_skip (n4 _ (n2 _ (.inl ?_)))
     refine ws _ ?_
     exact w_ret (r0 _ (.inl (w_fin [.bool false] rfl (by cases someE h; rfl) (by decide) outs_nil)))

theorem ok_spec_l03Arity (a0 : impl_Term) (r : Int) (h : spec_l03Arity a0 = some r) : OkAt Cc 196 [.ref (e_impl_Term a0)] (.int .i64 r) [] := by
 refine OkAt.of_wpR (fx := [0]) Cc_ok [.tmp 2] [(0, .ref (e_impl_Term a0))] Try.func196 rfl rfl s196 (Nat.le_of_ble_eq_true rfl) rfl rfl (fun Q0 r0 n0 => ?_)
 refine ws _ ?_
 refine w_seq (fun Q2 n2 q2 x2 => ?_)
 refine ws _ ?_
 refine w_blk (fun Q4 n4 q4 b4 x4 => ?_)
 refine ws _ ?_
 rcases condE h with ⟨b6, h⟩ | ⟨b6, h⟩
 ·refine w_ct (congrArg AV.bool b6) ?_
  simp only [b6, Bool.not_true, Bool.not_false]
  refine ws _ ?_
  exact w_ret (q4 _ (q2 _ (r0 _ (.inl (w_fin [.int .i64 2] rfl (by cases someE h; rfl) (by decide) outs_nil)))))
 ·refine w_cf (congrArg AV.bool b6) ?_
  simp only [b6, Bool.not_true, Bool.not_false]
  refine ws _ ?_
  rcases condE h with ⟨b9, h⟩ | ⟨b9, h⟩
  ·refine w_ct (congrArg AV.bool b9) ?_
   simp only [b9, Bool.not_true, Bool.not_false]
   refine ws _ ?_
   exact w_ret (q4 _ (q2 _ (r0 _ (.inl (w_fin [.int .i64 1] rfl (by cases someE h; rfl) (by decide) outs_nil)))))
  ·refine w_cf (congrArg AV.bool b9) ?_
   simp only [b9, Bool.not_true, Bool.not_false]
   refine w_skip (n4 _ (n2 _ (.inl ?_)))
   refine ws _ ?_
   exact w_ret (r0 _ (.inl (w_fin [.int .i64 0] rfl (by cases someE h; rfl) (by decide) outs_nil)))

set_option maxHeartbeats 600000 in
theorem ok_spec_l03Is (a0 : List impl_Term) (a1 : Int) (a2 : Int) (r : Bool) (h : spec_l03Is a0 a1 a2 = some r) : OkAt Cc 195 [.slice (a0.map e_impl_Term), .int .i64 a1, .int .i64 a2] (.bool r) [] := by
 refine OkAt.of_wpR (fx := [0, 1, 2]) Cc_ok [.tmp 6] [(0, .slice (a0.map e_impl_Term)), (1, .int .i64 a1), (2, .int .i64 a2)] Try.func195 rfl rfl s195 (Nat.le_of_ble_eq_true rfl) rfl rfl (fun Q0 r0 n0 => ?_)
 refine ws _ ?_
 refine w_seq (fun Q2 n2 q2 x2 => ?_)
 refine ws _ ?_
 rcases condE h with ⟨b4, h⟩ | ⟨b4, h⟩
 ·refine w_ct (congrArg AV.bool b4) ?_
  simp only [b4, Bool.not_true, Bool.not_false]
  refine ws _ ?_
  exact w_ret (q2 _ (r0 _ (.inl (w_fin [.bool false] rfl (by cases someE h; rfl) (by decide) outs_nil))))
 ·refine w_cf (congrArg AV.bool b4) ?_
  simp only [b4, Bool.not_true, Bool.not_false]
  refine w_skip (n2 _ (.inl ?_))
  refine ws _ ?_
  refine w_seq (fun Q7 n7 q7 x7 => ?_)
  refine ws _ ?_
  refine w_blk (fun Q9 n9 q9 b9 x9 => ?_)
  have L16 : ∀ (n : Nat) (v7_16 : Int) (v8_16 : Int), spec_l03Is_l16 a0 a1 n v7_16 v8_16 = some r → lpC Cc c195_17 Q9 (stA [(0, .slice (a0.map e_impl_Term)), (1, .int .i64 a1), (7, .int .i64 v7_16), (8, .int .i64 v8_16)]) := by
   intro m16
   induction m16 with
   | zero => intro v7_16 v8_16 h; cases (show none = some r from h)
   | succ m16 ih16 =>
    intro v7_16 v8_16 h
    replace h : spec_l03Is_b16 (spec_l03Is_l16 a0 a1 m16) a0 a1 v7_16 v8_16 = some r := h
    refine lpC_step (fun Q10 n10 q10 x10 => ?_)
    refine w_seq (fun Q11 n11 q11 x11 => ?_)
    refine ws _ ?_
    rcases condE h with ⟨b13, h⟩ | ⟨b13, h⟩
    ·refine w_ct (congrArg AV.bool b13) ?_
     simp only [b13, Bool.not_true, Bool.not_false]
     refine w_skip (n11 _ (.inl ?_))
     refine w_seq (fun Q14 n14 q14 x14 => ?_)
     refine w_blk (fun Q15 n15 q15 b15 x15 => ?_)
     refine w_seq (fun Q16 n16 q16 x16 => ?_)
     rcases condE h with ⟨b18, h⟩ | ⟨b18, h⟩
     ·refine wsf b18 _ ?_
      refine w_ct rfl ?_
      refine ws _ ?_
      exact w_ret (q16 _ (q15 _ (q14 _ (q10 _ (q9 _ (q7 _ (r0 _ (.inl (w_fin [.bool false] rfl (by cases someE h; rfl) (by decide) outs_nil)))))))))
     ·obtain ⟨x1, e20, h⟩ := bindE h
      obtain ⟨x2, e21, h⟩ := bindE h
      refine w_sreg (w_abs [(0, .slice (a0.map e_impl_Term)), (1, .int .i64 a1), (7, .int .i64 v7_16), (8, .int .i64 v8_16), (28, .bool (!x2))] (fun P hP => ?_) ?_)
      ·simp only [V0.down, simprocAttr, zz6.down, b18, e20]
       refine w_callg0 (ok_spec_l03Term x1 a1 _ e21) rfl rfl rfl rfl (.inl (by rfl)) ?_
       simp only [V0.down, simprocAttr, zz6.down, b18, e20]
       (try simp only [VN.down, simprocAttr, e_impl_Term, b18, e20] at hP ⊢); exact hP
      rcases condE h with ⟨b22, h⟩ | ⟨b22, h⟩
      ·refine w_ct (congrArg AV.bool b22) ?_
       simp only [(bnT b22), Bool.not_true, Bool.not_false]
       refine ws _ ?_
       exact w_ret (q16 _ (q15 _ (q14 _ (q10 _ (q9 _ (q7 _ (r0 _ (.inl (w_fin [.bool false] rfl (by cases someE h; rfl) (by decide) outs_nil)))))))))
      ·refine w_cf (congrArg AV.bool b22) ?_
       simp only [(bnF b22), Bool.not_true, Bool.not_false]
       refine w_skip (n16 _ (.inl ?_))
       obtain ⟨x3, e25, h⟩ := bindE h
       refine wrcf e20 (ok_spec_l03Arity x1 _ e25) _ ?_
       refine n15 _ (n14 _ (.inl ?_))
       refine wr _ ?_
       exact n10 _ (.inr ⟨_, weak_eq rfl, ih16 (IntKind.i64.wrap (v7_16 + (IntKind.i64.wrap (x3 - 1)))) (IntKind.i64.wrap (v8_16 + 1)) h⟩)
    ·refine w_cf (congrArg AV.bool b13) ?_
     simp only [b13, Bool.not_true, Bool.not_false]
     refine w_ex (x11 0 _ (x10 0 _ (b9 _ (n7 _ (.inl ?_)))))
     refine ws _ ?_
     exact w_ret (r0 _ (.inl (w_fin [.bool (v7_16 == 0)] rfl (by cases someE h; rfl) (by decide) outs_nil)))
  obtain ⟨n, h⟩ := limE h
  exact w_loop (.inr ⟨_, weak_eq rfl, L16 n 1 0 h⟩)

theorem ok_spec_l08Each (a0 : List (List impl_Term)) (a1 : Int) (r : Bool) (h : spec_l08Each a0 a1 = some r) : OkAt Cc 289 [.slice (a0.map e_s_impl_Term), .int .i64 a1] (.bool r) [] := by
 refine OkAt.of_wpR (fx := [0, 1]) Cc_ok [.tmp 4] [(0, .slice (a0.map e_s_impl_Term)), (1, .int .i64 a1)] Try.func289 rfl rfl s289 (Nat.le_of_ble_eq_true rfl) rfl rfl (fun Q0 r0 n0 => ?_)
 refine ws _ ?_
 refine w_seq (fun Q2 n2 q2 x2 => ?_)
 refine ws _ ?_
 refine w_blk (fun Q4 n4 q4 b4 x4 => ?_)
 have L6 : ∀ (n : Nat) (v5_6 : Int), spec_l08Each_l6 a0 a1 n v5_6 = some r → lpC Cc c289_7 Q4 (stA [(0, .slice (a0.map e_s_impl_Term)), (1, .int .i64 a1), (5, .int .i64 v5_6)]) := by
  intro m6
  induction m6 with
  | zero => intro v5_6 h; cases (show none = some r from h)
  | succ m6 ih6 =>
   intro v5_6 h
   replace h : spec_l08Each_b6 (spec_l08Each_l6 a0 a1 m6) a0 a1 v5_6 = some r := h
   refine lpC_step (fun Q5 n5 q5 x5 => ?_)
   refine w_seq (fun Q6 n6 q6 x6 => ?_)
   refine ws _ ?_
   rcases condE h with ⟨b8, h⟩ | ⟨b8, h⟩
   ·refine w_ct (congrArg AV.bool b8) ?_
    simp only [b8, Bool.not_true, Bool.not_false]
    refine w_skip (n6 _ (.inl ?_))
    refine w_seq (fun Q9 n9 q9 x9 => ?_)
    refine w_blk (fun Q10 n10 q10 b10 x10 => ?_)
    obtain ⟨x1, e12, h⟩ := bindE h
    obtain ⟨x2, e13, h⟩ := bindE h
    refine wscf e12 (ok_spec_l03Is x1 a1 60 _ e13) _ ?_
    rcases condE h with ⟨b14, h⟩ | ⟨b14, h⟩
    ·refine w_ct (congrArg AV.bool b14) ?_
     simp only [(bnT b14), Bool.not_true, Bool.not_false]
     refine ws _ ?_
     exact w_ret (q10 _ (q9 _ (q5 _ (q4 _ (q2 _ (r0 _ (.inl (w_fin [.bool false] rfl (by cases someE h; rfl) (by decide) outs_nil))))))))
    ·refine w_cf (congrArg AV.bool b14) ?_
     simp only [(bnF b14), Bool.not_true, Bool.not_false]
     refine w_skip (n10 _ (n9 _ (.inl ?_)))
     refine wr _ ?_
     exact n5 _ (.inr ⟨_, weak_eq rfl, ih6 (IntKind.i64.wrap (v5_6 + 1)) h⟩)
   ·refine w_cf (congrArg AV.bool b8) ?_
    simp only [b8, Bool.not_true, Bool.not_false]
    refine w_ex (x6 0 _ (x5 0 _ (b4 _ (n2 _ (.inl ?_)))))
    refine ws _ ?_
    exact w_ret (r0 _ (.inl (w_fin [.bool true] rfl (by cases someE h; rfl) (by decide) outs_nil)))
 obtain ⟨n, h⟩ := limE h
 exact w_loop (.inr ⟨_, weak_eq rfl, L6 n 0 h⟩)

theorem ok_spec_l01Small (a0 : UInt8) (r : Bool) (h : spec_l01Small a0 = some r) : OkAt Cc 208 [.int .u8 (a0.toNat : Int)] (.bool r) [] := by
 refine OkAt.of_wpR (fx := [0]) Cc_ok [.tmp 2] [(0, .int .u8 (a0.toNat : Int))] Try.func208 rfl rfl s208 (Nat.le_of_ble_eq_true rfl) rfl rfl (fun Q0 r0 n0 => ?_)
 refine ws _ ?_
 refine w_sreg (w_abs [(2, .bool ((decide (97 ≤ (a0.toNat : Int))) && (decide ((a0.toNat : Int) ≤ 122))))] (fun P hP => ?_) ?_)
 ·rcases Bool.eq_false_or_eq_true (decide (97 ≤ (a0.toNat : Int))) with s3 | s3
  ·simp only [V0.down, simprocAttr, s3]
   (try simp only [VN.down, simprocAttr, s3] at hP ⊢); exact hP
  ·simp only [V0.down, simprocAttr, s3]
   (try simp only [VN.down, simprocAttr, s3] at hP ⊢); exact hP
 exact w_ret (r0 _ (.inl (w_fin [.bool ((decide (97 ≤ (a0.toNat : Int))) && (decide ((a0.toNat : Int) ≤ 122)))] rfl (by cases someE h; rfl) (by decide) outs_nil)))

theorem ok_spec_l01Digit (a0 : UInt8) (r : Bool) (h : spec_l01Digit a0 = some r) : OkAt Cc 209 [.int .u8 (a0.toNat : Int)] (.bool r) [] := by
 refine OkAt.of_wpR (fx := [0]) Cc_ok [.tmp 2] [(0, .int .u8 (a0.toNat : Int))] Try.func209 rfl rfl s209 (Nat.le_of_ble_eq_true rfl) rfl rfl (fun Q0 r0 n0 => ?_)
 refine ws _ ?_
 refine w_sreg (w_abs [(2, .bool ((decide (48 ≤ (a0.toNat : Int))) && (decide ((a0.toNat : Int) ≤ 57))))] (fun P hP => ?_) ?_)
 ·rcases Bool.eq_false_or_eq_true (decide (48 ≤ (a0.toNat : Int))) with s3 | s3
  ·simp only [V0.down, simprocAttr, s3]
   (try simp only [VN.down, simprocAttr, s3] at hP ⊢); exact hP
  ·simp only [V0.down, simprocAttr, s3]
   (try simp only [VN.down, simprocAttr, s3] at hP ⊢); exact hP
 exact w_ret (r0 _ (.inl (w_fin [.bool ((decide (48 ≤ (a0.toNat : Int))) && (decide ((a0.toNat : Int) ≤ 57)))] rfl (by cases someE h; rfl) (by decide) outs_nil)))

set_option maxHeartbeats 600000 in
theorem ok_spec_l01Name (a0 : List UInt8) (r : Bool) (h : spec_l01Name a0 = some r) : OkAt Cc 124 [.str a0] (.bool r) [] := by
 refine OkAt.of_wpR (fx := [0]) Cc_ok [.tmp 2] [(0, .str a0)] Try.func124 rfl rfl s124 (Nat.le_of_ble_eq_true rfl) rfl rfl (fun Q0 r0 n0 => ?_)
 refine ws _ ?_
 refine w_seq (fun Q2 n2 q2 x2 => ?_)
 rcases condE h with ⟨b4, h⟩ | ⟨b4, h⟩
 ·refine wsf b4 _ ?_
  refine w_ct rfl ?_
  refine ws _ ?_
  exact w_ret (q2 _ (r0 _ (.inl (w_fin [.bool false] rfl (by cases someE h; rfl) (by decide) outs_nil))))
 ·rcases condE h with ⟨b6, h⟩ | ⟨b6, h⟩
  ·refine wsf (And.intro b4 b6) _ ?_
   refine w_ct rfl ?_
   refine ws _ ?_
   exact w_ret (q2 _ (r0 _ (.inl (w_fin [.bool false] rfl (by cases someE h; rfl) (by decide) outs_nil))))
  ·obtain ⟨x1, e8, h⟩ := bindE h
   obtain ⟨x2, e9, h⟩ := bindE h
   refine w_sreg (w_abs [(0, .str a0), (16, .bool (!x2))] (fun P hP => ?_) ?_)
   ·simp only [V0.down, simprocAttr, tt9, b4, b6, e8]
    refine w_callg0 (ok_spec_l01Small x1 _ e9) rfl rfl rfl rfl (.inl (by rfl)) ?_
    simp only [V0.down, simprocAttr, tt9, b4, b6, e8]
    (try simp only [VN.down, simprocAttr, b4, b6, e8] at hP ⊢); exact hP
   rcases condE h with ⟨b10, h⟩ | ⟨b10, h⟩
   ·refine w_ct (congrArg AV.bool b10) ?_
    simp only [(bnT b10), Bool.not_true, Bool.not_false]
    refine ws _ ?_
    exact w_ret (q2 _ (r0 _ (.inl (w_fin [.bool false] rfl (by cases someE h; rfl) (by decide) outs_nil))))
   ·refine w_cf (congrArg AV.bool b10) ?_
    simp only [(bnF b10), Bool.not_true, Bool.not_false]
    refine w_skip (n2 _ (.inl ?_))
    refine w_seq (fun Q12 n12 q12 x12 => ?_)
    refine ws _ ?_
    refine w_blk (fun Q14 n14 q14 b14 x14 => ?_)
    have L14 : ∀ (n : Nat) (v3_14 : Int), spec_l01Name_l14 a0 n v3_14 = some r → lpC Cc c124_15 Q14 (stA [(0, .str a0), (3, .int .i64 v3_14)]) := by
     intro m14
     induction m14 with
     | zero => intro v3_14 h; cases (show none = some r from h)
     | succ m14 ih14 =>
      intro v3_14 h
      replace h : spec_l01Name_b14 (spec_l01Name_l14 a0 m14) a0 v3_14 = some r := h
      refine lpC_step (fun Q15 n15 q15 x15 => ?_)
      refine w_seq (fun Q16 n16 q16 x16 => ?_)
      refine ws _ ?_
      rcases condE h with ⟨b18, h⟩ | ⟨b18, h⟩
      ·refine w_ct (congrArg AV.bool b18) ?_
       simp only [b18, Bool.not_true, Bool.not_false]
       refine w_skip (n16 _ (.inl ?_))
       refine w_seq (fun Q19 n19 q19 x19 => ?_)
       refine w_blk (fun Q20 n20 q20 b20 x20 => ?_)
       obtain ⟨x3, e22, h⟩ := bindE h
       obtain ⟨x4, e23, h⟩ := bindE h
       rcases condE h with ⟨b24, h⟩ | ⟨b24, h⟩
       ·obtain ⟨x5, e25, h⟩ := bindE h
        refine w_sreg (w_abs [(0, .str a0), (3, .int .i64 v3_14), (34, .bool (!x5))] (fun P hP => ?_) ?_)
        ·simp only [V0.down, simprocAttr, tt9, e22, (bnT b24)]
         refine w_call0 (ok_spec_l01Small x3 _ e23) rfl rfl rfl rfl (.inl (by rfl)) ?_
         simp only [V0.down, simprocAttr, tt9, e22, (bnT b24)]
         refine w_callg0 (ok_spec_l01Digit x3 _ e25) rfl rfl rfl rfl (.inl (by rfl)) ?_
         simp only [V0.down, simprocAttr, tt9, e22, (bnT b24)]
         (try simp only [VN.down, simprocAttr, e22, (bnT b24)] at hP ⊢); exact hP
        rcases condE h with ⟨b26, h⟩ | ⟨b26, h⟩
        ·refine w_ct (congrArg AV.bool b26) ?_
         simp only [(bnT b26), Bool.not_true, Bool.not_false]
         refine ws _ ?_
         exact w_ret (q20 _ (q19 _ (q15 _ (q14 _ (q12 _ (r0 _ (.inl (w_fin [.bool false] rfl (by cases someE h; rfl) (by decide) outs_nil))))))))
        ·refine w_cf (congrArg AV.bool b26) ?_
         simp only [(bnF b26), Bool.not_true, Bool.not_false]
         refine w_skip (n20 _ (n19 _ (.inl ?_)))
         refine wr _ ?_
         exact n15 _ (.inr ⟨_, weak_eq rfl, ih14 (IntKind.i64.wrap (v3_14 + 1)) h⟩)
       ·refine wscf (And.intro e22 (bnF b24)) (ok_spec_l01Small x3 _ e23) _ ?_
        refine w_cf rfl ?_
        refine w_skip (n20 _ (n19 _ (.inl ?_)))
        refine wr _ ?_
        exact n15 _ (.inr ⟨_, weak_eq rfl, ih14 (IntKind.i64.wrap (v3_14 + 1)) h⟩)
      ·refine w_cf (congrArg AV.bool b18) ?_
       simp only [b18, Bool.not_true, Bool.not_false]
       refine w_ex (x16 0 _ (x15 0 _ (b14 _ (n12 _ (.inl ?_)))))
       refine ws _ ?_
       exact w_ret (r0 _ (.inl (w_fin [.bool true] rfl (by cases someE h; rfl) (by decide) outs_nil)))
    obtain ⟨n, h⟩ := limE h
    exact w_loop (.inr ⟨_, weak_eq rfl, L14 n 0 h⟩)

theorem ok_spec_l01Action (a0 : List UInt8) (r : Bool) (h : spec_l01Action a0 = some r) : OkAt Cc 288 [.str a0] (.bool r) [] := by
 refine OkAt.of_wpR (fx := [0]) Cc_ok [.tmp 2] [(0, .str a0)] Try.func288 rfl rfl s288 (Nat.le_of_ble_eq_true rfl) rfl rfl (fun Q0 r0 n0 => ?_)
 refine ws _ ?_
 obtain ⟨x1, e3, h⟩ := bindE h
 refine w_sreg (w_abs [(2, .bool (x1 && (!(a0 == ([116, 97, 117] : List UInt8)))))] (fun P hP => ?_) ?_)
 ·rcases Bool.eq_false_or_eq_true (x1) with s4 | s4
  ·simp only [V0.down, simprocAttr, s4]
   refine w_call0 (ok_spec_l01Name a0 _ e3) rfl rfl rfl rfl (.inl (by rfl)) ?_
   simp only [V0.down, simprocAttr, s4]
   (try simp only [VN.down, simprocAttr, s4] at hP ⊢); exact hP
  ·simp only [V0.down, simprocAttr, s4]
   refine w_call0 (ok_spec_l01Name a0 _ e3) rfl rfl rfl rfl (.inl (by rfl)) ?_
   simp only [V0.down, simprocAttr, s4]
   (try simp only [VN.down, simprocAttr, s4] at hP ⊢); exact hP
 exact w_ret (r0 _ (.inl (w_fin [.bool (x1 && (!(a0 == ([116, 97, 117] : List UInt8))))] rfl (by cases someE h; rfl) (by decide) outs_nil)))

set_option maxHeartbeats 600000 in
theorem ok_spec_l08Summand (a0 : impl_Summand) (a1 : Int) (r : Bool) (h : spec_l08Summand a0 a1 = some r) : OkAt Cc 232 [.ref (e_impl_Summand a0), .int .i64 a1] (.bool r) [] := by
 refine OkAt.of_wpR (fx := [0, 1]) Cc_ok [.tmp 4] [(0, .ref (e_impl_Summand a0)), (1, .int .i64 a1)] Try.func232 rfl rfl s232 (Nat.le_of_ble_eq_true rfl) rfl rfl (fun Q0 r0 n0 => ?_)
 refine ws _ ?_
 refine w_seq (fun Q2 n2 q2 x2 => ?_)
 obtain ⟨x1, e4, h⟩ := bindE h
 refine wsc (ok_spec_l08Tries a0.Sums _ e4) _ ?_
 rcases condE h with ⟨b5, h⟩ | ⟨b5, h⟩
 ·refine w_ct (congrArg AV.bool b5) ?_
  simp only [b5, Bool.not_true, Bool.not_false]
  refine ws _ ?_
  exact w_ret (q2 _ (r0 _ (.inl (w_fin [.bool false] rfl (by cases someE h; rfl) (by decide) outs_nil))))
 ·refine w_cf (congrArg AV.bool b5) ?_
  simp only [b5, Bool.not_true, Bool.not_false]
  refine w_skip (n2 _ (.inl ?_))
  refine ws _ ?_
  refine w_seq (fun Q8 n8 q8 x8 => ?_)
  obtain ⟨x2, e10, h⟩ := bindE h
  refine w_sreg (w_abs [(0, .ref (e_impl_Summand a0)), (5, .int .i64 (IntKind.i64.wrap (a1 + (a0.Sums.length : Int)))), (34, .bool ((!x2) || ((a0.Next.length : Int) != a1)))] (fun P hP => ?_) ?_)
  ·rcases Bool.eq_false_or_eq_true (x2) with s11 | s11
   ·simp only [V0.down, simprocAttr, zz0.down, s11]
    refine w_call0 (ok_spec_l03Is a0.Guard (IntKind.i64.wrap (a1 + (a0.Sums.length : Int))) 60 _ e10) rfl rfl rfl rfl (.inl (by rfl)) ?_
    simp only [V0.down, simprocAttr, zz0.down, s11]
    (try simp only [VN.down, simprocAttr, zz3.down, s11] at hP ⊢); exact hP
   ·simp only [V0.down, simprocAttr, zz0.down, s11]
    refine w_call0 (ok_spec_l03Is a0.Guard (IntKind.i64.wrap (a1 + (a0.Sums.length : Int))) 60 _ e10) rfl rfl rfl rfl (.inl (by rfl)) ?_
    simp only [V0.down, simprocAttr, zz0.down, s11]
    (try simp only [VN.down, simprocAttr, zz3.down, s11] at hP ⊢); exact hP
  rcases condE h with ⟨b12, h⟩ | ⟨b12, h⟩
  ·refine w_ct (congrArg AV.bool b12) ?_
   simp only [b12, Bool.not_true, Bool.not_false]
   refine ws _ ?_
   exact w_ret (q8 _ (r0 _ (.inl (w_fin [.bool false] rfl (by cases someE h; rfl) (by decide) outs_nil))))
  ·refine w_cf (congrArg AV.bool b12) ?_
   simp only [b12, Bool.not_true, Bool.not_false]
   refine w_skip (n8 _ (.inl ?_))
   refine w_seq (fun Q14 n14 q14 x14 => ?_)
   rcases condE h with ⟨b16, h⟩ | ⟨b16, h⟩
   ·rcases condE h with ⟨b17, h⟩ | ⟨b17, h⟩
    ·refine wsf (And.intro b16 b17) _ ?_
     refine w_ct rfl ?_
     refine ws _ ?_
     exact w_ret (q14 _ (r0 _ (.inl (w_fin [.bool false] rfl (by cases someE h; rfl) (by decide) outs_nil))))
    ·refine wsf (And.intro b16 b17) _ ?_
     rcases condE h with ⟨b19, h⟩ | ⟨b19, h⟩
     ·refine w_ct (congrArg AV.bool b19) ?_
      simp only [b19, Bool.not_true, Bool.not_false]
      refine ws _ ?_
      exact w_ret (q14 _ (r0 _ (.inl (w_fin [.bool false] rfl (by cases someE h; rfl) (by decide) outs_nil))))
     ·refine w_cf (congrArg AV.bool b19) ?_
      simp only [b19, Bool.not_true, Bool.not_false]
      refine w_skip (n14 _ (.inl ?_))
      obtain ⟨x3, e22, h⟩ := bindE h
      rcases condE h with ⟨b23, h⟩ | ⟨b23, h⟩
      ·obtain ⟨x4, e24, h⟩ := bindE h
       refine w_sreg (w_abs [(4, .bool x4)] (fun P hP => ?_) ?_)
       ·simp only [V0.down, simprocAttr, zz0.down, b23]
        refine w_call0 (ok_spec_l08Each a0.Arguments (IntKind.i64.wrap (a1 + (a0.Sums.length : Int))) _ e22) rfl rfl rfl rfl (.inl (by rfl)) ?_
        simp only [V0.down, simprocAttr, zz0.down, b23]
        refine w_callg0 (ok_spec_l08Each a0.Next (IntKind.i64.wrap (a1 + (a0.Sums.length : Int))) _ e24) rfl rfl rfl rfl (.inl (by rfl)) ?_
        simp only [V0.down, simprocAttr, zz0.down, b23]
        (try simp only [VN.down, simprocAttr, zz3.down, b23] at hP ⊢); exact hP
       exact w_ret (r0 _ (.inl (w_fin [.bool x4] rfl (by cases someE h; rfl) (by decide) outs_nil)))
      ·refine wscf b23 (ok_spec_l08Each a0.Arguments (IntKind.i64.wrap (a1 + (a0.Sums.length : Int))) _ e22) _ ?_
       exact w_ret (r0 _ (.inl (w_fin [.bool false] rfl (by cases someE h; rfl) (by decide) outs_nil)))
   ·obtain ⟨x5, e25, h⟩ := bindE h
    rcases condE h with ⟨b26, h⟩ | ⟨b26, h⟩
    ·refine w_sreg (w_abs [(0, .ref (e_impl_Summand a0)), (5, .int .i64 (IntKind.i64.wrap (a1 + (a0.Sums.length : Int)))), (70, .bool true)] (fun P hP => ?_) ?_)
     ·simp only [V0.down, simprocAttr, zz0.down, b16, (bnT b26)]
      refine w_callg0 (ok_spec_l01Action a0.Name _ e25) rfl rfl rfl rfl (.inl (by rfl)) ?_
      simp only [V0.down, simprocAttr, zz0.down, b16, (bnT b26)]
      (try simp only [VN.down, simprocAttr, zz3.down, b16, (bnT b26)] at hP ⊢); exact hP
     refine w_ct rfl ?_
     refine ws _ ?_
     exact w_ret (q14 _ (r0 _ (.inl (w_fin [.bool false] rfl (by cases someE h; rfl) (by decide) outs_nil))))
    ·refine w_sreg (w_abs [(0, .ref (e_impl_Summand a0)), (5, .int .i64 (IntKind.i64.wrap (a1 + (a0.Sums.length : Int)))), (70, .bool (decide (2 < (a0.Arguments.length : Int))))] (fun P hP => ?_) ?_)
     ·simp only [V0.down, simprocAttr, zz0.down, b16, (bnF b26)]
      refine w_callg0 (ok_spec_l01Action a0.Name _ e25) rfl rfl rfl rfl (.inl (by rfl)) ?_
      simp only [V0.down, simprocAttr, zz0.down, b16, (bnF b26)]
      (try simp only [VN.down, simprocAttr, zz3.down, b16, (bnF b26)] at hP ⊢); exact hP
     rcases condE h with ⟨b28, h⟩ | ⟨b28, h⟩
     ·refine w_ct (congrArg AV.bool b28) ?_
      simp only [b28, Bool.not_true, Bool.not_false]
      refine ws _ ?_
      exact w_ret (q14 _ (r0 _ (.inl (w_fin [.bool false] rfl (by cases someE h; rfl) (by decide) outs_nil))))
     ·refine w_cf (congrArg AV.bool b28) ?_
      simp only [b28, Bool.not_true, Bool.not_false]
      refine w_skip (n14 _ (.inl ?_))
      obtain ⟨x6, e31, h⟩ := bindE h
      rcases condE h with ⟨b32, h⟩ | ⟨b32, h⟩
      ·obtain ⟨x7, e33, h⟩ := bindE h
       refine w_sreg (w_abs [(4, .bool x7)] (fun P hP => ?_) ?_)
       ·simp only [V0.down, simprocAttr, zz0.down, b32]
        refine w_call0 (ok_spec_l08Each a0.Arguments (IntKind.i64.wrap (a1 + (a0.Sums.length : Int))) _ e31) rfl rfl rfl rfl (.inl (by rfl)) ?_
        simp only [V0.down, simprocAttr, zz0.down, b32]
        refine w_callg0 (ok_spec_l08Each a0.Next (IntKind.i64.wrap (a1 + (a0.Sums.length : Int))) _ e33) rfl rfl rfl rfl (.inl (by rfl)) ?_
        simp only [V0.down, simprocAttr, zz0.down, b32]
        (try simp only [VN.down, simprocAttr, zz3.down, b32] at hP ⊢); exact hP
       exact w_ret (r0 _ (.inl (w_fin [.bool x7] rfl (by cases someE h; rfl) (by decide) outs_nil)))
      ·refine wscf b32 (ok_spec_l08Each a0.Arguments (IntKind.i64.wrap (a1 + (a0.Sums.length : Int))) _ e31) _ ?_
       exact w_ret (r0 _ (.inl (w_fin [.bool false] rfl (by cases someE h; rfl) (by decide) outs_nil)))

set_option maxHeartbeats 1400000 in
theorem ok_spec_l08Is (a0 : impl_Linear) (r : Bool) (h : spec_l08Is a0 = some r) : OkAt Cc 153 [.ref (e_impl_Linear a0)] (.bool r) [] := by
 refine OkAt.of_wpR (fx := [0]) Cc_ok [.tmp 2] [(0, .ref (e_impl_Linear a0))] Try.func153 rfl rfl s153 (Nat.le_of_ble_eq_true rfl) rfl rfl (fun Q0 r0 n0 => ?_)
 refine ws _ ?_
 refine w_seq (fun Q2 n2 q2 x2 => ?_)
 obtain ⟨x1, e4, h⟩ := bindE h
 rcases condE h with ⟨b5, h⟩ | ⟨b5, h⟩
 ·refine w_sdrw rfl (w_absd [(0, .ref (e_impl_Linear a0)), (29, .bool true)] (fun P hP => ?_) ?_)
  ·simp only [V1.down, simprocAttr, zz1.down, (bnT b5)]
   refine w_call1 (ok_spec_l00In a0.Parameters 0 21 _ e4) rfl rfl rfl rfl (.inl (by rfl)) ?_
   simp only [V1.down, simprocAttr, zz1.down, (bnT b5)]
   refine ⟨okP_D (by kernel_rfl), ?_⟩
   (try simp only [VN.down, simprocAttr, zz2.down, (bnT b5)] at hP ⊢); exact hP
  refine w_ct rfl ?_
  refine ws _ ?_
  exact w_ret (q2 _ (r0 _ (.inl (w_fin [.bool false] rfl (by cases someE h; rfl) (by decide) outs_nil))))
 ·obtain ⟨x2, e7, h⟩ := bindE h
  refine w_sdrw rfl (w_absd [(0, .ref (e_impl_Linear a0)), (29, .bool ((!x2) || (decide (60 < (a0.Summands.length : Int)))))] (fun P hP => ?_) ?_)
  ·rcases Bool.eq_false_or_eq_true (x2) with s8 | s8
   ·simp only [V1.down, simprocAttr, zz1.down, (bnF b5), s8]
    refine w_call1 (ok_spec_l00In a0.Parameters 0 21 _ e4) rfl rfl rfl rfl (.inl (by rfl)) ?_
    simp only [V1.down, simprocAttr, zz1.down, (bnF b5), s8]
    refine w_callg1 (ok_spec_l08Data a0.Start a0.Parameters _ e7) rfl rfl rfl rfl (.inl (by rfl)) ?_
    simp only [V1.down, simprocAttr, zz1.down, (bnF b5), s8]
    refine ⟨okP_D (by kernel_rfl), ?_⟩
    (try simp only [VN.down, simprocAttr, zz2.down, (bnF b5), s8] at hP ⊢); exact hP
   ·simp only [V1.down, simprocAttr, zz1.down, (bnF b5), s8]
    refine w_call1 (ok_spec_l00In a0.Parameters 0 21 _ e4) rfl rfl rfl rfl (.inl (by rfl)) ?_
    simp only [V1.down, simprocAttr, zz1.down, (bnF b5), s8]
    refine w_callg1 (ok_spec_l08Data a0.Start a0.Parameters _ e7) rfl rfl rfl rfl (.inl (by rfl)) ?_
    simp only [V1.down, simprocAttr, zz1.down, (bnF b5), s8]
    refine ⟨okP_D (by kernel_rfl), ?_⟩
    (try simp only [VN.down, simprocAttr, zz2.down, (bnF b5), s8] at hP ⊢); exact hP
  rcases condE h with ⟨b9, h⟩ | ⟨b9, h⟩
  ·refine w_ct (congrArg AV.bool b9) ?_
   simp only [b9, Bool.not_true, Bool.not_false]
   refine ws _ ?_
   exact w_ret (q2 _ (r0 _ (.inl (w_fin [.bool false] rfl (by cases someE h; rfl) (by decide) outs_nil))))
  ·refine w_cf (congrArg AV.bool b9) ?_
   simp only [b9, Bool.not_true, Bool.not_false]
   refine w_skip (n2 _ (.inl ?_))
   refine w_seq (fun Q11 n11 q11 x11 => ?_)
   refine ws _ ?_
   refine w_blk (fun Q13 n13 q13 b13 x13 => ?_)
   have L14 : ∀ (n : Nat) (v3_14 : Int), spec_l08Is_l14 a0 n v3_14 = some r → lpC Cc c153_15 Q13 (stA [(0, .ref (e_impl_Linear a0)), (3, .int .i64 v3_14)]) := by
    intro m14
    induction m14 with
    | zero => intro v3_14 h; cases (show none = some r from h)
    | succ m14 ih14 =>
     intro v3_14 h
     replace h : spec_l08Is_b14 (spec_l08Is_l14 a0 m14) a0 v3_14 = some r := h
     refine lpC_step (fun Q14 n14 q14 x14 => ?_)
     refine w_seq (fun Q15 n15 q15 x15 => ?_)
     refine ws _ ?_
     rcases condE h with ⟨b17, h⟩ | ⟨b17, h⟩
     ·refine w_ct (congrArg AV.bool b17) ?_
      simp only [b17, Bool.not_true, Bool.not_false]
      refine w_skip (n15 _ (.inl ?_))
      refine w_seq (fun Q18 n18 q18 x18 => ?_)
      refine w_blk (fun Q19 n19 q19 b19 x19 => ?_)
      obtain ⟨x3, e21, h⟩ := bindE h
      obtain ⟨x4, e22, h⟩ := bindE h
      refine w_sdrw rfl (w_absd [(0, .ref (e_impl_Linear a0)), (3, .int .i64 v3_14), (50, .bool (!x4))] (fun P hP => ?_) ?_)
      ·simp only [V1.down, simprocAttr, zz1.down, e21]
       refine w_call1 (ok_spec_l08Summand x3 a0.Parameters _ e22) rfl rfl rfl rfl (.inl (by rfl)) ?_
       simp only [V1.down, simprocAttr, zz1.down, e21]
       refine ⟨okP_D (by kernel_rfl), ?_⟩
       (try simp only [VN.down, simprocAttr, zz2.down, e21] at hP ⊢); exact hP
      rcases condE h with ⟨b23, h⟩ | ⟨b23, h⟩
      ·refine w_ct (congrArg AV.bool b23) ?_
       simp only [(bnT b23), Bool.not_true, Bool.not_false]
       refine ws _ ?_
       exact w_ret (q19 _ (q18 _ (q14 _ (q13 _ (q11 _ (r0 _ (.inl (w_fin [.bool false] rfl (by cases someE h; rfl) (by decide) outs_nil))))))))
      ·refine w_cf (congrArg AV.bool b23) ?_
       simp only [(bnF b23), Bool.not_true, Bool.not_false]
       refine w_skip (n19 _ (n18 _ (.inl ?_)))
       refine wr _ ?_
       exact n14 _ (.inr ⟨_, weak_eq rfl, ih14 (IntKind.i64.wrap (v3_14 + 1)) h⟩)
     ·refine w_cf (congrArg AV.bool b17) ?_
      simp only [b17, Bool.not_true, Bool.not_false]
      refine w_ex (x15 0 _ (x14 0 _ (b13 _ (n11 _ (.inl ?_)))))
      refine ws _ ?_
      exact w_ret (r0 _ (.inl (w_fin [.bool true] rfl (by cases someE h; rfl) (by decide) outs_nil)))
   obtain ⟨n, h⟩ := limE h
   exact w_loop (.inr ⟨_, weak_eq rfl, L14 n 0 h⟩)

theorem ok_spec_l08Occur (a0 : List impl_Term) (a1 : List Bool) (r : (List Bool)) (h : spec_l08Occur a0 a1 = some r) : OkAt Cc 261 [.slice (a0.map e_impl_Term), .uslice 1 (a1.map e_bool)] (.tuple []) [.hole, .uslice 1 (r.map e_bool)] := by
 refine OkAt.of_wpR (fx := [0, 1]) Cc_ok [] [(0, .slice (a0.map e_impl_Term)), (1, .uslice 1 (a1.map e_bool))] Try.func261 rfl rfl s261 (Nat.le_of_ble_eq_true rfl) rfl rfl (fun Q0 r0 n0 => ?_)
 refine ws _ ?_
 refine w_blk (fun Q2 n2 q2 b2 x2 => ?_)
 have L3 : ∀ (n : Nat) (v1_3 : List Bool) (v4_3 : Int), spec_l08Occur_l3 a0 n v1_3 v4_3 = some r → lpC Cc c261_4 Q2 (stA [(0, .slice (a0.map e_impl_Term)), (1, .uslice 1 (v1_3.map e_bool)), (4, .int .i64 v4_3)]) := by
  intro m3
  induction m3 with
  | zero => intro v1_3 v4_3 h; cases (show none = some r from h)
  | succ m3 ih3 =>
   intro v1_3 v4_3 h
   replace h : spec_l08Occur_b3 (spec_l08Occur_l3 a0 m3) a0 v1_3 v4_3 = some r := h
   refine lpC_step (fun Q3 n3 q3 x3 => ?_)
   refine w_seq (fun Q4 n4 q4 x4 => ?_)
   refine ws _ ?_
   rcases condE h with ⟨b6, h⟩ | ⟨b6, h⟩
   ·refine w_ct (congrArg AV.bool b6) ?_
    simp only [b6, Bool.not_true, Bool.not_false]
    refine w_skip (n4 _ (.inl ?_))
    have K17 : ∀ (v1_17 : List Bool) (v4_17 : Int), spec_l08Occur_k17 (spec_l08Occur_l3 a0 m3) a0 v1_17 v4_17 = some r → wpC Cc c261_17 Q3 (stA [(0, .slice (a0.map e_impl_Term)), (1, .uslice 1 (v1_17.map e_bool)), (4, .int .i64 v4_17)]) := by
     intro v1_17 v4_17 h
     refine wr _ ?_
     exact n3 _ (.inr ⟨_, weak_eq rfl, ih3 v1_17 (IntKind.i64.wrap (v4_17 + 1)) h⟩)
    refine w_seq (fun Q7 n7 q7 x7 => ?_)
    refine w_blk (fun Q9 n9 q9 b9 x9 => ?_)
    obtain ⟨x1, e11, h⟩ := bindE h
    refine w_sreg (w_abs [(0, .slice (a0.map e_impl_Term)), (1, .uslice 1 (v1_3.map e_bool)), (4, .int .i64 v4_3), (26, .bool ((x1.Kind == 1) && (decide (x1.Value < (v1_3.length : Int)))))] (fun P hP => ?_) ?_)
    ·rcases Bool.eq_false_or_eq_true (x1.Kind == 1) with s12 | s12
     ·simp only [V0.down, simprocAttr, tt2, tt4, tt40, tt131, tt214, e_bool, e_impl_Term, e11, s12]
      (try simp only [VN.down, simprocAttr, e_bool, e_impl_Term, e11, s12] at hP ⊢); exact hP
     ·simp only [V0.down, simprocAttr, tt2, tt4, tt40, tt131, tt214, e_bool, e_impl_Term, e11, s12]
      (try simp only [VN.down, simprocAttr, e_bool, e_impl_Term, e11, s12] at hP ⊢); exact hP
    rcases condE h with ⟨b13, h⟩ | ⟨b13, h⟩
    ·refine w_ct (congrArg AV.bool b13) ?_
     simp only [b13, Bool.not_true, Bool.not_false]
     obtain ⟨x2, e15, h⟩ := bindE h
     refine w_reg (w_abs [(0, .slice (a0.map e_impl_Term)), (1, .uslice 1 ((List.set v1_3 (Int.toNat x1.Value) true).map e_bool)), (4, .int .i64 v4_3)] (fun P hP => ?_) ?_)
     ·simp only [V0.down, simprocAttr, tt2, tt4, tt40, tt131, tt214, e_bool, e_impl_Term, e11, e15, getI_get e15, own_s, stoS]
      (try simp only [VN.down, simprocAttr, e_bool, e_impl_Term, e11, e15, getI_get e15, own_s, stoS] at hP ⊢); exact hP
     exact n9 _ (n7 _ (.inr ⟨_, weak_eq rfl, K17 (List.set v1_3 (Int.toNat x1.Value) true) v4_3 h⟩))
    ·refine w_cf (congrArg AV.bool b13) ?_
     simp only [b13, Bool.not_true, Bool.not_false]
     exact w_skip (n9 _ (n7 _ (.inr ⟨_, weak_eq rfl, K17 v1_3 v4_3 h⟩)))
   ·refine w_cf (congrArg AV.bool b6) ?_
    simp only [b6, Bool.not_true, Bool.not_false]
    exact w_ex (x4 0 _ (x3 0 _ (b2 _ (n0 _ (.inl (w_fin [] rfl (by cases someE h; rfl) (by decide) (outs_of (out_no (out_is (by cases someE h; rfl) rfl rfl rfl (out_end))))))))))
 obtain ⟨n, h⟩ := limE h
 exact w_loop (.inr ⟨_, weak_eq rfl, L3 n a1 0 h⟩)

set_option maxHeartbeats 1000000 in
theorem ok_spec_l08Needed (a0 : impl_Linear) (r : (List Bool)) (h : spec_l08Needed a0 = some r) : OkAt Cc 180 [.ref (e_impl_Linear a0)] (.uslice 1 (r.map e_bool)) [] := by
 refine OkAt.of_wpR (fx := [0]) Cc_ok [.tmp 2] [(0, .ref (e_impl_Linear a0))] Try.func180 rfl rfl s180 (Nat.le_of_ble_eq_true rfl) rfl rfl (fun Q0 r0 n0 => ?_)
 refine ws _ ?_
 obtain ⟨u65, e3, h⟩ := bindE h
 refine w_sreg (w_abs [(0, .ref (e_impl_Linear a0)), (3, .uslice 1 ((List.replicate (Int.toNat a0.Parameters) false).map e_bool))] (fun P hP => ?_) ?_)
 ·simp only [V0.down, simprocAttr, tt2, tt4, tt9, tt40, tt68, tt88, tt90, tt131, tt195, tt197, tt214, e_bool, e_i64, e_impl_Linear, e_impl_Summand, e_impl_Term, e_s_impl_Term, (mkOkE e3).1, (mkOkE e3).2.1, (mkOkE e3).2.2, mks, List.map_replicate, -Int.reduceNatCast']
  (try simp only [VN.down, simprocAttr, zz8.down, (mkOkE e3).1, (mkOkE e3).2.1, (mkOkE e3).2.2, mks, List.map_replicate, -Int.reduceNatCast'] at hP ⊢); exact hP
 refine w_seq (fun Q4 n4 q4 x4 => ?_)
 refine ws [(0, .ref (e_impl_Linear a0)), (3, .uslice 1 ((List.replicate (Int.toNat a0.Parameters) false).map e_bool)), (4, .int .i64 0)] ?_
 refine w_blk (fun Q6 n6 q6 b6 x6 => ?_)
 have L8 : ∀ (n : Nat) (v3_8 : List Bool) (v4_8 : Int), spec_l08Needed_l8 a0 n v3_8 v4_8 = some r → lpC Cc c180_9 Q6 (stA [(0, .ref (e_impl_Linear a0)), (3, .uslice 1 (v3_8.map e_bool)), (4, .int .i64 v4_8)]) := by
  intro m8
  induction m8 with
  | zero => intro v3_8 v4_8 h; cases (show none = some r from h)
  | succ m8 ih8 =>
   intro v3_8 v4_8 h
   replace h : spec_l08Needed_b8 (spec_l08Needed_l8 a0 m8) a0 v3_8 v4_8 = some r := h
   refine lpC_step (fun Q7 n7 q7 x7 => ?_)
   refine w_seq (fun Q8 n8 q8 x8 => ?_)
   refine ws _ ?_
   rcases condE h with ⟨b10, h⟩ | ⟨b10, h⟩
   ·refine w_ct (congrArg AV.bool b10) ?_
    simp only [b10, Bool.not_true, Bool.not_false]
    refine w_skip (n8 _ (.inl ?_))
    refine w_seq (fun Q11 n11 q11 x11 => ?_)
    refine w_blk (fun Q12 n12 q12 b12 x12 => ?_)
    obtain ⟨x1, e14, h⟩ := bindE h
    obtain ⟨x2, e15, h⟩ := bindE h
    refine w_sreg (w_abs [(0, .ref (e_impl_Linear a0)), (3, .uslice 1 (x2.map e_bool)), (4, .int .i64 v4_8)] (fun P hP => ?_) ?_)
    ·simp only [V0.down, simprocAttr, zz9.down, e14]
     refine w_callp0 [⟨.slice (x1.Guard.map e_impl_Term), false, _, .hole⟩, ⟨.h 3 [], true, _, _⟩] (ok_spec_l08Occur x1.Guard v3_8 _ e15) rfl rfl rfl (by simp only [V0.down, simprocAttr, zz9.down, e14, c_nrm, okp_s, own_r, view_s, view_h, viewH_s, share_s, or_true, true_or, @shares_map _ e_bool e_bool (fun _ => sh_e_bool _)]) rfl rfl (.inl rfl) ?_
     simp only [V0.down, simprocAttr, zz9.down, e14, gv_s]
     (try simp only [VN.down, simprocAttr, zz8.down, e14] at hP ⊢); exact hP
    refine ws _ ?_
    refine w_blk (fun Q17 n17 q17 b17 x17 => ?_)
    have L22 : ∀ (n : Nat) (v3_22 : List Bool) (v4_22 : Int) (v5_22 : Int), spec_l08Needed_l22 (spec_l08Needed_l8 a0 m8) a0 n v3_22 v4_22 v5_22 = some r → lpC Cc c180_23 Q17 (stA [(0, .ref (e_impl_Linear a0)), (3, .uslice 1 (v3_22.map e_bool)), (4, .int .i64 v4_22), (5, .int .i64 v5_22)]) := by
     intro m22
     induction m22 with
     | zero => intro v3_22 v4_22 v5_22 h; cases (show none = some r from h)
     | succ m22 ih22 =>
      intro v3_22 v4_22 v5_22 h
      replace h : spec_l08Needed_b22 (spec_l08Needed_l8 a0 m8) (spec_l08Needed_l22 (spec_l08Needed_l8 a0 m8) a0 m22) a0 v3_22 v4_22 v5_22 = some r := h
      refine lpC_step (fun Q18 n18 q18 x18 => ?_)
      refine w_seq (fun Q19 n19 q19 x19 => ?_)
      obtain ⟨x3, e21, h⟩ := bindE h
      refine wsf e21 _ ?_
      rcases condE h with ⟨b22, h⟩ | ⟨b22, h⟩
      ·refine w_ct (congrArg AV.bool b22) ?_
       simp only [b22, Bool.not_true, Bool.not_false]
       refine w_skip (n19 _ (.inl ?_))
       refine w_seq (fun Q23 n23 q23 x23 => ?_)
       refine w_blk (fun Q24 n24 q24 b24 x24 => ?_)
       obtain ⟨x4, e26, h⟩ := bindE h
       obtain ⟨x5, e27, h⟩ := bindE h
       refine w_reg (w_abs [(0, .ref (e_impl_Linear a0)), (3, .uslice 1 (x5.map e_bool)), (4, .int .i64 v4_22), (5, .int .i64 v5_22)] (fun P hP => ?_) ?_)
       ·simp only [V0.down, simprocAttr, zz9.down, e21, e26]
        refine w_callp0 [⟨.slice (x4.map e_impl_Term), false, _, .hole⟩, ⟨.h 3 [], true, _, _⟩] (ok_spec_l08Occur x4 v3_22 _ e27) rfl rfl rfl (by simp only [V0.down, simprocAttr, zz9.down, e21, e26, c_nrm, okp_s, own_r, view_s, view_h, viewH_s, share_s, or_true, true_or, @shares_map _ e_bool e_bool (fun _ => sh_e_bool _)]) rfl rfl (.inl rfl) ?_
        simp only [V0.down, simprocAttr, zz9.down, e21, e26, gv_s]
        (try simp only [VN.down, simprocAttr, zz8.down, e21, e26] at hP ⊢); exact hP
       refine n24 _ (n23 _ (.inl ?_))
       refine wr _ ?_
       exact n18 _ (.inr ⟨_, weak_eq rfl, ih22 x5 v4_22 (IntKind.i64.wrap (v5_22 + 1)) h⟩)
      ·refine w_cf (congrArg AV.bool b22) ?_
       simp only [b22, Bool.not_true, Bool.not_false]
       refine w_ex (x19 2 _ (x18 2 _ (b17 _ (n12 _ (n11 _ (.inl ?_))))))
       refine wr _ ?_
       exact n7 _ (.inr ⟨_, weak_eq rfl, ih8 v3_22 (IntKind.i64.wrap (v4_22 + 1)) h⟩)
    obtain ⟨n, h⟩ := limE h
    exact w_loop (.inr ⟨_, weak_eq rfl, L22 n x2 v4_8 0 h⟩)
   ·refine w_cf (congrArg AV.bool b10) ?_
    simp only [b10, Bool.not_true, Bool.not_false]
    refine w_ex (x8 0 _ (x7 0 _ (b6 _ (n4 _ (.inl ?_)))))
    refine w_seq (fun Q30 n30 q30 x30 => ?_)
    refine ws _ ?_
    refine w_blk (fun Q32 n32 q32 b32 x32 => ?_)
    have L38 : ∀ (n : Nat) (v3_38 : List Bool) (v6_38 : Int), spec_l08Needed_l38 a0 n v3_38 v6_38 = some r → lpC Cc c180_39 Q32 (stA [(0, .ref (e_impl_Linear a0)), (3, .uslice 1 (v3_38.map e_bool)), (6, .int .i64 v6_38)]) := by
     intro m38
     induction m38 with
     | zero => intro v3_38 v6_38 h; cases (show none = some r from h)
     | succ m38 ih38 =>
      intro v3_38 v6_38 h
      replace h : spec_l08Needed_b38 (spec_l08Needed_l38 a0 m38) a0 v3_38 v6_38 = some r := h
      refine lpC_step (fun Q33 n33 q33 x33 => ?_)
      refine w_seq (fun Q34 n34 q34 x34 => ?_)
      refine ws _ ?_
      rcases condE h with ⟨b36, h⟩ | ⟨b36, h⟩
      ·refine w_ct (congrArg AV.bool b36) ?_
       simp only [b36, Bool.not_true, Bool.not_false]
       refine w_skip (n34 _ (.inl ?_))
       refine w_seq (fun Q37 n37 q37 x37 => ?_)
       refine w_blk (fun Q38 n38 q38 b38 x38 => ?_)
       refine ws _ ?_
       refine w_blk (fun Q40 n40 q40 b40 x40 => ?_)
       have L50 : ∀ (n : Nat) (v3_50 : List Bool) (v6_50 : Int) (v7_50 : Int), spec_l08Needed_l50 (spec_l08Needed_l38 a0 m38) a0 n v3_50 v6_50 v7_50 = some r → lpC Cc c180_51 Q40 (stA [(0, .ref (e_impl_Linear a0)), (3, .uslice 1 (v3_50.map e_bool)), (6, .int .i64 v6_50), (7, .int .i64 v7_50)]) := by
        intro m50
        induction m50 with
        | zero => intro v3_50 v6_50 v7_50 h; cases (show none = some r from h)
        | succ m50 ih50 =>
         intro v3_50 v6_50 v7_50 h
         replace h : spec_l08Needed_b50 (spec_l08Needed_l38 a0 m38) (spec_l08Needed_l50 (spec_l08Needed_l38 a0 m38) a0 m50) a0 v3_50 v6_50 v7_50 = some r := h
         refine lpC_step (fun Q41 n41 q41 x41 => ?_)
         refine w_seq (fun Q42 n42 q42 x42 => ?_)
         refine ws _ ?_
         rcases condE h with ⟨b44, h⟩ | ⟨b44, h⟩
         ·refine w_ct (congrArg AV.bool b44) ?_
          simp only [b44, Bool.not_true, Bool.not_false]
          refine w_skip (n42 _ (.inl ?_))
          refine w_seq (fun Q45 n45 q45 x45 => ?_)
          refine w_blk (fun Q46 n46 q46 b46 x46 => ?_)
          refine ws _ ?_
          refine w_blk (fun Q48 n48 q48 b48 x48 => ?_)
          have L62 : ∀ (n : Nat) (v3_62 : List Bool) (v6_62 : Int) (v7_62 : Int) (v8_62 : Int), spec_l08Needed_l62 (spec_l08Needed_l38 a0 m38) (spec_l08Needed_l50 (spec_l08Needed_l38 a0 m38) a0 m50) a0 n v3_62 v6_62 v7_62 v8_62 = some r → lpC Cc c180_63 Q48 (stA [(0, .ref (e_impl_Linear a0)), (3, .uslice 1 (v3_62.map e_bool)), (6, .int .i64 v6_62), (7, .int .i64 v7_62), (8, .int .i64 v8_62)]) := by
           intro m62
           induction m62 with
           | zero => intro v3_62 v6_62 v7_62 v8_62 h; cases (show none = some r from h)
           | succ m62 ih62 =>
            intro v3_62 v6_62 v7_62 v8_62 h
            replace h : spec_l08Needed_b62 (spec_l08Needed_l38 a0 m38) (spec_l08Needed_l50 (spec_l08Needed_l38 a0 m38) a0 m50) (spec_l08Needed_l62 (spec_l08Needed_l38 a0 m38) (spec_l08Needed_l50 (spec_l08Needed_l38 a0 m38) a0 m50) a0 m62) a0 v3_62 v6_62 v7_62 v8_62 = some r := h
            refine lpC_step (fun Q49 n49 q49 x49 => ?_)
            refine w_seq (fun Q50 n50 q50 x50 => ?_)
            refine ws _ ?_
            rcases condE h with ⟨b52, h⟩ | ⟨b52, h⟩
            ·refine w_ct (congrArg AV.bool b52) ?_
             simp only [b52, Bool.not_true, Bool.not_false]
             refine w_skip (n50 _ (.inl ?_))
             have K76 : ∀ (v3_76 : List Bool) (v6_76 : Int) (v7_76 : Int) (v8_76 : Int), spec_l08Needed_k76 (spec_l08Needed_l38 a0 m38) (spec_l08Needed_l50 (spec_l08Needed_l38 a0 m38) a0 m50) (spec_l08Needed_l62 (spec_l08Needed_l38 a0 m38) (spec_l08Needed_l50 (spec_l08Needed_l38 a0 m38) a0 m50) a0 m62) a0 v3_76 v6_76 v7_76 v8_76 = some r → wpC Cc c180_76 Q49 (stA [(0, .ref (e_impl_Linear a0)), (3, .uslice 1 (v3_76.map e_bool)), (6, .int .i64 v6_76), (7, .int .i64 v7_76), (8, .int .i64 v8_76)]) := by
              intro v3_76 v6_76 v7_76 v8_76 h
              refine wr _ ?_
              exact n49 _ (.inr ⟨_, weak_eq rfl, ih62 v3_76 v6_76 v7_76 (IntKind.i64.wrap (v8_76 + 1)) h⟩)
             refine w_seq (fun Q53 n53 q53 x53 => ?_)
             refine w_blk (fun Q55 n55 q55 b55 x55 => ?_)
             obtain ⟨x6, e57, h⟩ := bindE h
             refine wsf (And.intro e57 (getI_get e57)) _ ?_
             rcases condE h with ⟨b58, h⟩ | ⟨b58, h⟩
             ·refine w_ct (congrArg AV.bool b58) ?_
              simp only [b58, Bool.not_true, Bool.not_false]
              obtain ⟨x7, e60, h⟩ := bindE h
              obtain ⟨x8, e61, h⟩ := bindE h
              obtain ⟨x9, e62, h⟩ := bindE h
              refine w_reg (w_abs [(0, .ref (e_impl_Linear a0)), (3, .uslice 1 (x9.map e_bool)), (6, .int .i64 v6_62), (7, .int .i64 v7_62), (8, .int .i64 v8_62)] (fun P hP => ?_) ?_)
              ·simp only [V0.down, simprocAttr, zz9.down, e60, e61]
               refine w_callp0 [⟨.slice (x8.map e_impl_Term), false, _, .hole⟩, ⟨.h 3 [], true, _, _⟩] (ok_spec_l08Occur x8 v3_62 _ e62) rfl rfl rfl (by simp only [V0.down, simprocAttr, zz9.down, e60, e61, c_nrm, okp_s, own_r, view_s, view_h, viewH_s, share_s, or_true, true_or, @shares_map _ e_bool e_bool (fun _ => sh_e_bool _)]) rfl rfl (.inl rfl) ?_
               simp only [V0.down, simprocAttr, zz9.down, e60, e61, gv_s]
               (try simp only [VN.down, simprocAttr, zz8.down, e60, e61] at hP ⊢); exact hP
              exact n55 _ (n53 _ (.inr ⟨_, weak_eq rfl, K76 x9 v6_62 v7_62 v8_62 h⟩))
             ·refine w_cf (congrArg AV.bool b58) ?_
              simp only [b58, Bool.not_true, Bool.not_false]
              exact w_skip (n55 _ (n53 _ (.inr ⟨_, weak_eq rfl, K76 v3_62 v6_62 v7_62 v8_62 h⟩)))
            ·refine w_cf (congrArg AV.bool b52) ?_
             simp only [b52, Bool.not_true, Bool.not_false]
             refine w_ex (x50 8 _ (x49 8 _ (b48 _ (n46 _ (n45 _ (.inl ?_))))))
             refine wr _ ?_
             exact n41 _ (.inr ⟨_, weak_eq rfl, ih50 v3_62 v6_62 (IntKind.i64.wrap (v7_62 + 1)) h⟩)
          obtain ⟨n, h⟩ := limE h
          exact w_loop (.inr ⟨_, weak_eq rfl, L62 n v3_50 v6_50 v7_50 0 h⟩)
         ·refine w_cf (congrArg AV.bool b44) ?_
          simp only [b44, Bool.not_true, Bool.not_false]
          refine w_ex (x42 6 _ (x41 6 _ (b40 _ (n38 _ (n37 _ (.inl ?_))))))
          refine wr _ ?_
          exact n33 _ (.inr ⟨_, weak_eq rfl, ih38 v3_50 (IntKind.i64.wrap (v6_50 + 1)) h⟩)
       obtain ⟨n, h⟩ := limE h
       exact w_loop (.inr ⟨_, weak_eq rfl, L50 n v3_38 v6_38 0 h⟩)
      ·refine w_cf (congrArg AV.bool b36) ?_
       simp only [b36, Bool.not_true, Bool.not_false]
       refine w_ex (x34 4 _ (x33 4 _ (b32 _ (n30 _ (.inl ?_)))))
       refine ws _ ?_
       exact w_ret (r0 _ (.inl (w_fin [.uslice 1 (v3_38.map e_bool)] rfl (by cases someE h; rfl) (by decide) outs_nil)))
    obtain ⟨n, h⟩ := limE h
    exact w_loop (.inr ⟨_, weak_eq rfl, L38 n v3_8 0 h⟩)
 obtain ⟨n, h⟩ := limE h
 exact w_loop (.inr ⟨_, weak_eq rfl, L8 n (List.replicate (Int.toNat a0.Parameters) false) 0 h⟩)

theorem ok_spec_l08Marked (a0 : List Bool) (a1 : Bool) (r : (List Int)) (h : spec_l08Marked a0 a1 = some r) : OkAt Cc 174 [.slice (a0.map e_bool), .bool a1] (.uslice 1 (r.map e_i64)) [] := by
 refine OkAt.of_wpR (fx := [0, 1]) Cc_ok [.tmp 4] [(0, .slice (a0.map e_bool)), (1, .bool a1)] Try.func174 rfl rfl s174 (Nat.le_of_ble_eq_true rfl) rfl rfl (fun Q0 r0 n0 => ?_)
 refine ws _ ?_
 refine wsf (show ∀ s, bsl Cc s 68 0 [] = some (.uslice 1 [], s) from fun s => by kernel_rfl) _ ?_
 refine w_seq (fun Q3 n3 q3 x3 => ?_)
 refine ws _ ?_
 refine w_blk (fun Q5 n5 q5 b5 x5 => ?_)
 have L8 : ∀ (n : Nat) (v5_8 : List Int) (v6_8 : Int), spec_l08Marked_l8 a0 a1 n v5_8 v6_8 = some r → lpC Cc c174_9 Q5 (stA [(0, .slice (a0.map e_bool)), (1, .bool a1), (5, .uslice 1 (v5_8.map e_i64)), (6, .int .i64 v6_8)]) := by
  intro m8
  induction m8 with
  | zero => intro v5_8 v6_8 h; cases (show none = some r from h)
  | succ m8 ih8 =>
   intro v5_8 v6_8 h
   replace h : spec_l08Marked_b8 (spec_l08Marked_l8 a0 a1 m8) a0 a1 v5_8 v6_8 = some r := h
   refine lpC_step (fun Q6 n6 q6 x6 => ?_)
   refine w_seq (fun Q7 n7 q7 x7 => ?_)
   refine ws _ ?_
   rcases condE h with ⟨b9, h⟩ | ⟨b9, h⟩
   ·refine w_ct (congrArg AV.bool b9) ?_
    simp only [b9, Bool.not_true, Bool.not_false]
    refine w_skip (n7 _ (.inl ?_))
    have K22 : ∀ (v5_22 : List Int) (v6_22 : Int), spec_l08Marked_k22 (spec_l08Marked_l8 a0 a1 m8) a0 a1 v5_22 v6_22 = some r → wpC Cc c174_22 Q6 (stA [(0, .slice (a0.map e_bool)), (1, .bool a1), (5, .uslice 1 (v5_22.map e_i64)), (6, .int .i64 v6_22)]) := by
     intro v5_22 v6_22 h
     refine wr _ ?_
     exact n6 _ (.inr ⟨_, weak_eq rfl, ih8 v5_22 (IntKind.i64.wrap (v6_22 + 1)) h⟩)
    refine w_seq (fun Q10 n10 q10 x10 => ?_)
    refine w_blk (fun Q12 n12 q12 b12 x12 => ?_)
    obtain ⟨x1, e14, h⟩ := bindE h
    refine wsf e14 _ ?_
    rcases condE h with ⟨b15, h⟩ | ⟨b15, h⟩
    ·refine w_ct (congrArg AV.bool b15) ?_
     simp only [b15, Bool.not_true, Bool.not_false]
     obtain ⟨u17, e17, h⟩ := bindE h
     (try simp only [List.length_append, List.length_cons, List.length_nil, List.length_map, List.length_replicate, Nat.zero_add, Nat.add_zero, Nat.reduceAdd] at e17)
     refine w_reg (w_abs [(0, .slice (a0.map e_bool)), (1, .bool a1), (5, .uslice 1 ((v5_8 ++ [v6_8]).map e_i64)), (6, .int .i64 v6_8)] (fun P hP => ?_) ?_)
     ·simp only [V0.down, simprocAttr, tt2, tt68, e_bool, e_i64, (show ∀ s, bsl Cc s 68 1 [(0, .int .i64 v6_8)] = some (.uslice 1 [.int .i64 v6_8], s) from fun s => by kernel_rfl), @apd_s Cc 68 68 2 rfl rfl, ap_s, ap2_s, ap3_s, all_cons, all_nil, e17, @all_wd' _ e_i64 1 (fun _ => rfl)]
      (try simp only [VN.down, simprocAttr, e_bool, e_i64, (show ∀ s, bsl Cc s 68 1 [(0, .int .i64 v6_8)] = some (.uslice 1 [.int .i64 v6_8], s) from fun s => by kernel_rfl), @apd_s Cc 68 68 2 rfl rfl, ap_s, ap2_s, ap3_s, all_cons, all_nil, e17, @all_wd' _ e_i64 1 (fun _ => rfl)] at hP ⊢); exact hP
     exact n12 _ (n10 _ (.inr ⟨_, weak_eq rfl, K22 (v5_8 ++ [v6_8]) v6_8 h⟩))
    ·refine w_cf (congrArg AV.bool b15) ?_
     simp only [b15, Bool.not_true, Bool.not_false]
     exact w_skip (n12 _ (n10 _ (.inr ⟨_, weak_eq rfl, K22 v5_8 v6_8 h⟩)))
   ·refine w_cf (congrArg AV.bool b9) ?_
    simp only [b9, Bool.not_true, Bool.not_false]
    refine w_ex (x7 0 _ (x6 0 _ (b5 _ (n3 _ (.inl ?_)))))
    refine ws _ ?_
    exact w_ret (r0 _ (.inl (w_fin [.uslice 1 (v5_8.map e_i64)] rfl (by cases someE h; rfl) (by decide) outs_nil)))
 obtain ⟨n, h⟩ := limE h
 exact w_loop (.inr ⟨_, weak_eq rfl, L8 n [] 0 h⟩)

theorem ok_spec_NeededParameters (a0 : impl_Linear) (r : (List Int) × Int) (h : spec_NeededParameters a0 = some r) : OkAt Cc 88 [e_impl_Linear a0] (.tuple [.uslice 1 (r.1.map e_i64), .int .i64 r.2]) [] := by
 refine OkAt.of_wpR (fx := [0]) Cc_ok [.tmp 2, .tmp 3] [(0, e_impl_Linear a0)] Try.func88 rfl rfl s88 (Nat.le_of_ble_eq_true rfl) rfl rfl (fun Q0 r0 n0 => ?_)
 refine ws _ ?_
 refine w_seq (fun Q2 n2 q2 x2 => ?_)
 obtain ⟨x1, e4, h⟩ := bindE h
 refine w_sreg (w_abs [(1, .ubox (e_impl_Linear a0)), (5, .bool (!x1))] (fun P hP => ?_) ?_)
 ·refine w_call0 (ok_spec_l08Is a0 _ e4) rfl rfl (by simp only [V0.down, simprocAttr, zz2.down, view_s, view_h, viewH_s, share_s, @shares_map _ e_i64 e_i64 (fun _ => sh_e_i64 _), @shares_map _ e_impl_Summand e_impl_Summand (fun _ => sh_e_impl_Summand _)] <;> rfl) rfl (.inr (by rfl)) ?_
  simp only [V0.down, simprocAttr, zz2.down]
  (try simp only [VN.down, simprocAttr, zz2.down] at hP ⊢); exact hP
 rcases condE h with ⟨b5, h⟩ | ⟨b5, h⟩
 ·refine w_ct (congrArg AV.bool b5) ?_
  simp only [(bnT b5), Bool.not_true, Bool.not_false]
  refine ws _ ?_
  exact w_ret (q2 _ (r0 _ (.inr ⟨[(2, .uslice 1 []), (3, .int .i64 1)], weak_mix [] rfl (wk_wd (t := 2) (d := .nils) rfl rfl (.nilsU _) (by decide) (wk_eq rfl (wk_nil))), w_fin [.uslice 1 [], .int .i64 1] rfl (by cases someE h; rfl) (by decide) outs_nil⟩)))
 ·refine w_cf (congrArg AV.bool b5) ?_
  simp only [(bnF b5), Bool.not_true, Bool.not_false]
  refine w_skip (n2 _ (.inl ?_))
  obtain ⟨x2, e8, h⟩ := bindE h
  obtain ⟨x3, e9, h⟩ := bindE h
  refine w_sreg (w_abs [(2, .uslice 1 (x3.map e_i64)), (3, .int .i64 0)] (fun P hP => ?_) ?_)
  ·refine w_call0 (ok_spec_l08Needed a0 _ e8) rfl rfl (by simp only [V0.down, simprocAttr, zz8.down, view_s, view_h, viewH_s, share_s, @shares_map _ e_i64 e_i64 (fun _ => sh_e_i64 _), @shares_map _ e_impl_Summand e_impl_Summand (fun _ => sh_e_impl_Summand _)] <;> rfl) rfl (.inr (noshs_map (fun _ => ns_e_bool _) _)) ?_
   simp only [V0.down, simprocAttr, zz8.down]
   refine w_call0 (ok_spec_l08Marked x2 true _ e9) rfl rfl (by simp only [V0.down, simprocAttr, zz8.down, view_s, view_h, viewH_s, share_s, @shares_map _ e_bool e_bool (fun _ => sh_e_bool _)] <;> rfl) rfl (.inr (noshs_map (fun _ => ns_e_i64 _) _)) ?_
   simp only [V0.down, simprocAttr, zz8.down]
   (try simp only [VN.down, simprocAttr, zz8.down] at hP ⊢); exact hP
  exact w_ret (r0 _ (.inl (w_fin [.uslice 1 (x3.map e_i64), .int .i64 0] rfl (by cases someE h; rfl) (by decide) outs_nil)))

theorem ok_impl_within (a0 : Int) (a1 : Int) (a2 : Int) (r : Bool) (h : impl_within a0 a1 a2 = some r) : OkAt Cc 138 [.int .i64 a0, .int .i64 a1, .int .i64 a2] (.bool r) [] := by
 refine OkAt.of_wpR (fx := [0, 1, 2]) Cc_ok [.tmp 6] [(0, .int .i64 a0), (1, .int .i64 a1), (2, .int .i64 a2)] Try.func138 rfl rfl s138 (Nat.le_of_ble_eq_true rfl) rfl rfl (fun Q0 r0 n0 => ?_)
 refine ws _ ?_
 refine w_sreg (w_abs [(6, .bool ((decide (a1 ≤ a0)) && (decide (a0 ≤ a2))))] (fun P hP => ?_) ?_)
 ·rcases Bool.eq_false_or_eq_true (decide (a1 ≤ a0)) with s3 | s3
  ·simp only [V0.down, simprocAttr, s3]
   (try simp only [VN.down, simprocAttr, s3] at hP ⊢); exact hP
  ·simp only [V0.down, simprocAttr, s3]
   (try simp only [VN.down, simprocAttr, s3] at hP ⊢); exact hP
 exact w_ret (r0 _ (.inl (w_fin [.bool ((decide (a1 ≤ a0)) && (decide (a0 ≤ a2)))] rfl (by cases someE h; rfl) (by decide) outs_nil)))

theorem ok_impl_isValue (a0 : Int) (r : Bool) (h : impl_isValue a0 = some r) : OkAt Cc 286 [.int .i64 a0] (.bool r) [] := by
 refine OkAt.of_wpR (fx := [0]) Cc_ok [.tmp 2] [(0, .int .i64 a0)] Try.func286 rfl rfl s286 (Nat.le_of_ble_eq_true rfl) rfl rfl (fun Q0 r0 n0 => ?_)
 refine ws _ ?_
 obtain ⟨x1, e3, h⟩ := bindE h
 refine wsc (ok_impl_within a0 0 63 _ e3) _ ?_
 exact w_ret (r0 _ (.inl (w_fin [.bool x1] rfl (by cases someE h; rfl) (by decide) outs_nil)))

theorem ok_impl_areValues_c1 (a0 : Int) (r : Bool) (h : impl_areValues_c1 a0 = some r) : OkAt Cc 285 [.int .i64 a0] (.bool r) [] := by
 refine OkAt.of_wpR (fx := [0]) Cc_ok [.tmp 2] [(0, .int .i64 a0)] Try.func285 rfl rfl s285 (Nat.le_of_ble_eq_true rfl) rfl rfl (fun Q0 r0 n0 => ?_)
 refine ws _ ?_
 obtain ⟨x1, e3, h⟩ := bindE h
 refine wsc (ok_impl_isValue a0 _ e3) _ ?_
 exact w_ret (r0 _ (.inl (w_fin [.bool (!x1)] rfl (by cases someE h; rfl) (by decide) outs_nil)))

theorem ok_slices_IndexFunc_int64_int64__impl_areValues_c1 (a0 : List Int) (r : Int) (h : slices_IndexFunc_int64_int64__impl_areValues_c1 a0 = some r) : OkAt Cc 304 [.slice (a0.map e_i64), .fn 285 []] (.int .i64 r) [] := by
 refine OkAt.of_wpR (fx := [0, 1]) Cc_ok [.tmp 4] [(0, .slice (a0.map e_i64)), (1, .fn 285 [])] Try.func304 rfl rfl s304 (Nat.le_of_ble_eq_true rfl) rfl rfl (fun Q0 r0 n0 => ?_)
 refine ws _ ?_
 refine w_seq (fun Q2 n2 q2 x2 => ?_)
 refine ws _ ?_
 refine w_blk (fun Q4 n4 q4 b4 x4 => ?_)
 have L6 : ∀ (n : Nat) (v8_6 : Int), slices_IndexFunc_int64_int64__impl_areValues_c1_l6 a0 n v8_6 = some r → lpC Cc c304_7 Q4 (stA [(0, .slice (a0.map e_i64)), (1, .fn 285 []), (7, .int .i64 (a0.length : Int)), (8, .int .i64 v8_6)]) := by
  intro m6
  induction m6 with
  | zero => intro v8_6 h; cases (show none = some r from h)
  | succ m6 ih6 =>
   intro v8_6 h
   replace h : slices_IndexFunc_int64_int64__impl_areValues_c1_b6 (slices_IndexFunc_int64_int64__impl_areValues_c1_l6 a0 m6) a0 v8_6 = some r := h
   refine lpC_step (fun Q5 n5 q5 x5 => ?_)
   refine ws _ ?_
   refine w_seq (fun Q7 n7 q7 x7 => ?_)
   rcases condE h with ⟨b8, h⟩ | ⟨b8, h⟩
   ·refine w_ct (congrArg AV.bool b8) ?_
    simp only [b8, Bool.not_true, Bool.not_false]
    refine w_skip (n7 _ (.inl ?_))
    refine w_seq (fun Q9 n9 q9 x9 => ?_)
    refine w_blk (fun Q10 n10 q10 b10 x10 => ?_)
    refine ws _ ?_
    obtain ⟨x1, e13, h⟩ := bindE h
    obtain ⟨x2, e14, h⟩ := bindE h
    refine wscf e13 (ok_impl_areValues_c1 x1 _ e14) _ ?_
    rcases condE h with ⟨b15, h⟩ | ⟨b15, h⟩
    ·refine w_ct (congrArg AV.bool b15) ?_
     simp only [b15, Bool.not_true, Bool.not_false]
     refine ws _ ?_
     exact w_ret (q10 _ (q9 _ (q5 _ (q4 _ (q2 _ (r0 _ (.inl (w_fin [.int .i64 v8_6] rfl (by cases someE h; rfl) (by decide) outs_nil))))))))
    ·refine w_cf (congrArg AV.bool b15) ?_
     simp only [b15, Bool.not_true, Bool.not_false]
     refine w_skip (n10 _ (n9 _ (.inl ?_)))
     refine wr _ ?_
     exact n5 _ (.inr ⟨_, weak_eq rfl, ih6 (IntKind.i64.wrap (v8_6 + 1)) h⟩)
   ·refine w_cf (congrArg AV.bool b8) ?_
    simp only [b8, Bool.not_true, Bool.not_false]
    refine w_ex (x7 0 _ (x5 0 _ (b4 _ (n2 _ (.inl ?_)))))
    refine ws _ ?_
    exact w_ret (r0 _ (.inl (w_fin [.int .i64 (-1)] rfl (by cases someE h; rfl) (by decide) outs_nil)))
 obtain ⟨n, h⟩ := limE h
 exact w_loop (.inr ⟨_, weak_eq rfl, L6 n 0 h⟩)

theorem ok_slices_ContainsFunc_int64_int64__impl_areValues_c1 (a0 : List Int) (r : Bool) (h : slices_ContainsFunc_int64_int64__impl_areValues_c1 a0 = some r) : OkAt Cc 284 [.slice (a0.map e_i64), .fn 285 []] (.bool r) [] := by
 refine OkAt.of_wpR (fx := [0, 1]) Cc_ok [.tmp 4] [(0, .slice (a0.map e_i64)), (1, .fn 285 [])] Try.func284 rfl rfl s284 (Nat.le_of_ble_eq_true rfl) rfl rfl (fun Q0 r0 n0 => ?_)
 refine ws _ ?_
 obtain ⟨x1, e3, h⟩ := bindE h
 refine wsc (ok_slices_IndexFunc_int64_int64__impl_areValues_c1 a0 _ e3) _ ?_
 exact w_ret (r0 _ (.inl (w_fin [.bool (decide (0 ≤ x1))] rfl (by cases someE h; rfl) (by decide) outs_nil)))

theorem ok_impl_areValues (a0 : List Int) (r : Bool) (h : impl_areValues a0 = some r) : OkAt Cc 229 [.slice (a0.map e_i64)] (.bool r) [] := by
 refine OkAt.of_wpR (fx := [0]) Cc_ok [.tmp 2] [(0, .slice (a0.map e_i64))] Try.func229 rfl rfl s229 (Nat.le_of_ble_eq_true rfl) rfl rfl (fun Q0 r0 n0 => ?_)
 refine ws _ ?_
 obtain ⟨x1, e3, h⟩ := bindE h
 refine wsc (ok_slices_ContainsFunc_int64_int64__impl_areValues_c1 a0 _ e3) _ ?_
 exact w_ret (r0 _ (.inl (w_fin [.bool (!x1)] rfl (by cases someE h; rfl) (by decide) outs_nil)))

theorem ok_impl_Linear_isState (a0 : impl_Linear) (a1 : List Int) (r : Bool) (h : impl_Linear_isState a0 a1 = some r) : OkAt Cc 234 [e_impl_Linear a0, .slice (a1.map e_i64)] (.bool r) [] := by
 refine OkAt.of_wpR (fx := [0, 1]) Cc_ok [.tmp 4] [(0, e_impl_Linear a0), (1, .slice (a1.map e_i64))] Try.func234 rfl rfl s234 (Nat.le_of_ble_eq_true rfl) rfl rfl (fun Q0 r0 n0 => ?_)
 refine ws _ ?_
 rcases condE h with ⟨b3, h⟩ | ⟨b3, h⟩
 ·obtain ⟨x1, e4, h⟩ := bindE h
  refine w_sreg (w_abs [(4, .bool x1)] (fun P hP => ?_) ?_)
  ·simp only [V0.down, simprocAttr, zz1.down, b3]
   refine w_callg0 (ok_impl_areValues a1 _ e4) rfl rfl rfl rfl (.inl (by rfl)) ?_
   simp only [V0.down, simprocAttr, zz1.down, b3]
   (try simp only [VN.down, simprocAttr, zz2.down, b3] at hP ⊢); exact hP
  exact w_ret (r0 _ (.inl (w_fin [.bool x1] rfl (by cases someE h; rfl) (by decide) outs_nil)))
 ·refine wsf b3 _ ?_
  exact w_ret (r0 _ (.inl (w_fin [.bool false] rfl (by cases someE h; rfl) (by decide) outs_nil)))

theorem ok_impl_Summand_sumsOk (a0 : impl_Summand) (r : Bool) (h : impl_Summand_sumsOk a0 = some r) : OkAt Cc 292 [e_impl_Summand a0] (.bool r) [] := by
 refine OkAt.of_wpR (fx := [0]) Cc_ok [.tmp 2] [(0, e_impl_Summand a0)] Try.func292 rfl rfl s292 (Nat.le_of_ble_eq_true rfl) rfl rfl (fun Q0 r0 n0 => ?_)
 refine ws _ ?_
 refine ws _ ?_
 refine w_seq (fun Q3 n3 q3 x3 => ?_)
 refine ws _ ?_
 refine w_blk (fun Q5 n5 q5 b5 x5 => ?_)
 have L8 : ∀ (n : Nat) (v3_8 : Int) (v9_8 : Int), impl_Summand_sumsOk_l8 a0 n v3_8 v9_8 = some r → lpC Cc c292_9 Q5 (stA [(1, .ubox (e_impl_Summand a0)), (3, .int .i64 v3_8), (7, .slice (a0.Sums.map e_i64)), (8, .int .i64 (a0.Sums.length : Int)), (9, .int .i64 v9_8)]) := by
  intro m8
  induction m8 with
  | zero => intro v3_8 v9_8 h; cases (show none = some r from h)
  | succ m8 ih8 =>
   intro v3_8 v9_8 h
   replace h : impl_Summand_sumsOk_b8 (impl_Summand_sumsOk_l8 a0 m8) a0 v3_8 v9_8 = some r := h
   refine lpC_step (fun Q6 n6 q6 x6 => ?_)
   refine ws _ ?_
   refine w_seq (fun Q8 n8 q8 x8 => ?_)
   rcases condE h with ⟨b9, h⟩ | ⟨b9, h⟩
   ·refine w_ct (congrArg AV.bool b9) ?_
    simp only [b9, Bool.not_true, Bool.not_false]
    refine w_skip (n8 _ (.inl ?_))
    refine w_seq (fun Q10 n10 q10 x10 => ?_)
    refine w_blk (fun Q11 n11 q11 b11 x11 => ?_)
    obtain ⟨x1, e13, h⟩ := bindE h
    refine wsf e13 _ ?_
    refine w_seq (fun Q14 n14 q14 x14 => ?_)
    obtain ⟨x2, e16, h⟩ := bindE h
    refine wsc (ok_impl_within x1 1 7 _ e16) _ ?_
    rcases condE h with ⟨b17, h⟩ | ⟨b17, h⟩
    ·refine w_ct (congrArg AV.bool b17) ?_
     simp only [(bnT b17), Bool.not_true, Bool.not_false]
     refine ws _ ?_
     exact w_ret (q14 _ (q11 _ (q10 _ (q6 _ (q5 _ (q3 _ (r0 _ (.inl (w_fin [.bool false] rfl (by cases someE h; rfl) (by decide) outs_nil)))))))))
    ·refine w_cf (congrArg AV.bool b17) ?_
     simp only [(bnF b17), Bool.not_true, Bool.not_false]
     refine w_skip (n14 _ (.inl ?_))
     refine wr _ ?_
     refine n11 _ (n10 _ (.inl ?_))
     refine wr _ ?_
     exact n6 _ (.inr ⟨_, weak_eq rfl, ih8 (IntKind.i64.wrap (v3_8 * (IntKind.i64.wrap (x1 + 1)))) (IntKind.i64.wrap (v9_8 + 1)) h⟩)
   ·refine w_cf (congrArg AV.bool b9) ?_
    simp only [b9, Bool.not_true, Bool.not_false]
    refine w_ex (x8 0 _ (x6 0 _ (b5 _ (n3 _ (.inl ?_)))))
    refine w_sreg (w_abs [(2, .bool ((decide ((a0.Sums.length : Int) ≤ 8)) && (decide (v3_8 ≤ 4096))))] (fun P hP => ?_) ?_)
    ·rcases Bool.eq_false_or_eq_true (decide ((a0.Sums.length : Int) ≤ 8)) with s22 | s22
     ·simp only [V0.down, simprocAttr, zz0.down, s22]
      (try simp only [VN.down, simprocAttr, zz3.down, s22] at hP ⊢); exact hP
     ·simp only [V0.down, simprocAttr, zz0.down, s22]
      (try simp only [VN.down, simprocAttr, zz3.down, s22] at hP ⊢); exact hP
    exact w_ret (r0 _ (.inl (w_fin [.bool ((decide ((a0.Sums.length : Int) ≤ 8)) && (decide (v3_8 ≤ 4096)))] rfl (by cases someE h; rfl) (by decide) outs_nil)))
 obtain ⟨n, h⟩ := limE h
 exact w_loop (.inr ⟨_, weak_eq rfl, L8 n 1 0 h⟩)

theorem ok_impl_isDigit (a0 : UInt8) (r : Bool) (h : impl_isDigit a0 = some r) : OkAt Cc 211 [.int .u8 (a0.toNat : Int)] (.bool r) [] := by
 refine OkAt.of_wpR (fx := [0]) Cc_ok [.tmp 2] [(0, .int .u8 (a0.toNat : Int))] Try.func211 rfl rfl s211 (Nat.le_of_ble_eq_true rfl) rfl rfl (fun Q0 r0 n0 => ?_)
 refine ws _ ?_
 refine w_sreg (w_abs [(2, .bool ((decide (48 ≤ (a0.toNat : Int))) && (decide ((a0.toNat : Int) ≤ 57))))] (fun P hP => ?_) ?_)
 ·rcases Bool.eq_false_or_eq_true (decide (48 ≤ (a0.toNat : Int))) with s3 | s3
  ·simp only [V0.down, simprocAttr, s3]
   (try simp only [VN.down, simprocAttr, s3] at hP ⊢); exact hP
  ·simp only [V0.down, simprocAttr, s3]
   (try simp only [VN.down, simprocAttr, s3] at hP ⊢); exact hP
 exact w_ret (r0 _ (.inl (w_fin [.bool ((decide (48 ≤ (a0.toNat : Int))) && (decide ((a0.toNat : Int) ≤ 57)))] rfl (by cases someE h; rfl) (by decide) outs_nil)))

set_option maxHeartbeats 600000 in
theorem ok_impl_IsName (a0 : List UInt8) (r : Bool) (h : impl_IsName a0 = some r) : OkAt Cc 126 [.str a0] (.bool r) [] := by
 refine OkAt.of_wpR (fx := [0]) Cc_ok [.tmp 2] [(0, .str a0)] Try.func126 rfl rfl s126 (Nat.le_of_ble_eq_true rfl) rfl rfl (fun Q0 r0 n0 => ?_)
 refine ws _ ?_
 refine w_seq (fun Q2 n2 q2 x2 => ?_)
 refine ws _ ?_
 refine w_blk (fun Q4 n4 q4 b4 x4 => ?_)
 have L6 : ∀ (n : Nat) (v7_6 : Int), impl_IsName_l6 a0 n v7_6 = some r → lpC Cc c126_7 Q4 (stA [(0, .str a0), (6, .int .i64 (a0.length : Int)), (7, .int .i64 v7_6)]) := by
  intro m6
  induction m6 with
  | zero => intro v7_6 h; cases (show none = some r from h)
  | succ m6 ih6 =>
   intro v7_6 h
   replace h : impl_IsName_b6 (impl_IsName_l6 a0 m6) a0 v7_6 = some r := h
   refine lpC_step (fun Q5 n5 q5 x5 => ?_)
   refine ws _ ?_
   refine w_seq (fun Q7 n7 q7 x7 => ?_)
   rcases condE h with ⟨b8, h⟩ | ⟨b8, h⟩
   ·refine w_ct (congrArg AV.bool b8) ?_
    simp only [b8, Bool.not_true, Bool.not_false]
    refine w_skip (n7 _ (.inl ?_))
    refine w_seq (fun Q9 n9 q9 x9 => ?_)
    refine w_blk (fun Q10 n10 q10 b10 x10 => ?_)
    refine ws _ ?_
    obtain ⟨x1, e13, h⟩ := bindE h
    refine w_sreg (w_abs [(0, .str a0), (3, .int .i64 v7_6), (4, .bool ((decide (97 ≤ (x1.toNat : Int))) && (decide ((x1.toNat : Int) ≤ 122)))), (6, .int .i64 (a0.length : Int)), (7, .int .i64 v7_6)] (fun P hP => ?_) ?_)
    ·rcases Bool.eq_false_or_eq_true (decide (97 ≤ (x1.toNat : Int))) with s14 | s14
     ·simp only [V0.down, simprocAttr, tt9, e13, s14]
      (try simp only [VN.down, simprocAttr, e13, s14] at hP ⊢); exact hP
     ·simp only [V0.down, simprocAttr, tt9, e13, s14]
      (try simp only [VN.down, simprocAttr, e13, s14] at hP ⊢); exact hP
    rcases condE h with ⟨b16, h⟩ | ⟨b16, h⟩
    ·rcases condE h with ⟨b17, h⟩ | ⟨b17, h⟩
     ·refine wsf (And.intro b16 b17) _ ?_
      refine w_ct rfl ?_
      refine ws _ ?_
      exact w_ret (q10 _ (q9 _ (q5 _ (q4 _ (q2 _ (r0 _ (.inl (w_fin [.bool false] rfl (by cases someE h; rfl) (by decide) outs_nil))))))))
     ·obtain ⟨x2, e19, h⟩ := bindE h
      refine w_sreg (w_abs [(0, .str a0), (6, .int .i64 (a0.length : Int)), (7, .int .i64 v7_6), (32, .bool (!x2))] (fun P hP => ?_) ?_)
      ·simp only [V0.down, simprocAttr, tt9, b16, b17, e13]
       refine w_callg0 (ok_impl_isDigit x1 _ e19) rfl rfl rfl rfl (.inl (by rfl)) ?_
       simp only [V0.down, simprocAttr, tt9, b16, b17, e13]
       (try simp only [VN.down, simprocAttr, b16, b17, e13] at hP ⊢); exact hP
      rcases condE h with ⟨b20, h⟩ | ⟨b20, h⟩
      ·refine w_ct (congrArg AV.bool b20) ?_
       simp only [(bnT b20), Bool.not_true, Bool.not_false]
       refine ws _ ?_
       exact w_ret (q10 _ (q9 _ (q5 _ (q4 _ (q2 _ (r0 _ (.inl (w_fin [.bool false] rfl (by cases someE h; rfl) (by decide) outs_nil))))))))
      ·refine w_cf (congrArg AV.bool b20) ?_
       simp only [(bnF b20), Bool.not_true, Bool.not_false]
       refine w_skip (n10 _ (n9 _ (.inl ?_)))
       refine wr _ ?_
       exact n5 _ (.inr ⟨_, weak_eq rfl, ih6 (IntKind.i64.wrap (v7_6 + 1)) h⟩)
    ·refine wsf b16 _ ?_
     refine w_cf rfl ?_
     refine w_skip (n10 _ (n9 _ (.inl ?_)))
     refine wr _ ?_
     exact n5 _ (.inr ⟨_, weak_eq rfl, ih6 (IntKind.i64.wrap (v7_6 + 1)) h⟩)
   ·refine w_cf (congrArg AV.bool b8) ?_
    simp only [b8, Bool.not_true, Bool.not_false]
    refine w_ex (x7 0 _ (x5 0 _ (b4 _ (n2 _ (.inl ?_)))))
    refine w_sreg (w_abs [(2, .bool ((decide (1 ≤ (a0.length : Int))) && (decide ((a0.length : Int) ≤ 10))))] (fun P hP => ?_) ?_)
    ·rcases Bool.eq_false_or_eq_true (decide (1 ≤ (a0.length : Int))) with s25 | s25
     ·simp only [V0.down, simprocAttr, tt9, s25]
      (try simp only [VN.down, simprocAttr, s25] at hP ⊢); exact hP
     ·simp only [V0.down, simprocAttr, tt9, s25]
      (try simp only [VN.down, simprocAttr, s25] at hP ⊢); exact hP
    exact w_ret (r0 _ (.inl (w_fin [.bool ((decide (1 ≤ (a0.length : Int))) && (decide ((a0.length : Int) ≤ 10)))] rfl (by cases someE h; rfl) (by decide) outs_nil)))
 obtain ⟨n, h⟩ := limE h
 exact w_loop (.inr ⟨_, weak_eq rfl, L6 n 0 h⟩)

theorem ok_impl_IsAction (a0 : List UInt8) (r : Bool) (h : impl_IsAction a0 = some r) : OkAt Cc 278 [.str a0] (.bool r) [] := by
 refine OkAt.of_wpR (fx := [0]) Cc_ok [.tmp 2] [(0, .str a0)] Try.func278 rfl rfl s278 (Nat.le_of_ble_eq_true rfl) rfl rfl (fun Q0 r0 n0 => ?_)
 refine ws _ ?_
 obtain ⟨x1, e3, h⟩ := bindE h
 refine w_sreg (w_abs [(2, .bool (x1 && (!(a0 == ([116, 97, 117] : List UInt8)))))] (fun P hP => ?_) ?_)
 ·rcases Bool.eq_false_or_eq_true (x1) with s4 | s4
  ·simp only [V0.down, simprocAttr, s4]
   refine w_call0 (ok_impl_IsName a0 _ e3) rfl rfl rfl rfl (.inl (by rfl)) ?_
   simp only [V0.down, simprocAttr, s4]
   (try simp only [VN.down, simprocAttr, s4] at hP ⊢); exact hP
  ·simp only [V0.down, simprocAttr, s4]
   refine w_call0 (ok_impl_IsName a0 _ e3) rfl rfl rfl rfl (.inl (by rfl)) ?_
   simp only [V0.down, simprocAttr, s4]
   (try simp only [VN.down, simprocAttr, s4] at hP ⊢); exact hP
 exact w_ret (r0 _ (.inl (w_fin [.bool (x1 && (!(a0 == ([116, 97, 117] : List UInt8))))] rfl (by cases someE h; rfl) (by decide) outs_nil)))

theorem ok_slices_Grow_impl_Term (a1 : Int) (r : (List (List impl_Term))) (h : slices_Grow_impl_Term a1 = some r) : OkAt Cc 301 [.nils, .int .i64 a1] (.uslice 1 (r.map e_s_impl_Term)) [] := by
 refine OkAt.of_wpR (fx := []) Cc_ok [.tmp 4] [(0, .nils), (1, .int .i64 a1)] Try.func301 rfl rfl s301 (Nat.le_of_ble_eq_true rfl) rfl rfl (fun Q0 r0 n0 => ?_)
 refine ws _ ?_
 have K8 : slices_Grow_impl_Term_k8 a1 = some r → wpC Cc c301_8 Q0 (stA [(0, .nils), (1, .int .i64 a1), (6, .bool false)]) := by
  intro h
  have K16 : slices_Grow_impl_Term_k16 = some r → wpC Cc c301_16 Q0 (stA [(0, .uslice 1 [])]) := by
   intro h
   refine ws _ ?_
   exact w_ret (r0 _ (.inl (w_fin [.uslice 1 []] rfl (by cases someE h; rfl) (by decide) outs_nil)))
  refine w_seq (fun Q3 n3 q3 x3 => ?_)
  refine w_sreg (w_abs [(0, .nils), (1, .int .i64 (IntKind.i64.wrap (a1 - (IntKind.i64.wrap 0))))] (fun P hP => ?_) ?_)
  ·simp only [V0.down, simprocAttr, tt2, tt40, tt131, tt195, st_cap, (fun s x h => @cap_s Cc s 195 40 x rfl h)]
   (try simp only [VN.down, simprocAttr, st_cap, (fun s x h => @cap_s Cc s 195 40 x rfl h)] at hP ⊢); exact hP
  refine ws _ ?_
  rcases condE h with ⟨b7, h⟩ | ⟨b7, h⟩
  ·refine w_ct (congrArg AV.bool b7) ?_
   simp only [b7, Bool.not_true, Bool.not_false]
   obtain ⟨u9, e9, h⟩ := bindE h
   refine w_reg (w_abs [(0, .uslice 1 [])] (fun P hP => ?_) ?_)
   ·simp only [V0.down, simprocAttr, tt2, tt3, tt40, tt131, tt195, e_impl_Term, e_s_impl_Term, st_cap, (fun s x h => @cap_s Cc s 195 40 x rfl h), slc_n, slN_s, (mkOkE e9).1, (mkOkE e9).2.1, (mkOkE e9).2.2, st_apz, apz, keepS_some, List.map_replicate, -Int.reduceNatCast', (fun s y q => (slc_h Cc s 195 y q).1), (fun s y q => (slc_h Cc s 195 y q).2.1), (fun s y q => (slc_h Cc s 195 y q).2.2), slH, subL_zero]
    (try simp only [VN.down, simprocAttr, e_impl_Term, e_s_impl_Term, st_cap, (fun s x h => @cap_s Cc s 195 40 x rfl h), slc_n, slN_s, (mkOkE e9).1, (mkOkE e9).2.1, (mkOkE e9).2.2, st_apz, apz, keepS_some, List.map_replicate, -Int.reduceNatCast', (fun s y q => (slc_h Cc s 195 y q).1), (fun s y q => (slc_h Cc s 195 y q).2.1), (fun s y q => (slc_h Cc s 195 y q).2.2), slH, subL_zero] at hP ⊢); exact hP
   exact n3 _ (.inr ⟨_, weak_eq rfl, K16 h⟩)
  ·refine w_cf (congrArg AV.bool b7) ?_
   simp only [b7, Bool.not_true, Bool.not_false]
   exact w_skip (n3 _ (.inr ⟨_, weak_mix [] rfl (wk_wd (t := 0) (d := .nils) (d' := .uslice 1 []) rfl rfl (.nilsU _) (by decide) (wk_nil)), K16 h⟩))
 refine w_seq (fun Q2 n2 q2 x2 => ?_)
 refine ws _ ?_
 rcases condE h with ⟨b11, h⟩ | ⟨b11, h⟩
 ·refine w_ct (congrArg AV.bool b11) ?_
  simp only [b11, Bool.not_true, Bool.not_false]
  cases h
 ·refine w_cf (congrArg AV.bool b11) ?_
  simp only [b11, Bool.not_true, Bool.not_false]
  exact w_skip (n2 _ (.inr ⟨_, weak_eq rfl, K8 h⟩))

set_option maxHeartbeats 600000 in
theorem ok_slices_Concat_impl_Term (a0 : List (List (List impl_Term))) (r : (List (List impl_Term))) (h : slices_Concat_impl_Term a0 = some r) : OkAt Cc 249 [.slice (a0.map e_s_s_impl_Term)] (.uslice 1 (r.map e_s_impl_Term)) [] := by
 refine OkAt.of_wpR (fx := [0]) Cc_ok [.tmp 2] [(0, .slice (a0.map e_s_s_impl_Term))] Try.func249 rfl rfl s249 (Nat.le_of_ble_eq_true rfl) rfl rfl (fun Q0 r0 n0 => ?_)
 refine ws _ ?_
 refine ws _ ?_
 refine w_seq (fun Q3 n3 q3 x3 => ?_)
 refine ws _ ?_
 refine w_blk (fun Q5 n5 q5 b5 x5 => ?_)
 have L8 : ∀ (n : Nat) (v3_8 : Int) (v11_8 : Int), slices_Concat_impl_Term_l8 a0 n v3_8 v11_8 = some r → lpC Cc c249_9 Q5 (stA [(0, .slice (a0.map e_s_s_impl_Term)), (3, .int .i64 v3_8), (9, .slice (a0.map e_s_s_impl_Term)), (10, .int .i64 (a0.length : Int)), (11, .int .i64 v11_8)]) := by
  intro m8
  induction m8 with
  | zero => intro v3_8 v11_8 h; cases (show none = some r from h)
  | succ m8 ih8 =>
   intro v3_8 v11_8 h
   replace h : slices_Concat_impl_Term_b8 (slices_Concat_impl_Term_l8 a0 m8) a0 v3_8 v11_8 = some r := h
   refine lpC_step (fun Q6 n6 q6 x6 => ?_)
   refine ws _ ?_
   refine w_seq (fun Q8 n8 q8 x8 => ?_)
   rcases condE h with ⟨b9, h⟩ | ⟨b9, h⟩
   ·refine w_ct (congrArg AV.bool b9) ?_
    simp only [b9, Bool.not_true, Bool.not_false]
    refine w_skip (n8 _ (.inl ?_))
    have K26 : ∀ (v3_26 : Int) (v11_26 : Int), slices_Concat_impl_Term_k26 (slices_Concat_impl_Term_l8 a0 m8) a0 v3_26 v11_26 = some r → wpC Cc c249_26 Q6 (stA [(0, .slice (a0.map e_s_s_impl_Term)), (3, .int .i64 v3_26), (9, .slice (a0.map e_s_s_impl_Term)), (10, .int .i64 (a0.length : Int)), (11, .int .i64 v11_26), (20, .bool false)]) := by
     intro v3_26 v11_26 h
     refine wr _ ?_
     exact n6 _ (.inr ⟨_, weak_eq rfl, ih8 v3_26 (IntKind.i64.wrap (v11_26 + 1)) h⟩)
    refine w_seq (fun Q10 n10 q10 x10 => ?_)
    refine w_blk (fun Q12 n12 q12 b12 x12 => ?_)
    obtain ⟨x1, e14, h⟩ := bindE h
    refine wsf e14 _ ?_
    refine ws _ ?_
    refine ws _ ?_
    rcases condE h with ⟨b17, h⟩ | ⟨b17, h⟩
    ·refine w_ct (congrArg AV.bool b17) ?_
     simp only [b17, Bool.not_true, Bool.not_false]
     cases h
    ·refine w_cf (congrArg AV.bool b17) ?_
     simp only [b17, Bool.not_true, Bool.not_false]
     exact w_skip (n12 _ (n10 _ (.inr ⟨_, weak_eq rfl, K26 (IntKind.i64.wrap (v3_8 + (x1.length : Int))) v11_8 h⟩)))
   ·refine w_cf (congrArg AV.bool b9) ?_
    simp only [b9, Bool.not_true, Bool.not_false]
    refine w_ex (x8 0 _ (x6 0 _ (b5 _ (n3 _ (.inl ?_)))))
    obtain ⟨x2, e20, h⟩ := bindE h
    refine wsc (ok_slices_Grow_impl_Term v3_8 _ e20) _ ?_
    refine w_seq (fun Q21 n21 q21 x21 => ?_)
    refine ws _ ?_
    refine w_blk (fun Q23 n23 q23 b23 x23 => ?_)
    have L33 : ∀ (n : Nat) (v6_33 : List (List impl_Term)) (v27_33 : Int), slices_Concat_impl_Term_l33 a0 n v6_33 v27_33 = some r → lpC Cc c249_34 Q23 (stA [(6, .uslice 1 (v6_33.map e_s_impl_Term)), (25, .slice (a0.map e_s_s_impl_Term)), (26, .int .i64 (a0.length : Int)), (27, .int .i64 v27_33)]) := by
     intro m33
     induction m33 with
     | zero => intro v6_33 v27_33 h; cases (show none = some r from h)
     | succ m33 ih33 =>
      intro v6_33 v27_33 h
      replace h : slices_Concat_impl_Term_b33 (slices_Concat_impl_Term_l33 a0 m33) a0 v6_33 v27_33 = some r := h
      refine lpC_step (fun Q24 n24 q24 x24 => ?_)
      refine ws _ ?_
      refine w_seq (fun Q26 n26 q26 x26 => ?_)
      rcases condE h with ⟨b27, h⟩ | ⟨b27, h⟩
      ·refine w_ct (congrArg AV.bool b27) ?_
       simp only [b27, Bool.not_true, Bool.not_false]
       refine w_skip (n26 _ (.inl ?_))
       refine w_seq (fun Q28 n28 q28 x28 => ?_)
       refine w_blk (fun Q29 n29 q29 b29 x29 => ?_)
       obtain ⟨x3, e31, h⟩ := bindE h
       refine wsf e31 _ ?_
       obtain ⟨u34, e33, h⟩ := bindE h
       (try simp only [List.length_append, List.length_cons, List.length_nil, List.length_map, List.length_replicate, Nat.zero_add, Nat.add_zero, Nat.reduceAdd] at e33)
       refine w_reg (w_abs [(6, .uslice 1 ((v6_33 ++ x3).map e_s_impl_Term)), (25, .slice (a0.map e_s_s_impl_Term)), (26, .int .i64 (a0.length : Int)), (27, .int .i64 v27_33)] (fun P hP => ?_) ?_)
       ·simp only [V0.down, simprocAttr, tt2, tt40, tt131, tt195, e_impl_Term, e_s_impl_Term, e_s_s_impl_Term, @apd_s Cc 195 195 40 rfl rfl, ap_s, ap2_s, ap3_s, all_cons, all_nil, e33, @all_wd' _ e_s_impl_Term 1 (fun _ => rfl)]
        (try simp only [VN.down, simprocAttr, e_impl_Term, e_s_impl_Term, e_s_s_impl_Term, @apd_s Cc 195 195 40 rfl rfl, ap_s, ap2_s, ap3_s, all_cons, all_nil, e33, @all_wd' _ e_s_impl_Term 1 (fun _ => rfl)] at hP ⊢); exact hP
       refine n29 _ (n28 _ (.inl ?_))
       refine wr [(6, .uslice 1 ((v6_33 ++ x3).map e_s_impl_Term)), (25, .slice (a0.map e_s_s_impl_Term)), (26, .int .i64 (a0.length : Int)), (27, .int .i64 (IntKind.i64.wrap (v27_33 + 1)))] ?_
       exact n24 _ (.inr ⟨_, weak_eq rfl, ih33 (v6_33 ++ x3) (IntKind.i64.wrap (v27_33 + 1)) h⟩)
      ·refine w_cf (congrArg AV.bool b27) ?_
       simp only [b27, Bool.not_true, Bool.not_false]
       refine w_ex (x26 2 _ (x24 2 _ (b23 _ (n21 _ (.inl ?_)))))
       refine ws _ ?_
       exact w_ret (r0 _ (.inl (w_fin [.uslice 1 (v6_33.map e_s_impl_Term)] rfl (by cases someE h; rfl) (by decide) outs_nil)))
    obtain ⟨n, h⟩ := limE h
    exact w_loop (.inr ⟨_, weak_eq rfl, L33 n x2 0 h⟩)
 obtain ⟨n, h⟩ := limE h
 exact w_loop (.inr ⟨_, weak_eq rfl, L8 n 0 0 h⟩)

theorem ok_impl_Summand_expressions (a0 : impl_Summand) (r : (List (List impl_Term))) (h : impl_Summand_expressions a0 = some r) : OkAt Cc 293 [e_impl_Summand a0] (.uslice 1 (r.map e_s_impl_Term)) [] := by
 refine OkAt.of_wpR (fx := [0]) Cc_ok [.tmp 2] [(0, e_impl_Summand a0)] Try.func293 rfl rfl s293 (Nat.le_of_ble_eq_true rfl) rfl rfl (fun Q0 r0 n0 => ?_)
 refine ws _ ?_
 obtain ⟨x1, e3, h⟩ := bindE h
 refine w_sreg (w_abs [(2, .uslice 1 (x1.map e_s_impl_Term))] (fun P hP => ?_) ?_)
 ·simp only [V0.down, simprocAttr, tt2, tt9, tt40, tt68, tt131, tt195, tt197, tt308, e_i64, e_impl_Summand, e_impl_Term, e_s_impl_Term, e_s_s_impl_Term, (show ∀ s, bsl Cc s 195 1 [(0, .slice (a0.Guard.map e_impl_Term))] = some (.uslice 1 [.slice (a0.Guard.map e_impl_Term)], s) from fun s => by kernel_rfl), st_shr, shrV_s, eff_bsl, AV.shares, share_s, @shares_map _ e_impl_Term e_impl_Term (fun _ => sh_e_impl_Term _), @shares_map _ e_s_impl_Term e_s_impl_Term (fun _ => sh_e_s_impl_Term _), (show ∀ s, bsl Cc s 308 3 [(0, .slice [.slice (a0.Guard.map e_impl_Term)]), (1, .slice (a0.Arguments.map e_s_impl_Term)), (2, .slice (a0.Next.map e_s_impl_Term))] = some (.uslice 1 [.slice [.slice (a0.Guard.map e_impl_Term)], .slice (a0.Arguments.map e_s_impl_Term), .slice (a0.Next.map e_s_impl_Term)], s) from fun s => by kernel_rfl), @shares_map _ e_s_s_impl_Term e_s_s_impl_Term (fun _ => sh_e_s_s_impl_Term _)]
  refine w_call0 (ok_slices_Concat_impl_Term [[a0.Guard], a0.Arguments, a0.Next] _ e3) rfl rfl rfl rfl (.inl (by rfl)) ?_
  simp only [V0.down, simprocAttr, tt2, tt9, tt40, tt68, tt131, tt195, tt197, tt308, e_i64, e_impl_Summand, e_impl_Term, e_s_impl_Term, e_s_s_impl_Term, (show ∀ s, bsl Cc s 195 1 [(0, .slice (a0.Guard.map e_impl_Term))] = some (.uslice 1 [.slice (a0.Guard.map e_impl_Term)], s) from fun s => by kernel_rfl), st_shr, shrV_s, eff_bsl, AV.shares, share_s, @shares_map _ e_impl_Term e_impl_Term (fun _ => sh_e_impl_Term _), @shares_map _ e_s_impl_Term e_s_impl_Term (fun _ => sh_e_s_impl_Term _), (show ∀ s, bsl Cc s 308 3 [(0, .slice [.slice (a0.Guard.map e_impl_Term)]), (1, .slice (a0.Arguments.map e_s_impl_Term)), (2, .slice (a0.Next.map e_s_impl_Term))] = some (.uslice 1 [.slice [.slice (a0.Guard.map e_impl_Term)], .slice (a0.Arguments.map e_s_impl_Term), .slice (a0.Next.map e_s_impl_Term)], s) from fun s => by kernel_rfl), @shares_map _ e_s_s_impl_Term e_s_s_impl_Term (fun _ => sh_e_s_s_impl_Term _)]
  (try simp only [VN.down, simprocAttr, e_i64, e_impl_Summand, e_impl_Term, e_s_impl_Term, e_s_s_impl_Term, (show ∀ s, bsl Cc s 195 1 [(0, .slice (a0.Guard.map e_impl_Term))] = some (.uslice 1 [.slice (a0.Guard.map e_impl_Term)], s) from fun s => by kernel_rfl), st_shr, shrV_s, eff_bsl, AV.shares, share_s, @shares_map _ e_impl_Term e_impl_Term (fun _ => sh_e_impl_Term _), @shares_map _ e_s_impl_Term e_s_impl_Term (fun _ => sh_e_s_impl_Term _), (show ∀ s, bsl Cc s 308 3 [(0, .slice [.slice (a0.Guard.map e_impl_Term)]), (1, .slice (a0.Arguments.map e_s_impl_Term)), (2, .slice (a0.Next.map e_s_impl_Term))] = some (.uslice 1 [.slice [.slice (a0.Guard.map e_impl_Term)], .slice (a0.Arguments.map e_s_impl_Term), .slice (a0.Next.map e_s_impl_Term)], s) from fun s => by kernel_rfl), @shares_map _ e_s_s_impl_Term e_s_s_impl_Term (fun _ => sh_e_s_s_impl_Term _)] at hP ⊢); exact hP
 exact w_ret (r0 _ (.inl (w_fin [.uslice 1 (x1.map e_s_impl_Term)] rfl (by cases someE h; rfl) (by decide) outs_nil)))

theorem ok_impl_Term_valid (a0 : impl_Term) (a1 : Int) (r : Bool) (h : impl_Term_valid a0 a1 = some r) : OkAt Cc 269 [e_impl_Term a0, .int .i64 a1] (.bool r) [] := by
 refine OkAt.of_wpR (fx := [0, 1]) Cc_ok [.tmp 4] [(0, e_impl_Term a0), (1, .int .i64 a1)] Try.func269 rfl rfl s269 (Nat.le_of_ble_eq_true rfl) rfl rfl (fun Q0 r0 n0 => ?_)
 refine ws _ ?_
 refine w_seq (fun Q2 n2 q2 x2 => ?_)
 refine ws _ ?_
 refine w_blk (fun Q4 n4 q4 b4 x4 => ?_)
 refine ws _ ?_
 rcases condE h with ⟨b6, h⟩ | ⟨b6, h⟩
 ·refine w_ct (congrArg AV.bool b6) ?_
  simp only [b6, Bool.not_true, Bool.not_false]
  obtain ⟨x1, e8, h⟩ := bindE h
  refine wsc (ok_impl_isValue a0.Value _ e8) _ ?_
  exact w_ret (q4 _ (q2 _ (r0 _ (.inl (w_fin [.bool x1] rfl (by cases someE h; rfl) (by decide) outs_nil)))))
 ·refine w_cf (congrArg AV.bool b6) ?_
  simp only [b6, Bool.not_true, Bool.not_false]
  refine ws _ ?_
  rcases condE h with ⟨b10, h⟩ | ⟨b10, h⟩
  ·refine w_ct (congrArg AV.bool b10) ?_
   simp only [b10, Bool.not_true, Bool.not_false]
   obtain ⟨x2, e12, h⟩ := bindE h
   refine wsc (ok_impl_within a0.Value 0 (IntKind.i64.wrap (a1 - 1)) _ e12) _ ?_
   exact w_ret (q4 _ (q2 _ (r0 _ (.inl (w_fin [.bool x2] rfl (by cases someE h; rfl) (by decide) outs_nil)))))
  ·refine w_cf (congrArg AV.bool b10) ?_
   simp only [b10, Bool.not_true, Bool.not_false]
   refine ws _ ?_
   rcases condE h with ⟨b14, h⟩ | ⟨b14, h⟩
   ·refine w_ct (congrArg AV.bool b14) ?_
    simp only [b14, Bool.not_true, Bool.not_false]
    obtain ⟨x3, e16, h⟩ := bindE h
    refine wsc (ok_impl_within a0.Value 0 8 _ e16) _ ?_
    exact w_ret (q4 _ (q2 _ (r0 _ (.inl (w_fin [.bool x3] rfl (by cases someE h; rfl) (by decide) outs_nil)))))
   ·refine w_cf (congrArg AV.bool b14) ?_
    simp only [b14, Bool.not_true, Bool.not_false]
    refine ws _ ?_
    rcases condE h with ⟨b18, h⟩ | ⟨b18, h⟩
    ·refine w_ct (congrArg AV.bool b18) ?_
     simp only [b18, Bool.not_true, Bool.not_false]
     refine ws _ ?_
     exact w_ret (q4 _ (q2 _ (r0 _ (.inl (w_fin [.bool (a0.Value == 0)] rfl (by cases someE h; rfl) (by decide) outs_nil)))))
    ·refine w_cf (congrArg AV.bool b18) ?_
     simp only [b18, Bool.not_true, Bool.not_false]
     refine w_skip (n4 _ (n2 _ (.inl ?_)))
     refine ws _ ?_
     exact w_ret (r0 _ (.inl (w_fin [.bool false] rfl (by cases someE h; rfl) (by decide) outs_nil)))

theorem ok_impl_Term_operands (a0 : impl_Term) (r : Int) (h : impl_Term_operands a0 = some r) : OkAt Cc 270 [e_impl_Term a0] (.int .i64 r) [] := by
 refine OkAt.of_wpR (fx := [0]) Cc_ok [.tmp 2] [(0, e_impl_Term a0)] Try.func270 rfl rfl s270 (Nat.le_of_ble_eq_true rfl) rfl rfl (fun Q0 r0 n0 => ?_)
 refine ws _ ?_
 refine w_seq (fun Q2 n2 q2 x2 => ?_)
 refine ws _ ?_
 refine w_blk (fun Q4 n4 q4 b4 x4 => ?_)
 refine ws _ ?_
 rcases condE h with ⟨b6, h⟩ | ⟨b6, h⟩
 ·refine w_ct (congrArg AV.bool b6) ?_
  simp only [b6, Bool.not_true, Bool.not_false]
  refine ws _ ?_
  exact w_ret (q4 _ (q2 _ (r0 _ (.inl (w_fin [.int .i64 2] rfl (by cases someE h; rfl) (by decide) outs_nil)))))
 ·refine w_cf (congrArg AV.bool b6) ?_
  simp only [b6, Bool.not_true, Bool.not_false]
  refine ws _ ?_
  rcases condE h with ⟨b9, h⟩ | ⟨b9, h⟩
  ·refine w_ct (congrArg AV.bool b9) ?_
   simp only [b9, Bool.not_true, Bool.not_false]
   refine ws _ ?_
   exact w_ret (q4 _ (q2 _ (r0 _ (.inl (w_fin [.int .i64 1] rfl (by cases someE h; rfl) (by decide) outs_nil)))))
  ·refine w_cf (congrArg AV.bool b9) ?_
   simp only [b9, Bool.not_true, Bool.not_false]
   refine w_skip (n4 _ (n2 _ (.inl ?_)))
   refine ws _ ?_
   exact w_ret (r0 _ (.inl (w_fin [.int .i64 0] rfl (by cases someE h; rfl) (by decide) outs_nil)))

set_option maxHeartbeats 600000 in
theorem ok_impl_ValidTerms (a0 : List impl_Term) (a1 : Int) (a2 : Int) (r : Bool) (h : impl_ValidTerms a0 a1 a2 = some r) : OkAt Cc 200 [.slice (a0.map e_impl_Term), .int .i64 a1, .int .i64 a2] (.bool r) [] := by
 refine OkAt.of_wpR (fx := [0, 1, 2]) Cc_ok [.tmp 6] [(0, .slice (a0.map e_impl_Term)), (1, .int .i64 a1), (2, .int .i64 a2)] Try.func200 rfl rfl s200 (Nat.le_of_ble_eq_true rfl) rfl rfl (fun Q0 r0 n0 => ?_)
 refine ws _ ?_
 refine w_seq (fun Q2 n2 q2 x2 => ?_)
 obtain ⟨x1, e4, h⟩ := bindE h
 rcases condE h with ⟨b5, h⟩ | ⟨b5, h⟩
 ·refine wscf (bnT b5) (ok_impl_within a1 0 29 _ e4) _ ?_
  refine w_ct rfl ?_
  refine ws _ ?_
  exact w_ret (q2 _ (r0 _ (.inl (w_fin [.bool false] rfl (by cases someE h; rfl) (by decide) outs_nil))))
 ·obtain ⟨x2, e7, h⟩ := bindE h
  rcases condE h with ⟨b8, h⟩ | ⟨b8, h⟩
  ·refine w_sreg (w_abs [(0, .slice (a0.map e_impl_Term)), (1, .int .i64 a1), (24, .bool true)] (fun P hP => ?_) ?_)
   ·simp only [V0.down, simprocAttr, zz6.down, (bnF b5), (bnT b8)]
    refine w_call0 (ok_impl_within a1 0 29 _ e4) rfl rfl rfl rfl (.inl (by rfl)) ?_
    simp only [V0.down, simprocAttr, zz6.down, (bnF b5), (bnT b8)]
    refine w_callg0 (ok_impl_within a2 1 60 _ e7) rfl rfl rfl rfl (.inl (by rfl)) ?_
    simp only [V0.down, simprocAttr, zz6.down, (bnF b5), (bnT b8)]
    (try simp only [VN.down, simprocAttr, e_impl_Term, (bnF b5), (bnT b8)] at hP ⊢); exact hP
   refine w_ct rfl ?_
   refine ws _ ?_
   exact w_ret (q2 _ (r0 _ (.inl (w_fin [.bool false] rfl (by cases someE h; rfl) (by decide) outs_nil))))
  ·obtain ⟨x3, e10, h⟩ := bindE h
   refine w_sreg (w_abs [(0, .slice (a0.map e_impl_Term)), (1, .int .i64 a1), (24, .bool (!x3))] (fun P hP => ?_) ?_)
   ·simp only [V0.down, simprocAttr, zz6.down, (bnF b5), (bnF b8)]
    refine w_call0 (ok_impl_within a1 0 29 _ e4) rfl rfl rfl rfl (.inl (by rfl)) ?_
    simp only [V0.down, simprocAttr, zz6.down, (bnF b5), (bnF b8)]
    refine w_callg0 (ok_impl_within a2 1 60 _ e7) rfl rfl rfl rfl (.inl (by rfl)) ?_
    simp only [V0.down, simprocAttr, zz6.down, (bnF b5), (bnF b8)]
    refine w_callg0 (ok_impl_within (a0.length : Int) 1 a2 _ e10) rfl rfl rfl rfl (.inl (by rfl)) ?_
    simp only [V0.down, simprocAttr, zz6.down, (bnF b5), (bnF b8)]
    (try simp only [VN.down, simprocAttr, e_impl_Term, (bnF b5), (bnF b8)] at hP ⊢); exact hP
   rcases condE h with ⟨b11, h⟩ | ⟨b11, h⟩
   ·refine w_ct (congrArg AV.bool b11) ?_
    simp only [(bnT b11), Bool.not_true, Bool.not_false]
    refine ws _ ?_
    exact w_ret (q2 _ (r0 _ (.inl (w_fin [.bool false] rfl (by cases someE h; rfl) (by decide) outs_nil))))
   ·refine w_cf (congrArg AV.bool b11) ?_
    simp only [(bnF b11), Bool.not_true, Bool.not_false]
    refine w_skip (n2 _ (.inl ?_))
    refine ws _ ?_
    refine w_seq (fun Q14 n14 q14 x14 => ?_)
    refine ws _ ?_
    refine w_blk (fun Q16 n16 q16 b16 x16 => ?_)
    have L16 : ∀ (n : Nat) (v7_16 : Int) (v27_16 : Int), impl_ValidTerms_l16 a0 a1 n v7_16 v27_16 = some r → lpC Cc c200_17 Q16 (stA [(1, .int .i64 a1), (7, .int .i64 v7_16), (25, .slice (a0.map e_impl_Term)), (26, .int .i64 (a0.length : Int)), (27, .int .i64 v27_16)]) := by
     intro m16
     induction m16 with
     | zero => intro v7_16 v27_16 h; cases (show none = some r from h)
     | succ m16 ih16 =>
      intro v7_16 v27_16 h
      replace h : impl_ValidTerms_b16 (impl_ValidTerms_l16 a0 a1 m16) a0 a1 v7_16 v27_16 = some r := h
      refine lpC_step (fun Q17 n17 q17 x17 => ?_)
      refine ws _ ?_
      refine w_seq (fun Q19 n19 q19 x19 => ?_)
      rcases condE h with ⟨b20, h⟩ | ⟨b20, h⟩
      ·refine w_ct (congrArg AV.bool b20) ?_
       simp only [b20, Bool.not_true, Bool.not_false]
       refine w_skip (n19 _ (.inl ?_))
       refine w_seq (fun Q21 n21 q21 x21 => ?_)
       refine w_blk (fun Q22 n22 q22 b22 x22 => ?_)
       obtain ⟨x4, e24, h⟩ := bindE h
       refine wsf e24 _ ?_
       refine w_seq (fun Q25 n25 q25 x25 => ?_)
       rcases condE h with ⟨b27, h⟩ | ⟨b27, h⟩
       ·refine wsf b27 _ ?_
        refine w_ct rfl ?_
        refine ws _ ?_
        exact w_ret (q25 _ (q22 _ (q21 _ (q17 _ (q16 _ (q14 _ (r0 _ (.inl (w_fin [.bool false] rfl (by cases someE h; rfl) (by decide) outs_nil)))))))))
       ·obtain ⟨x5, e29, h⟩ := bindE h
        refine w_sreg (w_abs [(1, .int .i64 a1), (7, .int .i64 v7_16), (9, .ubox (e_impl_Term x4)), (25, .slice (a0.map e_impl_Term)), (26, .int .i64 (a0.length : Int)), (27, .int .i64 v27_16), (38, .bool (!x5))] (fun P hP => ?_) ?_)
        ·simp only [V0.down, simprocAttr, tt2, tt131, e_impl_Term, b27]
         refine w_callg0 (ok_impl_Term_valid x4 a1 _ e29) rfl rfl rfl rfl (.inl (by rfl)) ?_
         simp only [V0.down, simprocAttr, tt2, tt131, e_impl_Term, b27]
         (try simp only [VN.down, simprocAttr, e_impl_Term, b27] at hP ⊢); exact hP
        rcases condE h with ⟨b30, h⟩ | ⟨b30, h⟩
        ·refine w_ct (congrArg AV.bool b30) ?_
         simp only [(bnT b30), Bool.not_true, Bool.not_false]
         refine ws _ ?_
         exact w_ret (q25 _ (q22 _ (q21 _ (q17 _ (q16 _ (q14 _ (r0 _ (.inl (w_fin [.bool false] rfl (by cases someE h; rfl) (by decide) outs_nil)))))))))
        ·refine w_cf (congrArg AV.bool b30) ?_
         simp only [(bnF b30), Bool.not_true, Bool.not_false]
         refine w_skip (n25 _ (.inl ?_))
         obtain ⟨x6, e33, h⟩ := bindE h
         refine wrc (ok_impl_Term_operands x4 _ e33) _ ?_
         refine n22 _ (n21 _ (.inl ?_))
         refine wr _ ?_
         exact n17 _ (.inr ⟨_, weak_eq rfl, ih16 (IntKind.i64.wrap (v7_16 + (IntKind.i64.wrap (x6 - 1)))) (IntKind.i64.wrap (v27_16 + 1)) h⟩)
      ·refine w_cf (congrArg AV.bool b20) ?_
       simp only [b20, Bool.not_true, Bool.not_false]
       refine w_ex (x19 0 _ (x17 0 _ (b16 _ (n14 _ (.inl ?_)))))
       refine ws _ ?_
       exact w_ret (r0 _ (.inl (w_fin [.bool (v7_16 == 0)] rfl (by cases someE h; rfl) (by decide) outs_nil)))
    obtain ⟨n, h⟩ := limE h
    exact w_loop (.inr ⟨_, weak_eq rfl, L16 n 1 0 h⟩)

theorem ok_impl_Summand_valid_c1_2 (a0 : List impl_Term) (a1 : Int) (a2 : impl_Summand) (r : Bool) (h : impl_Summand_valid_c1_2 a0 a1 a2 = some r) : OkAt Cc 294 [.slice (a0.map e_impl_Term), .ref (.int .i64 a1), .ref (e_impl_Summand a2)] (.bool r) [] := by
 refine OkAt.of_wpR (fx := [0, 1, 2]) Cc_ok [.tmp 4] [(0, .slice (a0.map e_impl_Term)), (1, .ref (.int .i64 a1)), (2, .ref (e_impl_Summand a2))] Try.func294 rfl rfl s294 (Nat.le_of_ble_eq_true rfl) rfl rfl (fun Q0 r0 n0 => ?_)
 refine ws _ ?_
 obtain ⟨x1, e3, h⟩ := bindE h
 refine wsc (ok_impl_ValidTerms a0 (IntKind.i64.wrap (a1 + (a2.Sums.length : Int))) 60 _ e3) _ ?_
 exact w_ret (r0 _ (.inl (w_fin [.bool (!x1)] rfl (by cases someE h; rfl) (by decide) outs_nil)))

theorem ok_slices_IndexFunc_impl_Term__impl_Summand_valid_c1 (a0 : List (List impl_Term)) (a100 : Int) (a101 : impl_Summand) (r : Int) (h : slices_IndexFunc_impl_Term__impl_Summand_valid_c1 a0 a100 a101 = some r) : OkAt Cc 320 [.slice (a0.map e_s_impl_Term), .fn 294 [.ref (.int .i64 a100), .ref (e_impl_Summand a101)]] (.int .i64 r) [] := by
 refine OkAt.of_wpR (fx := [0, 1]) Cc_ok [.tmp 4] [(0, .slice (a0.map e_s_impl_Term)), (1, .fn 294 [.ref (.int .i64 a100), .ref (e_impl_Summand a101)])] Try.func320 rfl rfl s320 (Nat.le_of_ble_eq_true rfl) rfl rfl (fun Q0 r0 n0 => ?_)
 refine ws _ ?_
 refine w_seq (fun Q2 n2 q2 x2 => ?_)
 refine ws _ ?_
 refine w_blk (fun Q4 n4 q4 b4 x4 => ?_)
 have L6 : ∀ (n : Nat) (v8_6 : Int), slices_IndexFunc_impl_Term__impl_Summand_valid_c1_l6 a0 a100 a101 n v8_6 = some r → lpC Cc c320_7 Q4 (stA [(0, .slice (a0.map e_s_impl_Term)), (1, .fn 294 [.ref (.int .i64 a100), .ref (e_impl_Summand a101)]), (7, .int .i64 (a0.length : Int)), (8, .int .i64 v8_6)]) := by
  intro m6
  induction m6 with
  | zero => intro v8_6 h; cases (show none = some r from h)
  | succ m6 ih6 =>
   intro v8_6 h
   replace h : slices_IndexFunc_impl_Term__impl_Summand_valid_c1_b6 (slices_IndexFunc_impl_Term__impl_Summand_valid_c1_l6 a0 a100 a101 m6) a0 a100 a101 v8_6 = some r := h
   refine lpC_step (fun Q5 n5 q5 x5 => ?_)
   refine ws _ ?_
   refine w_seq (fun Q7 n7 q7 x7 => ?_)
   rcases condE h with ⟨b8, h⟩ | ⟨b8, h⟩
   ·refine w_ct (congrArg AV.bool b8) ?_
    simp only [b8, Bool.not_true, Bool.not_false]
    refine w_skip (n7 _ (.inl ?_))
    refine w_seq (fun Q9 n9 q9 x9 => ?_)
    refine w_blk (fun Q10 n10 q10 b10 x10 => ?_)
    refine ws _ ?_
    obtain ⟨x1, e13, h⟩ := bindE h
    obtain ⟨x2, e14, h⟩ := bindE h
    refine wscf e13 (ok_impl_Summand_valid_c1_2 x1 a100 a101 _ e14) _ ?_
    rcases condE h with ⟨b15, h⟩ | ⟨b15, h⟩
    ·refine w_ct (congrArg AV.bool b15) ?_
     simp only [b15, Bool.not_true, Bool.not_false]
     refine ws _ ?_
     exact w_ret (q10 _ (q9 _ (q5 _ (q4 _ (q2 _ (r0 _ (.inl (w_fin [.int .i64 v8_6] rfl (by cases someE h; rfl) (by decide) outs_nil))))))))
    ·refine w_cf (congrArg AV.bool b15) ?_
     simp only [b15, Bool.not_true, Bool.not_false]
     refine w_skip (n10 _ (n9 _ (.inl ?_)))
     refine wr _ ?_
     exact n5 _ (.inr ⟨_, weak_eq rfl, ih6 (IntKind.i64.wrap (v8_6 + 1)) h⟩)
   ·refine w_cf (congrArg AV.bool b8) ?_
    simp only [b8, Bool.not_true, Bool.not_false]
    refine w_ex (x7 0 _ (x5 0 _ (b4 _ (n2 _ (.inl ?_)))))
    refine ws _ ?_
    exact w_ret (r0 _ (.inl (w_fin [.int .i64 (-1)] rfl (by cases someE h; rfl) (by decide) outs_nil)))
 obtain ⟨n, h⟩ := limE h
 exact w_loop (.inr ⟨_, weak_eq rfl, L6 n 0 h⟩)

theorem ok_slices_ContainsFunc_impl_Term__impl_Summand_valid_c1 (a0 : List (List impl_Term)) (a100 : Int) (a101 : impl_Summand) (r : Bool) (h : slices_ContainsFunc_impl_Term__impl_Summand_valid_c1 a0 a100 a101 = some r) : OkAt Cc 280 [.slice (a0.map e_s_impl_Term), .fn 294 [.ref (.int .i64 a100), .ref (e_impl_Summand a101)]] (.bool r) [] := by
 refine OkAt.of_wpR (fx := [0, 1]) Cc_ok [.tmp 4] [(0, .slice (a0.map e_s_impl_Term)), (1, .fn 294 [.ref (.int .i64 a100), .ref (e_impl_Summand a101)])] Try.func280 rfl rfl s280 (Nat.le_of_ble_eq_true rfl) rfl rfl (fun Q0 r0 n0 => ?_)
 refine ws _ ?_
 obtain ⟨x1, e3, h⟩ := bindE h
 refine wsc (ok_slices_IndexFunc_impl_Term__impl_Summand_valid_c1 a0 a100 a101 _ e3) _ ?_
 exact w_ret (r0 _ (.inl (w_fin [.bool (decide (0 ≤ x1))] rfl (by cases someE h; rfl) (by decide) outs_nil)))

set_option maxHeartbeats 600000 in
theorem ok_impl_Summand_valid (a0 : impl_Summand) (a1 : Int) (r : Bool) (h : impl_Summand_valid a0 a1 = some r) : OkAt Cc 237 [e_impl_Summand a0, .int .i64 a1] (.bool r) [] := by
 refine OkAt.of_wpR (fx := [0, 1]) Cc_ok [.tmp 4] [(0, e_impl_Summand a0), (1, .int .i64 a1)] Try.func237 rfl rfl s237 (Nat.le_of_ble_eq_true rfl) rfl rfl (fun Q0 r0 n0 => ?_)
 refine ws _ ?_
 refine w_seq (fun Q2 n2 q2 x2 => ?_)
 obtain ⟨x1, e4, h⟩ := bindE h
 refine w_sreg (w_abs [(2, .ubox (e_impl_Summand a0)), (3, .ubox (.int .i64 a1)), (15, .bool ((!x1) || ((a0.Next.length : Int) != a1)))] (fun P hP => ?_) ?_)
 ·rcases Bool.eq_false_or_eq_true (x1) with s5 | s5
  ·simp only [V0.down, simprocAttr, zz0.down, s5]
   refine w_call0 (ok_impl_Summand_sumsOk a0 _ e4) rfl rfl rfl rfl (.inl (by rfl)) ?_
   simp only [V0.down, simprocAttr, zz0.down, s5]
   (try simp only [VN.down, simprocAttr, zz3.down, s5] at hP ⊢); exact hP
  ·simp only [V0.down, simprocAttr, zz0.down, s5]
   refine w_call0 (ok_impl_Summand_sumsOk a0 _ e4) rfl rfl rfl rfl (.inl (by rfl)) ?_
   simp only [V0.down, simprocAttr, zz0.down, s5]
   (try simp only [VN.down, simprocAttr, zz3.down, s5] at hP ⊢); exact hP
 rcases condE h with ⟨b6, h⟩ | ⟨b6, h⟩
 ·refine w_ct (congrArg AV.bool b6) ?_
  simp only [b6, Bool.not_true, Bool.not_false]
  refine ws _ ?_
  exact w_ret (q2 _ (r0 _ (.inl (w_fin [.bool false] rfl (by cases someE h; rfl) (by decide) outs_nil))))
 ·refine w_cf (congrArg AV.bool b6) ?_
  simp only [b6, Bool.not_true, Bool.not_false]
  refine w_skip (n2 _ (.inl ?_))
  refine w_seq (fun Q8 n8 q8 x8 => ?_)
  refine ws _ ?_
  rcases condE h with ⟨b11, h⟩ | ⟨b11, h⟩
  ·rcases condE h with ⟨b12, h⟩ | ⟨b12, h⟩
   ·refine wsf (And.intro b11 b12) _ ?_
    refine w_ct rfl ?_
    refine ws _ ?_
    exact w_ret (q8 _ (r0 _ (.inl (w_fin [.bool false] rfl (by cases someE h; rfl) (by decide) outs_nil))))
   ·rcases condE h with ⟨b14, h⟩ | ⟨b14, h⟩
    ·refine wsf (And.intro b11 (And.intro b12 b14)) _ ?_
     refine w_ct rfl ?_
     refine ws _ ?_
     exact w_ret (q8 _ (r0 _ (.inl (w_fin [.bool false] rfl (by cases someE h; rfl) (by decide) outs_nil))))
    ·obtain ⟨x2, e16, h⟩ := bindE h
     refine w_sreg (w_abs [(2, .ubox (e_impl_Summand a0)), (3, .ubox (.int .i64 a1)), (40, .bool (!x2))] (fun P hP => ?_) ?_)
     ·simp only [V0.down, simprocAttr, zz0.down, b11, b12, b14]
      refine w_callg0 (ok_impl_IsAction a0.Name _ e16) rfl rfl rfl rfl (.inl (by rfl)) ?_
      simp only [V0.down, simprocAttr, zz0.down, b11, b12, b14]
      (try simp only [VN.down, simprocAttr, zz3.down, b11, b12, b14] at hP ⊢); exact hP
     rcases condE h with ⟨b17, h⟩ | ⟨b17, h⟩
     ·refine w_ct (congrArg AV.bool b17) ?_
      simp only [(bnT b17), Bool.not_true, Bool.not_false]
      refine ws _ ?_
      exact w_ret (q8 _ (r0 _ (.inl (w_fin [.bool false] rfl (by cases someE h; rfl) (by decide) outs_nil))))
     ·refine w_cf (congrArg AV.bool b17) ?_
      simp only [(bnF b17), Bool.not_true, Bool.not_false]
      refine w_skip (n8 _ (.inl ?_))
      obtain ⟨x3, e20, h⟩ := bindE h
      obtain ⟨x4, e21, h⟩ := bindE h
      refine w_sreg (w_abs [(4, .bool (!x4))] (fun P hP => ?_) ?_)
      ·simp only [V0.down, simprocAttr, zz0.down]
       refine w_call0 (ok_impl_Summand_expressions a0 _ e20) rfl rfl rfl rfl (.inl (by rfl)) ?_
       simp only [V0.down, simprocAttr, zz0.down]
       refine w_call0 (ok_slices_ContainsFunc_impl_Term__impl_Summand_valid_c1 x3 a1 a0 _ e21) rfl rfl (by simp only [V0.down, simprocAttr, zz0.down, view_s, view_h, viewH_s, share_s, @shares_map _ e_s_impl_Term e_s_impl_Term (fun _ => sh_e_s_impl_Term _), @shares_map _ e_i64 e_i64 (fun _ => sh_e_i64 _), @shares_map _ e_impl_Term e_impl_Term (fun _ => sh_e_impl_Term _), @shares_map _ e_s_impl_Term e_s_impl_Term (fun _ => sh_e_s_impl_Term _), @shares_map _ e_s_impl_Term e_s_impl_Term (fun _ => sh_e_s_impl_Term _)] <;> rfl) rfl (.inr (by rfl)) ?_
       simp only [V0.down, simprocAttr, zz0.down]
       (try simp only [VN.down, simprocAttr, zz3.down] at hP ⊢); exact hP
      exact w_ret (r0 _ (.inl (w_fin [.bool (!x4)] rfl (by cases someE h; rfl) (by decide) outs_nil)))
  ·rcases condE h with ⟨b22, h⟩ | ⟨b22, h⟩
   ·obtain ⟨x5, e23, h⟩ := bindE h
    refine w_sreg (w_abs [(2, .ubox (e_impl_Summand a0)), (3, .ubox (.int .i64 a1)), (40, .bool (!x5))] (fun P hP => ?_) ?_)
    ·simp only [V0.down, simprocAttr, zz0.down, b11, b22]
     refine w_callg0 (ok_impl_IsAction a0.Name _ e23) rfl rfl rfl rfl (.inl (by rfl)) ?_
     simp only [V0.down, simprocAttr, zz0.down, b11, b22]
     (try simp only [VN.down, simprocAttr, zz3.down, b11, b22] at hP ⊢); exact hP
    rcases condE h with ⟨b24, h⟩ | ⟨b24, h⟩
    ·refine w_ct (congrArg AV.bool b24) ?_
     simp only [(bnT b24), Bool.not_true, Bool.not_false]
     refine ws _ ?_
     exact w_ret (q8 _ (r0 _ (.inl (w_fin [.bool false] rfl (by cases someE h; rfl) (by decide) outs_nil))))
    ·refine w_cf (congrArg AV.bool b24) ?_
     simp only [(bnF b24), Bool.not_true, Bool.not_false]
     refine w_skip (n8 _ (.inl ?_))
     obtain ⟨x6, e27, h⟩ := bindE h
     obtain ⟨x7, e28, h⟩ := bindE h
     refine w_sreg (w_abs [(4, .bool (!x7))] (fun P hP => ?_) ?_)
     ·simp only [V0.down, simprocAttr, zz0.down]
      refine w_call0 (ok_impl_Summand_expressions a0 _ e27) rfl rfl rfl rfl (.inl (by rfl)) ?_
      simp only [V0.down, simprocAttr, zz0.down]
      refine w_call0 (ok_slices_ContainsFunc_impl_Term__impl_Summand_valid_c1 x6 a1 a0 _ e28) rfl rfl (by simp only [V0.down, simprocAttr, zz0.down, view_s, view_h, viewH_s, share_s, @shares_map _ e_s_impl_Term e_s_impl_Term (fun _ => sh_e_s_impl_Term _), @shares_map _ e_i64 e_i64 (fun _ => sh_e_i64 _), @shares_map _ e_impl_Term e_impl_Term (fun _ => sh_e_impl_Term _), @shares_map _ e_s_impl_Term e_s_impl_Term (fun _ => sh_e_s_impl_Term _), @shares_map _ e_s_impl_Term e_s_impl_Term (fun _ => sh_e_s_impl_Term _)] <;> rfl) rfl (.inr (by rfl)) ?_
      simp only [V0.down, simprocAttr, zz0.down]
      (try simp only [VN.down, simprocAttr, zz3.down] at hP ⊢); exact hP
     exact w_ret (r0 _ (.inl (w_fin [.bool (!x7)] rfl (by cases someE h; rfl) (by decide) outs_nil)))
   ·refine wsf (And.intro b11 b22) _ ?_
    refine w_cf rfl ?_
    refine w_skip (n8 _ (.inl ?_))
    obtain ⟨x8, e30, h⟩ := bindE h
    obtain ⟨x9, e31, h⟩ := bindE h
    refine w_sreg (w_abs [(4, .bool (!x9))] (fun P hP => ?_) ?_)
    ·simp only [V0.down, simprocAttr, zz0.down]
     refine w_call0 (ok_impl_Summand_expressions a0 _ e30) rfl rfl rfl rfl (.inl (by rfl)) ?_
     simp only [V0.down, simprocAttr, zz0.down]
     refine w_call0 (ok_slices_ContainsFunc_impl_Term__impl_Summand_valid_c1 x8 a1 a0 _ e31) rfl rfl (by simp only [V0.down, simprocAttr, zz0.down, view_s, view_h, viewH_s, share_s, @shares_map _ e_s_impl_Term e_s_impl_Term (fun _ => sh_e_s_impl_Term _), @shares_map _ e_i64 e_i64 (fun _ => sh_e_i64 _), @shares_map _ e_impl_Term e_impl_Term (fun _ => sh_e_impl_Term _), @shares_map _ e_s_impl_Term e_s_impl_Term (fun _ => sh_e_s_impl_Term _), @shares_map _ e_s_impl_Term e_s_impl_Term (fun _ => sh_e_s_impl_Term _)] <;> rfl) rfl (.inr (by rfl)) ?_
     simp only [V0.down, simprocAttr, zz0.down]
     (try simp only [VN.down, simprocAttr, zz3.down] at hP ⊢); exact hP
    exact w_ret (r0 _ (.inl (w_fin [.bool (!x9)] rfl (by cases someE h; rfl) (by decide) outs_nil)))

theorem ok_impl_ValidLinear_c1_2 (a0 : impl_Summand) (a1 : impl_Linear) (r : Bool) (h : impl_ValidLinear_c1_2 a0 a1 = some r) : OkAt Cc 236 [e_impl_Summand a0, .ref (e_impl_Linear a1)] (.bool r) [] := by
 refine OkAt.of_wpR (fx := [0, 1]) Cc_ok [.tmp 3] [(0, e_impl_Summand a0), (1, .ref (e_impl_Linear a1))] Try.func236 rfl rfl s236 (Nat.le_of_ble_eq_true rfl) rfl rfl (fun Q0 r0 n0 => ?_)
 refine ws _ ?_
 obtain ⟨x1, e3, h⟩ := bindE h
 refine wsc (ok_impl_Summand_valid a0 a1.Parameters _ e3) _ ?_
 exact w_ret (r0 _ (.inl (w_fin [.bool (!x1)] rfl (by cases someE h; rfl) (by decide) outs_nil)))

theorem ok_slices_IndexFunc_impl_Summand__impl_ValidLinear_c1 (a0 : List impl_Summand) (a1 : impl_Linear) (r : Int) (h : slices_IndexFunc_impl_Summand__impl_ValidLinear_c1 a0 a1 = some r) : OkAt Cc 291 [.slice (a0.map e_impl_Summand), .fn 236 [.ref (e_impl_Linear a1)]] (.int .i64 r) [] := by
 refine OkAt.of_wpR (fx := [0, 1]) Cc_ok [.tmp 4] [(0, .slice (a0.map e_impl_Summand)), (1, .fn 236 [.ref (e_impl_Linear a1)])] Try.func291 rfl rfl s291 (Nat.le_of_ble_eq_true rfl) rfl rfl (fun Q0 r0 n0 => ?_)
 refine ws _ ?_
 refine w_seq (fun Q2 n2 q2 x2 => ?_)
 refine ws _ ?_
 refine w_blk (fun Q4 n4 q4 b4 x4 => ?_)
 have L6 : ∀ (n : Nat) (v8_6 : Int), slices_IndexFunc_impl_Summand__impl_ValidLinear_c1_l6 a0 a1 n v8_6 = some r → lpC Cc c291_7 Q4 (stA [(0, .slice (a0.map e_impl_Summand)), (1, .fn 236 [.ref (e_impl_Linear a1)]), (7, .int .i64 (a0.length : Int)), (8, .int .i64 v8_6)]) := by
  intro m6
  induction m6 with
  | zero => intro v8_6 h; cases (show none = some r from h)
  | succ m6 ih6 =>
   intro v8_6 h
   replace h : slices_IndexFunc_impl_Summand__impl_ValidLinear_c1_b6 (slices_IndexFunc_impl_Summand__impl_ValidLinear_c1_l6 a0 a1 m6) a0 a1 v8_6 = some r := h
   refine lpC_step (fun Q5 n5 q5 x5 => ?_)
   refine ws _ ?_
   refine w_seq (fun Q7 n7 q7 x7 => ?_)
   rcases condE h with ⟨b8, h⟩ | ⟨b8, h⟩
   ·refine w_ct (congrArg AV.bool b8) ?_
    simp only [b8, Bool.not_true, Bool.not_false]
    refine w_skip (n7 _ (.inl ?_))
    refine w_seq (fun Q9 n9 q9 x9 => ?_)
    refine w_blk (fun Q10 n10 q10 b10 x10 => ?_)
    refine ws _ ?_
    obtain ⟨x1, e13, h⟩ := bindE h
    obtain ⟨x2, e14, h⟩ := bindE h
    refine wscf e13 (ok_impl_ValidLinear_c1_2 x1 a1 _ e14) _ ?_
    rcases condE h with ⟨b15, h⟩ | ⟨b15, h⟩
    ·refine w_ct (congrArg AV.bool b15) ?_
     simp only [b15, Bool.not_true, Bool.not_false]
     refine ws _ ?_
     exact w_ret (q10 _ (q9 _ (q5 _ (q4 _ (q2 _ (r0 _ (.inl (w_fin [.int .i64 v8_6] rfl (by cases someE h; rfl) (by decide) outs_nil))))))))
    ·refine w_cf (congrArg AV.bool b15) ?_
     simp only [b15, Bool.not_true, Bool.not_false]
     refine w_skip (n10 _ (n9 _ (.inl ?_)))
     refine wr _ ?_
     exact n5 _ (.inr ⟨_, weak_eq rfl, ih6 (IntKind.i64.wrap (v8_6 + 1)) h⟩)
   ·refine w_cf (congrArg AV.bool b8) ?_
    simp only [b8, Bool.not_true, Bool.not_false]
    refine w_ex (x7 0 _ (x5 0 _ (b4 _ (n2 _ (.inl ?_)))))
    refine ws _ ?_
    exact w_ret (r0 _ (.inl (w_fin [.int .i64 (-1)] rfl (by cases someE h; rfl) (by decide) outs_nil)))
 obtain ⟨n, h⟩ := limE h
 exact w_loop (.inr ⟨_, weak_eq rfl, L6 n 0 h⟩)

theorem ok_slices_ContainsFunc_impl_Summand__impl_ValidLinear_c1 (a0 : List impl_Summand) (a1 : impl_Linear) (r : Bool) (h : slices_ContainsFunc_impl_Summand__impl_ValidLinear_c1 a0 a1 = some r) : OkAt Cc 235 [.slice (a0.map e_impl_Summand), .fn 236 [.ref (e_impl_Linear a1)]] (.bool r) [] := by
 refine OkAt.of_wpR (fx := [0, 1]) Cc_ok [.tmp 4] [(0, .slice (a0.map e_impl_Summand)), (1, .fn 236 [.ref (e_impl_Linear a1)])] Try.func235 rfl rfl s235 (Nat.le_of_ble_eq_true rfl) rfl rfl (fun Q0 r0 n0 => ?_)
 refine ws _ ?_
 obtain ⟨x1, e3, h⟩ := bindE h
 refine wsc (ok_slices_IndexFunc_impl_Summand__impl_ValidLinear_c1 a0 a1 _ e3) _ ?_
 exact w_ret (r0 _ (.inl (w_fin [.bool (decide (0 ≤ x1))] rfl (by cases someE h; rfl) (by decide) outs_nil)))

theorem ok_impl_ValidLinear (a0 : impl_Linear) (r : Bool) (h : impl_ValidLinear a0 = some r) : OkAt Cc 160 [e_impl_Linear a0] (.bool r) [] := by
 refine OkAt.of_wpR (fx := [0]) Cc_ok [.tmp 2] [(0, e_impl_Linear a0)] Try.func160 rfl rfl s160 (Nat.le_of_ble_eq_true rfl) rfl rfl (fun Q0 r0 n0 => ?_)
 refine ws _ ?_
 refine w_seq (fun Q2 n2 q2 x2 => ?_)
 obtain ⟨x1, e4, h⟩ := bindE h
 rcases condE h with ⟨b5, h⟩ | ⟨b5, h⟩
 ·refine wscf (bnT b5) (ok_impl_within a0.Parameters 0 21 _ e4) _ ?_
  refine w_ct rfl ?_
  refine ws _ ?_
  exact w_ret (q2 _ (r0 _ (.inl (w_fin [.bool false] rfl (by cases someE h; rfl) (by decide) outs_nil))))
 ·obtain ⟨x2, e7, h⟩ := bindE h
  refine w_sreg (w_abs [(1, .ubox (e_impl_Linear a0)), (19, .bool ((!x2) || (decide (60 < (a0.Summands.length : Int)))))] (fun P hP => ?_) ?_)
  ·rcases Bool.eq_false_or_eq_true (x2) with s8 | s8
   ·simp only [V0.down, simprocAttr, zz1.down, (bnF b5), s8]
    refine w_call0 (ok_impl_within a0.Parameters 0 21 _ e4) rfl rfl rfl rfl (.inl (by rfl)) ?_
    simp only [V0.down, simprocAttr, zz1.down, (bnF b5), s8]
    refine w_callg0 (ok_impl_Linear_isState a0 a0.Start _ e7) rfl rfl rfl rfl (.inl (by rfl)) ?_
    simp only [V0.down, simprocAttr, zz1.down, (bnF b5), s8]
    (try simp only [VN.down, simprocAttr, zz2.down, (bnF b5), s8] at hP ⊢); exact hP
   ·simp only [V0.down, simprocAttr, zz1.down, (bnF b5), s8]
    refine w_call0 (ok_impl_within a0.Parameters 0 21 _ e4) rfl rfl rfl rfl (.inl (by rfl)) ?_
    simp only [V0.down, simprocAttr, zz1.down, (bnF b5), s8]
    refine w_callg0 (ok_impl_Linear_isState a0 a0.Start _ e7) rfl rfl rfl rfl (.inl (by rfl)) ?_
    simp only [V0.down, simprocAttr, zz1.down, (bnF b5), s8]
    (try simp only [VN.down, simprocAttr, zz2.down, (bnF b5), s8] at hP ⊢); exact hP
  rcases condE h with ⟨b9, h⟩ | ⟨b9, h⟩
  ·refine w_ct (congrArg AV.bool b9) ?_
   simp only [b9, Bool.not_true, Bool.not_false]
   refine ws _ ?_
   exact w_ret (q2 _ (r0 _ (.inl (w_fin [.bool false] rfl (by cases someE h; rfl) (by decide) outs_nil))))
  ·refine w_cf (congrArg AV.bool b9) ?_
   simp only [b9, Bool.not_true, Bool.not_false]
   refine w_skip (n2 _ (.inl ?_))
   obtain ⟨x3, e12, h⟩ := bindE h
   refine w_sreg (w_abs [(2, .bool (!x3))] (fun P hP => ?_) ?_)
   ·simp only [V0.down, simprocAttr, zz1.down]
    refine w_call0 (ok_slices_ContainsFunc_impl_Summand__impl_ValidLinear_c1 a0.Summands a0 _ e12) rfl rfl (by simp only [V0.down, simprocAttr, zz1.down, view_s, view_h, viewH_s, share_s, @shares_map _ e_i64 e_i64 (fun _ => sh_e_i64 _), @shares_map _ e_impl_Summand e_impl_Summand (fun _ => sh_e_impl_Summand _)] <;> rfl) rfl (.inr (by rfl)) ?_
    simp only [V0.down, simprocAttr, zz1.down]
    (try simp only [VN.down, simprocAttr, zz2.down] at hP ⊢); exact hP
   exact w_ret (r0 _ (.inl (w_fin [.bool (!x3)] rfl (by cases someE h; rfl) (by decide) outs_nil)))

theorem ok_slices_Sort_int64_int64 (a0 r : List Int) (h : slices_Sort_int64_int64 a0 = some r) : OkAt Cc 223 [.uslice 1 (a0.map e_i64)] (.tuple []) [.uslice 1 (r.map e_i64)] := sl_Sort_int64 a0 r h

theorem ok_slices_Compact_int64_int64 (a0 r : List Int) (h : slices_Compact_int64_int64 a0 = some r) : OkAt Cc 224 [.uslice 1 (a0.map e_i64)] (.uslice 1 (r.map e_i64)) [.hole] := sl_Compact_int64 a0 r h

theorem ok_impl_variables (a0 : List impl_Term) (r : (List Int)) (h : impl_variables a0 = some r) : OkAt Cc 141 [.slice (a0.map e_impl_Term)] (.uslice 1 (r.map e_i64)) [] := by
 refine OkAt.of_wpR (fx := [0]) Cc_ok [.tmp 2] [(0, .slice (a0.map e_impl_Term))] Try.func141 rfl rfl s141 (Nat.le_of_ble_eq_true rfl) rfl rfl (fun Q0 r0 n0 => ?_)
 refine ws _ ?_
 refine ws _ ?_
 refine w_seq (fun Q3 n3 q3 x3 => ?_)
 refine ws _ ?_
 refine w_blk (fun Q5 n5 q5 b5 x5 => ?_)
 have L8 : ∀ (n : Nat) (v3_8 : List Int) (v8_8 : Int), impl_variables_l8 a0 n v3_8 v8_8 = some r → lpC Cc c141_9 Q5 (stA [(3, .uslice 1 (v3_8.map e_i64)), (6, .slice (a0.map e_impl_Term)), (7, .int .i64 (a0.length : Int)), (8, .int .i64 v8_8)]) := by
  intro m8
  induction m8 with
  | zero => intro v3_8 v8_8 h; cases (show none = some r from h)
  | succ m8 ih8 =>
   intro v3_8 v8_8 h
   replace h : impl_variables_b8 (impl_variables_l8 a0 m8) a0 v3_8 v8_8 = some r := h
   refine lpC_step (fun Q6 n6 q6 x6 => ?_)
   refine ws _ ?_
   refine w_seq (fun Q8 n8 q8 x8 => ?_)
   rcases condE h with ⟨b9, h⟩ | ⟨b9, h⟩
   ·refine w_ct (congrArg AV.bool b9) ?_
    simp only [b9, Bool.not_true, Bool.not_false]
    refine w_skip (n8 _ (.inl ?_))
    have K24 : ∀ (v3_24 : List Int) (v8_24 : Int), impl_variables_k24 (impl_variables_l8 a0 m8) a0 v3_24 v8_24 = some r → wpC Cc c141_24 Q6 (stA [(3, .uslice 1 (v3_24.map e_i64)), (6, .slice (a0.map e_impl_Term)), (7, .int .i64 (a0.length : Int)), (8, .int .i64 v8_24)]) := by
     intro v3_24 v8_24 h
     refine wr _ ?_
     exact n6 _ (.inr ⟨_, weak_eq rfl, ih8 v3_24 (IntKind.i64.wrap (v8_24 + 1)) h⟩)
    refine w_seq (fun Q10 n10 q10 x10 => ?_)
    refine w_blk (fun Q12 n12 q12 b12 x12 => ?_)
    obtain ⟨x1, e14, h⟩ := bindE h
    refine wsf e14 _ ?_
    refine ws _ ?_
    rcases condE h with ⟨b16, h⟩ | ⟨b16, h⟩
    ·refine w_ct (congrArg AV.bool b16) ?_
     simp only [b16, Bool.not_true, Bool.not_false]
     obtain ⟨u18, e18, h⟩ := bindE h
     (try simp only [List.length_append, List.length_cons, List.length_nil, List.length_map, List.length_replicate, Nat.zero_add, Nat.add_zero, Nat.reduceAdd] at e18)
     refine w_reg (w_abs [(3, .uslice 1 ((v3_8 ++ [x1.Value]).map e_i64)), (6, .slice (a0.map e_impl_Term)), (7, .int .i64 (a0.length : Int)), (8, .int .i64 v8_8)] (fun P hP => ?_) ?_)
     ·simp only [V0.down, simprocAttr, tt2, tt68, tt131, e_i64, e_impl_Term, (show ∀ s, bsl Cc s 68 1 [(0, .int .i64 x1.Value)] = some (.uslice 1 [.int .i64 x1.Value], s) from fun s => by kernel_rfl), @apd_s Cc 68 68 2 rfl rfl, ap_s, ap2_s, ap3_s, all_cons, all_nil, e18, @all_wd' _ e_i64 1 (fun _ => rfl)]
      (try simp only [VN.down, simprocAttr, e_i64, e_impl_Term, (show ∀ s, bsl Cc s 68 1 [(0, .int .i64 x1.Value)] = some (.uslice 1 [.int .i64 x1.Value], s) from fun s => by kernel_rfl), @apd_s Cc 68 68 2 rfl rfl, ap_s, ap2_s, ap3_s, all_cons, all_nil, e18, @all_wd' _ e_i64 1 (fun _ => rfl)] at hP ⊢); exact hP
     exact n12 _ (n10 _ (.inr ⟨_, weak_eq rfl, K24 (v3_8 ++ [x1.Value]) v8_8 h⟩))
    ·refine w_cf (congrArg AV.bool b16) ?_
     simp only [b16, Bool.not_true, Bool.not_false]
     exact w_skip (n12 _ (n10 _ (.inr ⟨_, weak_eq rfl, K24 v3_8 v8_8 h⟩)))
   ·refine w_cf (congrArg AV.bool b9) ?_
    simp only [b9, Bool.not_true, Bool.not_false]
    refine w_ex (x8 0 _ (x6 0 _ (b5 _ (n3 _ (.inl ?_)))))
    obtain ⟨x2, e20, h⟩ := bindE h
    refine w_sreg (w_abs [(3, .uslice 1 (x2.map e_i64))] (fun P hP => ?_) ?_)
    ·simp only [V0.down, simprocAttr, e_i64, e_impl_Term]
     refine w_callp0 [⟨.h 3 [], true, _, _⟩] (ok_slices_Sort_int64_int64 v3_8 _ e20) rfl rfl rfl (by simp only [V0.down, simprocAttr, e_i64, e_impl_Term, c_nrm, okp_s, own_r, view_s, view_h, viewH_s, share_s, or_true, true_or, @shares_map _ e_i64 e_i64 (fun _ => sh_e_i64 _)]) rfl rfl (.inl rfl) ?_
     simp only [V0.down, simprocAttr, e_i64, e_impl_Term, gv_s]
     (try simp only [VN.down, simprocAttr, e_i64, e_impl_Term] at hP ⊢); exact hP
    obtain ⟨x3, e22, h⟩ := bindE h
    refine w_sreg (w_abs [(2, .uslice 1 (x3.map e_i64))] (fun P hP => ?_) ?_)
    ·simp only [V0.down, simprocAttr, e_i64]
     refine w_callp0 [⟨.h 3 [], true, _, .hole⟩] (ok_slices_Compact_int64_int64 x2 _ e22) rfl rfl rfl (by simp only [V0.down, simprocAttr, e_i64, c_nrm, okp_s, own_r, view_s, view_h, viewH_s, share_s, or_true, true_or, @shares_map _ e_i64 e_i64 (fun _ => sh_e_i64 _)]) rfl rfl (.inl rfl) ?_
     simp only [V0.down, simprocAttr, e_i64, gv_s]
     (try simp only [VN.down, simprocAttr, e_i64] at hP ⊢); exact hP
    exact w_ret (r0 _ (.inl (w_fin [.uslice 1 (x3.map e_i64)] rfl (by cases someE h; rfl) (by decide) outs_nil)))
 obtain ⟨n, h⟩ := limE h
 exact w_loop (.inr ⟨_, weak_mix [] rfl (wk_wd (t := 3) (d := .nils) (d' := .uslice 1 []) rfl rfl (.nilsU _) (by decide) (wk_eq (t := 6) (d := .slice (a0.map e_impl_Term)) rfl (wk_eq (t := 7) (d := .int .i64 (a0.length : Int)) rfl (wk_eq (t := 8) (d := .int .i64 0) rfl (wk_nil))))), L8 n [] 0 h⟩)

theorem ok_slices_Index_int64_int64 (a0 : List Int) (a1 : Int) (r : Int) (h : slices_Index_int64_int64 a0 a1 = some r) : OkAt Cc 317 [.slice (a0.map e_i64), .int .i64 a1] (.int .i64 r) [] := by
 refine OkAt.of_wpR (fx := [0, 1]) Cc_ok [.tmp 4] [(0, .slice (a0.map e_i64)), (1, .int .i64 a1)] Try.func317 rfl rfl s317 (Nat.le_of_ble_eq_true rfl) rfl rfl (fun Q0 r0 n0 => ?_)
 refine ws _ ?_
 refine w_seq (fun Q2 n2 q2 x2 => ?_)
 refine ws _ ?_
 refine w_blk (fun Q4 n4 q4 b4 x4 => ?_)
 have L6 : ∀ (n : Nat) (v8_6 : Int), slices_Index_int64_int64_l6 a0 a1 n v8_6 = some r → lpC Cc c317_7 Q4 (stA [(0, .slice (a0.map e_i64)), (1, .int .i64 a1), (7, .int .i64 (a0.length : Int)), (8, .int .i64 v8_6)]) := by
  intro m6
  induction m6 with
  | zero => intro v8_6 h; cases (show none = some r from h)
  | succ m6 ih6 =>
   intro v8_6 h
   replace h : slices_Index_int64_int64_b6 (slices_Index_int64_int64_l6 a0 a1 m6) a0 a1 v8_6 = some r := h
   refine lpC_step (fun Q5 n5 q5 x5 => ?_)
   refine ws _ ?_
   refine w_seq (fun Q7 n7 q7 x7 => ?_)
   rcases condE h with ⟨b8, h⟩ | ⟨b8, h⟩
   ·refine w_ct (congrArg AV.bool b8) ?_
    simp only [b8, Bool.not_true, Bool.not_false]
    refine w_skip (n7 _ (.inl ?_))
    refine w_seq (fun Q9 n9 q9 x9 => ?_)
    refine w_blk (fun Q10 n10 q10 b10 x10 => ?_)
    refine ws _ ?_
    obtain ⟨x1, e13, h⟩ := bindE h
    refine wsf e13 _ ?_
    rcases condE h with ⟨b14, h⟩ | ⟨b14, h⟩
    ·refine w_ct (congrArg AV.bool b14) ?_
     simp only [b14, Bool.not_true, Bool.not_false]
     refine ws _ ?_
     exact w_ret (q10 _ (q9 _ (q5 _ (q4 _ (q2 _ (r0 _ (.inl (w_fin [.int .i64 v8_6] rfl (by cases someE h; rfl) (by decide) outs_nil))))))))
    ·refine w_cf (congrArg AV.bool b14) ?_
     simp only [b14, Bool.not_true, Bool.not_false]
     refine w_skip (n10 _ (n9 _ (.inl ?_)))
     refine wr _ ?_
     exact n5 _ (.inr ⟨_, weak_eq rfl, ih6 (IntKind.i64.wrap (v8_6 + 1)) h⟩)
   ·refine w_cf (congrArg AV.bool b8) ?_
    simp only [b8, Bool.not_true, Bool.not_false]
    refine w_ex (x7 0 _ (x5 0 _ (b4 _ (n2 _ (.inl ?_)))))
    refine ws _ ?_
    exact w_ret (r0 _ (.inl (w_fin [.int .i64 (-1)] rfl (by cases someE h; rfl) (by decide) outs_nil)))
 obtain ⟨n, h⟩ := limE h
 exact w_loop (.inr ⟨_, weak_eq rfl, L6 n 0 h⟩)

theorem ok_slices_Contains_int64_int64 (a0 : List Int) (a1 : Int) (r : Bool) (h : slices_Contains_int64_int64 a0 a1 = some r) : OkAt Cc 263 [.slice (a0.map e_i64), .int .i64 a1] (.bool r) [] := by
 refine OkAt.of_wpR (fx := [0, 1]) Cc_ok [.tmp 4] [(0, .slice (a0.map e_i64)), (1, .int .i64 a1)] Try.func263 rfl rfl s263 (Nat.le_of_ble_eq_true rfl) rfl rfl (fun Q0 r0 n0 => ?_)
 refine ws _ ?_
 obtain ⟨x1, e3, h⟩ := bindE h
 refine wsc (ok_slices_Index_int64_int64 a0 a1 _ e3) _ ?_
 exact w_ret (r0 _ (.inl (w_fin [.bool (decide (0 ≤ x1))] rfl (by cases someE h; rfl) (by decide) outs_nil)))

theorem ok_impl_Linear_needed_c1 (a0 : List impl_Term) (a1 : impl_Linear) (r : Bool × (List Int)) (h : impl_Linear_needed_c1 a0 a1 = some r) : OkAt Cc 262 [.slice (a0.map e_impl_Term), .ref (e_impl_Linear a1), .ubox (.nils)] (.bool r.1) [.hole, .hole, .ubox (.uslice 1 (r.2.map e_i64))] := by
 refine OkAt.of_wpR (fx := [0, 1, 2]) Cc_ok [.tmp 4] [(0, .slice (a0.map e_impl_Term)), (1, .ref (e_impl_Linear a1)), (2, .ubox (.nils))] Try.func262 rfl rfl s262 (Nat.le_of_ble_eq_true rfl) rfl rfl (fun Q0 r0 n0 => ?_)
 refine ws _ ?_
 refine ws _ ?_
 refine w_seq (fun Q3 n3 q3 x3 => ?_)
 obtain ⟨x1, e5, h⟩ := bindE h
 refine wsc (ok_impl_variables a0 _ e5) _ ?_
 refine w_blk (fun Q6 n6 q6 b6 x6 => ?_)
 have L8 : ∀ (n : Nat) (v2_8 : List Int) (v5_8 : Bool) (v11_8 : Int), impl_Linear_needed_c1_l8 a1 x1 n v2_8 v5_8 v11_8 = some r → lpC Cc c262_9 Q6 (stA [(1, .ref (e_impl_Linear a1)), (2, .ubox (.uslice 1 (v2_8.map e_i64))), (5, .bool v5_8), (9, .uslice 1 (x1.map e_i64)), (10, .int .i64 (x1.length : Int)), (11, .int .i64 v11_8)]) := by
  intro m8
  induction m8 with
  | zero => intro v2_8 v5_8 v11_8 h; cases (show none = some r from h)
  | succ m8 ih8 =>
   intro v2_8 v5_8 v11_8 h
   replace h : impl_Linear_needed_c1_b8 (impl_Linear_needed_c1_l8 a1 x1 m8) a1 x1 v2_8 v5_8 v11_8 = some r := h
   refine lpC_step (fun Q7 n7 q7 x7 => ?_)
   refine ws _ ?_
   refine w_seq (fun Q9 n9 q9 x9 => ?_)
   rcases condE h with ⟨b10, h⟩ | ⟨b10, h⟩
   ·refine w_ct (congrArg AV.bool b10) ?_
    simp only [b10, Bool.not_true, Bool.not_false]
    refine w_skip (n9 _ (.inl ?_))
    have K26 : ∀ (v2_26 : List Int) (v5_26 : Bool) (v11_26 : Int), impl_Linear_needed_c1_k26 (impl_Linear_needed_c1_l8 a1 x1 m8) a1 x1 v2_26 v5_26 v11_26 = some r → wpC Cc c262_26 Q7 (stA [(1, .ref (e_impl_Linear a1)), (2, .ubox (.uslice 1 (v2_26.map e_i64))), (5, .bool v5_26), (9, .uslice 1 (x1.map e_i64)), (10, .int .i64 (x1.length : Int)), (11, .int .i64 v11_26)]) := by
     intro v2_26 v5_26 v11_26 h
     refine wr _ ?_
     exact n7 _ (.inr ⟨_, weak_eq rfl, ih8 v2_26 v5_26 (IntKind.i64.wrap (v11_26 + 1)) h⟩)
    refine w_seq (fun Q11 n11 q11 x11 => ?_)
    refine w_blk (fun Q13 n13 q13 b13 x13 => ?_)
    obtain ⟨x2, e15, h⟩ := bindE h
    refine wsf (And.intro e15 (getI_get e15)) _ ?_
    rcases condE h with ⟨b17, h⟩ | ⟨b17, h⟩
    ·obtain ⟨x3, e18, h⟩ := bindE h
     refine w_sreg (w_abs [(1, .ref (e_impl_Linear a1)), (2, .ubox (.uslice 1 (v2_8.map e_i64))), (5, .bool v5_8), (7, .int .i64 x2), (9, .uslice 1 (x1.map e_i64)), (10, .int .i64 (x1.length : Int)), (11, .int .i64 v11_8), (24, .bool (!x3))] (fun P hP => ?_) ?_)
     ·simp only [V0.down, simprocAttr, zz1.down, b17]
      refine w_callg0 (ok_slices_Contains_int64_int64 v2_8 x2 _ e18) rfl rfl (by simp only [V0.down, simprocAttr, zz1.down, b17, view_s, view_h, viewH_s, share_s, @shares_map _ e_i64 e_i64 (fun _ => sh_e_i64 _)] <;> rfl) rfl (.inr (by rfl)) ?_
      simp only [V0.down, simprocAttr, zz1.down, b17]
      (try simp only [VN.down, simprocAttr, zz2.down, b17] at hP ⊢); exact hP
     rcases condE h with ⟨b19, h⟩ | ⟨b19, h⟩
     ·refine w_ct (congrArg AV.bool b19) ?_
      simp only [(bnT b19), Bool.not_true, Bool.not_false]
      obtain ⟨u22, e21, h⟩ := bindE h
      (try simp only [List.length_append, List.length_cons, List.length_nil, List.length_map, List.length_replicate, Nat.zero_add, Nat.add_zero, Nat.reduceAdd] at e21)
      refine w_sreg (w_abs [(1, .ref (e_impl_Linear a1)), (2, .ubox (.uslice 1 ((v2_8 ++ [x2]).map e_i64))), (9, .uslice 1 (x1.map e_i64)), (10, .int .i64 (x1.length : Int)), (11, .int .i64 v11_8)] (fun P hP => ?_) ?_)
      ·simp only [V0.down, simprocAttr, zz14.down, (show ∀ s, bsl Cc s 68 1 [(0, .int .i64 x2)] = some (.uslice 1 [.int .i64 x2], s) from fun s => by kernel_rfl), @apd_s Cc 68 68 2 rfl rfl, ap_s, ap2_s, ap3_s, all_cons, all_nil, e21, @all_wd' _ e_i64 1 (fun _ => rfl)]
       (try simp only [VN.down, simprocAttr, zz2.down, (show ∀ s, bsl Cc s 68 1 [(0, .int .i64 x2)] = some (.uslice 1 [.int .i64 x2], s) from fun s => by kernel_rfl), @apd_s Cc 68 68 2 rfl rfl, ap_s, ap2_s, ap3_s, all_cons, all_nil, e21, @all_wd' _ e_i64 1 (fun _ => rfl)] at hP ⊢); exact hP
      refine wr [(1, .ref (e_impl_Linear a1)), (2, .ubox (.uslice 1 ((v2_8 ++ [x2]).map e_i64))), (5, .bool true), (9, .uslice 1 (x1.map e_i64)), (10, .int .i64 (x1.length : Int)), (11, .int .i64 v11_8)] ?_
      exact n13 _ (n11 _ (.inr ⟨_, weak_eq rfl, K26 (v2_8 ++ [x2]) true v11_8 h⟩))
     ·refine w_cf (congrArg AV.bool b19) ?_
      simp only [(bnF b19), Bool.not_true, Bool.not_false]
      exact w_skip (n13 _ (n11 _ (.inr ⟨_, weak_eq rfl, K26 v2_8 v5_8 v11_8 h⟩)))
    ·refine wsf b17 _ ?_
     refine w_cf rfl ?_
     exact w_skip (n13 _ (n11 _ (.inr ⟨_, weak_eq rfl, K26 v2_8 v5_8 v11_8 h⟩)))
   ·refine w_cf (congrArg AV.bool b10) ?_
    simp only [b10, Bool.not_true, Bool.not_false]
    refine w_ex (x9 0 _ (x7 0 _ (b6 _ (n3 _ (.inl ?_)))))
    refine ws _ ?_
    exact w_ret (r0 _ (.inl (w_fin [.bool v5_8] rfl (by cases someE h; rfl) (by decide) (outs_of (out_no (out_no (out_is (by cases someE h; rfl) rfl rfl rfl (out_end))))))))
 obtain ⟨n, h⟩ := limE h
 exact w_loop (.inr ⟨_, weak_mix [] rfl (wk_eq (t := 1) (d := .ref (e_impl_Linear a1)) rfl (wk_wd (t := 2) (d := .ubox (.nils)) (d' := .ubox (.uslice 1 [])) rfl rfl (.ubox (.nilsU _)) (by decide) (wk_eq (t := 5) (d := .bool false) rfl (wk_eq (t := 9) (d := .uslice 1 (x1.map e_i64)) rfl (wk_eq (t := 10) (d := .int .i64 (x1.length : Int)) rfl (wk_eq (t := 11) (d := .int .i64 0) rfl (wk_nil))))))), L8 n [] false 0 h⟩)

theorem ok_impl_Linear_needed_c1_2 (a0 : List impl_Term) (a1 : impl_Linear) (a2 : List Int) (r : Bool × (List Int)) (h : impl_Linear_needed_c1_2 a0 a1 a2 = some r) : OkAt Cc 262 [.slice (a0.map e_impl_Term), .ref (e_impl_Linear a1), .ubox (.uslice 1 (a2.map e_i64))] (.bool r.1) [.hole, .hole, .ubox (.uslice 1 (r.2.map e_i64))] := by
 refine OkAt.of_wpR (fx := [0, 1, 2]) Cc_ok [.tmp 4] [(0, .slice (a0.map e_impl_Term)), (1, .ref (e_impl_Linear a1)), (2, .ubox (.uslice 1 (a2.map e_i64)))] Try.func262 rfl rfl s262v2 (Nat.le_of_ble_eq_true rfl) rfl rfl (fun Q0 r0 n0 => ?_)
 refine ws _ ?_
 refine ws _ ?_
 refine w_seq (fun Q3 n3 q3 x3 => ?_)
 obtain ⟨x1, e5, h⟩ := bindE h
 refine wsc (ok_impl_variables a0 _ e5) _ ?_
 refine w_blk (fun Q6 n6 q6 b6 x6 => ?_)
 have L8 : ∀ (n : Nat) (v2_8 : List Int) (v5_8 : Bool) (v11_8 : Int), impl_Linear_needed_c1_2_l8 a1 x1 n v2_8 v5_8 v11_8 = some r → lpC Cc c262v2_9 Q6 (stA [(1, .ref (e_impl_Linear a1)), (2, .ubox (.uslice 1 (v2_8.map e_i64))), (5, .bool v5_8), (9, .uslice 1 (x1.map e_i64)), (10, .int .i64 (x1.length : Int)), (11, .int .i64 v11_8)]) := by
  intro m8
  induction m8 with
  | zero => intro v2_8 v5_8 v11_8 h; cases (show none = some r from h)
  | succ m8 ih8 =>
   intro v2_8 v5_8 v11_8 h
   replace h : impl_Linear_needed_c1_2_b8 (impl_Linear_needed_c1_2_l8 a1 x1 m8) a1 x1 v2_8 v5_8 v11_8 = some r := h
   refine lpC_step (fun Q7 n7 q7 x7 => ?_)
   refine ws _ ?_
   refine w_seq (fun Q9 n9 q9 x9 => ?_)
   rcases condE h with ⟨b10, h⟩ | ⟨b10, h⟩
   ·refine w_ct (congrArg AV.bool b10) ?_
    simp only [b10, Bool.not_true, Bool.not_false]
    refine w_skip (n9 _ (.inl ?_))
    have K26 : ∀ (v2_26 : List Int) (v5_26 : Bool) (v11_26 : Int), impl_Linear_needed_c1_2_k26 (impl_Linear_needed_c1_2_l8 a1 x1 m8) a1 x1 v2_26 v5_26 v11_26 = some r → wpC Cc c262v2_26 Q7 (stA [(1, .ref (e_impl_Linear a1)), (2, .ubox (.uslice 1 (v2_26.map e_i64))), (5, .bool v5_26), (9, .uslice 1 (x1.map e_i64)), (10, .int .i64 (x1.length : Int)), (11, .int .i64 v11_26)]) := by
     intro v2_26 v5_26 v11_26 h
     refine wr _ ?_
     exact n7 _ (.inr ⟨_, weak_eq rfl, ih8 v2_26 v5_26 (IntKind.i64.wrap (v11_26 + 1)) h⟩)
    refine w_seq (fun Q11 n11 q11 x11 => ?_)
    refine w_blk (fun Q13 n13 q13 b13 x13 => ?_)
    obtain ⟨x2, e15, h⟩ := bindE h
    refine wsf (And.intro e15 (getI_get e15)) _ ?_
    rcases condE h with ⟨b17, h⟩ | ⟨b17, h⟩
    ·obtain ⟨x3, e18, h⟩ := bindE h
     refine w_sreg (w_abs [(1, .ref (e_impl_Linear a1)), (2, .ubox (.uslice 1 (v2_8.map e_i64))), (5, .bool v5_8), (7, .int .i64 x2), (9, .uslice 1 (x1.map e_i64)), (10, .int .i64 (x1.length : Int)), (11, .int .i64 v11_8), (24, .bool (!x3))] (fun P hP => ?_) ?_)
     ·simp only [V0.down, simprocAttr, zz1.down, b17]
      refine w_callg0 (ok_slices_Contains_int64_int64 v2_8 x2 _ e18) rfl rfl (by simp only [V0.down, simprocAttr, zz1.down, b17, view_s, view_h, viewH_s, share_s, @shares_map _ e_i64 e_i64 (fun _ => sh_e_i64 _)] <;> rfl) rfl (.inr (by rfl)) ?_
      simp only [V0.down, simprocAttr, zz1.down, b17]
      (try simp only [VN.down, simprocAttr, zz2.down, b17] at hP ⊢); exact hP
     rcases condE h with ⟨b19, h⟩ | ⟨b19, h⟩
     ·refine w_ct (congrArg AV.bool b19) ?_
      simp only [(bnT b19), Bool.not_true, Bool.not_false]
      obtain ⟨u22, e21, h⟩ := bindE h
      (try simp only [List.length_append, List.length_cons, List.length_nil, List.length_map, List.length_replicate, Nat.zero_add, Nat.add_zero, Nat.reduceAdd] at e21)
      refine w_sreg (w_abs [(1, .ref (e_impl_Linear a1)), (2, .ubox (.uslice 1 ((v2_8 ++ [x2]).map e_i64))), (9, .uslice 1 (x1.map e_i64)), (10, .int .i64 (x1.length : Int)), (11, .int .i64 v11_8)] (fun P hP => ?_) ?_)
      ·simp only [V0.down, simprocAttr, zz14.down, (show ∀ s, bsl Cc s 68 1 [(0, .int .i64 x2)] = some (.uslice 1 [.int .i64 x2], s) from fun s => by kernel_rfl), @apd_s Cc 68 68 2 rfl rfl, ap_s, ap2_s, ap3_s, all_cons, all_nil, e21, @all_wd' _ e_i64 1 (fun _ => rfl)]
       (try simp only [VN.down, simprocAttr, zz2.down, (show ∀ s, bsl Cc s 68 1 [(0, .int .i64 x2)] = some (.uslice 1 [.int .i64 x2], s) from fun s => by kernel_rfl), @apd_s Cc 68 68 2 rfl rfl, ap_s, ap2_s, ap3_s, all_cons, all_nil, e21, @all_wd' _ e_i64 1 (fun _ => rfl)] at hP ⊢); exact hP
      refine wr [(1, .ref (e_impl_Linear a1)), (2, .ubox (.uslice 1 ((v2_8 ++ [x2]).map e_i64))), (5, .bool true), (9, .uslice 1 (x1.map e_i64)), (10, .int .i64 (x1.length : Int)), (11, .int .i64 v11_8)] ?_
      exact n13 _ (n11 _ (.inr ⟨_, weak_eq rfl, K26 (v2_8 ++ [x2]) true v11_8 h⟩))
     ·refine w_cf (congrArg AV.bool b19) ?_
      simp only [(bnF b19), Bool.not_true, Bool.not_false]
      exact w_skip (n13 _ (n11 _ (.inr ⟨_, weak_eq rfl, K26 v2_8 v5_8 v11_8 h⟩)))
    ·refine wsf b17 _ ?_
     refine w_cf rfl ?_
     exact w_skip (n13 _ (n11 _ (.inr ⟨_, weak_eq rfl, K26 v2_8 v5_8 v11_8 h⟩)))
   ·refine w_cf (congrArg AV.bool b10) ?_
    simp only [b10, Bool.not_true, Bool.not_false]
    refine w_ex (x9 0 _ (x7 0 _ (b6 _ (n3 _ (.inl ?_)))))
    refine ws _ ?_
    exact w_ret (r0 _ (.inl (w_fin [.bool v5_8] rfl (by cases someE h; rfl) (by decide) (outs_of (out_no (out_no (out_is (by cases someE h; rfl) rfl rfl rfl (out_end))))))))
 obtain ⟨n, h⟩ := limE h
 exact w_loop (.inr ⟨_, weak_eq rfl, L8 n a2 false 0 h⟩)

set_option maxHeartbeats 1200000 in
theorem ok_impl_Linear_needed (a0 : impl_Linear) (r : (List Int)) (h : impl_Linear_needed a0 = some r) : OkAt Cc 181 [e_impl_Linear a0] (.uslice 1 (r.map e_i64)) [] := by
 refine OkAt.of_wpR (fx := [0]) Cc_ok [.tmp 2] [(0, e_impl_Linear a0)] Try.func181 rfl rfl s181 (Nat.le_of_ble_eq_true rfl) rfl rfl (fun Q0 r0 n0 => ?_)
 refine ws _ ?_
 refine ws _ ?_
 refine ws _ ?_
 refine w_seq (fun Q4 n4 q4 x4 => ?_)
 refine ws _ ?_
 refine w_blk (fun Q6 n6 q6 b6 x6 => ?_)
 have L10 : ∀ (n : Nat) (v3_10 : List Int) (v16_10 : Int), impl_Linear_needed_l10 a0 n v3_10 v16_10 = some r → lpC Cc c181_11 Q6 (stA [(1, .ubox (e_impl_Linear a0)), (3, .ubox (.uslice 1 (v3_10.map e_i64))), (4, .fn 262 [.h 1 [], .h 3 []]), (14, .slice (a0.Summands.map e_impl_Summand)), (15, .int .i64 (a0.Summands.length : Int)), (16, .int .i64 v16_10)]) := by
  intro m10
  induction m10 with
  | zero => intro v3_10 v16_10 h; cases (show none = some r from h)
  | succ m10 ih10 =>
   intro v3_10 v16_10 h
   replace h : impl_Linear_needed_b10 (impl_Linear_needed_l10 a0 m10) a0 v3_10 v16_10 = some r := h
   refine lpC_step (fun Q7 n7 q7 x7 => ?_)
   refine ws _ ?_
   refine w_seq (fun Q9 n9 q9 x9 => ?_)
   rcases condE h with ⟨b10, h⟩ | ⟨b10, h⟩
   ·refine w_ct (congrArg AV.bool b10) ?_
    simp only [b10, Bool.not_true, Bool.not_false]
    refine w_skip (n9 _ (.inl ?_))
    refine w_seq (fun Q11 n11 q11 x11 => ?_)
    refine w_blk (fun Q12 n12 q12 b12 x12 => ?_)
    obtain ⟨x1, e14, h⟩ := bindE h
    refine wsf e14 _ ?_
    obtain ⟨x2, e16, h⟩ := bindE h
    refine w_sreg (w_abs [(1, .ubox (e_impl_Linear a0)), (3, .ubox (.uslice 1 (v3_10.map e_i64))), (4, .fn 262 [.h 1 [], .h 3 []]), (14, .slice (a0.Summands.map e_impl_Summand)), (15, .int .i64 (a0.Summands.length : Int)), (16, .int .i64 v16_10), (26, .uslice 1 (x2.map e_s_impl_Term)), (27, .int .i64 (x2.length : Int)), (28, .int .i64 0)] (fun P hP => ?_) ?_)
    ·simp only [V0.down, simprocAttr, tt2, tt9, tt40, tt68, tt131, tt195, tt197, tt308, e_i64, e_impl_Linear, e_impl_Summand, e_impl_Term, e_s_impl_Term, e_s_s_impl_Term, (show ∀ s, bsl Cc s 195 1 [(0, .slice (x1.Guard.map e_impl_Term))] = some (.uslice 1 [.slice (x1.Guard.map e_impl_Term)], s) from fun s => by kernel_rfl), st_shr, shrV_s, eff_bsl, AV.shares, share_s, @shares_map _ e_impl_Term e_impl_Term (fun _ => sh_e_impl_Term _), @shares_map _ e_s_impl_Term e_s_impl_Term (fun _ => sh_e_s_impl_Term _), (show ∀ s, bsl Cc s 308 2 [(0, .slice [.slice (x1.Guard.map e_impl_Term)]), (1, .slice (x1.Arguments.map e_s_impl_Term))] = some (.uslice 1 [.slice [.slice (x1.Guard.map e_impl_Term)], .slice (x1.Arguments.map e_s_impl_Term)], s) from fun s => by kernel_rfl), @shares_map _ e_s_s_impl_Term e_s_s_impl_Term (fun _ => sh_e_s_s_impl_Term _)]
     refine w_call0 (ok_slices_Concat_impl_Term [[x1.Guard], x1.Arguments] _ e16) rfl rfl rfl rfl (.inl (by rfl)) ?_
     simp only [V0.down, simprocAttr, tt2, tt9, tt40, tt68, tt131, tt195, tt197, tt308, e_i64, e_impl_Linear, e_impl_Summand, e_impl_Term, e_s_impl_Term, e_s_s_impl_Term, (show ∀ s, bsl Cc s 195 1 [(0, .slice (x1.Guard.map e_impl_Term))] = some (.uslice 1 [.slice (x1.Guard.map e_impl_Term)], s) from fun s => by kernel_rfl), st_shr, shrV_s, eff_bsl, AV.shares, share_s, @shares_map _ e_impl_Term e_impl_Term (fun _ => sh_e_impl_Term _), @shares_map _ e_s_impl_Term e_s_impl_Term (fun _ => sh_e_s_impl_Term _), (show ∀ s, bsl Cc s 308 2 [(0, .slice [.slice (x1.Guard.map e_impl_Term)]), (1, .slice (x1.Arguments.map e_s_impl_Term))] = some (.uslice 1 [.slice [.slice (x1.Guard.map e_impl_Term)], .slice (x1.Arguments.map e_s_impl_Term)], s) from fun s => by kernel_rfl), @shares_map _ e_s_s_impl_Term e_s_s_impl_Term (fun _ => sh_e_s_s_impl_Term _)]
     (try simp only [VN.down, simprocAttr, e_i64, e_impl_Linear, e_impl_Summand, e_impl_Term, e_s_impl_Term, e_s_s_impl_Term, (show ∀ s, bsl Cc s 195 1 [(0, .slice (x1.Guard.map e_impl_Term))] = some (.uslice 1 [.slice (x1.Guard.map e_impl_Term)], s) from fun s => by kernel_rfl), st_shr, shrV_s, eff_bsl, AV.shares, share_s, @shares_map _ e_impl_Term e_impl_Term (fun _ => sh_e_impl_Term _), @shares_map _ e_s_impl_Term e_s_impl_Term (fun _ => sh_e_s_impl_Term _), (show ∀ s, bsl Cc s 308 2 [(0, .slice [.slice (x1.Guard.map e_impl_Term)]), (1, .slice (x1.Arguments.map e_s_impl_Term))] = some (.uslice 1 [.slice [.slice (x1.Guard.map e_impl_Term)], .slice (x1.Arguments.map e_s_impl_Term)], s) from fun s => by kernel_rfl), @shares_map _ e_s_s_impl_Term e_s_s_impl_Term (fun _ => sh_e_s_s_impl_Term _)] at hP ⊢); exact hP
    refine w_blk (fun Q17 n17 q17 b17 x17 => ?_)
    have L24 : ∀ (n : Nat) (v3_24 : List Int) (v16_24 : Int) (v26_24 : List (List impl_Term)) (v27_24 : Int) (v28_24 : Int), impl_Linear_needed_l24 (impl_Linear_needed_l10 a0 m10) a0 n v3_24 v16_24 v26_24 v27_24 v28_24 = some r → lpC Cc c181_25 Q17 (stA [(1, .ubox (e_impl_Linear a0)), (3, .ubox (.uslice 1 (v3_24.map e_i64))), (4, .fn 262 [.h 1 [], .h 3 []]), (14, .slice (a0.Summands.map e_impl_Summand)), (15, .int .i64 (a0.Summands.length : Int)), (16, .int .i64 v16_24), (26, .uslice 1 (v26_24.map e_s_impl_Term)), (27, .int .i64 v27_24), (28, .int .i64 v28_24)]) := by
     intro m24
     induction m24 with
     | zero => intro v3_24 v16_24 v26_24 v27_24 v28_24 h; cases (show none = some r from h)
     | succ m24 ih24 =>
      intro v3_24 v16_24 v26_24 v27_24 v28_24 h
      replace h : impl_Linear_needed_b24 (impl_Linear_needed_l10 a0 m10) (impl_Linear_needed_l24 (impl_Linear_needed_l10 a0 m10) a0 m24) a0 v3_24 v16_24 v26_24 v27_24 v28_24 = some r := h
      refine lpC_step (fun Q18 n18 q18 x18 => ?_)
      refine ws _ ?_
      refine w_seq (fun Q20 n20 q20 x20 => ?_)
      rcases condE h with ⟨b21, h⟩ | ⟨b21, h⟩
      ·refine w_ct (congrArg AV.bool b21) ?_
       simp only [b21, Bool.not_true, Bool.not_false]
       refine w_skip (n20 _ (.inl ?_))
       refine w_seq (fun Q22 n22 q22 x22 => ?_)
       refine w_blk (fun Q23 n23 q23 b23 x23 => ?_)
       obtain ⟨x3, e25, h⟩ := bindE h
       refine wsf (And.intro e25 (getI_get e25)) _ ?_
       obtain ⟨x4, e27, h⟩ := bindE h
       refine w_reg (w_abs [(1, .ubox (e_impl_Linear a0)), (3, .ubox (.uslice 1 (x4.2.map e_i64))), (4, .fn 262 [.h 1 [], .h 3 []]), (14, .slice (a0.Summands.map e_impl_Summand)), (15, .int .i64 (a0.Summands.length : Int)), (16, .int .i64 v16_24), (26, .uslice 1 (v26_24.map e_s_impl_Term)), (27, .int .i64 v27_24), (28, .int .i64 v28_24)] (fun P hP => ?_) ?_)
       ·simp only [V0.down, simprocAttr, zz2.down]
        refine w_calla0 [⟨.slice (x3.map e_impl_Term), false, _, .hole⟩, ⟨.h 1 [], false, _, .hole⟩, ⟨.h 3 [], true, _, _⟩] (ok_impl_Linear_needed_c1_2 x3 a0 v3_24 _ e27) rfl rfl rfl (by simp only [V0.down, simprocAttr, zz2.down, c_nrm, okp_s, own_r, view_s, view_h, viewH_s, share_s, or_true, true_or, @shares_map _ e_i64 e_i64 (fun _ => sh_e_i64 _), @shares_map _ e_impl_Summand e_impl_Summand (fun _ => sh_e_impl_Summand _), @shares_map _ e_i64 e_i64 (fun _ => sh_e_i64 _)]) rfl rfl ((.inr (by simp only [nshPs, AV.nosh, AV.noshs, Bool.and_self, @noshs_map _ e_i64 (fun _ => ns_e_i64 _)]))) (by simp only [V0.down, simprocAttr, zz2.down, ka_s, own_r, plain_s, Bool.and_self, Bool.not_false, Bool.and_true]) ?_
        simp only [V0.down, simprocAttr, zz2.down, gv_s, ka_s, own_r, eq_self, Bool.and_self]
        (try simp only [VN.down, simprocAttr, zz2.down] at hP ⊢); exact hP
       refine n23 _ (n22 _ (.inl ?_))
       refine wr _ ?_
       exact n18 _ (.inr ⟨_, weak_eq rfl, ih24 x4.2 v16_24 v26_24 v27_24 (IntKind.i64.wrap (v28_24 + 1)) h⟩)
      ·refine w_cf (congrArg AV.bool b21) ?_
       simp only [b21, Bool.not_true, Bool.not_false]
       refine w_ex (x20 2 _ (x18 2 _ (b17 _ (n12 _ (n11 _ (.inl ?_))))))
       refine wr _ ?_
       exact n7 _ (.inr ⟨_, weak_eq rfl, ih10 v3_24 (IntKind.i64.wrap (v16_24 + 1)) h⟩)
    obtain ⟨n, h⟩ := limE h
    exact w_loop (.inr ⟨_, weak_eq rfl, L24 n v3_10 v16_10 x2 (x2.length : Int) 0 h⟩)
   ·refine w_cf (congrArg AV.bool b10) ?_
    simp only [b10, Bool.not_true, Bool.not_false]
    refine w_ex (x9 0 _ (x7 0 _ (b6 _ (n4 _ (.inl ?_)))))
    refine w_seq (fun Q30 n30 q30 x30 => ?_)
    refine ws _ ?_
    refine w_blk (fun Q32 n32 q32 b32 x32 => ?_)
    have L42 : ∀ (n : Nat) (v3_42 : List Int) (v9_42 : Int), impl_Linear_needed_l42 a0 n v3_42 v9_42 = some r → lpC Cc c181_43 Q32 (stA [(1, .ubox (e_impl_Linear a0)), (3, .ubox (.uslice 1 (v3_42.map e_i64))), (4, .fn 262 [.h 1 [], .h 3 []]), (9, .int .i64 v9_42)]) := by
     intro m42
     induction m42 with
     | zero => intro v3_42 v9_42 h; cases (show none = some r from h)
     | succ m42 ih42 =>
      intro v3_42 v9_42 h
      replace h : impl_Linear_needed_b42 (impl_Linear_needed_l42 a0 m42) a0 v3_42 v9_42 = some r := h
      refine lpC_step (fun Q33 n33 q33 x33 => ?_)
      refine w_seq (fun Q34 n34 q34 x34 => ?_)
      refine ws _ ?_
      rcases condE h with ⟨b36, h⟩ | ⟨b36, h⟩
      ·refine w_ct (congrArg AV.bool b36) ?_
       simp only [b36, Bool.not_true, Bool.not_false]
       refine w_skip (n34 _ (.inl ?_))
       refine w_seq (fun Q37 n37 q37 x37 => ?_)
       refine w_blk (fun Q38 n38 q38 b38 x38 => ?_)
       refine ws _ ?_
       refine w_blk (fun Q40 n40 q40 b40 x40 => ?_)
       have L54 : ∀ (n : Nat) (v3_54 : List Int) (v9_54 : Int) (v46_54 : Int), impl_Linear_needed_l54 (impl_Linear_needed_l42 a0 m42) a0 n v3_54 v9_54 v46_54 = some r → lpC Cc c181_55 Q40 (stA [(1, .ubox (e_impl_Linear a0)), (3, .ubox (.uslice 1 (v3_54.map e_i64))), (4, .fn 262 [.h 1 [], .h 3 []]), (9, .int .i64 v9_54), (44, .slice (a0.Summands.map e_impl_Summand)), (45, .int .i64 (a0.Summands.length : Int)), (46, .int .i64 v46_54)]) := by
        intro m54
        induction m54 with
        | zero => intro v3_54 v9_54 v46_54 h; cases (show none = some r from h)
        | succ m54 ih54 =>
         intro v3_54 v9_54 v46_54 h
         replace h : impl_Linear_needed_b54 (impl_Linear_needed_l42 a0 m42) (impl_Linear_needed_l54 (impl_Linear_needed_l42 a0 m42) a0 m54) a0 v3_54 v9_54 v46_54 = some r := h
         refine lpC_step (fun Q41 n41 q41 x41 => ?_)
         refine ws _ ?_
         refine w_seq (fun Q43 n43 q43 x43 => ?_)
         rcases condE h with ⟨b44, h⟩ | ⟨b44, h⟩
         ·refine w_ct (congrArg AV.bool b44) ?_
          simp only [b44, Bool.not_true, Bool.not_false]
          refine w_skip (n43 _ (.inl ?_))
          refine w_seq (fun Q45 n45 q45 x45 => ?_)
          refine w_blk (fun Q46 n46 q46 b46 x46 => ?_)
          obtain ⟨x5, e48, h⟩ := bindE h
          refine wsf e48 _ ?_
          obtain ⟨x6, e50, h⟩ := bindE h
          obtain ⟨x7, e51, h⟩ := bindE h
          obtain ⟨x8, e52, h⟩ := bindE h
          refine w_drw rfl (w_absd [(1, .ubox (e_impl_Linear a0)), (3, .ubox (.uslice 1 (x8.2.map e_i64))), (4, .fn 262 [.h 1 [], .h 3 []]), (9, .int .i64 v9_54), (44, .slice (a0.Summands.map e_impl_Summand)), (45, .int .i64 (a0.Summands.length : Int)), (46, .int .i64 v46_54)] (fun P hP => ?_) ?_)
          ·simp only [V1.down, simprocAttr, zz15.down, e50, getI_get e50, e51]
           refine w_calla1 [⟨.slice (x7.map e_impl_Term), false, _, .hole⟩, ⟨.h 1 [], false, _, .hole⟩, ⟨.h 3 [], true, _, _⟩] (ok_impl_Linear_needed_c1_2 x7 a0 v3_54 _ e52) rfl rfl rfl (by simp only [V1.down, simprocAttr, zz15.down, e50, getI_get e50, e51, c_nrm, okp_s, own_r, view_s, view_h, viewH_s, share_s, or_true, true_or, @shares_map _ e_i64 e_i64 (fun _ => sh_e_i64 _), @shares_map _ e_impl_Summand e_impl_Summand (fun _ => sh_e_impl_Summand _), @shares_map _ e_i64 e_i64 (fun _ => sh_e_i64 _)]) rfl rfl ((.inr (by simp only [nshPs, AV.nosh, AV.noshs, Bool.and_self, @noshs_map _ e_i64 (fun _ => ns_e_i64 _)]))) (by simp only [V1.down, simprocAttr, zz15.down, e50, getI_get e50, e51, ka_s, own_r, plain_s, Bool.and_self, Bool.not_false, Bool.and_true]) ?_
           simp only [V1.down, simprocAttr, zz15.down, e50, getI_get e50, e51, gv_s, ka_s, own_r, eq_self, Bool.and_self]
           refine ⟨okP_D (by kernel_rfl), ?_⟩
           (try simp only [VN.down, simprocAttr, zz2.down, e50, getI_get e50, e51] at hP ⊢); exact hP
          refine n46 _ (n45 _ (.inl ?_))
          refine wr _ ?_
          exact n41 _ (.inr ⟨_, weak_eq rfl, ih54 x8.2 v9_54 (IntKind.i64.wrap (v46_54 + 1)) h⟩)
         ·refine w_cf (congrArg AV.bool b44) ?_
          simp only [b44, Bool.not_true, Bool.not_false]
          refine w_ex (x43 6 _ (x41 6 _ (b40 _ (n38 _ (n37 _ (.inl ?_))))))
          refine wr _ ?_
          exact n33 _ (.inr ⟨_, weak_eq rfl, ih42 v3_54 (IntKind.i64.wrap (v9_54 + 1)) h⟩)
       obtain ⟨n, h⟩ := limE h
       exact w_loop (.inr ⟨_, weak_eq rfl, L54 n v3_42 v9_42 0 h⟩)
      ·refine w_cf (congrArg AV.bool b36) ?_
       simp only [b36, Bool.not_true, Bool.not_false]
       refine w_ex (x34 4 _ (x33 4 _ (b32 _ (n30 _ (.inl ?_)))))
       obtain ⟨x9, e56, h⟩ := bindE h
       refine w_sreg (w_abs [(3, .ubox (.uslice 1 (x9.map e_i64)))] (fun P hP => ?_) ?_)
       ·simp only [V0.down, simprocAttr, zz14.down]
        refine w_callp0 [⟨.h 3 [0], true, _, _⟩] (ok_slices_Sort_int64_int64 v3_42 _ e56) rfl rfl rfl (by simp only [V0.down, simprocAttr, zz14.down, c_nrm, okp_s, own_r, view_s, view_h, viewH_s, share_s, or_true, true_or, @shares_map _ e_i64 e_i64 (fun _ => sh_e_i64 _)]) rfl rfl (.inl rfl) ?_
        simp only [V0.down, simprocAttr, zz14.down, gv_s]
        (try simp only [VN.down, simprocAttr, zz2.down] at hP ⊢); exact hP
       refine ws _ ?_
       exact w_ret (r0 _ (.inl (w_fin [.uslice 1 (x9.map e_i64)] rfl (by cases someE h; rfl) (by decide) outs_nil)))
    obtain ⟨n, h⟩ := limE h
    exact w_loop (.inr ⟨_, weak_eq rfl, L42 n v3_10 0 h⟩)
 obtain ⟨n, h⟩ := limE h
 exact w_loop (.inr ⟨_, weak_mixD [1, 3] [] rfl rfl (wq_eq (t := 1) (d := .ubox (e_impl_Linear a0)) rfl (wq_ow (t := 3) (d := .ubox (.nils)) (d' := .ubox (.uslice 1 [])) rfl rfl (.ubox (.nilsU _)) rfl rfl (by decide) (wq_eq (t := 4) (d := .fn 262 [.h 1 [], .h 3 []]) rfl (wq_eq (t := 14) (d := .slice (a0.Summands.map e_impl_Summand)) rfl (wq_eq (t := 15) (d := .int .i64 (a0.Summands.length : Int)) rfl (wq_eq (t := 16) (d := .int .i64 0) rfl (wq_nil))))))), L10 n [] 0 h⟩)

theorem ok_impl_NeededParameters (a0 : impl_Linear) (r : (List Int) × Int) (h : impl_NeededParameters a0 = some r) : OkAt Cc 89 [e_impl_Linear a0] (.tuple [.uslice 1 (r.1.map e_i64), .int .i64 r.2]) [] := by
 refine OkAt.of_wpR (fx := [0]) Cc_ok [.tmp 2, .tmp 3] [(0, e_impl_Linear a0)] Try.func89 rfl rfl s89 (Nat.le_of_ble_eq_true rfl) rfl rfl (fun Q0 r0 n0 => ?_)
 refine ws _ ?_
 refine w_seq (fun Q2 n2 q2 x2 => ?_)
 obtain ⟨x1, e4, h⟩ := bindE h
 refine wsc (ok_impl_ValidLinear a0 _ e4) _ ?_
 rcases condE h with ⟨b5, h⟩ | ⟨b5, h⟩
 ·refine w_ct (congrArg AV.bool b5) ?_
  simp only [(bnT b5), Bool.not_true, Bool.not_false]
  refine ws _ ?_
  exact w_ret (q2 _ (r0 _ (.inr ⟨[(2, .uslice 1 []), (3, .int .i64 1)], weak_mix [] rfl (wk_wd (t := 2) (d := .nils) rfl rfl (.nilsU _) (by decide) (wk_eq rfl (wk_nil))), w_fin [.uslice 1 [], .int .i64 1] rfl (by cases someE h; rfl) (by decide) outs_nil⟩)))
 ·refine w_cf (congrArg AV.bool b5) ?_
  simp only [(bnF b5), Bool.not_true, Bool.not_false]
  refine w_skip (n2 _ (.inl ?_))
  obtain ⟨x2, e8, h⟩ := bindE h
  refine wsc (ok_impl_Linear_needed a0 _ e8) _ ?_
  exact w_ret (r0 _ (.inl (w_fin [.uslice 1 (x2.map e_i64), .int .i64 0] rfl (by cases someE h; rfl) (by decide) outs_nil)))

set_option maxHeartbeats 800000 in
theorem ok_laws_eqInt64S (a0 : List Int) (a1 : List Int) (r : Bool) (h : laws_eqInt64S a0 a1 = some r) : OkAt Cc 59 [.slice (a0.map e_i64), .slice (a1.map e_i64)] (.bool r) [] := by
 refine OkAt.of_wpR (fx := [0, 1]) Cc_ok [.tmp 4] [(0, .slice (a0.map e_i64)), (1, .slice (a1.map e_i64))] Try.func59 rfl rfl s59 (Nat.le_of_ble_eq_true rfl) rfl rfl (fun Q0 r0 n0 => ?_)
 refine ws _ ?_
 refine w_seq (fun Q2 n2 q2 x2 => ?_)
 refine ws _ ?_
 rcases condE h with ⟨b4, h⟩ | ⟨b4, h⟩
 ·refine w_ct (congrArg AV.bool b4) ?_
  simp only [b4, Bool.not_true, Bool.not_false]
  refine ws _ ?_
  exact w_ret (q2 _ (r0 _ (.inl (w_fin [.bool false] rfl (by cases someE h; rfl) (by decide) outs_nil))))
 ·refine w_cf (congrArg AV.bool b4) ?_
  simp only [b4, Bool.not_true, Bool.not_false]
  refine w_skip (n2 _ (.inl ?_))
  refine w_seq (fun Q6 n6 q6 x6 => ?_)
  refine ws _ ?_
  refine w_blk (fun Q8 n8 q8 b8 x8 => ?_)
  have L14 : ∀ (n : Nat) (v5_14 : Int), laws_eqInt64S_l14 a0 a1 n v5_14 = some r → lpC Cc c59_15 Q8 (stA [(0, .slice (a0.map e_i64)), (1, .slice (a1.map e_i64)), (5, .int .i64 v5_14)]) := by
   intro m14
   induction m14 with
   | zero => intro v5_14 h; cases (show none = some r from h)
   | succ m14 ih14 =>
    intro v5_14 h
    replace h : laws_eqInt64S_b14 (laws_eqInt64S_l14 a0 a1 m14) a0 a1 v5_14 = some r := h
    refine lpC_step (fun Q9 n9 q9 x9 => ?_)
    refine w_seq (fun Q10 n10 q10 x10 => ?_)
    refine ws _ ?_
    rcases condE h with ⟨b12, h⟩ | ⟨b12, h⟩
    ·refine w_ct (congrArg AV.bool b12) ?_
     simp only [b12, Bool.not_true, Bool.not_false]
     refine w_skip (n10 _ (.inl ?_))
     refine w_seq (fun Q13 n13 q13 x13 => ?_)
     refine w_blk (fun Q14 n14 q14 b14 x14 => ?_)
     obtain ⟨x1, e16, h⟩ := bindE h
     obtain ⟨x2, e17, h⟩ := bindE h
     refine w_sdrw rfl (w_absd [(0, .slice (a0.map e_i64)), (1, .slice (a1.map e_i64)), (5, .int .i64 v5_14), (25, .bool (x1 != x2))] (fun P hP => ?_) ?_)
     ·simp only [V1.down, simprocAttr, tt2, tt68, e_i64, e16, e17]
      refine ⟨okP_D (by kernel_rfl), ?_⟩
      (try simp only [VN.down, simprocAttr, e_i64, e16, e17] at hP ⊢); exact hP
     rcases condE h with ⟨b18, h⟩ | ⟨b18, h⟩
     ·refine w_ct (congrArg AV.bool b18) ?_
      simp only [b18, Bool.not_true, Bool.not_false]
      refine ws _ ?_
      exact w_ret (q14 _ (q13 _ (q9 _ (q8 _ (q6 _ (r0 _ (.inl (w_fin [.bool false] rfl (by cases someE h; rfl) (by decide) outs_nil))))))))
     ·refine w_cf (congrArg AV.bool b18) ?_
      simp only [b18, Bool.not_true, Bool.not_false]
      refine w_skip (n14 _ (n13 _ (.inl ?_)))
      refine wr _ ?_
      exact n9 _ (.inr ⟨_, weak_eq rfl, ih14 (IntKind.i64.wrap (v5_14 + 1)) h⟩)
    ·refine w_cf (congrArg AV.bool b12) ?_
     simp only [b12, Bool.not_true, Bool.not_false]
     refine w_ex (x10 0 _ (x9 0 _ (b8 _ (n6 _ (.inl ?_)))))
     refine ws _ ?_
     exact w_ret (r0 _ (.inl (w_fin [.bool true] rfl (by cases someE h; rfl) (by decide) outs_nil)))
  obtain ⟨n, h⟩ := limE h
  exact w_loop (.inr ⟨_, weak_eq rfl, L14 n 0 h⟩)

theorem ok_laws_eqTerm (a0 : impl_Term) (a1 : impl_Term) (r : Bool) (h : laws_eqTerm a0 a1 = some r) : OkAt Cc 111 [e_impl_Term a0, e_impl_Term a1] (.bool r) [] := by
 refine OkAt.of_wpR (fx := [0, 1]) Cc_ok [.tmp 4] [(0, e_impl_Term a0), (1, e_impl_Term a1)] Try.func111 rfl rfl s111 (Nat.le_of_ble_eq_true rfl) rfl rfl (fun Q0 r0 n0 => ?_)
 refine ws _ ?_
 refine w_seq (fun Q2 n2 q2 x2 => ?_)
 refine ws _ ?_
 rcases condE h with ⟨b4, h⟩ | ⟨b4, h⟩
 ·refine w_ct (congrArg AV.bool b4) ?_
  simp only [b4, Bool.not_true, Bool.not_false]
  refine ws _ ?_
  exact w_ret (q2 _ (r0 _ (.inl (w_fin [.bool false] rfl (by cases someE h; rfl) (by decide) outs_nil))))
 ·refine w_cf (congrArg AV.bool b4) ?_
  simp only [b4, Bool.not_true, Bool.not_false]
  refine w_skip (n2 _ (.inl ?_))
  refine w_seq (fun Q6 n6 q6 x6 => ?_)
  refine ws _ ?_
  rcases condE h with ⟨b8, h⟩ | ⟨b8, h⟩
  ·refine w_ct (congrArg AV.bool b8) ?_
   simp only [b8, Bool.not_true, Bool.not_false]
   refine ws _ ?_
   exact w_ret (q6 _ (r0 _ (.inl (w_fin [.bool false] rfl (by cases someE h; rfl) (by decide) outs_nil))))
  ·refine w_cf (congrArg AV.bool b8) ?_
   simp only [b8, Bool.not_true, Bool.not_false]
   refine w_skip (n6 _ (.inl ?_))
   refine ws _ ?_
   exact w_ret (r0 _ (.inl (w_fin [.bool true] rfl (by cases someE h; rfl) (by decide) outs_nil)))

set_option maxHeartbeats 800000 in
theorem ok_laws_eqTermS (a0 : List impl_Term) (a1 : List impl_Term) (r : Bool) (h : laws_eqTermS a0 a1 = some r) : OkAt Cc 35 [.slice (a0.map e_impl_Term), .slice (a1.map e_impl_Term)] (.bool r) [] := by
 refine OkAt.of_wpR (fx := [0, 1]) Cc_ok [.tmp 4] [(0, .slice (a0.map e_impl_Term)), (1, .slice (a1.map e_impl_Term))] Try.func35 rfl rfl s35 (Nat.le_of_ble_eq_true rfl) rfl rfl (fun Q0 r0 n0 => ?_)
 refine ws _ ?_
 refine w_seq (fun Q2 n2 q2 x2 => ?_)
 refine ws _ ?_
 rcases condE h with ⟨b4, h⟩ | ⟨b4, h⟩
 ·refine w_ct (congrArg AV.bool b4) ?_
  simp only [b4, Bool.not_true, Bool.not_false]
  refine ws _ ?_
  exact w_ret (q2 _ (r0 _ (.inl (w_fin [.bool false] rfl (by cases someE h; rfl) (by decide) outs_nil))))
 ·refine w_cf (congrArg AV.bool b4) ?_
  simp only [b4, Bool.not_true, Bool.not_false]
  refine w_skip (n2 _ (.inl ?_))
  refine w_seq (fun Q6 n6 q6 x6 => ?_)
  refine ws _ ?_
  refine w_blk (fun Q8 n8 q8 b8 x8 => ?_)
  have L14 : ∀ (n : Nat) (v5_14 : Int), laws_eqTermS_l14 a0 a1 n v5_14 = some r → lpC Cc c35_15 Q8 (stA [(0, .slice (a0.map e_impl_Term)), (1, .slice (a1.map e_impl_Term)), (5, .int .i64 v5_14)]) := by
   intro m14
   induction m14 with
   | zero => intro v5_14 h; cases (show none = some r from h)
   | succ m14 ih14 =>
    intro v5_14 h
    replace h : laws_eqTermS_b14 (laws_eqTermS_l14 a0 a1 m14) a0 a1 v5_14 = some r := h
    refine lpC_step (fun Q9 n9 q9 x9 => ?_)
    refine w_seq (fun Q10 n10 q10 x10 => ?_)
    refine ws _ ?_
    rcases condE h with ⟨b12, h⟩ | ⟨b12, h⟩
    ·refine w_ct (congrArg AV.bool b12) ?_
     simp only [b12, Bool.not_true, Bool.not_false]
     refine w_skip (n10 _ (.inl ?_))
     refine w_seq (fun Q13 n13 q13 x13 => ?_)
     refine w_blk (fun Q14 n14 q14 b14 x14 => ?_)
     obtain ⟨x1, e16, h⟩ := bindE h
     obtain ⟨x2, e17, h⟩ := bindE h
     obtain ⟨x3, e18, h⟩ := bindE h
     refine w_sdrw rfl (w_absd [(0, .slice (a0.map e_impl_Term)), (1, .slice (a1.map e_impl_Term)), (5, .int .i64 v5_14), (26, .bool (!x3))] (fun P hP => ?_) ?_)
     ·simp only [V1.down, simprocAttr, zz6.down, e16, e17]
      refine w_call1 (ok_laws_eqTerm x1 x2 _ e18) rfl rfl rfl rfl (.inl (by rfl)) ?_
      simp only [V1.down, simprocAttr, zz6.down, e16, e17]
      refine ⟨okP_D (by kernel_rfl), ?_⟩
      (try simp only [VN.down, simprocAttr, e_impl_Term, e16, e17] at hP ⊢); exact hP
     rcases condE h with ⟨b19, h⟩ | ⟨b19, h⟩
     ·refine w_ct (congrArg AV.bool b19) ?_
      simp only [(bnT b19), Bool.not_true, Bool.not_false]
      refine ws _ ?_
      exact w_ret (q14 _ (q13 _ (q9 _ (q8 _ (q6 _ (r0 _ (.inl (w_fin [.bool false] rfl (by cases someE h; rfl) (by decide) outs_nil))))))))
     ·refine w_cf (congrArg AV.bool b19) ?_
      simp only [(bnF b19), Bool.not_true, Bool.not_false]
      refine w_skip (n14 _ (n13 _ (.inl ?_)))
      refine wr _ ?_
      exact n9 _ (.inr ⟨_, weak_eq rfl, ih14 (IntKind.i64.wrap (v5_14 + 1)) h⟩)
    ·refine w_cf (congrArg AV.bool b12) ?_
     simp only [b12, Bool.not_true, Bool.not_false]
     refine w_ex (x10 0 _ (x9 0 _ (b8 _ (n6 _ (.inl ?_)))))
     refine ws _ ?_
     exact w_ret (r0 _ (.inl (w_fin [.bool true] rfl (by cases someE h; rfl) (by decide) outs_nil)))
  obtain ⟨n, h⟩ := limE h
  exact w_loop (.inr ⟨_, weak_eq rfl, L14 n 0 h⟩)

set_option maxHeartbeats 800000 in
theorem ok_laws_eqTermSS (a0 : List (List impl_Term)) (a1 : List (List impl_Term)) (r : Bool) (h : laws_eqTermSS a0 a1 = some r) : OkAt Cc 295 [.slice (a0.map e_s_impl_Term), .slice (a1.map e_s_impl_Term)] (.bool r) [] := by
 refine OkAt.of_wpR (fx := [0, 1]) Cc_ok [.tmp 4] [(0, .slice (a0.map e_s_impl_Term)), (1, .slice (a1.map e_s_impl_Term))] Try.func295 rfl rfl s295 (Nat.le_of_ble_eq_true rfl) rfl rfl (fun Q0 r0 n0 => ?_)
 refine ws _ ?_
 refine w_seq (fun Q2 n2 q2 x2 => ?_)
 refine ws _ ?_
 rcases condE h with ⟨b4, h⟩ | ⟨b4, h⟩
 ·refine w_ct (congrArg AV.bool b4) ?_
  simp only [b4, Bool.not_true, Bool.not_false]
  refine ws _ ?_
  exact w_ret (q2 _ (r0 _ (.inl (w_fin [.bool false] rfl (by cases someE h; rfl) (by decide) outs_nil))))
 ·refine w_cf (congrArg AV.bool b4) ?_
  simp only [b4, Bool.not_true, Bool.not_false]
  refine w_skip (n2 _ (.inl ?_))
  refine w_seq (fun Q6 n6 q6 x6 => ?_)
  refine ws _ ?_
  refine w_blk (fun Q8 n8 q8 b8 x8 => ?_)
  have L14 : ∀ (n : Nat) (v5_14 : Int), laws_eqTermSS_l14 a0 a1 n v5_14 = some r → lpC Cc c295_15 Q8 (stA [(0, .slice (a0.map e_s_impl_Term)), (1, .slice (a1.map e_s_impl_Term)), (5, .int .i64 v5_14)]) := by
   intro m14
   induction m14 with
   | zero => intro v5_14 h; cases (show none = some r from h)
   | succ m14 ih14 =>
    intro v5_14 h
    replace h : laws_eqTermSS_b14 (laws_eqTermSS_l14 a0 a1 m14) a0 a1 v5_14 = some r := h
    refine lpC_step (fun Q9 n9 q9 x9 => ?_)
    refine w_seq (fun Q10 n10 q10 x10 => ?_)
    refine ws _ ?_
    rcases condE h with ⟨b12, h⟩ | ⟨b12, h⟩
    ·refine w_ct (congrArg AV.bool b12) ?_
     simp only [b12, Bool.not_true, Bool.not_false]
     refine w_skip (n10 _ (.inl ?_))
     refine w_seq (fun Q13 n13 q13 x13 => ?_)
     refine w_blk (fun Q14 n14 q14 b14 x14 => ?_)
     obtain ⟨x1, e16, h⟩ := bindE h
     obtain ⟨x2, e17, h⟩ := bindE h
     obtain ⟨x3, e18, h⟩ := bindE h
     refine w_sdrw rfl (w_absd [(0, .slice (a0.map e_s_impl_Term)), (1, .slice (a1.map e_s_impl_Term)), (5, .int .i64 v5_14), (26, .bool (!x3))] (fun P hP => ?_) ?_)
     ·simp only [V1.down, simprocAttr, tt2, tt40, tt131, tt195, e_impl_Term, e_s_impl_Term, e16, e17]
      refine w_call1 (ok_laws_eqTermS x1 x2 _ e18) rfl rfl rfl rfl (.inl (by rfl)) ?_
      simp only [V1.down, simprocAttr, tt2, tt40, tt131, tt195, e_impl_Term, e_s_impl_Term, e16, e17]
      refine ⟨okP_D (by kernel_rfl), ?_⟩
      (try simp only [VN.down, simprocAttr, e_impl_Term, e_s_impl_Term, e16, e17] at hP ⊢); exact hP
     rcases condE h with ⟨b19, h⟩ | ⟨b19, h⟩
     ·refine w_ct (congrArg AV.bool b19) ?_
      simp only [(bnT b19), Bool.not_true, Bool.not_false]
      refine ws _ ?_
      exact w_ret (q14 _ (q13 _ (q9 _ (q8 _ (q6 _ (r0 _ (.inl (w_fin [.bool false] rfl (by cases someE h; rfl) (by decide) outs_nil))))))))
     ·refine w_cf (congrArg AV.bool b19) ?_
      simp only [(bnF b19), Bool.not_true, Bool.not_false]
      refine w_skip (n14 _ (n13 _ (.inl ?_)))
      refine wr _ ?_
      exact n9 _ (.inr ⟨_, weak_eq rfl, ih14 (IntKind.i64.wrap (v5_14 + 1)) h⟩)
    ·refine w_cf (congrArg AV.bool b12) ?_
     simp only [b12, Bool.not_true, Bool.not_false]
     refine w_ex (x10 0 _ (x9 0 _ (b8 _ (n6 _ (.inl ?_)))))
     refine ws _ ?_
     exact w_ret (r0 _ (.inl (w_fin [.bool true] rfl (by cases someE h; rfl) (by decide) outs_nil)))
  obtain ⟨n, h⟩ := limE h
  exact w_loop (.inr ⟨_, weak_eq rfl, L14 n 0 h⟩)

theorem ok_laws_eqSummand (a0 : impl_Summand) (a1 : impl_Summand) (r : Bool) (h : laws_eqSummand a0 a1 = some r) : OkAt Cc 239 [e_impl_Summand a0, e_impl_Summand a1] (.bool r) [] := by
 refine OkAt.of_wpR (fx := [0, 1]) Cc_ok [.tmp 4] [(0, e_impl_Summand a0), (1, e_impl_Summand a1)] Try.func239 rfl rfl s239 (Nat.le_of_ble_eq_true rfl) rfl rfl (fun Q0 r0 n0 => ?_)
 refine ws _ ?_
 refine w_seq (fun Q2 n2 q2 x2 => ?_)
 obtain ⟨x1, e4, h⟩ := bindE h
 refine wsc (ok_laws_eqInt64S a0.Sums a1.Sums _ e4) _ ?_
 rcases condE h with ⟨b5, h⟩ | ⟨b5, h⟩
 ·refine w_ct (congrArg AV.bool b5) ?_
  simp only [(bnT b5), Bool.not_true, Bool.not_false]
  refine ws _ ?_
  exact w_ret (q2 _ (r0 _ (.inl (w_fin [.bool false] rfl (by cases someE h; rfl) (by decide) outs_nil))))
 ·refine w_cf (congrArg AV.bool b5) ?_
  simp only [(bnF b5), Bool.not_true, Bool.not_false]
  refine w_skip (n2 _ (.inl ?_))
  refine w_seq (fun Q7 n7 q7 x7 => ?_)
  obtain ⟨x2, e9, h⟩ := bindE h
  refine wsc (ok_laws_eqTermS a0.Guard a1.Guard _ e9) _ ?_
  rcases condE h with ⟨b10, h⟩ | ⟨b10, h⟩
  ·refine w_ct (congrArg AV.bool b10) ?_
   simp only [(bnT b10), Bool.not_true, Bool.not_false]
   refine ws _ ?_
   exact w_ret (q7 _ (r0 _ (.inl (w_fin [.bool false] rfl (by cases someE h; rfl) (by decide) outs_nil))))
  ·refine w_cf (congrArg AV.bool b10) ?_
   simp only [(bnF b10), Bool.not_true, Bool.not_false]
   refine w_skip (n7 _ (.inl ?_))
   refine w_seq (fun Q12 n12 q12 x12 => ?_)
   refine ws _ ?_
   rcases condE h with ⟨b14, h⟩ | ⟨b14, h⟩
   ·refine w_ct (congrArg AV.bool b14) ?_
    simp only [b14, Bool.not_true, Bool.not_false]
    refine ws _ ?_
    exact w_ret (q12 _ (r0 _ (.inl (w_fin [.bool false] rfl (by cases someE h; rfl) (by decide) outs_nil))))
   ·refine w_cf (congrArg AV.bool b14) ?_
    simp only [b14, Bool.not_true, Bool.not_false]
    refine w_skip (n12 _ (.inl ?_))
    refine w_seq (fun Q16 n16 q16 x16 => ?_)
    obtain ⟨x3, e18, h⟩ := bindE h
    refine wsc (ok_laws_eqTermSS a0.Arguments a1.Arguments _ e18) _ ?_
    rcases condE h with ⟨b19, h⟩ | ⟨b19, h⟩
    ·refine w_ct (congrArg AV.bool b19) ?_
     simp only [(bnT b19), Bool.not_true, Bool.not_false]
     refine ws _ ?_
     exact w_ret (q16 _ (r0 _ (.inl (w_fin [.bool false] rfl (by cases someE h; rfl) (by decide) outs_nil))))
    ·refine w_cf (congrArg AV.bool b19) ?_
     simp only [(bnF b19), Bool.not_true, Bool.not_false]
     refine w_skip (n16 _ (.inl ?_))
     refine w_seq (fun Q21 n21 q21 x21 => ?_)
     obtain ⟨x4, e23, h⟩ := bindE h
     refine wsc (ok_laws_eqTermSS a0.Next a1.Next _ e23) _ ?_
     rcases condE h with ⟨b24, h⟩ | ⟨b24, h⟩
     ·refine w_ct (congrArg AV.bool b24) ?_
      simp only [(bnT b24), Bool.not_true, Bool.not_false]
      refine ws _ ?_
      exact w_ret (q21 _ (r0 _ (.inl (w_fin [.bool false] rfl (by cases someE h; rfl) (by decide) outs_nil))))
     ·refine w_cf (congrArg AV.bool b24) ?_
      simp only [(bnF b24), Bool.not_true, Bool.not_false]
      refine w_skip (n21 _ (.inl ?_))
      refine ws _ ?_
      exact w_ret (r0 _ (.inl (w_fin [.bool true] rfl (by cases someE h; rfl) (by decide) outs_nil)))

set_option maxHeartbeats 800000 in
theorem ok_laws_eqSummandS (a0 : List impl_Summand) (a1 : List impl_Summand) (r : Bool) (h : laws_eqSummandS a0 a1 = some r) : OkAt Cc 169 [.slice (a0.map e_impl_Summand), .slice (a1.map e_impl_Summand)] (.bool r) [] := by
 refine OkAt.of_wpR (fx := [0, 1]) Cc_ok [.tmp 4] [(0, .slice (a0.map e_impl_Summand)), (1, .slice (a1.map e_impl_Summand))] Try.func169 rfl rfl s169 (Nat.le_of_ble_eq_true rfl) rfl rfl (fun Q0 r0 n0 => ?_)
 refine ws _ ?_
 refine w_seq (fun Q2 n2 q2 x2 => ?_)
 refine ws _ ?_
 rcases condE h with ⟨b4, h⟩ | ⟨b4, h⟩
 ·refine w_ct (congrArg AV.bool b4) ?_
  simp only [b4, Bool.not_true, Bool.not_false]
  refine ws _ ?_
  exact w_ret (q2 _ (r0 _ (.inl (w_fin [.bool false] rfl (by cases someE h; rfl) (by decide) outs_nil))))
 ·refine w_cf (congrArg AV.bool b4) ?_
  simp only [b4, Bool.not_true, Bool.not_false]
  refine w_skip (n2 _ (.inl ?_))
  refine w_seq (fun Q6 n6 q6 x6 => ?_)
  refine ws _ ?_
  refine w_blk (fun Q8 n8 q8 b8 x8 => ?_)
  have L14 : ∀ (n : Nat) (v5_14 : Int), laws_eqSummandS_l14 a0 a1 n v5_14 = some r → lpC Cc c169_15 Q8 (stA [(0, .slice (a0.map e_impl_Summand)), (1, .slice (a1.map e_impl_Summand)), (5, .int .i64 v5_14)]) := by
   intro m14
   induction m14 with
   | zero => intro v5_14 h; cases (show none = some r from h)
   | succ m14 ih14 =>
    intro v5_14 h
    replace h : laws_eqSummandS_b14 (laws_eqSummandS_l14 a0 a1 m14) a0 a1 v5_14 = some r := h
    refine lpC_step (fun Q9 n9 q9 x9 => ?_)
    refine w_seq (fun Q10 n10 q10 x10 => ?_)
    refine ws _ ?_
    rcases condE h with ⟨b12, h⟩ | ⟨b12, h⟩
    ·refine w_ct (congrArg AV.bool b12) ?_
     simp only [b12, Bool.not_true, Bool.not_false]
     refine w_skip (n10 _ (.inl ?_))
     refine w_seq (fun Q13 n13 q13 x13 => ?_)
     refine w_blk (fun Q14 n14 q14 b14 x14 => ?_)
     obtain ⟨x1, e16, h⟩ := bindE h
     obtain ⟨x2, e17, h⟩ := bindE h
     obtain ⟨x3, e18, h⟩ := bindE h
     refine w_sdrw rfl (w_absd [(0, .slice (a0.map e_impl_Summand)), (1, .slice (a1.map e_impl_Summand)), (5, .int .i64 v5_14), (26, .bool (!x3))] (fun P hP => ?_) ?_)
     ·simp only [V1.down, simprocAttr, tt2, tt9, tt40, tt68, tt88, tt131, tt195, tt197, e_i64, e_impl_Summand, e_impl_Term, e_s_impl_Term, e16, e17]
      refine w_call1 (ok_laws_eqSummand x1 x2 _ e18) rfl rfl rfl rfl (.inl (by rfl)) ?_
      simp only [V1.down, simprocAttr, tt2, tt9, tt40, tt68, tt88, tt131, tt195, tt197, e_i64, e_impl_Summand, e_impl_Term, e_s_impl_Term, e16, e17]
      refine ⟨okP_D (by kernel_rfl), ?_⟩
      (try simp only [VN.down, simprocAttr, zz3.down, e16, e17] at hP ⊢); exact hP
     rcases condE h with ⟨b19, h⟩ | ⟨b19, h⟩
     ·refine w_ct (congrArg AV.bool b19) ?_
      simp only [(bnT b19), Bool.not_true, Bool.not_false]
      refine ws _ ?_
      exact w_ret (q14 _ (q13 _ (q9 _ (q8 _ (q6 _ (r0 _ (.inl (w_fin [.bool false] rfl (by cases someE h; rfl) (by decide) outs_nil))))))))
     ·refine w_cf (congrArg AV.bool b19) ?_
      simp only [(bnF b19), Bool.not_true, Bool.not_false]
      refine w_skip (n14 _ (n13 _ (.inl ?_)))
      refine wr _ ?_
      exact n9 _ (.inr ⟨_, weak_eq rfl, ih14 (IntKind.i64.wrap (v5_14 + 1)) h⟩)
    ·refine w_cf (congrArg AV.bool b12) ?_
     simp only [b12, Bool.not_true, Bool.not_false]
     refine w_ex (x10 0 _ (x9 0 _ (b8 _ (n6 _ (.inl ?_)))))
     refine ws _ ?_
     exact w_ret (r0 _ (.inl (w_fin [.bool true] rfl (by cases someE h; rfl) (by decide) outs_nil)))
  obtain ⟨n, h⟩ := limE h
  exact w_loop (.inr ⟨_, weak_eq rfl, L14 n 0 h⟩)

theorem ok_laws_eqLinear (a0 : impl_Linear) (a1 : impl_Linear) (r : Bool) (h : laws_eqLinear a0 a1 = some r) : OkAt Cc 76 [e_impl_Linear a0, e_impl_Linear a1] (.bool r) [] := by
 refine OkAt.of_wpR (fx := [0, 1]) Cc_ok [.tmp 4] [(0, e_impl_Linear a0), (1, e_impl_Linear a1)] Try.func76 rfl rfl s76 (Nat.le_of_ble_eq_true rfl) rfl rfl (fun Q0 r0 n0 => ?_)
 refine ws _ ?_
 refine w_seq (fun Q2 n2 q2 x2 => ?_)
 refine ws _ ?_
 rcases condE h with ⟨b4, h⟩ | ⟨b4, h⟩
 ·refine w_ct (congrArg AV.bool b4) ?_
  simp only [b4, Bool.not_true, Bool.not_false]
  refine ws _ ?_
  exact w_ret (q2 _ (r0 _ (.inl (w_fin [.bool false] rfl (by cases someE h; rfl) (by decide) outs_nil))))
 ·refine w_cf (congrArg AV.bool b4) ?_
  simp only [b4, Bool.not_true, Bool.not_false]
  refine w_skip (n2 _ (.inl ?_))
  refine w_seq (fun Q6 n6 q6 x6 => ?_)
  obtain ⟨x1, e8, h⟩ := bindE h
  refine wsc (ok_laws_eqInt64S a0.Start a1.Start _ e8) _ ?_
  rcases condE h with ⟨b9, h⟩ | ⟨b9, h⟩
  ·refine w_ct (congrArg AV.bool b9) ?_
   simp only [(bnT b9), Bool.not_true, Bool.not_false]
   refine ws _ ?_
   exact w_ret (q6 _ (r0 _ (.inl (w_fin [.bool false] rfl (by cases someE h; rfl) (by decide) outs_nil))))
  ·refine w_cf (congrArg AV.bool b9) ?_
   simp only [(bnF b9), Bool.not_true, Bool.not_false]
   refine w_skip (n6 _ (.inl ?_))
   refine w_seq (fun Q11 n11 q11 x11 => ?_)
   obtain ⟨x2, e13, h⟩ := bindE h
   refine wsc (ok_laws_eqSummandS a0.Summands a1.Summands _ e13) _ ?_
   rcases condE h with ⟨b14, h⟩ | ⟨b14, h⟩
   ·refine w_ct (congrArg AV.bool b14) ?_
    simp only [(bnT b14), Bool.not_true, Bool.not_false]
    refine ws _ ?_
    exact w_ret (q11 _ (r0 _ (.inl (w_fin [.bool false] rfl (by cases someE h; rfl) (by decide) outs_nil))))
   ·refine w_cf (congrArg AV.bool b14) ?_
    simp only [(bnF b14), Bool.not_true, Bool.not_false]
    refine w_skip (n11 _ (.inl ?_))
    refine ws _ ?_
    exact w_ret (r0 _ (.inl (w_fin [.bool true] rfl (by cases someE h; rfl) (by decide) outs_nil)))

theorem ok_laws_markInt64S (a0 : List Int) (a1 : Int) (r : Int × (List Int)) (h : laws_markInt64S a0 a1 = some r) : OkAt Cc 61 [.uslice 1 (a0.map e_i64), .int .i64 a1] (.int .i64 r.1) [.uslice 1 (r.2.map e_i64), .hole] := by
 refine OkAt.of_wpR (fx := [0]) Cc_ok [.tmp 4] [(0, .uslice 1 (a0.map e_i64)), (1, .int .i64 a1)] Try.func61 rfl rfl s61 (Nat.le_of_ble_eq_true rfl) rfl rfl (fun Q0 r0 n0 => ?_)
 refine ws _ ?_
 refine w_seq (fun Q2 n2 q2 x2 => ?_)
 refine ws _ ?_
 refine w_blk (fun Q4 n4 q4 b4 x4 => ?_)
 have L6 : ∀ (n : Nat) (v0_6 : List Int) (v1_6 : Int) (v5_6 : Int), laws_markInt64S_l6 n v0_6 v1_6 v5_6 = some r → lpC Cc c61_7 Q4 (stA [(0, .uslice 1 (v0_6.map e_i64)), (1, .int .i64 v1_6), (5, .int .i64 v5_6)]) := by
  intro m6
  induction m6 with
  | zero => intro v0_6 v1_6 v5_6 h; cases (show none = some r from h)
  | succ m6 ih6 =>
   intro v0_6 v1_6 v5_6 h
   replace h : laws_markInt64S_b6 (laws_markInt64S_l6 m6) v0_6 v1_6 v5_6 = some r := h
   refine lpC_step (fun Q5 n5 q5 x5 => ?_)
   refine w_seq (fun Q6 n6 q6 x6 => ?_)
   refine ws _ ?_
   rcases condE h with ⟨b8, h⟩ | ⟨b8, h⟩
   ·refine w_ct (congrArg AV.bool b8) ?_
    simp only [b8, Bool.not_true, Bool.not_false]
    refine w_skip (n6 _ (.inl ?_))
    refine w_seq (fun Q9 n9 q9 x9 => ?_)
    refine w_blk (fun Q10 n10 q10 b10 x10 => ?_)
    obtain ⟨x1, e12, h⟩ := bindE h
    refine w_sreg (w_abs [(0, .uslice 1 ((List.set v0_6 (Int.toNat v5_6) v1_6).map e_i64)), (1, .int .i64 v1_6), (5, .int .i64 v5_6)] (fun P hP => ?_) ?_)
    ·simp only [V0.down, simprocAttr, tt2, tt68, e_i64, e12, getI_get e12, own_s, stoS]
     (try simp only [VN.down, simprocAttr, e_i64, e12, getI_get e12, own_s, stoS] at hP ⊢); exact hP
    refine wr [(0, .uslice 1 ((List.set v0_6 (Int.toNat v5_6) v1_6).map e_i64)), (1, .int .i64 (IntKind.i64.wrap (v1_6 + 1))), (5, .int .i64 v5_6)] ?_
    refine n10 _ (n9 _ (.inl ?_))
    refine wr [(0, .uslice 1 ((List.set v0_6 (Int.toNat v5_6) v1_6).map e_i64)), (1, .int .i64 (IntKind.i64.wrap (v1_6 + 1))), (5, .int .i64 (IntKind.i64.wrap (v5_6 + 1)))] ?_
    exact n5 _ (.inr ⟨_, weak_eq rfl, ih6 (List.set v0_6 (Int.toNat v5_6) v1_6) (IntKind.i64.wrap (v1_6 + 1)) (IntKind.i64.wrap (v5_6 + 1)) h⟩)
   ·refine w_cf (congrArg AV.bool b8) ?_
    simp only [b8, Bool.not_true, Bool.not_false]
    refine w_ex (x6 0 _ (x5 0 _ (b4 _ (n2 _ (.inl ?_)))))
    refine ws _ ?_
    exact w_ret (r0 _ (.inl (w_fin [.int .i64 v1_6] rfl (by cases someE h; rfl) (by decide) (outs_of (out_is (by cases someE h; rfl) rfl rfl rfl (out_no (out_end)))))))
 obtain ⟨n, h⟩ := limE h
 exact w_loop (.inr ⟨_, weak_eq rfl, L6 n a0 a1 0 h⟩)

theorem ok_laws_markTermS (a0 : List impl_Term) (a1 : Int) (r : Int × (List impl_Term)) (h : laws_markTermS a0 a1 = some r) : OkAt Cc 60 [.uslice 2 (a0.map e_impl_Term), .int .i64 a1] (.int .i64 r.1) [.uslice 2 (r.2.map e_impl_Term), .hole] := by
 refine OkAt.of_wpR (fx := [0]) Cc_ok [.tmp 4] [(0, .uslice 2 (a0.map e_impl_Term)), (1, .int .i64 a1)] Try.func60 rfl rfl s60 (Nat.le_of_ble_eq_true rfl) rfl rfl (fun Q0 r0 n0 => ?_)
 refine ws _ ?_
 refine w_seq (fun Q2 n2 q2 x2 => ?_)
 refine ws _ ?_
 refine w_blk (fun Q4 n4 q4 b4 x4 => ?_)
 have L6 : ∀ (n : Nat) (v0_6 : List impl_Term) (v1_6 : Int) (v5_6 : Int), laws_markTermS_l6 n v0_6 v1_6 v5_6 = some r → lpC Cc c60_7 Q4 (stA [(0, .uslice 2 (v0_6.map e_impl_Term)), (1, .int .i64 v1_6), (5, .int .i64 v5_6)]) := by
  intro m6
  induction m6 with
  | zero => intro v0_6 v1_6 v5_6 h; cases (show none = some r from h)
  | succ m6 ih6 =>
   intro v0_6 v1_6 v5_6 h
   replace h : laws_markTermS_b6 (laws_markTermS_l6 m6) v0_6 v1_6 v5_6 = some r := h
   refine lpC_step (fun Q5 n5 q5 x5 => ?_)
   refine w_seq (fun Q6 n6 q6 x6 => ?_)
   refine ws _ ?_
   rcases condE h with ⟨b8, h⟩ | ⟨b8, h⟩
   ·refine w_ct (congrArg AV.bool b8) ?_
    simp only [b8, Bool.not_true, Bool.not_false]
    refine w_skip (n6 _ (.inl ?_))
    refine w_seq (fun Q9 n9 q9 x9 => ?_)
    refine w_blk (fun Q10 n10 q10 b10 x10 => ?_)
    obtain ⟨x1, e12, h⟩ := bindE h
    refine w_sreg (w_abs [(0, .uslice 2 ((List.set v0_6 (Int.toNat v5_6) (impl_Term.mk v1_6 x1.Value)).map e_impl_Term)), (1, .int .i64 v1_6), (5, .int .i64 v5_6)] (fun P hP => ?_) ?_)
    ·simp only [V0.down, simprocAttr, zz6.down, e12, getI_get e12, own_s, stoS]
     (try simp only [VN.down, simprocAttr, e_impl_Term, e12, getI_get e12, own_s, stoS] at hP ⊢); exact hP
    refine ws [(0, .uslice 2 ((List.set v0_6 (Int.toNat v5_6) (impl_Term.mk v1_6 x1.Value)).map e_impl_Term)), (1, .int .i64 (IntKind.i64.wrap (v1_6 + 1))), (5, .int .i64 v5_6)] ?_
    obtain ⟨x2, e15, h⟩ := bindE h
    refine w_sreg (w_abs [(0, .uslice 2 ((List.set (List.set v0_6 (Int.toNat v5_6) (impl_Term.mk v1_6 x1.Value)) (Int.toNat v5_6) (impl_Term.mk x2.Kind (IntKind.i64.wrap (v1_6 + 1)))).map e_impl_Term)), (1, .int .i64 (IntKind.i64.wrap (v1_6 + 1))), (5, .int .i64 v5_6)] (fun P hP => ?_) ?_)
    ·simp only [V0.down, simprocAttr, zz6.down, e15, getI_get e15, own_s, stoS]
     (try simp only [VN.down, simprocAttr, e_impl_Term, e15, getI_get e15, own_s, stoS] at hP ⊢); exact hP
    refine wr [(0, .uslice 2 ((List.set (List.set v0_6 (Int.toNat v5_6) (impl_Term.mk v1_6 x1.Value)) (Int.toNat v5_6) (impl_Term.mk x2.Kind (IntKind.i64.wrap (v1_6 + 1)))).map e_impl_Term)), (1, .int .i64 (IntKind.i64.wrap ((IntKind.i64.wrap (v1_6 + 1)) + 1))), (5, .int .i64 v5_6)] ?_
    refine n10 _ (n9 _ (.inl ?_))
    refine wr [(0, .uslice 2 ((List.set (List.set v0_6 (Int.toNat v5_6) (impl_Term.mk v1_6 x1.Value)) (Int.toNat v5_6) (impl_Term.mk x2.Kind (IntKind.i64.wrap (v1_6 + 1)))).map e_impl_Term)), (1, .int .i64 (IntKind.i64.wrap ((IntKind.i64.wrap (v1_6 + 1)) + 1))), (5, .int .i64 (IntKind.i64.wrap (v5_6 + 1)))] ?_
    exact n5 _ (.inr ⟨_, weak_eq rfl, ih6 (List.set (List.set v0_6 (Int.toNat v5_6) (impl_Term.mk v1_6 x1.Value)) (Int.toNat v5_6) (impl_Term.mk x2.Kind (IntKind.i64.wrap (v1_6 + 1)))) (IntKind.i64.wrap ((IntKind.i64.wrap (v1_6 + 1)) + 1)) (IntKind.i64.wrap (v5_6 + 1)) h⟩)
   ·refine w_cf (congrArg AV.bool b8) ?_
    simp only [b8, Bool.not_true, Bool.not_false]
    refine w_ex (x6 0 _ (x5 0 _ (b4 _ (n2 _ (.inl ?_)))))
    refine ws _ ?_
    exact w_ret (r0 _ (.inl (w_fin [.int .i64 v1_6] rfl (by cases someE h; rfl) (by decide) (outs_of (out_is (by cases someE h; rfl) rfl rfl rfl (out_no (out_end)))))))
 obtain ⟨n, h⟩ := limE h
 exact w_loop (.inr ⟨_, weak_eq rfl, L6 n a0 a1 0 h⟩)

theorem ok_laws_markText (a0 : Int) (r : (List UInt8)) (h : laws_markText a0 = some r) : OkAt Cc 114 [.int .i64 a0] (.str r) [] := by
 refine OkAt.of_wpR (fx := []) Cc_ok [.tmp 2] [(0, .int .i64 a0)] Try.func114 rfl rfl s114 (Nat.le_of_ble_eq_true rfl) rfl rfl (fun Q0 r0 n0 => ?_)
 refine ws _ ?_
 refine w_seq (fun Q2 n2 q2 x2 => ?_)
 refine ws _ ?_
 rcases condE h with ⟨b4, h⟩ | ⟨b4, h⟩
 ·refine w_ct (congrArg AV.bool b4) ?_
  simp only [b4, Bool.not_true, Bool.not_false]
  refine ws _ ?_
  exact w_ret (q2 _ (r0 _ (.inl (w_fin [.str ([109, 48] : List UInt8)] rfl (by cases someE h; rfl) (by decide) outs_nil))))
 ·refine w_cf (congrArg AV.bool b4) ?_
  simp only [b4, Bool.not_true, Bool.not_false]
  refine w_skip (n2 _ (.inl ?_))
  refine ws _ ?_
  refine w_seq (fun Q7 n7 q7 x7 => ?_)
  refine w_blk (fun Q8 n8 q8 b8 x8 => ?_)
  have L14 : ∀ (n : Nat) (v0_14 : Int) (v3_14 : List UInt8), laws_markText_l14 n v0_14 v3_14 = some r → lpC Cc c114_15 Q8 (stA [(0, .int .i64 v0_14), (3, .str v3_14)]) := by
   intro m14
   induction m14 with
   | zero => intro v0_14 v3_14 h; cases (show none = some r from h)
   | succ m14 ih14 =>
    intro v0_14 v3_14 h
    replace h : laws_markText_b14 (laws_markText_l14 m14) v0_14 v3_14 = some r := h
    refine lpC_step (fun Q9 n9 q9 x9 => ?_)
    refine w_seq (fun Q10 n10 q10 x10 => ?_)
    refine ws _ ?_
    rcases condE h with ⟨b12, h⟩ | ⟨b12, h⟩
    ·refine w_ct (congrArg AV.bool b12) ?_
     simp only [b12, Bool.not_true, Bool.not_false]
     refine w_skip (n10 _ (.inl ?_))
     refine w_blk (fun Q13 n13 q13 b13 x13 => ?_)
     obtain ⟨u16, e15, h⟩ := bindE h
     (try simp only [List.length_append, List.length_cons, List.length_nil, List.length_map, List.length_replicate, Nat.zero_add, Nat.add_zero, Nat.reduceAdd] at e15)
     refine w_sreg (w_abs [(0, .int .i64 v0_14), (3, .str ([(toB (IntKind.i64.wrap (48 + (Int.tmod v0_14 10))))] ++ v3_14))] (fun P hP => ?_) ?_)
     ·simp only [V0.down, simprocAttr, tt5, tt107, byteAV, @bnI_rem' .i64 10 (by decide), @cvt_i' Cc 3 5 .u8 rfl rfl, (show ∀ s, bsl Cc s 107 1 [(0, .int .u8 (IntKind.u8.wrap (IntKind.i64.wrap (48 + (Int.tmod v0_14 10)))))] = some (.uslice 1 [.int .u8 (IntKind.u8.wrap (IntKind.i64.wrap (48 + (Int.tmod v0_14 10))))], s) from fun s => by kernel_rfl), (@cvt_bs' Cc 107 9 5 rfl rfl rfl).2.2, bytesOf_s, strU_s, e15, bnS_cat, addR_s]
      (try simp only [VN.down, simprocAttr, byteAV, @bnI_rem' .i64 10 (by decide), @cvt_i' Cc 3 5 .u8 rfl rfl, (show ∀ s, bsl Cc s 107 1 [(0, .int .u8 (IntKind.u8.wrap (IntKind.i64.wrap (48 + (Int.tmod v0_14 10)))))] = some (.uslice 1 [.int .u8 (IntKind.u8.wrap (IntKind.i64.wrap (48 + (Int.tmod v0_14 10))))], s) from fun s => by kernel_rfl), (@cvt_bs' Cc 107 9 5 rfl rfl rfl).2.2, bytesOf_s, strU_s, e15, bnS_cat, addR_s] at hP ⊢); exact hP
     refine wrf (@bnI_quo' .i64 10 (by decide)) [(0, .int .i64 (IntKind.i64.wrap (Int.tdiv v0_14 10))), (3, .str ([(toB (IntKind.i64.wrap (48 + (Int.tmod v0_14 10))))] ++ v3_14))] ?_
     exact n13 _ (n9 _ (.inr ⟨_, weak_eq rfl, ih14 (IntKind.i64.wrap (Int.tdiv v0_14 10)) ([(toB (IntKind.i64.wrap (48 + (Int.tmod v0_14 10))))] ++ v3_14) h⟩))
    ·refine w_cf (congrArg AV.bool b12) ?_
     simp only [b12, Bool.not_true, Bool.not_false]
     refine w_ex (x10 0 _ (x9 0 _ (b8 _ (n7 _ (.inl ?_)))))
     obtain ⟨u18, e18, h⟩ := bindE h
     (try simp only [List.length_append, List.length_cons, List.length_nil, List.length_map, List.length_replicate, Nat.zero_add, Nat.add_zero, Nat.reduceAdd] at e18)
     refine w_sreg (w_abs [(2, .str (([109] : List UInt8) ++ v3_14))] (fun P hP => ?_) ?_)
     ·simp only [V0.down, simprocAttr, e18, bnS_cat, addR_s]
      (try simp only [VN.down, simprocAttr, e18, bnS_cat, addR_s] at hP ⊢); exact hP
     exact w_ret (r0 _ (.inl (w_fin [.str (([109] : List UInt8) ++ v3_14)] rfl (by cases someE h; rfl) (by decide) outs_nil)))
  obtain ⟨n, h⟩ := limE h
  exact w_loop (.inr ⟨_, weak_eq rfl, L14 n a0 ([] : List UInt8) h⟩)

theorem ok_laws_markTermSS (a0 : List (List impl_Term)) (a1 : Int) (r : Int × (List (List impl_Term))) (h : laws_markTermSS a0 a1 = some r) : OkAt Cc 240 [.uslice 1 (a0.map u_s_impl_Term), .int .i64 a1] (.int .i64 r.1) [.uslice 1 (r.2.map u_s_impl_Term), .hole] := by
 refine OkAt.of_wpR (fx := [0]) Cc_ok [.tmp 4] [(0, .uslice 1 (a0.map u_s_impl_Term)), (1, .int .i64 a1)] Try.func240 rfl rfl s240 (Nat.le_of_ble_eq_true rfl) rfl rfl (fun Q0 r0 n0 => ?_)
 refine ws _ ?_
 refine w_seq (fun Q2 n2 q2 x2 => ?_)
 refine ws _ ?_
 refine w_blk (fun Q4 n4 q4 b4 x4 => ?_)
 have L6 : ∀ (n : Nat) (v0_6 : List (List impl_Term)) (v1_6 : Int) (v5_6 : Int), laws_markTermSS_l6 n v0_6 v1_6 v5_6 = some r → lpC Cc c240_7 Q4 (stA [(0, .uslice 1 (v0_6.map u_s_impl_Term)), (1, .int .i64 v1_6), (5, .int .i64 v5_6)]) := by
  intro m6
  induction m6 with
  | zero => intro v0_6 v1_6 v5_6 h; cases (show none = some r from h)
  | succ m6 ih6 =>
   intro v0_6 v1_6 v5_6 h
   replace h : laws_markTermSS_b6 (laws_markTermSS_l6 m6) v0_6 v1_6 v5_6 = some r := h
   refine lpC_step (fun Q5 n5 q5 x5 => ?_)
   refine w_seq (fun Q6 n6 q6 x6 => ?_)
   refine ws _ ?_
   rcases condE h with ⟨b8, h⟩ | ⟨b8, h⟩
   ·refine w_ct (congrArg AV.bool b8) ?_
    simp only [b8, Bool.not_true, Bool.not_false]
    refine w_skip (n6 _ (.inl ?_))
    refine w_seq (fun Q9 n9 q9 x9 => ?_)
    refine w_blk (fun Q10 n10 q10 b10 x10 => ?_)
    obtain ⟨x1, e12, h⟩ := bindE h
    obtain ⟨x2, e13, h⟩ := bindE h
    refine w_reg (w_abs [(0, .uslice 1 ((List.set v0_6 (Int.toNat v5_6) x2.2).map u_s_impl_Term)), (1, .int .i64 x2.1), (5, .int .i64 v5_6)] (fun P hP => ?_) ?_)
    ·simp only [V0.down, simprocAttr, tt2, tt40, tt131, tt195, e_impl_Term, u_s_impl_Term, e12, getI_get e12]
     refine w_callp0 [⟨.h 0 [Int.toNat v5_6], true, _, _⟩, ⟨.int .i64 v1_6, false, _, .hole⟩] (ok_laws_markTermS x1 v1_6 _ e13) rfl rfl rfl (by simp only [V0.down, simprocAttr, tt2, tt40, tt131, tt195, e_impl_Term, u_s_impl_Term, e12, getI_get e12, okp_s, own_r, view_s, view_h, viewH_s, share_s, or_true, true_or, @shares_map _ e_impl_Term e_impl_Term (fun _ => sh_e_impl_Term _)]) rfl rfl (.inl rfl) ?_
     simp only [V0.down, simprocAttr, tt2, tt40, tt131, tt195, e_impl_Term, u_s_impl_Term, e12, getI_get e12, gv_s, (get_set (getI_get e12)), set_mset]
     (try simp only [VN.down, simprocAttr, e_impl_Term, u_s_impl_Term, e12, getI_get e12] at hP ⊢); exact hP
    refine n10 _ (n9 _ (.inl ?_))
    refine wr [(0, .uslice 1 ((List.set v0_6 (Int.toNat v5_6) x2.2).map u_s_impl_Term)), (1, .int .i64 x2.1), (5, .int .i64 (IntKind.i64.wrap (v5_6 + 1)))] ?_
    exact n5 _ (.inr ⟨_, weak_eq rfl, ih6 (List.set v0_6 (Int.toNat v5_6) x2.2) x2.1 (IntKind.i64.wrap (v5_6 + 1)) h⟩)
   ·refine w_cf (congrArg AV.bool b8) ?_
    simp only [b8, Bool.not_true, Bool.not_false]
    refine w_ex (x6 0 _ (x5 0 _ (b4 _ (n2 _ (.inl ?_)))))
    refine ws _ ?_
    exact w_ret (r0 _ (.inl (w_fin [.int .i64 v1_6] rfl (by cases someE h; rfl) (by decide) (outs_of (out_is (by cases someE h; rfl) rfl rfl rfl (out_no (out_end)))))))
 obtain ⟨n, h⟩ := limE h
 exact w_loop (.inr ⟨_, weak_eq rfl, L6 n a0 a1 0 h⟩)

set_option maxHeartbeats 600000 in
theorem ok_laws_markSummandS (a0 : List impl_Summand) (a1 : Int) (r : Int × (List impl_Summand)) (h : laws_markSummandS a0 a1 = some r) : OkAt Cc 170 [.uslice 5 (a0.map u_impl_Summand), .int .i64 a1] (.int .i64 r.1) [.uslice 5 (r.2.map u_impl_Summand), .hole] := by
 refine OkAt.of_wpR (fx := [0]) Cc_ok [.tmp 4] [(0, .uslice 5 (a0.map u_impl_Summand)), (1, .int .i64 a1)] Try.func170 rfl rfl s170 (Nat.le_of_ble_eq_true rfl) rfl rfl (fun Q0 r0 n0 => ?_)
 refine ws _ ?_
 refine w_seq (fun Q2 n2 q2 x2 => ?_)
 refine ws _ ?_
 refine w_blk (fun Q4 n4 q4 b4 x4 => ?_)
 have L6 : ∀ (n : Nat) (v0_6 : List impl_Summand) (v1_6 : Int) (v5_6 : Int), laws_markSummandS_l6 n v0_6 v1_6 v5_6 = some r → lpC Cc c170_7 Q4 (stA [(0, .uslice 5 (v0_6.map u_impl_Summand)), (1, .int .i64 v1_6), (5, .int .i64 v5_6)]) := by
  intro m6
  induction m6 with
  | zero => intro v0_6 v1_6 v5_6 h; cases (show none = some r from h)
  | succ m6 ih6 =>
   intro v0_6 v1_6 v5_6 h
   replace h : laws_markSummandS_b6 (laws_markSummandS_l6 m6) v0_6 v1_6 v5_6 = some r := h
   refine lpC_step (fun Q5 n5 q5 x5 => ?_)
   refine w_seq (fun Q6 n6 q6 x6 => ?_)
   refine ws _ ?_
   rcases condE h with ⟨b8, h⟩ | ⟨b8, h⟩
   ·refine w_ct (congrArg AV.bool b8) ?_
    simp only [b8, Bool.not_true, Bool.not_false]
    refine w_skip (n6 _ (.inl ?_))
    refine w_seq (fun Q9 n9 q9 x9 => ?_)
    refine w_blk (fun Q10 n10 q10 b10 x10 => ?_)
    obtain ⟨x1, e12, h⟩ := bindE h
    obtain ⟨x2, e13, h⟩ := bindE h
    refine w_sreg (w_abs [(0, .uslice 5 ((List.set v0_6 (Int.toNat v5_6) (impl_Summand.mk x2.2 x1.Guard x1.Name x1.Arguments x1.Next)).map u_impl_Summand)), (1, .int .i64 x2.1), (5, .int .i64 v5_6)] (fun P hP => ?_) ?_)
    ·simp only [V0.down, simprocAttr, zz5.down, e12, getI_get e12]
     refine w_callp0 [⟨.h 0 [Int.toNat v5_6, 0], true, _, _⟩, ⟨.int .i64 v1_6, false, _, .hole⟩] (ok_laws_markInt64S x1.Sums v1_6 _ e13) rfl rfl rfl (by simp only [V0.down, simprocAttr, zz5.down, e12, getI_get e12, okp_s, own_r, view_s, view_h, viewH_s, share_s, or_true, true_or, @shares_map _ e_i64 e_i64 (fun _ => sh_e_i64 _)]) rfl rfl (.inl rfl) ?_
     simp only [V0.down, simprocAttr, zz5.down, e12, getI_get e12, gv_s, (get_set (getI_get e12)), set_mset]
     (try simp only [VN.down, simprocAttr, zz10.down, e12, getI_get e12] at hP ⊢); exact hP
    obtain ⟨x3, e15, h⟩ := bindE h
    obtain ⟨x4, e16, h⟩ := bindE h
    refine w_sreg (w_abs [(0, .uslice 5 ((List.set (List.set v0_6 (Int.toNat v5_6) (impl_Summand.mk x2.2 x1.Guard x1.Name x1.Arguments x1.Next)) (Int.toNat v5_6) (impl_Summand.mk x3.Sums x4.2 x3.Name x3.Arguments x3.Next)).map u_impl_Summand)), (1, .int .i64 x4.1), (5, .int .i64 v5_6)] (fun P hP => ?_) ?_)
    ·simp only [V0.down, simprocAttr, zz5.down, e15, getI_get e15]
     refine w_callp0 [⟨.h 0 [Int.toNat v5_6, 1], true, _, _⟩, ⟨.int .i64 x2.1, false, _, .hole⟩] (ok_laws_markTermS x3.Guard x2.1 _ e16) rfl rfl rfl (by simp only [V0.down, simprocAttr, zz5.down, e15, getI_get e15, okp_s, own_r, view_s, view_h, viewH_s, share_s, or_true, true_or, @shares_map _ e_impl_Term e_impl_Term (fun _ => sh_e_impl_Term _)]) rfl rfl (.inl rfl) ?_
     simp only [V0.down, simprocAttr, zz5.down, e15, getI_get e15, gv_s, (get_set (getI_get e15)), set_mset]
     (try simp only [VN.down, simprocAttr, zz10.down, e15, getI_get e15] at hP ⊢); exact hP
    obtain ⟨x5, e18, h⟩ := bindE h
    obtain ⟨x6, e19, h⟩ := bindE h
    refine w_sreg (w_abs [(0, .uslice 5 ((List.set (List.set (List.set v0_6 (Int.toNat v5_6) (impl_Summand.mk x2.2 x1.Guard x1.Name x1.Arguments x1.Next)) (Int.toNat v5_6) (impl_Summand.mk x3.Sums x4.2 x3.Name x3.Arguments x3.Next)) (Int.toNat v5_6) (impl_Summand.mk x6.Sums x6.Guard x5 x6.Arguments x6.Next)).map u_impl_Summand)), (1, .int .i64 x4.1), (5, .int .i64 v5_6)] (fun P hP => ?_) ?_)
    ·simp only [V0.down, simprocAttr, zz5.down, e19, getI_get e19, own_s, stoS]
     refine w_call0 (ok_laws_markText x4.1 _ e18) rfl rfl rfl rfl (.inl (by rfl)) ?_
     simp only [V0.down, simprocAttr, zz5.down, e19, getI_get e19, own_s, stoS]
     (try simp only [VN.down, simprocAttr, zz10.down, e19, getI_get e19, own_s, stoS] at hP ⊢); exact hP
    refine ws [(0, .uslice 5 ((List.set (List.set (List.set v0_6 (Int.toNat v5_6) (impl_Summand.mk x2.2 x1.Guard x1.Name x1.Arguments x1.Next)) (Int.toNat v5_6) (impl_Summand.mk x3.Sums x4.2 x3.Name x3.Arguments x3.Next)) (Int.toNat v5_6) (impl_Summand.mk x6.Sums x6.Guard x5 x6.Arguments x6.Next)).map u_impl_Summand)), (1, .int .i64 (IntKind.i64.wrap (x4.1 + 1))), (5, .int .i64 v5_6)] ?_
    obtain ⟨x7, e22, h⟩ := bindE h
    obtain ⟨x8, e23, h⟩ := bindE h
    refine w_sreg (w_abs [(0, .uslice 5 ((List.set (List.set (List.set (List.set v0_6 (Int.toNat v5_6) (impl_Summand.mk x2.2 x1.Guard x1.Name x1.Arguments x1.Next)) (Int.toNat v5_6) (impl_Summand.mk x3.Sums x4.2 x3.Name x3.Arguments x3.Next)) (Int.toNat v5_6) (impl_Summand.mk x6.Sums x6.Guard x5 x6.Arguments x6.Next)) (Int.toNat v5_6) (impl_Summand.mk x7.Sums x7.Guard x7.Name x8.2 x7.Next)).map u_impl_Summand)), (1, .int .i64 x8.1), (5, .int .i64 v5_6)] (fun P hP => ?_) ?_)
    ·simp only [V0.down, simprocAttr, zz5.down, e22, getI_get e22]
     refine w_callp0 [⟨.h 0 [Int.toNat v5_6, 3], true, _, _⟩, ⟨.int .i64 (IntKind.i64.wrap (x4.1 + 1)), false, _, .hole⟩] (ok_laws_markTermSS x7.Arguments (IntKind.i64.wrap (x4.1 + 1)) _ e23) rfl rfl rfl (by simp only [V0.down, simprocAttr, zz5.down, e22, getI_get e22, okp_s, own_r, view_s, view_h, viewH_s, share_s, or_true, true_or, @shares_map _ u_s_impl_Term e_s_impl_Term (fun _ => sh_u_s_impl_Term _)]) rfl rfl (.inl rfl) ?_
     simp only [V0.down, simprocAttr, zz5.down, e22, getI_get e22, gv_s, (get_set (getI_get e22)), set_mset]
     (try simp only [VN.down, simprocAttr, zz10.down, e22, getI_get e22] at hP ⊢); exact hP
    obtain ⟨x9, e25, h⟩ := bindE h
    obtain ⟨x10, e26, h⟩ := bindE h
    refine w_reg (w_abs [(0, .uslice 5 ((List.set (List.set (List.set (List.set (List.set v0_6 (Int.toNat v5_6) (impl_Summand.mk x2.2 x1.Guard x1.Name x1.Arguments x1.Next)) (Int.toNat v5_6) (impl_Summand.mk x3.Sums x4.2 x3.Name x3.Arguments x3.Next)) (Int.toNat v5_6) (impl_Summand.mk x6.Sums x6.Guard x5 x6.Arguments x6.Next)) (Int.toNat v5_6) (impl_Summand.mk x7.Sums x7.Guard x7.Name x8.2 x7.Next)) (Int.toNat v5_6) (impl_Summand.mk x9.Sums x9.Guard x9.Name x9.Arguments x10.2)).map u_impl_Summand)), (1, .int .i64 x10.1), (5, .int .i64 v5_6)] (fun P hP => ?_) ?_)
    ·simp only [V0.down, simprocAttr, zz5.down, e25, getI_get e25]
     refine w_callp0 [⟨.h 0 [Int.toNat v5_6, 4], true, _, _⟩, ⟨.int .i64 x8.1, false, _, .hole⟩] (ok_laws_markTermSS x9.Next x8.1 _ e26) rfl rfl rfl (by simp only [V0.down, simprocAttr, zz5.down, e25, getI_get e25, okp_s, own_r, view_s, view_h, viewH_s, share_s, or_true, true_or, @shares_map _ u_s_impl_Term e_s_impl_Term (fun _ => sh_u_s_impl_Term _)]) rfl rfl (.inl rfl) ?_
     simp only [V0.down, simprocAttr, zz5.down, e25, getI_get e25, gv_s, (get_set (getI_get e25)), set_mset]
     (try simp only [VN.down, simprocAttr, zz10.down, e25, getI_get e25] at hP ⊢); exact hP
    refine n10 _ (n9 _ (.inl ?_))
    refine wr [(0, .uslice 5 ((List.set (List.set (List.set (List.set (List.set v0_6 (Int.toNat v5_6) (impl_Summand.mk x2.2 x1.Guard x1.Name x1.Arguments x1.Next)) (Int.toNat v5_6) (impl_Summand.mk x3.Sums x4.2 x3.Name x3.Arguments x3.Next)) (Int.toNat v5_6) (impl_Summand.mk x6.Sums x6.Guard x5 x6.Arguments x6.Next)) (Int.toNat v5_6) (impl_Summand.mk x7.Sums x7.Guard x7.Name x8.2 x7.Next)) (Int.toNat v5_6) (impl_Summand.mk x9.Sums x9.Guard x9.Name x9.Arguments x10.2)).map u_impl_Summand)), (1, .int .i64 x10.1), (5, .int .i64 (IntKind.i64.wrap (v5_6 + 1)))] ?_
    exact n5 _ (.inr ⟨_, weak_eq rfl, ih6 (List.set (List.set (List.set (List.set (List.set v0_6 (Int.toNat v5_6) (impl_Summand.mk x2.2 x1.Guard x1.Name x1.Arguments x1.Next)) (Int.toNat v5_6) (impl_Summand.mk x3.Sums x4.2 x3.Name x3.Arguments x3.Next)) (Int.toNat v5_6) (impl_Summand.mk x6.Sums x6.Guard x5 x6.Arguments x6.Next)) (Int.toNat v5_6) (impl_Summand.mk x7.Sums x7.Guard x7.Name x8.2 x7.Next)) (Int.toNat v5_6) (impl_Summand.mk x9.Sums x9.Guard x9.Name x9.Arguments x10.2)) x10.1 (IntKind.i64.wrap (v5_6 + 1)) h⟩)
   ·refine w_cf (congrArg AV.bool b8) ?_
    simp only [b8, Bool.not_true, Bool.not_false]
    refine w_ex (x6 0 _ (x5 0 _ (b4 _ (n2 _ (.inl ?_)))))
    refine ws _ ?_
    exact w_ret (r0 _ (.inl (w_fin [.int .i64 v1_6] rfl (by cases someE h; rfl) (by decide) (outs_of (out_is (by cases someE h; rfl) rfl rfl rfl (out_no (out_end)))))))
 obtain ⟨n, h⟩ := limE h
 exact w_loop (.inr ⟨_, weak_eq rfl, L6 n a0 a1 0 h⟩)

theorem ok_laws_markLinear (a000 : Int) (a001 : List Int) (a002 : List impl_Summand) (a1 : Int) (r : Int × Int × (List Int) × (List impl_Summand)) (h : laws_markLinear a000 a001 a002 a1 = some r) : OkAt Cc 77 [.agg [.int .i64 a000, .uslice 1 (a001.map e_i64), .uslice 5 (a002.map u_impl_Summand)], .int .i64 a1] (.int .i64 r.1) [.agg [.int .i64 r.2.1, .uslice 1 (r.2.2.1.map e_i64), .uslice 5 (r.2.2.2.map u_impl_Summand)], .hole] := by
 refine OkAt.of_wpR (fx := [0]) Cc_ok [.tmp 4] [(0, .agg [.int .i64 a000, .uslice 1 (a001.map e_i64), .uslice 5 (a002.map u_impl_Summand)]), (1, .int .i64 a1)] Try.func77 rfl rfl s77 (Nat.le_of_ble_eq_true rfl) rfl rfl (fun Q0 r0 n0 => ?_)
 refine w_sreg (w_abs [(0, .agg [.int .i64 a000, .uslice 1 (a001.map e_i64), .uslice 5 (a002.map u_impl_Summand)]), (1, .int .i64 a1), (2, .hb 0 0)] (fun P hP => ?_) ?_)
 ·simp only [V0.down, simprocAttr, zz11.down, hbld_s, hb_s, AV.plains, hbx_s]
  (try simp only [VN.down, simprocAttr, zz10.down, hbld_s, hb_s, AV.plains, hbx_s] at hP ⊢); exact hP
 obtain ⟨x1, e3, h⟩ := bindE h
 refine w_sreg (w_abs [(0, .agg [.int .i64 a000, .uslice 1 (x1.2.map e_i64), .uslice 5 (a002.map u_impl_Summand)]), (1, .int .i64 x1.1), (2, .hb 0 0)] (fun P hP => ?_) ?_)
 ·simp only [V0.down, simprocAttr, zz11.down, hbld_s, hb_s, AV.plains, hbx_s]
  refine w_calla0 [⟨.h 0 [1], true, _, _⟩, ⟨.int .i64 a1, false, _, .hole⟩] (ok_laws_markInt64S a001 a1 _ e3) rfl rfl rfl (by simp only [V0.down, simprocAttr, zz11.down, hbld_s, hb_s, AV.plains, hbx_s, c_nrm, okp_s, own_r, view_s, view_h, viewH_s, share_s, or_true, true_or, @shares_map _ e_i64 e_i64 (fun _ => sh_e_i64 _)]) rfl rfl (.inl rfl) (by simp only [V0.down, simprocAttr, zz11.down, hbld_s, hb_s, AV.plains, hbx_s, ka_s, own_r, plain_s, Bool.and_self, Bool.not_false, Bool.and_true]) ?_
  simp only [V0.down, simprocAttr, zz11.down, hbld_s, hb_s, AV.plains, hbx_s, gv_s, ka_s, own_r, eq_self, Bool.and_self]
  (try simp only [VN.down, simprocAttr, zz10.down, hbld_s, hb_s, AV.plains, hbx_s] at hP ⊢); exact hP
 obtain ⟨x2, e5, h⟩ := bindE h
 refine w_sreg (w_abs [(0, .agg [.int .i64 a000, .uslice 1 (x1.2.map e_i64), .uslice 5 (x2.2.map u_impl_Summand)]), (1, .int .i64 x2.1)] (fun P hP => ?_) ?_)
 ·simp only [V0.down, simprocAttr, zz11.down, hbld_s, hb_s, AV.plains, hbx_s]
  refine w_callp0 [⟨.h 0 [2], true, _, _⟩, ⟨.int .i64 x1.1, false, _, .hole⟩] (ok_laws_markSummandS a002 x1.1 _ e5) rfl rfl rfl (by simp only [V0.down, simprocAttr, zz11.down, hbld_s, hb_s, AV.plains, hbx_s, c_nrm, okp_s, own_r, view_s, view_h, viewH_s, share_s, or_true, true_or, @shares_map _ u_impl_Summand e_impl_Summand (fun _ => sh_u_impl_Summand _)]) rfl rfl (.inl rfl) ?_
  simp only [V0.down, simprocAttr, zz11.down, hbld_s, hb_s, AV.plains, hbx_s, gv_s]
  (try simp only [VN.down, simprocAttr, zz10.down, hbld_s, hb_s, AV.plains, hbx_s] at hP ⊢); exact hP
 refine ws _ ?_
 exact w_ret (r0 _ (.inl (w_fin [.int .i64 x2.1] rfl (by cases someE h; rfl) (by decide) (outs_of (out_is (by cases someE h; rfl) rfl rfl rfl (out_no (out_end)))))))

theorem ok_laws_heldInt64S (a0 : List Int) (a1 : Int) (r : Int) (h : laws_heldInt64S a0 a1 = some r) : OkAt Cc 62 [.slice (a0.map e_i64), .int .i64 a1] (.int .i64 r) [] := by
 refine OkAt.of_wpR (fx := [0]) Cc_ok [.tmp 4] [(0, .slice (a0.map e_i64)), (1, .int .i64 a1)] Try.func62 rfl rfl s62 (Nat.le_of_ble_eq_true rfl) rfl rfl (fun Q0 r0 n0 => ?_)
 refine ws _ ?_
 refine w_seq (fun Q2 n2 q2 x2 => ?_)
 refine ws _ ?_
 refine w_blk (fun Q4 n4 q4 b4 x4 => ?_)
 have L6 : ∀ (n : Nat) (v1_6 : Int) (v5_6 : Int), laws_heldInt64S_l6 a0 n v1_6 v5_6 = some r → lpC Cc c62_7 Q4 (stA [(0, .slice (a0.map e_i64)), (1, .int .i64 v1_6), (5, .int .i64 v5_6)]) := by
  intro m6
  induction m6 with
  | zero => intro v1_6 v5_6 h; cases (show none = some r from h)
  | succ m6 ih6 =>
   intro v1_6 v5_6 h
   replace h : laws_heldInt64S_b6 (laws_heldInt64S_l6 a0 m6) a0 v1_6 v5_6 = some r := h
   refine lpC_step (fun Q5 n5 q5 x5 => ?_)
   refine w_seq (fun Q6 n6 q6 x6 => ?_)
   refine ws _ ?_
   rcases condE h with ⟨b8, h⟩ | ⟨b8, h⟩
   ·refine w_ct (congrArg AV.bool b8) ?_
    simp only [b8, Bool.not_true, Bool.not_false]
    refine w_skip (n6 _ (.inl ?_))
    refine w_seq (fun Q9 n9 q9 x9 => ?_)
    refine w_blk (fun Q10 n10 q10 b10 x10 => ?_)
    refine w_seq (fun Q11 n11 q11 x11 => ?_)
    obtain ⟨x1, e13, h⟩ := bindE h
    refine wsf e13 _ ?_
    rcases condE h with ⟨b14, h⟩ | ⟨b14, h⟩
    ·refine w_ct (congrArg AV.bool b14) ?_
     simp only [b14, Bool.not_true, Bool.not_false]
     refine ws _ ?_
     exact w_ret (q11 _ (q10 _ (q9 _ (q5 _ (q4 _ (q2 _ (r0 _ (.inl (w_fin [.int .i64 (-1)] rfl (by cases someE h; rfl) (by decide) outs_nil)))))))))
    ·refine w_cf (congrArg AV.bool b14) ?_
     simp only [b14, Bool.not_true, Bool.not_false]
     refine w_skip (n11 _ (.inl ?_))
     refine wr _ ?_
     refine n10 _ (n9 _ (.inl ?_))
     refine wr _ ?_
     exact n5 _ (.inr ⟨_, weak_eq rfl, ih6 (IntKind.i64.wrap (v1_6 + 1)) (IntKind.i64.wrap (v5_6 + 1)) h⟩)
   ·refine w_cf (congrArg AV.bool b8) ?_
    simp only [b8, Bool.not_true, Bool.not_false]
    refine w_ex (x6 0 _ (x5 0 _ (b4 _ (n2 _ (.inl ?_)))))
    refine ws _ ?_
    exact w_ret (r0 _ (.inl (w_fin [.int .i64 v1_6] rfl (by cases someE h; rfl) (by decide) outs_nil)))
 obtain ⟨n, h⟩ := limE h
 exact w_loop (.inr ⟨_, weak_eq rfl, L6 n a1 0 h⟩)

set_option maxHeartbeats 1400000 in
theorem ok_laws_FnExactNeededParameters (a0 : laws_Linear) (r : Bool) (h : laws_FnExactNeededParameters a0 = some r) : OkAt Cc 20 [e_laws_Linear a0] (.bool r) [] := by
 refine OkAt.of_wpR (fx := [0]) Cc_ok [.tmp 2] [(0, e_laws_Linear a0)] Try.func20 rfl rfl s20 (Nat.le_of_ble_eq_true rfl) rfl rfl (fun Q0 r0 n0 => ?_)
 refine ws _ ?_
 refine ws _ ?_
 obtain ⟨x1, e4, h⟩ := bindE h
 refine wsc (ok_laws_szLinear a0 1048576 _ e4) _ ?_
 refine w_seq (fun Q5 n5 q5 x5 => ?_)
 refine ws _ ?_
 rcases condE h with ⟨b7, h⟩ | ⟨b7, h⟩
 ·refine w_ct (congrArg AV.bool b7) ?_
  simp only [b7, Bool.not_true, Bool.not_false]
  refine ws _ ?_
  exact w_ret (q5 _ (r0 _ (.inl (w_fin [.bool true] rfl (by cases someE h; rfl) (by decide) outs_nil))))
 ·refine w_cf (congrArg AV.bool b7) ?_
  simp only [b7, Bool.not_true, Bool.not_false]
  refine w_skip (n5 _ (.inl ?_))
  obtain ⟨x2, e10, h⟩ := bindE h
  obtain ⟨x3, e11, h⟩ := bindE h
  refine w_sreg (w_abs [(1, .ubox (e_laws_Linear a0)), (4, .uslice 1 (x3.1.map e_i64)), (5, .int .i64 x3.2)] (fun P hP => ?_) ?_)
  ·simp only [V0.down, simprocAttr, zz12.down]
   refine w_call0 (ok_laws_toLinear a0 _ e10) rfl rfl rfl rfl (.inl (by rfl)) ?_
   simp only [V0.down, simprocAttr, zz12.down]
   refine w_call0 (ok_spec_NeededParameters x2 _ e11) rfl rfl (by simp only [V0.down, simprocAttr, zz12.down, view_s, view_h, viewH_s, share_s, @shares_map _ e_i64 e_i64 (fun _ => sh_e_i64 _), @shares_map _ u_impl_Summand e_impl_Summand (fun _ => sh_u_impl_Summand _)] <;> rfl) rfl (.inr (by simp only [AV.nosh, AV.noshs, @noshs_map _ e_i64 (fun _ => ns_e_i64 _), Bool.and_self])) ?_
   simp only [V0.down, simprocAttr, zz12.down]
   (try simp only [VN.down, simprocAttr, zz7.down] at hP ⊢); exact hP
  obtain ⟨x4, e13, h⟩ := bindE h
  refine wsc (ok_laws_toLinear a0 _ e13) _ ?_
  obtain ⟨x5, e15, h⟩ := bindE h
  refine w_sreg (w_abs [(1, .ubox (e_laws_Linear a0)), (4, .uslice 1 (x3.1.map e_i64)), (5, .int .i64 x3.2), (6, .ubox (u_impl_Linear x4)), (7, .uslice 1 (x5.1.map e_i64)), (8, .int .i64 x5.2)] (fun P hP => ?_) ?_)
  ·simp only [V0.down, simprocAttr, zz13.down]
   refine w_call0 (ok_impl_NeededParameters x4 _ e15) rfl rfl (by simp only [V0.down, simprocAttr, zz13.down, view_s, view_h, viewH_s, share_s, @shares_map _ e_i64 e_i64 (fun _ => sh_e_i64 _), @shares_map _ u_impl_Summand e_impl_Summand (fun _ => sh_u_impl_Summand _)] <;> rfl) rfl (.inr (by simp only [AV.nosh, AV.noshs, @noshs_map _ e_i64 (fun _ => ns_e_i64 _), Bool.and_self])) ?_
   simp only [V0.down, simprocAttr, zz13.down]
   (try simp only [VN.down, simprocAttr, zz7.down] at hP ⊢); exact hP
  refine w_seq (fun Q16 n16 q16 x16 => ?_)
  obtain ⟨x6, e18, h⟩ := bindE h
  refine w_sreg (w_abs [(1, .ubox (e_laws_Linear a0)), (4, .uslice 1 (x3.1.map e_i64)), (5, .int .i64 x3.2), (6, .ubox (u_impl_Linear x4)), (7, .uslice 1 (x5.1.map e_i64)), (8, .int .i64 x5.2), (40, .bool ((!x6) || (x5.2 != x3.2)))] (fun P hP => ?_) ?_)
  ·rcases Bool.eq_false_or_eq_true (x6) with s19 | s19
   ·simp only [V0.down, simprocAttr, zz7.down, s19]
    refine w_call0 (ok_laws_eqInt64S x5.1 x3.1 _ e18) rfl rfl (by simp only [V0.down, simprocAttr, zz7.down, s19, view_s, view_h, viewH_s, share_s, @shares_map _ e_i64 e_i64 (fun _ => sh_e_i64 _), @shares_map _ e_i64 e_i64 (fun _ => sh_e_i64 _)] <;> rfl) rfl (.inr (by rfl)) ?_
    simp only [V0.down, simprocAttr, zz7.down, s19]
    (try simp only [VN.down, simprocAttr, zz7.down, s19] at hP ⊢); exact hP
   ·simp only [V0.down, simprocAttr, zz7.down, s19]
    refine w_call0 (ok_laws_eqInt64S x5.1 x3.1 _ e18) rfl rfl (by simp only [V0.down, simprocAttr, zz7.down, s19, view_s, view_h, viewH_s, share_s, @shares_map _ e_i64 e_i64 (fun _ => sh_e_i64 _), @shares_map _ e_i64 e_i64 (fun _ => sh_e_i64 _)] <;> rfl) rfl (.inr (by rfl)) ?_
    simp only [V0.down, simprocAttr, zz7.down, s19]
    (try simp only [VN.down, simprocAttr, zz7.down, s19] at hP ⊢); exact hP
  rcases condE h with ⟨b20, h⟩ | ⟨b20, h⟩
  ·refine w_ct (congrArg AV.bool b20) ?_
   simp only [b20, Bool.not_true, Bool.not_false]
   refine ws _ ?_
   exact w_ret (q16 _ (r0 _ (.inl (w_fin [.bool false] rfl (by cases someE h; rfl) (by decide) outs_nil))))
  ·refine w_cf (congrArg AV.bool b20) ?_
   simp only [b20, Bool.not_true, Bool.not_false]
   refine w_skip (n16 _ (.inl ?_))
   refine w_seq (fun Q22 n22 q22 x22 => ?_)
   obtain ⟨x7, e24, h⟩ := bindE h
   obtain ⟨x8, e25, h⟩ := bindE h
   refine w_sdrw rfl (w_absd [(1, .ubox (e_laws_Linear a0)), (4, .uslice 1 (x3.1.map e_i64)), (5, .int .i64 x3.2), (6, .ubox (u_impl_Linear x4)), (7, .uslice 1 (x5.1.map e_i64)), (8, .int .i64 x5.2), (45, .bool (!x8))] (fun P hP => ?_) ?_)
   ·simp only [V1.down, simprocAttr, zz16.down]
    refine w_call1 (ok_laws_toLinear a0 _ e24) rfl rfl rfl rfl (.inl (by rfl)) ?_
    simp only [V1.down, simprocAttr, zz16.down]
    refine w_call1 (ok_laws_eqLinear x4 x7 _ e25) rfl rfl (by simp only [V1.down, simprocAttr, zz16.down, view_s, view_h, viewH_s, share_s, @shares_map _ e_i64 e_i64 (fun _ => sh_e_i64 _), @shares_map _ u_impl_Summand e_impl_Summand (fun _ => sh_u_impl_Summand _), @shares_map _ e_i64 e_i64 (fun _ => sh_e_i64 _), @shares_map _ u_impl_Summand e_impl_Summand (fun _ => sh_u_impl_Summand _)] <;> rfl) rfl (.inr (by rfl)) ?_
    simp only [V1.down, simprocAttr, zz16.down]
    refine ⟨okP_D (by kernel_rfl), ?_⟩
    (try simp only [VN.down, simprocAttr, zz7.down] at hP ⊢); exact hP
   rcases condE h with ⟨b26, h⟩ | ⟨b26, h⟩
   ·refine w_ct (congrArg AV.bool b26) ?_
    simp only [(bnT b26), Bool.not_true, Bool.not_false]
    refine ws _ ?_
    exact w_ret (q22 _ (r0 _ (.inl (w_fin [.bool false] rfl (by cases someE h; rfl) (by decide) outs_nil))))
   ·refine w_cf (congrArg AV.bool b26) ?_
    simp only [(bnF b26), Bool.not_true, Bool.not_false]
    refine w_skip (n22 _ (.inl ?_))
    refine ws _ ?_
    obtain ⟨x9, e30, h⟩ := bindE h
    refine w_sreg (w_abs [(1, .ubox (e_laws_Linear a0)), (4, .uslice 1 (x3.1.map e_i64)), (5, .int .i64 x3.2), (7, .uslice 1 (x5.1.map e_i64)), (8, .int .i64 x5.2), (9, .int .i64 x9.1)] (fun P hP => ?_) ?_)
    ·simp only [V0.down, simprocAttr, zz13.down]
     refine w_callp0 [⟨.h 6 [0], true, _, _⟩, ⟨.int .i64 1, false, _, .hole⟩] (ok_laws_markLinear x4.Parameters x4.Start x4.Summands 1 _ e30) rfl rfl rfl (by simp only [V0.down, simprocAttr, zz13.down, c_nrm, okp_s, own_r, view_s, view_h, viewH_s, share_s, or_true, true_or, @shares_map _ e_i64 e_i64 (fun _ => sh_e_i64 _), @shares_map _ u_impl_Summand e_impl_Summand (fun _ => sh_u_impl_Summand _)]) rfl rfl (.inl rfl) ?_
     simp only [V0.down, simprocAttr, zz13.down, gv_s]
     (try simp only [VN.down, simprocAttr, zz7.down] at hP ⊢); exact hP
    refine w_seq (fun Q31 n31 q31 x31 => ?_)
    rcases condE h with ⟨b33, h⟩ | ⟨b33, h⟩
    ·refine wsf b33 _ ?_
     refine w_ct rfl ?_
     refine ws _ ?_
     exact w_ret (q31 _ (r0 _ (.inl (w_fin [.bool false] rfl (by cases someE h; rfl) (by decide) outs_nil))))
    ·obtain ⟨x10, e35, h⟩ := bindE h
     refine w_sreg (w_abs [(1, .ubox (e_laws_Linear a0)), (4, .uslice 1 (x3.1.map e_i64)), (5, .int .i64 x3.2), (7, .uslice 1 (x5.1.map e_i64)), (61, .bool ((!x10) || (x5.2 != x3.2)))] (fun P hP => ?_) ?_)
     ·rcases Bool.eq_false_or_eq_true (x10) with s36 | s36
      ·simp only [V0.down, simprocAttr, zz4.down, b33, s36]
       refine w_callg0 (ok_laws_eqInt64S x5.1 x3.1 _ e35) rfl rfl (by simp only [V0.down, simprocAttr, zz4.down, b33, s36, view_s, view_h, viewH_s, share_s, @shares_map _ e_i64 e_i64 (fun _ => sh_e_i64 _), @shares_map _ e_i64 e_i64 (fun _ => sh_e_i64 _)] <;> rfl) rfl (.inr (by rfl)) ?_
       simp only [V0.down, simprocAttr, zz4.down, b33, s36]
       (try simp only [VN.down, simprocAttr, zz4.down, b33, s36] at hP ⊢); exact hP
      ·simp only [V0.down, simprocAttr, zz4.down, b33, s36]
       refine w_callg0 (ok_laws_eqInt64S x5.1 x3.1 _ e35) rfl rfl (by simp only [V0.down, simprocAttr, zz4.down, b33, s36, view_s, view_h, viewH_s, share_s, @shares_map _ e_i64 e_i64 (fun _ => sh_e_i64 _), @shares_map _ e_i64 e_i64 (fun _ => sh_e_i64 _)] <;> rfl) rfl (.inr (by rfl)) ?_
       simp only [V0.down, simprocAttr, zz4.down, b33, s36]
       (try simp only [VN.down, simprocAttr, zz4.down, b33, s36] at hP ⊢); exact hP
     rcases condE h with ⟨b37, h⟩ | ⟨b37, h⟩
     ·refine w_ct (congrArg AV.bool b37) ?_
      simp only [b37, Bool.not_true, Bool.not_false]
      refine ws _ ?_
      exact w_ret (q31 _ (r0 _ (.inl (w_fin [.bool false] rfl (by cases someE h; rfl) (by decide) outs_nil))))
     ·refine w_cf (congrArg AV.bool b37) ?_
      simp only [b37, Bool.not_true, Bool.not_false]
      refine w_skip (n31 _ (.inl ?_))
      refine ws _ ?_
      obtain ⟨x11, e41, h⟩ := bindE h
      refine w_sreg (w_abs [(1, .ubox (e_laws_Linear a0)), (4, .uslice 1 (x3.1.map e_i64)), (5, .int .i64 x3.2), (7, .uslice 1 (x11.2.map e_i64)), (10, .int .i64 x11.1)] (fun P hP => ?_) ?_)
      ·simp only [V0.down, simprocAttr, zz4.down]
       refine w_callp0 [⟨.h 7 [], true, _, _⟩, ⟨.int .i64 1, false, _, .hole⟩] (ok_laws_markInt64S x5.1 1 _ e41) rfl rfl rfl (by simp only [V0.down, simprocAttr, zz4.down, c_nrm, okp_s, own_r, view_s, view_h, viewH_s, share_s, or_true, true_or, @shares_map _ e_i64 e_i64 (fun _ => sh_e_i64 _)]) rfl rfl (.inl rfl) ?_
       simp only [V0.down, simprocAttr, zz4.down, gv_s]
       (try simp only [VN.down, simprocAttr, zz4.down] at hP ⊢); exact hP
      refine ws _ ?_
      obtain ⟨x12, e44, h⟩ := bindE h
      refine w_sreg (w_abs [(1, .ubox (e_laws_Linear a0)), (4, .uslice 1 (x3.1.map e_i64)), (5, .int .i64 x3.2), (7, .uslice 1 (x11.2.map e_i64)), (10, .int .i64 x11.1), (11, .int .i64 x12)] (fun P hP => ?_) ?_)
      ·simp only [V0.down, simprocAttr, zz4.down]
       refine w_call0 (ok_laws_heldInt64S x11.2 1 _ e44) rfl rfl (by simp only [V0.down, simprocAttr, zz4.down, view_s, view_h, viewH_s, share_s, @shares_map _ e_i64 e_i64 (fun _ => sh_e_i64 _)] <;> rfl) rfl (.inr (by rfl)) ?_
       simp only [V0.down, simprocAttr, zz4.down]
       (try simp only [VN.down, simprocAttr, zz4.down] at hP ⊢); exact hP
      refine w_seq (fun Q45 n45 q45 x45 => ?_)
      refine ws _ ?_
      rcases condE h with ⟨b47, h⟩ | ⟨b47, h⟩
      ·refine w_ct (congrArg AV.bool b47) ?_
       simp only [b47, Bool.not_true, Bool.not_false]
       refine ws _ ?_
       exact w_ret (q45 _ (r0 _ (.inl (w_fin [.bool false] rfl (by cases someE h; rfl) (by decide) outs_nil))))
      ·refine w_cf (congrArg AV.bool b47) ?_
       simp only [b47, Bool.not_true, Bool.not_false]
       refine w_skip (n45 _ (.inl ?_))
       refine w_seq (fun Q49 n49 q49 x49 => ?_)
       refine ws _ ?_
       rcases condE h with ⟨b51, h⟩ | ⟨b51, h⟩
       ·refine w_ct (congrArg AV.bool b51) ?_
        simp only [b51, Bool.not_true, Bool.not_false]
        refine ws _ ?_
        exact w_ret (q49 _ (r0 _ (.inl (w_fin [.bool false] rfl (by cases someE h; rfl) (by decide) outs_nil))))
       ·refine w_cf (congrArg AV.bool b51) ?_
        simp only [b51, Bool.not_true, Bool.not_false]
        refine w_skip (n49 _ (.inl ?_))
        obtain ⟨x13, e54, h⟩ := bindE h
        obtain ⟨x14, e55, h⟩ := bindE h
        refine w_sreg (w_abs [(4, .uslice 1 (x3.1.map e_i64)), (5, .int .i64 x3.2), (7, .uslice 1 (x11.2.map e_i64)), (10, .int .i64 x11.1), (12, .uslice 1 (x14.1.map e_i64)), (13, .int .i64 x14.2)] (fun P hP => ?_) ?_)
        ·simp only [V0.down, simprocAttr, zz12.down]
         refine w_call0 (ok_laws_toLinear a0 _ e54) rfl rfl rfl rfl (.inl (by rfl)) ?_
         simp only [V0.down, simprocAttr, zz12.down]
         refine w_call0 (ok_impl_NeededParameters x13 _ e55) rfl rfl (by simp only [V0.down, simprocAttr, zz12.down, view_s, view_h, viewH_s, share_s, @shares_map _ e_i64 e_i64 (fun _ => sh_e_i64 _), @shares_map _ u_impl_Summand e_impl_Summand (fun _ => sh_u_impl_Summand _)] <;> rfl) rfl (.inr (by simp only [AV.nosh, AV.noshs, @noshs_map _ e_i64 (fun _ => ns_e_i64 _), Bool.and_self])) ?_
         simp only [V0.down, simprocAttr, zz12.down]
         (try simp only [VN.down, simprocAttr, zz7.down] at hP ⊢); exact hP
        refine w_seq (fun Q56 n56 q56 x56 => ?_)
        obtain ⟨x15, e58, h⟩ := bindE h
        refine w_sreg (w_abs [(7, .uslice 1 (x11.2.map e_i64)), (10, .int .i64 x11.1), (87, .bool ((!x15) || (x14.2 != x3.2)))] (fun P hP => ?_) ?_)
        ·rcases Bool.eq_false_or_eq_true (x15) with s59 | s59
         ·simp only [V0.down, simprocAttr, e_i64, s59]
          refine w_call0 (ok_laws_eqInt64S x14.1 x3.1 _ e58) rfl rfl (by simp only [V0.down, simprocAttr, e_i64, s59, view_s, view_h, viewH_s, share_s, @shares_map _ e_i64 e_i64 (fun _ => sh_e_i64 _), @shares_map _ e_i64 e_i64 (fun _ => sh_e_i64 _)] <;> rfl) rfl (.inr (by rfl)) ?_
          simp only [V0.down, simprocAttr, e_i64, s59]
          (try simp only [VN.down, simprocAttr, e_i64, s59] at hP ⊢); exact hP
         ·simp only [V0.down, simprocAttr, e_i64, s59]
          refine w_call0 (ok_laws_eqInt64S x14.1 x3.1 _ e58) rfl rfl (by simp only [V0.down, simprocAttr, e_i64, s59, view_s, view_h, viewH_s, share_s, @shares_map _ e_i64 e_i64 (fun _ => sh_e_i64 _), @shares_map _ e_i64 e_i64 (fun _ => sh_e_i64 _)] <;> rfl) rfl (.inr (by rfl)) ?_
          simp only [V0.down, simprocAttr, e_i64, s59]
          (try simp only [VN.down, simprocAttr, e_i64, s59] at hP ⊢); exact hP
        rcases condE h with ⟨b60, h⟩ | ⟨b60, h⟩
        ·refine w_ct (congrArg AV.bool b60) ?_
         simp only [b60, Bool.not_true, Bool.not_false]
         refine ws _ ?_
         exact w_ret (q56 _ (r0 _ (.inl (w_fin [.bool false] rfl (by cases someE h; rfl) (by decide) outs_nil))))
        ·refine w_cf (congrArg AV.bool b60) ?_
         simp only [b60, Bool.not_true, Bool.not_false]
         refine w_skip (n56 _ (.inl ?_))
         refine ws _ ?_
         obtain ⟨x16, e64, h⟩ := bindE h
         refine w_sreg (w_abs [(10, .int .i64 x11.1), (11, .int .i64 x16)] (fun P hP => ?_) ?_)
         ·simp only [V0.down, simprocAttr, e_i64]
          refine w_call0 (ok_laws_heldInt64S x11.2 1 _ e64) rfl rfl (by simp only [V0.down, simprocAttr, e_i64, view_s, view_h, viewH_s, share_s, @shares_map _ e_i64 e_i64 (fun _ => sh_e_i64 _)] <;> rfl) rfl (.inr (by rfl)) ?_
          simp only [V0.down, simprocAttr, e_i64]
          (try simp only [VN.down, simprocAttr, e_i64] at hP ⊢); exact hP
         refine w_seq (fun Q65 n65 q65 x65 => ?_)
         refine ws _ ?_
         rcases condE h with ⟨b67, h⟩ | ⟨b67, h⟩
         ·refine w_ct (congrArg AV.bool b67) ?_
          simp only [b67, Bool.not_true, Bool.not_false]
          refine ws _ ?_
          exact w_ret (q65 _ (r0 _ (.inl (w_fin [.bool false] rfl (by cases someE h; rfl) (by decide) outs_nil))))
         ·refine w_cf (congrArg AV.bool b67) ?_
          simp only [b67, Bool.not_true, Bool.not_false]
          refine w_skip (n65 _ (.inl ?_))
          refine w_seq (fun Q69 n69 q69 x69 => ?_)
          refine ws _ ?_
          rcases condE h with ⟨b71, h⟩ | ⟨b71, h⟩
          ·refine w_ct (congrArg AV.bool b71) ?_
           simp only [b71, Bool.not_true, Bool.not_false]
           refine ws _ ?_
           exact w_ret (q69 _ (r0 _ (.inl (w_fin [.bool false] rfl (by cases someE h; rfl) (by decide) outs_nil))))
          ·refine w_cf (congrArg AV.bool b71) ?_
           simp only [b71, Bool.not_true, Bool.not_false]
           refine w_skip (n69 _ (.inl ?_))
           refine ws _ ?_
           exact w_ret (r0 _ (.inl (w_fin [.bool true] rfl (by cases someE h; rfl) (by decide) outs_nil)))

end Go.Proofs.Ytobljppjkklojaa
