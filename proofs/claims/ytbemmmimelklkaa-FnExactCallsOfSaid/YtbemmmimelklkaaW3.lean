/- Part of a proof that a law returns true for every input. No condition. -/
import Derived.Test.YtbemmmimelklkaaSl
namespace Go.Proofs.Ytbemmmimelklkaa
open Go Go.Fw Go.Sh
set_option maxRecDepth 100000
set_option linter.unusedSimpArgs false
set_option linter.unusedVariables false

def ZZ := PLift.up (And.intro @tt2 (And.intro @tt4 (And.intro @tt9 (And.intro @tt22 (And.intro @tt24 (And.intro @tt27 (And.intro @tt40 (And.intro @tt42 (And.intro @tt45 (And.intro @tt47 (And.intro @tt53 (And.intro @tt55 (And.intro @tt74 (And.intro @tt76 (And.intro @tt87 (And.intro @tt110 (And.intro @tt114 (And.intro @tt123 (And.intro @tt131 (And.intro @tt155 (And.intro @e_i64.eq_1 (And.intro @e_impl_Definition.eq_1 (And.intro @e_impl_Part.eq_1 (And.intro @e_impl_Term.eq_1 (And.intro @e_impl_place.eq_1 (And.intro @e_laws_Definition.eq_1 (And.intro @e_laws_Part.eq_1 (And.intro @e_laws_Term.eq_1 (And.intro @e_s_impl_Term.eq_1 (And.intro @e_s_laws_Term.eq_1 (And.intro @u_impl_Definition.eq_1 (And.intro @u_impl_Part.eq_1 @u_s_impl_Term.eq_1))))))))))))))))))))))))))))))))
theorem ws {Q : Exit → St → Prop} {l : List (Nat × AV)} {ros : List RO} {k : List Nat} {b : SC} (l' : List (Nat × AV)) (hk : wpC Cc b Q (stA l')) (h : ∀ P : List (Nat × AV) → Prop, P l' → wpT Cc (stA l) ros none (fun _ s => P (kpA k s)) := by
  intro P hP
  simp only [V0.down, simprocAttr, ZZ.down]
  (try simp only [VN.down, simprocAttr, ZZ.down] at hP ⊢)
  exact hP) : wpC Cc (.seq (.reg ros (some k)) b) Q (stA l) :=
  w_sreg (w_abs l' (h) hk)
theorem wsc {Q : Exit → St → Prop} {l : List (Nat × AV)} {ros : List RO} {k : List Nat} {b : SC} {g : FuncId} {ds : List AV} {r : AV} (ok : OkAt Cc g ds r []) (l' : List (Nat × AV)) (hk : wpC Cc b Q (stA l')) (h : OkAt Cc g ds r [] → ∀ P : List (Nat × AV) → Prop, P l' → wpT Cc (stA l) ros none (fun _ s => P (kpA k s)) := by
  intro okk P hP
  (try simp only [V0.down, simprocAttr, ZZ.down])
  refine w_call0 okk rfl rfl rfl rfl (.inl (by rfl)) ?_
  simp only [V0.down, simprocAttr, ZZ.down]
  (try simp only [VN.down, simprocAttr, ZZ.down] at hP ⊢)
  exact hP) : wpC Cc (.seq (.reg ros (some k)) b) Q (stA l) :=
  w_sreg (w_abs l' (h ok) hk)
theorem wsf {F : Prop} (hF : F) {Q : Exit → St → Prop} {l : List (Nat × AV)} {ros : List RO} {k : List Nat} {b : SC} (l' : List (Nat × AV)) (hk : wpC Cc b Q (stA l')) (h : F → ∀ P : List (Nat × AV) → Prop, P l' → wpT Cc (stA l) ros none (fun _ s => P (kpA k s)) := by
  intro hF P hP
  simp only [V0.down, simprocAttr, ZZ.down, hF]
  (try simp only [VN.down, simprocAttr, ZZ.down, hF] at hP ⊢)
  exact hP) : wpC Cc (.seq (.reg ros (some k)) b) Q (stA l) :=
  w_sreg (w_abs l' (h hF) hk)
theorem wscf {F : Prop} (hF : F) {Q : Exit → St → Prop} {l : List (Nat × AV)} {ros : List RO} {k : List Nat} {b : SC} {g : FuncId} {ds : List AV} {r : AV} (ok : OkAt Cc g ds r []) (l' : List (Nat × AV)) (hk : wpC Cc b Q (stA l')) (h : OkAt Cc g ds r [] → F → ∀ P : List (Nat × AV) → Prop, P l' → wpT Cc (stA l) ros none (fun _ s => P (kpA k s)) := by
  intro okk hF P hP
  (try simp only [V0.down, simprocAttr, ZZ.down, hF])
  refine w_call0 okk rfl rfl rfl rfl (.inl (by rfl)) ?_
  simp only [V0.down, simprocAttr, ZZ.down, hF]
  (try simp only [VN.down, simprocAttr, ZZ.down, hF] at hP ⊢)
  exact hP) : wpC Cc (.seq (.reg ros (some k)) b) Q (stA l) :=
  w_sreg (w_abs l' (h ok hF) hk)
theorem wr {Q : Exit → St → Prop} {l : List (Nat × AV)} {ros : List RO} {k : List Nat} (l' : List (Nat × AV)) (hk : Q .normal (stA l')) (h : ∀ P : List (Nat × AV) → Prop, P l' → wpT Cc (stA l) ros none (fun _ s => P (kpA k s)) := by
  intro P hP
  simp only [V0.down, simprocAttr, ZZ.down]
  (try simp only [VN.down, simprocAttr, ZZ.down] at hP ⊢)
  exact hP) : wpC Cc (.reg ros (some k)) Q (stA l) :=
  w_reg (w_abs l' (h) hk)
theorem wrc {Q : Exit → St → Prop} {l : List (Nat × AV)} {ros : List RO} {k : List Nat} {g : FuncId} {ds : List AV} {r : AV} (ok : OkAt Cc g ds r []) (l' : List (Nat × AV)) (hk : Q .normal (stA l')) (h : OkAt Cc g ds r [] → ∀ P : List (Nat × AV) → Prop, P l' → wpT Cc (stA l) ros none (fun _ s => P (kpA k s)) := by
  intro okk P hP
  (try simp only [V0.down, simprocAttr, ZZ.down])
  refine w_call0 okk rfl rfl rfl rfl (.inl (by rfl)) ?_
  simp only [V0.down, simprocAttr, ZZ.down]
  (try simp only [VN.down, simprocAttr, ZZ.down] at hP ⊢)
  exact hP) : wpC Cc (.reg ros (some k)) Q (stA l) :=
  w_reg (w_abs l' (h ok) hk)
theorem wrf {F : Prop} (hF : F) {Q : Exit → St → Prop} {l : List (Nat × AV)} {ros : List RO} {k : List Nat} (l' : List (Nat × AV)) (hk : Q .normal (stA l')) (h : F → ∀ P : List (Nat × AV) → Prop, P l' → wpT Cc (stA l) ros none (fun _ s => P (kpA k s)) := by
  intro hF P hP
  simp only [V0.down, simprocAttr, ZZ.down, hF]
  (try simp only [VN.down, simprocAttr, ZZ.down, hF] at hP ⊢)
  exact hP) : wpC Cc (.reg ros (some k)) Q (stA l) :=
  w_reg (w_abs l' (h hF) hk)
theorem wrcf {F : Prop} (hF : F) {Q : Exit → St → Prop} {l : List (Nat × AV)} {ros : List RO} {k : List Nat} {g : FuncId} {ds : List AV} {r : AV} (ok : OkAt Cc g ds r []) (l' : List (Nat × AV)) (hk : Q .normal (stA l')) (h : OkAt Cc g ds r [] → F → ∀ P : List (Nat × AV) → Prop, P l' → wpT Cc (stA l) ros none (fun _ s => P (kpA k s)) := by
  intro okk hF P hP
  (try simp only [V0.down, simprocAttr, ZZ.down, hF])
  refine w_call0 okk rfl rfl rfl rfl (.inl (by rfl)) ?_
  simp only [V0.down, simprocAttr, ZZ.down, hF]
  (try simp only [VN.down, simprocAttr, ZZ.down, hF] at hP ⊢)
  exact hP) : wpC Cc (.reg ros (some k)) Q (stA l) :=
  w_reg (w_abs l' (h ok hF) hk)
def zz0 := PLift.up (And.intro @e_impl_Definition.eq_1 (And.intro @e_impl_Part.eq_1 (And.intro @e_impl_Term.eq_1 @e_s_impl_Term.eq_1)))
def zz1 := PLift.up (And.intro @tt2 (And.intro @tt9 (And.intro @tt27 (And.intro @tt45 (And.intro @tt47 (And.intro @tt53 (And.intro @tt55 (And.intro @tt87 (And.intro @tt123 (And.intro @e_impl_Definition.eq_1 (And.intro @e_impl_Part.eq_1 (And.intro @e_impl_Term.eq_1 @e_s_impl_Term.eq_1))))))))))))
def zz2 := PLift.up (And.intro @e_i64.eq_1 (And.intro @e_impl_Term.eq_1 (And.intro @e_laws_Definition.eq_1 (And.intro @e_laws_Part.eq_1 (And.intro @e_laws_Term.eq_1 (And.intro @e_s_laws_Term.eq_1 (And.intro @u_impl_Definition.eq_1 (And.intro @u_impl_Part.eq_1 @u_s_impl_Term.eq_1))))))))
def zz3 := PLift.up (And.intro @e_i64.eq_1 (And.intro @e_laws_Definition.eq_1 (And.intro @e_laws_Part.eq_1 (And.intro @e_laws_Term.eq_1 @e_s_laws_Term.eq_1))))
def zz4 := PLift.up (And.intro @e_impl_Part.eq_1 (And.intro @e_impl_Term.eq_1 @e_s_impl_Term.eq_1))
def zz5 := PLift.up (And.intro @tt2 (And.intro @tt87 (And.intro @tt123 @e_impl_Term.eq_1)))
def zz6 := PLift.up (And.intro @e_impl_Definition.eq_1 (And.intro @e_impl_Part.eq_1 (And.intro @e_impl_Term.eq_1 (And.intro @e_impl_place.eq_1 @e_s_impl_Term.eq_1))))
def zz7 := PLift.up (And.intro @tt2 (And.intro @tt9 (And.intro @tt53 (And.intro @tt55 (And.intro @tt87 (And.intro @tt123 (And.intro @e_impl_Part.eq_1 (And.intro @e_impl_Term.eq_1 @e_s_impl_Term.eq_1))))))))
def zz8 := PLift.up (And.intro @tt2 (And.intro @tt9 (And.intro @tt45 (And.intro @tt47 (And.intro @tt53 (And.intro @tt55 (And.intro @tt87 (And.intro @tt123 (And.intro @e_impl_Definition.eq_1 (And.intro @e_impl_Part.eq_1 (And.intro @e_impl_Term.eq_1 @e_s_impl_Term.eq_1)))))))))))
def zz9 := PLift.up (And.intro @tt2 (And.intro @tt9 (And.intro @tt27 (And.intro @tt45 (And.intro @tt47 (And.intro @tt53 (And.intro @tt55 (And.intro @tt87 (And.intro @tt123 (And.intro @e_impl_Definition.eq_1 (And.intro @e_impl_Part.eq_1 (And.intro @e_impl_Term.eq_1 (And.intro @e_impl_place.eq_1 @e_s_impl_Term.eq_1)))))))))))))
def zz10 := PLift.up (And.intro @tt2 (And.intro @tt9 (And.intro @tt45 (And.intro @tt53 (And.intro @tt55 (And.intro @tt87 (And.intro @tt123 (And.intro @e_impl_Term.eq_1 (And.intro @u_impl_Part.eq_1 @u_s_impl_Term.eq_1)))))))))
def zz11 := PLift.up (And.intro @e_i64.eq_1 (And.intro @e_impl_Part.eq_1 (And.intro @e_impl_Term.eq_1 @e_s_impl_Term.eq_1)))
def zz12 := PLift.up (And.intro @tt2 (And.intro @tt9 (And.intro @tt27 (And.intro @tt45 (And.intro @tt47 (And.intro @tt53 (And.intro @tt55 (And.intro @tt87 (And.intro @tt123 (And.intro @e_impl_Term.eq_1 (And.intro @u_impl_Definition.eq_1 (And.intro @u_impl_Part.eq_1 @u_s_impl_Term.eq_1))))))))))))
def zz13 := PLift.up (And.intro @tt2 (And.intro @tt9 (And.intro @tt53 (And.intro @tt55 (And.intro @tt87 (And.intro @tt123 (And.intro @e_impl_Definition.eq_1 (And.intro @e_impl_Part.eq_1 (And.intro @e_impl_Term.eq_1 @e_s_impl_Term.eq_1)))))))))
def zz14 := PLift.up (And.intro @e_impl_Part.eq_1 (And.intro @e_impl_Term.eq_1 (And.intro @e_impl_place.eq_1 @e_s_impl_Term.eq_1)))
def zz15 := PLift.up (And.intro @tt2 (And.intro @tt9 (And.intro @tt45 (And.intro @tt53 (And.intro @tt55 (And.intro @tt87 (And.intro @tt123 (And.intro @e_impl_Part.eq_1 (And.intro @e_impl_Term.eq_1 @e_s_impl_Term.eq_1)))))))))
def zz16 := PLift.up (And.intro @tt2 (And.intro @tt4 (And.intro @tt9 (And.intro @tt53 (And.intro @tt55 (And.intro @tt87 (And.intro @tt114 (And.intro @tt123 (And.intro @e_impl_Part.eq_1 (And.intro @e_impl_Term.eq_1 (And.intro @e_impl_place.eq_1 @e_s_impl_Term.eq_1)))))))))))
def zz17 := PLift.up (And.intro @tt2 (And.intro @tt9 (And.intro @tt53 (And.intro @tt55 (And.intro @tt87 (And.intro @tt123 (And.intro @e_impl_Definition.eq_1 (And.intro @e_impl_Part.eq_1 (And.intro @e_impl_Term.eq_1 (And.intro @e_impl_place.eq_1 @e_s_impl_Term.eq_1))))))))))
def zz18 := PLift.up (And.intro @e_impl_Term.eq_1 (And.intro @u_impl_Part.eq_1 @u_s_impl_Term.eq_1))
def zz19 := PLift.up (And.intro @tt2 (And.intro @tt9 (And.intro @tt45 (And.intro @tt53 (And.intro @tt55 (And.intro @tt87 (And.intro @tt123 (And.intro @e_i64.eq_1 (And.intro @e_impl_Part.eq_1 (And.intro @e_impl_Term.eq_1 @e_s_impl_Term.eq_1))))))))))
def zz20 := PLift.up (And.intro @tt2 (And.intro @tt4 (And.intro @tt114 (And.intro @tt139 (And.intro @e_impl_Definition.eq_1 (And.intro @e_impl_Part.eq_1 (And.intro @e_impl_Term.eq_1 (And.intro @e_impl_place.eq_1 @e_s_impl_Term.eq_1))))))))
def zz21 := PLift.up (And.intro @tt2 (And.intro @tt4 (And.intro @tt9 (And.intro @tt45 (And.intro @tt47 (And.intro @tt53 (And.intro @tt55 (And.intro @tt87 (And.intro @tt114 (And.intro @tt123 (And.intro @tt139 (And.intro @e_impl_Definition.eq_1 (And.intro @e_impl_Part.eq_1 (And.intro @e_impl_Term.eq_1 (And.intro @e_impl_place.eq_1 @e_s_impl_Term.eq_1)))))))))))))))
def zz22 := PLift.up (And.intro @tt2 (And.intro @tt9 (And.intro @tt53 (And.intro @tt55 (And.intro @tt87 (And.intro @tt123 (And.intro @e_impl_Part.eq_1 (And.intro @e_impl_Term.eq_1 (And.intro @e_impl_place.eq_1 @e_s_impl_Term.eq_1)))))))))

theorem ok_laws_szTermS (a0 : List laws_Term) (a1 : Int) (r : Int) (h : laws_szTermS a0 a1 = some r) : OkAt Cc 98 [.slice (a0.map e_laws_Term), .int .i64 a1] (.int .i64 r) [] := by
 refine OkAt.of_wpR (fx := [0]) Cc_ok [.tmp 4] [(0, .slice (a0.map e_laws_Term)), (1, .int .i64 a1)] Try.func98 rfl rfl s98 (Nat.le_of_ble_eq_true rfl) rfl rfl (fun Q0 r0 n0 => ?_)
 refine ws _ ?_
 refine ws _ ?_
 refine w_seq (fun Q3 n3 q3 x3 => ?_)
 refine ws _ ?_
 rcases condE h with ⟨b5, h⟩ | ⟨b5, h⟩
 ·refine w_ct (congrArg AV.bool b5) ?_
  simp only [b5, Bool.not_true, Bool.not_false]
  refine ws _ ?_
  exact w_ret (q3 _ (r0 _ (.inl (w_fin [.int .i64 (-1)] rfl (by cases someE h; rfl) (by decide) outs_nil))))
 ·refine w_cf (congrArg AV.bool b5) ?_
  simp only [b5, Bool.not_true, Bool.not_false]
  refine w_skip (n3 _ (.inl ?_))
  refine ws _ ?_
  exact w_ret (r0 _ (.inl (w_fin [.int .i64 (IntKind.i64.wrap (a1 - (a0.length : Int)))] rfl (by cases someE h; rfl) (by decide) outs_nil)))

theorem ok_laws_szTermSS (a0 : List (List laws_Term)) (a1 : Int) (r : Int) (h : laws_szTermSS a0 a1 = some r) : OkAt Cc 68 [.slice (a0.map e_s_laws_Term), .int .i64 a1] (.int .i64 r) [] := by
 refine OkAt.of_wpR (fx := [0]) Cc_ok [.tmp 4] [(0, .slice (a0.map e_s_laws_Term)), (1, .int .i64 a1)] Try.func68 rfl rfl s68 (Nat.le_of_ble_eq_true rfl) rfl rfl (fun Q0 r0 n0 => ?_)
 refine ws _ ?_
 refine ws _ ?_
 refine w_seq (fun Q3 n3 q3 x3 => ?_)
 refine ws _ ?_
 rcases condE h with ⟨b5, h⟩ | ⟨b5, h⟩
 ·refine w_ct (congrArg AV.bool b5) ?_
  simp only [b5, Bool.not_true, Bool.not_false]
  refine ws _ ?_
  exact w_ret (q3 _ (r0 _ (.inl (w_fin [.int .i64 (-1)] rfl (by cases someE h; rfl) (by decide) outs_nil))))
 ·refine w_cf (congrArg AV.bool b5) ?_
  simp only [b5, Bool.not_true, Bool.not_false]
  refine w_skip (n3 _ (.inl ?_))
  refine w_seq (fun Q7 n7 q7 x7 => ?_)
  refine ws _ ?_
  refine w_blk (fun Q9 n9 q9 b9 x9 => ?_)
  have L16 : ∀ (n : Nat) (v1_16 : Int) (v5_16 : Int), laws_szTermSS_l16 a0 n v1_16 v5_16 = some r → lpC Cc c68_17 Q9 (stA [(0, .slice (a0.map e_s_laws_Term)), (1, .int .i64 v1_16), (5, .int .i64 v5_16)]) := by
   intro m16
   induction m16 with
   | zero => intro v1_16 v5_16 h; cases (show none = some r from h)
   | succ m16 ih16 =>
    intro v1_16 v5_16 h
    replace h : laws_szTermSS_b16 (laws_szTermSS_l16 a0 m16) a0 v1_16 v5_16 = some r := h
    refine lpC_step (fun Q10 n10 q10 x10 => ?_)
    refine w_seq (fun Q11 n11 q11 x11 => ?_)
    refine ws _ ?_
    rcases condE h with ⟨b13, h⟩ | ⟨b13, h⟩
    ·refine w_ct (congrArg AV.bool b13) ?_
     simp only [b13, Bool.not_true, Bool.not_false]
     refine w_skip (n11 _ (.inl ?_))
     refine w_seq (fun Q14 n14 q14 x14 => ?_)
     refine w_blk (fun Q15 n15 q15 b15 x15 => ?_)
     obtain ⟨x1, e17, h⟩ := bindE h
     obtain ⟨x2, e18, h⟩ := bindE h
     refine wscf e17 (ok_laws_szTermS x1 v1_16 _ e18) _ ?_
     refine ws _ ?_
     rcases condE h with ⟨b20, h⟩ | ⟨b20, h⟩
     ·refine w_ct (congrArg AV.bool b20) ?_
      simp only [b20, Bool.not_true, Bool.not_false]
      refine ws _ ?_
      exact w_ret (q15 _ (q14 _ (q10 _ (q9 _ (q7 _ (r0 _ (.inl (w_fin [.int .i64 (-1)] rfl (by cases someE h; rfl) (by decide) outs_nil))))))))
     ·refine w_cf (congrArg AV.bool b20) ?_
      simp only [b20, Bool.not_true, Bool.not_false]
      refine w_skip (n15 _ (n14 _ (.inl ?_)))
      refine wr _ ?_
      exact n10 _ (.inr ⟨_, weak_eq rfl, ih16 x2 (IntKind.i64.wrap (v5_16 + 1)) h⟩)
    ·refine w_cf (congrArg AV.bool b13) ?_
     simp only [b13, Bool.not_true, Bool.not_false]
     refine w_ex (x11 0 _ (x10 0 _ (b9 _ (n7 _ (.inl ?_)))))
     refine ws _ ?_
     exact w_ret (r0 _ (.inl (w_fin [.int .i64 v1_16] rfl (by cases someE h; rfl) (by decide) outs_nil)))
  obtain ⟨n, h⟩ := limE h
  exact w_loop (.inr ⟨_, weak_eq rfl, L16 n (IntKind.i64.wrap (a1 - (a0.length : Int))) 0 h⟩)

theorem ok_laws_szPart (a0 : laws_Part) (a1 : Int) (r : Int) (h : laws_szPart a0 a1 = some r) : OkAt Cc 45 [e_laws_Part a0, .int .i64 a1] (.int .i64 r) [] := by
 refine OkAt.of_wpR (fx := [0]) Cc_ok [.tmp 4] [(0, e_laws_Part a0), (1, .int .i64 a1)] Try.func45 rfl rfl s45 (Nat.le_of_ble_eq_true rfl) rfl rfl (fun Q0 r0 n0 => ?_)
 refine ws _ ?_
 refine ws _ ?_
 refine w_seq (fun Q3 n3 q3 x3 => ?_)
 refine ws _ ?_
 rcases condE h with ⟨b5, h⟩ | ⟨b5, h⟩
 ·refine w_ct (congrArg AV.bool b5) ?_
  simp only [b5, Bool.not_true, Bool.not_false]
  refine ws _ ?_
  exact w_ret (q3 _ (r0 _ (.inl (w_fin [.int .i64 (-1)] rfl (by cases someE h; rfl) (by decide) outs_nil))))
 ·refine w_cf (congrArg AV.bool b5) ?_
  simp only [b5, Bool.not_true, Bool.not_false]
  refine w_skip (n3 _ (.inl ?_))
  obtain ⟨x1, e8, h⟩ := bindE h
  refine wsc (ok_laws_szTermSS a0.Arguments (IntKind.i64.wrap (a1 - (a0.Name.length : Int))) _ e8) _ ?_
  refine w_seq (fun Q9 n9 q9 x9 => ?_)
  refine ws _ ?_
  rcases condE h with ⟨b11, h⟩ | ⟨b11, h⟩
  ·refine w_ct (congrArg AV.bool b11) ?_
   simp only [b11, Bool.not_true, Bool.not_false]
   refine ws _ ?_
   exact w_ret (q9 _ (r0 _ (.inl (w_fin [.int .i64 (-1)] rfl (by cases someE h; rfl) (by decide) outs_nil))))
  ·refine w_cf (congrArg AV.bool b11) ?_
   simp only [b11, Bool.not_true, Bool.not_false]
   refine w_skip (n9 _ (.inl ?_))
   refine ws _ ?_
   exact w_ret (r0 _ (.inl (w_fin [.int .i64 x1] rfl (by cases someE h; rfl) (by decide) outs_nil)))

theorem ok_laws_szPartS (a0 : List laws_Part) (a1 : Int) (r : Int) (h : laws_szPartS a0 a1 = some r) : OkAt Cc 31 [.slice (a0.map e_laws_Part), .int .i64 a1] (.int .i64 r) [] := by
 refine OkAt.of_wpR (fx := [0]) Cc_ok [.tmp 4] [(0, .slice (a0.map e_laws_Part)), (1, .int .i64 a1)] Try.func31 rfl rfl s31 (Nat.le_of_ble_eq_true rfl) rfl rfl (fun Q0 r0 n0 => ?_)
 refine ws _ ?_
 refine ws _ ?_
 refine w_seq (fun Q3 n3 q3 x3 => ?_)
 refine ws _ ?_
 rcases condE h with ⟨b5, h⟩ | ⟨b5, h⟩
 ·refine w_ct (congrArg AV.bool b5) ?_
  simp only [b5, Bool.not_true, Bool.not_false]
  refine ws _ ?_
  exact w_ret (q3 _ (r0 _ (.inl (w_fin [.int .i64 (-1)] rfl (by cases someE h; rfl) (by decide) outs_nil))))
 ·refine w_cf (congrArg AV.bool b5) ?_
  simp only [b5, Bool.not_true, Bool.not_false]
  refine w_skip (n3 _ (.inl ?_))
  refine w_seq (fun Q7 n7 q7 x7 => ?_)
  refine ws _ ?_
  refine w_blk (fun Q9 n9 q9 b9 x9 => ?_)
  have L16 : ∀ (n : Nat) (v1_16 : Int) (v5_16 : Int), laws_szPartS_l16 a0 n v1_16 v5_16 = some r → lpC Cc c31_17 Q9 (stA [(0, .slice (a0.map e_laws_Part)), (1, .int .i64 v1_16), (5, .int .i64 v5_16)]) := by
   intro m16
   induction m16 with
   | zero => intro v1_16 v5_16 h; cases (show none = some r from h)
   | succ m16 ih16 =>
    intro v1_16 v5_16 h
    replace h : laws_szPartS_b16 (laws_szPartS_l16 a0 m16) a0 v1_16 v5_16 = some r := h
    refine lpC_step (fun Q10 n10 q10 x10 => ?_)
    refine w_seq (fun Q11 n11 q11 x11 => ?_)
    refine ws _ ?_
    rcases condE h with ⟨b13, h⟩ | ⟨b13, h⟩
    ·refine w_ct (congrArg AV.bool b13) ?_
     simp only [b13, Bool.not_true, Bool.not_false]
     refine w_skip (n11 _ (.inl ?_))
     refine w_seq (fun Q14 n14 q14 x14 => ?_)
     refine w_blk (fun Q15 n15 q15 b15 x15 => ?_)
     obtain ⟨x1, e17, h⟩ := bindE h
     obtain ⟨x2, e18, h⟩ := bindE h
     refine wscf e17 (ok_laws_szPart x1 v1_16 _ e18) _ ?_
     refine ws _ ?_
     rcases condE h with ⟨b20, h⟩ | ⟨b20, h⟩
     ·refine w_ct (congrArg AV.bool b20) ?_
      simp only [b20, Bool.not_true, Bool.not_false]
      refine ws _ ?_
      exact w_ret (q15 _ (q14 _ (q10 _ (q9 _ (q7 _ (r0 _ (.inl (w_fin [.int .i64 (-1)] rfl (by cases someE h; rfl) (by decide) outs_nil))))))))
     ·refine w_cf (congrArg AV.bool b20) ?_
      simp only [b20, Bool.not_true, Bool.not_false]
      refine w_skip (n15 _ (n14 _ (.inl ?_)))
      refine wr _ ?_
      exact n10 _ (.inr ⟨_, weak_eq rfl, ih16 x2 (IntKind.i64.wrap (v5_16 + 1)) h⟩)
    ·refine w_cf (congrArg AV.bool b13) ?_
     simp only [b13, Bool.not_true, Bool.not_false]
     refine w_ex (x11 0 _ (x10 0 _ (b9 _ (n7 _ (.inl ?_)))))
     refine ws _ ?_
     exact w_ret (r0 _ (.inl (w_fin [.int .i64 v1_16] rfl (by cases someE h; rfl) (by decide) outs_nil)))
  obtain ⟨n, h⟩ := limE h
  exact w_loop (.inr ⟨_, weak_eq rfl, L16 n (IntKind.i64.wrap (a1 - (a0.length : Int))) 0 h⟩)

theorem ok_laws_szDefinition (a0 : laws_Definition) (a1 : Int) (r : Int) (h : laws_szDefinition a0 a1 = some r) : OkAt Cc 19 [e_laws_Definition a0, .int .i64 a1] (.int .i64 r) [] := by
 refine OkAt.of_wpR (fx := [0]) Cc_ok [.tmp 4] [(0, e_laws_Definition a0), (1, .int .i64 a1)] Try.func19 rfl rfl s19 (Nat.le_of_ble_eq_true rfl) rfl rfl (fun Q0 r0 n0 => ?_)
 refine ws _ ?_
 refine ws _ ?_
 refine w_seq (fun Q3 n3 q3 x3 => ?_)
 refine ws _ ?_
 rcases condE h with ⟨b5, h⟩ | ⟨b5, h⟩
 ·refine w_ct (congrArg AV.bool b5) ?_
  simp only [b5, Bool.not_true, Bool.not_false]
  refine ws _ ?_
  exact w_ret (q3 _ (r0 _ (.inl (w_fin [.int .i64 (-1)] rfl (by cases someE h; rfl) (by decide) outs_nil))))
 ·refine w_cf (congrArg AV.bool b5) ?_
  simp only [b5, Bool.not_true, Bool.not_false]
  refine w_skip (n3 _ (.inl ?_))
  obtain ⟨x1, e8, h⟩ := bindE h
  refine wsc (ok_laws_szPartS a0.Body (IntKind.i64.wrap (a1 - (a0.Name.length : Int))) _ e8) _ ?_
  refine w_seq (fun Q9 n9 q9 x9 => ?_)
  refine ws _ ?_
  rcases condE h with ⟨b11, h⟩ | ⟨b11, h⟩
  ·refine w_ct (congrArg AV.bool b11) ?_
   simp only [b11, Bool.not_true, Bool.not_false]
   refine ws _ ?_
   exact w_ret (q9 _ (r0 _ (.inl (w_fin [.int .i64 (-1)] rfl (by cases someE h; rfl) (by decide) outs_nil))))
  ·refine w_cf (congrArg AV.bool b11) ?_
   simp only [b11, Bool.not_true, Bool.not_false]
   refine w_skip (n9 _ (.inl ?_))
   refine ws _ ?_
   exact w_ret (r0 _ (.inl (w_fin [.int .i64 x1] rfl (by cases someE h; rfl) (by decide) outs_nil)))

theorem ok_laws_szDefinitionS (a0 : List laws_Definition) (a1 : Int) (r : Int) (h : laws_szDefinitionS a0 a1 = some r) : OkAt Cc 5 [.slice (a0.map e_laws_Definition), .int .i64 a1] (.int .i64 r) [] := by
 refine OkAt.of_wpR (fx := [0]) Cc_ok [.tmp 4] [(0, .slice (a0.map e_laws_Definition)), (1, .int .i64 a1)] Try.func5 rfl rfl s5 (Nat.le_of_ble_eq_true rfl) rfl rfl (fun Q0 r0 n0 => ?_)
 refine ws _ ?_
 refine ws _ ?_
 refine w_seq (fun Q3 n3 q3 x3 => ?_)
 refine ws _ ?_
 rcases condE h with ⟨b5, h⟩ | ⟨b5, h⟩
 ·refine w_ct (congrArg AV.bool b5) ?_
  simp only [b5, Bool.not_true, Bool.not_false]
  refine ws _ ?_
  exact w_ret (q3 _ (r0 _ (.inl (w_fin [.int .i64 (-1)] rfl (by cases someE h; rfl) (by decide) outs_nil))))
 ·refine w_cf (congrArg AV.bool b5) ?_
  simp only [b5, Bool.not_true, Bool.not_false]
  refine w_skip (n3 _ (.inl ?_))
  refine w_seq (fun Q7 n7 q7 x7 => ?_)
  refine ws _ ?_
  refine w_blk (fun Q9 n9 q9 b9 x9 => ?_)
  have L16 : ∀ (n : Nat) (v1_16 : Int) (v5_16 : Int), laws_szDefinitionS_l16 a0 n v1_16 v5_16 = some r → lpC Cc c5_17 Q9 (stA [(0, .slice (a0.map e_laws_Definition)), (1, .int .i64 v1_16), (5, .int .i64 v5_16)]) := by
   intro m16
   induction m16 with
   | zero => intro v1_16 v5_16 h; cases (show none = some r from h)
   | succ m16 ih16 =>
    intro v1_16 v5_16 h
    replace h : laws_szDefinitionS_b16 (laws_szDefinitionS_l16 a0 m16) a0 v1_16 v5_16 = some r := h
    refine lpC_step (fun Q10 n10 q10 x10 => ?_)
    refine w_seq (fun Q11 n11 q11 x11 => ?_)
    refine ws _ ?_
    rcases condE h with ⟨b13, h⟩ | ⟨b13, h⟩
    ·refine w_ct (congrArg AV.bool b13) ?_
     simp only [b13, Bool.not_true, Bool.not_false]
     refine w_skip (n11 _ (.inl ?_))
     refine w_seq (fun Q14 n14 q14 x14 => ?_)
     refine w_blk (fun Q15 n15 q15 b15 x15 => ?_)
     obtain ⟨x1, e17, h⟩ := bindE h
     obtain ⟨x2, e18, h⟩ := bindE h
     refine wscf e17 (ok_laws_szDefinition x1 v1_16 _ e18) _ ?_
     refine ws _ ?_
     rcases condE h with ⟨b20, h⟩ | ⟨b20, h⟩
     ·refine w_ct (congrArg AV.bool b20) ?_
      simp only [b20, Bool.not_true, Bool.not_false]
      refine ws _ ?_
      exact w_ret (q15 _ (q14 _ (q10 _ (q9 _ (q7 _ (r0 _ (.inl (w_fin [.int .i64 (-1)] rfl (by cases someE h; rfl) (by decide) outs_nil))))))))
     ·refine w_cf (congrArg AV.bool b20) ?_
      simp only [b20, Bool.not_true, Bool.not_false]
      refine w_skip (n15 _ (n14 _ (.inl ?_)))
      refine wr _ ?_
      exact n10 _ (.inr ⟨_, weak_eq rfl, ih16 x2 (IntKind.i64.wrap (v5_16 + 1)) h⟩)
    ·refine w_cf (congrArg AV.bool b13) ?_
     simp only [b13, Bool.not_true, Bool.not_false]
     refine w_ex (x11 0 _ (x10 0 _ (b9 _ (n7 _ (.inl ?_)))))
     refine ws _ ?_
     exact w_ret (r0 _ (.inl (w_fin [.int .i64 v1_16] rfl (by cases someE h; rfl) (by decide) outs_nil)))
  obtain ⟨n, h⟩ := limE h
  exact w_loop (.inr ⟨_, weak_eq rfl, L16 n (IntKind.i64.wrap (a1 - (a0.length : Int))) 0 h⟩)

theorem ok_laws_toTerm (a0 : laws_Term) (r : impl_Term) (h : laws_toTerm a0 = some r) : OkAt Cc 121 [e_laws_Term a0] (e_impl_Term r) [] := by
 refine OkAt.of_wpR (fx := [0]) Cc_ok [.cell 2 123] [(0, e_laws_Term a0)] Try.func121 rfl rfl s121 (Nat.le_of_ble_eq_true rfl) rfl rfl (fun Q0 r0 n0 => ?_)
 refine ws _ ?_
 refine ws _ ?_
 refine ws _ ?_
 refine ws _ ?_
 refine ws _ ?_
 exact w_ret (r0 _ (.inl (w_fin [e_impl_Term (impl_Term.mk a0.Kind a0.Value)] rfl (by cases someE h; rfl) (by decide) outs_nil)))

theorem ok_laws_toTermS (a0 : List laws_Term) (r : (List impl_Term)) (h : laws_toTermS a0 = some r) : OkAt Cc 103 [.slice (a0.map e_laws_Term)] (.uslice 2 (r.map e_impl_Term)) [] := by
 refine OkAt.of_wpR (fx := [0]) Cc_ok [.tmp 2] [(0, .slice (a0.map e_laws_Term))] Try.func103 rfl rfl s103 (Nat.le_of_ble_eq_true rfl) rfl rfl (fun Q0 r0 n0 => ?_)
 refine ws _ ?_
 obtain ⟨u18, e3, h⟩ := bindE h
 refine w_sreg (w_abs [(0, .slice (a0.map e_laws_Term)), (3, .uslice 2 ((List.replicate (Int.toNat (a0.length : Int)) (impl_Term.mk 0 0)).map e_impl_Term))] (fun P hP => ?_) ?_)
 ·simp only [V0.down, simprocAttr, tt2, tt87, tt123, tt131, tt155, e_impl_Term, e_laws_Term, (mkOkE e3).1, (mkOkE e3).2.1, (mkOkE e3).2.2, mks, List.map_replicate, -Int.reduceNatCast']
  (try simp only [VN.down, simprocAttr, e_impl_Term, e_laws_Term, (mkOkE e3).1, (mkOkE e3).2.1, (mkOkE e3).2.2, mks, List.map_replicate, -Int.reduceNatCast'] at hP ⊢); exact hP
 refine w_seq (fun Q4 n4 q4 x4 => ?_)
 refine ws [(0, .slice (a0.map e_laws_Term)), (3, .uslice 2 ((List.replicate (Int.toNat (a0.length : Int)) (impl_Term.mk 0 0)).map e_impl_Term)), (4, .int .i64 0)] ?_
 refine w_blk (fun Q6 n6 q6 b6 x6 => ?_)
 have L8 : ∀ (n : Nat) (v3_8 : List impl_Term) (v4_8 : Int), laws_toTermS_l8 a0 n v3_8 v4_8 = some r → lpC Cc c103_9 Q6 (stA [(0, .slice (a0.map e_laws_Term)), (3, .uslice 2 (v3_8.map e_impl_Term)), (4, .int .i64 v4_8)]) := by
  intro m8
  induction m8 with
  | zero => intro v3_8 v4_8 h; cases (show none = some r from h)
  | succ m8 ih8 =>
   intro v3_8 v4_8 h
   replace h : laws_toTermS_b8 (laws_toTermS_l8 a0 m8) a0 v3_8 v4_8 = some r := h
   refine lpC_step (fun Q7 n7 q7 x7 => ?_)
   refine w_seq (fun Q8 n8 q8 x8 => ?_)
   refine ws _ ?_
   rcases condE h with ⟨b10, h⟩ | ⟨b10, h⟩
   ·refine w_ct (congrArg AV.bool b10) ?_
    simp only [b10, Bool.not_true, Bool.not_false]
    refine w_skip (n8 _ (.inl ?_))
    refine w_seq (fun Q11 n11 q11 x11 => ?_)
    refine w_blk (fun Q12 n12 q12 b12 x12 => ?_)
    obtain ⟨x1, e14, h⟩ := bindE h
    obtain ⟨x2, e15, h⟩ := bindE h
    obtain ⟨x3, e16, h⟩ := bindE h
    refine w_reg (w_abs [(0, .slice (a0.map e_laws_Term)), (3, .uslice 2 ((List.set v3_8 (Int.toNat v4_8) x2).map e_impl_Term)), (4, .int .i64 v4_8)] (fun P hP => ?_) ?_)
    ·simp only [V0.down, simprocAttr, tt2, tt87, tt123, tt131, tt155, e_impl_Term, e_laws_Term, e14, e16, getI_get e16, own_s, stoS]
     refine w_call0 (ok_laws_toTerm x1 _ e15) rfl rfl rfl rfl (.inl (by rfl)) ?_
     simp only [V0.down, simprocAttr, tt2, tt87, tt123, tt131, tt155, e_impl_Term, e_laws_Term, e14, e16, getI_get e16, own_s, stoS]
     (try simp only [VN.down, simprocAttr, e_impl_Term, e_laws_Term, e14, e16, getI_get e16, own_s, stoS] at hP ⊢); exact hP
    refine n12 _ (n11 _ (.inl ?_))
    refine wr [(0, .slice (a0.map e_laws_Term)), (3, .uslice 2 ((List.set v3_8 (Int.toNat v4_8) x2).map e_impl_Term)), (4, .int .i64 (IntKind.i64.wrap (v4_8 + 1)))] ?_
    exact n7 _ (.inr ⟨_, weak_eq rfl, ih8 (List.set v3_8 (Int.toNat v4_8) x2) (IntKind.i64.wrap (v4_8 + 1)) h⟩)
   ·refine w_cf (congrArg AV.bool b10) ?_
    simp only [b10, Bool.not_true, Bool.not_false]
    refine w_ex (x8 0 _ (x7 0 _ (b6 _ (n4 _ (.inl ?_)))))
    refine ws _ ?_
    exact w_ret (r0 _ (.inl (w_fin [.uslice 2 (v3_8.map e_impl_Term)] rfl (by cases someE h; rfl) (by decide) outs_nil)))
 obtain ⟨n, h⟩ := limE h
 exact w_loop (.inr ⟨_, weak_eq rfl, L8 n (List.replicate (Int.toNat (a0.length : Int)) (impl_Term.mk 0 0)) 0 h⟩)

theorem ok_laws_toTermSS (a0 : List (List laws_Term)) (r : (List (List impl_Term))) (h : laws_toTermSS a0 = some r) : OkAt Cc 73 [.slice (a0.map e_s_laws_Term)] (.uslice 1 (r.map u_s_impl_Term)) [] := by
 refine OkAt.of_wpR (fx := [0]) Cc_ok [.tmp 2] [(0, .slice (a0.map e_s_laws_Term))] Try.func73 rfl rfl s73 (Nat.le_of_ble_eq_true rfl) rfl rfl (fun Q0 r0 n0 => ?_)
 refine ws _ ?_
 obtain ⟨u18, e3, h⟩ := bindE h
 refine w_sreg (w_abs [(0, .slice (a0.map e_s_laws_Term)), (3, .uslice 1 (List.replicate (Int.toNat (a0.length : Int)) .nils))] (fun P hP => ?_) ?_)
 ·simp only [V0.down, simprocAttr, tt2, tt53, tt74, tt87, tt123, tt131, tt155, e_laws_Term, e_s_laws_Term, (mkOkE e3).1, (mkOkE e3).2.1, (mkOkE e3).2.2, mks, List.map_replicate, -Int.reduceNatCast']
  (try simp only [VN.down, simprocAttr, e_laws_Term, e_s_laws_Term, (mkOkE e3).1, (mkOkE e3).2.1, (mkOkE e3).2.2, mks, List.map_replicate, -Int.reduceNatCast'] at hP ⊢); exact hP
 refine w_seq (fun Q4 n4 q4 x4 => ?_)
 refine ws [(0, .slice (a0.map e_s_laws_Term)), (3, .uslice 1 (List.replicate (Int.toNat (a0.length : Int)) .nils)), (4, .int .i64 0)] ?_
 refine w_blk (fun Q6 n6 q6 b6 x6 => ?_)
 have L8 : ∀ (n : Nat) (v3_8 : List (List impl_Term)) (v4_8 : Int), laws_toTermSS_l8 a0 n v3_8 v4_8 = some r → lpC Cc c73_9 Q6 (stA [(0, .slice (a0.map e_s_laws_Term)), (3, .uslice 1 (v3_8.map u_s_impl_Term)), (4, .int .i64 v4_8)]) := by
  intro m8
  induction m8 with
  | zero => intro v3_8 v4_8 h; cases (show none = some r from h)
  | succ m8 ih8 =>
   intro v3_8 v4_8 h
   replace h : laws_toTermSS_b8 (laws_toTermSS_l8 a0 m8) a0 v3_8 v4_8 = some r := h
   refine lpC_step (fun Q7 n7 q7 x7 => ?_)
   refine w_seq (fun Q8 n8 q8 x8 => ?_)
   refine ws _ ?_
   rcases condE h with ⟨b10, h⟩ | ⟨b10, h⟩
   ·refine w_ct (congrArg AV.bool b10) ?_
    simp only [b10, Bool.not_true, Bool.not_false]
    refine w_skip (n8 _ (.inl ?_))
    refine w_seq (fun Q11 n11 q11 x11 => ?_)
    refine w_blk (fun Q12 n12 q12 b12 x12 => ?_)
    obtain ⟨x1, e14, h⟩ := bindE h
    obtain ⟨x2, e15, h⟩ := bindE h
    obtain ⟨x3, e16, h⟩ := bindE h
    refine w_reg (w_abs [(0, .slice (a0.map e_s_laws_Term)), (3, .uslice 1 ((List.set v3_8 (Int.toNat v4_8) x2).map u_s_impl_Term)), (4, .int .i64 v4_8)] (fun P hP => ?_) ?_)
    ·simp only [V0.down, simprocAttr, tt2, tt53, tt74, tt87, tt123, tt131, tt155, e_impl_Term, e_laws_Term, e_s_laws_Term, u_s_impl_Term, e14, e16, getI_get e16, own_s, stoS]
     refine w_call0 (ok_laws_toTermS x1 _ e15) rfl rfl rfl rfl (.inl (by rfl)) ?_
     simp only [V0.down, simprocAttr, tt2, tt53, tt74, tt87, tt123, tt131, tt155, e_impl_Term, e_laws_Term, e_s_laws_Term, u_s_impl_Term, e14, e16, getI_get e16, own_s, stoS]
     (try simp only [VN.down, simprocAttr, e_impl_Term, e_laws_Term, e_s_laws_Term, u_s_impl_Term, e14, e16, getI_get e16, own_s, stoS] at hP ⊢); exact hP
    refine n12 _ (n11 _ (.inl ?_))
    refine wr [(0, .slice (a0.map e_s_laws_Term)), (3, .uslice 1 ((List.set v3_8 (Int.toNat v4_8) x2).map u_s_impl_Term)), (4, .int .i64 (IntKind.i64.wrap (v4_8 + 1)))] ?_
    exact n7 _ (.inr ⟨_, weak_eq rfl, ih8 (List.set v3_8 (Int.toNat v4_8) x2) (IntKind.i64.wrap (v4_8 + 1)) h⟩)
   ·refine w_cf (congrArg AV.bool b10) ?_
    simp only [b10, Bool.not_true, Bool.not_false]
    refine w_ex (x8 0 _ (x7 0 _ (b6 _ (n4 _ (.inl ?_)))))
    refine ws _ ?_
    exact w_ret (r0 _ (.inl (w_fin [.uslice 1 (v3_8.map u_s_impl_Term)] rfl (by cases someE h; rfl) (by decide) outs_nil)))
 obtain ⟨n, h⟩ := limE h
 exact w_loop (.inr ⟨_, weak_mix [] rfl (wk_eq (t := 0) (d := .slice (a0.map e_s_laws_Term)) rfl (wk_wd (t := 3) (d := .uslice 1 (List.replicate (Int.toNat (a0.length : Int)) .nils)) (d' := .uslice 1 ((List.replicate (Int.toNat (a0.length : Int)) []).map u_s_impl_Term)) rfl rfl (wd_rep (u := u_s_impl_Term) (z := []) (.nilsU _) _) (by decide) (wk_eq (t := 4) (d := .int .i64 0) rfl (wk_nil)))), L8 n (List.replicate (Int.toNat (a0.length : Int)) []) 0 h⟩)

theorem ok_laws_toPart (a0 : laws_Part) (r : impl_Part) (h : laws_toPart a0 = some r) : OkAt Cc 48 [e_laws_Part a0] (u_impl_Part r) [] := by
 refine OkAt.of_wpR (fx := [0]) Cc_ok [.cell 2 55] [(0, e_laws_Part a0)] Try.func48 rfl rfl s48 (Nat.le_of_ble_eq_true rfl) rfl rfl (fun Q0 r0 n0 => ?_)
 refine ws _ ?_
 refine ws _ ?_
 refine ws _ ?_
 refine ws _ ?_
 refine ws _ ?_
 obtain ⟨x1, e7, h⟩ := bindE h
 refine wsc (ok_laws_toTermSS a0.Arguments _ e7) _ ?_
 refine ws _ ?_
 exact w_ret (r0 _ (.inl (w_fin [u_impl_Part (impl_Part.mk a0.Kind a0.Number a0.Name x1)] rfl (by cases someE h; rfl) (by decide) outs_nil)))

theorem ok_laws_toPartS (a0 : List laws_Part) (r : (List impl_Part)) (h : laws_toPartS a0 = some r) : OkAt Cc 35 [.slice (a0.map e_laws_Part)] (.uslice 4 (r.map u_impl_Part)) [] := by
 refine OkAt.of_wpR (fx := [0]) Cc_ok [.tmp 2] [(0, .slice (a0.map e_laws_Part))] Try.func35 rfl rfl s35 (Nat.le_of_ble_eq_true rfl) rfl rfl (fun Q0 r0 n0 => ?_)
 refine ws _ ?_
 obtain ⟨u18, e3, h⟩ := bindE h
 refine w_sreg (w_abs [(0, .slice (a0.map e_laws_Part)), (3, .uslice 4 (List.replicate (Int.toNat (a0.length : Int)) (.agg [(.int .i64 0), (.int .i64 0), (.str []), .nils])))] (fun P hP => ?_) ?_)
 ·simp only [V0.down, simprocAttr, tt2, tt9, tt40, tt45, tt53, tt55, tt74, tt76, tt87, tt123, tt131, tt155, e_laws_Part, e_laws_Term, e_s_laws_Term, (mkOkE e3).1, (mkOkE e3).2.1, (mkOkE e3).2.2, mks, List.map_replicate, -Int.reduceNatCast']
  (try simp only [VN.down, simprocAttr, e_laws_Part, e_laws_Term, e_s_laws_Term, (mkOkE e3).1, (mkOkE e3).2.1, (mkOkE e3).2.2, mks, List.map_replicate, -Int.reduceNatCast'] at hP ⊢); exact hP
 refine w_seq (fun Q4 n4 q4 x4 => ?_)
 refine ws [(0, .slice (a0.map e_laws_Part)), (3, .uslice 4 (List.replicate (Int.toNat (a0.length : Int)) (.agg [(.int .i64 0), (.int .i64 0), (.str []), .nils]))), (4, .int .i64 0)] ?_
 refine w_blk (fun Q6 n6 q6 b6 x6 => ?_)
 have L8 : ∀ (n : Nat) (v3_8 : List impl_Part) (v4_8 : Int), laws_toPartS_l8 a0 n v3_8 v4_8 = some r → lpC Cc c35_9 Q6 (stA [(0, .slice (a0.map e_laws_Part)), (3, .uslice 4 (v3_8.map u_impl_Part)), (4, .int .i64 v4_8)]) := by
  intro m8
  induction m8 with
  | zero => intro v3_8 v4_8 h; cases (show none = some r from h)
  | succ m8 ih8 =>
   intro v3_8 v4_8 h
   replace h : laws_toPartS_b8 (laws_toPartS_l8 a0 m8) a0 v3_8 v4_8 = some r := h
   refine lpC_step (fun Q7 n7 q7 x7 => ?_)
   refine w_seq (fun Q8 n8 q8 x8 => ?_)
   refine ws _ ?_
   rcases condE h with ⟨b10, h⟩ | ⟨b10, h⟩
   ·refine w_ct (congrArg AV.bool b10) ?_
    simp only [b10, Bool.not_true, Bool.not_false]
    refine w_skip (n8 _ (.inl ?_))
    refine w_seq (fun Q11 n11 q11 x11 => ?_)
    refine w_blk (fun Q12 n12 q12 b12 x12 => ?_)
    obtain ⟨x1, e14, h⟩ := bindE h
    obtain ⟨x2, e15, h⟩ := bindE h
    obtain ⟨x3, e16, h⟩ := bindE h
    refine w_reg (w_abs [(0, .slice (a0.map e_laws_Part)), (3, .uslice 4 ((List.set v3_8 (Int.toNat v4_8) x2).map u_impl_Part)), (4, .int .i64 v4_8)] (fun P hP => ?_) ?_)
    ·simp only [V0.down, simprocAttr, tt2, tt9, tt40, tt45, tt53, tt55, tt74, tt76, tt87, tt123, tt131, tt155, e_impl_Term, e_laws_Part, e_laws_Term, e_s_laws_Term, u_impl_Part, u_s_impl_Term, e14, e16, getI_get e16, own_s, stoS]
     refine w_call0 (ok_laws_toPart x1 _ e15) rfl rfl rfl rfl (.inl (by rfl)) ?_
     simp only [V0.down, simprocAttr, tt2, tt9, tt40, tt45, tt53, tt55, tt74, tt76, tt87, tt123, tt131, tt155, e_impl_Term, e_laws_Part, e_laws_Term, e_s_laws_Term, u_impl_Part, u_s_impl_Term, e14, e16, getI_get e16, own_s, stoS]
     (try simp only [VN.down, simprocAttr, e_impl_Term, e_laws_Part, e_laws_Term, e_s_laws_Term, u_impl_Part, u_s_impl_Term, e14, e16, getI_get e16, own_s, stoS] at hP ⊢); exact hP
    refine n12 _ (n11 _ (.inl ?_))
    refine wr [(0, .slice (a0.map e_laws_Part)), (3, .uslice 4 ((List.set v3_8 (Int.toNat v4_8) x2).map u_impl_Part)), (4, .int .i64 (IntKind.i64.wrap (v4_8 + 1)))] ?_
    exact n7 _ (.inr ⟨_, weak_eq rfl, ih8 (List.set v3_8 (Int.toNat v4_8) x2) (IntKind.i64.wrap (v4_8 + 1)) h⟩)
   ·refine w_cf (congrArg AV.bool b10) ?_
    simp only [b10, Bool.not_true, Bool.not_false]
    refine w_ex (x8 0 _ (x7 0 _ (b6 _ (n4 _ (.inl ?_)))))
    refine ws _ ?_
    exact w_ret (r0 _ (.inl (w_fin [.uslice 4 (v3_8.map u_impl_Part)] rfl (by cases someE h; rfl) (by decide) outs_nil)))
 obtain ⟨n, h⟩ := limE h
 exact w_loop (.inr ⟨_, weak_mix [] rfl (wk_eq (t := 0) (d := .slice (a0.map e_laws_Part)) rfl (wk_wd (t := 3) (d := .uslice 4 (List.replicate (Int.toNat (a0.length : Int)) (.agg [(.int .i64 0), (.int .i64 0), (.str []), .nils]))) (d' := .uslice 4 ((List.replicate (Int.toNat (a0.length : Int)) (impl_Part.mk 0 0 ([] : List UInt8) [])).map u_impl_Part)) rfl rfl (wd_rep (u := u_impl_Part) (z := (impl_Part.mk 0 0 ([] : List UInt8) [])) (.agg (.cons (.refl _) (.cons (.refl _) (.cons (.refl _) (.cons (.nilsU _) (.nil)))))) _) (by decide) (wk_eq (t := 4) (d := .int .i64 0) rfl (wk_nil)))), L8 n (List.replicate (Int.toNat (a0.length : Int)) (impl_Part.mk 0 0 ([] : List UInt8) [])) 0 h⟩)

theorem ok_laws_toDefinition (a0 : laws_Definition) (r : impl_Definition) (h : laws_toDefinition a0 = some r) : OkAt Cc 22 [e_laws_Definition a0] (u_impl_Definition r) [] := by
 refine OkAt.of_wpR (fx := [0]) Cc_ok [.cell 2 47] [(0, e_laws_Definition a0)] Try.func22 rfl rfl s22 (Nat.le_of_ble_eq_true rfl) rfl rfl (fun Q0 r0 n0 => ?_)
 refine ws _ ?_
 refine ws _ ?_
 refine ws _ ?_
 refine ws _ ?_
 obtain ⟨x1, e6, h⟩ := bindE h
 refine wsc (ok_laws_toPartS a0.Body _ e6) _ ?_
 refine ws _ ?_
 exact w_ret (r0 _ (.inl (w_fin [u_impl_Definition (impl_Definition.mk a0.Name a0.Parameters x1)] rfl (by cases someE h; rfl) (by decide) outs_nil)))

theorem ok_laws_toDefinitionS (a0 : List laws_Definition) (r : (List impl_Definition)) (h : laws_toDefinitionS a0 = some r) : OkAt Cc 7 [.slice (a0.map e_laws_Definition)] (.uslice 3 (r.map u_impl_Definition)) [] := by
 refine OkAt.of_wpR (fx := [0]) Cc_ok [.tmp 2] [(0, .slice (a0.map e_laws_Definition))] Try.func7 rfl rfl s7 (Nat.le_of_ble_eq_true rfl) rfl rfl (fun Q0 r0 n0 => ?_)
 refine ws _ ?_
 obtain ⟨u18, e3, h⟩ := bindE h
 refine w_sreg (w_abs [(0, .slice (a0.map e_laws_Definition)), (3, .uslice 3 (List.replicate (Int.toNat (a0.length : Int)) (.agg [(.str []), (.int .i64 0), .nils])))] (fun P hP => ?_) ?_)
 ·simp only [V0.down, simprocAttr, tt2, tt9, tt22, tt27, tt40, tt42, tt45, tt47, tt53, tt55, tt74, tt76, tt87, tt123, tt131, tt155, e_laws_Definition, e_laws_Part, e_laws_Term, e_s_laws_Term, (mkOkE e3).1, (mkOkE e3).2.1, (mkOkE e3).2.2, mks, List.map_replicate, -Int.reduceNatCast']
  (try simp only [VN.down, simprocAttr, e_laws_Definition, e_laws_Part, e_laws_Term, e_s_laws_Term, (mkOkE e3).1, (mkOkE e3).2.1, (mkOkE e3).2.2, mks, List.map_replicate, -Int.reduceNatCast'] at hP ⊢); exact hP
 refine w_seq (fun Q4 n4 q4 x4 => ?_)
 refine ws [(0, .slice (a0.map e_laws_Definition)), (3, .uslice 3 (List.replicate (Int.toNat (a0.length : Int)) (.agg [(.str []), (.int .i64 0), .nils]))), (4, .int .i64 0)] ?_
 refine w_blk (fun Q6 n6 q6 b6 x6 => ?_)
 have L8 : ∀ (n : Nat) (v3_8 : List impl_Definition) (v4_8 : Int), laws_toDefinitionS_l8 a0 n v3_8 v4_8 = some r → lpC Cc c7_9 Q6 (stA [(0, .slice (a0.map e_laws_Definition)), (3, .uslice 3 (v3_8.map u_impl_Definition)), (4, .int .i64 v4_8)]) := by
  intro m8
  induction m8 with
  | zero => intro v3_8 v4_8 h; cases (show none = some r from h)
  | succ m8 ih8 =>
   intro v3_8 v4_8 h
   replace h : laws_toDefinitionS_b8 (laws_toDefinitionS_l8 a0 m8) a0 v3_8 v4_8 = some r := h
   refine lpC_step (fun Q7 n7 q7 x7 => ?_)
   refine w_seq (fun Q8 n8 q8 x8 => ?_)
   refine ws _ ?_
   rcases condE h with ⟨b10, h⟩ | ⟨b10, h⟩
   ·refine w_ct (congrArg AV.bool b10) ?_
    simp only [b10, Bool.not_true, Bool.not_false]
    refine w_skip (n8 _ (.inl ?_))
    refine w_seq (fun Q11 n11 q11 x11 => ?_)
    refine w_blk (fun Q12 n12 q12 b12 x12 => ?_)
    obtain ⟨x1, e14, h⟩ := bindE h
    obtain ⟨x2, e15, h⟩ := bindE h
    obtain ⟨x3, e16, h⟩ := bindE h
    refine w_reg (w_abs [(0, .slice (a0.map e_laws_Definition)), (3, .uslice 3 ((List.set v3_8 (Int.toNat v4_8) x2).map u_impl_Definition)), (4, .int .i64 v4_8)] (fun P hP => ?_) ?_)
    ·simp only [V0.down, simprocAttr, tt2, tt9, tt22, tt27, tt40, tt42, tt45, tt47, tt53, tt55, tt74, tt76, tt87, tt123, tt131, tt155, e_impl_Term, e_laws_Definition, e_laws_Part, e_laws_Term, e_s_laws_Term, u_impl_Definition, u_impl_Part, u_s_impl_Term, e14, e16, getI_get e16, own_s, stoS]
     refine w_call0 (ok_laws_toDefinition x1 _ e15) rfl rfl rfl rfl (.inl (by rfl)) ?_
     simp only [V0.down, simprocAttr, tt2, tt9, tt22, tt27, tt40, tt42, tt45, tt47, tt53, tt55, tt74, tt76, tt87, tt123, tt131, tt155, e_impl_Term, e_laws_Definition, e_laws_Part, e_laws_Term, e_s_laws_Term, u_impl_Definition, u_impl_Part, u_s_impl_Term, e14, e16, getI_get e16, own_s, stoS]
     (try simp only [VN.down, simprocAttr, e_impl_Term, e_laws_Definition, e_laws_Part, e_laws_Term, e_s_laws_Term, u_impl_Definition, u_impl_Part, u_s_impl_Term, e14, e16, getI_get e16, own_s, stoS] at hP ⊢); exact hP
    refine n12 _ (n11 _ (.inl ?_))
    refine wr [(0, .slice (a0.map e_laws_Definition)), (3, .uslice 3 ((List.set v3_8 (Int.toNat v4_8) x2).map u_impl_Definition)), (4, .int .i64 (IntKind.i64.wrap (v4_8 + 1)))] ?_
    exact n7 _ (.inr ⟨_, weak_eq rfl, ih8 (List.set v3_8 (Int.toNat v4_8) x2) (IntKind.i64.wrap (v4_8 + 1)) h⟩)
   ·refine w_cf (congrArg AV.bool b10) ?_
    simp only [b10, Bool.not_true, Bool.not_false]
    refine w_ex (x8 0 _ (x7 0 _ (b6 _ (n4 _ (.inl ?_)))))
    refine ws _ ?_
    exact w_ret (r0 _ (.inl (w_fin [.uslice 3 (v3_8.map u_impl_Definition)] rfl (by cases someE h; rfl) (by decide) outs_nil)))
 obtain ⟨n, h⟩ := limE h
 exact w_loop (.inr ⟨_, weak_mix [] rfl (wk_eq (t := 0) (d := .slice (a0.map e_laws_Definition)) rfl (wk_wd (t := 3) (d := .uslice 3 (List.replicate (Int.toNat (a0.length : Int)) (.agg [(.str []), (.int .i64 0), .nils]))) (d' := .uslice 3 ((List.replicate (Int.toNat (a0.length : Int)) (impl_Definition.mk ([] : List UInt8) 0 [])).map u_impl_Definition)) rfl rfl (wd_rep (u := u_impl_Definition) (z := (impl_Definition.mk ([] : List UInt8) 0 [])) (.agg (.cons (.refl _) (.cons (.refl _) (.cons (.nilsU _) (.nil))))) _) (by decide) (wk_eq (t := 4) (d := .int .i64 0) rfl (wk_nil)))), L8 n (List.replicate (Int.toNat (a0.length : Int)) (impl_Definition.mk ([] : List UInt8) 0 [])) 0 h⟩)

theorem ok_spec_l01Small (a0 : UInt8) (r : Bool) (h : spec_l01Small a0 = some r) : OkAt Cc 69 [.int .u8 (a0.toNat : Int)] (.bool r) [] := by
 refine OkAt.of_wpR (fx := [0]) Cc_ok [.tmp 2] [(0, .int .u8 (a0.toNat : Int))] Try.func69 rfl rfl s69 (Nat.le_of_ble_eq_true rfl) rfl rfl (fun Q0 r0 n0 => ?_)
 refine ws _ ?_
 refine w_sreg (w_abs [(2, .bool ((decide (97 ≤ (a0.toNat : Int))) && (decide ((a0.toNat : Int) ≤ 122))))] (fun P hP => ?_) ?_)
 ·rcases Bool.eq_false_or_eq_true (decide (97 ≤ (a0.toNat : Int))) with s3 | s3
  ·simp only [V0.down, simprocAttr, s3]
   (try simp only [VN.down, simprocAttr, s3] at hP ⊢); exact hP
  ·simp only [V0.down, simprocAttr, s3]
   (try simp only [VN.down, simprocAttr, s3] at hP ⊢); exact hP
 exact w_ret (r0 _ (.inl (w_fin [.bool ((decide (97 ≤ (a0.toNat : Int))) && (decide ((a0.toNat : Int) ≤ 122)))] rfl (by cases someE h; rfl) (by decide) outs_nil)))

theorem ok_spec_l01Digit (a0 : UInt8) (r : Bool) (h : spec_l01Digit a0 = some r) : OkAt Cc 70 [.int .u8 (a0.toNat : Int)] (.bool r) [] := by
 refine OkAt.of_wpR (fx := [0]) Cc_ok [.tmp 2] [(0, .int .u8 (a0.toNat : Int))] Try.func70 rfl rfl s70 (Nat.le_of_ble_eq_true rfl) rfl rfl (fun Q0 r0 n0 => ?_)
 refine ws _ ?_
 refine w_sreg (w_abs [(2, .bool ((decide (48 ≤ (a0.toNat : Int))) && (decide ((a0.toNat : Int) ≤ 57))))] (fun P hP => ?_) ?_)
 ·rcases Bool.eq_false_or_eq_true (decide (48 ≤ (a0.toNat : Int))) with s3 | s3
  ·simp only [V0.down, simprocAttr, s3]
   (try simp only [VN.down, simprocAttr, s3] at hP ⊢); exact hP
  ·simp only [V0.down, simprocAttr, s3]
   (try simp only [VN.down, simprocAttr, s3] at hP ⊢); exact hP
 exact w_ret (r0 _ (.inl (w_fin [.bool ((decide (48 ≤ (a0.toNat : Int))) && (decide ((a0.toNat : Int) ≤ 57)))] rfl (by cases someE h; rfl) (by decide) outs_nil)))

set_option maxHeartbeats 600000 in
theorem ok_spec_l01Name (a0 : List UInt8) (r : Bool) (h : spec_l01Name a0 = some r) : OkAt Cc 46 [.str a0] (.bool r) [] := by
 refine OkAt.of_wpR (fx := [0]) Cc_ok [.tmp 2] [(0, .str a0)] Try.func46 rfl rfl s46 (Nat.le_of_ble_eq_true rfl) rfl rfl (fun Q0 r0 n0 => ?_)
 refine ws _ ?_
 refine w_seq (fun Q2 n2 q2 x2 => ?_)
 rcases condE h with ⟨b4, h⟩ | ⟨b4, h⟩
 ·refine wsf b4 _ ?_
  refine w_ct rfl ?_
  refine ws _ ?_
  exact w_ret (q2 _ (r0 _ (.inl (w_fin [.bool false] rfl (by cases someE h; rfl) (by decide) outs_nil))))
 ·rcases condE h with ⟨b6, h⟩ | ⟨b6, h⟩
  ·refine wsf (And.intro b4 b6) _ ?_
   refine w_ct rfl ?_
   refine ws _ ?_
   exact w_ret (q2 _ (r0 _ (.inl (w_fin [.bool false] rfl (by cases someE h; rfl) (by decide) outs_nil))))
  ·obtain ⟨x1, e8, h⟩ := bindE h
   obtain ⟨x2, e9, h⟩ := bindE h
   refine w_sreg (w_abs [(0, .str a0), (16, .bool (!x2))] (fun P hP => ?_) ?_)
   ·simp only [V0.down, simprocAttr, tt9, b4, b6, e8]
    refine w_callg0 (ok_spec_l01Small x1 _ e9) rfl rfl rfl rfl (.inl (by rfl)) ?_
    simp only [V0.down, simprocAttr, tt9, b4, b6, e8]
    (try simp only [VN.down, simprocAttr, b4, b6, e8] at hP ⊢); exact hP
   rcases condE h with ⟨b10, h⟩ | ⟨b10, h⟩
   ·refine w_ct (congrArg AV.bool b10) ?_
    simp only [(bnT b10), Bool.not_true, Bool.not_false]
    refine ws _ ?_
    exact w_ret (q2 _ (r0 _ (.inl (w_fin [.bool false] rfl (by cases someE h; rfl) (by decide) outs_nil))))
   ·refine w_cf (congrArg AV.bool b10) ?_
    simp only [(bnF b10), Bool.not_true, Bool.not_false]
    refine w_skip (n2 _ (.inl ?_))
    refine w_seq (fun Q12 n12 q12 x12 => ?_)
    refine ws _ ?_
    refine w_blk (fun Q14 n14 q14 b14 x14 => ?_)
    have L14 : ∀ (n : Nat) (v3_14 : Int), spec_l01Name_l14 a0 n v3_14 = some r → lpC Cc c46_15 Q14 (stA [(0, .str a0), (3, .int .i64 v3_14)]) := by
     intro m14
     induction m14 with
     | zero => intro v3_14 h; cases (show none = some r from h)
     | succ m14 ih14 =>
      intro v3_14 h
      replace h : spec_l01Name_b14 (spec_l01Name_l14 a0 m14) a0 v3_14 = some r := h
      refine lpC_step (fun Q15 n15 q15 x15 => ?_)
      refine w_seq (fun Q16 n16 q16 x16 => ?_)
      refine ws _ ?_
      rcases condE h with ⟨b18, h⟩ | ⟨b18, h⟩
      ·refine w_ct (congrArg AV.bool b18) ?_
       simp only [b18, Bool.not_true, Bool.not_false]
       refine w_skip (n16 _ (.inl ?_))
       refine w_seq (fun Q19 n19 q19 x19 => ?_)
       refine w_blk (fun Q20 n20 q20 b20 x20 => ?_)
       obtain ⟨x3, e22, h⟩ := bindE h
       obtain ⟨x4, e23, h⟩ := bindE h
       rcases condE h with ⟨b24, h⟩ | ⟨b24, h⟩
       ·obtain ⟨x5, e25, h⟩ := bindE h
        refine w_sreg (w_abs [(0, .str a0), (3, .int .i64 v3_14), (34, .bool (!x5))] (fun P hP => ?_) ?_)
        ·simp only [V0.down, simprocAttr, tt9, e22, (bnT b24)]
         refine w_call0 (ok_spec_l01Small x3 _ e23) rfl rfl rfl rfl (.inl (by rfl)) ?_
         simp only [V0.down, simprocAttr, tt9, e22, (bnT b24)]
         refine w_callg0 (ok_spec_l01Digit x3 _ e25) rfl rfl rfl rfl (.inl (by rfl)) ?_
         simp only [V0.down, simprocAttr, tt9, e22, (bnT b24)]
         (try simp only [VN.down, simprocAttr, e22, (bnT b24)] at hP ⊢); exact hP
        rcases condE h with ⟨b26, h⟩ | ⟨b26, h⟩
        ·refine w_ct (congrArg AV.bool b26) ?_
         simp only [(bnT b26), Bool.not_true, Bool.not_false]
         refine ws _ ?_
         exact w_ret (q20 _ (q19 _ (q15 _ (q14 _ (q12 _ (r0 _ (.inl (w_fin [.bool false] rfl (by cases someE h; rfl) (by decide) outs_nil))))))))
        ·refine w_cf (congrArg AV.bool b26) ?_
         simp only [(bnF b26), Bool.not_true, Bool.not_false]
         refine w_skip (n20 _ (n19 _ (.inl ?_)))
         refine wr _ ?_
         exact n15 _ (.inr ⟨_, weak_eq rfl, ih14 (IntKind.i64.wrap (v3_14 + 1)) h⟩)
       ·refine wscf (And.intro e22 (bnF b24)) (ok_spec_l01Small x3 _ e23) _ ?_
        refine w_cf rfl ?_
        refine w_skip (n20 _ (n19 _ (.inl ?_)))
        refine wr _ ?_
        exact n15 _ (.inr ⟨_, weak_eq rfl, ih14 (IntKind.i64.wrap (v3_14 + 1)) h⟩)
      ·refine w_cf (congrArg AV.bool b18) ?_
       simp only [b18, Bool.not_true, Bool.not_false]
       refine w_ex (x16 0 _ (x15 0 _ (b14 _ (n12 _ (.inl ?_)))))
       refine ws _ ?_
       exact w_ret (r0 _ (.inl (w_fin [.bool true] rfl (by cases someE h; rfl) (by decide) outs_nil)))
    obtain ⟨n, h⟩ := limE h
    exact w_loop (.inr ⟨_, weak_eq rfl, L14 n 0 h⟩)

theorem ok_spec_l00In (a0 : Int) (a1 : Int) (a2 : Int) (r : Bool) (h : spec_l00In a0 a1 a2 = some r) : OkAt Cc 33 [.int .i64 a0, .int .i64 a1, .int .i64 a2] (.bool r) [] := by
 refine OkAt.of_wpR (fx := [0, 1, 2]) Cc_ok [.tmp 6] [(0, .int .i64 a0), (1, .int .i64 a1), (2, .int .i64 a2)] Try.func33 rfl rfl s33 (Nat.le_of_ble_eq_true rfl) rfl rfl (fun Q0 r0 n0 => ?_)
 refine ws _ ?_
 refine w_sreg (w_abs [(6, .bool ((decide (a1 ≤ a0)) && (decide (a0 ≤ a2))))] (fun P hP => ?_) ?_)
 ·rcases Bool.eq_false_or_eq_true (decide (a1 ≤ a0)) with s3 | s3
  ·simp only [V0.down, simprocAttr, s3]
   (try simp only [VN.down, simprocAttr, s3] at hP ⊢); exact hP
  ·simp only [V0.down, simprocAttr, s3]
   (try simp only [VN.down, simprocAttr, s3] at hP ⊢); exact hP
 exact w_ret (r0 _ (.inl (w_fin [.bool ((decide (a1 ≤ a0)) && (decide (a0 ≤ a2)))] rfl (by cases someE h; rfl) (by decide) outs_nil)))

theorem ok_spec_l05Follow (a0 : impl_Part) (r : Int) (h : spec_l05Follow a0 = some r) : OkAt Cc 99 [.ref (e_impl_Part a0)] (.int .i64 r) [] := by
 refine OkAt.of_wpR (fx := [0]) Cc_ok [.tmp 2] [(0, .ref (e_impl_Part a0))] Try.func99 rfl rfl s99 (Nat.le_of_ble_eq_true rfl) rfl rfl (fun Q0 r0 n0 => ?_)
 refine ws _ ?_
 refine w_seq (fun Q2 n2 q2 x2 => ?_)
 refine ws _ ?_
 refine w_blk (fun Q4 n4 q4 b4 x4 => ?_)
 have K16 : ∀ (v7_16 : Bool), spec_l05Follow_k16 a0 v7_16 = some r → wpC Cc c99_16 Q4 (stA [(6, .int .i64 a0.Kind), (7, .bool v7_16)]) := by
  intro v7_16 h
  rcases condE h with ⟨b6, h⟩ | ⟨b6, h⟩
  ·refine w_ct (congrArg AV.bool b6) ?_
   simp only [b6, Bool.not_true, Bool.not_false]
   refine ws _ ?_
   exact w_ret (q4 _ (q2 _ (r0 _ (.inl (w_fin [.int .i64 1] rfl (by cases someE h; rfl) (by decide) outs_nil)))))
  ·refine w_cf (congrArg AV.bool b6) ?_
   simp only [b6, Bool.not_true, Bool.not_false]
   refine ws _ ?_
   rcases condE h with ⟨b9, h⟩ | ⟨b9, h⟩
   ·refine w_ct (congrArg AV.bool b9) ?_
    simp only [b9, Bool.not_true, Bool.not_false]
    refine ws _ ?_
    exact w_ret (q4 _ (q2 _ (r0 _ (.inl (w_fin [.int .i64 2] rfl (by cases someE h; rfl) (by decide) outs_nil)))))
   ·refine w_cf (congrArg AV.bool b9) ?_
    simp only [b9, Bool.not_true, Bool.not_false]
    refine w_skip (n4 _ (n2 _ (.inl ?_)))
    refine ws _ ?_
    exact w_ret (r0 _ (.inl (w_fin [.int .i64 0] rfl (by cases someE h; rfl) (by decide) outs_nil)))
 refine w_seq (fun Q5 n5 q5 x5 => ?_)
 refine ws _ ?_
 rcases condE h with ⟨b13, h⟩ | ⟨b13, h⟩
 ·refine w_ct (congrArg AV.bool b13) ?_
  simp only [b13, Bool.not_true, Bool.not_false]
  exact w_skip (n5 _ (.inr ⟨_, weak_eq rfl, K16 true h⟩))
 ·refine w_cf (congrArg AV.bool b13) ?_
  simp only [b13, Bool.not_true, Bool.not_false]
  refine ws _ ?_
  rcases condE h with ⟨b15, h⟩ | ⟨b15, h⟩
  ·refine w_ct (congrArg AV.bool b15) ?_
   simp only [b15, Bool.not_true, Bool.not_false]
   exact w_skip (n5 _ (.inr ⟨_, weak_eq rfl, K16 true h⟩))
  ·refine w_cf (congrArg AV.bool b15) ?_
   simp only [b15, Bool.not_true, Bool.not_false]
   refine wr _ ?_
   exact n5 _ (.inr ⟨_, weak_eq rfl, K16 (a0.Kind == 4) h⟩)

theorem ok_spec_l05Shape (a0 : List impl_Part) (r : Bool) (h : spec_l05Shape a0 = some r) : OkAt Cc 71 [.slice (a0.map e_impl_Part)] (.bool r) [] := by
 refine OkAt.of_wpR (fx := [0]) Cc_ok [.tmp 2] [(0, .slice (a0.map e_impl_Part))] Try.func71 rfl rfl s71 (Nat.le_of_ble_eq_true rfl) rfl rfl (fun Q0 r0 n0 => ?_)
 refine ws _ ?_
 refine w_seq (fun Q2 n2 q2 x2 => ?_)
 refine w_sreg (w_abs [(0, .slice (a0.map e_impl_Part)), (12, .bool (((a0.length : Int) == 0) || (decide (20 < (a0.length : Int)))))] (fun P hP => ?_) ?_)
 ·rcases Bool.eq_false_or_eq_true ((a0.length : Int) == 0) with s4 | s4
  ·simp only [V0.down, simprocAttr, zz15.down, s4]
   (try simp only [VN.down, simprocAttr, zz4.down, s4] at hP ⊢); exact hP
  ·simp only [V0.down, simprocAttr, zz15.down, s4]
   (try simp only [VN.down, simprocAttr, zz4.down, s4] at hP ⊢); exact hP
 rcases condE h with ⟨b5, h⟩ | ⟨b5, h⟩
 ·refine w_ct (congrArg AV.bool b5) ?_
  simp only [b5, Bool.not_true, Bool.not_false]
  refine ws _ ?_
  exact w_ret (q2 _ (r0 _ (.inl (w_fin [.bool false] rfl (by cases someE h; rfl) (by decide) outs_nil))))
 ·refine w_cf (congrArg AV.bool b5) ?_
  simp only [b5, Bool.not_true, Bool.not_false]
  refine w_skip (n2 _ (.inl ?_))
  refine ws _ ?_
  refine w_seq (fun Q8 n8 q8 x8 => ?_)
  refine ws _ ?_
  refine w_blk (fun Q10 n10 q10 b10 x10 => ?_)
  have L16 : ∀ (n : Nat) (v3_16 : Int) (v4_16 : Int), spec_l05Shape_l16 a0 n v3_16 v4_16 = some r → lpC Cc c71_17 Q10 (stA [(0, .slice (a0.map e_impl_Part)), (3, .int .i64 v3_16), (4, .int .i64 v4_16)]) := by
   intro m16
   induction m16 with
   | zero => intro v3_16 v4_16 h; cases (show none = some r from h)
   | succ m16 ih16 =>
    intro v3_16 v4_16 h
    replace h : spec_l05Shape_b16 (spec_l05Shape_l16 a0 m16) a0 v3_16 v4_16 = some r := h
    refine lpC_step (fun Q11 n11 q11 x11 => ?_)
    refine w_seq (fun Q12 n12 q12 x12 => ?_)
    refine ws _ ?_
    rcases condE h with ⟨b14, h⟩ | ⟨b14, h⟩
    ·refine w_ct (congrArg AV.bool b14) ?_
     simp only [b14, Bool.not_true, Bool.not_false]
     refine w_skip (n12 _ (.inl ?_))
     refine w_seq (fun Q15 n15 q15 x15 => ?_)
     refine w_blk (fun Q16 n16 q16 b16 x16 => ?_)
     refine w_seq (fun Q17 n17 q17 x17 => ?_)
     refine ws _ ?_
     rcases condE h with ⟨b19, h⟩ | ⟨b19, h⟩
     ·refine w_ct (congrArg AV.bool b19) ?_
      simp only [b19, Bool.not_true, Bool.not_false]
      refine ws _ ?_
      exact w_ret (q17 _ (q16 _ (q15 _ (q11 _ (q10 _ (q8 _ (r0 _ (.inl (w_fin [.bool false] rfl (by cases someE h; rfl) (by decide) outs_nil)))))))))
     ·refine w_cf (congrArg AV.bool b19) ?_
      simp only [b19, Bool.not_true, Bool.not_false]
      refine w_skip (n17 _ (.inl ?_))
      obtain ⟨x1, e22, h⟩ := bindE h
      obtain ⟨x2, e23, h⟩ := bindE h
      refine wrcf e22 (ok_spec_l05Follow x1 _ e23) _ ?_
      refine n16 _ (n15 _ (.inl ?_))
      refine wr _ ?_
      exact n11 _ (.inr ⟨_, weak_eq rfl, ih16 (IntKind.i64.wrap (v3_16 + (IntKind.i64.wrap (x2 - 1)))) (IntKind.i64.wrap (v4_16 + 1)) h⟩)
    ·refine w_cf (congrArg AV.bool b14) ?_
     simp only [b14, Bool.not_true, Bool.not_false]
     refine w_ex (x12 0 _ (x11 0 _ (b10 _ (n8 _ (.inl ?_)))))
     refine ws _ ?_
     exact w_ret (r0 _ (.inl (w_fin [.bool (v3_16 == 0)] rfl (by cases someE h; rfl) (by decide) outs_nil)))
  obtain ⟨n, h⟩ := limE h
  exact w_loop (.inr ⟨_, weak_eq rfl, L16 n 1 0 h⟩)

set_option maxHeartbeats 600000 in
theorem ok_spec_l05Kind (a0 : impl_Part) (r : Bool) (h : spec_l05Kind a0 = some r) : OkAt Cc 100 [.ref (e_impl_Part a0)] (.bool r) [] := by
 refine OkAt.of_wpR (fx := [0]) Cc_ok [.tmp 2] [(0, .ref (e_impl_Part a0))] Try.func100 rfl rfl s100 (Nat.le_of_ble_eq_true rfl) rfl rfl (fun Q0 r0 n0 => ?_)
 refine ws _ ?_
 refine w_seq (fun Q2 n2 q2 x2 => ?_)
 refine ws _ ?_
 refine w_blk (fun Q4 n4 q4 b4 x4 => ?_)
 have K12 : ∀ (v7_12 : Bool), spec_l05Kind_k12 a0 v7_12 = some r → wpC Cc c100_12 Q4 (stA [(0, .ref (e_impl_Part a0)), (6, .int .i64 a0.Kind), (7, .bool v7_12)]) := by
  intro v7_12 h
  rcases condE h with ⟨b6, h⟩ | ⟨b6, h⟩
  ·refine w_ct (congrArg AV.bool b6) ?_
   simp only [b6, Bool.not_true, Bool.not_false]
   refine w_sreg (w_abs [(2, .bool (((a0.Number == 0) && (a0.Name == ([] : List UInt8))) && ((a0.Arguments.length : Int) == 0)))] (fun P hP => ?_) ?_)
   ·(rcases Bool.eq_false_or_eq_true (a0.Number == 0) with s8 | s8) <;> (rcases Bool.eq_false_or_eq_true (a0.Name == ([] : List UInt8)) with s9 | s9) <;>
      (simp only [V0.down, simprocAttr, zz7.down, s8, s9]
       (try simp only [VN.down, simprocAttr, zz4.down, s8, s9] at hP ⊢); exact hP)
   exact w_ret (q4 _ (q2 _ (r0 _ (.inl (w_fin [.bool (((a0.Number == 0) && (a0.Name == ([] : List UInt8))) && ((a0.Arguments.length : Int) == 0))] rfl (by cases someE h; rfl) (by decide) outs_nil)))))
  ·refine w_cf (congrArg AV.bool b6) ?_
   simp only [b6, Bool.not_true, Bool.not_false]
   refine ws _ ?_
   rcases condE h with ⟨b11, h⟩ | ⟨b11, h⟩
   ·refine w_ct (congrArg AV.bool b11) ?_
    simp only [b11, Bool.not_true, Bool.not_false]
    refine ws _ ?_
    exact w_ret (q4 _ (q2 _ (r0 _ (.inl (w_fin [.bool (a0.Number == 0)] rfl (by cases someE h; rfl) (by decide) outs_nil)))))
   ·refine w_cf (congrArg AV.bool b11) ?_
    simp only [b11, Bool.not_true, Bool.not_false]
    refine ws _ ?_
    rcases condE h with ⟨b14, h⟩ | ⟨b14, h⟩
    ·refine w_ct (congrArg AV.bool b14) ?_
     simp only [b14, Bool.not_true, Bool.not_false]
     refine w_sreg (w_abs [(2, .bool ((a0.Number == 0) && (a0.Name == ([] : List UInt8))))] (fun P hP => ?_) ?_)
     ·rcases Bool.eq_false_or_eq_true (a0.Number == 0) with s16 | s16
      ·simp only [V0.down, simprocAttr, zz7.down, s16]
       (try simp only [VN.down, simprocAttr, zz4.down, s16] at hP ⊢); exact hP
      ·simp only [V0.down, simprocAttr, zz7.down, s16]
       (try simp only [VN.down, simprocAttr, zz4.down, s16] at hP ⊢); exact hP
     exact w_ret (q4 _ (q2 _ (r0 _ (.inl (w_fin [.bool ((a0.Number == 0) && (a0.Name == ([] : List UInt8)))] rfl (by cases someE h; rfl) (by decide) outs_nil)))))
    ·refine w_cf (congrArg AV.bool b14) ?_
     simp only [b14, Bool.not_true, Bool.not_false]
     refine ws _ ?_
     rcases condE h with ⟨b18, h⟩ | ⟨b18, h⟩
     ·refine w_ct (congrArg AV.bool b18) ?_
      simp only [b18, Bool.not_true, Bool.not_false]
      refine w_sreg (w_abs [(2, .bool ((a0.Name == ([] : List UInt8)) && ((a0.Arguments.length : Int) == 0)))] (fun P hP => ?_) ?_)
      ·rcases Bool.eq_false_or_eq_true (a0.Name == ([] : List UInt8)) with s20 | s20
       ·simp only [V0.down, simprocAttr, zz7.down, s20]
        (try simp only [VN.down, simprocAttr, zz4.down, s20] at hP ⊢); exact hP
       ·simp only [V0.down, simprocAttr, zz7.down, s20]
        (try simp only [VN.down, simprocAttr, zz4.down, s20] at hP ⊢); exact hP
      exact w_ret (q4 _ (q2 _ (r0 _ (.inl (w_fin [.bool ((a0.Name == ([] : List UInt8)) && ((a0.Arguments.length : Int) == 0))] rfl (by cases someE h; rfl) (by decide) outs_nil)))))
     ·refine w_cf (congrArg AV.bool b18) ?_
      simp only [b18, Bool.not_true, Bool.not_false]
      refine ws _ ?_
      rcases condE h with ⟨b22, h⟩ | ⟨b22, h⟩
      ·refine w_ct (congrArg AV.bool b22) ?_
       simp only [b22, Bool.not_true, Bool.not_false]
       refine ws _ ?_
       exact w_ret (q4 _ (q2 _ (r0 _ (.inl (w_fin [.bool (a0.Name == ([] : List UInt8))] rfl (by cases someE h; rfl) (by decide) outs_nil)))))
      ·refine w_cf (congrArg AV.bool b22) ?_
       simp only [b22, Bool.not_true, Bool.not_false]
       refine w_skip (n4 _ (n2 _ (.inl ?_)))
       refine ws _ ?_
       exact w_ret (r0 _ (.inl (w_fin [.bool false] rfl (by cases someE h; rfl) (by decide) outs_nil)))
 refine w_seq (fun Q5 n5 q5 x5 => ?_)
 refine ws _ ?_
 rcases condE h with ⟨b26, h⟩ | ⟨b26, h⟩
 ·refine w_ct (congrArg AV.bool b26) ?_
  simp only [b26, Bool.not_true, Bool.not_false]
  exact w_skip (n5 _ (.inr ⟨_, weak_eq rfl, K12 true h⟩))
 ·refine w_cf (congrArg AV.bool b26) ?_
  simp only [b26, Bool.not_true, Bool.not_false]
  refine wr _ ?_
  exact n5 _ (.inr ⟨_, weak_eq rfl, K12 (a0.Kind == 2) h⟩)

theorem ok_spec_l05End (a0 : List impl_Part) (a1 : Int) (r : Int) (h : spec_l05End a0 a1 = some r) : OkAt Cc 118 [.slice (a0.map e_impl_Part), .int .i64 a1] (.int .i64 r) [] := by
 refine OkAt.of_wpR (fx := [0]) Cc_ok [.tmp 4] [(0, .slice (a0.map e_impl_Part)), (1, .int .i64 a1)] Try.func118 rfl rfl s118 (Nat.le_of_ble_eq_true rfl) rfl rfl (fun Q0 r0 n0 => ?_)
 refine ws _ ?_
 refine ws _ ?_
 refine w_seq (fun Q3 n3 q3 x3 => ?_)
 refine w_blk (fun Q4 n4 q4 b4 x4 => ?_)
 have L6 : ∀ (n : Nat) (v1_6 : Int) (v5_6 : Int), spec_l05End_l6 a0 n v1_6 v5_6 = some r → lpC Cc c118_7 Q4 (stA [(0, .slice (a0.map e_impl_Part)), (1, .int .i64 v1_6), (5, .int .i64 v5_6)]) := by
  intro m6
  induction m6 with
  | zero => intro v1_6 v5_6 h; cases (show none = some r from h)
  | succ m6 ih6 =>
   intro v1_6 v5_6 h
   replace h : spec_l05End_b6 (spec_l05End_l6 a0 m6) a0 v1_6 v5_6 = some r := h
   refine lpC_step (fun Q5 n5 q5 x5 => ?_)
   refine w_seq (fun Q6 n6 q6 x6 => ?_)
   refine ws _ ?_
   rcases condE h with ⟨b8, h⟩ | ⟨b8, h⟩
   ·refine w_ct (congrArg AV.bool b8) ?_
    simp only [b8, Bool.not_true, Bool.not_false]
    refine w_skip (n6 _ (.inl ?_))
    refine w_blk (fun Q9 n9 q9 b9 x9 => ?_)
    obtain ⟨x1, e11, h⟩ := bindE h
    obtain ⟨x2, e12, h⟩ := bindE h
    refine wscf e11 (ok_spec_l05Follow x1 _ e12) _ ?_
    refine wr _ ?_
    exact n9 _ (n5 _ (.inr ⟨_, weak_eq rfl, ih6 (IntKind.i64.wrap (v1_6 + 1)) (IntKind.i64.wrap (v5_6 + (IntKind.i64.wrap (x2 - 1)))) h⟩))
   ·refine w_cf (congrArg AV.bool b8) ?_
    simp only [b8, Bool.not_true, Bool.not_false]
    refine w_ex (x6 0 _ (x5 0 _ (b4 _ (n3 _ (.inl ?_)))))
    refine ws _ ?_
    exact w_ret (r0 _ (.inl (w_fin [.int .i64 v1_6] rfl (by cases someE h; rfl) (by decide) outs_nil)))
 obtain ⟨n, h⟩ := limE h
 exact w_loop (.inr ⟨_, weak_eq rfl, L6 n a1 1 h⟩)

theorem ok_spec_l05Scope (a0 : impl_Definition) (a1 : Int) (r : Int) (h : spec_l05Scope a0 a1 = some r) : OkAt Cc 101 [.ref (e_impl_Definition a0), .int .i64 a1] (.int .i64 r) [] := by
 refine OkAt.of_wpR (fx := [0, 1]) Cc_ok [.tmp 4] [(0, .ref (e_impl_Definition a0)), (1, .int .i64 a1)] Try.func101 rfl rfl s101 (Nat.le_of_ble_eq_true rfl) rfl rfl (fun Q0 r0 n0 => ?_)
 refine ws _ ?_
 refine ws _ ?_
 refine w_seq (fun Q3 n3 q3 x3 => ?_)
 refine ws _ ?_
 refine w_blk (fun Q5 n5 q5 b5 x5 => ?_)
 have L8 : ∀ (n : Nat) (v5_8 : Int) (v6_8 : Int), spec_l05Scope_l8 a0 a1 n v5_8 v6_8 = some r → lpC Cc c101_9 Q5 (stA [(0, .ref (e_impl_Definition a0)), (1, .int .i64 a1), (5, .int .i64 v5_8), (6, .int .i64 v6_8)]) := by
  intro m8
  induction m8 with
  | zero => intro v5_8 v6_8 h; cases (show none = some r from h)
  | succ m8 ih8 =>
   intro v5_8 v6_8 h
   replace h : spec_l05Scope_b8 (spec_l05Scope_l8 a0 a1 m8) a0 a1 v5_8 v6_8 = some r := h
   refine lpC_step (fun Q6 n6 q6 x6 => ?_)
   refine w_seq (fun Q7 n7 q7 x7 => ?_)
   refine ws _ ?_
   rcases condE h with ⟨b9, h⟩ | ⟨b9, h⟩
   ·refine w_ct (congrArg AV.bool b9) ?_
    simp only [b9, Bool.not_true, Bool.not_false]
    refine w_skip (n7 _ (.inl ?_))
    have K22 : ∀ (v5_22 : Int) (v6_22 : Int), spec_l05Scope_k22 (spec_l05Scope_l8 a0 a1 m8) a0 a1 v5_22 v6_22 = some r → wpC Cc c101_22 Q6 (stA [(0, .ref (e_impl_Definition a0)), (1, .int .i64 a1), (5, .int .i64 v5_22), (6, .int .i64 v6_22)]) := by
     intro v5_22 v6_22 h
     refine wr _ ?_
     exact n6 _ (.inr ⟨_, weak_eq rfl, ih8 v5_22 (IntKind.i64.wrap (v6_22 + 1)) h⟩)
    refine w_seq (fun Q10 n10 q10 x10 => ?_)
    refine w_blk (fun Q12 n12 q12 b12 x12 => ?_)
    obtain ⟨x1, e14, h⟩ := bindE h
    rcases condE h with ⟨b15, h⟩ | ⟨b15, h⟩
    ·obtain ⟨x2, e16, h⟩ := bindE h
     refine w_sreg (w_abs [(0, .ref (e_impl_Definition a0)), (1, .int .i64 a1), (5, .int .i64 v5_8), (6, .int .i64 v6_8), (34, .bool (decide (a1 < x2)))] (fun P hP => ?_) ?_)
     ·simp only [V0.down, simprocAttr, zz8.down, e14, b15]
      refine w_callg0 (ok_spec_l05End a0.Body v6_8 _ e16) rfl rfl rfl rfl (.inl (by rfl)) ?_
      simp only [V0.down, simprocAttr, zz8.down, e14, b15]
      (try simp only [VN.down, simprocAttr, zz0.down, e14, b15] at hP ⊢); exact hP
     rcases condE h with ⟨b17, h⟩ | ⟨b17, h⟩
     ·refine w_ct (congrArg AV.bool b17) ?_
      simp only [b17, Bool.not_true, Bool.not_false]
      refine wr _ ?_
      exact n12 _ (n10 _ (.inr ⟨_, weak_eq rfl, K22 (IntKind.i64.wrap (v5_8 + 1)) v6_8 h⟩))
     ·refine w_cf (congrArg AV.bool b17) ?_
      simp only [b17, Bool.not_true, Bool.not_false]
      exact w_skip (n12 _ (n10 _ (.inr ⟨_, weak_eq rfl, K22 v5_8 v6_8 h⟩)))
    ·refine wsf (And.intro e14 b15) _ ?_
     refine w_cf rfl ?_
     exact w_skip (n12 _ (n10 _ (.inr ⟨_, weak_eq rfl, K22 v5_8 v6_8 h⟩)))
   ·refine w_cf (congrArg AV.bool b9) ?_
    simp only [b9, Bool.not_true, Bool.not_false]
    refine w_ex (x7 0 _ (x6 0 _ (b5 _ (n3 _ (.inl ?_)))))
    refine ws _ ?_
    exact w_ret (r0 _ (.inl (w_fin [.int .i64 v5_8] rfl (by cases someE h; rfl) (by decide) outs_nil)))
 obtain ⟨n, h⟩ := limE h
 exact w_loop (.inr ⟨_, weak_eq rfl, L8 n a0.Parameters 0 h⟩)

theorem ok_spec_l03Term (a0 : impl_Term) (a1 : Int) (r : Bool) (h : spec_l03Term a0 a1 = some r) : OkAt Cc 119 [.ref (e_impl_Term a0), .int .i64 a1] (.bool r) [] := by
 refine OkAt.of_wpR (fx := [0, 1]) Cc_ok [.tmp 4] [(0, .ref (e_impl_Term a0)), (1, .int .i64 a1)] Try.func119 rfl rfl s119 (Nat.le_of_ble_eq_true rfl) rfl rfl (fun Q0 r0 n0 => ?_)
 refine ws _ ?_
 refine w_seq (fun Q2 n2 q2 x2 => ?_)
 refine ws _ ?_
 refine w_blk (fun Q4 n4 q4 b4 x4 => ?_)
 refine ws _ ?_
 rcases condE h with ⟨b6, h⟩ | ⟨b6, h⟩
 ·refine w_ct (congrArg AV.bool b6) ?_
  simp only [b6, Bool.not_true, Bool.not_false]
  obtain ⟨x1, e8, h⟩ := bindE h
  refine wsc (ok_spec_l00In a0.Value 0 63 _ e8) _ ?_
  exact w_ret (q4 _ (q2 _ (r0 _ (.inl (w_fin [.bool x1] rfl (by cases someE h; rfl) (by decide) outs_nil)))))
 ·refine w_cf (congrArg AV.bool b6) ?_
  simp only [b6, Bool.not_true, Bool.not_false]
  refine ws _ ?_
  rcases condE h with ⟨b10, h⟩ | ⟨b10, h⟩
  ·refine w_ct (congrArg AV.bool b10) ?_
   simp only [b10, Bool.not_true, Bool.not_false]
   obtain ⟨x2, e12, h⟩ := bindE h
   refine wsc (ok_spec_l00In a0.Value 0 (IntKind.i64.wrap (a1 - 1)) _ e12) _ ?_
   exact w_ret (q4 _ (q2 _ (r0 _ (.inl (w_fin [.bool x2] rfl (by cases someE h; rfl) (by decide) outs_nil)))))
  ·refine w_cf (congrArg AV.bool b10) ?_
   simp only [b10, Bool.not_true, Bool.not_false]
   refine ws _ ?_
   rcases condE h with ⟨b14, h⟩ | ⟨b14, h⟩
   ·refine w_ct (congrArg AV.bool b14) ?_
    simp only [b14, Bool.not_true, Bool.not_false]
    obtain ⟨x3, e16, h⟩ := bindE h
    refine wsc (ok_spec_l00In a0.Value 0 8 _ e16) _ ?_
    exact w_ret (q4 _ (q2 _ (r0 _ (.inl (w_fin [.bool x3] rfl (by cases someE h; rfl) (by decide) outs_nil)))))
   ·refine w_cf (congrArg AV.bool b14) ?_
    simp only [b14, Bool.not_true, Bool.not_false]
    refine ws _ ?_
    rcases condE h with ⟨b18, h⟩ | ⟨b18, h⟩
    ·refine w_ct (congrArg AV.bool b18) ?_
     simp only [b18, Bool.not_true, Bool.not_false]
     refine ws _ ?_
     exact w_ret (q4 _ (q2 _ (r0 _ (.inl (w_fin [.bool (a0.Value == 0)] rfl (by cases someE h; rfl) (by decide) outs_nil)))))
    ·refine w_cf (congrArg AV.bool b18) ?_
     simp only [b18, Bool.not_true, Bool.not_false]
     refine w_skip (n4 _ (n2 _ (.inl ?_)))
     refine ws _ ?_
     exact w_ret (r0 _ (.inl (w_fin [.bool false] rfl (by cases someE h; rfl) (by decide) outs_nil)))

theorem ok_spec_l03Arity (a0 : impl_Term) (r : Int) (h : spec_l03Arity a0 = some r) : OkAt Cc 120 [.ref (e_impl_Term a0)] (.int .i64 r) [] := by
 refine OkAt.of_wpR (fx := [0]) Cc_ok [.tmp 2] [(0, .ref (e_impl_Term a0))] Try.func120 rfl rfl s120 (Nat.le_of_ble_eq_true rfl) rfl rfl (fun Q0 r0 n0 => ?_)
 refine ws _ ?_
 refine w_seq (fun Q2 n2 q2 x2 => ?_)
 refine ws _ ?_
 refine w_blk (fun Q4 n4 q4 b4 x4 => ?_)
 refine ws _ ?_
 rcases condE h with ⟨b6, h⟩ | ⟨b6, h⟩
 ·refine w_ct (congrArg AV.bool b6) ?_
  simp only [b6, Bool.not_true, Bool.not_false]
  refine ws _ ?_
  exact w_ret (q4 _ (q2 _ (r0 _ (.inl (w_fin [.int .i64 2] rfl (by cases someE h; rfl) (by decide) outs_nil)))))
 ·refine w_cf (congrArg AV.bool b6) ?_
  simp only [b6, Bool.not_true, Bool.not_false]
  refine ws _ ?_
  rcases condE h with ⟨b9, h⟩ | ⟨b9, h⟩
  ·refine w_ct (congrArg AV.bool b9) ?_
   simp only [b9, Bool.not_true, Bool.not_false]
   refine ws _ ?_
   exact w_ret (q4 _ (q2 _ (r0 _ (.inl (w_fin [.int .i64 1] rfl (by cases someE h; rfl) (by decide) outs_nil)))))
  ·refine w_cf (congrArg AV.bool b9) ?_
   simp only [b9, Bool.not_true, Bool.not_false]
   refine w_skip (n4 _ (n2 _ (.inl ?_)))
   refine ws _ ?_
   exact w_ret (r0 _ (.inl (w_fin [.int .i64 0] rfl (by cases someE h; rfl) (by decide) outs_nil)))

set_option maxHeartbeats 600000 in
theorem ok_spec_l03Is (a0 : List impl_Term) (a1 : Int) (a2 : Int) (r : Bool) (h : spec_l03Is a0 a1 a2 = some r) : OkAt Cc 102 [.slice (a0.map e_impl_Term), .int .i64 a1, .int .i64 a2] (.bool r) [] := by
 refine OkAt.of_wpR (fx := [0, 1, 2]) Cc_ok [.tmp 6] [(0, .slice (a0.map e_impl_Term)), (1, .int .i64 a1), (2, .int .i64 a2)] Try.func102 rfl rfl s102 (Nat.le_of_ble_eq_true rfl) rfl rfl (fun Q0 r0 n0 => ?_)
 refine ws _ ?_
 refine w_seq (fun Q2 n2 q2 x2 => ?_)
 refine ws _ ?_
 rcases condE h with ⟨b4, h⟩ | ⟨b4, h⟩
 ·refine w_ct (congrArg AV.bool b4) ?_
  simp only [b4, Bool.not_true, Bool.not_false]
  refine ws _ ?_
  exact w_ret (q2 _ (r0 _ (.inl (w_fin [.bool false] rfl (by cases someE h; rfl) (by decide) outs_nil))))
 ·refine w_cf (congrArg AV.bool b4) ?_
  simp only [b4, Bool.not_true, Bool.not_false]
  refine w_skip (n2 _ (.inl ?_))
  refine ws _ ?_
  refine w_seq (fun Q7 n7 q7 x7 => ?_)
  refine ws _ ?_
  refine w_blk (fun Q9 n9 q9 b9 x9 => ?_)
  have L16 : ∀ (n : Nat) (v7_16 : Int) (v8_16 : Int), spec_l03Is_l16 a0 a1 n v7_16 v8_16 = some r → lpC Cc c102_17 Q9 (stA [(0, .slice (a0.map e_impl_Term)), (1, .int .i64 a1), (7, .int .i64 v7_16), (8, .int .i64 v8_16)]) := by
   intro m16
   induction m16 with
   | zero => intro v7_16 v8_16 h; cases (show none = some r from h)
   | succ m16 ih16 =>
    intro v7_16 v8_16 h
    replace h : spec_l03Is_b16 (spec_l03Is_l16 a0 a1 m16) a0 a1 v7_16 v8_16 = some r := h
    refine lpC_step (fun Q10 n10 q10 x10 => ?_)
    refine w_seq (fun Q11 n11 q11 x11 => ?_)
    refine ws _ ?_
    rcases condE h with ⟨b13, h⟩ | ⟨b13, h⟩
    ·refine w_ct (congrArg AV.bool b13) ?_
     simp only [b13, Bool.not_true, Bool.not_false]
     refine w_skip (n11 _ (.inl ?_))
     refine w_seq (fun Q14 n14 q14 x14 => ?_)
     refine w_blk (fun Q15 n15 q15 b15 x15 => ?_)
     refine w_seq (fun Q16 n16 q16 x16 => ?_)
     rcases condE h with ⟨b18, h⟩ | ⟨b18, h⟩
     ·refine wsf b18 _ ?_
      refine w_ct rfl ?_
      refine ws _ ?_
      exact w_ret (q16 _ (q15 _ (q14 _ (q10 _ (q9 _ (q7 _ (r0 _ (.inl (w_fin [.bool false] rfl (by cases someE h; rfl) (by decide) outs_nil)))))))))
     ·obtain ⟨x1, e20, h⟩ := bindE h
      obtain ⟨x2, e21, h⟩ := bindE h
      refine w_sreg (w_abs [(0, .slice (a0.map e_impl_Term)), (1, .int .i64 a1), (7, .int .i64 v7_16), (8, .int .i64 v8_16), (28, .bool (!x2))] (fun P hP => ?_) ?_)
      ·simp only [V0.down, simprocAttr, zz5.down, b18, e20]
       refine w_callg0 (ok_spec_l03Term x1 a1 _ e21) rfl rfl rfl rfl (.inl (by rfl)) ?_
       simp only [V0.down, simprocAttr, zz5.down, b18, e20]
       (try simp only [VN.down, simprocAttr, e_impl_Term, b18, e20] at hP ⊢); exact hP
      rcases condE h with ⟨b22, h⟩ | ⟨b22, h⟩
      ·refine w_ct (congrArg AV.bool b22) ?_
       simp only [(bnT b22), Bool.not_true, Bool.not_false]
       refine ws _ ?_
       exact w_ret (q16 _ (q15 _ (q14 _ (q10 _ (q9 _ (q7 _ (r0 _ (.inl (w_fin [.bool false] rfl (by cases someE h; rfl) (by decide) outs_nil)))))))))
      ·refine w_cf (congrArg AV.bool b22) ?_
       simp only [(bnF b22), Bool.not_true, Bool.not_false]
       refine w_skip (n16 _ (.inl ?_))
       obtain ⟨x3, e25, h⟩ := bindE h
       refine wrcf e20 (ok_spec_l03Arity x1 _ e25) _ ?_
       refine n15 _ (n14 _ (.inl ?_))
       refine wr _ ?_
       exact n10 _ (.inr ⟨_, weak_eq rfl, ih16 (IntKind.i64.wrap (v7_16 + (IntKind.i64.wrap (x3 - 1)))) (IntKind.i64.wrap (v8_16 + 1)) h⟩)
    ·refine w_cf (congrArg AV.bool b13) ?_
     simp only [b13, Bool.not_true, Bool.not_false]
     refine w_ex (x11 0 _ (x10 0 _ (b9 _ (n7 _ (.inl ?_)))))
     refine ws _ ?_
     exact w_ret (r0 _ (.inl (w_fin [.bool (v7_16 == 0)] rfl (by cases someE h; rfl) (by decide) outs_nil)))
  obtain ⟨n, h⟩ := limE h
  exact w_loop (.inr ⟨_, weak_eq rfl, L16 n 1 0 h⟩)

set_option maxHeartbeats 1200000 in
theorem ok_spec_l05Reason (a0 : List impl_Definition) (a1 : impl_Definition) (a2 : Int) (r : Int) (h : spec_l05Reason a0 a1 a2 = some r) : OkAt Cc 72 [.slice (a0.map e_impl_Definition), .ref (e_impl_Definition a1), .int .i64 a2] (.int .i64 r) [] := by
 refine OkAt.of_wpR (fx := [0, 1, 2]) Cc_ok [.tmp 6] [(0, .slice (a0.map e_impl_Definition)), (1, .ref (e_impl_Definition a1)), (2, .int .i64 a2)] Try.func72 rfl rfl s72 (Nat.le_of_ble_eq_true rfl) rfl rfl (fun Q0 r0 n0 => ?_)
 refine ws _ ?_
 obtain ⟨x1, e3, h⟩ := bindE h
 refine wsf e3 _ ?_
 refine w_seq (fun Q4 n4 q4 x4 => ?_)
 obtain ⟨x2, e6, h⟩ := bindE h
 refine w_sreg (w_abs [(0, .slice (a0.map e_impl_Definition)), (1, .ref (e_impl_Definition a1)), (2, .int .i64 a2), (7, .ubox (e_impl_Part x1)), (19, .bool (!x2))] (fun P hP => ?_) ?_)
 ·refine w_call0 (ok_spec_l05Kind x1 _ e6) rfl rfl (by simp only [V0.down, simprocAttr, zz0.down, view_s, view_h, viewH_s, share_s, @shares_map _ e_s_impl_Term e_s_impl_Term (fun _ => sh_e_s_impl_Term _)] <;> rfl) rfl (.inr (by rfl)) ?_
  simp only [V0.down, simprocAttr, zz0.down]
  (try simp only [VN.down, simprocAttr, zz0.down] at hP ⊢); exact hP
 rcases condE h with ⟨b7, h⟩ | ⟨b7, h⟩
 ·refine w_ct (congrArg AV.bool b7) ?_
  simp only [(bnT b7), Bool.not_true, Bool.not_false]
  refine ws _ ?_
  exact w_ret (q4 _ (r0 _ (.inl (w_fin [.int .i64 2] rfl (by cases someE h; rfl) (by decide) outs_nil))))
 ·refine w_cf (congrArg AV.bool b7) ?_
  simp only [(bnF b7), Bool.not_true, Bool.not_false]
  refine w_skip (n4 _ (.inl ?_))
  refine w_seq (fun Q9 n9 q9 x9 => ?_)
  have K15 : ∀ (v28_15 : Bool), spec_l05Reason_k15 a0 a1 a2 x1 v28_15 = some r → wpC Cc c72_15 Q9 (stA [(0, .slice (a0.map e_impl_Definition)), (1, .ref (e_impl_Definition a1)), (2, .int .i64 a2), (7, .ubox (e_impl_Part x1)), (28, .bool v28_15)]) := by
   intro v28_15 h
   rcases condE h with ⟨b10, h⟩ | ⟨b10, h⟩
   ·refine w_ct (congrArg AV.bool b10) ?_
    simp only [b10, Bool.not_true, Bool.not_false]
    refine ws _ ?_
    exact w_ret (q9 _ (r0 _ (.inl (w_fin [.int .i64 3] rfl (by cases someE h; rfl) (by decide) outs_nil))))
   ·refine w_cf (congrArg AV.bool b10) ?_
    simp only [b10, Bool.not_true, Bool.not_false]
    refine w_skip (n9 _ (.inl ?_))
    refine w_seq (fun Q12 n12 q12 x12 => ?_)
    have K23 : ∀ (v51_23 : Bool), spec_l05Reason_k23 a0 a1 a2 x1 v51_23 = some r → wpC Cc c72_23 Q12 (stA [(0, .slice (a0.map e_impl_Definition)), (1, .ref (e_impl_Definition a1)), (2, .int .i64 a2), (7, .ubox (e_impl_Part x1)), (51, .bool v51_23)]) := by
     intro v51_23 h
     rcases condE h with ⟨b13, h⟩ | ⟨b13, h⟩
     ·refine w_ct (congrArg AV.bool b13) ?_
      simp only [b13, Bool.not_true, Bool.not_false]
      refine ws _ ?_
      exact w_ret (q12 _ (r0 _ (.inl (w_fin [.int .i64 4] rfl (by cases someE h; rfl) (by decide) outs_nil))))
     ·refine w_cf (congrArg AV.bool b13) ?_
      simp only [b13, Bool.not_true, Bool.not_false]
      refine w_skip (n12 _ (.inl ?_))
      refine ws _ ?_
      have K65 : spec_l05Reason_k65 a1 a2 x1 = some r → wpC Cc c72_65 Q0 (stA [(1, .ref (e_impl_Definition a1)), (2, .int .i64 a2), (7, .ubox (e_impl_Part x1)), (8, .int .i64 (x1.Arguments.length : Int))]) := by
       intro h
       refine w_seq (fun Q17 n17 q17 x17 => ?_)
       have K68 : ∀ (v102_68 : Bool), spec_l05Reason_k68 a1 a2 x1 v102_68 = some r → wpC Cc c72_68 Q17 (stA [(1, .ref (e_impl_Definition a1)), (2, .int .i64 a2), (7, .ubox (e_impl_Part x1)), (8, .int .i64 (x1.Arguments.length : Int)), (102, .bool v102_68)]) := by
        intro v102_68 h
        rcases condE h with ⟨b18, h⟩ | ⟨b18, h⟩
        ·refine w_ct (congrArg AV.bool b18) ?_
         simp only [b18, Bool.not_true, Bool.not_false]
         refine ws _ ?_
         exact w_ret (q17 _ (r0 _ (.inl (w_fin [.int .i64 6] rfl (by cases someE h; rfl) (by decide) outs_nil))))
        ·refine w_cf (congrArg AV.bool b18) ?_
         simp only [b18, Bool.not_true, Bool.not_false]
         refine w_skip (n17 _ (.inl ?_))
         obtain ⟨x3, e21, h⟩ := bindE h
         refine wsc (ok_spec_l05Scope a1 a2 _ e21) _ ?_
         refine w_seq (fun Q22 n22 q22 x22 => ?_)
         refine w_sreg (w_abs [(7, .ubox (e_impl_Part x1)), (8, .int .i64 (x1.Arguments.length : Int)), (9, .int .i64 x3), (112, .bool ((x1.Kind == 4) && (decide (6 ≤ x3))))] (fun P hP => ?_) ?_)
         ·rcases Bool.eq_false_or_eq_true (x1.Kind == 4) with s24 | s24
          ·simp only [V0.down, simprocAttr, zz7.down, s24]
           (try simp only [VN.down, simprocAttr, zz4.down, s24] at hP ⊢); exact hP
          ·simp only [V0.down, simprocAttr, zz7.down, s24]
           (try simp only [VN.down, simprocAttr, zz4.down, s24] at hP ⊢); exact hP
         rcases condE h with ⟨b25, h⟩ | ⟨b25, h⟩
         ·refine w_ct (congrArg AV.bool b25) ?_
          simp only [b25, Bool.not_true, Bool.not_false]
          refine ws _ ?_
          exact w_ret (q22 _ (r0 _ (.inl (w_fin [.int .i64 7] rfl (by cases someE h; rfl) (by decide) outs_nil))))
         ·refine w_cf (congrArg AV.bool b25) ?_
          simp only [b25, Bool.not_true, Bool.not_false]
          refine w_skip (n22 _ (.inl ?_))
          refine w_seq (fun Q27 n27 q27 x27 => ?_)
          refine ws _ ?_
          refine w_blk (fun Q29 n29 q29 b29 x29 => ?_)
          have L87 : ∀ (n : Nat) (v9_87 : Int) (v10_87 : Int), spec_l05Reason_l87 x1 n v9_87 v10_87 = some r → lpC Cc c72_88 Q29 (stA [(7, .ubox (e_impl_Part x1)), (8, .int .i64 (x1.Arguments.length : Int)), (9, .int .i64 v9_87), (10, .int .i64 v10_87)]) := by
           intro m87
           induction m87 with
           | zero => intro v9_87 v10_87 h; cases (show none = some r from h)
           | succ m87 ih87 =>
            intro v9_87 v10_87 h
            replace h : spec_l05Reason_b87 (spec_l05Reason_l87 x1 m87) x1 v9_87 v10_87 = some r := h
            refine lpC_step (fun Q30 n30 q30 x30 => ?_)
            refine w_seq (fun Q31 n31 q31 x31 => ?_)
            refine ws _ ?_
            rcases condE h with ⟨b33, h⟩ | ⟨b33, h⟩
            ·refine w_ct (congrArg AV.bool b33) ?_
             simp only [b33, Bool.not_true, Bool.not_false]
             refine w_skip (n31 _ (.inl ?_))
             refine w_seq (fun Q34 n34 q34 x34 => ?_)
             refine w_blk (fun Q35 n35 q35 b35 x35 => ?_)
             obtain ⟨x4, e37, h⟩ := bindE h
             obtain ⟨x5, e38, h⟩ := bindE h
             refine wscf e37 (ok_spec_l03Is x4 v9_87 15 _ e38) _ ?_
             rcases condE h with ⟨b39, h⟩ | ⟨b39, h⟩
             ·refine w_ct (congrArg AV.bool b39) ?_
              simp only [(bnT b39), Bool.not_true, Bool.not_false]
              refine ws _ ?_
              exact w_ret (q35 _ (q34 _ (q30 _ (q29 _ (q27 _ (r0 _ (.inl (w_fin [.int .i64 8] rfl (by cases someE h; rfl) (by decide) outs_nil))))))))
             ·refine w_cf (congrArg AV.bool b39) ?_
              simp only [(bnF b39), Bool.not_true, Bool.not_false]
              refine w_skip (n35 _ (n34 _ (.inl ?_)))
              refine wr _ ?_
              exact n30 _ (.inr ⟨_, weak_eq rfl, ih87 v9_87 (IntKind.i64.wrap (v10_87 + 1)) h⟩)
            ·refine w_cf (congrArg AV.bool b33) ?_
             simp only [b33, Bool.not_true, Bool.not_false]
             refine w_ex (x31 1 _ (x30 1 _ (b29 _ (n27 _ (.inl ?_)))))
             refine ws _ ?_
             exact w_ret (r0 _ (.inl (w_fin [.int .i64 0] rfl (by cases someE h; rfl) (by decide) outs_nil)))
          obtain ⟨n, h⟩ := limE h
          exact w_loop (.inr ⟨_, weak_eq rfl, L87 n x3 0 h⟩)
       rcases condE h with ⟨b44, h⟩ | ⟨b44, h⟩
       ·rcases condE h with ⟨b45, h⟩ | ⟨b45, h⟩
        ·refine w_sregW (w_abs (K := onW _) [(1, .ref (e_impl_Definition a1)), (2, .int .i64 a2), (7, .ubox (e_impl_Part x1)), (8, .int .i64 (x1.Arguments.length : Int)), (102, .bool true)] (fun P hP => ?_) ?_)
         ·simp only [V0.down, simprocAttr, zz8.down, b44, b45]
          (try simp only [VN.down, simprocAttr, zz0.down, b44, b45] at hP ⊢); exact hP
         exact .inr ⟨_, weak_eq rfl, K68 true h⟩
        ·obtain ⟨x6, e46, h⟩ := bindE h
         refine w_sregW (w_abs (K := onW _) [(1, .ref (e_impl_Definition a1)), (2, .int .i64 a2), (7, .ubox (e_impl_Part x1)), (8, .int .i64 (x1.Arguments.length : Int)), (102, .bool (x6.Kind != 1))] (fun P hP => ?_) ?_)
         ·simp only [V0.down, simprocAttr, zz8.down, b44, b45, e46]
          (try simp only [VN.down, simprocAttr, zz0.down, b44, b45, e46] at hP ⊢); exact hP
         exact .inr ⟨_, weak_eq rfl, K68 (x6.Kind != 1) h⟩
       ·refine w_sregW (w_abs (K := onW _) [(1, .ref (e_impl_Definition a1)), (2, .int .i64 a2), (7, .ubox (e_impl_Part x1)), (8, .int .i64 (x1.Arguments.length : Int)), (102, .bool false)] (fun P hP => ?_) ?_)
        ·simp only [V0.down, simprocAttr, zz8.down, b44]
         (try simp only [VN.down, simprocAttr, zz0.down, b44] at hP ⊢); exact hP
        exact .inr ⟨_, weak_eq rfl, K68 false h⟩
      refine w_seq (fun Q16 n16 q16 x16 => ?_)
      refine ws _ ?_
      refine w_blk (fun Q48 n48 q48 b48 x48 => ?_)
      refine ws _ ?_
      rcases condE h with ⟨b50, h⟩ | ⟨b50, h⟩
      ·refine w_ct (congrArg AV.bool b50) ?_
       simp only [b50, Bool.not_true, Bool.not_false]
       refine w_sreg (w_abs [(1, .ref (e_impl_Definition a1)), (2, .int .i64 a2), (7, .ubox (e_impl_Part x1)), (8, .int .i64 (x1.Arguments.length : Int)), (69, .bool ((decide (2 < (x1.Arguments.length : Int))) || ((decide (0 < (x1.Arguments.length : Int))) && (x1.Name == ([116, 97, 117] : List UInt8)))))] (fun P hP => ?_) ?_)
       ·(rcases Bool.eq_false_or_eq_true (decide (2 < (x1.Arguments.length : Int))) with s52 | s52) <;> (rcases Bool.eq_false_or_eq_true (decide (0 < (x1.Arguments.length : Int))) with s53 | s53) <;>
          (simp only [V0.down, simprocAttr, zz13.down, s52, s53]
           (try simp only [VN.down, simprocAttr, zz0.down, s52, s53] at hP ⊢); exact hP)
       rcases condE h with ⟨b54, h⟩ | ⟨b54, h⟩
       ·refine w_ct (congrArg AV.bool b54) ?_
        simp only [b54, Bool.not_true, Bool.not_false]
        refine ws _ ?_
        exact w_ret (q48 _ (q16 _ (r0 _ (.inl (w_fin [.int .i64 5] rfl (by cases someE h; rfl) (by decide) outs_nil)))))
       ·refine w_cf (congrArg AV.bool b54) ?_
        simp only [b54, Bool.not_true, Bool.not_false]
        exact w_skip (n48 _ (n16 _ (.inr ⟨_, weak_eq rfl, K65 h⟩)))
      ·refine w_cf (congrArg AV.bool b50) ?_
       simp only [b50, Bool.not_true, Bool.not_false]
       refine ws _ ?_
       rcases condE h with ⟨b57, h⟩ | ⟨b57, h⟩
       ·refine w_ct (congrArg AV.bool b57) ?_
        simp only [b57, Bool.not_true, Bool.not_false]
        refine ws _ ?_
        rcases condE h with ⟨b59, h⟩ | ⟨b59, h⟩
        ·refine w_ct (congrArg AV.bool b59) ?_
         simp only [b59, Bool.not_true, Bool.not_false]
         refine ws _ ?_
         exact w_ret (q48 _ (q16 _ (r0 _ (.inl (w_fin [.int .i64 5] rfl (by cases someE h; rfl) (by decide) outs_nil)))))
        ·refine w_cf (congrArg AV.bool b59) ?_
         simp only [b59, Bool.not_true, Bool.not_false]
         exact w_skip (n48 _ (n16 _ (.inr ⟨_, weak_eq rfl, K65 h⟩)))
       ·refine w_cf (congrArg AV.bool b57) ?_
        simp only [b57, Bool.not_true, Bool.not_false]
        refine ws _ ?_
        rcases condE h with ⟨b62, h⟩ | ⟨b62, h⟩
        ·refine w_ct (congrArg AV.bool b62) ?_
         simp only [b62, Bool.not_true, Bool.not_false]
         obtain ⟨x7, e64, h⟩ := bindE h
         refine wsf e64 _ ?_
         rcases condE h with ⟨b65, h⟩ | ⟨b65, h⟩
         ·refine w_ct (congrArg AV.bool b65) ?_
          simp only [b65, Bool.not_true, Bool.not_false]
          refine ws _ ?_
          exact w_ret (q48 _ (q16 _ (r0 _ (.inl (w_fin [.int .i64 5] rfl (by cases someE h; rfl) (by decide) outs_nil)))))
         ·refine w_cf (congrArg AV.bool b65) ?_
          simp only [b65, Bool.not_true, Bool.not_false]
          exact w_skip (n48 _ (n16 _ (.inr ⟨_, weak_eq rfl, K65 h⟩)))
        ·refine w_cf (congrArg AV.bool b62) ?_
         simp only [b62, Bool.not_true, Bool.not_false]
         exact w_skip (n48 _ (n16 _ (.inr ⟨_, weak_eq rfl, K65 h⟩)))
    rcases condE h with ⟨b68, h⟩ | ⟨b68, h⟩
    ·obtain ⟨x8, e69, h⟩ := bindE h
     rcases condE h with ⟨b70, h⟩ | ⟨b70, h⟩
     ·refine w_sregW (w_abs (K := onW _) [(0, .slice (a0.map e_impl_Definition)), (1, .ref (e_impl_Definition a1)), (2, .int .i64 a2), (7, .ubox (e_impl_Part x1)), (51, .bool true)] (fun P hP => ?_) ?_)
      ·simp only [V0.down, simprocAttr, zz1.down, b68, (bnT b70)]
       refine w_callg0 (ok_spec_l00In x1.Number 1 7 _ e69) rfl rfl rfl rfl (.inl (by rfl)) ?_
       simp only [V0.down, simprocAttr, zz1.down, b68, (bnT b70)]
       (try simp only [VN.down, simprocAttr, zz0.down, b68, (bnT b70)] at hP ⊢); exact hP
      exact .inr ⟨_, weak_eq rfl, K23 true h⟩
     ·rcases condE h with ⟨b71, h⟩ | ⟨b71, h⟩
      ·obtain ⟨x9, e72, h⟩ := bindE h
       refine w_sregW (w_abs (K := onW _) [(0, .slice (a0.map e_impl_Definition)), (1, .ref (e_impl_Definition a1)), (2, .int .i64 a2), (7, .ubox (e_impl_Part x1)), (51, .bool (!x9))] (fun P hP => ?_) ?_)
       ·simp only [V0.down, simprocAttr, zz1.down, b68, (bnF b70), b71]
        refine w_callg0 (ok_spec_l00In x1.Number 1 7 _ e69) rfl rfl rfl rfl (.inl (by rfl)) ?_
        simp only [V0.down, simprocAttr, zz1.down, b68, (bnF b70), b71]
        refine w_callg0 (ok_spec_l00In x1.Number 0 (IntKind.i64.wrap ((a0.length : Int) - 1)) _ e72) rfl rfl rfl rfl (.inl (by rfl)) ?_
        simp only [V0.down, simprocAttr, zz1.down, b68, (bnF b70), b71]
        (try simp only [VN.down, simprocAttr, zz0.down, b68, (bnF b70), b71] at hP ⊢); exact hP
       exact .inr ⟨_, weak_eq rfl, K23 (!x9) h⟩
      ·refine w_sregW (w_abs (K := onW _) [(0, .slice (a0.map e_impl_Definition)), (1, .ref (e_impl_Definition a1)), (2, .int .i64 a2), (7, .ubox (e_impl_Part x1)), (51, .bool false)] (fun P hP => ?_) ?_)
       ·simp only [V0.down, simprocAttr, zz1.down, b68, (bnF b70), b71]
        refine w_callg0 (ok_spec_l00In x1.Number 1 7 _ e69) rfl rfl rfl rfl (.inl (by rfl)) ?_
        simp only [V0.down, simprocAttr, zz1.down, b68, (bnF b70), b71]
        (try simp only [VN.down, simprocAttr, zz0.down, b68, (bnF b70), b71] at hP ⊢); exact hP
       exact .inr ⟨_, weak_eq rfl, K23 false h⟩
    ·rcases condE h with ⟨b73, h⟩ | ⟨b73, h⟩
     ·obtain ⟨x10, e74, h⟩ := bindE h
      refine w_sregW (w_abs (K := onW _) [(0, .slice (a0.map e_impl_Definition)), (1, .ref (e_impl_Definition a1)), (2, .int .i64 a2), (7, .ubox (e_impl_Part x1)), (51, .bool (!x10))] (fun P hP => ?_) ?_)
      ·simp only [V0.down, simprocAttr, zz1.down, b68, b73]
       refine w_callg0 (ok_spec_l00In x1.Number 0 (IntKind.i64.wrap ((a0.length : Int) - 1)) _ e74) rfl rfl rfl rfl (.inl (by rfl)) ?_
       simp only [V0.down, simprocAttr, zz1.down, b68, b73]
       (try simp only [VN.down, simprocAttr, zz0.down, b68, b73] at hP ⊢); exact hP
      exact .inr ⟨_, weak_eq rfl, K23 (!x10) h⟩
     ·refine w_sregW (w_abs (K := onW _) [(0, .slice (a0.map e_impl_Definition)), (1, .ref (e_impl_Definition a1)), (2, .int .i64 a2), (7, .ubox (e_impl_Part x1)), (51, .bool false)] (fun P hP => ?_) ?_)
      ·simp only [V0.down, simprocAttr, zz1.down, b68, b73]
       (try simp only [VN.down, simprocAttr, zz0.down, b68, b73] at hP ⊢); exact hP
      exact .inr ⟨_, weak_eq rfl, K23 false h⟩
  rcases condE h with ⟨b76, h⟩ | ⟨b76, h⟩
  ·obtain ⟨x11, e77, h⟩ := bindE h
   refine w_sregW (w_abs (K := onW _) [(0, .slice (a0.map e_impl_Definition)), (1, .ref (e_impl_Definition a1)), (2, .int .i64 a2), (7, .ubox (e_impl_Part x1)), (28, .bool (!x11))] (fun P hP => ?_) ?_)
   ·simp only [V0.down, simprocAttr, zz13.down, b76]
    refine w_callg0 (ok_spec_l01Name x1.Name _ e77) rfl rfl rfl rfl (.inl (by rfl)) ?_
    simp only [V0.down, simprocAttr, zz13.down, b76]
    (try simp only [VN.down, simprocAttr, zz0.down, b76] at hP ⊢); exact hP
   exact .inr ⟨_, weak_eq rfl, K15 (!x11) h⟩
  ·refine w_sregW (w_abs (K := onW _) [(0, .slice (a0.map e_impl_Definition)), (1, .ref (e_impl_Definition a1)), (2, .int .i64 a2), (7, .ubox (e_impl_Part x1)), (28, .bool false)] (fun P hP => ?_) ?_)
   ·simp only [V0.down, simprocAttr, zz13.down, b76]
    (try simp only [VN.down, simprocAttr, zz0.down, b76] at hP ⊢); exact hP
   exact .inr ⟨_, weak_eq rfl, K15 false h⟩

theorem ok_spec_l05Body (a0 : List impl_Definition) (a1 : impl_Definition) (r : Int × Int) (h : spec_l05Body a0 a1 = some r) : OkAt Cc 47 [.slice (a0.map e_impl_Definition), .ref (e_impl_Definition a1)] (.tuple [.int .i64 r.1, .int .i64 r.2]) [] := by
 refine OkAt.of_wpR (fx := [0, 1]) Cc_ok [.tmp 4, .tmp 5] [(0, .slice (a0.map e_impl_Definition)), (1, .ref (e_impl_Definition a1))] Try.func47 rfl rfl s47 (Nat.le_of_ble_eq_true rfl) rfl rfl (fun Q0 r0 n0 => ?_)
 refine ws _ ?_
 refine w_seq (fun Q2 n2 q2 x2 => ?_)
 obtain ⟨x1, e4, h⟩ := bindE h
 refine wsc (ok_spec_l05Shape a1.Body _ e4) _ ?_
 rcases condE h with ⟨b5, h⟩ | ⟨b5, h⟩
 ·refine w_ct (congrArg AV.bool b5) ?_
  simp only [(bnT b5), Bool.not_true, Bool.not_false]
  refine ws _ ?_
  exact w_ret (q2 _ (r0 _ (.inl (w_fin [.int .i64 0, .int .i64 1] rfl (by cases someE h; rfl) (by decide) outs_nil))))
 ·refine w_cf (congrArg AV.bool b5) ?_
  simp only [(bnF b5), Bool.not_true, Bool.not_false]
  refine w_skip (n2 _ (.inl ?_))
  refine w_seq (fun Q7 n7 q7 x7 => ?_)
  refine ws _ ?_
  refine w_blk (fun Q9 n9 q9 b9 x9 => ?_)
  have L14 : ∀ (n : Nat) (v6_14 : Int), spec_l05Body_l14 a0 a1 n v6_14 = some r → lpC Cc c47_15 Q9 (stA [(0, .slice (a0.map e_impl_Definition)), (1, .ref (e_impl_Definition a1)), (6, .int .i64 v6_14)]) := by
   intro m14
   induction m14 with
   | zero => intro v6_14 h; cases (show none = some r from h)
   | succ m14 ih14 =>
    intro v6_14 h
    replace h : spec_l05Body_b14 (spec_l05Body_l14 a0 a1 m14) a0 a1 v6_14 = some r := h
    refine lpC_step (fun Q10 n10 q10 x10 => ?_)
    refine w_seq (fun Q11 n11 q11 x11 => ?_)
    refine ws _ ?_
    rcases condE h with ⟨b13, h⟩ | ⟨b13, h⟩
    ·refine w_ct (congrArg AV.bool b13) ?_
     simp only [b13, Bool.not_true, Bool.not_false]
     refine w_skip (n11 _ (.inl ?_))
     refine w_seq (fun Q14 n14 q14 x14 => ?_)
     refine w_blk (fun Q15 n15 q15 b15 x15 => ?_)
     obtain ⟨x2, e17, h⟩ := bindE h
     refine wsc (ok_spec_l05Reason a0 a1 v6_14 _ e17) _ ?_
     refine ws _ ?_
     rcases condE h with ⟨b19, h⟩ | ⟨b19, h⟩
     ·refine w_ct (congrArg AV.bool b19) ?_
      simp only [b19, Bool.not_true, Bool.not_false]
      refine ws _ ?_
      exact w_ret (q15 _ (q14 _ (q10 _ (q9 _ (q7 _ (r0 _ (.inl (w_fin [.int .i64 v6_14, .int .i64 x2] rfl (by cases someE h; rfl) (by decide) outs_nil))))))))
     ·refine w_cf (congrArg AV.bool b19) ?_
      simp only [b19, Bool.not_true, Bool.not_false]
      refine w_skip (n15 _ (n14 _ (.inl ?_)))
      refine wr _ ?_
      exact n10 _ (.inr ⟨_, weak_eq rfl, ih14 (IntKind.i64.wrap (v6_14 + 1)) h⟩)
    ·refine w_cf (congrArg AV.bool b13) ?_
     simp only [b13, Bool.not_true, Bool.not_false]
     refine w_ex (x11 0 _ (x10 0 _ (b9 _ (n7 _ (.inl ?_)))))
     refine ws _ ?_
     exact w_ret (r0 _ (.inl (w_fin [.int .i64 0, .int .i64 0] rfl (by cases someE h; rfl) (by decide) outs_nil)))
  obtain ⟨n, h⟩ := limE h
  exact w_loop (.inr ⟨_, weak_eq rfl, L14 n 0 h⟩)

set_option maxHeartbeats 1200000 in
theorem ok_spec_l05Defs (a0 : List impl_Definition) (r : Bool) (h : spec_l05Defs a0 = some r) : OkAt Cc 32 [.slice (a0.map e_impl_Definition)] (.bool r) [] := by
 refine OkAt.of_wpR (fx := [0]) Cc_ok [.tmp 2] [(0, .slice (a0.map e_impl_Definition))] Try.func32 rfl rfl s32 (Nat.le_of_ble_eq_true rfl) rfl rfl (fun Q0 r0 n0 => ?_)
 refine ws _ ?_
 refine w_seq (fun Q2 n2 q2 x2 => ?_)
 refine w_sreg (w_abs [(0, .slice (a0.map e_impl_Definition)), (15, .bool (((a0.length : Int) == 0) || (decide (4 < (a0.length : Int)))))] (fun P hP => ?_) ?_)
 ·rcases Bool.eq_false_or_eq_true ((a0.length : Int) == 0) with s4 | s4
  ·simp only [V0.down, simprocAttr, zz1.down, s4]
   (try simp only [VN.down, simprocAttr, zz0.down, s4] at hP ⊢); exact hP
  ·simp only [V0.down, simprocAttr, zz1.down, s4]
   (try simp only [VN.down, simprocAttr, zz0.down, s4] at hP ⊢); exact hP
 rcases condE h with ⟨b5, h⟩ | ⟨b5, h⟩
 ·refine w_ct (congrArg AV.bool b5) ?_
  simp only [b5, Bool.not_true, Bool.not_false]
  refine ws _ ?_
  exact w_ret (q2 _ (r0 _ (.inl (w_fin [.bool false] rfl (by cases someE h; rfl) (by decide) outs_nil))))
 ·refine w_cf (congrArg AV.bool b5) ?_
  simp only [b5, Bool.not_true, Bool.not_false]
  refine w_skip (n2 _ (.inl ?_))
  refine w_seq (fun Q7 n7 q7 x7 => ?_)
  refine ws _ ?_
  refine w_blk (fun Q9 n9 q9 b9 x9 => ?_)
  have L14 : ∀ (n : Nat) (v3_14 : Int), spec_l05Defs_l14 a0 n v3_14 = some r → lpC Cc c32_15 Q9 (stA [(0, .slice (a0.map e_impl_Definition)), (3, .int .i64 v3_14)]) := by
   intro m14
   induction m14 with
   | zero => intro v3_14 h; cases (show none = some r from h)
   | succ m14 ih14 =>
    intro v3_14 h
    replace h : spec_l05Defs_b14 (spec_l05Defs_l14 a0 m14) a0 v3_14 = some r := h
    refine lpC_step (fun Q10 n10 q10 x10 => ?_)
    refine w_seq (fun Q11 n11 q11 x11 => ?_)
    refine ws _ ?_
    rcases condE h with ⟨b13, h⟩ | ⟨b13, h⟩
    ·refine w_ct (congrArg AV.bool b13) ?_
     simp only [b13, Bool.not_true, Bool.not_false]
     refine w_skip (n11 _ (.inl ?_))
     refine w_seq (fun Q14 n14 q14 x14 => ?_)
     refine w_blk (fun Q15 n15 q15 b15 x15 => ?_)
     refine w_seq (fun Q16 n16 q16 x16 => ?_)
     obtain ⟨x1, e18, h⟩ := bindE h
     obtain ⟨x2, e19, h⟩ := bindE h
     rcases condE h with ⟨b20, h⟩ | ⟨b20, h⟩
     ·refine wscf (And.intro e18 (bnT b20)) (ok_spec_l01Name x1.Name _ e19) _ ?_
      refine w_ct rfl ?_
      refine ws _ ?_
      exact w_ret (q16 _ (q15 _ (q14 _ (q10 _ (q9 _ (q7 _ (r0 _ (.inl (w_fin [.bool false] rfl (by cases someE h; rfl) (by decide) outs_nil)))))))))
     ·obtain ⟨x3, e22, h⟩ := bindE h
      refine w_sreg (w_abs [(0, .slice (a0.map e_impl_Definition)), (3, .int .i64 v3_14), (37, .bool (!x3))] (fun P hP => ?_) ?_)
      ·simp only [V0.down, simprocAttr, zz1.down, e18, (bnF b20)]
       refine w_call0 (ok_spec_l01Name x1.Name _ e19) rfl rfl rfl rfl (.inl (by rfl)) ?_
       simp only [V0.down, simprocAttr, zz1.down, e18, (bnF b20)]
       refine w_callg0 (ok_spec_l00In x1.Parameters 0 3 _ e22) rfl rfl rfl rfl (.inl (by rfl)) ?_
       simp only [V0.down, simprocAttr, zz1.down, e18, (bnF b20)]
       (try simp only [VN.down, simprocAttr, zz0.down, e18, (bnF b20)] at hP ⊢); exact hP
      rcases condE h with ⟨b23, h⟩ | ⟨b23, h⟩
      ·refine w_ct (congrArg AV.bool b23) ?_
       simp only [(bnT b23), Bool.not_true, Bool.not_false]
       refine ws _ ?_
       exact w_ret (q16 _ (q15 _ (q14 _ (q10 _ (q9 _ (q7 _ (r0 _ (.inl (w_fin [.bool false] rfl (by cases someE h; rfl) (by decide) outs_nil)))))))))
      ·refine w_cf (congrArg AV.bool b23) ?_
       simp only [(bnF b23), Bool.not_true, Bool.not_false]
       refine w_skip (n16 _ (.inl ?_))
       refine ws _ ?_
       refine w_blk (fun Q26 n26 q26 b26 x26 => ?_)
       have L34 : ∀ (n : Nat) (v3_34 : Int) (v4_34 : Int), spec_l05Defs_l34 (spec_l05Defs_l14 a0 m14) a0 n v3_34 v4_34 = some r → lpC Cc c32_35 Q26 (stA [(0, .slice (a0.map e_impl_Definition)), (3, .int .i64 v3_34), (4, .int .i64 v4_34)]) := by
        intro m34
        induction m34 with
        | zero => intro v3_34 v4_34 h; cases (show none = some r from h)
        | succ m34 ih34 =>
         intro v3_34 v4_34 h
         replace h : spec_l05Defs_b34 (spec_l05Defs_l14 a0 m14) (spec_l05Defs_l34 (spec_l05Defs_l14 a0 m14) a0 m34) a0 v3_34 v4_34 = some r := h
         refine lpC_step (fun Q27 n27 q27 x27 => ?_)
         refine w_seq (fun Q28 n28 q28 x28 => ?_)
         refine ws _ ?_
         rcases condE h with ⟨b30, h⟩ | ⟨b30, h⟩
         ·refine w_ct (congrArg AV.bool b30) ?_
          simp only [b30, Bool.not_true, Bool.not_false]
          refine w_skip (n28 _ (.inl ?_))
          refine w_seq (fun Q31 n31 q31 x31 => ?_)
          refine w_blk (fun Q32 n32 q32 b32 x32 => ?_)
          obtain ⟨x4, e34, h⟩ := bindE h
          obtain ⟨x5, e35, h⟩ := bindE h
          refine w_sdrw rfl (w_absd [(0, .slice (a0.map e_impl_Definition)), (3, .int .i64 v3_34), (4, .int .i64 v4_34), (53, .bool (x4.Name == x5.Name))] (fun P hP => ?_) ?_)
          ·simp only [V1.down, simprocAttr, zz1.down, e34, e35]
           refine ⟨okP_D (by kernel_rfl), ?_⟩
           (try simp only [VN.down, simprocAttr, zz0.down, e34, e35] at hP ⊢); exact hP
          rcases condE h with ⟨b36, h⟩ | ⟨b36, h⟩
          ·refine w_ct (congrArg AV.bool b36) ?_
           simp only [b36, Bool.not_true, Bool.not_false]
           refine ws _ ?_
           exact w_ret (q32 _ (q31 _ (q27 _ (q26 _ (q15 _ (q14 _ (q10 _ (q9 _ (q7 _ (r0 _ (.inl (w_fin [.bool false] rfl (by cases someE h; rfl) (by decide) outs_nil))))))))))))
          ·refine w_cf (congrArg AV.bool b36) ?_
           simp only [b36, Bool.not_true, Bool.not_false]
           refine w_skip (n32 _ (n31 _ (.inl ?_)))
           refine wr _ ?_
           exact n27 _ (.inr ⟨_, weak_eq rfl, ih34 v3_34 (IntKind.i64.wrap (v4_34 + 1)) h⟩)
         ·refine w_cf (congrArg AV.bool b30) ?_
          simp only [b30, Bool.not_true, Bool.not_false]
          refine w_ex (x28 2 _ (x27 2 _ (b26 _ (n15 _ (n14 _ (.inl ?_))))))
          refine wr _ ?_
          exact n10 _ (.inr ⟨_, weak_eq rfl, ih14 (IntKind.i64.wrap (v3_34 + 1)) h⟩)
       obtain ⟨n, h⟩ := limE h
       exact w_loop (.inr ⟨_, weak_eq rfl, L34 n v3_14 0 h⟩)
    ·refine w_cf (congrArg AV.bool b13) ?_
     simp only [b13, Bool.not_true, Bool.not_false]
     refine w_ex (x11 0 _ (x10 0 _ (b9 _ (n7 _ (.inl ?_)))))
     refine w_seq (fun Q40 n40 q40 x40 => ?_)
     refine ws _ ?_
     refine w_blk (fun Q42 n42 q42 b42 x42 => ?_)
     have L56 : ∀ (n : Nat) (v5_56 : Int), spec_l05Defs_l56 a0 n v5_56 = some r → lpC Cc c32_57 Q42 (stA [(0, .slice (a0.map e_impl_Definition)), (5, .int .i64 v5_56)]) := by
      intro m56
      induction m56 with
      | zero => intro v5_56 h; cases (show none = some r from h)
      | succ m56 ih56 =>
       intro v5_56 h
       replace h : spec_l05Defs_b56 (spec_l05Defs_l56 a0 m56) a0 v5_56 = some r := h
       refine lpC_step (fun Q43 n43 q43 x43 => ?_)
       refine w_seq (fun Q44 n44 q44 x44 => ?_)
       refine ws _ ?_
       rcases condE h with ⟨b46, h⟩ | ⟨b46, h⟩
       ·refine w_ct (congrArg AV.bool b46) ?_
        simp only [b46, Bool.not_true, Bool.not_false]
        refine w_skip (n44 _ (.inl ?_))
        refine w_seq (fun Q47 n47 q47 x47 => ?_)
        refine w_blk (fun Q48 n48 q48 b48 x48 => ?_)
        obtain ⟨x6, e50, h⟩ := bindE h
        obtain ⟨x7, e51, h⟩ := bindE h
        refine wscf e50 (ok_spec_l05Body a0 x6 _ e51) _ ?_
        refine ws _ ?_
        rcases condE h with ⟨b53, h⟩ | ⟨b53, h⟩
        ·refine w_ct (congrArg AV.bool b53) ?_
         simp only [b53, Bool.not_true, Bool.not_false]
         refine ws _ ?_
         exact w_ret (q48 _ (q47 _ (q43 _ (q42 _ (q40 _ (r0 _ (.inl (w_fin [.bool false] rfl (by cases someE h; rfl) (by decide) outs_nil))))))))
        ·refine w_cf (congrArg AV.bool b53) ?_
         simp only [b53, Bool.not_true, Bool.not_false]
         refine w_skip (n48 _ (n47 _ (.inl ?_)))
         refine wr _ ?_
         exact n43 _ (.inr ⟨_, weak_eq rfl, ih56 (IntKind.i64.wrap (v5_56 + 1)) h⟩)
       ·refine w_cf (congrArg AV.bool b46) ?_
        simp only [b46, Bool.not_true, Bool.not_false]
        refine w_ex (x44 4 _ (x43 4 _ (b42 _ (n40 _ (.inl ?_)))))
        refine ws _ ?_
        exact w_ret (r0 _ (.inl (w_fin [.bool true] rfl (by cases someE h; rfl) (by decide) outs_nil)))
     obtain ⟨n, h⟩ := limE h
     exact w_loop (.inr ⟨_, weak_eq rfl, L56 n 0 h⟩)
  obtain ⟨n, h⟩ := limE h
  exact w_loop (.inr ⟨_, weak_eq rfl, L14 n 0 h⟩)

theorem ok_spec_l05Ask (a0 : List impl_Definition) (a1 : Int) (a2 : Int) (r : Int) (h : spec_l05Ask a0 a1 a2 = some r) : OkAt Cc 20 [.slice (a0.map e_impl_Definition), .int .i64 a1, .int .i64 a2] (.int .i64 r) [] := by
 refine OkAt.of_wpR (fx := [0, 1, 2]) Cc_ok [.tmp 6] [(0, .slice (a0.map e_impl_Definition)), (1, .int .i64 a1), (2, .int .i64 a2)] Try.func20 rfl rfl s20 (Nat.le_of_ble_eq_true rfl) rfl rfl (fun Q0 r0 n0 => ?_)
 refine ws _ ?_
 refine w_seq (fun Q2 n2 q2 x2 => ?_)
 obtain ⟨x1, e4, h⟩ := bindE h
 refine wsc (ok_spec_l05Defs a0 _ e4) _ ?_
 rcases condE h with ⟨b5, h⟩ | ⟨b5, h⟩
 ·refine w_ct (congrArg AV.bool b5) ?_
  simp only [(bnT b5), Bool.not_true, Bool.not_false]
  refine ws _ ?_
  exact w_ret (q2 _ (r0 _ (.inl (w_fin [.int .i64 1] rfl (by cases someE h; rfl) (by decide) outs_nil))))
 ·refine w_cf (congrArg AV.bool b5) ?_
  simp only [(bnF b5), Bool.not_true, Bool.not_false]
  refine w_skip (n2 _ (.inl ?_))
  refine w_seq (fun Q7 n7 q7 x7 => ?_)
  obtain ⟨x2, e9, h⟩ := bindE h
  rcases condE h with ⟨b10, h⟩ | ⟨b10, h⟩
  ·refine wscf (bnT b10) (ok_spec_l00In a1 0 (IntKind.i64.wrap ((a0.length : Int) - 1)) _ e9) _ ?_
   refine w_ct rfl ?_
   refine ws _ ?_
   exact w_ret (q7 _ (r0 _ (.inl (w_fin [.int .i64 2] rfl (by cases someE h; rfl) (by decide) outs_nil))))
  ·obtain ⟨x3, e12, h⟩ := bindE h
   obtain ⟨x4, e13, h⟩ := bindE h
   refine w_sreg (w_abs [(27, .bool (!x4))] (fun P hP => ?_) ?_)
   ·simp only [V0.down, simprocAttr, zz1.down, (bnF b10), e12]
    refine w_call0 (ok_spec_l00In a1 0 (IntKind.i64.wrap ((a0.length : Int) - 1)) _ e9) rfl rfl rfl rfl (.inl (by rfl)) ?_
    simp only [V0.down, simprocAttr, zz1.down, (bnF b10), e12]
    refine w_callg0 (ok_spec_l00In a2 0 (IntKind.i64.wrap ((x3.Body.length : Int) - 1)) _ e13) rfl rfl rfl rfl (.inl (by rfl)) ?_
    simp only [V0.down, simprocAttr, zz1.down, (bnF b10), e12]
    (try simp only [VN.down, simprocAttr, zz0.down, (bnF b10), e12] at hP ⊢); exact hP
   rcases condE h with ⟨b14, h⟩ | ⟨b14, h⟩
   ·refine w_ct (congrArg AV.bool b14) ?_
    simp only [(bnT b14), Bool.not_true, Bool.not_false]
    refine ws _ ?_
    exact w_ret (q7 _ (r0 _ (.inl (w_fin [.int .i64 2] rfl (by cases someE h; rfl) (by decide) outs_nil))))
   ·refine w_cf (congrArg AV.bool b14) ?_
    simp only [(bnF b14), Bool.not_true, Bool.not_false]
    refine w_skip (n7 _ (.inl ?_))
    refine ws _ ?_
    exact w_ret (r0 _ (.inl (w_fin [.int .i64 0] rfl (by cases someE h; rfl) (by decide) outs_nil)))

set_option maxHeartbeats 600000 in
theorem ok_spec_l00Put (a0 : List Int) (a1 : Int) (r : (List Int)) (h : spec_l00Put a0 a1 = some r) : OkAt Cc 34 [.slice (a0.map e_i64), .int .i64 a1] (.uslice 1 (r.map e_i64)) [] := by
 refine OkAt.of_wpR (fx := [0, 1]) Cc_ok [.tmp 4] [(0, .slice (a0.map e_i64)), (1, .int .i64 a1)] Try.func34 rfl rfl s34 (Nat.le_of_ble_eq_true rfl) rfl rfl (fun Q0 r0 n0 => ?_)
 refine ws _ ?_
 refine wsf (show ∀ s, bsl Cc s 24 0 [] = some (.uslice 1 [], s) from fun s => by kernel_rfl) _ ?_
 refine ws _ ?_
 refine w_seq (fun Q4 n4 q4 x4 => ?_)
 refine ws _ ?_
 refine w_blk (fun Q6 n6 q6 b6 x6 => ?_)
 have L10 : ∀ (n : Nat) (v5_10 : List Int) (v6_10 : Bool) (v7_10 : Int), spec_l00Put_l10 a0 a1 n v5_10 v6_10 v7_10 = some r → lpC Cc c34_11 Q6 (stA [(0, .slice (a0.map e_i64)), (1, .int .i64 a1), (5, .uslice 1 (v5_10.map e_i64)), (6, .bool v6_10), (7, .int .i64 v7_10)]) := by
  intro m10
  induction m10 with
  | zero => intro v5_10 v6_10 v7_10 h; cases (show none = some r from h)
  | succ m10 ih10 =>
   intro v5_10 v6_10 v7_10 h
   replace h : spec_l00Put_b10 (spec_l00Put_l10 a0 a1 m10) a0 a1 v5_10 v6_10 v7_10 = some r := h
   refine lpC_step (fun Q7 n7 q7 x7 => ?_)
   refine w_seq (fun Q8 n8 q8 x8 => ?_)
   refine ws _ ?_
   rcases condE h with ⟨b10, h⟩ | ⟨b10, h⟩
   ·refine w_ct (congrArg AV.bool b10) ?_
    simp only [b10, Bool.not_true, Bool.not_false]
    refine w_skip (n8 _ (.inl ?_))
    refine w_seq (fun Q11 n11 q11 x11 => ?_)
    refine w_blk (fun Q12 n12 q12 b12 x12 => ?_)
    have K31 : ∀ (v5_31 : List Int) (v6_31 : Bool) (v7_31 : Int), spec_l00Put_k31 (spec_l00Put_l10 a0 a1 m10) a0 a1 v5_31 v6_31 v7_31 = some r → wpC Cc c34_31 Q12 (stA [(0, .slice (a0.map e_i64)), (1, .int .i64 a1), (5, .uslice 1 (v5_31.map e_i64)), (6, .bool v6_31), (7, .int .i64 v7_31)]) := by
     intro v5_31 v6_31 v7_31 h
     obtain ⟨x1, e15, h⟩ := bindE h
     obtain ⟨u17, e16, h⟩ := bindE h
     (try simp only [List.length_append, List.length_cons, List.length_nil, List.length_map, List.length_replicate, Nat.zero_add, Nat.add_zero, Nat.reduceAdd] at e16)
     refine w_reg (w_abs [(0, .slice (a0.map e_i64)), (1, .int .i64 a1), (5, .uslice 1 ((v5_31 ++ [x1]).map e_i64)), (6, .bool v6_31), (7, .int .i64 v7_31)] (fun P hP => ?_) ?_)
     ·simp only [V0.down, simprocAttr, tt2, tt24, e_i64, e15, (show ∀ s, bsl Cc s 24 1 [(0, .int .i64 x1)] = some (.uslice 1 [.int .i64 x1], s) from fun s => by kernel_rfl), @apd_s Cc 24 24 2 rfl rfl, ap_s, ap2_s, ap3_s, all_cons, all_nil, e16, @all_wd' _ e_i64 1 (fun _ => rfl)]
      (try simp only [VN.down, simprocAttr, e_i64, e15, (show ∀ s, bsl Cc s 24 1 [(0, .int .i64 x1)] = some (.uslice 1 [.int .i64 x1], s) from fun s => by kernel_rfl), @apd_s Cc 24 24 2 rfl rfl, ap_s, ap2_s, ap3_s, all_cons, all_nil, e16, @all_wd' _ e_i64 1 (fun _ => rfl)] at hP ⊢); exact hP
     refine n12 _ (n11 _ (.inl ?_))
     refine wr [(0, .slice (a0.map e_i64)), (1, .int .i64 a1), (5, .uslice 1 ((v5_31 ++ [x1]).map e_i64)), (6, .bool v6_31), (7, .int .i64 (IntKind.i64.wrap (v7_31 + 1)))] ?_
     exact n7 _ (.inr ⟨_, weak_eq rfl, ih10 (v5_31 ++ [x1]) v6_31 (IntKind.i64.wrap (v7_31 + 1)) h⟩)
    refine w_seq (fun Q13 n13 q13 x13 => ?_)
    rcases condE h with ⟨b19, h⟩ | ⟨b19, h⟩
    ·obtain ⟨x2, e20, h⟩ := bindE h
     refine wsf (And.intro (bnT b19) e20) _ ?_
     rcases condE h with ⟨b21, h⟩ | ⟨b21, h⟩
     ·refine w_ct (congrArg AV.bool b21) ?_
      simp only [b21, Bool.not_true, Bool.not_false]
      refine ws _ ?_
      refine wsf e20 _ ?_
      rcases condE h with ⟨b24, h⟩ | ⟨b24, h⟩
      ·refine w_ct (congrArg AV.bool b24) ?_
       simp only [b24, Bool.not_true, Bool.not_false]
       obtain ⟨u26, e26, h⟩ := bindE h
       (try simp only [List.length_append, List.length_cons, List.length_nil, List.length_map, List.length_replicate, Nat.zero_add, Nat.add_zero, Nat.reduceAdd] at e26)
       refine w_reg (w_abs [(0, .slice (a0.map e_i64)), (1, .int .i64 a1), (5, .uslice 1 ((v5_10 ++ [a1]).map e_i64)), (6, .bool true), (7, .int .i64 v7_10)] (fun P hP => ?_) ?_)
       ·simp only [V0.down, simprocAttr, tt2, tt24, e_i64, (show ∀ s, bsl Cc s 24 1 [(0, .int .i64 a1)] = some (.uslice 1 [.int .i64 a1], s) from fun s => by kernel_rfl), @apd_s Cc 24 24 2 rfl rfl, ap_s, ap2_s, ap3_s, all_cons, all_nil, e26, @all_wd' _ e_i64 1 (fun _ => rfl)]
        (try simp only [VN.down, simprocAttr, e_i64, (show ∀ s, bsl Cc s 24 1 [(0, .int .i64 a1)] = some (.uslice 1 [.int .i64 a1], s) from fun s => by kernel_rfl), @apd_s Cc 24 24 2 rfl rfl, ap_s, ap2_s, ap3_s, all_cons, all_nil, e26, @all_wd' _ e_i64 1 (fun _ => rfl)] at hP ⊢); exact hP
       exact n13 _ (.inr ⟨_, weak_eq rfl, K31 (v5_10 ++ [a1]) true v7_10 h⟩)
      ·refine w_cf (congrArg AV.bool b24) ?_
       simp only [b24, Bool.not_true, Bool.not_false]
       exact w_skip (n13 _ (.inr ⟨_, weak_eq rfl, K31 v5_10 true v7_10 h⟩))
     ·refine w_cf (congrArg AV.bool b21) ?_
      simp only [b21, Bool.not_true, Bool.not_false]
      exact w_skip (n13 _ (.inr ⟨_, weak_eq rfl, K31 v5_10 false v7_10 h⟩))
    ·refine wsf (bnF b19) _ ?_
     refine w_cf rfl ?_
     exact w_skip (n13 _ (.inr ⟨_, weak_eq rfl, K31 v5_10 true v7_10 h⟩))
   ·refine w_cf (congrArg AV.bool b10) ?_
    simp only [b10, Bool.not_true, Bool.not_false]
    refine w_ex (x8 0 _ (x7 0 _ (b6 _ (n4 _ (.inl ?_)))))
    have K39 : ∀ (v5_39 : List Int), spec_l00Put_k39 v5_39 = some r → wpC Cc c34_39 Q0 (stA [(5, .uslice 1 (v5_39.map e_i64))]) := by
     intro v5_39 h
     refine ws _ ?_
     exact w_ret (r0 _ (.inl (w_fin [.uslice 1 (v5_39.map e_i64)] rfl (by cases someE h; rfl) (by decide) outs_nil)))
    refine w_seq (fun Q27 n27 q27 x27 => ?_)
    refine ws _ ?_
    rcases condE h with ⟨b30, h⟩ | ⟨b30, h⟩
    ·refine w_ct (congrArg AV.bool b30) ?_
     simp only [(bnT b30), Bool.not_true, Bool.not_false]
     obtain ⟨u32, e32, h⟩ := bindE h
     (try simp only [List.length_append, List.length_cons, List.length_nil, List.length_map, List.length_replicate, Nat.zero_add, Nat.add_zero, Nat.reduceAdd] at e32)
     refine w_reg (w_abs [(5, .uslice 1 ((v5_10 ++ [a1]).map e_i64))] (fun P hP => ?_) ?_)
     ·simp only [V0.down, simprocAttr, tt2, tt24, e_i64, (show ∀ s, bsl Cc s 24 1 [(0, .int .i64 a1)] = some (.uslice 1 [.int .i64 a1], s) from fun s => by kernel_rfl), @apd_s Cc 24 24 2 rfl rfl, ap_s, ap2_s, ap3_s, all_cons, all_nil, e32, @all_wd' _ e_i64 1 (fun _ => rfl)]
      (try simp only [VN.down, simprocAttr, e_i64, (show ∀ s, bsl Cc s 24 1 [(0, .int .i64 a1)] = some (.uslice 1 [.int .i64 a1], s) from fun s => by kernel_rfl), @apd_s Cc 24 24 2 rfl rfl, ap_s, ap2_s, ap3_s, all_cons, all_nil, e32, @all_wd' _ e_i64 1 (fun _ => rfl)] at hP ⊢); exact hP
     exact n27 _ (.inr ⟨_, weak_eq rfl, K39 (v5_10 ++ [a1]) h⟩)
    ·refine w_cf (congrArg AV.bool b30) ?_
     simp only [(bnF b30), Bool.not_true, Bool.not_false]
     exact w_skip (n27 _ (.inr ⟨_, weak_eq rfl, K39 v5_10 h⟩))
 obtain ⟨n, h⟩ := limE h
 exact w_loop (.inr ⟨_, weak_eq rfl, L10 n [] false 0 h⟩)

theorem ok_spec_l05Calls (a0 : List impl_Part) (r : (List Int)) (h : spec_l05Calls a0 = some r) : OkAt Cc 21 [.slice (a0.map e_impl_Part)] (.uslice 1 (r.map e_i64)) [] := by
 refine OkAt.of_wpR (fx := [0]) Cc_ok [.tmp 2] [(0, .slice (a0.map e_impl_Part))] Try.func21 rfl rfl s21 (Nat.le_of_ble_eq_true rfl) rfl rfl (fun Q0 r0 n0 => ?_)
 refine ws _ ?_
 refine wsf (show ∀ s, bsl Cc s 24 0 [] = some (.uslice 1 [], s) from fun s => by kernel_rfl) _ ?_
 refine w_seq (fun Q3 n3 q3 x3 => ?_)
 refine ws _ ?_
 refine w_blk (fun Q5 n5 q5 b5 x5 => ?_)
 have L8 : ∀ (n : Nat) (v3_8 : List Int) (v4_8 : Int), spec_l05Calls_l8 a0 n v3_8 v4_8 = some r → lpC Cc c21_9 Q5 (stA [(0, .slice (a0.map e_impl_Part)), (3, .uslice 1 (v3_8.map e_i64)), (4, .int .i64 v4_8)]) := by
  intro m8
  induction m8 with
  | zero => intro v3_8 v4_8 h; cases (show none = some r from h)
  | succ m8 ih8 =>
   intro v3_8 v4_8 h
   replace h : spec_l05Calls_b8 (spec_l05Calls_l8 a0 m8) a0 v3_8 v4_8 = some r := h
   refine lpC_step (fun Q6 n6 q6 x6 => ?_)
   refine w_seq (fun Q7 n7 q7 x7 => ?_)
   refine ws _ ?_
   rcases condE h with ⟨b9, h⟩ | ⟨b9, h⟩
   ·refine w_ct (congrArg AV.bool b9) ?_
    simp only [b9, Bool.not_true, Bool.not_false]
    refine w_skip (n7 _ (.inl ?_))
    have K22 : ∀ (v3_22 : List Int) (v4_22 : Int), spec_l05Calls_k22 (spec_l05Calls_l8 a0 m8) a0 v3_22 v4_22 = some r → wpC Cc c21_22 Q6 (stA [(0, .slice (a0.map e_impl_Part)), (3, .uslice 1 (v3_22.map e_i64)), (4, .int .i64 v4_22)]) := by
     intro v3_22 v4_22 h
     refine wr _ ?_
     exact n6 _ (.inr ⟨_, weak_eq rfl, ih8 v3_22 (IntKind.i64.wrap (v4_22 + 1)) h⟩)
    refine w_seq (fun Q10 n10 q10 x10 => ?_)
    refine w_blk (fun Q12 n12 q12 b12 x12 => ?_)
    obtain ⟨x1, e14, h⟩ := bindE h
    refine wsf e14 _ ?_
    rcases condE h with ⟨b15, h⟩ | ⟨b15, h⟩
    ·refine w_ct (congrArg AV.bool b15) ?_
     simp only [b15, Bool.not_true, Bool.not_false]
     obtain ⟨x2, e17, h⟩ := bindE h
     refine w_reg (w_abs [(0, .slice (a0.map e_impl_Part)), (3, .uslice 1 (x2.map e_i64)), (4, .int .i64 v4_8)] (fun P hP => ?_) ?_)
     ·simp only [V0.down, simprocAttr, zz19.down, e14]
      refine w_call0 (ok_spec_l00Put v3_8 x1.Number _ e17) rfl rfl (by simp only [V0.down, simprocAttr, zz19.down, e14, view_s, view_h, viewH_s, share_s, @shares_map _ e_i64 e_i64 (fun _ => sh_e_i64 _)] <;> rfl) rfl (.inr (noshs_map (fun _ => ns_e_i64 _) _)) ?_
      simp only [V0.down, simprocAttr, zz19.down, e14]
      (try simp only [VN.down, simprocAttr, zz11.down, e14] at hP ⊢); exact hP
     exact n12 _ (n10 _ (.inr ⟨_, weak_eq rfl, K22 x2 v4_8 h⟩))
    ·refine w_cf (congrArg AV.bool b15) ?_
     simp only [b15, Bool.not_true, Bool.not_false]
     exact w_skip (n12 _ (n10 _ (.inr ⟨_, weak_eq rfl, K22 v3_8 v4_8 h⟩)))
   ·refine w_cf (congrArg AV.bool b9) ?_
    simp only [b9, Bool.not_true, Bool.not_false]
    refine w_ex (x7 0 _ (x6 0 _ (b5 _ (n3 _ (.inl ?_)))))
    refine ws _ ?_
    exact w_ret (r0 _ (.inl (w_fin [.uslice 1 (v3_8.map e_i64)] rfl (by cases someE h; rfl) (by decide) outs_nil)))
 obtain ⟨n, h⟩ := limE h
 exact w_loop (.inr ⟨_, weak_eq rfl, L8 n [] 0 h⟩)

theorem ok_spec_CallsOf (a0 : List impl_Definition) (a1 : Int) (r : (List Int) × Int) (h : spec_CallsOf a0 a1 = some r) : OkAt Cc 6 [.slice (a0.map e_impl_Definition), .int .i64 a1] (.tuple [.uslice 1 (r.1.map e_i64), .int .i64 r.2]) [] := by
 refine OkAt.of_wpR (fx := [0, 1]) Cc_ok [.tmp 4, .tmp 5] [(0, .slice (a0.map e_impl_Definition)), (1, .int .i64 a1)] Try.func6 rfl rfl s6 (Nat.le_of_ble_eq_true rfl) rfl rfl (fun Q0 r0 n0 => ?_)
 refine ws _ ?_
 obtain ⟨x1, e3, h⟩ := bindE h
 refine wsc (ok_spec_l05Ask a0 a1 0 _ e3) _ ?_
 refine w_seq (fun Q4 n4 q4 x4 => ?_)
 refine ws _ ?_
 rcases condE h with ⟨b6, h⟩ | ⟨b6, h⟩
 ·refine w_ct (congrArg AV.bool b6) ?_
  simp only [b6, Bool.not_true, Bool.not_false]
  refine ws _ ?_
  exact w_ret (q4 _ (r0 _ (.inr ⟨[(4, .uslice 1 []), (5, .int .i64 x1)], weak_mix [] rfl (wk_wd (t := 4) (d := .nils) rfl rfl (.nilsU _) (by decide) (wk_eq rfl (wk_nil))), w_fin [.uslice 1 [], .int .i64 x1] rfl (by cases someE h; rfl) (by decide) outs_nil⟩)))
 ·refine w_cf (congrArg AV.bool b6) ?_
  simp only [b6, Bool.not_true, Bool.not_false]
  refine w_skip (n4 _ (.inl ?_))
  obtain ⟨x2, e9, h⟩ := bindE h
  obtain ⟨x3, e10, h⟩ := bindE h
  refine wscf e9 (ok_spec_l05Calls x2.Body _ e10) _ ?_
  exact w_ret (r0 _ (.inl (w_fin [.uslice 1 (x3.map e_i64), .int .i64 0] rfl (by cases someE h; rfl) (by decide) outs_nil)))

theorem ok_impl_within (a0 : Int) (a1 : Int) (a2 : Int) (r : Bool) (h : impl_within a0 a1 a2 = some r) : OkAt Cc 49 [.int .i64 a0, .int .i64 a1, .int .i64 a2] (.bool r) [] := by
 refine OkAt.of_wpR (fx := [0, 1, 2]) Cc_ok [.tmp 6] [(0, .int .i64 a0), (1, .int .i64 a1), (2, .int .i64 a2)] Try.func49 rfl rfl s49 (Nat.le_of_ble_eq_true rfl) rfl rfl (fun Q0 r0 n0 => ?_)
 refine ws _ ?_
 refine w_sreg (w_abs [(6, .bool ((decide (a1 ≤ a0)) && (decide (a0 ≤ a2))))] (fun P hP => ?_) ?_)
 ·rcases Bool.eq_false_or_eq_true (decide (a1 ≤ a0)) with s3 | s3
  ·simp only [V0.down, simprocAttr, s3]
   (try simp only [VN.down, simprocAttr, s3] at hP ⊢); exact hP
  ·simp only [V0.down, simprocAttr, s3]
   (try simp only [VN.down, simprocAttr, s3] at hP ⊢); exact hP
 exact w_ret (r0 _ (.inl (w_fin [.bool ((decide (a1 ≤ a0)) && (decide (a0 ≤ a2)))] rfl (by cases someE h; rfl) (by decide) outs_nil)))

theorem ok_impl_parametersOk_c1 (a0 : impl_Definition) (r : Bool) (h : impl_parametersOk_c1 a0 = some r) : OkAt Cc 75 [e_impl_Definition a0] (.bool r) [] := by
 refine OkAt.of_wpR (fx := [0]) Cc_ok [.tmp 2] [(0, e_impl_Definition a0)] Try.func75 rfl rfl s75 (Nat.le_of_ble_eq_true rfl) rfl rfl (fun Q0 r0 n0 => ?_)
 refine ws _ ?_
 obtain ⟨x1, e3, h⟩ := bindE h
 refine wsc (ok_impl_within a0.Parameters 0 3 _ e3) _ ?_
 exact w_ret (r0 _ (.inl (w_fin [.bool (!x1)] rfl (by cases someE h; rfl) (by decide) outs_nil)))

theorem ok_slices_IndexFunc_impl_Definition__impl_parametersOk_c1 (a0 : List impl_Definition) (r : Int) (h : slices_IndexFunc_impl_Definition__impl_parametersOk_c1 a0 = some r) : OkAt Cc 77 [.slice (a0.map e_impl_Definition), .fn 75 []] (.int .i64 r) [] := by
 refine OkAt.of_wpR (fx := [0, 1]) Cc_ok [.tmp 4] [(0, .slice (a0.map e_impl_Definition)), (1, .fn 75 [])] Try.func77 rfl rfl s77 (Nat.le_of_ble_eq_true rfl) rfl rfl (fun Q0 r0 n0 => ?_)
 refine ws _ ?_
 refine w_seq (fun Q2 n2 q2 x2 => ?_)
 refine ws _ ?_
 refine w_blk (fun Q4 n4 q4 b4 x4 => ?_)
 have L6 : ∀ (n : Nat) (v8_6 : Int), slices_IndexFunc_impl_Definition__impl_parametersOk_c1_l6 a0 n v8_6 = some r → lpC Cc c77_7 Q4 (stA [(0, .slice (a0.map e_impl_Definition)), (1, .fn 75 []), (7, .int .i64 (a0.length : Int)), (8, .int .i64 v8_6)]) := by
  intro m6
  induction m6 with
  | zero => intro v8_6 h; cases (show none = some r from h)
  | succ m6 ih6 =>
   intro v8_6 h
   replace h : slices_IndexFunc_impl_Definition__impl_parametersOk_c1_b6 (slices_IndexFunc_impl_Definition__impl_parametersOk_c1_l6 a0 m6) a0 v8_6 = some r := h
   refine lpC_step (fun Q5 n5 q5 x5 => ?_)
   refine ws _ ?_
   refine w_seq (fun Q7 n7 q7 x7 => ?_)
   rcases condE h with ⟨b8, h⟩ | ⟨b8, h⟩
   ·refine w_ct (congrArg AV.bool b8) ?_
    simp only [b8, Bool.not_true, Bool.not_false]
    refine w_skip (n7 _ (.inl ?_))
    refine w_seq (fun Q9 n9 q9 x9 => ?_)
    refine w_blk (fun Q10 n10 q10 b10 x10 => ?_)
    refine ws _ ?_
    obtain ⟨x1, e13, h⟩ := bindE h
    obtain ⟨x2, e14, h⟩ := bindE h
    refine wscf e13 (ok_impl_parametersOk_c1 x1 _ e14) _ ?_
    rcases condE h with ⟨b15, h⟩ | ⟨b15, h⟩
    ·refine w_ct (congrArg AV.bool b15) ?_
     simp only [b15, Bool.not_true, Bool.not_false]
     refine ws _ ?_
     exact w_ret (q10 _ (q9 _ (q5 _ (q4 _ (q2 _ (r0 _ (.inl (w_fin [.int .i64 v8_6] rfl (by cases someE h; rfl) (by decide) outs_nil))))))))
    ·refine w_cf (congrArg AV.bool b15) ?_
     simp only [b15, Bool.not_true, Bool.not_false]
     refine w_skip (n10 _ (n9 _ (.inl ?_)))
     refine wr _ ?_
     exact n5 _ (.inr ⟨_, weak_eq rfl, ih6 (IntKind.i64.wrap (v8_6 + 1)) h⟩)
   ·refine w_cf (congrArg AV.bool b8) ?_
    simp only [b8, Bool.not_true, Bool.not_false]
    refine w_ex (x7 0 _ (x5 0 _ (b4 _ (n2 _ (.inl ?_)))))
    refine ws _ ?_
    exact w_ret (r0 _ (.inl (w_fin [.int .i64 (-1)] rfl (by cases someE h; rfl) (by decide) outs_nil)))
 obtain ⟨n, h⟩ := limE h
 exact w_loop (.inr ⟨_, weak_eq rfl, L6 n 0 h⟩)

theorem ok_slices_ContainsFunc_impl_Definition__impl_parametersOk_c1 (a0 : List impl_Definition) (r : Bool) (h : slices_ContainsFunc_impl_Definition__impl_parametersOk_c1 a0 = some r) : OkAt Cc 74 [.slice (a0.map e_impl_Definition), .fn 75 []] (.bool r) [] := by
 refine OkAt.of_wpR (fx := [0, 1]) Cc_ok [.tmp 4] [(0, .slice (a0.map e_impl_Definition)), (1, .fn 75 [])] Try.func74 rfl rfl s74 (Nat.le_of_ble_eq_true rfl) rfl rfl (fun Q0 r0 n0 => ?_)
 refine ws _ ?_
 obtain ⟨x1, e3, h⟩ := bindE h
 refine wsc (ok_slices_IndexFunc_impl_Definition__impl_parametersOk_c1 a0 _ e3) _ ?_
 exact w_ret (r0 _ (.inl (w_fin [.bool (decide (0 ≤ x1))] rfl (by cases someE h; rfl) (by decide) outs_nil)))

theorem ok_impl_parametersOk (a0 : List impl_Definition) (r : Bool) (h : impl_parametersOk a0 = some r) : OkAt Cc 50 [.slice (a0.map e_impl_Definition)] (.bool r) [] := by
 refine OkAt.of_wpR (fx := [0]) Cc_ok [.tmp 2] [(0, .slice (a0.map e_impl_Definition))] Try.func50 rfl rfl s50 (Nat.le_of_ble_eq_true rfl) rfl rfl (fun Q0 r0 n0 => ?_)
 refine ws _ ?_
 obtain ⟨x1, e3, h⟩ := bindE h
 refine wsc (ok_slices_ContainsFunc_impl_Definition__impl_parametersOk_c1 a0 _ e3) _ ?_
 exact w_ret (r0 _ (.inl (w_fin [.bool (!x1)] rfl (by cases someE h; rfl) (by decide) outs_nil)))

theorem ok_impl_isDigit (a0 : UInt8) (r : Bool) (h : impl_isDigit a0 = some r) : OkAt Cc 76 [.int .u8 (a0.toNat : Int)] (.bool r) [] := by
 refine OkAt.of_wpR (fx := [0]) Cc_ok [.tmp 2] [(0, .int .u8 (a0.toNat : Int))] Try.func76 rfl rfl s76 (Nat.le_of_ble_eq_true rfl) rfl rfl (fun Q0 r0 n0 => ?_)
 refine ws _ ?_
 refine w_sreg (w_abs [(2, .bool ((decide (48 ≤ (a0.toNat : Int))) && (decide ((a0.toNat : Int) ≤ 57))))] (fun P hP => ?_) ?_)
 ·rcases Bool.eq_false_or_eq_true (decide (48 ≤ (a0.toNat : Int))) with s3 | s3
  ·simp only [V0.down, simprocAttr, s3]
   (try simp only [VN.down, simprocAttr, s3] at hP ⊢); exact hP
  ·simp only [V0.down, simprocAttr, s3]
   (try simp only [VN.down, simprocAttr, s3] at hP ⊢); exact hP
 exact w_ret (r0 _ (.inl (w_fin [.bool ((decide (48 ≤ (a0.toNat : Int))) && (decide ((a0.toNat : Int) ≤ 57)))] rfl (by cases someE h; rfl) (by decide) outs_nil)))

set_option maxHeartbeats 600000 in
theorem ok_impl_IsName (a0 : List UInt8) (r : Bool) (h : impl_IsName a0 = some r) : OkAt Cc 51 [.str a0] (.bool r) [] := by
 refine OkAt.of_wpR (fx := [0]) Cc_ok [.tmp 2] [(0, .str a0)] Try.func51 rfl rfl s51 (Nat.le_of_ble_eq_true rfl) rfl rfl (fun Q0 r0 n0 => ?_)
 refine ws _ ?_
 refine w_seq (fun Q2 n2 q2 x2 => ?_)
 refine ws _ ?_
 refine w_blk (fun Q4 n4 q4 b4 x4 => ?_)
 have L6 : ∀ (n : Nat) (v7_6 : Int), impl_IsName_l6 a0 n v7_6 = some r → lpC Cc c51_7 Q4 (stA [(0, .str a0), (6, .int .i64 (a0.length : Int)), (7, .int .i64 v7_6)]) := by
  intro m6
  induction m6 with
  | zero => intro v7_6 h; cases (show none = some r from h)
  | succ m6 ih6 =>
   intro v7_6 h
   replace h : impl_IsName_b6 (impl_IsName_l6 a0 m6) a0 v7_6 = some r := h
   refine lpC_step (fun Q5 n5 q5 x5 => ?_)
   refine ws _ ?_
   refine w_seq (fun Q7 n7 q7 x7 => ?_)
   rcases condE h with ⟨b8, h⟩ | ⟨b8, h⟩
   ·refine w_ct (congrArg AV.bool b8) ?_
    simp only [b8, Bool.not_true, Bool.not_false]
    refine w_skip (n7 _ (.inl ?_))
    refine w_seq (fun Q9 n9 q9 x9 => ?_)
    refine w_blk (fun Q10 n10 q10 b10 x10 => ?_)
    refine ws _ ?_
    obtain ⟨x1, e13, h⟩ := bindE h
    refine w_sreg (w_abs [(0, .str a0), (3, .int .i64 v7_6), (4, .bool ((decide (97 ≤ (x1.toNat : Int))) && (decide ((x1.toNat : Int) ≤ 122)))), (6, .int .i64 (a0.length : Int)), (7, .int .i64 v7_6)] (fun P hP => ?_) ?_)
    ·rcases Bool.eq_false_or_eq_true (decide (97 ≤ (x1.toNat : Int))) with s14 | s14
     ·simp only [V0.down, simprocAttr, tt9, e13, s14]
      (try simp only [VN.down, simprocAttr, e13, s14] at hP ⊢); exact hP
     ·simp only [V0.down, simprocAttr, tt9, e13, s14]
      (try simp only [VN.down, simprocAttr, e13, s14] at hP ⊢); exact hP
    rcases condE h with ⟨b16, h⟩ | ⟨b16, h⟩
    ·rcases condE h with ⟨b17, h⟩ | ⟨b17, h⟩
     ·refine wsf (And.intro b16 b17) _ ?_
      refine w_ct rfl ?_
      refine ws _ ?_
      exact w_ret (q10 _ (q9 _ (q5 _ (q4 _ (q2 _ (r0 _ (.inl (w_fin [.bool false] rfl (by cases someE h; rfl) (by decide) outs_nil))))))))
     ·obtain ⟨x2, e19, h⟩ := bindE h
      refine w_sreg (w_abs [(0, .str a0), (6, .int .i64 (a0.length : Int)), (7, .int .i64 v7_6), (32, .bool (!x2))] (fun P hP => ?_) ?_)
      ·simp only [V0.down, simprocAttr, tt9, b16, b17, e13]
       refine w_callg0 (ok_impl_isDigit x1 _ e19) rfl rfl rfl rfl (.inl (by rfl)) ?_
       simp only [V0.down, simprocAttr, tt9, b16, b17, e13]
       (try simp only [VN.down, simprocAttr, b16, b17, e13] at hP ⊢); exact hP
      rcases condE h with ⟨b20, h⟩ | ⟨b20, h⟩
      ·refine w_ct (congrArg AV.bool b20) ?_
       simp only [(bnT b20), Bool.not_true, Bool.not_false]
       refine ws _ ?_
       exact w_ret (q10 _ (q9 _ (q5 _ (q4 _ (q2 _ (r0 _ (.inl (w_fin [.bool false] rfl (by cases someE h; rfl) (by decide) outs_nil))))))))
      ·refine w_cf (congrArg AV.bool b20) ?_
       simp only [(bnF b20), Bool.not_true, Bool.not_false]
       refine w_skip (n10 _ (n9 _ (.inl ?_)))
       refine wr _ ?_
       exact n5 _ (.inr ⟨_, weak_eq rfl, ih6 (IntKind.i64.wrap (v7_6 + 1)) h⟩)
    ·refine wsf b16 _ ?_
     refine w_cf rfl ?_
     refine w_skip (n10 _ (n9 _ (.inl ?_)))
     refine wr _ ?_
     exact n5 _ (.inr ⟨_, weak_eq rfl, ih6 (IntKind.i64.wrap (v7_6 + 1)) h⟩)
   ·refine w_cf (congrArg AV.bool b8) ?_
    simp only [b8, Bool.not_true, Bool.not_false]
    refine w_ex (x7 0 _ (x5 0 _ (b4 _ (n2 _ (.inl ?_)))))
    refine w_sreg (w_abs [(2, .bool ((decide (1 ≤ (a0.length : Int))) && (decide ((a0.length : Int) ≤ 10))))] (fun P hP => ?_) ?_)
    ·rcases Bool.eq_false_or_eq_true (decide (1 ≤ (a0.length : Int))) with s25 | s25
     ·simp only [V0.down, simprocAttr, tt9, s25]
      (try simp only [VN.down, simprocAttr, s25] at hP ⊢); exact hP
     ·simp only [V0.down, simprocAttr, tt9, s25]
      (try simp only [VN.down, simprocAttr, s25] at hP ⊢); exact hP
    exact w_ret (r0 _ (.inl (w_fin [.bool ((decide (1 ≤ (a0.length : Int))) && (decide ((a0.length : Int) ≤ 10)))] rfl (by cases someE h; rfl) (by decide) outs_nil)))
 obtain ⟨n, h⟩ := limE h
 exact w_loop (.inr ⟨_, weak_eq rfl, L6 n 0 h⟩)

theorem ok_impl_definitionNamed_c1_2 (a0 : impl_Definition) (a1 : List UInt8) (r : Bool) (h : impl_definitionNamed_c1_2 a0 a1 = some r) : OkAt Cc 78 [e_impl_Definition a0, .ref (.str a1)] (.bool r) [] := by
 refine OkAt.of_wpR (fx := [0, 1]) Cc_ok [.tmp 3] [(0, e_impl_Definition a0), (1, .ref (.str a1))] Try.func78 rfl rfl s78 (Nat.le_of_ble_eq_true rfl) rfl rfl (fun Q0 r0 n0 => ?_)
 refine ws _ ?_
 refine ws _ ?_
 exact w_ret (r0 _ (.inl (w_fin [.bool (a0.Name == a1)] rfl (by cases someE h; rfl) (by decide) outs_nil)))

theorem ok_slices_IndexFunc_impl_Definition__impl_definitionNamed_c1 (a0 : List impl_Definition) (a1 : List UInt8) (r : Int) (h : slices_IndexFunc_impl_Definition__impl_definitionNamed_c1 a0 a1 = some r) : OkAt Cc 77 [.slice (a0.map e_impl_Definition), .fn 78 [.ref (.str a1)]] (.int .i64 r) [] := by
 refine OkAt.of_wpR (fx := [0, 1]) Cc_ok [.tmp 4] [(0, .slice (a0.map e_impl_Definition)), (1, .fn 78 [.ref (.str a1)])] Try.func77 rfl rfl s77v2 (Nat.le_of_ble_eq_true rfl) rfl rfl (fun Q0 r0 n0 => ?_)
 refine ws _ ?_
 refine w_seq (fun Q2 n2 q2 x2 => ?_)
 refine ws _ ?_
 refine w_blk (fun Q4 n4 q4 b4 x4 => ?_)
 have L6 : ∀ (n : Nat) (v8_6 : Int), slices_IndexFunc_impl_Definition__impl_definitionNamed_c1_l6 a0 a1 n v8_6 = some r → lpC Cc c77v2_7 Q4 (stA [(0, .slice (a0.map e_impl_Definition)), (1, .fn 78 [.ref (.str a1)]), (7, .int .i64 (a0.length : Int)), (8, .int .i64 v8_6)]) := by
  intro m6
  induction m6 with
  | zero => intro v8_6 h; cases (show none = some r from h)
  | succ m6 ih6 =>
   intro v8_6 h
   replace h : slices_IndexFunc_impl_Definition__impl_definitionNamed_c1_b6 (slices_IndexFunc_impl_Definition__impl_definitionNamed_c1_l6 a0 a1 m6) a0 a1 v8_6 = some r := h
   refine lpC_step (fun Q5 n5 q5 x5 => ?_)
   refine ws _ ?_
   refine w_seq (fun Q7 n7 q7 x7 => ?_)
   rcases condE h with ⟨b8, h⟩ | ⟨b8, h⟩
   ·refine w_ct (congrArg AV.bool b8) ?_
    simp only [b8, Bool.not_true, Bool.not_false]
    refine w_skip (n7 _ (.inl ?_))
    refine w_seq (fun Q9 n9 q9 x9 => ?_)
    refine w_blk (fun Q10 n10 q10 b10 x10 => ?_)
    refine ws _ ?_
    obtain ⟨x1, e13, h⟩ := bindE h
    obtain ⟨x2, e14, h⟩ := bindE h
    refine wscf e13 (ok_impl_definitionNamed_c1_2 x1 a1 _ e14) _ ?_
    rcases condE h with ⟨b15, h⟩ | ⟨b15, h⟩
    ·refine w_ct (congrArg AV.bool b15) ?_
     simp only [b15, Bool.not_true, Bool.not_false]
     refine ws _ ?_
     exact w_ret (q10 _ (q9 _ (q5 _ (q4 _ (q2 _ (r0 _ (.inl (w_fin [.int .i64 v8_6] rfl (by cases someE h; rfl) (by decide) outs_nil))))))))
    ·refine w_cf (congrArg AV.bool b15) ?_
     simp only [b15, Bool.not_true, Bool.not_false]
     refine w_skip (n10 _ (n9 _ (.inl ?_)))
     refine wr _ ?_
     exact n5 _ (.inr ⟨_, weak_eq rfl, ih6 (IntKind.i64.wrap (v8_6 + 1)) h⟩)
   ·refine w_cf (congrArg AV.bool b8) ?_
    simp only [b8, Bool.not_true, Bool.not_false]
    refine w_ex (x7 0 _ (x5 0 _ (b4 _ (n2 _ (.inl ?_)))))
    refine ws _ ?_
    exact w_ret (r0 _ (.inl (w_fin [.int .i64 (-1)] rfl (by cases someE h; rfl) (by decide) outs_nil)))
 obtain ⟨n, h⟩ := limE h
 exact w_loop (.inr ⟨_, weak_eq rfl, L6 n 0 h⟩)

theorem ok_impl_definitionNamed (a0 : List impl_Definition) (a1 : List UInt8) (r : Int) (h : impl_definitionNamed a0 a1 = some r) : OkAt Cc 52 [.slice (a0.map e_impl_Definition), .str a1] (.int .i64 r) [] := by
 refine OkAt.of_wpR (fx := [0, 1]) Cc_ok [.tmp 4] [(0, .slice (a0.map e_impl_Definition)), (1, .str a1)] Try.func52 rfl rfl s52 (Nat.le_of_ble_eq_true rfl) rfl rfl (fun Q0 r0 n0 => ?_)
 refine ws _ ?_
 obtain ⟨x1, e3, h⟩ := bindE h
 refine w_sreg (w_abs [(4, .int .i64 x1)] (fun P hP => ?_) ?_)
 ·simp only [V0.down, simprocAttr, zz0.down]
  refine w_call0 (ok_slices_IndexFunc_impl_Definition__impl_definitionNamed_c1 a0 a1 _ e3) rfl rfl (by simp only [V0.down, simprocAttr, zz0.down, view_s, view_h, viewH_s, share_s] <;> rfl) rfl (.inr (by rfl)) ?_
  simp only [V0.down, simprocAttr, zz0.down]
  (try simp only [VN.down, simprocAttr, zz0.down] at hP ⊢); exact hP
 exact w_ret (r0 _ (.inl (w_fin [.int .i64 x1] rfl (by cases someE h; rfl) (by decide) outs_nil)))

theorem ok_impl_Part_follow (a0 : impl_Part) (r : Int) (h : impl_Part_follow a0 = some r) : OkAt Cc 104 [e_impl_Part a0] (.int .i64 r) [] := by
 refine OkAt.of_wpR (fx := [0]) Cc_ok [.tmp 2] [(0, e_impl_Part a0)] Try.func104 rfl rfl s104 (Nat.le_of_ble_eq_true rfl) rfl rfl (fun Q0 r0 n0 => ?_)
 refine ws _ ?_
 refine w_seq (fun Q2 n2 q2 x2 => ?_)
 refine ws _ ?_
 refine w_blk (fun Q4 n4 q4 b4 x4 => ?_)
 have K16 : ∀ (v5_16 : Bool), impl_Part_follow_k16 a0 v5_16 = some r → wpC Cc c104_16 Q4 (stA [(4, .int .i64 a0.Kind), (5, .bool v5_16)]) := by
  intro v5_16 h
  rcases condE h with ⟨b6, h⟩ | ⟨b6, h⟩
  ·refine w_ct (congrArg AV.bool b6) ?_
   simp only [b6, Bool.not_true, Bool.not_false]
   refine ws _ ?_
   exact w_ret (q4 _ (q2 _ (r0 _ (.inl (w_fin [.int .i64 1] rfl (by cases someE h; rfl) (by decide) outs_nil)))))
  ·refine w_cf (congrArg AV.bool b6) ?_
   simp only [b6, Bool.not_true, Bool.not_false]
   refine ws _ ?_
   rcases condE h with ⟨b9, h⟩ | ⟨b9, h⟩
   ·refine w_ct (congrArg AV.bool b9) ?_
    simp only [b9, Bool.not_true, Bool.not_false]
    refine ws _ ?_
    exact w_ret (q4 _ (q2 _ (r0 _ (.inl (w_fin [.int .i64 2] rfl (by cases someE h; rfl) (by decide) outs_nil)))))
   ·refine w_cf (congrArg AV.bool b9) ?_
    simp only [b9, Bool.not_true, Bool.not_false]
    refine w_skip (n4 _ (n2 _ (.inl ?_)))
    refine ws _ ?_
    exact w_ret (r0 _ (.inl (w_fin [.int .i64 0] rfl (by cases someE h; rfl) (by decide) outs_nil)))
 refine w_seq (fun Q5 n5 q5 x5 => ?_)
 refine ws _ ?_
 rcases condE h with ⟨b13, h⟩ | ⟨b13, h⟩
 ·refine w_ct (congrArg AV.bool b13) ?_
  simp only [b13, Bool.not_true, Bool.not_false]
  exact w_skip (n5 _ (.inr ⟨_, weak_eq rfl, K16 true h⟩))
 ·refine w_cf (congrArg AV.bool b13) ?_
  simp only [b13, Bool.not_true, Bool.not_false]
  refine ws _ ?_
  rcases condE h with ⟨b15, h⟩ | ⟨b15, h⟩
  ·refine w_ct (congrArg AV.bool b15) ?_
   simp only [b15, Bool.not_true, Bool.not_false]
   exact w_skip (n5 _ (.inr ⟨_, weak_eq rfl, K16 true h⟩))
  ·refine w_cf (congrArg AV.bool b15) ?_
   simp only [b15, Bool.not_true, Bool.not_false]
   refine wr _ ?_
   exact n5 _ (.inr ⟨_, weak_eq rfl, K16 (a0.Kind == 4) h⟩)

theorem ok_impl_Definition_end (a0 : impl_Definition) (a1 : Int) (r : Int) (h : impl_Definition_end a0 a1 = some r) : OkAt Cc 79 [e_impl_Definition a0, .int .i64 a1] (.int .i64 r) [] := by
 refine OkAt.of_wpR (fx := [0]) Cc_ok [.tmp 4] [(0, e_impl_Definition a0), (1, .int .i64 a1)] Try.func79 rfl rfl s79 (Nat.le_of_ble_eq_true rfl) rfl rfl (fun Q0 r0 n0 => ?_)
 refine ws _ ?_
 refine w_seq (fun Q2 n2 q2 x2 => ?_)
 refine ws _ ?_
 refine w_blk (fun Q4 n4 q4 b4 x4 => ?_)
 have L6 : ∀ (n : Nat) (v1_6 : Int) (v5_6 : Int), impl_Definition_end_l6 a0 n v1_6 v5_6 = some r → lpC Cc c79_7 Q4 (stA [(1, .int .i64 v1_6), (2, .ubox (e_impl_Definition a0)), (5, .int .i64 v5_6)]) := by
  intro m6
  induction m6 with
  | zero => intro v1_6 v5_6 h; cases (show none = some r from h)
  | succ m6 ih6 =>
   intro v1_6 v5_6 h
   replace h : impl_Definition_end_b6 (impl_Definition_end_l6 a0 m6) a0 v1_6 v5_6 = some r := h
   refine lpC_step (fun Q5 n5 q5 x5 => ?_)
   refine w_seq (fun Q6 n6 q6 x6 => ?_)
   refine ws _ ?_
   rcases condE h with ⟨b8, h⟩ | ⟨b8, h⟩
   ·refine w_ct (congrArg AV.bool b8) ?_
    simp only [b8, Bool.not_true, Bool.not_false]
    refine w_skip (n6 _ (.inl ?_))
    refine w_seq (fun Q9 n9 q9 x9 => ?_)
    refine w_blk (fun Q10 n10 q10 b10 x10 => ?_)
    refine w_seq (fun Q11 n11 q11 x11 => ?_)
    refine ws _ ?_
    rcases condE h with ⟨b13, h⟩ | ⟨b13, h⟩
    ·refine w_ct (congrArg AV.bool b13) ?_
     simp only [b13, Bool.not_true, Bool.not_false]
     refine ws _ ?_
     exact w_ret (q11 _ (q10 _ (q9 _ (q5 _ (q4 _ (q2 _ (r0 _ (.inl (w_fin [.int .i64 (-1)] rfl (by cases someE h; rfl) (by decide) outs_nil)))))))))
    ·refine w_cf (congrArg AV.bool b13) ?_
     simp only [b13, Bool.not_true, Bool.not_false]
     refine w_skip (n11 _ (.inl ?_))
     obtain ⟨x1, e16, h⟩ := bindE h
     obtain ⟨x2, e17, h⟩ := bindE h
     refine wrcf e16 (ok_impl_Part_follow x1 _ e17) _ ?_
     refine n10 _ (n9 _ (.inl ?_))
     refine wr _ ?_
     exact n5 _ (.inr ⟨_, weak_eq rfl, ih6 (IntKind.i64.wrap (v1_6 + 1)) (IntKind.i64.wrap (v5_6 + (IntKind.i64.wrap (x2 - 1)))) h⟩)
   ·refine w_cf (congrArg AV.bool b8) ?_
    simp only [b8, Bool.not_true, Bool.not_false]
    refine w_ex (x6 0 _ (x5 0 _ (b4 _ (n2 _ (.inl ?_)))))
    refine ws _ ?_
    exact w_ret (r0 _ (.inl (w_fin [.int .i64 v1_6] rfl (by cases someE h; rfl) (by decide) outs_nil)))
 obtain ⟨n, h⟩ := limE h
 exact w_loop (.inr ⟨_, weak_eq rfl, L6 n a1 1 h⟩)

theorem ok_impl_Definition_places_c1_f (rec52 : Int → impl_place → (List impl_place) → impl_Definition → Option (Int × (List impl_place))) (hrec52 : ∀ (a0 : Int) (a1 : impl_place) (a2 : List impl_place) (a3 : impl_Definition) (r : Int × (List impl_place)), rec52 a0 a1 a2 a3 = some r → OkSelf Cc 105 2 4 [.int .i64 a0, e_impl_place a1, .ubox (.uslice 2 (a2.map e_impl_place)), .ref (e_impl_Definition a3), .ref (.hole)] (.int .i64 r.1) [.hole, .hole, .ubox (.uslice 2 (r.2.map e_impl_place)), .hole, .hole]) (a0 : Int) (a1 : impl_place) (a2 : List impl_place) (a3 : impl_Definition) (r : Int × (List impl_place)) (h : impl_Definition_places_c1_f rec52 a0 a1 a2 a3 = some r) : OkSelf Cc 105 2 4 [.int .i64 a0, e_impl_place a1, .ubox (.uslice 2 (a2.map e_impl_place)), .ref (e_impl_Definition a3), .ref (.hole)] (.int .i64 r.1) [.hole, .hole, .ubox (.uslice 2 (r.2.map e_impl_place)), .hole, .hole] := by
 refine OkSelf.of_wpR (fx := [0, 1, 2, 3, 4]) Cc_ok [.tmp 7] [(0, .int .i64 a0), (1, e_impl_place a1), (2, .ubox (.uslice 2 (a2.map e_impl_place))), (3, .ref (e_impl_Definition a3)), (4, .ref (.hole))] Try.func105 rfl rfl s105 (Nat.le_of_ble_eq_true rfl) hk105 rfl rfl (fun Q0 r0 n0 => ?_)
 refine ws _ ?_
 obtain ⟨x1, e3, h⟩ := bindE h
 refine w_sreg (w_abs [(0, .int .i64 a0), (2, .ubox (.uslice 2 ((List.set a2 (Int.toNat a0) a1).map e_impl_place))), (3, .ref (e_impl_Definition a3)), (4, .ref (.hole)), (6, .ubox (e_impl_place a1))] (fun P hP => ?_) ?_)
 ·simp only [V0.down, simprocAttr, tt2, tt4, tt110, tt114, e_impl_Definition, e_impl_Part, e_impl_Term, e_impl_place, e_s_impl_Term, e3, getI_get e3, own_s, stoS]
  (try simp only [VN.down, simprocAttr, zz6.down, e3, getI_get e3, own_s, stoS] at hP ⊢); exact hP
 obtain ⟨x2, e5, h⟩ := bindE h
 refine wsf e5 [(0, .int .i64 a0), (2, .ubox (.uslice 2 ((List.set a2 (Int.toNat a0) a1).map e_impl_place))), (3, .ref (e_impl_Definition a3)), (4, .ref (.hole)), (6, .ubox (e_impl_place a1)), (8, .ubox (e_impl_Part x2))] ?_
 refine wsf (show ∀ s, bld Cc s 114 [(0, .int .i64 a1.scope), (1, .bool (x2.Kind == 1))] = some (.agg [.int .i64 a1.scope, .bool (x2.Kind == 1)], s) from fun s => by kernel_rfl) [(0, .int .i64 a0), (2, .ubox (.uslice 2 ((List.set a2 (Int.toNat a0) a1).map e_impl_place))), (3, .ref (e_impl_Definition a3)), (4, .ref (.hole)), (8, .ubox (e_impl_Part x2)), (9, .ubox (.agg [.int .i64 a1.scope, .bool (x2.Kind == 1)]))] ?_
 have K14 : ∀ (v9_14 : Int), impl_Definition_places_c1_k14 rec52 a0 a1 a2 a3 x2 v9_14 = some r → wpC Cc c105_14 Q0 (stA [(0, .int .i64 a0), (2, .ubox (.uslice 2 ((List.set a2 (Int.toNat a0) a1).map e_impl_place))), (3, .ref (e_impl_Definition a3)), (4, .ref (.hole)), (8, .ubox (e_impl_Part x2)), (9, .ubox (.agg [.int .i64 v9_14, .bool (x2.Kind == 1)]))]) := by
  intro v9_14 h
  refine ws [(2, .ubox (.uslice 2 ((List.set a2 (Int.toNat a0) a1).map e_impl_place))), (3, .ref (e_impl_Definition a3)), (4, .ref (.hole)), (8, .ubox (e_impl_Part x2)), (9, .ubox (.agg [.int .i64 v9_14, .bool (x2.Kind == 1)])), (10, .int .i64 (IntKind.i64.wrap (a0 + 1)))] ?_
  refine w_seq (fun Q9 n9 q9 x9 => ?_)
  obtain ⟨x3, e11, h⟩ := bindE h
  refine wsc (ok_impl_Part_follow x2 _ e11) [(2, .ubox (.uslice 2 ((List.set a2 (Int.toNat a0) a1).map e_impl_place))), (3, .ref (e_impl_Definition a3)), (4, .ref (.hole)), (9, .ubox (.agg [.int .i64 v9_14, .bool (x2.Kind == 1)])), (10, .int .i64 (IntKind.i64.wrap (a0 + 1))), (36, .int .i64 x3), (37, .int .i64 0)] ?_
  refine w_blk (fun Q12 n12 q12 b12 x12 => ?_)
  have L20 : ∀ (n : Nat) (v2_20 : List impl_place) (v10_20 : Int) (v37_20 : Int), impl_Definition_places_c1_l20 rec52 a3 v9_14 x2 x3 n v2_20 v10_20 v37_20 = some r → lpC Cc c105_21 Q12 (stA [(2, .ubox (.uslice 2 (v2_20.map e_impl_place))), (3, .ref (e_impl_Definition a3)), (4, .ref (.hole)), (9, .ubox (.agg [.int .i64 v9_14, .bool (x2.Kind == 1)])), (10, .int .i64 v10_20), (36, .int .i64 x3), (37, .int .i64 v37_20)]) := by
   intro m20
   induction m20 with
   | zero => intro v2_20 v10_20 v37_20 h; cases (show none = some r from h)
   | succ m20 ih20 =>
    intro v2_20 v10_20 v37_20 h
    replace h : impl_Definition_places_c1_b20 rec52 (impl_Definition_places_c1_l20 rec52 a3 v9_14 x2 x3 m20) a3 v9_14 x2 x3 v2_20 v10_20 v37_20 = some r := h
    refine lpC_step (fun Q13 n13 q13 x13 => ?_)
    refine ws _ ?_
    refine w_seq (fun Q15 n15 q15 x15 => ?_)
    rcases condE h with ⟨b16, h⟩ | ⟨b16, h⟩
    ·refine w_ct (congrArg AV.bool b16) ?_
     simp only [b16, Bool.not_true, Bool.not_false]
     refine w_skip (n15 _ (.inl ?_))
     refine w_seq (fun Q17 n17 q17 x17 => ?_)
     refine w_blk (fun Q18 n18 q18 b18 x18 => ?_)
     obtain ⟨x4, e20, h⟩ := bindE h
     refine w_self [(2, .ubox (.uslice 2 (x4.2.map e_impl_place))), (3, .ref (e_impl_Definition a3)), (4, .ref (.hole)), (9, .ubox (.agg [.int .i64 v9_14, .bool (x2.Kind == 1)])), (10, .int .i64 x4.1), (36, .int .i64 x3), (37, .int .i64 v37_20)] (fun P hP => ?_) ?_
     ·simp only [V0.down, simprocAttr, zz20.down, cellP]
      refine w_cell [⟨.int .i64 v10_20, false, _, .hole⟩, ⟨.agg [.int .i64 v9_14, .bool (x2.Kind == 1)], false, _, .hole⟩, ⟨.h 2 [], true, _, _⟩, ⟨.ref (e_impl_Definition a3), false, _, .hole⟩, ⟨.ref (.hole), false, _, .hole⟩] (hrec52 v10_20 (impl_place.mk v9_14 (x2.Kind == 1)) v2_20 a3 _ e20) rfl (by simp only [V0.down, simprocAttr, zz20.down, cellP, c_nrm, okp_s, own_r, view_s, view_h, viewH_s, share_s, or_true, true_or, @shares_map _ e_impl_place e_impl_place (fun _ => sh_e_impl_place _)]) rfl rfl (.inl rfl) ?_
      simp only [V0.down, simprocAttr, zz20.down, cellP, gv_s]
      (try simp only [VN.down, simprocAttr, zz6.down, cellP] at hP ⊢); exact hP
     refine n18 _ (n17 _ (.inl ?_))
     refine wr _ ?_
     exact n13 _ (.inr ⟨_, weak_eq rfl, ih20 x4.2 x4.1 (IntKind.i64.wrap (v37_20 + 1)) h⟩)
    ·refine w_cf (congrArg AV.bool b16) ?_
     simp only [b16, Bool.not_true, Bool.not_false]
     refine w_ex (x15 0 _ (x13 0 _ (b12 _ (n9 _ (.inl ?_)))))
     refine ws _ ?_
     exact w_ret (r0 _ (.inl (w_fin [.int .i64 v10_20] rfl (by cases someE h; rfl) (by decide) (outs_of (out_no (out_no (out_is (by cases someE h; rfl) rfl rfl rfl (out_no (out_no (out_end))))))))))
  obtain ⟨n, h⟩ := limE h
  exact w_loop (.inr ⟨_, weak_eq rfl, L20 n (List.set a2 (Int.toNat a0) a1) (IntKind.i64.wrap (a0 + 1)) 0 h⟩)
 refine w_seq (fun Q7 n7 q7 x7 => ?_)
 refine ws [(0, .int .i64 a0), (2, .ubox (.uslice 2 ((List.set a2 (Int.toNat a0) a1).map e_impl_place))), (3, .ref (e_impl_Definition a3)), (4, .ref (.hole)), (8, .ubox (e_impl_Part x2)), (9, .ubox (.agg [.int .i64 a1.scope, .bool (x2.Kind == 1)])), (28, .bool (x2.Kind == 4))] ?_
 rcases condE h with ⟨b24, h⟩ | ⟨b24, h⟩
 ·refine w_ct (congrArg AV.bool b24) ?_
  simp only [b24, Bool.not_true, Bool.not_false]
  refine wr [(0, .int .i64 a0), (2, .ubox (.uslice 2 ((List.set a2 (Int.toNat a0) a1).map e_impl_place))), (3, .ref (e_impl_Definition a3)), (4, .ref (.hole)), (8, .ubox (e_impl_Part x2)), (9, .ubox (.agg [.int .i64 (IntKind.i64.wrap (a1.scope + 1)), .bool (x2.Kind == 1)]))] ?_
  exact n7 _ (.inr ⟨_, weak_eq rfl, K14 (IntKind.i64.wrap (a1.scope + 1)) h⟩)
 ·refine w_cf (congrArg AV.bool b24) ?_
  simp only [b24, Bool.not_true, Bool.not_false]
  exact w_skip (n7 _ (.inr ⟨_, weak_eq rfl, K14 a1.scope h⟩))
theorem ok_impl_Definition_places_c1_r : ∀ (n : Nat) (a0 : Int) (a1 : impl_place) (a2 : List impl_place) (a3 : impl_Definition) (r : Int × (List impl_place)), impl_Definition_places_c1_r n a0 a1 a2 a3 = some r → OkSelf Cc 105 2 4 [.int .i64 a0, e_impl_place a1, .ubox (.uslice 2 (a2.map e_impl_place)), .ref (e_impl_Definition a3), .ref (.hole)] (.int .i64 r.1) [.hole, .hole, .ubox (.uslice 2 (r.2.map e_impl_place)), .hole, .hole] := by
  intro n
  induction n with
  | zero => intro a0 a1 a2 a3 r h; cases (show none = some r from h)
  | succ n ih => intro a0 a1 a2 a3 r h; exact ok_impl_Definition_places_c1_f (impl_Definition_places_c1_r n) ih a0 a1 a2 a3 r h
theorem ok_impl_Definition_places_c1 (a0 : Int) (a1 : impl_place) (a2 : List impl_place) (a3 : impl_Definition) (r : Int × (List impl_place)) (h : impl_Definition_places_c1 a0 a1 a2 a3 = some r) : OkSelf Cc 105 2 4 [.int .i64 a0, e_impl_place a1, .ubox (.uslice 2 (a2.map e_impl_place)), .ref (e_impl_Definition a3), .ref (.hole)] (.int .i64 r.1) [.hole, .hole, .ubox (.uslice 2 (r.2.map e_impl_place)), .hole, .hole] := by
  obtain ⟨n, h⟩ := limE h
  exact ok_impl_Definition_places_c1_r n a0 a1 a2 a3 r h

theorem ok_impl_Definition_places (a0 : impl_Definition) (r : (List impl_place)) (h : impl_Definition_places a0 = some r) : OkAt Cc 80 [e_impl_Definition a0] (.uslice 2 (r.map e_impl_place)) [] := by
 refine OkAt.of_tailR (fx := [0]) Cc_ok [.tmp 2] [(0, e_impl_Definition a0)] Try.func80 rfl rfl s80 (Nat.le_of_ble_eq_true rfl) hk80 rfl rfl (fun Q0 r0 n0 => ?_)
 refine ws _ ?_
 obtain ⟨u6, e3, h⟩ := bindE h
 refine w_sreg (w_abs [(1, .ubox (e_impl_Definition a0)), (3, .ubox (.uslice 2 ((List.replicate (Int.toNat (a0.Body.length : Int)) (impl_place.mk 0 false)).map e_impl_place)))] (fun P hP => ?_) ?_)
 ·simp only [V0.down, simprocAttr, tt2, tt4, tt9, tt45, tt47, tt53, tt55, tt87, tt110, tt114, tt123, e_impl_Definition, e_impl_Part, e_impl_Term, e_impl_place, e_s_impl_Term, (mkOkE e3).1, (mkOkE e3).2.1, (mkOkE e3).2.2, mks, List.map_replicate, -Int.reduceNatCast']
  (try simp only [VN.down, simprocAttr, zz6.down, (mkOkE e3).1, (mkOkE e3).2.1, (mkOkE e3).2.2, mks, List.map_replicate, -Int.reduceNatCast'] at hP ⊢); exact hP
 obtain ⟨x1, e5, h⟩ := bindE h
 refine w_tail [(3, .ubox (.uslice 2 (x1.2.map e_impl_place)))] (fun P hP => ?_) ?_
 ·simp only [V0.down, simprocAttr, zz21.down, (show ∀ s, bld Cc s 114 [(0, .int .i64 a0.Parameters)] = some (.agg [.int .i64 a0.Parameters, .bool false], s) from fun s => by kernel_rfl), cellP]
  refine w_cell [⟨.int .i64 0, false, _, .hole⟩, ⟨.agg [.int .i64 a0.Parameters, .bool false], false, _, .hole⟩, ⟨.h 3 [], true, _, _⟩, ⟨.h 1 [], false, _, .hole⟩, ⟨.ref (.hole), false, _, .hole⟩] (ok_impl_Definition_places_c1 0 (impl_place.mk a0.Parameters false) (List.replicate (Int.toNat (a0.Body.length : Int)) (impl_place.mk 0 false)) a0 _ e5) rfl (by simp only [V0.down, simprocAttr, zz21.down, (show ∀ s, bld Cc s 114 [(0, .int .i64 a0.Parameters)] = some (.agg [.int .i64 a0.Parameters, .bool false], s) from fun s => by kernel_rfl), cellP, c_nrm, okp_s, own_r, view_s, view_h, viewH_s, share_s, or_true, true_or, @shares_map _ e_impl_place e_impl_place (fun _ => sh_e_impl_place _), @shares_map _ e_impl_Part e_impl_Part (fun _ => sh_e_impl_Part _)]) rfl rfl ((.inr (by simp only [nshPs, AV.nosh, AV.noshs, Bool.and_self, @noshs_map _ e_impl_place (fun _ => ns_e_impl_place _)]))) ?_
  simp only [V0.down, simprocAttr, zz21.down, (show ∀ s, bld Cc s 114 [(0, .int .i64 a0.Parameters)] = some (.agg [.int .i64 a0.Parameters, .bool false], s) from fun s => by kernel_rfl), cellP, gv_s]
  (try simp only [VN.down, simprocAttr, zz6.down, (show ∀ s, bld Cc s 114 [(0, .int .i64 a0.Parameters)] = some (.agg [.int .i64 a0.Parameters, .bool false], s) from fun s => by kernel_rfl), cellP] at hP ⊢); exact hP
 refine ws _ ?_
 exact w_ret (r0 _ (.inl (w_fin [.uslice 2 (x1.2.map e_impl_place)] rfl (by cases someE h; rfl) (by decide) outs_nil)))

set_option maxHeartbeats 4600000 in
theorem ok_impl_Part_kindOk (a0 : impl_Part) (r : Bool) (h : impl_Part_kindOk a0 = some r) : OkAt Cc 106 [e_impl_Part a0] (.bool r) [] := by
 refine OkAt.of_wpR (fx := [0]) Cc_ok [.tmp 2] [(0, e_impl_Part a0)] Try.func106 rfl rfl s106 (Nat.le_of_ble_eq_true rfl) rfl rfl (fun Q0 r0 n0 => ?_)
 refine ws _ ?_
 refine w_sreg (w_abs [(1, .ubox (e_impl_Part a0)), (3, .bool ((a0.Kind == 4) || (a0.Kind == 5)))] (fun P hP => ?_) ?_)
 ·rcases Bool.eq_false_or_eq_true (a0.Kind == 4) with s3 | s3
  ·simp only [V0.down, simprocAttr, zz7.down, s3]
   (try simp only [VN.down, simprocAttr, zz4.down, s3] at hP ⊢); exact hP
  ·simp only [V0.down, simprocAttr, zz7.down, s3]
   (try simp only [VN.down, simprocAttr, zz4.down, s3] at hP ⊢); exact hP
 refine w_sreg (w_abs [(1, .ubox (e_impl_Part a0)), (3, .bool ((a0.Kind == 4) || (a0.Kind == 5))), (4, .bool (((a0.Kind == 1) || (a0.Kind == 3)) || (a0.Kind == 5)))] (fun P hP => ?_) ?_)
 ·(rcases Bool.eq_false_or_eq_true (a0.Kind == 1) with s5 | s5) <;> (rcases Bool.eq_false_or_eq_true (a0.Kind == 3) with s6 | s6) <;>
    (simp only [V0.down, simprocAttr, zz7.down, s5, s6]
     (try simp only [VN.down, simprocAttr, zz4.down, s5, s6] at hP ⊢); exact hP)
 obtain ⟨x1, e8, h⟩ := bindE h
 refine w_sreg (w_abs [(2, .bool (((x1 && (((a0.Kind == 4) || (a0.Kind == 5)) || (a0.Number == 0))) && ((a0.Kind == 1) || (a0.Name == ([] : List UInt8)))) && ((((a0.Kind == 1) || (a0.Kind == 3)) || (a0.Kind == 5)) || ((a0.Arguments.length : Int) == 0))))] (fun P hP => ?_) ?_)
 ·(rcases Bool.eq_false_or_eq_true (x1) with s9 | s9) <;> (rcases Bool.eq_false_or_eq_true (a0.Kind == 4) with s10 | s10) <;> (rcases Bool.eq_false_or_eq_true (a0.Kind == 5) with s11 | s11) <;> (rcases Bool.eq_false_or_eq_true (a0.Number == 0) with s12 | s12) <;> (rcases Bool.eq_false_or_eq_true (a0.Kind == 1) with s13 | s13) <;> (rcases Bool.eq_false_or_eq_true (a0.Name == ([] : List UInt8)) with s14 | s14) <;> (rcases Bool.eq_false_or_eq_true (a0.Kind == 3) with s15 | s15) <;>
    (simp only [V0.down, simprocAttr, zz7.down, s9, s10, s11, s12, s13, s14, s15]
     refine w_call0 (ok_impl_within a0.Kind 0 5 _ e8) rfl rfl rfl rfl (.inl (by rfl)) ?_
     simp only [V0.down, simprocAttr, zz7.down, s9, s10, s11, s12, s13, s14, s15]
     (try simp only [VN.down, simprocAttr, zz4.down, s9, s10, s11, s12, s13, s14, s15] at hP ⊢); exact hP)
 exact w_ret (r0 _ (.inl (w_fin [.bool (((x1 && (((a0.Kind == 4) || (a0.Kind == 5)) || (a0.Number == 0))) && ((a0.Kind == 1) || (a0.Name == ([] : List UInt8)))) && ((((a0.Kind == 1) || (a0.Kind == 3)) || (a0.Kind == 5)) || ((a0.Arguments.length : Int) == 0)))] rfl (by cases someE h; rfl) (by decide) outs_nil)))

theorem ok_impl_IsAction (a0 : List UInt8) (r : Bool) (h : impl_IsAction a0 = some r) : OkAt Cc 107 [.str a0] (.bool r) [] := by
 refine OkAt.of_wpR (fx := [0]) Cc_ok [.tmp 2] [(0, .str a0)] Try.func107 rfl rfl s107 (Nat.le_of_ble_eq_true rfl) rfl rfl (fun Q0 r0 n0 => ?_)
 refine ws _ ?_
 obtain ⟨x1, e3, h⟩ := bindE h
 refine w_sreg (w_abs [(2, .bool (x1 && (!(a0 == ([116, 97, 117] : List UInt8)))))] (fun P hP => ?_) ?_)
 ·rcases Bool.eq_false_or_eq_true (x1) with s4 | s4
  ·simp only [V0.down, simprocAttr, s4]
   refine w_call0 (ok_impl_IsName a0 _ e3) rfl rfl rfl rfl (.inl (by rfl)) ?_
   simp only [V0.down, simprocAttr, s4]
   (try simp only [VN.down, simprocAttr, s4] at hP ⊢); exact hP
  ·simp only [V0.down, simprocAttr, s4]
   refine w_call0 (ok_impl_IsName a0 _ e3) rfl rfl rfl rfl (.inl (by rfl)) ?_
   simp only [V0.down, simprocAttr, s4]
   (try simp only [VN.down, simprocAttr, s4] at hP ⊢); exact hP
 exact w_ret (r0 _ (.inl (w_fin [.bool (x1 && (!(a0 == ([116, 97, 117] : List UInt8))))] rfl (by cases someE h; rfl) (by decide) outs_nil)))

theorem ok_impl_index (a0 : Int) (a1 : Int) (r : Bool) (h : impl_index a0 a1 = some r) : OkAt Cc 37 [.int .i64 a0, .int .i64 a1] (.bool r) [] := by
 refine OkAt.of_wpR (fx := [0, 1]) Cc_ok [.tmp 4] [(0, .int .i64 a0), (1, .int .i64 a1)] Try.func37 rfl rfl s37 (Nat.le_of_ble_eq_true rfl) rfl rfl (fun Q0 r0 n0 => ?_)
 refine ws _ ?_
 obtain ⟨x1, e3, h⟩ := bindE h
 refine wsc (ok_impl_within a0 0 (IntKind.i64.wrap (a1 - 1)) _ e3) _ ?_
 exact w_ret (r0 _ (.inl (w_fin [.bool x1] rfl (by cases someE h; rfl) (by decide) outs_nil)))

theorem ok_impl_Part_countOk (a0 : impl_Part) (a1 : List impl_Definition) (r : Bool) (h : impl_Part_countOk a0 a1 = some r) : OkAt Cc 108 [e_impl_Part a0, .slice (a1.map e_impl_Definition)] (.bool r) [] := by
 refine OkAt.of_wpR (fx := [0, 1]) Cc_ok [.tmp 4] [(0, e_impl_Part a0), (1, .slice (a1.map e_impl_Definition))] Try.func108 rfl rfl s108 (Nat.le_of_ble_eq_true rfl) rfl rfl (fun Q0 r0 n0 => ?_)
 refine ws _ ?_
 refine ws _ ?_
 refine w_seq (fun Q3 n3 q3 x3 => ?_)
 refine ws _ ?_
 refine w_blk (fun Q5 n5 q5 b5 x5 => ?_)
 refine ws _ ?_
 rcases condE h with ⟨b7, h⟩ | ⟨b7, h⟩
 ·refine w_ct (congrArg AV.bool b7) ?_
  simp only [b7, Bool.not_true, Bool.not_false]
  refine w_sreg (w_abs [(4, .bool (((a0.Arguments.length : Int) == 0) || ((!(a0.Name == ([116, 97, 117] : List UInt8))) && (decide ((a0.Arguments.length : Int) ≤ 2)))))] (fun P hP => ?_) ?_)
  ·(rcases Bool.eq_false_or_eq_true ((a0.Arguments.length : Int) == 0) with s9 | s9) <;> (rcases Bool.eq_false_or_eq_true (a0.Name == ([116, 97, 117] : List UInt8)) with s10 | s10) <;>
     (simp only [V0.down, simprocAttr, zz13.down, s9, s10]
      (try simp only [VN.down, simprocAttr, zz0.down, s9, s10] at hP ⊢); exact hP)
  exact w_ret (q5 _ (q3 _ (r0 _ (.inl (w_fin [.bool (((a0.Arguments.length : Int) == 0) || ((!(a0.Name == ([116, 97, 117] : List UInt8))) && (decide ((a0.Arguments.length : Int) ≤ 2))))] rfl (by cases someE h; rfl) (by decide) outs_nil)))))
 ·refine w_cf (congrArg AV.bool b7) ?_
  simp only [b7, Bool.not_true, Bool.not_false]
  refine ws _ ?_
  rcases condE h with ⟨b12, h⟩ | ⟨b12, h⟩
  ·refine w_ct (congrArg AV.bool b12) ?_
   simp only [b12, Bool.not_true, Bool.not_false]
   refine ws _ ?_
   exact w_ret (q5 _ (q3 _ (r0 _ (.inl (w_fin [.bool ((a0.Arguments.length : Int) == 1)] rfl (by cases someE h; rfl) (by decide) outs_nil)))))
  ·refine w_cf (congrArg AV.bool b12) ?_
   simp only [b12, Bool.not_true, Bool.not_false]
   refine ws _ ?_
   rcases condE h with ⟨b15, h⟩ | ⟨b15, h⟩
   ·refine w_ct (congrArg AV.bool b15) ?_
    simp only [b15, Bool.not_true, Bool.not_false]
    obtain ⟨x1, e17, h⟩ := bindE h
    refine wsf e17 _ ?_
    exact w_ret (q5 _ (q3 _ (r0 _ (.inl (w_fin [.bool ((a0.Arguments.length : Int) == x1.Parameters)] rfl (by cases someE h; rfl) (by decide) outs_nil)))))
   ·refine w_cf (congrArg AV.bool b15) ?_
    simp only [b15, Bool.not_true, Bool.not_false]
    refine w_skip (n5 _ (n3 _ (.inl ?_)))
    refine ws _ ?_
    exact w_ret (r0 _ (.inl (w_fin [.bool true] rfl (by cases someE h; rfl) (by decide) outs_nil)))

theorem ok_impl_isValue (a0 : Int) (r : Bool) (h : impl_isValue a0 = some r) : OkAt Cc 127 [.int .i64 a0] (.bool r) [] := by
 refine OkAt.of_wpR (fx := [0]) Cc_ok [.tmp 2] [(0, .int .i64 a0)] Try.func127 rfl rfl s127 (Nat.le_of_ble_eq_true rfl) rfl rfl (fun Q0 r0 n0 => ?_)
 refine ws _ ?_
 obtain ⟨x1, e3, h⟩ := bindE h
 refine wsc (ok_impl_within a0 0 63 _ e3) _ ?_
 exact w_ret (r0 _ (.inl (w_fin [.bool x1] rfl (by cases someE h; rfl) (by decide) outs_nil)))

theorem ok_impl_Term_valid (a0 : impl_Term) (a1 : Int) (r : Bool) (h : impl_Term_valid a0 a1 = some r) : OkAt Cc 123 [e_impl_Term a0, .int .i64 a1] (.bool r) [] := by
 refine OkAt.of_wpR (fx := [0, 1]) Cc_ok [.tmp 4] [(0, e_impl_Term a0), (1, .int .i64 a1)] Try.func123 rfl rfl s123 (Nat.le_of_ble_eq_true rfl) rfl rfl (fun Q0 r0 n0 => ?_)
 refine ws _ ?_
 refine w_seq (fun Q2 n2 q2 x2 => ?_)
 refine ws _ ?_
 refine w_blk (fun Q4 n4 q4 b4 x4 => ?_)
 refine ws _ ?_
 rcases condE h with ⟨b6, h⟩ | ⟨b6, h⟩
 ·refine w_ct (congrArg AV.bool b6) ?_
  simp only [b6, Bool.not_true, Bool.not_false]
  obtain ⟨x1, e8, h⟩ := bindE h
  refine wsc (ok_impl_isValue a0.Value _ e8) _ ?_
  exact w_ret (q4 _ (q2 _ (r0 _ (.inl (w_fin [.bool x1] rfl (by cases someE h; rfl) (by decide) outs_nil)))))
 ·refine w_cf (congrArg AV.bool b6) ?_
  simp only [b6, Bool.not_true, Bool.not_false]
  refine ws _ ?_
  rcases condE h with ⟨b10, h⟩ | ⟨b10, h⟩
  ·refine w_ct (congrArg AV.bool b10) ?_
   simp only [b10, Bool.not_true, Bool.not_false]
   obtain ⟨x2, e12, h⟩ := bindE h
   refine wsc (ok_impl_within a0.Value 0 (IntKind.i64.wrap (a1 - 1)) _ e12) _ ?_
   exact w_ret (q4 _ (q2 _ (r0 _ (.inl (w_fin [.bool x2] rfl (by cases someE h; rfl) (by decide) outs_nil)))))
  ·refine w_cf (congrArg AV.bool b10) ?_
   simp only [b10, Bool.not_true, Bool.not_false]
   refine ws _ ?_
   rcases condE h with ⟨b14, h⟩ | ⟨b14, h⟩
   ·refine w_ct (congrArg AV.bool b14) ?_
    simp only [b14, Bool.not_true, Bool.not_false]
    obtain ⟨x3, e16, h⟩ := bindE h
    refine wsc (ok_impl_within a0.Value 0 8 _ e16) _ ?_
    exact w_ret (q4 _ (q2 _ (r0 _ (.inl (w_fin [.bool x3] rfl (by cases someE h; rfl) (by decide) outs_nil)))))
   ·refine w_cf (congrArg AV.bool b14) ?_
    simp only [b14, Bool.not_true, Bool.not_false]
    refine ws _ ?_
    rcases condE h with ⟨b18, h⟩ | ⟨b18, h⟩
    ·refine w_ct (congrArg AV.bool b18) ?_
     simp only [b18, Bool.not_true, Bool.not_false]
     refine ws _ ?_
     exact w_ret (q4 _ (q2 _ (r0 _ (.inl (w_fin [.bool (a0.Value == 0)] rfl (by cases someE h; rfl) (by decide) outs_nil)))))
    ·refine w_cf (congrArg AV.bool b18) ?_
     simp only [b18, Bool.not_true, Bool.not_false]
     refine w_skip (n4 _ (n2 _ (.inl ?_)))
     refine ws _ ?_
     exact w_ret (r0 _ (.inl (w_fin [.bool false] rfl (by cases someE h; rfl) (by decide) outs_nil)))

theorem ok_impl_Term_operands (a0 : impl_Term) (r : Int) (h : impl_Term_operands a0 = some r) : OkAt Cc 124 [e_impl_Term a0] (.int .i64 r) [] := by
 refine OkAt.of_wpR (fx := [0]) Cc_ok [.tmp 2] [(0, e_impl_Term a0)] Try.func124 rfl rfl s124 (Nat.le_of_ble_eq_true rfl) rfl rfl (fun Q0 r0 n0 => ?_)
 refine ws _ ?_
 refine w_seq (fun Q2 n2 q2 x2 => ?_)
 refine ws _ ?_
 refine w_blk (fun Q4 n4 q4 b4 x4 => ?_)
 refine ws _ ?_
 rcases condE h with ⟨b6, h⟩ | ⟨b6, h⟩
 ·refine w_ct (congrArg AV.bool b6) ?_
  simp only [b6, Bool.not_true, Bool.not_false]
  refine ws _ ?_
  exact w_ret (q4 _ (q2 _ (r0 _ (.inl (w_fin [.int .i64 2] rfl (by cases someE h; rfl) (by decide) outs_nil)))))
 ·refine w_cf (congrArg AV.bool b6) ?_
  simp only [b6, Bool.not_true, Bool.not_false]
  refine ws _ ?_
  rcases condE h with ⟨b9, h⟩ | ⟨b9, h⟩
  ·refine w_ct (congrArg AV.bool b9) ?_
   simp only [b9, Bool.not_true, Bool.not_false]
   refine ws _ ?_
   exact w_ret (q4 _ (q2 _ (r0 _ (.inl (w_fin [.int .i64 1] rfl (by cases someE h; rfl) (by decide) outs_nil)))))
  ·refine w_cf (congrArg AV.bool b9) ?_
   simp only [b9, Bool.not_true, Bool.not_false]
   refine w_skip (n4 _ (n2 _ (.inl ?_)))
   refine ws _ ?_
   exact w_ret (r0 _ (.inl (w_fin [.int .i64 0] rfl (by cases someE h; rfl) (by decide) outs_nil)))

set_option maxHeartbeats 600000 in
theorem ok_impl_ValidTerms (a0 : List impl_Term) (a1 : Int) (a2 : Int) (r : Bool) (h : impl_ValidTerms a0 a1 a2 = some r) : OkAt Cc 111 [.slice (a0.map e_impl_Term), .int .i64 a1, .int .i64 a2] (.bool r) [] := by
 refine OkAt.of_wpR (fx := [0, 1, 2]) Cc_ok [.tmp 6] [(0, .slice (a0.map e_impl_Term)), (1, .int .i64 a1), (2, .int .i64 a2)] Try.func111 rfl rfl s111 (Nat.le_of_ble_eq_true rfl) rfl rfl (fun Q0 r0 n0 => ?_)
 refine ws _ ?_
 refine w_seq (fun Q2 n2 q2 x2 => ?_)
 obtain ⟨x1, e4, h⟩ := bindE h
 rcases condE h with ⟨b5, h⟩ | ⟨b5, h⟩
 ·refine wscf (bnT b5) (ok_impl_within a1 0 29 _ e4) _ ?_
  refine w_ct rfl ?_
  refine ws _ ?_
  exact w_ret (q2 _ (r0 _ (.inl (w_fin [.bool false] rfl (by cases someE h; rfl) (by decide) outs_nil))))
 ·obtain ⟨x2, e7, h⟩ := bindE h
  rcases condE h with ⟨b8, h⟩ | ⟨b8, h⟩
  ·refine w_sreg (w_abs [(0, .slice (a0.map e_impl_Term)), (1, .int .i64 a1), (24, .bool true)] (fun P hP => ?_) ?_)
   ·simp only [V0.down, simprocAttr, zz5.down, (bnF b5), (bnT b8)]
    refine w_call0 (ok_impl_within a1 0 29 _ e4) rfl rfl rfl rfl (.inl (by rfl)) ?_
    simp only [V0.down, simprocAttr, zz5.down, (bnF b5), (bnT b8)]
    refine w_callg0 (ok_impl_within a2 1 60 _ e7) rfl rfl rfl rfl (.inl (by rfl)) ?_
    simp only [V0.down, simprocAttr, zz5.down, (bnF b5), (bnT b8)]
    (try simp only [VN.down, simprocAttr, e_impl_Term, (bnF b5), (bnT b8)] at hP ⊢); exact hP
   refine w_ct rfl ?_
   refine ws _ ?_
   exact w_ret (q2 _ (r0 _ (.inl (w_fin [.bool false] rfl (by cases someE h; rfl) (by decide) outs_nil))))
  ·obtain ⟨x3, e10, h⟩ := bindE h
   refine w_sreg (w_abs [(0, .slice (a0.map e_impl_Term)), (1, .int .i64 a1), (24, .bool (!x3))] (fun P hP => ?_) ?_)
   ·simp only [V0.down, simprocAttr, zz5.down, (bnF b5), (bnF b8)]
    refine w_call0 (ok_impl_within a1 0 29 _ e4) rfl rfl rfl rfl (.inl (by rfl)) ?_
    simp only [V0.down, simprocAttr, zz5.down, (bnF b5), (bnF b8)]
    refine w_callg0 (ok_impl_within a2 1 60 _ e7) rfl rfl rfl rfl (.inl (by rfl)) ?_
    simp only [V0.down, simprocAttr, zz5.down, (bnF b5), (bnF b8)]
    refine w_callg0 (ok_impl_within (a0.length : Int) 1 a2 _ e10) rfl rfl rfl rfl (.inl (by rfl)) ?_
    simp only [V0.down, simprocAttr, zz5.down, (bnF b5), (bnF b8)]
    (try simp only [VN.down, simprocAttr, e_impl_Term, (bnF b5), (bnF b8)] at hP ⊢); exact hP
   rcases condE h with ⟨b11, h⟩ | ⟨b11, h⟩
   ·refine w_ct (congrArg AV.bool b11) ?_
    simp only [(bnT b11), Bool.not_true, Bool.not_false]
    refine ws _ ?_
    exact w_ret (q2 _ (r0 _ (.inl (w_fin [.bool false] rfl (by cases someE h; rfl) (by decide) outs_nil))))
   ·refine w_cf (congrArg AV.bool b11) ?_
    simp only [(bnF b11), Bool.not_true, Bool.not_false]
    refine w_skip (n2 _ (.inl ?_))
    refine ws _ ?_
    refine w_seq (fun Q14 n14 q14 x14 => ?_)
    refine ws _ ?_
    refine w_blk (fun Q16 n16 q16 b16 x16 => ?_)
    have L16 : ∀ (n : Nat) (v7_16 : Int) (v27_16 : Int), impl_ValidTerms_l16 a0 a1 n v7_16 v27_16 = some r → lpC Cc c111_17 Q16 (stA [(1, .int .i64 a1), (7, .int .i64 v7_16), (25, .slice (a0.map e_impl_Term)), (26, .int .i64 (a0.length : Int)), (27, .int .i64 v27_16)]) := by
     intro m16
     induction m16 with
     | zero => intro v7_16 v27_16 h; cases (show none = some r from h)
     | succ m16 ih16 =>
      intro v7_16 v27_16 h
      replace h : impl_ValidTerms_b16 (impl_ValidTerms_l16 a0 a1 m16) a0 a1 v7_16 v27_16 = some r := h
      refine lpC_step (fun Q17 n17 q17 x17 => ?_)
      refine ws _ ?_
      refine w_seq (fun Q19 n19 q19 x19 => ?_)
      rcases condE h with ⟨b20, h⟩ | ⟨b20, h⟩
      ·refine w_ct (congrArg AV.bool b20) ?_
       simp only [b20, Bool.not_true, Bool.not_false]
       refine w_skip (n19 _ (.inl ?_))
       refine w_seq (fun Q21 n21 q21 x21 => ?_)
       refine w_blk (fun Q22 n22 q22 b22 x22 => ?_)
       obtain ⟨x4, e24, h⟩ := bindE h
       refine wsf e24 _ ?_
       refine w_seq (fun Q25 n25 q25 x25 => ?_)
       rcases condE h with ⟨b27, h⟩ | ⟨b27, h⟩
       ·refine wsf b27 _ ?_
        refine w_ct rfl ?_
        refine ws _ ?_
        exact w_ret (q25 _ (q22 _ (q21 _ (q17 _ (q16 _ (q14 _ (r0 _ (.inl (w_fin [.bool false] rfl (by cases someE h; rfl) (by decide) outs_nil)))))))))
       ·obtain ⟨x5, e29, h⟩ := bindE h
        refine w_sreg (w_abs [(1, .int .i64 a1), (7, .int .i64 v7_16), (9, .ubox (e_impl_Term x4)), (25, .slice (a0.map e_impl_Term)), (26, .int .i64 (a0.length : Int)), (27, .int .i64 v27_16), (38, .bool (!x5))] (fun P hP => ?_) ?_)
        ·simp only [V0.down, simprocAttr, tt2, tt123, e_impl_Term, b27]
         refine w_callg0 (ok_impl_Term_valid x4 a1 _ e29) rfl rfl rfl rfl (.inl (by rfl)) ?_
         simp only [V0.down, simprocAttr, tt2, tt123, e_impl_Term, b27]
         (try simp only [VN.down, simprocAttr, e_impl_Term, b27] at hP ⊢); exact hP
        rcases condE h with ⟨b30, h⟩ | ⟨b30, h⟩
        ·refine w_ct (congrArg AV.bool b30) ?_
         simp only [(bnT b30), Bool.not_true, Bool.not_false]
         refine ws _ ?_
         exact w_ret (q25 _ (q22 _ (q21 _ (q17 _ (q16 _ (q14 _ (r0 _ (.inl (w_fin [.bool false] rfl (by cases someE h; rfl) (by decide) outs_nil)))))))))
        ·refine w_cf (congrArg AV.bool b30) ?_
         simp only [(bnF b30), Bool.not_true, Bool.not_false]
         refine w_skip (n25 _ (.inl ?_))
         obtain ⟨x6, e33, h⟩ := bindE h
         refine wrc (ok_impl_Term_operands x4 _ e33) _ ?_
         refine n22 _ (n21 _ (.inl ?_))
         refine wr _ ?_
         exact n17 _ (.inr ⟨_, weak_eq rfl, ih16 (IntKind.i64.wrap (v7_16 + (IntKind.i64.wrap (x6 - 1)))) (IntKind.i64.wrap (v27_16 + 1)) h⟩)
      ·refine w_cf (congrArg AV.bool b20) ?_
       simp only [b20, Bool.not_true, Bool.not_false]
       refine w_ex (x19 0 _ (x17 0 _ (b16 _ (n14 _ (.inl ?_)))))
       refine ws _ ?_
       exact w_ret (r0 _ (.inl (w_fin [.bool (v7_16 == 0)] rfl (by cases someE h; rfl) (by decide) outs_nil)))
    obtain ⟨n, h⟩ := limE h
    exact w_loop (.inr ⟨_, weak_eq rfl, L16 n 1 0 h⟩)

theorem ok_impl_Part_reason_c1_2 (a0 : List impl_Term) (a1 : impl_place) (r : Bool) (h : impl_Part_reason_c1_2 a0 a1 = some r) : OkAt Cc 110 [.slice (a0.map e_impl_Term), .ref (e_impl_place a1)] (.bool r) [] := by
 refine OkAt.of_wpR (fx := [0, 1]) Cc_ok [.tmp 3] [(0, .slice (a0.map e_impl_Term)), (1, .ref (e_impl_place a1))] Try.func110 rfl rfl s110 (Nat.le_of_ble_eq_true rfl) rfl rfl (fun Q0 r0 n0 => ?_)
 refine ws _ ?_
 obtain ⟨x1, e3, h⟩ := bindE h
 refine wsc (ok_impl_ValidTerms a0 a1.scope 15 _ e3) _ ?_
 exact w_ret (r0 _ (.inl (w_fin [.bool (!x1)] rfl (by cases someE h; rfl) (by decide) outs_nil)))

theorem ok_slices_IndexFunc_impl_Term__impl_Part_reason_c1 (a0 : List (List impl_Term)) (a1 : impl_place) (r : Int) (h : slices_IndexFunc_impl_Term__impl_Part_reason_c1 a0 a1 = some r) : OkAt Cc 122 [.slice (a0.map e_s_impl_Term), .fn 110 [.ref (e_impl_place a1)]] (.int .i64 r) [] := by
 refine OkAt.of_wpR (fx := [0, 1]) Cc_ok [.tmp 4] [(0, .slice (a0.map e_s_impl_Term)), (1, .fn 110 [.ref (e_impl_place a1)])] Try.func122 rfl rfl s122 (Nat.le_of_ble_eq_true rfl) rfl rfl (fun Q0 r0 n0 => ?_)
 refine ws _ ?_
 refine w_seq (fun Q2 n2 q2 x2 => ?_)
 refine ws _ ?_
 refine w_blk (fun Q4 n4 q4 b4 x4 => ?_)
 have L6 : ∀ (n : Nat) (v8_6 : Int), slices_IndexFunc_impl_Term__impl_Part_reason_c1_l6 a0 a1 n v8_6 = some r → lpC Cc c122_7 Q4 (stA [(0, .slice (a0.map e_s_impl_Term)), (1, .fn 110 [.ref (e_impl_place a1)]), (7, .int .i64 (a0.length : Int)), (8, .int .i64 v8_6)]) := by
  intro m6
  induction m6 with
  | zero => intro v8_6 h; cases (show none = some r from h)
  | succ m6 ih6 =>
   intro v8_6 h
   replace h : slices_IndexFunc_impl_Term__impl_Part_reason_c1_b6 (slices_IndexFunc_impl_Term__impl_Part_reason_c1_l6 a0 a1 m6) a0 a1 v8_6 = some r := h
   refine lpC_step (fun Q5 n5 q5 x5 => ?_)
   refine ws _ ?_
   refine w_seq (fun Q7 n7 q7 x7 => ?_)
   rcases condE h with ⟨b8, h⟩ | ⟨b8, h⟩
   ·refine w_ct (congrArg AV.bool b8) ?_
    simp only [b8, Bool.not_true, Bool.not_false]
    refine w_skip (n7 _ (.inl ?_))
    refine w_seq (fun Q9 n9 q9 x9 => ?_)
    refine w_blk (fun Q10 n10 q10 b10 x10 => ?_)
    refine ws _ ?_
    obtain ⟨x1, e13, h⟩ := bindE h
    obtain ⟨x2, e14, h⟩ := bindE h
    refine wscf e13 (ok_impl_Part_reason_c1_2 x1 a1 _ e14) _ ?_
    rcases condE h with ⟨b15, h⟩ | ⟨b15, h⟩
    ·refine w_ct (congrArg AV.bool b15) ?_
     simp only [b15, Bool.not_true, Bool.not_false]
     refine ws _ ?_
     exact w_ret (q10 _ (q9 _ (q5 _ (q4 _ (q2 _ (r0 _ (.inl (w_fin [.int .i64 v8_6] rfl (by cases someE h; rfl) (by decide) outs_nil))))))))
    ·refine w_cf (congrArg AV.bool b15) ?_
     simp only [b15, Bool.not_true, Bool.not_false]
     refine w_skip (n10 _ (n9 _ (.inl ?_)))
     refine wr _ ?_
     exact n5 _ (.inr ⟨_, weak_eq rfl, ih6 (IntKind.i64.wrap (v8_6 + 1)) h⟩)
   ·refine w_cf (congrArg AV.bool b8) ?_
    simp only [b8, Bool.not_true, Bool.not_false]
    refine w_ex (x7 0 _ (x5 0 _ (b4 _ (n2 _ (.inl ?_)))))
    refine ws _ ?_
    exact w_ret (r0 _ (.inl (w_fin [.int .i64 (-1)] rfl (by cases someE h; rfl) (by decide) outs_nil)))
 obtain ⟨n, h⟩ := limE h
 exact w_loop (.inr ⟨_, weak_eq rfl, L6 n 0 h⟩)

theorem ok_slices_ContainsFunc_impl_Term__impl_Part_reason_c1 (a0 : List (List impl_Term)) (a1 : impl_place) (r : Bool) (h : slices_ContainsFunc_impl_Term__impl_Part_reason_c1 a0 a1 = some r) : OkAt Cc 109 [.slice (a0.map e_s_impl_Term), .fn 110 [.ref (e_impl_place a1)]] (.bool r) [] := by
 refine OkAt.of_wpR (fx := [0, 1]) Cc_ok [.tmp 4] [(0, .slice (a0.map e_s_impl_Term)), (1, .fn 110 [.ref (e_impl_place a1)])] Try.func109 rfl rfl s109 (Nat.le_of_ble_eq_true rfl) rfl rfl (fun Q0 r0 n0 => ?_)
 refine ws _ ?_
 obtain ⟨x1, e3, h⟩ := bindE h
 refine wsc (ok_slices_IndexFunc_impl_Term__impl_Part_reason_c1 a0 a1 _ e3) _ ?_
 exact w_ret (r0 _ (.inl (w_fin [.bool (decide (0 ≤ x1))] rfl (by cases someE h; rfl) (by decide) outs_nil)))

set_option maxHeartbeats 800000 in
theorem ok_impl_Part_reason (a0 : impl_Part) (a1 : List impl_Definition) (a2 : impl_place) (r : Int) (h : impl_Part_reason a0 a1 a2 = some r) : OkAt Cc 81 [e_impl_Part a0, .slice (a1.map e_impl_Definition), e_impl_place a2] (.int .i64 r) [] := by
 refine OkAt.of_wpR (fx := [0, 1, 2]) Cc_ok [.tmp 6] [(0, e_impl_Part a0), (1, .slice (a1.map e_impl_Definition)), (2, e_impl_place a2)] Try.func81 rfl rfl s81 (Nat.le_of_ble_eq_true rfl) rfl rfl (fun Q0 r0 n0 => ?_)
 refine ws _ ?_
 refine w_seq (fun Q2 n2 q2 x2 => ?_)
 refine w_blk (fun Q3 n3 q3 b3 x3 => ?_)
 obtain ⟨x1, e5, h⟩ := bindE h
 refine wsc (ok_impl_Part_kindOk a0 _ e5) _ ?_
 rcases condE h with ⟨b6, h⟩ | ⟨b6, h⟩
 ·refine w_ct (congrArg AV.bool b6) ?_
  simp only [(bnT b6), Bool.not_true, Bool.not_false]
  refine ws _ ?_
  exact w_ret (q3 _ (q2 _ (r0 _ (.inl (w_fin [.int .i64 2] rfl (by cases someE h; rfl) (by decide) outs_nil)))))
 ·refine w_cf (congrArg AV.bool b6) ?_
  simp only [(bnF b6), Bool.not_true, Bool.not_false]
  have K12 : ∀ (v11_12 : Bool), impl_Part_reason_k12 a0 a1 a2 v11_12 = some r → wpC Cc c81_12 Q3 (stA [(1, .slice (a1.map e_impl_Definition)), (3, .ubox (e_impl_Part a0)), (5, .ubox (e_impl_place a2)), (11, .bool v11_12)]) := by
   intro v11_12 h
   rcases condE h with ⟨b8, h⟩ | ⟨b8, h⟩
   ·refine w_ct (congrArg AV.bool b8) ?_
    simp only [b8, Bool.not_true, Bool.not_false]
    refine ws _ ?_
    exact w_ret (q3 _ (q2 _ (r0 _ (.inl (w_fin [.int .i64 3] rfl (by cases someE h; rfl) (by decide) outs_nil)))))
   ·refine w_cf (congrArg AV.bool b8) ?_
    simp only [b8, Bool.not_true, Bool.not_false]
    have K18 : ∀ (v26_18 : Bool), impl_Part_reason_k18 a0 a1 a2 v26_18 = some r → wpC Cc c81_18 Q3 (stA [(1, .slice (a1.map e_impl_Definition)), (3, .ubox (e_impl_Part a0)), (5, .ubox (e_impl_place a2)), (26, .bool v26_18)]) := by
     intro v26_18 h
     rcases condE h with ⟨b10, h⟩ | ⟨b10, h⟩
     ·refine w_ct (congrArg AV.bool b10) ?_
      simp only [b10, Bool.not_true, Bool.not_false]
      refine ws _ ?_
      exact w_ret (q3 _ (q2 _ (r0 _ (.inl (w_fin [.int .i64 4] rfl (by cases someE h; rfl) (by decide) outs_nil)))))
     ·refine w_cf (congrArg AV.bool b10) ?_
      simp only [b10, Bool.not_true, Bool.not_false]
      obtain ⟨x2, e13, h⟩ := bindE h
      refine wsc (ok_impl_Part_countOk a0 a1 _ e13) _ ?_
      rcases condE h with ⟨b14, h⟩ | ⟨b14, h⟩
      ·refine w_ct (congrArg AV.bool b14) ?_
       simp only [(bnT b14), Bool.not_true, Bool.not_false]
       refine ws _ ?_
       exact w_ret (q3 _ (q2 _ (r0 _ (.inl (w_fin [.int .i64 5] rfl (by cases someE h; rfl) (by decide) outs_nil)))))
      ·refine w_cf (congrArg AV.bool b14) ?_
       simp only [(bnF b14), Bool.not_true, Bool.not_false]
       refine w_sreg (w_abs [(3, .ubox (e_impl_Part a0)), (5, .ubox (e_impl_place a2)), (54, .bool ((a0.Kind == 5) && (!a2.behind)))] (fun P hP => ?_) ?_)
       ·rcases Bool.eq_false_or_eq_true (a0.Kind == 5) with s17 | s17
        ·simp only [V0.down, simprocAttr, zz16.down, s17]
         (try simp only [VN.down, simprocAttr, zz14.down, s17] at hP ⊢); exact hP
        ·simp only [V0.down, simprocAttr, zz16.down, s17]
         (try simp only [VN.down, simprocAttr, zz14.down, s17] at hP ⊢); exact hP
       rcases condE h with ⟨b18, h⟩ | ⟨b18, h⟩
       ·refine w_ct (congrArg AV.bool b18) ?_
        simp only [b18, Bool.not_true, Bool.not_false]
        refine ws _ ?_
        exact w_ret (q3 _ (q2 _ (r0 _ (.inl (w_fin [.int .i64 6] rfl (by cases someE h; rfl) (by decide) outs_nil)))))
       ·refine w_cf (congrArg AV.bool b18) ?_
        simp only [b18, Bool.not_true, Bool.not_false]
        refine w_sreg (w_abs [(3, .ubox (e_impl_Part a0)), (5, .ubox (e_impl_place a2)), (63, .bool ((a0.Kind == 4) && (decide (6 ≤ a2.scope))))] (fun P hP => ?_) ?_)
        ·rcases Bool.eq_false_or_eq_true (a0.Kind == 4) with s21 | s21
         ·simp only [V0.down, simprocAttr, zz16.down, s21]
          (try simp only [VN.down, simprocAttr, zz14.down, s21] at hP ⊢); exact hP
         ·simp only [V0.down, simprocAttr, zz16.down, s21]
          (try simp only [VN.down, simprocAttr, zz14.down, s21] at hP ⊢); exact hP
        rcases condE h with ⟨b22, h⟩ | ⟨b22, h⟩
        ·refine w_ct (congrArg AV.bool b22) ?_
         simp only [b22, Bool.not_true, Bool.not_false]
         refine ws _ ?_
         exact w_ret (q3 _ (q2 _ (r0 _ (.inl (w_fin [.int .i64 7] rfl (by cases someE h; rfl) (by decide) outs_nil)))))
        ·refine w_cf (congrArg AV.bool b22) ?_
         simp only [b22, Bool.not_true, Bool.not_false]
         obtain ⟨x3, e25, h⟩ := bindE h
         refine w_sreg (w_abs [(72, .bool x3)] (fun P hP => ?_) ?_)
         ·simp only [V0.down, simprocAttr, zz22.down]
          refine w_call0 (ok_slices_ContainsFunc_impl_Term__impl_Part_reason_c1 a0.Arguments a2 _ e25) rfl rfl (by simp only [V0.down, simprocAttr, zz22.down, view_s, view_h, viewH_s, share_s] <;> rfl) rfl (.inr (by rfl)) ?_
          simp only [V0.down, simprocAttr, zz22.down]
          (try simp only [VN.down, simprocAttr, zz14.down] at hP ⊢); exact hP
         rcases condE h with ⟨b26, h⟩ | ⟨b26, h⟩
         ·refine w_ct (congrArg AV.bool b26) ?_
          simp only [b26, Bool.not_true, Bool.not_false]
          refine ws _ ?_
          exact w_ret (q3 _ (q2 _ (r0 _ (.inl (w_fin [.int .i64 8] rfl (by cases someE h; rfl) (by decide) outs_nil)))))
         ·refine w_cf (congrArg AV.bool b26) ?_
          simp only [b26, Bool.not_true, Bool.not_false]
          refine w_skip (n3 _ (n2 _ (.inl ?_)))
          refine ws _ ?_
          exact w_ret (r0 _ (.inl (w_fin [.int .i64 0] rfl (by cases someE h; rfl) (by decide) outs_nil)))
    rcases condE h with ⟨b30, h⟩ | ⟨b30, h⟩
    ·obtain ⟨x4, e31, h⟩ := bindE h
     rcases condE h with ⟨b32, h⟩ | ⟨b32, h⟩
     ·refine w_sregW (w_abs (K := onW _) [(1, .slice (a1.map e_impl_Definition)), (3, .ubox (e_impl_Part a0)), (5, .ubox (e_impl_place a2)), (26, .bool true)] (fun P hP => ?_) ?_)
      ·simp only [V0.down, simprocAttr, zz9.down, b30, (bnT b32)]
       refine w_callg0 (ok_impl_within a0.Number 1 7 _ e31) rfl rfl rfl rfl (.inl (by rfl)) ?_
       simp only [V0.down, simprocAttr, zz9.down, b30, (bnT b32)]
       (try simp only [VN.down, simprocAttr, zz6.down, b30, (bnT b32)] at hP ⊢); exact hP
      exact .inr ⟨_, weak_eq rfl, K18 true h⟩
     ·rcases condE h with ⟨b33, h⟩ | ⟨b33, h⟩
      ·obtain ⟨x5, e34, h⟩ := bindE h
       refine w_sregW (w_abs (K := onW _) [(1, .slice (a1.map e_impl_Definition)), (3, .ubox (e_impl_Part a0)), (5, .ubox (e_impl_place a2)), (26, .bool (!x5))] (fun P hP => ?_) ?_)
       ·simp only [V0.down, simprocAttr, zz9.down, b30, (bnF b32), b33]
        refine w_callg0 (ok_impl_within a0.Number 1 7 _ e31) rfl rfl rfl rfl (.inl (by rfl)) ?_
        simp only [V0.down, simprocAttr, zz9.down, b30, (bnF b32), b33]
        refine w_callg0 (ok_impl_index a0.Number (a1.length : Int) _ e34) rfl rfl rfl rfl (.inl (by rfl)) ?_
        simp only [V0.down, simprocAttr, zz9.down, b30, (bnF b32), b33]
        (try simp only [VN.down, simprocAttr, zz6.down, b30, (bnF b32), b33] at hP ⊢); exact hP
       exact .inr ⟨_, weak_eq rfl, K18 (!x5) h⟩
      ·refine w_sregW (w_abs (K := onW _) [(1, .slice (a1.map e_impl_Definition)), (3, .ubox (e_impl_Part a0)), (5, .ubox (e_impl_place a2)), (26, .bool false)] (fun P hP => ?_) ?_)
       ·simp only [V0.down, simprocAttr, zz9.down, b30, (bnF b32), b33]
        refine w_callg0 (ok_impl_within a0.Number 1 7 _ e31) rfl rfl rfl rfl (.inl (by rfl)) ?_
        simp only [V0.down, simprocAttr, zz9.down, b30, (bnF b32), b33]
        (try simp only [VN.down, simprocAttr, zz6.down, b30, (bnF b32), b33] at hP ⊢); exact hP
       exact .inr ⟨_, weak_eq rfl, K18 false h⟩
    ·rcases condE h with ⟨b35, h⟩ | ⟨b35, h⟩
     ·obtain ⟨x6, e36, h⟩ := bindE h
      refine w_sregW (w_abs (K := onW _) [(1, .slice (a1.map e_impl_Definition)), (3, .ubox (e_impl_Part a0)), (5, .ubox (e_impl_place a2)), (26, .bool (!x6))] (fun P hP => ?_) ?_)
      ·simp only [V0.down, simprocAttr, zz9.down, b30, b35]
       refine w_callg0 (ok_impl_index a0.Number (a1.length : Int) _ e36) rfl rfl rfl rfl (.inl (by rfl)) ?_
       simp only [V0.down, simprocAttr, zz9.down, b30, b35]
       (try simp only [VN.down, simprocAttr, zz6.down, b30, b35] at hP ⊢); exact hP
      exact .inr ⟨_, weak_eq rfl, K18 (!x6) h⟩
     ·refine w_sregW (w_abs (K := onW _) [(1, .slice (a1.map e_impl_Definition)), (3, .ubox (e_impl_Part a0)), (5, .ubox (e_impl_place a2)), (26, .bool false)] (fun P hP => ?_) ?_)
      ·simp only [V0.down, simprocAttr, zz9.down, b30, b35]
       (try simp only [VN.down, simprocAttr, zz6.down, b30, b35] at hP ⊢); exact hP
      exact .inr ⟨_, weak_eq rfl, K18 false h⟩
  rcases condE h with ⟨b38, h⟩ | ⟨b38, h⟩
  ·rcases condE h with ⟨b39, h⟩ | ⟨b39, h⟩
   ·obtain ⟨x7, e40, h⟩ := bindE h
    refine w_sregW (w_abs (K := onW _) [(1, .slice (a1.map e_impl_Definition)), (3, .ubox (e_impl_Part a0)), (5, .ubox (e_impl_place a2)), (11, .bool (!x7))] (fun P hP => ?_) ?_)
    ·simp only [V0.down, simprocAttr, zz17.down, b38, b39]
     refine w_callg0 (ok_impl_IsAction a0.Name _ e40) rfl rfl rfl rfl (.inl (by rfl)) ?_
     simp only [V0.down, simprocAttr, zz17.down, b38, b39]
     (try simp only [VN.down, simprocAttr, zz6.down, b38, b39] at hP ⊢); exact hP
    exact .inr ⟨_, weak_eq rfl, K12 (!x7) h⟩
   ·refine w_sregW (w_abs (K := onW _) [(1, .slice (a1.map e_impl_Definition)), (3, .ubox (e_impl_Part a0)), (5, .ubox (e_impl_place a2)), (11, .bool false)] (fun P hP => ?_) ?_)
    ·simp only [V0.down, simprocAttr, zz17.down, b38, b39]
     (try simp only [VN.down, simprocAttr, zz6.down, b38, b39] at hP ⊢); exact hP
    exact .inr ⟨_, weak_eq rfl, K12 false h⟩
  ·refine w_sregW (w_abs (K := onW _) [(1, .slice (a1.map e_impl_Definition)), (3, .ubox (e_impl_Part a0)), (5, .ubox (e_impl_place a2)), (11, .bool false)] (fun P hP => ?_) ?_)
   ·simp only [V0.down, simprocAttr, zz17.down, b38]
    (try simp only [VN.down, simprocAttr, zz6.down, b38] at hP ⊢); exact hP
   exact .inr ⟨_, weak_eq rfl, K12 false h⟩

set_option maxHeartbeats 1400000 in
theorem ok_impl_bodyFault (a0 : List impl_Definition) (a1 : impl_Definition) (r : Int × Int) (h : impl_bodyFault a0 a1 = some r) : OkAt Cc 53 [.slice (a0.map e_impl_Definition), e_impl_Definition a1] (.tuple [.int .i64 r.1, .int .i64 r.2]) [] := by
 refine OkAt.of_wpR (fx := [0, 1]) Cc_ok [.tmp 4, .tmp 5] [(0, .slice (a0.map e_impl_Definition)), (1, e_impl_Definition a1)] Try.func53 rfl rfl s53 (Nat.le_of_ble_eq_true rfl) rfl rfl (fun Q0 r0 n0 => ?_)
 refine ws _ ?_
 refine w_seq (fun Q2 n2 q2 x2 => ?_)
 obtain ⟨x1, e4, h⟩ := bindE h
 rcases condE h with ⟨b5, h⟩ | ⟨b5, h⟩
 ·refine w_sdrw rfl (w_absd [(0, .slice (a0.map e_impl_Definition)), (3, .ubox (e_impl_Definition a1)), (22, .bool true)] (fun P hP => ?_) ?_)
  ·simp only [V1.down, simprocAttr, zz8.down, (bnT b5)]
   refine w_call1 (ok_impl_within (a1.Body.length : Int) 1 20 _ e4) rfl rfl rfl rfl (.inl (by rfl)) ?_
   simp only [V1.down, simprocAttr, zz8.down, (bnT b5)]
   refine ⟨okP_D (by kernel_rfl), ?_⟩
   (try simp only [VN.down, simprocAttr, zz0.down, (bnT b5)] at hP ⊢); exact hP
  refine w_ct rfl ?_
  refine ws _ ?_
  exact w_ret (q2 _ (r0 _ (.inl (w_fin [.int .i64 0, .int .i64 1] rfl (by cases someE h; rfl) (by decide) outs_nil))))
 ·obtain ⟨x2, e7, h⟩ := bindE h
  refine w_sdrw rfl (w_absd [(0, .slice (a0.map e_impl_Definition)), (3, .ubox (e_impl_Definition a1)), (22, .bool (x2 != (a1.Body.length : Int)))] (fun P hP => ?_) ?_)
  ·simp only [V1.down, simprocAttr, zz8.down, (bnF b5)]
   refine w_call1 (ok_impl_within (a1.Body.length : Int) 1 20 _ e4) rfl rfl rfl rfl (.inl (by rfl)) ?_
   simp only [V1.down, simprocAttr, zz8.down, (bnF b5)]
   refine w_callg1 (ok_impl_Definition_end a1 0 _ e7) rfl rfl rfl rfl (.inl (by rfl)) ?_
   simp only [V1.down, simprocAttr, zz8.down, (bnF b5)]
   refine ⟨okP_D (by kernel_rfl), ?_⟩
   (try simp only [VN.down, simprocAttr, zz0.down, (bnF b5)] at hP ⊢); exact hP
  rcases condE h with ⟨b8, h⟩ | ⟨b8, h⟩
  ·refine w_ct (congrArg AV.bool b8) ?_
   simp only [b8, Bool.not_true, Bool.not_false]
   refine ws _ ?_
   exact w_ret (q2 _ (r0 _ (.inl (w_fin [.int .i64 0, .int .i64 1] rfl (by cases someE h; rfl) (by decide) outs_nil))))
  ·refine w_cf (congrArg AV.bool b8) ?_
   simp only [b8, Bool.not_true, Bool.not_false]
   refine w_skip (n2 _ (.inl ?_))
   obtain ⟨x3, e11, h⟩ := bindE h
   refine wsc (ok_impl_Definition_places a1 _ e11) _ ?_
   refine w_seq (fun Q12 n12 q12 x12 => ?_)
   refine ws _ ?_
   refine w_blk (fun Q14 n14 q14 b14 x14 => ?_)
   have L16 : ∀ (n : Nat) (v28_16 : Int), impl_bodyFault_l16 a0 a1 x3 n v28_16 = some r → lpC Cc c53_17 Q14 (stA [(0, .slice (a0.map e_impl_Definition)), (6, .uslice 2 (x3.map e_impl_place)), (26, .slice (a1.Body.map e_impl_Part)), (27, .int .i64 (a1.Body.length : Int)), (28, .int .i64 v28_16)]) := by
    intro m16
    induction m16 with
    | zero => intro v28_16 h; cases (show none = some r from h)
    | succ m16 ih16 =>
     intro v28_16 h
     replace h : impl_bodyFault_b16 (impl_bodyFault_l16 a0 a1 x3 m16) a0 a1 x3 v28_16 = some r := h
     refine lpC_step (fun Q15 n15 q15 x15 => ?_)
     refine ws _ ?_
     refine w_seq (fun Q17 n17 q17 x17 => ?_)
     rcases condE h with ⟨b18, h⟩ | ⟨b18, h⟩
     ·refine w_ct (congrArg AV.bool b18) ?_
      simp only [b18, Bool.not_true, Bool.not_false]
      refine w_skip (n17 _ (.inl ?_))
      refine w_seq (fun Q19 n19 q19 x19 => ?_)
      refine w_blk (fun Q20 n20 q20 b20 x20 => ?_)
      obtain ⟨x4, e22, h⟩ := bindE h
      refine wsf e22 _ ?_
      obtain ⟨x5, e24, h⟩ := bindE h
      obtain ⟨x6, e25, h⟩ := bindE h
      refine w_sdrw rfl (w_absd [(0, .slice (a0.map e_impl_Definition)), (6, .uslice 2 (x3.map e_impl_place)), (7, .int .i64 v28_16), (9, .int .i64 x6), (26, .slice (a1.Body.map e_impl_Part)), (27, .int .i64 (a1.Body.length : Int)), (28, .int .i64 v28_16)] (fun P hP => ?_) ?_)
      ·simp only [V1.down, simprocAttr, tt2, tt4, tt9, tt53, tt55, tt87, tt110, tt114, tt123, e_impl_Definition, e_impl_Part, e_impl_Term, e_impl_place, e_s_impl_Term, e24, getI_get e24]
       refine w_call1 (ok_impl_Part_reason x4 a0 x5 _ e25) rfl rfl rfl rfl (.inl (by rfl)) ?_
       simp only [V1.down, simprocAttr, tt2, tt4, tt9, tt53, tt55, tt87, tt110, tt114, tt123, e_impl_Definition, e_impl_Part, e_impl_Term, e_impl_place, e_s_impl_Term, e24, getI_get e24]
       refine ⟨okP_D (by kernel_rfl), ?_⟩
       (try simp only [VN.down, simprocAttr, zz6.down, e24, getI_get e24] at hP ⊢); exact hP
      refine ws _ ?_
      rcases condE h with ⟨b27, h⟩ | ⟨b27, h⟩
      ·refine w_ct (congrArg AV.bool b27) ?_
       simp only [b27, Bool.not_true, Bool.not_false]
       refine ws _ ?_
       exact w_ret (q20 _ (q19 _ (q15 _ (q14 _ (q12 _ (r0 _ (.inl (w_fin [.int .i64 v28_16, .int .i64 x6] rfl (by cases someE h; rfl) (by decide) outs_nil))))))))
      ·refine w_cf (congrArg AV.bool b27) ?_
       simp only [b27, Bool.not_true, Bool.not_false]
       refine w_skip (n20 _ (n19 _ (.inl ?_)))
       refine wr _ ?_
       exact n15 _ (.inr ⟨_, weak_eq rfl, ih16 (IntKind.i64.wrap (v28_16 + 1)) h⟩)
     ·refine w_cf (congrArg AV.bool b18) ?_
      simp only [b18, Bool.not_true, Bool.not_false]
      refine w_ex (x17 0 _ (x15 0 _ (b14 _ (n12 _ (.inl ?_)))))
      refine ws _ ?_
      exact w_ret (r0 _ (.inl (w_fin [.int .i64 0, .int .i64 0] rfl (by cases someE h; rfl) (by decide) outs_nil)))
   obtain ⟨n, h⟩ := limE h
   exact w_loop (.inr ⟨_, weak_eq rfl, L16 n 0 h⟩)

set_option maxHeartbeats 1200000 in
theorem ok_impl_ValidDefinitions (a0 : List impl_Definition) (r : Bool) (h : impl_ValidDefinitions a0 = some r) : OkAt Cc 36 [.slice (a0.map e_impl_Definition)] (.bool r) [] := by
 refine OkAt.of_wpR (fx := [0]) Cc_ok [.tmp 2] [(0, .slice (a0.map e_impl_Definition))] Try.func36 rfl rfl s36 (Nat.le_of_ble_eq_true rfl) rfl rfl (fun Q0 r0 n0 => ?_)
 refine ws _ ?_
 refine w_seq (fun Q2 n2 q2 x2 => ?_)
 obtain ⟨x1, e4, h⟩ := bindE h
 rcases condE h with ⟨b5, h⟩ | ⟨b5, h⟩
 ·refine wscf (bnT b5) (ok_impl_within (a0.length : Int) 1 4 _ e4) _ ?_
  refine w_ct rfl ?_
  refine ws _ ?_
  exact w_ret (q2 _ (r0 _ (.inl (w_fin [.bool false] rfl (by cases someE h; rfl) (by decide) outs_nil))))
 ·obtain ⟨x2, e7, h⟩ := bindE h
  refine w_sreg (w_abs [(0, .slice (a0.map e_impl_Definition)), (15, .bool (!x2))] (fun P hP => ?_) ?_)
  ·simp only [V0.down, simprocAttr, zz1.down, (bnF b5)]
   refine w_call0 (ok_impl_within (a0.length : Int) 1 4 _ e4) rfl rfl rfl rfl (.inl (by rfl)) ?_
   simp only [V0.down, simprocAttr, zz1.down, (bnF b5)]
   refine w_callg0 (ok_impl_parametersOk a0 _ e7) rfl rfl rfl rfl (.inl (by rfl)) ?_
   simp only [V0.down, simprocAttr, zz1.down, (bnF b5)]
   (try simp only [VN.down, simprocAttr, zz0.down, (bnF b5)] at hP ⊢); exact hP
  rcases condE h with ⟨b8, h⟩ | ⟨b8, h⟩
  ·refine w_ct (congrArg AV.bool b8) ?_
   simp only [(bnT b8), Bool.not_true, Bool.not_false]
   refine ws _ ?_
   exact w_ret (q2 _ (r0 _ (.inl (w_fin [.bool false] rfl (by cases someE h; rfl) (by decide) outs_nil))))
  ·refine w_cf (congrArg AV.bool b8) ?_
   simp only [(bnF b8), Bool.not_true, Bool.not_false]
   refine w_skip (n2 _ (.inl ?_))
   refine w_seq (fun Q10 n10 q10 x10 => ?_)
   refine ws _ ?_
   refine w_blk (fun Q12 n12 q12 b12 x12 => ?_)
   have L14 : ∀ (n : Nat) (v18_14 : Int), impl_ValidDefinitions_l14 a0 n v18_14 = some r → lpC Cc c36_15 Q12 (stA [(0, .slice (a0.map e_impl_Definition)), (16, .slice (a0.map e_impl_Definition)), (17, .int .i64 (a0.length : Int)), (18, .int .i64 v18_14)]) := by
    intro m14
    induction m14 with
    | zero => intro v18_14 h; cases (show none = some r from h)
    | succ m14 ih14 =>
     intro v18_14 h
     replace h : impl_ValidDefinitions_b14 (impl_ValidDefinitions_l14 a0 m14) a0 v18_14 = some r := h
     refine lpC_step (fun Q13 n13 q13 x13 => ?_)
     refine ws _ ?_
     refine w_seq (fun Q15 n15 q15 x15 => ?_)
     rcases condE h with ⟨b16, h⟩ | ⟨b16, h⟩
     ·refine w_ct (congrArg AV.bool b16) ?_
      simp only [b16, Bool.not_true, Bool.not_false]
      refine w_skip (n15 _ (.inl ?_))
      refine w_seq (fun Q17 n17 q17 x17 => ?_)
      refine w_blk (fun Q18 n18 q18 b18 x18 => ?_)
      obtain ⟨x3, e20, h⟩ := bindE h
      refine wsf e20 _ ?_
      refine w_seq (fun Q21 n21 q21 x21 => ?_)
      obtain ⟨x4, e23, h⟩ := bindE h
      rcases condE h with ⟨b24, h⟩ | ⟨b24, h⟩
      ·refine w_sdrw rfl (w_absd [(0, .slice (a0.map e_impl_Definition)), (4, .ubox (e_impl_Definition x3)), (16, .slice (a0.map e_impl_Definition)), (17, .int .i64 (a0.length : Int)), (18, .int .i64 v18_14), (35, .bool true)] (fun P hP => ?_) ?_)
       ·simp only [V1.down, simprocAttr, zz1.down, (bnT b24)]
        refine w_call1 (ok_impl_IsName x3.Name _ e23) rfl rfl rfl rfl (.inl (by rfl)) ?_
        simp only [V1.down, simprocAttr, zz1.down, (bnT b24)]
        refine ⟨okP_D (by kernel_rfl), ?_⟩
        (try simp only [VN.down, simprocAttr, zz0.down, (bnT b24)] at hP ⊢); exact hP
       refine w_ct rfl ?_
       refine ws _ ?_
       exact w_ret (q21 _ (q18 _ (q17 _ (q13 _ (q12 _ (q10 _ (r0 _ (.inl (w_fin [.bool false] rfl (by cases someE h; rfl) (by decide) outs_nil)))))))))
      ·obtain ⟨x5, e26, h⟩ := bindE h
       obtain ⟨x6, e27, h⟩ := bindE h
       refine w_sdrw rfl (w_absd [(0, .slice (a0.map e_impl_Definition)), (4, .ubox (e_impl_Definition x3)), (16, .slice (a0.map e_impl_Definition)), (17, .int .i64 (a0.length : Int)), (18, .int .i64 v18_14), (35, .bool (decide (0 ≤ x6)))] (fun P hP => ?_) ?_)
       ·simp only [V1.down, simprocAttr, zz1.down, (bnF b24), e26, @all_wd' _ e_impl_Definition 3 (fun _ => rfl)]
        refine w_call1 (ok_impl_IsName x3.Name _ e23) rfl rfl rfl rfl (.inl (by rfl)) ?_
        simp only [V1.down, simprocAttr, zz1.down, (bnF b24), e26, @all_wd' _ e_impl_Definition 3 (fun _ => rfl)]
        refine w_callg1 (ok_impl_definitionNamed x5 x3.Name _ e27) rfl rfl rfl rfl (.inl (by rfl)) ?_
        simp only [V1.down, simprocAttr, zz1.down, (bnF b24), e26, @all_wd' _ e_impl_Definition 3 (fun _ => rfl)]
        refine ⟨okP_D (by kernel_rfl), ?_⟩
        (try simp only [VN.down, simprocAttr, zz0.down, (bnF b24), e26, @all_wd' _ e_impl_Definition 3 (fun _ => rfl)] at hP ⊢); exact hP
       rcases condE h with ⟨b28, h⟩ | ⟨b28, h⟩
       ·refine w_ct (congrArg AV.bool b28) ?_
        simp only [b28, Bool.not_true, Bool.not_false]
        refine ws _ ?_
        exact w_ret (q21 _ (q18 _ (q17 _ (q13 _ (q12 _ (q10 _ (r0 _ (.inl (w_fin [.bool false] rfl (by cases someE h; rfl) (by decide) outs_nil)))))))))
       ·refine w_cf (congrArg AV.bool b28) ?_
        simp only [b28, Bool.not_true, Bool.not_false]
        refine w_skip (n21 _ (.inl ?_))
        obtain ⟨x7, e31, h⟩ := bindE h
        refine wsc (ok_impl_bodyFault a0 x3 _ e31) _ ?_
        refine ws _ ?_
        rcases condE h with ⟨b33, h⟩ | ⟨b33, h⟩
        ·refine w_ct (congrArg AV.bool b33) ?_
         simp only [b33, Bool.not_true, Bool.not_false]
         refine ws _ ?_
         exact w_ret (q18 _ (q17 _ (q13 _ (q12 _ (q10 _ (r0 _ (.inl (w_fin [.bool false] rfl (by cases someE h; rfl) (by decide) outs_nil))))))))
        ·refine w_cf (congrArg AV.bool b33) ?_
         simp only [b33, Bool.not_true, Bool.not_false]
         refine w_skip (n18 _ (n17 _ (.inl ?_)))
         refine wr _ ?_
         exact n13 _ (.inr ⟨_, weak_eq rfl, ih14 (IntKind.i64.wrap (v18_14 + 1)) h⟩)
     ·refine w_cf (congrArg AV.bool b16) ?_
      simp only [b16, Bool.not_true, Bool.not_false]
      refine w_ex (x15 0 _ (x13 0 _ (b12 _ (n10 _ (.inl ?_)))))
      refine ws _ ?_
      exact w_ret (r0 _ (.inl (w_fin [.bool true] rfl (by cases someE h; rfl) (by decide) outs_nil)))
   obtain ⟨n, h⟩ := limE h
   exact w_loop (.inr ⟨_, weak_eq rfl, L14 n 0 h⟩)

theorem ok_impl_partCode (a0 : List impl_Definition) (a1 : Int) (a2 : Int) (r : Int) (h : impl_partCode a0 a1 a2 = some r) : OkAt Cc 23 [.slice (a0.map e_impl_Definition), .int .i64 a1, .int .i64 a2] (.int .i64 r) [] := by
 refine OkAt.of_wpR (fx := [0, 1, 2]) Cc_ok [.tmp 6] [(0, .slice (a0.map e_impl_Definition)), (1, .int .i64 a1), (2, .int .i64 a2)] Try.func23 rfl rfl s23 (Nat.le_of_ble_eq_true rfl) rfl rfl (fun Q0 r0 n0 => ?_)
 refine ws _ ?_
 refine w_seq (fun Q2 n2 q2 x2 => ?_)
 refine w_blk (fun Q3 n3 q3 b3 x3 => ?_)
 obtain ⟨x1, e5, h⟩ := bindE h
 refine wsc (ok_impl_ValidDefinitions a0 _ e5) _ ?_
 rcases condE h with ⟨b6, h⟩ | ⟨b6, h⟩
 ·refine w_ct (congrArg AV.bool b6) ?_
  simp only [(bnT b6), Bool.not_true, Bool.not_false]
  refine ws _ ?_
  exact w_ret (q3 _ (q2 _ (r0 _ (.inl (w_fin [.int .i64 1] rfl (by cases someE h; rfl) (by decide) outs_nil)))))
 ·refine w_cf (congrArg AV.bool b6) ?_
  simp only [(bnF b6), Bool.not_true, Bool.not_false]
  obtain ⟨x2, e9, h⟩ := bindE h
  rcases condE h with ⟨b10, h⟩ | ⟨b10, h⟩
  ·refine wscf (bnT b10) (ok_impl_index a1 (a0.length : Int) _ e9) _ ?_
   refine w_ct rfl ?_
   refine ws _ ?_
   exact w_ret (q3 _ (q2 _ (r0 _ (.inl (w_fin [.int .i64 2] rfl (by cases someE h; rfl) (by decide) outs_nil)))))
  ·obtain ⟨x3, e12, h⟩ := bindE h
   obtain ⟨x4, e13, h⟩ := bindE h
   refine w_sreg (w_abs [(11, .bool (!x4))] (fun P hP => ?_) ?_)
   ·simp only [V0.down, simprocAttr, zz1.down, (bnF b10), e12]
    refine w_call0 (ok_impl_index a1 (a0.length : Int) _ e9) rfl rfl rfl rfl (.inl (by rfl)) ?_
    simp only [V0.down, simprocAttr, zz1.down, (bnF b10), e12]
    refine w_callg0 (ok_impl_index a2 (x3.Body.length : Int) _ e13) rfl rfl rfl rfl (.inl (by rfl)) ?_
    simp only [V0.down, simprocAttr, zz1.down, (bnF b10), e12]
    (try simp only [VN.down, simprocAttr, zz0.down, (bnF b10), e12] at hP ⊢); exact hP
   rcases condE h with ⟨b14, h⟩ | ⟨b14, h⟩
   ·refine w_ct (congrArg AV.bool b14) ?_
    simp only [(bnT b14), Bool.not_true, Bool.not_false]
    refine ws _ ?_
    exact w_ret (q3 _ (q2 _ (r0 _ (.inl (w_fin [.int .i64 2] rfl (by cases someE h; rfl) (by decide) outs_nil)))))
   ·refine w_cf (congrArg AV.bool b14) ?_
    simp only [(bnF b14), Bool.not_true, Bool.not_false]
    refine w_skip (n3 _ (n2 _ (.inl ?_)))
    refine ws _ ?_
    exact w_ret (r0 _ (.inl (w_fin [.int .i64 0] rfl (by cases someE h; rfl) (by decide) outs_nil)))

theorem ok_slices_Sort_int64_int64 (a0 r : List Int) (h : slices_Sort_int64_int64 a0 = some r) : OkAt Cc 38 [.uslice 1 (a0.map e_i64)] (.tuple []) [.uslice 1 (r.map e_i64)] := sl_Sort_int64 a0 r h

theorem ok_slices_Compact_int64_int64 (a0 r : List Int) (h : slices_Compact_int64_int64 a0 = some r) : OkAt Cc 39 [.uslice 1 (a0.map e_i64)] (.uslice 1 (r.map e_i64)) [.hole] := sl_Compact_int64 a0 r h

theorem ok_impl_Definition_calls (a0 : impl_Definition) (r : (List Int)) (h : impl_Definition_calls a0 = some r) : OkAt Cc 24 [e_impl_Definition a0] (.uslice 1 (r.map e_i64)) [] := by
 refine OkAt.of_wpR (fx := [0]) Cc_ok [.tmp 2] [(0, e_impl_Definition a0)] Try.func24 rfl rfl s24 (Nat.le_of_ble_eq_true rfl) rfl rfl (fun Q0 r0 n0 => ?_)
 refine ws _ ?_
 refine ws _ ?_
 refine w_seq (fun Q3 n3 q3 x3 => ?_)
 refine ws _ ?_
 refine w_blk (fun Q5 n5 q5 b5 x5 => ?_)
 have L8 : ∀ (n : Nat) (v3_8 : List Int) (v9_8 : Int), impl_Definition_calls_l8 a0 n v3_8 v9_8 = some r → lpC Cc c24_9 Q5 (stA [(3, .uslice 1 (v3_8.map e_i64)), (7, .slice (a0.Body.map e_impl_Part)), (8, .int .i64 (a0.Body.length : Int)), (9, .int .i64 v9_8)]) := by
  intro m8
  induction m8 with
  | zero => intro v3_8 v9_8 h; cases (show none = some r from h)
  | succ m8 ih8 =>
   intro v3_8 v9_8 h
   replace h : impl_Definition_calls_b8 (impl_Definition_calls_l8 a0 m8) a0 v3_8 v9_8 = some r := h
   refine lpC_step (fun Q6 n6 q6 x6 => ?_)
   refine ws _ ?_
   refine w_seq (fun Q8 n8 q8 x8 => ?_)
   rcases condE h with ⟨b9, h⟩ | ⟨b9, h⟩
   ·refine w_ct (congrArg AV.bool b9) ?_
    simp only [b9, Bool.not_true, Bool.not_false]
    refine w_skip (n8 _ (.inl ?_))
    have K24 : ∀ (v3_24 : List Int) (v9_24 : Int), impl_Definition_calls_k24 (impl_Definition_calls_l8 a0 m8) a0 v3_24 v9_24 = some r → wpC Cc c24_24 Q6 (stA [(3, .uslice 1 (v3_24.map e_i64)), (7, .slice (a0.Body.map e_impl_Part)), (8, .int .i64 (a0.Body.length : Int)), (9, .int .i64 v9_24)]) := by
     intro v3_24 v9_24 h
     refine wr _ ?_
     exact n6 _ (.inr ⟨_, weak_eq rfl, ih8 v3_24 (IntKind.i64.wrap (v9_24 + 1)) h⟩)
    refine w_seq (fun Q10 n10 q10 x10 => ?_)
    refine w_blk (fun Q12 n12 q12 b12 x12 => ?_)
    obtain ⟨x1, e14, h⟩ := bindE h
    refine wsf e14 _ ?_
    refine ws _ ?_
    rcases condE h with ⟨b16, h⟩ | ⟨b16, h⟩
    ·refine w_ct (congrArg AV.bool b16) ?_
     simp only [b16, Bool.not_true, Bool.not_false]
     obtain ⟨u18, e18, h⟩ := bindE h
     (try simp only [List.length_append, List.length_cons, List.length_nil, List.length_map, List.length_replicate, Nat.zero_add, Nat.add_zero, Nat.reduceAdd] at e18)
     refine w_reg (w_abs [(3, .uslice 1 ((v3_8 ++ [x1.Number]).map e_i64)), (7, .slice (a0.Body.map e_impl_Part)), (8, .int .i64 (a0.Body.length : Int)), (9, .int .i64 v9_8)] (fun P hP => ?_) ?_)
     ·simp only [V0.down, simprocAttr, tt2, tt9, tt24, tt53, tt55, tt87, tt123, e_i64, e_impl_Part, e_impl_Term, e_s_impl_Term, (show ∀ s, bsl Cc s 24 1 [(0, .int .i64 x1.Number)] = some (.uslice 1 [.int .i64 x1.Number], s) from fun s => by kernel_rfl), @apd_s Cc 24 24 2 rfl rfl, ap_s, ap2_s, ap3_s, all_cons, all_nil, e18, @all_wd' _ e_i64 1 (fun _ => rfl)]
      (try simp only [VN.down, simprocAttr, zz11.down, (show ∀ s, bsl Cc s 24 1 [(0, .int .i64 x1.Number)] = some (.uslice 1 [.int .i64 x1.Number], s) from fun s => by kernel_rfl), @apd_s Cc 24 24 2 rfl rfl, ap_s, ap2_s, ap3_s, all_cons, all_nil, e18, @all_wd' _ e_i64 1 (fun _ => rfl)] at hP ⊢); exact hP
     exact n12 _ (n10 _ (.inr ⟨_, weak_eq rfl, K24 (v3_8 ++ [x1.Number]) v9_8 h⟩))
    ·refine w_cf (congrArg AV.bool b16) ?_
     simp only [b16, Bool.not_true, Bool.not_false]
     exact w_skip (n12 _ (n10 _ (.inr ⟨_, weak_eq rfl, K24 v3_8 v9_8 h⟩)))
   ·refine w_cf (congrArg AV.bool b9) ?_
    simp only [b9, Bool.not_true, Bool.not_false]
    refine w_ex (x8 0 _ (x6 0 _ (b5 _ (n3 _ (.inl ?_)))))
    obtain ⟨x2, e20, h⟩ := bindE h
    refine w_sreg (w_abs [(3, .uslice 1 (x2.map e_i64))] (fun P hP => ?_) ?_)
    ·simp only [V0.down, simprocAttr, zz11.down]
     refine w_callp0 [⟨.h 3 [], true, _, _⟩] (ok_slices_Sort_int64_int64 v3_8 _ e20) rfl rfl rfl (by simp only [V0.down, simprocAttr, zz11.down, c_nrm, okp_s, own_r, view_s, view_h, viewH_s, share_s, or_true, true_or, @shares_map _ e_i64 e_i64 (fun _ => sh_e_i64 _)]) rfl rfl (.inl rfl) ?_
     simp only [V0.down, simprocAttr, zz11.down, gv_s]
     (try simp only [VN.down, simprocAttr, zz11.down] at hP ⊢); exact hP
    obtain ⟨x3, e22, h⟩ := bindE h
    refine w_sreg (w_abs [(2, .uslice 1 (x3.map e_i64))] (fun P hP => ?_) ?_)
    ·simp only [V0.down, simprocAttr, e_i64]
     refine w_callp0 [⟨.h 3 [], true, _, .hole⟩] (ok_slices_Compact_int64_int64 x2 _ e22) rfl rfl rfl (by simp only [V0.down, simprocAttr, e_i64, c_nrm, okp_s, own_r, view_s, view_h, viewH_s, share_s, or_true, true_or, @shares_map _ e_i64 e_i64 (fun _ => sh_e_i64 _)]) rfl rfl (.inl rfl) ?_
     simp only [V0.down, simprocAttr, e_i64, gv_s]
     (try simp only [VN.down, simprocAttr, e_i64] at hP ⊢); exact hP
    exact w_ret (r0 _ (.inl (w_fin [.uslice 1 (x3.map e_i64)] rfl (by cases someE h; rfl) (by decide) outs_nil)))
 obtain ⟨n, h⟩ := limE h
 exact w_loop (.inr ⟨_, weak_mix [] rfl (wk_wd (t := 3) (d := .nils) (d' := .uslice 1 []) rfl rfl (.nilsU _) (by decide) (wk_eq (t := 7) (d := .slice (a0.Body.map e_impl_Part)) rfl (wk_eq (t := 8) (d := .int .i64 (a0.Body.length : Int)) rfl (wk_eq (t := 9) (d := .int .i64 0) rfl (wk_nil))))), L8 n [] 0 h⟩)

theorem ok_impl_CallsOf (a0 : List impl_Definition) (a1 : Int) (r : (List Int) × Int) (h : impl_CallsOf a0 a1 = some r) : OkAt Cc 8 [.slice (a0.map e_impl_Definition), .int .i64 a1] (.tuple [.uslice 1 (r.1.map e_i64), .int .i64 r.2]) [] := by
 refine OkAt.of_wpR (fx := [0, 1]) Cc_ok [.tmp 4, .tmp 5] [(0, .slice (a0.map e_impl_Definition)), (1, .int .i64 a1)] Try.func8 rfl rfl s8 (Nat.le_of_ble_eq_true rfl) rfl rfl (fun Q0 r0 n0 => ?_)
 refine ws _ ?_
 refine w_seq (fun Q2 n2 q2 x2 => ?_)
 obtain ⟨x1, e4, h⟩ := bindE h
 refine wsc (ok_impl_partCode a0 a1 0 _ e4) _ ?_
 refine ws _ ?_
 rcases condE h with ⟨b6, h⟩ | ⟨b6, h⟩
 ·refine w_ct (congrArg AV.bool b6) ?_
  simp only [b6, Bool.not_true, Bool.not_false]
  refine ws _ ?_
  exact w_ret (q2 _ (r0 _ (.inr ⟨[(4, .uslice 1 []), (5, .int .i64 x1)], weak_mix [] rfl (wk_wd (t := 4) (d := .nils) rfl rfl (.nilsU _) (by decide) (wk_eq rfl (wk_nil))), w_fin [.uslice 1 [], .int .i64 x1] rfl (by cases someE h; rfl) (by decide) outs_nil⟩)))
 ·refine w_cf (congrArg AV.bool b6) ?_
  simp only [b6, Bool.not_true, Bool.not_false]
  refine w_skip (n2 _ (.inl ?_))
  obtain ⟨x2, e9, h⟩ := bindE h
  obtain ⟨x3, e10, h⟩ := bindE h
  refine wscf e9 (ok_impl_Definition_calls x2 _ e10) _ ?_
  exact w_ret (r0 _ (.inl (w_fin [.uslice 1 (x3.map e_i64), .int .i64 0] rfl (by cases someE h; rfl) (by decide) outs_nil)))

set_option maxHeartbeats 800000 in
theorem ok_laws_eqInt64S (a0 : List Int) (a1 : List Int) (r : Bool) (h : laws_eqInt64S a0 a1 = some r) : OkAt Cc 9 [.slice (a0.map e_i64), .slice (a1.map e_i64)] (.bool r) [] := by
 refine OkAt.of_wpR (fx := [0, 1]) Cc_ok [.tmp 4] [(0, .slice (a0.map e_i64)), (1, .slice (a1.map e_i64))] Try.func9 rfl rfl s9 (Nat.le_of_ble_eq_true rfl) rfl rfl (fun Q0 r0 n0 => ?_)
 refine ws _ ?_
 refine w_seq (fun Q2 n2 q2 x2 => ?_)
 refine ws _ ?_
 rcases condE h with ⟨b4, h⟩ | ⟨b4, h⟩
 ·refine w_ct (congrArg AV.bool b4) ?_
  simp only [b4, Bool.not_true, Bool.not_false]
  refine ws _ ?_
  exact w_ret (q2 _ (r0 _ (.inl (w_fin [.bool false] rfl (by cases someE h; rfl) (by decide) outs_nil))))
 ·refine w_cf (congrArg AV.bool b4) ?_
  simp only [b4, Bool.not_true, Bool.not_false]
  refine w_skip (n2 _ (.inl ?_))
  refine w_seq (fun Q6 n6 q6 x6 => ?_)
  refine ws _ ?_
  refine w_blk (fun Q8 n8 q8 b8 x8 => ?_)
  have L14 : ∀ (n : Nat) (v5_14 : Int), laws_eqInt64S_l14 a0 a1 n v5_14 = some r → lpC Cc c9_15 Q8 (stA [(0, .slice (a0.map e_i64)), (1, .slice (a1.map e_i64)), (5, .int .i64 v5_14)]) := by
   intro m14
   induction m14 with
   | zero => intro v5_14 h; cases (show none = some r from h)
   | succ m14 ih14 =>
    intro v5_14 h
    replace h : laws_eqInt64S_b14 (laws_eqInt64S_l14 a0 a1 m14) a0 a1 v5_14 = some r := h
    refine lpC_step (fun Q9 n9 q9 x9 => ?_)
    refine w_seq (fun Q10 n10 q10 x10 => ?_)
    refine ws _ ?_
    rcases condE h with ⟨b12, h⟩ | ⟨b12, h⟩
    ·refine w_ct (congrArg AV.bool b12) ?_
     simp only [b12, Bool.not_true, Bool.not_false]
     refine w_skip (n10 _ (.inl ?_))
     refine w_seq (fun Q13 n13 q13 x13 => ?_)
     refine w_blk (fun Q14 n14 q14 b14 x14 => ?_)
     obtain ⟨x1, e16, h⟩ := bindE h
     obtain ⟨x2, e17, h⟩ := bindE h
     refine w_sdrw rfl (w_absd [(0, .slice (a0.map e_i64)), (1, .slice (a1.map e_i64)), (5, .int .i64 v5_14), (25, .bool (x1 != x2))] (fun P hP => ?_) ?_)
     ·simp only [V1.down, simprocAttr, tt2, tt24, e_i64, e16, e17]
      refine ⟨okP_D (by kernel_rfl), ?_⟩
      (try simp only [VN.down, simprocAttr, e_i64, e16, e17] at hP ⊢); exact hP
     rcases condE h with ⟨b18, h⟩ | ⟨b18, h⟩
     ·refine w_ct (congrArg AV.bool b18) ?_
      simp only [b18, Bool.not_true, Bool.not_false]
      refine ws _ ?_
      exact w_ret (q14 _ (q13 _ (q9 _ (q8 _ (q6 _ (r0 _ (.inl (w_fin [.bool false] rfl (by cases someE h; rfl) (by decide) outs_nil))))))))
     ·refine w_cf (congrArg AV.bool b18) ?_
      simp only [b18, Bool.not_true, Bool.not_false]
      refine w_skip (n14 _ (n13 _ (.inl ?_)))
      refine wr _ ?_
      exact n9 _ (.inr ⟨_, weak_eq rfl, ih14 (IntKind.i64.wrap (v5_14 + 1)) h⟩)
    ·refine w_cf (congrArg AV.bool b12) ?_
     simp only [b12, Bool.not_true, Bool.not_false]
     refine w_ex (x10 0 _ (x9 0 _ (b8 _ (n6 _ (.inl ?_)))))
     refine ws _ ?_
     exact w_ret (r0 _ (.inl (w_fin [.bool true] rfl (by cases someE h; rfl) (by decide) outs_nil)))
  obtain ⟨n, h⟩ := limE h
  exact w_loop (.inr ⟨_, weak_eq rfl, L14 n 0 h⟩)

theorem ok_laws_eqTerm (a0 : impl_Term) (a1 : impl_Term) (r : Bool) (h : laws_eqTerm a0 a1 = some r) : OkAt Cc 126 [e_impl_Term a0, e_impl_Term a1] (.bool r) [] := by
 refine OkAt.of_wpR (fx := [0, 1]) Cc_ok [.tmp 4] [(0, e_impl_Term a0), (1, e_impl_Term a1)] Try.func126 rfl rfl s126 (Nat.le_of_ble_eq_true rfl) rfl rfl (fun Q0 r0 n0 => ?_)
 refine ws _ ?_
 refine w_seq (fun Q2 n2 q2 x2 => ?_)
 refine ws _ ?_
 rcases condE h with ⟨b4, h⟩ | ⟨b4, h⟩
 ·refine w_ct (congrArg AV.bool b4) ?_
  simp only [b4, Bool.not_true, Bool.not_false]
  refine ws _ ?_
  exact w_ret (q2 _ (r0 _ (.inl (w_fin [.bool false] rfl (by cases someE h; rfl) (by decide) outs_nil))))
 ·refine w_cf (congrArg AV.bool b4) ?_
  simp only [b4, Bool.not_true, Bool.not_false]
  refine w_skip (n2 _ (.inl ?_))
  refine w_seq (fun Q6 n6 q6 x6 => ?_)
  refine ws _ ?_
  rcases condE h with ⟨b8, h⟩ | ⟨b8, h⟩
  ·refine w_ct (congrArg AV.bool b8) ?_
   simp only [b8, Bool.not_true, Bool.not_false]
   refine ws _ ?_
   exact w_ret (q6 _ (r0 _ (.inl (w_fin [.bool false] rfl (by cases someE h; rfl) (by decide) outs_nil))))
  ·refine w_cf (congrArg AV.bool b8) ?_
   simp only [b8, Bool.not_true, Bool.not_false]
   refine w_skip (n6 _ (.inl ?_))
   refine ws _ ?_
   exact w_ret (r0 _ (.inl (w_fin [.bool true] rfl (by cases someE h; rfl) (by decide) outs_nil)))

set_option maxHeartbeats 800000 in
theorem ok_laws_eqTermS (a0 : List impl_Term) (a1 : List impl_Term) (r : Bool) (h : laws_eqTermS a0 a1 = some r) : OkAt Cc 116 [.slice (a0.map e_impl_Term), .slice (a1.map e_impl_Term)] (.bool r) [] := by
 refine OkAt.of_wpR (fx := [0, 1]) Cc_ok [.tmp 4] [(0, .slice (a0.map e_impl_Term)), (1, .slice (a1.map e_impl_Term))] Try.func116 rfl rfl s116 (Nat.le_of_ble_eq_true rfl) rfl rfl (fun Q0 r0 n0 => ?_)
 refine ws _ ?_
 refine w_seq (fun Q2 n2 q2 x2 => ?_)
 refine ws _ ?_
 rcases condE h with ⟨b4, h⟩ | ⟨b4, h⟩
 ·refine w_ct (congrArg AV.bool b4) ?_
  simp only [b4, Bool.not_true, Bool.not_false]
  refine ws _ ?_
  exact w_ret (q2 _ (r0 _ (.inl (w_fin [.bool false] rfl (by cases someE h; rfl) (by decide) outs_nil))))
 ·refine w_cf (congrArg AV.bool b4) ?_
  simp only [b4, Bool.not_true, Bool.not_false]
  refine w_skip (n2 _ (.inl ?_))
  refine w_seq (fun Q6 n6 q6 x6 => ?_)
  refine ws _ ?_
  refine w_blk (fun Q8 n8 q8 b8 x8 => ?_)
  have L14 : ∀ (n : Nat) (v5_14 : Int), laws_eqTermS_l14 a0 a1 n v5_14 = some r → lpC Cc c116_15 Q8 (stA [(0, .slice (a0.map e_impl_Term)), (1, .slice (a1.map e_impl_Term)), (5, .int .i64 v5_14)]) := by
   intro m14
   induction m14 with
   | zero => intro v5_14 h; cases (show none = some r from h)
   | succ m14 ih14 =>
    intro v5_14 h
    replace h : laws_eqTermS_b14 (laws_eqTermS_l14 a0 a1 m14) a0 a1 v5_14 = some r := h
    refine lpC_step (fun Q9 n9 q9 x9 => ?_)
    refine w_seq (fun Q10 n10 q10 x10 => ?_)
    refine ws _ ?_
    rcases condE h with ⟨b12, h⟩ | ⟨b12, h⟩
    ·refine w_ct (congrArg AV.bool b12) ?_
     simp only [b12, Bool.not_true, Bool.not_false]
     refine w_skip (n10 _ (.inl ?_))
     refine w_seq (fun Q13 n13 q13 x13 => ?_)
     refine w_blk (fun Q14 n14 q14 b14 x14 => ?_)
     obtain ⟨x1, e16, h⟩ := bindE h
     obtain ⟨x2, e17, h⟩ := bindE h
     obtain ⟨x3, e18, h⟩ := bindE h
     refine w_sdrw rfl (w_absd [(0, .slice (a0.map e_impl_Term)), (1, .slice (a1.map e_impl_Term)), (5, .int .i64 v5_14), (26, .bool (!x3))] (fun P hP => ?_) ?_)
     ·simp only [V1.down, simprocAttr, zz5.down, e16, e17]
      refine w_call1 (ok_laws_eqTerm x1 x2 _ e18) rfl rfl rfl rfl (.inl (by rfl)) ?_
      simp only [V1.down, simprocAttr, zz5.down, e16, e17]
      refine ⟨okP_D (by kernel_rfl), ?_⟩
      (try simp only [VN.down, simprocAttr, e_impl_Term, e16, e17] at hP ⊢); exact hP
     rcases condE h with ⟨b19, h⟩ | ⟨b19, h⟩
     ·refine w_ct (congrArg AV.bool b19) ?_
      simp only [(bnT b19), Bool.not_true, Bool.not_false]
      refine ws _ ?_
      exact w_ret (q14 _ (q13 _ (q9 _ (q8 _ (q6 _ (r0 _ (.inl (w_fin [.bool false] rfl (by cases someE h; rfl) (by decide) outs_nil))))))))
     ·refine w_cf (congrArg AV.bool b19) ?_
      simp only [(bnF b19), Bool.not_true, Bool.not_false]
      refine w_skip (n14 _ (n13 _ (.inl ?_)))
      refine wr _ ?_
      exact n9 _ (.inr ⟨_, weak_eq rfl, ih14 (IntKind.i64.wrap (v5_14 + 1)) h⟩)
    ·refine w_cf (congrArg AV.bool b12) ?_
     simp only [b12, Bool.not_true, Bool.not_false]
     refine w_ex (x10 0 _ (x9 0 _ (b8 _ (n6 _ (.inl ?_)))))
     refine ws _ ?_
     exact w_ret (r0 _ (.inl (w_fin [.bool true] rfl (by cases someE h; rfl) (by decide) outs_nil)))
  obtain ⟨n, h⟩ := limE h
  exact w_loop (.inr ⟨_, weak_eq rfl, L14 n 0 h⟩)

set_option maxHeartbeats 800000 in
theorem ok_laws_eqTermSS (a0 : List (List impl_Term)) (a1 : List (List impl_Term)) (r : Bool) (h : laws_eqTermSS a0 a1 = some r) : OkAt Cc 91 [.slice (a0.map e_s_impl_Term), .slice (a1.map e_s_impl_Term)] (.bool r) [] := by
 refine OkAt.of_wpR (fx := [0, 1]) Cc_ok [.tmp 4] [(0, .slice (a0.map e_s_impl_Term)), (1, .slice (a1.map e_s_impl_Term))] Try.func91 rfl rfl s91 (Nat.le_of_ble_eq_true rfl) rfl rfl (fun Q0 r0 n0 => ?_)
 refine ws _ ?_
 refine w_seq (fun Q2 n2 q2 x2 => ?_)
 refine ws _ ?_
 rcases condE h with ⟨b4, h⟩ | ⟨b4, h⟩
 ·refine w_ct (congrArg AV.bool b4) ?_
  simp only [b4, Bool.not_true, Bool.not_false]
  refine ws _ ?_
  exact w_ret (q2 _ (r0 _ (.inl (w_fin [.bool false] rfl (by cases someE h; rfl) (by decide) outs_nil))))
 ·refine w_cf (congrArg AV.bool b4) ?_
  simp only [b4, Bool.not_true, Bool.not_false]
  refine w_skip (n2 _ (.inl ?_))
  refine w_seq (fun Q6 n6 q6 x6 => ?_)
  refine ws _ ?_
  refine w_blk (fun Q8 n8 q8 b8 x8 => ?_)
  have L14 : ∀ (n : Nat) (v5_14 : Int), laws_eqTermSS_l14 a0 a1 n v5_14 = some r → lpC Cc c91_15 Q8 (stA [(0, .slice (a0.map e_s_impl_Term)), (1, .slice (a1.map e_s_impl_Term)), (5, .int .i64 v5_14)]) := by
   intro m14
   induction m14 with
   | zero => intro v5_14 h; cases (show none = some r from h)
   | succ m14 ih14 =>
    intro v5_14 h
    replace h : laws_eqTermSS_b14 (laws_eqTermSS_l14 a0 a1 m14) a0 a1 v5_14 = some r := h
    refine lpC_step (fun Q9 n9 q9 x9 => ?_)
    refine w_seq (fun Q10 n10 q10 x10 => ?_)
    refine ws _ ?_
    rcases condE h with ⟨b12, h⟩ | ⟨b12, h⟩
    ·refine w_ct (congrArg AV.bool b12) ?_
     simp only [b12, Bool.not_true, Bool.not_false]
     refine w_skip (n10 _ (.inl ?_))
     refine w_seq (fun Q13 n13 q13 x13 => ?_)
     refine w_blk (fun Q14 n14 q14 b14 x14 => ?_)
     obtain ⟨x1, e16, h⟩ := bindE h
     obtain ⟨x2, e17, h⟩ := bindE h
     obtain ⟨x3, e18, h⟩ := bindE h
     refine w_sdrw rfl (w_absd [(0, .slice (a0.map e_s_impl_Term)), (1, .slice (a1.map e_s_impl_Term)), (5, .int .i64 v5_14), (26, .bool (!x3))] (fun P hP => ?_) ?_)
     ·simp only [V1.down, simprocAttr, tt2, tt53, tt87, tt123, e_impl_Term, e_s_impl_Term, e16, e17]
      refine w_call1 (ok_laws_eqTermS x1 x2 _ e18) rfl rfl rfl rfl (.inl (by rfl)) ?_
      simp only [V1.down, simprocAttr, tt2, tt53, tt87, tt123, e_impl_Term, e_s_impl_Term, e16, e17]
      refine ⟨okP_D (by kernel_rfl), ?_⟩
      (try simp only [VN.down, simprocAttr, e_impl_Term, e_s_impl_Term, e16, e17] at hP ⊢); exact hP
     rcases condE h with ⟨b19, h⟩ | ⟨b19, h⟩
     ·refine w_ct (congrArg AV.bool b19) ?_
      simp only [(bnT b19), Bool.not_true, Bool.not_false]
      refine ws _ ?_
      exact w_ret (q14 _ (q13 _ (q9 _ (q8 _ (q6 _ (r0 _ (.inl (w_fin [.bool false] rfl (by cases someE h; rfl) (by decide) outs_nil))))))))
     ·refine w_cf (congrArg AV.bool b19) ?_
      simp only [(bnF b19), Bool.not_true, Bool.not_false]
      refine w_skip (n14 _ (n13 _ (.inl ?_)))
      refine wr _ ?_
      exact n9 _ (.inr ⟨_, weak_eq rfl, ih14 (IntKind.i64.wrap (v5_14 + 1)) h⟩)
    ·refine w_cf (congrArg AV.bool b12) ?_
     simp only [b12, Bool.not_true, Bool.not_false]
     refine w_ex (x10 0 _ (x9 0 _ (b8 _ (n6 _ (.inl ?_)))))
     refine ws _ ?_
     exact w_ret (r0 _ (.inl (w_fin [.bool true] rfl (by cases someE h; rfl) (by decide) outs_nil)))
  obtain ⟨n, h⟩ := limE h
  exact w_loop (.inr ⟨_, weak_eq rfl, L14 n 0 h⟩)

theorem ok_laws_eqPart (a0 : impl_Part) (a1 : impl_Part) (r : Bool) (h : laws_eqPart a0 a1 = some r) : OkAt Cc 55 [e_impl_Part a0, e_impl_Part a1] (.bool r) [] := by
 refine OkAt.of_wpR (fx := [0, 1]) Cc_ok [.tmp 4] [(0, e_impl_Part a0), (1, e_impl_Part a1)] Try.func55 rfl rfl s55 (Nat.le_of_ble_eq_true rfl) rfl rfl (fun Q0 r0 n0 => ?_)
 refine ws _ ?_
 refine w_seq (fun Q2 n2 q2 x2 => ?_)
 refine ws _ ?_
 rcases condE h with ⟨b4, h⟩ | ⟨b4, h⟩
 ·refine w_ct (congrArg AV.bool b4) ?_
  simp only [b4, Bool.not_true, Bool.not_false]
  refine ws _ ?_
  exact w_ret (q2 _ (r0 _ (.inl (w_fin [.bool false] rfl (by cases someE h; rfl) (by decide) outs_nil))))
 ·refine w_cf (congrArg AV.bool b4) ?_
  simp only [b4, Bool.not_true, Bool.not_false]
  refine w_skip (n2 _ (.inl ?_))
  refine w_seq (fun Q6 n6 q6 x6 => ?_)
  refine ws _ ?_
  rcases condE h with ⟨b8, h⟩ | ⟨b8, h⟩
  ·refine w_ct (congrArg AV.bool b8) ?_
   simp only [b8, Bool.not_true, Bool.not_false]
   refine ws _ ?_
   exact w_ret (q6 _ (r0 _ (.inl (w_fin [.bool false] rfl (by cases someE h; rfl) (by decide) outs_nil))))
  ·refine w_cf (congrArg AV.bool b8) ?_
   simp only [b8, Bool.not_true, Bool.not_false]
   refine w_skip (n6 _ (.inl ?_))
   refine w_seq (fun Q10 n10 q10 x10 => ?_)
   refine ws _ ?_
   rcases condE h with ⟨b12, h⟩ | ⟨b12, h⟩
   ·refine w_ct (congrArg AV.bool b12) ?_
    simp only [b12, Bool.not_true, Bool.not_false]
    refine ws _ ?_
    exact w_ret (q10 _ (r0 _ (.inl (w_fin [.bool false] rfl (by cases someE h; rfl) (by decide) outs_nil))))
   ·refine w_cf (congrArg AV.bool b12) ?_
    simp only [b12, Bool.not_true, Bool.not_false]
    refine w_skip (n10 _ (.inl ?_))
    refine w_seq (fun Q14 n14 q14 x14 => ?_)
    obtain ⟨x1, e16, h⟩ := bindE h
    refine wsc (ok_laws_eqTermSS a0.Arguments a1.Arguments _ e16) _ ?_
    rcases condE h with ⟨b17, h⟩ | ⟨b17, h⟩
    ·refine w_ct (congrArg AV.bool b17) ?_
     simp only [(bnT b17), Bool.not_true, Bool.not_false]
     refine ws _ ?_
     exact w_ret (q14 _ (r0 _ (.inl (w_fin [.bool false] rfl (by cases someE h; rfl) (by decide) outs_nil))))
    ·refine w_cf (congrArg AV.bool b17) ?_
     simp only [(bnF b17), Bool.not_true, Bool.not_false]
     refine w_skip (n14 _ (.inl ?_))
     refine ws _ ?_
     exact w_ret (r0 _ (.inl (w_fin [.bool true] rfl (by cases someE h; rfl) (by decide) outs_nil)))

set_option maxHeartbeats 800000 in
theorem ok_laws_eqPartS (a0 : List impl_Part) (a1 : List impl_Part) (r : Bool) (h : laws_eqPartS a0 a1 = some r) : OkAt Cc 40 [.slice (a0.map e_impl_Part), .slice (a1.map e_impl_Part)] (.bool r) [] := by
 refine OkAt.of_wpR (fx := [0, 1]) Cc_ok [.tmp 4] [(0, .slice (a0.map e_impl_Part)), (1, .slice (a1.map e_impl_Part))] Try.func40 rfl rfl s40 (Nat.le_of_ble_eq_true rfl) rfl rfl (fun Q0 r0 n0 => ?_)
 refine ws _ ?_
 refine w_seq (fun Q2 n2 q2 x2 => ?_)
 refine ws _ ?_
 rcases condE h with ⟨b4, h⟩ | ⟨b4, h⟩
 ·refine w_ct (congrArg AV.bool b4) ?_
  simp only [b4, Bool.not_true, Bool.not_false]
  refine ws _ ?_
  exact w_ret (q2 _ (r0 _ (.inl (w_fin [.bool false] rfl (by cases someE h; rfl) (by decide) outs_nil))))
 ·refine w_cf (congrArg AV.bool b4) ?_
  simp only [b4, Bool.not_true, Bool.not_false]
  refine w_skip (n2 _ (.inl ?_))
  refine w_seq (fun Q6 n6 q6 x6 => ?_)
  refine ws _ ?_
  refine w_blk (fun Q8 n8 q8 b8 x8 => ?_)
  have L14 : ∀ (n : Nat) (v5_14 : Int), laws_eqPartS_l14 a0 a1 n v5_14 = some r → lpC Cc c40_15 Q8 (stA [(0, .slice (a0.map e_impl_Part)), (1, .slice (a1.map e_impl_Part)), (5, .int .i64 v5_14)]) := by
   intro m14
   induction m14 with
   | zero => intro v5_14 h; cases (show none = some r from h)
   | succ m14 ih14 =>
    intro v5_14 h
    replace h : laws_eqPartS_b14 (laws_eqPartS_l14 a0 a1 m14) a0 a1 v5_14 = some r := h
    refine lpC_step (fun Q9 n9 q9 x9 => ?_)
    refine w_seq (fun Q10 n10 q10 x10 => ?_)
    refine ws _ ?_
    rcases condE h with ⟨b12, h⟩ | ⟨b12, h⟩
    ·refine w_ct (congrArg AV.bool b12) ?_
     simp only [b12, Bool.not_true, Bool.not_false]
     refine w_skip (n10 _ (.inl ?_))
     refine w_seq (fun Q13 n13 q13 x13 => ?_)
     refine w_blk (fun Q14 n14 q14 b14 x14 => ?_)
     obtain ⟨x1, e16, h⟩ := bindE h
     obtain ⟨x2, e17, h⟩ := bindE h
     obtain ⟨x3, e18, h⟩ := bindE h
     refine w_sdrw rfl (w_absd [(0, .slice (a0.map e_impl_Part)), (1, .slice (a1.map e_impl_Part)), (5, .int .i64 v5_14), (26, .bool (!x3))] (fun P hP => ?_) ?_)
     ·simp only [V1.down, simprocAttr, zz15.down, e16, e17]
      refine w_call1 (ok_laws_eqPart x1 x2 _ e18) rfl rfl rfl rfl (.inl (by rfl)) ?_
      simp only [V1.down, simprocAttr, zz15.down, e16, e17]
      refine ⟨okP_D (by kernel_rfl), ?_⟩
      (try simp only [VN.down, simprocAttr, zz4.down, e16, e17] at hP ⊢); exact hP
     rcases condE h with ⟨b19, h⟩ | ⟨b19, h⟩
     ·refine w_ct (congrArg AV.bool b19) ?_
      simp only [(bnT b19), Bool.not_true, Bool.not_false]
      refine ws _ ?_
      exact w_ret (q14 _ (q13 _ (q9 _ (q8 _ (q6 _ (r0 _ (.inl (w_fin [.bool false] rfl (by cases someE h; rfl) (by decide) outs_nil))))))))
     ·refine w_cf (congrArg AV.bool b19) ?_
      simp only [(bnF b19), Bool.not_true, Bool.not_false]
      refine w_skip (n14 _ (n13 _ (.inl ?_)))
      refine wr _ ?_
      exact n9 _ (.inr ⟨_, weak_eq rfl, ih14 (IntKind.i64.wrap (v5_14 + 1)) h⟩)
    ·refine w_cf (congrArg AV.bool b12) ?_
     simp only [b12, Bool.not_true, Bool.not_false]
     refine w_ex (x10 0 _ (x9 0 _ (b8 _ (n6 _ (.inl ?_)))))
     refine ws _ ?_
     exact w_ret (r0 _ (.inl (w_fin [.bool true] rfl (by cases someE h; rfl) (by decide) outs_nil)))
  obtain ⟨n, h⟩ := limE h
  exact w_loop (.inr ⟨_, weak_eq rfl, L14 n 0 h⟩)

theorem ok_laws_eqDefinition (a0 : impl_Definition) (a1 : impl_Definition) (r : Bool) (h : laws_eqDefinition a0 a1 = some r) : OkAt Cc 25 [e_impl_Definition a0, e_impl_Definition a1] (.bool r) [] := by
 refine OkAt.of_wpR (fx := [0, 1]) Cc_ok [.tmp 4] [(0, e_impl_Definition a0), (1, e_impl_Definition a1)] Try.func25 rfl rfl s25 (Nat.le_of_ble_eq_true rfl) rfl rfl (fun Q0 r0 n0 => ?_)
 refine ws _ ?_
 refine w_seq (fun Q2 n2 q2 x2 => ?_)
 refine ws _ ?_
 rcases condE h with ⟨b4, h⟩ | ⟨b4, h⟩
 ·refine w_ct (congrArg AV.bool b4) ?_
  simp only [b4, Bool.not_true, Bool.not_false]
  refine ws _ ?_
  exact w_ret (q2 _ (r0 _ (.inl (w_fin [.bool false] rfl (by cases someE h; rfl) (by decide) outs_nil))))
 ·refine w_cf (congrArg AV.bool b4) ?_
  simp only [b4, Bool.not_true, Bool.not_false]
  refine w_skip (n2 _ (.inl ?_))
  refine w_seq (fun Q6 n6 q6 x6 => ?_)
  refine ws _ ?_
  rcases condE h with ⟨b8, h⟩ | ⟨b8, h⟩
  ·refine w_ct (congrArg AV.bool b8) ?_
   simp only [b8, Bool.not_true, Bool.not_false]
   refine ws _ ?_
   exact w_ret (q6 _ (r0 _ (.inl (w_fin [.bool false] rfl (by cases someE h; rfl) (by decide) outs_nil))))
  ·refine w_cf (congrArg AV.bool b8) ?_
   simp only [b8, Bool.not_true, Bool.not_false]
   refine w_skip (n6 _ (.inl ?_))
   refine w_seq (fun Q10 n10 q10 x10 => ?_)
   obtain ⟨x1, e12, h⟩ := bindE h
   refine wsc (ok_laws_eqPartS a0.Body a1.Body _ e12) _ ?_
   rcases condE h with ⟨b13, h⟩ | ⟨b13, h⟩
   ·refine w_ct (congrArg AV.bool b13) ?_
    simp only [(bnT b13), Bool.not_true, Bool.not_false]
    refine ws _ ?_
    exact w_ret (q10 _ (r0 _ (.inl (w_fin [.bool false] rfl (by cases someE h; rfl) (by decide) outs_nil))))
   ·refine w_cf (congrArg AV.bool b13) ?_
    simp only [(bnF b13), Bool.not_true, Bool.not_false]
    refine w_skip (n10 _ (.inl ?_))
    refine ws _ ?_
    exact w_ret (r0 _ (.inl (w_fin [.bool true] rfl (by cases someE h; rfl) (by decide) outs_nil)))

set_option maxHeartbeats 800000 in
theorem ok_laws_eqDefinitionS (a0 : List impl_Definition) (a1 : List impl_Definition) (r : Bool) (h : laws_eqDefinitionS a0 a1 = some r) : OkAt Cc 10 [.slice (a0.map e_impl_Definition), .slice (a1.map e_impl_Definition)] (.bool r) [] := by
 refine OkAt.of_wpR (fx := [0, 1]) Cc_ok [.tmp 4] [(0, .slice (a0.map e_impl_Definition)), (1, .slice (a1.map e_impl_Definition))] Try.func10 rfl rfl s10 (Nat.le_of_ble_eq_true rfl) rfl rfl (fun Q0 r0 n0 => ?_)
 refine ws _ ?_
 refine w_seq (fun Q2 n2 q2 x2 => ?_)
 refine ws _ ?_
 rcases condE h with ⟨b4, h⟩ | ⟨b4, h⟩
 ·refine w_ct (congrArg AV.bool b4) ?_
  simp only [b4, Bool.not_true, Bool.not_false]
  refine ws _ ?_
  exact w_ret (q2 _ (r0 _ (.inl (w_fin [.bool false] rfl (by cases someE h; rfl) (by decide) outs_nil))))
 ·refine w_cf (congrArg AV.bool b4) ?_
  simp only [b4, Bool.not_true, Bool.not_false]
  refine w_skip (n2 _ (.inl ?_))
  refine w_seq (fun Q6 n6 q6 x6 => ?_)
  refine ws _ ?_
  refine w_blk (fun Q8 n8 q8 b8 x8 => ?_)
  have L14 : ∀ (n : Nat) (v5_14 : Int), laws_eqDefinitionS_l14 a0 a1 n v5_14 = some r → lpC Cc c10_15 Q8 (stA [(0, .slice (a0.map e_impl_Definition)), (1, .slice (a1.map e_impl_Definition)), (5, .int .i64 v5_14)]) := by
   intro m14
   induction m14 with
   | zero => intro v5_14 h; cases (show none = some r from h)
   | succ m14 ih14 =>
    intro v5_14 h
    replace h : laws_eqDefinitionS_b14 (laws_eqDefinitionS_l14 a0 a1 m14) a0 a1 v5_14 = some r := h
    refine lpC_step (fun Q9 n9 q9 x9 => ?_)
    refine w_seq (fun Q10 n10 q10 x10 => ?_)
    refine ws _ ?_
    rcases condE h with ⟨b12, h⟩ | ⟨b12, h⟩
    ·refine w_ct (congrArg AV.bool b12) ?_
     simp only [b12, Bool.not_true, Bool.not_false]
     refine w_skip (n10 _ (.inl ?_))
     refine w_seq (fun Q13 n13 q13 x13 => ?_)
     refine w_blk (fun Q14 n14 q14 b14 x14 => ?_)
     obtain ⟨x1, e16, h⟩ := bindE h
     obtain ⟨x2, e17, h⟩ := bindE h
     obtain ⟨x3, e18, h⟩ := bindE h
     refine w_sdrw rfl (w_absd [(0, .slice (a0.map e_impl_Definition)), (1, .slice (a1.map e_impl_Definition)), (5, .int .i64 v5_14), (26, .bool (!x3))] (fun P hP => ?_) ?_)
     ·simp only [V1.down, simprocAttr, zz1.down, e16, e17]
      refine w_call1 (ok_laws_eqDefinition x1 x2 _ e18) rfl rfl rfl rfl (.inl (by rfl)) ?_
      simp only [V1.down, simprocAttr, zz1.down, e16, e17]
      refine ⟨okP_D (by kernel_rfl), ?_⟩
      (try simp only [VN.down, simprocAttr, zz0.down, e16, e17] at hP ⊢); exact hP
     rcases condE h with ⟨b19, h⟩ | ⟨b19, h⟩
     ·refine w_ct (congrArg AV.bool b19) ?_
      simp only [(bnT b19), Bool.not_true, Bool.not_false]
      refine ws _ ?_
      exact w_ret (q14 _ (q13 _ (q9 _ (q8 _ (q6 _ (r0 _ (.inl (w_fin [.bool false] rfl (by cases someE h; rfl) (by decide) outs_nil))))))))
     ·refine w_cf (congrArg AV.bool b19) ?_
      simp only [(bnF b19), Bool.not_true, Bool.not_false]
      refine w_skip (n14 _ (n13 _ (.inl ?_)))
      refine wr _ ?_
      exact n9 _ (.inr ⟨_, weak_eq rfl, ih14 (IntKind.i64.wrap (v5_14 + 1)) h⟩)
    ·refine w_cf (congrArg AV.bool b12) ?_
     simp only [b12, Bool.not_true, Bool.not_false]
     refine w_ex (x10 0 _ (x9 0 _ (b8 _ (n6 _ (.inl ?_)))))
     refine ws _ ?_
     exact w_ret (r0 _ (.inl (w_fin [.bool true] rfl (by cases someE h; rfl) (by decide) outs_nil)))
  obtain ⟨n, h⟩ := limE h
  exact w_loop (.inr ⟨_, weak_eq rfl, L14 n 0 h⟩)

theorem ok_laws_markText (a0 : Int) (r : (List UInt8)) (h : laws_markText a0 = some r) : OkAt Cc 26 [.int .i64 a0] (.str r) [] := by
 refine OkAt.of_wpR (fx := []) Cc_ok [.tmp 2] [(0, .int .i64 a0)] Try.func26 rfl rfl s26 (Nat.le_of_ble_eq_true rfl) rfl rfl (fun Q0 r0 n0 => ?_)
 refine ws _ ?_
 refine w_seq (fun Q2 n2 q2 x2 => ?_)
 refine ws _ ?_
 rcases condE h with ⟨b4, h⟩ | ⟨b4, h⟩
 ·refine w_ct (congrArg AV.bool b4) ?_
  simp only [b4, Bool.not_true, Bool.not_false]
  refine ws _ ?_
  exact w_ret (q2 _ (r0 _ (.inl (w_fin [.str ([109, 48] : List UInt8)] rfl (by cases someE h; rfl) (by decide) outs_nil))))
 ·refine w_cf (congrArg AV.bool b4) ?_
  simp only [b4, Bool.not_true, Bool.not_false]
  refine w_skip (n2 _ (.inl ?_))
  refine ws _ ?_
  refine w_seq (fun Q7 n7 q7 x7 => ?_)
  refine w_blk (fun Q8 n8 q8 b8 x8 => ?_)
  have L14 : ∀ (n : Nat) (v0_14 : Int) (v3_14 : List UInt8), laws_markText_l14 n v0_14 v3_14 = some r → lpC Cc c26_15 Q8 (stA [(0, .int .i64 v0_14), (3, .str v3_14)]) := by
   intro m14
   induction m14 with
   | zero => intro v0_14 v3_14 h; cases (show none = some r from h)
   | succ m14 ih14 =>
    intro v0_14 v3_14 h
    replace h : laws_markText_b14 (laws_markText_l14 m14) v0_14 v3_14 = some r := h
    refine lpC_step (fun Q9 n9 q9 x9 => ?_)
    refine w_seq (fun Q10 n10 q10 x10 => ?_)
    refine ws _ ?_
    rcases condE h with ⟨b12, h⟩ | ⟨b12, h⟩
    ·refine w_ct (congrArg AV.bool b12) ?_
     simp only [b12, Bool.not_true, Bool.not_false]
     refine w_skip (n10 _ (.inl ?_))
     refine w_blk (fun Q13 n13 q13 b13 x13 => ?_)
     obtain ⟨u16, e15, h⟩ := bindE h
     (try simp only [List.length_append, List.length_cons, List.length_nil, List.length_map, List.length_replicate, Nat.zero_add, Nat.add_zero, Nat.reduceAdd] at e15)
     refine w_sreg (w_abs [(0, .int .i64 v0_14), (3, .str ([(toB (IntKind.i64.wrap (48 + (Int.tmod v0_14 10))))] ++ v3_14))] (fun P hP => ?_) ?_)
     ·simp only [V0.down, simprocAttr, tt5, tt67, byteAV, @bnI_rem' .i64 10 (by decide), @cvt_i' Cc 3 5 .u8 rfl rfl, (show ∀ s, bsl Cc s 67 1 [(0, .int .u8 (IntKind.u8.wrap (IntKind.i64.wrap (48 + (Int.tmod v0_14 10)))))] = some (.uslice 1 [.int .u8 (IntKind.u8.wrap (IntKind.i64.wrap (48 + (Int.tmod v0_14 10))))], s) from fun s => by kernel_rfl), (@cvt_bs' Cc 67 9 5 rfl rfl rfl).2.2, bytesOf_s, strU_s, e15, bnS_cat, addR_s]
      (try simp only [VN.down, simprocAttr, byteAV, @bnI_rem' .i64 10 (by decide), @cvt_i' Cc 3 5 .u8 rfl rfl, (show ∀ s, bsl Cc s 67 1 [(0, .int .u8 (IntKind.u8.wrap (IntKind.i64.wrap (48 + (Int.tmod v0_14 10)))))] = some (.uslice 1 [.int .u8 (IntKind.u8.wrap (IntKind.i64.wrap (48 + (Int.tmod v0_14 10))))], s) from fun s => by kernel_rfl), (@cvt_bs' Cc 67 9 5 rfl rfl rfl).2.2, bytesOf_s, strU_s, e15, bnS_cat, addR_s] at hP ⊢); exact hP
     refine wrf (@bnI_quo' .i64 10 (by decide)) [(0, .int .i64 (IntKind.i64.wrap (Int.tdiv v0_14 10))), (3, .str ([(toB (IntKind.i64.wrap (48 + (Int.tmod v0_14 10))))] ++ v3_14))] ?_
     exact n13 _ (n9 _ (.inr ⟨_, weak_eq rfl, ih14 (IntKind.i64.wrap (Int.tdiv v0_14 10)) ([(toB (IntKind.i64.wrap (48 + (Int.tmod v0_14 10))))] ++ v3_14) h⟩))
    ·refine w_cf (congrArg AV.bool b12) ?_
     simp only [b12, Bool.not_true, Bool.not_false]
     refine w_ex (x10 0 _ (x9 0 _ (b8 _ (n7 _ (.inl ?_)))))
     obtain ⟨u18, e18, h⟩ := bindE h
     (try simp only [List.length_append, List.length_cons, List.length_nil, List.length_map, List.length_replicate, Nat.zero_add, Nat.add_zero, Nat.reduceAdd] at e18)
     refine w_sreg (w_abs [(2, .str (([109] : List UInt8) ++ v3_14))] (fun P hP => ?_) ?_)
     ·simp only [V0.down, simprocAttr, e18, bnS_cat, addR_s]
      (try simp only [VN.down, simprocAttr, e18, bnS_cat, addR_s] at hP ⊢); exact hP
     exact w_ret (r0 _ (.inl (w_fin [.str (([109] : List UInt8) ++ v3_14)] rfl (by cases someE h; rfl) (by decide) outs_nil)))
  obtain ⟨n, h⟩ := limE h
  exact w_loop (.inr ⟨_, weak_eq rfl, L14 n a0 ([] : List UInt8) h⟩)

theorem ok_laws_markTermS (a0 : List impl_Term) (a1 : Int) (r : Int × (List impl_Term)) (h : laws_markTermS a0 a1 = some r) : OkAt Cc 56 [.uslice 2 (a0.map e_impl_Term), .int .i64 a1] (.int .i64 r.1) [.uslice 2 (r.2.map e_impl_Term), .hole] := by
 refine OkAt.of_wpR (fx := [0]) Cc_ok [.tmp 4] [(0, .uslice 2 (a0.map e_impl_Term)), (1, .int .i64 a1)] Try.func56 rfl rfl s56 (Nat.le_of_ble_eq_true rfl) rfl rfl (fun Q0 r0 n0 => ?_)
 refine ws _ ?_
 refine w_seq (fun Q2 n2 q2 x2 => ?_)
 refine ws _ ?_
 refine w_blk (fun Q4 n4 q4 b4 x4 => ?_)
 have L6 : ∀ (n : Nat) (v0_6 : List impl_Term) (v1_6 : Int) (v5_6 : Int), laws_markTermS_l6 n v0_6 v1_6 v5_6 = some r → lpC Cc c56_7 Q4 (stA [(0, .uslice 2 (v0_6.map e_impl_Term)), (1, .int .i64 v1_6), (5, .int .i64 v5_6)]) := by
  intro m6
  induction m6 with
  | zero => intro v0_6 v1_6 v5_6 h; cases (show none = some r from h)
  | succ m6 ih6 =>
   intro v0_6 v1_6 v5_6 h
   replace h : laws_markTermS_b6 (laws_markTermS_l6 m6) v0_6 v1_6 v5_6 = some r := h
   refine lpC_step (fun Q5 n5 q5 x5 => ?_)
   refine w_seq (fun Q6 n6 q6 x6 => ?_)
   refine ws _ ?_
   rcases condE h with ⟨b8, h⟩ | ⟨b8, h⟩
   ·refine w_ct (congrArg AV.bool b8) ?_
    simp only [b8, Bool.not_true, Bool.not_false]
    refine w_skip (n6 _ (.inl ?_))
    refine w_seq (fun Q9 n9 q9 x9 => ?_)
    refine w_blk (fun Q10 n10 q10 b10 x10 => ?_)
    obtain ⟨x1, e12, h⟩ := bindE h
    refine w_sreg (w_abs [(0, .uslice 2 ((List.set v0_6 (Int.toNat v5_6) (impl_Term.mk v1_6 x1.Value)).map e_impl_Term)), (1, .int .i64 v1_6), (5, .int .i64 v5_6)] (fun P hP => ?_) ?_)
    ·simp only [V0.down, simprocAttr, zz5.down, e12, getI_get e12, own_s, stoS]
     (try simp only [VN.down, simprocAttr, e_impl_Term, e12, getI_get e12, own_s, stoS] at hP ⊢); exact hP
    refine ws [(0, .uslice 2 ((List.set v0_6 (Int.toNat v5_6) (impl_Term.mk v1_6 x1.Value)).map e_impl_Term)), (1, .int .i64 (IntKind.i64.wrap (v1_6 + 1))), (5, .int .i64 v5_6)] ?_
    obtain ⟨x2, e15, h⟩ := bindE h
    refine w_sreg (w_abs [(0, .uslice 2 ((List.set (List.set v0_6 (Int.toNat v5_6) (impl_Term.mk v1_6 x1.Value)) (Int.toNat v5_6) (impl_Term.mk x2.Kind (IntKind.i64.wrap (v1_6 + 1)))).map e_impl_Term)), (1, .int .i64 (IntKind.i64.wrap (v1_6 + 1))), (5, .int .i64 v5_6)] (fun P hP => ?_) ?_)
    ·simp only [V0.down, simprocAttr, zz5.down, e15, getI_get e15, own_s, stoS]
     (try simp only [VN.down, simprocAttr, e_impl_Term, e15, getI_get e15, own_s, stoS] at hP ⊢); exact hP
    refine wr [(0, .uslice 2 ((List.set (List.set v0_6 (Int.toNat v5_6) (impl_Term.mk v1_6 x1.Value)) (Int.toNat v5_6) (impl_Term.mk x2.Kind (IntKind.i64.wrap (v1_6 + 1)))).map e_impl_Term)), (1, .int .i64 (IntKind.i64.wrap ((IntKind.i64.wrap (v1_6 + 1)) + 1))), (5, .int .i64 v5_6)] ?_
    refine n10 _ (n9 _ (.inl ?_))
    refine wr [(0, .uslice 2 ((List.set (List.set v0_6 (Int.toNat v5_6) (impl_Term.mk v1_6 x1.Value)) (Int.toNat v5_6) (impl_Term.mk x2.Kind (IntKind.i64.wrap (v1_6 + 1)))).map e_impl_Term)), (1, .int .i64 (IntKind.i64.wrap ((IntKind.i64.wrap (v1_6 + 1)) + 1))), (5, .int .i64 (IntKind.i64.wrap (v5_6 + 1)))] ?_
    exact n5 _ (.inr ⟨_, weak_eq rfl, ih6 (List.set (List.set v0_6 (Int.toNat v5_6) (impl_Term.mk v1_6 x1.Value)) (Int.toNat v5_6) (impl_Term.mk x2.Kind (IntKind.i64.wrap (v1_6 + 1)))) (IntKind.i64.wrap ((IntKind.i64.wrap (v1_6 + 1)) + 1)) (IntKind.i64.wrap (v5_6 + 1)) h⟩)
   ·refine w_cf (congrArg AV.bool b8) ?_
    simp only [b8, Bool.not_true, Bool.not_false]
    refine w_ex (x6 0 _ (x5 0 _ (b4 _ (n2 _ (.inl ?_)))))
    refine ws _ ?_
    exact w_ret (r0 _ (.inl (w_fin [.int .i64 v1_6] rfl (by cases someE h; rfl) (by decide) (outs_of (out_is (by cases someE h; rfl) rfl rfl rfl (out_no (out_end)))))))
 obtain ⟨n, h⟩ := limE h
 exact w_loop (.inr ⟨_, weak_eq rfl, L6 n a0 a1 0 h⟩)

theorem ok_laws_markTermSS (a0 : List (List impl_Term)) (a1 : Int) (r : Int × (List (List impl_Term))) (h : laws_markTermSS a0 a1 = some r) : OkAt Cc 41 [.uslice 1 (a0.map u_s_impl_Term), .int .i64 a1] (.int .i64 r.1) [.uslice 1 (r.2.map u_s_impl_Term), .hole] := by
 refine OkAt.of_wpR (fx := [0]) Cc_ok [.tmp 4] [(0, .uslice 1 (a0.map u_s_impl_Term)), (1, .int .i64 a1)] Try.func41 rfl rfl s41 (Nat.le_of_ble_eq_true rfl) rfl rfl (fun Q0 r0 n0 => ?_)
 refine ws _ ?_
 refine w_seq (fun Q2 n2 q2 x2 => ?_)
 refine ws _ ?_
 refine w_blk (fun Q4 n4 q4 b4 x4 => ?_)
 have L6 : ∀ (n : Nat) (v0_6 : List (List impl_Term)) (v1_6 : Int) (v5_6 : Int), laws_markTermSS_l6 n v0_6 v1_6 v5_6 = some r → lpC Cc c41_7 Q4 (stA [(0, .uslice 1 (v0_6.map u_s_impl_Term)), (1, .int .i64 v1_6), (5, .int .i64 v5_6)]) := by
  intro m6
  induction m6 with
  | zero => intro v0_6 v1_6 v5_6 h; cases (show none = some r from h)
  | succ m6 ih6 =>
   intro v0_6 v1_6 v5_6 h
   replace h : laws_markTermSS_b6 (laws_markTermSS_l6 m6) v0_6 v1_6 v5_6 = some r := h
   refine lpC_step (fun Q5 n5 q5 x5 => ?_)
   refine w_seq (fun Q6 n6 q6 x6 => ?_)
   refine ws _ ?_
   rcases condE h with ⟨b8, h⟩ | ⟨b8, h⟩
   ·refine w_ct (congrArg AV.bool b8) ?_
    simp only [b8, Bool.not_true, Bool.not_false]
    refine w_skip (n6 _ (.inl ?_))
    refine w_seq (fun Q9 n9 q9 x9 => ?_)
    refine w_blk (fun Q10 n10 q10 b10 x10 => ?_)
    obtain ⟨x1, e12, h⟩ := bindE h
    obtain ⟨x2, e13, h⟩ := bindE h
    refine w_reg (w_abs [(0, .uslice 1 ((List.set v0_6 (Int.toNat v5_6) x2.2).map u_s_impl_Term)), (1, .int .i64 x2.1), (5, .int .i64 v5_6)] (fun P hP => ?_) ?_)
    ·simp only [V0.down, simprocAttr, tt2, tt53, tt87, tt123, e_impl_Term, u_s_impl_Term, e12, getI_get e12]
     refine w_callp0 [⟨.h 0 [Int.toNat v5_6], true, _, _⟩, ⟨.int .i64 v1_6, false, _, .hole⟩] (ok_laws_markTermS x1 v1_6 _ e13) rfl rfl rfl (by simp only [V0.down, simprocAttr, tt2, tt53, tt87, tt123, e_impl_Term, u_s_impl_Term, e12, getI_get e12, okp_s, own_r, view_s, view_h, viewH_s, share_s, or_true, true_or, @shares_map _ e_impl_Term e_impl_Term (fun _ => sh_e_impl_Term _)]) rfl rfl (.inl rfl) ?_
     simp only [V0.down, simprocAttr, tt2, tt53, tt87, tt123, e_impl_Term, u_s_impl_Term, e12, getI_get e12, gv_s, (get_set (getI_get e12)), set_mset]
     (try simp only [VN.down, simprocAttr, e_impl_Term, u_s_impl_Term, e12, getI_get e12] at hP ⊢); exact hP
    refine n10 _ (n9 _ (.inl ?_))
    refine wr [(0, .uslice 1 ((List.set v0_6 (Int.toNat v5_6) x2.2).map u_s_impl_Term)), (1, .int .i64 x2.1), (5, .int .i64 (IntKind.i64.wrap (v5_6 + 1)))] ?_
    exact n5 _ (.inr ⟨_, weak_eq rfl, ih6 (List.set v0_6 (Int.toNat v5_6) x2.2) x2.1 (IntKind.i64.wrap (v5_6 + 1)) h⟩)
   ·refine w_cf (congrArg AV.bool b8) ?_
    simp only [b8, Bool.not_true, Bool.not_false]
    refine w_ex (x6 0 _ (x5 0 _ (b4 _ (n2 _ (.inl ?_)))))
    refine ws _ ?_
    exact w_ret (r0 _ (.inl (w_fin [.int .i64 v1_6] rfl (by cases someE h; rfl) (by decide) (outs_of (out_is (by cases someE h; rfl) rfl rfl rfl (out_no (out_end)))))))
 obtain ⟨n, h⟩ := limE h
 exact w_loop (.inr ⟨_, weak_eq rfl, L6 n a0 a1 0 h⟩)

theorem ok_laws_markPartS (a0 : List impl_Part) (a1 : Int) (r : Int × (List impl_Part)) (h : laws_markPartS a0 a1 = some r) : OkAt Cc 27 [.uslice 4 (a0.map u_impl_Part), .int .i64 a1] (.int .i64 r.1) [.uslice 4 (r.2.map u_impl_Part), .hole] := by
 refine OkAt.of_wpR (fx := [0]) Cc_ok [.tmp 4] [(0, .uslice 4 (a0.map u_impl_Part)), (1, .int .i64 a1)] Try.func27 rfl rfl s27 (Nat.le_of_ble_eq_true rfl) rfl rfl (fun Q0 r0 n0 => ?_)
 refine ws _ ?_
 refine w_seq (fun Q2 n2 q2 x2 => ?_)
 refine ws _ ?_
 refine w_blk (fun Q4 n4 q4 b4 x4 => ?_)
 have L6 : ∀ (n : Nat) (v0_6 : List impl_Part) (v1_6 : Int) (v5_6 : Int), laws_markPartS_l6 n v0_6 v1_6 v5_6 = some r → lpC Cc c27_7 Q4 (stA [(0, .uslice 4 (v0_6.map u_impl_Part)), (1, .int .i64 v1_6), (5, .int .i64 v5_6)]) := by
  intro m6
  induction m6 with
  | zero => intro v0_6 v1_6 v5_6 h; cases (show none = some r from h)
  | succ m6 ih6 =>
   intro v0_6 v1_6 v5_6 h
   replace h : laws_markPartS_b6 (laws_markPartS_l6 m6) v0_6 v1_6 v5_6 = some r := h
   refine lpC_step (fun Q5 n5 q5 x5 => ?_)
   refine w_seq (fun Q6 n6 q6 x6 => ?_)
   refine ws _ ?_
   rcases condE h with ⟨b8, h⟩ | ⟨b8, h⟩
   ·refine w_ct (congrArg AV.bool b8) ?_
    simp only [b8, Bool.not_true, Bool.not_false]
    refine w_skip (n6 _ (.inl ?_))
    refine w_seq (fun Q9 n9 q9 x9 => ?_)
    refine w_blk (fun Q10 n10 q10 b10 x10 => ?_)
    obtain ⟨x1, e12, h⟩ := bindE h
    refine w_sreg (w_abs [(0, .uslice 4 ((List.set v0_6 (Int.toNat v5_6) (impl_Part.mk v1_6 x1.Number x1.Name x1.Arguments)).map u_impl_Part)), (1, .int .i64 v1_6), (5, .int .i64 v5_6)] (fun P hP => ?_) ?_)
    ·simp only [V0.down, simprocAttr, zz10.down, e12, getI_get e12, own_s, stoS]
     (try simp only [VN.down, simprocAttr, zz18.down, e12, getI_get e12, own_s, stoS] at hP ⊢); exact hP
    refine ws [(0, .uslice 4 ((List.set v0_6 (Int.toNat v5_6) (impl_Part.mk v1_6 x1.Number x1.Name x1.Arguments)).map u_impl_Part)), (1, .int .i64 (IntKind.i64.wrap (v1_6 + 1))), (5, .int .i64 v5_6)] ?_
    obtain ⟨x2, e15, h⟩ := bindE h
    refine w_sreg (w_abs [(0, .uslice 4 ((List.set (List.set v0_6 (Int.toNat v5_6) (impl_Part.mk v1_6 x1.Number x1.Name x1.Arguments)) (Int.toNat v5_6) (impl_Part.mk x2.Kind (IntKind.i64.wrap (v1_6 + 1)) x2.Name x2.Arguments)).map u_impl_Part)), (1, .int .i64 (IntKind.i64.wrap (v1_6 + 1))), (5, .int .i64 v5_6)] (fun P hP => ?_) ?_)
    ·simp only [V0.down, simprocAttr, zz10.down, e15, getI_get e15, own_s, stoS]
     (try simp only [VN.down, simprocAttr, zz18.down, e15, getI_get e15, own_s, stoS] at hP ⊢); exact hP
    refine ws [(0, .uslice 4 ((List.set (List.set v0_6 (Int.toNat v5_6) (impl_Part.mk v1_6 x1.Number x1.Name x1.Arguments)) (Int.toNat v5_6) (impl_Part.mk x2.Kind (IntKind.i64.wrap (v1_6 + 1)) x2.Name x2.Arguments)).map u_impl_Part)), (1, .int .i64 (IntKind.i64.wrap ((IntKind.i64.wrap (v1_6 + 1)) + 1))), (5, .int .i64 v5_6)] ?_
    obtain ⟨x3, e18, h⟩ := bindE h
    obtain ⟨x4, e19, h⟩ := bindE h
    refine w_sreg (w_abs [(0, .uslice 4 ((List.set (List.set (List.set v0_6 (Int.toNat v5_6) (impl_Part.mk v1_6 x1.Number x1.Name x1.Arguments)) (Int.toNat v5_6) (impl_Part.mk x2.Kind (IntKind.i64.wrap (v1_6 + 1)) x2.Name x2.Arguments)) (Int.toNat v5_6) (impl_Part.mk x4.Kind x4.Number x3 x4.Arguments)).map u_impl_Part)), (1, .int .i64 (IntKind.i64.wrap ((IntKind.i64.wrap (v1_6 + 1)) + 1))), (5, .int .i64 v5_6)] (fun P hP => ?_) ?_)
    ·simp only [V0.down, simprocAttr, zz10.down, e19, getI_get e19, own_s, stoS]
     refine w_call0 (ok_laws_markText (IntKind.i64.wrap ((IntKind.i64.wrap (v1_6 + 1)) + 1)) _ e18) rfl rfl rfl rfl (.inl (by rfl)) ?_
     simp only [V0.down, simprocAttr, zz10.down, e19, getI_get e19, own_s, stoS]
     (try simp only [VN.down, simprocAttr, zz18.down, e19, getI_get e19, own_s, stoS] at hP ⊢); exact hP
    refine ws [(0, .uslice 4 ((List.set (List.set (List.set v0_6 (Int.toNat v5_6) (impl_Part.mk v1_6 x1.Number x1.Name x1.Arguments)) (Int.toNat v5_6) (impl_Part.mk x2.Kind (IntKind.i64.wrap (v1_6 + 1)) x2.Name x2.Arguments)) (Int.toNat v5_6) (impl_Part.mk x4.Kind x4.Number x3 x4.Arguments)).map u_impl_Part)), (1, .int .i64 (IntKind.i64.wrap ((IntKind.i64.wrap ((IntKind.i64.wrap (v1_6 + 1)) + 1)) + 1))), (5, .int .i64 v5_6)] ?_
    obtain ⟨x5, e22, h⟩ := bindE h
    obtain ⟨x6, e23, h⟩ := bindE h
    refine w_reg (w_abs [(0, .uslice 4 ((List.set (List.set (List.set (List.set v0_6 (Int.toNat v5_6) (impl_Part.mk v1_6 x1.Number x1.Name x1.Arguments)) (Int.toNat v5_6) (impl_Part.mk x2.Kind (IntKind.i64.wrap (v1_6 + 1)) x2.Name x2.Arguments)) (Int.toNat v5_6) (impl_Part.mk x4.Kind x4.Number x3 x4.Arguments)) (Int.toNat v5_6) (impl_Part.mk x5.Kind x5.Number x5.Name x6.2)).map u_impl_Part)), (1, .int .i64 x6.1), (5, .int .i64 v5_6)] (fun P hP => ?_) ?_)
    ·simp only [V0.down, simprocAttr, zz10.down, e22, getI_get e22]
     refine w_callp0 [⟨.h 0 [Int.toNat v5_6, 3], true, _, _⟩, ⟨.int .i64 (IntKind.i64.wrap ((IntKind.i64.wrap ((IntKind.i64.wrap (v1_6 + 1)) + 1)) + 1)), false, _, .hole⟩] (ok_laws_markTermSS x5.Arguments (IntKind.i64.wrap ((IntKind.i64.wrap ((IntKind.i64.wrap (v1_6 + 1)) + 1)) + 1)) _ e23) rfl rfl rfl (by simp only [V0.down, simprocAttr, zz10.down, e22, getI_get e22, okp_s, own_r, view_s, view_h, viewH_s, share_s, or_true, true_or, @shares_map _ u_s_impl_Term e_s_impl_Term (fun _ => sh_u_s_impl_Term _)]) rfl rfl (.inl rfl) ?_
     simp only [V0.down, simprocAttr, zz10.down, e22, getI_get e22, gv_s, (get_set (getI_get e22)), set_mset]
     (try simp only [VN.down, simprocAttr, zz18.down, e22, getI_get e22] at hP ⊢); exact hP
    refine n10 _ (n9 _ (.inl ?_))
    refine wr [(0, .uslice 4 ((List.set (List.set (List.set (List.set v0_6 (Int.toNat v5_6) (impl_Part.mk v1_6 x1.Number x1.Name x1.Arguments)) (Int.toNat v5_6) (impl_Part.mk x2.Kind (IntKind.i64.wrap (v1_6 + 1)) x2.Name x2.Arguments)) (Int.toNat v5_6) (impl_Part.mk x4.Kind x4.Number x3 x4.Arguments)) (Int.toNat v5_6) (impl_Part.mk x5.Kind x5.Number x5.Name x6.2)).map u_impl_Part)), (1, .int .i64 x6.1), (5, .int .i64 (IntKind.i64.wrap (v5_6 + 1)))] ?_
    exact n5 _ (.inr ⟨_, weak_eq rfl, ih6 (List.set (List.set (List.set (List.set v0_6 (Int.toNat v5_6) (impl_Part.mk v1_6 x1.Number x1.Name x1.Arguments)) (Int.toNat v5_6) (impl_Part.mk x2.Kind (IntKind.i64.wrap (v1_6 + 1)) x2.Name x2.Arguments)) (Int.toNat v5_6) (impl_Part.mk x4.Kind x4.Number x3 x4.Arguments)) (Int.toNat v5_6) (impl_Part.mk x5.Kind x5.Number x5.Name x6.2)) x6.1 (IntKind.i64.wrap (v5_6 + 1)) h⟩)
   ·refine w_cf (congrArg AV.bool b8) ?_
    simp only [b8, Bool.not_true, Bool.not_false]
    refine w_ex (x6 0 _ (x5 0 _ (b4 _ (n2 _ (.inl ?_)))))
    refine ws _ ?_
    exact w_ret (r0 _ (.inl (w_fin [.int .i64 v1_6] rfl (by cases someE h; rfl) (by decide) (outs_of (out_is (by cases someE h; rfl) rfl rfl rfl (out_no (out_end)))))))
 obtain ⟨n, h⟩ := limE h
 exact w_loop (.inr ⟨_, weak_eq rfl, L6 n a0 a1 0 h⟩)

theorem ok_laws_markDefinitionS (a0 : List impl_Definition) (a1 : Int) (r : Int × (List impl_Definition)) (h : laws_markDefinitionS a0 a1 = some r) : OkAt Cc 11 [.uslice 3 (a0.map u_impl_Definition), .int .i64 a1] (.int .i64 r.1) [.uslice 3 (r.2.map u_impl_Definition), .hole] := by
 refine OkAt.of_wpR (fx := [0]) Cc_ok [.tmp 4] [(0, .uslice 3 (a0.map u_impl_Definition)), (1, .int .i64 a1)] Try.func11 rfl rfl s11 (Nat.le_of_ble_eq_true rfl) rfl rfl (fun Q0 r0 n0 => ?_)
 refine ws _ ?_
 refine w_seq (fun Q2 n2 q2 x2 => ?_)
 refine ws _ ?_
 refine w_blk (fun Q4 n4 q4 b4 x4 => ?_)
 have L6 : ∀ (n : Nat) (v0_6 : List impl_Definition) (v1_6 : Int) (v5_6 : Int), laws_markDefinitionS_l6 n v0_6 v1_6 v5_6 = some r → lpC Cc c11_7 Q4 (stA [(0, .uslice 3 (v0_6.map u_impl_Definition)), (1, .int .i64 v1_6), (5, .int .i64 v5_6)]) := by
  intro m6
  induction m6 with
  | zero => intro v0_6 v1_6 v5_6 h; cases (show none = some r from h)
  | succ m6 ih6 =>
   intro v0_6 v1_6 v5_6 h
   replace h : laws_markDefinitionS_b6 (laws_markDefinitionS_l6 m6) v0_6 v1_6 v5_6 = some r := h
   refine lpC_step (fun Q5 n5 q5 x5 => ?_)
   refine w_seq (fun Q6 n6 q6 x6 => ?_)
   refine ws _ ?_
   rcases condE h with ⟨b8, h⟩ | ⟨b8, h⟩
   ·refine w_ct (congrArg AV.bool b8) ?_
    simp only [b8, Bool.not_true, Bool.not_false]
    refine w_skip (n6 _ (.inl ?_))
    refine w_seq (fun Q9 n9 q9 x9 => ?_)
    refine w_blk (fun Q10 n10 q10 b10 x10 => ?_)
    obtain ⟨x1, e12, h⟩ := bindE h
    obtain ⟨x2, e13, h⟩ := bindE h
    refine w_sreg (w_abs [(0, .uslice 3 ((List.set v0_6 (Int.toNat v5_6) (impl_Definition.mk x1 x2.Parameters x2.Body)).map u_impl_Definition)), (1, .int .i64 v1_6), (5, .int .i64 v5_6)] (fun P hP => ?_) ?_)
    ·simp only [V0.down, simprocAttr, zz12.down, e13, getI_get e13, own_s, stoS]
     refine w_call0 (ok_laws_markText v1_6 _ e12) rfl rfl rfl rfl (.inl (by rfl)) ?_
     simp only [V0.down, simprocAttr, zz12.down, e13, getI_get e13, own_s, stoS]
     (try simp only [VN.down, simprocAttr, e_impl_Term, u_impl_Definition, u_impl_Part, u_s_impl_Term, e13, getI_get e13, own_s, stoS] at hP ⊢); exact hP
    refine ws [(0, .uslice 3 ((List.set v0_6 (Int.toNat v5_6) (impl_Definition.mk x1 x2.Parameters x2.Body)).map u_impl_Definition)), (1, .int .i64 (IntKind.i64.wrap (v1_6 + 1))), (5, .int .i64 v5_6)] ?_
    obtain ⟨x3, e16, h⟩ := bindE h
    refine w_sreg (w_abs [(0, .uslice 3 ((List.set (List.set v0_6 (Int.toNat v5_6) (impl_Definition.mk x1 x2.Parameters x2.Body)) (Int.toNat v5_6) (impl_Definition.mk x3.Name (IntKind.i64.wrap (v1_6 + 1)) x3.Body)).map u_impl_Definition)), (1, .int .i64 (IntKind.i64.wrap (v1_6 + 1))), (5, .int .i64 v5_6)] (fun P hP => ?_) ?_)
    ·simp only [V0.down, simprocAttr, zz12.down, e16, getI_get e16, own_s, stoS]
     (try simp only [VN.down, simprocAttr, e_impl_Term, u_impl_Definition, u_impl_Part, u_s_impl_Term, e16, getI_get e16, own_s, stoS] at hP ⊢); exact hP
    refine ws [(0, .uslice 3 ((List.set (List.set v0_6 (Int.toNat v5_6) (impl_Definition.mk x1 x2.Parameters x2.Body)) (Int.toNat v5_6) (impl_Definition.mk x3.Name (IntKind.i64.wrap (v1_6 + 1)) x3.Body)).map u_impl_Definition)), (1, .int .i64 (IntKind.i64.wrap ((IntKind.i64.wrap (v1_6 + 1)) + 1))), (5, .int .i64 v5_6)] ?_
    obtain ⟨x4, e19, h⟩ := bindE h
    obtain ⟨x5, e20, h⟩ := bindE h
    refine w_reg (w_abs [(0, .uslice 3 ((List.set (List.set (List.set v0_6 (Int.toNat v5_6) (impl_Definition.mk x1 x2.Parameters x2.Body)) (Int.toNat v5_6) (impl_Definition.mk x3.Name (IntKind.i64.wrap (v1_6 + 1)) x3.Body)) (Int.toNat v5_6) (impl_Definition.mk x4.Name x4.Parameters x5.2)).map u_impl_Definition)), (1, .int .i64 x5.1), (5, .int .i64 v5_6)] (fun P hP => ?_) ?_)
    ·simp only [V0.down, simprocAttr, zz12.down, e19, getI_get e19]
     refine w_callp0 [⟨.h 0 [Int.toNat v5_6, 2], true, _, _⟩, ⟨.int .i64 (IntKind.i64.wrap ((IntKind.i64.wrap (v1_6 + 1)) + 1)), false, _, .hole⟩] (ok_laws_markPartS x4.Body (IntKind.i64.wrap ((IntKind.i64.wrap (v1_6 + 1)) + 1)) _ e20) rfl rfl rfl (by simp only [V0.down, simprocAttr, zz12.down, e19, getI_get e19, okp_s, own_r, view_s, view_h, viewH_s, share_s, or_true, true_or, @shares_map _ u_impl_Part e_impl_Part (fun _ => sh_u_impl_Part _)]) rfl rfl (.inl rfl) ?_
     simp only [V0.down, simprocAttr, zz12.down, e19, getI_get e19, gv_s, (get_set (getI_get e19)), set_mset]
     (try simp only [VN.down, simprocAttr, e_impl_Term, u_impl_Definition, u_impl_Part, u_s_impl_Term, e19, getI_get e19] at hP ⊢); exact hP
    refine n10 _ (n9 _ (.inl ?_))
    refine wr [(0, .uslice 3 ((List.set (List.set (List.set v0_6 (Int.toNat v5_6) (impl_Definition.mk x1 x2.Parameters x2.Body)) (Int.toNat v5_6) (impl_Definition.mk x3.Name (IntKind.i64.wrap (v1_6 + 1)) x3.Body)) (Int.toNat v5_6) (impl_Definition.mk x4.Name x4.Parameters x5.2)).map u_impl_Definition)), (1, .int .i64 x5.1), (5, .int .i64 (IntKind.i64.wrap (v5_6 + 1)))] ?_
    exact n5 _ (.inr ⟨_, weak_eq rfl, ih6 (List.set (List.set (List.set v0_6 (Int.toNat v5_6) (impl_Definition.mk x1 x2.Parameters x2.Body)) (Int.toNat v5_6) (impl_Definition.mk x3.Name (IntKind.i64.wrap (v1_6 + 1)) x3.Body)) (Int.toNat v5_6) (impl_Definition.mk x4.Name x4.Parameters x5.2)) x5.1 (IntKind.i64.wrap (v5_6 + 1)) h⟩)
   ·refine w_cf (congrArg AV.bool b8) ?_
    simp only [b8, Bool.not_true, Bool.not_false]
    refine w_ex (x6 0 _ (x5 0 _ (b4 _ (n2 _ (.inl ?_)))))
    refine ws _ ?_
    exact w_ret (r0 _ (.inl (w_fin [.int .i64 v1_6] rfl (by cases someE h; rfl) (by decide) (outs_of (out_is (by cases someE h; rfl) rfl rfl rfl (out_no (out_end)))))))
 obtain ⟨n, h⟩ := limE h
 exact w_loop (.inr ⟨_, weak_eq rfl, L6 n a0 a1 0 h⟩)

theorem ok_laws_markInt64S (a0 : List Int) (a1 : Int) (r : Int × (List Int)) (h : laws_markInt64S a0 a1 = some r) : OkAt Cc 12 [.uslice 1 (a0.map e_i64), .int .i64 a1] (.int .i64 r.1) [.uslice 1 (r.2.map e_i64), .hole] := by
 refine OkAt.of_wpR (fx := [0]) Cc_ok [.tmp 4] [(0, .uslice 1 (a0.map e_i64)), (1, .int .i64 a1)] Try.func12 rfl rfl s12 (Nat.le_of_ble_eq_true rfl) rfl rfl (fun Q0 r0 n0 => ?_)
 refine ws _ ?_
 refine w_seq (fun Q2 n2 q2 x2 => ?_)
 refine ws _ ?_
 refine w_blk (fun Q4 n4 q4 b4 x4 => ?_)
 have L6 : ∀ (n : Nat) (v0_6 : List Int) (v1_6 : Int) (v5_6 : Int), laws_markInt64S_l6 n v0_6 v1_6 v5_6 = some r → lpC Cc c12_7 Q4 (stA [(0, .uslice 1 (v0_6.map e_i64)), (1, .int .i64 v1_6), (5, .int .i64 v5_6)]) := by
  intro m6
  induction m6 with
  | zero => intro v0_6 v1_6 v5_6 h; cases (show none = some r from h)
  | succ m6 ih6 =>
   intro v0_6 v1_6 v5_6 h
   replace h : laws_markInt64S_b6 (laws_markInt64S_l6 m6) v0_6 v1_6 v5_6 = some r := h
   refine lpC_step (fun Q5 n5 q5 x5 => ?_)
   refine w_seq (fun Q6 n6 q6 x6 => ?_)
   refine ws _ ?_
   rcases condE h with ⟨b8, h⟩ | ⟨b8, h⟩
   ·refine w_ct (congrArg AV.bool b8) ?_
    simp only [b8, Bool.not_true, Bool.not_false]
    refine w_skip (n6 _ (.inl ?_))
    refine w_seq (fun Q9 n9 q9 x9 => ?_)
    refine w_blk (fun Q10 n10 q10 b10 x10 => ?_)
    obtain ⟨x1, e12, h⟩ := bindE h
    refine w_sreg (w_abs [(0, .uslice 1 ((List.set v0_6 (Int.toNat v5_6) v1_6).map e_i64)), (1, .int .i64 v1_6), (5, .int .i64 v5_6)] (fun P hP => ?_) ?_)
    ·simp only [V0.down, simprocAttr, tt2, tt24, e_i64, e12, getI_get e12, own_s, stoS]
     (try simp only [VN.down, simprocAttr, e_i64, e12, getI_get e12, own_s, stoS] at hP ⊢); exact hP
    refine wr [(0, .uslice 1 ((List.set v0_6 (Int.toNat v5_6) v1_6).map e_i64)), (1, .int .i64 (IntKind.i64.wrap (v1_6 + 1))), (5, .int .i64 v5_6)] ?_
    refine n10 _ (n9 _ (.inl ?_))
    refine wr [(0, .uslice 1 ((List.set v0_6 (Int.toNat v5_6) v1_6).map e_i64)), (1, .int .i64 (IntKind.i64.wrap (v1_6 + 1))), (5, .int .i64 (IntKind.i64.wrap (v5_6 + 1)))] ?_
    exact n5 _ (.inr ⟨_, weak_eq rfl, ih6 (List.set v0_6 (Int.toNat v5_6) v1_6) (IntKind.i64.wrap (v1_6 + 1)) (IntKind.i64.wrap (v5_6 + 1)) h⟩)
   ·refine w_cf (congrArg AV.bool b8) ?_
    simp only [b8, Bool.not_true, Bool.not_false]
    refine w_ex (x6 0 _ (x5 0 _ (b4 _ (n2 _ (.inl ?_)))))
    refine ws _ ?_
    exact w_ret (r0 _ (.inl (w_fin [.int .i64 v1_6] rfl (by cases someE h; rfl) (by decide) (outs_of (out_is (by cases someE h; rfl) rfl rfl rfl (out_no (out_end)))))))
 obtain ⟨n, h⟩ := limE h
 exact w_loop (.inr ⟨_, weak_eq rfl, L6 n a0 a1 0 h⟩)

theorem ok_laws_heldInt64S (a0 : List Int) (a1 : Int) (r : Int) (h : laws_heldInt64S a0 a1 = some r) : OkAt Cc 13 [.slice (a0.map e_i64), .int .i64 a1] (.int .i64 r) [] := by
 refine OkAt.of_wpR (fx := [0]) Cc_ok [.tmp 4] [(0, .slice (a0.map e_i64)), (1, .int .i64 a1)] Try.func13 rfl rfl s13 (Nat.le_of_ble_eq_true rfl) rfl rfl (fun Q0 r0 n0 => ?_)
 refine ws _ ?_
 refine w_seq (fun Q2 n2 q2 x2 => ?_)
 refine ws _ ?_
 refine w_blk (fun Q4 n4 q4 b4 x4 => ?_)
 have L6 : ∀ (n : Nat) (v1_6 : Int) (v5_6 : Int), laws_heldInt64S_l6 a0 n v1_6 v5_6 = some r → lpC Cc c13_7 Q4 (stA [(0, .slice (a0.map e_i64)), (1, .int .i64 v1_6), (5, .int .i64 v5_6)]) := by
  intro m6
  induction m6 with
  | zero => intro v1_6 v5_6 h; cases (show none = some r from h)
  | succ m6 ih6 =>
   intro v1_6 v5_6 h
   replace h : laws_heldInt64S_b6 (laws_heldInt64S_l6 a0 m6) a0 v1_6 v5_6 = some r := h
   refine lpC_step (fun Q5 n5 q5 x5 => ?_)
   refine w_seq (fun Q6 n6 q6 x6 => ?_)
   refine ws _ ?_
   rcases condE h with ⟨b8, h⟩ | ⟨b8, h⟩
   ·refine w_ct (congrArg AV.bool b8) ?_
    simp only [b8, Bool.not_true, Bool.not_false]
    refine w_skip (n6 _ (.inl ?_))
    refine w_seq (fun Q9 n9 q9 x9 => ?_)
    refine w_blk (fun Q10 n10 q10 b10 x10 => ?_)
    refine w_seq (fun Q11 n11 q11 x11 => ?_)
    obtain ⟨x1, e13, h⟩ := bindE h
    refine wsf e13 _ ?_
    rcases condE h with ⟨b14, h⟩ | ⟨b14, h⟩
    ·refine w_ct (congrArg AV.bool b14) ?_
     simp only [b14, Bool.not_true, Bool.not_false]
     refine ws _ ?_
     exact w_ret (q11 _ (q10 _ (q9 _ (q5 _ (q4 _ (q2 _ (r0 _ (.inl (w_fin [.int .i64 (-1)] rfl (by cases someE h; rfl) (by decide) outs_nil)))))))))
    ·refine w_cf (congrArg AV.bool b14) ?_
     simp only [b14, Bool.not_true, Bool.not_false]
     refine w_skip (n11 _ (.inl ?_))
     refine wr _ ?_
     refine n10 _ (n9 _ (.inl ?_))
     refine wr _ ?_
     exact n5 _ (.inr ⟨_, weak_eq rfl, ih6 (IntKind.i64.wrap (v1_6 + 1)) (IntKind.i64.wrap (v5_6 + 1)) h⟩)
   ·refine w_cf (congrArg AV.bool b8) ?_
    simp only [b8, Bool.not_true, Bool.not_false]
    refine w_ex (x6 0 _ (x5 0 _ (b4 _ (n2 _ (.inl ?_)))))
    refine ws _ ?_
    exact w_ret (r0 _ (.inl (w_fin [.int .i64 v1_6] rfl (by cases someE h; rfl) (by decide) outs_nil)))
 obtain ⟨n, h⟩ := limE h
 exact w_loop (.inr ⟨_, weak_eq rfl, L6 n a1 0 h⟩)

set_option maxHeartbeats 1000000 in
theorem ok_laws_FnExactCallsOf (a0 : List laws_Definition) (a1 : Int) (r : Bool) (h : laws_FnExactCallsOf a0 a1 = some r) : OkAt Cc 3 [.slice (a0.map e_laws_Definition), .int .i64 a1] (.bool r) [] := by
 refine OkAt.of_wpR (fx := [0, 1]) Cc_ok [.tmp 4] [(0, .slice (a0.map e_laws_Definition)), (1, .int .i64 a1)] Try.func3 rfl rfl s3 (Nat.le_of_ble_eq_true rfl) rfl rfl (fun Q0 r0 n0 => ?_)
 refine ws _ ?_
 refine ws _ ?_
 obtain ⟨x1, e4, h⟩ := bindE h
 refine wsc (ok_laws_szDefinitionS a0 1048576 _ e4) _ ?_
 refine w_seq (fun Q5 n5 q5 x5 => ?_)
 refine ws _ ?_
 rcases condE h with ⟨b7, h⟩ | ⟨b7, h⟩
 ·refine w_ct (congrArg AV.bool b7) ?_
  simp only [b7, Bool.not_true, Bool.not_false]
  refine ws _ ?_
  exact w_ret (q5 _ (r0 _ (.inl (w_fin [.bool true] rfl (by cases someE h; rfl) (by decide) outs_nil))))
 ·refine w_cf (congrArg AV.bool b7) ?_
  simp only [b7, Bool.not_true, Bool.not_false]
  refine w_skip (n5 _ (.inl ?_))
  obtain ⟨x2, e10, h⟩ := bindE h
  obtain ⟨x3, e11, h⟩ := bindE h
  refine w_sreg (w_abs [(0, .slice (a0.map e_laws_Definition)), (1, .int .i64 a1), (6, .uslice 1 (x3.1.map e_i64)), (7, .int .i64 x3.2)] (fun P hP => ?_) ?_)
  ·simp only [V0.down, simprocAttr, zz2.down]
   refine w_call0 (ok_laws_toDefinitionS a0 _ e10) rfl rfl rfl rfl (.inl (by rfl)) ?_
   simp only [V0.down, simprocAttr, zz2.down]
   refine w_call0 (ok_spec_CallsOf x2 a1 _ e11) rfl rfl (by simp only [V0.down, simprocAttr, zz2.down, view_s, view_h, viewH_s, share_s, @shares_map _ u_impl_Definition e_impl_Definition (fun _ => sh_u_impl_Definition _)] <;> rfl) rfl (.inr (by simp only [AV.nosh, AV.noshs, @noshs_map _ e_i64 (fun _ => ns_e_i64 _), Bool.and_self])) ?_
   simp only [V0.down, simprocAttr, zz2.down]
   (try simp only [VN.down, simprocAttr, zz2.down] at hP ⊢); exact hP
  obtain ⟨x4, e13, h⟩ := bindE h
  refine wsc (ok_laws_toDefinitionS a0 _ e13) _ ?_
  obtain ⟨x5, e15, h⟩ := bindE h
  refine w_sreg (w_abs [(0, .slice (a0.map e_laws_Definition)), (1, .int .i64 a1), (6, .uslice 1 (x3.1.map e_i64)), (7, .int .i64 x3.2), (8, .uslice 3 (x4.map u_impl_Definition)), (9, .uslice 1 (x5.1.map e_i64)), (10, .int .i64 x5.2)] (fun P hP => ?_) ?_)
  ·simp only [V0.down, simprocAttr, zz2.down]
   refine w_call0 (ok_impl_CallsOf x4 a1 _ e15) rfl rfl (by simp only [V0.down, simprocAttr, zz2.down, view_s, view_h, viewH_s, share_s, @shares_map _ u_impl_Definition e_impl_Definition (fun _ => sh_u_impl_Definition _)] <;> rfl) rfl (.inr (by simp only [AV.nosh, AV.noshs, @noshs_map _ e_i64 (fun _ => ns_e_i64 _), Bool.and_self])) ?_
   simp only [V0.down, simprocAttr, zz2.down]
   (try simp only [VN.down, simprocAttr, zz2.down] at hP ⊢); exact hP
  refine w_seq (fun Q16 n16 q16 x16 => ?_)
  obtain ⟨x6, e18, h⟩ := bindE h
  refine w_sreg (w_abs [(0, .slice (a0.map e_laws_Definition)), (1, .int .i64 a1), (6, .uslice 1 (x3.1.map e_i64)), (7, .int .i64 x3.2), (8, .uslice 3 (x4.map u_impl_Definition)), (9, .uslice 1 (x5.1.map e_i64)), (10, .int .i64 x5.2), (44, .bool ((!x6) || (x5.2 != x3.2)))] (fun P hP => ?_) ?_)
  ·rcases Bool.eq_false_or_eq_true (x6) with s19 | s19
   ·simp only [V0.down, simprocAttr, zz2.down, s19]
    refine w_call0 (ok_laws_eqInt64S x5.1 x3.1 _ e18) rfl rfl (by simp only [V0.down, simprocAttr, zz2.down, s19, view_s, view_h, viewH_s, share_s, @shares_map _ e_i64 e_i64 (fun _ => sh_e_i64 _), @shares_map _ e_i64 e_i64 (fun _ => sh_e_i64 _)] <;> rfl) rfl (.inr (by rfl)) ?_
    simp only [V0.down, simprocAttr, zz2.down, s19]
    (try simp only [VN.down, simprocAttr, zz2.down, s19] at hP ⊢); exact hP
   ·simp only [V0.down, simprocAttr, zz2.down, s19]
    refine w_call0 (ok_laws_eqInt64S x5.1 x3.1 _ e18) rfl rfl (by simp only [V0.down, simprocAttr, zz2.down, s19, view_s, view_h, viewH_s, share_s, @shares_map _ e_i64 e_i64 (fun _ => sh_e_i64 _), @shares_map _ e_i64 e_i64 (fun _ => sh_e_i64 _)] <;> rfl) rfl (.inr (by rfl)) ?_
    simp only [V0.down, simprocAttr, zz2.down, s19]
    (try simp only [VN.down, simprocAttr, zz2.down, s19] at hP ⊢); exact hP
  rcases condE h with ⟨b20, h⟩ | ⟨b20, h⟩
  ·refine w_ct (congrArg AV.bool b20) ?_
   simp only [b20, Bool.not_true, Bool.not_false]
   refine ws _ ?_
   exact w_ret (q16 _ (r0 _ (.inl (w_fin [.bool false] rfl (by cases someE h; rfl) (by decide) outs_nil))))
  ·refine w_cf (congrArg AV.bool b20) ?_
   simp only [b20, Bool.not_true, Bool.not_false]
   refine w_skip (n16 _ (.inl ?_))
   refine w_seq (fun Q22 n22 q22 x22 => ?_)
   obtain ⟨x7, e24, h⟩ := bindE h
   obtain ⟨x8, e25, h⟩ := bindE h
   refine w_sreg (w_abs [(0, .slice (a0.map e_laws_Definition)), (1, .int .i64 a1), (6, .uslice 1 (x3.1.map e_i64)), (7, .int .i64 x3.2), (8, .uslice 3 (x4.map u_impl_Definition)), (9, .uslice 1 (x5.1.map e_i64)), (10, .int .i64 x5.2), (49, .bool (!x8))] (fun P hP => ?_) ?_)
   ·simp only [V0.down, simprocAttr, zz2.down]
    refine w_call0 (ok_laws_toDefinitionS a0 _ e24) rfl rfl rfl rfl (.inl (by rfl)) ?_
    simp only [V0.down, simprocAttr, zz2.down]
    refine w_call0 (ok_laws_eqDefinitionS x4 x7 _ e25) rfl rfl (by simp only [V0.down, simprocAttr, zz2.down, view_s, view_h, viewH_s, share_s, @shares_map _ u_impl_Definition e_impl_Definition (fun _ => sh_u_impl_Definition _), @shares_map _ u_impl_Definition e_impl_Definition (fun _ => sh_u_impl_Definition _)] <;> rfl) rfl (.inr (by rfl)) ?_
    simp only [V0.down, simprocAttr, zz2.down]
    (try simp only [VN.down, simprocAttr, zz2.down] at hP ⊢); exact hP
   rcases condE h with ⟨b26, h⟩ | ⟨b26, h⟩
   ·refine w_ct (congrArg AV.bool b26) ?_
    simp only [(bnT b26), Bool.not_true, Bool.not_false]
    refine ws _ ?_
    exact w_ret (q22 _ (r0 _ (.inl (w_fin [.bool false] rfl (by cases someE h; rfl) (by decide) outs_nil))))
   ·refine w_cf (congrArg AV.bool b26) ?_
    simp only [(bnF b26), Bool.not_true, Bool.not_false]
    refine w_skip (n22 _ (.inl ?_))
    refine ws _ ?_
    obtain ⟨x9, e30, h⟩ := bindE h
    refine w_sreg (w_abs [(0, .slice (a0.map e_laws_Definition)), (1, .int .i64 a1), (6, .uslice 1 (x3.1.map e_i64)), (7, .int .i64 x3.2), (9, .uslice 1 (x5.1.map e_i64)), (10, .int .i64 x5.2), (11, .int .i64 x9.1)] (fun P hP => ?_) ?_)
    ·simp only [V0.down, simprocAttr, zz2.down]
     refine w_callp0 [⟨.h 8 [], true, _, _⟩, ⟨.int .i64 1, false, _, .hole⟩] (ok_laws_markDefinitionS x4 1 _ e30) rfl rfl rfl (by simp only [V0.down, simprocAttr, zz2.down, c_nrm, okp_s, own_r, view_s, view_h, viewH_s, share_s, or_true, true_or, @shares_map _ u_impl_Definition e_impl_Definition (fun _ => sh_u_impl_Definition _)]) rfl rfl (.inl rfl) ?_
     simp only [V0.down, simprocAttr, zz2.down, gv_s]
     (try simp only [VN.down, simprocAttr, zz2.down] at hP ⊢); exact hP
    refine w_seq (fun Q31 n31 q31 x31 => ?_)
    rcases condE h with ⟨b33, h⟩ | ⟨b33, h⟩
    ·refine wsf b33 _ ?_
     refine w_ct rfl ?_
     refine ws _ ?_
     exact w_ret (q31 _ (r0 _ (.inl (w_fin [.bool false] rfl (by cases someE h; rfl) (by decide) outs_nil))))
    ·obtain ⟨x10, e35, h⟩ := bindE h
     refine w_sreg (w_abs [(0, .slice (a0.map e_laws_Definition)), (1, .int .i64 a1), (6, .uslice 1 (x3.1.map e_i64)), (7, .int .i64 x3.2), (9, .uslice 1 (x5.1.map e_i64)), (65, .bool ((!x10) || (x5.2 != x3.2)))] (fun P hP => ?_) ?_)
     ·rcases Bool.eq_false_or_eq_true (x10) with s36 | s36
      ·simp only [V0.down, simprocAttr, zz3.down, b33, s36]
       refine w_callg0 (ok_laws_eqInt64S x5.1 x3.1 _ e35) rfl rfl (by simp only [V0.down, simprocAttr, zz3.down, b33, s36, view_s, view_h, viewH_s, share_s, @shares_map _ e_i64 e_i64 (fun _ => sh_e_i64 _), @shares_map _ e_i64 e_i64 (fun _ => sh_e_i64 _)] <;> rfl) rfl (.inr (by rfl)) ?_
       simp only [V0.down, simprocAttr, zz3.down, b33, s36]
       (try simp only [VN.down, simprocAttr, zz3.down, b33, s36] at hP ⊢); exact hP
      ·simp only [V0.down, simprocAttr, zz3.down, b33, s36]
       refine w_callg0 (ok_laws_eqInt64S x5.1 x3.1 _ e35) rfl rfl (by simp only [V0.down, simprocAttr, zz3.down, b33, s36, view_s, view_h, viewH_s, share_s, @shares_map _ e_i64 e_i64 (fun _ => sh_e_i64 _), @shares_map _ e_i64 e_i64 (fun _ => sh_e_i64 _)] <;> rfl) rfl (.inr (by rfl)) ?_
       simp only [V0.down, simprocAttr, zz3.down, b33, s36]
       (try simp only [VN.down, simprocAttr, zz3.down, b33, s36] at hP ⊢); exact hP
     rcases condE h with ⟨b37, h⟩ | ⟨b37, h⟩
     ·refine w_ct (congrArg AV.bool b37) ?_
      simp only [b37, Bool.not_true, Bool.not_false]
      refine ws _ ?_
      exact w_ret (q31 _ (r0 _ (.inl (w_fin [.bool false] rfl (by cases someE h; rfl) (by decide) outs_nil))))
     ·refine w_cf (congrArg AV.bool b37) ?_
      simp only [b37, Bool.not_true, Bool.not_false]
      refine w_skip (n31 _ (.inl ?_))
      refine ws _ ?_
      obtain ⟨x11, e41, h⟩ := bindE h
      refine w_sreg (w_abs [(0, .slice (a0.map e_laws_Definition)), (1, .int .i64 a1), (6, .uslice 1 (x3.1.map e_i64)), (7, .int .i64 x3.2), (9, .uslice 1 (x11.2.map e_i64)), (12, .int .i64 x11.1)] (fun P hP => ?_) ?_)
      ·simp only [V0.down, simprocAttr, zz3.down]
       refine w_callp0 [⟨.h 9 [], true, _, _⟩, ⟨.int .i64 1, false, _, .hole⟩] (ok_laws_markInt64S x5.1 1 _ e41) rfl rfl rfl (by simp only [V0.down, simprocAttr, zz3.down, c_nrm, okp_s, own_r, view_s, view_h, viewH_s, share_s, or_true, true_or, @shares_map _ e_i64 e_i64 (fun _ => sh_e_i64 _)]) rfl rfl (.inl rfl) ?_
       simp only [V0.down, simprocAttr, zz3.down, gv_s]
       (try simp only [VN.down, simprocAttr, zz3.down] at hP ⊢); exact hP
      refine ws _ ?_
      obtain ⟨x12, e44, h⟩ := bindE h
      refine w_sreg (w_abs [(0, .slice (a0.map e_laws_Definition)), (1, .int .i64 a1), (6, .uslice 1 (x3.1.map e_i64)), (7, .int .i64 x3.2), (9, .uslice 1 (x11.2.map e_i64)), (12, .int .i64 x11.1), (13, .int .i64 x12)] (fun P hP => ?_) ?_)
      ·simp only [V0.down, simprocAttr, zz3.down]
       refine w_call0 (ok_laws_heldInt64S x11.2 1 _ e44) rfl rfl (by simp only [V0.down, simprocAttr, zz3.down, view_s, view_h, viewH_s, share_s, @shares_map _ e_i64 e_i64 (fun _ => sh_e_i64 _)] <;> rfl) rfl (.inr (by rfl)) ?_
       simp only [V0.down, simprocAttr, zz3.down]
       (try simp only [VN.down, simprocAttr, zz3.down] at hP ⊢); exact hP
      refine w_seq (fun Q45 n45 q45 x45 => ?_)
      refine ws _ ?_
      rcases condE h with ⟨b47, h⟩ | ⟨b47, h⟩
      ·refine w_ct (congrArg AV.bool b47) ?_
       simp only [b47, Bool.not_true, Bool.not_false]
       refine ws _ ?_
       exact w_ret (q45 _ (r0 _ (.inl (w_fin [.bool false] rfl (by cases someE h; rfl) (by decide) outs_nil))))
      ·refine w_cf (congrArg AV.bool b47) ?_
       simp only [b47, Bool.not_true, Bool.not_false]
       refine w_skip (n45 _ (.inl ?_))
       refine w_seq (fun Q49 n49 q49 x49 => ?_)
       refine ws _ ?_
       rcases condE h with ⟨b51, h⟩ | ⟨b51, h⟩
       ·refine w_ct (congrArg AV.bool b51) ?_
        simp only [b51, Bool.not_true, Bool.not_false]
        refine ws _ ?_
        exact w_ret (q49 _ (r0 _ (.inl (w_fin [.bool false] rfl (by cases someE h; rfl) (by decide) outs_nil))))
       ·refine w_cf (congrArg AV.bool b51) ?_
        simp only [b51, Bool.not_true, Bool.not_false]
        refine w_skip (n49 _ (.inl ?_))
        obtain ⟨x13, e54, h⟩ := bindE h
        obtain ⟨x14, e55, h⟩ := bindE h
        refine w_sreg (w_abs [(6, .uslice 1 (x3.1.map e_i64)), (7, .int .i64 x3.2), (9, .uslice 1 (x11.2.map e_i64)), (12, .int .i64 x11.1), (14, .uslice 1 (x14.1.map e_i64)), (15, .int .i64 x14.2)] (fun P hP => ?_) ?_)
        ·simp only [V0.down, simprocAttr, zz2.down]
         refine w_call0 (ok_laws_toDefinitionS a0 _ e54) rfl rfl rfl rfl (.inl (by rfl)) ?_
         simp only [V0.down, simprocAttr, zz2.down]
         refine w_call0 (ok_impl_CallsOf x13 a1 _ e55) rfl rfl (by simp only [V0.down, simprocAttr, zz2.down, view_s, view_h, viewH_s, share_s, @shares_map _ u_impl_Definition e_impl_Definition (fun _ => sh_u_impl_Definition _)] <;> rfl) rfl (.inr (by simp only [AV.nosh, AV.noshs, @noshs_map _ e_i64 (fun _ => ns_e_i64 _), Bool.and_self])) ?_
         simp only [V0.down, simprocAttr, zz2.down]
         (try simp only [VN.down, simprocAttr, zz2.down] at hP ⊢); exact hP
        refine w_seq (fun Q56 n56 q56 x56 => ?_)
        obtain ⟨x15, e58, h⟩ := bindE h
        refine w_sreg (w_abs [(9, .uslice 1 (x11.2.map e_i64)), (12, .int .i64 x11.1), (92, .bool ((!x15) || (x14.2 != x3.2)))] (fun P hP => ?_) ?_)
        ·rcases Bool.eq_false_or_eq_true (x15) with s59 | s59
         ·simp only [V0.down, simprocAttr, e_i64, s59]
          refine w_call0 (ok_laws_eqInt64S x14.1 x3.1 _ e58) rfl rfl (by simp only [V0.down, simprocAttr, e_i64, s59, view_s, view_h, viewH_s, share_s, @shares_map _ e_i64 e_i64 (fun _ => sh_e_i64 _), @shares_map _ e_i64 e_i64 (fun _ => sh_e_i64 _)] <;> rfl) rfl (.inr (by rfl)) ?_
          simp only [V0.down, simprocAttr, e_i64, s59]
          (try simp only [VN.down, simprocAttr, e_i64, s59] at hP ⊢); exact hP
         ·simp only [V0.down, simprocAttr, e_i64, s59]
          refine w_call0 (ok_laws_eqInt64S x14.1 x3.1 _ e58) rfl rfl (by simp only [V0.down, simprocAttr, e_i64, s59, view_s, view_h, viewH_s, share_s, @shares_map _ e_i64 e_i64 (fun _ => sh_e_i64 _), @shares_map _ e_i64 e_i64 (fun _ => sh_e_i64 _)] <;> rfl) rfl (.inr (by rfl)) ?_
          simp only [V0.down, simprocAttr, e_i64, s59]
          (try simp only [VN.down, simprocAttr, e_i64, s59] at hP ⊢); exact hP
        rcases condE h with ⟨b60, h⟩ | ⟨b60, h⟩
        ·refine w_ct (congrArg AV.bool b60) ?_
         simp only [b60, Bool.not_true, Bool.not_false]
         refine ws _ ?_
         exact w_ret (q56 _ (r0 _ (.inl (w_fin [.bool false] rfl (by cases someE h; rfl) (by decide) outs_nil))))
        ·refine w_cf (congrArg AV.bool b60) ?_
         simp only [b60, Bool.not_true, Bool.not_false]
         refine w_skip (n56 _ (.inl ?_))
         refine ws _ ?_
         obtain ⟨x16, e64, h⟩ := bindE h
         refine w_sreg (w_abs [(12, .int .i64 x11.1), (13, .int .i64 x16)] (fun P hP => ?_) ?_)
         ·simp only [V0.down, simprocAttr, e_i64]
          refine w_call0 (ok_laws_heldInt64S x11.2 1 _ e64) rfl rfl (by simp only [V0.down, simprocAttr, e_i64, view_s, view_h, viewH_s, share_s, @shares_map _ e_i64 e_i64 (fun _ => sh_e_i64 _)] <;> rfl) rfl (.inr (by rfl)) ?_
          simp only [V0.down, simprocAttr, e_i64]
          (try simp only [VN.down, simprocAttr, e_i64] at hP ⊢); exact hP
         refine w_seq (fun Q65 n65 q65 x65 => ?_)
         refine ws _ ?_
         rcases condE h with ⟨b67, h⟩ | ⟨b67, h⟩
         ·refine w_ct (congrArg AV.bool b67) ?_
          simp only [b67, Bool.not_true, Bool.not_false]
          refine ws _ ?_
          exact w_ret (q65 _ (r0 _ (.inl (w_fin [.bool false] rfl (by cases someE h; rfl) (by decide) outs_nil))))
         ·refine w_cf (congrArg AV.bool b67) ?_
          simp only [b67, Bool.not_true, Bool.not_false]
          refine w_skip (n65 _ (.inl ?_))
          refine w_seq (fun Q69 n69 q69 x69 => ?_)
          refine ws _ ?_
          rcases condE h with ⟨b71, h⟩ | ⟨b71, h⟩
          ·refine w_ct (congrArg AV.bool b71) ?_
           simp only [b71, Bool.not_true, Bool.not_false]
           refine ws _ ?_
           exact w_ret (q69 _ (r0 _ (.inl (w_fin [.bool false] rfl (by cases someE h; rfl) (by decide) outs_nil))))
          ·refine w_cf (congrArg AV.bool b71) ?_
           simp only [b71, Bool.not_true, Bool.not_false]
           refine w_skip (n69 _ (.inl ?_))
           refine ws _ ?_
           exact w_ret (r0 _ (.inl (w_fin [.bool true] rfl (by cases someE h; rfl) (by decide) outs_nil)))

end Go.Proofs.Ytbemmmimelklkaa
