/- Part of a proof that a law returns true for every input. No condition. -/
import Derived.Test.YtobljppjkklojaaGreatC8
namespace Go.Proofs.YtobljppjkklojaaGreat
open Go Go.Fw Go.Sh
set_option maxRecDepth 100000
set_option linter.unusedSimpArgs false
set_option linter.unusedVariables false

def ZZ := PLift.up (And.intro @tt2 (And.intro @tt4 (And.intro @tt9 (And.intro @tt22 (And.intro @tt38 (And.intro @tt39 (And.intro @tt40 (And.intro @tt41 (And.intro @tt43 (And.intro @tt46 (And.intro @tt47 (And.intro @tt48 (And.intro @tt50 (And.intro @tt65 (And.intro @tt68 (And.intro @tt84 (And.intro @tt85 (And.intro @tt105 (And.intro @tt116 (And.intro @tt119 (And.intro @tt129 (And.intro @tt131 (And.intro @tt138 (And.intro @tt139 (And.intro @tt159 (And.intro @tt171 (And.intro @tt173 (And.intro @tt175 (And.intro @tt176 (And.intro @tt178 (And.intro @tt202 (And.intro @tt204 (And.intro @tt205 (And.intro @tt256 (And.intro @tt261 (And.intro @e_i64.eq_1 (And.intro @e_impl_Component.eq_1 (And.intro @e_impl_Definition.eq_1 (And.intro @e_impl_Meeting.eq_1 (And.intro @e_impl_Part.eq_1 (And.intro @e_impl_Point.eq_1 (And.intro @e_impl_System.eq_1 (And.intro @e_impl_Term.eq_1 (And.intro @e_impl_place.eq_1 (And.intro @e_laws_Component.eq_1 (And.intro @e_laws_Definition.eq_1 (And.intro @e_laws_Meeting.eq_1 (And.intro @e_laws_Part.eq_1 (And.intro @e_laws_Point.eq_1 (And.intro @e_laws_System.eq_1 (And.intro @e_laws_Term.eq_1 (And.intro @e_s_impl_Term.eq_1 (And.intro @e_s_laws_Term.eq_1 (And.intro @e_str.eq_1 (And.intro @u_impl_Component.eq_1 (And.intro @u_impl_Definition.eq_1 (And.intro @u_impl_Part.eq_1 (And.intro @u_impl_Point.eq_1 (And.intro @u_impl_System.eq_1 @u_s_impl_Term.eq_1)))))))))))))))))))))))))))))))))))))))))))))))))))))))))))
theorem ws {Q : Exit → St → Prop} {l : List (Nat × AV)} {ros : List RO} {k : List Nat} {b : SC} (l' : List (Nat × AV)) (hk : wpC Cc b Q (stA l')) (h : ∀ P : List (Nat × AV) → Prop, P l' → wpT Cc (stA l) ros none (fun _ s => P (kpA k s)) := by
  intro P hP
  simp only [V0.down, simprocAttr, ZZ.down]
  (try simp only [VN.down, simprocAttr, ZZ.down] at hP ⊢)
  exact hP) : wpC Cc (.seq (.reg ros (some k)) b) Q (stA l) :=
  w_sreg (w_abs l' (h) hk)
theorem wsc {Q : Exit → St → Prop} {l : List (Nat × AV)} {ros : List RO} {k : List Nat} {b : SC} {g : FuncId} {ds : List AV} {r : AV} (ok : OkAt Cc g ds r []) (l' : List (Nat × AV)) (hk : wpC Cc b Q (stA l')) (h : OkAt Cc g ds r [] → ∀ P : List (Nat × AV) → Prop, P l' → wpT Cc (stA l) ros none (fun _ s => P (kpA k s)) := by
  intro okk P hP
  (try simp only [V0.down, simprocAttr, ZZ.down])
  refine w_call0 okk rfl rfl rfl rfl (.inl (by rfl)) ?_
  simp only [V0.down, simprocAttr, ZZ.down]
  (try simp only [VN.down, simprocAttr, ZZ.down] at hP ⊢)
  exact hP) : wpC Cc (.seq (.reg ros (some k)) b) Q (stA l) :=
  w_sreg (w_abs l' (h ok) hk)
theorem wsf {F : Prop} (hF : F) {Q : Exit → St → Prop} {l : List (Nat × AV)} {ros : List RO} {k : List Nat} {b : SC} (l' : List (Nat × AV)) (hk : wpC Cc b Q (stA l')) (h : F → ∀ P : List (Nat × AV) → Prop, P l' → wpT Cc (stA l) ros none (fun _ s => P (kpA k s)) := by
  intro hF P hP
  simp only [V0.down, simprocAttr, ZZ.down, hF]
  (try simp only [VN.down, simprocAttr, ZZ.down, hF] at hP ⊢)
  exact hP) : wpC Cc (.seq (.reg ros (some k)) b) Q (stA l) :=
  w_sreg (w_abs l' (h hF) hk)
theorem wscf {F : Prop} (hF : F) {Q : Exit → St → Prop} {l : List (Nat × AV)} {ros : List RO} {k : List Nat} {b : SC} {g : FuncId} {ds : List AV} {r : AV} (ok : OkAt Cc g ds r []) (l' : List (Nat × AV)) (hk : wpC Cc b Q (stA l')) (h : OkAt Cc g ds r [] → F → ∀ P : List (Nat × AV) → Prop, P l' → wpT Cc (stA l) ros none (fun _ s => P (kpA k s)) := by
  intro okk hF P hP
  (try simp only [V0.down, simprocAttr, ZZ.down, hF])
  refine w_call0 okk rfl rfl rfl rfl (.inl (by rfl)) ?_
  simp only [V0.down, simprocAttr, ZZ.down, hF]
  (try simp only [VN.down, simprocAttr, ZZ.down, hF] at hP ⊢)
  exact hP) : wpC Cc (.seq (.reg ros (some k)) b) Q (stA l) :=
  w_sreg (w_abs l' (h ok hF) hk)
theorem wr {Q : Exit → St → Prop} {l : List (Nat × AV)} {ros : List RO} {k : List Nat} (l' : List (Nat × AV)) (hk : Q .normal (stA l')) (h : ∀ P : List (Nat × AV) → Prop, P l' → wpT Cc (stA l) ros none (fun _ s => P (kpA k s)) := by
  intro P hP
  simp only [V0.down, simprocAttr, ZZ.down]
  (try simp only [VN.down, simprocAttr, ZZ.down] at hP ⊢)
  exact hP) : wpC Cc (.reg ros (some k)) Q (stA l) :=
  w_reg (w_abs l' (h) hk)
theorem wrc {Q : Exit → St → Prop} {l : List (Nat × AV)} {ros : List RO} {k : List Nat} {g : FuncId} {ds : List AV} {r : AV} (ok : OkAt Cc g ds r []) (l' : List (Nat × AV)) (hk : Q .normal (stA l')) (h : OkAt Cc g ds r [] → ∀ P : List (Nat × AV) → Prop, P l' → wpT Cc (stA l) ros none (fun _ s => P (kpA k s)) := by
  intro okk P hP
  (try simp only [V0.down, simprocAttr, ZZ.down])
  refine w_call0 okk rfl rfl rfl rfl (.inl (by rfl)) ?_
  simp only [V0.down, simprocAttr, ZZ.down]
  (try simp only [VN.down, simprocAttr, ZZ.down] at hP ⊢)
  exact hP) : wpC Cc (.reg ros (some k)) Q (stA l) :=
  w_reg (w_abs l' (h ok) hk)
theorem wrf {F : Prop} (hF : F) {Q : Exit → St → Prop} {l : List (Nat × AV)} {ros : List RO} {k : List Nat} (l' : List (Nat × AV)) (hk : Q .normal (stA l')) (h : F → ∀ P : List (Nat × AV) → Prop, P l' → wpT Cc (stA l) ros none (fun _ s => P (kpA k s)) := by
  intro hF P hP
  simp only [V0.down, simprocAttr, ZZ.down, hF]
  (try simp only [VN.down, simprocAttr, ZZ.down, hF] at hP ⊢)
  exact hP) : wpC Cc (.reg ros (some k)) Q (stA l) :=
  w_reg (w_abs l' (h hF) hk)
theorem wrcf {F : Prop} (hF : F) {Q : Exit → St → Prop} {l : List (Nat × AV)} {ros : List RO} {k : List Nat} {g : FuncId} {ds : List AV} {r : AV} (ok : OkAt Cc g ds r []) (l' : List (Nat × AV)) (hk : Q .normal (stA l')) (h : OkAt Cc g ds r [] → F → ∀ P : List (Nat × AV) → Prop, P l' → wpT Cc (stA l) ros none (fun _ s => P (kpA k s)) := by
  intro okk hF P hP
  (try simp only [V0.down, simprocAttr, ZZ.down, hF])
  refine w_call0 okk rfl rfl rfl rfl (.inl (by rfl)) ?_
  simp only [V0.down, simprocAttr, ZZ.down, hF]
  (try simp only [VN.down, simprocAttr, ZZ.down, hF] at hP ⊢)
  exact hP) : wpC Cc (.reg ros (some k)) Q (stA l) :=
  w_reg (w_abs l' (h ok hF) hk)
def zz0 := PLift.up (And.intro @e_impl_Definition.eq_1 (And.intro @e_impl_Part.eq_1 (And.intro @e_impl_Term.eq_1 @e_s_impl_Term.eq_1)))
def zz1 := PLift.up (And.intro @tt9 (And.intro @tt48 (And.intro @tt119 @e_impl_Meeting.eq_1)))
def zz2 := PLift.up (And.intro @tt2 (And.intro @tt9 (And.intro @tt46 (And.intro @tt84 (And.intro @tt85 (And.intro @tt159 (And.intro @tt176 (And.intro @tt178 (And.intro @tt202 (And.intro @e_impl_Definition.eq_1 (And.intro @e_impl_Part.eq_1 (And.intro @e_impl_Term.eq_1 @e_s_impl_Term.eq_1))))))))))))
def zz3 := PLift.up (And.intro @e_impl_Part.eq_1 (And.intro @e_impl_Term.eq_1 @e_s_impl_Term.eq_1))
def zz4 := PLift.up (And.intro @tt9 (And.intro @tt119 @e_impl_Meeting.eq_1))
def zz5 := PLift.up (And.intro @e_impl_Definition.eq_1 (And.intro @e_impl_Part.eq_1 (And.intro @e_impl_Term.eq_1 (And.intro @e_impl_place.eq_1 @e_s_impl_Term.eq_1))))
def zz6 := PLift.up (And.intro @tt2 (And.intro @tt9 (And.intro @tt84 (And.intro @tt85 (And.intro @tt159 (And.intro @tt202 (And.intro @e_impl_Part.eq_1 (And.intro @e_impl_Term.eq_1 @e_s_impl_Term.eq_1))))))))
def zz7 := PLift.up (And.intro @tt2 (And.intro @tt84 (And.intro @tt159 @e_impl_Term.eq_1)))
def zz8 := PLift.up (And.intro @tt2 (And.intro @tt9 (And.intro @tt22 (And.intro @tt41 (And.intro @tt46 (And.intro @tt47 (And.intro @tt48 (And.intro @tt50 (And.intro @tt84 (And.intro @tt85 (And.intro @tt105 (And.intro @tt119 (And.intro @tt159 (And.intro @tt176 (And.intro @tt178 (And.intro @tt202 (And.intro @e_i64.eq_1 (And.intro @e_impl_Component.eq_1 (And.intro @e_impl_Definition.eq_1 (And.intro @e_impl_Meeting.eq_1 (And.intro @e_impl_Part.eq_1 (And.intro @e_impl_System.eq_1 (And.intro @e_impl_Term.eq_1 (And.intro @e_s_impl_Term.eq_1 @e_str.eq_1))))))))))))))))))))))))
def zz9 := PLift.up (And.intro @tt2 (And.intro @tt9 (And.intro @tt84 (And.intro @tt85 (And.intro @tt159 (And.intro @tt176 (And.intro @tt178 (And.intro @tt202 (And.intro @e_impl_Definition.eq_1 (And.intro @e_impl_Part.eq_1 (And.intro @e_impl_Term.eq_1 @e_s_impl_Term.eq_1)))))))))))
def zz10 := PLift.up (And.intro @e_i64.eq_1 (And.intro @e_impl_Component.eq_1 (And.intro @e_impl_Definition.eq_1 (And.intro @e_impl_Meeting.eq_1 (And.intro @e_impl_Part.eq_1 (And.intro @e_impl_Point.eq_1 (And.intro @e_impl_System.eq_1 (And.intro @e_impl_Term.eq_1 (And.intro @e_s_impl_Term.eq_1 @e_str.eq_1)))))))))
def zz11 := PLift.up (And.intro @tt2 (And.intro @tt9 (And.intro @tt46 (And.intro @tt84 (And.intro @tt85 (And.intro @tt159 (And.intro @tt176 (And.intro @tt178 (And.intro @tt202 (And.intro @e_impl_Definition.eq_1 (And.intro @e_impl_Part.eq_1 (And.intro @e_impl_Term.eq_1 (And.intro @e_impl_place.eq_1 @e_s_impl_Term.eq_1)))))))))))))
def zz12 := PLift.up (And.intro @e_i64.eq_1 (And.intro @e_impl_Definition.eq_1 (And.intro @e_impl_Part.eq_1 (And.intro @e_impl_Point.eq_1 (And.intro @e_impl_Term.eq_1 @e_s_impl_Term.eq_1)))))
def zz13 := PLift.up (And.intro @tt2 (And.intro @tt22 (And.intro @tt131 (And.intro @e_i64.eq_1 (And.intro @e_impl_Definition.eq_1 (And.intro @e_impl_Part.eq_1 (And.intro @e_impl_Point.eq_1 (And.intro @e_impl_Term.eq_1 @e_s_impl_Term.eq_1))))))))
def zz14 := PLift.up (And.intro @tt2 (And.intro @tt9 (And.intro @tt22 (And.intro @tt46 (And.intro @tt84 (And.intro @tt85 (And.intro @tt105 (And.intro @tt159 (And.intro @tt176 (And.intro @tt178 (And.intro @tt202 (And.intro @e_i64.eq_1 (And.intro @e_impl_Component.eq_1 (And.intro @e_impl_Definition.eq_1 (And.intro @e_impl_Part.eq_1 (And.intro @e_impl_Term.eq_1 @e_s_impl_Term.eq_1))))))))))))))))
def zz15 := PLift.up (And.intro @e_i64.eq_1 (And.intro @e_laws_Point.eq_1 @u_impl_Point.eq_1))
def zz16 := PLift.up (And.intro @e_i64.eq_1 (And.intro @e_impl_Component.eq_1 (And.intro @e_impl_Definition.eq_1 (And.intro @e_impl_Meeting.eq_1 (And.intro @e_impl_Part.eq_1 (And.intro @e_impl_System.eq_1 (And.intro @e_impl_Term.eq_1 (And.intro @e_s_impl_Term.eq_1 @e_str.eq_1))))))))
def zz17 := PLift.up (And.intro @tt2 (And.intro @tt9 (And.intro @tt22 (And.intro @tt41 (And.intro @tt46 (And.intro @tt47 (And.intro @tt48 (And.intro @tt50 (And.intro @tt68 (And.intro @tt84 (And.intro @tt85 (And.intro @tt105 (And.intro @tt119 (And.intro @tt131 (And.intro @tt159 (And.intro @tt176 (And.intro @tt178 (And.intro @tt202 (And.intro @e_i64.eq_1 (And.intro @e_impl_Component.eq_1 (And.intro @e_impl_Definition.eq_1 (And.intro @e_impl_Meeting.eq_1 (And.intro @e_impl_Part.eq_1 (And.intro @e_impl_Point.eq_1 (And.intro @e_impl_System.eq_1 (And.intro @e_impl_Term.eq_1 (And.intro @e_s_impl_Term.eq_1 @e_str.eq_1)))))))))))))))))))))))))))
def zz18 := PLift.up (And.intro @tt2 (And.intro @tt9 (And.intro @tt84 (And.intro @tt85 (And.intro @tt159 (And.intro @tt202 (And.intro @e_impl_Definition.eq_1 (And.intro @e_impl_Part.eq_1 (And.intro @e_impl_Term.eq_1 @e_s_impl_Term.eq_1)))))))))
def zz19 := PLift.up (And.intro @e_impl_Part.eq_1 (And.intro @e_impl_Term.eq_1 (And.intro @e_impl_place.eq_1 @e_s_impl_Term.eq_1)))
def zz20 := PLift.up (And.intro @tt2 (And.intro @tt9 (And.intro @tt22 (And.intro @tt46 (And.intro @tt84 (And.intro @tt85 (And.intro @tt131 (And.intro @tt159 (And.intro @tt176 (And.intro @tt178 (And.intro @tt202 (And.intro @e_i64.eq_1 (And.intro @e_impl_Definition.eq_1 (And.intro @e_impl_Part.eq_1 (And.intro @e_impl_Point.eq_1 (And.intro @e_impl_Term.eq_1 @e_s_impl_Term.eq_1))))))))))))))))
def zz21 := PLift.up (And.intro @tt2 (And.intro @tt4 (And.intro @tt9 (And.intro @tt22 (And.intro @tt84 (And.intro @tt85 (And.intro @tt131 (And.intro @tt159 (And.intro @tt176 (And.intro @tt178 (And.intro @tt202 (And.intro @tt204 (And.intro @tt205 (And.intro @e_i64.eq_1 (And.intro @e_impl_Definition.eq_1 (And.intro @e_impl_Part.eq_1 (And.intro @e_impl_Point.eq_1 (And.intro @e_impl_Term.eq_1 (And.intro @e_impl_place.eq_1 @e_s_impl_Term.eq_1)))))))))))))))))))
def zz22 := PLift.up (And.intro @tt2 (And.intro @tt9 (And.intro @tt22 (And.intro @tt38 (And.intro @tt39 (And.intro @tt40 (And.intro @tt41 (And.intro @tt43 (And.intro @tt116 (And.intro @tt138 (And.intro @tt139 (And.intro @tt171 (And.intro @tt173 (And.intro @tt175 (And.intro @tt256 (And.intro @tt261 (And.intro @e_i64.eq_1 (And.intro @e_impl_Meeting.eq_1 (And.intro @e_impl_Term.eq_1 (And.intro @e_laws_Component.eq_1 (And.intro @e_laws_Definition.eq_1 (And.intro @e_laws_Meeting.eq_1 (And.intro @e_laws_Part.eq_1 (And.intro @e_laws_Point.eq_1 (And.intro @e_laws_System.eq_1 (And.intro @e_laws_Term.eq_1 (And.intro @e_s_laws_Term.eq_1 (And.intro @e_str.eq_1 (And.intro @u_impl_Component.eq_1 (And.intro @u_impl_Definition.eq_1 (And.intro @u_impl_Part.eq_1 (And.intro @u_impl_Point.eq_1 (And.intro @u_impl_System.eq_1 @u_s_impl_Term.eq_1)))))))))))))))))))))))))))))))))
def zz23 := PLift.up (And.intro @tt2 (And.intro @tt9 (And.intro @tt84 (And.intro @tt85 (And.intro @tt159 (And.intro @tt176 (And.intro @tt202 (And.intro @e_impl_Part.eq_1 (And.intro @e_impl_Term.eq_1 @e_s_impl_Term.eq_1)))))))))
def zz24 := PLift.up (And.intro @tt2 (And.intro @tt9 (And.intro @tt22 (And.intro @tt84 (And.intro @tt85 (And.intro @tt131 (And.intro @tt159 (And.intro @tt176 (And.intro @tt178 (And.intro @tt202 (And.intro @e_i64.eq_1 (And.intro @e_impl_Definition.eq_1 (And.intro @e_impl_Part.eq_1 (And.intro @e_impl_Point.eq_1 (And.intro @e_impl_Term.eq_1 @e_s_impl_Term.eq_1)))))))))))))))
def zz25 := PLift.up (And.intro @tt2 (And.intro @tt4 (And.intro @tt9 (And.intro @tt84 (And.intro @tt85 (And.intro @tt159 (And.intro @tt202 (And.intro @tt204 (And.intro @e_impl_Part.eq_1 (And.intro @e_impl_Term.eq_1 (And.intro @e_impl_place.eq_1 @e_s_impl_Term.eq_1)))))))))))
def zz26 := PLift.up (And.intro @tt2 (And.intro @tt9 (And.intro @tt84 (And.intro @tt85 (And.intro @tt159 (And.intro @tt202 (And.intro @e_impl_Definition.eq_1 (And.intro @e_impl_Part.eq_1 (And.intro @e_impl_Term.eq_1 (And.intro @e_impl_place.eq_1 @e_s_impl_Term.eq_1))))))))))
def zz27 := PLift.up (And.intro @tt2 (And.intro @tt9 (And.intro @tt22 (And.intro @tt38 (And.intro @tt39 (And.intro @tt40 (And.intro @tt41 (And.intro @tt43 (And.intro @tt46 (And.intro @tt47 (And.intro @tt48 (And.intro @tt50 (And.intro @tt84 (And.intro @tt85 (And.intro @tt105 (And.intro @tt116 (And.intro @tt119 (And.intro @tt138 (And.intro @tt139 (And.intro @tt159 (And.intro @tt171 (And.intro @tt173 (And.intro @tt175 (And.intro @tt176 (And.intro @tt178 (And.intro @tt202 (And.intro @tt256 (And.intro @tt261 (And.intro @e_i64.eq_1 (And.intro @e_impl_Meeting.eq_1 (And.intro @e_impl_Term.eq_1 (And.intro @e_laws_Component.eq_1 (And.intro @e_laws_Definition.eq_1 (And.intro @e_laws_Meeting.eq_1 (And.intro @e_laws_Part.eq_1 (And.intro @e_laws_Point.eq_1 (And.intro @e_laws_System.eq_1 (And.intro @e_laws_Term.eq_1 (And.intro @e_s_laws_Term.eq_1 (And.intro @e_str.eq_1 (And.intro @u_impl_Component.eq_1 (And.intro @u_impl_Definition.eq_1 (And.intro @u_impl_Part.eq_1 (And.intro @u_impl_Point.eq_1 (And.intro @u_impl_System.eq_1 @u_s_impl_Term.eq_1)))))))))))))))))))))))))))))))))))))))))))))
def zz28 := PLift.up (And.intro @tt2 (And.intro @tt4 (And.intro @tt204 (And.intro @tt247 (And.intro @e_impl_Definition.eq_1 (And.intro @e_impl_Part.eq_1 (And.intro @e_impl_Term.eq_1 (And.intro @e_impl_place.eq_1 @e_s_impl_Term.eq_1))))))))
def zz29 := PLift.up (And.intro @tt2 (And.intro @tt4 (And.intro @tt9 (And.intro @tt84 (And.intro @tt85 (And.intro @tt159 (And.intro @tt176 (And.intro @tt178 (And.intro @tt202 (And.intro @tt204 (And.intro @tt247 (And.intro @e_impl_Definition.eq_1 (And.intro @e_impl_Part.eq_1 (And.intro @e_impl_Term.eq_1 (And.intro @e_impl_place.eq_1 @e_s_impl_Term.eq_1)))))))))))))))
def zz30 := PLift.up (And.intro @tt2 (And.intro @tt9 (And.intro @tt84 (And.intro @tt85 (And.intro @tt159 (And.intro @tt202 (And.intro @e_impl_Part.eq_1 (And.intro @e_impl_Term.eq_1 (And.intro @e_impl_place.eq_1 @e_s_impl_Term.eq_1)))))))))
def zz31 := PLift.up (And.intro @e_i64.eq_1 (And.intro @e_impl_Component.eq_1 (And.intro @e_impl_Definition.eq_1 (And.intro @e_impl_Part.eq_1 (And.intro @e_impl_Term.eq_1 @e_s_impl_Term.eq_1)))))
def zz32 := PLift.up (And.intro @e_i64.eq_1 (And.intro @e_impl_Meeting.eq_1 (And.intro @e_impl_Term.eq_1 (And.intro @e_laws_Component.eq_1 (And.intro @e_laws_Definition.eq_1 (And.intro @e_laws_Meeting.eq_1 (And.intro @e_laws_Part.eq_1 (And.intro @e_laws_Point.eq_1 (And.intro @e_laws_System.eq_1 (And.intro @e_laws_Term.eq_1 (And.intro @e_s_laws_Term.eq_1 (And.intro @e_str.eq_1 (And.intro @u_impl_Component.eq_1 (And.intro @u_impl_Definition.eq_1 (And.intro @u_impl_Part.eq_1 (And.intro @u_impl_Point.eq_1 (And.intro @u_impl_System.eq_1 @u_s_impl_Term.eq_1)))))))))))))))))
def zz33 := PLift.up (And.intro @tt2 (And.intro @tt9 (And.intro @tt22 (And.intro @tt41 (And.intro @tt46 (And.intro @tt47 (And.intro @tt48 (And.intro @tt50 (And.intro @tt84 (And.intro @tt85 (And.intro @tt105 (And.intro @tt119 (And.intro @tt159 (And.intro @tt176 (And.intro @tt178 (And.intro @tt202 (And.intro @e_i64.eq_1 (And.intro @e_impl_Meeting.eq_1 (And.intro @e_impl_Term.eq_1 (And.intro @e_laws_Component.eq_1 (And.intro @e_laws_Definition.eq_1 (And.intro @e_laws_Meeting.eq_1 (And.intro @e_laws_Part.eq_1 (And.intro @e_laws_Point.eq_1 (And.intro @e_laws_System.eq_1 (And.intro @e_laws_Term.eq_1 (And.intro @e_s_laws_Term.eq_1 (And.intro @e_str.eq_1 (And.intro @u_impl_Component.eq_1 (And.intro @u_impl_Definition.eq_1 (And.intro @u_impl_Part.eq_1 (And.intro @u_impl_Point.eq_1 (And.intro @u_impl_System.eq_1 @u_s_impl_Term.eq_1)))))))))))))))))))))))))))))))))

theorem ok_laws_szTermS (a0 : List laws_Term) (a1 : Int) (r : Int) (h : laws_szTermS a0 a1 = some r) : OkAt Cc 156 [.slice (a0.map e_laws_Term), .int .i64 a1] (.int .i64 r) [] := by
 refine OkAt.of_wpR (fx := [0]) Cc_ok [.tmp 4] [(0, .slice (a0.map e_laws_Term)), (1, .int .i64 a1)] Tryz.func156 rfl rfl s156 (Nat.le_of_ble_eq_true rfl) rfl rfl (fun Q0 r0 n0 => ?_)
 refine ws _ ?_
 refine ws _ ?_
 refine w_seq (fun Q3 n3 q3 x3 => ?_)
 refine ws _ ?_
 rcases condE h with ⟨b5, h⟩ | ⟨b5, h⟩
 ·refine w_ct (congrArg AV.bool b5) ?_
  simp only [b5, Bool.not_true, Bool.not_false]
  refine ws _ ?_
  exact w_ret (q3 _ (r0 _ (.inl (w_fin [.int .i64 (-1)] rfl (by cases someE h; rfl) (by decide) outs_nil))))
 ·refine w_cf (congrArg AV.bool b5) ?_
  simp only [b5, Bool.not_true, Bool.not_false]
  refine w_skip (n3 _ (.inl ?_))
  refine ws _ ?_
  exact w_ret (r0 _ (.inl (w_fin [.int .i64 (IntKind.i64.wrap (a1 - (a0.length : Int)))] rfl (by cases someE h; rfl) (by decide) outs_nil)))

theorem ok_laws_szTermSS (a0 : List (List laws_Term)) (a1 : Int) (r : Int) (h : laws_szTermSS a0 a1 = some r) : OkAt Cc 157 [.slice (a0.map e_s_laws_Term), .int .i64 a1] (.int .i64 r) [] := by
 refine OkAt.of_wpR (fx := [0]) Cc_ok [.tmp 4] [(0, .slice (a0.map e_s_laws_Term)), (1, .int .i64 a1)] Tryz.func157 rfl rfl s157 (Nat.le_of_ble_eq_true rfl) rfl rfl (fun Q0 r0 n0 => ?_)
 refine ws _ ?_
 refine ws _ ?_
 refine w_seq (fun Q3 n3 q3 x3 => ?_)
 refine ws _ ?_
 rcases condE h with ⟨b5, h⟩ | ⟨b5, h⟩
 ·refine w_ct (congrArg AV.bool b5) ?_
  simp only [b5, Bool.not_true, Bool.not_false]
  refine ws _ ?_
  exact w_ret (q3 _ (r0 _ (.inl (w_fin [.int .i64 (-1)] rfl (by cases someE h; rfl) (by decide) outs_nil))))
 ·refine w_cf (congrArg AV.bool b5) ?_
  simp only [b5, Bool.not_true, Bool.not_false]
  refine w_skip (n3 _ (.inl ?_))
  refine w_seq (fun Q7 n7 q7 x7 => ?_)
  refine ws _ ?_
  refine w_blk (fun Q9 n9 q9 b9 x9 => ?_)
  have L16 : ∀ (n : Nat) (v1_16 : Int) (v5_16 : Int), laws_szTermSS_l16 a0 n v1_16 v5_16 = some r → lpC Cc c157_17 Q9 (stA [(0, .slice (a0.map e_s_laws_Term)), (1, .int .i64 v1_16), (5, .int .i64 v5_16)]) := by
   intro m16
   induction m16 with
   | zero => intro v1_16 v5_16 h; cases (show none = some r from h)
   | succ m16 ih16 =>
    intro v1_16 v5_16 h
    replace h : laws_szTermSS_b16 (laws_szTermSS_l16 a0 m16) a0 v1_16 v5_16 = some r := h
    refine lpC_step (fun Q10 n10 q10 x10 => ?_)
    refine w_seq (fun Q11 n11 q11 x11 => ?_)
    refine ws _ ?_
    rcases condE h with ⟨b13, h⟩ | ⟨b13, h⟩
    ·refine w_ct (congrArg AV.bool b13) ?_
     simp only [b13, Bool.not_true, Bool.not_false]
     refine w_skip (n11 _ (.inl ?_))
     refine w_seq (fun Q14 n14 q14 x14 => ?_)
     refine w_blk (fun Q15 n15 q15 b15 x15 => ?_)
     obtain ⟨x1, e17, h⟩ := bindE h
     obtain ⟨x2, e18, h⟩ := bindE h
     refine wscf e17 (ok_laws_szTermS x1 v1_16 _ e18) _ ?_
     refine ws _ ?_
     rcases condE h with ⟨b20, h⟩ | ⟨b20, h⟩
     ·refine w_ct (congrArg AV.bool b20) ?_
      simp only [b20, Bool.not_true, Bool.not_false]
      refine ws _ ?_
      exact w_ret (q15 _ (q14 _ (q10 _ (q9 _ (q7 _ (r0 _ (.inl (w_fin [.int .i64 (-1)] rfl (by cases someE h; rfl) (by decide) outs_nil))))))))
     ·refine w_cf (congrArg AV.bool b20) ?_
      simp only [b20, Bool.not_true, Bool.not_false]
      refine w_skip (n15 _ (n14 _ (.inl ?_)))
      refine wr _ ?_
      exact n10 _ (.inr ⟨_, weak_eq rfl, ih16 x2 (IntKind.i64.wrap (v5_16 + 1)) h⟩)
    ·refine w_cf (congrArg AV.bool b13) ?_
     simp only [b13, Bool.not_true, Bool.not_false]
     refine w_ex (x11 0 _ (x10 0 _ (b9 _ (n7 _ (.inl ?_)))))
     refine ws _ ?_
     exact w_ret (r0 _ (.inl (w_fin [.int .i64 v1_16] rfl (by cases someE h; rfl) (by decide) outs_nil)))
  obtain ⟨n, h⟩ := limE h
  exact w_loop (.inr ⟨_, weak_eq rfl, L16 n (IntKind.i64.wrap (a1 - (a0.length : Int))) 0 h⟩)

theorem ok_laws_szPart (a0 : laws_Part) (a1 : Int) (r : Int) (h : laws_szPart a0 a1 = some r) : OkAt Cc 223 [e_laws_Part a0, .int .i64 a1] (.int .i64 r) [] := by
 refine OkAt.of_wpR (fx := [0]) Cc_ok [.tmp 4] [(0, e_laws_Part a0), (1, .int .i64 a1)] Tryz.func223 rfl rfl s223 (Nat.le_of_ble_eq_true rfl) rfl rfl (fun Q0 r0 n0 => ?_)
 refine ws _ ?_
 refine ws _ ?_
 refine w_seq (fun Q3 n3 q3 x3 => ?_)
 refine ws _ ?_
 rcases condE h with ⟨b5, h⟩ | ⟨b5, h⟩
 ·refine w_ct (congrArg AV.bool b5) ?_
  simp only [b5, Bool.not_true, Bool.not_false]
  refine ws _ ?_
  exact w_ret (q3 _ (r0 _ (.inl (w_fin [.int .i64 (-1)] rfl (by cases someE h; rfl) (by decide) outs_nil))))
 ·refine w_cf (congrArg AV.bool b5) ?_
  simp only [b5, Bool.not_true, Bool.not_false]
  refine w_skip (n3 _ (.inl ?_))
  obtain ⟨x1, e8, h⟩ := bindE h
  refine wsc (ok_laws_szTermSS a0.Arguments (IntKind.i64.wrap (a1 - (a0.Name.length : Int))) _ e8) _ ?_
  refine w_seq (fun Q9 n9 q9 x9 => ?_)
  refine ws _ ?_
  rcases condE h with ⟨b11, h⟩ | ⟨b11, h⟩
  ·refine w_ct (congrArg AV.bool b11) ?_
   simp only [b11, Bool.not_true, Bool.not_false]
   refine ws _ ?_
   exact w_ret (q9 _ (r0 _ (.inl (w_fin [.int .i64 (-1)] rfl (by cases someE h; rfl) (by decide) outs_nil))))
  ·refine w_cf (congrArg AV.bool b11) ?_
   simp only [b11, Bool.not_true, Bool.not_false]
   refine w_skip (n9 _ (.inl ?_))
   refine ws _ ?_
   exact w_ret (r0 _ (.inl (w_fin [.int .i64 x1] rfl (by cases someE h; rfl) (by decide) outs_nil)))

theorem ok_laws_szPartS (a0 : List laws_Part) (a1 : Int) (r : Int) (h : laws_szPartS a0 a1 = some r) : OkAt Cc 178 [.slice (a0.map e_laws_Part), .int .i64 a1] (.int .i64 r) [] := by
 refine OkAt.of_wpR (fx := [0]) Cc_ok [.tmp 4] [(0, .slice (a0.map e_laws_Part)), (1, .int .i64 a1)] Tryz.func178 rfl rfl s178 (Nat.le_of_ble_eq_true rfl) rfl rfl (fun Q0 r0 n0 => ?_)
 refine ws _ ?_
 refine ws _ ?_
 refine w_seq (fun Q3 n3 q3 x3 => ?_)
 refine ws _ ?_
 rcases condE h with ⟨b5, h⟩ | ⟨b5, h⟩
 ·refine w_ct (congrArg AV.bool b5) ?_
  simp only [b5, Bool.not_true, Bool.not_false]
  refine ws _ ?_
  exact w_ret (q3 _ (r0 _ (.inl (w_fin [.int .i64 (-1)] rfl (by cases someE h; rfl) (by decide) outs_nil))))
 ·refine w_cf (congrArg AV.bool b5) ?_
  simp only [b5, Bool.not_true, Bool.not_false]
  refine w_skip (n3 _ (.inl ?_))
  refine w_seq (fun Q7 n7 q7 x7 => ?_)
  refine ws _ ?_
  refine w_blk (fun Q9 n9 q9 b9 x9 => ?_)
  have L16 : ∀ (n : Nat) (v1_16 : Int) (v5_16 : Int), laws_szPartS_l16 a0 n v1_16 v5_16 = some r → lpC Cc c178_17 Q9 (stA [(0, .slice (a0.map e_laws_Part)), (1, .int .i64 v1_16), (5, .int .i64 v5_16)]) := by
   intro m16
   induction m16 with
   | zero => intro v1_16 v5_16 h; cases (show none = some r from h)
   | succ m16 ih16 =>
    intro v1_16 v5_16 h
    replace h : laws_szPartS_b16 (laws_szPartS_l16 a0 m16) a0 v1_16 v5_16 = some r := h
    refine lpC_step (fun Q10 n10 q10 x10 => ?_)
    refine w_seq (fun Q11 n11 q11 x11 => ?_)
    refine ws _ ?_
    rcases condE h with ⟨b13, h⟩ | ⟨b13, h⟩
    ·refine w_ct (congrArg AV.bool b13) ?_
     simp only [b13, Bool.not_true, Bool.not_false]
     refine w_skip (n11 _ (.inl ?_))
     refine w_seq (fun Q14 n14 q14 x14 => ?_)
     refine w_blk (fun Q15 n15 q15 b15 x15 => ?_)
     obtain ⟨x1, e17, h⟩ := bindE h
     obtain ⟨x2, e18, h⟩ := bindE h
     refine wscf e17 (ok_laws_szPart x1 v1_16 _ e18) _ ?_
     refine ws _ ?_
     rcases condE h with ⟨b20, h⟩ | ⟨b20, h⟩
     ·refine w_ct (congrArg AV.bool b20) ?_
      simp only [b20, Bool.not_true, Bool.not_false]
      refine ws _ ?_
      exact w_ret (q15 _ (q14 _ (q10 _ (q9 _ (q7 _ (r0 _ (.inl (w_fin [.int .i64 (-1)] rfl (by cases someE h; rfl) (by decide) outs_nil))))))))
     ·refine w_cf (congrArg AV.bool b20) ?_
      simp only [b20, Bool.not_true, Bool.not_false]
      refine w_skip (n15 _ (n14 _ (.inl ?_)))
      refine wr _ ?_
      exact n10 _ (.inr ⟨_, weak_eq rfl, ih16 x2 (IntKind.i64.wrap (v5_16 + 1)) h⟩)
    ·refine w_cf (congrArg AV.bool b13) ?_
     simp only [b13, Bool.not_true, Bool.not_false]
     refine w_ex (x11 0 _ (x10 0 _ (b9 _ (n7 _ (.inl ?_)))))
     refine ws _ ?_
     exact w_ret (r0 _ (.inl (w_fin [.int .i64 v1_16] rfl (by cases someE h; rfl) (by decide) outs_nil)))
  obtain ⟨n, h⟩ := limE h
  exact w_loop (.inr ⟨_, weak_eq rfl, L16 n (IntKind.i64.wrap (a1 - (a0.length : Int))) 0 h⟩)

theorem ok_laws_szDefinition (a0 : laws_Definition) (a1 : Int) (r : Int) (h : laws_szDefinition a0 a1 = some r) : OkAt Cc 126 [e_laws_Definition a0, .int .i64 a1] (.int .i64 r) [] := by
 refine OkAt.of_wpR (fx := [0]) Cc_ok [.tmp 4] [(0, e_laws_Definition a0), (1, .int .i64 a1)] Tryz.func126 rfl rfl s126 (Nat.le_of_ble_eq_true rfl) rfl rfl (fun Q0 r0 n0 => ?_)
 refine ws _ ?_
 refine ws _ ?_
 refine w_seq (fun Q3 n3 q3 x3 => ?_)
 refine ws _ ?_
 rcases condE h with ⟨b5, h⟩ | ⟨b5, h⟩
 ·refine w_ct (congrArg AV.bool b5) ?_
  simp only [b5, Bool.not_true, Bool.not_false]
  refine ws _ ?_
  exact w_ret (q3 _ (r0 _ (.inl (w_fin [.int .i64 (-1)] rfl (by cases someE h; rfl) (by decide) outs_nil))))
 ·refine w_cf (congrArg AV.bool b5) ?_
  simp only [b5, Bool.not_true, Bool.not_false]
  refine w_skip (n3 _ (.inl ?_))
  obtain ⟨x1, e8, h⟩ := bindE h
  refine wsc (ok_laws_szPartS a0.Body (IntKind.i64.wrap (a1 - (a0.Name.length : Int))) _ e8) _ ?_
  refine w_seq (fun Q9 n9 q9 x9 => ?_)
  refine ws _ ?_
  rcases condE h with ⟨b11, h⟩ | ⟨b11, h⟩
  ·refine w_ct (congrArg AV.bool b11) ?_
   simp only [b11, Bool.not_true, Bool.not_false]
   refine ws _ ?_
   exact w_ret (q9 _ (r0 _ (.inl (w_fin [.int .i64 (-1)] rfl (by cases someE h; rfl) (by decide) outs_nil))))
  ·refine w_cf (congrArg AV.bool b11) ?_
   simp only [b11, Bool.not_true, Bool.not_false]
   refine w_skip (n9 _ (.inl ?_))
   refine ws _ ?_
   exact w_ret (r0 _ (.inl (w_fin [.int .i64 x1] rfl (by cases someE h; rfl) (by decide) outs_nil)))

theorem ok_laws_szDefinitionS (a0 : List laws_Definition) (a1 : Int) (r : Int) (h : laws_szDefinitionS a0 a1 = some r) : OkAt Cc 57 [.slice (a0.map e_laws_Definition), .int .i64 a1] (.int .i64 r) [] := by
 refine OkAt.of_wpR (fx := [0]) Cc_ok [.tmp 4] [(0, .slice (a0.map e_laws_Definition)), (1, .int .i64 a1)] Tryz.func57 rfl rfl s57 (Nat.le_of_ble_eq_true rfl) rfl rfl (fun Q0 r0 n0 => ?_)
 refine ws _ ?_
 refine ws _ ?_
 refine w_seq (fun Q3 n3 q3 x3 => ?_)
 refine ws _ ?_
 rcases condE h with ⟨b5, h⟩ | ⟨b5, h⟩
 ·refine w_ct (congrArg AV.bool b5) ?_
  simp only [b5, Bool.not_true, Bool.not_false]
  refine ws _ ?_
  exact w_ret (q3 _ (r0 _ (.inl (w_fin [.int .i64 (-1)] rfl (by cases someE h; rfl) (by decide) outs_nil))))
 ·refine w_cf (congrArg AV.bool b5) ?_
  simp only [b5, Bool.not_true, Bool.not_false]
  refine w_skip (n3 _ (.inl ?_))
  refine w_seq (fun Q7 n7 q7 x7 => ?_)
  refine ws _ ?_
  refine w_blk (fun Q9 n9 q9 b9 x9 => ?_)
  have L16 : ∀ (n : Nat) (v1_16 : Int) (v5_16 : Int), laws_szDefinitionS_l16 a0 n v1_16 v5_16 = some r → lpC Cc c57_17 Q9 (stA [(0, .slice (a0.map e_laws_Definition)), (1, .int .i64 v1_16), (5, .int .i64 v5_16)]) := by
   intro m16
   induction m16 with
   | zero => intro v1_16 v5_16 h; cases (show none = some r from h)
   | succ m16 ih16 =>
    intro v1_16 v5_16 h
    replace h : laws_szDefinitionS_b16 (laws_szDefinitionS_l16 a0 m16) a0 v1_16 v5_16 = some r := h
    refine lpC_step (fun Q10 n10 q10 x10 => ?_)
    refine w_seq (fun Q11 n11 q11 x11 => ?_)
    refine ws _ ?_
    rcases condE h with ⟨b13, h⟩ | ⟨b13, h⟩
    ·refine w_ct (congrArg AV.bool b13) ?_
     simp only [b13, Bool.not_true, Bool.not_false]
     refine w_skip (n11 _ (.inl ?_))
     refine w_seq (fun Q14 n14 q14 x14 => ?_)
     refine w_blk (fun Q15 n15 q15 b15 x15 => ?_)
     obtain ⟨x1, e17, h⟩ := bindE h
     obtain ⟨x2, e18, h⟩ := bindE h
     refine wscf e17 (ok_laws_szDefinition x1 v1_16 _ e18) _ ?_
     refine ws _ ?_
     rcases condE h with ⟨b20, h⟩ | ⟨b20, h⟩
     ·refine w_ct (congrArg AV.bool b20) ?_
      simp only [b20, Bool.not_true, Bool.not_false]
      refine ws _ ?_
      exact w_ret (q15 _ (q14 _ (q10 _ (q9 _ (q7 _ (r0 _ (.inl (w_fin [.int .i64 (-1)] rfl (by cases someE h; rfl) (by decide) outs_nil))))))))
     ·refine w_cf (congrArg AV.bool b20) ?_
      simp only [b20, Bool.not_true, Bool.not_false]
      refine w_skip (n15 _ (n14 _ (.inl ?_)))
      refine wr _ ?_
      exact n10 _ (.inr ⟨_, weak_eq rfl, ih16 x2 (IntKind.i64.wrap (v5_16 + 1)) h⟩)
    ·refine w_cf (congrArg AV.bool b13) ?_
     simp only [b13, Bool.not_true, Bool.not_false]
     refine w_ex (x11 0 _ (x10 0 _ (b9 _ (n7 _ (.inl ?_)))))
     refine ws _ ?_
     exact w_ret (r0 _ (.inl (w_fin [.int .i64 v1_16] rfl (by cases someE h; rfl) (by decide) outs_nil)))
  obtain ⟨n, h⟩ := limE h
  exact w_loop (.inr ⟨_, weak_eq rfl, L16 n (IntKind.i64.wrap (a1 - (a0.length : Int))) 0 h⟩)

theorem ok_laws_szInt64S (a0 : List Int) (a1 : Int) (r : Int) (h : laws_szInt64S a0 a1 = some r) : OkAt Cc 39 [.slice (a0.map e_i64), .int .i64 a1] (.int .i64 r) [] := by
 refine OkAt.of_wpR (fx := [0]) Cc_ok [.tmp 4] [(0, .slice (a0.map e_i64)), (1, .int .i64 a1)] Tryz.func39 rfl rfl s39 (Nat.le_of_ble_eq_true rfl) rfl rfl (fun Q0 r0 n0 => ?_)
 refine ws _ ?_
 refine ws _ ?_
 refine w_seq (fun Q3 n3 q3 x3 => ?_)
 refine ws _ ?_
 rcases condE h with ⟨b5, h⟩ | ⟨b5, h⟩
 ·refine w_ct (congrArg AV.bool b5) ?_
  simp only [b5, Bool.not_true, Bool.not_false]
  refine ws _ ?_
  exact w_ret (q3 _ (r0 _ (.inl (w_fin [.int .i64 (-1)] rfl (by cases someE h; rfl) (by decide) outs_nil))))
 ·refine w_cf (congrArg AV.bool b5) ?_
  simp only [b5, Bool.not_true, Bool.not_false]
  refine w_skip (n3 _ (.inl ?_))
  refine ws _ ?_
  exact w_ret (r0 _ (.inl (w_fin [.int .i64 (IntKind.i64.wrap (a1 - (a0.length : Int)))] rfl (by cases someE h; rfl) (by decide) outs_nil)))

theorem ok_laws_szComponent (a0 : laws_Component) (a1 : Int) (r : Int) (h : laws_szComponent a0 a1 = some r) : OkAt Cc 127 [e_laws_Component a0, .int .i64 a1] (.int .i64 r) [] := by
 refine OkAt.of_wpR (fx := [0]) Cc_ok [.tmp 4] [(0, e_laws_Component a0), (1, .int .i64 a1)] Tryz.func127 rfl rfl s127 (Nat.le_of_ble_eq_true rfl) rfl rfl (fun Q0 r0 n0 => ?_)
 refine ws _ ?_
 obtain ⟨x1, e3, h⟩ := bindE h
 refine wsc (ok_laws_szInt64S a0.Values a1 _ e3) _ ?_
 refine w_seq (fun Q4 n4 q4 x4 => ?_)
 refine ws _ ?_
 rcases condE h with ⟨b6, h⟩ | ⟨b6, h⟩
 ·refine w_ct (congrArg AV.bool b6) ?_
  simp only [b6, Bool.not_true, Bool.not_false]
  refine ws _ ?_
  exact w_ret (q4 _ (r0 _ (.inl (w_fin [.int .i64 (-1)] rfl (by cases someE h; rfl) (by decide) outs_nil))))
 ·refine w_cf (congrArg AV.bool b6) ?_
  simp only [b6, Bool.not_true, Bool.not_false]
  refine w_skip (n4 _ (.inl ?_))
  refine ws _ ?_
  exact w_ret (r0 _ (.inl (w_fin [.int .i64 x1] rfl (by cases someE h; rfl) (by decide) outs_nil)))

theorem ok_laws_szComponentS (a0 : List laws_Component) (a1 : Int) (r : Int) (h : laws_szComponentS a0 a1 = some r) : OkAt Cc 58 [.slice (a0.map e_laws_Component), .int .i64 a1] (.int .i64 r) [] := by
 refine OkAt.of_wpR (fx := [0]) Cc_ok [.tmp 4] [(0, .slice (a0.map e_laws_Component)), (1, .int .i64 a1)] Tryz.func58 rfl rfl s58 (Nat.le_of_ble_eq_true rfl) rfl rfl (fun Q0 r0 n0 => ?_)
 refine ws _ ?_
 refine ws _ ?_
 refine w_seq (fun Q3 n3 q3 x3 => ?_)
 refine ws _ ?_
 rcases condE h with ⟨b5, h⟩ | ⟨b5, h⟩
 ·refine w_ct (congrArg AV.bool b5) ?_
  simp only [b5, Bool.not_true, Bool.not_false]
  refine ws _ ?_
  exact w_ret (q3 _ (r0 _ (.inl (w_fin [.int .i64 (-1)] rfl (by cases someE h; rfl) (by decide) outs_nil))))
 ·refine w_cf (congrArg AV.bool b5) ?_
  simp only [b5, Bool.not_true, Bool.not_false]
  refine w_skip (n3 _ (.inl ?_))
  refine w_seq (fun Q7 n7 q7 x7 => ?_)
  refine ws _ ?_
  refine w_blk (fun Q9 n9 q9 b9 x9 => ?_)
  have L16 : ∀ (n : Nat) (v1_16 : Int) (v5_16 : Int), laws_szComponentS_l16 a0 n v1_16 v5_16 = some r → lpC Cc c58_17 Q9 (stA [(0, .slice (a0.map e_laws_Component)), (1, .int .i64 v1_16), (5, .int .i64 v5_16)]) := by
   intro m16
   induction m16 with
   | zero => intro v1_16 v5_16 h; cases (show none = some r from h)
   | succ m16 ih16 =>
    intro v1_16 v5_16 h
    replace h : laws_szComponentS_b16 (laws_szComponentS_l16 a0 m16) a0 v1_16 v5_16 = some r := h
    refine lpC_step (fun Q10 n10 q10 x10 => ?_)
    refine w_seq (fun Q11 n11 q11 x11 => ?_)
    refine ws _ ?_
    rcases condE h with ⟨b13, h⟩ | ⟨b13, h⟩
    ·refine w_ct (congrArg AV.bool b13) ?_
     simp only [b13, Bool.not_true, Bool.not_false]
     refine w_skip (n11 _ (.inl ?_))
     refine w_seq (fun Q14 n14 q14 x14 => ?_)
     refine w_blk (fun Q15 n15 q15 b15 x15 => ?_)
     obtain ⟨x1, e17, h⟩ := bindE h
     obtain ⟨x2, e18, h⟩ := bindE h
     refine wscf e17 (ok_laws_szComponent x1 v1_16 _ e18) _ ?_
     refine ws _ ?_
     rcases condE h with ⟨b20, h⟩ | ⟨b20, h⟩
     ·refine w_ct (congrArg AV.bool b20) ?_
      simp only [b20, Bool.not_true, Bool.not_false]
      refine ws _ ?_
      exact w_ret (q15 _ (q14 _ (q10 _ (q9 _ (q7 _ (r0 _ (.inl (w_fin [.int .i64 (-1)] rfl (by cases someE h; rfl) (by decide) outs_nil))))))))
     ·refine w_cf (congrArg AV.bool b20) ?_
      simp only [b20, Bool.not_true, Bool.not_false]
      refine w_skip (n15 _ (n14 _ (.inl ?_)))
      refine wr _ ?_
      exact n10 _ (.inr ⟨_, weak_eq rfl, ih16 x2 (IntKind.i64.wrap (v5_16 + 1)) h⟩)
    ·refine w_cf (congrArg AV.bool b13) ?_
     simp only [b13, Bool.not_true, Bool.not_false]
     refine w_ex (x11 0 _ (x10 0 _ (b9 _ (n7 _ (.inl ?_)))))
     refine ws _ ?_
     exact w_ret (r0 _ (.inl (w_fin [.int .i64 v1_16] rfl (by cases someE h; rfl) (by decide) outs_nil)))
  obtain ⟨n, h⟩ := limE h
  exact w_loop (.inr ⟨_, weak_eq rfl, L16 n (IntKind.i64.wrap (a1 - (a0.length : Int))) 0 h⟩)

theorem ok_laws_szMeeting (a0 : laws_Meeting) (a1 : Int) (r : Int) (h : laws_szMeeting a0 a1 = some r) : OkAt Cc 75 [e_laws_Meeting a0, .int .i64 a1] (.int .i64 r) [] := by
 refine OkAt.of_wpR (fx := [0]) Cc_ok [.tmp 4] [(0, e_laws_Meeting a0), (1, .int .i64 a1)] Tryz.func75 rfl rfl s75 (Nat.le_of_ble_eq_true rfl) rfl rfl (fun Q0 r0 n0 => ?_)
 refine ws _ ?_
 refine ws _ ?_
 refine w_seq (fun Q3 n3 q3 x3 => ?_)
 refine ws _ ?_
 rcases condE h with ⟨b5, h⟩ | ⟨b5, h⟩
 ·refine w_ct (congrArg AV.bool b5) ?_
  simp only [b5, Bool.not_true, Bool.not_false]
  refine ws _ ?_
  exact w_ret (q3 _ (r0 _ (.inl (w_fin [.int .i64 (-1)] rfl (by cases someE h; rfl) (by decide) outs_nil))))
 ·refine w_cf (congrArg AV.bool b5) ?_
  simp only [b5, Bool.not_true, Bool.not_false]
  refine w_skip (n3 _ (.inl ?_))
  refine ws _ ?_
  refine w_seq (fun Q8 n8 q8 x8 => ?_)
  refine ws _ ?_
  rcases condE h with ⟨b10, h⟩ | ⟨b10, h⟩
  ·refine w_ct (congrArg AV.bool b10) ?_
   simp only [b10, Bool.not_true, Bool.not_false]
   refine ws _ ?_
   exact w_ret (q8 _ (r0 _ (.inl (w_fin [.int .i64 (-1)] rfl (by cases someE h; rfl) (by decide) outs_nil))))
  ·refine w_cf (congrArg AV.bool b10) ?_
   simp only [b10, Bool.not_true, Bool.not_false]
   refine w_skip (n8 _ (.inl ?_))
   refine ws _ ?_
   refine w_seq (fun Q13 n13 q13 x13 => ?_)
   refine ws _ ?_
   rcases condE h with ⟨b15, h⟩ | ⟨b15, h⟩
   ·refine w_ct (congrArg AV.bool b15) ?_
    simp only [b15, Bool.not_true, Bool.not_false]
    refine ws _ ?_
    exact w_ret (q13 _ (r0 _ (.inl (w_fin [.int .i64 (-1)] rfl (by cases someE h; rfl) (by decide) outs_nil))))
   ·refine w_cf (congrArg AV.bool b15) ?_
    simp only [b15, Bool.not_true, Bool.not_false]
    refine w_skip (n13 _ (.inl ?_))
    refine ws _ ?_
    exact w_ret (r0 _ (.inl (w_fin [.int .i64 (IntKind.i64.wrap ((IntKind.i64.wrap ((IntKind.i64.wrap (a1 - (a0.Left.length : Int))) - (a0.Right.length : Int))) - (a0.Result.length : Int)))] rfl (by cases someE h; rfl) (by decide) outs_nil)))

theorem ok_laws_szMeetingS (a0 : List laws_Meeting) (a1 : Int) (r : Int) (h : laws_szMeetingS a0 a1 = some r) : OkAt Cc 26 [.slice (a0.map e_laws_Meeting), .int .i64 a1] (.int .i64 r) [] := by
 refine OkAt.of_wpR (fx := [0]) Cc_ok [.tmp 4] [(0, .slice (a0.map e_laws_Meeting)), (1, .int .i64 a1)] Tryz.func26 rfl rfl s26 (Nat.le_of_ble_eq_true rfl) rfl rfl (fun Q0 r0 n0 => ?_)
 refine ws _ ?_
 refine ws _ ?_
 refine w_seq (fun Q3 n3 q3 x3 => ?_)
 refine ws _ ?_
 rcases condE h with ⟨b5, h⟩ | ⟨b5, h⟩
 ·refine w_ct (congrArg AV.bool b5) ?_
  simp only [b5, Bool.not_true, Bool.not_false]
  refine ws _ ?_
  exact w_ret (q3 _ (r0 _ (.inl (w_fin [.int .i64 (-1)] rfl (by cases someE h; rfl) (by decide) outs_nil))))
 ·refine w_cf (congrArg AV.bool b5) ?_
  simp only [b5, Bool.not_true, Bool.not_false]
  refine w_skip (n3 _ (.inl ?_))
  refine w_seq (fun Q7 n7 q7 x7 => ?_)
  refine ws _ ?_
  refine w_blk (fun Q9 n9 q9 b9 x9 => ?_)
  have L16 : ∀ (n : Nat) (v1_16 : Int) (v5_16 : Int), laws_szMeetingS_l16 a0 n v1_16 v5_16 = some r → lpC Cc c26_17 Q9 (stA [(0, .slice (a0.map e_laws_Meeting)), (1, .int .i64 v1_16), (5, .int .i64 v5_16)]) := by
   intro m16
   induction m16 with
   | zero => intro v1_16 v5_16 h; cases (show none = some r from h)
   | succ m16 ih16 =>
    intro v1_16 v5_16 h
    replace h : laws_szMeetingS_b16 (laws_szMeetingS_l16 a0 m16) a0 v1_16 v5_16 = some r := h
    refine lpC_step (fun Q10 n10 q10 x10 => ?_)
    refine w_seq (fun Q11 n11 q11 x11 => ?_)
    refine ws _ ?_
    rcases condE h with ⟨b13, h⟩ | ⟨b13, h⟩
    ·refine w_ct (congrArg AV.bool b13) ?_
     simp only [b13, Bool.not_true, Bool.not_false]
     refine w_skip (n11 _ (.inl ?_))
     refine w_seq (fun Q14 n14 q14 x14 => ?_)
     refine w_blk (fun Q15 n15 q15 b15 x15 => ?_)
     obtain ⟨x1, e17, h⟩ := bindE h
     obtain ⟨x2, e18, h⟩ := bindE h
     refine wscf e17 (ok_laws_szMeeting x1 v1_16 _ e18) _ ?_
     refine ws _ ?_
     rcases condE h with ⟨b20, h⟩ | ⟨b20, h⟩
     ·refine w_ct (congrArg AV.bool b20) ?_
      simp only [b20, Bool.not_true, Bool.not_false]
      refine ws _ ?_
      exact w_ret (q15 _ (q14 _ (q10 _ (q9 _ (q7 _ (r0 _ (.inl (w_fin [.int .i64 (-1)] rfl (by cases someE h; rfl) (by decide) outs_nil))))))))
     ·refine w_cf (congrArg AV.bool b20) ?_
      simp only [b20, Bool.not_true, Bool.not_false]
      refine w_skip (n15 _ (n14 _ (.inl ?_)))
      refine wr _ ?_
      exact n10 _ (.inr ⟨_, weak_eq rfl, ih16 x2 (IntKind.i64.wrap (v5_16 + 1)) h⟩)
    ·refine w_cf (congrArg AV.bool b13) ?_
     simp only [b13, Bool.not_true, Bool.not_false]
     refine w_ex (x11 0 _ (x10 0 _ (b9 _ (n7 _ (.inl ?_)))))
     refine ws _ ?_
     exact w_ret (r0 _ (.inl (w_fin [.int .i64 v1_16] rfl (by cases someE h; rfl) (by decide) outs_nil)))
  obtain ⟨n, h⟩ := limE h
  exact w_loop (.inr ⟨_, weak_eq rfl, L16 n (IntKind.i64.wrap (a1 - (a0.length : Int))) 0 h⟩)

theorem ok_laws_szStringS (a0 : List (List UInt8)) (a1 : Int) (r : Int) (h : laws_szStringS a0 a1 = some r) : OkAt Cc 59 [.slice (a0.map e_str), .int .i64 a1] (.int .i64 r) [] := by
 refine OkAt.of_wpR (fx := [0]) Cc_ok [.tmp 4] [(0, .slice (a0.map e_str)), (1, .int .i64 a1)] Tryz.func59 rfl rfl s59 (Nat.le_of_ble_eq_true rfl) rfl rfl (fun Q0 r0 n0 => ?_)
 refine ws _ ?_
 refine ws _ ?_
 refine w_seq (fun Q3 n3 q3 x3 => ?_)
 refine ws _ ?_
 rcases condE h with ⟨b5, h⟩ | ⟨b5, h⟩
 ·refine w_ct (congrArg AV.bool b5) ?_
  simp only [b5, Bool.not_true, Bool.not_false]
  refine ws _ ?_
  exact w_ret (q3 _ (r0 _ (.inl (w_fin [.int .i64 (-1)] rfl (by cases someE h; rfl) (by decide) outs_nil))))
 ·refine w_cf (congrArg AV.bool b5) ?_
  simp only [b5, Bool.not_true, Bool.not_false]
  refine w_skip (n3 _ (.inl ?_))
  refine w_seq (fun Q7 n7 q7 x7 => ?_)
  refine ws _ ?_
  refine w_blk (fun Q9 n9 q9 b9 x9 => ?_)
  have L16 : ∀ (n : Nat) (v1_16 : Int) (v5_16 : Int), laws_szStringS_l16 a0 n v1_16 v5_16 = some r → lpC Cc c59_17 Q9 (stA [(0, .slice (a0.map e_str)), (1, .int .i64 v1_16), (5, .int .i64 v5_16)]) := by
   intro m16
   induction m16 with
   | zero => intro v1_16 v5_16 h; cases (show none = some r from h)
   | succ m16 ih16 =>
    intro v1_16 v5_16 h
    replace h : laws_szStringS_b16 (laws_szStringS_l16 a0 m16) a0 v1_16 v5_16 = some r := h
    refine lpC_step (fun Q10 n10 q10 x10 => ?_)
    refine w_seq (fun Q11 n11 q11 x11 => ?_)
    refine ws _ ?_
    rcases condE h with ⟨b13, h⟩ | ⟨b13, h⟩
    ·refine w_ct (congrArg AV.bool b13) ?_
     simp only [b13, Bool.not_true, Bool.not_false]
     refine w_skip (n11 _ (.inl ?_))
     refine w_seq (fun Q14 n14 q14 x14 => ?_)
     refine w_blk (fun Q15 n15 q15 b15 x15 => ?_)
     obtain ⟨x1, e17, h⟩ := bindE h
     refine wsf e17 _ ?_
     refine ws _ ?_
     rcases condE h with ⟨b19, h⟩ | ⟨b19, h⟩
     ·refine w_ct (congrArg AV.bool b19) ?_
      simp only [b19, Bool.not_true, Bool.not_false]
      refine ws _ ?_
      exact w_ret (q15 _ (q14 _ (q10 _ (q9 _ (q7 _ (r0 _ (.inl (w_fin [.int .i64 (-1)] rfl (by cases someE h; rfl) (by decide) outs_nil))))))))
     ·refine w_cf (congrArg AV.bool b19) ?_
      simp only [b19, Bool.not_true, Bool.not_false]
      refine w_skip (n15 _ (n14 _ (.inl ?_)))
      refine wr _ ?_
      exact n10 _ (.inr ⟨_, weak_eq rfl, ih16 (IntKind.i64.wrap (v1_16 - (x1.length : Int))) (IntKind.i64.wrap (v5_16 + 1)) h⟩)
    ·refine w_cf (congrArg AV.bool b13) ?_
     simp only [b13, Bool.not_true, Bool.not_false]
     refine w_ex (x11 0 _ (x10 0 _ (b9 _ (n7 _ (.inl ?_)))))
     refine ws _ ?_
     exact w_ret (r0 _ (.inl (w_fin [.int .i64 v1_16] rfl (by cases someE h; rfl) (by decide) outs_nil)))
  obtain ⟨n, h⟩ := limE h
  exact w_loop (.inr ⟨_, weak_eq rfl, L16 n (IntKind.i64.wrap (a1 - (a0.length : Int))) 0 h⟩)

set_option maxHeartbeats 600000 in
theorem ok_laws_szSystem (a0 : laws_System) (a1 : Int) (r : Int) (h : laws_szSystem a0 a1 = some r) : OkAt Cc 19 [e_laws_System a0, .int .i64 a1] (.int .i64 r) [] := by
 refine OkAt.of_wpR (fx := [0]) Cc_ok [.tmp 4] [(0, e_laws_System a0), (1, .int .i64 a1)] Tryz.func19 rfl rfl s19 (Nat.le_of_ble_eq_true rfl) rfl rfl (fun Q0 r0 n0 => ?_)
 refine ws _ ?_
 obtain ⟨x1, e3, h⟩ := bindE h
 refine wsc (ok_laws_szDefinitionS a0.Definitions a1 _ e3) _ ?_
 refine w_seq (fun Q4 n4 q4 x4 => ?_)
 refine ws _ ?_
 rcases condE h with ⟨b6, h⟩ | ⟨b6, h⟩
 ·refine w_ct (congrArg AV.bool b6) ?_
  simp only [b6, Bool.not_true, Bool.not_false]
  refine ws _ ?_
  exact w_ret (q4 _ (r0 _ (.inl (w_fin [.int .i64 (-1)] rfl (by cases someE h; rfl) (by decide) outs_nil))))
 ·refine w_cf (congrArg AV.bool b6) ?_
  simp only [b6, Bool.not_true, Bool.not_false]
  refine w_skip (n4 _ (.inl ?_))
  obtain ⟨x2, e9, h⟩ := bindE h
  refine wsc (ok_laws_szComponentS a0.Components x1 _ e9) _ ?_
  refine w_seq (fun Q10 n10 q10 x10 => ?_)
  refine ws _ ?_
  rcases condE h with ⟨b12, h⟩ | ⟨b12, h⟩
  ·refine w_ct (congrArg AV.bool b12) ?_
   simp only [b12, Bool.not_true, Bool.not_false]
   refine ws _ ?_
   exact w_ret (q10 _ (r0 _ (.inl (w_fin [.int .i64 (-1)] rfl (by cases someE h; rfl) (by decide) outs_nil))))
  ·refine w_cf (congrArg AV.bool b12) ?_
   simp only [b12, Bool.not_true, Bool.not_false]
   refine w_skip (n10 _ (.inl ?_))
   obtain ⟨x3, e15, h⟩ := bindE h
   refine wsc (ok_laws_szMeetingS a0.Meetings x2 _ e15) _ ?_
   refine w_seq (fun Q16 n16 q16 x16 => ?_)
   refine ws _ ?_
   rcases condE h with ⟨b18, h⟩ | ⟨b18, h⟩
   ·refine w_ct (congrArg AV.bool b18) ?_
    simp only [b18, Bool.not_true, Bool.not_false]
    refine ws _ ?_
    exact w_ret (q16 _ (r0 _ (.inl (w_fin [.int .i64 (-1)] rfl (by cases someE h; rfl) (by decide) outs_nil))))
   ·refine w_cf (congrArg AV.bool b18) ?_
    simp only [b18, Bool.not_true, Bool.not_false]
    refine w_skip (n16 _ (.inl ?_))
    obtain ⟨x4, e21, h⟩ := bindE h
    refine wsc (ok_laws_szStringS a0.Allowed x3 _ e21) _ ?_
    refine w_seq (fun Q22 n22 q22 x22 => ?_)
    refine ws _ ?_
    rcases condE h with ⟨b24, h⟩ | ⟨b24, h⟩
    ·refine w_ct (congrArg AV.bool b24) ?_
     simp only [b24, Bool.not_true, Bool.not_false]
     refine ws _ ?_
     exact w_ret (q22 _ (r0 _ (.inl (w_fin [.int .i64 (-1)] rfl (by cases someE h; rfl) (by decide) outs_nil))))
    ·refine w_cf (congrArg AV.bool b24) ?_
     simp only [b24, Bool.not_true, Bool.not_false]
     refine w_skip (n22 _ (.inl ?_))
     obtain ⟨x5, e27, h⟩ := bindE h
     refine wsc (ok_laws_szStringS a0.Hidden x4 _ e27) _ ?_
     refine w_seq (fun Q28 n28 q28 x28 => ?_)
     refine ws _ ?_
     rcases condE h with ⟨b30, h⟩ | ⟨b30, h⟩
     ·refine w_ct (congrArg AV.bool b30) ?_
      simp only [b30, Bool.not_true, Bool.not_false]
      refine ws _ ?_
      exact w_ret (q28 _ (r0 _ (.inl (w_fin [.int .i64 (-1)] rfl (by cases someE h; rfl) (by decide) outs_nil))))
     ·refine w_cf (congrArg AV.bool b30) ?_
      simp only [b30, Bool.not_true, Bool.not_false]
      refine w_skip (n28 _ (.inl ?_))
      refine ws _ ?_
      exact w_ret (r0 _ (.inl (w_fin [.int .i64 x5] rfl (by cases someE h; rfl) (by decide) outs_nil)))

theorem ok_laws_szPoint (a0 : laws_Point) (a1 : Int) (r : Int) (h : laws_szPoint a0 a1 = some r) : OkAt Cc 84 [e_laws_Point a0, .int .i64 a1] (.int .i64 r) [] := by
 refine OkAt.of_wpR (fx := [0]) Cc_ok [.tmp 4] [(0, e_laws_Point a0), (1, .int .i64 a1)] Tryz.func84 rfl rfl s84 (Nat.le_of_ble_eq_true rfl) rfl rfl (fun Q0 r0 n0 => ?_)
 refine ws _ ?_
 obtain ⟨x1, e3, h⟩ := bindE h
 refine wsc (ok_laws_szInt64S a0.Values a1 _ e3) _ ?_
 refine w_seq (fun Q4 n4 q4 x4 => ?_)
 refine ws _ ?_
 rcases condE h with ⟨b6, h⟩ | ⟨b6, h⟩
 ·refine w_ct (congrArg AV.bool b6) ?_
  simp only [b6, Bool.not_true, Bool.not_false]
  refine ws _ ?_
  exact w_ret (q4 _ (r0 _ (.inl (w_fin [.int .i64 (-1)] rfl (by cases someE h; rfl) (by decide) outs_nil))))
 ·refine w_cf (congrArg AV.bool b6) ?_
  simp only [b6, Bool.not_true, Bool.not_false]
  refine w_skip (n4 _ (.inl ?_))
  refine ws _ ?_
  exact w_ret (r0 _ (.inl (w_fin [.int .i64 x1] rfl (by cases someE h; rfl) (by decide) outs_nil)))

theorem ok_laws_szPointS (a0 : List laws_Point) (a1 : Int) (r : Int) (h : laws_szPointS a0 a1 = some r) : OkAt Cc 34 [.slice (a0.map e_laws_Point), .int .i64 a1] (.int .i64 r) [] := by
 refine OkAt.of_wpR (fx := [0]) Cc_ok [.tmp 4] [(0, .slice (a0.map e_laws_Point)), (1, .int .i64 a1)] Tryz.func34 rfl rfl s34 (Nat.le_of_ble_eq_true rfl) rfl rfl (fun Q0 r0 n0 => ?_)
 refine ws _ ?_
 refine ws _ ?_
 refine w_seq (fun Q3 n3 q3 x3 => ?_)
 refine ws _ ?_
 rcases condE h with ⟨b5, h⟩ | ⟨b5, h⟩
 ·refine w_ct (congrArg AV.bool b5) ?_
  simp only [b5, Bool.not_true, Bool.not_false]
  refine ws _ ?_
  exact w_ret (q3 _ (r0 _ (.inl (w_fin [.int .i64 (-1)] rfl (by cases someE h; rfl) (by decide) outs_nil))))
 ·refine w_cf (congrArg AV.bool b5) ?_
  simp only [b5, Bool.not_true, Bool.not_false]
  refine w_skip (n3 _ (.inl ?_))
  refine w_seq (fun Q7 n7 q7 x7 => ?_)
  refine ws _ ?_
  refine w_blk (fun Q9 n9 q9 b9 x9 => ?_)
  have L16 : ∀ (n : Nat) (v1_16 : Int) (v5_16 : Int), laws_szPointS_l16 a0 n v1_16 v5_16 = some r → lpC Cc c34_17 Q9 (stA [(0, .slice (a0.map e_laws_Point)), (1, .int .i64 v1_16), (5, .int .i64 v5_16)]) := by
   intro m16
   induction m16 with
   | zero => intro v1_16 v5_16 h; cases (show none = some r from h)
   | succ m16 ih16 =>
    intro v1_16 v5_16 h
    replace h : laws_szPointS_b16 (laws_szPointS_l16 a0 m16) a0 v1_16 v5_16 = some r := h
    refine lpC_step (fun Q10 n10 q10 x10 => ?_)
    refine w_seq (fun Q11 n11 q11 x11 => ?_)
    refine ws _ ?_
    rcases condE h with ⟨b13, h⟩ | ⟨b13, h⟩
    ·refine w_ct (congrArg AV.bool b13) ?_
     simp only [b13, Bool.not_true, Bool.not_false]
     refine w_skip (n11 _ (.inl ?_))
     refine w_seq (fun Q14 n14 q14 x14 => ?_)
     refine w_blk (fun Q15 n15 q15 b15 x15 => ?_)
     obtain ⟨x1, e17, h⟩ := bindE h
     obtain ⟨x2, e18, h⟩ := bindE h
     refine wscf e17 (ok_laws_szPoint x1 v1_16 _ e18) _ ?_
     refine ws _ ?_
     rcases condE h with ⟨b20, h⟩ | ⟨b20, h⟩
     ·refine w_ct (congrArg AV.bool b20) ?_
      simp only [b20, Bool.not_true, Bool.not_false]
      refine ws _ ?_
      exact w_ret (q15 _ (q14 _ (q10 _ (q9 _ (q7 _ (r0 _ (.inl (w_fin [.int .i64 (-1)] rfl (by cases someE h; rfl) (by decide) outs_nil))))))))
     ·refine w_cf (congrArg AV.bool b20) ?_
      simp only [b20, Bool.not_true, Bool.not_false]
      refine w_skip (n15 _ (n14 _ (.inl ?_)))
      refine wr _ ?_
      exact n10 _ (.inr ⟨_, weak_eq rfl, ih16 x2 (IntKind.i64.wrap (v5_16 + 1)) h⟩)
    ·refine w_cf (congrArg AV.bool b13) ?_
     simp only [b13, Bool.not_true, Bool.not_false]
     refine w_ex (x11 0 _ (x10 0 _ (b9 _ (n7 _ (.inl ?_)))))
     refine ws _ ?_
     exact w_ret (r0 _ (.inl (w_fin [.int .i64 v1_16] rfl (by cases someE h; rfl) (by decide) outs_nil)))
  obtain ⟨n, h⟩ := limE h
  exact w_loop (.inr ⟨_, weak_eq rfl, L16 n (IntKind.i64.wrap (a1 - (a0.length : Int))) 0 h⟩)

theorem ok_laws_toTerm (a0 : laws_Term) (r : impl_Term) (h : laws_toTerm a0 = some r) : OkAt Cc 216 [e_laws_Term a0] (e_impl_Term r) [] := by
 refine OkAt.of_wpR (fx := [0]) Cc_ok [.cell 2 159] [(0, e_laws_Term a0)] Tryz.func216 rfl rfl s216 (Nat.le_of_ble_eq_true rfl) rfl rfl (fun Q0 r0 n0 => ?_)
 refine ws _ ?_
 refine ws _ ?_
 refine ws _ ?_
 refine ws _ ?_
 refine ws _ ?_
 exact w_ret (r0 _ (.inl (w_fin [e_impl_Term (impl_Term.mk a0.Kind a0.Value)] rfl (by cases someE h; rfl) (by decide) outs_nil)))

theorem ok_laws_toTermS (a0 : List laws_Term) (r : (List impl_Term)) (h : laws_toTermS a0 = some r) : OkAt Cc 164 [.slice (a0.map e_laws_Term)] (.uslice 2 (r.map e_impl_Term)) [] := by
 refine OkAt.of_wpR (fx := [0]) Cc_ok [.tmp 2] [(0, .slice (a0.map e_laws_Term))] Tryz.func164 rfl rfl s164 (Nat.le_of_ble_eq_true rfl) rfl rfl (fun Q0 r0 n0 => ?_)
 refine ws _ ?_
 obtain ⟨u18, e3, h⟩ := bindE h
 refine w_sreg (w_abs [(0, .slice (a0.map e_laws_Term)), (3, .uslice 2 ((List.replicate (Int.toNat (a0.length : Int)) (impl_Term.mk 0 0)).map e_impl_Term))] (fun P hP => ?_) ?_)
 ·simp only [V0.down, simprocAttr, tt2, tt84, tt138, tt159, tt256, e_impl_Term, e_laws_Term, (mkOkE e3).1, (mkOkE e3).2.1, (mkOkE e3).2.2, mks, List.map_replicate, -Int.reduceNatCast']
  (try simp only [VN.down, simprocAttr, e_impl_Term, e_laws_Term, (mkOkE e3).1, (mkOkE e3).2.1, (mkOkE e3).2.2, mks, List.map_replicate, -Int.reduceNatCast'] at hP ⊢); exact hP
 refine w_seq (fun Q4 n4 q4 x4 => ?_)
 refine ws [(0, .slice (a0.map e_laws_Term)), (3, .uslice 2 ((List.replicate (Int.toNat (a0.length : Int)) (impl_Term.mk 0 0)).map e_impl_Term)), (4, .int .i64 0)] ?_
 refine w_blk (fun Q6 n6 q6 b6 x6 => ?_)
 have L8 : ∀ (n : Nat) (v3_8 : List impl_Term) (v4_8 : Int), laws_toTermS_l8 a0 n v3_8 v4_8 = some r → lpC Cc c164_9 Q6 (stA [(0, .slice (a0.map e_laws_Term)), (3, .uslice 2 (v3_8.map e_impl_Term)), (4, .int .i64 v4_8)]) := by
  intro m8
  induction m8 with
  | zero => intro v3_8 v4_8 h; cases (show none = some r from h)
  | succ m8 ih8 =>
   intro v3_8 v4_8 h
   replace h : laws_toTermS_b8 (laws_toTermS_l8 a0 m8) a0 v3_8 v4_8 = some r := h
   refine lpC_step (fun Q7 n7 q7 x7 => ?_)
   refine w_seq (fun Q8 n8 q8 x8 => ?_)
   refine ws _ ?_
   rcases condE h with ⟨b10, h⟩ | ⟨b10, h⟩
   ·refine w_ct (congrArg AV.bool b10) ?_
    simp only [b10, Bool.not_true, Bool.not_false]
    refine w_skip (n8 _ (.inl ?_))
    refine w_seq (fun Q11 n11 q11 x11 => ?_)
    refine w_blk (fun Q12 n12 q12 b12 x12 => ?_)
    obtain ⟨x1, e14, h⟩ := bindE h
    obtain ⟨x2, e15, h⟩ := bindE h
    obtain ⟨x3, e16, h⟩ := bindE h
    refine w_reg (w_abs [(0, .slice (a0.map e_laws_Term)), (3, .uslice 2 ((List.set v3_8 (Int.toNat v4_8) x2).map e_impl_Term)), (4, .int .i64 v4_8)] (fun P hP => ?_) ?_)
    ·simp only [V0.down, simprocAttr, tt2, tt84, tt138, tt159, tt256, e_impl_Term, e_laws_Term, e14, e16, getI_get e16, own_s, stoS]
     refine w_call0 (ok_laws_toTerm x1 _ e15) rfl rfl rfl rfl (.inl (by rfl)) ?_
     simp only [V0.down, simprocAttr, tt2, tt84, tt138, tt159, tt256, e_impl_Term, e_laws_Term, e14, e16, getI_get e16, own_s, stoS]
     (try simp only [VN.down, simprocAttr, e_impl_Term, e_laws_Term, e14, e16, getI_get e16, own_s, stoS] at hP ⊢); exact hP
    refine n12 _ (n11 _ (.inl ?_))
    refine wr [(0, .slice (a0.map e_laws_Term)), (3, .uslice 2 ((List.set v3_8 (Int.toNat v4_8) x2).map e_impl_Term)), (4, .int .i64 (IntKind.i64.wrap (v4_8 + 1)))] ?_
    exact n7 _ (.inr ⟨_, weak_eq rfl, ih8 (List.set v3_8 (Int.toNat v4_8) x2) (IntKind.i64.wrap (v4_8 + 1)) h⟩)
   ·refine w_cf (congrArg AV.bool b10) ?_
    simp only [b10, Bool.not_true, Bool.not_false]
    refine w_ex (x8 0 _ (x7 0 _ (b6 _ (n4 _ (.inl ?_)))))
    refine ws _ ?_
    exact w_ret (r0 _ (.inl (w_fin [.uslice 2 (v3_8.map e_impl_Term)] rfl (by cases someE h; rfl) (by decide) outs_nil)))
 obtain ⟨n, h⟩ := limE h
 exact w_loop (.inr ⟨_, weak_eq rfl, L8 n (List.replicate (Int.toNat (a0.length : Int)) (impl_Term.mk 0 0)) 0 h⟩)

theorem ok_laws_toTermSS (a0 : List (List laws_Term)) (r : (List (List impl_Term))) (h : laws_toTermSS a0 = some r) : OkAt Cc 165 [.slice (a0.map e_s_laws_Term)] (.uslice 1 (r.map u_s_impl_Term)) [] := by
 refine OkAt.of_wpR (fx := [0]) Cc_ok [.tmp 2] [(0, .slice (a0.map e_s_laws_Term))] Tryz.func165 rfl rfl s165 (Nat.le_of_ble_eq_true rfl) rfl rfl (fun Q0 r0 n0 => ?_)
 refine ws _ ?_
 obtain ⟨u18, e3, h⟩ := bindE h
 refine w_sreg (w_abs [(0, .slice (a0.map e_s_laws_Term)), (3, .uslice 1 (List.replicate (Int.toNat (a0.length : Int)) .nils))] (fun P hP => ?_) ?_)
 ·simp only [V0.down, simprocAttr, tt2, tt84, tt85, tt138, tt139, tt159, tt256, e_laws_Term, e_s_laws_Term, (mkOkE e3).1, (mkOkE e3).2.1, (mkOkE e3).2.2, mks, List.map_replicate, -Int.reduceNatCast']
  (try simp only [VN.down, simprocAttr, e_laws_Term, e_s_laws_Term, (mkOkE e3).1, (mkOkE e3).2.1, (mkOkE e3).2.2, mks, List.map_replicate, -Int.reduceNatCast'] at hP ⊢); exact hP
 refine w_seq (fun Q4 n4 q4 x4 => ?_)
 refine ws [(0, .slice (a0.map e_s_laws_Term)), (3, .uslice 1 (List.replicate (Int.toNat (a0.length : Int)) .nils)), (4, .int .i64 0)] ?_
 refine w_blk (fun Q6 n6 q6 b6 x6 => ?_)
 have L8 : ∀ (n : Nat) (v3_8 : List (List impl_Term)) (v4_8 : Int), laws_toTermSS_l8 a0 n v3_8 v4_8 = some r → lpC Cc c165_9 Q6 (stA [(0, .slice (a0.map e_s_laws_Term)), (3, .uslice 1 (v3_8.map u_s_impl_Term)), (4, .int .i64 v4_8)]) := by
  intro m8
  induction m8 with
  | zero => intro v3_8 v4_8 h; cases (show none = some r from h)
  | succ m8 ih8 =>
   intro v3_8 v4_8 h
   replace h : laws_toTermSS_b8 (laws_toTermSS_l8 a0 m8) a0 v3_8 v4_8 = some r := h
   refine lpC_step (fun Q7 n7 q7 x7 => ?_)
   refine w_seq (fun Q8 n8 q8 x8 => ?_)
   refine ws _ ?_
   rcases condE h with ⟨b10, h⟩ | ⟨b10, h⟩
   ·refine w_ct (congrArg AV.bool b10) ?_
    simp only [b10, Bool.not_true, Bool.not_false]
    refine w_skip (n8 _ (.inl ?_))
    refine w_seq (fun Q11 n11 q11 x11 => ?_)
    refine w_blk (fun Q12 n12 q12 b12 x12 => ?_)
    obtain ⟨x1, e14, h⟩ := bindE h
    obtain ⟨x2, e15, h⟩ := bindE h
    obtain ⟨x3, e16, h⟩ := bindE h
    refine w_reg (w_abs [(0, .slice (a0.map e_s_laws_Term)), (3, .uslice 1 ((List.set v3_8 (Int.toNat v4_8) x2).map u_s_impl_Term)), (4, .int .i64 v4_8)] (fun P hP => ?_) ?_)
    ·simp only [V0.down, simprocAttr, tt2, tt84, tt85, tt138, tt139, tt159, tt256, e_impl_Term, e_laws_Term, e_s_laws_Term, u_s_impl_Term, e14, e16, getI_get e16, own_s, stoS]
     refine w_call0 (ok_laws_toTermS x1 _ e15) rfl rfl rfl rfl (.inl (by rfl)) ?_
     simp only [V0.down, simprocAttr, tt2, tt84, tt85, tt138, tt139, tt159, tt256, e_impl_Term, e_laws_Term, e_s_laws_Term, u_s_impl_Term, e14, e16, getI_get e16, own_s, stoS]
     (try simp only [VN.down, simprocAttr, e_impl_Term, e_laws_Term, e_s_laws_Term, u_s_impl_Term, e14, e16, getI_get e16, own_s, stoS] at hP ⊢); exact hP
    refine n12 _ (n11 _ (.inl ?_))
    refine wr [(0, .slice (a0.map e_s_laws_Term)), (3, .uslice 1 ((List.set v3_8 (Int.toNat v4_8) x2).map u_s_impl_Term)), (4, .int .i64 (IntKind.i64.wrap (v4_8 + 1)))] ?_
    exact n7 _ (.inr ⟨_, weak_eq rfl, ih8 (List.set v3_8 (Int.toNat v4_8) x2) (IntKind.i64.wrap (v4_8 + 1)) h⟩)
   ·refine w_cf (congrArg AV.bool b10) ?_
    simp only [b10, Bool.not_true, Bool.not_false]
    refine w_ex (x8 0 _ (x7 0 _ (b6 _ (n4 _ (.inl ?_)))))
    refine ws _ ?_
    exact w_ret (r0 _ (.inl (w_fin [.uslice 1 (v3_8.map u_s_impl_Term)] rfl (by cases someE h; rfl) (by decide) outs_nil)))
 obtain ⟨n, h⟩ := limE h
 exact w_loop (.inr ⟨_, weak_mix [] rfl (wk_eq (t := 0) (d := .slice (a0.map e_s_laws_Term)) rfl (wk_wd (t := 3) (d := .uslice 1 (List.replicate (Int.toNat (a0.length : Int)) .nils)) (d' := .uslice 1 ((List.replicate (Int.toNat (a0.length : Int)) []).map u_s_impl_Term)) rfl rfl (wd_rep (u := u_s_impl_Term) (z := []) (.nilsU _) _) (by decide) (wk_eq (t := 4) (d := .int .i64 0) rfl (wk_nil)))), L8 n (List.replicate (Int.toNat (a0.length : Int)) []) 0 h⟩)

theorem ok_laws_toPart (a0 : laws_Part) (r : impl_Part) (h : laws_toPart a0 = some r) : OkAt Cc 228 [e_laws_Part a0] (u_impl_Part r) [] := by
 refine OkAt.of_wpR (fx := [0]) Cc_ok [.cell 2 202] [(0, e_laws_Part a0)] Tryz.func228 rfl rfl s228 (Nat.le_of_ble_eq_true rfl) rfl rfl (fun Q0 r0 n0 => ?_)
 refine ws _ ?_
 refine ws _ ?_
 refine ws _ ?_
 refine ws _ ?_
 refine ws _ ?_
 obtain ⟨x1, e7, h⟩ := bindE h
 refine wsc (ok_laws_toTermSS a0.Arguments _ e7) _ ?_
 refine ws _ ?_
 exact w_ret (r0 _ (.inl (w_fin [u_impl_Part (impl_Part.mk a0.Kind a0.Number a0.Name x1)] rfl (by cases someE h; rfl) (by decide) outs_nil)))

theorem ok_laws_toPartS (a0 : List laws_Part) (r : (List impl_Part)) (h : laws_toPartS a0 = some r) : OkAt Cc 182 [.slice (a0.map e_laws_Part)] (.uslice 4 (r.map u_impl_Part)) [] := by
 refine OkAt.of_wpR (fx := [0]) Cc_ok [.tmp 2] [(0, .slice (a0.map e_laws_Part))] Tryz.func182 rfl rfl s182 (Nat.le_of_ble_eq_true rfl) rfl rfl (fun Q0 r0 n0 => ?_)
 refine ws _ ?_
 obtain ⟨u18, e3, h⟩ := bindE h
 refine w_sreg (w_abs [(0, .slice (a0.map e_laws_Part)), (3, .uslice 4 (List.replicate (Int.toNat (a0.length : Int)) (.agg [(.int .i64 0), (.int .i64 0), (.str []), .nils])))] (fun P hP => ?_) ?_)
 ·simp only [V0.down, simprocAttr, tt2, tt9, tt84, tt85, tt138, tt139, tt159, tt171, tt176, tt202, tt256, tt261, e_laws_Part, e_laws_Term, e_s_laws_Term, (mkOkE e3).1, (mkOkE e3).2.1, (mkOkE e3).2.2, mks, List.map_replicate, -Int.reduceNatCast']
  (try simp only [VN.down, simprocAttr, e_laws_Part, e_laws_Term, e_s_laws_Term, (mkOkE e3).1, (mkOkE e3).2.1, (mkOkE e3).2.2, mks, List.map_replicate, -Int.reduceNatCast'] at hP ⊢); exact hP
 refine w_seq (fun Q4 n4 q4 x4 => ?_)
 refine ws [(0, .slice (a0.map e_laws_Part)), (3, .uslice 4 (List.replicate (Int.toNat (a0.length : Int)) (.agg [(.int .i64 0), (.int .i64 0), (.str []), .nils]))), (4, .int .i64 0)] ?_
 refine w_blk (fun Q6 n6 q6 b6 x6 => ?_)
 have L8 : ∀ (n : Nat) (v3_8 : List impl_Part) (v4_8 : Int), laws_toPartS_l8 a0 n v3_8 v4_8 = some r → lpC Cc c182_9 Q6 (stA [(0, .slice (a0.map e_laws_Part)), (3, .uslice 4 (v3_8.map u_impl_Part)), (4, .int .i64 v4_8)]) := by
  intro m8
  induction m8 with
  | zero => intro v3_8 v4_8 h; cases (show none = some r from h)
  | succ m8 ih8 =>
   intro v3_8 v4_8 h
   replace h : laws_toPartS_b8 (laws_toPartS_l8 a0 m8) a0 v3_8 v4_8 = some r := h
   refine lpC_step (fun Q7 n7 q7 x7 => ?_)
   refine w_seq (fun Q8 n8 q8 x8 => ?_)
   refine ws _ ?_
   rcases condE h with ⟨b10, h⟩ | ⟨b10, h⟩
   ·refine w_ct (congrArg AV.bool b10) ?_
    simp only [b10, Bool.not_true, Bool.not_false]
    refine w_skip (n8 _ (.inl ?_))
    refine w_seq (fun Q11 n11 q11 x11 => ?_)
    refine w_blk (fun Q12 n12 q12 b12 x12 => ?_)
    obtain ⟨x1, e14, h⟩ := bindE h
    obtain ⟨x2, e15, h⟩ := bindE h
    obtain ⟨x3, e16, h⟩ := bindE h
    refine w_reg (w_abs [(0, .slice (a0.map e_laws_Part)), (3, .uslice 4 ((List.set v3_8 (Int.toNat v4_8) x2).map u_impl_Part)), (4, .int .i64 v4_8)] (fun P hP => ?_) ?_)
    ·simp only [V0.down, simprocAttr, tt2, tt9, tt84, tt85, tt138, tt139, tt159, tt171, tt176, tt202, tt256, tt261, e_impl_Term, e_laws_Part, e_laws_Term, e_s_laws_Term, u_impl_Part, u_s_impl_Term, e14, e16, getI_get e16, own_s, stoS]
     refine w_call0 (ok_laws_toPart x1 _ e15) rfl rfl rfl rfl (.inl (by rfl)) ?_
     simp only [V0.down, simprocAttr, tt2, tt9, tt84, tt85, tt138, tt139, tt159, tt171, tt176, tt202, tt256, tt261, e_impl_Term, e_laws_Part, e_laws_Term, e_s_laws_Term, u_impl_Part, u_s_impl_Term, e14, e16, getI_get e16, own_s, stoS]
     (try simp only [VN.down, simprocAttr, e_impl_Term, e_laws_Part, e_laws_Term, e_s_laws_Term, u_impl_Part, u_s_impl_Term, e14, e16, getI_get e16, own_s, stoS] at hP ⊢); exact hP
    refine n12 _ (n11 _ (.inl ?_))
    refine wr [(0, .slice (a0.map e_laws_Part)), (3, .uslice 4 ((List.set v3_8 (Int.toNat v4_8) x2).map u_impl_Part)), (4, .int .i64 (IntKind.i64.wrap (v4_8 + 1)))] ?_
    exact n7 _ (.inr ⟨_, weak_eq rfl, ih8 (List.set v3_8 (Int.toNat v4_8) x2) (IntKind.i64.wrap (v4_8 + 1)) h⟩)
   ·refine w_cf (congrArg AV.bool b10) ?_
    simp only [b10, Bool.not_true, Bool.not_false]
    refine w_ex (x8 0 _ (x7 0 _ (b6 _ (n4 _ (.inl ?_)))))
    refine ws _ ?_
    exact w_ret (r0 _ (.inl (w_fin [.uslice 4 (v3_8.map u_impl_Part)] rfl (by cases someE h; rfl) (by decide) outs_nil)))
 obtain ⟨n, h⟩ := limE h
 exact w_loop (.inr ⟨_, weak_mix [] rfl (wk_eq (t := 0) (d := .slice (a0.map e_laws_Part)) rfl (wk_wd (t := 3) (d := .uslice 4 (List.replicate (Int.toNat (a0.length : Int)) (.agg [(.int .i64 0), (.int .i64 0), (.str []), .nils]))) (d' := .uslice 4 ((List.replicate (Int.toNat (a0.length : Int)) (impl_Part.mk 0 0 ([] : List UInt8) [])).map u_impl_Part)) rfl rfl (wd_rep (u := u_impl_Part) (z := (impl_Part.mk 0 0 ([] : List UInt8) [])) (.agg (.cons (.refl _) (.cons (.refl _) (.cons (.refl _) (.cons (.nilsU _) (.nil)))))) _) (by decide) (wk_eq (t := 4) (d := .int .i64 0) rfl (wk_nil)))), L8 n (List.replicate (Int.toNat (a0.length : Int)) (impl_Part.mk 0 0 ([] : List UInt8) [])) 0 h⟩)

theorem ok_laws_toDefinition (a0 : laws_Definition) (r : impl_Definition) (h : laws_toDefinition a0 = some r) : OkAt Cc 131 [e_laws_Definition a0] (u_impl_Definition r) [] := by
 refine OkAt.of_wpR (fx := [0]) Cc_ok [.cell 2 178] [(0, e_laws_Definition a0)] Tryz.func131 rfl rfl s131 (Nat.le_of_ble_eq_true rfl) rfl rfl (fun Q0 r0 n0 => ?_)
 refine ws _ ?_
 refine ws _ ?_
 refine ws _ ?_
 refine ws _ ?_
 obtain ⟨x1, e6, h⟩ := bindE h
 refine wsc (ok_laws_toPartS a0.Body _ e6) _ ?_
 refine ws _ ?_
 exact w_ret (r0 _ (.inl (w_fin [u_impl_Definition (impl_Definition.mk a0.Name a0.Parameters x1)] rfl (by cases someE h; rfl) (by decide) outs_nil)))

theorem ok_laws_toDefinitionS (a0 : List laws_Definition) (r : (List impl_Definition)) (h : laws_toDefinitionS a0 = some r) : OkAt Cc 61 [.slice (a0.map e_laws_Definition)] (.uslice 3 (r.map u_impl_Definition)) [] := by
 refine OkAt.of_wpR (fx := [0]) Cc_ok [.tmp 2] [(0, .slice (a0.map e_laws_Definition))] Tryz.func61 rfl rfl s61 (Nat.le_of_ble_eq_true rfl) rfl rfl (fun Q0 r0 n0 => ?_)
 refine ws _ ?_
 obtain ⟨u18, e3, h⟩ := bindE h
 refine w_sreg (w_abs [(0, .slice (a0.map e_laws_Definition)), (3, .uslice 3 (List.replicate (Int.toNat (a0.length : Int)) (.agg [(.str []), (.int .i64 0), .nils])))] (fun P hP => ?_) ?_)
 ·simp only [V0.down, simprocAttr, tt2, tt9, tt38, tt46, tt84, tt85, tt138, tt139, tt159, tt171, tt173, tt176, tt178, tt202, tt256, tt261, e_laws_Definition, e_laws_Part, e_laws_Term, e_s_laws_Term, (mkOkE e3).1, (mkOkE e3).2.1, (mkOkE e3).2.2, mks, List.map_replicate, -Int.reduceNatCast']
  (try simp only [VN.down, simprocAttr, e_laws_Definition, e_laws_Part, e_laws_Term, e_s_laws_Term, (mkOkE e3).1, (mkOkE e3).2.1, (mkOkE e3).2.2, mks, List.map_replicate, -Int.reduceNatCast'] at hP ⊢); exact hP
 refine w_seq (fun Q4 n4 q4 x4 => ?_)
 refine ws [(0, .slice (a0.map e_laws_Definition)), (3, .uslice 3 (List.replicate (Int.toNat (a0.length : Int)) (.agg [(.str []), (.int .i64 0), .nils]))), (4, .int .i64 0)] ?_
 refine w_blk (fun Q6 n6 q6 b6 x6 => ?_)
 have L8 : ∀ (n : Nat) (v3_8 : List impl_Definition) (v4_8 : Int), laws_toDefinitionS_l8 a0 n v3_8 v4_8 = some r → lpC Cc c61_9 Q6 (stA [(0, .slice (a0.map e_laws_Definition)), (3, .uslice 3 (v3_8.map u_impl_Definition)), (4, .int .i64 v4_8)]) := by
  intro m8
  induction m8 with
  | zero => intro v3_8 v4_8 h; cases (show none = some r from h)
  | succ m8 ih8 =>
   intro v3_8 v4_8 h
   replace h : laws_toDefinitionS_b8 (laws_toDefinitionS_l8 a0 m8) a0 v3_8 v4_8 = some r := h
   refine lpC_step (fun Q7 n7 q7 x7 => ?_)
   refine w_seq (fun Q8 n8 q8 x8 => ?_)
   refine ws _ ?_
   rcases condE h with ⟨b10, h⟩ | ⟨b10, h⟩
   ·refine w_ct (congrArg AV.bool b10) ?_
    simp only [b10, Bool.not_true, Bool.not_false]
    refine w_skip (n8 _ (.inl ?_))
    refine w_seq (fun Q11 n11 q11 x11 => ?_)
    refine w_blk (fun Q12 n12 q12 b12 x12 => ?_)
    obtain ⟨x1, e14, h⟩ := bindE h
    obtain ⟨x2, e15, h⟩ := bindE h
    obtain ⟨x3, e16, h⟩ := bindE h
    refine w_reg (w_abs [(0, .slice (a0.map e_laws_Definition)), (3, .uslice 3 ((List.set v3_8 (Int.toNat v4_8) x2).map u_impl_Definition)), (4, .int .i64 v4_8)] (fun P hP => ?_) ?_)
    ·simp only [V0.down, simprocAttr, tt2, tt9, tt38, tt46, tt84, tt85, tt138, tt139, tt159, tt171, tt173, tt176, tt178, tt202, tt256, tt261, e_impl_Term, e_laws_Definition, e_laws_Part, e_laws_Term, e_s_laws_Term, u_impl_Definition, u_impl_Part, u_s_impl_Term, e14, e16, getI_get e16, own_s, stoS]
     refine w_call0 (ok_laws_toDefinition x1 _ e15) rfl rfl rfl rfl (.inl (by rfl)) ?_
     simp only [V0.down, simprocAttr, tt2, tt9, tt38, tt46, tt84, tt85, tt138, tt139, tt159, tt171, tt173, tt176, tt178, tt202, tt256, tt261, e_impl_Term, e_laws_Definition, e_laws_Part, e_laws_Term, e_s_laws_Term, u_impl_Definition, u_impl_Part, u_s_impl_Term, e14, e16, getI_get e16, own_s, stoS]
     (try simp only [VN.down, simprocAttr, e_impl_Term, e_laws_Definition, e_laws_Part, e_laws_Term, e_s_laws_Term, u_impl_Definition, u_impl_Part, u_s_impl_Term, e14, e16, getI_get e16, own_s, stoS] at hP ⊢); exact hP
    refine n12 _ (n11 _ (.inl ?_))
    refine wr [(0, .slice (a0.map e_laws_Definition)), (3, .uslice 3 ((List.set v3_8 (Int.toNat v4_8) x2).map u_impl_Definition)), (4, .int .i64 (IntKind.i64.wrap (v4_8 + 1)))] ?_
    exact n7 _ (.inr ⟨_, weak_eq rfl, ih8 (List.set v3_8 (Int.toNat v4_8) x2) (IntKind.i64.wrap (v4_8 + 1)) h⟩)
   ·refine w_cf (congrArg AV.bool b10) ?_
    simp only [b10, Bool.not_true, Bool.not_false]
    refine w_ex (x8 0 _ (x7 0 _ (b6 _ (n4 _ (.inl ?_)))))
    refine ws _ ?_
    exact w_ret (r0 _ (.inl (w_fin [.uslice 3 (v3_8.map u_impl_Definition)] rfl (by cases someE h; rfl) (by decide) outs_nil)))
 obtain ⟨n, h⟩ := limE h
 exact w_loop (.inr ⟨_, weak_mix [] rfl (wk_eq (t := 0) (d := .slice (a0.map e_laws_Definition)) rfl (wk_wd (t := 3) (d := .uslice 3 (List.replicate (Int.toNat (a0.length : Int)) (.agg [(.str []), (.int .i64 0), .nils]))) (d' := .uslice 3 ((List.replicate (Int.toNat (a0.length : Int)) (impl_Definition.mk ([] : List UInt8) 0 [])).map u_impl_Definition)) rfl rfl (wd_rep (u := u_impl_Definition) (z := (impl_Definition.mk ([] : List UInt8) 0 [])) (.agg (.cons (.refl _) (.cons (.refl _) (.cons (.nilsU _) (.nil))))) _) (by decide) (wk_eq (t := 4) (d := .int .i64 0) rfl (wk_nil)))), L8 n (List.replicate (Int.toNat (a0.length : Int)) (impl_Definition.mk ([] : List UInt8) 0 [])) 0 h⟩)

theorem ok_laws_toInt64S (a0 : List Int) (r : (List Int)) (h : laws_toInt64S a0 = some r) : OkAt Cc 45 [.slice (a0.map e_i64)] (.uslice 1 (r.map e_i64)) [] := by
 refine OkAt.of_wpR (fx := [0]) Cc_ok [.tmp 2] [(0, .slice (a0.map e_i64))] Tryz.func45 rfl rfl s45 (Nat.le_of_ble_eq_true rfl) rfl rfl (fun Q0 r0 n0 => ?_)
 refine ws _ ?_
 obtain ⟨u17, e3, h⟩ := bindE h
 refine w_sreg (w_abs [(0, .slice (a0.map e_i64)), (3, .uslice 1 ((List.replicate (Int.toNat (a0.length : Int)) 0).map e_i64))] (fun P hP => ?_) ?_)
 ·simp only [V0.down, simprocAttr, tt2, tt22, e_i64, (mkOkE e3).1, (mkOkE e3).2.1, (mkOkE e3).2.2, mks, List.map_replicate, -Int.reduceNatCast']
  (try simp only [VN.down, simprocAttr, e_i64, (mkOkE e3).1, (mkOkE e3).2.1, (mkOkE e3).2.2, mks, List.map_replicate, -Int.reduceNatCast'] at hP ⊢); exact hP
 refine w_seq (fun Q4 n4 q4 x4 => ?_)
 refine ws [(0, .slice (a0.map e_i64)), (3, .uslice 1 ((List.replicate (Int.toNat (a0.length : Int)) 0).map e_i64)), (4, .int .i64 0)] ?_
 refine w_blk (fun Q6 n6 q6 b6 x6 => ?_)
 have L8 : ∀ (n : Nat) (v3_8 : List Int) (v4_8 : Int), laws_toInt64S_l8 a0 n v3_8 v4_8 = some r → lpC Cc c45_9 Q6 (stA [(0, .slice (a0.map e_i64)), (3, .uslice 1 (v3_8.map e_i64)), (4, .int .i64 v4_8)]) := by
  intro m8
  induction m8 with
  | zero => intro v3_8 v4_8 h; cases (show none = some r from h)
  | succ m8 ih8 =>
   intro v3_8 v4_8 h
   replace h : laws_toInt64S_b8 (laws_toInt64S_l8 a0 m8) a0 v3_8 v4_8 = some r := h
   refine lpC_step (fun Q7 n7 q7 x7 => ?_)
   refine w_seq (fun Q8 n8 q8 x8 => ?_)
   refine ws _ ?_
   rcases condE h with ⟨b10, h⟩ | ⟨b10, h⟩
   ·refine w_ct (congrArg AV.bool b10) ?_
    simp only [b10, Bool.not_true, Bool.not_false]
    refine w_skip (n8 _ (.inl ?_))
    refine w_seq (fun Q11 n11 q11 x11 => ?_)
    refine w_blk (fun Q12 n12 q12 b12 x12 => ?_)
    obtain ⟨x1, e14, h⟩ := bindE h
    obtain ⟨x2, e15, h⟩ := bindE h
    refine w_reg (w_abs [(0, .slice (a0.map e_i64)), (3, .uslice 1 ((List.set v3_8 (Int.toNat v4_8) x1).map e_i64)), (4, .int .i64 v4_8)] (fun P hP => ?_) ?_)
    ·simp only [V0.down, simprocAttr, tt2, tt22, e_i64, e14, e15, getI_get e15, own_s, stoS]
     (try simp only [VN.down, simprocAttr, e_i64, e14, e15, getI_get e15, own_s, stoS] at hP ⊢); exact hP
    refine n12 _ (n11 _ (.inl ?_))
    refine wr [(0, .slice (a0.map e_i64)), (3, .uslice 1 ((List.set v3_8 (Int.toNat v4_8) x1).map e_i64)), (4, .int .i64 (IntKind.i64.wrap (v4_8 + 1)))] ?_
    exact n7 _ (.inr ⟨_, weak_eq rfl, ih8 (List.set v3_8 (Int.toNat v4_8) x1) (IntKind.i64.wrap (v4_8 + 1)) h⟩)
   ·refine w_cf (congrArg AV.bool b10) ?_
    simp only [b10, Bool.not_true, Bool.not_false]
    refine w_ex (x8 0 _ (x7 0 _ (b6 _ (n4 _ (.inl ?_)))))
    refine ws _ ?_
    exact w_ret (r0 _ (.inl (w_fin [.uslice 1 (v3_8.map e_i64)] rfl (by cases someE h; rfl) (by decide) outs_nil)))
 obtain ⟨n, h⟩ := limE h
 exact w_loop (.inr ⟨_, weak_eq rfl, L8 n (List.replicate (Int.toNat (a0.length : Int)) 0) 0 h⟩)

theorem ok_laws_toComponent (a0 : laws_Component) (r : impl_Component) (h : laws_toComponent a0 = some r) : OkAt Cc 132 [e_laws_Component a0] (u_impl_Component r) [] := by
 refine OkAt.of_wpR (fx := [0]) Cc_ok [.cell 2 105] [(0, e_laws_Component a0)] Tryz.func132 rfl rfl s132 (Nat.le_of_ble_eq_true rfl) rfl rfl (fun Q0 r0 n0 => ?_)
 refine ws _ ?_
 refine ws _ ?_
 refine ws _ ?_
 obtain ⟨x1, e5, h⟩ := bindE h
 refine wsc (ok_laws_toInt64S a0.Values _ e5) _ ?_
 refine ws _ ?_
 exact w_ret (r0 _ (.inl (w_fin [u_impl_Component (impl_Component.mk a0.Definition x1)] rfl (by cases someE h; rfl) (by decide) outs_nil)))

theorem ok_laws_toComponentS (a0 : List laws_Component) (r : (List impl_Component)) (h : laws_toComponentS a0 = some r) : OkAt Cc 62 [.slice (a0.map e_laws_Component)] (.uslice 2 (r.map u_impl_Component)) [] := by
 refine OkAt.of_wpR (fx := [0]) Cc_ok [.tmp 2] [(0, .slice (a0.map e_laws_Component))] Tryz.func62 rfl rfl s62 (Nat.le_of_ble_eq_true rfl) rfl rfl (fun Q0 r0 n0 => ?_)
 refine ws _ ?_
 obtain ⟨u18, e3, h⟩ := bindE h
 refine w_sreg (w_abs [(0, .slice (a0.map e_laws_Component)), (3, .uslice 2 (List.replicate (Int.toNat (a0.length : Int)) (.agg [(.int .i64 0), .nils])))] (fun P hP => ?_) ?_)
 ·simp only [V0.down, simprocAttr, tt2, tt22, tt39, tt47, tt105, tt175, e_i64, e_laws_Component, (mkOkE e3).1, (mkOkE e3).2.1, (mkOkE e3).2.2, mks, List.map_replicate, -Int.reduceNatCast']
  (try simp only [VN.down, simprocAttr, e_i64, e_laws_Component, (mkOkE e3).1, (mkOkE e3).2.1, (mkOkE e3).2.2, mks, List.map_replicate, -Int.reduceNatCast'] at hP ⊢); exact hP
 refine w_seq (fun Q4 n4 q4 x4 => ?_)
 refine ws [(0, .slice (a0.map e_laws_Component)), (3, .uslice 2 (List.replicate (Int.toNat (a0.length : Int)) (.agg [(.int .i64 0), .nils]))), (4, .int .i64 0)] ?_
 refine w_blk (fun Q6 n6 q6 b6 x6 => ?_)
 have L8 : ∀ (n : Nat) (v3_8 : List impl_Component) (v4_8 : Int), laws_toComponentS_l8 a0 n v3_8 v4_8 = some r → lpC Cc c62_9 Q6 (stA [(0, .slice (a0.map e_laws_Component)), (3, .uslice 2 (v3_8.map u_impl_Component)), (4, .int .i64 v4_8)]) := by
  intro m8
  induction m8 with
  | zero => intro v3_8 v4_8 h; cases (show none = some r from h)
  | succ m8 ih8 =>
   intro v3_8 v4_8 h
   replace h : laws_toComponentS_b8 (laws_toComponentS_l8 a0 m8) a0 v3_8 v4_8 = some r := h
   refine lpC_step (fun Q7 n7 q7 x7 => ?_)
   refine w_seq (fun Q8 n8 q8 x8 => ?_)
   refine ws _ ?_
   rcases condE h with ⟨b10, h⟩ | ⟨b10, h⟩
   ·refine w_ct (congrArg AV.bool b10) ?_
    simp only [b10, Bool.not_true, Bool.not_false]
    refine w_skip (n8 _ (.inl ?_))
    refine w_seq (fun Q11 n11 q11 x11 => ?_)
    refine w_blk (fun Q12 n12 q12 b12 x12 => ?_)
    obtain ⟨x1, e14, h⟩ := bindE h
    obtain ⟨x2, e15, h⟩ := bindE h
    obtain ⟨x3, e16, h⟩ := bindE h
    refine w_reg (w_abs [(0, .slice (a0.map e_laws_Component)), (3, .uslice 2 ((List.set v3_8 (Int.toNat v4_8) x2).map u_impl_Component)), (4, .int .i64 v4_8)] (fun P hP => ?_) ?_)
    ·simp only [V0.down, simprocAttr, tt2, tt22, tt39, tt47, tt105, tt175, e_i64, e_laws_Component, u_impl_Component, e14, e16, getI_get e16, own_s, stoS]
     refine w_call0 (ok_laws_toComponent x1 _ e15) rfl rfl rfl rfl (.inl (by rfl)) ?_
     simp only [V0.down, simprocAttr, tt2, tt22, tt39, tt47, tt105, tt175, e_i64, e_laws_Component, u_impl_Component, e14, e16, getI_get e16, own_s, stoS]
     (try simp only [VN.down, simprocAttr, e_i64, e_laws_Component, u_impl_Component, e14, e16, getI_get e16, own_s, stoS] at hP ⊢); exact hP
    refine n12 _ (n11 _ (.inl ?_))
    refine wr [(0, .slice (a0.map e_laws_Component)), (3, .uslice 2 ((List.set v3_8 (Int.toNat v4_8) x2).map u_impl_Component)), (4, .int .i64 (IntKind.i64.wrap (v4_8 + 1)))] ?_
    exact n7 _ (.inr ⟨_, weak_eq rfl, ih8 (List.set v3_8 (Int.toNat v4_8) x2) (IntKind.i64.wrap (v4_8 + 1)) h⟩)
   ·refine w_cf (congrArg AV.bool b10) ?_
    simp only [b10, Bool.not_true, Bool.not_false]
    refine w_ex (x8 0 _ (x7 0 _ (b6 _ (n4 _ (.inl ?_)))))
    refine ws _ ?_
    exact w_ret (r0 _ (.inl (w_fin [.uslice 2 (v3_8.map u_impl_Component)] rfl (by cases someE h; rfl) (by decide) outs_nil)))
 obtain ⟨n, h⟩ := limE h
 exact w_loop (.inr ⟨_, weak_mix [] rfl (wk_eq (t := 0) (d := .slice (a0.map e_laws_Component)) rfl (wk_wd (t := 3) (d := .uslice 2 (List.replicate (Int.toNat (a0.length : Int)) (.agg [(.int .i64 0), .nils]))) (d' := .uslice 2 ((List.replicate (Int.toNat (a0.length : Int)) (impl_Component.mk 0 [])).map u_impl_Component)) rfl rfl (wd_rep (u := u_impl_Component) (z := (impl_Component.mk 0 [])) (.agg (.cons (.refl _) (.cons (.nilsU _) (.nil)))) _) (by decide) (wk_eq (t := 4) (d := .int .i64 0) rfl (wk_nil)))), L8 n (List.replicate (Int.toNat (a0.length : Int)) (impl_Component.mk 0 [])) 0 h⟩)

theorem ok_laws_toMeeting (a0 : laws_Meeting) (r : impl_Meeting) (h : laws_toMeeting a0 = some r) : OkAt Cc 78 [e_laws_Meeting a0] (e_impl_Meeting r) [] := by
 refine OkAt.of_wpR (fx := [0]) Cc_ok [.cell 2 119] [(0, e_laws_Meeting a0)] Tryz.func78 rfl rfl s78 (Nat.le_of_ble_eq_true rfl) rfl rfl (fun Q0 r0 n0 => ?_)
 refine ws _ ?_
 refine ws _ ?_
 refine ws _ ?_
 refine ws _ ?_
 refine ws _ ?_
 refine ws _ ?_
 exact w_ret (r0 _ (.inl (w_fin [e_impl_Meeting (impl_Meeting.mk a0.Left a0.Right a0.Result)] rfl (by cases someE h; rfl) (by decide) outs_nil)))

theorem ok_laws_toMeetingS (a0 : List laws_Meeting) (r : (List impl_Meeting)) (h : laws_toMeetingS a0 = some r) : OkAt Cc 28 [.slice (a0.map e_laws_Meeting)] (.uslice 3 (r.map e_impl_Meeting)) [] := by
 refine OkAt.of_wpR (fx := [0]) Cc_ok [.tmp 2] [(0, .slice (a0.map e_laws_Meeting))] Tryz.func28 rfl rfl s28 (Nat.le_of_ble_eq_true rfl) rfl rfl (fun Q0 r0 n0 => ?_)
 refine ws _ ?_
 obtain ⟨u18, e3, h⟩ := bindE h
 refine w_sreg (w_abs [(0, .slice (a0.map e_laws_Meeting)), (3, .uslice 3 ((List.replicate (Int.toNat (a0.length : Int)) (impl_Meeting.mk ([] : List UInt8) ([] : List UInt8) ([] : List UInt8))).map e_impl_Meeting))] (fun P hP => ?_) ?_)
 ·simp only [V0.down, simprocAttr, tt9, tt40, tt48, tt116, tt119, e_impl_Meeting, e_laws_Meeting, (mkOkE e3).1, (mkOkE e3).2.1, (mkOkE e3).2.2, mks, List.map_replicate, -Int.reduceNatCast']
  (try simp only [VN.down, simprocAttr, e_impl_Meeting, e_laws_Meeting, (mkOkE e3).1, (mkOkE e3).2.1, (mkOkE e3).2.2, mks, List.map_replicate, -Int.reduceNatCast'] at hP ⊢); exact hP
 refine w_seq (fun Q4 n4 q4 x4 => ?_)
 refine ws [(0, .slice (a0.map e_laws_Meeting)), (3, .uslice 3 ((List.replicate (Int.toNat (a0.length : Int)) (impl_Meeting.mk ([] : List UInt8) ([] : List UInt8) ([] : List UInt8))).map e_impl_Meeting)), (4, .int .i64 0)] ?_
 refine w_blk (fun Q6 n6 q6 b6 x6 => ?_)
 have L8 : ∀ (n : Nat) (v3_8 : List impl_Meeting) (v4_8 : Int), laws_toMeetingS_l8 a0 n v3_8 v4_8 = some r → lpC Cc c28_9 Q6 (stA [(0, .slice (a0.map e_laws_Meeting)), (3, .uslice 3 (v3_8.map e_impl_Meeting)), (4, .int .i64 v4_8)]) := by
  intro m8
  induction m8 with
  | zero => intro v3_8 v4_8 h; cases (show none = some r from h)
  | succ m8 ih8 =>
   intro v3_8 v4_8 h
   replace h : laws_toMeetingS_b8 (laws_toMeetingS_l8 a0 m8) a0 v3_8 v4_8 = some r := h
   refine lpC_step (fun Q7 n7 q7 x7 => ?_)
   refine w_seq (fun Q8 n8 q8 x8 => ?_)
   refine ws _ ?_
   rcases condE h with ⟨b10, h⟩ | ⟨b10, h⟩
   ·refine w_ct (congrArg AV.bool b10) ?_
    simp only [b10, Bool.not_true, Bool.not_false]
    refine w_skip (n8 _ (.inl ?_))
    refine w_seq (fun Q11 n11 q11 x11 => ?_)
    refine w_blk (fun Q12 n12 q12 b12 x12 => ?_)
    obtain ⟨x1, e14, h⟩ := bindE h
    obtain ⟨x2, e15, h⟩ := bindE h
    obtain ⟨x3, e16, h⟩ := bindE h
    refine w_reg (w_abs [(0, .slice (a0.map e_laws_Meeting)), (3, .uslice 3 ((List.set v3_8 (Int.toNat v4_8) x2).map e_impl_Meeting)), (4, .int .i64 v4_8)] (fun P hP => ?_) ?_)
    ·simp only [V0.down, simprocAttr, tt9, tt40, tt48, tt116, tt119, e_impl_Meeting, e_laws_Meeting, e14, e16, getI_get e16, own_s, stoS]
     refine w_call0 (ok_laws_toMeeting x1 _ e15) rfl rfl rfl rfl (.inl (by rfl)) ?_
     simp only [V0.down, simprocAttr, tt9, tt40, tt48, tt116, tt119, e_impl_Meeting, e_laws_Meeting, e14, e16, getI_get e16, own_s, stoS]
     (try simp only [VN.down, simprocAttr, e_impl_Meeting, e_laws_Meeting, e14, e16, getI_get e16, own_s, stoS] at hP ⊢); exact hP
    refine n12 _ (n11 _ (.inl ?_))
    refine wr [(0, .slice (a0.map e_laws_Meeting)), (3, .uslice 3 ((List.set v3_8 (Int.toNat v4_8) x2).map e_impl_Meeting)), (4, .int .i64 (IntKind.i64.wrap (v4_8 + 1)))] ?_
    exact n7 _ (.inr ⟨_, weak_eq rfl, ih8 (List.set v3_8 (Int.toNat v4_8) x2) (IntKind.i64.wrap (v4_8 + 1)) h⟩)
   ·refine w_cf (congrArg AV.bool b10) ?_
    simp only [b10, Bool.not_true, Bool.not_false]
    refine w_ex (x8 0 _ (x7 0 _ (b6 _ (n4 _ (.inl ?_)))))
    refine ws _ ?_
    exact w_ret (r0 _ (.inl (w_fin [.uslice 3 (v3_8.map e_impl_Meeting)] rfl (by cases someE h; rfl) (by decide) outs_nil)))
 obtain ⟨n, h⟩ := limE h
 exact w_loop (.inr ⟨_, weak_eq rfl, L8 n (List.replicate (Int.toNat (a0.length : Int)) (impl_Meeting.mk ([] : List UInt8) ([] : List UInt8) ([] : List UInt8))) 0 h⟩)

theorem ok_laws_toStringS (a0 : List (List UInt8)) (r : (List (List UInt8))) (h : laws_toStringS a0 = some r) : OkAt Cc 63 [.slice (a0.map e_str)] (.uslice 1 (r.map e_str)) [] := by
 refine OkAt.of_wpR (fx := [0]) Cc_ok [.tmp 2] [(0, .slice (a0.map e_str))] Tryz.func63 rfl rfl s63 (Nat.le_of_ble_eq_true rfl) rfl rfl (fun Q0 r0 n0 => ?_)
 refine ws _ ?_
 obtain ⟨u17, e3, h⟩ := bindE h
 refine w_sreg (w_abs [(0, .slice (a0.map e_str)), (3, .uslice 1 ((List.replicate (Int.toNat (a0.length : Int)) ([] : List UInt8)).map e_str))] (fun P hP => ?_) ?_)
 ·simp only [V0.down, simprocAttr, tt9, tt41, e_str, (mkOkE e3).1, (mkOkE e3).2.1, (mkOkE e3).2.2, mks, List.map_replicate, -Int.reduceNatCast']
  (try simp only [VN.down, simprocAttr, e_str, (mkOkE e3).1, (mkOkE e3).2.1, (mkOkE e3).2.2, mks, List.map_replicate, -Int.reduceNatCast'] at hP ⊢); exact hP
 refine w_seq (fun Q4 n4 q4 x4 => ?_)
 refine ws [(0, .slice (a0.map e_str)), (3, .uslice 1 ((List.replicate (Int.toNat (a0.length : Int)) ([] : List UInt8)).map e_str)), (4, .int .i64 0)] ?_
 refine w_blk (fun Q6 n6 q6 b6 x6 => ?_)
 have L8 : ∀ (n : Nat) (v3_8 : List (List UInt8)) (v4_8 : Int), laws_toStringS_l8 a0 n v3_8 v4_8 = some r → lpC Cc c63_9 Q6 (stA [(0, .slice (a0.map e_str)), (3, .uslice 1 (v3_8.map e_str)), (4, .int .i64 v4_8)]) := by
  intro m8
  induction m8 with
  | zero => intro v3_8 v4_8 h; cases (show none = some r from h)
  | succ m8 ih8 =>
   intro v3_8 v4_8 h
   replace h : laws_toStringS_b8 (laws_toStringS_l8 a0 m8) a0 v3_8 v4_8 = some r := h
   refine lpC_step (fun Q7 n7 q7 x7 => ?_)
   refine w_seq (fun Q8 n8 q8 x8 => ?_)
   refine ws _ ?_
   rcases condE h with ⟨b10, h⟩ | ⟨b10, h⟩
   ·refine w_ct (congrArg AV.bool b10) ?_
    simp only [b10, Bool.not_true, Bool.not_false]
    refine w_skip (n8 _ (.inl ?_))
    refine w_seq (fun Q11 n11 q11 x11 => ?_)
    refine w_blk (fun Q12 n12 q12 b12 x12 => ?_)
    obtain ⟨x1, e14, h⟩ := bindE h
    obtain ⟨x2, e15, h⟩ := bindE h
    refine w_reg (w_abs [(0, .slice (a0.map e_str)), (3, .uslice 1 ((List.set v3_8 (Int.toNat v4_8) x1).map e_str)), (4, .int .i64 v4_8)] (fun P hP => ?_) ?_)
    ·simp only [V0.down, simprocAttr, tt9, tt41, e_str, e14, e15, getI_get e15, own_s, stoS]
     (try simp only [VN.down, simprocAttr, e_str, e14, e15, getI_get e15, own_s, stoS] at hP ⊢); exact hP
    refine n12 _ (n11 _ (.inl ?_))
    refine wr [(0, .slice (a0.map e_str)), (3, .uslice 1 ((List.set v3_8 (Int.toNat v4_8) x1).map e_str)), (4, .int .i64 (IntKind.i64.wrap (v4_8 + 1)))] ?_
    exact n7 _ (.inr ⟨_, weak_eq rfl, ih8 (List.set v3_8 (Int.toNat v4_8) x1) (IntKind.i64.wrap (v4_8 + 1)) h⟩)
   ·refine w_cf (congrArg AV.bool b10) ?_
    simp only [b10, Bool.not_true, Bool.not_false]
    refine w_ex (x8 0 _ (x7 0 _ (b6 _ (n4 _ (.inl ?_)))))
    refine ws _ ?_
    exact w_ret (r0 _ (.inl (w_fin [.uslice 1 (v3_8.map e_str)] rfl (by cases someE h; rfl) (by decide) outs_nil)))
 obtain ⟨n, h⟩ := limE h
 exact w_loop (.inr ⟨_, weak_eq rfl, L8 n (List.replicate (Int.toNat (a0.length : Int)) ([] : List UInt8)) 0 h⟩)

theorem ok_laws_toSystem (a0 : laws_System) (r : impl_System) (h : laws_toSystem a0 = some r) : OkAt Cc 21 [e_laws_System a0] (u_impl_System r) [] := by
 refine OkAt.of_wpR (fx := [0]) Cc_ok [.cell 2 50] [(0, e_laws_System a0)] Tryz.func21 rfl rfl s21 (Nat.le_of_ble_eq_true rfl) rfl rfl (fun Q0 r0 n0 => ?_)
 refine ws _ ?_
 refine ws _ ?_
 obtain ⟨x1, e4, h⟩ := bindE h
 refine wsc (ok_laws_toDefinitionS a0.Definitions _ e4) _ ?_
 obtain ⟨x2, e6, h⟩ := bindE h
 refine wsc (ok_laws_toComponentS a0.Components _ e6) _ ?_
 obtain ⟨x3, e8, h⟩ := bindE h
 refine wsc (ok_laws_toMeetingS a0.Meetings _ e8) _ ?_
 obtain ⟨x4, e10, h⟩ := bindE h
 refine wsc (ok_laws_toStringS a0.Allowed _ e10) _ ?_
 obtain ⟨x5, e12, h⟩ := bindE h
 refine wsc (ok_laws_toStringS a0.Hidden _ e12) _ ?_
 refine ws _ ?_
 exact w_ret (r0 _ (.inl (w_fin [u_impl_System (impl_System.mk x1 x2 x3 x4 x5)] rfl (by cases someE h; rfl) (by decide) outs_nil)))

theorem ok_laws_toPoint (a0 : laws_Point) (r : impl_Point) (h : laws_toPoint a0 = some r) : OkAt Cc 86 [e_laws_Point a0] (u_impl_Point r) [] := by
 refine OkAt.of_wpR (fx := [0]) Cc_ok [.cell 2 131] [(0, e_laws_Point a0)] Tryz.func86 rfl rfl s86 (Nat.le_of_ble_eq_true rfl) rfl rfl (fun Q0 r0 n0 => ?_)
 refine ws _ ?_
 refine ws _ ?_
 refine ws _ ?_
 refine ws _ ?_
 obtain ⟨x1, e6, h⟩ := bindE h
 refine wsc (ok_laws_toInt64S a0.Values _ e6) _ ?_
 refine ws _ ?_
 exact w_ret (r0 _ (.inl (w_fin [u_impl_Point (impl_Point.mk a0.Definition a0.Part x1)] rfl (by cases someE h; rfl) (by decide) outs_nil)))

theorem ok_laws_toPointS (a0 : List laws_Point) (r : (List impl_Point)) (h : laws_toPointS a0 = some r) : OkAt Cc 36 [.slice (a0.map e_laws_Point)] (.uslice 3 (r.map u_impl_Point)) [] := by
 refine OkAt.of_wpR (fx := [0]) Cc_ok [.tmp 2] [(0, .slice (a0.map e_laws_Point))] Tryz.func36 rfl rfl s36 (Nat.le_of_ble_eq_true rfl) rfl rfl (fun Q0 r0 n0 => ?_)
 refine ws _ ?_
 obtain ⟨u18, e3, h⟩ := bindE h
 refine w_sreg (w_abs [(0, .slice (a0.map e_laws_Point)), (3, .uslice 3 (List.replicate (Int.toNat (a0.length : Int)) (.agg [(.int .i64 0), (.int .i64 0), .nils])))] (fun P hP => ?_) ?_)
 ·simp only [V0.down, simprocAttr, tt2, tt22, tt65, tt68, tt129, tt131, e_i64, e_laws_Point, (mkOkE e3).1, (mkOkE e3).2.1, (mkOkE e3).2.2, mks, List.map_replicate, -Int.reduceNatCast']
  (try simp only [VN.down, simprocAttr, e_i64, e_laws_Point, (mkOkE e3).1, (mkOkE e3).2.1, (mkOkE e3).2.2, mks, List.map_replicate, -Int.reduceNatCast'] at hP ⊢); exact hP
 refine w_seq (fun Q4 n4 q4 x4 => ?_)
 refine ws [(0, .slice (a0.map e_laws_Point)), (3, .uslice 3 (List.replicate (Int.toNat (a0.length : Int)) (.agg [(.int .i64 0), (.int .i64 0), .nils]))), (4, .int .i64 0)] ?_
 refine w_blk (fun Q6 n6 q6 b6 x6 => ?_)
 have L8 : ∀ (n : Nat) (v3_8 : List impl_Point) (v4_8 : Int), laws_toPointS_l8 a0 n v3_8 v4_8 = some r → lpC Cc c36_9 Q6 (stA [(0, .slice (a0.map e_laws_Point)), (3, .uslice 3 (v3_8.map u_impl_Point)), (4, .int .i64 v4_8)]) := by
  intro m8
  induction m8 with
  | zero => intro v3_8 v4_8 h; cases (show none = some r from h)
  | succ m8 ih8 =>
   intro v3_8 v4_8 h
   replace h : laws_toPointS_b8 (laws_toPointS_l8 a0 m8) a0 v3_8 v4_8 = some r := h
   refine lpC_step (fun Q7 n7 q7 x7 => ?_)
   refine w_seq (fun Q8 n8 q8 x8 => ?_)
   refine ws _ ?_
   rcases condE h with ⟨b10, h⟩ | ⟨b10, h⟩
   ·refine w_ct (congrArg AV.bool b10) ?_
    simp only [b10, Bool.not_true, Bool.not_false]
    refine w_skip (n8 _ (.inl ?_))
    refine w_seq (fun Q11 n11 q11 x11 => ?_)
    refine w_blk (fun Q12 n12 q12 b12 x12 => ?_)
    obtain ⟨x1, e14, h⟩ := bindE h
    obtain ⟨x2, e15, h⟩ := bindE h
    obtain ⟨x3, e16, h⟩ := bindE h
    refine w_reg (w_abs [(0, .slice (a0.map e_laws_Point)), (3, .uslice 3 ((List.set v3_8 (Int.toNat v4_8) x2).map u_impl_Point)), (4, .int .i64 v4_8)] (fun P hP => ?_) ?_)
    ·simp only [V0.down, simprocAttr, tt2, tt22, tt65, tt68, tt129, tt131, e_i64, e_laws_Point, u_impl_Point, e14, e16, getI_get e16, own_s, stoS]
     refine w_call0 (ok_laws_toPoint x1 _ e15) rfl rfl rfl rfl (.inl (by rfl)) ?_
     simp only [V0.down, simprocAttr, tt2, tt22, tt65, tt68, tt129, tt131, e_i64, e_laws_Point, u_impl_Point, e14, e16, getI_get e16, own_s, stoS]
     (try simp only [VN.down, simprocAttr, zz15.down, e14, e16, getI_get e16, own_s, stoS] at hP ⊢); exact hP
    refine n12 _ (n11 _ (.inl ?_))
    refine wr [(0, .slice (a0.map e_laws_Point)), (3, .uslice 3 ((List.set v3_8 (Int.toNat v4_8) x2).map u_impl_Point)), (4, .int .i64 (IntKind.i64.wrap (v4_8 + 1)))] ?_
    exact n7 _ (.inr ⟨_, weak_eq rfl, ih8 (List.set v3_8 (Int.toNat v4_8) x2) (IntKind.i64.wrap (v4_8 + 1)) h⟩)
   ·refine w_cf (congrArg AV.bool b10) ?_
    simp only [b10, Bool.not_true, Bool.not_false]
    refine w_ex (x8 0 _ (x7 0 _ (b6 _ (n4 _ (.inl ?_)))))
    refine ws _ ?_
    exact w_ret (r0 _ (.inl (w_fin [.uslice 3 (v3_8.map u_impl_Point)] rfl (by cases someE h; rfl) (by decide) outs_nil)))
 obtain ⟨n, h⟩ := limE h
 exact w_loop (.inr ⟨_, weak_mix [] rfl (wk_eq (t := 0) (d := .slice (a0.map e_laws_Point)) rfl (wk_wd (t := 3) (d := .uslice 3 (List.replicate (Int.toNat (a0.length : Int)) (.agg [(.int .i64 0), (.int .i64 0), .nils]))) (d' := .uslice 3 ((List.replicate (Int.toNat (a0.length : Int)) (impl_Point.mk 0 0 [])).map u_impl_Point)) rfl rfl (wd_rep (u := u_impl_Point) (z := (impl_Point.mk 0 0 [])) (.agg (.cons (.refl _) (.cons (.refl _) (.cons (.nilsU _) (.nil))))) _) (by decide) (wk_eq (t := 4) (d := .int .i64 0) rfl (wk_nil)))), L8 n (List.replicate (Int.toNat (a0.length : Int)) (impl_Point.mk 0 0 [])) 0 h⟩)

theorem ok_spec_l01Small (a0 : UInt8) (r : Bool) (h : spec_l01Small a0 = some r) : OkAt Cc 224 [.int .u8 (a0.toNat : Int)] (.bool r) [] := by
 refine OkAt.of_wpR (fx := [0]) Cc_ok [.tmp 2] [(0, .int .u8 (a0.toNat : Int))] Tryz.func224 rfl rfl s224 (Nat.le_of_ble_eq_true rfl) rfl rfl (fun Q0 r0 n0 => ?_)
 refine ws _ ?_
 refine w_sreg (w_abs [(2, .bool ((decide (97 ≤ (a0.toNat : Int))) && (decide ((a0.toNat : Int) ≤ 122))))] (fun P hP => ?_) ?_)
 ·rcases Bool.eq_false_or_eq_true (decide (97 ≤ (a0.toNat : Int))) with s3 | s3
  ·simp only [V0.down, simprocAttr, s3]
   (try simp only [VN.down, simprocAttr, s3] at hP ⊢); exact hP
  ·simp only [V0.down, simprocAttr, s3]
   (try simp only [VN.down, simprocAttr, s3] at hP ⊢); exact hP
 exact w_ret (r0 _ (.inl (w_fin [.bool ((decide (97 ≤ (a0.toNat : Int))) && (decide ((a0.toNat : Int) ≤ 122)))] rfl (by cases someE h; rfl) (by decide) outs_nil)))

theorem ok_spec_l01Digit (a0 : UInt8) (r : Bool) (h : spec_l01Digit a0 = some r) : OkAt Cc 225 [.int .u8 (a0.toNat : Int)] (.bool r) [] := by
 refine OkAt.of_wpR (fx := [0]) Cc_ok [.tmp 2] [(0, .int .u8 (a0.toNat : Int))] Tryz.func225 rfl rfl s225 (Nat.le_of_ble_eq_true rfl) rfl rfl (fun Q0 r0 n0 => ?_)
 refine ws _ ?_
 refine w_sreg (w_abs [(2, .bool ((decide (48 ≤ (a0.toNat : Int))) && (decide ((a0.toNat : Int) ≤ 57))))] (fun P hP => ?_) ?_)
 ·rcases Bool.eq_false_or_eq_true (decide (48 ≤ (a0.toNat : Int))) with s3 | s3
  ·simp only [V0.down, simprocAttr, s3]
   (try simp only [VN.down, simprocAttr, s3] at hP ⊢); exact hP
  ·simp only [V0.down, simprocAttr, s3]
   (try simp only [VN.down, simprocAttr, s3] at hP ⊢); exact hP
 exact w_ret (r0 _ (.inl (w_fin [.bool ((decide (48 ≤ (a0.toNat : Int))) && (decide ((a0.toNat : Int) ≤ 57)))] rfl (by cases someE h; rfl) (by decide) outs_nil)))

set_option maxHeartbeats 600000 in
theorem ok_spec_l01Name (a0 : List UInt8) (r : Bool) (h : spec_l01Name a0 = some r) : OkAt Cc 179 [.str a0] (.bool r) [] := by
 refine OkAt.of_wpR (fx := [0]) Cc_ok [.tmp 2] [(0, .str a0)] Tryz.func179 rfl rfl s179 (Nat.le_of_ble_eq_true rfl) rfl rfl (fun Q0 r0 n0 => ?_)
 refine ws _ ?_
 refine w_seq (fun Q2 n2 q2 x2 => ?_)
 rcases condE h with ⟨b4, h⟩ | ⟨b4, h⟩
 ·refine wsf b4 _ ?_
  refine w_ct rfl ?_
  refine ws _ ?_
  exact w_ret (q2 _ (r0 _ (.inl (w_fin [.bool false] rfl (by cases someE h; rfl) (by decide) outs_nil))))
 ·rcases condE h with ⟨b6, h⟩ | ⟨b6, h⟩
  ·refine wsf (And.intro b4 b6) _ ?_
   refine w_ct rfl ?_
   refine ws _ ?_
   exact w_ret (q2 _ (r0 _ (.inl (w_fin [.bool false] rfl (by cases someE h; rfl) (by decide) outs_nil))))
  ·obtain ⟨x1, e8, h⟩ := bindE h
   obtain ⟨x2, e9, h⟩ := bindE h
   refine w_sreg (w_abs [(0, .str a0), (16, .bool (!x2))] (fun P hP => ?_) ?_)
   ·simp only [V0.down, simprocAttr, tt9, b4, b6, e8]
    refine w_callg0 (ok_spec_l01Small x1 _ e9) rfl rfl rfl rfl (.inl (by rfl)) ?_
    simp only [V0.down, simprocAttr, tt9, b4, b6, e8]
    (try simp only [VN.down, simprocAttr, b4, b6, e8] at hP ⊢); exact hP
   rcases condE h with ⟨b10, h⟩ | ⟨b10, h⟩
   ·refine w_ct (congrArg AV.bool b10) ?_
    simp only [b10, Bool.not_true, Bool.not_false]
    refine ws _ ?_
    exact w_ret (q2 _ (r0 _ (.inl (w_fin [.bool false] rfl (by cases someE h; rfl) (by decide) outs_nil))))
   ·refine w_cf (congrArg AV.bool b10) ?_
    simp only [b10, Bool.not_true, Bool.not_false]
    refine w_skip (n2 _ (.inl ?_))
    refine w_seq (fun Q12 n12 q12 x12 => ?_)
    refine ws _ ?_
    refine w_blk (fun Q14 n14 q14 b14 x14 => ?_)
    have L14 : ∀ (n : Nat) (v3_14 : Int), spec_l01Name_l14 a0 n v3_14 = some r → lpC Cc c179_15 Q14 (stA [(0, .str a0), (3, .int .i64 v3_14)]) := by
     intro m14
     induction m14 with
     | zero => intro v3_14 h; cases (show none = some r from h)
     | succ m14 ih14 =>
      intro v3_14 h
      replace h : spec_l01Name_b14 (spec_l01Name_l14 a0 m14) a0 v3_14 = some r := h
      refine lpC_step (fun Q15 n15 q15 x15 => ?_)
      refine w_seq (fun Q16 n16 q16 x16 => ?_)
      refine ws _ ?_
      rcases condE h with ⟨b18, h⟩ | ⟨b18, h⟩
      ·refine w_ct (congrArg AV.bool b18) ?_
       simp only [b18, Bool.not_true, Bool.not_false]
       refine w_skip (n16 _ (.inl ?_))
       refine w_seq (fun Q19 n19 q19 x19 => ?_)
       refine w_blk (fun Q20 n20 q20 b20 x20 => ?_)
       obtain ⟨x3, e22, h⟩ := bindE h
       obtain ⟨x4, e23, h⟩ := bindE h
       rcases condE h with ⟨b24, h⟩ | ⟨b24, h⟩
       ·obtain ⟨x5, e25, h⟩ := bindE h
        refine w_sreg (w_abs [(0, .str a0), (3, .int .i64 v3_14), (34, .bool (!x5))] (fun P hP => ?_) ?_)
        ·simp only [V0.down, simprocAttr, tt9, e22, b24]
         refine w_call0 (ok_spec_l01Small x3 _ e23) rfl rfl rfl rfl (.inl (by rfl)) ?_
         simp only [V0.down, simprocAttr, tt9, e22, b24]
         refine w_callg0 (ok_spec_l01Digit x3 _ e25) rfl rfl rfl rfl (.inl (by rfl)) ?_
         simp only [V0.down, simprocAttr, tt9, e22, b24]
         (try simp only [VN.down, simprocAttr, e22, b24] at hP ⊢); exact hP
        rcases condE h with ⟨b26, h⟩ | ⟨b26, h⟩
        ·refine w_ct (congrArg AV.bool b26) ?_
         simp only [b26, Bool.not_true, Bool.not_false]
         refine ws _ ?_
         exact w_ret (q20 _ (q19 _ (q15 _ (q14 _ (q12 _ (r0 _ (.inl (w_fin [.bool false] rfl (by cases someE h; rfl) (by decide) outs_nil))))))))
        ·refine w_cf (congrArg AV.bool b26) ?_
         simp only [b26, Bool.not_true, Bool.not_false]
         refine w_skip (n20 _ (n19 _ (.inl ?_)))
         refine wr _ ?_
         exact n15 _ (.inr ⟨_, weak_eq rfl, ih14 (IntKind.i64.wrap (v3_14 + 1)) h⟩)
       ·refine wscf (And.intro e22 b24) (ok_spec_l01Small x3 _ e23) _ ?_
        refine w_cf rfl ?_
        refine w_skip (n20 _ (n19 _ (.inl ?_)))
        refine wr _ ?_
        exact n15 _ (.inr ⟨_, weak_eq rfl, ih14 (IntKind.i64.wrap (v3_14 + 1)) h⟩)
      ·refine w_cf (congrArg AV.bool b18) ?_
       simp only [b18, Bool.not_true, Bool.not_false]
       refine w_ex (x16 0 _ (x15 0 _ (b14 _ (n12 _ (.inl ?_)))))
       refine ws _ ?_
       exact w_ret (r0 _ (.inl (w_fin [.bool true] rfl (by cases someE h; rfl) (by decide) outs_nil)))
    obtain ⟨n, h⟩ := limE h
    exact w_loop (.inr ⟨_, weak_eq rfl, L14 n 0 h⟩)

theorem ok_spec_l00In (a0 : Int) (a1 : Int) (a2 : Int) (r : Bool) (h : spec_l00In a0 a1 a2 = some r) : OkAt Cc 92 [.int .i64 a0, .int .i64 a1, .int .i64 a2] (.bool r) [] := by
 refine OkAt.of_wpR (fx := [0, 1, 2]) Cc_ok [.tmp 6] [(0, .int .i64 a0), (1, .int .i64 a1), (2, .int .i64 a2)] Tryz.func92 rfl rfl s92 (Nat.le_of_ble_eq_true rfl) rfl rfl (fun Q0 r0 n0 => ?_)
 refine ws _ ?_
 refine w_sreg (w_abs [(6, .bool ((decide (a1 ≤ a0)) && (decide (a0 ≤ a2))))] (fun P hP => ?_) ?_)
 ·rcases Bool.eq_false_or_eq_true (decide (a1 ≤ a0)) with s3 | s3
  ·simp only [V0.down, simprocAttr, s3]
   (try simp only [VN.down, simprocAttr, s3] at hP ⊢); exact hP
  ·simp only [V0.down, simprocAttr, s3]
   (try simp only [VN.down, simprocAttr, s3] at hP ⊢); exact hP
 exact w_ret (r0 _ (.inl (w_fin [.bool ((decide (a1 ≤ a0)) && (decide (a0 ≤ a2)))] rfl (by cases someE h; rfl) (by decide) outs_nil)))

theorem ok_spec_l05Follow (a0 : impl_Part) (r : Int) (h : spec_l05Follow a0 = some r) : OkAt Cc 243 [.ref (e_impl_Part a0)] (.int .i64 r) [] := by
 refine OkAt.of_wpR (fx := [0]) Cc_ok [.tmp 2] [(0, .ref (e_impl_Part a0))] Tryz.func243 rfl rfl s243 (Nat.le_of_ble_eq_true rfl) rfl rfl (fun Q0 r0 n0 => ?_)
 refine ws _ ?_
 refine w_seq (fun Q2 n2 q2 x2 => ?_)
 refine ws _ ?_
 refine w_blk (fun Q4 n4 q4 b4 x4 => ?_)
 have K16 : ∀ (v7_16 : Bool), spec_l05Follow_k16 a0 v7_16 = some r → wpC Cc c243_16 Q4 (stA [(6, .int .i64 a0.Kind), (7, .bool v7_16)]) := by
  intro v7_16 h
  rcases condE h with ⟨b6, h⟩ | ⟨b6, h⟩
  ·refine w_ct (congrArg AV.bool b6) ?_
   simp only [b6, Bool.not_true, Bool.not_false]
   refine ws _ ?_
   exact w_ret (q4 _ (q2 _ (r0 _ (.inl (w_fin [.int .i64 1] rfl (by cases someE h; rfl) (by decide) outs_nil)))))
  ·refine w_cf (congrArg AV.bool b6) ?_
   simp only [b6, Bool.not_true, Bool.not_false]
   refine ws _ ?_
   rcases condE h with ⟨b9, h⟩ | ⟨b9, h⟩
   ·refine w_ct (congrArg AV.bool b9) ?_
    simp only [b9, Bool.not_true, Bool.not_false]
    refine ws _ ?_
    exact w_ret (q4 _ (q2 _ (r0 _ (.inl (w_fin [.int .i64 2] rfl (by cases someE h; rfl) (by decide) outs_nil)))))
   ·refine w_cf (congrArg AV.bool b9) ?_
    simp only [b9, Bool.not_true, Bool.not_false]
    refine w_skip (n4 _ (n2 _ (.inl ?_)))
    refine ws _ ?_
    exact w_ret (r0 _ (.inl (w_fin [.int .i64 0] rfl (by cases someE h; rfl) (by decide) outs_nil)))
 refine w_seq (fun Q5 n5 q5 x5 => ?_)
 refine ws _ ?_
 rcases condE h with ⟨b13, h⟩ | ⟨b13, h⟩
 ·refine w_ct (congrArg AV.bool b13) ?_
  simp only [b13, Bool.not_true, Bool.not_false]
  exact w_skip (n5 _ (.inr ⟨_, weak_eq rfl, K16 true h⟩))
 ·refine w_cf (congrArg AV.bool b13) ?_
  simp only [b13, Bool.not_true, Bool.not_false]
  refine ws _ ?_
  rcases condE h with ⟨b15, h⟩ | ⟨b15, h⟩
  ·refine w_ct (congrArg AV.bool b15) ?_
   simp only [b15, Bool.not_true, Bool.not_false]
   exact w_skip (n5 _ (.inr ⟨_, weak_eq rfl, K16 true h⟩))
  ·refine w_cf (congrArg AV.bool b15) ?_
   simp only [b15, Bool.not_true, Bool.not_false]
   refine wr _ ?_
   exact n5 _ (.inr ⟨_, weak_eq rfl, K16 (a0.Kind == 4) h⟩)

theorem ok_spec_l05Shape (a0 : List impl_Part) (r : Bool) (h : spec_l05Shape a0 = some r) : OkAt Cc 226 [.slice (a0.map e_impl_Part)] (.bool r) [] := by
 refine OkAt.of_wpR (fx := [0]) Cc_ok [.tmp 2] [(0, .slice (a0.map e_impl_Part))] Tryz.func226 rfl rfl s226 (Nat.le_of_ble_eq_true rfl) rfl rfl (fun Q0 r0 n0 => ?_)
 refine ws _ ?_
 refine w_seq (fun Q2 n2 q2 x2 => ?_)
 refine w_sreg (w_abs [(0, .slice (a0.map e_impl_Part)), (12, .bool (((a0.length : Int) == 0) || (decide (20 < (a0.length : Int)))))] (fun P hP => ?_) ?_)
 ·rcases Bool.eq_false_or_eq_true ((a0.length : Int) == 0) with s4 | s4
  ·simp only [V0.down, simprocAttr, zz23.down, s4]
   (try simp only [VN.down, simprocAttr, zz3.down, s4] at hP ⊢); exact hP
  ·simp only [V0.down, simprocAttr, zz23.down, s4]
   (try simp only [VN.down, simprocAttr, zz3.down, s4] at hP ⊢); exact hP
 rcases condE h with ⟨b5, h⟩ | ⟨b5, h⟩
 ·refine w_ct (congrArg AV.bool b5) ?_
  simp only [b5, Bool.not_true, Bool.not_false]
  refine ws _ ?_
  exact w_ret (q2 _ (r0 _ (.inl (w_fin [.bool false] rfl (by cases someE h; rfl) (by decide) outs_nil))))
 ·refine w_cf (congrArg AV.bool b5) ?_
  simp only [b5, Bool.not_true, Bool.not_false]
  refine w_skip (n2 _ (.inl ?_))
  refine ws _ ?_
  refine w_seq (fun Q8 n8 q8 x8 => ?_)
  refine ws _ ?_
  refine w_blk (fun Q10 n10 q10 b10 x10 => ?_)
  have L16 : ∀ (n : Nat) (v3_16 : Int) (v4_16 : Int), spec_l05Shape_l16 a0 n v3_16 v4_16 = some r → lpC Cc c226_17 Q10 (stA [(0, .slice (a0.map e_impl_Part)), (3, .int .i64 v3_16), (4, .int .i64 v4_16)]) := by
   intro m16
   induction m16 with
   | zero => intro v3_16 v4_16 h; cases (show none = some r from h)
   | succ m16 ih16 =>
    intro v3_16 v4_16 h
    replace h : spec_l05Shape_b16 (spec_l05Shape_l16 a0 m16) a0 v3_16 v4_16 = some r := h
    refine lpC_step (fun Q11 n11 q11 x11 => ?_)
    refine w_seq (fun Q12 n12 q12 x12 => ?_)
    refine ws _ ?_
    rcases condE h with ⟨b14, h⟩ | ⟨b14, h⟩
    ·refine w_ct (congrArg AV.bool b14) ?_
     simp only [b14, Bool.not_true, Bool.not_false]
     refine w_skip (n12 _ (.inl ?_))
     refine w_seq (fun Q15 n15 q15 x15 => ?_)
     refine w_blk (fun Q16 n16 q16 b16 x16 => ?_)
     refine w_seq (fun Q17 n17 q17 x17 => ?_)
     refine ws _ ?_
     rcases condE h with ⟨b19, h⟩ | ⟨b19, h⟩
     ·refine w_ct (congrArg AV.bool b19) ?_
      simp only [b19, Bool.not_true, Bool.not_false]
      refine ws _ ?_
      exact w_ret (q17 _ (q16 _ (q15 _ (q11 _ (q10 _ (q8 _ (r0 _ (.inl (w_fin [.bool false] rfl (by cases someE h; rfl) (by decide) outs_nil)))))))))
     ·refine w_cf (congrArg AV.bool b19) ?_
      simp only [b19, Bool.not_true, Bool.not_false]
      refine w_skip (n17 _ (.inl ?_))
      obtain ⟨x1, e22, h⟩ := bindE h
      obtain ⟨x2, e23, h⟩ := bindE h
      refine wrcf e22 (ok_spec_l05Follow x1 _ e23) _ ?_
      refine n16 _ (n15 _ (.inl ?_))
      refine wr _ ?_
      exact n11 _ (.inr ⟨_, weak_eq rfl, ih16 (IntKind.i64.wrap (v3_16 + (IntKind.i64.wrap (x2 - 1)))) (IntKind.i64.wrap (v4_16 + 1)) h⟩)
    ·refine w_cf (congrArg AV.bool b14) ?_
     simp only [b14, Bool.not_true, Bool.not_false]
     refine w_ex (x12 0 _ (x11 0 _ (b10 _ (n8 _ (.inl ?_)))))
     refine ws _ ?_
     exact w_ret (r0 _ (.inl (w_fin [.bool (v3_16 == 0)] rfl (by cases someE h; rfl) (by decide) outs_nil)))
  obtain ⟨n, h⟩ := limE h
  exact w_loop (.inr ⟨_, weak_eq rfl, L16 n 1 0 h⟩)

set_option maxHeartbeats 600000 in
theorem ok_spec_l05Kind (a0 : impl_Part) (r : Bool) (h : spec_l05Kind a0 = some r) : OkAt Cc 244 [.ref (e_impl_Part a0)] (.bool r) [] := by
 refine OkAt.of_wpR (fx := [0]) Cc_ok [.tmp 2] [(0, .ref (e_impl_Part a0))] Tryz.func244 rfl rfl s244 (Nat.le_of_ble_eq_true rfl) rfl rfl (fun Q0 r0 n0 => ?_)
 refine ws _ ?_
 refine w_seq (fun Q2 n2 q2 x2 => ?_)
 refine ws _ ?_
 refine w_blk (fun Q4 n4 q4 b4 x4 => ?_)
 have K12 : ∀ (v7_12 : Bool), spec_l05Kind_k12 a0 v7_12 = some r → wpC Cc c244_12 Q4 (stA [(0, .ref (e_impl_Part a0)), (6, .int .i64 a0.Kind), (7, .bool v7_12)]) := by
  intro v7_12 h
  rcases condE h with ⟨b6, h⟩ | ⟨b6, h⟩
  ·refine w_ct (congrArg AV.bool b6) ?_
   simp only [b6, Bool.not_true, Bool.not_false]
   refine w_sreg (w_abs [(2, .bool (((a0.Number == 0) && (a0.Name == ([] : List UInt8))) && ((a0.Arguments.length : Int) == 0)))] (fun P hP => ?_) ?_)
   ·(rcases Bool.eq_false_or_eq_true (a0.Number == 0) with s8 | s8) <;> (rcases Bool.eq_false_or_eq_true (a0.Name == ([] : List UInt8)) with s9 | s9) <;>
      (simp only [V0.down, simprocAttr, zz6.down, s8, s9]
       (try simp only [VN.down, simprocAttr, zz3.down, s8, s9] at hP ⊢); exact hP)
   exact w_ret (q4 _ (q2 _ (r0 _ (.inl (w_fin [.bool (((a0.Number == 0) && (a0.Name == ([] : List UInt8))) && ((a0.Arguments.length : Int) == 0))] rfl (by cases someE h; rfl) (by decide) outs_nil)))))
  ·refine w_cf (congrArg AV.bool b6) ?_
   simp only [b6, Bool.not_true, Bool.not_false]
   refine ws _ ?_
   rcases condE h with ⟨b11, h⟩ | ⟨b11, h⟩
   ·refine w_ct (congrArg AV.bool b11) ?_
    simp only [b11, Bool.not_true, Bool.not_false]
    refine ws _ ?_
    exact w_ret (q4 _ (q2 _ (r0 _ (.inl (w_fin [.bool (a0.Number == 0)] rfl (by cases someE h; rfl) (by decide) outs_nil)))))
   ·refine w_cf (congrArg AV.bool b11) ?_
    simp only [b11, Bool.not_true, Bool.not_false]
    refine ws _ ?_
    rcases condE h with ⟨b14, h⟩ | ⟨b14, h⟩
    ·refine w_ct (congrArg AV.bool b14) ?_
     simp only [b14, Bool.not_true, Bool.not_false]
     refine w_sreg (w_abs [(2, .bool ((a0.Number == 0) && (a0.Name == ([] : List UInt8))))] (fun P hP => ?_) ?_)
     ·rcases Bool.eq_false_or_eq_true (a0.Number == 0) with s16 | s16
      ·simp only [V0.down, simprocAttr, zz6.down, s16]
       (try simp only [VN.down, simprocAttr, zz3.down, s16] at hP ⊢); exact hP
      ·simp only [V0.down, simprocAttr, zz6.down, s16]
       (try simp only [VN.down, simprocAttr, zz3.down, s16] at hP ⊢); exact hP
     exact w_ret (q4 _ (q2 _ (r0 _ (.inl (w_fin [.bool ((a0.Number == 0) && (a0.Name == ([] : List UInt8)))] rfl (by cases someE h; rfl) (by decide) outs_nil)))))
    ·refine w_cf (congrArg AV.bool b14) ?_
     simp only [b14, Bool.not_true, Bool.not_false]
     refine ws _ ?_
     rcases condE h with ⟨b18, h⟩ | ⟨b18, h⟩
     ·refine w_ct (congrArg AV.bool b18) ?_
      simp only [b18, Bool.not_true, Bool.not_false]
      refine w_sreg (w_abs [(2, .bool ((a0.Name == ([] : List UInt8)) && ((a0.Arguments.length : Int) == 0)))] (fun P hP => ?_) ?_)
      ·rcases Bool.eq_false_or_eq_true (a0.Name == ([] : List UInt8)) with s20 | s20
       ·simp only [V0.down, simprocAttr, zz6.down, s20]
        (try simp only [VN.down, simprocAttr, zz3.down, s20] at hP ⊢); exact hP
       ·simp only [V0.down, simprocAttr, zz6.down, s20]
        (try simp only [VN.down, simprocAttr, zz3.down, s20] at hP ⊢); exact hP
      exact w_ret (q4 _ (q2 _ (r0 _ (.inl (w_fin [.bool ((a0.Name == ([] : List UInt8)) && ((a0.Arguments.length : Int) == 0))] rfl (by cases someE h; rfl) (by decide) outs_nil)))))
     ·refine w_cf (congrArg AV.bool b18) ?_
      simp only [b18, Bool.not_true, Bool.not_false]
      refine ws _ ?_
      rcases condE h with ⟨b22, h⟩ | ⟨b22, h⟩
      ·refine w_ct (congrArg AV.bool b22) ?_
       simp only [b22, Bool.not_true, Bool.not_false]
       refine ws _ ?_
       exact w_ret (q4 _ (q2 _ (r0 _ (.inl (w_fin [.bool (a0.Name == ([] : List UInt8))] rfl (by cases someE h; rfl) (by decide) outs_nil)))))
      ·refine w_cf (congrArg AV.bool b22) ?_
       simp only [b22, Bool.not_true, Bool.not_false]
       refine w_skip (n4 _ (n2 _ (.inl ?_)))
       refine ws _ ?_
       exact w_ret (r0 _ (.inl (w_fin [.bool false] rfl (by cases someE h; rfl) (by decide) outs_nil)))
 refine w_seq (fun Q5 n5 q5 x5 => ?_)
 refine ws _ ?_
 rcases condE h with ⟨b26, h⟩ | ⟨b26, h⟩
 ·refine w_ct (congrArg AV.bool b26) ?_
  simp only [b26, Bool.not_true, Bool.not_false]
  exact w_skip (n5 _ (.inr ⟨_, weak_eq rfl, K12 true h⟩))
 ·refine w_cf (congrArg AV.bool b26) ?_
  simp only [b26, Bool.not_true, Bool.not_false]
  refine wr _ ?_
  exact n5 _ (.inr ⟨_, weak_eq rfl, K12 (a0.Kind == 2) h⟩)

theorem ok_spec_l05End (a0 : List impl_Part) (a1 : Int) (r : Int) (h : spec_l05End a0 a1 = some r) : OkAt Cc 242 [.slice (a0.map e_impl_Part), .int .i64 a1] (.int .i64 r) [] := by
 refine OkAt.of_wpR (fx := [0]) Cc_ok [.tmp 4] [(0, .slice (a0.map e_impl_Part)), (1, .int .i64 a1)] Tryz.func242 rfl rfl s242 (Nat.le_of_ble_eq_true rfl) rfl rfl (fun Q0 r0 n0 => ?_)
 refine ws _ ?_
 refine ws _ ?_
 refine w_seq (fun Q3 n3 q3 x3 => ?_)
 refine w_blk (fun Q4 n4 q4 b4 x4 => ?_)
 have L6 : ∀ (n : Nat) (v1_6 : Int) (v5_6 : Int), spec_l05End_l6 a0 n v1_6 v5_6 = some r → lpC Cc c242_7 Q4 (stA [(0, .slice (a0.map e_impl_Part)), (1, .int .i64 v1_6), (5, .int .i64 v5_6)]) := by
  intro m6
  induction m6 with
  | zero => intro v1_6 v5_6 h; cases (show none = some r from h)
  | succ m6 ih6 =>
   intro v1_6 v5_6 h
   replace h : spec_l05End_b6 (spec_l05End_l6 a0 m6) a0 v1_6 v5_6 = some r := h
   refine lpC_step (fun Q5 n5 q5 x5 => ?_)
   refine w_seq (fun Q6 n6 q6 x6 => ?_)
   refine ws _ ?_
   rcases condE h with ⟨b8, h⟩ | ⟨b8, h⟩
   ·refine w_ct (congrArg AV.bool b8) ?_
    simp only [b8, Bool.not_true, Bool.not_false]
    refine w_skip (n6 _ (.inl ?_))
    refine w_blk (fun Q9 n9 q9 b9 x9 => ?_)
    obtain ⟨x1, e11, h⟩ := bindE h
    obtain ⟨x2, e12, h⟩ := bindE h
    refine wscf e11 (ok_spec_l05Follow x1 _ e12) _ ?_
    refine wr _ ?_
    exact n9 _ (n5 _ (.inr ⟨_, weak_eq rfl, ih6 (IntKind.i64.wrap (v1_6 + 1)) (IntKind.i64.wrap (v5_6 + (IntKind.i64.wrap (x2 - 1)))) h⟩))
   ·refine w_cf (congrArg AV.bool b8) ?_
    simp only [b8, Bool.not_true, Bool.not_false]
    refine w_ex (x6 0 _ (x5 0 _ (b4 _ (n3 _ (.inl ?_)))))
    refine ws _ ?_
    exact w_ret (r0 _ (.inl (w_fin [.int .i64 v1_6] rfl (by cases someE h; rfl) (by decide) outs_nil)))
 obtain ⟨n, h⟩ := limE h
 exact w_loop (.inr ⟨_, weak_eq rfl, L6 n a1 1 h⟩)

theorem ok_spec_l05Scope (a0 : impl_Definition) (a1 : Int) (r : Int) (h : spec_l05Scope a0 a1 = some r) : OkAt Cc 208 [.ref (e_impl_Definition a0), .int .i64 a1] (.int .i64 r) [] := by
 refine OkAt.of_wpR (fx := [0, 1]) Cc_ok [.tmp 4] [(0, .ref (e_impl_Definition a0)), (1, .int .i64 a1)] Tryz.func208 rfl rfl s208 (Nat.le_of_ble_eq_true rfl) rfl rfl (fun Q0 r0 n0 => ?_)
 refine ws _ ?_
 refine ws _ ?_
 refine w_seq (fun Q3 n3 q3 x3 => ?_)
 refine ws _ ?_
 refine w_blk (fun Q5 n5 q5 b5 x5 => ?_)
 have L8 : ∀ (n : Nat) (v5_8 : Int) (v6_8 : Int), spec_l05Scope_l8 a0 a1 n v5_8 v6_8 = some r → lpC Cc c208_9 Q5 (stA [(0, .ref (e_impl_Definition a0)), (1, .int .i64 a1), (5, .int .i64 v5_8), (6, .int .i64 v6_8)]) := by
  intro m8
  induction m8 with
  | zero => intro v5_8 v6_8 h; cases (show none = some r from h)
  | succ m8 ih8 =>
   intro v5_8 v6_8 h
   replace h : spec_l05Scope_b8 (spec_l05Scope_l8 a0 a1 m8) a0 a1 v5_8 v6_8 = some r := h
   refine lpC_step (fun Q6 n6 q6 x6 => ?_)
   refine w_seq (fun Q7 n7 q7 x7 => ?_)
   refine ws _ ?_
   rcases condE h with ⟨b9, h⟩ | ⟨b9, h⟩
   ·refine w_ct (congrArg AV.bool b9) ?_
    simp only [b9, Bool.not_true, Bool.not_false]
    refine w_skip (n7 _ (.inl ?_))
    have K22 : ∀ (v5_22 : Int) (v6_22 : Int), spec_l05Scope_k22 (spec_l05Scope_l8 a0 a1 m8) a0 a1 v5_22 v6_22 = some r → wpC Cc c208_22 Q6 (stA [(0, .ref (e_impl_Definition a0)), (1, .int .i64 a1), (5, .int .i64 v5_22), (6, .int .i64 v6_22)]) := by
     intro v5_22 v6_22 h
     refine wr _ ?_
     exact n6 _ (.inr ⟨_, weak_eq rfl, ih8 v5_22 (IntKind.i64.wrap (v6_22 + 1)) h⟩)
    refine w_seq (fun Q10 n10 q10 x10 => ?_)
    refine w_blk (fun Q12 n12 q12 b12 x12 => ?_)
    obtain ⟨x1, e14, h⟩ := bindE h
    rcases condE h with ⟨b15, h⟩ | ⟨b15, h⟩
    ·obtain ⟨x2, e16, h⟩ := bindE h
     refine w_sreg (w_abs [(0, .ref (e_impl_Definition a0)), (1, .int .i64 a1), (5, .int .i64 v5_8), (6, .int .i64 v6_8), (34, .bool (decide (a1 < x2)))] (fun P hP => ?_) ?_)
     ·simp only [V0.down, simprocAttr, zz9.down, e14, b15]
      refine w_callg0 (ok_spec_l05End a0.Body v6_8 _ e16) rfl rfl rfl rfl (.inl (by rfl)) ?_
      simp only [V0.down, simprocAttr, zz9.down, e14, b15]
      (try simp only [VN.down, simprocAttr, zz0.down, e14, b15] at hP ⊢); exact hP
     rcases condE h with ⟨b17, h⟩ | ⟨b17, h⟩
     ·refine w_ct (congrArg AV.bool b17) ?_
      simp only [b17, Bool.not_true, Bool.not_false]
      refine wr _ ?_
      exact n12 _ (n10 _ (.inr ⟨_, weak_eq rfl, K22 (IntKind.i64.wrap (v5_8 + 1)) v6_8 h⟩))
     ·refine w_cf (congrArg AV.bool b17) ?_
      simp only [b17, Bool.not_true, Bool.not_false]
      exact w_skip (n12 _ (n10 _ (.inr ⟨_, weak_eq rfl, K22 v5_8 v6_8 h⟩)))
    ·refine wsf (And.intro e14 b15) _ ?_
     refine w_cf rfl ?_
     exact w_skip (n12 _ (n10 _ (.inr ⟨_, weak_eq rfl, K22 v5_8 v6_8 h⟩)))
   ·refine w_cf (congrArg AV.bool b9) ?_
    simp only [b9, Bool.not_true, Bool.not_false]
    refine w_ex (x7 0 _ (x6 0 _ (b5 _ (n3 _ (.inl ?_)))))
    refine ws _ ?_
    exact w_ret (r0 _ (.inl (w_fin [.int .i64 v5_8] rfl (by cases someE h; rfl) (by decide) outs_nil)))
 obtain ⟨n, h⟩ := limE h
 exact w_loop (.inr ⟨_, weak_eq rfl, L8 n a0.Parameters 0 h⟩)

theorem ok_spec_l03Term (a0 : impl_Term) (a1 : Int) (r : Bool) (h : spec_l03Term a0 a1 = some r) : OkAt Cc 211 [.ref (e_impl_Term a0), .int .i64 a1] (.bool r) [] := by
 refine OkAt.of_wpR (fx := [0, 1]) Cc_ok [.tmp 4] [(0, .ref (e_impl_Term a0)), (1, .int .i64 a1)] Tryz.func211 rfl rfl s211 (Nat.le_of_ble_eq_true rfl) rfl rfl (fun Q0 r0 n0 => ?_)
 refine ws _ ?_
 refine w_seq (fun Q2 n2 q2 x2 => ?_)
 refine ws _ ?_
 refine w_blk (fun Q4 n4 q4 b4 x4 => ?_)
 refine ws _ ?_
 rcases condE h with ⟨b6, h⟩ | ⟨b6, h⟩
 ·refine w_ct (congrArg AV.bool b6) ?_
  simp only [b6, Bool.not_true, Bool.not_false]
  obtain ⟨x1, e8, h⟩ := bindE h
  refine wsc (ok_spec_l00In a0.Value 0 63 _ e8) _ ?_
  exact w_ret (q4 _ (q2 _ (r0 _ (.inl (w_fin [.bool x1] rfl (by cases someE h; rfl) (by decide) outs_nil)))))
 ·refine w_cf (congrArg AV.bool b6) ?_
  simp only [b6, Bool.not_true, Bool.not_false]
  refine ws _ ?_
  rcases condE h with ⟨b10, h⟩ | ⟨b10, h⟩
  ·refine w_ct (congrArg AV.bool b10) ?_
   simp only [b10, Bool.not_true, Bool.not_false]
   obtain ⟨x2, e12, h⟩ := bindE h
   refine wsc (ok_spec_l00In a0.Value 0 (IntKind.i64.wrap (a1 - 1)) _ e12) _ ?_
   exact w_ret (q4 _ (q2 _ (r0 _ (.inl (w_fin [.bool x2] rfl (by cases someE h; rfl) (by decide) outs_nil)))))
  ·refine w_cf (congrArg AV.bool b10) ?_
   simp only [b10, Bool.not_true, Bool.not_false]
   refine ws _ ?_
   rcases condE h with ⟨b14, h⟩ | ⟨b14, h⟩
   ·refine w_ct (congrArg AV.bool b14) ?_
    simp only [b14, Bool.not_true, Bool.not_false]
    obtain ⟨x3, e16, h⟩ := bindE h
    refine wsc (ok_spec_l00In a0.Value 0 8 _ e16) _ ?_
    exact w_ret (q4 _ (q2 _ (r0 _ (.inl (w_fin [.bool x3] rfl (by cases someE h; rfl) (by decide) outs_nil)))))
   ·refine w_cf (congrArg AV.bool b14) ?_
    simp only [b14, Bool.not_true, Bool.not_false]
    refine ws _ ?_
    rcases condE h with ⟨b18, h⟩ | ⟨b18, h⟩
    ·refine w_ct (congrArg AV.bool b18) ?_
     simp only [b18, Bool.not_true, Bool.not_false]
     refine ws _ ?_
     exact w_ret (q4 _ (q2 _ (r0 _ (.inl (w_fin [.bool (a0.Value == 0)] rfl (by cases someE h; rfl) (by decide) outs_nil)))))
    ·refine w_cf (congrArg AV.bool b18) ?_
     simp only [b18, Bool.not_true, Bool.not_false]
     refine w_skip (n4 _ (n2 _ (.inl ?_)))
     refine ws _ ?_
     exact w_ret (r0 _ (.inl (w_fin [.bool false] rfl (by cases someE h; rfl) (by decide) outs_nil)))

theorem ok_spec_l03Arity (a0 : impl_Term) (r : Int) (h : spec_l03Arity a0 = some r) : OkAt Cc 212 [.ref (e_impl_Term a0)] (.int .i64 r) [] := by
 refine OkAt.of_wpR (fx := [0]) Cc_ok [.tmp 2] [(0, .ref (e_impl_Term a0))] Tryz.func212 rfl rfl s212 (Nat.le_of_ble_eq_true rfl) rfl rfl (fun Q0 r0 n0 => ?_)
 refine ws _ ?_
 refine w_seq (fun Q2 n2 q2 x2 => ?_)
 refine ws _ ?_
 refine w_blk (fun Q4 n4 q4 b4 x4 => ?_)
 refine ws _ ?_
 rcases condE h with ⟨b6, h⟩ | ⟨b6, h⟩
 ·refine w_ct (congrArg AV.bool b6) ?_
  simp only [b6, Bool.not_true, Bool.not_false]
  refine ws _ ?_
  exact w_ret (q4 _ (q2 _ (r0 _ (.inl (w_fin [.int .i64 2] rfl (by cases someE h; rfl) (by decide) outs_nil)))))
 ·refine w_cf (congrArg AV.bool b6) ?_
  simp only [b6, Bool.not_true, Bool.not_false]
  refine ws _ ?_
  rcases condE h with ⟨b9, h⟩ | ⟨b9, h⟩
  ·refine w_ct (congrArg AV.bool b9) ?_
   simp only [b9, Bool.not_true, Bool.not_false]
   refine ws _ ?_
   exact w_ret (q4 _ (q2 _ (r0 _ (.inl (w_fin [.int .i64 1] rfl (by cases someE h; rfl) (by decide) outs_nil)))))
  ·refine w_cf (congrArg AV.bool b9) ?_
   simp only [b9, Bool.not_true, Bool.not_false]
   refine w_skip (n4 _ (n2 _ (.inl ?_)))
   refine ws _ ?_
   exact w_ret (r0 _ (.inl (w_fin [.int .i64 0] rfl (by cases someE h; rfl) (by decide) outs_nil)))

set_option maxHeartbeats 600000 in
theorem ok_spec_l03Is (a0 : List impl_Term) (a1 : Int) (a2 : Int) (r : Bool) (h : spec_l03Is a0 a1 a2 = some r) : OkAt Cc 160 [.slice (a0.map e_impl_Term), .int .i64 a1, .int .i64 a2] (.bool r) [] := by
 refine OkAt.of_wpR (fx := [0, 1, 2]) Cc_ok [.tmp 6] [(0, .slice (a0.map e_impl_Term)), (1, .int .i64 a1), (2, .int .i64 a2)] Tryz.func160 rfl rfl s160 (Nat.le_of_ble_eq_true rfl) rfl rfl (fun Q0 r0 n0 => ?_)
 refine ws _ ?_
 refine w_seq (fun Q2 n2 q2 x2 => ?_)
 refine ws _ ?_
 rcases condE h with ⟨b4, h⟩ | ⟨b4, h⟩
 ·refine w_ct (congrArg AV.bool b4) ?_
  simp only [b4, Bool.not_true, Bool.not_false]
  refine ws _ ?_
  exact w_ret (q2 _ (r0 _ (.inl (w_fin [.bool false] rfl (by cases someE h; rfl) (by decide) outs_nil))))
 ·refine w_cf (congrArg AV.bool b4) ?_
  simp only [b4, Bool.not_true, Bool.not_false]
  refine w_skip (n2 _ (.inl ?_))
  refine ws _ ?_
  refine w_seq (fun Q7 n7 q7 x7 => ?_)
  refine ws _ ?_
  refine w_blk (fun Q9 n9 q9 b9 x9 => ?_)
  have L16 : ∀ (n : Nat) (v7_16 : Int) (v8_16 : Int), spec_l03Is_l16 a0 a1 n v7_16 v8_16 = some r → lpC Cc c160_17 Q9 (stA [(0, .slice (a0.map e_impl_Term)), (1, .int .i64 a1), (7, .int .i64 v7_16), (8, .int .i64 v8_16)]) := by
   intro m16
   induction m16 with
   | zero => intro v7_16 v8_16 h; cases (show none = some r from h)
   | succ m16 ih16 =>
    intro v7_16 v8_16 h
    replace h : spec_l03Is_b16 (spec_l03Is_l16 a0 a1 m16) a0 a1 v7_16 v8_16 = some r := h
    refine lpC_step (fun Q10 n10 q10 x10 => ?_)
    refine w_seq (fun Q11 n11 q11 x11 => ?_)
    refine ws _ ?_
    rcases condE h with ⟨b13, h⟩ | ⟨b13, h⟩
    ·refine w_ct (congrArg AV.bool b13) ?_
     simp only [b13, Bool.not_true, Bool.not_false]
     refine w_skip (n11 _ (.inl ?_))
     refine w_seq (fun Q14 n14 q14 x14 => ?_)
     refine w_blk (fun Q15 n15 q15 b15 x15 => ?_)
     refine w_seq (fun Q16 n16 q16 x16 => ?_)
     rcases condE h with ⟨b18, h⟩ | ⟨b18, h⟩
     ·refine wsf b18 _ ?_
      refine w_ct rfl ?_
      refine ws _ ?_
      exact w_ret (q16 _ (q15 _ (q14 _ (q10 _ (q9 _ (q7 _ (r0 _ (.inl (w_fin [.bool false] rfl (by cases someE h; rfl) (by decide) outs_nil)))))))))
     ·obtain ⟨x1, e20, h⟩ := bindE h
      obtain ⟨x2, e21, h⟩ := bindE h
      refine w_sreg (w_abs [(0, .slice (a0.map e_impl_Term)), (1, .int .i64 a1), (7, .int .i64 v7_16), (8, .int .i64 v8_16), (28, .bool (!x2))] (fun P hP => ?_) ?_)
      ·simp only [V0.down, simprocAttr, zz7.down, b18, e20]
       refine w_callg0 (ok_spec_l03Term x1 a1 _ e21) rfl rfl rfl rfl (.inl (by rfl)) ?_
       simp only [V0.down, simprocAttr, zz7.down, b18, e20]
       (try simp only [VN.down, simprocAttr, e_impl_Term, b18, e20] at hP ⊢); exact hP
      rcases condE h with ⟨b22, h⟩ | ⟨b22, h⟩
      ·refine w_ct (congrArg AV.bool b22) ?_
       simp only [b22, Bool.not_true, Bool.not_false]
       refine ws _ ?_
       exact w_ret (q16 _ (q15 _ (q14 _ (q10 _ (q9 _ (q7 _ (r0 _ (.inl (w_fin [.bool false] rfl (by cases someE h; rfl) (by decide) outs_nil)))))))))
      ·refine w_cf (congrArg AV.bool b22) ?_
       simp only [b22, Bool.not_true, Bool.not_false]
       refine w_skip (n16 _ (.inl ?_))
       obtain ⟨x3, e25, h⟩ := bindE h
       refine wrcf e20 (ok_spec_l03Arity x1 _ e25) _ ?_
       refine n15 _ (n14 _ (.inl ?_))
       refine wr _ ?_
       exact n10 _ (.inr ⟨_, weak_eq rfl, ih16 (IntKind.i64.wrap (v7_16 + (IntKind.i64.wrap (x3 - 1)))) (IntKind.i64.wrap (v8_16 + 1)) h⟩)
    ·refine w_cf (congrArg AV.bool b13) ?_
     simp only [b13, Bool.not_true, Bool.not_false]
     refine w_ex (x11 0 _ (x10 0 _ (b9 _ (n7 _ (.inl ?_)))))
     refine ws _ ?_
     exact w_ret (r0 _ (.inl (w_fin [.bool (v7_16 == 0)] rfl (by cases someE h; rfl) (by decide) outs_nil)))
  obtain ⟨n, h⟩ := limE h
  exact w_loop (.inr ⟨_, weak_eq rfl, L16 n 1 0 h⟩)

set_option maxHeartbeats 1200000 in
theorem ok_spec_l05Reason (a0 : List impl_Definition) (a1 : impl_Definition) (a2 : Int) (r : Int) (h : spec_l05Reason a0 a1 a2 = some r) : OkAt Cc 227 [.slice (a0.map e_impl_Definition), .ref (e_impl_Definition a1), .int .i64 a2] (.int .i64 r) [] := by
 refine OkAt.of_wpR (fx := [0, 1, 2]) Cc_ok [.tmp 6] [(0, .slice (a0.map e_impl_Definition)), (1, .ref (e_impl_Definition a1)), (2, .int .i64 a2)] Tryz.func227 rfl rfl s227 (Nat.le_of_ble_eq_true rfl) rfl rfl (fun Q0 r0 n0 => ?_)
 refine ws _ ?_
 obtain ⟨x1, e3, h⟩ := bindE h
 refine wsf e3 _ ?_
 refine w_seq (fun Q4 n4 q4 x4 => ?_)
 obtain ⟨x2, e6, h⟩ := bindE h
 refine w_sreg (w_abs [(0, .slice (a0.map e_impl_Definition)), (1, .ref (e_impl_Definition a1)), (2, .int .i64 a2), (7, .ubox (e_impl_Part x1)), (19, .bool (!x2))] (fun P hP => ?_) ?_)
 ·refine w_call0 (ok_spec_l05Kind x1 _ e6) rfl rfl (by simp only [V0.down, simprocAttr, zz0.down, view_s, view_h, viewH_s, share_s, @shares_map _ e_s_impl_Term e_s_impl_Term (fun _ => sh_e_s_impl_Term _)] <;> rfl) rfl (.inr (by rfl)) ?_
  simp only [V0.down, simprocAttr, zz0.down]
  (try simp only [VN.down, simprocAttr, zz0.down] at hP ⊢); exact hP
 rcases condE h with ⟨b7, h⟩ | ⟨b7, h⟩
 ·refine w_ct (congrArg AV.bool b7) ?_
  simp only [b7, Bool.not_true, Bool.not_false]
  refine ws _ ?_
  exact w_ret (q4 _ (r0 _ (.inl (w_fin [.int .i64 2] rfl (by cases someE h; rfl) (by decide) outs_nil))))
 ·refine w_cf (congrArg AV.bool b7) ?_
  simp only [b7, Bool.not_true, Bool.not_false]
  refine w_skip (n4 _ (.inl ?_))
  refine w_seq (fun Q9 n9 q9 x9 => ?_)
  have K15 : ∀ (v28_15 : Bool), spec_l05Reason_k15 a0 a1 a2 x1 v28_15 = some r → wpC Cc c227_15 Q9 (stA [(0, .slice (a0.map e_impl_Definition)), (1, .ref (e_impl_Definition a1)), (2, .int .i64 a2), (7, .ubox (e_impl_Part x1)), (28, .bool v28_15)]) := by
   intro v28_15 h
   rcases condE h with ⟨b10, h⟩ | ⟨b10, h⟩
   ·refine w_ct (congrArg AV.bool b10) ?_
    simp only [b10, Bool.not_true, Bool.not_false]
    refine ws _ ?_
    exact w_ret (q9 _ (r0 _ (.inl (w_fin [.int .i64 3] rfl (by cases someE h; rfl) (by decide) outs_nil))))
   ·refine w_cf (congrArg AV.bool b10) ?_
    simp only [b10, Bool.not_true, Bool.not_false]
    refine w_skip (n9 _ (.inl ?_))
    refine w_seq (fun Q12 n12 q12 x12 => ?_)
    have K23 : ∀ (v51_23 : Bool), spec_l05Reason_k23 a0 a1 a2 x1 v51_23 = some r → wpC Cc c227_23 Q12 (stA [(0, .slice (a0.map e_impl_Definition)), (1, .ref (e_impl_Definition a1)), (2, .int .i64 a2), (7, .ubox (e_impl_Part x1)), (51, .bool v51_23)]) := by
     intro v51_23 h
     rcases condE h with ⟨b13, h⟩ | ⟨b13, h⟩
     ·refine w_ct (congrArg AV.bool b13) ?_
      simp only [b13, Bool.not_true, Bool.not_false]
      refine ws _ ?_
      exact w_ret (q12 _ (r0 _ (.inl (w_fin [.int .i64 4] rfl (by cases someE h; rfl) (by decide) outs_nil))))
     ·refine w_cf (congrArg AV.bool b13) ?_
      simp only [b13, Bool.not_true, Bool.not_false]
      refine w_skip (n12 _ (.inl ?_))
      refine ws _ ?_
      have K65 : spec_l05Reason_k65 a1 a2 x1 = some r → wpC Cc c227_65 Q0 (stA [(1, .ref (e_impl_Definition a1)), (2, .int .i64 a2), (7, .ubox (e_impl_Part x1)), (8, .int .i64 (x1.Arguments.length : Int))]) := by
       intro h
       refine w_seq (fun Q17 n17 q17 x17 => ?_)
       have K68 : ∀ (v102_68 : Bool), spec_l05Reason_k68 a1 a2 x1 v102_68 = some r → wpC Cc c227_68 Q17 (stA [(1, .ref (e_impl_Definition a1)), (2, .int .i64 a2), (7, .ubox (e_impl_Part x1)), (8, .int .i64 (x1.Arguments.length : Int)), (102, .bool v102_68)]) := by
        intro v102_68 h
        rcases condE h with ⟨b18, h⟩ | ⟨b18, h⟩
        ·refine w_ct (congrArg AV.bool b18) ?_
         simp only [b18, Bool.not_true, Bool.not_false]
         refine ws _ ?_
         exact w_ret (q17 _ (r0 _ (.inl (w_fin [.int .i64 6] rfl (by cases someE h; rfl) (by decide) outs_nil))))
        ·refine w_cf (congrArg AV.bool b18) ?_
         simp only [b18, Bool.not_true, Bool.not_false]
         refine w_skip (n17 _ (.inl ?_))
         obtain ⟨x3, e21, h⟩ := bindE h
         refine wsc (ok_spec_l05Scope a1 a2 _ e21) _ ?_
         refine w_seq (fun Q22 n22 q22 x22 => ?_)
         refine w_sreg (w_abs [(7, .ubox (e_impl_Part x1)), (8, .int .i64 (x1.Arguments.length : Int)), (9, .int .i64 x3), (112, .bool ((x1.Kind == 4) && (decide (6 ≤ x3))))] (fun P hP => ?_) ?_)
         ·rcases Bool.eq_false_or_eq_true (x1.Kind == 4) with s24 | s24
          ·simp only [V0.down, simprocAttr, zz6.down, s24]
           (try simp only [VN.down, simprocAttr, zz3.down, s24] at hP ⊢); exact hP
          ·simp only [V0.down, simprocAttr, zz6.down, s24]
           (try simp only [VN.down, simprocAttr, zz3.down, s24] at hP ⊢); exact hP
         rcases condE h with ⟨b25, h⟩ | ⟨b25, h⟩
         ·refine w_ct (congrArg AV.bool b25) ?_
          simp only [b25, Bool.not_true, Bool.not_false]
          refine ws _ ?_
          exact w_ret (q22 _ (r0 _ (.inl (w_fin [.int .i64 7] rfl (by cases someE h; rfl) (by decide) outs_nil))))
         ·refine w_cf (congrArg AV.bool b25) ?_
          simp only [b25, Bool.not_true, Bool.not_false]
          refine w_skip (n22 _ (.inl ?_))
          refine w_seq (fun Q27 n27 q27 x27 => ?_)
          refine ws _ ?_
          refine w_blk (fun Q29 n29 q29 b29 x29 => ?_)
          have L87 : ∀ (n : Nat) (v9_87 : Int) (v10_87 : Int), spec_l05Reason_l87 x1 n v9_87 v10_87 = some r → lpC Cc c227_88 Q29 (stA [(7, .ubox (e_impl_Part x1)), (8, .int .i64 (x1.Arguments.length : Int)), (9, .int .i64 v9_87), (10, .int .i64 v10_87)]) := by
           intro m87
           induction m87 with
           | zero => intro v9_87 v10_87 h; cases (show none = some r from h)
           | succ m87 ih87 =>
            intro v9_87 v10_87 h
            replace h : spec_l05Reason_b87 (spec_l05Reason_l87 x1 m87) x1 v9_87 v10_87 = some r := h
            refine lpC_step (fun Q30 n30 q30 x30 => ?_)
            refine w_seq (fun Q31 n31 q31 x31 => ?_)
            refine ws _ ?_
            rcases condE h with ⟨b33, h⟩ | ⟨b33, h⟩
            ·refine w_ct (congrArg AV.bool b33) ?_
             simp only [b33, Bool.not_true, Bool.not_false]
             refine w_skip (n31 _ (.inl ?_))
             refine w_seq (fun Q34 n34 q34 x34 => ?_)
             refine w_blk (fun Q35 n35 q35 b35 x35 => ?_)
             obtain ⟨x4, e37, h⟩ := bindE h
             obtain ⟨x5, e38, h⟩ := bindE h
             refine wscf e37 (ok_spec_l03Is x4 v9_87 15 _ e38) _ ?_
             rcases condE h with ⟨b39, h⟩ | ⟨b39, h⟩
             ·refine w_ct (congrArg AV.bool b39) ?_
              simp only [b39, Bool.not_true, Bool.not_false]
              refine ws _ ?_
              exact w_ret (q35 _ (q34 _ (q30 _ (q29 _ (q27 _ (r0 _ (.inl (w_fin [.int .i64 8] rfl (by cases someE h; rfl) (by decide) outs_nil))))))))
             ·refine w_cf (congrArg AV.bool b39) ?_
              simp only [b39, Bool.not_true, Bool.not_false]
              refine w_skip (n35 _ (n34 _ (.inl ?_)))
              refine wr _ ?_
              exact n30 _ (.inr ⟨_, weak_eq rfl, ih87 v9_87 (IntKind.i64.wrap (v10_87 + 1)) h⟩)
            ·refine w_cf (congrArg AV.bool b33) ?_
             simp only [b33, Bool.not_true, Bool.not_false]
             refine w_ex (x31 1 _ (x30 1 _ (b29 _ (n27 _ (.inl ?_)))))
             refine ws _ ?_
             exact w_ret (r0 _ (.inl (w_fin [.int .i64 0] rfl (by cases someE h; rfl) (by decide) outs_nil)))
          obtain ⟨n, h⟩ := limE h
          exact w_loop (.inr ⟨_, weak_eq rfl, L87 n x3 0 h⟩)
       rcases condE h with ⟨b44, h⟩ | ⟨b44, h⟩
       ·rcases condE h with ⟨b45, h⟩ | ⟨b45, h⟩
        ·refine w_sregW (w_abs (K := onW _) [(1, .ref (e_impl_Definition a1)), (2, .int .i64 a2), (7, .ubox (e_impl_Part x1)), (8, .int .i64 (x1.Arguments.length : Int)), (102, .bool true)] (fun P hP => ?_) ?_)
         ·simp only [V0.down, simprocAttr, zz9.down, b44, b45]
          (try simp only [VN.down, simprocAttr, zz0.down, b44, b45] at hP ⊢); exact hP
         exact .inr ⟨_, weak_eq rfl, K68 true h⟩
        ·obtain ⟨x6, e46, h⟩ := bindE h
         refine w_sregW (w_abs (K := onW _) [(1, .ref (e_impl_Definition a1)), (2, .int .i64 a2), (7, .ubox (e_impl_Part x1)), (8, .int .i64 (x1.Arguments.length : Int)), (102, .bool (x6.Kind != 1))] (fun P hP => ?_) ?_)
         ·simp only [V0.down, simprocAttr, zz9.down, b44, b45, e46]
          (try simp only [VN.down, simprocAttr, zz0.down, b44, b45, e46] at hP ⊢); exact hP
         exact .inr ⟨_, weak_eq rfl, K68 (x6.Kind != 1) h⟩
       ·refine w_sregW (w_abs (K := onW _) [(1, .ref (e_impl_Definition a1)), (2, .int .i64 a2), (7, .ubox (e_impl_Part x1)), (8, .int .i64 (x1.Arguments.length : Int)), (102, .bool false)] (fun P hP => ?_) ?_)
        ·simp only [V0.down, simprocAttr, zz9.down, b44]
         (try simp only [VN.down, simprocAttr, zz0.down, b44] at hP ⊢); exact hP
        exact .inr ⟨_, weak_eq rfl, K68 false h⟩
      refine w_seq (fun Q16 n16 q16 x16 => ?_)
      refine ws _ ?_
      refine w_blk (fun Q48 n48 q48 b48 x48 => ?_)
      refine ws _ ?_
      rcases condE h with ⟨b50, h⟩ | ⟨b50, h⟩
      ·refine w_ct (congrArg AV.bool b50) ?_
       simp only [b50, Bool.not_true, Bool.not_false]
       refine w_sreg (w_abs [(1, .ref (e_impl_Definition a1)), (2, .int .i64 a2), (7, .ubox (e_impl_Part x1)), (8, .int .i64 (x1.Arguments.length : Int)), (69, .bool ((decide (2 < (x1.Arguments.length : Int))) || ((decide (0 < (x1.Arguments.length : Int))) && (x1.Name == ([116, 97, 117] : List UInt8)))))] (fun P hP => ?_) ?_)
       ·(rcases Bool.eq_false_or_eq_true (decide (2 < (x1.Arguments.length : Int))) with s52 | s52) <;> (rcases Bool.eq_false_or_eq_true (decide (0 < (x1.Arguments.length : Int))) with s53 | s53) <;>
          (simp only [V0.down, simprocAttr, zz18.down, s52, s53]
           (try simp only [VN.down, simprocAttr, zz0.down, s52, s53] at hP ⊢); exact hP)
       rcases condE h with ⟨b54, h⟩ | ⟨b54, h⟩
       ·refine w_ct (congrArg AV.bool b54) ?_
        simp only [b54, Bool.not_true, Bool.not_false]
        refine ws _ ?_
        exact w_ret (q48 _ (q16 _ (r0 _ (.inl (w_fin [.int .i64 5] rfl (by cases someE h; rfl) (by decide) outs_nil)))))
       ·refine w_cf (congrArg AV.bool b54) ?_
        simp only [b54, Bool.not_true, Bool.not_false]
        exact w_skip (n48 _ (n16 _ (.inr ⟨_, weak_eq rfl, K65 h⟩)))
      ·refine w_cf (congrArg AV.bool b50) ?_
       simp only [b50, Bool.not_true, Bool.not_false]
       refine ws _ ?_
       rcases condE h with ⟨b57, h⟩ | ⟨b57, h⟩
       ·refine w_ct (congrArg AV.bool b57) ?_
        simp only [b57, Bool.not_true, Bool.not_false]
        refine ws _ ?_
        rcases condE h with ⟨b59, h⟩ | ⟨b59, h⟩
        ·refine w_ct (congrArg AV.bool b59) ?_
         simp only [b59, Bool.not_true, Bool.not_false]
         refine ws _ ?_
         exact w_ret (q48 _ (q16 _ (r0 _ (.inl (w_fin [.int .i64 5] rfl (by cases someE h; rfl) (by decide) outs_nil)))))
        ·refine w_cf (congrArg AV.bool b59) ?_
         simp only [b59, Bool.not_true, Bool.not_false]
         exact w_skip (n48 _ (n16 _ (.inr ⟨_, weak_eq rfl, K65 h⟩)))
       ·refine w_cf (congrArg AV.bool b57) ?_
        simp only [b57, Bool.not_true, Bool.not_false]
        refine ws _ ?_
        rcases condE h with ⟨b62, h⟩ | ⟨b62, h⟩
        ·refine w_ct (congrArg AV.bool b62) ?_
         simp only [b62, Bool.not_true, Bool.not_false]
         obtain ⟨x7, e64, h⟩ := bindE h
         refine wsf e64 _ ?_
         rcases condE h with ⟨b65, h⟩ | ⟨b65, h⟩
         ·refine w_ct (congrArg AV.bool b65) ?_
          simp only [b65, Bool.not_true, Bool.not_false]
          refine ws _ ?_
          exact w_ret (q48 _ (q16 _ (r0 _ (.inl (w_fin [.int .i64 5] rfl (by cases someE h; rfl) (by decide) outs_nil)))))
         ·refine w_cf (congrArg AV.bool b65) ?_
          simp only [b65, Bool.not_true, Bool.not_false]
          exact w_skip (n48 _ (n16 _ (.inr ⟨_, weak_eq rfl, K65 h⟩)))
        ·refine w_cf (congrArg AV.bool b62) ?_
         simp only [b62, Bool.not_true, Bool.not_false]
         exact w_skip (n48 _ (n16 _ (.inr ⟨_, weak_eq rfl, K65 h⟩)))
    rcases condE h with ⟨b68, h⟩ | ⟨b68, h⟩
    ·obtain ⟨x8, e69, h⟩ := bindE h
     rcases condE h with ⟨b70, h⟩ | ⟨b70, h⟩
     ·refine w_sregW (w_abs (K := onW _) [(0, .slice (a0.map e_impl_Definition)), (1, .ref (e_impl_Definition a1)), (2, .int .i64 a2), (7, .ubox (e_impl_Part x1)), (51, .bool true)] (fun P hP => ?_) ?_)
      ·simp only [V0.down, simprocAttr, zz2.down, b68, b70]
       refine w_callg0 (ok_spec_l00In x1.Number 1 7 _ e69) rfl rfl rfl rfl (.inl (by rfl)) ?_
       simp only [V0.down, simprocAttr, zz2.down, b68, b70]
       (try simp only [VN.down, simprocAttr, zz0.down, b68, b70] at hP ⊢); exact hP
      exact .inr ⟨_, weak_eq rfl, K23 true h⟩
     ·rcases condE h with ⟨b71, h⟩ | ⟨b71, h⟩
      ·obtain ⟨x9, e72, h⟩ := bindE h
       refine w_sregW (w_abs (K := onW _) [(0, .slice (a0.map e_impl_Definition)), (1, .ref (e_impl_Definition a1)), (2, .int .i64 a2), (7, .ubox (e_impl_Part x1)), (51, .bool (!x9))] (fun P hP => ?_) ?_)
       ·simp only [V0.down, simprocAttr, zz2.down, b68, b70, b71]
        refine w_callg0 (ok_spec_l00In x1.Number 1 7 _ e69) rfl rfl rfl rfl (.inl (by rfl)) ?_
        simp only [V0.down, simprocAttr, zz2.down, b68, b70, b71]
        refine w_callg0 (ok_spec_l00In x1.Number 0 (IntKind.i64.wrap ((a0.length : Int) - 1)) _ e72) rfl rfl rfl rfl (.inl (by rfl)) ?_
        simp only [V0.down, simprocAttr, zz2.down, b68, b70, b71]
        (try simp only [VN.down, simprocAttr, zz0.down, b68, b70, b71] at hP ⊢); exact hP
       exact .inr ⟨_, weak_eq rfl, K23 (!x9) h⟩
      ·refine w_sregW (w_abs (K := onW _) [(0, .slice (a0.map e_impl_Definition)), (1, .ref (e_impl_Definition a1)), (2, .int .i64 a2), (7, .ubox (e_impl_Part x1)), (51, .bool false)] (fun P hP => ?_) ?_)
       ·simp only [V0.down, simprocAttr, zz2.down, b68, b70, b71]
        refine w_callg0 (ok_spec_l00In x1.Number 1 7 _ e69) rfl rfl rfl rfl (.inl (by rfl)) ?_
        simp only [V0.down, simprocAttr, zz2.down, b68, b70, b71]
        (try simp only [VN.down, simprocAttr, zz0.down, b68, b70, b71] at hP ⊢); exact hP
       exact .inr ⟨_, weak_eq rfl, K23 false h⟩
    ·rcases condE h with ⟨b73, h⟩ | ⟨b73, h⟩
     ·obtain ⟨x10, e74, h⟩ := bindE h
      refine w_sregW (w_abs (K := onW _) [(0, .slice (a0.map e_impl_Definition)), (1, .ref (e_impl_Definition a1)), (2, .int .i64 a2), (7, .ubox (e_impl_Part x1)), (51, .bool (!x10))] (fun P hP => ?_) ?_)
      ·simp only [V0.down, simprocAttr, zz2.down, b68, b73]
       refine w_callg0 (ok_spec_l00In x1.Number 0 (IntKind.i64.wrap ((a0.length : Int) - 1)) _ e74) rfl rfl rfl rfl (.inl (by rfl)) ?_
       simp only [V0.down, simprocAttr, zz2.down, b68, b73]
       (try simp only [VN.down, simprocAttr, zz0.down, b68, b73] at hP ⊢); exact hP
      exact .inr ⟨_, weak_eq rfl, K23 (!x10) h⟩
     ·refine w_sregW (w_abs (K := onW _) [(0, .slice (a0.map e_impl_Definition)), (1, .ref (e_impl_Definition a1)), (2, .int .i64 a2), (7, .ubox (e_impl_Part x1)), (51, .bool false)] (fun P hP => ?_) ?_)
      ·simp only [V0.down, simprocAttr, zz2.down, b68, b73]
       (try simp only [VN.down, simprocAttr, zz0.down, b68, b73] at hP ⊢); exact hP
      exact .inr ⟨_, weak_eq rfl, K23 false h⟩
  rcases condE h with ⟨b76, h⟩ | ⟨b76, h⟩
  ·obtain ⟨x11, e77, h⟩ := bindE h
   refine w_sregW (w_abs (K := onW _) [(0, .slice (a0.map e_impl_Definition)), (1, .ref (e_impl_Definition a1)), (2, .int .i64 a2), (7, .ubox (e_impl_Part x1)), (28, .bool (!x11))] (fun P hP => ?_) ?_)
   ·simp only [V0.down, simprocAttr, zz18.down, b76]
    refine w_callg0 (ok_spec_l01Name x1.Name _ e77) rfl rfl rfl rfl (.inl (by rfl)) ?_
    simp only [V0.down, simprocAttr, zz18.down, b76]
    (try simp only [VN.down, simprocAttr, zz0.down, b76] at hP ⊢); exact hP
   exact .inr ⟨_, weak_eq rfl, K15 (!x11) h⟩
  ·refine w_sregW (w_abs (K := onW _) [(0, .slice (a0.map e_impl_Definition)), (1, .ref (e_impl_Definition a1)), (2, .int .i64 a2), (7, .ubox (e_impl_Part x1)), (28, .bool false)] (fun P hP => ?_) ?_)
   ·simp only [V0.down, simprocAttr, zz18.down, b76]
    (try simp only [VN.down, simprocAttr, zz0.down, b76] at hP ⊢); exact hP
   exact .inr ⟨_, weak_eq rfl, K15 false h⟩

theorem ok_spec_l05Body (a0 : List impl_Definition) (a1 : impl_Definition) (r : Int × Int) (h : spec_l05Body a0 a1 = some r) : OkAt Cc 180 [.slice (a0.map e_impl_Definition), .ref (e_impl_Definition a1)] (.tuple [.int .i64 r.1, .int .i64 r.2]) [] := by
 refine OkAt.of_wpR (fx := [0, 1]) Cc_ok [.tmp 4, .tmp 5] [(0, .slice (a0.map e_impl_Definition)), (1, .ref (e_impl_Definition a1))] Tryz.func180 rfl rfl s180 (Nat.le_of_ble_eq_true rfl) rfl rfl (fun Q0 r0 n0 => ?_)
 refine ws _ ?_
 refine w_seq (fun Q2 n2 q2 x2 => ?_)
 obtain ⟨x1, e4, h⟩ := bindE h
 refine wsc (ok_spec_l05Shape a1.Body _ e4) _ ?_
 rcases condE h with ⟨b5, h⟩ | ⟨b5, h⟩
 ·refine w_ct (congrArg AV.bool b5) ?_
  simp only [b5, Bool.not_true, Bool.not_false]
  refine ws _ ?_
  exact w_ret (q2 _ (r0 _ (.inl (w_fin [.int .i64 0, .int .i64 1] rfl (by cases someE h; rfl) (by decide) outs_nil))))
 ·refine w_cf (congrArg AV.bool b5) ?_
  simp only [b5, Bool.not_true, Bool.not_false]
  refine w_skip (n2 _ (.inl ?_))
  refine w_seq (fun Q7 n7 q7 x7 => ?_)
  refine ws _ ?_
  refine w_blk (fun Q9 n9 q9 b9 x9 => ?_)
  have L14 : ∀ (n : Nat) (v6_14 : Int), spec_l05Body_l14 a0 a1 n v6_14 = some r → lpC Cc c180_15 Q9 (stA [(0, .slice (a0.map e_impl_Definition)), (1, .ref (e_impl_Definition a1)), (6, .int .i64 v6_14)]) := by
   intro m14
   induction m14 with
   | zero => intro v6_14 h; cases (show none = some r from h)
   | succ m14 ih14 =>
    intro v6_14 h
    replace h : spec_l05Body_b14 (spec_l05Body_l14 a0 a1 m14) a0 a1 v6_14 = some r := h
    refine lpC_step (fun Q10 n10 q10 x10 => ?_)
    refine w_seq (fun Q11 n11 q11 x11 => ?_)
    refine ws _ ?_
    rcases condE h with ⟨b13, h⟩ | ⟨b13, h⟩
    ·refine w_ct (congrArg AV.bool b13) ?_
     simp only [b13, Bool.not_true, Bool.not_false]
     refine w_skip (n11 _ (.inl ?_))
     refine w_seq (fun Q14 n14 q14 x14 => ?_)
     refine w_blk (fun Q15 n15 q15 b15 x15 => ?_)
     obtain ⟨x2, e17, h⟩ := bindE h
     refine wsc (ok_spec_l05Reason a0 a1 v6_14 _ e17) _ ?_
     refine ws _ ?_
     rcases condE h with ⟨b19, h⟩ | ⟨b19, h⟩
     ·refine w_ct (congrArg AV.bool b19) ?_
      simp only [b19, Bool.not_true, Bool.not_false]
      refine ws _ ?_
      exact w_ret (q15 _ (q14 _ (q10 _ (q9 _ (q7 _ (r0 _ (.inl (w_fin [.int .i64 v6_14, .int .i64 x2] rfl (by cases someE h; rfl) (by decide) outs_nil))))))))
     ·refine w_cf (congrArg AV.bool b19) ?_
      simp only [b19, Bool.not_true, Bool.not_false]
      refine w_skip (n15 _ (n14 _ (.inl ?_)))
      refine wr _ ?_
      exact n10 _ (.inr ⟨_, weak_eq rfl, ih14 (IntKind.i64.wrap (v6_14 + 1)) h⟩)
    ·refine w_cf (congrArg AV.bool b13) ?_
     simp only [b13, Bool.not_true, Bool.not_false]
     refine w_ex (x11 0 _ (x10 0 _ (b9 _ (n7 _ (.inl ?_)))))
     refine ws _ ?_
     exact w_ret (r0 _ (.inl (w_fin [.int .i64 0, .int .i64 0] rfl (by cases someE h; rfl) (by decide) outs_nil)))
  obtain ⟨n, h⟩ := limE h
  exact w_loop (.inr ⟨_, weak_eq rfl, L14 n 0 h⟩)

set_option maxHeartbeats 1200000 in
theorem ok_spec_l05Defs (a0 : List impl_Definition) (r : Bool) (h : spec_l05Defs a0 = some r) : OkAt Cc 128 [.slice (a0.map e_impl_Definition)] (.bool r) [] := by
 refine OkAt.of_wpR (fx := [0]) Cc_ok [.tmp 2] [(0, .slice (a0.map e_impl_Definition))] Tryz.func128 rfl rfl s128 (Nat.le_of_ble_eq_true rfl) rfl rfl (fun Q0 r0 n0 => ?_)
 refine ws _ ?_
 refine w_seq (fun Q2 n2 q2 x2 => ?_)
 refine w_sreg (w_abs [(0, .slice (a0.map e_impl_Definition)), (15, .bool (((a0.length : Int) == 0) || (decide (4 < (a0.length : Int)))))] (fun P hP => ?_) ?_)
 ·rcases Bool.eq_false_or_eq_true ((a0.length : Int) == 0) with s4 | s4
  ·simp only [V0.down, simprocAttr, zz2.down, s4]
   (try simp only [VN.down, simprocAttr, zz0.down, s4] at hP ⊢); exact hP
  ·simp only [V0.down, simprocAttr, zz2.down, s4]
   (try simp only [VN.down, simprocAttr, zz0.down, s4] at hP ⊢); exact hP
 rcases condE h with ⟨b5, h⟩ | ⟨b5, h⟩
 ·refine w_ct (congrArg AV.bool b5) ?_
  simp only [b5, Bool.not_true, Bool.not_false]
  refine ws _ ?_
  exact w_ret (q2 _ (r0 _ (.inl (w_fin [.bool false] rfl (by cases someE h; rfl) (by decide) outs_nil))))
 ·refine w_cf (congrArg AV.bool b5) ?_
  simp only [b5, Bool.not_true, Bool.not_false]
  refine w_skip (n2 _ (.inl ?_))
  refine w_seq (fun Q7 n7 q7 x7 => ?_)
  refine ws _ ?_
  refine w_blk (fun Q9 n9 q9 b9 x9 => ?_)
  have L14 : ∀ (n : Nat) (v3_14 : Int), spec_l05Defs_l14 a0 n v3_14 = some r → lpC Cc c128_15 Q9 (stA [(0, .slice (a0.map e_impl_Definition)), (3, .int .i64 v3_14)]) := by
   intro m14
   induction m14 with
   | zero => intro v3_14 h; cases (show none = some r from h)
   | succ m14 ih14 =>
    intro v3_14 h
    replace h : spec_l05Defs_b14 (spec_l05Defs_l14 a0 m14) a0 v3_14 = some r := h
    refine lpC_step (fun Q10 n10 q10 x10 => ?_)
    refine w_seq (fun Q11 n11 q11 x11 => ?_)
    refine ws _ ?_
    rcases condE h with ⟨b13, h⟩ | ⟨b13, h⟩
    ·refine w_ct (congrArg AV.bool b13) ?_
     simp only [b13, Bool.not_true, Bool.not_false]
     refine w_skip (n11 _ (.inl ?_))
     refine w_seq (fun Q14 n14 q14 x14 => ?_)
     refine w_blk (fun Q15 n15 q15 b15 x15 => ?_)
     refine w_seq (fun Q16 n16 q16 x16 => ?_)
     obtain ⟨x1, e18, h⟩ := bindE h
     obtain ⟨x2, e19, h⟩ := bindE h
     rcases condE h with ⟨b20, h⟩ | ⟨b20, h⟩
     ·refine wscf (And.intro e18 b20) (ok_spec_l01Name x1.Name _ e19) _ ?_
      refine w_ct rfl ?_
      refine ws _ ?_
      exact w_ret (q16 _ (q15 _ (q14 _ (q10 _ (q9 _ (q7 _ (r0 _ (.inl (w_fin [.bool false] rfl (by cases someE h; rfl) (by decide) outs_nil)))))))))
     ·obtain ⟨x3, e22, h⟩ := bindE h
      refine w_sreg (w_abs [(0, .slice (a0.map e_impl_Definition)), (3, .int .i64 v3_14), (37, .bool (!x3))] (fun P hP => ?_) ?_)
      ·simp only [V0.down, simprocAttr, zz2.down, e18, b20]
       refine w_call0 (ok_spec_l01Name x1.Name _ e19) rfl rfl rfl rfl (.inl (by rfl)) ?_
       simp only [V0.down, simprocAttr, zz2.down, e18, b20]
       refine w_callg0 (ok_spec_l00In x1.Parameters 0 3 _ e22) rfl rfl rfl rfl (.inl (by rfl)) ?_
       simp only [V0.down, simprocAttr, zz2.down, e18, b20]
       (try simp only [VN.down, simprocAttr, zz0.down, e18, b20] at hP ⊢); exact hP
      rcases condE h with ⟨b23, h⟩ | ⟨b23, h⟩
      ·refine w_ct (congrArg AV.bool b23) ?_
       simp only [b23, Bool.not_true, Bool.not_false]
       refine ws _ ?_
       exact w_ret (q16 _ (q15 _ (q14 _ (q10 _ (q9 _ (q7 _ (r0 _ (.inl (w_fin [.bool false] rfl (by cases someE h; rfl) (by decide) outs_nil)))))))))
      ·refine w_cf (congrArg AV.bool b23) ?_
       simp only [b23, Bool.not_true, Bool.not_false]
       refine w_skip (n16 _ (.inl ?_))
       refine ws _ ?_
       refine w_blk (fun Q26 n26 q26 b26 x26 => ?_)
       have L34 : ∀ (n : Nat) (v3_34 : Int) (v4_34 : Int), spec_l05Defs_l34 (spec_l05Defs_l14 a0 m14) a0 n v3_34 v4_34 = some r → lpC Cc c128_35 Q26 (stA [(0, .slice (a0.map e_impl_Definition)), (3, .int .i64 v3_34), (4, .int .i64 v4_34)]) := by
        intro m34
        induction m34 with
        | zero => intro v3_34 v4_34 h; cases (show none = some r from h)
        | succ m34 ih34 =>
         intro v3_34 v4_34 h
         replace h : spec_l05Defs_b34 (spec_l05Defs_l14 a0 m14) (spec_l05Defs_l34 (spec_l05Defs_l14 a0 m14) a0 m34) a0 v3_34 v4_34 = some r := h
         refine lpC_step (fun Q27 n27 q27 x27 => ?_)
         refine w_seq (fun Q28 n28 q28 x28 => ?_)
         refine ws _ ?_
         rcases condE h with ⟨b30, h⟩ | ⟨b30, h⟩
         ·refine w_ct (congrArg AV.bool b30) ?_
          simp only [b30, Bool.not_true, Bool.not_false]
          refine w_skip (n28 _ (.inl ?_))
          refine w_seq (fun Q31 n31 q31 x31 => ?_)
          refine w_blk (fun Q32 n32 q32 b32 x32 => ?_)
          obtain ⟨x4, e34, h⟩ := bindE h
          obtain ⟨x5, e35, h⟩ := bindE h
          refine w_sdrw rfl (w_absd [(0, .slice (a0.map e_impl_Definition)), (3, .int .i64 v3_34), (4, .int .i64 v4_34), (53, .bool (x4.Name == x5.Name))] (fun P hP => ?_) ?_)
          ·simp only [V1.down, simprocAttr, zz2.down, e34, e35]
           refine ⟨okP_D (by kernel_rfl), ?_⟩
           (try simp only [VN.down, simprocAttr, zz0.down, e34, e35] at hP ⊢); exact hP
          rcases condE h with ⟨b36, h⟩ | ⟨b36, h⟩
          ·refine w_ct (congrArg AV.bool b36) ?_
           simp only [b36, Bool.not_true, Bool.not_false]
           refine ws _ ?_
           exact w_ret (q32 _ (q31 _ (q27 _ (q26 _ (q15 _ (q14 _ (q10 _ (q9 _ (q7 _ (r0 _ (.inl (w_fin [.bool false] rfl (by cases someE h; rfl) (by decide) outs_nil))))))))))))
          ·refine w_cf (congrArg AV.bool b36) ?_
           simp only [b36, Bool.not_true, Bool.not_false]
           refine w_skip (n32 _ (n31 _ (.inl ?_)))
           refine wr _ ?_
           exact n27 _ (.inr ⟨_, weak_eq rfl, ih34 v3_34 (IntKind.i64.wrap (v4_34 + 1)) h⟩)
         ·refine w_cf (congrArg AV.bool b30) ?_
          simp only [b30, Bool.not_true, Bool.not_false]
          refine w_ex (x28 2 _ (x27 2 _ (b26 _ (n15 _ (n14 _ (.inl ?_))))))
          refine wr _ ?_
          exact n10 _ (.inr ⟨_, weak_eq rfl, ih14 (IntKind.i64.wrap (v3_34 + 1)) h⟩)
       obtain ⟨n, h⟩ := limE h
       exact w_loop (.inr ⟨_, weak_eq rfl, L34 n v3_14 0 h⟩)
    ·refine w_cf (congrArg AV.bool b13) ?_
     simp only [b13, Bool.not_true, Bool.not_false]
     refine w_ex (x11 0 _ (x10 0 _ (b9 _ (n7 _ (.inl ?_)))))
     refine w_seq (fun Q40 n40 q40 x40 => ?_)
     refine ws _ ?_
     refine w_blk (fun Q42 n42 q42 b42 x42 => ?_)
     have L56 : ∀ (n : Nat) (v5_56 : Int), spec_l05Defs_l56 a0 n v5_56 = some r → lpC Cc c128_57 Q42 (stA [(0, .slice (a0.map e_impl_Definition)), (5, .int .i64 v5_56)]) := by
      intro m56
      induction m56 with
      | zero => intro v5_56 h; cases (show none = some r from h)
      | succ m56 ih56 =>
       intro v5_56 h
       replace h : spec_l05Defs_b56 (spec_l05Defs_l56 a0 m56) a0 v5_56 = some r := h
       refine lpC_step (fun Q43 n43 q43 x43 => ?_)
       refine w_seq (fun Q44 n44 q44 x44 => ?_)
       refine ws _ ?_
       rcases condE h with ⟨b46, h⟩ | ⟨b46, h⟩
       ·refine w_ct (congrArg AV.bool b46) ?_
        simp only [b46, Bool.not_true, Bool.not_false]
        refine w_skip (n44 _ (.inl ?_))
        refine w_seq (fun Q47 n47 q47 x47 => ?_)
        refine w_blk (fun Q48 n48 q48 b48 x48 => ?_)
        obtain ⟨x6, e50, h⟩ := bindE h
        obtain ⟨x7, e51, h⟩ := bindE h
        refine wscf e50 (ok_spec_l05Body a0 x6 _ e51) _ ?_
        refine ws _ ?_
        rcases condE h with ⟨b53, h⟩ | ⟨b53, h⟩
        ·refine w_ct (congrArg AV.bool b53) ?_
         simp only [b53, Bool.not_true, Bool.not_false]
         refine ws _ ?_
         exact w_ret (q48 _ (q47 _ (q43 _ (q42 _ (q40 _ (r0 _ (.inl (w_fin [.bool false] rfl (by cases someE h; rfl) (by decide) outs_nil))))))))
        ·refine w_cf (congrArg AV.bool b53) ?_
         simp only [b53, Bool.not_true, Bool.not_false]
         refine w_skip (n48 _ (n47 _ (.inl ?_)))
         refine wr _ ?_
         exact n43 _ (.inr ⟨_, weak_eq rfl, ih56 (IntKind.i64.wrap (v5_56 + 1)) h⟩)
       ·refine w_cf (congrArg AV.bool b46) ?_
        simp only [b46, Bool.not_true, Bool.not_false]
        refine w_ex (x44 4 _ (x43 4 _ (b42 _ (n40 _ (.inl ?_)))))
        refine ws _ ?_
        exact w_ret (r0 _ (.inl (w_fin [.bool true] rfl (by cases someE h; rfl) (by decide) outs_nil)))
     obtain ⟨n, h⟩ := limE h
     exact w_loop (.inr ⟨_, weak_eq rfl, L56 n 0 h⟩)
  obtain ⟨n, h⟩ := limE h
  exact w_loop (.inr ⟨_, weak_eq rfl, L14 n 0 h⟩)

theorem ok_spec_l03Data (a0 : List Int) (r : Bool) (h : spec_l03Data a0 = some r) : OkAt Cc 158 [.slice (a0.map e_i64)] (.bool r) [] := by
 refine OkAt.of_wpR (fx := [0]) Cc_ok [.tmp 2] [(0, .slice (a0.map e_i64))] Tryz.func158 rfl rfl s158 (Nat.le_of_ble_eq_true rfl) rfl rfl (fun Q0 r0 n0 => ?_)
 refine ws _ ?_
 refine w_seq (fun Q2 n2 q2 x2 => ?_)
 refine ws _ ?_
 refine w_blk (fun Q4 n4 q4 b4 x4 => ?_)
 have L6 : ∀ (n : Nat) (v3_6 : Int), spec_l03Data_l6 a0 n v3_6 = some r → lpC Cc c158_7 Q4 (stA [(0, .slice (a0.map e_i64)), (3, .int .i64 v3_6)]) := by
  intro m6
  induction m6 with
  | zero => intro v3_6 h; cases (show none = some r from h)
  | succ m6 ih6 =>
   intro v3_6 h
   replace h : spec_l03Data_b6 (spec_l03Data_l6 a0 m6) a0 v3_6 = some r := h
   refine lpC_step (fun Q5 n5 q5 x5 => ?_)
   refine w_seq (fun Q6 n6 q6 x6 => ?_)
   refine ws _ ?_
   rcases condE h with ⟨b8, h⟩ | ⟨b8, h⟩
   ·refine w_ct (congrArg AV.bool b8) ?_
    simp only [b8, Bool.not_true, Bool.not_false]
    refine w_skip (n6 _ (.inl ?_))
    refine w_seq (fun Q9 n9 q9 x9 => ?_)
    refine w_blk (fun Q10 n10 q10 b10 x10 => ?_)
    obtain ⟨x1, e12, h⟩ := bindE h
    obtain ⟨x2, e13, h⟩ := bindE h
    refine wscf e12 (ok_spec_l00In x1 0 63 _ e13) _ ?_
    rcases condE h with ⟨b14, h⟩ | ⟨b14, h⟩
    ·refine w_ct (congrArg AV.bool b14) ?_
     simp only [b14, Bool.not_true, Bool.not_false]
     refine ws _ ?_
     exact w_ret (q10 _ (q9 _ (q5 _ (q4 _ (q2 _ (r0 _ (.inl (w_fin [.bool false] rfl (by cases someE h; rfl) (by decide) outs_nil))))))))
    ·refine w_cf (congrArg AV.bool b14) ?_
     simp only [b14, Bool.not_true, Bool.not_false]
     refine w_skip (n10 _ (n9 _ (.inl ?_)))
     refine wr _ ?_
     exact n5 _ (.inr ⟨_, weak_eq rfl, ih6 (IntKind.i64.wrap (v3_6 + 1)) h⟩)
   ·refine w_cf (congrArg AV.bool b8) ?_
    simp only [b8, Bool.not_true, Bool.not_false]
    refine w_ex (x6 0 _ (x5 0 _ (b4 _ (n2 _ (.inl ?_)))))
    refine ws _ ?_
    exact w_ret (r0 _ (.inl (w_fin [.bool true] rfl (by cases someE h; rfl) (by decide) outs_nil)))
 obtain ⟨n, h⟩ := limE h
 exact w_loop (.inr ⟨_, weak_eq rfl, L6 n 0 h⟩)

set_option maxHeartbeats 1400000 in
theorem ok_spec_l05Components (a0 : impl_System) (r : Bool) (h : spec_l05Components a0 = some r) : OkAt Cc 129 [.ref (e_impl_System a0)] (.bool r) [] := by
 refine OkAt.of_wpR (fx := [0]) Cc_ok [.tmp 2] [(0, .ref (e_impl_System a0))] Tryz.func129 rfl rfl s129 (Nat.le_of_ble_eq_true rfl) rfl rfl (fun Q0 r0 n0 => ?_)
 refine ws _ ?_
 refine w_seq (fun Q2 n2 q2 x2 => ?_)
 refine w_sreg (w_abs [(0, .ref (e_impl_System a0)), (18, .bool (((a0.Components.length : Int) == 0) || (decide (3 < (a0.Components.length : Int)))))] (fun P hP => ?_) ?_)
 ·rcases Bool.eq_false_or_eq_true ((a0.Components.length : Int) == 0) with s4 | s4
  ·simp only [V0.down, simprocAttr, zz8.down, s4]
   (try simp only [VN.down, simprocAttr, zz16.down, s4] at hP ⊢); exact hP
  ·simp only [V0.down, simprocAttr, zz8.down, s4]
   (try simp only [VN.down, simprocAttr, zz16.down, s4] at hP ⊢); exact hP
 rcases condE h with ⟨b5, h⟩ | ⟨b5, h⟩
 ·refine w_ct (congrArg AV.bool b5) ?_
  simp only [b5, Bool.not_true, Bool.not_false]
  refine ws _ ?_
  exact w_ret (q2 _ (r0 _ (.inl (w_fin [.bool false] rfl (by cases someE h; rfl) (by decide) outs_nil))))
 ·refine w_cf (congrArg AV.bool b5) ?_
  simp only [b5, Bool.not_true, Bool.not_false]
  refine w_skip (n2 _ (.inl ?_))
  refine w_seq (fun Q7 n7 q7 x7 => ?_)
  refine ws _ ?_
  refine w_blk (fun Q9 n9 q9 b9 x9 => ?_)
  have L14 : ∀ (n : Nat) (v3_14 : Int), spec_l05Components_l14 a0 n v3_14 = some r → lpC Cc c129_15 Q9 (stA [(0, .ref (e_impl_System a0)), (3, .int .i64 v3_14)]) := by
   intro m14
   induction m14 with
   | zero => intro v3_14 h; cases (show none = some r from h)
   | succ m14 ih14 =>
    intro v3_14 h
    replace h : spec_l05Components_b14 (spec_l05Components_l14 a0 m14) a0 v3_14 = some r := h
    refine lpC_step (fun Q10 n10 q10 x10 => ?_)
    refine w_seq (fun Q11 n11 q11 x11 => ?_)
    refine ws _ ?_
    rcases condE h with ⟨b13, h⟩ | ⟨b13, h⟩
    ·refine w_ct (congrArg AV.bool b13) ?_
     simp only [b13, Bool.not_true, Bool.not_false]
     refine w_skip (n11 _ (.inl ?_))
     refine w_seq (fun Q14 n14 q14 x14 => ?_)
     refine w_blk (fun Q15 n15 q15 b15 x15 => ?_)
     obtain ⟨x1, e17, h⟩ := bindE h
     refine wsf e17 _ ?_
     refine w_seq (fun Q18 n18 q18 x18 => ?_)
     obtain ⟨x2, e20, h⟩ := bindE h
     refine w_sdrw rfl (w_absd [(0, .ref (e_impl_System a0)), (3, .int .i64 v3_14), (4, .ubox (e_impl_Component x1)), (44, .bool (!x2))] (fun P hP => ?_) ?_)
     ·simp only [V1.down, simprocAttr, zz8.down]
      refine w_call1 (ok_spec_l00In x1.Definition 0 (IntKind.i64.wrap ((a0.Definitions.length : Int) - 1)) _ e20) rfl rfl rfl rfl (.inl (by rfl)) ?_
      simp only [V1.down, simprocAttr, zz8.down]
      refine ⟨okP_D (by kernel_rfl), ?_⟩
      (try simp only [VN.down, simprocAttr, zz16.down] at hP ⊢); exact hP
     rcases condE h with ⟨b21, h⟩ | ⟨b21, h⟩
     ·refine w_ct (congrArg AV.bool b21) ?_
      simp only [b21, Bool.not_true, Bool.not_false]
      refine ws _ ?_
      exact w_ret (q18 _ (q15 _ (q14 _ (q10 _ (q9 _ (q7 _ (r0 _ (.inl (w_fin [.bool false] rfl (by cases someE h; rfl) (by decide) outs_nil)))))))))
     ·refine w_cf (congrArg AV.bool b21) ?_
      simp only [b21, Bool.not_true, Bool.not_false]
      refine w_skip (n18 _ (.inl ?_))
      obtain ⟨x3, e24, h⟩ := bindE h
      rcases condE h with ⟨b25, h⟩ | ⟨b25, h⟩
      ·refine w_sdrw rfl (w_absd [(0, .ref (e_impl_System a0)), (3, .int .i64 v3_14), (63, .bool true)] (fun P hP => ?_) ?_)
       ·simp only [V1.down, simprocAttr, zz8.down, e24, b25]
        refine ⟨okP_D (by kernel_rfl), ?_⟩
        (try simp only [VN.down, simprocAttr, zz16.down, e24, b25] at hP ⊢); exact hP
       refine w_ct rfl ?_
       refine ws _ ?_
       exact w_ret (q15 _ (q14 _ (q10 _ (q9 _ (q7 _ (r0 _ (.inl (w_fin [.bool false] rfl (by cases someE h; rfl) (by decide) outs_nil))))))))
      ·obtain ⟨x4, e27, h⟩ := bindE h
       refine w_sdrw rfl (w_absd [(0, .ref (e_impl_System a0)), (3, .int .i64 v3_14), (63, .bool (!x4))] (fun P hP => ?_) ?_)
       ·simp only [V1.down, simprocAttr, zz8.down, e24, b25]
        refine w_callg1 (ok_spec_l03Data x1.Values _ e27) rfl rfl rfl rfl (.inl (by rfl)) ?_
        simp only [V1.down, simprocAttr, zz8.down, e24, b25]
        refine ⟨okP_D (by kernel_rfl), ?_⟩
        (try simp only [VN.down, simprocAttr, zz16.down, e24, b25] at hP ⊢); exact hP
       rcases condE h with ⟨b28, h⟩ | ⟨b28, h⟩
       ·refine w_ct (congrArg AV.bool b28) ?_
        simp only [b28, Bool.not_true, Bool.not_false]
        refine ws _ ?_
        exact w_ret (q15 _ (q14 _ (q10 _ (q9 _ (q7 _ (r0 _ (.inl (w_fin [.bool false] rfl (by cases someE h; rfl) (by decide) outs_nil))))))))
       ·refine w_cf (congrArg AV.bool b28) ?_
        simp only [b28, Bool.not_true, Bool.not_false]
        refine w_skip (n15 _ (n14 _ (.inl ?_)))
        refine wr _ ?_
        exact n10 _ (.inr ⟨_, weak_eq rfl, ih14 (IntKind.i64.wrap (v3_14 + 1)) h⟩)
    ·refine w_cf (congrArg AV.bool b13) ?_
     simp only [b13, Bool.not_true, Bool.not_false]
     refine w_ex (x11 0 _ (x10 0 _ (b9 _ (n7 _ (.inl ?_)))))
     refine ws _ ?_
     exact w_ret (r0 _ (.inl (w_fin [.bool true] rfl (by cases someE h; rfl) (by decide) outs_nil)))
  obtain ⟨n, h⟩ := limE h
  exact w_loop (.inr ⟨_, weak_eq rfl, L14 n 0 h⟩)

theorem ok_spec_l01Action (a0 : List UInt8) (r : Bool) (h : spec_l01Action a0 = some r) : OkAt Cc 146 [.str a0] (.bool r) [] := by
 refine OkAt.of_wpR (fx := [0]) Cc_ok [.tmp 2] [(0, .str a0)] Tryz.func146 rfl rfl s146 (Nat.le_of_ble_eq_true rfl) rfl rfl (fun Q0 r0 n0 => ?_)
 refine ws _ ?_
 obtain ⟨x1, e3, h⟩ := bindE h
 refine w_sreg (w_abs [(2, .bool (x1 && (!(a0 == ([116, 97, 117] : List UInt8)))))] (fun P hP => ?_) ?_)
 ·rcases Bool.eq_false_or_eq_true (x1) with s4 | s4
  ·simp only [V0.down, simprocAttr, s4]
   refine w_call0 (ok_spec_l01Name a0 _ e3) rfl rfl rfl rfl (.inl (by rfl)) ?_
   simp only [V0.down, simprocAttr, s4]
   (try simp only [VN.down, simprocAttr, s4] at hP ⊢); exact hP
  ·simp only [V0.down, simprocAttr, s4]
   refine w_call0 (ok_spec_l01Name a0 _ e3) rfl rfl rfl rfl (.inl (by rfl)) ?_
   simp only [V0.down, simprocAttr, s4]
   (try simp only [VN.down, simprocAttr, s4] at hP ⊢); exact hP
 exact w_ret (r0 _ (.inl (w_fin [.bool (x1 && (!(a0 == ([116, 97, 117] : List UInt8))))] rfl (by cases someE h; rfl) (by decide) outs_nil)))

set_option maxHeartbeats 2200000 in
theorem ok_spec_l05Meetings (a0 : List impl_Meeting) (r : Bool) (h : spec_l05Meetings a0 = some r) : OkAt Cc 76 [.slice (a0.map e_impl_Meeting)] (.bool r) [] := by
 refine OkAt.of_wpR (fx := [0]) Cc_ok [.tmp 2] [(0, .slice (a0.map e_impl_Meeting))] Tryz.func76 rfl rfl s76 (Nat.le_of_ble_eq_true rfl) rfl rfl (fun Q0 r0 n0 => ?_)
 refine ws _ ?_
 refine w_seq (fun Q2 n2 q2 x2 => ?_)
 refine ws _ ?_
 rcases condE h with ⟨b4, h⟩ | ⟨b4, h⟩
 ·refine w_ct (congrArg AV.bool b4) ?_
  simp only [b4, Bool.not_true, Bool.not_false]
  refine ws _ ?_
  exact w_ret (q2 _ (r0 _ (.inl (w_fin [.bool false] rfl (by cases someE h; rfl) (by decide) outs_nil))))
 ·refine w_cf (congrArg AV.bool b4) ?_
  simp only [b4, Bool.not_true, Bool.not_false]
  refine w_skip (n2 _ (.inl ?_))
  refine w_seq (fun Q6 n6 q6 x6 => ?_)
  refine ws _ ?_
  refine w_blk (fun Q8 n8 q8 b8 x8 => ?_)
  have L14 : ∀ (n : Nat) (v3_14 : Int), spec_l05Meetings_l14 a0 n v3_14 = some r → lpC Cc c76_15 Q8 (stA [(0, .slice (a0.map e_impl_Meeting)), (3, .int .i64 v3_14)]) := by
   intro m14
   induction m14 with
   | zero => intro v3_14 h; cases (show none = some r from h)
   | succ m14 ih14 =>
    intro v3_14 h
    replace h : spec_l05Meetings_b14 (spec_l05Meetings_l14 a0 m14) a0 v3_14 = some r := h
    refine lpC_step (fun Q9 n9 q9 x9 => ?_)
    refine w_seq (fun Q10 n10 q10 x10 => ?_)
    refine ws _ ?_
    rcases condE h with ⟨b12, h⟩ | ⟨b12, h⟩
    ·refine w_ct (congrArg AV.bool b12) ?_
     simp only [b12, Bool.not_true, Bool.not_false]
     refine w_skip (n10 _ (.inl ?_))
     refine w_seq (fun Q13 n13 q13 x13 => ?_)
     refine w_blk (fun Q14 n14 q14 b14 x14 => ?_)
     obtain ⟨x1, e16, h⟩ := bindE h
     refine wsf e16 _ ?_
     refine w_seq (fun Q17 n17 q17 x17 => ?_)
     obtain ⟨x2, e19, h⟩ := bindE h
     rcases condE h with ⟨b20, h⟩ | ⟨b20, h⟩
     ·refine wscf b20 (ok_spec_l01Action x1.Left _ e19) _ ?_
      refine w_ct rfl ?_
      refine ws _ ?_
      exact w_ret (q17 _ (q14 _ (q13 _ (q9 _ (q8 _ (q6 _ (r0 _ (.inl (w_fin [.bool false] rfl (by cases someE h; rfl) (by decide) outs_nil)))))))))
     ·obtain ⟨x3, e22, h⟩ := bindE h
      rcases condE h with ⟨b23, h⟩ | ⟨b23, h⟩
      ·refine w_sreg (w_abs [(0, .slice (a0.map e_impl_Meeting)), (3, .int .i64 v3_14), (4, .ubox (e_impl_Meeting x1)), (41, .bool true)] (fun P hP => ?_) ?_)
       ·simp only [V0.down, simprocAttr, zz4.down, b20, b23]
        refine w_call0 (ok_spec_l01Action x1.Left _ e19) rfl rfl rfl rfl (.inl (by rfl)) ?_
        simp only [V0.down, simprocAttr, zz4.down, b20, b23]
        refine w_callg0 (ok_spec_l01Action x1.Right _ e22) rfl rfl rfl rfl (.inl (by rfl)) ?_
        simp only [V0.down, simprocAttr, zz4.down, b20, b23]
        (try simp only [VN.down, simprocAttr, e_impl_Meeting, b20, b23] at hP ⊢); exact hP
       refine w_ct rfl ?_
       refine ws _ ?_
       exact w_ret (q17 _ (q14 _ (q13 _ (q9 _ (q8 _ (q6 _ (r0 _ (.inl (w_fin [.bool false] rfl (by cases someE h; rfl) (by decide) outs_nil)))))))))
      ·obtain ⟨x4, e25, h⟩ := bindE h
       refine w_sreg (w_abs [(0, .slice (a0.map e_impl_Meeting)), (3, .int .i64 v3_14), (4, .ubox (e_impl_Meeting x1)), (41, .bool ((!x4) || (!(Op.bytesLess x1.Left x1.Right || x1.Left == x1.Right))))] (fun P hP => ?_) ?_)
       ·rcases Bool.eq_false_or_eq_true (x4) with s26 | s26
        ·simp only [V0.down, simprocAttr, zz4.down, b20, b23, s26]
         refine w_call0 (ok_spec_l01Action x1.Left _ e19) rfl rfl rfl rfl (.inl (by rfl)) ?_
         simp only [V0.down, simprocAttr, zz4.down, b20, b23, s26]
         refine w_callg0 (ok_spec_l01Action x1.Right _ e22) rfl rfl rfl rfl (.inl (by rfl)) ?_
         simp only [V0.down, simprocAttr, zz4.down, b20, b23, s26]
         refine w_callg0 (ok_spec_l01Action x1.Result _ e25) rfl rfl rfl rfl (.inl (by rfl)) ?_
         simp only [V0.down, simprocAttr, zz4.down, b20, b23, s26]
         (try simp only [VN.down, simprocAttr, e_impl_Meeting, b20, b23, s26] at hP ⊢); exact hP
        ·simp only [V0.down, simprocAttr, zz4.down, b20, b23, s26]
         refine w_call0 (ok_spec_l01Action x1.Left _ e19) rfl rfl rfl rfl (.inl (by rfl)) ?_
         simp only [V0.down, simprocAttr, zz4.down, b20, b23, s26]
         refine w_callg0 (ok_spec_l01Action x1.Right _ e22) rfl rfl rfl rfl (.inl (by rfl)) ?_
         simp only [V0.down, simprocAttr, zz4.down, b20, b23, s26]
         refine w_callg0 (ok_spec_l01Action x1.Result _ e25) rfl rfl rfl rfl (.inl (by rfl)) ?_
         simp only [V0.down, simprocAttr, zz4.down, b20, b23, s26]
         (try simp only [VN.down, simprocAttr, e_impl_Meeting, b20, b23, s26] at hP ⊢); exact hP
       rcases condE h with ⟨b27, h⟩ | ⟨b27, h⟩
       ·refine w_ct (congrArg AV.bool b27) ?_
        simp only [b27, Bool.not_true, Bool.not_false]
        refine ws _ ?_
        exact w_ret (q17 _ (q14 _ (q13 _ (q9 _ (q8 _ (q6 _ (r0 _ (.inl (w_fin [.bool false] rfl (by cases someE h; rfl) (by decide) outs_nil)))))))))
       ·refine w_cf (congrArg AV.bool b27) ?_
        simp only [b27, Bool.not_true, Bool.not_false]
        refine w_skip (n17 _ (.inl ?_))
        refine w_seq (fun Q29 n29 q29 x29 => ?_)
        rcases condE h with ⟨b31, h⟩ | ⟨b31, h⟩
        ·obtain ⟨x5, e32, h⟩ := bindE h
         refine w_sdrw rfl (w_absd [(0, .slice (a0.map e_impl_Meeting)), (3, .int .i64 v3_14), (4, .ubox (e_impl_Meeting x1)), (76, .bool ((!(Op.bytesLess x5.Left x1.Left || x5.Left == x1.Left)) || ((x5.Left == x1.Left) && (!(Op.bytesLess x5.Right x1.Right)))))] (fun P hP => ?_) ?_)
         ·(rcases Bool.eq_false_or_eq_true (Op.bytesLess x5.Left x1.Left) with s33 | s33) <;> (rcases Bool.eq_false_or_eq_true (x5.Left == x1.Left) with s34 | s34) <;>
            (simp only [V1.down, simprocAttr, zz1.down, b31, e32, s33, s34]
             refine ⟨okP_D (by kernel_rfl), ?_⟩
             (try simp only [VN.down, simprocAttr, e_impl_Meeting, b31, e32, s33, s34] at hP ⊢); exact hP)
         rcases condE h with ⟨b35, h⟩ | ⟨b35, h⟩
         ·refine w_ct (congrArg AV.bool b35) ?_
          simp only [b35, Bool.not_true, Bool.not_false]
          refine ws _ ?_
          exact w_ret (q29 _ (q14 _ (q13 _ (q9 _ (q8 _ (q6 _ (r0 _ (.inl (w_fin [.bool false] rfl (by cases someE h; rfl) (by decide) outs_nil)))))))))
         ·refine w_cf (congrArg AV.bool b35) ?_
          simp only [b35, Bool.not_true, Bool.not_false]
          refine w_skip (n29 _ (.inl ?_))
          refine ws _ ?_
          refine w_blk (fun Q38 n38 q38 b38 x38 => ?_)
          have L44 : ∀ (n : Nat) (v3_44 : Int) (v5_44 : Int), spec_l05Meetings_l44 (spec_l05Meetings_l14 a0 m14) a0 x1 n v3_44 v5_44 = some r → lpC Cc c76_45 Q38 (stA [(0, .slice (a0.map e_impl_Meeting)), (3, .int .i64 v3_44), (4, .ubox (e_impl_Meeting x1)), (5, .int .i64 v5_44)]) := by
           intro m44
           induction m44 with
           | zero => intro v3_44 v5_44 h; cases (show none = some r from h)
           | succ m44 ih44 =>
            intro v3_44 v5_44 h
            replace h : spec_l05Meetings_b44 (spec_l05Meetings_l14 a0 m14) (spec_l05Meetings_l44 (spec_l05Meetings_l14 a0 m14) a0 x1 m44) a0 x1 v3_44 v5_44 = some r := h
            refine lpC_step (fun Q39 n39 q39 x39 => ?_)
            refine w_seq (fun Q40 n40 q40 x40 => ?_)
            refine ws _ ?_
            rcases condE h with ⟨b42, h⟩ | ⟨b42, h⟩
            ·refine w_ct (congrArg AV.bool b42) ?_
             simp only [b42, Bool.not_true, Bool.not_false]
             refine w_skip (n40 _ (.inl ?_))
             refine w_seq (fun Q43 n43 q43 x43 => ?_)
             refine w_blk (fun Q44 n44 q44 b44 x44 => ?_)
             obtain ⟨x6, e46, h⟩ := bindE h
             refine w_sdrw rfl (w_absd [(0, .slice (a0.map e_impl_Meeting)), (3, .int .i64 v3_44), (4, .ubox (e_impl_Meeting x1)), (5, .int .i64 v5_44), (100, .bool ((x6.Left == x1.Result) || (x6.Right == x1.Result)))] (fun P hP => ?_) ?_)
             ·rcases Bool.eq_false_or_eq_true (x6.Left == x1.Result) with s47 | s47
              ·simp only [V1.down, simprocAttr, zz1.down, e46, s47]
               refine ⟨okP_D (by kernel_rfl), ?_⟩
               (try simp only [VN.down, simprocAttr, e_impl_Meeting, e46, s47] at hP ⊢); exact hP
              ·simp only [V1.down, simprocAttr, zz1.down, e46, s47]
               refine ⟨okP_D (by kernel_rfl), ?_⟩
               (try simp only [VN.down, simprocAttr, e_impl_Meeting, e46, s47] at hP ⊢); exact hP
             rcases condE h with ⟨b48, h⟩ | ⟨b48, h⟩
             ·refine w_ct (congrArg AV.bool b48) ?_
              simp only [b48, Bool.not_true, Bool.not_false]
              refine ws _ ?_
              exact w_ret (q44 _ (q43 _ (q39 _ (q38 _ (q14 _ (q13 _ (q9 _ (q8 _ (q6 _ (r0 _ (.inl (w_fin [.bool false] rfl (by cases someE h; rfl) (by decide) outs_nil))))))))))))
             ·refine w_cf (congrArg AV.bool b48) ?_
              simp only [b48, Bool.not_true, Bool.not_false]
              refine w_skip (n44 _ (n43 _ (.inl ?_)))
              refine wr _ ?_
              exact n39 _ (.inr ⟨_, weak_eq rfl, ih44 v3_44 (IntKind.i64.wrap (v5_44 + 1)) h⟩)
            ·refine w_cf (congrArg AV.bool b42) ?_
             simp only [b42, Bool.not_true, Bool.not_false]
             refine w_ex (x40 2 _ (x39 2 _ (b38 _ (n14 _ (n13 _ (.inl ?_))))))
             refine wr _ ?_
             exact n9 _ (.inr ⟨_, weak_eq rfl, ih14 (IntKind.i64.wrap (v3_44 + 1)) h⟩)
          obtain ⟨n, h⟩ := limE h
          exact w_loop (.inr ⟨_, weak_eq rfl, L44 n v3_14 0 h⟩)
        ·refine w_sdrw rfl (w_absd [(0, .slice (a0.map e_impl_Meeting)), (3, .int .i64 v3_14), (4, .ubox (e_impl_Meeting x1)), (76, .bool false)] (fun P hP => ?_) ?_)
         ·simp only [V1.down, simprocAttr, zz1.down, b31]
          refine ⟨okP_D (by kernel_rfl), ?_⟩
          (try simp only [VN.down, simprocAttr, e_impl_Meeting, b31] at hP ⊢); exact hP
         refine w_cf rfl ?_
         refine w_skip (n29 _ (.inl ?_))
         refine ws _ ?_
         refine w_blk (fun Q53 n53 q53 b53 x53 => ?_)
         have L44 : ∀ (n : Nat) (v3_44 : Int) (v5_44 : Int), spec_l05Meetings_l44 (spec_l05Meetings_l14 a0 m14) a0 x1 n v3_44 v5_44 = some r → lpC Cc c76_45 Q53 (stA [(0, .slice (a0.map e_impl_Meeting)), (3, .int .i64 v3_44), (4, .ubox (e_impl_Meeting x1)), (5, .int .i64 v5_44)]) := by
          intro m44
          induction m44 with
          | zero => intro v3_44 v5_44 h; cases (show none = some r from h)
          | succ m44 ih44 =>
           intro v3_44 v5_44 h
           replace h : spec_l05Meetings_b44 (spec_l05Meetings_l14 a0 m14) (spec_l05Meetings_l44 (spec_l05Meetings_l14 a0 m14) a0 x1 m44) a0 x1 v3_44 v5_44 = some r := h
           refine lpC_step (fun Q54 n54 q54 x54 => ?_)
           refine w_seq (fun Q55 n55 q55 x55 => ?_)
           refine ws _ ?_
           rcases condE h with ⟨b57, h⟩ | ⟨b57, h⟩
           ·refine w_ct (congrArg AV.bool b57) ?_
            simp only [b57, Bool.not_true, Bool.not_false]
            refine w_skip (n55 _ (.inl ?_))
            refine w_seq (fun Q58 n58 q58 x58 => ?_)
            refine w_blk (fun Q59 n59 q59 b59 x59 => ?_)
            obtain ⟨x7, e61, h⟩ := bindE h
            refine w_sdrw rfl (w_absd [(0, .slice (a0.map e_impl_Meeting)), (3, .int .i64 v3_44), (4, .ubox (e_impl_Meeting x1)), (5, .int .i64 v5_44), (100, .bool ((x7.Left == x1.Result) || (x7.Right == x1.Result)))] (fun P hP => ?_) ?_)
            ·rcases Bool.eq_false_or_eq_true (x7.Left == x1.Result) with s62 | s62
             ·simp only [V1.down, simprocAttr, zz1.down, e61, s62]
              refine ⟨okP_D (by kernel_rfl), ?_⟩
              (try simp only [VN.down, simprocAttr, e_impl_Meeting, e61, s62] at hP ⊢); exact hP
             ·simp only [V1.down, simprocAttr, zz1.down, e61, s62]
              refine ⟨okP_D (by kernel_rfl), ?_⟩
              (try simp only [VN.down, simprocAttr, e_impl_Meeting, e61, s62] at hP ⊢); exact hP
            rcases condE h with ⟨b63, h⟩ | ⟨b63, h⟩
            ·refine w_ct (congrArg AV.bool b63) ?_
             simp only [b63, Bool.not_true, Bool.not_false]
             refine ws _ ?_
             exact w_ret (q59 _ (q58 _ (q54 _ (q53 _ (q14 _ (q13 _ (q9 _ (q8 _ (q6 _ (r0 _ (.inl (w_fin [.bool false] rfl (by cases someE h; rfl) (by decide) outs_nil))))))))))))
            ·refine w_cf (congrArg AV.bool b63) ?_
             simp only [b63, Bool.not_true, Bool.not_false]
             refine w_skip (n59 _ (n58 _ (.inl ?_)))
             refine wr _ ?_
             exact n54 _ (.inr ⟨_, weak_eq rfl, ih44 v3_44 (IntKind.i64.wrap (v5_44 + 1)) h⟩)
           ·refine w_cf (congrArg AV.bool b57) ?_
            simp only [b57, Bool.not_true, Bool.not_false]
            refine w_ex (x55 2 _ (x54 2 _ (b53 _ (n14 _ (n13 _ (.inl ?_))))))
            refine wr _ ?_
            exact n9 _ (.inr ⟨_, weak_eq rfl, ih14 (IntKind.i64.wrap (v3_44 + 1)) h⟩)
         obtain ⟨n, h⟩ := limE h
         exact w_loop (.inr ⟨_, weak_eq rfl, L44 n v3_14 0 h⟩)
    ·refine w_cf (congrArg AV.bool b12) ?_
     simp only [b12, Bool.not_true, Bool.not_false]
     refine w_ex (x10 0 _ (x9 0 _ (b8 _ (n6 _ (.inl ?_)))))
     refine ws _ ?_
     exact w_ret (r0 _ (.inl (w_fin [.bool true] rfl (by cases someE h; rfl) (by decide) outs_nil)))
  obtain ⟨n, h⟩ := limE h
  exact w_loop (.inr ⟨_, weak_eq rfl, L14 n 0 h⟩)

theorem ok_spec_l11Actions (a0 : List (List UInt8)) (r : Bool) (h : spec_l11Actions a0 = some r) : OkAt Cc 181 [.slice (a0.map e_str)] (.bool r) [] := by
 refine OkAt.of_wpR (fx := [0]) Cc_ok [.tmp 2] [(0, .slice (a0.map e_str))] Tryz.func181 rfl rfl s181 (Nat.le_of_ble_eq_true rfl) rfl rfl (fun Q0 r0 n0 => ?_)
 refine ws _ ?_
 refine w_seq (fun Q2 n2 q2 x2 => ?_)
 refine ws _ ?_
 refine w_blk (fun Q4 n4 q4 b4 x4 => ?_)
 have L6 : ∀ (n : Nat) (v3_6 : Int), spec_l11Actions_l6 a0 n v3_6 = some r → lpC Cc c181_7 Q4 (stA [(0, .slice (a0.map e_str)), (3, .int .i64 v3_6)]) := by
  intro m6
  induction m6 with
  | zero => intro v3_6 h; cases (show none = some r from h)
  | succ m6 ih6 =>
   intro v3_6 h
   replace h : spec_l11Actions_b6 (spec_l11Actions_l6 a0 m6) a0 v3_6 = some r := h
   refine lpC_step (fun Q5 n5 q5 x5 => ?_)
   refine w_seq (fun Q6 n6 q6 x6 => ?_)
   refine ws _ ?_
   rcases condE h with ⟨b8, h⟩ | ⟨b8, h⟩
   ·refine w_ct (congrArg AV.bool b8) ?_
    simp only [b8, Bool.not_true, Bool.not_false]
    refine w_skip (n6 _ (.inl ?_))
    refine w_seq (fun Q9 n9 q9 x9 => ?_)
    refine w_blk (fun Q10 n10 q10 b10 x10 => ?_)
    obtain ⟨x1, e12, h⟩ := bindE h
    obtain ⟨x2, e13, h⟩ := bindE h
    refine wscf e12 (ok_spec_l01Action x1 _ e13) _ ?_
    rcases condE h with ⟨b14, h⟩ | ⟨b14, h⟩
    ·refine w_ct (congrArg AV.bool b14) ?_
     simp only [b14, Bool.not_true, Bool.not_false]
     refine ws _ ?_
     exact w_ret (q10 _ (q9 _ (q5 _ (q4 _ (q2 _ (r0 _ (.inl (w_fin [.bool false] rfl (by cases someE h; rfl) (by decide) outs_nil))))))))
    ·refine w_cf (congrArg AV.bool b14) ?_
     simp only [b14, Bool.not_true, Bool.not_false]
     refine w_skip (n10 _ (n9 _ (.inl ?_)))
     refine wr _ ?_
     exact n5 _ (.inr ⟨_, weak_eq rfl, ih6 (IntKind.i64.wrap (v3_6 + 1)) h⟩)
   ·refine w_cf (congrArg AV.bool b8) ?_
    simp only [b8, Bool.not_true, Bool.not_false]
    refine w_ex (x6 0 _ (x5 0 _ (b4 _ (n2 _ (.inl ?_)))))
    refine ws _ ?_
    exact w_ret (r0 _ (.inl (w_fin [.bool true] rfl (by cases someE h; rfl) (by decide) outs_nil)))
 obtain ⟨n, h⟩ := limE h
 exact w_loop (.inr ⟨_, weak_eq rfl, L6 n 0 h⟩)

set_option maxHeartbeats 800000 in
theorem ok_spec_l05Names (a0 : List (List UInt8)) (r : Bool) (h : spec_l05Names a0 = some r) : OkAt Cc 130 [.slice (a0.map e_str)] (.bool r) [] := by
 refine OkAt.of_wpR (fx := [0]) Cc_ok [.tmp 2] [(0, .slice (a0.map e_str))] Tryz.func130 rfl rfl s130 (Nat.le_of_ble_eq_true rfl) rfl rfl (fun Q0 r0 n0 => ?_)
 refine ws _ ?_
 refine w_seq (fun Q2 n2 q2 x2 => ?_)
 rcases condE h with ⟨b4, h⟩ | ⟨b4, h⟩
 ·refine wsf b4 _ ?_
  refine w_ct rfl ?_
  refine ws _ ?_
  exact w_ret (q2 _ (r0 _ (.inl (w_fin [.bool false] rfl (by cases someE h; rfl) (by decide) outs_nil))))
 ·obtain ⟨x1, e6, h⟩ := bindE h
  refine w_sreg (w_abs [(0, .slice (a0.map e_str)), (11, .bool (!x1))] (fun P hP => ?_) ?_)
  ·simp only [V0.down, simprocAttr, tt9, tt41, e_str, b4]
   refine w_callg0 (ok_spec_l11Actions a0 _ e6) rfl rfl rfl rfl (.inl (by rfl)) ?_
   simp only [V0.down, simprocAttr, tt9, tt41, e_str, b4]
   (try simp only [VN.down, simprocAttr, e_str, b4] at hP ⊢); exact hP
  rcases condE h with ⟨b7, h⟩ | ⟨b7, h⟩
  ·refine w_ct (congrArg AV.bool b7) ?_
   simp only [b7, Bool.not_true, Bool.not_false]
   refine ws _ ?_
   exact w_ret (q2 _ (r0 _ (.inl (w_fin [.bool false] rfl (by cases someE h; rfl) (by decide) outs_nil))))
  ·refine w_cf (congrArg AV.bool b7) ?_
   simp only [b7, Bool.not_true, Bool.not_false]
   refine w_skip (n2 _ (.inl ?_))
   refine w_seq (fun Q9 n9 q9 x9 => ?_)
   refine ws _ ?_
   refine w_blk (fun Q11 n11 q11 b11 x11 => ?_)
   have L14 : ∀ (n : Nat) (v3_14 : Int), spec_l05Names_l14 a0 n v3_14 = some r → lpC Cc c130_15 Q11 (stA [(0, .slice (a0.map e_str)), (3, .int .i64 v3_14)]) := by
    intro m14
    induction m14 with
    | zero => intro v3_14 h; cases (show none = some r from h)
    | succ m14 ih14 =>
     intro v3_14 h
     replace h : spec_l05Names_b14 (spec_l05Names_l14 a0 m14) a0 v3_14 = some r := h
     refine lpC_step (fun Q12 n12 q12 x12 => ?_)
     refine w_seq (fun Q13 n13 q13 x13 => ?_)
     refine ws _ ?_
     rcases condE h with ⟨b15, h⟩ | ⟨b15, h⟩
     ·refine w_ct (congrArg AV.bool b15) ?_
      simp only [b15, Bool.not_true, Bool.not_false]
      refine w_skip (n13 _ (.inl ?_))
      refine w_seq (fun Q16 n16 q16 x16 => ?_)
      refine w_blk (fun Q17 n17 q17 b17 x17 => ?_)
      obtain ⟨x2, e19, h⟩ := bindE h
      obtain ⟨x3, e20, h⟩ := bindE h
      refine w_sdrw rfl (w_absd [(0, .slice (a0.map e_str)), (3, .int .i64 v3_14), (27, .bool (!(Op.bytesLess x2 x3)))] (fun P hP => ?_) ?_)
      ·simp only [V1.down, simprocAttr, tt9, tt41, e_str, e19, e20]
       refine ⟨okP_D (by kernel_rfl), ?_⟩
       (try simp only [VN.down, simprocAttr, e_str, e19, e20] at hP ⊢); exact hP
      rcases condE h with ⟨b21, h⟩ | ⟨b21, h⟩
      ·refine w_ct (congrArg AV.bool b21) ?_
       simp only [b21, Bool.not_true, Bool.not_false]
       refine ws _ ?_
       exact w_ret (q17 _ (q16 _ (q12 _ (q11 _ (q9 _ (r0 _ (.inl (w_fin [.bool false] rfl (by cases someE h; rfl) (by decide) outs_nil))))))))
      ·refine w_cf (congrArg AV.bool b21) ?_
       simp only [b21, Bool.not_true, Bool.not_false]
       refine w_skip (n17 _ (n16 _ (.inl ?_)))
       refine wr _ ?_
       exact n12 _ (.inr ⟨_, weak_eq rfl, ih14 (IntKind.i64.wrap (v3_14 + 1)) h⟩)
     ·refine w_cf (congrArg AV.bool b15) ?_
      simp only [b15, Bool.not_true, Bool.not_false]
      refine w_ex (x13 0 _ (x12 0 _ (b11 _ (n9 _ (.inl ?_)))))
      refine ws _ ?_
      exact w_ret (r0 _ (.inl (w_fin [.bool true] rfl (by cases someE h; rfl) (by decide) outs_nil)))
   obtain ⟨n, h⟩ := limE h
   exact w_loop (.inr ⟨_, weak_eq rfl, L14 n 1 h⟩)

theorem ok_spec_l05Fault (a0 : impl_System) (r : Int) (h : spec_l05Fault a0 = some r) : OkAt Cc 60 [.ref (e_impl_System a0)] (.int .i64 r) [] := by
 refine OkAt.of_wpR (fx := [0]) Cc_ok [.tmp 2] [(0, .ref (e_impl_System a0))] Tryz.func60 rfl rfl s60 (Nat.le_of_ble_eq_true rfl) rfl rfl (fun Q0 r0 n0 => ?_)
 refine ws _ ?_
 refine w_seq (fun Q2 n2 q2 x2 => ?_)
 obtain ⟨x1, e4, h⟩ := bindE h
 refine wsc (ok_spec_l05Defs a0.Definitions _ e4) _ ?_
 rcases condE h with ⟨b5, h⟩ | ⟨b5, h⟩
 ·refine w_ct (congrArg AV.bool b5) ?_
  simp only [b5, Bool.not_true, Bool.not_false]
  refine ws _ ?_
  exact w_ret (q2 _ (r0 _ (.inl (w_fin [.int .i64 1] rfl (by cases someE h; rfl) (by decide) outs_nil))))
 ·refine w_cf (congrArg AV.bool b5) ?_
  simp only [b5, Bool.not_true, Bool.not_false]
  refine w_skip (n2 _ (.inl ?_))
  refine w_seq (fun Q7 n7 q7 x7 => ?_)
  obtain ⟨x2, e9, h⟩ := bindE h
  refine wsc (ok_spec_l05Components a0 _ e9) _ ?_
  rcases condE h with ⟨b10, h⟩ | ⟨b10, h⟩
  ·refine w_ct (congrArg AV.bool b10) ?_
   simp only [b10, Bool.not_true, Bool.not_false]
   refine ws _ ?_
   exact w_ret (q7 _ (r0 _ (.inl (w_fin [.int .i64 2] rfl (by cases someE h; rfl) (by decide) outs_nil))))
  ·refine w_cf (congrArg AV.bool b10) ?_
   simp only [b10, Bool.not_true, Bool.not_false]
   refine w_skip (n7 _ (.inl ?_))
   refine w_seq (fun Q12 n12 q12 x12 => ?_)
   obtain ⟨x3, e14, h⟩ := bindE h
   refine wsc (ok_spec_l05Meetings a0.Meetings _ e14) _ ?_
   rcases condE h with ⟨b15, h⟩ | ⟨b15, h⟩
   ·refine w_ct (congrArg AV.bool b15) ?_
    simp only [b15, Bool.not_true, Bool.not_false]
    refine ws _ ?_
    exact w_ret (q12 _ (r0 _ (.inl (w_fin [.int .i64 3] rfl (by cases someE h; rfl) (by decide) outs_nil))))
   ·refine w_cf (congrArg AV.bool b15) ?_
    simp only [b15, Bool.not_true, Bool.not_false]
    refine w_skip (n12 _ (.inl ?_))
    refine w_seq (fun Q17 n17 q17 x17 => ?_)
    obtain ⟨x4, e19, h⟩ := bindE h
    refine wsc (ok_spec_l05Names a0.Allowed _ e19) _ ?_
    rcases condE h with ⟨b20, h⟩ | ⟨b20, h⟩
    ·refine w_ct (congrArg AV.bool b20) ?_
     simp only [b20, Bool.not_true, Bool.not_false]
     refine ws _ ?_
     exact w_ret (q17 _ (r0 _ (.inl (w_fin [.int .i64 4] rfl (by cases someE h; rfl) (by decide) outs_nil))))
    ·refine w_cf (congrArg AV.bool b20) ?_
     simp only [b20, Bool.not_true, Bool.not_false]
     refine w_skip (n17 _ (.inl ?_))
     refine w_seq (fun Q22 n22 q22 x22 => ?_)
     obtain ⟨x5, e24, h⟩ := bindE h
     refine wsc (ok_spec_l05Names a0.Hidden _ e24) _ ?_
     rcases condE h with ⟨b25, h⟩ | ⟨b25, h⟩
     ·refine w_ct (congrArg AV.bool b25) ?_
      simp only [b25, Bool.not_true, Bool.not_false]
      refine ws _ ?_
      exact w_ret (q22 _ (r0 _ (.inl (w_fin [.int .i64 5] rfl (by cases someE h; rfl) (by decide) outs_nil))))
     ·refine w_cf (congrArg AV.bool b25) ?_
      simp only [b25, Bool.not_true, Bool.not_false]
      refine w_skip (n22 _ (.inl ?_))
      refine ws _ ?_
      exact w_ret (r0 _ (.inl (w_fin [.int .i64 0] rfl (by cases someE h; rfl) (by decide) outs_nil)))

theorem ok_spec_l05Is (a0 : impl_System) (r : Bool) (h : spec_l05Is a0 = some r) : OkAt Cc 74 [.ref (e_impl_System a0)] (.bool r) [] := by
 refine OkAt.of_wpR (fx := [0]) Cc_ok [.tmp 2] [(0, .ref (e_impl_System a0))] Tryz.func74 rfl rfl s74 (Nat.le_of_ble_eq_true rfl) rfl rfl (fun Q0 r0 n0 => ?_)
 refine ws _ ?_
 obtain ⟨x1, e3, h⟩ := bindE h
 refine wsc (ok_spec_l05Fault a0 _ e3) _ ?_
 exact w_ret (r0 _ (.inl (w_fin [.bool (x1 == 0)] rfl (by cases someE h; rfl) (by decide) outs_nil)))

set_option maxHeartbeats 1600000 in
theorem ok_spec_l07Is (a0 : List impl_Definition) (a1 : impl_Point) (r : Bool) (h : spec_l07Is a0 a1 = some r) : OkAt Cc 153 [.slice (a0.map e_impl_Definition), .ref (e_impl_Point a1)] (.bool r) [] := by
 refine OkAt.of_wpR (fx := [0, 1]) Cc_ok [.tmp 4] [(0, .slice (a0.map e_impl_Definition)), (1, .ref (e_impl_Point a1))] Tryz.func153 rfl rfl s153 (Nat.le_of_ble_eq_true rfl) rfl rfl (fun Q0 r0 n0 => ?_)
 refine ws _ ?_
 refine w_seq (fun Q2 n2 q2 x2 => ?_)
 obtain ⟨x1, e4, h⟩ := bindE h
 refine wsc (ok_spec_l00In a1.Definition 0 (IntKind.i64.wrap ((a0.length : Int) - 1)) _ e4) _ ?_
 rcases condE h with ⟨b5, h⟩ | ⟨b5, h⟩
 ·refine w_ct (congrArg AV.bool b5) ?_
  simp only [b5, Bool.not_true, Bool.not_false]
  refine ws _ ?_
  exact w_ret (q2 _ (r0 _ (.inl (w_fin [.bool false] rfl (by cases someE h; rfl) (by decide) outs_nil))))
 ·refine w_cf (congrArg AV.bool b5) ?_
  simp only [b5, Bool.not_true, Bool.not_false]
  refine w_skip (n2 _ (.inl ?_))
  obtain ⟨x2, e8, h⟩ := bindE h
  refine wsf e8 _ ?_
  refine w_seq (fun Q9 n9 q9 x9 => ?_)
  obtain ⟨x3, e11, h⟩ := bindE h
  rcases condE h with ⟨b12, h⟩ | ⟨b12, h⟩
  ·refine w_sdrw rfl (w_absd [(1, .ref (e_impl_Point a1)), (5, .ubox (e_impl_Definition x2)), (43, .bool true)] (fun P hP => ?_) ?_)
   ·simp only [V1.down, simprocAttr, zz24.down, b12]
    refine w_call1 (ok_spec_l00In a1.Part 0 (IntKind.i64.wrap ((x2.Body.length : Int) - 1)) _ e11) rfl rfl rfl rfl (.inl (by rfl)) ?_
    simp only [V1.down, simprocAttr, zz24.down, b12]
    refine ⟨okP_D (by kernel_rfl), ?_⟩
    (try simp only [VN.down, simprocAttr, zz12.down, b12] at hP ⊢); exact hP
   refine w_ct rfl ?_
   refine ws _ ?_
   exact w_ret (q9 _ (r0 _ (.inl (w_fin [.bool false] rfl (by cases someE h; rfl) (by decide) outs_nil))))
  ·obtain ⟨x4, e14, h⟩ := bindE h
   refine w_sdrw rfl (w_absd [(1, .ref (e_impl_Point a1)), (5, .ubox (e_impl_Definition x2)), (43, .bool (x4.Kind == 5))] (fun P hP => ?_) ?_)
   ·simp only [V1.down, simprocAttr, zz24.down, b12, e14]
    refine w_call1 (ok_spec_l00In a1.Part 0 (IntKind.i64.wrap ((x2.Body.length : Int) - 1)) _ e11) rfl rfl rfl rfl (.inl (by rfl)) ?_
    simp only [V1.down, simprocAttr, zz24.down, b12, e14]
    refine ⟨okP_D (by kernel_rfl), ?_⟩
    (try simp only [VN.down, simprocAttr, zz12.down, b12, e14] at hP ⊢); exact hP
   rcases condE h with ⟨b15, h⟩ | ⟨b15, h⟩
   ·refine w_ct (congrArg AV.bool b15) ?_
    simp only [b15, Bool.not_true, Bool.not_false]
    refine ws _ ?_
    exact w_ret (q9 _ (r0 _ (.inl (w_fin [.bool false] rfl (by cases someE h; rfl) (by decide) outs_nil))))
   ·refine w_cf (congrArg AV.bool b15) ?_
    simp only [b15, Bool.not_true, Bool.not_false]
    refine w_skip (n9 _ (.inl ?_))
    obtain ⟨x5, e18, h⟩ := bindE h
    rcases condE h with ⟨b19, h⟩ | ⟨b19, h⟩
    ·obtain ⟨x6, e20, h⟩ := bindE h
     refine w_sdrw rfl (w_absd [(4, .bool x6)] (fun P hP => ?_) ?_)
     ·simp only [V1.down, simprocAttr, zz13.down, b19]
      refine w_call1 (ok_spec_l05Scope x2 a1.Part _ e18) rfl rfl (by simp only [V1.down, simprocAttr, zz13.down, b19, view_s, view_h, viewH_s, share_s, @shares_map _ e_impl_Part e_impl_Part (fun _ => sh_e_impl_Part _)] <;> rfl) rfl (.inr (by rfl)) ?_
      simp only [V1.down, simprocAttr, zz13.down, b19]
      refine w_callg1 (ok_spec_l03Data a1.Values _ e20) rfl rfl rfl rfl (.inl (by rfl)) ?_
      simp only [V1.down, simprocAttr, zz13.down, b19]
      refine ⟨okP_D (by kernel_rfl), ?_⟩
      (try simp only [VN.down, simprocAttr, zz12.down, b19] at hP ⊢); exact hP
     exact w_ret (r0 _ (.inl (w_fin [.bool x6] rfl (by cases someE h; rfl) (by decide) outs_nil)))
    ·refine w_sdrw rfl (w_absd [(4, .bool false)] (fun P hP => ?_) ?_)
     ·simp only [V1.down, simprocAttr, zz13.down, b19]
      refine w_call1 (ok_spec_l05Scope x2 a1.Part _ e18) rfl rfl (by simp only [V1.down, simprocAttr, zz13.down, b19, view_s, view_h, viewH_s, share_s, @shares_map _ e_impl_Part e_impl_Part (fun _ => sh_e_impl_Part _)] <;> rfl) rfl (.inr (by rfl)) ?_
      simp only [V1.down, simprocAttr, zz13.down, b19]
      refine ⟨okP_D (by kernel_rfl), ?_⟩
      (try simp only [VN.down, simprocAttr, zz12.down, b19] at hP ⊢); exact hP
     exact w_ret (r0 _ (.inl (w_fin [.bool false] rfl (by cases someE h; rfl) (by decide) outs_nil)))

set_option maxHeartbeats 800000 in
theorem ok_spec_l07State (a0 : impl_System) (a1 : List impl_Point) (r : Bool) (h : spec_l07State a0 a1 = some r) : OkAt Cc 85 [.ref (e_impl_System a0), .slice (a1.map e_impl_Point)] (.bool r) [] := by
 refine OkAt.of_wpR (fx := [0, 1]) Cc_ok [.tmp 4] [(0, .ref (e_impl_System a0)), (1, .slice (a1.map e_impl_Point))] Tryz.func85 rfl rfl s85 (Nat.le_of_ble_eq_true rfl) rfl rfl (fun Q0 r0 n0 => ?_)
 refine ws _ ?_
 refine w_seq (fun Q2 n2 q2 x2 => ?_)
 refine ws _ ?_
 rcases condE h with ⟨b4, h⟩ | ⟨b4, h⟩
 ·refine w_ct (congrArg AV.bool b4) ?_
  simp only [b4, Bool.not_true, Bool.not_false]
  refine ws _ ?_
  exact w_ret (q2 _ (r0 _ (.inl (w_fin [.bool false] rfl (by cases someE h; rfl) (by decide) outs_nil))))
 ·refine w_cf (congrArg AV.bool b4) ?_
  simp only [b4, Bool.not_true, Bool.not_false]
  refine w_skip (n2 _ (.inl ?_))
  refine w_seq (fun Q6 n6 q6 x6 => ?_)
  refine ws _ ?_
  refine w_blk (fun Q8 n8 q8 b8 x8 => ?_)
  have L14 : ∀ (n : Nat) (v5_14 : Int), spec_l07State_l14 a0 a1 n v5_14 = some r → lpC Cc c85_15 Q8 (stA [(0, .ref (e_impl_System a0)), (1, .slice (a1.map e_impl_Point)), (5, .int .i64 v5_14)]) := by
   intro m14
   induction m14 with
   | zero => intro v5_14 h; cases (show none = some r from h)
   | succ m14 ih14 =>
    intro v5_14 h
    replace h : spec_l07State_b14 (spec_l07State_l14 a0 a1 m14) a0 a1 v5_14 = some r := h
    refine lpC_step (fun Q9 n9 q9 x9 => ?_)
    refine w_seq (fun Q10 n10 q10 x10 => ?_)
    refine ws _ ?_
    rcases condE h with ⟨b12, h⟩ | ⟨b12, h⟩
    ·refine w_ct (congrArg AV.bool b12) ?_
     simp only [b12, Bool.not_true, Bool.not_false]
     refine w_skip (n10 _ (.inl ?_))
     refine w_seq (fun Q13 n13 q13 x13 => ?_)
     refine w_blk (fun Q14 n14 q14 b14 x14 => ?_)
     obtain ⟨x1, e16, h⟩ := bindE h
     obtain ⟨x2, e17, h⟩ := bindE h
     refine w_sdrw rfl (w_absd [(0, .ref (e_impl_System a0)), (1, .slice (a1.map e_impl_Point)), (5, .int .i64 v5_14), (28, .bool (!x2))] (fun P hP => ?_) ?_)
     ·simp only [V1.down, simprocAttr, zz17.down, e16]
      refine w_call1 (ok_spec_l07Is a0.Definitions x1 _ e17) rfl rfl rfl rfl (.inl (by rfl)) ?_
      simp only [V1.down, simprocAttr, zz17.down, e16]
      refine ⟨okP_D (by kernel_rfl), ?_⟩
      (try simp only [VN.down, simprocAttr, zz10.down, e16] at hP ⊢); exact hP
     rcases condE h with ⟨b18, h⟩ | ⟨b18, h⟩
     ·refine w_ct (congrArg AV.bool b18) ?_
      simp only [b18, Bool.not_true, Bool.not_false]
      refine ws _ ?_
      exact w_ret (q14 _ (q13 _ (q9 _ (q8 _ (q6 _ (r0 _ (.inl (w_fin [.bool false] rfl (by cases someE h; rfl) (by decide) outs_nil))))))))
     ·refine w_cf (congrArg AV.bool b18) ?_
      simp only [b18, Bool.not_true, Bool.not_false]
      refine w_skip (n14 _ (n13 _ (.inl ?_)))
      refine wr _ ?_
      exact n9 _ (.inr ⟨_, weak_eq rfl, ih14 (IntKind.i64.wrap (v5_14 + 1)) h⟩)
    ·refine w_cf (congrArg AV.bool b12) ?_
     simp only [b12, Bool.not_true, Bool.not_false]
     refine w_ex (x10 0 _ (x9 0 _ (b8 _ (n6 _ (.inl ?_)))))
     refine ws _ ?_
     exact w_ret (r0 _ (.inl (w_fin [.bool true] rfl (by cases someE h; rfl) (by decide) outs_nil)))
  obtain ⟨n, h⟩ := limE h
  exact w_loop (.inr ⟨_, weak_eq rfl, L14 n 0 h⟩)

theorem ok_spec_ValidState (a0 : impl_System) (a1 : List impl_Point) (r : Bool) (h : spec_ValidState a0 a1 = some r) : OkAt Cc 35 [e_impl_System a0, .slice (a1.map e_impl_Point)] (.bool r) [] := by
 refine OkAt.of_wpR (fx := [0, 1]) Cc_ok [.tmp 4] [(0, e_impl_System a0), (1, .slice (a1.map e_impl_Point))] Tryz.func35 rfl rfl s35 (Nat.le_of_ble_eq_true rfl) rfl rfl (fun Q0 r0 n0 => ?_)
 refine ws _ ?_
 obtain ⟨x1, e3, h⟩ := bindE h
 rcases condE h with ⟨b4, h⟩ | ⟨b4, h⟩
 ·obtain ⟨x2, e5, h⟩ := bindE h
  refine w_sreg (w_abs [(4, .bool x2)] (fun P hP => ?_) ?_)
  ·refine w_call0 (ok_spec_l05Is a0 _ e3) rfl rfl (by simp only [V0.down, simprocAttr, zz10.down, b4, view_s, view_h, viewH_s, share_s, @shares_map _ e_impl_Definition e_impl_Definition (fun _ => sh_e_impl_Definition _), @shares_map _ e_impl_Component e_impl_Component (fun _ => sh_e_impl_Component _), @shares_map _ e_impl_Meeting e_impl_Meeting (fun _ => sh_e_impl_Meeting _), @shares_map _ e_str e_str (fun _ => sh_e_str _), @shares_map _ e_str e_str (fun _ => sh_e_str _)] <;> rfl) rfl (.inr (by rfl)) ?_
   simp only [V0.down, simprocAttr, zz10.down, b4]
   refine w_callg0 (ok_spec_l07State a0 a1 _ e5) rfl rfl (by simp only [V0.down, simprocAttr, zz10.down, b4, view_s, view_h, viewH_s, share_s, @shares_map _ e_impl_Definition e_impl_Definition (fun _ => sh_e_impl_Definition _), @shares_map _ e_impl_Component e_impl_Component (fun _ => sh_e_impl_Component _), @shares_map _ e_impl_Meeting e_impl_Meeting (fun _ => sh_e_impl_Meeting _), @shares_map _ e_str e_str (fun _ => sh_e_str _), @shares_map _ e_str e_str (fun _ => sh_e_str _)] <;> rfl) rfl (.inr (by rfl)) ?_
   simp only [V0.down, simprocAttr, zz10.down, b4]
   (try simp only [VN.down, simprocAttr, zz10.down, b4] at hP ⊢); exact hP
  exact w_ret (r0 _ (.inl (w_fin [.bool x2] rfl (by cases someE h; rfl) (by decide) outs_nil)))
 ·refine w_sreg (w_abs [(4, .bool false)] (fun P hP => ?_) ?_)
  ·refine w_call0 (ok_spec_l05Is a0 _ e3) rfl rfl (by simp only [V0.down, simprocAttr, zz10.down, b4, view_s, view_h, viewH_s, share_s, @shares_map _ e_impl_Definition e_impl_Definition (fun _ => sh_e_impl_Definition _), @shares_map _ e_impl_Component e_impl_Component (fun _ => sh_e_impl_Component _), @shares_map _ e_impl_Meeting e_impl_Meeting (fun _ => sh_e_impl_Meeting _), @shares_map _ e_str e_str (fun _ => sh_e_str _), @shares_map _ e_str e_str (fun _ => sh_e_str _)] <;> rfl) rfl (.inr (by rfl)) ?_
   simp only [V0.down, simprocAttr, zz10.down, b4]
   (try simp only [VN.down, simprocAttr, zz10.down, b4] at hP ⊢); exact hP
  exact w_ret (r0 _ (.inl (w_fin [.bool false] rfl (by cases someE h; rfl) (by decide) outs_nil)))

theorem ok_impl_within (a0 : Int) (a1 : Int) (a2 : Int) (r : Bool) (h : impl_within a0 a1 a2 = some r) : OkAt Cc 65 [.int .i64 a0, .int .i64 a1, .int .i64 a2] (.bool r) [] := by
 refine OkAt.of_wpR (fx := [0, 1, 2]) Cc_ok [.tmp 6] [(0, .int .i64 a0), (1, .int .i64 a1), (2, .int .i64 a2)] Tryz.func65 rfl rfl s65 (Nat.le_of_ble_eq_true rfl) rfl rfl (fun Q0 r0 n0 => ?_)
 refine ws _ ?_
 refine w_sreg (w_abs [(6, .bool ((decide (a1 ≤ a0)) && (decide (a0 ≤ a2))))] (fun P hP => ?_) ?_)
 ·rcases Bool.eq_false_or_eq_true (decide (a1 ≤ a0)) with s3 | s3
  ·simp only [V0.down, simprocAttr, s3]
   (try simp only [VN.down, simprocAttr, s3] at hP ⊢); exact hP
  ·simp only [V0.down, simprocAttr, s3]
   (try simp only [VN.down, simprocAttr, s3] at hP ⊢); exact hP
 exact w_ret (r0 _ (.inl (w_fin [.bool ((decide (a1 ≤ a0)) && (decide (a0 ≤ a2)))] rfl (by cases someE h; rfl) (by decide) outs_nil)))

theorem ok_impl_parametersOk_c1 (a0 : impl_Definition) (r : Bool) (h : impl_parametersOk_c1 a0 = some r) : OkAt Cc 184 [e_impl_Definition a0] (.bool r) [] := by
 refine OkAt.of_wpR (fx := [0]) Cc_ok [.tmp 2] [(0, e_impl_Definition a0)] Tryz.func184 rfl rfl s184 (Nat.le_of_ble_eq_true rfl) rfl rfl (fun Q0 r0 n0 => ?_)
 refine ws _ ?_
 obtain ⟨x1, e3, h⟩ := bindE h
 refine wsc (ok_impl_within a0.Parameters 0 3 _ e3) _ ?_
 exact w_ret (r0 _ (.inl (w_fin [.bool (!x1)] rfl (by cases someE h; rfl) (by decide) outs_nil)))

theorem ok_slices_IndexFunc_impl_Definition__impl_parametersOk_c1 (a0 : List impl_Definition) (r : Int) (h : slices_IndexFunc_impl_Definition__impl_parametersOk_c1 a0 = some r) : OkAt Cc 186 [.slice (a0.map e_impl_Definition), .fn 184 []] (.int .i64 r) [] := by
 refine OkAt.of_wpR (fx := [0, 1]) Cc_ok [.tmp 4] [(0, .slice (a0.map e_impl_Definition)), (1, .fn 184 [])] Tryz.func186 rfl rfl s186 (Nat.le_of_ble_eq_true rfl) rfl rfl (fun Q0 r0 n0 => ?_)
 refine ws _ ?_
 refine w_seq (fun Q2 n2 q2 x2 => ?_)
 refine ws _ ?_
 refine w_blk (fun Q4 n4 q4 b4 x4 => ?_)
 have L6 : ∀ (n : Nat) (v8_6 : Int), slices_IndexFunc_impl_Definition__impl_parametersOk_c1_l6 a0 n v8_6 = some r → lpC Cc c186_7 Q4 (stA [(0, .slice (a0.map e_impl_Definition)), (1, .fn 184 []), (7, .int .i64 (a0.length : Int)), (8, .int .i64 v8_6)]) := by
  intro m6
  induction m6 with
  | zero => intro v8_6 h; cases (show none = some r from h)
  | succ m6 ih6 =>
   intro v8_6 h
   replace h : slices_IndexFunc_impl_Definition__impl_parametersOk_c1_b6 (slices_IndexFunc_impl_Definition__impl_parametersOk_c1_l6 a0 m6) a0 v8_6 = some r := h
   refine lpC_step (fun Q5 n5 q5 x5 => ?_)
   refine ws _ ?_
   refine w_seq (fun Q7 n7 q7 x7 => ?_)
   rcases condE h with ⟨b8, h⟩ | ⟨b8, h⟩
   ·refine w_ct (congrArg AV.bool b8) ?_
    simp only [b8, Bool.not_true, Bool.not_false]
    refine w_skip (n7 _ (.inl ?_))
    refine w_seq (fun Q9 n9 q9 x9 => ?_)
    refine w_blk (fun Q10 n10 q10 b10 x10 => ?_)
    refine ws _ ?_
    obtain ⟨x1, e13, h⟩ := bindE h
    obtain ⟨x2, e14, h⟩ := bindE h
    refine wscf e13 (ok_impl_parametersOk_c1 x1 _ e14) _ ?_
    rcases condE h with ⟨b15, h⟩ | ⟨b15, h⟩
    ·refine w_ct (congrArg AV.bool b15) ?_
     simp only [b15, Bool.not_true, Bool.not_false]
     refine ws _ ?_
     exact w_ret (q10 _ (q9 _ (q5 _ (q4 _ (q2 _ (r0 _ (.inl (w_fin [.int .i64 v8_6] rfl (by cases someE h; rfl) (by decide) outs_nil))))))))
    ·refine w_cf (congrArg AV.bool b15) ?_
     simp only [b15, Bool.not_true, Bool.not_false]
     refine w_skip (n10 _ (n9 _ (.inl ?_)))
     refine wr _ ?_
     exact n5 _ (.inr ⟨_, weak_eq rfl, ih6 (IntKind.i64.wrap (v8_6 + 1)) h⟩)
   ·refine w_cf (congrArg AV.bool b8) ?_
    simp only [b8, Bool.not_true, Bool.not_false]
    refine w_ex (x7 0 _ (x5 0 _ (b4 _ (n2 _ (.inl ?_)))))
    refine ws _ ?_
    exact w_ret (r0 _ (.inl (w_fin [.int .i64 (-1)] rfl (by cases someE h; rfl) (by decide) outs_nil)))
 obtain ⟨n, h⟩ := limE h
 exact w_loop (.inr ⟨_, weak_eq rfl, L6 n 0 h⟩)

theorem ok_slices_ContainsFunc_impl_Definition__impl_parametersOk_c1 (a0 : List impl_Definition) (r : Bool) (h : slices_ContainsFunc_impl_Definition__impl_parametersOk_c1 a0 = some r) : OkAt Cc 183 [.slice (a0.map e_impl_Definition), .fn 184 []] (.bool r) [] := by
 refine OkAt.of_wpR (fx := [0, 1]) Cc_ok [.tmp 4] [(0, .slice (a0.map e_impl_Definition)), (1, .fn 184 [])] Tryz.func183 rfl rfl s183 (Nat.le_of_ble_eq_true rfl) rfl rfl (fun Q0 r0 n0 => ?_)
 refine ws _ ?_
 obtain ⟨x1, e3, h⟩ := bindE h
 refine wsc (ok_slices_IndexFunc_impl_Definition__impl_parametersOk_c1 a0 _ e3) _ ?_
 exact w_ret (r0 _ (.inl (w_fin [.bool (decide (0 ≤ x1))] rfl (by cases someE h; rfl) (by decide) outs_nil)))

theorem ok_impl_parametersOk (a0 : List impl_Definition) (r : Bool) (h : impl_parametersOk a0 = some r) : OkAt Cc 133 [.slice (a0.map e_impl_Definition)] (.bool r) [] := by
 refine OkAt.of_wpR (fx := [0]) Cc_ok [.tmp 2] [(0, .slice (a0.map e_impl_Definition))] Tryz.func133 rfl rfl s133 (Nat.le_of_ble_eq_true rfl) rfl rfl (fun Q0 r0 n0 => ?_)
 refine ws _ ?_
 obtain ⟨x1, e3, h⟩ := bindE h
 refine wsc (ok_slices_ContainsFunc_impl_Definition__impl_parametersOk_c1 a0 _ e3) _ ?_
 exact w_ret (r0 _ (.inl (w_fin [.bool (!x1)] rfl (by cases someE h; rfl) (by decide) outs_nil)))

theorem ok_impl_isDigit (a0 : UInt8) (r : Bool) (h : impl_isDigit a0 = some r) : OkAt Cc 185 [.int .u8 (a0.toNat : Int)] (.bool r) [] := by
 refine OkAt.of_wpR (fx := [0]) Cc_ok [.tmp 2] [(0, .int .u8 (a0.toNat : Int))] Tryz.func185 rfl rfl s185 (Nat.le_of_ble_eq_true rfl) rfl rfl (fun Q0 r0 n0 => ?_)
 refine ws _ ?_
 refine w_sreg (w_abs [(2, .bool ((decide (48 ≤ (a0.toNat : Int))) && (decide ((a0.toNat : Int) ≤ 57))))] (fun P hP => ?_) ?_)
 ·rcases Bool.eq_false_or_eq_true (decide (48 ≤ (a0.toNat : Int))) with s3 | s3
  ·simp only [V0.down, simprocAttr, s3]
   (try simp only [VN.down, simprocAttr, s3] at hP ⊢); exact hP
  ·simp only [V0.down, simprocAttr, s3]
   (try simp only [VN.down, simprocAttr, s3] at hP ⊢); exact hP
 exact w_ret (r0 _ (.inl (w_fin [.bool ((decide (48 ≤ (a0.toNat : Int))) && (decide ((a0.toNat : Int) ≤ 57)))] rfl (by cases someE h; rfl) (by decide) outs_nil)))

set_option maxHeartbeats 600000 in
theorem ok_impl_IsName (a0 : List UInt8) (r : Bool) (h : impl_IsName a0 = some r) : OkAt Cc 134 [.str a0] (.bool r) [] := by
 refine OkAt.of_wpR (fx := [0]) Cc_ok [.tmp 2] [(0, .str a0)] Tryz.func134 rfl rfl s134 (Nat.le_of_ble_eq_true rfl) rfl rfl (fun Q0 r0 n0 => ?_)
 refine ws _ ?_
 refine w_seq (fun Q2 n2 q2 x2 => ?_)
 refine ws _ ?_
 refine w_blk (fun Q4 n4 q4 b4 x4 => ?_)
 have L6 : ∀ (n : Nat) (v7_6 : Int), impl_IsName_l6 a0 n v7_6 = some r → lpC Cc c134_7 Q4 (stA [(0, .str a0), (6, .int .i64 (a0.length : Int)), (7, .int .i64 v7_6)]) := by
  intro m6
  induction m6 with
  | zero => intro v7_6 h; cases (show none = some r from h)
  | succ m6 ih6 =>
   intro v7_6 h
   replace h : impl_IsName_b6 (impl_IsName_l6 a0 m6) a0 v7_6 = some r := h
   refine lpC_step (fun Q5 n5 q5 x5 => ?_)
   refine ws _ ?_
   refine w_seq (fun Q7 n7 q7 x7 => ?_)
   rcases condE h with ⟨b8, h⟩ | ⟨b8, h⟩
   ·refine w_ct (congrArg AV.bool b8) ?_
    simp only [b8, Bool.not_true, Bool.not_false]
    refine w_skip (n7 _ (.inl ?_))
    refine w_seq (fun Q9 n9 q9 x9 => ?_)
    refine w_blk (fun Q10 n10 q10 b10 x10 => ?_)
    refine ws _ ?_
    obtain ⟨x1, e13, h⟩ := bindE h
    refine w_sreg (w_abs [(0, .str a0), (3, .int .i64 v7_6), (4, .bool ((decide (97 ≤ (x1.toNat : Int))) && (decide ((x1.toNat : Int) ≤ 122)))), (6, .int .i64 (a0.length : Int)), (7, .int .i64 v7_6)] (fun P hP => ?_) ?_)
    ·rcases Bool.eq_false_or_eq_true (decide (97 ≤ (x1.toNat : Int))) with s14 | s14
     ·simp only [V0.down, simprocAttr, tt9, e13, s14]
      (try simp only [VN.down, simprocAttr, e13, s14] at hP ⊢); exact hP
     ·simp only [V0.down, simprocAttr, tt9, e13, s14]
      (try simp only [VN.down, simprocAttr, e13, s14] at hP ⊢); exact hP
    rcases condE h with ⟨b16, h⟩ | ⟨b16, h⟩
    ·rcases condE h with ⟨b17, h⟩ | ⟨b17, h⟩
     ·refine wsf (And.intro b16 b17) _ ?_
      refine w_ct rfl ?_
      refine ws _ ?_
      exact w_ret (q10 _ (q9 _ (q5 _ (q4 _ (q2 _ (r0 _ (.inl (w_fin [.bool false] rfl (by cases someE h; rfl) (by decide) outs_nil))))))))
     ·obtain ⟨x2, e19, h⟩ := bindE h
      refine w_sreg (w_abs [(0, .str a0), (6, .int .i64 (a0.length : Int)), (7, .int .i64 v7_6), (32, .bool (!x2))] (fun P hP => ?_) ?_)
      ·simp only [V0.down, simprocAttr, tt9, b16, b17, e13]
       refine w_callg0 (ok_impl_isDigit x1 _ e19) rfl rfl rfl rfl (.inl (by rfl)) ?_
       simp only [V0.down, simprocAttr, tt9, b16, b17, e13]
       (try simp only [VN.down, simprocAttr, b16, b17, e13] at hP ⊢); exact hP
      rcases condE h with ⟨b20, h⟩ | ⟨b20, h⟩
      ·refine w_ct (congrArg AV.bool b20) ?_
       simp only [b20, Bool.not_true, Bool.not_false]
       refine ws _ ?_
       exact w_ret (q10 _ (q9 _ (q5 _ (q4 _ (q2 _ (r0 _ (.inl (w_fin [.bool false] rfl (by cases someE h; rfl) (by decide) outs_nil))))))))
      ·refine w_cf (congrArg AV.bool b20) ?_
       simp only [b20, Bool.not_true, Bool.not_false]
       refine w_skip (n10 _ (n9 _ (.inl ?_)))
       refine wr _ ?_
       exact n5 _ (.inr ⟨_, weak_eq rfl, ih6 (IntKind.i64.wrap (v7_6 + 1)) h⟩)
    ·refine wsf b16 _ ?_
     refine w_cf rfl ?_
     refine w_skip (n10 _ (n9 _ (.inl ?_)))
     refine wr _ ?_
     exact n5 _ (.inr ⟨_, weak_eq rfl, ih6 (IntKind.i64.wrap (v7_6 + 1)) h⟩)
   ·refine w_cf (congrArg AV.bool b8) ?_
    simp only [b8, Bool.not_true, Bool.not_false]
    refine w_ex (x7 0 _ (x5 0 _ (b4 _ (n2 _ (.inl ?_)))))
    refine w_sreg (w_abs [(2, .bool ((decide (1 ≤ (a0.length : Int))) && (decide ((a0.length : Int) ≤ 10))))] (fun P hP => ?_) ?_)
    ·rcases Bool.eq_false_or_eq_true (decide (1 ≤ (a0.length : Int))) with s25 | s25
     ·simp only [V0.down, simprocAttr, tt9, s25]
      (try simp only [VN.down, simprocAttr, s25] at hP ⊢); exact hP
     ·simp only [V0.down, simprocAttr, tt9, s25]
      (try simp only [VN.down, simprocAttr, s25] at hP ⊢); exact hP
    exact w_ret (r0 _ (.inl (w_fin [.bool ((decide (1 ≤ (a0.length : Int))) && (decide ((a0.length : Int) ≤ 10)))] rfl (by cases someE h; rfl) (by decide) outs_nil)))
 obtain ⟨n, h⟩ := limE h
 exact w_loop (.inr ⟨_, weak_eq rfl, L6 n 0 h⟩)

theorem ok_impl_definitionNamed_c1_2 (a0 : impl_Definition) (a1 : List UInt8) (r : Bool) (h : impl_definitionNamed_c1_2 a0 a1 = some r) : OkAt Cc 187 [e_impl_Definition a0, .ref (.str a1)] (.bool r) [] := by
 refine OkAt.of_wpR (fx := [0, 1]) Cc_ok [.tmp 3] [(0, e_impl_Definition a0), (1, .ref (.str a1))] Tryz.func187 rfl rfl s187 (Nat.le_of_ble_eq_true rfl) rfl rfl (fun Q0 r0 n0 => ?_)
 refine ws _ ?_
 refine ws _ ?_
 exact w_ret (r0 _ (.inl (w_fin [.bool (a0.Name == a1)] rfl (by cases someE h; rfl) (by decide) outs_nil)))

theorem ok_slices_IndexFunc_impl_Definition__impl_definitionNamed_c1 (a0 : List impl_Definition) (a1 : List UInt8) (r : Int) (h : slices_IndexFunc_impl_Definition__impl_definitionNamed_c1 a0 a1 = some r) : OkAt Cc 186 [.slice (a0.map e_impl_Definition), .fn 187 [.ref (.str a1)]] (.int .i64 r) [] := by
 refine OkAt.of_wpR (fx := [0, 1]) Cc_ok [.tmp 4] [(0, .slice (a0.map e_impl_Definition)), (1, .fn 187 [.ref (.str a1)])] Tryz.func186 rfl rfl s186v2 (Nat.le_of_ble_eq_true rfl) rfl rfl (fun Q0 r0 n0 => ?_)
 refine ws _ ?_
 refine w_seq (fun Q2 n2 q2 x2 => ?_)
 refine ws _ ?_
 refine w_blk (fun Q4 n4 q4 b4 x4 => ?_)
 have L6 : ∀ (n : Nat) (v8_6 : Int), slices_IndexFunc_impl_Definition__impl_definitionNamed_c1_l6 a0 a1 n v8_6 = some r → lpC Cc c186v2_7 Q4 (stA [(0, .slice (a0.map e_impl_Definition)), (1, .fn 187 [.ref (.str a1)]), (7, .int .i64 (a0.length : Int)), (8, .int .i64 v8_6)]) := by
  intro m6
  induction m6 with
  | zero => intro v8_6 h; cases (show none = some r from h)
  | succ m6 ih6 =>
   intro v8_6 h
   replace h : slices_IndexFunc_impl_Definition__impl_definitionNamed_c1_b6 (slices_IndexFunc_impl_Definition__impl_definitionNamed_c1_l6 a0 a1 m6) a0 a1 v8_6 = some r := h
   refine lpC_step (fun Q5 n5 q5 x5 => ?_)
   refine ws _ ?_
   refine w_seq (fun Q7 n7 q7 x7 => ?_)
   rcases condE h with ⟨b8, h⟩ | ⟨b8, h⟩
   ·refine w_ct (congrArg AV.bool b8) ?_
    simp only [b8, Bool.not_true, Bool.not_false]
    refine w_skip (n7 _ (.inl ?_))
    refine w_seq (fun Q9 n9 q9 x9 => ?_)
    refine w_blk (fun Q10 n10 q10 b10 x10 => ?_)
    refine ws _ ?_
    obtain ⟨x1, e13, h⟩ := bindE h
    obtain ⟨x2, e14, h⟩ := bindE h
    refine wscf e13 (ok_impl_definitionNamed_c1_2 x1 a1 _ e14) _ ?_
    rcases condE h with ⟨b15, h⟩ | ⟨b15, h⟩
    ·refine w_ct (congrArg AV.bool b15) ?_
     simp only [b15, Bool.not_true, Bool.not_false]
     refine ws _ ?_
     exact w_ret (q10 _ (q9 _ (q5 _ (q4 _ (q2 _ (r0 _ (.inl (w_fin [.int .i64 v8_6] rfl (by cases someE h; rfl) (by decide) outs_nil))))))))
    ·refine w_cf (congrArg AV.bool b15) ?_
     simp only [b15, Bool.not_true, Bool.not_false]
     refine w_skip (n10 _ (n9 _ (.inl ?_)))
     refine wr _ ?_
     exact n5 _ (.inr ⟨_, weak_eq rfl, ih6 (IntKind.i64.wrap (v8_6 + 1)) h⟩)
   ·refine w_cf (congrArg AV.bool b8) ?_
    simp only [b8, Bool.not_true, Bool.not_false]
    refine w_ex (x7 0 _ (x5 0 _ (b4 _ (n2 _ (.inl ?_)))))
    refine ws _ ?_
    exact w_ret (r0 _ (.inl (w_fin [.int .i64 (-1)] rfl (by cases someE h; rfl) (by decide) outs_nil)))
 obtain ⟨n, h⟩ := limE h
 exact w_loop (.inr ⟨_, weak_eq rfl, L6 n 0 h⟩)

theorem ok_impl_definitionNamed (a0 : List impl_Definition) (a1 : List UInt8) (r : Int) (h : impl_definitionNamed a0 a1 = some r) : OkAt Cc 135 [.slice (a0.map e_impl_Definition), .str a1] (.int .i64 r) [] := by
 refine OkAt.of_wpR (fx := [0, 1]) Cc_ok [.tmp 4] [(0, .slice (a0.map e_impl_Definition)), (1, .str a1)] Tryz.func135 rfl rfl s135 (Nat.le_of_ble_eq_true rfl) rfl rfl (fun Q0 r0 n0 => ?_)
 refine ws _ ?_
 obtain ⟨x1, e3, h⟩ := bindE h
 refine w_sreg (w_abs [(4, .int .i64 x1)] (fun P hP => ?_) ?_)
 ·simp only [V0.down, simprocAttr, zz0.down]
  refine w_call0 (ok_slices_IndexFunc_impl_Definition__impl_definitionNamed_c1 a0 a1 _ e3) rfl rfl (by simp only [V0.down, simprocAttr, zz0.down, view_s, view_h, viewH_s, share_s] <;> rfl) rfl (.inr (by rfl)) ?_
  simp only [V0.down, simprocAttr, zz0.down]
  (try simp only [VN.down, simprocAttr, zz0.down] at hP ⊢); exact hP
 exact w_ret (r0 _ (.inl (w_fin [.int .i64 x1] rfl (by cases someE h; rfl) (by decide) outs_nil)))

theorem ok_impl_Part_follow (a0 : impl_Part) (r : Int) (h : impl_Part_follow a0 = some r) : OkAt Cc 210 [e_impl_Part a0] (.int .i64 r) [] := by
 refine OkAt.of_wpR (fx := [0]) Cc_ok [.tmp 2] [(0, e_impl_Part a0)] Tryz.func210 rfl rfl s210 (Nat.le_of_ble_eq_true rfl) rfl rfl (fun Q0 r0 n0 => ?_)
 refine ws _ ?_
 refine w_seq (fun Q2 n2 q2 x2 => ?_)
 refine ws _ ?_
 refine w_blk (fun Q4 n4 q4 b4 x4 => ?_)
 have K16 : ∀ (v5_16 : Bool), impl_Part_follow_k16 a0 v5_16 = some r → wpC Cc c210_16 Q4 (stA [(4, .int .i64 a0.Kind), (5, .bool v5_16)]) := by
  intro v5_16 h
  rcases condE h with ⟨b6, h⟩ | ⟨b6, h⟩
  ·refine w_ct (congrArg AV.bool b6) ?_
   simp only [b6, Bool.not_true, Bool.not_false]
   refine ws _ ?_
   exact w_ret (q4 _ (q2 _ (r0 _ (.inl (w_fin [.int .i64 1] rfl (by cases someE h; rfl) (by decide) outs_nil)))))
  ·refine w_cf (congrArg AV.bool b6) ?_
   simp only [b6, Bool.not_true, Bool.not_false]
   refine ws _ ?_
   rcases condE h with ⟨b9, h⟩ | ⟨b9, h⟩
   ·refine w_ct (congrArg AV.bool b9) ?_
    simp only [b9, Bool.not_true, Bool.not_false]
    refine ws _ ?_
    exact w_ret (q4 _ (q2 _ (r0 _ (.inl (w_fin [.int .i64 2] rfl (by cases someE h; rfl) (by decide) outs_nil)))))
   ·refine w_cf (congrArg AV.bool b9) ?_
    simp only [b9, Bool.not_true, Bool.not_false]
    refine w_skip (n4 _ (n2 _ (.inl ?_)))
    refine ws _ ?_
    exact w_ret (r0 _ (.inl (w_fin [.int .i64 0] rfl (by cases someE h; rfl) (by decide) outs_nil)))
 refine w_seq (fun Q5 n5 q5 x5 => ?_)
 refine ws _ ?_
 rcases condE h with ⟨b13, h⟩ | ⟨b13, h⟩
 ·refine w_ct (congrArg AV.bool b13) ?_
  simp only [b13, Bool.not_true, Bool.not_false]
  exact w_skip (n5 _ (.inr ⟨_, weak_eq rfl, K16 true h⟩))
 ·refine w_cf (congrArg AV.bool b13) ?_
  simp only [b13, Bool.not_true, Bool.not_false]
  refine ws _ ?_
  rcases condE h with ⟨b15, h⟩ | ⟨b15, h⟩
  ·refine w_ct (congrArg AV.bool b15) ?_
   simp only [b15, Bool.not_true, Bool.not_false]
   exact w_skip (n5 _ (.inr ⟨_, weak_eq rfl, K16 true h⟩))
  ·refine w_cf (congrArg AV.bool b15) ?_
   simp only [b15, Bool.not_true, Bool.not_false]
   refine wr _ ?_
   exact n5 _ (.inr ⟨_, weak_eq rfl, K16 (a0.Kind == 4) h⟩)

theorem ok_impl_Definition_end (a0 : impl_Definition) (a1 : Int) (r : Int) (h : impl_Definition_end a0 a1 = some r) : OkAt Cc 188 [e_impl_Definition a0, .int .i64 a1] (.int .i64 r) [] := by
 refine OkAt.of_wpR (fx := [0]) Cc_ok [.tmp 4] [(0, e_impl_Definition a0), (1, .int .i64 a1)] Tryz.func188 rfl rfl s188 (Nat.le_of_ble_eq_true rfl) rfl rfl (fun Q0 r0 n0 => ?_)
 refine ws _ ?_
 refine w_seq (fun Q2 n2 q2 x2 => ?_)
 refine ws _ ?_
 refine w_blk (fun Q4 n4 q4 b4 x4 => ?_)
 have L6 : ∀ (n : Nat) (v1_6 : Int) (v5_6 : Int), impl_Definition_end_l6 a0 n v1_6 v5_6 = some r → lpC Cc c188_7 Q4 (stA [(1, .int .i64 v1_6), (2, .ubox (e_impl_Definition a0)), (5, .int .i64 v5_6)]) := by
  intro m6
  induction m6 with
  | zero => intro v1_6 v5_6 h; cases (show none = some r from h)
  | succ m6 ih6 =>
   intro v1_6 v5_6 h
   replace h : impl_Definition_end_b6 (impl_Definition_end_l6 a0 m6) a0 v1_6 v5_6 = some r := h
   refine lpC_step (fun Q5 n5 q5 x5 => ?_)
   refine w_seq (fun Q6 n6 q6 x6 => ?_)
   refine ws _ ?_
   rcases condE h with ⟨b8, h⟩ | ⟨b8, h⟩
   ·refine w_ct (congrArg AV.bool b8) ?_
    simp only [b8, Bool.not_true, Bool.not_false]
    refine w_skip (n6 _ (.inl ?_))
    refine w_seq (fun Q9 n9 q9 x9 => ?_)
    refine w_blk (fun Q10 n10 q10 b10 x10 => ?_)
    refine w_seq (fun Q11 n11 q11 x11 => ?_)
    refine ws _ ?_
    rcases condE h with ⟨b13, h⟩ | ⟨b13, h⟩
    ·refine w_ct (congrArg AV.bool b13) ?_
     simp only [b13, Bool.not_true, Bool.not_false]
     refine ws _ ?_
     exact w_ret (q11 _ (q10 _ (q9 _ (q5 _ (q4 _ (q2 _ (r0 _ (.inl (w_fin [.int .i64 (-1)] rfl (by cases someE h; rfl) (by decide) outs_nil)))))))))
    ·refine w_cf (congrArg AV.bool b13) ?_
     simp only [b13, Bool.not_true, Bool.not_false]
     refine w_skip (n11 _ (.inl ?_))
     obtain ⟨x1, e16, h⟩ := bindE h
     obtain ⟨x2, e17, h⟩ := bindE h
     refine wrcf e16 (ok_impl_Part_follow x1 _ e17) _ ?_
     refine n10 _ (n9 _ (.inl ?_))
     refine wr _ ?_
     exact n5 _ (.inr ⟨_, weak_eq rfl, ih6 (IntKind.i64.wrap (v1_6 + 1)) (IntKind.i64.wrap (v5_6 + (IntKind.i64.wrap (x2 - 1)))) h⟩)
   ·refine w_cf (congrArg AV.bool b8) ?_
    simp only [b8, Bool.not_true, Bool.not_false]
    refine w_ex (x6 0 _ (x5 0 _ (b4 _ (n2 _ (.inl ?_)))))
    refine ws _ ?_
    exact w_ret (r0 _ (.inl (w_fin [.int .i64 v1_6] rfl (by cases someE h; rfl) (by decide) outs_nil)))
 obtain ⟨n, h⟩ := limE h
 exact w_loop (.inr ⟨_, weak_eq rfl, L6 n a1 1 h⟩)

theorem ok_impl_Definition_places_c1_f (rec78 : Int → impl_place → (List impl_place) → impl_Definition → Option (Int × (List impl_place))) (hrec78 : ∀ (a0 : Int) (a1 : impl_place) (a2 : List impl_place) (a3 : impl_Definition) (r : Int × (List impl_place)), rec78 a0 a1 a2 a3 = some r → OkSelf Cc 209 2 4 [.int .i64 a0, e_impl_place a1, .ubox (.uslice 2 (a2.map e_impl_place)), .ref (e_impl_Definition a3), .ref (.hole)] (.int .i64 r.1) [.hole, .hole, .ubox (.uslice 2 (r.2.map e_impl_place)), .hole, .hole]) (a0 : Int) (a1 : impl_place) (a2 : List impl_place) (a3 : impl_Definition) (r : Int × (List impl_place)) (h : impl_Definition_places_c1_f rec78 a0 a1 a2 a3 = some r) : OkSelf Cc 209 2 4 [.int .i64 a0, e_impl_place a1, .ubox (.uslice 2 (a2.map e_impl_place)), .ref (e_impl_Definition a3), .ref (.hole)] (.int .i64 r.1) [.hole, .hole, .ubox (.uslice 2 (r.2.map e_impl_place)), .hole, .hole] := by
 refine OkSelf.of_wpR (fx := [0, 1, 2, 3, 4]) Cc_ok [.tmp 7] [(0, .int .i64 a0), (1, e_impl_place a1), (2, .ubox (.uslice 2 (a2.map e_impl_place))), (3, .ref (e_impl_Definition a3)), (4, .ref (.hole))] Tryz.func209 rfl rfl s209 (Nat.le_of_ble_eq_true rfl) hk209 rfl rfl (fun Q0 r0 n0 => ?_)
 refine ws _ ?_
 obtain ⟨x1, e3, h⟩ := bindE h
 refine w_sreg (w_abs [(0, .int .i64 a0), (2, .ubox (.uslice 2 ((List.set a2 (Int.toNat a0) a1).map e_impl_place))), (3, .ref (e_impl_Definition a3)), (4, .ref (.hole)), (6, .ubox (e_impl_place a1))] (fun P hP => ?_) ?_)
 ·simp only [V0.down, simprocAttr, tt2, tt4, tt204, tt205, e_impl_Definition, e_impl_Part, e_impl_Term, e_impl_place, e_s_impl_Term, e3, getI_get e3, own_s, stoS]
  (try simp only [VN.down, simprocAttr, zz5.down, e3, getI_get e3, own_s, stoS] at hP ⊢); exact hP
 obtain ⟨x2, e5, h⟩ := bindE h
 refine wsf e5 [(0, .int .i64 a0), (2, .ubox (.uslice 2 ((List.set a2 (Int.toNat a0) a1).map e_impl_place))), (3, .ref (e_impl_Definition a3)), (4, .ref (.hole)), (6, .ubox (e_impl_place a1)), (8, .ubox (e_impl_Part x2))] ?_
 refine wsf (show ∀ s, bld Cc s 204 [(0, .int .i64 a1.scope), (1, .bool (x2.Kind == 1))] = some (.agg [.int .i64 a1.scope, .bool (x2.Kind == 1)], s) from fun s => by kernel_rfl) [(0, .int .i64 a0), (2, .ubox (.uslice 2 ((List.set a2 (Int.toNat a0) a1).map e_impl_place))), (3, .ref (e_impl_Definition a3)), (4, .ref (.hole)), (8, .ubox (e_impl_Part x2)), (9, .ubox (.agg [.int .i64 a1.scope, .bool (x2.Kind == 1)]))] ?_
 have K14 : ∀ (v9_14 : Int), impl_Definition_places_c1_k14 rec78 a0 a1 a2 a3 x2 v9_14 = some r → wpC Cc c209_14 Q0 (stA [(0, .int .i64 a0), (2, .ubox (.uslice 2 ((List.set a2 (Int.toNat a0) a1).map e_impl_place))), (3, .ref (e_impl_Definition a3)), (4, .ref (.hole)), (8, .ubox (e_impl_Part x2)), (9, .ubox (.agg [.int .i64 v9_14, .bool (x2.Kind == 1)]))]) := by
  intro v9_14 h
  refine ws [(2, .ubox (.uslice 2 ((List.set a2 (Int.toNat a0) a1).map e_impl_place))), (3, .ref (e_impl_Definition a3)), (4, .ref (.hole)), (8, .ubox (e_impl_Part x2)), (9, .ubox (.agg [.int .i64 v9_14, .bool (x2.Kind == 1)])), (10, .int .i64 (IntKind.i64.wrap (a0 + 1)))] ?_
  refine w_seq (fun Q9 n9 q9 x9 => ?_)
  obtain ⟨x3, e11, h⟩ := bindE h
  refine wsc (ok_impl_Part_follow x2 _ e11) [(2, .ubox (.uslice 2 ((List.set a2 (Int.toNat a0) a1).map e_impl_place))), (3, .ref (e_impl_Definition a3)), (4, .ref (.hole)), (9, .ubox (.agg [.int .i64 v9_14, .bool (x2.Kind == 1)])), (10, .int .i64 (IntKind.i64.wrap (a0 + 1))), (36, .int .i64 x3), (37, .int .i64 0)] ?_
  refine w_blk (fun Q12 n12 q12 b12 x12 => ?_)
  have L20 : ∀ (n : Nat) (v2_20 : List impl_place) (v10_20 : Int) (v37_20 : Int), impl_Definition_places_c1_l20 rec78 a3 v9_14 x2 x3 n v2_20 v10_20 v37_20 = some r → lpC Cc c209_21 Q12 (stA [(2, .ubox (.uslice 2 (v2_20.map e_impl_place))), (3, .ref (e_impl_Definition a3)), (4, .ref (.hole)), (9, .ubox (.agg [.int .i64 v9_14, .bool (x2.Kind == 1)])), (10, .int .i64 v10_20), (36, .int .i64 x3), (37, .int .i64 v37_20)]) := by
   intro m20
   induction m20 with
   | zero => intro v2_20 v10_20 v37_20 h; cases (show none = some r from h)
   | succ m20 ih20 =>
    intro v2_20 v10_20 v37_20 h
    replace h : impl_Definition_places_c1_b20 rec78 (impl_Definition_places_c1_l20 rec78 a3 v9_14 x2 x3 m20) a3 v9_14 x2 x3 v2_20 v10_20 v37_20 = some r := h
    refine lpC_step (fun Q13 n13 q13 x13 => ?_)
    refine ws _ ?_
    refine w_seq (fun Q15 n15 q15 x15 => ?_)
    rcases condE h with ⟨b16, h⟩ | ⟨b16, h⟩
    ·refine w_ct (congrArg AV.bool b16) ?_
     simp only [b16, Bool.not_true, Bool.not_false]
     refine w_skip (n15 _ (.inl ?_))
     refine w_seq (fun Q17 n17 q17 x17 => ?_)
     refine w_blk (fun Q18 n18 q18 b18 x18 => ?_)
     obtain ⟨x4, e20, h⟩ := bindE h
     refine w_self [(2, .ubox (.uslice 2 (x4.2.map e_impl_place))), (3, .ref (e_impl_Definition a3)), (4, .ref (.hole)), (9, .ubox (.agg [.int .i64 v9_14, .bool (x2.Kind == 1)])), (10, .int .i64 x4.1), (36, .int .i64 x3), (37, .int .i64 v37_20)] (fun P hP => ?_) ?_
     ·simp only [V0.down, simprocAttr, zz28.down, cellP]
      refine w_cell [⟨.int .i64 v10_20, false, _, .hole⟩, ⟨.agg [.int .i64 v9_14, .bool (x2.Kind == 1)], false, _, .hole⟩, ⟨.h 2 [], true, _, _⟩, ⟨.ref (e_impl_Definition a3), false, _, .hole⟩, ⟨.ref (.hole), false, _, .hole⟩] (hrec78 v10_20 (impl_place.mk v9_14 (x2.Kind == 1)) v2_20 a3 _ e20) rfl (by simp only [V0.down, simprocAttr, zz28.down, cellP, c_nrm, okp_s, own_r, view_s, view_h, viewH_s, share_s, or_true, true_or, @shares_map _ e_impl_place e_impl_place (fun _ => sh_e_impl_place _)]) rfl rfl (.inl rfl) ?_
      simp only [V0.down, simprocAttr, zz28.down, cellP, gv_s]
      (try simp only [VN.down, simprocAttr, zz5.down, cellP] at hP ⊢); exact hP
     refine n18 _ (n17 _ (.inl ?_))
     refine wr _ ?_
     exact n13 _ (.inr ⟨_, weak_eq rfl, ih20 x4.2 x4.1 (IntKind.i64.wrap (v37_20 + 1)) h⟩)
    ·refine w_cf (congrArg AV.bool b16) ?_
     simp only [b16, Bool.not_true, Bool.not_false]
     refine w_ex (x15 0 _ (x13 0 _ (b12 _ (n9 _ (.inl ?_)))))
     refine ws _ ?_
     exact w_ret (r0 _ (.inl (w_fin [.int .i64 v10_20] rfl (by cases someE h; rfl) (by decide) (outs_of (out_no (out_no (out_is (by cases someE h; rfl) rfl rfl rfl (out_no (out_no (out_end))))))))))
  obtain ⟨n, h⟩ := limE h
  exact w_loop (.inr ⟨_, weak_eq rfl, L20 n (List.set a2 (Int.toNat a0) a1) (IntKind.i64.wrap (a0 + 1)) 0 h⟩)
 refine w_seq (fun Q7 n7 q7 x7 => ?_)
 refine ws [(0, .int .i64 a0), (2, .ubox (.uslice 2 ((List.set a2 (Int.toNat a0) a1).map e_impl_place))), (3, .ref (e_impl_Definition a3)), (4, .ref (.hole)), (8, .ubox (e_impl_Part x2)), (9, .ubox (.agg [.int .i64 a1.scope, .bool (x2.Kind == 1)])), (28, .bool (x2.Kind == 4))] ?_
 rcases condE h with ⟨b24, h⟩ | ⟨b24, h⟩
 ·refine w_ct (congrArg AV.bool b24) ?_
  simp only [b24, Bool.not_true, Bool.not_false]
  refine wr [(0, .int .i64 a0), (2, .ubox (.uslice 2 ((List.set a2 (Int.toNat a0) a1).map e_impl_place))), (3, .ref (e_impl_Definition a3)), (4, .ref (.hole)), (8, .ubox (e_impl_Part x2)), (9, .ubox (.agg [.int .i64 (IntKind.i64.wrap (a1.scope + 1)), .bool (x2.Kind == 1)]))] ?_
  exact n7 _ (.inr ⟨_, weak_eq rfl, K14 (IntKind.i64.wrap (a1.scope + 1)) h⟩)
 ·refine w_cf (congrArg AV.bool b24) ?_
  simp only [b24, Bool.not_true, Bool.not_false]
  exact w_skip (n7 _ (.inr ⟨_, weak_eq rfl, K14 a1.scope h⟩))
theorem ok_impl_Definition_places_c1_r : ∀ (n : Nat) (a0 : Int) (a1 : impl_place) (a2 : List impl_place) (a3 : impl_Definition) (r : Int × (List impl_place)), impl_Definition_places_c1_r n a0 a1 a2 a3 = some r → OkSelf Cc 209 2 4 [.int .i64 a0, e_impl_place a1, .ubox (.uslice 2 (a2.map e_impl_place)), .ref (e_impl_Definition a3), .ref (.hole)] (.int .i64 r.1) [.hole, .hole, .ubox (.uslice 2 (r.2.map e_impl_place)), .hole, .hole] := by
  intro n
  induction n with
  | zero => intro a0 a1 a2 a3 r h; cases (show none = some r from h)
  | succ n ih => intro a0 a1 a2 a3 r h; exact ok_impl_Definition_places_c1_f (impl_Definition_places_c1_r n) ih a0 a1 a2 a3 r h
theorem ok_impl_Definition_places_c1 (a0 : Int) (a1 : impl_place) (a2 : List impl_place) (a3 : impl_Definition) (r : Int × (List impl_place)) (h : impl_Definition_places_c1 a0 a1 a2 a3 = some r) : OkSelf Cc 209 2 4 [.int .i64 a0, e_impl_place a1, .ubox (.uslice 2 (a2.map e_impl_place)), .ref (e_impl_Definition a3), .ref (.hole)] (.int .i64 r.1) [.hole, .hole, .ubox (.uslice 2 (r.2.map e_impl_place)), .hole, .hole] := by
  obtain ⟨n, h⟩ := limE h
  exact ok_impl_Definition_places_c1_r n a0 a1 a2 a3 r h

theorem ok_impl_Definition_places (a0 : impl_Definition) (r : (List impl_place)) (h : impl_Definition_places a0 = some r) : OkAt Cc 155 [e_impl_Definition a0] (.uslice 2 (r.map e_impl_place)) [] := by
 refine OkAt.of_tailR (fx := [0]) Cc_ok [.tmp 2] [(0, e_impl_Definition a0)] Tryz.func155 rfl rfl s155 (Nat.le_of_ble_eq_true rfl) hk155 rfl rfl (fun Q0 r0 n0 => ?_)
 refine ws _ ?_
 obtain ⟨u6, e3, h⟩ := bindE h
 refine w_sreg (w_abs [(1, .ubox (e_impl_Definition a0)), (3, .ubox (.uslice 2 ((List.replicate (Int.toNat (a0.Body.length : Int)) (impl_place.mk 0 false)).map e_impl_place)))] (fun P hP => ?_) ?_)
 ·simp only [V0.down, simprocAttr, tt2, tt4, tt9, tt84, tt85, tt159, tt176, tt178, tt202, tt204, tt205, e_impl_Definition, e_impl_Part, e_impl_Term, e_impl_place, e_s_impl_Term, (mkOkE e3).1, (mkOkE e3).2.1, (mkOkE e3).2.2, mks, List.map_replicate, -Int.reduceNatCast']
  (try simp only [VN.down, simprocAttr, zz5.down, (mkOkE e3).1, (mkOkE e3).2.1, (mkOkE e3).2.2, mks, List.map_replicate, -Int.reduceNatCast'] at hP ⊢); exact hP
 obtain ⟨x1, e5, h⟩ := bindE h
 refine w_tail [(3, .ubox (.uslice 2 (x1.2.map e_impl_place)))] (fun P hP => ?_) ?_
 ·simp only [V0.down, simprocAttr, zz29.down, (show ∀ s, bld Cc s 204 [(0, .int .i64 a0.Parameters)] = some (.agg [.int .i64 a0.Parameters, .bool false], s) from fun s => by kernel_rfl), cellP]
  refine w_cell [⟨.int .i64 0, false, _, .hole⟩, ⟨.agg [.int .i64 a0.Parameters, .bool false], false, _, .hole⟩, ⟨.h 3 [], true, _, _⟩, ⟨.h 1 [], false, _, .hole⟩, ⟨.ref (.hole), false, _, .hole⟩] (ok_impl_Definition_places_c1 0 (impl_place.mk a0.Parameters false) (List.replicate (Int.toNat (a0.Body.length : Int)) (impl_place.mk 0 false)) a0 _ e5) rfl (by simp only [V0.down, simprocAttr, zz29.down, (show ∀ s, bld Cc s 204 [(0, .int .i64 a0.Parameters)] = some (.agg [.int .i64 a0.Parameters, .bool false], s) from fun s => by kernel_rfl), cellP, c_nrm, okp_s, own_r, view_s, view_h, viewH_s, share_s, or_true, true_or, @shares_map _ e_impl_place e_impl_place (fun _ => sh_e_impl_place _), @shares_map _ e_impl_Part e_impl_Part (fun _ => sh_e_impl_Part _)]) rfl rfl ((.inr (by simp only [nshPs, AV.nosh, AV.noshs, Bool.and_self, @noshs_map _ e_impl_place (fun _ => ns_e_impl_place _)]))) ?_
  simp only [V0.down, simprocAttr, zz29.down, (show ∀ s, bld Cc s 204 [(0, .int .i64 a0.Parameters)] = some (.agg [.int .i64 a0.Parameters, .bool false], s) from fun s => by kernel_rfl), cellP, gv_s]
  (try simp only [VN.down, simprocAttr, zz5.down, (show ∀ s, bld Cc s 204 [(0, .int .i64 a0.Parameters)] = some (.agg [.int .i64 a0.Parameters, .bool false], s) from fun s => by kernel_rfl), cellP] at hP ⊢); exact hP
 refine ws _ ?_
 exact w_ret (r0 _ (.inl (w_fin [.uslice 2 (x1.2.map e_impl_place)] rfl (by cases someE h; rfl) (by decide) outs_nil)))

set_option maxHeartbeats 4600000 in
theorem ok_impl_Part_kindOk (a0 : impl_Part) (r : Bool) (h : impl_Part_kindOk a0 = some r) : OkAt Cc 229 [e_impl_Part a0] (.bool r) [] := by
 refine OkAt.of_wpR (fx := [0]) Cc_ok [.tmp 2] [(0, e_impl_Part a0)] Tryz.func229 rfl rfl s229 (Nat.le_of_ble_eq_true rfl) rfl rfl (fun Q0 r0 n0 => ?_)
 refine ws _ ?_
 refine w_sreg (w_abs [(1, .ubox (e_impl_Part a0)), (3, .bool ((a0.Kind == 4) || (a0.Kind == 5)))] (fun P hP => ?_) ?_)
 ·rcases Bool.eq_false_or_eq_true (a0.Kind == 4) with s3 | s3
  ·simp only [V0.down, simprocAttr, zz6.down, s3]
   (try simp only [VN.down, simprocAttr, zz3.down, s3] at hP ⊢); exact hP
  ·simp only [V0.down, simprocAttr, zz6.down, s3]
   (try simp only [VN.down, simprocAttr, zz3.down, s3] at hP ⊢); exact hP
 refine w_sreg (w_abs [(1, .ubox (e_impl_Part a0)), (3, .bool ((a0.Kind == 4) || (a0.Kind == 5))), (4, .bool (((a0.Kind == 1) || (a0.Kind == 3)) || (a0.Kind == 5)))] (fun P hP => ?_) ?_)
 ·(rcases Bool.eq_false_or_eq_true (a0.Kind == 1) with s5 | s5) <;> (rcases Bool.eq_false_or_eq_true (a0.Kind == 3) with s6 | s6) <;>
    (simp only [V0.down, simprocAttr, zz6.down, s5, s6]
     (try simp only [VN.down, simprocAttr, zz3.down, s5, s6] at hP ⊢); exact hP)
 obtain ⟨x1, e8, h⟩ := bindE h
 refine w_sreg (w_abs [(2, .bool (((x1 && (((a0.Kind == 4) || (a0.Kind == 5)) || (a0.Number == 0))) && ((a0.Kind == 1) || (a0.Name == ([] : List UInt8)))) && ((((a0.Kind == 1) || (a0.Kind == 3)) || (a0.Kind == 5)) || ((a0.Arguments.length : Int) == 0))))] (fun P hP => ?_) ?_)
 ·(rcases Bool.eq_false_or_eq_true (x1) with s9 | s9) <;> (rcases Bool.eq_false_or_eq_true (a0.Kind == 4) with s10 | s10) <;> (rcases Bool.eq_false_or_eq_true (a0.Kind == 5) with s11 | s11) <;> (rcases Bool.eq_false_or_eq_true (a0.Number == 0) with s12 | s12) <;> (rcases Bool.eq_false_or_eq_true (a0.Kind == 1) with s13 | s13) <;> (rcases Bool.eq_false_or_eq_true (a0.Name == ([] : List UInt8)) with s14 | s14) <;> (rcases Bool.eq_false_or_eq_true (a0.Kind == 3) with s15 | s15) <;>
    (simp only [V0.down, simprocAttr, zz6.down, s9, s10, s11, s12, s13, s14, s15]
     refine w_call0 (ok_impl_within a0.Kind 0 5 _ e8) rfl rfl rfl rfl (.inl (by rfl)) ?_
     simp only [V0.down, simprocAttr, zz6.down, s9, s10, s11, s12, s13, s14, s15]
     (try simp only [VN.down, simprocAttr, zz3.down, s9, s10, s11, s12, s13, s14, s15] at hP ⊢); exact hP)
 exact w_ret (r0 _ (.inl (w_fin [.bool (((x1 && (((a0.Kind == 4) || (a0.Kind == 5)) || (a0.Number == 0))) && ((a0.Kind == 1) || (a0.Name == ([] : List UInt8)))) && ((((a0.Kind == 1) || (a0.Kind == 3)) || (a0.Kind == 5)) || ((a0.Arguments.length : Int) == 0)))] rfl (by cases someE h; rfl) (by decide) outs_nil)))

theorem ok_impl_IsAction (a0 : List UInt8) (r : Bool) (h : impl_IsAction a0 = some r) : OkAt Cc 140 [.str a0] (.bool r) [] := by
 refine OkAt.of_wpR (fx := [0]) Cc_ok [.tmp 2] [(0, .str a0)] Tryz.func140 rfl rfl s140 (Nat.le_of_ble_eq_true rfl) rfl rfl (fun Q0 r0 n0 => ?_)
 refine ws _ ?_
 obtain ⟨x1, e3, h⟩ := bindE h
 refine w_sreg (w_abs [(2, .bool (x1 && (!(a0 == ([116, 97, 117] : List UInt8)))))] (fun P hP => ?_) ?_)
 ·rcases Bool.eq_false_or_eq_true (x1) with s4 | s4
  ·simp only [V0.down, simprocAttr, s4]
   refine w_call0 (ok_impl_IsName a0 _ e3) rfl rfl rfl rfl (.inl (by rfl)) ?_
   simp only [V0.down, simprocAttr, s4]
   (try simp only [VN.down, simprocAttr, s4] at hP ⊢); exact hP
  ·simp only [V0.down, simprocAttr, s4]
   refine w_call0 (ok_impl_IsName a0 _ e3) rfl rfl rfl rfl (.inl (by rfl)) ?_
   simp only [V0.down, simprocAttr, s4]
   (try simp only [VN.down, simprocAttr, s4] at hP ⊢); exact hP
 exact w_ret (r0 _ (.inl (w_fin [.bool (x1 && (!(a0 == ([116, 97, 117] : List UInt8))))] rfl (by cases someE h; rfl) (by decide) outs_nil)))

theorem ok_impl_index (a0 : Int) (a1 : Int) (r : Bool) (h : impl_index a0 a1 = some r) : OkAt Cc 138 [.int .i64 a0, .int .i64 a1] (.bool r) [] := by
 refine OkAt.of_wpR (fx := [0, 1]) Cc_ok [.tmp 4] [(0, .int .i64 a0), (1, .int .i64 a1)] Tryz.func138 rfl rfl s138 (Nat.le_of_ble_eq_true rfl) rfl rfl (fun Q0 r0 n0 => ?_)
 refine ws _ ?_
 obtain ⟨x1, e3, h⟩ := bindE h
 refine wsc (ok_impl_within a0 0 (IntKind.i64.wrap (a1 - 1)) _ e3) _ ?_
 exact w_ret (r0 _ (.inl (w_fin [.bool x1] rfl (by cases someE h; rfl) (by decide) outs_nil)))

theorem ok_impl_Part_countOk (a0 : impl_Part) (a1 : List impl_Definition) (r : Bool) (h : impl_Part_countOk a0 a1 = some r) : OkAt Cc 230 [e_impl_Part a0, .slice (a1.map e_impl_Definition)] (.bool r) [] := by
 refine OkAt.of_wpR (fx := [0, 1]) Cc_ok [.tmp 4] [(0, e_impl_Part a0), (1, .slice (a1.map e_impl_Definition))] Tryz.func230 rfl rfl s230 (Nat.le_of_ble_eq_true rfl) rfl rfl (fun Q0 r0 n0 => ?_)
 refine ws _ ?_
 refine ws _ ?_
 refine w_seq (fun Q3 n3 q3 x3 => ?_)
 refine ws _ ?_
 refine w_blk (fun Q5 n5 q5 b5 x5 => ?_)
 refine ws _ ?_
 rcases condE h with ⟨b7, h⟩ | ⟨b7, h⟩
 ·refine w_ct (congrArg AV.bool b7) ?_
  simp only [b7, Bool.not_true, Bool.not_false]
  refine w_sreg (w_abs [(4, .bool (((a0.Arguments.length : Int) == 0) || ((!(a0.Name == ([116, 97, 117] : List UInt8))) && (decide ((a0.Arguments.length : Int) ≤ 2)))))] (fun P hP => ?_) ?_)
  ·(rcases Bool.eq_false_or_eq_true ((a0.Arguments.length : Int) == 0) with s9 | s9) <;> (rcases Bool.eq_false_or_eq_true (a0.Name == ([116, 97, 117] : List UInt8)) with s10 | s10) <;>
     (simp only [V0.down, simprocAttr, zz18.down, s9, s10]
      (try simp only [VN.down, simprocAttr, zz0.down, s9, s10] at hP ⊢); exact hP)
  exact w_ret (q5 _ (q3 _ (r0 _ (.inl (w_fin [.bool (((a0.Arguments.length : Int) == 0) || ((!(a0.Name == ([116, 97, 117] : List UInt8))) && (decide ((a0.Arguments.length : Int) ≤ 2))))] rfl (by cases someE h; rfl) (by decide) outs_nil)))))
 ·refine w_cf (congrArg AV.bool b7) ?_
  simp only [b7, Bool.not_true, Bool.not_false]
  refine ws _ ?_
  rcases condE h with ⟨b12, h⟩ | ⟨b12, h⟩
  ·refine w_ct (congrArg AV.bool b12) ?_
   simp only [b12, Bool.not_true, Bool.not_false]
   refine ws _ ?_
   exact w_ret (q5 _ (q3 _ (r0 _ (.inl (w_fin [.bool ((a0.Arguments.length : Int) == 1)] rfl (by cases someE h; rfl) (by decide) outs_nil)))))
  ·refine w_cf (congrArg AV.bool b12) ?_
   simp only [b12, Bool.not_true, Bool.not_false]
   refine ws _ ?_
   rcases condE h with ⟨b15, h⟩ | ⟨b15, h⟩
   ·refine w_ct (congrArg AV.bool b15) ?_
    simp only [b15, Bool.not_true, Bool.not_false]
    obtain ⟨x1, e17, h⟩ := bindE h
    refine wsf e17 _ ?_
    exact w_ret (q5 _ (q3 _ (r0 _ (.inl (w_fin [.bool ((a0.Arguments.length : Int) == x1.Parameters)] rfl (by cases someE h; rfl) (by decide) outs_nil)))))
   ·refine w_cf (congrArg AV.bool b15) ?_
    simp only [b15, Bool.not_true, Bool.not_false]
    refine w_skip (n5 _ (n3 _ (.inl ?_)))
    refine ws _ ?_
    exact w_ret (r0 _ (.inl (w_fin [.bool true] rfl (by cases someE h; rfl) (by decide) outs_nil)))

theorem ok_impl_isValue (a0 : Int) (r : Bool) (h : impl_isValue a0 = some r) : OkAt Cc 192 [.int .i64 a0] (.bool r) [] := by
 refine OkAt.of_wpR (fx := [0]) Cc_ok [.tmp 2] [(0, .int .i64 a0)] Tryz.func192 rfl rfl s192 (Nat.le_of_ble_eq_true rfl) rfl rfl (fun Q0 r0 n0 => ?_)
 refine ws _ ?_
 obtain ⟨x1, e3, h⟩ := bindE h
 refine wsc (ok_impl_within a0 0 63 _ e3) _ ?_
 exact w_ret (r0 _ (.inl (w_fin [.bool x1] rfl (by cases someE h; rfl) (by decide) outs_nil)))

theorem ok_impl_Term_valid (a0 : impl_Term) (a1 : Int) (r : Bool) (h : impl_Term_valid a0 a1 = some r) : OkAt Cc 218 [e_impl_Term a0, .int .i64 a1] (.bool r) [] := by
 refine OkAt.of_wpR (fx := [0, 1]) Cc_ok [.tmp 4] [(0, e_impl_Term a0), (1, .int .i64 a1)] Tryz.func218 rfl rfl s218 (Nat.le_of_ble_eq_true rfl) rfl rfl (fun Q0 r0 n0 => ?_)
 refine ws _ ?_
 refine w_seq (fun Q2 n2 q2 x2 => ?_)
 refine ws _ ?_
 refine w_blk (fun Q4 n4 q4 b4 x4 => ?_)
 refine ws _ ?_
 rcases condE h with ⟨b6, h⟩ | ⟨b6, h⟩
 ·refine w_ct (congrArg AV.bool b6) ?_
  simp only [b6, Bool.not_true, Bool.not_false]
  obtain ⟨x1, e8, h⟩ := bindE h
  refine wsc (ok_impl_isValue a0.Value _ e8) _ ?_
  exact w_ret (q4 _ (q2 _ (r0 _ (.inl (w_fin [.bool x1] rfl (by cases someE h; rfl) (by decide) outs_nil)))))
 ·refine w_cf (congrArg AV.bool b6) ?_
  simp only [b6, Bool.not_true, Bool.not_false]
  refine ws _ ?_
  rcases condE h with ⟨b10, h⟩ | ⟨b10, h⟩
  ·refine w_ct (congrArg AV.bool b10) ?_
   simp only [b10, Bool.not_true, Bool.not_false]
   obtain ⟨x2, e12, h⟩ := bindE h
   refine wsc (ok_impl_within a0.Value 0 (IntKind.i64.wrap (a1 - 1)) _ e12) _ ?_
   exact w_ret (q4 _ (q2 _ (r0 _ (.inl (w_fin [.bool x2] rfl (by cases someE h; rfl) (by decide) outs_nil)))))
  ·refine w_cf (congrArg AV.bool b10) ?_
   simp only [b10, Bool.not_true, Bool.not_false]
   refine ws _ ?_
   rcases condE h with ⟨b14, h⟩ | ⟨b14, h⟩
   ·refine w_ct (congrArg AV.bool b14) ?_
    simp only [b14, Bool.not_true, Bool.not_false]
    obtain ⟨x3, e16, h⟩ := bindE h
    refine wsc (ok_impl_within a0.Value 0 8 _ e16) _ ?_
    exact w_ret (q4 _ (q2 _ (r0 _ (.inl (w_fin [.bool x3] rfl (by cases someE h; rfl) (by decide) outs_nil)))))
   ·refine w_cf (congrArg AV.bool b14) ?_
    simp only [b14, Bool.not_true, Bool.not_false]
    refine ws _ ?_
    rcases condE h with ⟨b18, h⟩ | ⟨b18, h⟩
    ·refine w_ct (congrArg AV.bool b18) ?_
     simp only [b18, Bool.not_true, Bool.not_false]
     refine ws _ ?_
     exact w_ret (q4 _ (q2 _ (r0 _ (.inl (w_fin [.bool (a0.Value == 0)] rfl (by cases someE h; rfl) (by decide) outs_nil)))))
    ·refine w_cf (congrArg AV.bool b18) ?_
     simp only [b18, Bool.not_true, Bool.not_false]
     refine w_skip (n4 _ (n2 _ (.inl ?_)))
     refine ws _ ?_
     exact w_ret (r0 _ (.inl (w_fin [.bool false] rfl (by cases someE h; rfl) (by decide) outs_nil)))

theorem ok_impl_Term_operands (a0 : impl_Term) (r : Int) (h : impl_Term_operands a0 = some r) : OkAt Cc 219 [e_impl_Term a0] (.int .i64 r) [] := by
 refine OkAt.of_wpR (fx := [0]) Cc_ok [.tmp 2] [(0, e_impl_Term a0)] Tryz.func219 rfl rfl s219 (Nat.le_of_ble_eq_true rfl) rfl rfl (fun Q0 r0 n0 => ?_)
 refine ws _ ?_
 refine w_seq (fun Q2 n2 q2 x2 => ?_)
 refine ws _ ?_
 refine w_blk (fun Q4 n4 q4 b4 x4 => ?_)
 refine ws _ ?_
 rcases condE h with ⟨b6, h⟩ | ⟨b6, h⟩
 ·refine w_ct (congrArg AV.bool b6) ?_
  simp only [b6, Bool.not_true, Bool.not_false]
  refine ws _ ?_
  exact w_ret (q4 _ (q2 _ (r0 _ (.inl (w_fin [.int .i64 2] rfl (by cases someE h; rfl) (by decide) outs_nil)))))
 ·refine w_cf (congrArg AV.bool b6) ?_
  simp only [b6, Bool.not_true, Bool.not_false]
  refine ws _ ?_
  rcases condE h with ⟨b9, h⟩ | ⟨b9, h⟩
  ·refine w_ct (congrArg AV.bool b9) ?_
   simp only [b9, Bool.not_true, Bool.not_false]
   refine ws _ ?_
   exact w_ret (q4 _ (q2 _ (r0 _ (.inl (w_fin [.int .i64 1] rfl (by cases someE h; rfl) (by decide) outs_nil)))))
  ·refine w_cf (congrArg AV.bool b9) ?_
   simp only [b9, Bool.not_true, Bool.not_false]
   refine w_skip (n4 _ (n2 _ (.inl ?_)))
   refine ws _ ?_
   exact w_ret (r0 _ (.inl (w_fin [.int .i64 0] rfl (by cases someE h; rfl) (by decide) outs_nil)))

set_option maxHeartbeats 600000 in
theorem ok_impl_ValidTerms (a0 : List impl_Term) (a1 : Int) (a2 : Int) (r : Bool) (h : impl_ValidTerms a0 a1 a2 = some r) : OkAt Cc 171 [.slice (a0.map e_impl_Term), .int .i64 a1, .int .i64 a2] (.bool r) [] := by
 refine OkAt.of_wpR (fx := [0, 1, 2]) Cc_ok [.tmp 6] [(0, .slice (a0.map e_impl_Term)), (1, .int .i64 a1), (2, .int .i64 a2)] Tryz.func171 rfl rfl s171 (Nat.le_of_ble_eq_true rfl) rfl rfl (fun Q0 r0 n0 => ?_)
 refine ws _ ?_
 refine w_seq (fun Q2 n2 q2 x2 => ?_)
 obtain ⟨x1, e4, h⟩ := bindE h
 rcases condE h with ⟨b5, h⟩ | ⟨b5, h⟩
 ·refine wscf b5 (ok_impl_within a1 0 29 _ e4) _ ?_
  refine w_ct rfl ?_
  refine ws _ ?_
  exact w_ret (q2 _ (r0 _ (.inl (w_fin [.bool false] rfl (by cases someE h; rfl) (by decide) outs_nil))))
 ·obtain ⟨x2, e7, h⟩ := bindE h
  rcases condE h with ⟨b8, h⟩ | ⟨b8, h⟩
  ·refine w_sreg (w_abs [(0, .slice (a0.map e_impl_Term)), (1, .int .i64 a1), (24, .bool true)] (fun P hP => ?_) ?_)
   ·simp only [V0.down, simprocAttr, zz7.down, b5, b8]
    refine w_call0 (ok_impl_within a1 0 29 _ e4) rfl rfl rfl rfl (.inl (by rfl)) ?_
    simp only [V0.down, simprocAttr, zz7.down, b5, b8]
    refine w_callg0 (ok_impl_within a2 1 60 _ e7) rfl rfl rfl rfl (.inl (by rfl)) ?_
    simp only [V0.down, simprocAttr, zz7.down, b5, b8]
    (try simp only [VN.down, simprocAttr, e_impl_Term, b5, b8] at hP ⊢); exact hP
   refine w_ct rfl ?_
   refine ws _ ?_
   exact w_ret (q2 _ (r0 _ (.inl (w_fin [.bool false] rfl (by cases someE h; rfl) (by decide) outs_nil))))
  ·obtain ⟨x3, e10, h⟩ := bindE h
   refine w_sreg (w_abs [(0, .slice (a0.map e_impl_Term)), (1, .int .i64 a1), (24, .bool (!x3))] (fun P hP => ?_) ?_)
   ·simp only [V0.down, simprocAttr, zz7.down, b5, b8]
    refine w_call0 (ok_impl_within a1 0 29 _ e4) rfl rfl rfl rfl (.inl (by rfl)) ?_
    simp only [V0.down, simprocAttr, zz7.down, b5, b8]
    refine w_callg0 (ok_impl_within a2 1 60 _ e7) rfl rfl rfl rfl (.inl (by rfl)) ?_
    simp only [V0.down, simprocAttr, zz7.down, b5, b8]
    refine w_callg0 (ok_impl_within (a0.length : Int) 1 a2 _ e10) rfl rfl rfl rfl (.inl (by rfl)) ?_
    simp only [V0.down, simprocAttr, zz7.down, b5, b8]
    (try simp only [VN.down, simprocAttr, e_impl_Term, b5, b8] at hP ⊢); exact hP
   rcases condE h with ⟨b11, h⟩ | ⟨b11, h⟩
   ·refine w_ct (congrArg AV.bool b11) ?_
    simp only [b11, Bool.not_true, Bool.not_false]
    refine ws _ ?_
    exact w_ret (q2 _ (r0 _ (.inl (w_fin [.bool false] rfl (by cases someE h; rfl) (by decide) outs_nil))))
   ·refine w_cf (congrArg AV.bool b11) ?_
    simp only [b11, Bool.not_true, Bool.not_false]
    refine w_skip (n2 _ (.inl ?_))
    refine ws _ ?_
    refine w_seq (fun Q14 n14 q14 x14 => ?_)
    refine ws _ ?_
    refine w_blk (fun Q16 n16 q16 b16 x16 => ?_)
    have L16 : ∀ (n : Nat) (v7_16 : Int) (v27_16 : Int), impl_ValidTerms_l16 a0 a1 n v7_16 v27_16 = some r → lpC Cc c171_17 Q16 (stA [(1, .int .i64 a1), (7, .int .i64 v7_16), (25, .slice (a0.map e_impl_Term)), (26, .int .i64 (a0.length : Int)), (27, .int .i64 v27_16)]) := by
     intro m16
     induction m16 with
     | zero => intro v7_16 v27_16 h; cases (show none = some r from h)
     | succ m16 ih16 =>
      intro v7_16 v27_16 h
      replace h : impl_ValidTerms_b16 (impl_ValidTerms_l16 a0 a1 m16) a0 a1 v7_16 v27_16 = some r := h
      refine lpC_step (fun Q17 n17 q17 x17 => ?_)
      refine ws _ ?_
      refine w_seq (fun Q19 n19 q19 x19 => ?_)
      rcases condE h with ⟨b20, h⟩ | ⟨b20, h⟩
      ·refine w_ct (congrArg AV.bool b20) ?_
       simp only [b20, Bool.not_true, Bool.not_false]
       refine w_skip (n19 _ (.inl ?_))
       refine w_seq (fun Q21 n21 q21 x21 => ?_)
       refine w_blk (fun Q22 n22 q22 b22 x22 => ?_)
       obtain ⟨x4, e24, h⟩ := bindE h
       refine wsf e24 _ ?_
       refine w_seq (fun Q25 n25 q25 x25 => ?_)
       rcases condE h with ⟨b27, h⟩ | ⟨b27, h⟩
       ·refine wsf b27 _ ?_
        refine w_ct rfl ?_
        refine ws _ ?_
        exact w_ret (q25 _ (q22 _ (q21 _ (q17 _ (q16 _ (q14 _ (r0 _ (.inl (w_fin [.bool false] rfl (by cases someE h; rfl) (by decide) outs_nil)))))))))
       ·obtain ⟨x5, e29, h⟩ := bindE h
        refine w_sreg (w_abs [(1, .int .i64 a1), (7, .int .i64 v7_16), (9, .ubox (e_impl_Term x4)), (25, .slice (a0.map e_impl_Term)), (26, .int .i64 (a0.length : Int)), (27, .int .i64 v27_16), (38, .bool (!x5))] (fun P hP => ?_) ?_)
        ·simp only [V0.down, simprocAttr, tt2, tt159, e_impl_Term, b27]
         refine w_callg0 (ok_impl_Term_valid x4 a1 _ e29) rfl rfl rfl rfl (.inl (by rfl)) ?_
         simp only [V0.down, simprocAttr, tt2, tt159, e_impl_Term, b27]
         (try simp only [VN.down, simprocAttr, e_impl_Term, b27] at hP ⊢); exact hP
        rcases condE h with ⟨b30, h⟩ | ⟨b30, h⟩
        ·refine w_ct (congrArg AV.bool b30) ?_
         simp only [b30, Bool.not_true, Bool.not_false]
         refine ws _ ?_
         exact w_ret (q25 _ (q22 _ (q21 _ (q17 _ (q16 _ (q14 _ (r0 _ (.inl (w_fin [.bool false] rfl (by cases someE h; rfl) (by decide) outs_nil)))))))))
        ·refine w_cf (congrArg AV.bool b30) ?_
         simp only [b30, Bool.not_true, Bool.not_false]
         refine w_skip (n25 _ (.inl ?_))
         obtain ⟨x6, e33, h⟩ := bindE h
         refine wrc (ok_impl_Term_operands x4 _ e33) _ ?_
         refine n22 _ (n21 _ (.inl ?_))
         refine wr _ ?_
         exact n17 _ (.inr ⟨_, weak_eq rfl, ih16 (IntKind.i64.wrap (v7_16 + (IntKind.i64.wrap (x6 - 1)))) (IntKind.i64.wrap (v27_16 + 1)) h⟩)
      ·refine w_cf (congrArg AV.bool b20) ?_
       simp only [b20, Bool.not_true, Bool.not_false]
       refine w_ex (x19 0 _ (x17 0 _ (b16 _ (n14 _ (.inl ?_)))))
       refine ws _ ?_
       exact w_ret (r0 _ (.inl (w_fin [.bool (v7_16 == 0)] rfl (by cases someE h; rfl) (by decide) outs_nil)))
    obtain ⟨n, h⟩ := limE h
    exact w_loop (.inr ⟨_, weak_eq rfl, L16 n 1 0 h⟩)

theorem ok_impl_Part_reason_c1_2 (a0 : List impl_Term) (a1 : impl_place) (r : Bool) (h : impl_Part_reason_c1_2 a0 a1 = some r) : OkAt Cc 231 [.slice (a0.map e_impl_Term), .ref (e_impl_place a1)] (.bool r) [] := by
 refine OkAt.of_wpR (fx := [0, 1]) Cc_ok [.tmp 3] [(0, .slice (a0.map e_impl_Term)), (1, .ref (e_impl_place a1))] Tryz.func231 rfl rfl s231 (Nat.le_of_ble_eq_true rfl) rfl rfl (fun Q0 r0 n0 => ?_)
 refine ws _ ?_
 obtain ⟨x1, e3, h⟩ := bindE h
 refine wsc (ok_impl_ValidTerms a0 a1.scope 15 _ e3) _ ?_
 exact w_ret (r0 _ (.inl (w_fin [.bool (!x1)] rfl (by cases someE h; rfl) (by decide) outs_nil)))

theorem ok_slices_IndexFunc_impl_Term__impl_Part_reason_c1 (a0 : List (List impl_Term)) (a1 : impl_place) (r : Int) (h : slices_IndexFunc_impl_Term__impl_Part_reason_c1 a0 a1 = some r) : OkAt Cc 217 [.slice (a0.map e_s_impl_Term), .fn 231 [.ref (e_impl_place a1)]] (.int .i64 r) [] := by
 refine OkAt.of_wpR (fx := [0, 1]) Cc_ok [.tmp 4] [(0, .slice (a0.map e_s_impl_Term)), (1, .fn 231 [.ref (e_impl_place a1)])] Tryz.func217 rfl rfl s217 (Nat.le_of_ble_eq_true rfl) rfl rfl (fun Q0 r0 n0 => ?_)
 refine ws _ ?_
 refine w_seq (fun Q2 n2 q2 x2 => ?_)
 refine ws _ ?_
 refine w_blk (fun Q4 n4 q4 b4 x4 => ?_)
 have L6 : ∀ (n : Nat) (v8_6 : Int), slices_IndexFunc_impl_Term__impl_Part_reason_c1_l6 a0 a1 n v8_6 = some r → lpC Cc c217_7 Q4 (stA [(0, .slice (a0.map e_s_impl_Term)), (1, .fn 231 [.ref (e_impl_place a1)]), (7, .int .i64 (a0.length : Int)), (8, .int .i64 v8_6)]) := by
  intro m6
  induction m6 with
  | zero => intro v8_6 h; cases (show none = some r from h)
  | succ m6 ih6 =>
   intro v8_6 h
   replace h : slices_IndexFunc_impl_Term__impl_Part_reason_c1_b6 (slices_IndexFunc_impl_Term__impl_Part_reason_c1_l6 a0 a1 m6) a0 a1 v8_6 = some r := h
   refine lpC_step (fun Q5 n5 q5 x5 => ?_)
   refine ws _ ?_
   refine w_seq (fun Q7 n7 q7 x7 => ?_)
   rcases condE h with ⟨b8, h⟩ | ⟨b8, h⟩
   ·refine w_ct (congrArg AV.bool b8) ?_
    simp only [b8, Bool.not_true, Bool.not_false]
    refine w_skip (n7 _ (.inl ?_))
    refine w_seq (fun Q9 n9 q9 x9 => ?_)
    refine w_blk (fun Q10 n10 q10 b10 x10 => ?_)
    refine ws _ ?_
    obtain ⟨x1, e13, h⟩ := bindE h
    obtain ⟨x2, e14, h⟩ := bindE h
    refine wscf e13 (ok_impl_Part_reason_c1_2 x1 a1 _ e14) _ ?_
    rcases condE h with ⟨b15, h⟩ | ⟨b15, h⟩
    ·refine w_ct (congrArg AV.bool b15) ?_
     simp only [b15, Bool.not_true, Bool.not_false]
     refine ws _ ?_
     exact w_ret (q10 _ (q9 _ (q5 _ (q4 _ (q2 _ (r0 _ (.inl (w_fin [.int .i64 v8_6] rfl (by cases someE h; rfl) (by decide) outs_nil))))))))
    ·refine w_cf (congrArg AV.bool b15) ?_
     simp only [b15, Bool.not_true, Bool.not_false]
     refine w_skip (n10 _ (n9 _ (.inl ?_)))
     refine wr _ ?_
     exact n5 _ (.inr ⟨_, weak_eq rfl, ih6 (IntKind.i64.wrap (v8_6 + 1)) h⟩)
   ·refine w_cf (congrArg AV.bool b8) ?_
    simp only [b8, Bool.not_true, Bool.not_false]
    refine w_ex (x7 0 _ (x5 0 _ (b4 _ (n2 _ (.inl ?_)))))
    refine ws _ ?_
    exact w_ret (r0 _ (.inl (w_fin [.int .i64 (-1)] rfl (by cases someE h; rfl) (by decide) outs_nil)))
 obtain ⟨n, h⟩ := limE h
 exact w_loop (.inr ⟨_, weak_eq rfl, L6 n 0 h⟩)

theorem ok_slices_ContainsFunc_impl_Term__impl_Part_reason_c1 (a0 : List (List impl_Term)) (a1 : impl_place) (r : Bool) (h : slices_ContainsFunc_impl_Term__impl_Part_reason_c1 a0 a1 = some r) : OkAt Cc 168 [.slice (a0.map e_s_impl_Term), .fn 231 [.ref (e_impl_place a1)]] (.bool r) [] := by
 refine OkAt.of_wpR (fx := [0, 1]) Cc_ok [.tmp 4] [(0, .slice (a0.map e_s_impl_Term)), (1, .fn 231 [.ref (e_impl_place a1)])] Tryz.func168 rfl rfl s168 (Nat.le_of_ble_eq_true rfl) rfl rfl (fun Q0 r0 n0 => ?_)
 refine ws _ ?_
 obtain ⟨x1, e3, h⟩ := bindE h
 refine wsc (ok_slices_IndexFunc_impl_Term__impl_Part_reason_c1 a0 a1 _ e3) _ ?_
 exact w_ret (r0 _ (.inl (w_fin [.bool (decide (0 ≤ x1))] rfl (by cases someE h; rfl) (by decide) outs_nil)))

set_option maxHeartbeats 800000 in
theorem ok_impl_Part_reason (a0 : impl_Part) (a1 : List impl_Definition) (a2 : impl_place) (r : Int) (h : impl_Part_reason a0 a1 a2 = some r) : OkAt Cc 189 [e_impl_Part a0, .slice (a1.map e_impl_Definition), e_impl_place a2] (.int .i64 r) [] := by
 refine OkAt.of_wpR (fx := [0, 1, 2]) Cc_ok [.tmp 6] [(0, e_impl_Part a0), (1, .slice (a1.map e_impl_Definition)), (2, e_impl_place a2)] Tryz.func189 rfl rfl s189 (Nat.le_of_ble_eq_true rfl) rfl rfl (fun Q0 r0 n0 => ?_)
 refine ws _ ?_
 refine w_seq (fun Q2 n2 q2 x2 => ?_)
 refine w_blk (fun Q3 n3 q3 b3 x3 => ?_)
 obtain ⟨x1, e5, h⟩ := bindE h
 refine wsc (ok_impl_Part_kindOk a0 _ e5) _ ?_
 rcases condE h with ⟨b6, h⟩ | ⟨b6, h⟩
 ·refine w_ct (congrArg AV.bool b6) ?_
  simp only [b6, Bool.not_true, Bool.not_false]
  refine ws _ ?_
  exact w_ret (q3 _ (q2 _ (r0 _ (.inl (w_fin [.int .i64 2] rfl (by cases someE h; rfl) (by decide) outs_nil)))))
 ·refine w_cf (congrArg AV.bool b6) ?_
  simp only [b6, Bool.not_true, Bool.not_false]
  have K12 : ∀ (v11_12 : Bool), impl_Part_reason_k12 a0 a1 a2 v11_12 = some r → wpC Cc c189_12 Q3 (stA [(1, .slice (a1.map e_impl_Definition)), (3, .ubox (e_impl_Part a0)), (5, .ubox (e_impl_place a2)), (11, .bool v11_12)]) := by
   intro v11_12 h
   rcases condE h with ⟨b8, h⟩ | ⟨b8, h⟩
   ·refine w_ct (congrArg AV.bool b8) ?_
    simp only [b8, Bool.not_true, Bool.not_false]
    refine ws _ ?_
    exact w_ret (q3 _ (q2 _ (r0 _ (.inl (w_fin [.int .i64 3] rfl (by cases someE h; rfl) (by decide) outs_nil)))))
   ·refine w_cf (congrArg AV.bool b8) ?_
    simp only [b8, Bool.not_true, Bool.not_false]
    have K18 : ∀ (v26_18 : Bool), impl_Part_reason_k18 a0 a1 a2 v26_18 = some r → wpC Cc c189_18 Q3 (stA [(1, .slice (a1.map e_impl_Definition)), (3, .ubox (e_impl_Part a0)), (5, .ubox (e_impl_place a2)), (26, .bool v26_18)]) := by
     intro v26_18 h
     rcases condE h with ⟨b10, h⟩ | ⟨b10, h⟩
     ·refine w_ct (congrArg AV.bool b10) ?_
      simp only [b10, Bool.not_true, Bool.not_false]
      refine ws _ ?_
      exact w_ret (q3 _ (q2 _ (r0 _ (.inl (w_fin [.int .i64 4] rfl (by cases someE h; rfl) (by decide) outs_nil)))))
     ·refine w_cf (congrArg AV.bool b10) ?_
      simp only [b10, Bool.not_true, Bool.not_false]
      obtain ⟨x2, e13, h⟩ := bindE h
      refine wsc (ok_impl_Part_countOk a0 a1 _ e13) _ ?_
      rcases condE h with ⟨b14, h⟩ | ⟨b14, h⟩
      ·refine w_ct (congrArg AV.bool b14) ?_
       simp only [b14, Bool.not_true, Bool.not_false]
       refine ws _ ?_
       exact w_ret (q3 _ (q2 _ (r0 _ (.inl (w_fin [.int .i64 5] rfl (by cases someE h; rfl) (by decide) outs_nil)))))
      ·refine w_cf (congrArg AV.bool b14) ?_
       simp only [b14, Bool.not_true, Bool.not_false]
       refine w_sreg (w_abs [(3, .ubox (e_impl_Part a0)), (5, .ubox (e_impl_place a2)), (54, .bool ((a0.Kind == 5) && (!a2.behind)))] (fun P hP => ?_) ?_)
       ·rcases Bool.eq_false_or_eq_true (a0.Kind == 5) with s17 | s17
        ·simp only [V0.down, simprocAttr, zz25.down, s17]
         (try simp only [VN.down, simprocAttr, zz19.down, s17] at hP ⊢); exact hP
        ·simp only [V0.down, simprocAttr, zz25.down, s17]
         (try simp only [VN.down, simprocAttr, zz19.down, s17] at hP ⊢); exact hP
       rcases condE h with ⟨b18, h⟩ | ⟨b18, h⟩
       ·refine w_ct (congrArg AV.bool b18) ?_
        simp only [b18, Bool.not_true, Bool.not_false]
        refine ws _ ?_
        exact w_ret (q3 _ (q2 _ (r0 _ (.inl (w_fin [.int .i64 6] rfl (by cases someE h; rfl) (by decide) outs_nil)))))
       ·refine w_cf (congrArg AV.bool b18) ?_
        simp only [b18, Bool.not_true, Bool.not_false]
        refine w_sreg (w_abs [(3, .ubox (e_impl_Part a0)), (5, .ubox (e_impl_place a2)), (63, .bool ((a0.Kind == 4) && (decide (6 ≤ a2.scope))))] (fun P hP => ?_) ?_)
        ·rcases Bool.eq_false_or_eq_true (a0.Kind == 4) with s21 | s21
         ·simp only [V0.down, simprocAttr, zz25.down, s21]
          (try simp only [VN.down, simprocAttr, zz19.down, s21] at hP ⊢); exact hP
         ·simp only [V0.down, simprocAttr, zz25.down, s21]
          (try simp only [VN.down, simprocAttr, zz19.down, s21] at hP ⊢); exact hP
        rcases condE h with ⟨b22, h⟩ | ⟨b22, h⟩
        ·refine w_ct (congrArg AV.bool b22) ?_
         simp only [b22, Bool.not_true, Bool.not_false]
         refine ws _ ?_
         exact w_ret (q3 _ (q2 _ (r0 _ (.inl (w_fin [.int .i64 7] rfl (by cases someE h; rfl) (by decide) outs_nil)))))
        ·refine w_cf (congrArg AV.bool b22) ?_
         simp only [b22, Bool.not_true, Bool.not_false]
         obtain ⟨x3, e25, h⟩ := bindE h
         refine w_sreg (w_abs [(72, .bool x3)] (fun P hP => ?_) ?_)
         ·simp only [V0.down, simprocAttr, zz30.down]
          refine w_call0 (ok_slices_ContainsFunc_impl_Term__impl_Part_reason_c1 a0.Arguments a2 _ e25) rfl rfl (by simp only [V0.down, simprocAttr, zz30.down, view_s, view_h, viewH_s, share_s] <;> rfl) rfl (.inr (by rfl)) ?_
          simp only [V0.down, simprocAttr, zz30.down]
          (try simp only [VN.down, simprocAttr, zz19.down] at hP ⊢); exact hP
         rcases condE h with ⟨b26, h⟩ | ⟨b26, h⟩
         ·refine w_ct (congrArg AV.bool b26) ?_
          simp only [b26, Bool.not_true, Bool.not_false]
          refine ws _ ?_
          exact w_ret (q3 _ (q2 _ (r0 _ (.inl (w_fin [.int .i64 8] rfl (by cases someE h; rfl) (by decide) outs_nil)))))
         ·refine w_cf (congrArg AV.bool b26) ?_
          simp only [b26, Bool.not_true, Bool.not_false]
          refine w_skip (n3 _ (n2 _ (.inl ?_)))
          refine ws _ ?_
          exact w_ret (r0 _ (.inl (w_fin [.int .i64 0] rfl (by cases someE h; rfl) (by decide) outs_nil)))
    rcases condE h with ⟨b30, h⟩ | ⟨b30, h⟩
    ·obtain ⟨x4, e31, h⟩ := bindE h
     rcases condE h with ⟨b32, h⟩ | ⟨b32, h⟩
     ·refine w_sregW (w_abs (K := onW _) [(1, .slice (a1.map e_impl_Definition)), (3, .ubox (e_impl_Part a0)), (5, .ubox (e_impl_place a2)), (26, .bool true)] (fun P hP => ?_) ?_)
      ·simp only [V0.down, simprocAttr, zz11.down, b30, b32]
       refine w_callg0 (ok_impl_within a0.Number 1 7 _ e31) rfl rfl rfl rfl (.inl (by rfl)) ?_
       simp only [V0.down, simprocAttr, zz11.down, b30, b32]
       (try simp only [VN.down, simprocAttr, zz5.down, b30, b32] at hP ⊢); exact hP
      exact .inr ⟨_, weak_eq rfl, K18 true h⟩
     ·rcases condE h with ⟨b33, h⟩ | ⟨b33, h⟩
      ·obtain ⟨x5, e34, h⟩ := bindE h
       refine w_sregW (w_abs (K := onW _) [(1, .slice (a1.map e_impl_Definition)), (3, .ubox (e_impl_Part a0)), (5, .ubox (e_impl_place a2)), (26, .bool (!x5))] (fun P hP => ?_) ?_)
       ·simp only [V0.down, simprocAttr, zz11.down, b30, b32, b33]
        refine w_callg0 (ok_impl_within a0.Number 1 7 _ e31) rfl rfl rfl rfl (.inl (by rfl)) ?_
        simp only [V0.down, simprocAttr, zz11.down, b30, b32, b33]
        refine w_callg0 (ok_impl_index a0.Number (a1.length : Int) _ e34) rfl rfl rfl rfl (.inl (by rfl)) ?_
        simp only [V0.down, simprocAttr, zz11.down, b30, b32, b33]
        (try simp only [VN.down, simprocAttr, zz5.down, b30, b32, b33] at hP ⊢); exact hP
       exact .inr ⟨_, weak_eq rfl, K18 (!x5) h⟩
      ·refine w_sregW (w_abs (K := onW _) [(1, .slice (a1.map e_impl_Definition)), (3, .ubox (e_impl_Part a0)), (5, .ubox (e_impl_place a2)), (26, .bool false)] (fun P hP => ?_) ?_)
       ·simp only [V0.down, simprocAttr, zz11.down, b30, b32, b33]
        refine w_callg0 (ok_impl_within a0.Number 1 7 _ e31) rfl rfl rfl rfl (.inl (by rfl)) ?_
        simp only [V0.down, simprocAttr, zz11.down, b30, b32, b33]
        (try simp only [VN.down, simprocAttr, zz5.down, b30, b32, b33] at hP ⊢); exact hP
       exact .inr ⟨_, weak_eq rfl, K18 false h⟩
    ·rcases condE h with ⟨b35, h⟩ | ⟨b35, h⟩
     ·obtain ⟨x6, e36, h⟩ := bindE h
      refine w_sregW (w_abs (K := onW _) [(1, .slice (a1.map e_impl_Definition)), (3, .ubox (e_impl_Part a0)), (5, .ubox (e_impl_place a2)), (26, .bool (!x6))] (fun P hP => ?_) ?_)
      ·simp only [V0.down, simprocAttr, zz11.down, b30, b35]
       refine w_callg0 (ok_impl_index a0.Number (a1.length : Int) _ e36) rfl rfl rfl rfl (.inl (by rfl)) ?_
       simp only [V0.down, simprocAttr, zz11.down, b30, b35]
       (try simp only [VN.down, simprocAttr, zz5.down, b30, b35] at hP ⊢); exact hP
      exact .inr ⟨_, weak_eq rfl, K18 (!x6) h⟩
     ·refine w_sregW (w_abs (K := onW _) [(1, .slice (a1.map e_impl_Definition)), (3, .ubox (e_impl_Part a0)), (5, .ubox (e_impl_place a2)), (26, .bool false)] (fun P hP => ?_) ?_)
      ·simp only [V0.down, simprocAttr, zz11.down, b30, b35]
       (try simp only [VN.down, simprocAttr, zz5.down, b30, b35] at hP ⊢); exact hP
      exact .inr ⟨_, weak_eq rfl, K18 false h⟩
  rcases condE h with ⟨b38, h⟩ | ⟨b38, h⟩
  ·rcases condE h with ⟨b39, h⟩ | ⟨b39, h⟩
   ·obtain ⟨x7, e40, h⟩ := bindE h
    refine w_sregW (w_abs (K := onW _) [(1, .slice (a1.map e_impl_Definition)), (3, .ubox (e_impl_Part a0)), (5, .ubox (e_impl_place a2)), (11, .bool (!x7))] (fun P hP => ?_) ?_)
    ·simp only [V0.down, simprocAttr, zz26.down, b38, b39]
     refine w_callg0 (ok_impl_IsAction a0.Name _ e40) rfl rfl rfl rfl (.inl (by rfl)) ?_
     simp only [V0.down, simprocAttr, zz26.down, b38, b39]
     (try simp only [VN.down, simprocAttr, zz5.down, b38, b39] at hP ⊢); exact hP
    exact .inr ⟨_, weak_eq rfl, K12 (!x7) h⟩
   ·refine w_sregW (w_abs (K := onW _) [(1, .slice (a1.map e_impl_Definition)), (3, .ubox (e_impl_Part a0)), (5, .ubox (e_impl_place a2)), (11, .bool false)] (fun P hP => ?_) ?_)
    ·simp only [V0.down, simprocAttr, zz26.down, b38, b39]
     (try simp only [VN.down, simprocAttr, zz5.down, b38, b39] at hP ⊢); exact hP
    exact .inr ⟨_, weak_eq rfl, K12 false h⟩
  ·refine w_sregW (w_abs (K := onW _) [(1, .slice (a1.map e_impl_Definition)), (3, .ubox (e_impl_Part a0)), (5, .ubox (e_impl_place a2)), (11, .bool false)] (fun P hP => ?_) ?_)
   ·simp only [V0.down, simprocAttr, zz26.down, b38]
    (try simp only [VN.down, simprocAttr, zz5.down, b38] at hP ⊢); exact hP
   exact .inr ⟨_, weak_eq rfl, K12 false h⟩

set_option maxHeartbeats 1400000 in
theorem ok_impl_bodyFault (a0 : List impl_Definition) (a1 : impl_Definition) (r : Int × Int) (h : impl_bodyFault a0 a1 = some r) : OkAt Cc 136 [.slice (a0.map e_impl_Definition), e_impl_Definition a1] (.tuple [.int .i64 r.1, .int .i64 r.2]) [] := by
 refine OkAt.of_wpR (fx := [0, 1]) Cc_ok [.tmp 4, .tmp 5] [(0, .slice (a0.map e_impl_Definition)), (1, e_impl_Definition a1)] Tryz.func136 rfl rfl s136 (Nat.le_of_ble_eq_true rfl) rfl rfl (fun Q0 r0 n0 => ?_)
 refine ws _ ?_
 refine w_seq (fun Q2 n2 q2 x2 => ?_)
 obtain ⟨x1, e4, h⟩ := bindE h
 rcases condE h with ⟨b5, h⟩ | ⟨b5, h⟩
 ·refine w_sdrw rfl (w_absd [(0, .slice (a0.map e_impl_Definition)), (3, .ubox (e_impl_Definition a1)), (22, .bool true)] (fun P hP => ?_) ?_)
  ·simp only [V1.down, simprocAttr, zz9.down, b5]
   refine w_call1 (ok_impl_within (a1.Body.length : Int) 1 20 _ e4) rfl rfl rfl rfl (.inl (by rfl)) ?_
   simp only [V1.down, simprocAttr, zz9.down, b5]
   refine ⟨okP_D (by kernel_rfl), ?_⟩
   (try simp only [VN.down, simprocAttr, zz0.down, b5] at hP ⊢); exact hP
  refine w_ct rfl ?_
  refine ws _ ?_
  exact w_ret (q2 _ (r0 _ (.inl (w_fin [.int .i64 0, .int .i64 1] rfl (by cases someE h; rfl) (by decide) outs_nil))))
 ·obtain ⟨x2, e7, h⟩ := bindE h
  refine w_sdrw rfl (w_absd [(0, .slice (a0.map e_impl_Definition)), (3, .ubox (e_impl_Definition a1)), (22, .bool (x2 != (a1.Body.length : Int)))] (fun P hP => ?_) ?_)
  ·simp only [V1.down, simprocAttr, zz9.down, b5]
   refine w_call1 (ok_impl_within (a1.Body.length : Int) 1 20 _ e4) rfl rfl rfl rfl (.inl (by rfl)) ?_
   simp only [V1.down, simprocAttr, zz9.down, b5]
   refine w_callg1 (ok_impl_Definition_end a1 0 _ e7) rfl rfl rfl rfl (.inl (by rfl)) ?_
   simp only [V1.down, simprocAttr, zz9.down, b5]
   refine ⟨okP_D (by kernel_rfl), ?_⟩
   (try simp only [VN.down, simprocAttr, zz0.down, b5] at hP ⊢); exact hP
  rcases condE h with ⟨b8, h⟩ | ⟨b8, h⟩
  ·refine w_ct (congrArg AV.bool b8) ?_
   simp only [b8, Bool.not_true, Bool.not_false]
   refine ws _ ?_
   exact w_ret (q2 _ (r0 _ (.inl (w_fin [.int .i64 0, .int .i64 1] rfl (by cases someE h; rfl) (by decide) outs_nil))))
  ·refine w_cf (congrArg AV.bool b8) ?_
   simp only [b8, Bool.not_true, Bool.not_false]
   refine w_skip (n2 _ (.inl ?_))
   obtain ⟨x3, e11, h⟩ := bindE h
   refine wsc (ok_impl_Definition_places a1 _ e11) _ ?_
   refine w_seq (fun Q12 n12 q12 x12 => ?_)
   refine ws _ ?_
   refine w_blk (fun Q14 n14 q14 b14 x14 => ?_)
   have L16 : ∀ (n : Nat) (v28_16 : Int), impl_bodyFault_l16 a0 a1 x3 n v28_16 = some r → lpC Cc c136_17 Q14 (stA [(0, .slice (a0.map e_impl_Definition)), (6, .uslice 2 (x3.map e_impl_place)), (26, .slice (a1.Body.map e_impl_Part)), (27, .int .i64 (a1.Body.length : Int)), (28, .int .i64 v28_16)]) := by
    intro m16
    induction m16 with
    | zero => intro v28_16 h; cases (show none = some r from h)
    | succ m16 ih16 =>
     intro v28_16 h
     replace h : impl_bodyFault_b16 (impl_bodyFault_l16 a0 a1 x3 m16) a0 a1 x3 v28_16 = some r := h
     refine lpC_step (fun Q15 n15 q15 x15 => ?_)
     refine ws _ ?_
     refine w_seq (fun Q17 n17 q17 x17 => ?_)
     rcases condE h with ⟨b18, h⟩ | ⟨b18, h⟩
     ·refine w_ct (congrArg AV.bool b18) ?_
      simp only [b18, Bool.not_true, Bool.not_false]
      refine w_skip (n17 _ (.inl ?_))
      refine w_seq (fun Q19 n19 q19 x19 => ?_)
      refine w_blk (fun Q20 n20 q20 b20 x20 => ?_)
      obtain ⟨x4, e22, h⟩ := bindE h
      refine wsf e22 _ ?_
      obtain ⟨x5, e24, h⟩ := bindE h
      obtain ⟨x6, e25, h⟩ := bindE h
      refine w_sdrw rfl (w_absd [(0, .slice (a0.map e_impl_Definition)), (6, .uslice 2 (x3.map e_impl_place)), (7, .int .i64 v28_16), (9, .int .i64 x6), (26, .slice (a1.Body.map e_impl_Part)), (27, .int .i64 (a1.Body.length : Int)), (28, .int .i64 v28_16)] (fun P hP => ?_) ?_)
      ·simp only [V1.down, simprocAttr, tt2, tt4, tt9, tt84, tt85, tt159, tt202, tt204, tt205, e_impl_Definition, e_impl_Part, e_impl_Term, e_impl_place, e_s_impl_Term, e24, getI_get e24]
       refine w_call1 (ok_impl_Part_reason x4 a0 x5 _ e25) rfl rfl rfl rfl (.inl (by rfl)) ?_
       simp only [V1.down, simprocAttr, tt2, tt4, tt9, tt84, tt85, tt159, tt202, tt204, tt205, e_impl_Definition, e_impl_Part, e_impl_Term, e_impl_place, e_s_impl_Term, e24, getI_get e24]
       refine ⟨okP_D (by kernel_rfl), ?_⟩
       (try simp only [VN.down, simprocAttr, zz5.down, e24, getI_get e24] at hP ⊢); exact hP
      refine ws _ ?_
      rcases condE h with ⟨b27, h⟩ | ⟨b27, h⟩
      ·refine w_ct (congrArg AV.bool b27) ?_
       simp only [b27, Bool.not_true, Bool.not_false]
       refine ws _ ?_
       exact w_ret (q20 _ (q19 _ (q15 _ (q14 _ (q12 _ (r0 _ (.inl (w_fin [.int .i64 v28_16, .int .i64 x6] rfl (by cases someE h; rfl) (by decide) outs_nil))))))))
      ·refine w_cf (congrArg AV.bool b27) ?_
       simp only [b27, Bool.not_true, Bool.not_false]
       refine w_skip (n20 _ (n19 _ (.inl ?_)))
       refine wr _ ?_
       exact n15 _ (.inr ⟨_, weak_eq rfl, ih16 (IntKind.i64.wrap (v28_16 + 1)) h⟩)
     ·refine w_cf (congrArg AV.bool b18) ?_
      simp only [b18, Bool.not_true, Bool.not_false]
      refine w_ex (x17 0 _ (x15 0 _ (b14 _ (n12 _ (.inl ?_)))))
      refine ws _ ?_
      exact w_ret (r0 _ (.inl (w_fin [.int .i64 0, .int .i64 0] rfl (by cases someE h; rfl) (by decide) outs_nil)))
   obtain ⟨n, h⟩ := limE h
   exact w_loop (.inr ⟨_, weak_eq rfl, L16 n 0 h⟩)

set_option maxHeartbeats 1200000 in
theorem ok_impl_ValidDefinitions (a0 : List impl_Definition) (r : Bool) (h : impl_ValidDefinitions a0 = some r) : OkAt Cc 64 [.slice (a0.map e_impl_Definition)] (.bool r) [] := by
 refine OkAt.of_wpR (fx := [0]) Cc_ok [.tmp 2] [(0, .slice (a0.map e_impl_Definition))] Tryz.func64 rfl rfl s64 (Nat.le_of_ble_eq_true rfl) rfl rfl (fun Q0 r0 n0 => ?_)
 refine ws _ ?_
 refine w_seq (fun Q2 n2 q2 x2 => ?_)
 obtain ⟨x1, e4, h⟩ := bindE h
 rcases condE h with ⟨b5, h⟩ | ⟨b5, h⟩
 ·refine wscf b5 (ok_impl_within (a0.length : Int) 1 4 _ e4) _ ?_
  refine w_ct rfl ?_
  refine ws _ ?_
  exact w_ret (q2 _ (r0 _ (.inl (w_fin [.bool false] rfl (by cases someE h; rfl) (by decide) outs_nil))))
 ·obtain ⟨x2, e7, h⟩ := bindE h
  refine w_sreg (w_abs [(0, .slice (a0.map e_impl_Definition)), (15, .bool (!x2))] (fun P hP => ?_) ?_)
  ·simp only [V0.down, simprocAttr, zz2.down, b5]
   refine w_call0 (ok_impl_within (a0.length : Int) 1 4 _ e4) rfl rfl rfl rfl (.inl (by rfl)) ?_
   simp only [V0.down, simprocAttr, zz2.down, b5]
   refine w_callg0 (ok_impl_parametersOk a0 _ e7) rfl rfl rfl rfl (.inl (by rfl)) ?_
   simp only [V0.down, simprocAttr, zz2.down, b5]
   (try simp only [VN.down, simprocAttr, zz0.down, b5] at hP ⊢); exact hP
  rcases condE h with ⟨b8, h⟩ | ⟨b8, h⟩
  ·refine w_ct (congrArg AV.bool b8) ?_
   simp only [b8, Bool.not_true, Bool.not_false]
   refine ws _ ?_
   exact w_ret (q2 _ (r0 _ (.inl (w_fin [.bool false] rfl (by cases someE h; rfl) (by decide) outs_nil))))
  ·refine w_cf (congrArg AV.bool b8) ?_
   simp only [b8, Bool.not_true, Bool.not_false]
   refine w_skip (n2 _ (.inl ?_))
   refine w_seq (fun Q10 n10 q10 x10 => ?_)
   refine ws _ ?_
   refine w_blk (fun Q12 n12 q12 b12 x12 => ?_)
   have L14 : ∀ (n : Nat) (v18_14 : Int), impl_ValidDefinitions_l14 a0 n v18_14 = some r → lpC Cc c64_15 Q12 (stA [(0, .slice (a0.map e_impl_Definition)), (16, .slice (a0.map e_impl_Definition)), (17, .int .i64 (a0.length : Int)), (18, .int .i64 v18_14)]) := by
    intro m14
    induction m14 with
    | zero => intro v18_14 h; cases (show none = some r from h)
    | succ m14 ih14 =>
     intro v18_14 h
     replace h : impl_ValidDefinitions_b14 (impl_ValidDefinitions_l14 a0 m14) a0 v18_14 = some r := h
     refine lpC_step (fun Q13 n13 q13 x13 => ?_)
     refine ws _ ?_
     refine w_seq (fun Q15 n15 q15 x15 => ?_)
     rcases condE h with ⟨b16, h⟩ | ⟨b16, h⟩
     ·refine w_ct (congrArg AV.bool b16) ?_
      simp only [b16, Bool.not_true, Bool.not_false]
      refine w_skip (n15 _ (.inl ?_))
      refine w_seq (fun Q17 n17 q17 x17 => ?_)
      refine w_blk (fun Q18 n18 q18 b18 x18 => ?_)
      obtain ⟨x3, e20, h⟩ := bindE h
      refine wsf e20 _ ?_
      refine w_seq (fun Q21 n21 q21 x21 => ?_)
      obtain ⟨x4, e23, h⟩ := bindE h
      rcases condE h with ⟨b24, h⟩ | ⟨b24, h⟩
      ·refine w_sdrw rfl (w_absd [(0, .slice (a0.map e_impl_Definition)), (4, .ubox (e_impl_Definition x3)), (16, .slice (a0.map e_impl_Definition)), (17, .int .i64 (a0.length : Int)), (18, .int .i64 v18_14), (35, .bool true)] (fun P hP => ?_) ?_)
       ·simp only [V1.down, simprocAttr, zz2.down, b24]
        refine w_call1 (ok_impl_IsName x3.Name _ e23) rfl rfl rfl rfl (.inl (by rfl)) ?_
        simp only [V1.down, simprocAttr, zz2.down, b24]
        refine ⟨okP_D (by kernel_rfl), ?_⟩
        (try simp only [VN.down, simprocAttr, zz0.down, b24] at hP ⊢); exact hP
       refine w_ct rfl ?_
       refine ws _ ?_
       exact w_ret (q21 _ (q18 _ (q17 _ (q13 _ (q12 _ (q10 _ (r0 _ (.inl (w_fin [.bool false] rfl (by cases someE h; rfl) (by decide) outs_nil)))))))))
      ·obtain ⟨x5, e26, h⟩ := bindE h
       obtain ⟨x6, e27, h⟩ := bindE h
       refine w_sdrw rfl (w_absd [(0, .slice (a0.map e_impl_Definition)), (4, .ubox (e_impl_Definition x3)), (16, .slice (a0.map e_impl_Definition)), (17, .int .i64 (a0.length : Int)), (18, .int .i64 v18_14), (35, .bool (decide (0 ≤ x6)))] (fun P hP => ?_) ?_)
       ·simp only [V1.down, simprocAttr, zz2.down, b24, e26, @all_wd' _ e_impl_Definition 3 (fun _ => rfl)]
        refine w_call1 (ok_impl_IsName x3.Name _ e23) rfl rfl rfl rfl (.inl (by rfl)) ?_
        simp only [V1.down, simprocAttr, zz2.down, b24, e26, @all_wd' _ e_impl_Definition 3 (fun _ => rfl)]
        refine w_callg1 (ok_impl_definitionNamed x5 x3.Name _ e27) rfl rfl rfl rfl (.inl (by rfl)) ?_
        simp only [V1.down, simprocAttr, zz2.down, b24, e26, @all_wd' _ e_impl_Definition 3 (fun _ => rfl)]
        refine ⟨okP_D (by kernel_rfl), ?_⟩
        (try simp only [VN.down, simprocAttr, zz0.down, b24, e26, @all_wd' _ e_impl_Definition 3 (fun _ => rfl)] at hP ⊢); exact hP
       rcases condE h with ⟨b28, h⟩ | ⟨b28, h⟩
       ·refine w_ct (congrArg AV.bool b28) ?_
        simp only [b28, Bool.not_true, Bool.not_false]
        refine ws _ ?_
        exact w_ret (q21 _ (q18 _ (q17 _ (q13 _ (q12 _ (q10 _ (r0 _ (.inl (w_fin [.bool false] rfl (by cases someE h; rfl) (by decide) outs_nil)))))))))
       ·refine w_cf (congrArg AV.bool b28) ?_
        simp only [b28, Bool.not_true, Bool.not_false]
        refine w_skip (n21 _ (.inl ?_))
        obtain ⟨x7, e31, h⟩ := bindE h
        refine wsc (ok_impl_bodyFault a0 x3 _ e31) _ ?_
        refine ws _ ?_
        rcases condE h with ⟨b33, h⟩ | ⟨b33, h⟩
        ·refine w_ct (congrArg AV.bool b33) ?_
         simp only [b33, Bool.not_true, Bool.not_false]
         refine ws _ ?_
         exact w_ret (q18 _ (q17 _ (q13 _ (q12 _ (q10 _ (r0 _ (.inl (w_fin [.bool false] rfl (by cases someE h; rfl) (by decide) outs_nil))))))))
        ·refine w_cf (congrArg AV.bool b33) ?_
         simp only [b33, Bool.not_true, Bool.not_false]
         refine w_skip (n18 _ (n17 _ (.inl ?_)))
         refine wr _ ?_
         exact n13 _ (.inr ⟨_, weak_eq rfl, ih14 (IntKind.i64.wrap (v18_14 + 1)) h⟩)
     ·refine w_cf (congrArg AV.bool b16) ?_
      simp only [b16, Bool.not_true, Bool.not_false]
      refine w_ex (x15 0 _ (x13 0 _ (b12 _ (n10 _ (.inl ?_)))))
      refine ws _ ?_
      exact w_ret (r0 _ (.inl (w_fin [.bool true] rfl (by cases someE h; rfl) (by decide) outs_nil)))
   obtain ⟨n, h⟩ := limE h
   exact w_loop (.inr ⟨_, weak_eq rfl, L14 n 0 h⟩)

theorem ok_impl_areValues_c1 (a0 : Int) (r : Bool) (h : impl_areValues_c1 a0 = some r) : OkAt Cc 191 [.int .i64 a0] (.bool r) [] := by
 refine OkAt.of_wpR (fx := [0]) Cc_ok [.tmp 2] [(0, .int .i64 a0)] Tryz.func191 rfl rfl s191 (Nat.le_of_ble_eq_true rfl) rfl rfl (fun Q0 r0 n0 => ?_)
 refine ws _ ?_
 obtain ⟨x1, e3, h⟩ := bindE h
 refine wsc (ok_impl_isValue a0 _ e3) _ ?_
 exact w_ret (r0 _ (.inl (w_fin [.bool (!x1)] rfl (by cases someE h; rfl) (by decide) outs_nil)))

theorem ok_slices_IndexFunc_int64_int64__impl_areValues_c1 (a0 : List Int) (r : Int) (h : slices_IndexFunc_int64_int64__impl_areValues_c1 a0 = some r) : OkAt Cc 172 [.slice (a0.map e_i64), .fn 191 []] (.int .i64 r) [] := by
 refine OkAt.of_wpR (fx := [0, 1]) Cc_ok [.tmp 4] [(0, .slice (a0.map e_i64)), (1, .fn 191 [])] Tryz.func172 rfl rfl s172 (Nat.le_of_ble_eq_true rfl) rfl rfl (fun Q0 r0 n0 => ?_)
 refine ws _ ?_
 refine w_seq (fun Q2 n2 q2 x2 => ?_)
 refine ws _ ?_
 refine w_blk (fun Q4 n4 q4 b4 x4 => ?_)
 have L6 : ∀ (n : Nat) (v8_6 : Int), slices_IndexFunc_int64_int64__impl_areValues_c1_l6 a0 n v8_6 = some r → lpC Cc c172_7 Q4 (stA [(0, .slice (a0.map e_i64)), (1, .fn 191 []), (7, .int .i64 (a0.length : Int)), (8, .int .i64 v8_6)]) := by
  intro m6
  induction m6 with
  | zero => intro v8_6 h; cases (show none = some r from h)
  | succ m6 ih6 =>
   intro v8_6 h
   replace h : slices_IndexFunc_int64_int64__impl_areValues_c1_b6 (slices_IndexFunc_int64_int64__impl_areValues_c1_l6 a0 m6) a0 v8_6 = some r := h
   refine lpC_step (fun Q5 n5 q5 x5 => ?_)
   refine ws _ ?_
   refine w_seq (fun Q7 n7 q7 x7 => ?_)
   rcases condE h with ⟨b8, h⟩ | ⟨b8, h⟩
   ·refine w_ct (congrArg AV.bool b8) ?_
    simp only [b8, Bool.not_true, Bool.not_false]
    refine w_skip (n7 _ (.inl ?_))
    refine w_seq (fun Q9 n9 q9 x9 => ?_)
    refine w_blk (fun Q10 n10 q10 b10 x10 => ?_)
    refine ws _ ?_
    obtain ⟨x1, e13, h⟩ := bindE h
    obtain ⟨x2, e14, h⟩ := bindE h
    refine wscf e13 (ok_impl_areValues_c1 x1 _ e14) _ ?_
    rcases condE h with ⟨b15, h⟩ | ⟨b15, h⟩
    ·refine w_ct (congrArg AV.bool b15) ?_
     simp only [b15, Bool.not_true, Bool.not_false]
     refine ws _ ?_
     exact w_ret (q10 _ (q9 _ (q5 _ (q4 _ (q2 _ (r0 _ (.inl (w_fin [.int .i64 v8_6] rfl (by cases someE h; rfl) (by decide) outs_nil))))))))
    ·refine w_cf (congrArg AV.bool b15) ?_
     simp only [b15, Bool.not_true, Bool.not_false]
     refine w_skip (n10 _ (n9 _ (.inl ?_)))
     refine wr _ ?_
     exact n5 _ (.inr ⟨_, weak_eq rfl, ih6 (IntKind.i64.wrap (v8_6 + 1)) h⟩)
   ·refine w_cf (congrArg AV.bool b8) ?_
    simp only [b8, Bool.not_true, Bool.not_false]
    refine w_ex (x7 0 _ (x5 0 _ (b4 _ (n2 _ (.inl ?_)))))
    refine ws _ ?_
    exact w_ret (r0 _ (.inl (w_fin [.int .i64 (-1)] rfl (by cases someE h; rfl) (by decide) outs_nil)))
 obtain ⟨n, h⟩ := limE h
 exact w_loop (.inr ⟨_, weak_eq rfl, L6 n 0 h⟩)

theorem ok_slices_ContainsFunc_int64_int64__impl_areValues_c1 (a0 : List Int) (r : Bool) (h : slices_ContainsFunc_int64_int64__impl_areValues_c1 a0 = some r) : OkAt Cc 190 [.slice (a0.map e_i64), .fn 191 []] (.bool r) [] := by
 refine OkAt.of_wpR (fx := [0, 1]) Cc_ok [.tmp 4] [(0, .slice (a0.map e_i64)), (1, .fn 191 [])] Tryz.func190 rfl rfl s190 (Nat.le_of_ble_eq_true rfl) rfl rfl (fun Q0 r0 n0 => ?_)
 refine ws _ ?_
 obtain ⟨x1, e3, h⟩ := bindE h
 refine wsc (ok_slices_IndexFunc_int64_int64__impl_areValues_c1 a0 _ e3) _ ?_
 exact w_ret (r0 _ (.inl (w_fin [.bool (decide (0 ≤ x1))] rfl (by cases someE h; rfl) (by decide) outs_nil)))

theorem ok_impl_areValues (a0 : List Int) (r : Bool) (h : impl_areValues a0 = some r) : OkAt Cc 139 [.slice (a0.map e_i64)] (.bool r) [] := by
 refine OkAt.of_wpR (fx := [0]) Cc_ok [.tmp 2] [(0, .slice (a0.map e_i64))] Tryz.func139 rfl rfl s139 (Nat.le_of_ble_eq_true rfl) rfl rfl (fun Q0 r0 n0 => ?_)
 refine ws _ ?_
 obtain ⟨x1, e3, h⟩ := bindE h
 refine wsc (ok_slices_ContainsFunc_int64_int64__impl_areValues_c1 a0 _ e3) _ ?_
 exact w_ret (r0 _ (.inl (w_fin [.bool (!x1)] rfl (by cases someE h; rfl) (by decide) outs_nil)))

end Go.Proofs.YtobljppjkklojaaGreat
