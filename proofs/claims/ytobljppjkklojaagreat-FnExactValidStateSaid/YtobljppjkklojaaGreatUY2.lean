/- Part of a proof that a law returns true for every input. No condition. -/
import Derived.Test.YtobljppjkklojaaGreatUY1
namespace Go.Sh
open Go Go.Fw
def cAt (cs : List impl_Component) (i : Nat) : impl_Component := cs.getD i ⟨0, []⟩
def compV (e : List impl_Definition) (c : impl_Component) : Bool :=
 cond (decide (0 ≤ c.Definition) && decide (c.Definition ≤ (e.length : Int) - 1)) (((c.Values.length : Int) == (e.getD c.Definition.toNat ⟨[], 0, []⟩).Parameters) && dataOk c.Values) false
def compsV (s : impl_System) : Bool := (decide (1 ≤ s.Components.length) && decide (s.Components.length ≤ 3)) && allN (fun i => compV s.Definitions (cAt s.Components i)) s.Components.length
theorem comp_get {e : List impl_Definition} {n : Int} (h : (decide (0 ≤ n) && decide (n ≤ (e.length : Int) - 1)) = true) : getI e n = some (e.getD n.toNat ⟨[], 0, []⟩) := by
 simp only [Bool.and_eq_true, decide_eq_true_eq] at h
 obtain ⟨i, rfl⟩ : ∃ i : Nat, n = i := ⟨n.toNat, by omega⟩
 exact getI_nat e i _ (by omega)
theorem spec_comps (s : impl_System) (hd : s.Definitions.length ≤ 1048576) (hc : s.Components.length ≤ 1048576) (hv : ∀ c ∈ s.Components, c.Values.length ≤ 1048576) : spec_l05Components s = some (compsV s) := by
 unfold spec_l05Components compsV
 by_cases hl : 1 ≤ s.Components.length ∧ s.Components.length ≤ 3
 ·have d1 : (((s.Components.length : Int) == 0) || decide ((3 : Int) < (s.Components.length : Int))) = false := by
   rw [Bool.or_eq_false_iff, beq_eq_false_iff_ne, decide_eq_false_iff_not]; omega
  have d2 : (decide (1 ≤ s.Components.length) && decide (s.Components.length ≤ 3)) = true := by simp; omega
  rw [d1, d2, cond_false, Bool.true_and]
  refine all_loop (l := fun m i => spec_l05Components_l14 s m i) _ (fun m => ?_) (fun i hi m => ?_)
  ·simp only [spec_l05Components_l14, spec_l05Components_b14]
   rw [ltF (Nat.le_refl _)]; rfl
  ·simp only [spec_l05Components_l14, spec_l05Components_b14, spec_l00In]
   have hm : (cAt s.Components i).Values.length ≤ 1048576 := by
    have : cAt s.Components i = s.Components[i] := by simp [cAt, List.getD, hi]
    rw [this]; exact hv _ (List.getElem_mem hi)
   rw [ltT hi, getI_nat _ i ⟨0, []⟩ hi, wsucc i _ hi (by omega), w64 ((s.Definitions.length : Int) - 1) (by omega)]
   show cond true (Option.bind (some (cAt s.Components i)) _) _ = _
   simp only [cond_true, Option.bind_some]
   unfold compV
   cases hk : (decide (0 ≤ (cAt s.Components i).Definition) && decide ((cAt s.Components i).Definition ≤ (s.Definitions.length : Int) - 1))
   ·rfl
   ·rw [comp_get hk]
    simp only [Bool.not_true, cond_false, cond_true, Option.bind_some, spec_data _ hm]
    have hne : (((cAt s.Components i).Values.length : Int) != (s.Definitions.getD (cAt s.Components i).Definition.toNat ⟨[], 0, []⟩).Parameters) = !(((cAt s.Components i).Values.length : Int) == (s.Definitions.getD (cAt s.Components i).Definition.toNat ⟨[], 0, []⟩).Parameters) := rfl
    rw [hne]
    cases (((cAt s.Components i).Values.length : Int) == (s.Definitions.getD (cAt s.Components i).Definition.toNat ⟨[], 0, []⟩).Parameters) <;> cases dataOk (cAt s.Components i).Values <;> rfl
 ·have d1 : (((s.Components.length : Int) == 0) || decide ((3 : Int) < (s.Components.length : Int))) = true := by
   by_cases h0 : s.Components.length = 0
   ·simp [h0]
   ·have : decide ((3 : Int) < (s.Components.length : Int)) = true := decide_eq_true (by omega)
    rw [this, Bool.or_true]
  have d2 : (decide (1 ≤ s.Components.length) && decide (s.Components.length ≤ 3)) = false := by
   rw [Bool.and_eq_false_iff, decide_eq_false_iff_not, decide_eq_false_iff_not]; omega
  rw [d1, d2]; rfl
theorem impl_comp (e : List impl_Definition) (he : e.length ≤ 1048576) (c : impl_Component) (hc : c.Values.length ≤ 1048576) : impl_componentOk e c = some (compV e c) := by
 unfold impl_componentOk compV
 rw [impl_idx _ e.length he]
 simp only [Option.bind_some]
 cases hk : (decide (0 ≤ c.Definition) && decide (c.Definition ≤ (e.length : Int) - 1))
 ·rfl
 ·rw [comp_get hk]
  simp only [cond_true, Option.bind_some, impl_data _ hc]
  cases ((c.Values.length : Int) == (e.getD c.Definition.toNat ⟨[], 0, []⟩).Parameters) <;> rfl
theorem impl_comps (s : impl_System) (hd : s.Definitions.length ≤ 1048576) (hc : s.Components.length ≤ 1048576) (hv : ∀ c ∈ s.Components, c.Values.length ≤ 1048576) :
  slices_ContainsFunc_impl_Component__impl_SystemFault_c1 s.Components s = some (!(allN (fun i => compV s.Definitions (cAt s.Components i)) s.Components.length)) := by
 unfold slices_ContainsFunc_impl_Component__impl_SystemFault_c1 slices_IndexFunc_impl_Component__impl_SystemFault_c1
 rw [find_loop (n := s.Components.length) (fun i => !(compV s.Definitions (cAt s.Components i)))]
 ·simp only [Option.bind_some, findN_ge, Bool.not_not]
 ·intro m
  simp only [slices_IndexFunc_impl_Component__impl_SystemFault_c1_l6, slices_IndexFunc_impl_Component__impl_SystemFault_c1_b6]
  rw [ltF (Nat.le_refl _)]; rfl
 ·intro i hi m
  simp only [slices_IndexFunc_impl_Component__impl_SystemFault_c1_l6, slices_IndexFunc_impl_Component__impl_SystemFault_c1_b6]
  have hm : (cAt s.Components i).Values.length ≤ 1048576 := by
   have : cAt s.Components i = s.Components[i] := by simp [cAt, List.getD, hi]
   rw [this]; exact hv _ (List.getElem_mem hi)
  rw [ltT hi, getI_nat _ i ⟨0, []⟩ hi, wsucc i _ hi (by omega)]
  show cond true (Option.bind (some (cAt s.Components i)) _) _ = _
  simp only [cond_true, Option.bind_some, impl_SystemFault_c1_2, impl_comp _ hd _ hm]
def mAt (a : List impl_Meeting) (i : Nat) : impl_Meeting := a.getD i ⟨[], [], []⟩
def lexLess (p m : impl_Meeting) : Bool := Op.bytesLess p.Left m.Left || (p.Left == m.Left && Op.bytesLess p.Right m.Right)
def freeOf (a : List impl_Meeting) (m : impl_Meeting) : Bool := allN (fun j => !((mAt a j).Left == m.Result || (mAt a j).Right == m.Result)) a.length
def meetAt (a : List impl_Meeting) (i : Nat) : Bool :=
 ((((actOk (mAt a i).Left && actOk (mAt a i).Right) && actOk (mAt a i).Result) && (Op.bytesLess (mAt a i).Left (mAt a i).Right || (mAt a i).Left == (mAt a i).Right)) && (decide (i = 0) || lexLess (mAt a (i - 1)) (mAt a i))) && freeOf a (mAt a i)
def meetsV (a : List impl_Meeting) : Bool := decide (a.length ≤ 6) && allN (meetAt a) a.length
def smallM (a : List impl_Meeting) : Prop := a.length ≤ 1048576 ∧ ∀ m ∈ a, m.Left.length ≤ 1048576 ∧ m.Right.length ≤ 1048576 ∧ m.Result.length ≤ 1048576
theorem lex_spec (p m : impl_Meeting) : ((!(Op.bytesLess p.Left m.Left || p.Left == m.Left)) || ((p.Left == m.Left) && (!(Op.bytesLess p.Right m.Right)))) = !(lexLess p m) := by
 unfold lexLess
 cases he : p.Left == m.Left
 ·cases Op.bytesLess p.Left m.Left <;> rfl
 ·have : p.Left = m.Left := by simpa using he
  rw [this, less_self]
  cases Op.bytesLess p.Right m.Right <;> rfl
def cmpV (a b : List UInt8) : Int := cond (Op.bytesLess a b) (-1) (cond (!(Op.bytesLess a b || a == b)) 1 0)
theorem cmp_str (a b : List UInt8) : cmp_Compare_string a b = some (cmpV a b) := by
 unfold cmp_Compare_string cmp_isNaN_string cmpV
 simp only [Option.bind_some, cond_false]
 cases Op.bytesLess a b <;> cases a == b <;> rfl
theorem lex_impl (p m : impl_Meeting) : ∃ v, impl_compareMeetings p m = some v ∧ decide (0 ≤ v) = !(lexLess p m) := by
 have hlim : slices_Compare_string_string [p.Left, p.Right] [m.Left, m.Right] = some (cond (cmpV p.Left m.Left != 0) (cmpV p.Left m.Left) (cond (cmpV p.Right m.Right != 0) (cmpV p.Right m.Right) 0)) := by
  unfold slices_Compare_string_string
  refine lim_of 3 fun n hn => ?_
  obtain ⟨n, rfl⟩ : ∃ k, n = k + 3 := ⟨n - 3, by omega⟩
  have e0 : getI [p.Left, p.Right] 0 = some p.Left := rfl
  have e1 : getI [m.Left, m.Right] 0 = some m.Left := rfl
  have e2 : getI [p.Left, p.Right] 1 = some p.Right := rfl
  have e3 : getI [m.Left, m.Right] 1 = some m.Right := rfl
  have w1 : IntKind.i64.wrap (0 + 1) = 1 := by decide
  have w2 : IntKind.i64.wrap (1 + 1) = 2 := by decide
  simp only [slices_Compare_string_string_l6, slices_Compare_string_string_b6, List.length_cons, List.length_nil, e0, e1, e2, e3, w1, w2, Option.bind_some, cmp_str]
  cases cmpV p.Left m.Left != 0
  ·cases cmpV p.Right m.Right != 0 <;> rfl
  ·rfl
 unfold impl_compareMeetings
 rw [hlim]
 refine ⟨_, rfl, ?_⟩
 unfold lexLess cmpV
 cases hl : Op.bytesLess p.Left m.Left
 ·cases he : p.Left == m.Left
  ·rfl
  ·cases hr : Op.bytesLess p.Right m.Right
   ·cases p.Right == m.Right <;> rfl
   ·rfl
 ·rfl
theorem impl_free (a : List impl_Meeting) (h : a.length ≤ 1048576) (m : impl_Meeting) : slices_ContainsFunc_impl_Meeting__impl_meetingsOk_c1 a m = some (!(freeOf a m)) := by
 unfold slices_ContainsFunc_impl_Meeting__impl_meetingsOk_c1 slices_IndexFunc_impl_Meeting__impl_meetingsOk_c1
 rw [find_loop (n := a.length) (fun j => ((mAt a j).Left == m.Result || (mAt a j).Right == m.Result))]
 ·simp only [Option.bind_some, findN_ge]; rfl
 ·intro k
  simp only [slices_IndexFunc_impl_Meeting__impl_meetingsOk_c1_l6, slices_IndexFunc_impl_Meeting__impl_meetingsOk_c1_b6]
  rw [ltF (Nat.le_refl _)]; rfl
 ·intro i hi k
  simp only [slices_IndexFunc_impl_Meeting__impl_meetingsOk_c1_l6, slices_IndexFunc_impl_Meeting__impl_meetingsOk_c1_b6]
  rw [ltT hi, getI_nat _ i ⟨[], [], []⟩ hi, wsucc i _ hi (by omega)]
  simp only [cond_true, Option.bind_some, impl_meetingsOk_c1_2]
  rfl
theorem mAt_small {a : List impl_Meeting} (h : smallM a) {i : Nat} (hi : i < a.length) : (mAt a i).Left.length ≤ 1048576 ∧ (mAt a i).Right.length ≤ 1048576 ∧ (mAt a i).Result.length ≤ 1048576 := by
 have : mAt a i = a[i] := by simp [mAt, List.getD, hi]
 rw [this]; exact h.2 _ (List.getElem_mem hi)
theorem mAt_get {a : List impl_Meeting} {i : Nat} (hi : i < a.length) : getI a (i : Int) = some (mAt a i) := getI_nat a i _ hi
theorem spec_meets (a : List impl_Meeting) (h : smallM a) : spec_l05Meetings a = some (meetsV a) := by
 unfold spec_l05Meetings meetsV
 by_cases hl : 6 < a.length
 ·have d1 : decide ((6 : Int) < (a.length : Int)) = true := decide_eq_true (by omega)
  have d2 : decide (a.length ≤ 6) = false := decide_eq_false (by omega)
  rw [d1, d2]; rfl
 ·have d1 : decide ((6 : Int) < (a.length : Int)) = false := decide_eq_false (by omega)
  have d2 : decide (a.length ≤ 6) = true := decide_eq_true (by omega)
  rw [d1, d2, cond_false, Bool.true_and]
  refine all_loop (l := fun m i => spec_l05Meetings_l14 a m i) _ (fun m => ?_) (fun i hi m => ?_)
  ·simp only [spec_l05Meetings_l14, spec_l05Meetings_b14]
   rw [ltF (Nat.le_refl _)]; rfl
  ·have hin : (lim fun n => spec_l05Meetings_l44 (spec_l05Meetings_l14 a m) a (mAt a i) n (i : Int) 0) = cond (freeOf a (mAt a i)) (spec_l05Meetings_l14 a m ((i + 1 : Nat) : Int)) (some false) := by
    refine all_loopO (l := fun m' j => spec_l05Meetings_l44 (spec_l05Meetings_l14 a m) a (mAt a i) m' (i : Int) j) _ _ _ (fun m' => ?_) (fun j hj m' => ?_)
    ·simp only [spec_l05Meetings_l44, spec_l05Meetings_b44]
     rw [ltF (Nat.le_refl _), wsucc i _ hi (by omega)]; rfl
    ·simp only [spec_l05Meetings_l44, spec_l05Meetings_b44]
     rw [ltT hj, mAt_get hj, wsucc j _ hj (by omega)]
     simp only [cond_true, Option.bind_some]
     cases ((mAt a j).Left == (mAt a i).Result || (mAt a j).Right == (mAt a i).Result) <;> rfl
   simp only [spec_l05Meetings_l14, spec_l05Meetings_b14]
   rw [ltT hi, mAt_get hi]
   simp only [cond_true, Option.bind_some, spec_act, hin]
   unfold meetAt
   by_cases h0 : i = 0
   ·subst h0
    rw [lt0F]
    simp only [cond_false, decide_true, Bool.true_or, Bool.and_true]
    cases actOk (mAt a 0).Left <;> cases actOk (mAt a 0).Right <;> cases actOk (mAt a 0).Result <;> cases (Op.bytesLess (mAt a 0).Left (mAt a 0).Right || (mAt a 0).Left == (mAt a 0).Right) <;> cases freeOf a (mAt a 0) <;> rfl
   ·rw [ge0T h0, wpredG i (by omega) (by omega), mAt_get (show i - 1 < a.length by omega)]
    have hd : decide (i = 0) = false := decide_eq_false h0
    simp only [cond_true, Option.bind_some, hd, Bool.false_or, lex_spec]
    cases actOk (mAt a i).Left <;> cases actOk (mAt a i).Right <;> cases actOk (mAt a i).Result <;> cases (Op.bytesLess (mAt a i).Left (mAt a i).Right || (mAt a i).Left == (mAt a i).Right) <;> cases lexLess (mAt a (i - 1)) (mAt a i) <;> cases freeOf a (mAt a i) <;> rfl
theorem impl_meets (a : List impl_Meeting) (h : smallM a) : impl_meetingsOk a = some (meetsV a) := by
 unfold impl_meetingsOk meetsV
 rw [all_loopO (l := fun m i => impl_meetingsOk_l6 a m i) (n := a.length) (meetAt a) (some (decide ((a.length : Int) ≤ 6))) (some false)]
 ·have e : decide ((a.length : Int) ≤ 6) = decide (a.length ≤ 6) := decide_eq_decide.2 (by omega)
  rw [e]
  cases allN (meetAt a) a.length <;> cases decide (a.length ≤ 6) <;> rfl
 ·intro m
  simp only [impl_meetingsOk_l6, impl_meetingsOk_b6]
  rw [ltF (Nat.le_refl _)]; rfl
 ·intro i hi m
  have hl := h.1
  obtain ⟨s1, s2, s3⟩ := mAt_small h hi
  simp only [impl_meetingsOk_l6, impl_meetingsOk_b6]
  rw [ltT hi, mAt_get hi, wsucc i _ hi (by omega)]
  simp only [cond_true, Option.bind_some, impl_act _ s1, impl_act _ s2, impl_act _ s3, impl_free a hl]
  unfold meetAt
  by_cases h0 : i = 0
  ·subst h0
   rw [lt0F]
   simp only [cond_false, decide_true, Bool.true_or, Bool.and_true]
   cases actOk (mAt a 0).Left <;> cases actOk (mAt a 0).Right <;> cases actOk (mAt a 0).Result <;> cases (Op.bytesLess (mAt a 0).Left (mAt a 0).Right || (mAt a 0).Left == (mAt a 0).Right) <;> cases freeOf a (mAt a 0) <;> rfl
  ·rw [ge0T h0, wpredG i (by omega) (by omega), mAt_get (show i - 1 < a.length by omega)]
   obtain ⟨v, v1, v2⟩ := lex_impl (mAt a (i - 1)) (mAt a i)
   have hd : decide (i = 0) = false := decide_eq_false h0
   simp only [cond_true, Option.bind_some, hd, Bool.false_or, v1, v2]
   cases actOk (mAt a i).Left <;> cases actOk (mAt a i).Right <;> cases actOk (mAt a i).Result <;> cases (Op.bytesLess (mAt a i).Left (mAt a i).Right || (mAt a i).Left == (mAt a i).Right) <;> cases lexLess (mAt a (i - 1)) (mAt a i) <;> cases freeOf a (mAt a i) <;> rfl
end Go.Sh
