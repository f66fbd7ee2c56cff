/- Part of a proof that a law returns true for every input. No condition. -/
import Derived.Test.YtbemmmimelklkaaUD6
namespace Go.Sh
open Go Go.Fw
def nmAt (e : List impl_Definition) (i : Nat) : List UInt8 := (e.getD i ⟨[], 0, []⟩).Name
theorem at_get {e : List impl_Definition} {i : Nat} (hi : i < e.length) : e.getD i ⟨[], 0, []⟩ = e[i] := by simp [List.getD, hi]
def dupFree (e : List impl_Definition) (i : Nat) : Bool := allN (fun j => !(nmAt e j == nmAt e i)) i
noncomputable def bodyOk (e : List impl_Definition) (i : Nat) : Bool := match spec_l05Body e (e.getD i ⟨[], 0, []⟩) with
 | some r => r.2 == 0
 | none => false
noncomputable def defsV (e : List impl_Definition) : Bool := ((decide (1 ≤ e.length) && decide (e.length ≤ 4)) && allN (fun i => (nameOk (nmAt e i) && parOk (e.getD i ⟨[], 0, []⟩)) && dupFree e i) e.length) && allN (bodyOk e) e.length
theorem bodyOk_get {e : List impl_Definition} (h : smallDs e) (h4 : e.length ≤ 4) (hp : parsOk e = true) {i : Nat} (hi : i < e.length) :
  ∃ r, spec_l05Body e e[i] = some r ∧ impl_bodyFault e e[i] = some r ∧ decide (0 < r.2) = !(bodyOk e i) ∧ (r.2 != 0) = !(bodyOk e i) ∧ (bodyOk e i = true → shapeOk e[i].Body = true ∧ r.2 = 0) := by
 obtain ⟨r, r1, r2, r3, r4⟩ := body_eq e h4 e[i] (h.2 _ (List.getElem_mem hi)) (pars_get hp i hi)
 have hb : bodyOk e i = (r.2 == 0) := by unfold bodyOk; rw [at_get hi, r1]
 refine ⟨r, r1, r2, ?_, ?_, fun hh => ?_⟩
 ·rw [hb]
  by_cases h0 : r.2 = 0
  ·rw [h0]; rfl
  ·have e1 : (r.2 == 0) = false := by simpa using h0
   rw [e1]; exact decide_eq_true (by omega)
 ·rw [hb]; rfl
 ·rw [hb] at hh
  have h0 : r.2 = 0 := by simpa using hh
  exact ⟨r4 h0, h0⟩
theorem allN_and {p q : Nat → Bool} {n : Nat} : allN (fun i => p i && q i) n = (allN p n && allN q n) := by
 rw [Bool.eq_iff_iff, Bool.and_eq_true, allN_iff, allN_iff, allN_iff]
 constructor
 ·intro h; exact ⟨fun i hi => ((Bool.and_eq_true _ _).mp (h i hi)).1, fun i hi => ((Bool.and_eq_true _ _).mp (h i hi)).2⟩
 ·rintro ⟨h1, h2⟩ i hi; rw [h1 i hi, h2 i hi]; rfl
theorem spec_defs (e : List impl_Definition) (h : smallDs e) : spec_l05Defs e = some (defsV e) := by
 unfold spec_l05Defs defsV
 by_cases hl : 1 ≤ e.length ∧ e.length ≤ 4
 ·have d1 : (((e.length : Int) == 0) || decide ((4 : Int) < (e.length : Int))) = false := by
   rw [Bool.or_eq_false_iff, beq_eq_false_iff_ne, decide_eq_false_iff_not]; omega
  have d2 : (decide (1 ≤ e.length) && decide (e.length ≤ 4)) = true := by simp; omega
  rw [d1, d2, cond_false, Bool.true_and]
  rw [all_loopO (l := fun m i => spec_l05Defs_l14 e m i) (n := e.length) (fun i => (nameOk (nmAt e i) && parOk (e.getD i ⟨[], 0, []⟩)) && dupFree e i) (lim fun n => spec_l05Defs_l56 e n 0) (some false)]
  ·cases ha : allN (fun i => (nameOk (nmAt e i) && parOk (e.getD i ⟨[], 0, []⟩)) && dupFree e i) e.length
   ·rfl
   ·have hp : parsOk e = true := by
     rw [allN_and, allN_and, Bool.and_eq_true, Bool.and_eq_true] at ha
     exact ha.1.2
    rw [cond_true, Bool.true_and]
    rw [all_loopO (l := fun m i => spec_l05Defs_l56 e m i) (n := e.length) (bodyOk e) (some true) (some false)]
    ·cases allN (bodyOk e) e.length <;> rfl
    ·intro m
     simp only [spec_l05Defs_l56, spec_l05Defs_b56]
     rw [ltF (Nat.le_refl _)]; rfl
    ·intro i hi m
     obtain ⟨r, r1, _, r3, _⟩ := bodyOk_get h hl.2 hp hi
     simp only [spec_l05Defs_l56, spec_l05Defs_b56]
     rw [ltT hi, getI_lt _ i hi, wsucc i _ hi (by omega)]
     simp only [cond_true, Option.bind_some, r1, r3]
     cases bodyOk e i <;> rfl
  ·intro m
   simp only [spec_l05Defs_l14, spec_l05Defs_b14]
   rw [ltF (Nat.le_refl _)]; rfl
  ·intro i hi m
   simp only [spec_l05Defs_l14, spec_l05Defs_b14]
   rw [ltT hi, getI_lt _ i hi]
   simp only [cond_true, Option.bind_some, spec_name, spec_l00In]
   rw [all_loopO (l := fun m' j => spec_l05Defs_l34 (spec_l05Defs_l14 e m) e m' (i : Int) j) (n := i) (fun j => !(nmAt e j == nmAt e i)) (spec_l05Defs_l14 e m ((i + 1 : Nat) : Int)) (some false)]
   ·have e1 : nmAt e i = e[i].Name := by unfold nmAt; rw [at_get hi]
    rw [← e1, at_get hi]
    show cond (!nameOk (nmAt e i)) _ (cond (!parOk e[i]) _ (cond (dupFree e i) _ _)) = _
    cases nameOk (nmAt e i) <;> cases parOk e[i] <;> cases dupFree e i <;> rfl
   ·intro m'
    simp only [spec_l05Defs_l34, spec_l05Defs_b34]
    rw [ltF (Nat.le_refl _), wsucc i _ hi (by omega)]; rfl
   ·intro j hj m'
    have hje : j < e.length := by omega
    simp only [spec_l05Defs_l34, spec_l05Defs_b34]
    rw [ltT hj, getI_lt _ j hje, getI_lt _ i hi, wsucc j _ hj (by omega)]
    simp only [cond_true, Option.bind_some, nmAt, at_get hi, at_get hje]
    cases e[j].Name == e[i].Name <;> rfl
 ·have d1 : (((e.length : Int) == 0) || decide ((4 : Int) < (e.length : Int))) = true := by
   by_cases h0 : e.length = 0
   ·simp [h0]
   ·have : decide ((4 : Int) < (e.length : Int)) = true := decide_eq_true (by omega)
    rw [this, Bool.or_true]
  have d2 : (decide (1 ≤ e.length) && decide (e.length ≤ 4)) = false := by
   rw [Bool.and_eq_false_iff, decide_eq_false_iff_not, decide_eq_false_iff_not]; omega
  rw [d1, d2]; rfl
theorem impl_named (e : List impl_Definition) (i : Nat) (hi : i < e.length) (h4 : e.length ≤ 4) : ((subL e 0 (i : Int)).bind fun x5 => (impl_definitionNamed x5 e[i].Name).bind fun x6 => some (decide (0 ≤ x6))) = some (!(dupFree e i)) := by
 rw [subL_take e i (by omega)]
 simp only [Option.bind_some]
 unfold impl_definitionNamed slices_IndexFunc_impl_Definition__impl_definitionNamed_c1
 have hlen : (e.take i).length = i := by rw [List.length_take]; omega
 rw [find_loop (n := i) (fun j => nmAt e j == nmAt e i)]
 ·simp only [Option.bind_some, findN_ge]; rfl
 ·intro m
  simp only [slices_IndexFunc_impl_Definition__impl_definitionNamed_c1_l6, slices_IndexFunc_impl_Definition__impl_definitionNamed_c1_b6]
  rw [hlen, ltF (Nat.le_refl _)]; rfl
 ·intro j hj m
  have hje : j < e.length := by omega
  simp only [slices_IndexFunc_impl_Definition__impl_definitionNamed_c1_l6, slices_IndexFunc_impl_Definition__impl_definitionNamed_c1_b6]
  rw [hlen, ltT hj, getI_lt _ j (by omega), wsucc j _ hj (by omega)]
  have : (e.take i)[j]'(by omega) = e[j] := by simp
  simp only [cond_true, Option.bind_some, impl_definitionNamed_c1_2, this, nmAt, at_get hi, at_get hje]
theorem impl_defs (e : List impl_Definition) (h : smallDs e) : impl_ValidDefinitions e = some (defsV e) := by
 unfold impl_ValidDefinitions impl_within defsV
 have hc1 : decide ((1 : Int) ≤ (e.length : Int)) = decide (1 ≤ e.length) := decide_eq_decide.2 (by omega)
 have hc2 : decide ((e.length : Int) ≤ 4) = decide (e.length ≤ 4) := decide_eq_decide.2 (by omega)
 simp only [Option.bind_some]
 rw [hc1, hc2]
 cases hl : (decide (1 ≤ e.length) && decide (e.length ≤ 4))
 ·rfl
 ·have hl' : 1 ≤ e.length ∧ e.length ≤ 4 := by simpa using hl
  rw [impl_pars e h.1]
  simp only [Bool.not_true, cond_false, Option.bind_some, Bool.true_and]
  have hsplit : allN (fun i => (nameOk (nmAt e i) && parOk (e.getD i ⟨[], 0, []⟩)) && dupFree e i) e.length = ((allN (fun i => nameOk (nmAt e i)) e.length && parsOk e) && allN (dupFree e) e.length) := by
   rw [allN_and, allN_and]; rfl
  rw [hsplit]
  cases hp : parsOk e
  ·simp
  ·simp only [Bool.not_true, cond_false, Bool.and_true]
   rw [all_loopO (l := fun m i => impl_ValidDefinitions_l14 e m i) (n := e.length) (fun i => (nameOk (nmAt e i) && dupFree e i) && bodyOk e i) (some true) (some false)]
   ·rw [allN_and, allN_and]
    cases ((allN (fun i => nameOk (nmAt e i)) e.length && allN (fun i => dupFree e i) e.length) && allN (fun i => bodyOk e i) e.length) <;> rfl
   ·intro m
    simp only [impl_ValidDefinitions_l14, impl_ValidDefinitions_b14]
    rw [ltF (Nat.le_refl _)]; rfl
   ·intro i hi m
    obtain ⟨r, _, r2, _, r4, _⟩ := bodyOk_get h hl'.2 hp hi
    have hn := impl_named e i hi hl'.2
    have hsm := (h.2 _ (List.getElem_mem hi)).1
    simp only [impl_ValidDefinitions_l14, impl_ValidDefinitions_b14]
    rw [ltT hi, getI_lt _ i hi, wsucc i _ hi (by omega)]
    simp only [cond_true, Option.bind_some, impl_name _ (show e[i].Name.length ≤ 140737488355328 by omega), nmAt, at_get hi]
    cases nameOk e[i].Name
    ·rfl
    ·simp only [Bool.not_true, cond_false, Bool.true_and]
     rw [subL_take e i (by omega)] at hn ⊢
     simp only [Option.bind_some] at hn ⊢
     obtain ⟨v, hv, hv2⟩ := bindE hn
     rw [hv]
     simp only [Option.some.injEq] at hv2
     simp only [Option.bind_some, hv2, r2, r4]
     cases dupFree e i <;> cases bodyOk e i <;> rfl
theorem defs_get {e : List impl_Definition} (h : smallDs e) (hv : defsV e = true) : 1 ≤ e.length ∧ e.length ≤ 4 ∧ ∀ i (hi : i < e.length), (0 ≤ e[i].Parameters ∧ e[i].Parameters ≤ 3) ∧ shapeOk e[i].Body = true ∧ nameOk e[i].Name = true ∧
  ∃ r, spec_l05Body e e[i] = some r ∧ r.2 = 0 := by
 unfold defsV at hv
 rw [Bool.and_eq_true, Bool.and_eq_true, Bool.and_eq_true, decide_eq_true_eq, decide_eq_true_eq, allN_and, allN_and, Bool.and_eq_true, Bool.and_eq_true] at hv
 obtain ⟨⟨⟨h1, h2⟩, ⟨h3, h4⟩, h5⟩, h6⟩ := hv
 refine ⟨h1, h2, fun i hi => ?_⟩
 obtain ⟨r, r1, _, _, _, r5⟩ := bodyOk_get h h2 h4 hi
 obtain ⟨s1, s2⟩ := r5 (allN_iff.1 h6 i hi)
 have hn := allN_iff.1 h3 i hi
 rw [nmAt, at_get hi] at hn
 exact ⟨pars_get h4 i hi, s1, hn, r, r1, s2⟩
end Go.Sh
