/- Part of a proof that a law returns true for every input. No condition. -/
import Derived.Test.YtbemmmimelklkaaUD4
namespace Go.Sh
open Go Go.Fw
theorem all_loopO {β : Type} {l : Nat → Int → Option β} {n : Nat} (p : Nat → Bool) (good bad : Option β) (h0 : ∀ m, l (m + 1) (n : Int) = good)
  (hs : ∀ i, i < n → ∀ m, l (m + 1) (i : Int) = cond (p i) (l m ((i + 1 : Nat) : Int)) bad) : lim (fun m => l m 0) = cond (allN p n) good bad := by
 rw [up_lim (n := n) (fun i => cond ((List.range' i (n - i)).all p) good bad)]
 ·simp [allN, List.range_eq_range']
 ·intro m; rw [h0]; simp
 ·intro i hi m ih
  rw [hs i hi, ih, show n - i = (n - (i + 1)) + 1 by omega, List.range'_succ]
  cases hp : p i <;> simp [hp]
def smallD (d : impl_Definition) : Prop := d.Name.length ≤ 1048576 ∧ d.Body.length ≤ 1048576 ∧ ∀ p ∈ d.Body, smallP p
def shapeOk (b : List impl_Part) : Bool := (decide (1 ≤ b.length) && decide (b.length ≤ 20)) && walkP b 1
theorem shape_end {b : List impl_Part} (h : shapeOk b = true) : endI b 1 = some b.length ∧ 1 ≤ b.length ∧ b.length ≤ 20 := by
 simp only [shapeOk, walkP_end, Bool.and_eq_true, decide_eq_true_eq, beq_iff_eq] at h
 exact ⟨h.2, h.1.1, h.1.2⟩
def placeAt (d : impl_Definition) (i : Nat) : impl_place := (placesS d.Body [⟨d.Parameters, false⟩]).getD i ⟨0, false⟩
theorem place_spec (d : impl_Definition) (h : shapeOk d.Body = true) (hp : 0 ≤ d.Parameters ∧ d.Parameters ≤ 3) (i : Nat) (hi : i < d.Body.length) :
  spec_l05Scope d (i : Int) = some (placeAt d i).scope ∧ 0 ≤ (placeAt d i).scope ∧ (placeAt d i).scope ≤ 29 ∧
   (placeAt d i).behind = behAt d.Body i ∧
   (placesS d.Body [⟨d.Parameters, false⟩])[i]? = some (placeAt d i) := by
 obtain ⟨h1, h2, h3⟩ := shape_end h
 obtain ⟨s, pl, e1, e2, e3⟩ := places_scope d.Body [⟨d.Parameters, false⟩] d.Body.length h1 i hi
 have hs : s = ⟨d.Parameters, false⟩ := by
  simp only [treeOf, h1] at e1
  rw [if_pos hi] at e1
  exact (Option.some.inj e1).symm
 subst hs
 have hpl : placeAt d i = pl := by unfold placeAt; rw [List.getD_eq_getElem?_getD, e2]; rfl
 have hc := cntS_le d.Body i
 simp only at e3
 refine ⟨?_, ?_, ?_, ?_, ?_⟩
 ·rw [spec_scope d (by omega) h1 (by omega) i hi, hpl, e3]
 ·rw [hpl, e3]; omega
 ·rw [hpl, e3]; omega
 ·rw [hpl]
  exact places_behind1 d.Body ⟨d.Parameters, false⟩ rfl i pl e2
 ·rw [hpl]; exact e2
theorem body_eq (list : List impl_Definition) (hl : list.length ≤ 4) (d : impl_Definition) (hd : smallD d) (hp : 0 ≤ d.Parameters ∧ d.Parameters ≤ 3) :
  ∃ r, spec_l05Body list d = some r ∧ impl_bodyFault list d = some r ∧ 0 ≤ r.2 ∧ (r.2 = 0 → shapeOk d.Body = true) := by
 unfold spec_l05Body impl_bodyFault impl_within
 rw [spec_shape _ hd.2.1]
 have hend := impl_end d hd.2.1 0 (Nat.zero_le _)
 rw [show ((0 : Nat) : Int) = 0 from rfl, List.drop_zero] at hend
 simp only [Option.bind_some]
 have hc1 : decide ((1 : Int) ≤ (d.Body.length : Int)) = decide (1 ≤ d.Body.length) := decide_eq_decide.2 (by omega)
 have hc2 : decide ((d.Body.length : Int) ≤ 20) = decide (d.Body.length ≤ 20) := decide_eq_decide.2 (by omega)
 rw [hc1, hc2]
 show ∃ r, cond (!shapeOk d.Body) _ _ = _ ∧ _
 cases hs : shapeOk d.Body
 ·refine ⟨(0, 1), rfl, ?_, by decide, fun h => by cases h⟩
  cases hc : (decide (1 ≤ d.Body.length) && decide (d.Body.length ≤ 20))
  ·rfl
  ·rw [hend]
   have hw : walkP d.Body 1 = false := by
    unfold shapeOk at hs; rw [hc, Bool.true_and] at hs; exact hs
   have : (endV 0 (endI d.Body 1) != (d.Body.length : Int)) = true := by
    rw [walkP_end] at hw
    cases he : endI d.Body 1 with
    | none => simp only [endV, bne_iff_ne]; omega
    | some n =>
      rw [he] at hw
      have hne : n ≠ d.Body.length := fun e => by simp [e] at hw
      simp only [endV, bne_iff_ne]; omega
   simp only [Bool.not_true, cond_false, Option.bind_some, this, cond_true]
 ·obtain ⟨h1, h2, h3⟩ := shape_end hs
  have hc : (decide (1 ≤ d.Body.length) && decide (d.Body.length ≤ 20)) = true := by simp; omega
  have hne : (endV 0 (some d.Body.length) != (d.Body.length : Int)) = false := by simp [endV]
  rw [hc, hend, h1]
  simp only [Bool.not_true, cond_false, Option.bind_some, hne]
  rw [impl_places d hd.2.1 h1 hp.1 (by omega)]
  simp only [Option.bind_some]
  have key : ∀ i, i ≤ d.Body.length → ∃ r : Int × Int, (∀ m, d.Body.length - i < m → spec_l05Body_l14 list d m (i : Int) = some r) ∧
    (∀ m, d.Body.length - i < m → impl_bodyFault_l16 list d (placesS d.Body [⟨d.Parameters, false⟩]) m (i : Int) = some r) ∧ 0 ≤ r.2 := by
   refine down d.Body.length ⟨(0, 0), fun m hm => ?_, fun m hm => ?_, by decide⟩ ?_
   ·obtain ⟨m, rfl⟩ : ∃ j, m = j + 1 := ⟨m - 1, by omega⟩
    simp only [spec_l05Body_l14, spec_l05Body_b14]
    rw [ltF (Nat.le_refl _)]; rfl
   ·obtain ⟨m, rfl⟩ : ∃ j, m = j + 1 := ⟨m - 1, by omega⟩
    simp only [impl_bodyFault_l16, impl_bodyFault_b16]
    rw [ltF (Nat.le_refl _)]; rfl
   ·rintro i hi ⟨r, r1, r2, r3⟩
    obtain ⟨q1, q2, q3, q4, q5⟩ := place_spec d hs hp i hi
    obtain ⟨v, v1, v2, v3⟩ := reason_eq list hl d i hi h3 (hd.2.2 _ (List.getElem_mem hi)) (placeAt d i) q1 ⟨q2, q3⟩ q4
    have hg : getI (placesS d.Body [⟨d.Parameters, false⟩]) (i : Int) = some (placeAt d i) := by
     unfold getI; rw [if_pos (by omega)]; exact q5
    by_cases hv : v = 0
    ·subst hv
     refine ⟨r, fun m hm => ?_, fun m hm => ?_, r3⟩
     ·obtain ⟨m, rfl⟩ : ∃ j, m = j + 1 := ⟨m - 1, by omega⟩
      simp only [spec_l05Body_l14, spec_l05Body_b14]
      rw [ltT hi, v1, wsucc i _ hi (by omega), ← r1 m (by omega)]; rfl
     ·obtain ⟨m, rfl⟩ : ∃ j, m = j + 1 := ⟨m - 1, by omega⟩
      simp only [impl_bodyFault_l16, impl_bodyFault_b16]
      rw [ltT hi, getI_lt _ i hi, hg]
      simp only [cond_true, Option.bind_some, v2]
      rw [wsucc i _ hi (by omega), ← r2 m (by omega)]; rfl
    ·have hv1 : decide (0 < v) = true := decide_eq_true (by omega)
     have hv2 : (v != 0) = true := by simpa using hv
     refine ⟨((i : Int), v), fun m hm => ?_, fun m hm => ?_, v3⟩
     ·obtain ⟨m, rfl⟩ : ∃ j, m = j + 1 := ⟨m - 1, by omega⟩
      simp only [spec_l05Body_l14, spec_l05Body_b14]
      rw [ltT hi, v1]
      simp only [cond_true, Option.bind_some, hv1]
     ·obtain ⟨m, rfl⟩ : ∃ j, m = j + 1 := ⟨m - 1, by omega⟩
      simp only [impl_bodyFault_l16, impl_bodyFault_b16]
      rw [ltT hi, getI_lt _ i hi, hg]
      simp only [cond_true, Option.bind_some, v2, hv2]
  obtain ⟨r, r1, r2, r3⟩ := key 0 (Nat.zero_le _)
  refine ⟨r, lim_of (d.Body.length + 1) fun m hm => r1 m (by omega), lim_of (d.Body.length + 1) fun m hm => r2 m (by omega), r3, fun _ => trivial⟩
def parOk (d : impl_Definition) : Bool := decide (0 ≤ d.Parameters) && decide (d.Parameters ≤ 3)
def parsOk (list : List impl_Definition) : Bool := allN (fun i => parOk (list.getD i ⟨[], 0, []⟩)) list.length
theorem pars_get {list : List impl_Definition} (h : parsOk list = true) (i : Nat) (hi : i < list.length) : 0 ≤ list[i].Parameters ∧ list[i].Parameters ≤ 3 := by
 have := allN_iff.1 h i hi
 have e : list.getD i ⟨[], 0, []⟩ = list[i] := by simp [List.getD, hi]
 rw [e] at this
 simpa [parOk] using this
theorem impl_pars (list : List impl_Definition) (hl : list.length ≤ 1048576) : impl_parametersOk list = some (parsOk list) := by
 unfold impl_parametersOk slices_ContainsFunc_impl_Definition__impl_parametersOk_c1 slices_IndexFunc_impl_Definition__impl_parametersOk_c1
 rw [find_loop (n := list.length) (fun i => !parOk (list.getD i ⟨[], 0, []⟩))]
 ·simp only [Option.bind_some, findN_ge, Bool.not_not]; rfl
 ·intro m
  simp only [slices_IndexFunc_impl_Definition__impl_parametersOk_c1_l6, slices_IndexFunc_impl_Definition__impl_parametersOk_c1_b6]
  rw [ltF (Nat.le_refl _)]; rfl
 ·intro i hi m
  simp only [slices_IndexFunc_impl_Definition__impl_parametersOk_c1_l6, slices_IndexFunc_impl_Definition__impl_parametersOk_c1_b6]
  rw [ltT hi, getI_nat _ i ⟨[], 0, []⟩ hi, wsucc i _ hi (by omega)]
  simp only [cond_true, Option.bind_some, impl_parametersOk_c1, impl_within]
  rfl
def smallDs (list : List impl_Definition) : Prop := list.length ≤ 1048576 ∧ ∀ d ∈ list, smallD d
end Go.Sh
