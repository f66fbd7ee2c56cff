/- Part of a proof that a law returns true for every input. No condition. -/
import Derived.Test.YtobljppjkklojaaGreatUY5
import Derived.Test.YtobljppjkklojaaGreatUD16
namespace Go.Sh
open Go Go.Fw
noncomputable def pointV (e : List impl_Definition) (p : impl_Point) : Bool := (spec_l07Is e p).getD false
theorem point_both (e : List impl_Definition) (h : smallDs e) (hv : defsV e = true) (p : impl_Point) (hp : p.Values.length ≤ 1048576) : spec_l07Is e p = some (pointV e p) ∧ impl_pointOk e p = some (pointV e p) := by
 obtain ⟨b, h1, h2⟩ := point_eq e h hv p hp
 have : pointV e p = b := by unfold pointV; rw [h1]; rfl
 rw [this]; exact ⟨h1, h2⟩
def qAt (q : List impl_Point) (i : Nat) : impl_Point := q.getD i ⟨0, 0, []⟩
noncomputable def stateV (s : impl_System) (q : List impl_Point) : Bool := ((q.length : Int) == (s.Components.length : Int)) && allN (fun i => pointV s.Definitions (qAt q i)) q.length
theorem qAt_small {q : List impl_Point} (hv : ∀ p ∈ q, p.Values.length ≤ 1048576) {i : Nat} (hi : i < q.length) : (qAt q i).Values.length ≤ 1048576 := by
 have : qAt q i = q[i] := by simp [qAt, List.getD, hi]
 rw [this]; exact hv _ (List.getElem_mem hi)
theorem spec_state (s : impl_System) (h : smallDs s.Definitions) (hd : defsV s.Definitions = true) (q : List impl_Point) (hq : q.length ≤ 1048576) (hv : ∀ p ∈ q, p.Values.length ≤ 1048576) : spec_l07State s q = some (stateV s q) := by
 unfold spec_l07State stateV
 have e : ((q.length : Int) != (s.Components.length : Int)) = !((q.length : Int) == (s.Components.length : Int)) := rfl
 rw [e]
 cases ((q.length : Int) == (s.Components.length : Int))
 ·rfl
 ·rw [Bool.true_and, Bool.not_true, cond_false]
  refine all_loop (l := fun m i => spec_l07State_l14 s q m i) _ (fun m => ?_) (fun i hi m => ?_)
  ·simp only [spec_l07State_l14, spec_l07State_b14]
   rw [ltF (Nat.le_refl _)]; rfl
  ·simp only [spec_l07State_l14, spec_l07State_b14]
   rw [ltT hi, getI_nat _ i ⟨0, 0, []⟩ hi, wsucc i _ hi (by omega)]
   show cond true (Option.bind (some (qAt q i)) _) _ = _
   simp only [cond_true, Option.bind_some, (point_both _ h hd _ (qAt_small hv hi)).1]
   cases pointV s.Definitions (qAt q i) <;> rfl
theorem impl_state (s : impl_System) (h : smallDs s.Definitions) (hd : defsV s.Definitions = true) (q : List impl_Point) (hq : q.length ≤ 1048576) (hv : ∀ p ∈ q, p.Values.length ≤ 1048576) :
  slices_ContainsFunc_impl_Point__impl_ValidState_c1 q s = some (!(allN (fun i => pointV s.Definitions (qAt q i)) q.length)) := by
 unfold slices_ContainsFunc_impl_Point__impl_ValidState_c1 slices_IndexFunc_impl_Point__impl_ValidState_c1
 rw [find_loop (n := q.length) (fun i => !(pointV s.Definitions (qAt q i)))]
 ·simp only [Option.bind_some, findN_ge, Bool.not_not]
 ·intro m
  simp only [slices_IndexFunc_impl_Point__impl_ValidState_c1_l6, slices_IndexFunc_impl_Point__impl_ValidState_c1_b6]
  rw [ltF (Nat.le_refl _)]; rfl
 ·intro i hi m
  simp only [slices_IndexFunc_impl_Point__impl_ValidState_c1_l6, slices_IndexFunc_impl_Point__impl_ValidState_c1_b6]
  rw [ltT hi, getI_nat _ i ⟨0, 0, []⟩ hi, wsucc i _ hi (by omega)]
  show cond true (Option.bind (some (qAt q i)) _) _ = _
  simp only [cond_true, Option.bind_some, impl_ValidState_c1_2, (point_both _ h hd _ (qAt_small hv hi)).2]
theorem fault_defs {s : impl_System} (h : (faultV s == 0) = true) : defsV s.Definitions = true := by
 cases hd : defsV s.Definitions
 ·unfold faultV at h; rw [hd] at h; simp at h
 ·rfl
theorem state_both (s : impl_System) (h : smallY s) (q : List impl_Point) (hq : q.length ≤ 1048576) (hv : ∀ p ∈ q, p.Values.length ≤ 1048576) : ∃ b, spec_ValidState s q = some b ∧ impl_ValidState s q = some b := by
 unfold spec_ValidState impl_ValidState
 rw [spec_valid _ h, impl_valid_sys _ h]
 simp only [Option.bind_some]
 cases hf : (faultV s == 0)
 ·exact ⟨false, rfl, rfl⟩
 ·have hd := fault_defs hf
  rw [spec_state s h.1 hd q hq hv, impl_state s h.1 hd q hq hv]
  refine ⟨stateV s q, rfl, ?_⟩
  unfold stateV
  simp only [Option.bind_some, cond_true, Bool.not_not]
  cases ((q.length : Int) == (s.Components.length : Int)) <;> rfl
theorem eqBBs (b : Bool) : (!(b == b)) = false := by cases b <;> rfl
theorem ValidState_true (a : laws_System) (q : List laws_Point) (ha : wf_laws_System a) (hq : q.length ≤ 9223372036854775807 ∧ ∀ y ∈ q, wf_laws_Point y) : laws_FnExactValidState a q = some true := by
 unfold laws_FnExactValidState
 obtain ⟨r, h1, h2⟩ := law_sys a ha
 rw [h1]
 simp only [Option.bind_some]
 cases hr : decide (r < 0)
 ·obtain ⟨h3, h4, h5, h6, h7⟩ := h2 hr
  rw [sz_PointS q r hq h7 (by omega)]
  simp only [cond_false, Option.bind_some]
  by_cases hs : ((sizeL size_laws_Point q : Nat) : Int) ≤ r
  ·rw [bud_le hs]
   have hlt : decide (r - ((sizeL size_laws_Point q : Nat) : Int) < 0) = false := decide_eq_false (by omega)
   have hs2 : sizeL size_laws_Point q ≤ 1048576 := by omega
   have hs3 : sizeL size_impl_Point (q.map conv_laws_Point) ≤ 1048576 := by
    rw [sizeL_map]; simp only [sc_laws_Point]; exact hs2
   have hl : (q.map conv_laws_Point).length ≤ 1048576 := Nat.le_trans (sizeL_len size_impl_Point _) hs3
   have hv : ∀ p ∈ q.map conv_laws_Point, p.Values.length ≤ 1048576 := fun p hp => by
    have h8 : size_impl_Point p ≤ sizeL size_impl_Point (q.map conv_laws_Point) := sizeL_mem hp
    have h9 : size_impl_Point p ≤ 1048576 := by omega
    clear h8
    unfold size_impl_Point at h9; omega
   rw [hlt, h3, to_PointS q hs2]
   obtain ⟨b, b1, b2⟩ := state_both _ h5 _ hl hv
   simp only [cond_false, Option.bind_some, b1, b2, eqBBs, h4, Bool.not_true, eq_PointS _ hs3]
  ·rw [bud_gt (by omega)]; rfl
 ·rfl
end Go.Sh
