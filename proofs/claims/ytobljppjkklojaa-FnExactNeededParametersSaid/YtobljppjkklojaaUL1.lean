/- Part of a proof that a law returns true for every input. No condition. -/
import Derived.Test.YtobljppjkklojaaUA
import Derived.Test.YtobljppjkklojaaUB
import Derived.Test.YtobljppjkklojaaUL0
namespace Go.Sh
open Go Go.Fw
def wfold (p : Int) (s : List Int) : Int := s.foldl (fun p n => IntKind.i64.wrap (p * IntKind.i64.wrap (n + 1))) p
def le4 (v : Int) : Bool := decide (v ≤ 4096)
def sumsV (s : List Int) : Bool := decide (s.length ≤ 8) && (s.all (fun n => inR n 1 7) && le4 (wfold 1 s))
def tauS : List UInt8 := [116, 97, 117]
def actOk (s : List UInt8) : Bool := nameOk s && !(s == tauS)
def eachV (es : List (List impl_Term)) (v : Int) : Bool := es.all fun e => termsV e v 60
def sumV (x : impl_Summand) (p : Int) : Bool :=
 sumsV x.Sums && (termsV x.Guard (p + x.Sums.length) 60 && ((x.Next.length : Int) == p && ((if x.Name = tauS then decide (x.Arguments.length = 0) else actOk x.Name && decide (x.Arguments.length ≤ 2)) &&
  (eachV x.Arguments (p + x.Sums.length) && eachV x.Next (p + x.Sums.length)))))
def dataV (s : List Int) (p : Int) : Bool := (s.length : Int) == p && s.all (fun n => inR n 0 63)
def linV (l : impl_Linear) : Bool := inR l.Parameters 0 21 && (dataV l.Start l.Parameters && (decide (l.Summands.length ≤ 60) && l.Summands.all fun x => sumV x l.Parameters))
theorem wfold_nil (p : Int) : wfold p [] = p := rfl
theorem wfold_cons (p n : Int) (s : List Int) : wfold p (n :: s) = wfold (IntKind.i64.wrap (p * IntKind.i64.wrap (n + 1))) s := rfl
theorem inR_eq (n lo hi : Int) : (decide (lo ≤ n) && decide (n ≤ hi)) = inR n lo hi := rfl
theorem wfold_pos : ∀ (s : List Int) (p : Int), s.all (fun n => inR n 1 7) = true → 1 ≤ p → p * 8 ^ s.length ≤ 1099511627776 → 1 ≤ wfold p s
 | [], p, _, h, _ => h
 | n :: s, p, ha, h, hb => by
   simp only [List.all_cons, Bool.and_eq_true, inR, decide_eq_true_eq] at ha
   obtain ⟨⟨h1, h2⟩, h3⟩ := ha
   have e1 : IntKind.i64.wrap (n + 1) = n + 1 := w64 _ (by omega)
   have hp8 : (1 : Int) ≤ 8 ^ s.length := by
    have : (0 : Int) < 8 ^ s.length := Int.pow_pos (by decide)
    omega
   have hb2 : p * 8 * 8 ^ s.length ≤ 1099511627776 := by
    have : p * 8 * 8 ^ s.length = p * 8 ^ (n :: s).length := by rw [List.length_cons, Int.pow_succ, Int.mul_assoc, Int.mul_comm 8]
    rw [this]; exact hb
   have hle : p * (n + 1) ≤ p * 8 := Int.mul_le_mul_of_nonneg_left (by omega) (by omega)
   have hp8b : p * 8 * 1 ≤ p * 8 * 8 ^ s.length := Int.mul_le_mul_of_nonneg_left hp8 (by omega)
   have hge : p * 1 ≤ p * (n + 1) := Int.mul_le_mul_of_nonneg_left (by omega) (by omega)
   have e2 : IntKind.i64.wrap (p * (n + 1)) = p * (n + 1) := w64 _ (by omega)
   simp only [wfold, List.foldl_cons, e1, e2]
   refine wfold_pos s (p * (n + 1)) (by simpa [inR] using h3) (by omega) ?_
   exact Int.le_trans (Int.mul_le_mul_of_nonneg_right hle (by omega)) hb2
def trv (v : Int) (s : List Int) : Int := cond (s.all fun n => inR n 1 7) (cond (le4 (wfold v s)) (wfold v s) 0) 0
theorem leF (v : Int) : decide (4096 < v) = !le4 v := by
 unfold le4
 by_cases h : v ≤ 4096
 ·have : ¬ 4096 < v := by omega
  simp [h, this]
 ·have : 4096 < v := by omega
  simp [h, this]
theorem spec_tries (s : List Int) (h : s.length ≤ 1048576) : ∃ n, spec_l08Tries s = some n ∧ (n == 0) = !sumsV s := by
 unfold spec_l08Tries
 by_cases h8 : s.length ≤ 8
 ·have d : decide ((8 : Int) < (s.length : Int)) = false := by simp only [decide_eq_false_iff_not]; omega
  rw [d, cond_false]
  have key : ∀ i, i ≤ s.length → ∀ (v : Int) m, s.length - i < m → spec_l08Tries_l16 s m v (i : Int) = some (trv v (s.drop i)) := by
   refine down s.length ?_ ?_
   ·intro v m hm
    obtain ⟨m, rfl⟩ : ∃ j, m = j + 1 := ⟨m - 1, by omega⟩
    simp only [spec_l08Tries_l16, spec_l08Tries_b16]
    rw [ltF (Nat.le_refl _), List.drop_of_length_le (Nat.le_refl _), leF]
    simp only [trv, List.all_nil, cond_true, cond_false, wfold_nil]
    cases le4 v <;> rfl
   ·intro i hi ih v m hm
    obtain ⟨m, rfl⟩ : ∃ j, m = j + 1 := ⟨m - 1, by omega⟩
    simp only [spec_l08Tries_l16, spec_l08Tries_b16, spec_l00In]
    rw [ltT hi, getI_lt _ i hi, wsucc i _ hi (by omega), drop_cons s i hi]
    simp only [cond_true, Option.bind_some]
    rw [ih _ m (by omega)]
    simp only [inR_eq, trv, List.all_cons, wfold_cons]
    cases inR s[i] 1 7
    ·rfl
    ·rfl
  refine ⟨_, lim_of (s.length + 1) fun m hm => by have := key 0 (by omega) 1 m (by omega); simpa using this, ?_⟩
  unfold sumsV trv
  have d8 : decide (s.length ≤ 8) = true := by simpa using h8
  rw [d8, Bool.true_and]
  cases ha : s.all (fun n => inR n 1 7)
  ·rfl
  ·have hp := wfold_pos s 1 ha (by omega) (by
    have : ∀ k : Nat, k ≤ 8 → (8 : Int) ^ k ≤ 16777216 := by decide
    have := this s.length h8
    omega)
   cases hw : le4 (wfold 1 s)
   ·rfl
   ·have : (wfold 1 s == 0) = false := by simp; omega
    simpa using this
 ·have d : decide ((8 : Int) < (s.length : Int)) = true := by simp only [decide_eq_true_eq]; omega
  rw [d, cond_true]
  refine ⟨0, rfl, ?_⟩
  unfold sumsV
  have d8 : decide (s.length ≤ 8) = false := by simpa using h8
  rw [d8]; rfl
theorem impl_sums (x : impl_Summand) (h : x.Sums.length ≤ 1048576) : impl_Summand_sumsOk x = some (sumsV x.Sums) := by
 unfold impl_Summand_sumsOk
 have key : ∀ i, i ≤ x.Sums.length → ∀ (v : Int) m, x.Sums.length - i < m → impl_Summand_sumsOk_l8 x m v (i : Int) = some ((x.Sums.drop i).all (fun n => inR n 1 7) && (decide (x.Sums.length ≤ 8) && le4 (wfold v (x.Sums.drop i)))) := by
  refine down x.Sums.length ?_ ?_
  ·intro v m hm
   obtain ⟨m, rfl⟩ : ∃ j, m = j + 1 := ⟨m - 1, by omega⟩
   simp only [impl_Summand_sumsOk_l8, impl_Summand_sumsOk_b8]
   rw [ltF (Nat.le_refl _), List.drop_of_length_le (Nat.le_refl _)]
   have : decide ((x.Sums.length : Int) ≤ 8) = decide (x.Sums.length ≤ 8) := by
    by_cases h : x.Sums.length ≤ 8
    ·have h' : (x.Sums.length : Int) ≤ 8 := by omega
     simp [h, h']
    ·have h' : ¬ (x.Sums.length : Int) ≤ 8 := by omega
     simp [h, h']
   rw [this]
   simp only [cond_false, List.all_nil, Bool.true_and, wfold_nil]
   rfl
  ·intro i hi ih v m hm
   obtain ⟨m, rfl⟩ : ∃ j, m = j + 1 := ⟨m - 1, by omega⟩
   simp only [impl_Summand_sumsOk_l8, impl_Summand_sumsOk_b8, impl_within]
   rw [ltT hi, getI_lt _ i hi, wsucc i _ hi (by omega), drop_cons x.Sums i hi]
   simp only [cond_true, Option.bind_some, List.all_cons]
   rw [ih _ m (by omega)]
   simp only [inR_eq, wfold_cons]
   cases inR x.Sums[i] 1 7 <;> simp
 refine lim_of (x.Sums.length + 1) fun m hm => ?_
 have := key 0 (by omega) 1 m (by omega)
 rw [List.drop_zero] at this
 refine this.trans ?_
 unfold sumsV
 cases x.Sums.all (fun n => inR n 1 7) <;> simp
theorem spec_each (es : List (List impl_Term)) (v : Int) (hv : -1000000 ≤ v ∧ v ≤ 1000000) (h : es.length ≤ 1048576) (he : ∀ e ∈ es, e.length ≤ 1048576) : spec_l08Each es v = some (eachV es v) := by
 unfold spec_l08Each eachV
 refine all_row es (fun e => termsV e v 60) (fun m => ?_) fun i hi m => ?_
 ·simp only [spec_l08Each_l6, spec_l08Each_b6]; rw [ltF (Nat.le_refl _)]; rfl
 ·simp only [spec_l08Each_l6, spec_l08Each_b6]
  rw [ltT hi, getI_lt _ i hi, wsucc i _ hi (by omega)]
  simp only [cond_true, Option.bind_some, spec_is _ v 60 hv (he _ (List.getElem_mem hi))]
  cases termsV es[i] v 60 <;> rfl
theorem spec_action (s : List UInt8) : spec_l01Action s = some (actOk s) := by
 unfold spec_l01Action; rw [spec_name]; rfl
theorem impl_action (s : List UInt8) (hs : s.length ≤ 140737488355328) : impl_IsAction s = some (actOk s) := by
 unfold impl_IsAction; rw [impl_name s hs]; rfl
def okTs (e : List (List impl_Term)) : Prop := e.length ≤ 1048576 ∧ ∀ t ∈ e, t.length ≤ 1048576
def okSum (x : impl_Summand) : Prop := x.Sums.length ≤ 1048576 ∧ x.Guard.length ≤ 1048576 ∧ x.Name.length ≤ 1048576 ∧ okTs x.Arguments ∧ okTs x.Next
def okLin (l : impl_Linear) : Prop := l.Start.length ≤ 1048576 ∧ l.Summands.length ≤ 1048576 ∧ ∀ x ∈ l.Summands, okSum x
def argV (x : impl_Summand) : Bool := if x.Name = tauS then decide (x.Arguments.length = 0) else actOk x.Name && decide (x.Arguments.length ≤ 2)
theorem tau_eq {s : List UInt8} (h : s = tauS) : (s == ([116, 97, 117] : List UInt8)) = true := by subst h; rfl
theorem tau_ne {s : List UInt8} (h : s ≠ tauS) : (s == ([116, 97, 117] : List UInt8)) = false := by simpa [tauS] using h
theorem spec_sum (x : impl_Summand) (p : Int) (hp : 0 ≤ p ∧ p ≤ 21) (hx : okSum x) : spec_l08Summand x p = some (sumV x p) := by
 obtain ⟨h1, h2, h3, h4, h5⟩ := hx
 unfold spec_l08Summand sumV
 obtain ⟨n, e1, e2⟩ := spec_tries x.Sums h1
 rw [e1]
 simp only [Option.bind_some, e2]
 cases hs : sumsV x.Sums
 ·rfl
 ·have h8 : x.Sums.length ≤ 8 := by simp only [sumsV, Bool.and_eq_true, decide_eq_true_eq] at hs; exact hs.1
  have hw : IntKind.i64.wrap (p + (x.Sums.length : Int)) = p + (x.Sums.length : Int) := w64 (p + (x.Sums.length : Int)) ⟨by omega, by omega⟩
  simp only [hw, spec_is x.Guard (p + (x.Sums.length : Int)) 60 (by omega) h2, spec_each x.Arguments (p + (x.Sums.length : Int)) (by omega) h4.1 h4.2, spec_each x.Next (p + (x.Sums.length : Int)) (by omega) h5.1 h5.2, spec_action, Option.bind_some, Bool.not_true, cond_false, Bool.true_and]
  cases termsV x.Guard (p + (x.Sums.length : Int)) 60
  ·rfl
  ·cases hn : (x.Next.length : Int) == p
   ·have : ((x.Next.length : Int) != p) = true := by simp only [bne, hn]; rfl
    rw [this]; rfl
   ·have : ((x.Next.length : Int) != p) = false := by simp only [bne, hn]; rfl
    rw [this]
    simp only [Bool.not_true, Bool.or_self, cond_false, Bool.true_and]
    by_cases ht : x.Name = tauS
    ·rw [tau_eq ht, if_pos ht]
     simp only [cond_true, Bool.not_true, cond_false]
     by_cases ha : x.Arguments.length = 0
     ·have d1 : decide ((0 : Int) < (x.Arguments.length : Int)) = false := by simp only [decide_eq_false_iff_not]; omega
      have d2 : decide ((2 : Int) < (x.Arguments.length : Int)) = false := by simp only [decide_eq_false_iff_not]; omega
      have d3 : decide (x.Arguments.length = 0) = true := by simpa using ha
      rw [d1, d2, d3]
      cases eachV x.Arguments (p + (x.Sums.length : Int)) <;> cases eachV x.Next (p + (x.Sums.length : Int)) <;> rfl
     ·have d1 : decide ((0 : Int) < (x.Arguments.length : Int)) = true := by simp only [decide_eq_true_eq]; omega
      have d3 : decide (x.Arguments.length = 0) = false := by simpa using ha
      rw [d1, d3]; rfl
    ·rw [tau_ne ht, if_neg ht]
     simp only [Bool.not_false, cond_true, cond_false]
     cases actOk x.Name
     ·rfl
     ·by_cases ha : x.Arguments.length ≤ 2
      ·have d2 : decide ((2 : Int) < (x.Arguments.length : Int)) = false := by simp only [decide_eq_false_iff_not]; omega
       have d3 : decide (x.Arguments.length ≤ 2) = true := by simpa using ha
       rw [d2, d3]
       cases eachV x.Arguments (p + (x.Sums.length : Int)) <;> cases eachV x.Next (p + (x.Sums.length : Int)) <;> rfl
      ·have d2 : decide ((2 : Int) < (x.Arguments.length : Int)) = true := by simp only [decide_eq_true_eq]; omega
       have d3 : decide (x.Arguments.length ≤ 2) = false := by simpa using ha
       rw [d2, d3]; rfl
theorem spec_data (s : List Int) (p : Int) (h : s.length ≤ 1048576) : spec_l08Data s p = some (dataV s p) := by
 unfold spec_l08Data dataV
 have e : spec_l03Data s = some (s.all fun n => inR n 0 63) := by
  unfold spec_l03Data
  refine all_row s (fun n => inR n 0 63) (fun m => ?_) fun i hi m => ?_
  ·simp only [spec_l03Data_l6, spec_l03Data_b6]; rw [ltF (Nat.le_refl _)]; rfl
  ·simp only [spec_l03Data_l6, spec_l03Data_b6, spec_l00In]
   rw [ltT hi, getI_lt _ i hi, wsucc i _ hi (by omega)]
   simp only [cond_true, Option.bind_some, inR_eq]
   cases inR s[i] 0 63 <;> rfl
 rw [e]
 cases (s.length : Int) == p <;> rfl
theorem spec_lin (l : impl_Linear) (h : okLin l) : spec_l08Is l = some (linV l) := by
 unfold spec_l08Is linV spec_l00In
 simp only [Option.bind_some, inR_eq]
 rw [spec_data _ _ h.1]
 simp only [Option.bind_some]
 cases hp : inR l.Parameters 0 21
 ·rfl
 ·cases dataV l.Start l.Parameters
  ·rfl
  ·simp only [Bool.not_true, cond_false, Bool.false_or, Bool.true_and]
   have hp' : 0 ≤ l.Parameters ∧ l.Parameters ≤ 21 := by simpa [inR] using hp
   by_cases h60 : l.Summands.length ≤ 60
   ·have d1 : decide ((60 : Int) < (l.Summands.length : Int)) = false := by simp only [decide_eq_false_iff_not]; omega
    have d2 : decide (l.Summands.length ≤ 60) = true := by simpa using h60
    rw [d1, d2, cond_false, Bool.true_and]
    refine all_row l.Summands (fun x => sumV x l.Parameters) (fun m => ?_) fun i hi m => ?_
    ·simp only [spec_l08Is_l14, spec_l08Is_b14]; rw [ltF (Nat.le_refl _)]; rfl
    ·simp only [spec_l08Is_l14, spec_l08Is_b14]
     rw [ltT hi, getI_lt _ i hi, wsucc i _ hi (by omega)]
     simp only [cond_true, Option.bind_some, spec_sum _ _ hp' (h.2.2 _ (List.getElem_mem hi))]
     cases sumV l.Summands[i] l.Parameters <;> rfl
   ·have d1 : decide ((60 : Int) < (l.Summands.length : Int)) = true := by simp only [decide_eq_true_eq]; omega
    have d2 : decide (l.Summands.length ≤ 60) = false := by simpa using h60
    rw [d1, d2]; rfl
end Go.Sh
