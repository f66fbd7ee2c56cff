/- Part of a proof that a law returns true for every input. No condition. -/
import Derived.Test.YtobljppjkklojaaUL1
namespace Go.Sh
open Go Go.Fw
def lenS {α : Type} (ls : List (List α)) : Nat := sumS List.length ls
theorem grow_T (n : Int) (h0 : 0 ≤ n) (h : n ≤ 1099511627776) : slices_Grow_impl_Term n = some [] := by
 unfold slices_Grow_impl_Term slices_Grow_impl_Term_k8 slices_Grow_impl_Term_k16
 have e0 : IntKind.i64.wrap 0 = 0 := w64 0 (by omega)
 have e1 : IntKind.i64.wrap (n - 0) = n := by rw [w64 (n - 0) (by omega)]; omega
 have d : decide (n < 0) = false := by simp only [decide_eq_false_iff_not]; omega
 rw [d, e0, e1, show mkOk 24 n = some () by unfold mkOk; rw [if_pos ⟨by omega, by omega, by omega⟩]]
 cases decide (0 < n) <;> rfl
theorem concat_T (ls : List (List (List impl_Term))) (h : ls.length ≤ 1048576) (hs : lenS ls ≤ 1099511627776) : slices_Concat_impl_Term ls = some ls.flatten := by
 have k33 : lim (fun n => slices_Concat_impl_Term_l33 ls n [] 0) = some ls.flatten := by
  have key : ∀ i, i ≤ ls.length → ∀ (v : List (List impl_Term)) m, v.length + lenS (ls.drop i) ≤ 1099511627776 → ls.length - i < m → slices_Concat_impl_Term_l33 ls m v (i : Int) = some (v ++ (ls.drop i).flatten) := by
   refine down ls.length ?_ ?_
   ·intro v m _ hm
    obtain ⟨m, rfl⟩ : ∃ j, m = j + 1 := ⟨m - 1, by omega⟩
    simp only [slices_Concat_impl_Term_l33, slices_Concat_impl_Term_b33]
    rw [ltF (Nat.le_refl _), List.drop_of_length_le (Nat.le_refl _)]; simp
   ·intro i hi ih v m hv hm
    obtain ⟨m, rfl⟩ : ∃ j, m = j + 1 := ⟨m - 1, by omega⟩
    rw [drop_cons ls i hi] at hv ⊢
    simp only [lenS, sumS] at hv
    simp only [slices_Concat_impl_Term_l33, slices_Concat_impl_Term_b33]
    rw [ltT hi, getI_lt _ i hi, wsucc i _ hi (by omega)]
    simp only [cond_true, Option.bind_some]
    rw [room_ok (by omega) (by omega)]
    simp only [Option.bind_some]
    rw [ih _ m (by simp only [List.length_append, lenS]; omega) (by omega)]
    simp only [List.flatten_cons, List.append_assoc]
  refine lim_of (ls.length + 1) fun m hm => ?_
  have := key 0 (by omega) [] m (by simpa using hs) (by omega)
  simpa using this
 unfold slices_Concat_impl_Term
 have key : ∀ i, i ≤ ls.length → ∀ (v : Int) m, 0 ≤ v → v + lenS (ls.drop i) ≤ 1099511627776 → ls.length - i < m → slices_Concat_impl_Term_l8 ls m v (i : Int) = some ls.flatten := by
  refine down ls.length ?_ ?_
  ·intro v m h0 hv hm
   obtain ⟨m, rfl⟩ : ∃ j, m = j + 1 := ⟨m - 1, by omega⟩
   simp only [slices_Concat_impl_Term_l8, slices_Concat_impl_Term_b8]
   rw [ltF (Nat.le_refl _), grow_T v h0 (by omega)]
   simp only [cond_false, Option.bind_some]
   exact k33
  ·intro i hi ih v m h0 hv hm
   obtain ⟨m, rfl⟩ : ∃ j, m = j + 1 := ⟨m - 1, by omega⟩
   rw [drop_cons ls i hi] at hv
   simp only [lenS, sumS] at hv
   simp only [slices_Concat_impl_Term_l8, slices_Concat_impl_Term_b8, slices_Concat_impl_Term_k26]
   rw [ltT hi, getI_lt _ i hi, wsucc i _ hi (by omega)]
   simp only [cond_true, Option.bind_some]
   have e : IntKind.i64.wrap (v + (ls[i].length : Int)) = v + (ls[i].length : Int) := w64 (v + (ls[i].length : Int)) ⟨by omega, by omega⟩
   have d : decide (v + (ls[i].length : Int) < 0) = false := by simp only [decide_eq_false_iff_not]; omega
   rw [e, d, cond_false]
   exact ih _ m (by omega) (by simp only [lenS]; omega) (by omega)
 refine lim_of (ls.length + 1) fun m hm => ?_
 exact key 0 (by omega) 0 m (by omega) (by rw [List.drop_zero]; omega) (by omega)
theorem impl_exprs (x : impl_Summand) (hx : okSum x) : impl_Summand_expressions x = some (x.Guard :: (x.Arguments ++ x.Next)) := by
 unfold impl_Summand_expressions
 have h4 := hx.2.2.2.1.1
 have h5 := hx.2.2.2.2.1
 rw [concat_T _ (by simp) (by simp only [lenS, sumS, List.length_cons, List.length_nil]; omega)]
 simp
theorem impl_each (x : impl_Summand) (p : Int) (hp : 0 ≤ p ∧ p ≤ 21) (h8 : x.Sums.length ≤ 8) (es : List (List impl_Term)) (h : es.length ≤ 1099511627776) (he : ∀ e ∈ es, e.length ≤ 1048576) :
  slices_ContainsFunc_impl_Term__impl_Summand_valid_c1 es p x = some (!eachV es (p + x.Sums.length)) := by
 unfold slices_ContainsFunc_impl_Term__impl_Summand_valid_c1 slices_IndexFunc_impl_Term__impl_Summand_valid_c1
 rw [find_fn (f := fun e => impl_Summand_valid_c1_2 e p x) es (fun e => !termsV e (p + x.Sums.length) 60) (fun m i => by simp only [slices_IndexFunc_impl_Term__impl_Summand_valid_c1_l6, slices_IndexFunc_impl_Term__impl_Summand_valid_c1_b6]) (fun e hm => by
  unfold impl_Summand_valid_c1_2
  have hw : IntKind.i64.wrap (p + (x.Sums.length : Int)) = p + (x.Sums.length : Int) := w64 (p + (x.Sums.length : Int)) ⟨by omega, by omega⟩
  rw [hw, impl_valid e _ 60 (by omega) (by omega) (he e hm)]; rfl) h]
 simp only [Option.bind_some, idxL_ge, any_not]
 rfl
theorem impl_sum (x : impl_Summand) (p : Int) (hp : 0 ≤ p ∧ p ≤ 21) (hx : okSum x) : impl_Summand_valid x p = some (sumV x p) := by
 have hx' := hx
 obtain ⟨h1, h2, h3, h4, h5⟩ := hx
 unfold impl_Summand_valid sumV
 rw [impl_sums x h1]
 simp only [Option.bind_some]
 cases hs : sumsV x.Sums
 ·rfl
 ·have h8 : x.Sums.length ≤ 8 := by simp only [sumsV, Bool.and_eq_true, decide_eq_true_eq] at hs; exact hs.1
  have hE : slices_ContainsFunc_impl_Term__impl_Summand_valid_c1 (x.Guard :: (x.Arguments ++ x.Next)) p x = some (!(termsV x.Guard (p + x.Sums.length) 60 && (eachV x.Arguments (p + x.Sums.length) && eachV x.Next (p + x.Sums.length)))) := by
   have h4' := h4.1
   have h5' := h5.1
   rw [impl_each x p hp h8 _ (by simp only [List.length_cons, List.length_append]; omega) (fun e he => by
    rcases List.mem_cons.1 he with rfl | he
    ·exact h2
    ·rcases List.mem_append.1 he with he | he
     ·exact h4.2 e he
     ·exact h5.2 e he)]
   simp only [eachV, List.all_cons, List.all_append]
  rw [impl_exprs x hx', impl_action _ (by omega)]
  simp only [Option.bind_some, hE, Bool.not_true, Bool.false_or, Bool.true_and, Bool.not_not]
  cases hn : (x.Next.length : Int) == p
  ·have : ((x.Next.length : Int) != p) = true := by simp only [bne, hn]; rfl
   rw [this]
   cases termsV x.Guard (p + (x.Sums.length : Int)) 60 <;> rfl
  ·have : ((x.Next.length : Int) != p) = false := by simp only [bne, hn]; rfl
   rw [this]
   simp only [cond_false, Bool.true_and]
   by_cases ht : x.Name = tauS
   ·rw [tau_eq ht, if_pos ht]
    simp only [cond_true, Bool.not_true, cond_false]
    by_cases ha : x.Arguments.length = 0
    ·have d1 : decide ((0 : Int) < (x.Arguments.length : Int)) = false := by simp only [decide_eq_false_iff_not]; omega
     have d3 : decide (x.Arguments.length = 0) = true := by simpa using ha
     rw [d1, d3]; simp
    ·have d1 : decide ((0 : Int) < (x.Arguments.length : Int)) = true := by simp only [decide_eq_true_eq]; omega
     have d3 : decide (x.Arguments.length = 0) = false := by simpa using ha
     rw [d1, d3]
     cases termsV x.Guard (p + (x.Sums.length : Int)) 60 <;> rfl
   ·rw [tau_ne ht, if_neg ht]
    simp only [Bool.not_false, cond_true, cond_false]
    by_cases ha : x.Arguments.length ≤ 2
    ·have d2 : decide ((2 : Int) < (x.Arguments.length : Int)) = false := by simp only [decide_eq_false_iff_not]; omega
     have d3 : decide (x.Arguments.length ≤ 2) = true := by simpa using ha
     rw [d2, d3]
     cases decide ((0 : Int) < (x.Arguments.length : Int)) <;> cases actOk x.Name <;> cases termsV x.Guard (p + (x.Sums.length : Int)) 60 <;> simp
    ·have d1 : decide ((0 : Int) < (x.Arguments.length : Int)) = true := by simp only [decide_eq_true_eq]; omega
     have d2 : decide ((2 : Int) < (x.Arguments.length : Int)) = true := by simp only [decide_eq_true_eq]; omega
     have d3 : decide (x.Arguments.length ≤ 2) = false := by simpa using ha
     rw [d1, d2, d3]
     cases actOk x.Name <;> cases termsV x.Guard (p + (x.Sums.length : Int)) 60 <;> rfl
theorem impl_data (l : impl_Linear) (s : List Int) (h : s.length ≤ 1048576) : impl_Linear_isState l s = some (dataV s l.Parameters) := by
 unfold impl_Linear_isState impl_areValues slices_ContainsFunc_int64_int64__impl_areValues_c1 slices_IndexFunc_int64_int64__impl_areValues_c1
 rw [find_fn (f := impl_areValues_c1) s (fun n => !inR n 0 63) (fun m i => by simp only [slices_IndexFunc_int64_int64__impl_areValues_c1_l6, slices_IndexFunc_int64_int64__impl_areValues_c1_b6]) (fun n _ => rfl) (by omega)]
 simp only [Option.bind_some, idxL_ge, any_not, Bool.not_not]
 unfold dataV
 cases (s.length : Int) == l.Parameters <;> rfl
theorem impl_lin (l : impl_Linear) (h : okLin l) : impl_ValidLinear l = some (linV l) := by
 unfold impl_ValidLinear linV impl_within
 simp only [Option.bind_some, inR_eq]
 rw [impl_data _ _ h.1]
 simp only [Option.bind_some]
 cases hp : inR l.Parameters 0 21
 ·rfl
 ·cases dataV l.Start l.Parameters
  ·rfl
  ·simp only [Bool.not_true, cond_false, Bool.false_or, Bool.true_and]
   have hp' : 0 ≤ l.Parameters ∧ l.Parameters ≤ 21 := by simpa [inR] using hp
   by_cases h60 : l.Summands.length ≤ 60
   ·have d1 : decide ((60 : Int) < (l.Summands.length : Int)) = false := by simp only [decide_eq_false_iff_not]; omega
    have d2 : decide (l.Summands.length ≤ 60) = true := by simpa using h60
    rw [d1, d2, cond_false, Bool.true_and]
    unfold slices_ContainsFunc_impl_Summand__impl_ValidLinear_c1 slices_IndexFunc_impl_Summand__impl_ValidLinear_c1
    rw [find_fn (f := fun x => impl_ValidLinear_c1_2 x l) l.Summands (fun x => !sumV x l.Parameters) (fun m i => by simp only [slices_IndexFunc_impl_Summand__impl_ValidLinear_c1_l6, slices_IndexFunc_impl_Summand__impl_ValidLinear_c1_b6]) (fun x hx => by
     unfold impl_ValidLinear_c1_2
     rw [impl_sum x _ hp' (h.2.2 x hx)]; rfl) (by omega)]
    simp only [Option.bind_some, idxL_ge, any_not, Bool.not_not]
   ·have d1 : decide ((60 : Int) < (l.Summands.length : Int)) = true := by simp only [decide_eq_true_eq]; omega
    have d2 : decide (l.Summands.length ≤ 60) = false := by simpa using h60
    rw [d1, d2]; rfl
end Go.Sh
