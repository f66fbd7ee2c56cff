/- Part of a proof that a law returns true for every input. No condition. -/
import Derived.Test.YtobljppjkklojaaU9
namespace Go.Sh
open Go Go.Fw

/-! The image of a system of equations. -/
def eqBytes (x : impl_Equation) : List UInt8 := num (tv x.Greatest + 2 * tv x.All) ++ num (x.Terms.length : Int) ++ x.Terms.flatMap num
def fin2 (w : List UInt8) : List UInt8 := if 6000 < w.length + 2 then [] else w ++ [toB (IntKind.i64.wrap (Int.tdiv (crc w 65535) 256)), toB (Int.tmod (crc w 65535) 256)]
theorem flat_len (a : List Int) : (a.flatMap num).length ≤ 10 * a.length := by
  induction a with
  | nil => simp
  | cons x a ih => simp only [List.flatMap_cons, List.length_append, List.length_cons]; have := num_len x; omega
theorem eqBytes_len (x : impl_Equation) : (eqBytes x).length ≤ 20 + 10 * x.Terms.length := by
  unfold eqBytes
  simp only [List.length_append]
  have h1 := num_len (tv x.Greatest + 2 * tv x.All)
  have h2 := num_len (x.Terms.length : Int)
  have h3 := flat_len x.Terms
  omega

theorem impl_image (w : List UInt8) (h : w.length ≤ 1000000000) : impl_writer_image w = some (fin2 w) := by
  unfold impl_writer_image fin2
  rw [impl_crc w (by omega) 65535 (by omega), room1 (by omega)]
  simp only [Option.bind_some, List.length_append, List.length_cons, List.length_nil]
  by_cases h6 : 6000 < w.length + 2
  · have : decide ((6000 : Int) < ((w.length + (0 + 1 + 1) : Nat) : Int)) = true := by simp; omega
    rw [this, if_pos h6]; rfl
  · have : decide ((6000 : Int) < ((w.length + (0 + 1 + 1) : Nat) : Int)) = false := by simp; omega
    rw [this, if_neg h6]; rfl
theorem spec_seal (a : List UInt8) (h : a.length ≤ 1000000000) : spec_l32Seal 3 a = some (fin2 ((3 : UInt8) :: a)) := by
  unfold spec_l32Seal fin2
  have e : [toB 3] ++ a = (3 : UInt8) :: a := rfl
  rw [e, okLen1 (by omega)]
  simp only [Option.bind_some]
  rw [w64 ((((3 : UInt8) :: a).length : Int) + 2) (by simp; omega)]
  simp only [List.length_cons]
  by_cases h6 : 6000 < a.length + 1 + 2
  · have : decide ((6000 : Int) < ((a.length + 1 : Nat) : Int) + 2) = true := by simp; omega
    rw [this, if_pos h6]; rfl
  · have : decide ((6000 : Int) < ((a.length + 1 : Nat) : Int) + 2) = false := by simp; omega
    rw [this, if_neg h6, cond_false, spec_crc _ (by simp; omega), okLen1 (by simp; omega)]
    rfl
theorem fin2_long {w : List UInt8} (h : 6000 < w.length + 2) : fin2 w = [] := if_pos h

def termsOk (e : List impl_Equation) : Prop := ∀ x ∈ e, ∀ n ∈ x.Terms, n < 9223372036854775808
theorem eqsOk_terms {e : List impl_Equation} (h : eqsOk e = true) : termsOk e := by
  unfold eqsOk at h
  simp only [Bool.and_eq_true, decide_eq_true_eq] at h
  obtain ⟨⟨⟨h1, h2⟩, h3⟩, h4⟩ := h
  intro x hx n hn
  obtain ⟨i, hi, rfl⟩ := List.getElem_of_mem hx
  obtain ⟨j, hj, rfl⟩ := List.getElem_of_mem hn
  have h5 := allN_iff.1 h4 i hi
  have e1 : e.getD i ⟨false, false, []⟩ = e[i] := by simp [List.getD, hi]
  rw [e1] at h5
  have h6 := allN_iff.1 h5 j hj
  unfold risesP at h6
  have e2 : e[i].Terms.getD j 0 = e[i].Terms[j] := by simp [List.getD, hj]
  rw [e2] at h6
  simp only [Bool.and_eq_true, decide_eq_true_eq] at h6
  omega

theorem flag_lt (x : impl_Equation) : IntKind.i64.wrap (tv x.Greatest + IntKind.i64.wrap (2 * tv x.All)) = tv x.Greatest + 2 * tv x.All ∧ tv x.Greatest + 2 * tv x.All < 9223372036854775808 := by
  cases x.Greatest <;> cases x.All <;> decide

theorem sum_drop {e : List impl_Equation} {i : Nat} (hi : i < e.length) : sumS size_impl_Equation (e.drop i) = e[i].Terms.length + sumS size_impl_Equation (e.drop (i + 1)) := by
  rw [drop_cons e i hi]
  simp only [sumS, size_impl_Equation]
  omega

theorem impl_encode (e : List impl_Equation) (h : sizeL size_impl_Equation e ≤ 1048576) : impl_EncodeEquations e = some (if eqsOk e = true then fin2 ((3 : UInt8) :: (num (e.length : Int) ++ e.flatMap eqBytes)) else []) := by
  have hl : e.length ≤ 1048576 := Nat.le_trans (sizeL_len _ _) h
  unfold impl_EncodeEquations
  rw [impl_eqs e h]
  simp only [Option.bind_some]
  cases hok : eqsOk e
  · rfl
  · simp only [Bool.not_true, cond_false, if_true]
    have ht := eqsOk_terms hok
    rw [impl_num [(e.length : Int)] (by simp; omega) [(3 : UInt8)] (by simp)]
    simp only [Option.bind_some, List.flatMap_cons, List.flatMap_nil, List.append_nil]
    have key : ∀ i, i ≤ e.length → ∀ (w : List UInt8) m, w.length + 20 * (e.length - i + sumS size_impl_Equation (e.drop i)) ≤ 50000000 → e.length - i < m → impl_EncodeEquations_l18 e m w (i : Int) = some (fin2 (w ++ (e.drop i).flatMap eqBytes)) := by
      refine down e.length ?_ ?_
      · intro w m hw hm
        obtain ⟨m, rfl⟩ : ∃ j, m = j + 1 := ⟨m - 1, by omega⟩
        simp only [impl_EncodeEquations_l18, impl_EncodeEquations_b18]
        rw [ltF (Nat.le_refl _), cond_false, impl_image w (by omega)]
        simp
      · intro i hi ih w m hw hm
        obtain ⟨m, rfl⟩ : ∃ j, m = j + 1 := ⟨m - 1, by omega⟩
        have hs := sum_drop hi
        have htl : e[i].Terms.length ≤ 1048576 := by
          have := terms_len h i
          have e1 : e.getD i ⟨false, false, []⟩ = e[i] := by simp [List.getD, hi]
          rwa [e1] at this
        have hf := flag_lt e[i]
        have hb := eqBytes_len e[i]
        simp only [impl_EncodeEquations_l18, impl_EncodeEquations_b18, impl_truth]
        rw [ltT hi, getI_lt _ i hi, wsucc i _ hi (by omega)]
        have c1 : ∀ b : Bool, (cond b (some 1) (some 0) : Option Int) = some (tv b) := fun b => by cases b <;> rfl
        simp only [cond_true, Option.bind_some, c1]
        rw [hf.1, impl_num _ (by
          intro n hn
          simp only [List.mem_cons, List.not_mem_nil, or_false] at hn
          rcases hn with rfl | rfl
          · exact hf.2
          · omega) w (by simp; omega)]
        simp only [Option.bind_some]
        have h1 := num_len (tv e[i].Greatest + 2 * tv e[i].All)
        have h2 := num_len (e[i].Terms.length : Int)
        rw [impl_num _ (ht _ (List.getElem_mem hi)) _ (by simp; omega)]
        simp only [Option.bind_some]
        have hw2 : w ++ [tv e[i].Greatest + 2 * tv e[i].All, (e[i].Terms.length : Int)].flatMap num ++ e[i].Terms.flatMap num = w ++ eqBytes e[i] := by
          simp [eqBytes]
        rw [hw2, ih _ m (by simp only [List.length_append]; omega) (by omega), drop_cons e i hi]
        simp only [List.flatMap_cons, List.append_assoc]
    have hk := fun m hm => key 0 (by omega) ([(3 : UInt8)] ++ num (e.length : Int)) m (by
      have := num_len (e.length : Int)
      unfold sizeL at h
      simp only [List.length_append, List.length_cons, List.length_nil, List.drop_zero]; omega) hm
    rw [lim_of (x := some (fin2 ([(3 : UInt8)] ++ num (e.length : Int) ++ e.flatMap eqBytes))) (e.length + 1) fun m hm => by simpa using hk m (by omega)]
    simp

theorem spec_terms (k8 : List UInt8 → Int → Option (List UInt8)) (e : List impl_Equation) (i : Nat) (hi : i < e.length) (hl : e.length ≤ 1048576) (ht : ∀ n ∈ e[i].Terms, n < 9223372036854775808) (htl : e[i].Terms.length ≤ 1048576) (out : List UInt8) (ho : out.length ≤ 100000000) :
    lim (fun n => spec_l32Equations_l23 k8 e n out (i : Int) 0) = cond (decide ((6000 : Int) < ((out ++ e[i].Terms.flatMap num).length : Int))) (some []) (k8 (out ++ e[i].Terms.flatMap num) ((i + 1 : Nat) : Int)) := by
  have key : ∀ j, j ≤ e[i].Terms.length → ∀ (out : List UInt8) m, out.length + 10 * (e[i].Terms.length - j) ≤ 200000000 → e[i].Terms.length - j < m → spec_l32Equations_l23 k8 e m out (i : Int) (j : Int) =
      cond (decide ((6000 : Int) < ((out ++ (e[i].Terms.drop j).flatMap num).length : Int))) (some []) (k8 (out ++ (e[i].Terms.drop j).flatMap num) ((i + 1 : Nat) : Int)) := by
    refine down e[i].Terms.length ?_ ?_
    · intro out m ho hm
      obtain ⟨m, rfl⟩ : ∃ q, m = q + 1 := ⟨m - 1, by omega⟩
      simp only [spec_l32Equations_l23, spec_l32Equations_b23]
      rw [getI_lt _ i hi]
      simp only [Option.bind_some]
      rw [ltF (Nat.le_refl _), wsucc i _ hi (by omega)]
      simp
    · intro j hj ih out m ho hm
      obtain ⟨m, rfl⟩ : ∃ q, m = q + 1 := ⟨m - 1, by omega⟩
      simp only [spec_l32Equations_l23, spec_l32Equations_b23]
      rw [getI_lt _ i hi]
      simp only [Option.bind_some]
      rw [ltT hj, getI_lt _ j hj, wsucc j _ hj (by omega)]
      simp only [cond_true, Option.bind_some]
      have h1 := num_len (e[i].Terms[j])
      rw [spec_num _ (ht _ (List.getElem_mem hj))]
      simp only [Option.bind_some]
      rw [okLen1 (by omega)]
      simp only [Option.bind_some]
      rw [ih _ m (by simp only [List.length_append]; omega) (by omega), drop_cons _ j hj]
      simp only [List.flatMap_cons, List.append_assoc]
  refine lim_of (e[i].Terms.length + 1) fun m hm => ?_
  have := key 0 (by omega) out m (by omega) (by omega)
  simpa using this
/-- The image of a system. -/
def encE (e : List impl_Equation) : List UInt8 := fin2 ((3 : UInt8) :: (num (e.length : Int) ++ e.flatMap eqBytes))
theorem spec_enc (e : List impl_Equation) (h : sizeL size_impl_Equation e ≤ 1048576) (hok : eqsOk e = true) : spec_l32Equations e = some (encE e) := by
  unfold encE
  have hl : e.length ≤ 1048576 := Nat.le_trans (sizeL_len _ _) h
  have ht := eqsOk_terms hok
  unfold spec_l32Equations
  rw [spec_num _ (by omega)]
  simp only [Option.bind_some]
  have key : ∀ i, i ≤ e.length → ∀ (w : List UInt8) m, w.length + 20 * (e.length - i + sumS size_impl_Equation (e.drop i)) ≤ 50000000 → e.length - i < m → spec_l32Equations_l8 e m w (i : Int) = some (fin2 ((3 : UInt8) :: (w ++ (e.drop i).flatMap eqBytes))) := by
    refine down e.length ?_ ?_
    · intro w m hw hm
      obtain ⟨m, rfl⟩ : ∃ j, m = j + 1 := ⟨m - 1, by omega⟩
      simp only [spec_l32Equations_l8, spec_l32Equations_b8]
      rw [ltF (Nat.le_refl _), cond_false, spec_seal w (by omega)]
      simp
    · intro i hi ih w m hw hm
      obtain ⟨m, rfl⟩ : ∃ j, m = j + 1 := ⟨m - 1, by omega⟩
      have hs := sum_drop hi
      have htl : e[i].Terms.length ≤ 1048576 := by
        have := terms_len h i
        have e1 : e.getD i ⟨false, false, []⟩ = e[i] := by simp [List.getD, hi]
        rwa [e1] at this
      have hf := flag_lt e[i]
      have hb := eqBytes_len e[i]
      simp only [spec_l32Equations_l8, spec_l32Equations_b8, spec_l03Truth]
      rw [ltT hi, getI_lt _ i hi]
      have c1 : ∀ b : Bool, (cond b (some 1) (some 0) : Option Int) = some (tv b) := fun b => by cases b <;> rfl
      simp only [cond_true, Option.bind_some, c1]
      have h1 := num_len (tv e[i].Greatest + 2 * tv e[i].All)
      have h2 := num_len (e[i].Terms.length : Int)
      rw [hf.1, spec_num _ hf.2, spec_num _ (by omega)]
      simp only [Option.bind_some]
      rw [okLen1 (by omega), okLen1 (by simp only [List.length_append]; omega)]
      simp only [Option.bind_some]
      rw [spec_terms _ e i hi hl (ht _ (List.getElem_mem hi)) htl _ (by simp only [List.length_append]; omega)]
      have hw2 : w ++ (num (tv e[i].Greatest + 2 * tv e[i].All) ++ num (e[i].Terms.length : Int)) ++ e[i].Terms.flatMap num = w ++ eqBytes e[i] := by
        simp [eqBytes]
      rw [hw2, ih _ m (by simp only [List.length_append]; omega) (by omega), drop_cons e i hi]
      simp only [List.flatMap_cons, List.append_assoc]
      by_cases h6 : 6000 < (w ++ eqBytes e[i]).length
      · have : decide ((6000 : Int) < ((w ++ eqBytes e[i]).length : Int)) = true := by simp only [decide_eq_true_eq]; omega
        rw [this, cond_true, fin2_long]
        simp only [List.length_append, List.length_cons] at h6 ⊢; omega
      · have : decide ((6000 : Int) < ((w ++ eqBytes e[i]).length : Int)) = false := by simp only [decide_eq_false_iff_not]; omega
        rw [this, cond_false]
  have hk := fun m hm => key 0 (by omega) (num (e.length : Int)) m (by
    have := num_len (e.length : Int)
    unfold sizeL at h
    simp only [List.drop_zero]; omega) hm
  rw [lim_of (e.length + 1) fun m hm => by simpa using hk m (by omega)]

end Go.Sh
