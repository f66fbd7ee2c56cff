/- Part of a proof that a law returns true for every input. No condition. -/
import Derived.Test.YtobljppjkklojaaUT
import Derived.Test.YtobljppjkklojaaUC
namespace Go.Sh
open Go Go.Fw

/-! Numbers, as they are written. -/
def numF : Nat → Int → List UInt8
  | 0, n => [toB n]
  | k + 1, n => if 128 ≤ n then toB (IntKind.i64.wrap (128 + n.tmod 128)) :: numF k (n.tdiv 128) else [toB n]
def num (n : Int) : List UInt8 := numF 9 n
theorem numF_len : ∀ k n, (numF k n).length ≤ k + 1
  | 0, _ => Nat.le_refl _
  | k + 1, n => by
    simp only [numF]; split
    · simp only [List.length_cons]; have := numF_len k (n.tdiv 128); omega
    · simp
theorem num_len (n : Int) : (num n).length ≤ 10 := numF_len 9 n
theorem room1 {n : Nat} (h : n ≤ 1099511627776) : room 1 n = some () := by unfold room; rw [if_pos (by omega)]
theorem okLen1 {n : Nat} (h : n ≤ 1099511627776) : okLen n = some () := by unfold okLen; rw [if_pos (by omega)]
theorem tdiv128 (n : Int) (h : 128 ≤ n) (hn : n < 9223372036854775808) : IntKind.i64.wrap (n.tdiv 128) = n.tdiv 128 := by
  rw [w64 _ (by rw [Int.tdiv_eq_ediv_of_nonneg (by omega)]; omega)]

theorem spec_num (n : Int) (hn : n < 9223372036854775808) : spec_l32Number n = some (num n) := by
  unfold spec_l32Number
  have key : ∀ k m (n : Int) (w : List UInt8), n < 128 ^ (k + 1) → n < 9223372036854775808 → w.length + k ≤ 1000 → k < m → spec_l32Number_l6 m n w = some (w ++ numF k n) := by
    intro k
    induction k with
    | zero =>
      intro m n w h1 h2 hw hm
      obtain ⟨m, rfl⟩ : ∃ j, m = j + 1 := ⟨m - 1, by omega⟩
      simp only [spec_l32Number_l6, spec_l32Number_b6, numF]
      have : decide (128 ≤ n) = false := by simp; omega
      rw [this, cond_false, room1 (by omega)]; rfl
    | succ k ih =>
      intro m n w h1 h2 hw hm
      obtain ⟨m, rfl⟩ : ∃ j, m = j + 1 := ⟨m - 1, by omega⟩
      simp only [spec_l32Number_l6, spec_l32Number_b6, numF]
      rw [room1 (by omega)]
      by_cases h : 128 ≤ n
      · have : decide (128 ≤ n) = true := by simpa using h
        rw [this, cond_true, if_pos h, tdiv128 n h h2]
        simp only [Option.bind_some]
        have e : n.tdiv 128 = n / 128 := Int.tdiv_eq_ediv_of_nonneg (by omega)
        rw [ih m _ _ (by rw [e, Int.pow_succ] at *; omega) (by rw [e]; omega) (by simp; omega) (by omega)]
        simp
      · have : decide (128 ≤ n) = false := by simp; omega
        rw [this, cond_false, if_neg h]; rfl
  refine lim_of 11 fun m hm => ?_
  have := key 9 m n [] (by have : (128 : Int) ^ (9 + 1) = 1180591620717411303424 := by decide
                           omega) hn (by simp) (by omega)
  simpa [num] using this

theorem impl_num1 (k3 : List UInt8 → Int → Option (List UInt8)) (a : List Int) (i : Int) : ∀ k m (n : Int) (w : List UInt8), n < 128 ^ (k + 1) → n < 9223372036854775808 → w.length + k ≤ 1000000000 → k < m →
    impl_writer_number_l16 k3 a m w n i = k3 (w ++ numF k n) (IntKind.i64.wrap (i + 1)) := by
  intro k
  induction k with
  | zero =>
    intro m n w h1 h2 hw hm
    obtain ⟨m, rfl⟩ : ∃ j, m = j + 1 := ⟨m - 1, by omega⟩
    simp only [impl_writer_number_l16, impl_writer_number_b16, numF]
    have : decide (128 ≤ n) = false := by simp; omega
    rw [this, cond_false, room1 (by omega)]; rfl
  | succ k ih =>
    intro m n w h1 h2 hw hm
    obtain ⟨m, rfl⟩ : ∃ j, m = j + 1 := ⟨m - 1, by omega⟩
    simp only [impl_writer_number_l16, impl_writer_number_b16, numF]
    rw [room1 (by omega)]
    by_cases h : 128 ≤ n
    · have : decide (128 ≤ n) = true := by simpa using h
      rw [this, cond_true, if_pos h, tdiv128 n h h2]
      simp only [Option.bind_some]
      have e : n.tdiv 128 = n / 128 := Int.tdiv_eq_ediv_of_nonneg (by omega)
      rw [ih m _ _ (by rw [e, Int.pow_succ] at *; omega) (by rw [e]; omega) (by simp; omega) (by omega)]
      simp
    · have : decide (128 ≤ n) = false := by simp; omega
      rw [this, cond_false, if_neg h]; rfl
theorem impl_num (a : List Int) (ha : ∀ n ∈ a, n < 9223372036854775808) (w : List UInt8) (hl : w.length + 10 * a.length ≤ 100000000) : impl_writer_number w a = some (w ++ a.flatMap num) := by
  unfold impl_writer_number
  have key : ∀ i, i ≤ a.length → ∀ (w : List UInt8) m, w.length + 10 * (a.length - i) ≤ 100000000 → a.length - i < m → impl_writer_number_l3 a m w (i : Int) = some (w ++ (a.drop i).flatMap num) := by
    refine down a.length ?_ ?_
    · intro w m _ hm
      obtain ⟨m, rfl⟩ : ∃ j, m = j + 1 := ⟨m - 1, by omega⟩
      simp only [impl_writer_number_l3, impl_writer_number_b3]
      rw [ltF (Nat.le_refl _)]; simp
    · intro i hi ih w m hw hm
      obtain ⟨m, rfl⟩ : ∃ j, m = j + 1 := ⟨m - 1, by omega⟩
      simp only [impl_writer_number_l3, impl_writer_number_b3]
      rw [ltT hi, getI_lt _ i hi]
      simp only [cond_true, Option.bind_some]
      have hn := ha _ (List.getElem_mem hi)
      rw [lim_of (x := impl_writer_number_l3 a m (w ++ num a[i]) ((i + 1 : Nat) : Int)) 11]
      · have := num_len a[i]
        rw [ih (w ++ num a[i]) m (by simp; omega) (by omega), drop_cons a i hi]
        simp only [List.flatMap_cons, List.append_assoc]
      · intro q hq
        rw [impl_num1 _ a i 9 q _ _ (by have : (128 : Int) ^ (9 + 1) = 1180591620717411303424 := by decide
                                        omega) hn (by omega) (by omega), wsucc i _ hi (by omega)]
        rfl
  refine lim_of (a.length + 1) fun m hm => ?_
  have := key 0 (by omega) w m (by omega) (by omega)
  simpa using this

/-! Rising lists. -/
def risesP (a : List Int) (lo hi : Int) (i : Nat) : Bool := decide (lo ≤ a.getD i 0) && decide (a.getD i 0 ≤ hi) && (decide (i = 0) || decide (a.getD (i - 1) 0 < a.getD i 0))
def rises (a : List Int) (lo hi : Int) : Bool := allN (risesP a lo hi) a.length
theorem spec_rises (a : List Int) (lo hi : Int) (ha : a.length ≤ 1048576) : spec_l00Rises a lo hi = some (rises a lo hi) := by
  unfold spec_l00Rises
  refine all_loop (risesP a lo hi) (fun m => ?_) fun i hi' m => ?_
  · simp only [spec_l00Rises_l6, spec_l00Rises_b6]; rw [ltF (Nat.le_refl _)]; rfl
  · simp only [spec_l00Rises_l6, spec_l00Rises_b6, spec_l00In]
    rw [ltT hi', getI_nat _ i 0 hi', wsucc i _ hi' (by omega)]
    simp only [cond_true, Option.bind_some, risesP]
    by_cases h0 : i = 0
    · subst h0
      rw [lt0F]
      cases decide (lo ≤ a.getD 0 0) <;> cases decide (a.getD 0 0 ≤ hi) <;> simp
    · rw [ge0T h0, wpredG i (by omega) (by omega), getI_nat _ (i - 1) 0 (by omega)]
      have e : decide (a.getD (i - 1) 0 < a.getD i 0) = !decide (a.getD i 0 ≤ a.getD (i - 1) 0) := by
        by_cases h : a.getD i 0 ≤ a.getD (i - 1) 0
        · simp only [h, decide_true, Bool.not_true, decide_eq_false_iff_not]; omega
        · simp only [h, decide_false, Bool.not_false, decide_eq_true_eq]; omega
      simp only [cond_true, Option.bind_some, h0, decide_false, Bool.false_or, e]
      cases decide (lo ≤ a.getD i 0) <;> cases decide (a.getD i 0 ≤ hi) <;> cases decide (a.getD i 0 ≤ a.getD (i - 1) 0) <;> simp
theorem impl_rises (a : List Int) (n : Int) (ha : a.length ≤ 1048576) : impl_increasing a n = some (rises a 0 (IntKind.i64.wrap (n - 1))) := by
  rw [← spec_rises a 0 _ ha]
  unfold impl_increasing spec_l00Rises
  congr 1
  funext m
  have : ∀ m i, impl_increasing_l6 a n m i = spec_l00Rises_l6 a 0 (IntKind.i64.wrap (n - 1)) m i := by
    intro m
    induction m with
    | zero => intro i; rfl
    | succ m ih =>
      intro i
      simp only [impl_increasing_l6, impl_increasing_b6, spec_l00Rises_l6, spec_l00Rises_b6, impl_index, impl_within, spec_l00In, Option.bind_some, ih]
  exact this m 0

/-! Blocks. -/
def gr (e : List impl_Equation) (i : Nat) : Bool := (e.getD i ⟨false, false, []⟩).Greatest
def chg1 (e : List impl_Equation) (i : Nat) : Nat := cond (gr e i == gr e (i - 1)) 0 1
theorem chg1_le (e : List impl_Equation) (i : Nat) : chg1 e i ≤ 1 := by unfold chg1; cases gr e i == gr e (i - 1) <;> simp
/-- The number of the block of a place. -/
def blk (e : List impl_Equation) : Nat → Nat
  | 0 => 0
  | i + 1 => blk e i + chg1 e (i + 1)
theorem blk_le (e : List impl_Equation) : ∀ i, blk e i ≤ i
  | 0 => Nat.le_refl _
  | i + 1 => by have := blk_le e i; have := chg1_le e (i + 1); simp only [blk]; omega

theorem spec_count (e : List impl_Equation) (h1 : 1 ≤ e.length) (h : e.length ≤ 1048576) : spec_l22Count e = some ((blk e (e.length - 1) : Int) + 1) := by
  unfold spec_l22Count
  have key : ∀ i, i ≤ e.length → 1 ≤ i → ∀ m, e.length - i < m → spec_l22Count_l8 e m ((blk e (i - 1) : Int) + 1) (i : Int) = some ((blk e (e.length - 1) : Int) + 1) := by
    refine down e.length ?_ ?_
    · intro _ m hm
      obtain ⟨m, rfl⟩ : ∃ j, m = j + 1 := ⟨m - 1, by omega⟩
      simp only [spec_l22Count_l8, spec_l22Count_b8]
      rw [ltF (Nat.le_refl _)]; rfl
    · intro i hi ih h0 m hm
      obtain ⟨m, rfl⟩ : ∃ j, m = j + 1 := ⟨m - 1, by omega⟩
      simp only [spec_l22Count_l8, spec_l22Count_b8, spec_l22Count_k22]
      have hb := blk_le e (i - 1)
      rw [ltT hi, getI_nat _ i ⟨false, false, []⟩ hi, wpredG i h0 (by omega), getI_nat _ (i - 1) ⟨false, false, []⟩ (by omega), wsucc i _ hi (by omega), w64 ((blk e (i - 1) : Int) + 1 + 1) (by omega)]
      simp only [cond_true, Option.bind_some]
      have ih' := ih (by omega) m (by omega)
      rw [show i + 1 - 1 = (i - 1) + 1 by omega] at ih'
      have hgr : (!((e.getD i ⟨false, false, []⟩).Greatest == (e.getD (i - 1) ⟨false, false, []⟩).Greatest)) = !(gr e i == gr e (i - 1)) := rfl
      rw [hgr]
      simp only [blk] at ih'
      rw [show i - 1 + 1 = i by omega] at ih'
      simp only [chg1] at ih'
      cases hg : gr e i == gr e (i - 1)
      · rw [hg] at ih'
        simp only [cond_false] at ih'
        simp only [Bool.not_false, cond_true]
        rw [← ih']
        congr 1
      · rw [hg] at ih'
        simpa using ih'
  refine lim_of (e.length + 1) fun m hm => ?_
  have := key 1 h1 (Nat.le_refl _) m (by omega)
  simpa [blk] using this

theorem room8 {n : Nat} (h : n ≤ 1099511627776) : room 8 n = some () := by unfold room; rw [if_pos (by omega)]
theorem impl_blocks (e : List impl_Equation) (h : e.length ≤ 1048576) : impl_equationBlocks e = some ((List.range e.length).map fun i => (blk e i : Int)) := by
  unfold impl_equationBlocks
  have key : ∀ i, i ≤ e.length → ∀ m, e.length - i < m → impl_equationBlocks_l10 e m ((List.range i).map fun i => (blk e i : Int)) (blk e (i - 1) : Int) (i : Int) = some ((List.range e.length).map fun i => (blk e i : Int)) := by
    refine down e.length ?_ ?_
    · intro m hm
      obtain ⟨m, rfl⟩ : ∃ j, m = j + 1 := ⟨m - 1, by omega⟩
      simp only [impl_equationBlocks_l10, impl_equationBlocks_b10]
      rw [ltF (Nat.le_refl _)]; rfl
    · intro i hi ih m hm
      obtain ⟨m, rfl⟩ : ∃ j, m = j + 1 := ⟨m - 1, by omega⟩
      simp only [impl_equationBlocks_l10, impl_equationBlocks_b10, impl_equationBlocks_k27]
      have hb := blk_le e (i - 1)
      rw [ltT hi, getI_nat _ i ⟨false, false, []⟩ hi, wsucc i _ hi (by omega), room8 (by simp; omega)]
      simp only [cond_true, Option.bind_some]
      have ih' := ih m (by omega)
      rw [List.range_succ, List.map_append] at ih'
      simp only [List.map_cons, List.map_nil, Nat.add_sub_cancel] at ih'
      by_cases h0 : i = 0
      · subst h0
        rw [lt0F, cond_false]
        simpa [blk] using ih'
      · rw [ge0T h0, wpredG i (by omega) (by omega), getI_nat _ (i - 1) ⟨false, false, []⟩ (by omega), w64 ((blk e (i - 1) : Int) + 1) (by omega)]
        simp only [cond_true, Option.bind_some]
        have e1 : blk e i = blk e (i - 1) + chg1 e i := by
          obtain ⟨j, rfl⟩ : ∃ j, i = j + 1 := ⟨i - 1, by omega⟩
          simp [blk]
        rw [e1] at ih'
        have hgr : (!((e.getD i ⟨false, false, []⟩).Greatest == (e.getD (i - 1) ⟨false, false, []⟩).Greatest)) = !(gr e i == gr e (i - 1)) := rfl
        rw [hgr]
        simp only [chg1] at ih'
        cases hg : gr e i == gr e (i - 1)
        · rw [hg] at ih'
          simp only [cond_false] at ih'
          simp only [Bool.not_false, cond_true]
          rw [← ih']
          simp
        · rw [hg] at ih'
          simpa using ih'
  refine lim_of (e.length + 1) fun m hm => ?_
  have := key 0 (by omega) m (by omega)
  simpa [blk] using this

/-! Valid systems of equations. -/
def eqsOk (e : List impl_Equation) : Bool := decide (1 ≤ e.length) && decide (e.length ≤ 120) && decide (blk e (e.length - 1) < 9) && allN (fun i => rises (e.getD i ⟨false, false, []⟩).Terms 0 ((e.length : Int) - 1)) e.length
theorem terms_len {e : List impl_Equation} (h : sizeL size_impl_Equation e ≤ 1048576) (i : Nat) : (e.getD i ⟨false, false, []⟩).Terms.length ≤ 1048576 := by
  by_cases hi : i < e.length
  · have h1 := sizeL_mem (f := size_impl_Equation) (List.getElem_mem hi)
    have h2 : e[i].Terms.length ≤ size_impl_Equation e[i] := by unfold size_impl_Equation; omega
    have e1 : e.getD i ⟨false, false, []⟩ = e[i] := by simp [List.getD, hi]
    rw [e1]; omega
  · have e1 : e.getD i ⟨false, false, []⟩ = ⟨false, false, []⟩ := by simp [List.getD, List.getElem?_eq_none (by omega : e.length ≤ i)]
    rw [e1]; simp

theorem spec_eqs (e : List impl_Equation) (h : sizeL size_impl_Equation e ≤ 1048576) : spec_l22Is e = some (eqsOk e) := by
  have hl : e.length ≤ 1048576 := Nat.le_trans (sizeL_len _ _) h
  unfold spec_l22Is eqsOk
  by_cases h1 : 1 ≤ e.length
  · have d1 : decide ((e.length : Int) < 1) = false := by simp; omega
    rw [d1, cond_false]
    by_cases h2 : e.length ≤ 120
    · have d2 : decide ((120 : Int) < (e.length : Int)) = false := by simp; omega
      rw [d2, cond_false, spec_count e h1 hl]
      simp only [Option.bind_some, h1, h2, decide_true, Bool.true_and]
      by_cases h3 : blk e (e.length - 1) < 9
      · have d3 : decide ((9 : Int) < (blk e (e.length - 1) : Int) + 1) = false := by simp; omega
        rw [d3, cond_false]
        simp only [h3, decide_true, Bool.true_and]
        refine all_loop _ (fun m => ?_) fun i hi m => ?_
        · simp only [spec_l22Is_l14, spec_l22Is_b14]; rw [ltF (Nat.le_refl _)]; rfl
        · simp only [spec_l22Is_l14, spec_l22Is_b14]
          rw [ltT hi, getI_nat _ i ⟨false, false, []⟩ hi, wsucc i _ hi (by omega)]
          simp only [cond_true, Option.bind_some]
          rw [spec_rises _ _ _ (terms_len h i), w64 _ (by omega)]
          simp only [Option.bind_some]
          cases rises (e.getD i ⟨false, false, []⟩).Terms 0 ((e.length : Int) - 1) <;> rfl
      · have d3 : decide ((9 : Int) < (blk e (e.length - 1) : Int) + 1) = true := by simp; omega
        rw [d3]
        simp [h3]
    · have d2 : decide ((120 : Int) < (e.length : Int)) = true := by simp; omega
      rw [d2]; simp [h2]
  · have d1 : decide ((e.length : Int) < 1) = true := by simp; omega
    rw [d1]; simp [h1]

theorem impl_eqs (e : List impl_Equation) (h : sizeL size_impl_Equation e ≤ 1048576) : impl_ValidEquations e = some (eqsOk e) := by
  have hl : e.length ≤ 1048576 := Nat.le_trans (sizeL_len _ _) h
  unfold impl_ValidEquations eqsOk impl_within
  simp only [Option.bind_some]
  by_cases h1 : 1 ≤ e.length ∧ e.length ≤ 120
  · have d1 : (!(decide ((1 : Int) ≤ e.length) && decide ((e.length : Int) ≤ 120))) = false := by simp; omega
    rw [d1, cond_false]
    unfold impl_blocksFit
    rw [impl_blocks e hl]
    simp only [Option.bind_some, impl_last_int64, List.length_map, List.length_range]
    rw [wpredG e.length (by omega) (by omega), getI_nat _ (e.length - 1) 0 (by simp; omega)]
    have hg : ((List.range e.length).map fun i => (blk e i : Int)).getD (e.length - 1) 0 = (blk e (e.length - 1) : Int) := by
      simp [List.getD, List.getElem?_map, List.getElem?_range (show e.length - 1 < e.length by omega)]
    simp only [Option.bind_some, hg, h1.1, h1.2, decide_true, Bool.true_and]
    by_cases h3 : blk e (e.length - 1) < 9
    · have d3 : decide ((blk e (e.length - 1) : Int) < 9) = true := by simp; omega
      simp only [d3, h3, decide_true, Bool.true_and, Bool.not_true, cond_false]
      unfold slices_ContainsFunc_impl_Equation__impl_ValidEquations_c1 slices_IndexFunc_impl_Equation__impl_ValidEquations_c1
      rw [find_loop (n := e.length) (fun i => !rises (e.getD i ⟨false, false, []⟩).Terms 0 ((e.length : Int) - 1))]
      · simp only [Option.bind_some]
        rw [findN_ge]
        simp
      · intro m; simp only [slices_IndexFunc_impl_Equation__impl_ValidEquations_c1_l6, slices_IndexFunc_impl_Equation__impl_ValidEquations_c1_b6]; rw [ltF (Nat.le_refl _)]; rfl
      · intro i hi m
        simp only [slices_IndexFunc_impl_Equation__impl_ValidEquations_c1_l6, slices_IndexFunc_impl_Equation__impl_ValidEquations_c1_b6, impl_ValidEquations_c1_2]
        rw [ltT hi, getI_nat _ i ⟨false, false, []⟩ hi, wsucc i _ hi (by omega)]
        simp only [cond_true, Option.bind_some]
        rw [impl_rises _ _ (terms_len h i), w64 _ (by omega)]
        rfl
    · have d3 : decide ((blk e (e.length - 1) : Int) < 9) = false := by simp; omega
      simp [d3, h3]
  · have d1 : (!(decide ((1 : Int) ≤ e.length) && decide ((e.length : Int) ≤ 120))) = true := by simp; omega
    rw [d1, cond_true]
    by_cases h2 : 1 ≤ e.length
    · have : ¬ e.length ≤ 120 := by omega
      simp [this]
    · simp [h2]

end Go.Sh
