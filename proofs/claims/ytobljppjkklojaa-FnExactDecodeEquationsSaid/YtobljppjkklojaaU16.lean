/- Part of a proof that a law returns true for every input. No condition. -/
import Derived.Test.YtobljppjkklojaaU15
namespace Go.Sh
open Go Go.Fw

/-! What was written is read again. -/
theorem rises_all {a : List Int} {n : Nat} (h : rises a 0 ((n : Int) - 1) = true) : (∀ t ∈ a, 0 ≤ t ∧ t < n) ∧ a.length ≤ n := by
  unfold rises at h
  rw [allN_iff] at h
  have hp : ∀ i, i < a.length → 0 ≤ a.getD i 0 ∧ a.getD i 0 ≤ (n : Int) - 1 ∧ (i = 0 ∨ a.getD (i - 1) 0 < a.getD i 0) := by
    intro i hi
    have := h i hi
    unfold risesP at this
    simp only [Bool.and_eq_true, Bool.or_eq_true, decide_eq_true_eq] at this
    exact ⟨this.1.1, this.1.2, this.2⟩
  constructor
  · intro t ht
    obtain ⟨i, hi, e⟩ := List.getElem_of_mem ht
    have := hp i hi
    have e2 : a.getD i 0 = t := by simp [List.getD, hi, e]
    rw [e2] at this
    exact ⟨this.1, by omega⟩
  · have key : ∀ i : Nat, i < a.length → (i : Int) ≤ a.getD i 0 := by
      intro i
      induction i with
      | zero => intro hi; exact (hp 0 hi).1
      | succ i ih =>
        intro hi
        have h1 := ih (by omega)
        have h2 := (hp (i + 1) hi).2.2
        rcases h2 with h2 | h2
        · omega
        · rw [Nat.add_sub_cancel] at h2; omega
    by_cases h0 : a.length = 0
    · omega
    · have h1 := key (a.length - 1) (by omega)
      have h2 := (hp (a.length - 1) (by omega)).2.1
      omega

def eqGood (x : impl_Equation) : Prop := x.Terms.length < 128 ∧ ∀ t ∈ x.Terms, 0 ≤ t ∧ t < 128
theorem eqsOk_good {e : List impl_Equation} (h : eqsOk e = true) : e.length < 128 ∧ ∀ x ∈ e, eqGood x := by
  unfold eqsOk at h
  simp only [Bool.and_eq_true, decide_eq_true_eq, allN_iff] at h
  obtain ⟨⟨⟨h1, h2⟩, h3⟩, h4⟩ := h
  refine ⟨by omega, fun x hx => ?_⟩
  obtain ⟨i, hi, e1⟩ := List.getElem_of_mem hx
  have := h4 i hi
  have e2 : e.getD i ⟨false, false, []⟩ = x := by simp [List.getD, hi, e1]
  rw [e2] at this
  obtain ⟨g1, g2⟩ := rises_all this
  exact ⟨by omega, fun t ht => ⟨(g1 t ht).1, by have := (g1 t ht).2; omega⟩⟩

def flagI (x : impl_Equation) : Int := tv x.Greatest + 2 * tv x.All
def eqB1 (x : impl_Equation) : List UInt8 := toB (flagI x) :: toB (x.Terms.length : Int) :: x.Terms.map toB
theorem flag_b (x : impl_Equation) : 0 ≤ flagI x ∧ flagI x < 128 ∧ (Int.tmod (flagI x) 2 == 1) = x.Greatest ∧ (IntKind.i64.wrap (Int.tdiv (flagI x) 2) == 1) = x.All := by
  have key : ∀ g a : Bool, 0 ≤ tv g + 2 * tv a ∧ tv g + 2 * tv a < 128 ∧ (Int.tmod (tv g + 2 * tv a) 2 == 1) = g ∧ (IntKind.i64.wrap (Int.tdiv (tv g + 2 * tv a) 2) == 1) = a := by
    intro g a; cases g <;> cases a <;> decide
  exact key _ _
theorem flat_one : ∀ a : List Int, (∀ t ∈ a, 0 ≤ t ∧ t < 128) → a.flatMap num = a.map toB
  | [], _ => rfl
  | t :: a, h => by
    rw [List.flatMap_cons, (num_one (h t (by simp)).1 (h t (by simp)).2).1, flat_one a fun t ht => h t (by simp [ht])]; rfl
theorem eqBytes_one {x : impl_Equation} (h : eqGood x) : eqBytes x = eqB1 x := by
  have hf := flag_b x
  unfold eqBytes eqB1
  rw [flat_one _ h.2, (num_one (n := (x.Terms.length : Int)) (by omega) (by have := h.1; omega)).1]
  have : num (tv x.Greatest + 2 * tv x.All) = [toB (flagI x)] := (num_one hf.1 hf.2.1).1
  rw [this]; rfl
theorem flats_one : ∀ e : List impl_Equation, (∀ x ∈ e, eqGood x) → e.flatMap eqBytes = e.flatMap eqB1
  | [], _ => rfl
  | x :: e, h => by rw [List.flatMap_cons, List.flatMap_cons, eqBytes_one (h x (by simp)), flats_one e fun x hx => h x (by simp [hx])]

theorem impl_one' (n : Int) (r : List UInt8) (b : Bool) (h0 : 0 ≤ n) (h : n < 128) : impl_unpacker_number (toB n :: r) b = some (n, r, b) := by
  have e := (num_one h0 h).2
  rw [impl_one _ _ _ (by rw [e]; exact h), e]
theorem drop_at {a : List UInt8} {p : Nat} {c : UInt8} {r : List UInt8} (h : a.drop p = c :: r) : ∃ hp : p < a.length, a[p] = c ∧ a.drop (p + 1) = r := by
  have hp : p < a.length := by
    apply Decidable.byContradiction
    intro hn
    rw [List.drop_of_length_le (by omega)] at h
    cases h
  refine ⟨hp, ?_⟩
  rw [List.drop_eq_getElem_cons hp] at h
  simp only [List.cons.injEq] at h
  exact h
theorem spec_one' {a : List UInt8} (ha : a.length ≤ 1048576) {p : Nat} {n : Int} {r : List UInt8} (b : Bool) (h0 : 0 ≤ n) (hn : n < 128) (h : a.drop p = toB n :: r) :
    spec_l32Reader_number a (p : Int) b = some (n, a, ((p + 1 : Nat) : Int), b) ∧ a.drop (p + 1) = r := by
  obtain ⟨hp, e1, e2⟩ := drop_at h
  have e := (num_one h0 hn).2
  have := spec_one a ha b p hp (by rw [e1, e]; exact hn)
  rw [e1, e] at this
  exact ⟨this, e2⟩

theorem impl_reads_back (ts : List Int) (hl : ts.length < 128) (ht : ∀ t ∈ ts, 0 ≤ t ∧ t < 128) (r : List UInt8) : impl_unpacker_numbers (ts.map toB ++ r) false (ts.length : Int) = some (ts, r, false) := by
  have key : ∀ i : Nat, i ≤ ts.length → ∀ m, ts.length - i < m → impl_unpacker_numbers_l8 (ts.length : Int) m ((ts.drop i).map toB ++ r) false (ts.take i) (i : Int) = some (ts, r, false) := by
    refine down ts.length ?_ ?_
    · intro m hm
      obtain ⟨m, rfl⟩ : ∃ j, m = j + 1 := ⟨m - 1, by omega⟩
      simp only [impl_unpacker_numbers_l8, impl_unpacker_numbers_b8]
      rw [ltF (Nat.le_refl _)]; simp
    · intro i hi ih m hm
      obtain ⟨m, rfl⟩ : ∃ j, m = j + 1 := ⟨m - 1, by omega⟩
      simp only [impl_unpacker_numbers_l8, impl_unpacker_numbers_b8]
      have h1 := ht _ (List.getElem_mem hi)
      rw [ltT hi, drop_cons ts i hi, List.map_cons, List.cons_append, impl_one' _ _ _ h1.1 h1.2]
      simp only [Bool.not_false, Bool.and_self, cond_true, Option.bind_some]
      rw [room_ok (by rw [List.length_take]; omega) (by rw [List.length_take]; omega), wsucc i _ hi (by omega)]
      simp only [Option.bind_some]
      have e : ts.take i ++ [ts[i]] = ts.take (i + 1) := by rw [List.take_succ_eq_append_getElem hi]
      rw [e]
      exact ih m (by omega)
  refine lim_of (ts.length + 1) fun m hm => ?_
  have := key 0 (by omega) m (by omega)
  simpa using this

theorem impl_back (a0 : List UInt8) (e : List impl_Equation) (hl : e.length < 128) (hg : ∀ x ∈ e, eqGood x) : ∀ i : Nat, i ≤ e.length → ∀ m, e.length - i < m →
    impl_DecodeEquations_l18 a0 m ((e.drop i).flatMap eqB1) false (e.take i) (((e.length - i : Nat)) : Int) = finI a0 e := by
  refine down e.length ?_ ?_
  · intro m hm
    obtain ⟨m, rfl⟩ : ∃ j, m = j + 1 := ⟨m - 1, by omega⟩
    simp only [impl_DecodeEquations_l18, impl_DecodeEquations_b18, Nat.sub_self, lt0F, Bool.false_and, cond_false, List.take_length]
    rfl
  · intro i hi ih m hm
    obtain ⟨m, rfl⟩ : ∃ j, m = j + 1 := ⟨m - 1, by omega⟩
    have hx := hg _ (List.getElem_mem hi)
    have hf := flag_b e[i]
    rw [drop_cons e i hi, List.flatMap_cons]
    simp only [impl_DecodeEquations_l18, impl_DecodeEquations_b18]
    have e1 : eqB1 e[i] ++ (e.drop (i + 1)).flatMap eqB1 = toB (flagI e[i]) :: (toB (e[i].Terms.length : Int) :: (e[i].Terms.map toB ++ (e.drop (i + 1)).flatMap eqB1)) := by
      simp [eqB1]
    rw [e1, lt0 (show 0 < e.length - i by omega), impl_one' _ _ _ hf.1 hf.2.1]
    simp only [Bool.not_false, Bool.and_self, cond_true, Option.bind_some]
    rw [impl_one' _ _ _ (by omega) (by have := hx.1; omega)]
    simp only [Option.bind_some]
    rw [impl_reads_back _ hx.1 hx.2]
    simp only [Option.bind_some]
    rw [room_ok (by rw [List.length_take]; omega) (by rw [List.length_take]; omega), hf.2.2.1, hf.2.2.2]
    simp only [Option.bind_some]
    have e2 : e.take i ++ [impl_Equation.mk e[i].Greatest e[i].All e[i].Terms] = e.take (i + 1) := by rw [List.take_succ_eq_append_getElem hi]
    have e3 : IntKind.i64.wrap (((e.length - i : Nat) : Int) - 1) = ((e.length - (i + 1) : Nat) : Int) := by rw [w64 _ (by omega)]; omega
    rw [e2, e3]
    exact ih m (by omega)

theorem spec_back (a0 a : List UInt8) (ha : a.length ≤ 7000) (e : List impl_Equation) (hl : e.length < 128) (hg : ∀ x ∈ e, eqGood x) : ∀ i : Nat, i ≤ e.length → ∀ (p : Nat) m, e.length - i < m → a.drop p = (e.drop i).flatMap eqB1 →
    spec_DecodeEquations_l18 a0 m a (p : Int) false (e.take i) (((e.length - i : Nat)) : Int) = finS a0 false e := by
  refine down e.length ?_ ?_
  · intro p m hm _
    obtain ⟨m, rfl⟩ : ∃ j, m = j + 1 := ⟨m - 1, by omega⟩
    simp only [spec_DecodeEquations_l18, spec_DecodeEquations_b18, Nat.sub_self, lt0F, Bool.false_and, cond_false, List.take_length]
    rfl
  · intro i hi ih p m hm hd
    obtain ⟨m, rfl⟩ : ∃ j, m = j + 1 := ⟨m - 1, by omega⟩
    have hx := hg _ (List.getElem_mem hi)
    have hf := flag_b e[i]
    rw [drop_cons e i hi, List.flatMap_cons] at hd
    have e1 : eqB1 e[i] ++ (e.drop (i + 1)).flatMap eqB1 = toB (flagI e[i]) :: (toB (e[i].Terms.length : Int) :: (e[i].Terms.map toB ++ (e.drop (i + 1)).flatMap eqB1)) := by
      simp [eqB1]
    rw [e1] at hd
    obtain ⟨g1, g2⟩ := spec_one' (by omega) false hf.1 hf.2.1 hd
    obtain ⟨g3, g4⟩ := spec_one' (by omega) false (by omega) (by have := hx.1; omega) g2
    simp only [spec_DecodeEquations_l18, spec_DecodeEquations_b18]
    rw [lt0 (show 0 < e.length - i by omega), g1]
    simp only [Bool.not_false, Bool.and_self, cond_true, Option.bind_some]
    rw [g3]
    simp only [Option.bind_some]
    have key : ∀ j : Nat, j ≤ e[i].Terms.length → ∀ (p1 : Nat) m2, e[i].Terms.length - j < m2 → a.drop p1 = (e[i].Terms.drop j).map toB ++ (e.drop (i + 1)).flatMap eqB1 →
        spec_DecodeEquations_l35 (spec_DecodeEquations_l18 a0 m) a0 (flagI e[i], a, ((p + 1 : Nat) : Int), false) m2 a (p1 : Int) false (e.take i) (((e.length - i : Nat)) : Int) (e[i].Terms.take j) (((e[i].Terms.length - j : Nat)) : Int) = finS a0 false e := by
      refine down e[i].Terms.length ?_ ?_
      · intro p1 m2 hm2 hd1
        obtain ⟨m2, rfl⟩ : ∃ j, m2 = j + 1 := ⟨m2 - 1, by omega⟩
        simp only [spec_DecodeEquations_l35, spec_DecodeEquations_b35, Nat.sub_self, lt0F, Bool.false_and, cond_false, List.take_length]
        rw [room_ok (by rw [List.length_take]; omega) (by rw [List.length_take]; omega), hf.2.2.1, hf.2.2.2]
        simp only [Option.bind_some]
        have e2 : e.take i ++ [impl_Equation.mk e[i].Greatest e[i].All e[i].Terms] = e.take (i + 1) := by rw [List.take_succ_eq_append_getElem hi]
        have e3 : IntKind.i64.wrap (((e.length - i : Nat) : Int) - 1) = ((e.length - (i + 1) : Nat) : Int) := by rw [w64 _ (by omega)]; omega
        rw [e2, e3]
        refine ih p1 m (by omega) ?_
        rw [hd1, List.drop_length]; rfl
      · intro j hj ihj p1 m2 hm2 hd1
        obtain ⟨m2, rfl⟩ : ∃ j, m2 = j + 1 := ⟨m2 - 1, by omega⟩
        have h1 := hx.2 _ (List.getElem_mem hj)
        rw [drop_cons _ j hj, List.map_cons, List.cons_append] at hd1
        obtain ⟨q1, q2⟩ := spec_one' (by omega) false h1.1 h1.2 hd1
        have hxl := hx.1
        simp only [spec_DecodeEquations_l35, spec_DecodeEquations_b35]
        rw [lt0 (show 0 < e[i].Terms.length - j by omega), q1]
        simp only [Bool.not_false, Bool.and_self, cond_true, Option.bind_some]
        rw [room_ok (by rw [List.length_take]; omega) (by rw [List.length_take]; omega)]
        simp only [Option.bind_some]
        have e2 : e[i].Terms.take j ++ [e[i].Terms[j]] = e[i].Terms.take (j + 1) := by rw [List.take_succ_eq_append_getElem hj]
        have e3 : IntKind.i64.wrap (((e[i].Terms.length - j : Nat) : Int) - 1) = ((e[i].Terms.length - (j + 1) : Nat) : Int) := by rw [w64 _ (by omega)]; omega
        rw [e2, e3]
        exact ihj (p1 + 1) m2 (by omega) q2
    refine lim_of (e[i].Terms.length + 1) fun m2 hm2 => ?_
    have := key 0 (by omega) (p + 1 + 1) m2 (by omega) (by simpa using g4)
    simpa using this

end Go.Sh
