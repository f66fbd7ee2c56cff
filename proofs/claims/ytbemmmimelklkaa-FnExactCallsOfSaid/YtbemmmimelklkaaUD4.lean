/- Part of a proof that a law returns true for every input. No condition. -/
import Derived.Test.YtbemmmimelklkaaUD3
namespace Go.Sh
open Go Go.Fw
theorem all_loopI {l : Nat → Int → Option Int} {n : Nat} (p : Nat → Bool) (good bad : Int) (h0 : ∀ m, l (m + 1) (n : Int) = some good)
  (hs : ∀ i, i < n → ∀ m, l (m + 1) (i : Int) = cond (p i) (l m ((i + 1 : Nat) : Int)) (some bad)) : lim (fun m => l m 0) = some (cond (allN p n) good bad) := by
 rw [up_lim (n := n) (fun i => some (cond ((List.range' i (n - i)).all p) good bad))]
 ·simp [allN, List.range_eq_range']
 ·intro m; rw [h0]; simp
 ·intro i hi m ih
  rw [hs i hi, ih, show n - i = (n - (i + 1)) + 1 by omega, List.range'_succ]
  cases hp : p i <;> simp [hp]
def smallP (p : impl_Part) : Prop := p.Name.length ≤ 1048576 ∧ p.Arguments.length ≤ 1048576 ∧ ∀ e ∈ p.Arguments, e.length ≤ 1048576
def argsOk (p : impl_Part) (sc : Int) : Bool := allN (fun i => termsV (p.Arguments.getD i []) sc 15) p.Arguments.length
theorem spec_args (p : impl_Part) (hp : smallP p) (sc : Int) (h : 0 ≤ sc ∧ sc ≤ 29) : lim (fun n => spec_l05Reason_l87 p n sc 0) = some (cond (argsOk p sc) 0 8) := by
 refine all_loopI (l := fun m i => spec_l05Reason_l87 p m sc i) _ _ _ (fun m => ?_) (fun i hi m => ?_)
 ·simp only [spec_l05Reason_l87, spec_l05Reason_b87]
  rw [ltF (Nat.le_refl _)]; rfl
 ·simp only [spec_l05Reason_l87, spec_l05Reason_b87]
  rw [ltT hi, getI_nat _ i [] hi, wsucc i _ hi (by have := hp.2.1; omega)]
  simp only [cond_true, Option.bind_some]
  rw [spec_is _ sc 15 (by omega) (by
   have : p.Arguments.getD i [] = p.Arguments[i] := by simp [List.getD, hi]
   rw [this]; exact hp.2.2 _ (List.getElem_mem hi))]
  simp only [Option.bind_some]
  cases termsV (p.Arguments.getD i []) sc 15 <;> rfl
theorem impl_args (p : impl_Part) (hp : smallP p) (pl : impl_place) (h : 0 ≤ pl.scope ∧ pl.scope ≤ 29) : slices_ContainsFunc_impl_Term__impl_Part_reason_c1 p.Arguments pl = some (!(argsOk p pl.scope)) := by
 unfold slices_ContainsFunc_impl_Term__impl_Part_reason_c1 slices_IndexFunc_impl_Term__impl_Part_reason_c1
 rw [find_loop (n := p.Arguments.length) (fun i => !termsV (p.Arguments.getD i []) pl.scope 15)]
 ·simp only [Option.bind_some, findN_ge, Bool.not_not]; rfl
 ·intro m
  simp only [slices_IndexFunc_impl_Term__impl_Part_reason_c1_l6, slices_IndexFunc_impl_Term__impl_Part_reason_c1_b6]
  rw [ltF (Nat.le_refl _)]; rfl
 ·intro i hi m
  simp only [slices_IndexFunc_impl_Term__impl_Part_reason_c1_l6, slices_IndexFunc_impl_Term__impl_Part_reason_c1_b6]
  rw [ltT hi, getI_nat _ i [] hi, wsucc i _ hi (by have := hp.2.1; omega)]
  simp only [cond_true, Option.bind_some, impl_Part_reason_c1_2]
  rw [impl_valid _ pl.scope 15 h (by omega) (by
   have : p.Arguments.getD i [] = p.Arguments[i] := by simp [List.getD, hi]
   rw [this]; exact hp.2.2 _ (List.getElem_mem hi))]
  simp only [Option.bind_some]
theorem impl_action (s : List UInt8) (hs : s.length ≤ 1048576) : impl_IsAction s = some (nameOk s && !(s == ([116, 97, 117] : List UInt8))) := by
 unfold impl_IsAction
 rw [impl_name s (by omega)]; rfl
theorem tau_name {s : List UInt8} (h : (s == ([116, 97, 117] : List UInt8)) = true) : nameOk s = true := by
 have : s = [116, 97, 117] := by simpa using h
 subst this; decide
theorem impl_idx (n : Int) (l : Nat) (hl : l ≤ 1048576) : impl_index n (l : Int) = some (decide (0 ≤ n) && decide (n ≤ (l : Int) - 1)) := by
 unfold impl_index impl_within
 rw [w64 ((l : Int) - 1) (by omega)]; rfl
theorem reason_eq (list : List impl_Definition) (hl : list.length ≤ 4) (d : impl_Definition) (at_ : Nat) (hat : at_ < d.Body.length) (hb : d.Body.length ≤ 20) (hp : smallP d.Body[at_]) (pl : impl_place)
  (hsc : spec_l05Scope d (at_ : Int) = some pl.scope) (h29 : 0 ≤ pl.scope ∧ pl.scope ≤ 29)
  (hbh : pl.behind = behAt d.Body at_) :
  ∃ r, spec_l05Reason list d (at_ : Int) = some r ∧ impl_Part_reason d.Body[at_] list pl = some r ∧ 0 ≤ r := by
 have hspec : ∀ p, smallP p → p = d.Body[at_] → ∃ r, spec_l05Reason list d (at_ : Int) = some r ∧ impl_Part_reason p list pl = some r ∧ 0 ≤ r := by
  intro p hp hpd
  have hsa := spec_args p hp pl.scope h29
  have hia := impl_args p hp pl h29
  have hact := impl_action p.Name hp.1
  have hnm := spec_name p.Name
  -- the place
  have hk65 : spec_l05Reason_k65 d (at_ : Int) p = some (cond ((p.Kind == 5) && !pl.behind) 6 (cond ((p.Kind == 4) && decide (6 ≤ pl.scope)) 7 (cond (argsOk p pl.scope) 0 8))) := by
   have hk68 : ∀ v, spec_l05Reason_k68 d (at_ : Int) p v = some (cond v 6 (cond ((p.Kind == 4) && decide (6 ≤ pl.scope)) 7 (cond (argsOk p pl.scope) 0 8))) := by
    intro v
    unfold spec_l05Reason_k68
    rw [hsc]
    simp only [Option.bind_some, hsa]
    cases v <;> cases (p.Kind == 4 && decide (6 ≤ pl.scope)) <;> rfl
   unfold spec_l05Reason_k65
   simp only [hk68]
   cases at_ with
   | zero =>
     replace hbh : pl.behind = false := hbh
     rw [hbh]
     simp only [Bool.not_false, Bool.and_true]
     cases p.Kind == 5 <;> rfl
   | succ q =>
     have hq : q < d.Body.length := by omega
     have e0 : (((q + 1 : Nat) : Int) == 0) = false := by rw [beq_eq_false_iff_ne]; omega
     rw [e0, wpredG (q + 1) (by omega) (by omega), show q + 1 - 1 = q from rfl, getI_lt _ q hq]
     replace hbh : pl.behind = (match d.Body[q]? with | some p => p.Kind == 1 | none => false) := hbh
     rw [List.getElem?_eq_getElem hq] at hbh
     simp only [cond_false, Option.bind_some]
     simp only at hbh
     rw [hbh]
     have hne : (d.Body[q].Kind != 1) = !(d.Body[q].Kind == 1) := rfl
     rw [hne]
     cases p.Kind == 5 <;> cases d.Body[q].Kind == 1 <;> rfl
  have hget : getI d.Body (at_ : Int) = some p := by rw [getI_lt _ at_ hat, hpd]
  have hargs0 : ((p.Arguments.length : Int) == 0) = true → argsOk p pl.scope = true := by
   intro h
   have : p.Arguments.length = 0 := by simpa using h
   unfold argsOk; rw [this]; rfl
  unfold spec_l05Reason impl_Part_reason impl_Part_kindOk spec_l05Kind spec_l05Kind_k12
  rw [hget]
  simp only [spec_l05Reason_k15, spec_l05Reason_k23, impl_Part_reason_k12, impl_Part_reason_k18, Option.bind_some, hk65, hia, hact, hnm, impl_within, spec_l00In, impl_idx _ _ (show list.length ≤ 1048576 by omega), impl_Part_countOk]
  rw [w64 ((list.length : Int) - 1) (by omega)]
  obtain ⟨K, N, Nm, As⟩ := p
  simp only at *
  by_cases h0 : K = 0
  ·subst h0
   simp only [Int.reduceBEq, Int.reduceLE, decide_true, decide_false, Bool.false_and, Bool.true_and, Bool.and_true, Bool.false_or, Bool.or_false, cond_true, cond_false, Bool.and_self, Option.bind_some]
   cases N == 0
   ·exact ⟨2, rfl, rfl, by decide⟩
   ·cases Nm == []
    ·exact ⟨2, rfl, rfl, by decide⟩
    ·cases ha : ((As.length : Int) == 0)
     ·exact ⟨2, rfl, rfl, by decide⟩
     ·simp only [Bool.and_true, Bool.not_true, Bool.not_false, cond_true, cond_false, hargs0 ha]
      exact ⟨0, rfl, rfl, by decide⟩
  ·by_cases h1 : K = 1
   ·subst h1
    simp only [Int.reduceBEq, Int.reduceLE, decide_true, decide_false, Bool.false_and, Bool.true_and, Bool.and_true, Bool.false_or, Bool.or_false, Bool.true_or, cond_true, cond_false, Bool.and_self, Option.bind_some]
    cases N == 0
    ·exact ⟨2, rfl, rfl, by decide⟩
    ·simp only [Bool.not_true, cond_false]
     cases ht : (Nm == ([116, 97, 117] : List UInt8))
     ·simp only [Bool.not_false, Bool.and_true, cond_true]
      cases nameOk Nm
      ·exact ⟨3, rfl, rfl, by decide⟩
      ·simp only [Bool.not_true, cond_false, Bool.and_false, Bool.or_false, Bool.true_and]
       by_cases hn : As.length ≤ 2
       ·have e1 : decide ((2 : Int) < (As.length : Int)) = false := decide_eq_false (by omega)
        have e2 : decide ((As.length : Int) ≤ 2) = true := decide_eq_true (by omega)
        rw [e1, e2, Bool.or_true]
        cases argsOk ⟨1, N, Nm, As⟩ pl.scope
        ·exact ⟨8, rfl, rfl, by decide⟩
        ·exact ⟨0, rfl, rfl, by decide⟩
       ·have e1 : decide ((2 : Int) < (As.length : Int)) = true := decide_eq_true (by omega)
        have e2 : decide ((As.length : Int) ≤ 2) = false := decide_eq_false (by omega)
        have e3 : ((As.length : Int) == 0) = false := by rw [beq_eq_false_iff_ne]; omega
        rw [e1, e2, e3]
        exact ⟨5, rfl, rfl, by decide⟩
     ·rw [tau_name ht]
      simp only [Bool.not_true, cond_false, Bool.and_true, Bool.false_and, Bool.or_false]
      by_cases hn : As.length = 0
      ·have e1 : decide ((2 : Int) < (As.length : Int)) = false := decide_eq_false (by omega)
       have e2 : decide ((0 : Int) < (As.length : Int)) = false := decide_eq_false (by omega)
       have e3 : ((As.length : Int) == 0) = true := by rw [hn]; rfl
       rw [e1, e2, hargs0 e3, e3]
       exact ⟨0, rfl, rfl, by decide⟩
      ·have e2 : decide ((0 : Int) < (As.length : Int)) = true := decide_eq_true (by omega)
       have e3 : ((As.length : Int) == 0) = false := by rw [beq_eq_false_iff_ne]; omega
       rw [e2, e3, Bool.or_true]
       exact ⟨5, rfl, rfl, by decide⟩
   ·by_cases h2 : K = 2
    ·subst h2
     simp only [Int.reduceBEq, Int.reduceLE, decide_true, decide_false, Bool.false_and, Bool.true_and, Bool.and_true, Bool.false_or, Bool.or_false, cond_true, cond_false, Bool.and_self, Option.bind_some]
     cases N == 0
     ·exact ⟨2, rfl, rfl, by decide⟩
     ·cases Nm == []
      ·exact ⟨2, rfl, rfl, by decide⟩
      ·cases ha : ((As.length : Int) == 0)
       ·exact ⟨2, rfl, rfl, by decide⟩
       ·simp only [Bool.and_true, Bool.not_true, Bool.not_false, cond_true, cond_false, hargs0 ha]
        exact ⟨0, rfl, rfl, by decide⟩
    ·by_cases h3 : K = 3
     ·subst h3
      simp only [Int.reduceBEq, Int.reduceLE, decide_true, decide_false, Bool.false_and, Bool.true_and, Bool.and_true, Bool.false_or, Bool.or_false, Bool.true_or, Bool.or_true, cond_true, cond_false, Bool.and_self, Option.bind_some]
      cases N == 0
      ·exact ⟨2, rfl, rfl, by decide⟩
      ·cases Nm == []
       ·exact ⟨2, rfl, rfl, by decide⟩
       ·have hne : ((As.length : Int) != 1) = !((As.length : Int) == 1) := rfl
        rw [hne]
        cases ((As.length : Int) == 1)
        ·exact ⟨5, rfl, rfl, by decide⟩
        ·cases argsOk ⟨3, N, Nm, As⟩ pl.scope
         ·exact ⟨8, rfl, rfl, by decide⟩
         ·exact ⟨0, rfl, rfl, by decide⟩
     ·by_cases h4 : K = 4
      ·subst h4
       simp only [Int.reduceBEq, Int.reduceLE, decide_true, decide_false, Bool.false_and, Bool.true_and, Bool.and_true, Bool.false_or, Bool.or_false, Bool.true_or, Bool.or_true, cond_true, cond_false, Bool.and_self, Option.bind_some]
       cases Nm == []
       ·exact ⟨2, rfl, rfl, by decide⟩
       ·cases ha : ((As.length : Int) == 0)
        ·exact ⟨2, rfl, rfl, by decide⟩
        ·rw [hargs0 ha]
         cases (decide (1 ≤ N) && decide (N ≤ 7))
         ·exact ⟨4, rfl, rfl, by decide⟩
         ·cases decide (6 ≤ pl.scope)
          ·exact ⟨0, rfl, rfl, by decide⟩
          ·exact ⟨7, rfl, rfl, by decide⟩
      ·by_cases h5 : K = 5
       ·subst h5
        simp only [Int.reduceBEq, Int.reduceLE, decide_true, decide_false, Bool.false_and, Bool.true_and, Bool.and_true, Bool.false_or, Bool.or_false, Bool.true_or, Bool.or_true, cond_true, cond_false, Bool.and_self, Option.bind_some]
        cases Nm == []
        ·exact ⟨2, rfl, rfl, by decide⟩
        ·cases hi : (decide (0 ≤ N) && decide (N ≤ (list.length : Int) - 1))
         ·exact ⟨4, rfl, rfl, by decide⟩
         ·simp only [Bool.and_eq_true, decide_eq_true_eq] at hi
          obtain ⟨i, rfl⟩ : ∃ i : Nat, N = i := ⟨N.toNat, by omega⟩
          rw [getI_lt list i (by omega)]
          simp only [Option.bind_some, Bool.not_true, cond_false]
          have hne : ((As.length : Int) != list[i].Parameters) = !((As.length : Int) == list[i].Parameters) := rfl
          rw [hne]
          cases ((As.length : Int) == list[i].Parameters)
          ·exact ⟨5, rfl, rfl, by decide⟩
          ·cases pl.behind
           ·exact ⟨6, rfl, rfl, by decide⟩
           ·cases argsOk ⟨5, i, Nm, As⟩ pl.scope
            ·exact ⟨8, rfl, rfl, by decide⟩
            ·exact ⟨0, rfl, rfl, by decide⟩
       ·have e0 : (K == 0) = false := by simpa using h0
        have e1 : (K == 1) = false := by simpa using h1
        have e2 : (K == 2) = false := by simpa using h2
        have e3 : (K == 3) = false := by simpa using h3
        have e4 : (K == 4) = false := by simpa using h4
        have e5 : (K == 5) = false := by simpa using h5
        have e6 : (decide (0 ≤ K) && decide (K ≤ 5)) = false := by
         rw [Bool.and_eq_false_iff, decide_eq_false_iff_not, decide_eq_false_iff_not]; omega
        simp only [e0, e1, e2, e3, e4, e5, e6, Bool.false_and, cond_false, Option.bind_some]
        exact ⟨2, rfl, rfl, by decide⟩
 exact hspec _ hp rfl
end Go.Sh
