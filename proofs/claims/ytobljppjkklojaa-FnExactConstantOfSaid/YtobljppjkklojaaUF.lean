/- Part of a proof that a law returns true for every input. No condition. -/
import Derived.Test.YtobljppjkklojaaUV
namespace Go.Sh
open Go Go.Fw

/-! Reading a tree. -/
theorem tree_args (rec : List impl_Term → Option (impl_Term × List impl_expr × List impl_Term)) (t : impl_Term) (a : List impl_expr) (rest : List impl_Term) (ha : a.length ≤ 1000)
    (hrec : ∀ x ∈ a, ∀ rest, rec (flatE x ++ rest) = some (x.term, x.args, rest)) : lim (fun n => impl_treeFrom_l10 rec t (a.length : Int) n [] (flatEs a ++ rest) 0) = some (t, a, rest) := by
  have key : ∀ i, i ≤ a.length → ∀ m, a.length - i < m → impl_treeFrom_l10 rec t (a.length : Int) m (a.take i) (flatEs (a.drop i) ++ rest) (i : Int) = some (t, a, rest) := by
    refine down a.length ?_ ?_
    · intro m hm
      obtain ⟨m, rfl⟩ : ∃ j, m = j + 1 := ⟨m - 1, by omega⟩
      simp only [impl_treeFrom_l10, impl_treeFrom_b10]
      rw [ltF (Nat.le_refl _)]
      simp [flatEs]
    · intro i hi ih m hm
      obtain ⟨m, rfl⟩ : ∃ j, m = j + 1 := ⟨m - 1, by omega⟩
      simp only [impl_treeFrom_l10, impl_treeFrom_b10]
      rw [ltT hi, wsucc i _ hi (by omega), drop_cons a i hi]
      simp only [cond_true, flatEs, List.append_assoc]
      rw [hrec _ (List.getElem_mem hi)]
      simp only [Option.bind_some]
      rw [room_ok (by simp; omega) (by simp; omega), exprEta]
      simp only [Option.bind_some]
      have ih' := ih m (by omega)
      rw [List.take_succ_eq_append_getElem hi] at ih'
      exact ih'
  refine lim_of (a.length + 1) fun m hm => ?_
  have := key 0 (by omega) m (by omega)
  simpa using this

theorem treeFrom_r (n : Nat) : ∀ x, wfE x → sizeE x ≤ n → ∀ rest, impl_treeFrom_r n (flatE x ++ rest) = some (x.term, x.args, rest) := by
  induction n with
  | zero => intro x _ h; have := sizeE_pos x; omega
  | succ n ih =>
    intro x hw hs rest
    obtain ⟨h1, h2⟩ := (wfE_iff x).1 hw
    have hsz := sizeE_args x
    simp only [impl_treeFrom_r, impl_treeFrom_f, flatE_cons, List.cons_append, getI_zero, Option.bind_some, subL_tail, impl_ops, ← h1]
    refine tree_args _ _ _ _ (by have := arT_le x.term; omega) fun y hy rest => ih y (wfEs_mem h2 y hy) ?_ rest
    have := sizeEs_mem y hy
    omega
theorem impl_tree_spec (x : impl_expr) (hw : wfE x) : impl_tree (flatE x) = some (x.term, x.args) := by
  unfold impl_tree impl_treeFrom
  rw [lim_of (x := some (x.term, x.args, [])) (sizeE x) fun n hn => by
    have := treeFrom_r n x hw hn []
    simpa using this]
  rfl

/-! Values and folding. -/
def opV (op a b : Int) : Int :=
  cond (op == 0) (Int.tmod (IntKind.i64.wrap (a + b)) 64) (cond (op == 1) (Int.tmod (IntKind.i64.wrap ((IntKind.i64.wrap (a - b)) + 64)) 64) (cond (op == 2) (Int.tmod (IntKind.i64.wrap (a * b)) 64) (cond (op == 3) (tv (a == b)) (cond (op == 4) (tv (a != b)) (cond (op == 5) (tv (decide (a < b))) (cond (op == 6) (tv (decide (a ≤ b))) (cond (op == 7) (tv ((a != 0) && (b != 0))) (tv ((a != 0) || (b != 0))))))))))
theorem impl_op (op a b : Int) : impl_operate op a b = some (opV op a b) := by
  unfold impl_operate opV impl_truth
  simp only [tv_some, Option.bind_some]
  cases op == 0 <;> cases op == 1 <;> cases op == 2 <;> cases op == 3 <;> cases op == 4 <;> cases op == 5 <;> cases op == 6 <;> cases op == 7 <;> cases a != 0 <;> cases b != 0 <;> rfl
theorem spec_op (op a b : Int) : spec_l03Op op a b = some (opV op a b) := by
  unfold spec_l03Op opV spec_l03Truth
  simp only [tv_some, Option.bind_some]
  cases op == 0 <;> cases op == 1 <;> cases op == 2 <;> cases op == 3 <;> cases op == 4 <;> cases op == 5 <;> cases op == 6 <;> cases op == 7 <;> cases a != 0 <;> cases b != 0 <;> rfl

/-- What a term makes of its operands' values. -/
def opT (t : impl_Term) (l : List Int) : Int := cond (t.Kind == 3) (tv (l.getD 0 0 == 0)) (opV t.Value (l.getD 0 0) (l.getD 1 0))
def isNum (x : impl_expr) : Bool := x.term.Kind == 0
mutual
def foldE : impl_expr → impl_expr
  | .mk t a => if a.length = 0 then .mk t a else if (foldEs a).all isNum = true then .mk ⟨0, opT t ((foldEs a).map fun x => x.term.Value)⟩ [] else .mk t (foldEs a)
def foldEs : List impl_expr → List impl_expr
  | [] => []
  | x :: r => foldE x :: foldEs r
end
theorem foldEs_map : ∀ a, foldEs a = a.map foldE
  | [] => by simp only [foldEs, List.map_nil]
  | x :: r => by simp only [foldEs, List.map_cons, foldEs_map r]
theorem foldE_eq (x : impl_expr) : foldE x = if x.args.length = 0 then x else if (x.args.map foldE).all isNum = true then .mk ⟨0, opT x.term ((x.args.map foldE).map fun x => x.term.Value)⟩ [] else .mk x.term (x.args.map foldE) := by
  cases x; simp only [foldE, impl_expr.args, foldEs_map]; rfl

theorem kinds {t : impl_Term} (h : arT t ≠ 0) : t.Kind = 3 ∧ arT t = 1 ∨ t.Kind = 2 ∧ arT t = 2 := by
  unfold arT at h ⊢
  by_cases h2 : t.Kind = 2
  · right; simp [h2]
  · by_cases h3 : t.Kind = 3
    · left; simp [h3]
    · rw [if_neg h2, if_neg h3] at h; exact (h rfl).elim

theorem impl_value_nums (t : impl_Term) (b : List impl_expr) (hb : b.length = arT t) (h0 : b.length ≠ 0) (hn : b.all isNum = true) : impl_expr_value (.mk t b) [] = some (opT t (b.map fun x => x.term.Value)) := by
  unfold impl_expr_value
  have hnum : ∀ y ∈ b, ∀ n, 1 ≤ n → impl_expr_value_r n y [] = some y.term.Value := by
    intro y hy n hn1
    obtain ⟨n, rfl⟩ : ∃ k, n = k + 1 := ⟨n - 1, by omega⟩
    have hk : (y.term.Kind == 0) = true := List.all_eq_true.1 hn y hy
    simp only [impl_expr_value_r, impl_expr_value_f, hk, cond_true]
  refine lim_of 2 fun n hn2 => ?_
  obtain ⟨n, rfl⟩ : ∃ k, n = k + 1 := ⟨n - 1, by omega⟩
  simp only [impl_expr_value_r, impl_expr_value_f, impl_expr.term, impl_expr.args]
  rcases kinds (by omega : arT t ≠ 0) with ⟨hk, ha⟩ | ⟨hk, ha⟩
  · obtain ⟨y, rfl⟩ : ∃ y, b = [y] := by
      cases b with
      | nil => simp at h0
      | cons y r => cases r with
        | nil => exact ⟨y, rfl⟩
        | cons z r => simp at hb; omega
    have k0 : (t.Kind == 0) = false := by rw [hk]; rfl
    have k1 : (t.Kind == 1) = false := by rw [hk]; rfl
    have k3 : (t.Kind == 3) = true := by rw [hk]; rfl
    simp only [k0, k1, k3, cond_false, cond_true, getI_zero, Option.bind_some, hnum y (by simp) n (by omega), impl_truth, tv_some, opT, List.map_cons, List.map_nil]
    rfl
  · obtain ⟨y, z, rfl⟩ : ∃ y z, b = [y, z] := by
      cases b with
      | nil => simp at h0
      | cons y r => cases r with
        | nil => simp at hb; omega
        | cons z r => cases r with
          | nil => exact ⟨y, z, rfl⟩
          | cons u r => simp at hb; omega
    have k0 : (t.Kind == 0) = false := by rw [hk]; rfl
    have k1 : (t.Kind == 1) = false := by rw [hk]; rfl
    have k3 : (t.Kind == 3) = false := by rw [hk]; rfl
    have g1 : getI [y, z] 1 = some z := rfl
    simp only [k0, k1, k3, cond_false, getI_zero, g1, Option.bind_some, hnum y (by simp) n (by omega), hnum z (by simp) n (by omega), impl_op, opT, List.map_cons, List.map_nil]
    rfl

theorem wf_len {x : impl_expr} (hw : wfE x) : x.args.length ≤ 2 := by
  have h1 := ((wfE_iff x).1 hw).1
  have := arT_le x.term
  omega
theorem fold_args (rec : impl_expr → Option impl_expr) (x : impl_expr) (hw : wfE x) (h0 : x.args.length ≠ 0) (hrec : ∀ y ∈ x.args, rec y = some (foldE y)) :
    lim (fun n => impl_expr_fold_l18 rec x n [] true 0) = some (foldE x) := by
  have hl := wf_len hw
  have key : ∀ i, i ≤ x.args.length → ∀ m, x.args.length - i < m → impl_expr_fold_l18 rec x m ((x.args.map foldE).take i) (((x.args.map foldE).take i).all isNum) (i : Int) = some (foldE x) := by
    refine down x.args.length ?_ ?_
    · intro m hm
      obtain ⟨m, rfl⟩ : ∃ j, m = j + 1 := ⟨m - 1, by omega⟩
      simp only [impl_expr_fold_l18, impl_expr_fold_b18]
      rw [ltF (Nat.le_refl _), List.take_of_length_le (by simp), foldE_eq, if_neg h0]
      cases hn : (x.args.map foldE).all isNum
      · simp
      · have := impl_value_nums x.term (x.args.map foldE) (by rw [List.length_map]; exact ((wfE_iff x).1 hw).1) (by simpa using h0) hn
        simp only [cond_true, cond_false, this, Option.bind_some, impl_number, if_true]
    · intro i hi ih m hm
      obtain ⟨m, rfl⟩ : ∃ j, m = j + 1 := ⟨m - 1, by omega⟩
      simp only [impl_expr_fold_l18, impl_expr_fold_b18]
      rw [ltT hi, getI_lt _ i hi, wsucc i _ hi (by omega)]
      simp only [cond_true, Option.bind_some, hrec _ (List.getElem_mem hi)]
      rw [room_ok (by simp; omega) (by simp; omega)]
      simp only [Option.bind_some]
      have ih' := ih m (by omega)
      rw [List.take_succ_eq_append_getElem (by simpa using hi), List.all_append] at ih'
      simpa [isNum] using ih'
  refine lim_of (x.args.length + 1) fun m hm => ?_
  have := key 0 (by omega) m (by omega)
  simpa using this
theorem fold_r (n : Nat) : ∀ x, wfE x → sizeE x ≤ n → impl_expr_fold_r n x = some (foldE x) := by
  induction n with
  | zero => intro x _ h; have := sizeE_pos x; omega
  | succ n ih =>
    intro x hw hs
    have hsz := sizeE_args x
    simp only [impl_expr_fold_r, impl_expr_fold_f]
    by_cases h0 : x.args.length = 0
    · rw [foldE_eq, if_pos h0]
      simp [h0]
    · have hb : ((x.args.length : Int) == 0) = false := by simp; exact fun h => h0 (by simp [h])
      rw [hb, cond_false]
      refine fold_args _ x hw h0 fun y hy => ih y (wfEs_mem ((wfE_iff x).1 hw).2 y hy) ?_
      have := sizeEs_mem y hy
      omega
theorem impl_fold_spec (x : impl_expr) (hw : wfE x) : impl_expr_fold x = some (foldE x) := by
  unfold impl_expr_fold
  exact lim_of (sizeE x) fun n hn => fold_r n x hw hn
mutual
theorem foldE_wf : ∀ x, wfE x → wfE (foldE x)
  | .mk t a, h => by
    simp only [foldE]
    split
    · exact h
    · split
      · exact ⟨by simp [arT], trivial⟩
      · exact ⟨by rw [foldEs_map, List.length_map]; exact h.1, foldEs_wf a h.2⟩
theorem foldEs_wf : ∀ a, wfEs a → wfEs (foldEs a)
  | [], _ => by simp [foldEs, wfEs]
  | x :: r, h => by simp only [foldEs]; exact ⟨foldE_wf x h.1, foldEs_wf r h.2⟩
end

/-! The reference folds lists of terms. -/
theorem len_size : ∀ a : List impl_expr, a.length ≤ sizeEs a
  | [] => Nat.zero_le _
  | x :: r => by have := len_size r; have := sizeE_pos x; simp only [List.length_cons, sizeEs]; omega
theorem end_spec (e : List impl_Term) (he : e.length ≤ 1048576) (rest : List impl_Term) : ∀ (n : Nat) (xs : List impl_expr) (i : Nat), wfEs xs → sizeEs xs = n → n ≤ 1000000 → i ≤ e.length → e.drop i = flatEs xs ++ rest → ∀ m, n < m →
    spec_l03End_l6 e m (i : Int) (xs.length : Int) = some ((i + n : Nat) : Int) := by
  intro n
  induction n with
  | zero =>
    intro xs i _ hs _ _ _ m hm
    obtain ⟨m, rfl⟩ : ∃ j, m = j + 1 := ⟨m - 1, by omega⟩
    have : xs = [] := by
      cases xs with
      | nil => rfl
      | cons x r => simp only [sizeEs] at hs; have := sizeE_pos x; omega
    subst this
    simp only [spec_l03End_l6, spec_l03End_b6]
    have : decide ((0 : Int) < (([] : List impl_expr).length : Int)) = false := by decide
    rw [this]; rfl
  | succ n ih =>
    intro xs i hw hs hx hi hd m hm
    obtain ⟨m, rfl⟩ : ∃ j, m = j + 1 := ⟨m - 1, by omega⟩
    cases xs with
    | nil => simp [sizeEs] at hs
    | cons x r =>
      obtain ⟨t, a⟩ := x
      have hwx := hw.1
      simp only [flatEs, flatE, List.cons_append, List.append_assoc] at hd
      have hlt : i < e.length := by
        rcases Nat.lt_or_ge i e.length with h | h
        · exact h
        · rw [List.drop_of_length_le h] at hd; cases hd
      rw [drop_cons e i hlt] at hd
      injection hd with h1 h2
      simp only [spec_l03End_l6, spec_l03End_b6]
      have d1 : decide ((0 : Int) < ((impl_expr.mk t a :: r).length : Int)) = true := by simp
      have ha := arT_le t
      have hal : a.length = arT t := hwx.1
      rw [d1, getI_lt _ i hlt, h1, wsucc i _ hlt (by omega)]
      simp only [cond_true, Option.bind_some, spec_arity]
      rw [w_need (k := (impl_expr.mk t a :: r).length) (by simp) (by have := len_size (impl_expr.mk t a :: r); omega) ha]
      have hlen : (impl_expr.mk t a :: r).length + arT t - 1 = (a ++ r).length := by simp; omega
      have hls := len_size (impl_expr.mk t a :: r)
      rw [hlen, ih (a ++ r) (i + 1) ((wfEs_append a r).2 ⟨hwx.2, hw.2⟩) (by
        have : ∀ a b, sizeEs (a ++ b) = sizeEs a + sizeEs b := by
          intro a b
          rw [← flatEs_len, ← flatEs_len, ← flatEs_len, flatEs_append, List.length_append]
        rw [this]; simp only [sizeEs, sizeE] at hs; omega) (by omega) (by omega) (by rw [flatEs_append, List.append_assoc]; exact h2) m (by omega)]
      congr 1; omega

theorem spec_fold_r (n : Nat) : ∀ x, wfE x → sizeE x ≤ n → sizeE x ≤ 100000 → spec_l03Fold_r n (flatE x) = some (flatE (foldE x)) ∧ sizeE (foldE x) ≤ sizeE x := by
  induction n with
  | zero => intro x _ h; have := sizeE_pos x; omega
  | succ n ih =>
    intro x hw hs hs2
    obtain ⟨h1, h2⟩ := (wfE_iff x).1 hw
    have hsz := sizeE_args x
    simp only [spec_l03Fold_r, spec_l03Fold_f]
    rw [foldE_eq]
    by_cases h0 : x.args.length = 0
    · have hz : arT x.term = 0 := by omega
      have hb : ((0 : Int) == 0) = true := rfl
      rw [if_pos h0]
      refine ⟨?_, Nat.le_refl _⟩
      conv => lhs; rw [flatE_cons]
      simp only [getI_zero, Option.bind_some, spec_arity, hz]
      rw [show (((0 : Nat) : Int) == 0) = true from rfl, cond_true]
      simp only [spec_l03Own]
      rw [room_ok (by rw [← flatE_cons, flatE_len]; omega) (by rw [← flatE_cons, flatE_len]; omega), ← flatE_cons]
      rfl
    · rw [if_neg h0]
      have hb : ((arT x.term : Int) == 0) = false := by simp; omega
      obtain ⟨y, r, hyr⟩ : ∃ y r, x.args = y :: r := by
        cases hx : x.args with
        | nil => simp [hx] at h0
        | cons y r => exact ⟨y, r, rfl⟩
      rw [hyr] at h1 h2 hsz
      simp only [sizeEs] at hsz
      obtain ⟨e1, e2⟩ := ih y h2.1 (by omega) (by omega)
      have hfl : flatE x = x.term :: (flatE y ++ flatEs r) := by rw [flatE_cons, hyr]; rfl
      have hlen : (flatE x).length = sizeE x := flatE_len x
      have hend : spec_l03End (flatE x) 1 = some ((1 + sizeE y : Nat) : Int) := by
        unfold spec_l03End
        refine lim_of (sizeE y + 1) fun m hm => ?_
        have := end_spec (flatE x) (by omega) (flatEs r) (sizeE y) [y] 1 ⟨h2.1, trivial⟩ (by simp [sizeEs]) (by omega) (by have := sizeE_pos x; omega) (by rw [hfl]; simp [flatEs]) m (by omega)
        simpa using this
      have hsub1 : subL (flatE x) 1 ((1 + sizeE y : Nat) : Int) = some (flatE y) := by
        rw [hfl]
        exact subL_cut [x.term] (flatE y) (flatEs r) rfl (by rw [flatE_len]; rfl)
      have hsub2 : subL (flatE x) ((1 + sizeE y : Nat) : Int) ((flatE x).length : Int) = some (flatEs r) := by
        rw [hfl]
        have := subL_cut (x.term :: flatE y) (flatEs r) [] (i := ((1 + sizeE y : Nat) : Int)) (j := (((x.term :: (flatE y ++ flatEs r)).length : Nat) : Int)) (by rw [List.length_cons, flatE_len]; omega) (by simp; omega)
        simpa using this
      have hg0 : getI (flatE x) 0 = some x.term := by rw [flatE_cons]; rfl
      have hgy : getI (flatE (foldE y)) 0 = some (foldE y).term := by rw [flatE_cons]; rfl
      have hfy : (flatE (foldE y)).length ≤ 100000 := by rw [flatE_len]; omega
      rw [hg0]
      simp only [Option.bind_some, spec_arity, hb, cond_false, hend, hsub1, e1]
      have hpy := sizeE_pos y
      have hne : arT x.term ≠ 0 := by rw [← h1]; simp
      rcases kinds hne with ⟨hk, ha⟩ | ⟨hk, ha⟩
      · have hr : r = [] := by
          cases r with
          | nil => rfl
          | cons z r => simp at h1; omega
        subst hr
        have k3 : (x.term.Kind == 3) = true := by rw [hk]; rfl
        rw [k3, cond_true, hgy, hyr]
        simp only [Option.bind_some, List.map_cons, List.map_nil, List.all_cons, List.all_nil, Bool.and_true]
        cases hn : (foldE y).term.Kind == 0
        · have : isNum (foldE y) = false := hn
          simp only [this, cond_false]
          rw [room_ok (by omega) (by omega)]
          simp only [Option.bind_some, Bool.false_eq_true, if_false]
          refine ⟨by simp [flatE, flatEs], ?_⟩
          simp only [sizeE, sizeEs]; omega
        · have : isNum (foldE y) = true := hn
          simp only [this, cond_true, if_true, spec_l03Truth, tv_some, Option.bind_some]
          refine ⟨by simp [flatE, flatEs, opT, k3], ?_⟩
          simp only [sizeE, sizeEs]; omega
      · obtain ⟨z, rfl⟩ : ∃ z, r = [z] := by
          cases r with
          | nil => simp at h1; omega
          | cons z r => cases r with
            | nil => exact ⟨z, rfl⟩
            | cons u r => simp at h1; omega
        simp only [sizeEs] at hsz
        obtain ⟨f1, f2⟩ := ih z h2.2.1 (by omega) (by omega)
        have hgz : getI (flatE (foldE z)) 0 = some (foldE z).term := by rw [flatE_cons]; rfl
        have hfz : (flatE (foldE z)).length ≤ 100000 := by rw [flatE_len]; omega
        have k3 : (x.term.Kind == 3) = false := by rw [hk]; rfl
        have hpz := sizeE_pos z
        have hz1 : flatEs [z] = flatE z := by simp [flatEs]
        have key : (room 16 (1 + (flatE (foldE y)).length)).bind (fun _ => (room 16 (([x.term] ++ flatE (foldE y)).length + (flatE (foldE z)).length)).bind fun _ => some (([x.term] ++ flatE (foldE y)) ++ flatE (foldE z))) = some (flatE (.mk x.term [foldE y, foldE z])) := by
          rw [room_ok (by omega) (by omega)]
          simp only [Option.bind_some]
          rw [room_ok (by simp only [List.length_append, List.length_cons, List.length_nil]; omega) (by simp only [List.length_append, List.length_cons, List.length_nil]; omega)]
          simp [flatE, flatEs]
        rw [k3, cond_false, hsub2, hz1, hyr]
        simp only [Option.bind_some, f1, hgy, List.map_cons, List.map_nil, List.all_cons, List.all_nil, Bool.and_true]
        cases hn : (foldE y).term.Kind == 0
        · have : isNum (foldE y) = false := hn
          simp only [this, cond_false, Bool.false_and, Bool.false_eq_true, if_false, key]
          refine ⟨trivial, ?_⟩
          simp only [sizeE, sizeEs]; omega
        · have : isNum (foldE y) = true := hn
          simp only [this, cond_true, Bool.true_and, hgz, Option.bind_some]
          cases hm : (foldE z).term.Kind == 0
          · have : isNum (foldE z) = false := hm
            simp only [this, cond_false, Bool.false_eq_true, if_false, key]
            refine ⟨trivial, ?_⟩
            simp only [sizeE, sizeEs]; omega
          · have : isNum (foldE z) = true := hm
            simp only [this, cond_true, if_true, spec_op, Option.bind_some]
            refine ⟨by simp [flatE, flatEs, opT, k3], ?_⟩
            simp only [sizeE, sizeEs]; omega
theorem spec_fold_spec (x : impl_expr) (hw : wfE x) (hs : sizeE x ≤ 100000) : spec_l03Fold (flatE x) = some (flatE (foldE x)) := by
  unfold spec_l03Fold
  exact lim_of (sizeE x) fun n hn => (spec_fold_r n x hw hn hs).1

end Go.Sh
