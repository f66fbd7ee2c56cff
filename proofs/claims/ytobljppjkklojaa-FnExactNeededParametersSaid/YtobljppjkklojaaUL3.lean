/- Part of a proof that a law returns true for every input. No condition. -/
import Derived.Test.YtobljppjkklojaaUL2
import Derived.Test.YtobljppjkklojaaUQ1
namespace Go.Sh
open Go Go.Fw
theorem walkT_tOk {v : Int} : ∀ (e : List impl_Term) (k : Nat), walkT v e k = true → ∀ t ∈ e, tOk t v = true
 | [], _, _, t, ht => by cases ht
 | u :: r, k, h, t, ht => by
   simp only [walkT, Bool.and_eq_true] at h
   rcases List.mem_cons.1 ht with rfl | ht
   ·exact h.2.1
   ·exact walkT_tOk r _ h.2.2 t ht
theorem vars_range {e : List impl_Term} {v most : Int} (h : termsV e v most = true) : ∀ x ∈ varsT e, 0 ≤ x ∧ x ≤ v - 1 := by
 intro x hx
 simp only [termsV, Bool.and_eq_true] at h
 unfold varsT at hx
 obtain ⟨t, ht, rfl⟩ := List.mem_map.1 hx
 obtain ⟨h1, h2⟩ := List.mem_filter.1 ht
 have := walkT_tOk e 1 h.2 t h1
 have hk : t.Kind = 1 := by simpa using h2
 unfold tOk at this
 have e0 : (t.Kind == 0) = false := by rw [hk]; rfl
 have e1 : (t.Kind == 1) = true := h2
 rw [e0, e1] at this
 simp only [cond_false, cond_true, inR, Bool.and_eq_true, decide_eq_true_eq] at this
 exact this
def nx (s : impl_Summand) (i : Nat) : List impl_Term := s.Next.getD i []
def Cl (l : impl_Linear) (M : Int → Prop) : Prop :=
 (∀ s ∈ l.Summands, ∀ e ∈ s.Guard :: s.Arguments, ∀ v ∈ varsT e, v < l.Parameters → M v) ∧
 ∀ s ∈ l.Summands, ∀ i : Nat, (i : Int) < l.Parameters → M i → ∀ v ∈ varsT (nx s i), v < l.Parameters → M v
def Rn (l : impl_Linear) (v : Int) : Prop := ∀ M : Int → Prop, Cl l M → M v
theorem Rn_cl (l : impl_Linear) : Cl l (Rn l) :=
 ⟨fun s hs e he v hv hlt M hM => hM.1 s hs e he v hv hlt, fun s hs i hi hR v hv hlt M hM => hM.2 s hs i hi (hR M hM) v hv hlt⟩
def At (M : List Bool) (i : Nat) : Prop := M[i]? = some true
def mkb (M : List Bool) (v : Int) : List Bool := if v < (M.length : Int) then M.set v.toNat true else M
def occL (M : List Bool) (vs : List Int) : List Bool := vs.foldl mkb M
theorem mkb_len (M : List Bool) (v : Int) : (mkb M v).length = M.length := by unfold mkb; split <;> simp
theorem mkb_at (M : List Bool) (v : Int) (h : 0 ≤ v) (i : Nat) : At (mkb M v) i ↔ At M i ∨ (i < M.length ∧ (i : Int) = v) := by
 unfold mkb At
 split
 ·rename_i hv
  rw [List.getElem?_set]
  by_cases e : v.toNat = i
  ·have e2 : (i : Int) = v := by omega
   have hi : i < M.length := by omega
   simp [e, hi, e2]
  ·have e2 : ¬ (i : Int) = v := by omega
   simp [e, e2]
 ·rename_i hv
  constructor
  ·exact .inl
  ·rintro (h1 | ⟨h1, h2⟩)
   ·exact h1
   ·omega
theorem occL_len : ∀ (vs : List Int) (M : List Bool), (occL M vs).length = M.length
 | [], M => rfl
 | v :: vs, M => by
   have := occL_len vs (mkb M v)
   simp only [occL, List.foldl_cons] at this ⊢
   rw [this, mkb_len]
theorem occL_at : ∀ (vs : List Int) (M : List Bool), (∀ v ∈ vs, 0 ≤ v) → ∀ i, At (occL M vs) i ↔ At M i ∨ (i < M.length ∧ (i : Int) ∈ vs)
 | [], M, _, i => by simp [occL]
 | v :: vs, M, h, i => by
   have := occL_at vs (mkb M v) (fun w hw => h w (by simp [hw])) i
   simp only [occL, List.foldl_cons] at this ⊢
   rw [this, mkb_at M v (h v (by simp)), mkb_len]
   simp only [List.mem_cons]
   constructor
   ·rintro ((h1 | ⟨h1, h2⟩) | ⟨h1, h2⟩)
    ·exact .inl h1
    ·exact .inr ⟨h1, .inl h2⟩
    ·exact .inr ⟨h1, .inr h2⟩
   ·rintro (h1 | ⟨h1, h2 | h2⟩)
    ·exact .inl (.inl h1)
    ·exact .inl (.inr ⟨h1, h2⟩)
    ·exact .inr ⟨h1, h2⟩
theorem spec_occur (e : List impl_Term) (M : List Bool) (he : e.length ≤ 1048576) (hv : ∀ v ∈ varsT e, 0 ≤ v) : spec_l08Occur e M = some (occL M (varsT e)) := by
 unfold spec_l08Occur
 have key : ∀ i, i ≤ e.length → ∀ (v : List Bool) m, e.length - i < m → spec_l08Occur_l3 e m v (i : Int) = some (occL v (varsT (e.drop i))) := by
  refine down e.length ?_ ?_
  ·intro v m hm
   obtain ⟨m, rfl⟩ : ∃ j, m = j + 1 := ⟨m - 1, by omega⟩
   simp only [spec_l08Occur_l3, spec_l08Occur_b3]
   rw [ltF (Nat.le_refl _), List.drop_of_length_le (Nat.le_refl _)]
   rfl
  ·intro i hi ih v m hm
   obtain ⟨m, rfl⟩ : ∃ j, m = j + 1 := ⟨m - 1, by omega⟩
   simp only [spec_l08Occur_l3, spec_l08Occur_b3, spec_l08Occur_k17]
   rw [ltT hi, getI_lt _ i hi, drop_cons e i hi, varsT_cons, wsucc i _ hi (by omega)]
   simp only [cond_true, Option.bind_some]
   rw [ih _ m (by omega), ih _ m (by omega)]
   by_cases h1 : e[i].Kind = 1
   ·have h2 : (e[i].Kind == 1) = true := by simpa using h1
    have hmem : e[i].Value ∈ varsT e := by
     unfold varsT
     exact List.mem_map.2 ⟨e[i], List.mem_filter.2 ⟨List.getElem_mem hi, h2⟩, rfl⟩
    have h0 := hv _ hmem
    rw [if_pos h1, h2, Bool.true_and]
    simp only [occL, List.foldl_cons, mkb]
    by_cases h3 : e[i].Value < (v.length : Int)
    ·have d : decide (e[i].Value < (v.length : Int)) = true := by simpa using h3
     rw [d, if_pos h3, cond_true, getI_some h0 (by omega)]
     rfl
    ·have d : decide (e[i].Value < (v.length : Int)) = false := by simpa using h3
     rw [d, if_neg h3, cond_false]
   ·have h2 : (e[i].Kind == 1) = false := by simpa using h1
    rw [if_neg h1, h2]
    rfl
 refine lim_of (e.length + 1) fun m hm => ?_
 have := key 0 (by omega) M m (by omega)
 simpa using this
def foldE (M : List Bool) (es : List (List impl_Term)) : List Bool := es.foldl (fun M e => occL M (varsT e)) M
theorem foldE_len : ∀ (es : List (List impl_Term)) (M : List Bool), (foldE M es).length = M.length
 | [], M => rfl
 | e :: es, M => by
   have := foldE_len es (occL M (varsT e))
   simp only [foldE, List.foldl_cons] at this ⊢
   rw [this, occL_len]
theorem foldE_at : ∀ (es : List (List impl_Term)) (M : List Bool), (∀ e ∈ es, ∀ v ∈ varsT e, 0 ≤ v) → ∀ i, At (foldE M es) i ↔ At M i ∨ (i < M.length ∧ ∃ e ∈ es, (i : Int) ∈ varsT e)
 | [], M, _, i => by simp [foldE]
 | e :: es, M, h, i => by
   have := foldE_at es (occL M (varsT e)) (fun w hw => h w (by simp [hw])) i
   simp only [foldE, List.foldl_cons] at this ⊢
   rw [this, occL_at _ M (h e (by simp)), occL_len]
   simp only [List.mem_cons]
   constructor
   ·rintro ((h1 | ⟨h1, h2⟩) | ⟨h1, e', h2, h3⟩)
    ·exact .inl h1
    ·exact .inr ⟨h1, e, .inl rfl, h2⟩
    ·exact .inr ⟨h1, e', .inr h2, h3⟩
   ·rintro (h1 | ⟨h1, e', h2 | h2, h3⟩)
    ·exact .inl (.inl h1)
    ·subst h2; exact .inl (.inr ⟨h1, h3⟩)
    ·exact .inr ⟨h1, e', h2, h3⟩
def stepK (s : impl_Summand) (M : List Bool) (k : Nat) : List Bool := if M.getD k false = true then occL M (varsT (nx s k)) else M
def sumR (p : Nat) (M : List Bool) (s : impl_Summand) : List Bool := (List.range p).foldl (stepK s) M
def rnd (l : impl_Linear) (M : List Bool) : List Bool := l.Summands.foldl (sumR l.Parameters.toNat) M
def Sub (M N : List Bool) : Prop := M.length = N.length ∧ ∀ i, At M i → At N i
theorem Sub.rfl' (M : List Bool) : Sub M M := ⟨rfl, fun _ h => h⟩
theorem Sub.tr {M N K : List Bool} (h : Sub M N) (k : Sub N K) : Sub M K := ⟨h.1.trans k.1, fun i hi => k.2 i (h.2 i hi)⟩
theorem fold_sub {α : Type} {f : List Bool → α → List Bool} : ∀ (xs : List α) (M : List Bool), (∀ x ∈ xs, ∀ M, Sub M (f M x)) → Sub M (xs.foldl f M)
 | [], M, _ => Sub.rfl' M
 | x :: xs, M, h => (h x (by simp) M).tr (fold_sub xs (f M x) fun y hy => h y (by simp [hy]))
theorem fold_gets {α : Type} {f : List Bool → α → List Bool} {x : α} {P : List Bool → Prop} (hP : ∀ M N, Sub M N → P M → P N) : ∀ (xs : List α) (M : List Bool), (∀ x ∈ xs, ∀ M, Sub M (f M x)) → x ∈ xs → (∀ N, Sub M N → P (f N x)) → P (xs.foldl f M)
 | y :: xs, M, h, hx, hp => by
   simp only [List.foldl_cons]
   rcases List.mem_cons.1 hx with rfl | hx
   ·exact hP _ _ (fold_sub xs _ fun y hy => h y (by simp [hy])) (hp M (Sub.rfl' M))
   ·exact fold_gets hP xs _ (fun y hy => h y (by simp [hy])) hx fun N hN => hp N ((h y (by simp) M).tr hN)
theorem fold_inv {α : Type} {f : List Bool → α → List Bool} {P : List Bool → Prop} : ∀ (xs : List α) (M : List Bool), (∀ x ∈ xs, ∀ M, P M → P (f M x)) → P M → P (xs.foldl f M)
 | [], M, _, h => h
 | x :: xs, M, hf, h => fold_inv xs _ (fun y hy => hf y (by simp [hy])) (hf x (by simp) M h)
theorem getD_at (M : List Bool) (k : Nat) : M.getD k false = true ↔ At M k := by
 unfold At
 rw [List.getD_eq_getElem?_getD]
 cases M[k]? with
 | none => simp
 | some b => simp
end Go.Sh
