/- Part of a proof that a law returns true for every input. No condition. -/
import Derived.Test.YtobljppjkklojaaUL3
namespace Go.Sh
open Go Go.Fw
theorem mkb_sub (M : List Bool) (v : Int) (h : 0 ≤ v) : Sub M (mkb M v) := ⟨(mkb_len M v).symm, fun i hi => (mkb_at M v h i).2 (.inl hi)⟩
theorem occL_sub (vs : List Int) (M : List Bool) (h : ∀ v ∈ vs, 0 ≤ v) : Sub M (occL M vs) := ⟨(occL_len vs M).symm, fun i hi => (occL_at vs M h i).2 (.inl hi)⟩
structure OkV (l : impl_Linear) : Prop where
 p : 0 ≤ l.Parameters ∧ l.Parameters ≤ 21
 g : ∀ s ∈ l.Summands, ∀ e ∈ s.Guard :: s.Arguments, ∀ v ∈ varsT e, 0 ≤ v
 n : ∀ s ∈ l.Summands, (s.Next.length : Int) = l.Parameters ∧ ∀ i : Nat, ∀ v ∈ varsT (nx s i), 0 ≤ v
theorem okV {l : impl_Linear} (h : linV l = true) : OkV l := by
 simp only [linV, Bool.and_eq_true, List.all_eq_true, inR, decide_eq_true_eq] at h
 obtain ⟨h1, _, _, h4⟩ := h
 refine ⟨h1, fun s hs e he v hv => ?_, fun s hs => ?_⟩
 ·have := h4 s hs
  simp only [sumV, Bool.and_eq_true, eachV, List.all_eq_true] at this
  rcases List.mem_cons.1 he with rfl | he
  ·exact (vars_range this.2.1 v hv).1
  ·exact (vars_range (this.2.2.2.2.1 e he) v hv).1
 ·have := h4 s hs
  simp only [sumV, Bool.and_eq_true, eachV, List.all_eq_true, beq_iff_eq] at this
  refine ⟨this.2.2.1, fun i v hv => ?_⟩
  unfold nx at hv
  rw [List.getD_eq_getElem?_getD] at hv
  cases hg : s.Next[i]? with
  | none => rw [hg] at hv; simp [varsT] at hv
  | some e =>
    rw [hg] at hv
    exact (vars_range (this.2.2.2.2.2 e (List.mem_of_getElem? hg)) v hv).1
section
variable {l : impl_Linear} (hl : OkV l)
include hl
theorem stepK_sub {s : impl_Summand} (hs : s ∈ l.Summands) (M : List Bool) (k : Nat) : Sub M (stepK s M k) := by
 unfold stepK
 split
 ·exact occL_sub _ M ((hl.n s hs).2 k)
 ·exact Sub.rfl' M
theorem sumR_sub {s : impl_Summand} (hs : s ∈ l.Summands) (M : List Bool) : Sub M (sumR l.Parameters.toNat M s) := fold_sub _ M fun k _ M => stepK_sub hl hs M k
theorem rnd_sub (M : List Bool) : Sub M (rnd l M) := fold_sub _ M fun s hs M => sumR_sub hl hs M
theorem rnd_gets (M : List Bool) (hM : M.length = l.Parameters.toNat) {s : impl_Summand} (hs : s ∈ l.Summands) {k i : Nat} (hk : At M k) (hi : i < l.Parameters.toNat) (hv : (i : Int) ∈ varsT (nx s k)) : At (rnd l M) i := by
 have hkl : k < l.Parameters.toNat := by
  have := (List.getElem?_eq_some_iff.1 hk).1
  omega
 refine fold_gets (f := sumR l.Parameters.toNat) (x := s) (P := fun N => At N i) (fun A B h hA => h.2 i hA) l.Summands M (fun s hs M => sumR_sub hl hs M) hs fun N hN => ?_
 refine fold_gets (f := stepK s) (x := k) (P := fun N => At N i) (fun A B h hA => h.2 i hA) (List.range l.Parameters.toNat) N (fun k _ M => stepK_sub hl hs M k) (List.mem_range.2 hkl) fun A hA => ?_
 unfold stepK
 rw [if_pos ((getD_at A k).2 (hA.2 k (hN.2 k hk)))]
 exact (occL_at _ A ((hl.n s hs).2 k) i).2 (.inr ⟨by rw [← hA.1, ← hN.1, hM]; exact hi, hv⟩)
theorem rnd_only (M : List Bool) (hM : M.length = l.Parameters.toNat) (h : ∀ i, At M i → Rn l i) : ∀ i, At (rnd l M) i → Rn l i := by
 have key : (rnd l M).length = l.Parameters.toNat ∧ ∀ i, At (rnd l M) i → Rn l i := by
  refine fold_inv (P := fun N : List Bool => N.length = l.Parameters.toNat ∧ ∀ i : Nat, At N i → Rn l i) l.Summands M (fun s hs N hN => ?_) ⟨hM, h⟩
  refine fold_inv (P := fun N : List Bool => N.length = l.Parameters.toNat ∧ ∀ i : Nat, At N i → Rn l i) (List.range l.Parameters.toNat) N (fun k hk A hA => ?_) hN
  refine ⟨(stepK_sub hl hs A k).1.symm.trans hA.1, fun i hi => ?_⟩
  unfold stepK at hi
  split at hi
  ·rename_i hg
   rcases (occL_at _ A ((hl.n s hs).2 k) i).1 hi with h1 | ⟨h1, h2⟩
   ·exact hA.2 i h1
   ·have hk' := List.mem_range.1 hk
    have hp := hl.p
    exact (Rn_cl l).2 s hs k (by omega) (hA.2 k ((getD_at A k).1 hg)) i h2 (by rw [hA.1] at h1; omega)
  ·exact hA.2 i hi
 exact key.2
end
def cnt (M : List Bool) : Nat := (M.filter id).length
theorem cnt_le : ∀ M : List Bool, cnt M ≤ M.length := fun M => List.length_filter_le ..
theorem at_cons_succ {b : Bool} {M : List Bool} {i : Nat} : At (b :: M) (i + 1) ↔ At M i := by unfold At; simp
theorem at_cons_zero {b : Bool} {M : List Bool} : At (b :: M) 0 ↔ b = true := by unfold At; simp
theorem sub_cnt : ∀ {M N : List Bool}, Sub M N → cnt M ≤ cnt N ∧ (cnt M = cnt N → M = N)
 | [], [], _ => ⟨Nat.le_refl _, fun _ => rfl⟩
 | [], _ :: _, h => by have := h.1; simp at this
 | _ :: _, [], h => by have := h.1; simp at this
 | a :: M, b :: N, h => by
   have h1 : Sub M N := ⟨by have := h.1; simpa using this, fun i hi => at_cons_succ.1 (h.2 (i + 1) (at_cons_succ.2 hi))⟩
   have h2 : a = true → b = true := fun ha => at_cons_zero.1 (h.2 0 (at_cons_zero.2 ha))
   obtain ⟨i1, i2⟩ := sub_cnt h1
   unfold cnt at i1 i2 ⊢
   cases a <;> cases b
   ·simp only [List.filter_cons, id, Bool.false_eq_true, if_false]
    exact ⟨i1, fun e => by rw [i2 e]⟩
   ·simp only [List.filter_cons, id, Bool.false_eq_true, if_false, if_true, List.length_cons]
    exact ⟨by omega, fun e => by omega⟩
   ·simp at h2
   ·simp only [List.filter_cons, id, if_true, List.length_cons]
    exact ⟨by omega, fun e => by rw [i2 (by omega)]⟩
def itR (l : impl_Linear) : Nat → List Bool → List Bool
 | 0, M => M
 | n + 1, M => itR l n (rnd l M)
theorem itR_fix {l : impl_Linear} {M : List Bool} (h : rnd l M = M) : ∀ n, itR l n M = M
 | 0 => rfl
 | n + 1 => by simp only [itR, h]; exact itR_fix h n
theorem itR_stable {l : impl_Linear} (hl : OkV l) : ∀ (n : Nat) (M : List Bool), M.length = l.Parameters.toNat → l.Parameters.toNat < n + cnt M → rnd l (itR l n M) = itR l n M
 | 0, M, hM, h => by have := cnt_le M; omega
 | n + 1, M, hM, h => by
   by_cases he : rnd l M = M
   ·rw [itR_fix he, he]
   ·have hs := rnd_sub hl M
    obtain ⟨h1, h2⟩ := sub_cnt hs
    have h3 : cnt M ≠ cnt (rnd l M) := fun e => he (h2 e).symm
    simp only [itR]
    exact itR_stable hl n (rnd l M) (hs.1.symm.trans hM) (by omega)
theorem itR_sub {l : impl_Linear} (hl : OkV l) : ∀ (n : Nat) (M : List Bool), Sub M (itR l n M)
 | 0, M => Sub.rfl' M
 | n + 1, M => (rnd_sub hl M).tr (itR_sub hl n _)
theorem itR_only {l : impl_Linear} (hl : OkV l) : ∀ (n : Nat) (M : List Bool), M.length = l.Parameters.toNat → (∀ i, At M i → Rn l i) → ∀ i, At (itR l n M) i → Rn l i
 | 0, M, _, h => h
 | n + 1, M, hM, h => itR_only hl n _ ((rnd_sub hl M).1.symm.trans hM) (rnd_only hl M hM h)
def inits (l : impl_Linear) : List (List impl_Term) := l.Summands.flatMap fun s => s.Guard :: s.Arguments
def marks (l : impl_Linear) : List Bool := itR l (l.Parameters.toNat + 1) (foldE (List.replicate l.Parameters.toNat false) (inits l))
theorem marks_at {l : impl_Linear} (hl : OkV l) : (marks l).length = l.Parameters.toNat ∧ ∀ i : Nat, i < l.Parameters.toNat → (At (marks l) i ↔ Rn l i) := by
 have hg : ∀ e ∈ inits l, ∀ v ∈ varsT e, 0 ≤ v := fun e he v hv => by
  obtain ⟨s, hs, he⟩ := List.mem_flatMap.1 he
  exact hl.g s hs e he v hv
 have h0 : (foldE (List.replicate l.Parameters.toNat false) (inits l)).length = l.Parameters.toNat := by rw [foldE_len]; simp
 have hs := itR_sub hl (l.Parameters.toNat + 1) (foldE (List.replicate l.Parameters.toNat false) (inits l))
 have hlen : (marks l).length = l.Parameters.toNat := hs.1.symm.trans h0
 have hp := hl.p
 refine ⟨hlen, fun i hi => ⟨fun h => ?_, fun h => ?_⟩⟩
 ·refine itR_only hl _ _ h0 (fun j hj => ?_) i h
  rcases (foldE_at _ _ hg j).1 hj with h1 | ⟨h1, e, he, h2⟩
  ·unfold At at h1
   rw [List.getElem?_replicate] at h1
   split at h1 <;> simp at h1
  ·obtain ⟨s, hs, he⟩ := List.mem_flatMap.1 he
   rw [List.length_replicate] at h1
   exact (Rn_cl l).1 s hs e he j h2 (by omega)
 ·have hst : rnd l (marks l) = marks l := itR_stable hl _ _ h0 (by omega)
  have hcl : Cl l (fun v => 0 ≤ v ∧ v < l.Parameters ∧ At (marks l) v.toNat) := by
   refine ⟨fun s hs' e he v hv hlt => ?_, fun s hs' k hk hM v hv hlt => ?_⟩
   ·have hv0 := hl.g s hs' e he v hv
    refine ⟨hv0, hlt, hs.2 _ ((foldE_at _ _ hg _).2 (.inr ⟨by rw [List.length_replicate]; omega, e, List.mem_flatMap.2 ⟨s, hs', he⟩, ?_⟩))⟩
    rw [show ((v.toNat : Nat) : Int) = v by omega]; exact hv
   ·have hv0 := (hl.n s hs').2 k v hv
    refine ⟨hv0, hlt, ?_⟩
    rw [← hst]
    exact rnd_gets hl (marks l) hlen hs' (k := k) (by simpa using hM.2.2) (by omega) (by rw [show ((v.toNat : Nat) : Int) = v by omega]; exact hv)
  have := (h _ hcl).2.2
  simpa using this
end Go.Sh
