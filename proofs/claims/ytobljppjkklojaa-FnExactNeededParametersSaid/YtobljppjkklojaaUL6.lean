/- Part of a proof that a law returns true for every input. No condition. -/
import Derived.Test.YtobljppjkklojaaUL5
namespace Go.Sh
open Go Go.Fw
def addL (p : Int) (S vs : List Int) : List Int := vs.foldl (fun S v => if v < p ∧ v ∉ S then S ++ [v] else S) S
theorem addL_cons (p : Int) (S : List Int) (v : Int) (vs : List Int) : addL p S (v :: vs) = addL p (if v < p ∧ v ∉ S then S ++ [v] else S) vs := rfl
theorem addL_mem (p : Int) : ∀ (vs S : List Int) (x : Int), x ∈ addL p S vs ↔ x ∈ S ∨ (x ∈ vs ∧ x < p)
 | [], S, x => by simp [addL]
 | v :: vs, S, x => by
   rw [addL_cons, addL_mem p vs]
   split
   ·rename_i h
    simp only [List.mem_append, List.mem_cons, List.not_mem_nil, or_false]
    constructor
    ·rintro ((h1 | h1) | ⟨h1, h2⟩)
     ·exact .inl h1
     ·subst h1; exact .inr ⟨.inl rfl, h.1⟩
     ·exact .inr ⟨.inr h1, h2⟩
    ·rintro (h1 | ⟨h1 | h1, h2⟩)
     ·exact .inl (.inl h1)
     ·exact .inl (.inr h1)
     ·exact .inr ⟨h1, h2⟩
   ·rename_i h
    simp only [List.mem_cons]
    constructor
    ·rintro (h1 | ⟨h1, h2⟩)
     ·exact .inl h1
     ·exact .inr ⟨.inr h1, h2⟩
    ·rintro (h1 | ⟨h1 | h1, h2⟩)
     ·exact .inl h1
     ·subst h1
      refine .inl (Classical.byContradiction fun hn => h ⟨h2, hn⟩)
     ·exact .inr ⟨h1, h2⟩
theorem addL_pre (p : Int) : ∀ (vs S : List Int), S <+: addL p S vs
 | [], S => List.prefix_refl S
 | v :: vs, S => by
   rw [addL_cons]
   refine List.IsPrefix.trans ?_ (addL_pre p vs _)
   split
   ·exact List.prefix_append ..
   ·exact List.prefix_refl S
theorem addL_nodup (p : Int) : ∀ (vs S : List Int), S.Nodup → (addL p S vs).Nodup
 | [], S, h => h
 | v :: vs, S, h => by
   rw [addL_cons]
   refine addL_nodup p vs _ ?_
   split
   ·rename_i hv
    rw [List.nodup_append]
    refine ⟨h, by simp, fun a ha b hb => ?_⟩
    have : b = v := by simpa using hb
    subst this
    exact fun e => hv.2 (e ▸ ha)
   ·exact h
theorem pig : ∀ (n : Nat) (S : List Int), S.Nodup → (∀ x ∈ S, 0 ≤ x ∧ x < (n : Int)) → S.length ≤ n
 | 0, S, _, h => by
   cases S with
   | nil => exact Nat.le_refl _
   | cons x r => have := h x (by simp); omega
 | n + 1, S, hd, h => by
   have h1 : (S.erase (n : Int)).length ≤ n := pig n _ (hd.erase _) fun x hx => by
    have hx2 := (hd.mem_erase_iff).1 hx
    have := h x hx2.2
    have := hx2.1
    omega
   by_cases hm : (n : Int) ∈ S
   ·rw [List.length_erase_of_mem hm] at h1; omega
   ·rw [List.erase_of_not_mem hm] at h1; omega
theorem has_I (S : List Int) (v : Int) (h : S.length ≤ 1048576) : slices_Contains_int64_int64 S v = some (decide (v ∈ S)) := by
 unfold slices_Contains_int64_int64 slices_Index_int64_int64
 rw [find_row S (fun x => v == x) (fun m => by
  simp only [slices_Index_int64_int64_l6, slices_Index_int64_int64_b6]
  rw [ltF (Nat.le_refl _)]; rfl) (fun i hi m => by
  simp only [slices_Index_int64_int64_l6, slices_Index_int64_int64_b6]
  rw [ltT hi, getI_lt _ i hi, wsucc i _ hi (by omega)]
  simp only [cond_true, Option.bind_some])]
 simp only [Option.bind_some]
 rw [idxL_ge]
 congr 1
 rw [Bool.eq_iff_iff]
 simp only [List.any_eq_true, beq_iff_eq, decide_eq_true_eq]
 constructor
 ·rintro ⟨x, hx, rfl⟩; exact hx
 ·intro hx; exact ⟨v, hx, rfl⟩
structure Wk (l : impl_Linear) (S : List Int) : Prop where
 nd : S.Nodup
 rg : ∀ x ∈ S, (0 ≤ x ∧ x < l.Parameters) ∧ Rn l x
theorem Wk.len {l : impl_Linear} (hl : OkV l) {S : List Int} (h : Wk l S) : S.length ≤ l.Parameters.toNat := by
 have hp := hl.p
 exact pig _ S h.nd fun x hx => by have := (h.rg x hx).1; omega
theorem Wk.add {l : impl_Linear} {S : List Int} (h : Wk l S) (vs : List Int) (hv : ∀ v ∈ vs, 0 ≤ v ∧ (v < l.Parameters → Rn l v)) : Wk l (addL l.Parameters S vs) :=
 ⟨addL_nodup _ vs S h.nd, fun x hx => by
  rcases (addL_mem _ vs S x).1 hx with h1 | ⟨h1, h2⟩
  ·exact h.rg x h1
  ·exact ⟨⟨(hv x h1).1, h2⟩, (hv x h1).2 h2⟩⟩
section
variable {l : impl_Linear} (hl : OkV l)
include hl
theorem impl_add (e : List impl_Term) (he : e.length ≤ 1048576) (S : List Int) (hS : Wk l S) (hv : ∀ v ∈ varsT e, 0 ≤ v ∧ (v < l.Parameters → Rn l v)) :
  ∃ b, impl_Linear_needed_c1_2 e l S = some (b, addL l.Parameters S (insAll ltI [] (varsT e))) ∧ Wk l (addL l.Parameters S (insAll ltI [] (varsT e))) := by
 have hp := hl.p
 unfold impl_Linear_needed_c1_2
 rw [impl_vars e he]
 simp only [Option.bind_some]
 have hv2 : ∀ v ∈ insAll ltI [] (varsT e), 0 ≤ v ∧ (v < l.Parameters → Rn l v) := fun v h => by
  rcases (insAll_mem v (varsT e) []).1 h with h1 | h1
  ·cases h1
  ·exact hv v h1
 have hvl : (insAll ltI [] (varsT e)).length ≤ 1048576 := by
  have h4 := insAll_len (lt := ltI) (varsT e) []
  have h5 := varsT_len e
  simp only [List.length_nil] at h4
  omega
 generalize insAll ltI [] (varsT e) = vs at hv2 hvl
 have hW := hS.add vs hv2
 refine ⟨(vs.foldl (fun (q : List Int × Bool) v => if v < l.Parameters ∧ v ∉ q.1 then (q.1 ++ [v], true) else q) (S, false)).2, ?_, hW⟩
 have e1 : ∀ (vs : List Int) (q : List Int × Bool), (vs.foldl (fun (q : List Int × Bool) v => if v < l.Parameters ∧ v ∉ q.1 then (q.1 ++ [v], true) else q) q).1 = addL l.Parameters q.1 vs := by
  intro vs
  induction vs with
  | nil => intro q; rfl
  | cons v vs ih =>
    intro q
    rw [List.foldl_cons, ih, addL_cons]
    split <;> rfl
 have e2 := up_fold (L := fun n (q : List Int × Bool) j => impl_Linear_needed_c1_2_l8 l vs n q.1 q.2 j) vs (fun (q : List Int × Bool) v => if v < l.Parameters ∧ v ∉ q.1 then (q.1 ++ [v], true) else q) (fun q => Wk l q.1) (fun q => some (q.2, q.1)) (fun m q _ => by
   simp only [impl_Linear_needed_c1_2_l8, impl_Linear_needed_c1_2_b8]
   rw [ltF (Nat.le_refl _)]; rfl) (fun i hi m q hq => by
   have hlen := hq.len hl
   have hw := hq.add [vs[i]] (fun v hv => by
    have : v = vs[i] := by simpa using hv
    subst this; exact hv2 _ (List.getElem_mem hi))
   refine ⟨?_, ?_⟩
   ·rw [addL_cons] at hw
    split
    ·rename_i h1
     rw [if_pos h1] at hw; exact hw
    ·exact hq
   ·simp only [impl_Linear_needed_c1_2_l8, impl_Linear_needed_c1_2_b8, impl_Linear_needed_c1_2_k26]
    rw [ltT hi, getI_lt _ i hi, wsucc i _ hi (by omega)]
    simp only [cond_true, Option.bind_some]
    rw [has_I _ _ (by omega), room_ok (by omega) (by omega)]
    simp only [Option.bind_some]
    by_cases h1 : vs[i] < l.Parameters
    ·by_cases h2 : vs[i] ∈ q.1
     ·simp [h1, h2]
     ·simp [h1, h2]
    ·simp [h1]) (S, false) hS
 rw [e2]
 simp only [e1]
def ini (p : Int) (es : List (List impl_Term)) (S : List Int) : List Int := es.foldl (fun S e => addL p S (insAll ltI [] (varsT e))) S
end
end Go.Sh
