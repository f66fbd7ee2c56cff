/- Part of a proof that a law returns true for every input. No condition. -/
import Derived.Test.YtobljppjkklojaaUL6
namespace Go.Sh
open Go Go.Fw
theorem fold_has {α : Type} {f : List Int → α → List Int} {x : α} {Q : List Int → Prop} (hf : ∀ S y, S <+: f S y) (hQ : ∀ S T, S <+: T → Q S → Q T) (hx : ∀ S, Q (f S x)) : ∀ (xs : List α) (S : List Int), x ∈ xs → Q (xs.foldl f S)
 | y :: xs, S, h => by
   have pre : ∀ (xs : List α) (S : List Int), S <+: xs.foldl f S := by
    intro xs
    induction xs with
    | nil => intro S; exact List.prefix_refl S
    | cons z zs ih => intro S; exact (hf S z).trans (ih _)
   rw [List.foldl_cons]
   rcases List.mem_cons.1 h with rfl | h
   ·exact hQ _ _ (pre xs _) (hx S)
   ·exact fold_has hf hQ hx xs _ h
theorem fold_pre {α : Type} {f : List Int → α → List Int} (hf : ∀ S y, S <+: f S y) : ∀ (xs : List α) (S : List Int), S <+: xs.foldl f S
 | [], S => List.prefix_refl S
 | z :: zs, S => (hf S z).trans (fold_pre hf zs _)
theorem fold_inv' {α β : Type} {f : β → α → β} {P : β → Prop} : ∀ (xs : List α) (M : β), (∀ x ∈ xs, ∀ M, P M → P (f M x)) → P M → P (xs.foldl f M)
 | [], M, _, h => h
 | x :: xs, M, hf, h => fold_inv' xs _ (fun y hy => hf y (by simp [hy])) (hf x (by simp) M h)
def ad (p : Int) (S : List Int) (e : List impl_Term) : List Int := addL p S (insAll ltI [] (varsT e))
theorem ad_pre (p : Int) (S : List Int) (e : List impl_Term) : S <+: ad p S e := addL_pre p _ S
theorem ad_has (p : Int) (S : List Int) (e : List impl_Term) (v : Int) (hv : v ∈ varsT e) (h : v < p) : v ∈ ad p S e :=
 (addL_mem p _ S v).2 (.inr ⟨(insAll_mem v (varsT e) []).2 (.inr hv), h⟩)
def adS (p : Int) (S : List Int) (s : impl_Summand) : List Int := (s.Guard :: s.Arguments).foldl (ad p) S
def adN (p : Int) (k : Nat) (S : List Int) (s : impl_Summand) : List Int := ad p S (nx s k)
theorem srt (S : List Int) (h : S.length ≤ 1048576) : slices_Sort_int64_int64 S = some (S.mergeSort fun x y => decide (x ≤ y)) := by
 unfold slices_Sort_int64_int64; rw [if_pos (by omega)]
section
variable {l : impl_Linear} (hl : OkV l) (ho : okLin l)
include hl ho
omit ho in
theorem vN {s : impl_Summand} (hs : s ∈ l.Summands) {x : Int} (hx : (0 ≤ x ∧ x < l.Parameters) ∧ Rn l x) : ∀ v ∈ varsT (nx s x.toNat), 0 ≤ v ∧ (v < l.Parameters → Rn l v) := fun v hv =>
 ⟨(hl.n s hs).2 _ v hv, fun hlt => (Rn_cl l).2 s hs x.toNat (by omega) (by rw [show ((x.toNat : Nat) : Int) = x by omega]; exact hx.2) v hv hlt⟩
theorem l24 (S : List Int) (hS : Wk l S) (K : List Int → Int → Option (List Int)) (i : Nat) (hi : i < l.Summands.length) :
  lim (fun n => impl_Linear_needed_l24 K l n S (i : Int) (l.Summands[i].Guard :: l.Summands[i].Arguments) ((l.Summands[i].Guard :: l.Summands[i].Arguments).length : Int) 0) = K (adS l.Parameters S l.Summands[i]) ((i + 1 : Nat) : Int) := by
 have hs : l.Summands[i] ∈ l.Summands := List.getElem_mem hi
 have hso := ho.2.2 _ hs
 have h60 := ho.2.1
 refine up_fold (L := fun n S j => impl_Linear_needed_l24 K l n S (i : Int) (l.Summands[i].Guard :: l.Summands[i].Arguments) ((l.Summands[i].Guard :: l.Summands[i].Arguments).length : Int) j) (l.Summands[i].Guard :: l.Summands[i].Arguments) (ad l.Parameters) (Wk l) (fun S => K S ((i + 1 : Nat) : Int)) ?_ ?_ S hS
 ·intro m T hT
  simp only [impl_Linear_needed_l24, impl_Linear_needed_b24]
  rw [ltF (Nat.le_refl _), wsucc i _ hi (by omega)]
  rfl
 ·intro j hj m T hT
  have he : (l.Summands[i].Guard :: l.Summands[i].Arguments)[j] ∈ l.Summands[i].Guard :: l.Summands[i].Arguments := List.getElem_mem hj
  have hel : (l.Summands[i].Guard :: l.Summands[i].Arguments)[j].length ≤ 1048576 := by
   rcases List.mem_cons.1 he with h | h
   ·rw [h]; exact hso.2.1
   ·exact hso.2.2.2.1.2 _ h
  obtain ⟨b, h1, h2⟩ := impl_add hl _ hel T hT fun v hv => ⟨hl.g _ hs _ he v hv, (Rn_cl l).1 _ hs _ he v hv⟩
  refine ⟨h2, ?_⟩
  have hal := hso.2.2.2.1.1
  simp only [impl_Linear_needed_l24, impl_Linear_needed_b24]
  rw [ltT hj, getI_lt _ j hj, wsucc j _ hj (by rw [List.length_cons]; omega)]
  simp only [cond_true, Option.bind_some]
  rw [h1]
  rfl
omit ho in
theorem adS_Wk (S : List Int) (hS : Wk l S) {s : impl_Summand} (hs : s ∈ l.Summands) : Wk l (adS l.Parameters S s) := by
 refine fold_inv' (P := Wk l) _ S (fun e he T hT => ?_) hS
 refine hT.add _ fun v hv => ?_
 have hv' : v ∈ varsT e := by
  rcases (insAll_mem v (varsT e) []).1 hv with h1 | h1
  ·cases h1
  ·exact h1
 exact ⟨hl.g s hs e he v hv', (Rn_cl l).1 s hs e he v hv'⟩
theorem l54 (S : List Int) (hS : Wk l S) (k : Nat) (hk : k < S.length) (K : List Int → Int → Option (List Int)) :
  lim (fun n => impl_Linear_needed_l54 K l n S (k : Int) 0) = K (l.Summands.foldl (adN l.Parameters S[k].toNat) S) ((k + 1 : Nat) : Int) ∧ Wk l (l.Summands.foldl (adN l.Parameters S[k].toNat) S) := by
 have hp := hl.p
 have h60 := ho.2.1
 have hx := hS.rg _ (List.getElem_mem hk)
 have hlen := hS.len hl
 have step : ∀ s ∈ l.Summands, ∀ T, Wk l T → ∃ b, impl_Linear_needed_c1_2 (nx s S[k].toNat) l T = some (b, adN l.Parameters S[k].toNat T s) ∧ Wk l (adN l.Parameters S[k].toNat T s) := by
  intro s hs T hT
  have hn : (nx s S[k].toNat).length ≤ 1048576 := by
   unfold nx
   rw [List.getD_eq_getElem?_getD]
   cases hg : s.Next[S[k].toNat]? with
   | none => simp
   | some e => exact (ho.2.2 s hs).2.2.2.2.2 e (List.mem_of_getElem? hg)
  exact impl_add hl _ hn T hT (vN hl hs hx)
 refine ⟨?_, fold_inv' (P := Wk l) _ S (fun s hs T hT => (step s hs T hT).choose_spec.2) hS⟩
 refine up_fold (L := fun n T j => impl_Linear_needed_l54 K l n T (k : Int) j) l.Summands (adN l.Parameters S[k].toNat) (fun T => Wk l T ∧ S <+: T) (fun T => K T ((k + 1 : Nat) : Int)) ?_ ?_ S ⟨hS, List.prefix_refl S⟩
 ·intro m T hT
  simp only [impl_Linear_needed_l54, impl_Linear_needed_b54]
  rw [ltF (Nat.le_refl _), wsucc k _ hk (by omega)]
  rfl
 ·intro i hi m T hT
  have hs : l.Summands[i] ∈ l.Summands := List.getElem_mem hi
  obtain ⟨b, h1, h2⟩ := step _ hs T hT.1
  refine ⟨⟨h2, hT.2.trans (ad_pre _ _ _)⟩, ?_⟩
  have hkT : k < T.length := by have := hT.2.length_le; omega
  have hTk : T[k] = S[k] := (hT.2.getElem hk).symm
  have hn := (hl.n _ hs).1
  have hxn : S[k].toNat < l.Summands[i].Next.length := by omega
  simp only [impl_Linear_needed_l54, impl_Linear_needed_b54]
  rw [ltT hi, getI_lt _ i hi, getI_lt _ k hkT, wsucc i _ hi (by omega), hTk]
  simp only [cond_true, Option.bind_some]
  have e : getI l.Summands[i].Next S[k] = some (nx l.Summands[i] S[k].toNat) := by
   have := getI_lt l.Summands[i].Next S[k].toNat hxn
   rw [show ((S[k].toNat : Nat) : Int) = S[k] by omega] at this
   rw [this]
   unfold nx
   rw [List.getD_eq_getElem?_getD, List.getElem?_eq_getElem hxn]; rfl
  rw [e]
  simp only [Option.bind_some]
  rw [h1]
  rfl
theorem l42 : ∀ (d k : Nat) (S : List Int), Wk l S → k ≤ S.length → l.Parameters.toNat ≤ d + k →
  ∃ T, (∀ m, d < m → impl_Linear_needed_l42 l m S (k : Int) = some (T.mergeSort fun x y => decide (x ≤ y))) ∧ S <+: T ∧ Wk l T ∧ ∀ j (hj : j < T.length), k ≤ j → ∀ s ∈ l.Summands, ∀ v ∈ varsT (nx s T[j].toNat), v < l.Parameters → v ∈ T := by
 have hp := hl.p
 intro d
 have endc : ∀ (k d : Nat) (S : List Int), Wk l S → k = S.length → ∃ T, (∀ m, d < m → impl_Linear_needed_l42 l m S (k : Int) = some (T.mergeSort fun x y => decide (x ≤ y))) ∧ S <+: T ∧ Wk l T ∧ ∀ j (hj : j < T.length), k ≤ j → ∀ s ∈ l.Summands, ∀ v ∈ varsT (nx s T[j].toNat), v < l.Parameters → v ∈ T := by
  intro k d S hS hk
  have hlen := hS.len hl
  refine ⟨S, fun m hm => ?_, List.prefix_refl S, hS, fun j hj hkj => by omega⟩
  obtain ⟨m, rfl⟩ : ∃ j, m = j + 1 := ⟨m - 1, by omega⟩
  simp only [impl_Linear_needed_l42, impl_Linear_needed_b42]
  rw [ltF (by omega), srt S (by omega)]
  rfl
 induction d with
 | zero =>
   intro k S hS hk hd
   have hlen := hS.len hl
   exact endc k 0 S hS (by omega)
 | succ d ih =>
   intro k S hS hk hd
   have hlen := hS.len hl
   by_cases hks : k = S.length
   ·exact endc k _ S hS hks
   ·have hk' : k < S.length := by omega
    have hpre : S <+: l.Summands.foldl (adN l.Parameters S[k].toNat) S := fold_pre (fun T s => ad_pre _ _ _) _ S
    have hW := (l54 hl ho S hS k hk' fun _ _ => none).2
    obtain ⟨T, h1, h2, h3, h4⟩ := ih (k + 1) _ hW (by have := hpre.length_le; omega) (by omega)
    refine ⟨T, fun m hm => ?_, hpre.trans h2, h3, fun j hj hkj s hs v hv hlt => ?_⟩
    ·obtain ⟨m, rfl⟩ : ∃ j, m = j + 1 := ⟨m - 1, by omega⟩
     simp only [impl_Linear_needed_l42, impl_Linear_needed_b42]
     rw [ltT hk', cond_true, (l54 hl ho S hS k hk' _).1, h1 m (by omega)]
    ·by_cases hjk : j = k
     ·subst hjk
      have hTk : T[j] = S[j] := ((hpre.trans h2).getElem hk').symm
      rw [hTk] at hv
      refine h2.subset (fold_has (f := adN l.Parameters S[j].toNat) (x := s) (Q := fun N => v ∈ N) (fun T s => ad_pre _ _ _) (fun A B h hA => h.subset hA) (fun N => ad_has _ _ _ v hv hlt) l.Summands S hs)
     ·exact h4 j hj (by omega) s hs v hv hlt
theorem impl_needed : ∃ T, impl_Linear_needed l = some (T.mergeSort fun x y => decide (x ≤ y)) ∧ Wk l T ∧ Cl l (· ∈ T) := by
 have hp := hl.p
 have h60 := ho.2.1
 have hW0 : Wk l (l.Summands.foldl (adS l.Parameters) []) := fold_inv' (P := Wk l) _ [] (fun s hs T hT => adS_Wk hl T hT hs) ⟨List.Pairwise.nil, fun x hx => by cases hx⟩
 obtain ⟨T, h1, h2, h3, h4⟩ := l42 hl ho l.Parameters.toNat 0 _ hW0 (by omega) (by omega)
 refine ⟨T, ?_, h3, ?_, ?_⟩
 ·have e : lim (fun m => impl_Linear_needed_l42 l m (l.Summands.foldl (adS l.Parameters) []) 0) = some (T.mergeSort fun x y => decide (x ≤ y)) := lim_of (l.Parameters.toNat + 1) fun m hm => h1 m (by omega)
  rw [← e]
  unfold impl_Linear_needed
  refine up_fold (L := fun n S j => impl_Linear_needed_l10 l n S j) l.Summands (adS l.Parameters) (Wk l) (fun S => lim fun n => impl_Linear_needed_l42 l n S 0) ?_ ?_ [] ⟨List.Pairwise.nil, fun x hx => by cases hx⟩
  ·intro m S hS
   simp only [impl_Linear_needed_l10, impl_Linear_needed_b10]
   rw [ltF (Nat.le_refl _)]; rfl
  ·intro i hi m S hS
   have hs : l.Summands[i] ∈ l.Summands := List.getElem_mem hi
   have hso := ho.2.2 _ hs
   refine ⟨adS_Wk hl S hS hs, ?_⟩
   simp only [impl_Linear_needed_l10, impl_Linear_needed_b10]
   rw [ltT hi, getI_lt _ i hi]
   simp only [cond_true, Option.bind_some]
   rw [concat_T _ (by simp) (by
    have := hso.2.2.2.1.1
    simp only [lenS, sumS, List.length_cons, List.length_nil]; omega)]
   simp only [Option.bind_some, List.flatten_cons, List.flatten_nil, List.append_nil, List.cons_append, List.nil_append]
   exact l24 hl ho S hS _ i hi
 ·intro s hs e he v hv hlt
  refine h2.subset (fold_has (f := adS l.Parameters) (x := s) (Q := fun N => v ∈ N) (fun T s => fold_pre (ad_pre _) _ _) (fun A B h hA => h.subset hA) (fun N => ?_) l.Summands [] hs)
  exact fold_has (f := ad l.Parameters) (x := e) (Q := fun N => v ∈ N) (fun T s => ad_pre _ _ _) (fun A B h hA => h.subset hA) (fun N => ad_has _ _ _ v hv hlt) _ N he
 ·intro s hs i hi hM v hv hlt
  obtain ⟨j, hj, hji⟩ := List.mem_iff_getElem.1 hM
  refine h4 j hj (by omega) s hs v ?_ hlt
  rw [hji]; exact hv
theorem needed_both : spec_l08Marked (marks l) true = impl_Linear_needed l := by
 have hp := hl.p
 obtain ⟨T, h1, h2, h3⟩ := impl_needed hl ho
 obtain ⟨m1, m2⟩ := marks_at hl
 rw [h1, spec_marked _ (by omega)]
 congr 1
 have hperm := List.mergeSort_perm T (fun x y : Int => decide (x ≤ y))
 refine rise_eq ordI (mkd_rise _ 0) ?_ fun x => ?_
 ·have hs : (T.mergeSort fun x y => decide (x ≤ y)).Pairwise (fun a b : Int => decide (a ≤ b) = true) := List.pairwise_mergeSort (fun a b c h1 h2 => by simp at h1 h2 ⊢; omega) (fun a b => by simp; omega) T
  have hn : (T.mergeSort fun x y => decide (x ≤ y)).Nodup := hperm.nodup_iff.2 h2.nd
  refine (hs.and hn).imp fun {a b} h => ?_
  have := h.1
  have := h.2
  simp at *
  omega
 ·rw [hperm.mem_iff, mkd_mem]
  constructor
  ·rintro ⟨i, hi, rfl⟩
   have hil : i < l.Parameters.toNat := by
    have := (List.getElem?_eq_some_iff.1 hi).1
    omega
   have := ((m2 i hil).1 hi) (· ∈ T) h3
   simpa using this
  ·intro hx
   have h5 := h2.rg x hx
   refine ⟨x.toNat, (m2 x.toNat (by omega)).2 ?_, by omega⟩
   rw [show ((x.toNat : Nat) : Int) = x by omega]
   exact h5.2
end
theorem both (l : impl_Linear) (ho : okLin l) : ∃ r : List Int × Int, spec_NeededParameters l = some r ∧ impl_NeededParameters l = some r ∧ r.1.length ≤ 1048576 := by
 unfold spec_NeededParameters impl_NeededParameters
 rw [spec_lin l ho, impl_lin l ho]
 simp only [Option.bind_some]
 cases hv : linV l
 ·exact ⟨_, rfl, rfl, by simp⟩
 ·have hl := okV hv
  have hp := hl.p
  rw [spec_needed hl ho]
  simp only [Option.bind_some, Bool.not_true, cond_false]
  rw [← needed_both hl ho, spec_marked _ (by have := (marks_at hl).1; omega)]
  refine ⟨_, rfl, rfl, ?_⟩
  have h1 := mkd_len (marks l) 0
  have := (marks_at hl).1
  show (mkd 0 (marks l)).length ≤ _
  omega
end Go.Sh
