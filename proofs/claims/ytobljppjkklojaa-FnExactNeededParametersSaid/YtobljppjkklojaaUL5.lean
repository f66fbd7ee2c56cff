/- Part of a proof that a law returns true for every input. No condition. -/
import Derived.Test.YtobljppjkklojaaUL4
namespace Go.Sh
open Go Go.Fw
theorem up_fold {S α β : Type} {L : Nat → S → Int → Option β} (a : List α) (f : S → α → S) (I : S → Prop) (E : S → Option β)
  (h0 : ∀ m s, I s → L (m + 1) s (a.length : Int) = E s)
  (hs : ∀ i (h : i < a.length) m s, I s → I (f s a[i]) ∧ L (m + 1) s (i : Int) = L m (f s a[i]) ((i + 1 : Nat) : Int)) (s : S) (hI : I s) :
  lim (fun m => L m s 0) = E (a.foldl f s) := by
 have key : ∀ i, i ≤ a.length → ∀ s m, I s → a.length - i < m → L m s (i : Int) = E ((a.drop i).foldl f s) := by
  refine down a.length ?_ ?_
  ·intro s m hI hm
   obtain ⟨m, rfl⟩ : ∃ j, m = j + 1 := ⟨m - 1, by omega⟩
   rw [h0 m s hI, List.drop_of_length_le (Nat.le_refl _)]; rfl
  ·intro i hi ih s m hI hm
   obtain ⟨m, rfl⟩ : ∃ j, m = j + 1 := ⟨m - 1, by omega⟩
   obtain ⟨h1, h2⟩ := hs i hi m s hI
   rw [h2, ih _ m h1 (by omega), drop_cons a i hi]; rfl
 refine lim_of (a.length + 1) fun m hm => ?_
 have := key 0 (by omega) s m hI (by omega)
 simpa using this
theorem itR_fold {l : impl_Linear} : ∀ (n : Nat) (M : List Bool), (List.replicate n ()).foldl (fun M _ => rnd l M) M = itR l n M
 | 0, M => rfl
 | n + 1, M => by simp only [List.replicate_succ, List.foldl_cons, itR]; exact itR_fold n _
theorem foldE_flat : ∀ (ss : List impl_Summand) (M : List Bool), ss.foldl (fun M s => foldE M (s.Guard :: s.Arguments)) M = foldE M (ss.flatMap fun s => s.Guard :: s.Arguments)
 | [], M => rfl
 | s :: ss, M => by
   have := foldE_flat ss (foldE M (s.Guard :: s.Arguments))
   simp only [List.foldl_cons, List.flatMap_cons] at this ⊢
   rw [this]
   unfold foldE
   rw [← List.foldl_append]
section
variable {l : impl_Linear} (hl : OkV l) (ho : okLin l)
include hl ho
theorem l62 (M : List Bool) (hM : M.length = l.Parameters.toNat) (K : List Bool → Int → Option (List Bool)) (K2 : List Bool → Int → Int → Option (List Bool)) (r : Int) (i : Nat) (hi : i < l.Summands.length) :
  lim (fun n => spec_l08Needed_l62 K K2 l n M r (i : Int) 0) = K2 (sumR l.Parameters.toNat M l.Summands[i]) r ((i + 1 : Nat) : Int) := by
 have hs : l.Summands[i] ∈ l.Summands := List.getElem_mem hi
 have hp := hl.p
 have hn := hl.n _ hs
 have hso := ho.2.2 _ hs
 have h60 := ho.2.1
 refine up_fold (L := fun n M j => spec_l08Needed_l62 K K2 l n M r (i : Int) j) (List.range l.Parameters.toNat) (stepK l.Summands[i]) (fun M => M.length = l.Parameters.toNat) (fun M => K2 M r ((i + 1 : Nat) : Int)) ?_ ?_ M hM
 ·intro m s hI
  simp only [spec_l08Needed_l62, spec_l08Needed_b62, List.length_range]
  rw [show decide ((l.Parameters.toNat : Int) < l.Parameters) = false by simp only [decide_eq_false_iff_not]; omega, wsucc i _ hi (by omega)]
  rfl
 ·intro j hj m s hI
  rw [List.length_range] at hj
  rw [List.getElem_range]
  refine ⟨(stepK_sub hl hs s j).1.symm.trans hI, ?_⟩
  simp only [spec_l08Needed_l62, spec_l08Needed_b62, spec_l08Needed_k76]
  rw [show decide ((j : Int) < l.Parameters) = true by simp only [decide_eq_true_eq]; omega, getI_lt s j (by omega), wsucc j (j + 1) (by omega) (by omega)]
  simp only [cond_true, Option.bind_some, stepK]
  have hg : s.getD j false = s[j]'(by omega) := by rw [List.getD_eq_getElem?_getD, List.getElem?_eq_getElem (by omega)]; rfl
  rw [hg]
  cases hb : s[j]'(by omega)
  ·rfl
  ·have hjn : j < l.Summands[i].Next.length := by omega
   rw [getI_lt _ i hi]
   simp only [cond_true, Option.bind_some]
   rw [getI_lt _ j hjn]
   simp only [Option.bind_some]
   have e : nx l.Summands[i] j = l.Summands[i].Next[j] := by unfold nx; rw [List.getD_eq_getElem?_getD, List.getElem?_eq_getElem hjn]; rfl
   rw [spec_occur _ s (hso.2.2.2.2.2 _ (List.getElem_mem hjn)) (by rw [← e]; exact hn.2 j), e]
   rfl
theorem l50 (M : List Bool) (hM : M.length = l.Parameters.toNat) (K : List Bool → Int → Option (List Bool)) (r : Int) :
  lim (fun n => spec_l08Needed_l50 K l n M r 0) = K (rnd l M) (IntKind.i64.wrap (r + 1)) := by
 refine up_fold (L := fun n M j => spec_l08Needed_l50 K l n M r j) l.Summands (sumR l.Parameters.toNat) (fun M => M.length = l.Parameters.toNat) (fun M => K M (IntKind.i64.wrap (r + 1))) ?_ ?_ M hM
 ·intro m s hI
  simp only [spec_l08Needed_l50, spec_l08Needed_b50]
  rw [ltF (Nat.le_refl _)]
  rfl
 ·intro i hi m s hI
  refine ⟨(sumR_sub hl (List.getElem_mem hi) s).1.symm.trans hI, ?_⟩
  simp only [spec_l08Needed_l50, spec_l08Needed_b50]
  rw [ltT hi, cond_true, l62 hl ho s hI _ _ r i hi]
theorem l38 (M : List Bool) (hM : M.length = l.Parameters.toNat) : lim (fun n => spec_l08Needed_l38 l n M 0) = some (itR l (l.Parameters.toNat + 1) M) := by
 have hp := hl.p
 rw [← itR_fold]
 refine up_fold (L := fun n M j => spec_l08Needed_l38 l n M j) (List.replicate (l.Parameters.toNat + 1) ()) (fun M _ => rnd l M) (fun M => M.length = l.Parameters.toNat) some ?_ ?_ M hM
 ·intro m s hI
  simp only [spec_l08Needed_l38, spec_l08Needed_b38, List.length_replicate]
  rw [show decide (((l.Parameters.toNat + 1 : Nat) : Int) ≤ l.Parameters) = false by simp only [decide_eq_false_iff_not]; omega]
  rfl
 ·intro i hi m s hI
  rw [List.length_replicate] at hi
  refine ⟨(rnd_sub hl s).1.symm.trans hI, ?_⟩
  simp only [spec_l08Needed_l38, spec_l08Needed_b38]
  rw [show decide ((i : Int) ≤ l.Parameters) = true by simp only [decide_eq_true_eq]; omega, cond_true, l50 hl ho s hI, wsucc i (i + 1) (by omega) (by omega)]
theorem l22 (M : List Bool) (K : List Bool → Int → Option (List Bool)) (i : Nat) (hi : i < l.Summands.length) :
  lim (fun n => spec_l08Needed_l22 K l n M (i : Int) 0) = K (foldE M l.Summands[i].Arguments) ((i + 1 : Nat) : Int) := by
 have hs : l.Summands[i] ∈ l.Summands := List.getElem_mem hi
 have hso := ho.2.2 _ hs
 have h60 := ho.2.1
 refine up_fold (L := fun n M j => spec_l08Needed_l22 K l n M (i : Int) j) l.Summands[i].Arguments (fun M e => occL M (varsT e)) (fun _ => True) (fun M => K M ((i + 1 : Nat) : Int)) ?_ ?_ M trivial
 ·intro m s hI
  simp only [spec_l08Needed_l22, spec_l08Needed_b22]
  rw [getI_lt _ i hi]
  simp only [Option.bind_some]
  rw [ltF (Nat.le_refl _), wsucc i _ hi (by omega)]
  rfl
 ·intro j hj m s hI
  refine ⟨trivial, ?_⟩
  simp only [spec_l08Needed_l22, spec_l08Needed_b22]
  have h3 := hso.2.2.2.1
  rw [getI_lt _ i hi]
  simp only [Option.bind_some]
  rw [ltT hj, getI_lt _ j hj, wsucc j _ hj (by have := h3.1; omega)]
  simp only [Option.bind_some, cond_true]
  rw [spec_occur _ s (h3.2 _ (List.getElem_mem hj)) (hl.g _ hs _ (List.mem_cons_of_mem _ (List.getElem_mem hj)))]
  rfl
theorem spec_needed : spec_l08Needed l = some (marks l) := by
 have hp := hl.p
 unfold spec_l08Needed
 rw [show mkOk 1 l.Parameters = some () by unfold mkOk; rw [if_pos ⟨by omega, by omega, by omega⟩]]
 simp only [Option.bind_some]
 unfold marks inits
 rw [← foldE_flat, ← l38 hl ho _ (by
  have : ∀ (ss : List impl_Summand) (M : List Bool), (ss.foldl (fun M s => foldE M (s.Guard :: s.Arguments)) M).length = M.length := by
   intro ss
   induction ss with
   | nil => intro M; rfl
   | cons s ss ih => intro M; rw [List.foldl_cons, ih, foldE_len]
  rw [this, List.length_replicate])]
 refine up_fold (L := fun n M j => spec_l08Needed_l8 l n M j) l.Summands (fun M s => foldE M (s.Guard :: s.Arguments)) (fun _ => True) (fun M => lim fun n => spec_l08Needed_l38 l n M 0) ?_ ?_ _ trivial
 ·intro m s _
  simp only [spec_l08Needed_l8, spec_l08Needed_b8]
  rw [ltF (Nat.le_refl _)]
  rfl
 ·intro i hi m s _
  have hs : l.Summands[i] ∈ l.Summands := List.getElem_mem hi
  refine ⟨trivial, ?_⟩
  simp only [spec_l08Needed_l8, spec_l08Needed_b8]
  rw [ltT hi, getI_lt _ i hi]
  simp only [Option.bind_some, cond_true]
  rw [spec_occur _ s (ho.2.2 _ hs).2.1 (hl.g _ hs _ (by simp))]
  simp only [Option.bind_some]
  rw [l22 hl ho _ _ i hi]
  rfl
end
def mkd : Nat → List Bool → List Int
 | _, [] => []
 | k, b :: r => cond b ((k : Int) :: mkd (k + 1) r) (mkd (k + 1) r)
theorem mkd_ge : ∀ (M : List Bool) (k : Nat), ∀ x ∈ mkd k M, (k : Int) ≤ x
 | [], k, x, h => by simp [mkd] at h
 | b :: r, k, x, h => by
   cases b
   ·have := mkd_ge r (k + 1) x (by simpa [mkd] using h); omega
   ·simp only [mkd, cond_true, List.mem_cons] at h
    rcases h with h | h
    ·omega
    ·have := mkd_ge r (k + 1) x h; omega
theorem mkd_rise : ∀ (M : List Bool) (k : Nat), Rise ltI (mkd k M)
 | [], k => List.Pairwise.nil
 | b :: r, k => by
   cases b
   ·exact mkd_rise r (k + 1)
   ·refine List.Pairwise.cons (fun x hx => ?_) (mkd_rise r (k + 1))
    have := mkd_ge r (k + 1) x hx
    simp only [decide_eq_true_eq]; omega
theorem mkd_mem : ∀ (M : List Bool) (k : Nat) (x : Int), x ∈ mkd k M ↔ ∃ i : Nat, At M i ∧ x = (k : Int) + i
 | [], k, x => by simp [mkd, At]
 | b :: r, k, x => by
   have ih := mkd_mem r (k + 1) x
   constructor
   ·intro h
    cases b
    ·obtain ⟨i, h1, h2⟩ := ih.1 h
     exact ⟨i + 1, at_cons_succ.2 h1, by omega⟩
    ·simp only [mkd, cond_true, List.mem_cons] at h
     rcases h with h | h
     ·exact ⟨0, at_cons_zero.2 rfl, by simpa using h⟩
     ·obtain ⟨i, h1, h2⟩ := ih.1 h
      exact ⟨i + 1, at_cons_succ.2 h1, by omega⟩
   ·rintro ⟨i, h1, h2⟩
    cases i with
    | zero =>
      have : b = true := at_cons_zero.1 h1
      subst this
      simp only [mkd, cond_true, List.mem_cons]
      exact .inl (by simpa using h2)
    | succ i =>
      have := ih.2 ⟨i, at_cons_succ.1 h1, by omega⟩
      cases b
      ·exact this
      ·exact List.mem_cons_of_mem _ this
theorem mkd_len : ∀ (M : List Bool) (k : Nat), (mkd k M).length ≤ M.length
 | [], k => Nat.le_refl _
 | b :: r, k => by
   have := mkd_len r (k + 1)
   cases b <;> simp only [mkd, cond_true, cond_false, List.length_cons] <;> omega
theorem spec_marked (M : List Bool) (hM : M.length ≤ 1048576) : spec_l08Marked M true = some (mkd 0 M) := by
 unfold spec_l08Marked
 have key : ∀ i, i ≤ M.length → ∀ (v : List Int) m, v.length ≤ i → M.length - i < m → spec_l08Marked_l8 M true m v (i : Int) = some (v ++ mkd i (M.drop i)) := by
  refine down M.length ?_ ?_
  ·intro v m hv hm
   obtain ⟨m, rfl⟩ : ∃ j, m = j + 1 := ⟨m - 1, by omega⟩
   simp only [spec_l08Marked_l8, spec_l08Marked_b8]
   rw [ltF (Nat.le_refl _), List.drop_of_length_le (Nat.le_refl _)]
   simp [mkd]
  ·intro i hi ih v m hv hm
   obtain ⟨m, rfl⟩ : ∃ j, m = j + 1 := ⟨m - 1, by omega⟩
   simp only [spec_l08Marked_l8, spec_l08Marked_b8, spec_l08Marked_k22]
   rw [ltT hi, getI_lt _ i hi, drop_cons M i hi, wsucc i _ hi (by omega), room_ok (by omega) (by omega)]
   simp only [cond_true, Option.bind_some, mkd]
   rw [ih _ m (by simp only [List.length_append, List.length_cons, List.length_nil]; omega) (by omega), ih _ m (by omega) (by omega)]
   cases M[i] <;> simp
 refine lim_of (M.length + 1) fun m hm => ?_
 have := key 0 (by omega) [] m (by simp) (by omega)
 simpa using this
end Go.Sh
