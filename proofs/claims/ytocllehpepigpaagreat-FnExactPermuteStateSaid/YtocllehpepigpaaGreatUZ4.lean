/- Part of a proof that a law returns true for every input. No condition. -/
import Derived.Test.YtocllehpepigpaaGreatUZ3
import Derived.Test.YtocllehpepigpaaGreatUY9
namespace Go.e1
open Go Go.dg
theorem Qz (x : Int) : ∀ l : List Int, x ∉ l → (ins iK x l).Perm (x :: l)
 | [], _ => List.Perm.refl _
 | y :: r, h => by
   simp only [List.mem_cons, not_or] at h
   simp only [ins]
   by_cases ae : iK x y = true
   ·rw [if_pos ae]
   ·rw [if_neg ae, if_neg h.1]
    exact ((Qz x r h.2).cons y).trans (List.Perm.swap x y r)
theorem QA : ∀ (l o : List Int), l.Nodup → (∀ x ∈ l, x ∉ o) → (j_ iK o l).Perm (o ++ l)
 | [], o, _, _ => by simp [j_]
 | x :: l, o, a_, b_ => by
   obtain ⟨ae, ah⟩ := List.nodup_cons.1 a_
   have aq := b_ x (by simp)
   have e : j_ iK o (x :: l) = j_ iK (ins iK x o) l := rfl
   rw [e]
   refine (QA l _ ah fun y bl hm => ?_).trans (((Qz x o aq).append_right l).trans List.perm_middle.symm)
   rcases (uz x y o).1 hm with rfl | hm
   ·exact ae bl
   ·exact b_ y (by simp [bl]) hm
theorem aAX {α : Type} (f : α → Nat) {l m : List α} (h : l.Perm m) : gp f l = gp f m := by
 induction h with
 | nil => rfl
 | cons x _ ih => simp only [gp, ih]
 | swap x y l => simp only [gp]; omega
 | trans _ _ ae ah => exact ae.trans ah
theorem QB {α : Type} (f : α → Nat) (d : α) : ∀ (q pre : List α), gp (fun x : Int => f ((pre ++ q).getD x.toNat d)) (lW pre.length q.length) = gp f q
 | [], _ => rfl
 | x :: q, pre => by
   have := QB f d q (pre ++ [x])
   rw [List.append_assoc, List.singleton_append, List.length_append] at this
   simp only [List.length_cons, lW, gp]
   simp only [List.length_cons, List.length_nil, Nat.zero_add] at this
   rw [this]
   have e : (pre ++ x :: q).getD (Int.toNat (pre.length : Int)) d = x := by simp [List.getD]
   rw [e]
theorem move_size (q : List bM) (o : List Int) (h : pB o q.length = true) : dn i0 (re q o) = dn i0 q := by
 obtain ⟨ae, ah, aH⟩ := Ix h
 have e : j_ iK [] o = lW 0 o.length := by
  refine (Qw o).2 ?_
  unfold pB at h
  simp only [Bool.and_eq_true, decide_eq_true_eq] at h
  rw [h.1]; exact h.2
 have az := QA o [] aH (fun _ _ h => by cases h)
 rw [e, List.nil_append, ae] at az
 have af := QB i0 ⟨0, 0, []⟩ q []
 have bN := aAX (fun x : Int => i0 (q.getD x.toNat ⟨0, 0, []⟩)) az
 unfold dn re
 rw [List.length_map, ae, H5]
 simp only [List.nil_append, List.length_nil] at af
 rw [← bN, af]
theorem aAY (s : eo) (h : uy s) (q : List bM) (c4 : dn i0 q ≤ 1048576) (aQ : ∀ p ∈ q, p.cF.length ≤ 1048576) (o : List Int) (b_ : o.length ≤ 1048576) :
  ∃ r, Ca s q o = some r ∧ y4 s q o = some r ∧ dn i0 r.1 ≤ 1048576 := by
 have hl : q.length ≤ 1048576 := Nat.le_trans (iJ i0 _) c4
 have z : dn i0 ([] : List bM) ≤ 1048576 := by simp [dn, gp]
 unfold Ca y4 G1
 rw [aAD _ h, aAE _ h]
 simp only [Option.bind_some]
 cases bF : (q_ s == 0)
 ·exact ⟨([], 1), rfl, rfl, z⟩
 ·have aj := aAF bF
  rw [aAG s h.1 aj q hl aQ, aAH s h.1 aj q hl aQ]
  simp only [Option.bind_some, cond_true, Bool.not_true, cond_false, Bool.not_not]
  rw [aAP o q.length b_ hl, aAU o q.length b_ hl]
  unfold Iq
  cases hl : ((q.length : Int) == (s.c_.length : Int))
  ·exact ⟨([], 1), rfl, rfl, z⟩
  ·cases cJ : fL (fun i => ra s.eH (qd q i)) q.length
   ·exact ⟨([], 1), rfl, rfl, z⟩
   ·cases D7 : pB o q.length
    ·exact ⟨([], 2), rfl, rfl, z⟩
    ·refine ⟨(re q o, 0), ?_, ?_, by rw [move_size q o D7]; exact c4⟩
     ·simp only [Bool.and_self, Bool.not_true, cond_false, Option.bind_some, aAV q o aQ b_ D7]
     ·simp only [Option.bind_some, cond_true, Bool.not_true, cond_false, aAW q o aQ b_ D7]
theorem ayA (a : k5) (q : List iG) (o : List Int) (cJ : yc a) (c4 : q.length ≤ 9223372036854775807 ∧ ∀ y ∈ q, vR y) : G2 a q o = some true := by
 unfold G2
 by_cases D7 : 1048576 < o.length
 ·have : decide ((1048576 : Int) < (o.length : Int)) = true := by simp; omega
  rw [this]; rfl
 have aAZ : decide ((1048576 : Int) < (o.length : Int)) = false := by simp; omega
 have QC : o.length + 0 ≤ 1048576 := by omega
 rw [aAZ]
 obtain ⟨r, ae, ah⟩ := aAC a cJ
 rw [ae]
 simp only [cond_false, Option.bind_some]
 cases aZ : decide (r < 0)
 ·obtain ⟨aH, a6, bN, cW, cI⟩ := ah aZ
  have aA0 : px (p_ a) ≤ 1048576 := by rw [PG]; omega
  rw [ay0 q r c4 cI (by omega)]
  simp only [cond_false, Option.bind_some]
  by_cases af : ((dn nO q : Nat) : Int) ≤ r
  ·rw [ud af]
   have e7 : decide (r - ((dn nO q : Nat) : Int) < 0) = false := decide_eq_false (by omega)
   have ny : dn nO q ≤ 1048576 := by omega
   have x5 : dn i0 (q.map q1) ≤ 1048576 := by
    rw [r0]; simp only [aze]; exact ny
   have aQ : ∀ p ∈ q.map q1, p.cF.length ≤ 1048576 := fun p az => by
    have fM : i0 p ≤ dn i0 (q.map q1) := kK az
    have hQ : i0 p ≤ 1048576 := by omega
    clear fM
    unfold i0 at hQ; omega
   rw [e7, aH, azg q ny, H9 o QC]
   simp only [cond_false, Option.bind_some]
   generalize p_ a = e at a6 bN aA0
   generalize q.map q1 = p at x5 aQ
   obtain ⟨x, kW, iN, lh⟩ := aAY e bN p x5 aQ o (by omega)
   obtain ⟨fF, e4, fT, kD, pj, c, cD, fR⟩ := azz e 1 (by omega) (by omega)
   obtain ⟨c2, d, d1, gW, _⟩ := PL p (1 + (c : Int)) (by omega) (by omega)
   obtain ⟨mN, f, f1, hS, _⟩ := Ia o (1 + (c : Int) + (d : Int)) (by omega) (by omega)
   obtain ⟨cA, g, bc, ku, l3⟩ := PL x.1 1 (by omega) (by omega)
   simp only [kW, iN, Option.bind_some, PH x.1 lh, PH p x5, H_ o QC, a6, fR, gW, hS, ku, l3, Bool.not_true, bne_self_eq_false, Bool.or_self, cond_false, H7 (k := 1 + (c : Int) + (d : Int) + (f : Int)) (by omega), H7 (k := 1 + (g : Int)) (by omega)]
  ·rw [wH (by omega)]; rfl
 ·rfl
end Go.e1
