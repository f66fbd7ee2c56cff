/- Part of a proof that a law returns true for every input. No condition. -/
import Derived.Test.YtocllehpepigpaaGreatUZ2
namespace Go.e1
open Go Go.dg
theorem D6 {b n : Nat} (h : n ≤ 1048577) (ad : b ≤ 4096) : room b n = some () := by
 have ae : n * b ≤ 1048577 * 4096 := Nat.mul_le_mul h ad
 unfold room; rw [if_pos ⟨by omega, by omega⟩]
theorem Qx (e : List Int) (h : e.length ≤ 1048576) : y2 e = some e := by
 unfold y2
 rw [D6 (by omega) (by omega)]
 cases e with
 | nil => simp [both]
 | cons x r => rfl
theorem aAQ (e : List Int) (h : e.length ≤ 1048576) : yK e = some e := by
 unfold yK
 rw [D6 (by omega) (by omega)]; rfl
theorem aAR (a : List Int) (h : a.length ≤ 1048576) : CH a = some (j_ iK [] a) := by
 unfold CH y3 CG
 rw [Qx a h]
 simp only [Option.bind_some]
 rw [if_pos (by omega)]
 simp only [Option.bind_some]
 rw [aAK Iv aAL]
theorem aAS (n : Nat) (h : n ≤ 1048576) : CJ (n : Int) = some (lW 0 n) := by
 unfold CJ
 have key : ∀ d m (v : List Int) (i : Nat), i + d = n → d < m → v.length = i → tq (n : Int) m v (i : Int) = some (v ++ lW i d) := by
  intro d
  induction d with
  | zero =>
    intro m v i au hm aQ
    obtain ⟨m, rfl⟩ : ∃ k, m = k + 1 := ⟨m - 1, by omega⟩
    simp only [tq, CI]
    rw [fD (by omega)]; simp [lW]
  | succ d ih =>
    intro m v i au hm aQ
    obtain ⟨m, rfl⟩ : ∃ k, m = k + 1 := ⟨m - 1, by omega⟩
    simp only [tq, CI]
    rw [gT (by omega), D6 (by omega) (by omega)]
    simp only [cond_true, Option.bind_some]
    rw [gS i n (by omega) (by omega), ih m _ (i + 1) (by omega) (by omega) (by simp [aQ]), lW, List.append_assoc]; rfl
 exact i1 (n + 1) fun m hm => (key n m [] 0 (by omega) (by omega) rfl).trans (by simp)
theorem aAT (a b : List Int) (cJ : a.length ≤ 1048576) : CL a b = some (a == b) := by
 unfold CL
 by_cases h : a.length = b.length
 ·have ae : ((a.length : Int) != (b.length : Int)) = false := by simp [h]
  rw [ae]
  simp only [cond_false]
  have key : ∀ d m (i : Nat), i + d = a.length → d < m → tr a b m (i : Int) = some (a.drop i == b.drop i) := by
   intro d
   induction d with
   | zero =>
     intro m i au hm
     obtain ⟨m, rfl⟩ : ∃ k, m = k + 1 := ⟨m - 1, by omega⟩
     simp only [tr, CK]
     rw [fD (by omega), List.drop_of_length_le (by omega), List.drop_of_length_le (by omega)]; rfl
   | succ d ih =>
     intro m i au hm
     obtain ⟨m, rfl⟩ : ∃ k, m = k + 1 := ⟨m - 1, by omega⟩
     have ae : i < a.length := by omega
     have ah : i < b.length := by omega
     simp only [tr, CK]
     rw [gT ae, hW a i ae, hW b i ah, drop_cons a i ae, drop_cons b i ah]
     simp only [cond_true, Option.bind_some]
     by_cases aq : a[i] = b[i]
     ·have aU : (a[i] != b[i]) = false := by simp [aq]
      rw [aU, gS i _ ae (by omega)]
      simp only [cond_false]
      rw [ih m (i + 1) (by omega) (by omega), List.cons_beq_cons, show (a[i] == b[i]) = true by simpa using aq, Bool.true_and]
     ·have aU : (a[i] != b[i]) = true := by simpa using aq
      rw [aU, List.cons_beq_cons, show (a[i] == b[i]) = false by simpa using aq, Bool.false_and]; rfl
  exact i1 (a.length + 1) fun m hm => key a.length m 0 (by omega) (by omega)
 ·have ae : ((a.length : Int) != (b.length : Int)) = true := by simp; omega
  rw [ae, show (a == b) = false from by
   rw [beq_eq_false_iff_ne]; exact fun e => h (by rw [e])]; rfl
theorem aAU (a : List Int) (n : Nat) (cJ : a.length ≤ 1048576) (a_ : n ≤ 1048576) : CM a (n : Int) = some (pB a n) := by
 unfold CM pB
 have hl := Iu (lt := iK) a []
 rw [aAR a cJ, aAS n a_]
 simp only [Option.bind_some]
 rw [aAT _ _ (by simp at hl; omega)]
 simp only [Option.bind_some, Option.some.injEq]
 by_cases h : a.length = n
 ·have ae : ((a.length : Int) == (n : Int)) = true := by simp [h]
  rw [ae, Bool.and_true, decide_eq_true h, Bool.true_and]
  subst h
  have := Qw a
  cases ad : rb a.length (List.replicate a.length false) a with
  | true => rw [this.2 ad]; simp
  | false =>
    rw [beq_eq_false_iff_ne]
    intro e
    rw [this.1 e] at ad; cases ad
 ·have ae : ((a.length : Int) == (n : Int)) = false := by simp; omega
  rw [ae, decide_eq_false h]; simp
def re (q : List bM) (o : List Int) : List bM := o.map fun x => q.getD x.toNat ⟨0, 0, []⟩
theorem Qy {l : Nat → List bM → Int → Option (List bM)} {f : bM → Option bM} (q : List bM) (o : List Int)
  (lB : ∀ m v i, l (m + 1) v i = cond (decide (i < (o.length : Int))) ((bK o i).bind fun x => (bK q x).bind fun y => (f y).bind fun z => (room 40 (v.length + 1)).bind fun _ => l m (v ++ [z]) (IntKind.i64.wrap (i + 1))) (some v))
  (bF : ∀ y ∈ q, f y = some y) (b_ : o.length ≤ 1048576) (zU : ∀ x ∈ o, nP q.length x = true) : lim (fun m => l m [] 0) = some (re q o) := by
 have key : ∀ d m (v : List bM) (i : Nat), i + d = o.length → d < m → v.length = i → l m v (i : Int) = some (v ++ re q (o.drop i)) := by
  intro d
  induction d with
  | zero =>
    intro m v i au hm aQ
    obtain ⟨m, rfl⟩ : ∃ k, m = k + 1 := ⟨m - 1, by omega⟩
    rw [lB, fD (by omega), List.drop_of_length_le (by omega)]; simp [re]
  | succ d ih =>
    intro m v i au hm aQ
    obtain ⟨m, rfl⟩ : ∃ k, m = k + 1 := ⟨m - 1, by omega⟩
    have ae : i < o.length := by omega
    have aq := zU o[i] (List.getElem_mem ae)
    simp only [nP, Bool.and_eq_true, decide_eq_true_eq] at aq
    have aA : o[i].toNat < q.length := by omega
    rw [lB, gT ae, hW o i ae, drop_cons o i ae]
    simp only [cond_true, Option.bind_some]
    rw [zW (by omega) aA]
    simp only [Option.bind_some]
    rw [bF _ (List.getElem_mem aA), D6 (by omega) (by omega)]
    simp only [Option.bind_some]
    rw [gS i _ ae (by omega), ih m _ (i + 1) (by omega) (by omega) (by simp [aQ])]
    simp only [re, List.map_cons, List.append_assoc, List.singleton_append, List.getD_eq_getElem?_getD, List.getElem?_eq_getElem aA, Option.getD_some]
 exact i1 (o.length + 1) fun m hm => (key o.length m [] 0 (by omega) (by omega) rfl).trans (by simp)
theorem Ix {o : List Int} {n : Nat} (h : pB o n = true) : o.length = n ∧ (∀ x ∈ o, nP n x = true) ∧ o.Nodup := by
 unfold pB at h
 simp only [Bool.and_eq_true, decide_eq_true_eq] at h
 obtain ⟨ae, ah⟩ := (Qq n o _ (by simp)).1 h.2
 exact ⟨h.1, fun x aq => (ae x aq).1, ah⟩
theorem aAV (q : List bM) (o : List Int) (aQ : ∀ p ∈ q, p.cF.length ≤ 1048576) (b_ : o.length ≤ 1048576) (h : pB o q.length = true) : B_ q o = some (re q o) := by
 unfold B_
 refine Qy (f := fun y => (yK y.cF).bind fun aS => some (bM.mk y.dG y.Part aS)) q o (fun m v i => ?_) (fun y bl => by rw [aAQ _ (aQ y bl)]; rfl) b_ (Ix h).2.1
 simp only [yL, GC, Option.bind_assoc, Option.bind_some]
theorem aAW (q : List bM) (o : List Int) (aQ : ∀ p ∈ q, p.cF.length ≤ 1048576) (b_ : o.length ≤ 1048576) (h : pB o q.length = true) : CP q o = some (re q o) := by
 unfold CP
 exact Qy (f := CN) q o (fun m v i => rfl) (fun y bl => by unfold CN; rw [Qx _ (aQ y bl)]; rfl) b_ (Ix h).2.1
end Go.e1
