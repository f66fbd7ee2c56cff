/- Part of a proof that a law returns true for every input. No condition. -/
import Derived.Test.YtbemmmimelklkaaGreatUW1
namespace Go.eR
open Go Go.c5
theorem aw3 (S : List Int) (v : Int) (h : S.length ≤ 1048576) : Cr S v = some (decide (v ∈ S)) := by
 unfold Cr Gx
 rw [Pk S (fun x => v == x) (fun m => by
  simp only [vC, Cq]
  rw [fa (Nat.le_refl _)]; rfl) (fun i ao m => by
  simp only [vC, Cq]
  rw [fB ao, gx _ i ao, fA i _ ao (by omega)]
  simp only [cond_true, Option.bind_some])]
 simp only [Option.bind_some]
 rw [Pj]
 congr 1
 rw [Bool.eq_iff_iff]
 simp only [List.any_eq_true, beq_iff_eq, decide_eq_true_eq]
 constructor
 ·rintro ⟨x, aq, rfl⟩; exact aq
 ·intro aq; exact ⟨v, aq, rfl⟩
section
variable {s : dv} (ok : HO s)
include ok
omit ok in
theorem aw4 : (i4 s).length = s.cn.length := by unfold i4; rw [List.length_map]
theorem DP {S : List Int} (h : kW s.b3.length (i4 s) (ix s.b3) S) : S.length ≤ 7 := by
 have af := h.len
 have ai := aw4 (s := s)
 have aN := ok.kL
 have bk := ok.dW
 omega
theorem aw5 (K : List Int → Int → Option (List Int)) (l S : List Int) (k : Nat) (aD : k < 1000) (Dz : l.length ≤ 1000) (hl : ∀ x ∈ l, (0 ≤ x ∧ x < (s.b3.length : Int)) ∧ pM (i4 s) (ix s.b3) x)
  (bS : kW s.b3.length (i4 s) (ix s.b3) S) :
  lim (fun m => qi K s l m S (k : Int) 0) = K (tN S l) ((k + 1 : Nat) : Int) := by
 refine DI (L := fun m S j => qi K s l m S (k : Int) j) l (fun S v => if v ∈ S then S else S ++ [v]) (kW s.b3.length (i4 s) (ix s.b3)) (fun S => K S ((k + 1 : Nat) : Int)) ?_ ?_ S bS
 ·intro m S bS
  simp only [qi, Cu]
  rw [fa (Nat.le_refl _), fA k 1000 aD (by omega)]
  rfl
 ·intro j b_ m S bS
  have hlen := DP ok bS
  refine ⟨bS.one _ (hl _ (List.getElem_mem b_)), ?_⟩
  simp only [qi, Cu, Cs]
  rw [fB b_, gx _ j b_, fA j _ b_ (by omega)]
  simp only [cond_true, Option.bind_some]
  rw [aw3 S _ (by omega), tA (by omega) (by omega)]
  simp only [Option.bind_some]
  by_cases af : l[j] ∈ S <;> simp [af]
theorem v25 : ∀ (d k : Nat) (S : List Int), kW s.b3.length (i4 s) (ix s.b3) S → k ≤ S.length → 7 ≤ d + k →
  ∃ T, (∀ m, d < m → l6 s m S (k : Int) = some (hX hr [] T)) ∧ S <+: T ∧ kW s.b3.length (i4 s) (ix s.b3) T ∧ ∀ j (b_ : j < T.length), k ≤ j → ∀ y ∈ ix s.b3 T[j], y ∈ T := by
 intro d
 have Px : ∀ (k d : Nat) (S : List Int), kW s.b3.length (i4 s) (ix s.b3) S → k = S.length →
   ∃ T, (∀ m, d < m → l6 s m S (k : Int) = some (hX hr [] T)) ∧ S <+: T ∧ kW s.b3.length (i4 s) (ix s.b3) T ∧ ∀ j (b_ : j < T.length), k ≤ j → ∀ y ∈ ix s.b3 T[j], y ∈ T := by
  intro k d S bS aD
  have hlen := DP ok bS
  refine ⟨S, fun m hm => ?_, List.prefix_refl S, bS, fun j b_ aw6 => by omega⟩
  obtain ⟨m, rfl⟩ : ∃ j, m = j + 1 := ⟨m - 1, by omega⟩
  simp only [l6, Cv, sY, vz]
  rw [fa (by omega), if_pos (by omega)]
  simp only [cond_false, Option.bind_some]
  rw [Pn tM (fun a b => Po a b)]
 induction d with
 | zero =>
   intro k S bS aD ak
   have hlen := DP ok bS
   exact Px k 0 S bS (by omega)
 | succ d ih =>
   intro k S bS aD ak
   have hlen := DP ok bS
   by_cases aw7 : k = S.length
   ·exact Px k _ S bS aw7
   ·have jo : k < S.length := by omega
    have aq := bS.rg _ (List.getElem_mem jo)
    obtain ⟨Py, d1, d2, d3⟩ := Pw aq.1
    have ay : ∀ y ∈ hX hr [] (ix s.b3 S[k]), (0 ≤ y ∧ y < (s.b3.length : Int)) ∧ pM (i4 s) (ix s.b3) y := fun y bD => by
     rcases (pL y _ []).1 bD with h | h
     ·cases h
     ·exact ⟨ok.c _ aq.1 y h, (DM _ _).2 _ aq.2 y h⟩
    have aw8 : (hX hr [] (ix s.b3 S[k])).length ≤ 1000 := by
     have af : jl s.b3.length (hX hr [] (ix s.b3 S[k])) := DN.all (ok.c _ aq.1)
     have := af.len
     have := ok.dW
     omega
    have HR := Ps (hX hr [] (ix s.b3 S[k])) S
    have Dw := kW.add _ bS ay
    obtain ⟨T, af, ai, aN, bk⟩ := ih (k + 1) _ Dw (by have := HR.length_le; omega) (by omega)
    refine ⟨T, fun m hm => ?_, HR.trans ai, aN, fun j b_ aw6 y bD => ?_⟩
    ·obtain ⟨m, rfl⟩ : ∃ j, m = j + 1 := ⟨m - 1, by omega⟩
     simp only [l6, Cv]
     rw [fB jo, gx _ k jo]
     simp only [cond_true, Option.bind_some]
     rw [d1]
     simp only [Option.bind_some]
     rw [awZ Py (ok.jn Py d2), d3]
     simp only [Option.bind_some]
     rw [show mO (wy s.b3 S[k]) = ix s.b3 S[k] from rfl, aw5 ok _ _ S k (by omega) aw8 ay bS, af m (by omega)]
    ·by_cases wE : j = k
     ·subst wE
      have aw9 : T[j] = S[j] := ((HR.trans ai).getElem jo).symm
      rw [aw9] at bD
      exact ai.subset ((Pr _ S y).2 (.inr ((pL y _ []).2 (.inr bD))))
     ·exact bk j b_ (by omega) y bD
theorem aw_ : ∃ r, yp s = some r ∧ kV hr r ∧ ∀ x, x ∈ r ↔ pM (i4 s) (ix s.b3) x := by
 have aN := ok.kL
 have axa : kW s.b3.length (i4 s) (ix s.b3) (i4 s) := ⟨⟨[], by simp, List.Pairwise.nil⟩, fun x aq => ⟨ok.b x aq, (DM _ _).1 x aq⟩⟩
 obtain ⟨T, t1, t2, t3, t4⟩ := v25 ok 7 0 _ axa (by omega) (by omega)
 refine ⟨hX hr [] T, ?_, DL tM T [] List.Pairwise.nil, fun x => ?_⟩
 ·have e : lim (fun m => l6 s m (i4 s) 0) = some (hX hr [] T) := hP 8 fun m hm => t1 m (by omega)
  rw [← e]
  unfold yp
  have key : ∀ i, i ≤ s.cn.length → ∀ (v : List Int) m, v.length ≤ i → s.cn.length - i < m → sZ s m v (i : Int) = lim (fun m => l6 s m (v ++ (s.cn.drop i).map (·.fe)) 0) := by
   refine down s.cn.length ?_ ?_
   ·intro v m aR hm
    obtain ⟨m, rfl⟩ : ∃ j, m = j + 1 := ⟨m - 1, by omega⟩
    simp only [sZ, Cw]
    rw [fa (Nat.le_refl _), List.drop_of_length_le (Nat.le_refl _)]
    simp
   ·intro i ao ih v m aR hm
    obtain ⟨m, rfl⟩ : ∃ j, m = j + 1 := ⟨m - 1, by omega⟩
    simp only [sZ, Cw]
    rw [fB ao, gx _ i ao, fA i _ ao (by omega), tA (by omega) (by omega)]
    simp only [cond_true, Option.bind_some]
    rw [ih _ m (by simp only [List.length_append, List.length_cons, List.length_nil]; omega) (by omega), drop_cons _ i ao]
    simp only [List.map_cons, List.append_assoc, List.cons_append, List.nil_append]
  refine hP (s.cn.length + 1) fun m hm => ?_
  have := key 0 (by omega) [] m (by simp) (by omega)
  rw [show ((0 : Nat) : Int) = 0 from rfl] at this
  rw [this, List.drop_zero, List.nil_append]
  rfl
 ·rw [pL]
  simp only [List.not_mem_nil, false_or]
  refine ⟨fun aq => (t3.rg x aq).2, fun aq => aq (· ∈ T) ⟨fun y bD => t2.subset bD, fun y bD z bY => ?_⟩⟩
  obtain ⟨j, b_, axb⟩ := List.mem_iff_getElem.1 bD
  exact t4 j b_ (by omega) z (by rw [axb]; exact bY)
theorem axc : ∃ r, ya s = some r ∧ yp s = some r ∧ r.length ≤ 4 := by
 obtain ⟨r, df, ea, gU⟩ := aw2 ok
 obtain ⟨q, iN, bw, dP⟩ := aw_ ok
 have e : q = r := DJ tM bw ea.1 fun x => (dP x).trans (gU x).symm
 refine ⟨r, df, e ▸ iN, ?_⟩
 have := ea.len
 have := ok.dW
 omega
end
end Go.eR
