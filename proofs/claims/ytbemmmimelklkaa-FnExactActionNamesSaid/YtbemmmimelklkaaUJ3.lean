/- Part of a proof that a law returns true for every input. No condition. -/
import Derived.Test.YtbemmmimelklkaaUJ1
import Derived.Test.YtbemmmimelklkaaUD10
namespace Go.eJ
open Go Go.cB
def jU (b : List bn) : List (List UInt8) := (b.filter fun p => p.Kind == 1).map (·.Name)
theorem CP (p : bn) (b : List bn) : jU (p :: b) = if p.Kind = 1 then p.Name :: jU b else jU b := by
 unfold jU
 by_cases h : p.Kind = 1 <;> simp [h]
theorem Jn : ∀ b : List bn, cT List.length (jU b) ≤ cT g_ b
 | [] => Nat.le_refl _
 | p :: b => by
   have ih := Jn b
   have aJ : cT List.length (p.Name :: jU b) = p.Name.length + 1 + cT List.length (jU b) := by simp only [cT, e1, List.length_cons]; omega
   have aP : cT g_ (p :: b) = g_ p + 1 + cT g_ b := by simp only [cT, e1, List.length_cons]; omega
   have h : p.Name.length ≤ g_ p := by unfold g_; omega
   rw [CP, aP]
   split
   ·rw [aJ]; omega
   ·omega
theorem ai4 (b : List bn) : (jU b).length ≤ b.length := by
 unfold jU; rw [List.length_map]; exact List.length_filter_le ..
theorem agM (e : List aV) (i : Nat) (ak : i < e.length) (U : e[i].Body.length ≤ 1048576) : lim (fun n => n1 e (i : Int) n [] 0) = some (m1 (jU e[i].Body), 0) := by
 have key : ∀ j, j ≤ e[i].Body.length → ∀ (v : List (List UInt8)) m, v.length ≤ j → e[i].Body.length - j < m → n1 e (i : Int) m v (j : Int) = some (m1 (v ++ jU (e[i].Body.drop j)), 0) := by
  refine down e[i].Body.length ?_ ?_
  ·intro v m nc hm
   obtain ⟨m, rfl⟩ : ∃ j, m = j + 1 := ⟨m - 1, by omega⟩
   simp only [n1, xJ]
   rw [fa _ i ak]
   simp only [Option.bind_some]
   rw [fQ (Nat.le_refl _), List.drop_of_length_le (Nat.le_refl _), agH v (by omega)]
   simp only [cond_false, Option.bind_some]
   have bS := agL v
   rw [show ju fb [] (v.filter mg) = m1 v from rfl, bS]
   simp [jU]
  ·intro j bS ih v m nc hm
   obtain ⟨m, rfl⟩ : ∃ j, m = j + 1 := ⟨m - 1, by omega⟩
   simp only [n1, xJ, xI]
   rw [fa _ i ak]
   simp only [Option.bind_some]
   rw [gA bS, fa _ j bS, gz j _ bS (by omega), yT (by omega) (by omega)]
   simp only [cond_true, Option.bind_some]
   rw [ih (v ++ [_]) m (by simp only [List.length_append, List.length_cons, List.length_nil]; omega) (by omega), ih v m (by omega) (by omega), drop_cons _ j bS, CP]
   by_cases ab : e[i].Body[j].Kind = 1
   ·simp [ab]
   ·have af : (e[i].Body[j].Kind == 1) = false := by simpa using ab
    simp [ab, af]
 refine ho (e[i].Body.length + 1) fun m hm => ?_
 have := key 0 (by omega) [] m (by simp) (by omega)
 simpa using this
theorem agN (d : aV) (U : d.Body.length ≤ 1048576) : lim (fun n => n3 d n [] 0) = some (m1 (jU d.Body), 0) := by
 have key : ∀ j, j ≤ d.Body.length → ∀ (v : List (List UInt8)) m, v.length ≤ j → d.Body.length - j < m → n3 d m v (j : Int) = some (ju fb [] (v ++ (jU (d.Body.drop j)).filter mg), 0) := by
  refine down d.Body.length ?_ ?_
  ·intro v m nc hm
   obtain ⟨m, rfl⟩ : ∃ j, m = j + 1 := ⟨m - 1, by omega⟩
   simp only [n3, x6, uG, x4]
   rw [fQ (Nat.le_refl _), List.drop_of_length_le (Nat.le_refl _), if_pos (by omega)]
   simp only [cond_false, Option.bind_some]
   rw [agB oh (fun a b => agD a b)]
   simp [jU]
  ·intro j bS ih v m nc hm
   obtain ⟨m, rfl⟩ : ∃ j, m = j + 1 := ⟨m - 1, by omega⟩
   simp only [n3, x6, x5]
   rw [gA bS, fa _ j bS, gz j _ bS (by omega), yT (by omega) (by omega)]
   simp only [cond_true, Option.bind_some]
   rw [ih (v ++ [_]) m (by simp only [List.length_append, List.length_cons, List.length_nil]; omega) (by omega), ih v m (by omega) (by omega), drop_cons _ j bS, CP]
   by_cases ab : d.Body[j].Kind = 1
   ·have e : mg d.Body[j].Name = !(d.Body[j].Name == ([116, 97, 117] : List UInt8)) := rfl
    rw [if_pos ab, List.filter_cons, e]
    simp only [ab]
    cases (d.Body[j].Name == ([116, 97, 117] : List UInt8)) <;> simp
   ·have af : (d.Body[j].Kind == 1) = false := by simpa using ab
    simp [ab, af]
 refine ho (d.Body.length + 1) fun m hm => ?_
 have := key 0 (by omega) [] m (by simp) (by omega)
 simpa [m1] using this
theorem agO (e : List aV) (h : pc e) (aa : cT h3 e ≤ 1048576) (k : Int) : ∃ r : List (List UInt8) × Int, xK e k = some r ∧ uH e k = some r ∧ cT List.length r.1 ≤ 1048576 := by
 unfold xK uH
 obtain ⟨c, cr, cu, nP⟩ := agx e h k 0
 rw [cr, cu]
 simp only [Option.bind_some]
 cases al : c != 0
 ·obtain ⟨_, i, j, rfl, _, ak, _⟩ := nP al
  have U := (h.2 _ (List.getElem_mem ak)).2.1
  rw [fa e i ak]
  simp only [cond_false, Option.bind_some]
  rw [agM e i ak U, agN _ U]
  refine ⟨_, rfl, rfl, ?_⟩
  show cT List.length (m1 (jU e[i].Body)) ≤ _
  have ab := agK (jU e[i].Body)
  have af := Jn e[i].Body
  have aF := nv (f := h3) (List.getElem_mem ak)
  have bb : cT g_ e[i].Body ≤ h3 e[i] := by unfold h3; omega
  omega
 ·exact ⟨_, rfl, rfl, by simp [cT, e1]⟩
theorem ae8 (a : List gF) (k : Int) (b7 : a.length ≤ 9223372036854775807 ∧ ∀ y ∈ a, qf y) : BO a k = some true := by
 unfold BO
 rw [Iz a 1048576 b7 (by omega) (by omega)]
 simp only [Option.bind_some]
 by_cases aa : cT k4 a ≤ 1048576
 ·rw [vw (by omega)]
  have bl : decide ((1048576 : Int) - ((cT k4 a : Nat) : Int) < 0) = false := by simp only [decide_eq_false_iff_not]; omega
  have lZ : cT h3 (a.map me) ≤ 1048576 := by
   rw [yO]; simp only [IA]; exact aa
  rw [bl, cond_false, IB a aa]
  simp only [Option.bind_some]
  generalize a.map me = e at lZ
  obtain ⟨r, ab, af, aF⟩ := agO e (I7 lZ) lZ k
  obtain ⟨cx, c, cr, eV⟩ := afK e 1 (by omega) (by omega)
  obtain ⟨iH, d, d1, fY, gK⟩ := afL r.1 1 (by omega) (by omega)
  simp only [ab, af, Option.bind_some, afz r.1 aF, IC e lZ, eV, fY, gK, Bool.not_true, bne_self_eq_false, Bool.or_self, cond_false, Iw (k := 1 + (c : Int)) (by omega), Iw (k := 1 + (d : Int)) (by omega)]
 ·rw [vx (by omega)]; rfl
end Go.eJ
