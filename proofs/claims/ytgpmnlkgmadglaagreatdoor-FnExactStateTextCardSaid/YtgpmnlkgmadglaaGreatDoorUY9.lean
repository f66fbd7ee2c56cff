/- Part of a proof that a law returns true for every input. No condition. -/
import Derived.Test.YtgpmnlkgmadglaaGreatDoorUY5
import Derived.Test.YtgpmnlkgmadglaaGreatDoorUD16
namespace Go.eV
open Go Go.c0
noncomputable def nQ (e : List bm) (p : c8) : Bool := (sn e p).getD false
theorem GI (e : List bm) (h : mW e) (aN : kS e = true) (p : c8) (ar : p.cX.length ≤ 1048576) : sn e p = some (nQ e p) ∧ xC e p = some (nQ e p) := by
 obtain ⟨b, ag, ah⟩ := avP e h aN p ar
 have : nQ e p = b := by unfold nQ; rw [ag]; rfl
 rw [this]; exact ⟨ag, ah⟩
def nR (q : List c8) (i : Nat) : c8 := q.getD i ⟨0, 0, []⟩
noncomputable def GJ (s : dh) (q : List c8) : Bool := ((q.length : Int) == (s.cY.length : Int)) && e9 (fun i => nQ s.df (nR q i)) q.length
theorem Ox {q : List c8} (aN : ∀ p ∈ q, p.cX.length ≤ 1048576) {i : Nat} (al : i < q.length) : (nR q i).cX.length ≤ 1048576 := by
 have : nR q i = q[i] := by simp [nR, List.getD, al]
 rw [this]; exact aN _ (List.getElem_mem al)
theorem awa (s : dh) (h : mW s.df) (ai : kS s.df = true) (q : List c8) (cv : q.length ≤ 1048576) (aN : ∀ p ∈ q, p.cX.length ≤ 1048576) : As s q = some (GJ s q) := by
 unfold As GJ
 have e : ((q.length : Int) != (s.cY.length : Int)) = !((q.length : Int) == (s.cY.length : Int)) := rfl
 rw [e]
 cases ((q.length : Int) == (s.cY.length : Int))
 ·rfl
 ·rw [Bool.true_and, Bool.not_true, cond_false]
  refine yi (l := fun m i => so s q m i) _ (fun m => ?_) (fun i al m => ?_)
  ·simp only [so, Ar]
   rw [gr (Nat.le_refl _)]; rfl
  ·simp only [so, Ar]
   rw [gb al, lj _ i ⟨0, 0, []⟩ al, ga i _ al (by omega)]
   show cond true (Option.bind (some (nR q i)) _) _ = _
   simp only [cond_true, Option.bind_some, (GI _ h ai _ (Ox aN al)).1]
   cases nQ s.df (nR q i) <;> rfl
theorem awb (s : dh) (h : mW s.df) (ai : kS s.df = true) (q : List c8) (cv : q.length ≤ 1048576) (aN : ∀ p ∈ q, p.cX.length ≤ 1048576) :
  Bb q s = some (!(e9 (fun i => nQ s.df (nR q i)) q.length)) := by
 unfold Bb E7
 rw [q7 (n := q.length) (fun i => !(nQ s.df (nR q i)))]
 ·simp only [Option.bind_some, q6, Bool.not_not]
 ·intro m
  simp only [uQ, Ba]
  rw [gr (Nat.le_refl _)]; rfl
 ·intro i al m
  simp only [uQ, Ba]
  rw [gb al, lj _ i ⟨0, 0, []⟩ al, ga i _ al (by omega)]
  show cond true (Option.bind (some (nR q i)) _) _ = _
  simp only [cond_true, Option.bind_some, E6, (GI _ h ai _ (Ox aN al)).2]
end Go.eV
