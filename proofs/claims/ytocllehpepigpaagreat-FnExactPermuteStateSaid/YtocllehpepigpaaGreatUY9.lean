/- Part of a proof that a law returns true for every input. No condition. -/
import Derived.Test.YtocllehpepigpaaGreatUY5
import Derived.Test.YtocllehpepigpaaGreatUD16
namespace Go.e1
open Go Go.dg
noncomputable def ra (e : List bk) (p : bM) : Bool := (vX e p).getD false
theorem Qk (e : List bk) (h : oA e) (aQ : me e = true) (p : bM) (az : p.cF.length ≤ 1048576) : vX e p = some (ra e p) ∧ y1 e p = some (ra e p) := by
 obtain ⟨b, ae, ah⟩ := aAj e h aQ p az
 have : ra e p = b := by unfold ra; rw [ae]; rfl
 rw [this]; exact ⟨ae, ah⟩
def qd (q : List bM) (i : Nat) : bM := q.getD i ⟨0, 0, []⟩
noncomputable def Iq (s : eo) (q : List bM) : Bool := ((q.length : Int) == (s.c_.length : Int)) && fL (fun i => ra s.eH (qd q i)) q.length
theorem Ql {q : List bM} (aQ : ∀ p ∈ q, p.cF.length ≤ 1048576) {i : Nat} (au : i < q.length) : (qd q i).cF.length ≤ 1048576 := by
 have : qd q i = q[i] := by simp [qd, List.getD, au]
 rw [this]; exact aQ _ (List.getElem_mem au)
theorem aAG (s : eo) (h : oA s.eH) (aj : me s.eH = true) (q : List bM) (c4 : q.length ≤ 1048576) (aQ : ∀ p ∈ q, p.cF.length ≤ 1048576) : B7 s q = some (Iq s q) := by
 unfold B7 Iq
 have e : ((q.length : Int) != (s.c_.length : Int)) = !((q.length : Int) == (s.c_.length : Int)) := rfl
 rw [e]
 cases ((q.length : Int) == (s.c_.length : Int))
 ·rfl
 ·rw [Bool.true_and, Bool.not_true, cond_false]
  refine zM (l := fun m i => tg s q m i) _ (fun m => ?_) (fun i au m => ?_)
  ·simp only [tg, B6]
   rw [fD (Nat.le_refl _)]; rfl
  ·simp only [tg, B6]
   rw [gT au, lV _ i ⟨0, 0, []⟩ au, gS i _ au (by omega)]
   show cond true (Option.bind (some (qd q i)) _) _ = _
   simp only [cond_true, Option.bind_some, (Qk _ h aj _ (Ql aQ au)).1]
   cases ra s.eH (qd q i) <;> rfl
theorem aAH (s : eo) (h : oA s.eH) (aj : me s.eH = true) (q : List bM) (c4 : q.length ≤ 1048576) (aQ : ∀ p ∈ q, p.cF.length ≤ 1048576) :
  CF q s = some (!(fL (fun i => ra s.eH (qd q i)) q.length)) := by
 unfold CF G0
 rw [uh (n := q.length) (fun i => !(ra s.eH (qd q i)))]
 ·simp only [Option.bind_some, ug, Bool.not_not]
 ·intro m
  simp only [wc, CE]
  rw [fD (Nat.le_refl _)]; rfl
 ·intro i au m
  simp only [wc, CE]
  rw [gT au, lV _ i ⟨0, 0, []⟩ au, gS i _ au (by omega)]
  show cond true (Option.bind (some (qd q i)) _) _ = _
  simp only [cond_true, Option.bind_some, GZ, (Qk _ h aj _ (Ql aQ au)).2]
end Go.e1
