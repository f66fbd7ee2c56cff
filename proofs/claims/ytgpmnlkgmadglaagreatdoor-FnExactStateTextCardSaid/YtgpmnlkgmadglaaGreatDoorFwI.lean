/- Part of a proof that a law returns true for every input. No condition. -/
import Derived.Test.YtgpmnlkgmadglaaGreatDoorFwH
import Derived.Laws.Externs
import Derived.Lib.Bytealg
namespace Go.c0
section
variable {C : ck} {l : List (Nat × I)} {os : List b2} {K : Option (List fv) → ao → Prop} {dst : Option Nat}
def uj (s : ao) : List cV → Prop
 | [] => True
 | p :: ps => p.ok s ∧ uj s ps
theorem J1 {s : ao} : ∀ {ps : List cV}, uj s ps → ∀ p ∈ ps, p.ok s
 | p :: ps, h, q, cv => by
   rcases List.mem_cons.1 cv with rfl | cv
   ·exact h.1
   ·exact J1 h.2 q cv
def wE : List cV → Bool
 | [] => true
 | p :: ps => p.o.c7 && wE ps
theorem J2 : ∀ {ps : List cV}, wE ps = true → ∀ p ∈ ps, p.o.c7 = true
 | p :: ps, h, q, cv => by
   simp only [wE, Bool.and_eq_true] at h
   rcases List.mem_cons.1 cv with rfl | cv
   ·exact h.1
   ·exact J2 h.2 q cv
theorem J3 (s : ao) : uj s [] = True ∧ (∀ p ps, uj s (p :: ps) = (p.ok s ∧ uj s ps)) ∧ (∀ a d o, cV.ok s ⟨a, false, d, o⟩ = (view s a = some d)) ∧
  (∀ x q d o, cV.ok s ⟨.h x q, true, d, o⟩ = (I.sub q (s x) = some d ∧ d.gz = true ∧ (o = .hole ∨ (o.gz = true ∧ rK d o = true)))) := by
 refine ⟨rfl, fun _ _ => rfl, fun _ _ _ => ?_, fun _ _ _ _ => ?_⟩ <;> simp [cV.ok]
theorem J4 : (∀ d, I.own (.a7 d) = true) ∧ (∀ n xs, I.own (.aP n xs) = true) ∧ (∀ d, I.gz (.a7 d) = true) ∧ (∀ n xs, I.gz (.aP n xs) = true) ∧ (∀ ax, I.gz (.agg ax) = !I.gh ax) ∧
  (∀ d e, rK (.a7 d) (.a7 e) = true) ∧ (∀ n xs m cn, rK (.aP n xs) (.aP m cn) = true) ∧ (∀ a b, rK (.agg a) (.agg b) = (I.ek a == I.ek b)) := ⟨fun _ => rfl, fun _ _ => rfl, fun _ => rfl, fun _ _ => rfl, fun _ => rfl, fun _ _ => rfl, fun _ _ _ _ => rfl, fun _ _ => rfl⟩
theorem J5 (s : ao) : fD s [] = s ∧ i7 s [] = s ∧ (∀ p ps, fD s (p :: ps) = fD (cV.take s p) ps) ∧ (∀ p ps, i7 s (p :: ps) = i7 (cV.jr s p) ps) ∧
  (∀ a d o, cV.take s ⟨a, false, d, o⟩ = s) ∧ (∀ a d o, cV.jr s ⟨a, false, d, o⟩ = s) ∧ (∀ x q d o, cV.take s ⟨.h x q, true, d, o⟩ = dw (iZ x s) x (I.put q d.de (s x))) ∧
  (∀ a d, cV.jr s ⟨a, true, d, .hole⟩ = s) ∧ (∀ x q d e, cV.jr s ⟨.h x q, true, d, .a7 e⟩ = dw (lE x s) x (I.put q (.a7 e) (s x))) ∧
  (∀ x q d n xs, cV.jr s ⟨.h x q, true, d, .aP n xs⟩ = dw (lE x s) x (I.put q (.aP n xs) (s x))) ∧
  (∀ x q d ax, cV.jr s ⟨.h x q, true, d, .agg ax⟩ = dw (lE x s) x (I.put q (.agg ax) (s x))) := by
 refine ⟨rfl, rfl, fun _ _ => rfl, fun _ _ => rfl, ?_, ?_, ?_, ?_, ?_, ?_, ?_⟩ <;> intros <;> simp [cV.take, cV.jr]
def qI (s : ao) (fx rs : List Nat) : Nat → List I → Bool → Prop
 | _, [], _ => True
 | k, o :: r, b => (o = .hole ∨ (o = s k ∧ o.gz = true ∧ fx.contains k = true ∧ rs.contains k = false)) ∧ qI s fx rs (k + 1) r b
theorem SI {s : ao} {fx : List Nat} {fu : List ResultVar} {outs : List I} (h : qI s fx (fu.map jJ) 0 outs true) : ∀ (i : Nat) (o : I), outs[i]? = some o → o = .hole ∨ (o = s i ∧ o.gz = true ∧ i ∈ fx ∧ i ∉ fu.map jJ) := by
 have key : ∀ (outs : List I) (k : Nat), qI s fx (fu.map jJ) k outs true → ∀ (i : Nat) (o : I), outs[i]? = some o → o = .hole ∨ (o = s (k + i) ∧ o.gz = true ∧ k + i ∈ fx ∧ k + i ∉ fu.map jJ) := by
  intro outs
  induction outs with
  | nil => intro k _ i o h; simp at h
  | cons a outs ih =>
    intro k h i o cg
    cases i with
    | zero =>
      simp at cg; subst cg
      rcases h.1 with h | ⟨ag, ah, aI, a_⟩
      ·exact .inl h
      ·exact .inr ⟨ag, ah, by simpa using aI, by simpa using a_⟩
    | succ i =>
      have := ih (k + 1) h.2 i o (by simpa using cg)
      rw [show k + (i + 1) = k + 1 + i by omega]; exact this
 intro i o cg
 have := key outs 0 h i o cg
 simpa using this
theorem zi {s : ao} {fx rs : List Nat} {k : Nat} {l : List I} (h : qI s fx rs (k + 1) l true) : qI s fx rs k (.hole :: l) true := ⟨.inl rfl, h⟩
theorem SJ {s : ao} {fx rs : List Nat} {k : Nat} {o : I} {l : List I} (ag : o = s k) (ah : o.gz = true) (aI : fx.contains k = true) (a_ : rs.contains k = false) (h : qI s fx rs (k + 1) l true) : qI s fx rs k (o :: l) true := ⟨.inr ⟨ag, ah, aI, a_⟩, h⟩
theorem SK {s : ao} {fx rs : List Nat} {k : Nat} : qI s fx rs k [] true := trivial
theorem kP {Q : Exit → ao → Prop} {ros : List b2} {k : List Nat} {b : J} (h : cI C (aa l) ros none (fun _ s => el (cW C b Q) (aa (iT k s)))) : cW C (.seq (.R ros (some k)) b) Q (aa l) := rT (fun _ _ h => h) h
theorem bh.nil {C : ck} {f : FuncId} {args : List I} {r : I} {outs : List I} (i : Nat) (h : bh C f (args.set i (.slice [])) r outs) (al : args[i]? = some .bp) : bh C f args r outs := by
 intro w F X S vs aR aV
 have jt := aV.dC i
 have ad : gm args i = .bp := by simp [gm, List.getD, al]
 rw [ad] at jt
 have aN : aG w F (gm args) (hE vs) (.slice []) (hE vs i) (fun _ => False) := by
  rw [aG.cJ rfl] at jt ⊢
  refine ⟨jt.1, ?_⟩
  have ah := jt.2
  simp only [au] at ah ⊢
  exact .inl ⟨trivial, none, 0, ah, Nat.zero_le _, fun _ => rfl⟩
 have ah := aV.tc (t := i) rfl aN
 have aS : dw (gm args) i (.slice []) = gm (args.set i (.slice [])) := by
  funext t
  have fa : i < args.length := (List.getElem?_eq_some_iff.1 al).1
  by_cases bb : t = i
  ·subst bb; simp [dw, gm, List.getD, fa]
  ·have : i ≠ t := fun e => bb e.symm
   simp [dw, bb, gm, List.getD, this]
 have aX : dw (hE vs) i (hE vs i) = hE vs := by
  funext t
  by_cases bb : t = i
  ·subst bb; simp [dw]
  ·simp [dw, bb]
 rw [aS, aX] at ah
 exact h w F X _ vs (by simpa using aR) ah
end
end Go.c0
