/- Part of a proof that a law returns true for every input. No condition. -/
import Derived.Test.YtjedocbdhlppdaaFwH
import Derived.Laws.Externs
import Derived.Lib.Bytealg
namespace Go.b1
section
variable {C : bl} {l : List (Nat × j)} {os : List bf} {K : Option (List c3) → ae → Prop} {dst : Option Nat}
def mR (s : ae) : List bw → Prop
 | [] => True
 | p :: ps => p.ok s ∧ mR s ps
theorem yZ {s : ae} : ∀ {ps : List bw}, mR s ps → ∀ p ∈ ps, p.ok s
 | p :: ps, h, q, bR => by
   rcases List.mem_cons.1 bR with rfl | bR
   ·exact h.1
   ·exact yZ h.2 q bR
def p7 : List bw → Bool
 | [] => true
 | p :: ps => p.o.cN && p7 ps
theorem y0 : ∀ {ps : List bw}, p7 ps = true → ∀ p ∈ ps, p.o.cN = true
 | p :: ps, h, q, bR => by
   simp only [p7, Bool.and_eq_true] at h
   rcases List.mem_cons.1 bR with rfl | bR
   ·exact h.1
   ·exact y0 h.2 q bR
theorem EL {f : aq} {args : List aq} {g : FuncId} {caps : List j} {K : List Nat → j → ae → Prop} (ps : List bw) (r : j)
  (U : au (I l) f = .fn g caps) (dE : j.dd caps = true) (aa : ps.map (·.a) = e7 (I l) args ++ caps) (aw : mR (I l) ps) (aH : fc ps = true)
  (aX : b3 C g (ps.map (·.d)) r (ps.map (·.o))) (bD : r.res = true) (bI : gD ps = false ∨ (r.cN && p7 ps) = true) (gV : K (lE ps) r (e6 (c1 (I l) ps) ps)) : jG C (I l) (.call f args) K := by
 refine ⟨g, caps, ps, r, U, dE, by rw [aa, rB], yZ aw, aH, aX, bD, ?_, gV⟩
 intro aI
 rcases bI with bI | bI
 ·rw [bI] at aI; cases aI
 ·rw [Bool.and_eq_true] at bI; exact ⟨bI.1, y0 bI.2⟩
theorem uD {f : aq} {args : List aq} {g : FuncId} {caps : List j} {r : j} (ps : List bw) (aX : b3 C g (ps.map (·.d)) r (ps.map (·.o)))
  (U : au (I l) f = .fn g caps) (dE : j.dd caps = true) (aa : ps.map (·.a) = e7 (I l) args ++ caps) (aw : mR (I l) ps) (aH : fc ps = true)
  (bD : r.res = true) (bI : gD ps = false ∨ (r.cN && p7 ps) = true)
  (gV : bu C (fin (e6 (c1 (I l) ps) ps) dst r) os none K) : bu C (I l) (⟨dst, .call f args, none⟩ :: os) none K := by
 simp only [bu, i5, kU]
 exact EL ps r U dE aa aw aH aX bD bI gV
theorem uE (s : ae) : mR s [] = True ∧ (∀ p ps, mR s (p :: ps) = (p.ok s ∧ mR s ps)) ∧ (∀ a d o, bw.ok s ⟨a, false, d, o⟩ = (view s a = some d)) ∧
  (∀ x q d o, bw.ok s ⟨.h x q, true, d, o⟩ = (j.sub q (s x) = some d ∧ d.dQ = true ∧ (o = .hole ∨ (o.dQ = true ∧ lu d o = true)))) := by
 refine ⟨rfl, fun _ _ => rfl, fun _ _ _ => ?_, fun _ _ _ _ => ?_⟩ <;> simp [bw.ok]
theorem uF : (∀ d, j.own (.bn d) = true) ∧ (∀ n xs, j.own (.aP n xs) = true) ∧ (∀ d, j.dQ (.bn d) = true) ∧ (∀ n xs, j.dQ (.aP n xs) = true) ∧ (∀ ad, j.dQ (.agg ad) = !j.dd ad) ∧
  (∀ d e, lu (.bn d) (.bn e) = true) ∧ (∀ n xs m bF, lu (.aP n xs) (.aP m bF) = true) ∧ (∀ a b, lu (.agg a) (.agg b) = (j.cn a == j.cn b)) := ⟨fun _ => rfl, fun _ _ => rfl, fun _ => rfl, fun _ _ => rfl, fun _ => rfl, fun _ _ => rfl, fun _ _ _ _ => rfl, fun _ _ => rfl⟩
theorem uG (s : ae) : c1 s [] = s ∧ e6 s [] = s ∧ (∀ p ps, c1 s (p :: ps) = c1 (bw.take s p) ps) ∧ (∀ p ps, e6 s (p :: ps) = e6 (bw.e5 s p) ps) ∧
  (∀ a d o, bw.take s ⟨a, false, d, o⟩ = s) ∧ (∀ a d o, bw.e5 s ⟨a, false, d, o⟩ = s) ∧ (∀ x q d o, bw.take s ⟨.h x q, true, d, o⟩ = b4 (fa x s) x (j.put q d.bO (s x))) ∧
  (∀ a d, bw.e5 s ⟨a, true, d, .hole⟩ = s) ∧ (∀ x q d e, bw.e5 s ⟨.h x q, true, d, .bn e⟩ = b4 (hb x s) x (j.put q (.bn e) (s x))) ∧
  (∀ x q d n xs, bw.e5 s ⟨.h x q, true, d, .aP n xs⟩ = b4 (hb x s) x (j.put q (.aP n xs) (s x))) ∧
  (∀ x q d ad, bw.e5 s ⟨.h x q, true, d, .agg ad⟩ = b4 (hb x s) x (j.put q (.agg ad) (s x))) := by
 refine ⟨rfl, rfl, fun _ _ => rfl, fun _ _ => rfl, ?_, ?_, ?_, ?_, ?_, ?_, ?_⟩ <;> intros <;> simp [bw.take, bw.e5]
theorem b3.nil {C : bl} {f : FuncId} {args : List j} {r : j} {outs : List j} (i : Nat) (h : b3 C f (args.set i (.slice [])) r outs) (ax : args[i]? = some .bB) : b3 C f args r outs := by
 intro w F X S vs aI aB
 have ft := aB.cb i
 have R : dw args i = .bB := by simp [dw, List.getD, ax]
 rw [R] at ft
 have aA : ar w F (dw args) (ew vs) (.slice []) (ew vs i) (fun _ => False) := by
  rw [ar.bt rfl] at ft ⊢
  refine ⟨ft.1, ?_⟩
  have aa := ft.2
  simp only [ag] at aa ⊢
  exact .inl ⟨trivial, none, 0, aa, Nat.zero_le _, fun _ => rfl⟩
 have aa := aB.o7 (t := i) rfl aA
 have aC : b4 (dw args) i (.slice []) = dw (args.set i (.slice [])) := by
  funext t
  have cx : i < args.length := (List.getElem?_eq_some_iff.1 ax).1
  by_cases aG : t = i
  ·subst aG; simp [b4, dw, List.getD, cx]
  ·have : i ≠ t := fun e => aG e.symm
   simp [b4, aG, dw, List.getD, this]
 have aF : b4 (ew vs) i (ew vs i) = ew vs := by
  funext t
  by_cases aG : t = i
  ·subst aG; simp [b4]
  ·simp [b4, aG]
 rw [aC, aF] at aa
 exact h w F X _ vs (by simpa using aI) aa
end
end Go.b1
