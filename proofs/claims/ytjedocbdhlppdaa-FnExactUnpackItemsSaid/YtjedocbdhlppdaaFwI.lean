/- Part of a proof that a law returns true for every input. No condition. -/
import Derived.Test.YtjedocbdhlppdaaFwH
import Derived.Laws.Externs
import Derived.Lib.Bytealg
namespace Go.b7
section
variable {C : bp} {l : List (Nat × j)} {os : List bm} {K : Option (List de) → ad → Prop} {dst : Option Nat}
def nE (s : ad) : List bH → Prop
 | [] => True
 | p :: ps => p.ok s ∧ nE s ps
theorem zE {s : ad} : ∀ {ps : List bH}, nE s ps → ∀ p ∈ ps, p.ok s
 | p :: ps, h, q, bR => by
   rcases List.mem_cons.1 bR with rfl | bR
   ·exact h.1
   ·exact zE h.2 q bR
def qF : List bH → Bool
 | [] => true
 | p :: ps => p.o.c6 && qF ps
theorem zF : ∀ {ps : List bH}, qF ps = true → ∀ p ∈ ps, p.o.c6 = true
 | p :: ps, h, q, bR => by
   simp only [qF, Bool.and_eq_true] at h
   rcases List.mem_cons.1 bR with rfl | bR
   ·exact h.1
   ·exact zF h.2 q bR
theorem FW {f : aq} {args : List aq} {g : FuncId} {caps : List j} {K : List Nat → j → ad → Prop} (ps : List bH) (r : j)
  (U : aw (I l) f = .fn g caps) (dV : j.dr caps = true) (aa : ps.map (·.a) = fu (I l) args ++ caps) (au : nE (I l) ps) (aK : fA ps = true)
  (a1 : b5 C g (ps.map (·.d)) r (ps.map (·.o))) (bN : r.res = true) (bS : gS ps = false ∨ (r.c6 && qF ps) = true) (hv : K (mj ps) r (ft (dc (I l) ps) ps)) : kl C (I l) (.call f args) K := by
 refine ⟨g, caps, ps, r, U, dV, by rw [aa, sf], zE au, aK, a1, bN, ?_, hv⟩
 intro hl
 rcases bS with bS | bS
 ·rw [bS] at hl; cases hl
 ·rw [Bool.and_eq_true] at bS; exact ⟨bS.1, zF bS.2⟩
theorem my {f : aq} {args : List aq} {g : FuncId} {caps : List j} {r : j} (ps : List bH) (a1 : b5 C g (ps.map (·.d)) r (ps.map (·.o)))
  (U : aw (I l) f = .fn g caps) (dV : j.dr caps = true) (aa : ps.map (·.a) = fu (I l) args ++ caps) (au : nE (I l) ps) (aK : fA ps = true)
  (bN : r.res = true) (bS : gS ps = false ∨ (r.c6 && qF ps) = true)
  (hv : bF C (fin (ft (dc (I l) ps) ps) dst r) os none K) : bF C (I l) (⟨dst, .call f args, none⟩ :: os) none K := by
 simp only [bF, jQ, lr]
 exact FW ps r U dV aa au aK a1 bN bS hv
theorem mz (s : ad) : nE s [] = True ∧ (∀ p ps, nE s (p :: ps) = (p.ok s ∧ nE s ps)) ∧ (∀ a d o, bH.ok s ⟨a, false, d, o⟩ = (view s a = some d)) ∧
  (∀ x q d o, bH.ok s ⟨.h x q, true, d, o⟩ = (j.sub q (s x) = some d ∧ d.dK = true ∧ (o = .hole ∨ (o.dK = true ∧ l_ d o = true)))) := by
 refine ⟨rfl, fun _ _ => rfl, fun _ _ _ => ?_, fun _ _ _ _ => ?_⟩ <;> simp [bH.ok]
theorem mA : (∀ d, j.own (.bb d) = true) ∧ (∀ n xs, j.own (.aJ n xs) = true) ∧ (∀ d, j.dK (.bb d) = true) ∧ (∀ n xs, j.dK (.aJ n xs) = true) ∧ (∀ af, j.dK (.agg af) = !j.dr af) ∧
  (∀ d e, l_ (.bb d) (.bb e) = true) ∧ (∀ n xs m bT, l_ (.aJ n xs) (.aJ m bT) = true) ∧ (∀ a b, l_ (.agg a) (.agg b) = (j.cz a == j.cz b)) := ⟨fun _ => rfl, fun _ _ => rfl, fun _ => rfl, fun _ _ => rfl, fun _ => rfl, fun _ _ => rfl, fun _ _ _ _ => rfl, fun _ _ => rfl⟩
theorem mB (s : ad) : dc s [] = s ∧ ft s [] = s ∧ (∀ p ps, dc s (p :: ps) = dc (bH.take s p) ps) ∧ (∀ p ps, ft s (p :: ps) = ft (bH.fs s p) ps) ∧
  (∀ a d o, bH.take s ⟨a, false, d, o⟩ = s) ∧ (∀ a d o, bH.fs s ⟨a, false, d, o⟩ = s) ∧ (∀ x q d o, bH.take s ⟨.h x q, true, d, o⟩ = ca (fw x s) x (j.put q d.bV (s x))) ∧
  (∀ a d, bH.fs s ⟨a, true, d, .hole⟩ = s) ∧ (∀ x q d e, bH.fs s ⟨.h x q, true, d, .bb e⟩ = ca (hE x s) x (j.put q (.bb e) (s x))) ∧
  (∀ x q d n xs, bH.fs s ⟨.h x q, true, d, .aJ n xs⟩ = ca (hE x s) x (j.put q (.aJ n xs) (s x))) ∧
  (∀ x q d af, bH.fs s ⟨.h x q, true, d, .agg af⟩ = ca (hE x s) x (j.put q (.agg af) (s x))) := by
 refine ⟨rfl, rfl, fun _ _ => rfl, fun _ _ => rfl, ?_, ?_, ?_, ?_, ?_, ?_, ?_⟩ <;> intros <;> simp [bH.take, bH.fs]
def mC (s : ad) (fx rs : List Nat) : Nat → List j → Bool → Prop
 | _, [], _ => True
 | k, o :: r, b => (o = .hole ∨ (o = s k ∧ o.dK = true ∧ fx.contains k = true ∧ rs.contains k = false)) ∧ mC s fx rs (k + 1) r b
theorem vn {s : ad} {fx : List Nat} {dB : List ResultVar} {outs : List j} (h : mC s fx (dB.map f_) 0 outs true) : ∀ (i : Nat) (o : j), outs[i]? = some o → o = .hole ∨ (o = s i ∧ o.dK = true ∧ i ∈ fx ∧ i ∉ dB.map f_) := by
 have key : ∀ (outs : List j) (k : Nat), mC s fx (dB.map f_) k outs true → ∀ (i : Nat) (o : j), outs[i]? = some o → o = .hole ∨ (o = s (k + i) ∧ o.dK = true ∧ k + i ∈ fx ∧ k + i ∉ dB.map f_) := by
  intro outs
  induction outs with
  | nil => intro k _ i o h; simp at h
  | cons a outs ih =>
    intro k h i o bq
    cases i with
    | zero =>
      simp at bq; subst bq
      rcases h.1 with h | ⟨U, aa, au, aK⟩
      ·exact .inl h
      ·exact .inr ⟨U, aa, by simpa using au, by simpa using aK⟩
    | succ i =>
      have := ih (k + 1) h.2 i o (by simpa using bq)
      rw [show k + (i + 1) = k + 1 + i by omega]; exact this
 intro i o bq
 have := key outs 0 h i o bq
 simpa using this
theorem FX {s : ad} {fx rs : List Nat} {k : Nat} {l : List j} (h : mC s fx rs (k + 1) l true) : mC s fx rs k (.hole :: l) true := ⟨.inl rfl, h⟩
theorem vo {s : ad} {fx rs : List Nat} {k : Nat} {o : j} {l : List j} (U : o = s k) (aa : o.dK = true) (au : fx.contains k = true) (aK : rs.contains k = false) (h : mC s fx rs (k + 1) l true) : mC s fx rs k (o :: l) true := ⟨.inr ⟨U, aa, au, aK⟩, h⟩
theorem vp {s : ad} {fx rs : List Nat} {k : Nat} : mC s fx rs k [] true := trivial
theorem b5.nil {C : bp} {f : FuncId} {args : List j} {r : j} {outs : List j} (i : Nat) (h : b5 C f (args.set i (.slice [])) r outs) (ax : args[i]? = some .bu) : b5 C f args r outs := by
 intro w F X S vs hl aD
 have fL := aD.cl i
 have R : dL args i = .bu := by simp [dL, List.getD, ax]
 rw [R] at fL
 have aC : ar w F (dL args) (eQ vs) (.slice []) (eQ vs i) (fun _ => False) := by
  rw [ar.bE rfl] at fL ⊢
  refine ⟨fL.1, ?_⟩
  have aa := fL.2
  simp only [ai] at aa ⊢
  exact .inl ⟨trivial, none, 0, aa, Nat.zero_le _, fun _ => rfl⟩
 have aa := aD.pK (t := i) rfl aC
 have aE : ca (dL args) i (.slice []) = dL (args.set i (.slice [])) := by
  funext t
  have cK : i < args.length := (List.getElem?_eq_some_iff.1 ax).1
  by_cases aG : t = i
  ·subst aG; simp [ca, dL, List.getD, cK]
  ·have : i ≠ t := fun e => aG e.symm
   simp [ca, aG, dL, List.getD, this]
 have aI : ca (eQ vs) i (eQ vs i) = eQ vs := by
  funext t
  by_cases aG : t = i
  ·subst aG; simp [ca]
  ·simp [ca, aG]
 rw [aE, aI] at aa
 exact h w F X _ vs (by simpa using hl) aa
end
end Go.b7
