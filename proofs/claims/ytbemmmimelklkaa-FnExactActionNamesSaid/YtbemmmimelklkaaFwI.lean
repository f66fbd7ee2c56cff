/- Part of a proof that a law returns true for every input. No condition. -/
import Derived.Test.YtbemmmimelklkaaFwH
import Derived.Laws.Externs
import Derived.Lib.Bytealg
namespace Go.cB
theorem aU.wide {C : bZ} {f : FuncId} {as : List I} {r hf : I} {outs : List I} (h : aU C f as r outs) (hw : dX r hf) (aZ : r.tree = true) (bU : I.dc outs = []) : aU C f as hf outs := by
 intro w F X S vs hl aO
 refine lT.mono (h w F X S vs hl aO) ?_
 rintro v aD ⟨bI, aL, bq⟩
 have ahf : ∀ (k : Nat) (l : List I), I.dc ((num k l).map (·.2)) = I.dc l := by
  intro k l
  induction l generalizing k with
  | nil => rfl
  | cons a l ih => simp only [num, List.map_cons, I.dc, ih]
 have r0 : ∀ (k : Nat) (l : List I) (p : Nat × I), p ∈ num k l → ∃ i, l[i]? = some p.2 ∧ p.1 = k + i := by
  intro k l
  induction l generalizing k with
  | nil => intro p an; cases an
  | cons a l ih =>
    intro p an
    rcases List.mem_cons.1 an with rfl | an
    ·exact ⟨0, rfl, rfl⟩
    ·obtain ⟨i, ab, af⟩ := ih (k + 1) p an
     exact ⟨i + 1, by simpa using ab, by omega⟩
 have wx : I.dc (hf :: outs) = [] := by
  have : hf.tree = true := hw.tree aZ
  simp [I.dc, Ak this, bU]
 have Na : rp (e3 (r :: outs)) (num 0 (hf :: outs)) := by
  intro p an
  obtain ⟨i, ab, af⟩ := r0 0 _ p an
  have ak : p.1 = i := by omega
  cases i with
  | zero =>
    simp at ab
    right
    rw [ak, ← ab]
    refine ⟨aZ, hw, ?_⟩
    intro b9 dA
    refine .inl fun hm => ?_
    have : b9.2.aa = [] := by
     have key : ∀ (as : List I) (a : I), a ∈ as → I.dc as = [] → a.aa = [] := by
      intro as
      induction as with
      | nil => intro a h; cases h
      | cons b as ih =>
        intro a h he
        simp only [I.dc, List.append_eq_nil_iff] at he
        rcases List.mem_cons.1 h with rfl | h
        ·exact he.1
        ·exact ih a h he.2
     obtain ⟨j, aY, _⟩ := r0 0 _ b9 dA
     exact key _ _ (List.mem_of_getElem? aY) wx
    rw [this] at hm; cases hm
  | succ i =>
    left
    rw [ak]
    simp only [e3, List.getD]
    simp at ab
    simp [ab]
 obtain ⟨pQ, dg, af⟩ := bq.Ep Na
 refine ⟨pQ, dg, ?_⟩
 rw [wL]
 exact af
section
variable {C : bZ} {l : List (Nat × I)} {os : List cg} {K : Option (List eC) → aj → Prop} {dst : Option Nat}
def oQ (s : aj) : List cj → Prop
 | [] => True
 | p :: ps => p.ok s ∧ oQ s ps
theorem A_ {s : aj} : ∀ {ps : List cj}, oQ s ps → ∀ p ∈ ps, p.ok s
 | p :: ps, h, q, cC => by
   rcases List.mem_cons.1 cC with rfl | cC
   ·exact h.1
   ·exact A_ h.2 q cC
def p_ : List cj → Bool
 | [] => true
 | p :: ps => p.o.c8 && p_ ps
theorem Ba : ∀ {ps : List cj}, p_ ps = true → ∀ p ∈ ps, p.o.c8 = true
 | p :: ps, h, q, cC => by
   simp only [p_, Bool.and_eq_true] at h
   rcases List.mem_cons.1 cC with rfl | cC
   ·exact h.1
   ·exact Ba h.2 q cC
theorem Nb {f : aA} {args : List aA} {g : FuncId} {caps : List I} {K : List Nat → I → aj → Prop} (ps : List cj) (r : I)
  (ab : aG (R l) f = .fn g caps) (fE : I.e2 caps = true) (af : ps.map (·.a) = g4 (R l) args ++ caps) (aF : oQ (R l) ps) (bb : hg ps = true)
  (bV : aU C g (ps.map (·.d)) r (ps.map (·.o))) (cd : r.res = true) (cf : i1 ps = false ∨ (r.c8 && p_ ps) = true) (i2 : K (oH ps) r (g2 (eu (R l) ps) ps)) : mK C (R l) (.call f args) K := by
 refine ⟨g, caps, ps, r, ab, fE, by rw [af, tK], A_ aF, bb, bV, cd, ?_, i2⟩
 intro hl
 rcases cf with cf | cf
 ·rw [cf] at hl; cases hl
 ·rw [Bool.and_eq_true] at cf; exact ⟨cf.1, Ba cf.2⟩
theorem qa {f : aA} {args : List aA} {g : FuncId} {caps : List I} {r : I} (ps : List cj) (bV : aU C g (ps.map (·.d)) r (ps.map (·.o)))
  (ab : aG (R l) f = .fn g caps) (fE : I.e2 caps = true) (af : ps.map (·.a) = g4 (R l) args ++ caps) (aF : oQ (R l) ps) (bb : hg ps = true)
  (cd : r.res = true) (cf : i1 ps = false ∨ (r.c8 && p_ ps) = true)
  (i2 : cb C (fin (g2 (eu (R l) ps) ps) dst r) os none K) : cb C (R l) (⟨dst, .call f args, none⟩ :: os) none K := by
 simp only [cb, lW, nS]
 exact Nb ps r ab fE af aF bb bV cd cf i2
theorem nU (s : aj) : oQ s [] = True ∧ (∀ p ps, oQ s (p :: ps) = (p.ok s ∧ oQ s ps)) ∧ (∀ a d o, cj.ok s ⟨a, false, d, o⟩ = (view s a = some d)) ∧
  (∀ x q d o, cj.ok s ⟨.h x q, true, d, o⟩ = (I.sub q (s x) = some d ∧ d.fq = true ∧ (o = .hole ∨ (o.fq = true ∧ pO d o = true)))) := by
 refine ⟨rfl, fun _ _ => rfl, fun _ _ _ => ?_, fun _ _ _ _ => ?_⟩ <;> simp [cj.ok]
theorem nV : (∀ d, I.own (.bd d) = true) ∧ (∀ n xs, I.own (.aE n xs) = true) ∧ (∀ d, I.fq (.bd d) = true) ∧ (∀ n xs, I.fq (.aE n xs) = true) ∧ (∀ aw, I.fq (.agg aw) = !I.e2 aw) ∧
  (∀ d e, pO (.bd d) (.bd e) = true) ∧ (∀ n xs m bT, pO (.aE n xs) (.aE m bT) = true) ∧ (∀ a b, pO (.agg a) (.agg b) = (I.dp a == I.dp b)) := ⟨fun _ => rfl, fun _ _ => rfl, fun _ => rfl, fun _ _ => rfl, fun _ => rfl, fun _ _ => rfl, fun _ _ _ _ => rfl, fun _ _ => rfl⟩
theorem nW (s : aj) : eu s [] = s ∧ g2 s [] = s ∧ (∀ p ps, eu s (p :: ps) = eu (cj.take s p) ps) ∧ (∀ p ps, g2 s (p :: ps) = g2 (cj.hI s p) ps) ∧
  (∀ a d o, cj.take s ⟨a, false, d, o⟩ = s) ∧ (∀ a d o, cj.hI s ⟨a, false, d, o⟩ = s) ∧ (∀ x q d o, cj.take s ⟨.h x q, true, d, o⟩ = cY (hp x s) x (I.put q d.cH (s x))) ∧
  (∀ a d, cj.hI s ⟨a, true, d, .hole⟩ = s) ∧ (∀ x q d e, cj.hI s ⟨.h x q, true, d, .bd e⟩ = cY (ki x s) x (I.put q (.bd e) (s x))) ∧
  (∀ x q d n xs, cj.hI s ⟨.h x q, true, d, .aE n xs⟩ = cY (ki x s) x (I.put q (.aE n xs) (s x))) ∧
  (∀ x q d aw, cj.hI s ⟨.h x q, true, d, .agg aw⟩ = cY (ki x s) x (I.put q (.agg aw) (s x))) := by
 refine ⟨rfl, rfl, fun _ _ => rfl, fun _ _ => rfl, ?_, ?_, ?_, ?_, ?_, ?_, ?_⟩ <;> intros <;> simp [cj.take, cj.hI]
def oR (s : aj) (fx rs : List Nat) : Nat → List I → Bool → Prop
 | _, [], _ => True
 | k, o :: r, b => (o = .hole ∨ (o = s k ∧ o.fq = true ∧ fx.contains k = true ∧ rs.contains k = false)) ∧ oR s fx rs (k + 1) r b
theorem r1 {s : aj} {fx : List Nat} {fL : List ResultVar} {outs : List I} (h : oR s fx (fL.map ix) 0 outs true) : ∀ (i : Nat) (o : I), outs[i]? = some o → o = .hole ∨ (o = s i ∧ o.fq = true ∧ i ∈ fx ∧ i ∉ fL.map ix) := by
 have key : ∀ (outs : List I) (k : Nat), oR s fx (fL.map ix) k outs true → ∀ (i : Nat) (o : I), outs[i]? = some o → o = .hole ∨ (o = s (k + i) ∧ o.fq = true ∧ k + i ∈ fx ∧ k + i ∉ fL.map ix) := by
  intro outs
  induction outs with
  | nil => intro k _ i o h; simp at h
  | cons a outs ih =>
    intro k h i o bU
    cases i with
    | zero =>
      simp at bU; subst bU
      rcases h.1 with h | ⟨ab, af, aF, bb⟩
      ·exact .inl h
      ·exact .inr ⟨ab, af, by simpa using aF, by simpa using bb⟩
    | succ i =>
      have := ih (k + 1) h.2 i o (by simpa using bU)
      rw [show k + (i + 1) = k + 1 + i by omega]; exact this
 intro i o bU
 have := key outs 0 h i o bU
 simpa using this
theorem nX {s : aj} {fx rs : List Nat} {k : Nat} {l : List I} (h : oR s fx rs (k + 1) l true) : oR s fx rs k (.hole :: l) true := ⟨.inl rfl, h⟩
theorem r2 {s : aj} {fx rs : List Nat} {k : Nat} {o : I} {l : List I} (ab : o = s k) (af : o.fq = true) (aF : fx.contains k = true) (bb : rs.contains k = false) (h : oR s fx rs (k + 1) l true) : oR s fx rs k (o :: l) true := ⟨.inr ⟨ab, af, aF, bb⟩, h⟩
theorem r3 {s : aj} {fx rs : List Nat} {k : Nat} : oR s fx rs k [] true := trivial
theorem jn {Q : Exit → aj → Prop} {ros : List cg} {k : List Nat} {b : J} (h : cb C (R l) ros none (fun _ s => dv (cG C b Q) (R (hz k s)))) : cG C (.seq (.ae ros (some k)) b) Q (R l) := pY (fun _ _ h => h) h
theorem Bb {d e : I} (aZ : d.tree = true) (bl : d.AK = false) (h : d.share = e) : dX d e := by
 subst h
 exact .share d aZ (fun vs e => by subst e; cases bl)
theorem aU.nil {C : bZ} {f : FuncId} {args : List I} {r : I} {outs : List I} (i : Nat) (h : aU C f (args.set i (.slice [])) r outs) (ak : args[i]? = some .bA) : aU C f args r outs := by
 intro w F X S vs hl aO
 have hJ := aO.da i
 have aa : e3 args i = .bA := by simp [e3, List.getD, ak]
 rw [aa] at hJ
 have aK : aH w F (e3 args) (gv vs) (.slice []) (gv vs i) (fun _ => False) := by
  rw [aH.cv rfl] at hJ ⊢
  refine ⟨hJ.1, ?_⟩
  have af := hJ.2
  simp only [ax] at af ⊢
  exact .inl ⟨trivial, none, 0, af, Nat.zero_le _, fun _ => rfl⟩
 have af := aO.q1 (t := i) rfl aK
 have aJ : cY (e3 args) i (.slice []) = e3 (args.set i (.slice [])) := by
  funext t
  have dQ : i < args.length := (List.getElem?_eq_some_iff.1 ak).1
  by_cases aZ : t = i
  ·subst aZ; simp [cY, e3, List.getD, dQ]
  ·have : i ≠ t := fun e => aZ e.symm
   simp [cY, aZ, e3, List.getD, this]
 have aP : cY (gv vs) i (gv vs i) = gv vs := by
  funext t
  by_cases aZ : t = i
  ·subst aZ; simp [cY]
  ·simp [cY, aZ]
 rw [aJ, aP] at af
 exact h w F X _ vs (by simpa using hl) af
theorem Bc {α : Type} {l : List α} {i : Nat} {x : α} (h : l[i]? = some x) (u : α → I) (a : I) : ((l.map u).set i a)[i]? = some a := by
 have : i < l.length := (List.getElem?_eq_some_iff.1 h).1
 rw [List.getElem?_set_self (by simpa using this)]
theorem Bd {α : Type} (l : List α) (u : α → I) (i : Nat) (a b : I) : ((l.map u).set i a).set i b = (l.map u).set i b := List.set_set ..
end
end Go.cB
