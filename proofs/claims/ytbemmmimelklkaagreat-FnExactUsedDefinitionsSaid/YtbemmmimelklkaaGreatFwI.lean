/- Part of a proof that a law returns true for every input. No condition. -/
import Derived.Test.YtbemmmimelklkaaGreatFwH
import Derived.Laws.Externs
import Derived.Lib.Bytealg
namespace Go.c5
section
variable {C : cw} {l : List (Nat × I)} {os : List cO} {K : Option (List fF) → ax → Prop} {dst : Option Nat}
def pn (s : ax) : List cR → Prop
 | [] => True
 | p :: ps => p.ok s ∧ pn s ps
theorem AF {s : ax} : ∀ {ps : List cR}, pn s ps → ∀ p ∈ ps, p.ok s
 | p :: ps, h, q, dk => by
   rcases List.mem_cons.1 dk with rfl | dk
   ·exact h.1
   ·exact AF h.2 q dk
def p6 : List cR → Bool
 | [] => true
 | p :: ps => p.o.c4 && p6 ps
theorem AG : ∀ {ps : List cR}, p6 ps = true → ∀ p ∈ ps, p.o.c4 = true
 | p :: ps, h, q, dk => by
   simp only [p6, Bool.and_eq_true] at h
   rcases List.mem_cons.1 dk with rfl | dk
   ·exact h.1
   ·exact AG h.2 q dk
theorem To {f : aH} {args : List aH} {g : FuncId} {caps : List I} {K : List Nat → I → ax → Prop} (ps : List cR) (r : I)
  (af : aV (aa l) f = .fn g caps) (gm : I.dO caps = true) (ai : ps.map (·.a) = h1 (aa l) args ++ caps) (aN : pn (aa l) ps) (bk : ig ps = true)
  (cc : aQ C g (ps.map (·.d)) r (ps.map (·.o))) (cF : r.res = true) (ct : jL ps = false ∨ (r.c4 && p6 ps) = true) (jq : K (p5 ps) r (hK (fk (aa l) ps) ps)) : nL C (aa l) (.call f args) K := by
 refine ⟨g, caps, ps, r, af, gm, by rw [ai, uB], AF aN, bk, cc, cF, ?_, jq⟩
 intro hl
 rcases ct with ct | ct
 ·rw [ct] at hl; cases hl
 ·rw [Bool.and_eq_true] at ct; exact ⟨ct.1, AG ct.2⟩
theorem Tp {f : aH} {args : List aH} {g : FuncId} {caps : List I} {K : List Nat → I → ax → Prop} {us : List Nat} (ps : List cR) (r : I) (aq : k_ (aa l) (jc (aa l) us) = true)
  (af : aV (aa l) f = .fn g caps) (gm : I.dO caps = true) (ai : ps.map (·.a) = h1 (aa l) args ++ caps) (aN : pn (aa l) ps) (bk : ig ps = true)
  (cc : aQ C g (ps.map (·.d)) r (ps.map (·.o))) (cF : r.res = true) (ct : jL ps = false ∨ (r.c4 && p6 ps) = true)
  (jq : k_ (hK (fk (aa l) ps) ps) (jc (aa l) us) = true ∧ K (us ++ p5 ps) r (mm (hK (fk (aa l) ps) ps) (jc (aa l) us))) : nL C (aa l) (.j6 f args us) K := by
 refine ⟨aq, g, caps, ps, r, af, gm, by rw [ai, uB], AF aN, bk, cc, cF, ?_, jq⟩
 intro hl
 rcases ct with ct | ct
 ·rw [ct] at hl; cases hl
 ·rw [Bool.and_eq_true] at ct; exact ⟨ct.1, AG ct.2⟩
theorem AH {f : aH} {args : List aH} {g : FuncId} {caps : List I} {r : I} {us : List Nat} (ps : List cR) (cc : aQ C g (ps.map (·.d)) r (ps.map (·.o)))
  (af : aV (aa l) f = .fn g caps) (gm : I.dO caps = true) (ai : ps.map (·.a) = h1 (aa l) args ++ caps) (aN : pn (aa l) ps) (bk : ig ps = true)
  (cF : r.res = true) (ct : jL ps = false ∨ (r.c4 && p6 ps) = true) (aq : k_ (aa l) (jc (aa l) us) = true)
  (jq : k_ (hK (fk (aa l) ps) ps) (jc (aa l) us) = true ∧ cE C (fin (mm (hK (fk (aa l) ps) ps) (jc (aa l) us)) dst r) os none K) : cE C (aa l) (⟨dst, .j6 f args us, none⟩ :: os) none K := by
 simp only [cE, mZ, pj]
 exact Tp ps r aq af gm ai aN bk cc cF ct jq
theorem q5 (s : ax) : jc s [] = [] ∧ (∀ u us, jc s (u :: us) = (u, s u) :: jc s us) ∧ k_ s [] = true ∧ (∀ p L, k_ s (p :: L) = (p.2.fN s && k_ s L)) ∧ mm s [] = s ∧ (∀ p L, mm s (p :: L) = mm (dz s p.1 p.2) L) ∧
  (∀ x, I.fN s (.h x []) = (s x).own) ∧ (∀ x k, I.fN s (.ad x k) = !(s x).plain) ∧ (∀ f c, I.fN s (.fn f c) = I.nI s c) ∧ I.nI s [] = true ∧ (∀ d ds, I.nI s (d :: ds) = (d.fN s && I.nI s ds)) ∧
  (∀ k n, I.fN s (.int k n) = true) ∧ (∀ b, I.fN s (.bool b) = true) ∧ (∀ x, I.fN s (.str x) = true) ∧ (∀ x, I.fN s (.slice x) = true) ∧ (∀ x, I.fN s (.ref x) = true) ∧ I.fN s .bu = true ∧ I.fN s .dI = true ∧ (∀ aC, I.fN s (.agg aC) = I.dO aC) :=
 ⟨rfl, fun _ _ => rfl, rfl, fun _ _ => rfl, rfl, fun _ _ => rfl, fun _ => rfl, fun _ _ => rfl, fun _ _ => rfl, rfl, fun _ _ => rfl, fun _ _ => rfl, fun _ => rfl, fun _ => rfl, fun _ => rfl, fun _ => rfl, rfl, rfl, fun _ => rfl⟩
theorem oz {f : aH} {args : List aH} {g : FuncId} {caps : List I} {r : I} (ps : List cR) (cc : aQ C g (ps.map (·.d)) r (ps.map (·.o)))
  (af : aV (aa l) f = .fn g caps) (gm : I.dO caps = true) (ai : ps.map (·.a) = h1 (aa l) args ++ caps) (aN : pn (aa l) ps) (bk : ig ps = true)
  (cF : r.res = true) (ct : jL ps = false ∨ (r.c4 && p6 ps) = true)
  (jq : cE C (fin (hK (fk (aa l) ps) ps) dst r) os none K) : cE C (aa l) (⟨dst, .call f args, none⟩ :: os) none K := by
 simp only [cE, mZ, pj]
 exact To ps r af gm ai aN bk cc cF ct jq
theorem lg (s : ax) : pn s [] = True ∧ (∀ p ps, pn s (p :: ps) = (p.ok s ∧ pn s ps)) ∧ (∀ a d o, cR.ok s ⟨a, false, d, o⟩ = (view s a = some d)) ∧
  (∀ x q d o, cR.ok s ⟨.h x q, true, d, o⟩ = (I.sub q (s x) = some d ∧ d.gI = true ∧ (o = .hole ∨ (o.gI = true ∧ si d o = true)))) := by
 refine ⟨rfl, fun _ _ => rfl, fun _ _ _ => ?_, fun _ _ _ _ => ?_⟩ <;> simp [cR.ok]
theorem iT : (∀ d, I.own (.bd d) = true) ∧ (∀ n xs, I.own (.ar n xs) = true) ∧ (∀ d, I.gI (.bd d) = true) ∧ (∀ n xs, I.gI (.ar n xs) = true) ∧ (∀ aC, I.gI (.agg aC) = !I.dO aC) ∧
  (∀ d e, si (.bd d) (.bd e) = true) ∧ (∀ n xs m cp, si (.ar n xs) (.ar m cp) = true) ∧ (∀ a b, si (.agg a) (.agg b) = (I.eD a == I.eD b)) := ⟨fun _ => rfl, fun _ _ => rfl, fun _ => rfl, fun _ _ => rfl, fun _ => rfl, fun _ _ => rfl, fun _ _ _ _ => rfl, fun _ _ => rfl⟩
theorem lh (s : ax) : fk s [] = s ∧ hK s [] = s ∧ (∀ p ps, fk s (p :: ps) = fk (cR.take s p) ps) ∧ (∀ p ps, hK s (p :: ps) = hK (cR.ja s p) ps) ∧
  (∀ a d o, cR.take s ⟨a, false, d, o⟩ = s) ∧ (∀ a d o, cR.ja s ⟨a, false, d, o⟩ = s) ∧ (∀ x q d o, cR.take s ⟨.h x q, true, d, o⟩ = dz (iH x s) x (I.put q d.dq (s x))) ∧
  (∀ a d, cR.ja s ⟨a, true, d, .hole⟩ = s) ∧ (∀ x q d e, cR.ja s ⟨.h x q, true, d, .bd e⟩ = dz (lK x s) x (I.put q (.bd e) (s x))) ∧
  (∀ x q d n xs, cR.ja s ⟨.h x q, true, d, .ar n xs⟩ = dz (lK x s) x (I.put q (.ar n xs) (s x))) ∧
  (∀ x q d aC, cR.ja s ⟨.h x q, true, d, .agg aC⟩ = dz (lK x s) x (I.put q (.agg aC) (s x))) := by
 refine ⟨rfl, rfl, fun _ _ => rfl, fun _ _ => rfl, ?_, ?_, ?_, ?_, ?_, ?_, ?_⟩ <;> intros <;> simp [cR.take, cR.ja]
def q6 (s : ax) (fx rs : List Nat) : Nat → List I → Bool → Prop
 | _, [], _ => True
 | k, o :: r, b => (o = .hole ∨ (o = s k ∧ o.gI = true ∧ fx.contains k = true ∧ rs.contains k = false)) ∧ q6 s fx rs (k + 1) r b
theorem po {s : ax} {fx : List Nat} {gW : List ResultVar} {outs : List I} (h : q6 s fx (gW.map jR) 0 outs true) : ∀ (i : Nat) (o : I), outs[i]? = some o → o = .hole ∨ (o = s i ∧ o.gI = true ∧ i ∈ fx ∧ i ∉ gW.map jR) := by
 have key : ∀ (outs : List I) (k : Nat), q6 s fx (gW.map jR) k outs true → ∀ (i : Nat) (o : I), outs[i]? = some o → o = .hole ∨ (o = s (k + i) ∧ o.gI = true ∧ k + i ∈ fx ∧ k + i ∉ gW.map jR) := by
  intro outs
  induction outs with
  | nil => intro k _ i o h; simp at h
  | cons a outs ih =>
    intro k h i o cl
    cases i with
    | zero =>
      simp at cl; subst cl
      rcases h.1 with h | ⟨af, ai, aN, bk⟩
      ·exact .inl h
      ·exact .inr ⟨af, ai, by simpa using aN, by simpa using bk⟩
    | succ i =>
      have := ih (k + 1) h.2 i o (by simpa using cl)
      rw [show k + (i + 1) = k + 1 + i by omega]; exact this
 intro i o cl
 have := key outs 0 h i o cl
 simpa using this
theorem m1 {s : ax} {fx rs : List Nat} {k : Nat} {l : List I} (h : q6 s fx rs (k + 1) l true) : q6 s fx rs k (.hole :: l) true := ⟨.inl rfl, h⟩
theorem pq {s : ax} {fx rs : List Nat} {k : Nat} {o : I} {l : List I} (af : o = s k) (ai : o.gI = true) (aN : fx.contains k = true) (bk : rs.contains k = false) (h : q6 s fx rs (k + 1) l true) : q6 s fx rs k (o :: l) true := ⟨.inr ⟨af, ai, aN, bk⟩, h⟩
theorem pr {s : ax} {fx rs : List Nat} {k : Nat} : q6 s fx rs k [] true := trivial
theorem kP {Q : Exit → ax → Prop} {ros : List cO} {k : List Nat} {b : J} (h : cE C (aa l) ros none (fun _ s => eN (dh C b Q) (aa (iP k s)))) : dh C (.seq (.R ros (some k)) b) Q (aa l) := su (fun _ _ h => h) h
theorem aQ.nil {C : cw} {f : FuncId} {args : List I} {r : I} {outs : List I} (i : Nat) (h : aQ C f (args.set i (.slice [])) r outs) (ao : args[i]? = some .bu) : aQ C f args r outs := by
 intro w F X S vs hl bb
 have jb := bb.ee i
 have ah : gC args i = .bu := by simp [gC, List.getD, ao]
 rw [ah] at jb
 have aR : aY w F (gC args) (hL vs) (.slice []) (hL vs i) (fun _ => False) := by
  rw [aY.c9 rfl] at jb ⊢
  refine ⟨jb.1, ?_⟩
  have ai := jb.2
  simp only [aB] at ai ⊢
  exact .inl ⟨trivial, none, 0, ai, Nat.zero_le _, fun _ => rfl⟩
 have ai := bb.tS (t := i) rfl aR
 have a1 : dz (gC args) i (.slice []) = gC (args.set i (.slice [])) := by
  funext t
  have fi : i < args.length := (List.getElem?_eq_some_iff.1 ao).1
  by_cases bs : t = i
  ·subst bs; simp [dz, gC, List.getD, fi]
  ·have : i ≠ t := fun e => bs e.symm
   simp [dz, bs, gC, List.getD, this]
 have bh : dz (hL vs) i (hL vs i) = hL vs := by
  funext t
  by_cases bs : t = i
  ·subst bs; simp [dz]
  ·simp [dz, bs]
 rw [a1, bh] at ai
 exact h w F X _ vs (by simpa using hl) ai
def FN (s : ax) (y : Nat) : I → Option (I × ax)
 | .agg ds => if I.dO ds then none else some (.ad y 0, s)
 | _ => none
theorem iD {C : cw} {l : List (Nat × I)} {os : List cO} {K : Option (List fF) → ax → Prop} {dst : Option Nat} (T : TypeId) (x : aH) :
  cE C (aa l) (⟨dst, .jJ T x, none⟩ :: os) none K = dY C dst os K (jJ (aa l) (aV (aa l) x)) := jr rfl
theorem iE : (∀ (t x k : Nat), i7 t (.ad x k) = .ad x k) ∧ (∀ (l : List (Nat × I)) (t x k : Nat), fin (aa l) (some t) (.ad x k) = aa ((t, .ad x k) :: l)) ∧ (∀ x k : Nat, I.plain (.ad x k) = true) ∧
  (∀ (s : ax) (x k : Nat), jd s (.ad x k) = some (.ad x k, s)) ∧ (∀ (t y k : Nat), cW t (.ad y k) = if y = t then .hole else .ad y k) ∧ (∀ (t y k : Nat), cm t (.ad y k) = .ad y k) ∧ (∀ x k : Nat, I.wd (.ad x k) = 1) :=
 ⟨fun _ _ _ => rfl, fun l t x k => by simp only [fin, I.plain, if_true, kN], fun _ _ => rfl, fun _ _ _ => rfl, fun _ _ _ => by simp only [cW], fun _ _ _ => by simp only [cm], fun _ _ => rfl⟩
theorem iF : (∀ (s : ax) y, jJ s (.h y []) = FN s y (s y)) ∧ (∀ (s : ax) y aC, FN s y (.agg aC) = if I.dO aC then none else some (.ad y 0, s)) ∧
  (∀ k i ds d, zP (d :: ds) i k = if k = 0 then some i else if d.wd ≤ k then zP ds (i + 1) (k - d.wd) else none) :=
 ⟨fun s y => by simp only [jJ, FN]; cases s y <;> rfl, fun _ _ _ => rfl, fun _ _ _ _ => rfl⟩
theorem AJ {α : Type} {l : List α} {i : Nat} {x : α} (h : l[i]? = some x) (u : α → I) (a : I) : ((l.map u).set i a)[i]? = some a := by
 have : i < l.length := (List.getElem?_eq_some_iff.1 h).1
 rw [List.getElem?_set_self (by simpa using this)]
theorem AK {α : Type} (l : List α) (u : α → I) (i : Nat) (a b : I) : ((l.map u).set i a).set i b = (l.map u).set i b := List.set_set ..
end
end Go.c5
