/- Part of a proof that a law returns true for every input. No condition. -/
import Derived.Test.YtbemmmimelklkaaGreatFwH
import Derived.Laws.Externs
import Derived.Lib.Bytealg
namespace Go.dk
theorem aR.wide {C : ck} {f : FuncId} {as : List I} {r iu : I} {outs : List I} (h : aR C f as r outs) (hw : fi r iu) (bh : r.tree = true) (cm : I.ea outs = []) : aR C f as iu outs := by
 intro w F X S vs hl a7
 refine m4.mono (h w F X S vs hl a7) ?_
 rintro v aU ⟨b0, a1, bD⟩
 have auY : ∀ (k : Nat) (l : List I), I.ea ((num k l).map (·.2)) = I.ea l := by
  intro k l
  induction l generalizing k with
  | nil => rfl
  | cons a l ih => simp only [num, List.map_cons, I.ea, ih]
 have ub : ∀ (k : Nat) (l : List I) (p : Nat × I), p ∈ num k l → ∃ i, l[i]? = some p.2 ∧ p.1 = k + i := by
  intro k l
  induction l generalizing k with
  | nil => intro p ax; cases ax
  | cons a l ih =>
    intro p ax
    rcases List.mem_cons.1 ax with rfl | ax
    ·exact ⟨0, rfl, rfl⟩
    ·obtain ⟨i, ai, aj⟩ := ih (k + 1) p ax
     exact ⟨i + 1, by simpa using ai, by omega⟩
 have yR : I.ea (iu :: outs) = [] := by
  have : iu.tree = true := hw.tree bh
  simp [I.ea, Dl this, cm]
 have QX : rn (gd (r :: outs)) (num 0 (iu :: outs)) := by
  intro p ax
  obtain ⟨i, ai, aj⟩ := ub 0 _ p ax
  have au : p.1 = i := by omega
  cases i with
  | zero =>
    simp at ai
    right
    rw [au, ← ai]
    refine ⟨bh, hw, ?_⟩
    intro cz eP
    refine .inl fun hm => ?_
    have : cz.2.ah = [] := by
     have key : ∀ (as : List I) (a : I), a ∈ as → I.ea as = [] → a.ah = [] := by
      intro as
      induction as with
      | nil => intro a h; cases h
      | cons b as ih =>
        intro a h he
        simp only [I.ea, List.append_eq_nil_iff] at he
        rcases List.mem_cons.1 h with rfl | h
        ·exact he.1
        ·exact ih a h he.2
     obtain ⟨j, bf, _⟩ := ub 0 _ cz eP
     exact key _ _ (List.mem_of_getElem? bf) yR
    rw [this] at hm; cases hm
  | succ i =>
    left
    rw [au]
    simp only [gd, List.getD]
    simp at ai
    simp [ai]
 obtain ⟨rj, et, aj⟩ := bD.HC QX
 refine ⟨rj, et, ?_⟩
 rw [y5]
 exact aj
section
variable {C : ck} {l : List (Nat × I)} {os : List cK} {K : Option (List fF) → ar → Prop} {dst : Option Nat}
def oS (s : ar) : List cM → Prop
 | [] => True
 | p :: ps => p.ok s ∧ oS s ps
theorem zh {s : ar} : ∀ {ps : List cM}, oS s ps → ∀ p ∈ ps, p.ok s
 | p :: ps, h, q, dd => by
   rcases List.mem_cons.1 dd with rfl | dd
   ·exact h.1
   ·exact zh h.2 q dd
def pv : List cM → Bool
 | [] => true
 | p :: ps => p.o.cW && pv ps
theorem zi : ∀ {ps : List cM}, pv ps = true → ∀ p ∈ ps, p.o.cW = true
 | p :: ps, h, q, dd => by
   simp only [pv, Bool.and_eq_true] at h
   rcases List.mem_cons.1 dd with rfl | dd
   ·exact h.1
   ·exact zi h.2 q dd
theorem QY {f : aI} {args : List aI} {g : FuncId} {caps : List I} {K : List Nat → I → ar → Prop} (ps : List cM) (r : I)
  (ai : aS (aa l) f = .fn g caps) (gf : I.dI caps = true) (aj : ps.map (·.a) = hX (aa l) args ++ caps) (aQ : oS (aa l) ps) (bd : h9 ps = true)
  (b3 : aR C g (ps.map (·.d)) r (ps.map (·.o))) (cG : r.res = true) (cp : jx ps = false ∨ (r.cW && pv ps) = true) (i_ : K (pt ps) r (hH (fg (aa l) ps) ps)) : m9 C (aa l) (.call f args) K := by
 refine ⟨g, caps, ps, r, ai, gf, by rw [aj, tw], zh aQ, bd, b3, cG, ?_, i_⟩
 intro hl
 rcases cp with cp | cp
 ·rw [cp] at hl; cases hl
 ·rw [Bool.and_eq_true] at cp; exact ⟨cp.1, zi cp.2⟩
theorem QZ {f : aI} {args : List aI} {g : FuncId} {caps : List I} {K : List Nat → I → ar → Prop} {us : List Nat} (ps : List cM) (r : I) (aC : kS (aa l) (iZ (aa l) us) = true)
  (ai : aS (aa l) f = .fn g caps) (gf : I.dI caps = true) (aj : ps.map (·.a) = hX (aa l) args ++ caps) (aQ : oS (aa l) ps) (bd : h9 ps = true)
  (b3 : aR C g (ps.map (·.d)) r (ps.map (·.o))) (cG : r.res = true) (cp : jx ps = false ∨ (r.cW && pv ps) = true)
  (i_ : kS (hH (fg (aa l) ps) ps) (iZ (aa l) us) = true ∧ K (us ++ pt ps) r (lW (hH (fg (aa l) ps) ps) (iZ (aa l) us))) : m9 C (aa l) (.jX f args us) K := by
 refine ⟨aC, g, caps, ps, r, ai, gf, by rw [aj, tw], zh aQ, bd, b3, cG, ?_, i_⟩
 intro hl
 rcases cp with cp | cp
 ·rw [cp] at hl; cases hl
 ·rw [Bool.and_eq_true] at cp; exact ⟨cp.1, zi cp.2⟩
theorem zj {f : aI} {args : List aI} {g : FuncId} {caps : List I} {r : I} {us : List Nat} (ps : List cM) (b3 : aR C g (ps.map (·.d)) r (ps.map (·.o)))
  (ai : aS (aa l) f = .fn g caps) (gf : I.dI caps = true) (aj : ps.map (·.a) = hX (aa l) args ++ caps) (aQ : oS (aa l) ps) (bd : h9 ps = true)
  (cG : r.res = true) (cp : jx ps = false ∨ (r.cW && pv ps) = true) (aC : kS (aa l) (iZ (aa l) us) = true)
  (i_ : kS (hH (fg (aa l) ps) ps) (iZ (aa l) us) = true ∧ cv C (fin (lW (hH (fg (aa l) ps) ps) (iZ (aa l) us)) dst r) os none K) : cv C (aa l) (⟨dst, .jX f args us, none⟩ :: os) none K := by
 simp only [cv, my, oM]
 exact QZ ps r aC ai gf aj aQ bd b3 cG cp i_
theorem qh (s : ar) : iZ s [] = [] ∧ (∀ u us, iZ s (u :: us) = (u, s u) :: iZ s us) ∧ kS s [] = true ∧ (∀ p L, kS s (p :: L) = (p.2.fT s && kS s L)) ∧ lW s [] = s ∧ (∀ p L, lW s (p :: L) = lW (dt s p.1 p.2) L) ∧
  (∀ x, I.fT s (.h x []) = (s x).own) ∧ (∀ x k, I.fT s (.ae x k) = !(s x).plain) ∧ (∀ f c, I.fT s (.fn f c) = I.m6 s c) ∧ I.m6 s [] = true ∧ (∀ d ds, I.m6 s (d :: ds) = (d.fT s && I.m6 s ds)) ∧
  (∀ k n, I.fT s (.int k n) = true) ∧ (∀ b, I.fT s (.bool b) = true) ∧ (∀ x, I.fT s (.str x) = true) ∧ (∀ x, I.fT s (.slice x) = true) ∧ (∀ x, I.fT s (.ref x) = true) ∧ I.fT s .bc = true ∧ I.fT s .dC = true ∧ (∀ az, I.fT s (.agg az) = I.dI az) :=
 ⟨rfl, fun _ _ => rfl, rfl, fun _ _ => rfl, rfl, fun _ _ => rfl, fun _ => rfl, fun _ _ => rfl, fun _ _ => rfl, rfl, fun _ _ => rfl, fun _ _ => rfl, fun _ => rfl, fun _ => rfl, fun _ => rfl, fun _ => rfl, rfl, rfl, fun _ => rfl⟩
theorem qi {f : aI} {args : List aI} {g : FuncId} {caps : List I} {r : I} (ps : List cM) (b3 : aR C g (ps.map (·.d)) r (ps.map (·.o)))
  (ai : aS (aa l) f = .fn g caps) (gf : I.dI caps = true) (aj : ps.map (·.a) = hX (aa l) args ++ caps) (aQ : oS (aa l) ps) (bd : h9 ps = true)
  (cG : r.res = true) (cp : jx ps = false ∨ (r.cW && pv ps) = true)
  (i_ : cv C (fin (hH (fg (aa l) ps) ps) dst r) os none K) : cv C (aa l) (⟨dst, .call f args, none⟩ :: os) none K := by
 simp only [cv, my, oM]
 exact QY ps r ai gf aj aQ bd b3 cG cp i_
theorem l4 (s : ar) : oS s [] = True ∧ (∀ p ps, oS s (p :: ps) = (p.ok s ∧ oS s ps)) ∧ (∀ a d o, cM.ok s ⟨a, false, d, o⟩ = (view s a = some d)) ∧
  (∀ x q d o, cM.ok s ⟨.h x q, true, d, o⟩ = (I.sub q (s x) = some d ∧ d.gA = true ∧ (o = .hole ∨ (o.gA = true ∧ rh d o = true)))) := by
 refine ⟨rfl, fun _ _ => rfl, fun _ _ _ => ?_, fun _ _ _ _ => ?_⟩ <;> simp [cM.ok]
theorem jo : (∀ d, I.own (.a8 d) = true) ∧ (∀ n xs, I.own (.aw n xs) = true) ∧ (∀ d, I.gA (.a8 d) = true) ∧ (∀ n xs, I.gA (.aw n xs) = true) ∧ (∀ az, I.gA (.agg az) = !I.dI az) ∧
  (∀ d e, rh (.a8 d) (.a8 e) = true) ∧ (∀ n xs m c7, rh (.aw n xs) (.aw m c7) = true) ∧ (∀ a b, rh (.agg a) (.agg b) = (I.ez a == I.ez b)) := ⟨fun _ => rfl, fun _ _ => rfl, fun _ => rfl, fun _ _ => rfl, fun _ => rfl, fun _ _ => rfl, fun _ _ _ _ => rfl, fun _ _ => rfl⟩
theorem l5 (s : ar) : fg s [] = s ∧ hH s [] = s ∧ (∀ p ps, fg s (p :: ps) = fg (cM.take s p) ps) ∧ (∀ p ps, hH s (p :: ps) = hH (cM.iX s p) ps) ∧
  (∀ a d o, cM.take s ⟨a, false, d, o⟩ = s) ∧ (∀ a d o, cM.iX s ⟨a, false, d, o⟩ = s) ∧ (∀ x q d o, cM.take s ⟨.h x q, true, d, o⟩ = dt (iG x s) x (I.put q d.di (s x))) ∧
  (∀ a d, cM.iX s ⟨a, true, d, .hole⟩ = s) ∧ (∀ x q d e, cM.iX s ⟨.h x q, true, d, .a8 e⟩ = dt (lo x s) x (I.put q (.a8 e) (s x))) ∧
  (∀ x q d n xs, cM.iX s ⟨.h x q, true, d, .aw n xs⟩ = dt (lo x s) x (I.put q (.aw n xs) (s x))) ∧
  (∀ x q d az, cM.iX s ⟨.h x q, true, d, .agg az⟩ = dt (lo x s) x (I.put q (.agg az) (s x))) := by
 refine ⟨rfl, rfl, fun _ _ => rfl, fun _ _ => rfl, ?_, ?_, ?_, ?_, ?_, ?_, ?_⟩ <;> intros <;> simp [cM.take, cM.iX]
def qj (s : ar) (fx rs : List Nat) : Nat → List I → Bool → Prop
 | _, [], _ => True
 | k, o :: r, b => (o = .hole ∨ (o = s k ∧ o.gA = true ∧ fx.contains k = true ∧ rs.contains k = false)) ∧ qj s fx rs (k + 1) r b
theorem nU {s : ar} {fx : List Nat} {gR : List ResultVar} {outs : List I} (h : qj s fx (gR.map jD) 0 outs true) : ∀ (i : Nat) (o : I), outs[i]? = some o → o = .hole ∨ (o = s i ∧ o.gA = true ∧ i ∈ fx ∧ i ∉ gR.map jD) := by
 have key : ∀ (outs : List I) (k : Nat), qj s fx (gR.map jD) k outs true → ∀ (i : Nat) (o : I), outs[i]? = some o → o = .hole ∨ (o = s (k + i) ∧ o.gA = true ∧ k + i ∈ fx ∧ k + i ∉ gR.map jD) := by
  intro outs
  induction outs with
  | nil => intro k _ i o h; simp at h
  | cons a outs ih =>
    intro k h i o cm
    cases i with
    | zero =>
      simp at cm; subst cm
      rcases h.1 with h | ⟨ai, aj, aQ, bd⟩
      ·exact .inl h
      ·exact .inr ⟨ai, aj, by simpa using aQ, by simpa using bd⟩
    | succ i =>
      have := ih (k + 1) h.2 i o (by simpa using cm)
      rw [show k + (i + 1) = k + 1 + i by omega]; exact this
 intro i o cm
 have := key outs 0 h i o cm
 simpa using this
theorem l6 {s : ar} {fx rs : List Nat} {k : Nat} {l : List I} (h : qj s fx rs (k + 1) l true) : qj s fx rs k (.hole :: l) true := ⟨.inl rfl, h⟩
theorem nV {s : ar} {fx rs : List Nat} {k : Nat} {o : I} {l : List I} (ai : o = s k) (aj : o.gA = true) (aQ : fx.contains k = true) (bd : rs.contains k = false) (h : qj s fx rs (k + 1) l true) : qj s fx rs k (o :: l) true := ⟨.inr ⟨ai, aj, aQ, bd⟩, h⟩
theorem nW {s : ar} {fx rs : List Nat} {k : Nat} : qj s fx rs k [] true := trivial
theorem kf {Q : Exit → ar → Prop} {ros : List cK} {k : List Nat} {b : R} (h : cv C (aa l) ros none (fun _ s => eE (db C b Q) (aa (iv k s)))) : db C (.seq (.U ros (some k)) b) Q (aa l) := ry (fun _ _ h => h) h
theorem Q0 {K : ar → Prop} {s : ar} (ei : List (Nat × I)) (h : rn s ei) (aE : K (aa ei)) : eE K s := .inr ⟨ei, h, aE⟩
theorem D7 {d e : I} (bh : d.tree = true) (bg : d.DK = false) (h : d.share = e) : fi d e := by
 subst h
 exact .share d bh (fun vs e => by subst e; cases bg)
theorem zk : (∀ neg e r, qe neg (.slice e) (some r) = some (nD neg r)) ∧ (∀ neg, nD neg none = .e7) ∧ nD false (some false) = .bool false ∧ nD true (some false) = .bool true ∧ nD false (some true) = .bool true ∧ nD true (some true) = .bool false ∧ (∀ s, jl s .bc = some (some true)) :=
 ⟨fun _ _ _ => rfl, fun _ => rfl, rfl, rfl, rfl, rfl, fun _ => rfl⟩
theorem I6 {α : Type} {xs : List α} (h : xs.isEmpty = true) (e : α → I) (s : ar) : jl s (.slice (xs.map e)) = some none := by
 have : xs = [] := List.isEmpty_iff.1 h
 subst this; rfl
theorem I7 {α : Type} {xs : List α} (h : xs.isEmpty = false) (e : α → I) (s : ar) : jl s (.slice (xs.map e)) = some (some false) := by
 cases xs with
 | nil => cases h
 | cons x xs => rfl
def Q1 : Option I → Option (Option Bool)
 | some (.aw _ xs) => some (if xs = [] then none else some false)
 | _ => none
theorem zl (s : ar) (x : Nat) (q : List Nat) : jl s (.h x q) = Q1 (I.sub q (s x)) := by
 simp only [jl]; rfl
theorem aR.nil {C : ck} {f : FuncId} {args : List I} {r : I} {outs : List I} (i : Nat) (h : aR C f (args.set i (.slice [])) r outs) (au : args[i]? = some .bc) : aR C f args r outs := by
 intro w F X S vs hl a7
 have iY := a7.eu i
 have ah : gd args i = .bc := by simp [gd, List.getD, au]
 rw [ah] at iY
 have a3 : aW w F (gd args) (hI vs) (.slice []) (hI vs i) (fun _ => False) := by
  rw [aW.da rfl] at iY ⊢
  refine ⟨iY.1, ?_⟩
  have aj := iY.2
  simp only [aB] at aj ⊢
  exact .inl ⟨trivial, none, 0, aj, Nat.zero_le _, fun _ => rfl⟩
 have aj := a7.sZ (t := i) rfl a3
 have a4 : dt (gd args) i (.slice []) = gd (args.set i (.slice [])) := by
  funext t
  have fz : i < args.length := (List.getElem?_eq_some_iff.1 au).1
  by_cases bh : t = i
  ·subst bh; simp [dt, gd, List.getD, fz]
  ·have : i ≠ t := fun e => bh e.symm
   simp [dt, bh, gd, List.getD, this]
 have a_ : dt (hI vs) i (hI vs i) = hI vs := by
  funext t
  by_cases bh : t = i
  ·subst bh; simp [dt]
  ·simp [dt, bh]
 rw [a4, a_] at aj
 exact h w F X _ vs (by simpa using hl) aj
theorem I8 {α : Type} {u e : α → I} (h : ∀ x, fi (u x) (e x)) : ∀ xs : List α, jA (xs.map u) (xs.map e)
 | [] => .nil
 | x :: xs => .cons (h x) (I8 h xs)
def D8 (s : ar) (y : Nat) : I → Option (I × ar)
 | .agg ds => if I.dI ds then none else some (.ae y 0, s)
 | _ => none
theorem ix {C : ck} {l : List (Nat × I)} {os : List cK} {K : Option (List fF) → ar → Prop} {dst : Option Nat} (T : TypeId) (x : aI) :
  cv C (aa l) (⟨dst, .ju T x, none⟩ :: os) none K = dP C dst os K (ju (aa l) (aS (aa l) x)) := ja rfl
theorem iy : (∀ (t x k : Nat), iV t (.ae x k) = .ae x k) ∧ (∀ (l : List (Nat × I)) (t x k : Nat), fin (aa l) (some t) (.ae x k) = aa ((t, .ae x k) :: l)) ∧ (∀ x k : Nat, I.plain (.ae x k) = true) ∧
  (∀ (s : ar) (x k : Nat), i0 s (.ae x k) = some (.ae x k, s)) ∧ (∀ (t y k : Nat), cO t (.ae y k) = if y = t then .hole else .ae y k) ∧ (∀ (t y k : Nat), cc t (.ae y k) = .ae y k) ∧ (∀ x k : Nat, I.wd (.ae x k) = 1) :=
 ⟨fun _ _ _ => rfl, fun l t x k => by simp only [fin, I.plain, if_true, kD], fun _ _ => rfl, fun _ _ _ => rfl, fun _ _ _ => by simp only [cO], fun _ _ _ => by simp only [cc], fun _ _ => rfl⟩
theorem iz : (∀ (s : ar) y, ju s (.h y []) = D8 s y (s y)) ∧ (∀ (s : ar) y az, D8 s y (.agg az) = if I.dI az then none else some (.ae y 0, s)) ∧
  (∀ k i ds d, yu (d :: ds) i k = if k = 0 then some i else if d.wd ≤ k then yu ds (i + 1) (k - d.wd) else none) :=
 ⟨fun s y => by simp only [ju, D8]; cases s y <;> rfl, fun _ _ _ => rfl, fun _ _ _ _ => rfl⟩
theorem v3 {α : Type} {l : List α} {i : Nat} {x : α} (h : l[i]? = some x) (u : α → I) (a : I) : ((l.map u).set i a)[i]? = some a := by
 have : i < l.length := (List.getElem?_eq_some_iff.1 h).1
 rw [List.getElem?_set_self (by simpa using this)]
theorem v5 {α : Type} (l : List α) (u : α → I) (i : Nat) (a b : I) : ((l.map u).set i a).set i b = (l.map u).set i b := List.set_set ..
end
end Go.dk
