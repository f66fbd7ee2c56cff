/- Part of a proof that a law returns true for every input. No condition. -/
import Derived.Test.YtbemmmimelklkaaGreatFwH
import Derived.Laws.Externs
import Derived.Lib.Bytealg
namespace Go.dg
theorem aT.wide {C : cn} {f : FuncId} {as : List I} {r iz : I} {outs : List I} (h : aT C f as r outs) (hw : fe r iz) (bh : r.tree = true) (cm : I.d_ outs = []) : aT C f as iz outs := by
 intro w F X S vs hl a7
 refine nf.mono (h w F X S vs hl a7) ?_
 rintro v aS ⟨bV, a1, bB⟩
 have au0 : ∀ (k : Nat) (l : List I), I.d_ ((num k l).map (·.2)) = I.d_ l := by
  intro k l
  induction l generalizing k with
  | nil => rfl
  | cons a l ih => simp only [num, List.map_cons, I.d_, ih]
 have uy : ∀ (k : Nat) (l : List I) (p : Nat × I), p ∈ num k l → ∃ i, l[i]? = some p.2 ∧ p.1 = k + i := by
  intro k l
  induction l generalizing k with
  | nil => intro p ax; cases ax
  | cons a l ih =>
    intro p ax
    rcases List.mem_cons.1 ax with rfl | ax
    ·exact ⟨0, rfl, rfl⟩
    ·obtain ⟨i, ai, aj⟩ := ih (k + 1) p ax
     exact ⟨i + 1, by simpa using ai, by omega⟩
 have zj : I.d_ (iz :: outs) = [] := by
  have : iz.tree = true := hw.tree bh
  simp [I.d_, DL this, cm]
 have Rm : rM (gf (r :: outs)) (num 0 (iz :: outs)) := by
  intro p ax
  obtain ⟨i, ai, aj⟩ := uy 0 _ p ax
  have ar : p.1 = i := by omega
  cases i with
  | zero =>
    simp at ai
    right
    rw [ar, ← ai]
    refine ⟨bh, hw, ?_⟩
    intro cA eQ
    refine .inl fun hm => ?_
    have : cA.2.ah = [] := by
     have key : ∀ (as : List I) (a : I), a ∈ as → I.d_ as = [] → a.ah = [] := by
      intro as
      induction as with
      | nil => intro a h; cases h
      | cons b as ih =>
        intro a h he
        simp only [I.d_, List.append_eq_nil_iff] at he
        rcases List.mem_cons.1 h with rfl | h
        ·exact he.1
        ·exact ih a h he.2
     obtain ⟨j, bc, _⟩ := uy 0 _ cA eQ
     exact key _ _ (List.mem_of_getElem? bc) zj
    rw [this] at hm; cases hm
  | succ i =>
    left
    rw [ar]
    simp only [gf, List.getD]
    simp at ai
    simp [ai]
 obtain ⟨rI, el, aj⟩ := bB.HZ Rm
 refine ⟨rI, el, ?_⟩
 rw [zy]
 exact aj
section
variable {C : cn} {l : List (Nat × I)} {os : List cI} {K : Option (List fD) → au → Prop} {dst : Option Nat}
def o2 (s : au) : List cL → Prop
 | [] => True
 | p :: ps => p.ok s ∧ o2 s ps
theorem zL {s : au} : ∀ {ps : List cL}, o2 s ps → ∀ p ∈ ps, p.ok s
 | p :: ps, h, q, dc => by
   rcases List.mem_cons.1 dc with rfl | dc
   ·exact h.1
   ·exact zL h.2 q dc
def pJ : List cL → Bool
 | [] => true
 | p :: ps => p.o.cW && pJ ps
theorem zM : ∀ {ps : List cL}, pJ ps = true → ∀ p ∈ ps, p.o.cW = true
 | p :: ps, h, q, dc => by
   simp only [pJ, Bool.and_eq_true] at h
   rcases List.mem_cons.1 dc with rfl | dc
   ·exact h.1
   ·exact zM h.2 q dc
theorem Rn {f : aG} {args : List aG} {g : FuncId} {caps : List I} {K : List Nat → I → au → Prop} (ps : List cL) (r : I)
  (ai : aR (aa l) f = .fn g caps) (gg : I.dI caps = true) (aj : ps.map (·.a) = h0 (aa l) args ++ caps) (aP : o2 (aa l) ps) (bb : ib ps = true)
  (b5 : aT C g (ps.map (·.d)) r (ps.map (·.o))) (cF : r.res = true) (cq : jB ps = false ∨ (r.cW && pJ ps) = true) (jc : K (pG ps) r (hK (fb (aa l) ps) ps)) : nk C (aa l) (.call f args) K := by
 refine ⟨g, caps, ps, r, ai, gg, by rw [aj, tT], zL aP, bb, b5, cF, ?_, jc⟩
 intro hl
 rcases cq with cq | cq
 ·rw [cq] at hl; cases hl
 ·rw [Bool.and_eq_true] at cq; exact ⟨cq.1, zM cq.2⟩
theorem Ro {f : aG} {args : List aG} {g : FuncId} {caps : List I} {K : List Nat → I → au → Prop} {us : List Nat} (ps : List cL) (r : I) (aA : k1 (aa l) (i1 (aa l) us) = true)
  (ai : aR (aa l) f = .fn g caps) (gg : I.dI caps = true) (aj : ps.map (·.a) = h0 (aa l) args ++ caps) (aP : o2 (aa l) ps) (bb : ib ps = true)
  (b5 : aT C g (ps.map (·.d)) r (ps.map (·.o))) (cF : r.res = true) (cq : jB ps = false ∨ (r.cW && pJ ps) = true)
  (jc : k1 (hK (fb (aa l) ps) ps) (i1 (aa l) us) = true ∧ K (us ++ pG ps) r (l6 (hK (fb (aa l) ps) ps) (i1 (aa l) us))) : nk C (aa l) (.j1 f args us) K := by
 refine ⟨aA, g, caps, ps, r, ai, gg, by rw [aj, tT], zL aP, bb, b5, cF, ?_, jc⟩
 intro hl
 rcases cq with cq | cq
 ·rw [cq] at hl; cases hl
 ·rw [Bool.and_eq_true] at cq; exact ⟨cq.1, zM cq.2⟩
theorem zN {f : aG} {args : List aG} {g : FuncId} {caps : List I} {r : I} {us : List Nat} (ps : List cL) (b5 : aT C g (ps.map (·.d)) r (ps.map (·.o)))
  (ai : aR (aa l) f = .fn g caps) (gg : I.dI caps = true) (aj : ps.map (·.a) = h0 (aa l) args ++ caps) (aP : o2 (aa l) ps) (bb : ib ps = true)
  (cF : r.res = true) (cq : jB ps = false ∨ (r.cW && pJ ps) = true) (aA : k1 (aa l) (i1 (aa l) us) = true)
  (jc : k1 (hK (fb (aa l) ps) ps) (i1 (aa l) us) = true ∧ cy C (fin (l6 (hK (fb (aa l) ps) ps) (i1 (aa l) us)) dst r) os none K) : cy C (aa l) (⟨dst, .j1 f args us, none⟩ :: os) none K := by
 simp only [cy, mI, oZ]
 exact Ro ps r aA ai gg aj aP bb b5 cF cq jc
theorem qD (s : au) : i1 s [] = [] ∧ (∀ u us, i1 s (u :: us) = (u, s u) :: i1 s us) ∧ k1 s [] = true ∧ (∀ p L, k1 s (p :: L) = (p.2.fP s && k1 s L)) ∧ l6 s [] = s ∧ (∀ p L, l6 s (p :: L) = l6 (dr s p.1 p.2) L) ∧
  (∀ x, I.fP s (.h x []) = (s x).own) ∧ (∀ x k, I.fP s (.ae x k) = !(s x).plain) ∧ (∀ f c, I.fP s (.fn f c) = I.nh s c) ∧ I.nh s [] = true ∧ (∀ d ds, I.nh s (d :: ds) = (d.fP s && I.nh s ds)) ∧
  (∀ k n, I.fP s (.int k n) = true) ∧ (∀ b, I.fP s (.bool b) = true) ∧ (∀ x, I.fP s (.str x) = true) ∧ (∀ x, I.fP s (.slice x) = true) ∧ (∀ x, I.fP s (.ref x) = true) ∧ I.fP s .bg = true ∧ I.fP s .dC = true ∧ (∀ aB, I.fP s (.agg aB) = I.dI aB) :=
 ⟨rfl, fun _ _ => rfl, rfl, fun _ _ => rfl, rfl, fun _ _ => rfl, fun _ => rfl, fun _ _ => rfl, fun _ _ => rfl, rfl, fun _ _ => rfl, fun _ _ => rfl, fun _ => rfl, fun _ => rfl, fun _ => rfl, fun _ => rfl, rfl, rfl, fun _ => rfl⟩
theorem qE {f : aG} {args : List aG} {g : FuncId} {caps : List I} {r : I} (ps : List cL) (b5 : aT C g (ps.map (·.d)) r (ps.map (·.o)))
  (ai : aR (aa l) f = .fn g caps) (gg : I.dI caps = true) (aj : ps.map (·.a) = h0 (aa l) args ++ caps) (aP : o2 (aa l) ps) (bb : ib ps = true)
  (cF : r.res = true) (cq : jB ps = false ∨ (r.cW && pJ ps) = true)
  (jc : cy C (fin (hK (fb (aa l) ps) ps) dst r) os none K) : cy C (aa l) (⟨dst, .call f args, none⟩ :: os) none K := by
 simp only [cy, mI, oZ]
 exact Rn ps r ai gg aj aP bb b5 cF cq jc
theorem mc (s : au) : o2 s [] = True ∧ (∀ p ps, o2 s (p :: ps) = (p.ok s ∧ o2 s ps)) ∧ (∀ a d o, cL.ok s ⟨a, false, d, o⟩ = (view s a = some d)) ∧
  (∀ x q d o, cL.ok s ⟨.h x q, true, d, o⟩ = (I.sub q (s x) = some d ∧ d.gD = true ∧ (o = .hole ∨ (o.gD = true ∧ rF d o = true)))) := by
 refine ⟨rfl, fun _ _ => rfl, fun _ _ _ => ?_, fun _ _ _ _ => ?_⟩ <;> simp [cL.ok]
theorem jr : (∀ d, I.own (.a8 d) = true) ∧ (∀ n xs, I.own (.aw n xs) = true) ∧ (∀ d, I.gD (.a8 d) = true) ∧ (∀ n xs, I.gD (.aw n xs) = true) ∧ (∀ aB, I.gD (.agg aB) = !I.dI aB) ∧
  (∀ d e, rF (.a8 d) (.a8 e) = true) ∧ (∀ n xs m c4, rF (.aw n xs) (.aw m c4) = true) ∧ (∀ a b, rF (.agg a) (.agg b) = (I.ev a == I.ev b)) := ⟨fun _ => rfl, fun _ _ => rfl, fun _ => rfl, fun _ _ => rfl, fun _ => rfl, fun _ _ => rfl, fun _ _ _ _ => rfl, fun _ _ => rfl⟩
theorem me (s : au) : fb s [] = s ∧ hK s [] = s ∧ (∀ p ps, fb s (p :: ps) = fb (cL.take s p) ps) ∧ (∀ p ps, hK s (p :: ps) = hK (cL.iZ s p) ps) ∧
  (∀ a d o, cL.take s ⟨a, false, d, o⟩ = s) ∧ (∀ a d o, cL.iZ s ⟨a, false, d, o⟩ = s) ∧ (∀ x q d o, cL.take s ⟨.h x q, true, d, o⟩ = dr (iJ x s) x (I.put q d.dh (s x))) ∧
  (∀ a d, cL.iZ s ⟨a, true, d, .hole⟩ = s) ∧ (∀ x q d e, cL.iZ s ⟨.h x q, true, d, .a8 e⟩ = dr (ly x s) x (I.put q (.a8 e) (s x))) ∧
  (∀ x q d n xs, cL.iZ s ⟨.h x q, true, d, .aw n xs⟩ = dr (ly x s) x (I.put q (.aw n xs) (s x))) ∧
  (∀ x q d aB, cL.iZ s ⟨.h x q, true, d, .agg aB⟩ = dr (ly x s) x (I.put q (.agg aB) (s x))) := by
 refine ⟨rfl, rfl, fun _ _ => rfl, fun _ _ => rfl, ?_, ?_, ?_, ?_, ?_, ?_, ?_⟩ <;> intros <;> simp [cL.take, cL.iZ]
def qF (s : au) (fx rs : List Nat) : Nat → List I → Bool → Prop
 | _, [], _ => True
 | k, o :: r, b => (o = .hole ∨ (o = s k ∧ o.gD = true ∧ fx.contains k = true ∧ rs.contains k = false)) ∧ qF s fx rs (k + 1) r b
theorem n6 {s : au} {fx : List Nat} {gN : List ResultVar} {outs : List I} (h : qF s fx (gN.map jH) 0 outs true) : ∀ (i : Nat) (o : I), outs[i]? = some o → o = .hole ∨ (o = s i ∧ o.gD = true ∧ i ∈ fx ∧ i ∉ gN.map jH) := by
 have key : ∀ (outs : List I) (k : Nat), qF s fx (gN.map jH) k outs true → ∀ (i : Nat) (o : I), outs[i]? = some o → o = .hole ∨ (o = s (k + i) ∧ o.gD = true ∧ k + i ∈ fx ∧ k + i ∉ gN.map jH) := by
  intro outs
  induction outs with
  | nil => intro k _ i o h; simp at h
  | cons a outs ih =>
    intro k h i o cm
    cases i with
    | zero =>
      simp at cm; subst cm
      rcases h.1 with h | ⟨ai, aj, aP, bb⟩
      ·exact .inl h
      ·exact .inr ⟨ai, aj, by simpa using aP, by simpa using bb⟩
    | succ i =>
      have := ih (k + 1) h.2 i o (by simpa using cm)
      rw [show k + (i + 1) = k + 1 + i by omega]; exact this
 intro i o cm
 have := key outs 0 h i o cm
 simpa using this
theorem mf {s : au} {fx rs : List Nat} {k : Nat} {l : List I} (h : qF s fx rs (k + 1) l true) : qF s fx rs k (.hole :: l) true := ⟨.inl rfl, h⟩
theorem n7 {s : au} {fx rs : List Nat} {k : Nat} {o : I} {l : List I} (ai : o = s k) (aj : o.gD = true) (aP : fx.contains k = true) (bb : rs.contains k = false) (h : qF s fx rs (k + 1) l true) : qF s fx rs k (o :: l) true := ⟨.inr ⟨ai, aj, aP, bb⟩, h⟩
theorem n8 {s : au} {fx rs : List Nat} {k : Nat} : qF s fx rs k [] true := trivial
theorem kl {Q : Exit → au → Prop} {ros : List cI} {k : List Nat} {b : R} (h : cy C (aa l) ros none (fun _ s => eA (dj C b Q) (aa (iR k s)))) : dj C (.seq (.U ros (some k)) b) Q (aa l) := rS (fun _ _ h => h) h
theorem Rp {K : au → Prop} {s : au} (ed : List (Nat × I)) (h : rM s ed) (aE : K (aa ed)) : eA K s := .inr ⟨ed, h, aE⟩
theorem Ex {d e : I} (bh : d.tree = true) (bd : d.D_ = false) (h : d.share = e) : fe d e := by
 subst h
 exact .share d bh (fun vs e => by subst e; cases bd)
theorem aT.nil {C : cn} {f : FuncId} {args : List I} {r : I} {outs : List I} (i : Nat) (h : aT C f (args.set i (.slice [])) r outs) (ar : args[i]? = some .bg) : aT C f args r outs := by
 intro w F X S vs hl a7
 have i0 := a7.en i
 have ah : gf args i = .bg := by simp [gf, List.getD, ar]
 rw [ah] at i0
 have a2 : aV w F (gf args) (hL vs) (.slice []) (hL vs i) (fun _ => False) := by
  rw [aV.da rfl] at i0 ⊢
  refine ⟨i0.1, ?_⟩
  have aj := i0.2
  simp only [aC] at aj ⊢
  exact .inl ⟨trivial, none, 0, aj, Nat.zero_le _, fun _ => rfl⟩
 have aj := a7.tm (t := i) rfl a2
 have a4 : dr (gf args) i (.slice []) = gf (args.set i (.slice [])) := by
  funext t
  have fy : i < args.length := (List.getElem?_eq_some_iff.1 ar).1
  by_cases bh : t = i
  ·subst bh; simp [dr, gf, List.getD, fy]
  ·have : i ≠ t := fun e => bh e.symm
   simp [dr, bh, gf, List.getD, this]
 have a_ : dr (hL vs) i (hL vs i) = hL vs := by
  funext t
  by_cases bh : t = i
  ·subst bh; simp [dr]
  ·simp [dr, bh]
 rw [a4, a_] at aj
 exact h w F X _ vs (by simpa using hl) aj
theorem Jq {α : Type} {u e : α → I} (h : ∀ x, fe (u x) (e x)) : ∀ xs : List α, jE (xs.map u) (xs.map e)
 | [] => .nil
 | x :: xs => .cons (h x) (Jq h xs)
def Ey (s : au) (y : Nat) : I → Option (I × au)
 | .agg ds => if I.dI ds then none else some (.ae y 0, s)
 | _ => none
theorem iA {C : cn} {l : List (Nat × I)} {os : List cI} {K : Option (List fD) → au → Prop} {dst : Option Nat} (T : TypeId) (x : aG) :
  cy C (aa l) (⟨dst, .jz T x, none⟩ :: os) none K = dQ C dst os K (jz (aa l) (aR (aa l) x)) := jd rfl
theorem iB : (∀ (t x k : Nat), iY t (.ae x k) = .ae x k) ∧ (∀ (l : List (Nat × I)) (t x k : Nat), fin (aa l) (some t) (.ae x k) = aa ((t, .ae x k) :: l)) ∧ (∀ x k : Nat, I.plain (.ae x k) = true) ∧
  (∀ (s : au) (x k : Nat), i2 s (.ae x k) = some (.ae x k, s)) ∧ (∀ (t y k : Nat), cP t (.ae y k) = if y = t then .hole else .ae y k) ∧ (∀ (t y k : Nat), cc t (.ae y k) = .ae y k) ∧ (∀ x k : Nat, I.wd (.ae x k) = 1) :=
 ⟨fun _ _ _ => rfl, fun l t x k => by simp only [fin, I.plain, if_true, kH], fun _ _ => rfl, fun _ _ _ => rfl, fun _ _ _ => by simp only [cP], fun _ _ _ => by simp only [cc], fun _ _ => rfl⟩
theorem iC : (∀ (s : au) y, jz s (.h y []) = Ey s y (s y)) ∧ (∀ (s : au) y aB, Ey s y (.agg aB) = if I.dI aB then none else some (.ae y 0, s)) ∧
  (∀ k i ds d, yY (d :: ds) i k = if k = 0 then some i else if d.wd ≤ k then yY ds (i + 1) (k - d.wd) else none) :=
 ⟨fun s y => by simp only [jz, Ey]; cases s y <;> rfl, fun _ _ _ => rfl, fun _ _ _ _ => rfl⟩
theorem wE {α : Type} {l : List α} {i : Nat} {x : α} (h : l[i]? = some x) (u : α → I) (a : I) : ((l.map u).set i a)[i]? = some a := by
 have : i < l.length := (List.getElem?_eq_some_iff.1 h).1
 rw [List.getElem?_set_self (by simpa using this)]
theorem wF {α : Type} (l : List α) (u : α → I) (i : Nat) (a b : I) : ((l.map u).set i a).set i b = (l.map u).set i b := List.set_set ..
end
end Go.dg
