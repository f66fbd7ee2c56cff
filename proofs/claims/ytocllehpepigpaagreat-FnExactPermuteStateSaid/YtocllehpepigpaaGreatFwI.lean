/- Part of a proof that a law returns true for every input. No condition. -/
import Derived.Test.YtocllehpepigpaaGreatFwH
import Derived.Laws.Externs
import Derived.Lib.Bytealg
namespace Go.dg
section
variable {C : cE} {l : List (Nat × I)} {os : List cm} {K : Option (List gb) → ar → Prop} {dst : Option Nat}
def pV (s : ar) : List c5 → Prop
 | [] => True
 | p :: ps => p.ok s ∧ pV s ps
theorem A1 {s : ar} : ∀ {ps : List c5}, pV s ps → ∀ p ∈ ps, p.ok s
 | p :: ps, h, q, c4 => by
   rcases List.mem_cons.1 c4 with rfl | c4
   ·exact h.1
   ·exact A1 h.2 q c4
def qz : List c5 → Bool
 | [] => true
 | p :: ps => p.o.de && qz ps
theorem A2 : ∀ {ps : List c5}, qz ps = true → ∀ p ∈ ps, p.o.de = true
 | p :: ps, h, q, c4 => by
   simp only [qz, Bool.and_eq_true] at h
   rcases List.mem_cons.1 c4 with rfl | c4
   ·exact h.1
   ·exact A2 h.2 q c4
theorem UD {f : aI} {args : List aI} {g : FuncId} {caps : List I} {K : List Nat → I → ar → Prop} (ps : List c5) (r : I)
  (ae : aP (aa l) f = .fn g caps) (gQ : I.ed caps = true) (ah : ps.map (·.a) = iB (aa l) args ++ caps) (aH : pV (aa l) ps) (a6 : iP ps = true)
  (bN : bm C g (ps.map (·.d)) r (ps.map (·.o))) (cW : r.res = true) (cI : kf ps = false ∨ (r.de && qz ps) = true) (jN : K (qx ps) r (ia (fB (aa l) ps) ps)) : n_ C (aa l) (.call f args) K := by
 refine ⟨g, caps, ps, r, ae, gQ, by rw [ah, u_], A1 aH, a6, bN, cW, ?_, jN⟩
 intro hl
 rcases cI with cI | cI
 ·rw [cI] at hl; cases hl
 ·rw [Bool.and_eq_true] at cI; exact ⟨cI.1, A2 cI.2⟩
theorem UE {f : aI} {args : List aI} {g : FuncId} {caps : List I} {K : List Nat → I → ar → Prop} {us : List Nat} (ps : List c5) (r : I) (aq : lM (aa l) (jF (aa l) us) = true)
  (ae : aP (aa l) f = .fn g caps) (gQ : I.ed caps = true) (ah : ps.map (·.a) = iB (aa l) args ++ caps) (aH : pV (aa l) ps) (a6 : iP ps = true)
  (bN : bm C g (ps.map (·.d)) r (ps.map (·.o))) (cW : r.res = true) (cI : kf ps = false ∨ (r.de && qz ps) = true)
  (jN : lM (ia (fB (aa l) ps) ps) (jF (aa l) us) = true ∧ K (us ++ qx ps) r (mR (ia (fB (aa l) ps) ps) (jF (aa l) us))) : n_ C (aa l) (.kz f args us) K := by
 refine ⟨aq, g, caps, ps, r, ae, gQ, by rw [ah, u_], A1 aH, a6, bN, cW, ?_, jN⟩
 intro hl
 rcases cI with cI | cI
 ·rw [cI] at hl; cases hl
 ·rw [Bool.and_eq_true] at cI; exact ⟨cI.1, A2 cI.2⟩
theorem A3 {f : aI} {args : List aI} {g : FuncId} {caps : List I} {r : I} {us : List Nat} (ps : List c5) (bN : bm C g (ps.map (·.d)) r (ps.map (·.o)))
  (ae : aP (aa l) f = .fn g caps) (gQ : I.ed caps = true) (ah : ps.map (·.a) = iB (aa l) args ++ caps) (aH : pV (aa l) ps) (a6 : iP ps = true)
  (cW : r.res = true) (cI : kf ps = false ∨ (r.de && qz ps) = true) (aq : lM (aa l) (jF (aa l) us) = true)
  (jN : lM (ia (fB (aa l) ps) ps) (jF (aa l) us) = true ∧ cT C (fin (mR (ia (fB (aa l) ps) ps) (jF (aa l) us)) dst r) os none K) : cT C (aa l) (⟨dst, .kz f args us, none⟩ :: os) none K := by
 simp only [cT, nu, pU]
 exact UE ps r aq ae gQ ah aH a6 bN cW cI jN
theorem rH (s : ar) : jF s [] = [] ∧ (∀ u us, jF s (u :: us) = (u, s u) :: jF s us) ∧ lM s [] = true ∧ (∀ p L, lM s (p :: L) = (p.2.gk s && lM s L)) ∧ mR s [] = s ∧ (∀ p L, mR s (p :: L) = mR (dM s p.1 p.2) L) ∧
  (∀ x, I.gk s (.h x []) = (s x).own) ∧ (∀ x k, I.gk s (.ad x k) = !(s x).plain) ∧ (∀ f c, I.gk s (.fn f c) = I.n6 s c) ∧ I.n6 s [] = true ∧ (∀ d ds, I.n6 s (d :: ds) = (d.gk s && I.n6 s ds)) ∧
  (∀ k n, I.gk s (.int k n) = true) ∧ (∀ b, I.gk s (.bool b) = true) ∧ (∀ x, I.gk s (.str x) = true) ∧ (∀ x, I.gk s (.slice x) = true) ∧ (∀ x, I.gk s (.ref x) = true) ∧ I.gk s .bp = true ∧ I.gk s .dI = true ∧ (∀ ay, I.gk s (.agg ay) = I.ed ay) :=
 ⟨rfl, fun _ _ => rfl, rfl, fun _ _ => rfl, rfl, fun _ _ => rfl, fun _ => rfl, fun _ _ => rfl, fun _ _ => rfl, rfl, fun _ _ => rfl, fun _ _ => rfl, fun _ => rfl, fun _ => rfl, fun _ => rfl, fun _ => rfl, rfl, rfl, fun _ => rfl⟩
theorem od {f : aI} {args : List aI} {g : FuncId} {caps : List I} {r : I} (ps : List c5) (bN : bm C g (ps.map (·.d)) r (ps.map (·.o)))
  (ae : aP (aa l) f = .fn g caps) (gQ : I.ed caps = true) (ah : ps.map (·.a) = iB (aa l) args ++ caps) (aH : pV (aa l) ps) (a6 : iP ps = true)
  (cW : r.res = true) (cI : kf ps = false ∨ (r.de && qz ps) = true)
  (jN : cT C (fin (ia (fB (aa l) ps) ps) dst r) os none K) : cT C (aa l) (⟨dst, .call f args, none⟩ :: os) none K := by
 simp only [cT, nu, pU]
 exact UD ps r ae gQ ah aH a6 bN cW cI jN
theorem lq (s : ar) : pV s [] = True ∧ (∀ p ps, pV s (p :: ps) = (p.ok s ∧ pV s ps)) ∧ (∀ a d o, c5.ok s ⟨a, false, d, o⟩ = (view s a = some d)) ∧
  (∀ x q d o, c5.ok s ⟨.h x q, true, d, o⟩ = (I.sub q (s x) = some d ∧ d.g5 = true ∧ (o = .hole ∨ (o.g5 = true ∧ rr d o = true)))) := by
 refine ⟨rfl, fun _ _ => rfl, fun _ _ _ => ?_, fun _ _ _ _ => ?_⟩ <;> simp [c5.ok]
theorem ja : (∀ d, I.own (.bb d) = true) ∧ (∀ n xs, I.own (.ao n xs) = true) ∧ (∀ d, I.g5 (.bb d) = true) ∧ (∀ n xs, I.g5 (.ao n xs) = true) ∧ (∀ ay, I.g5 (.agg ay) = !I.ed ay) ∧
  (∀ d e, rr (.bb d) (.bb e) = true) ∧ (∀ n xs m cd, rr (.ao n xs) (.ao m cd) = true) ∧ (∀ a b, rr (.agg a) (.agg b) = (I.eK a == I.eK b)) := ⟨fun _ => rfl, fun _ _ => rfl, fun _ => rfl, fun _ _ => rfl, fun _ => rfl, fun _ _ => rfl, fun _ _ _ _ => rfl, fun _ _ => rfl⟩
theorem lr (s : ar) : fB s [] = s ∧ ia s [] = s ∧ (∀ p ps, fB s (p :: ps) = fB (c5.take s p) ps) ∧ (∀ p ps, ia s (p :: ps) = ia (c5.i7 s p) ps) ∧
  (∀ a d o, c5.take s ⟨a, false, d, o⟩ = s) ∧ (∀ a d o, c5.i7 s ⟨a, false, d, o⟩ = s) ∧ (∀ x q d o, c5.take s ⟨.h x q, true, d, o⟩ = dM (ji x s) x (I.put q d.du (s x))) ∧
  (∀ a d, c5.i7 s ⟨a, true, d, .hole⟩ = s) ∧ (∀ x q d e, c5.i7 s ⟨.h x q, true, d, .bb e⟩ = dM (lY x s) x (I.put q (.bb e) (s x))) ∧
  (∀ x q d n xs, c5.i7 s ⟨.h x q, true, d, .ao n xs⟩ = dM (lY x s) x (I.put q (.ao n xs) (s x))) ∧
  (∀ x q d ay, c5.i7 s ⟨.h x q, true, d, .agg ay⟩ = dM (lY x s) x (I.put q (.agg ay) (s x))) := by
 refine ⟨rfl, rfl, fun _ _ => rfl, fun _ _ => rfl, ?_, ?_, ?_, ?_, ?_, ?_, ?_⟩ <;> intros <;> simp [c5.take, c5.i7]
def rI (s : ar) (fx rs : List Nat) : Nat → List I → Bool → Prop
 | _, [], _ => True
 | k, o :: r, b => (o = .hole ∨ (o = s k ∧ o.g5 = true ∧ fx.contains k = true ∧ rs.contains k = false)) ∧ rI s fx rs (k + 1) r b
theorem o4 {s : ar} {fx : List Nat} {gl : List ResultVar} {outs : List I} (h : rI s fx (gl.map j1) 0 outs true) : ∀ (i : Nat) (o : I), outs[i]? = some o → o = .hole ∨ (o = s i ∧ o.g5 = true ∧ i ∈ fx ∧ i ∉ gl.map j1) := by
 have key : ∀ (outs : List I) (k : Nat), rI s fx (gl.map j1) k outs true → ∀ (i : Nat) (o : I), outs[i]? = some o → o = .hole ∨ (o = s (k + i) ∧ o.g5 = true ∧ k + i ∈ fx ∧ k + i ∉ gl.map j1) := by
  intro outs
  induction outs with
  | nil => intro k _ i o h; simp at h
  | cons a outs ih =>
    intro k h i o b_
    cases i with
    | zero =>
      simp at b_; subst b_
      rcases h.1 with h | ⟨ae, ah, aH, a6⟩
      ·exact .inl h
      ·exact .inr ⟨ae, ah, by simpa using aH, by simpa using a6⟩
    | succ i =>
      have := ih (k + 1) h.2 i o (by simpa using b_)
      rw [show k + (i + 1) = k + 1 + i by omega]; exact this
 intro i o b_
 have := key outs 0 h i o b_
 simpa using this
theorem m0 {s : ar} {fx rs : List Nat} {k : Nat} {l : List I} (h : rI s fx rs (k + 1) l true) : rI s fx rs k (.hole :: l) true := ⟨.inl rfl, h⟩
theorem o5 {s : ar} {fx rs : List Nat} {k : Nat} {o : I} {l : List I} (ae : o = s k) (ah : o.g5 = true) (aH : fx.contains k = true) (a6 : rs.contains k = false) (h : rI s fx rs (k + 1) l true) : rI s fx rs k (o :: l) true := ⟨.inr ⟨ae, ah, aH, a6⟩, h⟩
theorem o6 {s : ar} {fx rs : List Nat} {k : Nat} : rI s fx rs k [] true := trivial
theorem lu {Q : Exit → ar → Prop} {ros : List cm} {k : List Nat} {b : J} (h : cT C (aa l) ros none (fun _ s => eO (df C b Q) (aa (i9 k s)))) : df C (.seq (.R ros (some k)) b) Q (aa l) := sQ (fun _ _ h => h) h
theorem A4 : (∀ neg e r, rE neg (.slice e) (some r) = some (oM neg r)) ∧ (∀ neg, oM neg none = .fu) ∧ oM false (some false) = .bool false ∧ oM true (some false) = .bool true ∧ oM false (some true) = .bool true ∧ oM true (some true) = .bool false ∧ (∀ s, j0 s .bp = some (some true)) :=
 ⟨fun _ _ _ => rfl, fun _ => rfl, rfl, rfl, rfl, rfl, fun _ => rfl⟩
theorem LF {α : Type} {xs : List α} (h : xs.isEmpty = true) (e : α → I) (s : ar) : j0 s (.slice (xs.map e)) = some none := by
 have : xs = [] := List.isEmpty_iff.1 h
 subst this; rfl
theorem LG {α : Type} {xs : List α} (h : xs.isEmpty = false) (e : α → I) (s : ar) : j0 s (.slice (xs.map e)) = some (some false) := by
 cases xs with
 | nil => cases h
 | cons x xs => rfl
def UF : Option I → Option (Option Bool)
 | some (.ao _ xs) => some (if xs = [] then none else some false)
 | _ => none
theorem A5 (s : ar) (x : Nat) (q : List Nat) : j0 s (.h x q) = UF (I.sub q (s x)) := by
 simp only [j0]; rfl
theorem bm.nil {C : cE} {f : FuncId} {args : List I} {r : I} {outs : List I} (i : Nat) (h : bm C f (args.set i (.slice [])) r outs) (au : args[i]? = some .bp) : bm C f args r outs := by
 intro w F X S vs hl aZ
 have jE := aZ.eg i
 have af : g6 args i = .bp := by simp [g6, List.getD, au]
 rw [af] at jE
 have aQ : aM w F (g6 args) (ib vs) (.slice []) (ib vs i) (fun _ => False) := by
  rw [aM.c0 rfl] at jE ⊢
  refine ⟨jE.1, ?_⟩
  have ah := jE.2
  simp only [aw] at ah ⊢
  exact .inl ⟨trivial, none, 0, ah, Nat.zero_le _, fun _ => rfl⟩
 have ah := aZ.uE (t := i) rfl aQ
 have aU : dM (g6 args) i (.slice []) = g6 (args.set i (.slice [])) := by
  funext t
  have e7 : i < args.length := (List.getElem?_eq_some_iff.1 au).1
  by_cases bo : t = i
  ·subst bo; simp [dM, g6, List.getD, e7]
  ·have : i ≠ t := fun e => bo e.symm
   simp [dM, bo, g6, List.getD, this]
 have ba : dM (ib vs) i (ib vs i) = ib vs := by
  funext t
  by_cases bo : t = i
  ·subst bo; simp [dM]
  ·simp [dM, bo]
 rw [aU, ba] at ah
 exact h w F X _ vs (by simpa using hl) ah
def F9 (s : ar) (y : Nat) : I → Option (I × ar)
 | .agg ds => if I.ed ds then none else some (.ad y 0, s)
 | _ => none
theorem jb {C : cE} {l : List (Nat × I)} {os : List cm} {K : Option (List gb) → ar → Prop} {dst : Option Nat} (T : TypeId) (x : aI) :
  cT C (aa l) (⟨dst, .jZ T x, none⟩ :: os) none K = et C dst os K (jZ (aa l) (aP (aa l) x)) := jO rfl
theorem jc : (∀ (t x k : Nat), jj t (.ad x k) = .ad x k) ∧ (∀ (l : List (Nat × I)) (t x k : Nat), fin (aa l) (some t) (.ad x k) = aa ((t, .ad x k) :: l)) ∧ (∀ x k : Nat, I.plain (.ad x k) = true) ∧
  (∀ (s : ar) (x k : Nat), jG s (.ad x k) = some (.ad x k, s)) ∧ (∀ (t y k : Nat), c8 t (.ad y k) = if y = t then .hole else .ad y k) ∧ (∀ (t y k : Nat), cx t (.ad y k) = .ad y k) ∧ (∀ x k : Nat, I.wd (.ad x k) = 1) :=
 ⟨fun _ _ _ => rfl, fun l t x k => by simp only [fin, I.plain, if_true, k2], fun _ _ => rfl, fun _ _ _ => rfl, fun _ _ _ => by simp only [c8], fun _ _ _ => by simp only [cx], fun _ _ => rfl⟩
theorem jd : (∀ (s : ar) y, jZ s (.h y []) = F9 s y (s y)) ∧ (∀ (s : ar) y ay, F9 s y (.agg ay) = if I.ed ay then none else some (.ad y 0, s)) ∧
  (∀ k i ds d, Ac (d :: ds) i k = if k = 0 then some i else if d.wd ≤ k then Ac ds (i + 1) (k - d.wd) else none) :=
 ⟨fun s y => by simp only [jZ, F9]; cases s y <;> rfl, fun _ _ _ => rfl, fun _ _ _ _ => rfl⟩
theorem xY {α : Type} {l : List α} {i : Nat} {x : α} (h : l[i]? = some x) (u : α → I) (a : I) : ((l.map u).set i a)[i]? = some a := by
 have : i < l.length := (List.getElem?_eq_some_iff.1 h).1
 rw [List.getElem?_set_self (by simpa using this)]
theorem xZ {α : Type} (l : List α) (u : α → I) (i : Nat) (a b : I) : ((l.map u).set i a).set i b = (l.map u).set i b := List.set_set ..
end
end Go.dg
