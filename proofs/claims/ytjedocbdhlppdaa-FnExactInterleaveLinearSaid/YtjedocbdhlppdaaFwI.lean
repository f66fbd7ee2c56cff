/- Part of a proof that a law returns true for every input. No condition. -/
import Derived.Test.YtjedocbdhlppdaaFwH
import Derived.Laws.Externs
import Derived.Lib.Bytealg
namespace Go.dp
section
variable {C : b1} {l : List (Nat × j)} {os : List cA} {K : Option (List eL) → ao → Prop} {dst : Option Nat}
def oc (s : ao) : List cH → Prop
 | [] => True
 | p :: ps => p.ok s ∧ oc s ps
theorem BU {s : ao} : ∀ {ps : List cH}, oc s ps → ∀ p ∈ ps, p.ok s
 | p :: ps, h, q, c9 => by
   rcases List.mem_cons.1 c9 with rfl | c9
   ·exact h.1
   ·exact BU h.2 q c9
def pL : List cH → Bool
 | [] => true
 | p :: ps => p.o.dm && pL ps
theorem BV : ∀ {ps : List cH}, pL ps = true → ∀ p ∈ ps, p.o.dm = true
 | p :: ps, h, q, c9 => by
   simp only [pL, Bool.and_eq_true] at h
   rcases List.mem_cons.1 c9 with rfl | c9
   ·exact h.1
   ·exact BV h.2 q c9
theorem GZ {f : aH} {args : List aH} {g : FuncId} {caps : List j} {K : List Nat → j → ao → Prop} (ps : List cH) (r : j)
  (ag : aI (R l) f = .fn g caps) (fq : j.d_ caps = true) (ah : ps.map (·.a) = hC (R l) args ++ caps) (aM : oc (R l) ps) (bd : hN ps = true)
  (bI : a0 C g (ps.map (·.d)) r (ps.map (·.o))) (cx : r.res = true) (cy : jr ps = false ∨ (r.dm && pL ps) = true) (js : K (oa ps) r (g_ (eK (R l) ps) ps)) : mh C (R l) (.call f args) K := by
 refine ⟨g, caps, ps, r, ag, fq, by rw [ah, uT], BU aM, bd, bI, cx, ?_, js⟩
 intro hl
 rcases cy with cy | cy
 ·rw [cy] at hl; cases hl
 ·rw [Bool.and_eq_true] at cy; exact ⟨cy.1, BV cy.2⟩
theorem O6 {f : aH} {args : List aH} {g : FuncId} {caps : List j} {K : List Nat → j → ao → Prop} {us : List Nat} (ps : List cH) (r : j) (aw : ky (R l) (iO (R l) us) = true)
  (ag : aI (R l) f = .fn g caps) (fq : j.d_ caps = true) (ah : ps.map (·.a) = hC (R l) args ++ caps) (aM : oc (R l) ps) (bd : hN ps = true)
  (bI : a0 C g (ps.map (·.d)) r (ps.map (·.o))) (cx : r.res = true) (cy : jr ps = false ∨ (r.dm && pL ps) = true)
  (js : ky (g_ (eK (R l) ps) ps) (iO (R l) us) = true ∧ K (us ++ oa ps) r (lQ (g_ (eK (R l) ps) ps) (iO (R l) us))) : mh C (R l) (.kv f args us) K := by
 refine ⟨aw, g, caps, ps, r, ag, fq, by rw [ah, uT], BU aM, bd, bI, cx, ?_, js⟩
 intro hl
 rcases cy with cy | cy
 ·rw [cy] at hl; cases hl
 ·rw [Bool.and_eq_true] at cy; exact ⟨cy.1, BV cy.2⟩
theorem O7 {f : aH} {args : List aH} {g : FuncId} {caps : List j} {r : j} {us : List Nat} (ps : List cH) (bI : a0 C g (ps.map (·.d)) r (ps.map (·.o)))
  (ag : aI (R l) f = .fn g caps) (fq : j.d_ caps = true) (ah : ps.map (·.a) = hC (R l) args ++ caps) (aM : oc (R l) ps) (bd : hN ps = true)
  (cx : r.res = true) (cy : jr ps = false ∨ (r.dm && pL ps) = true) (aw : ky (R l) (iO (R l) us) = true)
  (js : ky (g_ (eK (R l) ps) ps) (iO (R l) us) = true ∧ bZ C (fin (lQ (g_ (eK (R l) ps) ps) (iO (R l) us)) dst r) os none K) : bZ C (R l) (⟨dst, .kv f args us, none⟩ :: os) none K := by
 simp only [bZ, kS, nu]
 exact O6 ps r aw ag fq ah aM bd bI cx cy js
theorem G0 (s : ao) : iO s [] = [] ∧ (∀ u us, iO s (u :: us) = (u, s u) :: iO s us) ∧ ky s [] = true ∧ (∀ p L, ky s (p :: L) = (p.2.fh s && ky s L)) ∧ lQ s [] = s ∧ (∀ p L, lQ s (p :: L) = lQ (dq s p.1 p.2) L) ∧
  (∀ x, j.fh s (.h x []) = (s x).own) ∧ (∀ x k, j.fh s (.U x k) = !(s x).plain) ∧ (∀ f c, j.fh s (.fn f c) = j.mQ s c) ∧ j.mQ s [] = true ∧ (∀ d ds, j.mQ s (d :: ds) = (d.fh s && j.mQ s ds)) ∧
  (∀ k n, j.fh s (.int k n) = true) ∧ (∀ b, j.fh s (.bool b) = true) ∧ (∀ x, j.fh s (.str x) = true) ∧ (∀ x, j.fh s (.slice x) = true) ∧ (∀ x, j.fh s (.ref x) = true) ∧ j.fh s .af = true ∧ j.fh s .dj = true ∧ (∀ ar, j.fh s (.agg ar) = j.d_ ar) :=
 ⟨rfl, fun _ _ => rfl, rfl, fun _ _ => rfl, rfl, fun _ _ => rfl, fun _ => rfl, fun _ _ => rfl, fun _ _ => rfl, rfl, fun _ _ => rfl, fun _ _ => rfl, fun _ => rfl, fun _ => rfl, fun _ => rfl, fun _ => rfl, rfl, rfl, fun _ => rfl⟩
theorem oP {f : aH} {args : List aH} {g : FuncId} {caps : List j} {r : j} (ps : List cH) (bI : a0 C g (ps.map (·.d)) r (ps.map (·.o)))
  (ag : aI (R l) f = .fn g caps) (fq : j.d_ caps = true) (ah : ps.map (·.a) = hC (R l) args ++ caps) (aM : oc (R l) ps) (bd : hN ps = true)
  (cx : r.res = true) (cy : jr ps = false ∨ (r.dm && pL ps) = true)
  (js : bZ C (fin (g_ (eK (R l) ps) ps) dst r) os none K) : bZ C (R l) (⟨dst, .call f args, none⟩ :: os) none K := by
 simp only [bZ, kS, nu]
 exact GZ ps r ag fq ah aM bd bI cx cy js
theorem G1 {a : List eL} {f : aH} {args : List aH} {g : FuncId} {caps : List j} {r : j} (ps : List cH) (bI : a0 C g (ps.map (·.d)) r (ps.map (·.o)))
  (ag : aI (R l) f = .fn g caps) (fq : j.d_ caps = true) (ah : ps.map (·.a) = hC (R l) args ++ caps) (aM : oc (R l) ps) (bd : hN ps = true)
  (cx : r.res = true) (cy : jr ps = false ∨ (r.dm && pL ps) = true)
  (js : bZ C (fin (g_ (eK (R l) ps) ps) dst r) os (some (ij (R l) (use (R l) (.call f args)) dst (oa ps) r :: a)) K) : bZ C (R l) (⟨dst, .call f args, none⟩ :: os) (some a) K := by
 simp only [bZ, kS, nu]
 exact GZ ps r ag fq ah aM bd bI cx cy js
theorem mT (s : ao) : oc s [] = True ∧ (∀ p ps, oc s (p :: ps) = (p.ok s ∧ oc s ps)) ∧ (∀ a d o, cH.ok s ⟨a, false, d, o⟩ = (view s a = some d)) ∧
  (∀ x q d o, cH.ok s ⟨.h x q, true, d, o⟩ = (j.sub q (s x) = some d ∧ d.fV = true ∧ (o = .hole ∨ (o.fV = true ∧ qW d o = true)))) := by
 refine ⟨rfl, fun _ _ => rfl, fun _ _ _ => ?_, fun _ _ _ _ => ?_⟩ <;> simp [cH.ok]
theorem lS : (∀ d, j.own (.aG d) = true) ∧ (∀ n xs, j.own (.ai n xs) = true) ∧ (∀ d, j.fV (.aG d) = true) ∧ (∀ n xs, j.fV (.ai n xs) = true) ∧ (∀ ar, j.fV (.agg ar) = !j.d_ ar) ∧
  (∀ d e, qW (.aG d) (.aG e) = true) ∧ (∀ n xs m cz, qW (.ai n xs) (.ai m cz) = true) ∧ (∀ a b, qW (.agg a) (.agg b) = (j.dI a == j.dI b)) := ⟨fun _ => rfl, fun _ _ => rfl, fun _ => rfl, fun _ _ => rfl, fun _ => rfl, fun _ _ => rfl, fun _ _ _ _ => rfl, fun _ _ => rfl⟩
theorem mU (s : ao) : eK s [] = s ∧ g_ s [] = s ∧ (∀ p ps, eK s (p :: ps) = eK (cH.take s p) ps) ∧ (∀ p ps, g_ s (p :: ps) = g_ (cH.iM s p) ps) ∧
  (∀ a d o, cH.take s ⟨a, false, d, o⟩ = s) ∧ (∀ a d o, cH.iM s ⟨a, false, d, o⟩ = s) ∧ (∀ x q d o, cH.take s ⟨.h x q, true, d, o⟩ = dq (ir x s) x (j.put q d.c0 (s x))) ∧
  (∀ a d, cH.iM s ⟨a, true, d, .hole⟩ = s) ∧ (∀ x q d e, cH.iM s ⟨.h x q, true, d, .aG e⟩ = dq (k8 x s) x (j.put q (.aG e) (s x))) ∧
  (∀ x q d n xs, cH.iM s ⟨.h x q, true, d, .ai n xs⟩ = dq (k8 x s) x (j.put q (.ai n xs) (s x))) ∧
  (∀ x q d ar, cH.iM s ⟨.h x q, true, d, .agg ar⟩ = dq (k8 x s) x (j.put q (.agg ar) (s x))) := by
 refine ⟨rfl, rfl, fun _ _ => rfl, fun _ _ => rfl, ?_, ?_, ?_, ?_, ?_, ?_, ?_⟩ <;> intros <;> simp [cH.take, cH.iM]
def pM (s : ao) (fx rs : List Nat) : Nat → List j → Bool → Prop
 | _, [], _ => True
 | k, o :: r, b => (o = .hole ∨ (o = s k ∧ o.fV = true ∧ fx.contains k = true ∧ rs.contains k = false)) ∧ pM s fx rs (k + 1) r b
theorem s6 {s : ao} {fx : List Nat} {g2 : List ResultVar} {outs : List j} (h : pM s fx (g2.map jw) 0 outs true) : ∀ (i : Nat) (o : j), outs[i]? = some o → o = .hole ∨ (o = s i ∧ o.fV = true ∧ i ∈ fx ∧ i ∉ g2.map jw) := by
 have key : ∀ (outs : List j) (k : Nat), pM s fx (g2.map jw) k outs true → ∀ (i : Nat) (o : j), outs[i]? = some o → o = .hole ∨ (o = s (k + i) ∧ o.fV = true ∧ k + i ∈ fx ∧ k + i ∉ g2.map jw) := by
  intro outs
  induction outs with
  | nil => intro k _ i o h; simp at h
  | cons a outs ih =>
    intro k h i o cr
    cases i with
    | zero =>
      simp at cr; subst cr
      rcases h.1 with h | ⟨ag, ah, aM, bd⟩
      ·exact .inl h
      ·exact .inr ⟨ag, ah, by simpa using aM, by simpa using bd⟩
    | succ i =>
      have := ih (k + 1) h.2 i o (by simpa using cr)
      rw [show k + (i + 1) = k + 1 + i by omega]; exact this
 intro i o cr
 have := key outs 0 h i o cr
 simpa using this
theorem s7 {s : ao} {fx rs : List Nat} {k : Nat} {l : List j} (h : pM s fx rs (k + 1) l true) : pM s fx rs k (.hole :: l) true := ⟨.inl rfl, h⟩
theorem uX {s : ao} {fx rs : List Nat} {k : Nat} {o : j} {l : List j} (ag : o = s k) (ah : o.fV = true) (aM : fx.contains k = true) (bd : rs.contains k = false) (h : pM s fx rs (k + 1) l true) : pM s fx rs k (o :: l) true := ⟨.inr ⟨ag, ah, aM, bd⟩, h⟩
theorem s8 {s : ao} {fx rs : List Nat} {k : Nat} : pM s fx rs k [] true := trivial
def BW {α : Type} (f : α → j) : Option α → j
 | none => .af
 | some x => f x
theorem O8 {α β : Type} {o : Option α} {a : Option β} {f : α → Option β} {r : β} (h : Option.elim o a f = some r) : (o = none ∧ a = some r) ∨ ∃ y, o = some y ∧ f y = some r := by
 cases o with
 | none => exact .inl ⟨rfl, h⟩
 | some y => exact .inr ⟨y, rfl, h⟩
theorem kU : (∀ neg e r, pH neg (.slice e) (some r) = some (nd neg r)) ∧ (∀ neg, nd neg none = .eo) ∧ nd false (some false) = .bool false ∧ nd true (some false) = .bool true ∧ nd false (some true) = .bool true ∧ nd true (some true) = .bool false ∧ (∀ s, i_ s .af = some (some true)) :=
 ⟨fun _ _ _ => rfl, fun _ => rfl, rfl, rfl, rfl, rfl, fun _ => rfl⟩
theorem xG {α : Type} {xs : List α} (h : xs.isEmpty = true) (e : α → j) (s : ao) : i_ s (.slice (xs.map e)) = some none := by
 have : xs = [] := List.isEmpty_iff.1 h
 subst this; rfl
theorem xH {α : Type} {xs : List α} (h : xs.isEmpty = false) (e : α → j) (s : ao) : i_ s (.slice (xs.map e)) = some (some false) := by
 cases xs with
 | nil => cases h
 | cons x xs => rfl
def BX : Option j → Option (Option Bool)
 | some (.ai _ xs) => some (if xs = [] then none else some false)
 | _ => none
theorem mV (s : ao) (x : Nat) (q : List Nat) : i_ s (.h x q) = BX (j.sub q (s x)) := by
 simp only [i_]; rfl
theorem G2 {α : Type} {xs : List α} (h : xs.isEmpty = true) (e : α → j) (n : Nat) : BX (some (.ai n (xs.map e))) = some none := by
 have : xs = [] := List.isEmpty_iff.1 h
 subst this; rfl
theorem G3 {α : Type} {xs : List α} (h : xs.isEmpty = false) (e : α → j) (n : Nat) : BX (some (.ai n (xs.map e))) = some (some false) := by
 cases xs with
 | nil => cases h
 | cons x xs => rfl
theorem a0.nil {C : b1} {f : FuncId} {args : List j} {r : j} {outs : List j} (i : Nat) (h : a0 C f (args.set i (.slice [])) r outs) (au : args[i]? = some .af) : a0 C f args r outs := by
 intro w F X S vs hl a2
 have iN := a2.dJ i
 have ab : fP args i = .af := by simp [fP, List.getD, au]
 rw [ab] at iN
 have aQ : aL w F (fP args) (ha vs) (.slice []) (ha vs i) (fun _ => False) := by
  rw [aL.cJ rfl] at iN ⊢
  refine ⟨iN.1, ?_⟩
  have ah := iN.2
  simp only [ax] at ah ⊢
  exact .inl ⟨trivial, none, 0, ah, Nat.zero_le _, fun _ => rfl⟩
 have ah := a2.tM (t := i) rfl aQ
 have a1 : dq (fP args) i (.slice []) = fP (args.set i (.slice [])) := by
  funext t
  have eC : i < args.length := (List.getElem?_eq_some_iff.1 au).1
  by_cases a3 : t = i
  ·subst a3; simp [dq, fP, List.getD, eC]
  ·have : i ≠ t := fun e => a3 e.symm
   simp [dq, a3, fP, List.getD, this]
 have bg : dq (ha vs) i (ha vs i) = ha vs := by
  funext t
  by_cases a3 : t = i
  ·subst a3; simp [dq]
  ·simp [dq, a3]
 rw [a1, bg] at ah
 exact h w F X _ vs (by simpa using hl) ah
def lT : Option (j × ao) → Option (j × ao)
 | some (av, s) => if (av.tree && !av.uP) = true then some (av.share, s) else none
 | none => none
theorem BZ (s : ao) : (∀ n xs, lT (some (.ai n xs, s)) = some (.slice (j.shares xs), s)) ∧ (∀ d, lT (some (.aG d, s)) = some (.ref d.share, s)) ∧ (∀ ds, lT (some (.agg ds, s)) = some (.agg (j.shares ds), s)) :=
 ⟨fun _ _ => rfl, fun _ => rfl, fun _ => rfl⟩
theorem xI {s : ao} {bz : fy} {K : List Nat → j → ao → Prop} : mh C s (.shr bz) K = (match lT (bD C s bz) with
  | some (av, s1) => K (cY s bz) av s1
  | none => False) := by
 apply propext
 cases he : bD C s bz with
 | none =>
   simp only [lT]
   exact ⟨fun ⟨av, s1, ag, _⟩ => (by rw [he] at ag; cases ag), fun h => h.elim⟩
 | some p =>
   obtain ⟨av, s1⟩ := p
   simp only [lT]
   by_cases a3 : (av.tree && !av.uP) = true
   ·rw [if_pos a3]
    simp only [Bool.and_eq_true, Bool.not_eq_true'] at a3
    constructor
    ·rintro ⟨O9, O_, ag, ah, aM, bd⟩
     rw [he] at ag
     simp only [Option.some.injEq, Prod.mk.injEq] at ag
     obtain ⟨rfl, rfl⟩ := ag
     exact bd
    ·intro h
     exact ⟨av, s1, he, a3.1, fun vs e => by subst e; simp [j.uP] at a3, h⟩
   ·rw [if_neg a3]
    constructor
    ·rintro ⟨O9, O_, ag, ah, aM, bd⟩
     rw [he] at ag
     simp only [Option.some.injEq, Prod.mk.injEq] at ag
     obtain ⟨rfl, rfl⟩ := ag
     refine a3 ?_
     rw [ah]
     cases av <;> first | rfl | exact (aM _ rfl).elim
    ·intro h; exact h.elim
theorem xJ (s : ao) (d : j) : cV s (some d) = some (d, s) := rfl
theorem B0 (bz : fy) : (bZ C (R l) (⟨dst, .shr bz, none⟩ :: os) none K = da C dst os K (lT (bD C (R l) bz))) ∧
  (∀ a, bZ C (R l) (⟨dst, .shr bz, none⟩ :: os) (some a) K = dg C l (use (R l) bz) (cY (R l) bz) dst os a K (lT (bD C (R l) bz))) ∧
  (∀ t b, cg C l dst (.shr bz) t b os none K (.bool b) = da C dst os K (lT (bD C (R l) bz))) ∧
  (∀ a t b, cg C l dst (.shr bz) t b os (some a) K (.bool b) = dg C l (t :: use (R l) bz) (cY (R l) bz) dst os a K (lT (bD C (R l) bz))) := by
 refine ⟨?_, fun a => ?_, fun t b => ?_, fun a t b => ?_⟩
 ·simp only [bZ, kS, xI]
  cases lT (bD C (R l) bz) with
  | none => rfl
  | some p => rfl
 ·simp only [bZ, kS, xI]
  cases lT (bD C (R l) bz) with
  | none => rfl
  | some p => rfl
 ·simp only [cg, if_true, xI]
  cases lT (bD C (R l) bz) with
  | none => rfl
  | some p => rfl
 ·simp only [cg, if_true, xI]
  cases lT (bD C (R l) bz) with
  | none => rfl
  | some p => rfl
def s9 (C : b1) (s : ao) : k9 → Option (j × ao)
 | .slice e => if (C.T e).ok = true then some (.af, s) else none
 | _ => none
def od (C : b1) (s : ao) (y : Nat) (q : List Nat) (b : Int) : k9 → Option j → Option (j × ao)
 | .slice e, some (.ai sz xs) => (match iD xs 0 b with
   | some t => if (C.T e).ok = true then (match cG s (.h y q) with | some (_, s1) => some (.ai sz t, s1) | none => none) else none
   | none => none)
 | _, _ => none
theorem mW (C : b1) (s : ao) (T : TypeId) (y : Nat) (q : List Nat) : (∀ k b, eb C s T (.h y q) none (some (.int k b)) = od C s y q b (C.T T).k (j.sub q (s y))) ∧
  (∀ k b dU, eb C s T (.h y q) (some (.int dU 0)) (some (.int k b)) = od C s y q b (C.T T).k (j.sub q (s y))) ∧
  (∀ e sz xs b t, iD xs 0 b = some t → od C s y q b (.slice e) (some (.ai sz xs)) = if (C.T e).ok = true then (match cG s (.h y q) with | some (_, s1) => some (.ai sz t, s1) | none => none) else none) := by
 have key : ∀ (cW : Option j) (k : IntKind) (b : Int), iY 0 cW = some 0 → eb C s T (.h y q) cW (some (.int k b)) = od C s y q b (C.T T).k (j.sub q (s y)) := by
  intro cW k b bM
  simp only [eb]
  generalize (C.T T).k = jR
  cases jR <;> first | rfl | skip
  rename_i e
  cases ab : j.sub q (s y) with
  | none => simp only [ab]; rfl
  | some d =>
    cases d with
    | ai sz xs =>
      have Pa : iY xs.length (some (.int k b)) = if 0 ≤ b then some b.toNat else none := rfl
      simp only [ab, bM, Pa, od, iD]
      by_cases U : 0 ≤ b
      ·by_cases az : b ≤ xs.length
       ·have ag : b.toNat ≤ xs.length := by omega
        simp only [U, az, ag, if_true, true_and, Int.le_refl, and_self, Int.toNat_zero, List.drop_zero]
        rfl
       ·have ag : ¬ b.toNat ≤ xs.length := by omega
        simp only [U, az, ag, if_true, if_false, and_false, false_and, Int.le_refl]
      ·simp only [U, if_false, false_and, and_false]
    | _ => simp only [ab]; rfl
 refine ⟨fun k b => key _ _ _ rfl, fun k b dU => key _ _ _ (by simp [iY]), fun e sz xs b t h => ?_⟩
 simp only [od, h]
def B1 (s : ao) (y : Nat) : j → Option (j × ao)
 | .agg ds => if j.d_ ds then none else some (.U y 0, s)
 | _ => none
theorem pN (C : b1) (s : ao) (T e : TypeId) (x : aH) (aB : (C.T T).k = .slice e) (aw : aI s x = .af) : bD C s (.cap T x) = some (.int .i64 0, s) := by
 simp only [bD, aB, aw]
theorem pO (T : TypeId) (x : aH) : (bZ C (R l) (⟨dst, .cap T x, none⟩ :: os) none K = da C dst os K (bD C (R l) (.cap T x))) ∧
  (∀ a, bZ C (R l) (⟨dst, .cap T x, none⟩ :: os) (some a) K = dg C l (use (R l) (.cap T x)) (cY (R l) (.cap T x)) dst os a K (bD C (R l) (.cap T x))) :=
 ⟨hO rfl, fun _ => hZ rfl⟩
theorem xK (C : b1) (l : List (Nat × j)) (dst : Option Nat) (os : List cA) (K : Option (List eL) → ao → Prop) :
  (∀ x, bZ C (R l) (⟨dst, .lN x, none⟩ :: os) none K = da C dst os K (some (aI (R l) x, R l))) ∧
  (∀ a x, bZ C (R l) (⟨dst, .lN x, none⟩ :: os) (some a) K = dg C l (use (R l) (.lN x)) (cY (R l) (.lN x)) dst os a K (some (aI (R l) x, R l))) :=
 ⟨fun _ => (hO rfl).trans (congrArg _ rfl), fun _ _ => (hZ rfl).trans (congrArg _ rfl)⟩
theorem iP (C : b1) (l : List (Nat × j)) (dst : Option Nat) (os : List cA) (K : Option (List eL) → ao → Prop) :
  (∀ x, bZ C (R l) (⟨dst, .kO x, none⟩ :: os) none K = da C dst os K (hB (R l) (aI (R l) x))) ∧
  (∀ a x, bZ C (R l) (⟨dst, .kO x, none⟩ :: os) (some a) K = dg C l (use (R l) (.kO x)) (cY (R l) (.kO x)) dst os a K (hB (R l) (aI (R l) x))) := by
 have e : ∀ x, bD C (R l) (.kO x) = hB (R l) (aI (R l) x) := fun x => by
  simp only [bD]; cases aI (R l) x <;> rfl
 exact ⟨fun x => (hO rfl).trans (congrArg _ (e x)), fun _ x => (hZ rfl).trans (congrArg _ (e x))⟩
def s_ (s : ao) : Option j → Option (j × ao)
 | some d => hB s d
 | none => none
theorem pP (s : ao) (d : j) : s_ s (some d) = hB s d := rfl
theorem xL (C : b1) (l : List (Nat × j)) (T : TypeId) (x : aH) (k : Nat) : bD C (R l) (.gH T x k) = s_ (R l) (gH C (R l) T (aI (R l) x) k) := by
 simp only [bD]
 cases gH C (R l) T (aI (R l) x) k with
 | none => rfl
 | some d => cases d <;> rfl
theorem pQ (C : b1) (l : List (Nat × j)) (dst : Option Nat) (os : List cA) (K : Option (List eL) → ao → Prop) :
  (∀ T x k, bZ C (R l) (⟨dst, .gH T x k, none⟩ :: os) none K = da C dst os K (s_ (R l) (gH C (R l) T (aI (R l) x) k))) ∧
  (∀ a T x k, bZ C (R l) (⟨dst, .gH T x k, none⟩ :: os) (some a) K = dg C l (use (R l) (.gH T x k)) (cY (R l) (.gH T x k)) dst os a K (s_ (R l) (gH C (R l) T (aI (R l) x) k))) ∧
  (∀ T x k t b, cg C l dst (.gH T x k) t b os none K (.bool b) = da C dst os K (s_ (R l) (gH C (R l) T (aI (R l) x) k))) ∧
  (∀ a T x k t b, cg C l dst (.gH T x k) t b os (some a) K (.bool b) = dg C l (t :: use (R l) (.gH T x k)) (cY (R l) (.gH T x k)) dst os a K (s_ (R l) (gH C (R l) T (aI (R l) x) k))) :=
 ⟨fun _ _ _ => (hO rfl).trans (congrArg _ (xL ..)), fun _ _ _ _ => (hZ rfl).trans (congrArg _ (xL ..)), fun _ _ _ _ _ => (fa rfl).trans (congrArg _ (xL ..)), fun _ _ _ _ _ _ => (fb rfl).trans (congrArg _ (xL ..))⟩
def oe (C : b1) (y : Nat) (q : List Nat) (k : Nat) : k9 → Option j → Option j
 | .struct ar, some (.agg ds) => match ar[k]? with
   | some (iH, off) => match ds[k]? with
     | some d => if j.dI (ds.take k) = off ∧ fits C iH d = true ∧ j.d_ ds = false ∧ d.tree = true then some (if d.plain then d else .h y (q ++ [k])) else none
     | none => none
   | none => none
 | _, _ => none
theorem pR (C : b1) (s : ao) (T : TypeId) (y : Nat) (q : List Nat) (k : Nat) : gH C s T (.h y q) k = oe C y q k (C.T T).k (j.sub q (s y)) := by
 unfold gH oe
 cases (C.T T).k with
 | struct ar =>
   cases ah : j.sub q (s y) with
   | none => simp only [ah]; split <;> rfl
   | some d => cases d <;> simp only [ah] <;> first | rfl | (split <;> rfl)
 | _ => rfl
theorem xM (C : b1) (s : ao) (e : TypeId) : s9 C s (.slice e) = if (C.T e).ok = true then some (.af, s) else none := rfl
theorem lr {C : b1} {l : List (Nat × j)} {os : List cA} {K : Option (List eL) → ao → Prop} {dst : Option Nat} (T : TypeId) (x : aH) :
  bZ C (R l) (⟨dst, .hL T x, none⟩ :: os) none K = da C dst os K (hL (R l) (aI (R l) x)) := hO rfl
theorem nx : (∀ (t x k : Nat), iG t (.U x k) = .U x k) ∧ (∀ (l : List (Nat × j)) (t x k : Nat), fin (R l) (some t) (.U x k) = R ((t, .U x k) :: l)) ∧ (∀ x k : Nat, j.plain (.U x k) = true) ∧
  (∀ (s : ao) (x k : Nat), hB s (.U x k) = some (.U x k, s)) ∧ (∀ (t y k : Nat), cK t (.U y k) = if y = t then .hole else .U y k) ∧ (∀ (t y k : Nat), ca t (.U y k) = .U y k) ∧ (∀ x k : Nat, j.wd (.U x k) = 1) :=
 ⟨fun _ _ _ => rfl, fun l t x k => by simp only [fin, j.plain, if_true, kc], fun _ _ => rfl, fun _ _ _ => rfl, fun _ _ _ => by simp only [cK], fun _ _ _ => by simp only [ca], fun _ _ => rfl⟩
theorem ny : (∀ (s : ao) y, hL s (.h y []) = B1 s y (s y)) ∧ (∀ (s : ao) y ar, B1 s y (.agg ar) = if j.d_ ar then none else some (.U y 0, s)) ∧
  (∀ k i ds d, wZ (d :: ds) i k = if k = 0 then some i else if d.wd ≤ k then wZ ds (i + 1) (k - d.wd) else none) :=
 ⟨fun s y => by simp only [hL, B1]; cases s y <;> rfl, fun _ _ _ => rfl, fun _ _ _ _ => rfl⟩
theorem xN (C : b1) (s : ao) (T : TypeId) : eb C s T .af none none = s9 C s (C.T T).k ∧ (∀ k, eb C s T .af none (some (.int k 0)) = s9 C s (C.T T).k) ∧ (∀ k, eb C s T .af (some (.int k 0)) none = s9 C s (C.T T).k) ∧
  (∀ k dU, eb C s T .af (some (.int k 0)) (some (.int dU 0)) = s9 C s (C.T T).k) ∧ (∀ e, s9 C s (.slice e) = if (C.T e).ok = true then some (.af, s) else none) := by
 refine ⟨?_, fun k => ?_, fun k => ?_, fun k dU => ?_, fun _ => rfl⟩ <;> (simp only [eb]; generalize (C.T T).k = jR; cases jR <;> rfl)
theorem xO (T bJ : TypeId) (x y : aH) : (bZ C (R l) (⟨dst, .ic T bJ x y, none⟩ :: os) none K = da C dst os K (cV (R l) (ic C T bJ (aI (R l) x) (aI (R l) y)))) ∧
  (∀ a, bZ C (R l) (⟨dst, .ic T bJ x y, none⟩ :: os) (some a) K = dg C l (use (R l) (.ic T bJ x y)) (cY (R l) (.ic T bJ x y)) dst os a K (cV (R l) (ic C T bJ (aI (R l) x) (aI (R l) y)))) := by
 have e : bD C (R l) (.ic T bJ x y) = cV (R l) (ic C T bJ (aI (R l) x) (aI (R l) y)) := by simp only [bD, mi]
 exact ⟨(hO rfl).trans (by rw [e]), fun a => (hZ rfl).trans (by rw [e])⟩
theorem uY {α : Type} {l : List α} {i : Nat} {x : α} (h : l[i]? = some x) (u : α → j) (a : j) : ((l.map u).set i a)[i]? = some a := by
 have : i < l.length := (List.getElem?_eq_some_iff.1 h).1
 rw [List.getElem?_set_self (by simpa using this)]
theorem uZ {α : Type} (l : List α) (u : α → j) (i : Nat) (a b : j) : ((l.map u).set i a).set i b = (l.map u).set i b := List.set_set ..
theorem xP {α : Type} (xs : List α) : iD xs 0 0 = some [] := by unfold iD; rw [if_pos ⟨Int.le_refl _, by omega⟩]; rfl
end
end Go.dp
