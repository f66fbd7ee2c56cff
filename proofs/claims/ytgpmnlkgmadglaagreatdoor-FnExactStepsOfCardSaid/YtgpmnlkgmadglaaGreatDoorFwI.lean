/- Part of a proof that a law returns true for every input. No condition. -/
import Derived.Test.YtgpmnlkgmadglaaGreatDoorFwH
import Derived.Laws.Externs
import Derived.Lib.Bytealg
namespace Go.cY
theorem bm.wide {C : b4} {f : FuncId} {as : List I} {r gU : I} {outs : List I} (h : bm C f as r outs) (hw : e2 r gU) (a1 : r.tree = true) (bJ : I.dV outs = []) : bm C f as gU outs := by
 intro w F X S vs hl aW
 refine ot.mono (h w F X S vs hl aW) ?_
 rintro v aL ⟨bQ, aR, bE⟩
 have ay7 : ∀ (k : Nat) (l : List I), I.dV ((num k l).map (·.2)) = I.dV l := by
  intro k l
  induction l generalizing k with
  | nil => rfl
  | cons a l ih => simp only [num, List.map_cons, I.dV, ih]
 have wz : ∀ (k : Nat) (l : List I) (p : Nat × I), p ∈ num k l → ∃ i, l[i]? = some p.2 ∧ p.1 = k + i := by
  intro k l
  induction l generalizing k with
  | nil => intro p aw; cases aw
  | cons a l ih =>
    intro p aw
    rcases List.mem_cons.1 aw with rfl | aw
    ·exact ⟨0, rfl, rfl⟩
    ·obtain ⟨i, af, ag⟩ := ih (k + 1) p aw
     exact ⟨i + 1, by simpa using af, by omega⟩
 have Bj : I.dV (gU :: outs) = [] := by
  have : gU.tree = true := hw.tree a1
  simp [I.dV, F6 this, bJ]
 have GV : tH (fO (r :: outs)) (num 0 (gU :: outs)) := by
  intro p aw
  obtain ⟨i, af, ag⟩ := wz 0 _ p aw
  have an : p.1 = i := by omega
  cases i with
  | zero =>
    simp at af
    right
    rw [an, ← af]
    refine ⟨a1, hw, ?_⟩
    intro cB ew
    refine .inl fun hm => ?_
    have : cB.2.ab = [] := by
     have key : ∀ (as : List I) (a : I), a ∈ as → I.dV as = [] → a.ab = [] := by
      intro as
      induction as with
      | nil => intro a h; cases h
      | cons b as ih =>
        intro a h he
        simp only [I.dV, List.append_eq_nil_iff] at he
        rcases List.mem_cons.1 h with rfl | h
        ·exact he.1
        ·exact ih a h he.2
     obtain ⟨j, g1, _⟩ := wz 0 _ cB ew
     exact key _ _ (List.mem_of_getElem? g1) Bj
    rw [this] at hm; cases hm
  | succ i =>
    left
    rw [an]
    simp only [fO, List.getD]
    simp at af
    simp [af]
 obtain ⟨ri, dB, ag⟩ := bE.Gk GV
 refine ⟨ri, dB, ?_⟩
 rw [yJ]
 exact ag
section
variable {C : b4} {l : List (Nat × I)} {os : List bU} {K : Option (List eZ) → al → Prop} {dst : Option Nat}
def rp (s : al) : List cP → Prop
 | [] => True
 | p :: ps => p.ok s ∧ rp s ps
theorem GW {s : al} : ∀ {ps : List cP}, rp s ps → ∀ p ∈ ps, p.ok s
 | p :: ps, h, q, cG => by
   rcases List.mem_cons.1 cG with rfl | cG
   ·exact h.1
   ·exact GW h.2 q cG
def sr : List cP → Bool
 | [] => true
 | p :: ps => p.o.c3 && sr ps
theorem GX : ∀ {ps : List cP}, sr ps = true → ∀ p ∈ ps, p.o.c3 = true
 | p :: ps, h, q, cG => by
   simp only [sr, Bool.and_eq_true] at h
   rcases List.mem_cons.1 cG with rfl | cG
   ·exact h.1
   ·exact GX h.2 q cG
theorem MC {f : aH} {args : List aH} {g : FuncId} {caps : List I} {K : List Nat → I → al → Prop} (ps : List cP) (r : I)
  (af : aJ (U l) f = .fn g caps) (gM : I.e1 caps = true) (ag : ps.map (·.a) = iM (U l) args ++ caps) (aF : rp (U l) ps) (a_ : iU ps = true)
  (bI : bm C g (ps.map (·.d)) r (ps.map (·.o))) (cK : r.res = true) (cH : kK ps = false ∨ (r.c3 && sr ps) = true) (kr : K (rl ps) r (iK (fw (U l) ps) ps)) : oz C (U l) (.call f args) K := by
 refine ⟨g, caps, ps, r, af, gM, by rw [ag, yO], GW aF, a_, bI, cK, ?_, kr⟩
 intro hl
 rcases cH with cH | cH
 ·rw [cH] at hl; cases hl
 ·rw [Bool.and_eq_true] at cH; exact ⟨cH.1, GX cH.2⟩
theorem k_ {f : aH} {args : List aH} {g : FuncId} {caps : List I} {r : I} (ps : List cP) (bI : bm C g (ps.map (·.d)) r (ps.map (·.o)))
  (af : aJ (U l) f = .fn g caps) (gM : I.e1 caps = true) (ag : ps.map (·.a) = iM (U l) args ++ caps) (aF : rp (U l) ps) (a_ : iU ps = true)
  (cK : r.res = true) (cH : kK ps = false ∨ (r.c3 && sr ps) = true)
  (kr : b9 C (fin (iK (fw (U l) ps) ps) dst r) os none K) : b9 C (U l) (⟨dst, .call f args, none⟩ :: os) none K := by
 simp only [b9, mN, qs]
 exact MC ps r af gM ag aF a_ bI cK cH kr
theorem MD {a : List eZ} {f : aH} {args : List aH} {g : FuncId} {caps : List I} {r : I} (ps : List cP) (bI : bm C g (ps.map (·.d)) r (ps.map (·.o)))
  (af : aJ (U l) f = .fn g caps) (gM : I.e1 caps = true) (ag : ps.map (·.a) = iM (U l) args ++ caps) (aF : rp (U l) ps) (a_ : iU ps = true)
  (cK : r.res = true) (cH : kK ps = false ∨ (r.c3 && sr ps) = true)
  (kr : b9 C (fin (iK (fw (U l) ps) ps) dst r) os (some (jl (U l) (use (U l) (.call f args)) dst (rl ps) r :: a)) K) : b9 C (U l) (⟨dst, .call f args, none⟩ :: os) (some a) K := by
 simp only [b9, mN, qs]
 exact MC ps r af gM ag aF a_ bI cK cH kr
theorem jX (s : al) : rp s [] = True ∧ (∀ p ps, rp s (p :: ps) = (p.ok s ∧ rp s ps)) ∧ (∀ a d o, cP.ok s ⟨a, false, d, o⟩ = (view s a = some d)) ∧
  (∀ x q d o, cP.ok s ⟨.h x q, true, d, o⟩ = (I.sub q (s x) = some d ∧ d.gL = true ∧ (o = .hole ∨ (o.gL = true ∧ sa d o = true)))) := by
 refine ⟨rfl, fun _ _ => rfl, fun _ _ _ => ?_, fun _ _ _ _ => ?_⟩ <;> simp [cP.ok]
theorem jY : (∀ d, I.own (.aU d) = true) ∧ (∀ n xs, I.own (.au n xs) = true) ∧ (∀ d, I.gL (.aU d) = true) ∧ (∀ n xs, I.gL (.au n xs) = true) ∧ (∀ ax, I.gL (.agg ax) = !I.e1 ax) ∧
  (∀ d e, sa (.aU d) (.aU e) = true) ∧ (∀ n xs m ck, sa (.au n xs) (.au m ck) = true) ∧ (∀ a b, sa (.agg a) (.agg b) = (I.ee a == I.ee b)) := ⟨fun _ => rfl, fun _ _ => rfl, fun _ => rfl, fun _ _ => rfl, fun _ => rfl, fun _ _ => rfl, fun _ _ _ _ => rfl, fun _ _ => rfl⟩
theorem jZ (s : al) : fw s [] = s ∧ iK s [] = s ∧ (∀ p ps, fw s (p :: ps) = fw (cP.take s p) ps) ∧ (∀ p ps, iK s (p :: ps) = iK (cP.jj s p) ps) ∧
  (∀ a d o, cP.take s ⟨a, false, d, o⟩ = s) ∧ (∀ a d o, cP.jj s ⟨a, false, d, o⟩ = s) ∧ (∀ x q d o, cP.take s ⟨.h x q, true, d, o⟩ = db (hX x s) x (I.put q d.c7 (s x))) ∧
  (∀ a d, cP.jj s ⟨a, true, d, .hole⟩ = s) ∧ (∀ x q d e, cP.jj s ⟨.h x q, true, d, .aU e⟩ = db (mc x s) x (I.put q (.aU e) (s x))) ∧
  (∀ x q d n xs, cP.jj s ⟨.h x q, true, d, .au n xs⟩ = db (mc x s) x (I.put q (.au n xs) (s x))) ∧
  (∀ x q d ax, cP.jj s ⟨.h x q, true, d, .agg ax⟩ = db (mc x s) x (I.put q (.agg ax) (s x))) := by
 refine ⟨rfl, rfl, fun _ _ => rfl, fun _ _ => rfl, ?_, ?_, ?_, ?_, ?_, ?_, ?_⟩ <;> intros <;> simp [cP.take, cP.jj]
def ss (s : al) (fx rs : List Nat) : Nat → List I → Bool → Prop
 | _, [], _ => True
 | k, o :: r, b => (o = .hole ∨ (o = s k ∧ o.gL = true ∧ fx.contains k = true ∧ rs.contains k = false)) ∧ ss s fx rs (k + 1) r b
theorem jH {s : al} {fx : List Nat} {eY : List ResultVar} {outs : List I} (h : ss s fx (eY.map jW) 0 outs true) : ∀ (i : Nat) (o : I), outs[i]? = some o → o = .hole ∨ (o = s i ∧ o.gL = true ∧ i ∈ fx ∧ i ∉ eY.map jW) := by
 have key : ∀ (outs : List I) (k : Nat), ss s fx (eY.map jW) k outs true → ∀ (i : Nat) (o : I), outs[i]? = some o → o = .hole ∨ (o = s (k + i) ∧ o.gL = true ∧ k + i ∈ fx ∧ k + i ∉ eY.map jW) := by
  intro outs
  induction outs with
  | nil => intro k _ i o h; simp at h
  | cons a outs ih =>
    intro k h i o bJ
    cases i with
    | zero =>
      simp at bJ; subst bJ
      rcases h.1 with h | ⟨af, ag, aF, a_⟩
      ·exact .inl h
      ·exact .inr ⟨af, ag, by simpa using aF, by simpa using a_⟩
    | succ i =>
      have := ih (k + 1) h.2 i o (by simpa using bJ)
      rw [show k + (i + 1) = k + 1 + i by omega]; exact this
 intro i o bJ
 have := key outs 0 h i o bJ
 simpa using this
theorem ep {s : al} {fx rs : List Nat} {k : Nat} {l : List I} (h : ss s fx rs (k + 1) l true) : ss s fx rs k (.hole :: l) true := ⟨.inl rfl, h⟩
theorem lY {s : al} {fx rs : List Nat} {k : Nat} {o : I} {l : List I} (af : o = s k) (ag : o.gL = true) (aF : fx.contains k = true) (a_ : rs.contains k = false) (h : ss s fx rs (k + 1) l true) : ss s fx rs k (o :: l) true := ⟨.inr ⟨af, ag, aF, a_⟩, h⟩
theorem jI {s : al} {fx rs : List Nat} {k : Nat} : ss s fx rs k [] true := trivial
theorem lD {Q : Exit → al → Prop} {ros : List bU} {k : List Nat} {b : J} (h : b9 C (U l) ros none (fun _ s => dY (cy C b Q) (U (hR k s)))) : cy C (.seq (.cd ros (some k)) b) Q (U l) := tM (fun _ _ h => h) h
def I.VI : I → Bool
 | .tuple _ => true
 | .ct _ => true
 | _ => false
theorem BN {d e : I} (a1 : d.tree = true) (bc : d.VI = false) (h : d.share = e) : e2 d e := by
 subst h
 exact .share d a1 (fun vs e => by subst e; cases bc) (fun o e => by subst e; cases bc)
theorem BO : (∀ neg e r, so neg (.slice e) (some r) = some (pj neg r)) ∧ (∀ neg, pj neg none = .eT) ∧ pj false (some false) = .bool false ∧ pj true (some false) = .bool true ∧ pj false (some true) = .bool true ∧ pj true (some true) = .bool false ∧ (∀ s, kd s .bo = some (some true)) :=
 ⟨fun _ _ _ => rfl, fun _ => rfl, rfl, rfl, rfl, rfl, fun _ => rfl⟩
theorem ME {α : Type} {xs : List α} (h : xs.isEmpty = true) (e : α → I) (s : al) : kd s (.slice (xs.map e)) = some none := by
 have : xs = [] := List.isEmpty_iff.1 h
 subst this; rfl
theorem MF {α : Type} {xs : List α} (h : xs.isEmpty = false) (e : α → I) (s : al) : kd s (.slice (xs.map e)) = some (some false) := by
 cases xs with
 | nil => cases h
 | cons x xs => rfl
def VJ : Option I → Option (Option Bool)
 | some (.au _ xs) => some (if xs = [] then none else some false)
 | _ => none
theorem BP (s : al) (x : Nat) (q : List Nat) : kd s (.h x q) = VJ (I.sub q (s x)) := by
 simp only [kd]; rfl
theorem bm.nil {C : b4} {f : FuncId} {args : List I} {r : I} {outs : List I} (i : Nat) (h : bm C f (args.set i (.slice [])) r outs) (an : args[i]? = some .bo) : bm C f args r outs := by
 intro w F X S vs hl aW
 have jG := aW.dp i
 have ab : fO args i = .bo := by simp [fO, List.getD, an]
 rw [ab] at jG
 have aK : aI w F (fO args) (hH vs) (.slice []) (hH vs i) (fun _ => False) := by
  rw [aI.cJ rfl] at jG ⊢
  refine ⟨jG.1, ?_⟩
  have ag := jG.2
  simp only [ay] at ag ⊢
  exact .inl ⟨trivial, none, 0, ag, Nat.zero_le _, fun _ => rfl⟩
 have ag := aW.vn (t := i) rfl aK
 have aN : db (fO args) i (.slice []) = fO (args.set i (.slice [])) := by
  funext t
  have dZ : i < args.length := (List.getElem?_eq_some_iff.1 an).1
  by_cases a1 : t = i
  ·subst a1; simp [db, fO, List.getD, dZ]
  ·have : i ≠ t := fun e => a1 e.symm
   simp [db, a1, fO, List.getD, this]
 have aZ : db (hH vs) i (hH vs i) = hH vs := by
  funext t
  by_cases a1 : t = i
  ·subst a1; simp [db]
  ·simp [db, a1]
 rw [aN, aZ] at ag
 exact h w F X _ vs (by simpa using hl) ag
theorem la (a b : List I) : I.shares (a ++ b) = I.shares a ++ I.shares b := by simp only [I.rX, List.map_append]
def nk : Option (I × al) → Option (I × al)
 | some (av, s) => if (av.tree && !av.yK) = true then some (av.share, s) else none
 | none => none
theorem lb (s : al) : (∀ n xs, nk (some (.au n xs, s)) = some (.slice (I.shares xs), s)) ∧ (∀ d, nk (some (.aU d, s)) = some (.ref d.share, s)) ∧ (∀ ds, nk (some (.agg ds, s)) = some (.agg (I.shares ds), s)) :=
 ⟨fun _ _ => rfl, fun _ => rfl, fun _ => rfl⟩
theorem BQ {s : al} {bD : fG} {K : List Nat → I → al → Prop} : oz C s (.shr bD) K = (match nk (bB C s bD) with
  | some (av, s1) => K (c6 s bD) av s1
  | none => False) := by
 apply propext
 cases he : bB C s bD with
 | none =>
   simp only [nk]
   exact ⟨fun ⟨av, s1, af, _⟩ => (by rw [he] at af; cases af), fun h => h.elim⟩
 | some p =>
   obtain ⟨av, s1⟩ := p
   simp only [nk]
   by_cases a1 : (av.tree && !av.yK) = true
   ·rw [if_pos a1]
    simp only [Bool.and_eq_true, Bool.not_eq_true'] at a1
    constructor
    ·rintro ⟨VK, VL, af, ag, aF, a_⟩
     rw [he] at af
     simp only [Option.some.injEq, Prod.mk.injEq] at af
     obtain ⟨rfl, rfl⟩ := af
     exact a_
    ·intro h
     exact ⟨av, s1, he, a1.1, fun vs e => by subst e; simp [I.yK] at a1, h⟩
   ·rw [if_neg a1]
    constructor
    ·rintro ⟨VK, VL, af, ag, aF, a_⟩
     rw [he] at af
     simp only [Option.some.injEq, Prod.mk.injEq] at af
     obtain ⟨rfl, rfl⟩ := af
     refine a1 ?_
     rw [ag]
     cases av <;> first | rfl | exact (aF _ rfl).elim
    ·intro h; exact h.elim
theorem ld (bD : fG) : (b9 C (U l) (⟨dst, .shr bD, none⟩ :: os) none K = du C dst os K (nk (bB C (U l) bD))) ∧
  (∀ a, b9 C (U l) (⟨dst, .shr bD, none⟩ :: os) (some a) K = dy C l (use (U l) bD) (c6 (U l) bD) dst os a K (nk (bB C (U l) bD))) ∧
  (∀ t b, cu C l dst (.shr bD) t b os none K (.bool b) = du C dst os K (nk (bB C (U l) bD))) ∧
  (∀ a t b, cu C l dst (.shr bD) t b os (some a) K (.bool b) = dy C l (t :: use (U l) bD) (c6 (U l) bD) dst os a K (nk (bB C (U l) bD))) := by
 refine ⟨?_, fun a => ?_, fun t b => ?_, fun a t b => ?_⟩
 ·simp only [b9, mN, BQ]
  cases nk (bB C (U l) bD) with
  | none => rfl
  | some p => rfl
 ·simp only [b9, mN, BQ]
  cases nk (bB C (U l) bD) with
  | none => rfl
  | some p => rfl
 ·simp only [cu, if_true, BQ]
  cases nk (bB C (U l) bD) with
  | none => rfl
  | some p => rfl
 ·simp only [cu, if_true, BQ]
  cases nk (bB C (U l) bD) with
  | none => rfl
  | some p => rfl
def GY (s : al) (y : Nat) : I → Option (I × al)
 | .agg ds => if I.e1 ds then none else some (.aa y 0, s)
 | _ => none
theorem MG (C : b4) (l : List (Nat × I)) (dst : Option Nat) (os : List bU) (K : Option (List eZ) → al → Prop) :
  (∀ x, b9 C (U l) (⟨dst, .nI x, none⟩ :: os) none K = du C dst os K (some (aJ (U l) x, U l))) ∧
  (∀ a x, b9 C (U l) (⟨dst, .nI x, none⟩ :: os) (some a) K = dy C l (use (U l) (.nI x)) (c6 (U l) (.nI x)) dst os a K (some (aJ (U l) x, U l))) :=
 ⟨fun _ => (iL rfl).trans (congrArg _ rfl), fun _ _ => (iW rfl).trans (congrArg _ rfl)⟩
theorem kf (C : b4) (l : List (Nat × I)) (dst : Option Nat) (os : List bU) (K : Option (List eZ) → al → Prop) :
  (∀ x, b9 C (U l) (⟨dst, .mj x, none⟩ :: os) none K = du C dst os K (iX (U l) (aJ (U l) x))) ∧
  (∀ a x, b9 C (U l) (⟨dst, .mj x, none⟩ :: os) (some a) K = dy C l (use (U l) (.mj x)) (c6 (U l) (.mj x)) dst os a K (iX (U l) (aJ (U l) x))) := by
 have e : ∀ x, bB C (U l) (.mj x) = iX (U l) (aJ (U l) x) := fun x => by
  simp only [bB]; cases aJ (U l) x <;> rfl
 exact ⟨fun x => (iL rfl).trans (congrArg _ (e x)), fun _ x => (iW rfl).trans (congrArg _ (e x))⟩
theorem MH (C : b4) (l : List (Nat × I)) (dst : Option Nat) (os : List bU) (K : Option (List eZ) → al → Prop) :
  (b9 C (U l) (⟨dst, .qf, none⟩ :: os) none K = du C dst os K (some (.ct (.mp []), U l))) ∧
  (∀ a, b9 C (U l) (⟨dst, .qf, none⟩ :: os) (some a) K = dy C l (use (U l) .qf) (c6 (U l) .qf) dst os a K (some (.ct (.mp []), U l))) :=
 ⟨iL rfl, fun _ => iW rfl⟩
theorem BR (C : b4) (l : List (Nat × I)) (T : TypeId) (x i : aH) : bB C (U l) (.iJ T x i) = cZ (U l) (iJ C (U l) T (aJ (U l) x) (aJ (U l) i)) := by simp only [bB, nQ]
theorem MI (C : b4) (l : List (Nat × I)) (T : TypeId) (x i v : aH) : bB C (U l) (.jF T x i v) = eD (jF C (U l) T (aJ (U l) x) (aJ (U l) i) (aJ (U l) v)) := by simp only [bB, LP]
theorem VM (C : b4) (l : List (Nat × I)) (dst : Option Nat) (os : List bU) (K : Option (List eZ) → al → Prop) :
  (∀ T x i, b9 C (U l) (⟨dst, .iJ T x i, none⟩ :: os) none K = du C dst os K (cZ (U l) (iJ C (U l) T (aJ (U l) x) (aJ (U l) i)))) ∧
  (∀ a T x i, b9 C (U l) (⟨dst, .iJ T x i, none⟩ :: os) (some a) K = dy C l (use (U l) (.iJ T x i)) (c6 (U l) (.iJ T x i)) dst os a K (cZ (U l) (iJ C (U l) T (aJ (U l) x) (aJ (U l) i)))) ∧
  (∀ T x i t b, cu C l dst (.iJ T x i) t b os none K (.bool b) = du C dst os K (cZ (U l) (iJ C (U l) T (aJ (U l) x) (aJ (U l) i)))) ∧
  (∀ a T x i t b, cu C l dst (.iJ T x i) t b os (some a) K (.bool b) = dy C l (t :: use (U l) (.iJ T x i)) (c6 (U l) (.iJ T x i)) dst os a K (cZ (U l) (iJ C (U l) T (aJ (U l) x) (aJ (U l) i)))) :=
 ⟨fun _ _ _ => (iL rfl).trans (congrArg _ (BR ..)), fun _ _ _ _ => (iW rfl).trans (congrArg _ (BR ..)), fun _ _ _ _ _ => (fP rfl).trans (congrArg _ (BR ..)), fun _ _ _ _ _ _ => (fQ rfl).trans (congrArg _ (BR ..))⟩
theorem VN (C : b4) (l : List (Nat × I)) (dst : Option Nat) (os : List bU) (K : Option (List eZ) → al → Prop) :
  (∀ T x i v, b9 C (U l) (⟨dst, .jF T x i v, none⟩ :: os) none K = du C dst os K (eD (jF C (U l) T (aJ (U l) x) (aJ (U l) i) (aJ (U l) v)))) ∧
  (∀ a T x i v, b9 C (U l) (⟨dst, .jF T x i v, none⟩ :: os) (some a) K = dy C l (use (U l) (.jF T x i v)) (c6 (U l) (.jF T x i v)) dst os a K (eD (jF C (U l) T (aJ (U l) x) (aJ (U l) i) (aJ (U l) v)))) :=
 ⟨fun _ _ _ _ => (iL rfl).trans (congrArg _ (MI ..)), fun _ _ _ _ _ => (iW rfl).trans (congrArg _ (MI ..))⟩
def MJ (T : Bool) (k : List UInt8) : Option I → Option I
 | some (.ct (.mp m)) => if T = true then some (.bool (kC k m)) else none
 | _ => none
def MK (T : Bool) (s : al) (y : Nat) (q : List Nat) (k : List UInt8) (b : Bool) : Option I → Option al
 | some (.ct (.mp m)) => if T = true then some (db (hX y s) y (I.put q (.ct (.mp (kD k b m))) (s y))) else none
 | _ => none
theorem ML : (∀ (C : b4) (s : al) (T : TypeId) y q k, iJ C s T (.h y q) (.str k) = MJ (r8 C T) k (I.sub q (s y))) ∧ (∀ k m, MJ true k (some (.ct (.mp m))) = some (.bool (kC k m))) ∧
  (∀ (C : b4) (s : al) (T : TypeId) y q k b, jF C s T (.h y q) (.str k) (.bool b) = MK (r8 C T) s y q k b (I.sub q (s y))) ∧
  (∀ s y q k b m, MK true s y q k b (some (.ct (.mp m))) = some (db (hX y s) y (I.put q (.ct (.mp (kD k b m))) (s y)))) :=
 ⟨fun _ _ _ _ _ _ => rfl, fun _ _ => rfl, fun _ _ _ _ _ _ _ => rfl, fun _ _ _ _ _ _ => rfl⟩
theorem wA {C : b4} {l : List (Nat × I)} {os : List bU} {K : Option (List eZ) → al → Prop} {dst : Option Nat} (T : TypeId) (x : aH) :
  b9 C (U l) (⟨dst, .kc T x, none⟩ :: os) none K = du C dst os K (kc (U l) (aJ (U l) x)) := iL rfl
theorem wB : (∀ (t x k : Nat), jr t (.aa x k) = .aa x k) ∧ (∀ (l : List (Nat × I)) (t x k : Nat), fin (U l) (some t) (.aa x k) = U ((t, .aa x k) :: l)) ∧ (∀ x k : Nat, I.plain (.aa x k) = true) ∧
  (∀ (s : al) (x k : Nat), iX s (.aa x k) = some (.aa x k, s)) ∧ (∀ (t y k : Nat), cR t (.aa y k) = if y = t then .hole else .aa y k) ∧ (∀ (t y k : Nat), cj t (.aa y k) = .aa y k) ∧ (∀ x k : Nat, I.wd (.aa x k) = 1) :=
 ⟨fun _ _ _ => rfl, fun l t x k => by simp only [fin, I.plain, if_true, k7], fun _ _ => rfl, fun _ _ _ => rfl, fun _ _ _ => by simp only [cR], fun _ _ _ => by simp only [cj], fun _ _ => rfl⟩
theorem wC : (∀ (s : al) y, kc s (.h y []) = GY s y (s y)) ∧ (∀ (s : al) y ax, GY s y (.agg ax) = if I.e1 ax then none else some (.aa y 0, s)) ∧
  (∀ k i ds d, AZ (d :: ds) i k = if k = 0 then some i else if d.wd ≤ k then AZ ds (i + 1) (k - d.wd) else none) :=
 ⟨fun s y => by simp only [kc, GY]; cases s y <;> rfl, fun _ _ _ => rfl, fun _ _ _ _ => rfl⟩
theorem BS {α : Type} {l : List α} {i : Nat} {x : α} (h : l[i]? = some x) (u : α → I) (a : I) : ((l.map u).set i a)[i]? = some a := by
 have : i < l.length := (List.getElem?_eq_some_iff.1 h).1
 rw [List.getElem?_set_self (by simpa using this)]
theorem BT {α : Type} (l : List α) (u : α → I) (i : Nat) (a b : I) : ((l.map u).set i a).set i b = (l.map u).set i b := List.set_set ..
end
end Go.cY
