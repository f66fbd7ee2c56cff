/- Part of a proof that a law returns true for every input. No condition. -/
import Derived.Test.YtobljppjkklojaaFwH
import Derived.Laws.Externs
import Derived.Lib.Bytealg
namespace Go.cM
theorem aX.wide {C : bN} {f : FuncId} {as : List j} {r g0 : j} {outs : List j} (h : aX C f as r outs) (hw : dS r g0) (aP : r.tree = true) (bP : j.c2 outs = []) : aX C f as g0 outs := by
 intro w F X S vs hl aO
 refine lr.mono (h w F X S vs hl aO) ?_
 rintro v aB ⟨bA, aH, bq⟩
 have aaj : ∀ (k : Nat) (l : List j), j.c2 ((num k l).map (·.2)) = j.c2 l := by
  intro k l
  induction l generalizing k with
  | nil => rfl
  | cons a l ih => simp only [num, List.map_cons, j.c2, ih]
 have qH : ∀ (k : Nat) (l : List j) (p : Nat × j), p ∈ num k l → ∃ i, l[i]? = some p.2 ∧ p.1 = k + i := by
  intro k l
  induction l generalizing k with
  | nil => intro p ao; cases ao
  | cons a l ih =>
    intro p ao
    rcases List.mem_cons.1 ao with rfl | ao
    ·exact ⟨0, rfl, rfl⟩
    ·obtain ⟨i, aa, ab⟩ := ih (k + 1) p ao
     exact ⟨i + 1, by simpa using aa, by omega⟩
 have um : j.c2 (g0 :: outs) = [] := by
  have : g0.tree = true := hw.tree aP
  simp [j.c2, xN this, bP]
 have Kj : p9 (eI (r :: outs)) (num 0 (g0 :: outs)) := by
  intro p ao
  obtain ⟨i, aa, ab⟩ := qH 0 _ p ao
  have az : p.1 = i := by omega
  cases i with
  | zero =>
    simp at aa
    right
    rw [az, ← aa]
    refine ⟨aP, hw, ?_⟩
    intro b2 dj
    refine .inl fun hm => ?_
    have : b2.2.U = [] := by
     have key : ∀ (as : List j) (a : j), a ∈ as → j.c2 as = [] → a.U = [] := by
      intro as
      induction as with
      | nil => intro a h; cases h
      | cons b as ih =>
        intro a h he
        simp only [j.c2, List.append_eq_nil_iff] at he
        rcases List.mem_cons.1 h with rfl | h
        ·exact he.1
        ·exact ih a h he.2
     obtain ⟨ar, aV, _⟩ := qH 0 _ b2 dj
     exact key _ _ (List.mem_of_getElem? aV) um
    rw [this] at hm; cases hm
  | succ i =>
    left
    rw [az]
    simp only [eI, List.getD]
    simp at aa
    simp [aa]
 obtain ⟨oR, c6, ab⟩ := bq.BA Kj
 refine ⟨oR, c6, ?_⟩
 rw [yb]
 exact ab
section
variable {C : bN} {l : List (Nat × j)} {os : List cq} {K : Option (List ea) → ag → Prop} {dst : Option Nat}
def nd (s : ag) : List b_ → Prop
 | [] => True
 | p :: ps => p.ok s ∧ nd s ps
theorem yA {s : ag} : ∀ {ps : List b_}, nd s ps → ∀ p ∈ ps, p.ok s
 | p :: ps, h, q, cT => by
   rcases List.mem_cons.1 cT with rfl | cT
   ·exact h.1
   ·exact yA h.2 q cT
def o9 : List b_ → Bool
 | [] => true
 | p :: ps => p.o.cY && o9 ps
theorem yB : ∀ {ps : List b_}, o9 ps = true → ∀ p ∈ ps, p.o.cY = true
 | p :: ps, h, q, cT => by
   simp only [o9, Bool.and_eq_true] at h
   rcases List.mem_cons.1 cT with rfl | cT
   ·exact h.1
   ·exact yB h.2 q cT
theorem Kk {f : ax} {args : List ax} {g : FuncId} {caps : List j} {K : List Nat → j → ag → Prop} (ps : List b_) (r : j)
  (aa : aD (I l) f = .fn g caps) (eJ : j.dz caps = true) (ab : ps.map (·.a) = gC (I l) args ++ caps) (aE : nd (I l) ps) (aZ : gK ps = true)
  (bG : aX C g (ps.map (·.d)) r (ps.map (·.o))) (b7 : r.res = true) (b5 : ix ps = false ∨ (r.cY && o9 ps) = true) (iM : K (nb ps) r (gf (dR (I l) ps) ps)) : kJ C (I l) (.call f args) K := by
 refine ⟨g, caps, ps, r, aa, eJ, by rw [ab, sq], yA aE, aZ, bG, b7, ?_, iM⟩
 intro hl
 rcases b5 with b5 | b5
 ·rw [b5] at hl; cases hl
 ·rw [Bool.and_eq_true] at b5; exact ⟨b5.1, yB b5.2⟩
theorem Kl {f : ax} {args : List ax} {g : FuncId} {caps : List j} {K : List Nat → j → ag → Prop} {us : List Nat} (ps : List b_) (r : j) (ai : ji (I l) (hx (I l) us) = true)
  (aa : aD (I l) f = .fn g caps) (eJ : j.dz caps = true) (ab : ps.map (·.a) = gC (I l) args ++ caps) (aE : nd (I l) ps) (aZ : gK ps = true)
  (bG : aX C g (ps.map (·.d)) r (ps.map (·.o))) (b7 : r.res = true) (b5 : ix ps = false ∨ (r.cY && o9 ps) = true)
  (iM : ji (gf (dR (I l) ps) ps) (hx (I l) us) = true ∧ K (us ++ nb ps) r (kl (gf (dR (I l) ps) ps) (hx (I l) us))) : kJ C (I l) (.jg f args us) K := by
 refine ⟨ai, g, caps, ps, r, aa, eJ, by rw [ab, sq], yA aE, aZ, bG, b7, ?_, iM⟩
 intro hl
 rcases b5 with b5 | b5
 ·rw [b5] at hl; cases hl
 ·rw [Bool.and_eq_true] at b5; exact ⟨b5.1, yB b5.2⟩
theorem Km {f : ax} {args : List ax} {g : FuncId} {caps : List j} {r : j} {us : List Nat} (ps : List b_) (bG : aX C g (ps.map (·.d)) r (ps.map (·.o)))
  (aa : aD (I l) f = .fn g caps) (eJ : j.dz caps = true) (ab : ps.map (·.a) = gC (I l) args ++ caps) (aE : nd (I l) ps) (aZ : gK ps = true)
  (b7 : r.res = true) (b5 : ix ps = false ∨ (r.cY && o9 ps) = true) (ai : ji (I l) (hx (I l) us) = true)
  (iM : ji (gf (dR (I l) ps) ps) (hx (I l) us) = true ∧ bQ C (fin (kl (gf (dR (I l) ps) ps) (hx (I l) us)) dst r) os none K) : bQ C (I l) (⟨dst, .jg f args us, none⟩ :: os) none K := by
 simp only [bQ, j3, mH]
 exact Kl ps r ai aa eJ ab aE aZ bG b7 b5 iM
theorem C1 (s : ag) : hx s [] = [] ∧ (∀ u us, hx s (u :: us) = (u, s u) :: hx s us) ∧ ji s [] = true ∧ (∀ p L, ji s (p :: L) = (p.2.eo s && ji s L)) ∧ kl s [] = s ∧ (∀ p L, kl s (p :: L) = kl (cS s p.1 p.2) L) ∧
  (∀ x, j.eo s (.h x []) = (s x).own) ∧ (∀ x k, j.eo s (.J x k) = !(s x).plain) ∧ (∀ f c, j.eo s (.fn f c) = j.lu s c) ∧ j.lu s [] = true ∧ (∀ d ds, j.lu s (d :: ds) = (d.eo s && j.lu s ds)) ∧
  (∀ k n, j.eo s (.int k n) = true) ∧ (∀ b, j.eo s (.bool b) = true) ∧ (∀ x, j.eo s (.str x) = true) ∧ (∀ x, j.eo s (.slice x) = true) ∧ (∀ x, j.eo s (.ref x) = true) ∧ j.eo s .a_ = true ∧ j.eo s .cW = true ∧ (∀ al, j.eo s (.agg al) = j.dz al) :=
 ⟨rfl, fun _ _ => rfl, rfl, fun _ _ => rfl, rfl, fun _ _ => rfl, fun _ => rfl, fun _ _ => rfl, fun _ _ => rfl, rfl, fun _ _ => rfl, fun _ _ => rfl, fun _ => rfl, fun _ => rfl, fun _ => rfl, fun _ => rfl, rfl, rfl, fun _ => rfl⟩
theorem mK {f : ax} {args : List ax} {g : FuncId} {caps : List j} {r : j} (ps : List b_) (bG : aX C g (ps.map (·.d)) r (ps.map (·.o)))
  (aa : aD (I l) f = .fn g caps) (eJ : j.dz caps = true) (ab : ps.map (·.a) = gC (I l) args ++ caps) (aE : nd (I l) ps) (aZ : gK ps = true)
  (b7 : r.res = true) (b5 : ix ps = false ∨ (r.cY && o9 ps) = true)
  (iM : bQ C (fin (gf (dR (I l) ps) ps) dst r) os none K) : bQ C (I l) (⟨dst, .call f args, none⟩ :: os) none K := by
 simp only [bQ, j3, mH]
 exact Kk ps r aa eJ ab aE aZ bG b7 b5 iM
theorem l_ (s : ag) : nd s [] = True ∧ (∀ p ps, nd s (p :: ps) = (p.ok s ∧ nd s ps)) ∧ (∀ a d o, b_.ok s ⟨a, false, d, o⟩ = (view s a = some d)) ∧
  (∀ x q d o, b_.ok s ⟨.h x q, true, d, o⟩ = (j.sub q (s x) = some d ∧ d.e9 = true ∧ (o = .hole ∨ (o.e9 = true ∧ oP d o = true)))) := by
 refine ⟨rfl, fun _ _ => rfl, fun _ _ _ => ?_, fun _ _ _ _ => ?_⟩ <;> simp [b_.ok]
theorem kQ : (∀ d, j.own (.bD d) = true) ∧ (∀ n xs, j.own (.ay n xs) = true) ∧ (∀ d, j.e9 (.bD d) = true) ∧ (∀ n xs, j.e9 (.ay n xs) = true) ∧ (∀ al, j.e9 (.agg al) = !j.dz al) ∧
  (∀ d e, oP (.bD d) (.bD e) = true) ∧ (∀ n xs m bM, oP (.ay n xs) (.ay m bM) = true) ∧ (∀ a b, oP (.agg a) (.agg b) = (j.dm a == j.dm b)) := ⟨fun _ => rfl, fun _ _ => rfl, fun _ => rfl, fun _ _ => rfl, fun _ => rfl, fun _ _ => rfl, fun _ _ _ _ => rfl, fun _ _ => rfl⟩
theorem ma (s : ag) : dR s [] = s ∧ gf s [] = s ∧ (∀ p ps, dR s (p :: ps) = dR (b_.take s p) ps) ∧ (∀ p ps, gf s (p :: ps) = gf (b_.ht s p) ps) ∧
  (∀ a d o, b_.take s ⟨a, false, d, o⟩ = s) ∧ (∀ a d o, b_.ht s ⟨a, false, d, o⟩ = s) ∧ (∀ x q d o, b_.take s ⟨.h x q, true, d, o⟩ = cS (g9 x s) x (j.put q d.cD (s x))) ∧
  (∀ a d, b_.ht s ⟨a, true, d, .hole⟩ = s) ∧ (∀ x q d e, b_.ht s ⟨.h x q, true, d, .bD e⟩ = cS (jS x s) x (j.put q (.bD e) (s x))) ∧
  (∀ x q d n xs, b_.ht s ⟨.h x q, true, d, .ay n xs⟩ = cS (jS x s) x (j.put q (.ay n xs) (s x))) ∧
  (∀ x q d al, b_.ht s ⟨.h x q, true, d, .agg al⟩ = cS (jS x s) x (j.put q (.agg al) (s x))) := by
 refine ⟨rfl, rfl, fun _ _ => rfl, fun _ _ => rfl, ?_, ?_, ?_, ?_, ?_, ?_, ?_⟩ <;> intros <;> simp [b_.take, b_.ht]
def nR (s : ag) (fx rs : List Nat) : Nat → List j → Bool → Prop
 | _, [], _ => True
 | k, o :: r, b => (o = .hole ∨ (o = s k ∧ o.e9 = true ∧ fx.contains k = true ∧ rs.contains k = false)) ∧ nR s fx rs (k + 1) r b
theorem qI {s : ag} {fx : List Nat} {fK : List ResultVar} {outs : List j} (h : nR s fx (fK.map ic) 0 outs true) : ∀ (i : Nat) (o : j), outs[i]? = some o → o = .hole ∨ (o = s i ∧ o.e9 = true ∧ i ∈ fx ∧ i ∉ fK.map ic) := by
 have key : ∀ (outs : List j) (k : Nat), nR s fx (fK.map ic) k outs true → ∀ (i : Nat) (o : j), outs[i]? = some o → o = .hole ∨ (o = s (k + i) ∧ o.e9 = true ∧ k + i ∈ fx ∧ k + i ∉ fK.map ic) := by
  intro outs
  induction outs with
  | nil => intro k _ i o h; simp at h
  | cons a outs ih =>
    intro k h i o bP
    cases i with
    | zero =>
      simp at bP; subst bP
      rcases h.1 with h | ⟨aa, ab, aE, aZ⟩
      ·exact .inl h
      ·exact .inr ⟨aa, ab, by simpa using aE, by simpa using aZ⟩
    | succ i =>
      have := ih (k + 1) h.2 i o (by simpa using bP)
      rw [show k + (i + 1) = k + 1 + i by omega]; exact this
 intro i o bP
 have := key outs 0 h i o bP
 simpa using this
theorem qJ {s : ag} {fx rs : List Nat} {k : Nat} {l : List j} (h : nR s fx rs (k + 1) l true) : nR s fx rs k (.hole :: l) true := ⟨.inl rfl, h⟩
theorem qK {s : ag} {fx rs : List Nat} {k : Nat} {o : j} {l : List j} (aa : o = s k) (ab : o.e9 = true) (aE : fx.contains k = true) (aZ : rs.contains k = false) (h : nR s fx rs (k + 1) l true) : nR s fx rs k (o :: l) true := ⟨.inr ⟨aa, ab, aE, aZ⟩, h⟩
theorem qL {s : ag} {fx rs : List Nat} {k : Nat} : nR s fx rs k [] true := trivial
theorem C2 {d e : j} (aP : d.tree = true) (bh : d.qe = false) (h : d.share = e) : dS d e := by
 subst h
 exact .share d aP (fun vs e => by subst e; cases bh)
theorem aX.nil {C : bN} {f : FuncId} {args : List j} {r : j} {outs : List j} (i : Nat) (h : aX C f (args.set i (.slice [])) r outs) (az : args[i]? = some .a_) : aX C f args r outs := by
 intro w F X S vs hl aO
 have hv := aO.c7 i
 have U : eI args i = .a_ := by simp [eI, List.getD, az]
 rw [U] at hv
 have aG : aF w F (eI args) (fS vs) (.slice []) (fS vs i) (fun _ => False) := by
  rw [aF.cr rfl] at hv ⊢
  refine ⟨hv.1, ?_⟩
  have ab := hv.2
  simp only [aq] at ab ⊢
  exact .inl ⟨trivial, none, 0, ab, Nat.zero_le _, fun _ => rfl⟩
 have ab := aO.rF (t := i) rfl aG
 have aJ : cS (eI args) i (.slice []) = eI (args.set i (.slice [])) := by
  funext t
  have dL : i < args.length := (List.getElem?_eq_some_iff.1 az).1
  by_cases aP : t = i
  ·subst aP; simp [cS, eI, List.getD, dL]
  ·have : i ≠ t := fun e => aP e.symm
   simp [cS, aP, eI, List.getD, this]
 have aT : cS (fS vs) i (fS vs i) = fS vs := by
  funext t
  by_cases aP : t = i
  ·subst aP; simp [cS]
  ·simp [cS, aP]
 rw [aJ, aT] at ab
 exact h w F X _ vs (by simpa using hl) ab
def ko : Option (j × ag) → Option (j × ag)
 | some (av, s) => if (av.tree && !av.qe) = true then some (av.share, s) else none
 | none => none
theorem yC (s : ag) : (∀ n xs, ko (some (.ay n xs, s)) = some (.slice (j.shares xs), s)) ∧ (∀ d, ko (some (.bD d, s)) = some (.ref d.share, s)) ∧ (∀ ds, ko (some (.agg ds, s)) = some (.agg (j.shares ds), s)) :=
 ⟨fun _ _ => rfl, fun _ => rfl, fun _ => rfl⟩
theorem uL {s : ag} {bd : eD} {K : List Nat → j → ag → Prop} : kJ C s (.shr bd) K = (match ko (br C s bd) with
  | some (av, s1) => K (cH s bd) av s1
  | none => False) := by
 apply propext
 cases he : br C s bd with
 | none =>
   simp only [ko]
   exact ⟨fun ⟨av, s1, aa, _⟩ => (by rw [he] at aa; cases aa), fun h => h.elim⟩
 | some p =>
   obtain ⟨av, s1⟩ := p
   simp only [ko]
   by_cases aP : (av.tree && !av.qe) = true
   ·rw [if_pos aP]
    simp only [Bool.and_eq_true, Bool.not_eq_true'] at aP
    constructor
    ·rintro ⟨Kn, Ko, aa, ab, aE, aZ⟩
     rw [he] at aa
     simp only [Option.some.injEq, Prod.mk.injEq] at aa
     obtain ⟨rfl, rfl⟩ := aa
     exact aZ
    ·intro h
     exact ⟨av, s1, he, aP.1, fun vs e => by subst e; simp [j.qe] at aP, h⟩
   ·rw [if_neg aP]
    constructor
    ·rintro ⟨Kn, Ko, aa, ab, aE, aZ⟩
     rw [he] at aa
     simp only [Option.some.injEq, Prod.mk.injEq] at aa
     obtain ⟨rfl, rfl⟩ := aa
     refine aP ?_
     rw [ab]
     cases av <;> first | rfl | exact (aE _ rfl).elim
    ·intro h; exact h.elim
theorem C3 (s : ag) (d : j) : ct s (some d) = some (d, s) := rfl
theorem yD (bd : eD) : (bQ C (I l) (⟨dst, .shr bd, none⟩ :: os) none K = cO C dst os K (ko (br C (I l) bd))) ∧
  (∀ a, bQ C (I l) (⟨dst, .shr bd, none⟩ :: os) (some a) K = cU C l (use (I l) bd) (cH (I l) bd) dst os a K (ko (br C (I l) bd))) ∧
  (∀ t b, bZ C l dst (.shr bd) t b os none K (.bool b) = cO C dst os K (ko (br C (I l) bd))) ∧
  (∀ a t b, bZ C l dst (.shr bd) t b os (some a) K (.bool b) = cU C l (t :: use (I l) bd) (cH (I l) bd) dst os a K (ko (br C (I l) bd))) := by
 refine ⟨?_, fun a => ?_, fun t b => ?_, fun a t b => ?_⟩
 ·simp only [bQ, j3, uL]
  cases ko (br C (I l) bd) with
  | none => rfl
  | some p => rfl
 ·simp only [bQ, j3, uL]
  cases ko (br C (I l) bd) with
  | none => rfl
  | some p => rfl
 ·simp only [bZ, if_true, uL]
  cases ko (br C (I l) bd) with
  | none => rfl
  | some p => rfl
 ·simp only [bZ, if_true, uL]
  cases ko (br C (I l) bd) with
  | none => rfl
  | some p => rfl
def qM (C : bN) (s : ag) : ke → Option (j × ag)
 | .slice e => if (C.T e).ok = true then some (.a_, s) else none
 | _ => none
def nS (C : bN) (s : ag) (y : Nat) (q : List Nat) (b : Int) : ke → Option j → Option (j × ag)
 | .slice e, some (.ay sz xs) => (match gU xs 0 b with
   | some t => if (C.T e).ok = true then (match cd s (.h y q) with | some (_, s1) => some (.ay sz t, s1) | none => none) else none
   | none => none)
 | _, _ => none
theorem qN (C : bN) (s : ag) (T : TypeId) (y : Nat) (q : List Nat) : (∀ k b, dx C s T (.h y q) none (some (.int k b)) = nS C s y q b (C.T T).k (j.sub q (s y))) ∧
  (∀ k b dh, dx C s T (.h y q) (some (.int dh 0)) (some (.int k b)) = nS C s y q b (C.T T).k (j.sub q (s y))) ∧
  (∀ e sz xs b t, gU xs 0 b = some t → nS C s y q b (.slice e) (some (.ay sz xs)) = if (C.T e).ok = true then (match cd s (.h y q) with | some (_, s1) => some (.ay sz t, s1) | none => none) else none) := by
 have key : ∀ (cy : Option j) (k : IntKind) (b : Int), hG 0 cy = some 0 → dx C s T (.h y q) cy (some (.int k b)) = nS C s y q b (C.T T).k (j.sub q (s y)) := by
  intro cy k b bp
  simp only [dx]
  generalize (C.T T).k = iJ
  cases iJ <;> first | rfl | skip
  rename_i e
  cases U : j.sub q (s y) with
  | none => simp only [U]; rfl
  | some d =>
    cases d with
    | ay sz xs =>
      have Kp : hG xs.length (some (.int k b)) = if 0 ≤ b then some b.toNat else none := rfl
      simp only [U, bp, Kp, nS, gU]
      by_cases J : 0 ≤ b
      ·by_cases aj : b ≤ xs.length
       ·have aa : b.toNat ≤ xs.length := by omega
        simp only [J, aj, aa, if_true, true_and, Int.le_refl, and_self, Int.toNat_zero, List.drop_zero]
        rfl
       ·have aa : ¬ b.toNat ≤ xs.length := by omega
        simp only [J, aj, aa, if_true, if_false, and_false, false_and, Int.le_refl]
      ·simp only [J, if_false, false_and, and_false]
    | _ => simp only [U]; rfl
 refine ⟨fun k b => key _ _ _ rfl, fun k b dh => key _ _ _ (by simp [hG]), fun e sz xs b t h => ?_⟩
 simp only [nS, h]
def yE (s : ag) (y : Nat) : j → Option (j × ag)
 | .agg ds => if j.dz ds then none else some (.J y 0, s)
 | _ => none
theorem uM (C : bN) (s : ag) (T e : TypeId) (x : ax) (aw : (C.T T).k = .slice e) (ai : aD s x = .a_) : br C s (.cap T x) = some (.int .i64 0, s) := by
 simp only [br, aw, ai]
theorem uN (T : TypeId) (x : ax) : (bQ C (I l) (⟨dst, .cap T x, none⟩ :: os) none K = cO C dst os K (br C (I l) (.cap T x))) ∧
  (∀ a, bQ C (I l) (⟨dst, .cap T x, none⟩ :: os) (some a) K = cU C l (use (I l) (.cap T x)) (cH (I l) (.cap T x)) dst os a K (br C (I l) (.cap T x))) :=
 ⟨hh rfl, fun _ => hy rfl⟩
theorem C4 (C : bN) (s : ag) (e : TypeId) : qM C s (.slice e) = if (C.T e).ok = true then some (.a_, s) else none := rfl
theorem mb {C : bN} {l : List (Nat × j)} {os : List cq} {K : Option (List ea) → ag → Prop} {dst : Option Nat} (T : TypeId) (x : ax) :
  bQ C (I l) (⟨dst, .h4 T x, none⟩ :: os) none K = cO C dst os K (h4 (I l) (aD (I l) x)) := hh rfl
theorem mc : (∀ (t x k : Nat), hr t (.J x k) = .J x k) ∧ (∀ (l : List (Nat × j)) (t x k : Nat), fin (I l) (some t) (.J x k) = I ((t, .J x k) :: l)) ∧ (∀ x k : Nat, j.plain (.J x k) = true) ∧
  (∀ (s : ag) (x k : Nat), hz s (.J x k) = some (.J x k, s)) ∧ (∀ (t y k : Nat), ca t (.J y k) = if y = t then .hole else .J y k) ∧ (∀ (t y k : Nat), bJ t (.J y k) = .J y k) ∧ (∀ x k : Nat, j.wd (.J x k) = 1) :=
 ⟨fun _ _ _ => rfl, fun l t x k => by simp only [fin, j.plain, if_true, i0], fun _ _ => rfl, fun _ _ _ => rfl, fun _ _ _ => by simp only [ca], fun _ _ _ => by simp only [bJ], fun _ _ => rfl⟩
theorem me : (∀ (s : ag) y, h4 s (.h y []) = yE s y (s y)) ∧ (∀ (s : ag) y al, yE s y (.agg al) = if j.dz al then none else some (.J y 0, s)) ∧
  (∀ k i ds d, tQ (d :: ds) i k = if k = 0 then some i else if d.wd ≤ k then tQ ds (i + 1) (k - d.wd) else none) :=
 ⟨fun s y => by simp only [h4, yE]; cases s y <;> rfl, fun _ _ _ => rfl, fun _ _ _ _ => rfl⟩
theorem C5 (C : bN) (s : ag) (T : TypeId) : dx C s T .a_ none none = qM C s (C.T T).k ∧ (∀ k, dx C s T .a_ none (some (.int k 0)) = qM C s (C.T T).k) ∧ (∀ k, dx C s T .a_ (some (.int k 0)) none = qM C s (C.T T).k) ∧
  (∀ k dh, dx C s T .a_ (some (.int k 0)) (some (.int dh 0)) = qM C s (C.T T).k) ∧ (∀ e, qM C s (.slice e) = if (C.T e).ok = true then some (.a_, s) else none) := by
 refine ⟨?_, fun k => ?_, fun k => ?_, fun k dh => ?_, fun _ => rfl⟩ <;> (simp only [dx]; generalize (C.T T).k = iJ; cases iJ <;> rfl)
theorem C6 (T bn : TypeId) (x y : ax) : (bQ C (I l) (⟨dst, .hH T bn x y, none⟩ :: os) none K = cO C dst os K (ct (I l) (hH C T bn (aD (I l) x) (aD (I l) y)))) ∧
  (∀ a, bQ C (I l) (⟨dst, .hH T bn x y, none⟩ :: os) (some a) K = cU C l (use (I l) (.hH T bn x y)) (cH (I l) (.hH T bn x y)) dst os a K (ct (I l) (hH C T bn (aD (I l) x) (aD (I l) y)))) := by
 have e : br C (I l) (.hH T bn x y) = ct (I l) (hH C T bn (aD (I l) x) (aD (I l) y)) := by simp only [br, kK]
 exact ⟨(hh rfl).trans (by rw [e]), fun a => (hy rfl).trans (by rw [e])⟩
theorem sv {α : Type} {l : List α} {i : Nat} {x : α} (h : l[i]? = some x) (u : α → j) (a : j) : ((l.map u).set i a)[i]? = some a := by
 have : i < l.length := (List.getElem?_eq_some_iff.1 h).1
 rw [List.getElem?_set_self (by simpa using this)]
theorem sw {α : Type} (l : List α) (u : α → j) (i : Nat) (a b : j) : ((l.map u).set i a).set i b = (l.map u).set i b := List.set_set ..
theorem C7 {α : Type} (xs : List α) : gU xs 0 0 = some [] := by unfold gU; rw [if_pos ⟨Int.le_refl _, by omega⟩]; rfl
end
end Go.cM
