/- Part of a proof that a law returns true for every input. No condition. -/
import Derived.Test.YtjedocbdhlppdaaFwK
namespace Go.dp
theorem B9 {α : Type} {h : Decidable True} (t e : α) : @ite α True h t e = t := if_pos trivial
theorem B_ {α : Type} {h : Decidable False} (t e : α) : @ite α False h t e = e := if_neg id
theorem Ca {α : Type} [BEq α] [ReflBEq α] (a : α) : (a == a) = true := BEq.rfl
theorem Hg {α : Type} (a b : α) : (a ≠ b) = ¬(a = b) := rfl
theorem Hh : j.owner .hole = none ∧ (∀ b, j.owner (.bool b) = none) ∧ j.owner .eo = none ∧ (∀ k n, j.owner (.int k n) = none) ∧ (∀ x, j.owner (.str x) = none) ∧ j.owner .dj = none ∧ j.owner .af = none ∧ (∀ x, j.owner (.slice x) = none) ∧ (∀ n x, j.owner (.ai n x) = none) ∧
  (∀ x, j.owner (.ref x) = none) ∧ (∀ x, j.owner (.aG x) = none) ∧ (∀ x, j.owner (.agg x) = none) ∧ (∀ x, j.owner (.tuple x) = none) ∧ (∀ f c, j.owner (.fn f c) = none) ∧ (∀ x q, j.owner (.h x q) = some x) :=
 ⟨rfl, fun _ => rfl, rfl, fun _ _ => rfl, fun _ => rfl, rfl, rfl, fun _ => rfl, fun _ _ => rfl, fun _ => rfl, fun _ => rfl, fun _ => rfl, fun _ => rfl, fun _ _ => rfl, fun _ _ => rfl⟩
theorem Hi : (¬ False) = True := not_false_eq_true
theorem Hj : (¬ True) = False := not_true_eq_false
theorem Hk : ∀ a b : Nat, (some a = some b) = (a = b) := fun a b => propext ⟨fun h => Option.some.inj h, fun h => congrArg some h⟩
theorem Hl : ∀ s1 : ao, fW (some s1) = some (.hole, s1) := fun _ => rfl
def aX := PLift.up (And.intro Hl <| And.intro Hk <| And.intro Hh <| And.intro Hi <| And.intro Hj <| And.intro @B9 (And.intro @B_ (And.intro @Ca (And.intro @Hg O3.down))))
def cP := PLift.up (And.intro Hl <| And.intro Hk <| And.intro Hh <| And.intro Hi <| And.intro Hj <| And.intro @B9 (And.intro @B_ (And.intro @Ca (And.intro @Hg O4.down))))
def bs := PLift.up (And.intro @Ca <| And.intro @B9 (And.intro @B_ O5.down))
def q_ (l : List Nat) : List Nat := l.foldr (fun x acc => if acc.contains x then acc else x :: acc) []
theorem Hm {x : Nat} : ∀ {l : List Nat}, x ∈ q_ l ↔ x ∈ l
 | [] => Iff.rfl
 | y :: l => by
   have ih := Hm (x := x) (l := l)
   have e : q_ (y :: l) = if (q_ l).contains y then q_ l else y :: q_ l := rfl
   rw [e]
   split
   ·rename_i h
    have bN : y ∈ q_ l := by simpa using h
    constructor
    ·intro aw; exact List.mem_cons_of_mem _ (ih.1 aw)
    ·intro aw
     rcases List.mem_cons.1 aw with rfl | aw
     ·exact bN
     ·exact ih.2 aw
   ·simp only [List.mem_cons, ih]
def Cb : List (List Nat) → List (List Nat) → List (List Nat)
 | done, [] => done
 | done, a :: r => Cb (done ++ [q_ (a ++ a.flatMap fun e => (done[e]?).getD [])]) r
def PN (c_ : List (List Nat)) : List (List Nat) := Cb [] c_
def Cc (c d : List (List Nat)) : Prop := c.length = d.length ∧ ∀ (i x : Nat), x ∈ (c[i]?).getD [] ↔ x ∈ (d[i]?).getD []
theorem Hn : ∀ (r c d : List (List Nat)), Cc c d → Cc (Cb c r) (uS d r)
 | [], c, d, h => h
 | a :: r, c, d, h => by
   refine Hn r _ _ ⟨by simp [h.1], fun i x => ?_⟩
   rcases Nat.lt_trichotomy i c.length with au | au | au
   ·rw [List.getElem?_append_left au, List.getElem?_append_left (by rw [← h.1]; exact au)]
    exact h.2 i x
   ·rw [List.getElem?_append_right (by omega), List.getElem?_append_right (by rw [← h.1]; omega), au, Nat.sub_self, h.1, Nat.sub_self]
    simp only [List.getElem?_cons_zero, Option.getD_some, Hm, List.mem_append, List.mem_flatMap]
    constructor
    ·rintro (aw | ⟨e, he, aw⟩)
     ·exact .inl aw
     ·exact .inr ⟨e, he, (h.2 e x).1 aw⟩
    ·rintro (aw | ⟨e, he, aw⟩)
     ·exact .inl aw
     ·exact .inr ⟨e, he, (h.2 e x).2 aw⟩
   ·rw [List.getElem?_eq_none (by simp; omega), List.getElem?_eq_none (by simp [← h.1]; omega)]
theorem Ho {c d : List (List Nat)} (h : Cc c d) : ∀ (ar : List eL) (aK : Nat) (es : List (Nat × eL)), jV c aK es ar = jV d aK es ar
 | [], _, _ => rfl
 | f :: ar, aK, es => by
   simp only [jV]
   rw [Ho h ar]
   congr 2
   funext e
   congr 1
   rw [Bool.eq_iff_iff]
   simp only [List.contains_iff_mem]
   exact h.2 aK e.1
theorem hd {c_ : List (List Nat)} {aK : Nat} {es : List (Nat × eL)} {ar : List eL} (h : jV (PN c_) aK es ar = true) : jV (nw c_) aK es ar = true := by
 exact (Ho (Hn c_ [] [] ⟨rfl, fun _ _ => Iff.rfl⟩) ar aK es).symm.trans h
abbrev ro (d : Nat) (bz : fy) : cA := ⟨some d, bz, none⟩
theorem a0.cF {C : b1} (bt : C.eO) {f : FuncId} {fn : Func} {c : Code} {fF : J} {fx : List Nat} {as outs : List j} {r : j} (g2 : List ResultVar) (l : List (Nat × j)) (bY : C.P.funcs[f]? = some fn) (U : fn.body = some c)
  (lo : (fn.name == "runtime.NumGoroutine") = false) (ab : bS ⟨fn.ntmps, fx⟩ c = some fF.strip) (bh : as.length ≤ fn.ntmps) (hr : fn.results.toList = g2) (hl : num 0 as = l)
  (h : ∀ Q : Exit → ao → Prop, (∀ s, gg (Ends C fx g2 r outs) s → Q .ret s) → (∀ s, gg (Ends C fx g2 r outs) s → Q .normal s) → c4 C fF Q (R l)) (ay : fF.plain = true := by kernel_rfl) : a0 C f as r outs := by
 subst hr hl
 exact a0.OP bt bY U lo ab bh h ay
theorem oQ.cF {C : b1} (bt : C.eO) {f : FuncId} {fn : Func} {c : Code} {fF : J} {fx : List Nat} {as outs : List j} {r : j} {k m : Nat} (g2 : List ResultVar) (l : List (Nat × j)) (bY : C.P.funcs[f]? = some fn) (U : fn.body = some c)
  (lo : (fn.name == "runtime.NumGoroutine") = false) (ab : bS ⟨fn.ntmps, fx⟩ c = some fF.strip) (bh : as.length ≤ fn.ntmps) (aB : fF.n_ (B7 C f fx as.length m k)) (hr : fn.results.toList = g2) (hl : num 0 as = l)
  (h : ∀ Q : Exit → ao → Prop, (∀ s, gg (Ends C fx g2 r outs) s → Q .ret s) → (∀ s, gg (Ends C fx g2 r outs) s → Q .normal s) → c4 C fF Q (R l)) : oQ C f m k as r outs := by
 subst hr hl
 exact oQ.of_wp bt bY U lo ab bh aB h
theorem eT {b : Bool} (h : (!b) = true) : b = false := by cases b <;> first | rfl | cases h
theorem dz {b : Bool} (h : (!b) = false) : b = true := by cases b <;> first | rfl | cases h
theorem Cd {α : Type} {sz : Nat} {o : Bool × α → j} {u : α → j} (h : (o ∘ fun x => (false, x)) = u) (e : List α) : eH (.ai sz (e.map u)) (.ai sz ((e.map fun x => (false, x)).map o)) := by
 rw [List.map_map, h]; exact .refl _
def pU (p : List Nat) (ros : List cA) : List cA := p.map fun i => ros.getD i ⟨none, .bad, none⟩
def mX (c_ : List (List Nat)) (b a : Nat) : List (List Nat) := c_.set b (a :: (c_[b]?).getD [])
def tb (p : List Nat) (c_ : List (List Nat)) : List (List Nat) := p.map fun i => ((c_[i]?).getD []).map fun e => p.idxOf e
theorem u1 {p : List Nat} {i : Nat} (h : i ∈ p) : p[p.idxOf i]? = some i := by
 have hl := List.idxOf_lt_length_of_mem h
 rw [List.getElem?_eq_getElem hl, List.getElem_idxOf hl]
theorem PO {p : List Nat} {i aK : Nat} (au : i ∈ p) (cS : aK ∈ p) (h : p.idxOf i = p.idxOf aK) : i = aK := by
 have a := u1 au
 rw [h, u1 cS] at a
 exact (Option.some.inj a).symm
theorem Hp {C : b1} {ros : List cA} {p : List Nat} (ay : ∀ i ∈ p, i < ros.length) : ∀ (l : List Nat) (s : ao) (K : ao → Prop), (∀ i ∈ l, i ∈ p) → ig C (pU p ros) s (l.map p.idxOf) K → ig C ros s l K
 | [], _, _, _, h => h
 | i :: l, s, K, hl, h => by
   have au := hl i (by simp)
   have a1 : (pU p ros)[p.idxOf i]? = some (ros.getD i ⟨none, .bad, none⟩) := by
    rw [pU, List.getElem?_map, u1 au]; rfl
   have bg : ros[i]? = some (ros.getD i ⟨none, .bad, none⟩) := by
    rw [List.getD_eq_getElem?_getD, List.getElem?_eq_getElem (ay i au)]; rfl
   rw [List.map_cons, ig, a1] at h
   rw [ig, bg]
   exact xp h fun s1 ag => Hp ay l s1 K (fun aK cS => hl aK (by simp [cS])) ag
theorem PQ {c_ : List (List Nat)} {p l : List Nat} (bh : p.Nodup) (hm : ∀ i, i ∈ p ↔ i < c_.length) (h : nq c_ l) : nq (tb p c_) (l.map p.idxOf) := by
 obtain ⟨ag, ah, aM⟩ := h
 have tc : ∀ i ∈ l, i ∈ p := fun i au => (hm i).2 ((ah i).1 au)
 refine ⟨?_, fun aK => ?_, ?_⟩
 ·rw [List.Nodup, List.pairwise_map]
  exact List.Pairwise.imp_of_mem (fun bX U h8 e => h8 (PO (tc _ bX) (tc _ U) e)) ag
 ·rw [tb, List.length_map, List.mem_map]
  constructor
  ·rintro ⟨i, au, rfl⟩
   exact List.idxOf_lt_length_of_mem (tc i au)
  ·intro cS
   have Ce : p[aK] ∈ p := List.getElem_mem cS
   refine ⟨p[aK], (ah _).2 ((hm _).1 Ce), ?_⟩
   have e := u1 Ce
   have eC := List.idxOf_lt_length_of_mem Ce
   rw [List.getElem?_eq_getElem eC] at e
   exact (List.getElem_inj bh).1 (Option.some.inj e)
 ·intro u aK v hu e he
  obtain ⟨q0, w0, rfl, rfl, hw⟩ := List.map_eq_append_iff.1 hu
  obtain ⟨i, v0, rfl, rfl, rfl⟩ := List.map_eq_cons_iff.1 hw
  have au : i ∈ p := tc i (by simp)
  rw [tb, List.getElem?_map, u1 au] at he
  simp only [Option.map_some, Option.getD_some, List.mem_map] at he
  obtain ⟨gd, PR, rfl⟩ := he
  exact List.mem_map_of_mem (aM q0 i v0 rfl gd PR)
theorem Hq {c_ : List (List Nat)} {l u v : List Nat} {a b : Nat} (h : nq c_ l) (hl : l = u ++ a :: v) (U : b ∈ v) (h8 : a ≠ b) : nq (mX c_ b a) l := by
 obtain ⟨ag, ah, aM⟩ := h
 refine ⟨ag, fun i => by rw [ah, mX, List.length_set], fun pn i v2 hu e he => ?_⟩
 by_cases Hr : i = b
 ·subst Hr
  have eC : i < c_.length := (ah i).1 (by rw [hl]; simp [U])
  rw [mX, List.getElem?_set_self eC] at he
  simp only [Option.getD_some, List.mem_cons] at he
  rcases he with rfl | he
  ·have e := hl.symm.trans hu
   rcases List.append_eq_append_iff.1 e with ⟨c, po, ks⟩ | ⟨c, po, ks⟩
   ·cases c with
    | nil => simp at ks; exact absurd ks.1 h8
    | cons x c => simp at ks; rw [po, ks.1]; simp
   ·cases c with
    | nil => simp at ks; exact absurd ks.1.symm h8
    | cons x c =>
      simp at ks
      exfalso
      rw [hl, po, ← ks.1] at ag
      have := (List.nodup_append.1 ag).2.2 i (by simp) i (by simp [U])
      exact this rfl
  ·exact aM pn i v2 hu e he
 ·rw [mX, List.getElem?_set_ne (fun e => Hr e.symm)] at he
  exact aM pn i v2 hu e he
theorem PS {c_ : List (List Nat)} {l : List Nat} {a b : Nat} (h : nq c_ l) (bX : a < c_.length) (U : b < c_.length) (h8 : a ≠ b) : nq (mX c_ b a) l ∨ nq (mX c_ a b) l := by
 obtain ⟨u, v, hl⟩ := List.append_of_mem ((h.2.1 a).2 bX)
 have ph := (h.2.1 b).2 U
 rw [hl] at ph
 simp only [List.mem_append, List.mem_cons] at ph
 rcases ph with PT | rfl | PU
 ·obtain ⟨oI, pn, rfl⟩ := List.append_of_mem PT
  exact .inr (Hq h (u := oI) (v := pn ++ a :: v) (by rw [hl]; simp) (by simp) (fun e => h8 e.symm))
 ·exact absurd rfl h8
 ·exact .inl (Hq h hl PU h8)
theorem PV {C : b1} {ros : List cA} {c_ : List (List Nat)} {s : ao} {K : ao → Prop} (a b : Nat) (p : List Nat) (hlen : c_.length = ros.length) (az : (decide (a < c_.length) && decide (b < c_.length) && decide (a ≠ b) && decide p.Nodup && (List.range c_.length).all (fun i => p.contains i) && p.all (fun i => decide (i < c_.length))) = true)
  (ag : bZ C s ros (some []) (fun acc s => jV (nw (mX c_ b a)) 0 [] (acc.getD []).reverse = true ∧ K s))
  (ah : bZ C s (pU p ros) (some []) (fun acc s => jV (nw (tb p (mX c_ a b))) 0 [] (acc.getD []).reverse = true ∧ K s)) : ∀ l, nq c_ l → ig C ros s l K := by
 simp only [Bool.and_eq_true, decide_eq_true_eq, List.all_eq_true] at az
 obtain ⟨⟨⟨⟨⟨bX, U⟩, h8⟩, bh⟩, gG⟩, Hs⟩ := az
 intro l hl
 have Ht : ∀ i aK, (mX c_ i aK).length = c_.length := fun i aK => by rw [mX, List.length_set]
 rcases PS hl bX U h8 with h | h
 ·exact xx ((Ht _ _).trans hlen) ag l h
 ·have hm : ∀ i, i ∈ p ↔ i < c_.length := by
   intro i
   refine ⟨Hs i, fun au => ?_⟩
   simpa using gG i (List.mem_range.2 au)
  have tc := PQ bh (fun i => by rw [hm, Ht]) h
  refine Hp (fun i au => by rw [← hlen]; exact Hs i au) l s K (fun i au => (hm i).2 ((hl.2.1 i).1 au)) ?_
  exact xx (by rw [tb, pU, List.length_map, List.length_map]) ah _ tc
theorem Hu {C : b1} {Q : Exit → ao → Prop} {l : List (Nat × j)} {ros : List cA} {c_ : List (List Nat)} {k : List Nat} {c : J} (a b : Nat) (p : List Nat) (hlen : c_.length = ros.length) (az : (decide (a < c_.length) && decide (b < c_.length) && decide (a ≠ b) && decide p.Nodup && (List.range c_.length).all (fun i => p.contains i) && p.all (fun i => decide (i < c_.length))) = true)
  (dr : List (Nat × j)) (ag : ∀ P : List (Nat × j) → Prop, P dr → bZ C (R l) ros (some []) (fun acc s => jV (nw (mX c_ b a)) 0 [] (acc.getD []).reverse = true ∧ P (hY k s)))
  (ah : ∀ P : List (Nat × j) → Prop, P dr → bZ C (R l) (pU p ros) (some []) (fun acc s => jV (nw (tb p (mX c_ a b))) 0 [] (acc.getD []).reverse = true ∧ P (hY k s))) (aB : c4 C c Q (R dr)) :
  c4 C (.seq (.fA ros c_ (some k)) c) Q (R l) :=
 PV (K := fun s => gg (c4 C c Q) (R (hY k s))) a b p hlen az (ag (fun l => gg (c4 C c Q) (R l)) (.inl aB)) (ah (fun l => gg (c4 C c Q) (R l)) (.inl aB))
end Go.dp
