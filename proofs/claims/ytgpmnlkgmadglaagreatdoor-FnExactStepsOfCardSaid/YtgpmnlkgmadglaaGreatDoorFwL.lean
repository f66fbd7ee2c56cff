/- Part of a proof that a law returns true for every input. No condition. -/
import Derived.Test.YtgpmnlkgmadglaaGreatDoorFwK
namespace Go.cY
theorem Hb {α : Type} {h : Decidable True} (t e : α) : @ite α True h t e = t := if_pos trivial
theorem Hc {α : Type} {h : Decidable False} (t e : α) : @ite α False h t e = e := if_neg id
theorem Hd {α : Type} [BEq α] [ReflBEq α] (a : α) : (a == a) = true := BEq.rfl
theorem Nj {α : Type} (a b : α) : (a ≠ b) = ¬(a = b) := rfl
theorem Nk : I.owner .hole = none ∧ (∀ b, I.owner (.bool b) = none) ∧ I.owner .eT = none ∧ (∀ k n, I.owner (.int k n) = none) ∧ (∀ x, I.owner (.str x) = none) ∧ I.owner .da = none ∧ I.owner .bo = none ∧ (∀ x, I.owner (.slice x) = none) ∧ (∀ n x, I.owner (.au n x) = none) ∧
  (∀ x, I.owner (.ref x) = none) ∧ (∀ x, I.owner (.aU x) = none) ∧ (∀ x, I.owner (.agg x) = none) ∧ (∀ x, I.owner (.tuple x) = none) ∧ (∀ f c, I.owner (.fn f c) = none) ∧ (∀ x q, I.owner (.h x q) = some x) :=
 ⟨rfl, fun _ => rfl, rfl, fun _ _ => rfl, fun _ => rfl, rfl, rfl, fun _ => rfl, fun _ _ => rfl, fun _ => rfl, fun _ => rfl, fun _ => rfl, fun _ => rfl, fun _ _ => rfl, fun _ _ => rfl⟩
theorem Nl : (¬ False) = True := not_false_eq_true
theorem Nn : (¬ True) = False := not_true_eq_false
theorem Np : ∀ a b : Nat, (some a = some b) = (a = b) := fun _ _ => propext ⟨fun h => Option.some.inj h, fun h => congrArg some h⟩
theorem Nq : (∀ n, num n [] = []) ∧ (∀ n a as, num n (a :: as) = (n, a) :: num (n + 1) as) := ⟨fun _ => rfl, fun _ _ _ => rfl⟩
theorem Nr : ∀ s1 : al, eD (some s1) = some (.hole, s1) := fun _ => rfl
theorem He : (∀ t o, jr t (.ct o) = .h t []) ∧ (∀ (l : List (Nat × I)) t o, fin (U l) (some t) (.ct o) = U ((t, .ct o) :: oy t l)) ∧ (∀ o, I.plain (.ct o) = false) ∧ (∀ t o, cR t (.ct o) = .ct o) ∧ (∀ t o, cj t (.ct o) = .ct o) ∧
  (∀ o, I.c7 (.ct o) = .hole) ∧ (∀ o, I.wd (.ct o) = 1) ∧ (∀ o, I.gL (.ct o) = true) ∧ (∀ a b, sa (.ct a) (.ct b) = true) ∧ (∀ s x q d o, cP.jj s ⟨.h x q, true, d, .ct o⟩ = db (mc x s) x (I.put q (.ct o) (s x))) ∧ (∀ o, I.ab (.ct o) = []) ∧ (∀ o, I.tree (.ct o) = true) ∧ (∀ a b n m z, gK.ok ⟨.map a b, n, m, z⟩ = true) ∧ (∀ a b n m z, gK.flat ⟨.map a b, n, m, z⟩ = true) :=
 ⟨fun _ _ => rfl, fun l t o => by simp only [fin, I.plain, Bool.false_eq_true, if_false, vR, k7], fun _ => rfl, fun _ _ => by unfold cR; rfl, fun _ _ => by unfold cj; rfl, fun _ => by simp only [I.c7], fun _ => by simp only [I.wd], fun _ => rfl, fun _ _ => rfl, fun _ _ _ _ _ => by simp [cP.jj], fun _ => by simp only [I.ab], fun _ => rfl, fun _ _ _ _ _ => rfl, fun _ _ _ _ _ => rfl⟩
def aP := PLift.up (And.intro He <| And.intro Nq <| And.intro Nr <| And.intro Np <| And.intro Nk <| And.intro Nl <| And.intro Nn <| And.intro @Hb (And.intro @Hc (And.intro @Hd (And.intro @Nj VF.down))))
def cl := PLift.up (And.intro He <| And.intro Nq <| And.intro Nr <| And.intro Np <| And.intro Nk <| And.intro Nl <| And.intro Nn <| And.intro @Hb (And.intro @Hc (And.intro @Hd (And.intro @Nj VG.down))))
def bh := PLift.up (And.intro He <| And.intro @Hd <| And.intro @Hb (And.intro @Hc VH.down))
def tU (l : List Nat) : List Nat := l.foldr (fun x acc => if acc.contains x then acc else x :: acc) []
theorem Ns {x : Nat} : ∀ {l : List Nat}, x ∈ tU l ↔ x ∈ l
 | [] => Iff.rfl
 | y :: l => by
   have ih := Ns (x := x) (l := l)
   have e : tU (y :: l) = if (tU l).contains y then tU l else y :: tU l := rfl
   rw [e]
   split
   ·rename_i h
    have bE : y ∈ tU l := by simpa using h
    constructor
    ·intro aq; exact List.mem_cons_of_mem _ (ih.1 aq)
    ·intro aq
     rcases List.mem_cons.1 aq with rfl | aq
     ·exact bE
     ·exact ih.2 aq
   ·simp only [List.mem_cons, ih]
def Hf : List (List Nat) → List (List Nat) → List (List Nat)
 | done, [] => done
 | done, a :: r => Hf (done ++ [tU (a ++ a.flatMap fun e => (done[e]?).getD [])]) r
def WS (c4 : List (List Nat)) : List (List Nat) := Hf [] c4
def Hg (c d : List (List Nat)) : Prop := c.length = d.length ∧ ∀ (i x : Nat), x ∈ (c[i]?).getD [] ↔ x ∈ (d[i]?).getD []
theorem Nt : ∀ (r c d : List (List Nat)), Hg c d → Hg (Hf c r) (yN d r)
 | [], c, d, h => h
 | a :: r, c, d, h => by
   refine Nt r _ _ ⟨by simp [h.1], fun i x => ?_⟩
   rcases Nat.lt_trichotomy i c.length with an | an | an
   ·rw [List.getElem?_append_left an, List.getElem?_append_left (by rw [← h.1]; exact an)]
    exact h.2 i x
   ·rw [List.getElem?_append_right (by omega), List.getElem?_append_right (by rw [← h.1]; omega), an, Nat.sub_self, h.1, Nat.sub_self]
    simp only [List.getElem?_cons_zero, Option.getD_some, Ns, List.mem_append, List.mem_flatMap]
    constructor
    ·rintro (aq | ⟨e, he, aq⟩)
     ·exact .inl aq
     ·exact .inr ⟨e, he, (h.2 e x).1 aq⟩
    ·rintro (aq | ⟨e, he, aq⟩)
     ·exact .inl aq
     ·exact .inr ⟨e, he, (h.2 e x).2 aq⟩
   ·rw [List.getElem?_eq_none (by simp; omega), List.getElem?_eq_none (by simp [← h.1]; omega)]
theorem Nu {c d : List (List Nat)} (h : Hg c d) : ∀ (ax : List eZ) (j : Nat) (es : List (Nat × eZ)), ku c j es ax = ku d j es ax
 | [], _, _ => rfl
 | f :: ax, j, es => by
   simp only [ku]
   rw [Nu h ax]
   congr 2
   funext e
   congr 1
   rw [Bool.eq_iff_iff]
   simp only [List.contains_iff_mem]
   exact h.2 j e.1
theorem fS {c4 : List (List Nat)} {j : Nat} {es : List (Nat × eZ)} {ax : List eZ} (h : ku (WS c4) j es ax = true) : ku (nP c4) j es ax = true := by
 exact (Nu (Nt c4 [] [] ⟨rfl, fun _ _ => Iff.rfl⟩) ax j es).symm.trans h
abbrev ro (d : Nat) (bD : fG) : bU := ⟨some d, bD, none⟩
abbrev ad (d x : Nat) : bU := ro d (.cz (.t x))
abbrev aD (d x : Nat) : bU := ro d (.fu (.t x))
abbrev aV (d T x : Nat) : bU := ro d (.cS T (.t x))
abbrev bg (d T x k : Nat) : bU := ro d (.di T (.t x) k)
abbrev cV (d T x i : Nat) : bU := ro d (.eX T (.t x) (.t i))
abbrev Nv (d T x i : Nat) : bU := ro d (.idx T (.t x) (.t i))
abbrev cX (d T x : Nat) : bU := ro d (.len T (.t x))
abbrev ga (d x : Nat) : bU := ro d (.fs (.t x))
abbrev cg (d : Nat) (o : BinOp) (T x y : Nat) : bU := ro d (.cf o T (.t x) (.t y))
abbrev aY (d : Nat) (o : BinOp) (T x : Nat) (n : Int) : bU := ro d (.cf o T (.t x) (.c (.int .i64 n)))
abbrev nm (d : Nat) (n : Int) : bU := ro d (.cz (.c (.int .i64 n)))
abbrev bC (d : Nat) (n : Int) : bU := ro d (.fu (.c (.int .i64 n)))
abbrev b1 (d : Nat) (b : Bool) : bU := ro d (.fu (.c (.bool b)))
abbrev j0 (d : Nat) : bU := ro d (.fu (.c .bo))
abbrev jK (d T : Nat) : bU := ro d (.g_ T)
abbrev dM (d g a : Nat) : bU := ro d (.call (.f g) [.t a])
abbrev dN (d g a b : Nat) : bU := ro d (.call (.f g) [.t a, .t b])
abbrev tV (d g a b c : Nat) : bU := ro d (.call (.f g) [.t a, .t b, .t c])
abbrev y0 (d g a b c e : Nat) : bU := ro d (.call (.f g) [.t a, .t b, .t c, .t e])
abbrev kP (d x k : Nat) : bU := ro d (.ex (.t x) k)
abbrev gw (d x : Nat) : bU := ro d (.un .not (.t x))
abbrev qx (d T x : Nat) : bU := ro d (.c9 T 1 [(0, .t x)])
abbrev qy (d T bR x y : Nat) : bU := ro d (.app T bR (.t x) (.t y))
abbrev eM (T x y : Nat) : bU := ⟨none, .gr T (.t x) (.t y), none⟩
abbrev B3 (d A B x : Nat) : bU := ro d (.gv A B (.t x))
theorem bm.Hh {C : b4} (bp : C.eP) {f : FuncId} {fn : Func} {c : Code} {dh : J} {fx : List Nat} {as outs : List I} {r : I} (eY : List ResultVar) (l : List (Nat × I)) (bz : C.P.funcs[f]? = some fn) (aa : fn.body = some c)
  (k6 : (fn.name == "runtime.NumGoroutine") = false) (ab : bu ⟨fn.ntmps, fx⟩ c = some dh.strip) (bc : as.length ≤ fn.ntmps) (ha : fn.results.toList = eY) (hl : num 0 as = l)
  (h : ∀ Q : Exit → al → Prop, (∀ s, dY (Ends C fx eY r outs) s → Q .ret s) → (∀ s, dY (Ends C fx eY r outs) s → Q .normal s) → cy C dh Q (U l)) (aw : dh.plain = true := by kernel_rfl) : bm C f as r outs := by
 subst ha hl
 exact bm.Vs bp bz aa k6 ab bc h aw
theorem mP.Hh {C : b4} (bp : C.eP) {f : FuncId} {fn : Func} {c : Code} {dh : J} {fx : List Nat} {as outs : List I} {r : I} {k m : Nat} (eY : List ResultVar) (l : List (Nat × I)) (bz : C.P.funcs[f]? = some fn) (aa : fn.body = some c)
  (k6 : (fn.name == "runtime.NumGoroutine") = false) (ab : bu ⟨fn.ntmps, fx⟩ c = some dh.strip) (bc : as.length ≤ fn.ntmps) (ar : dh.ni (B0 C f fx as.length m k)) (ha : fn.results.toList = eY) (hl : num 0 as = l)
  (h : ∀ Q : Exit → al → Prop, (∀ s, dY (Ends C fx eY r outs) s → Q .ret s) → (∀ s, dY (Ends C fx eY r outs) s → Q .normal s) → cy C dh Q (U l)) : mP C f m k as r outs := by
 subst ha hl
 exact mP.of_wp bp bz aa k6 ab bc ar h
theorem bm.WT {C : b4} (bp : C.eP) {f : FuncId} {fn : Func} {c : Code} {dh : J} {fx : List Nat} {as outs : List I} {r : I} (eY : List ResultVar) (l : List (Nat × I)) (bz : C.P.funcs[f]? = some fn) (aa : fn.body = some c)
  (k6 : (fn.name == "runtime.NumGoroutine") = false) (ab : bu ⟨fn.ntmps, fx⟩ c = some dh.strip) (bc : as.length ≤ fn.ntmps) (ar : dh.ni (yX C)) (ha : fn.results.toList = eY) (hl : num 0 as = l)
  (h : ∀ Q : Exit → al → Prop, (∀ s, dY (Ends C fx eY r outs) s → Q .ret s) → (∀ s, dY (Ends C fx eY r outs) s → Q .normal s) → cy C dh Q (U l)) : bm C f as r outs := by
 subst ha hl
 exact bm.WQ bp bz aa k6 ab bc ar h
theorem h3 {b : Bool} (h : (!b) = true) : b = false := by cases b <;> first | rfl | cases h
theorem el {b : Bool} (h : (!b) = false) : b = true := by cases b <;> first | rfl | cases h
def qz (p : List Nat) (ros : List bU) : List bU := p.map fun i => ros.getD i ⟨none, .bad, none⟩
def nn (c4 : List (List Nat)) (b a : Nat) : List (List Nat) := c4.set b (a :: (c4[b]?).getD [])
def tW (p : List Nat) (c4 : List (List Nat)) : List (List Nat) := p.map fun i => ((c4[i]?).getD []).map fun e => p.idxOf e
theorem y1 {p : List Nat} {i : Nat} (h : i ∈ p) : p[p.idxOf i]? = some i := by
 have hl := List.idxOf_lt_length_of_mem h
 rw [List.getElem?_eq_getElem hl, List.getElem_idxOf hl]
theorem WU {p : List Nat} {i j : Nat} (an : i ∈ p) (bw : j ∈ p) (h : p.idxOf i = p.idxOf j) : i = j := by
 have a := y1 an
 rw [h, y1 bw] at a
 exact (Option.some.inj a).symm
theorem Nw {C : b4} {ros : List bU} {p : List Nat} (aw : ∀ i ∈ p, i < ros.length) : ∀ (l : List Nat) (s : al) (K : al → Prop), (∀ i ∈ l, i ∈ p) → jk C (qz p ros) s (l.map p.idxOf) K → jk C ros s l K
 | [], _, _, _, h => h
 | i :: l, s, K, hl, h => by
   have an := hl i (by simp)
   have aN : (qz p ros)[p.idxOf i]? = some (ros.getD i ⟨none, .bad, none⟩) := by
    rw [qz, List.getElem?_map, y1 an]; rfl
   have aZ : ros[i]? = some (ros.getD i ⟨none, .bad, none⟩) := by
    rw [List.getD_eq_getElem?_getD, List.getElem?_eq_getElem (aw i an)]; rfl
   rw [List.map_cons, jk, aN] at h
   rw [jk, aZ]
   exact Bt h fun s1 af => Nw aw l s1 K (fun j bw => hl j (by simp [bw])) af
theorem WV {c4 : List (List Nat)} {p l : List Nat} (bc : p.Nodup) (hm : ∀ i, i ∈ p ↔ i < c4.length) (h : pC c4 l) : pC (tW p c4) (l.map p.idxOf) := by
 obtain ⟨af, ag, aF⟩ := h
 have wH : ∀ i ∈ l, i ∈ p := fun i an => (hm i).2 ((ag i).1 an)
 refine ⟨?_, fun j => ?_, ?_⟩
 ·rw [List.Nodup, List.pairwise_map]
  exact List.Pairwise.imp_of_mem (fun bF aa jd e => jd (WU (wH _ bF) (wH _ aa) e)) af
 ·rw [tW, List.length_map, List.mem_map]
  constructor
  ·rintro ⟨i, an, rfl⟩
   exact List.idxOf_lt_length_of_mem (wH i an)
  ·intro bw
   have qA : p[j] ∈ p := List.getElem_mem bw
   refine ⟨p[j], (ag _).2 ((hm _).1 qA), ?_⟩
   have e := y1 qA
   have dZ := List.idxOf_lt_length_of_mem qA
   rw [List.getElem?_eq_getElem dZ] at e
   exact (List.getElem_inj bc).1 (Option.some.inj e)
 ·intro u j v hu e he
  obtain ⟨vK, w0, rfl, rfl, hw⟩ := List.map_eq_append_iff.1 hu
  obtain ⟨i, v0, rfl, rfl, rfl⟩ := List.map_eq_cons_iff.1 hw
  have an : i ∈ p := wH i (by simp)
  rw [tW, List.getElem?_map, y1 an] at he
  simp only [Option.map_some, Option.getD_some, List.mem_map] at he
  obtain ⟨gh, WW, rfl⟩ := he
  exact List.mem_map_of_mem (aF vK i v0 rfl gh WW)
theorem Nx {c4 : List (List Nat)} {l u v : List Nat} {a b : Nat} (h : pC c4 l) (hl : l = u ++ a :: v) (aa : b ∈ v) (jd : a ≠ b) : pC (nn c4 b a) l := by
 obtain ⟨af, ag, aF⟩ := h
 refine ⟨af, fun i => by rw [ag, nn, List.length_set], fun ra i v2 hu e he => ?_⟩
 by_cases Ny : i = b
 ·subst Ny
  have dZ : i < c4.length := (ag i).1 (by rw [hl]; simp [aa])
  rw [nn, List.getElem?_set_self dZ] at he
  simp only [Option.getD_some, List.mem_cons] at he
  rcases he with rfl | he
  ·have e := hl.symm.trans hu
   rcases List.append_eq_append_iff.1 e with ⟨c, mJ, kb⟩ | ⟨c, mJ, kb⟩
   ·cases c with
    | nil => simp at kb; exact absurd kb.1 jd
    | cons x c => simp at kb; rw [mJ, kb.1]; simp
   ·cases c with
    | nil => simp at kb; exact absurd kb.1.symm jd
    | cons x c =>
      simp at kb
      exfalso
      rw [hl, mJ, ← kb.1] at af
      have := (List.nodup_append.1 af).2.2 i (by simp) i (by simp [aa])
      exact this rfl
  ·exact aF ra i v2 hu e he
 ·rw [nn, List.getElem?_set_ne (fun e => Ny e.symm)] at he
  exact aF ra i v2 hu e he
theorem WX {c4 : List (List Nat)} {l : List Nat} {a b : Nat} (h : pC c4 l) (bF : a < c4.length) (aa : b < c4.length) (jd : a ≠ b) : pC (nn c4 b a) l ∨ pC (nn c4 a b) l := by
 obtain ⟨u, v, hl⟩ := List.append_of_mem ((h.2.1 a).2 bF)
 have r5 := (h.2.1 b).2 aa
 rw [hl] at r5
 simp only [List.mem_append, List.mem_cons] at r5
 rcases r5 with WY | rfl | WZ
 ·obtain ⟨qd, ra, rfl⟩ := List.append_of_mem WY
  exact .inr (Nx h (u := qd) (v := ra ++ a :: v) (by rw [hl]; simp) (by simp) (fun e => jd e.symm))
 ·exact absurd rfl jd
 ·exact .inl (Nx h hl WZ jd)
theorem Nz {C : b4} {ros : List bU} {c4 : List (List Nat)} {s : al} {K : al → Prop} (a b : Nat) (p : List Nat) (hlen : c4.length = ros.length) (ao : (decide (a < c4.length) && decide (b < c4.length) && decide (a ≠ b) && decide p.Nodup && (List.range c4.length).all (fun i => p.contains i) && p.all (fun i => decide (i < c4.length))) = true)
  (af : b9 C s ros (some []) (fun acc s => ku (nP (nn c4 b a)) 0 [] (acc.getD []).reverse = true ∧ K s))
  (ag : b9 C s (qz p ros) (some []) (fun acc s => ku (nP (tW p (nn c4 a b))) 0 [] (acc.getD []).reverse = true ∧ K s)) : ∀ l, pC c4 l → jk C ros s l K := by
 simp only [Bool.and_eq_true, decide_eq_true_eq, List.all_eq_true] at ao
 obtain ⟨⟨⟨⟨⟨bF, aa⟩, jd⟩, bc⟩, eK⟩, NA⟩ := ao
 intro l hl
 have sx : ∀ i j, (nn c4 i j).length = c4.length := fun i j => by rw [nn, List.length_set]
 rcases WX hl bF aa jd with h | h
 ·exact BE ((sx _ _).trans hlen) af l h
 ·have hm : ∀ i, i ∈ p ↔ i < c4.length := by
   intro i
   refine ⟨NA i, fun an => ?_⟩
   simpa using eK i (List.mem_range.2 an)
  have wH := WV bc (fun i => by rw [hm, sx]) h
  refine Nw (fun i an => by rw [← hlen]; exact NA i an) l s K (fun i an => (hm i).2 ((hl.2.1 i).1 an)) ?_
  exact BE (by rw [tW, qz, List.length_map, List.length_map]) ag _ wH
theorem W0 {C : b4} {Q : Exit → al → Prop} {l : List (Nat × I)} {ros : List bU} {c4 : List (List Nat)} {k : List Nat} (a b : Nat) (p : List Nat) (hlen : c4.length = ros.length) (ao : (decide (a < c4.length) && decide (b < c4.length) && decide (a ≠ b) && decide p.Nodup && (List.range c4.length).all (fun i => p.contains i) && p.all (fun i => decide (i < c4.length))) = true)
  (dL : List (Nat × I)) (af : ∀ P : List (Nat × I) → Prop, P dL → b9 C (U l) ros (some []) (fun acc s => ku (nP (nn c4 b a)) 0 [] (acc.getD []).reverse = true ∧ P (hR k s)))
  (ag : ∀ P : List (Nat × I) → Prop, P dL → b9 C (U l) (qz p ros) (some []) (fun acc s => ku (nP (tW p (nn c4 a b))) 0 [] (acc.getD []).reverse = true ∧ P (hR k s))) (ar : Q .normal (U dL)) :
  cy C (.kM ros c4 (some k)) Q (U l) :=
 Nz (K := fun s => Q .normal (U (hR k s))) a b p hlen ao (af (fun l => Q .normal (U l)) ar) (ag (fun l => Q .normal (U l)) ar)
theorem NB {C : b4} {Q : Exit → al → Prop} {l : List (Nat × I)} {ros : List bU} {c4 : List (List Nat)} {k : List Nat} {c : J} (a b : Nat) (p : List Nat) (hlen : c4.length = ros.length) (ao : (decide (a < c4.length) && decide (b < c4.length) && decide (a ≠ b) && decide p.Nodup && (List.range c4.length).all (fun i => p.contains i) && p.all (fun i => decide (i < c4.length))) = true)
  (dL : List (Nat × I)) (af : ∀ P : List (Nat × I) → Prop, P dL → b9 C (U l) ros (some []) (fun acc s => ku (nP (nn c4 b a)) 0 [] (acc.getD []).reverse = true ∧ P (hR k s)))
  (ag : ∀ P : List (Nat × I) → Prop, P dL → b9 C (U l) (qz p ros) (some []) (fun acc s => ku (nP (tW p (nn c4 a b))) 0 [] (acc.getD []).reverse = true ∧ P (hR k s))) (ar : cy C c Q (U dL)) :
  cy C (.seq (.kM ros c4 (some k)) c) Q (U l) :=
 Nz (K := fun s => dY (cy C c Q) (U (hR k s))) a b p hlen ao (af (fun l => dY (cy C c Q) (U l)) (.inl ar)) (ag (fun l => dY (cy C c Q) (U l)) (.inl ar))
section
variable {C : b4} {s : al} {l : List (Nat × I)} {Q : Exit → al → Prop}
theorem aQ {fx : List Nat} {eY : List ResultVar} {r : I} (ds : List I) (ag : r = GO ds := by cases gg (by assumption); rfl) (af : eY.map (qp C s) = ds.map some := by rfl) (aF : (eY.map jW).Nodup := by decide) : Ends C fx eY r [] s :=
 jw ds af ag aF Vu
theorem aX {mm : al → Prop} {a b : J} (y2 : ∀ s, mm s → Q .ret s) (h : ∀ ey : Exit → al → Prop, (∀ s, dY (cy C b Q) s → ey .normal s) → (∀ s, mm s → ey .ret s) → (∀ i s, Q (.exit i) s → ey (.exit i) s) → cy C a ey s) : cy C (.seq a b) Q s :=
 Vo fun ey n q x => h ey n (fun s ab => q s (y2 s ab)) x
theorem b5 {mm : al → Prop} {id : Nat} {b : J} (y2 : ∀ s, mm s → Q .ret s) (h : ∀ ey : Exit → al → Prop, (∀ s, Q .normal s → ey .normal s) → (∀ s, mm s → ey .ret s) → (∀ s, Q .normal s → ey (.exit id) s) → (∀ i s, i ≠ id → Q (.exit i) s → ey (.exit i) s) → cy C b ey s) : cy C (.block id b) Q s :=
 Vq fun ey n q b x => h ey n (fun s ab => q s (y2 s ab)) b x
theorem eG {mm : al → Prop} {b : J} (y2 : ∀ s, mm s → Q .ret s) (h : ∀ ey : Exit → al → Prop, (∀ s, dY (ei C b Q) s → ey .normal s) → (∀ s, mm s → ey .ret s) → (∀ i s, Q (.exit i) s → ey (.exit i) s) → cy C b ey s) : ei C b Q s :=
 Vr fun ey n q x => h ey n (fun s ab => q s (y2 s ab)) x
theorem a8 {β : Type} {c : aH} {t e : J} {b : Bool} {x y : Option β} {r : β} (h : cond b x y = some r) (af : b = true → x = some r → cy C t Q s) (ag : b = false → y = some r → cy C e Q s) (ao : aJ s c = .bool b := by rfl) : cy C (.cond c t e) Q s := by
 rcases dU h with ⟨rfl, h⟩ | ⟨rfl, h⟩
 ·exact lB ao (af rfl h)
 ·exact wx ao (ag rfl h)
end
end Go.cY
