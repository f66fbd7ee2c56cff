/- Part of a proof that a law returns true for every input. No condition. -/
import Derived.Test.YtbemmmimelklkaaGreatFwI
namespace Go.dg
def lJ (C : cn) (f : FuncId) (m k : Nat) (as : List I) (r : I) (outs : List I) : Prop :=
 ∀ (w : World) (F X : Nat → Prop) (S : Nat → Nat → Prop) (vs : List Value), vs.length = as.length →
   (∃ b ty fr, vs.getD k undef = .pointer (some ⟨b, 0, none⟩) ∧ w.heap[b]? = some (.cells #[.func (.func f) #[] (vs.drop m).toArray] ty fr) ∧ F b ∧ ¬ X b) →
   bT w F X F S (gf as) (hL vs) w →
   nf C.P f vs.toArray w fun v aS => ∃ bV a1, bT w F X bV a1 (gf (r :: outs)) (hL (v :: vs)) aS
section
variable {C : cn} {w0 w : World} {F0 X F bV : Nat → Prop} {S a1 : Nat → Nat → Prop} {n : Fr} {ρ : Nat → Value} {s az : au} {aF jR : Nat → Value} {a : Act} {av : I} {Q : Exit → Act → World → Prop} {aS : World}
theorem bT.base (h : bT w0 F0 X F S s aF w) : bT w F (fun b => ∃ u, S u b) F S s aF w where
 hP := fun _ h => h
 h7 := fun _ h => .inl h
 gB := h.gB
 fz := h.fz
 gH := h.gH
 gm := h.gm
 ew := fun u b ae => .inl ⟨u, ae⟩
 en := h.en
 old := fun _ _ _ => rfl
 size := Nat.le_refl _
 os := rfl
 tape := rfl
 output := rfl
theorem bT.Rq (h : bT w0 F0 X F S s aF w) (bB : bT w F (fun b => ∃ u, S u b) bV a1 az jR aS) : bT w0 F0 X bV a1 az jR aS where
 hP := fun b ae => bB.hP b (h.hP b ae)
 h7 := fun b ae => by
  rcases bB.h7 b ae with ae | ⟨u, ae⟩ | ae
  ·exact h.h7 b ae
  ·exact .inr (h.ew u b ae)
  ·exact .inr (.inr (Nat.le_trans h.size ae))
 gB := bB.gB
 fz := bB.fz
 gH := bB.gH
 gm := bB.gm
 ew := fun u b ae => by
  rcases bB.ew u b ae with ⟨u, ae⟩ | ae
  ·exact h.ew u b ae
  ·exact .inr (Nat.le_trans h.size ae)
 en := bB.en
 old := fun b ae kR => by
  refine (bB.old b (Nat.lt_of_lt_of_le ae h.size) fun ⟨u, hu⟩ => ?_).trans (h.old b ae kR)
  rcases h.ew u b hu with aA | aA
  ·exact kR aA
  ·omega
 size := Nat.le_trans h.size bB.size
 os := bB.os.trans h.os
 tape := bB.tape.trans h.tape
 output := bB.output.trans h.output
theorem Jr (C : cn) (K : au → Prop) : ∀ (rs pre post : List cI) (s : au), k2 C s rs K → jC C (pre ++ (rs ++ post)) s ((List.range rs.length).map (· + pre.length)) K := by
 intro rs
 induction rs with
 | nil => intro pre post s h; exact h
 | cons r rs ih =>
   intro pre post s h
   rw [List.length_cons, List.range_succ_eq_map, List.map_cons, List.map_map]
   simp only [jC, Nat.zero_add]
   rw [List.getElem?_append_right (Nat.le_refl _)]
   simp only [Nat.sub_self, List.cons_append, List.getElem?_cons_zero]
   have key : ∀ s1, k2 C s1 rs K → jC C (pre ++ r :: (rs ++ post)) s1 ((List.range rs.length).map ((fun x => x + pre.length) ∘ Nat.succ)) K := by
    intro s1 ai
    have := ih (pre ++ [r]) post s1 ai
    simp only [List.append_assoc, List.singleton_append, List.length_append, List.length_singleton] at this
    have e : ((fun x => x + pre.length) ∘ Nat.succ) = fun x => x + (pre.length + 1) := by funext x; simp; omega
    rw [e]; exact this
   simp only [k2] at h
   exact D3 h key
theorem Rr (jD : a.defers = []) (e3 : a.tmps.size = n.n) (ij : ∀ i ∈ n.fx, a.tmps.getD i undef = ρ i) (a7 : bT w0 F0 X F S s (fun t => a.tmps.getD t undef) w)
  {o : Oper} {d0 k : Nat} {args : List aG} {g : FuncId} {caps : List I} {arr : Array Value} {ps : List cL} {r : I} (cQ : di o.op = some (.call (.t d0) args)) (al : kZ n o.dst = true)
  (a2 : a.tmps.getD d0 undef = .func (.func g) #[] arr) (ay : eX w F s (fun t => a.tmps.getD t undef) caps arr.toList) (gg : I.dI caps = true)
  (Rs : ∃ b ty fr, (arr.toList).getD k undef = .pointer (some ⟨b, 0, none⟩) ∧ w.heap[b]? = some (.cells #[.func (.func g) #[] arr] ty fr) ∧ F b) (Js : k < arr.size)
  (aj : ps.map (·.a) = args.map (aR s) ++ caps) (aP : ∀ p ∈ ps, p.ok s) (bb : ib ps = true) (b5 : lJ C g args.length (args.length + k) (ps.map (·.d)) r (ps.map (·.o))) (cF : r.res = true)
  (cq : jB ps = true → r.cW = true ∧ ∀ p ∈ ps, p.o.cW = true) {K : au → Prop} {next : Act → World → Prop} (fO : K (fin (hK (fb s ps) ps) o.dst r))
  (bd : ∀ az cS aS, K az → Rel w0 F0 X n ρ az cS aS → next cS aS) : o.wp C.P a w next Q := by
 obtain ⟨dst, op, ty, pos, after, guard⟩ := o
 simp only at cQ al fO
 cases op with
 | call c =>
   obtain ⟨callee, l7, argTypes⟩ := c
   simp only [di] at cQ
   split at cQ
   ·split at cQ
    ·rename_i we _ _ PF xs bF oV
     simp only [Option.some.injEq, fZ.call.injEq] at cQ
     obtain ⟨rfl, rfl⟩ := cQ
     have Rt : we = .tmp d0 := by
      cases we with
      | tmp t => simp only [dW, Option.some.injEq, aG.t.injEq] at bF; rw [bF]
      | const v => simp only [dW, Option.map_eq_some_iff] at bF; obtain ⟨c, _, bF⟩ := bF; cases bF
      | func g => simp [dW] at bF
      | global g => simp [dW] at bF
     subst Rt
     have rK : execOp a.eval { dst, op := .call { callee := .value (.tmp d0), args := l7, argTypes }, type := ty, pos, after, guard } = callFunc g ((l7.toList.map a.eval ++ arr.toList).toArray) := by
      have : a.eval (.tmp d0) = .func (.func g) #[] arr := a2
      simp only [execOp, resolve, this, Deferred.ofValue, pure_bind, invoke]
      congr 1
      apply Array.ext'; simp
     unfold Oper.wp
     rw [rK]
     have hlen : (l7.toList.map a.eval).length = xs.length := by
      have := congrArg List.length (rA oV)
      simpa using this
     have wg : eX w F s (fun t => a.tmps.getD t undef) (xs.map (aR s) ++ caps) (l7.toList.map a.eval ++ arr.toList) := HM (zf a7 (fun _ => rfl) _ _ (rA oV)) ay
     rw [← aj] at wg
     obtain ⟨hR, l2⟩ := HN wg
     have fV : ∀ d ∈ xs.map (aR s) ++ caps, d.plain = true := by
      intro d al
      rcases List.mem_append.1 al with al | al
      ·obtain ⟨x, aA, rfl⟩ := List.mem_map.1 al
       exact GF s x fun av e => by
        subst e
        have hm := rA oV
        have : some (aG.c av) ∈ xs.map some := List.mem_map.2 ⟨_, aA, rfl⟩
        rw [← hm] at this
        obtain ⟨o, _, cm⟩ := List.mem_map.1 this
        cases o with
        | const v => simp only [dW, Option.map_eq_some_iff] at cm; obtain ⟨c, ay, e⟩ := cm; cases e; exact CT ay
        | tmp n => simp [dW] at cm
        | func g => simp [dW] at cm
        | global g => simp [dW] at cm
      ·obtain ⟨k, aE⟩ := List.getElem?_of_mem al
       exact yL gg aE
     have DU := HH (C := C) a7 (ps := ps) (vs := l7.toList.map a.eval ++ arr.toList) (f := g) (r := r) (by simpa using hR)
      (fun i p v ax a2 => ⟨fV p.a (by rw [← aj]; exact List.mem_map.2 ⟨p, List.mem_of_getElem? ax, rfl⟩), l2 i p.a v (by simp [ax]) a2⟩) aP bb
      (fun Fc lF e2 bD kR ax => by
       refine b5 w Fc lF e2 _ (by rw [← hR]; simp) ?_ ax
       obtain ⟨b, zO, fr, a4, a_, a3⟩ := Rs
       refine ⟨b, zO, fr, ?_, ?_, bD b a3, fun aA => by obtain ⟨u, hu⟩ := kR b aA; exact a7.gH u b hu a3⟩
       ·rw [List.getD_eq_getElem?_getD, List.getElem?_append_right (by omega), hlen, Nat.add_sub_cancel_left, ← List.getD_eq_getElem?_getD]; exact a4
       ·rw [a_, ← hlen, List.drop_left])
      cF cq
     rcases DU with ⟨dV, eS⟩ | ⟨v, aS, dV, bV, a1, eS, h8⟩
     ·rw [dV, Oper.upon_enter]
      refine Calls.mono eS ?_
      rintro e aS ⟨v, rfl, bV, a1, b8, cu⟩
      exact bd _ _ _ fO (Rel.put jD e3 ij b8 cu.1 al)
     ·rw [dV, Oper.upon_value]
      exact bd _ _ _ fO (Rel.put jD e3 ij eS h8.1 al)
    ·cases cQ
   ·split at cQ
    ·simp only [Option.map_eq_some_iff] at cQ; obtain ⟨_, _, cQ⟩ := cQ; cases cQ
    ·cases cQ
   ·split at cQ
    ·simp only [Option.map_eq_some_iff] at cQ; obtain ⟨_, _, cQ⟩ := cQ; cases cQ
    ·cases cQ
   iterate 3
    ·split at cQ
     ·split at cQ <;> cases cQ
     ·cases cQ
   ·cases cQ
 | makeFunc fn first cs =>
   cases fn <;> simp only [di] at cQ <;> first | (cases cQ; done) | (split at cQ <;> simp at cQ)
 | slice T x de ar hE =>
   cases hE <;> simp only [di] at cQ <;> first | (cases cQ; done) | (split at cQ <;> simp at cQ)
 | _ => simp only [di] at cQ <;> first | (cases cQ; done) | (simp at cQ; done) | (split at cQ <;> simp at cQ)
theorem Ru {op : Op} {T : TypeId} {x : aG} (h : di op = some (.aD T x)) : ∃ y, op = .load T y ∧ dW y = some x := by
 cases op with
 | load wc y =>
   simp only [di, Option.map_eq_some_iff] at h
   obtain ⟨cz, aA, h⟩ := h
   cases h
   exact ⟨y, rfl, aA⟩
 | call c =>
   obtain ⟨callee, l7, argTypes⟩ := c
   simp only [di] at h
   split at h <;> (try split at h) <;> (try split at h) <;> (try simp [Option.map_eq_some_iff] at h)
 | makeFunc fn first cs =>
   cases fn <;> simp only [di] at h <;> first | (cases h; done) | (split at h <;> simp at h)
 | slice T x de ar hE =>
   cases hE <;> simp only [di] at h <;> first | (cases h; done) | (split at h <;> simp at h)
 | _ => simp only [di] at h <;> first | (cases h; done) | (simp at h; done) | (split at h <;> simp at h)
theorem zP {y : Operand} {k : Nat} (h : dW y = some (.t k)) : y = .tmp k := by
 cases y with
 | tmp t => simp only [dW, Option.some.injEq, aG.t.injEq] at h; rw [h]
 | const v => simp only [dW, Option.map_eq_some_iff] at h; obtain ⟨c, _, h⟩ := h; cases h
 | func g => simp [dW] at h
 | global g => simp [dW] at h
def o3 (k : Nat) (s : au) (j : Nat) : I := if j = k then .ref .hole else iY j (s j)
theorem Rv {aF : Nat → Value} {b k : Nat} {v : Value} {ty : TypeId} {fr : Nat × Nat} (a7 : bT w0 F0 X F S s aF w) (aE : aF k = .pointer (some ⟨b, 0, none⟩)) (ae : F b) (ay : w.heap[b]? = some (.cells #[v] ty fr)) (ai : Value.gU v = true) :
  ∀ cs : List Nat, eX w F s aF (cs.map (o3 k s)) (cs.map aF) ∧ I.dI (cs.map (o3 k s)) = true := by
 intro cs
 induction cs with
 | nil => exact ⟨by rw [List.map_nil, List.map_nil, eX], rfl⟩
 | cons j cs ih =>
   simp only [List.map_cons]
   have cx : aV w F s aF (o3 k s j) (aF j) (fun _ => False) ∧ (o3 k s j).plain = true := by
    unfold o3
    split
    ·rename_i e; subst e
     rw [aE]
     refine ⟨(aV.da rfl).2 ⟨rfl, ?_⟩, rfl⟩
     rw [aC]
     refine ⟨b, 0, [v], rfl, ae, ?_, ?_⟩
     ·intro i c ar
      cases i with
      | zero => simp at ar; subst ar; simp [World.cell?, ay]
      | succ i => simp at ar
     ·rw [aC]; exact ⟨v, ai, rfl⟩
    ·unfold iY
     split
     ·rename_i ax
      exact ⟨aV.nothing ax (a7.en j), ax⟩
     ·rename_i ax
      refine ⟨?_, rfl⟩
      rw [aV]
      intro d al ax
      simp only [I.sub, Option.some.injEq] at al
      subst al
      have bh : (s j).tree = true := by
       cases ah : s j <;> first | rfl | (rw [ah] at ax; simp [I.plain] at ax)
      exact ⟨_, none, rfl, rfl, ((aV.da bh).1 (a7.en j)).1⟩
   refine ⟨?_, ?_⟩
   ·rw [eX]; exact ⟨_, _, rfl, cx.1, ih.1⟩
   ·simp only [I.dI, cx.2, ih.2, Bool.and_self]
theorem Jt (bA : C.fo) {id : Nat} {ops : Array Oper} {T : TypeId} {k k0 d0 : Nat} {m rest : List cI} {args : List aG} {d1 : Option Nat} {g : FuncId} {cs : List Nat} {b : Nat} {ty : TypeId} {fr : Nat × Nat} {K : au → Prop}
  (qn : oX n ops ops.toList = some ((⟨some d0, .aD T (.t k), none⟩ :: (m ++ ⟨d1, .call (.t d0) args, none⟩ :: rest) : List cI).map cI.un))
  (k_ : (C.T T).flat = true) (hm : ∀ r ∈ m, ∀ d, r.dst = some d → d ≠ d0 ∧ d ∉ cs) (kx : d0 ∉ cs) (uz : cs[k0]? = some k)
  (jD : a.defers = []) (e3 : a.tmps.size = n.n) (ij : ∀ i ∈ n.fx, a.tmps.getD i undef = ρ i) (a7 : bT w0 F0 X F S s (fun t => a.tmps.getD t undef) w)
  (ae : F b) (aE : a.tmps.getD k undef = .pointer (some ⟨b, 0, none⟩)) (y2 : w.heap[b]? = some (.cells #[.func (.func g) #[] (cs.map fun j => a.tmps.getD j undef).toArray] ty fr))
  (h : k2 C (fin s (some d0) .hole) m fun s1 => ∃ ps r, ps.map (·.a) = args.map (aR s1) ++ cs.map (o3 k s1) ∧ (∀ p ∈ ps, p.ok s1) ∧ ib ps = true ∧
   lJ C g args.length (args.length + k0) (ps.map (·.d)) r (ps.map (·.o)) ∧ r.res = true ∧ (jB ps = true → r.cW = true ∧ ∀ p ∈ ps, p.o.cW = true) ∧ k2 C (fin (hK (fb s1 ps) ps) d1 r) rest K)
  (bd : ∀ az cS aS, K az → Rel w0 F0 X n ρ az cS aS → Q .normal cS aS) : (Code.region id ops false).wp C.P Q a w := by
 obtain ⟨hl, oY⟩ := wi qn
 have Ez : ∀ (i : Nat) (r : cI), (⟨some d0, .aD T (.t k), none⟩ :: (m ++ ⟨d1, .call (.t d0) args, none⟩ :: rest) : List cI)[i]? = some r → ∃ o, ops[i]? = some o ∧ oW n ops o = some r.un := by
  intro i r ar
  have fy : i < ops.toList.length := by
   rw [hl, List.length_map]
   exact (List.getElem?_eq_some_iff.1 ar).1
  obtain ⟨iz, ai, aj⟩ := oY i _ (List.getElem?_eq_getElem fy)
  rw [List.getElem?_map, ar] at ai
  simp only [Option.map_some, Option.some.injEq] at ai
  exact ⟨_, by rw [← Array.getElem?_toList]; exact List.getElem?_eq_getElem fy, by rw [ai]; exact aj⟩
 have uA : ∀ {r : cI} {o : Oper}, r.guard = none → oW n ops o = some r.un → r.dst = o.dst ∧ o.guard = none ∧ nW o.op = r.bM.base ∧ kZ n o.dst = true := by
  intro r o b6 h
  unfold oW at h
  split at h
  ·rename_i al
   split at h
   ·rename_i Rw hI
    simp only [cI.un, Option.some.injEq, cI.mk.injEq] at h
    obtain ⟨a4, a_, a3⟩ := h
    refine ⟨a4.symm, ?_, a_, al⟩
    rw [a3, b6] at hI
    cases cm : o.guard with
    | none => rfl
    | some DX =>
      rw [cm] at hI; simp only [wa] at hI; split at hI <;> cases hI
   ·cases h
  ·cases h
 have Rx : ops.size = m.length + rest.length + 2 := by
  have : ops.toList.length = ops.size := by simp
  rw [← this, hl]; simp; omega
 have Ry : List.range ops.size = 0 :: ((List.range m.length).map (· + 1) ++ ((m.length + 1) :: (List.range rest.length).map (· + (m.length + 2)))) := by
  rw [Rx, show m.length + rest.length + 2 = (m.length + rest.length + 1) + 1 from rfl, List.range_succ_eq_map]
  congr 1
  rw [show m.length + rest.length + 1 = m.length + (rest.length + 1) by omega, List.range_add, List.map_append, List.range_succ_eq_map]
  simp only [List.map_map, List.map_cons, Nat.add_zero]
  congr 1
  congr 1
  apply List.map_congr_left
  intro x _; simp; omega
 obtain ⟨qG, Rz, kG⟩ := Ez 0 _ rfl
 obtain ⟨iP, bn, dX, b9⟩ := uA rfl kG
 change nW qG.op = .aD T (.t k) at dX
 have wG : di qG.op = some (.aD T (.t k)) := by
  rcases nX dX with h | h
  ·cases h
  ·exact h
 obtain ⟨y, bL, RA⟩ := Ru wG
 have := zP RA; subst this
 let h1 : Value := .func (.func g) #[] (cs.map fun j => a.tmps.getD j undef).toArray
 have jy : hN w b 0 [h1] := by
  intro i c ar
  cases i with
  | zero => simp at ar; subst ar; simp [World.cell?, y2, h1]
  | succ i => simp at ar
 refine wp_region ?_
 rw [Ry]
 simp only [wpOps, Rz]
 show (if Region.wanted qG (yielded ops a.tmps) = true then qG.wp C.P a w _ Q ∨ (qG.asks C.P a w ∧ LetsOut Q) else _)
 rw [if_pos (zo bn)]
 left
 have rK : (execOp a.eval qG).run C.P w = .ok (.value h1) w := by
  obtain ⟨dst, op, ty, pos, after, guard⟩ := qG
  simp only at bL
  subst bL
  have : a.eval (.tmp k) = .pointer (some ⟨b, 0, none⟩) := aE
  simp [execOp, this, Instr.loadAt, Instr.sureAddr, GL bA k_ jy]
 unfold Oper.wp
 rw [rK, Oper.upon_value]
 have EA : some d0 = qG.dst := iP
 rw [← EA] at b9 ⊢
 let ab : Act := a.put (some d0) h1
 let l9 : Fr := ⟨n.n, d0 :: k :: (cs ++ n.fx)⟩
 let ρ1 : Nat → Value := fun t => ab.tmps.getD t undef
 have zQ : k ∈ cs := List.mem_of_getElem? uz
 have oR := a7.base
 have EB : Rel w F (fun b => ∃ u, S u b) ⟨n.n, []⟩ ρ1 (fin s (some d0) .hole) ab w :=
  Rel.put (n := ⟨n.n, []⟩) jD e3 (fun i ar => by cases ar) oR (.inl ⟨rfl, by rw [aV]; trivial⟩) (by
   simp only [kZ, Bool.and_eq_true, decide_eq_true_eq] at b9 ⊢
   exact ⟨b9.1, by simp⟩)
 have RB : Rel w F (fun b => ∃ u, S u b) l9 ρ1 (fin s (some d0) .hole) ab w := ⟨EB.defers, EB.size, fun i _ => rfl, EB.rel⟩
 have Ju : ∀ t, t ≠ d0 → ρ1 t = a.tmps.getD t undef := by
  intro t bh
  have := congrFun (wb (n := n) (dst := some d0) (a := a) h1 e3 b9).1 t
  simp only [nI] at this
  rw [jl _ _ bh] at this
  exact this
 have RC : ρ1 d0 = h1 := by
  have := congrFun (wb (n := n) (dst := some d0) (a := a) h1 e3 b9).1 d0
  simp only [nI] at this
  rw [lX] at this
  exact this
 have hw := Jr C _ m [⟨some d0, .aD T (.t k), none⟩] (⟨d1, .call (.t d0) args, none⟩ :: rest) _ h
 have mid : ∀ az cS aS, (∃ ps r, ps.map (·.a) = args.map (aR az) ++ cs.map (o3 k az) ∧ (∀ p ∈ ps, p.ok az) ∧ ib ps = true ∧
   lJ C g args.length (args.length + k0) (ps.map (·.d)) r (ps.map (·.o)) ∧ r.res = true ∧ (jB ps = true → r.cW = true ∧ ∀ p ∈ ps, p.o.cW = true) ∧ k2 C (fin (hK (fb az ps) ps) d1 r) rest K) →
   Rel w F (fun b => ∃ u, S u b) l9 ρ1 az cS aS → wpOps C.P ops Q ((m.length + 1) :: (List.range rest.length).map (· + (m.length + 2))) cS aS := by
  rintro s2 bj hv ⟨ps, r, a4, a_, a3, c1, c6, cl, cf⟩ ⟨bc, bG, cB, rI, el, eC⟩
  obtain ⟨uB, RD, qb⟩ := Ez (m.length + 1) ⟨d1, .call (.t d0) args, none⟩ (by simp)
  obtain ⟨gL, hr, h6, RE⟩ := uA rfl qb
  simp only [wpOps, RD]
  show (if Region.wanted uB (yielded ops bj.tmps) = true then uB.wp C.P bj hv _ Q ∨ (uB.asks C.P bj hv ∧ LetsOut Q) else _)
  rw [if_pos (zo hr)]
  left
  change nW uB.op = .call (.t d0) args at h6
  have RF : di uB.op = some (.call (.t d0) args) := by
   rcases nX h6 with h | h
   ·cases h
   ·exact h
  have Jv : rI b := eC.hP b ae
  have Jw : hv.heap[b]? = some (.cells #[h1] ty fr) := by
   rw [eC.old b (a7.gB b ae) (fun ⟨u, hu⟩ => a7.gH u b hu ae)]; exact y2
  have Jx : ∀ j ∈ cs, bj.tmps.getD j undef = a.tmps.getD j undef := by
   intro j cx
   rw [cB j (by simp [l9, cx])]
   exact Ju j (fun e => kx (e ▸ cx))
  have rh : bj.tmps.getD k undef = .pointer (some ⟨b, 0, none⟩) := (Jx k zQ).trans aE
  have Jy : (cs.map fun j => a.tmps.getD j undef) = cs.map fun j => bj.tmps.getD j undef := List.map_congr_left fun j cx => (Jx j cx).symm
  obtain ⟨cv, cE⟩ := Rv (k := k) eC rh Jv Jw rfl cs
  have Dh : ∀ az cS aS, k2 C az rest K → Rel w F (fun b => ∃ u, S u b) ⟨n.n, n.fx⟩ ρ az cS aS → wpOps C.P ops Q ((List.range rest.length).map (· + (m.length + 2))) cS aS := by
   intro eY dy mJ aP zR
   have zz := Jr C K rest ((⟨some d0, .aD T (.t k), none⟩ :: m) ++ [⟨d1, .call (.t d0) args, none⟩]) [] eY aP
   have := DW (Q := Q) bA (ops := ops) (ros := ((⟨some d0, .aD T (.t k), none⟩ :: m) ++ [⟨d1, .call (.t d0) args, none⟩]) ++ (rest ++ [])) (l2 := []) (K := K) (fun az cS aS kB fa => by
     obtain ⟨wH, wI, wJ, RG, G2, EC⟩ := fa
     exact bd az cS aS kB ⟨wH, wI, wJ, RG, G2, a7.Rq EC⟩) ((List.range rest.length).map (· + (m.length + 2))) (fun i ar => by
      have wu : ((⟨some d0, .aD T (.t k), none⟩ :: m) ++ [⟨d1, .call (.t d0) args, none⟩]) ++ (rest ++ []) = (⟨some d0, .aD T (.t k), none⟩ :: (m ++ ⟨d1, .call (.t d0) args, none⟩ :: rest) : List cI) := by simp
      rw [wu]
      refine ⟨fun m1 => ?_, fun o cm => ?_⟩
      ·rw [List.getElem?_eq_none_iff]
       have := Array.getElem?_eq_none_iff.1 m1
       simp; omega
      ·obtain ⟨ao, hO, aj⟩ := oY i o (by simpa using cm)
       obtain ⟨r, ai, rfl⟩ : ∃ r, (⟨some d0, .aD T (.t k), none⟩ :: (m ++ ⟨d1, .call (.t d0) args, none⟩ :: rest) : List cI)[i]? = some r ∧ r.un = ao := by
        rw [List.getElem?_map, Option.map_eq_some_iff] at hO; exact hO
       exact ⟨r, ai, aj⟩) eY dy mJ (by
      have e : ((⟨some d0, .aD T (.t k), none⟩ :: m) ++ [⟨d1, .call (.t d0) args, none⟩] : List cI).length = m.length + 2 := by simp
      rw [e] at zz; exact zz) zR
   rwa [List.append_nil] at this
  have RH : ∀ i ∈ n.fx, bj.tmps.getD i undef = ρ i := by
   intro i ar
   rw [cB i (by simp [l9, ar]), Ju i (fun e => ?_)]
   ·exact ij i ar
   ·simp only [kZ, Bool.and_eq_true, Bool.not_eq_true', List.contains_eq_mem, decide_eq_false_iff_not] at b9
    exact b9.2 (e ▸ ar)
  have Js : k0 < cs.length := (List.getElem?_eq_some_iff.1 uz).1
  have RI : uB.dst = d1 := gL.symm
  exact Rr (n := n) (ρ := ρ) (K := fun az => k2 C az rest K) bc bG RH eC RF RE
   (arr := (cs.map fun j => bj.tmps.getD j undef).toArray) (k := k0) (caps := cs.map (o3 k s2)) (g := g) (ps := ps) (r := r)
   (by rw [cB d0 (by simp [l9]), RC]; simp only [h1, Jy]) (by simpa using cv) cE
   ⟨b, ty, fr, by
     rw [List.getD_eq_getElem?_getD, List.getElem?_map, uz]; exact rh, by rw [Jw]; simp only [h1, Jy], Jv⟩ (by simpa using Js)
   a4 a_ a3 c1 c6 cl (by rw [RI]; exact cf) Dh
 have := DW (Q := Q) bA (ops := ops) (ros := [⟨some d0, .aD T (.t k), none⟩] ++ (m ++ ⟨d1, .call (.t d0) args, none⟩ :: rest)) (l2 := (m.length + 1) :: (List.range rest.length).map (· + (m.length + 2))) mid
  ((List.range m.length).map (· + 1)) (fun i ar => by
    obtain ⟨j, cx, rfl⟩ := List.mem_map.1 ar
    have wK : j < m.length := List.mem_range.1 cx
    refine ⟨fun m1 => ?_, fun o cm => ?_⟩
    ·have := Array.getElem?_eq_none_iff.1 m1
     omega
    ·obtain ⟨mE, wz, fq⟩ := Ez (j + 1) m[j] (by
      simp only [List.getElem?_cons_succ]
      rw [List.getElem?_append_left wK, List.getElem?_eq_getElem wK])
     have heq : mE = o := by rw [wz] at cm; exact Option.some.inj cm
     subst heq
     refine ⟨m[j], by
      simp only [List.singleton_append, List.getElem?_cons_succ]
      rw [List.getElem?_append_left wK, List.getElem?_eq_getElem wK], ?_⟩
     have RJ := hm m[j] (List.getElem_mem wK)
     unfold oW at fq ⊢
     split at fq
     ·rename_i al
      rw [if_pos]
      ·exact fq
      ·cases Jz : mE.dst with
       | none => rfl
       | some d =>
         rw [Jz] at al
         simp only [kZ, Bool.and_eq_true, decide_eq_true_eq, Bool.not_eq_true', List.contains_eq_mem, decide_eq_false_iff_not] at al ⊢
         refine ⟨al.1, ?_⟩
         have zp : m[j].dst = some d := by
          split at fq
          ·simp only [cI.un, Option.some.injEq, cI.mk.injEq] at fq
           rw [← fq.1, Jz]
          ·cases fq
         obtain ⟨fC, gI⟩ := RJ d zp
         simp only [l9, List.mem_cons, List.mem_append, not_or]
         exact ⟨fC, fun e => gI (e ▸ zQ), gI, al.2⟩
     ·cases fq) (fin s (some d0) .hole) ab w (by simpa using hw) RB
 exact this
def JA (C : cn) (f : FuncId) (k k0 : Nat) (cs : List Nat) (args : List aG) (d1 : Option Nat) (rest : List cI) (fc : List Nat) (P : List (Nat × I) → Prop) (s1 : au) : Prop :=
 ∃ ps r, ps.map (·.a) = args.map (aR s1) ++ cs.map (o3 k s1) ∧ (∀ p ∈ ps, p.ok s1) ∧ ib ps = true ∧
   lJ C f args.length (args.length + k0) (ps.map (·.d)) r (ps.map (·.o)) ∧ r.res = true ∧ (jB ps = true → r.cW = true ∧ ∀ p ∈ ps, p.o.cW = true) ∧
   cy C (fin (hK (fb s1 ps) ps) d1 r) rest none (fun _ s => P (iR fc s))
def n9 (C : cn) (f : FuncId) (k k0 d0 : Nat) (cs : List Nat) (m : List cI) (args : List aG) (d1 : Option Nat) (rest : List cI) (fc : List Nat) (P : List (Nat × I) → Prop) (s : au) : Prop :=
 cy C (fin s (some d0) .hole) m none fun _ s1 => JA C f k k0 cs args d1 rest fc P s1
def JB (C : cn) (f : FuncId) (k k0 d0 : Nat) (cs : List Nat) (m : List cI) (args : List aG) (d1 : Option Nat) (rest : List cI) (fc : List Nat) (K : au → Prop) (s : au) : Prop :=
 n9 C f k k0 d0 cs m args d1 rest fc (fun l => K (aa l)) s
def ED (f : Nat → Bool) (m : List cI) : Bool := m.all fun r => match r.dst with
 | none => true
 | some d => f d
theorem JC {f : Nat → Bool} {m : List cI} (h : ED f m = true) : ∀ r ∈ m, ∀ d, r.dst = some d → f d = true := by
 intro r a7 d al
 have := List.all_eq_true.1 h r a7
 rw [al] at this; exact this
theorem JD (k : List Nat) (s : au) : rM s (iR k s) := by
 intro p ax
 obtain ⟨t, _, rfl⟩ := List.mem_map.1 ax
 exact .inl rfl
def EE (C : cn) (f : FuncId) (k k0 d0 : Nat) (cs : List Nat) (m : List cI) (args : List aG) (d1 : Option Nat) (rest : List cI) (fc : List Nat) : (Exit → au → Prop) → au → Prop :=
 fun Q s => JB C f k k0 d0 cs m args d1 rest fc (Q .normal) s
def JE (T : TypeId) (k d0 : Nat) (m : List cI) (args : List aG) (d1 : Option Nat) (rest : List cI) : R :=
 .U (⟨some d0, .aD T (.t k), none⟩ :: (m ++ ⟨d1, .call (.t d0) args, none⟩ :: rest)) none
theorem RK (vs : List Value) : ∀ (m n : Nat), m + n = vs.length → vs.drop m = ((List.range n).map (· + m)).map fun j => vs.getD j undef := by
 intro m n h
 apply List.ext_getElem?
 intro i
 rw [List.getElem?_drop, List.map_map, List.getElem?_map]
 by_cases ar : i < n
 ·rw [List.getElem?_range ar, List.getElem?_eq_getElem (by omega)]
  simp only [Option.map_some, Function.comp]
  rw [List.getD_eq_getElem?_getD, List.getElem?_eq_getElem (by omega)]
  simp only [Option.getD_some, Option.some.injEq]
  congr 1; omega
 ·rw [List.getElem?_eq_none (by omega), List.getElem?_eq_none (by simp; omega)]; rfl
theorem zS {c : Code} {rs : List cI} (h : bw n c = some (.U rs none)) : ∃ id ops, c = .region id ops false ∧ oX n ops ops.toList = some rs := by
 cases c with
 | region id ops draw =>
   cases draw with
   | false =>
     simp only [bw, Option.map_eq_some_iff] at h
     obtain ⟨r, ai, aj⟩ := h
     cases aj
     exact ⟨id, ops, rfl, ai⟩
   | true =>
     simp only [bw] at h
     split at h
     ·simp only [Option.map_eq_some_iff] at h
      obtain ⟨r, ai, aj⟩ := h
      cases aj
     ·cases h
 | seq a b => simp only [bw] at h; split at h <;> cases h
 | cond c a b => simp only [bw] at h; split at h <;> cases h
 | block id b => simp only [bw, Option.map_eq_some_iff] at h; obtain ⟨r, ai, aj⟩ := h; cases aj
 | loop b => simp only [bw, Option.map_eq_some_iff] at h; obtain ⟨r, ai, aj⟩ := h; cases aj
 | _ => simp [bw] at h
def zT (C : cn) (f : FuncId) (fx : List Nat) (RL m k : Nat) (T : (Exit → au → Prop) → au → Prop) (b : R) : Prop :=
 ∃ (ty : TypeId) (k0 d0 mK : Nat) (hX : List cI) (args : List aG) (d1 : Option Nat) (rest : List cI) (fc : List Nat),
   T = EE C f k k0 d0 ((List.range mK).map (· + m)) hX args d1 rest fc ∧ b = JE ty k d0 hX args d1 rest ∧ (C.T ty).flat = true ∧ ED (fun d => d != d0 && decide (m + mK ≤ d)) hX = true ∧ decide (m + mK ≤ d0) = true ∧
   decide (k0 < mK) = true ∧ k = m + k0 ∧ ((List.range mK).all fun j => fx.contains (m + j)) = true ∧ args.length = m ∧ m + mK = RL
theorem lJ.of_wp (bA : C.fo) {f : FuncId} {fn : Func} {c : Code} {dE : R} {fx : List Nat} {as outs : List I} {r : I} {k m : Nat} (bF : C.P.funcs[f]? = some fn) (ae : fn.body = some c)
  (k3 : (fn.name == "runtime.NumGoroutine") = false) (ah : bw ⟨fn.ntmps, fx⟩ c = some dE.strip) (bd : as.length ≤ fn.ntmps)
  (aE : dE.l8 (zT C f fx as.length m k))
  (h : ∀ Q : Exit → au → Prop, (∀ s, eA (Ends C fx fn.results.toList r outs) s → Q .ret s) → (∀ s, eA (Ends C fx fn.results.toList r outs) s → Q .normal s) → dj C dE Q (aa (num 0 as))) : lJ C f m k as r outs := by
 rintro w F X S vs hl ⟨b, RM, fr, a4, a_, a3, c1⟩ a7
 refine D7 (fx := fx) bA bF ae k3 bd hl a7 fun a nY eT => ?_
 refine D6 bA (H := zT C f fx as.length m k) ?_ c (by rw [R.D2]; exact ah) (R.zu dE aE) (zv dE ?_) nY
 ·rintro c T fU Q s ab f_ ⟨ty, k0, d0, mK, hX, args, d1, rest, fc, rfl, rfl, k_, hm, kx, zU, aE, ij, hlen, au1⟩ wG RN ⟨bc, bG, cB, tG, ct, eC⟩
  replace hm : ∀ r ∈ hX, ∀ d, r.dst = some d → d ≠ d0 ∧ m + mK ≤ d := fun r a7 d al => by
   have := JC hm r a7 d al
   simpa using this
  replace kx := of_decide_eq_true kx
  replace zU := of_decide_eq_true zU
  replace ij : ∀ j, j < mK → m + j ∈ fx := fun j cx => by
   have := List.all_eq_true.1 ij j (List.mem_range.2 cx)
   simpa using this
  obtain ⟨id, ops, rfl, qn⟩ := zS wG
  have JF : ∀ j, j < mK → ab.tmps.getD (j + m) undef = vs.getD (j + m) undef := fun j cx => by
   rw [Nat.add_comm]; exact cB _ (ij j cx)
  have ig : ((List.range mK).map (· + m)).map (fun j => ab.tmps.getD j undef) = vs.drop m := by
   rw [RK vs m mK (by omega), List.map_map, List.map_map]
   apply List.map_congr_left
   intro j cx
   exact JF j (List.mem_range.1 cx)
  refine Jt (Q := rN w F X ⟨fn.ntmps, fx⟩ (hL vs) Q) (K := eA (Q .normal)) (b := b) (ty := RM) (fr := fr) (g := f) (k0 := k0) (cs := (List.range mK).map (· + m)) bA qn k_ (fun r a7 d al => ⟨(hm r a7 d al).1, fun uy => ?_⟩) (fun uy => ?_) ?_ bc bG cB eC (eC.hP b a3) ?_ ?_ ?_ (fun az cS aS aE fa => fa.eA aE)
  ·obtain ⟨j, cx, rfl⟩ := List.mem_map.1 uy
   have := (hm r a7 _ al).2; have := List.mem_range.1 cx; omega
  ·obtain ⟨j, cx, e⟩ := List.mem_map.1 uy
   have := List.mem_range.1 cx; omega
  ·rw [List.getElem?_map, List.getElem?_range zU, aE]; simp [Nat.add_comm]
  ·rw [aE, Nat.add_comm, JF k0 zU, Nat.add_comm, ← aE]; exact a4
  ·rw [ig, eC.old b (a7.gB b a3) c1]; exact a_
  ·refine rS (fun _ s1 => ?_) RN
   rintro ⟨ps, r, iP, bn, dX, b9, dD, dK, eV⟩
   exact ⟨ps, r, iP, bn, dX, b9, dD, dK, rS (fun _ s h => .inr ⟨_, JD _ _, h⟩) eV⟩
 ·rw [zy]
  exact h _ (fun s h => ⟨.inr rfl, h⟩) (fun s h => ⟨.inl rfl, h⟩)
theorem RO {Q : Exit → au → Prop} {l : List (Nat × I)} {f : FuncId} {k k0 d0 : Nat} {cs : List Nat} {m : List cI} {args : List aG} {d1 : Option Nat} {rest : List cI} {fc : List Nat} {b : R} (ed : List (Nat × I))
  (h : ∀ P : List (Nat × I) → Prop, P ed → n9 C f k k0 d0 cs m args d1 rest fc P (aa l)) (aE : Q .normal (aa ed)) : dj C (.iQ (EE C f k k0 d0 cs m args d1 rest fc) b) Q (aa l) :=
 fun gE EF => h (fun l => gE .normal (aa l)) (EF _ _ aE)
theorem JG {l : List (Nat × I)} {f : FuncId} {k k0 : Nat} {cs : List Nat} {args : List aG} {d1 : Option Nat} {rest : List cI} {fc : List Nat} {P : List (Nat × I) → Prop} {r : I} (ps : List cL)
  (b5 : lJ C f args.length (args.length + k0) (ps.map (·.d)) r (ps.map (·.o))) (aj : ps.map (·.a) = h0 (aa l) args ++ cs.map (o3 k (aa l))) (aP : o2 (aa l) ps) (bb : ib ps = true)
  (cF : r.res = true) (cq : jB ps = false ∨ (r.cW && pJ ps) = true)
  (jc : cy C (fin (hK (fb (aa l) ps) ps) d1 r) rest none (fun _ s => P (iR fc s))) : JA C f k k0 cs args d1 rest fc P (aa l) := by
 refine ⟨ps, r, by rw [aj, tT], zL aP, bb, b5, cF, ?_, jc⟩
 intro hl
 rcases cq with cq | cq
 ·rw [cq] at hl; cases hl
 ·rw [Bool.and_eq_true] at cq; exact ⟨cq.1, zM cq.2⟩
end
end Go.dg
