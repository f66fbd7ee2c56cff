/- Part of a proof that a law returns true for every input. No condition. -/
import Derived.Test.YtjedocbdhlppdaaFwI
namespace Go.dp
def oQ (C : b1) (f : FuncId) (m k : Nat) (as : List j) (r : j) (outs : List j) : Prop :=
 ∀ (w : World) (F X : Nat → Prop) (S : Nat → Nat → Prop) (vs : List Value), vs.length = as.length →
   (∃ b ty fr, vs.getD k undef = .pointer (some ⟨b, 0, none⟩) ∧ w.heap[b]? = some (.cells #[.func (.func f) #[] (vs.drop m).toArray] ty fr) ∧ F b ∧ ¬ X b) →
   bU w F X F S (fP as) (ha vs) w →
   nk C.P f vs.toArray w fun v aS => ∃ bO aU, bU w F X bO aU (fP (r :: outs)) (ha (v :: vs)) aS
section
variable {C : b1} {w0 w : World} {F0 X F bO : Nat → Prop} {S aU : Nat → Nat → Prop} {n : Fr} {ρ : Nat → Value} {s aC : ao} {aE jF : Nat → Value} {a : Act} {av : j} {Q : Exit → Act → World → Prop} {aS : World}
theorem bU.base (h : bU w0 F0 X F S s aE w) : bU w F (fun b => ∃ u, S u b) F S s aE w where
 hp := fun _ h => h
 hJ := fun _ h => .inl h
 fU := h.fU
 eX := h.eX
 ga := h.ga
 fJ := h.fJ
 dW := fun u b U => .inl ⟨u, U⟩
 dJ := h.dJ
 old := fun _ _ _ => rfl
 size := Nat.le_refl _
 os := rfl
 tape := rfl
 output := rfl
theorem bU.Pb (h : bU w0 F0 X F S s aE w) (bN : bU w F (fun b => ∃ u, S u b) bO aU aC jF aS) : bU w0 F0 X bO aU aC jF aS where
 hp := fun b U => bN.hp b (h.hp b U)
 hJ := fun b U => by
  rcases bN.hJ b U with U | ⟨u, U⟩ | U
  ·exact h.hJ b U
  ·exact .inr (h.dW u b U)
  ·exact .inr (.inr (Nat.le_trans h.size U))
 fU := bN.fU
 eX := bN.eX
 ga := bN.ga
 fJ := bN.fJ
 dW := fun u b U => by
  rcases bN.dW u b U with ⟨u, U⟩ | U
  ·exact h.dW u b U
  ·exact .inr (Nat.le_trans h.size U)
 dJ := bN.dJ
 old := fun b U kp => by
  refine (bN.old b (Nat.lt_of_lt_of_le U h.size) fun ⟨u, hu⟩ => ?_).trans (h.old b U kp)
  rcases h.dW u b hu with aw | aw
  ·exact kp aw
  ·omega
 size := Nat.le_trans h.size bN.size
 os := bN.os.trans h.os
 tape := bN.tape.trans h.tape
 output := bN.output.trans h.output
theorem G4 (C : b1) (K : ao → Prop) : ∀ (rs pre post : List cA) (s : ao), kz C s rs K → ig C (pre ++ (rs ++ post)) s ((List.range rs.length).map (· + pre.length)) K := by
 intro rs
 induction rs with
 | nil => intro pre post s h; exact h
 | cons r rs ih =>
   intro pre post s h
   rw [List.length_cons, List.range_succ_eq_map, List.map_cons, List.map_map]
   simp only [ig, Nat.zero_add]
   rw [List.getElem?_append_right (Nat.le_refl _)]
   simp only [Nat.sub_self, List.cons_append, List.getElem?_cons_zero]
   have key : ∀ s1, kz C s1 rs K → ig C (pre ++ r :: (rs ++ post)) s1 ((List.range rs.length).map ((fun x => x + pre.length) ∘ Nat.succ)) K := by
    intro s1 ag
    have := ih (pre ++ [r]) post s1 ag
    simp only [List.append_assoc, List.singleton_append, List.length_append, List.length_singleton] at this
    have e : ((fun x => x + pre.length) ∘ Nat.succ) = fun x => x + (pre.length + 1) := by funext x; simp; omega
    rw [e]; exact this
   simp only [kz] at h
   exact xp h key
theorem Pc (iy : a.defers = []) (ef : a.tmps.size = n.n) (hb : ∀ i ∈ n.fx, a.tmps.getD i undef = ρ i) (a2 : bU w0 F0 X F S s (fun t => a.tmps.getD t undef) w)
  {o : Oper} {d0 k : Nat} {args : List aH} {g : FuncId} {caps : List j} {arr : Array Value} {ps : List cH} {r : j} (cB : dt o.op = some (.call (.t d0) args)) (ak : ll n o.dst = true)
  (aQ : a.tmps.getD d0 undef = .func (.func g) #[] arr) (az : dM w F s (fun t => a.tmps.getD t undef) caps arr.toList) (fq : j.d_ caps = true)
  (Pd : ∃ b ty fr, (arr.toList).getD k undef = .pointer (some ⟨b, 0, none⟩) ∧ w.heap[b]? = some (.cells #[.func (.func g) #[] arr] ty fr) ∧ F b) (G5 : k < arr.size)
  (ah : ps.map (·.a) = args.map (aI s) ++ caps) (aM : ∀ p ∈ ps, p.ok s) (bd : hN ps = true) (bI : oQ C g args.length (args.length + k) (ps.map (·.d)) r (ps.map (·.o))) (cx : r.res = true)
  (cy : jr ps = true → r.dm = true ∧ ∀ p ∈ ps, p.o.dm = true) {K : ao → Prop} {next : Act → World → Prop} (eB : K (fin (g_ (eK s ps) ps) o.dst r))
  (bh : ∀ aC cN aS, K aC → Rel w0 F0 X n ρ aC cN aS → next cN aS) : o.wp C.P a w next Q := by
 obtain ⟨dst, op, ty, pos, after, guard⟩ := o
 simp only at cB ak eB
 cases op with
 | call c =>
   obtain ⟨callee, nn, argTypes⟩ := c
   simp only [dt] at cB
   split at cB
   ·split at cB
    ·rename_i uF _ _ M_ xs bY n6
     simp only [Option.some.injEq, fy.call.injEq] at cB
     obtain ⟨rfl, rfl⟩ := cB
     have uc : uF = .tmp d0 := by
      cases uF with
      | tmp t => simp only [dF, Option.some.injEq, aH.t.injEq] at bY; rw [bY]
      | const v => simp only [dF, Option.map_eq_some_iff] at bY; obtain ⟨c, _, bY⟩ := bY; cases bY
      | func g => simp [dF] at bY
      | global g => simp [dF] at bY
     subst uc
     have qZ : execOp a.eval { dst, op := .call { callee := .value (.tmp d0), args := nn, argTypes }, type := ty, pos, after, guard } = callFunc g ((nn.toList.map a.eval ++ arr.toList).toArray) := by
      have : a.eval (.tmp d0) = .func (.func g) #[] arr := aQ
      simp only [execOp, resolve, this, Deferred.ofValue, pure_bind, invoke]
      congr 1
      apply Array.ext'; simp
     unfold Oper.wp
     rw [qZ]
     have hlen : (nn.toList.map a.eval).length = xs.length := by
      have := congrArg List.length (qS n6)
      simpa using this
     have uG : dM w F s (fun t => a.tmps.getD t undef) (xs.map (aI s) ++ caps) (nn.toList.map a.eval ++ arr.toList) := Fe (xe a2 (fun _ => rfl) _ _ (qS n6)) az
     rw [← ah] at uG
     obtain ⟨eY, l2⟩ := Ff uG
     have gG : ∀ d ∈ xs.map (aI s) ++ caps, d.plain = true := by
      intro d ak
      rcases List.mem_append.1 ak with ak | ak
      ·obtain ⟨x, aw, rfl⟩ := List.mem_map.1 ak
       exact DS s x fun av e => by
        subst e
        have hm := qS n6
        have : some (aH.c av) ∈ xs.map some := List.mem_map.2 ⟨_, aw, rfl⟩
        rw [← hm] at this
        obtain ⟨o, _, cr⟩ := List.mem_map.1 this
        cases o with
        | const v => simp only [dF, Option.map_eq_some_iff] at cr; obtain ⟨c, az, e⟩ := cr; cases e; exact Aj az
        | tmp n => simp [dF] at cr
        | func g => simp [dF] at cr
        | global g => simp [dF] at cr
      ·obtain ⟨k, aB⟩ := List.getElem?_of_mem ak
       exact wR fq aB
     have Bf := E8 (C := C) a2 (ps := ps) (vs := nn.toList.map a.eval ++ arr.toList) (f := g) (r := r) (by simpa using eY)
      (fun i p v ay aQ => ⟨gG p.a (by rw [← ah]; exact List.mem_map.2 ⟨p, List.mem_of_getElem? ay, rfl⟩), l2 i p.a v (by simp [ay]) aQ⟩) aM bd
      (fun Fc lk ep bE kp ay => by
       refine bI w Fc lk ep _ (by rw [← eY]; simp) ?_ ay
       obtain ⟨b, Pe, fr, a1, bg, bf⟩ := Pd
       refine ⟨b, Pe, fr, ?_, ?_, bE b bf, fun aw => by obtain ⟨u, hu⟩ := kp b aw; exact a2.ga u b hu bf⟩
       ·rw [List.getD_eq_getElem?_getD, List.getElem?_append_right (by omega), hlen, Nat.add_sub_cancel_left, ← List.getD_eq_getElem?_getD]; exact a1
       ·rw [bg, ← hlen, List.drop_left])
      cx cy
     rcases Bf with ⟨eE, fN⟩ | ⟨v, aS, eE, bO, aU, fN, kL⟩
     ·rw [eE, Oper.upon_enter]
      refine Calls.mono fN ?_
      rintro e aS ⟨v, rfl, bO, aU, ch, cu⟩
      exact bh _ _ _ eB (Rel.put iy ef hb ch cu.1 ak)
     ·rw [eE, Oper.upon_value]
      exact bh _ _ _ eB (Rel.put iy ef hb fN kL.1 ak)
    ·cases cB
   ·split at cB
    ·simp only [Option.map_eq_some_iff] at cB; obtain ⟨_, _, cB⟩ := cB; cases cB
    ·cases cB
   ·split at cB
    ·simp only [Option.map_eq_some_iff] at cB; obtain ⟨_, _, cB⟩ := cB; cases cB
    ·cases cB
   iterate 3
    ·split at cB
     ·split at cB <;> cases cB
     ·cases cB
   ·cases cB
 | makeFunc fn first cs =>
   cases fn <;> simp only [dt] at cB <;> first | (cases cB; done) | (split at cB <;> simp at cB)
 | slice T x cW au im =>
   cases im <;> simp only [dt] at cB <;> first | (cases cB; done) | (split at cB <;> simp at cB)
 | _ => simp only [dt] at cB <;> first | (cases cB; done) | (simp at cB; done) | (split at cB <;> simp at cB)
theorem Pf {op : Op} {T : TypeId} {x : aH} (h : dt op = some (.aN T x)) : ∃ y, op = .load T y ∧ dF y = some x := by
 cases op with
 | load Bd y =>
   simp only [dt, Option.map_eq_some_iff] at h
   obtain ⟨cO, aw, h⟩ := h
   cases h
   exact ⟨y, rfl, aw⟩
 | call c =>
   obtain ⟨callee, nn, argTypes⟩ := c
   simp only [dt] at h
   split at h <;> (try split at h) <;> (try split at h) <;> (try simp [Option.map_eq_some_iff] at h)
 | makeFunc fn first cs =>
   cases fn <;> simp only [dt] at h <;> first | (cases h; done) | (split at h <;> simp at h)
 | slice T x cW au im =>
   cases im <;> simp only [dt] at h <;> first | (cases h; done) | (split at h <;> simp at h)
 | _ => simp only [dt] at h <;> first | (cases h; done) | (simp at h; done) | (split at h <;> simp at h)
theorem Pg {y : Operand} {k : Nat} (h : dF y = some (.t k)) : y = .tmp k := by
 cases y with
 | tmp t => simp only [dF, Option.some.injEq, aH.t.injEq] at h; rw [h]
 | const v => simp only [dF, Option.map_eq_some_iff] at h; obtain ⟨c, _, h⟩ := h; cases h
 | func g => simp [dF] at h
 | global g => simp [dF] at h
def oR (k : Nat) (s : ao) (aK : Nat) : j := if aK = k then .ref .hole else iG aK (s aK)
theorem Ph {aE : Nat → Value} {b k : Nat} {v : Value} {ty : TypeId} {fr : Nat × Nat} (a2 : bU w0 F0 X F S s aE w) (aB : aE k = .pointer (some ⟨b, 0, none⟩)) (U : F b) (az : w.heap[b]? = some (.cells #[v] ty fr)) (ag : Value.gw v = true) :
  ∀ cs : List Nat, dM w F s aE (cs.map (oR k s)) (cs.map aE) ∧ j.d_ (cs.map (oR k s)) = true := by
 intro cs
 induction cs with
 | nil => exact ⟨by rw [List.map_nil, List.map_nil, dM], rfl⟩
 | cons aK cs ih =>
   simp only [List.map_cons]
   have cS : aL w F s aE (oR k s aK) (aE aK) (fun _ => False) ∧ (oR k s aK).plain = true := by
    unfold oR
    split
    ·rename_i e; subst e
     rw [aB]
     refine ⟨(aL.cJ rfl).2 ⟨rfl, ?_⟩, rfl⟩
     rw [ax]
     refine ⟨b, 0, [v], rfl, U, ?_, ?_⟩
     ·intro i c au
      cases i with
      | zero => simp at au; subst au; simp [World.cell?, az]
      | succ i => simp at au
     ·rw [ax]; exact ⟨v, ag, rfl⟩
    ·unfold iG
     split
     ·rename_i ay
      exact ⟨aL.nothing ay (a2.dJ aK), ay⟩
     ·rename_i ay
      refine ⟨?_, rfl⟩
      rw [aL]
      intro d ak ay
      simp only [j.sub, Option.some.injEq] at ak
      subst ak
      have a3 : (s aK).tree = true := by
       cases ab : s aK <;> first | rfl | (rw [ab] at ay; simp [j.plain] at ay)
      exact ⟨_, none, rfl, rfl, ((aL.cJ a3).1 (a2.dJ aK)).1⟩
   refine ⟨?_, ?_⟩
   ·rw [dM]; exact ⟨_, _, rfl, cS.1, ih.1⟩
   ·simp only [j.d_, cS.2, ih.2, Bool.and_self]
theorem Pj (bt : C.eO) {id : Nat} {ops : Array Oper} {T : TypeId} {k k0 d0 : Nat} {m rest : List cA} {args : List aH} {d1 : Option Nat} {g : FuncId} {cs : List Nat} {b : Nat} {ty : TypeId} {fr : Nat × Nat} {K : ao → Prop}
  (py : n8 n ops ops.toList = some ((⟨some d0, .aN T (.t k), none⟩ :: (m ++ ⟨d1, .call (.t d0) args, none⟩ :: rest) : List cA).map cA.un))
  (lI : (C.T T).flat = true) (hm : ∀ r ∈ m, ∀ d, r.dst = some d → d ≠ d0 ∧ d ∉ cs) (lJ : d0 ∉ cs) (B2 : cs[k0]? = some k)
  (iy : a.defers = []) (ef : a.tmps.size = n.n) (hb : ∀ i ∈ n.fx, a.tmps.getD i undef = ρ i) (a2 : bU w0 F0 X F S s (fun t => a.tmps.getD t undef) w)
  (U : F b) (aB : a.tmps.getD k undef = .pointer (some ⟨b, 0, none⟩)) (w4 : w.heap[b]? = some (.cells #[.func (.func g) #[] (cs.map fun aK => a.tmps.getD aK undef).toArray] ty fr))
  (h : kz C (fin s (some d0) .hole) m fun s1 => ∃ ps r, ps.map (·.a) = args.map (aI s1) ++ cs.map (oR k s1) ∧ (∀ p ∈ ps, p.ok s1) ∧ hN ps = true ∧
   oQ C g args.length (args.length + k0) (ps.map (·.d)) r (ps.map (·.o)) ∧ r.res = true ∧ (jr ps = true → r.dm = true ∧ ∀ p ∈ ps, p.o.dm = true) ∧ kz C (fin (g_ (eK s1 ps) ps) d1 r) rest K)
  (bh : ∀ aC cN aS, K aC → Rel w0 F0 X n ρ aC cN aS → Q .normal cN aS) : (Code.region id ops false).wp C.P Q a w := by
 obtain ⟨hl, px⟩ := Bh py
 have B3 : ∀ (i : Nat) (r : cA), (⟨some d0, .aN T (.t k), none⟩ :: (m ++ ⟨d1, .call (.t d0) args, none⟩ :: rest) : List cA)[i]? = some r → ∃ o, ops[i]? = some o ∧ n7 n ops o = some r.un := by
  intro i r au
  have eC : i < ops.toList.length := by
   rw [hl, List.length_map]
   exact (List.getElem?_eq_some_iff.1 au).1
  obtain ⟨g8, ag, ah⟩ := px i _ (List.getElem?_eq_getElem eC)
  rw [List.getElem?_map, au] at ag
  simp only [Option.map_some, Option.some.injEq] at ag
  exact ⟨_, by rw [← Array.getElem?_toList]; exact List.getElem?_eq_getElem eC, by rw [ag]; exact ah⟩
 have B4 : ∀ {r : cA} {o : Oper}, r.guard = none → n7 n ops o = some r.un → r.dst = o.dst ∧ o.guard = none ∧ pw o.op = r.bz.base ∧ ll n o.dst = true := by
  intro r o bQ h
  unfold n7 at h
  split at h
  ·rename_i ak
   split at h
   ·rename_i Pk g9
    simp only [cA.un, Option.some.injEq, cA.mk.injEq] at h
    obtain ⟨a1, bg, bf⟩ := h
    refine ⟨a1.symm, ?_, bg, ak⟩
    rw [bf, bQ] at g9
    cases cr : o.guard with
    | none => rfl
    | some Bk =>
      rw [cr] at g9; simp only [uE] at g9; split at g9 <;> cases g9
   ·cases h
  ·cases h
 have Pl : ops.size = m.length + rest.length + 2 := by
  have : ops.toList.length = ops.size := by simp
  rw [← this, hl]; simp; omega
 have Pm : List.range ops.size = 0 :: ((List.range m.length).map (· + 1) ++ ((m.length + 1) :: (List.range rest.length).map (· + (m.length + 2)))) := by
  rw [Pl, show m.length + rest.length + 2 = (m.length + rest.length + 1) + 1 from rfl, List.range_succ_eq_map]
  congr 1
  rw [show m.length + rest.length + 1 = m.length + (rest.length + 1) by omega, List.range_add, List.map_append, List.range_succ_eq_map]
  simp only [List.map_map, List.map_cons, Nat.add_zero]
  congr 1
  congr 1
  apply List.map_congr_left
  intro x _; simp; omega
 obtain ⟨pS, Pn, kb⟩ := B3 0 _ rfl
 obtain ⟨gm, bP, fw, cZ⟩ := B4 rfl kb
 change pw pS.op = .aN T (.t k) at fw
 have B5 : dt pS.op = some (.aN T (.t k)) := by
  rcases n9 fw with h | h
  ·cases h
  ·exact h
 obtain ⟨y, bL, Po⟩ := Pf B5
 have := Pg Po; subst this
 let og : Value := .func (.func g) #[] (cs.map fun aK => a.tmps.getD aK undef).toArray
 have jm : hj w b 0 [og] := by
  intro i c au
  cases i with
  | zero => simp at au; subst au; simp [World.cell?, w4, og]
  | succ i => simp at au
 refine wp_region ?_
 rw [Pm]
 simp only [wpOps, Pn]
 show (if Region.wanted pS (yielded ops a.tmps) = true then pS.wp C.P a w _ Q ∨ (pS.asks C.P a w ∧ LetsOut Q) else _)
 rw [if_pos (Bi bP)]
 left
 have qZ : (execOp a.eval pS).run C.P w = .ok (.value og) w := by
  obtain ⟨dst, op, ty, pos, after, guard⟩ := pS
  simp only at bL
  subst bL
  have : a.eval (.tmp k) = .pointer (some ⟨b, 0, none⟩) := aB
  simp [execOp, this, Instr.loadAt, Instr.sureAddr, DY bt lI jm]
 unfold Oper.wp
 rw [qZ, Oper.upon_value]
 have Pp : some d0 = pS.dst := gm
 rw [← Pp] at cZ ⊢
 let aa : Act := a.put (some d0) og
 let jU : Fr := ⟨n.n, d0 :: k :: (cs ++ n.fx)⟩
 let ρ1 : Nat → Value := fun t => aa.tmps.getD t undef
 have G6 : k ∈ cs := List.mem_of_getElem? B2
 have qP := a2.base
 have B6 : Rel w F (fun b => ∃ u, S u b) ⟨n.n, []⟩ ρ1 (fin s (some d0) .hole) aa w :=
  Rel.put (n := ⟨n.n, []⟩) iy ef (fun i au => by cases au) qP (.inl ⟨rfl, by rw [aL]; trivial⟩) (by
   simp only [ll, Bool.and_eq_true, decide_eq_true_eq] at cZ ⊢
   exact ⟨cZ.1, by simp⟩)
 have Pq : Rel w F (fun b => ∃ u, S u b) jU ρ1 (fin s (some d0) .hole) aa w := ⟨B6.defers, B6.size, fun i _ => rfl, B6.rel⟩
 have G7 : ∀ t, t ≠ d0 → ρ1 t = a.tmps.getD t undef := by
  intro t a3
  have := congrFun (Bc (n := n) (dst := some d0) (a := a) og ef cZ).1 t
  simp only [qB] at this
  rw [jE _ _ a3] at this
  exact this
 have Pr : ρ1 d0 = og := by
  have := congrFun (Bc (n := n) (dst := some d0) (a := a) og ef cZ).1 d0
  simp only [qB] at this
  rw [mC] at this
  exact this
 have hw := G4 C _ m [⟨some d0, .aN T (.t k), none⟩] (⟨d1, .call (.t d0) args, none⟩ :: rest) _ h
 have mid : ∀ aC cN aS, (∃ ps r, ps.map (·.a) = args.map (aI aC) ++ cs.map (oR k aC) ∧ (∀ p ∈ ps, p.ok aC) ∧ hN ps = true ∧
   oQ C g args.length (args.length + k0) (ps.map (·.d)) r (ps.map (·.o)) ∧ r.res = true ∧ (jr ps = true → r.dm = true ∧ ∀ p ∈ ps, p.o.dm = true) ∧ kz C (fin (g_ (eK aC ps) ps) d1 r) rest K) →
   Rel w F (fun b => ∃ u, S u b) jU ρ1 aC cN aS → wpOps C.P ops Q ((m.length + 1) :: (List.range rest.length).map (· + (m.length + 2))) cN aS := by
  rintro s2 a9 lU ⟨ps, r, a1, bg, bf, cn, c3, b_, bV⟩ ⟨a8, bA, ct, uD, dA, dZ⟩
  obtain ⟨ta, Ps, r9⟩ := B3 (m.length + 1) ⟨d1, .call (.t d0) args, none⟩ (by simp)
  obtain ⟨e5, fT, ho, tZ⟩ := B4 rfl r9
  simp only [wpOps, Ps]
  show (if Region.wanted ta (yielded ops a9.tmps) = true then ta.wp C.P a9 lU _ Q ∨ (ta.asks C.P a9 lU ∧ LetsOut Q) else _)
  rw [if_pos (Bi fT)]
  left
  change pw ta.op = .call (.t d0) args at ho
  have Pt : dt ta.op = some (.call (.t d0) args) := by
   rcases n9 ho with h | h
   ·cases h
   ·exact h
  have G8 : uD b := dZ.hp b U
  have G9 : lU.heap[b]? = some (.cells #[og] ty fr) := by
   rw [dZ.old b (a2.fU b U) (fun ⟨u, hu⟩ => a2.ga u b hu U)]; exact w4
  have G_ : ∀ aK ∈ cs, a9.tmps.getD aK undef = a.tmps.getD aK undef := by
   intro aK cS
   rw [ct aK (by simp [jU, cS])]
   exact G7 aK (fun e => lJ (e ▸ cS))
  have oz : a9.tmps.getD k undef = .pointer (some ⟨b, 0, none⟩) := (G_ k G6).trans aB
  have Ha : (cs.map fun aK => a.tmps.getD aK undef) = cs.map fun aK => a9.tmps.getD aK undef := List.map_congr_left fun aK cS => (G_ aK cS).symm
  obtain ⟨bT, b4⟩ := Ph (k := k) dZ oz G8 G9 rfl cs
  have AK : ∀ aC cN aS, kz C aC rest K → Rel w F (fun b => ∃ u, S u b) ⟨n.n, n.fx⟩ ρ aC cN aS → wpOps C.P ops Q ((List.range rest.length).map (· + (m.length + 2))) cN aS := by
   intro gf gz pT aM Pu
   have xr := G4 C K rest ((⟨some d0, .aN T (.t k), none⟩ :: m) ++ [⟨d1, .call (.t d0) args, none⟩]) [] gf aM
   have := Bj (Q := Q) bt (ops := ops) (ros := ((⟨some d0, .aN T (.t k), none⟩ :: m) ++ [⟨d1, .call (.t d0) args, none⟩]) ++ (rest ++ [])) (l2 := []) (K := K) (fun aC cN aS j8 ek => by
     obtain ⟨Hb, Hc, Pv, Pw, Ei, Px⟩ := ek
     exact bh aC cN aS j8 ⟨Hb, Hc, Pv, Pw, Ei, a2.Pb Px⟩) ((List.range rest.length).map (· + (m.length + 2))) (fun i au => by
      have uM : ((⟨some d0, .aN T (.t k), none⟩ :: m) ++ [⟨d1, .call (.t d0) args, none⟩]) ++ (rest ++ []) = (⟨some d0, .aN T (.t k), none⟩ :: (m ++ ⟨d1, .call (.t d0) args, none⟩ :: rest) : List cA) := by simp
      rw [uM]
      refine ⟨fun mD => ?_, fun o cr => ?_⟩
      ·rw [List.getElem?_eq_none_iff]
       have := Array.getElem?_eq_none_iff.1 mD
       simp; omega
      ·obtain ⟨aJ, hk, ah⟩ := px i o (by simpa using cr)
       obtain ⟨r, ag, rfl⟩ : ∃ r, (⟨some d0, .aN T (.t k), none⟩ :: (m ++ ⟨d1, .call (.t d0) args, none⟩ :: rest) : List cA)[i]? = some r ∧ r.un = aJ := by
        rw [List.getElem?_map, Option.map_eq_some_iff] at hk; exact hk
       exact ⟨r, ag, ah⟩) gf gz pT (by
      have e : ((⟨some d0, .aN T (.t k), none⟩ :: m) ++ [⟨d1, .call (.t d0) args, none⟩] : List cA).length = m.length + 2 := by simp
      rw [e] at xr; exact xr) Pu
   rwa [List.append_nil] at this
  have Py : ∀ i ∈ n.fx, a9.tmps.getD i undef = ρ i := by
   intro i au
   rw [ct i (by simp [jU, au]), G7 i (fun e => ?_)]
   ·exact hb i au
   ·simp only [ll, Bool.and_eq_true, Bool.not_eq_true', List.contains_eq_mem, decide_eq_false_iff_not] at cZ
    exact cZ.2 (e ▸ au)
  have G5 : k0 < cs.length := (List.getElem?_eq_some_iff.1 B2).1
  have Pz : ta.dst = d1 := e5.symm
  exact Pc (n := n) (ρ := ρ) (K := fun aC => kz C aC rest K) a8 bA Py dZ Pt tZ
   (arr := (cs.map fun aK => a9.tmps.getD aK undef).toArray) (k := k0) (caps := cs.map (oR k s2)) (g := g) (ps := ps) (r := r)
   (by rw [ct d0 (by simp [jU]), Pr]; simp only [og, Ha]) (by simpa using bT) b4
   ⟨b, ty, fr, by
     rw [List.getD_eq_getElem?_getD, List.getElem?_map, B2]; exact oz, by rw [G9]; simp only [og, Ha], G8⟩ (by simpa using G5)
   a1 bg bf cn c3 b_ (by rw [Pz]; exact bV) AK
 have := Bj (Q := Q) bt (ops := ops) (ros := [⟨some d0, .aN T (.t k), none⟩] ++ (m ++ ⟨d1, .call (.t d0) args, none⟩ :: rest)) (l2 := (m.length + 1) :: (List.range rest.length).map (· + (m.length + 2))) mid
  ((List.range m.length).map (· + 1)) (fun i au => by
    obtain ⟨aK, cS, rfl⟩ := List.mem_map.1 au
    have u0 : aK < m.length := List.mem_range.1 cS
    refine ⟨fun mD => ?_, fun o cr => ?_⟩
    ·have := Array.getElem?_eq_none_iff.1 mD
     omega
    ·obtain ⟨mf, uR, gJ⟩ := B3 (aK + 1) m[aK] (by
      simp only [List.getElem?_cons_succ]
      rw [List.getElem?_append_left u0, List.getElem?_eq_getElem u0])
     have heq : mf = o := by rw [uR] at cr; exact Option.some.inj cr
     subst heq
     refine ⟨m[aK], by
      simp only [List.singleton_append, List.getElem?_cons_succ]
      rw [List.getElem?_append_left u0, List.getElem?_eq_getElem u0], ?_⟩
     have PA := hm m[aK] (List.getElem_mem u0)
     unfold n7 at gJ ⊢
     split at gJ
     ·rename_i ak
      rw [if_pos]
      ·exact gJ
      ·cases Hd : mf.dst with
       | none => rfl
       | some d =>
         rw [Hd] at ak
         simp only [ll, Bool.and_eq_true, decide_eq_true_eq, Bool.not_eq_true', List.contains_eq_mem, decide_eq_false_iff_not] at ak ⊢
         refine ⟨ak.1, ?_⟩
         have xm : m[aK].dst = some d := by
          split at gJ
          ·simp only [cA.un, Option.some.injEq, cA.mk.injEq] at gJ
           rw [← gJ.1, Hd]
          ·cases gJ
         obtain ⟨fg, gy⟩ := PA d xm
         simp only [jU, List.mem_cons, List.mem_append, not_or]
         exact ⟨fg, fun e => gy (e ▸ G6), gy, ak.2⟩
     ·cases gJ) (fin s (some d0) .hole) aa w (by simpa using hw) Pq
 exact this
def PB (C : b1) (f : FuncId) (k k0 : Nat) (cs : List Nat) (args : List aH) (d1 : Option Nat) (rest : List cA) (gp : List Nat) (P : List (Nat × j) → Prop) (s1 : ao) : Prop :=
 ∃ ps r, ps.map (·.a) = args.map (aI s1) ++ cs.map (oR k s1) ∧ (∀ p ∈ ps, p.ok s1) ∧ hN ps = true ∧
   oQ C f args.length (args.length + k0) (ps.map (·.d)) r (ps.map (·.o)) ∧ r.res = true ∧ (jr ps = true → r.dm = true ∧ ∀ p ∈ ps, p.o.dm = true) ∧
   bZ C (fin (g_ (eK s1 ps) ps) d1 r) rest none (fun _ s => P (hY gp s))
def PC (C : b1) (f : FuncId) (k k0 d0 : Nat) (cs : List Nat) (m : List cA) (args : List aH) (d1 : Option Nat) (rest : List cA) (gp : List Nat) (P : List (Nat × j) → Prop) (s : ao) : Prop :=
 bZ C (fin s (some d0) .hole) m none fun _ s1 => PB C f k k0 cs args d1 rest gp P s1
def PD (C : b1) (f : FuncId) (k k0 d0 : Nat) (cs : List Nat) (m : List cA) (args : List aH) (d1 : Option Nat) (rest : List cA) (gp : List Nat) (K : ao → Prop) (s : ao) : Prop :=
 PC C f k k0 d0 cs m args d1 rest gp (fun l => K (R l)) s
def He (f : Nat → Bool) (m : List cA) : Bool := m.all fun r => match r.dst with
 | none => true
 | some d => f d
theorem PE {f : Nat → Bool} {m : List cA} (h : He f m = true) : ∀ r ∈ m, ∀ d, r.dst = some d → f d = true := by
 intro r a2 d ak
 have := List.all_eq_true.1 h r a2
 rw [ak] at this; exact this
theorem PF (k : List Nat) (s : ao) : sx s (hY k s) := by
 intro p ay
 obtain ⟨t, _, rfl⟩ := List.mem_map.1 ay
 exact .inl rfl
def PG (C : b1) (f : FuncId) (k k0 d0 : Nat) (cs : List Nat) (m : List cA) (args : List aH) (d1 : Option Nat) (rest : List cA) (gp : List Nat) : (Exit → ao → Prop) → ao → Prop :=
 fun Q s => PD C f k k0 d0 cs m args d1 rest gp (Q .normal) s
def PH (T : TypeId) (k d0 : Nat) (m : List cA) (args : List aH) (d1 : Option Nat) (rest : List cA) : J :=
 .ad (⟨some d0, .aN T (.t k), none⟩ :: (m ++ ⟨d1, .call (.t d0) args, none⟩ :: rest)) none
theorem PI (vs : List Value) : ∀ (m n : Nat), m + n = vs.length → vs.drop m = ((List.range n).map (· + m)).map fun aK => vs.getD aK undef := by
 intro m n h
 apply List.ext_getElem?
 intro i
 rw [List.getElem?_drop, List.map_map, List.getElem?_map]
 by_cases au : i < n
 ·rw [List.getElem?_range au, List.getElem?_eq_getElem (by omega)]
  simp only [Option.map_some, Function.comp]
  rw [List.getD_eq_getElem?_getD, List.getElem?_eq_getElem (by omega)]
  simp only [Option.getD_some, Option.some.injEq]
  congr 1; omega
 ·rw [List.getElem?_eq_none (by omega), List.getElem?_eq_none (by simp; omega)]; rfl
theorem PJ {c : Code} {rs : List cA} (h : bS n c = some (.ad rs none)) : ∃ id ops, c = .region id ops false ∧ n8 n ops ops.toList = some rs := by
 cases c with
 | region id ops draw =>
   cases draw with
   | false =>
     simp only [bS, Option.map_eq_some_iff] at h
     obtain ⟨r, ag, ah⟩ := h
     cases ah
     exact ⟨id, ops, rfl, ag⟩
   | true =>
     simp only [bS] at h
     split at h
     ·simp only [Option.map_eq_some_iff] at h
      obtain ⟨r, ag, ah⟩ := h
      cases ah
     ·cases h
 | seq a b => simp only [bS] at h; split at h <;> cases h
 | cond c a b => simp only [bS] at h; split at h <;> cases h
 | block id b => simp only [bS, Option.map_eq_some_iff] at h; obtain ⟨r, ag, ah⟩ := h; cases ah
 | loop b => simp only [bS, Option.map_eq_some_iff] at h; obtain ⟨r, ag, ah⟩ := h; cases ah
 | _ => simp [bS] at h
def B7 (C : b1) (f : FuncId) (fx : List Nat) (PK m k : Nat) (T : (Exit → ao → Prop) → ao → Prop) (b : J) : Prop :=
 ∃ (ty : TypeId) (k0 d0 mj : Nat) (jn : List cA) (args : List aH) (d1 : Option Nat) (rest : List cA) (gp : List Nat),
   T = PG C f k k0 d0 ((List.range mj).map (· + m)) jn args d1 rest gp ∧ b = PH ty k d0 jn args d1 rest ∧ (C.T ty).flat = true ∧ He (fun d => d != d0 && decide (m + mj ≤ d)) jn = true ∧ decide (m + mj ≤ d0) = true ∧
   decide (k0 < mj) = true ∧ k = m + k0 ∧ ((List.range mj).all fun aK => fx.contains (m + aK)) = true ∧ args.length = m ∧ m + mj = PK
theorem oQ.of_wp (bt : C.eO) {f : FuncId} {fn : Func} {c : Code} {fF : J} {fx : List Nat} {as outs : List j} {r : j} {k m : Nat} (bY : C.P.funcs[f]? = some fn) (U : fn.body = some c)
  (lo : (fn.name == "runtime.NumGoroutine") = false) (ab : bS ⟨fn.ntmps, fx⟩ c = some fF.strip) (bh : as.length ≤ fn.ntmps)
  (aB : fF.n_ (B7 C f fx as.length m k))
  (h : ∀ Q : Exit → ao → Prop, (∀ s, gg (Ends C fx fn.results.toList r outs) s → Q .ret s) → (∀ s, gg (Ends C fx fn.results.toList r outs) s → Q .normal s) → c4 C fF Q (R (num 0 as))) : oQ C f m k as r outs := by
 rintro w F X S vs hl ⟨b, PL, fr, a1, bg, bf, cn⟩ a2
 refine FF (fx := fx) bt bY U lo bh hl a2 fun a oM ej => ?_
 refine FC bt (H := B7 C f fx as.length m k) ?_ c (by rw [J.Ft]; exact ab) (J.Fu fF aB) (FA fF ?_) oM
 ·rintro c T fl Q s aa kV ⟨ty, k0, d0, mj, jn, args, d1, rest, gp, rfl, rfl, lI, hm, lJ, xQ, aB, hb, hlen, ajw⟩ B5 PM ⟨a8, bA, ct, su, b7, dZ⟩
  replace hm : ∀ r ∈ jn, ∀ d, r.dst = some d → d ≠ d0 ∧ m + mj ≤ d := fun r a2 d ak => by
   have := PE hm r a2 d ak
   simpa using this
  replace lJ := of_decide_eq_true lJ
  replace xQ := of_decide_eq_true xQ
  replace hb : ∀ aK, aK < mj → m + aK ∈ fx := fun aK cS => by
   have := List.all_eq_true.1 hb aK (List.mem_range.2 cS)
   simpa using this
  obtain ⟨id, ops, rfl, py⟩ := PJ B5
  have Hf : ∀ aK, aK < mj → aa.tmps.getD (aK + m) undef = vs.getD (aK + m) undef := fun aK cS => by
   rw [Nat.add_comm]; exact ct _ (hb aK cS)
  have iJ : ((List.range mj).map (· + m)).map (fun aK => aa.tmps.getD aK undef) = vs.drop m := by
   rw [PI vs m mj (by omega), List.map_map, List.map_map]
   apply List.map_congr_left
   intro aK cS
   exact Hf aK (List.mem_range.1 cS)
  refine Pj (Q := sC w F X ⟨fn.ntmps, fx⟩ (ha vs) Q) (K := gg (Q .normal)) (b := b) (ty := PL) (fr := fr) (g := f) (k0 := k0) (cs := (List.range mj).map (· + m)) bt py lI (fun r a2 d ak => ⟨(hm r a2 d ak).1, fun B8 => ?_⟩) (fun B8 => ?_) ?_ a8 bA ct dZ (dZ.hp b bf) ?_ ?_ ?_ (fun aC cN aS aB ek => ek.gg aB)
  ·obtain ⟨aK, cS, rfl⟩ := List.mem_map.1 B8
   have := (hm r a2 _ ak).2; have := List.mem_range.1 cS; omega
  ·obtain ⟨aK, cS, e⟩ := List.mem_map.1 B8
   have := List.mem_range.1 cS; omega
  ·rw [List.getElem?_map, List.getElem?_range xQ, aB]; simp [Nat.add_comm]
  ·rw [aB, Nat.add_comm, Hf k0 xQ, Nat.add_comm, ← aB]; exact a1
  ·rw [iJ, dZ.old b (a2.fU b bf) cn]; exact bg
  ·refine xt (fun _ s1 => ?_) PM
   rintro ⟨ps, r, gm, bP, fw, cZ, el, eR, hc⟩
   exact ⟨ps, r, gm, bP, fw, cZ, el, eR, xt (fun _ s h => .inr ⟨_, PF _ _, h⟩) hc⟩
 ·rw [FH]
  exact h _ (fun s h => ⟨.inr rfl, h⟩) (fun s h => ⟨.inl rfl, h⟩)
end
end Go.dp
