/- Part of a proof that a law returns true for every input. No condition. -/
import Derived.Test.YtjedocbdhlppdaaFwI
namespace Go.b1
def kZ (C : bl) (f : FuncId) (m k : Nat) (as : List j) (r : j) (outs : List j) : Prop :=
 ∀ (w : World) (F X : Nat → Prop) (S : Nat → Nat → Prop) (vs : List Value), vs.length = as.length →
   (∃ b ty fr, vs.getD k undef = .pointer (some ⟨b, 0, none⟩) ∧ w.heap[b]? = some (.cells #[.func (.func f) #[] (vs.drop m).toArray] ty fr) ∧ F b ∧ ¬ X b) →
   aZ w F X F S (dw as) (ew vs) w →
   jA C.P f vs.toArray w fun v an => ∃ aT az, aZ w F X aT az (dw (r :: outs)) (ew (v :: vs)) an
section
variable {C : bl} {w0 w : World} {F0 X F aT : Nat → Prop} {S az : Nat → Nat → Prop} {n : Fr} {ρ : Nat → Value} {s ah : ae} {ak gf : Nat → Value} {a : Act} {av : j} {Q : Exit → Act → World → Prop} {an : World}
theorem aZ.base (h : aZ w0 F0 X F S s ak w) : aZ w F (fun b => ∃ u, S u b) F S s ak w where
 ei := fun _ h => h
 eD := fun _ h => .inl h
 c6 := h.c6
 cL := h.cL
 dk := h.dk
 de := h.de
 cf := fun u b J => .inl ⟨u, J⟩
 cb := h.cb
 old := fun _ _ _ => rfl
 size := Nat.le_refl _
 os := rfl
 tape := rfl
 output := rfl
theorem aZ.EM (h : aZ w0 F0 X F S s ak w) (aS : aZ w F (fun b => ∃ u, S u b) aT az ah gf an) : aZ w0 F0 X aT az ah gf an where
 ei := fun b J => aS.ei b (h.ei b J)
 eD := fun b J => by
  rcases aS.eD b J with J | ⟨u, J⟩ | J
  ·exact h.eD b J
  ·exact .inr (h.cf u b J)
  ·exact .inr (.inr (Nat.le_trans h.size J))
 c6 := aS.c6
 cL := aS.cL
 dk := aS.dk
 de := aS.de
 cf := fun u b J => by
  rcases aS.cf u b J with ⟨u, J⟩ | J
  ·exact h.cf u b J
  ·exact .inr (Nat.le_trans h.size J)
 cb := aS.cb
 old := fun b J fO => by
  refine (aS.old b (Nat.lt_of_lt_of_le J h.size) fun ⟨u, hu⟩ => ?_).trans (h.old b J fO)
  rcases h.cf u b hu with aj | aj
  ·exact fO aj
  ·omega
 size := Nat.le_trans h.size aS.size
 os := aS.os.trans h.os
 tape := aS.tape.trans h.tape
 output := aS.output.trans h.output
theorem y1 (C : bl) (K : ae → Prop) : ∀ (rs pre post : List bf) (s : ae), gU C s rs K → fV C (pre ++ (rs ++ post)) s ((List.range rs.length).map (· + pre.length)) K := by
 intro rs
 induction rs with
 | nil => intro pre post s h; exact h
 | cons r rs ih =>
   intro pre post s h
   rw [List.length_cons, List.range_succ_eq_map, List.map_cons, List.map_map]
   simp only [fV, Nat.zero_add]
   rw [List.getElem?_append_right (Nat.le_refl _)]
   simp only [Nat.sub_self, List.cons_append, List.getElem?_cons_zero]
   have key : ∀ s1, gU C s1 rs K → fV C (pre ++ r :: (rs ++ post)) s1 ((List.range rs.length).map ((fun x => x + pre.length) ∘ Nat.succ)) K := by
    intro s1 U
    have := ih (pre ++ [r]) post s1 U
    simp only [List.append_assoc, List.singleton_append, List.length_append, List.length_singleton] at this
    have e : ((fun x => x + pre.length) ∘ Nat.succ) = fun x => x + (pre.length + 1) := by funext x; simp; omega
    rw [e]; exact this
   simp only [gU] at h
   exact tW h key
theorem EN (fe : a.defers = []) (cB : a.tmps.size = n.n) (ey : ∀ i ∈ n.fx, a.tmps.getD i undef = ρ i) (aB : aZ w0 F0 X F S s (fun t => a.tmps.getD t undef) w)
  {o : Oper} {d0 k : Nat} {args : List aq} {g : FuncId} {caps : List j} {arr : Array Value} {ps : List bw} {r : j} (bq : b5 o.op = some (.call (.t d0) args)) (ab : hF n o.dst = true)
  (aA : a.tmps.getD d0 undef = .func (.func g) #[] arr) (af : ck w F s (fun t => a.tmps.getD t undef) caps arr.toList) (dE : j.dd caps = true)
  (EO : ∃ b ty fr, (arr.toList).getD k undef = .pointer (some ⟨b, 0, none⟩) ∧ w.heap[b]? = some (.cells #[.func (.func g) #[] arr] ty fr) ∧ F b) (y2 : k < arr.size)
  (aa : ps.map (·.a) = args.map (au s) ++ caps) (aw : ∀ p ∈ ps, p.ok s) (aH : fc ps = true) (aX : kZ C g args.length (args.length + k) (ps.map (·.d)) r (ps.map (·.o))) (bD : r.res = true)
  (bI : gD ps = true → r.cN = true ∧ ∀ p ∈ ps, p.o.cN = true) {K : ae → Prop} {next : Act → World → Prop} (c4 : K (fin (e6 (c1 s ps) ps) o.dst r))
  (aL : ∀ ah bK an, K ah → Rel w0 F0 X n ρ ah bK an → next bK an) : o.wp C.P a w next Q := by
 obtain ⟨dst, op, ty, pos, after, guard⟩ := o
 simp only at bq ab c4
 cases op with
 | call c =>
   obtain ⟨callee, jC, argTypes⟩ := c
   simp only [b5] at bq
   split at bq
   ·split at bq
    ·rename_i pP _ _ CW xs bb iZ
     simp only [Option.some.injEq, du.call.injEq] at bq
     obtain ⟨rfl, rfl⟩ := bq
     have pq : pP = .tmp d0 := by
      cases pP with
      | tmp t => simp only [cg, Option.some.injEq, aq.t.injEq] at bb; rw [bb]
      | const v => simp only [cg, Option.map_eq_some_iff] at bb; obtain ⟨c, _, bb⟩ := bb; cases bb
      | func g => simp [cg] at bb
      | global g => simp [cg] at bb
     subst pq
     have mB : execOp a.eval { dst, op := .call { callee := .value (.tmp d0), args := jC, argTypes }, type := ty, pos, after, guard } = callFunc g ((jC.toList.map a.eval ++ arr.toList).toArray) := by
      have : a.eval (.tmp d0) = .func (.func g) #[] arr := aA
      simp only [execOp, resolve, this, Deferred.ofValue, pure_bind, invoke]
      congr 1
      apply Array.ext'; simp
     unfold Oper.wp
     rw [mB]
     have hlen : (jC.toList.map a.eval).length = xs.length := by
      have := congrArg List.length (mv iZ)
      simpa using this
     have pQ : ck w F s (fun t => a.tmps.getD t undef) (xs.map (au s) ++ caps) (jC.toList.map a.eval ++ arr.toList) := xr (q7 aB (fun _ => rfl) _ _ (mv iZ)) af
     rw [← aa] at pQ
     obtain ⟨fy, l2⟩ := xt pQ
     have ej : ∀ d ∈ xs.map (au s) ++ caps, d.plain = true := by
      intro d ab
      rcases List.mem_append.1 ab with ab | ab
      ·obtain ⟨x, aj, rfl⟩ := List.mem_map.1 ab
       exact vQ s x fun av e => by
        subst e
        have hm := mv iZ
        have : some (aq.c av) ∈ xs.map some := List.mem_map.2 ⟨_, aj, rfl⟩
        rw [← hm] at this
        obtain ⟨o, _, bo⟩ := List.mem_map.1 this
        cases o with
        | const v => simp only [cg, Option.map_eq_some_iff] at bo; obtain ⟨c, af, e⟩ := bo; cases e; exact sP af
        | tmp n => simp [cg] at bo
        | func g => simp [cg] at bo
        | global g => simp [cg] at bo
      ·obtain ⟨k, ai⟩ := List.getElem?_of_mem ab
       exact qL dE ai
     have tL := xm (C := C) aB (ps := ps) (vs := jC.toList.map a.eval ++ arr.toList) (f := g) (r := r) (by simpa using fy)
      (fun i p v al aA => ⟨ej p.a (by rw [← aa]; exact List.mem_map.2 ⟨p, List.mem_of_getElem? al, rfl⟩), l2 i p.a v (by simp [al]) aA⟩) aw aH
      (fun Fc hE cG aK fO al => by
       refine aX w Fc hE cG _ (by rw [← fy]; simp) ?_ al
       obtain ⟨b, EP, fr, aC, aF, a6⟩ := EO
       refine ⟨b, EP, fr, ?_, ?_, aK b a6, fun aj => by obtain ⟨u, hu⟩ := fO b aj; exact aB.dk u b hu a6⟩
       ·rw [List.getD_eq_getElem?_getD, List.getElem?_append_right (by omega), hlen, Nat.add_sub_cancel_left, ← List.getD_eq_getElem?_getD]; exact aC
       ·rw [aF, ← hlen, List.drop_left])
      bD bI
     rcases tL with ⟨c5, cr⟩ | ⟨v, an, c5, aT, az, cr, fP⟩
     ·rw [c5, Oper.upon_enter]
      refine Calls.mono cr ?_
      rintro e an ⟨v, rfl, aT, az, ba, bg⟩
      exact aL _ _ _ c4 (Rel.put fe cB ey ba bg.1 ab)
     ·rw [c5, Oper.upon_value]
      exact aL _ _ _ c4 (Rel.put fe cB ey cr fP.1 ab)
    ·cases bq
   ·split at bq
    ·simp only [Option.map_eq_some_iff] at bq; obtain ⟨_, _, bq⟩ := bq; cases bq
    ·cases bq
   ·split at bq
    ·simp only [Option.map_eq_some_iff] at bq; obtain ⟨_, _, bq⟩ := bq; cases bq
    ·cases bq
   iterate 3
    ·split at bq
     ·split at bq <;> cases bq
     ·cases bq
   ·cases bq
 | makeFunc fn first cs =>
   cases fn <;> simp only [b5] at bq <;> first | (cases bq; done) | (split at bq <;> simp at bq)
 | slice T x bV ax e_ =>
   cases e_ <;> simp only [b5] at bq <;> first | (cases bq; done) | (split at bq <;> simp at bq)
 | _ => simp only [b5] at bq <;> first | (cases bq; done) | (simp at bq; done) | (split at bq <;> simp at bq)
theorem ER {op : Op} {T : TypeId} {x : aq} (h : b5 op = some (.cH T x)) : ∃ y, op = .load T y ∧ cg y = some x := by
 cases op with
 | load tJ y =>
   simp only [b5, Option.map_eq_some_iff] at h
   obtain ⟨cl, aj, h⟩ := h
   cases h
   exact ⟨y, rfl, aj⟩
 | call c =>
   obtain ⟨callee, jC, argTypes⟩ := c
   simp only [b5] at h
   split at h <;> (try split at h) <;> (try split at h) <;> (try simp [Option.map_eq_some_iff] at h)
 | makeFunc fn first cs =>
   cases fn <;> simp only [b5] at h <;> first | (cases h; done) | (split at h <;> simp at h)
 | slice T x bV ax e_ =>
   cases e_ <;> simp only [b5] at h <;> first | (cases h; done) | (split at h <;> simp at h)
 | _ => simp only [b5] at h <;> first | (cases h; done) | (simp at h; done) | (split at h <;> simp at h)
theorem ES {y : Operand} {k : Nat} (h : cg y = some (.t k)) : y = .tmp k := by
 cases y with
 | tmp t => simp only [cg, Option.some.injEq, aq.t.injEq] at h; rw [h]
 | const v => simp only [cg, Option.map_eq_some_iff] at h; obtain ⟨c, _, h⟩ := h; cases h
 | func g => simp [cg] at h
 | global g => simp [cg] at h
def k1 (k : Nat) (s : ae) (ay : Nat) : j := if ay = k then .ref .hole else fm ay (s ay)
theorem ET {ak : Nat → Value} {b k : Nat} {v : Value} {ty : TypeId} {fr : Nat × Nat} (aB : aZ w0 F0 X F S s ak w) (ai : ak k = .pointer (some ⟨b, 0, none⟩)) (J : F b) (af : w.heap[b]? = some (.cells #[v] ty fr)) (U : Value.dF v = true) :
  ∀ cs : List Nat, ck w F s ak (cs.map (k1 k s)) (cs.map ak) ∧ j.dd (cs.map (k1 k s)) = true := by
 intro cs
 induction cs with
 | nil => exact ⟨by rw [List.map_nil, List.map_nil, ck], rfl⟩
 | cons ay cs ih =>
   simp only [List.map_cons]
   have bx : ar w F s ak (k1 k s ay) (ak ay) (fun _ => False) ∧ (k1 k s ay).plain = true := by
    unfold k1
    split
    ·rename_i e; subst e
     rw [ai]
     refine ⟨(ar.bt rfl).2 ⟨rfl, ?_⟩, rfl⟩
     rw [ag]
     refine ⟨b, 0, [v], rfl, J, ?_, ?_⟩
     ·intro i c ax
      cases i with
      | zero => simp at ax; subst ax; simp [World.cell?, af]
      | succ i => simp at ax
     ·rw [ag]; exact ⟨v, U, rfl⟩
    ·unfold fm
     split
     ·rename_i al
      exact ⟨ar.nothing al (aB.cb ay), al⟩
     ·rename_i al
      refine ⟨?_, rfl⟩
      rw [ar]
      intro d ab al
      simp only [j.sub, Option.some.injEq] at ab
      subst ab
      have aG : (s ay).tree = true := by
       cases R : s ay <;> first | rfl | (rw [R] at al; simp [j.plain] at al)
      exact ⟨_, none, rfl, rfl, ((ar.bt aG).1 (aB.cb ay)).1⟩
   refine ⟨?_, ?_⟩
   ·rw [ck]; exact ⟨_, _, rfl, bx.1, ih.1⟩
   ·simp only [j.dd, bx.2, ih.2, Bool.and_self]
theorem EU (aJ : C.cP) {id : Nat} {ops : Array Oper} {T : TypeId} {k k0 d0 : Nat} {m rest : List bf} {args : List aq} {d1 : Option Nat} {g : FuncId} {cs : List Nat} {b : Nat} {ty : TypeId} {fr : Nat × Nat} {K : ae → Prop}
  (lB : kb n ops ops.toList = some ((⟨some d0, .cH T (.t k), none⟩ :: (m ++ ⟨d1, .call (.t d0) args, none⟩ :: rest) : List bf).map bf.un))
  (ld : (C.T T).flat = true) (hm : ∀ r ∈ m, ∀ d, r.dst = some d → d ≠ d0 ∧ d ∉ cs) (hR : d0 ∉ cs) (uH : cs[k0]? = some k)
  (fe : a.defers = []) (cB : a.tmps.size = n.n) (ey : ∀ i ∈ n.fx, a.tmps.getD i undef = ρ i) (aB : aZ w0 F0 X F S s (fun t => a.tmps.getD t undef) w)
  (J : F b) (ai : a.tmps.getD k undef = .pointer (some ⟨b, 0, none⟩)) (qW : w.heap[b]? = some (.cells #[.func (.func g) #[] (cs.map fun ay => a.tmps.getD ay undef).toArray] ty fr))
  (h : gU C (fin s (some d0) .hole) m fun s1 => ∃ ps r, ps.map (·.a) = args.map (au s1) ++ cs.map (k1 k s1) ∧ (∀ p ∈ ps, p.ok s1) ∧ fc ps = true ∧
   kZ C g args.length (args.length + k0) (ps.map (·.d)) r (ps.map (·.o)) ∧ r.res = true ∧ (gD ps = true → r.cN = true ∧ ∀ p ∈ ps, p.o.cN = true) ∧ gU C (fin (e6 (c1 s1 ps) ps) d1 r) rest K)
  (aL : ∀ ah bK an, K ah → Rel w0 F0 X n ρ ah bK an → Q .normal bK an) : (Code.region id ops false).wp C.P Q a w := by
 obtain ⟨aI, lA⟩ := tN lB
 have uI : ∀ (i : Nat) (r : bf), (⟨some d0, .cH T (.t k), none⟩ :: (m ++ ⟨d1, .call (.t d0) args, none⟩ :: rest) : List bf)[i]? = some r → ∃ o, ops[i]? = some o ∧ ka n ops o = some r.un := by
  intro i r ax
  have cx : i < ops.toList.length := by
   rw [aI, List.length_map]
   exact (List.getElem?_eq_some_iff.1 ax).1
  obtain ⟨gi, U, aa⟩ := lA i _ (List.getElem?_eq_getElem cx)
  rw [List.getElem?_map, ax] at U
  simp only [Option.map_some, Option.some.injEq] at U
  exact ⟨_, by rw [← Array.getElem?_toList]; exact List.getElem?_eq_getElem cx, by rw [U]; exact aa⟩
 have uJ : ∀ {r : bf} {o : Oper}, r.guard = none → ka n ops o = some r.un → r.dst = o.dst ∧ o.guard = none ∧ ly o.op = r.aQ.base ∧ hF n o.dst = true := by
  intro r o aN h
  unfold ka at h
  split at h
  ·rename_i ab
   split at h
   ·rename_i p8 dP
    simp only [bf.un, Option.some.injEq, bf.mk.injEq] at h
    obtain ⟨aC, aF, a6⟩ := h
    refine ⟨aC.symm, ?_, aF, ab⟩
    rw [a6, aN] at dP
    cases bo : o.guard with
    | none => rfl
    | some tQ =>
      rw [bo] at dP; simp only [pO] at dP; split at dP <;> cases dP
   ·cases h
  ·cases h
 have lI : ops.size = m.length + rest.length + 2 := by
  have : ops.toList.length = ops.size := by simp
  rw [← this, aI]; simp; omega
 have EV : List.range ops.size = 0 :: ((List.range m.length).map (· + 1) ++ ((m.length + 1) :: (List.range rest.length).map (· + (m.length + 2)))) := by
  rw [lI, show m.length + rest.length + 2 = (m.length + rest.length + 1) + 1 from rfl, List.range_succ_eq_map]
  congr 1
  rw [show m.length + rest.length + 1 = m.length + (rest.length + 1) by omega, List.range_add, List.map_append, List.range_succ_eq_map]
  simp only [List.map_map, List.map_cons, Nat.add_zero]
  congr 1
  congr 1
  apply List.map_congr_left
  intro x _; simp; omega
 obtain ⟨lJ, EW, gE⟩ := uI 0 _ rfl
 obtain ⟨eP, ee, gh, fG⟩ := uJ rfl gE
 change ly lJ.op = .cH T (.t k) at gh
 have p9 : b5 lJ.op = some (.cH T (.t k)) := by
  rcases kd gh with h | h
  ·cases h
  ·exact h
 obtain ⟨y, aY, EX⟩ := ER p9
 have := ES EX; subst this
 let kf : Value := .func (.func g) #[] (cs.map fun ay => a.tmps.getD ay undef).toArray
 have fN : eA w b 0 [kf] := by
  intro i c ax
  cases i with
  | zero => simp at ax; subst ax; simp [World.cell?, qW, kf]
  | succ i => simp at ax
 refine wp_region ?_
 rw [EV]
 simp only [wpOps, EW]
 show (if Region.wanted lJ (yielded ops a.tmps) = true then lJ.wp C.P a w _ Q ∨ (lJ.asks C.P a w ∧ LetsOut Q) else _)
 rw [if_pos (tO ee)]
 left
 have mB : (execOp a.eval lJ).run C.P w = .ok (.value kf) w := by
  obtain ⟨dst, op, ty, pos, after, guard⟩ := lJ
  simp only at aY
  subst aY
  have : a.eval (.tmp k) = .pointer (some ⟨b, 0, none⟩) := ai
  simp [execOp, this, Instr.loadAt, Instr.sureAddr, vW aJ ld fN]
 unfold Oper.wp
 rw [mB, Oper.upon_value]
 have EY : some d0 = lJ.dst := eP
 rw [← EY] at fG ⊢
 let bh : Act := a.put (some d0) kf
 let i6 : Fr := ⟨n.n, d0 :: k :: (cs ++ n.fx)⟩
 let ρ1 : Nat → Value := fun t => bh.tmps.getD t undef
 have rF : k ∈ cs := List.mem_of_getElem? uH
 have mq := aB.base
 have uK : Rel w F (fun b => ∃ u, S u b) ⟨n.n, []⟩ ρ1 (fin s (some d0) .hole) bh w :=
  Rel.put (n := ⟨n.n, []⟩) fe cB (fun i ax => by cases ax) mq (.inl ⟨rfl, by rw [ar]; trivial⟩) (by
   simp only [hF, Bool.and_eq_true, decide_eq_true_eq] at fG ⊢
   exact ⟨fG.1, by simp⟩)
 have EZ : Rel w F (fun b => ∃ u, S u b) i6 ρ1 (fin s (some d0) .hole) bh w := ⟨uK.defers, uK.size, fun i _ => rfl, uK.rel⟩
 have y3 : ∀ t, t ≠ d0 → ρ1 t = a.tmps.getD t undef := by
  intro t aG
  have := congrFun (tI (n := n) (dst := some d0) (a := a) kf cB fG).1 t
  simp only [l9] at this
  rw [gd _ _ aG] at this
  exact this
 have E0 : ρ1 d0 = kf := by
  have := congrFun (tI (n := n) (dst := some d0) (a := a) kf cB fG).1 d0
  simp only [l9] at this
  rw [iH] at this
  exact this
 have hw := y1 C _ m [⟨some d0, .cH T (.t k), none⟩] (⟨d1, .call (.t d0) args, none⟩ :: rest) _ h
 have mid : ∀ ah bK an, (∃ ps r, ps.map (·.a) = args.map (au ah) ++ cs.map (k1 k ah) ∧ (∀ p ∈ ps, p.ok ah) ∧ fc ps = true ∧
   kZ C g args.length (args.length + k0) (ps.map (·.d)) r (ps.map (·.o)) ∧ r.res = true ∧ (gD ps = true → r.cN = true ∧ ∀ p ∈ ps, p.o.cN = true) ∧ gU C (fin (e6 (c1 ah ps) ps) d1 r) rest K) →
   Rel w F (fun b => ∃ u, S u b) i6 ρ1 ah bK an → wpOps C.P ops Q ((m.length + 1) :: (List.range rest.length).map (· + (m.length + 2))) bK an := by
  rintro s2 a2 i9 ⟨ps, r, aC, aF, a6, bQ, bT, bc, a8⟩ ⟨g1, g2, g3, pN, ca, g4⟩
  obtain ⟨ow, E1, nh⟩ := uI (m.length + 1) ⟨d1, .call (.t d0) args, none⟩ (by simp)
  obtain ⟨dq, eb, eN, wh⟩ := uJ rfl nh
  simp only [wpOps, E1]
  show (if Region.wanted ow (yielded ops a2.tmps) = true then ow.wp C.P a2 i9 _ Q ∨ (ow.asks C.P a2 i9 ∧ LetsOut Q) else _)
  rw [if_pos (tO eb)]
  left
  change ly ow.op = .call (.t d0) args at eN
  have E2 : b5 ow.op = some (.call (.t d0) args) := by
   rcases kd eN with h | h
   ·cases h
   ·exact h
  have y4 : pN b := g4.ei b J
  have y5 : i9.heap[b]? = some (.cells #[kf] ty fr) := by
   rw [g4.old b (aB.c6 b J) (fun ⟨u, hu⟩ => aB.dk u b hu J)]; exact qW
  have y6 : ∀ ay ∈ cs, a2.tmps.getD ay undef = a.tmps.getD ay undef := by
   intro ay bx
   rw [g3 ay (by simp [i6, bx])]
   exact y3 ay (fun e => hR (e ▸ bx))
  have lg : a2.tmps.getD k undef = .pointer (some ⟨b, 0, none⟩) := (y6 k rF).trans ai
  have y7 : (cs.map fun ay => a.tmps.getD ay undef) = cs.map fun ay => a2.tmps.getD ay undef := List.map_congr_left fun ay bx => (y6 ay bx).symm
  obtain ⟨br, bC⟩ := ET (k := k) g4 lg y4 y5 rfl cs
  have tg : ∀ ah bK an, gU C ah rest K → Rel w F (fun b => ∃ u, S u b) ⟨n.n, n.fx⟩ ρ ah bK an → wpOps C.P ops Q ((List.range rest.length).map (· + (m.length + 2))) bK an := by
   intro dD a3 E3 aw E4
   have rr := y1 C K rest ((⟨some d0, .cH T (.t k), none⟩ :: m) ++ [⟨d1, .call (.t d0) args, none⟩]) [] dD aw
   have := tP (Q := Q) aJ (ops := ops) (ros := ((⟨some d0, .cH T (.t k), none⟩ :: m) ++ [⟨d1, .call (.t d0) args, none⟩]) ++ (rest ++ [])) (l2 := []) (K := K) (fun ah bK an hg cD => by
     obtain ⟨p_, z2, z3, E5, wx, z4⟩ := cD
     exact aL ah bK an hg ⟨p_, z2, z3, E5, wx, aB.EM z4⟩) ((List.range rest.length).map (· + (m.length + 2))) (fun i ax => by
      have pY : ((⟨some d0, .cH T (.t k), none⟩ :: m) ++ [⟨d1, .call (.t d0) args, none⟩]) ++ (rest ++ []) = (⟨some d0, .cH T (.t k), none⟩ :: (m ++ ⟨d1, .call (.t d0) args, none⟩ :: rest) : List bf) := by simp
      rw [pY]
      refine ⟨fun hd => ?_, fun o bo => ?_⟩
      ·rw [List.getElem?_eq_none_iff]
       have := Array.getElem?_eq_none_iff.1 hd
       simp; omega
      ·obtain ⟨bJ, eB, aa⟩ := lA i o (by simpa using bo)
       obtain ⟨r, U, rfl⟩ : ∃ r, (⟨some d0, .cH T (.t k), none⟩ :: (m ++ ⟨d1, .call (.t d0) args, none⟩ :: rest) : List bf)[i]? = some r ∧ r.un = bJ := by
        rw [List.getElem?_map, Option.map_eq_some_iff] at eB; exact eB
       exact ⟨r, U, aa⟩) dD a3 E3 (by
      have e : ((⟨some d0, .cH T (.t k), none⟩ :: m) ++ [⟨d1, .call (.t d0) args, none⟩] : List bf).length = m.length + 2 := by simp
      rw [e] at rr; exact rr) E4
   rwa [List.append_nil] at this
  have E6 : ∀ i ∈ n.fx, a2.tmps.getD i undef = ρ i := by
   intro i ax
   rw [g3 i (by simp [i6, ax]), y3 i (fun e => ?_)]
   ·exact ey i ax
   ·simp only [hF, Bool.and_eq_true, Bool.not_eq_true', List.contains_eq_mem, decide_eq_false_iff_not] at fG
    exact fG.2 (e ▸ ax)
  have y2 : k0 < cs.length := (List.getElem?_eq_some_iff.1 uH).1
  have E7 : ow.dst = d1 := dq.symm
  exact EN (n := n) (ρ := ρ) (K := fun ah => gU C ah rest K) g1 g2 E6 g4 E2 wh
   (arr := (cs.map fun ay => a2.tmps.getD ay undef).toArray) (k := k0) (caps := cs.map (k1 k s2)) (g := g) (ps := ps) (r := r)
   (by rw [g3 d0 (by simp [i6]), E0]; simp only [kf, y7]) (by simpa using br) bC
   ⟨b, ty, fr, by
     rw [List.getD_eq_getElem?_getD, List.getElem?_map, uH]; exact lg, by rw [y5]; simp only [kf, y7], y4⟩ (by simpa using y2)
   aC aF a6 bQ bT bc (by rw [E7]; exact a8) tg
 have := tP (Q := Q) aJ (ops := ops) (ros := [⟨some d0, .cH T (.t k), none⟩] ++ (m ++ ⟨d1, .call (.t d0) args, none⟩ :: rest)) (l2 := (m.length + 1) :: (List.range rest.length).map (· + (m.length + 2))) mid
  ((List.range m.length).map (· + 1)) (fun i ax => by
    obtain ⟨ay, bx, rfl⟩ := List.mem_map.1 ax
    have qa : ay < m.length := List.mem_range.1 bx
    refine ⟨fun hd => ?_, fun o bo => ?_⟩
    ·have := Array.getElem?_eq_none_iff.1 hd
     omega
    ·obtain ⟨ij, p1, dY⟩ := uI (ay + 1) m[ay] (by
      simp only [List.getElem?_cons_succ]
      rw [List.getElem?_append_left qa, List.getElem?_eq_getElem qa])
     have heq : ij = o := by rw [p1] at bo; exact Option.some.inj bo
     subst heq
     refine ⟨m[ay], by
      simp only [List.singleton_append, List.getElem?_cons_succ]
      rw [List.getElem?_append_left qa, List.getElem?_eq_getElem qa], ?_⟩
     have E8 := hm m[ay] (List.getElem_mem qa)
     unfold ka at dY ⊢
     split at dY
     ·rename_i ab
      rw [if_pos]
      ·exact dY
      ·cases y8 : ij.dst with
       | none => rfl
       | some d =>
         rw [y8] at ab
         simp only [hF, Bool.and_eq_true, decide_eq_true_eq, Bool.not_eq_true', List.contains_eq_mem, decide_eq_false_iff_not] at ab ⊢
         refine ⟨ab.1, ?_⟩
         have rk : m[ay].dst = some d := by
          split at dY
          ·simp only [bf.un, Option.some.injEq, bf.mk.injEq] at dY
           rw [← dY.1, y8]
          ·cases dY
         obtain ⟨dH, eI⟩ := E8 d rk
         simp only [i6, List.mem_cons, List.mem_append, not_or]
         exact ⟨dH, fun e => eI (e ▸ rF), eI, ab.2⟩
     ·cases dY) (fin s (some d0) .hole) bh w (by simpa using hw) EZ
 exact this
def E9 (C : bl) (f : FuncId) (k k0 : Nat) (cs : List Nat) (args : List aq) (d1 : Option Nat) (rest : List bf) (keep : List Nat) (P : List (Nat × j) → Prop) (s1 : ae) : Prop :=
 ∃ ps r, ps.map (·.a) = args.map (au s1) ++ cs.map (k1 k s1) ∧ (∀ p ∈ ps, p.ok s1) ∧ fc ps = true ∧
   kZ C f args.length (args.length + k0) (ps.map (·.d)) r (ps.map (·.o)) ∧ r.res = true ∧ (gD ps = true → r.cN = true ∧ ∀ p ∈ ps, p.o.cN = true) ∧
   bu C (fin (e6 (c1 s1 ps) ps) d1 r) rest none (fun _ s => P (fA keep s))
def E_ (C : bl) (f : FuncId) (k k0 d0 : Nat) (cs : List Nat) (m : List bf) (args : List aq) (d1 : Option Nat) (rest : List bf) (keep : List Nat) (P : List (Nat × j) → Prop) (s : ae) : Prop :=
 bu C (fin s (some d0) .hole) m none fun _ s1 => E9 C f k k0 cs args d1 rest keep P s1
def Fa (C : bl) (f : FuncId) (k k0 d0 : Nat) (cs : List Nat) (m : List bf) (args : List aq) (d1 : Option Nat) (rest : List bf) (keep : List Nat) (K : ae → Prop) (s : ae) : Prop :=
 E_ C f k k0 d0 cs m args d1 rest keep (fun l => K (I l)) s
def y9 (f : Nat → Bool) (m : List bf) : Bool := m.all fun r => match r.dst with
 | none => true
 | some d => f d
theorem Fb {f : Nat → Bool} {m : List bf} (h : y9 f m = true) : ∀ r ∈ m, ∀ d, r.dst = some d → f d = true := by
 intro r aB d ab
 have := List.all_eq_true.1 h r aB
 rw [ab] at this; exact this
theorem Fe (k : List Nat) (s : ae) : rp s (fA k s) := by
 intro p al
 obtain ⟨t, _, rfl⟩ := List.mem_map.1 al
 exact .inl rfl
def Ff (C : bl) (f : FuncId) (k k0 d0 : Nat) (cs : List Nat) (m : List bf) (args : List aq) (d1 : Option Nat) (rest : List bf) (keep : List Nat) : (Exit → ae → Prop) → ae → Prop :=
 fun Q s => Fa C f k k0 d0 cs m args d1 rest keep (Q .normal) s
def Fg (T : TypeId) (k d0 : Nat) (m : List bf) (args : List aq) (d1 : Option Nat) (rest : List bf) : ao :=
 .aE (⟨some d0, .cH T (.t k), none⟩ :: (m ++ ⟨d1, .call (.t d0) args, none⟩ :: rest)) none
theorem Fh (vs : List Value) : ∀ (m n : Nat), m + n = vs.length → vs.drop m = ((List.range n).map (· + m)).map fun ay => vs.getD ay undef := by
 intro m n h
 apply List.ext_getElem?
 intro i
 rw [List.getElem?_drop, List.map_map, List.getElem?_map]
 by_cases ax : i < n
 ·rw [List.getElem?_range ax, List.getElem?_eq_getElem (by omega)]
  simp only [Option.map_some, Function.comp]
  rw [List.getD_eq_getElem?_getD, List.getElem?_eq_getElem (by omega)]
  simp only [Option.getD_some, Option.some.injEq]
  congr 1; omega
 ·rw [List.getElem?_eq_none (by omega), List.getElem?_eq_none (by simp; omega)]; rfl
theorem Fi {c : Code} {rs : List bf} (h : cz n c = some (.aE rs none)) : ∃ id ops, c = .region id ops false ∧ kb n ops ops.toList = some rs := by
 cases c with
 | region id ops draw =>
   cases draw with
   | false =>
     simp only [cz, Option.map_eq_some_iff] at h
     obtain ⟨r, U, aa⟩ := h
     cases aa
     exact ⟨id, ops, rfl, U⟩
   | true =>
     simp only [cz] at h
     split at h
     ·simp only [Option.map_eq_some_iff] at h
      obtain ⟨r, U, aa⟩ := h
      cases aa
     ·cases h
 | seq a b => simp only [cz] at h; split at h <;> cases h
 | cond c a b => simp only [cz] at h; split at h <;> cases h
 | block id b => simp only [cz, Option.map_eq_some_iff] at h; obtain ⟨r, U, aa⟩ := h; cases aa
 | loop b => simp only [cz, Option.map_eq_some_iff] at h; obtain ⟨r, U, aa⟩ := h; cases aa
 | _ => simp [cz] at h
def uL (C : bl) (f : FuncId) (fx : List Nat) (Fj m k : Nat) (T : (Exit → ae → Prop) → ae → Prop) (b : ao) : Prop :=
 ∃ (ty : TypeId) (k0 d0 iu : Nat) (fR : List bf) (args : List aq) (d1 : Option Nat) (rest : List bf) (keep : List Nat),
   T = Ff C f k k0 d0 ((List.range iu).map (· + m)) fR args d1 rest keep ∧ b = Fg ty k d0 fR args d1 rest ∧ (C.T ty).flat = true ∧ y9 (fun d => d != d0 && decide (m + iu ≤ d)) fR = true ∧ decide (m + iu ≤ d0) = true ∧
   decide (k0 < iu) = true ∧ k = m + k0 ∧ ((List.range iu).all fun ay => fx.contains (m + ay)) = true ∧ args.length = m ∧ m + iu = Fj
theorem kZ.of_wp (aJ : C.cP) {f : FuncId} {fn : Func} {c : Code} {c2 : ao} {fx : List Nat} {as outs : List j} {r : j} {k m : Nat} (bb : C.P.funcs[f]? = some fn) (J : fn.body = some c)
  (hH : (fn.name == "runtime.NumGoroutine") = false) (R : cz ⟨fn.ntmps, fx⟩ c = some c2.strip) (aL : as.length ≤ fn.ntmps)
  (ai : c2.ke (uL C f fx as.length m k))
  (h : ∀ Q : Exit → ae → Prop, (∀ s, dA (Ends C fx fn.results.toList r outs) s → Q .ret s) → (∀ s, dA (Ends C fx fn.results.toList r outs) s → Q .normal s) → b9 C c2 Q (I (num 0 as))) : kZ C f m k as r outs := by
 rintro w F X S vs aI ⟨b, Fk, fr, aC, aF, a6, bQ⟩ aB
 refine xR (fx := fx) aJ bb J hH aL aI aB fun a kQ cC => ?_
 refine xO aJ (H := uL C f fx as.length m k) ?_ c (by rw [ao.xF]; exact R) (ao.xG c2 ai) (xM c2 ?_) kQ
 ·rintro c T c9 Q s bh hL ⟨ty, k0, d0, iu, fR, args, d1, rest, keep, rfl, rfl, ld, hm, hR, rG, ai, ey, hlen, LS⟩ p9 Fl ⟨g1, g2, g3, nF, a_, g4⟩
  replace hm : ∀ r ∈ fR, ∀ d, r.dst = some d → d ≠ d0 ∧ m + iu ≤ d := fun r aB d ab => by
   have := Fb hm r aB d ab
   simpa using this
  replace hR := of_decide_eq_true hR
  replace rG := of_decide_eq_true rG
  replace ey : ∀ ay, ay < iu → m + ay ∈ fx := fun ay bx => by
   have := List.all_eq_true.1 ey ay (List.mem_range.2 bx)
   simpa using this
  obtain ⟨id, ops, rfl, lB⟩ := Fi p9
  have y_ : ∀ ay, ay < iu → bh.tmps.getD (ay + m) undef = vs.getD (ay + m) undef := fun ay bx => by
   rw [Nat.add_comm]; exact g3 _ (ey ay bx)
  have fp : ((List.range iu).map (· + m)).map (fun ay => bh.tmps.getD ay undef) = vs.drop m := by
   rw [Fh vs m iu (by omega), List.map_map, List.map_map]
   apply List.map_congr_left
   intro ay bx
   exact y_ ay (List.mem_range.1 bx)
  refine EU (Q := nM w F X ⟨fn.ntmps, fx⟩ (ew vs) Q) (K := dA (Q .normal)) (b := b) (ty := Fk) (fr := fr) (g := f) (k0 := k0) (cs := (List.range iu).map (· + m)) aJ lB ld (fun r aB d ab => ⟨(hm r aB d ab).1, fun uM => ?_⟩) (fun uM => ?_) ?_ g1 g2 g3 g4 (g4.ei b a6) ?_ ?_ ?_ (fun ah bK an ai cD => cD.dA ai)
  ·obtain ⟨ay, bx, rfl⟩ := List.mem_map.1 uM
   have := (hm r aB _ ab).2; have := List.mem_range.1 bx; omega
  ·obtain ⟨ay, bx, e⟩ := List.mem_map.1 uM
   have := List.mem_range.1 bx; omega
  ·rw [List.getElem?_map, List.getElem?_range rG, ai]; simp [Nat.add_comm]
  ·rw [ai, Nat.add_comm, y_ k0 rG, Nat.add_comm, ← ai]; exact aC
  ·rw [fp, g4.old b (aB.c6 b a6) bQ]; exact aF
  ·refine ru (fun _ s1 => ?_) Fl
   rintro ⟨ps, r, eP, ee, gh, fG, lj, mC, pR⟩
   exact ⟨ps, r, eP, ee, gh, fG, lj, mC, ru (fun _ s h => .inr ⟨_, Fe _ _, h⟩) pR⟩
 ·rw [xT]
  exact h _ (fun s h => ⟨.inr rfl, h⟩) (fun s h => ⟨.inl rfl, h⟩)
end
end Go.b1
