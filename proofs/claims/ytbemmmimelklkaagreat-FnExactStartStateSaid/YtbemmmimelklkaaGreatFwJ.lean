/- Part of a proof that a law returns true for every input. No condition. -/
import Derived.Test.YtbemmmimelklkaaGreatFwI
namespace Go.dk
def lF (C : ck) (f : FuncId) (m k : Nat) (as : List I) (r : I) (outs : List I) : Prop :=
 ∀ (w : World) (F X : Nat → Prop) (S : Nat → Nat → Prop) (vs : List Value), vs.length = as.length →
   (∃ b ty fr, vs.getD k undef = .pointer (some ⟨b, 0, none⟩) ∧ w.heap[b]? = some (.cells #[.func (.func f) #[] (vs.drop m).toArray] ty fr) ∧ F b ∧ ¬ X b) →
   bW w F X F S (gd as) (hI vs) w →
   m4 C.P f vs.toArray w fun v aU => ∃ b0 a1, bW w F X b0 a1 (gd (r :: outs)) (hI (v :: vs)) aU
section
variable {C : ck} {w0 w : World} {F0 X F b0 : Nat → Prop} {S a1 : Nat → Nat → Prop} {n : Fr} {ρ : Nat → Value} {s aA : ar} {aF jO : Nat → Value} {a : Act} {av : I} {Q : Exit → Act → World → Prop} {aU : World}
theorem bW.base (h : bW w0 F0 X F S s aF w) : bW w F (fun b => ∃ u, S u b) F S s aF w where
 hM := fun _ h => h
 h5 := fun _ h => .inl h
 gy := h.gy
 fA := h.fA
 gF := h.gF
 gl := h.gl
 eA := fun u b ae => .inl ⟨u, ae⟩
 eu := h.eu
 old := fun _ _ _ => rfl
 size := Nat.le_refl _
 os := rfl
 tape := rfl
 output := rfl
theorem bW.Q2 (h : bW w0 F0 X F S s aF w) (bD : bW w F (fun b => ∃ u, S u b) b0 a1 aA jO aU) : bW w0 F0 X b0 a1 aA jO aU where
 hM := fun b ae => bD.hM b (h.hM b ae)
 h5 := fun b ae => by
  rcases bD.h5 b ae with ae | ⟨u, ae⟩ | ae
  ·exact h.h5 b ae
  ·exact .inr (h.eA u b ae)
  ·exact .inr (.inr (Nat.le_trans h.size ae))
 gy := bD.gy
 fA := bD.fA
 gF := bD.gF
 gl := bD.gl
 eA := fun u b ae => by
  rcases bD.eA u b ae with ⟨u, ae⟩ | ae
  ·exact h.eA u b ae
  ·exact .inr (Nat.le_trans h.size ae)
 eu := bD.eu
 old := fun b ae kK => by
  refine (bD.old b (Nat.lt_of_lt_of_le ae h.size) fun ⟨u, hu⟩ => ?_).trans (h.old b ae kK)
  rcases h.eA u b hu with aC | aC
  ·exact kK aC
  ·omega
 size := Nat.le_trans h.size bD.size
 os := bD.os.trans h.os
 tape := bD.tape.trans h.tape
 output := bD.output.trans h.output
theorem I9 (C : ck) (K : ar → Prop) : ∀ (rs pre post : List cK) (s : ar), kT C s rs K → jy C (pre ++ (rs ++ post)) s ((List.range rs.length).map (· + pre.length)) K := by
 intro rs
 induction rs with
 | nil => intro pre post s h; exact h
 | cons r rs ih =>
   intro pre post s h
   rw [List.length_cons, List.range_succ_eq_map, List.map_cons, List.map_map]
   simp only [jy, Nat.zero_add]
   rw [List.getElem?_append_right (Nat.le_refl _)]
   simp only [Nat.sub_self, List.cons_append, List.getElem?_cons_zero]
   have key : ∀ s1, kT C s1 rs K → jy C (pre ++ r :: (rs ++ post)) s1 ((List.range rs.length).map ((fun x => x + pre.length) ∘ Nat.succ)) K := by
    intro s1 ai
    have := ih (pre ++ [r]) post s1 ai
    simp only [List.append_assoc, List.singleton_append, List.length_append, List.length_singleton] at this
    have e : ((fun x => x + pre.length) ∘ Nat.succ) = fun x => x + (pre.length + 1) := by funext x; simp; omega
    rw [e]; exact this
   simp only [kT] at h
   exact DD h key
theorem Q3 (jz : a.defers = []) (e4 : a.tmps.size = n.n) (ie : ∀ i ∈ n.fx, a.tmps.getD i undef = ρ i) (a7 : bW w0 F0 X F S s (fun t => a.tmps.getD t undef) w)
  {o : Oper} {d0 k : Nat} {args : List aI} {g : FuncId} {caps : List I} {arr : Array Value} {ps : List cM} {r : I} (cP : dj o.op = some (.call (.t d0) args)) (al : kR n o.dst = true)
  (a3 : a.tmps.getD d0 undef = .func (.func g) #[] arr) (ay : eY w F s (fun t => a.tmps.getD t undef) caps arr.toList) (gf : I.dI caps = true)
  (Q4 : ∃ b ty fr, (arr.toList).getD k undef = .pointer (some ⟨b, 0, none⟩) ∧ w.heap[b]? = some (.cells #[.func (.func g) #[] arr] ty fr) ∧ F b) (I_ : k < arr.size)
  (aj : ps.map (·.a) = args.map (aS s) ++ caps) (aQ : ∀ p ∈ ps, p.ok s) (bd : h9 ps = true) (b3 : lF C g args.length (args.length + k) (ps.map (·.d)) r (ps.map (·.o))) (cG : r.res = true)
  (cp : jx ps = true → r.cW = true ∧ ∀ p ∈ ps, p.o.cW = true) {K : ar → Prop} {next : Act → World → Prop} (fR : K (fin (hH (fg s ps) ps) o.dst r))
  (bg : ∀ aA cR aU, K aA → Rel w0 F0 X n ρ aA cR aU → next cR aU) : o.wp C.P a w next Q := by
 obtain ⟨dst, op, ty, pos, after, guard⟩ := o
 simp only at cP al fR
 cases op with
 | call c =>
   obtain ⟨callee, lX, argTypes⟩ := c
   simp only [dj] at cP
   split at cP
   ·split at cP
    ·rename_i vH _ _ Pd xs bH oI
     simp only [Option.some.injEq, ga.call.injEq] at cP
     obtain ⟨rfl, rfl⟩ := cP
     have Q5 : vH = .tmp d0 := by
      cases vH with
      | tmp t => simp only [dY, Option.some.injEq, aI.t.injEq] at bH; rw [bH]
      | const v => simp only [dY, Option.map_eq_some_iff] at bH; obtain ⟨c, _, bH⟩ := bH; cases bH
      | func g => simp [dY] at bH
      | global g => simp [dY] at bH
     subst Q5
     have rl : execOp a.eval { dst, op := .call { callee := .value (.tmp d0), args := lX, argTypes }, type := ty, pos, after, guard } = callFunc g ((lX.toList.map a.eval ++ arr.toList).toArray) := by
      have : a.eval (.tmp d0) = .func (.func g) #[] arr := a3
      simp only [execOp, resolve, this, Deferred.ofValue, pure_bind, invoke]
      congr 1
      apply Array.ext'; simp
     unfold Oper.wp
     rw [rl]
     have hlen : (lX.toList.map a.eval).length = xs.length := by
      have := congrArg List.length (q_ oI)
      simpa using this
     have vI : eY w F s (fun t => a.tmps.getD t undef) (xs.map (aS s) ++ caps) (lX.toList.map a.eval ++ arr.toList) := Hp (yN a7 (fun _ => rfl) _ _ (q_ oI)) ay
     rw [← aj] at vI
     obtain ⟨hP, l2⟩ := Hq vI
     have gq : ∀ d ∈ xs.map (aS s) ++ caps, d.plain = true := by
      intro d al
      rcases List.mem_append.1 al with al | al
      ·obtain ⟨x, aC, rfl⟩ := List.mem_map.1 al
       exact Gg s x fun av e => by
        subst e
        have hm := q_ oI
        have : some (aI.c av) ∈ xs.map some := List.mem_map.2 ⟨_, aC, rfl⟩
        rw [← hm] at this
        obtain ⟨o, _, cm⟩ := List.mem_map.1 this
        cases o with
        | const v => simp only [dY, Option.map_eq_some_iff] at cm; obtain ⟨c, ay, e⟩ := cm; cases e; exact Cv ay
        | tmp n => simp [dY] at cm
        | func g => simp [dY] at cm
        | global g => simp [dY] at cm
      ·obtain ⟨k, aE⟩ := List.getElem?_of_mem al
       exact yh gf aE
     have Du := Hk (C := C) a7 (ps := ps) (vs := lX.toList.map a.eval ++ arr.toList) (f := g) (r := r) (by simpa using hP)
      (fun i p v ax a3 => ⟨gq p.a (by rw [← aj]; exact List.mem_map.2 ⟨p, List.mem_of_getElem? ax, rfl⟩), l2 i p.a v (by simp [ax]) a3⟩) aQ bd
      (fun Fc lB e3 bE kK ax => by
       refine b3 w Fc lB e3 _ (by rw [← hP]; simp) ?_ ax
       obtain ⟨b, zm, fr, a4, a_, a2⟩ := Q4
       refine ⟨b, zm, fr, ?_, ?_, bE b a2, fun aC => by obtain ⟨u, hu⟩ := kK b aC; exact a7.gF u b hu a2⟩
       ·rw [List.getD_eq_getElem?_getD, List.getElem?_append_right (by omega), hlen, Nat.add_sub_cancel_left, ← List.getD_eq_getElem?_getD]; exact a4
       ·rw [a_, ← hlen, List.drop_left])
      cG cp
     rcases Du with ⟨dX, eS⟩ | ⟨v, aU, dX, b0, a1, eS, h6⟩
     ·rw [dX, Oper.upon_enter]
      refine Calls.mono eS ?_
      rintro e aU ⟨v, rfl, b0, a1, b5, cu⟩
      exact bg _ _ _ fR (Rel.put jz e4 ie b5 cu.1 al)
     ·rw [dX, Oper.upon_value]
      exact bg _ _ _ fR (Rel.put jz e4 ie eS h6.1 al)
    ·cases cP
   ·split at cP
    ·simp only [Option.map_eq_some_iff] at cP; obtain ⟨_, _, cP⟩ := cP; cases cP
    ·cases cP
   ·split at cP
    ·simp only [Option.map_eq_some_iff] at cP; obtain ⟨_, _, cP⟩ := cP; cases cP
    ·cases cP
   iterate 3
    ·split at cP
     ·split at cP <;> cases cP
     ·cases cP
   ·cases cP
 | makeFunc fn first cs =>
   cases fn <;> simp only [dj] at cP <;> first | (cases cP; done) | (split at cP <;> simp at cP)
 | slice T x dg au hD =>
   cases hD <;> simp only [dj] at cP <;> first | (cases cP; done) | (split at cP <;> simp at cP)
 | _ => simp only [dj] at cP <;> first | (cases cP; done) | (simp at cP; done) | (split at cP <;> simp at cP)
theorem Q6 {op : Op} {T : TypeId} {x : aI} (h : dj op = some (.aD T x)) : ∃ y, op = .load T y ∧ dY y = some x := by
 cases op with
 | load vG y =>
   simp only [dj, Option.map_eq_some_iff] at h
   obtain ⟨cy, aC, h⟩ := h
   cases h
   exact ⟨y, rfl, aC⟩
 | call c =>
   obtain ⟨callee, lX, argTypes⟩ := c
   simp only [dj] at h
   split at h <;> (try split at h) <;> (try split at h) <;> (try simp [Option.map_eq_some_iff] at h)
 | makeFunc fn first cs =>
   cases fn <;> simp only [dj] at h <;> first | (cases h; done) | (split at h <;> simp at h)
 | slice T x dg au hD =>
   cases hD <;> simp only [dj] at h <;> first | (cases h; done) | (split at h <;> simp at h)
 | _ => simp only [dj] at h <;> first | (cases h; done) | (simp at h; done) | (split at h <;> simp at h)
theorem zn {y : Operand} {k : Nat} (h : dY y = some (.t k)) : y = .tmp k := by
 cases y with
 | tmp t => simp only [dY, Option.some.injEq, aI.t.injEq] at h; rw [h]
 | const v => simp only [dY, Option.map_eq_some_iff] at h; obtain ⟨c, _, h⟩ := h; cases h
 | func g => simp [dY] at h
 | global g => simp [dY] at h
def oT (k : Nat) (s : ar) (j : Nat) : I := if j = k then .ref .hole else iV j (s j)
theorem Q7 {aF : Nat → Value} {b k : Nat} {v : Value} {ty : TypeId} {fr : Nat × Nat} (a7 : bW w0 F0 X F S s aF w) (aE : aF k = .pointer (some ⟨b, 0, none⟩)) (ae : F b) (ay : w.heap[b]? = some (.cells #[v] ty fr)) (ai : Value.gX v = true) :
  ∀ cs : List Nat, eY w F s aF (cs.map (oT k s)) (cs.map aF) ∧ I.dI (cs.map (oT k s)) = true := by
 intro cs
 induction cs with
 | nil => exact ⟨by rw [List.map_nil, List.map_nil, eY], rfl⟩
 | cons j cs ih =>
   simp only [List.map_cons]
   have cJ : aW w F s aF (oT k s j) (aF j) (fun _ => False) ∧ (oT k s j).plain = true := by
    unfold oT
    split
    ·rename_i e; subst e
     rw [aE]
     refine ⟨(aW.da rfl).2 ⟨rfl, ?_⟩, rfl⟩
     rw [aB]
     refine ⟨b, 0, [v], rfl, ae, ?_, ?_⟩
     ·intro i c au
      cases i with
      | zero => simp at au; subst au; simp [World.cell?, ay]
      | succ i => simp at au
     ·rw [aB]; exact ⟨v, ai, rfl⟩
    ·unfold iV
     split
     ·rename_i ax
      exact ⟨aW.nothing ax (a7.eu j), ax⟩
     ·rename_i ax
      refine ⟨?_, rfl⟩
      rw [aW]
      intro d al ax
      simp only [I.sub, Option.some.injEq] at al
      subst al
      have bh : (s j).tree = true := by
       cases ah : s j <;> first | rfl | (rw [ah] at ax; simp [I.plain] at ax)
      exact ⟨_, none, rfl, rfl, ((aW.da bh).1 (a7.eu j)).1⟩
   refine ⟨?_, ?_⟩
   ·rw [eY]; exact ⟨_, _, rfl, cJ.1, ih.1⟩
   ·simp only [I.dI, cJ.2, ih.2, Bool.and_self]
theorem Ja (bB : C.fq) {id : Nat} {ops : Array Oper} {T : TypeId} {k k0 d0 : Nat} {m rest : List cK} {args : List aI} {d1 : Option Nat} {g : FuncId} {cs : List Nat} {b : Nat} {ty : TypeId} {fr : Nat × Nat} {K : ar → Prop}
  (p9 : oK n ops ops.toList = some ((⟨some d0, .aD T (.t k), none⟩ :: (m ++ ⟨d1, .call (.t d0) args, none⟩ :: rest) : List cK).map cK.un))
  (kr : (C.T T).flat = true) (hm : ∀ r ∈ m, ∀ d, r.dst = some d → d ≠ d0 ∧ d ∉ cs) (ks : d0 ∉ cs) (uc : cs[k0]? = some k)
  (jz : a.defers = []) (e4 : a.tmps.size = n.n) (ie : ∀ i ∈ n.fx, a.tmps.getD i undef = ρ i) (a7 : bW w0 F0 X F S s (fun t => a.tmps.getD t undef) w)
  (ae : F b) (aE : a.tmps.getD k undef = .pointer (some ⟨b, 0, none⟩)) (yy : w.heap[b]? = some (.cells #[.func (.func g) #[] (cs.map fun j => a.tmps.getD j undef).toArray] ty fr))
  (h : kT C (fin s (some d0) .hole) m fun s1 => ∃ ps r, ps.map (·.a) = args.map (aS s1) ++ cs.map (oT k s1) ∧ (∀ p ∈ ps, p.ok s1) ∧ h9 ps = true ∧
   lF C g args.length (args.length + k0) (ps.map (·.d)) r (ps.map (·.o)) ∧ r.res = true ∧ (jx ps = true → r.cW = true ∧ ∀ p ∈ ps, p.o.cW = true) ∧ kT C (fin (hH (fg s1 ps) ps) d1 r) rest K)
  (bg : ∀ aA cR aU, K aA → Rel w0 F0 X n ρ aA cR aU → Q .normal cR aU) : (Code.region id ops false).wp C.P Q a w := by
 obtain ⟨hl, oL⟩ := vK p9
 have D9 : ∀ (i : Nat) (r : cK), (⟨some d0, .aD T (.t k), none⟩ :: (m ++ ⟨d1, .call (.t d0) args, none⟩ :: rest) : List cK)[i]? = some r → ∃ o, ops[i]? = some o ∧ oJ n ops o = some r.un := by
  intro i r au
  have fz : i < ops.toList.length := by
   rw [hl, List.length_map]
   exact (List.getElem?_eq_some_iff.1 au).1
  obtain ⟨iu, ai, aj⟩ := oL i _ (List.getElem?_eq_getElem fz)
  rw [List.getElem?_map, au] at ai
  simp only [Option.map_some, Option.some.injEq] at ai
  exact ⟨_, by rw [← Array.getElem?_toList]; exact List.getElem?_eq_getElem fz, by rw [ai]; exact aj⟩
 have ud : ∀ {r : cK} {o : Oper}, r.guard = none → oJ n ops o = some r.un → r.dst = o.dst ∧ o.guard = none ∧ nN o.op = r.bN.base ∧ kR n o.dst = true := by
  intro r o b8 h
  unfold oJ at h
  split at h
  ·rename_i al
   split at h
   ·rename_i Q8 hG
    simp only [cK.un, Option.some.injEq, cK.mk.injEq] at h
    obtain ⟨a4, a_, a2⟩ := h
    refine ⟨a4.symm, ?_, a_, al⟩
    rw [a2, b8] at hG
    cases cm : o.guard with
    | none => rfl
    | some Dx =>
      rw [cm] at hG; simp only [vE] at hG; split at hG <;> cases hG
   ·cases h
  ·cases h
 have Q9 : ops.size = m.length + rest.length + 2 := by
  have : ops.toList.length = ops.size := by simp
  rw [← this, hl]; simp; omega
 have Q_ : List.range ops.size = 0 :: ((List.range m.length).map (· + 1) ++ ((m.length + 1) :: (List.range rest.length).map (· + (m.length + 2)))) := by
  rw [Q9, show m.length + rest.length + 2 = (m.length + rest.length + 1) + 1 from rfl, List.range_succ_eq_map]
  congr 1
  rw [show m.length + rest.length + 1 = m.length + (rest.length + 1) by omega, List.range_add, List.map_append, List.range_succ_eq_map]
  simp only [List.map_map, List.map_cons, Nat.add_zero]
  congr 1
  congr 1
  apply List.map_congr_left
  intro x _; simp; omega
 obtain ⟨qk, Ra, kC⟩ := D9 0 _ rfl
 obtain ⟨i9, bj, dO, b9⟩ := ud rfl kC
 change nN qk.op = .aD T (.t k) at dO
 have v7 : dj qk.op = some (.aD T (.t k)) := by
  rcases nO dO with h | h
  ·cases h
  ·exact h
 obtain ⟨y, bL, Rb⟩ := Q6 v7
 have := zn Rb; subst this
 let hY : Value := .func (.func g) #[] (cs.map fun j => a.tmps.getD j undef).toArray
 have jt : hK w b 0 [hY] := by
  intro i c au
  cases i with
  | zero => simp at au; subst au; simp [World.cell?, yy, hY]
  | succ i => simp at au
 refine wp_region ?_
 rw [Q_]
 simp only [wpOps, Ra]
 show (if Region.wanted qk (yielded ops a.tmps) = true then qk.wp C.P a w _ Q ∨ (qk.asks C.P a w ∧ LetsOut Q) else _)
 rw [if_pos (yW bj)]
 left
 have rl : (execOp a.eval qk).run C.P w = .ok (.value hY) w := by
  obtain ⟨dst, op, ty, pos, after, guard⟩ := qk
  simp only at bL
  subst bL
  have : a.eval (.tmp k) = .pointer (some ⟨b, 0, none⟩) := aE
  simp [execOp, this, Instr.loadAt, Instr.sureAddr, Gm bB kr jt]
 unfold Oper.wp
 rw [rl, Oper.upon_value]
 have D_ : some d0 = qk.dst := i9
 rw [← D_] at b9 ⊢
 let ab : Act := a.put (some d0) hY
 let na : Fr := ⟨n.n, d0 :: k :: (cs ++ n.fx)⟩
 let ρ1 : Nat → Value := fun t => ab.tmps.getD t undef
 have zo : k ∈ cs := List.mem_of_getElem? uc
 have oE := a7.base
 have Ea : Rel w F (fun b => ∃ u, S u b) ⟨n.n, []⟩ ρ1 (fin s (some d0) .hole) ab w :=
  Rel.put (n := ⟨n.n, []⟩) jz e4 (fun i au => by cases au) oE (.inl ⟨rfl, by rw [aW]; trivial⟩) (by
   simp only [kR, Bool.and_eq_true, decide_eq_true_eq] at b9 ⊢
   exact ⟨b9.1, by simp⟩)
 have Rc : Rel w F (fun b => ∃ u, S u b) na ρ1 (fin s (some d0) .hole) ab w := ⟨Ea.defers, Ea.size, fun i _ => rfl, Ea.rel⟩
 have Jb : ∀ t, t ≠ d0 → ρ1 t = a.tmps.getD t undef := by
  intro t bh
  have := congrFun (vF (n := n) (dst := some d0) (a := a) hY e4 b9).1 t
  simp only [nz] at this
  rw [ji _ _ bh] at this
  exact this
 have Rd : ρ1 d0 = hY := by
  have := congrFun (vF (n := n) (dst := some d0) (a := a) hY e4 b9).1 d0
  simp only [nz] at this
  rw [lP] at this
  exact this
 have hw := I9 C _ m [⟨some d0, .aD T (.t k), none⟩] (⟨d1, .call (.t d0) args, none⟩ :: rest) _ h
 have mid : ∀ aA cR aU, (∃ ps r, ps.map (·.a) = args.map (aS aA) ++ cs.map (oT k aA) ∧ (∀ p ∈ ps, p.ok aA) ∧ h9 ps = true ∧
   lF C g args.length (args.length + k0) (ps.map (·.d)) r (ps.map (·.o)) ∧ r.res = true ∧ (jx ps = true → r.cW = true ∧ ∀ p ∈ ps, p.o.cW = true) ∧ kT C (fin (hH (fg aA ps) ps) d1 r) rest K) →
   Rel w F (fun b => ∃ u, S u b) na ρ1 aA cR aU → wpOps C.P ops Q ((m.length + 1) :: (List.range rest.length).map (· + (m.length + 2))) cR aU := by
  rintro s2 bk gZ ⟨ps, r, a4, a_, a2, c1, c9, cl, cf⟩ ⟨bf, bG, cC, rj, et, eH⟩
  obtain ⟨ue, Re, pX⟩ := D9 (m.length + 1) ⟨d1, .call (.t d0) args, none⟩ (by simp)
  obtain ⟨gP, ht, h4, Rf⟩ := ud rfl pX
  simp only [wpOps, Re]
  show (if Region.wanted ue (yielded ops bk.tmps) = true then ue.wp C.P bk gZ _ Q ∨ (ue.asks C.P bk gZ ∧ LetsOut Q) else _)
  rw [if_pos (yW ht)]
  left
  change nN ue.op = .call (.t d0) args at h4
  have Rg : dj ue.op = some (.call (.t d0) args) := by
   rcases nO h4 with h | h
   ·cases h
   ·exact h
  have Jc : rj b := eH.hM b ae
  have Jd : gZ.heap[b]? = some (.cells #[hY] ty fr) := by
   rw [eH.old b (a7.gy b ae) (fun ⟨u, hu⟩ => a7.gF u b hu ae)]; exact yy
  have Je : ∀ j ∈ cs, bk.tmps.getD j undef = a.tmps.getD j undef := by
   intro j cJ
   rw [cC j (by simp [na, cJ])]
   exact Jb j (fun e => ks (e ▸ cJ))
  have qW : bk.tmps.getD k undef = .pointer (some ⟨b, 0, none⟩) := (Je k zo).trans aE
  have Jf : (cs.map fun j => a.tmps.getD j undef) = cs.map fun j => bk.tmps.getD j undef := List.map_congr_left fun j cJ => (Je j cJ).symm
  obtain ⟨cE, cF⟩ := Q7 (k := k) eH qW Jc Jd rfl cs
  have CU : ∀ aA cR aU, kT C aA rest K → Rel w F (fun b => ∃ u, S u b) ⟨n.n, n.fx⟩ ρ aA cR aU → wpOps C.P ops Q ((List.range rest.length).map (· + (m.length + 2))) cR aU := by
   intro e6 dz mz aQ zp
   have y6 := I9 C K rest ((⟨some d0, .aD T (.t k), none⟩ :: m) ++ [⟨d1, .call (.t d0) args, none⟩]) [] e6 aQ
   have := Dw (Q := Q) bB (ops := ops) (ros := ((⟨some d0, .aD T (.t k), none⟩ :: m) ++ [⟨d1, .call (.t d0) args, none⟩]) ++ (rest ++ [])) (l2 := []) (K := K) (fun aA cR aU kx ff => by
     obtain ⟨v8, v9, v_, Rh, GD, Eb⟩ := ff
     exact bg aA cR aU kx ⟨v8, v9, v_, Rh, GD, a7.Q2 Eb⟩) ((List.range rest.length).map (· + (m.length + 2))) (fun i au => by
      have vR : ((⟨some d0, .aD T (.t k), none⟩ :: m) ++ [⟨d1, .call (.t d0) args, none⟩]) ++ (rest ++ []) = (⟨some d0, .aD T (.t k), none⟩ :: (m ++ ⟨d1, .call (.t d0) args, none⟩ :: rest) : List cK) := by simp
      rw [vR]
      refine ⟨fun mS => ?_, fun o cm => ?_⟩
      ·rw [List.getElem?_eq_none_iff]
       have := Array.getElem?_eq_none_iff.1 mS
       simp; omega
      ·obtain ⟨an, hL, aj⟩ := oL i o (by simpa using cm)
       obtain ⟨r, ai, rfl⟩ : ∃ r, (⟨some d0, .aD T (.t k), none⟩ :: (m ++ ⟨d1, .call (.t d0) args, none⟩ :: rest) : List cK)[i]? = some r ∧ r.un = an := by
        rw [List.getElem?_map, Option.map_eq_some_iff] at hL; exact hL
       exact ⟨r, ai, aj⟩) e6 dz mz (by
      have e : ((⟨some d0, .aD T (.t k), none⟩ :: m) ++ [⟨d1, .call (.t d0) args, none⟩] : List cK).length = m.length + 2 := by simp
      rw [e] at y6; exact y6) zp
   rwa [List.append_nil] at this
  have Ri : ∀ i ∈ n.fx, bk.tmps.getD i undef = ρ i := by
   intro i au
   rw [cC i (by simp [na, au]), Jb i (fun e => ?_)]
   ·exact ie i au
   ·simp only [kR, Bool.and_eq_true, Bool.not_eq_true', List.contains_eq_mem, decide_eq_false_iff_not] at b9
    exact b9.2 (e ▸ au)
  have I_ : k0 < cs.length := (List.getElem?_eq_some_iff.1 uc).1
  have Rj : ue.dst = d1 := gP.symm
  exact Q3 (n := n) (ρ := ρ) (K := fun aA => kT C aA rest K) bf bG Ri eH Rg Rf
   (arr := (cs.map fun j => bk.tmps.getD j undef).toArray) (k := k0) (caps := cs.map (oT k s2)) (g := g) (ps := ps) (r := r)
   (by rw [cC d0 (by simp [na]), Rd]; simp only [hY, Jf]) (by simpa using cE) cF
   ⟨b, ty, fr, by
     rw [List.getD_eq_getElem?_getD, List.getElem?_map, uc]; exact qW, by rw [Jd]; simp only [hY, Jf], Jc⟩ (by simpa using I_)
   a4 a_ a2 c1 c9 cl (by rw [Rj]; exact cf) CU
 have := Dw (Q := Q) bB (ops := ops) (ros := [⟨some d0, .aD T (.t k), none⟩] ++ (m ++ ⟨d1, .call (.t d0) args, none⟩ :: rest)) (l2 := (m.length + 1) :: (List.range rest.length).map (· + (m.length + 2))) mid
  ((List.range m.length).map (· + 1)) (fun i au => by
    obtain ⟨j, cJ, rfl⟩ := List.mem_map.1 au
    have wa : j < m.length := List.mem_range.1 cJ
    refine ⟨fun mS => ?_, fun o cm => ?_⟩
    ·have := Array.getElem?_eq_none_iff.1 mS
     omega
    ·obtain ⟨mu, vV, fs⟩ := D9 (j + 1) m[j] (by
      simp only [List.getElem?_cons_succ]
      rw [List.getElem?_append_left wa, List.getElem?_eq_getElem wa])
     have heq : mu = o := by rw [vV] at cm; exact Option.some.inj cm
     subst heq
     refine ⟨m[j], by
      simp only [List.singleton_append, List.getElem?_cons_succ]
      rw [List.getElem?_append_left wa, List.getElem?_eq_getElem wa], ?_⟩
     have Rk := hm m[j] (List.getElem_mem wa)
     unfold oJ at fs ⊢
     split at fs
     ·rename_i al
      rw [if_pos]
      ·exact fs
      ·cases Jg : mu.dst with
       | none => rfl
       | some d =>
         rw [Jg] at al
         simp only [kR, Bool.and_eq_true, decide_eq_true_eq, Bool.not_eq_true', List.contains_eq_mem, decide_eq_false_iff_not] at al ⊢
         refine ⟨al.1, ?_⟩
         have yX : m[j].dst = some d := by
          split at fs
          ·simp only [cK.un, Option.some.injEq, cK.mk.injEq] at fs
           rw [← fs.1, Jg]
          ·cases fs
         obtain ⟨fS, gG⟩ := Rk d yX
         simp only [na, List.mem_cons, List.mem_append, not_or]
         exact ⟨fS, fun e => gG (e ▸ zo), gG, al.2⟩
     ·cases fs) (fin s (some d0) .hole) ab w (by simpa using hw) Rc
 exact this
def Jh (C : ck) (f : FuncId) (k k0 : Nat) (cs : List Nat) (args : List aI) (d1 : Option Nat) (rest : List cK) (fh : List Nat) (P : List (Nat × I) → Prop) (s1 : ar) : Prop :=
 ∃ ps r, ps.map (·.a) = args.map (aS s1) ++ cs.map (oT k s1) ∧ (∀ p ∈ ps, p.ok s1) ∧ h9 ps = true ∧
   lF C f args.length (args.length + k0) (ps.map (·.d)) r (ps.map (·.o)) ∧ r.res = true ∧ (jx ps = true → r.cW = true ∧ ∀ p ∈ ps, p.o.cW = true) ∧
   cv C (fin (hH (fg s1 ps) ps) d1 r) rest none (fun _ s => P (iv fh s))
def nX (C : ck) (f : FuncId) (k k0 d0 : Nat) (cs : List Nat) (m : List cK) (args : List aI) (d1 : Option Nat) (rest : List cK) (fh : List Nat) (P : List (Nat × I) → Prop) (s : ar) : Prop :=
 cv C (fin s (some d0) .hole) m none fun _ s1 => Jh C f k k0 cs args d1 rest fh P s1
def Ji (C : ck) (f : FuncId) (k k0 d0 : Nat) (cs : List Nat) (m : List cK) (args : List aI) (d1 : Option Nat) (rest : List cK) (fh : List Nat) (K : ar → Prop) (s : ar) : Prop :=
 nX C f k k0 d0 cs m args d1 rest fh (fun l => K (aa l)) s
def Ec (f : Nat → Bool) (m : List cK) : Bool := m.all fun r => match r.dst with
 | none => true
 | some d => f d
theorem Jj {f : Nat → Bool} {m : List cK} (h : Ec f m = true) : ∀ r ∈ m, ∀ d, r.dst = some d → f d = true := by
 intro r a7 d al
 have := List.all_eq_true.1 h r a7
 rw [al] at this; exact this
theorem Jk (k : List Nat) (s : ar) : rn s (iv k s) := by
 intro p ax
 obtain ⟨t, _, rfl⟩ := List.mem_map.1 ax
 exact .inl rfl
def Ed (C : ck) (f : FuncId) (k k0 d0 : Nat) (cs : List Nat) (m : List cK) (args : List aI) (d1 : Option Nat) (rest : List cK) (fh : List Nat) : (Exit → ar → Prop) → ar → Prop :=
 fun Q s => Ji C f k k0 d0 cs m args d1 rest fh (Q .normal) s
def Jl (T : TypeId) (k d0 : Nat) (m : List cK) (args : List aI) (d1 : Option Nat) (rest : List cK) : R :=
 .U (⟨some d0, .aD T (.t k), none⟩ :: (m ++ ⟨d1, .call (.t d0) args, none⟩ :: rest)) none
theorem Rl (vs : List Value) : ∀ (m n : Nat), m + n = vs.length → vs.drop m = ((List.range n).map (· + m)).map fun j => vs.getD j undef := by
 intro m n h
 apply List.ext_getElem?
 intro i
 rw [List.getElem?_drop, List.map_map, List.getElem?_map]
 by_cases au : i < n
 ·rw [List.getElem?_range au, List.getElem?_eq_getElem (by omega)]
  simp only [Option.map_some, Function.comp]
  rw [List.getD_eq_getElem?_getD, List.getElem?_eq_getElem (by omega)]
  simp only [Option.getD_some, Option.some.injEq]
  congr 1; omega
 ·rw [List.getElem?_eq_none (by omega), List.getElem?_eq_none (by simp; omega)]; rfl
theorem zq {c : Code} {rs : List cK} (h : bt n c = some (.U rs none)) : ∃ id ops, c = .region id ops false ∧ oK n ops ops.toList = some rs := by
 cases c with
 | region id ops draw =>
   cases draw with
   | false =>
     simp only [bt, Option.map_eq_some_iff] at h
     obtain ⟨r, ai, aj⟩ := h
     cases aj
     exact ⟨id, ops, rfl, ai⟩
   | true =>
     simp only [bt] at h
     split at h
     ·simp only [Option.map_eq_some_iff] at h
      obtain ⟨r, ai, aj⟩ := h
      cases aj
     ·cases h
 | seq a b => simp only [bt] at h; split at h <;> cases h
 | cond c a b => simp only [bt] at h; split at h <;> cases h
 | block id b => simp only [bt, Option.map_eq_some_iff] at h; obtain ⟨r, ai, aj⟩ := h; cases aj
 | loop b => simp only [bt, Option.map_eq_some_iff] at h; obtain ⟨r, ai, aj⟩ := h; cases aj
 | _ => simp [bt] at h
def zr (C : ck) (f : FuncId) (fx : List Nat) (Rm m k : Nat) (T : (Exit → ar → Prop) → ar → Prop) (b : R) : Prop :=
 ∃ (ty : TypeId) (k0 d0 mA : Nat) (hU : List cK) (args : List aI) (d1 : Option Nat) (rest : List cK) (fh : List Nat),
   T = Ed C f k k0 d0 ((List.range mA).map (· + m)) hU args d1 rest fh ∧ b = Jl ty k d0 hU args d1 rest ∧ (C.T ty).flat = true ∧ Ec (fun d => d != d0 && decide (m + mA ≤ d)) hU = true ∧ decide (m + mA ≤ d0) = true ∧
   decide (k0 < mA) = true ∧ k = m + k0 ∧ ((List.range mA).all fun j => fx.contains (m + j)) = true ∧ args.length = m ∧ m + mA = Rm
theorem lF.of_wp (bB : C.fq) {f : FuncId} {fn : Func} {c : Code} {dD : R} {fx : List Nat} {as outs : List I} {r : I} {k m : Nat} (bH : C.P.funcs[f]? = some fn) (ae : fn.body = some c)
  (kU : (fn.name == "runtime.NumGoroutine") = false) (ah : bt ⟨fn.ntmps, fx⟩ c = some dD.strip) (bg : as.length ≤ fn.ntmps)
  (aE : dD.lZ (zr C f fx as.length m k))
  (h : ∀ Q : Exit → ar → Prop, (∀ s, eE (Ends C fx fn.results.toList r outs) s → Q .ret s) → (∀ s, eE (Ends C fx fn.results.toList r outs) s → Q .normal s) → db C dD Q (aa (num 0 as))) : lF C f m k as r outs := by
 rintro w F X S vs hl ⟨b, Rn, fr, a4, a_, a2, c1⟩ a7
 refine DH (fx := fx) bB bH ae kU bg hl a7 fun a nP eT => ?_
 refine DG bB (H := zr C f fx as.length m k) ?_ c (by rw [R.DC]; exact ah) (R.y1 dD aE) (y2 dD ?_) nP
 ·rintro c T fY Q s ab fM ⟨ty, k0, d0, mA, hU, args, d1, rest, fh, rfl, rfl, kr, hm, ks, zs, aE, ie, hlen, auZ⟩ v7 Ro ⟨bf, bG, cC, tj, ct, eH⟩
  replace hm : ∀ r ∈ hU, ∀ d, r.dst = some d → d ≠ d0 ∧ m + mA ≤ d := fun r a7 d al => by
   have := Jj hm r a7 d al
   simpa using this
  replace ks := of_decide_eq_true ks
  replace zs := of_decide_eq_true zs
  replace ie : ∀ j, j < mA → m + j ∈ fx := fun j cJ => by
   have := List.all_eq_true.1 ie j (List.mem_range.2 cJ)
   simpa using this
  obtain ⟨id, ops, rfl, p9⟩ := zq v7
  have Jm : ∀ j, j < mA → ab.tmps.getD (j + m) undef = vs.getD (j + m) undef := fun j cJ => by
   rw [Nat.add_comm]; exact cC _ (ie j cJ)
  have ic : ((List.range mA).map (· + m)).map (fun j => ab.tmps.getD j undef) = vs.drop m := by
   rw [Rl vs m mA (by omega), List.map_map, List.map_map]
   apply List.map_congr_left
   intro j cJ
   exact Jm j (List.mem_range.1 cJ)
  refine Ja (Q := rp w F X ⟨fn.ntmps, fx⟩ (hI vs) Q) (K := eE (Q .normal)) (b := b) (ty := Rn) (fr := fr) (g := f) (k0 := k0) (cs := (List.range mA).map (· + m)) bB p9 kr (fun r a7 d al => ⟨(hm r a7 d al).1, fun ub => ?_⟩) (fun ub => ?_) ?_ bf bG cC eH (eH.hM b a2) ?_ ?_ ?_ (fun aA cR aU aE ff => ff.eE aE)
  ·obtain ⟨j, cJ, rfl⟩ := List.mem_map.1 ub
   have := (hm r a7 _ al).2; have := List.mem_range.1 cJ; omega
  ·obtain ⟨j, cJ, e⟩ := List.mem_map.1 ub
   have := List.mem_range.1 cJ; omega
  ·rw [List.getElem?_map, List.getElem?_range zs, aE]; simp [Nat.add_comm]
  ·rw [aE, Nat.add_comm, Jm k0 zs, Nat.add_comm, ← aE]; exact a4
  ·rw [ic, eH.old b (a7.gy b a2) c1]; exact a_
  ·refine ry (fun _ s1 => ?_) Ro
   rintro ⟨ps, r, i9, bj, dO, b9, dJ, dF, eW⟩
   exact ⟨ps, r, i9, bj, dO, b9, dJ, dF, ry (fun _ s h => .inr ⟨_, Jk _ _, h⟩) eW⟩
 ·rw [y5]
  exact h _ (fun s h => ⟨.inr rfl, h⟩) (fun s h => ⟨.inl rfl, h⟩)
theorem Rp {Q : Exit → ar → Prop} {l : List (Nat × I)} {f : FuncId} {k k0 d0 : Nat} {cs : List Nat} {m : List cK} {args : List aI} {d1 : Option Nat} {rest : List cK} {fh : List Nat} {b : R} (ei : List (Nat × I))
  (h : ∀ P : List (Nat × I) → Prop, P ei → nX C f k k0 d0 cs m args d1 rest fh P (aa l)) (aE : Q .normal (aa ei)) : db C (.iM (Ed C f k k0 d0 cs m args d1 rest fh) b) Q (aa l) :=
 fun gC Ee => h (fun l => gC .normal (aa l)) (Ee _ _ aE)
theorem Jn {l : List (Nat × I)} {f : FuncId} {k k0 : Nat} {cs : List Nat} {args : List aI} {d1 : Option Nat} {rest : List cK} {fh : List Nat} {P : List (Nat × I) → Prop} {r : I} (ps : List cM)
  (b3 : lF C f args.length (args.length + k0) (ps.map (·.d)) r (ps.map (·.o))) (aj : ps.map (·.a) = hX (aa l) args ++ cs.map (oT k (aa l))) (aQ : oS (aa l) ps) (bd : h9 ps = true)
  (cG : r.res = true) (cp : jx ps = false ∨ (r.cW && pv ps) = true)
  (i_ : cv C (fin (hH (fg (aa l) ps) ps) d1 r) rest none (fun _ s => P (iv fh s))) : Jh C f k k0 cs args d1 rest fh P (aa l) := by
 refine ⟨ps, r, by rw [aj, tw], zh aQ, bd, b3, cG, ?_, i_⟩
 intro hl
 rcases cp with cp | cp
 ·rw [cp] at hl; cases hl
 ·rw [Bool.and_eq_true] at cp; exact ⟨cp.1, zi cp.2⟩
end
end Go.dk
