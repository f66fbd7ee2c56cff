/- Part of a proof that a law returns true for every input. No condition. -/
import Derived.Test.YtbemmmimelklkaaFwI
namespace Go.cB
def ku (C : bZ) (f : FuncId) (m k : Nat) (as : List I) (r : I) (outs : List I) : Prop :=
 ∀ (w : World) (F X : Nat → Prop) (S : Nat → Nat → Prop) (vs : List Value), vs.length = as.length →
   (∃ b ty fr, vs.getD k undef = .pointer (some ⟨b, 0, none⟩) ∧ w.heap[b]? = some (.cells #[.func (.func f) #[] (vs.drop m).toArray] ty fr) ∧ F b ∧ ¬ X b) →
   bE w F X F S (e3 as) (gv vs) w →
   lT C.P f vs.toArray w fun v aD => ∃ bI aL, bE w F X bI aL (e3 (r :: outs)) (gv (v :: vs)) aD
section
variable {C : bZ} {w0 w : World} {F0 X F bI : Nat → Prop} {S aL : Nat → Nat → Prop} {n : Fr} {ρ : Nat → Value} {s ao : aj} {az gS : Nat → Value} {a : Act} {av : I} {Q : Exit → Act → World → Prop} {aD : World}
theorem bE.base (h : bE w0 F0 X F S s az w) : bE w F (fun b => ∃ u, S u b) F S s az w where
 gk := fun _ h => h
 gC := fun _ h => .inl h
 eT := h.eT
 dM := h.dM
 ff := h.ff
 eU := h.eU
 dh := fun u b U => .inl ⟨u, U⟩
 da := h.da
 old := fun _ _ _ => rfl
 size := Nat.le_refl _
 os := rfl
 tape := rfl
 output := rfl
theorem bE.Nc (h : bE w0 F0 X F S s az w) (bq : bE w F (fun b => ∃ u, S u b) bI aL ao gS aD) : bE w0 F0 X bI aL ao gS aD where
 gk := fun b U => bq.gk b (h.gk b U)
 gC := fun b U => by
  rcases bq.gC b U with U | ⟨u, U⟩ | U
  ·exact h.gC b U
  ·exact .inr (h.dh u b U)
  ·exact .inr (.inr (Nat.le_trans h.size U))
 eT := bq.eT
 dM := bq.dM
 ff := bq.ff
 eU := bq.eU
 dh := fun u b U => by
  rcases bq.dh u b U with ⟨u, U⟩ | U
  ·exact h.dh u b U
  ·exact .inr (Nat.le_trans h.size U)
 da := bq.da
 old := fun b U iX => by
  refine (bq.old b (Nat.lt_of_lt_of_le U h.size) fun ⟨u, hu⟩ => ?_).trans (h.old b U iX)
  rcases h.dh u b hu with au | au
  ·exact iX au
  ·omega
 size := Nat.le_trans h.size bq.size
 os := bq.os.trans h.os
 tape := bq.tape.trans h.tape
 output := bq.output.trans h.output
theorem FQ (C : bZ) (K : aj → Prop) : ∀ (rs pre post : List cg) (s : aj), jI C s rs K → iq C (pre ++ (rs ++ post)) s ((List.range rs.length).map (· + pre.length)) K := by
 intro rs
 induction rs with
 | nil => intro pre post s h; exact h
 | cons r rs ih =>
   intro pre post s h
   rw [List.length_cons, List.range_succ_eq_map, List.map_cons, List.map_map]
   simp only [iq, Nat.zero_add]
   rw [List.getElem?_append_right (Nat.le_refl _)]
   simp only [Nat.sub_self, List.cons_append, List.getElem?_cons_zero]
   have key : ∀ s1, jI C s1 rs K → iq C (pre ++ r :: (rs ++ post)) s1 ((List.range rs.length).map ((fun x => x + pre.length) ∘ Nat.succ)) K := by
    intro s1 ab
    have := ih (pre ++ [r]) post s1 ab
    simp only [List.append_assoc, List.singleton_append, List.length_append, List.length_singleton] at this
    have e : ((fun x => x + pre.length) ∘ Nat.succ) = fun x => x + (pre.length + 1) := by funext x; simp; omega
    rw [e]; exact this
   simp only [jI] at h
   exact AB h key
theorem Nd (ir : a.defers = []) (dB : a.tmps.size = n.n) (g3 : ∀ i ∈ n.fx, a.tmps.getD i undef = ρ i) (aO : bE w0 F0 X F S s (fun t => a.tmps.getD t undef) w)
  {o : Oper} {d0 k : Nat} {args : List aA} {g : FuncId} {caps : List I} {arr : Array Value} {ps : List cj} {r : I} (ck : cJ o.op = some (.call (.t d0) args)) (ah : jH n o.dst = true)
  (aK : a.tmps.getD d0 undef = .func (.func g) #[] arr) (al : dE w F s (fun t => a.tmps.getD t undef) caps arr.toList) (fE : I.e2 caps = true)
  (Nf : ∃ b ty fr, (arr.toList).getD k undef = .pointer (some ⟨b, 0, none⟩) ∧ w.heap[b]? = some (.cells #[.func (.func g) #[] arr] ty fr) ∧ F b) (FR : k < arr.size)
  (af : ps.map (·.a) = args.map (aG s) ++ caps) (aF : ∀ p ∈ ps, p.ok s) (bb : hg ps = true) (bV : ku C g args.length (args.length + k) (ps.map (·.d)) r (ps.map (·.o))) (cd : r.res = true)
  (cf : i1 ps = true → r.c8 = true ∧ ∀ p ∈ ps, p.o.c8 = true) {K : aj → Prop} {next : Act → World → Prop} (er : K (fin (g2 (eu s ps) ps) o.dst r))
  (bl : ∀ ao cl aD, K ao → Rel w0 F0 X n ρ ao cl aD → next cl aD) : o.wp C.P a w next Q := by
 obtain ⟨dst, op, ty, pos, after, guard⟩ := o
 simp only at ck ah er
 cases op with
 | call c =>
   obtain ⟨callee, kM, argTypes⟩ := c
   simp only [cJ] at ck
   split at ck
   ·split at ck
    ·rename_i tt _ _ Lp xs bB mC
     simp only [Option.some.injEq, eX.call.injEq] at ck
     obtain ⟨rfl, rfl⟩ := ck
     have Ng : tt = .tmp d0 := by
      cases tt with
      | tmp t => simp only [db, Option.some.injEq, aA.t.injEq] at bB; rw [bB]
      | const v => simp only [db, Option.map_eq_some_iff] at bB; obtain ⟨c, _, bB⟩ := bB; cases bB
      | func g => simp [db] at bB
      | global g => simp [db] at bB
     subst Ng
     have pS : execOp a.eval { dst, op := .call { callee := .value (.tmp d0), args := kM, argTypes }, type := ty, pos, after, guard } = callFunc g ((kM.toList.map a.eval ++ arr.toList).toArray) := by
      have : a.eval (.tmp d0) = .func (.func g) #[] arr := aK
      simp only [execOp, resolve, this, Deferred.ofValue, pure_bind, invoke]
      congr 1
      apply Array.ext'; simp
     unfold Oper.wp
     rw [pS]
     have hlen : (kM.toList.map a.eval).length = xs.length := by
      have := congrArg List.length (pI mC)
      simpa using this
     have tu : dE w F s (fun t => a.tmps.getD t undef) (xs.map (aG s) ++ caps) (kM.toList.map a.eval ++ arr.toList) := Ec (wq aO (fun _ => rfl) _ _ (pI mC)) al
     rw [← af] at tu
     obtain ⟨gE, l2⟩ := Ed tu
     have fj : ∀ d ∈ xs.map (aG s) ++ caps, d.plain = true := by
      intro d ah
      rcases List.mem_append.1 ah with ah | ah
      ·obtain ⟨x, au, rfl⟩ := List.mem_map.1 ah
       exact C5 s x fun av e => by
        subst e
        have hm := pI mC
        have : some (aA.c av) ∈ xs.map some := List.mem_map.2 ⟨_, au, rfl⟩
        rw [← hm] at this
        obtain ⟨o, _, bU⟩ := List.mem_map.1 this
        cases o with
        | const v => simp only [db, Option.map_eq_some_iff] at bU; obtain ⟨c, al, e⟩ := bU; cases e; exact zo al
        | tmp n => simp [db] at bU
        | func g => simp [db] at bU
        | global g => simp [db] at bU
      ·obtain ⟨k, ay⟩ := List.getElem?_of_mem ah
       exact vK fE ay
     have Ar := D8 (C := C) aO (ps := ps) (vs := kM.toList.map a.eval ++ arr.toList) (f := g) (r := r) (by simpa using gE)
      (fun i p v an aK => ⟨fj p.a (by rw [← af]; exact List.mem_map.2 ⟨p, List.mem_of_getElem? an, rfl⟩), l2 i p.a v (by simp [an]) aK⟩) aF bb
      (fun Fc kp dH bo iX an => by
       refine bV w Fc kp dH _ (by rw [← gE]; simp) ?_ an
       obtain ⟨b, wY, fr, aJ, aP, a_⟩ := Nf
       refine ⟨b, wY, fr, ?_, ?_, bo b a_, fun au => by obtain ⟨u, hu⟩ := iX b au; exact aO.ff u b hu a_⟩
       ·rw [List.getD_eq_getElem?_getD, List.getElem?_append_right (by omega), hlen, Nat.add_sub_cancel_left, ← List.getD_eq_getElem?_getD]; exact aJ
       ·rw [aP, ← hlen, List.drop_left])
      cd cf
     rcases Ar with ⟨dx, eb⟩ | ⟨v, aD, dx, bI, aL, eb, hH⟩
     ·rw [dx, Oper.upon_enter]
      refine Calls.mono eb ?_
      rintro e aD ⟨v, rfl, bI, aL, bN, b6⟩
      exact bl _ _ _ er (Rel.put ir dB g3 bN b6.1 ah)
     ·rw [dx, Oper.upon_value]
      exact bl _ _ _ er (Rel.put ir dB g3 eb hH.1 ah)
    ·cases ck
   ·split at ck
    ·simp only [Option.map_eq_some_iff] at ck; obtain ⟨_, _, ck⟩ := ck; cases ck
    ·cases ck
   ·split at ck
    ·simp only [Option.map_eq_some_iff] at ck; obtain ⟨_, _, ck⟩ := ck; cases ck
    ·cases ck
   iterate 3
    ·split at ck
     ·split at ck <;> cases ck
     ·cases ck
   ·cases ck
 | makeFunc fn first cs =>
   cases fn <;> simp only [cJ] at ck <;> first | (cases ck; done) | (split at ck <;> simp at ck)
 | slice T x cF ak gn =>
   cases gn <;> simp only [cJ] at ck <;> first | (cases ck; done) | (split at ck <;> simp at ck)
 | _ => simp only [cJ] at ck <;> first | (cases ck; done) | (simp at ck; done) | (split at ck <;> simp at ck)
theorem Nh {op : Op} {T : TypeId} {x : aA} (h : cJ op = some (.aM T x)) : ∃ y, op = .load T y ∧ db y = some x := by
 cases op with
 | load ts y =>
   simp only [cJ, Option.map_eq_some_iff] at h
   obtain ⟨cx, au, h⟩ := h
   cases h
   exact ⟨y, rfl, au⟩
 | call c =>
   obtain ⟨callee, kM, argTypes⟩ := c
   simp only [cJ] at h
   split at h <;> (try split at h) <;> (try split at h) <;> (try simp [Option.map_eq_some_iff] at h)
 | makeFunc fn first cs =>
   cases fn <;> simp only [cJ] at h <;> first | (cases h; done) | (split at h <;> simp at h)
 | slice T x cF ak gn =>
   cases gn <;> simp only [cJ] at h <;> first | (cases h; done) | (split at h <;> simp at h)
 | _ => simp only [cJ] at h <;> first | (cases h; done) | (simp at h; done) | (split at h <;> simp at h)
theorem wZ {y : Operand} {k : Nat} (h : db y = some (.t k)) : y = .tmp k := by
 cases y with
 | tmp t => simp only [db, Option.some.injEq, aA.t.injEq] at h; rw [h]
 | const v => simp only [db, Option.map_eq_some_iff] at h; obtain ⟨c, _, h⟩ := h; cases h
 | func g => simp [db] at h
 | global g => simp [db] at h
def np (k : Nat) (s : aj) (j : Nat) : I := if j = k then .ref .hole else hU j (s j)
theorem Ni {az : Nat → Value} {b k : Nat} {v : Value} {ty : TypeId} {fr : Nat × Nat} (aO : bE w0 F0 X F S s az w) (ay : az k = .pointer (some ⟨b, 0, none⟩)) (U : F b) (al : w.heap[b]? = some (.cells #[v] ty fr)) (ab : Value.fN v = true) :
  ∀ cs : List Nat, dE w F s az (cs.map (np k s)) (cs.map az) ∧ I.e2 (cs.map (np k s)) = true := by
 intro cs
 induction cs with
 | nil => exact ⟨by rw [List.map_nil, List.map_nil, dE], rfl⟩
 | cons j cs ih =>
   simp only [List.map_cons]
   have bS : aH w F s az (np k s j) (az j) (fun _ => False) ∧ (np k s j).plain = true := by
    unfold np
    split
    ·rename_i e; subst e
     rw [ay]
     refine ⟨(aH.cv rfl).2 ⟨rfl, ?_⟩, rfl⟩
     rw [ax]
     refine ⟨b, 0, [v], rfl, U, ?_, ?_⟩
     ·intro i c ak
      cases i with
      | zero => simp at ak; subst ak; simp [World.cell?, al]
      | succ i => simp at ak
     ·rw [ax]; exact ⟨v, ab, rfl⟩
    ·unfold hU
     split
     ·rename_i an
      exact ⟨aH.nothing an (aO.da j), an⟩
     ·rename_i an
      refine ⟨?_, rfl⟩
      rw [aH]
      intro d ah an
      simp only [I.sub, Option.some.injEq] at ah
      subst ah
      have aZ : (s j).tree = true := by
       cases aa : s j <;> first | rfl | (rw [aa] at an; simp [I.plain] at an)
      exact ⟨_, none, rfl, rfl, ((aH.cv aZ).1 (aO.da j)).1⟩
   refine ⟨?_, ?_⟩
   ·rw [dE]; exact ⟨_, _, rfl, bS.1, ih.1⟩
   ·simp only [I.e2, bS.2, ih.2, Bool.and_self]
theorem FT (bp : C.Ok) {id : Nat} {ops : Array Oper} {T : TypeId} {k k0 d0 : Nat} {m rest : List cg} {args : List aA} {d1 : Option Nat} {g : FuncId} {cs : List Nat} {b : Nat} {ty : TypeId} {fr : Nat × Nat} {K : aj → Prop}
  (oD : ni n ops ops.toList = some ((⟨some d0, .aM T (.t k), none⟩ :: (m ++ ⟨d1, .call (.t d0) args, none⟩ :: rest) : List cg).map cg.un))
  (kG : (C.T T).flat = true) (hm : ∀ r ∈ m, ∀ d, r.dst = some d → d ≠ d0 ∧ d ∉ cs) (jh : d0 ∉ cs) (r4 : cs[k0]? = some k)
  (ir : a.defers = []) (dB : a.tmps.size = n.n) (g3 : ∀ i ∈ n.fx, a.tmps.getD i undef = ρ i) (aO : bE w0 F0 X F S s (fun t => a.tmps.getD t undef) w)
  (U : F b) (ay : a.tmps.getD k undef = .pointer (some ⟨b, 0, none⟩)) (v8 : w.heap[b]? = some (.cells #[.func (.func g) #[] (cs.map fun j => a.tmps.getD j undef).toArray] ty fr))
  (h : jI C (fin s (some d0) .hole) m fun s1 => ∃ ps r, ps.map (·.a) = args.map (aG s1) ++ cs.map (np k s1) ∧ (∀ p ∈ ps, p.ok s1) ∧ hg ps = true ∧
   ku C g args.length (args.length + k0) (ps.map (·.d)) r (ps.map (·.o)) ∧ r.res = true ∧ (i1 ps = true → r.c8 = true ∧ ∀ p ∈ ps, p.o.c8 = true) ∧ jI C (fin (g2 (eu s1 ps) ps) d1 r) rest K)
  (bl : ∀ ao cl aD, K ao → Rel w0 F0 X n ρ ao cl aD → Q .normal cl aD) : (Code.region id ops false).wp C.P Q a w := by
 obtain ⟨hl, nk⟩ := tw oD
 have Be : ∀ (i : Nat) (r : cg), (⟨some d0, .aM T (.t k), none⟩ :: (m ++ ⟨d1, .call (.t d0) args, none⟩ :: rest) : List cg)[i]? = some r → ∃ o, ops[i]? = some o ∧ nh n ops o = some r.un := by
  intro i r ak
  have dQ : i < ops.toList.length := by
   rw [hl, List.length_map]
   exact (List.getElem?_eq_some_iff.1 ak).1
  obtain ⟨hf, ab, af⟩ := nk i _ (List.getElem?_eq_getElem dQ)
  rw [List.getElem?_map, ak] at ab
  simp only [Option.map_some, Option.some.injEq] at ab
  exact ⟨_, by rw [← Array.getElem?_toList]; exact List.getElem?_eq_getElem dQ, by rw [ab]; exact af⟩
 have r5 : ∀ {r : cg} {o : Oper}, r.guard = none → nh n ops o = some r.un → r.dst = o.dst ∧ o.guard = none ∧ mE o.op = r.bu.base ∧ jH n o.dst = true := by
  intro r o bO h
  unfold nh at h
  split at h
  ·rename_i ah
   split at h
   ·rename_i Nj gu
    simp only [cg.un, Option.some.injEq, cg.mk.injEq] at h
    obtain ⟨aJ, aP, a_⟩ := h
    refine ⟨aJ.symm, ?_, aP, ah⟩
    rw [a_, bO] at gu
    cases bU : o.guard with
    | none => rfl
    | some Av =>
      rw [bU] at gu; simp only [tq] at gu; split at gu <;> cases gu
   ·cases h
  ·cases h
 have Nk : ops.size = m.length + rest.length + 2 := by
  have : ops.toList.length = ops.size := by simp
  rw [← this, hl]; simp; omega
 have Nl : List.range ops.size = 0 :: ((List.range m.length).map (· + 1) ++ ((m.length + 1) :: (List.range rest.length).map (· + (m.length + 2)))) := by
  rw [Nk, show m.length + rest.length + 2 = (m.length + rest.length + 1) + 1 from rfl, List.range_succ_eq_map]
  congr 1
  rw [show m.length + rest.length + 1 = m.length + (rest.length + 1) by omega, List.range_add, List.map_append, List.range_succ_eq_map]
  simp only [List.map_map, List.map_cons, Nat.add_zero]
  congr 1
  congr 1
  apply List.map_congr_left
  intro x _; simp; omega
 obtain ⟨oS, Nm, jm⟩ := Be 0 _ rfl
 obtain ⟨ia, bF, dJ, cz⟩ := r5 rfl jm
 change mE oS.op = .aM T (.t k) at dJ
 have tO : cJ oS.op = some (.aM T (.t k)) := by
  rcases mF dJ with h | h
  ·cases h
  ·exact h
 obtain ⟨y, bC, tP⟩ := Nh tO
 have := wZ tP; subst this
 let gN : Value := .func (.func g) #[] (cs.map fun j => a.tmps.getD j undef).toArray
 have il : Rd w b 0 [gN] := by
  intro i c ak
  cases i with
  | zero => simp at ak; subst ak; simp [World.cell?, v8, gN]
  | succ i => simp at ak
 refine wp_region ?_
 rw [Nl]
 simp only [wpOps, Nm]
 show (if Region.wanted oS (yielded ops a.tmps) = true then oS.wp C.P a w _ Q ∨ (oS.asks C.P a w ∧ LetsOut Q) else _)
 rw [if_pos (wC bF)]
 left
 have pS : (execOp a.eval oS).run C.P w = .ok (.value gN) w := by
  obtain ⟨dst, op, ty, pos, after, guard⟩ := oS
  simp only at bC
  subst bC
  have : a.eval (.tmp k) = .pointer (some ⟨b, 0, none⟩) := ay
  simp [execOp, this, Instr.loadAt, Instr.sureAddr, Da bp kG il]
 unfold Oper.wp
 rw [pS, Oper.upon_value]
 have Bf : some d0 = oS.dst := ia
 rw [← Bf] at cz ⊢
 let ad : Act := a.put (some d0) gN
 let lX : Fr := ⟨n.n, d0 :: k :: (cs ++ n.fx)⟩
 let ρ1 : Nat → Value := fun t => ad.tmps.getD t undef
 have w1 : k ∈ cs := List.mem_of_getElem? r4
 have nb := aO.base
 have Bg : Rel w F (fun b => ∃ u, S u b) ⟨n.n, []⟩ ρ1 (fin s (some d0) .hole) ad w :=
  Rel.put (n := ⟨n.n, []⟩) ir dB (fun i ak => by cases ak) nb (.inl ⟨rfl, by rw [aH]; trivial⟩) (by
   simp only [jH, Bool.and_eq_true, decide_eq_true_eq] at cz ⊢
   exact ⟨cz.1, by simp⟩)
 have Nn : Rel w F (fun b => ∃ u, S u b) lX ρ1 (fin s (some d0) .hole) ad w := ⟨Bg.defers, Bg.size, fun i _ => rfl, Bg.rel⟩
 have FU : ∀ t, t ≠ d0 → ρ1 t = a.tmps.getD t undef := by
  intro t aZ
  have := congrFun (tr (n := n) (dst := some d0) (a := a) gN dB cz).1 t
  simp only [mm] at this
  rw [h4 _ _ aZ] at this
  exact this
 have Np : ρ1 d0 = gN := by
  have := congrFun (tr (n := n) (dst := some d0) (a := a) gN dB cz).1 d0
  simp only [mm] at this
  rw [kF] at this
  exact this
 have hw := FQ C _ m [⟨some d0, .aM T (.t k), none⟩] (⟨d1, .call (.t d0) args, none⟩ :: rest) _ h
 have mid : ∀ ao cl aD, (∃ ps r, ps.map (·.a) = args.map (aG ao) ++ cs.map (np k ao) ∧ (∀ p ∈ ps, p.ok ao) ∧ hg ps = true ∧
   ku C g args.length (args.length + k0) (ps.map (·.d)) r (ps.map (·.o)) ∧ r.res = true ∧ (i1 ps = true → r.c8 = true ∧ ∀ p ∈ ps, p.o.c8 = true) ∧ jI C (fin (g2 (eu ao ps) ps) d1 r) rest K) →
   Rel w F (fun b => ∃ u, S u b) lX ρ1 ao cl aD → wpOps C.P ops Q ((m.length + 1) :: (List.range rest.length).map (· + (m.length + 2))) cl aD := by
  rintro s2 aT iR ⟨ps, r, aJ, aP, a_, cD, c4, b8, b2⟩ ⟨aY, bs, b_, pQ, dg, dq⟩
  obtain ⟨r6, Nq, om⟩ := Be (m.length + 1) ⟨d1, .call (.t d0) args, none⟩ (by simp)
  obtain ⟨fo, gi, gR, Nr⟩ := r5 rfl om
  simp only [wpOps, Nq]
  show (if Region.wanted r6 (yielded ops aT.tmps) = true then r6.wp C.P aT iR _ Q ∨ (r6.asks C.P aT iR ∧ LetsOut Q) else _)
  rw [if_pos (wC gi)]
  left
  change mE r6.op = .call (.t d0) args at gR
  have Ns : cJ r6.op = some (.call (.t d0) args) := by
   rcases mF gR with h | h
   ·cases h
   ·exact h
  have FV : pQ b := dq.gk b U
  have FW : iR.heap[b]? = some (.cells #[gN] ty fr) := by
   rw [dq.old b (aO.eT b U) (fun ⟨u, hu⟩ => aO.ff u b hu U)]; exact v8
  have FX : ∀ j ∈ cs, aT.tmps.getD j undef = a.tmps.getD j undef := by
   intro j bS
   rw [b_ j (by simp [lX, bS])]
   exact FU j (fun e => jh (e ▸ bS))
  have pt : aT.tmps.getD k undef = .pointer (some ⟨b, 0, none⟩) := (FX k w1).trans ay
  have FY : (cs.map fun j => a.tmps.getD j undef) = cs.map fun j => aT.tmps.getD j undef := List.map_congr_left fun j bS => (FX j bS).symm
  obtain ⟨cr, cu⟩ := Ni (k := k) dq pt FV FW rfl cs
  have zO : ∀ ao cl aD, jI C ao rest K → Rel w F (fun b => ∃ u, S u b) ⟨n.n, n.fx⟩ ρ ao cl aD → wpOps C.P ops Q ((List.range rest.length).map (· + (m.length + 2))) cl aD := by
   intro eR a3 qb aF w2
   have wM := FQ C K rest ((⟨some d0, .aM T (.t k), none⟩ :: m) ++ [⟨d1, .call (.t d0) args, none⟩]) [] eR aF
   have := Au (Q := Q) bp (ops := ops) (ros := ((⟨some d0, .aM T (.t k), none⟩ :: m) ++ [⟨d1, .call (.t d0) args, none⟩]) ++ (rest ++ [])) (l2 := []) (K := K) (fun ao cl aD iO dR => by
     obtain ⟨tQ, tR, z3, Nt, Ds, z4⟩ := dR
     exact bl ao cl aD iO ⟨tQ, tR, z3, Nt, Ds, aO.Nc z4⟩) ((List.range rest.length).map (· + (m.length + 2))) (fun i ak => by
      have tE : ((⟨some d0, .aM T (.t k), none⟩ :: m) ++ [⟨d1, .call (.t d0) args, none⟩]) ++ (rest ++ []) = (⟨some d0, .aM T (.t k), none⟩ :: (m ++ ⟨d1, .call (.t d0) args, none⟩ :: rest) : List cg) := by simp
      rw [tE]
      refine ⟨fun lE => ?_, fun o bU => ?_⟩
      ·rw [List.getElem?_eq_none_iff]
       have := Array.getElem?_eq_none_iff.1 lE
       simp; omega
      ·obtain ⟨aI, gp, af⟩ := nk i o (by simpa using bU)
       obtain ⟨r, ab, rfl⟩ : ∃ r, (⟨some d0, .aM T (.t k), none⟩ :: (m ++ ⟨d1, .call (.t d0) args, none⟩ :: rest) : List cg)[i]? = some r ∧ r.un = aI := by
        rw [List.getElem?_map, Option.map_eq_some_iff] at gp; exact gp
       exact ⟨r, ab, af⟩) eR a3 qb (by
      have e : ((⟨some d0, .aM T (.t k), none⟩ :: m) ++ [⟨d1, .call (.t d0) args, none⟩] : List cg).length = m.length + 2 := by simp
      rw [e] at wM; exact wM) w2
   rwa [List.append_nil] at this
  have Nu : ∀ i ∈ n.fx, aT.tmps.getD i undef = ρ i := by
   intro i ak
   rw [b_ i (by simp [lX, ak]), FU i (fun e => ?_)]
   ·exact g3 i ak
   ·simp only [jH, Bool.and_eq_true, Bool.not_eq_true', List.contains_eq_mem, decide_eq_false_iff_not] at cz
    exact cz.2 (e ▸ ak)
  have FR : k0 < cs.length := (List.getElem?_eq_some_iff.1 r4).1
  have Nv : r6.dst = d1 := fo.symm
  exact Nd (n := n) (ρ := ρ) (K := fun ao => jI C ao rest K) aY bs Nu dq Ns Nr
   (arr := (cs.map fun j => aT.tmps.getD j undef).toArray) (k := k0) (caps := cs.map (np k s2)) (g := g) (ps := ps) (r := r)
   (by rw [b_ d0 (by simp [lX]), Np]; simp only [gN, FY]) (by simpa using cr) cu
   ⟨b, ty, fr, by
     rw [List.getD_eq_getElem?_getD, List.getElem?_map, r4]; exact pt, by rw [FW]; simp only [gN, FY], FV⟩ (by simpa using FR)
   aJ aP a_ cD c4 b8 (by rw [Nv]; exact b2) zO
 have := Au (Q := Q) bp (ops := ops) (ros := [⟨some d0, .aM T (.t k), none⟩] ++ (m ++ ⟨d1, .call (.t d0) args, none⟩ :: rest)) (l2 := (m.length + 1) :: (List.range rest.length).map (· + (m.length + 2))) mid
  ((List.range m.length).map (· + 1)) (fun i ak => by
    obtain ⟨j, bS, rfl⟩ := List.mem_map.1 ak
    have tS : j < m.length := List.mem_range.1 bS
    refine ⟨fun lE => ?_, fun o bU => ?_⟩
    ·have := Array.getElem?_eq_none_iff.1 lE
     omega
    ·obtain ⟨ld, tI, ef⟩ := Be (j + 1) m[j] (by
      simp only [List.getElem?_cons_succ]
      rw [List.getElem?_append_left tS, List.getElem?_eq_getElem tS])
     have heq : ld = o := by rw [tI] at bU; exact Option.some.inj bU
     subst heq
     refine ⟨m[j], by
      simp only [List.singleton_append, List.getElem?_cons_succ]
      rw [List.getElem?_append_left tS, List.getElem?_eq_getElem tS], ?_⟩
     have Nw := hm m[j] (List.getElem_mem tS)
     unfold nh at ef ⊢
     split at ef
     ·rename_i ah
      rw [if_pos]
      ·exact ef
      ·cases FZ : ld.dst with
       | none => rfl
       | some d =>
         rw [FZ] at ah
         simp only [jH, Bool.and_eq_true, decide_eq_true_eq, Bool.not_eq_true', List.contains_eq_mem, decide_eq_false_iff_not] at ah ⊢
         refine ⟨ah.1, ?_⟩
         have wD : m[j].dst = some d := by
          split at ef
          ·simp only [cg.un, Option.some.injEq, cg.mk.injEq] at ef
           rw [← ef.1, FZ]
          ·cases ef
         obtain ⟨eV, fY⟩ := Nw d wD
         simp only [lX, List.mem_cons, List.mem_append, not_or]
         exact ⟨eV, fun e => fY (e ▸ w1), fY, ah.2⟩
     ·cases ef) (fin s (some d0) .hole) ad w (by simpa using hw) Nn
 exact this
def F1 (C : bZ) (f : FuncId) (k k0 : Nat) (cs : List Nat) (args : List aA) (d1 : Option Nat) (rest : List cg) (keep : List Nat) (P : List (Nat × I) → Prop) (s1 : aj) : Prop :=
 ∃ ps r, ps.map (·.a) = args.map (aG s1) ++ cs.map (np k s1) ∧ (∀ p ∈ ps, p.ok s1) ∧ hg ps = true ∧
   ku C f args.length (args.length + k0) (ps.map (·.d)) r (ps.map (·.o)) ∧ r.res = true ∧ (i1 ps = true → r.c8 = true ∧ ∀ p ∈ ps, p.o.c8 = true) ∧
   cb C (fin (g2 (eu s1 ps) ps) d1 r) rest none (fun _ s => P (hz keep s))
def mM (C : bZ) (f : FuncId) (k k0 d0 : Nat) (cs : List Nat) (m : List cg) (args : List aA) (d1 : Option Nat) (rest : List cg) (keep : List Nat) (P : List (Nat × I) → Prop) (s : aj) : Prop :=
 cb C (fin s (some d0) .hole) m none fun _ s1 => F1 C f k k0 cs args d1 rest keep P s1
def F2 (C : bZ) (f : FuncId) (k k0 d0 : Nat) (cs : List Nat) (m : List cg) (args : List aA) (d1 : Option Nat) (rest : List cg) (keep : List Nat) (K : aj → Prop) (s : aj) : Prop :=
 mM C f k k0 d0 cs m args d1 rest keep (fun l => K (R l)) s
def Bh (f : Nat → Bool) (m : List cg) : Bool := m.all fun r => match r.dst with
 | none => true
 | some d => f d
theorem F3 {f : Nat → Bool} {m : List cg} (h : Bh f m = true) : ∀ r ∈ m, ∀ d, r.dst = some d → f d = true := by
 intro r aO d ah
 have := List.all_eq_true.1 h r aO
 rw [ah] at this; exact this
theorem F4 (k : List Nat) (s : aj) : rp s (hz k s) := by
 intro p an
 obtain ⟨t, _, rfl⟩ := List.mem_map.1 an
 exact .inl rfl
def Bi (C : bZ) (f : FuncId) (k k0 d0 : Nat) (cs : List Nat) (m : List cg) (args : List aA) (d1 : Option Nat) (rest : List cg) (keep : List Nat) : (Exit → aj → Prop) → aj → Prop :=
 fun Q s => F2 C f k k0 d0 cs m args d1 rest keep (Q .normal) s
def F5 (T : TypeId) (k d0 : Nat) (m : List cg) (args : List aA) (d1 : Option Nat) (rest : List cg) : J :=
 .ae (⟨some d0, .aM T (.t k), none⟩ :: (m ++ ⟨d1, .call (.t d0) args, none⟩ :: rest)) none
theorem Nx (vs : List Value) : ∀ (m n : Nat), m + n = vs.length → vs.drop m = ((List.range n).map (· + m)).map fun j => vs.getD j undef := by
 intro m n h
 apply List.ext_getElem?
 intro i
 rw [List.getElem?_drop, List.map_map, List.getElem?_map]
 by_cases ak : i < n
 ·rw [List.getElem?_range ak, List.getElem?_eq_getElem (by omega)]
  simp only [Option.map_some, Function.comp]
  rw [List.getD_eq_getElem?_getD, List.getElem?_eq_getElem (by omega)]
  simp only [Option.getD_some, Option.some.injEq]
  congr 1; omega
 ·rw [List.getElem?_eq_none (by omega), List.getElem?_eq_none (by simp; omega)]; rfl
theorem w3 {c : Code} {rs : List cg} (h : bQ n c = some (.ae rs none)) : ∃ id ops, c = .region id ops false ∧ ni n ops ops.toList = some rs := by
 cases c with
 | region id ops draw =>
   cases draw with
   | false =>
     simp only [bQ, Option.map_eq_some_iff] at h
     obtain ⟨r, ab, af⟩ := h
     cases af
     exact ⟨id, ops, rfl, ab⟩
   | true =>
     simp only [bQ] at h
     split at h
     ·simp only [Option.map_eq_some_iff] at h
      obtain ⟨r, ab, af⟩ := h
      cases af
     ·cases h
 | seq a b => simp only [bQ] at h; split at h <;> cases h
 | cond c a b => simp only [bQ] at h; split at h <;> cases h
 | block id b => simp only [bQ, Option.map_eq_some_iff] at h; obtain ⟨r, ab, af⟩ := h; cases af
 | loop b => simp only [bQ, Option.map_eq_some_iff] at h; obtain ⟨r, ab, af⟩ := h; cases af
 | _ => simp [bQ] at h
def w4 (C : bZ) (f : FuncId) (fx : List Nat) (Ny m k : Nat) (T : (Exit → aj → Prop) → aj → Prop) (b : J) : Prop :=
 ∃ (ty : TypeId) (k0 d0 lj : Nat) (hs : List cg) (args : List aA) (d1 : Option Nat) (rest : List cg) (keep : List Nat),
   T = Bi C f k k0 d0 ((List.range lj).map (· + m)) hs args d1 rest keep ∧ b = F5 ty k d0 hs args d1 rest ∧ (C.T ty).flat = true ∧ Bh (fun d => d != d0 && decide (m + lj ≤ d)) hs = true ∧ decide (m + lj ≤ d0) = true ∧
   decide (k0 < lj) = true ∧ k = m + k0 ∧ ((List.range lj).all fun j => fx.contains (m + j)) = true ∧ args.length = m ∧ m + lj = Ny
theorem ku.of_wp (bp : C.Ok) {f : FuncId} {fn : Func} {c : Code} {c2 : J} {fx : List Nat} {as outs : List I} {r : I} {k m : Nat} (bB : C.P.funcs[f]? = some fn) (U : fn.body = some c)
  (jJ : (fn.name == "runtime.NumGoroutine") = false) (aa : bQ ⟨fn.ntmps, fx⟩ c = some c2.strip) (bl : as.length ≤ fn.ntmps)
  (ay : c2.kN (w4 C f fx as.length m k))
  (h : ∀ Q : Exit → aj → Prop, (∀ s, dv (Ends C fx fn.results.toList r outs) s → Q .ret s) → (∀ s, dv (Ends C fx fn.results.toList r outs) s → Q .normal s) → cG C c2 Q (R (num 0 as))) : ku C f m k as r outs := by
 rintro w F X S vs hl ⟨b, Nz, fr, aJ, aP, a_, cD⟩ aO
 refine AG (fx := fx) bp bB U jJ bl hl aO fun a mG dC => ?_
 refine AF bp (H := w4 C f fx as.length m k) ?_ c (by rw [J.AA]; exact aa) (J.wH c2 ay) (wI c2 ?_) mG
 ·rintro c T eO Q s ad ie ⟨ty, k0, d0, lj, hs, args, d1, rest, keep, rfl, rfl, kG, hm, jh, w5, ay, g3, hlen, ahg⟩ tO NA ⟨aY, bs, b_, rl, b1, dq⟩
  replace hm : ∀ r ∈ hs, ∀ d, r.dst = some d → d ≠ d0 ∧ m + lj ≤ d := fun r aO d ah => by
   have := F3 hm r aO d ah
   simpa using this
  replace jh := of_decide_eq_true jh
  replace w5 := of_decide_eq_true w5
  replace g3 : ∀ j, j < lj → m + j ∈ fx := fun j bS => by
   have := List.all_eq_true.1 g3 j (List.mem_range.2 bS)
   simpa using this
  obtain ⟨id, ops, rfl, oD⟩ := w3 tO
  have F6 : ∀ j, j < lj → ad.tmps.getD (j + m) undef = vs.getD (j + m) undef := fun j bS => by
   rw [Nat.add_comm]; exact b_ _ (g3 j bS)
  have hr : ((List.range lj).map (· + m)).map (fun j => ad.tmps.getD j undef) = vs.drop m := by
   rw [Nx vs m lj (by omega), List.map_map, List.map_map]
   apply List.map_congr_left
   intro j bS
   exact F6 j (List.mem_range.1 bS)
  refine FT (Q := pV w F X ⟨fn.ntmps, fx⟩ (gv vs) Q) (K := dv (Q .normal)) (b := b) (ty := Nz) (fr := fr) (g := f) (k0 := k0) (cs := (List.range lj).map (· + m)) bp oD kG (fun r aO d ah => ⟨(hm r aO d ah).1, fun r0 => ?_⟩) (fun r0 => ?_) ?_ aY bs b_ dq (dq.gk b a_) ?_ ?_ ?_ (fun ao cl aD ay dR => dR.dv ay)
  ·obtain ⟨j, bS, rfl⟩ := List.mem_map.1 r0
   have := (hm r aO _ ah).2; have := List.mem_range.1 bS; omega
  ·obtain ⟨j, bS, e⟩ := List.mem_map.1 r0
   have := List.mem_range.1 bS; omega
  ·rw [List.getElem?_map, List.getElem?_range w5, ay]; simp [Nat.add_comm]
  ·rw [ay, Nat.add_comm, F6 k0 w5, Nat.add_comm, ← ay]; exact aJ
  ·rw [hr, dq.old b (aO.eT b a_) cD]; exact aP
  ·refine pY (fun _ s1 => ?_) NA
   rintro ⟨ps, r, ia, bF, dJ, cz, e4, ft, fO⟩
   exact ⟨ps, r, ia, bF, dJ, cz, e4, ft, pY (fun _ s h => .inr ⟨_, F4 _ _, h⟩) fO⟩
 ·rw [wL]
  exact h _ (fun s h => ⟨.inr rfl, h⟩) (fun s h => ⟨.inl rfl, h⟩)
theorem NB {Q : Exit → aj → Prop} {l : List (Nat × I)} {f : FuncId} {k k0 d0 : Nat} {cs : List Nat} {m : List cg} {args : List aA} {d1 : Option Nat} {rest : List cg} {keep : List Nat} {b : J} (dn : List (Nat × I))
  (h : ∀ P : List (Nat × I) → Prop, P dn → mM C f k k0 d0 cs m args d1 rest keep P (R l)) (ay : Q .normal (R dn)) : cG C (.hy (Bi C f k k0 d0 cs m args d1 rest keep) b) Q (R l) :=
 fun fu Bj => h (fun l => fu .normal (R l)) (Bj _ _ ay)
theorem F7 {l : List (Nat × I)} {f : FuncId} {k k0 : Nat} {cs : List Nat} {args : List aA} {d1 : Option Nat} {rest : List cg} {keep : List Nat} {P : List (Nat × I) → Prop} {r : I} (ps : List cj)
  (bV : ku C f args.length (args.length + k0) (ps.map (·.d)) r (ps.map (·.o))) (af : ps.map (·.a) = g4 (R l) args ++ cs.map (np k (R l))) (aF : oQ (R l) ps) (bb : hg ps = true)
  (cd : r.res = true) (cf : i1 ps = false ∨ (r.c8 && p_ ps) = true)
  (i2 : cb C (fin (g2 (eu (R l) ps) ps) d1 r) rest none (fun _ s => P (hz keep s))) : F1 C f k k0 cs args d1 rest keep P (R l) := by
 refine ⟨ps, r, by rw [af, tK], A_ aF, bb, bV, cd, ?_, i2⟩
 intro hl
 rcases cf with cf | cf
 ·rw [cf] at hl; cases hl
 ·rw [Bool.and_eq_true] at cf; exact ⟨cf.1, Ba cf.2⟩
end
end Go.cB
