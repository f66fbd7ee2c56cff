/- Part of a proof that a law returns true for every input. No condition. -/
import Derived.Test.YtgpmnlkgmadglaaGreatDoorFwI
namespace Go.cY
def mP (C : b4) (f : FuncId) (m k : Nat) (as : List I) (r : I) (outs : List I) : Prop :=
 ∀ (w : World) (F X : Nat → Prop) (S : Nat → Nat → Prop) (vs : List Value), vs.length = as.length →
   (∃ b ty fr, vs.getD k undef = .pointer (some ⟨b, 0, none⟩) ∧ w.heap[b]? = some (.cells #[.func (.func f) #[] (vs.drop m).toArray] ty fr) ∧ F b ∧ ¬ X b) →
   bM w F X F S (fO as) (hH vs) w →
   ot C.P f vs.toArray w fun v aL => ∃ bQ aR, bM w F X bQ aR (fO (r :: outs)) (hH (v :: vs)) aL
section
variable {C : b4} {w0 w : World} {F0 X F bQ : Nat → Prop} {S aR : Nat → Nat → Prop} {n : Fr} {ρ : Nat → Value} {s az : al} {aB kF : Nat → Value} {a : Act} {av : I} {Q : Exit → Act → World → Prop} {aL : World}
theorem bM.base (h : bM w0 F0 X F S s aB w) : bM w F (fun b => ∃ u, S u b) F S s aB w where
 hs := fun _ h => h
 hG := fun _ h => .inl h
 fe := h.fe
 eJ := h.eJ
 fY := h.fY
 ff := h.ff
 dS := fun u b aa => .inl ⟨u, aa⟩
 dp := h.dp
 old := fun _ _ _ => rfl
 size := Nat.le_refl _
 os := rfl
 tape := rfl
 output := rfl
theorem bM.MM (h : bM w0 F0 X F S s aB w) (bE : bM w F (fun b => ∃ u, S u b) bQ aR az kF aL) : bM w0 F0 X bQ aR az kF aL where
 hs := fun b aa => bE.hs b (h.hs b aa)
 hG := fun b aa => by
  rcases bE.hG b aa with aa | ⟨u, aa⟩ | aa
  ·exact h.hG b aa
  ·exact .inr (h.dS u b aa)
  ·exact .inr (.inr (Nat.le_trans h.size aa))
 fe := bE.fe
 eJ := bE.eJ
 fY := bE.fY
 ff := bE.ff
 dS := fun u b aa => by
  rcases bE.dS u b aa with ⟨u, aa⟩ | aa
  ·exact h.dS u b aa
  ·exact .inr (Nat.le_trans h.size aa)
 dp := bE.dp
 old := fun b aa kG => by
  refine (bE.old b (Nat.lt_of_lt_of_le aa h.size) fun ⟨u, hu⟩ => ?_).trans (h.old b aa kG)
  rcases h.dS u b hu with aq | aq
  ·exact kG aq
  ·omega
 size := Nat.le_trans h.size bE.size
 os := bE.os.trans h.os
 tape := bE.tape.trans h.tape
 output := bE.output.trans h.output
inductive qu : List I → List I → Prop
 | nil : qu [] []
 | eq {a : I} {as j9 : List I} : a.ab = [] → qu as j9 → qu (a :: as) (a :: j9)
 | wd {a b : I} {as j9 : List I} : e2 a b → a.tree = true → b.ab = [] → qu as j9 → qu (a :: as) (b :: j9)
theorem qu.get : ∀ {as j9 : List I}, qu as j9 → ∀ p k, p ∈ num k j9 → p.2.ab = [] ∧ ∃ a, as[p.1 - k]? = some a ∧ k ≤ p.1 ∧ (p.2 = a ∨ (a.tree = true ∧ e2 a p.2))
 | _, _, .nil, p, k, aw => by simp [num] at aw
 | _, _, .eq (a := a) h hw, p, k, aw => by
   simp only [num, List.mem_cons] at aw
   rcases aw with rfl | aw
   ·exact ⟨h, a, by simp, Nat.le_refl _, .inl rfl⟩
   ·obtain ⟨af, x, ag, aF, a_⟩ := hw.get p (k + 1) aw
    refine ⟨af, x, ?_, by omega, a_⟩
    rw [show p.1 - k = (p.1 - (k + 1)) + 1 by omega, List.getElem?_cons_succ]; exact ag
 | _, _, .wd (a := a) h a1 aa hw, p, k, aw => by
   simp only [num, List.mem_cons] at aw
   rcases aw with rfl | aw
   ·exact ⟨aa, a, by simp, Nat.le_refl _, .inr ⟨a1, h⟩⟩
   ·obtain ⟨af, x, ag, aF, a_⟩ := hw.get p (k + 1) aw
    refine ⟨af, x, ?_, by omega, a_⟩
    rw [show p.1 - k = (p.1 - (k + 1)) + 1 by omega, List.getElem?_cons_succ]; exact ag
theorem qu.len : ∀ {as j9 : List I}, qu as j9 → j9.length = as.length
 | _, _, .nil => rfl
 | _, _, .eq _ hw => by simp [hw.len]
 | _, _, .wd _ _ _ hw => by simp [hw.len]
theorem bm.VO {f : FuncId} {as j9 : List I} {r : I} {outs : List I} (h : bm C f j9 r outs) (hw : qu as j9) : bm C f as r outs := by
 intro w F X S vs hl aW
 have GV : tH (fO as) (num 0 j9) := fun p aw => by
  obtain ⟨af, a, ag, _, a_⟩ := hw.get p 0 aw
  have e : fO as p.1 = a := by simp [fO, List.getD, show as[p.1]? = some a from ag]
  rw [e]
  rcases a_ with a_ | ⟨a1, a_⟩
  ·exact .inl a_
  ·refine .inr ⟨a1, a_, fun cB ew => .inl ?_⟩
   rw [(hw.get cB 0 ew).1]; simp
 obtain ⟨bQ, aR, ag⟩ := aW.Gk GV
 rw [← yJ] at ag
 exact (h w bQ _ aR vs (hl.trans hw.len.symm) ag.base).mono fun v aL ⟨ri, dB, aF⟩ => ⟨ri, dB, ag.MM aF⟩
theorem MN (C : b4) (K : al → Prop) : ∀ (rs pre post : List bU) (s : al), lV C s rs K → jk C (pre ++ (rs ++ post)) s ((List.range rs.length).map (· + pre.length)) K := by
 intro rs
 induction rs with
 | nil => intro pre post s h; exact h
 | cons r rs ih =>
   intro pre post s h
   rw [List.length_cons, List.range_succ_eq_map, List.map_cons, List.map_map]
   simp only [jk, Nat.zero_add]
   rw [List.getElem?_append_right (Nat.le_refl _)]
   simp only [Nat.sub_self, List.cons_append, List.getElem?_cons_zero]
   have key : ∀ s1, lV C s1 rs K → jk C (pre ++ r :: (rs ++ post)) s1 ((List.range rs.length).map ((fun x => x + pre.length) ∘ Nat.succ)) K := by
    intro s1 af
    have := ih (pre ++ [r]) post s1 af
    simp only [List.append_assoc, List.singleton_append, List.length_append, List.length_singleton] at this
    have e : ((fun x => x + pre.length) ∘ Nat.succ) = fun x => x + (pre.length + 1) := by funext x; simp; omega
    rw [e]; exact this
   simp only [lV] at h
   exact Bt h key
theorem VP (iV : a.defers = []) (d_ : a.tmps.size = n.n) (hI : ∀ i ∈ n.fx, a.tmps.getD i undef = ρ i) (aW : bM w0 F0 X F S s (fun t => a.tmps.getD t undef) w)
  {o : Oper} {d0 k : Nat} {args : List aH} {g : FuncId} {caps : List I} {arr : Array Value} {ps : List cP} {r : I} (cm : cr o.op = some (.call (.t d0) args)) (ai : lU n o.dst = true)
  (aK : a.tmps.getD d0 undef = .func (.func g) #[] arr) (ao : ef w F s (fun t => a.tmps.getD t undef) caps arr.toList) (gM : I.e1 caps = true)
  (VQ : ∃ b ty fr, (arr.toList).getD k undef = .pointer (some ⟨b, 0, none⟩) ∧ w.heap[b]? = some (.cells #[.func (.func g) #[] arr] ty fr) ∧ F b) (MO : k < arr.size)
  (ag : ps.map (·.a) = args.map (aJ s) ++ caps) (aF : ∀ p ∈ ps, p.ok s) (a_ : iU ps = true) (bI : mP C g args.length (args.length + k) (ps.map (·.d)) r (ps.map (·.o))) (cK : r.res = true)
  (cH : kK ps = true → r.c3 = true ∧ ∀ p ∈ ps, p.o.c3 = true) {K : al → Prop} {next : Act → World → Prop} (fC : K (fin (iK (fw s ps) ps) o.dst r))
  (bc : ∀ az cN aL, K az → Rel w0 F0 X n ρ az cN aL → next cN aL) : o.wp C.P a w next Q := by
 obtain ⟨dst, op, ty, pos, after, guard⟩ := o
 simp only at cm ai fC
 cases op with
 | call c =>
   obtain ⟨callee, nh, argTypes⟩ := c
   simp only [cr] at cm
   split at cm
   ·split at cm
    ·rename_i yw _ _ T3 xs bz qj
     simp only [Option.some.injEq, fG.call.injEq] at cm
     obtain ⟨rfl, rfl⟩ := cm
     have x_ : yw = .tmp d0 := by
      cases yw with
      | tmp t => simp only [dz, Option.some.injEq, aH.t.injEq] at bz; rw [bz]
      | const v => simp only [dz, Option.map_eq_some_iff] at bz; obtain ⟨c, _, bz⟩ := bz; cases bz
      | func g => simp [dz] at bz
      | global g => simp [dz] at bz
     subst x_
     have tD : execOp a.eval { dst, op := .call { callee := .value (.tmp d0), args := nh, argTypes }, type := ty, pos, after, guard } = callFunc g ((nh.toList.map a.eval ++ arr.toList).toArray) := by
      have : a.eval (.tmp d0) = .func (.func g) #[] arr := aK
      simp only [execOp, resolve, this, Deferred.ofValue, pure_bind, invoke]
      congr 1
      apply Array.ext'; simp
     unfold Oper.wp
     rw [tD]
     have hlen : (nh.toList.map a.eval).length = xs.length := by
      have := congrArg List.length (tx qj)
      simpa using this
     have yx : ef w F s (fun t => a.tmps.getD t undef) (xs.map (aJ s) ++ caps) (nh.toList.map a.eval ++ arr.toList) := K9 (Bg aW (fun _ => rfl) _ _ (tx qj)) ao
     rw [← ag] at yx
     obtain ⟨hk, l2⟩ := K_ yx
     have eK : ∀ d ∈ xs.map (aJ s) ++ caps, d.plain = true := by
      intro d ai
      rcases List.mem_append.1 ai with ai | ai
      ·obtain ⟨x, aq, rfl⟩ := List.mem_map.1 ai
       exact JR s x fun av e => by
        subst e
        have hm := tx qj
        have : some (aH.c av) ∈ xs.map some := List.mem_map.2 ⟨_, aq, rfl⟩
        rw [← hm] at this
        obtain ⟨o, _, bJ⟩ := List.mem_map.1 this
        cases o with
        | const v => simp only [dz, Option.map_eq_some_iff] at bJ; obtain ⟨c, ao, e⟩ := bJ; cases e; exact Fe ao
        | tmp n => simp [dz] at bJ
        | func g => simp [dz] at bJ
        | global g => simp [dz] at bJ
      ·obtain ⟨k, ar⟩ := List.getElem?_of_mem ai
       exact AR gM ar
     have Gc := K4 (C := C) aW (ps := ps) (vs := nh.toList.map a.eval ++ arr.toList) (f := g) (r := r) (by simpa using hk)
      (fun i p v aw aK => ⟨eK p.a (by rw [← ag]; exact List.mem_map.2 ⟨p, List.mem_of_getElem? aw, rfl⟩), l2 i p.a v (by simp [aw]) aK⟩) aF a_
      (fun Fc mK en bG kG aw => by
       refine bI w Fc mK en _ (by rw [← hk]; simp) ?_ aw
       obtain ⟨b, BU, fr, aN, aZ, aT⟩ := VQ
       refine ⟨b, BU, fr, ?_, ?_, bG b aT, fun aq => by obtain ⟨u, hu⟩ := kG b aq; exact aW.fY u b hu aT⟩
       ·rw [List.getD_eq_getElem?_getD, List.getElem?_append_right (by omega), hlen, Nat.add_sub_cancel_left, ← List.getD_eq_getElem?_getD]; exact aN
       ·rw [aZ, ← hlen, List.drop_left])
      cK cH
     rcases Gc with ⟨dR, br⟩ | ⟨v, aL, dR, bQ, aR, br, dQ⟩
     ·rw [dR, Oper.upon_enter]
      refine Calls.mono br ?_
      rintro e aL ⟨v, rfl, bQ, aR, bt, b0⟩
      exact bc _ _ _ fC (Rel.put iV d_ hI bt b0.1 ai)
     ·rw [dR, Oper.upon_value]
      exact bc _ _ _ fC (Rel.put iV d_ hI br dQ.1 ai)
    ·cases cm
   ·split at cm
    ·simp only [Option.map_eq_some_iff] at cm; obtain ⟨_, _, cm⟩ := cm; cases cm
    ·cases cm
   ·split at cm
    ·simp only [Option.map_eq_some_iff] at cm; obtain ⟨_, _, cm⟩ := cm; cases cm
    ·cases cm
   iterate 3
    ·split at cm
     ·split at cm <;> cases cm
     ·cases cm
   ·cases cm
 | makeFunc fn first cs =>
   cases fn <;> simp only [cr] at cm <;> first | (cases cm; done) | (split at cm <;> simp at cm)
 | slice T x df an hh =>
   cases hh <;> simp only [cr] at cm <;> first | (cases cm; done) | (split at cm <;> simp at cm)
 | makeMap T r => cases r <;> simp only [cr] at cm <;> simp at cm
 | lookup T x i c => cases c <;> simp only [cr] at cm <;> first | (cases cm; done) | (split at cm <;> simp at cm)
 | _ => simp only [cr] at cm <;> first | (cases cm; done) | (simp at cm; done) | (split at cm <;> simp at cm)
theorem VR {op : Op} {T : TypeId} {x : aH} (h : cr op = some (.cS T x)) : ∃ y, op = .load T y ∧ dz y = some x := by
 cases op with
 | load yv y =>
   simp only [cr, Option.map_eq_some_iff] at h
   obtain ⟨cA, aq, h⟩ := h
   cases h
   exact ⟨y, rfl, aq⟩
 | call c =>
   obtain ⟨callee, nh, argTypes⟩ := c
   simp only [cr] at h
   split at h <;> (try split at h) <;> (try split at h) <;> (try simp [Option.map_eq_some_iff] at h)
 | makeFunc fn first cs =>
   cases fn <;> simp only [cr] at h <;> first | (cases h; done) | (split at h <;> simp at h)
 | slice T x df an hh =>
   cases hh <;> simp only [cr] at h <;> first | (cases h; done) | (split at h <;> simp at h)
 | makeMap T r => cases r <;> simp only [cr] at h <;> simp at h
 | lookup T x i c => cases c <;> simp only [cr] at h <;> first | (cases h; done) | (split at h <;> simp at h)
 | _ => simp only [cr] at h <;> first | (cases h; done) | (simp at h; done) | (split at h <;> simp at h)
theorem BV {y : Operand} {k : Nat} (h : dz y = some (.t k)) : y = .tmp k := by
 cases y with
 | tmp t => simp only [dz, Option.some.injEq, aH.t.injEq] at h; rw [h]
 | const v => simp only [dz, Option.map_eq_some_iff] at h; obtain ⟨c, _, h⟩ := h; cases h
 | func g => simp [dz] at h
 | global g => simp [dz] at h
def qv (k : Nat) (s : al) (j : Nat) : I := if j = k then .ref .hole else jr j (s j)
theorem VS {aB : Nat → Value} {b k : Nat} {v : Value} {ty : TypeId} {fr : Nat × Nat} (aW : bM w0 F0 X F S s aB w) (ar : aB k = .pointer (some ⟨b, 0, none⟩)) (aa : F b) (ao : w.heap[b]? = some (.cells #[v] ty fr)) (af : Value.gJ v = true) :
  ∀ cs : List Nat, ef w F s aB (cs.map (qv k s)) (cs.map aB) ∧ I.e1 (cs.map (qv k s)) = true := by
 intro cs
 induction cs with
 | nil => exact ⟨by rw [List.map_nil, List.map_nil, ef], rfl⟩
 | cons j cs ih =>
   simp only [List.map_cons]
   have bw : aI w F s aB (qv k s j) (aB j) (fun _ => False) ∧ (qv k s j).plain = true := by
    unfold qv
    split
    ·rename_i e; subst e
     rw [ar]
     refine ⟨(aI.cJ rfl).2 ⟨rfl, ?_⟩, rfl⟩
     rw [ay]
     refine ⟨b, 0, [v], rfl, aa, ?_, ?_⟩
     ·intro i c an
      cases i with
      | zero => simp at an; subst an; simp [World.cell?, ao]
      | succ i => simp at an
     ·rw [ay]; exact ⟨v, af, rfl⟩
    ·unfold jr
     split
     ·rename_i aw
      exact ⟨aI.nothing aw (aW.dp j), aw⟩
     ·rename_i aw
      refine ⟨?_, rfl⟩
      rw [aI]
      intro d ai aw
      simp only [I.sub, Option.some.injEq] at ai
      subst ai
      have a1 : (s j).tree = true := by
       cases ab : s j <;> first | rfl | (rw [ab] at aw; simp [I.plain] at aw)
      exact ⟨_, none, rfl, rfl, ((aI.cJ a1).1 (aW.dp j)).1⟩
   refine ⟨?_, ?_⟩
   ·rw [ef]; exact ⟨_, _, rfl, bw.1, ih.1⟩
   ·simp only [I.e1, bw.2, ih.2, Bool.and_self]
theorem MP (bp : C.eP) {id : Nat} {ops : Array Oper} {T : TypeId} {k k0 d0 : Nat} {m rest : List bU} {args : List aH} {d1 : Option Nat} {g : FuncId} {cs : List Nat} {b : Nat} {ty : TypeId} {fr : Nat × Nat} {K : al → Prop}
  (si : qm n ops ops.toList = some ((⟨some d0, .cS T (.t k), none⟩ :: (m ++ ⟨d1, .call (.t d0) args, none⟩ :: rest) : List bU).map bU.un))
  (jE : (C.T T).flat = true) (hm : ∀ r ∈ m, ∀ d, r.dst = some d → d ≠ d0 ∧ d ∉ cs) (lo : d0 ∉ cs) (wD : cs[k0]? = some k)
  (iV : a.defers = []) (d_ : a.tmps.size = n.n) (hI : ∀ i ∈ n.fx, a.tmps.getD i undef = ρ i) (aW : bM w0 F0 X F S s (fun t => a.tmps.getD t undef) w)
  (aa : F b) (ar : a.tmps.getD k undef = .pointer (some ⟨b, 0, none⟩)) (A4 : w.heap[b]? = some (.cells #[.func (.func g) #[] (cs.map fun j => a.tmps.getD j undef).toArray] ty fr))
  (h : lV C (fin s (some d0) .hole) m fun s1 => ∃ ps r, ps.map (·.a) = args.map (aJ s1) ++ cs.map (qv k s1) ∧ (∀ p ∈ ps, p.ok s1) ∧ iU ps = true ∧
   mP C g args.length (args.length + k0) (ps.map (·.d)) r (ps.map (·.o)) ∧ r.res = true ∧ (kK ps = true → r.c3 = true ∧ ∀ p ∈ ps, p.o.c3 = true) ∧ lV C (fin (iK (fw s1 ps) ps) d1 r) rest K)
  (bc : ∀ az cN aL, K az → Rel w0 F0 X n ρ az cN aL → Q .normal cN aL) : (Code.region id ops false).wp C.P Q a w := by
 obtain ⟨hl, qo⟩ := yz si
 have GZ : ∀ (i : Nat) (r : bU), (⟨some d0, .cS T (.t k), none⟩ :: (m ++ ⟨d1, .call (.t d0) args, none⟩ :: rest) : List bU)[i]? = some r → ∃ o, ops[i]? = some o ∧ ql n ops o = some r.un := by
  intro i r an
  have dZ : i < ops.toList.length := by
   rw [hl, List.length_map]
   exact (List.getElem?_eq_some_iff.1 an).1
  obtain ⟨gU, af, ag⟩ := qo i _ (List.getElem?_eq_getElem dZ)
  rw [List.getElem?_map, an] at af
  simp only [Option.map_some, Option.some.injEq] at af
  exact ⟨_, by rw [← Array.getElem?_toList]; exact List.getElem?_eq_getElem dZ, by rw [af]; exact ag⟩
 have wE : ∀ {r : bU} {o : Oper}, r.guard = none → ql n ops o = some r.un → r.dst = o.dst ∧ o.guard = none ∧ pz o.op = r.bD.base ∧ lU n o.dst = true := by
  intro r o bA h
  unfold ql at h
  split at h
  ·rename_i ai
   split at h
   ·rename_i VT hY
    simp only [bU.un, Option.some.injEq, bU.mk.injEq] at h
    obtain ⟨aN, aZ, aT⟩ := h
    refine ⟨aN.symm, ?_, aZ, ai⟩
    rw [aT, bA] at hY
    cases bJ : o.guard with
    | none => rfl
    | some Gg =>
      rw [bJ] at hY; simp only [yt] at hY; split at hY <;> cases hY
   ·cases h
  ·cases h
 have VU : ops.size = m.length + rest.length + 2 := by
  have : ops.toList.length = ops.size := by simp
  rw [← this, hl]; simp; omega
 have VV : List.range ops.size = 0 :: ((List.range m.length).map (· + 1) ++ ((m.length + 1) :: (List.range rest.length).map (· + (m.length + 2)))) := by
  rw [VU, show m.length + rest.length + 2 = (m.length + rest.length + 1) + 1 from rfl, List.range_succ_eq_map]
  congr 1
  rw [show m.length + rest.length + 1 = m.length + (rest.length + 1) by omega, List.range_add, List.map_append, List.range_succ_eq_map]
  simp only [List.map_map, List.map_cons, Nat.add_zero]
  congr 1
  congr 1
  apply List.map_congr_left
  intro x _; simp; omega
 obtain ⟨su, VW, lz⟩ := GZ 0 _ rfl
 obtain ⟨gC, f_, hO, hP⟩ := wE rfl lz
 change pz su.op = .cS T (.t k) at hO
 have yU : cr su.op = some (.cS T (.t k)) := by
  rcases nL hO with h | h
  ·cases h
  ·exact h
 obtain ⟨y, hy, VX⟩ := VR yU
 have := BV VX; subst this
 let iy : Value := .func (.func g) #[] (cs.map fun j => a.tmps.getD j undef).toArray
 have kn : h5 w b 0 [iy] := by
  intro i c an
  cases i with
  | zero => simp at an; subst an; simp [World.cell?, A4, iy]
  | succ i => simp at an
 refine wp_region ?_
 rw [VV]
 simp only [wpOps, VW]
 show (if Region.wanted su (yielded ops a.tmps) = true then su.wp C.P a w _ Q ∨ (su.asks C.P a w ∧ LetsOut Q) else _)
 rw [if_pos (Bo f_)]
 left
 have tD : (execOp a.eval su).run C.P w = .ok (.value iy) w := by
  obtain ⟨dst, op, ty, pos, after, guard⟩ := su
  simp only at hy
  subst hy
  have : a.eval (.tmp k) = .pointer (some ⟨b, 0, none⟩) := ar
  simp [execOp, this, Instr.loadAt, Instr.sureAddr, JX bp jE kn]
 unfold Oper.wp
 rw [tD, Oper.upon_value]
 have G0 : some d0 = su.dst := gC
 rw [← G0] at hP ⊢
 let R : Act := a.put (some d0) iy
 let lW : Fr := ⟨n.n, d0 :: k :: (cs ++ n.fx)⟩
 let ρ1 : Nat → Value := fun t => R.tmps.getD t undef
 have BW : k ∈ cs := List.mem_of_getElem? wD
 have qc := aW.base
 have G1 : Rel w F (fun b => ∃ u, S u b) ⟨n.n, []⟩ ρ1 (fin s (some d0) .hole) R w :=
  Rel.put (n := ⟨n.n, []⟩) iV d_ (fun i an => by cases an) qc (.inl ⟨rfl, by rw [aI]; trivial⟩) (by
   simp only [lU, Bool.and_eq_true, decide_eq_true_eq] at hP ⊢
   exact ⟨hP.1, by simp⟩)
 have VY : Rel w F (fun b => ∃ u, S u b) lW ρ1 (fin s (some d0) .hole) R w := ⟨G1.defers, G1.size, fun i _ => rfl, G1.rel⟩
 have MQ : ∀ t, t ≠ d0 → ρ1 t = a.tmps.getD t undef := by
  intro t a1
  have := congrFun (yu (n := n) (dst := some d0) (a := a) iy d_ hP).1 t
  simp only [nC] at this
  rw [jD _ _ a1] at this
  exact this
 have VZ : ρ1 d0 = iy := by
  have := congrFun (yu (n := n) (dst := some d0) (a := a) iy d_ hP).1 d0
  simp only [nC] at this
  rw [me] at this
  exact this
 have hw := MN C _ m [⟨some d0, .cS T (.t k), none⟩] (⟨d1, .call (.t d0) args, none⟩ :: rest) _ h
 have mid : ∀ az cN aL, (∃ ps r, ps.map (·.a) = args.map (aJ az) ++ cs.map (qv k az) ∧ (∀ p ∈ ps, p.ok az) ∧ iU ps = true ∧
   mP C g args.length (args.length + k0) (ps.map (·.d)) r (ps.map (·.o)) ∧ r.res = true ∧ (kK ps = true → r.c3 = true ∧ ∀ p ∈ ps, p.o.c3 = true) ∧ lV C (fin (iK (fw az ps) ps) d1 r) rest K) →
   Rel w F (fun b => ∃ u, S u b) lW ρ1 az cN aL → wpOps C.P ops Q ((m.length + 1) :: (List.range rest.length).map (· + (m.length + 2))) cN aL := by
  rintro s2 a2 jJ ⟨ps, r, aN, aZ, aT, b2, cI, bZ, bO⟩ ⟨g1, g2, g3, ri, dB, g4⟩
  obtain ⟨wF, V0, k3⟩ := GZ (m.length + 1) ⟨d1, .call (.t d0) args, none⟩ (by simp)
  obtain ⟨fD, hr, h8, J9⟩ := wE rfl k3
  simp only [wpOps, V0]
  show (if Region.wanted wF (yielded ops a2.tmps) = true then wF.wp C.P a2 jJ _ Q ∨ (wF.asks C.P a2 jJ ∧ LetsOut Q) else _)
  rw [if_pos (Bo hr)]
  left
  change pz wF.op = .call (.t d0) args at h8
  have V1 : cr wF.op = some (.call (.t d0) args) := by
   rcases nL h8 with h | h
   ·cases h
   ·exact h
  have MR : ri b := g4.hs b aa
  have MS : jJ.heap[b]? = some (.cells #[iy] ty fr) := by
   rw [g4.old b (aW.fe b aa) (fun ⟨u, hu⟩ => aW.fY u b hu aa)]; exact A4
  have MT : ∀ j ∈ cs, a2.tmps.getD j undef = a.tmps.getD j undef := by
   intro j bw
   rw [g3 j (by simp [lW, bw])]
   exact MQ j (fun e => lo (e ▸ bw))
  have pe : a2.tmps.getD k undef = .pointer (some ⟨b, 0, none⟩) := (MT k BW).trans ar
  have MU : (cs.map fun j => a.tmps.getD j undef) = cs.map fun j => a2.tmps.getD j undef := List.map_congr_left fun j bw => (MT j bw).symm
  obtain ⟨cv, cw⟩ := VS (k := k) g4 pe MR MS rfl cs
  have FD : ∀ az cN aL, lV C az rest K → Rel w F (fun b => ∃ u, S u b) ⟨n.n, n.fx⟩ ρ az cN aL → wpOps C.P ops Q ((List.range rest.length).map (· + (m.length + 2))) cN aL := by
   intro fi a3 qw aF BX
   have Bx := MN C K rest ((⟨some d0, .cS T (.t k), none⟩ :: m) ++ [⟨d1, .call (.t d0) args, none⟩]) [] fi aF
   have := Gf (Q := Q) bp (ops := ops) (ros := ((⟨some d0, .cS T (.t k), none⟩ :: m) ++ [⟨d1, .call (.t d0) args, none⟩]) ++ (rest ++ [])) (l2 := []) (K := K) (fun az cN aL lq ez => by
     obtain ⟨yV, z2, z3, V2, Ki, z4⟩ := ez
     exact bc az cN aL lq ⟨yV, z2, z3, V2, Ki, aW.MM z4⟩) ((List.range rest.length).map (· + (m.length + 2))) (fun i an => by
      have yH : ((⟨some d0, .cS T (.t k), none⟩ :: m) ++ [⟨d1, .call (.t d0) args, none⟩]) ++ (rest ++ []) = (⟨some d0, .cS T (.t k), none⟩ :: (m ++ ⟨d1, .call (.t d0) args, none⟩ :: rest) : List bU) := by simp
      rw [yH]
      refine ⟨fun mf => ?_, fun o bJ => ?_⟩
      ·rw [List.getElem?_eq_none_iff]
       have := Array.getElem?_eq_none_iff.1 mf
       simp; omega
      ·obtain ⟨aC, h6, ag⟩ := qo i o (by simpa using bJ)
       obtain ⟨r, af, rfl⟩ : ∃ r, (⟨some d0, .cS T (.t k), none⟩ :: (m ++ ⟨d1, .call (.t d0) args, none⟩ :: rest) : List bU)[i]? = some r ∧ r.un = aC := by
        rw [List.getElem?_map, Option.map_eq_some_iff] at h6; exact h6
       exact ⟨r, af, ag⟩) fi a3 qw (by
      have e : ((⟨some d0, .cS T (.t k), none⟩ :: m) ++ [⟨d1, .call (.t d0) args, none⟩] : List bU).length = m.length + 2 := by simp
      rw [e] at Bx; exact Bx) BX
   rwa [List.append_nil] at this
  have V3 : ∀ i ∈ n.fx, a2.tmps.getD i undef = ρ i := by
   intro i an
   rw [g3 i (by simp [lW, an]), MQ i (fun e => ?_)]
   ·exact hI i an
   ·simp only [lU, Bool.and_eq_true, Bool.not_eq_true', List.contains_eq_mem, decide_eq_false_iff_not] at hP
    exact hP.2 (e ▸ an)
  have MO : k0 < cs.length := (List.getElem?_eq_some_iff.1 wD).1
  have V4 : wF.dst = d1 := fD.symm
  exact VP (n := n) (ρ := ρ) (K := fun az => lV C az rest K) g1 g2 V3 g4 V1 J9
   (arr := (cs.map fun j => a2.tmps.getD j undef).toArray) (k := k0) (caps := cs.map (qv k s2)) (g := g) (ps := ps) (r := r)
   (by rw [g3 d0 (by simp [lW]), VZ]; simp only [iy, MU]) (by simpa using cv) cw
   ⟨b, ty, fr, by
     rw [List.getD_eq_getElem?_getD, List.getElem?_map, wD]; exact pe, by rw [MS]; simp only [iy, MU], MR⟩ (by simpa using MO)
   aN aZ aT b2 cI bZ (by rw [V4]; exact bO) FD
 have := Gf (Q := Q) bp (ops := ops) (ros := [⟨some d0, .cS T (.t k), none⟩] ++ (m ++ ⟨d1, .call (.t d0) args, none⟩ :: rest)) (l2 := (m.length + 1) :: (List.range rest.length).map (· + (m.length + 2))) mid
  ((List.range m.length).map (· + 1)) (fun i an => by
    obtain ⟨j, bw, rfl⟩ := List.mem_map.1 an
    have yW : j < m.length := List.mem_range.1 bw
    refine ⟨fun mf => ?_, fun o bJ => ?_⟩
    ·have := Array.getElem?_eq_none_iff.1 mf
     omega
    ·obtain ⟨nJ, yM, fj⟩ := GZ (j + 1) m[j] (by
      simp only [List.getElem?_cons_succ]
      rw [List.getElem?_append_left yW, List.getElem?_eq_getElem yW])
     have heq : nJ = o := by rw [yM] at bJ; exact Option.some.inj bJ
     subst heq
     refine ⟨m[j], by
      simp only [List.singleton_append, List.getElem?_cons_succ]
      rw [List.getElem?_append_left yW, List.getElem?_eq_getElem yW], ?_⟩
     have V5 := hm m[j] (List.getElem_mem yW)
     unfold ql at fj ⊢
     split at fj
     ·rename_i ai
      rw [if_pos]
      ·exact fj
      ·cases MV : nJ.dst with
       | none => rfl
       | some d =>
         rw [MV] at ai
         simp only [lU, Bool.and_eq_true, decide_eq_true_eq, Bool.not_eq_true', List.contains_eq_mem, decide_eq_false_iff_not] at ai ⊢
         refine ⟨ai.1, ?_⟩
         have Bp : m[j].dst = some d := by
          split at fj
          ·simp only [bU.un, Option.some.injEq, bU.mk.injEq] at fj
           rw [← fj.1, MV]
          ·cases fj
         obtain ⟨m1, m2⟩ := V5 d Bp
         simp only [lW, List.mem_cons, List.mem_append, not_or]
         exact ⟨m1, fun e => m2 (e ▸ BW), m2, ai.2⟩
     ·cases fj) (fin s (some d0) .hole) R w (by simpa using hw) VY
 exact this
def MW (C : b4) (f : FuncId) (k k0 : Nat) (cs : List Nat) (args : List aH) (d1 : Option Nat) (rest : List bU) (keep : List Nat) (P : List (Nat × I) → Prop) (s1 : al) : Prop :=
 ∃ ps r, ps.map (·.a) = args.map (aJ s1) ++ cs.map (qv k s1) ∧ (∀ p ∈ ps, p.ok s1) ∧ iU ps = true ∧
   mP C f args.length (args.length + k0) (ps.map (·.d)) r (ps.map (·.o)) ∧ r.res = true ∧ (kK ps = true → r.c3 = true ∧ ∀ p ∈ ps, p.o.c3 = true) ∧
   b9 C (fin (iK (fw s1 ps) ps) d1 r) rest none (fun _ s => P (hR keep s))
def pI (C : b4) (f : FuncId) (k k0 d0 : Nat) (cs : List Nat) (m : List bU) (args : List aH) (d1 : Option Nat) (rest : List bU) (keep : List Nat) (P : List (Nat × I) → Prop) (s : al) : Prop :=
 b9 C (fin s (some d0) .hole) m none fun _ s1 => MW C f k k0 cs args d1 rest keep P s1
def MX (C : b4) (f : FuncId) (k k0 d0 : Nat) (cs : List Nat) (m : List bU) (args : List aH) (d1 : Option Nat) (rest : List bU) (keep : List Nat) (K : al → Prop) (s : al) : Prop :=
 pI C f k k0 d0 cs m args d1 rest keep (fun l => K (U l)) s
def G2 (f : Nat → Bool) (m : List bU) : Bool := m.all fun r => match r.dst with
 | none => true
 | some d => f d
theorem MY {f : Nat → Bool} {m : List bU} (h : G2 f m = true) : ∀ r ∈ m, ∀ d, r.dst = some d → f d = true := by
 intro r aW d ai
 have := List.all_eq_true.1 h r aW
 rw [ai] at this; exact this
theorem MZ (k : List Nat) (s : al) : tH s (hR k s) := by
 intro p aw
 obtain ⟨t, _, rfl⟩ := List.mem_map.1 aw
 exact .inl rfl
def G3 (C : b4) (f : FuncId) (k k0 d0 : Nat) (cs : List Nat) (m : List bU) (args : List aH) (d1 : Option Nat) (rest : List bU) (keep : List Nat) : (Exit → al → Prop) → al → Prop :=
 fun Q s => MX C f k k0 d0 cs m args d1 rest keep (Q .normal) s
def M0 (T : TypeId) (k d0 : Nat) (m : List bU) (args : List aH) (d1 : Option Nat) (rest : List bU) : J :=
 .cd (⟨some d0, .cS T (.t k), none⟩ :: (m ++ ⟨d1, .call (.t d0) args, none⟩ :: rest)) none
theorem V6 (vs : List Value) : ∀ (m n : Nat), m + n = vs.length → vs.drop m = ((List.range n).map (· + m)).map fun j => vs.getD j undef := by
 intro m n h
 apply List.ext_getElem?
 intro i
 rw [List.getElem?_drop, List.map_map, List.getElem?_map]
 by_cases an : i < n
 ·rw [List.getElem?_range an, List.getElem?_eq_getElem (by omega)]
  simp only [Option.map_some, Function.comp]
  rw [List.getD_eq_getElem?_getD, List.getElem?_eq_getElem (by omega)]
  simp only [Option.getD_some, Option.some.injEq]
  congr 1; omega
 ·rw [List.getElem?_eq_none (by omega), List.getElem?_eq_none (by simp; omega)]; rfl
theorem BZ {c : Code} {rs : List bU} (h : bu n c = some (.cd rs none)) : ∃ id ops, c = .region id ops false ∧ qm n ops ops.toList = some rs := by
 cases c with
 | region id ops draw =>
   cases draw with
   | false =>
     simp only [bu, Option.map_eq_some_iff] at h
     obtain ⟨r, af, ag⟩ := h
     cases ag
     exact ⟨id, ops, rfl, af⟩
   | true =>
     simp only [bu] at h
     split at h
     ·simp only [Option.map_eq_some_iff] at h
      obtain ⟨r, af, ag⟩ := h
      cases ag
     ·cases h
 | seq a b => simp only [bu] at h; split at h <;> cases h
 | cond c a b => simp only [bu] at h; split at h <;> cases h
 | block id b => simp only [bu, Option.map_eq_some_iff] at h; obtain ⟨r, af, ag⟩ := h; cases ag
 | loop b => simp only [bu, Option.map_eq_some_iff] at h; obtain ⟨r, af, ag⟩ := h; cases ag
 | _ => simp [bu] at h
def B0 (C : b4) (f : FuncId) (fx : List Nat) (V7 m k : Nat) (T : (Exit → al → Prop) → al → Prop) (b : J) : Prop :=
 ∃ (ty : TypeId) (k0 d0 nS : Nat) (js : List bU) (args : List aH) (d1 : Option Nat) (rest : List bU) (keep : List Nat),
   T = G3 C f k k0 d0 ((List.range nS).map (· + m)) js args d1 rest keep ∧ b = M0 ty k d0 js args d1 rest ∧ (C.T ty).flat = true ∧ G2 (fun d => d != d0 && decide (m + nS ≤ d)) js = true ∧ decide (m + nS ≤ d0) = true ∧
   decide (k0 < nS) = true ∧ k = m + k0 ∧ ((List.range nS).all fun j => fx.contains (m + j)) = true ∧ args.length = m ∧ m + nS = V7
theorem mP.of_wp (bp : C.eP) {f : FuncId} {fn : Func} {c : Code} {dh : J} {fx : List Nat} {as outs : List I} {r : I} {k m : Nat} (bz : C.P.funcs[f]? = some fn) (aa : fn.body = some c)
  (k6 : (fn.name == "runtime.NumGoroutine") = false) (ab : bu ⟨fn.ntmps, fx⟩ c = some dh.strip) (bc : as.length ≤ fn.ntmps)
  (ar : dh.ni (B0 C f fx as.length m k))
  (h : ∀ Q : Exit → al → Prop, (∀ s, dY (Ends C fx fn.results.toList r outs) s → Q .ret s) → (∀ s, dY (Ends C fx fn.results.toList r outs) s → Q .normal s) → cy C dh Q (U (num 0 as))) : mP C f m k as r outs := by
 rintro w F X S vs hl ⟨b, V8, fr, aN, aZ, aT, b2⟩ aW
 refine Gr (fx := fx) bp bz aa k6 bc hl aW fun a pA ek => ?_
 refine Gp bp (H := B0 C f fx as.length m k) ?_ c (by rw [J.Gl]; exact ab) (J.Bs dh ar) (Bu dh ?_) pA
 ·rintro c T fX Q s R gO ⟨ty, k0, d0, nS, js, args, d1, rest, keep, rfl, rfl, jE, hm, lo, B1, ar, hI, hlen, ay8⟩ yU V9 ⟨g1, g2, g3, vI, cc, g4⟩
  replace hm : ∀ r ∈ js, ∀ d, r.dst = some d → d ≠ d0 ∧ m + nS ≤ d := fun r aW d ai => by
   have := MY hm r aW d ai
   simpa using this
  replace lo := of_decide_eq_true lo
  replace B1 := of_decide_eq_true B1
  replace hI : ∀ j, j < nS → m + j ∈ fx := fun j bw => by
   have := List.all_eq_true.1 hI j (List.mem_range.2 bw)
   simpa using this
  obtain ⟨id, ops, rfl, si⟩ := BZ yU
  have M1 : ∀ j, j < nS → R.tmps.getD (j + m) undef = vs.getD (j + m) undef := fun j bw => by
   rw [Nat.add_comm]; exact g3 _ (hI j bw)
  have iI : ((List.range nS).map (· + m)).map (fun j => R.tmps.getD j undef) = vs.drop m := by
   rw [V6 vs m nS (by omega), List.map_map, List.map_map]
   apply List.map_congr_left
   intro j bw
   exact M1 j (List.mem_range.1 bw)
  refine MP (Q := tI w F X ⟨fn.ntmps, fx⟩ (hH vs) Q) (K := dY (Q .normal)) (b := b) (ty := V8) (fr := fr) (g := f) (k0 := k0) (cs := (List.range nS).map (· + m)) bp si jE (fun r aW d ai => ⟨(hm r aW d ai).1, fun wz => ?_⟩) (fun wz => ?_) ?_ g1 g2 g3 g4 (g4.hs b aT) ?_ ?_ ?_ (fun az cN aL ar ez => ez.dY ar)
  ·obtain ⟨j, bw, rfl⟩ := List.mem_map.1 wz
   have := (hm r aW _ ai).2; have := List.mem_range.1 bw; omega
  ·obtain ⟨j, bw, e⟩ := List.mem_map.1 wz
   have := List.mem_range.1 bw; omega
  ·rw [List.getElem?_map, List.getElem?_range B1, ar]; simp [Nat.add_comm]
  ·rw [ar, Nat.add_comm, M1 k0 B1, Nat.add_comm, ← ar]; exact aN
  ·rw [iI, g4.old b (aW.fe b aT) b2]; exact aZ
  ·refine tM (fun _ s1 => ?_) V9
   rintro ⟨ps, r, gC, f_, hO, hP, mh, tE, yy⟩
   exact ⟨ps, r, gC, f_, hO, hP, mh, tE, tM (fun _ s h => .inr ⟨_, MZ _ _, h⟩) yy⟩
 ·rw [yJ]
  exact h _ (fun s h => ⟨.inr rfl, h⟩) (fun s h => ⟨.inl rfl, h⟩)
theorem V_ {Q : Exit → al → Prop} {l : List (Nat × I)} {f : FuncId} {k k0 d0 : Nat} {cs : List Nat} {m : List bU} {args : List aH} {d1 : Option Nat} {rest : List bU} {keep : List Nat} {b : J} (dL : List (Nat × I))
  (h : ∀ P : List (Nat × I) → Prop, P dL → pI C f k k0 d0 cs m args d1 rest keep P (U l)) (ar : Q .normal (U dL)) : cy C (.jv (G3 C f k k0 d0 cs m args d1 rest keep) b) Q (U l) :=
 fun ey G4 => h (fun l => ey .normal (U l)) (G4 _ _ ar)
theorem M3 {l : List (Nat × I)} {f : FuncId} {k k0 : Nat} {cs : List Nat} {args : List aH} {d1 : Option Nat} {rest : List bU} {keep : List Nat} {P : List (Nat × I) → Prop} {r : I} (ps : List cP)
  (bI : mP C f args.length (args.length + k0) (ps.map (·.d)) r (ps.map (·.o))) (ag : ps.map (·.a) = iM (U l) args ++ cs.map (qv k (U l))) (aF : rp (U l) ps) (a_ : iU ps = true)
  (cK : r.res = true) (cH : kK ps = false ∨ (r.c3 && sr ps) = true)
  (kr : b9 C (fin (iK (fw (U l) ps) ps) d1 r) rest none (fun _ s => P (hR keep s))) : MW C f k k0 cs args d1 rest keep P (U l) := by
 refine ⟨ps, r, by rw [ag, yO], GW aF, a_, bI, cK, ?_, kr⟩
 intro hl
 rcases cH with cH | cH
 ·rw [cH] at hl; cases hl
 ·rw [Bool.and_eq_true] at cH; exact ⟨cH.1, GX cH.2⟩
end
end Go.cY
