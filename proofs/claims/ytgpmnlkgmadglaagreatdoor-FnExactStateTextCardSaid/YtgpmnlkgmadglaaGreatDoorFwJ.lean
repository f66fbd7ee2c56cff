/- Part of a proof that a law returns true for every input. No condition. -/
import Derived.Test.YtgpmnlkgmadglaaGreatDoorFwI
namespace Go.c0
def lT (C : ck) (f : FuncId) (m k : Nat) (as : List I) (r : I) (outs : List I) : Prop :=
 ∀ (w : World) (F X : Nat → Prop) (S : Nat → Nat → Prop) (vs : List Value), vs.length = as.length →
   (∃ b ty fr, vs.getD k undef = .pointer (some ⟨b, 0, none⟩) ∧ w.heap[b]? = some (.cells #[.func (.func f) #[] (vs.drop m).toArray] ty fr) ∧ F b ∧ ¬ X b) →
   bP w F X F S (gm as) (hE vs) w →
   n8 C.P f vs.toArray w fun v aL => ∃ bL aT, bP w F X bL aT (gm (r :: outs)) (hE (v :: vs)) aL
section
variable {C : ck} {w0 w : World} {F0 X F bL : Nat → Prop} {S aT : Nat → Nat → Prop} {n : Fr} {ρ : Nat → Value} {s aA : ao} {aB j_ : Nat → Value} {a : Act} {av : I} {Q : Exit → Act → World → Prop} {aL : World}
theorem bP.base (h : bP w0 F0 X F S s aB w) : bP w F (fun b => ∃ u, S u b) F S s aB w where
 hq := fun _ h => h
 hM := fun _ h => .inl h
 fA := h.fA
 e4 := h.e4
 gi := h.gi
 fK := h.fK
 eh := fun u b ab => .inl ⟨u, ab⟩
 dC := h.dC
 old := fun _ _ _ => rfl
 size := Nat.le_refl _
 os := rfl
 tape := rfl
 output := rfl
theorem bP.SL (h : bP w0 F0 X F S s aB w) (bx : bP w F (fun b => ∃ u, S u b) bL aT aA j_ aL) : bP w0 F0 X bL aT aA j_ aL where
 hq := fun b ab => bx.hq b (h.hq b ab)
 hM := fun b ab => by
  rcases bx.hM b ab with ab | ⟨u, ab⟩ | ab
  ·exact h.hM b ab
  ·exact .inr (h.eh u b ab)
  ·exact .inr (.inr (Nat.le_trans h.size ab))
 fA := bx.fA
 e4 := bx.e4
 gi := bx.gi
 fK := bx.fK
 eh := fun u b ab => by
  rcases bx.eh u b ab with ⟨u, ab⟩ | ab
  ·exact h.eh u b ab
  ·exact .inr (Nat.le_trans h.size ab)
 dC := bx.dC
 old := fun b ab kW => by
  refine (bx.old b (Nat.lt_of_lt_of_le ab h.size) fun ⟨u, hu⟩ => ?_).trans (h.old b ab kW)
  rcases h.eh u b hu with aq | aq
  ·exact kW aq
  ·omega
 size := Nat.le_trans h.size bx.size
 os := bx.os.trans h.os
 tape := bx.tape.trans h.tape
 output := bx.output.trans h.output
theorem J6 (C : ck) (K : ao → Prop) : ∀ (rs pre post : List b2) (s : ao), k9 C s rs K → jZ C (pre ++ (rs ++ post)) s ((List.range rs.length).map (· + pre.length)) K := by
 intro rs
 induction rs with
 | nil => intro pre post s h; exact h
 | cons r rs ih =>
   intro pre post s h
   rw [List.length_cons, List.range_succ_eq_map, List.map_cons, List.map_map]
   simp only [jZ, Nat.zero_add]
   rw [List.getElem?_append_right (Nat.le_refl _)]
   simp only [Nat.sub_self, List.cons_append, List.getElem?_cons_zero]
   have key : ∀ s1, k9 C s1 rs K → jZ C (pre ++ r :: (rs ++ post)) s1 ((List.range rs.length).map ((fun x => x + pre.length) ∘ Nat.succ)) K := by
    intro s1 ag
    have := ih (pre ++ [r]) post s1 ag
    simp only [List.append_assoc, List.singleton_append, List.length_append, List.length_singleton] at this
    have e : ((fun x => x + pre.length) ∘ Nat.succ) = fun x => x + (pre.length + 1) := by funext x; simp; omega
    rw [e]; exact this
   simp only [k9] at h
   exact DN h key
theorem SM (iL : a.defers = []) (eH : a.tmps.size = n.n) (hs : ∀ i ∈ n.fx, a.tmps.getD i undef = ρ i) (aV : bP w0 F0 X F S s (fun t => a.tmps.getD t undef) w)
  {o : Oper} {d0 k : Nat} {args : List aF} {g : FuncId} {caps : List I} {arr : Array Value} {ps : List cV} {r : I} (cD : c1 o.op = some (.call (.t d0) args)) (ai : k8 n o.dst = true)
  (aN : a.tmps.getD d0 undef = .func (.func g) #[] arr) (aw : ei w F s (fun t => a.tmps.getD t undef) caps arr.toList) (hr : I.gh caps = true)
  (SN : ∃ b ty fr, (arr.toList).getD k undef = .pointer (some ⟨b, 0, none⟩) ∧ w.heap[b]? = some (.cells #[.func (.func g) #[] arr] ty fr) ∧ F b) (J7 : k < arr.size)
  (ah : ps.map (·.a) = args.map (aK s) ++ caps) (aI : ∀ p ∈ ps, p.ok s) (a_ : js ps = true) (bN : lT C g args.length (args.length + k) (ps.map (·.d)) r (ps.map (·.o))) (cQ : r.res = true)
  (c5 : k7 ps = true → r.c7 = true ∧ ∀ p ∈ ps, p.o.c7 = true) {K : ao → Prop} {next : Act → World → Prop} (fg : K (fin (i7 (fD s ps) ps) o.dst r))
  (aY : ∀ aA cK aL, K aA → Rel w0 F0 X n ρ aA cK aL → next cK aL) : o.wp C.P a w next Q := by
 obtain ⟨dst, op, ty, pos, after, guard⟩ := o
 simp only at cD ai fg
 cases op with
 | call c =>
   obtain ⟨callee, mf, argTypes⟩ := c
   simp only [c1] at cD
   split at cD
   ·split at cD
    ·rename_i wb _ _ QV xs br o3
     simp only [Option.some.injEq, fX.call.injEq] at cD
     obtain ⟨rfl, rfl⟩ := cD
     have vD : wb = .tmp d0 := by
      cases wb with
      | tmp t => simp only [dH, Option.some.injEq, aF.t.injEq] at br; rw [br]
      | const v => simp only [dH, Option.map_eq_some_iff] at br; obtain ⟨c, _, br⟩ := br; cases br
      | func g => simp [dH] at br
      | global g => simp [dH] at br
     subst vD
     have rM : execOp a.eval { dst, op := .call { callee := .value (.tmp d0), args := mf, argTypes }, type := ty, pos, after, guard } = callFunc g ((mf.toList.map a.eval ++ arr.toList).toArray) := by
      have : a.eval (.tmp d0) = .func (.func g) #[] arr := aN
      simp only [execOp, resolve, this, Deferred.ofValue, pure_bind, invoke]
      congr 1
      apply Array.ext'; simp
     unfold Oper.wp
     rw [rM]
     have hlen : (mf.toList.map a.eval).length = xs.length := by
      have := congrArg List.length (rG o3)
      simpa using this
     have wc : ei w F s (fun t => a.tmps.getD t undef) (xs.map (aK s) ++ caps) (mf.toList.map a.eval ++ arr.toList) := Il (yS aV (fun _ => rfl) _ _ (rG o3)) aw
     rw [← ah] at wc
     obtain ⟨gQ, l2⟩ := Im wc
     have fT : ∀ d ∈ xs.map (aK s) ++ caps, d.plain = true := by
      intro d ai
      rcases List.mem_append.1 ai with ai | ai
      ·obtain ⟨x, aq, rfl⟩ := List.mem_map.1 ai
       exact G2 s x fun av e => by
        subst e
        have hm := rG o3
        have : some (aF.c av) ∈ xs.map some := List.mem_map.2 ⟨_, aq, rfl⟩
        rw [← hm] at this
        obtain ⟨o, _, cg⟩ := List.mem_map.1 this
        cases o with
        | const v => simp only [dH, Option.map_eq_some_iff] at cg; obtain ⟨c, aw, e⟩ := cg; cases e; exact CK aw
        | tmp n => simp [dH] at cg
        | func g => simp [dH] at cg
        | global g => simp [dH] at cg
      ·obtain ⟨k, az⟩ := List.getElem?_of_mem ai
       exact yu hr az
     have DE := Ig (C := C) aV (ps := ps) (vs := mf.toList.map a.eval ++ arr.toList) (f := g) (r := r) (by simpa using gQ)
      (fun i p v ar aN => ⟨fT p.a (by rw [← ah]; exact List.mem_map.2 ⟨p, List.mem_of_getElem? ar, rfl⟩), l2 i p.a v (by simp [ar]) aN⟩) aI a_
      (fun Fc lN eR bu kW ar => by
       refine bN w Fc lN eR _ (by rw [← gQ]; simp) ?_ ar
       obtain ⟨b, zj, fr, aS, aX, aQ⟩ := SN
       refine ⟨b, zj, fr, ?_, ?_, bu b aQ, fun aq => by obtain ⟨u, hu⟩ := kW b aq; exact aV.gi u b hu aQ⟩
       ·rw [List.getD_eq_getElem?_getD, List.getElem?_append_right (by omega), hlen, Nat.add_sub_cancel_left, ← List.getD_eq_getElem?_getD]; exact aS
       ·rw [aX, ← hlen, List.drop_left])
      cQ c5
     rcases DE with ⟨dB, bg⟩ | ⟨v, aL, dB, bL, aT, bg, dm⟩
     ·rw [dB, Oper.upon_enter]
      refine Calls.mono bg ?_
      rintro e aL ⟨v, rfl, bL, aT, bU, cb⟩
      exact aY _ _ _ fg (Rel.put iL eH hs bU cb.1 ai)
     ·rw [dB, Oper.upon_value]
      exact aY _ _ _ fg (Rel.put iL eH hs bg dm.1 ai)
    ·cases cD
   ·split at cD
    ·simp only [Option.map_eq_some_iff] at cD; obtain ⟨_, _, cD⟩ := cD; cases cD
    ·cases cD
   ·split at cD
    ·simp only [Option.map_eq_some_iff] at cD; obtain ⟨_, _, cD⟩ := cD; cases cD
    ·cases cD
   iterate 3
    ·split at cD
     ·split at cD <;> cases cD
     ·cases cD
   ·cases cD
 | makeFunc fn first cs =>
   cases fn <;> simp only [c1] at cD <;> first | (cases cD; done) | (split at cD <;> simp at cD)
 | slice T x dc al hJ =>
   cases hJ <;> simp only [c1] at cD <;> first | (cases cD; done) | (split at cD <;> simp at cD)
 | _ => simp only [c1] at cD <;> first | (cases cD; done) | (simp at cD; done) | (split at cD <;> simp at cD)
theorem SO {op : Op} {T : TypeId} {x : aF} (h : c1 op = some (.b4 T x)) : ∃ y, op = .load T y ∧ dH y = some x := by
 cases op with
 | load wa y =>
   simp only [c1, Option.map_eq_some_iff] at h
   obtain ⟨dr, aq, h⟩ := h
   cases h
   exact ⟨y, rfl, aq⟩
 | call c =>
   obtain ⟨callee, mf, argTypes⟩ := c
   simp only [c1] at h
   split at h <;> (try split at h) <;> (try split at h) <;> (try simp [Option.map_eq_some_iff] at h)
 | makeFunc fn first cs =>
   cases fn <;> simp only [c1] at h <;> first | (cases h; done) | (split at h <;> simp at h)
 | slice T x dc al hJ =>
   cases hJ <;> simp only [c1] at h <;> first | (cases h; done) | (split at h <;> simp at h)
 | _ => simp only [c1] at h <;> first | (cases h; done) | (simp at h; done) | (split at h <;> simp at h)
theorem zk {y : Operand} {k : Nat} (h : dH y = some (.t k)) : y = .tmp k := by
 cases y with
 | tmp t => simp only [dH, Option.some.injEq, aF.t.injEq] at h; rw [h]
 | const v => simp only [dH, Option.map_eq_some_iff] at h; obtain ⟨c, _, h⟩ := h; cases h
 | func g => simp [dH] at h
 | global g => simp [dH] at h
def pa (k : Nat) (s : ao) (j : Nat) : I := if j = k then .ref .hole else jy j (s j)
theorem SP {aB : Nat → Value} {b k : Nat} {v : Value} {ty : TypeId} {fr : Nat × Nat} (aV : bP w0 F0 X F S s aB w) (az : aB k = .pointer (some ⟨b, 0, none⟩)) (ab : F b) (aw : w.heap[b]? = some (.cells #[v] ty fr)) (ag : Value.gH v = true) :
  ∀ cs : List Nat, ei w F s aB (cs.map (pa k s)) (cs.map aB) ∧ I.gh (cs.map (pa k s)) = true := by
 intro cs
 induction cs with
 | nil => exact ⟨by rw [List.map_nil, List.map_nil, ei], rfl⟩
 | cons j cs ih =>
   simp only [List.map_cons]
   have b3 : aG w F s aB (pa k s j) (aB j) (fun _ => False) ∧ (pa k s j).plain = true := by
    unfold pa
    split
    ·rename_i e; subst e
     rw [az]
     refine ⟨(aG.cJ rfl).2 ⟨rfl, ?_⟩, rfl⟩
     rw [au]
     refine ⟨b, 0, [v], rfl, ab, ?_, ?_⟩
     ·intro i c al
      cases i with
      | zero => simp at al; subst al; simp [World.cell?, aw]
      | succ i => simp at al
     ·rw [au]; exact ⟨v, ag, rfl⟩
    ·unfold jy
     split
     ·rename_i ar
      exact ⟨aG.nothing ar (aV.dC j), ar⟩
     ·rename_i ar
      refine ⟨?_, rfl⟩
      rw [aG]
      intro d ai ar
      simp only [I.sub, Option.some.injEq] at ai
      subst ai
      have bb : (s j).tree = true := by
       cases ad : s j <;> first | rfl | (rw [ad] at ar; simp [I.plain] at ar)
      exact ⟨_, none, rfl, rfl, ((aG.cJ bb).1 (aV.dC j)).1⟩
   refine ⟨?_, ?_⟩
   ·rw [ei]; exact ⟨_, _, rfl, b3.1, ih.1⟩
   ·simp only [I.gh, b3.2, ih.2, Bool.and_self]
theorem J8 (bl : C.e0) {id : Nat} {ops : Array Oper} {T : TypeId} {k k0 d0 : Nat} {m rest : List b2} {args : List aF} {d1 : Option Nat} {g : FuncId} {cs : List Nat} {b : Nat} {ty : TypeId} {fr : Nat × Nat} {K : ao → Prop}
  (qB : o5 n ops ops.toList = some ((⟨some d0, .b4 T (.t k), none⟩ :: (m ++ ⟨d1, .call (.t d0) args, none⟩ :: rest) : List b2).map b2.un))
  (l8 : (C.T T).flat = true) (hm : ∀ r ∈ m, ∀ d, r.dst = some d → d ≠ d0 ∧ d ∉ cs) (kH : d0 ∉ cs) (uk : cs[k0]? = some k)
  (iL : a.defers = []) (eH : a.tmps.size = n.n) (hs : ∀ i ∈ n.fx, a.tmps.getD i undef = ρ i) (aV : bP w0 F0 X F S s (fun t => a.tmps.getD t undef) w)
  (ab : F b) (az : a.tmps.getD k undef = .pointer (some ⟨b, 0, none⟩)) (yG : w.heap[b]? = some (.cells #[.func (.func g) #[] (cs.map fun j => a.tmps.getD j undef).toArray] ty fr))
  (h : k9 C (fin s (some d0) .hole) m fun s1 => ∃ ps r, ps.map (·.a) = args.map (aK s1) ++ cs.map (pa k s1) ∧ (∀ p ∈ ps, p.ok s1) ∧ js ps = true ∧
   lT C g args.length (args.length + k0) (ps.map (·.d)) r (ps.map (·.o)) ∧ r.res = true ∧ (k7 ps = true → r.c7 = true ∧ ∀ p ∈ ps, p.o.c7 = true) ∧ k9 C (fin (i7 (fD s1 ps) ps) d1 r) rest K)
  (aY : ∀ aA cK aL, K aA → Rel w0 F0 X n ρ aA cK aL → Q .normal cK aL) : (Code.region id ops false).wp C.P Q a w := by
 obtain ⟨aR, o7⟩ := wg qB
 have Ei : ∀ (i : Nat) (r : b2), (⟨some d0, .b4 T (.t k), none⟩ :: (m ++ ⟨d1, .call (.t d0) args, none⟩ :: rest) : List b2)[i]? = some r → ∃ o, ops[i]? = some o ∧ o4 n ops o = some r.un := by
  intro i r al
  have fa : i < ops.toList.length := by
   rw [aR, List.length_map]
   exact (List.getElem?_eq_some_iff.1 al).1
  obtain ⟨hN, ag, ah⟩ := o7 i _ (List.getElem?_eq_getElem fa)
  rw [List.getElem?_map, al] at ag
  simp only [Option.map_some, Option.some.injEq] at ag
  exact ⟨_, by rw [← Array.getElem?_toList]; exact List.getElem?_eq_getElem fa, by rw [ag]; exact ah⟩
 have um : ∀ {r : b2} {o : Oper}, r.guard = none → o4 n ops o = some r.un → r.dst = o.dst ∧ o.guard = none ∧ n_ o.op = r.bG.base ∧ k8 n o.dst = true := by
  intro r o bT h
  unfold o4 at h
  split at h
  ·rename_i ai
   split at h
   ·rename_i SQ hO
    simp only [b2.un, Option.some.injEq, b2.mk.injEq] at h
    obtain ⟨aS, aX, aQ⟩ := h
    refine ⟨aS.symm, ?_, aX, ai⟩
    rw [aQ, bT] at hO
    cases cg : o.guard with
    | none => rfl
    | some DH =>
      rw [cg] at hO; simp only [v8] at hO; split at hO <;> cases hO
   ·cases h
  ·cases h
 have SR : ops.size = m.length + rest.length + 2 := by
  have : ops.toList.length = ops.size := by simp
  rw [← this, aR]; simp; omega
 have SS : List.range ops.size = 0 :: ((List.range m.length).map (· + 1) ++ ((m.length + 1) :: (List.range rest.length).map (· + (m.length + 2)))) := by
  rw [SR, show m.length + rest.length + 2 = (m.length + rest.length + 1) + 1 from rfl, List.range_succ_eq_map]
  congr 1
  rw [show m.length + rest.length + 1 = m.length + (rest.length + 1) by omega, List.range_add, List.map_append, List.range_succ_eq_map]
  simp only [List.map_map, List.map_cons, Nat.add_zero]
  congr 1
  congr 1
  apply List.map_congr_left
  intro x _; simp; omega
 obtain ⟨qJ, SU, kM⟩ := Ei 0 _ rfl
 obtain ⟨gM, gJ, iK, ik⟩ := um rfl kM
 change n_ qJ.op = .b4 T (.t k) at iK
 have wF : c1 qJ.op = some (.b4 T (.t k)) := by
  rcases mG iK with h | h
  ·cases h
  ·exact h
 obtain ⟨y, bt, SV⟩ := SO wF
 have := zk SV; subst this
 let ir : Value := .func (.func g) #[] (cs.map fun j => a.tmps.getD j undef).toArray
 have jV : h0 w b 0 [ir] := by
  intro i c al
  cases i with
  | zero => simp at al; subst al; simp [World.cell?, yG, ir]
  | succ i => simp at al
 refine wp_region ?_
 rw [SS]
 simp only [wpOps, SU]
 show (if Region.wanted qJ (yielded ops a.tmps) = true then qJ.wp C.P a w _ Q ∨ (qJ.asks C.P a w ∧ LetsOut Q) else _)
 rw [if_pos (y0 gJ)]
 left
 have rM : (execOp a.eval qJ).run C.P w = .ok (.value ir) w := by
  obtain ⟨dst, op, ty, pos, after, guard⟩ := qJ
  simp only at bt
  subst bt
  have : a.eval (.tmp k) = .pointer (some ⟨b, 0, none⟩) := az
  simp [execOp, this, Instr.loadAt, Instr.sureAddr, G8 bl l8 jV]
 unfold Oper.wp
 rw [rM, Oper.upon_value]
 have Ej : some d0 = qJ.dst := gM
 rw [← Ej] at ik ⊢
 let U : Act := a.put (some d0) ir
 let nu : Fr := ⟨n.n, d0 :: k :: (cs ++ n.fx)⟩
 let ρ1 : Nat → Value := fun t => U.tmps.getD t undef
 have zl : k ∈ cs := List.mem_of_getElem? uk
 have oY := aV.base
 have Ek : Rel w F (fun b => ∃ u, S u b) ⟨n.n, []⟩ ρ1 (fin s (some d0) .hole) U w :=
  Rel.put (n := ⟨n.n, []⟩) iL eH (fun i al => by cases al) oY (.inl ⟨rfl, by rw [aG]; trivial⟩) (by
   simp only [k8, Bool.and_eq_true, decide_eq_true_eq] at ik ⊢
   exact ⟨ik.1, by simp⟩)
 have SW : Rel w F (fun b => ∃ u, S u b) nu ρ1 (fin s (some d0) .hole) U w := ⟨Ek.defers, Ek.size, fun i _ => rfl, Ek.rel⟩
 have J9 : ∀ t, t ≠ d0 → ρ1 t = a.tmps.getD t undef := by
  intro t bb
  have := congrFun (v_ (n := n) (dst := some d0) (a := a) ir eH ik).1 t
  simp only [nU] at this
  rw [jH _ _ bb] at this
  exact this
 have SX : ρ1 d0 = ir := by
  have := congrFun (v_ (n := n) (dst := some d0) (a := a) ir eH ik).1 d0
  simp only [nU] at this
  rw [l7] at this
  exact this
 have hw := J6 C _ m [⟨some d0, .b4 T (.t k), none⟩] (⟨d1, .call (.t d0) args, none⟩ :: rest) _ h
 have mid : ∀ aA cK aL, (∃ ps r, ps.map (·.a) = args.map (aK aA) ++ cs.map (pa k aA) ∧ (∀ p ∈ ps, p.ok aA) ∧ js ps = true ∧
   lT C g args.length (args.length + k0) (ps.map (·.d)) r (ps.map (·.o)) ∧ r.res = true ∧ (k7 ps = true → r.c7 = true ∧ ∀ p ∈ ps, p.o.c7 = true) ∧ k9 C (fin (i7 (fD aA ps) ps) d1 r) rest K) →
   Rel w F (fun b => ∃ u, S u b) nu ρ1 aA cK aL → wpOps C.P ops Q ((m.length + 1) :: (List.range rest.length).map (· + (m.length + 2))) cK aL := by
  rintro s2 a2 iz ⟨ps, r, aS, aX, aQ, ca, cR, bZ, bS⟩ ⟨g1, g2, g3, vZ, dG, g4⟩
  obtain ⟨uo, SY, qm⟩ := Ei (m.length + 1) ⟨d1, .call (.t d0) args, none⟩ (by simp)
  obtain ⟨fp, gW, h3, Hk⟩ := um rfl qm
  simp only [wpOps, SY]
  show (if Region.wanted uo (yielded ops a2.tmps) = true then uo.wp C.P a2 iz _ Q ∨ (uo.asks C.P a2 iz ∧ LetsOut Q) else _)
  rw [if_pos (y0 gW)]
  left
  change n_ uo.op = .call (.t d0) args at h3
  have SZ : c1 uo.op = some (.call (.t d0) args) := by
   rcases mG h3 with h | h
   ·cases h
   ·exact h
  have J_ : vZ b := g4.hq b ab
  have Ka : iz.heap[b]? = some (.cells #[ir] ty fr) := by
   rw [g4.old b (aV.fA b ab) (fun ⟨u, hu⟩ => aV.gi u b hu ab)]; exact yG
  have Kb : ∀ j ∈ cs, a2.tmps.getD j undef = a.tmps.getD j undef := by
   intro j b3
   rw [g3 j (by simp [nu, b3])]
   exact J9 j (fun e => kH (e ▸ b3))
  have nV : a2.tmps.getD k undef = .pointer (some ⟨b, 0, none⟩) := (Kb k zl).trans az
  have Kc : (cs.map fun j => a.tmps.getD j undef) = cs.map fun j => a2.tmps.getD j undef := List.map_congr_left fun j b3 => (Kb j b3).symm
  obtain ⟨cy, cu⟩ := SP (k := k) g4 nV J_ Ka rfl cs
  have C9 : ∀ aA cK aL, k9 C aA rest K → Rel w F (fun b => ∃ u, S u b) ⟨n.n, n.fx⟩ ρ aA cK aL → wpOps C.P ops Q ((List.range rest.length).map (· + (m.length + 2))) cK aL := by
   intro fb a3 pR aI zm
   have y9 := J6 C K rest ((⟨some d0, .b4 T (.t k), none⟩ :: m) ++ [⟨d1, .call (.t d0) args, none⟩]) [] fb aI
   have := DG (Q := Q) bl (ops := ops) (ros := ((⟨some d0, .b4 T (.t k), none⟩ :: m) ++ [⟨d1, .call (.t d0) args, none⟩]) ++ (rest ++ [])) (l2 := []) (K := K) (fun aA cK aL kI eI => by
     obtain ⟨wG, z2, z3, S0, Hu, z4⟩ := eI
     exact aY aA cK aL kI ⟨wG, z2, z3, S0, Hu, aV.SL z4⟩) ((List.range rest.length).map (· + (m.length + 2))) (fun i al => by
      have wt : ((⟨some d0, .b4 T (.t k), none⟩ :: m) ++ [⟨d1, .call (.t d0) args, none⟩]) ++ (rest ++ []) = (⟨some d0, .b4 T (.t k), none⟩ :: (m ++ ⟨d1, .call (.t d0) args, none⟩ :: rest) : List b2) := by simp
      rw [wt]
      refine ⟨fun mX => ?_, fun o cg => ?_⟩
      ·rw [List.getElem?_eq_none_iff]
       have := Array.getElem?_eq_none_iff.1 mX
       simp; omega
      ·obtain ⟨an, h1, ah⟩ := o7 i o (by simpa using cg)
       obtain ⟨r, ag, rfl⟩ : ∃ r, (⟨some d0, .b4 T (.t k), none⟩ :: (m ++ ⟨d1, .call (.t d0) args, none⟩ :: rest) : List b2)[i]? = some r ∧ r.un = an := by
        rw [List.getElem?_map, Option.map_eq_some_iff] at h1; exact h1
       exact ⟨r, ag, ah⟩) fb a3 pR (by
      have e : ((⟨some d0, .b4 T (.t k), none⟩ :: m) ++ [⟨d1, .call (.t d0) args, none⟩] : List b2).length = m.length + 2 := by simp
      rw [e] at y9; exact y9) zm
   rwa [List.append_nil] at this
  have S1 : ∀ i ∈ n.fx, a2.tmps.getD i undef = ρ i := by
   intro i al
   rw [g3 i (by simp [nu, al]), J9 i (fun e => ?_)]
   ·exact hs i al
   ·simp only [k8, Bool.and_eq_true, Bool.not_eq_true', List.contains_eq_mem, decide_eq_false_iff_not] at ik
    exact ik.2 (e ▸ al)
  have J7 : k0 < cs.length := (List.getElem?_eq_some_iff.1 uk).1
  have S2 : uo.dst = d1 := fp.symm
  exact SM (n := n) (ρ := ρ) (K := fun aA => k9 C aA rest K) g1 g2 S1 g4 SZ Hk
   (arr := (cs.map fun j => a2.tmps.getD j undef).toArray) (k := k0) (caps := cs.map (pa k s2)) (g := g) (ps := ps) (r := r)
   (by rw [g3 d0 (by simp [nu]), SX]; simp only [ir, Kc]) (by simpa using cy) cu
   ⟨b, ty, fr, by
     rw [List.getD_eq_getElem?_getD, List.getElem?_map, uk]; exact nV, by rw [Ka]; simp only [ir, Kc], J_⟩ (by simpa using J7)
   aS aX aQ ca cR bZ (by rw [S2]; exact bS) C9
 have := DG (Q := Q) bl (ops := ops) (ros := [⟨some d0, .b4 T (.t k), none⟩] ++ (m ++ ⟨d1, .call (.t d0) args, none⟩ :: rest)) (l2 := (m.length + 1) :: (List.range rest.length).map (· + (m.length + 2))) mid
  ((List.range m.length).map (· + 1)) (fun i al => by
    obtain ⟨j, b3, rfl⟩ := List.mem_map.1 al
    have wH : j < m.length := List.mem_range.1 b3
    refine ⟨fun mX => ?_, fun o cg => ?_⟩
    ·have := Array.getElem?_eq_none_iff.1 mX
     omega
    ·obtain ⟨mE, wy, fj⟩ := Ei (j + 1) m[j] (by
      simp only [List.getElem?_cons_succ]
      rw [List.getElem?_append_left wH, List.getElem?_eq_getElem wH])
     have heq : mE = o := by rw [wy] at cg; exact Option.some.inj cg
     subst heq
     refine ⟨m[j], by
      simp only [List.singleton_append, List.getElem?_cons_succ]
      rw [List.getElem?_append_left wH, List.getElem?_eq_getElem wH], ?_⟩
     have S3 := hm m[j] (List.getElem_mem wH)
     unfold o4 at fj ⊢
     split at fj
     ·rename_i ai
      rw [if_pos]
      ·exact fj
      ·cases Kd : mE.dst with
       | none => rfl
       | some d =>
         rw [Kd] at ai
         simp only [k8, Bool.and_eq_true, decide_eq_true_eq, Bool.not_eq_true', List.contains_eq_mem, decide_eq_false_iff_not] at ai ⊢
         refine ⟨ai.1, ?_⟩
         have y1 : m[j].dst = some d := by
          split at fj
          ·simp only [b2.un, Option.some.injEq, b2.mk.injEq] at fj
           rw [← fj.1, Kd]
          ·cases fj
         obtain ⟨m1, m2⟩ := S3 d y1
         simp only [nu, List.mem_cons, List.mem_append, not_or]
         exact ⟨m1, fun e => m2 (e ▸ zl), m2, ai.2⟩
     ·cases fj) (fin s (some d0) .hole) U w (by simpa using hw) SW
 exact this
def Ke (C : ck) (f : FuncId) (k k0 : Nat) (cs : List Nat) (args : List aF) (d1 : Option Nat) (rest : List b2) (keep : List Nat) (P : List (Nat × I) → Prop) (s1 : ao) : Prop :=
 ∃ ps r, ps.map (·.a) = args.map (aK s1) ++ cs.map (pa k s1) ∧ (∀ p ∈ ps, p.ok s1) ∧ js ps = true ∧
   lT C f args.length (args.length + k0) (ps.map (·.d)) r (ps.map (·.o)) ∧ r.res = true ∧ (k7 ps = true → r.c7 = true ∧ ∀ p ∈ ps, p.o.c7 = true) ∧
   cI C (fin (i7 (fD s1 ps) ps) d1 r) rest none (fun _ s => P (iT keep s))
def oh (C : ck) (f : FuncId) (k k0 d0 : Nat) (cs : List Nat) (m : List b2) (args : List aF) (d1 : Option Nat) (rest : List b2) (keep : List Nat) (P : List (Nat × I) → Prop) (s : ao) : Prop :=
 cI C (fin s (some d0) .hole) m none fun _ s1 => Ke C f k k0 cs args d1 rest keep P s1
def Kf (C : ck) (f : FuncId) (k k0 d0 : Nat) (cs : List Nat) (m : List b2) (args : List aF) (d1 : Option Nat) (rest : List b2) (keep : List Nat) (K : ao → Prop) (s : ao) : Prop :=
 oh C f k k0 d0 cs m args d1 rest keep (fun l => K (aa l)) s
def El (f : Nat → Bool) (m : List b2) : Bool := m.all fun r => match r.dst with
 | none => true
 | some d => f d
theorem Kg {f : Nat → Bool} {m : List b2} (h : El f m = true) : ∀ r ∈ m, ∀ d, r.dst = some d → f d = true := by
 intro r aV d ai
 have := List.all_eq_true.1 h r aV
 rw [ai] at this; exact this
theorem Kh (k : List Nat) (s : ao) : wo s (iT k s) := by
 intro p ar
 obtain ⟨t, _, rfl⟩ := List.mem_map.1 ar
 exact .inl rfl
def Em (C : ck) (f : FuncId) (k k0 d0 : Nat) (cs : List Nat) (m : List b2) (args : List aF) (d1 : Option Nat) (rest : List b2) (keep : List Nat) : (Exit → ao → Prop) → ao → Prop :=
 fun Q s => Kf C f k k0 d0 cs m args d1 rest keep (Q .normal) s
def Ki (T : TypeId) (k d0 : Nat) (m : List b2) (args : List aF) (d1 : Option Nat) (rest : List b2) : J :=
 .R (⟨some d0, .b4 T (.t k), none⟩ :: (m ++ ⟨d1, .call (.t d0) args, none⟩ :: rest)) none
theorem S4 (vs : List Value) : ∀ (m n : Nat), m + n = vs.length → vs.drop m = ((List.range n).map (· + m)).map fun j => vs.getD j undef := by
 intro m n h
 apply List.ext_getElem?
 intro i
 rw [List.getElem?_drop, List.map_map, List.getElem?_map]
 by_cases al : i < n
 ·rw [List.getElem?_range al, List.getElem?_eq_getElem (by omega)]
  simp only [Option.map_some, Function.comp]
  rw [List.getD_eq_getElem?_getD, List.getElem?_eq_getElem (by omega)]
  simp only [Option.getD_some, Option.some.injEq]
  congr 1; omega
 ·rw [List.getElem?_eq_none (by omega), List.getElem?_eq_none (by simp; omega)]; rfl
theorem zn {c : Code} {rs : List b2} (h : bj n c = some (.R rs none)) : ∃ id ops, c = .region id ops false ∧ o5 n ops ops.toList = some rs := by
 cases c with
 | region id ops draw =>
   cases draw with
   | false =>
     simp only [bj, Option.map_eq_some_iff] at h
     obtain ⟨r, ag, ah⟩ := h
     cases ah
     exact ⟨id, ops, rfl, ag⟩
   | true =>
     simp only [bj] at h
     split at h
     ·simp only [Option.map_eq_some_iff] at h
      obtain ⟨r, ag, ah⟩ := h
      cases ah
     ·cases h
 | seq a b => simp only [bj] at h; split at h <;> cases h
 | cond c a b => simp only [bj] at h; split at h <;> cases h
 | block id b => simp only [bj, Option.map_eq_some_iff] at h; obtain ⟨r, ag, ah⟩ := h; cases ah
 | loop b => simp only [bj, Option.map_eq_some_iff] at h; obtain ⟨r, ag, ah⟩ := h; cases ah
 | _ => simp [bj] at h
def zo (C : ck) (f : FuncId) (fx : List Nat) (S5 m k : Nat) (T : (Exit → ao → Prop) → ao → Prop) (b : J) : Prop :=
 ∃ (ty : TypeId) (k0 d0 mK : Nat) (ij : List b2) (args : List aF) (d1 : Option Nat) (rest : List b2) (keep : List Nat),
   T = Em C f k k0 d0 ((List.range mK).map (· + m)) ij args d1 rest keep ∧ b = Ki ty k d0 ij args d1 rest ∧ (C.T ty).flat = true ∧ El (fun d => d != d0 && decide (m + mK ≤ d)) ij = true ∧ decide (m + mK ≤ d0) = true ∧
   decide (k0 < mK) = true ∧ k = m + k0 ∧ ((List.range mK).all fun j => fx.contains (m + j)) = true ∧ args.length = m ∧ m + mK = S5
theorem lT.of_wp (bl : C.e0) {f : FuncId} {fn : Func} {c : Code} {dq : J} {fx : List Nat} {as outs : List I} {r : I} {k m : Nat} (br : C.P.funcs[f]? = some fn) (ab : fn.body = some c)
  (kt : (fn.name == "runtime.NumGoroutine") = false) (ad : bj ⟨fn.ntmps, fx⟩ c = some dq.strip) (aY : as.length ≤ fn.ntmps)
  (az : dq.mg (zo C f fx as.length m k))
  (h : ∀ Q : Exit → ao → Prop, (∀ s, el (Ends C fx fn.results.toList r outs) s → Q .ret s) → (∀ s, el (Ends C fx fn.results.toList r outs) s → Q .normal s) → cW C dq Q (aa (num 0 as))) : lT C f m k as r outs := by
 rintro w F X S vs aR ⟨b, S6, fr, aS, aX, aQ, ca⟩ aV
 refine DR (fx := fx) bl br ab kt aY aR aV fun a oa eJ => ?_
 refine DQ bl (H := zo C f fx as.length m k) ?_ c (by rw [J.DM]; exact ad) (J.y5 dq az) (y6 dq ?_) oa
 ·rintro c T fJ Q s U h7 ⟨ty, k0, d0, mK, ij, args, d1, rest, keep, rfl, rfl, l8, hm, kH, zp, az, hs, hlen, awS⟩ wF S7 ⟨g1, g2, g3, tw, b5, g4⟩
  replace hm : ∀ r ∈ ij, ∀ d, r.dst = some d → d ≠ d0 ∧ m + mK ≤ d := fun r aV d ai => by
   have := Kg hm r aV d ai
   simpa using this
  replace kH := of_decide_eq_true kH
  replace zp := of_decide_eq_true zp
  replace hs : ∀ j, j < mK → m + j ∈ fx := fun j b3 => by
   have := List.all_eq_true.1 hs j (List.mem_range.2 b3)
   simpa using this
  obtain ⟨id, ops, rfl, qB⟩ := zn wF
  have Kj : ∀ j, j < mK → U.tmps.getD (j + m) undef = vs.getD (j + m) undef := fun j b3 => by
   rw [Nat.add_comm]; exact g3 _ (hs j b3)
  have hj : ((List.range mK).map (· + m)).map (fun j => U.tmps.getD j undef) = vs.drop m := by
   rw [S4 vs m mK (by omega), List.map_map, List.map_map]
   apply List.map_congr_left
   intro j b3
   exact Kj j (List.mem_range.1 b3)
  refine J8 (Q := rP w F X ⟨fn.ntmps, fx⟩ (hE vs) Q) (K := el (Q .normal)) (b := b) (ty := S6) (fr := fr) (g := f) (k0 := k0) (cs := (List.range mK).map (· + m)) bl qB l8 (fun r aV d ai => ⟨(hm r aV d ai).1, fun En => ?_⟩) (fun En => ?_) ?_ g1 g2 g3 g4 (g4.hq b aQ) ?_ ?_ ?_ (fun aA cK aL az eI => eI.el az)
  ·obtain ⟨j, b3, rfl⟩ := List.mem_map.1 En
   have := (hm r aV _ ai).2; have := List.mem_range.1 b3; omega
  ·obtain ⟨j, b3, e⟩ := List.mem_map.1 En
   have := List.mem_range.1 b3; omega
  ·rw [List.getElem?_map, List.getElem?_range zp, az]; simp [Nat.add_comm]
  ·rw [az, Nat.add_comm, Kj k0 zp, Nat.add_comm, ← az]; exact aS
  ·rw [hj, g4.old b (aV.fA b aQ) ca]; exact aX
  ·refine rT (fun _ s1 => ?_) S7
   rintro ⟨ps, r, gM, gJ, iK, ik, nb, rN, we⟩
   exact ⟨ps, r, gM, gJ, iK, ik, nb, rN, rT (fun _ s h => .inr ⟨_, Kh _ _, h⟩) we⟩
 ·rw [DV]
  exact h _ (fun s h => ⟨.inr rfl, h⟩) (fun s h => ⟨.inl rfl, h⟩)
theorem S8 {Q : Exit → ao → Prop} {l : List (Nat × I)} {f : FuncId} {k k0 d0 : Nat} {cs : List Nat} {m : List b2} {args : List aF} {d1 : Option Nat} {rest : List b2} {keep : List Nat} {b : J} (ep : List (Nat × I))
  (h : ∀ P : List (Nat × I) → Prop, P ep → oh C f k k0 d0 cs m args d1 rest keep P (aa l)) (az : Q .normal (aa ep)) : cW C (.i_ (Em C f k k0 d0 cs m args d1 rest keep) b) Q (aa l) :=
 fun ey Eo => h (fun l => ey .normal (aa l)) (Eo _ _ az)
theorem Kk {l : List (Nat × I)} {f : FuncId} {k k0 : Nat} {cs : List Nat} {args : List aF} {d1 : Option Nat} {rest : List b2} {keep : List Nat} {P : List (Nat × I) → Prop} {r : I} (ps : List cV)
  (bN : lT C f args.length (args.length + k0) (ps.map (·.d)) r (ps.map (·.o))) (ah : ps.map (·.a) = jb (aa l) args ++ cs.map (pa k (aa l))) (aI : uj (aa l) ps) (a_ : js ps = true)
  (cQ : r.res = true) (c5 : k7 ps = false ∨ (r.c7 && wE ps) = true)
  (lP : cI C (fin (i7 (fD (aa l) ps) ps) d1 r) rest none (fun _ s => P (iT keep s))) : Ke C f k k0 cs args d1 rest keep P (aa l) := by
 refine ⟨ps, r, by rw [ah, zf], J1 aI, a_, bN, cQ, ?_, lP⟩
 intro aR
 rcases c5 with c5 | c5
 ·rw [c5] at aR; cases aR
 ·rw [Bool.and_eq_true] at c5; exact ⟨c5.1, J2 c5.2⟩
end
end Go.c0
