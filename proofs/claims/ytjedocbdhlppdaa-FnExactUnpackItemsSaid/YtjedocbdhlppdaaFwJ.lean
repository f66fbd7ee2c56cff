/- Part of a proof that a law returns true for every input. No condition. -/
import Derived.Test.YtjedocbdhlppdaaFwI
namespace Go.b7
def ly (C : bp) (f : FuncId) (m k : Nat) (as : List j) (r : j) (outs : List j) : Prop :=
 ∀ (w : World) (F X : Nat → Prop) (S : Nat → Nat → Prop) (vs : List Value), vs.length = as.length →
   (∃ b ty fr, vs.getD k undef = .pointer (some ⟨b, 0, none⟩) ∧ w.heap[b]? = some (.cells #[.func (.func f) #[] (vs.drop m).toArray] ty fr) ∧ F b ∧ ¬ X b) →
   ba w F X F S (dL as) (eQ vs) w →
   kf C.P f vs.toArray w fun v ao => ∃ aY az, ba w F X aY az (dL (r :: outs)) (eQ (v :: vs)) ao
section
variable {C : bp} {w0 w : World} {F0 X F aY : Nat → Prop} {S az : Nat → Nat → Prop} {n : Fr} {ρ : Nat → Value} {s aj : ad} {al gx : Nat → Value} {a : Act} {av : j} {Q : Exit → Act → World → Prop} {ao : World}
theorem ba.base (h : ba w0 F0 X F S s al w) : ba w F (fun b => ∃ u, S u b) F S s al w where
 eF := fun _ h => h
 eW := fun _ h => .inl h
 dg := h.dg
 cZ := h.cZ
 dz := h.dz
 dt := h.dt
 cq := fun u b J => .inl ⟨u, J⟩
 cl := h.cl
 old := fun _ _ _ => rfl
 size := Nat.le_refl _
 os := rfl
 tape := rfl
 output := rfl
theorem ba.FY (h : ba w0 F0 X F S s al w) (aX : ba w F (fun b => ∃ u, S u b) aY az aj gx ao) : ba w0 F0 X aY az aj gx ao where
 eF := fun b J => aX.eF b (h.eF b J)
 eW := fun b J => by
  rcases aX.eW b J with J | ⟨u, J⟩ | J
  ·exact h.eW b J
  ·exact .inr (h.cq u b J)
  ·exact .inr (.inr (Nat.le_trans h.size J))
 dg := aX.dg
 cZ := aX.cZ
 dz := aX.dz
 dt := aX.dt
 cq := fun u b J => by
  rcases aX.cq u b J with ⟨u, J⟩ | J
  ·exact h.cq u b J
  ·exact .inr (Nat.le_trans h.size J)
 cl := aX.cl
 old := fun b J gj => by
  refine (aX.old b (Nat.lt_of_lt_of_le J h.size) fun ⟨u, hu⟩ => ?_).trans (h.old b J gj)
  rcases h.cq u b hu with an | an
  ·exact gj an
  ·omega
 size := Nat.le_trans h.size aX.size
 os := aX.os.trans h.os
 tape := aX.tape.trans h.tape
 output := aX.output.trans h.output
theorem zG (C : bp) (K : ad → Prop) : ∀ (rs pre post : List bm) (s : ad), ht C s rs K → gn C (pre ++ (rs ++ post)) s ((List.range rs.length).map (· + pre.length)) K := by
 intro rs
 induction rs with
 | nil => intro pre post s h; exact h
 | cons r rs ih =>
   intro pre post s h
   rw [List.length_cons, List.range_succ_eq_map, List.map_cons, List.map_map]
   simp only [gn, Nat.zero_add]
   rw [List.getElem?_append_right (Nat.le_refl _)]
   simp only [Nat.sub_self, List.cons_append, List.getElem?_cons_zero]
   have key : ∀ s1, ht C s1 rs K → gn C (pre ++ r :: (rs ++ post)) s1 ((List.range rs.length).map ((fun x => x + pre.length) ∘ Nat.succ)) K := by
    intro s1 U
    have := ih (pre ++ [r]) post s1 U
    simp only [List.append_assoc, List.singleton_append, List.length_append, List.length_singleton] at this
    have e : ((fun x => x + pre.length) ∘ Nat.succ) = fun x => x + (pre.length + 1) := by funext x; simp; omega
    rw [e]; exact this
   simp only [ht] at h
   exact uW h key
theorem FZ (fB : a.defers = []) (cV : a.tmps.size = n.n) (eR : ∀ i ∈ n.fx, a.tmps.getD i undef = ρ i) (aD : ba w0 F0 X F S s (fun t => a.tmps.getD t undef) w)
  {o : Oper} {d0 k : Nat} {args : List aq} {g : FuncId} {caps : List j} {arr : Array Value} {ps : List bH} {r : j} (bD : cb o.op = some (.call (.t d0) args)) (ab : ib n o.dst = true)
  (aC : a.tmps.getD d0 undef = .func (.func g) #[] arr) (ag : cx w F s (fun t => a.tmps.getD t undef) caps arr.toList) (dV : j.dr caps = true)
  (F1 : ∃ b ty fr, (arr.toList).getD k undef = .pointer (some ⟨b, 0, none⟩) ∧ w.heap[b]? = some (.cells #[.func (.func g) #[] arr] ty fr) ∧ F b) (zH : k < arr.size)
  (aa : ps.map (·.a) = args.map (aw s) ++ caps) (au : ∀ p ∈ ps, p.ok s) (aK : fA ps = true) (a1 : ly C g args.length (args.length + k) (ps.map (·.d)) r (ps.map (·.o))) (bN : r.res = true)
  (bS : gS ps = true → r.c6 = true ∧ ∀ p ∈ ps, p.o.c6 = true) {K : ad → Prop} {next : Act → World → Prop} (df : K (fin (ft (dc s ps) ps) o.dst r))
  (aO : ∀ aj bK ao, K aj → Rel w0 F0 X n ρ aj bK ao → next bK ao) : o.wp C.P a w next Q := by
 obtain ⟨dst, op, ty, pos, after, guard⟩ := o
 simp only at bD ab df
 cases op with
 | call c =>
   obtain ⟨callee, kh, argTypes⟩ := c
   simp only [cb] at bD
   split at bD
   ·split at bD
    ·rename_i qk _ _ D9 xs bo jL
     simp only [Option.some.injEq, dH.call.injEq] at bD
     obtain ⟨rfl, rfl⟩ := bD
     have pZ : qk = .tmp d0 := by
      cases qk with
      | tmp t => simp only [cr, Option.some.injEq, aq.t.injEq] at bo; rw [bo]
      | const v => simp only [cr, Option.map_eq_some_iff] at bo; obtain ⟨c, _, bo⟩ := bo; cases bo
      | func g => simp [cr] at bo
      | global g => simp [cr] at bo
     subst pZ
     have np : execOp a.eval { dst, op := .call { callee := .value (.tmp d0), args := kh, argTypes }, type := ty, pos, after, guard } = callFunc g ((kh.toList.map a.eval ++ arr.toList).toArray) := by
      have : a.eval (.tmp d0) = .func (.func g) #[] arr := aC
      simp only [execOp, resolve, this, Deferred.ofValue, pure_bind, invoke]
      congr 1
      apply Array.ext'; simp
     unfold Oper.wp
     rw [np]
     have hlen : (kh.toList.map a.eval).length = xs.length := by
      have := congrArg List.length (ni jL)
      simpa using this
     have ql : cx w F s (fun t => a.tmps.getD t undef) (xs.map (aw s) ++ caps) (kh.toList.map a.eval ++ arr.toList) := ya (rU aD (fun _ => rfl) _ _ (ni jL)) ag
     rw [← aa] at ql
     obtain ⟨ev, l2⟩ := yb ql
     have eG : ∀ d ∈ xs.map (aw s) ++ caps, d.plain = true := by
      intro d ab
      rcases List.mem_append.1 ab with ab | ab
      ·obtain ⟨x, an, rfl⟩ := List.mem_map.1 ab
       exact wO s x fun av e => by
        subst e
        have hm := ni jL
        have : some (aq.c av) ∈ xs.map some := List.mem_map.2 ⟨_, an, rfl⟩
        rw [← hm] at this
        obtain ⟨o, _, bq⟩ := List.mem_map.1 this
        cases o with
        | const v => simp only [cr, Option.map_eq_some_iff] at bq; obtain ⟨c, ag, e⟩ := bq; cases e; exact tC ag
        | tmp n => simp [cr] at bq
        | func g => simp [cr] at bq
        | global g => simp [cr] at bq
      ·obtain ⟨k, ah⟩ := List.getElem?_of_mem ab
       exact ry dV ah
     have uK := x6 (C := C) aD (ps := ps) (vs := kh.toList.map a.eval ++ arr.toList) (f := g) (r := r) (by simpa using ev)
      (fun i p v ak aC => ⟨eG p.a (by rw [← aa]; exact List.mem_map.2 ⟨p, List.mem_of_getElem? ak, rfl⟩), l2 i p.a v (by simp [ak]) aC⟩) au aK
      (fun Fc ia cS aN gj ak => by
       refine a1 w Fc ia cS _ (by rw [← ev]; simp) ?_ ak
       obtain ⟨b, F2, fr, aE, aI, bg⟩ := F1
       refine ⟨b, F2, fr, ?_, ?_, aN b bg, fun an => by obtain ⟨u, hu⟩ := gj b an; exact aD.dz u b hu bg⟩
       ·rw [List.getD_eq_getElem?_getD, List.getElem?_append_right (by omega), hlen, Nat.add_sub_cancel_left, ← List.getD_eq_getElem?_getD]; exact aE
       ·rw [aI, ← hlen, List.drop_left])
      bN bS
     rcases uK with ⟨et, ck⟩ | ⟨v, ao, et, aY, az, ck, hI⟩
     ·rw [et, Oper.upon_enter]
      refine Calls.mono ck ?_
      rintro e ao ⟨v, rfl, aY, az, bn, bs⟩
      exact aO _ _ _ df (Rel.put fB cV eR bn bs.1 ab)
     ·rw [et, Oper.upon_value]
      exact aO _ _ _ df (Rel.put fB cV eR ck hI.1 ab)
    ·cases bD
   ·split at bD
    ·simp only [Option.map_eq_some_iff] at bD; obtain ⟨_, _, bD⟩ := bD; cases bD
    ·cases bD
   ·split at bD
    ·simp only [Option.map_eq_some_iff] at bD; obtain ⟨_, _, bD⟩ := bD; cases bD
    ·cases bD
   iterate 3
    ·split at bD
     ·split at bD <;> cases bD
     ·cases bD
   ·cases bD
 | makeFunc fn first cs =>
   cases fn <;> simp only [cb] at bD <;> first | (cases bD; done) | (split at bD <;> simp at bD)
 | slice T x bY ax fv =>
   cases fv <;> simp only [cb] at bD <;> first | (cases bD; done) | (split at bD <;> simp at bD)
 | _ => simp only [cb] at bD <;> first | (cases bD; done) | (simp at bD; done) | (split at bD <;> simp at bD)
theorem F3 {op : Op} {T : TypeId} {x : aq} (h : cb op = some (.cL T x)) : ∃ y, op = .load T y ∧ cr y = some x := by
 cases op with
 | load uI y =>
   simp only [cb, Option.map_eq_some_iff] at h
   obtain ⟨bW, an, h⟩ := h
   cases h
   exact ⟨y, rfl, an⟩
 | call c =>
   obtain ⟨callee, kh, argTypes⟩ := c
   simp only [cb] at h
   split at h <;> (try split at h) <;> (try split at h) <;> (try simp [Option.map_eq_some_iff] at h)
 | makeFunc fn first cs =>
   cases fn <;> simp only [cb] at h <;> first | (cases h; done) | (split at h <;> simp at h)
 | slice T x bY ax fv =>
   cases fv <;> simp only [cb] at h <;> first | (cases h; done) | (split at h <;> simp at h)
 | _ => simp only [cb] at h <;> first | (cases h; done) | (simp at h; done) | (split at h <;> simp at h)
theorem F4 {y : Operand} {k : Nat} (h : cr y = some (.t k)) : y = .tmp k := by
 cases y with
 | tmp t => simp only [cr, Option.some.injEq, aq.t.injEq] at h; rw [h]
 | const v => simp only [cr, Option.map_eq_some_iff] at h; obtain ⟨c, _, h⟩ := h; cases h
 | func g => simp [cr] at h
 | global g => simp [cr] at h
def lz (k : Nat) (s : ad) (ay : Nat) : j := if ay = k then .ref .hole else fH ay (s ay)
theorem F5 {al : Nat → Value} {b k : Nat} {v : Value} {ty : TypeId} {fr : Nat × Nat} (aD : ba w0 F0 X F S s al w) (ah : al k = .pointer (some ⟨b, 0, none⟩)) (J : F b) (ag : w.heap[b]? = some (.cells #[v] ty fr)) (U : Value.dW v = true) :
  ∀ cs : List Nat, cx w F s al (cs.map (lz k s)) (cs.map al) ∧ j.dr (cs.map (lz k s)) = true := by
 intro cs
 induction cs with
 | nil => exact ⟨by rw [List.map_nil, List.map_nil, cx], rfl⟩
 | cons ay cs ih =>
   simp only [List.map_cons]
   have bP : ar w F s al (lz k s ay) (al ay) (fun _ => False) ∧ (lz k s ay).plain = true := by
    unfold lz
    split
    ·rename_i e; subst e
     rw [ah]
     refine ⟨(ar.bE rfl).2 ⟨rfl, ?_⟩, rfl⟩
     rw [ai]
     refine ⟨b, 0, [v], rfl, J, ?_, ?_⟩
     ·intro i c ax
      cases i with
      | zero => simp at ax; subst ax; simp [World.cell?, ag]
      | succ i => simp at ax
     ·rw [ai]; exact ⟨v, U, rfl⟩
    ·unfold fH
     split
     ·rename_i ak
      exact ⟨ar.nothing ak (aD.cl ay), ak⟩
     ·rename_i ak
      refine ⟨?_, rfl⟩
      rw [ar]
      intro d ab ak
      simp only [j.sub, Option.some.injEq] at ab
      subst ab
      have aG : (s ay).tree = true := by
       cases R : s ay <;> first | rfl | (rw [R] at ak; simp [j.plain] at ak)
      exact ⟨_, none, rfl, rfl, ((ar.bE aG).1 (aD.cl ay)).1⟩
   refine ⟨?_, ?_⟩
   ·rw [cx]; exact ⟨_, _, rfl, bP.1, ih.1⟩
   ·simp only [j.dr, bP.2, ih.2, Bool.and_self]
theorem F6 (aM : C.c3) {id : Nat} {ops : Array Oper} {T : TypeId} {k k0 d0 : Nat} {m rest : List bm} {args : List aq} {d1 : Option Nat} {g : FuncId} {cs : List Nat} {b : Nat} {ty : TypeId} {fr : Nat × Nat} {K : ad → Prop}
  (mg : kP n ops ops.toList = some ((⟨some d0, .cL T (.t k), none⟩ :: (m ++ ⟨d1, .call (.t d0) args, none⟩ :: rest) : List bm).map bm.un))
  (kA : (C.T T).flat = true) (hm : ∀ r ∈ m, ∀ d, r.dst = some d → d ≠ d0 ∧ d ∉ cs) (iG : d0 ∉ cs) (vq : cs[k0]? = some k)
  (fB : a.defers = []) (cV : a.tmps.size = n.n) (eR : ∀ i ∈ n.fx, a.tmps.getD i undef = ρ i) (aD : ba w0 F0 X F S s (fun t => a.tmps.getD t undef) w)
  (J : F b) (ah : a.tmps.getD k undef = .pointer (some ⟨b, 0, none⟩)) (rJ : w.heap[b]? = some (.cells #[.func (.func g) #[] (cs.map fun ay => a.tmps.getD ay undef).toArray] ty fr))
  (h : ht C (fin s (some d0) .hole) m fun s1 => ∃ ps r, ps.map (·.a) = args.map (aw s1) ++ cs.map (lz k s1) ∧ (∀ p ∈ ps, p.ok s1) ∧ fA ps = true ∧
   ly C g args.length (args.length + k0) (ps.map (·.d)) r (ps.map (·.o)) ∧ r.res = true ∧ (gS ps = true → r.c6 = true ∧ ∀ p ∈ ps, p.o.c6 = true) ∧ ht C (fin (ft (dc s1 ps) ps) d1 r) rest K)
  (aO : ∀ aj bK ao, K aj → Rel w0 F0 X n ρ aj bK ao → Q .normal bK ao) : (Code.region id ops false).wp C.P Q a w := by
 obtain ⟨hl, mf⟩ := uM mg
 have vr : ∀ (i : Nat) (r : bm), (⟨some d0, .cL T (.t k), none⟩ :: (m ++ ⟨d1, .call (.t d0) args, none⟩ :: rest) : List bm)[i]? = some r → ∃ o, ops[i]? = some o ∧ kO n ops o = some r.un := by
  intro i r ax
  have cK : i < ops.toList.length := by
   rw [hl, List.length_map]
   exact (List.getElem?_eq_some_iff.1 ax).1
  obtain ⟨e4, U, aa⟩ := mf i _ (List.getElem?_eq_getElem cK)
  rw [List.getElem?_map, ax] at U
  simp only [Option.map_some, Option.some.injEq] at U
  exact ⟨_, by rw [← Array.getElem?_toList]; exact List.getElem?_eq_getElem cK, by rw [U]; exact aa⟩
 have vt : ∀ {r : bm} {o : Oper}, r.guard = none → kO n ops o = some r.un → r.dst = o.dst ∧ o.guard = none ∧ mc o.op = r.aV.base ∧ ib n o.dst = true := by
  intro r o aT h
  unfold kO at h
  split at h
  ·rename_i ab
   split at h
   ·rename_i qG ed
    simp only [bm.un, Option.some.injEq, bm.mk.injEq] at h
    obtain ⟨aE, aI, bg⟩ := h
    refine ⟨aE.symm, ?_, aI, ab⟩
    rw [bg, aT] at ed
    cases bq : o.guard with
    | none => rfl
    | some uP =>
      rw [bq] at ed; simp only [qj] at ed; split at ed <;> cases ed
   ·cases h
  ·cases h
 have mD : ops.size = m.length + rest.length + 2 := by
  have : ops.toList.length = ops.size := by simp
  rw [← this, hl]; simp; omega
 have F7 : List.range ops.size = 0 :: ((List.range m.length).map (· + 1) ++ ((m.length + 1) :: (List.range rest.length).map (· + (m.length + 2)))) := by
  rw [mD, show m.length + rest.length + 2 = (m.length + rest.length + 1) + 1 from rfl, List.range_succ_eq_map]
  congr 1
  rw [show m.length + rest.length + 1 = m.length + (rest.length + 1) by omega, List.range_add, List.map_append, List.range_succ_eq_map]
  simp only [List.map_map, List.map_cons, Nat.add_zero]
  congr 1
  congr 1
  apply List.map_congr_left
  intro x _; simp; omega
 obtain ⟨mE, F8, gT⟩ := vr 0 _ rfl
 obtain ⟨fp, eN, gz, fZ⟩ := vt rfl gT
 change mc mE.op = .cL T (.t k) at gz
 have qH : cb mE.op = some (.cL T (.t k)) := by
  rcases kR gz with h | h
  ·cases h
  ·exact h
 obtain ⟨y, a8, F9⟩ := F3 qH
 have := F4 F9; subst this
 let kT : Value := .func (.func g) #[] (cs.map fun ay => a.tmps.getD ay undef).toArray
 have gi : e0 w b 0 [kT] := by
  intro i c ax
  cases i with
  | zero => simp at ax; subst ax; simp [World.cell?, rJ, kT]
  | succ i => simp at ax
 refine wp_region ?_
 rw [F7]
 simp only [wpOps, F8]
 show (if Region.wanted mE (yielded ops a.tmps) = true then mE.wp C.P a w _ Q ∨ (mE.asks C.P a w ∧ LetsOut Q) else _)
 rw [if_pos (uN eN)]
 left
 have np : (execOp a.eval mE).run C.P w = .ok (.value kT) w := by
  obtain ⟨dst, op, ty, pos, after, guard⟩ := mE
  simp only at a8
  subst a8
  have : a.eval (.tmp k) = .pointer (some ⟨b, 0, none⟩) := ah
  simp [execOp, this, Instr.loadAt, Instr.sureAddr, wU aM kA gi]
 unfold Oper.wp
 rw [np, Oper.upon_value]
 have F_ : some d0 = mE.dst := fp
 rw [← F_] at fZ ⊢
 let a7 : Act := a.put (some d0) kT
 let jR : Fr := ⟨n.n, d0 :: k :: (cs ++ n.fx)⟩
 let ρ1 : Nat → Value := fun t => a7.tmps.getD t undef
 have ss : k ∈ cs := List.mem_of_getElem? vq
 have nf := aD.base
 have vu : Rel w F (fun b => ∃ u, S u b) ⟨n.n, []⟩ ρ1 (fin s (some d0) .hole) a7 w :=
  Rel.put (n := ⟨n.n, []⟩) fB cV (fun i ax => by cases ax) nf (.inl ⟨rfl, by rw [ar]; trivial⟩) (by
   simp only [ib, Bool.and_eq_true, decide_eq_true_eq] at fZ ⊢
   exact ⟨fZ.1, by simp⟩)
 have Ga : Rel w F (fun b => ∃ u, S u b) jR ρ1 (fin s (some d0) .hole) a7 w := ⟨vu.defers, vu.size, fun i _ => rfl, vu.rel⟩
 have zI : ∀ t, t ≠ d0 → ρ1 t = a.tmps.getD t undef := by
  intro t aG
  have := congrFun (uH (n := n) (dst := some d0) (a := a) kT cV fZ).1 t
  simp only [mX] at this
  rw [gw _ _ aG] at this
  exact this
 have Gb : ρ1 d0 = kT := by
  have := congrFun (uH (n := n) (dst := some d0) (a := a) kT cV fZ).1 d0
  simp only [mX] at this
  rw [jt] at this
  exact this
 have hw := zG C _ m [⟨some d0, .cL T (.t k), none⟩] (⟨d1, .call (.t d0) args, none⟩ :: rest) _ h
 have mid : ∀ aj bK ao, (∃ ps r, ps.map (·.a) = args.map (aw aj) ++ cs.map (lz k aj) ∧ (∀ p ∈ ps, p.ok aj) ∧ fA ps = true ∧
   ly C g args.length (args.length + k0) (ps.map (·.d)) r (ps.map (·.o)) ∧ r.res = true ∧ (gS ps = true → r.c6 = true ∧ ∀ p ∈ ps, p.o.c6 = true) ∧ ht C (fin (ft (dc aj ps) ps) d1 r) rest K) →
   Rel w F (fun b => ∃ u, S u b) jR ρ1 aj bK ao → wpOps C.P ops Q ((m.length + 1) :: (List.range rest.length).map (· + (m.length + 2))) bK ao := by
  rintro s2 a2 il ⟨ps, r, aE, aI, bg, bX, b0, bh, bc⟩ ⟨g1, g2, g3, qi, cj, g4⟩
  obtain ⟨o9, Gc, n4⟩ := vr (m.length + 1) ⟨d1, .call (.t d0) args, none⟩ (by simp)
  obtain ⟨dF, er, e_, w7⟩ := vt rfl n4
  simp only [wpOps, Gc]
  show (if Region.wanted o9 (yielded ops a2.tmps) = true then o9.wp C.P a2 il _ Q ∨ (o9.asks C.P a2 il ∧ LetsOut Q) else _)
  rw [if_pos (uN er)]
  left
  change mc o9.op = .call (.t d0) args at e_
  have Gd : cb o9.op = some (.call (.t d0) args) := by
   rcases kR e_ with h | h
   ·cases h
   ·exact h
  have zJ : qi b := g4.eF b J
  have zK : il.heap[b]? = some (.cells #[kT] ty fr) := by
   rw [g4.old b (aD.dg b J) (fun ⟨u, hu⟩ => aD.dz u b hu J)]; exact rJ
  have zL : ∀ ay ∈ cs, a2.tmps.getD ay undef = a.tmps.getD ay undef := by
   intro ay bP
   rw [g3 ay (by simp [jR, bP])]
   exact zI ay (fun e => iG (e ▸ bP))
  have lW : a2.tmps.getD k undef = .pointer (some ⟨b, 0, none⟩) := (zL k ss).trans ah
  have zM : (cs.map fun ay => a.tmps.getD ay undef) = cs.map fun ay => a2.tmps.getD ay undef := List.map_congr_left fun ay bP => (zL ay bP).symm
  obtain ⟨bA, bG⟩ := F5 (k := k) g4 lW zJ zK rfl cs
  have ua : ∀ aj bK ao, ht C aj rest K → Rel w F (fun b => ∃ u, S u b) ⟨n.n, n.fx⟩ ρ aj bK ao → wpOps C.P ops Q ((List.range rest.length).map (· + (m.length + 2))) bK ao := by
   intro ee a3 Ge au Gf
   have r_ := zG C K rest ((⟨some d0, .cL T (.t k), none⟩ :: m) ++ [⟨d1, .call (.t d0) args, none⟩]) [] ee au
   have := uO (Q := Q) aM (ops := ops) (ros := ((⟨some d0, .cL T (.t k), none⟩ :: m) ++ [⟨d1, .call (.t d0) args, none⟩]) ++ (rest ++ [])) (l2 := []) (K := K) (fun aj bK ao hJ cO => by
     obtain ⟨qI, z2, z3, Gg, xg, z4⟩ := cO
     exact aO aj bK ao hJ ⟨qI, z2, z3, Gg, xg, aD.FY z4⟩) ((List.range rest.length).map (· + (m.length + 2))) (fun i ax => by
      have qv : ((⟨some d0, .cL T (.t k), none⟩ :: m) ++ [⟨d1, .call (.t d0) args, none⟩]) ++ (rest ++ []) = (⟨some d0, .cL T (.t k), none⟩ :: (m ++ ⟨d1, .call (.t d0) args, none⟩ :: rest) : List bm) := by simp
      rw [qv]
      refine ⟨fun hG => ?_, fun o bq => ?_⟩
      ·rw [List.getElem?_eq_none_iff]
       have := Array.getElem?_eq_none_iff.1 hG
       simp; omega
      ·obtain ⟨bt, eK, aa⟩ := mf i o (by simpa using bq)
       obtain ⟨r, U, rfl⟩ : ∃ r, (⟨some d0, .cL T (.t k), none⟩ :: (m ++ ⟨d1, .call (.t d0) args, none⟩ :: rest) : List bm)[i]? = some r ∧ r.un = bt := by
        rw [List.getElem?_map, Option.map_eq_some_iff] at eK; exact eK
       exact ⟨r, U, aa⟩) ee a3 Ge (by
      have e : ((⟨some d0, .cL T (.t k), none⟩ :: m) ++ [⟨d1, .call (.t d0) args, none⟩] : List bm).length = m.length + 2 := by simp
      rw [e] at r_; exact r_) Gf
   rwa [List.append_nil] at this
  have Gh : ∀ i ∈ n.fx, a2.tmps.getD i undef = ρ i := by
   intro i ax
   rw [g3 i (by simp [jR, ax]), zI i (fun e => ?_)]
   ·exact eR i ax
   ·simp only [ib, Bool.and_eq_true, Bool.not_eq_true', List.contains_eq_mem, decide_eq_false_iff_not] at fZ
    exact fZ.2 (e ▸ ax)
  have zH : k0 < cs.length := (List.getElem?_eq_some_iff.1 vq).1
  have Gi : o9.dst = d1 := dF.symm
  exact FZ (n := n) (ρ := ρ) (K := fun aj => ht C aj rest K) g1 g2 Gh g4 Gd w7
   (arr := (cs.map fun ay => a2.tmps.getD ay undef).toArray) (k := k0) (caps := cs.map (lz k s2)) (g := g) (ps := ps) (r := r)
   (by rw [g3 d0 (by simp [jR]), Gb]; simp only [kT, zM]) (by simpa using bA) bG
   ⟨b, ty, fr, by
     rw [List.getD_eq_getElem?_getD, List.getElem?_map, vq]; exact lW, by rw [zK]; simp only [kT, zM], zJ⟩ (by simpa using zH)
   aE aI bg bX b0 bh (by rw [Gi]; exact bc) ua
 have := uO (Q := Q) aM (ops := ops) (ros := [⟨some d0, .cL T (.t k), none⟩] ++ (m ++ ⟨d1, .call (.t d0) args, none⟩ :: rest)) (l2 := (m.length + 1) :: (List.range rest.length).map (· + (m.length + 2))) mid
  ((List.range m.length).map (· + 1)) (fun i ax => by
    obtain ⟨ay, bP, rfl⟩ := List.mem_map.1 ax
    have qJ : ay < m.length := List.mem_range.1 bP
    refine ⟨fun hG => ?_, fun o bq => ?_⟩
    ·have := Array.getElem?_eq_none_iff.1 hG
     omega
    ·obtain ⟨i9, qy, en⟩ := vr (ay + 1) m[ay] (by
      simp only [List.getElem?_cons_succ]
      rw [List.getElem?_append_left qJ, List.getElem?_eq_getElem qJ])
     have heq : i9 = o := by rw [qy] at bq; exact Option.some.inj bq
     subst heq
     refine ⟨m[ay], by
      simp only [List.singleton_append, List.getElem?_cons_succ]
      rw [List.getElem?_append_left qJ, List.getElem?_eq_getElem qJ], ?_⟩
     have Gj := hm m[ay] (List.getElem_mem qJ)
     unfold kO at en ⊢
     split at en
     ·rename_i ab
      rw [if_pos]
      ·exact en
      ·cases zN : i9.dst with
       | none => rfl
       | some d =>
         rw [zN] at ab
         simp only [ib, Bool.and_eq_true, decide_eq_true_eq, Bool.not_eq_true', List.contains_eq_mem, decide_eq_false_iff_not] at ab ⊢
         refine ⟨ab.1, ?_⟩
         have r6 : m[ay].dst = some d := by
          split at en
          ·simp only [bm.un, Option.some.injEq, bm.mk.injEq] at en
           rw [← en.1, zN]
          ·cases en
         obtain ⟨dY, e3⟩ := Gj d r6
         simp only [jR, List.mem_cons, List.mem_append, not_or]
         exact ⟨dY, fun e => e3 (e ▸ ss), e3, ab.2⟩
     ·cases en) (fin s (some d0) .hole) a7 w (by simpa using hw) Ga
 exact this
def Gk (C : bp) (f : FuncId) (k k0 : Nat) (cs : List Nat) (args : List aq) (d1 : Option Nat) (rest : List bm) (keep : List Nat) (P : List (Nat × j) → Prop) (s1 : ad) : Prop :=
 ∃ ps r, ps.map (·.a) = args.map (aw s1) ++ cs.map (lz k s1) ∧ (∀ p ∈ ps, p.ok s1) ∧ fA ps = true ∧
   ly C f args.length (args.length + k0) (ps.map (·.d)) r (ps.map (·.o)) ∧ r.res = true ∧ (gS ps = true → r.c6 = true ∧ ∀ p ∈ ps, p.o.c6 = true) ∧
   bF C (fin (ft (dc s1 ps) ps) d1 r) rest none (fun _ s => P (fT keep s))
def Gl (C : bp) (f : FuncId) (k k0 d0 : Nat) (cs : List Nat) (m : List bm) (args : List aq) (d1 : Option Nat) (rest : List bm) (keep : List Nat) (P : List (Nat × j) → Prop) (s : ad) : Prop :=
 bF C (fin s (some d0) .hole) m none fun _ s1 => Gk C f k k0 cs args d1 rest keep P s1
def Gm (C : bp) (f : FuncId) (k k0 d0 : Nat) (cs : List Nat) (m : List bm) (args : List aq) (d1 : Option Nat) (rest : List bm) (keep : List Nat) (K : ad → Prop) (s : ad) : Prop :=
 Gl C f k k0 d0 cs m args d1 rest keep (fun l => K (I l)) s
def zO (f : Nat → Bool) (m : List bm) : Bool := m.all fun r => match r.dst with
 | none => true
 | some d => f d
theorem Gn {f : Nat → Bool} {m : List bm} (h : zO f m = true) : ∀ r ∈ m, ∀ d, r.dst = some d → f d = true := by
 intro r aD d ab
 have := List.all_eq_true.1 h r aD
 rw [ab] at this; exact this
theorem Gp (k : List Nat) (s : ad) : qt s (fT k s) := by
 intro p ak
 obtain ⟨t, _, rfl⟩ := List.mem_map.1 ak
 exact .inl rfl
def Gq (C : bp) (f : FuncId) (k k0 d0 : Nat) (cs : List Nat) (m : List bm) (args : List aq) (d1 : Option Nat) (rest : List bm) (keep : List Nat) : (Exit → ad → Prop) → ad → Prop :=
 fun Q s => Gm C f k k0 d0 cs m args d1 rest keep (Q .normal) s
def Gr (T : TypeId) (k d0 : Nat) (m : List bm) (args : List aq) (d1 : Option Nat) (rest : List bm) : ae :=
 .aA (⟨some d0, .cL T (.t k), none⟩ :: (m ++ ⟨d1, .call (.t d0) args, none⟩ :: rest)) none
theorem Gs (vs : List Value) : ∀ (m n : Nat), m + n = vs.length → vs.drop m = ((List.range n).map (· + m)).map fun ay => vs.getD ay undef := by
 intro m n h
 apply List.ext_getElem?
 intro i
 rw [List.getElem?_drop, List.map_map, List.getElem?_map]
 by_cases ax : i < n
 ·rw [List.getElem?_range ax, List.getElem?_eq_getElem (by omega)]
  simp only [Option.map_some, Function.comp]
  rw [List.getD_eq_getElem?_getD, List.getElem?_eq_getElem (by omega)]
  simp only [Option.getD_some, Option.some.injEq]
  congr 1; omega
 ·rw [List.getElem?_eq_none (by omega), List.getElem?_eq_none (by simp; omega)]; rfl
theorem Gt {c : Code} {rs : List bm} (h : cC n c = some (.aA rs none)) : ∃ id ops, c = .region id ops false ∧ kP n ops ops.toList = some rs := by
 cases c with
 | region id ops draw =>
   cases draw with
   | false =>
     simp only [cC, Option.map_eq_some_iff] at h
     obtain ⟨r, U, aa⟩ := h
     cases aa
     exact ⟨id, ops, rfl, U⟩
   | true =>
     simp only [cC] at h
     split at h
     ·simp only [Option.map_eq_some_iff] at h
      obtain ⟨r, U, aa⟩ := h
      cases aa
     ·cases h
 | seq a b => simp only [cC] at h; split at h <;> cases h
 | cond c a b => simp only [cC] at h; split at h <;> cases h
 | block id b => simp only [cC, Option.map_eq_some_iff] at h; obtain ⟨r, U, aa⟩ := h; cases aa
 | loop b => simp only [cC, Option.map_eq_some_iff] at h; obtain ⟨r, U, aa⟩ := h; cases aa
 | _ => simp [cC] at h
def vv (C : bp) (f : FuncId) (fx : List Nat) (Gu m k : Nat) (T : (Exit → ad → Prop) → ad → Prop) (b : ae) : Prop :=
 ∃ (ty : TypeId) (k0 d0 je : Nat) (fa : List bm) (args : List aq) (d1 : Option Nat) (rest : List bm) (keep : List Nat),
   T = Gq C f k k0 d0 ((List.range je).map (· + m)) fa args d1 rest keep ∧ b = Gr ty k d0 fa args d1 rest ∧ (C.T ty).flat = true ∧ zO (fun d => d != d0 && decide (m + je ≤ d)) fa = true ∧ decide (m + je ≤ d0) = true ∧
   decide (k0 < je) = true ∧ k = m + k0 ∧ ((List.range je).all fun ay => fx.contains (m + ay)) = true ∧ args.length = m ∧ m + je = Gu
theorem ly.of_wp (aM : C.c3) {f : FuncId} {fn : Func} {c : Code} {dd : ae} {fx : List Nat} {as outs : List j} {r : j} {k m : Nat} (bo : C.P.funcs[f]? = some fn) (J : fn.body = some c)
  (ie : (fn.name == "runtime.NumGoroutine") = false) (R : cC ⟨fn.ntmps, fx⟩ c = some dd.strip) (aO : as.length ≤ fn.ntmps)
  (ah : dd.kS (vv C f fx as.length m k))
  (h : ∀ Q : Exit → ad → Prop, (∀ s, dS (Ends C fx fn.results.toList r outs) s → Q .ret s) → (∀ s, dS (Ends C fx fn.results.toList r outs) s → Q .normal s) → cg C dd Q (I (num 0 as))) : ly C f m k as r outs := by
 rintro w F X S vs hl ⟨b, Gv, fr, aE, aI, bg, bX⟩ aD
 refine yz (fx := fx) aM bo J ie aO hl aD fun a lo cN => ?_
 refine yw aM (H := vv C f fx as.length m k) ?_ c (by rw [ae.yn]; exact R) (ae.yo dd ah) (yu dd ?_) lo
 ·rintro c T dk Q s a7 iS ⟨ty, k0, d0, je, fa, args, d1, rest, keep, rfl, rfl, kA, hm, iG, su, ah, eR, hlen, Ov⟩ qH Gw ⟨g1, g2, g3, ow, bf, g4⟩
  replace hm : ∀ r ∈ fa, ∀ d, r.dst = some d → d ≠ d0 ∧ m + je ≤ d := fun r aD d ab => by
   have := Gn hm r aD d ab
   simpa using this
  replace iG := of_decide_eq_true iG
  replace su := of_decide_eq_true su
  replace eR : ∀ ay, ay < je → m + ay ∈ fx := fun ay bP => by
   have := List.all_eq_true.1 eR ay (List.mem_range.2 bP)
   simpa using this
  obtain ⟨id, ops, rfl, mg⟩ := Gt qH
  have zP : ∀ ay, ay < je → a7.tmps.getD (ay + m) undef = vs.getD (ay + m) undef := fun ay bP => by
   rw [Nat.add_comm]; exact g3 _ (eR ay bP)
  have fY : ((List.range je).map (· + m)).map (fun ay => a7.tmps.getD ay undef) = vs.drop m := by
   rw [Gs vs m je (by omega), List.map_map, List.map_map]
   apply List.map_congr_left
   intro ay bP
   exact zP ay (List.mem_range.1 bP)
  refine F6 (Q := oC w F X ⟨fn.ntmps, fx⟩ (eQ vs) Q) (K := dS (Q .normal)) (b := b) (ty := Gv) (fr := fr) (g := f) (k0 := k0) (cs := (List.range je).map (· + m)) aM mg kA (fun r aD d ab => ⟨(hm r aD d ab).1, fun vw => ?_⟩) (fun vw => ?_) ?_ g1 g2 g3 g4 (g4.eF b bg) ?_ ?_ ?_ (fun aj bK ao ah cO => cO.dS ah)
  ·obtain ⟨ay, bP, rfl⟩ := List.mem_map.1 vw
   have := (hm r aD _ ab).2; have := List.mem_range.1 bP; omega
  ·obtain ⟨ay, bP, e⟩ := List.mem_map.1 vw
   have := List.mem_range.1 bP; omega
  ·rw [List.getElem?_map, List.getElem?_range su, ah]; simp [Nat.add_comm]
  ·rw [ah, Nat.add_comm, zP k0 su, Nat.add_comm, ← ah]; exact aE
  ·rw [fY, g4.old b (aD.dg b bg) bX]; exact aI
  ·refine sa (fun _ s1 => ?_) Gw
   rintro ⟨ps, r, fp, eN, gz, fZ, lY, nq, qm⟩
   exact ⟨ps, r, fp, eN, gz, fZ, lY, nq, sa (fun _ s h => .inr ⟨_, Gp _ _, h⟩) qm⟩
 ·rw [yB]
  exact h _ (fun s h => ⟨.inr rfl, h⟩) (fun s h => ⟨.inl rfl, h⟩)
end
end Go.b7
