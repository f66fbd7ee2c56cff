/- Part of a proof that a law returns true for every input. No condition. -/
import Derived.Test.YtbemmmimelklkaaGreatFwI
namespace Go.c5
def lW (C : cw) (f : FuncId) (m k : Nat) (as : List I) (r : I) (outs : List I) : Prop :=
 ∀ (w : World) (F X : Nat → Prop) (S : Nat → Nat → Prop) (vs : List Value), vs.length = as.length →
   (∃ b ty fr, vs.getD k undef = .pointer (some ⟨b, 0, none⟩) ∧ w.heap[b]? = some (.cells #[.func (.func f) #[] (vs.drop m).toArray] ty fr) ∧ F b ∧ ¬ X b) →
   bZ w F X F S (gC as) (hL vs) w →
   om C.P f vs.toArray w fun v aP => ∃ b9 a7, bZ w F X b9 a7 (gC (r :: outs)) (hL (v :: vs)) aP
section
variable {C : cw} {w0 w : World} {F0 X F b9 : Nat → Prop} {S a7 : Nat → Nat → Prop} {n : Fr} {ρ : Nat → Value} {s az : ax} {aF ia : Nat → Value} {a : Act} {av : I} {Q : Exit → Act → World → Prop} {aP : World}
theorem bZ.base (h : bZ w0 F0 X F S s aF w) : bZ w F (fun b => ∃ u, S u b) F S s aF w where
 hv := fun _ h => h
 hQ := fun _ h => .inl h
 gh := h.gh
 fc := h.fc
 gr := h.gr
 gi := h.gi
 ek := fun u b ad => .inl ⟨u, ad⟩
 ee := h.ee
 old := fun _ _ _ => rfl
 size := Nat.le_refl _
 os := rfl
 tape := rfl
 output := rfl
theorem bZ.Tq (h : bZ w0 F0 X F S s aF w) (bM : bZ w F (fun b => ∃ u, S u b) b9 a7 az ia aP) : bZ w0 F0 X b9 a7 az ia aP where
 hv := fun b ad => bM.hv b (h.hv b ad)
 hQ := fun b ad => by
  rcases bM.hQ b ad with ad | ⟨u, ad⟩ | ad
  ·exact h.hQ b ad
  ·exact .inr (h.ek u b ad)
  ·exact .inr (.inr (Nat.le_trans h.size ad))
 gh := bM.gh
 fc := bM.fc
 gr := bM.gr
 gi := bM.gi
 ek := fun u b ad => by
  rcases bM.ek u b ad with ⟨u, ad⟩ | ad
  ·exact h.ek u b ad
  ·exact .inr (Nat.le_trans h.size ad)
 ee := bM.ee
 old := fun b ad ki => by
  refine (bM.old b (Nat.lt_of_lt_of_le ad h.size) fun ⟨u, hu⟩ => ?_).trans (h.old b ad ki)
  rcases h.ek u b hu with aq | aq
  ·exact ki aq
  ·omega
 size := Nat.le_trans h.size bM.size
 os := bM.os.trans h.os
 tape := bM.tape.trans h.tape
 output := bM.output.trans h.output
theorem KS (C : cw) (K : ax → Prop) : ∀ (rs pre post : List cO) (s : ax), la C s rs K → jM C (pre ++ (rs ++ post)) s ((List.range rs.length).map (· + pre.length)) K := by
 intro rs
 induction rs with
 | nil => intro pre post s h; exact h
 | cons r rs ih =>
   intro pre post s h
   rw [List.length_cons, List.range_succ_eq_map, List.map_cons, List.map_map]
   simp only [jM, Nat.zero_add]
   rw [List.getElem?_append_right (Nat.le_refl _)]
   simp only [Nat.sub_self, List.cons_append, List.getElem?_cons_zero]
   have key : ∀ s1, la C s1 rs K → jM C (pre ++ r :: (rs ++ post)) s1 ((List.range rs.length).map ((fun x => x + pre.length) ∘ Nat.succ)) K := by
    intro s1 af
    have := ih (pre ++ [r]) post s1 af
    simp only [List.append_assoc, List.singleton_append, List.length_append, List.length_singleton] at this
    have e : ((fun x => x + pre.length) ∘ Nat.succ) = fun x => x + (pre.length + 1) := by funext x; simp; omega
    rw [e]; exact this
   simp only [la] at h
   exact Fh h key
theorem Tr (jN : a.defers = []) (eV : a.tmps.size = n.n) (iu : ∀ i ∈ n.fx, a.tmps.getD i undef = ρ i) (bb : bZ w0 F0 X F S s (fun t => a.tmps.getD t undef) w)
  {o : Oper} {d0 k : Nat} {args : List aH} {g : FuncId} {caps : List I} {arr : Array Value} {ps : List cR} {r : I} (cX : dr o.op = some (.call (.t d0) args)) (ak : k9 n o.dst = true)
  (aR : a.tmps.getD d0 undef = .func (.func g) #[] arr) (ay : e2 w F s (fun t => a.tmps.getD t undef) caps arr.toList) (gm : I.dO caps = true)
  (Ts : ∃ b ty fr, (arr.toList).getD k undef = .pointer (some ⟨b, 0, none⟩) ∧ w.heap[b]? = some (.cells #[.func (.func g) #[] arr] ty fr) ∧ F b) (KT : k < arr.size)
  (ai : ps.map (·.a) = args.map (aV s) ++ caps) (aN : ∀ p ∈ ps, p.ok s) (bk : ig ps = true) (cc : lW C g args.length (args.length + k) (ps.map (·.d)) r (ps.map (·.o))) (cF : r.res = true)
  (ct : jL ps = true → r.c4 = true ∧ ∀ p ∈ ps, p.o.c4 = true) {K : ax → Prop} {next : Act → World → Prop} (fC : K (fin (hK (fk s ps) ps) o.dst r))
  (bl : ∀ az cY aP, K az → Rel w0 F0 X n ρ az cY aP → next cY aP) : o.wp C.P a w next Q := by
 obtain ⟨dst, op, ty, pos, after, guard⟩ := o
 simp only at cX ak fC
 cases op with
 | call c =>
   obtain ⟨callee, mn, argTypes⟩ := c
   simp only [dr] at cX
   split at cX
   ·split at cX
    ·rename_i xc _ _ RD xs bJ oj
     simp only [Option.some.injEq, gj.call.injEq] at cX
     obtain ⟨rfl, rfl⟩ := cX
     have Tt : xc = .tmp d0 := by
      cases xc with
      | tmp t => simp only [ef, Option.some.injEq, aH.t.injEq] at bJ; rw [bJ]
      | const v => simp only [ef, Option.map_eq_some_iff] at bJ; obtain ⟨c, _, bJ⟩ := bJ; cases bJ
      | func g => simp [ef] at bJ
      | global g => simp [ef] at bJ
     subst Tt
     have sm : execOp a.eval { dst, op := .call { callee := .value (.tmp d0), args := mn, argTypes }, type := ty, pos, after, guard } = callFunc g ((mn.toList.map a.eval ++ arr.toList).toArray) := by
      have : a.eval (.tmp d0) = .func (.func g) #[] arr := aR
      simp only [execOp, resolve, this, Deferred.ofValue, pure_bind, invoke]
      congr 1
      apply Array.ext'; simp
     unfold Oper.wp
     rw [sm]
     have hlen : (mn.toList.map a.eval).length = xs.length := by
      have := congrArg List.length (sb oj)
      simpa using this
     have xd : e2 w F s (fun t => a.tmps.getD t undef) (xs.map (aV s) ++ caps) (mn.toList.map a.eval ++ arr.toList) := Jm (Ab bb (fun _ => rfl) _ _ (sb oj)) ay
     rw [← ai] at xd
     obtain ⟨hS, l2⟩ := Jn xd
     have gz : ∀ d ∈ xs.map (aV s) ++ caps, d.plain = true := by
      intro d ak
      rcases List.mem_append.1 ak with ak | ak
      ·obtain ⟨x, aq, rfl⟩ := List.mem_map.1 ak
       exact H7 s x fun av e => by
        subst e
        have hm := sb oj
        have : some (aH.c av) ∈ xs.map some := List.mem_map.2 ⟨_, aq, rfl⟩
        rw [← hm] at this
        obtain ⟨o, _, cl⟩ := List.mem_map.1 this
        cases o with
        | const v => simp only [ef, Option.map_eq_some_iff] at cl; obtain ⟨c, ay, e⟩ := cl; cases e; exact D_ ay
        | tmp n => simp [ef] at cl
        | func g => simp [ef] at cl
        | global g => simp [ef] at cl
      ·obtain ⟨k, aD⟩ := List.getElem?_of_mem ak
       exact zB gm aD
     have E6 := Jh (C := C) bb (ps := ps) (vs := mn.toList.map a.eval ++ arr.toList) (f := g) (r := r) (by simpa using hS)
      (fun i p v aA aR => ⟨gz p.a (by rw [← ai]; exact List.mem_map.2 ⟨p, List.mem_of_getElem? aA, rfl⟩), l2 i p.a v (by simp [aA]) aR⟩) aN bk
      (fun Fc lT e4 bH ki aA => by
       refine cc w Fc lT e4 _ (by rw [← hS]; simp) ?_ aA
       obtain ⟨b, AL, fr, a1, bh, a8⟩ := Ts
       refine ⟨b, AL, fr, ?_, ?_, bH b a8, fun aq => by obtain ⟨u, hu⟩ := ki b aq; exact bb.gr u b hu a8⟩
       ·rw [List.getD_eq_getElem?_getD, List.getElem?_append_right (by omega), hlen, Nat.add_sub_cancel_left, ← List.getD_eq_getElem?_getD]; exact a1
       ·rw [bh, ← hlen, List.drop_left])
      cF ct
     rcases E6 with ⟨df, ea⟩ | ⟨v, aP, df, b9, a7, ea, gU⟩
     ·rw [df, Oper.upon_enter]
      refine Calls.mono ea ?_
      rintro e aP ⟨v, rfl, b9, a7, cf, cB⟩
      exact bl _ _ _ fC (Rel.put jN eV iu cf cB.1 ak)
     ·rw [df, Oper.upon_value]
      exact bl _ _ _ fC (Rel.put jN eV iu ea gU.1 ak)
    ·cases cX
   ·split at cX
    ·simp only [Option.map_eq_some_iff] at cX; obtain ⟨_, _, cX⟩ := cX; cases cX
    ·cases cX
   ·split at cX
    ·simp only [Option.map_eq_some_iff] at cX; obtain ⟨_, _, cX⟩ := cX; cases cX
    ·cases cX
   iterate 3
    ·split at cX
     ·split at cX <;> cases cX
     ·cases cX
   ·cases cX
 | makeFunc fn first cs =>
   cases fn <;> simp only [dr] at cX <;> first | (cases cX; done) | (split at cX <;> simp at cX)
 | slice T x dn ao hD =>
   cases hD <;> simp only [dr] at cX <;> first | (cases cX; done) | (split at cX <;> simp at cX)
 | _ => simp only [dr] at cX <;> first | (cases cX; done) | (simp at cX; done) | (split at cX <;> simp at cX)
theorem Tu {op : Op} {T : TypeId} {x : aH} (h : dr op = some (.aE T x)) : ∃ y, op = .load T y ∧ ef y = some x := by
 cases op with
 | load xb y =>
   simp only [dr, Option.map_eq_some_iff] at h
   obtain ⟨cQ, aq, h⟩ := h
   cases h
   exact ⟨y, rfl, aq⟩
 | call c =>
   obtain ⟨callee, mn, argTypes⟩ := c
   simp only [dr] at h
   split at h <;> (try split at h) <;> (try split at h) <;> (try simp [Option.map_eq_some_iff] at h)
 | makeFunc fn first cs =>
   cases fn <;> simp only [dr] at h <;> first | (cases h; done) | (split at h <;> simp at h)
 | slice T x dn ao hD =>
   cases hD <;> simp only [dr] at h <;> first | (cases h; done) | (split at h <;> simp at h)
 | _ => simp only [dr] at h <;> first | (cases h; done) | (simp at h; done) | (split at h <;> simp at h)
theorem AM {y : Operand} {k : Nat} (h : ef y = some (.t k)) : y = .tmp k := by
 cases y with
 | tmp t => simp only [ef, Option.some.injEq, aH.t.injEq] at h; rw [h]
 | const v => simp only [ef, Option.map_eq_some_iff] at h; obtain ⟨c, _, h⟩ := h; cases h
 | func g => simp [ef] at h
 | global g => simp [ef] at h
def pt (k : Nat) (s : ax) (j : Nat) : I := if j = k then .ref .hole else i7 j (s j)
theorem Tv {aF : Nat → Value} {b k : Nat} {v : Value} {ty : TypeId} {fr : Nat × Nat} (bb : bZ w0 F0 X F S s aF w) (aD : aF k = .pointer (some ⟨b, 0, none⟩)) (ad : F b) (ay : w.heap[b]? = some (.cells #[v] ty fr)) (af : Value.g5 v = true) :
  ∀ cs : List Nat, e2 w F s aF (cs.map (pt k s)) (cs.map aF) ∧ I.dO (cs.map (pt k s)) = true := by
 intro cs
 induction cs with
 | nil => exact ⟨by rw [List.map_nil, List.map_nil, e2], rfl⟩
 | cons j cs ih =>
   simp only [List.map_cons]
   have b_ : aY w F s aF (pt k s j) (aF j) (fun _ => False) ∧ (pt k s j).plain = true := by
    unfold pt
    split
    ·rename_i e; subst e
     rw [aD]
     refine ⟨(aY.c9 rfl).2 ⟨rfl, ?_⟩, rfl⟩
     rw [aB]
     refine ⟨b, 0, [v], rfl, ad, ?_, ?_⟩
     ·intro i c ao
      cases i with
      | zero => simp at ao; subst ao; simp [World.cell?, ay]
      | succ i => simp at ao
     ·rw [aB]; exact ⟨v, af, rfl⟩
    ·unfold i7
     split
     ·rename_i aA
      exact ⟨aY.nothing aA (bb.ee j), aA⟩
     ·rename_i aA
      refine ⟨?_, rfl⟩
      rw [aY]
      intro d ak aA
      simp only [I.sub, Option.some.injEq] at ak
      subst ak
      have bs : (s j).tree = true := by
       cases ah : s j <;> first | rfl | (rw [ah] at aA; simp [I.plain] at aA)
      exact ⟨_, none, rfl, rfl, ((aY.c9 bs).1 (bb.ee j)).1⟩
   refine ⟨?_, ?_⟩
   ·rw [e2]; exact ⟨_, _, rfl, b_.1, ih.1⟩
   ·simp only [I.dO, b_.2, ih.2, Bool.and_self]
theorem KU (bI : C.Ok) {id : Nat} {ops : Array Oper} {T : TypeId} {k k0 d0 : Nat} {m rest : List cO} {args : List aH} {d1 : Option Nat} {g : FuncId} {cs : List Nat} {b : Nat} {ty : TypeId} {fr : Nat × Nat} {K : ax → Prop}
  (qU : pg n ops ops.toList = some ((⟨some d0, .aE T (.t k), none⟩ :: (m ++ ⟨d1, .call (.t d0) args, none⟩ :: rest) : List cO).map cO.un))
  (kC : (C.T T).flat = true) (hm : ∀ r ∈ m, ∀ d, r.dst = some d → d ≠ d0 ∧ d ∉ cs) (kE : d0 ∉ cs) (u2 : cs[k0]? = some k)
  (jN : a.defers = []) (eV : a.tmps.size = n.n) (iu : ∀ i ∈ n.fx, a.tmps.getD i undef = ρ i) (bb : bZ w0 F0 X F S s (fun t => a.tmps.getD t undef) w)
  (ad : F b) (aD : a.tmps.getD k undef = .pointer (some ⟨b, 0, none⟩)) (zT : w.heap[b]? = some (.cells #[.func (.func g) #[] (cs.map fun j => a.tmps.getD j undef).toArray] ty fr))
  (h : la C (fin s (some d0) .hole) m fun s1 => ∃ ps r, ps.map (·.a) = args.map (aV s1) ++ cs.map (pt k s1) ∧ (∀ p ∈ ps, p.ok s1) ∧ ig ps = true ∧
   lW C g args.length (args.length + k0) (ps.map (·.d)) r (ps.map (·.o)) ∧ r.res = true ∧ (jL ps = true → r.c4 = true ∧ ∀ p ∈ ps, p.o.c4 = true) ∧ la C (fin (hK (fk s1 ps) ps) d1 r) rest K)
  (bl : ∀ az cY aP, K az → Rel w0 F0 X n ρ az cY aP → Q .normal cY aP) : (Code.region id ops false).wp C.P Q a w := by
 obtain ⟨hl, ph⟩ := xf qU
 have FO : ∀ (i : Nat) (r : cO), (⟨some d0, .aE T (.t k), none⟩ :: (m ++ ⟨d1, .call (.t d0) args, none⟩ :: rest) : List cO)[i]? = some r → ∃ o, ops[i]? = some o ∧ pf n ops o = some r.un := by
  intro i r ao
  have fi : i < ops.toList.length := by
   rw [hl, List.length_map]
   exact (List.getElem?_eq_some_iff.1 ao).1
  obtain ⟨j5, af, ai⟩ := ph i _ (List.getElem?_eq_getElem fi)
  rw [List.getElem?_map, ao] at af
  simp only [Option.map_some, Option.some.injEq] at af
  exact ⟨_, by rw [← Array.getElem?_toList]; exact List.getElem?_eq_getElem fi, by rw [af]; exact ai⟩
 have u3 : ∀ {r : cO} {o : Oper}, r.guard = none → pf n ops o = some r.un → r.dst = o.dst ∧ o.guard = none ∧ oq o.op = r.bT.base ∧ k9 n o.dst = true := by
  intro r o cg h
  unfold pf at h
  split at h
  ·rename_i ak
   split at h
   ·rename_i Tw hJ
    simp only [cO.un, Option.some.injEq, cO.mk.injEq] at h
    obtain ⟨a1, bh, a8⟩ := h
    refine ⟨a1.symm, ?_, bh, ak⟩
    rw [a8, cg] at hJ
    cases cl : o.guard with
    | none => rfl
    | some E9 =>
      rw [cl] at hJ; simp only [w_] at hJ; split at hJ <;> cases hJ
   ·cases h
  ·cases h
 have Tx : ops.size = m.length + rest.length + 2 := by
  have : ops.toList.length = ops.size := by simp
  rw [← this, hl]; simp; omega
 have Ty : List.range ops.size = 0 :: ((List.range m.length).map (· + 1) ++ ((m.length + 1) :: (List.range rest.length).map (· + (m.length + 2)))) := by
  rw [Tx, show m.length + rest.length + 2 = (m.length + rest.length + 1) + 1 from rfl, List.range_succ_eq_map]
  congr 1
  rw [show m.length + rest.length + 1 = m.length + (rest.length + 1) by omega, List.range_add, List.map_append, List.range_succ_eq_map]
  simp only [List.map_map, List.map_cons, Nat.add_zero]
  congr 1
  congr 1
  apply List.map_congr_left
  intro x _; simp; omega
 obtain ⟨q7, Tz, kM⟩ := FO 0 _ rfl
 obtain ⟨iN, bw, dP, cj⟩ := u3 rfl kM
 change oq q7.op = .aE T (.t k) at dP
 have xx : dr q7.op = some (.aE T (.t k)) := by
  rcases ot dP with h | h
  ·cases h
  ·exact h
 obtain ⟨y, bD, TA⟩ := Tu xx
 have := AM TA; subst this
 let h2 : Value := .func (.func g) #[] (cs.map fun j => a.tmps.getD j undef).toArray
 have jI : Rd w b 0 [h2] := by
  intro i c ao
  cases i with
  | zero => simp at ao; subst ao; simp [World.cell?, zT, h2]
  | succ i => simp at ao
 refine wp_region ?_
 rw [Ty]
 simp only [wpOps, Tz]
 show (if Region.wanted q7 (yielded ops a.tmps) = true then q7.wp C.P a w _ Q ∨ (q7.asks C.P a w ∧ LetsOut Q) else _)
 rw [if_pos (Ai bw)]
 left
 have sm : (execOp a.eval q7).run C.P w = .ok (.value h2) w := by
  obtain ⟨dst, op, ty, pos, after, guard⟩ := q7
  simp only at bD
  subst bD
  have : a.eval (.tmp k) = .pointer (some ⟨b, 0, none⟩) := aD
  simp [execOp, this, Instr.loadAt, Instr.sureAddr, Ic bI kC jI]
 unfold Oper.wp
 rw [sm, Oper.upon_value]
 have FP : some d0 = q7.dst := iN
 rw [← FP] at cj ⊢
 let U : Act := a.put (some d0) h2
 let m0 : Fr := ⟨n.n, d0 :: k :: (cs ++ n.fx)⟩
 let ρ1 : Nat → Value := fun t => U.tmps.getD t undef
 have AN : k ∈ cs := List.mem_of_getElem? u2
 have pb := bb.base
 have FQ : Rel w F (fun b => ∃ u, S u b) ⟨n.n, []⟩ ρ1 (fin s (some d0) .hole) U w :=
  Rel.put (n := ⟨n.n, []⟩) jN eV (fun i ao => by cases ao) pb (.inl ⟨rfl, by rw [aY]; trivial⟩) (by
   simp only [k9, Bool.and_eq_true, decide_eq_true_eq] at cj ⊢
   exact ⟨cj.1, by simp⟩)
 have TB : Rel w F (fun b => ∃ u, S u b) m0 ρ1 (fin s (some d0) .hole) U w := ⟨FQ.defers, FQ.size, fun i _ => rfl, FQ.rel⟩
 have KV : ∀ t, t ≠ d0 → ρ1 t = a.tmps.getD t undef := by
  intro t bs
  have := congrFun (xa (n := n) (dst := some d0) (a := a) h2 eV cj).1 t
  simp only [n6] at this
  rw [jB _ _ bs] at this
  exact this
 have TC : ρ1 d0 = h2 := by
  have := congrFun (xa (n := n) (dst := some d0) (a := a) h2 eV cj).1 d0
  simp only [n6] at this
  rw [mc] at this
  exact this
 have hw := KS C _ m [⟨some d0, .aE T (.t k), none⟩] (⟨d1, .call (.t d0) args, none⟩ :: rest) _ h
 have mid : ∀ az cY aP, (∃ ps r, ps.map (·.a) = args.map (aV az) ++ cs.map (pt k az) ∧ (∀ p ∈ ps, p.ok az) ∧ ig ps = true ∧
   lW C g args.length (args.length + k0) (ps.map (·.d)) r (ps.map (·.o)) ∧ r.res = true ∧ (jL ps = true → r.c4 = true ∧ ∀ p ∈ ps, p.o.c4 = true) ∧ la C (fin (hK (fk az ps) ps) d1 r) rest K) →
   Rel w F (fun b => ∃ u, S u b) m0 ρ1 az cY aP → wpOps C.P ops Q ((m.length + 1) :: (List.range rest.length).map (· + (m.length + 2))) cY aP := by
  rintro s2 bq hz ⟨ps, r, a1, bh, a8, c6, da, cv, cr⟩ ⟨bo, bR, cJ, w8, et, eE⟩
  obtain ⟨u4, TD, qJ⟩ := FO (m.length + 1) ⟨d1, .call (.t d0) args, none⟩ (by simp)
  obtain ⟨gT, hs, h9, TE⟩ := u3 rfl qJ
  simp only [wpOps, TD]
  show (if Region.wanted u4 (yielded ops bq.tmps) = true then u4.wp C.P bq hz _ Q ∨ (u4.asks C.P bq hz ∧ LetsOut Q) else _)
  rw [if_pos (Ai hs)]
  left
  change oq u4.op = .call (.t d0) args at h9
  have TF : dr u4.op = some (.call (.t d0) args) := by
   rcases ot h9 with h | h
   ·cases h
   ·exact h
  have KW : w8 b := eE.hv b ad
  have KX : hz.heap[b]? = some (.cells #[h2] ty fr) := by
   rw [eE.old b (bb.gh b ad) (fun ⟨u, hu⟩ => bb.gr u b hu ad)]; exact zT
  have KY : ∀ j ∈ cs, bq.tmps.getD j undef = a.tmps.getD j undef := by
   intro j b_
   rw [cJ j (by simp [m0, b_])]
   exact KV j (fun e => kE (e ▸ b_))
  have r0 : bq.tmps.getD k undef = .pointer (some ⟨b, 0, none⟩) := (KY k AN).trans aD
  have KZ : (cs.map fun j => a.tmps.getD j undef) = cs.map fun j => bq.tmps.getD j undef := List.map_congr_left fun j b_ => (KY j b_).symm
  obtain ⟨cH, cI⟩ := Tv (k := k) eE r0 KW KX rfl cs
  have Ey : ∀ az cY aP, la C az rest K → Rel w F (fun b => ∃ u, S u b) ⟨n.n, n.fx⟩ ρ az cY aP → wpOps C.P ops Q ((List.range rest.length).map (· + (m.length + 2))) cY aP := by
   intro e9 a3 m2 aN AO
   have Ar := KS C K rest ((⟨some d0, .aE T (.t k), none⟩ :: m) ++ [⟨d1, .call (.t d0) args, none⟩]) [] e9 aN
   have := E8 (Q := Q) bI (ops := ops) (ros := ((⟨some d0, .aE T (.t k), none⟩ :: m) ++ [⟨d1, .call (.t d0) args, none⟩]) ++ (rest ++ [])) (l2 := []) (K := K) (fun az cY aP jo fj => by
     obtain ⟨sD, sE, z3, TG, Iv, z4⟩ := fj
     exact bl az cY aP jo ⟨sD, sE, z3, TG, Iv, bb.Tq z4⟩) ((List.range rest.length).map (· + (m.length + 2))) (fun i ao => by
      have xn : ((⟨some d0, .aE T (.t k), none⟩ :: m) ++ [⟨d1, .call (.t d0) args, none⟩]) ++ (rest ++ []) = (⟨some d0, .aE T (.t k), none⟩ :: (m ++ ⟨d1, .call (.t d0) args, none⟩ :: rest) : List cO) := by simp
      rw [xn]
      refine ⟨fun nv => ?_, fun o cl => ?_⟩
      ·rw [List.getElem?_eq_none_iff]
       have := Array.getElem?_eq_none_iff.1 nv
       simp; omega
      ·obtain ⟨an, hE, ai⟩ := ph i o (by simpa using cl)
       obtain ⟨r, af, rfl⟩ : ∃ r, (⟨some d0, .aE T (.t k), none⟩ :: (m ++ ⟨d1, .call (.t d0) args, none⟩ :: rest) : List cO)[i]? = some r ∧ r.un = an := by
        rw [List.getElem?_map, Option.map_eq_some_iff] at hE; exact hE
       exact ⟨r, af, ai⟩) e9 a3 m2 (by
      have e : ((⟨some d0, .aE T (.t k), none⟩ :: m) ++ [⟨d1, .call (.t d0) args, none⟩] : List cO).length = m.length + 2 := by simp
      rw [e] at Ar; exact Ar) AO
   rwa [List.append_nil] at this
  have TH : ∀ i ∈ n.fx, bq.tmps.getD i undef = ρ i := by
   intro i ao
   rw [cJ i (by simp [m0, ao]), KV i (fun e => ?_)]
   ·exact iu i ao
   ·simp only [k9, Bool.and_eq_true, Bool.not_eq_true', List.contains_eq_mem, decide_eq_false_iff_not] at cj
    exact cj.2 (e ▸ ao)
  have KT : k0 < cs.length := (List.getElem?_eq_some_iff.1 u2).1
  have TI : u4.dst = d1 := gT.symm
  exact Tr (n := n) (ρ := ρ) (K := fun az => la C az rest K) bo bR TH eE TF TE
   (arr := (cs.map fun j => bq.tmps.getD j undef).toArray) (k := k0) (caps := cs.map (pt k s2)) (g := g) (ps := ps) (r := r)
   (by rw [cJ d0 (by simp [m0]), TC]; simp only [h2, KZ]) (by simpa using cH) cI
   ⟨b, ty, fr, by
     rw [List.getD_eq_getElem?_getD, List.getElem?_map, u2]; exact r0, by rw [KX]; simp only [h2, KZ], KW⟩ (by simpa using KT)
   a1 bh a8 c6 da cv (by rw [TI]; exact cr) Ey
 have := E8 (Q := Q) bI (ops := ops) (ros := [⟨some d0, .aE T (.t k), none⟩] ++ (m ++ ⟨d1, .call (.t d0) args, none⟩ :: rest)) (l2 := (m.length + 1) :: (List.range rest.length).map (· + (m.length + 2))) mid
  ((List.range m.length).map (· + 1)) (fun i ao => by
    obtain ⟨j, b_, rfl⟩ := List.mem_map.1 ao
    have xy : j < m.length := List.mem_range.1 b_
    refine ⟨fun nv => ?_, fun o cl => ?_⟩
    ·have := Array.getElem?_eq_none_iff.1 nv
     omega
    ·obtain ⟨mW, xr, fs⟩ := FO (j + 1) m[j] (by
      simp only [List.getElem?_cons_succ]
      rw [List.getElem?_append_left xy, List.getElem?_eq_getElem xy])
     have heq : mW = o := by rw [xr] at cl; exact Option.some.inj cl
     subst heq
     refine ⟨m[j], by
      simp only [List.singleton_append, List.getElem?_cons_succ]
      rw [List.getElem?_append_left xy, List.getElem?_eq_getElem xy], ?_⟩
     have TJ := hm m[j] (List.getElem_mem xy)
     unfold pf at fs ⊢
     split at fs
     ·rename_i ak
      rw [if_pos]
      ·exact fs
      ·cases K0 : mW.dst with
       | none => rfl
       | some d =>
         rw [K0] at ak
         simp only [k9, Bool.and_eq_true, decide_eq_true_eq, Bool.not_eq_true', List.contains_eq_mem, decide_eq_false_iff_not] at ak ⊢
         refine ⟨ak.1, ?_⟩
         have Aj : m[j].dst = some d := by
          split at fs
          ·simp only [cO.un, Option.some.injEq, cO.mk.injEq] at fs
           rw [← fs.1, K0]
          ·cases fs
         obtain ⟨fM, gN⟩ := TJ d Aj
         simp only [m0, List.mem_cons, List.mem_append, not_or]
         exact ⟨fM, fun e => gN (e ▸ AN), gN, ak.2⟩
     ·cases fs) (fin s (some d0) .hole) U w (by simpa using hw) TB
 exact this
def K1 (C : cw) (f : FuncId) (k k0 : Nat) (cs : List Nat) (args : List aH) (d1 : Option Nat) (rest : List cO) (keep : List Nat) (P : List (Nat × I) → Prop) (s1 : ax) : Prop :=
 ∃ ps r, ps.map (·.a) = args.map (aV s1) ++ cs.map (pt k s1) ∧ (∀ p ∈ ps, p.ok s1) ∧ ig ps = true ∧
   lW C f args.length (args.length + k0) (ps.map (·.d)) r (ps.map (·.o)) ∧ r.res = true ∧ (jL ps = true → r.c4 = true ∧ ∀ p ∈ ps, p.o.c4 = true) ∧
   cE C (fin (hK (fk s1 ps) ps) d1 r) rest none (fun _ s => P (iP keep s))
def oA (C : cw) (f : FuncId) (k k0 d0 : Nat) (cs : List Nat) (m : List cO) (args : List aH) (d1 : Option Nat) (rest : List cO) (keep : List Nat) (P : List (Nat × I) → Prop) (s : ax) : Prop :=
 cE C (fin s (some d0) .hole) m none fun _ s1 => K1 C f k k0 cs args d1 rest keep P s1
def K2 (C : cw) (f : FuncId) (k k0 d0 : Nat) (cs : List Nat) (m : List cO) (args : List aH) (d1 : Option Nat) (rest : List cO) (keep : List Nat) (K : ax → Prop) (s : ax) : Prop :=
 oA C f k k0 d0 cs m args d1 rest keep (fun l => K (aa l)) s
def FR (f : Nat → Bool) (m : List cO) : Bool := m.all fun r => match r.dst with
 | none => true
 | some d => f d
theorem K3 {f : Nat → Bool} {m : List cO} (h : FR f m = true) : ∀ r ∈ m, ∀ d, r.dst = some d → f d = true := by
 intro r bb d ak
 have := List.all_eq_true.1 h r bb
 rw [ak] at this; exact this
theorem K4 (k : List Nat) (s : ax) : xl s (iP k s) := by
 intro p aA
 obtain ⟨t, _, rfl⟩ := List.mem_map.1 aA
 exact .inl rfl
def FT (C : cw) (f : FuncId) (k k0 d0 : Nat) (cs : List Nat) (m : List cO) (args : List aH) (d1 : Option Nat) (rest : List cO) (keep : List Nat) : (Exit → ax → Prop) → ax → Prop :=
 fun Q s => K2 C f k k0 d0 cs m args d1 rest keep (Q .normal) s
def K5 (T : TypeId) (k d0 : Nat) (m : List cO) (args : List aH) (d1 : Option Nat) (rest : List cO) : J :=
 .R (⟨some d0, .aE T (.t k), none⟩ :: (m ++ ⟨d1, .call (.t d0) args, none⟩ :: rest)) none
theorem TK (vs : List Value) : ∀ (m n : Nat), m + n = vs.length → vs.drop m = ((List.range n).map (· + m)).map fun j => vs.getD j undef := by
 intro m n h
 apply List.ext_getElem?
 intro i
 rw [List.getElem?_drop, List.map_map, List.getElem?_map]
 by_cases ao : i < n
 ·rw [List.getElem?_range ao, List.getElem?_eq_getElem (by omega)]
  simp only [Option.map_some, Function.comp]
  rw [List.getD_eq_getElem?_getD, List.getElem?_eq_getElem (by omega)]
  simp only [Option.getD_some, Option.some.injEq]
  congr 1; omega
 ·rw [List.getElem?_eq_none (by omega), List.getElem?_eq_none (by simp; omega)]; rfl
theorem AP {c : Code} {rs : List cO} (h : bG n c = some (.R rs none)) : ∃ id ops, c = .region id ops false ∧ pg n ops ops.toList = some rs := by
 cases c with
 | region id ops draw =>
   cases draw with
   | false =>
     simp only [bG, Option.map_eq_some_iff] at h
     obtain ⟨r, af, ai⟩ := h
     cases ai
     exact ⟨id, ops, rfl, af⟩
   | true =>
     simp only [bG] at h
     split at h
     ·simp only [Option.map_eq_some_iff] at h
      obtain ⟨r, af, ai⟩ := h
      cases ai
     ·cases h
 | seq a b => simp only [bG] at h; split at h <;> cases h
 | cond c a b => simp only [bG] at h; split at h <;> cases h
 | block id b => simp only [bG, Option.map_eq_some_iff] at h; obtain ⟨r, af, ai⟩ := h; cases ai
 | loop b => simp only [bG, Option.map_eq_some_iff] at h; obtain ⟨r, af, ai⟩ := h; cases ai
 | _ => simp [bG] at h
def AQ (C : cw) (f : FuncId) (fx : List Nat) (TL m k : Nat) (T : (Exit → ax → Prop) → ax → Prop) (b : J) : Prop :=
 ∃ (ty : TypeId) (k0 d0 m3 : Nat) (hY : List cO) (args : List aH) (d1 : Option Nat) (rest : List cO) (keep : List Nat),
   T = FT C f k k0 d0 ((List.range m3).map (· + m)) hY args d1 rest keep ∧ b = K5 ty k d0 hY args d1 rest ∧ (C.T ty).flat = true ∧ FR (fun d => d != d0 && decide (m + m3 ≤ d)) hY = true ∧ decide (m + m3 ≤ d0) = true ∧
   decide (k0 < m3) = true ∧ k = m + k0 ∧ ((List.range m3).all fun j => fx.contains (m + j)) = true ∧ args.length = m ∧ m + m3 = TL
theorem lW.of_wp (bI : C.Ok) {f : FuncId} {fn : Func} {c : Code} {dK : J} {fx : List Nat} {as outs : List I} {r : I} {k m : Nat} (bJ : C.P.funcs[f]? = some fn) (ad : fn.body = some c)
  (lb : (fn.name == "runtime.NumGoroutine") = false) (ah : bG ⟨fn.ntmps, fx⟩ c = some dK.strip) (bl : as.length ≤ fn.ntmps)
  (aD : dK.mq (AQ C f fx as.length m k))
  (h : ∀ Q : Exit → ax → Prop, (∀ s, eN (Ends C fx fn.results.toList r outs) s → Q .ret s) → (∀ s, eN (Ends C fx fn.results.toList r outs) s → Q .normal s) → dh C dK Q (aa (num 0 as))) : lW C f m k as r outs := by
 rintro w F X S vs hl ⟨b, TM, fr, a1, bh, a8, c6⟩ bb
 refine Fl (fx := fx) bI bJ ad lb bl hl bb fun a ou eW => ?_
 refine Fk bI (H := AQ C f fx as.length m k) ?_ c (by rw [J.Fg]; exact ah) (J.An dK aD) (Ao dK ?_) ou
 ·rintro c T fV Q s U gk ⟨ty, k0, d0, m3, hY, args, d1, rest, keep, rfl, rfl, kC, hm, kE, AR, aD, iu, hlen, axK⟩ xx TN ⟨bo, bR, cJ, uk, cy, eE⟩
  replace hm : ∀ r ∈ hY, ∀ d, r.dst = some d → d ≠ d0 ∧ m + m3 ≤ d := fun r bb d ak => by
   have := K3 hm r bb d ak
   simpa using this
  replace kE := of_decide_eq_true kE
  replace AR := of_decide_eq_true AR
  replace iu : ∀ j, j < m3 → m + j ∈ fx := fun j b_ => by
   have := List.all_eq_true.1 iu j (List.mem_range.2 b_)
   simpa using this
  obtain ⟨id, ops, rfl, qU⟩ := AP xx
  have K6 : ∀ j, j < m3 → U.tmps.getD (j + m) undef = vs.getD (j + m) undef := fun j b_ => by
   rw [Nat.add_comm]; exact cJ _ (iu j b_)
  have hH : ((List.range m3).map (· + m)).map (fun j => U.tmps.getD j undef) = vs.drop m := by
   rw [TK vs m m3 (by omega), List.map_map, List.map_map]
   apply List.map_congr_left
   intro j b_
   exact K6 j (List.mem_range.1 b_)
  refine KU (Q := so w F X ⟨fn.ntmps, fx⟩ (hL vs) Q) (K := eN (Q .normal)) (b := b) (ty := TM) (fr := fr) (g := f) (k0 := k0) (cs := (List.range m3).map (· + m)) bI qU kC (fun r bb d ak => ⟨(hm r bb d ak).1, fun FU => ?_⟩) (fun FU => ?_) ?_ bo bR cJ eE (eE.hv b a8) ?_ ?_ ?_ (fun az cY aP aD fj => fj.eN aD)
  ·obtain ⟨j, b_, rfl⟩ := List.mem_map.1 FU
   have := (hm r bb _ ak).2; have := List.mem_range.1 b_; omega
  ·obtain ⟨j, b_, e⟩ := List.mem_map.1 FU
   have := List.mem_range.1 b_; omega
  ·rw [List.getElem?_map, List.getElem?_range AR, aD]; simp [Nat.add_comm]
  ·rw [aD, Nat.add_comm, K6 k0 AR, Nat.add_comm, ← aD]; exact a1
  ·rw [hH, eE.old b (bb.gh b a8) c6]; exact bh
  ·refine su (fun _ s1 => ?_) TN
   rintro ⟨ps, r, iN, bw, dP, cj, dV, dX, eM⟩
   exact ⟨ps, r, iN, bw, dP, cj, dV, dX, su (fun _ s h => .inr ⟨_, K4 _ _, h⟩) eM⟩
 ·rw [Fp]
  exact h _ (fun s h => ⟨.inr rfl, h⟩) (fun s h => ⟨.inl rfl, h⟩)
theorem TO {Q : Exit → ax → Prop} {l : List (Nat × I)} {f : FuncId} {k k0 d0 : Nat} {cs : List Nat} {m : List cO} {args : List aH} {d1 : Option Nat} {rest : List cO} {keep : List Nat} {b : J} (ev : List (Nat × I))
  (h : ∀ P : List (Nat × I) → Prop, P ev → oA C f k k0 d0 cs m args d1 rest keep P (aa l)) (aD : Q .normal (aa ev)) : dh C (.iO (FT C f k k0 d0 cs m args d1 rest keep) b) Q (aa l) :=
 fun gK FV => h (fun l => gK .normal (aa l)) (FV _ _ aD)
theorem K7 {l : List (Nat × I)} {f : FuncId} {k k0 : Nat} {cs : List Nat} {args : List aH} {d1 : Option Nat} {rest : List cO} {keep : List Nat} {P : List (Nat × I) → Prop} {r : I} (ps : List cR)
  (cc : lW C f args.length (args.length + k0) (ps.map (·.d)) r (ps.map (·.o))) (ai : ps.map (·.a) = h1 (aa l) args ++ cs.map (pt k (aa l))) (aN : pn (aa l) ps) (bk : ig ps = true)
  (cF : r.res = true) (ct : jL ps = false ∨ (r.c4 && p6 ps) = true)
  (jq : cE C (fin (hK (fk (aa l) ps) ps) d1 r) rest none (fun _ s => P (iP keep s))) : K1 C f k k0 cs args d1 rest keep P (aa l) := by
 refine ⟨ps, r, by rw [ai, uB], AF aN, bk, cc, cF, ?_, jq⟩
 intro hl
 rcases ct with ct | ct
 ·rw [ct] at hl; cases hl
 ·rw [Bool.and_eq_true] at ct; exact ⟨ct.1, AG ct.2⟩
end
end Go.c5
