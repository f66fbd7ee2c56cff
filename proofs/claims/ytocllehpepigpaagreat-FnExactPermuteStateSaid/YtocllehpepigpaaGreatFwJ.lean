/- Part of a proof that a law returns true for every input. No condition. -/
import Derived.Test.YtocllehpepigpaaGreatFwI
namespace Go.dg
def my (C : cE) (f : FuncId) (m k : Nat) (as : List I) (r : I) (outs : List I) : Prop :=
 ∀ (w : World) (F X : Nat → Prop) (S : Nat → Nat → Prop) (vs : List Value), vs.length = as.length →
   (∃ b ty fr, vs.getD k undef = .pointer (some ⟨b, 0, none⟩) ∧ w.heap[b]? = some (.cells #[.func (.func f) #[] (vs.drop m).toArray] ty fr) ∧ F b ∧ ¬ X b) →
   b9 w F X F S (g6 as) (ib vs) w →
   oV C.P f vs.toArray w fun v aO => ∃ b7 aX, b9 w F X b7 aX (g6 (r :: outs)) (ib (v :: vs)) aO
section
variable {C : cE} {w0 w : World} {F0 X F b7 : Nat → Prop} {S aX : Nat → Nat → Prop} {n : Fr} {ρ : Nat → Value} {s aB : ar} {aC iL : Nat → Value} {a : Act} {av : I} {Q : Exit → Act → World → Prop} {aO : World}
theorem b9.base (h : b9 w0 F0 X F S s aC w) : b9 w F (fun b => ∃ u, S u b) F S s aC w where
 hL := fun _ h => h
 hZ := fun _ h => .inl h
 ga := h.ga
 fh := h.fh
 gF := h.gF
 gq := h.gq
 ez := fun u b ad => .inl ⟨u, ad⟩
 eg := h.eg
 old := fun _ _ _ => rfl
 size := Nat.le_refl _
 os := rfl
 tape := rfl
 output := rfl
theorem b9.UG (h : b9 w0 F0 X F S s aC w) (bP : b9 w F (fun b => ∃ u, S u b) b7 aX aB iL aO) : b9 w0 F0 X b7 aX aB iL aO where
 hL := fun b ad => bP.hL b (h.hL b ad)
 hZ := fun b ad => by
  rcases bP.hZ b ad with ad | ⟨u, ad⟩ | ad
  ·exact h.hZ b ad
  ·exact .inr (h.ez u b ad)
  ·exact .inr (.inr (Nat.le_trans h.size ad))
 ga := bP.ga
 fh := bP.fh
 gF := bP.gF
 gq := bP.gq
 ez := fun u b ad => by
  rcases bP.ez u b ad with ⟨u, ad⟩ | ad
  ·exact h.ez u b ad
  ·exact .inr (Nat.le_trans h.size ad)
 eg := bP.eg
 old := fun b ad kS => by
  refine (bP.old b (Nat.lt_of_lt_of_le ad h.size) fun ⟨u, hu⟩ => ?_).trans (h.old b ad kS)
  rcases h.ez u b hu with aq | aq
  ·exact kS aq
  ·omega
 size := Nat.le_trans h.size bP.size
 os := bP.os.trans h.os
 tape := bP.tape.trans h.tape
 output := bP.output.trans h.output
theorem LH (C : cE) (K : ar → Prop) : ∀ (rs pre post : List cm) (s : ar), lN C s rs K → kg C (pre ++ (rs ++ post)) s ((List.range rs.length).map (· + pre.length)) K := by
 intro rs
 induction rs with
 | nil => intro pre post s h; exact h
 | cons r rs ih =>
   intro pre post s h
   rw [List.length_cons, List.range_succ_eq_map, List.map_cons, List.map_map]
   simp only [kg, Nat.zero_add]
   rw [List.getElem?_append_right (Nat.le_refl _)]
   simp only [Nat.sub_self, List.cons_append, List.getElem?_cons_zero]
   have key : ∀ s1, lN C s1 rs K → kg C (pre ++ r :: (rs ++ post)) s1 ((List.range rs.length).map ((fun x => x + pre.length) ∘ Nat.succ)) K := by
    intro s1 ae
    have := ih (pre ++ [r]) post s1 ae
    simp only [List.append_assoc, List.singleton_append, List.length_append, List.length_singleton] at this
    have e : ((fun x => x + pre.length) ∘ Nat.succ) = fun x => x + (pre.length + 1) := by funext x; simp; omega
    rw [e]; exact this
   simp only [lN] at h
   exact FB h key
theorem UH (iY : a.defers = []) (eM : a.tmps.size = n.n) (hU : ∀ i ∈ n.fx, a.tmps.getD i undef = ρ i) (aZ : b9 w0 F0 X F S s (fun t => a.tmps.getD t undef) w)
  {o : Oper} {d0 k : Nat} {args : List aI} {g : FuncId} {caps : List I} {arr : Array Value} {ps : List c5} {r : I} (c6 : dk o.op = some (.call (.t d0) args)) (aj : lL n o.dst = true)
  (aQ : a.tmps.getD d0 undef = .func (.func g) #[] arr) (ax : eL w F s (fun t => a.tmps.getD t undef) caps arr.toList) (gQ : I.ed caps = true)
  (UI : ∃ b ty fr, (arr.toList).getD k undef = .pointer (some ⟨b, 0, none⟩) ∧ w.heap[b]? = some (.cells #[.func (.func g) #[] arr] ty fr) ∧ F b) (LI : k < arr.size)
  (ah : ps.map (·.a) = args.map (aP s) ++ caps) (aH : ∀ p ∈ ps, p.ok s) (a6 : iP ps = true) (bN : my C g args.length (args.length + k) (ps.map (·.d)) r (ps.map (·.o))) (cW : r.res = true)
  (cI : kf ps = true → r.de = true ∧ ∀ p ∈ ps, p.o.de = true) {K : ar → Prop} {next : Act → World → Prop} (fM : K (fin (ia (fB s ps) ps) o.dst r))
  (a_ : ∀ aB da aO, K aB → Rel w0 F0 X n ρ aB da aO → next da aO) : o.wp C.P a w next Q := by
 obtain ⟨dst, op, ty, pos, after, guard⟩ := o
 simp only at c6 aj fM
 cases op with
 | call c =>
   obtain ⟨callee, mS, argTypes⟩ := c
   simp only [dk] at c6
   split at c6
   ·split at c6
    ·rename_i xE _ _ SS xs bF oU
     simp only [Option.some.injEq, gI.call.injEq] at c6
     obtain ⟨rfl, rfl⟩ := c6
     have xb : xE = .tmp d0 := by
      cases xE with
      | tmp t => simp only [ek, Option.some.injEq, aI.t.injEq] at bF; rw [bF]
      | const v => simp only [ek, Option.map_eq_some_iff] at bF; obtain ⟨c, _, bF⟩ := bF; cases bF
      | func g => simp [ek] at bF
      | global g => simp [ek] at bF
     subst xb
     have sK : execOp a.eval { dst, op := .call { callee := .value (.tmp d0), args := mS, argTypes }, type := ty, pos, after, guard } = callFunc g ((mS.toList.map a.eval ++ arr.toList).toArray) := by
      have : a.eval (.tmp d0) = .func (.func g) #[] arr := aQ
      simp only [execOp, resolve, this, Deferred.ofValue, pure_bind, invoke]
      congr 1
      apply Array.ext'; simp
     unfold Oper.wp
     rw [sK]
     have hlen : (mS.toList.map a.eval).length = xs.length := by
      have := congrArg List.length (sD oU)
      simpa using this
     have xF : eL w F s (fun t => a.tmps.getD t undef) (xs.map (aP s) ++ caps) (mS.toList.map a.eval ++ arr.toList) := J6 (Av aZ (fun _ => rfl) _ _ (sD oU)) ax
     rw [← ah] at xF
     obtain ⟨hx, l2⟩ := J7 xF
     have gG : ∀ d ∈ xs.map (aP s) ++ caps, d.plain = true := by
      intro d aj
      rcases List.mem_append.1 aj with aj | aj
      ·obtain ⟨x, aq, rfl⟩ := List.mem_map.1 aj
       exact IL s x fun av e => by
        subst e
        have hm := sD oU
        have : some (aI.c av) ∈ xs.map some := List.mem_map.2 ⟨_, aq, rfl⟩
        rw [← hm] at this
        obtain ⟨o, _, b_⟩ := List.mem_map.1 this
        cases o with
        | const v => simp only [ek, Option.map_eq_some_iff] at b_; obtain ⟨c, ax, e⟩ := b_; cases e; exact Et ax
        | tmp n => simp [ek] at b_
        | func g => simp [ek] at b_
        | global g => simp [ek] at b_
      ·obtain ⟨k, aA⟩ := List.getElem?_of_mem aj
       exact zZ gQ aA
     have Fs := J1 (C := C) aZ (ps := ps) (vs := mS.toList.map a.eval ++ arr.toList) (f := g) (r := r) (by simpa using hx)
      (fun i p v az aQ => ⟨gG p.a (by rw [← ah]; exact List.mem_map.2 ⟨p, List.mem_of_getElem? az, rfl⟩), l2 i p.a v (by simp [az]) aQ⟩) aH a6
      (fun Fc mu fl bI kS az => by
       refine bN w Fc mu fl _ (by rw [← hx]; simp) ?_ az
       obtain ⟨b, A6, fr, aU, ba, aW⟩ := UI
       refine ⟨b, A6, fr, ?_, ?_, bI b aW, fun aq => by obtain ⟨u, hu⟩ := kS b aq; exact aZ.gF u b hu aW⟩
       ·rw [List.getD_eq_getElem?_getD, List.getElem?_append_right (by omega), hlen, Nat.add_sub_cancel_left, ← List.getD_eq_getElem?_getD]; exact aU
       ·rw [ba, ← hlen, List.drop_left])
      cW cI
     rcases Fs with ⟨dK, bj⟩ | ⟨v, aO, dK, b7, aX, bj, dD⟩
     ·rw [dK, Oper.upon_enter]
      refine Calls.mono bj ?_
      rintro e aO ⟨v, rfl, b7, aX, ca, cy⟩
      exact a_ _ _ _ fM (Rel.put iY eM hU ca cy.1 aj)
     ·rw [dK, Oper.upon_value]
      exact a_ _ _ _ fM (Rel.put iY eM hU bj dD.1 aj)
    ·cases c6
   ·split at c6
    ·simp only [Option.map_eq_some_iff] at c6; obtain ⟨_, _, c6⟩ := c6; cases c6
    ·cases c6
   ·split at c6
    ·simp only [Option.map_eq_some_iff] at c6; obtain ⟨_, _, c6⟩ := c6; cases c6
    ·cases c6
   iterate 3
    ·split at c6
     ·split at c6 <;> cases c6
     ·cases c6
   ·cases c6
 | makeFunc fn first cs =>
   cases fn <;> simp only [dk] at c6 <;> first | (cases c6; done) | (split at c6 <;> simp at c6)
 | slice T x dB au h4 =>
   cases h4 <;> simp only [dk] at c6 <;> first | (cases c6; done) | (split at c6 <;> simp at c6)
 | _ => simp only [dk] at c6 <;> first | (cases c6; done) | (simp at c6; done) | (split at c6 <;> simp at c6)
theorem UJ {op : Op} {T : TypeId} {x : aI} (h : dk op = some (.cl T x)) : ∃ y, op = .load T y ∧ ek y = some x := by
 cases op with
 | load xD y =>
   simp only [dk, Option.map_eq_some_iff] at h
   obtain ⟨cA, aq, h⟩ := h
   cases h
   exact ⟨y, rfl, aq⟩
 | call c =>
   obtain ⟨callee, mS, argTypes⟩ := c
   simp only [dk] at h
   split at h <;> (try split at h) <;> (try split at h) <;> (try simp [Option.map_eq_some_iff] at h)
 | makeFunc fn first cs =>
   cases fn <;> simp only [dk] at h <;> first | (cases h; done) | (split at h <;> simp at h)
 | slice T x dB au h4 =>
   cases h4 <;> simp only [dk] at h <;> first | (cases h; done) | (split at h <;> simp at h)
 | _ => simp only [dk] at h <;> first | (cases h; done) | (simp at h; done) | (split at h <;> simp at h)
theorem A7 {y : Operand} {k : Nat} (h : ek y = some (.t k)) : y = .tmp k := by
 cases y with
 | tmp t => simp only [ek, Option.some.injEq, aI.t.injEq] at h; rw [h]
 | const v => simp only [ek, Option.map_eq_some_iff] at h; obtain ⟨c, _, h⟩ := h; cases h
 | func g => simp [ek] at h
 | global g => simp [ek] at h
def pW (k : Nat) (s : ar) (j : Nat) : I := if j = k then .ref .hole else jj j (s j)
theorem UK {aC : Nat → Value} {b k : Nat} {v : Value} {ty : TypeId} {fr : Nat × Nat} (aZ : b9 w0 F0 X F S s aC w) (aA : aC k = .pointer (some ⟨b, 0, none⟩)) (ad : F b) (ax : w.heap[b]? = some (.cells #[v] ty fr)) (ae : Value.hf v = true) :
  ∀ cs : List Nat, eL w F s aC (cs.map (pW k s)) (cs.map aC) ∧ I.ed (cs.map (pW k s)) = true := by
 intro cs
 induction cs with
 | nil => exact ⟨by rw [List.map_nil, List.map_nil, eL], rfl⟩
 | cons j cs ih =>
   simp only [List.map_cons]
   have cH : aM w F s aC (pW k s j) (aC j) (fun _ => False) ∧ (pW k s j).plain = true := by
    unfold pW
    split
    ·rename_i e; subst e
     rw [aA]
     refine ⟨(aM.c0 rfl).2 ⟨rfl, ?_⟩, rfl⟩
     rw [aw]
     refine ⟨b, 0, [v], rfl, ad, ?_, ?_⟩
     ·intro i c au
      cases i with
      | zero => simp at au; subst au; simp [World.cell?, ax]
      | succ i => simp at au
     ·rw [aw]; exact ⟨v, ae, rfl⟩
    ·unfold jj
     split
     ·rename_i az
      exact ⟨aM.nothing az (aZ.eg j), az⟩
     ·rename_i az
      refine ⟨?_, rfl⟩
      rw [aM]
      intro d aj az
      simp only [I.sub, Option.some.injEq] at aj
      subst aj
      have bo : (s j).tree = true := by
       cases af : s j <;> first | rfl | (rw [af] at az; simp [I.plain] at az)
      exact ⟨_, none, rfl, rfl, ((aM.c0 bo).1 (aZ.eg j)).1⟩
   refine ⟨?_, ?_⟩
   ·rw [eL]; exact ⟨_, _, rfl, cH.1, ih.1⟩
   ·simp only [I.ed, cH.2, ih.2, Bool.and_self]
theorem LJ (bz : C.Ok) {id : Nat} {ops : Array Oper} {T : TypeId} {k k0 d0 : Nat} {m rest : List cm} {args : List aI} {d1 : Option Nat} {g : FuncId} {cs : List Nat} {b : Nat} {ty : TypeId} {fr : Nat × Nat} {K : ar → Prop}
  (rz : pS n ops ops.toList = some ((⟨some d0, .cl T (.t k), none⟩ :: (m ++ ⟨d1, .call (.t d0) args, none⟩ :: rest) : List cm).map cm.un))
  (ld : (C.T T).flat = true) (hm : ∀ r ∈ m, ∀ d, r.dst = some d → d ≠ d0 ∧ d ∉ cs) (lf : d0 ∉ cs) (vD : cs[k0]? = some k)
  (iY : a.defers = []) (eM : a.tmps.size = n.n) (hU : ∀ i ∈ n.fx, a.tmps.getD i undef = ρ i) (aZ : b9 w0 F0 X F S s (fun t => a.tmps.getD t undef) w)
  (ad : F b) (aA : a.tmps.getD k undef = .pointer (some ⟨b, 0, none⟩)) (Ah : w.heap[b]? = some (.cells #[.func (.func g) #[] (cs.map fun j => a.tmps.getD j undef).toArray] ty fr))
  (h : lN C (fin s (some d0) .hole) m fun s1 => ∃ ps r, ps.map (·.a) = args.map (aP s1) ++ cs.map (pW k s1) ∧ (∀ p ∈ ps, p.ok s1) ∧ iP ps = true ∧
   my C g args.length (args.length + k0) (ps.map (·.d)) r (ps.map (·.o)) ∧ r.res = true ∧ (kf ps = true → r.de = true ∧ ∀ p ∈ ps, p.o.de = true) ∧ lN C (fin (ia (fB s1 ps) ps) d1 r) rest K)
  (a_ : ∀ aB da aO, K aB → Rel w0 F0 X n ρ aB da aO → Q .normal da aO) : (Code.region id ops false).wp C.P Q a w := by
 obtain ⟨hl, pT⟩ := xH rz
 have F_ : ∀ (i : Nat) (r : cm), (⟨some d0, .cl T (.t k), none⟩ :: (m ++ ⟨d1, .call (.t d0) args, none⟩ :: rest) : List cm)[i]? = some r → ∃ o, ops[i]? = some o ∧ pR n ops o = some r.un := by
  intro i r au
  have e7 : i < ops.toList.length := by
   rw [hl, List.length_map]
   exact (List.getElem?_eq_some_iff.1 au).1
  obtain ⟨h9, ae, ah⟩ := pT i _ (List.getElem?_eq_getElem e7)
  rw [List.getElem?_map, au] at ae
  simp only [Option.map_some, Option.some.injEq] at ae
  exact ⟨_, by rw [← Array.getElem?_toList]; exact List.getElem?_eq_getElem e7, by rw [ae]; exact ah⟩
 have vE : ∀ {r : cm} {o : Oper}, r.guard = none → pR n ops o = some r.un → r.dst = o.dst ∧ o.guard = none ∧ oX o.op = r.b1.base ∧ lL n o.dst = true := by
  intro r o cb h
  unfold pR at h
  split at h
  ·rename_i aj
   split at h
   ·rename_i UL h_
    simp only [cm.un, Option.some.injEq, cm.mk.injEq] at h
    obtain ⟨aU, ba, aW⟩ := h
    refine ⟨aU.symm, ?_, ba, aj⟩
    rw [aW, cb] at h_
    cases b_ : o.guard with
    | none => rfl
    | some Fv =>
      rw [b_] at h_; simp only [xB] at h_; split at h_ <;> cases h_
   ·cases h
  ·cases h
 have UM : ops.size = m.length + rest.length + 2 := by
  have : ops.toList.length = ops.size := by simp
  rw [← this, hl]; simp; omega
 have UN : List.range ops.size = 0 :: ((List.range m.length).map (· + 1) ++ ((m.length + 1) :: (List.range rest.length).map (· + (m.length + 2)))) := by
  rw [UM, show m.length + rest.length + 2 = (m.length + rest.length + 1) + 1 from rfl, List.range_succ_eq_map]
  congr 1
  rw [show m.length + rest.length + 1 = m.length + (rest.length + 1) by omega, List.range_add, List.map_append, List.range_succ_eq_map]
  simp only [List.map_map, List.map_cons, Nat.add_zero]
  congr 1
  congr 1
  apply List.map_congr_left
  intro x _; simp; omega
 obtain ⟨rJ, UO, lo⟩ := F_ 0 _ rfl
 obtain ⟨hG, hg, iw, ix⟩ := vE rfl lo
 change oX rJ.op = .cl T (.t k) at iw
 have x0 : dk rJ.op = some (.cl T (.t k)) := by
  rcases ns iw with h | h
  ·cases h
  ·exact h
 obtain ⟨y, bl, UP⟩ := UJ x0
 have := A7 UP; subst this
 let iC : Value := .func (.func g) #[] (cs.map fun j => a.tmps.getD j undef).toArray
 have kb : Rd w b 0 [iC] := by
  intro i c au
  cases i with
  | zero => simp at au; subst au; simp [World.cell?, Ah, iC]
  | succ i => simp at au
 refine wp_region ?_
 rw [UN]
 simp only [wpOps, UO]
 show (if Region.wanted rJ (yielded ops a.tmps) = true then rJ.wp C.P a w _ Q ∨ (rJ.asks C.P a w ∧ LetsOut Q) else _)
 rw [if_pos (AE hg)]
 left
 have sK : (execOp a.eval rJ).run C.P w = .ok (.value iC) w := by
  obtain ⟨dst, op, ty, pos, after, guard⟩ := rJ
  simp only at bl
  subst bl
  have : a.eval (.tmp k) = .pointer (some ⟨b, 0, none⟩) := aA
  simp [execOp, this, Instr.loadAt, Instr.sureAddr, IW bz ld kb]
 unfold Oper.wp
 rw [sK, Oper.upon_value]
 have Ga : some d0 = rJ.dst := hG
 rw [← Ga] at ix ⊢
 let U : Act := a.put (some d0) iC
 let oa : Fr := ⟨n.n, d0 :: k :: (cs ++ n.fx)⟩
 let ρ1 : Nat → Value := fun t => U.tmps.getD t undef
 have A8 : k ∈ cs := List.mem_of_getElem? vD
 have pM := aZ.base
 have Gb : Rel w F (fun b => ∃ u, S u b) ⟨n.n, []⟩ ρ1 (fin s (some d0) .hole) U w :=
  Rel.put (n := ⟨n.n, []⟩) iY eM (fun i au => by cases au) pM (.inl ⟨rfl, by rw [aM]; trivial⟩) (by
   simp only [lL, Bool.and_eq_true, decide_eq_true_eq] at ix ⊢
   exact ⟨ix.1, by simp⟩)
 have UQ : Rel w F (fun b => ∃ u, S u b) oa ρ1 (fin s (some d0) .hole) U w := ⟨Gb.defers, Gb.size, fun i _ => rfl, Gb.rel⟩
 have LK : ∀ t, t ≠ d0 → ρ1 t = a.tmps.getD t undef := by
  intro t bo
  have := congrFun (xC (n := n) (dst := some d0) (a := a) iC eM ix).1 t
  simp only [oF] at this
  rw [jX _ _ bo] at this
  exact this
 have UR : ρ1 d0 = iC := by
  have := congrFun (xC (n := n) (dst := some d0) (a := a) iC eM ix).1 d0
  simp only [oF] at this
  rw [mJ] at this
  exact this
 have hw := LH C _ m [⟨some d0, .cl T (.t k), none⟩] (⟨d1, .call (.t d0) args, none⟩ :: rest) _ h
 have mid : ∀ aB da aO, (∃ ps r, ps.map (·.a) = args.map (aP aB) ++ cs.map (pW k aB) ∧ (∀ p ∈ ps, p.ok aB) ∧ iP ps = true ∧
   my C g args.length (args.length + k0) (ps.map (·.d)) r (ps.map (·.o)) ∧ r.res = true ∧ (kf ps = true → r.de = true ∧ ∀ p ∈ ps, p.o.de = true) ∧ lN C (fin (ia (fB aB ps) ps) d1 r) rest K) →
   Rel w F (fun b => ∃ u, S u b) oa ρ1 aB da aO → wpOps C.P ops Q ((m.length + 1) :: (List.range rest.length).map (· + (m.length + 2))) da aO := by
  rintro s2 a7 g8 ⟨ps, r, aU, ba, aW, cS, cZ, cn, bV⟩ ⟨bc, bA, cU, xz, ej, eY⟩
  obtain ⟨vF, US, rh⟩ := F_ (m.length + 1) ⟨d1, .call (.t d0) args, none⟩ (by simp)
  obtain ⟨f_, hk, ik, I8⟩ := vE rfl rh
  simp only [wpOps, US]
  show (if Region.wanted vF (yielded ops a7.tmps) = true then vF.wp C.P a7 g8 _ Q ∨ (vF.asks C.P a7 g8 ∧ LetsOut Q) else _)
  rw [if_pos (AE hk)]
  left
  change oX vF.op = .call (.t d0) args at ik
  have UT : dk vF.op = some (.call (.t d0) args) := by
   rcases ns ik with h | h
   ·cases h
   ·exact h
  have LL : xz b := eY.hL b ad
  have LM : g8.heap[b]? = some (.cells #[iC] ty fr) := by
   rw [eY.old b (aZ.ga b ad) (fun ⟨u, hu⟩ => aZ.gF u b hu ad)]; exact Ah
  have LN : ∀ j ∈ cs, a7.tmps.getD j undef = a.tmps.getD j undef := by
   intro j cH
   rw [cU j (by simp [oa, cH])]
   exact LK j (fun e => lf (e ▸ cH))
  have oG : a7.tmps.getD k undef = .pointer (some ⟨b, 0, none⟩) := (LN k A8).trans aA
  have LO : (cs.map fun j => a.tmps.getD j undef) = cs.map fun j => a7.tmps.getD j undef := List.map_congr_left fun j cH => (LN j cH).symm
  obtain ⟨cD, cz⟩ := UK (k := k) eY oG LL LM rfl cs
  have ET : ∀ aB da aO, lN C aB rest K → Rel w F (fun b => ∃ u, S u b) ⟨n.n, n.fx⟩ ρ aB da aO → wpOps C.P ops Q ((List.range rest.length).map (· + (m.length + 2))) da aO := by
   intro fo a3 nz aH A9
   have AO := LH C K rest ((⟨some d0, .cl T (.t k), none⟩ :: m) ++ [⟨d1, .call (.t d0) args, none⟩]) [] fo aH
   have := Fu (Q := Q) bz (ops := ops) (ros := ((⟨some d0, .cl T (.t k), none⟩ :: m) ++ [⟨d1, .call (.t d0) args, none⟩]) ++ (rest ++ [])) (l2 := []) (K := K) (fun aB da aO lg e8 => by
     obtain ⟨x1, x2, z3, UU, Jh, z4⟩ := e8
     exact a_ aB da aO lg ⟨x1, x2, z3, UU, Jh, aZ.UG z4⟩) ((List.range rest.length).map (· + (m.length + 2))) (fun i au => by
      have xP : ((⟨some d0, .cl T (.t k), none⟩ :: m) ++ [⟨d1, .call (.t d0) args, none⟩]) ++ (rest ++ []) = (⟨some d0, .cl T (.t k), none⟩ :: (m ++ ⟨d1, .call (.t d0) args, none⟩ :: rest) : List cm) := by simp
      rw [xP]
      refine ⟨fun lZ => ?_, fun o b_ => ?_⟩
      ·rw [List.getElem?_eq_none_iff]
       have := Array.getElem?_eq_none_iff.1 lZ
       simp; omega
      ·obtain ⟨an, h5, ah⟩ := pT i o (by simpa using b_)
       obtain ⟨r, ae, rfl⟩ : ∃ r, (⟨some d0, .cl T (.t k), none⟩ :: (m ++ ⟨d1, .call (.t d0) args, none⟩ :: rest) : List cm)[i]? = some r ∧ r.un = an := by
        rw [List.getElem?_map, Option.map_eq_some_iff] at h5; exact h5
       exact ⟨r, ae, ah⟩) fo a3 nz (by
      have e : ((⟨some d0, .cl T (.t k), none⟩ :: m) ++ [⟨d1, .call (.t d0) args, none⟩] : List cm).length = m.length + 2 := by simp
      rw [e] at AO; exact AO) A9
   rwa [List.append_nil] at this
  have UW : ∀ i ∈ n.fx, a7.tmps.getD i undef = ρ i := by
   intro i au
   rw [cU i (by simp [oa, au]), LK i (fun e => ?_)]
   ·exact hU i au
   ·simp only [lL, Bool.and_eq_true, Bool.not_eq_true', List.contains_eq_mem, decide_eq_false_iff_not] at ix
    exact ix.2 (e ▸ au)
  have LI : k0 < cs.length := (List.getElem?_eq_some_iff.1 vD).1
  have UX : vF.dst = d1 := f_.symm
  exact UH (n := n) (ρ := ρ) (K := fun aB => lN C aB rest K) bc bA UW eY UT I8
   (arr := (cs.map fun j => a7.tmps.getD j undef).toArray) (k := k0) (caps := cs.map (pW k s2)) (g := g) (ps := ps) (r := r)
   (by rw [cU d0 (by simp [oa]), UR]; simp only [iC, LO]) (by simpa using cD) cz
   ⟨b, ty, fr, by
     rw [List.getD_eq_getElem?_getD, List.getElem?_map, vD]; exact oG, by rw [LM]; simp only [iC, LO], LL⟩ (by simpa using LI)
   aU ba aW cS cZ cn (by rw [UX]; exact bV) ET
 have := Fu (Q := Q) bz (ops := ops) (ros := [⟨some d0, .cl T (.t k), none⟩] ++ (m ++ ⟨d1, .call (.t d0) args, none⟩ :: rest)) (l2 := (m.length + 1) :: (List.range rest.length).map (· + (m.length + 2))) mid
  ((List.range m.length).map (· + 1)) (fun i au => by
    obtain ⟨j, cH, rfl⟩ := List.mem_map.1 au
    have x3 : j < m.length := List.mem_range.1 cH
    refine ⟨fun lZ => ?_, fun o b_ => ?_⟩
    ·have := Array.getElem?_eq_none_iff.1 lZ
     omega
    ·obtain ⟨mN, xS, fO⟩ := F_ (j + 1) m[j] (by
      simp only [List.getElem?_cons_succ]
      rw [List.getElem?_append_left x3, List.getElem?_eq_getElem x3])
     have heq : mN = o := by rw [xS] at b_; exact Option.some.inj b_
     subst heq
     refine ⟨m[j], by
      simp only [List.singleton_append, List.getElem?_cons_succ]
      rw [List.getElem?_append_left x3, List.getElem?_eq_getElem x3], ?_⟩
     have UY := hm m[j] (List.getElem_mem x3)
     unfold pR at fO ⊢
     split at fO
     ·rename_i aj
      rw [if_pos]
      ·exact fO
      ·cases LP : mN.dst with
       | none => rfl
       | some d =>
         rw [LP] at aj
         simp only [lL, Bool.and_eq_true, decide_eq_true_eq, Bool.not_eq_true', List.contains_eq_mem, decide_eq_false_iff_not] at aj ⊢
         refine ⟨aj.1, ?_⟩
         have AF : m[j].dst = some d := by
          split at fO
          ·simp only [cm.un, Option.some.injEq, cm.mk.injEq] at fO
           rw [← fO.1, LP]
          ·cases fO
         obtain ⟨fR, gW⟩ := UY d AF
         simp only [oa, List.mem_cons, List.mem_append, not_or]
         exact ⟨fR, fun e => gW (e ▸ A8), gW, aj.2⟩
     ·cases fO) (fin s (some d0) .hole) U w (by simpa using hw) UQ
 exact this
def LQ (C : cE) (f : FuncId) (k k0 : Nat) (cs : List Nat) (args : List aI) (d1 : Option Nat) (rest : List cm) (keep : List Nat) (P : List (Nat × I) → Prop) (s1 : ar) : Prop :=
 ∃ ps r, ps.map (·.a) = args.map (aP s1) ++ cs.map (pW k s1) ∧ (∀ p ∈ ps, p.ok s1) ∧ iP ps = true ∧
   my C f args.length (args.length + k0) (ps.map (·.d)) r (ps.map (·.o)) ∧ r.res = true ∧ (kf ps = true → r.de = true ∧ ∀ p ∈ ps, p.o.de = true) ∧
   cT C (fin (ia (fB s1 ps) ps) d1 r) rest none (fun _ s => P (i9 keep s))
def o7 (C : cE) (f : FuncId) (k k0 d0 : Nat) (cs : List Nat) (m : List cm) (args : List aI) (d1 : Option Nat) (rest : List cm) (keep : List Nat) (P : List (Nat × I) → Prop) (s : ar) : Prop :=
 cT C (fin s (some d0) .hole) m none fun _ s1 => LQ C f k k0 cs args d1 rest keep P s1
def LR (C : cE) (f : FuncId) (k k0 d0 : Nat) (cs : List Nat) (m : List cm) (args : List aI) (d1 : Option Nat) (rest : List cm) (keep : List Nat) (K : ar → Prop) (s : ar) : Prop :=
 o7 C f k k0 d0 cs m args d1 rest keep (fun l => K (aa l)) s
def Gc (f : Nat → Bool) (m : List cm) : Bool := m.all fun r => match r.dst with
 | none => true
 | some d => f d
theorem LS {f : Nat → Bool} {m : List cm} (h : Gc f m = true) : ∀ r ∈ m, ∀ d, r.dst = some d → f d = true := by
 intro r aZ d aj
 have := List.all_eq_true.1 h r aZ
 rw [aj] at this; exact this
theorem LU (k : List Nat) (s : ar) : xN s (i9 k s) := by
 intro p az
 obtain ⟨t, _, rfl⟩ := List.mem_map.1 az
 exact .inl rfl
def Gd (C : cE) (f : FuncId) (k k0 d0 : Nat) (cs : List Nat) (m : List cm) (args : List aI) (d1 : Option Nat) (rest : List cm) (keep : List Nat) : (Exit → ar → Prop) → ar → Prop :=
 fun Q s => LR C f k k0 d0 cs m args d1 rest keep (Q .normal) s
def LV (T : TypeId) (k d0 : Nat) (m : List cm) (args : List aI) (d1 : Option Nat) (rest : List cm) : J :=
 .R (⟨some d0, .cl T (.t k), none⟩ :: (m ++ ⟨d1, .call (.t d0) args, none⟩ :: rest)) none
theorem UZ (vs : List Value) : ∀ (m n : Nat), m + n = vs.length → vs.drop m = ((List.range n).map (· + m)).map fun j => vs.getD j undef := by
 intro m n h
 apply List.ext_getElem?
 intro i
 rw [List.getElem?_drop, List.map_map, List.getElem?_map]
 by_cases au : i < n
 ·rw [List.getElem?_range au, List.getElem?_eq_getElem (by omega)]
  simp only [Option.map_some, Function.comp]
  rw [List.getD_eq_getElem?_getD, List.getElem?_eq_getElem (by omega)]
  simp only [Option.getD_some, Option.some.injEq]
  congr 1; omega
 ·rw [List.getElem?_eq_none (by omega), List.getElem?_eq_none (by simp; omega)]; rfl
theorem A_ {c : Code} {rs : List cm} (h : bq n c = some (.R rs none)) : ∃ id ops, c = .region id ops false ∧ pS n ops ops.toList = some rs := by
 cases c with
 | region id ops draw =>
   cases draw with
   | false =>
     simp only [bq, Option.map_eq_some_iff] at h
     obtain ⟨r, ae, ah⟩ := h
     cases ah
     exact ⟨id, ops, rfl, ae⟩
   | true =>
     simp only [bq] at h
     split at h
     ·simp only [Option.map_eq_some_iff] at h
      obtain ⟨r, ae, ah⟩ := h
      cases ah
     ·cases h
 | seq a b => simp only [bq] at h; split at h <;> cases h
 | cond c a b => simp only [bq] at h; split at h <;> cases h
 | block id b => simp only [bq, Option.map_eq_some_iff] at h; obtain ⟨r, ae, ah⟩ := h; cases ah
 | loop b => simp only [bq, Option.map_eq_some_iff] at h; obtain ⟨r, ae, ah⟩ := h; cases ah
 | _ => simp [bq] at h
def Ba (C : cE) (f : FuncId) (fx : List Nat) (U0 m k : Nat) (T : (Exit → ar → Prop) → ar → Prop) (b : J) : Prop :=
 ∃ (ty : TypeId) (k0 d0 nA : Nat) (iv : List cm) (args : List aI) (d1 : Option Nat) (rest : List cm) (keep : List Nat),
   T = Gd C f k k0 d0 ((List.range nA).map (· + m)) iv args d1 rest keep ∧ b = LV ty k d0 iv args d1 rest ∧ (C.T ty).flat = true ∧ Gc (fun d => d != d0 && decide (m + nA ≤ d)) iv = true ∧ decide (m + nA ≤ d0) = true ∧
   decide (k0 < nA) = true ∧ k = m + k0 ∧ ((List.range nA).all fun j => fx.contains (m + j)) = true ∧ args.length = m ∧ m + nA = U0
theorem my.of_wp (bz : C.Ok) {f : FuncId} {fn : Func} {c : Code} {dN : J} {fx : List Nat} {as outs : List I} {r : I} {k m : Nat} (bF : C.P.funcs[f]? = some fn) (ad : fn.body = some c)
  (k1 : (fn.name == "runtime.NumGoroutine") = false) (af : bq ⟨fn.ntmps, fx⟩ c = some dN.strip) (a_ : as.length ≤ fn.ntmps)
  (aA : dN.mT (Ba C f fx as.length m k))
  (h : ∀ Q : Exit → ar → Prop, (∀ s, eO (Ends C fx fn.results.toList r outs) s → Q .ret s) → (∀ s, eO (Ends C fx fn.results.toList r outs) s → Q .normal s) → df C dN Q (aa (num 0 as))) : my C f m k as r outs := by
 rintro w F X S vs hl ⟨b, U1, fr, aU, ba, aW, cS⟩ aZ
 refine FF (fx := fx) bz bF ad k1 a_ hl aZ fun a oY fb => ?_
 refine FE bz (H := Ba C f fx as.length m k) ?_ c (by rw [J.FA]; exact af) (J.AK dN aA) (AL dN ?_) oY
 ·rintro c T gA Q s U fP ⟨ty, k0, d0, nA, iv, args, d1, rest, keep, rfl, rfl, ld, hm, lf, Bb, aA, hU, hlen, aBt⟩ x0 U2 ⟨bc, bA, cU, uX, cu, eY⟩
  replace hm : ∀ r ∈ iv, ∀ d, r.dst = some d → d ≠ d0 ∧ m + nA ≤ d := fun r aZ d aj => by
   have := LS hm r aZ d aj
   simpa using this
  replace lf := of_decide_eq_true lf
  replace Bb := of_decide_eq_true Bb
  replace hU : ∀ j, j < nA → m + j ∈ fx := fun j cH => by
   have := List.all_eq_true.1 hU j (List.mem_range.2 cH)
   simpa using this
  obtain ⟨id, ops, rfl, rz⟩ := A_ x0
  have LW : ∀ j, j < nA → U.tmps.getD (j + m) undef = vs.getD (j + m) undef := fun j cH => by
   rw [Nat.add_comm]; exact cU _ (hU j cH)
  have hh : ((List.range nA).map (· + m)).map (fun j => U.tmps.getD j undef) = vs.drop m := by
   rw [UZ vs m nA (by omega), List.map_map, List.map_map]
   apply List.map_congr_left
   intro j cH
   exact LW j (List.mem_range.1 cH)
  refine LJ (Q := sN w F X ⟨fn.ntmps, fx⟩ (ib vs) Q) (K := eO (Q .normal)) (b := b) (ty := U1) (fr := fr) (g := f) (k0 := k0) (cs := (List.range nA).map (· + m)) bz rz ld (fun r aZ d aj => ⟨(hm r aZ d aj).1, fun Ge => ?_⟩) (fun Ge => ?_) ?_ bc bA cU eY (eY.hL b aW) ?_ ?_ ?_ (fun aB da aO aA e8 => e8.eO aA)
  ·obtain ⟨j, cH, rfl⟩ := List.mem_map.1 Ge
   have := (hm r aZ _ aj).2; have := List.mem_range.1 cH; omega
  ·obtain ⟨j, cH, e⟩ := List.mem_map.1 Ge
   have := List.mem_range.1 cH; omega
  ·rw [List.getElem?_map, List.getElem?_range Bb, aA]; simp [Nat.add_comm]
  ·rw [aA, Nat.add_comm, LW k0 Bb, Nat.add_comm, ← aA]; exact aU
  ·rw [hh, eY.old b (aZ.ga b aW) cS]; exact ba
  ·refine sQ (fun _ s1 => ?_) U2
   rintro ⟨ps, r, hG, hg, iw, ix, nV, sL, xG⟩
   exact ⟨ps, r, hG, hg, iw, ix, nV, sL, sQ (fun _ s h => .inr ⟨_, LU _ _, h⟩) xG⟩
 ·rw [FJ]
  exact h _ (fun s h => ⟨.inr rfl, h⟩) (fun s h => ⟨.inl rfl, h⟩)
theorem U3 {Q : Exit → ar → Prop} {l : List (Nat × I)} {f : FuncId} {k k0 d0 : Nat} {cs : List Nat} {m : List cm} {args : List aI} {d1 : Option Nat} {rest : List cm} {keep : List Nat} {b : J} (eP : List (Nat × I))
  (h : ∀ P : List (Nat × I) → Prop, P eP → o7 C f k k0 d0 cs m args d1 rest keep P (aa l)) (aA : Q .normal (aa eP)) : df C (.jn (Gd C f k k0 d0 cs m args d1 rest keep) b) Q (aa l) :=
 fun eZ Gf => h (fun l => eZ .normal (aa l)) (Gf _ _ aA)
theorem LX {l : List (Nat × I)} {f : FuncId} {k k0 : Nat} {cs : List Nat} {args : List aI} {d1 : Option Nat} {rest : List cm} {keep : List Nat} {P : List (Nat × I) → Prop} {r : I} (ps : List c5)
  (bN : my C f args.length (args.length + k0) (ps.map (·.d)) r (ps.map (·.o))) (ah : ps.map (·.a) = iB (aa l) args ++ cs.map (pW k (aa l))) (aH : pV (aa l) ps) (a6 : iP ps = true)
  (cW : r.res = true) (cI : kf ps = false ∨ (r.de && qz ps) = true)
  (jN : cT C (fin (ia (fB (aa l) ps) ps) d1 r) rest none (fun _ s => P (i9 keep s))) : LQ C f k k0 cs args d1 rest keep P (aa l) := by
 refine ⟨ps, r, by rw [ah, u_], A1 aH, a6, bN, cW, ?_, jN⟩
 intro hl
 rcases cI with cI | cI
 ·rw [cI] at hl; cases hl
 ·rw [Bool.and_eq_true] at cI; exact ⟨cI.1, A2 cI.2⟩
end
end Go.dg
