/- Part of a proof that a law returns true for every input. No condition. -/
import Derived.Test.YtobljppjkklojaaFwI
namespace Go.cM
def nf (C : bN) (f : FuncId) (m k : Nat) (as : List j) (r : j) (outs : List j) : Prop :=
 ∀ (w : World) (F X : Nat → Prop) (S : Nat → Nat → Prop) (vs : List Value), vs.length = as.length →
   (∃ b ty fr, vs.getD k undef = .pointer (some ⟨b, 0, none⟩) ∧ w.heap[b]? = some (.cells #[.func (.func f) #[] (vs.drop m).toArray] ty fr) ∧ F b ∧ ¬ X b) →
   bB w F X F S (eI as) (fS vs) w →
   lr C.P f vs.toArray w fun v aB => ∃ bA aH, bB w F X bA aH (eI (r :: outs)) (fS (v :: vs)) aB
section
variable {C : bN} {w0 w : World} {F0 X F bA : Nat → Prop} {S aH : Nat → Nat → Prop} {n : Fr} {ρ : Nat → Value} {s ak : ag} {au gy : Nat → Value} {a : Act} {av : j} {Q : Exit → Act → World → Prop} {aB : World}
theorem bB.base (h : bB w0 F0 X F S s au w) : bB w F (fun b => ∃ u, S u b) F S s au w where
 gb := fun _ h => h
 gz := fun _ h => .inl h
 e0 := h.e0
 dP := h.dP
 e7 := h.e7
 eT := h.eT
 dd := fun u b J => .inl ⟨u, J⟩
 c7 := h.c7
 old := fun _ _ _ => rfl
 size := Nat.le_refl _
 os := rfl
 tape := rfl
 output := rfl
theorem bB.Kq (h : bB w0 F0 X F S s au w) (bq : bB w F (fun b => ∃ u, S u b) bA aH ak gy aB) : bB w0 F0 X bA aH ak gy aB where
 gb := fun b J => bq.gb b (h.gb b J)
 gz := fun b J => by
  rcases bq.gz b J with J | ⟨u, J⟩ | J
  ·exact h.gz b J
  ·exact .inr (h.dd u b J)
  ·exact .inr (.inr (Nat.le_trans h.size J))
 e0 := bq.e0
 dP := bq.dP
 e7 := bq.e7
 eT := bq.eT
 dd := fun u b J => by
  rcases bq.dd u b J with ⟨u, J⟩ | J
  ·exact h.dd u b J
  ·exact .inr (Nat.le_trans h.size J)
 c7 := bq.c7
 old := fun b J iG => by
  refine (bq.old b (Nat.lt_of_lt_of_le J h.size) fun ⟨u, hu⟩ => ?_).trans (h.old b J iG)
  rcases h.dd u b hu with ai | ai
  ·exact iG ai
  ·omega
 size := Nat.le_trans h.size bq.size
 os := bq.os.trans h.os
 tape := bq.tape.trans h.tape
 output := bq.output.trans h.output
theorem C8 (C : bN) (K : ag → Prop) : ∀ (rs pre post : List cq) (s : ag), jj C s rs K → h8 C (pre ++ (rs ++ post)) s ((List.range rs.length).map (· + pre.length)) K := by
 intro rs
 induction rs with
 | nil => intro pre post s h; exact h
 | cons r rs ih =>
   intro pre post s h
   rw [List.length_cons, List.range_succ_eq_map, List.map_cons, List.map_map]
   simp only [h8, Nat.zero_add]
   rw [List.getElem?_append_right (Nat.le_refl _)]
   simp only [Nat.sub_self, List.cons_append, List.getElem?_cons_zero]
   have key : ∀ s1, jj C s1 rs K → h8 C (pre ++ r :: (rs ++ post)) s1 ((List.range rs.length).map ((fun x => x + pre.length) ∘ Nat.succ)) K := by
    intro s1 aa
    have := ih (pre ++ [r]) post s1 aa
    simp only [List.append_assoc, List.singleton_append, List.length_append, List.length_singleton] at this
    have e : ((fun x => x + pre.length) ∘ Nat.succ) = fun x => x + (pre.length + 1) := by funext x; simp; omega
    rw [e]; exact this
   simp only [jj] at h
   exact x8 h key
theorem Kr (iL : a.defers = []) (dI : a.tmps.size = n.n) (hf : ∀ i ∈ n.fx, a.tmps.getD i undef = ρ i) (aO : bB w0 F0 X F S s (fun t => a.tmps.getD t undef) w)
  {o : Oper} {d0 k : Nat} {args : List ax} {g : FuncId} {caps : List j} {arr : Array Value} {ps : List b_} {r : j} (cb : da o.op = some (.call (.t d0) args)) (af : j0 n o.dst = true)
  (aG : a.tmps.getD d0 undef = .func (.func g) #[] arr) (aj : dC w F s (fun t => a.tmps.getD t undef) caps arr.toList) (eJ : j.dz caps = true)
  (Ks : ∃ b ty fr, (arr.toList).getD k undef = .pointer (some ⟨b, 0, none⟩) ∧ w.heap[b]? = some (.cells #[.func (.func g) #[] arr] ty fr) ∧ F b) (C9 : k < arr.size)
  (ab : ps.map (·.a) = args.map (aD s) ++ caps) (aE : ∀ p ∈ ps, p.ok s) (aZ : gK ps = true) (bG : nf C g args.length (args.length + k) (ps.map (·.d)) r (ps.map (·.o))) (b7 : r.res = true)
  (b5 : ix ps = true → r.cY = true ∧ ∀ p ∈ ps, p.o.cY = true) {K : ag → Prop} {next : Act → World → Prop} (dG : K (fin (gf (dR s ps) ps) o.dst r))
  (bh : ∀ ak cf aB, K ak → Rel w0 F0 X n ρ ak cf aB → next cf aB) : o.wp C.P a w next Q := by
 obtain ⟨dst, op, ty, pos, after, guard⟩ := o
 simp only at cb af dG
 cases op with
 | call c =>
   obtain ⟨callee, l6, argTypes⟩ := c
   simp only [da] at cb
   split at cb
   ·split at cb
    ·rename_i r_ _ _ Is xs bL l4
     simp only [Option.some.injEq, eD.call.injEq] at cb
     obtain ⟨rfl, rfl⟩ := cb
     have Kt : r_ = .tmp d0 := by
      cases r_ with
      | tmp t => simp only [c9, Option.some.injEq, ax.t.injEq] at bL; rw [bL]
      | const v => simp only [c9, Option.map_eq_some_iff] at bL; obtain ⟨c, _, bL⟩ := bL; cases bL
      | func g => simp [c9] at bL
      | global g => simp [c9] at bL
     subst Kt
     have oT : execOp a.eval { dst, op := .call { callee := .value (.tmp d0), args := l6, argTypes }, type := ty, pos, after, guard } = callFunc g ((l6.toList.map a.eval ++ arr.toList).toArray) := by
      have : a.eval (.tmp d0) = .func (.func g) #[] arr := aG
      simp only [execOp, resolve, this, Deferred.ofValue, pure_bind, invoke]
      congr 1
      apply Array.ext'; simp
     unfold Oper.wp
     rw [oT]
     have hlen : (l6.toList.map a.eval).length = xs.length := by
      have := congrArg List.length (oJ l4)
      simpa using this
     have sa : dC w F s (fun t => a.tmps.getD t undef) (xs.map (aD s) ++ caps) (l6.toList.map a.eval ++ arr.toList) := Bm (ue aO (fun _ => rfl) _ _ (oJ l4)) aj
     rw [← ab] at sa
     obtain ⟨gB, l2⟩ := Bn sa
     have gj : ∀ d ∈ xs.map (aD s) ++ caps, d.plain = true := by
      intro d af
      rcases List.mem_append.1 af with af | af
      ·obtain ⟨x, ai, rfl⟩ := List.mem_map.1 af
       exact z8 s x fun av e => by
        subst e
        have hm := oJ l4
        have : some (ax.c av) ∈ xs.map some := List.mem_map.2 ⟨_, ai, rfl⟩
        rw [← hm] at this
        obtain ⟨o, _, bP⟩ := List.mem_map.1 this
        cases o with
        | const v => simp only [c9, Option.map_eq_some_iff] at bP; obtain ⟨c, aj, e⟩ := bP; cases e; exact w4 aj
        | tmp n => simp [c9] at bP
        | func g => simp [c9] at bP
        | global g => simp [c9] at bP
      ·obtain ⟨k, aw⟩ := List.getElem?_of_mem af
       exact tC eJ aw
     have xW := Bh (C := C) aO (ps := ps) (vs := l6.toList.map a.eval ++ arr.toList) (f := g) (r := r) (by simpa using gB)
      (fun i p v ao aG => ⟨gj p.a (by rw [← ab]; exact List.mem_map.2 ⟨p, List.mem_of_getElem? ao, rfl⟩), l2 i p.a v (by simp [ao]) aG⟩) aE aZ
      (fun Fc jZ dH bg iG ao => by
       refine bG w Fc jZ dH _ (by rw [← gB]; simp) ?_ ao
       obtain ⟨b, Ku, fr, aJ, aT, bb⟩ := Ks
       refine ⟨b, Ku, fr, ?_, ?_, bg b bb, fun ai => by obtain ⟨u, hu⟩ := iG b ai; exact aO.e7 u b hu bb⟩
       ·rw [List.getD_eq_getElem?_getD, List.getElem?_append_right (by omega), hlen, Nat.add_sub_cancel_left, ← List.getD_eq_getElem?_getD]; exact aJ
       ·rw [aT, ← hlen, List.drop_left])
      b7 b5
     rcases xW with ⟨eh, eZ⟩ | ⟨v, aB, eh, bA, aH, eZ, jt⟩
     ·rw [eh, Oper.upon_enter]
      refine Calls.mono eZ ?_
      rintro e aB ⟨v, rfl, bA, aH, b9, cj⟩
      exact bh _ _ _ dG (Rel.put iL dI hf b9 cj.1 af)
     ·rw [eh, Oper.upon_value]
      exact bh _ _ _ dG (Rel.put iL dI hf eZ jt.1 af)
    ·cases cb
   ·split at cb
    ·simp only [Option.map_eq_some_iff] at cb; obtain ⟨_, _, cb⟩ := cb; cases cb
    ·cases cb
   ·split at cb
    ·simp only [Option.map_eq_some_iff] at cb; obtain ⟨_, _, cb⟩ := cb; cases cb
    ·cases cb
   iterate 3
    ·split at cb
     ·split at cb <;> cases cb
     ·cases cb
   ·cases cb
 | makeFunc fn first cs =>
   cases fn <;> simp only [da] at cb <;> first | (cases cb; done) | (split at cb <;> simp at cb)
 | slice T x cy az g8 =>
   cases g8 <;> simp only [da] at cb <;> first | (cases cb; done) | (split at cb <;> simp at cb)
 | _ => simp only [da] at cb <;> first | (cases cb; done) | (simp at cb; done) | (split at cb <;> simp at cb)
theorem Kv {op : Op} {T : TypeId} {x : ax} (h : da op = some (.aW T x)) : ∃ y, op = .load T y ∧ c9 y = some x := by
 cases op with
 | load xU y =>
   simp only [da, Option.map_eq_some_iff] at h
   obtain ⟨cz, ai, h⟩ := h
   cases h
   exact ⟨y, rfl, ai⟩
 | call c =>
   obtain ⟨callee, l6, argTypes⟩ := c
   simp only [da] at h
   split at h <;> (try split at h) <;> (try split at h) <;> (try simp [Option.map_eq_some_iff] at h)
 | makeFunc fn first cs =>
   cases fn <;> simp only [da] at h <;> first | (cases h; done) | (split at h <;> simp at h)
 | slice T x cy az g8 =>
   cases g8 <;> simp only [da] at h <;> first | (cases h; done) | (split at h <;> simp at h)
 | _ => simp only [da] at h <;> first | (cases h; done) | (simp at h; done) | (split at h <;> simp at h)
theorem Kw {y : Operand} {k : Nat} (h : c9 y = some (.t k)) : y = .tmp k := by
 cases y with
 | tmp t => simp only [c9, Option.some.injEq, ax.t.injEq] at h; rw [h]
 | const v => simp only [c9, Option.map_eq_some_iff] at h; obtain ⟨c, _, h⟩ := h; cases h
 | func g => simp [c9] at h
 | global g => simp [c9] at h
def ng (k : Nat) (s : ag) (ar : Nat) : j := if ar = k then .ref .hole else hr ar (s ar)
theorem Kx {au : Nat → Value} {b k : Nat} {v : Value} {ty : TypeId} {fr : Nat × Nat} (aO : bB w0 F0 X F S s au w) (aw : au k = .pointer (some ⟨b, 0, none⟩)) (J : F b) (aj : w.heap[b]? = some (.cells #[v] ty fr)) (aa : Value.fz v = true) :
  ∀ cs : List Nat, dC w F s au (cs.map (ng k s)) (cs.map au) ∧ j.dz (cs.map (ng k s)) = true := by
 intro cs
 induction cs with
 | nil => exact ⟨by rw [List.map_nil, List.map_nil, dC], rfl⟩
 | cons ar cs ih =>
   simp only [List.map_cons]
   have cc : aF w F s au (ng k s ar) (au ar) (fun _ => False) ∧ (ng k s ar).plain = true := by
    unfold ng
    split
    ·rename_i e; subst e
     rw [aw]
     refine ⟨(aF.cr rfl).2 ⟨rfl, ?_⟩, rfl⟩
     rw [aq]
     refine ⟨b, 0, [v], rfl, J, ?_, ?_⟩
     ·intro i c az
      cases i with
      | zero => simp at az; subst az; simp [World.cell?, aj]
      | succ i => simp at az
     ·rw [aq]; exact ⟨v, aa, rfl⟩
    ·unfold hr
     split
     ·rename_i ao
      exact ⟨aF.nothing ao (aO.c7 ar), ao⟩
     ·rename_i ao
      refine ⟨?_, rfl⟩
      rw [aF]
      intro d af ao
      simp only [j.sub, Option.some.injEq] at af
      subst af
      have aP : (s ar).tree = true := by
       cases U : s ar <;> first | rfl | (rw [U] at ao; simp [j.plain] at ao)
      exact ⟨_, none, rfl, rfl, ((aF.cr aP).1 (aO.c7 ar)).1⟩
   refine ⟨?_, ?_⟩
   ·rw [dC]; exact ⟨_, _, rfl, cc.1, ih.1⟩
   ·simp only [j.dz, cc.2, ih.2, Bool.and_self]
theorem Ky (bm : C.Ok) {id : Nat} {ops : Array Oper} {T : TypeId} {k k0 d0 : Nat} {m rest : List cq} {args : List ax} {d1 : Option Nat} {g : FuncId} {cs : List Nat} {b : Nat} {ty : TypeId} {fr : Nat × Nat} {K : ag → Prop}
  (nK : mF n ops ops.toList = some ((⟨some d0, .aW T (.t k), none⟩ :: (m ++ ⟨d1, .call (.t d0) args, none⟩ :: rest) : List cq).map cq.un))
  (mr : (C.T T).flat = true) (hm : ∀ r ∈ m, ∀ d, r.dst = some d → d ≠ d0 ∧ d ∉ cs) (kg : d0 ∉ cs) (yF : cs[k0]? = some k)
  (iL : a.defers = []) (dI : a.tmps.size = n.n) (hf : ∀ i ∈ n.fx, a.tmps.getD i undef = ρ i) (aO : bB w0 F0 X F S s (fun t => a.tmps.getD t undef) w)
  (J : F b) (aw : a.tmps.getD k undef = .pointer (some ⟨b, 0, none⟩)) (tT : w.heap[b]? = some (.cells #[.func (.func g) #[] (cs.map fun ar => a.tmps.getD ar undef).toArray] ty fr))
  (h : jj C (fin s (some d0) .hole) m fun s1 => ∃ ps r, ps.map (·.a) = args.map (aD s1) ++ cs.map (ng k s1) ∧ (∀ p ∈ ps, p.ok s1) ∧ gK ps = true ∧
   nf C g args.length (args.length + k0) (ps.map (·.d)) r (ps.map (·.o)) ∧ r.res = true ∧ (ix ps = true → r.cY = true ∧ ∀ p ∈ ps, p.o.cY = true) ∧ jj C (fin (gf (dR s1 ps) ps) d1 r) rest K)
  (bh : ∀ ak cf aB, K ak → Rel w0 F0 X n ρ ak cf aB → Q .normal cf aB) : (Code.region id ops false).wp C.P Q a w := by
 obtain ⟨hl, nJ⟩ := xY nK
 have yG : ∀ (i : Nat) (r : cq), (⟨some d0, .aW T (.t k), none⟩ :: (m ++ ⟨d1, .call (.t d0) args, none⟩ :: rest) : List cq)[i]? = some r → ∃ o, ops[i]? = some o ∧ mE n ops o = some r.un := by
  intro i r az
  have dL : i < ops.toList.length := by
   rw [hl, List.length_map]
   exact (List.getElem?_eq_some_iff.1 az).1
  obtain ⟨g0, aa, ab⟩ := nJ i _ (List.getElem?_eq_getElem dL)
  rw [List.getElem?_map, az] at aa
  simp only [Option.map_some, Option.some.injEq] at aa
  exact ⟨_, by rw [← Array.getElem?_toList]; exact List.getElem?_eq_getElem dL, by rw [aa]; exact ab⟩
 have yH : ∀ {r : cq} {o : Oper}, r.guard = none → mE n ops o = some r.un → r.dst = o.dst ∧ o.guard = none ∧ nH o.op = r.bd.base ∧ j0 n o.dst = true := by
  intro r o bH h
  unfold mE at h
  split at h
  ·rename_i af
   split at h
   ·rename_i Kz fR
    simp only [cq.un, Option.some.injEq, cq.mk.injEq] at h
    obtain ⟨aJ, aT, bb⟩ := h
    refine ⟨aJ.symm, ?_, aT, af⟩
    rw [bb, bH] at fR
    cases bP : o.guard with
    | none => rfl
    | some x1 =>
      rw [bP] at fR; simp only [r9] at fR; split at fR <;> cases fR
   ·cases h
  ·cases h
 have KA : ops.size = m.length + rest.length + 2 := by
  have : ops.toList.length = ops.size := by simp
  rw [← this, hl]; simp; omega
 have KB : List.range ops.size = 0 :: ((List.range m.length).map (· + 1) ++ ((m.length + 1) :: (List.range rest.length).map (· + (m.length + 2)))) := by
  rw [KA, show m.length + rest.length + 2 = (m.length + rest.length + 1) + 1 from rfl, List.range_succ_eq_map]
  congr 1
  rw [show m.length + rest.length + 1 = m.length + (rest.length + 1) by omega, List.range_add, List.map_append, List.range_succ_eq_map]
  simp only [List.map_map, List.map_cons, Nat.add_zero]
  congr 1
  congr 1
  apply List.map_congr_left
  intro x _; simp; omega
 obtain ⟨nT, KC, iZ⟩ := yG 0 _ rfl
 obtain ⟨jk, bR, gg, c3⟩ := yH rfl iZ
 change nH nT.op = .aW T (.t k) at gg
 have yI : da nT.op = some (.aW T (.t k)) := by
  rcases nI gg with h | h
  ·cases h
  ·exact h
 obtain ⟨y, bC, sx⟩ := Kv yI
 have := Kw sx; subst this
 let mL : Value := .func (.func g) #[] (cs.map fun ar => a.tmps.getD ar undef).toArray
 have h2 : Rd w b 0 [mL] := by
  intro i c az
  cases i with
  | zero => simp at az; subst az; simp [World.cell?, tT, mL]
  | succ i => simp at az
 refine wp_region ?_
 rw [KB]
 simp only [wpOps, KC]
 show (if Region.wanted nT (yielded ops a.tmps) = true then nT.wp C.P a w _ Q ∨ (nT.asks C.P a w ∧ LetsOut Q) else _)
 rw [if_pos (xZ bR)]
 left
 have oT : (execOp a.eval nT).run C.P w = .ok (.value mL) w := by
  obtain ⟨dst, op, ty, pos, after, guard⟩ := nT
  simp only at bC
  subst bC
  have : a.eval (.tmp k) = .pointer (some ⟨b, 0, none⟩) := aw
  simp [execOp, this, Instr.loadAt, Instr.sureAddr, Ae bm mr h2]
 unfold Oper.wp
 rw [oT, Oper.upon_value]
 have KD : some d0 = nT.dst := jk
 rw [← KD] at c3 ⊢
 let ah : Act := a.put (some d0) mL
 let ly : Fr := ⟨n.n, d0 :: k :: (cs ++ n.fx)⟩
 let ρ1 : Nat → Value := fun t => ah.tmps.getD t undef
 have C_ : k ∈ cs := List.mem_of_getElem? yF
 have oG := aO.base
 have yJ : Rel w F (fun b => ∃ u, S u b) ⟨n.n, []⟩ ρ1 (fin s (some d0) .hole) ah w :=
  Rel.put (n := ⟨n.n, []⟩) iL dI (fun i az => by cases az) oG (.inl ⟨rfl, by rw [aF]; trivial⟩) (by
   simp only [j0, Bool.and_eq_true, decide_eq_true_eq] at c3 ⊢
   exact ⟨c3.1, by simp⟩)
 have KE : Rel w F (fun b => ∃ u, S u b) ly ρ1 (fin s (some d0) .hole) ah w := ⟨yJ.defers, yJ.size, fun i _ => rfl, yJ.rel⟩
 have Da : ∀ t, t ≠ d0 → ρ1 t = a.tmps.getD t undef := by
  intro t aP
  have := congrFun (xT (n := n) (dst := some d0) (a := a) mL dI c3).1 t
  simp only [ot] at this
  rw [ir _ _ aP] at this
  exact this
 have KF : ρ1 d0 = mL := by
  have := congrFun (xT (n := n) (dst := some d0) (a := a) mL dI c3).1 d0
  simp only [ot] at this
  rw [k_] at this
  exact this
 have hw := C8 C _ m [⟨some d0, .aW T (.t k), none⟩] (⟨d1, .call (.t d0) args, none⟩ :: rest) _ h
 have mid : ∀ ak cf aB, (∃ ps r, ps.map (·.a) = args.map (aD ak) ++ cs.map (ng k ak) ∧ (∀ p ∈ ps, p.ok ak) ∧ gK ps = true ∧
   nf C g args.length (args.length + k0) (ps.map (·.d)) r (ps.map (·.o)) ∧ r.res = true ∧ (ix ps = true → r.cY = true ∧ ∀ p ∈ ps, p.o.cY = true) ∧ jj C (fin (gf (dR ak ps) ps) d1 r) rest K) →
   Rel w F (fun b => ∃ u, S u b) ly ρ1 ak cf aB → wpOps C.P ops Q ((m.length + 1) :: (List.range rest.length).map (· + (m.length + 2))) cf aB := by
  rintro s2 cC kR ⟨ps, r, aJ, aT, bb, cn, c1, b6, bS⟩ ⟨aV, bo, b8, oR, c6, dn⟩
  obtain ⟨qO, KG, pO⟩ := yG (m.length + 1) ⟨d1, .call (.t d0) args, none⟩ (by simp)
  obtain ⟨fI, ga, gV, KH⟩ := yH rfl pO
  simp only [wpOps, KG]
  show (if Region.wanted qO (yielded ops cC.tmps) = true then qO.wp C.P cC kR _ Q ∨ (qO.asks C.P cC kR ∧ LetsOut Q) else _)
  rw [if_pos (xZ ga)]
  left
  change nH qO.op = .call (.t d0) args at gV
  have KI : da qO.op = some (.call (.t d0) args) := by
   rcases nI gV with h | h
   ·cases h
   ·exact h
  have Db : oR b := dn.gb b J
  have Dc : kR.heap[b]? = some (.cells #[mL] ty fr) := by
   rw [dn.old b (aO.e0 b J) (fun ⟨u, hu⟩ => aO.e7 u b hu J)]; exact tT
  have Dd : ∀ ar ∈ cs, cC.tmps.getD ar undef = a.tmps.getD ar undef := by
   intro ar cc
   rw [b8 ar (by simp [ly, cc])]
   exact Da ar (fun e => kg (e ▸ cc))
  have rI : cC.tmps.getD k undef = .pointer (some ⟨b, 0, none⟩) := (Dd k C_).trans aw
  have De : (cs.map fun ar => a.tmps.getD ar undef) = cs.map fun ar => cC.tmps.getD ar undef := List.map_congr_left fun ar cc => (Dd ar cc).symm
  obtain ⟨bT, b4⟩ := Kx (k := k) dn rI Db Dc rfl cs
  have xq : ∀ ak cf aB, jj C ak rest K → Rel w F (fun b => ∃ u, S u b) ⟨n.n, n.fx⟩ ρ ak cf aB → wpOps C.P ops Q ((List.range rest.length).map (· + (m.length + 2))) cf aB := by
   intro ff a3 o_ aE KJ
   have uA := C8 C K rest ((⟨some d0, .aW T (.t k), none⟩ :: m) ++ [⟨d1, .call (.t d0) args, none⟩]) [] ff aE
   have := x0 (Q := Q) bm (ops := ops) (ros := ((⟨some d0, .aW T (.t k), none⟩ :: m) ++ [⟨d1, .call (.t d0) args, none⟩]) ++ (rest ++ [])) (l2 := []) (K := K) (fun ak cf aB jw dV => by
     obtain ⟨KK, KL, z3, KM, Av, z4⟩ := dV
     exact bh ak cf aB jw ⟨KK, KL, z3, KM, Av, aO.Kq z4⟩) ((List.range rest.length).map (· + (m.length + 2))) (fun i az => by
      have sj : ((⟨some d0, .aW T (.t k), none⟩ :: m) ++ [⟨d1, .call (.t d0) args, none⟩]) ++ (rest ++ []) = (⟨some d0, .aW T (.t k), none⟩ :: (m ++ ⟨d1, .call (.t d0) args, none⟩ :: rest) : List cq) := by simp
      rw [sj]
      refine ⟨fun la => ?_, fun o bP => ?_⟩
      ·rw [List.getElem?_eq_none_iff]
       have := Array.getElem?_eq_none_iff.1 la
       simp; omega
      ·obtain ⟨aI, fO, ab⟩ := nJ i o (by simpa using bP)
       obtain ⟨r, aa, rfl⟩ : ∃ r, (⟨some d0, .aW T (.t k), none⟩ :: (m ++ ⟨d1, .call (.t d0) args, none⟩ :: rest) : List cq)[i]? = some r ∧ r.un = aI := by
        rw [List.getElem?_map, Option.map_eq_some_iff] at fO; exact fO
       exact ⟨r, aa, ab⟩) ff a3 o_ (by
      have e : ((⟨some d0, .aW T (.t k), none⟩ :: m) ++ [⟨d1, .call (.t d0) args, none⟩] : List cq).length = m.length + 2 := by simp
      rw [e] at uA; exact uA) KJ
   rwa [List.append_nil] at this
  have KN : ∀ i ∈ n.fx, cC.tmps.getD i undef = ρ i := by
   intro i az
   rw [b8 i (by simp [ly, az]), Da i (fun e => ?_)]
   ·exact hf i az
   ·simp only [j0, Bool.and_eq_true, Bool.not_eq_true', List.contains_eq_mem, decide_eq_false_iff_not] at c3
    exact c3.2 (e ▸ az)
  have C9 : k0 < cs.length := (List.getElem?_eq_some_iff.1 yF).1
  have KO : qO.dst = d1 := fI.symm
  exact Kr (n := n) (ρ := ρ) (K := fun ak => jj C ak rest K) aV bo KN dn KI KH
   (arr := (cs.map fun ar => cC.tmps.getD ar undef).toArray) (k := k0) (caps := cs.map (ng k s2)) (g := g) (ps := ps) (r := r)
   (by rw [b8 d0 (by simp [ly]), KF]; simp only [mL, De]) (by simpa using bT) b4
   ⟨b, ty, fr, by
     rw [List.getD_eq_getElem?_getD, List.getElem?_map, yF]; exact rI, by rw [Dc]; simp only [mL, De], Db⟩ (by simpa using C9)
   aJ aT bb cn c1 b6 (by rw [KO]; exact bS) xq
 have := x0 (Q := Q) bm (ops := ops) (ros := [⟨some d0, .aW T (.t k), none⟩] ++ (m ++ ⟨d1, .call (.t d0) args, none⟩ :: rest)) (l2 := (m.length + 1) :: (List.range rest.length).map (· + (m.length + 2))) mid
  ((List.range m.length).map (· + 1)) (fun i az => by
    obtain ⟨ar, cc, rfl⟩ := List.mem_map.1 az
    have sy : ar < m.length := List.mem_range.1 cc
    refine ⟨fun la => ?_, fun o bP => ?_⟩
    ·have := Array.getElem?_eq_none_iff.1 la
     omega
    ·obtain ⟨kG, sn, fy⟩ := yG (ar + 1) m[ar] (by
      simp only [List.getElem?_cons_succ]
      rw [List.getElem?_append_left sy, List.getElem?_eq_getElem sy])
     have heq : kG = o := by rw [sn] at bP; exact Option.some.inj bP
     subst heq
     refine ⟨m[ar], by
      simp only [List.singleton_append, List.getElem?_cons_succ]
      rw [List.getElem?_append_left sy, List.getElem?_eq_getElem sy], ?_⟩
     have KP := hm m[ar] (List.getElem_mem sy)
     unfold mE at fy ⊢
     split at fy
     ·rename_i af
      rw [if_pos]
      ·exact fy
      ·cases Df : kG.dst with
       | none => rfl
       | some d =>
         rw [Df] at af
         simp only [j0, Bool.and_eq_true, decide_eq_true_eq, Bool.not_eq_true', List.contains_eq_mem, decide_eq_false_iff_not] at af ⊢
         refine ⟨af.1, ?_⟩
         have uv : m[ar].dst = some d := by
          split at fy
          ·simp only [cq.un, Option.some.injEq, cq.mk.injEq] at fy
           rw [← fy.1, Df]
          ·cases fy
         obtain ⟨en, fl⟩ := KP d uv
         simp only [ly, List.mem_cons, List.mem_append, not_or]
         exact ⟨en, fun e => fl (e ▸ C_), fl, af.2⟩
     ·cases fy) (fin s (some d0) .hole) ah w (by simpa using hw) KE
 exact this
def KQ (C : bN) (f : FuncId) (k k0 : Nat) (cs : List Nat) (args : List ax) (d1 : Option Nat) (rest : List cq) (keep : List Nat) (P : List (Nat × j) → Prop) (s1 : ag) : Prop :=
 ∃ ps r, ps.map (·.a) = args.map (aD s1) ++ cs.map (ng k s1) ∧ (∀ p ∈ ps, p.ok s1) ∧ gK ps = true ∧
   nf C f args.length (args.length + k0) (ps.map (·.d)) r (ps.map (·.o)) ∧ r.res = true ∧ (ix ps = true → r.cY = true ∧ ∀ p ∈ ps, p.o.cY = true) ∧
   bQ C (fin (gf (dR s1 ps) ps) d1 r) rest none (fun _ s => P (hK keep s))
def KR (C : bN) (f : FuncId) (k k0 d0 : Nat) (cs : List Nat) (m : List cq) (args : List ax) (d1 : Option Nat) (rest : List cq) (keep : List Nat) (P : List (Nat × j) → Prop) (s : ag) : Prop :=
 bQ C (fin s (some d0) .hole) m none fun _ s1 => KQ C f k k0 cs args d1 rest keep P s1
def KS (C : bN) (f : FuncId) (k k0 d0 : Nat) (cs : List Nat) (m : List cq) (args : List ax) (d1 : Option Nat) (rest : List cq) (keep : List Nat) (K : ag → Prop) (s : ag) : Prop :=
 KR C f k k0 d0 cs m args d1 rest keep (fun l => K (I l)) s
def Dg (f : Nat → Bool) (m : List cq) : Bool := m.all fun r => match r.dst with
 | none => true
 | some d => f d
theorem KT {f : Nat → Bool} {m : List cq} (h : Dg f m = true) : ∀ r ∈ m, ∀ d, r.dst = some d → f d = true := by
 intro r aO d af
 have := List.all_eq_true.1 h r aO
 rw [af] at this; exact this
theorem KU (k : List Nat) (s : ag) : p9 s (hK k s) := by
 intro p ao
 obtain ⟨t, _, rfl⟩ := List.mem_map.1 ao
 exact .inl rfl
def KV (C : bN) (f : FuncId) (k k0 d0 : Nat) (cs : List Nat) (m : List cq) (args : List ax) (d1 : Option Nat) (rest : List cq) (keep : List Nat) : (Exit → ag → Prop) → ag → Prop :=
 fun Q s => KS C f k k0 d0 cs m args d1 rest keep (Q .normal) s
def KW (T : TypeId) (k d0 : Nat) (m : List cq) (args : List ax) (d1 : Option Nat) (rest : List cq) : R :=
 .ad (⟨some d0, .aW T (.t k), none⟩ :: (m ++ ⟨d1, .call (.t d0) args, none⟩ :: rest)) none
theorem KX (vs : List Value) : ∀ (m n : Nat), m + n = vs.length → vs.drop m = ((List.range n).map (· + m)).map fun ar => vs.getD ar undef := by
 intro m n h
 apply List.ext_getElem?
 intro i
 rw [List.getElem?_drop, List.map_map, List.getElem?_map]
 by_cases az : i < n
 ·rw [List.getElem?_range az, List.getElem?_eq_getElem (by omega)]
  simp only [Option.map_some, Function.comp]
  rw [List.getD_eq_getElem?_getD, List.getElem?_eq_getElem (by omega)]
  simp only [Option.getD_some, Option.some.injEq]
  congr 1; omega
 ·rw [List.getElem?_eq_none (by omega), List.getElem?_eq_none (by simp; omega)]; rfl
theorem KY {c : Code} {rs : List cq} (h : b0 n c = some (.ad rs none)) : ∃ id ops, c = .region id ops false ∧ mF n ops ops.toList = some rs := by
 cases c with
 | region id ops draw =>
   cases draw with
   | false =>
     simp only [b0, Option.map_eq_some_iff] at h
     obtain ⟨r, aa, ab⟩ := h
     cases ab
     exact ⟨id, ops, rfl, aa⟩
   | true =>
     simp only [b0] at h
     split at h
     ·simp only [Option.map_eq_some_iff] at h
      obtain ⟨r, aa, ab⟩ := h
      cases ab
     ·cases h
 | seq a b => simp only [b0] at h; split at h <;> cases h
 | cond c a b => simp only [b0] at h; split at h <;> cases h
 | block id b => simp only [b0, Option.map_eq_some_iff] at h; obtain ⟨r, aa, ab⟩ := h; cases ab
 | loop b => simp only [b0, Option.map_eq_some_iff] at h; obtain ⟨r, aa, ab⟩ := h; cases ab
 | _ => simp [b0] at h
def yK (C : bN) (f : FuncId) (fx : List Nat) (KZ m k : Nat) (T : (Exit → ag → Prop) → ag → Prop) (b : R) : Prop :=
 ∃ (ty : TypeId) (k0 d0 kS : Nat) (h3 : List cq) (args : List ax) (d1 : Option Nat) (rest : List cq) (keep : List Nat),
   T = KV C f k k0 d0 ((List.range kS).map (· + m)) h3 args d1 rest keep ∧ b = KW ty k d0 h3 args d1 rest ∧ (C.T ty).flat = true ∧ Dg (fun d => d != d0 && decide (m + kS ≤ d)) h3 = true ∧ decide (m + kS ≤ d0) = true ∧
   decide (k0 < kS) = true ∧ k = m + k0 ∧ ((List.range kS).all fun ar => fx.contains (m + ar)) = true ∧ args.length = m ∧ m + kS = KZ
theorem nf.of_wp (bm : C.Ok) {f : FuncId} {fn : Func} {c : Code} {eK : R} {fx : List Nat} {as outs : List j} {r : j} {k m : Nat} (bL : C.P.funcs[f]? = some fn) (J : fn.body = some c)
  (kI : (fn.name == "runtime.NumGoroutine") = false) (U : b0 ⟨fn.ntmps, fx⟩ c = some eK.strip) (bh : as.length ≤ fn.ntmps)
  (aw : eK.mG (yK C f fx as.length m k))
  (h : ∀ Q : Exit → ag → Prop, (∀ s, fv (Ends C fx fn.results.toList r outs) s → Q .ret s) → (∀ s, fv (Ends C fx fn.results.toList r outs) s → Q .normal s) → db C eK Q (I (num 0 as))) : nf C f m k as r outs := by
 rintro w F X S vs hl ⟨b, K0, fr, aJ, aT, bb, cn⟩ aO
 refine BN (fx := fx) bm bL J kI bh hl aO fun a m9 dD => ?_
 refine BK bm (H := yK C f fx as.length m k) ?_ c (by rw [R.BB]; exact U) (R.BC eK aw) (BI eK ?_) m9
 ·rintro c T ew Q s ah jn ⟨ty, k0, d0, kS, h3, args, d1, rest, keep, rfl, rfl, mr, hm, kg, uO, aw, hf, hlen, aak⟩ yI K1 ⟨aV, bo, b8, p6, bW, dn⟩
  replace hm : ∀ r ∈ h3, ∀ d, r.dst = some d → d ≠ d0 ∧ m + kS ≤ d := fun r aO d af => by
   have := KT hm r aO d af
   simpa using this
  replace kg := of_decide_eq_true kg
  replace uO := of_decide_eq_true uO
  replace hf : ∀ ar, ar < kS → m + ar ∈ fx := fun ar cc => by
   have := List.all_eq_true.1 hf ar (List.mem_range.2 cc)
   simpa using this
  obtain ⟨id, ops, rfl, nK⟩ := KY yI
  have Dh : ∀ ar, ar < kS → ah.tmps.getD (ar + m) undef = vs.getD (ar + m) undef := fun ar cc => by
   rw [Nat.add_comm]; exact b8 _ (hf ar cc)
  have hF : ((List.range kS).map (· + m)).map (fun ar => ah.tmps.getD ar undef) = vs.drop m := by
   rw [KX vs m kS (by omega), List.map_map, List.map_map]
   apply List.map_congr_left
   intro ar cc
   exact Dh ar (List.mem_range.1 cc)
  refine Ky (Q := qc w F X ⟨fn.ntmps, fx⟩ (fS vs) Q) (K := fv (Q .normal)) (b := b) (ty := K0) (fr := fr) (g := f) (k0 := k0) (cs := (List.range kS).map (· + m)) bm nK mr (fun r aO d af => ⟨(hm r aO d af).1, fun qH => ?_⟩) (fun qH => ?_) ?_ aV bo b8 dn (dn.gb b bb) ?_ ?_ ?_ (fun ak cf aB aw dV => dV.fv aw)
  ·obtain ⟨ar, cc, rfl⟩ := List.mem_map.1 qH
   have := (hm r aO _ af).2; have := List.mem_range.1 cc; omega
  ·obtain ⟨ar, cc, e⟩ := List.mem_map.1 qH
   have := List.mem_range.1 cc; omega
  ·rw [List.getElem?_map, List.getElem?_range uO, aw]; simp [Nat.add_comm]
  ·rw [aw, Nat.add_comm, Dh k0 uO, Nat.add_comm, ← aw]; exact aJ
  ·rw [hF, dn.old b (aO.e0 b bb) cn]; exact aT
  ·refine uB (fun _ s1 => ?_) K1
   rintro ⟨ps, r, jk, bR, gg, c3, fm, e_, g1⟩
   exact ⟨ps, r, jk, bR, gg, c3, fm, e_, uB (fun _ s h => .inr ⟨_, KU _ _, h⟩) g1⟩
 ·rw [yb]
  exact h _ (fun s h => ⟨.inr rfl, h⟩) (fun s h => ⟨.inl rfl, h⟩)
end
end Go.cM
