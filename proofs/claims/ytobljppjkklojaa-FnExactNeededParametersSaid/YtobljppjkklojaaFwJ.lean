/- Part of a proof that a law returns true for every input. No condition. -/
import Derived.Test.YtobljppjkklojaaFwI
namespace Go.Fw
def OkSelf (C : Cx) (f : FuncId) (m k : Nat) (as : List AV) (r : AV) (outs : List AV) : Prop :=
 ∀ (w : World) (F X : Nat → Prop) (S : Nat → Nat → Prop) (vs : List Value), vs.length = as.length →
   (∃ b ty fr, vs.getD k undef = .pointer (some ⟨b, 0, none⟩) ∧ w.heap[b]? = some (.cells #[.func (.func f) #[] (vs.drop m).toArray] ty fr) ∧ F b ∧ ¬ X b) →
   RelX w F X F S (stL as) (tmL vs) w →
   Gets C.P f vs.toArray w fun v w' => ∃ F' S', RelX w F X F' S' (stL (r :: outs)) (tmL (v :: vs)) w'
section
variable {C : Cx} {w0 w : World} {F0 X F F' : Nat → Prop} {S S' : Nat → Nat → Prop} {n : Fr} {ρ : Nat → Value} {s s' : St} {tm tm' : Nat → Value} {a : Act} {av : AV} {Q : Exit → Act → World → Prop} {w' : World}
theorem RelX.base (h : RelX w0 F0 X F S s tm w) : RelX w F (fun b => ∃ u, S u b) F S s tm w where
 F0F := fun _ h => h
 FF0 := fun _ h => .inl h
 Flt := h.Flt
 Slt := h.Slt
 SF := h.SF
 SS := h.SS
 S0 := fun u b hb => .inl ⟨u, hb⟩
 sv := h.sv
 old := fun _ _ _ => rfl
 size := Nat.le_refl _
 os := rfl
 tape := rfl
 output := rfl
theorem RelX.unbase (h : RelX w0 F0 X F S s tm w) (h' : RelX w F (fun b => ∃ u, S u b) F' S' s' tm' w') : RelX w0 F0 X F' S' s' tm' w' where
 F0F := fun b hb => h'.F0F b (h.F0F b hb)
 FF0 := fun b hb => by
  rcases h'.FF0 b hb with hb | ⟨u, hb⟩ | hb
  ·exact h.FF0 b hb
  ·exact .inr (h.S0 u b hb)
  ·exact .inr (.inr (Nat.le_trans h.size hb))
 Flt := h'.Flt
 Slt := h'.Slt
 SF := h'.SF
 SS := h'.SS
 S0 := fun u b hb => by
  rcases h'.S0 u b hb with ⟨u, hb⟩ | hb
  ·exact h.S0 u b hb
  ·exact .inr (Nat.le_trans h.size hb)
 sv := h'.sv
 old := fun b hb hX => by
  refine (h'.old b (Nat.lt_of_lt_of_le hb h.size) fun ⟨u, hu⟩ => ?_).trans (h.old b hb hX)
  rcases h.S0 u b hu with hx | hx
  ·exact hX hx
  ·omega
 size := Nat.le_trans h.size h'.size
 os := h'.os.trans h.os
 tape := h'.tape.trans h.tape
 output := h'.output.trans h.output
theorem wpI_seg (C : Cx) (K : St → Prop) : ∀ (rs pre post : List RO) (s : St), wpRs C s rs K → wpI C (pre ++ (rs ++ post)) s ((List.range rs.length).map (· + pre.length)) K := by
 intro rs
 induction rs with
 | nil => intro pre post s h; exact h
 | cons r rs ih =>
   intro pre post s h
   rw [List.length_cons, List.range_succ_eq_map, List.map_cons, List.map_map]
   simp only [wpI, Nat.zero_add]
   rw [List.getElem?_append_right (Nat.le_refl _)]
   simp only [Nat.sub_self, List.cons_append, List.getElem?_cons_zero]
   have key : ∀ s1, wpRs C s1 rs K → wpI C (pre ++ r :: (rs ++ post)) s1 ((List.range rs.length).map ((fun x => x + pre.length) ∘ Nat.succ)) K := by
    intro s1 h1
    have := ih (pre ++ [r]) post s1 h1
    simp only [List.append_assoc, List.singleton_append, List.length_append, List.length_singleton] at this
    have e : ((fun x => x + pre.length) ∘ Nat.succ) = fun x => x + (pre.length + 1) := by funext x; simp; omega
    rw [e]; exact this
   simp only [wpRs] at h
   exact wpR_mono h key
theorem op_cell (hde : a.defers = []) (hsz : a.tmps.size = n.n) (hfx : ∀ i ∈ n.fx, a.tmps.getD i undef = ρ i) (hr : RelX w0 F0 X F S s (fun t => a.tmps.getD t undef) w)
  {o : Oper} {d0 k : Nat} {args : List SX} {g : FuncId} {caps : List AV} {arr : Array Value} {ps : List PA} {r : AV} (hso : slimO o.op = some (.call (.t d0) args)) (hd : dstOk n o.dst = true)
  (hv : a.tmps.getD d0 undef = .func (.func g) #[] arr) (hc : SVs w F s (fun t => a.tmps.getD t undef) caps arr.toList) (hcp : AV.plains caps = true)
  (hself : ∃ b ty fr, (arr.toList).getD k undef = .pointer (some ⟨b, 0, none⟩) ∧ w.heap[b]? = some (.cells #[.func (.func g) #[] arr] ty fr) ∧ F b) (hkl : k < arr.size)
  (h2 : ps.map (·.a) = args.map (ev s) ++ caps) (h3 : ∀ p ∈ ps, p.ok s) (h4 : apartPA ps = true) (h5 : OkSelf C g args.length (args.length + k) (ps.map (·.d)) r (ps.map (·.o))) (h6 : r.res = true)
  (h7 : lent ps = true → r.nosh = true ∧ ∀ p ∈ ps, p.o.nosh = true) {K : St → Prop} {next : Act → World → Prop} (h8 : K (fin (giveL (takeL s ps) ps) o.dst r))
  (hn : ∀ s' a' w', K s' → Rel w0 F0 X n ρ s' a' w' → next a' w') : o.wp C.P a w next Q := by
 obtain ⟨dst, op, ty, pos, after, guard⟩ := o
 simp only at hso hd h8
 cases op with
 | call c =>
   obtain ⟨callee, cargs, argTypes⟩ := c
   simp only [slimO] at hso
   split at hso
   ·split at hso
    ·rename_i fo _ _ f' xs hf hxs
     simp only [Option.some.injEq, SO.call.injEq] at hso
     obtain ⟨rfl, rfl⟩ := hso
     have hfo : fo = .tmp d0 := by
      cases fo with
      | tmp t => simp only [slimX, Option.some.injEq, SX.t.injEq] at hf; rw [hf]
      | const v => simp only [slimX, Option.map_eq_some_iff] at hf; obtain ⟨c, _, hf⟩ := hf; cases hf
      | func g => simp [slimX] at hf
      | global g => simp [slimX] at hf
     subst hfo
     have hexec : execOp a.eval { dst, op := .call { callee := .value (.tmp d0), args := cargs, argTypes }, type := ty, pos, after, guard } = callFunc g ((cargs.toList.map a.eval ++ arr.toList).toArray) := by
      have : a.eval (.tmp d0) = .func (.func g) #[] arr := hv
      simp only [execOp, resolve, this, Deferred.ofValue, pure_bind, invoke]
      congr 1
      apply Array.ext'; simp
     unfold Oper.wp
     rw [hexec]
     have hlen : (cargs.toList.map a.eval).length = xs.length := by
      have := congrArg List.length (slimXs_map hxs)
      simpa using this
     have hsvs : SVs w F s (fun t => a.tmps.getD t undef) (xs.map (ev s) ++ caps) (cargs.toList.map a.eval ++ arr.toList) := svs_append (svs_map hr (fun _ => rfl) _ _ (slimXs_map hxs)) hc
     rw [← h2] at hsvs
     obtain ⟨l1, l2⟩ := svs_get hsvs
     have hpl : ∀ d ∈ xs.map (ev s) ++ caps, d.plain = true := by
      intro d hd
      rcases List.mem_append.1 hd with hd | hd
      ·obtain ⟨x, hx, rfl⟩ := List.mem_map.1 hd
       exact ev_plain s x fun av e => by
        subst e
        have hm := slimXs_map hxs
        have : some (SX.c av) ∈ xs.map some := List.mem_map.2 ⟨_, hx, rfl⟩
        rw [← hm] at this
        obtain ⟨o, _, ho⟩ := List.mem_map.1 this
        cases o with
        | const v => simp only [slimX, Option.map_eq_some_iff] at ho; obtain ⟨c, hc, e⟩ := ho; cases e; exact cav_plain hc
        | tmp n => simp [slimX] at ho
        | func g => simp [slimX] at ho
        | global g => simp [slimX] at ho
      ·obtain ⟨k, hk⟩ := List.getElem?_of_mem hd
       exact plains_get hcp hk
     have hcall := call_soundG (C := C) hr (ps := ps) (vs := cargs.toList.map a.eval ++ arr.toList) (f := g) (r := r) (by simpa using l1)
      (fun i p v hp hv => ⟨hpl p.a (by rw [← h2]; exact List.mem_map.2 ⟨p, List.mem_of_getElem? hp, rfl⟩), l2 i p.a v (by simp [hp]) hv⟩) h3 h4
      (fun Fc Xc Sc hF hX hp => by
       refine h5 w Fc Xc Sc _ (by rw [← l1]; simp) ?_ hp
       obtain ⟨b, ty', fr, e1, e2, e3⟩ := hself
       refine ⟨b, ty', fr, ?_, ?_, hF b e3, fun hx => by obtain ⟨u, hu⟩ := hX b hx; exact hr.SF u b hu e3⟩
       ·rw [List.getD_eq_getElem?_getD, List.getElem?_append_right (by omega), hlen, Nat.add_sub_cancel_left, ← List.getD_eq_getElem?_getD]; exact e1
       ·rw [e2, ← hlen, List.drop_left])
      h6 h7
     rcases hcall with ⟨r1, r2⟩ | ⟨v, w', r1, F', S', r2, r3⟩
     ·rw [r1, Oper.upon_enter]
      refine Calls.mono r2 ?_
      rintro e w' ⟨v, rfl, F', S', k1, k2⟩
      exact hn _ _ _ h8 (Rel.put hde hsz hfx k1 k2.1 hd)
     ·rw [r1, Oper.upon_value]
      exact hn _ _ _ h8 (Rel.put hde hsz hfx r2 r3.1 hd)
    ·cases hso
   ·split at hso
    ·simp only [Option.map_eq_some_iff] at hso; obtain ⟨_, _, hso⟩ := hso; cases hso
    ·cases hso
   ·split at hso
    ·simp only [Option.map_eq_some_iff] at hso; obtain ⟨_, _, hso⟩ := hso; cases hso
    ·cases hso
   iterate 3
    ·split at hso
     ·split at hso <;> cases hso
     ·cases hso
   ·cases hso
 | makeFunc fn first cs =>
   cases fn <;> simp only [slimO] at hso <;> first | (cases hso; done) | (split at hso <;> simp at hso)
 | slice T x lo hi mx =>
   cases mx <;> simp only [slimO] at hso <;> first | (cases hso; done) | (split at hso <;> simp at hso)
 | _ => simp only [slimO] at hso <;> first | (cases hso; done) | (simp at hso; done) | (split at hso <;> simp at hso)
theorem slimO_ld {op : Op} {T : TypeId} {x : SX} (h : slimO op = some (.ld T x)) : ∃ y, op = .load T y ∧ slimX y = some x := by
 cases op with
 | load T' y =>
   simp only [slimO, Option.map_eq_some_iff] at h
   obtain ⟨x', hx, h⟩ := h
   cases h
   exact ⟨y, rfl, hx⟩
 | call c =>
   obtain ⟨callee, cargs, argTypes⟩ := c
   simp only [slimO] at h
   split at h <;> (try split at h) <;> (try split at h) <;> (try simp [Option.map_eq_some_iff] at h)
 | makeFunc fn first cs =>
   cases fn <;> simp only [slimO] at h <;> first | (cases h; done) | (split at h <;> simp at h)
 | slice T x lo hi mx =>
   cases mx <;> simp only [slimO] at h <;> first | (cases h; done) | (split at h <;> simp at h)
 | _ => simp only [slimO] at h <;> first | (cases h; done) | (simp at h; done) | (split at h <;> simp at h)
theorem slimX_t {y : Operand} {k : Nat} (h : slimX y = some (.t k)) : y = .tmp k := by
 cases y with
 | tmp t => simp only [slimX, Option.some.injEq, SX.t.injEq] at h; rw [h]
 | const v => simp only [slimX, Option.map_eq_some_iff] at h; obtain ⟨c, _, h⟩ := h; cases h
 | func g => simp [slimX] at h
 | global g => simp [slimX] at h
def capAV (k : Nat) (s : St) (j : Nat) : AV := if j = k then .ref .hole else al j (s j)
theorem caps_sv {tm : Nat → Value} {b k : Nat} {v : Value} {ty : TypeId} {fr : Nat × Nat} (hr : RelX w0 F0 X F S s tm w) (hk : tm k = .pointer (some ⟨b, 0, none⟩)) (hb : F b) (hc : w.heap[b]? = some (.cells #[v] ty fr)) (h1 : Value.isOne v = true) :
  ∀ cs : List Nat, SVs w F s tm (cs.map (capAV k s)) (cs.map tm) ∧ AV.plains (cs.map (capAV k s)) = true := by
 intro cs
 induction cs with
 | nil => exact ⟨by rw [List.map_nil, List.map_nil, SVs], rfl⟩
 | cons j cs ih =>
   simp only [List.map_cons]
   have hj : SV w F s tm (capAV k s j) (tm j) (fun _ => False) ∧ (capAV k s j).plain = true := by
    unfold capAV
    split
    ·rename_i e; subst e
     rw [hk]
     refine ⟨(SV.of_tree rfl).2 ⟨rfl, ?_⟩, rfl⟩
     rw [RV]
     refine ⟨b, 0, [v], rfl, hb, ?_, ?_⟩
     ·intro i c hi
      cases i with
      | zero => simp at hi; subst hi; simp [World.cell?, hc]
      | succ i => simp at hi
     ·rw [RV]; exact ⟨v, h1, rfl⟩
    ·unfold al
     split
     ·rename_i hp
      exact ⟨SV.nothing hp (hr.sv j), hp⟩
     ·rename_i hp
      refine ⟨?_, rfl⟩
      rw [SV]
      intro d hd hp
      simp only [AV.sub, Option.some.injEq] at hd
      subst hd
      have ht : (s j).tree = true := by
       cases hs : s j <;> first | rfl | (rw [hs] at hp; simp [AV.plain] at hp)
      exact ⟨_, none, rfl, rfl, ((SV.of_tree ht).1 (hr.sv j)).1⟩
   refine ⟨?_, ?_⟩
   ·rw [SVs]; exact ⟨_, _, rfl, hj.1, ih.1⟩
   ·simp only [AV.plains, hj.2, ih.2, Bool.and_self]
theorem cell_region (hC : C.Ok) {id : Nat} {ops : Array Oper} {T : TypeId} {k k0 d0 : Nat} {m rest : List RO} {args : List SX} {d1 : Option Nat} {g : FuncId} {cs : List Nat} {b : Nat} {ty : TypeId} {fr : Nat × Nat} {K : St → Prop}
  (hro : slimRs n ops ops.toList = some ((⟨some d0, .ld T (.t k), none⟩ :: (m ++ ⟨d1, .call (.t d0) args, none⟩ :: rest) : List RO).map RO.un))
  (hT : (C.T T).flat = true) (hm : ∀ r ∈ m, ∀ d, r.dst = some d → d ≠ d0 ∧ d ∉ cs) (hd0 : d0 ∉ cs) (hkc : cs[k0]? = some k)
  (hde : a.defers = []) (hsz : a.tmps.size = n.n) (hfx : ∀ i ∈ n.fx, a.tmps.getD i undef = ρ i) (hr : RelX w0 F0 X F S s (fun t => a.tmps.getD t undef) w)
  (hb : F b) (hk : a.tmps.getD k undef = .pointer (some ⟨b, 0, none⟩)) (hcell : w.heap[b]? = some (.cells #[.func (.func g) #[] (cs.map fun j => a.tmps.getD j undef).toArray] ty fr))
  (h : wpRs C (fin s (some d0) .hole) m fun s1 => ∃ ps r, ps.map (·.a) = args.map (ev s1) ++ cs.map (capAV k s1) ∧ (∀ p ∈ ps, p.ok s1) ∧ apartPA ps = true ∧
   OkSelf C g args.length (args.length + k0) (ps.map (·.d)) r (ps.map (·.o)) ∧ r.res = true ∧ (lent ps = true → r.nosh = true ∧ ∀ p ∈ ps, p.o.nosh = true) ∧ wpRs C (fin (giveL (takeL s1 ps) ps) d1 r) rest K)
  (hn : ∀ s' a' w', K s' → Rel w0 F0 X n ρ s' a' w' → Q .normal a' w') : (Code.region id ops false).wp C.P Q a w := by
 obtain ⟨hl, hget⟩ := slimRs_get hro
 have hget' : ∀ (i : Nat) (r : RO), (⟨some d0, .ld T (.t k), none⟩ :: (m ++ ⟨d1, .call (.t d0) args, none⟩ :: rest) : List RO)[i]? = some r → ∃ o, ops[i]? = some o ∧ slimR n ops o = some r.un := by
  intro i r hi
  have hlt : i < ops.toList.length := by
   rw [hl, List.length_map]
   exact (List.getElem?_eq_some_iff.1 hi).1
  obtain ⟨r', h1, h2⟩ := hget i _ (List.getElem?_eq_getElem hlt)
  rw [List.getElem?_map, hi] at h1
  simp only [Option.map_some, Option.some.injEq] at h1
  exact ⟨_, by rw [← Array.getElem?_toList]; exact List.getElem?_eq_getElem hlt, by rw [h1]; exact h2⟩
 have slimR_E : ∀ {r : RO} {o : Oper}, r.guard = none → slimR n ops o = some r.un → r.dst = o.dst ∧ o.guard = none ∧ slimB o.op = r.so.base ∧ dstOk n o.dst = true := by
  intro r o hg h
  unfold slimR at h
  split at h
  ·rename_i hd
   split at h
   ·rename_i g' hg'
    simp only [RO.un, Option.some.injEq, RO.mk.injEq] at h
    obtain ⟨e1, e2, e3⟩ := h
    refine ⟨e1.symm, ?_, e2, hd⟩
    rw [e3, hg] at hg'
    cases ho : o.guard with
    | none => rfl
    | some jb =>
      rw [ho] at hg'; simp only [slimG] at hg'; split at hg' <;> cases hg'
   ·cases h
  ·cases h
 have hsize : ops.size = m.length + rest.length + 2 := by
  have : ops.toList.length = ops.size := by simp
  rw [← this, hl]; simp; omega
 have hrange : List.range ops.size = 0 :: ((List.range m.length).map (· + 1) ++ ((m.length + 1) :: (List.range rest.length).map (· + (m.length + 2)))) := by
  rw [hsize, show m.length + rest.length + 2 = (m.length + rest.length + 1) + 1 from rfl, List.range_succ_eq_map]
  congr 1
  rw [show m.length + rest.length + 1 = m.length + (rest.length + 1) by omega, List.range_add, List.map_append, List.range_succ_eq_map]
  simp only [List.map_map, List.map_cons, Nat.add_zero]
  congr 1
  congr 1
  apply List.map_congr_left
  intro x _; simp; omega
 obtain ⟨o0, ho0, hs0⟩ := hget' 0 _ rfl
 obtain ⟨q1, q2, q3, q4⟩ := slimR_E rfl hs0
 change slimB o0.op = .ld T (.t k) at q3
 have hsl : slimO o0.op = some (.ld T (.t k)) := by
  rcases slimB_some q3 with h | h
  ·cases h
  ·exact h
 obtain ⟨y, hy, hyx⟩ := slimO_ld hsl
 have := slimX_t hyx; subst this
 let fv : Value := .func (.func g) #[] (cs.map fun j => a.tmps.getD j undef).toArray
 have hrd : Rd w b 0 [fv] := by
  intro i c hi
  cases i with
  | zero => simp at hi; subst hi; simp [World.cell?, hcell, fv]
  | succ i => simp at hi
 refine wp_region ?_
 rw [hrange]
 simp only [wpOps, ho0]
 show (if Region.wanted o0 (yielded ops a.tmps) = true then o0.wp C.P a w _ Q ∨ (o0.asks C.P a w ∧ LetsOut Q) else _)
 rw [if_pos (wanted_none q2)]
 left
 have hexec : (execOp a.eval o0).run C.P w = .ok (.value fv) w := by
  obtain ⟨dst, op, ty, pos, after, guard⟩ := o0
  simp only at hy
  subst hy
  have : a.eval (.tmp k) = .pointer (some ⟨b, 0, none⟩) := hk
  simp [execOp, this, Instr.loadAt, Instr.sureAddr, run_loadVar_flat hC hT hrd]
 unfold Oper.wp
 rw [hexec, Oper.upon_value]
 -- behind the load
 have hq1 : some d0 = o0.dst := q1
 rw [← hq1] at q4 ⊢
 let a1 : Act := a.put (some d0) fv
 let n1 : Fr := ⟨n.n, d0 :: k :: (cs ++ n.fx)⟩
 let ρ1 : Nat → Value := fun t => a1.tmps.getD t undef
 have hk1 : k ∈ cs := List.mem_of_getElem? hkc
 have hbase := hr.base
 have hrel0 : Rel w F (fun b => ∃ u, S u b) ⟨n.n, []⟩ ρ1 (fin s (some d0) .hole) a1 w :=
  Rel.put (n := ⟨n.n, []⟩) hde hsz (fun i hi => by cases hi) hbase (.inl ⟨rfl, by rw [SV]; trivial⟩) (by
   simp only [dstOk, Bool.and_eq_true, decide_eq_true_eq] at q4 ⊢
   exact ⟨q4.1, by simp⟩)
 have hrel1 : Rel w F (fun b => ∃ u, S u b) n1 ρ1 (fin s (some d0) .hole) a1 w := ⟨hrel0.defers, hrel0.size, fun i _ => rfl, hrel0.rel⟩
 have tm1 : ∀ t, t ≠ d0 → ρ1 t = a.tmps.getD t undef := by
  intro t ht
  have := congrFun (put_tm (n := n) (dst := some d0) (a := a) fv hsz q4).1 t
  simp only [finT] at this
  rw [upd_ne _ _ ht] at this
  exact this
 have tm0 : ρ1 d0 = fv := by
  have := congrFun (put_tm (n := n) (dst := some d0) (a := a) fv hsz q4).1 d0
  simp only [finT] at this
  rw [upd_same] at this
  exact this
 have hw := wpI_seg C _ m [⟨some d0, .ld T (.t k), none⟩] (⟨d1, .call (.t d0) args, none⟩ :: rest) _ h
 have mid : ∀ s' a' w', (∃ ps r, ps.map (·.a) = args.map (ev s') ++ cs.map (capAV k s') ∧ (∀ p ∈ ps, p.ok s') ∧ apartPA ps = true ∧
   OkSelf C g args.length (args.length + k0) (ps.map (·.d)) r (ps.map (·.o)) ∧ r.res = true ∧ (lent ps = true → r.nosh = true ∧ ∀ p ∈ ps, p.o.nosh = true) ∧ wpRs C (fin (giveL (takeL s' ps) ps) d1 r) rest K) →
   Rel w F (fun b => ∃ u, S u b) n1 ρ1 s' a' w' → wpOps C.P ops Q ((m.length + 1) :: (List.range rest.length).map (· + (m.length + 2))) a' w' := by
  rintro s2 a2 w2 ⟨ps, r, e1, e2, e3, e4, e5, e6, e7⟩ ⟨g1, g2, g3, F2, S2, g4⟩
  obtain ⟨oc, hoc, hsc⟩ := hget' (m.length + 1) ⟨d1, .call (.t d0) args, none⟩ (by simp)
  obtain ⟨p1, p2, p3, p4⟩ := slimR_E rfl hsc
  simp only [wpOps, hoc]
  show (if Region.wanted oc (yielded ops a2.tmps) = true then oc.wp C.P a2 w2 _ Q ∨ (oc.asks C.P a2 w2 ∧ LetsOut Q) else _)
  rw [if_pos (wanted_none p2)]
  left
  change slimB oc.op = .call (.t d0) args at p3
  have hslc : slimO oc.op = some (.call (.t d0) args) := by
   rcases slimB_some p3 with h | h
   ·cases h
   ·exact h
  have hF2 : F2 b := g4.F0F b hb
  have hcell2 : w2.heap[b]? = some (.cells #[fv] ty fr) := by
   rw [g4.old b (hr.Flt b hb) (fun ⟨u, hu⟩ => hr.SF u b hu hb)]; exact hcell
  have htmc : ∀ j ∈ cs, a2.tmps.getD j undef = a.tmps.getD j undef := by
   intro j hj
   rw [g3 j (by simp [n1, hj])]
   exact tm1 j (fun e => hd0 (e ▸ hj))
  have hk2 : a2.tmps.getD k undef = .pointer (some ⟨b, 0, none⟩) := (htmc k hk1).trans hk
  have hmap : (cs.map fun j => a.tmps.getD j undef) = cs.map fun j => a2.tmps.getD j undef := List.map_congr_left fun j hj => (htmc j hj).symm
  obtain ⟨c1, c2⟩ := caps_sv (k := k) g4 hk2 hF2 hcell2 rfl cs
  have hn0 : ∀ s' a' w', wpRs C s' rest K → Rel w F (fun b => ∃ u, S u b) ⟨n.n, n.fx⟩ ρ s' a' w' → wpOps C.P ops Q ((List.range rest.length).map (· + (m.length + 2))) a' w' := by
   intro s3 a3 w3 h3 hr3
   have h3' := wpI_seg C K rest ((⟨some d0, .ld T (.t k), none⟩ :: m) ++ [⟨d1, .call (.t d0) args, none⟩]) [] s3 h3
   have := ops_soundG (Q := Q) hC (ops := ops) (ros := ((⟨some d0, .ld T (.t k), none⟩ :: m) ++ [⟨d1, .call (.t d0) args, none⟩]) ++ (rest ++ [])) (l2 := []) (K := K) (fun s' a' w' hk' hr' => by
     obtain ⟨z1, z2, z3, F4, S4, z4⟩ := hr'
     exact hn s' a' w' hk' ⟨z1, z2, z3, F4, S4, hr.unbase z4⟩) ((List.range rest.length).map (· + (m.length + 2))) (fun i hi => by
      have hros : ((⟨some d0, .ld T (.t k), none⟩ :: m) ++ [⟨d1, .call (.t d0) args, none⟩]) ++ (rest ++ []) = (⟨some d0, .ld T (.t k), none⟩ :: (m ++ ⟨d1, .call (.t d0) args, none⟩ :: rest) : List RO) := by simp
      rw [hros]
      refine ⟨fun hno => ?_, fun o ho => ?_⟩
      ·rw [List.getElem?_eq_none_iff]
       have := Array.getElem?_eq_none_iff.1 hno
       simp; omega
      ·obtain ⟨r0, h10, h2⟩ := hget i o (by simpa using ho)
       obtain ⟨r, h1, rfl⟩ : ∃ r, (⟨some d0, .ld T (.t k), none⟩ :: (m ++ ⟨d1, .call (.t d0) args, none⟩ :: rest) : List RO)[i]? = some r ∧ r.un = r0 := by
        rw [List.getElem?_map, Option.map_eq_some_iff] at h10; exact h10
       exact ⟨r, h1, h2⟩) s3 a3 w3 (by
      have e : ((⟨some d0, .ld T (.t k), none⟩ :: m) ++ [⟨d1, .call (.t d0) args, none⟩] : List RO).length = m.length + 2 := by simp
      rw [e] at h3'; exact h3') hr3
   rwa [List.append_nil] at this
  have hfx2 : ∀ i ∈ n.fx, a2.tmps.getD i undef = ρ i := by
   intro i hi
   rw [g3 i (by simp [n1, hi]), tm1 i (fun e => ?_)]
   ·exact hfx i hi
   ·simp only [dstOk, Bool.and_eq_true, Bool.not_eq_true', List.contains_eq_mem, decide_eq_false_iff_not] at q4
    exact q4.2 (e ▸ hi)
  have hkl : k0 < cs.length := (List.getElem?_eq_some_iff.1 hkc).1
  have p1' : oc.dst = d1 := p1.symm
  exact op_cell (n := n) (ρ := ρ) (K := fun s' => wpRs C s' rest K) g1 g2 hfx2 g4 hslc p4
   (arr := (cs.map fun j => a2.tmps.getD j undef).toArray) (k := k0) (caps := cs.map (capAV k s2)) (g := g) (ps := ps) (r := r)
   (by rw [g3 d0 (by simp [n1]), tm0]; simp only [fv, hmap]) (by simpa using c1) c2
   ⟨b, ty, fr, by
     rw [List.getD_eq_getElem?_getD, List.getElem?_map, hkc]; exact hk2, by rw [hcell2]; simp only [fv, hmap], hF2⟩ (by simpa using hkl)
   e1 e2 e3 e4 e5 e6 (by rw [p1']; exact e7) hn0
 have := ops_soundG (Q := Q) hC (ops := ops) (ros := [⟨some d0, .ld T (.t k), none⟩] ++ (m ++ ⟨d1, .call (.t d0) args, none⟩ :: rest)) (l2 := (m.length + 1) :: (List.range rest.length).map (· + (m.length + 2))) mid
  ((List.range m.length).map (· + 1)) (fun i hi => by
    obtain ⟨j, hj, rfl⟩ := List.mem_map.1 hi
    have hjm : j < m.length := List.mem_range.1 hj
    refine ⟨fun hno => ?_, fun o ho => ?_⟩
    ·have := Array.getElem?_eq_none_iff.1 hno
     omega
    ·obtain ⟨o', ho', hs'⟩ := hget' (j + 1) m[j] (by
      simp only [List.getElem?_cons_succ]
      rw [List.getElem?_append_left hjm, List.getElem?_eq_getElem hjm])
     have heq : o' = o := by rw [ho'] at ho; exact Option.some.inj ho
     subst heq
     refine ⟨m[j], by
      simp only [List.singleton_append, List.getElem?_cons_succ]
      rw [List.getElem?_append_left hjm, List.getElem?_eq_getElem hjm], ?_⟩
     have hmj := hm m[j] (List.getElem_mem hjm)
     unfold slimR at hs' ⊢
     split at hs'
     ·rename_i hd
      rw [if_pos]
      ·exact hs'
      ·cases hod : o'.dst with
       | none => rfl
       | some d =>
         rw [hod] at hd
         simp only [dstOk, Bool.and_eq_true, decide_eq_true_eq, Bool.not_eq_true', List.contains_eq_mem, decide_eq_false_iff_not] at hd ⊢
         refine ⟨hd.1, ?_⟩
         have hdst : m[j].dst = some d := by
          split at hs'
          ·simp only [RO.un, Option.some.injEq, RO.mk.injEq] at hs'
           rw [← hs'.1, hod]
          ·cases hs'
         obtain ⟨m1, m2⟩ := hmj d hdst
         simp only [n1, List.mem_cons, List.mem_append, not_or]
         exact ⟨m1, fun e => m2 (e ▸ hk1), m2, hd.2⟩
     ·cases hs') (fin s (some d0) .hole) a1 w (by simpa using hw) hrel1
 exact this
def cellC (C : Cx) (f : FuncId) (k k0 : Nat) (cs : List Nat) (args : List SX) (d1 : Option Nat) (rest : List RO) (keep : List Nat) (P : List (Nat × AV) → Prop) (s1 : St) : Prop :=
 ∃ ps r, ps.map (·.a) = args.map (ev s1) ++ cs.map (capAV k s1) ∧ (∀ p ∈ ps, p.ok s1) ∧ apartPA ps = true ∧
   OkSelf C f args.length (args.length + k0) (ps.map (·.d)) r (ps.map (·.o)) ∧ r.res = true ∧ (lent ps = true → r.nosh = true ∧ ∀ p ∈ ps, p.o.nosh = true) ∧
   wpT C (fin (giveL (takeL s1 ps) ps) d1 r) rest none (fun _ s => P (kpA keep s))
def cellP (C : Cx) (f : FuncId) (k k0 d0 : Nat) (cs : List Nat) (m : List RO) (args : List SX) (d1 : Option Nat) (rest : List RO) (keep : List Nat) (P : List (Nat × AV) → Prop) (s : St) : Prop :=
 wpT C (fin s (some d0) .hole) m none fun _ s1 => cellC C f k k0 cs args d1 rest keep P s1
def cellW (C : Cx) (f : FuncId) (k k0 d0 : Nat) (cs : List Nat) (m : List RO) (args : List SX) (d1 : Option Nat) (rest : List RO) (keep : List Nat) (K : St → Prop) (s : St) : Prop :=
 cellP C f k k0 d0 cs m args d1 rest keep (fun l => K (stA l)) s
def dstsOk (f : Nat → Bool) (m : List RO) : Bool := m.all fun r => match r.dst with
 | none => true
 | some d => f d
theorem dstsOkE {f : Nat → Bool} {m : List RO} (h : dstsOk f m = true) : ∀ r ∈ m, ∀ d, r.dst = some d → f d = true := by
 intro r hr d hd
 have := List.all_eq_true.1 h r hr
 rw [hd] at this; exact this
theorem kpA_weak (k : List Nat) (s : St) : WeakL s (kpA k s) := by
 intro p hp
 obtain ⟨t, _, rfl⟩ := List.mem_map.1 hp
 exact .inl rfl
def selfT (C : Cx) (f : FuncId) (k k0 d0 : Nat) (cs : List Nat) (m : List RO) (args : List SX) (d1 : Option Nat) (rest : List RO) (keep : List Nat) : (Exit → St → Prop) → St → Prop :=
 fun Q s => cellW C f k k0 d0 cs m args d1 rest keep (Q .normal) s
def selfB (T : TypeId) (k d0 : Nat) (m : List RO) (args : List SX) (d1 : Option Nat) (rest : List RO) : SC :=
 .reg (⟨some d0, .ld T (.t k), none⟩ :: (m ++ ⟨d1, .call (.t d0) args, none⟩ :: rest)) none
theorem drop_range (vs : List Value) : ∀ (m n : Nat), m + n = vs.length → vs.drop m = ((List.range n).map (· + m)).map fun j => vs.getD j undef := by
 intro m n h
 apply List.ext_getElem?
 intro i
 rw [List.getElem?_drop, List.map_map, List.getElem?_map]
 by_cases hi : i < n
 ·rw [List.getElem?_range hi, List.getElem?_eq_getElem (by omega)]
  simp only [Option.map_some, Function.comp]
  rw [List.getD_eq_getElem?_getD, List.getElem?_eq_getElem (by omega)]
  simp only [Option.getD_some, Option.some.injEq]
  congr 1; omega
 ·rw [List.getElem?_eq_none (by omega), List.getElem?_eq_none (by simp; omega)]; rfl
theorem slimC_reg {c : Code} {rs : List RO} (h : slimC n c = some (.reg rs none)) : ∃ id ops, c = .region id ops false ∧ slimRs n ops ops.toList = some rs := by
 cases c with
 | region id ops draw =>
   cases draw with
   | false =>
     simp only [slimC, Option.map_eq_some_iff] at h
     obtain ⟨r, h1, h2⟩ := h
     cases h2
     exact ⟨id, ops, rfl, h1⟩
   | true =>
     simp only [slimC] at h
     split at h
     ·simp only [Option.map_eq_some_iff] at h
      obtain ⟨r, h1, h2⟩ := h
      cases h2
     ·cases h
 | seq a b => simp only [slimC] at h; split at h <;> cases h
 | cond c a b => simp only [slimC] at h; split at h <;> cases h
 | block id b => simp only [slimC, Option.map_eq_some_iff] at h; obtain ⟨r, h1, h2⟩ := h; cases h2
 | loop b => simp only [slimC, Option.map_eq_some_iff] at h; obtain ⟨r, h1, h2⟩ := h; cases h2
 | _ => simp [slimC] at h
def SelfOk (C : Cx) (f : FuncId) (fx : List Nat) (nargs m k : Nat) (T : (Exit → St → Prop) → St → Prop) (b : SC) : Prop :=
 ∃ (ty : TypeId) (k0 d0 nn : Nat) (m' : List RO) (args : List SX) (d1 : Option Nat) (rest : List RO) (keep : List Nat),
   T = selfT C f k k0 d0 ((List.range nn).map (· + m)) m' args d1 rest keep ∧ b = selfB ty k d0 m' args d1 rest ∧ (C.T ty).flat = true ∧ dstsOk (fun d => d != d0 && decide (m + nn ≤ d)) m' = true ∧ decide (m + nn ≤ d0) = true ∧
   decide (k0 < nn) = true ∧ k = m + k0 ∧ ((List.range nn).all fun j => fx.contains (m + j)) = true ∧ args.length = m ∧ m + nn = nargs
theorem OkSelf.of_wp (hC : C.Ok) {f : FuncId} {fn : Func} {c : Code} {sc : SC} {fx : List Nat} {as outs : List AV} {r : AV} {k m : Nat} (hf : C.P.funcs[f]? = some fn) (hb : fn.body = some c)
  (hname : (fn.name == "runtime.NumGoroutine") = false) (hs : slimC ⟨fn.ntmps, fx⟩ c = some sc.strip) (hn : as.length ≤ fn.ntmps)
  (hk : sc.hook (SelfOk C f fx as.length m k))
  (h : ∀ Q : Exit → St → Prop, (∀ s, onW (Ends C fx fn.results.toList r outs) s → Q .ret s) → (∀ s, onW (Ends C fx fn.results.toList r outs) s → Q .normal s) → wpC C sc Q (stA (num 0 as))) : OkSelf C f m k as r outs := by
 rintro w F X S vs hl ⟨b, ty0, fr, e1, e2, e3, e4⟩ hr
 refine gets_of_code (fx := fx) hC hf hb hname hn hl hr fun a hrel htm => ?_
 refine wpC_soundH hC (H := SelfOk C f fx as.length m k) ?_ c (by rw [SC.strip_unkeep]; exact hs) (SC.bare_unkeep sc hk) (wpC_strip sc ?_) hrel
 ·rintro c T b' Q s a1 w1 ⟨ty, k0, d0, nn, m', args, d1, rest, keep, rfl, rfl, hT, hm, hd0, hk0, hk, hfx, hlen, hna⟩ hsl hT' ⟨g1, g2, g3, F1, S1, g4⟩
  replace hm : ∀ r ∈ m', ∀ d, r.dst = some d → d ≠ d0 ∧ m + nn ≤ d := fun r hr d hd => by
   have := dstsOkE hm r hr d hd
   simpa using this
  replace hd0 := of_decide_eq_true hd0
  replace hk0 := of_decide_eq_true hk0
  replace hfx : ∀ j, j < nn → m + j ∈ fx := fun j hj => by
   have := List.all_eq_true.1 hfx j (List.mem_range.2 hj)
   simpa using this
  obtain ⟨id, ops, rfl, hro⟩ := slimC_reg hsl
  have tmk : ∀ j, j < nn → a1.tmps.getD (j + m) undef = vs.getD (j + m) undef := fun j hj => by
   rw [Nat.add_comm]; exact g3 _ (hfx j hj)
  have hcs : ((List.range nn).map (· + m)).map (fun j => a1.tmps.getD j undef) = vs.drop m := by
   rw [drop_range vs m nn (by omega), List.map_map, List.map_map]
   apply List.map_congr_left
   intro j hj
   exact tmk j (List.mem_range.1 hj)
  refine cell_region (Q := Arr w F X ⟨fn.ntmps, fx⟩ (tmL vs) Q) (K := onW (Q .normal)) (b := b) (ty := ty0) (fr := fr) (g := f) (k0 := k0) (cs := (List.range nn).map (· + m)) hC hro hT (fun r hr d hd => ⟨(hm r hr d hd).1, fun hmem => ?_⟩) (fun hmem => ?_) ?_ g1 g2 g3 g4 (g4.F0F b e3) ?_ ?_ ?_ (fun s' a' w' hk hr' => hr'.onW hk)
  ·obtain ⟨j, hj, rfl⟩ := List.mem_map.1 hmem
   have := (hm r hr _ hd).2; have := List.mem_range.1 hj; omega
  ·obtain ⟨j, hj, e⟩ := List.mem_map.1 hmem
   have := List.mem_range.1 hj; omega
  ·rw [List.getElem?_map, List.getElem?_range hk0, hk]; simp [Nat.add_comm]
  ·rw [hk, Nat.add_comm, tmk k0 hk0, Nat.add_comm, ← hk]; exact e1
  ·rw [hcs, g4.old b (hr.Flt b e3) e4]; exact e2
  ·refine wpRs_of_T (fun _ s1 => ?_) hT'
   rintro ⟨ps, r, q1, q2, q3, q4, q5, q6, q7⟩
   exact ⟨ps, r, q1, q2, q3, q4, q5, q6, wpRs_of_T (fun _ s h => .inr ⟨_, kpA_weak _ _, h⟩) q7⟩
 ·rw [stL_num]
  exact h _ (fun s h => ⟨.inr rfl, h⟩) (fun s h => ⟨.inl rfl, h⟩)
end
end Go.Fw
