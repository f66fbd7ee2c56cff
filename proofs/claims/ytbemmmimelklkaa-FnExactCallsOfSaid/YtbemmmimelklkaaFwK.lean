/- Part of a proof that a law returns true for every input. No condition. -/
import Derived.Test.YtbemmmimelklkaaFwJ
namespace Go.Fw
section
variable {C : Cx} {w0 w : World} {F0 X F F' : Nat → Prop} {S S' : Nat → Nat → Prop} {n : Fr} {ρ : Nat → Value} {s s' : St} {tm tm' : Nat → Value} {a : Act} {av : AV} {Q : Exit → Act → World → Prop} {w' : World}
theorem RelX.off (h : RelX w0 F0 X F S s tm w) {b : Nat} (h0 : w0.heap.size ≤ b) (hF : ¬ F b) (hS : ∀ u, ¬ S u b) (hw : ∀ c, c ≠ b → w'.heap[c]? = w.heap[c]?) (hs : w'.heap.size = w.heap.size)
  (h1 : w'.os = w.os) (h2 : w'.tape = w.tape) (h3 : w'.output = w.output) : RelX w0 F0 X F S s tm w' where
 F0F := h.F0F
 FF0 := h.FF0
 Flt := fun c hc => by rw [hs]; exact h.Flt c hc
 Slt := fun t c hc => by rw [hs]; exact h.Slt t c hc
 SF := h.SF
 SS := h.SS
 S0 := h.S0
 sv := fun t => SV.frame (Sx := S) (fun c hc => hw c (fun e => hF (e ▸ hc))) (fun _ h => h) (fun x c hc => hw c (fun e => hS x (e ▸ hc))) h.sv _ _ _ (fun c hc => hw c (fun e => hS t (e ▸ hc))) (h.sv t)
 old := fun c hc hX => (hw c (by omega)).trans (h.old c hc hX)
 size := by rw [hs]; exact h.size
 os := h1.trans h.os
 tape := h2.trans h.tape
 output := h3.trans h.output
theorem RelX.setHole (h : RelX w0 F0 X F S s tm w) {t : Nat} {v : Value} : RelX w0 F0 X F (updS S t (fun _ => False)) (Fw.fin s (some t) .hole) (upd tm t v) w := by
 have : Fw.fin s (some t) .hole = upd s t .hole := by simp [Fw.fin, AV.plain]
 rw [this]
 exact h.setP rfl (by rw [SV]; trivial)
theorem RelX.addF (h : RelX w0 F0 X F S s tm w) {b : Nat} (h0 : w0.heap.size ≤ b) (hb : b < w.heap.size) (hS : ∀ u, ¬ S u b) : RelX w0 F0 X (fun c => F c ∨ c = b) S s tm w where
 F0F := fun c hc => .inl (h.F0F c hc)
 FF0 := fun c hc => by
  rcases hc with hc | rfl
  ·exact h.FF0 c hc
  ·exact .inr (.inr h0)
 Flt := fun c hc => by
  rcases hc with hc | rfl
  ·exact h.Flt c hc
  ·exact hb
 Slt := h.Slt
 SF := fun t c hc hf => by
  rcases hf with hf | rfl
  ·exact h.SF t c hc hf
  ·exact hS t hc
 SS := h.SS
 S0 := h.S0
 sv := fun t => SV.frame (fun _ _ => rfl) (fun b hb => .inl hb) (fun _ _ _ => rfl) h.sv _ _ _ (fun _ _ => rfl) (h.sv t)
 old := h.old
 size := h.size
 os := h.os
 tape := h.tape
 output := h.output
theorem slimC_seq {c : Code} {x y : SC} (h : slimC n c = some (.seq x y)) : ∃ a b, c = .seq a b ∧ slimC n a = some x ∧ slimC n b = some y := by
 cases c with
 | seq a b =>
   simp only [slimC] at h
   split at h
   ·rename_i sx sy hx hy
    cases h
    exact ⟨a, b, rfl, hx, hy⟩
   ·cases h
 | region id ops draw =>
   cases draw with
   | false => simp only [slimC, Option.map_eq_some_iff] at h; obtain ⟨r, h1, h2⟩ := h; cases h2
   | true =>
     simp only [slimC] at h
     split at h
     ·simp only [Option.map_eq_some_iff] at h; obtain ⟨r, h1, h2⟩ := h; cases h2
     ·cases h
 | cond c a b => simp only [slimC] at h; split at h <;> cases h
 | block id b => simp only [slimC, Option.map_eq_some_iff] at h; obtain ⟨r, h1, h2⟩ := h; cases h2
 | loop b => simp only [slimC, Option.map_eq_some_iff] at h; obtain ⟨r, h1, h2⟩ := h; cases h2
 | _ => simp [slimC] at h
theorem slimR_E {ops : Array Oper} {r : RO} {o : Oper} (hg : r.guard = none) (h : slimR n ops o = some r.un) : r.dst = o.dst ∧ o.guard = none ∧ slimB o.op = r.so.base ∧ dstOk n o.dst = true := by
 unfold slimR at h
 split at h
 ·rename_i hd
  split at h
  ·rename_i g' hg'
   simp only [RO.un, Option.some.injEq, RO.mk.injEq] at h
   obtain ⟨e1, e2, e3⟩ := h
   refine ⟨e1.symm, ?_, e2, hd⟩
   rw [e3, hg] at hg'
   cases ho : o.guard with
   | none => rfl
   | some jb =>
     rw [ho] at hg'; simp only [slimG] at hg'; split at hg' <;> cases hg'
  ·cases h
 ·cases h
theorem wpOps_one {ops : Array Oper} {i : Nat} {o : Oper} {l : List Nat} (ho : ops[i]? = some o) (hg : o.guard = none) (h : o.wp C.P a w (wpOps C.P ops Q l) Q) : wpOps C.P ops Q (i :: l) a w := by
 simp only [wpOps, ho]
 show (if Region.wanted o (yielded ops a.tmps) = true then o.wp C.P a w _ Q ∨ (o.asks C.P a w ∧ LetsOut Q) else _)
 rw [if_pos (wanted_none hg)]
 exact .inl h
theorem slimO_alc {op : Op} {T : TypeId} (h : slimO op = some (.alc T)) : op = .alloc T := by
 cases op with
 | alloc T' => simp only [slimO, Option.some.injEq, SO.alc.injEq] at h; rw [h]
 | call c =>
   obtain ⟨callee, cargs, argTypes⟩ := c
   simp only [slimO] at h
   split at h <;> (try split at h) <;> (try split at h) <;> (try simp [Option.map_eq_some_iff] at h)
 | makeFunc fn first cs =>
   cases fn <;> simp only [slimO] at h <;> first | (cases h; done) | (split at h <;> simp at h)
 | slice T x lo hi mx =>
   cases mx <;> simp only [slimO] at h <;> first | (cases h; done) | (split at h <;> simp at h)
 | _ => simp only [slimO] at h <;> first | (cases h; done) | (simp at h; done) | (split at h <;> simp at h)
theorem slimO_sto {op : Op} {T : TypeId} {x y : SX} (h : slimO op = some (.sto T x y)) : ∃ a b, op = .store T a b ∧ slimX a = some x ∧ slimX b = some y := by
 cases op with
 | store T' a b =>
   simp only [slimO] at h
   split at h
   ·rename_i x' y' hx hy
    simp only [Option.some.injEq, SO.sto.injEq] at h
    obtain ⟨rfl, rfl, rfl⟩ := h
    exact ⟨a, b, rfl, hx, hy⟩
   ·cases h
 | call c =>
   obtain ⟨callee, cargs, argTypes⟩ := c
   simp only [slimO] at h
   split at h <;> (try split at h) <;> (try split at h) <;> (try simp [Option.map_eq_some_iff] at h)
 | makeFunc fn first cs =>
   cases fn <;> simp only [slimO] at h <;> first | (cases h; done) | (split at h <;> simp at h)
 | slice T x lo hi mx =>
   cases mx <;> simp only [slimO] at h <;> first | (cases h; done) | (split at h <;> simp at h)
 | _ => simp only [slimO] at h <;> first | (cases h; done) | (simp at h; done) | (split at h <;> simp at h)
theorem slimO_mkf {op : Op} {g : FuncId} {xs : List SX} (h : slimO op = some (.mkf g xs)) : ∃ cs : Array Operand, op = .makeFunc (.func g) #[] cs ∧ slimXs cs.toList = some xs := by
 cases op with
 | makeFunc fn first cs =>
   cases fn with
   | func f =>
     simp only [slimO] at h
     split at h
     ·rename_i hfi
      simp only [Option.map_eq_some_iff] at h
      obtain ⟨cs', hcs, h⟩ := h
      cases h
      have hf0 : first = #[] := by simpa using hfi
      subst hf0
      exact ⟨cs, rfl, hcs⟩
     ·cases h
   | _ => simp [slimO] at h
 | call c =>
   obtain ⟨callee, cargs, argTypes⟩ := c
   simp only [slimO] at h
   split at h <;> (try split at h) <;> (try split at h) <;> (try simp [Option.map_eq_some_iff] at h)
 | slice T x lo hi mx =>
   cases mx <;> simp only [slimO] at h <;> first | (cases h; done) | (split at h <;> simp at h)
 | _ => simp only [slimO] at h <;> first | (cases h; done) | (simp at h; done) | (split at h <;> simp at h)
theorem slimXs_t : ∀ {os : List Operand} {cs : List Nat}, slimXs os = some (cs.map .t) → os = cs.map .tmp
 | [], cs, h => by
   simp only [slimXs, Option.some.injEq] at h
   cases cs with
   | nil => rfl
   | cons c cs => cases h
 | o :: os, cs, h => by
   simp only [slimXs] at h
   split at h
   ·rename_i x xs' h1 h2
    simp only [Option.some.injEq] at h
    cases cs with
    | nil => cases h
    | cons c cs =>
      simp only [List.map_cons, List.cons.injEq] at h
      obtain ⟨rfl, rfl⟩ := h
      rw [slimX_t h1, slimXs_t h2]; rfl
   ·cases h
def tailT (C : Cx) (f : FuncId) (k k0 d0 d9 : Nat) (cs : List Nat) (m : List RO) (args : List SX) (d1 : Option Nat) (keep : List Nat) (rsc : SC) : (Exit → St → Prop) → St → Prop :=
 fun Q s => cellW C f k k0 d0 cs m args d1 [] keep (wpC C rsc Q) (fin (fin s (some k) .hole) (some d9) .hole)
def tailB (T : TypeId) (f : FuncId) (k d0 d9 : Nat) (cs : List Nat) (m : List RO) (args : List SX) (d1 : Option Nat) (rsc : SC) : SC :=
 .seq (.reg [⟨some k, .alc T, none⟩] none) (.seq (.reg [⟨some d9, .mkf f (cs.map .t), none⟩, ⟨none, .sto T (.t k) (.t d9), none⟩] none)
  (.seq (.reg (⟨some d0, .ld T (.t k), none⟩ :: (m ++ [⟨d1, .call (.t d0) args, none⟩])) none) rsc))
def TailOk (C : Cx) (T : (Exit → St → Prop) → St → Prop) (b : SC) : Prop :=
 ∃ (ty : TypeId) (f : FuncId) (k k0 d0 d9 : Nat) (cs : List Nat) (m : List RO) (args : List SX) (d1 : Option Nat) (keep : List Nat) (rsc : SC),
   T = tailT C f k k0 d0 d9 cs m args d1 keep rsc ∧ b = tailB ty f k d0 d9 cs m args d1 rsc.unkeep ∧ (C.T ty).flat = true ∧ (∃ i z v, C.P.info? ty = some i ∧ i.size = 1 ∧ i.zero = some z ∧ z.cells = #[v] ∧ Value.isOne v = true) ∧
   dstsOk (fun d => d != d0 && !cs.contains d) m = true ∧ cs.contains d0 = false ∧ cs[k0]? = some k ∧ cs.contains d9 = false ∧ rsc.plain = true
theorem tail_sound (hC : C.Ok) {c : Code} {T : (Exit → St → Prop) → St → Prop} {b : SC} {Q : Exit → St → Prop} (hok : TailOk C T b) (hs : slimC n c = some b.strip) (h : T Q s) (hr : Rel w0 F0 X n ρ s a w) :
  c.wp C.P (Arr w0 F0 X n ρ Q) a w := by
 obtain ⟨ty, f, k, k0, d0, d9, cs, m, args, d1, keep, rsc, rfl, rfl, hT, ⟨ti, z, zv, hti, htz, htz2, hzc, hz1⟩, hm, hd0, hkc, hd9, hpl⟩ := hok
 replace hm : ∀ r ∈ m, ∀ d, r.dst = some d → d ≠ d0 ∧ d ∉ cs := fun r hr d hd => by
  have := dstsOkE hm r hr d hd
  simpa using this
 replace hd0 : d0 ∉ cs := by simpa using hd0
 replace hd9 : d9 ∉ cs := by simpa using hd9
 have hk1 : k ∈ cs := List.mem_of_getElem? hkc
 have hk9 : k ≠ d9 := fun e => hd9 (e ▸ hk1)
 obtain ⟨c2, c', rfl, hs2, hs'⟩ := slimC_seq hs
 obtain ⟨c3, c'', rfl, hs3, hs''⟩ := slimC_seq hs'
 obtain ⟨c4, c5, rfl, hs4, hs5⟩ := slimC_seq hs''
 obtain ⟨id2, ops2, rfl, hro2⟩ := slimC_reg hs2
 obtain ⟨id3, ops3, rfl, hro3⟩ := slimC_reg hs3
 obtain ⟨id4, ops4, rfl, hro4⟩ := slimC_reg hs4
 obtain ⟨hde, hsz, hfx, F, S, hrx⟩ := hr
 -- the cell
 obtain ⟨l2, g2⟩ := slimRs_get hro2
 have e2 : ops2.size = 1 := by simpa using l2
 obtain ⟨o2, ho2⟩ : ∃ o, ops2[0]? = some o := ⟨ops2[0], by simp [e2]⟩
 obtain ⟨r2, hr2, hsr2⟩ := g2 0 o2 (by simpa using ho2)
 simp only [List.map_cons, List.map_nil, List.getElem?_cons_zero, Option.some.injEq] at hr2
 subst hr2
 obtain ⟨q1, q2, q3, q4⟩ := slimR_E (r := ⟨some k, .alc ty, none⟩) rfl hsr2
 change slimB o2.op = .alc ty at q3
 have hop2 : o2.op = .alloc ty := by
  rcases slimB_some q3 with h | h
  ·cases h
  ·exact slimO_alc h
 refine wp_seq (wp_region ?_)
 rw [e2]
 refine wpOps_one (C := C) ho2 q2 ?_
 have hexec2 : (execOp a.eval o2).run C.P w = .ok (.value (.pointer (some ⟨w.heap.size, 0, none⟩))) (w.alloc (.cells #[zv] ty)) := by
  obtain ⟨dst, op, ty', pos, after, guard⟩ := o2
  simp only at hop2
  subst hop2
  simp [execOp, Instr.alloc, run_zeroValue' hti htz2, newVar, newRow, newObj, Sem.run, hzc]
 unfold Oper.wp
 rw [hexec2, Oper.upon_value]
 have hq1 : some k = o2.dst := q1
 rw [← hq1] at q4 ⊢
 show Exit.then _ _ .normal _ _
 have hold : ∀ b, b < w.heap.size → (w.alloc (.cells #[zv] ty)).heap[b]? = w.heap[b]? := by
  intro b hb
  show (w.heap.push _)[b]? = _
  rw [Array.getElem?_push, if_neg (by omega)]
 have hnew : (w.alloc (.cells #[zv] ty)).heap[w.heap.size]? = some (.cells #[zv] ty) := by
  show (w.heap.push _)[_]? = _
  simp
 have hsz1 : (w.alloc (.cells #[zv] ty)).heap.size = w.heap.size + 1 := by simp
 have hrx1 := hrx.grow hold (by rw [hsz1]; omega) rfl rfl rfl
 generalize hw1 : w.alloc (.cells #[zv] ty) = w1 at *
 generalize hpv : Value.pointer (some ⟨w.heap.size, 0, none⟩) = pv at *
 have hFn : ¬ F w.heap.size := fun h => Nat.lt_irrefl _ (hrx.Flt _ h)
 have hSn : ∀ u, ¬ S u w.heap.size := fun u h => Nat.lt_irrefl _ (hrx.Slt _ _ h)
 have hbase : w0.heap.size ≤ w.heap.size := hrx.size
 obtain ⟨p1, p2, p3⟩ := put_tm (n := n) (dst := some k) (a := a) pv hsz q4
 have hrx2 := hrx1.setHole (t := k) (v := pv)
 rw [show upd (fun t => a.tmps.getD t undef) k pv = fun t => (a.put (some k) pv).tmps.getD t undef from p1.symm] at hrx2
 have tk1 : (a.put (some k) pv).tmps.getD k undef = pv := by
  have := congrFun p1 k
  simp only [finT] at this
  rw [upd_same] at this
  exact this
 have hSn1 : ∀ u, ¬ updS S k (fun _ => False) u w.heap.size := by
  intro u h; simp only [updS] at h; split at h
  ·exact h
  ·exact hSn u h
 have hfx1 : ∀ i ∈ n.fx, (a.put (some k) pv).tmps.getD i undef = ρ i := by
  intro i hi
  have := congrFun p1 i
  simp only [finT] at this
  rw [upd_ne _ _ (fun e => ?_)] at this
  ·exact this.trans (hfx i hi)
  ·simp only [dstOk, Bool.and_eq_true, Bool.not_eq_true', List.contains_eq_mem, decide_eq_false_iff_not] at q4
   exact q4.2 (e ▸ hi)
 have hde1 := p3.trans hde
 generalize a.put (some k) pv = a1 at *
 -- the closure, and it in the cell
 obtain ⟨l3, g3⟩ := slimRs_get hro3
 have e3 : ops3.size = 2 := by simpa using l3
 obtain ⟨o3, ho3⟩ : ∃ o, ops3[0]? = some o := ⟨ops3[0], by simp [e3]⟩
 obtain ⟨o4, ho4⟩ : ∃ o, ops3[1]? = some o := ⟨ops3[1], by simp [e3]⟩
 obtain ⟨r3, hr3, hsr3⟩ := g3 0 o3 (by simpa using ho3)
 obtain ⟨r4, hr4, hsr4⟩ := g3 1 o4 (by simpa using ho4)
 simp only [List.map_cons, List.map_nil, List.getElem?_cons_zero, List.getElem?_cons_succ, Option.some.injEq] at hr3 hr4
 subst hr3 hr4
 obtain ⟨u1, u2, u3, u4⟩ := slimR_E (r := ⟨some d9, .mkf f (cs.map .t), none⟩) rfl hsr3
 obtain ⟨v1, v2, v3, v4⟩ := slimR_E (r := ⟨none, .sto ty (.t k) (.t d9), none⟩) rfl hsr4
 change slimB o3.op = .mkf f (cs.map .t) at u3
 change slimB o4.op = .sto ty (.t k) (.t d9) at v3
 obtain ⟨cops, hop3, hcops⟩ : ∃ cs' : Array Operand, o3.op = .makeFunc (.func f) #[] cs' ∧ slimXs cs'.toList = some (cs.map .t) := by
  rcases slimB_some u3 with h | h
  ·cases h
  ·exact slimO_mkf h
 have hcops' := slimXs_t hcops
 obtain ⟨sa, sb, hop4, hsa, hsb⟩ : ∃ a b, o4.op = .store ty a b ∧ slimX a = some (.t k) ∧ slimX b = some (.t d9) := by
  rcases slimB_some v3 with h | h
  ·cases h
  ·exact slimO_sto h
 have := slimX_t hsa; subst this
 have := slimX_t hsb; subst this
 refine wp_seq (wp_region ?_)
 rw [e3]
 refine wpOps_one (C := C) (l := [1]) ho3 u2 ?_
 have hexec3 : (execOp a1.eval o3).run C.P w1 = .ok (.value (.func (.func f) #[] (cs.map fun j => a1.tmps.getD j undef).toArray)) w1 := by
  obtain ⟨dst, op, ty', pos, after, guard⟩ := o3
  simp only at hop3
  subst hop3
  have : cops.map a1.eval = (cs.map fun j => a1.tmps.getD j undef).toArray := by
   apply Array.ext'
   rw [Array.toList_map, hcops', List.map_map]
   rfl
  rw [← this]
  simp [execOp]
  rfl
 unfold Oper.wp
 rw [hexec3, Oper.upon_value]
 have hu1 : some d9 = o3.dst := u1
 rw [← hu1] at u4 ⊢
 generalize hfv : Value.func (.func f) #[] (cs.map fun j => a1.tmps.getD j undef).toArray = fv at *
 have hfv1 : Value.isOne fv = true := by rw [← hfv]; rfl
 obtain ⟨y1, y2, y3⟩ := put_tm (n := n) (dst := some d9) (a := a1) fv p2 u4
 have hrx3 := hrx2.setHole (t := d9) (v := fv)
 rw [show upd (fun t => a1.tmps.getD t undef) d9 fv = fun t => (a1.put (some d9) fv).tmps.getD t undef from y1.symm] at hrx3
 have tmn : ∀ j, j ≠ d9 → (a1.put (some d9) fv).tmps.getD j undef = a1.tmps.getD j undef := by
  intro j hj
  have := congrFun y1 j
  simp only [finT] at this
  rw [upd_ne _ _ hj] at this
  exact this
 have tk9 : (a1.put (some d9) fv).tmps.getD d9 undef = fv := by
  have := congrFun y1 d9
  simp only [finT] at this
  rw [upd_same] at this
  exact this
 have hSn2 : ∀ u, ¬ updS (updS S k (fun _ => False)) d9 (fun _ => False) u w.heap.size := by
  intro u h; simp only [updS] at h; split at h
  ·exact h
  ·exact hSn1 u h
 have hfx3 : ∀ i ∈ n.fx, (a1.put (some d9) fv).tmps.getD i undef = ρ i := by
  intro i hi
  rw [tmn i (fun e => ?_)]
  ·exact hfx1 i hi
  ·simp only [dstOk, Bool.and_eq_true, Bool.not_eq_true', List.contains_eq_mem, decide_eq_false_iff_not] at u4
   exact u4.2 (e ▸ hi)
 have hde3 := y3.trans hde1
 have hfv2 : fv = .func (.func f) #[] (cs.map fun j => (a1.put (some d9) fv).tmps.getD j undef).toArray := by
  have : (cs.map fun j => (a1.put (some d9) fv).tmps.getD j undef) = cs.map fun j => a1.tmps.getD j undef :=
   List.map_congr_left fun j hj => tmn j (fun e => hd9 (e ▸ hj))
  rw [this, hfv]
 have tkk : (a1.put (some d9) fv).tmps.getD k undef = pv := (tmn k hk9).trans tk1
 generalize a1.put (some d9) fv = a3 at *
 refine wpOps_one (C := C) (l := []) ho4 v2 ?_
 obtain ⟨w2, m1, m2, m3, m4, m5, m6, m7⟩ := run_storeCells' (P := C.P) (b := w.heap.size) (o := 0) (e := ty) (fr := (0, 0)) [fv] 0 #[zv] w1 [] [zv] [] hnew (fun o _ h => absurd h.2 (Nat.not_lt_zero _)) rfl rfl rfl (fun v hv => by simp at hv; subst hv; exact hfv1)
 have hexec4 : (execOp a3.eval o4).run C.P w1 = .ok .skip w2 := by
  obtain ⟨dst, op, ty', pos, after, guard⟩ := o4
  simp only at hop4
  subst hop4
  have z1 : a3.eval (.tmp k) = .pointer (some ⟨w.heap.size, 0, none⟩) := by rw [hpv]; exact tkk
  have z2 : a3.eval (.tmp d9) = fv := tk9
  have z3 : fv.cells = #[fv] := by rw [← hfv]; rfl
  simp [execOp, z1, z2, Instr.storeAt, Instr.sureAddr, storeVar, run_sizeOf' hti, htz, z3, m1]
 unfold Oper.wp
 rw [hexec4, Oper.upon_skip]
 have hv1 : none = o4.dst := v1
 rw [← hv1]
 show wpOps C.P ops3 _ [] a3 w2
 show Exit.then _ _ .normal _ _
 have hrx4 := (hrx3.off (b := w.heap.size) hbase hFn hSn2 m3 m4 m5 m6 m7).addF hbase (by rw [m4, hsz1]; omega) hSn2
 refine wp_seq (cell_region (K := fun s' => onW (wpC C rsc Q) s') (b := w.heap.size) (g := f) (k0 := k0) (cs := cs) hC hro4 hT hm hd0 hkc hde3 y2 hfx3 hrx4 (.inr rfl) (tkk.trans hpv.symm) (by rw [m2, ← hfv2]; rfl) ?_ ?_)
 ·refine wpRs_of_T (fun _ s1 => ?_) h
  rintro ⟨ps, r, z1, z2, z3, z4, z5, z6, z7⟩
  exact ⟨ps, r, z1, z2, z3, z4, z5, z6, wpRs_of_T (fun _ s h => .inr ⟨_, kpA_weak _ _, h⟩) z7⟩
 ·intro s' a' w' hk' hr'
  obtain ⟨s'', h1, h2⟩ := hr'.onW hk'
  exact wpC_sound hC c5 hs5 (SC.bare_unkeep rsc (SC.plain_hook rsc hpl)) (wpC_strip rsc h1) h2
theorem OkAt.of_tail (hC : C.Ok) {f : FuncId} {fn : Func} {c : Code} {sc : SC} {fx : List Nat} {as outs : List AV} {r : AV} (hf : C.P.funcs[f]? = some fn) (hb : fn.body = some c)
  (hname : (fn.name == "runtime.NumGoroutine") = false) (hs : slimC ⟨fn.ntmps, fx⟩ c = some sc.strip) (hn : as.length ≤ fn.ntmps) (hk : sc.hook (TailOk C))
  (h : ∀ Q : Exit → St → Prop, (∀ s, onW (Ends C fx fn.results.toList r outs) s → Q .ret s) → (∀ s, onW (Ends C fx fn.results.toList r outs) s → Q .normal s) → wpC C sc Q (stA (num 0 as))) : OkAt C f as r outs := by
 intro w F X S vs hl hr
 refine gets_of_code (fx := fx) hC hf hb hname hn hl hr fun a hrel htm => ?_
 refine wpC_soundH hC (H := TailOk C) (fun c T b Q s a w hT hsl ht hr => tail_sound hC hT hsl ht hr) c (by rw [SC.strip_unkeep]; exact hs) (SC.bare_unkeep sc hk) (wpC_strip sc ?_) hrel
 rw [stL_num]
 exact h _ (fun s h => ⟨.inr rfl, h⟩) (fun s h => ⟨.inl rfl, h⟩)
theorem w_tail {Q : Exit → St → Prop} {l : List (Nat × AV)} {f : FuncId} {k k0 d0 d9 : Nat} {cs : List Nat} {m : List RO} {args : List SX} {d1 : Option Nat} {keep : List Nat} {rsc b : SC} (l' : List (Nat × AV))
  (h : ∀ P : List (Nat × AV) → Prop, P l' → cellP C f k k0 d0 cs m args d1 [] keep P (fin (fin (stA l) (some k) .hole) (some d9) .hole)) (hk : wpC C rsc Q (stA l')) : wpC C (.cus (tailT C f k k0 d0 d9 cs m args d1 keep rsc) b) Q (stA l) :=
 fun Q' hQ => h (fun l => wpC C rsc Q' (stA l)) (wpC_mono rsc hQ hk)
end
end Go.Fw
