/- Part of a proof that a law returns true for every input. No condition. -/
import Derived.Test.YtgpmnlkgmadglaaGreatDoorFwJ
namespace Go.c0
section
variable {C : ck} {w0 w : World} {F0 X F bL : Nat → Prop} {S aT : Nat → Nat → Prop} {n : Fr} {ρ : Nat → Value} {s aA : ao} {aB j_ : Nat → Value} {a : Act} {av : I} {Q : Exit → Act → World → Prop} {aL : World}
theorem bP.off (h : bP w0 F0 X F S s aB w) {b : Nat} (bc : w0.heap.size ≤ b) (bu : ¬ F b) (b8 : ∀ u, ¬ S u b) (hw : ∀ c, c ≠ b → aL.heap[c]? = w.heap[c]?) (ad : aL.heap.size = w.heap.size)
  (ag : aL.os = w.os) (ah : aL.tape = w.tape) (aI : aL.output = w.output) : bP w0 F0 X F S s aB aL where
 hq := h.hq
 hM := h.hM
 fA := fun c aw => by rw [ad]; exact h.fA c aw
 e4 := fun t c aw => by rw [ad]; exact h.e4 t c aw
 gi := h.gi
 fK := h.fK
 eh := h.eh
 dC := fun t => aG.frame (Sx := S) (fun c aw => hw c (fun e => bu (e ▸ aw))) (fun _ h => h) (fun x c aw => hw c (fun e => b8 x (e ▸ aw))) h.dC _ _ _ (fun c aw => hw c (fun e => b8 t (e ▸ aw))) (h.dC t)
 old := fun c aw kW => (hw c (by omega)).trans (h.old c aw kW)
 size := by rw [ad]; exact h.size
 os := ag.trans h.os
 tape := ah.trans h.tape
 output := aI.trans h.output
theorem bP.Kl (h : bP w0 F0 X F S s aB w) {t : Nat} {v : Value} : bP w0 F0 X F (gu S t (fun _ => False)) (c0.fin s (some t) .hole) (dw aB t v) w := by
 have : c0.fin s (some t) .hole = dw s t .hole := by simp [c0.fin, I.plain]
 rw [this]
 exact h.tc rfl (by rw [aG]; trivial)
theorem bP.S9 (h : bP w0 F0 X F S s aB w) {b : Nat} (bc : w0.heap.size ≤ b) (ab : b < w.heap.size) (b8 : ∀ u, ¬ S u b) : bP w0 F0 X (fun c => F c ∨ c = b) S s aB w where
 hq := fun c aw => .inl (h.hq c aw)
 hM := fun c aw => by
  rcases aw with aw | rfl
  ·exact h.hM c aw
  ·exact .inr (.inr bc)
 fA := fun c aw => by
  rcases aw with aw | rfl
  ·exact h.fA c aw
  ·exact ab
 e4 := h.e4
 gi := fun t c aw br => by
  rcases br with br | rfl
  ·exact h.gi t c aw br
  ·exact b8 t aw
 fK := h.fK
 eh := h.eh
 dC := fun t => aG.frame (fun _ _ => rfl) (fun b ab => .inl ab) (fun _ _ _ => rfl) h.dC _ _ _ (fun _ _ => rfl) (h.dC t)
 old := h.old
 size := h.size
 os := h.os
 tape := h.tape
 output := h.output
theorem Ep {c : Code} {x y : J} (h : bj n c = some (.seq x y)) : ∃ a b, c = .seq a b ∧ bj n a = some x ∧ bj n b = some y := by
 cases c with
 | seq a b =>
   simp only [bj] at h
   split at h
   ·rename_i tr IF aq bt
    cases h
    exact ⟨a, b, rfl, aq, bt⟩
   ·cases h
 | region id ops draw =>
   cases draw with
   | false => simp only [bj, Option.map_eq_some_iff] at h; obtain ⟨r, ag, ah⟩ := h; cases ah
   | true =>
     simp only [bj] at h
     split at h
     ·simp only [Option.map_eq_some_iff] at h; obtain ⟨r, ag, ah⟩ := h; cases ah
     ·cases h
 | cond c a b => simp only [bj] at h; split at h <;> cases h
 | block id b => simp only [bj, Option.map_eq_some_iff] at h; obtain ⟨r, ag, ah⟩ := h; cases ah
 | loop b => simp only [bj, Option.map_eq_some_iff] at h; obtain ⟨r, ag, ah⟩ := h; cases ah
 | _ => simp [bj] at h
theorem um {ops : Array Oper} {r : b2} {o : Oper} (bT : r.guard = none) (h : o4 n ops o = some r.un) : r.dst = o.dst ∧ o.guard = none ∧ n_ o.op = r.bG.base ∧ k8 n o.dst = true := by
 unfold o4 at h
 split at h
 ·rename_i ai
  split at h
  ·rename_i SQ hO
   simp only [b2.un, Option.some.injEq, b2.mk.injEq] at h
   obtain ⟨aS, aX, aQ⟩ := h
   refine ⟨aS.symm, ?_, aX, ai⟩
   rw [aQ, bT] at hO
   cases cg : o.guard with
   | none => rfl
   | some DH =>
     rw [cg] at hO; simp only [v8] at hO; split at hO <;> cases hO
  ·cases h
 ·cases h
theorem Er {ops : Array Oper} {i : Nat} {o : Oper} {l : List Nat} (cg : ops[i]? = some o) (bT : o.guard = none) (h : o.wp C.P a w (wpOps C.P ops Q l) Q) : wpOps C.P ops Q (i :: l) a w := by
 simp only [wpOps, cg]
 show (if Region.wanted o (yielded ops a.tmps) = true then o.wp C.P a w _ Q ∨ (o.asks C.P a w ∧ LetsOut Q) else _)
 rw [if_pos (y0 bT)]
 exact .inl h
theorem S_ {op : Op} {T : TypeId} (h : c1 op = some (.gL T)) : op = .alloc T := by
 cases op with
 | alloc wa => simp only [c1, Option.some.injEq, fX.gL.injEq] at h; rw [h]
 | call c =>
   obtain ⟨callee, mf, argTypes⟩ := c
   simp only [c1] at h
   split at h <;> (try split at h) <;> (try split at h) <;> (try simp [Option.map_eq_some_iff] at h)
 | makeFunc fn first cs =>
   cases fn <;> simp only [c1] at h <;> first | (cases h; done) | (split at h <;> simp at h)
 | slice T x dc al hJ =>
   cases hJ <;> simp only [c1] at h <;> first | (cases h; done) | (split at h <;> simp at h)
 | _ => simp only [c1] at h <;> first | (cases h; done) | (simp at h; done) | (split at h <;> simp at h)
theorem Ta {op : Op} {T : TypeId} {x y : aF} (h : c1 op = some (.fU T x y)) : ∃ a b, op = .store T a b ∧ dH a = some x ∧ dH b = some y := by
 cases op with
 | store wa a b =>
   simp only [c1] at h
   split at h
   ·rename_i dr kq aq bt
    simp only [Option.some.injEq, fX.fU.injEq] at h
    obtain ⟨rfl, rfl, rfl⟩ := h
    exact ⟨a, b, rfl, aq, bt⟩
   ·cases h
 | call c =>
   obtain ⟨callee, mf, argTypes⟩ := c
   simp only [c1] at h
   split at h <;> (try split at h) <;> (try split at h) <;> (try simp [Option.map_eq_some_iff] at h)
 | makeFunc fn first cs =>
   cases fn <;> simp only [c1] at h <;> first | (cases h; done) | (split at h <;> simp at h)
 | slice T x dc al hJ =>
   cases hJ <;> simp only [c1] at h <;> first | (cases h; done) | (split at h <;> simp at h)
 | _ => simp only [c1] at h <;> first | (cases h; done) | (simp at h; done) | (split at h <;> simp at h)
theorem Tb {op : Op} {g : FuncId} {xs : List aF} (h : c1 op = some (.il g xs)) : ∃ cs : Array Operand, op = .makeFunc (.func g) #[] cs ∧ n4 cs.toList = some xs := by
 cases op with
 | makeFunc fn first cs =>
   cases fn with
   | func f =>
     simp only [c1] at h
     split at h
     ·rename_i Df
      simp only [Option.map_eq_some_iff] at h
      obtain ⟨nm, hj, h⟩ := h
      cases h
      have Dg : first = #[] := by simpa using Df
      subst Dg
      exact ⟨cs, rfl, hj⟩
     ·cases h
   | _ => simp [c1] at h
 | call c =>
   obtain ⟨callee, mf, argTypes⟩ := c
   simp only [c1] at h
   split at h <;> (try split at h) <;> (try split at h) <;> (try simp [Option.map_eq_some_iff] at h)
 | slice T x dc al hJ =>
   cases hJ <;> simp only [c1] at h <;> first | (cases h; done) | (split at h <;> simp at h)
 | _ => simp only [c1] at h <;> first | (cases h; done) | (simp at h; done) | (split at h <;> simp at h)
theorem Km : ∀ {os : List Operand} {cs : List Nat}, n4 os = some (cs.map .t) → os = cs.map .tmp
 | [], cs, h => by
   simp only [n4, Option.some.injEq] at h
   cases cs with
   | nil => rfl
   | cons c cs => cases h
 | o :: os, cs, h => by
   simp only [n4] at h
   split at h
   ·rename_i x HN ag ah
    simp only [Option.some.injEq] at h
    cases cs with
    | nil => cases h
    | cons c cs =>
      simp only [List.map_cons, List.cons.injEq] at h
      obtain ⟨rfl, rfl⟩ := h
      rw [zk ag, Km ah]; rfl
   ·cases h
def Es (C : ck) (f : FuncId) (k k0 d0 d9 : Nat) (cs : List Nat) (m : List b2) (args : List aF) (d1 : Option Nat) (keep : List Nat) (ld : J) : (Exit → ao → Prop) → ao → Prop :=
 fun Q s => Kf C f k k0 d0 cs m args d1 [] keep (cW C ld Q) (fin (fin s (some k) .hole) (some d9) .hole)
def Kn (T : TypeId) (f : FuncId) (k d0 d9 : Nat) (cs : List Nat) (m : List b2) (args : List aF) (d1 : Option Nat) (ld : J) : J :=
 .seq (.R [⟨some k, .gL T, none⟩] none) (.seq (.R [⟨some d9, .il f (cs.map .t), none⟩, ⟨none, .fU T (.t k) (.t d9), none⟩] none)
  (.seq (.R (⟨some d0, .b4 T (.t k), none⟩ :: (m ++ [⟨d1, .call (.t d0) args, none⟩])) none) ld))
def wI (C : ck) (T : (Exit → ao → Prop) → ao → Prop) (b : J) : Prop :=
 ∃ (ty : TypeId) (f : FuncId) (k k0 d0 d9 : Nat) (cs : List Nat) (m : List b2) (args : List aF) (d1 : Option Nat) (keep : List Nat) (ld : J),
   T = Es C f k k0 d0 d9 cs m args d1 keep ld ∧ b = Kn ty f k d0 d9 cs m args d1 ld.ks ∧ (C.T ty).flat = true ∧ (∃ i z v, C.P.info? ty = some i ∧ i.size = 1 ∧ i.zero = some z ∧ z.cells = #[v] ∧ Value.gH v = true) ∧
   El (fun d => d != d0 && !cs.contains d) m = true ∧ cs.contains d0 = false ∧ cs[k0]? = some k ∧ cs.contains d9 = false ∧ ld.plain = true
theorem Tc (bl : C.e0) {c : Code} {T : (Exit → ao → Prop) → ao → Prop} {b : J} {Q : Exit → ao → Prop} (gA : wI C T b) (ad : bj n c = some b.strip) (h : T Q s) (aV : Rel w0 F0 X n ρ s a w) :
  c.wp C.P (rP w0 F0 X n ρ Q) a w := by
 obtain ⟨ty, f, k, k0, d0, d9, cs, m, args, d1, keep, ld, rfl, rfl, l8, ⟨awT, z, qK, Ko, Td, Te, lo, awU⟩, hm, kH, uk, zq, fT⟩ := gA
 replace hm : ∀ r ∈ m, ∀ d, r.dst = some d → d ≠ d0 ∧ d ∉ cs := fun r aV d ai => by
  have := Kg hm r aV d ai
  simpa using this
 replace kH : d0 ∉ cs := by simpa using kH
 replace zq : d9 ∉ cs := by simpa using zq
 have zl : k ∈ cs := List.mem_of_getElem? uk
 have Tf : k ≠ d9 := fun e => zq (e ▸ zl)
 obtain ⟨cu, vS, rfl, mJ, fj⟩ := Ep ad
 obtain ⟨yW, awV, rfl, zr, Tg⟩ := Ep fj
 obtain ⟨vw, DA, rfl, Th, Ti⟩ := Ep Tg
 obtain ⟨awW, Et, rfl, Tj⟩ := zn mJ
 obtain ⟨awX, uq, rfl, Tk⟩ := zn zr
 obtain ⟨awY, awZ, rfl, Tl⟩ := zn Th
 obtain ⟨iL, eH, hs, F, S, qp⟩ := aV
 obtain ⟨l2, g2⟩ := wg Tj
 have aX : Et.size = 1 := by simpa using l2
 obtain ⟨kL, zd⟩ : ∃ o, Et[0]? = some o := ⟨Et[0], by simp [aX]⟩
 obtain ⟨bg, y8, Tm⟩ := g2 0 kL (by simpa using zd)
 simp only [List.map_cons, List.map_nil, List.getElem?_cons_zero, Option.some.injEq] at y8
 subst y8
 obtain ⟨gM, gJ, iK, ik⟩ := um (r := ⟨some k, .gL ty, none⟩) rfl Tm
 change n_ kL.op = .gL ty at iK
 have Kp : kL.op = .alloc ty := by
  rcases mG iK with h | h
  ·cases h
  ·exact S_ h
 refine wp_seq (wp_region ?_)
 rw [aX]
 refine Er (C := C) zd gJ ?_
 have Tn : (execOp a.eval kL).run C.P w = .ok (.value (.pointer (some ⟨w.heap.size, 0, none⟩))) (w.alloc (.cells #[qK] ty)) := by
  obtain ⟨dst, op, zj, pos, after, guard⟩ := kL
  simp only at Kp
  subst Kp
  simp [execOp, Instr.alloc, te Ko Te, newVar, newRow, newObj, Sem.run, lo]
 unfold Oper.wp
 rw [Tn, Oper.upon_value]
 have Ej : some k = kL.dst := gM
 rw [← Ej] at ik ⊢
 show Exit.then _ _ .normal _ _
 have hold : ∀ b, b < w.heap.size → (w.alloc (.cells #[qK] ty)).heap[b]? = w.heap[b]? := by
  intro b ab
  show (w.heap.push _)[b]? = _
  rw [Array.getElem?_push, if_neg (by omega)]
 have ka : (w.alloc (.cells #[qK] ty)).heap[w.heap.size]? = some (.cells #[qK] ty) := by
  show (w.heap.push _)[_]? = _
  simp
 have yN : (w.alloc (.cells #[qK] ty)).heap.size = w.heap.size + 1 := by simp
 have To := qp.grow hold (by rw [yN]; omega) rfl rfl rfl
 generalize aw0 : w.alloc (.cells #[qK] ty) = h7 at *
 generalize Kq : Value.pointer (some ⟨w.heap.size, 0, none⟩) = pS at *
 have Tp : ¬ F w.heap.size := fun h => Nat.lt_irrefl _ (qp.fA _ h)
 have Tq : ∀ u, ¬ S u w.heap.size := fun u h => Nat.lt_irrefl _ (qp.e4 _ _ h)
 have oY : w0.heap.size ≤ w.heap.size := qp.size
 obtain ⟨fp, gW, h3⟩ := v_ (n := n) (dst := some k) (a := a) pS eH ik
 have Kr := To.Kl (t := k) (v := pS)
 rw [show dw (fun t => a.tmps.getD t undef) k pS = fun t => (a.put (some k) pS).tmps.getD t undef from fp.symm] at Kr
 have Tr : (a.put (some k) pS).tmps.getD k undef = pS := by
  have := congrFun fp k
  simp only [nU] at this
  rw [l7] at this
  exact this
 have Ts : ∀ u, ¬ gu S k (fun _ => False) u w.heap.size := by
  intro u h; simp only [gu] at h; split at h
  ·exact h
  ·exact Tq u h
 have Tt : ∀ i ∈ n.fx, (a.put (some k) pS).tmps.getD i undef = ρ i := by
  intro i al
  have := congrFun fp i
  simp only [nU] at this
  rw [jH _ _ (fun e => ?_)] at this
  ·exact this.trans (hs i al)
  ·simp only [k8, Bool.and_eq_true, Bool.not_eq_true', List.contains_eq_mem, decide_eq_false_iff_not] at ik
   exact ik.2 (e ▸ al)
 have Tu := h3.trans iL
 generalize a.put (some k) pS = U at *
 obtain ⟨v7, g3⟩ := wg Tk
 have aQ : uq.size = 2 := by simpa using v7
 obtain ⟨n7, Ks⟩ : ∃ o, uq[0]? = some o := ⟨uq[0], by simp [aQ]⟩
 obtain ⟨qy, Kt⟩ : ∃ o, uq[1]? = some o := ⟨uq[1], by simp [aQ]⟩
 obtain ⟨dm, zm, Tv⟩ := g3 0 n7 (by simpa using Ks)
 obtain ⟨ch, Ku, Tw⟩ := g3 1 qy (by simpa using Kt)
 simp only [List.map_cons, List.map_nil, List.getElem?_cons_zero, List.getElem?_cons_succ, Option.some.injEq] at zm Ku
 subst zm Ku
 obtain ⟨qu, yR, Da, vM⟩ := um (r := ⟨some d9, .il f (cs.map .t), none⟩) rfl Tv
 obtain ⟨v1, v2, v3, v4⟩ := um (r := ⟨none, .fU ty (.t k) (.t d9), none⟩) rfl Tw
 change n_ n7.op = .il f (cs.map .t) at Da
 change n_ qy.op = .fU ty (.t k) (.t d9) at v3
 obtain ⟨Tx, Kv, Ty⟩ : ∃ nm : Array Operand, n7.op = .makeFunc (.func f) #[] nm ∧ n4 nm.toList = some (cs.map .t) := by
  rcases mG Da with h | h
  ·cases h
  ·exact Tb h
 have Tz := Km Ty
 obtain ⟨C7, vK, Kw, Eu, TA⟩ : ∃ a b, qy.op = .store ty a b ∧ dH a = some (.t k) ∧ dH b = some (.t d9) := by
  rcases mG v3 with h | h
  ·cases h
  ·exact Ta h
 have := zk Eu; subst this
 have := zk TA; subst this
 refine wp_seq (wp_region ?_)
 rw [aQ]
 refine Er (C := C) (l := [1]) Ks yR ?_
 have TB : (execOp U.eval n7).run C.P h7 = .ok (.value (.func (.func f) #[] (cs.map fun j => U.tmps.getD j undef).toArray)) h7 := by
  obtain ⟨dst, op, zj, pos, after, guard⟩ := n7
  simp only at Kv
  subst Kv
  have : Tx.map U.eval = (cs.map fun j => U.tmps.getD j undef).toArray := by
   apply Array.ext'
   rw [Array.toList_map, Tz, List.map_map]
   rfl
  rw [← this]
  simp [execOp]
  rfl
 unfold Oper.wp
 rw [TB, Oper.upon_value]
 have TC : some d9 = n7.dst := qu
 rw [← TC] at vM ⊢
 generalize Ev : Value.func (.func f) #[] (cs.map fun j => U.tmps.getD j undef).toArray = ir at *
 have TD : Value.gH ir = true := by rw [← Ev]; rfl
 obtain ⟨e1, hD, oi⟩ := v_ (n := n) (dst := some d9) (a := U) ir gW vM
 have Kx := Kr.Kl (t := d9) (v := ir)
 rw [show dw (fun t => U.tmps.getD t undef) d9 ir = fun t => (U.put (some d9) ir).tmps.getD t undef from e1.symm] at Kx
 have Ew : ∀ j, j ≠ d9 → (U.put (some d9) ir).tmps.getD j undef = U.tmps.getD j undef := by
  intro j b3
  have := congrFun e1 j
  simp only [nU] at this
  rw [jH _ _ b3] at this
  exact this
 have TE : (U.put (some d9) ir).tmps.getD d9 undef = ir := by
  have := congrFun e1 d9
  simp only [nU] at this
  rw [l7] at this
  exact this
 have Ky : ∀ u, ¬ gu (gu S k (fun _ => False)) d9 (fun _ => False) u w.heap.size := by
  intro u h; simp only [gu] at h; split at h
  ·exact h
  ·exact Ts u h
 have TF : ∀ i ∈ n.fx, (U.put (some d9) ir).tmps.getD i undef = ρ i := by
  intro i al
  rw [Ew i (fun e => ?_)]
  ·exact Tt i al
  ·simp only [k8, Bool.and_eq_true, Bool.not_eq_true', List.contains_eq_mem, decide_eq_false_iff_not] at vM
   exact vM.2 (e ▸ al)
 have TG := oi.trans Tu
 have TH : ir = .func (.func f) #[] (cs.map fun j => (U.put (some d9) ir).tmps.getD j undef).toArray := by
  have : (cs.map fun j => (U.put (some d9) ir).tmps.getD j undef) = cs.map fun j => U.tmps.getD j undef :=
   List.map_congr_left fun j b3 => Ew j (fun e => zq (e ▸ b3))
  rw [this, Ev]
 have Kz : (U.put (some d9) ir).tmps.getD k undef = pS := (Ew k Tf).trans Tr
 generalize U.put (some d9) ir = a3 at *
 refine Er (C := C) (l := []) Kt v2 ?_
 obtain ⟨iz, m1, m2, m3, m4, m5, m6, m7⟩ := yE (P := C.P) (b := w.heap.size) (o := 0) (e := ty) (fr := (0, 0)) [ir] 0 #[qK] h7 [] [qK] [] ka (fun o _ h => absurd h.2 (Nat.not_lt_zero _)) rfl rfl rfl (fun v aN => by simp at aN; subst aN; exact TD)
 have TI : (execOp a3.eval qy).run C.P h7 = .ok .skip iz := by
  obtain ⟨dst, op, zj, pos, after, guard⟩ := qy
  simp only at Kw
  subst Kw
  have wG : a3.eval (.tmp k) = .pointer (some ⟨w.heap.size, 0, none⟩) := by rw [Kq]; exact Kz
  have z2 : a3.eval (.tmp d9) = ir := TE
  have z3 : ir.cells = #[ir] := by rw [← Ev]; rfl
  simp [execOp, wG, z2, Instr.storeAt, Instr.sureAddr, storeVar, jX Ko, Td, z3, m1]
 unfold Oper.wp
 rw [TI, Oper.upon_skip]
 have Ex : none = qy.dst := v1
 rw [← Ex]
 show wpOps C.P uq _ [] a3 iz
 show Exit.then _ _ .normal _ _
 have TJ := (Kx.off (b := w.heap.size) oY Tp Ky m3 m4 m5 m6 m7).S9 oY (by rw [m4, yN]; omega) Ky
 refine wp_seq (J8 (K := fun aA => el (cW C ld Q) aA) (b := w.heap.size) (g := f) (k0 := k0) (cs := cs) bl Tl l8 hm kH uk TG hD TF TJ (.inr rfl) (Kz.trans Kq.symm) (by rw [m2, ← TH]; rfl) ?_ ?_)
 ·refine rT (fun _ s1 => ?_) h
  rintro ⟨ps, r, wG, z2, z3, z4, z5, TK, TL⟩
  exact ⟨ps, r, wG, z2, z3, z4, z5, TK, rT (fun _ s h => .inr ⟨_, Kh _ _, h⟩) TL⟩
 ·intro aA cK aL kI eI
  obtain ⟨aw1, ag, ah⟩ := eI.el kI
  exact IH bl DA Ti (J.y5 ld (J.Iz ld fT)) (y6 ld ag) ah
theorem bh.TM (bl : C.e0) {f : FuncId} {fn : Func} {c : Code} {dq : J} {fx : List Nat} {as outs : List I} {r : I} (br : C.P.funcs[f]? = some fn) (ab : fn.body = some c)
  (kt : (fn.name == "runtime.NumGoroutine") = false) (ad : bj ⟨fn.ntmps, fx⟩ c = some dq.strip) (aY : as.length ≤ fn.ntmps) (az : dq.mg (wI C))
  (h : ∀ Q : Exit → ao → Prop, (∀ s, el (Ends C fx fn.results.toList r outs) s → Q .ret s) → (∀ s, el (Ends C fx fn.results.toList r outs) s → Q .normal s) → cW C dq Q (aa (num 0 as))) : bh C f as r outs := by
 intro w F X S vs aR aV
 refine DR (fx := fx) bl br ab kt aY aR aV fun a oa eJ => ?_
 refine DQ bl (H := wI C) (fun c T b Q s a w l8 wF bb aV => Tc bl l8 wF bb aV) c (by rw [J.DM]; exact ad) (J.y5 dq az) (y6 dq ?_) oa
 rw [DV]
 exact h _ (fun s h => ⟨.inr rfl, h⟩) (fun s h => ⟨.inl rfl, h⟩)
theorem TN {Q : Exit → ao → Prop} {l : List (Nat × I)} {f : FuncId} {k k0 d0 d9 : Nat} {cs : List Nat} {m : List b2} {args : List aF} {d1 : Option Nat} {keep : List Nat} {ld b : J} (ep : List (Nat × I))
  (h : ∀ P : List (Nat × I) → Prop, P ep → oh C f k k0 d0 cs m args d1 [] keep P (fin (fin (aa l) (some k) .hole) (some d9) .hole)) (az : cW C ld Q (aa ep)) : cW C (.i_ (Es C f k k0 d0 d9 cs m args d1 keep ld) b) Q (aa l) :=
 fun ey Eo => h (fun l => cW C ld ey (aa l)) (DP ld Eo az)
end
end Go.c0
