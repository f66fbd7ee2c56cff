/- Part of a proof that a law returns true for every input. No condition. -/
import Derived.Test.YtbemmmimelklkaaGreatFwJ
namespace Go.dg
section
variable {C : cn} {w0 w : World} {F0 X F bV : Nat → Prop} {S a1 : Nat → Nat → Prop} {n : Fr} {ρ : Nat → Value} {s az : au} {aF jR : Nat → Value} {a : Act} {av : I} {Q : Exit → Act → World → Prop} {aS : World}
theorem bT.off (h : bT w0 F0 X F S s aF w) {b : Nat} (ba : w0.heap.size ≤ b) (bD : ¬ F b) (cb : ∀ u, ¬ S u b) (hw : ∀ c, c ≠ b → aS.heap[c]? = w.heap[c]?) (ah : aS.heap.size = w.heap.size)
  (ai : aS.os = w.os) (aj : aS.tape = w.tape) (aP : aS.output = w.output) : bT w0 F0 X F S s aF aS where
 hP := h.hP
 h7 := h.h7
 gB := fun c ay => by rw [ah]; exact h.gB c ay
 fz := fun t c ay => by rw [ah]; exact h.fz t c ay
 gH := h.gH
 gm := h.gm
 ew := h.ew
 en := fun t => aV.frame (Sx := S) (fun c ay => hw c (fun e => bD (e ▸ ay))) (fun _ h => h) (fun x c ay => hw c (fun e => cb x (e ▸ ay))) h.en _ _ _ (fun c ay => hw c (fun e => cb t (e ▸ ay))) (h.en t)
 old := fun c ay kR => (hw c (by omega)).trans (h.old c ay kR)
 size := by rw [ah]; exact h.size
 os := ai.trans h.os
 tape := aj.trans h.tape
 output := aP.trans h.output
theorem bT.JH (h : bT w0 F0 X F S s aF w) {t : Nat} {v : Value} : bT w0 F0 X F (gq S t (fun _ => False)) (dg.fin s (some t) .hole) (dr aF t v) w := by
 have : dg.fin s (some t) .hole = dr s t .hole := by simp [dg.fin, I.plain]
 rw [this]
 exact h.tm rfl (by rw [aV]; trivial)
theorem bT.RP (h : bT w0 F0 X F S s aF w) {b : Nat} (ba : w0.heap.size ≤ b) (ae : b < w.heap.size) (cb : ∀ u, ¬ S u b) : bT w0 F0 X (fun c => F c ∨ c = b) S s aF w where
 hP := fun c ay => .inl (h.hP c ay)
 h7 := fun c ay => by
  rcases ay with ay | rfl
  ·exact h.h7 c ay
  ·exact .inr (.inr ba)
 gB := fun c ay => by
  rcases ay with ay | rfl
  ·exact h.gB c ay
  ·exact ae
 fz := h.fz
 gH := fun t c ay bF => by
  rcases bF with bF | rfl
  ·exact h.gH t c ay bF
  ·exact cb t ay
 gm := h.gm
 ew := h.ew
 en := fun t => aV.frame (fun _ _ => rfl) (fun b ae => .inl ae) (fun _ _ _ => rfl) h.en _ _ _ (fun _ _ => rfl) (h.en t)
 old := h.old
 size := h.size
 os := h.os
 tape := h.tape
 output := h.output
theorem EG {c : Code} {x y : R} (h : bw n c = some (.seq x y)) : ∃ a b, c = .seq a b ∧ bw n a = some x ∧ bw n b = some y := by
 cases c with
 | seq a b =>
   simp only [bw] at h
   split at h
   ·rename_i tB H7 aA bL
    cases h
    exact ⟨a, b, rfl, aA, bL⟩
   ·cases h
 | region id ops draw =>
   cases draw with
   | false => simp only [bw, Option.map_eq_some_iff] at h; obtain ⟨r, ai, aj⟩ := h; cases aj
   | true =>
     simp only [bw] at h
     split at h
     ·simp only [Option.map_eq_some_iff] at h; obtain ⟨r, ai, aj⟩ := h; cases aj
     ·cases h
 | cond c a b => simp only [bw] at h; split at h <;> cases h
 | block id b => simp only [bw, Option.map_eq_some_iff] at h; obtain ⟨r, ai, aj⟩ := h; cases aj
 | loop b => simp only [bw, Option.map_eq_some_iff] at h; obtain ⟨r, ai, aj⟩ := h; cases aj
 | _ => simp [bw] at h
theorem uA {ops : Array Oper} {r : cI} {o : Oper} (b6 : r.guard = none) (h : oW n ops o = some r.un) : r.dst = o.dst ∧ o.guard = none ∧ nW o.op = r.bM.base ∧ kZ n o.dst = true := by
 unfold oW at h
 split at h
 ·rename_i al
  split at h
  ·rename_i Rw hI
   simp only [cI.un, Option.some.injEq, cI.mk.injEq] at h
   obtain ⟨a4, a_, a3⟩ := h
   refine ⟨a4.symm, ?_, a_, al⟩
   rw [a3, b6] at hI
   cases cm : o.guard with
   | none => rfl
   | some DX =>
     rw [cm] at hI; simp only [wa] at hI; split at hI <;> cases hI
  ·cases h
 ·cases h
theorem EH {ops : Array Oper} {i : Nat} {o : Oper} {l : List Nat} (cm : ops[i]? = some o) (b6 : o.guard = none) (h : o.wp C.P a w (wpOps C.P ops Q l) Q) : wpOps C.P ops Q (i :: l) a w := by
 simp only [wpOps, cm]
 show (if Region.wanted o (yielded ops a.tmps) = true then o.wp C.P a w _ Q ∨ (o.asks C.P a w ∧ LetsOut Q) else _)
 rw [if_pos (zo b6)]
 exact .inl h
theorem RQ {op : Op} {T : TypeId} (h : di op = some (.ey T)) : op = .alloc T := by
 cases op with
 | alloc wc => simp only [di, Option.some.injEq, fZ.ey.injEq] at h; rw [h]
 | call c =>
   obtain ⟨callee, l7, argTypes⟩ := c
   simp only [di] at h
   split at h <;> (try split at h) <;> (try split at h) <;> (try simp [Option.map_eq_some_iff] at h)
 | makeFunc fn first cs =>
   cases fn <;> simp only [di] at h <;> first | (cases h; done) | (split at h <;> simp at h)
 | slice T x de ar hE =>
   cases hE <;> simp only [di] at h <;> first | (cases h; done) | (split at h <;> simp at h)
 | _ => simp only [di] at h <;> first | (cases h; done) | (simp at h; done) | (split at h <;> simp at h)
theorem RR {op : Op} {T : TypeId} {x y : aG} (h : di op = some (.cC T x y)) : ∃ a b, op = .store T a b ∧ dW a = some x ∧ dW b = some y := by
 cases op with
 | store wc a b =>
   simp only [di] at h
   split at h
   ·rename_i cz jS aA bL
    simp only [Option.some.injEq, fZ.cC.injEq] at h
    obtain ⟨rfl, rfl, rfl⟩ := h
    exact ⟨a, b, rfl, aA, bL⟩
   ·cases h
 | call c =>
   obtain ⟨callee, l7, argTypes⟩ := c
   simp only [di] at h
   split at h <;> (try split at h) <;> (try split at h) <;> (try simp [Option.map_eq_some_iff] at h)
 | makeFunc fn first cs =>
   cases fn <;> simp only [di] at h <;> first | (cases h; done) | (split at h <;> simp at h)
 | slice T x de ar hE =>
   cases hE <;> simp only [di] at h <;> first | (cases h; done) | (split at h <;> simp at h)
 | _ => simp only [di] at h <;> first | (cases h; done) | (simp at h; done) | (split at h <;> simp at h)
theorem RS {op : Op} {g : FuncId} {xs : List aG} (h : di op = some (.ia g xs)) : ∃ cs : Array Operand, op = .makeFunc (.func g) #[] cs ∧ nR cs.toList = some xs := by
 cases op with
 | makeFunc fn first cs =>
   cases fn with
   | func f =>
     simp only [di] at h
     split at h
     ·rename_i Dt
      simp only [Option.map_eq_some_iff] at h
      obtain ⟨nb, ig, h⟩ := h
      cases h
      have Du : first = #[] := by simpa using Dt
      subst Du
      exact ⟨cs, rfl, ig⟩
     ·cases h
   | _ => simp [di] at h
 | call c =>
   obtain ⟨callee, l7, argTypes⟩ := c
   simp only [di] at h
   split at h <;> (try split at h) <;> (try split at h) <;> (try simp [Option.map_eq_some_iff] at h)
 | slice T x de ar hE =>
   cases hE <;> simp only [di] at h <;> first | (cases h; done) | (split at h <;> simp at h)
 | _ => simp only [di] at h <;> first | (cases h; done) | (simp at h; done) | (split at h <;> simp at h)
theorem JI : ∀ {os : List Operand} {cs : List Nat}, nR os = some (cs.map .t) → os = cs.map .tmp
 | [], cs, h => by
   simp only [nR, Option.some.injEq] at h
   cases cs with
   | nil => rfl
   | cons c cs => cases h
 | o :: os, cs, h => by
   simp only [nR] at h
   split at h
   ·rename_i x Hk ai aj
    simp only [Option.some.injEq] at h
    cases cs with
    | nil => cases h
    | cons c cs =>
      simp only [List.map_cons, List.cons.injEq] at h
      obtain ⟨rfl, rfl⟩ := h
      rw [zP ai, JI aj]; rfl
   ·cases h
def EI (C : cn) (f : FuncId) (k k0 d0 d9 : Nat) (cs : List Nat) (m : List cI) (args : List aG) (d1 : Option Nat) (fc : List Nat) (k5 : R) : (Exit → au → Prop) → au → Prop :=
 fun Q s => JB C f k k0 d0 cs m args d1 [] fc (dj C k5 Q) (fin (fin s (some k) .hole) (some d9) .hole)
def JJ (T : TypeId) (f : FuncId) (k d0 d9 : Nat) (cs : List Nat) (m : List cI) (args : List aG) (d1 : Option Nat) (k5 : R) : R :=
 .seq (.U [⟨some k, .ey T, none⟩] none) (.seq (.U [⟨some d9, .ia f (cs.map .t), none⟩, ⟨none, .cC T (.t k) (.t d9), none⟩] none)
  (.seq (.U (⟨some d0, .aD T (.t k), none⟩ :: (m ++ [⟨d1, .call (.t d0) args, none⟩])) none) k5))
def wL (C : cn) (T : (Exit → au → Prop) → au → Prop) (b : R) : Prop :=
 ∃ (ty : TypeId) (f : FuncId) (k k0 d0 d9 : Nat) (cs : List Nat) (m : List cI) (args : List aG) (d1 : Option Nat) (fc : List Nat) (k5 : R),
   T = EI C f k k0 d0 d9 cs m args d1 fc k5 ∧ b = JJ ty f k d0 d9 cs m args d1 k5.ki ∧ (C.T ty).flat = true ∧ (∃ i z v, C.P.info? ty = some i ∧ i.size = 1 ∧ i.zero = some z ∧ z.cells = #[v] ∧ Value.gU v = true) ∧
   ED (fun d => d != d0 && !cs.contains d) m = true ∧ cs.contains d0 = false ∧ cs[k0]? = some k ∧ cs.contains d9 = false ∧ k5.plain = true
theorem RT (bA : C.fo) {c : Code} {T : (Exit → au → Prop) → au → Prop} {b : R} {Q : Exit → au → Prop} (gd : wL C T b) (ah : bw n c = some b.strip) (h : T Q s) (a7 : Rel w0 F0 X n ρ s a w) :
  c.wp C.P (rN w0 F0 X n ρ Q) a w := by
 obtain ⟨ty, f, k, k0, d0, d9, cs, m, args, d1, fc, k5, rfl, rfl, k_, ⟨au2, z, qH, JK, RU, RV, lf, au3⟩, hm, kx, uz, zV, fV⟩ := gd
 replace hm : ∀ r ∈ m, ∀ d, r.dst = some d → d ≠ d0 ∧ d ∉ cs := fun r a7 d al => by
  have := JC hm r a7 d al
  simpa using this
 replace kx : d0 ∉ cs := by simpa using kx
 replace zV : d9 ∉ cs := by simpa using zV
 have zQ : k ∈ cs := List.mem_of_getElem? uz
 have RW : k ≠ d9 := fun e => zV (e ▸ zQ)
 obtain ⟨cE, vX, rfl, o0, fq⟩ := EG ah
 obtain ⟨lh, au4, rfl, RX, RY⟩ := EG fq
 obtain ⟨lZ, rH, rfl, RZ, R0⟩ := EG RY
 obtain ⟨au5, EJ, rfl, R1⟩ := zS o0
 obtain ⟨au6, uC, rfl, R2⟩ := zS RX
 obtain ⟨au7, au8, rfl, R3⟩ := zS RZ
 obtain ⟨jD, e3, ij, F, S, zW⟩ := a7
 obtain ⟨l2, bG⟩ := wi R1
 have a_ : EJ.size = 1 := by simpa using l2
 obtain ⟨kF, zE⟩ : ∃ o, EJ[0]? = some o := ⟨EJ[0], by simp [a_]⟩
 obtain ⟨eS, zx, R4⟩ := bG 0 kF (by simpa using zE)
 simp only [List.map_cons, List.map_nil, List.getElem?_cons_zero, Option.some.injEq] at zx
 subst zx
 obtain ⟨iP, bn, dX, b9⟩ := uA (r := ⟨some k, .ey ty, none⟩) rfl R4
 change nW kF.op = .ey ty at dX
 have JL : kF.op = .alloc ty := by
  rcases nX dX with h | h
  ·cases h
  ·exact RQ h
 refine wp_seq (wp_region ?_)
 rw [a_]
 refine EH (C := C) zE bn ?_
 have R5 : (execOp a.eval kF).run C.P w = .ok (.value (.pointer (some ⟨w.heap.size, 0, none⟩))) (w.alloc (.cells #[qH] ty)) := by
  obtain ⟨dst, op, zO, pos, after, guard⟩ := kF
  simp only at JL
  subst JL
  simp [execOp, Instr.alloc, tp JK RV, newVar, newRow, newObj, Sem.run, lf]
 unfold Oper.wp
 rw [R5, Oper.upon_value]
 have EA : some k = kF.dst := iP
 rw [← EA] at b9 ⊢
 show Exit.then _ _ .normal _ _
 have hold : ∀ b, b < w.heap.size → (w.alloc (.cells #[qH] ty)).heap[b]? = w.heap[b]? := by
  intro b ae
  show (w.heap.push _)[b]? = _
  rw [Array.getElem?_push, if_neg (by omega)]
 have jX : (w.alloc (.cells #[qH] ty)).heap[w.heap.size]? = some (.cells #[qH] ty) := by
  show (w.heap.push _)[_]? = _
  simp
 have y_ : (w.alloc (.cells #[qH] ty)).heap.size = w.heap.size + 1 := by simp
 have R6 := zW.grow hold (by rw [y_]; omega) rfl rfl rfl
 generalize au9 : w.alloc (.cells #[qH] ty) = f_ at *
 generalize JM : Value.pointer (some ⟨w.heap.size, 0, none⟩) = pK at *
 have R7 : ¬ F w.heap.size := fun h => Nat.lt_irrefl _ (zW.gB _ h)
 have R8 : ∀ u, ¬ S u w.heap.size := fun u h => Nat.lt_irrefl _ (zW.fz _ _ h)
 have oR : w0.heap.size ≤ w.heap.size := zW.size
 obtain ⟨gL, hr, h6⟩ := wb (n := n) (dst := some k) (a := a) pK e3 b9
 have JN := R6.JH (t := k) (v := pK)
 rw [show dr (fun t => a.tmps.getD t undef) k pK = fun t => (a.put (some k) pK).tmps.getD t undef from gL.symm] at JN
 have R9 : (a.put (some k) pK).tmps.getD k undef = pK := by
  have := congrFun gL k
  simp only [nI] at this
  rw [lX] at this
  exact this
 have R_ : ∀ u, ¬ gq S k (fun _ => False) u w.heap.size := by
  intro u h; simp only [gq] at h; split at h
  ·exact h
  ·exact R8 u h
 have Sa : ∀ i ∈ n.fx, (a.put (some k) pK).tmps.getD i undef = ρ i := by
  intro i ar
  have := congrFun gL i
  simp only [nI] at this
  rw [jl _ _ (fun e => ?_)] at this
  ·exact this.trans (ij i ar)
  ·simp only [kZ, Bool.and_eq_true, Bool.not_eq_true', List.contains_eq_mem, decide_eq_false_iff_not] at b9
   exact b9.2 (e ▸ ar)
 have Sb := h6.trans jD
 generalize a.put (some k) pK = ab at *
 obtain ⟨v_, cB⟩ := wi R2
 have a3 : uC.size = 2 := by simpa using v_
 obtain ⟨nU, JO⟩ : ∃ o, uC[0]? = some o := ⟨uC[0], by simp [a3]⟩
 obtain ⟨qm, JP⟩ : ∃ o, uC[1]? = some o := ⟨uC[1], by simp [a3]⟩
 obtain ⟨h8, zR, Sc⟩ := cB 0 nU (by simpa using JO)
 obtain ⟨jT, JQ, Sd⟩ := cB 1 qm (by simpa using JP)
 simp only [List.map_cons, List.map_nil, List.getElem?_cons_zero, List.getElem?_cons_succ, Option.some.injEq] at zR JQ
 subst zR JQ
 obtain ⟨zd, ze, Dk, vS⟩ := uA (r := ⟨some d9, .ia f (cs.map .t), none⟩) rfl Sc
 obtain ⟨v1, v2, tO, v4⟩ := uA (r := ⟨none, .cC ty (.t k) (.t d9), none⟩) rfl Sd
 change nW nU.op = .ia f (cs.map .t) at Dk
 change nW qm.op = .cC ty (.t k) (.t d9) at tO
 obtain ⟨Se, JR, Sf⟩ : ∃ nb : Array Operand, nU.op = .makeFunc (.func f) #[] nb ∧ nR nb.toList = some (cs.map .t) := by
  rcases nX Dk with h | h
  ·cases h
  ·exact RS h
 have Sg := JI Sf
 obtain ⟨Df, vP, JS, EK, Sh⟩ : ∃ a b, qm.op = .store ty a b ∧ dW a = some (.t k) ∧ dW b = some (.t d9) := by
  rcases nX tO with h | h
  ·cases h
  ·exact RR h
 have := zP EK; subst this
 have := zP Sh; subst this
 refine wp_seq (wp_region ?_)
 rw [a3]
 refine EH (C := C) (l := [1]) JO ze ?_
 have Si : (execOp ab.eval nU).run C.P f_ = .ok (.value (.func (.func f) #[] (cs.map fun j => ab.tmps.getD j undef).toArray)) f_ := by
  obtain ⟨dst, op, zO, pos, after, guard⟩ := nU
  simp only at JR
  subst JR
  have : Se.map ab.eval = (cs.map fun j => ab.tmps.getD j undef).toArray := by
   apply Array.ext'
   rw [Array.toList_map, Sg, List.map_map]
   rfl
  rw [← this]
  simp [execOp]
  rfl
 unfold Oper.wp
 rw [Si, Oper.upon_value]
 have Sj : some d9 = nU.dst := zd
 rw [← Sj] at vS ⊢
 generalize EL : Value.func (.func f) #[] (cs.map fun j => ab.tmps.getD j undef).toArray = h1 at *
 have Sk : Value.gU h1 = true := by rw [← EL]; rfl
 obtain ⟨fp, g6, kJ⟩ := wb (n := n) (dst := some d9) (a := ab) h1 hr vS
 have JT := JN.JH (t := d9) (v := h1)
 rw [show dr (fun t => ab.tmps.getD t undef) d9 h1 = fun t => (ab.put (some d9) h1).tmps.getD t undef from fp.symm] at JT
 have EM : ∀ j, j ≠ d9 → (ab.put (some d9) h1).tmps.getD j undef = ab.tmps.getD j undef := by
  intro j cx
  have := congrFun fp j
  simp only [nI] at this
  rw [jl _ _ cx] at this
  exact this
 have Sl : (ab.put (some d9) h1).tmps.getD d9 undef = h1 := by
  have := congrFun fp d9
  simp only [nI] at this
  rw [lX] at this
  exact this
 have JU : ∀ u, ¬ gq (gq S k (fun _ => False)) d9 (fun _ => False) u w.heap.size := by
  intro u h; simp only [gq] at h; split at h
  ·exact h
  ·exact R_ u h
 have Sm : ∀ i ∈ n.fx, (ab.put (some d9) h1).tmps.getD i undef = ρ i := by
  intro i ar
  rw [EM i (fun e => ?_)]
  ·exact Sa i ar
  ·simp only [kZ, Bool.and_eq_true, Bool.not_eq_true', List.contains_eq_mem, decide_eq_false_iff_not] at vS
   exact vS.2 (e ▸ ar)
 have So := kJ.trans Sb
 have Sp : h1 = .func (.func f) #[] (cs.map fun j => (ab.put (some d9) h1).tmps.getD j undef).toArray := by
  have : (cs.map fun j => (ab.put (some d9) h1).tmps.getD j undef) = cs.map fun j => ab.tmps.getD j undef :=
   List.map_congr_left fun j cx => EM j (fun e => zV (e ▸ cx))
  rw [this, EL]
 have JV : (ab.put (some d9) h1).tmps.getD k undef = pK := (EM k RW).trans R9
 generalize ab.put (some d9) h1 = dy at *
 refine EH (C := C) (l := []) JP v2 ?_
 obtain ⟨hv, fC, gI, hH, ky, l0, ch, nK⟩ := y0 (P := C.P) (b := w.heap.size) (o := 0) (e := ty) (fr := (0, 0)) [h1] 0 #[qH] f_ [] [qH] [] jX (fun o _ h => absurd h.2 (Nat.not_lt_zero _)) rfl rfl rfl (fun v a2 => by simp at a2; subst a2; exact Sk)
 have Sq : (execOp dy.eval qm).run C.P f_ = .ok .skip hv := by
  obtain ⟨dst, op, zO, pos, after, guard⟩ := qm
  simp only at JS
  subst JS
  have wH : dy.eval (.tmp k) = .pointer (some ⟨w.heap.size, 0, none⟩) := by rw [JM]; exact JV
  have wI : dy.eval (.tmp d9) = h1 := Sl
  have wJ : h1.cells = #[h1] := by rw [← EL]; rfl
  simp [execOp, wH, wI, Instr.storeAt, Instr.sureAddr, storeVar, jU JK, RU, wJ, fC]
 unfold Oper.wp
 rw [Sq, Oper.upon_skip]
 have EN : none = qm.dst := v1
 rw [← EN]
 show wpOps C.P uC _ [] dy hv
 show Exit.then _ _ .normal _ _
 have Sr := (JT.off (b := w.heap.size) oR R7 JU hH ky l0 ch nK).RP oR (by rw [ky, y_]; omega) JU
 refine wp_seq (Jt (K := fun az => eA (dj C k5 Q) az) (b := w.heap.size) (g := f) (k0 := k0) (cs := cs) bA R3 k_ hm kx uz So g6 Sm Sr (.inr rfl) (JV.trans JM.symm) (by rw [gI, ← Sp]; rfl) ?_ ?_)
 ·refine rS (fun _ s1 => ?_) h
  rintro ⟨ps, r, wH, wI, wJ, EC, Ss, St, Su⟩
  exact ⟨ps, r, wH, wI, wJ, EC, Ss, St, rS (fun _ s h => .inr ⟨_, JD _ _, h⟩) Su⟩
 ·intro az cS aS kB fa
  obtain ⟨au_, ai, aj⟩ := fa.eA kB
  exact H9 bA rH R0 (R.zu k5 (R.H0 k5 fV)) (zv k5 ai) aj
theorem aT.Sv (bA : C.fo) {f : FuncId} {fn : Func} {c : Code} {dE : R} {fx : List Nat} {as outs : List I} {r : I} (bF : C.P.funcs[f]? = some fn) (ae : fn.body = some c)
  (k3 : (fn.name == "runtime.NumGoroutine") = false) (ah : bw ⟨fn.ntmps, fx⟩ c = some dE.strip) (bd : as.length ≤ fn.ntmps) (aE : dE.l8 (wL C))
  (h : ∀ Q : Exit → au → Prop, (∀ s, eA (Ends C fx fn.results.toList r outs) s → Q .ret s) → (∀ s, eA (Ends C fx fn.results.toList r outs) s → Q .normal s) → dj C dE Q (aa (num 0 as))) : aT C f as r outs := by
 intro w F X S vs hl a7
 refine D7 (fx := fx) bA bF ae k3 bd hl a7 fun a nY eT => ?_
 refine D6 bA (H := wL C) (fun c T b Q s a w k_ wG bh a7 => RT bA k_ wG bh a7) c (by rw [R.D2]; exact ah) (R.zu dE aE) (zv dE ?_) nY
 rw [zy]
 exact h _ (fun s h => ⟨.inr rfl, h⟩) (fun s h => ⟨.inl rfl, h⟩)
theorem Sw {Q : Exit → au → Prop} {l : List (Nat × I)} {f : FuncId} {k k0 d0 d9 : Nat} {cs : List Nat} {m : List cI} {args : List aG} {d1 : Option Nat} {fc : List Nat} {k5 b : R} (ed : List (Nat × I))
  (h : ∀ P : List (Nat × I) → Prop, P ed → n9 C f k k0 d0 cs m args d1 [] fc P (fin (fin (aa l) (some k) .hole) (some d9) .hole)) (aE : dj C k5 Q (aa ed)) : dj C (.iQ (EI C f k k0 d0 d9 cs m args d1 fc k5) b) Q (aa l) :=
 fun gE EF => h (fun l => dj C k5 gE (aa l)) (D5 k5 EF aE)
end
end Go.dg
