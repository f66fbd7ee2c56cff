/- Part of a proof that a law returns true for every input. No condition. -/
import Derived.Test.YtbemmmimelklkaaGreatFwJ
namespace Go.c5
section
variable {C : cw} {w0 w : World} {F0 X F b9 : Nat → Prop} {S a7 : Nat → Nat → Prop} {n : Fr} {ρ : Nat → Value} {s az : ax} {aF ia : Nat → Value} {a : Act} {av : I} {Q : Exit → Act → World → Prop} {aP : World}
theorem bZ.off (h : bZ w0 F0 X F S s aF w) {b : Nat} (bc : w0.heap.size ≤ b) (bH : ¬ F b) (bS : ∀ u, ¬ S u b) (hw : ∀ c, c ≠ b → aP.heap[c]? = w.heap[c]?) (ah : aP.heap.size = w.heap.size)
  (af : aP.os = w.os) (ai : aP.tape = w.tape) (aN : aP.output = w.output) : bZ w0 F0 X F S s aF aP where
 hv := h.hv
 hQ := h.hQ
 gh := fun c ay => by rw [ah]; exact h.gh c ay
 fc := fun t c ay => by rw [ah]; exact h.fc t c ay
 gr := h.gr
 gi := h.gi
 ek := h.ek
 ee := fun t => aY.frame (Sx := S) (fun c ay => hw c (fun e => bH (e ▸ ay))) (fun _ h => h) (fun x c ay => hw c (fun e => bS x (e ▸ ay))) h.ee _ _ _ (fun c ay => hw c (fun e => bS t (e ▸ ay))) (h.ee t)
 old := fun c ay ki => (hw c (by omega)).trans (h.old c ay ki)
 size := by rw [ah]; exact h.size
 os := af.trans h.os
 tape := ai.trans h.tape
 output := aN.trans h.output
theorem bZ.K8 (h : bZ w0 F0 X F S s aF w) {t : Nat} {v : Value} : bZ w0 F0 X F (gy S t (fun _ => False)) (c5.fin s (some t) .hole) (dz aF t v) w := by
 have : c5.fin s (some t) .hole = dz s t .hole := by simp [c5.fin, I.plain]
 rw [this]
 exact h.tS rfl (by rw [aY]; trivial)
theorem bZ.TP (h : bZ w0 F0 X F S s aF w) {b : Nat} (bc : w0.heap.size ≤ b) (ad : b < w.heap.size) (bS : ∀ u, ¬ S u b) : bZ w0 F0 X (fun c => F c ∨ c = b) S s aF w where
 hv := fun c ay => .inl (h.hv c ay)
 hQ := fun c ay => by
  rcases ay with ay | rfl
  ·exact h.hQ c ay
  ·exact .inr (.inr bc)
 gh := fun c ay => by
  rcases ay with ay | rfl
  ·exact h.gh c ay
  ·exact ad
 fc := h.fc
 gr := fun t c ay bJ => by
  rcases bJ with bJ | rfl
  ·exact h.gr t c ay bJ
  ·exact bS t ay
 gi := h.gi
 ek := h.ek
 ee := fun t => aY.frame (fun _ _ => rfl) (fun b ad => .inl ad) (fun _ _ _ => rfl) h.ee _ _ _ (fun _ _ => rfl) (h.ee t)
 old := h.old
 size := h.size
 os := h.os
 tape := h.tape
 output := h.output
theorem FW {c : Code} {x y : J} (h : bG n c = some (.seq x y)) : ∃ a b, c = .seq a b ∧ bG n a = some x ∧ bG n b = some y := by
 cases c with
 | seq a b =>
   simp only [bG] at h
   split at h
   ·rename_i uf JF aq bD
    cases h
    exact ⟨a, b, rfl, aq, bD⟩
   ·cases h
 | region id ops draw =>
   cases draw with
   | false => simp only [bG, Option.map_eq_some_iff] at h; obtain ⟨r, af, ai⟩ := h; cases ai
   | true =>
     simp only [bG] at h
     split at h
     ·simp only [Option.map_eq_some_iff] at h; obtain ⟨r, af, ai⟩ := h; cases ai
     ·cases h
 | cond c a b => simp only [bG] at h; split at h <;> cases h
 | block id b => simp only [bG, Option.map_eq_some_iff] at h; obtain ⟨r, af, ai⟩ := h; cases ai
 | loop b => simp only [bG, Option.map_eq_some_iff] at h; obtain ⟨r, af, ai⟩ := h; cases ai
 | _ => simp [bG] at h
theorem u3 {ops : Array Oper} {r : cO} {o : Oper} (cg : r.guard = none) (h : pf n ops o = some r.un) : r.dst = o.dst ∧ o.guard = none ∧ oq o.op = r.bT.base ∧ k9 n o.dst = true := by
 unfold pf at h
 split at h
 ·rename_i ak
  split at h
  ·rename_i Tw hJ
   simp only [cO.un, Option.some.injEq, cO.mk.injEq] at h
   obtain ⟨a1, bh, a8⟩ := h
   refine ⟨a1.symm, ?_, bh, ak⟩
   rw [a8, cg] at hJ
   cases cl : o.guard with
   | none => rfl
   | some E9 =>
     rw [cl] at hJ; simp only [w_] at hJ; split at hJ <;> cases hJ
  ·cases h
 ·cases h
theorem FX {ops : Array Oper} {i : Nat} {o : Oper} {l : List Nat} (cl : ops[i]? = some o) (cg : o.guard = none) (h : o.wp C.P a w (wpOps C.P ops Q l) Q) : wpOps C.P ops Q (i :: l) a w := by
 simp only [wpOps, cl]
 show (if Region.wanted o (yielded ops a.tmps) = true then o.wp C.P a w _ Q ∨ (o.asks C.P a w ∧ LetsOut Q) else _)
 rw [if_pos (Ai cg)]
 exact .inl h
theorem TQ {op : Op} {T : TypeId} (h : dr op = some (.eA T)) : op = .alloc T := by
 cases op with
 | alloc xb => simp only [dr, Option.some.injEq, gj.eA.injEq] at h; rw [h]
 | call c =>
   obtain ⟨callee, mn, argTypes⟩ := c
   simp only [dr] at h
   split at h <;> (try split at h) <;> (try split at h) <;> (try simp [Option.map_eq_some_iff] at h)
 | makeFunc fn first cs =>
   cases fn <;> simp only [dr] at h <;> first | (cases h; done) | (split at h <;> simp at h)
 | slice T x dn ao hD =>
   cases hD <;> simp only [dr] at h <;> first | (cases h; done) | (split at h <;> simp at h)
 | _ => simp only [dr] at h <;> first | (cases h; done) | (simp at h; done) | (split at h <;> simp at h)
theorem TR {op : Op} {T : TypeId} {x y : aH} (h : dr op = some (.cK T x y)) : ∃ a b, op = .store T a b ∧ ef a = some x ∧ ef b = some y := by
 cases op with
 | store xb a b =>
   simp only [dr] at h
   split at h
   ·rename_i cQ jZ aq bD
    simp only [Option.some.injEq, gj.cK.injEq] at h
    obtain ⟨rfl, rfl, rfl⟩ := h
    exact ⟨a, b, rfl, aq, bD⟩
   ·cases h
 | call c =>
   obtain ⟨callee, mn, argTypes⟩ := c
   simp only [dr] at h
   split at h <;> (try split at h) <;> (try split at h) <;> (try simp [Option.map_eq_some_iff] at h)
 | makeFunc fn first cs =>
   cases fn <;> simp only [dr] at h <;> first | (cases h; done) | (split at h <;> simp at h)
 | slice T x dn ao hD =>
   cases hD <;> simp only [dr] at h <;> first | (cases h; done) | (split at h <;> simp at h)
 | _ => simp only [dr] at h <;> first | (cases h; done) | (simp at h; done) | (split at h <;> simp at h)
theorem TS {op : Op} {g : FuncId} {xs : List aH} (h : dr op = some (.ie g xs)) : ∃ cs : Array Operand, op = .makeFunc (.func g) #[] cs ∧ oe cs.toList = some xs := by
 cases op with
 | makeFunc fn first cs =>
   cases fn with
   | func f =>
     simp only [dr] at h
     split at h
     ·rename_i EI
      simp only [Option.map_eq_some_iff] at h
      obtain ⟨nF, hH, h⟩ := h
      cases h
      have EJ : first = #[] := by simpa using EI
      subst EJ
      exact ⟨cs, rfl, hH⟩
     ·cases h
   | _ => simp [dr] at h
 | call c =>
   obtain ⟨callee, mn, argTypes⟩ := c
   simp only [dr] at h
   split at h <;> (try split at h) <;> (try split at h) <;> (try simp [Option.map_eq_some_iff] at h)
 | slice T x dn ao hD =>
   cases hD <;> simp only [dr] at h <;> first | (cases h; done) | (split at h <;> simp at h)
 | _ => simp only [dr] at h <;> first | (cases h; done) | (simp at h; done) | (split at h <;> simp at h)
theorem K9 : ∀ {os : List Operand} {cs : List Nat}, oe os = some (cs.map .t) → os = cs.map .tmp
 | [], cs, h => by
   simp only [oe, Option.some.injEq] at h
   cases cs with
   | nil => rfl
   | cons c cs => cases h
 | o :: os, cs, h => by
   simp only [oe] at h
   split at h
   ·rename_i x IU af ai
    simp only [Option.some.injEq] at h
    cases cs with
    | nil => cases h
    | cons c cs =>
      simp only [List.map_cons, List.cons.injEq] at h
      obtain ⟨rfl, rfl⟩ := h
      rw [AM af, K9 ai]; rfl
   ·cases h
def FY (C : cw) (f : FuncId) (k k0 d0 d9 : Nat) (cs : List Nat) (m : List cO) (args : List aH) (d1 : Option Nat) (keep : List Nat) (lj : J) : (Exit → ax → Prop) → ax → Prop :=
 fun Q s => K2 C f k k0 d0 cs m args d1 [] keep (dh C lj Q) (fin (fin s (some k) .hole) (some d9) .hole)
def K_ (T : TypeId) (f : FuncId) (k d0 d9 : Nat) (cs : List Nat) (m : List cO) (args : List aH) (d1 : Option Nat) (lj : J) : J :=
 .seq (.R [⟨some k, .eA T, none⟩] none) (.seq (.R [⟨some d9, .ie f (cs.map .t), none⟩, ⟨none, .cK T (.t k) (.t d9), none⟩] none)
  (.seq (.R (⟨some d0, .aE T (.t k), none⟩ :: (m ++ [⟨d1, .call (.t d0) args, none⟩])) none) lj))
def xz (C : cw) (T : (Exit → ax → Prop) → ax → Prop) (b : J) : Prop :=
 ∃ (ty : TypeId) (f : FuncId) (k k0 d0 d9 : Nat) (cs : List Nat) (m : List cO) (args : List aH) (d1 : Option Nat) (keep : List Nat) (lj : J),
   T = FY C f k k0 d0 d9 cs m args d1 keep lj ∧ b = K_ ty f k d0 d9 cs m args d1 lj.kk ∧ (C.T ty).flat = true ∧ (∃ i z v, C.P.info? ty = some i ∧ i.size = 1 ∧ i.zero = some z ∧ z.cells = #[v] ∧ Value.g5 v = true) ∧
   FR (fun d => d != d0 && !cs.contains d) m = true ∧ cs.contains d0 = false ∧ cs[k0]? = some k ∧ cs.contains d9 = false ∧ lj.plain = true
theorem TT (bI : C.Ok) {c : Code} {T : (Exit → ax → Prop) → ax → Prop} {b : J} {Q : Exit → ax → Prop} (gJ : xz C T b) (ah : bG n c = some b.strip) (h : T Q s) (bb : Rel w0 F0 X n ρ s a w) :
  c.wp C.P (so w0 F0 X n ρ Q) a w := by
 obtain ⟨ty, f, k, k0, d0, d9, cs, m, args, d1, keep, lj, rfl, rfl, kC, ⟨axL, z, q8, La, TU, TV, lv, axM⟩, hm, kE, u2, AS, gz⟩ := gJ
 replace hm : ∀ r ∈ m, ∀ d, r.dst = some d → d ≠ d0 ∧ d ∉ cs := fun r bb d ak => by
  have := K3 hm r bb d ak
  simpa using this
 replace kE : d0 ∉ cs := by simpa using kE
 replace AS : d9 ∉ cs := by simpa using AS
 have AN : k ∈ cs := List.mem_of_getElem? u2
 have TW : k ≠ d9 := fun e => AS (e ▸ AN)
 obtain ⟨cI, wX, rfl, pk, fs⟩ := FW ah
 obtain ⟨kL, axN, rfl, TX, TY⟩ := FW fs
 obtain ⟨mf, sk, rfl, TZ, T0⟩ := FW TY
 obtain ⟨axO, FZ, rfl, T1⟩ := AP pk
 obtain ⟨axP, u5, rfl, T2⟩ := AP TX
 obtain ⟨axQ, axR, rfl, T3⟩ := AP TZ
 obtain ⟨jN, eV, iu, F, S, AU⟩ := bb
 obtain ⟨l2, bR⟩ := xf T1
 have bh : FZ.size = 1 := by simpa using l2
 obtain ⟨kK, Ax⟩ : ∃ o, FZ[0]? = some o := ⟨FZ[0], by simp [bh]⟩
 obtain ⟨ea, Aq, T4⟩ := bR 0 kK (by simpa using Ax)
 simp only [List.map_cons, List.map_nil, List.getElem?_cons_zero, Option.some.injEq] at Aq
 subst Aq
 obtain ⟨iN, bw, dP, cj⟩ := u3 (r := ⟨some k, .eA ty, none⟩) rfl T4
 change oq kK.op = .eA ty at dP
 have Lb : kK.op = .alloc ty := by
  rcases ot dP with h | h
  ·cases h
  ·exact TQ h
 refine wp_seq (wp_region ?_)
 rw [bh]
 refine FX (C := C) Ax bw ?_
 have T5 : (execOp a.eval kK).run C.P w = .ok (.value (.pointer (some ⟨w.heap.size, 0, none⟩))) (w.alloc (.cells #[q8] ty)) := by
  obtain ⟨dst, op, AL, pos, after, guard⟩ := kK
  simp only at Lb
  subst Lb
  simp [execOp, Instr.alloc, tU La TV, newVar, newRow, newObj, Sem.run, lv]
 unfold Oper.wp
 rw [T5, Oper.upon_value]
 have FP : some k = kK.dst := iN
 rw [← FP] at cj ⊢
 show Exit.then _ _ .normal _ _
 have hold : ∀ b, b < w.heap.size → (w.alloc (.cells #[q8] ty)).heap[b]? = w.heap[b]? := by
  intro b ad
  show (w.heap.push _)[b]? = _
  rw [Array.getElem?_push, if_neg (by omega)]
 have j3 : (w.alloc (.cells #[q8] ty)).heap[w.heap.size]? = some (.cells #[q8] ty) := by
  show (w.heap.push _)[_]? = _
  simp
 have z1 : (w.alloc (.cells #[q8] ty)).heap.size = w.heap.size + 1 := by simp
 have T6 := AU.grow hold (by rw [z1]; omega) rfl rfl rfl
 generalize axS : w.alloc (.cells #[q8] ty) = gk at *
 generalize Lc : Value.pointer (some ⟨w.heap.size, 0, none⟩) = p7 at *
 have T7 : ¬ F w.heap.size := fun h => Nat.lt_irrefl _ (AU.gh _ h)
 have T8 : ∀ u, ¬ S u w.heap.size := fun u h => Nat.lt_irrefl _ (AU.fc _ _ h)
 have pb : w0.heap.size ≤ w.heap.size := AU.size
 obtain ⟨gT, hs, h9⟩ := xa (n := n) (dst := some k) (a := a) p7 eV cj
 have Ld := T6.K8 (t := k) (v := p7)
 rw [show dz (fun t => a.tmps.getD t undef) k p7 = fun t => (a.put (some k) p7).tmps.getD t undef from gT.symm] at Ld
 have T9 : (a.put (some k) p7).tmps.getD k undef = p7 := by
  have := congrFun gT k
  simp only [n6] at this
  rw [mc] at this
  exact this
 have T_ : ∀ u, ¬ gy S k (fun _ => False) u w.heap.size := by
  intro u h; simp only [gy] at h; split at h
  ·exact h
  ·exact T8 u h
 have Ua : ∀ i ∈ n.fx, (a.put (some k) p7).tmps.getD i undef = ρ i := by
  intro i ao
  have := congrFun gT i
  simp only [n6] at this
  rw [jB _ _ (fun e => ?_)] at this
  ·exact this.trans (iu i ao)
  ·simp only [k9, Bool.and_eq_true, Bool.not_eq_true', List.contains_eq_mem, decide_eq_false_iff_not] at cj
   exact cj.2 (e ▸ ao)
 have Ub := h9.trans jN
 generalize a.put (some k) p7 = U at *
 obtain ⟨w9, cJ⟩ := xf T2
 have a8 : u5.size = 2 := by simpa using w9
 obtain ⟨oi, Le⟩ : ∃ o, u5[0]? = some o := ⟨u5[0], by simp [a8]⟩
 obtain ⟨qT, Lf⟩ : ∃ o, u5[1]? = some o := ⟨u5[1], by simp [a8]⟩
 obtain ⟨gU, AO, Uc⟩ := cJ 0 oi (by simpa using Le)
 obtain ⟨i9, Lg, Ud⟩ := cJ 1 qT (by simpa using Lf)
 simp only [List.map_cons, List.map_nil, List.getElem?_cons_zero, List.getElem?_cons_succ, Option.some.injEq] at AO Lg
 subst AO Lg
 obtain ⟨z8, z_, Aa, wS⟩ := u3 (r := ⟨some d9, .ie f (cs.map .t), none⟩) rfl Uc
 obtain ⟨v1, v2, v3, v4⟩ := u3 (r := ⟨none, .cK ty (.t k) (.t d9), none⟩) rfl Ud
 change oq oi.op = .ie f (cs.map .t) at Aa
 change oq qT.op = .cK ty (.t k) (.t d9) at v3
 obtain ⟨Ue, Lh, Uf⟩ : ∃ nF : Array Operand, oi.op = .makeFunc (.func f) #[] nF ∧ oe nF.toList = some (cs.map .t) := by
  rcases ot Aa with h | h
  ·cases h
  ·exact TS h
 have Ug := K9 Uf
 obtain ⟨Ew, wP, Li, F1, Uh⟩ : ∃ a b, qT.op = .store ty a b ∧ ef a = some (.t k) ∧ ef b = some (.t d9) := by
  rcases ot v3 with h | h
  ·cases h
  ·exact TR h
 have := AM F1; subst this
 have := AM Uh; subst this
 refine wp_seq (wp_region ?_)
 rw [a8]
 refine FX (C := C) (l := [1]) Le z_ ?_
 have Ui : (execOp U.eval oi).run C.P gk = .ok (.value (.func (.func f) #[] (cs.map fun j => U.tmps.getD j undef).toArray)) gk := by
  obtain ⟨dst, op, AL, pos, after, guard⟩ := oi
  simp only at Lh
  subst Lh
  have : Ue.map U.eval = (cs.map fun j => U.tmps.getD j undef).toArray := by
   apply Array.ext'
   rw [Array.toList_map, Ug, List.map_map]
   rfl
  rw [← this]
  simp [execOp]
  rfl
 unfold Oper.wp
 rw [Ui, Oper.upon_value]
 have Uj : some d9 = oi.dst := z8
 rw [← Uj] at wS ⊢
 generalize F2 : Value.func (.func f) #[] (cs.map fun j => U.tmps.getD j undef).toArray = h2 at *
 have Uk : Value.g5 h2 = true := by rw [← F2]; rfl
 obtain ⟨fE, hb, kQ⟩ := xa (n := n) (dst := some d9) (a := U) h2 hs wS
 have Lj := Ld.K8 (t := d9) (v := h2)
 rw [show dz (fun t => U.tmps.getD t undef) d9 h2 = fun t => (U.put (some d9) h2).tmps.getD t undef from fE.symm] at Lj
 have F3 : ∀ j, j ≠ d9 → (U.put (some d9) h2).tmps.getD j undef = U.tmps.getD j undef := by
  intro j b_
  have := congrFun fE j
  simp only [n6] at this
  rw [jB _ _ b_] at this
  exact this
 have Ul : (U.put (some d9) h2).tmps.getD d9 undef = h2 := by
  have := congrFun fE d9
  simp only [n6] at this
  rw [mc] at this
  exact this
 have Lk : ∀ u, ¬ gy (gy S k (fun _ => False)) d9 (fun _ => False) u w.heap.size := by
  intro u h; simp only [gy] at h; split at h
  ·exact h
  ·exact T_ u h
 have Um : ∀ i ∈ n.fx, (U.put (some d9) h2).tmps.getD i undef = ρ i := by
  intro i ao
  rw [F3 i (fun e => ?_)]
  ·exact Ua i ao
  ·simp only [k9, Bool.and_eq_true, Bool.not_eq_true', List.contains_eq_mem, decide_eq_false_iff_not] at wS
   exact wS.2 (e ▸ ao)
 have Un := kQ.trans Ub
 have Uo : h2 = .func (.func f) #[] (cs.map fun j => (U.put (some d9) h2).tmps.getD j undef).toArray := by
  have : (cs.map fun j => (U.put (some d9) h2).tmps.getD j undef) = cs.map fun j => U.tmps.getD j undef :=
   List.map_congr_left fun j b_ => F3 j (fun e => AS (e ▸ b_))
  rw [this, F2]
 have Ll : (U.put (some d9) h2).tmps.getD k undef = p7 := (F3 k TW).trans T9
 generalize U.put (some d9) h2 = a3 at *
 refine FX (C := C) (l := []) Lf v2 ?_
 obtain ⟨hz, fM, gN, hI, kF, mg, cC, n8⟩ := zR (P := C.P) (b := w.heap.size) (o := 0) (e := ty) (fr := (0, 0)) [h2] 0 #[q8] gk [] [q8] [] j3 (fun o _ h => absurd h.2 (Nat.not_lt_zero _)) rfl rfl rfl (fun v aR => by simp at aR; subst aR; exact Uk)
 have Up : (execOp a3.eval qT).run C.P gk = .ok .skip hz := by
  obtain ⟨dst, op, AL, pos, after, guard⟩ := qT
  simp only at Li
  subst Li
  have sD : a3.eval (.tmp k) = .pointer (some ⟨w.heap.size, 0, none⟩) := by rw [Lc]; exact Ll
  have sE : a3.eval (.tmp d9) = h2 := Ul
  have z3 : h2.cells = #[h2] := by rw [← F2]; rfl
  simp [execOp, sD, sE, Instr.storeAt, Instr.sureAddr, storeVar, j0 La, TU, z3, fM]
 unfold Oper.wp
 rw [Up, Oper.upon_skip]
 have F4 : none = qT.dst := v1
 rw [← F4]
 show wpOps C.P u5 _ [] a3 hz
 show Exit.then _ _ .normal _ _
 have Uq := (Lj.off (b := w.heap.size) pb T7 Lk hI kF mg cC n8).TP pb (by rw [kF, z1]; omega) Lk
 refine wp_seq (KU (K := fun az => eN (dh C lj Q) az) (b := w.heap.size) (g := f) (k0 := k0) (cs := cs) bI T3 kC hm kE u2 Un hb Um Uq (.inr rfl) (Ll.trans Lc.symm) (by rw [gN, ← Uo]; rfl) ?_ ?_)
 ·refine su (fun _ s1 => ?_) h
  rintro ⟨ps, r, sD, sE, z3, z4, z5, Ur, Us⟩
  exact ⟨ps, r, sD, sE, z3, z4, z5, Ur, su (fun _ s h => .inr ⟨_, K4 _ _, h⟩) Us⟩
 ·intro az cY aP jo fj
  obtain ⟨axT, af, ai⟩ := fj.eN jo
  exact JH bI sk T0 (J.An lj (J.Jz lj gz)) (Ao lj af) ai
theorem aQ.Ut (bI : C.Ok) {f : FuncId} {fn : Func} {c : Code} {dK : J} {fx : List Nat} {as outs : List I} {r : I} (bJ : C.P.funcs[f]? = some fn) (ad : fn.body = some c)
  (lb : (fn.name == "runtime.NumGoroutine") = false) (ah : bG ⟨fn.ntmps, fx⟩ c = some dK.strip) (bl : as.length ≤ fn.ntmps) (aD : dK.mq (xz C))
  (h : ∀ Q : Exit → ax → Prop, (∀ s, eN (Ends C fx fn.results.toList r outs) s → Q .ret s) → (∀ s, eN (Ends C fx fn.results.toList r outs) s → Q .normal s) → dh C dK Q (aa (num 0 as))) : aQ C f as r outs := by
 intro w F X S vs hl bb
 refine Fl (fx := fx) bI bJ ad lb bl hl bb fun a ou eW => ?_
 refine Fk bI (H := xz C) (fun c T b Q s a w kC xx bs bb => TT bI kC xx bs bb) c (by rw [J.Fg]; exact ah) (J.An dK aD) (Ao dK ?_) ou
 rw [Fp]
 exact h _ (fun s h => ⟨.inr rfl, h⟩) (fun s h => ⟨.inl rfl, h⟩)
theorem Uu {Q : Exit → ax → Prop} {l : List (Nat × I)} {f : FuncId} {k k0 d0 d9 : Nat} {cs : List Nat} {m : List cO} {args : List aH} {d1 : Option Nat} {keep : List Nat} {lj b : J} (ev : List (Nat × I))
  (h : ∀ P : List (Nat × I) → Prop, P ev → oA C f k k0 d0 cs m args d1 [] keep P (fin (fin (aa l) (some k) .hole) (some d9) .hole)) (aD : dh C lj Q (aa ev)) : dh C (.iO (FY C f k k0 d0 d9 cs m args d1 keep lj) b) Q (aa l) :=
 fun gK FV => h (fun l => dh C lj gK (aa l)) (Fj lj FV aD)
end
end Go.c5
