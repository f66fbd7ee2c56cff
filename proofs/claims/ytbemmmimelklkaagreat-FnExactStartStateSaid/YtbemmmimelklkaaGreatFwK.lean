/- Part of a proof that a law returns true for every input. No condition. -/
import Derived.Test.YtbemmmimelklkaaGreatFwJ
namespace Go.dk
section
variable {C : ck} {w0 w : World} {F0 X F b0 : Nat → Prop} {S a1 : Nat → Nat → Prop} {n : Fr} {ρ : Nat → Value} {s aA : ar} {aF jO : Nat → Value} {a : Act} {av : I} {Q : Exit → Act → World → Prop} {aU : World}
theorem bW.off (h : bW w0 F0 X F S s aF w) {b : Nat} (a9 : w0.heap.size ≤ b) (bE : ¬ F b) (ca : ∀ u, ¬ S u b) (hw : ∀ c, c ≠ b → aU.heap[c]? = w.heap[c]?) (ah : aU.heap.size = w.heap.size)
  (ai : aU.os = w.os) (aj : aU.tape = w.tape) (aQ : aU.output = w.output) : bW w0 F0 X F S s aF aU where
 hM := h.hM
 h5 := h.h5
 gy := fun c ay => by rw [ah]; exact h.gy c ay
 fA := fun t c ay => by rw [ah]; exact h.fA t c ay
 gF := h.gF
 gl := h.gl
 eA := h.eA
 eu := fun t => aW.frame (Sx := S) (fun c ay => hw c (fun e => bE (e ▸ ay))) (fun _ h => h) (fun x c ay => hw c (fun e => ca x (e ▸ ay))) h.eu _ _ _ (fun c ay => hw c (fun e => ca t (e ▸ ay))) (h.eu t)
 old := fun c ay kK => (hw c (by omega)).trans (h.old c ay kK)
 size := by rw [ah]; exact h.size
 os := ai.trans h.os
 tape := aj.trans h.tape
 output := aQ.trans h.output
theorem bW.Jo (h : bW w0 F0 X F S s aF w) {t : Nat} {v : Value} : bW w0 F0 X F (gp S t (fun _ => False)) (dk.fin s (some t) .hole) (dt aF t v) w := by
 have : dk.fin s (some t) .hole = dt s t .hole := by simp [dk.fin, I.plain]
 rw [this]
 exact h.sZ rfl (by rw [aW]; trivial)
theorem bW.Rq (h : bW w0 F0 X F S s aF w) {b : Nat} (a9 : w0.heap.size ≤ b) (ae : b < w.heap.size) (ca : ∀ u, ¬ S u b) : bW w0 F0 X (fun c => F c ∨ c = b) S s aF w where
 hM := fun c ay => .inl (h.hM c ay)
 h5 := fun c ay => by
  rcases ay with ay | rfl
  ·exact h.h5 c ay
  ·exact .inr (.inr a9)
 gy := fun c ay => by
  rcases ay with ay | rfl
  ·exact h.gy c ay
  ·exact ae
 fA := h.fA
 gF := fun t c ay bH => by
  rcases bH with bH | rfl
  ·exact h.gF t c ay bH
  ·exact ca t ay
 gl := h.gl
 eA := h.eA
 eu := fun t => aW.frame (fun _ _ => rfl) (fun b ae => .inl ae) (fun _ _ _ => rfl) h.eu _ _ _ (fun _ _ => rfl) (h.eu t)
 old := h.old
 size := h.size
 os := h.os
 tape := h.tape
 output := h.output
theorem Ef {c : Code} {x y : R} (h : bt n c = some (.seq x y)) : ∃ a b, c = .seq a b ∧ bt n a = some x ∧ bt n b = some y := by
 cases c with
 | seq a b =>
   simp only [bt] at h
   split at h
   ·rename_i td HJ aC bL
    cases h
    exact ⟨a, b, rfl, aC, bL⟩
   ·cases h
 | region id ops draw =>
   cases draw with
   | false => simp only [bt, Option.map_eq_some_iff] at h; obtain ⟨r, ai, aj⟩ := h; cases aj
   | true =>
     simp only [bt] at h
     split at h
     ·simp only [Option.map_eq_some_iff] at h; obtain ⟨r, ai, aj⟩ := h; cases aj
     ·cases h
 | cond c a b => simp only [bt] at h; split at h <;> cases h
 | block id b => simp only [bt, Option.map_eq_some_iff] at h; obtain ⟨r, ai, aj⟩ := h; cases aj
 | loop b => simp only [bt, Option.map_eq_some_iff] at h; obtain ⟨r, ai, aj⟩ := h; cases aj
 | _ => simp [bt] at h
theorem ud {ops : Array Oper} {r : cK} {o : Oper} (b8 : r.guard = none) (h : oJ n ops o = some r.un) : r.dst = o.dst ∧ o.guard = none ∧ nN o.op = r.bN.base ∧ kR n o.dst = true := by
 unfold oJ at h
 split at h
 ·rename_i al
  split at h
  ·rename_i Q8 hG
   simp only [cK.un, Option.some.injEq, cK.mk.injEq] at h
   obtain ⟨a4, a_, a2⟩ := h
   refine ⟨a4.symm, ?_, a_, al⟩
   rw [a2, b8] at hG
   cases cm : o.guard with
   | none => rfl
   | some Dx =>
     rw [cm] at hG; simp only [vE] at hG; split at hG <;> cases hG
  ·cases h
 ·cases h
theorem Eg {ops : Array Oper} {i : Nat} {o : Oper} {l : List Nat} (cm : ops[i]? = some o) (b8 : o.guard = none) (h : o.wp C.P a w (wpOps C.P ops Q l) Q) : wpOps C.P ops Q (i :: l) a w := by
 simp only [wpOps, cm]
 show (if Region.wanted o (yielded ops a.tmps) = true then o.wp C.P a w _ Q ∨ (o.asks C.P a w ∧ LetsOut Q) else _)
 rw [if_pos (yW b8)]
 exact .inl h
theorem Rr {op : Op} {T : TypeId} (h : dj op = some (.eB T)) : op = .alloc T := by
 cases op with
 | alloc vG => simp only [dj, Option.some.injEq, ga.eB.injEq] at h; rw [h]
 | call c =>
   obtain ⟨callee, lX, argTypes⟩ := c
   simp only [dj] at h
   split at h <;> (try split at h) <;> (try split at h) <;> (try simp [Option.map_eq_some_iff] at h)
 | makeFunc fn first cs =>
   cases fn <;> simp only [dj] at h <;> first | (cases h; done) | (split at h <;> simp at h)
 | slice T x dg au hD =>
   cases hD <;> simp only [dj] at h <;> first | (cases h; done) | (split at h <;> simp at h)
 | _ => simp only [dj] at h <;> first | (cases h; done) | (simp at h; done) | (split at h <;> simp at h)
theorem Rs {op : Op} {T : TypeId} {x y : aI} (h : dj op = some (.cx T x y)) : ∃ a b, op = .store T a b ∧ dY a = some x ∧ dY b = some y := by
 cases op with
 | store vG a b =>
   simp only [dj] at h
   split at h
   ·rename_i cy jP aC bL
    simp only [Option.some.injEq, ga.cx.injEq] at h
    obtain ⟨rfl, rfl, rfl⟩ := h
    exact ⟨a, b, rfl, aC, bL⟩
   ·cases h
 | call c =>
   obtain ⟨callee, lX, argTypes⟩ := c
   simp only [dj] at h
   split at h <;> (try split at h) <;> (try split at h) <;> (try simp [Option.map_eq_some_iff] at h)
 | makeFunc fn first cs =>
   cases fn <;> simp only [dj] at h <;> first | (cases h; done) | (split at h <;> simp at h)
 | slice T x dg au hD =>
   cases hD <;> simp only [dj] at h <;> first | (cases h; done) | (split at h <;> simp at h)
 | _ => simp only [dj] at h <;> first | (cases h; done) | (simp at h; done) | (split at h <;> simp at h)
theorem Rt {op : Op} {g : FuncId} {xs : List aI} (h : dj op = some (.h8 g xs)) : ∃ cs : Array Operand, op = .makeFunc (.func g) #[] cs ∧ nI cs.toList = some xs := by
 cases op with
 | makeFunc fn first cs =>
   cases fn with
   | func f =>
     simp only [dj] at h
     split at h
     ·rename_i C4
      simp only [Option.map_eq_some_iff] at h
      obtain ⟨m1, ic, h⟩ := h
      cases h
      have C5 : first = #[] := by simpa using C4
      subst C5
      exact ⟨cs, rfl, ic⟩
     ·cases h
   | _ => simp [dj] at h
 | call c =>
   obtain ⟨callee, lX, argTypes⟩ := c
   simp only [dj] at h
   split at h <;> (try split at h) <;> (try split at h) <;> (try simp [Option.map_eq_some_iff] at h)
 | slice T x dg au hD =>
   cases hD <;> simp only [dj] at h <;> first | (cases h; done) | (split at h <;> simp at h)
 | _ => simp only [dj] at h <;> first | (cases h; done) | (simp at h; done) | (split at h <;> simp at h)
theorem Jp : ∀ {os : List Operand} {cs : List Nat}, nI os = some (cs.map .t) → os = cs.map .tmp
 | [], cs, h => by
   simp only [nI, Option.some.injEq] at h
   cases cs with
   | nil => rfl
   | cons c cs => cases h
 | o :: os, cs, h => by
   simp only [nI] at h
   split at h
   ·rename_i x GY ai aj
    simp only [Option.some.injEq] at h
    cases cs with
    | nil => cases h
    | cons c cs =>
      simp only [List.map_cons, List.cons.injEq] at h
      obtain ⟨rfl, rfl⟩ := h
      rw [zn ai, Jp aj]; rfl
   ·cases h
def Eh (C : ck) (f : FuncId) (k k0 d0 d9 : Nat) (cs : List Nat) (m : List cK) (args : List aI) (d1 : Option Nat) (fh : List Nat) (kX : R) : (Exit → ar → Prop) → ar → Prop :=
 fun Q s => Ji C f k k0 d0 cs m args d1 [] fh (db C kX Q) (fin (fin s (some k) .hole) (some d9) .hole)
def Jq (T : TypeId) (f : FuncId) (k d0 d9 : Nat) (cs : List Nat) (m : List cK) (args : List aI) (d1 : Option Nat) (kX : R) : R :=
 .seq (.U [⟨some k, .eB T, none⟩] none) (.seq (.U [⟨some d9, .h8 f (cs.map .t), none⟩, ⟨none, .cx T (.t k) (.t d9), none⟩] none)
  (.seq (.U (⟨some d0, .aD T (.t k), none⟩ :: (m ++ [⟨d1, .call (.t d0) args, none⟩])) none) kX))
def wb (C : ck) (T : (Exit → ar → Prop) → ar → Prop) (b : R) : Prop :=
 ∃ (ty : TypeId) (f : FuncId) (k k0 d0 d9 : Nat) (cs : List Nat) (m : List cK) (args : List aI) (d1 : Option Nat) (fh : List Nat) (kX : R),
   T = Eh C f k k0 d0 d9 cs m args d1 fh kX ∧ b = Jq ty f k d0 d9 cs m args d1 kX.kb ∧ (C.T ty).flat = true ∧ (∃ i z v, C.P.info? ty = some i ∧ i.size = 1 ∧ i.zero = some z ∧ z.cells = #[v] ∧ Value.gX v = true) ∧
   Ec (fun d => d != d0 && !cs.contains d) m = true ∧ cs.contains d0 = false ∧ cs[k0]? = some k ∧ cs.contains d9 = false ∧ kX.plain = true
theorem Ru (bB : C.fq) {c : Code} {T : (Exit → ar → Prop) → ar → Prop} {b : R} {Q : Exit → ar → Prop} (fL : wb C T b) (ah : bt n c = some b.strip) (h : T Q s) (a7 : Rel w0 F0 X n ρ s a w) :
  c.wp C.P (rp w0 F0 X n ρ Q) a w := by
 obtain ⟨ty, f, k, k0, d0, d9, cs, m, args, d1, fh, kX, rfl, rfl, kr, ⟨au0, z, ql, Jr, Rv, Rw, k7, au1⟩, hm, ks, uc, zt, gq⟩ := fL
 replace hm : ∀ r ∈ m, ∀ d, r.dst = some d → d ≠ d0 ∧ d ∉ cs := fun r a7 d al => by
  have := Jj hm r a7 d al
  simpa using this
 replace ks : d0 ∉ cs := by simpa using ks
 replace zt : d9 ∉ cs := by simpa using zt
 have zo : k ∈ cs := List.mem_of_getElem? uc
 have Rx : k ≠ d9 := fun e => zt (e ▸ zo)
 obtain ⟨cF, vv, rfl, oQ, fs⟩ := Ef ah
 obtain ⟨jw, au2, rfl, Ry, Rz⟩ := Ef fs
 obtain ⟨lR, pq, rfl, RA, RB⟩ := Ef Rz
 obtain ⟨au3, Ei, rfl, RC⟩ := zq oQ
 obtain ⟨au4, uf, rfl, RD⟩ := zq Ry
 obtain ⟨au5, au6, rfl, RE⟩ := zq RA
 obtain ⟨jz, e4, ie, F, S, zu⟩ := a7
 obtain ⟨l2, bG⟩ := vK RC
 have a_ : Ei.size = 1 := by simpa using l2
 obtain ⟨kB, za⟩ : ∃ o, Ei[0]? = some o := ⟨Ei[0], by simp [a_]⟩
 obtain ⟨eS, y4, RF⟩ := bG 0 kB (by simpa using za)
 simp only [List.map_cons, List.map_nil, List.getElem?_cons_zero, Option.some.injEq] at y4
 subst y4
 obtain ⟨i9, bj, dO, b9⟩ := ud (r := ⟨some k, .eB ty, none⟩) rfl RF
 change nN kB.op = .eB ty at dO
 have Js : kB.op = .alloc ty := by
  rcases nO dO with h | h
  ·cases h
  ·exact Rr h
 refine wp_seq (wp_region ?_)
 rw [a_]
 refine Eg (C := C) za bj ?_
 have RG : (execOp a.eval kB).run C.P w = .ok (.value (.pointer (some ⟨w.heap.size, 0, none⟩))) (w.alloc (.cells #[ql] ty)) := by
  obtain ⟨dst, op, zm, pos, after, guard⟩ := kB
  simp only at Js
  subst Js
  simp [execOp, Instr.alloc, s3 Jr Rw, newVar, newRow, newObj, Sem.run, k7]
 unfold Oper.wp
 rw [RG, Oper.upon_value]
 have D_ : some k = kB.dst := i9
 rw [← D_] at b9 ⊢
 show Exit.then _ _ .normal _ _
 have hold : ∀ b, b < w.heap.size → (w.alloc (.cells #[ql] ty)).heap[b]? = w.heap[b]? := by
  intro b ae
  show (w.heap.push _)[b]? = _
  rw [Array.getElem?_push, if_neg (by omega)]
 have jU : (w.alloc (.cells #[ql] ty)).heap[w.heap.size]? = some (.cells #[ql] ty) := by
  show (w.heap.push _)[_]? = _
  simp
 have yG : (w.alloc (.cells #[ql] ty)).heap.size = w.heap.size + 1 := by simp
 have RH := zu.grow hold (by rw [yG]; omega) rfl rfl rfl
 generalize au7 : w.alloc (.cells #[ql] ty) = fM at *
 generalize Jt : Value.pointer (some ⟨w.heap.size, 0, none⟩) = pw at *
 have RI : ¬ F w.heap.size := fun h => Nat.lt_irrefl _ (zu.gy _ h)
 have RJ : ∀ u, ¬ S u w.heap.size := fun u h => Nat.lt_irrefl _ (zu.fA _ _ h)
 have oE : w0.heap.size ≤ w.heap.size := zu.size
 obtain ⟨gP, ht, h4⟩ := vF (n := n) (dst := some k) (a := a) pw e4 b9
 have Ju := RH.Jo (t := k) (v := pw)
 rw [show dt (fun t => a.tmps.getD t undef) k pw = fun t => (a.put (some k) pw).tmps.getD t undef from gP.symm] at Ju
 have RK : (a.put (some k) pw).tmps.getD k undef = pw := by
  have := congrFun gP k
  simp only [nz] at this
  rw [lP] at this
  exact this
 have RL : ∀ u, ¬ gp S k (fun _ => False) u w.heap.size := by
  intro u h; simp only [gp] at h; split at h
  ·exact h
  ·exact RJ u h
 have RM : ∀ i ∈ n.fx, (a.put (some k) pw).tmps.getD i undef = ρ i := by
  intro i au
  have := congrFun gP i
  simp only [nz] at this
  rw [ji _ _ (fun e => ?_)] at this
  ·exact this.trans (ie i au)
  ·simp only [kR, Bool.and_eq_true, Bool.not_eq_true', List.contains_eq_mem, decide_eq_false_iff_not] at b9
   exact b9.2 (e ▸ au)
 have RN := h4.trans jz
 generalize a.put (some k) pw = ab at *
 obtain ⟨vD, cC⟩ := vK RD
 have a2 : uf.size = 2 := by simpa using vD
 obtain ⟨nL, Jv⟩ : ∃ o, uf[0]? = some o := ⟨uf[0], by simp [a2]⟩
 obtain ⟨p8, Jw⟩ : ∃ o, uf[1]? = some o := ⟨uf[1], by simp [a2]⟩
 obtain ⟨h6, zp, RO⟩ := cC 0 nL (by simpa using Jv)
 obtain ⟨jQ, Jx, RP⟩ := cC 1 p8 (by simpa using Jw)
 simp only [List.map_cons, List.map_nil, List.getElem?_cons_zero, List.getElem?_cons_succ, Option.some.injEq] at zp Jx
 subst zp Jx
 obtain ⟨yK, yL, yM, vp⟩ := ud (r := ⟨some d9, .h8 f (cs.map .t), none⟩) rfl RO
 obtain ⟨v1, v2, ts, v4⟩ := ud (r := ⟨none, .cx ty (.t k) (.t d9), none⟩) rfl RP
 change nN nL.op = .h8 f (cs.map .t) at yM
 change nN p8.op = .cx ty (.t k) (.t d9) at ts
 obtain ⟨RQ, Jy, RR⟩ : ∃ m1 : Array Operand, nL.op = .makeFunc (.func f) #[] m1 ∧ nI m1.toList = some (cs.map .t) := by
  rcases nO yM with h | h
  ·cases h
  ·exact Rt h
 have RS := Jp RR
 obtain ⟨CS, vm, Jz, Ej, RT⟩ : ∃ a b, p8.op = .store ty a b ∧ dY a = some (.t k) ∧ dY b = some (.t d9) := by
  rcases nO ts with h | h
  ·cases h
  ·exact Rs h
 have := zn Ej; subst this
 have := zn RT; subst this
 refine wp_seq (wp_region ?_)
 rw [a2]
 refine Eg (C := C) (l := [1]) Jv yL ?_
 have RU : (execOp ab.eval nL).run C.P fM = .ok (.value (.func (.func f) #[] (cs.map fun j => ab.tmps.getD j undef).toArray)) fM := by
  obtain ⟨dst, op, zm, pos, after, guard⟩ := nL
  simp only at Jy
  subst Jy
  have : RQ.map ab.eval = (cs.map fun j => ab.tmps.getD j undef).toArray := by
   apply Array.ext'
   rw [Array.toList_map, RS, List.map_map]
   rfl
  rw [← this]
  simp [execOp]
  rfl
 unfold Oper.wp
 rw [RU, Oper.upon_value]
 have RV : some d9 = nL.dst := yK
 rw [← RV] at vp ⊢
 generalize Ek : Value.func (.func f) #[] (cs.map fun j => ab.tmps.getD j undef).toArray = hY at *
 have RW : Value.gX hY = true := by rw [← Ek]; rfl
 obtain ⟨fE, g_, jZ⟩ := vF (n := n) (dst := some d9) (a := ab) hY ht vp
 have JA := Ju.Jo (t := d9) (v := hY)
 rw [show dt (fun t => ab.tmps.getD t undef) d9 hY = fun t => (ab.put (some d9) hY).tmps.getD t undef from fE.symm] at JA
 have El : ∀ j, j ≠ d9 → (ab.put (some d9) hY).tmps.getD j undef = ab.tmps.getD j undef := by
  intro j cJ
  have := congrFun fE j
  simp only [nz] at this
  rw [ji _ _ cJ] at this
  exact this
 have RX : (ab.put (some d9) hY).tmps.getD d9 undef = hY := by
  have := congrFun fE d9
  simp only [nz] at this
  rw [lP] at this
  exact this
 have JB : ∀ u, ¬ gp (gp S k (fun _ => False)) d9 (fun _ => False) u w.heap.size := by
  intro u h; simp only [gp] at h; split at h
  ·exact h
  ·exact RL u h
 have RY : ∀ i ∈ n.fx, (ab.put (some d9) hY).tmps.getD i undef = ρ i := by
  intro i au
  rw [El i (fun e => ?_)]
  ·exact RM i au
  ·simp only [kR, Bool.and_eq_true, Bool.not_eq_true', List.contains_eq_mem, decide_eq_false_iff_not] at vp
   exact vp.2 (e ▸ au)
 have RZ := jZ.trans RN
 have R0 : hY = .func (.func f) #[] (cs.map fun j => (ab.put (some d9) hY).tmps.getD j undef).toArray := by
  have : (cs.map fun j => (ab.put (some d9) hY).tmps.getD j undef) = cs.map fun j => ab.tmps.getD j undef :=
   List.map_congr_left fun j cJ => El j (fun e => zt (e ▸ cJ))
  rw [this, Ek]
 have JC : (ab.put (some d9) hY).tmps.getD k undef = pw := (El k Rx).trans RK
 generalize ab.put (some d9) hY = dz at *
 refine Eg (C := C) (l := []) Jw v2 ?_
 obtain ⟨gZ, fS, gG, hg, kt, lS, ch, nB⟩ := yw (P := C.P) (b := w.heap.size) (o := 0) (e := ty) (fr := (0, 0)) [hY] 0 #[ql] fM [] [ql] [] jU (fun o _ h => absurd h.2 (Nat.not_lt_zero _)) rfl rfl rfl (fun v a3 => by simp at a3; subst a3; exact RW)
 have R1 : (execOp dz.eval p8).run C.P fM = .ok .skip gZ := by
  obtain ⟨dst, op, zm, pos, after, guard⟩ := p8
  simp only at Jz
  subst Jz
  have v8 : dz.eval (.tmp k) = .pointer (some ⟨w.heap.size, 0, none⟩) := by rw [Jt]; exact JC
  have v9 : dz.eval (.tmp d9) = hY := RX
  have v_ : hY.cells = #[hY] := by rw [← Ek]; rfl
  simp [execOp, v8, v9, Instr.storeAt, Instr.sureAddr, storeVar, jR Jr, Rv, v_, fS]
 unfold Oper.wp
 rw [R1, Oper.upon_skip]
 have Em : none = p8.dst := v1
 rw [← Em]
 show wpOps C.P uf _ [] dz gZ
 show Exit.then _ _ .normal _ _
 have R2 := (JA.off (b := w.heap.size) oE RI JB hg kt lS ch nB).Rq oE (by rw [kt, yG]; omega) JB
 refine wp_seq (Ja (K := fun aA => eE (db C kX Q) aA) (b := w.heap.size) (g := f) (k0 := k0) (cs := cs) bB RE kr hm ks uc RZ g_ RY R2 (.inr rfl) (JC.trans Jt.symm) (by rw [gG, ← R0]; rfl) ?_ ?_)
 ·refine ry (fun _ s1 => ?_) h
  rintro ⟨ps, r, v8, v9, v_, Eb, R3, R4, R5⟩
  exact ⟨ps, r, v8, v9, v_, Eb, R3, R4, ry (fun _ s h => .inr ⟨_, Jk _ _, h⟩) R5⟩
 ·intro aA cR aU kx ff
  obtain ⟨au8, ai, aj⟩ := ff.eE kx
  exact HL bB pq RB (R.y1 kX (R.HD kX gq)) (y2 kX ai) aj
theorem aR.R6 (bB : C.fq) {f : FuncId} {fn : Func} {c : Code} {dD : R} {fx : List Nat} {as outs : List I} {r : I} (bH : C.P.funcs[f]? = some fn) (ae : fn.body = some c)
  (kU : (fn.name == "runtime.NumGoroutine") = false) (ah : bt ⟨fn.ntmps, fx⟩ c = some dD.strip) (bg : as.length ≤ fn.ntmps) (aE : dD.lZ (wb C))
  (h : ∀ Q : Exit → ar → Prop, (∀ s, eE (Ends C fx fn.results.toList r outs) s → Q .ret s) → (∀ s, eE (Ends C fx fn.results.toList r outs) s → Q .normal s) → db C dD Q (aa (num 0 as))) : aR C f as r outs := by
 intro w F X S vs hl a7
 refine DH (fx := fx) bB bH ae kU bg hl a7 fun a nP eT => ?_
 refine DG bB (H := wb C) (fun c T b Q s a w kr v7 bh a7 => Ru bB kr v7 bh a7) c (by rw [R.DC]; exact ah) (R.y1 dD aE) (y2 dD ?_) nP
 rw [y5]
 exact h _ (fun s h => ⟨.inr rfl, h⟩) (fun s h => ⟨.inl rfl, h⟩)
theorem R7 {Q : Exit → ar → Prop} {l : List (Nat × I)} {f : FuncId} {k k0 d0 d9 : Nat} {cs : List Nat} {m : List cK} {args : List aI} {d1 : Option Nat} {fh : List Nat} {kX b : R} (ei : List (Nat × I))
  (h : ∀ P : List (Nat × I) → Prop, P ei → nX C f k k0 d0 cs m args d1 [] fh P (fin (fin (aa l) (some k) .hole) (some d9) .hole)) (aE : db C kX Q (aa ei)) : db C (.iM (Eh C f k k0 d0 d9 cs m args d1 fh kX) b) Q (aa l) :=
 fun gC Ee => h (fun l => db C kX gC (aa l)) (DF kX Ee aE)
end
end Go.dk
