/- Part of a proof that a law returns true for every input. No condition. -/
import Derived.Test.YtocllehpepigpaaGreatFwJ
namespace Go.dg
section
variable {C : cE} {w0 w : World} {F0 X F b7 : Nat → Prop} {S aX : Nat → Nat → Prop} {n : Fr} {ρ : Nat → Value} {s aB : ar} {aC iL : Nat → Value} {a : Act} {av : I} {Q : Exit → Act → World → Prop} {aO : World}
theorem b9.off (h : b9 w0 F0 X F S s aC w) {b : Nat} (bf : w0.heap.size ≤ b) (bI : ¬ F b) (bZ : ∀ u, ¬ S u b) (hw : ∀ c, c ≠ b → aO.heap[c]? = w.heap[c]?) (af : aO.heap.size = w.heap.size)
  (ae : aO.os = w.os) (ah : aO.tape = w.tape) (aH : aO.output = w.output) : b9 w0 F0 X F S s aC aO where
 hL := h.hL
 hZ := h.hZ
 ga := fun c ax => by rw [af]; exact h.ga c ax
 fh := fun t c ax => by rw [af]; exact h.fh t c ax
 gF := h.gF
 gq := h.gq
 ez := h.ez
 eg := fun t => aM.frame (Sx := S) (fun c ax => hw c (fun e => bI (e ▸ ax))) (fun _ h => h) (fun x c ax => hw c (fun e => bZ x (e ▸ ax))) h.eg _ _ _ (fun c ax => hw c (fun e => bZ t (e ▸ ax))) (h.eg t)
 old := fun c ax kS => (hw c (by omega)).trans (h.old c ax kS)
 size := by rw [af]; exact h.size
 os := ae.trans h.os
 tape := ah.trans h.tape
 output := aH.trans h.output
theorem b9.LY (h : b9 w0 F0 X F S s aC w) {t : Nat} {v : Value} : b9 w0 F0 X F (g3 S t (fun _ => False)) (dg.fin s (some t) .hole) (dM aC t v) w := by
 have : dg.fin s (some t) .hole = dM s t .hole := by simp [dg.fin, I.plain]
 rw [this]
 exact h.uE rfl (by rw [aM]; trivial)
theorem b9.U4 (h : b9 w0 F0 X F S s aC w) {b : Nat} (bf : w0.heap.size ≤ b) (ad : b < w.heap.size) (bZ : ∀ u, ¬ S u b) : b9 w0 F0 X (fun c => F c ∨ c = b) S s aC w where
 hL := fun c ax => .inl (h.hL c ax)
 hZ := fun c ax => by
  rcases ax with ax | rfl
  ·exact h.hZ c ax
  ·exact .inr (.inr bf)
 ga := fun c ax => by
  rcases ax with ax | rfl
  ·exact h.ga c ax
  ·exact ad
 fh := h.fh
 gF := fun t c ax bF => by
  rcases bF with bF | rfl
  ·exact h.gF t c ax bF
  ·exact bZ t ax
 gq := h.gq
 ez := h.ez
 eg := fun t => aM.frame (fun _ _ => rfl) (fun b ad => .inl ad) (fun _ _ _ => rfl) h.eg _ _ _ (fun _ _ => rfl) (h.eg t)
 old := h.old
 size := h.size
 os := h.os
 tape := h.tape
 output := h.output
theorem Gg {c : Code} {x y : J} (h : bq n c = some (.seq x y)) : ∃ a b, c = .seq a b ∧ bq n a = some x ∧ bq n b = some y := by
 cases c with
 | seq a b =>
   simp only [bq] at h
   split at h
   ·rename_i uR Ko aq bl
    cases h
    exact ⟨a, b, rfl, aq, bl⟩
   ·cases h
 | region id ops draw =>
   cases draw with
   | false => simp only [bq, Option.map_eq_some_iff] at h; obtain ⟨r, ae, ah⟩ := h; cases ah
   | true =>
     simp only [bq] at h
     split at h
     ·simp only [Option.map_eq_some_iff] at h; obtain ⟨r, ae, ah⟩ := h; cases ah
     ·cases h
 | cond c a b => simp only [bq] at h; split at h <;> cases h
 | block id b => simp only [bq, Option.map_eq_some_iff] at h; obtain ⟨r, ae, ah⟩ := h; cases ah
 | loop b => simp only [bq, Option.map_eq_some_iff] at h; obtain ⟨r, ae, ah⟩ := h; cases ah
 | _ => simp [bq] at h
theorem vE {ops : Array Oper} {r : cm} {o : Oper} (cb : r.guard = none) (h : pR n ops o = some r.un) : r.dst = o.dst ∧ o.guard = none ∧ oX o.op = r.b1.base ∧ lL n o.dst = true := by
 unfold pR at h
 split at h
 ·rename_i aj
  split at h
  ·rename_i UL h_
   simp only [cm.un, Option.some.injEq, cm.mk.injEq] at h
   obtain ⟨aU, ba, aW⟩ := h
   refine ⟨aU.symm, ?_, ba, aj⟩
   rw [aW, cb] at h_
   cases b_ : o.guard with
   | none => rfl
   | some Fv =>
     rw [b_] at h_; simp only [xB] at h_; split at h_ <;> cases h_
  ·cases h
 ·cases h
theorem Gh {ops : Array Oper} {i : Nat} {o : Oper} {l : List Nat} (b_ : ops[i]? = some o) (cb : o.guard = none) (h : o.wp C.P a w (wpOps C.P ops Q l) Q) : wpOps C.P ops Q (i :: l) a w := by
 simp only [wpOps, b_]
 show (if Region.wanted o (yielded ops a.tmps) = true then o.wp C.P a w _ Q ∨ (o.asks C.P a w ∧ LetsOut Q) else _)
 rw [if_pos (AE cb)]
 exact .inl h
theorem U5 {op : Op} {T : TypeId} (h : dk op = some (.ho T)) : op = .alloc T := by
 cases op with
 | alloc xD => simp only [dk, Option.some.injEq, gI.ho.injEq] at h; rw [h]
 | call c =>
   obtain ⟨callee, mS, argTypes⟩ := c
   simp only [dk] at h
   split at h <;> (try split at h) <;> (try split at h) <;> (try simp [Option.map_eq_some_iff] at h)
 | makeFunc fn first cs =>
   cases fn <;> simp only [dk] at h <;> first | (cases h; done) | (split at h <;> simp at h)
 | slice T x dB au h4 =>
   cases h4 <;> simp only [dk] at h <;> first | (cases h; done) | (split at h <;> simp at h)
 | _ => simp only [dk] at h <;> first | (cases h; done) | (simp at h; done) | (split at h <;> simp at h)
theorem U6 {op : Op} {T : TypeId} {x y : aI} (h : dk op = some (.gC T x y)) : ∃ a b, op = .store T a b ∧ ek a = some x ∧ ek b = some y := by
 cases op with
 | store xD a b =>
   simp only [dk] at h
   split at h
   ·rename_i cA kU aq bl
    simp only [Option.some.injEq, gI.gC.injEq] at h
    obtain ⟨rfl, rfl, rfl⟩ := h
    exact ⟨a, b, rfl, aq, bl⟩
   ·cases h
 | call c =>
   obtain ⟨callee, mS, argTypes⟩ := c
   simp only [dk] at h
   split at h <;> (try split at h) <;> (try split at h) <;> (try simp [Option.map_eq_some_iff] at h)
 | makeFunc fn first cs =>
   cases fn <;> simp only [dk] at h <;> first | (cases h; done) | (split at h <;> simp at h)
 | slice T x dB au h4 =>
   cases h4 <;> simp only [dk] at h <;> first | (cases h; done) | (split at h <;> simp at h)
 | _ => simp only [dk] at h <;> first | (cases h; done) | (simp at h; done) | (split at h <;> simp at h)
theorem U7 {op : Op} {g : FuncId} {xs : List aI} (h : dk op = some (.iy g xs)) : ∃ cs : Array Operand, op = .makeFunc (.func g) #[] cs ∧ oQ cs.toList = some xs := by
 cases op with
 | makeFunc fn first cs =>
   cases fn with
   | func f =>
     simp only [dk] at h
     split at h
     ·rename_i E1
      simp only [Option.map_eq_some_iff] at h
      obtain ⟨n3, hh, h⟩ := h
      cases h
      have E2 : first = #[] := by simpa using E1
      subst E2
      exact ⟨cs, rfl, hh⟩
     ·cases h
   | _ => simp [dk] at h
 | call c =>
   obtain ⟨callee, mS, argTypes⟩ := c
   simp only [dk] at h
   split at h <;> (try split at h) <;> (try split at h) <;> (try simp [Option.map_eq_some_iff] at h)
 | slice T x dB au h4 =>
   cases h4 <;> simp only [dk] at h <;> first | (cases h; done) | (split at h <;> simp at h)
 | _ => simp only [dk] at h <;> first | (cases h; done) | (simp at h; done) | (split at h <;> simp at h)
theorem LZ : ∀ {os : List Operand} {cs : List Nat}, oQ os = some (cs.map .t) → os = cs.map .tmp
 | [], cs, h => by
   simp only [oQ, Option.some.injEq] at h
   cases cs with
   | nil => rfl
   | cons c cs => cases h
 | o :: os, cs, h => by
   simp only [oQ] at h
   split at h
   ·rename_i x JB ae ah
    simp only [Option.some.injEq] at h
    cases cs with
    | nil => cases h
    | cons c cs =>
      simp only [List.map_cons, List.cons.injEq] at h
      obtain ⟨rfl, rfl⟩ := h
      rw [A7 ae, LZ ah]; rfl
   ·cases h
def Gi (C : cE) (f : FuncId) (k k0 d0 d9 : Nat) (cs : List Nat) (m : List cm) (args : List aI) (d1 : Option Nat) (keep : List Nat) (lP : J) : (Exit → ar → Prop) → ar → Prop :=
 fun Q s => LR C f k k0 d0 cs m args d1 [] keep (df C lP Q) (fin (fin s (some k) .hole) (some d9) .hole)
def L0 (T : TypeId) (f : FuncId) (k d0 d9 : Nat) (cs : List Nat) (m : List cm) (args : List aI) (d1 : Option Nat) (lP : J) : J :=
 .seq (.R [⟨some k, .ho T, none⟩] none) (.seq (.R [⟨some d9, .iy f (cs.map .t), none⟩, ⟨none, .gC T (.t k) (.t d9), none⟩] none)
  (.seq (.R (⟨some d0, .cl T (.t k), none⟩ :: (m ++ [⟨d1, .call (.t d0) args, none⟩])) none) lP))
def x4 (C : cE) (T : (Exit → ar → Prop) → ar → Prop) (b : J) : Prop :=
 ∃ (ty : TypeId) (f : FuncId) (k k0 d0 d9 : Nat) (cs : List Nat) (m : List cm) (args : List aI) (d1 : Option Nat) (keep : List Nat) (lP : J),
   T = Gi C f k k0 d0 d9 cs m args d1 keep lP ∧ b = L0 ty f k d0 d9 cs m args d1 lP.kZ ∧ (C.T ty).flat = true ∧ (∃ i z v, C.P.info? ty = some i ∧ i.size = 1 ∧ i.zero = some z ∧ z.cells = #[v] ∧ Value.hf v = true) ∧
   Gc (fun d => d != d0 && !cs.contains d) m = true ∧ cs.contains d0 = false ∧ cs[k0]? = some k ∧ cs.contains d9 = false ∧ lP.plain = true
theorem U8 (bz : C.Ok) {c : Code} {T : (Exit → ar → Prop) → ar → Prop} {b : J} {Q : Exit → ar → Prop} (gj : x4 C T b) (af : bq n c = some b.strip) (h : T Q s) (aZ : Rel w0 F0 X n ρ s a w) :
  c.wp C.P (sN w0 F0 X n ρ Q) a w := by
 obtain ⟨ty, f, k, k0, d0, d9, cs, m, args, d1, keep, lP, rfl, rfl, ld, ⟨aBu, z, rK, L1, U9, U_, l4, aBv⟩, hm, lf, vD, Bc, gG⟩ := gj
 replace hm : ∀ r ∈ m, ∀ d, r.dst = some d → d ≠ d0 ∧ d ∉ cs := fun r aZ d aj => by
  have := LS hm r aZ d aj
  simpa using this
 replace lf : d0 ∉ cs := by simpa using lf
 replace Bc : d9 ∉ cs := by simpa using Bc
 have A8 : k ∈ cs := List.mem_of_getElem? vD
 have Va : k ≠ d9 := fun e => Bc (e ▸ A8)
 obtain ⟨cz, xq, rfl, ny, fO⟩ := Gg af
 obtain ⟨ke, aBw, rfl, x5, Vb⟩ := Gg fO
 obtain ⟨mL, qu, rfl, Vc, Vd⟩ := Gg Vb
 obtain ⟨aBx, Gj, rfl, Ve⟩ := A_ ny
 obtain ⟨aBy, vG, rfl, Vf⟩ := A_ x5
 obtain ⟨aBz, aBA, rfl, Vg⟩ := A_ Vc
 obtain ⟨iY, eM, hU, F, S, rk⟩ := aZ
 obtain ⟨l2, bA⟩ := xH Ve
 have ba : Gj.size = 1 := by simpa using l2
 obtain ⟨ln, AU⟩ : ∃ o, Gj[0]? = some o := ⟨Gj[0], by simp [ba]⟩
 obtain ⟨bj, AN, Vh⟩ := bA 0 ln (by simpa using AU)
 simp only [List.map_cons, List.map_nil, List.getElem?_cons_zero, Option.some.injEq] at AN
 subst AN
 obtain ⟨hG, hg, iw, ix⟩ := vE (r := ⟨some k, .ho ty, none⟩) rfl Vh
 change oX ln.op = .ho ty at iw
 have L2 : ln.op = .alloc ty := by
  rcases ns iw with h | h
  ·cases h
  ·exact U5 h
 refine wp_seq (wp_region ?_)
 rw [ba]
 refine Gh (C := C) AU hg ?_
 have Vi : (execOp a.eval ln).run C.P w = .ok (.value (.pointer (some ⟨w.heap.size, 0, none⟩))) (w.alloc (.cells #[rK] ty)) := by
  obtain ⟨dst, op, A6, pos, after, guard⟩ := ln
  simp only at L2
  subst L2
  simp [execOp, Instr.alloc, sl L1 U_, newVar, newRow, newObj, Sem.run, l4]
 unfold Oper.wp
 rw [Vi, Oper.upon_value]
 have Ga : some k = ln.dst := hG
 rw [← Ga] at ix ⊢
 show Exit.then _ _ .normal _ _
 have hold : ∀ b, b < w.heap.size → (w.alloc (.cells #[rK] ty)).heap[b]? = w.heap[b]? := by
  intro b ad
  show (w.heap.push _)[b]? = _
  rw [Array.getElem?_push, if_neg (by omega)]
 have kx : (w.alloc (.cells #[rK] ty)).heap[w.heap.size]? = some (.cells #[rK] ty) := by
  show (w.heap.push _)[_]? = _
  simp
 have Ap : (w.alloc (.cells #[rK] ty)).heap.size = w.heap.size + 1 := by simp
 have Vj := rk.grow hold (by rw [Ap]; omega) rfl rfl rfl
 generalize aBB : w.alloc (.cells #[rK] ty) = fP at *
 generalize L3 : Value.pointer (some ⟨w.heap.size, 0, none⟩) = qA at *
 have Vk : ¬ F w.heap.size := fun h => Nat.lt_irrefl _ (rk.ga _ h)
 have Vl : ∀ u, ¬ S u w.heap.size := fun u h => Nat.lt_irrefl _ (rk.fh _ _ h)
 have pM : w0.heap.size ≤ w.heap.size := rk.size
 obtain ⟨f_, hk, ik⟩ := xC (n := n) (dst := some k) (a := a) qA eM ix
 have L4 := Vj.LY (t := k) (v := qA)
 rw [show dM (fun t => a.tmps.getD t undef) k qA = fun t => (a.put (some k) qA).tmps.getD t undef from f_.symm] at L4
 have Vm : (a.put (some k) qA).tmps.getD k undef = qA := by
  have := congrFun f_ k
  simp only [oF] at this
  rw [mJ] at this
  exact this
 have Vn : ∀ u, ¬ g3 S k (fun _ => False) u w.heap.size := by
  intro u h; simp only [g3] at h; split at h
  ·exact h
  ·exact Vl u h
 have Vo : ∀ i ∈ n.fx, (a.put (some k) qA).tmps.getD i undef = ρ i := by
  intro i au
  have := congrFun f_ i
  simp only [oF] at this
  rw [jX _ _ (fun e => ?_)] at this
  ·exact this.trans (hU i au)
  ·simp only [lL, Bool.and_eq_true, Bool.not_eq_true', List.contains_eq_mem, decide_eq_false_iff_not] at ix
   exact ix.2 (e ▸ au)
 have Vp := ik.trans iY
 generalize a.put (some k) qA = U at *
 obtain ⟨xA, cU⟩ := xH Vf
 have aW : vG.size = 2 := by simpa using xA
 obtain ⟨oT, L5⟩ : ∃ o, vG[0]? = some o := ⟨vG[0], by simp [aW]⟩
 obtain ⟨ry, L6⟩ : ∃ o, vG[1]? = some o := ⟨vG[1], by simp [aW]⟩
 obtain ⟨dD, A9, Vq⟩ := cU 0 oT (by simpa using L5)
 obtain ⟨ch, L7, Vr⟩ := cU 1 ry (by simpa using L6)
 simp only [List.map_cons, List.map_nil, List.getElem?_cons_zero, List.getElem?_cons_succ, Option.some.injEq] at A9 L7
 subst A9 L7
 obtain ⟨rp, sC, Au, xl⟩ := vE (r := ⟨some d9, .iy f (cs.map .t), none⟩) rfl Vq
 obtain ⟨v1, v2, v3, v4⟩ := vE (r := ⟨none, .gC ty (.t k) (.t d9), none⟩) rfl Vr
 change oX oT.op = .iy f (cs.map .t) at Au
 change oX ry.op = .gC ty (.t k) (.t d9) at v3
 obtain ⟨Vs, L8, Vt⟩ : ∃ n3 : Array Operand, oT.op = .makeFunc (.func f) #[] n3 ∧ oQ n3.toList = some (cs.map .t) := by
  rcases ns Au with h | h
  ·cases h
  ·exact U7 h
 have Vu := LZ Vt
 obtain ⟨ER, xi, L9, Gk, Vv⟩ : ∃ a b, ry.op = .store ty a b ∧ ek a = some (.t k) ∧ ek b = some (.t d9) := by
  rcases ns v3 with h | h
  ·cases h
  ·exact U6 h
 have := A7 Gk; subst this
 have := A7 Vv; subst this
 refine wp_seq (wp_region ?_)
 rw [aW]
 refine Gh (C := C) (l := [1]) L5 sC ?_
 have Vw : (execOp U.eval oT).run C.P fP = .ok (.value (.func (.func f) #[] (cs.map fun j => U.tmps.getD j undef).toArray)) fP := by
  obtain ⟨dst, op, A6, pos, after, guard⟩ := oT
  simp only at L8
  subst L8
  have : Vs.map U.eval = (cs.map fun j => U.tmps.getD j undef).toArray := by
   apply Array.ext'
   rw [Array.toList_map, Vu, List.map_map]
   rfl
  rw [← this]
  simp [execOp]
  rfl
 unfold Oper.wp
 rw [Vw, Oper.upon_value]
 have Vx : some d9 = oT.dst := rp
 rw [← Vx] at xl ⊢
 generalize Gl : Value.func (.func f) #[] (cs.map fun j => U.tmps.getD j undef).toArray = iC at *
 have Vy : Value.hf iC = true := by rw [← Gl]; rfl
 obtain ⟨e4, fT, kD⟩ := xC (n := n) (dst := some d9) (a := U) iC hk xl
 have L_ := L4.LY (t := d9) (v := iC)
 rw [show dM (fun t => U.tmps.getD t undef) d9 iC = fun t => (U.put (some d9) iC).tmps.getD t undef from e4.symm] at L_
 have Gm : ∀ j, j ≠ d9 → (U.put (some d9) iC).tmps.getD j undef = U.tmps.getD j undef := by
  intro j cH
  have := congrFun e4 j
  simp only [oF] at this
  rw [jX _ _ cH] at this
  exact this
 have Vz : (U.put (some d9) iC).tmps.getD d9 undef = iC := by
  have := congrFun e4 d9
  simp only [oF] at this
  rw [mJ] at this
  exact this
 have Ma : ∀ u, ¬ g3 (g3 S k (fun _ => False)) d9 (fun _ => False) u w.heap.size := by
  intro u h; simp only [g3] at h; split at h
  ·exact h
  ·exact Vn u h
 have VA : ∀ i ∈ n.fx, (U.put (some d9) iC).tmps.getD i undef = ρ i := by
  intro i au
  rw [Gm i (fun e => ?_)]
  ·exact Vo i au
  ·simp only [lL, Bool.and_eq_true, Bool.not_eq_true', List.contains_eq_mem, decide_eq_false_iff_not] at xl
   exact xl.2 (e ▸ au)
 have VB := kD.trans Vp
 have VC : iC = .func (.func f) #[] (cs.map fun j => (U.put (some d9) iC).tmps.getD j undef).toArray := by
  have : (cs.map fun j => (U.put (some d9) iC).tmps.getD j undef) = cs.map fun j => U.tmps.getD j undef :=
   List.map_congr_left fun j cH => Gm j (fun e => Bc (e ▸ cH))
  rw [this, Gl]
 have Mb : (U.put (some d9) iC).tmps.getD k undef = qA := (Gm k Va).trans Vm
 generalize U.put (some d9) iC = a3 at *
 refine Gh (C := C) (l := []) L6 v2 ?_
 obtain ⟨g8, fR, gW, hS, ku, l3, cB, oJ⟩ := Af (P := C.P) (b := w.heap.size) (o := 0) (e := ty) (fr := (0, 0)) [iC] 0 #[rK] fP [] [rK] [] kx (fun o _ h => absurd h.2 (Nat.not_lt_zero _)) rfl rfl rfl (fun v aQ => by simp at aQ; subst aQ; exact Vy)
 have VD : (execOp a3.eval ry).run C.P fP = .ok .skip g8 := by
  obtain ⟨dst, op, A6, pos, after, guard⟩ := ry
  simp only at L9
  subst L9
  have x1 : a3.eval (.tmp k) = .pointer (some ⟨w.heap.size, 0, none⟩) := by rw [L3]; exact Mb
  have x2 : a3.eval (.tmp d9) = iC := Vz
  have z3 : iC.cells = #[iC] := by rw [← Gl]; rfl
  simp [execOp, x1, x2, Instr.storeAt, Instr.sureAddr, storeVar, kc L1, U9, z3, fR]
 unfold Oper.wp
 rw [VD, Oper.upon_skip]
 have Gn : none = ry.dst := v1
 rw [← Gn]
 show wpOps C.P vG _ [] a3 g8
 show Exit.then _ _ .normal _ _
 have VE := (L_.off (b := w.heap.size) pM Vk Ma hS ku l3 cB oJ).U4 pM (by rw [ku, Ap]; omega) Ma
 refine wp_seq (LJ (K := fun aB => eO (df C lP Q) aB) (b := w.heap.size) (g := f) (k0 := k0) (cs := cs) bz Vg ld hm lf vD VB fT VA VE (.inr rfl) (Mb.trans L3.symm) (by rw [gW, ← VC]; rfl) ?_ ?_)
 ·refine sQ (fun _ s1 => ?_) h
  rintro ⟨ps, r, x1, x2, z3, z4, z5, VF, VG⟩
  exact ⟨ps, r, x1, x2, z3, z4, z5, VF, sQ (fun _ s h => .inr ⟨_, LU _ _, h⟩) VG⟩
 ·intro aB da aO lg e8
  obtain ⟨aBC, ae, ah⟩ := e8.eO lg
  exact Kq bz qu Vd (J.AK lP (J.Ki lP gG)) (AL lP ae) ah
theorem bm.VH (bz : C.Ok) {f : FuncId} {fn : Func} {c : Code} {dN : J} {fx : List Nat} {as outs : List I} {r : I} (bF : C.P.funcs[f]? = some fn) (ad : fn.body = some c)
  (k1 : (fn.name == "runtime.NumGoroutine") = false) (af : bq ⟨fn.ntmps, fx⟩ c = some dN.strip) (a_ : as.length ≤ fn.ntmps) (aA : dN.mT (x4 C))
  (h : ∀ Q : Exit → ar → Prop, (∀ s, eO (Ends C fx fn.results.toList r outs) s → Q .ret s) → (∀ s, eO (Ends C fx fn.results.toList r outs) s → Q .normal s) → df C dN Q (aa (num 0 as))) : bm C f as r outs := by
 intro w F X S vs hl aZ
 refine FF (fx := fx) bz bF ad k1 a_ hl aZ fun a oY fb => ?_
 refine FE bz (H := x4 C) (fun c T b Q s a w ld x0 bo aZ => U8 bz ld x0 bo aZ) c (by rw [J.FA]; exact af) (J.AK dN aA) (AL dN ?_) oY
 rw [FJ]
 exact h _ (fun s h => ⟨.inr rfl, h⟩) (fun s h => ⟨.inl rfl, h⟩)
theorem VI {Q : Exit → ar → Prop} {l : List (Nat × I)} {f : FuncId} {k k0 d0 d9 : Nat} {cs : List Nat} {m : List cm} {args : List aI} {d1 : Option Nat} {keep : List Nat} {lP b : J} (eP : List (Nat × I))
  (h : ∀ P : List (Nat × I) → Prop, P eP → o7 C f k k0 d0 cs m args d1 [] keep P (fin (fin (aa l) (some k) .hole) (some d9) .hole)) (aA : df C lP Q (aa eP)) : df C (.jn (Gi C f k k0 d0 d9 cs m args d1 keep lP) b) Q (aa l) :=
 fun eZ Gf => h (fun l => df C lP eZ (aa l)) (FD lP Gf aA)
end
end Go.dg
