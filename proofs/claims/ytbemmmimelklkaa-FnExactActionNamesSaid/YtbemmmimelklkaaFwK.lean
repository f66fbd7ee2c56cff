/- Part of a proof that a law returns true for every input. No condition. -/
import Derived.Test.YtbemmmimelklkaaFwJ
namespace Go.cB
section
variable {C : bZ} {w0 w : World} {F0 X F bI : Nat → Prop} {S aL : Nat → Nat → Prop} {n : Fr} {ρ : Nat → Value} {s ao : aj} {az gS : Nat → Value} {a : Act} {av : I} {Q : Exit → Act → World → Prop} {aD : World}
theorem bE.off (h : bE w0 F0 X F S s az w) {b : Nat} (bh : w0.heap.size ≤ b) (bo : ¬ F b) (bL : ∀ u, ¬ S u b) (hw : ∀ c, c ≠ b → aD.heap[c]? = w.heap[c]?) (aa : aD.heap.size = w.heap.size)
  (ab : aD.os = w.os) (af : aD.tape = w.tape) (aF : aD.output = w.output) : bE w0 F0 X F S s az aD where
 gk := h.gk
 gC := h.gC
 eT := fun c al => by rw [aa]; exact h.eT c al
 dM := fun t c al => by rw [aa]; exact h.dM t c al
 ff := h.ff
 eU := h.eU
 dh := h.dh
 da := fun t => aH.frame (Sx := S) (fun c al => hw c (fun e => bo (e ▸ al))) (fun _ h => h) (fun x c al => hw c (fun e => bL x (e ▸ al))) h.da _ _ _ (fun c al => hw c (fun e => bL t (e ▸ al))) (h.da t)
 old := fun c al iX => (hw c (by omega)).trans (h.old c al iX)
 size := by rw [aa]; exact h.size
 os := ab.trans h.os
 tape := af.trans h.tape
 output := aF.trans h.output
theorem bE.F8 (h : bE w0 F0 X F S s az w) {t : Nat} {v : Value} : bE w0 F0 X F (fi S t (fun _ => False)) (cB.fin s (some t) .hole) (cY az t v) w := by
 have : cB.fin s (some t) .hole = cY s t .hole := by simp [cB.fin, I.plain]
 rw [this]
 exact h.q1 rfl (by rw [aH]; trivial)
theorem bE.NC (h : bE w0 F0 X F S s az w) {b : Nat} (bh : w0.heap.size ≤ b) (U : b < w.heap.size) (bL : ∀ u, ¬ S u b) : bE w0 F0 X (fun c => F c ∨ c = b) S s az w where
 gk := fun c al => .inl (h.gk c al)
 gC := fun c al => by
  rcases al with al | rfl
  ·exact h.gC c al
  ·exact .inr (.inr bh)
 eT := fun c al => by
  rcases al with al | rfl
  ·exact h.eT c al
  ·exact U
 dM := h.dM
 ff := fun t c al bB => by
  rcases bB with bB | rfl
  ·exact h.ff t c al bB
  ·exact bL t al
 eU := h.eU
 dh := h.dh
 da := fun t => aH.frame (fun _ _ => rfl) (fun b U => .inl U) (fun _ _ _ => rfl) h.da _ _ _ (fun _ _ => rfl) (h.da t)
 old := h.old
 size := h.size
 os := h.os
 tape := h.tape
 output := h.output
theorem Bk {c : Code} {x y : J} (h : bQ n c = some (.seq x y)) : ∃ a b, c = .seq a b ∧ bQ n a = some x ∧ bQ n b = some y := by
 cases c with
 | seq a b =>
   simp only [bQ] at h
   split at h
   ·rename_i rf Ex au bC
    cases h
    exact ⟨a, b, rfl, au, bC⟩
   ·cases h
 | region id ops draw =>
   cases draw with
   | false => simp only [bQ, Option.map_eq_some_iff] at h; obtain ⟨r, ab, af⟩ := h; cases af
   | true =>
     simp only [bQ] at h
     split at h
     ·simp only [Option.map_eq_some_iff] at h; obtain ⟨r, ab, af⟩ := h; cases af
     ·cases h
 | cond c a b => simp only [bQ] at h; split at h <;> cases h
 | block id b => simp only [bQ, Option.map_eq_some_iff] at h; obtain ⟨r, ab, af⟩ := h; cases af
 | loop b => simp only [bQ, Option.map_eq_some_iff] at h; obtain ⟨r, ab, af⟩ := h; cases af
 | _ => simp [bQ] at h
theorem r5 {ops : Array Oper} {r : cg} {o : Oper} (bO : r.guard = none) (h : nh n ops o = some r.un) : r.dst = o.dst ∧ o.guard = none ∧ mE o.op = r.bu.base ∧ jH n o.dst = true := by
 unfold nh at h
 split at h
 ·rename_i ah
  split at h
  ·rename_i Nj gu
   simp only [cg.un, Option.some.injEq, cg.mk.injEq] at h
   obtain ⟨aJ, aP, a_⟩ := h
   refine ⟨aJ.symm, ?_, aP, ah⟩
   rw [a_, bO] at gu
   cases bU : o.guard with
   | none => rfl
   | some Av =>
     rw [bU] at gu; simp only [tq] at gu; split at gu <;> cases gu
  ·cases h
 ·cases h
theorem Bl {ops : Array Oper} {i : Nat} {o : Oper} {l : List Nat} (bU : ops[i]? = some o) (bO : o.guard = none) (h : o.wp C.P a w (wpOps C.P ops Q l) Q) : wpOps C.P ops Q (i :: l) a w := by
 simp only [wpOps, bU]
 show (if Region.wanted o (yielded ops a.tmps) = true then o.wp C.P a w _ Q ∨ (o.asks C.P a w ∧ LetsOut Q) else _)
 rw [if_pos (wC bO)]
 exact .inl h
theorem ND {op : Op} {T : TypeId} (h : cJ op = some (.dS T)) : op = .alloc T := by
 cases op with
 | alloc ts => simp only [cJ, Option.some.injEq, eX.dS.injEq] at h; rw [h]
 | call c =>
   obtain ⟨callee, kM, argTypes⟩ := c
   simp only [cJ] at h
   split at h <;> (try split at h) <;> (try split at h) <;> (try simp [Option.map_eq_some_iff] at h)
 | makeFunc fn first cs =>
   cases fn <;> simp only [cJ] at h <;> first | (cases h; done) | (split at h <;> simp at h)
 | slice T x cF ak gn =>
   cases gn <;> simp only [cJ] at h <;> first | (cases h; done) | (split at h <;> simp at h)
 | _ => simp only [cJ] at h <;> first | (cases h; done) | (simp at h; done) | (split at h <;> simp at h)
theorem NF {op : Op} {T : TypeId} {x y : aA} (h : cJ op = some (.cP T x y)) : ∃ a b, op = .store T a b ∧ db a = some x ∧ db b = some y := by
 cases op with
 | store ts a b =>
   simp only [cJ] at h
   split at h
   ·rename_i cx iH au bC
    simp only [Option.some.injEq, eX.cP.injEq] at h
    obtain ⟨rfl, rfl, rfl⟩ := h
    exact ⟨a, b, rfl, au, bC⟩
   ·cases h
 | call c =>
   obtain ⟨callee, kM, argTypes⟩ := c
   simp only [cJ] at h
   split at h <;> (try split at h) <;> (try split at h) <;> (try simp [Option.map_eq_some_iff] at h)
 | makeFunc fn first cs =>
   cases fn <;> simp only [cJ] at h <;> first | (cases h; done) | (split at h <;> simp at h)
 | slice T x cF ak gn =>
   cases gn <;> simp only [cJ] at h <;> first | (cases h; done) | (split at h <;> simp at h)
 | _ => simp only [cJ] at h <;> first | (cases h; done) | (simp at h; done) | (split at h <;> simp at h)
theorem NG {op : Op} {g : FuncId} {xs : List aA} (h : cJ op = some (.hd g xs)) : ∃ cs : Array Operand, op = .makeFunc (.func g) #[] cs ∧ my cs.toList = some xs := by
 cases op with
 | makeFunc fn first cs =>
   cases fn with
   | func f =>
     simp only [cJ] at h
     split at h
     ·rename_i zZ
      simp only [Option.map_eq_some_iff] at h
      obtain ⟨lQ, hr, h⟩ := h
      cases h
      have z1 : first = #[] := by simpa using zZ
      subst z1
      exact ⟨cs, rfl, hr⟩
     ·cases h
   | _ => simp [cJ] at h
 | call c =>
   obtain ⟨callee, kM, argTypes⟩ := c
   simp only [cJ] at h
   split at h <;> (try split at h) <;> (try split at h) <;> (try simp [Option.map_eq_some_iff] at h)
 | slice T x cF ak gn =>
   cases gn <;> simp only [cJ] at h <;> first | (cases h; done) | (split at h <;> simp at h)
 | _ => simp only [cJ] at h <;> first | (cases h; done) | (simp at h; done) | (split at h <;> simp at h)
theorem F9 : ∀ {os : List Operand} {cs : List Nat}, my os = some (cs.map .t) → os = cs.map .tmp
 | [], cs, h => by
   simp only [my, Option.some.injEq] at h
   cases cs with
   | nil => rfl
   | cons c cs => cases h
 | o :: os, cs, h => by
   simp only [my] at h
   split at h
   ·rename_i x DM ab af
    simp only [Option.some.injEq] at h
    cases cs with
    | nil => cases h
    | cons c cs =>
      simp only [List.map_cons, List.cons.injEq] at h
      obtain ⟨rfl, rfl⟩ := h
      rw [wZ ab, F9 af]; rfl
   ·cases h
def Bm (C : bZ) (f : FuncId) (k k0 d0 d9 : Nat) (cs : List Nat) (m : List cg) (args : List aA) (d1 : Option Nat) (keep : List Nat) (jN : J) : (Exit → aj → Prop) → aj → Prop :=
 fun Q s => F2 C f k k0 d0 cs m args d1 [] keep (cG C jN Q) (fin (fin s (some k) .hole) (some d9) .hole)
def F_ (T : TypeId) (f : FuncId) (k d0 d9 : Nat) (cs : List Nat) (m : List cg) (args : List aA) (d1 : Option Nat) (jN : J) : J :=
 .seq (.ae [⟨some k, .dS T, none⟩] none) (.seq (.ae [⟨some d9, .hd f (cs.map .t), none⟩, ⟨none, .cP T (.t k) (.t d9), none⟩] none)
  (.seq (.ae (⟨some d0, .aM T (.t k), none⟩ :: (m ++ [⟨d1, .call (.t d0) args, none⟩])) none) jN))
def tT (C : bZ) (T : (Exit → aj → Prop) → aj → Prop) (b : J) : Prop :=
 ∃ (ty : TypeId) (f : FuncId) (k k0 d0 d9 : Nat) (cs : List Nat) (m : List cg) (args : List aA) (d1 : Option Nat) (keep : List Nat) (jN : J),
   T = Bm C f k k0 d0 d9 cs m args d1 keep jN ∧ b = F_ ty f k d0 d9 cs m args d1 jN.i3 ∧ (C.T ty).flat = true ∧ (∃ i z v, C.P.info? ty = some i ∧ i.size = 1 ∧ i.zero = some z ∧ z.cells = #[v] ∧ Value.fN v = true) ∧
   Bh (fun d => d != d0 && !cs.contains d) m = true ∧ cs.contains d0 = false ∧ cs[k0]? = some k ∧ cs.contains d9 = false ∧ jN.plain = true
theorem NH (bp : C.Ok) {c : Code} {T : (Exit → aj → Prop) → aj → Prop} {b : J} {Q : Exit → aj → Prop} (fs : tT C T b) (aa : bQ n c = some b.strip) (h : T Q s) (aO : Rel w0 F0 X n ρ s a w) :
  c.wp C.P (pV w0 F0 X n ρ Q) a w := by
 obtain ⟨ty, f, k, k0, d0, d9, cs, m, args, d1, keep, jN, rfl, rfl, kG, ⟨ahh, z, oT, Ga, NI, NJ, j1, ahi⟩, hm, jh, r4, w6, fj⟩ := fs
 replace hm : ∀ r ∈ m, ∀ d, r.dst = some d → d ≠ d0 ∧ d ∉ cs := fun r aO d ah => by
  have := F3 hm r aO d ah
  simpa using this
 replace jh : d0 ∉ cs := by simpa using jh
 replace w6 : d9 ∉ cs := by simpa using w6
 have w1 : k ∈ cs := List.mem_of_getElem? r4
 have NK : k ≠ d9 := fun e => w6 (e ▸ w1)
 obtain ⟨cu, tf, rfl, lZ, ef⟩ := Bk aa
 obtain ⟨nP, ahj, rfl, NL, NM⟩ := Bk ef
 obtain ⟨m4, tl, rfl, NN, NO⟩ := Bk NM
 obtain ⟨ahk, Bn, rfl, NP⟩ := w3 lZ
 obtain ⟨ahl, r7, rfl, NQ⟩ := w3 NL
 obtain ⟨ahm, ahn, rfl, NR⟩ := w3 NN
 obtain ⟨ir, dB, g3, F, S, w7⟩ := aO
 obtain ⟨l2, bs⟩ := tw NP
 have aP : Bn.size = 1 := by simpa using l2
 obtain ⟨jk, wR⟩ : ∃ o, Bn[0]? = some o := ⟨Bn[0], by simp [aP]⟩
 obtain ⟨eb, wK, NS⟩ := bs 0 jk (by simpa using wR)
 simp only [List.map_cons, List.map_nil, List.getElem?_cons_zero, Option.some.injEq] at wK
 subst wK
 obtain ⟨ia, bF, dJ, cz⟩ := r5 (r := ⟨some k, .dS ty, none⟩) rfl NS
 change mE jk.op = .dS ty at dJ
 have Gb : jk.op = .alloc ty := by
  rcases mF dJ with h | h
  ·cases h
  ·exact ND h
 refine wp_seq (wp_region ?_)
 rw [aP]
 refine Bl (C := C) wR bF ?_
 have NT : (execOp a.eval jk).run C.P w = .ok (.value (.pointer (some ⟨w.heap.size, 0, none⟩))) (w.alloc (.cells #[oT] ty)) := by
  obtain ⟨dst, op, wY, pos, after, guard⟩ := jk
  simp only at Gb
  subst Gb
  simp [execOp, Instr.alloc, q3 Ga NJ, newVar, newRow, newObj, Sem.run, j1]
 unfold Oper.wp
 rw [NT, Oper.upon_value]
 have Bf : some k = jk.dst := ia
 rw [← Bf] at cz ⊢
 show Exit.then _ _ .normal _ _
 have hold : ∀ b, b < w.heap.size → (w.alloc (.cells #[oT] ty)).heap[b]? = w.heap[b]? := by
  intro b U
  show (w.heap.push _)[b]? = _
  rw [Array.getElem?_push, if_neg (by omega)]
 have iL : (w.alloc (.cells #[oT] ty)).heap[w.heap.size]? = some (.cells #[oT] ty) := by
  show (w.heap.push _)[_]? = _
  simp
 have wi : (w.alloc (.cells #[oT] ty)).heap.size = w.heap.size + 1 := by simp
 have NU := w7.grow hold (by rw [wi]; omega) rfl rfl rfl
 generalize aho : w.alloc (.cells #[oT] ty) = ie at *
 generalize Gc : Value.pointer (some ⟨w.heap.size, 0, none⟩) = nY at *
 have NV : ¬ F w.heap.size := fun h => Nat.lt_irrefl _ (w7.eT _ h)
 have NW : ∀ u, ¬ S u w.heap.size := fun u h => Nat.lt_irrefl _ (w7.dM _ _ h)
 have nb : w0.heap.size ≤ w.heap.size := w7.size
 obtain ⟨fo, gi, gR⟩ := tr (n := n) (dst := some k) (a := a) nY dB cz
 have Gd := NU.F8 (t := k) (v := nY)
 rw [show cY (fun t => a.tmps.getD t undef) k nY = fun t => (a.put (some k) nY).tmps.getD t undef from fo.symm] at Gd
 have NX : (a.put (some k) nY).tmps.getD k undef = nY := by
  have := congrFun fo k
  simp only [mm] at this
  rw [kF] at this
  exact this
 have NY : ∀ u, ¬ fi S k (fun _ => False) u w.heap.size := by
  intro u h; simp only [fi] at h; split at h
  ·exact h
  ·exact NW u h
 have NZ : ∀ i ∈ n.fx, (a.put (some k) nY).tmps.getD i undef = ρ i := by
  intro i ak
  have := congrFun fo i
  simp only [mm] at this
  rw [h4 _ _ (fun e => ?_)] at this
  ·exact this.trans (g3 i ak)
  ·simp only [jH, Bool.and_eq_true, Bool.not_eq_true', List.contains_eq_mem, decide_eq_false_iff_not] at cz
   exact cz.2 (e ▸ ak)
 have N0 := gR.trans ir
 generalize a.put (some k) nY = ad at *
 obtain ⟨tp, b_⟩ := tw NQ
 have a_ : r7.size = 2 := by simpa using tp
 obtain ⟨mB, Ge⟩ : ∃ o, r7[0]? = some o := ⟨r7[0], by simp [a_]⟩
 obtain ⟨oB, Gf⟩ : ∃ o, r7[1]? = some o := ⟨r7[1], by simp [a_]⟩
 obtain ⟨hH, w2, N1⟩ := b_ 0 mB (by simpa using Ge)
 obtain ⟨jW, Gg, N2⟩ := b_ 1 oB (by simpa using Gf)
 simp only [List.map_cons, List.map_nil, List.getElem?_cons_zero, List.getElem?_cons_succ, Option.some.injEq] at w2 Gg
 subst w2 Gg
 obtain ⟨pH, wo, zR, ta⟩ := r5 (r := ⟨some d9, .hd f (cs.map .t), none⟩) rfl N1
 obtain ⟨v1, v2, v3, v4⟩ := r5 (r := ⟨none, .cP ty (.t k) (.t d9), none⟩) rfl N2
 change mE mB.op = .hd f (cs.map .t) at zR
 change mE oB.op = .cP ty (.t k) (.t d9) at v3
 obtain ⟨N3, Gh, N4⟩ : ∃ lQ : Array Operand, mB.op = .makeFunc (.func f) #[] lQ ∧ my lQ.toList = some (cs.map .t) := by
  rcases mF zR with h | h
  ·cases h
  ·exact NG h
 have N5 := F9 N4
 obtain ⟨zM, s8, Gi, Bo, N6⟩ : ∃ a b, oB.op = .store ty a b ∧ db a = some (.t k) ∧ db b = some (.t d9) := by
  rcases mF v3 with h | h
  ·cases h
  ·exact NF h
 have := wZ Bo; subst this
 have := wZ N6; subst this
 refine wp_seq (wp_region ?_)
 rw [a_]
 refine Bl (C := C) (l := [1]) Ge wo ?_
 have N7 : (execOp ad.eval mB).run C.P ie = .ok (.value (.func (.func f) #[] (cs.map fun j => ad.tmps.getD j undef).toArray)) ie := by
  obtain ⟨dst, op, wY, pos, after, guard⟩ := mB
  simp only at Gh
  subst Gh
  have : N3.map ad.eval = (cs.map fun j => ad.tmps.getD j undef).toArray := by
   apply Array.ext'
   rw [Array.toList_map, N5, List.map_map]
   rfl
  rw [← this]
  simp [execOp]
  rfl
 unfold Oper.wp
 rw [N7, Oper.upon_value]
 have N8 : some d9 = mB.dst := pH
 rw [← N8] at ta ⊢
 generalize Bp : Value.func (.func f) #[] (cs.map fun j => ad.tmps.getD j undef).toArray = gN at *
 have N9 : Value.fN gN = true := by rw [← Bp]; rfl
 obtain ⟨fZ, jF, oU⟩ := tr (n := n) (dst := some d9) (a := ad) gN gi ta
 have Gj := Gd.F8 (t := d9) (v := gN)
 rw [show cY (fun t => ad.tmps.getD t undef) d9 gN = fun t => (ad.put (some d9) gN).tmps.getD t undef from fZ.symm] at Gj
 have Bq : ∀ j, j ≠ d9 → (ad.put (some d9) gN).tmps.getD j undef = ad.tmps.getD j undef := by
  intro j bS
  have := congrFun fZ j
  simp only [mm] at this
  rw [h4 _ _ bS] at this
  exact this
 have N_ : (ad.put (some d9) gN).tmps.getD d9 undef = gN := by
  have := congrFun fZ d9
  simp only [mm] at this
  rw [kF] at this
  exact this
 have Gk : ∀ u, ¬ fi (fi S k (fun _ => False)) d9 (fun _ => False) u w.heap.size := by
  intro u h; simp only [fi] at h; split at h
  ·exact h
  ·exact NY u h
 have Oa : ∀ i ∈ n.fx, (ad.put (some d9) gN).tmps.getD i undef = ρ i := by
  intro i ak
  rw [Bq i (fun e => ?_)]
  ·exact NZ i ak
  ·simp only [jH, Bool.and_eq_true, Bool.not_eq_true', List.contains_eq_mem, decide_eq_false_iff_not] at ta
   exact ta.2 (e ▸ ak)
 have Ob := oU.trans N0
 have Oc : gN = .func (.func f) #[] (cs.map fun j => (ad.put (some d9) gN).tmps.getD j undef).toArray := by
  have : (cs.map fun j => (ad.put (some d9) gN).tmps.getD j undef) = cs.map fun j => ad.tmps.getD j undef :=
   List.map_congr_left fun j bS => Bq j (fun e => w6 (e ▸ bS))
  rw [this, Bp]
 have Gl : (ad.put (some d9) gN).tmps.getD k undef = nY := (Bq k NK).trans NX
 generalize ad.put (some d9) gN = a3 at *
 refine Bl (C := C) (l := []) Gf v2 ?_
 obtain ⟨iR, eV, fY, gK, jZ, lH, dj, mo⟩ := vZ (P := C.P) (b := w.heap.size) (o := 0) (e := ty) (fr := (0, 0)) [gN] 0 #[oT] ie [] [oT] [] iL (fun o _ h => absurd h.2 (Nat.not_lt_zero _)) rfl rfl rfl (fun v aK => by simp at aK; subst aK; exact N9)
 have Od : (execOp a3.eval oB).run C.P ie = .ok .skip iR := by
  obtain ⟨dst, op, wY, pos, after, guard⟩ := oB
  simp only at Gi
  subst Gi
  have tQ : a3.eval (.tmp k) = .pointer (some ⟨w.heap.size, 0, none⟩) := by rw [Gc]; exact Gl
  have tR : a3.eval (.tmp d9) = gN := N_
  have z3 : gN.cells = #[gN] := by rw [← Bp]; rfl
  simp [execOp, tQ, tR, Instr.storeAt, Instr.sureAddr, storeVar, iI Ga, NI, z3, eV]
 unfold Oper.wp
 rw [Od, Oper.upon_skip]
 have Br : none = oB.dst := v1
 rw [← Br]
 show wpOps C.P r7 _ [] a3 iR
 show Exit.then _ _ .normal _ _
 have Oe := (Gj.off (b := w.heap.size) nb NV Gk gK jZ lH dj mo).NC nb (by rw [jZ, wi]; omega) Gk
 refine wp_seq (FT (K := fun ao => dv (cG C jN Q) ao) (b := w.heap.size) (g := f) (k0 := k0) (cs := cs) bp NR kG hm jh r4 Ob jF Oa Oe (.inr rfl) (Gl.trans Gc.symm) (by rw [fY, ← Oc]; rfl) ?_ ?_)
 ·refine pY (fun _ s1 => ?_) h
  rintro ⟨ps, r, tQ, tR, z3, z4, z5, Of, Og⟩
  exact ⟨ps, r, tQ, tR, z3, z4, z5, Of, pY (fun _ s h => .inr ⟨_, F4 _ _, h⟩) Og⟩
 ·intro ao cl aD iO dR
  obtain ⟨ahp, ab, af⟩ := dR.dv iO
  exact Ez bp tl NO (J.wH jN (J.Er jN fj)) (wI jN ab) af
theorem aU.Oh (bp : C.Ok) {f : FuncId} {fn : Func} {c : Code} {c2 : J} {fx : List Nat} {as outs : List I} {r : I} (bB : C.P.funcs[f]? = some fn) (U : fn.body = some c)
  (jJ : (fn.name == "runtime.NumGoroutine") = false) (aa : bQ ⟨fn.ntmps, fx⟩ c = some c2.strip) (bl : as.length ≤ fn.ntmps) (ay : c2.kN (tT C))
  (h : ∀ Q : Exit → aj → Prop, (∀ s, dv (Ends C fx fn.results.toList r outs) s → Q .ret s) → (∀ s, dv (Ends C fx fn.results.toList r outs) s → Q .normal s) → cG C c2 Q (R (num 0 as))) : aU C f as r outs := by
 intro w F X S vs hl aO
 refine AG (fx := fx) bp bB U jJ bl hl aO fun a mG dC => ?_
 refine AF bp (H := tT C) (fun c T b Q s a w kG tO aZ aO => NH bp kG tO aZ aO) c (by rw [J.AA]; exact aa) (J.wH c2 ay) (wI c2 ?_) mG
 rw [wL]
 exact h _ (fun s h => ⟨.inr rfl, h⟩) (fun s h => ⟨.inl rfl, h⟩)
theorem Oi {Q : Exit → aj → Prop} {l : List (Nat × I)} {f : FuncId} {k k0 d0 d9 : Nat} {cs : List Nat} {m : List cg} {args : List aA} {d1 : Option Nat} {keep : List Nat} {jN b : J} (dn : List (Nat × I))
  (h : ∀ P : List (Nat × I) → Prop, P dn → mM C f k k0 d0 cs m args d1 [] keep P (fin (fin (R l) (some k) .hole) (some d9) .hole)) (ay : cG C jN Q (R dn)) : cG C (.hy (Bm C f k k0 d0 d9 cs m args d1 keep jN) b) Q (R l) :=
 fun fu Bj => h (fun l => cG C jN fu (R l)) (AE jN Bj ay)
end
end Go.cB
