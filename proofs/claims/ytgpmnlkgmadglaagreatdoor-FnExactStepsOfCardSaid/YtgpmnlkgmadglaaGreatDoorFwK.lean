/- Part of a proof that a law returns true for every input. No condition. -/
import Derived.Test.YtgpmnlkgmadglaaGreatDoorFwJ
namespace Go.cY
section
variable {C : b4} {w0 w : World} {F0 X F bQ : Nat → Prop} {S aR : Nat → Nat → Prop} {n : Fr} {ρ : Nat → Value} {s az : al} {aB kF : Nat → Value} {a : Act} {av : I} {Q : Exit → Act → World → Prop} {aL : World}
theorem bM.off (h : bM w0 F0 X F S s aB w) {b : Nat} (bn : w0.heap.size ≤ b) (bG : ¬ F b) (bX : ∀ u, ¬ S u b) (hw : ∀ c, c ≠ b → aL.heap[c]? = w.heap[c]?) (ab : aL.heap.size = w.heap.size)
  (af : aL.os = w.os) (ag : aL.tape = w.tape) (aF : aL.output = w.output) : bM w0 F0 X F S s aB aL where
 hs := h.hs
 hG := h.hG
 fe := fun c ao => by rw [ab]; exact h.fe c ao
 eJ := fun t c ao => by rw [ab]; exact h.eJ t c ao
 fY := h.fY
 ff := h.ff
 dS := h.dS
 dp := fun t => aI.frame (Sx := S) (fun c ao => hw c (fun e => bG (e ▸ ao))) (fun _ h => h) (fun x c ao => hw c (fun e => bX x (e ▸ ao))) h.dp _ _ _ (fun c ao => hw c (fun e => bX t (e ▸ ao))) (h.dp t)
 old := fun c ao kG => (hw c (by omega)).trans (h.old c ao kG)
 size := by rw [ab]; exact h.size
 os := af.trans h.os
 tape := ag.trans h.tape
 output := aF.trans h.output
theorem bM.M4 (h : bM w0 F0 X F S s aB w) {t : Nat} {v : Value} : bM w0 F0 X F (fZ S t (fun _ => False)) (cY.fin s (some t) .hole) (db aB t v) w := by
 have : cY.fin s (some t) .hole = db s t .hole := by simp [cY.fin, I.plain]
 rw [this]
 exact h.vn rfl (by rw [aI]; trivial)
theorem bM.Wa (h : bM w0 F0 X F S s aB w) {b : Nat} (bn : w0.heap.size ≤ b) (aa : b < w.heap.size) (bX : ∀ u, ¬ S u b) : bM w0 F0 X (fun c => F c ∨ c = b) S s aB w where
 hs := fun c ao => .inl (h.hs c ao)
 hG := fun c ao => by
  rcases ao with ao | rfl
  ·exact h.hG c ao
  ·exact .inr (.inr bn)
 fe := fun c ao => by
  rcases ao with ao | rfl
  ·exact h.fe c ao
  ·exact aa
 eJ := h.eJ
 fY := fun t c ao bz => by
  rcases bz with bz | rfl
  ·exact h.fY t c ao bz
  ·exact bX t ao
 ff := h.ff
 dS := h.dS
 dp := fun t => aI.frame (fun _ _ => rfl) (fun b aa => .inl aa) (fun _ _ _ => rfl) h.dp _ _ _ (fun _ _ => rfl) (h.dp t)
 old := h.old
 size := h.size
 os := h.os
 tape := h.tape
 output := h.output
theorem G5 {c : Code} {x y : J} (h : bu n c = some (.seq x y)) : ∃ a b, c = .seq a b ∧ bu n a = some x ∧ bu n b = some y := by
 cases c with
 | seq a b =>
   simp only [bu] at h
   split at h
   ·rename_i vB Lp aq hy
    cases h
    exact ⟨a, b, rfl, aq, hy⟩
   ·cases h
 | region id ops draw =>
   cases draw with
   | false => simp only [bu, Option.map_eq_some_iff] at h; obtain ⟨r, af, ag⟩ := h; cases ag
   | true =>
     simp only [bu] at h
     split at h
     ·simp only [Option.map_eq_some_iff] at h; obtain ⟨r, af, ag⟩ := h; cases ag
     ·cases h
 | cond c a b => simp only [bu] at h; split at h <;> cases h
 | block id b => simp only [bu, Option.map_eq_some_iff] at h; obtain ⟨r, af, ag⟩ := h; cases ag
 | loop b => simp only [bu, Option.map_eq_some_iff] at h; obtain ⟨r, af, ag⟩ := h; cases ag
 | _ => simp [bu] at h
theorem wE {ops : Array Oper} {r : bU} {o : Oper} (bA : r.guard = none) (h : ql n ops o = some r.un) : r.dst = o.dst ∧ o.guard = none ∧ pz o.op = r.bD.base ∧ lU n o.dst = true := by
 unfold ql at h
 split at h
 ·rename_i ai
  split at h
  ·rename_i VT hY
   simp only [bU.un, Option.some.injEq, bU.mk.injEq] at h
   obtain ⟨aN, aZ, aT⟩ := h
   refine ⟨aN.symm, ?_, aZ, ai⟩
   rw [aT, bA] at hY
   cases bJ : o.guard with
   | none => rfl
   | some Gg =>
     rw [bJ] at hY; simp only [yt] at hY; split at hY <;> cases hY
  ·cases h
 ·cases h
theorem G6 {ops : Array Oper} {i : Nat} {o : Oper} {l : List Nat} (bJ : ops[i]? = some o) (bA : o.guard = none) (h : o.wp C.P a w (wpOps C.P ops Q l) Q) : wpOps C.P ops Q (i :: l) a w := by
 simp only [wpOps, bJ]
 show (if Region.wanted o (yielded ops a.tmps) = true then o.wp C.P a w _ Q ∨ (o.asks C.P a w ∧ LetsOut Q) else _)
 rw [if_pos (Bo bA)]
 exact .inl h
theorem Wb {op : Op} {T : TypeId} (h : cr op = some (.g_ T)) : op = .alloc T := by
 cases op with
 | alloc yv => simp only [cr, Option.some.injEq, fG.g_.injEq] at h; rw [h]
 | call c =>
   obtain ⟨callee, nh, argTypes⟩ := c
   simp only [cr] at h
   split at h <;> (try split at h) <;> (try split at h) <;> (try simp [Option.map_eq_some_iff] at h)
 | makeFunc fn first cs =>
   cases fn <;> simp only [cr] at h <;> first | (cases h; done) | (split at h <;> simp at h)
 | slice T x df an hh =>
   cases hh <;> simp only [cr] at h <;> first | (cases h; done) | (split at h <;> simp at h)
 | makeMap T r => cases r <;> simp only [cr] at h <;> simp at h
 | lookup T x i c => cases c <;> simp only [cr] at h <;> first | (cases h; done) | (split at h <;> simp at h)
 | _ => simp only [cr] at h <;> first | (cases h; done) | (simp at h; done) | (split at h <;> simp at h)
theorem Wc {op : Op} {T : TypeId} {x y : aH} (h : cr op = some (.gr T x y)) : ∃ a b, op = .store T a b ∧ dz a = some x ∧ dz b = some y := by
 cases op with
 | store yv a b =>
   simp only [cr] at h
   split at h
   ·rename_i cA kH aq hy
    simp only [Option.some.injEq, fG.gr.injEq] at h
    obtain ⟨rfl, rfl, rfl⟩ := h
    exact ⟨a, b, rfl, aq, hy⟩
   ·cases h
 | call c =>
   obtain ⟨callee, nh, argTypes⟩ := c
   simp only [cr] at h
   split at h <;> (try split at h) <;> (try split at h) <;> (try simp [Option.map_eq_some_iff] at h)
 | makeFunc fn first cs =>
   cases fn <;> simp only [cr] at h <;> first | (cases h; done) | (split at h <;> simp at h)
 | slice T x df an hh =>
   cases hh <;> simp only [cr] at h <;> first | (cases h; done) | (split at h <;> simp at h)
 | makeMap T r => cases r <;> simp only [cr] at h <;> simp at h
 | lookup T x i c => cases c <;> simp only [cr] at h <;> first | (cases h; done) | (split at h <;> simp at h)
 | _ => simp only [cr] at h <;> first | (cases h; done) | (simp at h; done) | (split at h <;> simp at h)
theorem Wd {op : Op} {g : FuncId} {xs : List aH} (h : cr op = some (.ji g xs)) : ∃ cs : Array Operand, op = .makeFunc (.func g) #[] cs ∧ pt cs.toList = some xs := by
 cases op with
 | makeFunc fn first cs =>
   cases fn with
   | func f =>
     simp only [cr] at h
     split at h
     ·rename_i FM
      simp only [Option.map_eq_some_iff] at h
      obtain ⟨om, iI, h⟩ := h
      cases h
      have FN : first = #[] := by simpa using FM
      subst FN
      exact ⟨cs, rfl, iI⟩
     ·cases h
   | _ => simp [cr] at h
 | call c =>
   obtain ⟨callee, nh, argTypes⟩ := c
   simp only [cr] at h
   split at h <;> (try split at h) <;> (try split at h) <;> (try simp [Option.map_eq_some_iff] at h)
 | slice T x df an hh =>
   cases hh <;> simp only [cr] at h <;> first | (cases h; done) | (split at h <;> simp at h)
 | makeMap T r => cases r <;> simp only [cr] at h <;> simp at h
 | lookup T x i c => cases c <;> simp only [cr] at h <;> first | (cases h; done) | (split at h <;> simp at h)
 | _ => simp only [cr] at h <;> first | (cases h; done) | (simp at h; done) | (split at h <;> simp at h)
theorem M5 : ∀ {os : List Operand} {cs : List Nat}, pt os = some (cs.map .t) → os = cs.map .tmp
 | [], cs, h => by
   simp only [pt, Option.some.injEq] at h
   cases cs with
   | nil => rfl
   | cons c cs => cases h
 | o :: os, cs, h => by
   simp only [pt] at h
   split at h
   ·rename_i x KF af ag
    simp only [Option.some.injEq] at h
    cases cs with
    | nil => cases h
    | cons c cs =>
      simp only [List.map_cons, List.cons.injEq] at h
      obtain ⟨rfl, rfl⟩ := h
      rw [BV af, M5 ag]; rfl
   ·cases h
def G7 (C : b4) (f : FuncId) (k k0 d0 d9 : Nat) (cs : List Nat) (m : List bU) (args : List aH) (d1 : Option Nat) (keep : List Nat) (lZ : J) : (Exit → al → Prop) → al → Prop :=
 fun Q s => MX C f k k0 d0 cs m args d1 [] keep (cy C lZ Q) (fin (fin s (some k) .hole) (some d9) .hole)
def M6 (T : TypeId) (f : FuncId) (k d0 d9 : Nat) (cs : List Nat) (m : List bU) (args : List aH) (d1 : Option Nat) (lZ : J) : J :=
 .seq (.cd [⟨some k, .g_ T, none⟩] none) (.seq (.cd [⟨some d9, .ji f (cs.map .t), none⟩, ⟨none, .gr T (.t k) (.t d9), none⟩] none)
  (.seq (.cd (⟨some d0, .cS T (.t k), none⟩ :: (m ++ [⟨d1, .call (.t d0) args, none⟩])) none) lZ))
def yX (C : b4) (T : (Exit → al → Prop) → al → Prop) (b : J) : Prop :=
 ∃ (ty : TypeId) (f : FuncId) (k k0 d0 d9 : Nat) (cs : List Nat) (m : List bU) (args : List aH) (d1 : Option Nat) (keep : List Nat) (lZ : J),
   T = G7 C f k k0 d0 d9 cs m args d1 keep lZ ∧ b = M6 ty f k d0 d9 cs m args d1 lZ.k5 ∧ (C.T ty).flat = true ∧ (∃ i z v, C.P.info? ty = some i ∧ i.size = 1 ∧ i.zero = some z ∧ z.cells = #[v] ∧ Value.gJ v = true) ∧
   G2 (fun d => d != d0 && !cs.contains d) m = true ∧ cs.contains d0 = false ∧ cs[k0]? = some k ∧ cs.contains d9 = false ∧ lZ.plain = true
theorem We (bp : C.eP) {c : Code} {T : (Exit → al → Prop) → al → Prop} {b : J} {Q : Exit → al → Prop} (fN : yX C T b) (ab : bu n c = some b.strip) (h : T Q s) (aW : Rel w0 F0 X n ρ s a w) :
  c.wp C.P (tI w0 F0 X n ρ Q) a w := by
 obtain ⟨ty, f, k, k0, d0, d9, cs, m, args, d1, keep, lZ, rfl, rfl, jE, ⟨ay9, z, sv, M7, Wf, Wg, mi, ay_⟩, hm, lo, wD, B2, eK⟩ := fN
 replace hm : ∀ r ∈ m, ∀ d, r.dst = some d → d ≠ d0 ∧ d ∉ cs := fun r aW d ai => by
  have := MY hm r aW d ai
  simpa using this
 replace lo : d0 ∉ cs := by simpa using lo
 replace B2 : d9 ∉ cs := by simpa using B2
 have BW : k ∈ cs := List.mem_of_getElem? wD
 have Wh : k ≠ d9 := fun e => B2 (e ▸ BW)
 obtain ⟨cw, yn, rfl, qt, fj⟩ := G5 ab
 obtain ⟨sd, aza, rfl, yY, Wi⟩ := G5 fj
 obtain ⟨r2, qk, rfl, Wj, Wk⟩ := G5 Wi
 obtain ⟨azb, G8, rfl, Wl⟩ := BZ qt
 obtain ⟨azc, wG, rfl, Wm⟩ := BZ yY
 obtain ⟨azd, aze, rfl, Wn⟩ := BZ Wj
 obtain ⟨iV, d_, hI, F, S, r4⟩ := aW
 obtain ⟨l2, g2⟩ := yz Wl
 have aZ : G8.size = 1 := by simpa using l2
 obtain ⟨lx, BD⟩ : ∃ o, G8[0]? = some o := ⟨G8[0], by simp [aZ]⟩
 obtain ⟨br, Bw, Wo⟩ := g2 0 lx (by simpa using BD)
 simp only [List.map_cons, List.map_nil, List.getElem?_cons_zero, Option.some.injEq] at Bw
 subst Bw
 obtain ⟨gC, f_, hO, hP⟩ := wE (r := ⟨some k, .g_ ty, none⟩) rfl Wo
 change pz lx.op = .g_ ty at hO
 have M8 : lx.op = .alloc ty := by
  rcases nL hO with h | h
  ·cases h
  ·exact Wb h
 refine wp_seq (wp_region ?_)
 rw [aZ]
 refine G6 (C := C) BD f_ ?_
 have Wp : (execOp a.eval lx).run C.P w = .ok (.value (.pointer (some ⟨w.heap.size, 0, none⟩))) (w.alloc (.cells #[sv] ty)) := by
  obtain ⟨dst, op, BU, pos, after, guard⟩ := lx
  simp only at M8
  subst M8
  simp [execOp, Instr.alloc, r0 M7 Wg, newVar, newRow, newObj, Sem.run, mi]
 unfold Oper.wp
 rw [Wp, Oper.upon_value]
 have G0 : some k = lx.dst := gC
 rw [← G0] at hP ⊢
 show Exit.then _ _ .normal _ _
 have hold : ∀ b, b < w.heap.size → (w.alloc (.cells #[sv] ty)).heap[b]? = w.heap[b]? := by
  intro b aa
  show (w.heap.push _)[b]? = _
  rw [Array.getElem?_push, if_neg (by omega)]
 have kJ : (w.alloc (.cells #[sv] ty)).heap[w.heap.size]? = some (.cells #[sv] ty) := by
  show (w.heap.push _)[_]? = _
  simp
 have A_ : (w.alloc (.cells #[sv] ty)).heap.size = w.heap.size + 1 := by simp
 have Wq := r4.grow hold (by rw [A_]; omega) rfl rfl rfl
 generalize azf : w.alloc (.cells #[sv] ty) = gO at *
 generalize M9 : Value.pointer (some ⟨w.heap.size, 0, none⟩) = rq at *
 have Wr : ¬ F w.heap.size := fun h => Nat.lt_irrefl _ (r4.fe _ h)
 have Ws : ∀ u, ¬ S u w.heap.size := fun u h => Nat.lt_irrefl _ (r4.eJ _ _ h)
 have qc : w0.heap.size ≤ w.heap.size := r4.size
 obtain ⟨fD, hr, h8⟩ := yu (n := n) (dst := some k) (a := a) rq d_ hP
 have M_ := Wq.M4 (t := k) (v := rq)
 rw [show db (fun t => a.tmps.getD t undef) k rq = fun t => (a.put (some k) rq).tmps.getD t undef from fD.symm] at M_
 have Wt : (a.put (some k) rq).tmps.getD k undef = rq := by
  have := congrFun fD k
  simp only [nC] at this
  rw [me] at this
  exact this
 have Wu : ∀ u, ¬ fZ S k (fun _ => False) u w.heap.size := by
  intro u h; simp only [fZ] at h; split at h
  ·exact h
  ·exact Ws u h
 have Wv : ∀ i ∈ n.fx, (a.put (some k) rq).tmps.getD i undef = ρ i := by
  intro i an
  have := congrFun fD i
  simp only [nC] at this
  rw [jD _ _ (fun e => ?_)] at this
  ·exact this.trans (hI i an)
  ·simp only [lU, Bool.and_eq_true, Bool.not_eq_true', List.contains_eq_mem, decide_eq_false_iff_not] at hP
   exact hP.2 (e ▸ an)
 have Ww := h8.trans iV
 generalize a.put (some k) rq = R at *
 obtain ⟨ys, g3⟩ := yz Wm
 have aT : wG.size = 2 := by simpa using ys
 obtain ⟨px, Na⟩ : ∃ o, wG[0]? = some o := ⟨wG[0], by simp [aT]⟩
 obtain ⟨se, Nb⟩ : ∃ o, wG[1]? = some o := ⟨wG[1], by simp [aT]⟩
 obtain ⟨dQ, BX, Wx⟩ := g3 0 px (by simpa using Na)
 obtain ⟨ca, Nc, Wy⟩ := g3 1 se (by simpa using Nb)
 simp only [List.map_cons, List.map_nil, List.getElem?_cons_zero, List.getElem?_cons_succ, Option.some.injEq] at BX Nc
 subst BX Nc
 obtain ⟨qd, ra, Bf, yi⟩ := wE (r := ⟨some d9, .ji f (cs.map .t), none⟩) rfl Wx
 obtain ⟨v1, v2, v3, v4⟩ := wE (r := ⟨none, .gr ty (.t k) (.t d9), none⟩) rfl Wy
 change pz px.op = .ji f (cs.map .t) at Bf
 change pz se.op = .gr ty (.t k) (.t d9) at v3
 obtain ⟨Wz, Nd, WA⟩ : ∃ om : Array Operand, px.op = .makeFunc (.func f) #[] om ∧ pt om.toList = some (cs.map .t) := by
  rcases nL Bf with h | h
  ·cases h
  ·exact Wd h
 have WB := M5 WA
 obtain ⟨FB, yg, Nf, G9, WC⟩ : ∃ a b, se.op = .store ty a b ∧ dz a = some (.t k) ∧ dz b = some (.t d9) := by
  rcases nL v3 with h | h
  ·cases h
  ·exact Wc h
 have := BV G9; subst this
 have := BV WC; subst this
 refine wp_seq (wp_region ?_)
 rw [aT]
 refine G6 (C := C) (l := [1]) Na ra ?_
 have WD : (execOp R.eval px).run C.P gO = .ok (.value (.func (.func f) #[] (cs.map fun j => R.tmps.getD j undef).toArray)) gO := by
  obtain ⟨dst, op, BU, pos, after, guard⟩ := px
  simp only at Nd
  subst Nd
  have : Wz.map R.eval = (cs.map fun j => R.tmps.getD j undef).toArray := by
   apply Array.ext'
   rw [Array.toList_map, WB, List.map_map]
   rfl
  rw [← this]
  simp [execOp]
  rfl
 unfold Oper.wp
 rw [WD, Oper.upon_value]
 have WE : some d9 = px.dst := qd
 rw [← WE] at yi ⊢
 generalize G_ : Value.func (.func f) #[] (cs.map fun j => R.tmps.getD j undef).toArray = iy at *
 have WG : Value.gJ iy = true := by rw [← G_]; rfl
 obtain ⟨fM, iT, sw⟩ := yu (n := n) (dst := some d9) (a := R) iy hr yi
 have Ng := M_.M4 (t := d9) (v := iy)
 rw [show db (fun t => R.tmps.getD t undef) d9 iy = fun t => (R.put (some d9) iy).tmps.getD t undef from fM.symm] at Ng
 have Ha : ∀ j, j ≠ d9 → (R.put (some d9) iy).tmps.getD j undef = R.tmps.getD j undef := by
  intro j bw
  have := congrFun fM j
  simp only [nC] at this
  rw [jD _ _ bw] at this
  exact this
 have WH : (R.put (some d9) iy).tmps.getD d9 undef = iy := by
  have := congrFun fM d9
  simp only [nC] at this
  rw [me] at this
  exact this
 have Nh : ∀ u, ¬ fZ (fZ S k (fun _ => False)) d9 (fun _ => False) u w.heap.size := by
  intro u h; simp only [fZ] at h; split at h
  ·exact h
  ·exact Wu u h
 have WI : ∀ i ∈ n.fx, (R.put (some d9) iy).tmps.getD i undef = ρ i := by
  intro i an
  rw [Ha i (fun e => ?_)]
  ·exact Wv i an
  ·simp only [lU, Bool.and_eq_true, Bool.not_eq_true', List.contains_eq_mem, decide_eq_false_iff_not] at yi
   exact yi.2 (e ▸ an)
 have WJ := sw.trans Ww
 have WK : iy = .func (.func f) #[] (cs.map fun j => (R.put (some d9) iy).tmps.getD j undef).toArray := by
  have : (cs.map fun j => (R.put (some d9) iy).tmps.getD j undef) = cs.map fun j => R.tmps.getD j undef :=
   List.map_congr_left fun j bw => Ha j (fun e => B2 (e ▸ bw))
  rw [this, G_]
 have Ni : (R.put (some d9) iy).tmps.getD k undef = rq := (Ha k Wh).trans Wt
 generalize R.put (some d9) iy = a3 at *
 refine G6 (C := C) (l := []) Nb v2 ?_
 obtain ⟨jJ, m1, m2, m3, m4, m5, m6, m7⟩ := A2 (P := C.P) (b := w.heap.size) (o := 0) (e := ty) (fr := (0, 0)) [iy] 0 #[sv] gO [] [sv] [] kJ (fun o _ h => absurd h.2 (Nat.not_lt_zero _)) rfl rfl rfl (fun v aK => by simp at aK; subst aK; exact WG)
 have WL : (execOp a3.eval se).run C.P gO = .ok .skip jJ := by
  obtain ⟨dst, op, BU, pos, after, guard⟩ := se
  simp only at Nf
  subst Nf
  have yV : a3.eval (.tmp k) = .pointer (some ⟨w.heap.size, 0, none⟩) := by rw [M9]; exact Ni
  have z2 : a3.eval (.tmp d9) = iy := WH
  have z3 : iy.cells = #[iy] := by rw [← G_]; rfl
  simp [execOp, yV, z2, Instr.storeAt, Instr.sureAddr, storeVar, kp M7, Wf, z3, m1]
 unfold Oper.wp
 rw [WL, Oper.upon_skip]
 have yZ : none = se.dst := v1
 rw [← yZ]
 show wpOps C.P wG _ [] a3 jJ
 show Exit.then _ _ .normal _ _
 have WM := (Ng.off (b := w.heap.size) qc Wr Nh m3 m4 m5 m6 m7).Wa qc (by rw [m4, A_]; omega) Nh
 refine wp_seq (MP (K := fun az => dY (cy C lZ Q) az) (b := w.heap.size) (g := f) (k0 := k0) (cs := cs) bp Wn jE hm lo wD WJ iT WI WM (.inr rfl) (Ni.trans M9.symm) (by rw [m2, ← WK]; rfl) ?_ ?_)
 ·refine tM (fun _ s1 => ?_) h
  rintro ⟨ps, r, yV, z2, z3, z4, z5, WN, WO⟩
  exact ⟨ps, r, yV, z2, z3, z4, z5, WN, tM (fun _ s h => .inr ⟨_, MZ _ _, h⟩) WO⟩
 ·intro az cN aL lq ez
  obtain ⟨azg, af, ag⟩ := ez.dY lq
  exact Lr bp qk Wk (J.Bs lZ (J.Lj lZ eK)) (Bu lZ af) ag
theorem bm.WQ (bp : C.eP) {f : FuncId} {fn : Func} {c : Code} {dh : J} {fx : List Nat} {as outs : List I} {r : I} (bz : C.P.funcs[f]? = some fn) (aa : fn.body = some c)
  (k6 : (fn.name == "runtime.NumGoroutine") = false) (ab : bu ⟨fn.ntmps, fx⟩ c = some dh.strip) (bc : as.length ≤ fn.ntmps) (ar : dh.ni (yX C))
  (h : ∀ Q : Exit → al → Prop, (∀ s, dY (Ends C fx fn.results.toList r outs) s → Q .ret s) → (∀ s, dY (Ends C fx fn.results.toList r outs) s → Q .normal s) → cy C dh Q (U (num 0 as))) : bm C f as r outs := by
 intro w F X S vs hl aW
 refine Gr (fx := fx) bp bz aa k6 bc hl aW fun a pA ek => ?_
 refine Gp bp (H := yX C) (fun c T b Q s a w jE yU a1 aW => We bp jE yU a1 aW) c (by rw [J.Gl]; exact ab) (J.Bs dh ar) (Bu dh ?_) pA
 rw [yJ]
 exact h _ (fun s h => ⟨.inr rfl, h⟩) (fun s h => ⟨.inl rfl, h⟩)
theorem WR {Q : Exit → al → Prop} {l : List (Nat × I)} {f : FuncId} {k k0 d0 d9 : Nat} {cs : List Nat} {m : List bU} {args : List aH} {d1 : Option Nat} {keep : List Nat} {lZ b : J} (dL : List (Nat × I))
  (h : ∀ P : List (Nat × I) → Prop, P dL → pI C f k k0 d0 cs m args d1 [] keep P (fin (fin (U l) (some k) .hole) (some d9) .hole)) (ar : cy C lZ Q (U dL)) : cy C (.jv (G7 C f k k0 d0 d9 cs m args d1 keep lZ) b) Q (U l) :=
 fun ey G4 => h (fun l => cy C lZ ey (U l)) (Gn lZ G4 ar)
end
end Go.cY
