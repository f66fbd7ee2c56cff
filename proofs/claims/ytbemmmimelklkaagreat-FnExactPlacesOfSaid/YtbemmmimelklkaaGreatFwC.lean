/- Part of a proof that a law returns true for every input. No condition. -/
import Derived.Test.YtbemmmimelklkaaGreatFwB
import Derived.Laws.Entries
namespace Go.dg
inductive m2 where
 | int (k : IntKind)
 | bool
 | str
 | ptr (e : TypeId)
 | slice (e : TypeId)
 | struct (aB : List (TypeId × Nat))
 | fn
 | other
structure g4 where
 k : m2
 sz : Nat
 bytes : Nat
 zero : I
mutual
def flat : I → Option (List Value)
 | .bool b => some [.bool b]
 | .int k n => some [.int k n]
 | .str s => some [.string ⟨⟨s⟩⟩]
 | .dC => some [.pointer none]
 | .bg => some [.slice none 0 0]
 | .agg aB => pt aB
 | _ => none
def pt : List I → Option (List Value)
 | [] => some []
 | d :: ds => match flat d, pt ds with
   | some a, some b => some (a ++ b)
   | _, _ => none
end
theorem aC.flat {w : World} {F : Nat → Prop} : ∀ n, (∀ (d : I) (cs : List Value) (S : Nat → Prop), SizeOf.sizeOf d ≤ n → flat d = some cs → aC w F d cs S) ∧
  (∀ (ds : List I) (cs : List Value) (S : Nat → Prop), SizeOf.sizeOf ds ≤ n → pt ds = some cs → bl w F ds cs S) := by
 intro n
 induction n with
 | zero => exact ⟨fun d _ _ ca => by cases d <;> simp at ca <;> omega, fun ds _ _ ca => by cases ds <;> simp at ca <;> omega⟩
 | succ n ih =>
   refine ⟨fun d cs S ca h => ?_, fun ds cs S ca h => ?_⟩
   ·cases d with
    | agg aB => rw [aC]; exact ih.2 aB cs S (by simp at ca; omega) (by simpa [dg.flat] using h)
    | bool b => simp [dg.flat] at h; subst h; rw [aC]
    | int k n => simp [dg.flat] at h; subst h; rw [aC]
    | str s => simp [dg.flat] at h; subst h; rw [aC]
    | dC => simp [dg.flat] at h; subst h; rw [aC]
    | bg => simp [dg.flat] at h; subst h; rw [aC]
    | _ => simp [dg.flat] at h
   ·cases ds with
    | nil => simp [pt] at h; subst h; rw [bl]
    | cons d ds =>
      simp only [pt] at h
      split at h
      ·rename_i a b cw ae
       simp at h; subst h
       simp at ca
       rw [bl]
       exact ⟨a, b, fun _ => False, fun _ => False, rfl, ih.1 d a _ (by omega) cw, ih.2 ds b _ (by omega) ae, fun _ h => h.elim, fun _ h => h.elim, fun _ h => h.elim⟩
      ·cases h
def la : m2 → TypeDesc → Prop
 | .int k, .int dd => k = dd
 | .bool, .bool => True
 | .str, .string => True
 | .ptr e, .pointer gG => e = gG
 | .slice e, .slice gG => e = gG
 | .struct aB, .struct gs => gs.toList.map (fun g => (g.type, g.offset)) = aB
 | .fn, .func _ _ _ => True
 | _, _ => False
def GD (P : Program) (t : TypeId) (x : g4) : Prop :=
 (∃ e n b z, x = ⟨.other, e, n, b⟩ ∧ z = 0) ∨
 ∃ i d z, P.info? t = some i ∧ i.size = x.sz ∧ i.bytes = x.bytes ∧ i.zero = some z ∧ (∀ cs, flat x.zero = some cs → z.cells = cs.toArray) ∧ P.underlying t = some d ∧ la x.k d
structure cn where
 P : Program
 T : TypeId → g4
 M : FuncId → List Bool
structure cn.fo (C : cn) : Prop where
 ty : ∀ t, GD C.P t (C.T t)
 mixed : C.P.follows .mixedOrders = true
inductive aG where
 | t (n : Nat)
 | c (av : I)
 | f (g : FuncId)
def yR : Value → Option I
 | .bool b => some (.bool b)
 | .int k n => some (.int k n)
 | .string s => some (.str s.data.toList)
 | .pointer none => some .dC
 | .slice none 0 0 => some .bg
 | _ => none
def dW : Operand → Option aG
 | .tmp n => some (.t n)
 | .const v => (yR v).map .c
 | .func g => some (.f g)
 | .global _ => none
def iY (x : Nat) (d : I) : I := if d.plain then d else .h x []
def aR (s : au) : aG → I
 | .t n => iY n (s n)
 | .c av => av
 | .f g => .fn g []
theorem aV.nothing {w : World} {F : Nat → Prop} {s : au} {aF : Nat → Value} {d : I} {v : Value} {S a1 : Nat → Prop} (ax : d.plain = true) (h : aV w F s aF d v S) : aV w F s aF d v a1 := by
 cases d <;> first
  | (rw [aV]; trivial)
  | (rw [aV] at h ⊢; exact h)
  | (have bB := (aV.da rfl).1 h; exact (aV.da rfl).2 ⟨bB.1, aC.plain _ _ _ _ ax bB.2⟩)
section
variable {w0 w : World} {F0 X F : Nat → Prop} {S : Nat → Nat → Prop} {s : au} {aF : Nat → Value} {a : Act}
theorem GF (s : au) (x : aG) (ay : ∀ av, x = .c av → av.plain = true) : (aR s x).plain = true := by
 cases x with
 | t n => simp only [aR, iY]; split <;> first | assumption | rfl
 | c av => exact ay _ rfl
 | f g => rfl
theorem CT {v : Value} {av : I} (h : yR v = some av) : av.plain = true := by
 unfold yR at h; split at h <;> simp at h <;> subst h <;> rfl
theorem gn (h : bT w0 F0 X F S s aF w) (eT : ∀ t, aF t = a.tmps.getD t undef) {o : Operand} {x : aG} (cm : dW o = some x) :
  (aR s x).plain = true ∧ aV w F s aF (aR s x) (a.eval o) (fun _ => False) := by
 cases o with
 | tmp n =>
   simp [dW] at cm; subst cm
   simp only [aR, iY, Act.eval, ← eT]
   split
   ·rename_i ax; exact ⟨ax, aV.nothing ax (h.en n)⟩
   ·rename_i ax
    refine ⟨rfl, ?_⟩
    rw [aV]
    intro d al CU
    simp only [I.sub, Option.some.injEq] at al; subst al
    have bh := iw (q := []) rfl (.inl CU)
    exact ⟨_, none, rfl, rfl, ((aV.da bh).1 (h.en n)).1⟩
 | const v =>
   simp only [dW, Option.map_eq_some_iff] at cm
   obtain ⟨av, nH, rfl⟩ := cm
   refine ⟨CT nH, ?_⟩
   simp only [aR, Act.eval]
   unfold yR at nH
   split at nH <;> simp at nH <;> subst nH <;> rw [aV, aC] <;> exact ⟨rfl, rfl⟩
 | func g =>
   simp [dW] at cm; subst cm
   refine ⟨rfl, ?_⟩
   simp only [aR, Act.eval]
   rw [aV]
   exact ⟨#[], rfl, by rw [eX]⟩
 | global g => simp [dW] at cm
def kT (w0 : World) (X F : Nat → Prop) (S : Nat → Nat → Prop) (s : au) (aF : Nat → Value) (w : World) (av : I) (v : Value) : Prop :=
 (av.plain = true ∧ aV w F s aF av v (fun _ => False)) ∨
 (av.tree = true ∧ eL av v ∧ ∃ Sn, aC w F av (cV v) Sn ∧ (∀ b, Sn b → b < w.heap.size) ∧ (∀ b, Sn b → ¬ F b) ∧ (∀ u b, Sn b → ¬ S u b) ∧ (∀ b, Sn b → X b ∨ w0.heap.size ≤ b))
def fin (s : au) (dst : Option Nat) (av : I) : au := match dst with
 | none => s
 | some t => if av.plain then dr s t av else dr (ly t s) t av
def nI (aF : Nat → Value) (dst : Option Nat) (v : Value) : Nat → Value := match dst with
 | none => aF
 | some t => dr aF t v
theorem bT.fin (h : bT w0 F0 X F S s aF w) {av : I} {v : Value} (a2 : kT w0 X F S s aF w av v) (dst : Option Nat) :
  ∃ a1, bT w0 F0 X F a1 (dg.fin s dst av) (nI aF dst v) w := by
 cases dst with
 | none => exact ⟨S, h⟩
 | some t =>
   simp only [dg.fin, nI]
   rcases a2 with ⟨ax, al⟩ | ⟨bh, ah, Sn, ai, aj, aP, bb, b5⟩
   ·rw [if_pos ax]; exact ⟨_, h.tm ax al⟩
   ·split
    ·rename_i ax
     exact ⟨_, h.tm ax ((aV.da bh).2 ⟨ah, aC.plain _ _ _ _ ax ai⟩)⟩
    ·exact ⟨_, h.Gu bh ah ai aj aP (fun u b _ ae => bb u b ae) b5⟩
def cT (s : au) : I → Option (I × au)
 | .h x q => match I.sub q (s x) with
   | some d => if d.plain then none else some (d, dr (iJ x s) x (I.put q d.dh (s x)))
   | none => none
 | .ax _ _ => none
 | .ae _ _ => none
 | .fn _ _ => none
 | .hole => none
 | d => some (d, s)
def I.owner : I → Option Nat
 | .h x _ => some x
 | _ => none
def kg : Option Nat → I → I
 | some x, d => cc x d
 | none, d => d
theorem qc (h : bT w0 F0 X F S s aF w) {av d : I} {s1 : au} {v : Value} (nH : av.plain = true) (a2 : aV w F s aF av v (fun _ => False)) (bh : cT s av = some (d, s1)) :
  ∃ ct, bT w0 F0 X F ct s1 aF w ∧ d.tree = true ∧ eL d v ∧ ∃ Sn, aC w F d (cV v) Sn ∧ (∀ b, Sn b → b < w.heap.size) ∧ (∀ b, Sn b → ¬ F b) ∧ (∀ u b, Sn b → ¬ ct u b) ∧ (∀ b, Sn b → X b ∨ w0.heap.size ≤ b) ∧
    (∀ u b, ct u b → S u b) ∧ (∀ b, Sn b → ∃ u, S u b) ∧ (∀ (bE : I) (gC : Value) (a1 : Nat → Prop), aV w F s aF bE gC a1 → aV w F s1 aF (kg av.owner bE) gC a1) := by
 have tree : ∀ d : I, d.tree = true → d.plain = true → aV w F s aF d v (fun _ => False) →
   ∃ ct, bT w0 F0 X F ct s aF w ∧ d.tree = true ∧ eL d v ∧ ∃ Sn, aC w F d (cV v) Sn ∧ (∀ b, Sn b → b < w.heap.size) ∧ (∀ b, Sn b → ¬ F b) ∧ (∀ u b, Sn b → ¬ ct u b) ∧ (∀ b, Sn b → X b ∨ w0.heap.size ≤ b) ∧
     (∀ u b, ct u b → S u b) ∧ (∀ b, Sn b → ∃ u, S u b) := by
  intro d al _ bB
  have bB := (aV.da al).1 bB
  exact ⟨S, h, al, bB.1, _, bB.2, fun _ h => h.elim, fun _ h => h.elim, fun _ _ h => h.elim, fun _ h => h.elim, fun _ _ h => h, fun _ h => h.elim⟩
 cases av with
 | h x q =>
   simp only [cT] at bh
   split at bh
   ·rename_i e he
    split at bh
    ·cases bh
    ·rename_i ax
     simp only [Option.some.injEq, Prod.mk.injEq] at bh
     obtain ⟨rfl, rfl⟩ := bh
     have ax : e.plain = false := by simpa using ax
     obtain ⟨Sn, hc, c0, cS, dV, eS, h8, jT, CV, NK, NL⟩ := h.take he ax
     rw [aV] at a2
     obtain ⟨auz, bj, bc, bG, cB⟩ := a2 e he ax
     rw [eS] at bc
     simp only [Option.some.injEq, Prod.mk.injEq, true_and] at bc
     obtain ⟨rfl, rfl⟩ := bc
     have CW : e.tree = true := by cases e <;> first | rfl | (simp [I.plain] at ax)
     refine ⟨_, dV, CW, cB, hc, by rw [bG]; exact h8, fun b ae => h.fz x b (jT b ae), fun b ae => h.gH x b (jT b ae), ?_, fun b ae => h.ew x b (jT b ae), ?_, fun b ae => ⟨x, jT b ae⟩, NL⟩
     ·intro u b ae hu
      simp only [gq] at hu
      split at hu
      ·exact NK b ae hu
      ·rename_i yS; exact h.gm u x b yS hu (jT b ae)
     ·intro u b hu
      simp only [gq] at hu
      split at hu
      ·rename_i e; subst e; exact CV b hu
      ·exact hu
   ·cases bh
 | ax x q => simp [cT] at bh
 | ae x q => simp [cT] at bh
 | fn f c => simp [cT] at bh
 | hole => simp [cT] at bh
 | aw sz xs => simp [I.plain] at nH
 | a8 d => simp [I.plain] at nH
 | _ =>
   simp only [cT, Option.some.injEq, Prod.mk.injEq] at bh
   obtain ⟨rfl, rfl⟩ := bh
   obtain ⟨ct, t1, t2, t3, Sn, t4, t5, t6, t7, t8, t9, t10⟩ := tree _ rfl nH a2
   exact ⟨ct, t1, t2, t3, Sn, t4, t5, t6, t7, t8, t9, t10, fun _ _ _ h => h⟩
def loc (s : au) : I → Option (Nat × List Nat)
 | .h x q => match I.sub q (s x) with
   | some (.a8 _) => some (x, q ++ [0])
   | _ => none
 | .ax x q => if I.fI q (s x) then some (x, q) else none
 | _ => none
theorem yT : ∀ (q : List Nat) (av d : I) (r : List Nat), I.sub q av = some d → I.sub (q ++ r) av = I.sub r d := by
 intro q
 induction q with
 | nil => intro av d r h; simp [I.sub] at h; subst h; rfl
 | cons k q ih =>
   intro av d r h
   cases av with
   | agg aB =>
     simp only [I.sub, List.cons_append] at h ⊢
     split at h
     ·rename_i x aA; exact ih _ _ _ h
     ·cases h
   | tuple aB =>
     simp only [I.sub, List.cons_append] at h ⊢
     split at h
     ·rename_i x aA; exact ih _ _ _ h
     ·cases h
   | aw sz aB =>
     simp only [I.sub, List.cons_append] at h ⊢
     split at h
     ·rename_i x aA; exact ih _ _ _ h
     ·cases h
   | a8 x =>
     cases k with
     | zero => simp only [I.sub, List.cons_append] at h ⊢; exact ih _ _ _ h
     | succ k => simp [I.sub] at h
   | _ => simp [I.sub] at h
theorem NM : ∀ (q : List Nat) (av d : I) (r : List Nat), I.sub q av = some d → I.fI (q ++ r) av = (I.fI q av || I.fI r d) := by
 intro q
 induction q with
 | nil => intro av d r h; simp [I.sub] at h; subst h; simp [I.fI]
 | cons k q ih =>
   intro av d r h
   cases av with
   | agg aB =>
     simp only [I.sub] at h
     split at h
     ·rename_i x aA
      simp only [I.fI, List.cons_append, aA]
      exact ih _ _ r h
     ·cases h
   | tuple aB =>
     simp only [I.sub] at h
     split at h
     ·rename_i x aA
      simp only [I.fI, List.cons_append, aA]
      exact ih _ _ r h
     ·cases h
   | aw sz aB => simp [I.fI]
   | a8 x => simp [I.fI]
   | _ => simp [I.sub] at h
theorem yU (w : World) : ∀ (q : List Nat) (av d : I) (cs c0 : List Value) (a cS : Option (Nat × Nat)) (r : List Nat), dq w q av cs a = some (d, c0, cS) → dq w (q ++ r) av cs a = dq w r d c0 cS := by
 intro q
 induction q with
 | nil => intro av d cs c0 a cS r h; simp [dq] at h; obtain ⟨rfl, rfl, rfl⟩ := h; rfl
 | cons k q ih =>
   intro av d cs c0 a cS r h
   cases av with
   | agg aB =>
     rw [List.cons_append]
     rw [dq] at h ⊢
     split at h
     ·rename_i x aA; exact ih _ _ _ _ _ _ _ h
     ·cases h
   | tuple aB =>
     rw [List.cons_append]
     rw [dq] at h ⊢
     split at h
     ·rename_i x aA; exact ih _ _ _ _ _ _ _ h
     ·cases h
   | aw sz aB =>
     rw [List.cons_append]
     rw [dq.eq_def] at h ⊢
     simp only at h ⊢
     split at h
     ·exact ih _ _ _ _ _ _ _ h
     ·cases h
   | a8 x =>
     cases k with
     | zero =>
       rw [List.cons_append]
       rw [dq.eq_def] at h ⊢
       simp only at h ⊢
       split at h
       ·exact ih _ _ _ _ _ _ _ h
       ·cases h
     | succ k => rw [show dq w ((k + 1) :: q) (.a8 x) cs a = none from rfl] at h; cases h
   | _ => simp [dq] at h
end
def g4.ok (x : g4) : Bool := match x.k with
 | .other => false
 | _ => true
theorem cn.fo.info {C : cn} (bA : C.fo) {t : TypeId} (h : (C.T t).ok = true) :
  ∃ i d z, C.P.info? t = some i ∧ i.size = (C.T t).sz ∧ i.bytes = (C.T t).bytes ∧ i.zero = some z ∧ (∀ cs, flat (C.T t).zero = some cs → z.cells = cs.toArray) ∧ C.P.underlying t = some d ∧ la (C.T t).k d := by
 rcases bA.ty t with ⟨e, n, b, z, aA, _⟩ | bB
 ·rw [aA] at h; simp [g4.ok] at h
 ·exact bB
theorem g5 {x : g4} {k : m2} (h : x.k = k) (aE : k ≠ .other) : x.ok = true := by
 unfold g4.ok; rw [h]; cases k <;> first | rfl | exact (aE rfl).elim
theorem CX {d : TypeDesc} {aB : List (TypeId × Nat)} (h : la (.struct aB) d) : ∃ gs, d = .struct gs ∧ gs.toList.map (fun g => (g.type, g.offset)) = aB := by
 cases d <;> simp [la] at h
 exact ⟨_, rfl, h⟩
theorem kU {d : TypeDesc} {e : TypeId} (h : la (.slice e) d) : d = .slice e := by
 cases d <;> simp [la] at h
 rw [h]
theorem yV {d : TypeDesc} {k : IntKind} (h : la (.int k) d) : d = .int k := by
 cases d <;> simp [la] at h
 rw [h]
theorem qd {d : TypeDesc} (h : la .str d) : d = .string := by
 cases d <;> simp [la] at h
 rfl
theorem GG {d : TypeDesc} (h : la .bool d) : d = .bool := by
 cases d <;> simp [la] at h
 rfl
theorem GH {d : TypeDesc} {e : TypeId} (h : la (.ptr e) d) : d = .pointer e := by
 cases d <;> simp [la] at h
 rw [h]
theorem iK {v : Value} (h : Value.gU v = true) : cV v = [v] := by
 cases v <;> first | rfl | (simp [Value.gU] at h)
theorem rf {P : Program} {t : TypeId} {i : TypeInfo} (h : P.info? t = some i) (w : World) : (typeInfo t).run P w = .ok i w := by simp [typeInfo, h]
theorem jU {P : Program} {t : TypeId} {i : TypeInfo} (h : P.info? t = some i) (w : World) : (Go.sizeOf t).run P w = .ok i.size w := by simp [Go.sizeOf, rf h]
theorem tp {P : Program} {t : TypeId} {i : TypeInfo} {z : Value} (h : P.info? t = some i) (ca : i.zero = some z) (w : World) : (zeroValue t).run P w = .ok z w := by simp [zeroValue, rf h, ca]
section
variable {C : cn} {w0 w : World} {F0 X F : Nat → Prop} {S : Nat → Nat → Prop} {s s1 : au} {aF : Nat → Value} {av : I}
def Good (C : cn) (w0 : World) (F0 X : Nat → Prop) (aF : Nat → Value) (w : World) (m : Sem Value) (av : I) (s1 : au) : Prop :=
 ∃ v aS bV a1, m.run C.P w = .ok v aS ∧ bT w0 F0 X bV a1 s1 aF aS ∧ kT w0 X bV a1 s1 aF aS av v
theorem Good.same (h : bT w0 F0 X F S s aF w) {m : Sem Value} {v : Value} (a7 : m.run C.P w = .ok v w) (ax : av.plain = true) (a2 : aV w F s aF av v (fun _ => False)) : Good C w0 F0 X aF w m av s :=
 ⟨v, w, F, S, a7, h, .inl ⟨ax, a2⟩⟩
theorem CY (_h : bT w0 F0 X F S s aF w) {x : I} {v : Value} (a2 : aV w F s aF x v (fun _ => False)) {y : Nat} {q : List Nat} (hl : loc s x = some (y, q)) {d : I} (al : I.sub q (s y) = some d) :
  I.fI q (s y) = true ∧ ∃ c0 b o, v = .pointer (some ⟨b, o, none⟩) ∧ dq w q (s y) (cV (aF y)) none = some (d, c0, some (b, o)) := by
 cases x with
 | h z yW =>
   simp only [loc] at hl
   split at hl
   ·rename_i e he
    simp only [Option.some.injEq, Prod.mk.injEq] at hl
    obtain ⟨rfl, rfl⟩ := hl
    rw [aV] at a2
    obtain ⟨c0, a, bc, bG, cB⟩ := a2 _ he rfl
    have hb : e = d := by
     rw [yT _ _ _ _ he] at al
     simpa [I.sub] using al
    subst hb
    refine ⟨by rw [NM _ _ _ _ he]; simp [I.fI], ?_⟩
    have ai : Value.gU v = true := cB
    rw [iK ai] at bG
    subst bG
    have kQ := yU w yW (s z) _ _ _ none a [0] bc
    have aA := _h.en z
    rw [aV.da (iw he (.inl rfl))] at aA
    obtain ⟨gl, cS, e2, hc, k0, b8, cu, fB, eP, gr⟩ := ctx yW (s z) (cV (aF z)) (S z) none _ aA.2 he
    rw [k0] at bc
    simp only [Option.some.injEq, Prod.mk.injEq, true_and] at bc
    obtain ⟨rfl, rfl⟩ := bc
    rw [aC] at eP
    obtain ⟨b, cur, a_, fr, el, a3, _⟩ := eP
    simp only [List.cons.injEq, and_true] at a3
    subst a3
    exact ⟨_, b, 0, rfl, by rw [kQ]; rfl⟩
   ·cases hl
 | ax z yW =>
   simp only [loc] at hl
   split at hl
   ·rename_i ay
    simp only [Option.some.injEq, Prod.mk.injEq] at hl
    obtain ⟨rfl, rfl⟩ := hl
    rw [aV] at a2
    obtain ⟨c0, b, o, bc, bG⟩ := a2 _ al ay
    exact ⟨ay, c0, b, o, bG, bc⟩
   ·cases hl
 | _ => simp [loc] at hl
def aU (C : cn) (s : au) (T : TypeId) (x : I) (k : Nat) : Option I :=
 match (C.T T).k with
 | .struct aB => match aB[k]? with
   | some (qe, off) => if (C.T qe).ok = true ∧ (C.T qe).sz ≠ 0 then
     match x with
     | .ref (.agg ds) => match ds[k]? with
       | some d => if I.ev (ds.take k) = off then some (.ref d) else none
       | none => none
     | .ae y o => if (s y).plain then none else some (.ae y (o + off))
     | x => match loc s x with
       | some (y, q) => match I.sub q (s y) with
         | some (.agg ds) => if k < ds.length ∧ I.ev (ds.take k) = off then some (.ax y (q ++ [k])) else none
         | _ => none
       | none => none
     else none
   | none => none
 | _ => none
theorem hN.CZ {w : World} {b o : Nat} {cv gk cE : List Value} (h : hN w b o (cv ++ (gk ++ cE))) : hN w b (o + cv.length) gk := by
 intro j c cx
 have fy : j < gk.length := (List.getElem?_eq_some_iff.1 cx).1
 have := h (cv.length + j) c (by rw [List.getElem?_append_right (by omega), List.getElem?_append_left (by omega), ← cx]; congr 1; omega)
 rw [Nat.add_assoc]; exact this
theorem C0 (bA : C.fo) {T qe : TypeId} {aB : List (TypeId × Nat)} {k off : Nat} (aE : (C.T T).k = .struct aB) (bF : aB[k]? = some (qe, off)) (ai : (C.T qe).ok = true) (aj : (C.T qe).sz ≠ 0) (b o : Nat) (w : World) :
  (Instr.fieldAt T (.pointer (some ⟨b, o, none⟩)) k).run C.P w = .ok (.pointer (some ⟨b, o + off, none⟩)) w := by
 obtain ⟨i, d, z, a4, a_, a3, c1, c6, cl, cf⟩ := bA.info (g5 aE (by simp))
 rw [aE] at cf
 obtain ⟨gs, rfl, iy⟩ := CX cf
 obtain ⟨tq, bE, qf, f1, f2, f3, f4, f5, f6, f7⟩ := bA.info ai
 have b6 : ∃ g, gs[k]? = some g ∧ g.type = qe ∧ g.offset = off := by
  rw [← iy, List.getElem?_map] at bF
  simp only [Option.map_eq_some_iff, Prod.mk.injEq] at bF
  obtain ⟨g, ai, aj, aP⟩ := bF
  exact ⟨g, by simpa using ai, aj, aP⟩
 obtain ⟨g, bc, rfl, rfl⟩ := b6
 simp [Instr.fieldAt, run_underlying cl, bc, Instr.sureAddr, fieldPlace, jU f1, f2, aj, Addr.add_lit]
theorem NN (bA : C.fo) (h : bT w0 F0 X F S s aF w) {T : TypeId} {x : I} {v : Value} {k : Nat} (aA : x.plain = true) (a2 : aV w F s aF x v (fun _ => False)) (he : aU C s T x k = some av) :
  Good C w0 F0 X aF w (Instr.fieldAt T v k) av s := by
 unfold aU at he
 split at he
 ·rename_i aB aE
  split at he
  ·rename_i qe off bF
   split at he
   ·rename_i tr
    split at he
    ·rename_i ds
     split at he
     ·rename_i d al
      split at he
      ·rename_i yX
       simp only [Option.some.injEq] at he; subst he
       have lz := (aV.da rfl).1 a2
       rw [aC] at lz
       obtain ⟨ah, b, o, eK, ai, aj, aP, bb⟩ := lz
       rw [iK ah] at ai
       simp only [List.cons.injEq, and_true] at ai; subst ai
       rw [aC] at bb
       obtain ⟨cv, gk, cE, ct, kd, rfl, h5, gL, hr, h6, hd, lV⟩ := bl.pick ds _ _ k d bb al
       refine Good.same h (C0 bA aE bF tr.1 tr.2 b o w) rfl ((aV.da rfl).2 ⟨rfl, ?_⟩)
       rw [aC]
       refine ⟨b, o + off, gk, rfl, aj, ?_, aC.mono (fun _ h => h) _ _ _ _ (fun b ae => hr b ae) hd⟩
       rw [← yX, ← h5]; exact aP.CZ
      ·cases he
     ·cases he
    ·rename_i y o
     split at he
     ·cases he
     ·rename_i ax
      simp only [Option.some.injEq] at he; subst he
      rw [aV] at a2
      obtain ⟨b, cur, e, fr, rfl, aj, aP, bb⟩ := a2 (by simpa using ax)
      refine Good.same h (C0 bA aE bF tr.1 tr.2 b o w) rfl ?_
      rw [aV]
      exact fun _ => ⟨b, cur, e, fr, rfl, aj, aP, bb⟩
    ·rename_i x _ _
     split at he
     ·rename_i y q hl
      split at he
      ·rename_i ds al
       split at he
       ·rename_i yX
        simp only [Option.some.injEq] at he; subst he
        obtain ⟨ay, c0, b, o, rfl, kQ⟩ := CY h a2 hl al
        refine Good.same h (C0 bA aE bF tr.1 tr.2 b o w) rfl ?_
        rw [aV]
        intro d2 jm lY
        rw [yU w q _ _ _ _ _ _ [k] kQ]
        rw [yT _ _ _ _ al] at jm
        have rh : ∃ d3, ds[k]? = some d3 := ⟨_, List.getElem?_eq_getElem yX.1⟩
        obtain ⟨d3, vE⟩ := rh
        simp only [I.sub, vE, Option.some.injEq] at jm
        subst jm
        simp only [dq, vE]
        refine ⟨(c0.drop off).take d3.wd, b, o + off, ?_, rfl⟩
        rw [yX.2]; rfl
       ·cases he
      ·cases he
     ·cases he
   ·cases he
  ·cases he
 ·cases he
def bK (C : cn) (s : au) (T : TypeId) (x i : I) : Option I :=
 match (C.T T).k, i with
 | .slice e, .int _ n => if 0 ≤ n ∧ (C.T e).ok = true then
   match x with
   | .slice xs => match xs[n.toNat]? with
     | some d => if d.wd = (C.T e).sz then some (.ref d) else none
     | none => none
   | .h y q => match I.sub q (s y) with
     | some (.aw sz xs) => if n.toNat < xs.length ∧ sz = (C.T e).sz then some (.ax y (q ++ [n.toNat])) else none
     | _ => none
   | _ => none
   else none
 | _, _ => none
theorem GI (bA : C.fo) {T e : TypeId} (aE : (C.T T).k = .slice e) (he : (C.T e).ok = true) (b o len cap : Nat) (k : IntKind) (n : Nat) (bd : n < len) (w : World) :
  (Instr.indexAt T (.slice (some ⟨b, o, none⟩) len cap) (.int k n)).run C.P w = .ok (.pointer (some ⟨b, o + n * (C.T e).sz, none⟩)) w := by
 obtain ⟨i, d, z, a4, a_, a3, c1, c6, cl, cf⟩ := bA.info (g5 aE (by simp))
 rw [aE] at cf
 have := kU cf; subst this
 obtain ⟨tq, bE, qf, f1, f2, f3, f4, f5, f6, f7⟩ := bA.info he
 simp [Instr.indexAt, run_underlying cl, asIntOf, bd, jU f1, f2, Addr.add_lit]
theorem NO (bA : C.fo) (h : bT w0 F0 X F S s aF w) {T : TypeId} {x i : I} {v ts : Value} (a2 : aV w F s aF x v (fun _ => False)) (NP : aV w F s aF i ts (fun _ => False))
  (he : bK C s T x i = some av) : Good C w0 F0 X aF w (Instr.indexAt T v ts) av s := by
 unfold bK at he
 split at he
 ·rename_i e k n aE
  have C1 := (aV.da rfl).1 NP
  rw [aC, iK C1.1] at C1
  have : ts = .int k n := by simpa using C1.2
  subst this
  split at he
  ·rename_i bd
   obtain ⟨n, rfl⟩ := Int.eq_ofNat_of_zero_le bd.1
   simp only [Int.toNat_natCast] at he
   split at he
   ·rename_i xs
    split at he
    ·rename_i d al
     split at he
     ·rename_i hw
      simp only [Option.some.injEq] at he; subst he
      have lz := (aV.da rfl).1 a2
      rw [aC, iK lz.1] at lz
      obtain ⟨ah, ⟨rfl, _⟩ | ⟨b, o, cap, eK, sz, ai, aj, aP, bb, b5, cF, cq⟩⟩ := lz
      ·simp at al
      ·simp only [List.cons.injEq, and_true] at ai; subst ai
       have fy : n < xs.length := (List.getElem?_eq_some_iff.1 al).1
       obtain ⟨cv, gk, cE, ct, kd, rfl, h5, gL, hr, h6, hd, lV⟩ := bl.pick xs _ _ n d cq al
       refine Good.same h (GI bA aE bd.2 b o _ _ k n fy w) rfl ((aV.da rfl).2 ⟨rfl, ?_⟩)
       rw [aC]
       refine ⟨b, _, gk, rfl, aj, ?_, aC.mono (fun _ h => h) _ _ _ _ (fun b ae => hr b ae) hd⟩
       have NQ := b5 d (List.mem_of_getElem? al)
       have : n * (C.T e).sz = cv.length := by
        rw [h5, q_ _ (fun d al => b5 d (List.mem_of_mem_take al)), List.length_take, Nat.min_eq_left (by omega), ← hw, NQ]
       rw [this]; exact cF.CZ
     ·cases he
    ·cases he
   ·rename_i y q
    split at he
    ·rename_i sz xs al
     split at he
     ·rename_i hw
      simp only [Option.some.injEq] at he; subst he
      rw [aV] at a2
      obtain ⟨c0, a, bc, bG, cB⟩ := a2 _ al rfl
      have ah : Value.gU v = true := cB
      rw [iK ah] at bG; subst bG
      have aA := h.en y
      rw [aV.da (iw al (.inl rfl))] at aA
      obtain ⟨gl, cS, e2, hc, k0, b8, cu, fB, eP, gr⟩ := ctx q (s y) (cV (aF y)) (S y) none _ aA.2 al
      rw [k0] at bc
      simp only [Option.some.injEq, Prod.mk.injEq, true_and] at bc
      obtain ⟨rfl, rfl⟩ := bc
      rw [aC] at eP
      rcases eP with ⟨rfl, _⟩ | ⟨b, cap, cur, a_, fr, el, a3, _⟩
      ·simp at hw
      ·simp only [List.cons.injEq, and_true] at a3; subst a3
       refine Good.same h (GI bA aE bd.2 b 0 _ _ k n hw.1 w) rfl ?_
       rw [aV]
       intro d2 jm _
       rw [yU w q _ _ _ _ _ _ [n] k0]
       rw [yT _ _ _ _ al] at jm
       obtain ⟨d3, vE⟩ : ∃ d3, xs[n]? = some d3 := ⟨_, List.getElem?_eq_getElem hw.1⟩
       simp only [I.sub, vE, Option.some.injEq] at jm
       subst jm
       simp only [dq, vE]
       exact ⟨_, b, n * sz, rfl, by simp [hw.2]⟩
     ·cases he
    ·cases he
   ·cases he
  ·cases he
 ·cases he
end
section
variable {C : cn} {w0 w : World} {F0 X F : Nat → Prop} {S : Nat → Nat → Prop} {s s1 : au} {aF : Nat → Value} {av : I}
theorem NR (bA : C.fo) {T : TypeId} {aB : List (TypeId × Nat)} (aE : (C.T T).k = .struct aB) (w : World) : (isAgg T).run C.P w = .ok true w := by
 obtain ⟨i, d, z, a4, a_, a3, c1, c6, cl, cf⟩ := bA.info (g5 aE (by simp))
 rw [aE] at cf
 obtain ⟨gs, rfl, _⟩ := CX cf
 simp [isAgg, run_underlying cl]
def g4.flat (x : g4) : Bool := match x.k with
 | .other => false
 | .struct _ => false
 | _ => true
theorem GJ {x : g4} (h : x.flat = true) : x.ok = true := by
 unfold g4.flat at h; unfold g4.ok; revert h; cases x.k <;> simp
theorem NS (bA : C.fo) {T : TypeId} (aE : (C.T T).flat = true) (w : World) : (isAgg T).run C.P w = .ok false w := by
 obtain ⟨i, d, z, a4, a_, a3, c1, c6, cl, cf⟩ := bA.info (GJ aE)
 have eb : (∀ aB, d ≠ .struct aB) ∧ (∀ n e, d ≠ .array n e) := by
  clear cl
  unfold g4.flat at aE
  generalize (C.T T).k = lA at *
  cases lA <;> cases d <;> simp [la] at cf aE ⊢
 cases d <;> first | exact (eb.1 _ rfl).elim | exact (eb.2 _ _ rfl).elim | simp [isAgg, run_underlying cl]
theorem hN.one {w : World} {b o : Nat} {v : Value} (h : hN w b o [v]) : w.cell? ⟨b, o, none⟩ = some v := by simpa using h 0 v rfl
theorem GK {P : Program} {b o : Nat} : ∀ (cs : List Value) (i : Nat) (acc : Array Value), hN w b (o + i) cs → (loadCellsFrom ⟨b, o, none⟩ i cs.length acc).run P w = .ok (acc ++ cs.toArray) w
 | [], i, acc, _ => by simp [loadCellsFrom]
 | c :: cs, i, acc, h => by
   have ba : w.cell? ⟨b, o + i, none⟩ = some c := by simpa using h 0 c rfl
   have ai : hN w b (o + (i + 1)) cs := by
    intro j x cx
    have := h (j + 1) x (by simpa using cx)
    rw [← this]; congr 2; omega
   have ih := GK (P := P) cs (i + 1) (acc.push c) ai
   simp only [List.length_cons, loadCellsFrom, Sem.run_bind, Go.load, Sem.run, Addr.add_lit, ba, Result.andThen]
   rw [ih]; simp
theorem NT (bA : C.fo) {T : TypeId} {aB : List (TypeId × Nat)} (aE : (C.T T).k = .struct aB) {b o : Nat} {cs : List Value} (h : hN w b o cs) (hl : cs.length = (C.T T).sz) :
  (loadVar T ⟨b, o, none⟩).run C.P w = .ok (.agg cs.toArray) w := by
 obtain ⟨i, d, z, a4, a_, a3, c1, c6, cl, cf⟩ := bA.info (g5 aE (by simp))
 have := GK (P := C.P) (b := b) (o := o) cs 0 #[] (by simpa using h)
 simp only [loadVar, Sem.run_bind, NR bA aE, Result.andThen, if_true, jU a4, a_, ← hl, loadCells, this]
 simp
theorem GL (bA : C.fo) {T : TypeId} (aE : (C.T T).flat = true) {b o : Nat} {v : Value} (h : hN w b o [v]) :
  (loadVar T ⟨b, o, none⟩).run C.P w = .ok v w := by
 simp [loadVar, NS bA aE, Go.load, Sem.run, h.one]
def fits (C : cn) (T : TypeId) (d : I) : Bool := match (C.T T).k, d with
    | .struct _, .agg ds => I.ev ds == (C.T T).sz
    | .struct _, _ => false
    | _, .agg _ => false
    | _, .tuple _ => false
    | _, _ => (C.T T).flat
def yY : List I → Nat → Nat → Option Nat
 | [], _, _ => none
 | d :: ds, i, k => if k = 0 then some i else if d.wd ≤ k then yY ds (i + 1) (k - d.wd) else none
def aD (C : cn) (s : au) (T : TypeId) (x : I) : Option I :=
 match x with
 | .ref d => if fits C T d = true then some d else none
 | .ae y k => match s y with
   | .agg ds => if I.dI ds then none else match yY ds 0 k with
     | some i => match ds[i]? with
       | some d => if I.ev (ds.take i) = k ∧ fits C T d = true then some (if d.plain then d else .h y [i]) else none
       | none => none
     | none => none
   | _ => none
 | x => match loc s x with
   | some (y, q) => match I.sub q (s y) with
     | some d => if fits C T d = true then some (if d.plain then d else .h y q) else none
     | none => none
   | none => none
theorem aC.one {F : Nat → Prop} {d : I} {cs : List Value} {S : Nat → Prop} (h : aC w F d cs S) (ai : ∀ aB, d ≠ .agg aB) (aj : ∀ aB, d ≠ .tuple aB) : ∃ v, cs = [v] ∧ Value.gU v = true := by
 cases d with
 | hole => rw [aC] at h; obtain ⟨v, h, rfl⟩ := h; exact ⟨v, rfl, h⟩
 | fi => rw [aC] at h; obtain ⟨v, rfl⟩ := h; exact ⟨_, rfl, rfl⟩
 | slice xs => rw [aC] at h; rcases h with ⟨_, a, c, rfl, _⟩ | ⟨b, o, cap, eK, sz, rfl, _⟩ <;> exact ⟨_, rfl, rfl⟩
 | aw sz xs => rw [aC] at h; rcases h with ⟨_, _, rfl⟩ | ⟨b, cap, cur, e, fr, ew, rfl, _⟩ <;> exact ⟨_, rfl, rfl⟩
 | ref d => rw [aC] at h; obtain ⟨b, o, eK, rfl, _⟩ := h; exact ⟨_, rfl, rfl⟩
 | a8 d => rw [aC] at h; obtain ⟨b, cur, e, fr, ew, rfl, _⟩ := h; exact ⟨_, rfl, rfl⟩
 | agg aB => exact (ai _ rfl).elim
 | tuple aB => exact (aj _ rfl).elim
 | fn _ _ => rw [aC] at h; exact h.elim
 | h _ _ => rw [aC] at h; exact h.elim
 | ax _ _ => rw [aC] at h; exact h.elim
 | ae _ _ => rw [aC] at h; exact h.elim
 | _ => rw [aC] at h; subst h; exact ⟨_, rfl, rfl⟩
theorem yZ (bA : C.fo) {T : TypeId} {d : I} {b o : Nat} {cs : List Value} {S : Nat → Prop} (h : hN w b o cs) (al : aC w F d cs S)
  (jV : fits C T d = true) :
  ∃ v, (loadVar T ⟨b, o, none⟩).run C.P w = .ok v w ∧ cV v = cs ∧ eL d v := by
 unfold fits at jV
 by_cases ah : ∃ aB, (C.T T).k = .struct aB
 ·obtain ⟨aB, aE⟩ := ah
  rw [aE] at jV
  cases d with
  | agg ds =>
    simp only [beq_iff_eq] at jV
    refine ⟨_, NT bA aE h ((aC.length _ _ _ al).trans jV), rfl, ⟨_, rfl⟩⟩
  | _ => simp at jV
 ·have lb : (C.T T).flat = true ∧ (∀ aB, d ≠ .agg aB) ∧ (∀ aB, d ≠ .tuple aB) := by
   revert jV ah
   cases aE : (C.T T).k <;> cases d <;> simp
  obtain ⟨v, rfl, ai⟩ := aC.one al lb.2.1 lb.2.2
  refine ⟨v, GL bA lb.1 h, iK ai, ?_⟩
  cases d <;> first | exact ai | exact (lb.2.1 _ rfl).elim | exact (lb.2.2 _ rfl).elim
theorem NU (bA : C.fo) (h : bT w0 F0 X F S s aF w) {T : TypeId} {x : I} {v : Value} (a2 : aV w F s aF x v (fun _ => False)) (he : aD C s T x = some av) :
  Good C w0 F0 X aF w (Instr.loadAt T v) av s := by
 unfold aD at he
 split at he
 ·rename_i d
  split at he
  ·rename_i jV
   simp only [Option.some.injEq] at he; subst he
   have lz := (aV.da rfl).1 a2
   rw [aC, iK lz.1] at lz
   obtain ⟨ah, b, o, eK, ai, aj, aP, bb⟩ := lz
   simp only [List.cons.injEq, and_true] at ai; subst ai
   obtain ⟨gC, a7, ay, ri⟩ := yZ bA aP bb jV
   have fa : (Instr.loadAt T (.pointer (some ⟨b, o, none⟩))).run C.P w = .ok gC w := by simp [Instr.loadAt, Instr.sureAddr, a7]
   refine ⟨gC, w, F, S, fa, h, ?_⟩
   by_cases bh : d.tree = true
   ·exact .inr ⟨bh, ri, fun _ => False, by rw [ay]; exact bb, fun _ h => h.elim, fun _ h => h.elim, fun _ _ h => h.elim, fun _ h => h.elim⟩
   ·cases d <;> first | exact (bh rfl).elim | (rw [aC] at bb; exact bb.elim) | exact .inl ⟨rfl, by rw [aV]; trivial⟩
  ·cases he
 ·rename_i y k
  split at he
  ·rename_i ds mA
   split at he
   ·cases he
   ·rename_i vF
    split at he
    ·rename_i i ar
     split at he
     ·rename_i d al
      split at he
      ·rename_i jV
       simp only [Option.some.injEq] at he
       have fV : (s y).plain = false := by rw [mA]; simp only [I.plain]; simpa using vF
       rw [aV] at a2
       obtain ⟨b, cur, e, fr, rfl, aj, aP, bb⟩ := a2 fV
       have bL := h.en y
       rw [mA] at bL
       have GM := ((aV.da rfl).1 bL).2
       rw [aC] at GM
       obtain ⟨cv, gk, cE, ct, kd, ig, h5, gL, hr, h6, hd, lV⟩ := bl.pick ds _ _ i d GM al
       have jy : hN w b k gk := by
        intro j c cx
        have fy : j < gk.length := (List.getElem?_eq_some_iff.1 cx).1
        have : cur.toList[k + j]? = some c := by
         rw [bb, ig, List.getElem?_append_right (by omega), List.getElem?_append_left (by omega), ← cx]; congr 1; omega
        simp [World.cell?, aP]
        simpa using this
       obtain ⟨gC, a7, ay, ri⟩ := yZ bA jy hd jV.2
       have fa : (Instr.loadAt T (.pointer (some ⟨b, k, none⟩))).run C.P w = .ok gC w := by simp [Instr.loadAt, Instr.sureAddr, a7]
       refine ⟨gC, w, F, S, fa, h, ?_⟩
       split at he
       ·rename_i ax
        subst he
        by_cases bh : d.tree = true
        ·exact .inl ⟨ax, (aV.da bh).2 ⟨ri, by rw [ay]; exact aC.plain _ _ _ _ ax hd⟩⟩
        ·cases d <;> first | exact (bh rfl).elim | (rw [aC] at hd; exact hd.elim) | exact .inl ⟨rfl, by rw [aV]; trivial⟩
       ·subst he
        refine .inl ⟨rfl, ?_⟩
        rw [aV]
        intro d2 jm _
        rw [mA] at jm ⊢
        simp only [I.sub, al, Option.some.injEq] at jm
        subst jm
        refine ⟨gk, none, ?_, ay, ri⟩
        simp only [dq, al]
        rw [ig, tj cv gk cE _ _ h5 (aC.length _ _ _ hd)]
        rfl
      ·cases he
     ·cases he
    ·cases he
  ·cases he
 ·rename_i x _ _
  split at he
  ·rename_i y q hl
   split at he
   ·rename_i d al
    split at he
    ·rename_i jV
     simp only [Option.some.injEq] at he
     obtain ⟨nJ, c0, b, o, rfl, kQ⟩ := CY h a2 hl al
     have bL := h.en y
     rw [aV.da (iw al (.inr nJ))] at bL
     obtain ⟨gl, cS, e2, hc, k0, b8, cu, fB, eP, gr⟩ := ctx q (s y) (cV (aF y)) (S y) none _ bL.2 al
     rw [k0] at kQ
     simp only [Option.some.injEq, Prod.mk.injEq, true_and] at kQ
     obtain ⟨rfl, rfl⟩ := kQ
     have jy : hN w b o gl := by
      rcases gr with ⟨l, r, a4, a_, _⟩ | ⟨fU, cur, e, fr, l, r, a4, a_, a3, c1, c6, _⟩
      ·simp at a_
      ·simp only [Option.some.injEq, Prod.mk.injEq] at a4
       obtain ⟨rfl, rfl⟩ := a4
       intro j c cx
       have fy : j < gl.length := (List.getElem?_eq_some_iff.1 cx).1
       have : cur.toList[l.length + j]? = some c := by
        rw [c6, List.getElem?_append_right (by omega), List.getElem?_append_left (by omega), ← cx]; congr 1; omega
       simp [World.cell?, a3]
       simpa using this
     obtain ⟨gC, a7, ay, ri⟩ := yZ bA jy eP jV
     have fa : (Instr.loadAt T (.pointer (some ⟨b, o, none⟩))).run C.P w = .ok gC w := by simp [Instr.loadAt, Instr.sureAddr, a7]
     refine ⟨gC, w, F, S, fa, h, ?_⟩
     split at he
     ·rename_i ax
      subst he
      by_cases bh : d.tree = true
      ·exact .inl ⟨ax, (aV.da bh).2 ⟨ri, by rw [ay]; exact aC.plain _ _ _ _ ax eP⟩⟩
      ·cases d <;> first | exact (bh rfl).elim | (rw [aC] at eP; exact eP.elim) | exact .inl ⟨rfl, by rw [aV]; trivial⟩
     ·subst he
      refine .inl ⟨rfl, ?_⟩
      rw [aV]
      intro d2 jm _
      rw [al] at jm
      simp only [Option.some.injEq] at jm
      subst jm
      exact ⟨_, _, k0, ay, ri⟩
    ·cases he
   ·cases he
  ·cases he
mutual
theorem aC.rj {F : Nat → Prop} : ∀ (d : I) (cs : List Value) (S : Nat → Prop), aC w F d cs S → ∀ c ∈ cs, Value.gU c = true
 | .hole, cs, S, h => by rw [aC] at h; obtain ⟨v, h, rfl⟩ := h; simpa using h
 | .bool _, cs, S, h => by rw [aC] at h; subst h; simp [Value.gU]
 | .fi, cs, S, h => by rw [aC] at h; obtain ⟨b, rfl⟩ := h; simp [Value.gU]
 | .int _ _, cs, S, h => by rw [aC] at h; subst h; simp [Value.gU]
 | .str _, cs, S, h => by rw [aC] at h; subst h; simp [Value.gU]
 | .dC, cs, S, h => by rw [aC] at h; subst h; simp [Value.gU]
 | .bg, cs, S, h => by rw [aC] at h; subst h; simp [Value.gU]
 | .slice xs, cs, S, h => by
   rw [aC] at h
   rcases h with ⟨_, a, c, rfl, _⟩ | ⟨b, o, cap, eK, sz, rfl, _⟩ <;> simp [Value.gU]
 | .aw sz xs, cs, S, h => by
   rw [aC] at h
   rcases h with ⟨_, _, rfl⟩ | ⟨b, cap, cur, e, fr, a1, rfl, _⟩ <;> simp [Value.gU]
 | .ref d, cs, S, h => by rw [aC] at h; obtain ⟨b, o, eK, rfl, _⟩ := h; simp [Value.gU]
 | .a8 d, cs, S, h => by rw [aC] at h; obtain ⟨b, o, eK, _, _, rfl, _⟩ := h; simp [Value.gU]
 | .agg aB, cs, S, h => by rw [aC] at h; exact bl.rj aB _ _ h
 | .tuple aB, cs, S, h => by rw [aC] at h; exact bl.rj aB _ _ h
 | .fn _ _, cs, S, h => by rw [aC] at h; exact h.elim
 | .h _ _, cs, S, h => by rw [aC] at h; exact h.elim
 | .ax _ _, cs, S, h => by rw [aC] at h; exact h.elim
 | .ae _ _, cs, S, h => by rw [aC] at h; exact h.elim
theorem bl.rj {F : Nat → Prop} : ∀ (ds : List I) (cs : List Value) (S : Nat → Prop), bl w F ds cs S → ∀ c ∈ cs, Value.gU c = true
 | [], cs, S, h => by rw [bl] at h; subst h; simp
 | d :: ds, cs, S, h => by
   rw [bl] at h
   obtain ⟨cv, cE, ct, el, rfl, aj, aP, _⟩ := h
   intro c ay
   rcases List.mem_append.1 ay with ay | ay
   ·exact aC.rj d _ _ aj c ay
   ·exact bl.rj ds _ _ aP c ay
end
theorem y0 {P : Program} {b o : Nat} {e : TypeId} {fr : Nat × Nat} : ∀ (vs : List Value) (i : Nat) (cur : Array Value) (w : World) (l m r : List Value), w.heap[b]? = some (.cells cur e fr) → p9 fr cur.size →
  cur.toList = l ++ (m ++ r) → l.length = o + i → m.length = vs.length → (∀ v ∈ vs, Value.gU v = true) →
  ∃ aS, (storeCells ⟨b, o, none⟩ vs i).run P w = .ok () aS ∧ aS.heap[b]? = some (.cells (l ++ (vs ++ r)).toArray e fr) ∧ (∀ c, c ≠ b → aS.heap[c]? = w.heap[c]?) ∧ aS.heap.size = w.heap.size ∧ aS.os = w.os ∧ aS.tape = w.tape ∧ aS.output = w.output
 | [], i, cur, w, l, m, r, ae, bF, ay, hl, hm, _ => by
   refine ⟨w, rfl, ?_, fun _ _ => rfl, rfl, rfl, rfl, rfl⟩
   have : m = [] := by simpa using hm
   subst this
   rw [ae]
   have : cur = (l ++ ([] ++ r)).toArray := by rw [← ay]
   rw [← this]
 | v :: vs, i, cur, w, l, m, r, ae, bF, ay, hl, hm, y1 => by
   obtain ⟨x, m, rfl⟩ : ∃ x hX, m = x :: hX := by cases m with
    | nil => simp at hm
    | cons x m => exact ⟨x, m, rfl⟩
   have hlen : cur.size = (l ++ (x :: m ++ r)).length := by rw [← ay]; simp
   have fy : o + i < cur.size := by rw [hlen]; simp; omega
   have y2 : w.cell? ⟨b, o + i, none⟩ = some cur[o + i] := by simp [World.cell?, ae, fy]
   have NV : w.frozen? ⟨b, o + i, none⟩ = false := by
    have := bF (o + i) fy
    simp only [World.frozen?, ae]
    simp only [Bool.and_eq_false_iff, decide_eq_false_iff_not]
    by_cases ai : fr.1 ≤ o + i
    ·right; exact fun aj => this ⟨ai, aj⟩
    ·left; exact ai
   have qg : (w.setCell ⟨b, o + i, none⟩ v).heap[b]? = some (.cells ((l ++ [v]) ++ (m ++ r)).toArray e fr) := by
    simp only [World.setCell, Array.getElem?_modify, if_true, ae, Option.map_some, Option.isSome_none, Bool.false_eq_true, if_false]
    congr 2
    apply Array.ext'
    rw [Array.toList_setIfInBounds, ay, ← hl, List.set_append_right _ _ (Nat.le_refl _)]
    simp
   have rk : (store ((⟨b, o, none⟩ : Addr).add i) v).run P w = .ok () (w.setCell ⟨b, o + i, none⟩ v) := by
    have ai := y1 v (by simp)
    rw [Addr.add_lit]
    cases v <;> first | (simp [Value.gU] at ai; done) | simp [Go.store, Sem.run, y2, NV]
   obtain ⟨aS, bc, bG, cB, eC, fH, h9, iL⟩ := y0 (P := P) (b := b) (o := o) vs (i + 1) _ (w.setCell ⟨b, o + i, none⟩ v) (l ++ [v]) m r qg (by
    have : (l ++ [v] ++ (m ++ r)).toArray.size = cur.size := by rw [hlen]; simp
    rw [this]; exact bF) (by simp) (by simp; omega) (by simpa using hm) (fun u hu => y1 u (by simp [hu]))
   refine ⟨aS, ?_, by simpa using bG, fun c ay => ?_, ?_, fH, h9, iL⟩
   ·simp only [storeCells, Sem.run_bind, rk, Result.andThen]; exact bc
   ·rw [cB c ay]
    simp only [World.setCell, Array.getElem?_modify]
    rw [if_neg (fun e => ay e.symm)]
   ·rw [eC]; simp [World.setCell]
theorem y3 {d : I} {v : Value} (h : eL d v) (al : ∀ aB, d ≠ .tuple aB) : v.cells = (cV v).toArray := by
 cases d with
 | tuple aB => exact (al _ rfl).elim
 | agg aB => obtain ⟨arr, rfl⟩ := h; simp [Value.cells, cV, iu]
 | _ =>
   have ai : Value.gU v = true := h
   rw [iK ai]
   cases v <;> first | rfl | (simp [Value.gU] at ai)
def cC (C : cn) (s : au) (T : TypeId) (x y : I) : Option au :=
 match cT s y, loc s x with
 | some (d, s1), some (z, q) => match d with
   | .tuple _ => none
   | d => match I.sub q (s z) with
     | some d0 => if d.wd = d0.wd ∧ d.wd = (C.T T).sz ∧ (C.T T).ok = true ∧ y.owner ≠ some z then some (dr (iJ z s1) z (I.put q d (s z))) else none
     | none => none
 | _, _ => none
theorem NW {s s1 : au} {y d : I} {z : Nat} (h : cT s y = some (d, s1)) (ca : (s z).tree = true) (bL : y.owner ≠ some z) : s1 z = s z := by
 cases y with
 | h x q =>
   simp only [cT] at h
   split at h
   ·split at h
    ·cases h
    ·simp only [Option.some.injEq, Prod.mk.injEq] at h
     obtain ⟨_, rfl⟩ := h
     rw [jl _ _ (fun e => bL (by rw [I.owner, e]))]
     exact CO ca
   ·cases h
 | ax x q => simp [cT] at h
 | ae x q => simp [cT] at h
 | fn f c => simp [cT] at h
 | hole => simp [cT] at h
 | _ => simp only [cT, Option.some.injEq, Prod.mk.injEq] at h; rw [h.2]
theorem NX (bA : C.fo) (h : bT w0 F0 X F S s aF w) {T : TypeId} {x y : I} {jW jn : Value} (C2 : aV w F s aF x jW (fun _ => False)) (bL : y.plain = true) (NY : aV w F s aF y jn (fun _ => False))
  {s2 : au} (he : cC C s T x y = some s2) :
  ∃ aS a1, (Instr.storeAt T jW jn).run C.P w = .ok () aS ∧ bT w0 F0 X F a1 s2 aF aS := by
 unfold cC at he
 split at he
 ·rename_i d s1 z q bh hl
  have key : ∀ d : I, (∀ aB, d ≠ .tuple aB) → cT s y = some (d, s1) → (match I.sub q (s z) with
   | some d0 => if d.wd = d0.wd ∧ d.wd = (C.T T).sz ∧ (C.T T).ok = true ∧ y.owner ≠ some z then some (dr (iJ z s1) z (I.put q d (s z))) else none
   | none => none) = some s2 → ∃ aS a1, (Instr.storeAt T jW jn).run C.P w = .ok () aS ∧ bT w0 F0 X F a1 s2 aF aS := by
   intro d pv bh he
   split at he
   ·rename_i d0 kx
    split at he
    ·rename_i rl
     obtain ⟨ai, aj, aP, bb⟩ := rl
     simp only [Option.some.injEq] at he; subst he
     obtain ⟨nJ, c0, b, o, rfl, kQ⟩ := CY h C2 hl kx
     obtain ⟨ct, hG, bc, bG, Sn, cB, eC, fH, h9, iL, ld⟩ := qc h bL NY bh
     have e3 : s1 z = s z := NW bh (iw kx (.inr nJ)) bb
     rw [← e3] at kx nJ kQ ⊢
     obtain ⟨gl, fU, l, r, cur, e, fr, k0, b8, cu, fB, eP⟩ := hG.store kx nJ cB ai eC fH h9 iL
     rw [kQ] at k0
     simp only [Option.some.injEq, Prod.mk.injEq, true_and] at k0
     obtain ⟨rfl, rfl, rfl⟩ := k0
     obtain ⟨i, d, qf, a4, a_, a3, c1, c6, cl, cf⟩ := bA.info aP
     have hlen := aC.length _ _ _ cB
     have hm : c0.length = (cV jn).length := by
      have GN := hG.en z
      rw [aV.da (iw kx (.inr nJ))] at GN
      obtain ⟨_, _, _, _, mz, _, _, _, lZ, _⟩ := ctx q (s1 z) (cV (aF z)) (ct z) none _ GN.2 kx
      rw [kQ] at mz
      simp only [Option.some.injEq, Prod.mk.injEq, true_and] at mz
      rw [mz.1, aC.length _ _ _ lZ, hlen, ai]
     obtain ⟨aS, fC, gI, hH, ky, l0, ch, nK⟩ := y0 (P := C.P) (b := b) (o := l.length) (e := e) (fr := fr) (cV jn) 0 cur w l c0 r b8 fB cu rfl hm (aC.rj _ _ _ cB)
     obtain ⟨a1, gr⟩ := eP aS gI hH ky l0 ch nK
     refine ⟨aS, a1, ?_, gr⟩
     have pw := y3 bG pv
     simp [Instr.storeAt, Instr.sureAddr, storeVar, jU a4, a_, pw, hlen, aj, fC]
    ·cases he
   ·cases he
  split at he
  ·cases he
  ·rename_i pv
   exact key _ (fun aB e => pv aB e) bh he
 ·cases he
theorem bT.alloc (h : bT w0 F0 X F S s aF w) {d : I} {cs : List Value} {Sn : Nat → Prop} (e : TypeId) (a2 : aC w F d cs Sn)
  (fy : ∀ b, Sn b → b < w.heap.size) (bD : ∀ b, Sn b → ¬ F b) (cb : ∀ u b, Sn b → ¬ S u b) (ba : ∀ b, Sn b → X b ∨ w0.heap.size ≤ b) :
  bT w0 F0 X F S s aF (w.alloc (.cells cs.toArray e)) ∧
   kT w0 X F S s aF (w.alloc (.cells cs.toArray e)) (.a8 d) (.pointer (some ⟨w.heap.size, 0, none⟩)) := by
 have hold : ∀ b, b < w.heap.size → (w.alloc (.cells cs.toArray e)).heap[b]? = w.heap[b]? := by
  intro b ae
  show (w.heap.push _)[b]? = _
  rw [Array.getElem?_push, if_neg (by omega)]
 refine ⟨h.grow hold (by simp) rfl rfl rfl, .inr ⟨rfl, rfl, fun b => b = w.heap.size ∨ Sn b, ?_, ?_, ?_, ?_, ?_⟩⟩
 ·rw [aC]
  refine ⟨w.heap.size, cs.toArray, e, (0, 0), Sn, rfl, .inl rfl, ?_, ?_, ?_, fun c ay => .inr ay, fun ay => Nat.lt_irrefl _ (fy _ ay)⟩
  ·show (w.heap.push _)[_]? = _
   simp
  ·intro o _ ⟨_, aj⟩; exact absurd aj (Nat.not_lt_zero _)
  ·exact aC.frame (fun b ae => hold b (h.gB b ae)) _ _ _ (fun b ae => hold b (fy b ae)) a2
 ·rintro b (rfl | ae)
  ·simp
  ·have := fy b ae; simp; omega
 ·rintro b (rfl | ae) vG
  ·exact Nat.lt_irrefl _ (h.gB _ vG)
  ·exact bD b ae vG
 ·rintro u b (rfl | ae) hu
  ·exact Nat.lt_irrefl _ (h.fz _ _ hu)
  ·exact cb u b ae hu
 ·rintro b (rfl | ae)
  ·exact .inr h.size
  ·exact ba b ae
def ey (C : cn) (T : TypeId) : Option I := if (C.T T).ok = true then (match flat (C.T T).zero with | some _ => some (.a8 (C.T T).zero) | none => none) else none
theorem NZ (bA : C.fo) (h : bT w0 F0 X F S s aF w) {T : TypeId} (he : ey C T = some av) : Good C w0 F0 X aF w (Instr.alloc T true (.tuple #[])) av s := by
 unfold ey at he
 split at he
 ·rename_i aE
  split at he
  ·rename_i cs ig
   simp only [Option.some.injEq] at he; subst he
   obtain ⟨i, d, z, a4, a_, a3, c1, c6, cl, cf⟩ := bA.info aE
   have ca := c6 cs ig
   obtain ⟨dV, eS⟩ := h.alloc (d := (C.T T).zero) T ((aC.flat _).1 _ cs (fun _ => False) (Nat.le_refl _) ig) (fun _ h => h.elim) (fun _ h => h.elim) (fun _ _ h => h.elim) (fun _ h => h.elim)
   refine ⟨_, _, F, S, ?_, dV, eS⟩
   simp [Instr.alloc, tp a4 c1, newVar, newRow, newObj, Sem.run, ca]
  ·cases he
 ·cases he
def c7 (s : au) (x : I) : Option (I × au) := match cT s x with
 | some (.tuple _, _) => none
 | some (d, s1) => some (.a8 d, s1)
 | none => none
def jz (s : au) (x : I) : Option (I × au) := match x with
 | .h y q => match q, s y with
   | [], .agg ds => if I.dI ds then none else some (.ae y 0, s)
   | _, _ => none
 | _ => none
theorem N0 (h : bT w0 F0 X F S s aF w) {T : TypeId} {x : I} {v : Value} (a2 : aV w F s aF x v (fun _ => False)) (he : jz s x = some (av, s1)) :
  Good C w0 F0 X aF w (Instr.box T v) av s1 := by
 unfold jz at he
 split at he
 ·rename_i y q
  split at he
  ·rename_i ds mA
   split at he
   ·cases he
   ·rename_i vF
    simp only [Option.some.injEq, Prod.mk.injEq] at he
    obtain ⟨rfl, rfl⟩ := he
    rw [aV] at a2
    obtain ⟨c0, a, bc, bG, cB⟩ := a2 (s y) (by simp only [I.sub]) (by rw [mA]; simp only [I.plain]; simpa using vF)
    simp only [dq, Option.some.injEq, Prod.mk.injEq, true_and] at bc
    rw [mA] at cB
    have pw := y3 cB (fun aB e => by cases e)
    have hold : ∀ b, b < w.heap.size → (w.alloc (.cells (cV v).toArray T)).heap[b]? = w.heap[b]? := by
     intro b ae
     show (w.heap.push _)[b]? = _
     rw [Array.getElem?_push, if_neg (by omega)]
    refine ⟨.pointer (some ⟨w.heap.size, 0, none⟩), w.alloc (.cells (cV v).toArray T), fun b => F b ∨ b = w.heap.size, S, by simp [Instr.box, newVar, newRow, newObj, Sem.run, pw], ?_, .inl ⟨rfl, ?_⟩⟩
    ·have ai := h.grow hold (by simp) rfl rfl rfl
     exact {
      hP := fun b ae => .inl (ai.hP b ae)
      h7 := fun b ae => by
       rcases ae with ae | rfl
       ·exact ai.h7 b ae
       ·exact .inr (.inr h.size)
      gB := fun b ae => by
       rcases ae with ae | rfl
       ·exact ai.gB b ae
       ·simp
      fz := ai.fz
      gH := fun t b ae bF => by
       rcases bF with bF | rfl
       ·exact ai.gH t b ae bF
       ·exact absurd (h.fz t _ ae) (Nat.lt_irrefl _)
      gm := ai.gm
      ew := ai.ew
      en := fun t => aV.frame (fun _ _ => rfl) (fun b ae => .inl ae) (fun _ _ _ => rfl) ai.en _ _ _ (fun _ _ => rfl) (ai.en t)
      old := ai.old
      size := ai.size
      os := ai.os
      tape := ai.tape
      output := ai.output }
    ·rw [aV]
     intro _
     refine ⟨w.heap.size, (cV v).toArray, T, (0, 0), rfl, .inr rfl, ?_, ?_⟩
     ·show (w.heap.push _)[_]? = _
      simp
     ·rw [bc.1, ← bG]
  ·cases he
 ·cases he
theorem N1 (h : bT w0 F0 X F S s aF w) {T : TypeId} {x : I} {v : Value} (aA : x.plain = true) (a2 : aV w F s aF x v (fun _ => False)) (he : c7 s x = some (av, s1)) :
  Good C w0 F0 X aF w (Instr.box T v) av s1 := by
 unfold c7 at he
 split at he
 ·cases he
 ·rename_i d s2 pv bh
  simp only [Option.some.injEq, Prod.mk.injEq] at he
  obtain ⟨rfl, rfl⟩ := he
  obtain ⟨ct, hG, bc, bG, Sn, cB, eC, fH, h9, iL, ld⟩ := qc h aA a2 bh
  obtain ⟨dV, eS⟩ := hG.alloc T cB eC fH h9 iL
  refine ⟨_, _, F, ct, ?_, dV, eS⟩
  have pw := y3 bG (fun aB e => pv aB e)
  simp [Instr.box, newVar, newRow, newObj, Sem.run, pw]
 ·cases he
end
end Go.dg
