/- Part of a proof that a law returns true for every input. No condition. -/
import Derived.Test.YtgpmnlkgmadglaaGreatDoorFwB
import Derived.Laws.Entries
namespace Go.cY
inductive n9 where
 | int (k : IntKind)
 | bool
 | str
 | ptr (e : TypeId)
 | slice (e : TypeId)
 | struct (ax : List (TypeId × Nat))
 | fn
 | ev (e : TypeId)
 | map (k e : TypeId)
 | other
structure gK where
 k : n9
 sz : Nat
 bytes : Nat
 zero : I
mutual
def flat : I → Option (List Value)
 | .bool b => some [.bool b]
 | .int k n => some [.int k n]
 | .str s => some [.string ⟨⟨s⟩⟩]
 | .da => some [.pointer none]
 | .bo => some [.slice none 0 0]
 | .agg ax => q1 ax
 | .ct .o_ => some [.map none]
 | _ => none
def q1 : List I → Option (List Value)
 | [] => some []
 | d :: ds => match flat d, q1 ds with
   | some a, some b => some (a ++ b)
   | _, _ => none
end
theorem ay.flat {w : World} {F : Nat → Prop} : ∀ n, (∀ (d : I) (cs : List Value) (S : Nat → Prop), SizeOf.sizeOf d ≤ n → flat d = some cs → ay w F d cs S) ∧
  (∀ (ds : List I) (cs : List Value) (S : Nat → Prop), SizeOf.sizeOf ds ≤ n → q1 ds = some cs → bf w F ds cs S) := by
 intro n
 induction n with
 | zero => exact ⟨fun d _ _ bS => by cases d <;> simp at bS <;> omega, fun ds _ _ bS => by cases ds <;> simp at bS <;> omega⟩
 | succ n ih =>
   refine ⟨fun d cs S bS h => ?_, fun ds cs S bS h => ?_⟩
   ·cases d with
    | agg ax => rw [ay]; exact ih.2 ax cs S (by simp at bS; omega) (by simpa [cY.flat] using h)
    | bool b => simp [cY.flat] at h; subst h; rw [ay]
    | int k n => simp [cY.flat] at h; subst h; rw [ay]
    | str s => simp [cY.flat] at h; subst h; rw [ay]
    | da => simp [cY.flat] at h; subst h; rw [ay]
    | bo => simp [cY.flat] at h; subst h; rw [ay]
    | ct o => cases o <;> simp [cY.flat] at h; subst h; rw [ay]; rfl
    | _ => simp [cY.flat] at h
   ·cases ds with
    | nil => simp [q1] at h; subst h; rw [bf]
    | cons d ds =>
      simp only [q1] at h
      split at h
      ·rename_i a b bF aa
       simp at h; subst h
       simp at bS
       rw [bf]
       exact ⟨a, b, fun _ => False, fun _ => False, rfl, ih.1 d a _ (by omega) bF, ih.2 ds b _ (by omega) aa, fun _ h => h.elim, fun _ h => h.elim, fun _ h => h.elim⟩
      ·cases h
def lP : n9 → TypeDesc → Prop
 | .int k, .int cL => k = cL
 | .bool, .bool => True
 | .str, .string => True
 | .ptr e, .pointer gA => e = gA
 | .slice e, .slice gA => e = gA
 | .struct ax, .struct gs => gs.toList.map (fun g => (g.type, g.offset)) = ax
 | .fn, .func _ _ _ => True
 | .ev _, .struct _ => True
 | .map k e, .map cL gA => k = cL ∧ e = gA
 | _, _ => False
def JQ (P : Program) (t : TypeId) (x : gK) : Prop :=
 (∃ e n b z, x = ⟨.other, e, n, b⟩ ∧ z = 0) ∨
 ∃ i d z, P.info? t = some i ∧ i.size = x.sz ∧ i.bytes = x.bytes ∧ i.zero = some z ∧ (∀ cs, flat x.zero = some cs → z.cells = cs.toArray) ∧ P.underlying t = some d ∧ lP x.k d
structure b4 where
 P : Program
 T : TypeId → gK
 M : FuncId → List Bool
structure b4.eP (C : b4) : Prop where
 ty : ∀ t, JQ C.P t (C.T t)
 mixed : C.P.follows .mixedOrders = true
inductive aH where
 | t (n : Nat)
 | c (av : I)
 | f (g : FuncId)
def AX : Value → Option I
 | .bool b => some (.bool b)
 | .int k n => some (.int k n)
 | .string s => some (.str s.data.toList)
 | .pointer none => some .da
 | .slice none 0 0 => some .bo
 | _ => none
def dz : Operand → Option aH
 | .tmp n => some (.t n)
 | .const v => (AX v).map .c
 | .func g => some (.f g)
 | .global _ => none
def jr (x : Nat) (d : I) : I := if d.plain then d else .h x []
def aJ (s : al) : aH → I
 | .t n => jr n (s n)
 | .c av => av
 | .f g => .fn g []
theorem aI.nothing {w : World} {F : Nat → Prop} {s : al} {aB : Nat → Value} {d : I} {v : Value} {S aR : Nat → Prop} (aw : d.plain = true) (h : aI w F s aB d v S) : aI w F s aB d v aR := by
 cases d <;> first
  | (rw [aI]; trivial)
  | (rw [aI] at h ⊢; exact h)
  | (have bE := (aI.cJ rfl).1 h; exact (aI.cJ rfl).2 ⟨bE.1, ay.plain _ _ _ _ aw bE.2⟩)
section
variable {w0 w : World} {F0 X F : Nat → Prop} {S : Nat → Nat → Prop} {s : al} {aB : Nat → Value} {a : Act}
theorem JR (s : al) (x : aH) (ao : ∀ av, x = .c av → av.plain = true) : (aJ s x).plain = true := by
 cases x with
 | t n => simp only [aJ, jr]; split <;> first | assumption | rfl
 | c av => exact ao _ rfl
 | f g => rfl
theorem Fe {v : Value} {av : I} (h : AX v = some av) : av.plain = true := by
 unfold AX at h; split at h <;> simp at h <;> subst h <;> rfl
theorem fg (h : bM w0 F0 X F S s aB w) (ek : ∀ t, aB t = a.tmps.getD t undef) {o : Operand} {x : aH} (bJ : dz o = some x) :
  (aJ s x).plain = true ∧ aI w F s aB (aJ s x) (a.eval o) (fun _ => False) := by
 cases o with
 | tmp n =>
   simp [dz] at bJ; subst bJ
   simp only [aJ, jr, Act.eval, ← ek]
   split
   ·rename_i aw; exact ⟨aw, aI.nothing aw (h.dp n)⟩
   ·rename_i aw
    refine ⟨rfl, ?_⟩
    rw [aI]
    intro d ai Ff
    simp only [I.sub, Option.some.injEq] at ai; subst ai
    have a1 := h9 (q := []) rfl (.inl Ff)
    exact ⟨_, none, rfl, rfl, ((aI.cJ a1).1 (h.dp n)).1⟩
 | const v =>
   simp only [dz, Option.map_eq_some_iff] at bJ
   obtain ⟨av, pc, rfl⟩ := bJ
   refine ⟨Fe pc, ?_⟩
   simp only [aJ, Act.eval]
   unfold AX at pc
   split at pc <;> simp at pc <;> subst pc <;> rw [aI, ay] <;> exact ⟨rfl, rfl⟩
 | func g =>
   simp [dz] at bJ; subst bJ
   refine ⟨rfl, ?_⟩
   simp only [aJ, Act.eval]
   rw [aI]
   exact ⟨#[], rfl, by rw [ef]⟩
 | global g => simp [dz] at bJ
def lQ (w0 : World) (X F : Nat → Prop) (S : Nat → Nat → Prop) (s : al) (aB : Nat → Value) (w : World) (av : I) (v : Value) : Prop :=
 (av.plain = true ∧ aI w F s aB av v (fun _ => False)) ∨
 (av.tree = true ∧ dT av v ∧ ∃ Sn, ay w F av (cp v) Sn ∧ (∀ b, Sn b → b < w.heap.size) ∧ (∀ b, Sn b → ¬ F b) ∧ (∀ u b, Sn b → ¬ S u b) ∧ (∀ b, Sn b → X b ∨ w0.heap.size ≤ b))
def fin (s : al) (dst : Option Nat) (av : I) : al := match dst with
 | none => s
 | some t => if av.plain then db s t av else db (mc t s) t av
def nC (aB : Nat → Value) (dst : Option Nat) (v : Value) : Nat → Value := match dst with
 | none => aB
 | some t => db aB t v
theorem bM.fin (h : bM w0 F0 X F S s aB w) {av : I} {v : Value} (aK : lQ w0 X F S s aB w av v) (dst : Option Nat) :
  ∃ aR, bM w0 F0 X F aR (cY.fin s dst av) (nC aB dst v) w := by
 cases dst with
 | none => exact ⟨S, h⟩
 | some t =>
   simp only [cY.fin, nC]
   rcases aK with ⟨aw, ai⟩ | ⟨a1, ab, Sn, af, ag, aF, a_, bI⟩
   ·rw [if_pos aw]; exact ⟨_, h.vn aw ai⟩
   ·split
    ·rename_i aw
     exact ⟨_, h.vn aw ((aI.cJ a1).2 ⟨ab, ay.plain _ _ _ _ aw af⟩)⟩
    ·exact ⟨_, h.JL a1 ab af ag aF (fun u b _ aa => a_ u b aa) bI⟩
def cO (s : al) : I → Option (I × al)
 | .h x q => match I.sub q (s x) with
   | some d => if d.plain then none else some (d, db (hX x s) x (I.put q d.c7 (s x)))
   | none => none
 | .aw _ _ => none
 | .aa _ _ => none
 | .fn _ _ => none
 | .hole => none
 | d => some (d, s)
def I.owner : I → Option Nat
 | .h x _ => some x
 | _ => none
def k4 : Option Nat → I → I
 | some x, d => cj x d
 | none, d => d
theorem pd (h : bM w0 F0 X F S s aB w) {av d : I} {s1 : al} {v : Value} (pc : av.plain = true) (aK : aI w F s aB av v (fun _ => False)) (a1 : cO s av = some (d, s1)) :
  ∃ cc, bM w0 F0 X F cc s1 aB w ∧ d.tree = true ∧ dT d v ∧ ∃ Sn, ay w F d (cp v) Sn ∧ (∀ b, Sn b → b < w.heap.size) ∧ (∀ b, Sn b → ¬ F b) ∧ (∀ u b, Sn b → ¬ cc u b) ∧ (∀ b, Sn b → X b ∨ w0.heap.size ≤ b) ∧
    (∀ u b, cc u b → S u b) ∧ (∀ b, Sn b → ∃ u, S u b) ∧ (∀ (bx : I) (gB : Value) (aR : Nat → Prop), aI w F s aB bx gB aR → aI w F s1 aB (k4 av.owner bx) gB aR) := by
 have tree : ∀ d : I, d.tree = true → d.plain = true → aI w F s aB d v (fun _ => False) →
   ∃ cc, bM w0 F0 X F cc s aB w ∧ d.tree = true ∧ dT d v ∧ ∃ Sn, ay w F d (cp v) Sn ∧ (∀ b, Sn b → b < w.heap.size) ∧ (∀ b, Sn b → ¬ F b) ∧ (∀ u b, Sn b → ¬ cc u b) ∧ (∀ b, Sn b → X b ∨ w0.heap.size ≤ b) ∧
     (∀ u b, cc u b → S u b) ∧ (∀ b, Sn b → ∃ u, S u b) := by
  intro d ai _ bE
  have bE := (aI.cJ ai).1 bE
  exact ⟨S, h, ai, bE.1, _, bE.2, fun _ h => h.elim, fun _ h => h.elim, fun _ _ h => h.elim, fun _ h => h.elim, fun _ _ h => h, fun _ h => h.elim⟩
 cases av with
 | h x q =>
   simp only [cO] at a1
   split at a1
   ·rename_i e he
    split at a1
    ·cases a1
    ·rename_i aw
     simp only [Option.some.injEq, Prod.mk.injEq] at a1
     obtain ⟨rfl, rfl⟩ := a1
     have aw : e.plain = false := by simpa using aw
     obtain ⟨Sn, fq, cM, cN, dR, br, dQ, ca, dq, dW, fE⟩ := h.take he aw
     rw [aI] at aK
     obtain ⟨ayE, a2, g1, g2, g3⟩ := aK e he aw
     rw [br] at g1
     simp only [Option.some.injEq, Prod.mk.injEq, true_and] at g1
     obtain ⟨rfl, rfl⟩ := g1
     have xY : e.tree = true := by cases e <;> first | rfl | (simp [I.plain] at aw)
     refine ⟨_, dR, xY, g3, fq, by rw [g2]; exact dQ, fun b aa => h.eJ x b (ca b aa), fun b aa => h.fY x b (ca b aa), ?_, fun b aa => h.dS x b (ca b aa), ?_, fun b aa => ⟨x, ca b aa⟩, fE⟩
     ·intro u b aa hu
      simp only [fZ] at hu
      split at hu
      ·exact dW b aa hu
      ·rename_i AY; exact h.ff u x b AY hu (ca b aa)
     ·intro u b hu
      simp only [fZ] at hu
      split at hu
      ·rename_i e; subst e; exact dq b hu
      ·exact hu
   ·cases a1
 | aw x q => simp [cO] at a1
 | aa x q => simp [cO] at a1
 | fn f c => simp [cO] at a1
 | hole => simp [cO] at a1
 | au sz xs => simp [I.plain] at pc
 | aU d => simp [I.plain] at pc
 | _ =>
   simp only [cO, Option.some.injEq, Prod.mk.injEq] at a1
   obtain ⟨rfl, rfl⟩ := a1
   obtain ⟨cc, t1, t2, t3, Sn, t4, t5, t6, t7, t8, t9, t10⟩ := tree _ rfl pc aK
   exact ⟨cc, t1, t2, t3, Sn, t4, t5, t6, t7, t8, t9, t10, fun _ _ _ h => h⟩
def loc (s : al) : I → Option (Nat × List Nat)
 | .h x q => match I.sub q (s x) with
   | some (.aU _) => some (x, q ++ [0])
   | _ => none
 | .aw x q => if I.fL q (s x) then some (x, q) else none
 | _ => none
theorem xZ : ∀ (q : List Nat) (av d : I) (r : List Nat), I.sub q av = some d → I.sub (q ++ r) av = I.sub r d := by
 intro q
 induction q with
 | nil => intro av d r h; simp [I.sub] at h; subst h; rfl
 | cons k q ih =>
   intro av d r h
   cases av with
   | agg ax =>
     simp only [I.sub, List.cons_append] at h ⊢
     split at h
     ·rename_i x aq; exact ih _ _ _ h
     ·cases h
   | tuple ax =>
     simp only [I.sub, List.cons_append] at h ⊢
     split at h
     ·rename_i x aq; exact ih _ _ _ h
     ·cases h
   | au sz ax =>
     simp only [I.sub, List.cons_append] at h ⊢
     split at h
     ·rename_i x aq; exact ih _ _ _ h
     ·cases h
   | aU x =>
     cases k with
     | zero => simp only [I.sub, List.cons_append] at h ⊢; exact ih _ _ _ h
     | succ k => simp [I.sub] at h
   | _ => simp [I.sub] at h
theorem RT : ∀ (q : List Nat) (av d : I) (r : List Nat), I.sub q av = some d → I.fL (q ++ r) av = (I.fL q av || I.fL r d) := by
 intro q
 induction q with
 | nil => intro av d r h; simp [I.sub] at h; subst h; simp [I.fL]
 | cons k q ih =>
   intro av d r h
   cases av with
   | agg ax =>
     simp only [I.sub] at h
     split at h
     ·rename_i x aq
      simp only [I.fL, List.cons_append, aq]
      exact ih _ _ r h
     ·cases h
   | tuple ax =>
     simp only [I.sub] at h
     split at h
     ·rename_i x aq
      simp only [I.fL, List.cons_append, aq]
      exact ih _ _ r h
     ·cases h
   | au sz ax => simp [I.fL]
   | aU x => simp [I.fL]
   | _ => simp [I.sub] at h
theorem x0 (w : World) : ∀ (q : List Nat) (av d : I) (cs cM : List Value) (a cN : Option (Nat × Nat)) (r : List Nat), dn w q av cs a = some (d, cM, cN) → dn w (q ++ r) av cs a = dn w r d cM cN := by
 intro q
 induction q with
 | nil => intro av d cs cM a cN r h; simp [dn] at h; obtain ⟨rfl, rfl, rfl⟩ := h; rfl
 | cons k q ih =>
   intro av d cs cM a cN r h
   cases av with
   | agg ax =>
     rw [List.cons_append]
     rw [dn] at h ⊢
     split at h
     ·rename_i x aq; exact ih _ _ _ _ _ _ _ h
     ·cases h
   | tuple ax =>
     rw [List.cons_append]
     rw [dn] at h ⊢
     split at h
     ·rename_i x aq; exact ih _ _ _ _ _ _ _ h
     ·cases h
   | au sz ax =>
     rw [List.cons_append]
     rw [dn.eq_def] at h ⊢
     simp only at h ⊢
     split at h
     ·exact ih _ _ _ _ _ _ _ h
     ·cases h
   | aU x =>
     cases k with
     | zero =>
       rw [List.cons_append]
       rw [dn.eq_def] at h ⊢
       simp only at h ⊢
       split at h
       ·exact ih _ _ _ _ _ _ _ h
       ·cases h
     | succ k => rw [show dn w ((k + 1) :: q) (.aU x) cs a = none from rfl] at h; cases h
   | _ => simp [dn] at h
end
def gK.ok (x : gK) : Bool := match x.k with
 | .other => false
 | _ => true
theorem b4.eP.info {C : b4} (bp : C.eP) {t : TypeId} (h : (C.T t).ok = true) :
  ∃ i d z, C.P.info? t = some i ∧ i.size = (C.T t).sz ∧ i.bytes = (C.T t).bytes ∧ i.zero = some z ∧ (∀ cs, flat (C.T t).zero = some cs → z.cells = cs.toArray) ∧ C.P.underlying t = some d ∧ lP (C.T t).k d := by
 rcases bp.ty t with ⟨e, n, b, z, aq, _⟩ | bE
 ·rw [aq] at h; simp [gK.ok] at h
 ·exact bE
theorem gq {x : gK} {k : n9} (h : x.k = k) (ar : k ≠ .other) : x.ok = true := by
 unfold gK.ok; rw [h]; cases k <;> first | rfl | exact (ar rfl).elim
theorem x1 {d : TypeDesc} {ax : List (TypeId × Nat)} (h : lP (.struct ax) d) : ∃ gs, d = .struct gs ∧ gs.toList.map (fun g => (g.type, g.offset)) = ax := by
 cases d <;> simp [lP] at h
 exact ⟨_, rfl, h⟩
theorem lR {d : TypeDesc} {e : TypeId} (h : lP (.slice e) d) : d = .slice e := by
 cases d <;> simp [lP] at h
 rw [h]
theorem x2 {d : TypeDesc} {k : IntKind} (h : lP (.int k) d) : d = .int k := by
 cases d <;> simp [lP] at h
 rw [h]
theorem p4 {d : TypeDesc} (h : lP .str d) : d = .string := by
 cases d <;> simp [lP] at h
 rfl
theorem Fg {d : TypeDesc} (h : lP .bool d) : d = .bool := by
 cases d <;> simp [lP] at h
 rfl
theorem JS {d : TypeDesc} {e : TypeId} (h : lP (.ptr e) d) : d = .pointer e := by
 cases d <;> simp [lP] at h
 rw [h]
theorem hj {v : Value} (h : Value.gJ v = true) : cp v = [v] := by
 cases v <;> first | rfl | (simp [Value.gJ] at h)
theorem th {P : Program} {t : TypeId} {i : TypeInfo} (h : P.info? t = some i) (w : World) : (typeInfo t).run P w = .ok i w := by simp [typeInfo, h]
theorem kp {P : Program} {t : TypeId} {i : TypeInfo} (h : P.info? t = some i) (w : World) : (Go.sizeOf t).run P w = .ok i.size w := by simp [Go.sizeOf, th h]
theorem r0 {P : Program} {t : TypeId} {i : TypeInfo} {z : Value} (h : P.info? t = some i) (bS : i.zero = some z) (w : World) : (zeroValue t).run P w = .ok z w := by simp [zeroValue, th h, bS]
section
variable {C : b4} {w0 w : World} {F0 X F : Nat → Prop} {S : Nat → Nat → Prop} {s s1 : al} {aB : Nat → Value} {av : I}
def Good (C : b4) (w0 : World) (F0 X : Nat → Prop) (aB : Nat → Value) (w : World) (m : Sem Value) (av : I) (s1 : al) : Prop :=
 ∃ v aL bQ aR, m.run C.P w = .ok v aL ∧ bM w0 F0 X bQ aR s1 aB aL ∧ lQ w0 X bQ aR s1 aB aL av v
theorem Good.same (h : bM w0 F0 X F S s aB w) {m : Sem Value} {v : Value} (aW : m.run C.P w = .ok v w) (aw : av.plain = true) (aK : aI w F s aB av v (fun _ => False)) : Good C w0 F0 X aB w m av s :=
 ⟨v, w, F, S, aW, h, .inl ⟨aw, aK⟩⟩
theorem Fh (_h : bM w0 F0 X F S s aB w) {x : I} {v : Value} (aK : aI w F s aB x v (fun _ => False)) {y : Nat} {q : List Nat} (hl : loc s x = some (y, q)) {d : I} (ai : I.sub q (s y) = some d) :
  I.fL q (s y) = true ∧ ∃ cM b o, v = .pointer (some ⟨b, o, none⟩) ∧ dn w q (s y) (cp (aB y)) none = some (d, cM, some (b, o)) := by
 cases x with
 | h z vp =>
   simp only [loc] at hl
   split at hl
   ·rename_i e he
    simp only [Option.some.injEq, Prod.mk.injEq] at hl
    obtain ⟨rfl, rfl⟩ := hl
    rw [aI] at aK
    obtain ⟨cM, a, g1, g2, g3⟩ := aK _ he rfl
    have hF : e = d := by
     rw [xZ _ _ _ _ he] at ai
     simpa [I.sub] using ai
    subst hF
    refine ⟨by rw [RT _ _ _ _ he]; simp [I.fL], ?_⟩
    have af : Value.gJ v = true := g3
    rw [hj af] at g2
    subst g2
    have k2 := x0 w vp (s z) _ _ _ none a [0] g1
    have aq := _h.dp z
    rw [aI.cJ (h9 he (.inl rfl))] at aq
    obtain ⟨gp, cN, en, fq, k0, bt, b0, dK, de, dI⟩ := ctx vp (s z) (cp (aB z)) (S z) none _ aq.2 he
    rw [k0] at g1
    simp only [Option.some.injEq, Prod.mk.injEq, true_and] at g1
    obtain ⟨rfl, rfl⟩ := g1
    rw [ay] at de
    obtain ⟨b, cur, aZ, fr, dB, aT, _⟩ := de
    simp only [List.cons.injEq, and_true] at aT
    subst aT
    exact ⟨_, b, 0, rfl, by rw [k2]; rfl⟩
   ·cases hl
 | aw z vp =>
   simp only [loc] at hl
   split at hl
   ·rename_i ao
    simp only [Option.some.injEq, Prod.mk.injEq] at hl
    obtain ⟨rfl, rfl⟩ := hl
    rw [aI] at aK
    obtain ⟨cM, b, o, g1, g2⟩ := aK _ ai ao
    exact ⟨ao, cM, b, o, g2, g1⟩
   ·cases hl
 | _ => simp [loc] at hl
def di (C : b4) (s : al) (T : TypeId) (x : I) (k : Nat) : Option I :=
 match (C.T T).k with
 | .struct ax => match ax[k]? with
   | some (ka, off) => if (C.T ka).ok = true ∧ (C.T ka).sz ≠ 0 then
     match x with
     | .ref (.agg ds) => match ds[k]? with
       | some d => if I.ee (ds.take k) = off then some (.ref d) else none
       | none => none
     | .aa y o => if (s y).plain then none else some (.aa y (o + off))
     | x => match loc s x with
       | some (y, q) => match I.sub q (s y) with
         | some (.agg ds) => if k < ds.length ∧ I.ee (ds.take k) = off then some (.aw y (q ++ [k])) else none
         | _ => none
       | none => none
     else none
   | none => none
 | _ => none
theorem h5.Fi {w : World} {b o : Nat} {cv gn cw : List Value} (h : h5 w b o (cv ++ (gn ++ cw))) : h5 w b (o + cv.length) gn := by
 intro j c bw
 have dZ : j < gn.length := (List.getElem?_eq_some_iff.1 bw).1
 have := h (cv.length + j) c (by rw [List.getElem?_append_right (by omega), List.getElem?_append_left (by omega), ← bw]; congr 1; omega)
 rw [Nat.add_assoc]; exact this
theorem Fj (bp : C.eP) {T ka : TypeId} {ax : List (TypeId × Nat)} {k off : Nat} (ar : (C.T T).k = .struct ax) (bz : ax[k]? = some (ka, off)) (af : (C.T ka).ok = true) (ag : (C.T ka).sz ≠ 0) (b o : Nat) (w : World) :
  (Instr.fieldAt T (.pointer (some ⟨b, o, none⟩)) k).run C.P w = .ok (.pointer (some ⟨b, o + off, none⟩)) w := by
 obtain ⟨i, d, z, aN, aZ, aT, b2, cI, bZ, bO⟩ := bp.info (gq ar (by simp))
 rw [ar] at bO
 obtain ⟨gs, rfl, fF⟩ := x1 bO
 obtain ⟨q2, bx, q3, f1, f2, f3, f4, f5, f6, f7⟩ := bp.info af
 have bA : ∃ g, gs[k]? = some g ∧ g.type = ka ∧ g.offset = off := by
  rw [← fF, List.getElem?_map] at bz
  simp only [Option.map_eq_some_iff, Prod.mk.injEq] at bz
  obtain ⟨g, af, ag, aF⟩ := bz
  exact ⟨g, by simpa using af, ag, aF⟩
 obtain ⟨g, g1, rfl, rfl⟩ := bA
 simp [Instr.fieldAt, run_underlying bZ, g1, Instr.sureAddr, fieldPlace, kp f1, f2, ag, Addr.add_lit]
theorem RU (bp : C.eP) (h : bM w0 F0 X F S s aB w) {T : TypeId} {x : I} {v : Value} {k : Nat} (aq : x.plain = true) (aK : aI w F s aB x v (fun _ => False)) (he : di C s T x k = some av) :
  Good C w0 F0 X aB w (Instr.fieldAt T v k) av s := by
 unfold di at he
 split at he
 ·rename_i ax ar
  split at he
  ·rename_i ka off bz
   split at he
   ·rename_i vq
    split at he
    ·rename_i ds
     split at he
     ·rename_i d ai
      split at he
      ·rename_i p5
       simp only [Option.some.injEq] at he; subst he
       have mB := (aI.cJ rfl).1 aK
       rw [ay] at mB
       obtain ⟨ab, b, o, eu, af, ag, aF, a_⟩ := mB
       rw [hj ab] at af
       simp only [List.cons.injEq, and_true] at af; subst af
       rw [ay] at a_
       obtain ⟨cv, gn, cw, cc, h7, rfl, hW, fD, hr, h8, gz, my⟩ := bf.pick ds _ _ k d a_ ai
       refine Good.same h (Fj bp ar bz vq.1 vq.2 b o w) rfl ((aI.cJ rfl).2 ⟨rfl, ?_⟩)
       rw [ay]
       refine ⟨b, o + off, gn, rfl, ag, ?_, ay.mono (fun _ h => h) _ _ _ _ (fun b aa => hr b aa) gz⟩
       rw [← p5, ← hW]; exact aF.Fi
      ·cases he
     ·cases he
    ·rename_i y o
     split at he
     ·cases he
     ·rename_i aw
      simp only [Option.some.injEq] at he; subst he
      rw [aI] at aK
      obtain ⟨b, cur, e, fr, rfl, ag, aF, a_⟩ := aK (by simpa using aw)
      refine Good.same h (Fj bp ar bz vq.1 vq.2 b o w) rfl ?_
      rw [aI]
      exact fun _ => ⟨b, cur, e, fr, rfl, ag, aF, a_⟩
    ·rename_i x _ _
     split at he
     ·rename_i y q hl
      split at he
      ·rename_i ds ai
       split at he
       ·rename_i p5
        simp only [Option.some.injEq] at he; subst he
        obtain ⟨ao, cM, b, o, rfl, k2⟩ := Fh h aK hl ai
        refine Good.same h (Fj bp ar bz vq.1 vq.2 b o w) rfl ?_
        rw [aI]
        intro d2 gZ kb
        rw [x0 w q _ _ _ _ _ _ [k] k2]
        rw [xZ _ _ _ _ ai] at gZ
        have pe : ∃ d3, ds[k]? = some d3 := ⟨_, List.getElem?_eq_getElem p5.1⟩
        obtain ⟨d3, x3⟩ := pe
        simp only [I.sub, x3, Option.some.injEq] at gZ
        subst gZ
        simp only [dn, x3]
        refine ⟨(cM.drop off).take d3.wd, b, o + off, ?_, rfl⟩
        rw [p5.2]; rfl
       ·cases he
      ·cases he
     ·cases he
   ·cases he
  ·cases he
 ·cases he
def eX (C : b4) (s : al) (T : TypeId) (x i : I) : Option I :=
 match (C.T T).k, i with
 | .slice e, .int _ n => if 0 ≤ n ∧ (C.T e).ok = true then
   match x with
   | .slice xs => match xs[n.toNat]? with
     | some d => if d.wd = (C.T e).sz then some (.ref d) else none
     | none => none
   | .h y q => match I.sub q (s y) with
     | some (.au sz xs) => if n.toNat < xs.length ∧ sz = (C.T e).sz then some (.aw y (q ++ [n.toNat])) else none
     | _ => none
   | _ => none
   else none
 | _, _ => none
theorem JT (bp : C.eP) {T e : TypeId} (ar : (C.T T).k = .slice e) (he : (C.T e).ok = true) (b o len cap : Nat) (k : IntKind) (n : Nat) (bc : n < len) (w : World) :
  (Instr.indexAt T (.slice (some ⟨b, o, none⟩) len cap) (.int k n)).run C.P w = .ok (.pointer (some ⟨b, o + n * (C.T e).sz, none⟩)) w := by
 obtain ⟨i, d, z, aN, aZ, aT, b2, cI, bZ, bO⟩ := bp.info (gq ar (by simp))
 rw [ar] at bO
 have := lR bO; subst this
 obtain ⟨q2, bx, q3, f1, f2, f3, f4, f5, f6, f7⟩ := bp.info he
 simp [Instr.indexAt, run_underlying bZ, asIntOf, bc, kp f1, f2, Addr.add_lit]
theorem RV (bp : C.eP) (h : bM w0 F0 X F S s aB w) {T : TypeId} {x i : I} {v n_ : Value} (aK : aI w F s aB x v (fun _ => False)) (RW : aI w F s aB i n_ (fun _ => False))
  (he : eX C s T x i = some av) : Good C w0 F0 X aB w (Instr.indexAt T v n_) av s := by
 unfold eX at he
 split at he
 ·rename_i e k n ar
  have Fk := (aI.cJ rfl).1 RW
  rw [ay, hj Fk.1] at Fk
  have : n_ = .int k n := by simpa using Fk.2
  subst this
  split at he
  ·rename_i bc
   obtain ⟨n, rfl⟩ := Int.eq_ofNat_of_zero_le bc.1
   simp only [Int.toNat_natCast] at he
   split at he
   ·rename_i xs
    split at he
    ·rename_i d ai
     split at he
     ·rename_i hw
      simp only [Option.some.injEq] at he; subst he
      have mB := (aI.cJ rfl).1 aK
      rw [ay, hj mB.1] at mB
      obtain ⟨ab, ⟨rfl, _⟩ | ⟨b, o, cap, eu, sz, af, ag, aF, a_, bI, cK, cH⟩⟩ := mB
      ·simp at ai
      ·simp only [List.cons.injEq, and_true] at af; subst af
       have dZ : n < xs.length := (List.getElem?_eq_some_iff.1 ai).1
       obtain ⟨cv, gn, cw, cc, h7, rfl, hW, fD, hr, h8, gz, my⟩ := bf.pick xs _ _ n d cH ai
       refine Good.same h (JT bp ar bc.2 b o _ _ k n dZ w) rfl ((aI.cJ rfl).2 ⟨rfl, ?_⟩)
       rw [ay]
       refine ⟨b, _, gn, rfl, ag, ?_, ay.mono (fun _ h => h) _ _ _ _ (fun b aa => hr b aa) gz⟩
       have RX := bI d (List.mem_of_getElem? ai)
       have : n * (C.T e).sz = cv.length := by
        rw [hW, tc _ (fun d ai => bI d (List.mem_of_mem_take ai)), List.length_take, Nat.min_eq_left (by omega), ← hw, RX]
       rw [this]; exact cK.Fi
     ·cases he
    ·cases he
   ·rename_i y q
    split at he
    ·rename_i sz xs ai
     split at he
     ·rename_i hw
      simp only [Option.some.injEq] at he; subst he
      rw [aI] at aK
      obtain ⟨cM, a, g1, g2, g3⟩ := aK _ ai rfl
      have ab : Value.gJ v = true := g3
      rw [hj ab] at g2; subst g2
      have aq := h.dp y
      rw [aI.cJ (h9 ai (.inl rfl))] at aq
      obtain ⟨gp, cN, en, fq, k0, bt, b0, dK, de, dI⟩ := ctx q (s y) (cp (aB y)) (S y) none _ aq.2 ai
      rw [k0] at g1
      simp only [Option.some.injEq, Prod.mk.injEq, true_and] at g1
      obtain ⟨rfl, rfl⟩ := g1
      rw [ay] at de
      rcases de with ⟨rfl, _⟩ | ⟨b, cap, cur, aZ, fr, dB, aT, _⟩
      ·simp at hw
      ·simp only [List.cons.injEq, and_true] at aT; subst aT
       refine Good.same h (JT bp ar bc.2 b 0 _ _ k n hw.1 w) rfl ?_
       rw [aI]
       intro d2 gZ _
       rw [x0 w q _ _ _ _ _ _ [n] k0]
       rw [xZ _ _ _ _ ai] at gZ
       obtain ⟨d3, x3⟩ : ∃ d3, xs[n]? = some d3 := ⟨_, List.getElem?_eq_getElem hw.1⟩
       simp only [I.sub, x3, Option.some.injEq] at gZ
       subst gZ
       simp only [dn, x3]
       exact ⟨_, b, n * sz, rfl, by simp [hw.2]⟩
     ·cases he
    ·cases he
   ·cases he
  ·cases he
 ·cases he
end
section
variable {C : b4} {w0 w : World} {F0 X F : Nat → Prop} {S : Nat → Nat → Prop} {s s1 : al} {aB : Nat → Value} {av : I}
theorem JU (bp : C.eP) {T : TypeId} {ax : List (TypeId × Nat)} (ar : (C.T T).k = .struct ax) (w : World) : (isAgg T).run C.P w = .ok true w := by
 obtain ⟨i, d, z, aN, aZ, aT, b2, cI, bZ, bO⟩ := bp.info (gq ar (by simp))
 rw [ar] at bO
 obtain ⟨gs, rfl, _⟩ := x1 bO
 simp [isAgg, run_underlying bZ]
def gK.flat (x : gK) : Bool := match x.k with
 | .other => false
 | .ev _ => false
 | .struct _ => false
 | _ => true
theorem JV {x : gK} (h : x.flat = true) : x.ok = true := by
 unfold gK.flat at h; unfold gK.ok; revert h; cases x.k <;> simp
theorem Fl (bp : C.eP) {T : TypeId} (ar : (C.T T).flat = true) (w : World) : (isAgg T).run C.P w = .ok false w := by
 obtain ⟨i, d, z, aN, aZ, aT, b2, cI, bZ, bO⟩ := bp.info (JV ar)
 have dC : (∀ ax, d ≠ .struct ax) ∧ (∀ n e, d ≠ .array n e) := by
  clear bZ
  unfold gK.flat at ar
  generalize (C.T T).k = mC at *
  cases mC <;> cases d <;> simp [lP] at bO ar ⊢
 cases d <;> first | exact (dC.1 _ rfl).elim | exact (dC.2 _ _ rfl).elim | simp [isAgg, run_underlying bZ]
theorem h5.one {w : World} {b o : Nat} {v : Value} (h : h5 w b o [v]) : w.cell? ⟨b, o, none⟩ = some v := by simpa using h 0 v rfl
theorem JW {P : Program} {b o : Nat} : ∀ (cs : List Value) (i : Nat) (acc : Array Value), h5 w b (o + i) cs → (loadCellsFrom ⟨b, o, none⟩ i cs.length acc).run P w = .ok (acc ++ cs.toArray) w
 | [], i, acc, _ => by simp [loadCellsFrom]
 | c :: cs, i, acc, h => by
   have bn : w.cell? ⟨b, o + i, none⟩ = some c := by simpa using h 0 c rfl
   have af : h5 w b (o + (i + 1)) cs := by
    intro j x bw
    have := h (j + 1) x (by simpa using bw)
    rw [← this]; congr 2; omega
   have ih := JW (P := P) cs (i + 1) (acc.push c) af
   simp only [List.length_cons, loadCellsFrom, Sem.run_bind, Go.load, Sem.run, Addr.add_lit, bn, Result.andThen]
   rw [ih]; simp
theorem RY (bp : C.eP) {T : TypeId} {ax : List (TypeId × Nat)} (ar : (C.T T).k = .struct ax) {b o : Nat} {cs : List Value} (h : h5 w b o cs) (hl : cs.length = (C.T T).sz) :
  (loadVar T ⟨b, o, none⟩).run C.P w = .ok (.agg cs.toArray) w := by
 obtain ⟨i, d, z, aN, aZ, aT, b2, cI, bZ, bO⟩ := bp.info (gq ar (by simp))
 have := JW (P := C.P) (b := b) (o := o) cs 0 #[] (by simpa using h)
 simp only [loadVar, Sem.run_bind, JU bp ar, Result.andThen, if_true, kp aN, aZ, ← hl, loadCells, this]
 simp
theorem JX (bp : C.eP) {T : TypeId} (ar : (C.T T).flat = true) {b o : Nat} {v : Value} (h : h5 w b o [v]) :
  (loadVar T ⟨b, o, none⟩).run C.P w = .ok v w := by
 simp [loadVar, Fl bp ar, Go.load, Sem.run, h.one]
def fits (C : b4) (T : TypeId) (d : I) : Bool := match (C.T T).k, d with
    | .struct _, .agg ds => I.ee ds == (C.T T).sz
    | .struct _, _ => false
    | _, .agg _ => false
    | _, .tuple _ => false
    | _, _ => (C.T T).flat
def AZ : List I → Nat → Nat → Option Nat
 | [], _, _ => none
 | d :: ds, i, k => if k = 0 then some i else if d.wd ≤ k then AZ ds (i + 1) (k - d.wd) else none
def cS (C : b4) (s : al) (T : TypeId) (x : I) : Option I :=
 match x with
 | .ref d => if fits C T d = true then some d else none
 | .aa y k => match s y with
   | .agg ds => if I.e1 ds then none else match AZ ds 0 k with
     | some i => match ds[i]? with
       | some d => if I.ee (ds.take i) = k ∧ fits C T d = true then some (if d.plain then d else .h y [i]) else none
       | none => none
     | none => none
   | _ => none
 | x => match loc s x with
   | some (y, q) => match I.sub q (s y) with
     | some d => if fits C T d = true then some (if d.plain then d else .h y q) else none
     | none => none
   | none => none
theorem ay.one {F : Nat → Prop} {d : I} {cs : List Value} {S : Nat → Prop} (h : ay w F d cs S) (af : ∀ ax, d ≠ .agg ax) (ag : ∀ ax, d ≠ .tuple ax) : ∃ v, cs = [v] ∧ Value.gJ v = true := by
 cases d with
 | hole => rw [ay] at h; obtain ⟨v, h, rfl⟩ := h; exact ⟨v, rfl, h⟩
 | eT => rw [ay] at h; obtain ⟨v, rfl⟩ := h; exact ⟨_, rfl, rfl⟩
 | slice xs => rw [ay] at h; rcases h with ⟨_, a, c, rfl, _⟩ | ⟨b, o, cap, eu, sz, rfl, _⟩ <;> exact ⟨_, rfl, rfl⟩
 | au sz xs => rw [ay] at h; rcases h with ⟨_, _, rfl⟩ | ⟨b, cap, cur, e, fr, dS, rfl, _⟩ <;> exact ⟨_, rfl, rfl⟩
 | ref d => rw [ay] at h; obtain ⟨b, o, eu, rfl, _⟩ := h; exact ⟨_, rfl, rfl⟩
 | aU d => rw [ay] at h; obtain ⟨b, cur, e, fr, dS, rfl, _⟩ := h; exact ⟨_, rfl, rfl⟩
 | agg ax => exact (af _ rfl).elim
 | tuple ax => exact (ag _ rfl).elim
 | fn _ _ => rw [ay] at h; obtain ⟨arr, rfl, _⟩ := h; exact ⟨_, rfl, rfl⟩
 | h _ _ => rw [ay] at h; exact h.elim
 | aw _ _ => rw [ay] at h; exact h.elim
 | aa _ _ => rw [ay] at h; exact h.elim
 | ct _ => rw [ay] at h; obtain ⟨v, hq, rfl⟩ := ma.one h; exact ⟨v, rfl, hq⟩
 | _ => rw [ay] at h; subst h; exact ⟨_, rfl, rfl⟩
theorem I.A0 {d : I} (h : d.single = true) : (∀ ax, d ≠ .agg ax) ∧ ∀ ax, d ≠ .tuple ax :=
 ⟨fun ax e => (by subst e; cases h), fun ax e => (by subst e; cases h)⟩
theorem aI.pf {F : Nat → Prop} {s : al} {aB : Nat → Value} {d : I} {v : Value} (a1 : d.tree = true) (ab : d.single = true) (h : ay w F d [v] (fun _ => False)) : aI w F s aB d v (fun _ => False) := by
 obtain ⟨gB, e, af⟩ := ay.one h (I.A0 ab).1 (I.A0 ab).2
 have : v = gB := by simpa using e
 subst this
 refine (aI.cJ a1).2 ⟨?_, by rw [hj af]; exact h⟩
 cases d <;> first | exact af | cases ab
mutual
theorem aI.p6 {F : Nat → Prop} {s : al} {aB : Nat → Value} : ∀ (d : I) (v : Value), d.single = true → ay w F d [v] (fun _ => False) → aI w F s aB d v (fun _ => False)
 | .fn f caps, v, _, h => by
   rw [ay] at h
   obtain ⟨arr, af, ag, aF⟩ := h
   rw [aI]
   exact ⟨arr, by simpa using af, ef.p6 caps _ ag aF⟩
 | .bool b, v, ab, h => aI.pf rfl ab h
 | .eT, v, ab, h => aI.pf rfl ab h
 | .int k n, v, ab, h => aI.pf rfl ab h
 | .str x, v, ab, h => aI.pf rfl ab h
 | .da, v, ab, h => aI.pf rfl ab h
 | .bo, v, ab, h => aI.pf rfl ab h
 | .slice xs, v, ab, h => aI.pf rfl ab h
 | .au sz xs, v, ab, h => aI.pf rfl ab h
 | .ref d, v, ab, h => aI.pf rfl ab h
 | .aU d, v, ab, h => aI.pf rfl ab h
 | .h _ _, v, _, h => by rw [ay] at h; exact h.elim
 | .aw _ _, v, _, h => by rw [ay] at h; exact h.elim
 | .aa _ _, v, _, h => by rw [ay] at h; exact h.elim
 | .ct _, v, ab, h => aI.pf rfl ab h
theorem ef.p6 {F : Nat → Prop} {s : al} {aB : Nat → Value} : ∀ (ds : List I) (vs : List Value), (∀ d ∈ ds, d.single = true) → bf w F ds vs (fun _ => False) → ef w F s aB ds vs
 | [], vs, _, h => by rw [bf] at h; rw [ef]; exact h
 | d :: ds, vs, ab, h => by
   rw [bf] at h
   obtain ⟨cv, cw, cc, dB, rfl, ag, aF, a_, bI, _⟩ := h
   have ai := ab d (by simp)
   obtain ⟨v, rfl, _⟩ := ay.one ag (I.A0 ai).1 (I.A0 ai).2
   rw [ef]
   exact ⟨v, cw, rfl, aI.p6 d v ai (ay.mono (fun _ h => h) _ _ _ _ (fun b aa => a_ b aa) ag), ef.p6 ds cw (fun x aq => ab x (by simp [aq])) (bf.mono (fun _ h => h) _ _ _ _ (fun b aa => bI b aa) aF)⟩
end
theorem A1 (bp : C.eP) {T : TypeId} {d : I} {b o : Nat} {cs : List Value} {S : Nat → Prop} (h : h5 w b o cs) (ai : ay w F d cs S)
  (ir : fits C T d = true) :
  ∃ v, (loadVar T ⟨b, o, none⟩).run C.P w = .ok v w ∧ cp v = cs ∧ dT d v := by
 unfold fits at ir
 by_cases ab : ∃ ax, (C.T T).k = .struct ax
 ·obtain ⟨ax, ar⟩ := ab
  rw [ar] at ir
  cases d with
  | agg ds =>
    simp only [beq_iff_eq] at ir
    refine ⟨_, RY bp ar h ((ay.length _ _ _ ai).trans ir), rfl, ⟨_, rfl⟩⟩
  | _ => simp at ir
 ·have iu : (C.T T).flat = true ∧ (∀ ax, d ≠ .agg ax) ∧ (∀ ax, d ≠ .tuple ax) := by
   revert ir ab
   cases ar : (C.T T).k <;> cases d <;> simp
  obtain ⟨v, rfl, af⟩ := ay.one ai iu.2.1 iu.2.2
  refine ⟨v, JX bp iu.1 h, hj af, ?_⟩
  cases d <;> first | exact af | exact (iu.2.1 _ rfl).elim | exact (iu.2.2 _ rfl).elim
theorem RZ (bp : C.eP) {T : TypeId} {d : I} {off : Nat} {arr : Array Value} {cv cs cw : List Value} {S : Nat → Prop} (he : arr.toList = cv ++ (cs ++ cw)) (bJ : cv.length = off) (ai : ay w F d cs S)
  (ir : fits C T d = true) :
  ∃ v, (part T arr off).run C.P w = .ok v w ∧ cp v = cs ∧ dT d v := by
 unfold fits at ir
 by_cases ab : ∃ ax, (C.T T).k = .struct ax
 ·obtain ⟨ax, ar⟩ := ab
  rw [ar] at ir
  cases d with
  | agg ds =>
    simp only [beq_iff_eq] at ir
    obtain ⟨i, d, z, aN, aZ, aT, b2, cI, bZ, bO⟩ := bp.info (gq ar (by simp))
    have hl : cs.length = (C.T T).sz := (ay.length _ _ _ ai).trans ir
    have aq : (arr.extract off (off + (C.T T).sz)).toList = cs := by
     rw [Array.toList_extract, he, List.extract_eq_take_drop, ← hl, ← bJ, Nat.add_sub_cancel_left, List.drop_left, List.take_left]
    refine ⟨.agg (arr.extract off (off + (C.T T).sz)), ?_, by simpa [cp, iG] using aq, ⟨_, rfl⟩⟩
    simp [part, JU bp ar, kp aN, aZ]
  | _ => simp at ir
 ·have iu : (C.T T).flat = true ∧ (∀ ax, d ≠ .agg ax) ∧ (∀ ax, d ≠ .tuple ax) := by
   revert ir ab
   cases ar : (C.T T).k <;> cases d <;> simp
  obtain ⟨v, rfl, af⟩ := ay.one ai iu.2.1 iu.2.2
  have bA : arr[off]? = some v := by
   rw [← Array.getElem?_toList, he, ← bJ, List.getElem?_append_right (Nat.le_refl _)]; simp
  refine ⟨v, ?_, hj af, ?_⟩
  ·simp [part, Fl bp iu.1, bA]
  ·cases d <;> first | exact af | exact (iu.2.1 _ rfl).elim | exact (iu.2.2 _ rfl).elim
theorem R0 (bp : C.eP) (h : bM w0 F0 X F S s aB w) {T : TypeId} {x : I} {v : Value} (aK : aI w F s aB x v (fun _ => False)) (he : cS C s T x = some av) :
  Good C w0 F0 X aB w (Instr.loadAt T v) av s := by
 unfold cS at he
 split at he
 ·rename_i d
  split at he
  ·rename_i ir
   simp only [Option.some.injEq] at he; subst he
   have mB := (aI.cJ rfl).1 aK
   rw [ay, hj mB.1] at mB
   obtain ⟨ab, b, o, eu, af, ag, aF, a_⟩ := mB
   simp only [List.cons.injEq, and_true] at af; subst af
   obtain ⟨gB, aW, ao, nb⟩ := A1 bp aF a_ ir
   have ez : (Instr.loadAt T (.pointer (some ⟨b, o, none⟩))).run C.P w = .ok gB w := by simp [Instr.loadAt, Instr.sureAddr, aW]
   refine ⟨gB, w, F, S, ez, h, ?_⟩
   by_cases a1 : d.tree = true
   ·exact .inr ⟨a1, nb, fun _ => False, by rw [ao]; exact a_, fun _ h => h.elim, fun _ h => h.elim, fun _ _ h => h.elim, fun _ h => h.elim⟩
   ·cases d <;> first | exact (a1 rfl).elim | (rw [ay] at a_; exact a_.elim) | exact .inl ⟨rfl, by rw [aI]; trivial⟩ | (have bI := a_; rw [ay] at bI; obtain ⟨arr, e, _⟩ := bI; rw [← ao] at e a_; rw [hj (by exact nb)] at a_; exact .inl ⟨rfl, aI.p6 _ _ rfl a_⟩)
  ·cases he
 ·rename_i y k
  split at he
  ·rename_i ds nD
   split at he
   ·cases he
   ·rename_i x4
    split at he
    ·rename_i i an
     split at he
     ·rename_i d ai
      split at he
      ·rename_i ir
       simp only [Option.some.injEq] at he
       have eK : (s y).plain = false := by rw [nD]; simp only [I.plain]; simpa using x4
       rw [aI] at aK
       obtain ⟨b, cur, e, fr, rfl, ag, aF, a_⟩ := aK eK
       have hy := h.dp y
       rw [nD] at hy
       have JY := ((aI.cJ rfl).1 hy).2
       rw [ay] at JY
       obtain ⟨cv, gn, cw, cc, h7, iI, hW, fD, hr, h8, gz, my⟩ := bf.pick ds _ _ i d JY ai
       have kn : h5 w b k gn := by
        intro j c bw
        have dZ : j < gn.length := (List.getElem?_eq_some_iff.1 bw).1
        have : cur.toList[k + j]? = some c := by
         rw [a_, iI, List.getElem?_append_right (by omega), List.getElem?_append_left (by omega), ← bw]; congr 1; omega
        simp [World.cell?, aF]
        simpa using this
       obtain ⟨gB, aW, ao, nb⟩ := A1 bp kn gz ir.2
       have ez : (Instr.loadAt T (.pointer (some ⟨b, k, none⟩))).run C.P w = .ok gB w := by simp [Instr.loadAt, Instr.sureAddr, aW]
       refine ⟨gB, w, F, S, ez, h, ?_⟩
       split at he
       ·rename_i aw
        subst he
        by_cases a1 : d.tree = true
        ·exact .inl ⟨aw, (aI.cJ a1).2 ⟨nb, by rw [ao]; exact ay.plain _ _ _ _ aw gz⟩⟩
        ·cases d <;> first | exact (a1 rfl).elim | (rw [ay] at gz; exact gz.elim) | exact .inl ⟨rfl, by rw [aI]; trivial⟩ | (have bI := ay.plain _ _ _ (fun _ => False) aw gz; rw [← ao] at bI; rw [hj (by exact nb)] at bI; exact .inl ⟨rfl, aI.p6 _ _ rfl bI⟩)
       ·subst he
        refine .inl ⟨rfl, ?_⟩
        rw [aI]
        intro d2 gZ _
        rw [nD] at gZ ⊢
        simp only [I.sub, ai, Option.some.injEq] at gZ
        subst gZ
        refine ⟨gn, none, ?_, ao, nb⟩
        simp only [dn, ai]
        rw [iI, ta cv gn cw _ _ hW (ay.length _ _ _ gz)]
        rfl
      ·cases he
     ·cases he
    ·cases he
  ·cases he
 ·rename_i x _ _
  split at he
  ·rename_i y q hl
   split at he
   ·rename_i d ai
    split at he
    ·rename_i ir
     simp only [Option.some.injEq] at he
     obtain ⟨pg, cM, b, o, rfl, k2⟩ := Fh h aK hl ai
     have hy := h.dp y
     rw [aI.cJ (h9 ai (.inr pg))] at hy
     obtain ⟨gp, cN, en, fq, k0, bt, b0, dK, de, dI⟩ := ctx q (s y) (cp (aB y)) (S y) none _ hy.2 ai
     rw [k0] at k2
     simp only [Option.some.injEq, Prod.mk.injEq, true_and] at k2
     obtain ⟨rfl, rfl⟩ := k2
     have kn : h5 w b o gp := by
      rcases dI with ⟨l, r, aN, aZ, _⟩ | ⟨fX, cur, e, fr, l, r, aN, aZ, aT, b2, cI, _⟩
      ·simp at aZ
      ·simp only [Option.some.injEq, Prod.mk.injEq] at aN
       obtain ⟨rfl, rfl⟩ := aN
       intro j c bw
       have dZ : j < gp.length := (List.getElem?_eq_some_iff.1 bw).1
       have : cur.toList[l.length + j]? = some c := by
        rw [cI, List.getElem?_append_right (by omega), List.getElem?_append_left (by omega), ← bw]; congr 1; omega
       simp [World.cell?, aT]
       simpa using this
     obtain ⟨gB, aW, ao, nb⟩ := A1 bp kn de ir
     have ez : (Instr.loadAt T (.pointer (some ⟨b, o, none⟩))).run C.P w = .ok gB w := by simp [Instr.loadAt, Instr.sureAddr, aW]
     refine ⟨gB, w, F, S, ez, h, ?_⟩
     split at he
     ·rename_i aw
      subst he
      by_cases a1 : d.tree = true
      ·exact .inl ⟨aw, (aI.cJ a1).2 ⟨nb, by rw [ao]; exact ay.plain _ _ _ _ aw de⟩⟩
      ·cases d <;> first | exact (a1 rfl).elim | (rw [ay] at de; exact de.elim) | exact .inl ⟨rfl, by rw [aI]; trivial⟩ | (have bI := ay.plain _ _ _ (fun _ => False) aw de; rw [← ao] at bI; rw [hj (by exact nb)] at bI; exact .inl ⟨rfl, aI.p6 _ _ rfl bI⟩)
     ·subst he
      refine .inl ⟨rfl, ?_⟩
      rw [aI]
      intro d2 gZ _
      rw [ai] at gZ
      simp only [Option.some.injEq] at gZ
      subst gZ
      exact ⟨_, _, k0, ao, nb⟩
    ·cases he
   ·cases he
  ·cases he
mutual
theorem ay.ti {F : Nat → Prop} : ∀ (d : I) (cs : List Value) (S : Nat → Prop), ay w F d cs S → ∀ c ∈ cs, Value.gJ c = true
 | .hole, cs, S, h => by rw [ay] at h; obtain ⟨v, h, rfl⟩ := h; simpa using h
 | .bool _, cs, S, h => by rw [ay] at h; subst h; simp [Value.gJ]
 | .eT, cs, S, h => by rw [ay] at h; obtain ⟨b, rfl⟩ := h; simp [Value.gJ]
 | .int _ _, cs, S, h => by rw [ay] at h; subst h; simp [Value.gJ]
 | .str _, cs, S, h => by rw [ay] at h; subst h; simp [Value.gJ]
 | .da, cs, S, h => by rw [ay] at h; subst h; simp [Value.gJ]
 | .bo, cs, S, h => by rw [ay] at h; subst h; simp [Value.gJ]
 | .slice xs, cs, S, h => by
   rw [ay] at h
   rcases h with ⟨_, a, c, rfl, _⟩ | ⟨b, o, cap, eu, sz, rfl, _⟩ <;> simp [Value.gJ]
 | .au sz xs, cs, S, h => by
   rw [ay] at h
   rcases h with ⟨_, _, rfl⟩ | ⟨b, cap, cur, e, fr, aR, rfl, _⟩ <;> simp [Value.gJ]
 | .ref d, cs, S, h => by rw [ay] at h; obtain ⟨b, o, eu, rfl, _⟩ := h; simp [Value.gJ]
 | .aU d, cs, S, h => by rw [ay] at h; obtain ⟨b, o, eu, _, _, rfl, _⟩ := h; simp [Value.gJ]
 | .agg ax, cs, S, h => by rw [ay] at h; exact bf.ti ax _ _ h
 | .tuple ax, cs, S, h => by rw [ay] at h; exact bf.ti ax _ _ h
 | .fn _ _, cs, S, h => by rw [ay] at h; obtain ⟨arr, rfl, _⟩ := h; simp [Value.gJ]
 | .h _ _, cs, S, h => by rw [ay] at h; exact h.elim
 | .aw _ _, cs, S, h => by rw [ay] at h; exact h.elim
 | .aa _ _, cs, S, h => by rw [ay] at h; exact h.elim
 | .ct _, cs, S, h => by rw [ay] at h; obtain ⟨v, hq, rfl⟩ := ma.one h; simpa using hq
theorem bf.ti {F : Nat → Prop} : ∀ (ds : List I) (cs : List Value) (S : Nat → Prop), bf w F ds cs S → ∀ c ∈ cs, Value.gJ c = true
 | [], cs, S, h => by rw [bf] at h; subst h; simp
 | d :: ds, cs, S, h => by
   rw [bf] at h
   obtain ⟨cv, cw, cc, dB, rfl, ag, aF, _⟩ := h
   intro c ao
   rcases List.mem_append.1 ao with ao | ao
   ·exact ay.ti d _ _ ag c ao
   ·exact bf.ti ds _ _ aF c ao
end
theorem A2 {P : Program} {b o : Nat} {e : TypeId} {fr : Nat × Nat} : ∀ (vs : List Value) (i : Nat) (cur : Array Value) (w : World) (l m r : List Value), w.heap[b]? = some (.cells cur e fr) → rV fr cur.size →
  cur.toList = l ++ (m ++ r) → l.length = o + i → m.length = vs.length → (∀ v ∈ vs, Value.gJ v = true) →
  ∃ aL, (storeCells ⟨b, o, none⟩ vs i).run P w = .ok () aL ∧ aL.heap[b]? = some (.cells (l ++ (vs ++ r)).toArray e fr) ∧ (∀ c, c ≠ b → aL.heap[c]? = w.heap[c]?) ∧ aL.heap.size = w.heap.size ∧ aL.os = w.os ∧ aL.tape = w.tape ∧ aL.output = w.output
 | [], i, cur, w, l, m, r, aa, bz, ao, hl, hm, _ => by
   refine ⟨w, rfl, ?_, fun _ _ => rfl, rfl, rfl, rfl, rfl⟩
   have : m = [] := by simpa using hm
   subst this
   rw [aa]
   have : cur = (l ++ ([] ++ r)).toArray := by rw [← ao]
   rw [← this]
 | v :: vs, i, cur, w, l, m, r, aa, bz, ao, hl, hm, A3 => by
   obtain ⟨x, m, rfl⟩ : ∃ x js, m = x :: js := by cases m with
    | nil => simp at hm
    | cons x m => exact ⟨x, m, rfl⟩
   have hlen : cur.size = (l ++ (x :: m ++ r)).length := by rw [← ao]; simp
   have dZ : o + i < cur.size := by rw [hlen]; simp; omega
   have A4 : w.cell? ⟨b, o + i, none⟩ = some cur[o + i] := by simp [World.cell?, aa, dZ]
   have R1 : w.frozen? ⟨b, o + i, none⟩ = false := by
    have := bz (o + i) dZ
    simp only [World.frozen?, aa]
    simp only [Bool.and_eq_false_iff, decide_eq_false_iff_not]
    by_cases af : fr.1 ≤ o + i
    ·right; exact fun ag => this ⟨af, ag⟩
    ·left; exact af
   have r1 : (w.setCell ⟨b, o + i, none⟩ v).heap[b]? = some (.cells ((l ++ [v]) ++ (m ++ r)).toArray e fr) := by
    simp only [World.setCell, Array.getElem?_modify, if_true, aa, Option.map_some, Option.isSome_none, Bool.false_eq_true, if_false]
    congr 2
    apply Array.ext'
    rw [Array.toList_setIfInBounds, ao, ← hl, List.set_append_right _ _ (Nat.le_refl _)]
    simp
   have tj : (store ((⟨b, o, none⟩ : Addr).add i) v).run P w = .ok () (w.setCell ⟨b, o + i, none⟩ v) := by
    have af := A3 v (by simp)
    rw [Addr.add_lit]
    cases v <;> first | (simp [Value.gJ] at af; done) | simp [Go.store, Sem.run, A4, R1]
   obtain ⟨aL, g1, g2, g3, g4, g5, g6, g7⟩ := A2 (P := P) (b := b) (o := o) vs (i + 1) _ (w.setCell ⟨b, o + i, none⟩ v) (l ++ [v]) m r r1 (by
    have : (l ++ [v] ++ (m ++ r)).toArray.size = cur.size := by rw [hlen]; simp
    rw [this]; exact bz) (by simp) (by simp; omega) (by simpa using hm) (fun u hu => A3 u (by simp [hu]))
   refine ⟨aL, ?_, by simpa using g2, fun c ao => ?_, ?_, g5, g6, g7⟩
   ·simp only [storeCells, Sem.run_bind, tj, Result.andThen]; exact g1
   ·rw [g3 c ao]
    simp only [World.setCell, Array.getElem?_modify]
    rw [if_neg (fun e => ao e.symm)]
   ·rw [g4]; simp [World.setCell]
theorem x5 {d : I} {v : Value} (h : dT d v) (ai : ∀ ax, d ≠ .tuple ax) : v.cells = (cp v).toArray := by
 cases d with
 | tuple ax => exact (ai _ rfl).elim
 | agg ax => obtain ⟨arr, rfl⟩ := h; simp [Value.cells, cp, iG]
 | _ =>
   have af : Value.gJ v = true := h
   rw [hj af]
   cases v <;> first | rfl | (simp [Value.gJ] at af)
def gr (C : b4) (s : al) (T : TypeId) (x y : I) : Option al :=
 match cO s y, loc s x with
 | some (d, s1), some (z, q) => match d with
   | .tuple _ => none
   | d => match I.sub q (s z) with
     | some d0 => if d.wd = d0.wd ∧ d.wd = (C.T T).sz ∧ (C.T T).ok = true ∧ y.owner ≠ some z then some (db (hX z s1) z (I.put q d (s z))) else none
     | none => none
 | _, _ => none
theorem R2 {s s1 : al} {y d : I} {z : Nat} (h : cO s y = some (d, s1)) (bS : (s z).tree = true) (hy : y.owner ≠ some z) : s1 z = s z := by
 cases y with
 | h x q =>
   simp only [cO] at h
   split at h
   ·split at h
    ·cases h
    ·simp only [Option.some.injEq, Prod.mk.injEq] at h
     obtain ⟨_, rfl⟩ := h
     rw [jD _ _ (fun e => hy (by rw [I.owner, e]))]
     exact E8 bS
   ·cases h
 | aw x q => simp [cO] at h
 | aa x q => simp [cO] at h
 | fn f c => simp [cO] at h
 | hole => simp [cO] at h
 | _ => simp only [cO, Option.some.injEq, Prod.mk.injEq] at h; rw [h.2]
theorem R3 (bp : C.eP) (h : bM w0 F0 X F S s aB w) {T : TypeId} {x y : I} {h_ jf : Value} (Fm : aI w F s aB x h_ (fun _ => False)) (hy : y.plain = true) (R4 : aI w F s aB y jf (fun _ => False))
  {s2 : al} (he : gr C s T x y = some s2) :
  ∃ aL aR, (Instr.storeAt T h_ jf).run C.P w = .ok () aL ∧ bM w0 F0 X F aR s2 aB aL := by
 unfold gr at he
 split at he
 ·rename_i d s1 z q a1 hl
  have key : ∀ d : I, (∀ ax, d ≠ .tuple ax) → cO s y = some (d, s1) → (match I.sub q (s z) with
   | some d0 => if d.wd = d0.wd ∧ d.wd = (C.T T).sz ∧ (C.T T).ok = true ∧ y.owner ≠ some z then some (db (hX z s1) z (I.put q d (s z))) else none
   | none => none) = some s2 → ∃ aL aR, (Instr.storeAt T h_ jf).run C.P w = .ok () aL ∧ bM w0 F0 X F aR s2 aB aL := by
   intro d q4 a1 he
   split at he
   ·rename_i d0 lo
    split at he
    ·rename_i tk
     obtain ⟨af, ag, aF, a_⟩ := tk
     simp only [Option.some.injEq] at he; subst he
     obtain ⟨pg, cM, b, o, rfl, k2⟩ := Fh h Fm hl lo
     obtain ⟨cc, g0, g1, g2, Sn, g3, g4, g5, g6, g7, g8⟩ := pd h hy R4 a1
     have d_ : s1 z = s z := R2 a1 (h9 lo (.inr pg)) a_
     rw [← d_] at lo pg k2 ⊢
     obtain ⟨gp, fX, l, r, cur, e, fr, k0, bt, b0, dK, de⟩ := g0.store lo pg g3 af g4 g5 g6 g7
     rw [k2] at k0
     simp only [Option.some.injEq, Prod.mk.injEq, true_and] at k0
     obtain ⟨rfl, rfl, rfl⟩ := k0
     obtain ⟨i, d, q3, aN, aZ, aT, b2, cI, bZ, bO⟩ := bp.info aF
     have hlen := ay.length _ _ _ g3
     have hm : cM.length = (cp jf).length := by
      have JZ := g0.dp z
      rw [aI.cJ (h9 lo (.inr pg))] at JZ
      obtain ⟨_, _, _, _, pa, _, _, _, r2, _⟩ := ctx q (s1 z) (cp (aB z)) (cc z) none _ JZ.2 lo
      rw [k2] at pa
      simp only [Option.some.injEq, Prod.mk.injEq, true_and] at pa
      rw [pa.1, ay.length _ _ _ r2, hlen, af]
     obtain ⟨aL, m1, m2, m3, m4, m5, m6, m7⟩ := A2 (P := C.P) (b := b) (o := l.length) (e := e) (fr := fr) (cp jf) 0 cur w l cM r bt dK b0 rfl hm (ay.ti _ _ _ g3)
     obtain ⟨aR, dI⟩ := de aL m2 m3 m4 m5 m6 m7
     refine ⟨aL, aR, ?_, dI⟩
     have ph := x5 g2 q4
     simp [Instr.storeAt, Instr.sureAddr, storeVar, kp aN, aZ, ph, hlen, ag, m1]
    ·cases he
   ·cases he
  split at he
  ·cases he
  ·rename_i q4
   exact key _ (fun ax e => q4 ax e) a1 he
 ·cases he
theorem bM.alloc (h : bM w0 F0 X F S s aB w) {d : I} {cs : List Value} {Sn : Nat → Prop} (e : TypeId) (aK : ay w F d cs Sn)
  (dZ : ∀ b, Sn b → b < w.heap.size) (bG : ∀ b, Sn b → ¬ F b) (bX : ∀ u b, Sn b → ¬ S u b) (bn : ∀ b, Sn b → X b ∨ w0.heap.size ≤ b) :
  bM w0 F0 X F S s aB (w.alloc (.cells cs.toArray e)) ∧
   lQ w0 X F S s aB (w.alloc (.cells cs.toArray e)) (.aU d) (.pointer (some ⟨w.heap.size, 0, none⟩)) := by
 have hold : ∀ b, b < w.heap.size → (w.alloc (.cells cs.toArray e)).heap[b]? = w.heap[b]? := by
  intro b aa
  show (w.heap.push _)[b]? = _
  rw [Array.getElem?_push, if_neg (by omega)]
 refine ⟨h.grow hold (by simp) rfl rfl rfl, .inr ⟨rfl, rfl, fun b => b = w.heap.size ∨ Sn b, ?_, ?_, ?_, ?_, ?_⟩⟩
 ·rw [ay]
  refine ⟨w.heap.size, cs.toArray, e, (0, 0), Sn, rfl, .inl rfl, ?_, ?_, ?_, fun c ao => .inr ao, fun ao => Nat.lt_irrefl _ (dZ _ ao)⟩
  ·show (w.heap.push _)[_]? = _
   simp
  ·intro o _ ⟨_, ag⟩; exact absurd ag (Nat.not_lt_zero _)
  ·exact ay.frame (fun b aa => hold b (h.fe b aa)) _ _ _ (fun b aa => hold b (dZ b aa)) aK
 ·rintro b (rfl | aa)
  ·simp
  ·have := dZ b aa; simp; omega
 ·rintro b (rfl | aa) q5
  ·exact Nat.lt_irrefl _ (h.fe _ q5)
  ·exact bG b aa q5
 ·rintro u b (rfl | aa) hu
  ·exact Nat.lt_irrefl _ (h.eJ _ _ hu)
  ·exact bX u b aa hu
 ·rintro b (rfl | aa)
  ·exact .inr h.size
  ·exact bn b aa
def g_ (C : b4) (T : TypeId) : Option I := if (C.T T).ok = true then (match (C.T T).k, (C.T T).zero with
    | .ev e, .agg [.da, .bo] => some (.ct (.jc T e []))
    | .ev _, _ => none
    | _, z => (match flat z with | some _ => some (.aU z) | none => none)) else none
theorem R5 (bp : C.eP) (h : bM w0 F0 X F S s aB w) {T : TypeId} (he : g_ C T = some av) : Good C w0 F0 X aB w (Instr.alloc T true (.tuple #[])) av s := by
 unfold g_ at he
 split at he
 ·rename_i ar
  split at he
  ·rename_i ayF ayG tl
   simp only [Option.some.injEq] at he; subst he
   obtain ⟨i, d, z, aN, aZ, aT, b2, cI, bZ, bO⟩ := bp.info ar
   have bS := cI [.pointer none, .slice none 0 0] (by rw [tl]; rfl)
   have hold : ∀ b, b < w.heap.size → (w.alloc (.cells #[.pointer none, .slice none 0 0] T)).heap[b]? = w.heap[b]? := by
    intro b aa
    show (w.heap.push _)[b]? = _
    rw [Array.getElem?_push, if_neg (by omega)]
   refine ⟨.pointer (some ⟨w.heap.size, 0, none⟩), w.alloc (.cells #[.pointer none, .slice none 0 0] T), F, S, ?_, h.grow hold (by simp) rfl rfl rfl, .inr ⟨rfl, rfl, fun b => b = w.heap.size, ?_, ?_, ?_, ?_, ?_⟩⟩
   ·simp [Instr.alloc, r0 aN b2, newVar, newRow, newObj, Sem.run, bS]
   ·rw [ay]
    refine ⟨w.heap.size, .pointer none, .slice none 0 0, rfl, rfl, ?_, .inl rfl, .inl ⟨rfl, rfl⟩⟩
    show (w.heap.push _)[_]? = _
    simp
   ·rintro b rfl; simp
   ·rintro b rfl q5; exact Nat.lt_irrefl _ (h.fe _ q5)
   ·rintro u b rfl hu; exact Nat.lt_irrefl _ (h.eJ _ _ hu)
   ·rintro b rfl; exact .inr h.size
  ·cases he
  split at he
  ·rename_i cs iI
   simp only [Option.some.injEq] at he; subst he
   obtain ⟨i, d, z, aN, aZ, aT, b2, cI, bZ, bO⟩ := bp.info ar
   have bS := cI cs iI
   obtain ⟨dR, br⟩ := h.alloc (d := (C.T T).zero) T ((ay.flat _).1 _ cs (fun _ => False) (Nat.le_refl _) iI) (fun _ h => h.elim) (fun _ h => h.elim) (fun _ _ h => h.elim) (fun _ h => h.elim)
   refine ⟨_, _, F, S, ?_, dR, br⟩
   simp [Instr.alloc, r0 aN b2, newVar, newRow, newObj, Sem.run, bS]
  ·cases he
 ·cases he
def dj (s : al) (x : I) : Option (I × al) := match cO s x with
 | some (.tuple _, _) => none
 | some (d, s1) => some (.aU d, s1)
 | none => none
def kc (s : al) (x : I) : Option (I × al) := match x with
 | .h y q => match q, s y with
   | [], .agg ds => if I.e1 ds then none else some (.aa y 0, s)
   | _, _ => none
 | .fn f caps => if caps.all (fun d => d.single && (d.tree && d.plain)) = true then some (.ref (.fn f caps), s) else none
 | _ => none
theorem bf.J0 {w : World} {F bQ : Nat → Prop} {s : al} {aB : Nat → Value} (bG : ∀ b, F b → bQ b) : ∀ (ds : List I) (vs : List Value), (∀ d ∈ ds, d.single = true ∧ d.tree = true ∧ d.plain = true) → ef w F s aB ds vs → bf w bQ ds vs (fun _ => False)
 | [], vs, _, h => by rw [ef] at h; rw [bf]; exact h
 | d :: ds, vs, ab, h => by
   rw [ef] at h
   obtain ⟨v, j_, rfl, af, ag⟩ := h
   obtain ⟨d1, d2, d3⟩ := ab d (by simp)
   have aF := (aI.cJ d2).1 af
   have bJ : Value.gJ v = true := by
    have := aF.1
    cases d <;> first | exact this | cases d1
   have a_ := aF.2
   rw [hj bJ] at a_
   rw [bf]
   exact ⟨[v], j_, fun _ => False, fun _ => False, rfl, ay.mono bG _ _ _ _ (fun _ h => h) a_, bf.J0 bG ds j_ (fun x aq => ab x (by simp [aq])) ag, fun _ h => h, fun _ h => h, fun _ h => h.elim⟩
theorem R6 {T : TypeId} {v : Value} (h : bM w0 F0 X F S s aB w) : bM w0 F0 X (fun b => F b ∨ b = w.heap.size) S s aB (w.alloc (.cells (cp v).toArray T)) := by
 have hold : ∀ b, b < w.heap.size → (w.alloc (.cells (cp v).toArray T)).heap[b]? = w.heap[b]? := by
  intro b aa
  show (w.heap.push _)[b]? = _
  rw [Array.getElem?_push, if_neg (by omega)]
 have af := h.grow hold (by simp) rfl rfl rfl
 exact {
  hs := fun b aa => .inl (af.hs b aa)
  hG := fun b aa => by
   rcases aa with aa | rfl
   ·exact af.hG b aa
   ·exact .inr (.inr h.size)
  fe := fun b aa => by
   rcases aa with aa | rfl
   ·exact af.fe b aa
   ·simp
  eJ := af.eJ
  fY := fun t b aa bz => by
   rcases bz with bz | rfl
   ·exact af.fY t b aa bz
   ·exact absurd (h.eJ t _ aa) (Nat.lt_irrefl _)
  ff := af.ff
  dS := af.dS
  dp := fun t => aI.frame (fun _ _ => rfl) (fun b aa => .inl aa) (fun _ _ _ => rfl) af.dp _ _ _ (fun _ _ => rfl) (af.dp t)
  old := af.old
  size := af.size
  os := af.os
  tape := af.tape
  output := af.output }
theorem R7 (h : bM w0 F0 X F S s aB w) {T : TypeId} {x : I} {v : Value} (aK : aI w F s aB x v (fun _ => False)) (he : kc s x = some (av, s1)) :
  Good C w0 F0 X aB w (Instr.box T v) av s1 := by
 unfold kc at he
 split at he
 ·rename_i y q
  split at he
  ·rename_i ds nD
   split at he
   ·cases he
   ·rename_i x4
    simp only [Option.some.injEq, Prod.mk.injEq] at he
    obtain ⟨rfl, rfl⟩ := he
    rw [aI] at aK
    obtain ⟨cM, a, g1, g2, g3⟩ := aK (s y) (by simp only [I.sub]) (by rw [nD]; simp only [I.plain]; simpa using x4)
    simp only [dn, Option.some.injEq, Prod.mk.injEq, true_and] at g1
    rw [nD] at g3
    have ph := x5 g3 (fun ax e => by cases e)
    have hold : ∀ b, b < w.heap.size → (w.alloc (.cells (cp v).toArray T)).heap[b]? = w.heap[b]? := by
     intro b aa
     show (w.heap.push _)[b]? = _
     rw [Array.getElem?_push, if_neg (by omega)]
    refine ⟨.pointer (some ⟨w.heap.size, 0, none⟩), w.alloc (.cells (cp v).toArray T), fun b => F b ∨ b = w.heap.size, S, by simp [Instr.box, newVar, newRow, newObj, Sem.run, ph], ?_, .inl ⟨rfl, ?_⟩⟩
    ·have af := h.grow hold (by simp) rfl rfl rfl
     exact {
      hs := fun b aa => .inl (af.hs b aa)
      hG := fun b aa => by
       rcases aa with aa | rfl
       ·exact af.hG b aa
       ·exact .inr (.inr h.size)
      fe := fun b aa => by
       rcases aa with aa | rfl
       ·exact af.fe b aa
       ·simp
      eJ := af.eJ
      fY := fun t b aa bz => by
       rcases bz with bz | rfl
       ·exact af.fY t b aa bz
       ·exact absurd (h.eJ t _ aa) (Nat.lt_irrefl _)
      ff := af.ff
      dS := af.dS
      dp := fun t => aI.frame (fun _ _ => rfl) (fun b aa => .inl aa) (fun _ _ _ => rfl) af.dp _ _ _ (fun _ _ => rfl) (af.dp t)
      old := af.old
      size := af.size
      os := af.os
      tape := af.tape
      output := af.output }
    ·rw [aI]
     intro _
     refine ⟨w.heap.size, (cp v).toArray, T, (0, 0), rfl, .inr rfl, ?_, ?_⟩
     ·show (w.heap.push _)[_]? = _
      simp
     ·rw [g1.1, ← g2]
  ·cases he
 ·rename_i f caps
  split at he
  ·rename_i ao
   simp only [Option.some.injEq, Prod.mk.injEq] at he
   obtain ⟨rfl, rfl⟩ := he
   have iI : ∀ d ∈ caps, d.single = true ∧ d.tree = true ∧ d.plain = true := fun d ai => by
    have := List.all_eq_true.1 ao d ai
    simpa only [Bool.and_eq_true] using this
   rw [aI] at aK
   obtain ⟨arr, rfl, aK⟩ := aK
   have ph := x5 (d := .fn f caps) (v := .func (.func f) #[] arr) rfl (fun ax e => by cases e)
   have bA := R6 (T := T) (v := .func (.func f) #[] arr) h
   refine ⟨.pointer (some ⟨w.heap.size, 0, none⟩), w.alloc (.cells (cp (.func (.func f) #[] arr)).toArray T), fun b => F b ∨ b = w.heap.size, S, by simp [Instr.box, newVar, newRow, newObj, Sem.run, ph], bA, .inl ⟨rfl, ?_⟩⟩
   refine (aI.cJ rfl).2 ⟨rfl, ?_⟩
   rw [ay]
   refine ⟨w.heap.size, 0, [.func (.func f) #[] arr], rfl, .inr rfl, ?_, ?_⟩
   ·have ko : (w.alloc (.cells (cp (.func (.func f) #[] arr)).toArray T)).heap[w.heap.size]? = some (.cells (cp (.func (.func f) #[] arr)).toArray T (0, 0)) := by
     show (w.heap.push _)[_]? = _
     simp
    intro j c bw
    cases j with
    | zero =>
      simp only [List.getElem?_cons_zero, Option.some.injEq] at bw
      subst bw
      have e : cp (.func (.func f) #[] arr) = [.func (.func f) #[] arr] := hj rfl
      unfold World.cell?
      show (match (w.alloc (.cells (cp (.func (.func f) #[] arr)).toArray T)).heap[w.heap.size]? with
       | some (.cells c _ _) => c[0 + 0]?
       | _ => none) = _
      rw [ko, e]
      rfl
    | succ j => simp at bw
   ·rw [ay]
    refine ⟨arr, rfl, fun d ai => (iI d ai).1, ?_⟩
    have bI := bf.J0 (bQ := F) (fun b aa => aa) caps arr.toList iI aK
    refine bf.mono (F := F) (fun b aa => .inl aa) caps _ _ _ (fun _ h => h) (bf.frame (fun b aa => ?_) caps _ _ (fun _ h => h.elim) bI)
    have dZ := h.fe b aa
    show (w.heap.push _)[b]? = _
    rw [Array.getElem?_push, if_neg (by omega)]
  ·cases he
 ·cases he
theorem R8 (h : bM w0 F0 X F S s aB w) {T : TypeId} {x : I} {v : Value} (aq : x.plain = true) (aK : aI w F s aB x v (fun _ => False)) (he : dj s x = some (av, s1)) :
  Good C w0 F0 X aB w (Instr.box T v) av s1 := by
 unfold dj at he
 split at he
 ·cases he
 ·rename_i d s2 q4 a1
  simp only [Option.some.injEq, Prod.mk.injEq] at he
  obtain ⟨rfl, rfl⟩ := he
  obtain ⟨cc, g0, g1, g2, Sn, g3, g4, g5, g6, g7, g8⟩ := pd h aq aK a1
  obtain ⟨dR, br⟩ := g0.alloc T g3 g4 g5 g6 g7
  refine ⟨_, _, F, cc, ?_, dR, br⟩
  have ph := x5 g2 (fun ax e => q4 ax e)
  simp [Instr.box, newVar, newRow, newObj, Sem.run, ph]
 ·cases he
end
end Go.cY
