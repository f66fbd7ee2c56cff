/- Part of a proof that a law returns true for every input. No condition. -/
import Derived.Test.YtjedocbdhlppdaaFwB
import Derived.Laws.Entries
namespace Go.dp
inductive k9 where
 | int (k : IntKind)
 | bool
 | str
 | ptr (e : TypeId)
 | slice (e : TypeId)
 | struct (ar : List (TypeId × Nat))
 | fn
 | other
structure gb where
 k : k9
 sz : Nat
 bytes : Nat
 zero : j
mutual
def flat : j → Option (List Value)
 | .bool b => some [.bool b]
 | .int k n => some [.int k n]
 | .str s => some [.string ⟨⟨s⟩⟩]
 | .dj => some [.pointer none]
 | .af => some [.slice none 0 0]
 | .agg ar => ox ar
 | _ => none
def ox : List j → Option (List Value)
 | [] => some []
 | d :: ds => match flat d, ox ds with
   | some a, some b => some (a ++ b)
   | _, _ => none
end
theorem ax.flat {w : World} {F : Nat → Prop} : ∀ n, (∀ (d : j) (cs : List Value) (S : Nat → Prop), SizeOf.sizeOf d ≤ n → flat d = some cs → ax w F d cs S) ∧
  (∀ (ds : List j) (cs : List Value) (S : Nat → Prop), SizeOf.sizeOf ds ≤ n → ox ds = some cs → ba w F ds cs S) := by
 intro n
 induction n with
 | zero => exact ⟨fun d _ _ b2 => by cases d <;> simp at b2 <;> omega, fun ds _ _ b2 => by cases ds <;> simp at b2 <;> omega⟩
 | succ n ih =>
   refine ⟨fun d cs S b2 h => ?_, fun ds cs S b2 h => ?_⟩
   ·cases d with
    | agg ar => rw [ax]; exact ih.2 ar cs S (by simp at b2; omega) (by simpa [dp.flat] using h)
    | bool b => simp [dp.flat] at h; subst h; rw [ax]
    | int k n => simp [dp.flat] at h; subst h; rw [ax]
    | str s => simp [dp.flat] at h; subst h; rw [ax]
    | dj => simp [dp.flat] at h; subst h; rw [ax]
    | af => simp [dp.flat] at h; subst h; rw [ax]
    | _ => simp [dp.flat] at h
   ·cases ds with
    | nil => simp [ox] at h; subst h; rw [ba]
    | cons d ds =>
      simp only [ox] at h
      split at h
      ·rename_i a b bX U
       simp at h; subst h
       simp at b2
       rw [ba]
       exact ⟨a, b, fun _ => False, fun _ => False, rfl, ih.1 d a _ (by omega) bX, ih.2 ds b _ (by omega) U, fun _ h => h.elim, fun _ h => h.elim, fun _ h => h.elim⟩
      ·cases h
def kK : k9 → TypeDesc → Prop
 | .int k, .int dU => k = dU
 | .bool, .bool => True
 | .str, .string => True
 | .ptr e, .pointer gZ => e = gZ
 | .slice e, .slice gZ => e = gZ
 | .struct ar, .struct gs => gs.toList.map (fun g => (g.type, g.offset)) = ar
 | .fn, .func _ _ _ => True
 | _, _ => False
def DR (P : Program) (t : TypeId) (x : gb) : Prop :=
 (∃ e n b z, x = ⟨.other, e, n, b⟩ ∧ z = 0) ∨
 ∃ i d z, P.info? t = some i ∧ i.size = x.sz ∧ i.bytes = x.bytes ∧ i.zero = some z ∧ (∀ cs, flat x.zero = some cs → z.cells = cs.toArray) ∧ P.underlying t = some d ∧ kK x.k d
structure b1 where
 P : Program
 T : TypeId → gb
 M : FuncId → List Bool
structure b1.eO (C : b1) : Prop where
 ty : ∀ t, DR C.P t (C.T t)
 mixed : C.P.follows .mixedOrders = true
inductive aH where
 | t (n : Nat)
 | c (av : j)
 | f (g : FuncId)
def wW : Value → Option j
 | .bool b => some (.bool b)
 | .int k n => some (.int k n)
 | .string s => some (.str s.data.toList)
 | .pointer none => some .dj
 | .slice none 0 0 => some .af
 | _ => none
def dF : Operand → Option aH
 | .tmp n => some (.t n)
 | .const v => (wW v).map .c
 | .func g => some (.f g)
 | .global _ => none
def iG (x : Nat) (d : j) : j := if d.plain then d else .h x []
def aI (s : ao) : aH → j
 | .t n => iG n (s n)
 | .c av => av
 | .f g => .fn g []
theorem aL.nothing {w : World} {F : Nat → Prop} {s : ao} {aE : Nat → Value} {d : j} {v : Value} {S aU : Nat → Prop} (ay : d.plain = true) (h : aL w F s aE d v S) : aL w F s aE d v aU := by
 cases d <;> first
  | (rw [aL]; trivial)
  | (rw [aL] at h ⊢; exact h)
  | (have bN := (aL.cJ rfl).1 h; exact (aL.cJ rfl).2 ⟨bN.1, ax.plain _ _ _ _ ay bN.2⟩)
section
variable {w0 w : World} {F0 X F : Nat → Prop} {S : Nat → Nat → Prop} {s : ao} {aE : Nat → Value} {a : Act}
theorem DS (s : ao) (x : aH) (az : ∀ av, x = .c av → av.plain = true) : (aI s x).plain = true := by
 cases x with
 | t n => simp only [aI, iG]; split <;> first | assumption | rfl
 | c av => exact az _ rfl
 | f g => rfl
theorem Aj {v : Value} {av : j} (h : wW v = some av) : av.plain = true := by
 unfold wW at h; split at h <;> simp at h <;> subst h <;> rfl
theorem fm (h : bU w0 F0 X F S s aE w) (ej : ∀ t, aE t = a.tmps.getD t undef) {o : Operand} {x : aH} (cr : dF o = some x) :
  (aI s x).plain = true ∧ aL w F s aE (aI s x) (a.eval o) (fun _ => False) := by
 cases o with
 | tmp n =>
   simp [dF] at cr; subst cr
   simp only [aI, iG, Act.eval, ← ej]
   split
   ·rename_i ay; exact ⟨ay, aL.nothing ay (h.dJ n)⟩
   ·rename_i ay
    refine ⟨rfl, ?_⟩
    rw [aL]
    intro d ak KX
    simp only [j.sub, Option.some.injEq] at ak; subst ak
    have a3 := hX (q := []) rfl (.inl KX)
    exact ⟨_, none, rfl, rfl, ((aL.cJ a3).1 (h.dJ n)).1⟩
 | const v =>
   simp only [dF, Option.map_eq_some_iff] at cr
   obtain ⟨av, m9, rfl⟩ := cr
   refine ⟨Aj m9, ?_⟩
   simp only [aI, Act.eval]
   unfold wW at m9
   split at m9 <;> simp at m9 <;> subst m9 <;> rw [aL, ax] <;> exact ⟨rfl, rfl⟩
 | func g =>
   simp [dF] at cr; subst cr
   refine ⟨rfl, ?_⟩
   simp only [aI, Act.eval]
   rw [aL]
   exact ⟨#[], rfl, by rw [dM]⟩
 | global g => simp [dF] at cr
def kq (w0 : World) (X F : Nat → Prop) (S : Nat → Nat → Prop) (s : ao) (aE : Nat → Value) (w : World) (av : j) (v : Value) : Prop :=
 (av.plain = true ∧ aL w F s aE av v (fun _ => False)) ∨
 (av.tree = true ∧ dT av v ∧ ∃ Sn, ax w F av (cp v) Sn ∧ (∀ b, Sn b → b < w.heap.size) ∧ (∀ b, Sn b → ¬ F b) ∧ (∀ u b, Sn b → ¬ S u b) ∧ (∀ b, Sn b → X b ∨ w0.heap.size ≤ b))
def fin (s : ao) (dst : Option Nat) (av : j) : ao := match dst with
 | none => s
 | some t => if av.plain then dq s t av else dq (k8 t s) t av
def qB (aE : Nat → Value) (dst : Option Nat) (v : Value) : Nat → Value := match dst with
 | none => aE
 | some t => dq aE t v
theorem bU.fin (h : bU w0 F0 X F S s aE w) {av : j} {v : Value} (aQ : kq w0 X F S s aE w av v) (dst : Option Nat) :
  ∃ aU, bU w0 F0 X F aU (dp.fin s dst av) (qB aE dst v) w := by
 cases dst with
 | none => exact ⟨S, h⟩
 | some t =>
   simp only [dp.fin, qB]
   rcases aQ with ⟨ay, ak⟩ | ⟨a3, ab, Sn, ag, ah, aM, bd, bI⟩
   ·rw [if_pos ay]; exact ⟨_, h.tM ay ak⟩
   ·split
    ·rename_i ay
     exact ⟨_, h.tM ay ((aL.cJ a3).2 ⟨ab, ax.plain _ _ _ _ ay ag⟩)⟩
    ·exact ⟨_, h.DJ a3 ab ag ah aM (fun u b _ U => bd u b U) bI⟩
def cG (s : ao) : j → Option (j × ao)
 | .h x q => match j.sub q (s x) with
   | some d => if d.plain then none else some (d, dq (ir x s) x (j.put q d.c0 (s x)))
   | none => none
 | .ay _ _ => none
 | .U _ _ => none
 | .fn _ _ => none
 | .hole => none
 | d => some (d, s)
def j.owner : j → Option Nat
 | .h x _ => some x
 | _ => none
def jQ : Option Nat → j → j
 | some x, d => ca x d
 | none, d => d
theorem nS (h : bU w0 F0 X F S s aE w) {av d : j} {s1 : ao} {v : Value} (m9 : av.plain = true) (aQ : aL w F s aE av v (fun _ => False)) (a3 : cG s av = some (d, s1)) :
  ∃ b7, bU w0 F0 X F b7 s1 aE w ∧ d.tree = true ∧ dT d v ∧ ∃ Sn, ax w F d (cp v) Sn ∧ (∀ b, Sn b → b < w.heap.size) ∧ (∀ b, Sn b → ¬ F b) ∧ (∀ u b, Sn b → ¬ b7 u b) ∧ (∀ b, Sn b → X b ∨ w0.heap.size ≤ b) ∧
    (∀ u b, b7 u b → S u b) ∧ (∀ b, Sn b → ∃ u, S u b) ∧ (∀ (bw : j) (fK : Value) (aU : Nat → Prop), aL w F s aE bw fK aU → aL w F s1 aE (jQ av.owner bw) fK aU) := by
 have tree : ∀ d : j, d.tree = true → d.plain = true → aL w F s aE d v (fun _ => False) →
   ∃ b7, bU w0 F0 X F b7 s aE w ∧ d.tree = true ∧ dT d v ∧ ∃ Sn, ax w F d (cp v) Sn ∧ (∀ b, Sn b → b < w.heap.size) ∧ (∀ b, Sn b → ¬ F b) ∧ (∀ u b, Sn b → ¬ b7 u b) ∧ (∀ b, Sn b → X b ∨ w0.heap.size ≤ b) ∧
     (∀ u b, b7 u b → S u b) ∧ (∀ b, Sn b → ∃ u, S u b) := by
  intro d ak _ bN
  have bN := (aL.cJ ak).1 bN
  exact ⟨S, h, ak, bN.1, _, bN.2, fun _ h => h.elim, fun _ h => h.elim, fun _ _ h => h.elim, fun _ h => h.elim, fun _ _ h => h, fun _ h => h.elim⟩
 cases av with
 | h x q =>
   simp only [cG] at a3
   split at a3
   ·rename_i e he
    split at a3
    ·cases a3
    ·rename_i ay
     simp only [Option.some.injEq, Prod.mk.injEq] at a3
     obtain ⟨rfl, rfl⟩ := a3
     have ay : e.plain = false := by simpa using ay
     obtain ⟨Sn, gF, cU, cN, eE, fN, kL, k_, KY, KZ, K0⟩ := h.take he ay
     rw [aL] at aQ
     obtain ⟨ai5, a9, a8, bA, ct⟩ := aQ e he ay
     rw [fN] at a8
     simp only [Option.some.injEq, Prod.mk.injEq, true_and] at a8
     obtain ⟨rfl, rfl⟩ := a8
     have Ak : e.tree = true := by cases e <;> first | rfl | (simp [j.plain] at ay)
     refine ⟨_, eE, Ak, ct, gF, by rw [bA]; exact kL, fun b U => h.eX x b (k_ b U), fun b U => h.ga x b (k_ b U), ?_, fun b U => h.dW x b (k_ b U), ?_, fun b U => ⟨x, k_ b U⟩, K0⟩
     ·intro u b U hu
      simp only [gR] at hu
      split at hu
      ·exact KZ b U hu
      ·rename_i wX; exact h.fJ u x b wX hu (k_ b U)
     ·intro u b hu
      simp only [gR] at hu
      split at hu
      ·rename_i e; subst e; exact KY b hu
      ·exact hu
   ·cases a3
 | ay x q => simp [cG] at a3
 | U x q => simp [cG] at a3
 | fn f c => simp [cG] at a3
 | hole => simp [cG] at a3
 | ai sz xs => simp [j.plain] at m9
 | aG d => simp [j.plain] at m9
 | _ =>
   simp only [cG, Option.some.injEq, Prod.mk.injEq] at a3
   obtain ⟨rfl, rfl⟩ := a3
   obtain ⟨b7, t1, t2, t3, Sn, t4, t5, t6, t7, t8, t9, t10⟩ := tree _ rfl m9 aQ
   exact ⟨b7, t1, t2, t3, Sn, t4, t5, t6, t7, t8, t9, t10, fun _ _ _ h => h⟩
def loc (s : ao) : j → Option (Nat × List Nat)
 | .h x q => match j.sub q (s x) with
   | some (.aG _) => some (x, q ++ [0])
   | _ => none
 | .ay x q => if j.e_ q (s x) then some (x, q) else none
 | _ => none
theorem tP : ∀ (q : List Nat) (av d : j) (r : List Nat), j.sub q av = some d → j.sub (q ++ r) av = j.sub r d := by
 intro q
 induction q with
 | nil => intro av d r h; simp [j.sub] at h; subst h; rfl
 | cons k q ih =>
   intro av d r h
   cases av with
   | agg ar =>
     simp only [j.sub, List.cons_append] at h ⊢
     split at h
     ·rename_i x aw; exact ih _ _ _ h
     ·cases h
   | tuple ar =>
     simp only [j.sub, List.cons_append] at h ⊢
     split at h
     ·rename_i x aw; exact ih _ _ _ h
     ·cases h
   | ai sz ar =>
     simp only [j.sub, List.cons_append] at h ⊢
     split at h
     ·rename_i x aw; exact ih _ _ _ h
     ·cases h
   | aG x =>
     cases k with
     | zero => simp only [j.sub, List.cons_append] at h ⊢; exact ih _ _ _ h
     | succ k => simp [j.sub] at h
   | _ => simp [j.sub] at h
theorem K1 : ∀ (q : List Nat) (av d : j) (r : List Nat), j.sub q av = some d → j.e_ (q ++ r) av = (j.e_ q av || j.e_ r d) := by
 intro q
 induction q with
 | nil => intro av d r h; simp [j.sub] at h; subst h; simp [j.e_]
 | cons k q ih =>
   intro av d r h
   cases av with
   | agg ar =>
     simp only [j.sub] at h
     split at h
     ·rename_i x aw
      simp only [j.e_, List.cons_append, aw]
      exact ih _ _ r h
     ·cases h
   | tuple ar =>
     simp only [j.sub] at h
     split at h
     ·rename_i x aw
      simp only [j.e_, List.cons_append, aw]
      exact ih _ _ r h
     ·cases h
   | ai sz ar => simp [j.e_]
   | aG x => simp [j.e_]
   | _ => simp [j.sub] at h
theorem tQ (w : World) : ∀ (q : List Nat) (av d : j) (cs cU : List Value) (a cN : Option (Nat × Nat)) (r : List Nat), c8 w q av cs a = some (d, cU, cN) → c8 w (q ++ r) av cs a = c8 w r d cU cN := by
 intro q
 induction q with
 | nil => intro av d cs cU a cN r h; simp [c8] at h; obtain ⟨rfl, rfl, rfl⟩ := h; rfl
 | cons k q ih =>
   intro av d cs cU a cN r h
   cases av with
   | agg ar =>
     rw [List.cons_append]
     rw [c8] at h ⊢
     split at h
     ·rename_i x aw; exact ih _ _ _ _ _ _ _ h
     ·cases h
   | tuple ar =>
     rw [List.cons_append]
     rw [c8] at h ⊢
     split at h
     ·rename_i x aw; exact ih _ _ _ _ _ _ _ h
     ·cases h
   | ai sz ar =>
     rw [List.cons_append]
     rw [c8.eq_def] at h ⊢
     simp only at h ⊢
     split at h
     ·exact ih _ _ _ _ _ _ _ h
     ·cases h
   | aG x =>
     cases k with
     | zero =>
       rw [List.cons_append]
       rw [c8.eq_def] at h ⊢
       simp only at h ⊢
       split at h
       ·exact ih _ _ _ _ _ _ _ h
       ·cases h
     | succ k => rw [show c8 w ((k + 1) :: q) (.aG x) cs a = none from rfl] at h; cases h
   | _ => simp [c8] at h
end
def gb.ok (x : gb) : Bool := match x.k with
 | .other => false
 | _ => true
theorem b1.eO.info {C : b1} (bt : C.eO) {t : TypeId} (h : (C.T t).ok = true) :
  ∃ i d z, C.P.info? t = some i ∧ i.size = (C.T t).sz ∧ i.bytes = (C.T t).bytes ∧ i.zero = some z ∧ (∀ cs, flat (C.T t).zero = some cs → z.cells = cs.toArray) ∧ C.P.underlying t = some d ∧ kK (C.T t).k d := by
 rcases bt.ty t with ⟨e, n, b, z, aw, _⟩ | bN
 ·rw [aw] at h; simp [gb.ok] at h
 ·exact bN
theorem fL {x : gb} {k : k9} (h : x.k = k) (aB : k ≠ .other) : x.ok = true := by
 unfold gb.ok; rw [h]; cases k <;> first | rfl | exact (aB rfl).elim
theorem tR {d : TypeDesc} {ar : List (TypeId × Nat)} (h : kK (.struct ar) d) : ∃ gs, d = .struct gs ∧ gs.toList.map (fun g => (g.type, g.offset)) = ar := by
 cases d <;> simp [kK] at h
 exact ⟨_, rfl, h⟩
theorem kr {d : TypeDesc} {e : TypeId} (h : kK (.slice e) d) : d = .slice e := by
 cases d <;> simp [kK] at h
 rw [h]
theorem tS {d : TypeDesc} {k : IntKind} (h : kK (.int k) d) : d = .int k := by
 cases d <;> simp [kK] at h
 rw [h]
theorem oy {d : TypeDesc} (h : kK .str d) : d = .string := by
 cases d <;> simp [kK] at h
 rfl
theorem Al {d : TypeDesc} (h : kK .bool d) : d = .bool := by
 cases d <;> simp [kK] at h
 rfl
theorem DT {d : TypeDesc} {e : TypeId} (h : kK (.ptr e) d) : d = .pointer e := by
 cases d <;> simp [kK] at h
 rw [h]
theorem gx {v : Value} (h : Value.gw v = true) : cp v = [v] := by
 cases v <;> first | rfl | (simp [Value.gw] at h)
theorem qC {P : Program} {t : TypeId} {i : TypeInfo} (h : P.info? t = some i) (w : World) : (typeInfo t).run P w = .ok i w := by simp [typeInfo, h]
theorem jG {P : Program} {t : TypeId} {i : TypeInfo} (h : P.info? t = some i) (w : World) : (Go.sizeOf t).run P w = .ok i.size w := by simp [Go.sizeOf, qC h]
theorem tT {P : Program} {t : TypeId} {i : TypeInfo} {z : Value} (h : P.info? t = some i) (b2 : i.zero = some z) (w : World) : (zeroValue t).run P w = .ok z w := by simp [zeroValue, qC h, b2]
section
variable {C : b1} {w0 w : World} {F0 X F : Nat → Prop} {S : Nat → Nat → Prop} {s s1 : ao} {aE : Nat → Value} {av : j}
def Good (C : b1) (w0 : World) (F0 X : Nat → Prop) (aE : Nat → Value) (w : World) (m : Sem Value) (av : j) (s1 : ao) : Prop :=
 ∃ v aS bO aU, m.run C.P w = .ok v aS ∧ bU w0 F0 X bO aU s1 aE aS ∧ kq w0 X bO aU s1 aE aS av v
theorem Good.same (h : bU w0 F0 X F S s aE w) {m : Sem Value} {v : Value} (a2 : m.run C.P w = .ok v w) (ay : av.plain = true) (aQ : aL w F s aE av v (fun _ => False)) : Good C w0 F0 X aE w m av s :=
 ⟨v, w, F, S, a2, h, .inl ⟨ay, aQ⟩⟩
theorem Am (_h : bU w0 F0 X F S s aE w) {x : j} {v : Value} (aQ : aL w F s aE x v (fun _ => False)) {y : Nat} {q : List Nat} (hl : loc s x = some (y, q)) {d : j} (ak : j.sub q (s y) = some d) :
  j.e_ q (s y) = true ∧ ∃ cU b o, v = .pointer (some ⟨b, o, none⟩) ∧ c8 w q (s y) (cp (aE y)) none = some (d, cU, some (b, o)) := by
 cases x with
 | h z wY =>
   simp only [loc] at hl
   split at hl
   ·rename_i e he
    simp only [Option.some.injEq, Prod.mk.injEq] at hl
    obtain ⟨rfl, rfl⟩ := hl
    rw [aL] at aQ
    obtain ⟨cU, a, a8, bA, ct⟩ := aQ _ he rfl
    have gQ : e = d := by
     rw [tP _ _ _ _ he] at ak
     simpa [j.sub] using ak
    subst gQ
    refine ⟨by rw [K1 _ _ _ _ he]; simp [j.e_], ?_⟩
    have ag : Value.gw v = true := ct
    rw [gx ag] at bA
    subst bA
    have ko := tQ w wY (s z) _ _ _ none a [0] a8
    have aw := _h.dJ z
    rw [aL.cJ (hX he (.inl rfl))] at aw
    obtain ⟨fD, cN, ep, gF, k0, ch, cu, eF, dG, ff⟩ := ctx wY (s z) (cp (aE z)) (S z) none _ aw.2 he
    rw [k0] at a8
    simp only [Option.some.injEq, Prod.mk.injEq, true_and] at a8
    obtain ⟨rfl, rfl⟩ := a8
    rw [ax] at dG
    obtain ⟨b, cur, bg, fr, dA, bf, _⟩ := dG
    simp only [List.cons.injEq, and_true] at bf
    subst bf
    exact ⟨_, b, 0, rfl, by rw [ko]; rfl⟩
   ·cases hl
 | ay z wY =>
   simp only [loc] at hl
   split at hl
   ·rename_i az
    simp only [Option.some.injEq, Prod.mk.injEq] at hl
    obtain ⟨rfl, rfl⟩ := hl
    rw [aL] at aQ
    obtain ⟨cU, b, o, a8, bA⟩ := aQ _ ak az
    exact ⟨az, cU, b, o, bA, a8⟩
   ·cases hl
 | _ => simp [loc] at hl
def a5 (C : b1) (s : ao) (T : TypeId) (x : j) (k : Nat) : Option j :=
 match (C.T T).k with
 | .struct ar => match ar[k]? with
   | some (iH, off) => if (C.T iH).ok = true ∧ (C.T iH).sz ≠ 0 then
     match x with
     | .ref (.agg ds) => match ds[k]? with
       | some d => if j.dI (ds.take k) = off then some (.ref d) else none
       | none => none
     | .U y o => if (s y).plain then none else some (.U y (o + off))
     | x => match loc s x with
       | some (y, q) => match j.sub q (s y) with
         | some (.agg ds) => if k < ds.length ∧ j.dI (ds.take k) = off then some (.ay y (q ++ [k])) else none
         | _ => none
       | none => none
     else none
   | none => none
 | _ => none
theorem hj.An {w : World} {b o : Nat} {bT fv b4 : List Value} (h : hj w b o (bT ++ (fv ++ b4))) : hj w b (o + bT.length) fv := by
 intro aK c cS
 have eC : aK < fv.length := (List.getElem?_eq_some_iff.1 cS).1
 have := h (bT.length + aK) c (by rw [List.getElem?_append_right (by omega), List.getElem?_append_left (by omega), ← cS]; congr 1; omega)
 rw [Nat.add_assoc]; exact this
theorem Ao (bt : C.eO) {T iH : TypeId} {ar : List (TypeId × Nat)} {k off : Nat} (aB : (C.T T).k = .struct ar) (bY : ar[k]? = some (iH, off)) (ag : (C.T iH).ok = true) (ah : (C.T iH).sz ≠ 0) (b o : Nat) (w : World) :
  (Instr.fieldAt T (.pointer (some ⟨b, o, none⟩)) k).run C.P w = .ok (.pointer (some ⟨b, o + off, none⟩)) w := by
 obtain ⟨i, d, z, a1, bg, bf, cn, c3, b_, bV⟩ := bt.info (fL aB (by simp))
 rw [aB] at bV
 obtain ⟨gs, rfl, hK⟩ := tR bV
 obtain ⟨sa, bw, pe, f1, f2, f3, f4, f5, f6, f7⟩ := bt.info ag
 have bQ : ∃ g, gs[k]? = some g ∧ g.type = iH ∧ g.offset = off := by
  rw [← hK, List.getElem?_map] at bY
  simp only [Option.map_eq_some_iff, Prod.mk.injEq] at bY
  obtain ⟨g, ag, ah, aM⟩ := bY
  exact ⟨g, by simpa using ag, ah, aM⟩
 obtain ⟨g, a8, rfl, rfl⟩ := bQ
 simp [Instr.fieldAt, run_underlying b_, a8, Instr.sureAddr, fieldPlace, jG f1, f2, ah, Addr.add_lit]
theorem K2 (bt : C.eO) (h : bU w0 F0 X F S s aE w) {T : TypeId} {x : j} {v : Value} {k : Nat} (aw : x.plain = true) (aQ : aL w F s aE x v (fun _ => False)) (he : a5 C s T x k = some av) :
  Good C w0 F0 X aE w (Instr.fieldAt T v k) av s := by
 unfold a5 at he
 split at he
 ·rename_i ar aB
  split at he
  ·rename_i iH off bY
   split at he
   ·rename_i sb
    split at he
    ·rename_i ds
     split at he
     ·rename_i d ak
      split at he
      ·rename_i nT
       simp only [Option.some.injEq] at he; subst he
       have la := (aL.cJ rfl).1 aQ
       rw [ax] at la
       obtain ⟨ab, b, o, ea, ag, ah, aM, bd⟩ := la
       rw [gx ab] at ag
       simp only [List.cons.injEq, and_true] at ag; subst ag
       rw [ax] at bd
       obtain ⟨bT, fv, b4, b7, hn, rfl, g5, e5, fT, ho, e9, k6⟩ := ba.pick ds _ _ k d bd ak
       refine Good.same h (Ao bt aB bY sb.1 sb.2 b o w) rfl ((aL.cJ rfl).2 ⟨rfl, ?_⟩)
       rw [ax]
       refine ⟨b, o + off, fv, rfl, ah, ?_, ax.mono (fun _ h => h) _ _ _ _ (fun b U => fT b U) e9⟩
       rw [← nT, ← g5]; exact aM.An
      ·cases he
     ·cases he
    ·rename_i y o
     split at he
     ·cases he
     ·rename_i ay
      simp only [Option.some.injEq] at he; subst he
      rw [aL] at aQ
      obtain ⟨b, cur, e, fr, rfl, ah, aM, bd⟩ := aQ (by simpa using ay)
      refine Good.same h (Ao bt aB bY sb.1 sb.2 b o w) rfl ?_
      rw [aL]
      exact fun _ => ⟨b, cur, e, fr, rfl, ah, aM, bd⟩
    ·rename_i x _ _
     split at he
     ·rename_i y q hl
      split at he
      ·rename_i ds ak
       split at he
       ·rename_i nT
        simp only [Option.some.injEq] at he; subst he
        obtain ⟨az, cU, b, o, rfl, ko⟩ := Am h aQ hl ak
        refine Good.same h (Ao bt aB bY sb.1 sb.2 b o w) rfl ?_
        rw [aL]
        intro d2 ia ks
        rw [tQ w q _ _ _ _ _ _ [k] ko]
        rw [tP _ _ _ _ ak] at ia
        have oz : ∃ d3, ds[k]? = some d3 := ⟨_, List.getElem?_eq_getElem nT.1⟩
        obtain ⟨d3, tU⟩ := oz
        simp only [j.sub, tU, Option.some.injEq] at ia
        subst ia
        simp only [c8, tU]
        refine ⟨(cU.drop off).take d3.wd, b, o + off, ?_, rfl⟩
        rw [nT.2]; rfl
       ·cases he
      ·cases he
     ·cases he
   ·cases he
  ·cases he
 ·cases he
def cf (C : b1) (s : ao) (T : TypeId) (x i : j) : Option j :=
 match (C.T T).k, i with
 | .slice e, .int _ n => if 0 ≤ n ∧ (C.T e).ok = true then
   match x with
   | .slice xs => match xs[n.toNat]? with
     | some d => if d.wd = (C.T e).sz then some (.ref d) else none
     | none => none
   | .h y q => match j.sub q (s y) with
     | some (.ai sz xs) => if n.toNat < xs.length ∧ sz = (C.T e).sz then some (.ay y (q ++ [n.toNat])) else none
     | _ => none
   | _ => none
   else none
 | _, _ => none
theorem DU (bt : C.eO) {T e : TypeId} (aB : (C.T T).k = .slice e) (he : (C.T e).ok = true) (b o len cap : Nat) (k : IntKind) (n : Nat) (bh : n < len) (w : World) :
  (Instr.indexAt T (.slice (some ⟨b, o, none⟩) len cap) (.int k n)).run C.P w = .ok (.pointer (some ⟨b, o + n * (C.T e).sz, none⟩)) w := by
 obtain ⟨i, d, z, a1, bg, bf, cn, c3, b_, bV⟩ := bt.info (fL aB (by simp))
 rw [aB] at bV
 have := kr bV; subst this
 obtain ⟨sa, bw, pe, f1, f2, f3, f4, f5, f6, f7⟩ := bt.info he
 simp [Instr.indexAt, run_underlying b_, asIntOf, bh, jG f1, f2, Addr.add_lit]
theorem K3 (bt : C.eO) (h : bU w0 F0 X F S s aE w) {T : TypeId} {x i : j} {v sc : Value} (aQ : aL w F s aE x v (fun _ => False)) (K4 : aL w F s aE i sc (fun _ => False))
  (he : cf C s T x i = some av) : Good C w0 F0 X aE w (Instr.indexAt T v sc) av s := by
 unfold cf at he
 split at he
 ·rename_i e k n aB
  have Ap := (aL.cJ rfl).1 K4
  rw [ax, gx Ap.1] at Ap
  have : sc = .int k n := by simpa using Ap.2
  subst this
  split at he
  ·rename_i bh
   obtain ⟨n, rfl⟩ := Int.eq_ofNat_of_zero_le bh.1
   simp only [Int.toNat_natCast] at he
   split at he
   ·rename_i xs
    split at he
    ·rename_i d ak
     split at he
     ·rename_i hw
      simp only [Option.some.injEq] at he; subst he
      have la := (aL.cJ rfl).1 aQ
      rw [ax, gx la.1] at la
      obtain ⟨ab, ⟨rfl, _⟩ | ⟨b, o, cap, ea, sz, ag, ah, aM, bd, bI, cx, cy⟩⟩ := la
      ·simp at ak
      ·simp only [List.cons.injEq, and_true] at ag; subst ag
       have eC : n < xs.length := (List.getElem?_eq_some_iff.1 ak).1
       obtain ⟨bT, fv, b4, b7, hn, rfl, g5, e5, fT, ho, e9, k6⟩ := ba.pick xs _ _ n d cy ak
       refine Good.same h (DU bt aB bh.2 b o _ _ k n eC w) rfl ((aL.cJ rfl).2 ⟨rfl, ?_⟩)
       rw [ax]
       refine ⟨b, _, fv, rfl, ah, ?_, ax.mono (fun _ h => h) _ _ _ _ (fun b U => fT b U) e9⟩
       have K5 := bI d (List.mem_of_getElem? ak)
       have : n * (C.T e).sz = bT.length := by
        rw [g5, qx _ (fun d ak => bI d (List.mem_of_mem_take ak)), List.length_take, Nat.min_eq_left (by omega), ← hw, K5]
       rw [this]; exact cx.An
     ·cases he
    ·cases he
   ·rename_i y q
    split at he
    ·rename_i sz xs ak
     split at he
     ·rename_i hw
      simp only [Option.some.injEq] at he; subst he
      rw [aL] at aQ
      obtain ⟨cU, a, a8, bA, ct⟩ := aQ _ ak rfl
      have ab : Value.gw v = true := ct
      rw [gx ab] at bA; subst bA
      have aw := h.dJ y
      rw [aL.cJ (hX ak (.inl rfl))] at aw
      obtain ⟨fD, cN, ep, gF, k0, ch, cu, eF, dG, ff⟩ := ctx q (s y) (cp (aE y)) (S y) none _ aw.2 ak
      rw [k0] at a8
      simp only [Option.some.injEq, Prod.mk.injEq, true_and] at a8
      obtain ⟨rfl, rfl⟩ := a8
      rw [ax] at dG
      rcases dG with ⟨rfl, _⟩ | ⟨b, cap, cur, bg, fr, dA, bf, _⟩
      ·simp at hw
      ·simp only [List.cons.injEq, and_true] at bf; subst bf
       refine Good.same h (DU bt aB bh.2 b 0 _ _ k n hw.1 w) rfl ?_
       rw [aL]
       intro d2 ia _
       rw [tQ w q _ _ _ _ _ _ [n] k0]
       rw [tP _ _ _ _ ak] at ia
       obtain ⟨d3, tU⟩ : ∃ d3, xs[n]? = some d3 := ⟨_, List.getElem?_eq_getElem hw.1⟩
       simp only [j.sub, tU, Option.some.injEq] at ia
       subst ia
       simp only [c8, tU]
       exact ⟨_, b, n * sz, rfl, by simp [hw.2]⟩
     ·cases he
    ·cases he
   ·cases he
  ·cases he
 ·cases he
end
section
variable {C : b1} {w0 w : World} {F0 X F : Nat → Prop} {S : Nat → Nat → Prop} {s s1 : ao} {aE : Nat → Value} {av : j}
theorem DV (bt : C.eO) {T : TypeId} {ar : List (TypeId × Nat)} (aB : (C.T T).k = .struct ar) (w : World) : (isAgg T).run C.P w = .ok true w := by
 obtain ⟨i, d, z, a1, bg, bf, cn, c3, b_, bV⟩ := bt.info (fL aB (by simp))
 rw [aB] at bV
 obtain ⟨gs, rfl, _⟩ := tR bV
 simp [isAgg, run_underlying b_]
def gb.flat (x : gb) : Bool := match x.k with
 | .other => false
 | .struct _ => false
 | _ => true
theorem DW {x : gb} (h : x.flat = true) : x.ok = true := by
 unfold gb.flat at h; unfold gb.ok; revert h; cases x.k <;> simp
theorem Aq (bt : C.eO) {T : TypeId} (aB : (C.T T).flat = true) (w : World) : (isAgg T).run C.P w = .ok false w := by
 obtain ⟨i, d, z, a1, bg, bf, cn, c3, b_, bV⟩ := bt.info (DW aB)
 have er : (∀ ar, d ≠ .struct ar) ∧ (∀ n e, d ≠ .array n e) := by
  clear b_
  unfold gb.flat at aB
  generalize (C.T T).k = jR at *
  cases jR <;> cases d <;> simp [kK] at bV aB ⊢
 cases d <;> first | exact (er.1 _ rfl).elim | exact (er.2 _ _ rfl).elim | simp [isAgg, run_underlying b_]
theorem hj.one {w : World} {b o : Nat} {v : Value} (h : hj w b o [v]) : w.cell? ⟨b, o, none⟩ = some v := by simpa using h 0 v rfl
theorem DX {P : Program} {b o : Nat} : ∀ (cs : List Value) (i : Nat) (acc : Array Value), hj w b (o + i) cs → (loadCellsFrom ⟨b, o, none⟩ i cs.length acc).run P w = .ok (acc ++ cs.toArray) w
 | [], i, acc, _ => by simp [loadCellsFrom]
 | c :: cs, i, acc, h => by
   have bM : w.cell? ⟨b, o + i, none⟩ = some c := by simpa using h 0 c rfl
   have ag : hj w b (o + (i + 1)) cs := by
    intro aK x cS
    have := h (aK + 1) x (by simpa using cS)
    rw [← this]; congr 2; omega
   have ih := DX (P := P) cs (i + 1) (acc.push c) ag
   simp only [List.length_cons, loadCellsFrom, Sem.run_bind, Go.load, Sem.run, Addr.add_lit, bM, Result.andThen]
   rw [ih]; simp
theorem K6 (bt : C.eO) {T : TypeId} {ar : List (TypeId × Nat)} (aB : (C.T T).k = .struct ar) {b o : Nat} {cs : List Value} (h : hj w b o cs) (hl : cs.length = (C.T T).sz) :
  (loadVar T ⟨b, o, none⟩).run C.P w = .ok (.agg cs.toArray) w := by
 obtain ⟨i, d, z, a1, bg, bf, cn, c3, b_, bV⟩ := bt.info (fL aB (by simp))
 have := DX (P := C.P) (b := b) (o := o) cs 0 #[] (by simpa using h)
 simp only [loadVar, Sem.run_bind, DV bt aB, Result.andThen, if_true, jG a1, bg, ← hl, loadCells, this]
 simp
theorem DY (bt : C.eO) {T : TypeId} (aB : (C.T T).flat = true) {b o : Nat} {v : Value} (h : hj w b o [v]) :
  (loadVar T ⟨b, o, none⟩).run C.P w = .ok v w := by
 simp [loadVar, Aq bt aB, Go.load, Sem.run, h.one]
def fits (C : b1) (T : TypeId) (d : j) : Bool := match (C.T T).k, d with
    | .struct _, .agg ds => j.dI ds == (C.T T).sz
    | .struct _, _ => false
    | _, .agg _ => false
    | _, .tuple _ => false
    | _, _ => (C.T T).flat
def wZ : List j → Nat → Nat → Option Nat
 | [], _, _ => none
 | d :: ds, i, k => if k = 0 then some i else if d.wd ≤ k then wZ ds (i + 1) (k - d.wd) else none
def aN (C : b1) (s : ao) (T : TypeId) (x : j) : Option j :=
 match x with
 | .ref d => if fits C T d = true then some d else none
 | .U y k => match s y with
   | .agg ds => if j.d_ ds then none else match wZ ds 0 k with
     | some i => match ds[i]? with
       | some d => if j.dI (ds.take i) = k ∧ fits C T d = true then some (if d.plain then d else .h y [i]) else none
       | none => none
     | none => none
   | _ => none
 | x => match loc s x with
   | some (y, q) => match j.sub q (s y) with
     | some d => if fits C T d = true then some (if d.plain then d else .h y q) else none
     | none => none
   | none => none
theorem ax.one {F : Nat → Prop} {d : j} {cs : List Value} {S : Nat → Prop} (h : ax w F d cs S) (ag : ∀ ar, d ≠ .agg ar) (ah : ∀ ar, d ≠ .tuple ar) : ∃ v, cs = [v] ∧ Value.gw v = true := by
 cases d with
 | hole => rw [ax] at h; obtain ⟨v, h, rfl⟩ := h; exact ⟨v, rfl, h⟩
 | eo => rw [ax] at h; obtain ⟨v, rfl⟩ := h; exact ⟨_, rfl, rfl⟩
 | slice xs => rw [ax] at h; rcases h with ⟨_, a, c, rfl, _⟩ | ⟨b, o, cap, ea, sz, rfl, _⟩ <;> exact ⟨_, rfl, rfl⟩
 | ai sz xs => rw [ax] at h; rcases h with ⟨_, _, rfl⟩ | ⟨b, cap, cur, e, fr, dW, rfl, _⟩ <;> exact ⟨_, rfl, rfl⟩
 | ref d => rw [ax] at h; obtain ⟨b, o, ea, rfl, _⟩ := h; exact ⟨_, rfl, rfl⟩
 | aG d => rw [ax] at h; obtain ⟨b, cur, e, fr, dW, rfl, _⟩ := h; exact ⟨_, rfl, rfl⟩
 | agg ar => exact (ag _ rfl).elim
 | tuple ar => exact (ah _ rfl).elim
 | fn _ _ => rw [ax] at h; obtain ⟨arr, rfl, _⟩ := h; exact ⟨_, rfl, rfl⟩
 | h _ _ => rw [ax] at h; exact h.elim
 | ay _ _ => rw [ax] at h; exact h.elim
 | U _ _ => rw [ax] at h; exact h.elim
 | _ => rw [ax] at h; subst h; exact ⟨_, rfl, rfl⟩
theorem j.w1 {d : j} (h : d.single = true) : (∀ ar, d ≠ .agg ar) ∧ ∀ ar, d ≠ .tuple ar :=
 ⟨fun ar e => (by subst e; cases h), fun ar e => (by subst e; cases h)⟩
theorem aL.nU {F : Nat → Prop} {s : ao} {aE : Nat → Value} {d : j} {v : Value} (a3 : d.tree = true) (ab : d.single = true) (h : ax w F d [v] (fun _ => False)) : aL w F s aE d v (fun _ => False) := by
 obtain ⟨fK, e, ag⟩ := ax.one h (j.w1 ab).1 (j.w1 ab).2
 have : v = fK := by simpa using e
 subst this
 refine (aL.cJ a3).2 ⟨?_, by rw [gx ag]; exact h⟩
 cases d <;> first | exact ag | cases ab
mutual
theorem aL.nV {F : Nat → Prop} {s : ao} {aE : Nat → Value} : ∀ (d : j) (v : Value), d.single = true → ax w F d [v] (fun _ => False) → aL w F s aE d v (fun _ => False)
 | .fn f caps, v, _, h => by
   rw [ax] at h
   obtain ⟨arr, ag, ah, aM⟩ := h
   rw [aL]
   exact ⟨arr, by simpa using ag, dM.nV caps _ ah aM⟩
 | .bool b, v, ab, h => aL.nU rfl ab h
 | .eo, v, ab, h => aL.nU rfl ab h
 | .int k n, v, ab, h => aL.nU rfl ab h
 | .str x, v, ab, h => aL.nU rfl ab h
 | .dj, v, ab, h => aL.nU rfl ab h
 | .af, v, ab, h => aL.nU rfl ab h
 | .slice xs, v, ab, h => aL.nU rfl ab h
 | .ai sz xs, v, ab, h => aL.nU rfl ab h
 | .ref d, v, ab, h => aL.nU rfl ab h
 | .aG d, v, ab, h => aL.nU rfl ab h
 | .h _ _, v, _, h => by rw [ax] at h; exact h.elim
 | .ay _ _, v, _, h => by rw [ax] at h; exact h.elim
 | .U _ _, v, _, h => by rw [ax] at h; exact h.elim
theorem dM.nV {F : Nat → Prop} {s : ao} {aE : Nat → Value} : ∀ (ds : List j) (vs : List Value), (∀ d ∈ ds, d.single = true) → ba w F ds vs (fun _ => False) → dM w F s aE ds vs
 | [], vs, _, h => by rw [ba] at h; rw [dM]; exact h
 | d :: ds, vs, ab, h => by
   rw [ba] at h
   obtain ⟨bT, b4, b7, dA, rfl, ah, aM, bd, bI, _⟩ := h
   have ak := ab d (by simp)
   obtain ⟨v, rfl, _⟩ := ax.one ah (j.w1 ak).1 (j.w1 ak).2
   rw [dM]
   exact ⟨v, b4, rfl, aL.nV d v ak (ax.mono (fun _ h => h) _ _ _ _ (fun b U => bd b U) ah), dM.nV ds b4 (fun x aw => ab x (by simp [aw])) (ba.mono (fun _ h => h) _ _ _ _ (fun b U => bI b U) aM)⟩
end
theorem w2 (bt : C.eO) {T : TypeId} {d : j} {b o : Nat} {cs : List Value} {S : Nat → Prop} (h : hj w b o cs) (ak : ax w F d cs S)
  (hx : fits C T d = true) :
  ∃ v, (loadVar T ⟨b, o, none⟩).run C.P w = .ok v w ∧ cp v = cs ∧ dT d v := by
 unfold fits at hx
 by_cases ab : ∃ ar, (C.T T).k = .struct ar
 ·obtain ⟨ar, aB⟩ := ab
  rw [aB] at hx
  cases d with
  | agg ds =>
    simp only [beq_iff_eq] at hx
    refine ⟨_, K6 bt aB h ((ax.length _ _ _ ak).trans hx), rfl, ⟨_, rfl⟩⟩
  | _ => simp at hx
 ·have iI : (C.T T).flat = true ∧ (∀ ar, d ≠ .agg ar) ∧ (∀ ar, d ≠ .tuple ar) := by
   revert hx ab
   cases aB : (C.T T).k <;> cases d <;> simp
  obtain ⟨v, rfl, ag⟩ := ax.one ak iI.2.1 iI.2.2
  refine ⟨v, DY bt iI.1 h, gx ag, ?_⟩
  cases d <;> first | exact ag | exact (iI.2.1 _ rfl).elim | exact (iI.2.2 _ rfl).elim
theorem K7 (bt : C.eO) {T : TypeId} {d : j} {off : Nat} {arr : Array Value} {bT cs b4 : List Value} {S : Nat → Prop} (he : arr.toList = bT ++ (cs ++ b4)) (cr : bT.length = off) (ak : ax w F d cs S)
  (hx : fits C T d = true) :
  ∃ v, (part T arr off).run C.P w = .ok v w ∧ cp v = cs ∧ dT d v := by
 unfold fits at hx
 by_cases ab : ∃ ar, (C.T T).k = .struct ar
 ·obtain ⟨ar, aB⟩ := ab
  rw [aB] at hx
  cases d with
  | agg ds =>
    simp only [beq_iff_eq] at hx
    obtain ⟨i, d, z, a1, bg, bf, cn, c3, b_, bV⟩ := bt.info (fL aB (by simp))
    have hl : cs.length = (C.T T).sz := (ax.length _ _ _ ak).trans hx
    have aw : (arr.extract off (off + (C.T T).sz)).toList = cs := by
     rw [Array.toList_extract, he, List.extract_eq_take_drop, ← hl, ← cr, Nat.add_sub_cancel_left, List.drop_left, List.take_left]
    refine ⟨.agg (arr.extract off (off + (C.T T).sz)), ?_, by simpa [cp, hW] using aw, ⟨_, rfl⟩⟩
    simp [part, DV bt aB, jG a1, bg]
  | _ => simp at hx
 ·have iI : (C.T T).flat = true ∧ (∀ ar, d ≠ .agg ar) ∧ (∀ ar, d ≠ .tuple ar) := by
   revert hx ab
   cases aB : (C.T T).k <;> cases d <;> simp
  obtain ⟨v, rfl, ag⟩ := ax.one ak iI.2.1 iI.2.2
  have bQ : arr[off]? = some v := by
   rw [← Array.getElem?_toList, he, ← cr, List.getElem?_append_right (Nat.le_refl _)]; simp
  refine ⟨v, ?_, gx ag, ?_⟩
  ·simp [part, Aq bt iI.1, bQ]
  ·cases d <;> first | exact ag | exact (iI.2.1 _ rfl).elim | exact (iI.2.2 _ rfl).elim
theorem K8 (bt : C.eO) (h : bU w0 F0 X F S s aE w) {T : TypeId} {x : j} {v : Value} (aQ : aL w F s aE x v (fun _ => False)) (he : aN C s T x = some av) :
  Good C w0 F0 X aE w (Instr.loadAt T v) av s := by
 unfold aN at he
 split at he
 ·rename_i d
  split at he
  ·rename_i hx
   simp only [Option.some.injEq] at he; subst he
   have la := (aL.cJ rfl).1 aQ
   rw [ax, gx la.1] at la
   obtain ⟨ab, b, o, ea, ag, ah, aM, bd⟩ := la
   simp only [List.cons.injEq, and_true] at ag; subst ag
   obtain ⟨fK, a2, az, mE⟩ := w2 bt aM bd hx
   have ek : (Instr.loadAt T (.pointer (some ⟨b, o, none⟩))).run C.P w = .ok fK w := by simp [Instr.loadAt, Instr.sureAddr, a2]
   refine ⟨fK, w, F, S, ek, h, ?_⟩
   by_cases a3 : d.tree = true
   ·exact .inr ⟨a3, mE, fun _ => False, by rw [az]; exact bd, fun _ h => h.elim, fun _ h => h.elim, fun _ _ h => h.elim, fun _ h => h.elim⟩
   ·cases d <;> first | exact (a3 rfl).elim | (rw [ax] at bd; exact bd.elim) | exact .inl ⟨rfl, by rw [aL]; trivial⟩ | (have bI := bd; rw [ax] at bI; obtain ⟨arr, e, _⟩ := bI; rw [← az] at e bd; rw [gx (by exact mE)] at bd; exact .inl ⟨rfl, aL.nV _ _ rfl bd⟩)
  ·cases he
 ·rename_i y k
  split at he
  ·rename_i ds ma
   split at he
   ·cases he
   ·rename_i tV
    split at he
    ·rename_i i au
     split at he
     ·rename_i d ak
      split at he
      ·rename_i hx
       simp only [Option.some.injEq] at he
       have gG : (s y).plain = false := by rw [ma]; simp only [j.plain]; simpa using tV
       rw [aL] at aQ
       obtain ⟨b, cur, e, fr, rfl, ah, aM, bd⟩ := aQ gG
       have bL := h.dJ y
       rw [ma] at bL
       have DZ := ((aL.cJ rfl).1 bL).2
       rw [ax] at DZ
       obtain ⟨bT, fv, b4, b7, hn, iJ, g5, e5, fT, ho, e9, k6⟩ := ba.pick ds _ _ i d DZ ak
       have jm : hj w b k fv := by
        intro aK c cS
        have eC : aK < fv.length := (List.getElem?_eq_some_iff.1 cS).1
        have : cur.toList[k + aK]? = some c := by
         rw [bd, iJ, List.getElem?_append_right (by omega), List.getElem?_append_left (by omega), ← cS]; congr 1; omega
        simp [World.cell?, aM]
        simpa using this
       obtain ⟨fK, a2, az, mE⟩ := w2 bt jm e9 hx.2
       have ek : (Instr.loadAt T (.pointer (some ⟨b, k, none⟩))).run C.P w = .ok fK w := by simp [Instr.loadAt, Instr.sureAddr, a2]
       refine ⟨fK, w, F, S, ek, h, ?_⟩
       split at he
       ·rename_i ay
        subst he
        by_cases a3 : d.tree = true
        ·exact .inl ⟨ay, (aL.cJ a3).2 ⟨mE, by rw [az]; exact ax.plain _ _ _ _ ay e9⟩⟩
        ·cases d <;> first | exact (a3 rfl).elim | (rw [ax] at e9; exact e9.elim) | exact .inl ⟨rfl, by rw [aL]; trivial⟩ | (have bI := ax.plain _ _ _ (fun _ => False) ay e9; rw [← az] at bI; rw [gx (by exact mE)] at bI; exact .inl ⟨rfl, aL.nV _ _ rfl bI⟩)
       ·subst he
        refine .inl ⟨rfl, ?_⟩
        rw [aL]
        intro d2 ia _
        rw [ma] at ia ⊢
        simp only [j.sub, ak, Option.some.injEq] at ia
        subst ia
        refine ⟨fv, none, ?_, az, mE⟩
        simp only [c8, ak]
        rw [iJ, qv bT fv b4 _ _ g5 (ax.length _ _ _ e9)]
        rfl
      ·cases he
     ·cases he
    ·cases he
  ·cases he
 ·rename_i x _ _
  split at he
  ·rename_i y q hl
   split at he
   ·rename_i d ak
    split at he
    ·rename_i hx
     simp only [Option.some.injEq] at he
     obtain ⟨na, cU, b, o, rfl, ko⟩ := Am h aQ hl ak
     have bL := h.dJ y
     rw [aL.cJ (hX ak (.inr na))] at bL
     obtain ⟨fD, cN, ep, gF, k0, ch, cu, eF, dG, ff⟩ := ctx q (s y) (cp (aE y)) (S y) none _ bL.2 ak
     rw [k0] at ko
     simp only [Option.some.injEq, Prod.mk.injEq, true_and] at ko
     obtain ⟨rfl, rfl⟩ := ko
     have jm : hj w b o fD := by
      rcases ff with ⟨l, r, a1, bg, _⟩ | ⟨fl, cur, e, fr, l, r, a1, bg, bf, cn, c3, _⟩
      ·simp at bg
      ·simp only [Option.some.injEq, Prod.mk.injEq] at a1
       obtain ⟨rfl, rfl⟩ := a1
       intro aK c cS
       have eC : aK < fD.length := (List.getElem?_eq_some_iff.1 cS).1
       have : cur.toList[l.length + aK]? = some c := by
        rw [c3, List.getElem?_append_right (by omega), List.getElem?_append_left (by omega), ← cS]; congr 1; omega
       simp [World.cell?, bf]
       simpa using this
     obtain ⟨fK, a2, az, mE⟩ := w2 bt jm dG hx
     have ek : (Instr.loadAt T (.pointer (some ⟨b, o, none⟩))).run C.P w = .ok fK w := by simp [Instr.loadAt, Instr.sureAddr, a2]
     refine ⟨fK, w, F, S, ek, h, ?_⟩
     split at he
     ·rename_i ay
      subst he
      by_cases a3 : d.tree = true
      ·exact .inl ⟨ay, (aL.cJ a3).2 ⟨mE, by rw [az]; exact ax.plain _ _ _ _ ay dG⟩⟩
      ·cases d <;> first | exact (a3 rfl).elim | (rw [ax] at dG; exact dG.elim) | exact .inl ⟨rfl, by rw [aL]; trivial⟩ | (have bI := ax.plain _ _ _ (fun _ => False) ay dG; rw [← az] at bI; rw [gx (by exact mE)] at bI; exact .inl ⟨rfl, aL.nV _ _ rfl bI⟩)
     ·subst he
      refine .inl ⟨rfl, ?_⟩
      rw [aL]
      intro d2 ia _
      rw [ak] at ia
      simp only [Option.some.injEq] at ia
      subst ia
      exact ⟨_, _, k0, az, mE⟩
    ·cases he
   ·cases he
  ·cases he
mutual
theorem ax.qD {F : Nat → Prop} : ∀ (d : j) (cs : List Value) (S : Nat → Prop), ax w F d cs S → ∀ c ∈ cs, Value.gw c = true
 | .hole, cs, S, h => by rw [ax] at h; obtain ⟨v, h, rfl⟩ := h; simpa using h
 | .bool _, cs, S, h => by rw [ax] at h; subst h; simp [Value.gw]
 | .eo, cs, S, h => by rw [ax] at h; obtain ⟨b, rfl⟩ := h; simp [Value.gw]
 | .int _ _, cs, S, h => by rw [ax] at h; subst h; simp [Value.gw]
 | .str _, cs, S, h => by rw [ax] at h; subst h; simp [Value.gw]
 | .dj, cs, S, h => by rw [ax] at h; subst h; simp [Value.gw]
 | .af, cs, S, h => by rw [ax] at h; subst h; simp [Value.gw]
 | .slice xs, cs, S, h => by
   rw [ax] at h
   rcases h with ⟨_, a, c, rfl, _⟩ | ⟨b, o, cap, ea, sz, rfl, _⟩ <;> simp [Value.gw]
 | .ai sz xs, cs, S, h => by
   rw [ax] at h
   rcases h with ⟨_, _, rfl⟩ | ⟨b, cap, cur, e, fr, aU, rfl, _⟩ <;> simp [Value.gw]
 | .ref d, cs, S, h => by rw [ax] at h; obtain ⟨b, o, ea, rfl, _⟩ := h; simp [Value.gw]
 | .aG d, cs, S, h => by rw [ax] at h; obtain ⟨b, o, ea, _, _, rfl, _⟩ := h; simp [Value.gw]
 | .agg ar, cs, S, h => by rw [ax] at h; exact ba.qD ar _ _ h
 | .tuple ar, cs, S, h => by rw [ax] at h; exact ba.qD ar _ _ h
 | .fn _ _, cs, S, h => by rw [ax] at h; obtain ⟨arr, rfl, _⟩ := h; simp [Value.gw]
 | .h _ _, cs, S, h => by rw [ax] at h; exact h.elim
 | .ay _ _, cs, S, h => by rw [ax] at h; exact h.elim
 | .U _ _, cs, S, h => by rw [ax] at h; exact h.elim
theorem ba.qD {F : Nat → Prop} : ∀ (ds : List j) (cs : List Value) (S : Nat → Prop), ba w F ds cs S → ∀ c ∈ cs, Value.gw c = true
 | [], cs, S, h => by rw [ba] at h; subst h; simp
 | d :: ds, cs, S, h => by
   rw [ba] at h
   obtain ⟨bT, b4, b7, dA, rfl, ah, aM, _⟩ := h
   intro c az
   rcases List.mem_append.1 az with az | az
   ·exact ax.qD d _ _ ah c az
   ·exact ba.qD ds _ _ aM c az
end
theorem Ar {P : Program} {b o : Nat} {e : TypeId} {fr : Nat × Nat} : ∀ (vs : List Value) (i : Nat) (cur : Array Value) (w : World) (l m r : List Value), w.heap[b]? = some (.cells cur e fr) → pc fr cur.size →
  cur.toList = l ++ (m ++ r) → l.length = o + i → m.length = vs.length → (∀ v ∈ vs, Value.gw v = true) →
  ∃ aS, (storeCells ⟨b, o, none⟩ vs i).run P w = .ok () aS ∧ aS.heap[b]? = some (.cells (l ++ (vs ++ r)).toArray e fr) ∧ (∀ c, c ≠ b → aS.heap[c]? = w.heap[c]?) ∧ aS.heap.size = w.heap.size ∧ aS.os = w.os ∧ aS.tape = w.tape ∧ aS.output = w.output
 | [], i, cur, w, l, m, r, U, bY, az, hl, hm, _ => by
   refine ⟨w, rfl, ?_, fun _ _ => rfl, rfl, rfl, rfl, rfl⟩
   have : m = [] := by simpa using hm
   subst this
   rw [U]
   have : cur = (l ++ ([] ++ r)).toArray := by rw [← az]
   rw [← this]
 | v :: vs, i, cur, w, l, m, r, U, bY, az, hl, hm, w3 => by
   obtain ⟨x, m, rfl⟩ : ∃ x jn, m = x :: jn := by cases m with
    | nil => simp at hm
    | cons x m => exact ⟨x, m, rfl⟩
   have hlen : cur.size = (l ++ (x :: m ++ r)).length := by rw [← az]; simp
   have eC : o + i < cur.size := by rw [hlen]; simp; omega
   have w4 : w.cell? ⟨b, o + i, none⟩ = some cur[o + i] := by simp [World.cell?, U, eC]
   have K9 : w.frozen? ⟨b, o + i, none⟩ = false := by
    have := bY (o + i) eC
    simp only [World.frozen?, U]
    simp only [Bool.and_eq_false_iff, decide_eq_false_iff_not]
    by_cases ag : fr.1 ≤ o + i
    ·right; exact fun ah => this ⟨ag, ah⟩
    ·left; exact ag
   have pf : (w.setCell ⟨b, o + i, none⟩ v).heap[b]? = some (.cells ((l ++ [v]) ++ (m ++ r)).toArray e fr) := by
    simp only [World.setCell, Array.getElem?_modify, if_true, U, Option.map_some, Option.isSome_none, Bool.false_eq_true, if_false]
    congr 2
    apply Array.ext'
    rw [Array.toList_setIfInBounds, az, ← hl, List.set_append_right _ _ (Nat.le_refl _)]
    simp
   have qE : (store ((⟨b, o, none⟩ : Addr).add i) v).run P w = .ok () (w.setCell ⟨b, o + i, none⟩ v) := by
    have ag := w3 v (by simp)
    rw [Addr.add_lit]
    cases v <;> first | (simp [Value.gw] at ag; done) | simp [Go.store, Sem.run, w4, K9]
   obtain ⟨aS, a8, bA, ct, dZ, e6, hy, iu⟩ := Ar (P := P) (b := b) (o := o) vs (i + 1) _ (w.setCell ⟨b, o + i, none⟩ v) (l ++ [v]) m r pf (by
    have : (l ++ [v] ++ (m ++ r)).toArray.size = cur.size := by rw [hlen]; simp
    rw [this]; exact bY) (by simp) (by simp; omega) (by simpa using hm) (fun u hu => w3 u (by simp [hu]))
   refine ⟨aS, ?_, by simpa using bA, fun c az => ?_, ?_, e6, hy, iu⟩
   ·simp only [storeCells, Sem.run_bind, qE, Result.andThen]; exact a8
   ·rw [ct c az]
    simp only [World.setCell, Array.getElem?_modify]
    rw [if_neg (fun e => az e.symm)]
   ·rw [dZ]; simp [World.setCell]
theorem tW {d : j} {v : Value} (h : dT d v) (ak : ∀ ar, d ≠ .tuple ar) : v.cells = (cp v).toArray := by
 cases d with
 | tuple ar => exact (ak _ rfl).elim
 | agg ar => obtain ⟨arr, rfl⟩ := h; simp [Value.cells, cp, hW]
 | _ =>
   have ag : Value.gw v = true := h
   rw [gx ag]
   cases v <;> first | rfl | (simp [Value.gw] at ag)
def ck (C : b1) (s : ao) (T : TypeId) (x y : j) : Option ao :=
 match cG s y, loc s x with
 | some (d, s1), some (z, q) => match d with
   | .tuple _ => none
   | d => match j.sub q (s z) with
     | some d0 => if d.wd = d0.wd ∧ d.wd = (C.T T).sz ∧ (C.T T).ok = true ∧ y.owner ≠ some z then some (dq (ir z s1) z (j.put q d (s z))) else none
     | none => none
 | _, _ => none
theorem K_ {s s1 : ao} {y d : j} {z : Nat} (h : cG s y = some (d, s1)) (b2 : (s z).tree = true) (bL : y.owner ≠ some z) : s1 z = s z := by
 cases y with
 | h x q =>
   simp only [cG] at h
   split at h
   ·split at h
    ·cases h
    ·simp only [Option.some.injEq, Prod.mk.injEq] at h
     obtain ⟨_, rfl⟩ := h
     rw [jE _ _ (fun e => bL (by rw [j.owner, e]))]
     exact Ac b2
   ·cases h
 | ay x q => simp [cG] at h
 | U x q => simp [cG] at h
 | fn f c => simp [cG] at h
 | hole => simp [cG] at h
 | _ => simp only [cG, Option.some.injEq, Prod.mk.injEq] at h; rw [h.2]
theorem La (bt : C.eO) (h : bU w0 F0 X F S s aE w) {T : TypeId} {x y : j} {iK ib : Value} (As : aL w F s aE x iK (fun _ => False)) (bL : y.plain = true) (Lb : aL w F s aE y ib (fun _ => False))
  {s2 : ao} (he : ck C s T x y = some s2) :
  ∃ aS aU, (Instr.storeAt T iK ib).run C.P w = .ok () aS ∧ bU w0 F0 X F aU s2 aE aS := by
 unfold ck at he
 split at he
 ·rename_i d s1 z q a3 hl
  have key : ∀ d : j, (∀ ar, d ≠ .tuple ar) → cG s y = some (d, s1) → (match j.sub q (s z) with
   | some d0 => if d.wd = d0.wd ∧ d.wd = (C.T T).sz ∧ (C.T T).ok = true ∧ y.owner ≠ some z then some (dq (ir z s1) z (j.put q d (s z))) else none
   | none => none) = some s2 → ∃ aS aU, (Instr.storeAt T iK ib).run C.P w = .ok () aS ∧ bU w0 F0 X F aU s2 aE aS := by
   intro d oA a3 he
   split at he
   ·rename_i d0 lJ
    split at he
    ·rename_i qF
     obtain ⟨ag, ah, aM, bd⟩ := qF
     simp only [Option.some.injEq] at he; subst he
     obtain ⟨na, cU, b, o, rfl, ko⟩ := Am h As hl lJ
     obtain ⟨b7, g6, a8, bA, Sn, ct, dZ, e6, hy, iu, kM⟩ := nS h bL Lb a3
     have ef : s1 z = s z := K_ a3 (hX lJ (.inr na)) bd
     rw [← ef] at lJ na ko ⊢
     obtain ⟨fD, fl, l, r, cur, e, fr, k0, ch, cu, eF, dG⟩ := g6.store lJ na ct ag dZ e6 hy iu
     rw [ko] at k0
     simp only [Option.some.injEq, Prod.mk.injEq, true_and] at k0
     obtain ⟨rfl, rfl, rfl⟩ := k0
     obtain ⟨i, d, pe, a1, bg, bf, cn, c3, b_, bV⟩ := bt.info aM
     have hlen := ax.length _ _ _ ct
     have hm : cU.length = (cp ib).length := by
      have D0 := g6.dJ z
      rw [aL.cJ (hX lJ (.inr na))] at D0
      obtain ⟨_, _, _, _, m7, _, _, _, mb, _⟩ := ctx q (s1 z) (cp (aE z)) (b7 z) none _ D0.2 lJ
      rw [ko] at m7
      simp only [Option.some.injEq, Prod.mk.injEq, true_and] at m7
      rw [m7.1, ax.length _ _ _ mb, hlen, ag]
     obtain ⟨aS, fg, gy, iv, lb, mF, dK, oB⟩ := Ar (P := C.P) (b := b) (o := l.length) (e := e) (fr := fr) (cp ib) 0 cur w l cU r ch eF cu rfl hm (ax.qD _ _ _ ct)
     obtain ⟨aU, ff⟩ := dG aS gy iv lb mF dK oB
     refine ⟨aS, aU, ?_, ff⟩
     have nb := tW bA oA
     simp [Instr.storeAt, Instr.sureAddr, storeVar, jG a1, bg, nb, hlen, ah, fg]
    ·cases he
   ·cases he
  split at he
  ·cases he
  ·rename_i oA
   exact key _ (fun ar e => oA ar e) a3 he
 ·cases he
theorem bU.alloc (h : bU w0 F0 X F S s aE w) {d : j} {cs : List Value} {Sn : Nat → Prop} (e : TypeId) (aQ : ax w F d cs Sn)
  (eC : ∀ b, Sn b → b < w.heap.size) (bE : ∀ b, Sn b → ¬ F b) (b9 : ∀ u b, Sn b → ¬ S u b) (bM : ∀ b, Sn b → X b ∨ w0.heap.size ≤ b) :
  bU w0 F0 X F S s aE (w.alloc (.cells cs.toArray e)) ∧
   kq w0 X F S s aE (w.alloc (.cells cs.toArray e)) (.aG d) (.pointer (some ⟨w.heap.size, 0, none⟩)) := by
 have hold : ∀ b, b < w.heap.size → (w.alloc (.cells cs.toArray e)).heap[b]? = w.heap[b]? := by
  intro b U
  show (w.heap.push _)[b]? = _
  rw [Array.getElem?_push, if_neg (by omega)]
 refine ⟨h.grow hold (by simp) rfl rfl rfl, .inr ⟨rfl, rfl, fun b => b = w.heap.size ∨ Sn b, ?_, ?_, ?_, ?_, ?_⟩⟩
 ·rw [ax]
  refine ⟨w.heap.size, cs.toArray, e, (0, 0), Sn, rfl, .inl rfl, ?_, ?_, ?_, fun c az => .inr az, fun az => Nat.lt_irrefl _ (eC _ az)⟩
  ·show (w.heap.push _)[_]? = _
   simp
  ·intro o _ ⟨_, ah⟩; exact absurd ah (Nat.not_lt_zero _)
  ·exact ax.frame (fun b U => hold b (h.fU b U)) _ _ _ (fun b U => hold b (eC b U)) aQ
 ·rintro b (rfl | U)
  ·simp
  ·have := eC b U; simp; omega
 ·rintro b (rfl | U) tX
  ·exact Nat.lt_irrefl _ (h.fU _ tX)
  ·exact bE b U tX
 ·rintro u b (rfl | U) hu
  ·exact Nat.lt_irrefl _ (h.eX _ _ hu)
  ·exact b9 u b U hu
 ·rintro b (rfl | U)
  ·exact .inr h.size
  ·exact bM b U
def dH (C : b1) (T : TypeId) : Option j := if (C.T T).ok = true then (match flat (C.T T).zero with | some _ => some (.aG (C.T T).zero) | none => none) else none
theorem Lc (bt : C.eO) (h : bU w0 F0 X F S s aE w) {T : TypeId} (he : dH C T = some av) : Good C w0 F0 X aE w (Instr.alloc T true (.tuple #[])) av s := by
 unfold dH at he
 split at he
 ·rename_i aB
  split at he
  ·rename_i cs iJ
   simp only [Option.some.injEq] at he; subst he
   obtain ⟨i, d, z, a1, bg, bf, cn, c3, b_, bV⟩ := bt.info aB
   have b2 := c3 cs iJ
   obtain ⟨eE, fN⟩ := h.alloc (d := (C.T T).zero) T ((ax.flat _).1 _ cs (fun _ => False) (Nat.le_refl _) iJ) (fun _ h => h.elim) (fun _ h => h.elim) (fun _ _ h => h.elim) (fun _ h => h.elim)
   refine ⟨_, _, F, S, ?_, eE, fN⟩
   simp [Instr.alloc, tT a1 cn, newVar, newRow, newObj, Sem.run, b2]
  ·cases he
 ·cases he
def dk (s : ao) (x : j) : Option (j × ao) := match cG s x with
 | some (.tuple _, _) => none
 | some (d, s1) => some (.aG d, s1)
 | none => none
def hL (s : ao) (x : j) : Option (j × ao) := match x with
 | .h y q => match q, s y with
   | [], .agg ds => if j.d_ ds then none else some (.U y 0, s)
   | _, _ => none
 | .fn f caps => if caps.all (fun d => d.single && (d.tree && d.plain)) = true then some (.ref (.fn f caps), s) else none
 | _ => none
theorem ba.D1 {w : World} {F bO : Nat → Prop} {s : ao} {aE : Nat → Value} (bE : ∀ b, F b → bO b) : ∀ (ds : List j) (vs : List Value), (∀ d ∈ ds, d.single = true ∧ d.tree = true ∧ d.plain = true) → dM w F s aE ds vs → ba w bO ds vs (fun _ => False)
 | [], vs, _, h => by rw [dM] at h; rw [ba]; exact h
 | d :: ds, vs, ab, h => by
   rw [dM] at h
   obtain ⟨v, i9, rfl, ag, ah⟩ := h
   obtain ⟨d1, d2, d3⟩ := ab d (by simp)
   have aM := (aL.cJ d2).1 ag
   have cr : Value.gw v = true := by
    have := aM.1
    cases d <;> first | exact this | cases d1
   have bd := aM.2
   rw [gx cr] at bd
   rw [ba]
   exact ⟨[v], i9, fun _ => False, fun _ => False, rfl, ax.mono bE _ _ _ _ (fun _ h => h) bd, ba.D1 bE ds i9 (fun x aw => ab x (by simp [aw])) ah, fun _ h => h, fun _ h => h, fun _ h => h.elim⟩
theorem Ld {T : TypeId} {v : Value} (h : bU w0 F0 X F S s aE w) : bU w0 F0 X (fun b => F b ∨ b = w.heap.size) S s aE (w.alloc (.cells (cp v).toArray T)) := by
 have hold : ∀ b, b < w.heap.size → (w.alloc (.cells (cp v).toArray T)).heap[b]? = w.heap[b]? := by
  intro b U
  show (w.heap.push _)[b]? = _
  rw [Array.getElem?_push, if_neg (by omega)]
 have ag := h.grow hold (by simp) rfl rfl rfl
 exact {
  hp := fun b U => .inl (ag.hp b U)
  hJ := fun b U => by
   rcases U with U | rfl
   ·exact ag.hJ b U
   ·exact .inr (.inr h.size)
  fU := fun b U => by
   rcases U with U | rfl
   ·exact ag.fU b U
   ·simp
  eX := ag.eX
  ga := fun t b U bY => by
   rcases bY with bY | rfl
   ·exact ag.ga t b U bY
   ·exact absurd (h.eX t _ U) (Nat.lt_irrefl _)
  fJ := ag.fJ
  dW := ag.dW
  dJ := fun t => aL.frame (fun _ _ => rfl) (fun b U => .inl U) (fun _ _ _ => rfl) ag.dJ _ _ _ (fun _ _ => rfl) (ag.dJ t)
  old := ag.old
  size := ag.size
  os := ag.os
  tape := ag.tape
  output := ag.output }
theorem Le (h : bU w0 F0 X F S s aE w) {T : TypeId} {x : j} {v : Value} (aQ : aL w F s aE x v (fun _ => False)) (he : hL s x = some (av, s1)) :
  Good C w0 F0 X aE w (Instr.box T v) av s1 := by
 unfold hL at he
 split at he
 ·rename_i y q
  split at he
  ·rename_i ds ma
   split at he
   ·cases he
   ·rename_i tV
    simp only [Option.some.injEq, Prod.mk.injEq] at he
    obtain ⟨rfl, rfl⟩ := he
    rw [aL] at aQ
    obtain ⟨cU, a, a8, bA, ct⟩ := aQ (s y) (by simp only [j.sub]) (by rw [ma]; simp only [j.plain]; simpa using tV)
    simp only [c8, Option.some.injEq, Prod.mk.injEq, true_and] at a8
    rw [ma] at ct
    have nb := tW ct (fun ar e => by cases e)
    have hold : ∀ b, b < w.heap.size → (w.alloc (.cells (cp v).toArray T)).heap[b]? = w.heap[b]? := by
     intro b U
     show (w.heap.push _)[b]? = _
     rw [Array.getElem?_push, if_neg (by omega)]
    refine ⟨.pointer (some ⟨w.heap.size, 0, none⟩), w.alloc (.cells (cp v).toArray T), fun b => F b ∨ b = w.heap.size, S, by simp [Instr.box, newVar, newRow, newObj, Sem.run, nb], ?_, .inl ⟨rfl, ?_⟩⟩
    ·have ag := h.grow hold (by simp) rfl rfl rfl
     exact {
      hp := fun b U => .inl (ag.hp b U)
      hJ := fun b U => by
       rcases U with U | rfl
       ·exact ag.hJ b U
       ·exact .inr (.inr h.size)
      fU := fun b U => by
       rcases U with U | rfl
       ·exact ag.fU b U
       ·simp
      eX := ag.eX
      ga := fun t b U bY => by
       rcases bY with bY | rfl
       ·exact ag.ga t b U bY
       ·exact absurd (h.eX t _ U) (Nat.lt_irrefl _)
      fJ := ag.fJ
      dW := ag.dW
      dJ := fun t => aL.frame (fun _ _ => rfl) (fun b U => .inl U) (fun _ _ _ => rfl) ag.dJ _ _ _ (fun _ _ => rfl) (ag.dJ t)
      old := ag.old
      size := ag.size
      os := ag.os
      tape := ag.tape
      output := ag.output }
    ·rw [aL]
     intro _
     refine ⟨w.heap.size, (cp v).toArray, T, (0, 0), rfl, .inr rfl, ?_, ?_⟩
     ·show (w.heap.push _)[_]? = _
      simp
     ·rw [a8.1, ← bA]
  ·cases he
 ·rename_i f caps
  split at he
  ·rename_i az
   simp only [Option.some.injEq, Prod.mk.injEq] at he
   obtain ⟨rfl, rfl⟩ := he
   have iJ : ∀ d ∈ caps, d.single = true ∧ d.tree = true ∧ d.plain = true := fun d ak => by
    have := List.all_eq_true.1 az d ak
    simpa only [Bool.and_eq_true] using this
   rw [aL] at aQ
   obtain ⟨arr, rfl, aQ⟩ := aQ
   have nb := tW (d := .fn f caps) (v := .func (.func f) #[] arr) rfl (fun ar e => by cases e)
   have bQ := Ld (T := T) (v := .func (.func f) #[] arr) h
   refine ⟨.pointer (some ⟨w.heap.size, 0, none⟩), w.alloc (.cells (cp (.func (.func f) #[] arr)).toArray T), fun b => F b ∨ b = w.heap.size, S, by simp [Instr.box, newVar, newRow, newObj, Sem.run, nb], bQ, .inl ⟨rfl, ?_⟩⟩
   refine (aL.cJ rfl).2 ⟨rfl, ?_⟩
   rw [ax]
   refine ⟨w.heap.size, 0, [.func (.func f) #[] arr], rfl, .inr rfl, ?_, ?_⟩
   ·have kJ : (w.alloc (.cells (cp (.func (.func f) #[] arr)).toArray T)).heap[w.heap.size]? = some (.cells (cp (.func (.func f) #[] arr)).toArray T (0, 0)) := by
     show (w.heap.push _)[_]? = _
     simp
    intro aK c cS
    cases aK with
    | zero =>
      simp only [List.getElem?_cons_zero, Option.some.injEq] at cS
      subst cS
      have e : cp (.func (.func f) #[] arr) = [.func (.func f) #[] arr] := gx rfl
      unfold World.cell?
      show (match (w.alloc (.cells (cp (.func (.func f) #[] arr)).toArray T)).heap[w.heap.size]? with
       | some (.cells c _ _) => c[0 + 0]?
       | _ => none) = _
      rw [kJ, e]
      rfl
    | succ aK => simp at cS
   ·rw [ax]
    refine ⟨arr, rfl, fun d ak => (iJ d ak).1, ?_⟩
    have bI := ba.D1 (bO := F) (fun b U => U) caps arr.toList iJ aQ
    refine ba.mono (F := F) (fun b U => .inl U) caps _ _ _ (fun _ h => h) (ba.frame (fun b U => ?_) caps _ _ (fun _ h => h.elim) bI)
    have eC := h.fU b U
    show (w.heap.push _)[b]? = _
    rw [Array.getElem?_push, if_neg (by omega)]
  ·cases he
 ·cases he
theorem Lf (h : bU w0 F0 X F S s aE w) {T : TypeId} {x : j} {v : Value} (aw : x.plain = true) (aQ : aL w F s aE x v (fun _ => False)) (he : dk s x = some (av, s1)) :
  Good C w0 F0 X aE w (Instr.box T v) av s1 := by
 unfold dk at he
 split at he
 ·cases he
 ·rename_i d s2 oA a3
  simp only [Option.some.injEq, Prod.mk.injEq] at he
  obtain ⟨rfl, rfl⟩ := he
  obtain ⟨b7, g6, a8, bA, Sn, ct, dZ, e6, hy, iu, kM⟩ := nS h aw aQ a3
  obtain ⟨eE, fN⟩ := g6.alloc T ct dZ e6 hy iu
  refine ⟨_, _, F, b7, ?_, eE, fN⟩
  have nb := tW bA (fun ar e => oA ar e)
  simp [Instr.box, newVar, newRow, newObj, Sem.run, nb]
 ·cases he
end
end Go.dp
