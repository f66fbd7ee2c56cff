/- Part of a proof that a law returns true for every input. No condition. -/
import Derived.Test.YtobljppjkklojaaFwB
import Derived.Laws.Entries
namespace Go.cM
inductive ke where
 | int (k : IntKind)
 | bool
 | str
 | ptr (e : TypeId)
 | slice (e : TypeId)
 | struct (al : List (TypeId × Nat))
 | fn
 | other
structure fq where
 k : ke
 sz : Nat
 bytes : Nat
 zero : j
mutual
def flat : j → Option (List Value)
 | .bool b => some [.bool b]
 | .int k n => some [.int k n]
 | .str s => some [.string ⟨⟨s⟩⟩]
 | .cW => some [.pointer none]
 | .a_ => some [.slice none 0 0]
 | .agg al => mW al
 | _ => none
def mW : List j → Option (List Value)
 | [] => some []
 | d :: ds => match flat d, mW ds with
   | some a, some b => some (a ++ b)
   | _, _ => none
end
theorem aq.flat {w : World} {F : Nat → Prop} : ∀ n, (∀ (d : j) (cs : List Value) (S : Nat → Prop), SizeOf.sizeOf d ≤ n → flat d = some cs → aq w F d cs S) ∧
  (∀ (ds : List j) (cs : List Value) (S : Nat → Prop), SizeOf.sizeOf ds ≤ n → mW ds = some cs → aU w F ds cs S) := by
 intro n
 induction n with
 | zero => exact ⟨fun d _ _ bw => by cases d <;> simp at bw <;> omega, fun ds _ _ bw => by cases ds <;> simp at bw <;> omega⟩
 | succ n ih =>
   refine ⟨fun d cs S bw h => ?_, fun ds cs S bw h => ?_⟩
   ·cases d with
    | agg al => rw [aq]; exact ih.2 al cs S (by simp at bw; omega) (by simpa [cM.flat] using h)
    | bool b => simp [cM.flat] at h; subst h; rw [aq]
    | int k n => simp [cM.flat] at h; subst h; rw [aq]
    | str s => simp [cM.flat] at h; subst h; rw [aq]
    | cW => simp [cM.flat] at h; subst h; rw [aq]
    | a_ => simp [cM.flat] at h; subst h; rw [aq]
    | _ => simp [cM.flat] at h
   ·cases ds with
    | nil => simp [mW] at h; subst h; rw [aU]
    | cons d ds =>
      simp only [mW] at h
      split at h
      ·rename_i a b b1 J
       simp at h; subst h
       simp at bw
       rw [aU]
       exact ⟨a, b, fun _ => False, fun _ => False, rfl, ih.1 d a _ (by omega) b1, ih.2 ds b _ (by omega) J, fun _ h => h.elim, fun _ h => h.elim, fun _ h => h.elim⟩
      ·cases h
def js : ke → TypeDesc → Prop
 | .int k, .int dh => k = dh
 | .bool, .bool => True
 | .str, .string => True
 | .ptr e, .pointer eC => e = eC
 | .slice e, .slice eC => e = eC
 | .struct al, .struct gs => gs.toList.map (fun g => (g.type, g.offset)) = al
 | .fn, .func _ _ _ => True
 | _, _ => False
def z7 (P : Program) (t : TypeId) (x : fq) : Prop :=
 (∃ e n b z, x = ⟨.other, e, n, b⟩ ∧ z = 0) ∨
 ∃ i d z, P.info? t = some i ∧ i.size = x.sz ∧ i.bytes = x.bytes ∧ i.zero = some z ∧ (∀ cs, flat x.zero = some cs → z.cells = cs.toArray) ∧ P.underlying t = some d ∧ js x.k d
structure bN where
 P : Program
 T : TypeId → fq
 M : FuncId → List Bool
structure bN.Ok (C : bN) : Prop where
 ty : ∀ t, z7 C.P t (C.T t)
 mixed : C.P.follows .mixedOrders = true
inductive ax where
 | t (n : Nat)
 | c (av : j)
 | f (g : FuncId)
def tJ : Value → Option j
 | .bool b => some (.bool b)
 | .int k n => some (.int k n)
 | .string s => some (.str s.data.toList)
 | .pointer none => some .cW
 | .slice none 0 0 => some .a_
 | _ => none
def c9 : Operand → Option ax
 | .tmp n => some (.t n)
 | .const v => (tJ v).map .c
 | .func g => some (.f g)
 | .global _ => none
def hr (x : Nat) (d : j) : j := if d.plain then d else .h x []
def aD (s : ag) : ax → j
 | .t n => hr n (s n)
 | .c av => av
 | .f g => .fn g []
theorem aF.nothing {w : World} {F : Nat → Prop} {s : ag} {au : Nat → Value} {d : j} {v : Value} {S aH : Nat → Prop} (ao : d.plain = true) (h : aF w F s au d v S) : aF w F s au d v aH := by
 cases d <;> first
  | (rw [aF]; trivial)
  | (rw [aF] at h ⊢; exact h)
  | (have bq := (aF.cr rfl).1 h; exact (aF.cr rfl).2 ⟨bq.1, aq.plain _ _ _ _ ao bq.2⟩)
section
variable {w0 w : World} {F0 X F : Nat → Prop} {S : Nat → Nat → Prop} {s : ag} {au : Nat → Value} {a : Act}
theorem z8 (s : ag) (x : ax) (aj : ∀ av, x = .c av → av.plain = true) : (aD s x).plain = true := by
 cases x with
 | t n => simp only [aD, hr]; split <;> first | assumption | rfl
 | c av => exact aj _ rfl
 | f g => rfl
theorem w4 {v : Value} {av : j} (h : tJ v = some av) : av.plain = true := by
 unfold tJ at h; split at h <;> simp at h <;> subst h <;> rfl
theorem eU (h : bB w0 F0 X F S s au w) (dD : ∀ t, au t = a.tmps.getD t undef) {o : Operand} {x : ax} (bP : c9 o = some x) :
  (aD s x).plain = true ∧ aF w F s au (aD s x) (a.eval o) (fun _ => False) := by
 cases o with
 | tmp n =>
   simp [c9] at bP; subst bP
   simp only [aD, hr, Act.eval, ← dD]
   split
   ·rename_i ao; exact ⟨ao, aF.nothing ao (h.c7 n)⟩
   ·rename_i ao
    refine ⟨rfl, ?_⟩
    rw [aF]
    intro d af Gk
    simp only [j.sub, Option.some.injEq] at af; subst af
    have aP := gX (q := []) rfl (.inl Gk)
    exact ⟨_, none, rfl, rfl, ((aF.cr aP).1 (h.c7 n)).1⟩
 | const v =>
   simp only [c9, Option.map_eq_some_iff] at bP
   obtain ⟨av, lU, rfl⟩ := bP
   refine ⟨w4 lU, ?_⟩
   simp only [aD, Act.eval]
   unfold tJ at lU
   split at lU <;> simp at lU <;> subst lU <;> rw [aF, aq] <;> exact ⟨rfl, rfl⟩
 | func g =>
   simp [c9] at bP; subst bP
   refine ⟨rfl, ?_⟩
   simp only [aD, Act.eval]
   rw [aF]
   exact ⟨#[], rfl, by rw [dC]⟩
 | global g => simp [c9] at bP
def jb (w0 : World) (X F : Nat → Prop) (S : Nat → Nat → Prop) (s : ag) (au : Nat → Value) (w : World) (av : j) (v : Value) : Prop :=
 (av.plain = true ∧ aF w F s au av v (fun _ => False)) ∨
 (av.tree = true ∧ dt av v ∧ ∃ Sn, aq w F av (ch v) Sn ∧ (∀ b, Sn b → b < w.heap.size) ∧ (∀ b, Sn b → ¬ F b) ∧ (∀ u b, Sn b → ¬ S u b) ∧ (∀ b, Sn b → X b ∨ w0.heap.size ≤ b))
def fin (s : ag) (dst : Option Nat) (av : j) : ag := match dst with
 | none => s
 | some t => if av.plain then cS s t av else cS (jS t s) t av
def ot (au : Nat → Value) (dst : Option Nat) (v : Value) : Nat → Value := match dst with
 | none => au
 | some t => cS au t v
theorem bB.fin (h : bB w0 F0 X F S s au w) {av : j} {v : Value} (aG : jb w0 X F S s au w av v) (dst : Option Nat) :
  ∃ aH, bB w0 F0 X F aH (cM.fin s dst av) (ot au dst v) w := by
 cases dst with
 | none => exact ⟨S, h⟩
 | some t =>
   simp only [cM.fin, ot]
   rcases aG with ⟨ao, af⟩ | ⟨aP, U, Sn, aa, ab, aE, aZ, bG⟩
   ·rw [if_pos ao]; exact ⟨_, h.rF ao af⟩
   ·split
    ·rename_i ao
     exact ⟨_, h.rF ao ((aF.cr aP).2 ⟨U, aq.plain _ _ _ _ ao aa⟩)⟩
    ·exact ⟨_, h.zV aP U aa ab aE (fun u b _ J => aZ u b J) bG⟩
def cd (s : ag) : j → Option (j × ag)
 | .h x q => match j.sub q (s x) with
   | some d => if d.plain then none else some (d, cS (g9 x s) x (j.put q d.cD (s x)))
   | none => none
 | .ao _ _ => none
 | .J _ _ => none
 | .fn _ _ => none
 | .hole => none
 | d => some (d, s)
def j.owner : j → Option Nat
 | .h x _ => some x
 | _ => none
def iU : Option Nat → j → j
 | some x, d => bJ x d
 | none, d => d
theorem nw (h : bB w0 F0 X F S s au w) {av d : j} {s1 : ag} {v : Value} (lU : av.plain = true) (aG : aF w F s au av v (fun _ => False)) (aP : cd s av = some (d, s1)) :
  ∃ bW, bB w0 F0 X F bW s1 au w ∧ d.tree = true ∧ dt d v ∧ ∃ Sn, aq w F d (ch v) Sn ∧ (∀ b, Sn b → b < w.heap.size) ∧ (∀ b, Sn b → ¬ F b) ∧ (∀ u b, Sn b → ¬ bW u b) ∧ (∀ b, Sn b → X b ∨ w0.heap.size ≤ b) ∧
    (∀ u b, bW u b → S u b) ∧ (∀ b, Sn b → ∃ u, S u b) ∧ (∀ (bj : j) (e8 : Value) (aH : Nat → Prop), aF w F s au bj e8 aH → aF w F s1 au (iU av.owner bj) e8 aH) := by
 have tree : ∀ d : j, d.tree = true → d.plain = true → aF w F s au d v (fun _ => False) →
   ∃ bW, bB w0 F0 X F bW s au w ∧ d.tree = true ∧ dt d v ∧ ∃ Sn, aq w F d (ch v) Sn ∧ (∀ b, Sn b → b < w.heap.size) ∧ (∀ b, Sn b → ¬ F b) ∧ (∀ u b, Sn b → ¬ bW u b) ∧ (∀ b, Sn b → X b ∨ w0.heap.size ≤ b) ∧
     (∀ u b, bW u b → S u b) ∧ (∀ b, Sn b → ∃ u, S u b) := by
  intro d af _ bq
  have bq := (aF.cr af).1 bq
  exact ⟨S, h, af, bq.1, _, bq.2, fun _ h => h.elim, fun _ h => h.elim, fun _ _ h => h.elim, fun _ h => h.elim, fun _ _ h => h, fun _ h => h.elim⟩
 cases av with
 | h x q =>
   simp only [cd] at aP
   split at aP
   ·rename_i e he
    split at aP
    ·cases aP
    ·rename_i ao
     simp only [Option.some.injEq, Prod.mk.injEq] at aP
     obtain ⟨rfl, rfl⟩ := aP
     have ao : e.plain = false := by simpa using ao
     obtain ⟨Sn, fB, cv, cf, eh, eZ, jt, jT, Gl, Gm, Gn⟩ := h.take he ao
     rw [aF] at aG
     obtain ⟨ZT, cC, aV, bo, b8⟩ := aG e he ao
     rw [eZ] at aV
     simp only [Option.some.injEq, Prod.mk.injEq, true_and] at aV
     obtain ⟨rfl, rfl⟩ := aV
     have w5 : e.tree = true := by cases e <;> first | rfl | (simp [j.plain] at ao)
     refine ⟨_, eh, w5, b8, fB, by rw [bo]; exact jt, fun b J => h.dP x b (jT b J), fun b J => h.e7 x b (jT b J), ?_, fun b J => h.dd x b (jT b J), ?_, fun b J => ⟨x, jT b J⟩, Gn⟩
     ·intro u b J hu
      simp only [fD] at hu
      split at hu
      ·exact Gm b J hu
      ·rename_i tK; exact h.eT u x b tK hu (jT b J)
     ·intro u b hu
      simp only [fD] at hu
      split at hu
      ·rename_i e; subst e; exact Gl b hu
      ·exact hu
   ·cases aP
 | ao x q => simp [cd] at aP
 | J x q => simp [cd] at aP
 | fn f c => simp [cd] at aP
 | hole => simp [cd] at aP
 | ay sz xs => simp [j.plain] at lU
 | bD d => simp [j.plain] at lU
 | _ =>
   simp only [cd, Option.some.injEq, Prod.mk.injEq] at aP
   obtain ⟨rfl, rfl⟩ := aP
   obtain ⟨bW, t1, t2, t3, Sn, t4, t5, t6, t7, t8, t9, t10⟩ := tree _ rfl lU aG
   exact ⟨bW, t1, t2, t3, Sn, t4, t5, t6, t7, t8, t9, t10, fun _ _ _ h => h⟩
def loc (s : ag) : j → Option (Nat × List Nat)
 | .h x q => match j.sub q (s x) with
   | some (.bD _) => some (x, q ++ [0])
   | _ => none
 | .ao x q => if j.ei q (s x) then some (x, q) else none
 | _ => none
theorem tL : ∀ (q : List Nat) (av d : j) (r : List Nat), j.sub q av = some d → j.sub (q ++ r) av = j.sub r d := by
 intro q
 induction q with
 | nil => intro av d r h; simp [j.sub] at h; subst h; rfl
 | cons k q ih =>
   intro av d r h
   cases av with
   | agg al =>
     simp only [j.sub, List.cons_append] at h ⊢
     split at h
     ·rename_i x ai; exact ih _ _ _ h
     ·cases h
   | tuple al =>
     simp only [j.sub, List.cons_append] at h ⊢
     split at h
     ·rename_i x ai; exact ih _ _ _ h
     ·cases h
   | ay sz al =>
     simp only [j.sub, List.cons_append] at h ⊢
     split at h
     ·rename_i x ai; exact ih _ _ _ h
     ·cases h
   | bD x =>
     cases k with
     | zero => simp only [j.sub, List.cons_append] at h ⊢; exact ih _ _ _ h
     | succ k => simp [j.sub] at h
   | _ => simp [j.sub] at h
theorem Gp : ∀ (q : List Nat) (av d : j) (r : List Nat), j.sub q av = some d → j.ei (q ++ r) av = (j.ei q av || j.ei r d) := by
 intro q
 induction q with
 | nil => intro av d r h; simp [j.sub] at h; subst h; simp [j.ei]
 | cons k q ih =>
   intro av d r h
   cases av with
   | agg al =>
     simp only [j.sub] at h
     split at h
     ·rename_i x ai
      simp only [j.ei, List.cons_append, ai]
      exact ih _ _ r h
     ·cases h
   | tuple al =>
     simp only [j.sub] at h
     split at h
     ·rename_i x ai
      simp only [j.ei, List.cons_append, ai]
      exact ih _ _ r h
     ·cases h
   | ay sz al => simp [j.ei]
   | bD x => simp [j.ei]
   | _ => simp [j.sub] at h
theorem tM (w : World) : ∀ (q : List Nat) (av d : j) (cs cv : List Value) (a cf : Option (Nat × Nat)) (r : List Nat), cJ w q av cs a = some (d, cv, cf) → cJ w (q ++ r) av cs a = cJ w r d cv cf := by
 intro q
 induction q with
 | nil => intro av d cs cv a cf r h; simp [cJ] at h; obtain ⟨rfl, rfl, rfl⟩ := h; rfl
 | cons k q ih =>
   intro av d cs cv a cf r h
   cases av with
   | agg al =>
     rw [List.cons_append]
     rw [cJ] at h ⊢
     split at h
     ·rename_i x ai; exact ih _ _ _ _ _ _ _ h
     ·cases h
   | tuple al =>
     rw [List.cons_append]
     rw [cJ] at h ⊢
     split at h
     ·rename_i x ai; exact ih _ _ _ _ _ _ _ h
     ·cases h
   | ay sz al =>
     rw [List.cons_append]
     rw [cJ.eq_def] at h ⊢
     simp only at h ⊢
     split at h
     ·exact ih _ _ _ _ _ _ _ h
     ·cases h
   | bD x =>
     cases k with
     | zero =>
       rw [List.cons_append]
       rw [cJ.eq_def] at h ⊢
       simp only at h ⊢
       split at h
       ·exact ih _ _ _ _ _ _ _ h
       ·cases h
     | succ k => rw [show cJ w ((k + 1) :: q) (.bD x) cs a = none from rfl] at h; cases h
   | _ => simp [cJ] at h
end
def fq.ok (x : fq) : Bool := match x.k with
 | .other => false
 | _ => true
theorem bN.Ok.info {C : bN} (bm : C.Ok) {t : TypeId} (h : (C.T t).ok = true) :
  ∃ i d z, C.P.info? t = some i ∧ i.size = (C.T t).sz ∧ i.bytes = (C.T t).bytes ∧ i.zero = some z ∧ (∀ cs, flat (C.T t).zero = some cs → z.cells = cs.toArray) ∧ C.P.underlying t = some d ∧ js (C.T t).k d := by
 rcases bm.ty t with ⟨e, n, b, z, ai, _⟩ | bq
 ·rw [ai] at h; simp [fq.ok] at h
 ·exact bq
theorem fs {x : fq} {k : ke} (h : x.k = k) (aw : k ≠ .other) : x.ok = true := by
 unfold fq.ok; rw [h]; cases k <;> first | rfl | exact (aw rfl).elim
theorem w6 {d : TypeDesc} {al : List (TypeId × Nat)} (h : js (.struct al) d) : ∃ gs, d = .struct gs ∧ gs.toList.map (fun g => (g.type, g.offset)) = al := by
 cases d <;> simp [js] at h
 exact ⟨_, rfl, h⟩
theorem jc {d : TypeDesc} {e : TypeId} (h : js (.slice e) d) : d = .slice e := by
 cases d <;> simp [js] at h
 rw [h]
theorem tN {d : TypeDesc} {k : IntKind} (h : js (.int k) d) : d = .int k := by
 cases d <;> simp [js] at h
 rw [h]
theorem nx {d : TypeDesc} (h : js .str d) : d = .string := by
 cases d <;> simp [js] at h
 rfl
theorem z_ {d : TypeDesc} (h : js .bool d) : d = .bool := by
 cases d <;> simp [js] at h
 rfl
theorem Aa {d : TypeDesc} {e : TypeId} (h : js (.ptr e) d) : d = .pointer e := by
 cases d <;> simp [js] at h
 rw [h]
theorem g_ {v : Value} (h : Value.fz v = true) : ch v = [v] := by
 cases v <;> first | rfl | (simp [Value.fz] at h)
theorem ou {P : Program} {t : TypeId} {i : TypeInfo} (h : P.info? t = some i) (w : World) : (typeInfo t).run P w = .ok i w := by simp [typeInfo, h]
theorem iI {P : Program} {t : TypeId} {i : TypeInfo} (h : P.info? t = some i) (w : World) : (Go.sizeOf t).run P w = .ok i.size w := by simp [Go.sizeOf, ou h]
theorem rH {P : Program} {t : TypeId} {i : TypeInfo} {z : Value} (h : P.info? t = some i) (bw : i.zero = some z) (w : World) : (zeroValue t).run P w = .ok z w := by simp [zeroValue, ou h, bw]
section
variable {C : bN} {w0 w : World} {F0 X F : Nat → Prop} {S : Nat → Nat → Prop} {s s1 : ag} {au : Nat → Value} {av : j}
def Good (C : bN) (w0 : World) (F0 X : Nat → Prop) (au : Nat → Value) (w : World) (m : Sem Value) (av : j) (s1 : ag) : Prop :=
 ∃ v aB bA aH, m.run C.P w = .ok v aB ∧ bB w0 F0 X bA aH s1 au aB ∧ jb w0 X bA aH s1 au aB av v
theorem Good.same (h : bB w0 F0 X F S s au w) {m : Sem Value} {v : Value} (aO : m.run C.P w = .ok v w) (ao : av.plain = true) (aG : aF w F s au av v (fun _ => False)) : Good C w0 F0 X au w m av s :=
 ⟨v, w, F, S, aO, h, .inl ⟨ao, aG⟩⟩
theorem w7 (_h : bB w0 F0 X F S s au w) {x : j} {v : Value} (aG : aF w F s au x v (fun _ => False)) {y : Nat} {q : List Nat} (hl : loc s x = some (y, q)) {d : j} (af : j.sub q (s y) = some d) :
  j.ei q (s y) = true ∧ ∃ cv b o, v = .pointer (some ⟨b, o, none⟩) ∧ cJ w q (s y) (ch (au y)) none = some (d, cv, some (b, o)) := by
 cases x with
 | h z tO =>
   simp only [loc] at hl
   split at hl
   ·rename_i e he
    simp only [Option.some.injEq, Prod.mk.injEq] at hl
    obtain ⟨rfl, rfl⟩ := hl
    rw [aF] at aG
    obtain ⟨cv, a, aV, bo, b8⟩ := aG _ he rfl
    have fA : e = d := by
     rw [tL _ _ _ _ he] at af
     simpa [j.sub] using af
    subst fA
    refine ⟨by rw [Gp _ _ _ _ he]; simp [j.ei], ?_⟩
    have aa : Value.fz v = true := b8
    rw [g_ aa] at bo
    subst bo
    have ja := tM w tO (s z) _ _ _ none a [0] aV
    have ai := _h.c7 z
    rw [aF.cr (gX he (.inl rfl))] at ai
    obtain ⟨eS, cf, dH, fB, k0, b9, cj, d_, dv, e1⟩ := ctx tO (s z) (ch (au z)) (S z) none _ ai.2 he
    rw [k0] at aV
    simp only [Option.some.injEq, Prod.mk.injEq, true_and] at aV
    obtain ⟨rfl, rfl⟩ := aV
    rw [aq] at dv
    obtain ⟨b, cur, aT, fr, c6, bb, _⟩ := dv
    simp only [List.cons.injEq, and_true] at bb
    subst bb
    exact ⟨_, b, 0, rfl, by rw [ja]; rfl⟩
   ·cases hl
 | ao z tO =>
   simp only [loc] at hl
   split at hl
   ·rename_i aj
    simp only [Option.some.injEq, Prod.mk.injEq] at hl
    obtain ⟨rfl, rfl⟩ := hl
    rw [aF] at aG
    obtain ⟨cv, b, o, aV, bo⟩ := aG _ af aj
    exact ⟨aj, cv, b, o, bo, aV⟩
   ·cases hl
 | _ => simp [loc] at hl
def bs (C : bN) (s : ag) (T : TypeId) (x : j) (k : Nat) : Option j :=
 match (C.T T).k with
 | .struct al => match al[k]? with
   | some (ny, off) => if (C.T ny).ok = true ∧ (C.T ny).sz ≠ 0 then
     match x with
     | .ref (.agg ds) => match ds[k]? with
       | some d => if j.dm (ds.take k) = off then some (.ref d) else none
       | none => none
     | .J y o => if (s y).plain then none else some (.J y (o + off))
     | x => match loc s x with
       | some (y, q) => match j.sub q (s y) with
         | some (.agg ds) => if k < ds.length ∧ j.dm (ds.take k) = off then some (.ao y (q ++ [k])) else none
         | _ => none
       | none => none
     else none
   | none => none
 | _ => none
theorem Rd.w8 {w : World} {b o : Nat} {bT eR b4 : List Value} (h : Rd w b o (bT ++ (eR ++ b4))) : Rd w b (o + bT.length) eR := by
 intro ar c cc
 have dL : ar < eR.length := (List.getElem?_eq_some_iff.1 cc).1
 have := h (bT.length + ar) c (by rw [List.getElem?_append_right (by omega), List.getElem?_append_left (by omega), ← cc]; congr 1; omega)
 rw [Nat.add_assoc]; exact this
theorem w9 (bm : C.Ok) {T ny : TypeId} {al : List (TypeId × Nat)} {k off : Nat} (aw : (C.T T).k = .struct al) (bL : al[k]? = some (ny, off)) (aa : (C.T ny).ok = true) (ab : (C.T ny).sz ≠ 0) (b o : Nat) (w : World) :
  (Instr.fieldAt T (.pointer (some ⟨b, o, none⟩)) k).run C.P w = .ok (.pointer (some ⟨b, o + off, none⟩)) w := by
 obtain ⟨i, d, z, aJ, aT, bb, cn, c1, b6, bS⟩ := bm.info (fs aw (by simp))
 rw [aw] at bS
 obtain ⟨gs, rfl, kf⟩ := w6 bS
 obtain ⟨pQ, bj, nz, f1, f2, f3, f4, f5, f6, f7⟩ := bm.info aa
 have bH : ∃ g, gs[k]? = some g ∧ g.type = ny ∧ g.offset = off := by
  rw [← kf, List.getElem?_map] at bL
  simp only [Option.map_eq_some_iff, Prod.mk.injEq] at bL
  obtain ⟨g, aa, ab, aE⟩ := bL
  exact ⟨g, by simpa using aa, ab, aE⟩
 obtain ⟨g, aV, rfl, rfl⟩ := bH
 simp [Instr.fieldAt, run_underlying b6, aV, Instr.sureAddr, fieldPlace, iI f1, f2, ab, Addr.add_lit]
theorem Gq (bm : C.Ok) (h : bB w0 F0 X F S s au w) {T : TypeId} {x : j} {v : Value} {k : Nat} (ai : x.plain = true) (aG : aF w F s au x v (fun _ => False)) (he : bs C s T x k = some av) :
  Good C w0 F0 X au w (Instr.fieldAt T v k) av s := by
 unfold bs at he
 split at he
 ·rename_i al aw
  split at he
  ·rename_i ny off bL
   split at he
   ·rename_i pR
    split at he
    ·rename_i ds
     split at he
     ·rename_i d af
      split at he
      ·rename_i tP
       simp only [Option.some.injEq] at he; subst he
       have jU := (aF.cr rfl).1 aG
       rw [aq] at jU
       obtain ⟨U, b, o, dr, aa, ab, aE, aZ⟩ := jU
       rw [g_ U] at aa
       simp only [List.cons.injEq, and_true] at aa; subst aa
       rw [aq] at aZ
       obtain ⟨bT, eR, b4, bW, iE, rfl, gw, fI, ga, gV, fC, kb⟩ := aU.pick ds _ _ k d aZ af
       refine Good.same h (w9 bm aw bL pR.1 pR.2 b o w) rfl ((aF.cr rfl).2 ⟨rfl, ?_⟩)
       rw [aq]
       refine ⟨b, o + off, eR, rfl, ab, ?_, aq.mono (fun _ h => h) _ _ _ _ (fun b J => ga b J) fC⟩
       rw [← tP, ← gw]; exact aE.w8
      ·cases he
     ·cases he
    ·rename_i y o
     split at he
     ·cases he
     ·rename_i ao
      simp only [Option.some.injEq] at he; subst he
      rw [aF] at aG
      obtain ⟨b, cur, e, fr, rfl, ab, aE, aZ⟩ := aG (by simpa using ao)
      refine Good.same h (w9 bm aw bL pR.1 pR.2 b o w) rfl ?_
      rw [aF]
      exact fun _ => ⟨b, cur, e, fr, rfl, ab, aE, aZ⟩
    ·rename_i x _ _
     split at he
     ·rename_i y q hl
      split at he
      ·rename_i ds af
       split at he
       ·rename_i tP
        simp only [Option.some.injEq] at he; subst he
        obtain ⟨aj, cv, b, o, rfl, ja⟩ := w7 h aG hl af
        refine Good.same h (w9 bm aw bL pR.1 pR.2 b o w) rfl ?_
        rw [aF]
        intro d2 hP ov
        rw [tM w q _ _ _ _ _ _ [k] ja]
        rw [tL _ _ _ _ af] at hP
        have rI : ∃ d3, ds[k]? = some d3 := ⟨_, List.getElem?_eq_getElem tP.1⟩
        obtain ⟨d3, rJ⟩ := rI
        simp only [j.sub, rJ, Option.some.injEq] at hP
        subst hP
        simp only [cJ, rJ]
        refine ⟨(cv.drop off).take d3.wd, b, o + off, ?_, rfl⟩
        rw [tP.2]; rfl
       ·cases he
      ·cases he
     ·cases he
   ·cases he
  ·cases he
 ·cases he
def cp (C : bN) (s : ag) (T : TypeId) (x i : j) : Option j :=
 match (C.T T).k, i with
 | .slice e, .int _ n => if 0 ≤ n ∧ (C.T e).ok = true then
   match x with
   | .slice xs => match xs[n.toNat]? with
     | some d => if d.wd = (C.T e).sz then some (.ref d) else none
     | none => none
   | .h y q => match j.sub q (s y) with
     | some (.ay sz xs) => if n.toNat < xs.length ∧ sz = (C.T e).sz then some (.ao y (q ++ [n.toNat])) else none
     | _ => none
   | _ => none
   else none
 | _, _ => none
theorem Ab (bm : C.Ok) {T e : TypeId} (aw : (C.T T).k = .slice e) (he : (C.T e).ok = true) (b o len cap : Nat) (k : IntKind) (n : Nat) (bh : n < len) (w : World) :
  (Instr.indexAt T (.slice (some ⟨b, o, none⟩) len cap) (.int k n)).run C.P w = .ok (.pointer (some ⟨b, o + n * (C.T e).sz, none⟩)) w := by
 obtain ⟨i, d, z, aJ, aT, bb, cn, c1, b6, bS⟩ := bm.info (fs aw (by simp))
 rw [aw] at bS
 have := jc bS; subst this
 obtain ⟨pQ, bj, nz, f1, f2, f3, f4, f5, f6, f7⟩ := bm.info he
 simp [Instr.indexAt, run_underlying b6, asIntOf, bh, iI f1, f2, Addr.add_lit]
theorem Gr (bm : C.Ok) (h : bB w0 F0 X F S s au w) {T : TypeId} {x i : j} {v pS : Value} (aG : aF w F s au x v (fun _ => False)) (Gs : aF w F s au i pS (fun _ => False))
  (he : cp C s T x i = some av) : Good C w0 F0 X au w (Instr.indexAt T v pS) av s := by
 unfold cp at he
 split at he
 ·rename_i e k n aw
  have w_ := (aF.cr rfl).1 Gs
  rw [aq, g_ w_.1] at w_
  have : pS = .int k n := by simpa using w_.2
  subst this
  split at he
  ·rename_i bh
   obtain ⟨n, rfl⟩ := Int.eq_ofNat_of_zero_le bh.1
   simp only [Int.toNat_natCast] at he
   split at he
   ·rename_i xs
    split at he
    ·rename_i d af
     split at he
     ·rename_i hw
      simp only [Option.some.injEq] at he; subst he
      have jU := (aF.cr rfl).1 aG
      rw [aq, g_ jU.1] at jU
      obtain ⟨U, ⟨rfl, _⟩ | ⟨b, o, cap, dr, sz, aa, ab, aE, aZ, bG, b7, b5⟩⟩ := jU
      ·simp at af
      ·simp only [List.cons.injEq, and_true] at aa; subst aa
       have dL : n < xs.length := (List.getElem?_eq_some_iff.1 af).1
       obtain ⟨bT, eR, b4, bW, iE, rfl, gw, fI, ga, gV, fC, kb⟩ := aU.pick xs _ _ n d b5 af
       refine Good.same h (Ab bm aw bh.2 b o _ _ k n dL w) rfl ((aF.cr rfl).2 ⟨rfl, ?_⟩)
       rw [aq]
       refine ⟨b, _, eR, rfl, ab, ?_, aq.mono (fun _ h => h) _ _ _ _ (fun b J => ga b J) fC⟩
       have Gt := bG d (List.mem_of_getElem? af)
       have : n * (C.T e).sz = bT.length := by
        rw [gw, oj _ (fun d af => bG d (List.mem_of_mem_take af)), List.length_take, Nat.min_eq_left (by omega), ← hw, Gt]
       rw [this]; exact b7.w8
     ·cases he
    ·cases he
   ·rename_i y q
    split at he
    ·rename_i sz xs af
     split at he
     ·rename_i hw
      simp only [Option.some.injEq] at he; subst he
      rw [aF] at aG
      obtain ⟨cv, a, aV, bo, b8⟩ := aG _ af rfl
      have U : Value.fz v = true := b8
      rw [g_ U] at bo; subst bo
      have ai := h.c7 y
      rw [aF.cr (gX af (.inl rfl))] at ai
      obtain ⟨eS, cf, dH, fB, k0, b9, cj, d_, dv, e1⟩ := ctx q (s y) (ch (au y)) (S y) none _ ai.2 af
      rw [k0] at aV
      simp only [Option.some.injEq, Prod.mk.injEq, true_and] at aV
      obtain ⟨rfl, rfl⟩ := aV
      rw [aq] at dv
      rcases dv with ⟨rfl, _⟩ | ⟨b, cap, cur, aT, fr, c6, bb, _⟩
      ·simp at hw
      ·simp only [List.cons.injEq, and_true] at bb; subst bb
       refine Good.same h (Ab bm aw bh.2 b 0 _ _ k n hw.1 w) rfl ?_
       rw [aF]
       intro d2 hP _
       rw [tM w q _ _ _ _ _ _ [n] k0]
       rw [tL _ _ _ _ af] at hP
       obtain ⟨d3, rJ⟩ : ∃ d3, xs[n]? = some d3 := ⟨_, List.getElem?_eq_getElem hw.1⟩
       simp only [j.sub, rJ, Option.some.injEq] at hP
       subst hP
       simp only [cJ, rJ]
       exact ⟨_, b, n * sz, rfl, by simp [hw.2]⟩
     ·cases he
    ·cases he
   ·cases he
  ·cases he
 ·cases he
end
section
variable {C : bN} {w0 w : World} {F0 X F : Nat → Prop} {S : Nat → Nat → Prop} {s s1 : ag} {au : Nat → Value} {av : j}
theorem Gu (bm : C.Ok) {T : TypeId} {al : List (TypeId × Nat)} (aw : (C.T T).k = .struct al) (w : World) : (isAgg T).run C.P w = .ok true w := by
 obtain ⟨i, d, z, aJ, aT, bb, cn, c1, b6, bS⟩ := bm.info (fs aw (by simp))
 rw [aw] at bS
 obtain ⟨gs, rfl, _⟩ := w6 bS
 simp [isAgg, run_underlying b6]
def fq.flat (x : fq) : Bool := match x.k with
 | .other => false
 | .struct _ => false
 | _ => true
theorem Ac {x : fq} (h : x.flat = true) : x.ok = true := by
 unfold fq.flat at h; unfold fq.ok; revert h; cases x.k <;> simp
theorem Gv (bm : C.Ok) {T : TypeId} (aw : (C.T T).flat = true) (w : World) : (isAgg T).run C.P w = .ok false w := by
 obtain ⟨i, d, z, aJ, aT, bb, cn, c1, b6, bS⟩ := bm.info (Ac aw)
 have cZ : (∀ al, d ≠ .struct al) ∧ (∀ n e, d ≠ .array n e) := by
  clear b6
  unfold fq.flat at aw
  generalize (C.T T).k = iJ at *
  cases iJ <;> cases d <;> simp [js] at bS aw ⊢
 cases d <;> first | exact (cZ.1 _ rfl).elim | exact (cZ.2 _ _ rfl).elim | simp [isAgg, run_underlying b6]
theorem Rd.one {w : World} {b o : Nat} {v : Value} (h : Rd w b o [v]) : w.cell? ⟨b, o, none⟩ = some v := by simpa using h 0 v rfl
theorem Ad {P : Program} {b o : Nat} : ∀ (cs : List Value) (i : Nat) (acc : Array Value), Rd w b (o + i) cs → (loadCellsFrom ⟨b, o, none⟩ i cs.length acc).run P w = .ok (acc ++ cs.toArray) w
 | [], i, acc, _ => by simp [loadCellsFrom]
 | c :: cs, i, acc, h => by
   have bp : w.cell? ⟨b, o + i, none⟩ = some c := by simpa using h 0 c rfl
   have aa : Rd w b (o + (i + 1)) cs := by
    intro ar x cc
    have := h (ar + 1) x (by simpa using cc)
    rw [← this]; congr 2; omega
   have ih := Ad (P := P) cs (i + 1) (acc.push c) aa
   simp only [List.length_cons, loadCellsFrom, Sem.run_bind, Go.load, Sem.run, Addr.add_lit, bp, Result.andThen]
   rw [ih]; simp
theorem Gw (bm : C.Ok) {T : TypeId} {al : List (TypeId × Nat)} (aw : (C.T T).k = .struct al) {b o : Nat} {cs : List Value} (h : Rd w b o cs) (hl : cs.length = (C.T T).sz) :
  (loadVar T ⟨b, o, none⟩).run C.P w = .ok (.agg cs.toArray) w := by
 obtain ⟨i, d, z, aJ, aT, bb, cn, c1, b6, bS⟩ := bm.info (fs aw (by simp))
 have := Ad (P := C.P) (b := b) (o := o) cs 0 #[] (by simpa using h)
 simp only [loadVar, Sem.run_bind, Gu bm aw, Result.andThen, if_true, iI aJ, aT, ← hl, loadCells, this]
 simp
theorem Ae (bm : C.Ok) {T : TypeId} (aw : (C.T T).flat = true) {b o : Nat} {v : Value} (h : Rd w b o [v]) :
  (loadVar T ⟨b, o, none⟩).run C.P w = .ok v w := by
 simp [loadVar, Gv bm aw, Go.load, Sem.run, h.one]
def fits (C : bN) (T : TypeId) (d : j) : Bool := match (C.T T).k, d with
    | .struct _, .agg ds => j.dm ds == (C.T T).sz
    | .struct _, _ => false
    | _, .agg _ => false
    | _, .tuple _ => false
    | _, _ => (C.T T).flat
def tQ : List j → Nat → Nat → Option Nat
 | [], _, _ => none
 | d :: ds, i, k => if k = 0 then some i else if d.wd ≤ k then tQ ds (i + 1) (k - d.wd) else none
def aW (C : bN) (s : ag) (T : TypeId) (x : j) : Option j :=
 match x with
 | .ref d => if fits C T d = true then some d else none
 | .J y k => match s y with
   | .agg ds => if j.dz ds then none else match tQ ds 0 k with
     | some i => match ds[i]? with
       | some d => if j.dm (ds.take i) = k ∧ fits C T d = true then some (if d.plain then d else .h y [i]) else none
       | none => none
     | none => none
   | _ => none
 | x => match loc s x with
   | some (y, q) => match j.sub q (s y) with
     | some d => if fits C T d = true then some (if d.plain then d else .h y q) else none
     | none => none
   | none => none
theorem aq.one {F : Nat → Prop} {d : j} {cs : List Value} {S : Nat → Prop} (h : aq w F d cs S) (aa : ∀ al, d ≠ .agg al) (ab : ∀ al, d ≠ .tuple al) : ∃ v, cs = [v] ∧ Value.fz v = true := by
 cases d with
 | hole => rw [aq] at h; obtain ⟨v, h, rfl⟩ := h; exact ⟨v, rfl, h⟩
 | dO => rw [aq] at h; obtain ⟨v, rfl⟩ := h; exact ⟨_, rfl, rfl⟩
 | slice xs => rw [aq] at h; rcases h with ⟨_, a, c, rfl, _⟩ | ⟨b, o, cap, dr, sz, rfl, _⟩ <;> exact ⟨_, rfl, rfl⟩
 | ay sz xs => rw [aq] at h; rcases h with ⟨_, _, rfl⟩ | ⟨b, cap, cur, e, fr, dd, rfl, _⟩ <;> exact ⟨_, rfl, rfl⟩
 | ref d => rw [aq] at h; obtain ⟨b, o, dr, rfl, _⟩ := h; exact ⟨_, rfl, rfl⟩
 | bD d => rw [aq] at h; obtain ⟨b, cur, e, fr, dd, rfl, _⟩ := h; exact ⟨_, rfl, rfl⟩
 | agg al => exact (aa _ rfl).elim
 | tuple al => exact (ab _ rfl).elim
 | fn _ _ => rw [aq] at h; exact h.elim
 | h _ _ => rw [aq] at h; exact h.elim
 | ao _ _ => rw [aq] at h; exact h.elim
 | J _ _ => rw [aq] at h; exact h.elim
 | _ => rw [aq] at h; subst h; exact ⟨_, rfl, rfl⟩
theorem tR (bm : C.Ok) {T : TypeId} {d : j} {b o : Nat} {cs : List Value} {S : Nat → Prop} (h : Rd w b o cs) (af : aq w F d cs S)
  (iu : fits C T d = true) :
  ∃ v, (loadVar T ⟨b, o, none⟩).run C.P w = .ok v w ∧ ch v = cs ∧ dt d v := by
 unfold fits at iu
 by_cases U : ∃ al, (C.T T).k = .struct al
 ·obtain ⟨al, aw⟩ := U
  rw [aw] at iu
  cases d with
  | agg ds =>
    simp only [beq_iff_eq] at iu
    refine ⟨_, Gw bm aw h ((aq.length _ _ _ af).trans iu), rfl, ⟨_, rfl⟩⟩
  | _ => simp at iu
 ·have ju : (C.T T).flat = true ∧ (∀ al, d ≠ .agg al) ∧ (∀ al, d ≠ .tuple al) := by
   revert iu U
   cases aw : (C.T T).k <;> cases d <;> simp
  obtain ⟨v, rfl, aa⟩ := aq.one af ju.2.1 ju.2.2
  refine ⟨v, Ae bm ju.1 h, g_ aa, ?_⟩
  cases d <;> first | exact aa | exact (ju.2.1 _ rfl).elim | exact (ju.2.2 _ rfl).elim
theorem Gx (bm : C.Ok) (h : bB w0 F0 X F S s au w) {T : TypeId} {x : j} {v : Value} (aG : aF w F s au x v (fun _ => False)) (he : aW C s T x = some av) :
  Good C w0 F0 X au w (Instr.loadAt T v) av s := by
 unfold aW at he
 split at he
 ·rename_i d
  split at he
  ·rename_i iu
   simp only [Option.some.injEq] at he; subst he
   have jU := (aF.cr rfl).1 aG
   rw [aq, g_ jU.1] at jU
   obtain ⟨U, b, o, dr, aa, ab, aE, aZ⟩ := jU
   simp only [List.cons.injEq, and_true] at aa; subst aa
   obtain ⟨e8, aO, aj, ow⟩ := tR bm aE aZ iu
   have dV : (Instr.loadAt T (.pointer (some ⟨b, o, none⟩))).run C.P w = .ok e8 w := by simp [Instr.loadAt, Instr.sureAddr, aO]
   refine ⟨e8, w, F, S, dV, h, ?_⟩
   by_cases aP : d.tree = true
   ·exact .inr ⟨aP, ow, fun _ => False, by rw [aj]; exact aZ, fun _ h => h.elim, fun _ h => h.elim, fun _ _ h => h.elim, fun _ h => h.elim⟩
   ·cases d <;> first | exact (aP rfl).elim | (rw [aq] at aZ; exact aZ.elim) | exact .inl ⟨rfl, by rw [aF]; trivial⟩
  ·cases he
 ·rename_i y k
  split at he
  ·rename_i ds kB
   split at he
   ·cases he
   ·rename_i rK
    split at he
    ·rename_i i az
     split at he
     ·rename_i d af
      split at he
      ·rename_i iu
       simp only [Option.some.injEq] at he
       have gj : (s y).plain = false := by rw [kB]; simp only [j.plain]; simpa using rK
       rw [aF] at aG
       obtain ⟨b, cur, e, fr, rfl, ab, aE, aZ⟩ := aG gj
       have bC := h.c7 y
       rw [kB] at bC
       have Af := ((aF.cr rfl).1 bC).2
       rw [aq] at Af
       obtain ⟨bT, eR, b4, bW, iE, hF, gw, fI, ga, gV, fC, kb⟩ := aU.pick ds _ _ i d Af af
       have h2 : Rd w b k eR := by
        intro ar c cc
        have dL : ar < eR.length := (List.getElem?_eq_some_iff.1 cc).1
        have : cur.toList[k + ar]? = some c := by
         rw [aZ, hF, List.getElem?_append_right (by omega), List.getElem?_append_left (by omega), ← cc]; congr 1; omega
        simp [World.cell?, aE]
        simpa using this
       obtain ⟨e8, aO, aj, ow⟩ := tR bm h2 fC iu.2
       have dV : (Instr.loadAt T (.pointer (some ⟨b, k, none⟩))).run C.P w = .ok e8 w := by simp [Instr.loadAt, Instr.sureAddr, aO]
       refine ⟨e8, w, F, S, dV, h, ?_⟩
       split at he
       ·rename_i ao
        subst he
        by_cases aP : d.tree = true
        ·exact .inl ⟨ao, (aF.cr aP).2 ⟨ow, by rw [aj]; exact aq.plain _ _ _ _ ao fC⟩⟩
        ·cases d <;> first | exact (aP rfl).elim | (rw [aq] at fC; exact fC.elim) | exact .inl ⟨rfl, by rw [aF]; trivial⟩
       ·subst he
        refine .inl ⟨rfl, ?_⟩
        rw [aF]
        intro d2 hP _
        rw [kB] at hP ⊢
        simp only [j.sub, af, Option.some.injEq] at hP
        subst hP
        refine ⟨eR, none, ?_, aj, ow⟩
        simp only [cJ, af]
        rw [hF, pL bT eR b4 _ _ gw (aq.length _ _ _ fC)]
        rfl
      ·cases he
     ·cases he
    ·cases he
  ·cases he
 ·rename_i x _ _
  split at he
  ·rename_i y q hl
   split at he
   ·rename_i d af
    split at he
    ·rename_i iu
     simp only [Option.some.injEq] at he
     obtain ⟨lV, cv, b, o, rfl, ja⟩ := w7 h aG hl af
     have bC := h.c7 y
     rw [aF.cr (gX af (.inr lV))] at bC
     obtain ⟨eS, cf, dH, fB, k0, b9, cj, d_, dv, e1⟩ := ctx q (s y) (ch (au y)) (S y) none _ bC.2 af
     rw [k0] at ja
     simp only [Option.some.injEq, Prod.mk.injEq, true_and] at ja
     obtain ⟨rfl, rfl⟩ := ja
     have h2 : Rd w b o eS := by
      rcases e1 with ⟨l, r, aJ, aT, _⟩ | ⟨ew, cur, e, fr, l, r, aJ, aT, bb, cn, c1, _⟩
      ·simp at aT
      ·simp only [Option.some.injEq, Prod.mk.injEq] at aJ
       obtain ⟨rfl, rfl⟩ := aJ
       intro ar c cc
       have dL : ar < eS.length := (List.getElem?_eq_some_iff.1 cc).1
       have : cur.toList[l.length + ar]? = some c := by
        rw [c1, List.getElem?_append_right (by omega), List.getElem?_append_left (by omega), ← cc]; congr 1; omega
       simp [World.cell?, bb]
       simpa using this
     obtain ⟨e8, aO, aj, ow⟩ := tR bm h2 dv iu
     have dV : (Instr.loadAt T (.pointer (some ⟨b, o, none⟩))).run C.P w = .ok e8 w := by simp [Instr.loadAt, Instr.sureAddr, aO]
     refine ⟨e8, w, F, S, dV, h, ?_⟩
     split at he
     ·rename_i ao
      subst he
      by_cases aP : d.tree = true
      ·exact .inl ⟨ao, (aF.cr aP).2 ⟨ow, by rw [aj]; exact aq.plain _ _ _ _ ao dv⟩⟩
      ·cases d <;> first | exact (aP rfl).elim | (rw [aq] at dv; exact dv.elim) | exact .inl ⟨rfl, by rw [aF]; trivial⟩
     ·subst he
      refine .inl ⟨rfl, ?_⟩
      rw [aF]
      intro d2 hP _
      rw [af] at hP
      simp only [Option.some.injEq] at hP
      subst hP
      exact ⟨_, _, k0, aj, ow⟩
    ·cases he
   ·cases he
  ·cases he
mutual
theorem aq.ox {F : Nat → Prop} : ∀ (d : j) (cs : List Value) (S : Nat → Prop), aq w F d cs S → ∀ c ∈ cs, Value.fz c = true
 | .hole, cs, S, h => by rw [aq] at h; obtain ⟨v, h, rfl⟩ := h; simpa using h
 | .bool _, cs, S, h => by rw [aq] at h; subst h; simp [Value.fz]
 | .dO, cs, S, h => by rw [aq] at h; obtain ⟨b, rfl⟩ := h; simp [Value.fz]
 | .int _ _, cs, S, h => by rw [aq] at h; subst h; simp [Value.fz]
 | .str _, cs, S, h => by rw [aq] at h; subst h; simp [Value.fz]
 | .cW, cs, S, h => by rw [aq] at h; subst h; simp [Value.fz]
 | .a_, cs, S, h => by rw [aq] at h; subst h; simp [Value.fz]
 | .slice xs, cs, S, h => by
   rw [aq] at h
   rcases h with ⟨_, a, c, rfl, _⟩ | ⟨b, o, cap, dr, sz, rfl, _⟩ <;> simp [Value.fz]
 | .ay sz xs, cs, S, h => by
   rw [aq] at h
   rcases h with ⟨_, _, rfl⟩ | ⟨b, cap, cur, e, fr, aH, rfl, _⟩ <;> simp [Value.fz]
 | .ref d, cs, S, h => by rw [aq] at h; obtain ⟨b, o, dr, rfl, _⟩ := h; simp [Value.fz]
 | .bD d, cs, S, h => by rw [aq] at h; obtain ⟨b, o, dr, _, _, rfl, _⟩ := h; simp [Value.fz]
 | .agg al, cs, S, h => by rw [aq] at h; exact aU.ox al _ _ h
 | .tuple al, cs, S, h => by rw [aq] at h; exact aU.ox al _ _ h
 | .fn _ _, cs, S, h => by rw [aq] at h; exact h.elim
 | .h _ _, cs, S, h => by rw [aq] at h; exact h.elim
 | .ao _ _, cs, S, h => by rw [aq] at h; exact h.elim
 | .J _ _, cs, S, h => by rw [aq] at h; exact h.elim
theorem aU.ox {F : Nat → Prop} : ∀ (ds : List j) (cs : List Value) (S : Nat → Prop), aU w F ds cs S → ∀ c ∈ cs, Value.fz c = true
 | [], cs, S, h => by rw [aU] at h; subst h; simp
 | d :: ds, cs, S, h => by
   rw [aU] at h
   obtain ⟨bT, b4, bW, c6, rfl, ab, aE, _⟩ := h
   intro c aj
   rcases List.mem_append.1 aj with aj | aj
   ·exact aq.ox d _ _ ab c aj
   ·exact aU.ox ds _ _ aE c aj
end
theorem xa {P : Program} {b o : Nat} {e : TypeId} {fr : Nat × Nat} : ∀ (vs : List Value) (i : Nat) (cur : Array Value) (w : World) (l m r : List Value), w.heap[b]? = some (.cells cur e fr) → lR fr cur.size →
  cur.toList = l ++ (m ++ r) → l.length = o + i → m.length = vs.length → (∀ v ∈ vs, Value.fz v = true) →
  ∃ aB, (storeCells ⟨b, o, none⟩ vs i).run P w = .ok () aB ∧ aB.heap[b]? = some (.cells (l ++ (vs ++ r)).toArray e fr) ∧ (∀ c, c ≠ b → aB.heap[c]? = w.heap[c]?) ∧ aB.heap.size = w.heap.size ∧ aB.os = w.os ∧ aB.tape = w.tape ∧ aB.output = w.output
 | [], i, cur, w, l, m, r, J, bL, aj, hl, hm, _ => by
   refine ⟨w, rfl, ?_, fun _ _ => rfl, rfl, rfl, rfl, rfl⟩
   have : m = [] := by simpa using hm
   subst this
   rw [J]
   have : cur = (l ++ ([] ++ r)).toArray := by rw [← aj]
   rw [← this]
 | v :: vs, i, cur, w, l, m, r, J, bL, aj, hl, hm, tS => by
   obtain ⟨x, m, rfl⟩ : ∃ x h3, m = x :: h3 := by cases m with
    | nil => simp at hm
    | cons x m => exact ⟨x, m, rfl⟩
   have hlen : cur.size = (l ++ (x :: m ++ r)).length := by rw [← aj]; simp
   have dL : o + i < cur.size := by rw [hlen]; simp; omega
   have tT : w.cell? ⟨b, o + i, none⟩ = some cur[o + i] := by simp [World.cell?, J, dL]
   have Gy : w.frozen? ⟨b, o + i, none⟩ = false := by
    have := bL (o + i) dL
    simp only [World.frozen?, J]
    simp only [Bool.and_eq_false_iff, decide_eq_false_iff_not]
    by_cases aa : fr.1 ≤ o + i
    ·right; exact fun ab => this ⟨aa, ab⟩
    ·left; exact aa
   have nA : (w.setCell ⟨b, o + i, none⟩ v).heap[b]? = some (.cells ((l ++ [v]) ++ (m ++ r)).toArray e fr) := by
    simp only [World.setCell, Array.getElem?_modify, if_true, J, Option.map_some, Option.isSome_none, Bool.false_eq_true, if_false]
    congr 2
    apply Array.ext'
    rw [Array.toList_setIfInBounds, aj, ← hl, List.set_append_right _ _ (Nat.le_refl _)]
    simp
   have oy : (store ((⟨b, o, none⟩ : Addr).add i) v).run P w = .ok () (w.setCell ⟨b, o + i, none⟩ v) := by
    have aa := tS v (by simp)
    rw [Addr.add_lit]
    cases v <;> first | (simp [Value.fz] at aa; done) | simp [Go.store, Sem.run, tT, Gy]
   obtain ⟨aB, aV, bo, b8, dn, eg, gA, ha⟩ := xa (P := P) (b := b) (o := o) vs (i + 1) _ (w.setCell ⟨b, o + i, none⟩ v) (l ++ [v]) m r nA (by
    have : (l ++ [v] ++ (m ++ r)).toArray.size = cur.size := by rw [hlen]; simp
    rw [this]; exact bL) (by simp) (by simp; omega) (by simpa using hm) (fun u hu => tS u (by simp [hu]))
   refine ⟨aB, ?_, by simpa using bo, fun c aj => ?_, ?_, eg, gA, ha⟩
   ·simp only [storeCells, Sem.run_bind, oy, Result.andThen]; exact aV
   ·rw [b8 c aj]
    simp only [World.setCell, Array.getElem?_modify]
    rw [if_neg (fun e => aj e.symm)]
   ·rw [dn]; simp [World.setCell]
theorem tU {d : j} {v : Value} (h : dt d v) (af : ∀ al, d ≠ .tuple al) : v.cells = (ch v).toArray := by
 cases d with
 | tuple al => exact (af _ rfl).elim
 | agg al => obtain ⟨arr, rfl⟩ := h; simp [Value.cells, ch, gx]
 | _ =>
   have aa : Value.fz v = true := h
   rw [g_ aa]
   cases v <;> first | rfl | (simp [Value.fz] at aa)
def de (C : bN) (s : ag) (T : TypeId) (x y : j) : Option ag :=
 match cd s y, loc s x with
 | some (d, s1), some (z, q) => match d with
   | .tuple _ => none
   | d => match j.sub q (s z) with
     | some d0 => if d.wd = d0.wd ∧ d.wd = (C.T T).sz ∧ (C.T T).ok = true ∧ y.owner ≠ some z then some (cS (g9 z s1) z (j.put q d (s z))) else none
     | none => none
 | _, _ => none
theorem Gz {s s1 : ag} {y d : j} {z : Nat} (h : cd s y = some (d, s1)) (bw : (s z).tree = true) (bC : y.owner ≠ some z) : s1 z = s z := by
 cases y with
 | h x q =>
   simp only [cd] at h
   split at h
   ·split at h
    ·cases h
    ·simp only [Option.some.injEq, Prod.mk.injEq] at h
     obtain ⟨_, rfl⟩ := h
     rw [ir _ _ (fun e => bC (by rw [j.owner, e]))]
     exact wX bw
   ·cases h
 | ao x q => simp [cd] at h
 | J x q => simp [cd] at h
 | fn f c => simp [cd] at h
 | hole => simp [cd] at h
 | _ => simp only [cd, Option.some.injEq, Prod.mk.injEq] at h; rw [h.2]
theorem GA (bm : C.Ok) (h : bB w0 F0 X F S s au w) {T : TypeId} {x y : j} {iv hQ : Value} (xb : aF w F s au x iv (fun _ => False)) (bC : y.plain = true) (GB : aF w F s au y hQ (fun _ => False))
  {s2 : ag} (he : de C s T x y = some s2) :
  ∃ aB aH, (Instr.storeAt T iv hQ).run C.P w = .ok () aB ∧ bB w0 F0 X F aH s2 au aB := by
 unfold de at he
 split at he
 ·rename_i d s1 z q aP hl
  have key : ∀ d : j, (∀ al, d ≠ .tuple al) → cd s y = some (d, s1) → (match j.sub q (s z) with
   | some d0 => if d.wd = d0.wd ∧ d.wd = (C.T T).sz ∧ (C.T T).ok = true ∧ y.owner ≠ some z then some (cS (g9 z s1) z (j.put q d (s z))) else none
   | none => none) = some s2 → ∃ aB aH, (Instr.storeAt T iv hQ).run C.P w = .ok () aB ∧ bB w0 F0 X F aH s2 au aB := by
   intro d mX aP he
   split at he
   ·rename_i d0 kg
    split at he
    ·rename_i oz
     obtain ⟨aa, ab, aE, aZ⟩ := oz
     simp only [Option.some.injEq] at he; subst he
     obtain ⟨lV, cv, b, o, rfl, ja⟩ := w7 h xb hl kg
     obtain ⟨bW, fQ, aV, bo, Sn, b8, dn, eg, gA, ha, jv⟩ := nw h bC GB aP
     have dI : s1 z = s z := Gz aP (gX kg (.inr lV)) aZ
     rw [← dI] at kg lV ja ⊢
     obtain ⟨eS, ew, l, r, cur, e, fr, k0, b9, cj, d_, dv⟩ := fQ.store kg lV b8 aa dn eg gA ha
     rw [ja] at k0
     simp only [Option.some.injEq, Prod.mk.injEq, true_and] at k0
     obtain ⟨rfl, rfl, rfl⟩ := k0
     obtain ⟨i, d, nz, aJ, aT, bb, cn, c1, b6, bS⟩ := bm.info aE
     have hlen := aq.length _ _ _ b8
     have hm : cv.length = (ch hQ).length := by
      have Ag := fQ.c7 z
      rw [aF.cr (gX kg (.inr lV))] at Ag
      obtain ⟨_, _, _, _, lS, _, _, _, mY, _⟩ := ctx q (s1 z) (ch (au z)) (bW z) none _ Ag.2 kg
      rw [ja] at lS
      simp only [Option.some.injEq, Prod.mk.injEq, true_and] at lS
      rw [lS.1, aq.length _ _ _ mY, hlen, aa]
     obtain ⟨aB, en, fl, hb, kC, lb, dk, mZ⟩ := xa (P := C.P) (b := b) (o := l.length) (e := e) (fr := fr) (ch hQ) 0 cur w l cv r b9 d_ cj rfl hm (aq.ox _ _ _ b8)
     obtain ⟨aH, e1⟩ := dv aB fl hb kC lb dk mZ
     refine ⟨aB, aH, ?_, e1⟩
     have m0 := tU bo mX
     simp [Instr.storeAt, Instr.sureAddr, storeVar, iI aJ, aT, m0, hlen, ab, en]
    ·cases he
   ·cases he
  split at he
  ·cases he
  ·rename_i mX
   exact key _ (fun al e => mX al e) aP he
 ·cases he
theorem bB.alloc (h : bB w0 F0 X F S s au w) {d : j} {cs : List Value} {Sn : Nat → Prop} (e : TypeId) (aG : aq w F d cs Sn)
  (dL : ∀ b, Sn b → b < w.heap.size) (bg : ∀ b, Sn b → ¬ F b) (bE : ∀ u b, Sn b → ¬ S u b) (bp : ∀ b, Sn b → X b ∨ w0.heap.size ≤ b) :
  bB w0 F0 X F S s au (w.alloc (.cells cs.toArray e)) ∧
   jb w0 X F S s au (w.alloc (.cells cs.toArray e)) (.bD d) (.pointer (some ⟨w.heap.size, 0, none⟩)) := by
 have hold : ∀ b, b < w.heap.size → (w.alloc (.cells cs.toArray e)).heap[b]? = w.heap[b]? := by
  intro b J
  show (w.heap.push _)[b]? = _
  rw [Array.getElem?_push, if_neg (by omega)]
 refine ⟨h.grow hold (by simp) rfl rfl rfl, .inr ⟨rfl, rfl, fun b => b = w.heap.size ∨ Sn b, ?_, ?_, ?_, ?_, ?_⟩⟩
 ·rw [aq]
  refine ⟨w.heap.size, cs.toArray, e, (0, 0), Sn, rfl, .inl rfl, ?_, ?_, ?_, fun c aj => .inr aj, fun aj => Nat.lt_irrefl _ (dL _ aj)⟩
  ·show (w.heap.push _)[_]? = _
   simp
  ·intro o _ ⟨_, ab⟩; exact absurd ab (Nat.not_lt_zero _)
  ·exact aq.frame (fun b J => hold b (h.e0 b J)) _ _ _ (fun b J => hold b (dL b J)) aG
 ·rintro b (rfl | J)
  ·simp
  ·have := dL b J; simp; omega
 ·rintro b (rfl | J) rL
  ·exact Nat.lt_irrefl _ (h.e0 _ rL)
  ·exact bg b J rL
 ·rintro u b (rfl | J) hu
  ·exact Nat.lt_irrefl _ (h.dP _ _ hu)
  ·exact bE u b J hu
 ·rintro b (rfl | J)
  ·exact .inr h.size
  ·exact bp b J
def eV (C : bN) (T : TypeId) : Option j := if (C.T T).ok = true then (match flat (C.T T).zero with | some _ => some (.bD (C.T T).zero) | none => none) else none
theorem GC (bm : C.Ok) (h : bB w0 F0 X F S s au w) {T : TypeId} (he : eV C T = some av) : Good C w0 F0 X au w (Instr.alloc T true (.tuple #[])) av s := by
 unfold eV at he
 split at he
 ·rename_i aw
  split at he
  ·rename_i cs hF
   simp only [Option.some.injEq] at he; subst he
   obtain ⟨i, d, z, aJ, aT, bb, cn, c1, b6, bS⟩ := bm.info aw
   have bw := c1 cs hF
   obtain ⟨eh, eZ⟩ := h.alloc (d := (C.T T).zero) T ((aq.flat _).1 _ cs (fun _ => False) (Nat.le_refl _) hF) (fun _ h => h.elim) (fun _ h => h.elim) (fun _ _ h => h.elim) (fun _ h => h.elim)
   refine ⟨_, _, F, S, ?_, eh, eZ⟩
   simp [Instr.alloc, rH aJ cn, newVar, newRow, newObj, Sem.run, bw]
  ·cases he
 ·cases he
def di (s : ag) (x : j) : Option (j × ag) := match cd s x with
 | some (.tuple _, _) => none
 | some (d, s1) => some (.bD d, s1)
 | none => none
def h4 (s : ag) (x : j) : Option (j × ag) := match x with
 | .h y q => match q, s y with
   | [], .agg ds => if j.dz ds then none else some (.J y 0, s)
   | _, _ => none
 | _ => none
theorem GD (h : bB w0 F0 X F S s au w) {T : TypeId} {x : j} {v : Value} (aG : aF w F s au x v (fun _ => False)) (he : h4 s x = some (av, s1)) :
  Good C w0 F0 X au w (Instr.box T v) av s1 := by
 unfold h4 at he
 split at he
 ·rename_i y q
  split at he
  ·rename_i ds kB
   split at he
   ·cases he
   ·rename_i rK
    simp only [Option.some.injEq, Prod.mk.injEq] at he
    obtain ⟨rfl, rfl⟩ := he
    rw [aF] at aG
    obtain ⟨cv, a, aV, bo, b8⟩ := aG (s y) (by simp only [j.sub]) (by rw [kB]; simp only [j.plain]; simpa using rK)
    simp only [cJ, Option.some.injEq, Prod.mk.injEq, true_and] at aV
    rw [kB] at b8
    have m0 := tU b8 (fun al e => by cases e)
    have hold : ∀ b, b < w.heap.size → (w.alloc (.cells (ch v).toArray T)).heap[b]? = w.heap[b]? := by
     intro b J
     show (w.heap.push _)[b]? = _
     rw [Array.getElem?_push, if_neg (by omega)]
    refine ⟨.pointer (some ⟨w.heap.size, 0, none⟩), w.alloc (.cells (ch v).toArray T), fun b => F b ∨ b = w.heap.size, S, by simp [Instr.box, newVar, newRow, newObj, Sem.run, m0], ?_, .inl ⟨rfl, ?_⟩⟩
    ·have aa := h.grow hold (by simp) rfl rfl rfl
     exact {
      gb := fun b J => .inl (aa.gb b J)
      gz := fun b J => by
       rcases J with J | rfl
       ·exact aa.gz b J
       ·exact .inr (.inr h.size)
      e0 := fun b J => by
       rcases J with J | rfl
       ·exact aa.e0 b J
       ·simp
      dP := aa.dP
      e7 := fun t b J bL => by
       rcases bL with bL | rfl
       ·exact aa.e7 t b J bL
       ·exact absurd (h.dP t _ J) (Nat.lt_irrefl _)
      eT := aa.eT
      dd := aa.dd
      c7 := fun t => aF.frame (fun _ _ => rfl) (fun b J => .inl J) (fun _ _ _ => rfl) aa.c7 _ _ _ (fun _ _ => rfl) (aa.c7 t)
      old := aa.old
      size := aa.size
      os := aa.os
      tape := aa.tape
      output := aa.output }
    ·rw [aF]
     intro _
     refine ⟨w.heap.size, (ch v).toArray, T, (0, 0), rfl, .inr rfl, ?_, ?_⟩
     ·show (w.heap.push _)[_]? = _
      simp
     ·rw [aV.1, ← bo]
  ·cases he
 ·cases he
theorem GF (h : bB w0 F0 X F S s au w) {T : TypeId} {x : j} {v : Value} (ai : x.plain = true) (aG : aF w F s au x v (fun _ => False)) (he : di s x = some (av, s1)) :
  Good C w0 F0 X au w (Instr.box T v) av s1 := by
 unfold di at he
 split at he
 ·cases he
 ·rename_i d s2 mX aP
  simp only [Option.some.injEq, Prod.mk.injEq] at he
  obtain ⟨rfl, rfl⟩ := he
  obtain ⟨bW, fQ, aV, bo, Sn, b8, dn, eg, gA, ha, jv⟩ := nw h ai aG aP
  obtain ⟨eh, eZ⟩ := fQ.alloc T b8 dn eg gA ha
  refine ⟨_, _, F, bW, ?_, eh, eZ⟩
  have m0 := tU bo (fun al e => mX al e)
  simp [Instr.box, newVar, newRow, newObj, Sem.run, m0]
 ·cases he
end
end Go.cM
