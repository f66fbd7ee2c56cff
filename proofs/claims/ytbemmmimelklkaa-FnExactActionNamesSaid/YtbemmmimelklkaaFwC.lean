/- Part of a proof that a law returns true for every input. No condition. -/
import Derived.Test.YtbemmmimelklkaaFwB
import Derived.Laws.Entries
namespace Go.cB
inductive lF where
 | int (k : IntKind)
 | bool
 | str
 | ptr (e : TypeId)
 | slice (e : TypeId)
 | struct (aw : List (TypeId × Nat))
 | fn
 | other
structure fR where
 k : lF
 sz : Nat
 bytes : Nat
 zero : I
mutual
def flat : I → Option (List Value)
 | .bool b => some [.bool b]
 | .int k n => some [.int k n]
 | .str s => some [.string ⟨⟨s⟩⟩]
 | .c7 => some [.pointer none]
 | .bA => some [.slice none 0 0]
 | .agg aw => nD aw
 | _ => none
def nD : List I → Option (List Value)
 | [] => some []
 | d :: ds => match flat d, nD ds with
   | some a, some b => some (a ++ b)
   | _, _ => none
end
theorem ax.flat {w : World} {F : Nat → Prop} : ∀ n, (∀ (d : I) (cs : List Value) (S : Nat → Prop), SizeOf.sizeOf d ≤ n → flat d = some cs → ax w F d cs S) ∧
  (∀ (ds : List I) (cs : List Value) (S : Nat → Prop), SizeOf.sizeOf ds ≤ n → nD ds = some cs → a6 w F ds cs S) := by
 intro n
 induction n with
 | zero => exact ⟨fun d _ _ bG => by cases d <;> simp at bG <;> omega, fun ds _ _ bG => by cases ds <;> simp at bG <;> omega⟩
 | succ n ih =>
   refine ⟨fun d cs S bG h => ?_, fun ds cs S bG h => ?_⟩
   ·cases d with
    | agg aw => rw [ax]; exact ih.2 aw cs S (by simp at bG; omega) (by simpa [cB.flat] using h)
    | bool b => simp [cB.flat] at h; subst h; rw [ax]
    | int k n => simp [cB.flat] at h; subst h; rw [ax]
    | str s => simp [cB.flat] at h; subst h; rw [ax]
    | c7 => simp [cB.flat] at h; subst h; rw [ax]
    | bA => simp [cB.flat] at h; subst h; rw [ax]
    | _ => simp [cB.flat] at h
   ·cases ds with
    | nil => simp [nD] at h; subst h; rw [a6]
    | cons d ds =>
      simp only [nD] at h
      split at h
      ·rename_i a b b7 U
       simp at h; subst h
       simp at bG
       rw [a6]
       exact ⟨a, b, fun _ => False, fun _ => False, rfl, ih.1 d a _ (by omega) b7, ih.2 ds b _ (by omega) U, fun _ h => h.elim, fun _ h => h.elim, fun _ h => h.elim⟩
      ·cases h
def jV : lF → TypeDesc → Prop
 | .int k, .int cE => k = cE
 | .bool, .bool => True
 | .str, .string => True
 | .ptr e, .pointer ei => e = ei
 | .slice e, .slice ei => e = ei
 | .struct aw, .struct gs => gs.toList.map (fun g => (g.type, g.offset)) = aw
 | .fn, .func _ _ _ => True
 | _, _ => False
def C4 (P : Program) (t : TypeId) (x : fR) : Prop :=
 (∃ e n b z, x = ⟨.other, e, n, b⟩ ∧ z = 0) ∨
 ∃ i d z, P.info? t = some i ∧ i.size = x.sz ∧ i.bytes = x.bytes ∧ i.zero = some z ∧ (∀ cs, flat x.zero = some cs → z.cells = cs.toArray) ∧ P.underlying t = some d ∧ jV x.k d
structure bZ where
 P : Program
 T : TypeId → fR
 M : FuncId → List Bool
structure bZ.Ok (C : bZ) : Prop where
 ty : ∀ t, C4 C.P t (C.T t)
 mixed : C.P.follows .mixedOrders = true
inductive aA where
 | t (n : Nat)
 | c (av : I)
 | f (g : FuncId)
def vR : Value → Option I
 | .bool b => some (.bool b)
 | .int k n => some (.int k n)
 | .string s => some (.str s.data.toList)
 | .pointer none => some .c7
 | .slice none 0 0 => some .bA
 | _ => none
def db : Operand → Option aA
 | .tmp n => some (.t n)
 | .const v => (vR v).map .c
 | .func g => some (.f g)
 | .global _ => none
def hU (x : Nat) (d : I) : I := if d.plain then d else .h x []
def aG (s : aj) : aA → I
 | .t n => hU n (s n)
 | .c av => av
 | .f g => .fn g []
theorem aH.nothing {w : World} {F : Nat → Prop} {s : aj} {az : Nat → Value} {d : I} {v : Value} {S aL : Nat → Prop} (an : d.plain = true) (h : aH w F s az d v S) : aH w F s az d v aL := by
 cases d <;> first
  | (rw [aH]; trivial)
  | (rw [aH] at h ⊢; exact h)
  | (have bq := (aH.cv rfl).1 h; exact (aH.cv rfl).2 ⟨bq.1, ax.plain _ _ _ _ an bq.2⟩)
section
variable {w0 w : World} {F0 X F : Nat → Prop} {S : Nat → Nat → Prop} {s : aj} {az : Nat → Value} {a : Act}
theorem C5 (s : aj) (x : aA) (al : ∀ av, x = .c av → av.plain = true) : (aG s x).plain = true := by
 cases x with
 | t n => simp only [aG, hU]; split <;> first | assumption | rfl
 | c av => exact al _ rfl
 | f g => rfl
theorem zo {v : Value} {av : I} (h : vR v = some av) : av.plain = true := by
 unfold vR at h; split at h <;> simp at h <;> subst h <;> rfl
theorem fg (h : bE w0 F0 X F S s az w) (dC : ∀ t, az t = a.tmps.getD t undef) {o : Operand} {x : aA} (bU : db o = some x) :
  (aG s x).plain = true ∧ aH w F s az (aG s x) (a.eval o) (fun _ => False) := by
 cases o with
 | tmp n =>
   simp [db] at bU; subst bU
   simp only [aG, hU, Act.eval, ← dC]
   split
   ·rename_i an; exact ⟨an, aH.nothing an (h.da n)⟩
   ·rename_i an
    refine ⟨rfl, ?_⟩
    rw [aH]
    intro d ah zp
    simp only [I.sub, Option.some.injEq] at ah; subst ah
    have aZ := hb (q := []) rfl (.inl zp)
    exact ⟨_, none, rfl, rfl, ((aH.cv aZ).1 (h.da n)).1⟩
 | const v =>
   simp only [db, Option.map_eq_some_iff] at bU
   obtain ⟨av, ml, rfl⟩ := bU
   refine ⟨zo ml, ?_⟩
   simp only [aG, Act.eval]
   unfold vR at ml
   split at ml <;> simp at ml <;> subst ml <;> rw [aH, ax] <;> exact ⟨rfl, rfl⟩
 | func g =>
   simp [db] at bU; subst bU
   refine ⟨rfl, ?_⟩
   simp only [aG, Act.eval]
   rw [aH]
   exact ⟨#[], rfl, by rw [dE]⟩
 | global g => simp [db] at bU
def jA (w0 : World) (X F : Nat → Prop) (S : Nat → Nat → Prop) (s : aj) (az : Nat → Value) (w : World) (av : I) (v : Value) : Prop :=
 (av.plain = true ∧ aH w F s az av v (fun _ => False)) ∨
 (av.tree = true ∧ du av v ∧ ∃ Sn, ax w F av (cm v) Sn ∧ (∀ b, Sn b → b < w.heap.size) ∧ (∀ b, Sn b → ¬ F b) ∧ (∀ u b, Sn b → ¬ S u b) ∧ (∀ b, Sn b → X b ∨ w0.heap.size ≤ b))
def fin (s : aj) (dst : Option Nat) (av : I) : aj := match dst with
 | none => s
 | some t => if av.plain then cY s t av else cY (ki t s) t av
def mm (az : Nat → Value) (dst : Option Nat) (v : Value) : Nat → Value := match dst with
 | none => az
 | some t => cY az t v
theorem bE.fin (h : bE w0 F0 X F S s az w) {av : I} {v : Value} (aK : jA w0 X F S s az w av v) (dst : Option Nat) :
  ∃ aL, bE w0 F0 X F aL (cB.fin s dst av) (mm az dst v) w := by
 cases dst with
 | none => exact ⟨S, h⟩
 | some t =>
   simp only [cB.fin, mm]
   rcases aK with ⟨an, ah⟩ | ⟨aZ, aa, Sn, ab, af, aF, bb, bV⟩
   ·rw [if_pos an]; exact ⟨_, h.q1 an ah⟩
   ·split
    ·rename_i an
     exact ⟨_, h.q1 an ((aH.cv aZ).2 ⟨aa, ax.plain _ _ _ _ an ab⟩)⟩
    ·exact ⟨_, h.CW aZ aa ab af aF (fun u b _ U => bb u b U) bV⟩
def ct (s : aj) : I → Option (I × aj)
 | .h x q => match I.sub q (s x) with
   | some d => if d.plain then none else some (d, cY (hp x s) x (I.put q d.cH (s x)))
   | none => none
 | .an _ _ => none
 | .U _ _ => none
 | .fn _ _ => none
 | .hole => none
 | d => some (d, s)
def I.owner : I → Option Nat
 | .h x _ => some x
 | _ => none
def jf : Option Nat → I → I
 | some x, d => bW x d
 | none, d => d
theorem oo (h : bE w0 F0 X F S s az w) {av d : I} {s1 : aj} {v : Value} (ml : av.plain = true) (aK : aH w F s az av v (fun _ => False)) (aZ : ct s av = some (d, s1)) :
  ∃ b1, bE w0 F0 X F b1 s1 az w ∧ d.tree = true ∧ du d v ∧ ∃ Sn, ax w F d (cm v) Sn ∧ (∀ b, Sn b → b < w.heap.size) ∧ (∀ b, Sn b → ¬ F b) ∧ (∀ u b, Sn b → ¬ b1 u b) ∧ (∀ b, Sn b → X b ∨ w0.heap.size ≤ b) ∧
    (∀ u b, b1 u b → S u b) ∧ (∀ b, Sn b → ∃ u, S u b) ∧ (∀ (br : I) (fp : Value) (aL : Nat → Prop), aH w F s az br fp aL → aH w F s1 az (jf av.owner br) fp aL) := by
 have tree : ∀ d : I, d.tree = true → d.plain = true → aH w F s az d v (fun _ => False) →
   ∃ b1, bE w0 F0 X F b1 s az w ∧ d.tree = true ∧ du d v ∧ ∃ Sn, ax w F d (cm v) Sn ∧ (∀ b, Sn b → b < w.heap.size) ∧ (∀ b, Sn b → ¬ F b) ∧ (∀ u b, Sn b → ¬ b1 u b) ∧ (∀ b, Sn b → X b ∨ w0.heap.size ≤ b) ∧
     (∀ u b, b1 u b → S u b) ∧ (∀ b, Sn b → ∃ u, S u b) := by
  intro d ah _ bq
  have bq := (aH.cv ah).1 bq
  exact ⟨S, h, ah, bq.1, _, bq.2, fun _ h => h.elim, fun _ h => h.elim, fun _ _ h => h.elim, fun _ h => h.elim, fun _ _ h => h, fun _ h => h.elim⟩
 cases av with
 | h x q =>
   simp only [ct] at aZ
   split at aZ
   ·rename_i e he
    split at aZ
    ·cases aZ
    ·rename_i an
     simp only [Option.some.injEq, Prod.mk.injEq] at aZ
     obtain ⟨rfl, rfl⟩ := aZ
     have an : e.plain = false := by simpa using an
     obtain ⟨Sn, fW, cw, cl, dx, eb, hH, jW, zq, Jx, Jy⟩ := h.take he an
     rw [aH] at aK
     obtain ⟨agR, aT, aY, bs, b_⟩ := aK e he an
     rw [eb] at aY
     simp only [Option.some.injEq, Prod.mk.injEq, true_and] at aY
     obtain ⟨rfl, rfl⟩ := aY
     have zr : e.tree = true := by cases e <;> first | rfl | (simp [I.plain] at an)
     refine ⟨_, dx, zr, b_, fW, by rw [bs]; exact hH, fun b U => h.dM x b (jW b U), fun b U => h.ff x b (jW b U), ?_, fun b U => h.dh x b (jW b U), ?_, fun b U => ⟨x, jW b U⟩, Jy⟩
     ·intro u b U hu
      simp only [fi] at hu
      split at hu
      ·exact Jx b U hu
      ·rename_i vS; exact h.eU u x b vS hu (jW b U)
     ·intro u b hu
      simp only [fi] at hu
      split at hu
      ·rename_i e; subst e; exact zq b hu
      ·exact hu
   ·cases aZ
 | an x q => simp [ct] at aZ
 | U x q => simp [ct] at aZ
 | fn f c => simp [ct] at aZ
 | hole => simp [ct] at aZ
 | aE sz xs => simp [I.plain] at ml
 | bd d => simp [I.plain] at ml
 | _ =>
   simp only [ct, Option.some.injEq, Prod.mk.injEq] at aZ
   obtain ⟨rfl, rfl⟩ := aZ
   obtain ⟨b1, t1, t2, t3, Sn, t4, t5, t6, t7, t8, t9, t10⟩ := tree _ rfl ml aK
   exact ⟨b1, t1, t2, t3, Sn, t4, t5, t6, t7, t8, t9, t10, fun _ _ _ h => h⟩
def loc (s : aj) : I → Option (Nat × List Nat)
 | .h x q => match I.sub q (s x) with
   | some (.bd _) => some (x, q ++ [0])
   | _ => none
 | .an x q => if I.ez q (s x) then some (x, q) else none
 | _ => none
theorem vT : ∀ (q : List Nat) (av d : I) (r : List Nat), I.sub q av = some d → I.sub (q ++ r) av = I.sub r d := by
 intro q
 induction q with
 | nil => intro av d r h; simp [I.sub] at h; subst h; rfl
 | cons k q ih =>
   intro av d r h
   cases av with
   | agg aw =>
     simp only [I.sub, List.cons_append] at h ⊢
     split at h
     ·rename_i x au; exact ih _ _ _ h
     ·cases h
   | tuple aw =>
     simp only [I.sub, List.cons_append] at h ⊢
     split at h
     ·rename_i x au; exact ih _ _ _ h
     ·cases h
   | aE sz aw =>
     simp only [I.sub, List.cons_append] at h ⊢
     split at h
     ·rename_i x au; exact ih _ _ _ h
     ·cases h
   | bd x =>
     cases k with
     | zero => simp only [I.sub, List.cons_append] at h ⊢; exact ih _ _ _ h
     | succ k => simp [I.sub] at h
   | _ => simp [I.sub] at h
theorem Jz : ∀ (q : List Nat) (av d : I) (r : List Nat), I.sub q av = some d → I.ez (q ++ r) av = (I.ez q av || I.ez r d) := by
 intro q
 induction q with
 | nil => intro av d r h; simp [I.sub] at h; subst h; simp [I.ez]
 | cons k q ih =>
   intro av d r h
   cases av with
   | agg aw =>
     simp only [I.sub] at h
     split at h
     ·rename_i x au
      simp only [I.ez, List.cons_append, au]
      exact ih _ _ r h
     ·cases h
   | tuple aw =>
     simp only [I.sub] at h
     split at h
     ·rename_i x au
      simp only [I.ez, List.cons_append, au]
      exact ih _ _ r h
     ·cases h
   | aE sz aw => simp [I.ez]
   | bd x => simp [I.ez]
   | _ => simp [I.sub] at h
theorem vU (w : World) : ∀ (q : List Nat) (av d : I) (cs cw : List Value) (a cl : Option (Nat × Nat)) (r : List Nat), cU w q av cs a = some (d, cw, cl) → cU w (q ++ r) av cs a = cU w r d cw cl := by
 intro q
 induction q with
 | nil => intro av d cs cw a cl r h; simp [cU] at h; obtain ⟨rfl, rfl, rfl⟩ := h; rfl
 | cons k q ih =>
   intro av d cs cw a cl r h
   cases av with
   | agg aw =>
     rw [List.cons_append]
     rw [cU] at h ⊢
     split at h
     ·rename_i x au; exact ih _ _ _ _ _ _ _ h
     ·cases h
   | tuple aw =>
     rw [List.cons_append]
     rw [cU] at h ⊢
     split at h
     ·rename_i x au; exact ih _ _ _ _ _ _ _ h
     ·cases h
   | aE sz aw =>
     rw [List.cons_append]
     rw [cU.eq_def] at h ⊢
     simp only at h ⊢
     split at h
     ·exact ih _ _ _ _ _ _ _ h
     ·cases h
   | bd x =>
     cases k with
     | zero =>
       rw [List.cons_append]
       rw [cU.eq_def] at h ⊢
       simp only at h ⊢
       split at h
       ·exact ih _ _ _ _ _ _ _ h
       ·cases h
     | succ k => rw [show cU w ((k + 1) :: q) (.bd x) cs a = none from rfl] at h; cases h
   | _ => simp [cU] at h
end
def fR.ok (x : fR) : Bool := match x.k with
 | .other => false
 | _ => true
theorem bZ.Ok.info {C : bZ} (bp : C.Ok) {t : TypeId} (h : (C.T t).ok = true) :
  ∃ i d z, C.P.info? t = some i ∧ i.size = (C.T t).sz ∧ i.bytes = (C.T t).bytes ∧ i.zero = some z ∧ (∀ cs, flat (C.T t).zero = some cs → z.cells = cs.toArray) ∧ C.P.underlying t = some d ∧ jV (C.T t).k d := by
 rcases bp.ty t with ⟨e, n, b, z, au, _⟩ | bq
 ·rw [au] at h; simp [fR.ok] at h
 ·exact bq
theorem fS {x : fR} {k : lF} (h : x.k = k) (ay : k ≠ .other) : x.ok = true := by
 unfold fR.ok; rw [h]; cases k <;> first | rfl | exact (ay rfl).elim
theorem zt {d : TypeDesc} {aw : List (TypeId × Nat)} (h : jV (.struct aw) d) : ∃ gs, d = .struct gs ∧ gs.toList.map (fun g => (g.type, g.offset)) = aw := by
 cases d <;> simp [jV] at h
 exact ⟨_, rfl, h⟩
theorem jB {d : TypeDesc} {e : TypeId} (h : jV (.slice e) d) : d = .slice e := by
 cases d <;> simp [jV] at h
 rw [h]
theorem vV {d : TypeDesc} {k : IntKind} (h : jV (.int k) d) : d = .int k := by
 cases d <;> simp [jV] at h
 rw [h]
theorem oq {d : TypeDesc} (h : jV .str d) : d = .string := by
 cases d <;> simp [jV] at h
 rfl
theorem C6 {d : TypeDesc} (h : jV .bool d) : d = .bool := by
 cases d <;> simp [jV] at h
 rfl
theorem C7 {d : TypeDesc} {e : TypeId} (h : jV (.ptr e) d) : d = .pointer e := by
 cases d <;> simp [jV] at h
 rw [h]
theorem hq {v : Value} (h : Value.fN v = true) : cm v = [v] := by
 cases v <;> first | rfl | (simp [Value.fN] at h)
theorem pr {P : Program} {t : TypeId} {i : TypeInfo} (h : P.info? t = some i) (w : World) : (typeInfo t).run P w = .ok i w := by simp [typeInfo, h]
theorem iI {P : Program} {t : TypeId} {i : TypeInfo} (h : P.info? t = some i) (w : World) : (Go.sizeOf t).run P w = .ok i.size w := by simp [Go.sizeOf, pr h]
theorem q3 {P : Program} {t : TypeId} {i : TypeInfo} {z : Value} (h : P.info? t = some i) (bG : i.zero = some z) (w : World) : (zeroValue t).run P w = .ok z w := by simp [zeroValue, pr h, bG]
section
variable {C : bZ} {w0 w : World} {F0 X F : Nat → Prop} {S : Nat → Nat → Prop} {s s1 : aj} {az : Nat → Value} {av : I}
def Good (C : bZ) (w0 : World) (F0 X : Nat → Prop) (az : Nat → Value) (w : World) (m : Sem Value) (av : I) (s1 : aj) : Prop :=
 ∃ v aD bI aL, m.run C.P w = .ok v aD ∧ bE w0 F0 X bI aL s1 az aD ∧ jA w0 X bI aL s1 az aD av v
theorem Good.same (h : bE w0 F0 X F S s az w) {m : Sem Value} {v : Value} (aO : m.run C.P w = .ok v w) (an : av.plain = true) (aK : aH w F s az av v (fun _ => False)) : Good C w0 F0 X az w m av s :=
 ⟨v, w, F, S, aO, h, .inl ⟨an, aK⟩⟩
theorem zu (_h : bE w0 F0 X F S s az w) {x : I} {v : Value} (aK : aH w F s az x v (fun _ => False)) {y : Nat} {q : List Nat} (hl : loc s x = some (y, q)) {d : I} (ah : I.sub q (s y) = some d) :
  I.ez q (s y) = true ∧ ∃ cw b o, v = .pointer (some ⟨b, o, none⟩) ∧ cU w q (s y) (cm (az y)) none = some (d, cw, some (b, o)) := by
 cases x with
 | h z vW =>
   simp only [loc] at hl
   split at hl
   ·rename_i e he
    simp only [Option.some.injEq, Prod.mk.injEq] at hl
    obtain ⟨rfl, rfl⟩ := hl
    rw [aH] at aK
    obtain ⟨cw, a, aY, bs, b_⟩ := aK _ he rfl
    have fV : e = d := by
     rw [vT _ _ _ _ he] at ah
     simpa [I.sub] using ah
    subst fV
    refine ⟨by rw [Jz _ _ _ _ he]; simp [I.ez], ?_⟩
    have ab : Value.fN v = true := b_
    rw [hq ab] at bs
    subst bs
    have jy := vU w vW (s z) _ _ _ none a [0] aY
    have au := _h.da z
    rw [aH.cv (hb he (.inl rfl))] at au
    obtain ⟨fe, cl, dH, fW, k0, bN, b6, et, dy, fk⟩ := ctx vW (s z) (cm (az z)) (S z) none _ au.2 he
    rw [k0] at aY
    simp only [Option.some.injEq, Prod.mk.injEq, true_and] at aY
    obtain ⟨rfl, rfl⟩ := aY
    rw [ax] at dy
    obtain ⟨b, cur, aP, fr, dg, a_, _⟩ := dy
    simp only [List.cons.injEq, and_true] at a_
    subst a_
    exact ⟨_, b, 0, rfl, by rw [jy]; rfl⟩
   ·cases hl
 | an z vW =>
   simp only [loc] at hl
   split at hl
   ·rename_i al
    simp only [Option.some.injEq, Prod.mk.injEq] at hl
    obtain ⟨rfl, rfl⟩ := hl
    rw [aH] at aK
    obtain ⟨cw, b, o, aY, bs⟩ := aK _ ah al
    exact ⟨al, cw, b, o, bs, aY⟩
   ·cases hl
 | _ => simp [loc] at hl
def bc (C : bZ) (s : aj) (T : TypeId) (x : I) (k : Nat) : Option I :=
 match (C.T T).k with
 | .struct aw => match aw[k]? with
   | some (ot, off) => if (C.T ot).ok = true ∧ (C.T ot).sz ≠ 0 then
     match x with
     | .ref (.agg ds) => match ds[k]? with
       | some d => if I.dp (ds.take k) = off then some (.ref d) else none
       | none => none
     | .U y o => if (s y).plain then none else some (.U y (o + off))
     | x => match loc s x with
       | some (y, q) => match I.sub q (s y) with
         | some (.agg ds) => if k < ds.length ∧ I.dp (ds.take k) = off then some (.an y (q ++ [k])) else none
         | _ => none
       | none => none
     else none
   | none => none
 | _ => none
theorem Rd.zv {w : World} {b o : Nat} {cr fc cu : List Value} (h : Rd w b o (cr ++ (fc ++ cu))) : Rd w b (o + cr.length) fc := by
 intro j c bS
 have dQ : j < fc.length := (List.getElem?_eq_some_iff.1 bS).1
 have := h (cr.length + j) c (by rw [List.getElem?_append_right (by omega), List.getElem?_append_left (by omega), ← bS]; congr 1; omega)
 rw [Nat.add_assoc]; exact this
theorem zw (bp : C.Ok) {T ot : TypeId} {aw : List (TypeId × Nat)} {k off : Nat} (ay : (C.T T).k = .struct aw) (bB : aw[k]? = some (ot, off)) (ab : (C.T ot).ok = true) (af : (C.T ot).sz ≠ 0) (b o : Nat) (w : World) :
  (Instr.fieldAt T (.pointer (some ⟨b, o, none⟩)) k).run C.P w = .ok (.pointer (some ⟨b, o + off, none⟩)) w := by
 obtain ⟨i, d, z, aJ, aP, a_, cD, c4, b8, b2⟩ := bp.info (fS ay (by simp))
 rw [ay] at b2
 obtain ⟨gs, rfl, jg⟩ := zt b2
 obtain ⟨q4, br, ou, f1, f2, f3, f4, f5, f6, f7⟩ := bp.info ab
 have bO : ∃ g, gs[k]? = some g ∧ g.type = ot ∧ g.offset = off := by
  rw [← jg, List.getElem?_map] at bB
  simp only [Option.map_eq_some_iff, Prod.mk.injEq] at bB
  obtain ⟨g, ab, af, aF⟩ := bB
  exact ⟨g, by simpa using ab, af, aF⟩
 obtain ⟨g, aY, rfl, rfl⟩ := bO
 simp [Instr.fieldAt, run_underlying b8, aY, Instr.sureAddr, fieldPlace, iI f1, f2, af, Addr.add_lit]
theorem JA (bp : C.Ok) (h : bE w0 F0 X F S s az w) {T : TypeId} {x : I} {v : Value} {k : Nat} (au : x.plain = true) (aK : aH w F s az x v (fun _ => False)) (he : bc C s T x k = some av) :
  Good C w0 F0 X az w (Instr.fieldAt T v k) av s := by
 unfold bc at he
 split at he
 ·rename_i aw ay
  split at he
  ·rename_i ot off bB
   split at he
   ·rename_i q5
    split at he
    ·rename_i ds
     split at he
     ·rename_i d ah
      split at he
      ·rename_i vX
       simp only [Option.some.injEq] at he; subst he
       have kj := (aH.cv rfl).1 aK
       rw [ax] at kj
       obtain ⟨aa, b, o, dt, ab, af, aF, bb⟩ := kj
       rw [hq aa] at ab
       simp only [List.cons.injEq, and_true] at ab; subst ab
       rw [ax] at bb
       obtain ⟨cr, fc, cu, b1, iV, rfl, gQ, fo, gi, gR, fX, kD⟩ := a6.pick ds _ _ k d bb ah
       refine Good.same h (zw bp ay bB q5.1 q5.2 b o w) rfl ((aH.cv rfl).2 ⟨rfl, ?_⟩)
       rw [ax]
       refine ⟨b, o + off, fc, rfl, af, ?_, ax.mono (fun _ h => h) _ _ _ _ (fun b U => gi b U) fX⟩
       rw [← vX, ← gQ]; exact aF.zv
      ·cases he
     ·cases he
    ·rename_i y o
     split at he
     ·cases he
     ·rename_i an
      simp only [Option.some.injEq] at he; subst he
      rw [aH] at aK
      obtain ⟨b, cur, e, fr, rfl, af, aF, bb⟩ := aK (by simpa using an)
      refine Good.same h (zw bp ay bB q5.1 q5.2 b o w) rfl ?_
      rw [aH]
      exact fun _ => ⟨b, cur, e, fr, rfl, af, aF, bb⟩
    ·rename_i x _ _
     split at he
     ·rename_i y q hl
      split at he
      ·rename_i ds ah
       split at he
       ·rename_i vX
        simp only [Option.some.injEq] at he; subst he
        obtain ⟨al, cw, b, o, rfl, jy⟩ := zu h aK hl ah
        refine Good.same h (zw bp ay bB q5.1 q5.2 b o w) rfl ?_
        rw [aH]
        intro d2 h6 lG
        rw [vU w q _ _ _ _ _ _ [k] jy]
        rw [vT _ _ _ _ ah] at h6
        have pt : ∃ d3, ds[k]? = some d3 := ⟨_, List.getElem?_eq_getElem vX.1⟩
        obtain ⟨d3, sW⟩ := pt
        simp only [I.sub, sW, Option.some.injEq] at h6
        subst h6
        simp only [cU, sW]
        refine ⟨(cw.drop off).take d3.wd, b, o + off, ?_, rfl⟩
        rw [vX.2]; rfl
       ·cases he
      ·cases he
     ·cases he
   ·cases he
  ·cases he
 ·cases he
def bX (C : bZ) (s : aj) (T : TypeId) (x i : I) : Option I :=
 match (C.T T).k, i with
 | .slice e, .int _ n => if 0 ≤ n ∧ (C.T e).ok = true then
   match x with
   | .slice xs => match xs[n.toNat]? with
     | some d => if d.wd = (C.T e).sz then some (.ref d) else none
     | none => none
   | .h y q => match I.sub q (s y) with
     | some (.aE sz xs) => if n.toNat < xs.length ∧ sz = (C.T e).sz then some (.an y (q ++ [n.toNat])) else none
     | _ => none
   | _ => none
   else none
 | _, _ => none
theorem C8 (bp : C.Ok) {T e : TypeId} (ay : (C.T T).k = .slice e) (he : (C.T e).ok = true) (b o len cap : Nat) (k : IntKind) (n : Nat) (bl : n < len) (w : World) :
  (Instr.indexAt T (.slice (some ⟨b, o, none⟩) len cap) (.int k n)).run C.P w = .ok (.pointer (some ⟨b, o + n * (C.T e).sz, none⟩)) w := by
 obtain ⟨i, d, z, aJ, aP, a_, cD, c4, b8, b2⟩ := bp.info (fS ay (by simp))
 rw [ay] at b2
 have := jB b2; subst this
 obtain ⟨q4, br, ou, f1, f2, f3, f4, f5, f6, f7⟩ := bp.info he
 simp [Instr.indexAt, run_underlying b8, asIntOf, bl, iI f1, f2, Addr.add_lit]
theorem JB (bp : C.Ok) (h : bE w0 F0 X F S s az w) {T : TypeId} {x i : I} {v q6 : Value} (aK : aH w F s az x v (fun _ => False)) (JC : aH w F s az i q6 (fun _ => False))
  (he : bX C s T x i = some av) : Good C w0 F0 X az w (Instr.indexAt T v q6) av s := by
 unfold bX at he
 split at he
 ·rename_i e k n ay
  have zx := (aH.cv rfl).1 JC
  rw [ax, hq zx.1] at zx
  have : q6 = .int k n := by simpa using zx.2
  subst this
  split at he
  ·rename_i bl
   obtain ⟨n, rfl⟩ := Int.eq_ofNat_of_zero_le bl.1
   simp only [Int.toNat_natCast] at he
   split at he
   ·rename_i xs
    split at he
    ·rename_i d ah
     split at he
     ·rename_i hw
      simp only [Option.some.injEq] at he; subst he
      have kj := (aH.cv rfl).1 aK
      rw [ax, hq kj.1] at kj
      obtain ⟨aa, ⟨rfl, _⟩ | ⟨b, o, cap, dt, sz, ab, af, aF, bb, bV, cd, cf⟩⟩ := kj
      ·simp at ah
      ·simp only [List.cons.injEq, and_true] at ab; subst ab
       have dQ : n < xs.length := (List.getElem?_eq_some_iff.1 ah).1
       obtain ⟨cr, fc, cu, b1, iV, rfl, gQ, fo, gi, gR, fX, kD⟩ := a6.pick xs _ _ n d cf ah
       refine Good.same h (C8 bp ay bl.2 b o _ _ k n dQ w) rfl ((aH.cv rfl).2 ⟨rfl, ?_⟩)
       rw [ax]
       refine ⟨b, _, fc, rfl, af, ?_, ax.mono (fun _ h => h) _ _ _ _ (fun b U => gi b U) fX⟩
       have JD := bV d (List.mem_of_getElem? ah)
       have : n * (C.T e).sz = cr.length := by
        rw [gQ, pk _ (fun d ah => bV d (List.mem_of_mem_take ah)), List.length_take, Nat.min_eq_left (by omega), ← hw, JD]
       rw [this]; exact cd.zv
     ·cases he
    ·cases he
   ·rename_i y q
    split at he
    ·rename_i sz xs ah
     split at he
     ·rename_i hw
      simp only [Option.some.injEq] at he; subst he
      rw [aH] at aK
      obtain ⟨cw, a, aY, bs, b_⟩ := aK _ ah rfl
      have aa : Value.fN v = true := b_
      rw [hq aa] at bs; subst bs
      have au := h.da y
      rw [aH.cv (hb ah (.inl rfl))] at au
      obtain ⟨fe, cl, dH, fW, k0, bN, b6, et, dy, fk⟩ := ctx q (s y) (cm (az y)) (S y) none _ au.2 ah
      rw [k0] at aY
      simp only [Option.some.injEq, Prod.mk.injEq, true_and] at aY
      obtain ⟨rfl, rfl⟩ := aY
      rw [ax] at dy
      rcases dy with ⟨rfl, _⟩ | ⟨b, cap, cur, aP, fr, dg, a_, _⟩
      ·simp at hw
      ·simp only [List.cons.injEq, and_true] at a_; subst a_
       refine Good.same h (C8 bp ay bl.2 b 0 _ _ k n hw.1 w) rfl ?_
       rw [aH]
       intro d2 h6 _
       rw [vU w q _ _ _ _ _ _ [n] k0]
       rw [vT _ _ _ _ ah] at h6
       obtain ⟨d3, sW⟩ : ∃ d3, xs[n]? = some d3 := ⟨_, List.getElem?_eq_getElem hw.1⟩
       simp only [I.sub, sW, Option.some.injEq] at h6
       subst h6
       simp only [cU, sW]
       exact ⟨_, b, n * sz, rfl, by simp [hw.2]⟩
     ·cases he
    ·cases he
   ·cases he
  ·cases he
 ·cases he
end
section
variable {C : bZ} {w0 w : World} {F0 X F : Nat → Prop} {S : Nat → Nat → Prop} {s s1 : aj} {az : Nat → Value} {av : I}
theorem JE (bp : C.Ok) {T : TypeId} {aw : List (TypeId × Nat)} (ay : (C.T T).k = .struct aw) (w : World) : (isAgg T).run C.P w = .ok true w := by
 obtain ⟨i, d, z, aJ, aP, a_, cD, c4, b8, b2⟩ := bp.info (fS ay (by simp))
 rw [ay] at b2
 obtain ⟨gs, rfl, _⟩ := zt b2
 simp [isAgg, run_underlying b8]
def fR.flat (x : fR) : Bool := match x.k with
 | .other => false
 | .struct _ => false
 | _ => true
theorem C9 {x : fR} (h : x.flat = true) : x.ok = true := by
 unfold fR.flat at h; unfold fR.ok; revert h; cases x.k <;> simp
theorem JF (bp : C.Ok) {T : TypeId} (ay : (C.T T).flat = true) (w : World) : (isAgg T).run C.P w = .ok false w := by
 obtain ⟨i, d, z, aJ, aP, a_, cD, c4, b8, b2⟩ := bp.info (C9 ay)
 have cV : (∀ aw, d ≠ .struct aw) ∧ (∀ n e, d ≠ .array n e) := by
  clear b8
  unfold fR.flat at ay
  generalize (C.T T).k = kk at *
  cases kk <;> cases d <;> simp [jV] at b2 ay ⊢
 cases d <;> first | exact (cV.1 _ rfl).elim | exact (cV.2 _ _ rfl).elim | simp [isAgg, run_underlying b8]
theorem Rd.one {w : World} {b o : Nat} {v : Value} (h : Rd w b o [v]) : w.cell? ⟨b, o, none⟩ = some v := by simpa using h 0 v rfl
theorem C_ {P : Program} {b o : Nat} : ∀ (cs : List Value) (i : Nat) (acc : Array Value), Rd w b (o + i) cs → (loadCellsFrom ⟨b, o, none⟩ i cs.length acc).run P w = .ok (acc ++ cs.toArray) w
 | [], i, acc, _ => by simp [loadCellsFrom]
 | c :: cs, i, acc, h => by
   have bh : w.cell? ⟨b, o + i, none⟩ = some c := by simpa using h 0 c rfl
   have ab : Rd w b (o + (i + 1)) cs := by
    intro j x bS
    have := h (j + 1) x (by simpa using bS)
    rw [← this]; congr 2; omega
   have ih := C_ (P := P) cs (i + 1) (acc.push c) ab
   simp only [List.length_cons, loadCellsFrom, Sem.run_bind, Go.load, Sem.run, Addr.add_lit, bh, Result.andThen]
   rw [ih]; simp
theorem JG (bp : C.Ok) {T : TypeId} {aw : List (TypeId × Nat)} (ay : (C.T T).k = .struct aw) {b o : Nat} {cs : List Value} (h : Rd w b o cs) (hl : cs.length = (C.T T).sz) :
  (loadVar T ⟨b, o, none⟩).run C.P w = .ok (.agg cs.toArray) w := by
 obtain ⟨i, d, z, aJ, aP, a_, cD, c4, b8, b2⟩ := bp.info (fS ay (by simp))
 have := C_ (P := C.P) (b := b) (o := o) cs 0 #[] (by simpa using h)
 simp only [loadVar, Sem.run_bind, JE bp ay, Result.andThen, if_true, iI aJ, aP, ← hl, loadCells, this]
 simp
theorem Da (bp : C.Ok) {T : TypeId} (ay : (C.T T).flat = true) {b o : Nat} {v : Value} (h : Rd w b o [v]) :
  (loadVar T ⟨b, o, none⟩).run C.P w = .ok v w := by
 simp [loadVar, JF bp ay, Go.load, Sem.run, h.one]
def fits (C : bZ) (T : TypeId) (d : I) : Bool := match (C.T T).k, d with
    | .struct _, .agg ds => I.dp ds == (C.T T).sz
    | .struct _, _ => false
    | _, .agg _ => false
    | _, .tuple _ => false
    | _, _ => (C.T T).flat
def Db : List I → Nat → Nat → Option Nat
 | [], _, _ => none
 | d :: ds, i, k => if k = 0 then some i else if d.wd ≤ k then Db ds (i + 1) (k - d.wd) else none
def aM (C : bZ) (s : aj) (T : TypeId) (x : I) : Option I :=
 match x with
 | .ref d => if fits C T d = true then some d else none
 | .U y k => match s y with
   | .agg ds => if I.e2 ds then none else match Db ds 0 k with
     | some i => match ds[i]? with
       | some d => if I.dp (ds.take i) = k ∧ fits C T d = true then some (if d.plain then d else .h y [i]) else none
       | none => none
     | none => none
   | _ => none
 | x => match loc s x with
   | some (y, q) => match I.sub q (s y) with
     | some d => if fits C T d = true then some (if d.plain then d else .h y q) else none
     | none => none
   | none => none
theorem ax.one {F : Nat → Prop} {d : I} {cs : List Value} {S : Nat → Prop} (h : ax w F d cs S) (ab : ∀ aw, d ≠ .agg aw) (af : ∀ aw, d ≠ .tuple aw) : ∃ v, cs = [v] ∧ Value.fN v = true := by
 cases d with
 | hole => rw [ax] at h; obtain ⟨v, h, rfl⟩ := h; exact ⟨v, rfl, h⟩
 | dV => rw [ax] at h; obtain ⟨v, rfl⟩ := h; exact ⟨_, rfl, rfl⟩
 | slice xs => rw [ax] at h; rcases h with ⟨_, a, c, rfl, _⟩ | ⟨b, o, cap, dt, sz, rfl, _⟩ <;> exact ⟨_, rfl, rfl⟩
 | aE sz xs => rw [ax] at h; rcases h with ⟨_, _, rfl⟩ | ⟨b, cap, cur, e, fr, dh, rfl, _⟩ <;> exact ⟨_, rfl, rfl⟩
 | ref d => rw [ax] at h; obtain ⟨b, o, dt, rfl, _⟩ := h; exact ⟨_, rfl, rfl⟩
 | bd d => rw [ax] at h; obtain ⟨b, cur, e, fr, dh, rfl, _⟩ := h; exact ⟨_, rfl, rfl⟩
 | agg aw => exact (ab _ rfl).elim
 | tuple aw => exact (af _ rfl).elim
 | fn _ _ => rw [ax] at h; exact h.elim
 | h _ _ => rw [ax] at h; exact h.elim
 | an _ _ => rw [ax] at h; exact h.elim
 | U _ _ => rw [ax] at h; exact h.elim
 | _ => rw [ax] at h; subst h; exact ⟨_, rfl, rfl⟩
theorem vY (bp : C.Ok) {T : TypeId} {d : I} {b o : Nat} {cs : List Value} {S : Nat → Prop} (h : Rd w b o cs) (ah : ax w F d cs S)
  (iJ : fits C T d = true) :
  ∃ v, (loadVar T ⟨b, o, none⟩).run C.P w = .ok v w ∧ cm v = cs ∧ du d v := by
 unfold fits at iJ
 by_cases aa : ∃ aw, (C.T T).k = .struct aw
 ·obtain ⟨aw, ay⟩ := aa
  rw [ay] at iJ
  cases d with
  | agg ds =>
    simp only [beq_iff_eq] at iJ
    refine ⟨_, JG bp ay h ((ax.length _ _ _ ah).trans iJ), rfl, ⟨_, rfl⟩⟩
  | _ => simp at iJ
 ·have jX : (C.T T).flat = true ∧ (∀ aw, d ≠ .agg aw) ∧ (∀ aw, d ≠ .tuple aw) := by
   revert iJ aa
   cases ay : (C.T T).k <;> cases d <;> simp
  obtain ⟨v, rfl, ab⟩ := ax.one ah jX.2.1 jX.2.2
  refine ⟨v, Da bp jX.1 h, hq ab, ?_⟩
  cases d <;> first | exact ab | exact (jX.2.1 _ rfl).elim | exact (jX.2.2 _ rfl).elim
theorem JH (bp : C.Ok) (h : bE w0 F0 X F S s az w) {T : TypeId} {x : I} {v : Value} (aK : aH w F s az x v (fun _ => False)) (he : aM C s T x = some av) :
  Good C w0 F0 X az w (Instr.loadAt T v) av s := by
 unfold aM at he
 split at he
 ·rename_i d
  split at he
  ·rename_i iJ
   simp only [Option.some.injEq] at he; subst he
   have kj := (aH.cv rfl).1 aK
   rw [ax, hq kj.1] at kj
   obtain ⟨aa, b, o, dt, ab, af, aF, bb⟩ := kj
   simp only [List.cons.injEq, and_true] at ab; subst ab
   obtain ⟨fp, aO, al, pv⟩ := vY bp aF bb iJ
   have dR : (Instr.loadAt T (.pointer (some ⟨b, o, none⟩))).run C.P w = .ok fp w := by simp [Instr.loadAt, Instr.sureAddr, aO]
   refine ⟨fp, w, F, S, dR, h, ?_⟩
   by_cases aZ : d.tree = true
   ·exact .inr ⟨aZ, pv, fun _ => False, by rw [al]; exact bb, fun _ h => h.elim, fun _ h => h.elim, fun _ _ h => h.elim, fun _ h => h.elim⟩
   ·cases d <;> first | exact (aZ rfl).elim | (rw [ax] at bb; exact bb.elim) | exact .inl ⟨rfl, by rw [aH]; trivial⟩
  ·cases he
 ·rename_i y k
  split at he
  ·rename_i ds k8
   split at he
   ·cases he
   ·rename_i sX
    split at he
    ·rename_i i ak
     split at he
     ·rename_i d ah
      split at he
      ·rename_i iJ
       simp only [Option.some.injEq] at he
       have fj : (s y).plain = false := by rw [k8]; simp only [I.plain]; simpa using sX
       rw [aH] at aK
       obtain ⟨b, cur, e, fr, rfl, af, aF, bb⟩ := aK fj
       have bC := h.da y
       rw [k8] at bC
       have Dc := ((aH.cv rfl).1 bC).2
       rw [ax] at Dc
       obtain ⟨cr, fc, cu, b1, iV, hr, gQ, fo, gi, gR, fX, kD⟩ := a6.pick ds _ _ i d Dc ah
       have il : Rd w b k fc := by
        intro j c bS
        have dQ : j < fc.length := (List.getElem?_eq_some_iff.1 bS).1
        have : cur.toList[k + j]? = some c := by
         rw [bb, hr, List.getElem?_append_right (by omega), List.getElem?_append_left (by omega), ← bS]; congr 1; omega
        simp [World.cell?, aF]
        simpa using this
       obtain ⟨fp, aO, al, pv⟩ := vY bp il fX iJ.2
       have dR : (Instr.loadAt T (.pointer (some ⟨b, k, none⟩))).run C.P w = .ok fp w := by simp [Instr.loadAt, Instr.sureAddr, aO]
       refine ⟨fp, w, F, S, dR, h, ?_⟩
       split at he
       ·rename_i an
        subst he
        by_cases aZ : d.tree = true
        ·exact .inl ⟨an, (aH.cv aZ).2 ⟨pv, by rw [al]; exact ax.plain _ _ _ _ an fX⟩⟩
        ·cases d <;> first | exact (aZ rfl).elim | (rw [ax] at fX; exact fX.elim) | exact .inl ⟨rfl, by rw [aH]; trivial⟩
       ·subst he
        refine .inl ⟨rfl, ?_⟩
        rw [aH]
        intro d2 h6 _
        rw [k8] at h6 ⊢
        simp only [I.sub, ah, Option.some.injEq] at h6
        subst h6
        refine ⟨fc, none, ?_, al, pv⟩
        simp only [cU, ah]
        rw [hr, qY cr fc cu _ _ gQ (ax.length _ _ _ fX)]
        rfl
      ·cases he
     ·cases he
    ·cases he
  ·cases he
 ·rename_i x _ _
  split at he
  ·rename_i y q hl
   split at he
   ·rename_i d ah
    split at he
    ·rename_i iJ
     simp only [Option.some.injEq] at he
     obtain ⟨mn, cw, b, o, rfl, jy⟩ := zu h aK hl ah
     have bC := h.da y
     rw [aH.cv (hb ah (.inr mn))] at bC
     obtain ⟨fe, cl, dH, fW, k0, bN, b6, et, dy, fk⟩ := ctx q (s y) (cm (az y)) (S y) none _ bC.2 ah
     rw [k0] at jy
     simp only [Option.some.injEq, Prod.mk.injEq, true_and] at jy
     obtain ⟨rfl, rfl⟩ := jy
     have il : Rd w b o fe := by
      rcases fk with ⟨l, r, aJ, aP, _⟩ | ⟨eO, cur, e, fr, l, r, aJ, aP, a_, cD, c4, _⟩
      ·simp at aP
      ·simp only [Option.some.injEq, Prod.mk.injEq] at aJ
       obtain ⟨rfl, rfl⟩ := aJ
       intro j c bS
       have dQ : j < fe.length := (List.getElem?_eq_some_iff.1 bS).1
       have : cur.toList[l.length + j]? = some c := by
        rw [c4, List.getElem?_append_right (by omega), List.getElem?_append_left (by omega), ← bS]; congr 1; omega
       simp [World.cell?, a_]
       simpa using this
     obtain ⟨fp, aO, al, pv⟩ := vY bp il dy iJ
     have dR : (Instr.loadAt T (.pointer (some ⟨b, o, none⟩))).run C.P w = .ok fp w := by simp [Instr.loadAt, Instr.sureAddr, aO]
     refine ⟨fp, w, F, S, dR, h, ?_⟩
     split at he
     ·rename_i an
      subst he
      by_cases aZ : d.tree = true
      ·exact .inl ⟨an, (aH.cv aZ).2 ⟨pv, by rw [al]; exact ax.plain _ _ _ _ an dy⟩⟩
      ·cases d <;> first | exact (aZ rfl).elim | (rw [ax] at dy; exact dy.elim) | exact .inl ⟨rfl, by rw [aH]; trivial⟩
     ·subst he
      refine .inl ⟨rfl, ?_⟩
      rw [aH]
      intro d2 h6 _
      rw [ah] at h6
      simp only [Option.some.injEq] at h6
      subst h6
      exact ⟨_, _, k0, al, pv⟩
    ·cases he
   ·cases he
  ·cases he
mutual
theorem ax.pw {F : Nat → Prop} : ∀ (d : I) (cs : List Value) (S : Nat → Prop), ax w F d cs S → ∀ c ∈ cs, Value.fN c = true
 | .hole, cs, S, h => by rw [ax] at h; obtain ⟨v, h, rfl⟩ := h; simpa using h
 | .bool _, cs, S, h => by rw [ax] at h; subst h; simp [Value.fN]
 | .dV, cs, S, h => by rw [ax] at h; obtain ⟨b, rfl⟩ := h; simp [Value.fN]
 | .int _ _, cs, S, h => by rw [ax] at h; subst h; simp [Value.fN]
 | .str _, cs, S, h => by rw [ax] at h; subst h; simp [Value.fN]
 | .c7, cs, S, h => by rw [ax] at h; subst h; simp [Value.fN]
 | .bA, cs, S, h => by rw [ax] at h; subst h; simp [Value.fN]
 | .slice xs, cs, S, h => by
   rw [ax] at h
   rcases h with ⟨_, a, c, rfl, _⟩ | ⟨b, o, cap, dt, sz, rfl, _⟩ <;> simp [Value.fN]
 | .aE sz xs, cs, S, h => by
   rw [ax] at h
   rcases h with ⟨_, _, rfl⟩ | ⟨b, cap, cur, e, fr, aL, rfl, _⟩ <;> simp [Value.fN]
 | .ref d, cs, S, h => by rw [ax] at h; obtain ⟨b, o, dt, rfl, _⟩ := h; simp [Value.fN]
 | .bd d, cs, S, h => by rw [ax] at h; obtain ⟨b, o, dt, _, _, rfl, _⟩ := h; simp [Value.fN]
 | .agg aw, cs, S, h => by rw [ax] at h; exact a6.pw aw _ _ h
 | .tuple aw, cs, S, h => by rw [ax] at h; exact a6.pw aw _ _ h
 | .fn _ _, cs, S, h => by rw [ax] at h; exact h.elim
 | .h _ _, cs, S, h => by rw [ax] at h; exact h.elim
 | .an _ _, cs, S, h => by rw [ax] at h; exact h.elim
 | .U _ _, cs, S, h => by rw [ax] at h; exact h.elim
theorem a6.pw {F : Nat → Prop} : ∀ (ds : List I) (cs : List Value) (S : Nat → Prop), a6 w F ds cs S → ∀ c ∈ cs, Value.fN c = true
 | [], cs, S, h => by rw [a6] at h; subst h; simp
 | d :: ds, cs, S, h => by
   rw [a6] at h
   obtain ⟨cr, cu, b1, dg, rfl, af, aF, _⟩ := h
   intro c al
   rcases List.mem_append.1 al with al | al
   ·exact ax.pw d _ _ af c al
   ·exact a6.pw ds _ _ aF c al
end
theorem vZ {P : Program} {b o : Nat} {e : TypeId} {fr : Nat × Nat} : ∀ (vs : List Value) (i : Nat) (cur : Array Value) (w : World) (l m r : List Value), w.heap[b]? = some (.cells cur e fr) → mh fr cur.size →
  cur.toList = l ++ (m ++ r) → l.length = o + i → m.length = vs.length → (∀ v ∈ vs, Value.fN v = true) →
  ∃ aD, (storeCells ⟨b, o, none⟩ vs i).run P w = .ok () aD ∧ aD.heap[b]? = some (.cells (l ++ (vs ++ r)).toArray e fr) ∧ (∀ c, c ≠ b → aD.heap[c]? = w.heap[c]?) ∧ aD.heap.size = w.heap.size ∧ aD.os = w.os ∧ aD.tape = w.tape ∧ aD.output = w.output
 | [], i, cur, w, l, m, r, U, bB, al, hl, hm, _ => by
   refine ⟨w, rfl, ?_, fun _ _ => rfl, rfl, rfl, rfl, rfl⟩
   have : m = [] := by simpa using hm
   subst this
   rw [U]
   have : cur = (l ++ ([] ++ r)).toArray := by rw [← al]
   rw [← this]
 | v :: vs, i, cur, w, l, m, r, U, bB, al, hl, hm, v7 => by
   obtain ⟨x, m, rfl⟩ : ∃ x hs, m = x :: hs := by cases m with
    | nil => simp at hm
    | cons x m => exact ⟨x, m, rfl⟩
   have hlen : cur.size = (l ++ (x :: m ++ r)).length := by rw [← al]; simp
   have dQ : o + i < cur.size := by rw [hlen]; simp; omega
   have v8 : w.cell? ⟨b, o + i, none⟩ = some cur[o + i] := by simp [World.cell?, U, dQ]
   have JI : w.frozen? ⟨b, o + i, none⟩ = false := by
    have := bB (o + i) dQ
    simp only [World.frozen?, U]
    simp only [Bool.and_eq_false_iff, decide_eq_false_iff_not]
    by_cases ab : fr.1 ≤ o + i
    ·right; exact fun af => this ⟨ab, af⟩
    ·left; exact ab
   have ov : (w.setCell ⟨b, o + i, none⟩ v).heap[b]? = some (.cells ((l ++ [v]) ++ (m ++ r)).toArray e fr) := by
    simp only [World.setCell, Array.getElem?_modify, if_true, U, Option.map_some, Option.isSome_none, Bool.false_eq_true, if_false]
    congr 2
    apply Array.ext'
    rw [Array.toList_setIfInBounds, al, ← hl, List.set_append_right _ _ (Nat.le_refl _)]
    simp
   have px : (store ((⟨b, o, none⟩ : Addr).add i) v).run P w = .ok () (w.setCell ⟨b, o + i, none⟩ v) := by
    have ab := v7 v (by simp)
    rw [Addr.add_lit]
    cases v <;> first | (simp [Value.fN] at ab; done) | simp [Go.store, Sem.run, v8, JI]
   obtain ⟨aD, aY, bs, b_, dq, ey, gT, ht⟩ := vZ (P := P) (b := b) (o := o) vs (i + 1) _ (w.setCell ⟨b, o + i, none⟩ v) (l ++ [v]) m r ov (by
    have : (l ++ [v] ++ (m ++ r)).toArray.size = cur.size := by rw [hlen]; simp
    rw [this]; exact bB) (by simp) (by simp; omega) (by simpa using hm) (fun u hu => v7 u (by simp [hu]))
   refine ⟨aD, ?_, by simpa using bs, fun c al => ?_, ?_, ey, gT, ht⟩
   ·simp only [storeCells, Sem.run_bind, px, Result.andThen]; exact aY
   ·rw [b_ c al]
    simp only [World.setCell, Array.getElem?_modify]
    rw [if_neg (fun e => al e.symm)]
   ·rw [dq]; simp [World.setCell]
theorem v_ {d : I} {v : Value} (h : du d v) (ah : ∀ aw, d ≠ .tuple aw) : v.cells = (cm v).toArray := by
 cases d with
 | tuple aw => exact (ah _ rfl).elim
 | agg aw => obtain ⟨arr, rfl⟩ := h; simp [Value.cells, cm, gJ]
 | _ =>
   have ab : Value.fN v = true := h
   rw [hq ab]
   cases v <;> first | rfl | (simp [Value.fN] at ab)
def cP (C : bZ) (s : aj) (T : TypeId) (x y : I) : Option aj :=
 match ct s y, loc s x with
 | some (d, s1), some (z, q) => match d with
   | .tuple _ => none
   | d => match I.sub q (s z) with
     | some d0 => if d.wd = d0.wd ∧ d.wd = (C.T T).sz ∧ (C.T T).ok = true ∧ y.owner ≠ some z then some (cY (hp z s1) z (I.put q d (s z))) else none
     | none => none
 | _, _ => none
theorem JJ {s s1 : aj} {y d : I} {z : Nat} (h : ct s y = some (d, s1)) (bG : (s z).tree = true) (bC : y.owner ≠ some z) : s1 z = s z := by
 cases y with
 | h x q =>
   simp only [ct] at h
   split at h
   ·split at h
    ·cases h
    ·simp only [Option.some.injEq, Prod.mk.injEq] at h
     obtain ⟨_, rfl⟩ := h
     rw [h4 _ _ (fun e => bC (by rw [I.owner, e]))]
     exact zi bG
   ·cases h
 | an x q => simp [ct] at h
 | U x q => simp [ct] at h
 | fn f c => simp [ct] at h
 | hole => simp [ct] at h
 | _ => simp only [ct, Option.some.injEq, Prod.mk.injEq] at h; rw [h.2]
theorem JK (bp : C.Ok) (h : bE w0 F0 X F S s az w) {T : TypeId} {x y : I} {iK h7 : Value} (zy : aH w F s az x iK (fun _ => False)) (bC : y.plain = true) (JL : aH w F s az y h7 (fun _ => False))
  {s2 : aj} (he : cP C s T x y = some s2) :
  ∃ aD aL, (Instr.storeAt T iK h7).run C.P w = .ok () aD ∧ bE w0 F0 X F aL s2 az aD := by
 unfold cP at he
 split at he
 ·rename_i d s1 z q aZ hl
  have key : ∀ d : I, (∀ aw, d ≠ .tuple aw) → ct s y = some (d, s1) → (match I.sub q (s z) with
   | some d0 => if d.wd = d0.wd ∧ d.wd = (C.T T).sz ∧ (C.T T).ok = true ∧ y.owner ≠ some z then some (cY (hp z s1) z (I.put q d (s z))) else none
   | none => none) = some s2 → ∃ aD aL, (Instr.storeAt T iK h7).run C.P w = .ok () aD ∧ bE w0 F0 X F aL s2 az aD := by
   intro d nE aZ he
   split at he
   ·rename_i d0 jh
    split at he
    ·rename_i py
     obtain ⟨ab, af, aF, bb⟩ := py
     simp only [Option.some.injEq] at he; subst he
     obtain ⟨mn, cw, b, o, rfl, jy⟩ := zu h zy hl jh
     obtain ⟨b1, gr, aY, bs, Sn, b_, dq, ey, gT, ht, jY⟩ := oo h bC JL aZ
     have dB : s1 z = s z := JJ aZ (hb jh (.inr mn)) bb
     rw [← dB] at jh mn jy ⊢
     obtain ⟨fe, eO, l, r, cur, e, fr, k0, bN, b6, et, dy⟩ := gr.store jh mn b_ ab dq ey gT ht
     rw [jy] at k0
     simp only [Option.some.injEq, Prod.mk.injEq, true_and] at k0
     obtain ⟨rfl, rfl, rfl⟩ := k0
     obtain ⟨i, d, ou, aJ, aP, a_, cD, c4, b8, b2⟩ := bp.info aF
     have hlen := ax.length _ _ _ b_
     have hm : cw.length = (cm h7).length := by
      have Dd := gr.da z
      rw [aH.cv (hb jh (.inr mn))] at Dd
      obtain ⟨_, _, _, _, mi, _, _, _, m4, _⟩ := ctx q (s1 z) (cm (az z)) (b1 z) none _ Dd.2 jh
      rw [jy] at mi
      simp only [Option.some.injEq, Prod.mk.injEq, true_and] at mi
      rw [mi.1, ax.length _ _ _ m4, hlen, ab]
     obtain ⟨aD, eV, fY, gK, jZ, lH, dj, mo⟩ := vZ (P := C.P) (b := b) (o := l.length) (e := e) (fr := fr) (cm h7) 0 cur w l cw r bN et b6 rfl hm (ax.pw _ _ _ b_)
     obtain ⟨aL, fk⟩ := dy aD fY gK jZ lH dj mo
     refine ⟨aD, aL, ?_, fk⟩
     have nF := v_ bs nE
     simp [Instr.storeAt, Instr.sureAddr, storeVar, iI aJ, aP, nF, hlen, af, eV]
    ·cases he
   ·cases he
  split at he
  ·cases he
  ·rename_i nE
   exact key _ (fun aw e => nE aw e) aZ he
 ·cases he
theorem bE.alloc (h : bE w0 F0 X F S s az w) {d : I} {cs : List Value} {Sn : Nat → Prop} (e : TypeId) (aK : ax w F d cs Sn)
  (dQ : ∀ b, Sn b → b < w.heap.size) (bo : ∀ b, Sn b → ¬ F b) (bL : ∀ u b, Sn b → ¬ S u b) (bh : ∀ b, Sn b → X b ∨ w0.heap.size ≤ b) :
  bE w0 F0 X F S s az (w.alloc (.cells cs.toArray e)) ∧
   jA w0 X F S s az (w.alloc (.cells cs.toArray e)) (.bd d) (.pointer (some ⟨w.heap.size, 0, none⟩)) := by
 have hold : ∀ b, b < w.heap.size → (w.alloc (.cells cs.toArray e)).heap[b]? = w.heap[b]? := by
  intro b U
  show (w.heap.push _)[b]? = _
  rw [Array.getElem?_push, if_neg (by omega)]
 refine ⟨h.grow hold (by simp) rfl rfl rfl, .inr ⟨rfl, rfl, fun b => b = w.heap.size ∨ Sn b, ?_, ?_, ?_, ?_, ?_⟩⟩
 ·rw [ax]
  refine ⟨w.heap.size, cs.toArray, e, (0, 0), Sn, rfl, .inl rfl, ?_, ?_, ?_, fun c al => .inr al, fun al => Nat.lt_irrefl _ (dQ _ al)⟩
  ·show (w.heap.push _)[_]? = _
   simp
  ·intro o _ ⟨_, af⟩; exact absurd af (Nat.not_lt_zero _)
  ·exact ax.frame (fun b U => hold b (h.eT b U)) _ _ _ (fun b U => hold b (dQ b U)) aK
 ·rintro b (rfl | U)
  ·simp
  ·have := dQ b U; simp; omega
 ·rintro b (rfl | U) sY
  ·exact Nat.lt_irrefl _ (h.eT _ sY)
  ·exact bo b U sY
 ·rintro u b (rfl | U) hu
  ·exact Nat.lt_irrefl _ (h.dM _ _ hu)
  ·exact bL u b U hu
 ·rintro b (rfl | U)
  ·exact .inr h.size
  ·exact bh b U
def dS (C : bZ) (T : TypeId) : Option I := if (C.T T).ok = true then (match flat (C.T T).zero with | some _ => some (.bd (C.T T).zero) | none => none) else none
theorem JM (bp : C.Ok) (h : bE w0 F0 X F S s az w) {T : TypeId} (he : dS C T = some av) : Good C w0 F0 X az w (Instr.alloc T true (.tuple #[])) av s := by
 unfold dS at he
 split at he
 ·rename_i ay
  split at he
  ·rename_i cs hr
   simp only [Option.some.injEq] at he; subst he
   obtain ⟨i, d, z, aJ, aP, a_, cD, c4, b8, b2⟩ := bp.info ay
   have bG := c4 cs hr
   obtain ⟨dx, eb⟩ := h.alloc (d := (C.T T).zero) T ((ax.flat _).1 _ cs (fun _ => False) (Nat.le_refl _) hr) (fun _ h => h.elim) (fun _ h => h.elim) (fun _ _ h => h.elim) (fun _ h => h.elim)
   refine ⟨_, _, F, S, ?_, dx, eb⟩
   simp [Instr.alloc, q3 aJ cD, newVar, newRow, newObj, Sem.run, bG]
  ·cases he
 ·cases he
def di (s : aj) (x : I) : Option (I × aj) := match ct s x with
 | some (.tuple _, _) => none
 | some (d, s1) => some (.bd d, s1)
 | none => none
def j0 (s : aj) (x : I) : Option (I × aj) := match x with
 | .h y q => match q, s y with
   | [], .agg ds => if I.e2 ds then none else some (.U y 0, s)
   | _, _ => none
 | _ => none
theorem JN (h : bE w0 F0 X F S s az w) {T : TypeId} {x : I} {v : Value} (aK : aH w F s az x v (fun _ => False)) (he : j0 s x = some (av, s1)) :
  Good C w0 F0 X az w (Instr.box T v) av s1 := by
 unfold j0 at he
 split at he
 ·rename_i y q
  split at he
  ·rename_i ds k8
   split at he
   ·cases he
   ·rename_i sX
    simp only [Option.some.injEq, Prod.mk.injEq] at he
    obtain ⟨rfl, rfl⟩ := he
    rw [aH] at aK
    obtain ⟨cw, a, aY, bs, b_⟩ := aK (s y) (by simp only [I.sub]) (by rw [k8]; simp only [I.plain]; simpa using sX)
    simp only [cU, Option.some.injEq, Prod.mk.injEq, true_and] at aY
    rw [k8] at b_
    have nF := v_ b_ (fun aw e => by cases e)
    have hold : ∀ b, b < w.heap.size → (w.alloc (.cells (cm v).toArray T)).heap[b]? = w.heap[b]? := by
     intro b U
     show (w.heap.push _)[b]? = _
     rw [Array.getElem?_push, if_neg (by omega)]
    refine ⟨.pointer (some ⟨w.heap.size, 0, none⟩), w.alloc (.cells (cm v).toArray T), fun b => F b ∨ b = w.heap.size, S, by simp [Instr.box, newVar, newRow, newObj, Sem.run, nF], ?_, .inl ⟨rfl, ?_⟩⟩
    ·have ab := h.grow hold (by simp) rfl rfl rfl
     exact {
      gk := fun b U => .inl (ab.gk b U)
      gC := fun b U => by
       rcases U with U | rfl
       ·exact ab.gC b U
       ·exact .inr (.inr h.size)
      eT := fun b U => by
       rcases U with U | rfl
       ·exact ab.eT b U
       ·simp
      dM := ab.dM
      ff := fun t b U bB => by
       rcases bB with bB | rfl
       ·exact ab.ff t b U bB
       ·exact absurd (h.dM t _ U) (Nat.lt_irrefl _)
      eU := ab.eU
      dh := ab.dh
      da := fun t => aH.frame (fun _ _ => rfl) (fun b U => .inl U) (fun _ _ _ => rfl) ab.da _ _ _ (fun _ _ => rfl) (ab.da t)
      old := ab.old
      size := ab.size
      os := ab.os
      tape := ab.tape
      output := ab.output }
    ·rw [aH]
     intro _
     refine ⟨w.heap.size, (cm v).toArray, T, (0, 0), rfl, .inr rfl, ?_, ?_⟩
     ·show (w.heap.push _)[_]? = _
      simp
     ·rw [aY.1, ← bs]
  ·cases he
 ·cases he
theorem JO (h : bE w0 F0 X F S s az w) {T : TypeId} {x : I} {v : Value} (au : x.plain = true) (aK : aH w F s az x v (fun _ => False)) (he : di s x = some (av, s1)) :
  Good C w0 F0 X az w (Instr.box T v) av s1 := by
 unfold di at he
 split at he
 ·cases he
 ·rename_i d s2 nE aZ
  simp only [Option.some.injEq, Prod.mk.injEq] at he
  obtain ⟨rfl, rfl⟩ := he
  obtain ⟨b1, gr, aY, bs, Sn, b_, dq, ey, gT, ht, jY⟩ := oo h au aK aZ
  obtain ⟨dx, eb⟩ := gr.alloc T b_ dq ey gT ht
  refine ⟨_, _, F, b1, ?_, dx, eb⟩
  have nF := v_ bs (fun aw e => nE aw e)
  simp [Instr.box, newVar, newRow, newObj, Sem.run, nF]
 ·cases he
end
end Go.cB
