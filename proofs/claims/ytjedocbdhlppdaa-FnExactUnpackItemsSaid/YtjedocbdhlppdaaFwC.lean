/- Part of a proof that a law returns true for every input. No condition. -/
import Derived.Test.YtjedocbdhlppdaaFwB
import Derived.Laws.Entries
namespace Go.b7
inductive ju where
 | int (k : IntKind)
 | bool
 | str
 | ptr (e : TypeId)
 | slice (e : TypeId)
 | struct (af : List (TypeId × Nat))
 | fn
 | cI (e : TypeId)
 | other
structure dT where
 k : ju
 sz : Nat
 bytes : Nat
 zero : j
mutual
def flat : j → Option (List Value)
 | .bool b => some [.bool b]
 | .int k n => some [.int k n]
 | .str s => some [.string ⟨⟨s⟩⟩]
 | .b_ => some [.pointer none]
 | .bu => some [.slice none 0 0]
 | .agg af => k6 af
 | _ => none
def k6 : List j → Option (List Value)
 | [] => some []
 | d :: ds => match flat d, k6 ds with
   | some a, some b => some (a ++ b)
   | _, _ => none
end
theorem ai.flat {w : World} {F : Nat → Prop} : ∀ n, (∀ (d : j) (cs : List Value) (S : Nat → Prop), SizeOf.sizeOf d ≤ n → flat d = some cs → ai w F d cs S) ∧
  (∀ (ds : List j) (cs : List Value) (S : Nat → Prop), SizeOf.sizeOf ds ≤ n → k6 ds = some cs → aH w F ds cs S) := by
 intro n
 induction n with
 | zero => exact ⟨fun d _ _ bd => by cases d <;> simp at bd <;> omega, fun ds _ _ bd => by cases ds <;> simp at bd <;> omega⟩
 | succ n ih =>
   refine ⟨fun d cs S bd h => ?_, fun ds cs S bd h => ?_⟩
   ·cases d with
    | agg af => rw [ai]; exact ih.2 af cs S (by simp at bd; omega) (by simpa [b7.flat] using h)
    | bool b => simp [b7.flat] at h; subst h; rw [ai]
    | int k n => simp [b7.flat] at h; subst h; rw [ai]
    | str s => simp [b7.flat] at h; subst h; rw [ai]
    | b_ => simp [b7.flat] at h; subst h; rw [ai]
    | bu => simp [b7.flat] at h; subst h; rw [ai]
    | _ => simp [b7.flat] at h
   ·cases ds with
    | nil => simp [k6] at h; subst h; rw [aH]
    | cons d ds =>
      simp only [k6] at h
      split at h
      ·rename_i a b bB J
       simp at h; subst h
       simp at bd
       rw [aH]
       exact ⟨a, b, fun _ => False, fun _ => False, rfl, ih.1 d a _ (by omega) bB, ih.2 ds b _ (by omega) J, fun _ h => h.elim, fun _ h => h.elim, fun _ h => h.elim⟩
      ·cases h
def hH : ju → TypeDesc → Prop
 | .int k, .int cF => k = cF
 | .bool, .bool => True
 | .str, .string => True
 | .ptr e, .pointer eE => e = eE
 | .slice e, .slice eE => e = eE
 | .struct af, .struct gs => gs.toList.map (fun g => (g.type, g.offset)) = af
 | .fn, .func _ _ _ => True
 | .cI _, .struct _ => True
 | _, _ => False
def wN (P : Program) (t : TypeId) (x : dT) : Prop :=
 (∃ e n b z, x = ⟨.other, e, n, b⟩ ∧ z = 0) ∨
 ∃ i d z, P.info? t = some i ∧ i.size = x.sz ∧ i.bytes = x.bytes ∧ i.zero = some z ∧ (∀ cs, flat x.zero = some cs → z.cells = cs.toArray) ∧ P.underlying t = some d ∧ hH x.k d
structure bp where
 P : Program
 T : TypeId → dT
 M : FuncId → List Bool
structure bp.c3 (C : bp) : Prop where
 ty : ∀ t, wN C.P t (C.T t)
 mixed : C.P.follows .mixedOrders = true
inductive aq where
 | t (n : Nat)
 | c (av : j)
 | f (g : FuncId)
def rD : Value → Option j
 | .bool b => some (.bool b)
 | .int k n => some (.int k n)
 | .string s => some (.str s.data.toList)
 | .pointer none => some .b_
 | .slice none 0 0 => some .bu
 | _ => none
def cr : Operand → Option aq
 | .tmp n => some (.t n)
 | .const v => (rD v).map .c
 | .func g => some (.f g)
 | .global _ => none
def fH (x : Nat) (d : j) : j := if d.plain then d else .h x []
def aw (s : ad) : aq → j
 | .t n => fH n (s n)
 | .c av => av
 | .f g => .fn g []
theorem ar.nothing {w : World} {F : Nat → Prop} {s : ad} {al : Nat → Value} {d : j} {v : Value} {S az : Nat → Prop} (ak : d.plain = true) (h : ar w F s al d v S) : ar w F s al d v az := by
 cases d <;> first
  | (rw [ar]; trivial)
  | (rw [ar] at h ⊢; exact h)
  | (have aX := (ar.bE rfl).1 h; exact (ar.bE rfl).2 ⟨aX.1, ai.plain _ _ _ _ ak aX.2⟩)
section
variable {w0 w : World} {F0 X F : Nat → Prop} {S : Nat → Nat → Prop} {s : ad} {al : Nat → Value} {a : Act}
theorem wO (s : ad) (x : aq) (ag : ∀ av, x = .c av → av.plain = true) : (aw s x).plain = true := by
 cases x with
 | t n => simp only [aw, fH]; split <;> first | assumption | rfl
 | c av => exact ag _ rfl
 | f g => rfl
theorem tC {v : Value} {av : j} (h : rD v = some av) : av.plain = true := by
 unfold rD at h; split at h <;> simp at h <;> subst h <;> rfl
theorem dm (h : ba w0 F0 X F S s al w) (cN : ∀ t, al t = a.tmps.getD t undef) {o : Operand} {x : aq} (bq : cr o = some x) :
  (aw s x).plain = true ∧ ar w F s al (aw s x) (a.eval o) (fun _ => False) := by
 cases o with
 | tmp n =>
   simp [cr] at bq; subst bq
   simp only [aw, fH, Act.eval, ← cN]
   split
   ·rename_i ak; exact ⟨ak, ar.nothing ak (h.cl n)⟩
   ·rename_i ak
    refine ⟨rfl, ?_⟩
    rw [ar]
    intro d ab BW
    simp only [j.sub, Option.some.injEq] at ab; subst ab
    have aG := fh (q := []) rfl (.inl BW)
    exact ⟨_, none, rfl, rfl, ((ar.bE aG).1 (h.cl n)).1⟩
 | const v =>
   simp only [cr, Option.map_eq_some_iff] at bq
   obtain ⟨av, j3, rfl⟩ := bq
   refine ⟨tC j3, ?_⟩
   simp only [aw, Act.eval]
   unfold rD at j3
   split at j3 <;> simp at j3 <;> subst j3 <;> rw [ar, ai] <;> exact ⟨rfl, rfl⟩
 | func g =>
   simp [cr] at bq; subst bq
   refine ⟨rfl, ?_⟩
   simp only [aw, Act.eval]
   rw [ar]
   exact ⟨#[], rfl, by rw [cx]⟩
 | global g => simp [cr] at bq
def hh (w0 : World) (X F : Nat → Prop) (S : Nat → Nat → Prop) (s : ad) (al : Nat → Value) (w : World) (av : j) (v : Value) : Prop :=
 (av.plain = true ∧ ar w F s al av v (fun _ => False)) ∨
 (av.tree = true ∧ cA av v ∧ ∃ Sn, ai w F av (br v) Sn ∧ (∀ b, Sn b → b < w.heap.size) ∧ (∀ b, Sn b → ¬ F b) ∧ (∀ u b, Sn b → ¬ S u b) ∧ (∀ b, Sn b → X b ∨ w0.heap.size ≤ b))
def fin (s : ad) (dst : Option Nat) (av : j) : ad := match dst with
 | none => s
 | some t => if av.plain then ca s t av else ca (hE t s) t av
def mX (al : Nat → Value) (dst : Option Nat) (v : Value) : Nat → Value := match dst with
 | none => al
 | some t => ca al t v
theorem ba.fin (h : ba w0 F0 X F S s al w) {av : j} {v : Value} (aC : hh w0 X F S s al w av v) (dst : Option Nat) :
  ∃ az, ba w0 F0 X F az (b7.fin s dst av) (mX al dst v) w := by
 cases dst with
 | none => exact ⟨S, h⟩
 | some t =>
   simp only [b7.fin, mX]
   rcases aC with ⟨ak, ab⟩ | ⟨aG, R, Sn, U, aa, au, aK, a1⟩
   ·rw [if_pos ak]; exact ⟨_, h.pK ak ab⟩
   ·split
    ·rename_i ak
     exact ⟨_, h.pK ak ((ar.bE aG).2 ⟨R, ai.plain _ _ _ _ ak U⟩)⟩
    ·exact ⟨_, h.wF aG R U aa au (fun u b _ J => aK u b J) a1⟩
def bM (s : ad) : j → Option (j × ad)
 | .h x q => match j.sub q (s x) with
   | some d => if d.plain then none else some (d, ca (fw x s) x (j.put q d.bV (s x)))
   | none => none
 | .ak _ _ => none
 | .J _ _ => none
 | .fn _ _ => none
 | .hole => none
 | d => some (d, s)
def j.owner : j → Option Nat
 | .h x _ => some x
 | _ => none
def gN : Option Nat → j → j
 | some x, d => bk x d
 | none, d => d
theorem kB (h : ba w0 F0 X F S s al w) {av d : j} {s1 : ad} {v : Value} (j3 : av.plain = true) (aC : ar w F s al av v (fun _ => False)) (aG : bM s av = some (d, s1)) :
  ∃ bf, ba w0 F0 X F bf s1 al w ∧ d.tree = true ∧ cA d v ∧ ∃ Sn, ai w F d (br v) Sn ∧ (∀ b, Sn b → b < w.heap.size) ∧ (∀ b, Sn b → ¬ F b) ∧ (∀ u b, Sn b → ¬ bf u b) ∧ (∀ b, Sn b → X b ∨ w0.heap.size ≤ b) ∧
    (∀ u b, bf u b → S u b) ∧ (∀ b, Sn b → ∃ u, S u b) ∧ (∀ (aS : j) (cc : Value) (az : Nat → Prop), ar w F s al aS cc az → ar w F s1 al (gN av.owner aS) cc az) := by
 have tree : ∀ d : j, d.tree = true → d.plain = true → ar w F s al d v (fun _ => False) →
   ∃ bf, ba w0 F0 X F bf s al w ∧ d.tree = true ∧ cA d v ∧ ∃ Sn, ai w F d (br v) Sn ∧ (∀ b, Sn b → b < w.heap.size) ∧ (∀ b, Sn b → ¬ F b) ∧ (∀ u b, Sn b → ¬ bf u b) ∧ (∀ b, Sn b → X b ∨ w0.heap.size ≤ b) ∧
     (∀ u b, bf u b → S u b) ∧ (∀ b, Sn b → ∃ u, S u b) := by
  intro d ab _ aX
  have aX := (ar.bE ab).1 aX
  exact ⟨S, h, ab, aX.1, _, aX.2, fun _ h => h.elim, fun _ h => h.elim, fun _ _ h => h.elim, fun _ h => h.elim, fun _ _ h => h, fun _ h => h.elim⟩
 cases av with
 | h x q =>
   simp only [bM] at aG
   split at aG
   ·rename_i e he
    split at aG
    ·cases aG
    ·rename_i ak
     simp only [Option.some.injEq, Prod.mk.injEq] at aG
     obtain ⟨rfl, rfl⟩ := aG
     have ak : e.plain = false := by simpa using ak
     obtain ⟨Sn, ei, bQ, bK, et, ck, hI, gk, gO, i4, jv⟩ := h.take he ak
     rw [ar] at aC
     obtain ⟨N6, a2, g1, g2, g3⟩ := aC e he ak
     rw [ck] at g1
     simp only [Option.some.injEq, Prod.mk.injEq, true_and] at g1
     obtain ⟨rfl, rfl⟩ := g1
     have tD : e.tree = true := by cases e <;> first | rfl | (simp [j.plain] at ak)
     refine ⟨_, et, tD, g3, ei, by rw [g2]; exact hI, fun b J => h.cZ x b (gk b J), fun b J => h.dz x b (gk b J), ?_, fun b J => h.cq x b (gk b J), ?_, fun b J => ⟨x, gk b J⟩, jv⟩
     ·intro u b J hu
      simp only [eu] at hu
      split at hu
      ·exact i4 b J hu
      ·rename_i rE; exact h.dt u x b rE hu (gk b J)
     ·intro u b hu
      simp only [eu] at hu
      split at hu
      ·rename_i e; subst e; exact gO b hu
      ·exact hu
   ·cases aG
 | ak x q => simp [bM] at aG
 | J x q => simp [bM] at aG
 | fn f c => simp [bM] at aG
 | hole => simp [bM] at aG
 | aJ sz xs => simp [j.plain] at j3
 | bb d => simp [j.plain] at j3
 | _ =>
   simp only [bM, Option.some.injEq, Prod.mk.injEq] at aG
   obtain ⟨rfl, rfl⟩ := aG
   obtain ⟨bf, t1, t2, t3, Sn, t4, t5, t6, t7, t8, t9, t10⟩ := tree _ rfl j3 aC
   exact ⟨bf, t1, t2, t3, Sn, t4, t5, t6, t7, t8, t9, t10, fun _ _ _ h => h⟩
def loc (s : ad) : j → Option (Nat × List Nat)
 | .h x q => match j.sub q (s x) with
   | some (.bb _) => some (x, q ++ [0])
   | _ => none
 | .ak x q => if j.db q (s x) then some (x, q) else none
 | _ => none
theorem pN : ∀ (q : List Nat) (av d : j) (r : List Nat), j.sub q av = some d → j.sub (q ++ r) av = j.sub r d := by
 intro q
 induction q with
 | nil => intro av d r h; simp [j.sub] at h; subst h; rfl
 | cons k q ih =>
   intro av d r h
   cases av with
   | agg af =>
     simp only [j.sub, List.cons_append] at h ⊢
     split at h
     ·rename_i x an; exact ih _ _ _ h
     ·cases h
   | tuple af =>
     simp only [j.sub, List.cons_append] at h ⊢
     split at h
     ·rename_i x an; exact ih _ _ _ h
     ·cases h
   | aJ sz af =>
     simp only [j.sub, List.cons_append] at h ⊢
     split at h
     ·rename_i x an; exact ih _ _ _ h
     ·cases h
   | bb x =>
     cases k with
     | zero => simp only [j.sub, List.cons_append] at h ⊢; exact ih _ _ _ h
     | succ k => simp [j.sub] at h
   | _ => simp [j.sub] at h
theorem BX : ∀ (q : List Nat) (av d : j) (r : List Nat), j.sub q av = some d → j.db (q ++ r) av = (j.db q av || j.db r d) := by
 intro q
 induction q with
 | nil => intro av d r h; simp [j.sub] at h; subst h; simp [j.db]
 | cons k q ih =>
   intro av d r h
   cases av with
   | agg af =>
     simp only [j.sub] at h
     split at h
     ·rename_i x an
      simp only [j.db, List.cons_append, an]
      exact ih _ _ r h
     ·cases h
   | tuple af =>
     simp only [j.sub] at h
     split at h
     ·rename_i x an
      simp only [j.db, List.cons_append, an]
      exact ih _ _ r h
     ·cases h
   | aJ sz af => simp [j.db]
   | bb x => simp [j.db]
   | _ => simp [j.sub] at h
theorem pO (w : World) : ∀ (q : List Nat) (av d : j) (cs bQ : List Value) (a bK : Option (Nat × Nat)) (r : List Nat), b2 w q av cs a = some (d, bQ, bK) → b2 w (q ++ r) av cs a = b2 w r d bQ bK := by
 intro q
 induction q with
 | nil => intro av d cs bQ a bK r h; simp [b2] at h; obtain ⟨rfl, rfl, rfl⟩ := h; rfl
 | cons k q ih =>
   intro av d cs bQ a bK r h
   cases av with
   | agg af =>
     rw [List.cons_append]
     rw [b2] at h ⊢
     split at h
     ·rename_i x an; exact ih _ _ _ _ _ _ _ h
     ·cases h
   | tuple af =>
     rw [List.cons_append]
     rw [b2] at h ⊢
     split at h
     ·rename_i x an; exact ih _ _ _ _ _ _ _ h
     ·cases h
   | aJ sz af =>
     rw [List.cons_append]
     rw [b2.eq_def] at h ⊢
     simp only at h ⊢
     split at h
     ·exact ih _ _ _ _ _ _ _ h
     ·cases h
   | bb x =>
     cases k with
     | zero =>
       rw [List.cons_append]
       rw [b2.eq_def] at h ⊢
       simp only at h ⊢
       split at h
       ·exact ih _ _ _ _ _ _ _ h
       ·cases h
     | succ k => rw [show b2 w ((k + 1) :: q) (.bb x) cs a = none from rfl] at h; cases h
   | _ => simp [b2] at h
end
def dT.ok (x : dT) : Bool := match x.k with
 | .other => false
 | _ => true
theorem bp.c3.info {C : bp} (aM : C.c3) {t : TypeId} (h : (C.T t).ok = true) :
  ∃ i d z, C.P.info? t = some i ∧ i.size = (C.T t).sz ∧ i.bytes = (C.T t).bytes ∧ i.zero = some z ∧ (∀ cs, flat (C.T t).zero = some cs → z.cells = cs.toArray) ∧ C.P.underlying t = some d ∧ hH (C.T t).k d := by
 rcases aM.ty t with ⟨e, n, b, z, an, _⟩ | aX
 ·rw [an] at h; simp [dT.ok] at h
 ·exact aX
theorem dG {x : dT} {k : ju} (h : x.k = k) (ah : k ≠ .other) : x.ok = true := by
 unfold dT.ok; rw [h]; cases k <;> first | rfl | exact (ah rfl).elim
theorem pP {d : TypeDesc} {af : List (TypeId × Nat)} (h : hH (.struct af) d) : ∃ gs, d = .struct gs ∧ gs.toList.map (fun g => (g.type, g.offset)) = af := by
 cases d <;> simp [hH] at h
 exact ⟨_, rfl, h⟩
theorem hi {d : TypeDesc} {e : TypeId} (h : hH (.slice e) d) : d = .slice e := by
 cases d <;> simp [hH] at h
 rw [h]
theorem pQ {d : TypeDesc} {k : IntKind} (h : hH (.int k) d) : d = .int k := by
 cases d <;> simp [hH] at h
 rw [h]
theorem k7 {d : TypeDesc} (h : hH .str d) : d = .string := by
 cases d <;> simp [hH] at h
 rfl
theorem tE {d : TypeDesc} (h : hH .bool d) : d = .bool := by
 cases d <;> simp [hH] at h
 rfl
theorem wP {d : TypeDesc} {e : TypeId} (h : hH (.ptr e) d) : d = .pointer e := by
 cases d <;> simp [hH] at h
 rw [h]
theorem eb {v : Value} (h : Value.dW v = true) : br v = [v] := by
 cases v <;> first | rfl | (simp [Value.dW] at h)
theorem mY {P : Program} {t : TypeId} {i : TypeInfo} (h : P.info? t = some i) (w : World) : (typeInfo t).run P w = .ok i w := by simp [typeInfo, h]
theorem gy {P : Program} {t : TypeId} {i : TypeInfo} (h : P.info? t = some i) (w : World) : (Go.sizeOf t).run P w = .ok i.size w := by simp [Go.sizeOf, mY h]
theorem n6 {P : Program} {t : TypeId} {i : TypeInfo} {z : Value} (h : P.info? t = some i) (bd : i.zero = some z) (w : World) : (zeroValue t).run P w = .ok z w := by simp [zeroValue, mY h, bd]
section
variable {C : bp} {w0 w : World} {F0 X F : Nat → Prop} {S : Nat → Nat → Prop} {s s1 : ad} {al : Nat → Value} {av : j}
def Good (C : bp) (w0 : World) (F0 X : Nat → Prop) (al : Nat → Value) (w : World) (m : Sem Value) (av : j) (s1 : ad) : Prop :=
 ∃ v ao aY az, m.run C.P w = .ok v ao ∧ ba w0 F0 X aY az s1 al ao ∧ hh w0 X aY az s1 al ao av v
theorem Good.same (h : ba w0 F0 X F S s al w) {m : Sem Value} {v : Value} (aD : m.run C.P w = .ok v w) (ak : av.plain = true) (aC : ar w F s al av v (fun _ => False)) : Good C w0 F0 X al w m av s :=
 ⟨v, w, F, S, aD, h, .inl ⟨ak, aC⟩⟩
theorem tF (_h : ba w0 F0 X F S s al w) {x : j} {v : Value} (aC : ar w F s al x v (fun _ => False)) {y : Nat} {q : List Nat} (hl : loc s x = some (y, q)) {d : j} (ab : j.sub q (s y) = some d) :
  j.db q (s y) = true ∧ ∃ bQ b o, v = .pointer (some ⟨b, o, none⟩) ∧ b2 w q (s y) (br (al y)) none = some (d, bQ, some (b, o)) := by
 cases x with
 | h z rF =>
   simp only [loc] at hl
   split at hl
   ·rename_i e he
    simp only [Option.some.injEq, Prod.mk.injEq] at hl
    obtain ⟨rfl, rfl⟩ := hl
    rw [ar] at aC
    obtain ⟨bQ, a, g1, g2, g3⟩ := aC _ he rfl
    have ep : e = d := by
     rw [pN _ _ _ _ he] at ab
     simpa [j.sub] using ab
    subst ep
    refine ⟨by rw [BX _ _ _ _ he]; simp [j.db], ?_⟩
    have U : Value.dW v = true := g3
    rw [eb U] at g2
    subst g2
    have hg := pO w rF (s z) _ _ _ none a [0] g1
    have an := _h.cl z
    rw [ar.bE (fh he (.inl rfl))] at an
    obtain ⟨dx, bK, cS, ei, k0, bn, bs, cT, cm, c8⟩ := ctx rF (s z) (br (al z)) (S z) none _ an.2 he
    rw [k0] at g1
    simp only [Option.some.injEq, Prod.mk.injEq, true_and] at g1
    obtain ⟨rfl, rfl⟩ := g1
    rw [ai] at cm
    obtain ⟨b, cur, aI, fr, cj, bg, _⟩ := cm
    simp only [List.cons.injEq, and_true] at bg
    subst bg
    exact ⟨_, b, 0, rfl, by rw [hg]; rfl⟩
   ·cases hl
 | ak z rF =>
   simp only [loc] at hl
   split at hl
   ·rename_i ag
    simp only [Option.some.injEq, Prod.mk.injEq] at hl
    obtain ⟨rfl, rfl⟩ := hl
    rw [ar] at aC
    obtain ⟨bQ, b, o, g1, g2⟩ := aC _ ab ag
    exact ⟨ag, bQ, b, o, g2, g1⟩
   ·cases hl
 | _ => simp [loc] at hl
def dn (C : bp) (s : ad) (T : TypeId) (x : j) (k : Nat) : Option j :=
 match (C.T T).k with
 | .struct af => match af[k]? with
   | some (fX, off) => if (C.T fX).ok = true ∧ (C.T fX).sz ≠ 0 then
     match x with
     | .ref (.agg ds) => match ds[k]? with
       | some d => if j.cz (ds.take k) = off then some (.ref d) else none
       | none => none
     | .J y o => if (s y).plain then none else some (.J y (o + off))
     | x => match loc s x with
       | some (y, q) => match j.sub q (s y) with
         | some (.agg ds) => if k < ds.length ∧ j.cz (ds.take k) = off then some (.ak y (q ++ [k])) else none
         | _ => none
       | none => none
     else none
   | none => none
 | _ => none
theorem e0.tG {w : World} {b o : Nat} {bA dq bG : List Value} (h : e0 w b o (bA ++ (dq ++ bG))) : e0 w b (o + bA.length) dq := by
 intro ay c bP
 have cK : ay < dq.length := (List.getElem?_eq_some_iff.1 bP).1
 have := h (bA.length + ay) c (by rw [List.getElem?_append_right (by omega), List.getElem?_append_left (by omega), ← bP]; congr 1; omega)
 rw [Nat.add_assoc]; exact this
theorem tH (aM : C.c3) {T fX : TypeId} {af : List (TypeId × Nat)} {k off : Nat} (ah : (C.T T).k = .struct af) (bo : af[k]? = some (fX, off)) (U : (C.T fX).ok = true) (aa : (C.T fX).sz ≠ 0) (b o : Nat) (w : World) :
  (Instr.fieldAt T (.pointer (some ⟨b, o, none⟩)) k).run C.P w = .ok (.pointer (some ⟨b, o + off, none⟩)) w := by
 obtain ⟨i, d, z, aE, aI, bg, bX, b0, bh, bc⟩ := aM.info (dG ah (by simp))
 rw [ah] at bc
 obtain ⟨gs, rfl, iF⟩ := pP bc
 obtain ⟨n7, aS, lV, f1, f2, f3, f4, f5, f6, f7⟩ := aM.info U
 have aT : ∃ g, gs[k]? = some g ∧ g.type = fX ∧ g.offset = off := by
  rw [← iF, List.getElem?_map] at bo
  simp only [Option.map_eq_some_iff, Prod.mk.injEq] at bo
  obtain ⟨g, U, aa, au⟩ := bo
  exact ⟨g, by simpa using U, aa, au⟩
 obtain ⟨g, g1, rfl, rfl⟩ := aT
 simp [Instr.fieldAt, run_underlying bh, g1, Instr.sureAddr, fieldPlace, gy f1, f2, aa, Addr.add_lit]
theorem BZ (aM : C.c3) (h : ba w0 F0 X F S s al w) {T : TypeId} {x : j} {v : Value} {k : Nat} (an : x.plain = true) (aC : ar w F s al x v (fun _ => False)) (he : dn C s T x k = some av) :
  Good C w0 F0 X al w (Instr.fieldAt T v k) av s := by
 unfold dn at he
 split at he
 ·rename_i af ah
  split at he
  ·rename_i fX off bo
   split at he
   ·rename_i n8
    split at he
    ·rename_i ds
     split at he
     ·rename_i d ab
      split at he
      ·rename_i kC
       simp only [Option.some.injEq] at he; subst he
       have h3 := (ar.bE rfl).1 aC
       rw [ai] at h3
       obtain ⟨R, b, o, c2, U, aa, au, aK⟩ := h3
       rw [eb R] at U
       simp only [List.cons.injEq, and_true] at U; subst U
       rw [ai] at aK
       obtain ⟨bA, dq, bG, bf, eV, rfl, eM, dF, er, e_, dy, h1⟩ := aH.pick ds _ _ k d aK ab
       refine Good.same h (tH aM ah bo n8.1 n8.2 b o w) rfl ((ar.bE rfl).2 ⟨rfl, ?_⟩)
       rw [ai]
       refine ⟨b, o + off, dq, rfl, aa, ?_, ai.mono (fun _ h => h) _ _ _ _ (fun b J => er b J) dy⟩
       rw [← kC, ← eM]; exact au.tG
      ·cases he
     ·cases he
    ·rename_i y o
     split at he
     ·cases he
     ·rename_i ak
      simp only [Option.some.injEq] at he; subst he
      rw [ar] at aC
      obtain ⟨b, cur, e, fr, rfl, aa, au, aK⟩ := aC (by simpa using ak)
      refine Good.same h (tH aM ah bo n8.1 n8.2 b o w) rfl ?_
      rw [ar]
      exact fun _ => ⟨b, cur, e, fr, rfl, aa, au, aK⟩
    ·rename_i x _ _
     split at he
     ·rename_i y q hl
      split at he
      ·rename_i ds ab
       split at he
       ·rename_i kC
        simp only [Option.some.injEq] at he; subst he
        obtain ⟨ag, bQ, b, o, rfl, hg⟩ := tF h aC hl ab
        refine Good.same h (tH aM ah bo n8.1 n8.2 b o w) rfl ?_
        rw [ar]
        intro d2 fm mZ
        rw [pO w q _ _ _ _ _ _ [k] hg]
        rw [pN _ _ _ _ ab] at fm
        have lW : ∃ d3, ds[k]? = some d3 := ⟨_, List.getElem?_eq_getElem kC.1⟩
        obtain ⟨d3, pR⟩ := lW
        simp only [j.sub, pR, Option.some.injEq] at fm
        subst fm
        simp only [b2, pR]
        refine ⟨(bQ.drop off).take d3.wd, b, o + off, ?_, rfl⟩
        rw [kC.2]; rfl
       ·cases he
      ·cases he
     ·cases he
   ·cases he
  ·cases he
 ·cases he
def dA (C : bp) (s : ad) (T : TypeId) (x i : j) : Option j :=
 match (C.T T).k, i with
 | .slice e, .int _ n => if 0 ≤ n ∧ (C.T e).ok = true then
   match x with
   | .slice xs => match xs[n.toNat]? with
     | some d => if d.wd = (C.T e).sz then some (.ref d) else none
     | none => none
   | .h y q => match j.sub q (s y) with
     | some (.aJ sz xs) => if n.toNat < xs.length ∧ sz = (C.T e).sz then some (.ak y (q ++ [n.toNat])) else none
     | _ => none
   | _ => none
   else none
 | _, _ => none
theorem wQ (aM : C.c3) {T e : TypeId} (ah : (C.T T).k = .slice e) (he : (C.T e).ok = true) (b o len cap : Nat) (k : IntKind) (n : Nat) (aO : n < len) (w : World) :
  (Instr.indexAt T (.slice (some ⟨b, o, none⟩) len cap) (.int k n)).run C.P w = .ok (.pointer (some ⟨b, o + n * (C.T e).sz, none⟩)) w := by
 obtain ⟨i, d, z, aE, aI, bg, bX, b0, bh, bc⟩ := aM.info (dG ah (by simp))
 rw [ah] at bc
 have := hi bc; subst this
 obtain ⟨n7, aS, lV, f1, f2, f3, f4, f5, f6, f7⟩ := aM.info he
 simp [Instr.indexAt, run_underlying bh, asIntOf, aO, gy f1, f2, Addr.add_lit]
theorem B0 (aM : C.c3) (h : ba w0 F0 X F S s al w) {T : TypeId} {x i : j} {v n9 : Value} (aC : ar w F s al x v (fun _ => False)) (B1 : ar w F s al i n9 (fun _ => False))
  (he : dA C s T x i = some av) : Good C w0 F0 X al w (Instr.indexAt T v n9) av s := by
 unfold dA at he
 split at he
 ·rename_i e k n ah
  have tI := (ar.bE rfl).1 B1
  rw [ai, eb tI.1] at tI
  have : n9 = .int k n := by simpa using tI.2
  subst this
  split at he
  ·rename_i aO
   obtain ⟨n, rfl⟩ := Int.eq_ofNat_of_zero_le aO.1
   simp only [Int.toNat_natCast] at he
   split at he
   ·rename_i xs
    split at he
    ·rename_i d ab
     split at he
     ·rename_i hw
      simp only [Option.some.injEq] at he; subst he
      have h3 := (ar.bE rfl).1 aC
      rw [ai, eb h3.1] at h3
      obtain ⟨R, ⟨rfl, _⟩ | ⟨b, o, cap, c2, sz, U, aa, au, aK, a1, bN, bS⟩⟩ := h3
      ·simp at ab
      ·simp only [List.cons.injEq, and_true] at U; subst U
       have cK : n < xs.length := (List.getElem?_eq_some_iff.1 ab).1
       obtain ⟨bA, dq, bG, bf, eV, rfl, eM, dF, er, e_, dy, h1⟩ := aH.pick xs _ _ n d bS ab
       refine Good.same h (wQ aM ah aO.2 b o _ _ k n cK w) rfl ((ar.bE rfl).2 ⟨rfl, ?_⟩)
       rw [ai]
       refine ⟨b, _, dq, rfl, aa, ?_, ai.mono (fun _ h => h) _ _ _ _ (fun b J => er b J) dy⟩
       have B2 := a1 d (List.mem_of_getElem? ab)
       have : n * (C.T e).sz = bA.length := by
        rw [eM, mT _ (fun d ab => a1 d (List.mem_of_mem_take ab)), List.length_take, Nat.min_eq_left (by omega), ← hw, B2]
       rw [this]; exact bN.tG
     ·cases he
    ·cases he
   ·rename_i y q
    split at he
    ·rename_i sz xs ab
     split at he
     ·rename_i hw
      simp only [Option.some.injEq] at he; subst he
      rw [ar] at aC
      obtain ⟨bQ, a, g1, g2, g3⟩ := aC _ ab rfl
      have R : Value.dW v = true := g3
      rw [eb R] at g2; subst g2
      have an := h.cl y
      rw [ar.bE (fh ab (.inl rfl))] at an
      obtain ⟨dx, bK, cS, ei, k0, bn, bs, cT, cm, c8⟩ := ctx q (s y) (br (al y)) (S y) none _ an.2 ab
      rw [k0] at g1
      simp only [Option.some.injEq, Prod.mk.injEq, true_and] at g1
      obtain ⟨rfl, rfl⟩ := g1
      rw [ai] at cm
      rcases cm with ⟨rfl, _⟩ | ⟨b, cap, cur, aI, fr, cj, bg, _⟩
      ·simp at hw
      ·simp only [List.cons.injEq, and_true] at bg; subst bg
       refine Good.same h (wQ aM ah aO.2 b 0 _ _ k n hw.1 w) rfl ?_
       rw [ar]
       intro d2 fm _
       rw [pO w q _ _ _ _ _ _ [n] k0]
       rw [pN _ _ _ _ ab] at fm
       obtain ⟨d3, pR⟩ : ∃ d3, xs[n]? = some d3 := ⟨_, List.getElem?_eq_getElem hw.1⟩
       simp only [j.sub, pR, Option.some.injEq] at fm
       subst fm
       simp only [b2, pR]
       exact ⟨_, b, n * sz, rfl, by simp [hw.2]⟩
     ·cases he
    ·cases he
   ·cases he
  ·cases he
 ·cases he
end
section
variable {C : bp} {w0 w : World} {F0 X F : Nat → Prop} {S : Nat → Nat → Prop} {s s1 : ad} {al : Nat → Value} {av : j}
theorem wR (aM : C.c3) {T : TypeId} {af : List (TypeId × Nat)} (ah : (C.T T).k = .struct af) (w : World) : (isAgg T).run C.P w = .ok true w := by
 obtain ⟨i, d, z, aE, aI, bg, bX, b0, bh, bc⟩ := aM.info (dG ah (by simp))
 rw [ah] at bc
 obtain ⟨gs, rfl, _⟩ := pP bc
 simp [isAgg, run_underlying bh]
def dT.flat (x : dT) : Bool := match x.k with
 | .other => false
 | .cI _ => false
 | .struct _ => false
 | _ => true
theorem wS {x : dT} (h : x.flat = true) : x.ok = true := by
 unfold dT.flat at h; unfold dT.ok; revert h; cases x.k <;> simp
theorem tJ (aM : C.c3) {T : TypeId} (ah : (C.T T).flat = true) (w : World) : (isAgg T).run C.P w = .ok false w := by
 obtain ⟨i, d, z, aE, aI, bg, bX, b0, bh, bc⟩ := aM.info (wS ah)
 have cu : (∀ af, d ≠ .struct af) ∧ (∀ n e, d ≠ .array n e) := by
  clear bh
  unfold dT.flat at ah
  generalize (C.T T).k = h4 at *
  cases h4 <;> cases d <;> simp [hH] at bc ah ⊢
 cases d <;> first | exact (cu.1 _ rfl).elim | exact (cu.2 _ _ rfl).elim | simp [isAgg, run_underlying bh]
theorem e0.one {w : World} {b o : Nat} {v : Value} (h : e0 w b o [v]) : w.cell? ⟨b, o, none⟩ = some v := by simpa using h 0 v rfl
theorem wT {P : Program} {b o : Nat} : ∀ (cs : List Value) (i : Nat) (acc : Array Value), e0 w b (o + i) cs → (loadCellsFrom ⟨b, o, none⟩ i cs.length acc).run P w = .ok (acc ++ cs.toArray) w
 | [], i, acc, _ => by simp [loadCellsFrom]
 | c :: cs, i, acc, h => by
   have bz : w.cell? ⟨b, o + i, none⟩ = some c := by simpa using h 0 c rfl
   have U : e0 w b (o + (i + 1)) cs := by
    intro ay x bP
    have := h (ay + 1) x (by simpa using bP)
    rw [← this]; congr 2; omega
   have ih := wT (P := P) cs (i + 1) (acc.push c) U
   simp only [List.length_cons, loadCellsFrom, Sem.run_bind, Go.load, Sem.run, Addr.add_lit, bz, Result.andThen]
   rw [ih]; simp
theorem B3 (aM : C.c3) {T : TypeId} {af : List (TypeId × Nat)} (ah : (C.T T).k = .struct af) {b o : Nat} {cs : List Value} (h : e0 w b o cs) (hl : cs.length = (C.T T).sz) :
  (loadVar T ⟨b, o, none⟩).run C.P w = .ok (.agg cs.toArray) w := by
 obtain ⟨i, d, z, aE, aI, bg, bX, b0, bh, bc⟩ := aM.info (dG ah (by simp))
 have := wT (P := C.P) (b := b) (o := o) cs 0 #[] (by simpa using h)
 simp only [loadVar, Sem.run_bind, wR aM ah, Result.andThen, if_true, gy aE, aI, ← hl, loadCells, this]
 simp
theorem wU (aM : C.c3) {T : TypeId} (ah : (C.T T).flat = true) {b o : Nat} {v : Value} (h : e0 w b o [v]) :
  (loadVar T ⟨b, o, none⟩).run C.P w = .ok v w := by
 simp [loadVar, tJ aM ah, Go.load, Sem.run, h.one]
def fits (C : bp) (T : TypeId) (d : j) : Bool := match (C.T T).k, d with
    | .struct _, .agg ds => j.cz ds == (C.T T).sz
    | .struct _, _ => false
    | _, .agg _ => false
    | _, .tuple _ => false
    | _, _ => (C.T T).flat
def wV : List j → Nat → Nat → Option Nat
 | [], _, _ => none
 | d :: ds, i, k => if k = 0 then some i else if d.wd ≤ k then wV ds (i + 1) (k - d.wd) else none
def cL (C : bp) (s : ad) (T : TypeId) (x : j) : Option j :=
 match x with
 | .ref d => if fits C T d = true then some d else none
 | .J y k => match s y with
   | .agg ds => if j.dr ds then none else match wV ds 0 k with
     | some i => match ds[i]? with
       | some d => if j.cz (ds.take i) = k ∧ fits C T d = true then some (if d.plain then d else .h y [i]) else none
       | none => none
     | none => none
   | _ => none
 | x => match loc s x with
   | some (y, q) => match j.sub q (s y) with
     | some d => if fits C T d = true then some (if d.plain then d else .h y q) else none
     | none => none
   | none => none
theorem ai.one {F : Nat → Prop} {d : j} {cs : List Value} {S : Nat → Prop} (h : ai w F d cs S) (U : ∀ af, d ≠ .agg af) (aa : ∀ af, d ≠ .tuple af) : ∃ v, cs = [v] ∧ Value.dW v = true := by
 cases d with
 | hole => rw [ai] at h; obtain ⟨v, h, rfl⟩ := h; exact ⟨v, rfl, h⟩
 | c1 => rw [ai] at h; obtain ⟨v, rfl⟩ := h; exact ⟨_, rfl, rfl⟩
 | slice xs => rw [ai] at h; rcases h with ⟨_, a, c, rfl, _⟩ | ⟨b, o, cap, c2, sz, rfl, _⟩ <;> exact ⟨_, rfl, rfl⟩
 | aJ sz xs => rw [ai] at h; rcases h with ⟨_, _, rfl⟩ | ⟨b, cap, cur, e, fr, cq, rfl, _⟩ <;> exact ⟨_, rfl, rfl⟩
 | ref d => rw [ai] at h; obtain ⟨b, o, c2, rfl, _⟩ := h; exact ⟨_, rfl, rfl⟩
 | bb d => rw [ai] at h; obtain ⟨b, cur, e, fr, cq, rfl, _⟩ := h; exact ⟨_, rfl, rfl⟩
 | agg af => exact (U _ rfl).elim
 | tuple af => exact (aa _ rfl).elim
 | fn _ _ => rw [ai] at h; obtain ⟨arr, rfl, _⟩ := h; exact ⟨_, rfl, rfl⟩
 | h _ _ => rw [ai] at h; exact h.elim
 | ak _ _ => rw [ai] at h; exact h.elim
 | J _ _ => rw [ai] at h; exact h.elim
 | ch _ => rw [ai] at h; obtain ⟨v, e1, rfl⟩ := hC.one h; exact ⟨v, rfl, e1⟩
 | _ => rw [ai] at h; subst h; exact ⟨_, rfl, rfl⟩
theorem j.rG {d : j} (h : d.single = true) : (∀ af, d ≠ .agg af) ∧ ∀ af, d ≠ .tuple af :=
 ⟨fun af e => (by subst e; cases h), fun af e => (by subst e; cases h)⟩
theorem ar.j4 {F : Nat → Prop} {s : ad} {al : Nat → Value} {d : j} {v : Value} (aG : d.tree = true) (R : d.single = true) (h : ai w F d [v] (fun _ => False)) : ar w F s al d v (fun _ => False) := by
 obtain ⟨cc, e, U⟩ := ai.one h (j.rG R).1 (j.rG R).2
 have : v = cc := by simpa using e
 subst this
 refine (ar.bE aG).2 ⟨?_, by rw [eb U]; exact h⟩
 cases d <;> first | exact U | cases R
mutual
theorem ar.kD {F : Nat → Prop} {s : ad} {al : Nat → Value} : ∀ (d : j) (v : Value), d.single = true → ai w F d [v] (fun _ => False) → ar w F s al d v (fun _ => False)
 | .fn f caps, v, _, h => by
   rw [ai] at h
   obtain ⟨arr, U, aa, au⟩ := h
   rw [ar]
   exact ⟨arr, by simpa using U, cx.kD caps _ aa au⟩
 | .bool b, v, R, h => ar.j4 rfl R h
 | .c1, v, R, h => ar.j4 rfl R h
 | .int k n, v, R, h => ar.j4 rfl R h
 | .str x, v, R, h => ar.j4 rfl R h
 | .b_, v, R, h => ar.j4 rfl R h
 | .bu, v, R, h => ar.j4 rfl R h
 | .slice xs, v, R, h => ar.j4 rfl R h
 | .aJ sz xs, v, R, h => ar.j4 rfl R h
 | .ref d, v, R, h => ar.j4 rfl R h
 | .bb d, v, R, h => ar.j4 rfl R h
 | .h _ _, v, _, h => by rw [ai] at h; exact h.elim
 | .ak _ _, v, _, h => by rw [ai] at h; exact h.elim
 | .J _ _, v, _, h => by rw [ai] at h; exact h.elim
 | .ch _, v, R, h => ar.j4 rfl R h
theorem cx.kD {F : Nat → Prop} {s : ad} {al : Nat → Value} : ∀ (ds : List j) (vs : List Value), (∀ d ∈ ds, d.single = true) → aH w F ds vs (fun _ => False) → cx w F s al ds vs
 | [], vs, _, h => by rw [aH] at h; rw [cx]; exact h
 | d :: ds, vs, R, h => by
   rw [aH] at h
   obtain ⟨bA, bG, bf, cj, rfl, aa, au, aK, a1, _⟩ := h
   have ab := R d (by simp)
   obtain ⟨v, rfl, _⟩ := ai.one aa (j.rG ab).1 (j.rG ab).2
   rw [cx]
   exact ⟨v, bG, rfl, ar.kD d v ab (ai.mono (fun _ h => h) _ _ _ _ (fun b J => aK b J) aa), cx.kD ds bG (fun x an => R x (by simp [an])) (aH.mono (fun _ h => h) _ _ _ _ (fun b J => a1 b J) au)⟩
end
theorem rH (aM : C.c3) {T : TypeId} {d : j} {b o : Nat} {cs : List Value} {S : Nat → Prop} (h : e0 w b o cs) (ab : ai w F d cs S)
  (e2 : fits C T d = true) :
  ∃ v, (loadVar T ⟨b, o, none⟩).run C.P w = .ok v w ∧ br v = cs ∧ cA d v := by
 unfold fits at e2
 by_cases R : ∃ af, (C.T T).k = .struct af
 ·obtain ⟨af, ah⟩ := R
  rw [ah] at e2
  cases d with
  | agg ds =>
    simp only [beq_iff_eq] at e2
    refine ⟨_, B3 aM ah h ((ai.length _ _ _ ab).trans e2), rfl, ⟨_, rfl⟩⟩
  | _ => simp at e2
 ·have fI : (C.T T).flat = true ∧ (∀ af, d ≠ .agg af) ∧ (∀ af, d ≠ .tuple af) := by
   revert e2 R
   cases ah : (C.T T).k <;> cases d <;> simp
  obtain ⟨v, rfl, U⟩ := ai.one ab fI.2.1 fI.2.2
  refine ⟨v, wU aM fI.1 h, eb U, ?_⟩
  cases d <;> first | exact U | exact (fI.2.1 _ rfl).elim | exact (fI.2.2 _ rfl).elim
theorem B4 (aM : C.c3) {T : TypeId} {d : j} {off : Nat} {arr : Array Value} {bA cs bG : List Value} {S : Nat → Prop} (he : arr.toList = bA ++ (cs ++ bG)) (bq : bA.length = off) (ab : ai w F d cs S)
  (e2 : fits C T d = true) :
  ∃ v, (part T arr off).run C.P w = .ok v w ∧ br v = cs ∧ cA d v := by
 unfold fits at e2
 by_cases R : ∃ af, (C.T T).k = .struct af
 ·obtain ⟨af, ah⟩ := R
  rw [ah] at e2
  cases d with
  | agg ds =>
    simp only [beq_iff_eq] at e2
    obtain ⟨i, d, z, aE, aI, bg, bX, b0, bh, bc⟩ := aM.info (dG ah (by simp))
    have hl : cs.length = (C.T T).sz := (ai.length _ _ _ ab).trans e2
    have an : (arr.extract off (off + (C.T T).sz)).toList = cs := by
     rw [Array.toList_extract, he, List.extract_eq_take_drop, ← hl, ← bq, Nat.add_sub_cancel_left, List.drop_left, List.take_left]
    refine ⟨.agg (arr.extract off (off + (C.T T).sz)), ?_, by simpa [br, fg] using an, ⟨_, rfl⟩⟩
    simp [part, wR aM ah, gy aE, aI]
  | _ => simp at e2
 ·have fI : (C.T T).flat = true ∧ (∀ af, d ≠ .agg af) ∧ (∀ af, d ≠ .tuple af) := by
   revert e2 R
   cases ah : (C.T T).k <;> cases d <;> simp
  obtain ⟨v, rfl, U⟩ := ai.one ab fI.2.1 fI.2.2
  have aT : arr[off]? = some v := by
   rw [← Array.getElem?_toList, he, ← bq, List.getElem?_append_right (Nat.le_refl _)]; simp
  refine ⟨v, ?_, eb U, ?_⟩
  ·simp [part, tJ aM fI.1, aT]
  ·cases d <;> first | exact U | exact (fI.2.1 _ rfl).elim | exact (fI.2.2 _ rfl).elim
theorem B5 (aM : C.c3) (h : ba w0 F0 X F S s al w) {T : TypeId} {x : j} {v : Value} (aC : ar w F s al x v (fun _ => False)) (he : cL C s T x = some av) :
  Good C w0 F0 X al w (Instr.loadAt T v) av s := by
 unfold cL at he
 split at he
 ·rename_i d
  split at he
  ·rename_i e2
   simp only [Option.some.injEq] at he; subst he
   have h3 := (ar.bE rfl).1 aC
   rw [ai, eb h3.1] at h3
   obtain ⟨R, b, o, c2, U, aa, au, aK⟩ := h3
   simp only [List.cons.injEq, and_true] at U; subst U
   obtain ⟨cc, aD, ag, jw⟩ := rH aM au aK e2
   have cO : (Instr.loadAt T (.pointer (some ⟨b, o, none⟩))).run C.P w = .ok cc w := by simp [Instr.loadAt, Instr.sureAddr, aD]
   refine ⟨cc, w, F, S, cO, h, ?_⟩
   by_cases aG : d.tree = true
   ·exact .inr ⟨aG, jw, fun _ => False, by rw [ag]; exact aK, fun _ h => h.elim, fun _ h => h.elim, fun _ _ h => h.elim, fun _ h => h.elim⟩
   ·cases d <;> first | exact (aG rfl).elim | (rw [ai] at aK; exact aK.elim) | exact .inl ⟨rfl, by rw [ar]; trivial⟩ | (have a1 := aK; rw [ai] at a1; obtain ⟨arr, e, _⟩ := a1; rw [← ag] at e aK; rw [eb (by exact jw)] at aK; exact .inl ⟨rfl, ar.kD _ _ rfl aK⟩)
  ·cases he
 ·rename_i y k
  split at he
  ·rename_i ds i5
   split at he
   ·cases he
   ·rename_i pS
    split at he
    ·rename_i i ax
     split at he
     ·rename_i d ab
      split at he
      ·rename_i e2
       simp only [Option.some.injEq] at he
       have eG : (s y).plain = false := by rw [i5]; simp only [j.plain]; simpa using pS
       rw [ar] at aC
       obtain ⟨b, cur, e, fr, rfl, aa, au, aK⟩ := aC eG
       have a8 := h.cl y
       rw [i5] at a8
       have wW := ((ar.bE rfl).1 a8).2
       rw [ai] at wW
       obtain ⟨bA, dq, bG, bf, eV, fY, eM, dF, er, e_, dy, h1⟩ := aH.pick ds _ _ i d wW ab
       have gi : e0 w b k dq := by
        intro ay c bP
        have cK : ay < dq.length := (List.getElem?_eq_some_iff.1 bP).1
        have : cur.toList[k + ay]? = some c := by
         rw [aK, fY, List.getElem?_append_right (by omega), List.getElem?_append_left (by omega), ← bP]; congr 1; omega
        simp [World.cell?, au]
        simpa using this
       obtain ⟨cc, aD, ag, jw⟩ := rH aM gi dy e2.2
       have cO : (Instr.loadAt T (.pointer (some ⟨b, k, none⟩))).run C.P w = .ok cc w := by simp [Instr.loadAt, Instr.sureAddr, aD]
       refine ⟨cc, w, F, S, cO, h, ?_⟩
       split at he
       ·rename_i ak
        subst he
        by_cases aG : d.tree = true
        ·exact .inl ⟨ak, (ar.bE aG).2 ⟨jw, by rw [ag]; exact ai.plain _ _ _ _ ak dy⟩⟩
        ·cases d <;> first | exact (aG rfl).elim | (rw [ai] at dy; exact dy.elim) | exact .inl ⟨rfl, by rw [ar]; trivial⟩ | (have a1 := ai.plain _ _ _ (fun _ => False) ak dy; rw [← ag] at a1; rw [eb (by exact jw)] at a1; exact .inl ⟨rfl, ar.kD _ _ rfl a1⟩)
       ·subst he
        refine .inl ⟨rfl, ?_⟩
        rw [ar]
        intro d2 fm _
        rw [i5] at fm ⊢
        simp only [j.sub, ab, Option.some.injEq] at fm
        subst fm
        refine ⟨dq, none, ?_, ag, jw⟩
        simp only [b2, ab]
        rw [fY, mR bA dq bG _ _ eM (ai.length _ _ _ dy)]
        rfl
      ·cases he
     ·cases he
    ·cases he
  ·cases he
 ·rename_i x _ _
  split at he
  ·rename_i y q hl
   split at he
   ·rename_i d ab
    split at he
    ·rename_i e2
     simp only [Option.some.injEq] at he
     obtain ⟨j5, bQ, b, o, rfl, hg⟩ := tF h aC hl ab
     have a8 := h.cl y
     rw [ar.bE (fh ab (.inr j5))] at a8
     obtain ⟨dx, bK, cS, ei, k0, bn, bs, cT, cm, c8⟩ := ctx q (s y) (br (al y)) (S y) none _ a8.2 ab
     rw [k0] at hg
     simp only [Option.some.injEq, Prod.mk.injEq, true_and] at hg
     obtain ⟨rfl, rfl⟩ := hg
     have gi : e0 w b o dx := by
      rcases c8 with ⟨l, r, aE, aI, _⟩ | ⟨dk, cur, e, fr, l, r, aE, aI, bg, bX, b0, _⟩
      ·simp at aI
      ·simp only [Option.some.injEq, Prod.mk.injEq] at aE
       obtain ⟨rfl, rfl⟩ := aE
       intro ay c bP
       have cK : ay < dx.length := (List.getElem?_eq_some_iff.1 bP).1
       have : cur.toList[l.length + ay]? = some c := by
        rw [b0, List.getElem?_append_right (by omega), List.getElem?_append_left (by omega), ← bP]; congr 1; omega
       simp [World.cell?, bg]
       simpa using this
     obtain ⟨cc, aD, ag, jw⟩ := rH aM gi cm e2
     have cO : (Instr.loadAt T (.pointer (some ⟨b, o, none⟩))).run C.P w = .ok cc w := by simp [Instr.loadAt, Instr.sureAddr, aD]
     refine ⟨cc, w, F, S, cO, h, ?_⟩
     split at he
     ·rename_i ak
      subst he
      by_cases aG : d.tree = true
      ·exact .inl ⟨ak, (ar.bE aG).2 ⟨jw, by rw [ag]; exact ai.plain _ _ _ _ ak cm⟩⟩
      ·cases d <;> first | exact (aG rfl).elim | (rw [ai] at cm; exact cm.elim) | exact .inl ⟨rfl, by rw [ar]; trivial⟩ | (have a1 := ai.plain _ _ _ (fun _ => False) ak cm; rw [← ag] at a1; rw [eb (by exact jw)] at a1; exact .inl ⟨rfl, ar.kD _ _ rfl a1⟩)
     ·subst he
      refine .inl ⟨rfl, ?_⟩
      rw [ar]
      intro d2 fm _
      rw [ab] at fm
      simp only [Option.some.injEq] at fm
      subst fm
      exact ⟨_, _, k0, ag, jw⟩
    ·cases he
   ·cases he
  ·cases he
mutual
theorem ai.m0 {F : Nat → Prop} : ∀ (d : j) (cs : List Value) (S : Nat → Prop), ai w F d cs S → ∀ c ∈ cs, Value.dW c = true
 | .hole, cs, S, h => by rw [ai] at h; obtain ⟨v, h, rfl⟩ := h; simpa using h
 | .bool _, cs, S, h => by rw [ai] at h; subst h; simp [Value.dW]
 | .c1, cs, S, h => by rw [ai] at h; obtain ⟨b, rfl⟩ := h; simp [Value.dW]
 | .int _ _, cs, S, h => by rw [ai] at h; subst h; simp [Value.dW]
 | .str _, cs, S, h => by rw [ai] at h; subst h; simp [Value.dW]
 | .b_, cs, S, h => by rw [ai] at h; subst h; simp [Value.dW]
 | .bu, cs, S, h => by rw [ai] at h; subst h; simp [Value.dW]
 | .slice xs, cs, S, h => by
   rw [ai] at h
   rcases h with ⟨_, a, c, rfl, _⟩ | ⟨b, o, cap, c2, sz, rfl, _⟩ <;> simp [Value.dW]
 | .aJ sz xs, cs, S, h => by
   rw [ai] at h
   rcases h with ⟨_, _, rfl⟩ | ⟨b, cap, cur, e, fr, az, rfl, _⟩ <;> simp [Value.dW]
 | .ref d, cs, S, h => by rw [ai] at h; obtain ⟨b, o, c2, rfl, _⟩ := h; simp [Value.dW]
 | .bb d, cs, S, h => by rw [ai] at h; obtain ⟨b, o, c2, _, _, rfl, _⟩ := h; simp [Value.dW]
 | .agg af, cs, S, h => by rw [ai] at h; exact aH.m0 af _ _ h
 | .tuple af, cs, S, h => by rw [ai] at h; exact aH.m0 af _ _ h
 | .fn _ _, cs, S, h => by rw [ai] at h; obtain ⟨arr, rfl, _⟩ := h; simp [Value.dW]
 | .h _ _, cs, S, h => by rw [ai] at h; exact h.elim
 | .ak _ _, cs, S, h => by rw [ai] at h; exact h.elim
 | .J _ _, cs, S, h => by rw [ai] at h; exact h.elim
 | .ch _, cs, S, h => by rw [ai] at h; obtain ⟨v, e1, rfl⟩ := hC.one h; simpa using e1
theorem aH.m0 {F : Nat → Prop} : ∀ (ds : List j) (cs : List Value) (S : Nat → Prop), aH w F ds cs S → ∀ c ∈ cs, Value.dW c = true
 | [], cs, S, h => by rw [aH] at h; subst h; simp
 | d :: ds, cs, S, h => by
   rw [aH] at h
   obtain ⟨bA, bG, bf, cj, rfl, aa, au, _⟩ := h
   intro c ag
   rcases List.mem_append.1 ag with ag | ag
   ·exact ai.m0 d _ _ aa c ag
   ·exact aH.m0 ds _ _ au c ag
end
theorem tK {P : Program} {b o : Nat} {e : TypeId} {fr : Nat × Nat} : ∀ (vs : List Value) (i : Nat) (cur : Array Value) (w : World) (l m r : List Value), w.heap[b]? = some (.cells cur e fr) → lS fr cur.size →
  cur.toList = l ++ (m ++ r) → l.length = o + i → m.length = vs.length → (∀ v ∈ vs, Value.dW v = true) →
  ∃ ao, (storeCells ⟨b, o, none⟩ vs i).run P w = .ok () ao ∧ ao.heap[b]? = some (.cells (l ++ (vs ++ r)).toArray e fr) ∧ (∀ c, c ≠ b → ao.heap[c]? = w.heap[c]?) ∧ ao.heap.size = w.heap.size ∧ ao.os = w.os ∧ ao.tape = w.tape ∧ ao.output = w.output
 | [], i, cur, w, l, m, r, J, bo, ag, hl, hm, _ => by
   refine ⟨w, rfl, ?_, fun _ _ => rfl, rfl, rfl, rfl, rfl⟩
   have : m = [] := by simpa using hm
   subst this
   rw [J]
   have : cur = (l ++ ([] ++ r)).toArray := by rw [← ag]
   rw [← this]
 | v :: vs, i, cur, w, l, m, r, J, bo, ag, hl, hm, rI => by
   obtain ⟨x, m, rfl⟩ : ∃ x fa, m = x :: fa := by cases m with
    | nil => simp at hm
    | cons x m => exact ⟨x, m, rfl⟩
   have hlen : cur.size = (l ++ (x :: m ++ r)).length := by rw [← ag]; simp
   have cK : o + i < cur.size := by rw [hlen]; simp; omega
   have rJ : w.cell? ⟨b, o + i, none⟩ = some cur[o + i] := by simp [World.cell?, J, cK]
   have B6 : w.frozen? ⟨b, o + i, none⟩ = false := by
    have := bo (o + i) cK
    simp only [World.frozen?, J]
    simp only [Bool.and_eq_false_iff, decide_eq_false_iff_not]
    by_cases U : fr.1 ≤ o + i
    ·right; exact fun aa => this ⟨U, aa⟩
    ·left; exact U
   have lX : (w.setCell ⟨b, o + i, none⟩ v).heap[b]? = some (.cells ((l ++ [v]) ++ (m ++ r)).toArray e fr) := by
    simp only [World.setCell, Array.getElem?_modify, if_true, J, Option.map_some, Option.isSome_none, Bool.false_eq_true, if_false]
    congr 2
    apply Array.ext'
    rw [Array.toList_setIfInBounds, ag, ← hl, List.set_append_right _ _ (Nat.le_refl _)]
    simp
   have m1 : (store ((⟨b, o, none⟩ : Addr).add i) v).run P w = .ok () (w.setCell ⟨b, o + i, none⟩ v) := by
    have U := rI v (by simp)
    rw [Addr.add_lit]
    cases v <;> first | (simp [Value.dW] at U; done) | simp [Go.store, Sem.run, rJ, B6]
   obtain ⟨ao, g1, g2, g3, g4, g5, g6, g7⟩ := tK (P := P) (b := b) (o := o) vs (i + 1) _ (w.setCell ⟨b, o + i, none⟩ v) (l ++ [v]) m r lX (by
    have : (l ++ [v] ++ (m ++ r)).toArray.size = cur.size := by rw [hlen]; simp
    rw [this]; exact bo) (by simp) (by simp; omega) (by simpa using hm) (fun u hu => rI u (by simp [hu]))
   refine ⟨ao, ?_, by simpa using g2, fun c ag => ?_, ?_, g5, g6, g7⟩
   ·simp only [storeCells, Sem.run_bind, m1, Result.andThen]; exact g1
   ·rw [g3 c ag]
    simp only [World.setCell, Array.getElem?_modify]
    rw [if_neg (fun e => ag e.symm)]
   ·rw [g4]; simp [World.setCell]
theorem pT {d : j} {v : Value} (h : cA d v) (ab : ∀ af, d ≠ .tuple af) : v.cells = (br v).toArray := by
 cases d with
 | tuple af => exact (ab _ rfl).elim
 | agg af => obtain ⟨arr, rfl⟩ := h; simp [Value.cells, br, fg]
 | _ =>
   have U : Value.dW v = true := h
   rw [eb U]
   cases v <;> first | rfl | (simp [Value.dW] at U)
def dR (C : bp) (s : ad) (T : TypeId) (x y : j) : Option ad :=
 match bM s y, loc s x with
 | some (d, s1), some (z, q) => match d with
   | .tuple _ => none
   | d => match j.sub q (s z) with
     | some d0 => if d.wd = d0.wd ∧ d.wd = (C.T T).sz ∧ (C.T T).ok = true ∧ y.owner ≠ some z then some (ca (fw z s1) z (j.put q d (s z))) else none
     | none => none
 | _, _ => none
theorem B7 {s s1 : ad} {y d : j} {z : Nat} (h : bM s y = some (d, s1)) (bd : (s z).tree = true) (a8 : y.owner ≠ some z) : s1 z = s z := by
 cases y with
 | h x q =>
   simp only [bM] at h
   split at h
   ·split at h
    ·cases h
    ·simp only [Option.some.injEq, Prod.mk.injEq] at h
     obtain ⟨_, rfl⟩ := h
     rw [gw _ _ (fun e => a8 (by rw [j.owner, e]))]
     exact tu bd
   ·cases h
 | ak x q => simp [bM] at h
 | J x q => simp [bM] at h
 | fn f c => simp [bM] at h
 | hole => simp [bM] at h
 | _ => simp only [bM, Option.some.injEq, Prod.mk.injEq] at h; rw [h.2]
theorem B8 (aM : C.c3) (h : ba w0 F0 X F S s al w) {T : TypeId} {x y : j} {fJ fo : Value} (tL : ar w F s al x fJ (fun _ => False)) (a8 : y.plain = true) (B9 : ar w F s al y fo (fun _ => False))
  {s2 : ad} (he : dR C s T x y = some s2) :
  ∃ ao az, (Instr.storeAt T fJ fo).run C.P w = .ok () ao ∧ ba w0 F0 X F az s2 al ao := by
 unfold dR at he
 split at he
 ·rename_i d s1 z q aG hl
  have key : ∀ d : j, (∀ af, d ≠ .tuple af) → bM s y = some (d, s1) → (match j.sub q (s z) with
   | some d0 => if d.wd = d0.wd ∧ d.wd = (C.T T).sz ∧ (C.T T).ok = true ∧ y.owner ≠ some z then some (ca (fw z s1) z (j.put q d (s z))) else none
   | none => none) = some s2 → ∃ ao az, (Instr.storeAt T fJ fo).run C.P w = .ok () ao ∧ ba w0 F0 X F az s2 al ao := by
   intro d k8 aG he
   split at he
   ·rename_i d0 iG
    split at he
    ·rename_i m2
     obtain ⟨U, aa, au, aK⟩ := m2
     simp only [Option.some.injEq] at he; subst he
     obtain ⟨j5, bQ, b, o, rfl, hg⟩ := tF h tL hl iG
     obtain ⟨bf, g0, g1, g2, Sn, g3, g4, g5, g6, g7, g8⟩ := kB h a8 B9 aG
     have cV : s1 z = s z := B7 aG (fh iG (.inr j5)) aK
     rw [← cV] at iG j5 hg ⊢
     obtain ⟨dx, dk, l, r, cur, e, fr, k0, bn, bs, cT, cm⟩ := g0.store iG j5 g3 U g4 g5 g6 g7
     rw [hg] at k0
     simp only [Option.some.injEq, Prod.mk.injEq, true_and] at k0
     obtain ⟨rfl, rfl, rfl⟩ := k0
     obtain ⟨i, d, lV, aE, aI, bg, bX, b0, bh, bc⟩ := aM.info au
     have hlen := ai.length _ _ _ g3
     have hm : bQ.length = (br fo).length := by
      have rK := g0.cl z
      rw [ar.bE (fh iG (.inr j5))] at rK
      obtain ⟨_, _, _, _, k4, _, _, _, m3, _⟩ := ctx q (s1 z) (br (al z)) (bf z) none _ rK.2 iG
      rw [hg] at k4
      simp only [Option.some.injEq, Prod.mk.injEq, true_and] at k4
      rw [k4.1, ai.length _ _ _ m3, hlen, U]
     obtain ⟨ao, dY, e3, fQ, j6, kE, ek, k9⟩ := tK (P := C.P) (b := b) (o := l.length) (e := e) (fr := fr) (br fo) 0 cur w l bQ r bn cT bs rfl hm (ai.m0 _ _ _ g3)
     obtain ⟨az, c8⟩ := cm ao e3 fQ j6 kE ek k9
     refine ⟨ao, az, ?_, c8⟩
     have j7 := pT g2 k8
     simp [Instr.storeAt, Instr.sureAddr, storeVar, gy aE, aI, j7, hlen, aa, dY]
    ·cases he
   ·cases he
  split at he
  ·cases he
  ·rename_i k8
   exact key _ (fun af e => k8 af e) aG he
 ·cases he
theorem ba.alloc (h : ba w0 F0 X F S s al w) {d : j} {cs : List Value} {Sn : Nat → Prop} (e : TypeId) (aC : ai w F d cs Sn)
  (cK : ∀ b, Sn b → b < w.heap.size) (aN : ∀ b, Sn b → ¬ F b) (aZ : ∀ u b, Sn b → ¬ S u b) (bz : ∀ b, Sn b → X b ∨ w0.heap.size ≤ b) :
  ba w0 F0 X F S s al (w.alloc (.cells cs.toArray e)) ∧
   hh w0 X F S s al (w.alloc (.cells cs.toArray e)) (.bb d) (.pointer (some ⟨w.heap.size, 0, none⟩)) := by
 have hold : ∀ b, b < w.heap.size → (w.alloc (.cells cs.toArray e)).heap[b]? = w.heap[b]? := by
  intro b J
  show (w.heap.push _)[b]? = _
  rw [Array.getElem?_push, if_neg (by omega)]
 refine ⟨h.grow hold (by simp) rfl rfl rfl, .inr ⟨rfl, rfl, fun b => b = w.heap.size ∨ Sn b, ?_, ?_, ?_, ?_, ?_⟩⟩
 ·rw [ai]
  refine ⟨w.heap.size, cs.toArray, e, (0, 0), Sn, rfl, .inl rfl, ?_, ?_, ?_, fun c ag => .inr ag, fun ag => Nat.lt_irrefl _ (cK _ ag)⟩
  ·show (w.heap.push _)[_]? = _
   simp
  ·intro o _ ⟨_, aa⟩; exact absurd aa (Nat.not_lt_zero _)
  ·exact ai.frame (fun b J => hold b (h.dg b J)) _ _ _ (fun b J => hold b (cK b J)) aC
 ·rintro b (rfl | J)
  ·simp
  ·have := cK b J; simp; omega
 ·rintro b (rfl | J) m4
  ·exact Nat.lt_irrefl _ (h.dg _ m4)
  ·exact aN b J m4
 ·rintro u b (rfl | J) hu
  ·exact Nat.lt_irrefl _ (h.cZ _ _ hu)
  ·exact aZ u b J hu
 ·rintro b (rfl | J)
  ·exact .inr h.size
  ·exact bz b J
def eH (C : bp) (T : TypeId) : Option j := if (C.T T).ok = true then (match (C.T T).k, (C.T T).zero with
    | .cI e, .agg [.b_, .bu] => some (.ch (.dE T e []))
    | .cI _, _ => none
    | _, z => (match flat z with | some _ => some (.bb z) | none => none)) else none
theorem B_ (aM : C.c3) (h : ba w0 F0 X F S s al w) {T : TypeId} (he : eH C T = some av) : Good C w0 F0 X al w (Instr.alloc T true (.tuple #[])) av s := by
 unfold eH at he
 split at he
 ·rename_i ah
  split at he
  ·rename_i N7 tM Ca
   simp only [Option.some.injEq] at he; subst he
   obtain ⟨i, d, z, aE, aI, bg, bX, b0, bh, bc⟩ := aM.info ah
   have bd := b0 [.pointer none, .slice none 0 0] (by rw [Ca]; rfl)
   have hold : ∀ b, b < w.heap.size → (w.alloc (.cells #[.pointer none, .slice none 0 0] T)).heap[b]? = w.heap[b]? := by
    intro b J
    show (w.heap.push _)[b]? = _
    rw [Array.getElem?_push, if_neg (by omega)]
   refine ⟨.pointer (some ⟨w.heap.size, 0, none⟩), w.alloc (.cells #[.pointer none, .slice none 0 0] T), F, S, ?_, h.grow hold (by simp) rfl rfl rfl, .inr ⟨rfl, rfl, fun b => b = w.heap.size, ?_, ?_, ?_, ?_, ?_⟩⟩
   ·simp [Instr.alloc, n6 aE bX, newVar, newRow, newObj, Sem.run, bd]
   ·rw [ai]
    refine ⟨w.heap.size, .pointer none, .slice none 0 0, rfl, rfl, ?_, .inl rfl, .inl ⟨rfl, rfl⟩⟩
    show (w.heap.push _)[_]? = _
    simp
   ·rintro b rfl; simp
   ·rintro b rfl m4; exact Nat.lt_irrefl _ (h.dg _ m4)
   ·rintro u b rfl hu; exact Nat.lt_irrefl _ (h.cZ _ _ hu)
   ·rintro b rfl; exact .inr h.size
  ·cases he
  split at he
  ·rename_i cs fY
   simp only [Option.some.injEq] at he; subst he
   obtain ⟨i, d, z, aE, aI, bg, bX, b0, bh, bc⟩ := aM.info ah
   have bd := b0 cs fY
   obtain ⟨et, ck⟩ := h.alloc (d := (C.T T).zero) T ((ai.flat _).1 _ cs (fun _ => False) (Nat.le_refl _) fY) (fun _ h => h.elim) (fun _ h => h.elim) (fun _ _ h => h.elim) (fun _ h => h.elim)
   refine ⟨_, _, F, S, ?_, et, ck⟩
   simp [Instr.alloc, n6 aE bX, newVar, newRow, newObj, Sem.run, bd]
  ·cases he
 ·cases he
def du (s : ad) (x : j) : Option (j × ad) := match bM s x with
 | some (.tuple _, _) => none
 | some (d, s1) => some (.bb d, s1)
 | none => none
def hj (s : ad) (x : j) : Option (j × ad) := match x with
 | .h y q => match q, s y with
   | [], .agg ds => if j.dr ds then none else some (.J y 0, s)
   | _, _ => none
 | .fn f caps => if caps.all (fun d => d.single && (d.tree && d.plain)) = true then some (.ref (.fn f caps), s) else none
 | _ => none
theorem aH.wX {w : World} {F aY : Nat → Prop} {s : ad} {al : Nat → Value} (aN : ∀ b, F b → aY b) : ∀ (ds : List j) (vs : List Value), (∀ d ∈ ds, d.single = true ∧ d.tree = true ∧ d.plain = true) → cx w F s al ds vs → aH w aY ds vs (fun _ => False)
 | [], vs, _, h => by rw [cx] at h; rw [aH]; exact h
 | d :: ds, vs, R, h => by
   rw [cx] at h
   obtain ⟨v, fW, rfl, U, aa⟩ := h
   obtain ⟨d1, d2, d3⟩ := R d (by simp)
   have au := (ar.bE d2).1 U
   have bq : Value.dW v = true := by
    have := au.1
    cases d <;> first | exact this | cases d1
   have aK := au.2
   rw [eb bq] at aK
   rw [aH]
   exact ⟨[v], fW, fun _ => False, fun _ => False, rfl, ai.mono aN _ _ _ _ (fun _ h => h) aK, aH.wX aN ds fW (fun x an => R x (by simp [an])) aa, fun _ h => h, fun _ h => h, fun _ h => h.elim⟩
theorem Cb {T : TypeId} {v : Value} (h : ba w0 F0 X F S s al w) : ba w0 F0 X (fun b => F b ∨ b = w.heap.size) S s al (w.alloc (.cells (br v).toArray T)) := by
 have hold : ∀ b, b < w.heap.size → (w.alloc (.cells (br v).toArray T)).heap[b]? = w.heap[b]? := by
  intro b J
  show (w.heap.push _)[b]? = _
  rw [Array.getElem?_push, if_neg (by omega)]
 have U := h.grow hold (by simp) rfl rfl rfl
 exact {
  eF := fun b J => .inl (U.eF b J)
  eW := fun b J => by
   rcases J with J | rfl
   ·exact U.eW b J
   ·exact .inr (.inr h.size)
  dg := fun b J => by
   rcases J with J | rfl
   ·exact U.dg b J
   ·simp
  cZ := U.cZ
  dz := fun t b J bo => by
   rcases bo with bo | rfl
   ·exact U.dz t b J bo
   ·exact absurd (h.cZ t _ J) (Nat.lt_irrefl _)
  dt := U.dt
  cq := U.cq
  cl := fun t => ar.frame (fun _ _ => rfl) (fun b J => .inl J) (fun _ _ _ => rfl) U.cl _ _ _ (fun _ _ => rfl) (U.cl t)
  old := U.old
  size := U.size
  os := U.os
  tape := U.tape
  output := U.output }
theorem Cc (h : ba w0 F0 X F S s al w) {T : TypeId} {x : j} {v : Value} (aC : ar w F s al x v (fun _ => False)) (he : hj s x = some (av, s1)) :
  Good C w0 F0 X al w (Instr.box T v) av s1 := by
 unfold hj at he
 split at he
 ·rename_i y q
  split at he
  ·rename_i ds i5
   split at he
   ·cases he
   ·rename_i pS
    simp only [Option.some.injEq, Prod.mk.injEq] at he
    obtain ⟨rfl, rfl⟩ := he
    rw [ar] at aC
    obtain ⟨bQ, a, g1, g2, g3⟩ := aC (s y) (by simp only [j.sub]) (by rw [i5]; simp only [j.plain]; simpa using pS)
    simp only [b2, Option.some.injEq, Prod.mk.injEq, true_and] at g1
    rw [i5] at g3
    have j7 := pT g3 (fun af e => by cases e)
    have hold : ∀ b, b < w.heap.size → (w.alloc (.cells (br v).toArray T)).heap[b]? = w.heap[b]? := by
     intro b J
     show (w.heap.push _)[b]? = _
     rw [Array.getElem?_push, if_neg (by omega)]
    refine ⟨.pointer (some ⟨w.heap.size, 0, none⟩), w.alloc (.cells (br v).toArray T), fun b => F b ∨ b = w.heap.size, S, by simp [Instr.box, newVar, newRow, newObj, Sem.run, j7], ?_, .inl ⟨rfl, ?_⟩⟩
    ·have U := h.grow hold (by simp) rfl rfl rfl
     exact {
      eF := fun b J => .inl (U.eF b J)
      eW := fun b J => by
       rcases J with J | rfl
       ·exact U.eW b J
       ·exact .inr (.inr h.size)
      dg := fun b J => by
       rcases J with J | rfl
       ·exact U.dg b J
       ·simp
      cZ := U.cZ
      dz := fun t b J bo => by
       rcases bo with bo | rfl
       ·exact U.dz t b J bo
       ·exact absurd (h.cZ t _ J) (Nat.lt_irrefl _)
      dt := U.dt
      cq := U.cq
      cl := fun t => ar.frame (fun _ _ => rfl) (fun b J => .inl J) (fun _ _ _ => rfl) U.cl _ _ _ (fun _ _ => rfl) (U.cl t)
      old := U.old
      size := U.size
      os := U.os
      tape := U.tape
      output := U.output }
    ·rw [ar]
     intro _
     refine ⟨w.heap.size, (br v).toArray, T, (0, 0), rfl, .inr rfl, ?_, ?_⟩
     ·show (w.heap.push _)[_]? = _
      simp
     ·rw [g1.1, ← g2]
  ·cases he
 ·rename_i f caps
  split at he
  ·rename_i ag
   simp only [Option.some.injEq, Prod.mk.injEq] at he
   obtain ⟨rfl, rfl⟩ := he
   have fY : ∀ d ∈ caps, d.single = true ∧ d.tree = true ∧ d.plain = true := fun d ab => by
    have := List.all_eq_true.1 ag d ab
    simpa only [Bool.and_eq_true] using this
   rw [ar] at aC
   obtain ⟨arr, rfl, aC⟩ := aC
   have j7 := pT (d := .fn f caps) (v := .func (.func f) #[] arr) rfl (fun af e => by cases e)
   have aT := Cb (T := T) (v := .func (.func f) #[] arr) h
   refine ⟨.pointer (some ⟨w.heap.size, 0, none⟩), w.alloc (.cells (br (.func (.func f) #[] arr)).toArray T), fun b => F b ∨ b = w.heap.size, S, by simp [Instr.box, newVar, newRow, newObj, Sem.run, j7], aT, .inl ⟨rfl, ?_⟩⟩
   refine (ar.bE rfl).2 ⟨rfl, ?_⟩
   rw [ai]
   refine ⟨w.heap.size, 0, [.func (.func f) #[] arr], rfl, .inr rfl, ?_, ?_⟩
   ·have hF : (w.alloc (.cells (br (.func (.func f) #[] arr)).toArray T)).heap[w.heap.size]? = some (.cells (br (.func (.func f) #[] arr)).toArray T (0, 0)) := by
     show (w.heap.push _)[_]? = _
     simp
    intro ay c bP
    cases ay with
    | zero =>
      simp only [List.getElem?_cons_zero, Option.some.injEq] at bP
      subst bP
      have e : br (.func (.func f) #[] arr) = [.func (.func f) #[] arr] := eb rfl
      unfold World.cell?
      show (match (w.alloc (.cells (br (.func (.func f) #[] arr)).toArray T)).heap[w.heap.size]? with
       | some (.cells c _ _) => c[0 + 0]?
       | _ => none) = _
      rw [hF, e]
      rfl
    | succ ay => simp at bP
   ·rw [ai]
    refine ⟨arr, rfl, fun d ab => (fY d ab).1, ?_⟩
    have a1 := aH.wX (aY := F) (fun b J => J) caps arr.toList fY aC
    refine aH.mono (F := F) (fun b J => .inl J) caps _ _ _ (fun _ h => h) (aH.frame (fun b J => ?_) caps _ _ (fun _ h => h.elim) a1)
    have cK := h.dg b J
    show (w.heap.push _)[b]? = _
    rw [Array.getElem?_push, if_neg (by omega)]
  ·cases he
 ·cases he
theorem Cd (h : ba w0 F0 X F S s al w) {T : TypeId} {x : j} {v : Value} (an : x.plain = true) (aC : ar w F s al x v (fun _ => False)) (he : du s x = some (av, s1)) :
  Good C w0 F0 X al w (Instr.box T v) av s1 := by
 unfold du at he
 split at he
 ·cases he
 ·rename_i d s2 k8 aG
  simp only [Option.some.injEq, Prod.mk.injEq] at he
  obtain ⟨rfl, rfl⟩ := he
  obtain ⟨bf, g0, g1, g2, Sn, g3, g4, g5, g6, g7, g8⟩ := kB h an aC aG
  obtain ⟨et, ck⟩ := g0.alloc T g3 g4 g5 g6 g7
  refine ⟨_, _, F, bf, ?_, et, ck⟩
  have j7 := pT g2 (fun af e => k8 af e)
  simp [Instr.box, newVar, newRow, newObj, Sem.run, j7]
 ·cases he
end
end Go.b7
