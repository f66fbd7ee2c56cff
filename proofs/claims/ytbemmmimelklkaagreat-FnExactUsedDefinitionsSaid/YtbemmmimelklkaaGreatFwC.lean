/- Part of a proof that a law returns true for every input. No condition. -/
import Derived.Test.YtbemmmimelklkaaGreatFwB
import Derived.Laws.Entries
namespace Go.c5
inductive nw where
 | int (k : IntKind)
 | bool
 | str
 | ptr (e : TypeId)
 | slice (e : TypeId)
 | struct (aC : List (TypeId × Nat))
 | fn
 | other
structure g_ where
 k : nw
 sz : Nat
 bytes : Nat
 zero : I
mutual
def flat : I → Option (List Value)
 | .bool b => some [.bool b]
 | .int k n => some [.int k n]
 | .str s => some [.string ⟨⟨s⟩⟩]
 | .dI => some [.pointer none]
 | .bu => some [.slice none 0 0]
 | .agg aC => pQ aC
 | _ => none
def pQ : List I → Option (List Value)
 | [] => some []
 | d :: ds => match flat d, pQ ds with
   | some a, some b => some (a ++ b)
   | _, _ => none
end
theorem aB.flat {w : World} {F : Nat → Prop} : ∀ n, (∀ (d : I) (cs : List Value) (S : Nat → Prop), SizeOf.sizeOf d ≤ n → flat d = some cs → aB w F d cs S) ∧
  (∀ (ds : List I) (cs : List Value) (S : Nat → Prop), SizeOf.sizeOf ds ≤ n → pQ ds = some cs → bm w F ds cs S) := by
 intro n
 induction n with
 | zero => exact ⟨fun d _ _ bY => by cases d <;> simp at bY <;> omega, fun ds _ _ bY => by cases ds <;> simp at bY <;> omega⟩
 | succ n ih =>
   refine ⟨fun d cs S bY h => ?_, fun ds cs S bY h => ?_⟩
   ·cases d with
    | agg aC => rw [aB]; exact ih.2 aC cs S (by simp at bY; omega) (by simpa [c5.flat] using h)
    | bool b => simp [c5.flat] at h; subst h; rw [aB]
    | int k n => simp [c5.flat] at h; subst h; rw [aB]
    | str s => simp [c5.flat] at h; subst h; rw [aB]
    | dI => simp [c5.flat] at h; subst h; rw [aB]
    | bu => simp [c5.flat] at h; subst h; rw [aB]
    | _ => simp [c5.flat] at h
   ·cases ds with
    | nil => simp [pQ] at h; subst h; rw [bm]
    | cons d ds =>
      simp only [pQ] at h
      split at h
      ·rename_i a b cz ad
       simp at h; subst h
       simp at bY
       rw [bm]
       exact ⟨a, b, fun _ => False, fun _ => False, rfl, ih.1 d a _ (by omega) cz, ih.2 ds b _ (by omega) ad, fun _ h => h.elim, fun _ h => h.elim, fun _ h => h.elim⟩
      ·cases h
def lq : nw → TypeDesc → Prop
 | .int k, .int dm => k = dm
 | .bool, .bool => True
 | .str, .string => True
 | .ptr e, .pointer fv => e = fv
 | .slice e, .slice fv => e = fv
 | .struct aC, .struct gs => gs.toList.map (fun g => (g.type, g.offset)) = aC
 | .fn, .func _ _ _ => True
 | _, _ => False
def H6 (P : Program) (t : TypeId) (x : g_) : Prop :=
 (∃ e n b z, x = ⟨.other, e, n, b⟩ ∧ z = 0) ∨
 ∃ i d z, P.info? t = some i ∧ i.size = x.sz ∧ i.bytes = x.bytes ∧ i.zero = some z ∧ (∀ cs, flat x.zero = some cs → z.cells = cs.toArray) ∧ P.underlying t = some d ∧ lq x.k d
structure cw where
 P : Program
 T : TypeId → g_
 M : FuncId → List Bool
structure cw.Ok (C : cw) : Prop where
 ty : ∀ t, H6 C.P t (C.T t)
 mixed : C.P.follows .mixedOrders = true
inductive aH where
 | t (n : Nat)
 | c (av : I)
 | f (g : FuncId)
def zI : Value → Option I
 | .bool b => some (.bool b)
 | .int k n => some (.int k n)
 | .string s => some (.str s.data.toList)
 | .pointer none => some .dI
 | .slice none 0 0 => some .bu
 | _ => none
def ef : Operand → Option aH
 | .tmp n => some (.t n)
 | .const v => (zI v).map .c
 | .func g => some (.f g)
 | .global _ => none
def i7 (x : Nat) (d : I) : I := if d.plain then d else .h x []
def aV (s : ax) : aH → I
 | .t n => i7 n (s n)
 | .c av => av
 | .f g => .fn g []
theorem aY.nothing {w : World} {F : Nat → Prop} {s : ax} {aF : Nat → Value} {d : I} {v : Value} {S a7 : Nat → Prop} (aA : d.plain = true) (h : aY w F s aF d v S) : aY w F s aF d v a7 := by
 cases d <;> first
  | (rw [aY]; trivial)
  | (rw [aY] at h ⊢; exact h)
  | (have bM := (aY.c9 rfl).1 h; exact (aY.c9 rfl).2 ⟨bM.1, aB.plain _ _ _ _ aA bM.2⟩)
section
variable {w0 w : World} {F0 X F : Nat → Prop} {S : Nat → Nat → Prop} {s : ax} {aF : Nat → Value} {a : Act}
theorem H7 (s : ax) (x : aH) (ay : ∀ av, x = .c av → av.plain = true) : (aV s x).plain = true := by
 cases x with
 | t n => simp only [aV, i7]; split <;> first | assumption | rfl
 | c av => exact ay _ rfl
 | f g => rfl
theorem D_ {v : Value} {av : I} (h : zI v = some av) : av.plain = true := by
 unfold zI at h; split at h <;> simp at h <;> subst h <;> rfl
theorem gu (h : bZ w0 F0 X F S s aF w) (eW : ∀ t, aF t = a.tmps.getD t undef) {o : Operand} {x : aH} (cl : ef o = some x) :
  (aV s x).plain = true ∧ aY w F s aF (aV s x) (a.eval o) (fun _ => False) := by
 cases o with
 | tmp n =>
   simp [ef] at cl; subst cl
   simp only [aV, i7, Act.eval, ← eW]
   split
   ·rename_i aA; exact ⟨aA, aY.nothing aA (h.ee n)⟩
   ·rename_i aA
    refine ⟨rfl, ?_⟩
    rw [aY]
    intro d ak Ea
    simp only [I.sub, Option.some.injEq] at ak; subst ak
    have bs := iz (q := []) rfl (.inl Ea)
    exact ⟨_, none, rfl, rfl, ((aY.c9 bs).1 (h.ee n)).1⟩
 | const v =>
   simp only [ef, Option.map_eq_some_iff] at cl
   obtain ⟨av, n5, rfl⟩ := cl
   refine ⟨D_ n5, ?_⟩
   simp only [aV, Act.eval]
   unfold zI at n5
   split at n5 <;> simp at n5 <;> subst n5 <;> rw [aY, aB] <;> exact ⟨rfl, rfl⟩
 | func g =>
   simp [ef] at cl; subst cl
   refine ⟨rfl, ?_⟩
   simp only [aV, Act.eval]
   rw [aY]
   exact ⟨#[], rfl, by rw [e2]⟩
 | global g => simp [ef] at cl
def k3 (w0 : World) (X F : Nat → Prop) (S : Nat → Nat → Prop) (s : ax) (aF : Nat → Value) (w : World) (av : I) (v : Value) : Prop :=
 (av.plain = true ∧ aY w F s aF av v (fun _ => False)) ∨
 (av.tree = true ∧ eI av v ∧ ∃ Sn, aB w F av (c1 v) Sn ∧ (∀ b, Sn b → b < w.heap.size) ∧ (∀ b, Sn b → ¬ F b) ∧ (∀ u b, Sn b → ¬ S u b) ∧ (∀ b, Sn b → X b ∨ w0.heap.size ≤ b))
def fin (s : ax) (dst : Option Nat) (av : I) : ax := match dst with
 | none => s
 | some t => if av.plain then dz s t av else dz (lK t s) t av
def n6 (aF : Nat → Value) (dst : Option Nat) (v : Value) : Nat → Value := match dst with
 | none => aF
 | some t => dz aF t v
theorem bZ.fin (h : bZ w0 F0 X F S s aF w) {av : I} {v : Value} (aR : k3 w0 X F S s aF w av v) (dst : Option Nat) :
  ∃ a7, bZ w0 F0 X F a7 (c5.fin s dst av) (n6 aF dst v) w := by
 cases dst with
 | none => exact ⟨S, h⟩
 | some t =>
   simp only [c5.fin, n6]
   rcases aR with ⟨aA, ak⟩ | ⟨bs, ah, Sn, af, ai, aN, bk, cc⟩
   ·rw [if_pos aA]; exact ⟨_, h.tS aA ak⟩
   ·split
    ·rename_i aA
     exact ⟨_, h.tS aA ((aY.c9 bs).2 ⟨ah, aB.plain _ _ _ _ aA af⟩)⟩
    ·exact ⟨_, h.HX bs ah af ai aN (fun u b _ ad => bk u b ad) cc⟩
def c2 (s : ax) : I → Option (I × ax)
 | .h x q => match I.sub q (s x) with
   | some d => if d.plain then none else some (d, dz (iH x s) x (I.put q d.dq (s x)))
   | none => none
 | .aA _ _ => none
 | .ad _ _ => none
 | .fn _ _ => none
 | .hole => none
 | d => some (d, s)
def I.owner : I → Option Nat
 | .h x _ => some x
 | _ => none
def kD : Option Nat → I → I
 | some x, d => cm x d
 | none, d => d
theorem qK (h : bZ w0 F0 X F S s aF w) {av d : I} {s1 : ax} {v : Value} (n5 : av.plain = true) (aR : aY w F s aF av v (fun _ => False)) (bs : c2 s av = some (d, s1)) :
  ∃ cy, bZ w0 F0 X F cy s1 aF w ∧ d.tree = true ∧ eI d v ∧ ∃ Sn, aB w F d (c1 v) Sn ∧ (∀ b, Sn b → b < w.heap.size) ∧ (∀ b, Sn b → ¬ F b) ∧ (∀ u b, Sn b → ¬ cy u b) ∧ (∀ b, Sn b → X b ∨ w0.heap.size ≤ b) ∧
    (∀ u b, cy u b → S u b) ∧ (∀ b, Sn b → ∃ u, S u b) ∧ (∀ (bL : I) (gH : Value) (a7 : Nat → Prop), aY w F s aF bL gH a7 → aY w F s1 aF (kD av.owner bL) gH a7) := by
 have tree : ∀ d : I, d.tree = true → d.plain = true → aY w F s aF d v (fun _ => False) →
   ∃ cy, bZ w0 F0 X F cy s aF w ∧ d.tree = true ∧ eI d v ∧ ∃ Sn, aB w F d (c1 v) Sn ∧ (∀ b, Sn b → b < w.heap.size) ∧ (∀ b, Sn b → ¬ F b) ∧ (∀ u b, Sn b → ¬ cy u b) ∧ (∀ b, Sn b → X b ∨ w0.heap.size ≤ b) ∧
     (∀ u b, cy u b → S u b) ∧ (∀ b, Sn b → ∃ u, S u b) := by
  intro d ak _ bM
  have bM := (aY.c9 ak).1 bM
  exact ⟨S, h, ak, bM.1, _, bM.2, fun _ h => h.elim, fun _ h => h.elim, fun _ _ h => h.elim, fun _ h => h.elim, fun _ _ h => h, fun _ h => h.elim⟩
 cases av with
 | h x q =>
   simp only [c2] at bs
   split at bs
   ·rename_i e he
    split at bs
    ·cases bs
    ·rename_i aA
     simp only [Option.some.injEq, Prod.mk.injEq] at bs
     obtain ⟨rfl, rfl⟩ := bs
     have aA : e.plain = false := by simpa using aA
     obtain ⟨Sn, hj, c_, cY, df, ea, gU, i9, rY, PK, PL⟩ := h.take he aA
     rw [aY] at aR
     obtain ⟨axl, bq, bo, bR, cJ⟩ := aR e he aA
     rw [ea] at bo
     simp only [Option.some.injEq, Prod.mk.injEq, true_and] at bo
     obtain ⟨rfl, rfl⟩ := bo
     have Eb : e.tree = true := by cases e <;> first | rfl | (simp [I.plain] at aA)
     refine ⟨_, df, Eb, cJ, hj, by rw [bR]; exact gU, fun b ad => h.fc x b (i9 b ad), fun b ad => h.gr x b (i9 b ad), ?_, fun b ad => h.ek x b (i9 b ad), ?_, fun b ad => ⟨x, i9 b ad⟩, PL⟩
     ·intro u b ad hu
      simp only [gy] at hu
      split at hu
      ·exact PK b ad hu
      ·rename_i zJ; exact h.gi u x b zJ hu (i9 b ad)
     ·intro u b hu
      simp only [gy] at hu
      split at hu
      ·rename_i e; subst e; exact rY b hu
      ·exact hu
   ·cases bs
 | aA x q => simp [c2] at bs
 | ad x q => simp [c2] at bs
 | fn f c => simp [c2] at bs
 | hole => simp [c2] at bs
 | ar sz xs => simp [I.plain] at n5
 | bd d => simp [I.plain] at n5
 | _ =>
   simp only [c2, Option.some.injEq, Prod.mk.injEq] at bs
   obtain ⟨rfl, rfl⟩ := bs
   obtain ⟨cy, t1, t2, t3, Sn, t4, t5, t6, t7, t8, t9, t10⟩ := tree _ rfl n5 aR
   exact ⟨cy, t1, t2, t3, Sn, t4, t5, t6, t7, t8, t9, t10, fun _ _ _ h => h⟩
def loc (s : ax) : I → Option (Nat × List Nat)
 | .h x q => match I.sub q (s x) with
   | some (.bd _) => some (x, q ++ [0])
   | _ => none
 | .aA x q => if I.fL q (s x) then some (x, q) else none
 | _ => none
theorem zK : ∀ (q : List Nat) (av d : I) (r : List Nat), I.sub q av = some d → I.sub (q ++ r) av = I.sub r d := by
 intro q
 induction q with
 | nil => intro av d r h; simp [I.sub] at h; subst h; rfl
 | cons k q ih =>
   intro av d r h
   cases av with
   | agg aC =>
     simp only [I.sub, List.cons_append] at h ⊢
     split at h
     ·rename_i x aq; exact ih _ _ _ h
     ·cases h
   | tuple aC =>
     simp only [I.sub, List.cons_append] at h ⊢
     split at h
     ·rename_i x aq; exact ih _ _ _ h
     ·cases h
   | ar sz aC =>
     simp only [I.sub, List.cons_append] at h ⊢
     split at h
     ·rename_i x aq; exact ih _ _ _ h
     ·cases h
   | bd x =>
     cases k with
     | zero => simp only [I.sub, List.cons_append] at h ⊢; exact ih _ _ _ h
     | succ k => simp [I.sub] at h
   | _ => simp [I.sub] at h
theorem PM : ∀ (q : List Nat) (av d : I) (r : List Nat), I.sub q av = some d → I.fL (q ++ r) av = (I.fL q av || I.fL r d) := by
 intro q
 induction q with
 | nil => intro av d r h; simp [I.sub] at h; subst h; simp [I.fL]
 | cons k q ih =>
   intro av d r h
   cases av with
   | agg aC =>
     simp only [I.sub] at h
     split at h
     ·rename_i x aq
      simp only [I.fL, List.cons_append, aq]
      exact ih _ _ r h
     ·cases h
   | tuple aC =>
     simp only [I.sub] at h
     split at h
     ·rename_i x aq
      simp only [I.fL, List.cons_append, aq]
      exact ih _ _ r h
     ·cases h
   | ar sz aC => simp [I.fL]
   | bd x => simp [I.fL]
   | _ => simp [I.sub] at h
theorem zL (w : World) : ∀ (q : List Nat) (av d : I) (cs c_ : List Value) (a cY : Option (Nat × Nat)) (r : List Nat), dy w q av cs a = some (d, c_, cY) → dy w (q ++ r) av cs a = dy w r d c_ cY := by
 intro q
 induction q with
 | nil => intro av d cs c_ a cY r h; simp [dy] at h; obtain ⟨rfl, rfl, rfl⟩ := h; rfl
 | cons k q ih =>
   intro av d cs c_ a cY r h
   cases av with
   | agg aC =>
     rw [List.cons_append]
     rw [dy] at h ⊢
     split at h
     ·rename_i x aq; exact ih _ _ _ _ _ _ _ h
     ·cases h
   | tuple aC =>
     rw [List.cons_append]
     rw [dy] at h ⊢
     split at h
     ·rename_i x aq; exact ih _ _ _ _ _ _ _ h
     ·cases h
   | ar sz aC =>
     rw [List.cons_append]
     rw [dy.eq_def] at h ⊢
     simp only at h ⊢
     split at h
     ·exact ih _ _ _ _ _ _ _ h
     ·cases h
   | bd x =>
     cases k with
     | zero =>
       rw [List.cons_append]
       rw [dy.eq_def] at h ⊢
       simp only at h ⊢
       split at h
       ·exact ih _ _ _ _ _ _ _ h
       ·cases h
     | succ k => rw [show dy w ((k + 1) :: q) (.bd x) cs a = none from rfl] at h; cases h
   | _ => simp [dy] at h
end
def g_.ok (x : g_) : Bool := match x.k with
 | .other => false
 | _ => true
theorem cw.Ok.info {C : cw} (bI : C.Ok) {t : TypeId} (h : (C.T t).ok = true) :
  ∃ i d z, C.P.info? t = some i ∧ i.size = (C.T t).sz ∧ i.bytes = (C.T t).bytes ∧ i.zero = some z ∧ (∀ cs, flat (C.T t).zero = some cs → z.cells = cs.toArray) ∧ C.P.underlying t = some d ∧ lq (C.T t).k d := by
 rcases bI.ty t with ⟨e, n, b, z, aq, _⟩ | bM
 ·rw [aq] at h; simp [g_.ok] at h
 ·exact bM
theorem ha {x : g_} {k : nw} (h : x.k = k) (aD : k ≠ .other) : x.ok = true := by
 unfold g_.ok; rw [h]; cases k <;> first | rfl | exact (aD rfl).elim
theorem Ec {d : TypeDesc} {aC : List (TypeId × Nat)} (h : lq (.struct aC) d) : ∃ gs, d = .struct gs ∧ gs.toList.map (fun g => (g.type, g.offset)) = aC := by
 cases d <;> simp [lq] at h
 exact ⟨_, rfl, h⟩
theorem k4 {d : TypeDesc} {e : TypeId} (h : lq (.slice e) d) : d = .slice e := by
 cases d <;> simp [lq] at h
 rw [h]
theorem zM {d : TypeDesc} {k : IntKind} (h : lq (.int k) d) : d = .int k := by
 cases d <;> simp [lq] at h
 rw [h]
theorem qL {d : TypeDesc} (h : lq .str d) : d = .string := by
 cases d <;> simp [lq] at h
 rfl
theorem H8 {d : TypeDesc} (h : lq .bool d) : d = .bool := by
 cases d <;> simp [lq] at h
 rfl
theorem H9 {d : TypeDesc} {e : TypeId} (h : lq (.ptr e) d) : d = .pointer e := by
 cases d <;> simp [lq] at h
 rw [h]
theorem iI {v : Value} (h : Value.g5 v = true) : c1 v = [v] := by
 cases v <;> first | rfl | (simp [Value.g5] at h)
theorem rZ {P : Program} {t : TypeId} {i : TypeInfo} (h : P.info? t = some i) (w : World) : (typeInfo t).run P w = .ok i w := by simp [typeInfo, h]
theorem j0 {P : Program} {t : TypeId} {i : TypeInfo} (h : P.info? t = some i) (w : World) : (Go.sizeOf t).run P w = .ok i.size w := by simp [Go.sizeOf, rZ h]
theorem tU {P : Program} {t : TypeId} {i : TypeInfo} {z : Value} (h : P.info? t = some i) (bY : i.zero = some z) (w : World) : (zeroValue t).run P w = .ok z w := by simp [zeroValue, rZ h, bY]
section
variable {C : cw} {w0 w : World} {F0 X F : Nat → Prop} {S : Nat → Nat → Prop} {s s1 : ax} {aF : Nat → Value} {av : I}
def Good (C : cw) (w0 : World) (F0 X : Nat → Prop) (aF : Nat → Value) (w : World) (m : Sem Value) (av : I) (s1 : ax) : Prop :=
 ∃ v aP b9 a7, m.run C.P w = .ok v aP ∧ bZ w0 F0 X b9 a7 s1 aF aP ∧ k3 w0 X b9 a7 s1 aF aP av v
theorem Good.same (h : bZ w0 F0 X F S s aF w) {m : Sem Value} {v : Value} (bb : m.run C.P w = .ok v w) (aA : av.plain = true) (aR : aY w F s aF av v (fun _ => False)) : Good C w0 F0 X aF w m av s :=
 ⟨v, w, F, S, bb, h, .inl ⟨aA, aR⟩⟩
theorem Ed (_h : bZ w0 F0 X F S s aF w) {x : I} {v : Value} (aR : aY w F s aF x v (fun _ => False)) {y : Nat} {q : List Nat} (hl : loc s x = some (y, q)) {d : I} (ak : I.sub q (s y) = some d) :
  I.fL q (s y) = true ∧ ∃ c_ b o, v = .pointer (some ⟨b, o, none⟩) ∧ dy w q (s y) (c1 (aF y)) none = some (d, c_, some (b, o)) := by
 cases x with
 | h z zN =>
   simp only [loc] at hl
   split at hl
   ·rename_i e he
    simp only [Option.some.injEq, Prod.mk.injEq] at hl
    obtain ⟨rfl, rfl⟩ := hl
    rw [aY] at aR
    obtain ⟨c_, a, bo, bR, cJ⟩ := aR _ he rfl
    have gR : e = d := by
     rw [zK _ _ _ _ he] at ak
     simpa [I.sub] using ak
    subst gR
    refine ⟨by rw [PM _ _ _ _ he]; simp [I.fL], ?_⟩
    have af : Value.g5 v = true := cJ
    rw [iI af] at bR
    subst bR
    have k1 := zL w zN (s z) _ _ _ none a [0] bo
    have aq := _h.ee z
    rw [aY.c9 (iz he (.inl rfl))] at aq
    obtain ⟨gq, cY, e4, hj, k0, cf, cB, fD, eQ, gA⟩ := ctx zN (s z) (c1 (aF z)) (S z) none _ aq.2 he
    rw [k0] at bo
    simp only [Option.some.injEq, Prod.mk.injEq, true_and] at bo
    obtain ⟨rfl, rfl⟩ := bo
    rw [aB] at eQ
    obtain ⟨b, cur, bh, fr, et, a8, _⟩ := eQ
    simp only [List.cons.injEq, and_true] at a8
    subst a8
    exact ⟨_, b, 0, rfl, by rw [k1]; rfl⟩
   ·cases hl
 | aA z zN =>
   simp only [loc] at hl
   split at hl
   ·rename_i ay
    simp only [Option.some.injEq, Prod.mk.injEq] at hl
    obtain ⟨rfl, rfl⟩ := hl
    rw [aY] at aR
    obtain ⟨c_, b, o, bo, bR⟩ := aR _ ak ay
    exact ⟨ay, c_, b, o, bR, bo⟩
   ·cases hl
 | _ => simp [loc] at hl
def aW (C : cw) (s : ax) (T : TypeId) (x : I) (k : Nat) : Option I :=
 match (C.T T).k with
 | .struct aC => match aC[k]? with
   | some (qM, off) => if (C.T qM).ok = true ∧ (C.T qM).sz ≠ 0 then
     match x with
     | .ref (.agg ds) => match ds[k]? with
       | some d => if I.eD (ds.take k) = off then some (.ref d) else none
       | none => none
     | .ad y o => if (s y).plain then none else some (.ad y (o + off))
     | x => match loc s x with
       | some (y, q) => match I.sub q (s y) with
         | some (.agg ds) => if k < ds.length ∧ I.eD (ds.take k) = off then some (.aA y (q ++ [k])) else none
         | _ => none
       | none => none
     else none
   | none => none
 | _ => none
theorem Rd.Ee {w : World} {b o : Nat} {cH gp cI : List Value} (h : Rd w b o (cH ++ (gp ++ cI))) : Rd w b (o + cH.length) gp := by
 intro j c b_
 have fi : j < gp.length := (List.getElem?_eq_some_iff.1 b_).1
 have := h (cH.length + j) c (by rw [List.getElem?_append_right (by omega), List.getElem?_append_left (by omega), ← b_]; congr 1; omega)
 rw [Nat.add_assoc]; exact this
theorem Ef (bI : C.Ok) {T qM : TypeId} {aC : List (TypeId × Nat)} {k off : Nat} (aD : (C.T T).k = .struct aC) (bJ : aC[k]? = some (qM, off)) (af : (C.T qM).ok = true) (ai : (C.T qM).sz ≠ 0) (b o : Nat) (w : World) :
  (Instr.fieldAt T (.pointer (some ⟨b, o, none⟩)) k).run C.P w = .ok (.pointer (some ⟨b, o + off, none⟩)) w := by
 obtain ⟨i, d, z, a1, bh, a8, c6, da, cv, cr⟩ := bI.info (ha aD (by simp))
 rw [aD] at cr
 obtain ⟨gs, rfl, iB⟩ := Ec cr
 obtain ⟨tV, bL, qN, f1, f2, f3, f4, f5, f6, f7⟩ := bI.info af
 have cg : ∃ g, gs[k]? = some g ∧ g.type = qM ∧ g.offset = off := by
  rw [← iB, List.getElem?_map] at bJ
  simp only [Option.map_eq_some_iff, Prod.mk.injEq] at bJ
  obtain ⟨g, af, ai, aN⟩ := bJ
  exact ⟨g, by simpa using af, ai, aN⟩
 obtain ⟨g, bo, rfl, rfl⟩ := cg
 simp [Instr.fieldAt, run_underlying cv, bo, Instr.sureAddr, fieldPlace, j0 f1, f2, ai, Addr.add_lit]
theorem PN (bI : C.Ok) (h : bZ w0 F0 X F S s aF w) {T : TypeId} {x : I} {v : Value} {k : Nat} (aq : x.plain = true) (aR : aY w F s aF x v (fun _ => False)) (he : aW C s T x k = some av) :
  Good C w0 F0 X aF w (Instr.fieldAt T v k) av s := by
 unfold aW at he
 split at he
 ·rename_i aC aD
  split at he
  ·rename_i qM off bJ
   split at he
   ·rename_i tW
    split at he
    ·rename_i ds
     split at he
     ·rename_i d ak
      split at he
      ·rename_i zO
       simp only [Option.some.injEq] at he; subst he
       have lL := (aY.c9 rfl).1 aR
       rw [aB] at lL
       obtain ⟨ah, b, o, eH, af, ai, aN, bk⟩ := lL
       rw [iI ah] at af
       simp only [List.cons.injEq, and_true] at af; subst af
       rw [aB] at bk
       obtain ⟨cH, gp, cI, cy, kf, rfl, h8, gT, hs, h9, hk, ma⟩ := bm.pick ds _ _ k d bk ak
       refine Good.same h (Ef bI aD bJ tW.1 tW.2 b o w) rfl ((aY.c9 rfl).2 ⟨rfl, ?_⟩)
       rw [aB]
       refine ⟨b, o + off, gp, rfl, ai, ?_, aB.mono (fun _ h => h) _ _ _ _ (fun b ad => hs b ad) hk⟩
       rw [← zO, ← h8]; exact aN.Ee
      ·cases he
     ·cases he
    ·rename_i y o
     split at he
     ·cases he
     ·rename_i aA
      simp only [Option.some.injEq] at he; subst he
      rw [aY] at aR
      obtain ⟨b, cur, e, fr, rfl, ai, aN, bk⟩ := aR (by simpa using aA)
      refine Good.same h (Ef bI aD bJ tW.1 tW.2 b o w) rfl ?_
      rw [aY]
      exact fun _ => ⟨b, cur, e, fr, rfl, ai, aN, bk⟩
    ·rename_i x _ _
     split at he
     ·rename_i y q hl
      split at he
      ·rename_i ds ak
       split at he
       ·rename_i zO
        simp only [Option.some.injEq] at he; subst he
        obtain ⟨ay, c_, b, o, rfl, k1⟩ := Ed h aR hl ak
        refine Good.same h (Ef bI aD bJ tW.1 tW.2 b o w) rfl ?_
        rw [aY]
        intro d2 jC me
        rw [zL w q _ _ _ _ _ _ [k] k1]
        rw [zK _ _ _ _ ak] at jC
        have r0 : ∃ d3, ds[k]? = some d3 := ⟨_, List.getElem?_eq_getElem zO.1⟩
        obtain ⟨d3, wG⟩ := r0
        simp only [I.sub, wG, Option.some.injEq] at jC
        subst jC
        simp only [dy, wG]
        refine ⟨(c_.drop off).take d3.wd, b, o + off, ?_, rfl⟩
        rw [zO.2]; rfl
       ·cases he
      ·cases he
     ·cases he
   ·cases he
  ·cases he
 ·cases he
def bP (C : cw) (s : ax) (T : TypeId) (x i : I) : Option I :=
 match (C.T T).k, i with
 | .slice e, .int _ n => if 0 ≤ n ∧ (C.T e).ok = true then
   match x with
   | .slice xs => match xs[n.toNat]? with
     | some d => if d.wd = (C.T e).sz then some (.ref d) else none
     | none => none
   | .h y q => match I.sub q (s y) with
     | some (.ar sz xs) => if n.toNat < xs.length ∧ sz = (C.T e).sz then some (.aA y (q ++ [n.toNat])) else none
     | _ => none
   | _ => none
   else none
 | _, _ => none
theorem H_ (bI : C.Ok) {T e : TypeId} (aD : (C.T T).k = .slice e) (he : (C.T e).ok = true) (b o len cap : Nat) (k : IntKind) (n : Nat) (bl : n < len) (w : World) :
  (Instr.indexAt T (.slice (some ⟨b, o, none⟩) len cap) (.int k n)).run C.P w = .ok (.pointer (some ⟨b, o + n * (C.T e).sz, none⟩)) w := by
 obtain ⟨i, d, z, a1, bh, a8, c6, da, cv, cr⟩ := bI.info (ha aD (by simp))
 rw [aD] at cr
 have := k4 cr; subst this
 obtain ⟨tV, bL, qN, f1, f2, f3, f4, f5, f6, f7⟩ := bI.info he
 simp [Instr.indexAt, run_underlying cv, asIntOf, bl, j0 f1, f2, Addr.add_lit]
theorem PO (bI : C.Ok) (h : bZ w0 F0 X F S s aF w) {T : TypeId} {x i : I} {v tX : Value} (aR : aY w F s aF x v (fun _ => False)) (PQ : aY w F s aF i tX (fun _ => False))
  (he : bP C s T x i = some av) : Good C w0 F0 X aF w (Instr.indexAt T v tX) av s := by
 unfold bP at he
 split at he
 ·rename_i e k n aD
  have Eg := (aY.c9 rfl).1 PQ
  rw [aB, iI Eg.1] at Eg
  have : tX = .int k n := by simpa using Eg.2
  subst this
  split at he
  ·rename_i bl
   obtain ⟨n, rfl⟩ := Int.eq_ofNat_of_zero_le bl.1
   simp only [Int.toNat_natCast] at he
   split at he
   ·rename_i xs
    split at he
    ·rename_i d ak
     split at he
     ·rename_i hw
      simp only [Option.some.injEq] at he; subst he
      have lL := (aY.c9 rfl).1 aR
      rw [aB, iI lL.1] at lL
      obtain ⟨ah, ⟨rfl, _⟩ | ⟨b, o, cap, eH, sz, af, ai, aN, bk, cc, cF, ct⟩⟩ := lL
      ·simp at ak
      ·simp only [List.cons.injEq, and_true] at af; subst af
       have fi : n < xs.length := (List.getElem?_eq_some_iff.1 ak).1
       obtain ⟨cH, gp, cI, cy, kf, rfl, h8, gT, hs, h9, hk, ma⟩ := bm.pick xs _ _ n d ct ak
       refine Good.same h (H_ bI aD bl.2 b o _ _ k n fi w) rfl ((aY.c9 rfl).2 ⟨rfl, ?_⟩)
       rw [aB]
       refine ⟨b, _, gp, rfl, ai, ?_, aB.mono (fun _ h => h) _ _ _ _ (fun b ad => hs b ad) hk⟩
       have PR := cc d (List.mem_of_getElem? ak)
       have : n * (C.T e).sz = cH.length := by
        rw [h8, rT _ (fun d ak => cc d (List.mem_of_mem_take ak)), List.length_take, Nat.min_eq_left (by omega), ← hw, PR]
       rw [this]; exact cF.Ee
     ·cases he
    ·cases he
   ·rename_i y q
    split at he
    ·rename_i sz xs ak
     split at he
     ·rename_i hw
      simp only [Option.some.injEq] at he; subst he
      rw [aY] at aR
      obtain ⟨c_, a, bo, bR, cJ⟩ := aR _ ak rfl
      have ah : Value.g5 v = true := cJ
      rw [iI ah] at bR; subst bR
      have aq := h.ee y
      rw [aY.c9 (iz ak (.inl rfl))] at aq
      obtain ⟨gq, cY, e4, hj, k0, cf, cB, fD, eQ, gA⟩ := ctx q (s y) (c1 (aF y)) (S y) none _ aq.2 ak
      rw [k0] at bo
      simp only [Option.some.injEq, Prod.mk.injEq, true_and] at bo
      obtain ⟨rfl, rfl⟩ := bo
      rw [aB] at eQ
      rcases eQ with ⟨rfl, _⟩ | ⟨b, cap, cur, bh, fr, et, a8, _⟩
      ·simp at hw
      ·simp only [List.cons.injEq, and_true] at a8; subst a8
       refine Good.same h (H_ bI aD bl.2 b 0 _ _ k n hw.1 w) rfl ?_
       rw [aY]
       intro d2 jC _
       rw [zL w q _ _ _ _ _ _ [n] k0]
       rw [zK _ _ _ _ ak] at jC
       obtain ⟨d3, wG⟩ : ∃ d3, xs[n]? = some d3 := ⟨_, List.getElem?_eq_getElem hw.1⟩
       simp only [I.sub, wG, Option.some.injEq] at jC
       subst jC
       simp only [dy, wG]
       exact ⟨_, b, n * sz, rfl, by simp [hw.2]⟩
     ·cases he
    ·cases he
   ·cases he
  ·cases he
 ·cases he
end
section
variable {C : cw} {w0 w : World} {F0 X F : Nat → Prop} {S : Nat → Nat → Prop} {s s1 : ax} {aF : Nat → Value} {av : I}
theorem PS (bI : C.Ok) {T : TypeId} {aC : List (TypeId × Nat)} (aD : (C.T T).k = .struct aC) (w : World) : (isAgg T).run C.P w = .ok true w := by
 obtain ⟨i, d, z, a1, bh, a8, c6, da, cv, cr⟩ := bI.info (ha aD (by simp))
 rw [aD] at cr
 obtain ⟨gs, rfl, _⟩ := Ec cr
 simp [isAgg, run_underlying cv]
def g_.flat (x : g_) : Bool := match x.k with
 | .other => false
 | .struct _ => false
 | _ => true
theorem Ia {x : g_} (h : x.flat = true) : x.ok = true := by
 unfold g_.flat at h; unfold g_.ok; revert h; cases x.k <;> simp
theorem PT (bI : C.Ok) {T : TypeId} (aD : (C.T T).flat = true) (w : World) : (isAgg T).run C.P w = .ok false w := by
 obtain ⟨i, d, z, a1, bh, a8, c6, da, cv, cr⟩ := bI.info (Ia aD)
 have dB : (∀ aC, d ≠ .struct aC) ∧ (∀ n e, d ≠ .array n e) := by
  clear cv
  unfold g_.flat at aD
  generalize (C.T T).k = lM at *
  cases lM <;> cases d <;> simp [lq] at cr aD ⊢
 cases d <;> first | exact (dB.1 _ rfl).elim | exact (dB.2 _ _ rfl).elim | simp [isAgg, run_underlying cv]
theorem Rd.one {w : World} {b o : Nat} {v : Value} (h : Rd w b o [v]) : w.cell? ⟨b, o, none⟩ = some v := by simpa using h 0 v rfl
theorem Ib {P : Program} {b o : Nat} : ∀ (cs : List Value) (i : Nat) (acc : Array Value), Rd w b (o + i) cs → (loadCellsFrom ⟨b, o, none⟩ i cs.length acc).run P w = .ok (acc ++ cs.toArray) w
 | [], i, acc, _ => by simp [loadCellsFrom]
 | c :: cs, i, acc, h => by
   have bc : w.cell? ⟨b, o + i, none⟩ = some c := by simpa using h 0 c rfl
   have af : Rd w b (o + (i + 1)) cs := by
    intro j x b_
    have := h (j + 1) x (by simpa using b_)
    rw [← this]; congr 2; omega
   have ih := Ib (P := P) cs (i + 1) (acc.push c) af
   simp only [List.length_cons, loadCellsFrom, Sem.run_bind, Go.load, Sem.run, Addr.add_lit, bc, Result.andThen]
   rw [ih]; simp
theorem PU (bI : C.Ok) {T : TypeId} {aC : List (TypeId × Nat)} (aD : (C.T T).k = .struct aC) {b o : Nat} {cs : List Value} (h : Rd w b o cs) (hl : cs.length = (C.T T).sz) :
  (loadVar T ⟨b, o, none⟩).run C.P w = .ok (.agg cs.toArray) w := by
 obtain ⟨i, d, z, a1, bh, a8, c6, da, cv, cr⟩ := bI.info (ha aD (by simp))
 have := Ib (P := C.P) (b := b) (o := o) cs 0 #[] (by simpa using h)
 simp only [loadVar, Sem.run_bind, PS bI aD, Result.andThen, if_true, j0 a1, bh, ← hl, loadCells, this]
 simp
theorem Ic (bI : C.Ok) {T : TypeId} (aD : (C.T T).flat = true) {b o : Nat} {v : Value} (h : Rd w b o [v]) :
  (loadVar T ⟨b, o, none⟩).run C.P w = .ok v w := by
 simp [loadVar, PT bI aD, Go.load, Sem.run, h.one]
def fits (C : cw) (T : TypeId) (d : I) : Bool := match (C.T T).k, d with
    | .struct _, .agg ds => I.eD ds == (C.T T).sz
    | .struct _, _ => false
    | _, .agg _ => false
    | _, .tuple _ => false
    | _, _ => (C.T T).flat
def zP : List I → Nat → Nat → Option Nat
 | [], _, _ => none
 | d :: ds, i, k => if k = 0 then some i else if d.wd ≤ k then zP ds (i + 1) (k - d.wd) else none
def aE (C : cw) (s : ax) (T : TypeId) (x : I) : Option I :=
 match x with
 | .ref d => if fits C T d = true then some d else none
 | .ad y k => match s y with
   | .agg ds => if I.dO ds then none else match zP ds 0 k with
     | some i => match ds[i]? with
       | some d => if I.eD (ds.take i) = k ∧ fits C T d = true then some (if d.plain then d else .h y [i]) else none
       | none => none
     | none => none
   | _ => none
 | x => match loc s x with
   | some (y, q) => match I.sub q (s y) with
     | some d => if fits C T d = true then some (if d.plain then d else .h y q) else none
     | none => none
   | none => none
theorem aB.one {F : Nat → Prop} {d : I} {cs : List Value} {S : Nat → Prop} (h : aB w F d cs S) (af : ∀ aC, d ≠ .agg aC) (ai : ∀ aC, d ≠ .tuple aC) : ∃ v, cs = [v] ∧ Value.g5 v = true := by
 cases d with
 | hole => rw [aB] at h; obtain ⟨v, h, rfl⟩ := h; exact ⟨v, rfl, h⟩
 | fo => rw [aB] at h; obtain ⟨v, rfl⟩ := h; exact ⟨_, rfl, rfl⟩
 | slice xs => rw [aB] at h; rcases h with ⟨_, a, c, rfl, _⟩ | ⟨b, o, cap, eH, sz, rfl, _⟩ <;> exact ⟨_, rfl, rfl⟩
 | ar sz xs => rw [aB] at h; rcases h with ⟨_, _, rfl⟩ | ⟨b, cap, cur, e, fr, ek, rfl, _⟩ <;> exact ⟨_, rfl, rfl⟩
 | ref d => rw [aB] at h; obtain ⟨b, o, eH, rfl, _⟩ := h; exact ⟨_, rfl, rfl⟩
 | bd d => rw [aB] at h; obtain ⟨b, cur, e, fr, ek, rfl, _⟩ := h; exact ⟨_, rfl, rfl⟩
 | agg aC => exact (af _ rfl).elim
 | tuple aC => exact (ai _ rfl).elim
 | fn _ _ => rw [aB] at h; exact h.elim
 | h _ _ => rw [aB] at h; exact h.elim
 | aA _ _ => rw [aB] at h; exact h.elim
 | ad _ _ => rw [aB] at h; exact h.elim
 | _ => rw [aB] at h; subst h; exact ⟨_, rfl, rfl⟩
theorem zQ (bI : C.Ok) {T : TypeId} {d : I} {b o : Nat} {cs : List Value} {S : Nat → Prop} (h : Rd w b o cs) (ak : aB w F d cs S)
  (j1 : fits C T d = true) :
  ∃ v, (loadVar T ⟨b, o, none⟩).run C.P w = .ok v w ∧ c1 v = cs ∧ eI d v := by
 unfold fits at j1
 by_cases ah : ∃ aC, (C.T T).k = .struct aC
 ·obtain ⟨aC, aD⟩ := ah
  rw [aD] at j1
  cases d with
  | agg ds =>
    simp only [beq_iff_eq] at j1
    refine ⟨_, PU bI aD h ((aB.length _ _ _ ak).trans j1), rfl, ⟨_, rfl⟩⟩
  | _ => simp at j1
 ·have lr : (C.T T).flat = true ∧ (∀ aC, d ≠ .agg aC) ∧ (∀ aC, d ≠ .tuple aC) := by
   revert j1 ah
   cases aD : (C.T T).k <;> cases d <;> simp
  obtain ⟨v, rfl, af⟩ := aB.one ak lr.2.1 lr.2.2
  refine ⟨v, Ic bI lr.1 h, iI af, ?_⟩
  cases d <;> first | exact af | exact (lr.2.1 _ rfl).elim | exact (lr.2.2 _ rfl).elim
theorem PV (bI : C.Ok) (h : bZ w0 F0 X F S s aF w) {T : TypeId} {x : I} {v : Value} (aR : aY w F s aF x v (fun _ => False)) (he : aE C s T x = some av) :
  Good C w0 F0 X aF w (Instr.loadAt T v) av s := by
 unfold aE at he
 split at he
 ·rename_i d
  split at he
  ·rename_i j1
   simp only [Option.some.injEq] at he; subst he
   have lL := (aY.c9 rfl).1 aR
   rw [aB, iI lL.1] at lL
   obtain ⟨ah, b, o, eH, af, ai, aN, bk⟩ := lL
   simp only [List.cons.injEq, and_true] at af; subst af
   obtain ⟨gH, bb, ay, o5⟩ := zQ bI aN bk j1
   have fj : (Instr.loadAt T (.pointer (some ⟨b, o, none⟩))).run C.P w = .ok gH w := by simp [Instr.loadAt, Instr.sureAddr, bb]
   refine ⟨gH, w, F, S, fj, h, ?_⟩
   by_cases bs : d.tree = true
   ·exact .inr ⟨bs, o5, fun _ => False, by rw [ay]; exact bk, fun _ h => h.elim, fun _ h => h.elim, fun _ _ h => h.elim, fun _ h => h.elim⟩
   ·cases d <;> first | exact (bs rfl).elim | (rw [aB] at bk; exact bk.elim) | exact .inl ⟨rfl, by rw [aY]; trivial⟩
  ·cases he
 ·rename_i y k
  split at he
  ·rename_i ds mS
   split at he
   ·cases he
   ·rename_i wH
    split at he
    ·rename_i i ao
     split at he
     ·rename_i d ak
      split at he
      ·rename_i j1
       simp only [Option.some.injEq] at he
       have gz : (s y).plain = false := by rw [mS]; simp only [I.plain]; simpa using wH
       rw [aY] at aR
       obtain ⟨b, cur, e, fr, rfl, ai, aN, bk⟩ := aR gz
       have bD := h.ee y
       rw [mS] at bD
       have Ie := ((aY.c9 rfl).1 bD).2
       rw [aB] at Ie
       obtain ⟨cH, gp, cI, cy, kf, hH, h8, gT, hs, h9, hk, ma⟩ := bm.pick ds _ _ i d Ie ak
       have jI : Rd w b k gp := by
        intro j c b_
        have fi : j < gp.length := (List.getElem?_eq_some_iff.1 b_).1
        have : cur.toList[k + j]? = some c := by
         rw [bk, hH, List.getElem?_append_right (by omega), List.getElem?_append_left (by omega), ← b_]; congr 1; omega
        simp [World.cell?, aN]
        simpa using this
       obtain ⟨gH, bb, ay, o5⟩ := zQ bI jI hk j1.2
       have fj : (Instr.loadAt T (.pointer (some ⟨b, k, none⟩))).run C.P w = .ok gH w := by simp [Instr.loadAt, Instr.sureAddr, bb]
       refine ⟨gH, w, F, S, fj, h, ?_⟩
       split at he
       ·rename_i aA
        subst he
        by_cases bs : d.tree = true
        ·exact .inl ⟨aA, (aY.c9 bs).2 ⟨o5, by rw [ay]; exact aB.plain _ _ _ _ aA hk⟩⟩
        ·cases d <;> first | exact (bs rfl).elim | (rw [aB] at hk; exact hk.elim) | exact .inl ⟨rfl, by rw [aY]; trivial⟩
       ·subst he
        refine .inl ⟨rfl, ?_⟩
        rw [aY]
        intro d2 jC _
        rw [mS] at jC ⊢
        simp only [I.sub, ak, Option.some.injEq] at jC
        subst jC
        refine ⟨gp, none, ?_, ay, o5⟩
        simp only [dy, ak]
        rw [hH, tP cH gp cI _ _ h8 (aB.length _ _ _ hk)]
        rfl
      ·cases he
     ·cases he
    ·cases he
  ·cases he
 ·rename_i x _ _
  split at he
  ·rename_i y q hl
   split at he
   ·rename_i d ak
    split at he
    ·rename_i j1
     simp only [Option.some.injEq] at he
     obtain ⟨n7, c_, b, o, rfl, k1⟩ := Ed h aR hl ak
     have bD := h.ee y
     rw [aY.c9 (iz ak (.inr n7))] at bD
     obtain ⟨gq, cY, e4, hj, k0, cf, cB, fD, eQ, gA⟩ := ctx q (s y) (c1 (aF y)) (S y) none _ bD.2 ak
     rw [k0] at k1
     simp only [Option.some.injEq, Prod.mk.injEq, true_and] at k1
     obtain ⟨rfl, rfl⟩ := k1
     have jI : Rd w b o gq := by
      rcases gA with ⟨l, r, a1, bh, _⟩ | ⟨fV, cur, e, fr, l, r, a1, bh, a8, c6, da, _⟩
      ·simp at bh
      ·simp only [Option.some.injEq, Prod.mk.injEq] at a1
       obtain ⟨rfl, rfl⟩ := a1
       intro j c b_
       have fi : j < gq.length := (List.getElem?_eq_some_iff.1 b_).1
       have : cur.toList[l.length + j]? = some c := by
        rw [da, List.getElem?_append_right (by omega), List.getElem?_append_left (by omega), ← b_]; congr 1; omega
       simp [World.cell?, a8]
       simpa using this
     obtain ⟨gH, bb, ay, o5⟩ := zQ bI jI eQ j1
     have fj : (Instr.loadAt T (.pointer (some ⟨b, o, none⟩))).run C.P w = .ok gH w := by simp [Instr.loadAt, Instr.sureAddr, bb]
     refine ⟨gH, w, F, S, fj, h, ?_⟩
     split at he
     ·rename_i aA
      subst he
      by_cases bs : d.tree = true
      ·exact .inl ⟨aA, (aY.c9 bs).2 ⟨o5, by rw [ay]; exact aB.plain _ _ _ _ aA eQ⟩⟩
      ·cases d <;> first | exact (bs rfl).elim | (rw [aB] at eQ; exact eQ.elim) | exact .inl ⟨rfl, by rw [aY]; trivial⟩
     ·subst he
      refine .inl ⟨rfl, ?_⟩
      rw [aY]
      intro d2 jC _
      rw [ak] at jC
      simp only [Option.some.injEq] at jC
      subst jC
      exact ⟨_, _, k0, ay, o5⟩
    ·cases he
   ·cases he
  ·cases he
mutual
theorem aB.r1 {F : Nat → Prop} : ∀ (d : I) (cs : List Value) (S : Nat → Prop), aB w F d cs S → ∀ c ∈ cs, Value.g5 c = true
 | .hole, cs, S, h => by rw [aB] at h; obtain ⟨v, h, rfl⟩ := h; simpa using h
 | .bool _, cs, S, h => by rw [aB] at h; subst h; simp [Value.g5]
 | .fo, cs, S, h => by rw [aB] at h; obtain ⟨b, rfl⟩ := h; simp [Value.g5]
 | .int _ _, cs, S, h => by rw [aB] at h; subst h; simp [Value.g5]
 | .str _, cs, S, h => by rw [aB] at h; subst h; simp [Value.g5]
 | .dI, cs, S, h => by rw [aB] at h; subst h; simp [Value.g5]
 | .bu, cs, S, h => by rw [aB] at h; subst h; simp [Value.g5]
 | .slice xs, cs, S, h => by
   rw [aB] at h
   rcases h with ⟨_, a, c, rfl, _⟩ | ⟨b, o, cap, eH, sz, rfl, _⟩ <;> simp [Value.g5]
 | .ar sz xs, cs, S, h => by
   rw [aB] at h
   rcases h with ⟨_, _, rfl⟩ | ⟨b, cap, cur, e, fr, a7, rfl, _⟩ <;> simp [Value.g5]
 | .ref d, cs, S, h => by rw [aB] at h; obtain ⟨b, o, eH, rfl, _⟩ := h; simp [Value.g5]
 | .bd d, cs, S, h => by rw [aB] at h; obtain ⟨b, o, eH, _, _, rfl, _⟩ := h; simp [Value.g5]
 | .agg aC, cs, S, h => by rw [aB] at h; exact bm.r1 aC _ _ h
 | .tuple aC, cs, S, h => by rw [aB] at h; exact bm.r1 aC _ _ h
 | .fn _ _, cs, S, h => by rw [aB] at h; exact h.elim
 | .h _ _, cs, S, h => by rw [aB] at h; exact h.elim
 | .aA _ _, cs, S, h => by rw [aB] at h; exact h.elim
 | .ad _ _, cs, S, h => by rw [aB] at h; exact h.elim
theorem bm.r1 {F : Nat → Prop} : ∀ (ds : List I) (cs : List Value) (S : Nat → Prop), bm w F ds cs S → ∀ c ∈ cs, Value.g5 c = true
 | [], cs, S, h => by rw [bm] at h; subst h; simp
 | d :: ds, cs, S, h => by
   rw [bm] at h
   obtain ⟨cH, cI, cy, et, rfl, ai, aN, _⟩ := h
   intro c ay
   rcases List.mem_append.1 ay with ay | ay
   ·exact aB.r1 d _ _ ai c ay
   ·exact bm.r1 ds _ _ aN c ay
end
theorem zR {P : Program} {b o : Nat} {e : TypeId} {fr : Nat × Nat} : ∀ (vs : List Value) (i : Nat) (cur : Array Value) (w : World) (l m r : List Value), w.heap[b]? = some (.cells cur e fr) → n3 fr cur.size →
  cur.toList = l ++ (m ++ r) → l.length = o + i → m.length = vs.length → (∀ v ∈ vs, Value.g5 v = true) →
  ∃ aP, (storeCells ⟨b, o, none⟩ vs i).run P w = .ok () aP ∧ aP.heap[b]? = some (.cells (l ++ (vs ++ r)).toArray e fr) ∧ (∀ c, c ≠ b → aP.heap[c]? = w.heap[c]?) ∧ aP.heap.size = w.heap.size ∧ aP.os = w.os ∧ aP.tape = w.tape ∧ aP.output = w.output
 | [], i, cur, w, l, m, r, ad, bJ, ay, hl, hm, _ => by
   refine ⟨w, rfl, ?_, fun _ _ => rfl, rfl, rfl, rfl, rfl⟩
   have : m = [] := by simpa using hm
   subst this
   rw [ad]
   have : cur = (l ++ ([] ++ r)).toArray := by rw [← ay]
   rw [← this]
 | v :: vs, i, cur, w, l, m, r, ad, bJ, ay, hl, hm, zS => by
   obtain ⟨x, m, rfl⟩ : ∃ x hY, m = x :: hY := by cases m with
    | nil => simp at hm
    | cons x m => exact ⟨x, m, rfl⟩
   have hlen : cur.size = (l ++ (x :: m ++ r)).length := by rw [← ay]; simp
   have fi : o + i < cur.size := by rw [hlen]; simp; omega
   have zT : w.cell? ⟨b, o + i, none⟩ = some cur[o + i] := by simp [World.cell?, ad, fi]
   have PW : w.frozen? ⟨b, o + i, none⟩ = false := by
    have := bJ (o + i) fi
    simp only [World.frozen?, ad]
    simp only [Bool.and_eq_false_iff, decide_eq_false_iff_not]
    by_cases af : fr.1 ≤ o + i
    ·right; exact fun ai => this ⟨af, ai⟩
    ·left; exact af
   have qO : (w.setCell ⟨b, o + i, none⟩ v).heap[b]? = some (.cells ((l ++ [v]) ++ (m ++ r)).toArray e fr) := by
    simp only [World.setCell, Array.getElem?_modify, if_true, ad, Option.map_some, Option.isSome_none, Bool.false_eq_true, if_false]
    congr 2
    apply Array.ext'
    rw [Array.toList_setIfInBounds, ay, ← hl, List.set_append_right _ _ (Nat.le_refl _)]
    simp
   have r2 : (store ((⟨b, o, none⟩ : Addr).add i) v).run P w = .ok () (w.setCell ⟨b, o + i, none⟩ v) := by
    have af := zS v (by simp)
    rw [Addr.add_lit]
    cases v <;> first | (simp [Value.g5] at af; done) | simp [Go.store, Sem.run, zT, PW]
   obtain ⟨aP, bo, bR, cJ, eE, fK, ib, iJ⟩ := zR (P := P) (b := b) (o := o) vs (i + 1) _ (w.setCell ⟨b, o + i, none⟩ v) (l ++ [v]) m r qO (by
    have : (l ++ [v] ++ (m ++ r)).toArray.size = cur.size := by rw [hlen]; simp
    rw [this]; exact bJ) (by simp) (by simp; omega) (by simpa using hm) (fun u hu => zS u (by simp [hu]))
   refine ⟨aP, ?_, by simpa using bR, fun c ay => ?_, ?_, fK, ib, iJ⟩
   ·simp only [storeCells, Sem.run_bind, r2, Result.andThen]; exact bo
   ·rw [cJ c ay]
    simp only [World.setCell, Array.getElem?_modify]
    rw [if_neg (fun e => ay e.symm)]
   ·rw [eE]; simp [World.setCell]
theorem zU {d : I} {v : Value} (h : eI d v) (ak : ∀ aC, d ≠ .tuple aC) : v.cells = (c1 v).toArray := by
 cases d with
 | tuple aC => exact (ak _ rfl).elim
 | agg aC => obtain ⟨arr, rfl⟩ := h; simp [Value.cells, c1, h_]
 | _ =>
   have af : Value.g5 v = true := h
   rw [iI af]
   cases v <;> first | rfl | (simp [Value.g5] at af)
def cK (C : cw) (s : ax) (T : TypeId) (x y : I) : Option ax :=
 match c2 s y, loc s x with
 | some (d, s1), some (z, q) => match d with
   | .tuple _ => none
   | d => match I.sub q (s z) with
     | some d0 => if d.wd = d0.wd ∧ d.wd = (C.T T).sz ∧ (C.T T).ok = true ∧ y.owner ≠ some z then some (dz (iH z s1) z (I.put q d (s z))) else none
     | none => none
 | _, _ => none
theorem PX {s s1 : ax} {y d : I} {z : Nat} (h : c2 s y = some (d, s1)) (bY : (s z).tree = true) (bD : y.owner ≠ some z) : s1 z = s z := by
 cases y with
 | h x q =>
   simp only [c2] at h
   split at h
   ·split at h
    ·cases h
    ·simp only [Option.some.injEq, Prod.mk.injEq] at h
     obtain ⟨_, rfl⟩ := h
     rw [jB _ _ (fun e => bD (by rw [I.owner, e]))]
     exact D5 bY
   ·cases h
 | aA x q => simp [c2] at h
 | ad x q => simp [c2] at h
 | fn f c => simp [c2] at h
 | hole => simp [c2] at h
 | _ => simp only [c2, Option.some.injEq, Prod.mk.injEq] at h; rw [h.2]
theorem PY (bI : C.Ok) (h : bZ w0 F0 X F S s aF w) {T : TypeId} {x y : I} {j2 jD : Value} (Eh : aY w F s aF x j2 (fun _ => False)) (bD : y.plain = true) (PZ : aY w F s aF y jD (fun _ => False))
  {s2 : ax} (he : cK C s T x y = some s2) :
  ∃ aP a7, (Instr.storeAt T j2 jD).run C.P w = .ok () aP ∧ bZ w0 F0 X F a7 s2 aF aP := by
 unfold cK at he
 split at he
 ·rename_i d s1 z q bs hl
  have key : ∀ d : I, (∀ aC, d ≠ .tuple aC) → c2 s y = some (d, s1) → (match I.sub q (s z) with
   | some d0 => if d.wd = d0.wd ∧ d.wd = (C.T T).sz ∧ (C.T T).ok = true ∧ y.owner ≠ some z then some (dz (iH z s1) z (I.put q d (s z))) else none
   | none => none) = some s2 → ∃ aP a7, (Instr.storeAt T j2 jD).run C.P w = .ok () aP ∧ bZ w0 F0 X F a7 s2 aF aP := by
   intro d pR bs he
   split at he
   ·rename_i d0 kE
    split at he
    ·rename_i r3
     obtain ⟨af, ai, aN, bk⟩ := r3
     simp only [Option.some.injEq] at he; subst he
     obtain ⟨n7, c_, b, o, rfl, k1⟩ := Ed h Eh hl kE
     obtain ⟨cy, hG, bo, bR, Sn, cJ, eE, fK, ib, iJ, lu⟩ := qK h bD PZ bs
     have eV : s1 z = s z := PX bs (iz kE (.inr n7)) bk
     rw [← eV] at kE n7 k1 ⊢
     obtain ⟨gq, fV, l, r, cur, e, fr, k0, cf, cB, fD, eQ⟩ := hG.store kE n7 cJ af eE fK ib iJ
     rw [k1] at k0
     simp only [Option.some.injEq, Prod.mk.injEq, true_and] at k0
     obtain ⟨rfl, rfl, rfl⟩ := k0
     obtain ⟨i, d, qN, a1, bh, a8, c6, da, cv, cr⟩ := bI.info aN
     have hlen := aB.length _ _ _ cJ
     have hm : c_.length = (c1 jD).length := by
      have Ig := hG.ee z
      rw [aY.c9 (iz kE (.inr n7))] at Ig
      obtain ⟨_, _, _, _, mR, _, _, _, mf, _⟩ := ctx q (s1 z) (c1 (aF z)) (cy z) none _ Ig.2 kE
      rw [k1] at mR
      simp only [Option.some.injEq, Prod.mk.injEq, true_and] at mR
      rw [mR.1, aB.length _ _ _ mf, hlen, af]
     obtain ⟨aP, fM, gN, hI, kF, mg, cC, n8⟩ := zR (P := C.P) (b := b) (o := l.length) (e := e) (fr := fr) (c1 jD) 0 cur w l c_ r cf fD cB rfl hm (aB.r1 _ _ _ cJ)
     obtain ⟨a7, gA⟩ := eQ aP gN hI kF mg cC n8
     refine ⟨aP, a7, ?_, gA⟩
     have pS := zU bR pR
     simp [Instr.storeAt, Instr.sureAddr, storeVar, j0 a1, bh, pS, hlen, ai, fM]
    ·cases he
   ·cases he
  split at he
  ·cases he
  ·rename_i pR
   exact key _ (fun aC e => pR aC e) bs he
 ·cases he
theorem bZ.alloc (h : bZ w0 F0 X F S s aF w) {d : I} {cs : List Value} {Sn : Nat → Prop} (e : TypeId) (aR : aB w F d cs Sn)
  (fi : ∀ b, Sn b → b < w.heap.size) (bH : ∀ b, Sn b → ¬ F b) (bS : ∀ u b, Sn b → ¬ S u b) (bc : ∀ b, Sn b → X b ∨ w0.heap.size ≤ b) :
  bZ w0 F0 X F S s aF (w.alloc (.cells cs.toArray e)) ∧
   k3 w0 X F S s aF (w.alloc (.cells cs.toArray e)) (.bd d) (.pointer (some ⟨w.heap.size, 0, none⟩)) := by
 have hold : ∀ b, b < w.heap.size → (w.alloc (.cells cs.toArray e)).heap[b]? = w.heap[b]? := by
  intro b ad
  show (w.heap.push _)[b]? = _
  rw [Array.getElem?_push, if_neg (by omega)]
 refine ⟨h.grow hold (by simp) rfl rfl rfl, .inr ⟨rfl, rfl, fun b => b = w.heap.size ∨ Sn b, ?_, ?_, ?_, ?_, ?_⟩⟩
 ·rw [aB]
  refine ⟨w.heap.size, cs.toArray, e, (0, 0), Sn, rfl, .inl rfl, ?_, ?_, ?_, fun c ay => .inr ay, fun ay => Nat.lt_irrefl _ (fi _ ay)⟩
  ·show (w.heap.push _)[_]? = _
   simp
  ·intro o _ ⟨_, ai⟩; exact absurd ai (Nat.not_lt_zero _)
  ·exact aB.frame (fun b ad => hold b (h.gh b ad)) _ _ _ (fun b ad => hold b (fi b ad)) aR
 ·rintro b (rfl | ad)
  ·simp
  ·have := fi b ad; simp; omega
 ·rintro b (rfl | ad) wI
  ·exact Nat.lt_irrefl _ (h.gh _ wI)
  ·exact bH b ad wI
 ·rintro u b (rfl | ad) hu
  ·exact Nat.lt_irrefl _ (h.fc _ _ hu)
  ·exact bS u b ad hu
 ·rintro b (rfl | ad)
  ·exact .inr h.size
  ·exact bc b ad
def eA (C : cw) (T : TypeId) : Option I := if (C.T T).ok = true then (match flat (C.T T).zero with | some _ => some (.bd (C.T T).zero) | none => none) else none
theorem P0 (bI : C.Ok) (h : bZ w0 F0 X F S s aF w) {T : TypeId} (he : eA C T = some av) : Good C w0 F0 X aF w (Instr.alloc T true (.tuple #[])) av s := by
 unfold eA at he
 split at he
 ·rename_i aD
  split at he
  ·rename_i cs hH
   simp only [Option.some.injEq] at he; subst he
   obtain ⟨i, d, z, a1, bh, a8, c6, da, cv, cr⟩ := bI.info aD
   have bY := da cs hH
   obtain ⟨df, ea⟩ := h.alloc (d := (C.T T).zero) T ((aB.flat _).1 _ cs (fun _ => False) (Nat.le_refl _) hH) (fun _ h => h.elim) (fun _ h => h.elim) (fun _ _ h => h.elim) (fun _ h => h.elim)
   refine ⟨_, _, F, S, ?_, df, ea⟩
   simp [Instr.alloc, tU a1 c6, newVar, newRow, newObj, Sem.run, bY]
  ·cases he
 ·cases he
def dd (s : ax) (x : I) : Option (I × ax) := match c2 s x with
 | some (.tuple _, _) => none
 | some (d, s1) => some (.bd d, s1)
 | none => none
def jJ (s : ax) (x : I) : Option (I × ax) := match x with
 | .h y q => match q, s y with
   | [], .agg ds => if I.dO ds then none else some (.ad y 0, s)
   | _, _ => none
 | _ => none
theorem P1 (h : bZ w0 F0 X F S s aF w) {T : TypeId} {x : I} {v : Value} (aR : aY w F s aF x v (fun _ => False)) (he : jJ s x = some (av, s1)) :
  Good C w0 F0 X aF w (Instr.box T v) av s1 := by
 unfold jJ at he
 split at he
 ·rename_i y q
  split at he
  ·rename_i ds mS
   split at he
   ·cases he
   ·rename_i wH
    simp only [Option.some.injEq, Prod.mk.injEq] at he
    obtain ⟨rfl, rfl⟩ := he
    rw [aY] at aR
    obtain ⟨c_, a, bo, bR, cJ⟩ := aR (s y) (by simp only [I.sub]) (by rw [mS]; simp only [I.plain]; simpa using wH)
    simp only [dy, Option.some.injEq, Prod.mk.injEq, true_and] at bo
    rw [mS] at cJ
    have pS := zU cJ (fun aC e => by cases e)
    have hold : ∀ b, b < w.heap.size → (w.alloc (.cells (c1 v).toArray T)).heap[b]? = w.heap[b]? := by
     intro b ad
     show (w.heap.push _)[b]? = _
     rw [Array.getElem?_push, if_neg (by omega)]
    refine ⟨.pointer (some ⟨w.heap.size, 0, none⟩), w.alloc (.cells (c1 v).toArray T), fun b => F b ∨ b = w.heap.size, S, by simp [Instr.box, newVar, newRow, newObj, Sem.run, pS], ?_, .inl ⟨rfl, ?_⟩⟩
    ·have af := h.grow hold (by simp) rfl rfl rfl
     exact {
      hv := fun b ad => .inl (af.hv b ad)
      hQ := fun b ad => by
       rcases ad with ad | rfl
       ·exact af.hQ b ad
       ·exact .inr (.inr h.size)
      gh := fun b ad => by
       rcases ad with ad | rfl
       ·exact af.gh b ad
       ·simp
      fc := af.fc
      gr := fun t b ad bJ => by
       rcases bJ with bJ | rfl
       ·exact af.gr t b ad bJ
       ·exact absurd (h.fc t _ ad) (Nat.lt_irrefl _)
      gi := af.gi
      ek := af.ek
      ee := fun t => aY.frame (fun _ _ => rfl) (fun b ad => .inl ad) (fun _ _ _ => rfl) af.ee _ _ _ (fun _ _ => rfl) (af.ee t)
      old := af.old
      size := af.size
      os := af.os
      tape := af.tape
      output := af.output }
    ·rw [aY]
     intro _
     refine ⟨w.heap.size, (c1 v).toArray, T, (0, 0), rfl, .inr rfl, ?_, ?_⟩
     ·show (w.heap.push _)[_]? = _
      simp
     ·rw [bo.1, ← bR]
  ·cases he
 ·cases he
theorem P2 (h : bZ w0 F0 X F S s aF w) {T : TypeId} {x : I} {v : Value} (aq : x.plain = true) (aR : aY w F s aF x v (fun _ => False)) (he : dd s x = some (av, s1)) :
  Good C w0 F0 X aF w (Instr.box T v) av s1 := by
 unfold dd at he
 split at he
 ·cases he
 ·rename_i d s2 pR bs
  simp only [Option.some.injEq, Prod.mk.injEq] at he
  obtain ⟨rfl, rfl⟩ := he
  obtain ⟨cy, hG, bo, bR, Sn, cJ, eE, fK, ib, iJ, lu⟩ := qK h aq aR bs
  obtain ⟨df, ea⟩ := hG.alloc T cJ eE fK ib iJ
  refine ⟨_, _, F, cy, ?_, df, ea⟩
  have pS := zU bR (fun aC e => pR aC e)
  simp [Instr.box, newVar, newRow, newObj, Sem.run, pS]
 ·cases he
end
end Go.c5
