/- Part of a proof that a law returns true for every input. No condition. -/
import Derived.Test.YtbemmmimelklkaaGreatFwB
import Derived.Laws.Entries
namespace Go.dk
inductive mT where
 | int (k : IntKind)
 | bool
 | str
 | ptr (e : TypeId)
 | slice (e : TypeId)
 | struct (az : List (TypeId × Nat))
 | fn
 | other
structure g8 where
 k : mT
 sz : Nat
 bytes : Nat
 zero : I
mutual
def flat : I → Option (List Value)
 | .bool b => some [.bool b]
 | .int k n => some [.int k n]
 | .str s => some [.string ⟨⟨s⟩⟩]
 | .dC => some [.pointer none]
 | .bc => some [.slice none 0 0]
 | .agg az => pb az
 | _ => none
def pb : List I → Option (List Value)
 | [] => some []
 | d :: ds => match flat d, pb ds with
   | some a, some b => some (a ++ b)
   | _, _ => none
end
theorem aB.flat {w : World} {F : Nat → Prop} : ∀ n, (∀ (d : I) (cs : List Value) (S : Nat → Prop), SizeOf.sizeOf d ≤ n → flat d = some cs → aB w F d cs S) ∧
  (∀ (ds : List I) (cs : List Value) (S : Nat → Prop), SizeOf.sizeOf ds ≤ n → pb ds = some cs → bm w F ds cs S) := by
 intro n
 induction n with
 | zero => exact ⟨fun d _ _ b7 => by cases d <;> simp at b7 <;> omega, fun ds _ _ b7 => by cases ds <;> simp at b7 <;> omega⟩
 | succ n ih =>
   refine ⟨fun d cs S b7 h => ?_, fun ds cs S b7 h => ?_⟩
   ·cases d with
    | agg az => rw [aB]; exact ih.2 az cs S (by simp at b7; omega) (by simpa [dk.flat] using h)
    | bool b => simp [dk.flat] at h; subst h; rw [aB]
    | int k n => simp [dk.flat] at h; subst h; rw [aB]
    | str s => simp [dk.flat] at h; subst h; rw [aB]
    | dC => simp [dk.flat] at h; subst h; rw [aB]
    | bc => simp [dk.flat] at h; subst h; rw [aB]
    | _ => simp [dk.flat] at h
   ·cases ds with
    | nil => simp [pb] at h; subst h; rw [bm]
    | cons d ds =>
      simp only [pb] at h
      split at h
      ·rename_i a b cw ae
       simp at h; subst h
       simp at b7
       rw [bm]
       exact ⟨a, b, fun _ => False, fun _ => False, rfl, ih.1 d a _ (by omega) cw, ih.2 ds b _ (by omega) ae, fun _ h => h.elim, fun _ h => h.elim, fun _ h => h.elim⟩
      ·cases h
def k4 : mT → TypeDesc → Prop
 | .int k, .int df => k = df
 | .bool, .bool => True
 | .str, .string => True
 | .ptr e, .pointer gE => e = gE
 | .slice e, .slice gE => e = gE
 | .struct az, .struct gs => gs.toList.map (fun g => (g.type, g.offset)) = az
 | .fn, .func _ _ _ => True
 | _, _ => False
def Gf (P : Program) (t : TypeId) (x : g8) : Prop :=
 (∃ e n b z, x = ⟨.other, e, n, b⟩ ∧ z = 0) ∨
 ∃ i d z, P.info? t = some i ∧ i.size = x.sz ∧ i.bytes = x.bytes ∧ i.zero = some z ∧ (∀ cs, flat x.zero = some cs → z.cells = cs.toArray) ∧ P.underlying t = some d ∧ k4 x.k d
structure ck where
 P : Program
 T : TypeId → g8
 M : FuncId → List Bool
structure ck.fq (C : ck) : Prop where
 ty : ∀ t, Gf C.P t (C.T t)
 mixed : C.P.follows .mixedOrders = true
inductive aI where
 | t (n : Nat)
 | c (av : I)
 | f (g : FuncId)
def yn : Value → Option I
 | .bool b => some (.bool b)
 | .int k n => some (.int k n)
 | .string s => some (.str s.data.toList)
 | .pointer none => some .dC
 | .slice none 0 0 => some .bc
 | _ => none
def dY : Operand → Option aI
 | .tmp n => some (.t n)
 | .const v => (yn v).map .c
 | .func g => some (.f g)
 | .global _ => none
def iV (x : Nat) (d : I) : I := if d.plain then d else .h x []
def aS (s : ar) : aI → I
 | .t n => iV n (s n)
 | .c av => av
 | .f g => .fn g []
theorem aW.nothing {w : World} {F : Nat → Prop} {s : ar} {aF : Nat → Value} {d : I} {v : Value} {S a1 : Nat → Prop} (ax : d.plain = true) (h : aW w F s aF d v S) : aW w F s aF d v a1 := by
 cases d <;> first
  | (rw [aW]; trivial)
  | (rw [aW] at h ⊢; exact h)
  | (have bD := (aW.da rfl).1 h; exact (aW.da rfl).2 ⟨bD.1, aB.plain _ _ _ _ ax bD.2⟩)
section
variable {w0 w : World} {F0 X F : Nat → Prop} {S : Nat → Nat → Prop} {s : ar} {aF : Nat → Value} {a : Act}
theorem Gg (s : ar) (x : aI) (ay : ∀ av, x = .c av → av.plain = true) : (aS s x).plain = true := by
 cases x with
 | t n => simp only [aS, iV]; split <;> first | assumption | rfl
 | c av => exact ay _ rfl
 | f g => rfl
theorem Cv {v : Value} {av : I} (h : yn v = some av) : av.plain = true := by
 unfold yn at h; split at h <;> simp at h <;> subst h <;> rfl
theorem gm (h : bW w0 F0 X F S s aF w) (eT : ∀ t, aF t = a.tmps.getD t undef) {o : Operand} {x : aI} (cm : dY o = some x) :
  (aS s x).plain = true ∧ aW w F s aF (aS s x) (a.eval o) (fun _ => False) := by
 cases o with
 | tmp n =>
   simp [dY] at cm; subst cm
   simp only [aS, iV, Act.eval, ← eT]
   split
   ·rename_i ax; exact ⟨ax, aW.nothing ax (h.eu n)⟩
   ·rename_i ax
    refine ⟨rfl, ?_⟩
    rw [aW]
    intro d al Cw
    simp only [I.sub, Option.some.injEq] at al; subst al
    have bh := iq (q := []) rfl (.inl Cw)
    exact ⟨_, none, rfl, rfl, ((aW.da bh).1 (h.eu n)).1⟩
 | const v =>
   simp only [dY, Option.map_eq_some_iff] at cm
   obtain ⟨av, ny, rfl⟩ := cm
   refine ⟨Cv ny, ?_⟩
   simp only [aS, Act.eval]
   unfold yn at ny
   split at ny <;> simp at ny <;> subst ny <;> rw [aW, aB] <;> exact ⟨rfl, rfl⟩
 | func g =>
   simp [dY] at cm; subst cm
   refine ⟨rfl, ?_⟩
   simp only [aS, Act.eval]
   rw [aW]
   exact ⟨#[], rfl, by rw [eY]⟩
 | global g => simp [dY] at cm
def kM (w0 : World) (X F : Nat → Prop) (S : Nat → Nat → Prop) (s : ar) (aF : Nat → Value) (w : World) (av : I) (v : Value) : Prop :=
 (av.plain = true ∧ aW w F s aF av v (fun _ => False)) ∨
 (av.tree = true ∧ eN av v ∧ ∃ Sn, aB w F av (cY v) Sn ∧ (∀ b, Sn b → b < w.heap.size) ∧ (∀ b, Sn b → ¬ F b) ∧ (∀ u b, Sn b → ¬ S u b) ∧ (∀ b, Sn b → X b ∨ w0.heap.size ≤ b))
def fin (s : ar) (dst : Option Nat) (av : I) : ar := match dst with
 | none => s
 | some t => if av.plain then dt s t av else dt (lo t s) t av
def nz (aF : Nat → Value) (dst : Option Nat) (v : Value) : Nat → Value := match dst with
 | none => aF
 | some t => dt aF t v
theorem bW.fin (h : bW w0 F0 X F S s aF w) {av : I} {v : Value} (a3 : kM w0 X F S s aF w av v) (dst : Option Nat) :
  ∃ a1, bW w0 F0 X F a1 (dk.fin s dst av) (nz aF dst v) w := by
 cases dst with
 | none => exact ⟨S, h⟩
 | some t =>
   simp only [dk.fin, nz]
   rcases a3 with ⟨ax, al⟩ | ⟨bh, ah, Sn, ai, aj, aQ, bd, b3⟩
   ·rw [if_pos ax]; exact ⟨_, h.sZ ax al⟩
   ·split
    ·rename_i ax
     exact ⟨_, h.sZ ax ((aW.da bh).2 ⟨ah, aB.plain _ _ _ _ ax ai⟩)⟩
    ·exact ⟨_, h.F7 bh ah ai aj aQ (fun u b _ ae => bd u b ae) b3⟩
def cS (s : ar) : I → Option (I × ar)
 | .h x q => match I.sub q (s x) with
   | some d => if d.plain then none else some (d, dt (iG x s) x (I.put q d.di (s x)))
   | none => none
 | .ax _ _ => none
 | .ae _ _ => none
 | .fn _ _ => none
 | .hole => none
 | d => some (d, s)
def I.owner : I → Option Nat
 | .h x _ => some x
 | _ => none
def j_ : Option Nat → I → I
 | some x, d => cc x d
 | none, d => d
theorem pY (h : bW w0 F0 X F S s aF w) {av d : I} {s1 : ar} {v : Value} (ny : av.plain = true) (a3 : aW w F s aF av v (fun _ => False)) (bh : cS s av = some (d, s1)) :
  ∃ ct, bW w0 F0 X F ct s1 aF w ∧ d.tree = true ∧ eN d v ∧ ∃ Sn, aB w F d (cY v) Sn ∧ (∀ b, Sn b → b < w.heap.size) ∧ (∀ b, Sn b → ¬ F b) ∧ (∀ u b, Sn b → ¬ ct u b) ∧ (∀ b, Sn b → X b ∨ w0.heap.size ≤ b) ∧
    (∀ u b, ct u b → S u b) ∧ (∀ b, Sn b → ∃ u, S u b) ∧ (∀ (bF : I) (gz : Value) (a1 : Nat → Prop), aW w F s aF bF gz a1 → aW w F s1 aF (j_ av.owner bF) gz a1) := by
 have tree : ∀ d : I, d.tree = true → d.plain = true → aW w F s aF d v (fun _ => False) →
   ∃ ct, bW w0 F0 X F ct s aF w ∧ d.tree = true ∧ eN d v ∧ ∃ Sn, aB w F d (cY v) Sn ∧ (∀ b, Sn b → b < w.heap.size) ∧ (∀ b, Sn b → ¬ F b) ∧ (∀ u b, Sn b → ¬ ct u b) ∧ (∀ b, Sn b → X b ∨ w0.heap.size ≤ b) ∧
     (∀ u b, ct u b → S u b) ∧ (∀ b, Sn b → ∃ u, S u b) := by
  intro d al _ bD
  have bD := (aW.da al).1 bD
  exact ⟨S, h, al, bD.1, _, bD.2, fun _ h => h.elim, fun _ h => h.elim, fun _ _ h => h.elim, fun _ h => h.elim, fun _ _ h => h, fun _ h => h.elim⟩
 cases av with
 | h x q =>
   simp only [cS] at bh
   split at bh
   ·rename_i e he
    split at bh
    ·cases bh
    ·rename_i ax
     simp only [Option.some.injEq, Prod.mk.injEq] at bh
     obtain ⟨rfl, rfl⟩ := bh
     have ax : e.plain = false := by simpa using ax
     obtain ⟨Sn, hd, c0, cR, dX, eS, h6, jQ, Cx, Ng, Nh⟩ := h.take he ax
     rw [aW] at a3
     obtain ⟨auw, bk, bf, bG, cC⟩ := a3 e he ax
     rw [eS] at bf
     simp only [Option.some.injEq, Prod.mk.injEq, true_and] at bf
     obtain ⟨rfl, rfl⟩ := bf
     have Cy : e.tree = true := by cases e <;> first | rfl | (simp [I.plain] at ax)
     refine ⟨_, dX, Cy, cC, hd, by rw [bG]; exact h6, fun b ae => h.fA x b (jQ b ae), fun b ae => h.gF x b (jQ b ae), ?_, fun b ae => h.eA x b (jQ b ae), ?_, fun b ae => ⟨x, jQ b ae⟩, Nh⟩
     ·intro u b ae hu
      simp only [gp] at hu
      split at hu
      ·exact Ng b ae hu
      ·rename_i yo; exact h.gl u x b yo hu (jQ b ae)
     ·intro u b hu
      simp only [gp] at hu
      split at hu
      ·rename_i e; subst e; exact Cx b hu
      ·exact hu
   ·cases bh
 | ax x q => simp [cS] at bh
 | ae x q => simp [cS] at bh
 | fn f c => simp [cS] at bh
 | hole => simp [cS] at bh
 | aw sz xs => simp [I.plain] at ny
 | a8 d => simp [I.plain] at ny
 | _ =>
   simp only [cS, Option.some.injEq, Prod.mk.injEq] at bh
   obtain ⟨rfl, rfl⟩ := bh
   obtain ⟨ct, t1, t2, t3, Sn, t4, t5, t6, t7, t8, t9, t10⟩ := tree _ rfl ny a3
   exact ⟨ct, t1, t2, t3, Sn, t4, t5, t6, t7, t8, t9, t10, fun _ _ _ h => h⟩
def loc (s : ar) : I → Option (Nat × List Nat)
 | .h x q => match I.sub q (s x) with
   | some (.a8 _) => some (x, q ++ [0])
   | _ => none
 | .ax x q => if I.fK q (s x) then some (x, q) else none
 | _ => none
theorem yp : ∀ (q : List Nat) (av d : I) (r : List Nat), I.sub q av = some d → I.sub (q ++ r) av = I.sub r d := by
 intro q
 induction q with
 | nil => intro av d r h; simp [I.sub] at h; subst h; rfl
 | cons k q ih =>
   intro av d r h
   cases av with
   | agg az =>
     simp only [I.sub, List.cons_append] at h ⊢
     split at h
     ·rename_i x aC; exact ih _ _ _ h
     ·cases h
   | tuple az =>
     simp only [I.sub, List.cons_append] at h ⊢
     split at h
     ·rename_i x aC; exact ih _ _ _ h
     ·cases h
   | aw sz az =>
     simp only [I.sub, List.cons_append] at h ⊢
     split at h
     ·rename_i x aC; exact ih _ _ _ h
     ·cases h
   | a8 x =>
     cases k with
     | zero => simp only [I.sub, List.cons_append] at h ⊢; exact ih _ _ _ h
     | succ k => simp [I.sub] at h
   | _ => simp [I.sub] at h
theorem Ni : ∀ (q : List Nat) (av d : I) (r : List Nat), I.sub q av = some d → I.fK (q ++ r) av = (I.fK q av || I.fK r d) := by
 intro q
 induction q with
 | nil => intro av d r h; simp [I.sub] at h; subst h; simp [I.fK]
 | cons k q ih =>
   intro av d r h
   cases av with
   | agg az =>
     simp only [I.sub] at h
     split at h
     ·rename_i x aC
      simp only [I.fK, List.cons_append, aC]
      exact ih _ _ r h
     ·cases h
   | tuple az =>
     simp only [I.sub] at h
     split at h
     ·rename_i x aC
      simp only [I.fK, List.cons_append, aC]
      exact ih _ _ r h
     ·cases h
   | aw sz az => simp [I.fK]
   | a8 x => simp [I.fK]
   | _ => simp [I.sub] at h
theorem yq (w : World) : ∀ (q : List Nat) (av d : I) (cs c0 : List Value) (a cR : Option (Nat × Nat)) (r : List Nat), dr w q av cs a = some (d, c0, cR) → dr w (q ++ r) av cs a = dr w r d c0 cR := by
 intro q
 induction q with
 | nil => intro av d cs c0 a cR r h; simp [dr] at h; obtain ⟨rfl, rfl, rfl⟩ := h; rfl
 | cons k q ih =>
   intro av d cs c0 a cR r h
   cases av with
   | agg az =>
     rw [List.cons_append]
     rw [dr] at h ⊢
     split at h
     ·rename_i x aC; exact ih _ _ _ _ _ _ _ h
     ·cases h
   | tuple az =>
     rw [List.cons_append]
     rw [dr] at h ⊢
     split at h
     ·rename_i x aC; exact ih _ _ _ _ _ _ _ h
     ·cases h
   | aw sz az =>
     rw [List.cons_append]
     rw [dr.eq_def] at h ⊢
     simp only at h ⊢
     split at h
     ·exact ih _ _ _ _ _ _ _ h
     ·cases h
   | a8 x =>
     cases k with
     | zero =>
       rw [List.cons_append]
       rw [dr.eq_def] at h ⊢
       simp only at h ⊢
       split at h
       ·exact ih _ _ _ _ _ _ _ h
       ·cases h
     | succ k => rw [show dr w ((k + 1) :: q) (.a8 x) cs a = none from rfl] at h; cases h
   | _ => simp [dr] at h
end
def g8.ok (x : g8) : Bool := match x.k with
 | .other => false
 | _ => true
theorem ck.fq.info {C : ck} (bB : C.fq) {t : TypeId} (h : (C.T t).ok = true) :
  ∃ i d z, C.P.info? t = some i ∧ i.size = (C.T t).sz ∧ i.bytes = (C.T t).bytes ∧ i.zero = some z ∧ (∀ cs, flat (C.T t).zero = some cs → z.cells = cs.toArray) ∧ C.P.underlying t = some d ∧ k4 (C.T t).k d := by
 rcases bB.ty t with ⟨e, n, b, z, aC, _⟩ | bD
 ·rw [aC] at h; simp [g8.ok] at h
 ·exact bD
theorem g9 {x : g8} {k : mT} (h : x.k = k) (aE : k ≠ .other) : x.ok = true := by
 unfold g8.ok; rw [h]; cases k <;> first | rfl | exact (aE rfl).elim
theorem Cz {d : TypeDesc} {az : List (TypeId × Nat)} (h : k4 (.struct az) d) : ∃ gs, d = .struct gs ∧ gs.toList.map (fun g => (g.type, g.offset)) = az := by
 cases d <;> simp [k4] at h
 exact ⟨_, rfl, h⟩
theorem kN {d : TypeDesc} {e : TypeId} (h : k4 (.slice e) d) : d = .slice e := by
 cases d <;> simp [k4] at h
 rw [h]
theorem yr {d : TypeDesc} {k : IntKind} (h : k4 (.int k) d) : d = .int k := by
 cases d <;> simp [k4] at h
 rw [h]
theorem pZ {d : TypeDesc} (h : k4 .str d) : d = .string := by
 cases d <;> simp [k4] at h
 rfl
theorem Gh {d : TypeDesc} (h : k4 .bool d) : d = .bool := by
 cases d <;> simp [k4] at h
 rfl
theorem Gi {d : TypeDesc} {e : TypeId} (h : k4 (.ptr e) d) : d = .pointer e := by
 cases d <;> simp [k4] at h
 rw [h]
theorem iH {v : Value} (h : Value.gX v = true) : cY v = [v] := by
 cases v <;> first | rfl | (simp [Value.gX] at h)
theorem qV {P : Program} {t : TypeId} {i : TypeInfo} (h : P.info? t = some i) (w : World) : (typeInfo t).run P w = .ok i w := by simp [typeInfo, h]
theorem jR {P : Program} {t : TypeId} {i : TypeInfo} (h : P.info? t = some i) (w : World) : (Go.sizeOf t).run P w = .ok i.size w := by simp [Go.sizeOf, qV h]
theorem s3 {P : Program} {t : TypeId} {i : TypeInfo} {z : Value} (h : P.info? t = some i) (b7 : i.zero = some z) (w : World) : (zeroValue t).run P w = .ok z w := by simp [zeroValue, qV h, b7]
section
variable {C : ck} {w0 w : World} {F0 X F : Nat → Prop} {S : Nat → Nat → Prop} {s s1 : ar} {aF : Nat → Value} {av : I}
def Good (C : ck) (w0 : World) (F0 X : Nat → Prop) (aF : Nat → Value) (w : World) (m : Sem Value) (av : I) (s1 : ar) : Prop :=
 ∃ v aU b0 a1, m.run C.P w = .ok v aU ∧ bW w0 F0 X b0 a1 s1 aF aU ∧ kM w0 X b0 a1 s1 aF aU av v
theorem Good.same (h : bW w0 F0 X F S s aF w) {m : Sem Value} {v : Value} (a7 : m.run C.P w = .ok v w) (ax : av.plain = true) (a3 : aW w F s aF av v (fun _ => False)) : Good C w0 F0 X aF w m av s :=
 ⟨v, w, F, S, a7, h, .inl ⟨ax, a3⟩⟩
theorem CA (_h : bW w0 F0 X F S s aF w) {x : I} {v : Value} (a3 : aW w F s aF x v (fun _ => False)) {y : Nat} {q : List Nat} (hl : loc s x = some (y, q)) {d : I} (al : I.sub q (s y) = some d) :
  I.fK q (s y) = true ∧ ∃ c0 b o, v = .pointer (some ⟨b, o, none⟩) ∧ dr w q (s y) (cY (aF y)) none = some (d, c0, some (b, o)) := by
 cases x with
 | h z ys =>
   simp only [loc] at hl
   split at hl
   ·rename_i e he
    simp only [Option.some.injEq, Prod.mk.injEq] at hl
    obtain ⟨rfl, rfl⟩ := hl
    rw [aW] at a3
    obtain ⟨c0, a, bf, bG, cC⟩ := a3 _ he rfl
    have hc : e = d := by
     rw [yp _ _ _ _ he] at al
     simpa [I.sub] using al
    subst hc
    refine ⟨by rw [Ni _ _ _ _ he]; simp [I.fK], ?_⟩
    have ai : Value.gX v = true := cC
    rw [iH ai] at bG
    subst bG
    have kJ := yq w ys (s z) _ _ _ none a [0] bf
    have aC := _h.eu z
    rw [aW.da (iq he (.inl rfl))] at aC
    obtain ⟨gk, cR, e3, hd, k0, b5, cu, fD, eO, gr⟩ := ctx ys (s z) (cY (aF z)) (S z) none _ aC.2 he
    rw [k0] at bf
    simp only [Option.some.injEq, Prod.mk.injEq, true_and] at bf
    obtain ⟨rfl, rfl⟩ := bf
    rw [aB] at eO
    obtain ⟨b, cur, a_, fr, et, a2, _⟩ := eO
    simp only [List.cons.injEq, and_true] at a2
    subst a2
    exact ⟨_, b, 0, rfl, by rw [kJ]; rfl⟩
   ·cases hl
 | ax z ys =>
   simp only [loc] at hl
   split at hl
   ·rename_i ay
    simp only [Option.some.injEq, Prod.mk.injEq] at hl
    obtain ⟨rfl, rfl⟩ := hl
    rw [aW] at a3
    obtain ⟨c0, b, o, bf, bG⟩ := a3 _ al ay
    exact ⟨ay, c0, b, o, bG, bf⟩
   ·cases hl
 | _ => simp [loc] at hl
def aP (C : ck) (s : ar) (T : TypeId) (x : I) (k : Nat) : Option I :=
 match (C.T T).k with
 | .struct az => match az[k]? with
   | some (p0, off) => if (C.T p0).ok = true ∧ (C.T p0).sz ≠ 0 then
     match x with
     | .ref (.agg ds) => match ds[k]? with
       | some d => if I.ez (ds.take k) = off then some (.ref d) else none
       | none => none
     | .ae y o => if (s y).plain then none else some (.ae y (o + off))
     | x => match loc s x with
       | some (y, q) => match I.sub q (s y) with
         | some (.agg ds) => if k < ds.length ∧ I.ez (ds.take k) = off then some (.ax y (q ++ [k])) else none
         | _ => none
       | none => none
     else none
   | none => none
 | _ => none
theorem hK.CB {w : World} {b o : Nat} {cE gj cF : List Value} (h : hK w b o (cE ++ (gj ++ cF))) : hK w b (o + cE.length) gj := by
 intro j c cJ
 have fz : j < gj.length := (List.getElem?_eq_some_iff.1 cJ).1
 have := h (cE.length + j) c (by rw [List.getElem?_append_right (by omega), List.getElem?_append_left (by omega), ← cJ]; congr 1; omega)
 rw [Nat.add_assoc]; exact this
theorem CC (bB : C.fq) {T p0 : TypeId} {az : List (TypeId × Nat)} {k off : Nat} (aE : (C.T T).k = .struct az) (bH : az[k]? = some (p0, off)) (ai : (C.T p0).ok = true) (aj : (C.T p0).sz ≠ 0) (b o : Nat) (w : World) :
  (Instr.fieldAt T (.pointer (some ⟨b, o, none⟩)) k).run C.P w = .ok (.pointer (some ⟨b, o + off, none⟩)) w := by
 obtain ⟨i, d, z, a4, a_, a2, c1, c9, cl, cf⟩ := bB.info (g9 aE (by simp))
 rw [aE] at cf
 obtain ⟨gs, rfl, hN⟩ := Cz cf
 obtain ⟨s4, bF, p1, f1, f2, f3, f4, f5, f6, f7⟩ := bB.info ai
 have b8 : ∃ g, gs[k]? = some g ∧ g.type = p0 ∧ g.offset = off := by
  rw [← hN, List.getElem?_map] at bH
  simp only [Option.map_eq_some_iff, Prod.mk.injEq] at bH
  obtain ⟨g, ai, aj, aQ⟩ := bH
  exact ⟨g, by simpa using ai, aj, aQ⟩
 obtain ⟨g, bf, rfl, rfl⟩ := b8
 simp [Instr.fieldAt, run_underlying cl, bf, Instr.sureAddr, fieldPlace, jR f1, f2, aj, Addr.add_lit]
theorem Nj (bB : C.fq) (h : bW w0 F0 X F S s aF w) {T : TypeId} {x : I} {v : Value} {k : Nat} (aC : x.plain = true) (a3 : aW w F s aF x v (fun _ => False)) (he : aP C s T x k = some av) :
  Good C w0 F0 X aF w (Instr.fieldAt T v k) av s := by
 unfold aP at he
 split at he
 ·rename_i az aE
  split at he
  ·rename_i p0 off bH
   split at he
   ·rename_i s5
    split at he
    ·rename_i ds
     split at he
     ·rename_i d al
      split at he
      ·rename_i yt
       simp only [Option.some.injEq] at he; subst he
       have lp := (aW.da rfl).1 a3
       rw [aB] at lp
       obtain ⟨ah, b, o, eM, ai, aj, aQ, bd⟩ := lp
       rw [iH ah] at ai
       simp only [List.cons.injEq, and_true] at ai; subst ai
       rw [aB] at bd
       obtain ⟨cE, gj, cF, ct, j7, rfl, h3, gP, ht, h4, hf, lN⟩ := bm.pick ds _ _ k d bd al
       refine Good.same h (CC bB aE bH s5.1 s5.2 b o w) rfl ((aW.da rfl).2 ⟨rfl, ?_⟩)
       rw [aB]
       refine ⟨b, o + off, gj, rfl, aj, ?_, aB.mono (fun _ h => h) _ _ _ _ (fun b ae => ht b ae) hf⟩
       rw [← yt, ← h3]; exact aQ.CB
      ·cases he
     ·cases he
    ·rename_i y o
     split at he
     ·cases he
     ·rename_i ax
      simp only [Option.some.injEq] at he; subst he
      rw [aW] at a3
      obtain ⟨b, cur, e, fr, rfl, aj, aQ, bd⟩ := a3 (by simpa using ax)
      refine Good.same h (CC bB aE bH s5.1 s5.2 b o w) rfl ?_
      rw [aW]
      exact fun _ => ⟨b, cur, e, fr, rfl, aj, aQ, bd⟩
    ·rename_i x _ _
     split at he
     ·rename_i y q hl
      split at he
      ·rename_i ds al
       split at he
       ·rename_i yt
        simp only [Option.some.injEq] at he; subst he
        obtain ⟨ay, c0, b, o, rfl, kJ⟩ := CA h a3 hl al
        refine Good.same h (CC bB aE bH s5.1 s5.2 b o w) rfl ?_
        rw [aW]
        intro d2 jj lQ
        rw [yq w q _ _ _ _ _ _ [k] kJ]
        rw [yp _ _ _ _ al] at jj
        have qW : ∃ d3, ds[k]? = some d3 := ⟨_, List.getElem?_eq_getElem yt.1⟩
        obtain ⟨d3, vc⟩ := qW
        simp only [I.sub, vc, Option.some.injEq] at jj
        subst jj
        simp only [dr, vc]
        refine ⟨(c0.drop off).take d3.wd, b, o + off, ?_, rfl⟩
        rw [yt.2]; rfl
       ·cases he
      ·cases he
     ·cases he
   ·cases he
  ·cases he
 ·cases he
def bJ (C : ck) (s : ar) (T : TypeId) (x i : I) : Option I :=
 match (C.T T).k, i with
 | .slice e, .int _ n => if 0 ≤ n ∧ (C.T e).ok = true then
   match x with
   | .slice xs => match xs[n.toNat]? with
     | some d => if d.wd = (C.T e).sz then some (.ref d) else none
     | none => none
   | .h y q => match I.sub q (s y) with
     | some (.aw sz xs) => if n.toNat < xs.length ∧ sz = (C.T e).sz then some (.ax y (q ++ [n.toNat])) else none
     | _ => none
   | _ => none
   else none
 | _, _ => none
theorem Gj (bB : C.fq) {T e : TypeId} (aE : (C.T T).k = .slice e) (he : (C.T e).ok = true) (b o len cap : Nat) (k : IntKind) (n : Nat) (bg : n < len) (w : World) :
  (Instr.indexAt T (.slice (some ⟨b, o, none⟩) len cap) (.int k n)).run C.P w = .ok (.pointer (some ⟨b, o + n * (C.T e).sz, none⟩)) w := by
 obtain ⟨i, d, z, a4, a_, a2, c1, c9, cl, cf⟩ := bB.info (g9 aE (by simp))
 rw [aE] at cf
 have := kN cf; subst this
 obtain ⟨s4, bF, p1, f1, f2, f3, f4, f5, f6, f7⟩ := bB.info he
 simp [Instr.indexAt, run_underlying cl, asIntOf, bg, jR f1, f2, Addr.add_lit]
theorem Nk (bB : C.fq) (h : bW w0 F0 X F S s aF w) {T : TypeId} {x i : I} {v s6 : Value} (a3 : aW w F s aF x v (fun _ => False)) (Nl : aW w F s aF i s6 (fun _ => False))
  (he : bJ C s T x i = some av) : Good C w0 F0 X aF w (Instr.indexAt T v s6) av s := by
 unfold bJ at he
 split at he
 ·rename_i e k n aE
  have CD := (aW.da rfl).1 Nl
  rw [aB, iH CD.1] at CD
  have : s6 = .int k n := by simpa using CD.2
  subst this
  split at he
  ·rename_i bg
   obtain ⟨n, rfl⟩ := Int.eq_ofNat_of_zero_le bg.1
   simp only [Int.toNat_natCast] at he
   split at he
   ·rename_i xs
    split at he
    ·rename_i d al
     split at he
     ·rename_i hw
      simp only [Option.some.injEq] at he; subst he
      have lp := (aW.da rfl).1 a3
      rw [aB, iH lp.1] at lp
      obtain ⟨ah, ⟨rfl, _⟩ | ⟨b, o, cap, eM, sz, ai, aj, aQ, bd, b3, cG, cp⟩⟩ := lp
      ·simp at al
      ·simp only [List.cons.injEq, and_true] at ai; subst ai
       have fz : n < xs.length := (List.getElem?_eq_some_iff.1 al).1
       obtain ⟨cE, gj, cF, ct, j7, rfl, h3, gP, ht, h4, hf, lN⟩ := bm.pick xs _ _ n d cp al
       refine Good.same h (Gj bB aE bg.2 b o _ _ k n fz w) rfl ((aW.da rfl).2 ⟨rfl, ?_⟩)
       rw [aB]
       refine ⟨b, _, gj, rfl, aj, ?_, aB.mono (fun _ h => h) _ _ _ _ (fun b ae => ht b ae) hf⟩
       have Nm := b3 d (List.mem_of_getElem? al)
       have : n * (C.T e).sz = cE.length := by
        rw [h3, qS _ (fun d al => b3 d (List.mem_of_mem_take al)), List.length_take, Nat.min_eq_left (by omega), ← hw, Nm]
       rw [this]; exact cG.CB
     ·cases he
    ·cases he
   ·rename_i y q
    split at he
    ·rename_i sz xs al
     split at he
     ·rename_i hw
      simp only [Option.some.injEq] at he; subst he
      rw [aW] at a3
      obtain ⟨c0, a, bf, bG, cC⟩ := a3 _ al rfl
      have ah : Value.gX v = true := cC
      rw [iH ah] at bG; subst bG
      have aC := h.eu y
      rw [aW.da (iq al (.inl rfl))] at aC
      obtain ⟨gk, cR, e3, hd, k0, b5, cu, fD, eO, gr⟩ := ctx q (s y) (cY (aF y)) (S y) none _ aC.2 al
      rw [k0] at bf
      simp only [Option.some.injEq, Prod.mk.injEq, true_and] at bf
      obtain ⟨rfl, rfl⟩ := bf
      rw [aB] at eO
      rcases eO with ⟨rfl, _⟩ | ⟨b, cap, cur, a_, fr, et, a2, _⟩
      ·simp at hw
      ·simp only [List.cons.injEq, and_true] at a2; subst a2
       refine Good.same h (Gj bB aE bg.2 b 0 _ _ k n hw.1 w) rfl ?_
       rw [aW]
       intro d2 jj _
       rw [yq w q _ _ _ _ _ _ [n] k0]
       rw [yp _ _ _ _ al] at jj
       obtain ⟨d3, vc⟩ : ∃ d3, xs[n]? = some d3 := ⟨_, List.getElem?_eq_getElem hw.1⟩
       simp only [I.sub, vc, Option.some.injEq] at jj
       subst jj
       simp only [dr, vc]
       exact ⟨_, b, n * sz, rfl, by simp [hw.2]⟩
     ·cases he
    ·cases he
   ·cases he
  ·cases he
 ·cases he
end
section
variable {C : ck} {w0 w : World} {F0 X F : Nat → Prop} {S : Nat → Nat → Prop} {s s1 : ar} {aF : Nat → Value} {av : I}
theorem Nn (bB : C.fq) {T : TypeId} {az : List (TypeId × Nat)} (aE : (C.T T).k = .struct az) (w : World) : (isAgg T).run C.P w = .ok true w := by
 obtain ⟨i, d, z, a4, a_, a2, c1, c9, cl, cf⟩ := bB.info (g9 aE (by simp))
 rw [aE] at cf
 obtain ⟨gs, rfl, _⟩ := Cz cf
 simp [isAgg, run_underlying cl]
def g8.flat (x : g8) : Bool := match x.k with
 | .other => false
 | .struct _ => false
 | _ => true
theorem Gk {x : g8} (h : x.flat = true) : x.ok = true := by
 unfold g8.flat at h; unfold g8.ok; revert h; cases x.k <;> simp
theorem Np (bB : C.fq) {T : TypeId} (aE : (C.T T).flat = true) (w : World) : (isAgg T).run C.P w = .ok false w := by
 obtain ⟨i, d, z, a4, a_, a2, c1, c9, cl, cf⟩ := bB.info (Gk aE)
 have eg : (∀ az, d ≠ .struct az) ∧ (∀ n e, d ≠ .array n e) := by
  clear cl
  unfold g8.flat at aE
  generalize (C.T T).k = lq at *
  cases lq <;> cases d <;> simp [k4] at cf aE ⊢
 cases d <;> first | exact (eg.1 _ rfl).elim | exact (eg.2 _ _ rfl).elim | simp [isAgg, run_underlying cl]
theorem hK.one {w : World} {b o : Nat} {v : Value} (h : hK w b o [v]) : w.cell? ⟨b, o, none⟩ = some v := by simpa using h 0 v rfl
theorem Gl {P : Program} {b o : Nat} : ∀ (cs : List Value) (i : Nat) (acc : Array Value), hK w b (o + i) cs → (loadCellsFrom ⟨b, o, none⟩ i cs.length acc).run P w = .ok (acc ++ cs.toArray) w
 | [], i, acc, _ => by simp [loadCellsFrom]
 | c :: cs, i, acc, h => by
   have a9 : w.cell? ⟨b, o + i, none⟩ = some c := by simpa using h 0 c rfl
   have ai : hK w b (o + (i + 1)) cs := by
    intro j x cJ
    have := h (j + 1) x (by simpa using cJ)
    rw [← this]; congr 2; omega
   have ih := Gl (P := P) cs (i + 1) (acc.push c) ai
   simp only [List.length_cons, loadCellsFrom, Sem.run_bind, Go.load, Sem.run, Addr.add_lit, a9, Result.andThen]
   rw [ih]; simp
theorem Nq (bB : C.fq) {T : TypeId} {az : List (TypeId × Nat)} (aE : (C.T T).k = .struct az) {b o : Nat} {cs : List Value} (h : hK w b o cs) (hl : cs.length = (C.T T).sz) :
  (loadVar T ⟨b, o, none⟩).run C.P w = .ok (.agg cs.toArray) w := by
 obtain ⟨i, d, z, a4, a_, a2, c1, c9, cl, cf⟩ := bB.info (g9 aE (by simp))
 have := Gl (P := C.P) (b := b) (o := o) cs 0 #[] (by simpa using h)
 simp only [loadVar, Sem.run_bind, Nn bB aE, Result.andThen, if_true, jR a4, a_, ← hl, loadCells, this]
 simp
theorem Gm (bB : C.fq) {T : TypeId} (aE : (C.T T).flat = true) {b o : Nat} {v : Value} (h : hK w b o [v]) :
  (loadVar T ⟨b, o, none⟩).run C.P w = .ok v w := by
 simp [loadVar, Np bB aE, Go.load, Sem.run, h.one]
def fits (C : ck) (T : TypeId) (d : I) : Bool := match (C.T T).k, d with
    | .struct _, .agg ds => I.ez ds == (C.T T).sz
    | .struct _, _ => false
    | _, .agg _ => false
    | _, .tuple _ => false
    | _, _ => (C.T T).flat
def yu : List I → Nat → Nat → Option Nat
 | [], _, _ => none
 | d :: ds, i, k => if k = 0 then some i else if d.wd ≤ k then yu ds (i + 1) (k - d.wd) else none
def aD (C : ck) (s : ar) (T : TypeId) (x : I) : Option I :=
 match x with
 | .ref d => if fits C T d = true then some d else none
 | .ae y k => match s y with
   | .agg ds => if I.dI ds then none else match yu ds 0 k with
     | some i => match ds[i]? with
       | some d => if I.ez (ds.take i) = k ∧ fits C T d = true then some (if d.plain then d else .h y [i]) else none
       | none => none
     | none => none
   | _ => none
 | x => match loc s x with
   | some (y, q) => match I.sub q (s y) with
     | some d => if fits C T d = true then some (if d.plain then d else .h y q) else none
     | none => none
   | none => none
theorem aB.one {F : Nat → Prop} {d : I} {cs : List Value} {S : Nat → Prop} (h : aB w F d cs S) (ai : ∀ az, d ≠ .agg az) (aj : ∀ az, d ≠ .tuple az) : ∃ v, cs = [v] ∧ Value.gX v = true := by
 cases d with
 | hole => rw [aB] at h; obtain ⟨v, h, rfl⟩ := h; exact ⟨v, rfl, h⟩
 | e7 => rw [aB] at h; obtain ⟨v, rfl⟩ := h; exact ⟨_, rfl, rfl⟩
 | slice xs => rw [aB] at h; rcases h with ⟨_, a, c, rfl, _⟩ | ⟨b, o, cap, eM, sz, rfl, _⟩ <;> exact ⟨_, rfl, rfl⟩
 | aw sz xs => rw [aB] at h; rcases h with ⟨_, _, rfl⟩ | ⟨b, cap, cur, e, fr, eA, rfl, _⟩ <;> exact ⟨_, rfl, rfl⟩
 | ref d => rw [aB] at h; obtain ⟨b, o, eM, rfl, _⟩ := h; exact ⟨_, rfl, rfl⟩
 | a8 d => rw [aB] at h; obtain ⟨b, cur, e, fr, eA, rfl, _⟩ := h; exact ⟨_, rfl, rfl⟩
 | agg az => exact (ai _ rfl).elim
 | tuple az => exact (aj _ rfl).elim
 | fn _ _ => rw [aB] at h; exact h.elim
 | h _ _ => rw [aB] at h; exact h.elim
 | ax _ _ => rw [aB] at h; exact h.elim
 | ae _ _ => rw [aB] at h; exact h.elim
 | _ => rw [aB] at h; subst h; exact ⟨_, rfl, rfl⟩
theorem yv (bB : C.fq) {T : TypeId} {d : I} {b o : Nat} {cs : List Value} {S : Nat → Prop} (h : hK w b o cs) (al : aB w F d cs S)
  (jS : fits C T d = true) :
  ∃ v, (loadVar T ⟨b, o, none⟩).run C.P w = .ok v w ∧ cY v = cs ∧ eN d v := by
 unfold fits at jS
 by_cases ah : ∃ az, (C.T T).k = .struct az
 ·obtain ⟨az, aE⟩ := ah
  rw [aE] at jS
  cases d with
  | agg ds =>
    simp only [beq_iff_eq] at jS
    refine ⟨_, Nq bB aE h ((aB.length _ _ _ al).trans jS), rfl, ⟨_, rfl⟩⟩
  | _ => simp at jS
 ·have k5 : (C.T T).flat = true ∧ (∀ az, d ≠ .agg az) ∧ (∀ az, d ≠ .tuple az) := by
   revert jS ah
   cases aE : (C.T T).k <;> cases d <;> simp
  obtain ⟨v, rfl, ai⟩ := aB.one al k5.2.1 k5.2.2
  refine ⟨v, Gm bB k5.1 h, iH ai, ?_⟩
  cases d <;> first | exact ai | exact (k5.2.1 _ rfl).elim | exact (k5.2.2 _ rfl).elim
theorem Nr (bB : C.fq) (h : bW w0 F0 X F S s aF w) {T : TypeId} {x : I} {v : Value} (a3 : aW w F s aF x v (fun _ => False)) (he : aD C s T x = some av) :
  Good C w0 F0 X aF w (Instr.loadAt T v) av s := by
 unfold aD at he
 split at he
 ·rename_i d
  split at he
  ·rename_i jS
   simp only [Option.some.injEq] at he; subst he
   have lp := (aW.da rfl).1 a3
   rw [aB, iH lp.1] at lp
   obtain ⟨ah, b, o, eM, ai, aj, aQ, bd⟩ := lp
   simp only [List.cons.injEq, and_true] at ai; subst ai
   obtain ⟨gz, a7, ay, qX⟩ := yv bB aQ bd jS
   have ff : (Instr.loadAt T (.pointer (some ⟨b, o, none⟩))).run C.P w = .ok gz w := by simp [Instr.loadAt, Instr.sureAddr, a7]
   refine ⟨gz, w, F, S, ff, h, ?_⟩
   by_cases bh : d.tree = true
   ·exact .inr ⟨bh, qX, fun _ => False, by rw [ay]; exact bd, fun _ h => h.elim, fun _ h => h.elim, fun _ _ h => h.elim, fun _ h => h.elim⟩
   ·cases d <;> first | exact (bh rfl).elim | (rw [aB] at bd; exact bd.elim) | exact .inl ⟨rfl, by rw [aW]; trivial⟩
  ·cases he
 ·rename_i y k
  split at he
  ·rename_i ds mn
   split at he
   ·cases he
   ·rename_i vd
    split at he
    ·rename_i i au
     split at he
     ·rename_i d al
      split at he
      ·rename_i jS
       simp only [Option.some.injEq] at he
       have gq : (s y).plain = false := by rw [mn]; simp only [I.plain]; simpa using vd
       rw [aW] at a3
       obtain ⟨b, cur, e, fr, rfl, aj, aQ, bd⟩ := a3 gq
       have bL := h.eu y
       rw [mn] at bL
       have Gn := ((aW.da rfl).1 bL).2
       rw [aB] at Gn
       obtain ⟨cE, gj, cF, ct, j7, ic, h3, gP, ht, h4, hf, lN⟩ := bm.pick ds _ _ i d Gn al
       have jt : hK w b k gj := by
        intro j c cJ
        have fz : j < gj.length := (List.getElem?_eq_some_iff.1 cJ).1
        have : cur.toList[k + j]? = some c := by
         rw [bd, ic, List.getElem?_append_right (by omega), List.getElem?_append_left (by omega), ← cJ]; congr 1; omega
        simp [World.cell?, aQ]
        simpa using this
       obtain ⟨gz, a7, ay, qX⟩ := yv bB jt hf jS.2
       have ff : (Instr.loadAt T (.pointer (some ⟨b, k, none⟩))).run C.P w = .ok gz w := by simp [Instr.loadAt, Instr.sureAddr, a7]
       refine ⟨gz, w, F, S, ff, h, ?_⟩
       split at he
       ·rename_i ax
        subst he
        by_cases bh : d.tree = true
        ·exact .inl ⟨ax, (aW.da bh).2 ⟨qX, by rw [ay]; exact aB.plain _ _ _ _ ax hf⟩⟩
        ·cases d <;> first | exact (bh rfl).elim | (rw [aB] at hf; exact hf.elim) | exact .inl ⟨rfl, by rw [aW]; trivial⟩
       ·subst he
        refine .inl ⟨rfl, ?_⟩
        rw [aW]
        intro d2 jj _
        rw [mn] at jj ⊢
        simp only [I.sub, al, Option.some.injEq] at jj
        subst jj
        refine ⟨gj, none, ?_, ay, qX⟩
        simp only [dr, al]
        rw [ic, sW cE gj cF _ _ h3 (aB.length _ _ _ hf)]
        rfl
      ·cases he
     ·cases he
    ·cases he
  ·cases he
 ·rename_i x _ _
  split at he
  ·rename_i y q hl
   split at he
   ·rename_i d al
    split at he
    ·rename_i jS
     simp only [Option.some.injEq] at he
     obtain ⟨nA, c0, b, o, rfl, kJ⟩ := CA h a3 hl al
     have bL := h.eu y
     rw [aW.da (iq al (.inr nA))] at bL
     obtain ⟨gk, cR, e3, hd, k0, b5, cu, fD, eO, gr⟩ := ctx q (s y) (cY (aF y)) (S y) none _ bL.2 al
     rw [k0] at kJ
     simp only [Option.some.injEq, Prod.mk.injEq, true_and] at kJ
     obtain ⟨rfl, rfl⟩ := kJ
     have jt : hK w b o gk := by
      rcases gr with ⟨l, r, a4, a_, _⟩ | ⟨fY, cur, e, fr, l, r, a4, a_, a2, c1, c9, _⟩
      ·simp at a_
      ·simp only [Option.some.injEq, Prod.mk.injEq] at a4
       obtain ⟨rfl, rfl⟩ := a4
       intro j c cJ
       have fz : j < gk.length := (List.getElem?_eq_some_iff.1 cJ).1
       have : cur.toList[l.length + j]? = some c := by
        rw [c9, List.getElem?_append_right (by omega), List.getElem?_append_left (by omega), ← cJ]; congr 1; omega
       simp [World.cell?, a2]
       simpa using this
     obtain ⟨gz, a7, ay, qX⟩ := yv bB jt eO jS
     have ff : (Instr.loadAt T (.pointer (some ⟨b, o, none⟩))).run C.P w = .ok gz w := by simp [Instr.loadAt, Instr.sureAddr, a7]
     refine ⟨gz, w, F, S, ff, h, ?_⟩
     split at he
     ·rename_i ax
      subst he
      by_cases bh : d.tree = true
      ·exact .inl ⟨ax, (aW.da bh).2 ⟨qX, by rw [ay]; exact aB.plain _ _ _ _ ax eO⟩⟩
      ·cases d <;> first | exact (bh rfl).elim | (rw [aB] at eO; exact eO.elim) | exact .inl ⟨rfl, by rw [aW]; trivial⟩
     ·subst he
      refine .inl ⟨rfl, ?_⟩
      rw [aW]
      intro d2 jj _
      rw [al] at jj
      simp only [Option.some.injEq] at jj
      subst jj
      exact ⟨_, _, k0, ay, qX⟩
    ·cases he
   ·cases he
  ·cases he
mutual
theorem aB.qY {F : Nat → Prop} : ∀ (d : I) (cs : List Value) (S : Nat → Prop), aB w F d cs S → ∀ c ∈ cs, Value.gX c = true
 | .hole, cs, S, h => by rw [aB] at h; obtain ⟨v, h, rfl⟩ := h; simpa using h
 | .bool _, cs, S, h => by rw [aB] at h; subst h; simp [Value.gX]
 | .e7, cs, S, h => by rw [aB] at h; obtain ⟨b, rfl⟩ := h; simp [Value.gX]
 | .int _ _, cs, S, h => by rw [aB] at h; subst h; simp [Value.gX]
 | .str _, cs, S, h => by rw [aB] at h; subst h; simp [Value.gX]
 | .dC, cs, S, h => by rw [aB] at h; subst h; simp [Value.gX]
 | .bc, cs, S, h => by rw [aB] at h; subst h; simp [Value.gX]
 | .slice xs, cs, S, h => by
   rw [aB] at h
   rcases h with ⟨_, a, c, rfl, _⟩ | ⟨b, o, cap, eM, sz, rfl, _⟩ <;> simp [Value.gX]
 | .aw sz xs, cs, S, h => by
   rw [aB] at h
   rcases h with ⟨_, _, rfl⟩ | ⟨b, cap, cur, e, fr, a1, rfl, _⟩ <;> simp [Value.gX]
 | .ref d, cs, S, h => by rw [aB] at h; obtain ⟨b, o, eM, rfl, _⟩ := h; simp [Value.gX]
 | .a8 d, cs, S, h => by rw [aB] at h; obtain ⟨b, o, eM, _, _, rfl, _⟩ := h; simp [Value.gX]
 | .agg az, cs, S, h => by rw [aB] at h; exact bm.qY az _ _ h
 | .tuple az, cs, S, h => by rw [aB] at h; exact bm.qY az _ _ h
 | .fn _ _, cs, S, h => by rw [aB] at h; exact h.elim
 | .h _ _, cs, S, h => by rw [aB] at h; exact h.elim
 | .ax _ _, cs, S, h => by rw [aB] at h; exact h.elim
 | .ae _ _, cs, S, h => by rw [aB] at h; exact h.elim
theorem bm.qY {F : Nat → Prop} : ∀ (ds : List I) (cs : List Value) (S : Nat → Prop), bm w F ds cs S → ∀ c ∈ cs, Value.gX c = true
 | [], cs, S, h => by rw [bm] at h; subst h; simp
 | d :: ds, cs, S, h => by
   rw [bm] at h
   obtain ⟨cE, cF, ct, et, rfl, aj, aQ, _⟩ := h
   intro c ay
   rcases List.mem_append.1 ay with ay | ay
   ·exact aB.qY d _ _ aj c ay
   ·exact bm.qY ds _ _ aQ c ay
end
theorem yw {P : Program} {b o : Nat} {e : TypeId} {fr : Nat × Nat} : ∀ (vs : List Value) (i : Nat) (cur : Array Value) (w : World) (l m r : List Value), w.heap[b]? = some (.cells cur e fr) → pU fr cur.size →
  cur.toList = l ++ (m ++ r) → l.length = o + i → m.length = vs.length → (∀ v ∈ vs, Value.gX v = true) →
  ∃ aU, (storeCells ⟨b, o, none⟩ vs i).run P w = .ok () aU ∧ aU.heap[b]? = some (.cells (l ++ (vs ++ r)).toArray e fr) ∧ (∀ c, c ≠ b → aU.heap[c]? = w.heap[c]?) ∧ aU.heap.size = w.heap.size ∧ aU.os = w.os ∧ aU.tape = w.tape ∧ aU.output = w.output
 | [], i, cur, w, l, m, r, ae, bH, ay, hl, hm, _ => by
   refine ⟨w, rfl, ?_, fun _ _ => rfl, rfl, rfl, rfl, rfl⟩
   have : m = [] := by simpa using hm
   subst this
   rw [ae]
   have : cur = (l ++ ([] ++ r)).toArray := by rw [← ay]
   rw [← this]
 | v :: vs, i, cur, w, l, m, r, ae, bH, ay, hl, hm, yx => by
   obtain ⟨x, m, rfl⟩ : ∃ x hU, m = x :: hU := by cases m with
    | nil => simp at hm
    | cons x m => exact ⟨x, m, rfl⟩
   have hlen : cur.size = (l ++ (x :: m ++ r)).length := by rw [← ay]; simp
   have fz : o + i < cur.size := by rw [hlen]; simp; omega
   have yy : w.cell? ⟨b, o + i, none⟩ = some cur[o + i] := by simp [World.cell?, ae, fz]
   have Ns : w.frozen? ⟨b, o + i, none⟩ = false := by
    have := bH (o + i) fz
    simp only [World.frozen?, ae]
    simp only [Bool.and_eq_false_iff, decide_eq_false_iff_not]
    by_cases ai : fr.1 ≤ o + i
    ·right; exact fun aj => this ⟨ai, aj⟩
    ·left; exact ai
   have p2 : (w.setCell ⟨b, o + i, none⟩ v).heap[b]? = some (.cells ((l ++ [v]) ++ (m ++ r)).toArray e fr) := by
    simp only [World.setCell, Array.getElem?_modify, if_true, ae, Option.map_some, Option.isSome_none, Bool.false_eq_true, if_false]
    congr 2
    apply Array.ext'
    rw [Array.toList_setIfInBounds, ay, ← hl, List.set_append_right _ _ (Nat.le_refl _)]
    simp
   have qZ : (store ((⟨b, o, none⟩ : Addr).add i) v).run P w = .ok () (w.setCell ⟨b, o + i, none⟩ v) := by
    have ai := yx v (by simp)
    rw [Addr.add_lit]
    cases v <;> first | (simp [Value.gX] at ai; done) | simp [Go.store, Sem.run, yy, Ns]
   obtain ⟨aU, bf, bG, cC, eH, fJ, h7, iI⟩ := yw (P := P) (b := b) (o := o) vs (i + 1) _ (w.setCell ⟨b, o + i, none⟩ v) (l ++ [v]) m r p2 (by
    have : (l ++ [v] ++ (m ++ r)).toArray.size = cur.size := by rw [hlen]; simp
    rw [this]; exact bH) (by simp) (by simp; omega) (by simpa using hm) (fun u hu => yx u (by simp [hu]))
   refine ⟨aU, ?_, by simpa using bG, fun c ay => ?_, ?_, fJ, h7, iI⟩
   ·simp only [storeCells, Sem.run_bind, qZ, Result.andThen]; exact bf
   ·rw [cC c ay]
    simp only [World.setCell, Array.getElem?_modify]
    rw [if_neg (fun e => ay e.symm)]
   ·rw [eH]; simp [World.setCell]
theorem yz {d : I} {v : Value} (h : eN d v) (al : ∀ az, d ≠ .tuple az) : v.cells = (cY v).toArray := by
 cases d with
 | tuple az => exact (al _ rfl).elim
 | agg az => obtain ⟨arr, rfl⟩ := h; simp [Value.cells, cY, il]
 | _ =>
   have ai : Value.gX v = true := h
   rw [iH ai]
   cases v <;> first | rfl | (simp [Value.gX] at ai)
def cx (C : ck) (s : ar) (T : TypeId) (x y : I) : Option ar :=
 match cS s y, loc s x with
 | some (d, s1), some (z, q) => match d with
   | .tuple _ => none
   | d => match I.sub q (s z) with
     | some d0 => if d.wd = d0.wd ∧ d.wd = (C.T T).sz ∧ (C.T T).ok = true ∧ y.owner ≠ some z then some (dt (iG z s1) z (I.put q d (s z))) else none
     | none => none
 | _, _ => none
theorem Nt {s s1 : ar} {y d : I} {z : Nat} (h : cS s y = some (d, s1)) (b7 : (s z).tree = true) (bL : y.owner ≠ some z) : s1 z = s z := by
 cases y with
 | h x q =>
   simp only [cS] at h
   split at h
   ·split at h
    ·cases h
    ·simp only [Option.some.injEq, Prod.mk.injEq] at h
     obtain ⟨_, rfl⟩ := h
     rw [ji _ _ (fun e => bL (by rw [I.owner, e]))]
     exact Cp b7
   ·cases h
 | ax x q => simp [cS] at h
 | ae x q => simp [cS] at h
 | fn f c => simp [cS] at h
 | hole => simp [cS] at h
 | _ => simp only [cS, Option.some.injEq, Prod.mk.injEq] at h; rw [h.2]
theorem Nu (bB : C.fq) (h : bW w0 F0 X F S s aF w) {T : TypeId} {x y : I} {jT jk : Value} (CE : aW w F s aF x jT (fun _ => False)) (bL : y.plain = true) (Nv : aW w F s aF y jk (fun _ => False))
  {s2 : ar} (he : cx C s T x y = some s2) :
  ∃ aU a1, (Instr.storeAt T jT jk).run C.P w = .ok () aU ∧ bW w0 F0 X F a1 s2 aF aU := by
 unfold cx at he
 split at he
 ·rename_i d s1 z q bh hl
  have key : ∀ d : I, (∀ az, d ≠ .tuple az) → cS s y = some (d, s1) → (match I.sub q (s z) with
   | some d0 => if d.wd = d0.wd ∧ d.wd = (C.T T).sz ∧ (C.T T).ok = true ∧ y.owner ≠ some z then some (dt (iG z s1) z (I.put q d (s z))) else none
   | none => none) = some s2 → ∃ aU a1, (Instr.storeAt T jT jk).run C.P w = .ok () aU ∧ bW w0 F0 X F a1 s2 aF aU := by
   intro d pc bh he
   split at he
   ·rename_i d0 ks
    split at he
    ·rename_i q0
     obtain ⟨ai, aj, aQ, bd⟩ := q0
     simp only [Option.some.injEq] at he; subst he
     obtain ⟨nA, c0, b, o, rfl, kJ⟩ := CA h CE hl ks
     obtain ⟨ct, hF, bf, bG, Sn, cC, eH, fJ, h7, iI, k6⟩ := pY h bL Nv bh
     have e4 : s1 z = s z := Nt bh (iq ks (.inr nA)) bd
     rw [← e4] at ks nA kJ ⊢
     obtain ⟨gk, fY, l, r, cur, e, fr, k0, b5, cu, fD, eO⟩ := hF.store ks nA cC ai eH fJ h7 iI
     rw [kJ] at k0
     simp only [Option.some.injEq, Prod.mk.injEq, true_and] at k0
     obtain ⟨rfl, rfl, rfl⟩ := k0
     obtain ⟨i, d, p1, a4, a_, a2, c1, c9, cl, cf⟩ := bB.info aQ
     have hlen := aB.length _ _ _ cC
     have hm : c0.length = (cY jk).length := by
      have Gp := hF.eu z
      rw [aW.da (iq ks (.inr nA))] at Gp
      obtain ⟨_, _, _, _, mm, _, _, _, lR, _⟩ := ctx q (s1 z) (cY (aF z)) (ct z) none _ Gp.2 ks
      rw [kJ] at mm
      simp only [Option.some.injEq, Prod.mk.injEq, true_and] at mm
      rw [mm.1, aB.length _ _ _ lR, hlen, ai]
     obtain ⟨aU, fS, gG, hg, kt, lS, ch, nB⟩ := yw (P := C.P) (b := b) (o := l.length) (e := e) (fr := fr) (cY jk) 0 cur w l c0 r b5 fD cu rfl hm (aB.qY _ _ _ cC)
     obtain ⟨a1, gr⟩ := eO aU gG hg kt lS ch nB
     refine ⟨aU, a1, ?_, gr⟩
     have pd := yz bG pc
     simp [Instr.storeAt, Instr.sureAddr, storeVar, jR a4, a_, pd, hlen, aj, fS]
    ·cases he
   ·cases he
  split at he
  ·cases he
  ·rename_i pc
   exact key _ (fun az e => pc az e) bh he
 ·cases he
theorem bW.alloc (h : bW w0 F0 X F S s aF w) {d : I} {cs : List Value} {Sn : Nat → Prop} (e : TypeId) (a3 : aB w F d cs Sn)
  (fz : ∀ b, Sn b → b < w.heap.size) (bE : ∀ b, Sn b → ¬ F b) (ca : ∀ u b, Sn b → ¬ S u b) (a9 : ∀ b, Sn b → X b ∨ w0.heap.size ≤ b) :
  bW w0 F0 X F S s aF (w.alloc (.cells cs.toArray e)) ∧
   kM w0 X F S s aF (w.alloc (.cells cs.toArray e)) (.a8 d) (.pointer (some ⟨w.heap.size, 0, none⟩)) := by
 have hold : ∀ b, b < w.heap.size → (w.alloc (.cells cs.toArray e)).heap[b]? = w.heap[b]? := by
  intro b ae
  show (w.heap.push _)[b]? = _
  rw [Array.getElem?_push, if_neg (by omega)]
 refine ⟨h.grow hold (by simp) rfl rfl rfl, .inr ⟨rfl, rfl, fun b => b = w.heap.size ∨ Sn b, ?_, ?_, ?_, ?_, ?_⟩⟩
 ·rw [aB]
  refine ⟨w.heap.size, cs.toArray, e, (0, 0), Sn, rfl, .inl rfl, ?_, ?_, ?_, fun c ay => .inr ay, fun ay => Nat.lt_irrefl _ (fz _ ay)⟩
  ·show (w.heap.push _)[_]? = _
   simp
  ·intro o _ ⟨_, aj⟩; exact absurd aj (Nat.not_lt_zero _)
  ·exact aB.frame (fun b ae => hold b (h.gy b ae)) _ _ _ (fun b ae => hold b (fz b ae)) a3
 ·rintro b (rfl | ae)
  ·simp
  ·have := fz b ae; simp; omega
 ·rintro b (rfl | ae) ve
  ·exact Nat.lt_irrefl _ (h.gy _ ve)
  ·exact bE b ae ve
 ·rintro u b (rfl | ae) hu
  ·exact Nat.lt_irrefl _ (h.fA _ _ hu)
  ·exact ca u b ae hu
 ·rintro b (rfl | ae)
  ·exact .inr h.size
  ·exact a9 b ae
def eB (C : ck) (T : TypeId) : Option I := if (C.T T).ok = true then (match flat (C.T T).zero with | some _ => some (.a8 (C.T T).zero) | none => none) else none
theorem Nw (bB : C.fq) (h : bW w0 F0 X F S s aF w) {T : TypeId} (he : eB C T = some av) : Good C w0 F0 X aF w (Instr.alloc T true (.tuple #[])) av s := by
 unfold eB at he
 split at he
 ·rename_i aE
  split at he
  ·rename_i cs ic
   simp only [Option.some.injEq] at he; subst he
   obtain ⟨i, d, z, a4, a_, a2, c1, c9, cl, cf⟩ := bB.info aE
   have b7 := c9 cs ic
   obtain ⟨dX, eS⟩ := h.alloc (d := (C.T T).zero) T ((aB.flat _).1 _ cs (fun _ => False) (Nat.le_refl _) ic) (fun _ h => h.elim) (fun _ h => h.elim) (fun _ _ h => h.elim) (fun _ h => h.elim)
   refine ⟨_, _, F, S, ?_, dX, eS⟩
   simp [Instr.alloc, s3 a4 c1, newVar, newRow, newObj, Sem.run, b7]
  ·cases he
 ·cases he
def c2 (s : ar) (x : I) : Option (I × ar) := match cS s x with
 | some (.tuple _, _) => none
 | some (d, s1) => some (.a8 d, s1)
 | none => none
def ju (s : ar) (x : I) : Option (I × ar) := match x with
 | .h y q => match q, s y with
   | [], .agg ds => if I.dI ds then none else some (.ae y 0, s)
   | _, _ => none
 | _ => none
theorem Nx (h : bW w0 F0 X F S s aF w) {T : TypeId} {x : I} {v : Value} (a3 : aW w F s aF x v (fun _ => False)) (he : ju s x = some (av, s1)) :
  Good C w0 F0 X aF w (Instr.box T v) av s1 := by
 unfold ju at he
 split at he
 ·rename_i y q
  split at he
  ·rename_i ds mn
   split at he
   ·cases he
   ·rename_i vd
    simp only [Option.some.injEq, Prod.mk.injEq] at he
    obtain ⟨rfl, rfl⟩ := he
    rw [aW] at a3
    obtain ⟨c0, a, bf, bG, cC⟩ := a3 (s y) (by simp only [I.sub]) (by rw [mn]; simp only [I.plain]; simpa using vd)
    simp only [dr, Option.some.injEq, Prod.mk.injEq, true_and] at bf
    rw [mn] at cC
    have pd := yz cC (fun az e => by cases e)
    have hold : ∀ b, b < w.heap.size → (w.alloc (.cells (cY v).toArray T)).heap[b]? = w.heap[b]? := by
     intro b ae
     show (w.heap.push _)[b]? = _
     rw [Array.getElem?_push, if_neg (by omega)]
    refine ⟨.pointer (some ⟨w.heap.size, 0, none⟩), w.alloc (.cells (cY v).toArray T), fun b => F b ∨ b = w.heap.size, S, by simp [Instr.box, newVar, newRow, newObj, Sem.run, pd], ?_, .inl ⟨rfl, ?_⟩⟩
    ·have ai := h.grow hold (by simp) rfl rfl rfl
     exact {
      hM := fun b ae => .inl (ai.hM b ae)
      h5 := fun b ae => by
       rcases ae with ae | rfl
       ·exact ai.h5 b ae
       ·exact .inr (.inr h.size)
      gy := fun b ae => by
       rcases ae with ae | rfl
       ·exact ai.gy b ae
       ·simp
      fA := ai.fA
      gF := fun t b ae bH => by
       rcases bH with bH | rfl
       ·exact ai.gF t b ae bH
       ·exact absurd (h.fA t _ ae) (Nat.lt_irrefl _)
      gl := ai.gl
      eA := ai.eA
      eu := fun t => aW.frame (fun _ _ => rfl) (fun b ae => .inl ae) (fun _ _ _ => rfl) ai.eu _ _ _ (fun _ _ => rfl) (ai.eu t)
      old := ai.old
      size := ai.size
      os := ai.os
      tape := ai.tape
      output := ai.output }
    ·rw [aW]
     intro _
     refine ⟨w.heap.size, (cY v).toArray, T, (0, 0), rfl, .inr rfl, ?_, ?_⟩
     ·show (w.heap.push _)[_]? = _
      simp
     ·rw [bf.1, ← bG]
  ·cases he
 ·cases he
theorem Ny (h : bW w0 F0 X F S s aF w) {T : TypeId} {x : I} {v : Value} (aC : x.plain = true) (a3 : aW w F s aF x v (fun _ => False)) (he : c2 s x = some (av, s1)) :
  Good C w0 F0 X aF w (Instr.box T v) av s1 := by
 unfold c2 at he
 split at he
 ·cases he
 ·rename_i d s2 pc bh
  simp only [Option.some.injEq, Prod.mk.injEq] at he
  obtain ⟨rfl, rfl⟩ := he
  obtain ⟨ct, hF, bf, bG, Sn, cC, eH, fJ, h7, iI, k6⟩ := pY h aC a3 bh
  obtain ⟨dX, eS⟩ := hF.alloc T cC eH fJ h7 iI
  refine ⟨_, _, F, ct, ?_, dX, eS⟩
  have pd := yz bG (fun az e => pc az e)
  simp [Instr.box, newVar, newRow, newObj, Sem.run, pd]
 ·cases he
end
end Go.dk
