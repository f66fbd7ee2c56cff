/- Part of a proof that a law returns true for every input. No condition. -/
import Derived.Test.YtocllehpepigpaaGreatFwB
import Derived.Laws.Entries
namespace Go.dg
inductive nR where
 | int (k : IntKind)
 | bool
 | str
 | ptr (e : TypeId)
 | slice (e : TypeId)
 | struct (ay : List (TypeId × Nat))
 | fn
 | fw (e : TypeId)
 | other
structure hn where
 k : nR
 sz : Nat
 bytes : Nat
 zero : I
mutual
def flat : I → Option (List Value)
 | .bool b => some [.bool b]
 | .int k n => some [.int k n]
 | .str s => some [.string ⟨⟨s⟩⟩]
 | .dI => some [.pointer none]
 | .bp => some [.slice none 0 0]
 | .agg ay => qg ay
 | _ => none
def qg : List I → Option (List Value)
 | [] => some []
 | d :: ds => match flat d, qg ds with
   | some a, some b => some (a ++ b)
   | _, _ => none
end
theorem aw.flat {w : World} {F : Nat → Prop} : ∀ n, (∀ (d : I) (cs : List Value) (S : Nat → Prop), SizeOf.sizeOf d ≤ n → flat d = some cs → aw w F d cs S) ∧
  (∀ (ds : List I) (cs : List Value) (S : Nat → Prop), SizeOf.sizeOf ds ≤ n → qg ds = some cs → bg w F ds cs S) := by
 intro n
 induction n with
 | zero => exact ⟨fun d _ _ b8 => by cases d <;> simp at b8 <;> omega, fun ds _ _ b8 => by cases ds <;> simp at b8 <;> omega⟩
 | succ n ih =>
   refine ⟨fun d cs S b8 h => ?_, fun ds cs S b8 h => ?_⟩
   ·cases d with
    | agg ay => rw [aw]; exact ih.2 ay cs S (by simp at b8; omega) (by simpa [dg.flat] using h)
    | bool b => simp [dg.flat] at h; subst h; rw [aw]
    | int k n => simp [dg.flat] at h; subst h; rw [aw]
    | str s => simp [dg.flat] at h; subst h; rw [aw]
    | dI => simp [dg.flat] at h; subst h; rw [aw]
    | bp => simp [dg.flat] at h; subst h; rw [aw]
    | _ => simp [dg.flat] at h
   ·cases ds with
    | nil => simp [qg] at h; subst h; rw [bg]
    | cons d ds =>
      simp only [qg] at h
      split at h
      ·rename_i a b cJ ad
       simp at h; subst h
       simp at b8
       rw [bg]
       exact ⟨a, b, fun _ => False, fun _ => False, rfl, ih.1 d a _ (by omega) cJ, ih.2 ds b _ (by omega) ad, fun _ h => h.elim, fun _ h => h.elim, fun _ h => h.elim⟩
      ·cases h
def l0 : nR → TypeDesc → Prop
 | .int k, .int dA => k = dA
 | .bool, .bool => True
 | .str, .string => True
 | .ptr e, .pointer fQ => e = fQ
 | .slice e, .slice fQ => e = fQ
 | .struct ay, .struct gs => gs.toList.map (fun g => (g.type, g.offset)) = ay
 | .fn, .func _ _ _ => True
 | .fw _, .struct _ => True
 | _, _ => False
def IK (P : Program) (t : TypeId) (x : hn) : Prop :=
 (∃ e n b z, x = ⟨.other, e, n, b⟩ ∧ z = 0) ∨
 ∃ i d z, P.info? t = some i ∧ i.size = x.sz ∧ i.bytes = x.bytes ∧ i.zero = some z ∧ (∀ cs, flat x.zero = some cs → z.cells = cs.toArray) ∧ P.underlying t = some d ∧ l0 x.k d
structure cE where
 P : Program
 T : TypeId → hn
 M : FuncId → List Bool
structure cE.Ok (C : cE) : Prop where
 ty : ∀ t, IK C.P t (C.T t)
 mixed : C.P.follows .mixedOrders = true
inductive aI where
 | t (n : Nat)
 | c (av : I)
 | f (g : FuncId)
def z_ : Value → Option I
 | .bool b => some (.bool b)
 | .int k n => some (.int k n)
 | .string s => some (.str s.data.toList)
 | .pointer none => some .dI
 | .slice none 0 0 => some .bp
 | _ => none
def ek : Operand → Option aI
 | .tmp n => some (.t n)
 | .const v => (z_ v).map .c
 | .func g => some (.f g)
 | .global _ => none
def jj (x : Nat) (d : I) : I := if d.plain then d else .h x []
def aP (s : ar) : aI → I
 | .t n => jj n (s n)
 | .c av => av
 | .f g => .fn g []
theorem aM.nothing {w : World} {F : Nat → Prop} {s : ar} {aC : Nat → Value} {d : I} {v : Value} {S aX : Nat → Prop} (az : d.plain = true) (h : aM w F s aC d v S) : aM w F s aC d v aX := by
 cases d <;> first
  | (rw [aM]; trivial)
  | (rw [aM] at h ⊢; exact h)
  | (have bP := (aM.c0 rfl).1 h; exact (aM.c0 rfl).2 ⟨bP.1, aw.plain _ _ _ _ az bP.2⟩)
section
variable {w0 w : World} {F0 X F : Nat → Prop} {S : Nat → Nat → Prop} {s : ar} {aC : Nat → Value} {a : Act}
theorem IL (s : ar) (x : aI) (ax : ∀ av, x = .c av → av.plain = true) : (aP s x).plain = true := by
 cases x with
 | t n => simp only [aP, jj]; split <;> first | assumption | rfl
 | c av => exact ax _ rfl
 | f g => rfl
theorem Et {v : Value} {av : I} (h : z_ v = some av) : av.plain = true := by
 unfold z_ at h; split at h <;> simp at h <;> subst h <;> rfl
theorem gB (h : b9 w0 F0 X F S s aC w) (fb : ∀ t, aC t = a.tmps.getD t undef) {o : Operand} {x : aI} (b_ : ek o = some x) :
  (aP s x).plain = true ∧ aM w F s aC (aP s x) (a.eval o) (fun _ => False) := by
 cases o with
 | tmp n =>
   simp [ek] at b_; subst b_
   simp only [aP, jj, Act.eval, ← fb]
   split
   ·rename_i az; exact ⟨az, aM.nothing az (h.eg n)⟩
   ·rename_i az
    refine ⟨rfl, ?_⟩
    rw [aM]
    intro d aj Eu
    simp only [I.sub, Option.some.injEq] at aj; subst aj
    have bo := iX (q := []) rfl (.inl Eu)
    exact ⟨_, none, rfl, rfl, ((aM.c0 bo).1 (h.eg n)).1⟩
 | const v =>
   simp only [ek, Option.map_eq_some_iff] at b_
   obtain ⟨av, oE, rfl⟩ := b_
   refine ⟨Et oE, ?_⟩
   simp only [aP, Act.eval]
   unfold z_ at oE
   split at oE <;> simp at oE <;> subst oE <;> rw [aM, aw] <;> exact ⟨rfl, rfl⟩
 | func g =>
   simp [ek] at b_; subst b_
   refine ⟨rfl, ?_⟩
   simp only [aP, Act.eval]
   rw [aM]
   exact ⟨#[], rfl, by rw [eL]⟩
 | global g => simp [ek] at b_
def lG (w0 : World) (X F : Nat → Prop) (S : Nat → Nat → Prop) (s : ar) (aC : Nat → Value) (w : World) (av : I) (v : Value) : Prop :=
 (av.plain = true ∧ aM w F s aC av v (fun _ => False)) ∨
 (av.tree = true ∧ eN av v ∧ ∃ Sn, aw w F av (cL v) Sn ∧ (∀ b, Sn b → b < w.heap.size) ∧ (∀ b, Sn b → ¬ F b) ∧ (∀ u b, Sn b → ¬ S u b) ∧ (∀ b, Sn b → X b ∨ w0.heap.size ≤ b))
def fin (s : ar) (dst : Option Nat) (av : I) : ar := match dst with
 | none => s
 | some t => if av.plain then dM s t av else dM (lY t s) t av
def oF (aC : Nat → Value) (dst : Option Nat) (v : Value) : Nat → Value := match dst with
 | none => aC
 | some t => dM aC t v
theorem b9.fin (h : b9 w0 F0 X F S s aC w) {av : I} {v : Value} (aQ : lG w0 X F S s aC w av v) (dst : Option Nat) :
  ∃ aX, b9 w0 F0 X F aX (dg.fin s dst av) (oF aC dst v) w := by
 cases dst with
 | none => exact ⟨S, h⟩
 | some t =>
   simp only [dg.fin, oF]
   rcases aQ with ⟨az, aj⟩ | ⟨bo, af, Sn, ae, ah, aH, a6, bN⟩
   ·rw [if_pos az]; exact ⟨_, h.uE az aj⟩
   ·split
    ·rename_i az
     exact ⟨_, h.uE az ((aM.c0 bo).2 ⟨af, aw.plain _ _ _ _ az ae⟩)⟩
    ·exact ⟨_, h.ID bo af ae ah aH (fun u b _ ad => a6 u b ad) bN⟩
def db (s : ar) : I → Option (I × ar)
 | .h x q => match I.sub q (s x) with
   | some d => if d.plain then none else some (d, dM (ji x s) x (I.put q d.du (s x)))
   | none => none
 | .az _ _ => none
 | .ad _ _ => none
 | .fn _ _ => none
 | .hole => none
 | d => some (d, s)
def I.owner : I → Option Nat
 | .h x _ => some x
 | _ => none
def kV : Option Nat → I → I
 | some x, d => cx x d
 | none, d => d
theorem pD (h : b9 w0 F0 X F S s aC w) {av d : I} {s1 : ar} {v : Value} (oE : av.plain = true) (aQ : aM w F s aC av v (fun _ => False)) (bo : db s av = some (d, s1)) :
  ∃ cu, b9 w0 F0 X F cu s1 aC w ∧ d.tree = true ∧ eN d v ∧ ∃ Sn, aw w F d (cL v) Sn ∧ (∀ b, Sn b → b < w.heap.size) ∧ (∀ b, Sn b → ¬ F b) ∧ (∀ u b, Sn b → ¬ cu u b) ∧ (∀ b, Sn b → X b ∨ w0.heap.size ≤ b) ∧
    (∀ u b, cu u b → S u b) ∧ (∀ b, Sn b → ∃ u, S u b) ∧ (∀ (bQ : I) (gU : Value) (aX : Nat → Prop), aM w F s aC bQ gU aX → aM w F s1 aC (kV av.owner bQ) gU aX) := by
 have tree : ∀ d : I, d.tree = true → d.plain = true → aM w F s aC d v (fun _ => False) →
   ∃ cu, b9 w0 F0 X F cu s aC w ∧ d.tree = true ∧ eN d v ∧ ∃ Sn, aw w F d (cL v) Sn ∧ (∀ b, Sn b → b < w.heap.size) ∧ (∀ b, Sn b → ¬ F b) ∧ (∀ u b, Sn b → ¬ cu u b) ∧ (∀ b, Sn b → X b ∨ w0.heap.size ≤ b) ∧
     (∀ u b, cu u b → S u b) ∧ (∀ b, Sn b → ∃ u, S u b) := by
  intro d aj _ bP
  have bP := (aM.c0 aj).1 bP
  exact ⟨S, h, aj, bP.1, _, bP.2, fun _ h => h.elim, fun _ h => h.elim, fun _ _ h => h.elim, fun _ h => h.elim, fun _ _ h => h, fun _ h => h.elim⟩
 cases av with
 | h x q =>
   simp only [db] at bo
   split at bo
   ·rename_i e he
    split at bo
    ·cases bo
    ·rename_i az
     simp only [Option.some.injEq, Prod.mk.injEq] at bo
     obtain ⟨rfl, rfl⟩ := bo
     have az : e.plain = false := by simpa using az
     obtain ⟨Sn, hK, dp, da, dK, bj, dD, ch, dc, dv, er⟩ := h.take he az
     rw [aM] at aQ
     obtain ⟨aA3, a7, bc, bA, cU⟩ := aQ e he az
     rw [bj] at bc
     simp only [Option.some.injEq, Prod.mk.injEq, true_and] at bc
     obtain ⟨rfl, rfl⟩ := bc
     have Ev : e.tree = true := by cases e <;> first | rfl | (simp [I.plain] at az)
     refine ⟨_, dK, Ev, cU, hK, by rw [bA]; exact dD, fun b ad => h.fh x b (ch b ad), fun b ad => h.gF x b (ch b ad), ?_, fun b ad => h.ez x b (ch b ad), ?_, fun b ad => ⟨x, ch b ad⟩, er⟩
     ·intro u b ad hu
      simp only [g3] at hu
      split at hu
      ·exact dv b ad hu
      ·rename_i Aa; exact h.gq u x b Aa hu (ch b ad)
     ·intro u b hu
      simp only [g3] at hu
      split at hu
      ·rename_i e; subst e; exact dc b hu
      ·exact hu
   ·cases bo
 | az x q => simp [db] at bo
 | ad x q => simp [db] at bo
 | fn f c => simp [db] at bo
 | hole => simp [db] at bo
 | ao sz xs => simp [I.plain] at oE
 | bb d => simp [I.plain] at oE
 | _ =>
   simp only [db, Option.some.injEq, Prod.mk.injEq] at bo
   obtain ⟨rfl, rfl⟩ := bo
   obtain ⟨cu, t1, t2, t3, Sn, t4, t5, t6, t7, t8, t9, t10⟩ := tree _ rfl oE aQ
   exact ⟨cu, t1, t2, t3, Sn, t4, t5, t6, t7, t8, t9, t10, fun _ _ _ h => h⟩
def loc (s : ar) : I → Option (Nat × List Nat)
 | .h x q => match I.sub q (s x) with
   | some (.bb _) => some (x, q ++ [0])
   | _ => none
 | .az x q => if I.gh q (s x) then some (x, q) else none
 | _ => none
theorem w1 : ∀ (q : List Nat) (av d : I) (r : List Nat), I.sub q av = some d → I.sub (q ++ r) av = I.sub r d := by
 intro q
 induction q with
 | nil => intro av d r h; simp [I.sub] at h; subst h; rfl
 | cons k q ih =>
   intro av d r h
   cases av with
   | agg ay =>
     simp only [I.sub, List.cons_append] at h ⊢
     split at h
     ·rename_i x aq; exact ih _ _ _ h
     ·cases h
   | tuple ay =>
     simp only [I.sub, List.cons_append] at h ⊢
     split at h
     ·rename_i x aq; exact ih _ _ _ h
     ·cases h
   | ao sz ay =>
     simp only [I.sub, List.cons_append] at h ⊢
     split at h
     ·rename_i x aq; exact ih _ _ _ h
     ·cases h
   | bb x =>
     cases k with
     | zero => simp only [I.sub, List.cons_append] at h ⊢; exact ih _ _ _ h
     | succ k => simp [I.sub] at h
   | _ => simp [I.sub] at h
theorem QN : ∀ (q : List Nat) (av d : I) (r : List Nat), I.sub q av = some d → I.gh (q ++ r) av = (I.gh q av || I.gh r d) := by
 intro q
 induction q with
 | nil => intro av d r h; simp [I.sub] at h; subst h; simp [I.gh]
 | cons k q ih =>
   intro av d r h
   cases av with
   | agg ay =>
     simp only [I.sub] at h
     split at h
     ·rename_i x aq
      simp only [I.gh, List.cons_append, aq]
      exact ih _ _ r h
     ·cases h
   | tuple ay =>
     simp only [I.sub] at h
     split at h
     ·rename_i x aq
      simp only [I.gh, List.cons_append, aq]
      exact ih _ _ r h
     ·cases h
   | ao sz ay => simp [I.gh]
   | bb x => simp [I.gh]
   | _ => simp [I.sub] at h
theorem w2 (w : World) : ∀ (q : List Nat) (av d : I) (cs dp : List Value) (a da : Option (Nat × Nat)) (r : List Nat), dJ w q av cs a = some (d, dp, da) → dJ w (q ++ r) av cs a = dJ w r d dp da := by
 intro q
 induction q with
 | nil => intro av d cs dp a da r h; simp [dJ] at h; obtain ⟨rfl, rfl, rfl⟩ := h; rfl
 | cons k q ih =>
   intro av d cs dp a da r h
   cases av with
   | agg ay =>
     rw [List.cons_append]
     rw [dJ] at h ⊢
     split at h
     ·rename_i x aq; exact ih _ _ _ _ _ _ _ h
     ·cases h
   | tuple ay =>
     rw [List.cons_append]
     rw [dJ] at h ⊢
     split at h
     ·rename_i x aq; exact ih _ _ _ _ _ _ _ h
     ·cases h
   | ao sz ay =>
     rw [List.cons_append]
     rw [dJ.eq_def] at h ⊢
     simp only at h ⊢
     split at h
     ·exact ih _ _ _ _ _ _ _ h
     ·cases h
   | bb x =>
     cases k with
     | zero =>
       rw [List.cons_append]
       rw [dJ.eq_def] at h ⊢
       simp only at h ⊢
       split at h
       ·exact ih _ _ _ _ _ _ _ h
       ·cases h
     | succ k => rw [show dJ w ((k + 1) :: q) (.bb x) cs a = none from rfl] at h; cases h
   | _ => simp [dJ] at h
end
def hn.ok (x : hn) : Bool := match x.k with
 | .other => false
 | _ => true
theorem cE.Ok.info {C : cE} (bz : C.Ok) {t : TypeId} (h : (C.T t).ok = true) :
  ∃ i d z, C.P.info? t = some i ∧ i.size = (C.T t).sz ∧ i.bytes = (C.T t).bytes ∧ i.zero = some z ∧ (∀ cs, flat (C.T t).zero = some cs → z.cells = cs.toArray) ∧ C.P.underlying t = some d ∧ l0 (C.T t).k d := by
 rcases bz.ty t with ⟨e, n, b, z, aq, _⟩ | bP
 ·rw [aq] at h; simp [hn.ok] at h
 ·exact bP
theorem gV {x : hn} {k : nR} (h : x.k = k) (aA : k ≠ .other) : x.ok = true := by
 unfold hn.ok; rw [h]; cases k <;> first | rfl | exact (aA rfl).elim
theorem w3 {d : TypeDesc} {ay : List (TypeId × Nat)} (h : l0 (.struct ay) d) : ∃ gs, d = .struct gs ∧ gs.toList.map (fun g => (g.type, g.offset)) = ay := by
 cases d <;> simp [l0] at h
 exact ⟨_, rfl, h⟩
theorem lH {d : TypeDesc} {e : TypeId} (h : l0 (.slice e) d) : d = .slice e := by
 cases d <;> simp [l0] at h
 rw [h]
theorem w4 {d : TypeDesc} {k : IntKind} (h : l0 (.int k) d) : d = .int k := by
 cases d <;> simp [l0] at h
 rw [h]
theorem qh {d : TypeDesc} (h : l0 .str d) : d = .string := by
 cases d <;> simp [l0] at h
 rfl
theorem Ew {d : TypeDesc} (h : l0 .bool d) : d = .bool := by
 cases d <;> simp [l0] at h
 rfl
theorem IM {d : TypeDesc} {e : TypeId} (h : l0 (.ptr e) d) : d = .pointer e := by
 cases d <;> simp [l0] at h
 rw [h]
theorem hF {v : Value} (h : Value.hf v = true) : cL v = [v] := by
 cases v <;> first | rfl | (simp [Value.hf] at h)
theorem sk {P : Program} {t : TypeId} {i : TypeInfo} (h : P.info? t = some i) (w : World) : (typeInfo t).run P w = .ok i w := by simp [typeInfo, h]
theorem kc {P : Program} {t : TypeId} {i : TypeInfo} (h : P.info? t = some i) (w : World) : (Go.sizeOf t).run P w = .ok i.size w := by simp [Go.sizeOf, sk h]
theorem sl {P : Program} {t : TypeId} {i : TypeInfo} {z : Value} (h : P.info? t = some i) (b8 : i.zero = some z) (w : World) : (zeroValue t).run P w = .ok z w := by simp [zeroValue, sk h, b8]
section
variable {C : cE} {w0 w : World} {F0 X F : Nat → Prop} {S : Nat → Nat → Prop} {s s1 : ar} {aC : Nat → Value} {av : I}
def Good (C : cE) (w0 : World) (F0 X : Nat → Prop) (aC : Nat → Value) (w : World) (m : Sem Value) (av : I) (s1 : ar) : Prop :=
 ∃ v aO b7 aX, m.run C.P w = .ok v aO ∧ b9 w0 F0 X b7 aX s1 aC aO ∧ lG w0 X b7 aX s1 aC aO av v
theorem Good.same (h : b9 w0 F0 X F S s aC w) {m : Sem Value} {v : Value} (aZ : m.run C.P w = .ok v w) (az : av.plain = true) (aQ : aM w F s aC av v (fun _ => False)) : Good C w0 F0 X aC w m av s :=
 ⟨v, w, F, S, aZ, h, .inl ⟨az, aQ⟩⟩
theorem Ex (_h : b9 w0 F0 X F S s aC w) {x : I} {v : Value} (aQ : aM w F s aC x v (fun _ => False)) {y : Nat} {q : List Nat} (hl : loc s x = some (y, q)) {d : I} (aj : I.sub q (s y) = some d) :
  I.gh q (s y) = true ∧ ∃ dp b o, v = .pointer (some ⟨b, o, none⟩) ∧ dJ w q (s y) (cL (aC y)) none = some (d, dp, some (b, o)) := by
 cases x with
 | h z Ab =>
   simp only [loc] at hl
   split at hl
   ·rename_i e he
    simp only [Option.some.injEq, Prod.mk.injEq] at hl
    obtain ⟨rfl, rfl⟩ := hl
    rw [aM] at aQ
    obtain ⟨dp, a, bc, bA, cU⟩ := aQ _ he rfl
    have hR : e = d := by
     rw [w1 _ _ _ _ he] at aj
     simpa [I.sub] using aj
    subst hR
    refine ⟨by rw [QN _ _ _ _ he]; simp [I.gh], ?_⟩
    have ae : Value.hf v = true := cU
    rw [hF ae] at bA
    subst bA
    have lF := w2 w Ab (s z) _ _ _ none a [0] bc
    have aq := _h.eg z
    rw [aM.c0 (iX he (.inl rfl))] at aq
    obtain ⟨gO, da, fl, hK, k0, ca, cy, fy, eB, gr⟩ := ctx Ab (s z) (cL (aC z)) (S z) none _ aq.2 he
    rw [k0] at bc
    simp only [Option.some.injEq, Prod.mk.injEq, true_and] at bc
    obtain ⟨rfl, rfl⟩ := bc
    rw [aw] at eB
    obtain ⟨b, cur, ba, fr, ej, aW, _⟩ := eB
    simp only [List.cons.injEq, and_true] at aW
    subst aW
    exact ⟨_, b, 0, rfl, by rw [lF]; rfl⟩
   ·cases hl
 | az z Ab =>
   simp only [loc] at hl
   split at hl
   ·rename_i ax
    simp only [Option.some.injEq, Prod.mk.injEq] at hl
    obtain ⟨rfl, rfl⟩ := hl
    rw [aM] at aQ
    obtain ⟨dp, b, o, bc, bA⟩ := aQ _ aj ax
    exact ⟨ax, dp, b, o, bA, bc⟩
   ·cases hl
 | _ => simp [loc] at hl
def c1 (C : cE) (s : ar) (T : TypeId) (x : I) (k : Nat) : Option I :=
 match (C.T T).k with
 | .struct ay => match ay[k]? with
   | some (jY, off) => if (C.T jY).ok = true ∧ (C.T jY).sz ≠ 0 then
     match x with
     | .ref (.agg ds) => match ds[k]? with
       | some d => if I.eK (ds.take k) = off then some (.ref d) else none
       | none => none
     | .ad y o => if (s y).plain then none else some (.ad y (o + off))
     | x => match loc s x with
       | some (y, q) => match I.sub q (s y) with
         | some (.agg ds) => if k < ds.length ∧ I.eK (ds.take k) = off then some (.az y (q ++ [k])) else none
         | _ => none
       | none => none
     else none
   | none => none
 | _ => none
theorem Rd.Ey {w : World} {b o : Nat} {cD gE cz : List Value} (h : Rd w b o (cD ++ (gE ++ cz))) : Rd w b (o + cD.length) gE := by
 intro j c cH
 have e7 : j < gE.length := (List.getElem?_eq_some_iff.1 cH).1
 have := h (cD.length + j) c (by rw [List.getElem?_append_right (by omega), List.getElem?_append_left (by omega), ← cH]; congr 1; omega)
 rw [Nat.add_assoc]; exact this
theorem Ez (bz : C.Ok) {T jY : TypeId} {ay : List (TypeId × Nat)} {k off : Nat} (aA : (C.T T).k = .struct ay) (bF : ay[k]? = some (jY, off)) (ae : (C.T jY).ok = true) (ah : (C.T jY).sz ≠ 0) (b o : Nat) (w : World) :
  (Instr.fieldAt T (.pointer (some ⟨b, o, none⟩)) k).run C.P w = .ok (.pointer (some ⟨b, o + off, none⟩)) w := by
 obtain ⟨i, d, z, aU, ba, aW, cS, cZ, cn, bV⟩ := bz.info (gV aA (by simp))
 rw [aA] at bV
 obtain ⟨gs, rfl, hv⟩ := w3 bV
 obtain ⟨uG, bQ, ri, f1, f2, f3, f4, f5, f6, f7⟩ := bz.info ae
 have cb : ∃ g, gs[k]? = some g ∧ g.type = jY ∧ g.offset = off := by
  rw [← hv, List.getElem?_map] at bF
  simp only [Option.map_eq_some_iff, Prod.mk.injEq] at bF
  obtain ⟨g, ae, ah, aH⟩ := bF
  exact ⟨g, by simpa using ae, ah, aH⟩
 obtain ⟨g, bc, rfl, rfl⟩ := cb
 simp [Instr.fieldAt, run_underlying cn, bc, Instr.sureAddr, fieldPlace, kc f1, f2, ah, Addr.add_lit]
theorem QO (bz : C.Ok) (h : b9 w0 F0 X F S s aC w) {T : TypeId} {x : I} {v : Value} {k : Nat} (aq : x.plain = true) (aQ : aM w F s aC x v (fun _ => False)) (he : c1 C s T x k = some av) :
  Good C w0 F0 X aC w (Instr.fieldAt T v k) av s := by
 unfold c1 at he
 split at he
 ·rename_i ay aA
  split at he
  ·rename_i jY off bF
   split at he
   ·rename_i uH
    split at he
    ·rename_i ds
     split at he
     ·rename_i d aj
      split at he
      ·rename_i pE
       simp only [Option.some.injEq] at he; subst he
       have mj := (aM.c0 rfl).1 aQ
       rw [aw] at mj
       obtain ⟨af, b, o, e3, ae, ah, aH, a6⟩ := mj
       rw [hF af] at ae
       simp only [List.cons.injEq, and_true] at ae; subst ae
       rw [aw] at a6
       obtain ⟨cD, gE, cz, cu, ij, rfl, h7, f_, hk, ik, gP, mh⟩ := bg.pick ds _ _ k d a6 aj
       refine Good.same h (Ez bz aA bF uH.1 uH.2 b o w) rfl ((aM.c0 rfl).2 ⟨rfl, ?_⟩)
       rw [aw]
       refine ⟨b, o + off, gE, rfl, ah, ?_, aw.mono (fun _ h => h) _ _ _ _ (fun b ad => hk b ad) gP⟩
       rw [← pE, ← h7]; exact aH.Ey
      ·cases he
     ·cases he
    ·rename_i y o
     split at he
     ·cases he
     ·rename_i az
      simp only [Option.some.injEq] at he; subst he
      rw [aM] at aQ
      obtain ⟨b, cur, e, fr, rfl, ah, aH, a6⟩ := aQ (by simpa using az)
      refine Good.same h (Ez bz aA bF uH.1 uH.2 b o w) rfl ?_
      rw [aM]
      exact fun _ => ⟨b, cur, e, fr, rfl, ah, aH, a6⟩
    ·rename_i x _ _
     split at he
     ·rename_i y q hl
      split at he
      ·rename_i ds aj
       split at he
       ·rename_i pE
        simp only [Option.some.injEq] at he; subst he
        obtain ⟨ax, dp, b, o, rfl, lF⟩ := Ex h aQ hl aj
        refine Good.same h (Ez bz aA bF uH.1 uH.2 b o w) rfl ?_
        rw [aM]
        intro d2 i5 mK
        rw [w2 w q _ _ _ _ _ _ [k] lF]
        rw [w1 _ _ _ _ aj] at i5
        have oG : ∃ d3, ds[k]? = some d3 := ⟨_, List.getElem?_eq_getElem pE.1⟩
        obtain ⟨d3, w5⟩ := oG
        simp only [I.sub, w5, Option.some.injEq] at i5
        subst i5
        simp only [dJ, w5]
        refine ⟨(dp.drop off).take d3.wd, b, o + off, ?_, rfl⟩
        rw [pE.2]; rfl
       ·cases he
      ·cases he
     ·cases he
   ·cases he
  ·cases he
 ·cases he
def fv (C : cE) (s : ar) (T : TypeId) (x i : I) : Option I :=
 match (C.T T).k, i with
 | .slice e, .int _ n => if 0 ≤ n ∧ (C.T e).ok = true then
   match x with
   | .slice xs => match xs[n.toNat]? with
     | some d => if d.wd = (C.T e).sz then some (.ref d) else none
     | none => none
   | .h y q => match I.sub q (s y) with
     | some (.ao sz xs) => if n.toNat < xs.length ∧ sz = (C.T e).sz then some (.az y (q ++ [n.toNat])) else none
     | _ => none
   | _ => none
   else none
 | _, _ => none
theorem IP (bz : C.Ok) {T e : TypeId} (aA : (C.T T).k = .slice e) (he : (C.T e).ok = true) (b o len cap : Nat) (k : IntKind) (n : Nat) (a_ : n < len) (w : World) :
  (Instr.indexAt T (.slice (some ⟨b, o, none⟩) len cap) (.int k n)).run C.P w = .ok (.pointer (some ⟨b, o + n * (C.T e).sz, none⟩)) w := by
 obtain ⟨i, d, z, aU, ba, aW, cS, cZ, cn, bV⟩ := bz.info (gV aA (by simp))
 rw [aA] at bV
 have := lH bV; subst this
 obtain ⟨uG, bQ, ri, f1, f2, f3, f4, f5, f6, f7⟩ := bz.info he
 simp [Instr.indexAt, run_underlying cn, asIntOf, a_, kc f1, f2, Addr.add_lit]
theorem QP (bz : C.Ok) (h : b9 w0 F0 X F S s aC w) {T : TypeId} {x i : I} {v uI : Value} (aQ : aM w F s aC x v (fun _ => False)) (QQ : aM w F s aC i uI (fun _ => False))
  (he : fv C s T x i = some av) : Good C w0 F0 X aC w (Instr.indexAt T v uI) av s := by
 unfold fv at he
 split at he
 ·rename_i e k n aA
  have EA := (aM.c0 rfl).1 QQ
  rw [aw, hF EA.1] at EA
  have : uI = .int k n := by simpa using EA.2
  subst this
  split at he
  ·rename_i a_
   obtain ⟨n, rfl⟩ := Int.eq_ofNat_of_zero_le a_.1
   simp only [Int.toNat_natCast] at he
   split at he
   ·rename_i xs
    split at he
    ·rename_i d aj
     split at he
     ·rename_i hw
      simp only [Option.some.injEq] at he; subst he
      have mj := (aM.c0 rfl).1 aQ
      rw [aw, hF mj.1] at mj
      obtain ⟨af, ⟨rfl, _⟩ | ⟨b, o, cap, e3, sz, ae, ah, aH, a6, bN, cW, cI⟩⟩ := mj
      ·simp at aj
      ·simp only [List.cons.injEq, and_true] at ae; subst ae
       have e7 : n < xs.length := (List.getElem?_eq_some_iff.1 aj).1
       obtain ⟨cD, gE, cz, cu, ij, rfl, h7, f_, hk, ik, gP, mh⟩ := bg.pick xs _ _ n d cI aj
       refine Good.same h (IP bz aA a_.2 b o _ _ k n e7 w) rfl ((aM.c0 rfl).2 ⟨rfl, ?_⟩)
       rw [aw]
       refine ⟨b, _, gE, rfl, ah, ?_, aw.mono (fun _ h => h) _ _ _ _ (fun b ad => hk b ad) gP⟩
       have QR := bN d (List.mem_of_getElem? aj)
       have : n * (C.T e).sz = cD.length := by
        rw [h7, sd _ (fun d aj => bN d (List.mem_of_mem_take aj)), List.length_take, Nat.min_eq_left (by omega), ← hw, QR]
       rw [this]; exact cW.Ey
     ·cases he
    ·cases he
   ·rename_i y q
    split at he
    ·rename_i sz xs aj
     split at he
     ·rename_i hw
      simp only [Option.some.injEq] at he; subst he
      rw [aM] at aQ
      obtain ⟨dp, a, bc, bA, cU⟩ := aQ _ aj rfl
      have af : Value.hf v = true := cU
      rw [hF af] at bA; subst bA
      have aq := h.eg y
      rw [aM.c0 (iX aj (.inl rfl))] at aq
      obtain ⟨gO, da, fl, hK, k0, ca, cy, fy, eB, gr⟩ := ctx q (s y) (cL (aC y)) (S y) none _ aq.2 aj
      rw [k0] at bc
      simp only [Option.some.injEq, Prod.mk.injEq, true_and] at bc
      obtain ⟨rfl, rfl⟩ := bc
      rw [aw] at eB
      rcases eB with ⟨rfl, _⟩ | ⟨b, cap, cur, ba, fr, ej, aW, _⟩
      ·simp at hw
      ·simp only [List.cons.injEq, and_true] at aW; subst aW
       refine Good.same h (IP bz aA a_.2 b 0 _ _ k n hw.1 w) rfl ?_
       rw [aM]
       intro d2 i5 _
       rw [w2 w q _ _ _ _ _ _ [n] k0]
       rw [w1 _ _ _ _ aj] at i5
       obtain ⟨d3, w5⟩ : ∃ d3, xs[n]? = some d3 := ⟨_, List.getElem?_eq_getElem hw.1⟩
       simp only [I.sub, w5, Option.some.injEq] at i5
       subst i5
       simp only [dJ, w5]
       exact ⟨_, b, n * sz, rfl, by simp [hw.2]⟩
     ·cases he
    ·cases he
   ·cases he
  ·cases he
 ·cases he
end
section
variable {C : cE} {w0 w : World} {F0 X F : Nat → Prop} {S : Nat → Nat → Prop} {s s1 : ar} {aC : Nat → Value} {av : I}
theorem IQ (bz : C.Ok) {T : TypeId} {ay : List (TypeId × Nat)} (aA : (C.T T).k = .struct ay) (w : World) : (isAgg T).run C.P w = .ok true w := by
 obtain ⟨i, d, z, aU, ba, aW, cS, cZ, cn, bV⟩ := bz.info (gV aA (by simp))
 rw [aA] at bV
 obtain ⟨gs, rfl, _⟩ := w3 bV
 simp [isAgg, run_underlying cn]
def hn.flat (x : hn) : Bool := match x.k with
 | .other => false
 | .fw _ => false
 | .struct _ => false
 | _ => true
theorem IU {x : hn} (h : x.flat = true) : x.ok = true := by
 unfold hn.flat at h; unfold hn.ok; revert h; cases x.k <;> simp
theorem EB (bz : C.Ok) {T : TypeId} (aA : (C.T T).flat = true) (w : World) : (isAgg T).run C.P w = .ok false w := by
 obtain ⟨i, d, z, aU, ba, aW, cS, cZ, cn, bV⟩ := bz.info (IU aA)
 have dL : (∀ ay, d ≠ .struct ay) ∧ (∀ n e, d ≠ .array n e) := by
  clear cn
  unfold hn.flat at aA
  generalize (C.T T).k = ml at *
  cases ml <;> cases d <;> simp [l0] at bV aA ⊢
 cases d <;> first | exact (dL.1 _ rfl).elim | exact (dL.2 _ _ rfl).elim | simp [isAgg, run_underlying cn]
theorem Rd.one {w : World} {b o : Nat} {v : Value} (h : Rd w b o [v]) : w.cell? ⟨b, o, none⟩ = some v := by simpa using h 0 v rfl
theorem IV {P : Program} {b o : Nat} : ∀ (cs : List Value) (i : Nat) (acc : Array Value), Rd w b (o + i) cs → (loadCellsFrom ⟨b, o, none⟩ i cs.length acc).run P w = .ok (acc ++ cs.toArray) w
 | [], i, acc, _ => by simp [loadCellsFrom]
 | c :: cs, i, acc, h => by
   have bf : w.cell? ⟨b, o + i, none⟩ = some c := by simpa using h 0 c rfl
   have ae : Rd w b (o + (i + 1)) cs := by
    intro j x cH
    have := h (j + 1) x (by simpa using cH)
    rw [← this]; congr 2; omega
   have ih := IV (P := P) cs (i + 1) (acc.push c) ae
   simp only [List.length_cons, loadCellsFrom, Sem.run_bind, Go.load, Sem.run, Addr.add_lit, bf, Result.andThen]
   rw [ih]; simp
theorem QS (bz : C.Ok) {T : TypeId} {ay : List (TypeId × Nat)} (aA : (C.T T).k = .struct ay) {b o : Nat} {cs : List Value} (h : Rd w b o cs) (hl : cs.length = (C.T T).sz) :
  (loadVar T ⟨b, o, none⟩).run C.P w = .ok (.agg cs.toArray) w := by
 obtain ⟨i, d, z, aU, ba, aW, cS, cZ, cn, bV⟩ := bz.info (gV aA (by simp))
 have := IV (P := C.P) (b := b) (o := o) cs 0 #[] (by simpa using h)
 simp only [loadVar, Sem.run_bind, IQ bz aA, Result.andThen, if_true, kc aU, ba, ← hl, loadCells, this]
 simp
theorem IW (bz : C.Ok) {T : TypeId} (aA : (C.T T).flat = true) {b o : Nat} {v : Value} (h : Rd w b o [v]) :
  (loadVar T ⟨b, o, none⟩).run C.P w = .ok v w := by
 simp [loadVar, EB bz aA, Go.load, Sem.run, h.one]
def fits (C : cE) (T : TypeId) (d : I) : Bool := match (C.T T).k, d with
    | .struct _, .agg ds => I.eK ds == (C.T T).sz
    | .struct _, _ => false
    | _, .agg _ => false
    | _, .tuple _ => false
    | _, _ => (C.T T).flat
def Ac : List I → Nat → Nat → Option Nat
 | [], _, _ => none
 | d :: ds, i, k => if k = 0 then some i else if d.wd ≤ k then Ac ds (i + 1) (k - d.wd) else none
def cl (C : cE) (s : ar) (T : TypeId) (x : I) : Option I :=
 match x with
 | .ref d => if fits C T d = true then some d else none
 | .ad y k => match s y with
   | .agg ds => if I.ed ds then none else match Ac ds 0 k with
     | some i => match ds[i]? with
       | some d => if I.eK (ds.take i) = k ∧ fits C T d = true then some (if d.plain then d else .h y [i]) else none
       | none => none
     | none => none
   | _ => none
 | x => match loc s x with
   | some (y, q) => match I.sub q (s y) with
     | some d => if fits C T d = true then some (if d.plain then d else .h y q) else none
     | none => none
   | none => none
theorem aw.one {F : Nat → Prop} {d : I} {cs : List Value} {S : Nat → Prop} (h : aw w F d cs S) (ae : ∀ ay, d ≠ .agg ay) (ah : ∀ ay, d ≠ .tuple ay) : ∃ v, cs = [v] ∧ Value.hf v = true := by
 cases d with
 | hole => rw [aw] at h; obtain ⟨v, h, rfl⟩ := h; exact ⟨v, rfl, h⟩
 | fu => rw [aw] at h; obtain ⟨v, rfl⟩ := h; exact ⟨_, rfl, rfl⟩
 | slice xs => rw [aw] at h; rcases h with ⟨_, a, c, rfl, _⟩ | ⟨b, o, cap, e3, sz, rfl, _⟩ <;> exact ⟨_, rfl, rfl⟩
 | ao sz xs => rw [aw] at h; rcases h with ⟨_, _, rfl⟩ | ⟨b, cap, cur, e, fr, ez, rfl, _⟩ <;> exact ⟨_, rfl, rfl⟩
 | ref d => rw [aw] at h; obtain ⟨b, o, e3, rfl, _⟩ := h; exact ⟨_, rfl, rfl⟩
 | bb d => rw [aw] at h; obtain ⟨b, cur, e, fr, ez, rfl, _⟩ := h; exact ⟨_, rfl, rfl⟩
 | agg ay => exact (ae _ rfl).elim
 | tuple ay => exact (ah _ rfl).elim
 | fn _ _ => rw [aw] at h; obtain ⟨arr, rfl, _⟩ := h; exact ⟨_, rfl, rfl⟩
 | h _ _ => rw [aw] at h; exact h.elim
 | az _ _ => rw [aw] at h; exact h.elim
 | ad _ _ => rw [aw] at h; exact h.elim
 | fg _ => rw [aw] at h; obtain ⟨v, hQ, rfl⟩ := lX.one h; exact ⟨v, rfl, hQ⟩
 | _ => rw [aw] at h; subst h; exact ⟨_, rfl, rfl⟩
theorem I.Ad {d : I} (h : d.single = true) : (∀ ay, d ≠ .agg ay) ∧ ∀ ay, d ≠ .tuple ay :=
 ⟨fun ay e => (by subst e; cases h), fun ay e => (by subst e; cases h)⟩
theorem aM.oH {F : Nat → Prop} {s : ar} {aC : Nat → Value} {d : I} {v : Value} (bo : d.tree = true) (af : d.single = true) (h : aw w F d [v] (fun _ => False)) : aM w F s aC d v (fun _ => False) := by
 obtain ⟨gU, e, ae⟩ := aw.one h (I.Ad af).1 (I.Ad af).2
 have : v = gU := by simpa using e
 subst this
 refine (aM.c0 bo).2 ⟨?_, by rw [hF ae]; exact h⟩
 cases d <;> first | exact ae | cases af
mutual
theorem aM.pF {F : Nat → Prop} {s : ar} {aC : Nat → Value} : ∀ (d : I) (v : Value), d.single = true → aw w F d [v] (fun _ => False) → aM w F s aC d v (fun _ => False)
 | .fn f caps, v, _, h => by
   rw [aw] at h
   obtain ⟨arr, ae, ah, aH⟩ := h
   rw [aM]
   exact ⟨arr, by simpa using ae, eL.pF caps _ ah aH⟩
 | .bool b, v, af, h => aM.oH rfl af h
 | .fu, v, af, h => aM.oH rfl af h
 | .int k n, v, af, h => aM.oH rfl af h
 | .str x, v, af, h => aM.oH rfl af h
 | .dI, v, af, h => aM.oH rfl af h
 | .bp, v, af, h => aM.oH rfl af h
 | .slice xs, v, af, h => aM.oH rfl af h
 | .ao sz xs, v, af, h => aM.oH rfl af h
 | .ref d, v, af, h => aM.oH rfl af h
 | .bb d, v, af, h => aM.oH rfl af h
 | .h _ _, v, _, h => by rw [aw] at h; exact h.elim
 | .az _ _, v, _, h => by rw [aw] at h; exact h.elim
 | .ad _ _, v, _, h => by rw [aw] at h; exact h.elim
 | .fg _, v, af, h => aM.oH rfl af h
theorem eL.pF {F : Nat → Prop} {s : ar} {aC : Nat → Value} : ∀ (ds : List I) (vs : List Value), (∀ d ∈ ds, d.single = true) → bg w F ds vs (fun _ => False) → eL w F s aC ds vs
 | [], vs, _, h => by rw [bg] at h; rw [eL]; exact h
 | d :: ds, vs, af, h => by
   rw [bg] at h
   obtain ⟨cD, cz, cu, ej, rfl, ah, aH, a6, bN, _⟩ := h
   have aj := af d (by simp)
   obtain ⟨v, rfl, _⟩ := aw.one ah (I.Ad aj).1 (I.Ad aj).2
   rw [eL]
   exact ⟨v, cz, rfl, aM.pF d v aj (aw.mono (fun _ h => h) _ _ _ _ (fun b ad => a6 b ad) ah), eL.pF ds cz (fun x aq => af x (by simp [aq])) (bg.mono (fun _ h => h) _ _ _ _ (fun b ad => bN b ad) aH)⟩
end
theorem Ae (bz : C.Ok) {T : TypeId} {d : I} {b o : Nat} {cs : List Value} {S : Nat → Prop} (h : Rd w b o cs) (aj : aw w F d cs S)
  (iu : fits C T d = true) :
  ∃ v, (loadVar T ⟨b, o, none⟩).run C.P w = .ok v w ∧ cL v = cs ∧ eN d v := by
 unfold fits at iu
 by_cases af : ∃ ay, (C.T T).k = .struct ay
 ·obtain ⟨ay, aA⟩ := af
  rw [aA] at iu
  cases d with
  | agg ds =>
    simp only [beq_iff_eq] at iu
    refine ⟨_, QS bz aA h ((aw.length _ _ _ aj).trans iu), rfl, ⟨_, rfl⟩⟩
  | _ => simp at iu
 ·have jB : (C.T T).flat = true ∧ (∀ ay, d ≠ .agg ay) ∧ (∀ ay, d ≠ .tuple ay) := by
   revert iu af
   cases aA : (C.T T).k <;> cases d <;> simp
  obtain ⟨v, rfl, ae⟩ := aw.one aj jB.2.1 jB.2.2
  refine ⟨v, IW bz jB.1 h, hF ae, ?_⟩
  cases d <;> first | exact ae | exact (jB.2.1 _ rfl).elim | exact (jB.2.2 _ rfl).elim
theorem QT (bz : C.Ok) {T : TypeId} {d : I} {off : Nat} {arr : Array Value} {cD cs cz : List Value} {S : Nat → Prop} (he : arr.toList = cD ++ (cs ++ cz)) (b_ : cD.length = off) (aj : aw w F d cs S)
  (iu : fits C T d = true) :
  ∃ v, (part T arr off).run C.P w = .ok v w ∧ cL v = cs ∧ eN d v := by
 unfold fits at iu
 by_cases af : ∃ ay, (C.T T).k = .struct ay
 ·obtain ⟨ay, aA⟩ := af
  rw [aA] at iu
  cases d with
  | agg ds =>
    simp only [beq_iff_eq] at iu
    obtain ⟨i, d, z, aU, ba, aW, cS, cZ, cn, bV⟩ := bz.info (gV aA (by simp))
    have hl : cs.length = (C.T T).sz := (aw.length _ _ _ aj).trans iu
    have aq : (arr.extract off (off + (C.T T).sz)).toList = cs := by
     rw [Array.toList_extract, he, List.extract_eq_take_drop, ← hl, ← b_, Nat.add_sub_cancel_left, List.drop_left, List.take_left]
    refine ⟨.agg (arr.extract off (off + (C.T T).sz)), ?_, by simpa [cL, il] using aq, ⟨_, rfl⟩⟩
    simp [part, IQ bz aA, kc aU, ba]
  | _ => simp at iu
 ·have jB : (C.T T).flat = true ∧ (∀ ay, d ≠ .agg ay) ∧ (∀ ay, d ≠ .tuple ay) := by
   revert iu af
   cases aA : (C.T T).k <;> cases d <;> simp
  obtain ⟨v, rfl, ae⟩ := aw.one aj jB.2.1 jB.2.2
  have cb : arr[off]? = some v := by
   rw [← Array.getElem?_toList, he, ← b_, List.getElem?_append_right (Nat.le_refl _)]; simp
  refine ⟨v, ?_, hF ae, ?_⟩
  ·simp [part, EB bz jB.1, cb]
  ·cases d <;> first | exact ae | exact (jB.2.1 _ rfl).elim | exact (jB.2.2 _ rfl).elim
theorem QU (bz : C.Ok) (h : b9 w0 F0 X F S s aC w) {T : TypeId} {x : I} {v : Value} (aQ : aM w F s aC x v (fun _ => False)) (he : cl C s T x = some av) :
  Good C w0 F0 X aC w (Instr.loadAt T v) av s := by
 unfold cl at he
 split at he
 ·rename_i d
  split at he
  ·rename_i iu
   simp only [Option.some.injEq] at he; subst he
   have mj := (aM.c0 rfl).1 aQ
   rw [aw, hF mj.1] at mj
   obtain ⟨af, b, o, e3, ae, ah, aH, a6⟩ := mj
   simp only [List.cons.injEq, and_true] at ae; subst ae
   obtain ⟨gU, aZ, ax, nS⟩ := Ae bz aH a6 iu
   have e8 : (Instr.loadAt T (.pointer (some ⟨b, o, none⟩))).run C.P w = .ok gU w := by simp [Instr.loadAt, Instr.sureAddr, aZ]
   refine ⟨gU, w, F, S, e8, h, ?_⟩
   by_cases bo : d.tree = true
   ·exact .inr ⟨bo, nS, fun _ => False, by rw [ax]; exact a6, fun _ h => h.elim, fun _ h => h.elim, fun _ _ h => h.elim, fun _ h => h.elim⟩
   ·cases d <;> first | exact (bo rfl).elim | (rw [aw] at a6; exact a6.elim) | exact .inl ⟨rfl, by rw [aM]; trivial⟩ | (have bN := a6; rw [aw] at bN; obtain ⟨arr, e, _⟩ := bN; rw [← ax] at e a6; rw [hF (by exact nS)] at a6; exact .inl ⟨rfl, aM.pF _ _ rfl a6⟩)
  ·cases he
 ·rename_i y k
  split at he
  ·rename_i ds nj
   split at he
   ·cases he
   ·rename_i w6
    split at he
    ·rename_i i au
     split at he
     ·rename_i d aj
      split at he
      ·rename_i iu
       simp only [Option.some.injEq] at he
       have gG : (s y).plain = false := by rw [nj]; simp only [I.plain]; simpa using w6
       rw [aM] at aQ
       obtain ⟨b, cur, e, fr, rfl, ah, aH, a6⟩ := aQ gG
       have bl := h.eg y
       rw [nj] at bl
       have IX := ((aM.c0 rfl).1 bl).2
       rw [aw] at IX
       obtain ⟨cD, gE, cz, cu, ij, hh, h7, f_, hk, ik, gP, mh⟩ := bg.pick ds _ _ i d IX aj
       have kb : Rd w b k gE := by
        intro j c cH
        have e7 : j < gE.length := (List.getElem?_eq_some_iff.1 cH).1
        have : cur.toList[k + j]? = some c := by
         rw [a6, hh, List.getElem?_append_right (by omega), List.getElem?_append_left (by omega), ← cH]; congr 1; omega
        simp [World.cell?, aH]
        simpa using this
       obtain ⟨gU, aZ, ax, nS⟩ := Ae bz kb gP iu.2
       have e8 : (Instr.loadAt T (.pointer (some ⟨b, k, none⟩))).run C.P w = .ok gU w := by simp [Instr.loadAt, Instr.sureAddr, aZ]
       refine ⟨gU, w, F, S, e8, h, ?_⟩
       split at he
       ·rename_i az
        subst he
        by_cases bo : d.tree = true
        ·exact .inl ⟨az, (aM.c0 bo).2 ⟨nS, by rw [ax]; exact aw.plain _ _ _ _ az gP⟩⟩
        ·cases d <;> first | exact (bo rfl).elim | (rw [aw] at gP; exact gP.elim) | exact .inl ⟨rfl, by rw [aM]; trivial⟩ | (have bN := aw.plain _ _ _ (fun _ => False) az gP; rw [← ax] at bN; rw [hF (by exact nS)] at bN; exact .inl ⟨rfl, aM.pF _ _ rfl bN⟩)
       ·subst he
        refine .inl ⟨rfl, ?_⟩
        rw [aM]
        intro d2 i5 _
        rw [nj] at i5 ⊢
        simp only [I.sub, aj, Option.some.injEq] at i5
        subst i5
        refine ⟨gE, none, ?_, ax, nS⟩
        simp only [dJ, aj]
        rw [hh, sb cD gE cz _ _ h7 (aw.length _ _ _ gP)]
        rfl
      ·cases he
     ·cases he
    ·cases he
  ·cases he
 ·rename_i x _ _
  split at he
  ·rename_i y q hl
   split at he
   ·rename_i d aj
    split at he
    ·rename_i iu
     simp only [Option.some.injEq] at he
     obtain ⟨oI, dp, b, o, rfl, lF⟩ := Ex h aQ hl aj
     have bl := h.eg y
     rw [aM.c0 (iX aj (.inr oI))] at bl
     obtain ⟨gO, da, fl, hK, k0, ca, cy, fy, eB, gr⟩ := ctx q (s y) (cL (aC y)) (S y) none _ bl.2 aj
     rw [k0] at lF
     simp only [Option.some.injEq, Prod.mk.injEq, true_and] at lF
     obtain ⟨rfl, rfl⟩ := lF
     have kb : Rd w b o gO := by
      rcases gr with ⟨l, r, aU, ba, _⟩ | ⟨gA, cur, e, fr, l, r, aU, ba, aW, cS, cZ, _⟩
      ·simp at ba
      ·simp only [Option.some.injEq, Prod.mk.injEq] at aU
       obtain ⟨rfl, rfl⟩ := aU
       intro j c cH
       have e7 : j < gO.length := (List.getElem?_eq_some_iff.1 cH).1
       have : cur.toList[l.length + j]? = some c := by
        rw [cZ, List.getElem?_append_right (by omega), List.getElem?_append_left (by omega), ← cH]; congr 1; omega
       simp [World.cell?, aW]
       simpa using this
     obtain ⟨gU, aZ, ax, nS⟩ := Ae bz kb eB iu
     have e8 : (Instr.loadAt T (.pointer (some ⟨b, o, none⟩))).run C.P w = .ok gU w := by simp [Instr.loadAt, Instr.sureAddr, aZ]
     refine ⟨gU, w, F, S, e8, h, ?_⟩
     split at he
     ·rename_i az
      subst he
      by_cases bo : d.tree = true
      ·exact .inl ⟨az, (aM.c0 bo).2 ⟨nS, by rw [ax]; exact aw.plain _ _ _ _ az eB⟩⟩
      ·cases d <;> first | exact (bo rfl).elim | (rw [aw] at eB; exact eB.elim) | exact .inl ⟨rfl, by rw [aM]; trivial⟩ | (have bN := aw.plain _ _ _ (fun _ => False) az eB; rw [← ax] at bN; rw [hF (by exact nS)] at bN; exact .inl ⟨rfl, aM.pF _ _ rfl bN⟩)
     ·subst he
      refine .inl ⟨rfl, ?_⟩
      rw [aM]
      intro d2 i5 _
      rw [aj] at i5
      simp only [Option.some.injEq] at i5
      subst i5
      exact ⟨_, _, k0, ax, nS⟩
    ·cases he
   ·cases he
  ·cases he
mutual
theorem aw.sm {F : Nat → Prop} : ∀ (d : I) (cs : List Value) (S : Nat → Prop), aw w F d cs S → ∀ c ∈ cs, Value.hf c = true
 | .hole, cs, S, h => by rw [aw] at h; obtain ⟨v, h, rfl⟩ := h; simpa using h
 | .bool _, cs, S, h => by rw [aw] at h; subst h; simp [Value.hf]
 | .fu, cs, S, h => by rw [aw] at h; obtain ⟨b, rfl⟩ := h; simp [Value.hf]
 | .int _ _, cs, S, h => by rw [aw] at h; subst h; simp [Value.hf]
 | .str _, cs, S, h => by rw [aw] at h; subst h; simp [Value.hf]
 | .dI, cs, S, h => by rw [aw] at h; subst h; simp [Value.hf]
 | .bp, cs, S, h => by rw [aw] at h; subst h; simp [Value.hf]
 | .slice xs, cs, S, h => by
   rw [aw] at h
   rcases h with ⟨_, a, c, rfl, _⟩ | ⟨b, o, cap, e3, sz, rfl, _⟩ <;> simp [Value.hf]
 | .ao sz xs, cs, S, h => by
   rw [aw] at h
   rcases h with ⟨_, _, rfl⟩ | ⟨b, cap, cur, e, fr, aX, rfl, _⟩ <;> simp [Value.hf]
 | .ref d, cs, S, h => by rw [aw] at h; obtain ⟨b, o, e3, rfl, _⟩ := h; simp [Value.hf]
 | .bb d, cs, S, h => by rw [aw] at h; obtain ⟨b, o, e3, _, _, rfl, _⟩ := h; simp [Value.hf]
 | .agg ay, cs, S, h => by rw [aw] at h; exact bg.sm ay _ _ h
 | .tuple ay, cs, S, h => by rw [aw] at h; exact bg.sm ay _ _ h
 | .fn _ _, cs, S, h => by rw [aw] at h; obtain ⟨arr, rfl, _⟩ := h; simp [Value.hf]
 | .h _ _, cs, S, h => by rw [aw] at h; exact h.elim
 | .az _ _, cs, S, h => by rw [aw] at h; exact h.elim
 | .ad _ _, cs, S, h => by rw [aw] at h; exact h.elim
 | .fg _, cs, S, h => by rw [aw] at h; obtain ⟨v, hQ, rfl⟩ := lX.one h; simpa using hQ
theorem bg.sm {F : Nat → Prop} : ∀ (ds : List I) (cs : List Value) (S : Nat → Prop), bg w F ds cs S → ∀ c ∈ cs, Value.hf c = true
 | [], cs, S, h => by rw [bg] at h; subst h; simp
 | d :: ds, cs, S, h => by
   rw [bg] at h
   obtain ⟨cD, cz, cu, ej, rfl, ah, aH, _⟩ := h
   intro c ax
   rcases List.mem_append.1 ax with ax | ax
   ·exact aw.sm d _ _ ah c ax
   ·exact bg.sm ds _ _ aH c ax
end
theorem Af {P : Program} {b o : Nat} {e : TypeId} {fr : Nat × Nat} : ∀ (vs : List Value) (i : Nat) (cur : Array Value) (w : World) (l m r : List Value), w.heap[b]? = some (.cells cur e fr) → oC fr cur.size →
  cur.toList = l ++ (m ++ r) → l.length = o + i → m.length = vs.length → (∀ v ∈ vs, Value.hf v = true) →
  ∃ aO, (storeCells ⟨b, o, none⟩ vs i).run P w = .ok () aO ∧ aO.heap[b]? = some (.cells (l ++ (vs ++ r)).toArray e fr) ∧ (∀ c, c ≠ b → aO.heap[c]? = w.heap[c]?) ∧ aO.heap.size = w.heap.size ∧ aO.os = w.os ∧ aO.tape = w.tape ∧ aO.output = w.output
 | [], i, cur, w, l, m, r, ad, bF, ax, hl, hm, _ => by
   refine ⟨w, rfl, ?_, fun _ _ => rfl, rfl, rfl, rfl, rfl⟩
   have : m = [] := by simpa using hm
   subst this
   rw [ad]
   have : cur = (l ++ ([] ++ r)).toArray := by rw [← ax]
   rw [← this]
 | v :: vs, i, cur, w, l, m, r, ad, bF, ax, hl, hm, Ag => by
   obtain ⟨x, m, rfl⟩ : ∃ x iv, m = x :: iv := by cases m with
    | nil => simp at hm
    | cons x m => exact ⟨x, m, rfl⟩
   have hlen : cur.size = (l ++ (x :: m ++ r)).length := by rw [← ax]; simp
   have e7 : o + i < cur.size := by rw [hlen]; simp; omega
   have Ah : w.cell? ⟨b, o + i, none⟩ = some cur[o + i] := by simp [World.cell?, ad, e7]
   have QV : w.frozen? ⟨b, o + i, none⟩ = false := by
    have := bF (o + i) e7
    simp only [World.frozen?, ad]
    simp only [Bool.and_eq_false_iff, decide_eq_false_iff_not]
    by_cases ae : fr.1 ≤ o + i
    ·right; exact fun ah => this ⟨ae, ah⟩
    ·left; exact ae
   have rj : (w.setCell ⟨b, o + i, none⟩ v).heap[b]? = some (.cells ((l ++ [v]) ++ (m ++ r)).toArray e fr) := by
    simp only [World.setCell, Array.getElem?_modify, if_true, ad, Option.map_some, Option.isSome_none, Bool.false_eq_true, if_false]
    congr 2
    apply Array.ext'
    rw [Array.toList_setIfInBounds, ax, ← hl, List.set_append_right _ _ (Nat.le_refl _)]
    simp
   have sn : (store ((⟨b, o, none⟩ : Addr).add i) v).run P w = .ok () (w.setCell ⟨b, o + i, none⟩ v) := by
    have ae := Ag v (by simp)
    rw [Addr.add_lit]
    cases v <;> first | (simp [Value.hf] at ae; done) | simp [Go.store, Sem.run, Ah, QV]
   obtain ⟨aO, bc, bA, cU, eY, gg, iM, jk⟩ := Af (P := P) (b := b) (o := o) vs (i + 1) _ (w.setCell ⟨b, o + i, none⟩ v) (l ++ [v]) m r rj (by
    have : (l ++ [v] ++ (m ++ r)).toArray.size = cur.size := by rw [hlen]; simp
    rw [this]; exact bF) (by simp) (by simp; omega) (by simpa using hm) (fun u hu => Ag u (by simp [hu]))
   refine ⟨aO, ?_, by simpa using bA, fun c ax => ?_, ?_, gg, iM, jk⟩
   ·simp only [storeCells, Sem.run_bind, sn, Result.andThen]; exact bc
   ·rw [cU c ax]
    simp only [World.setCell, Array.getElem?_modify]
    rw [if_neg (fun e => ax e.symm)]
   ·rw [eY]; simp [World.setCell]
theorem w7 {d : I} {v : Value} (h : eN d v) (aj : ∀ ay, d ≠ .tuple ay) : v.cells = (cL v).toArray := by
 cases d with
 | tuple ay => exact (aj _ rfl).elim
 | agg ay => obtain ⟨arr, rfl⟩ := h; simp [Value.cells, cL, il]
 | _ =>
   have ae : Value.hf v = true := h
   rw [hF ae]
   cases v <;> first | rfl | (simp [Value.hf] at ae)
def gC (C : cE) (s : ar) (T : TypeId) (x y : I) : Option ar :=
 match db s y, loc s x with
 | some (d, s1), some (z, q) => match d with
   | .tuple _ => none
   | d => match I.sub q (s z) with
     | some d0 => if d.wd = d0.wd ∧ d.wd = (C.T T).sz ∧ (C.T T).ok = true ∧ y.owner ≠ some z then some (dM (ji z s1) z (I.put q d (s z))) else none
     | none => none
 | _, _ => none
theorem QW {s s1 : ar} {y d : I} {z : Nat} (h : db s y = some (d, s1)) (b8 : (s z).tree = true) (bl : y.owner ≠ some z) : s1 z = s z := by
 cases y with
 | h x q =>
   simp only [db] at h
   split at h
   ·split at h
    ·cases h
    ·simp only [Option.some.injEq, Prod.mk.injEq] at h
     obtain ⟨_, rfl⟩ := h
     rw [jX _ _ (fun e => bl (by rw [I.owner, e]))]
     exact El b8
   ·cases h
 | az x q => simp [db] at h
 | ad x q => simp [db] at h
 | fn f c => simp [db] at h
 | hole => simp [db] at h
 | _ => simp only [db, Option.some.injEq, Prod.mk.injEq] at h; rw [h.2]
theorem QX (bz : C.Ok) (h : b9 w0 F0 X F S s aC w) {T : TypeId} {x y : I} {jC i6 : Value} (EC : aM w F s aC x jC (fun _ => False)) (bl : y.plain = true) (QY : aM w F s aC y i6 (fun _ => False))
  {s2 : ar} (he : gC C s T x y = some s2) :
  ∃ aO aX, (Instr.storeAt T jC i6).run C.P w = .ok () aO ∧ b9 w0 F0 X F aX s2 aC aO := by
 unfold gC at he
 split at he
 ·rename_i d s1 z q bo hl
  have key : ∀ d : I, (∀ ay, d ≠ .tuple ay) → db s y = some (d, s1) → (match I.sub q (s z) with
   | some d0 => if d.wd = d0.wd ∧ d.wd = (C.T T).sz ∧ (C.T T).ok = true ∧ y.owner ≠ some z then some (dM (ji z s1) z (I.put q d (s z))) else none
   | none => none) = some s2 → ∃ aO aX, (Instr.storeAt T jC i6).run C.P w = .ok () aO ∧ b9 w0 F0 X F aX s2 aC aO := by
   intro d qi bo he
   split at he
   ·rename_i d0 lf
    split at he
    ·rename_i so
     obtain ⟨ae, ah, aH, a6⟩ := so
     simp only [Option.some.injEq] at he; subst he
     obtain ⟨oI, dp, b, o, rfl, lF⟩ := Ex h EC hl lf
     obtain ⟨cu, h8, bc, bA, Sn, cU, eY, gg, iM, jk, l1⟩ := pD h bl QY bo
     have eM : s1 z = s z := QW bo (iX lf (.inr oI)) a6
     rw [← eM] at lf oI lF ⊢
     obtain ⟨gO, gA, l, r, cur, e, fr, k0, ca, cy, fy, eB⟩ := h8.store lf oI cU ae eY gg iM jk
     rw [lF] at k0
     simp only [Option.some.injEq, Prod.mk.injEq, true_and] at k0
     obtain ⟨rfl, rfl, rfl⟩ := k0
     obtain ⟨i, d, ri, aU, ba, aW, cS, cZ, cn, bV⟩ := bz.info aH
     have hlen := aw.length _ _ _ cU
     have hm : dp.length = (cL i6).length := by
      have IY := h8.eg z
      rw [aM.c0 (iX lf (.inr oI))] at IY
      obtain ⟨_, _, _, _, nh, _, _, _, mL, _⟩ := ctx q (s1 z) (cL (aC z)) (cu z) none _ IY.2 lf
      rw [lF] at nh
      simp only [Option.some.injEq, Prod.mk.injEq, true_and] at nh
      rw [nh.1, aw.length _ _ _ mL, hlen, ae]
     obtain ⟨aO, fR, gW, hS, ku, l3, cB, oJ⟩ := Af (P := C.P) (b := b) (o := l.length) (e := e) (fr := fr) (cL i6) 0 cur w l dp r ca fy cy rfl hm (aw.sm _ _ _ cU)
     obtain ⟨aX, gr⟩ := eB aO gW hS ku l3 cB oJ
     refine ⟨aO, aX, ?_, gr⟩
     have oK := w7 bA qi
     simp [Instr.storeAt, Instr.sureAddr, storeVar, kc aU, ba, oK, hlen, ah, fR]
    ·cases he
   ·cases he
  split at he
  ·cases he
  ·rename_i qi
   exact key _ (fun ay e => qi ay e) bo he
 ·cases he
theorem b9.alloc (h : b9 w0 F0 X F S s aC w) {d : I} {cs : List Value} {Sn : Nat → Prop} (e : TypeId) (aQ : aw w F d cs Sn)
  (e7 : ∀ b, Sn b → b < w.heap.size) (bI : ∀ b, Sn b → ¬ F b) (bZ : ∀ u b, Sn b → ¬ S u b) (bf : ∀ b, Sn b → X b ∨ w0.heap.size ≤ b) :
  b9 w0 F0 X F S s aC (w.alloc (.cells cs.toArray e)) ∧
   lG w0 X F S s aC (w.alloc (.cells cs.toArray e)) (.bb d) (.pointer (some ⟨w.heap.size, 0, none⟩)) := by
 have hold : ∀ b, b < w.heap.size → (w.alloc (.cells cs.toArray e)).heap[b]? = w.heap[b]? := by
  intro b ad
  show (w.heap.push _)[b]? = _
  rw [Array.getElem?_push, if_neg (by omega)]
 refine ⟨h.grow hold (by simp) rfl rfl rfl, .inr ⟨rfl, rfl, fun b => b = w.heap.size ∨ Sn b, ?_, ?_, ?_, ?_, ?_⟩⟩
 ·rw [aw]
  refine ⟨w.heap.size, cs.toArray, e, (0, 0), Sn, rfl, .inl rfl, ?_, ?_, ?_, fun c ax => .inr ax, fun ax => Nat.lt_irrefl _ (e7 _ ax)⟩
  ·show (w.heap.push _)[_]? = _
   simp
  ·intro o _ ⟨_, ah⟩; exact absurd ah (Nat.not_lt_zero _)
  ·exact aw.frame (fun b ad => hold b (h.ga b ad)) _ _ _ (fun b ad => hold b (e7 b ad)) aQ
 ·rintro b (rfl | ad)
  ·simp
  ·have := e7 b ad; simp; omega
 ·rintro b (rfl | ad) sq
  ·exact Nat.lt_irrefl _ (h.ga _ sq)
  ·exact bI b ad sq
 ·rintro u b (rfl | ad) hu
  ·exact Nat.lt_irrefl _ (h.fh _ _ hu)
  ·exact bZ u b ad hu
 ·rintro b (rfl | ad)
  ·exact .inr h.size
  ·exact bf b ad
def ho (C : cE) (T : TypeId) : Option I := if (C.T T).ok = true then (match (C.T T).k, (C.T T).zero with
    | .fw e, .agg [.dI, .bp] => some (.fg (.i2 T e []))
    | .fw _, _ => none
    | _, z => (match flat z with | some _ => some (.bb z) | none => none)) else none
theorem QZ (bz : C.Ok) (h : b9 w0 F0 X F S s aC w) {T : TypeId} (he : ho C T = some av) : Good C w0 F0 X aC w (Instr.alloc T true (.tuple #[])) av s := by
 unfold ho at he
 split at he
 ·rename_i aA
  split at he
  ·rename_i aA4 aA5 Q0
   simp only [Option.some.injEq] at he; subst he
   obtain ⟨i, d, z, aU, ba, aW, cS, cZ, cn, bV⟩ := bz.info aA
   have b8 := cZ [.pointer none, .slice none 0 0] (by rw [Q0]; rfl)
   have hold : ∀ b, b < w.heap.size → (w.alloc (.cells #[.pointer none, .slice none 0 0] T)).heap[b]? = w.heap[b]? := by
    intro b ad
    show (w.heap.push _)[b]? = _
    rw [Array.getElem?_push, if_neg (by omega)]
   refine ⟨.pointer (some ⟨w.heap.size, 0, none⟩), w.alloc (.cells #[.pointer none, .slice none 0 0] T), F, S, ?_, h.grow hold (by simp) rfl rfl rfl, .inr ⟨rfl, rfl, fun b => b = w.heap.size, ?_, ?_, ?_, ?_, ?_⟩⟩
   ·simp [Instr.alloc, sl aU cS, newVar, newRow, newObj, Sem.run, b8]
   ·rw [aw]
    refine ⟨w.heap.size, .pointer none, .slice none 0 0, rfl, rfl, ?_, .inl rfl, .inl ⟨rfl, rfl⟩⟩
    show (w.heap.push _)[_]? = _
    simp
   ·rintro b rfl; simp
   ·rintro b rfl sq; exact Nat.lt_irrefl _ (h.ga _ sq)
   ·rintro u b rfl hu; exact Nat.lt_irrefl _ (h.fh _ _ hu)
   ·rintro b rfl; exact .inr h.size
  ·cases he
  split at he
  ·rename_i cs hh
   simp only [Option.some.injEq] at he; subst he
   obtain ⟨i, d, z, aU, ba, aW, cS, cZ, cn, bV⟩ := bz.info aA
   have b8 := cZ cs hh
   obtain ⟨dK, bj⟩ := h.alloc (d := (C.T T).zero) T ((aw.flat _).1 _ cs (fun _ => False) (Nat.le_refl _) hh) (fun _ h => h.elim) (fun _ h => h.elim) (fun _ _ h => h.elim) (fun _ h => h.elim)
   refine ⟨_, _, F, S, ?_, dK, bj⟩
   simp [Instr.alloc, sl aU cS, newVar, newRow, newObj, Sem.run, b8]
  ·cases he
 ·cases he
def dh (s : ar) (x : I) : Option (I × ar) := match db s x with
 | some (.tuple _, _) => none
 | some (d, s1) => some (.bb d, s1)
 | none => none
def jZ (s : ar) (x : I) : Option (I × ar) := match x with
 | .h y q => match q, s y with
   | [], .agg ds => if I.ed ds then none else some (.ad y 0, s)
   | _, _ => none
 | .fn f caps => if caps.all (fun d => d.single && (d.tree && d.plain)) = true then some (.ref (.fn f caps), s) else none
 | _ => none
theorem bg.IZ {w : World} {F b7 : Nat → Prop} {s : ar} {aC : Nat → Value} (bI : ∀ b, F b → b7 b) : ∀ (ds : List I) (vs : List Value), (∀ d ∈ ds, d.single = true ∧ d.tree = true ∧ d.plain = true) → eL w F s aC ds vs → bg w b7 ds vs (fun _ => False)
 | [], vs, _, h => by rw [eL] at h; rw [bg]; exact h
 | d :: ds, vs, af, h => by
   rw [eL] at h
   obtain ⟨v, jW, rfl, ae, ah⟩ := h
   obtain ⟨d1, d2, d3⟩ := af d (by simp)
   have aH := (aM.c0 d2).1 ae
   have b_ : Value.hf v = true := by
    have := aH.1
    cases d <;> first | exact this | cases d1
   have a6 := aH.2
   rw [hF b_] at a6
   rw [bg]
   exact ⟨[v], jW, fun _ => False, fun _ => False, rfl, aw.mono bI _ _ _ _ (fun _ h => h) a6, bg.IZ bI ds jW (fun x aq => af x (by simp [aq])) ah, fun _ h => h, fun _ h => h, fun _ h => h.elim⟩
theorem Q1 {T : TypeId} {v : Value} (h : b9 w0 F0 X F S s aC w) : b9 w0 F0 X (fun b => F b ∨ b = w.heap.size) S s aC (w.alloc (.cells (cL v).toArray T)) := by
 have hold : ∀ b, b < w.heap.size → (w.alloc (.cells (cL v).toArray T)).heap[b]? = w.heap[b]? := by
  intro b ad
  show (w.heap.push _)[b]? = _
  rw [Array.getElem?_push, if_neg (by omega)]
 have ae := h.grow hold (by simp) rfl rfl rfl
 exact {
  hL := fun b ad => .inl (ae.hL b ad)
  hZ := fun b ad => by
   rcases ad with ad | rfl
   ·exact ae.hZ b ad
   ·exact .inr (.inr h.size)
  ga := fun b ad => by
   rcases ad with ad | rfl
   ·exact ae.ga b ad
   ·simp
  fh := ae.fh
  gF := fun t b ad bF => by
   rcases bF with bF | rfl
   ·exact ae.gF t b ad bF
   ·exact absurd (h.fh t _ ad) (Nat.lt_irrefl _)
  gq := ae.gq
  ez := ae.ez
  eg := fun t => aM.frame (fun _ _ => rfl) (fun b ad => .inl ad) (fun _ _ _ => rfl) ae.eg _ _ _ (fun _ _ => rfl) (ae.eg t)
  old := ae.old
  size := ae.size
  os := ae.os
  tape := ae.tape
  output := ae.output }
theorem Q2 (h : b9 w0 F0 X F S s aC w) {T : TypeId} {x : I} {v : Value} (aQ : aM w F s aC x v (fun _ => False)) (he : jZ s x = some (av, s1)) :
  Good C w0 F0 X aC w (Instr.box T v) av s1 := by
 unfold jZ at he
 split at he
 ·rename_i y q
  split at he
  ·rename_i ds nj
   split at he
   ·cases he
   ·rename_i w6
    simp only [Option.some.injEq, Prod.mk.injEq] at he
    obtain ⟨rfl, rfl⟩ := he
    rw [aM] at aQ
    obtain ⟨dp, a, bc, bA, cU⟩ := aQ (s y) (by simp only [I.sub]) (by rw [nj]; simp only [I.plain]; simpa using w6)
    simp only [dJ, Option.some.injEq, Prod.mk.injEq, true_and] at bc
    rw [nj] at cU
    have oK := w7 cU (fun ay e => by cases e)
    have hold : ∀ b, b < w.heap.size → (w.alloc (.cells (cL v).toArray T)).heap[b]? = w.heap[b]? := by
     intro b ad
     show (w.heap.push _)[b]? = _
     rw [Array.getElem?_push, if_neg (by omega)]
    refine ⟨.pointer (some ⟨w.heap.size, 0, none⟩), w.alloc (.cells (cL v).toArray T), fun b => F b ∨ b = w.heap.size, S, by simp [Instr.box, newVar, newRow, newObj, Sem.run, oK], ?_, .inl ⟨rfl, ?_⟩⟩
    ·have ae := h.grow hold (by simp) rfl rfl rfl
     exact {
      hL := fun b ad => .inl (ae.hL b ad)
      hZ := fun b ad => by
       rcases ad with ad | rfl
       ·exact ae.hZ b ad
       ·exact .inr (.inr h.size)
      ga := fun b ad => by
       rcases ad with ad | rfl
       ·exact ae.ga b ad
       ·simp
      fh := ae.fh
      gF := fun t b ad bF => by
       rcases bF with bF | rfl
       ·exact ae.gF t b ad bF
       ·exact absurd (h.fh t _ ad) (Nat.lt_irrefl _)
      gq := ae.gq
      ez := ae.ez
      eg := fun t => aM.frame (fun _ _ => rfl) (fun b ad => .inl ad) (fun _ _ _ => rfl) ae.eg _ _ _ (fun _ _ => rfl) (ae.eg t)
      old := ae.old
      size := ae.size
      os := ae.os
      tape := ae.tape
      output := ae.output }
    ·rw [aM]
     intro _
     refine ⟨w.heap.size, (cL v).toArray, T, (0, 0), rfl, .inr rfl, ?_, ?_⟩
     ·show (w.heap.push _)[_]? = _
      simp
     ·rw [bc.1, ← bA]
  ·cases he
 ·rename_i f caps
  split at he
  ·rename_i ax
   simp only [Option.some.injEq, Prod.mk.injEq] at he
   obtain ⟨rfl, rfl⟩ := he
   have hh : ∀ d ∈ caps, d.single = true ∧ d.tree = true ∧ d.plain = true := fun d aj => by
    have := List.all_eq_true.1 ax d aj
    simpa only [Bool.and_eq_true] using this
   rw [aM] at aQ
   obtain ⟨arr, rfl, aQ⟩ := aQ
   have oK := w7 (d := .fn f caps) (v := .func (.func f) #[] arr) rfl (fun ay e => by cases e)
   have cb := Q1 (T := T) (v := .func (.func f) #[] arr) h
   refine ⟨.pointer (some ⟨w.heap.size, 0, none⟩), w.alloc (.cells (cL (.func (.func f) #[] arr)).toArray T), fun b => F b ∨ b = w.heap.size, S, by simp [Instr.box, newVar, newRow, newObj, Sem.run, oK], cb, .inl ⟨rfl, ?_⟩⟩
   refine (aM.c0 rfl).2 ⟨rfl, ?_⟩
   rw [aw]
   refine ⟨w.heap.size, 0, [.func (.func f) #[] arr], rfl, .inr rfl, ?_, ?_⟩
   ·have kT : (w.alloc (.cells (cL (.func (.func f) #[] arr)).toArray T)).heap[w.heap.size]? = some (.cells (cL (.func (.func f) #[] arr)).toArray T (0, 0)) := by
     show (w.heap.push _)[_]? = _
     simp
    intro j c cH
    cases j with
    | zero =>
      simp only [List.getElem?_cons_zero, Option.some.injEq] at cH
      subst cH
      have e : cL (.func (.func f) #[] arr) = [.func (.func f) #[] arr] := hF rfl
      unfold World.cell?
      show (match (w.alloc (.cells (cL (.func (.func f) #[] arr)).toArray T)).heap[w.heap.size]? with
       | some (.cells c _ _) => c[0 + 0]?
       | _ => none) = _
      rw [kT, e]
      rfl
    | succ j => simp at cH
   ·rw [aw]
    refine ⟨arr, rfl, fun d aj => (hh d aj).1, ?_⟩
    have bN := bg.IZ (b7 := F) (fun b ad => ad) caps arr.toList hh aQ
    refine bg.mono (F := F) (fun b ad => .inl ad) caps _ _ _ (fun _ h => h) (bg.frame (fun b ad => ?_) caps _ _ (fun _ h => h.elim) bN)
    have e7 := h.ga b ad
    show (w.heap.push _)[b]? = _
    rw [Array.getElem?_push, if_neg (by omega)]
  ·cases he
 ·cases he
theorem Q3 (h : b9 w0 F0 X F S s aC w) {T : TypeId} {x : I} {v : Value} (aq : x.plain = true) (aQ : aM w F s aC x v (fun _ => False)) (he : dh s x = some (av, s1)) :
  Good C w0 F0 X aC w (Instr.box T v) av s1 := by
 unfold dh at he
 split at he
 ·cases he
 ·rename_i d s2 qi bo
  simp only [Option.some.injEq, Prod.mk.injEq] at he
  obtain ⟨rfl, rfl⟩ := he
  obtain ⟨cu, h8, bc, bA, Sn, cU, eY, gg, iM, jk, l1⟩ := pD h aq aQ bo
  obtain ⟨dK, bj⟩ := h8.alloc T cU eY gg iM jk
  refine ⟨_, _, F, cu, ?_, dK, bj⟩
  have oK := w7 bA (fun ay e => qi ay e)
  simp [Instr.box, newVar, newRow, newObj, Sem.run, oK]
 ·cases he
end
end Go.dg
