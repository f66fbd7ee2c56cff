/- Part of a proof that a law returns true for every input. No condition. -/
import Derived.Test.YtjedocbdhlppdaaFwB
import Derived.Laws.Entries
namespace Go.b1
inductive iI where
 | int (k : IntKind)
 | bool
 | str
 | ptr (e : TypeId)
 | slice (e : TypeId)
 | struct (ad : List (TypeId × Nat))
 | fn
 | df (e : TypeId)
 | other
structure dB where
 k : iI
 sz : Nat
 bytes : Nat
 zero : j
mutual
def flat : j → Option (List Value)
 | .bool b => some [.bool b]
 | .int k n => some [.int k n]
 | .str s => some [.string ⟨⟨s⟩⟩]
 | .b7 => some [.pointer none]
 | .bB => some [.slice none 0 0]
 | .agg ad => kv ad
 | _ => none
def kv : List j → Option (List Value)
 | [] => some []
 | d :: ds => match flat d, kv ds with
   | some a, some b => some (a ++ b)
   | _, _ => none
end
theorem ag.flat {w : World} {F : Nat → Prop} : ∀ n, (∀ (d : j) (cs : List Value) (S : Nat → Prop), SizeOf.sizeOf d ≤ n → flat d = some cs → ag w F d cs S) ∧
  (∀ (ds : List j) (cs : List Value) (S : Nat → Prop), SizeOf.sizeOf ds ≤ n → kv ds = some cs → aD w F ds cs S) := by
 intro n
 induction n with
 | zero => exact ⟨fun d _ _ a1 => by cases d <;> simp at a1 <;> omega, fun ds _ _ a1 => by cases ds <;> simp at a1 <;> omega⟩
 | succ n ih =>
   refine ⟨fun d cs S a1 h => ?_, fun ds cs S a1 h => ?_⟩
   ·cases d with
    | agg ad => rw [ag]; exact ih.2 ad cs S (by simp at a1; omega) (by simpa [b1.flat] using h)
    | bool b => simp [b1.flat] at h; subst h; rw [ag]
    | int k n => simp [b1.flat] at h; subst h; rw [ag]
    | str s => simp [b1.flat] at h; subst h; rw [ag]
    | b7 => simp [b1.flat] at h; subst h; rw [ag]
    | bB => simp [b1.flat] at h; subst h; rw [ag]
    | _ => simp [b1.flat] at h
   ·cases ds with
    | nil => simp [kv] at h; subst h; rw [aD]
    | cons d ds =>
      simp only [kv] at h
      split at h
      ·rename_i a b bs J
       simp at h; subst h
       simp at a1
       rw [aD]
       exact ⟨a, b, fun _ => False, fun _ => False, rfl, ih.1 d a _ (by omega) bs, ih.2 ds b _ (by omega) J, fun _ h => h.elim, fun _ h => h.elim, fun _ h => h.elim⟩
      ·cases h
def hf : iI → TypeDesc → Prop
 | .int k, .int ct => k = ct
 | .bool, .bool => True
 | .str, .string => True
 | .ptr e, .pointer eh => e = eh
 | .slice e, .slice eh => e = eh
 | .struct ad, .struct gs => gs.toList.map (fun g => (g.type, g.offset)) = ad
 | .fn, .func _ _ _ => True
 | .df _, .struct _ => True
 | _, _ => False
def vP (P : Program) (t : TypeId) (x : dB) : Prop :=
 (∃ e n b z, x = ⟨.other, e, n, b⟩ ∧ z = 0) ∨
 ∃ i d z, P.info? t = some i ∧ i.size = x.sz ∧ i.bytes = x.bytes ∧ i.zero = some z ∧ (∀ cs, flat x.zero = some cs → z.cells = cs.toArray) ∧ P.underlying t = some d ∧ hf x.k d
structure bl where
 P : Program
 T : TypeId → dB
 M : FuncId → List Bool
structure bl.cP (C : bl) : Prop where
 ty : ∀ t, vP C.P t (C.T t)
 mixed : C.P.follows .mixedOrders = true
inductive aq where
 | t (n : Nat)
 | c (av : j)
 | f (g : FuncId)
def qQ : Value → Option j
 | .bool b => some (.bool b)
 | .int k n => some (.int k n)
 | .string s => some (.str s.data.toList)
 | .pointer none => some .b7
 | .slice none 0 0 => some .bB
 | _ => none
def cg : Operand → Option aq
 | .tmp n => some (.t n)
 | .const v => (qQ v).map .c
 | .func g => some (.f g)
 | .global _ => none
def fm (x : Nat) (d : j) : j := if d.plain then d else .h x []
def au (s : ae) : aq → j
 | .t n => fm n (s n)
 | .c av => av
 | .f g => .fn g []
theorem ar.nothing {w : World} {F : Nat → Prop} {s : ae} {ak : Nat → Value} {d : j} {v : Value} {S az : Nat → Prop} (al : d.plain = true) (h : ar w F s ak d v S) : ar w F s ak d v az := by
 cases d <;> first
  | (rw [ar]; trivial)
  | (rw [ar] at h ⊢; exact h)
  | (have aS := (ar.bt rfl).1 h; exact (ar.bt rfl).2 ⟨aS.1, ag.plain _ _ _ _ al aS.2⟩)
section
variable {w0 w : World} {F0 X F : Nat → Prop} {S : Nat → Nat → Prop} {s : ae} {ak : Nat → Value} {a : Act}
theorem vQ (s : ae) (x : aq) (af : ∀ av, x = .c av → av.plain = true) : (au s x).plain = true := by
 cases x with
 | t n => simp only [au, fm]; split <;> first | assumption | rfl
 | c av => exact af _ rfl
 | f g => rfl
theorem sP {v : Value} {av : j} (h : qQ v = some av) : av.plain = true := by
 unfold qQ at h; split at h <;> simp at h <;> subst h <;> rfl
theorem c_ (h : aZ w0 F0 X F S s ak w) (cC : ∀ t, ak t = a.tmps.getD t undef) {o : Operand} {x : aq} (bo : cg o = some x) :
  (au s x).plain = true ∧ ar w F s ak (au s x) (a.eval o) (fun _ => False) := by
 cases o with
 | tmp n =>
   simp [cg] at bo; subst bo
   simp only [au, fm, Act.eval, ← cC]
   split
   ·rename_i al; exact ⟨al, ar.nothing al (h.cb n)⟩
   ·rename_i al
    refine ⟨rfl, ?_⟩
    rw [ar]
    intro d ab AJ
    simp only [j.sub, Option.some.injEq] at ab; subst ab
    have aG := eT (q := []) rfl (.inl AJ)
    exact ⟨_, none, rfl, rfl, ((ar.bt aG).1 (h.cb n)).1⟩
 | const v =>
   simp only [cg, Option.map_eq_some_iff] at bo
   obtain ⟨av, jl, rfl⟩ := bo
   refine ⟨sP jl, ?_⟩
   simp only [au, Act.eval]
   unfold qQ at jl
   split at jl <;> simp at jl <;> subst jl <;> rw [ar, ag] <;> exact ⟨rfl, rfl⟩
 | func g =>
   simp [cg] at bo; subst bo
   refine ⟨rfl, ?_⟩
   simp only [au, Act.eval]
   rw [ar]
   exact ⟨#[], rfl, by rw [ck]⟩
 | global g => simp [cg] at bo
def gO (w0 : World) (X F : Nat → Prop) (S : Nat → Nat → Prop) (s : ae) (ak : Nat → Value) (w : World) (av : j) (v : Value) : Prop :=
 (av.plain = true ∧ ar w F s ak av v (fun _ => False)) ∨
 (av.tree = true ∧ cp av v ∧ ∃ Sn, ag w F av (bj v) Sn ∧ (∀ b, Sn b → b < w.heap.size) ∧ (∀ b, Sn b → ¬ F b) ∧ (∀ u b, Sn b → ¬ S u b) ∧ (∀ b, Sn b → X b ∨ w0.heap.size ≤ b))
def fin (s : ae) (dst : Option Nat) (av : j) : ae := match dst with
 | none => s
 | some t => if av.plain then b4 s t av else b4 (hb t s) t av
def l9 (ak : Nat → Value) (dst : Option Nat) (v : Value) : Nat → Value := match dst with
 | none => ak
 | some t => b4 ak t v
theorem aZ.fin (h : aZ w0 F0 X F S s ak w) {av : j} {v : Value} (aA : gO w0 X F S s ak w av v) (dst : Option Nat) :
  ∃ az, aZ w0 F0 X F az (b1.fin s dst av) (l9 ak dst v) w := by
 cases dst with
 | none => exact ⟨S, h⟩
 | some t =>
   simp only [b1.fin, l9]
   rcases aA with ⟨al, ab⟩ | ⟨aG, R, Sn, U, aa, aw, aH, aX⟩
   ·rw [if_pos al]; exact ⟨_, h.o7 al ab⟩
   ·split
    ·rename_i al
     exact ⟨_, h.o7 al ((ar.bt aG).2 ⟨R, ag.plain _ _ _ _ al U⟩)⟩
    ·exact ⟨_, h.vH aG R U aa aw (fun u b _ J => aH u b J) aX⟩
def bE (s : ae) : j → Option (j × ae)
 | .h x q => match j.sub q (s x) with
   | some d => if d.plain then none else some (d, b4 (fa x s) x (j.put q d.bO (s x)))
   | none => none
 | .al _ _ => none
 | .J _ _ => none
 | .fn _ _ => none
 | .hole => none
 | d => some (d, s)
def j.owner : j → Option Nat
 | .h x _ => some x
 | _ => none
def ia : Option Nat → j → j
 | some x, d => bd x d
 | none, d => d
theorem jX (h : aZ w0 F0 X F S s ak w) {av d : j} {s1 : ae} {v : Value} (jl : av.plain = true) (aA : ar w F s ak av v (fun _ => False)) (aG : bE s av = some (d, s1)) :
  ∃ a_, aZ w0 F0 X F a_ s1 ak w ∧ d.tree = true ∧ cp d v ∧ ∃ Sn, ag w F d (bj v) Sn ∧ (∀ b, Sn b → b < w.heap.size) ∧ (∀ b, Sn b → ¬ F b) ∧ (∀ u b, Sn b → ¬ a_ u b) ∧ (∀ b, Sn b → X b ∨ w0.heap.size ≤ b) ∧
    (∀ u b, a_ u b → S u b) ∧ (∀ b, Sn b → ∃ u, S u b) ∧ (∀ (aO : j) (b6 : Value) (az : Nat → Prop), ar w F s ak aO b6 az → ar w F s1 ak (ia av.owner aO) b6 az) := by
 have tree : ∀ d : j, d.tree = true → d.plain = true → ar w F s ak d v (fun _ => False) →
   ∃ a_, aZ w0 F0 X F a_ s ak w ∧ d.tree = true ∧ cp d v ∧ ∃ Sn, ag w F d (bj v) Sn ∧ (∀ b, Sn b → b < w.heap.size) ∧ (∀ b, Sn b → ¬ F b) ∧ (∀ u b, Sn b → ¬ a_ u b) ∧ (∀ b, Sn b → X b ∨ w0.heap.size ≤ b) ∧
     (∀ u b, a_ u b → S u b) ∧ (∀ b, Sn b → ∃ u, S u b) := by
  intro d ab _ aS
  have aS := (ar.bt ab).1 aS
  exact ⟨S, h, ab, aS.1, _, aS.2, fun _ h => h.elim, fun _ h => h.elim, fun _ _ h => h.elim, fun _ h => h.elim, fun _ _ h => h, fun _ h => h.elim⟩
 cases av with
 | h x q =>
   simp only [bE] at aG
   split at aG
   ·rename_i e he
    split at aG
    ·cases aG
    ·rename_i al
     simp only [Option.some.injEq, Prod.mk.injEq] at aG
     obtain ⟨rfl, rfl⟩ := aG
     have al : e.plain = false := by simpa using al
     obtain ⟨Sn, dV, bH, bK, c5, cr, fP, fQ, hP, ib, jm⟩ := h.take he al
     rw [ar] at aA
     obtain ⟨Lr, a2, g1, g2, g3⟩ := aA e he al
     rw [cr] at g1
     simp only [Option.some.injEq, Prod.mk.injEq, true_and] at g1
     obtain ⟨rfl, rfl⟩ := g1
     have sQ : e.tree = true := by cases e <;> first | rfl | (simp [j.plain] at al)
     refine ⟨_, c5, sQ, g3, dV, by rw [g2]; exact fP, fun b J => h.cL x b (fQ b J), fun b J => h.dk x b (fQ b J), ?_, fun b J => h.cf x b (fQ b J), ?_, fun b J => ⟨x, fQ b J⟩, jm⟩
     ·intro u b J hu
      simp only [ed] at hu
      split at hu
      ·exact ib b J hu
      ·rename_i qR; exact h.de u x b qR hu (fQ b J)
     ·intro u b hu
      simp only [ed] at hu
      split at hu
      ·rename_i e; subst e; exact hP b hu
      ·exact hu
   ·cases aG
 | al x q => simp [bE] at aG
 | J x q => simp [bE] at aG
 | fn f c => simp [bE] at aG
 | hole => simp [bE] at aG
 | aP sz xs => simp [j.plain] at jl
 | bn d => simp [j.plain] at jl
 | _ =>
   simp only [bE, Option.some.injEq, Prod.mk.injEq] at aG
   obtain ⟨rfl, rfl⟩ := aG
   obtain ⟨a_, t1, t2, t3, Sn, t4, t5, t6, t7, t8, t9, t10⟩ := tree _ rfl jl aA
   exact ⟨a_, t1, t2, t3, Sn, t4, t5, t6, t7, t8, t9, t10, fun _ _ _ h => h⟩
def loc (s : ae) : j → Option (Nat × List Nat)
 | .h x q => match j.sub q (s x) with
   | some (.bn _) => some (x, q ++ [0])
   | _ => none
 | .al x q => if j.cY q (s x) then some (x, q) else none
 | _ => none
theorem o_ : ∀ (q : List Nat) (av d : j) (r : List Nat), j.sub q av = some d → j.sub (q ++ r) av = j.sub r d := by
 intro q
 induction q with
 | nil => intro av d r h; simp [j.sub] at h; subst h; rfl
 | cons k q ih =>
   intro av d r h
   cases av with
   | agg ad =>
     simp only [j.sub, List.cons_append] at h ⊢
     split at h
     ·rename_i x aj; exact ih _ _ _ h
     ·cases h
   | tuple ad =>
     simp only [j.sub, List.cons_append] at h ⊢
     split at h
     ·rename_i x aj; exact ih _ _ _ h
     ·cases h
   | aP sz ad =>
     simp only [j.sub, List.cons_append] at h ⊢
     split at h
     ·rename_i x aj; exact ih _ _ _ h
     ·cases h
   | bn x =>
     cases k with
     | zero => simp only [j.sub, List.cons_append] at h ⊢; exact ih _ _ _ h
     | succ k => simp [j.sub] at h
   | _ => simp [j.sub] at h
theorem AK : ∀ (q : List Nat) (av d : j) (r : List Nat), j.sub q av = some d → j.cY (q ++ r) av = (j.cY q av || j.cY r d) := by
 intro q
 induction q with
 | nil => intro av d r h; simp [j.sub] at h; subst h; simp [j.cY]
 | cons k q ih =>
   intro av d r h
   cases av with
   | agg ad =>
     simp only [j.sub] at h
     split at h
     ·rename_i x aj
      simp only [j.cY, List.cons_append, aj]
      exact ih _ _ r h
     ·cases h
   | tuple ad =>
     simp only [j.sub] at h
     split at h
     ·rename_i x aj
      simp only [j.cY, List.cons_append, aj]
      exact ih _ _ r h
     ·cases h
   | aP sz ad => simp [j.cY]
   | bn x => simp [j.cY]
   | _ => simp [j.sub] at h
theorem pa (w : World) : ∀ (q : List Nat) (av d : j) (cs bH : List Value) (a bK : Option (Nat × Nat)) (r : List Nat), bU w q av cs a = some (d, bH, bK) → bU w (q ++ r) av cs a = bU w r d bH bK := by
 intro q
 induction q with
 | nil => intro av d cs bH a bK r h; simp [bU] at h; obtain ⟨rfl, rfl, rfl⟩ := h; rfl
 | cons k q ih =>
   intro av d cs bH a bK r h
   cases av with
   | agg ad =>
     rw [List.cons_append]
     rw [bU] at h ⊢
     split at h
     ·rename_i x aj; exact ih _ _ _ _ _ _ _ h
     ·cases h
   | tuple ad =>
     rw [List.cons_append]
     rw [bU] at h ⊢
     split at h
     ·rename_i x aj; exact ih _ _ _ _ _ _ _ h
     ·cases h
   | aP sz ad =>
     rw [List.cons_append]
     rw [bU.eq_def] at h ⊢
     simp only at h ⊢
     split at h
     ·exact ih _ _ _ _ _ _ _ h
     ·cases h
   | bn x =>
     cases k with
     | zero =>
       rw [List.cons_append]
       rw [bU.eq_def] at h ⊢
       simp only at h ⊢
       split at h
       ·exact ih _ _ _ _ _ _ _ h
       ·cases h
     | succ k => rw [show bU w ((k + 1) :: q) (.bn x) cs a = none from rfl] at h; cases h
   | _ => simp [bU] at h
end
def dB.ok (x : dB) : Bool := match x.k with
 | .other => false
 | _ => true
theorem bl.cP.info {C : bl} (aJ : C.cP) {t : TypeId} (h : (C.T t).ok = true) :
  ∃ i d z, C.P.info? t = some i ∧ i.size = (C.T t).sz ∧ i.bytes = (C.T t).bytes ∧ i.zero = some z ∧ (∀ cs, flat (C.T t).zero = some cs → z.cells = cs.toArray) ∧ C.P.underlying t = some d ∧ hf (C.T t).k d := by
 rcases aJ.ty t with ⟨e, n, b, z, aj, _⟩ | aS
 ·rw [aj] at h; simp [dB.ok] at h
 ·exact aS
theorem dr {x : dB} {k : iI} (h : x.k = k) (ai : k ≠ .other) : x.ok = true := by
 unfold dB.ok; rw [h]; cases k <;> first | rfl | exact (ai rfl).elim
theorem pb {d : TypeDesc} {ad : List (TypeId × Nat)} (h : hf (.struct ad) d) : ∃ gs, d = .struct gs ∧ gs.toList.map (fun g => (g.type, g.offset)) = ad := by
 cases d <;> simp [hf] at h
 exact ⟨_, rfl, h⟩
theorem gP {d : TypeDesc} {e : TypeId} (h : hf (.slice e) d) : d = .slice e := by
 cases d <;> simp [hf] at h
 rw [h]
theorem pc {d : TypeDesc} {k : IntKind} (h : hf (.int k) d) : d = .int k := by
 cases d <;> simp [hf] at h
 rw [h]
theorem kx {d : TypeDesc} (h : hf .str d) : d = .string := by
 cases d <;> simp [hf] at h
 rfl
theorem sR {d : TypeDesc} (h : hf .bool d) : d = .bool := by
 cases d <;> simp [hf] at h
 rfl
theorem vR {d : TypeDesc} {e : TypeId} (h : hf (.ptr e) d) : d = .pointer e := by
 cases d <;> simp [hf] at h
 rw [h]
theorem dM {v : Value} (h : Value.dF v = true) : bj v = [v] := by
 cases v <;> first | rfl | (simp [Value.dF] at h)
theorem l_ {P : Program} {t : TypeId} {i : TypeInfo} (h : P.info? t = some i) (w : World) : (typeInfo t).run P w = .ok i w := by simp [typeInfo, h]
theorem gg {P : Program} {t : TypeId} {i : TypeInfo} (h : P.info? t = some i) (w : World) : (Go.sizeOf t).run P w = .ok i.size w := by simp [Go.sizeOf, l_ h]
theorem nj {P : Program} {t : TypeId} {i : TypeInfo} {z : Value} (h : P.info? t = some i) (a1 : i.zero = some z) (w : World) : (zeroValue t).run P w = .ok z w := by simp [zeroValue, l_ h, a1]
section
variable {C : bl} {w0 w : World} {F0 X F : Nat → Prop} {S : Nat → Nat → Prop} {s s1 : ae} {ak : Nat → Value} {av : j}
def Good (C : bl) (w0 : World) (F0 X : Nat → Prop) (ak : Nat → Value) (w : World) (m : Sem Value) (av : j) (s1 : ae) : Prop :=
 ∃ v an aT az, m.run C.P w = .ok v an ∧ aZ w0 F0 X aT az s1 ak an ∧ gO w0 X aT az s1 ak an av v
theorem Good.same (h : aZ w0 F0 X F S s ak w) {m : Sem Value} {v : Value} (aB : m.run C.P w = .ok v w) (al : av.plain = true) (aA : ar w F s ak av v (fun _ => False)) : Good C w0 F0 X ak w m av s :=
 ⟨v, w, F, S, aB, h, .inl ⟨al, aA⟩⟩
theorem sS (_h : aZ w0 F0 X F S s ak w) {x : j} {v : Value} (aA : ar w F s ak x v (fun _ => False)) {y : Nat} {q : List Nat} (aI : loc s x = some (y, q)) {d : j} (ab : j.sub q (s y) = some d) :
  j.cY q (s y) = true ∧ ∃ bH b o, v = .pointer (some ⟨b, o, none⟩) ∧ bU w q (s y) (bj (ak y)) none = some (d, bH, some (b, o)) := by
 cases x with
 | h z qS =>
   simp only [loc] at aI
   split at aI
   ·rename_i e he
    simp only [Option.some.injEq, Prod.mk.injEq] at aI
    obtain ⟨rfl, rfl⟩ := aI
    rw [ar] at aA
    obtain ⟨bH, a, g1, g2, g3⟩ := aA _ he rfl
    have ea : e = d := by
     rw [o_ _ _ _ _ he] at ab
     simpa [j.sub] using ab
    subst ea
    refine ⟨by rw [AK _ _ _ _ he]; simp [j.cY], ?_⟩
    have U : Value.dF v = true := g3
    rw [dM U] at g2
    subst g2
    have gN := pa w qS (s z) _ _ _ none a [0] g1
    have aj := _h.cb z
    rw [ar.bt (eT he (.inl rfl))] at aj
    obtain ⟨di, bK, cG, dV, k0, ba, bg, cy, b2, cM⟩ := ctx qS (s z) (bj (ak z)) (S z) none _ aj.2 he
    rw [k0] at g1
    simp only [Option.some.injEq, Prod.mk.injEq, true_and] at g1
    obtain ⟨rfl, rfl⟩ := g1
    rw [ag] at b2
    obtain ⟨b, cur, aF, fr, ca, a6, _⟩ := b2
    simp only [List.cons.injEq, and_true] at a6
    subst a6
    exact ⟨_, b, 0, rfl, by rw [gN]; rfl⟩
   ·cases aI
 | al z qS =>
   simp only [loc] at aI
   split at aI
   ·rename_i af
    simp only [Option.some.injEq, Prod.mk.injEq] at aI
    obtain ⟨rfl, rfl⟩ := aI
    rw [ar] at aA
    obtain ⟨bH, b, o, g1, g2⟩ := aA _ ab af
    exact ⟨af, bH, b, o, g2, g1⟩
   ·cases aI
 | _ => simp [loc] at aI
def dt (C : bl) (s : ae) (T : TypeId) (x : j) (k : Nat) : Option j :=
 match (C.T T).k with
 | .struct ad => match ad[k]? with
   | some (fF, off) => if (C.T fF).ok = true ∧ (C.T fF).sz ≠ 0 then
     match x with
     | .ref (.agg ds) => match ds[k]? with
       | some d => if j.cn (ds.take k) = off then some (.ref d) else none
       | none => none
     | .J y o => if (s y).plain then none else some (.J y (o + off))
     | x => match loc s x with
       | some (y, q) => match j.sub q (s y) with
         | some (.agg ds) => if k < ds.length ∧ j.cn (ds.take k) = off then some (.al y (q ++ [k])) else none
         | _ => none
       | none => none
     else none
   | none => none
 | _ => none
theorem eA.sT {w : World} {b o : Nat} {br dc bC : List Value} (h : eA w b o (br ++ (dc ++ bC))) : eA w b (o + br.length) dc := by
 intro ay c bx
 have cx : ay < dc.length := (List.getElem?_eq_some_iff.1 bx).1
 have := h (br.length + ay) c (by rw [List.getElem?_append_right (by omega), List.getElem?_append_left (by omega), ← bx]; congr 1; omega)
 rw [Nat.add_assoc]; exact this
theorem sU (aJ : C.cP) {T fF : TypeId} {ad : List (TypeId × Nat)} {k off : Nat} (ai : (C.T T).k = .struct ad) (bb : ad[k]? = some (fF, off)) (U : (C.T fF).ok = true) (aa : (C.T fF).sz ≠ 0) (b o : Nat) (w : World) :
  (Instr.fieldAt T (.pointer (some ⟨b, o, none⟩)) k).run C.P w = .ok (.pointer (some ⟨b, o + off, none⟩)) w := by
 obtain ⟨i, d, z, aC, aF, a6, bQ, bT, bc, a8⟩ := aJ.info (dr ai (by simp))
 rw [ai] at a8
 obtain ⟨gs, rfl, hQ⟩ := pb a8
 obtain ⟨nk, aO, lf, f1, f2, f3, f4, f5, f6, f7⟩ := aJ.info U
 have aN : ∃ g, gs[k]? = some g ∧ g.type = fF ∧ g.offset = off := by
  rw [← hQ, List.getElem?_map] at bb
  simp only [Option.map_eq_some_iff, Prod.mk.injEq] at bb
  obtain ⟨g, U, aa, aw⟩ := bb
  exact ⟨g, by simpa using U, aa, aw⟩
 obtain ⟨g, g1, rfl, rfl⟩ := aN
 simp [Instr.fieldAt, run_underlying bc, g1, Instr.sureAddr, fieldPlace, gg f1, f2, aa, Addr.add_lit]
theorem AL (aJ : C.cP) (h : aZ w0 F0 X F S s ak w) {T : TypeId} {x : j} {v : Value} {k : Nat} (aj : x.plain = true) (aA : ar w F s ak x v (fun _ => False)) (he : dt C s T x k = some av) :
  Good C w0 F0 X ak w (Instr.fieldAt T v k) av s := by
 unfold dt at he
 split at he
 ·rename_i ad ai
  split at he
  ·rename_i fF off bb
   split at he
   ·rename_i nm
    split at he
    ·rename_i ds
     split at he
     ·rename_i d ab
      split at he
      ·rename_i jY
       simp only [Option.some.injEq] at he; subst he
       have hv := (ar.bt rfl).1 aA
       rw [ag] at hv
       obtain ⟨R, b, o, cu, U, aa, aw, aH⟩ := hv
       rw [dM R] at U
       simp only [List.cons.injEq, and_true] at U; subst U
       rw [ag] at aH
       obtain ⟨br, dc, bC, a_, eC, rfl, eu, dq, eb, eN, dj, hs⟩ := aD.pick ds _ _ k d aH ab
       refine Good.same h (sU aJ ai bb nm.1 nm.2 b o w) rfl ((ar.bt rfl).2 ⟨rfl, ?_⟩)
       rw [ag]
       refine ⟨b, o + off, dc, rfl, aa, ?_, ag.mono (fun _ h => h) _ _ _ _ (fun b J => eb b J) dj⟩
       rw [← jY, ← eu]; exact aw.sT
      ·cases he
     ·cases he
    ·rename_i y o
     split at he
     ·cases he
     ·rename_i al
      simp only [Option.some.injEq] at he; subst he
      rw [ar] at aA
      obtain ⟨b, cur, e, fr, rfl, aa, aw, aH⟩ := aA (by simpa using al)
      refine Good.same h (sU aJ ai bb nm.1 nm.2 b o w) rfl ?_
      rw [ar]
      exact fun _ => ⟨b, cur, e, fr, rfl, aa, aw, aH⟩
    ·rename_i x _ _
     split at he
     ·rename_i y q aI
      split at he
      ·rename_i ds ab
       split at he
       ·rename_i jY
        simp only [Option.some.injEq] at he; subst he
        obtain ⟨af, bH, b, o, rfl, gN⟩ := sS h aA aI ab
        refine Good.same h (sU aJ ai bb nm.1 nm.2 b o w) rfl ?_
        rw [ar]
        intro d2 e0 ma
        rw [pa w q _ _ _ _ _ _ [k] gN]
        rw [o_ _ _ _ _ ab] at e0
        have lg : ∃ d3, ds[k]? = some d3 := ⟨_, List.getElem?_eq_getElem jY.1⟩
        obtain ⟨d3, pd⟩ := lg
        simp only [j.sub, pd, Option.some.injEq] at e0
        subst e0
        simp only [bU, pd]
        refine ⟨(bH.drop off).take d3.wd, b, o + off, ?_, rfl⟩
        rw [jY.2]; rfl
       ·cases he
      ·cases he
     ·cases he
   ·cases he
  ·cases he
 ·cases he
def dm (C : bl) (s : ae) (T : TypeId) (x i : j) : Option j :=
 match (C.T T).k, i with
 | .slice e, .int _ n => if 0 ≤ n ∧ (C.T e).ok = true then
   match x with
   | .slice xs => match xs[n.toNat]? with
     | some d => if d.wd = (C.T e).sz then some (.ref d) else none
     | none => none
   | .h y q => match j.sub q (s y) with
     | some (.aP sz xs) => if n.toNat < xs.length ∧ sz = (C.T e).sz then some (.al y (q ++ [n.toNat])) else none
     | _ => none
   | _ => none
   else none
 | _, _ => none
theorem vS (aJ : C.cP) {T e : TypeId} (ai : (C.T T).k = .slice e) (he : (C.T e).ok = true) (b o len cap : Nat) (k : IntKind) (n : Nat) (aL : n < len) (w : World) :
  (Instr.indexAt T (.slice (some ⟨b, o, none⟩) len cap) (.int k n)).run C.P w = .ok (.pointer (some ⟨b, o + n * (C.T e).sz, none⟩)) w := by
 obtain ⟨i, d, z, aC, aF, a6, bQ, bT, bc, a8⟩ := aJ.info (dr ai (by simp))
 rw [ai] at a8
 have := gP a8; subst this
 obtain ⟨nk, aO, lf, f1, f2, f3, f4, f5, f6, f7⟩ := aJ.info he
 simp [Instr.indexAt, run_underlying bc, asIntOf, aL, gg f1, f2, Addr.add_lit]
theorem AM (aJ : C.cP) (h : aZ w0 F0 X F S s ak w) {T : TypeId} {x i : j} {v nn : Value} (aA : ar w F s ak x v (fun _ => False)) (AN : ar w F s ak i nn (fun _ => False))
  (he : dm C s T x i = some av) : Good C w0 F0 X ak w (Instr.indexAt T v nn) av s := by
 unfold dm at he
 split at he
 ·rename_i e k n ai
  have sV := (ar.bt rfl).1 AN
  rw [ag, dM sV.1] at sV
  have : nn = .int k n := by simpa using sV.2
  subst this
  split at he
  ·rename_i aL
   obtain ⟨n, rfl⟩ := Int.eq_ofNat_of_zero_le aL.1
   simp only [Int.toNat_natCast] at he
   split at he
   ·rename_i xs
    split at he
    ·rename_i d ab
     split at he
     ·rename_i hw
      simp only [Option.some.injEq] at he; subst he
      have hv := (ar.bt rfl).1 aA
      rw [ag, dM hv.1] at hv
      obtain ⟨R, ⟨rfl, _⟩ | ⟨b, o, cap, cu, sz, U, aa, aw, aH, aX, bD, bI⟩⟩ := hv
      ·simp at ab
      ·simp only [List.cons.injEq, and_true] at U; subst U
       have cx : n < xs.length := (List.getElem?_eq_some_iff.1 ab).1
       obtain ⟨br, dc, bC, a_, eC, rfl, eu, dq, eb, eN, dj, hs⟩ := aD.pick xs _ _ n d bI ab
       refine Good.same h (vS aJ ai aL.2 b o _ _ k n cx w) rfl ((ar.bt rfl).2 ⟨rfl, ?_⟩)
       rw [ag]
       refine ⟨b, _, dc, rfl, aa, ?_, ag.mono (fun _ h => h) _ _ _ _ (fun b J => eb b J) dj⟩
       have AO := aX d (List.mem_of_getElem? ab)
       have : n * (C.T e).sz = br.length := by
        rw [eu, l5 _ (fun d ab => aX d (List.mem_of_mem_take ab)), List.length_take, Nat.min_eq_left (by omega), ← hw, AO]
       rw [this]; exact bD.sT
     ·cases he
    ·cases he
   ·rename_i y q
    split at he
    ·rename_i sz xs ab
     split at he
     ·rename_i hw
      simp only [Option.some.injEq] at he; subst he
      rw [ar] at aA
      obtain ⟨bH, a, g1, g2, g3⟩ := aA _ ab rfl
      have R : Value.dF v = true := g3
      rw [dM R] at g2; subst g2
      have aj := h.cb y
      rw [ar.bt (eT ab (.inl rfl))] at aj
      obtain ⟨di, bK, cG, dV, k0, ba, bg, cy, b2, cM⟩ := ctx q (s y) (bj (ak y)) (S y) none _ aj.2 ab
      rw [k0] at g1
      simp only [Option.some.injEq, Prod.mk.injEq, true_and] at g1
      obtain ⟨rfl, rfl⟩ := g1
      rw [ag] at b2
      rcases b2 with ⟨rfl, _⟩ | ⟨b, cap, cur, aF, fr, ca, a6, _⟩
      ·simp at hw
      ·simp only [List.cons.injEq, and_true] at a6; subst a6
       refine Good.same h (vS aJ ai aL.2 b 0 _ _ k n hw.1 w) rfl ?_
       rw [ar]
       intro d2 e0 _
       rw [pa w q _ _ _ _ _ _ [n] k0]
       rw [o_ _ _ _ _ ab] at e0
       obtain ⟨d3, pd⟩ : ∃ d3, xs[n]? = some d3 := ⟨_, List.getElem?_eq_getElem hw.1⟩
       simp only [j.sub, pd, Option.some.injEq] at e0
       subst e0
       simp only [bU, pd]
       exact ⟨_, b, n * sz, rfl, by simp [hw.2]⟩
     ·cases he
    ·cases he
   ·cases he
  ·cases he
 ·cases he
end
section
variable {C : bl} {w0 w : World} {F0 X F : Nat → Prop} {S : Nat → Nat → Prop} {s s1 : ae} {ak : Nat → Value} {av : j}
theorem vT (aJ : C.cP) {T : TypeId} {ad : List (TypeId × Nat)} (ai : (C.T T).k = .struct ad) (w : World) : (isAgg T).run C.P w = .ok true w := by
 obtain ⟨i, d, z, aC, aF, a6, bQ, bT, bc, a8⟩ := aJ.info (dr ai (by simp))
 rw [ai] at a8
 obtain ⟨gs, rfl, _⟩ := pb a8
 simp [isAgg, run_underlying bc]
def dB.flat (x : dB) : Bool := match x.k with
 | .other => false
 | .df _ => false
 | .struct _ => false
 | _ => true
theorem vU {x : dB} (h : x.flat = true) : x.ok = true := by
 unfold dB.flat at h; unfold dB.ok; revert h; cases x.k <;> simp
theorem sW (aJ : C.cP) {T : TypeId} (ai : (C.T T).flat = true) (w : World) : (isAgg T).run C.P w = .ok false w := by
 obtain ⟨i, d, z, aC, aF, a6, bQ, bT, bc, a8⟩ := aJ.info (vU ai)
 have cj : (∀ ad, d ≠ .struct ad) ∧ (∀ n e, d ≠ .array n e) := by
  clear bc
  unfold dB.flat at ai
  generalize (C.T T).k = hx at *
  cases hx <;> cases d <;> simp [hf] at a8 ai ⊢
 cases d <;> first | exact (cj.1 _ rfl).elim | exact (cj.2 _ _ rfl).elim | simp [isAgg, run_underlying bc]
theorem eA.one {w : World} {b o : Nat} {v : Value} (h : eA w b o [v]) : w.cell? ⟨b, o, none⟩ = some v := by simpa using h 0 v rfl
theorem vV {P : Program} {b o : Nat} : ∀ (cs : List Value) (i : Nat) (acc : Array Value), eA w b (o + i) cs → (loadCellsFrom ⟨b, o, none⟩ i cs.length acc).run P w = .ok (acc ++ cs.toArray) w
 | [], i, acc, _ => by simp [loadCellsFrom]
 | c :: cs, i, acc, h => by
   have bk : w.cell? ⟨b, o + i, none⟩ = some c := by simpa using h 0 c rfl
   have U : eA w b (o + (i + 1)) cs := by
    intro ay x bx
    have := h (ay + 1) x (by simpa using bx)
    rw [← this]; congr 2; omega
   have ih := vV (P := P) cs (i + 1) (acc.push c) U
   simp only [List.length_cons, loadCellsFrom, Sem.run_bind, Go.load, Sem.run, Addr.add_lit, bk, Result.andThen]
   rw [ih]; simp
theorem AP (aJ : C.cP) {T : TypeId} {ad : List (TypeId × Nat)} (ai : (C.T T).k = .struct ad) {b o : Nat} {cs : List Value} (h : eA w b o cs) (aI : cs.length = (C.T T).sz) :
  (loadVar T ⟨b, o, none⟩).run C.P w = .ok (.agg cs.toArray) w := by
 obtain ⟨i, d, z, aC, aF, a6, bQ, bT, bc, a8⟩ := aJ.info (dr ai (by simp))
 have := vV (P := C.P) (b := b) (o := o) cs 0 #[] (by simpa using h)
 simp only [loadVar, Sem.run_bind, vT aJ ai, Result.andThen, if_true, gg aC, aF, ← aI, loadCells, this]
 simp
theorem vW (aJ : C.cP) {T : TypeId} (ai : (C.T T).flat = true) {b o : Nat} {v : Value} (h : eA w b o [v]) :
  (loadVar T ⟨b, o, none⟩).run C.P w = .ok v w := by
 simp [loadVar, sW aJ ai, Go.load, Sem.run, h.one]
def fits (C : bl) (T : TypeId) (d : j) : Bool := match (C.T T).k, d with
    | .struct _, .agg ds => j.cn ds == (C.T T).sz
    | .struct _, _ => false
    | _, .agg _ => false
    | _, .tuple _ => false
    | _, _ => (C.T T).flat
def vX : List j → Nat → Nat → Option Nat
 | [], _, _ => none
 | d :: ds, i, k => if k = 0 then some i else if d.wd ≤ k then vX ds (i + 1) (k - d.wd) else none
def cH (C : bl) (s : ae) (T : TypeId) (x : j) : Option j :=
 match x with
 | .ref d => if fits C T d = true then some d else none
 | .J y k => match s y with
   | .agg ds => if j.dd ds then none else match vX ds 0 k with
     | some i => match ds[i]? with
       | some d => if j.cn (ds.take i) = k ∧ fits C T d = true then some (if d.plain then d else .h y [i]) else none
       | none => none
     | none => none
   | _ => none
 | x => match loc s x with
   | some (y, q) => match j.sub q (s y) with
     | some d => if fits C T d = true then some (if d.plain then d else .h y q) else none
     | none => none
   | none => none
theorem ag.one {F : Nat → Prop} {d : j} {cs : List Value} {S : Nat → Prop} (h : ag w F d cs S) (U : ∀ ad, d ≠ .agg ad) (aa : ∀ ad, d ≠ .tuple ad) : ∃ v, cs = [v] ∧ Value.dF v = true := by
 cases d with
 | hole => rw [ag] at h; obtain ⟨v, h, rfl⟩ := h; exact ⟨v, rfl, h⟩
 | cO => rw [ag] at h; obtain ⟨v, rfl⟩ := h; exact ⟨_, rfl, rfl⟩
 | slice xs => rw [ag] at h; rcases h with ⟨_, a, c, rfl, _⟩ | ⟨b, o, cap, cu, sz, rfl, _⟩ <;> exact ⟨_, rfl, rfl⟩
 | aP sz xs => rw [ag] at h; rcases h with ⟨_, _, rfl⟩ | ⟨b, cap, cur, e, fr, cf, rfl, _⟩ <;> exact ⟨_, rfl, rfl⟩
 | ref d => rw [ag] at h; obtain ⟨b, o, cu, rfl, _⟩ := h; exact ⟨_, rfl, rfl⟩
 | bn d => rw [ag] at h; obtain ⟨b, cur, e, fr, cf, rfl, _⟩ := h; exact ⟨_, rfl, rfl⟩
 | agg ad => exact (U _ rfl).elim
 | tuple ad => exact (aa _ rfl).elim
 | fn _ _ => rw [ag] at h; obtain ⟨arr, rfl, _⟩ := h; exact ⟨_, rfl, rfl⟩
 | h _ _ => rw [ag] at h; exact h.elim
 | al _ _ => rw [ag] at h; exact h.elim
 | J _ _ => rw [ag] at h; exact h.elim
 | b_ _ => rw [ag] at h; obtain ⟨v, eG, rfl⟩ := g_.one h; exact ⟨v, rfl, eG⟩
 | _ => rw [ag] at h; subst h; exact ⟨_, rfl, rfl⟩
theorem j.qT {d : j} (h : d.single = true) : (∀ ad, d ≠ .agg ad) ∧ ∀ ad, d ≠ .tuple ad :=
 ⟨fun ad e => (by subst e; cases h), fun ad e => (by subst e; cases h)⟩
theorem ar.jn {F : Nat → Prop} {s : ae} {ak : Nat → Value} {d : j} {v : Value} (aG : d.tree = true) (R : d.single = true) (h : ag w F d [v] (fun _ => False)) : ar w F s ak d v (fun _ => False) := by
 obtain ⟨b6, e, U⟩ := ag.one h (j.qT R).1 (j.qT R).2
 have : v = b6 := by simpa using e
 subst this
 refine (ar.bt aG).2 ⟨?_, by rw [dM U]; exact h⟩
 cases d <;> first | exact U | cases R
mutual
theorem ar.jZ {F : Nat → Prop} {s : ae} {ak : Nat → Value} : ∀ (d : j) (v : Value), d.single = true → ag w F d [v] (fun _ => False) → ar w F s ak d v (fun _ => False)
 | .fn f caps, v, _, h => by
   rw [ag] at h
   obtain ⟨arr, U, aa, aw⟩ := h
   rw [ar]
   exact ⟨arr, by simpa using U, ck.jZ caps _ aa aw⟩
 | .bool b, v, R, h => ar.jn rfl R h
 | .cO, v, R, h => ar.jn rfl R h
 | .int k n, v, R, h => ar.jn rfl R h
 | .str x, v, R, h => ar.jn rfl R h
 | .b7, v, R, h => ar.jn rfl R h
 | .bB, v, R, h => ar.jn rfl R h
 | .slice xs, v, R, h => ar.jn rfl R h
 | .aP sz xs, v, R, h => ar.jn rfl R h
 | .ref d, v, R, h => ar.jn rfl R h
 | .bn d, v, R, h => ar.jn rfl R h
 | .h _ _, v, _, h => by rw [ag] at h; exact h.elim
 | .al _ _, v, _, h => by rw [ag] at h; exact h.elim
 | .J _ _, v, _, h => by rw [ag] at h; exact h.elim
 | .b_ _, v, R, h => ar.jn rfl R h
theorem ck.jZ {F : Nat → Prop} {s : ae} {ak : Nat → Value} : ∀ (ds : List j) (vs : List Value), (∀ d ∈ ds, d.single = true) → aD w F ds vs (fun _ => False) → ck w F s ak ds vs
 | [], vs, _, h => by rw [aD] at h; rw [ck]; exact h
 | d :: ds, vs, R, h => by
   rw [aD] at h
   obtain ⟨br, bC, a_, ca, rfl, aa, aw, aH, aX, _⟩ := h
   have ab := R d (by simp)
   obtain ⟨v, rfl, _⟩ := ag.one aa (j.qT ab).1 (j.qT ab).2
   rw [ck]
   exact ⟨v, bC, rfl, ar.jZ d v ab (ag.mono (fun _ h => h) _ _ _ _ (fun b J => aH b J) aa), ck.jZ ds bC (fun x aj => R x (by simp [aj])) (aD.mono (fun _ h => h) _ _ _ _ (fun b J => aX b J) aw)⟩
end
theorem qU (aJ : C.cP) {T : TypeId} {d : j} {b o : Nat} {cs : List Value} {S : Nat → Prop} (h : eA w b o cs) (ab : ag w F d cs S)
  (eH : fits C T d = true) :
  ∃ v, (loadVar T ⟨b, o, none⟩).run C.P w = .ok v w ∧ bj v = cs ∧ cp d v := by
 unfold fits at eH
 by_cases R : ∃ ad, (C.T T).k = .struct ad
 ·obtain ⟨ad, ai⟩ := R
  rw [ai] at eH
  cases d with
  | agg ds =>
    simp only [beq_iff_eq] at eH
    refine ⟨_, AP aJ ai h ((ag.length _ _ _ ab).trans eH), rfl, ⟨_, rfl⟩⟩
  | _ => simp at eH
 ·have fo : (C.T T).flat = true ∧ (∀ ad, d ≠ .agg ad) ∧ (∀ ad, d ≠ .tuple ad) := by
   revert eH R
   cases ai : (C.T T).k <;> cases d <;> simp
  obtain ⟨v, rfl, U⟩ := ag.one ab fo.2.1 fo.2.2
  refine ⟨v, vW aJ fo.1 h, dM U, ?_⟩
  cases d <;> first | exact U | exact (fo.2.1 _ rfl).elim | exact (fo.2.2 _ rfl).elim
theorem AQ (aJ : C.cP) {T : TypeId} {d : j} {off : Nat} {arr : Array Value} {br cs bC : List Value} {S : Nat → Prop} (he : arr.toList = br ++ (cs ++ bC)) (bo : br.length = off) (ab : ag w F d cs S)
  (eH : fits C T d = true) :
  ∃ v, (part T arr off).run C.P w = .ok v w ∧ bj v = cs ∧ cp d v := by
 unfold fits at eH
 by_cases R : ∃ ad, (C.T T).k = .struct ad
 ·obtain ⟨ad, ai⟩ := R
  rw [ai] at eH
  cases d with
  | agg ds =>
    simp only [beq_iff_eq] at eH
    obtain ⟨i, d, z, aC, aF, a6, bQ, bT, bc, a8⟩ := aJ.info (dr ai (by simp))
    have aI : cs.length = (C.T T).sz := (ag.length _ _ _ ab).trans eH
    have aj : (arr.extract off (off + (C.T T).sz)).toList = cs := by
     rw [Array.toList_extract, he, List.extract_eq_take_drop, ← aI, ← bo, Nat.add_sub_cancel_left, List.drop_left, List.take_left]
    refine ⟨.agg (arr.extract off (off + (C.T T).sz)), ?_, by simpa [bj, eS] using aj, ⟨_, rfl⟩⟩
    simp [part, vT aJ ai, gg aC, aF]
  | _ => simp at eH
 ·have fo : (C.T T).flat = true ∧ (∀ ad, d ≠ .agg ad) ∧ (∀ ad, d ≠ .tuple ad) := by
   revert eH R
   cases ai : (C.T T).k <;> cases d <;> simp
  obtain ⟨v, rfl, U⟩ := ag.one ab fo.2.1 fo.2.2
  have aN : arr[off]? = some v := by
   rw [← Array.getElem?_toList, he, ← bo, List.getElem?_append_right (Nat.le_refl _)]; simp
  refine ⟨v, ?_, dM U, ?_⟩
  ·simp [part, sW aJ fo.1, aN]
  ·cases d <;> first | exact U | exact (fo.2.1 _ rfl).elim | exact (fo.2.2 _ rfl).elim
theorem AR (aJ : C.cP) (h : aZ w0 F0 X F S s ak w) {T : TypeId} {x : j} {v : Value} (aA : ar w F s ak x v (fun _ => False)) (he : cH C s T x = some av) :
  Good C w0 F0 X ak w (Instr.loadAt T v) av s := by
 unfold cH at he
 split at he
 ·rename_i d
  split at he
  ·rename_i eH
   simp only [Option.some.injEq] at he; subst he
   have hv := (ar.bt rfl).1 aA
   rw [ag, dM hv.1] at hv
   obtain ⟨R, b, o, cu, U, aa, aw, aH⟩ := hv
   simp only [List.cons.injEq, and_true] at U; subst U
   obtain ⟨b6, aB, af, iJ⟩ := qU aJ aw aH eH
   have cD : (Instr.loadAt T (.pointer (some ⟨b, o, none⟩))).run C.P w = .ok b6 w := by simp [Instr.loadAt, Instr.sureAddr, aB]
   refine ⟨b6, w, F, S, cD, h, ?_⟩
   by_cases aG : d.tree = true
   ·exact .inr ⟨aG, iJ, fun _ => False, by rw [af]; exact aH, fun _ h => h.elim, fun _ h => h.elim, fun _ _ h => h.elim, fun _ h => h.elim⟩
   ·cases d <;> first | exact (aG rfl).elim | (rw [ag] at aH; exact aH.elim) | exact .inl ⟨rfl, by rw [ar]; trivial⟩ | (have aX := aH; rw [ag] at aX; obtain ⟨arr, e, _⟩ := aX; rw [← af] at e aH; rw [dM (by exact iJ)] at aH; exact .inl ⟨rfl, ar.jZ _ _ rfl aH⟩)
  ·cases he
 ·rename_i y k
  split at he
  ·rename_i ds ic
   split at he
   ·cases he
   ·rename_i pe
    split at he
    ·rename_i i ax
     split at he
     ·rename_i d ab
      split at he
      ·rename_i eH
       simp only [Option.some.injEq] at he
       have ej : (s y).plain = false := by rw [ic]; simp only [j.plain]; simpa using pe
       rw [ar] at aA
       obtain ⟨b, cur, e, fr, rfl, aa, aw, aH⟩ := aA ej
       have aY := h.cb y
       rw [ic] at aY
       have vY := ((ar.bt rfl).1 aY).2
       rw [ag] at vY
       obtain ⟨br, dc, bC, a_, eC, fp, eu, dq, eb, eN, dj, hs⟩ := aD.pick ds _ _ i d vY ab
       have fN : eA w b k dc := by
        intro ay c bx
        have cx : ay < dc.length := (List.getElem?_eq_some_iff.1 bx).1
        have : cur.toList[k + ay]? = some c := by
         rw [aH, fp, List.getElem?_append_right (by omega), List.getElem?_append_left (by omega), ← bx]; congr 1; omega
        simp [World.cell?, aw]
        simpa using this
       obtain ⟨b6, aB, af, iJ⟩ := qU aJ fN dj eH.2
       have cD : (Instr.loadAt T (.pointer (some ⟨b, k, none⟩))).run C.P w = .ok b6 w := by simp [Instr.loadAt, Instr.sureAddr, aB]
       refine ⟨b6, w, F, S, cD, h, ?_⟩
       split at he
       ·rename_i al
        subst he
        by_cases aG : d.tree = true
        ·exact .inl ⟨al, (ar.bt aG).2 ⟨iJ, by rw [af]; exact ag.plain _ _ _ _ al dj⟩⟩
        ·cases d <;> first | exact (aG rfl).elim | (rw [ag] at dj; exact dj.elim) | exact .inl ⟨rfl, by rw [ar]; trivial⟩ | (have aX := ag.plain _ _ _ (fun _ => False) al dj; rw [← af] at aX; rw [dM (by exact iJ)] at aX; exact .inl ⟨rfl, ar.jZ _ _ rfl aX⟩)
       ·subst he
        refine .inl ⟨rfl, ?_⟩
        rw [ar]
        intro d2 e0 _
        rw [ic] at e0 ⊢
        simp only [j.sub, ab, Option.some.injEq] at e0
        subst e0
        refine ⟨dc, none, ?_, af, iJ⟩
        simp only [bU, ab]
        rw [fp, l3 br dc bC _ _ eu (ag.length _ _ _ dj)]
        rfl
      ·cases he
     ·cases he
    ·cases he
  ·cases he
 ·rename_i x _ _
  split at he
  ·rename_i y q aI
   split at he
   ·rename_i d ab
    split at he
    ·rename_i eH
     simp only [Option.some.injEq] at he
     obtain ⟨jo, bH, b, o, rfl, gN⟩ := sS h aA aI ab
     have aY := h.cb y
     rw [ar.bt (eT ab (.inr jo))] at aY
     obtain ⟨di, bK, cG, dV, k0, ba, bg, cy, b2, cM⟩ := ctx q (s y) (bj (ak y)) (S y) none _ aY.2 ab
     rw [k0] at gN
     simp only [Option.some.injEq, Prod.mk.injEq, true_and] at gN
     obtain ⟨rfl, rfl⟩ := gN
     have fN : eA w b o di := by
      rcases cM with ⟨l, r, aC, aF, _⟩ | ⟨c9, cur, e, fr, l, r, aC, aF, a6, bQ, bT, _⟩
      ·simp at aF
      ·simp only [Option.some.injEq, Prod.mk.injEq] at aC
       obtain ⟨rfl, rfl⟩ := aC
       intro ay c bx
       have cx : ay < di.length := (List.getElem?_eq_some_iff.1 bx).1
       have : cur.toList[l.length + ay]? = some c := by
        rw [bT, List.getElem?_append_right (by omega), List.getElem?_append_left (by omega), ← bx]; congr 1; omega
       simp [World.cell?, a6]
       simpa using this
     obtain ⟨b6, aB, af, iJ⟩ := qU aJ fN b2 eH
     have cD : (Instr.loadAt T (.pointer (some ⟨b, o, none⟩))).run C.P w = .ok b6 w := by simp [Instr.loadAt, Instr.sureAddr, aB]
     refine ⟨b6, w, F, S, cD, h, ?_⟩
     split at he
     ·rename_i al
      subst he
      by_cases aG : d.tree = true
      ·exact .inl ⟨al, (ar.bt aG).2 ⟨iJ, by rw [af]; exact ag.plain _ _ _ _ al b2⟩⟩
      ·cases d <;> first | exact (aG rfl).elim | (rw [ag] at b2; exact b2.elim) | exact .inl ⟨rfl, by rw [ar]; trivial⟩ | (have aX := ag.plain _ _ _ (fun _ => False) al b2; rw [← af] at aX; rw [dM (by exact iJ)] at aX; exact .inl ⟨rfl, ar.jZ _ _ rfl aX⟩)
     ·subst he
      refine .inl ⟨rfl, ?_⟩
      rw [ar]
      intro d2 e0 _
      rw [ab] at e0
      simp only [Option.some.injEq] at e0
      subst e0
      exact ⟨_, _, k0, af, iJ⟩
    ·cases he
   ·cases he
  ·cases he
mutual
theorem ag.mb {F : Nat → Prop} : ∀ (d : j) (cs : List Value) (S : Nat → Prop), ag w F d cs S → ∀ c ∈ cs, Value.dF c = true
 | .hole, cs, S, h => by rw [ag] at h; obtain ⟨v, h, rfl⟩ := h; simpa using h
 | .bool _, cs, S, h => by rw [ag] at h; subst h; simp [Value.dF]
 | .cO, cs, S, h => by rw [ag] at h; obtain ⟨b, rfl⟩ := h; simp [Value.dF]
 | .int _ _, cs, S, h => by rw [ag] at h; subst h; simp [Value.dF]
 | .str _, cs, S, h => by rw [ag] at h; subst h; simp [Value.dF]
 | .b7, cs, S, h => by rw [ag] at h; subst h; simp [Value.dF]
 | .bB, cs, S, h => by rw [ag] at h; subst h; simp [Value.dF]
 | .slice xs, cs, S, h => by
   rw [ag] at h
   rcases h with ⟨_, a, c, rfl, _⟩ | ⟨b, o, cap, cu, sz, rfl, _⟩ <;> simp [Value.dF]
 | .aP sz xs, cs, S, h => by
   rw [ag] at h
   rcases h with ⟨_, _, rfl⟩ | ⟨b, cap, cur, e, fr, az, rfl, _⟩ <;> simp [Value.dF]
 | .ref d, cs, S, h => by rw [ag] at h; obtain ⟨b, o, cu, rfl, _⟩ := h; simp [Value.dF]
 | .bn d, cs, S, h => by rw [ag] at h; obtain ⟨b, o, cu, _, _, rfl, _⟩ := h; simp [Value.dF]
 | .agg ad, cs, S, h => by rw [ag] at h; exact aD.mb ad _ _ h
 | .tuple ad, cs, S, h => by rw [ag] at h; exact aD.mb ad _ _ h
 | .fn _ _, cs, S, h => by rw [ag] at h; obtain ⟨arr, rfl, _⟩ := h; simp [Value.dF]
 | .h _ _, cs, S, h => by rw [ag] at h; exact h.elim
 | .al _ _, cs, S, h => by rw [ag] at h; exact h.elim
 | .J _ _, cs, S, h => by rw [ag] at h; exact h.elim
 | .b_ _, cs, S, h => by rw [ag] at h; obtain ⟨v, eG, rfl⟩ := g_.one h; simpa using eG
theorem aD.mb {F : Nat → Prop} : ∀ (ds : List j) (cs : List Value) (S : Nat → Prop), aD w F ds cs S → ∀ c ∈ cs, Value.dF c = true
 | [], cs, S, h => by rw [aD] at h; subst h; simp
 | d :: ds, cs, S, h => by
   rw [aD] at h
   obtain ⟨br, bC, a_, ca, rfl, aa, aw, _⟩ := h
   intro c af
   rcases List.mem_append.1 af with af | af
   ·exact ag.mb d _ _ aa c af
   ·exact aD.mb ds _ _ aw c af
end
theorem sX {P : Program} {b o : Nat} {e : TypeId} {fr : Nat × Nat} : ∀ (vs : List Value) (i : Nat) (cur : Array Value) (w : World) (l m r : List Value), w.heap[b]? = some (.cells cur e fr) → k_ fr cur.size →
  cur.toList = l ++ (m ++ r) → l.length = o + i → m.length = vs.length → (∀ v ∈ vs, Value.dF v = true) →
  ∃ an, (storeCells ⟨b, o, none⟩ vs i).run P w = .ok () an ∧ an.heap[b]? = some (.cells (l ++ (vs ++ r)).toArray e fr) ∧ (∀ c, c ≠ b → an.heap[c]? = w.heap[c]?) ∧ an.heap.size = w.heap.size ∧ an.os = w.os ∧ an.tape = w.tape ∧ an.output = w.output
 | [], i, cur, w, l, m, r, J, bb, af, aI, hm, _ => by
   refine ⟨w, rfl, ?_, fun _ _ => rfl, rfl, rfl, rfl, rfl⟩
   have : m = [] := by simpa using hm
   subst this
   rw [J]
   have : cur = (l ++ ([] ++ r)).toArray := by rw [← af]
   rw [← this]
 | v :: vs, i, cur, w, l, m, r, J, bb, af, aI, hm, qV => by
   obtain ⟨x, m, rfl⟩ : ∃ x fR, m = x :: fR := by cases m with
    | nil => simp at hm
    | cons x m => exact ⟨x, m, rfl⟩
   have hlen : cur.size = (l ++ (x :: m ++ r)).length := by rw [← af]; simp
   have cx : o + i < cur.size := by rw [hlen]; simp; omega
   have qW : w.cell? ⟨b, o + i, none⟩ = some cur[o + i] := by simp [World.cell?, J, cx]
   have AS : w.frozen? ⟨b, o + i, none⟩ = false := by
    have := bb (o + i) cx
    simp only [World.frozen?, J]
    simp only [Bool.and_eq_false_iff, decide_eq_false_iff_not]
    by_cases U : fr.1 ≤ o + i
    ·right; exact fun aa => this ⟨U, aa⟩
    ·left; exact U
   have lh : (w.setCell ⟨b, o + i, none⟩ v).heap[b]? = some (.cells ((l ++ [v]) ++ (m ++ r)).toArray e fr) := by
    simp only [World.setCell, Array.getElem?_modify, if_true, J, Option.map_some, Option.isSome_none, Bool.false_eq_true, if_false]
    congr 2
    apply Array.ext'
    rw [Array.toList_setIfInBounds, af, ← aI, List.set_append_right _ _ (Nat.le_refl _)]
    simp
   have mc : (store ((⟨b, o, none⟩ : Addr).add i) v).run P w = .ok () (w.setCell ⟨b, o + i, none⟩ v) := by
    have U := qV v (by simp)
    rw [Addr.add_lit]
    cases v <;> first | (simp [Value.dF] at U; done) | simp [Go.store, Sem.run, qW, AS]
   obtain ⟨an, g1, g2, g3, g4, g5, g6, g7⟩ := sX (P := P) (b := b) (o := o) vs (i + 1) _ (w.setCell ⟨b, o + i, none⟩ v) (l ++ [v]) m r lh (by
    have : (l ++ [v] ++ (m ++ r)).toArray.size = cur.size := by rw [hlen]; simp
    rw [this]; exact bb) (by simp) (by simp; omega) (by simpa using hm) (fun u hu => qV u (by simp [hu]))
   refine ⟨an, ?_, by simpa using g2, fun c af => ?_, ?_, g5, g6, g7⟩
   ·simp only [storeCells, Sem.run_bind, mc, Result.andThen]; exact g1
   ·rw [g3 c af]
    simp only [World.setCell, Array.getElem?_modify]
    rw [if_neg (fun e => af e.symm)]
   ·rw [g4]; simp [World.setCell]
theorem pf {d : j} {v : Value} (h : cp d v) (ab : ∀ ad, d ≠ .tuple ad) : v.cells = (bj v).toArray := by
 cases d with
 | tuple ad => exact (ab _ rfl).elim
 | agg ad => obtain ⟨arr, rfl⟩ := h; simp [Value.cells, bj, eS]
 | _ =>
   have U : Value.dF v = true := h
   rw [dM U]
   cases v <;> first | rfl | (simp [Value.dF] at U)
def dC (C : bl) (s : ae) (T : TypeId) (x y : j) : Option ae :=
 match bE s y, loc s x with
 | some (d, s1), some (z, q) => match d with
   | .tuple _ => none
   | d => match j.sub q (s z) with
     | some d0 => if d.wd = d0.wd ∧ d.wd = (C.T T).sz ∧ (C.T T).ok = true ∧ y.owner ≠ some z then some (b4 (fa z s1) z (j.put q d (s z))) else none
     | none => none
 | _, _ => none
theorem AU {s s1 : ae} {y d : j} {z : Nat} (h : bE s y = some (d, s1)) (a1 : (s z).tree = true) (aY : y.owner ≠ some z) : s1 z = s z := by
 cases y with
 | h x q =>
   simp only [bE] at h
   split at h
   ·split at h
    ·cases h
    ·simp only [Option.some.injEq, Prod.mk.injEq] at h
     obtain ⟨_, rfl⟩ := h
     rw [gd _ _ (fun e => aY (by rw [j.owner, e]))]
     exact sI a1
   ·cases h
 | al x q => simp [bE] at h
 | J x q => simp [bE] at h
 | fn f c => simp [bE] at h
 | hole => simp [bE] at h
 | _ => simp only [bE, Option.some.injEq, Prod.mk.injEq] at h; rw [h.2]
theorem AV (aJ : C.cP) (h : aZ w0 F0 X F S s ak w) {T : TypeId} {x y : j} {fq e1 : Value} (sY : ar w F s ak x fq (fun _ => False)) (aY : y.plain = true) (AW : ar w F s ak y e1 (fun _ => False))
  {s2 : ae} (he : dC C s T x y = some s2) :
  ∃ an az, (Instr.storeAt T fq e1).run C.P w = .ok () an ∧ aZ w0 F0 X F az s2 ak an := by
 unfold dC at he
 split at he
 ·rename_i d s1 z q aG aI
  have key : ∀ d : j, (∀ ad, d ≠ .tuple ad) → bE s y = some (d, s1) → (match j.sub q (s z) with
   | some d0 => if d.wd = d0.wd ∧ d.wd = (C.T T).sz ∧ (C.T T).ok = true ∧ y.owner ≠ some z then some (b4 (fa z s1) z (j.put q d (s z))) else none
   | none => none) = some s2 → ∃ an az, (Instr.storeAt T fq e1).run C.P w = .ok () an ∧ aZ w0 F0 X F az s2 ak an := by
   intro d ky aG he
   split at he
   ·rename_i d0 hR
    split at he
    ·rename_i me
     obtain ⟨U, aa, aw, aH⟩ := me
     simp only [Option.some.injEq] at he; subst he
     obtain ⟨jo, bH, b, o, rfl, gN⟩ := sS h sY aI hR
     obtain ⟨a_, g0, g1, g2, Sn, g3, g4, g5, g6, g7, g8⟩ := jX h aY AW aG
     have cB : s1 z = s z := AU aG (eT hR (.inr jo)) aH
     rw [← cB] at hR jo gN ⊢
     obtain ⟨di, c9, l, r, cur, e, fr, k0, ba, bg, cy, b2⟩ := g0.store hR jo g3 U g4 g5 g6 g7
     rw [gN] at k0
     simp only [Option.some.injEq, Prod.mk.injEq, true_and] at k0
     obtain ⟨rfl, rfl, rfl⟩ := k0
     obtain ⟨i, d, lf, aC, aF, a6, bQ, bT, bc, a8⟩ := aJ.info aw
     have hlen := ag.length _ _ _ g3
     have hm : bH.length = (bj e1).length := by
      have qX := g0.cb z
      rw [ar.bt (eT hR (.inr jo))] at qX
      obtain ⟨_, _, _, _, iF, _, _, _, pg, _⟩ := ctx q (s1 z) (bj (ak z)) (a_ z) none _ qX.2 hR
      rw [gN] at iF
      simp only [Option.some.injEq, Prod.mk.injEq, true_and] at iF
      rw [iF.1, ag.length _ _ _ pg, hlen, U]
     obtain ⟨an, dH, eI, fw, jq, j0, e2, kz⟩ := sX (P := C.P) (b := b) (o := l.length) (e := e) (fr := fr) (bj e1) 0 cur w l bH r ba cy bg rfl hm (ag.mb _ _ _ g3)
     obtain ⟨az, cM⟩ := b2 an eI fw jq j0 e2 kz
     refine ⟨an, az, ?_, cM⟩
     have jr := pf g2 ky
     simp [Instr.storeAt, Instr.sureAddr, storeVar, gg aC, aF, jr, hlen, aa, dH]
    ·cases he
   ·cases he
  split at he
  ·cases he
  ·rename_i ky
   exact key _ (fun ad e => ky ad e) aG he
 ·cases he
theorem aZ.alloc (h : aZ w0 F0 X F S s ak w) {d : j} {cs : List Value} {Sn : Nat → Prop} (e : TypeId) (aA : ag w F d cs Sn)
  (cx : ∀ b, Sn b → b < w.heap.size) (aK : ∀ b, Sn b → ¬ F b) (aU : ∀ u b, Sn b → ¬ S u b) (bk : ∀ b, Sn b → X b ∨ w0.heap.size ≤ b) :
  aZ w0 F0 X F S s ak (w.alloc (.cells cs.toArray e)) ∧
   gO w0 X F S s ak (w.alloc (.cells cs.toArray e)) (.bn d) (.pointer (some ⟨w.heap.size, 0, none⟩)) := by
 have hold : ∀ b, b < w.heap.size → (w.alloc (.cells cs.toArray e)).heap[b]? = w.heap[b]? := by
  intro b J
  show (w.heap.push _)[b]? = _
  rw [Array.getElem?_push, if_neg (by omega)]
 refine ⟨h.grow hold (by simp) rfl rfl rfl, .inr ⟨rfl, rfl, fun b => b = w.heap.size ∨ Sn b, ?_, ?_, ?_, ?_, ?_⟩⟩
 ·rw [ag]
  refine ⟨w.heap.size, cs.toArray, e, (0, 0), Sn, rfl, .inl rfl, ?_, ?_, ?_, fun c af => .inr af, fun af => Nat.lt_irrefl _ (cx _ af)⟩
  ·show (w.heap.push _)[_]? = _
   simp
  ·intro o _ ⟨_, aa⟩; exact absurd aa (Nat.not_lt_zero _)
  ·exact ag.frame (fun b J => hold b (h.c6 b J)) _ _ _ (fun b J => hold b (cx b J)) aA
 ·rintro b (rfl | J)
  ·simp
  ·have := cx b J; simp; omega
 ·rintro b (rfl | J) mf
  ·exact Nat.lt_irrefl _ (h.c6 _ mf)
  ·exact aK b J mf
 ·rintro u b (rfl | J) hu
  ·exact Nat.lt_irrefl _ (h.cL _ _ hu)
  ·exact aU u b J hu
 ·rintro b (rfl | J)
  ·exact .inr h.size
  ·exact bk b J
def ek (C : bl) (T : TypeId) : Option j := if (C.T T).ok = true then (match (C.T T).k, (C.T T).zero with
    | .df e, .agg [.b7, .bB] => some (.b_ (.dp T e []))
    | .df _, _ => none
    | _, z => (match flat z with | some _ => some (.bn z) | none => none)) else none
theorem AX (aJ : C.cP) (h : aZ w0 F0 X F S s ak w) {T : TypeId} (he : ek C T = some av) : Good C w0 F0 X ak w (Instr.alloc T true (.tuple #[])) av s := by
 unfold ek at he
 split at he
 ·rename_i ai
  split at he
  ·rename_i Ls sZ AY
   simp only [Option.some.injEq] at he; subst he
   obtain ⟨i, d, z, aC, aF, a6, bQ, bT, bc, a8⟩ := aJ.info ai
   have a1 := bT [.pointer none, .slice none 0 0] (by rw [AY]; rfl)
   have hold : ∀ b, b < w.heap.size → (w.alloc (.cells #[.pointer none, .slice none 0 0] T)).heap[b]? = w.heap[b]? := by
    intro b J
    show (w.heap.push _)[b]? = _
    rw [Array.getElem?_push, if_neg (by omega)]
   refine ⟨.pointer (some ⟨w.heap.size, 0, none⟩), w.alloc (.cells #[.pointer none, .slice none 0 0] T), F, S, ?_, h.grow hold (by simp) rfl rfl rfl, .inr ⟨rfl, rfl, fun b => b = w.heap.size, ?_, ?_, ?_, ?_, ?_⟩⟩
   ·simp [Instr.alloc, nj aC bQ, newVar, newRow, newObj, Sem.run, a1]
   ·rw [ag]
    refine ⟨w.heap.size, .pointer none, .slice none 0 0, rfl, rfl, ?_, .inl rfl, .inl ⟨rfl, rfl⟩⟩
    show (w.heap.push _)[_]? = _
    simp
   ·rintro b rfl; simp
   ·rintro b rfl mf; exact Nat.lt_irrefl _ (h.c6 _ mf)
   ·rintro u b rfl hu; exact Nat.lt_irrefl _ (h.cL _ _ hu)
   ·rintro b rfl; exact .inr h.size
  ·cases he
  split at he
  ·rename_i cs fp
   simp only [Option.some.injEq] at he; subst he
   obtain ⟨i, d, z, aC, aF, a6, bQ, bT, bc, a8⟩ := aJ.info ai
   have a1 := bT cs fp
   obtain ⟨c5, cr⟩ := h.alloc (d := (C.T T).zero) T ((ag.flat _).1 _ cs (fun _ => False) (Nat.le_refl _) fp) (fun _ h => h.elim) (fun _ h => h.elim) (fun _ _ h => h.elim) (fun _ h => h.elim)
   refine ⟨_, _, F, S, ?_, c5, cr⟩
   simp [Instr.alloc, nj aC bQ, newVar, newRow, newObj, Sem.run, a1]
  ·cases he
 ·cases he
def da (s : ae) (x : j) : Option (j × ae) := match bE s x with
 | some (.tuple _, _) => none
 | some (d, s1) => some (.bn d, s1)
 | none => none
def gQ (s : ae) (x : j) : Option (j × ae) := match x with
 | .h y q => match q, s y with
   | [], .agg ds => if j.dd ds then none else some (.J y 0, s)
   | _, _ => none
 | .fn f caps => if caps.all (fun d => d.single && (d.tree && d.plain)) = true then some (.ref (.fn f caps), s) else none
 | _ => none
theorem aD.vZ {w : World} {F aT : Nat → Prop} {s : ae} {ak : Nat → Value} (aK : ∀ b, F b → aT b) : ∀ (ds : List j) (vs : List Value), (∀ d ∈ ds, d.single = true ∧ d.tree = true ∧ d.plain = true) → ck w F s ak ds vs → aD w aT ds vs (fun _ => False)
 | [], vs, _, h => by rw [ck] at h; rw [aD]; exact h
 | d :: ds, vs, R, h => by
   rw [ck] at h
   obtain ⟨v, fE, rfl, U, aa⟩ := h
   obtain ⟨d1, d2, d3⟩ := R d (by simp)
   have aw := (ar.bt d2).1 U
   have bo : Value.dF v = true := by
    have := aw.1
    cases d <;> first | exact this | cases d1
   have aH := aw.2
   rw [dM bo] at aH
   rw [aD]
   exact ⟨[v], fE, fun _ => False, fun _ => False, rfl, ag.mono aK _ _ _ _ (fun _ h => h) aH, aD.vZ aK ds fE (fun x aj => R x (by simp [aj])) aa, fun _ h => h, fun _ h => h, fun _ h => h.elim⟩
theorem AZ {T : TypeId} {v : Value} (h : aZ w0 F0 X F S s ak w) : aZ w0 F0 X (fun b => F b ∨ b = w.heap.size) S s ak (w.alloc (.cells (bj v).toArray T)) := by
 have hold : ∀ b, b < w.heap.size → (w.alloc (.cells (bj v).toArray T)).heap[b]? = w.heap[b]? := by
  intro b J
  show (w.heap.push _)[b]? = _
  rw [Array.getElem?_push, if_neg (by omega)]
 have U := h.grow hold (by simp) rfl rfl rfl
 exact {
  ei := fun b J => .inl (U.ei b J)
  eD := fun b J => by
   rcases J with J | rfl
   ·exact U.eD b J
   ·exact .inr (.inr h.size)
  c6 := fun b J => by
   rcases J with J | rfl
   ·exact U.c6 b J
   ·simp
  cL := U.cL
  dk := fun t b J bb => by
   rcases bb with bb | rfl
   ·exact U.dk t b J bb
   ·exact absurd (h.cL t _ J) (Nat.lt_irrefl _)
  de := U.de
  cf := U.cf
  cb := fun t => ar.frame (fun _ _ => rfl) (fun b J => .inl J) (fun _ _ _ => rfl) U.cb _ _ _ (fun _ _ => rfl) (U.cb t)
  old := U.old
  size := U.size
  os := U.os
  tape := U.tape
  output := U.output }
theorem A0 (h : aZ w0 F0 X F S s ak w) {T : TypeId} {x : j} {v : Value} (aA : ar w F s ak x v (fun _ => False)) (he : gQ s x = some (av, s1)) :
  Good C w0 F0 X ak w (Instr.box T v) av s1 := by
 unfold gQ at he
 split at he
 ·rename_i y q
  split at he
  ·rename_i ds ic
   split at he
   ·cases he
   ·rename_i pe
    simp only [Option.some.injEq, Prod.mk.injEq] at he
    obtain ⟨rfl, rfl⟩ := he
    rw [ar] at aA
    obtain ⟨bH, a, g1, g2, g3⟩ := aA (s y) (by simp only [j.sub]) (by rw [ic]; simp only [j.plain]; simpa using pe)
    simp only [bU, Option.some.injEq, Prod.mk.injEq, true_and] at g1
    rw [ic] at g3
    have jr := pf g3 (fun ad e => by cases e)
    have hold : ∀ b, b < w.heap.size → (w.alloc (.cells (bj v).toArray T)).heap[b]? = w.heap[b]? := by
     intro b J
     show (w.heap.push _)[b]? = _
     rw [Array.getElem?_push, if_neg (by omega)]
    refine ⟨.pointer (some ⟨w.heap.size, 0, none⟩), w.alloc (.cells (bj v).toArray T), fun b => F b ∨ b = w.heap.size, S, by simp [Instr.box, newVar, newRow, newObj, Sem.run, jr], ?_, .inl ⟨rfl, ?_⟩⟩
    ·have U := h.grow hold (by simp) rfl rfl rfl
     exact {
      ei := fun b J => .inl (U.ei b J)
      eD := fun b J => by
       rcases J with J | rfl
       ·exact U.eD b J
       ·exact .inr (.inr h.size)
      c6 := fun b J => by
       rcases J with J | rfl
       ·exact U.c6 b J
       ·simp
      cL := U.cL
      dk := fun t b J bb => by
       rcases bb with bb | rfl
       ·exact U.dk t b J bb
       ·exact absurd (h.cL t _ J) (Nat.lt_irrefl _)
      de := U.de
      cf := U.cf
      cb := fun t => ar.frame (fun _ _ => rfl) (fun b J => .inl J) (fun _ _ _ => rfl) U.cb _ _ _ (fun _ _ => rfl) (U.cb t)
      old := U.old
      size := U.size
      os := U.os
      tape := U.tape
      output := U.output }
    ·rw [ar]
     intro _
     refine ⟨w.heap.size, (bj v).toArray, T, (0, 0), rfl, .inr rfl, ?_, ?_⟩
     ·show (w.heap.push _)[_]? = _
      simp
     ·rw [g1.1, ← g2]
  ·cases he
 ·rename_i f caps
  split at he
  ·rename_i af
   simp only [Option.some.injEq, Prod.mk.injEq] at he
   obtain ⟨rfl, rfl⟩ := he
   have fp : ∀ d ∈ caps, d.single = true ∧ d.tree = true ∧ d.plain = true := fun d ab => by
    have := List.all_eq_true.1 af d ab
    simpa only [Bool.and_eq_true] using this
   rw [ar] at aA
   obtain ⟨arr, rfl, aA⟩ := aA
   have jr := pf (d := .fn f caps) (v := .func (.func f) #[] arr) rfl (fun ad e => by cases e)
   have aN := AZ (T := T) (v := .func (.func f) #[] arr) h
   refine ⟨.pointer (some ⟨w.heap.size, 0, none⟩), w.alloc (.cells (bj (.func (.func f) #[] arr)).toArray T), fun b => F b ∨ b = w.heap.size, S, by simp [Instr.box, newVar, newRow, newObj, Sem.run, jr], aN, .inl ⟨rfl, ?_⟩⟩
   refine (ar.bt rfl).2 ⟨rfl, ?_⟩
   rw [ag]
   refine ⟨w.heap.size, 0, [.func (.func f) #[] arr], rfl, .inr rfl, ?_, ?_⟩
   ·have hc : (w.alloc (.cells (bj (.func (.func f) #[] arr)).toArray T)).heap[w.heap.size]? = some (.cells (bj (.func (.func f) #[] arr)).toArray T (0, 0)) := by
     show (w.heap.push _)[_]? = _
     simp
    intro ay c bx
    cases ay with
    | zero =>
      simp only [List.getElem?_cons_zero, Option.some.injEq] at bx
      subst bx
      have e : bj (.func (.func f) #[] arr) = [.func (.func f) #[] arr] := dM rfl
      unfold World.cell?
      show (match (w.alloc (.cells (bj (.func (.func f) #[] arr)).toArray T)).heap[w.heap.size]? with
       | some (.cells c _ _) => c[0 + 0]?
       | _ => none) = _
      rw [hc, e]
      rfl
    | succ ay => simp at bx
   ·rw [ag]
    refine ⟨arr, rfl, fun d ab => (fp d ab).1, ?_⟩
    have aX := aD.vZ (aT := F) (fun b J => J) caps arr.toList fp aA
    refine aD.mono (F := F) (fun b J => .inl J) caps _ _ _ (fun _ h => h) (aD.frame (fun b J => ?_) caps _ _ (fun _ h => h.elim) aX)
    have cx := h.c6 b J
    show (w.heap.push _)[b]? = _
    rw [Array.getElem?_push, if_neg (by omega)]
  ·cases he
 ·cases he
theorem A1 (h : aZ w0 F0 X F S s ak w) {T : TypeId} {x : j} {v : Value} (aj : x.plain = true) (aA : ar w F s ak x v (fun _ => False)) (he : da s x = some (av, s1)) :
  Good C w0 F0 X ak w (Instr.box T v) av s1 := by
 unfold da at he
 split at he
 ·cases he
 ·rename_i d s2 ky aG
  simp only [Option.some.injEq, Prod.mk.injEq] at he
  obtain ⟨rfl, rfl⟩ := he
  obtain ⟨a_, g0, g1, g2, Sn, g3, g4, g5, g6, g7, g8⟩ := jX h aj aA aG
  obtain ⟨c5, cr⟩ := g0.alloc T g3 g4 g5 g6 g7
  refine ⟨_, _, F, a_, ?_, c5, cr⟩
  have jr := pf g2 (fun ad e => ky ad e)
  simp [Instr.box, newVar, newRow, newObj, Sem.run, jr]
 ·cases he
end
end Go.b1
