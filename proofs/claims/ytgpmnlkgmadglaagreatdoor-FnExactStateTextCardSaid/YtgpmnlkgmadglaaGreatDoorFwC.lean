/- Part of a proof that a law returns true for every input. No condition. -/
import Derived.Test.YtgpmnlkgmadglaaGreatDoorFwB
import Derived.Laws.Entries
namespace Go.c0
inductive mY where
 | int (k : IntKind)
 | bool
 | str
 | ptr (e : TypeId)
 | slice (e : TypeId)
 | struct (ax : List (TypeId × Nat))
 | fn
 | other
structure gK where
 k : mY
 sz : Nat
 bytes : Nat
 zero : I
mutual
def flat : I → Option (List Value)
 | .bool b => some [.bool b]
 | .int k n => some [.int k n]
 | .str s => some [.string ⟨⟨s⟩⟩]
 | .dv => some [.pointer none]
 | .bp => some [.slice none 0 0]
 | .agg ax => px ax
 | _ => none
def px : List I → Option (List Value)
 | [] => some []
 | d :: ds => match flat d, px ds with
   | some a, some b => some (a ++ b)
   | _, _ => none
end
theorem au.flat {w : World} {F : Nat → Prop} : ∀ n, (∀ (d : I) (cs : List Value) (S : Nat → Prop), SizeOf.sizeOf d ≤ n → flat d = some cs → au w F d cs S) ∧
  (∀ (ds : List I) (cs : List Value) (S : Nat → Prop), SizeOf.sizeOf ds ≤ n → px ds = some cs → a8 w F ds cs S) := by
 intro n
 induction n with
 | zero => exact ⟨fun d _ _ b6 => by cases d <;> simp at b6 <;> omega, fun ds _ _ b6 => by cases ds <;> simp at b6 <;> omega⟩
 | succ n ih =>
   refine ⟨fun d cs S b6 h => ?_, fun ds cs S b6 h => ?_⟩
   ·cases d with
    | agg ax => rw [au]; exact ih.2 ax cs S (by simp at b6; omega) (by simpa [c0.flat] using h)
    | bool b => simp [c0.flat] at h; subst h; rw [au]
    | int k n => simp [c0.flat] at h; subst h; rw [au]
    | str s => simp [c0.flat] at h; subst h; rw [au]
    | dv => simp [c0.flat] at h; subst h; rw [au]
    | bp => simp [c0.flat] at h; subst h; rw [au]
    | _ => simp [c0.flat] at h
   ·cases ds with
    | nil => simp [px] at h; subst h; rw [a8]
    | cons d ds =>
      simp only [px] at h
      split at h
      ·rename_i a b b_ ab
       simp at h; subst h
       simp at b6
       rw [a8]
       exact ⟨a, b, fun _ => False, fun _ => False, rfl, ih.1 d a _ (by omega) b_, ih.2 ds b _ (by omega) ab, fun _ h => h.elim, fun _ h => h.elim, fun _ h => h.elim⟩
      ·cases h
def ll : mY → TypeDesc → Prop
 | .int k, .int db => k = db
 | .bool, .bool => True
 | .str, .string => True
 | .ptr e, .pointer gI => e = gI
 | .slice e, .slice gI => e = gI
 | .struct ax, .struct gs => gs.toList.map (fun g => (g.type, g.offset)) = ax
 | .fn, .func _ _ _ => True
 | _, _ => False
def G1 (P : Program) (t : TypeId) (x : gK) : Prop :=
 (∃ e n b z, x = ⟨.other, e, n, b⟩ ∧ z = 0) ∨
 ∃ i d z, P.info? t = some i ∧ i.size = x.sz ∧ i.bytes = x.bytes ∧ i.zero = some z ∧ (∀ cs, flat x.zero = some cs → z.cells = cs.toArray) ∧ P.underlying t = some d ∧ ll x.k d
structure ck where
 P : Program
 T : TypeId → gK
 M : FuncId → List Bool
structure ck.e0 (C : ck) : Prop where
 ty : ∀ t, G1 C.P t (C.T t)
 mixed : C.P.follows .mixedOrders = true
inductive aF where
 | t (n : Nat)
 | c (av : I)
 | f (g : FuncId)
def yz : Value → Option I
 | .bool b => some (.bool b)
 | .int k n => some (.int k n)
 | .string s => some (.str s.data.toList)
 | .pointer none => some .dv
 | .slice none 0 0 => some .bp
 | _ => none
def dH : Operand → Option aF
 | .tmp n => some (.t n)
 | .const v => (yz v).map .c
 | .func g => some (.f g)
 | .global _ => none
def jy (x : Nat) (d : I) : I := if d.plain then d else .h x []
def aK (s : ao) : aF → I
 | .t n => jy n (s n)
 | .c av => av
 | .f g => .fn g []
theorem aG.nothing {w : World} {F : Nat → Prop} {s : ao} {aB : Nat → Value} {d : I} {v : Value} {S aT : Nat → Prop} (ar : d.plain = true) (h : aG w F s aB d v S) : aG w F s aB d v aT := by
 cases d <;> first
  | (rw [aG]; trivial)
  | (rw [aG] at h ⊢; exact h)
  | (have bx := (aG.cJ rfl).1 h; exact (aG.cJ rfl).2 ⟨bx.1, au.plain _ _ _ _ ar bx.2⟩)
section
variable {w0 w : World} {F0 X F : Nat → Prop} {S : Nat → Nat → Prop} {s : ao} {aB : Nat → Value} {a : Act}
theorem G2 (s : ao) (x : aF) (aw : ∀ av, x = .c av → av.plain = true) : (aK s x).plain = true := by
 cases x with
 | t n => simp only [aK, jy]; split <;> first | assumption | rfl
 | c av => exact aw _ rfl
 | f g => rfl
theorem CK {v : Value} {av : I} (h : yz v = some av) : av.plain = true := by
 unfold yz at h; split at h <;> simp at h <;> subst h <;> rfl
theorem fL (h : bP w0 F0 X F S s aB w) (eJ : ∀ t, aB t = a.tmps.getD t undef) {o : Operand} {x : aF} (cg : dH o = some x) :
  (aK s x).plain = true ∧ aG w F s aB (aK s x) (a.eval o) (fun _ => False) := by
 cases o with
 | tmp n =>
   simp [dH] at cg; subst cg
   simp only [aK, jy, Act.eval, ← eJ]
   split
   ·rename_i ar; exact ⟨ar, aG.nothing ar (h.dC n)⟩
   ·rename_i ar
    refine ⟨rfl, ?_⟩
    rw [aG]
    intro d ai CL
    simp only [I.sub, Option.some.injEq] at ai; subst ai
    have bb := iI (q := []) rfl (.inl CL)
    exact ⟨_, none, rfl, rfl, ((aG.cJ bb).1 (h.dC n)).1⟩
 | const v =>
   simp only [dH, Option.map_eq_some_iff] at cg
   obtain ⟨av, nT, rfl⟩ := cg
   refine ⟨CK nT, ?_⟩
   simp only [aK, Act.eval]
   unfold yz at nT
   split at nT <;> simp at nT <;> subst nT <;> rw [aG, au] <;> exact ⟨rfl, rfl⟩
 | func g =>
   simp [dH] at cg; subst cg
   refine ⟨rfl, ?_⟩
   simp only [aK, Act.eval]
   rw [aG]
   exact ⟨#[], rfl, by rw [ei]⟩
 | global g => simp [dH] at cg
def kX (w0 : World) (X F : Nat → Prop) (S : Nat → Nat → Prop) (s : ao) (aB : Nat → Value) (w : World) (av : I) (v : Value) : Prop :=
 (av.plain = true ∧ aG w F s aB av v (fun _ => False)) ∨
 (av.tree = true ∧ eo av v ∧ ∃ Sn, au w F av (cr v) Sn ∧ (∀ b, Sn b → b < w.heap.size) ∧ (∀ b, Sn b → ¬ F b) ∧ (∀ u b, Sn b → ¬ S u b) ∧ (∀ b, Sn b → X b ∨ w0.heap.size ≤ b))
def fin (s : ao) (dst : Option Nat) (av : I) : ao := match dst with
 | none => s
 | some t => if av.plain then dw s t av else dw (lE t s) t av
def nU (aB : Nat → Value) (dst : Option Nat) (v : Value) : Nat → Value := match dst with
 | none => aB
 | some t => dw aB t v
theorem bP.fin (h : bP w0 F0 X F S s aB w) {av : I} {v : Value} (aN : kX w0 X F S s aB w av v) (dst : Option Nat) :
  ∃ aT, bP w0 F0 X F aT (c0.fin s dst av) (nU aB dst v) w := by
 cases dst with
 | none => exact ⟨S, h⟩
 | some t =>
   simp only [c0.fin, nU]
   rcases aN with ⟨ar, ai⟩ | ⟨bb, ad, Sn, ag, ah, aI, a_, bN⟩
   ·rw [if_pos ar]; exact ⟨_, h.tc ar ai⟩
   ·split
    ·rename_i ar
     exact ⟨_, h.tc ar ((aG.cJ bb).2 ⟨ad, au.plain _ _ _ _ ar ag⟩)⟩
    ·exact ⟨_, h.GS bb ad ag ah aI (fun u b _ ab => a_ u b ab) bN⟩
def cT (s : ao) : I → Option (I × ao)
 | .h x q => match I.sub q (s x) with
   | some d => if d.plain then none else some (d, dw (iZ x s) x (I.put q d.de (s x)))
   | none => none
 | .ar _ _ => none
 | .ab _ _ => none
 | .fn _ _ => none
 | .hole => none
 | d => some (d, s)
def I.owner : I → Option Nat
 | .h x _ => some x
 | _ => none
def kG : Option Nat → I → I
 | some x, d => cd x d
 | none, d => d
theorem oO (h : bP w0 F0 X F S s aB w) {av d : I} {s1 : ao} {v : Value} (nT : av.plain = true) (aN : aG w F s aB av v (fun _ => False)) (bb : cT s av = some (d, s1)) :
  ∃ b5, bP w0 F0 X F b5 s1 aB w ∧ d.tree = true ∧ eo d v ∧ ∃ Sn, au w F d (cr v) Sn ∧ (∀ b, Sn b → b < w.heap.size) ∧ (∀ b, Sn b → ¬ F b) ∧ (∀ u b, Sn b → ¬ b5 u b) ∧ (∀ b, Sn b → X b ∨ w0.heap.size ≤ b) ∧
    (∀ u b, b5 u b → S u b) ∧ (∀ b, Sn b → ∃ u, S u b) ∧ (∀ (bz : I) (gj : Value) (aT : Nat → Prop), aG w F s aB bz gj aT → aG w F s1 aB (kG av.owner bz) gj aT) := by
 have tree : ∀ d : I, d.tree = true → d.plain = true → aG w F s aB d v (fun _ => False) →
   ∃ b5, bP w0 F0 X F b5 s aB w ∧ d.tree = true ∧ eo d v ∧ ∃ Sn, au w F d (cr v) Sn ∧ (∀ b, Sn b → b < w.heap.size) ∧ (∀ b, Sn b → ¬ F b) ∧ (∀ u b, Sn b → ¬ b5 u b) ∧ (∀ b, Sn b → X b ∨ w0.heap.size ≤ b) ∧
     (∀ u b, b5 u b → S u b) ∧ (∀ b, Sn b → ∃ u, S u b) := by
  intro d ai _ bx
  have bx := (aG.cJ ai).1 bx
  exact ⟨S, h, ai, bx.1, _, bx.2, fun _ h => h.elim, fun _ h => h.elim, fun _ _ h => h.elim, fun _ h => h.elim, fun _ _ h => h, fun _ h => h.elim⟩
 cases av with
 | h x q =>
   simp only [cT] at bb
   split at bb
   ·rename_i e he
    split at bb
    ·cases bb
    ·rename_i ar
     simp only [Option.some.injEq, Prod.mk.injEq] at bb
     obtain ⟨rfl, rfl⟩ := bb
     have ar : e.plain = false := by simpa using ar
     obtain ⟨Sn, hh, c6, cK, dB, bg, dm, ch, dW, dI, dx⟩ := h.take he ar
     rw [aG] at aN
     obtain ⟨aws, a2, g1, g2, g3⟩ := aN e he ar
     rw [bg] at g1
     simp only [Option.some.injEq, Prod.mk.injEq, true_and] at g1
     obtain ⟨rfl, rfl⟩ := g1
     have CM : e.tree = true := by cases e <;> first | rfl | (simp [I.plain] at ar)
     refine ⟨_, dB, CM, g3, hh, by rw [g2]; exact dm, fun b ab => h.e4 x b (ch b ab), fun b ab => h.gi x b (ch b ab), ?_, fun b ab => h.eh x b (ch b ab), ?_, fun b ab => ⟨x, ch b ab⟩, dx⟩
     ·intro u b ab hu
      simp only [gu] at hu
      split at hu
      ·exact dI b ab hu
      ·rename_i yA; exact h.fK u x b yA hu (ch b ab)
     ·intro u b hu
      simp only [gu] at hu
      split at hu
      ·rename_i e; subst e; exact dW b hu
      ·exact hu
   ·cases bb
 | ar x q => simp [cT] at bb
 | ab x q => simp [cT] at bb
 | fn f c => simp [cT] at bb
 | hole => simp [cT] at bb
 | aP sz xs => simp [I.plain] at nT
 | a7 d => simp [I.plain] at nT
 | _ =>
   simp only [cT, Option.some.injEq, Prod.mk.injEq] at bb
   obtain ⟨rfl, rfl⟩ := bb
   obtain ⟨b5, t1, t2, t3, Sn, t4, t5, t6, t7, t8, t9, t10⟩ := tree _ rfl nT aN
   exact ⟨b5, t1, t2, t3, Sn, t4, t5, t6, t7, t8, t9, t10, fun _ _ _ h => h⟩
def loc (s : ao) : I → Option (Nat × List Nat)
 | .h x q => match I.sub q (s x) with
   | some (.a7 _) => some (x, q ++ [0])
   | _ => none
 | .ar x q => if I.ft q (s x) then some (x, q) else none
 | _ => none
theorem vo : ∀ (q : List Nat) (av d : I) (r : List Nat), I.sub q av = some d → I.sub (q ++ r) av = I.sub r d := by
 intro q
 induction q with
 | nil => intro av d r h; simp [I.sub] at h; subst h; rfl
 | cons k q ih =>
   intro av d r h
   cases av with
   | agg ax =>
     simp only [I.sub, List.cons_append] at h ⊢
     split at h
     ·rename_i x aq; exact ih _ _ _ h
     ·cases h
   | tuple ax =>
     simp only [I.sub, List.cons_append] at h ⊢
     split at h
     ·rename_i x aq; exact ih _ _ _ h
     ·cases h
   | aP sz ax =>
     simp only [I.sub, List.cons_append] at h ⊢
     split at h
     ·rename_i x aq; exact ih _ _ _ h
     ·cases h
   | a7 x =>
     cases k with
     | zero => simp only [I.sub, List.cons_append] at h ⊢; exact ih _ _ _ h
     | succ k => simp [I.sub] at h
   | _ => simp [I.sub] at h
theorem OR : ∀ (q : List Nat) (av d : I) (r : List Nat), I.sub q av = some d → I.ft (q ++ r) av = (I.ft q av || I.ft r d) := by
 intro q
 induction q with
 | nil => intro av d r h; simp [I.sub] at h; subst h; simp [I.ft]
 | cons k q ih =>
   intro av d r h
   cases av with
   | agg ax =>
     simp only [I.sub] at h
     split at h
     ·rename_i x aq
      simp only [I.ft, List.cons_append, aq]
      exact ih _ _ r h
     ·cases h
   | tuple ax =>
     simp only [I.sub] at h
     split at h
     ·rename_i x aq
      simp only [I.ft, List.cons_append, aq]
      exact ih _ _ r h
     ·cases h
   | aP sz ax => simp [I.ft]
   | a7 x => simp [I.ft]
   | _ => simp [I.sub] at h
theorem vp (w : World) : ∀ (q : List Nat) (av d : I) (cs c6 : List Value) (a cK : Option (Nat × Nat)) (r : List Nat), dp w q av cs a = some (d, c6, cK) → dp w (q ++ r) av cs a = dp w r d c6 cK := by
 intro q
 induction q with
 | nil => intro av d cs c6 a cK r h; simp [dp] at h; obtain ⟨rfl, rfl, rfl⟩ := h; rfl
 | cons k q ih =>
   intro av d cs c6 a cK r h
   cases av with
   | agg ax =>
     rw [List.cons_append]
     rw [dp] at h ⊢
     split at h
     ·rename_i x aq; exact ih _ _ _ _ _ _ _ h
     ·cases h
   | tuple ax =>
     rw [List.cons_append]
     rw [dp] at h ⊢
     split at h
     ·rename_i x aq; exact ih _ _ _ _ _ _ _ h
     ·cases h
   | aP sz ax =>
     rw [List.cons_append]
     rw [dp.eq_def] at h ⊢
     simp only at h ⊢
     split at h
     ·exact ih _ _ _ _ _ _ _ h
     ·cases h
   | a7 x =>
     cases k with
     | zero =>
       rw [List.cons_append]
       rw [dp.eq_def] at h ⊢
       simp only at h ⊢
       split at h
       ·exact ih _ _ _ _ _ _ _ h
       ·cases h
     | succ k => rw [show dp w ((k + 1) :: q) (.a7 x) cs a = none from rfl] at h; cases h
   | _ => simp [dp] at h
end
def gK.ok (x : gK) : Bool := match x.k with
 | .other => false
 | _ => true
theorem ck.e0.info {C : ck} (bl : C.e0) {t : TypeId} (h : (C.T t).ok = true) :
  ∃ i d z, C.P.info? t = some i ∧ i.size = (C.T t).sz ∧ i.bytes = (C.T t).bytes ∧ i.zero = some z ∧ (∀ cs, flat (C.T t).zero = some cs → z.cells = cs.toArray) ∧ C.P.underlying t = some d ∧ ll (C.T t).k d := by
 rcases bl.ty t with ⟨e, n, b, z, aq, _⟩ | bx
 ·rw [aq] at h; simp [gK.ok] at h
 ·exact bx
theorem gk {x : gK} {k : mY} (h : x.k = k) (az : k ≠ .other) : x.ok = true := by
 unfold gK.ok; rw [h]; cases k <;> first | rfl | exact (az rfl).elim
theorem vq {d : TypeDesc} {ax : List (TypeId × Nat)} (h : ll (.struct ax) d) : ∃ gs, d = .struct gs ∧ gs.toList.map (fun g => (g.type, g.offset)) = ax := by
 cases d <;> simp [ll] at h
 exact ⟨_, rfl, h⟩
theorem kY {d : TypeDesc} {e : TypeId} (h : ll (.slice e) d) : d = .slice e := by
 cases d <;> simp [ll] at h
 rw [h]
theorem vr {d : TypeDesc} {k : IntKind} (h : ll (.int k) d) : d = .int k := by
 cases d <;> simp [ll] at h
 rw [h]
theorem py {d : TypeDesc} (h : ll .str d) : d = .string := by
 cases d <;> simp [ll] at h
 rfl
theorem CN {d : TypeDesc} (h : ll .bool d) : d = .bool := by
 cases d <;> simp [ll] at h
 rfl
theorem G3 {d : TypeDesc} {e : TypeId} (h : ll (.ptr e) d) : d = .pointer e := by
 cases d <;> simp [ll] at h
 rw [h]
theorem gX {v : Value} (h : Value.gH v = true) : cr v = [v] := by
 cases v <;> first | rfl | (simp [Value.gH] at h)
theorem rp {P : Program} {t : TypeId} {i : TypeInfo} (h : P.info? t = some i) (w : World) : (typeInfo t).run P w = .ok i w := by simp [typeInfo, h]
theorem jX {P : Program} {t : TypeId} {i : TypeInfo} (h : P.info? t = some i) (w : World) : (Go.sizeOf t).run P w = .ok i.size w := by simp [Go.sizeOf, rp h]
theorem te {P : Program} {t : TypeId} {i : TypeInfo} {z : Value} (h : P.info? t = some i) (b6 : i.zero = some z) (w : World) : (zeroValue t).run P w = .ok z w := by simp [zeroValue, rp h, b6]
section
variable {C : ck} {w0 w : World} {F0 X F : Nat → Prop} {S : Nat → Nat → Prop} {s s1 : ao} {aB : Nat → Value} {av : I}
def Good (C : ck) (w0 : World) (F0 X : Nat → Prop) (aB : Nat → Value) (w : World) (m : Sem Value) (av : I) (s1 : ao) : Prop :=
 ∃ v aL bL aT, m.run C.P w = .ok v aL ∧ bP w0 F0 X bL aT s1 aB aL ∧ kX w0 X bL aT s1 aB aL av v
theorem Good.same (h : bP w0 F0 X F S s aB w) {m : Sem Value} {v : Value} (aV : m.run C.P w = .ok v w) (ar : av.plain = true) (aN : aG w F s aB av v (fun _ => False)) : Good C w0 F0 X aB w m av s :=
 ⟨v, w, F, S, aV, h, .inl ⟨ar, aN⟩⟩
theorem CO (_h : bP w0 F0 X F S s aB w) {x : I} {v : Value} (aN : aG w F s aB x v (fun _ => False)) {y : Nat} {q : List Nat} (aR : loc s x = some (y, q)) {d : I} (ai : I.sub q (s y) = some d) :
  I.ft q (s y) = true ∧ ∃ c6 b o, v = .pointer (some ⟨b, o, none⟩) ∧ dp w q (s y) (cr (aB y)) none = some (d, c6, some (b, o)) := by
 cases x with
 | h z yB =>
   simp only [loc] at aR
   split at aR
   ·rename_i e he
    simp only [Option.some.injEq, Prod.mk.injEq] at aR
    obtain ⟨rfl, rfl⟩ := aR
    rw [aG] at aN
    obtain ⟨c6, a, g1, g2, g3⟩ := aN _ he rfl
    have hp : e = d := by
     rw [vo _ _ _ _ he] at ai
     simpa [I.sub] using ai
    subst hp
    refine ⟨by rw [OR _ _ _ _ he]; simp [I.ft], ?_⟩
    have ag : Value.gH v = true := g3
    rw [gX ag] at g2
    subst g2
    have kV := vp w yB (s z) _ _ _ none a [0] g1
    have aq := _h.dC z
    rw [aG.cJ (iI he (.inl rfl))] at aq
    obtain ⟨gd, cK, eR, hh, k0, bU, cb, e5, dX, fB⟩ := ctx yB (s z) (cr (aB z)) (S z) none _ aq.2 he
    rw [k0] at g1
    simp only [Option.some.injEq, Prod.mk.injEq, true_and] at g1
    obtain ⟨rfl, rfl⟩ := g1
    rw [au] at dX
    obtain ⟨b, cur, aX, fr, dG, aQ, _⟩ := dX
    simp only [List.cons.injEq, and_true] at aQ
    subst aQ
    exact ⟨_, b, 0, rfl, by rw [kV]; rfl⟩
   ·cases aR
 | ar z yB =>
   simp only [loc] at aR
   split at aR
   ·rename_i aw
    simp only [Option.some.injEq, Prod.mk.injEq] at aR
    obtain ⟨rfl, rfl⟩ := aR
    rw [aG] at aN
    obtain ⟨c6, b, o, g1, g2⟩ := aN _ ai aw
    exact ⟨aw, c6, b, o, g2, g1⟩
   ·cases aR
 | _ => simp [loc] at aR
def cB (C : ck) (s : ao) (T : TypeId) (x : I) (k : Nat) : Option I :=
 match (C.T T).k with
 | .struct ax => match ax[k]? with
   | some (jI, off) => if (C.T jI).ok = true ∧ (C.T jI).sz ≠ 0 then
     match x with
     | .ref (.agg ds) => match ds[k]? with
       | some d => if I.ek (ds.take k) = off then some (.ref d) else none
       | none => none
     | .ab y o => if (s y).plain then none else some (.ab y (o + off))
     | x => match loc s x with
       | some (y, q) => match I.sub q (s y) with
         | some (.agg ds) => if k < ds.length ∧ I.ek (ds.take k) = off then some (.ar y (q ++ [k])) else none
         | _ => none
       | none => none
     else none
   | none => none
 | _ => none
theorem h0.CP {w : World} {b o : Nat} {cy fS cu : List Value} (h : h0 w b o (cy ++ (fS ++ cu))) : h0 w b (o + cy.length) fS := by
 intro j c b3
 have fa : j < fS.length := (List.getElem?_eq_some_iff.1 b3).1
 have := h (cy.length + j) c (by rw [List.getElem?_append_right (by omega), List.getElem?_append_left (by omega), ← b3]; congr 1; omega)
 rw [Nat.add_assoc]; exact this
theorem CQ (bl : C.e0) {T jI : TypeId} {ax : List (TypeId × Nat)} {k off : Nat} (az : (C.T T).k = .struct ax) (br : ax[k]? = some (jI, off)) (ag : (C.T jI).ok = true) (ah : (C.T jI).sz ≠ 0) (b o : Nat) (w : World) :
  (Instr.fieldAt T (.pointer (some ⟨b, o, none⟩)) k).run C.P w = .ok (.pointer (some ⟨b, o + off, none⟩)) w := by
 obtain ⟨i, d, z, aS, aX, aQ, ca, cR, bZ, bS⟩ := bl.info (gk az (by simp))
 rw [az] at bS
 obtain ⟨gs, rfl, hi⟩ := vq bS
 obtain ⟨tf, bz, qn, f1, f2, f3, f4, f5, f6, f7⟩ := bl.info ag
 have bT : ∃ g, gs[k]? = some g ∧ g.type = jI ∧ g.offset = off := by
  rw [← hi, List.getElem?_map] at br
  simp only [Option.map_eq_some_iff, Prod.mk.injEq] at br
  obtain ⟨g, ag, ah, aI⟩ := br
  exact ⟨g, by simpa using ag, ah, aI⟩
 obtain ⟨g, g1, rfl, rfl⟩ := bT
 simp [Instr.fieldAt, run_underlying bZ, g1, Instr.sureAddr, fieldPlace, jX f1, f2, ah, Addr.add_lit]
theorem OS (bl : C.e0) (h : bP w0 F0 X F S s aB w) {T : TypeId} {x : I} {v : Value} {k : Nat} (aq : x.plain = true) (aN : aG w F s aB x v (fun _ => False)) (he : cB C s T x k = some av) :
  Good C w0 F0 X aB w (Instr.fieldAt T v k) av s := by
 unfold cB at he
 split at he
 ·rename_i ax az
  split at he
  ·rename_i jI off br
   split at he
   ·rename_i tg
    split at he
    ·rename_i ds
     split at he
     ·rename_i d ai
      split at he
      ·rename_i oP
       simp only [Option.some.injEq] at he; subst he
       have lF := (aG.cJ rfl).1 aN
       rw [au] at lF
       obtain ⟨ad, b, o, ew, ag, ah, aI, a_⟩ := lF
       rw [gX ad] at ag
       simp only [List.cons.injEq, and_true] at ag; subst ag
       rw [au] at a_
       obtain ⟨cy, fS, cu, b5, h2, rfl, hL, fp, gW, h3, gf, lC⟩ := a8.pick ds _ _ k d a_ ai
       refine Good.same h (CQ bl az br tg.1 tg.2 b o w) rfl ((aG.cJ rfl).2 ⟨rfl, ?_⟩)
       rw [au]
       refine ⟨b, o + off, fS, rfl, ah, ?_, au.mono (fun _ h => h) _ _ _ _ (fun b ab => gW b ab) gf⟩
       rw [← oP, ← hL]; exact aI.CP
      ·cases he
     ·cases he
    ·rename_i y o
     split at he
     ·cases he
     ·rename_i ar
      simp only [Option.some.injEq] at he; subst he
      rw [aG] at aN
      obtain ⟨b, cur, e, fr, rfl, ah, aI, a_⟩ := aN (by simpa using ar)
      refine Good.same h (CQ bl az br tg.1 tg.2 b o w) rfl ?_
      rw [aG]
      exact fun _ => ⟨b, cur, e, fr, rfl, ah, aI, a_⟩
    ·rename_i x _ _
     split at he
     ·rename_i y q aR
      split at he
      ·rename_i ds ai
       split at he
       ·rename_i oP
        simp only [Option.some.injEq] at he; subst he
        obtain ⟨aw, c6, b, o, rfl, kV⟩ := CO h aN aR ai
        refine Good.same h (CQ bl az br tg.1 tg.2 b o w) rfl ?_
        rw [aG]
        intro d2 iQ l9
        rw [vp w q _ _ _ _ _ _ [k] kV]
        rw [vo _ _ _ _ ai] at iQ
        have nV : ∃ d3, ds[k]? = some d3 := ⟨_, List.getElem?_eq_getElem oP.1⟩
        obtain ⟨d3, vt⟩ := nV
        simp only [I.sub, vt, Option.some.injEq] at iQ
        subst iQ
        simp only [dp, vt]
        refine ⟨(c6.drop off).take d3.wd, b, o + off, ?_, rfl⟩
        rw [oP.2]; rfl
       ·cases he
      ·cases he
     ·cases he
   ·cases he
  ·cases he
 ·cases he
def e6 (C : ck) (s : ao) (T : TypeId) (x i : I) : Option I :=
 match (C.T T).k, i with
 | .slice e, .int _ n => if 0 ≤ n ∧ (C.T e).ok = true then
   match x with
   | .slice xs => match xs[n.toNat]? with
     | some d => if d.wd = (C.T e).sz then some (.ref d) else none
     | none => none
   | .h y q => match I.sub q (s y) with
     | some (.aP sz xs) => if n.toNat < xs.length ∧ sz = (C.T e).sz then some (.ar y (q ++ [n.toNat])) else none
     | _ => none
   | _ => none
   else none
 | _, _ => none
theorem G4 (bl : C.e0) {T e : TypeId} (az : (C.T T).k = .slice e) (he : (C.T e).ok = true) (b o len cap : Nat) (k : IntKind) (n : Nat) (aY : n < len) (w : World) :
  (Instr.indexAt T (.slice (some ⟨b, o, none⟩) len cap) (.int k n)).run C.P w = .ok (.pointer (some ⟨b, o + n * (C.T e).sz, none⟩)) w := by
 obtain ⟨i, d, z, aS, aX, aQ, ca, cR, bZ, bS⟩ := bl.info (gk az (by simp))
 rw [az] at bS
 have := kY bS; subst this
 obtain ⟨tf, bz, qn, f1, f2, f3, f4, f5, f6, f7⟩ := bl.info he
 simp [Instr.indexAt, run_underlying bZ, asIntOf, aY, jX f1, f2, Addr.add_lit]
theorem OT (bl : C.e0) (h : bP w0 F0 X F S s aB w) {T : TypeId} {x i : I} {v th : Value} (aN : aG w F s aB x v (fun _ => False)) (OU : aG w F s aB i th (fun _ => False))
  (he : e6 C s T x i = some av) : Good C w0 F0 X aB w (Instr.indexAt T v th) av s := by
 unfold e6 at he
 split at he
 ·rename_i e k n az
  have CR := (aG.cJ rfl).1 OU
  rw [au, gX CR.1] at CR
  have : th = .int k n := by simpa using CR.2
  subst this
  split at he
  ·rename_i aY
   obtain ⟨n, rfl⟩ := Int.eq_ofNat_of_zero_le aY.1
   simp only [Int.toNat_natCast] at he
   split at he
   ·rename_i xs
    split at he
    ·rename_i d ai
     split at he
     ·rename_i hw
      simp only [Option.some.injEq] at he; subst he
      have lF := (aG.cJ rfl).1 aN
      rw [au, gX lF.1] at lF
      obtain ⟨ad, ⟨rfl, _⟩ | ⟨b, o, cap, ew, sz, ag, ah, aI, a_, bN, cQ, c5⟩⟩ := lF
      ·simp at ai
      ·simp only [List.cons.injEq, and_true] at ag; subst ag
       have fa : n < xs.length := (List.getElem?_eq_some_iff.1 ai).1
       obtain ⟨cy, fS, cu, b5, h2, rfl, hL, fp, gW, h3, gf, lC⟩ := a8.pick xs _ _ n d c5 ai
       refine Good.same h (G4 bl az aY.2 b o _ _ k n fa w) rfl ((aG.cJ rfl).2 ⟨rfl, ?_⟩)
       rw [au]
       refine ⟨b, _, fS, rfl, ah, ?_, au.mono (fun _ h => h) _ _ _ _ (fun b ab => gW b ab) gf⟩
       have OV := bN d (List.mem_of_getElem? ai)
       have : n * (C.T e).sz = cy.length := by
        rw [hL, rk _ (fun d ai => bN d (List.mem_of_mem_take ai)), List.length_take, Nat.min_eq_left (by omega), ← hw, OV]
       rw [this]; exact cQ.CP
     ·cases he
    ·cases he
   ·rename_i y q
    split at he
    ·rename_i sz xs ai
     split at he
     ·rename_i hw
      simp only [Option.some.injEq] at he; subst he
      rw [aG] at aN
      obtain ⟨c6, a, g1, g2, g3⟩ := aN _ ai rfl
      have ad : Value.gH v = true := g3
      rw [gX ad] at g2; subst g2
      have aq := h.dC y
      rw [aG.cJ (iI ai (.inl rfl))] at aq
      obtain ⟨gd, cK, eR, hh, k0, bU, cb, e5, dX, fB⟩ := ctx q (s y) (cr (aB y)) (S y) none _ aq.2 ai
      rw [k0] at g1
      simp only [Option.some.injEq, Prod.mk.injEq, true_and] at g1
      obtain ⟨rfl, rfl⟩ := g1
      rw [au] at dX
      rcases dX with ⟨rfl, _⟩ | ⟨b, cap, cur, aX, fr, dG, aQ, _⟩
      ·simp at hw
      ·simp only [List.cons.injEq, and_true] at aQ; subst aQ
       refine Good.same h (G4 bl az aY.2 b 0 _ _ k n hw.1 w) rfl ?_
       rw [aG]
       intro d2 iQ _
       rw [vp w q _ _ _ _ _ _ [n] k0]
       rw [vo _ _ _ _ ai] at iQ
       obtain ⟨d3, vt⟩ : ∃ d3, xs[n]? = some d3 := ⟨_, List.getElem?_eq_getElem hw.1⟩
       simp only [I.sub, vt, Option.some.injEq] at iQ
       subst iQ
       simp only [dp, vt]
       exact ⟨_, b, n * sz, rfl, by simp [hw.2]⟩
     ·cases he
    ·cases he
   ·cases he
  ·cases he
 ·cases he
end
section
variable {C : ck} {w0 w : World} {F0 X F : Nat → Prop} {S : Nat → Nat → Prop} {s s1 : ao} {aB : Nat → Value} {av : I}
theorem G5 (bl : C.e0) {T : TypeId} {ax : List (TypeId × Nat)} (az : (C.T T).k = .struct ax) (w : World) : (isAgg T).run C.P w = .ok true w := by
 obtain ⟨i, d, z, aS, aX, aQ, ca, cR, bZ, bS⟩ := bl.info (gk az (by simp))
 rw [az] at bS
 obtain ⟨gs, rfl, _⟩ := vq bS
 simp [isAgg, run_underlying bZ]
def gK.flat (x : gK) : Bool := match x.k with
 | .other => false
 | .struct _ => false
 | _ => true
theorem G6 {x : gK} (h : x.flat = true) : x.ok = true := by
 unfold gK.flat at h; unfold gK.ok; revert h; cases x.k <;> simp
theorem CS (bl : C.e0) {T : TypeId} (az : (C.T T).flat = true) (w : World) : (isAgg T).run C.P w = .ok false w := by
 obtain ⟨i, d, z, aS, aX, aQ, ca, cR, bZ, bS⟩ := bl.info (G6 az)
 have dQ : (∀ ax, d ≠ .struct ax) ∧ (∀ n e, d ≠ .array n e) := by
  clear bZ
  unfold gK.flat at az
  generalize (C.T T).k = lG at *
  cases lG <;> cases d <;> simp [ll] at bS az ⊢
 cases d <;> first | exact (dQ.1 _ rfl).elim | exact (dQ.2 _ _ rfl).elim | simp [isAgg, run_underlying bZ]
theorem h0.one {w : World} {b o : Nat} {v : Value} (h : h0 w b o [v]) : w.cell? ⟨b, o, none⟩ = some v := by simpa using h 0 v rfl
theorem G7 {P : Program} {b o : Nat} : ∀ (cs : List Value) (i : Nat) (acc : Array Value), h0 w b (o + i) cs → (loadCellsFrom ⟨b, o, none⟩ i cs.length acc).run P w = .ok (acc ++ cs.toArray) w
 | [], i, acc, _ => by simp [loadCellsFrom]
 | c :: cs, i, acc, h => by
   have bc : w.cell? ⟨b, o + i, none⟩ = some c := by simpa using h 0 c rfl
   have ag : h0 w b (o + (i + 1)) cs := by
    intro j x b3
    have := h (j + 1) x (by simpa using b3)
    rw [← this]; congr 2; omega
   have ih := G7 (P := P) cs (i + 1) (acc.push c) ag
   simp only [List.length_cons, loadCellsFrom, Sem.run_bind, Go.load, Sem.run, Addr.add_lit, bc, Result.andThen]
   rw [ih]; simp
theorem OW (bl : C.e0) {T : TypeId} {ax : List (TypeId × Nat)} (az : (C.T T).k = .struct ax) {b o : Nat} {cs : List Value} (h : h0 w b o cs) (aR : cs.length = (C.T T).sz) :
  (loadVar T ⟨b, o, none⟩).run C.P w = .ok (.agg cs.toArray) w := by
 obtain ⟨i, d, z, aS, aX, aQ, ca, cR, bZ, bS⟩ := bl.info (gk az (by simp))
 have := G7 (P := C.P) (b := b) (o := o) cs 0 #[] (by simpa using h)
 simp only [loadVar, Sem.run_bind, G5 bl az, Result.andThen, if_true, jX aS, aX, ← aR, loadCells, this]
 simp
theorem G8 (bl : C.e0) {T : TypeId} (az : (C.T T).flat = true) {b o : Nat} {v : Value} (h : h0 w b o [v]) :
  (loadVar T ⟨b, o, none⟩).run C.P w = .ok v w := by
 simp [loadVar, CS bl az, Go.load, Sem.run, h.one]
def fits (C : ck) (T : TypeId) (d : I) : Bool := match (C.T T).k, d with
    | .struct _, .agg ds => I.ek ds == (C.T T).sz
    | .struct _, _ => false
    | _, .agg _ => false
    | _, .tuple _ => false
    | _, _ => (C.T T).flat
def G9 : List I → Nat → Nat → Option Nat
 | [], _, _ => none
 | d :: ds, i, k => if k = 0 then some i else if d.wd ≤ k then G9 ds (i + 1) (k - d.wd) else none
def b4 (C : ck) (s : ao) (T : TypeId) (x : I) : Option I :=
 match x with
 | .ref d => if fits C T d = true then some d else none
 | .ab y k => match s y with
   | .agg ds => if I.gh ds then none else match G9 ds 0 k with
     | some i => match ds[i]? with
       | some d => if I.ek (ds.take i) = k ∧ fits C T d = true then some (if d.plain then d else .h y [i]) else none
       | none => none
     | none => none
   | _ => none
 | x => match loc s x with
   | some (y, q) => match I.sub q (s y) with
     | some d => if fits C T d = true then some (if d.plain then d else .h y q) else none
     | none => none
   | none => none
theorem au.one {F : Nat → Prop} {d : I} {cs : List Value} {S : Nat → Prop} (h : au w F d cs S) (ag : ∀ ax, d ≠ .agg ax) (ah : ∀ ax, d ≠ .tuple ax) : ∃ v, cs = [v] ∧ Value.gH v = true := by
 cases d with
 | hole => rw [au] at h; obtain ⟨v, h, rfl⟩ := h; exact ⟨v, rfl, h⟩
 | e_ => rw [au] at h; obtain ⟨v, rfl⟩ := h; exact ⟨_, rfl, rfl⟩
 | slice xs => rw [au] at h; rcases h with ⟨_, a, c, rfl, _⟩ | ⟨b, o, cap, ew, sz, rfl, _⟩ <;> exact ⟨_, rfl, rfl⟩
 | aP sz xs => rw [au] at h; rcases h with ⟨_, _, rfl⟩ | ⟨b, cap, cur, e, fr, eh, rfl, _⟩ <;> exact ⟨_, rfl, rfl⟩
 | ref d => rw [au] at h; obtain ⟨b, o, ew, rfl, _⟩ := h; exact ⟨_, rfl, rfl⟩
 | a7 d => rw [au] at h; obtain ⟨b, cur, e, fr, eh, rfl, _⟩ := h; exact ⟨_, rfl, rfl⟩
 | agg ax => exact (ag _ rfl).elim
 | tuple ax => exact (ah _ rfl).elim
 | fn _ _ => rw [au] at h; obtain ⟨arr, rfl, _⟩ := h; exact ⟨_, rfl, rfl⟩
 | h _ _ => rw [au] at h; exact h.elim
 | ar _ _ => rw [au] at h; exact h.elim
 | ab _ _ => rw [au] at h; exact h.elim
 | _ => rw [au] at h; subst h; exact ⟨_, rfl, rfl⟩
theorem I.yC {d : I} (h : d.single = true) : (∀ ax, d ≠ .agg ax) ∧ ∀ ax, d ≠ .tuple ax :=
 ⟨fun ax e => (by subst e; cases h), fun ax e => (by subst e; cases h)⟩
theorem aG.oQ {F : Nat → Prop} {s : ao} {aB : Nat → Value} {d : I} {v : Value} (bb : d.tree = true) (ad : d.single = true) (h : au w F d [v] (fun _ => False)) : aG w F s aB d v (fun _ => False) := by
 obtain ⟨gj, e, ag⟩ := au.one h (I.yC ad).1 (I.yC ad).2
 have : v = gj := by simpa using e
 subst this
 refine (aG.cJ bb).2 ⟨?_, by rw [gX ag]; exact h⟩
 cases d <;> first | exact ag | cases ad
mutual
theorem aG.oR {F : Nat → Prop} {s : ao} {aB : Nat → Value} : ∀ (d : I) (v : Value), d.single = true → au w F d [v] (fun _ => False) → aG w F s aB d v (fun _ => False)
 | .fn f caps, v, _, h => by
   rw [au] at h
   obtain ⟨arr, ag, ah, aI⟩ := h
   rw [aG]
   exact ⟨arr, by simpa using ag, ei.oR caps _ ah aI⟩
 | .bool b, v, ad, h => aG.oQ rfl ad h
 | .e_, v, ad, h => aG.oQ rfl ad h
 | .int k n, v, ad, h => aG.oQ rfl ad h
 | .str x, v, ad, h => aG.oQ rfl ad h
 | .dv, v, ad, h => aG.oQ rfl ad h
 | .bp, v, ad, h => aG.oQ rfl ad h
 | .slice xs, v, ad, h => aG.oQ rfl ad h
 | .aP sz xs, v, ad, h => aG.oQ rfl ad h
 | .ref d, v, ad, h => aG.oQ rfl ad h
 | .a7 d, v, ad, h => aG.oQ rfl ad h
 | .h _ _, v, _, h => by rw [au] at h; exact h.elim
 | .ar _ _, v, _, h => by rw [au] at h; exact h.elim
 | .ab _ _, v, _, h => by rw [au] at h; exact h.elim
theorem ei.oR {F : Nat → Prop} {s : ao} {aB : Nat → Value} : ∀ (ds : List I) (vs : List Value), (∀ d ∈ ds, d.single = true) → a8 w F ds vs (fun _ => False) → ei w F s aB ds vs
 | [], vs, _, h => by rw [a8] at h; rw [ei]; exact h
 | d :: ds, vs, ad, h => by
   rw [a8] at h
   obtain ⟨cy, cu, b5, dG, rfl, ah, aI, a_, bN, _⟩ := h
   have ai := ad d (by simp)
   obtain ⟨v, rfl, _⟩ := au.one ah (I.yC ai).1 (I.yC ai).2
   rw [ei]
   exact ⟨v, cu, rfl, aG.oR d v ai (au.mono (fun _ h => h) _ _ _ _ (fun b ab => a_ b ab) ah), ei.oR ds cu (fun x aq => ad x (by simp [aq])) (a8.mono (fun _ h => h) _ _ _ _ (fun b ab => bN b ab) aI)⟩
end
theorem yD (bl : C.e0) {T : TypeId} {d : I} {b o : Nat} {cs : List Value} {S : Nat → Prop} (h : h0 w b o cs) (ai : au w F d cs S)
  (ig : fits C T d = true) :
  ∃ v, (loadVar T ⟨b, o, none⟩).run C.P w = .ok v w ∧ cr v = cs ∧ eo d v := by
 unfold fits at ig
 by_cases ad : ∃ ax, (C.T T).k = .struct ax
 ·obtain ⟨ax, az⟩ := ad
  rw [az] at ig
  cases d with
  | agg ds =>
    simp only [beq_iff_eq] at ig
    refine ⟨_, OW bl az h ((au.length _ _ _ ai).trans ig), rfl, ⟨_, rfl⟩⟩
  | _ => simp at ig
 ·have jn : (C.T T).flat = true ∧ (∀ ax, d ≠ .agg ax) ∧ (∀ ax, d ≠ .tuple ax) := by
   revert ig ad
   cases az : (C.T T).k <;> cases d <;> simp
  obtain ⟨v, rfl, ag⟩ := au.one ai jn.2.1 jn.2.2
  refine ⟨v, G8 bl jn.1 h, gX ag, ?_⟩
  cases d <;> first | exact ag | exact (jn.2.1 _ rfl).elim | exact (jn.2.2 _ rfl).elim
theorem OX (bl : C.e0) {T : TypeId} {d : I} {off : Nat} {arr : Array Value} {cy cs cu : List Value} {S : Nat → Prop} (he : arr.toList = cy ++ (cs ++ cu)) (cg : cy.length = off) (ai : au w F d cs S)
  (ig : fits C T d = true) :
  ∃ v, (part T arr off).run C.P w = .ok v w ∧ cr v = cs ∧ eo d v := by
 unfold fits at ig
 by_cases ad : ∃ ax, (C.T T).k = .struct ax
 ·obtain ⟨ax, az⟩ := ad
  rw [az] at ig
  cases d with
  | agg ds =>
    simp only [beq_iff_eq] at ig
    obtain ⟨i, d, z, aS, aX, aQ, ca, cR, bZ, bS⟩ := bl.info (gk az (by simp))
    have aR : cs.length = (C.T T).sz := (au.length _ _ _ ai).trans ig
    have aq : (arr.extract off (off + (C.T T).sz)).toList = cs := by
     rw [Array.toList_extract, he, List.extract_eq_take_drop, ← aR, ← cg, Nat.add_sub_cancel_left, List.drop_left, List.take_left]
    refine ⟨.agg (arr.extract off (off + (C.T T).sz)), ?_, by simpa [cr, iy] using aq, ⟨_, rfl⟩⟩
    simp [part, G5 bl az, jX aS, aX]
  | _ => simp at ig
 ·have jn : (C.T T).flat = true ∧ (∀ ax, d ≠ .agg ax) ∧ (∀ ax, d ≠ .tuple ax) := by
   revert ig ad
   cases az : (C.T T).k <;> cases d <;> simp
  obtain ⟨v, rfl, ag⟩ := au.one ai jn.2.1 jn.2.2
  have bT : arr[off]? = some v := by
   rw [← Array.getElem?_toList, he, ← cg, List.getElem?_append_right (Nat.le_refl _)]; simp
  refine ⟨v, ?_, gX ag, ?_⟩
  ·simp [part, CS bl jn.1, bT]
  ·cases d <;> first | exact ag | exact (jn.2.1 _ rfl).elim | exact (jn.2.2 _ rfl).elim
theorem OY (bl : C.e0) (h : bP w0 F0 X F S s aB w) {T : TypeId} {x : I} {v : Value} (aN : aG w F s aB x v (fun _ => False)) (he : b4 C s T x = some av) :
  Good C w0 F0 X aB w (Instr.loadAt T v) av s := by
 unfold b4 at he
 split at he
 ·rename_i d
  split at he
  ·rename_i ig
   simp only [Option.some.injEq] at he; subst he
   have lF := (aG.cJ rfl).1 aN
   rw [au, gX lF.1] at lF
   obtain ⟨ad, b, o, ew, ag, ah, aI, a_⟩ := lF
   simp only [List.cons.injEq, and_true] at ag; subst ag
   obtain ⟨gj, aV, aw, lH⟩ := yD bl aI a_ ig
   have eI : (Instr.loadAt T (.pointer (some ⟨b, o, none⟩))).run C.P w = .ok gj w := by simp [Instr.loadAt, Instr.sureAddr, aV]
   refine ⟨gj, w, F, S, eI, h, ?_⟩
   by_cases bb : d.tree = true
   ·exact .inr ⟨bb, lH, fun _ => False, by rw [aw]; exact a_, fun _ h => h.elim, fun _ h => h.elim, fun _ _ h => h.elim, fun _ h => h.elim⟩
   ·cases d <;> first | exact (bb rfl).elim | (rw [au] at a_; exact a_.elim) | exact .inl ⟨rfl, by rw [aG]; trivial⟩ | (have bN := a_; rw [au] at bN; obtain ⟨arr, e, _⟩ := bN; rw [← aw] at e a_; rw [gX (by exact lH)] at a_; exact .inl ⟨rfl, aG.oR _ _ rfl a_⟩)
  ·cases he
 ·rename_i y k
  split at he
  ·rename_i ds mA
   split at he
   ·cases he
   ·rename_i vu
    split at he
    ·rename_i i al
     split at he
     ·rename_i d ai
      split at he
      ·rename_i ig
       simp only [Option.some.injEq] at he
       have fT : (s y).plain = false := by rw [mA]; simp only [I.plain]; simpa using vu
       rw [aG] at aN
       obtain ⟨b, cur, e, fr, rfl, ah, aI, a_⟩ := aN fT
       have bt := h.dC y
       rw [mA] at bt
       have G_ := ((aG.cJ rfl).1 bt).2
       rw [au] at G_
       obtain ⟨cy, fS, cu, b5, h2, hj, hL, fp, gW, h3, gf, lC⟩ := a8.pick ds _ _ i d G_ ai
       have jV : h0 w b k fS := by
        intro j c b3
        have fa : j < fS.length := (List.getElem?_eq_some_iff.1 b3).1
        have : cur.toList[k + j]? = some c := by
         rw [a_, hj, List.getElem?_append_right (by omega), List.getElem?_append_left (by omega), ← b3]; congr 1; omega
        simp [World.cell?, aI]
        simpa using this
       obtain ⟨gj, aV, aw, lH⟩ := yD bl jV gf ig.2
       have eI : (Instr.loadAt T (.pointer (some ⟨b, k, none⟩))).run C.P w = .ok gj w := by simp [Instr.loadAt, Instr.sureAddr, aV]
       refine ⟨gj, w, F, S, eI, h, ?_⟩
       split at he
       ·rename_i ar
        subst he
        by_cases bb : d.tree = true
        ·exact .inl ⟨ar, (aG.cJ bb).2 ⟨lH, by rw [aw]; exact au.plain _ _ _ _ ar gf⟩⟩
        ·cases d <;> first | exact (bb rfl).elim | (rw [au] at gf; exact gf.elim) | exact .inl ⟨rfl, by rw [aG]; trivial⟩ | (have bN := au.plain _ _ _ (fun _ => False) ar gf; rw [← aw] at bN; rw [gX (by exact lH)] at bN; exact .inl ⟨rfl, aG.oR _ _ rfl bN⟩)
       ·subst he
        refine .inl ⟨rfl, ?_⟩
        rw [aG]
        intro d2 iQ _
        rw [mA] at iQ ⊢
        simp only [I.sub, ai, Option.some.injEq] at iQ
        subst iQ
        refine ⟨fS, none, ?_, aw, lH⟩
        simp only [dp, ai]
        rw [hj, ri cy fS cu _ _ hL (au.length _ _ _ gf)]
        rfl
      ·cases he
     ·cases he
    ·cases he
  ·cases he
 ·rename_i x _ _
  split at he
  ·rename_i y q aR
   split at he
   ·rename_i d ai
    split at he
    ·rename_i ig
     simp only [Option.some.injEq] at he
     obtain ⟨nW, c6, b, o, rfl, kV⟩ := CO h aN aR ai
     have bt := h.dC y
     rw [aG.cJ (iI ai (.inr nW))] at bt
     obtain ⟨gd, cK, eR, hh, k0, bU, cb, e5, dX, fB⟩ := ctx q (s y) (cr (aB y)) (S y) none _ bt.2 ai
     rw [k0] at kV
     simp only [Option.some.injEq, Prod.mk.injEq, true_and] at kV
     obtain ⟨rfl, rfl⟩ := kV
     have jV : h0 w b o gd := by
      rcases fB with ⟨l, r, aS, aX, _⟩ | ⟨fJ, cur, e, fr, l, r, aS, aX, aQ, ca, cR, _⟩
      ·simp at aX
      ·simp only [Option.some.injEq, Prod.mk.injEq] at aS
       obtain ⟨rfl, rfl⟩ := aS
       intro j c b3
       have fa : j < gd.length := (List.getElem?_eq_some_iff.1 b3).1
       have : cur.toList[l.length + j]? = some c := by
        rw [cR, List.getElem?_append_right (by omega), List.getElem?_append_left (by omega), ← b3]; congr 1; omega
       simp [World.cell?, aQ]
       simpa using this
     obtain ⟨gj, aV, aw, lH⟩ := yD bl jV dX ig
     have eI : (Instr.loadAt T (.pointer (some ⟨b, o, none⟩))).run C.P w = .ok gj w := by simp [Instr.loadAt, Instr.sureAddr, aV]
     refine ⟨gj, w, F, S, eI, h, ?_⟩
     split at he
     ·rename_i ar
      subst he
      by_cases bb : d.tree = true
      ·exact .inl ⟨ar, (aG.cJ bb).2 ⟨lH, by rw [aw]; exact au.plain _ _ _ _ ar dX⟩⟩
      ·cases d <;> first | exact (bb rfl).elim | (rw [au] at dX; exact dX.elim) | exact .inl ⟨rfl, by rw [aG]; trivial⟩ | (have bN := au.plain _ _ _ (fun _ => False) ar dX; rw [← aw] at bN; rw [gX (by exact lH)] at bN; exact .inl ⟨rfl, aG.oR _ _ rfl bN⟩)
     ·subst he
      refine .inl ⟨rfl, ?_⟩
      rw [aG]
      intro d2 iQ _
      rw [ai] at iQ
      simp only [Option.some.injEq] at iQ
      subst iQ
      exact ⟨_, _, k0, aw, lH⟩
    ·cases he
   ·cases he
  ·cases he
mutual
theorem au.rq {F : Nat → Prop} : ∀ (d : I) (cs : List Value) (S : Nat → Prop), au w F d cs S → ∀ c ∈ cs, Value.gH c = true
 | .hole, cs, S, h => by rw [au] at h; obtain ⟨v, h, rfl⟩ := h; simpa using h
 | .bool _, cs, S, h => by rw [au] at h; subst h; simp [Value.gH]
 | .e_, cs, S, h => by rw [au] at h; obtain ⟨b, rfl⟩ := h; simp [Value.gH]
 | .int _ _, cs, S, h => by rw [au] at h; subst h; simp [Value.gH]
 | .str _, cs, S, h => by rw [au] at h; subst h; simp [Value.gH]
 | .dv, cs, S, h => by rw [au] at h; subst h; simp [Value.gH]
 | .bp, cs, S, h => by rw [au] at h; subst h; simp [Value.gH]
 | .slice xs, cs, S, h => by
   rw [au] at h
   rcases h with ⟨_, a, c, rfl, _⟩ | ⟨b, o, cap, ew, sz, rfl, _⟩ <;> simp [Value.gH]
 | .aP sz xs, cs, S, h => by
   rw [au] at h
   rcases h with ⟨_, _, rfl⟩ | ⟨b, cap, cur, e, fr, aT, rfl, _⟩ <;> simp [Value.gH]
 | .ref d, cs, S, h => by rw [au] at h; obtain ⟨b, o, ew, rfl, _⟩ := h; simp [Value.gH]
 | .a7 d, cs, S, h => by rw [au] at h; obtain ⟨b, o, ew, _, _, rfl, _⟩ := h; simp [Value.gH]
 | .agg ax, cs, S, h => by rw [au] at h; exact a8.rq ax _ _ h
 | .tuple ax, cs, S, h => by rw [au] at h; exact a8.rq ax _ _ h
 | .fn _ _, cs, S, h => by rw [au] at h; obtain ⟨arr, rfl, _⟩ := h; simp [Value.gH]
 | .h _ _, cs, S, h => by rw [au] at h; exact h.elim
 | .ar _ _, cs, S, h => by rw [au] at h; exact h.elim
 | .ab _ _, cs, S, h => by rw [au] at h; exact h.elim
theorem a8.rq {F : Nat → Prop} : ∀ (ds : List I) (cs : List Value) (S : Nat → Prop), a8 w F ds cs S → ∀ c ∈ cs, Value.gH c = true
 | [], cs, S, h => by rw [a8] at h; subst h; simp
 | d :: ds, cs, S, h => by
   rw [a8] at h
   obtain ⟨cy, cu, b5, dG, rfl, ah, aI, _⟩ := h
   intro c aw
   rcases List.mem_append.1 aw with aw | aw
   ·exact au.rq d _ _ ah c aw
   ·exact a8.rq ds _ _ aI c aw
end
theorem yE {P : Program} {b o : Nat} {e : TypeId} {fr : Nat × Nat} : ∀ (vs : List Value) (i : Nat) (cur : Array Value) (w : World) (l m r : List Value), w.heap[b]? = some (.cells cur e fr) → qk fr cur.size →
  cur.toList = l ++ (m ++ r) → l.length = o + i → m.length = vs.length → (∀ v ∈ vs, Value.gH v = true) →
  ∃ aL, (storeCells ⟨b, o, none⟩ vs i).run P w = .ok () aL ∧ aL.heap[b]? = some (.cells (l ++ (vs ++ r)).toArray e fr) ∧ (∀ c, c ≠ b → aL.heap[c]? = w.heap[c]?) ∧ aL.heap.size = w.heap.size ∧ aL.os = w.os ∧ aL.tape = w.tape ∧ aL.output = w.output
 | [], i, cur, w, l, m, r, ab, br, aw, aR, hm, _ => by
   refine ⟨w, rfl, ?_, fun _ _ => rfl, rfl, rfl, rfl, rfl⟩
   have : m = [] := by simpa using hm
   subst this
   rw [ab]
   have : cur = (l ++ ([] ++ r)).toArray := by rw [← aw]
   rw [← this]
 | v :: vs, i, cur, w, l, m, r, ab, br, aw, aR, hm, yF => by
   obtain ⟨x, m, rfl⟩ : ∃ x ij, m = x :: ij := by cases m with
    | nil => simp at hm
    | cons x m => exact ⟨x, m, rfl⟩
   have hlen : cur.size = (l ++ (x :: m ++ r)).length := by rw [← aw]; simp
   have fa : o + i < cur.size := by rw [hlen]; simp; omega
   have yG : w.cell? ⟨b, o + i, none⟩ = some cur[o + i] := by simp [World.cell?, ab, fa]
   have OZ : w.frozen? ⟨b, o + i, none⟩ = false := by
    have := br (o + i) fa
    simp only [World.frozen?, ab]
    simp only [Bool.and_eq_false_iff, decide_eq_false_iff_not]
    by_cases ag : fr.1 ≤ o + i
    ·right; exact fun ah => this ⟨ag, ah⟩
    ·left; exact ag
   have qo : (w.setCell ⟨b, o + i, none⟩ v).heap[b]? = some (.cells ((l ++ [v]) ++ (m ++ r)).toArray e fr) := by
    simp only [World.setCell, Array.getElem?_modify, if_true, ab, Option.map_some, Option.isSome_none, Bool.false_eq_true, if_false]
    congr 2
    apply Array.ext'
    rw [Array.toList_setIfInBounds, aw, ← aR, List.set_append_right _ _ (Nat.le_refl _)]
    simp
   have rr : (store ((⟨b, o, none⟩ : Addr).add i) v).run P w = .ok () (w.setCell ⟨b, o + i, none⟩ v) := by
    have ag := yF v (by simp)
    rw [Addr.add_lit]
    cases v <;> first | (simp [Value.gH] at ag; done) | simp [Go.store, Sem.run, yG, OZ]
   obtain ⟨aL, g1, g2, g3, g4, g5, g6, g7⟩ := yE (P := P) (b := b) (o := o) vs (i + 1) _ (w.setCell ⟨b, o + i, none⟩ v) (l ++ [v]) m r qo (by
    have : (l ++ [v] ++ (m ++ r)).toArray.size = cur.size := by rw [hlen]; simp
    rw [this]; exact br) (by simp) (by simp; omega) (by simpa using hm) (fun u hu => yF u (by simp [hu]))
   refine ⟨aL, ?_, by simpa using g2, fun c aw => ?_, ?_, g5, g6, g7⟩
   ·simp only [storeCells, Sem.run_bind, rr, Result.andThen]; exact g1
   ·rw [g3 c aw]
    simp only [World.setCell, Array.getElem?_modify]
    rw [if_neg (fun e => aw e.symm)]
   ·rw [g4]; simp [World.setCell]
theorem vv {d : I} {v : Value} (h : eo d v) (ai : ∀ ax, d ≠ .tuple ax) : v.cells = (cr v).toArray := by
 cases d with
 | tuple ax => exact (ai _ rfl).elim
 | agg ax => obtain ⟨arr, rfl⟩ := h; simp [Value.cells, cr, iy]
 | _ =>
   have ag : Value.gH v = true := h
   rw [gX ag]
   cases v <;> first | rfl | (simp [Value.gH] at ag)
def fU (C : ck) (s : ao) (T : TypeId) (x y : I) : Option ao :=
 match cT s y, loc s x with
 | some (d, s1), some (z, q) => match d with
   | .tuple _ => none
   | d => match I.sub q (s z) with
     | some d0 => if d.wd = d0.wd ∧ d.wd = (C.T T).sz ∧ (C.T T).ok = true ∧ y.owner ≠ some z then some (dw (iZ z s1) z (I.put q d (s z))) else none
     | none => none
 | _, _ => none
theorem O0 {s s1 : ao} {y d : I} {z : Nat} (h : cT s y = some (d, s1)) (b6 : (s z).tree = true) (bt : y.owner ≠ some z) : s1 z = s z := by
 cases y with
 | h x q =>
   simp only [cT] at h
   split at h
   ·split at h
    ·cases h
    ·simp only [Option.some.injEq, Prod.mk.injEq] at h
     obtain ⟨_, rfl⟩ := h
     rw [jH _ _ (fun e => bt (by rw [I.owner, e]))]
     exact CD b6
   ·cases h
 | ar x q => simp [cT] at h
 | ab x q => simp [cT] at h
 | fn f c => simp [cT] at h
 | hole => simp [cT] at h
 | _ => simp only [cT, Option.some.injEq, Prod.mk.injEq] at h; rw [h.2]
theorem O1 (bl : C.e0) (h : bP w0 F0 X F S s aB w) {T : TypeId} {x y : I} {jo iR : Value} (CT : aG w F s aB x jo (fun _ => False)) (bt : y.plain = true) (O2 : aG w F s aB y iR (fun _ => False))
  {s2 : ao} (he : fU C s T x y = some s2) :
  ∃ aL aT, (Instr.storeAt T jo iR).run C.P w = .ok () aL ∧ bP w0 F0 X F aT s2 aB aL := by
 unfold fU at he
 split at he
 ·rename_i d s1 z q bb aR
  have key : ∀ d : I, (∀ ax, d ≠ .tuple ax) → cT s y = some (d, s1) → (match I.sub q (s z) with
   | some d0 => if d.wd = d0.wd ∧ d.wd = (C.T T).sz ∧ (C.T T).ok = true ∧ y.owner ≠ some z then some (dw (iZ z s1) z (I.put q d (s z))) else none
   | none => none) = some s2 → ∃ aL aT, (Instr.storeAt T jo iR).run C.P w = .ok () aL ∧ bP w0 F0 X F aT s2 aB aL := by
   intro d pz bb he
   split at he
   ·rename_i d0 kH
    split at he
    ·rename_i ru
     obtain ⟨ag, ah, aI, a_⟩ := ru
     simp only [Option.some.injEq] at he; subst he
     obtain ⟨nW, c6, b, o, rfl, kV⟩ := CO h CT aR kH
     obtain ⟨b5, g0, g1, g2, Sn, g3, g4, g5, g6, g7, g8⟩ := oO h bt O2 bb
     have eH : s1 z = s z := O0 bb (iI kH (.inr nW)) a_
     rw [← eH] at kH nW kV ⊢
     obtain ⟨gd, fJ, l, r, cur, e, fr, k0, bU, cb, e5, dX⟩ := g0.store kH nW g3 ag g4 g5 g6 g7
     rw [kV] at k0
     simp only [Option.some.injEq, Prod.mk.injEq, true_and] at k0
     obtain ⟨rfl, rfl, rfl⟩ := k0
     obtain ⟨i, d, qn, aS, aX, aQ, ca, cR, bZ, bS⟩ := bl.info aI
     have hlen := au.length _ _ _ g3
     have hm : c6.length = (cr iR).length := by
      have Ha := g0.dC z
      rw [aG.cJ (iI kH (.inr nW))] at Ha
      obtain ⟨_, _, _, _, my, _, _, _, vw, _⟩ := ctx q (s1 z) (cr (aB z)) (b5 z) none _ Ha.2 kH
      rw [kV] at my
      simp only [Option.some.injEq, Prod.mk.injEq, true_and] at my
      rw [my.1, au.length _ _ _ vw, hlen, ag]
     obtain ⟨aL, m1, m2, m3, m4, m5, m6, m7⟩ := yE (P := C.P) (b := b) (o := l.length) (e := e) (fr := fr) (cr iR) 0 cur w l c6 r bU e5 cb rfl hm (au.rq _ _ _ g3)
     obtain ⟨aT, fB⟩ := dX aL m2 m3 m4 m5 m6 m7
     refine ⟨aL, aT, ?_, fB⟩
     have nX := vv g2 pz
     simp [Instr.storeAt, Instr.sureAddr, storeVar, jX aS, aX, nX, hlen, ah, m1]
    ·cases he
   ·cases he
  split at he
  ·cases he
  ·rename_i pz
   exact key _ (fun ax e => pz ax e) bb he
 ·cases he
theorem bP.alloc (h : bP w0 F0 X F S s aB w) {d : I} {cs : List Value} {Sn : Nat → Prop} (e : TypeId) (aN : au w F d cs Sn)
  (fa : ∀ b, Sn b → b < w.heap.size) (bu : ∀ b, Sn b → ¬ F b) (b8 : ∀ u b, Sn b → ¬ S u b) (bc : ∀ b, Sn b → X b ∨ w0.heap.size ≤ b) :
  bP w0 F0 X F S s aB (w.alloc (.cells cs.toArray e)) ∧
   kX w0 X F S s aB (w.alloc (.cells cs.toArray e)) (.a7 d) (.pointer (some ⟨w.heap.size, 0, none⟩)) := by
 have hold : ∀ b, b < w.heap.size → (w.alloc (.cells cs.toArray e)).heap[b]? = w.heap[b]? := by
  intro b ab
  show (w.heap.push _)[b]? = _
  rw [Array.getElem?_push, if_neg (by omega)]
 refine ⟨h.grow hold (by simp) rfl rfl rfl, .inr ⟨rfl, rfl, fun b => b = w.heap.size ∨ Sn b, ?_, ?_, ?_, ?_, ?_⟩⟩
 ·rw [au]
  refine ⟨w.heap.size, cs.toArray, e, (0, 0), Sn, rfl, .inl rfl, ?_, ?_, ?_, fun c aw => .inr aw, fun aw => Nat.lt_irrefl _ (fa _ aw)⟩
  ·show (w.heap.push _)[_]? = _
   simp
  ·intro o _ ⟨_, ah⟩; exact absurd ah (Nat.not_lt_zero _)
  ·exact au.frame (fun b ab => hold b (h.fA b ab)) _ _ _ (fun b ab => hold b (fa b ab)) aN
 ·rintro b (rfl | ab)
  ·simp
  ·have := fa b ab; simp; omega
 ·rintro b (rfl | ab) vx
  ·exact Nat.lt_irrefl _ (h.fA _ vx)
  ·exact bu b ab vx
 ·rintro u b (rfl | ab) hu
  ·exact Nat.lt_irrefl _ (h.e4 _ _ hu)
  ·exact b8 u b ab hu
 ·rintro b (rfl | ab)
  ·exact .inr h.size
  ·exact bc b ab
def gL (C : ck) (T : TypeId) : Option I := if (C.T T).ok = true then (match flat (C.T T).zero with | some _ => some (.a7 (C.T T).zero) | none => none) else none
theorem O3 (bl : C.e0) (h : bP w0 F0 X F S s aB w) {T : TypeId} (he : gL C T = some av) : Good C w0 F0 X aB w (Instr.alloc T true (.tuple #[])) av s := by
 unfold gL at he
 split at he
 ·rename_i az
  split at he
  ·rename_i cs hj
   simp only [Option.some.injEq] at he; subst he
   obtain ⟨i, d, z, aS, aX, aQ, ca, cR, bZ, bS⟩ := bl.info az
   have b6 := cR cs hj
   obtain ⟨dB, bg⟩ := h.alloc (d := (C.T T).zero) T ((au.flat _).1 _ cs (fun _ => False) (Nat.le_refl _) hj) (fun _ h => h.elim) (fun _ h => h.elim) (fun _ _ h => h.elim) (fun _ h => h.elim)
   refine ⟨_, _, F, S, ?_, dB, bg⟩
   simp [Instr.alloc, te aS ca, newVar, newRow, newObj, Sem.run, b6]
  ·cases he
 ·cases he
def cU (s : ao) (x : I) : Option (I × ao) := match cT s x with
 | some (.tuple _, _) => none
 | some (d, s1) => some (.a7 d, s1)
 | none => none
def kZ (s : ao) (x : I) : Option (I × ao) := match x with
 | .h y q => match q, s y with
   | [], .agg ds => if I.gh ds then none else some (.ab y 0, s)
   | _, _ => none
 | .fn f caps => if caps.all (fun d => d.single && (d.tree && d.plain)) = true then some (.ref (.fn f caps), s) else none
 | _ => none
theorem a8.Hb {w : World} {F bL : Nat → Prop} {s : ao} {aB : Nat → Value} (bu : ∀ b, F b → bL b) : ∀ (ds : List I) (vs : List Value), (∀ d ∈ ds, d.single = true ∧ d.tree = true ∧ d.plain = true) → ei w F s aB ds vs → a8 w bL ds vs (fun _ => False)
 | [], vs, _, h => by rw [ei] at h; rw [a8]; exact h
 | d :: ds, vs, ad, h => by
   rw [ei] at h
   obtain ⟨v, jG, rfl, ag, ah⟩ := h
   obtain ⟨d1, d2, d3⟩ := ad d (by simp)
   have aI := (aG.cJ d2).1 ag
   have cg : Value.gH v = true := by
    have := aI.1
    cases d <;> first | exact this | cases d1
   have a_ := aI.2
   rw [gX cg] at a_
   rw [a8]
   exact ⟨[v], jG, fun _ => False, fun _ => False, rfl, au.mono bu _ _ _ _ (fun _ h => h) a_, a8.Hb bu ds jG (fun x aq => ad x (by simp [aq])) ah, fun _ h => h, fun _ h => h, fun _ h => h.elim⟩
theorem O4 {T : TypeId} {v : Value} (h : bP w0 F0 X F S s aB w) : bP w0 F0 X (fun b => F b ∨ b = w.heap.size) S s aB (w.alloc (.cells (cr v).toArray T)) := by
 have hold : ∀ b, b < w.heap.size → (w.alloc (.cells (cr v).toArray T)).heap[b]? = w.heap[b]? := by
  intro b ab
  show (w.heap.push _)[b]? = _
  rw [Array.getElem?_push, if_neg (by omega)]
 have ag := h.grow hold (by simp) rfl rfl rfl
 exact {
  hq := fun b ab => .inl (ag.hq b ab)
  hM := fun b ab => by
   rcases ab with ab | rfl
   ·exact ag.hM b ab
   ·exact .inr (.inr h.size)
  fA := fun b ab => by
   rcases ab with ab | rfl
   ·exact ag.fA b ab
   ·simp
  e4 := ag.e4
  gi := fun t b ab br => by
   rcases br with br | rfl
   ·exact ag.gi t b ab br
   ·exact absurd (h.e4 t _ ab) (Nat.lt_irrefl _)
  fK := ag.fK
  eh := ag.eh
  dC := fun t => aG.frame (fun _ _ => rfl) (fun b ab => .inl ab) (fun _ _ _ => rfl) ag.dC _ _ _ (fun _ _ => rfl) (ag.dC t)
  old := ag.old
  size := ag.size
  os := ag.os
  tape := ag.tape
  output := ag.output }
theorem O5 (h : bP w0 F0 X F S s aB w) {T : TypeId} {x : I} {v : Value} (aN : aG w F s aB x v (fun _ => False)) (he : kZ s x = some (av, s1)) :
  Good C w0 F0 X aB w (Instr.box T v) av s1 := by
 unfold kZ at he
 split at he
 ·rename_i y q
  split at he
  ·rename_i ds mA
   split at he
   ·cases he
   ·rename_i vu
    simp only [Option.some.injEq, Prod.mk.injEq] at he
    obtain ⟨rfl, rfl⟩ := he
    rw [aG] at aN
    obtain ⟨c6, a, g1, g2, g3⟩ := aN (s y) (by simp only [I.sub]) (by rw [mA]; simp only [I.plain]; simpa using vu)
    simp only [dp, Option.some.injEq, Prod.mk.injEq, true_and] at g1
    rw [mA] at g3
    have nX := vv g3 (fun ax e => by cases e)
    have hold : ∀ b, b < w.heap.size → (w.alloc (.cells (cr v).toArray T)).heap[b]? = w.heap[b]? := by
     intro b ab
     show (w.heap.push _)[b]? = _
     rw [Array.getElem?_push, if_neg (by omega)]
    refine ⟨.pointer (some ⟨w.heap.size, 0, none⟩), w.alloc (.cells (cr v).toArray T), fun b => F b ∨ b = w.heap.size, S, by simp [Instr.box, newVar, newRow, newObj, Sem.run, nX], ?_, .inl ⟨rfl, ?_⟩⟩
    ·have ag := h.grow hold (by simp) rfl rfl rfl
     exact {
      hq := fun b ab => .inl (ag.hq b ab)
      hM := fun b ab => by
       rcases ab with ab | rfl
       ·exact ag.hM b ab
       ·exact .inr (.inr h.size)
      fA := fun b ab => by
       rcases ab with ab | rfl
       ·exact ag.fA b ab
       ·simp
      e4 := ag.e4
      gi := fun t b ab br => by
       rcases br with br | rfl
       ·exact ag.gi t b ab br
       ·exact absurd (h.e4 t _ ab) (Nat.lt_irrefl _)
      fK := ag.fK
      eh := ag.eh
      dC := fun t => aG.frame (fun _ _ => rfl) (fun b ab => .inl ab) (fun _ _ _ => rfl) ag.dC _ _ _ (fun _ _ => rfl) (ag.dC t)
      old := ag.old
      size := ag.size
      os := ag.os
      tape := ag.tape
      output := ag.output }
    ·rw [aG]
     intro _
     refine ⟨w.heap.size, (cr v).toArray, T, (0, 0), rfl, .inr rfl, ?_, ?_⟩
     ·show (w.heap.push _)[_]? = _
      simp
     ·rw [g1.1, ← g2]
  ·cases he
 ·rename_i f caps
  split at he
  ·rename_i aw
   simp only [Option.some.injEq, Prod.mk.injEq] at he
   obtain ⟨rfl, rfl⟩ := he
   have hj : ∀ d ∈ caps, d.single = true ∧ d.tree = true ∧ d.plain = true := fun d ai => by
    have := List.all_eq_true.1 aw d ai
    simpa only [Bool.and_eq_true] using this
   rw [aG] at aN
   obtain ⟨arr, rfl, aN⟩ := aN
   have nX := vv (d := .fn f caps) (v := .func (.func f) #[] arr) rfl (fun ax e => by cases e)
   have bT := O4 (T := T) (v := .func (.func f) #[] arr) h
   refine ⟨.pointer (some ⟨w.heap.size, 0, none⟩), w.alloc (.cells (cr (.func (.func f) #[] arr)).toArray T), fun b => F b ∨ b = w.heap.size, S, by simp [Instr.box, newVar, newRow, newObj, Sem.run, nX], bT, .inl ⟨rfl, ?_⟩⟩
   refine (aG.cJ rfl).2 ⟨rfl, ?_⟩
   rw [au]
   refine ⟨w.heap.size, 0, [.func (.func f) #[] arr], rfl, .inr rfl, ?_, ?_⟩
   ·have jW : (w.alloc (.cells (cr (.func (.func f) #[] arr)).toArray T)).heap[w.heap.size]? = some (.cells (cr (.func (.func f) #[] arr)).toArray T (0, 0)) := by
     show (w.heap.push _)[_]? = _
     simp
    intro j c b3
    cases j with
    | zero =>
      simp only [List.getElem?_cons_zero, Option.some.injEq] at b3
      subst b3
      have e : cr (.func (.func f) #[] arr) = [.func (.func f) #[] arr] := gX rfl
      unfold World.cell?
      show (match (w.alloc (.cells (cr (.func (.func f) #[] arr)).toArray T)).heap[w.heap.size]? with
       | some (.cells c _ _) => c[0 + 0]?
       | _ => none) = _
      rw [jW, e]
      rfl
    | succ j => simp at b3
   ·rw [au]
    refine ⟨arr, rfl, fun d ai => (hj d ai).1, ?_⟩
    have bN := a8.Hb (bL := F) (fun b ab => ab) caps arr.toList hj aN
    refine a8.mono (F := F) (fun b ab => .inl ab) caps _ _ _ (fun _ h => h) (a8.frame (fun b ab => ?_) caps _ _ (fun _ h => h.elim) bN)
    have fa := h.fA b ab
    show (w.heap.push _)[b]? = _
    rw [Array.getElem?_push, if_neg (by omega)]
  ·cases he
 ·cases he
theorem O6 (h : bP w0 F0 X F S s aB w) {T : TypeId} {x : I} {v : Value} (aq : x.plain = true) (aN : aG w F s aB x v (fun _ => False)) (he : cU s x = some (av, s1)) :
  Good C w0 F0 X aB w (Instr.box T v) av s1 := by
 unfold cU at he
 split at he
 ·cases he
 ·rename_i d s2 pz bb
  simp only [Option.some.injEq, Prod.mk.injEq] at he
  obtain ⟨rfl, rfl⟩ := he
  obtain ⟨b5, g0, g1, g2, Sn, g3, g4, g5, g6, g7, g8⟩ := oO h aq aN bb
  obtain ⟨dB, bg⟩ := g0.alloc T g3 g4 g5 g6 g7
  refine ⟨_, _, F, b5, ?_, dB, bg⟩
  have nX := vv g2 (fun ax e => pz ax e)
  simp [Instr.box, newVar, newRow, newObj, Sem.run, nX]
 ·cases he
end
end Go.c0
