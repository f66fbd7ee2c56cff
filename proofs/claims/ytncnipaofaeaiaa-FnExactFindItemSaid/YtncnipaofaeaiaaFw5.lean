/- Part of a proof that a law returns true for every input. No condition. -/
import Derived.Test.YtncnipaofaeaiaaFw4
import Derived.Laws.Entries
namespace Go.Fw

/-- What the abstract steps know of a type. -/
inductive TK where
  | int (k : IntKind)
  | bool
  | str
  | ptr (e : TypeId)
  | slice (e : TypeId)
  | struct (fs : List (TypeId × Nat))
  | fn
  | other
structure TI where
  k : TK
  sz : Nat
  bytes : Nat
  zero : AV

-- The cells of a constant.
mutual
def flat : AV → Option (List Value)
  | .bool b => some [.bool b]
  | .int k n => some [.int k n]
  | .str s => some [.string ⟨⟨s⟩⟩]
  | .nilp => some [.pointer none]
  | .nils => some [.slice none 0 0]
  | .agg fs => flats fs
  | _ => none
def flats : List AV → Option (List Value)
  | [] => some []
  | d :: ds => match flat d, flats ds with
    | some a, some b => some (a ++ b)
    | _, _ => none
end

theorem RV.flat {w : World} {F : Nat → Prop} : ∀ n, (∀ (d : AV) (cs : List Value) (S : Nat → Prop), SizeOf.sizeOf d ≤ n → flat d = some cs → RV w F d cs S) ∧
    (∀ (ds : List AV) (cs : List Value) (S : Nat → Prop), SizeOf.sizeOf ds ≤ n → flats ds = some cs → RVs w F ds cs S) := by
  intro n
  induction n with
  | zero => exact ⟨fun d _ _ hz => by cases d <;> simp at hz <;> omega, fun ds _ _ hz => by cases ds <;> simp at hz <;> omega⟩
  | succ n ih =>
    refine ⟨fun d cs S hz h => ?_, fun ds cs S hz h => ?_⟩
    · cases d with
      | agg fs => rw [RV]; exact ih.2 fs cs S (by simp at hz; omega) (by simpa [Fw.flat] using h)
      | bool b => simp [Fw.flat] at h; subst h; rw [RV]
      | int k n => simp [Fw.flat] at h; subst h; rw [RV]
      | str s => simp [Fw.flat] at h; subst h; rw [RV]
      | nilp => simp [Fw.flat] at h; subst h; rw [RV]
      | nils => simp [Fw.flat] at h; subst h; rw [RV]
      | _ => simp [Fw.flat] at h
    · cases ds with
      | nil => simp [flats] at h; subst h; rw [RVs]
      | cons d ds =>
        simp only [flats] at h
        split at h
        · rename_i a b ha hb
          simp at h; subst h
          simp at hz
          rw [RVs]
          exact ⟨a, b, fun _ => False, fun _ => False, rfl, ih.1 d a _ (by omega) ha, ih.2 ds b _ (by omega) hb, fun _ h => h.elim, fun _ h => h.elim, fun _ h => h.elim⟩
        · cases h

def okDesc : TK → TypeDesc → Prop
  | .int k, .int k' => k = k'
  | .bool, .bool => True
  | .str, .string => True
  | .ptr e, .pointer e' => e = e'
  | .slice e, .slice e' => e = e'
  | .struct fs, .struct gs => gs.toList.map (fun g => (g.type, g.offset)) = fs
  | .fn, .func _ _ _ => True
  | _, _ => False

def okT (P : Program) (t : TypeId) (x : TI) : Prop :=
  (∃ e n b z, x = ⟨.other, e, n, b⟩ ∧ z = 0) ∨
  ∃ i d z, P.info? t = some i ∧ i.size = x.sz ∧ i.bytes = x.bytes ∧ i.zero = some z ∧ (∀ cs, flat x.zero = some cs → z.cells = cs.toArray) ∧ P.underlying t = some d ∧ okDesc x.k d

/-- The program, what is known of its types, and which arguments of its functions are written to. -/
structure Cx where
  P : Program
  T : TypeId → TI
  M : FuncId → List Bool

structure Cx.Ok (C : Cx) : Prop where
  ty : ∀ t, okT C.P t (C.T t)
  mixed : C.P.follows .mixedOrders = true

/-- Operands. -/
inductive SX where
  | t (n : Nat)
  | c (av : AV)
  | f (g : FuncId)

def cav : Value → Option AV
  | .bool b => some (.bool b)
  | .int k n => some (.int k n)
  | .string s => some (.str s.data.toList)
  | .pointer none => some .nilp
  | .slice none 0 0 => some .nils
  | _ => none

def slimX : Operand → Option SX
  | .tmp n => some (.t n)
  | .const v => (cav v).map .c
  | .func g => some (.f g)
  | .global _ => none

def al (x : Nat) (d : AV) : AV := if d.plain then d else .h x []

def ev (s : St) : SX → AV
  | .t n => al n (s n)
  | .c av => av
  | .f g => .fn g []

theorem SV.nothing {w : World} {F : Nat → Prop} {s : St} {tm : Nat → Value} {d : AV} {v : Value} {S S' : Nat → Prop} (hp : d.plain = true) (h : SV w F s tm d v S) : SV w F s tm d v S' := by
  cases d <;> first
    | (rw [SV]; trivial)
    | (rw [SV] at h ⊢; exact h)
    | (have h' := (SV.of_tree rfl).1 h; exact (SV.of_tree rfl).2 ⟨h'.1, RV.plain _ _ _ _ hp h'.2⟩)

section
variable {w0 w : World} {F0 X F : Nat → Prop} {S : Nat → Nat → Prop} {s : St} {tm : Nat → Value} {a : Act}

theorem ev_plain (s : St) (x : SX) (hc : ∀ av, x = .c av → av.plain = true) : (ev s x).plain = true := by
  cases x with
  | t n => simp only [ev, al]; split <;> first | assumption | rfl
  | c av => exact hc _ rfl
  | f g => rfl

theorem cav_plain {v : Value} {av : AV} (h : cav v = some av) : av.plain = true := by
  unfold cav at h; split at h <;> simp at h <;> subst h <;> rfl

theorem ev_sv (h : RelX w0 F0 X F S s tm w) (htm : ∀ t, tm t = a.tmps.getD t undef) {o : Operand} {x : SX} (ho : slimX o = some x) :
    (ev s x).plain = true ∧ SV w F s tm (ev s x) (a.eval o) (fun _ => False) := by
  cases o with
  | tmp n =>
    simp [slimX] at ho; subst ho
    simp only [ev, al, Act.eval, ← htm]
    split
    · rename_i hp; exact ⟨hp, SV.nothing hp (h.sv n)⟩
    · rename_i hp
      refine ⟨rfl, ?_⟩
      rw [SV]
      intro d hd hpd
      simp only [AV.sub, Option.some.injEq] at hd; subst hd
      have ht := tree_of_sub (q := []) rfl (.inl hpd)
      exact ⟨_, none, rfl, rfl, ((SV.of_tree ht).1 (h.sv n)).1⟩
  | const v =>
    simp only [slimX, Option.map_eq_some_iff] at ho
    obtain ⟨av, hav, rfl⟩ := ho
    refine ⟨cav_plain hav, ?_⟩
    simp only [ev, Act.eval]
    unfold cav at hav
    split at hav <;> simp at hav <;> subst hav <;> rw [SV, RV] <;> exact ⟨rfl, rfl⟩
  | func g =>
    simp [slimX] at ho; subst ho
    refine ⟨rfl, ?_⟩
    simp only [ev, Act.eval]
    rw [SV]
    exact ⟨#[], rfl, by rw [SVs]⟩
  | global g => simp [slimX] at ho

/-- A result: it owns nothing, or it is a tree whose memory nobody else has. -/
def Val (w0 : World) (X F : Nat → Prop) (S : Nat → Nat → Prop) (s : St) (tm : Nat → Value) (w : World) (av : AV) (v : Value) : Prop :=
  (av.plain = true ∧ SV w F s tm av v (fun _ => False)) ∨
  (av.tree = true ∧ shp av v ∧ ∃ Sn, RV w F av (vc v) Sn ∧ (∀ b, Sn b → b < w.heap.size) ∧ (∀ b, Sn b → ¬ F b) ∧ (∀ u b, Sn b → ¬ S u b) ∧ (∀ b, Sn b → X b ∨ w0.heap.size ≤ b))

def fin (s : St) (dst : Option Nat) (av : AV) : St := match dst with
  | none => s
  | some t => if av.plain then upd s t av else upd (pgS t s) t av

def finT (tm : Nat → Value) (dst : Option Nat) (v : Value) : Nat → Value := match dst with
  | none => tm
  | some t => upd tm t v

theorem RelX.fin (h : RelX w0 F0 X F S s tm w) {av : AV} {v : Value} (hv : Val w0 X F S s tm w av v) (dst : Option Nat) :
    ∃ S', RelX w0 F0 X F S' (Fw.fin s dst av) (finT tm dst v) w := by
  cases dst with
  | none => exact ⟨S, h⟩
  | some t =>
    simp only [Fw.fin, finT]
    rcases hv with ⟨hp, hd⟩ | ⟨ht, hs, Sn, h1, h2, h3, h4, h5⟩
    · rw [if_pos hp]; exact ⟨_, h.setP hp hd⟩
    · split
      · rename_i hp
        exact ⟨_, h.setP hp ((SV.of_tree ht).2 ⟨hs, RV.plain _ _ _ _ hp h1⟩)⟩
      · exact ⟨_, h.setO ht hs h1 h2 h3 (fun u b _ hb => h4 u b hb) h5⟩

/-- What an operand's value is where it goes to memory or to a variable: an alias of what is owned is taken. -/
def tk (s : St) : AV → Option (AV × St)
  | .h x q => match AV.sub q (s x) with
    | some d => if d.plain then none else some (d, upd (pkS x s) x (AV.put q d.hollow (s x)))
    | none => none
  | .hp _ _ => none
  | .fn _ _ => none
  | .hole => none
  | d => some (d, s)

/-- The slot whose memory an alias names. -/
def AV.owner : AV → Option Nat
  | .h x _ => some x
  | _ => none
def pkO : Option Nat → AV → AV
  | some x, d => pk x d
  | none, d => d

theorem tk_sv (h : RelX w0 F0 X F S s tm w) {av d : AV} {s1 : St} {v : Value} (hav : av.plain = true) (hv : SV w F s tm av v (fun _ => False)) (ht : tk s av = some (d, s1)) :
    ∃ S1, RelX w0 F0 X F S1 s1 tm w ∧ d.tree = true ∧ shp d v ∧ ∃ Sn, RV w F d (vc v) Sn ∧ (∀ b, Sn b → b < w.heap.size) ∧ (∀ b, Sn b → ¬ F b) ∧ (∀ u b, Sn b → ¬ S1 u b) ∧ (∀ b, Sn b → X b ∨ w0.heap.size ≤ b) ∧
      (∀ u b, S1 u b → S u b) ∧ (∀ b, Sn b → ∃ u, S u b) ∧ (∀ (d' : AV) (v' : Value) (S' : Nat → Prop), SV w F s tm d' v' S' → SV w F s1 tm (pkO av.owner d') v' S') := by
  have tree : ∀ d : AV, d.tree = true → d.plain = true → SV w F s tm d v (fun _ => False) →
      ∃ S1, RelX w0 F0 X F S1 s tm w ∧ d.tree = true ∧ shp d v ∧ ∃ Sn, RV w F d (vc v) Sn ∧ (∀ b, Sn b → b < w.heap.size) ∧ (∀ b, Sn b → ¬ F b) ∧ (∀ u b, Sn b → ¬ S1 u b) ∧ (∀ b, Sn b → X b ∨ w0.heap.size ≤ b) ∧
        (∀ u b, S1 u b → S u b) ∧ (∀ b, Sn b → ∃ u, S u b) := by
    intro d hd _ h'
    have h' := (SV.of_tree hd).1 h'
    exact ⟨S, h, hd, h'.1, _, h'.2, fun _ h => h.elim, fun _ h => h.elim, fun _ _ h => h.elim, fun _ h => h.elim, fun _ _ h => h, fun _ h => h.elim⟩
  cases av with
  | h x q =>
    simp only [tk] at ht
    split at ht
    · rename_i e he
      split at ht
      · cases ht
      · rename_i hp
        simp only [Option.some.injEq, Prod.mk.injEq] at ht
        obtain ⟨rfl, rfl⟩ := ht
        have hp : e.plain = false := by simpa using hp
        obtain ⟨Sn, Sd, dcs, a', r1, r2, r3, r4, r5, r6, r7⟩ := h.take he hp
        rw [SV] at hv
        obtain ⟨dcs2, a2, g1, g2, g3⟩ := hv e he hp
        rw [r2] at g1
        simp only [Option.some.injEq, Prod.mk.injEq, true_and] at g1
        obtain ⟨rfl, rfl⟩ := g1
        have hte : e.tree = true := by cases e <;> first | rfl | (simp [AV.plain] at hp)
        refine ⟨_, r1, hte, g3, Sd, by rw [g2]; exact r3, fun b hb => h.Slt x b (r4 b hb), fun b hb => h.SF x b (r4 b hb), ?_, fun b hb => h.S0 x b (r4 b hb), ?_, fun b hb => ⟨x, r4 b hb⟩, r7⟩
        · intro u b hb hu
          simp only [updS] at hu
          split at hu
          · exact r6 b hb hu
          · rename_i hux; exact h.SS u x b hux hu (r4 b hb)
        · intro u b hu
          simp only [updS] at hu
          split at hu
          · rename_i e; subst e; exact r5 b hu
          · exact hu
    · cases ht
  | hp x q => simp [tk] at ht
  | fn f c => simp [tk] at ht
  | hole => simp [tk] at ht
  | uslice sz xs => simp [AV.plain] at hav
  | ubox d => simp [AV.plain] at hav
  | _ =>
    simp only [tk, Option.some.injEq, Prod.mk.injEq] at ht
    obtain ⟨rfl, rfl⟩ := ht
    obtain ⟨S1, t1, t2, t3, Sn, t4, t5, t6, t7, t8, t9, t10⟩ := tree _ rfl hav hv
    exact ⟨S1, t1, t2, t3, Sn, t4, t5, t6, t7, t8, t9, t10, fun _ _ _ h => h⟩

/-- A shared row, or one's own: where a pointer leads. -/
def loc (s : St) : AV → Option (Nat × List Nat)
  | .h x q => match AV.sub q (s x) with
    | some (.ubox _) => some (x, q ++ [0])
    | _ => none
  | .hp x q => if AV.cross q (s x) then some (x, q) else none
  | _ => none

theorem sub_append : ∀ (q : List Nat) (av d : AV) (r : List Nat), AV.sub q av = some d → AV.sub (q ++ r) av = AV.sub r d := by
  intro q
  induction q with
  | nil => intro av d r h; simp [AV.sub] at h; subst h; rfl
  | cons k q ih =>
    intro av d r h
    cases av with
    | agg fs =>
      simp only [AV.sub, List.cons_append] at h ⊢
      split at h
      · rename_i x hx; exact ih _ _ _ h
      · cases h
    | tuple fs =>
      simp only [AV.sub, List.cons_append] at h ⊢
      split at h
      · rename_i x hx; exact ih _ _ _ h
      · cases h
    | uslice sz fs =>
      simp only [AV.sub, List.cons_append] at h ⊢
      split at h
      · rename_i x hx; exact ih _ _ _ h
      · cases h
    | ubox x =>
      cases k with
      | zero => simp only [AV.sub, List.cons_append] at h ⊢; exact ih _ _ _ h
      | succ k => simp [AV.sub] at h
    | _ => simp [AV.sub] at h

theorem cross_append : ∀ (q : List Nat) (av d : AV) (r : List Nat), AV.sub q av = some d → AV.cross (q ++ r) av = (AV.cross q av || AV.cross r d) := by
  intro q
  induction q with
  | nil => intro av d r h; simp [AV.sub] at h; subst h; simp [AV.cross]
  | cons k q ih =>
    intro av d r h
    cases av with
    | agg fs =>
      simp only [AV.sub] at h
      split at h
      · rename_i x hx
        simp only [AV.cross, List.cons_append, hx]
        exact ih _ _ r h
      · cases h
    | tuple fs =>
      simp only [AV.sub] at h
      split at h
      · rename_i x hx
        simp only [AV.cross, List.cons_append, hx]
        exact ih _ _ r h
      · cases h
    | uslice sz fs => simp [AV.cross]
    | ubox x => simp [AV.cross]
    | _ => simp [AV.sub] at h

theorem fol_append (w : World) : ∀ (q : List Nat) (av d : AV) (cs dcs : List Value) (a a' : Option (Nat × Nat)) (r : List Nat), fol w q av cs a = some (d, dcs, a') → fol w (q ++ r) av cs a = fol w r d dcs a' := by
  intro q
  induction q with
  | nil => intro av d cs dcs a a' r h; simp [fol] at h; obtain ⟨rfl, rfl, rfl⟩ := h; rfl
  | cons k q ih =>
    intro av d cs dcs a a' r h
    cases av with
    | agg fs =>
      rw [List.cons_append]
      rw [fol] at h ⊢
      split at h
      · rename_i x hx; exact ih _ _ _ _ _ _ _ h
      · cases h
    | tuple fs =>
      rw [List.cons_append]
      rw [fol] at h ⊢
      split at h
      · rename_i x hx; exact ih _ _ _ _ _ _ _ h
      · cases h
    | uslice sz fs =>
      rw [List.cons_append]
      rw [fol.eq_def] at h ⊢
      simp only at h ⊢
      split at h
      · exact ih _ _ _ _ _ _ _ h
      · cases h
    | ubox x =>
      cases k with
      | zero =>
        rw [List.cons_append]
        rw [fol.eq_def] at h ⊢
        simp only at h ⊢
        split at h
        · exact ih _ _ _ _ _ _ _ h
        · cases h
      | succ k => rw [show fol w ((k + 1) :: q) (.ubox x) cs a = none from rfl] at h; cases h
    | _ => simp [fol] at h

end
end Go.Fw
