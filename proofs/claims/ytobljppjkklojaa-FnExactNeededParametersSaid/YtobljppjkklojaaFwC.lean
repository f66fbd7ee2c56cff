/- Part of a proof that a law returns true for every input. No condition. -/
import Derived.Test.YtobljppjkklojaaFwB
import Derived.Laws.Entries
namespace Go.Fw
inductive TK where
 | int (k : IntKind)
 | bool
 | str
 | ptr (e : TypeId)
 | slice (e : TypeId)
 | struct (fs : List (TypeId × Nat))
 | fn
 | other
structure TI where
 k : TK
 sz : Nat
 bytes : Nat
 zero : AV
-- The cells of a constant.
mutual
def flat : AV → Option (List Value)
 | .bool b => some [.bool b]
 | .int k n => some [.int k n]
 | .str s => some [.string ⟨⟨s⟩⟩]
 | .nilp => some [.pointer none]
 | .nils => some [.slice none 0 0]
 | .agg fs => flats fs
 | _ => none
def flats : List AV → Option (List Value)
 | [] => some []
 | d :: ds => match flat d, flats ds with
   | some a, some b => some (a ++ b)
   | _, _ => none
end
theorem RV.flat {w : World} {F : Nat → Prop} : ∀ n, (∀ (d : AV) (cs : List Value) (S : Nat → Prop), SizeOf.sizeOf d ≤ n → flat d = some cs → RV w F d cs S) ∧
  (∀ (ds : List AV) (cs : List Value) (S : Nat → Prop), SizeOf.sizeOf ds ≤ n → flats ds = some cs → RVs w F ds cs S) := by
 intro n
 induction n with
 | zero => exact ⟨fun d _ _ hz => by cases d <;> simp at hz <;> omega, fun ds _ _ hz => by cases ds <;> simp at hz <;> omega⟩
 | succ n ih =>
   refine ⟨fun d cs S hz h => ?_, fun ds cs S hz h => ?_⟩
   ·cases d with
    | agg fs => rw [RV]; exact ih.2 fs cs S (by simp at hz; omega) (by simpa [Fw.flat] using h)
    | bool b => simp [Fw.flat] at h; subst h; rw [RV]
    | int k n => simp [Fw.flat] at h; subst h; rw [RV]
    | str s => simp [Fw.flat] at h; subst h; rw [RV]
    | nilp => simp [Fw.flat] at h; subst h; rw [RV]
    | nils => simp [Fw.flat] at h; subst h; rw [RV]
    | _ => simp [Fw.flat] at h
   ·cases ds with
    | nil => simp [flats] at h; subst h; rw [RVs]
    | cons d ds =>
      simp only [flats] at h
      split at h
      ·rename_i a b ha hb
       simp at h; subst h
       simp at hz
       rw [RVs]
       exact ⟨a, b, fun _ => False, fun _ => False, rfl, ih.1 d a _ (by omega) ha, ih.2 ds b _ (by omega) hb, fun _ h => h.elim, fun _ h => h.elim, fun _ h => h.elim⟩
      ·cases h
def okDesc : TK → TypeDesc → Prop
 | .int k, .int k' => k = k'
 | .bool, .bool => True
 | .str, .string => True
 | .ptr e, .pointer e' => e = e'
 | .slice e, .slice e' => e = e'
 | .struct fs, .struct gs => gs.toList.map (fun g => (g.type, g.offset)) = fs
 | .fn, .func _ _ _ => True
 | _, _ => False
def okT (P : Program) (t : TypeId) (x : TI) : Prop :=
 (∃ e n b z, x = ⟨.other, e, n, b⟩ ∧ z = 0) ∨
 ∃ i d z, P.info? t = some i ∧ i.size = x.sz ∧ i.bytes = x.bytes ∧ i.zero = some z ∧ (∀ cs, flat x.zero = some cs → z.cells = cs.toArray) ∧ P.underlying t = some d ∧ okDesc x.k d
structure Cx where
 P : Program
 T : TypeId → TI
 M : FuncId → List Bool
structure Cx.Ok (C : Cx) : Prop where
 ty : ∀ t, okT C.P t (C.T t)
 mixed : C.P.follows .mixedOrders = true
inductive SX where
 | t (n : Nat)
 | c (av : AV)
 | f (g : FuncId)
def cav : Value → Option AV
 | .bool b => some (.bool b)
 | .int k n => some (.int k n)
 | .string s => some (.str s.data.toList)
 | .pointer none => some .nilp
 | .slice none 0 0 => some .nils
 | _ => none
def slimX : Operand → Option SX
 | .tmp n => some (.t n)
 | .const v => (cav v).map .c
 | .func g => some (.f g)
 | .global _ => none
def al (x : Nat) (d : AV) : AV := if d.plain then d else .h x []
def ev (s : St) : SX → AV
 | .t n => al n (s n)
 | .c av => av
 | .f g => .fn g []
theorem SV.nothing {w : World} {F : Nat → Prop} {s : St} {tm : Nat → Value} {d : AV} {v : Value} {S S' : Nat → Prop} (hp : d.plain = true) (h : SV w F s tm d v S) : SV w F s tm d v S' := by
 cases d <;> first
  | (rw [SV]; trivial)
  | (rw [SV] at h ⊢; exact h)
  | (have h' := (SV.of_tree rfl).1 h; exact (SV.of_tree rfl).2 ⟨h'.1, RV.plain _ _ _ _ hp h'.2⟩)
section
variable {w0 w : World} {F0 X F : Nat → Prop} {S : Nat → Nat → Prop} {s : St} {tm : Nat → Value} {a : Act}
theorem ev_plain (s : St) (x : SX) (hc : ∀ av, x = .c av → av.plain = true) : (ev s x).plain = true := by
 cases x with
 | t n => simp only [ev, al]; split <;> first | assumption | rfl
 | c av => exact hc _ rfl
 | f g => rfl
theorem cav_plain {v : Value} {av : AV} (h : cav v = some av) : av.plain = true := by
 unfold cav at h; split at h <;> simp at h <;> subst h <;> rfl
theorem ev_sv (h : RelX w0 F0 X F S s tm w) (htm : ∀ t, tm t = a.tmps.getD t undef) {o : Operand} {x : SX} (ho : slimX o = some x) :
  (ev s x).plain = true ∧ SV w F s tm (ev s x) (a.eval o) (fun _ => False) := by
 cases o with
 | tmp n =>
   simp [slimX] at ho; subst ho
   simp only [ev, al, Act.eval, ← htm]
   split
   ·rename_i hp; exact ⟨hp, SV.nothing hp (h.sv n)⟩
   ·rename_i hp
    refine ⟨rfl, ?_⟩
    rw [SV]
    intro d hd hpd
    simp only [AV.sub, Option.some.injEq] at hd; subst hd
    have ht := tree_of_sub (q := []) rfl (.inl hpd)
    exact ⟨_, none, rfl, rfl, ((SV.of_tree ht).1 (h.sv n)).1⟩
 | const v =>
   simp only [slimX, Option.map_eq_some_iff] at ho
   obtain ⟨av, hav, rfl⟩ := ho
   refine ⟨cav_plain hav, ?_⟩
   simp only [ev, Act.eval]
   unfold cav at hav
   split at hav <;> simp at hav <;> subst hav <;> rw [SV, RV] <;> exact ⟨rfl, rfl⟩
 | func g =>
   simp [slimX] at ho; subst ho
   refine ⟨rfl, ?_⟩
   simp only [ev, Act.eval]
   rw [SV]
   exact ⟨#[], rfl, by rw [SVs]⟩
 | global g => simp [slimX] at ho
def Val (w0 : World) (X F : Nat → Prop) (S : Nat → Nat → Prop) (s : St) (tm : Nat → Value) (w : World) (av : AV) (v : Value) : Prop :=
 (av.plain = true ∧ SV w F s tm av v (fun _ => False)) ∨
 (av.tree = true ∧ shp av v ∧ ∃ Sn, RV w F av (vc v) Sn ∧ (∀ b, Sn b → b < w.heap.size) ∧ (∀ b, Sn b → ¬ F b) ∧ (∀ u b, Sn b → ¬ S u b) ∧ (∀ b, Sn b → X b ∨ w0.heap.size ≤ b))
def fin (s : St) (dst : Option Nat) (av : AV) : St := match dst with
 | none => s
 | some t => if av.plain then upd s t av else upd (pgS t s) t av
def finT (tm : Nat → Value) (dst : Option Nat) (v : Value) : Nat → Value := match dst with
 | none => tm
 | some t => upd tm t v
theorem RelX.fin (h : RelX w0 F0 X F S s tm w) {av : AV} {v : Value} (hv : Val w0 X F S s tm w av v) (dst : Option Nat) :
  ∃ S', RelX w0 F0 X F S' (Fw.fin s dst av) (finT tm dst v) w := by
 cases dst with
 | none => exact ⟨S, h⟩
 | some t =>
   simp only [Fw.fin, finT]
   rcases hv with ⟨hp, hd⟩ | ⟨ht, hs, Sn, h1, h2, h3, h4, h5⟩
   ·rw [if_pos hp]; exact ⟨_, h.setP hp hd⟩
   ·split
    ·rename_i hp
     exact ⟨_, h.setP hp ((SV.of_tree ht).2 ⟨hs, RV.plain _ _ _ _ hp h1⟩)⟩
    ·exact ⟨_, h.setO ht hs h1 h2 h3 (fun u b _ hb => h4 u b hb) h5⟩
def tk (s : St) : AV → Option (AV × St)
 | .h x q => match AV.sub q (s x) with
   | some d => if d.plain then none else some (d, upd (pkS x s) x (AV.put q d.hollow (s x)))
   | none => none
 | .hp _ _ => none
 | .hb _ _ => none
 | .fn _ _ => none
 | .hole => none
 | d => some (d, s)
def AV.owner : AV → Option Nat
 | .h x _ => some x
 | _ => none
def pkO : Option Nat → AV → AV
 | some x, d => pk x d
 | none, d => d
theorem tk_sv (h : RelX w0 F0 X F S s tm w) {av d : AV} {s1 : St} {v : Value} (hav : av.plain = true) (hv : SV w F s tm av v (fun _ => False)) (ht : tk s av = some (d, s1)) :
  ∃ S1, RelX w0 F0 X F S1 s1 tm w ∧ d.tree = true ∧ shp d v ∧ ∃ Sn, RV w F d (vc v) Sn ∧ (∀ b, Sn b → b < w.heap.size) ∧ (∀ b, Sn b → ¬ F b) ∧ (∀ u b, Sn b → ¬ S1 u b) ∧ (∀ b, Sn b → X b ∨ w0.heap.size ≤ b) ∧
    (∀ u b, S1 u b → S u b) ∧ (∀ b, Sn b → ∃ u, S u b) ∧ (∀ (d' : AV) (v' : Value) (S' : Nat → Prop), SV w F s tm d' v' S' → SV w F s1 tm (pkO av.owner d') v' S') := by
 have tree : ∀ d : AV, d.tree = true → d.plain = true → SV w F s tm d v (fun _ => False) →
   ∃ S1, RelX w0 F0 X F S1 s tm w ∧ d.tree = true ∧ shp d v ∧ ∃ Sn, RV w F d (vc v) Sn ∧ (∀ b, Sn b → b < w.heap.size) ∧ (∀ b, Sn b → ¬ F b) ∧ (∀ u b, Sn b → ¬ S1 u b) ∧ (∀ b, Sn b → X b ∨ w0.heap.size ≤ b) ∧
     (∀ u b, S1 u b → S u b) ∧ (∀ b, Sn b → ∃ u, S u b) := by
  intro d hd _ h'
  have h' := (SV.of_tree hd).1 h'
  exact ⟨S, h, hd, h'.1, _, h'.2, fun _ h => h.elim, fun _ h => h.elim, fun _ _ h => h.elim, fun _ h => h.elim, fun _ _ h => h, fun _ h => h.elim⟩
 cases av with
 | h x q =>
   simp only [tk] at ht
   split at ht
   ·rename_i e he
    split at ht
    ·cases ht
    ·rename_i hp
     simp only [Option.some.injEq, Prod.mk.injEq] at ht
     obtain ⟨rfl, rfl⟩ := ht
     have hp : e.plain = false := by simpa using hp
     obtain ⟨Sn, Sd, dcs, a', r1, r2, r3, r4, r5, r6, r7⟩ := h.take he hp
     rw [SV] at hv
     obtain ⟨dcs2, a2, g1, g2, g3⟩ := hv e he hp
     rw [r2] at g1
     simp only [Option.some.injEq, Prod.mk.injEq, true_and] at g1
     obtain ⟨rfl, rfl⟩ := g1
     have hte : e.tree = true := by cases e <;> first | rfl | (simp [AV.plain] at hp)
     refine ⟨_, r1, hte, g3, Sd, by rw [g2]; exact r3, fun b hb => h.Slt x b (r4 b hb), fun b hb => h.SF x b (r4 b hb), ?_, fun b hb => h.S0 x b (r4 b hb), ?_, fun b hb => ⟨x, r4 b hb⟩, r7⟩
     ·intro u b hb hu
      simp only [updS] at hu
      split at hu
      ·exact r6 b hb hu
      ·rename_i hux; exact h.SS u x b hux hu (r4 b hb)
     ·intro u b hu
      simp only [updS] at hu
      split at hu
      ·rename_i e; subst e; exact r5 b hu
      ·exact hu
   ·cases ht
 | hp x q => simp [tk] at ht
 | hb x q => simp [tk] at ht
 | fn f c => simp [tk] at ht
 | hole => simp [tk] at ht
 | uslice sz xs => simp [AV.plain] at hav
 | ubox d => simp [AV.plain] at hav
 | _ =>
   simp only [tk, Option.some.injEq, Prod.mk.injEq] at ht
   obtain ⟨rfl, rfl⟩ := ht
   obtain ⟨S1, t1, t2, t3, Sn, t4, t5, t6, t7, t8, t9, t10⟩ := tree _ rfl hav hv
   exact ⟨S1, t1, t2, t3, Sn, t4, t5, t6, t7, t8, t9, t10, fun _ _ _ h => h⟩
def loc (s : St) : AV → Option (Nat × List Nat)
 | .h x q => match AV.sub q (s x) with
   | some (.ubox _) => some (x, q ++ [0])
   | _ => none
 | .hp x q => if AV.cross q (s x) then some (x, q) else none
 | _ => none
theorem sub_append : ∀ (q : List Nat) (av d : AV) (r : List Nat), AV.sub q av = some d → AV.sub (q ++ r) av = AV.sub r d := by
 intro q
 induction q with
 | nil => intro av d r h; simp [AV.sub] at h; subst h; rfl
 | cons k q ih =>
   intro av d r h
   cases av with
   | agg fs =>
     simp only [AV.sub, List.cons_append] at h ⊢
     split at h
     ·rename_i x hx; exact ih _ _ _ h
     ·cases h
   | tuple fs =>
     simp only [AV.sub, List.cons_append] at h ⊢
     split at h
     ·rename_i x hx; exact ih _ _ _ h
     ·cases h
   | uslice sz fs =>
     simp only [AV.sub, List.cons_append] at h ⊢
     split at h
     ·rename_i x hx; exact ih _ _ _ h
     ·cases h
   | ubox x =>
     cases k with
     | zero => simp only [AV.sub, List.cons_append] at h ⊢; exact ih _ _ _ h
     | succ k => simp [AV.sub] at h
   | _ => simp [AV.sub] at h
theorem cross_append : ∀ (q : List Nat) (av d : AV) (r : List Nat), AV.sub q av = some d → AV.cross (q ++ r) av = (AV.cross q av || AV.cross r d) := by
 intro q
 induction q with
 | nil => intro av d r h; simp [AV.sub] at h; subst h; simp [AV.cross]
 | cons k q ih =>
   intro av d r h
   cases av with
   | agg fs =>
     simp only [AV.sub] at h
     split at h
     ·rename_i x hx
      simp only [AV.cross, List.cons_append, hx]
      exact ih _ _ r h
     ·cases h
   | tuple fs =>
     simp only [AV.sub] at h
     split at h
     ·rename_i x hx
      simp only [AV.cross, List.cons_append, hx]
      exact ih _ _ r h
     ·cases h
   | uslice sz fs => simp [AV.cross]
   | ubox x => simp [AV.cross]
   | _ => simp [AV.sub] at h
theorem fol_append (w : World) : ∀ (q : List Nat) (av d : AV) (cs dcs : List Value) (a a' : Option (Nat × Nat)) (r : List Nat), fol w q av cs a = some (d, dcs, a') → fol w (q ++ r) av cs a = fol w r d dcs a' := by
 intro q
 induction q with
 | nil => intro av d cs dcs a a' r h; simp [fol] at h; obtain ⟨rfl, rfl, rfl⟩ := h; rfl
 | cons k q ih =>
   intro av d cs dcs a a' r h
   cases av with
   | agg fs =>
     rw [List.cons_append]
     rw [fol] at h ⊢
     split at h
     ·rename_i x hx; exact ih _ _ _ _ _ _ _ h
     ·cases h
   | tuple fs =>
     rw [List.cons_append]
     rw [fol] at h ⊢
     split at h
     ·rename_i x hx; exact ih _ _ _ _ _ _ _ h
     ·cases h
   | uslice sz fs =>
     rw [List.cons_append]
     rw [fol.eq_def] at h ⊢
     simp only at h ⊢
     split at h
     ·exact ih _ _ _ _ _ _ _ h
     ·cases h
   | ubox x =>
     cases k with
     | zero =>
       rw [List.cons_append]
       rw [fol.eq_def] at h ⊢
       simp only at h ⊢
       split at h
       ·exact ih _ _ _ _ _ _ _ h
       ·cases h
     | succ k => rw [show fol w ((k + 1) :: q) (.ubox x) cs a = none from rfl] at h; cases h
   | _ => simp [fol] at h
end
def TI.ok (x : TI) : Bool := match x.k with
 | .other => false
 | _ => true
theorem Cx.Ok.info {C : Cx} (hC : C.Ok) {t : TypeId} (h : (C.T t).ok = true) :
  ∃ i d z, C.P.info? t = some i ∧ i.size = (C.T t).sz ∧ i.bytes = (C.T t).bytes ∧ i.zero = some z ∧ (∀ cs, flat (C.T t).zero = some cs → z.cells = cs.toArray) ∧ C.P.underlying t = some d ∧ okDesc (C.T t).k d := by
 rcases hC.ty t with ⟨e, n, b, z, hx, _⟩ | h'
 ·rw [hx] at h; simp [TI.ok] at h
 ·exact h'
theorem ok_of_k {x : TI} {k : TK} (h : x.k = k) (hk : k ≠ .other) : x.ok = true := by
 unfold TI.ok; rw [h]; cases k <;> first | rfl | exact (hk rfl).elim
theorem desc_struct {d : TypeDesc} {fs : List (TypeId × Nat)} (h : okDesc (.struct fs) d) : ∃ gs, d = .struct gs ∧ gs.toList.map (fun g => (g.type, g.offset)) = fs := by
 cases d <;> simp [okDesc] at h
 exact ⟨_, rfl, h⟩
theorem desc_slice {d : TypeDesc} {e : TypeId} (h : okDesc (.slice e) d) : d = .slice e := by
 cases d <;> simp [okDesc] at h
 rw [h]
theorem desc_int {d : TypeDesc} {k : IntKind} (h : okDesc (.int k) d) : d = .int k := by
 cases d <;> simp [okDesc] at h
 rw [h]
theorem desc_str {d : TypeDesc} (h : okDesc .str d) : d = .string := by
 cases d <;> simp [okDesc] at h
 rfl
theorem desc_bool {d : TypeDesc} (h : okDesc .bool d) : d = .bool := by
 cases d <;> simp [okDesc] at h
 rfl
theorem desc_ptr {d : TypeDesc} {e : TypeId} (h : okDesc (.ptr e) d) : d = .pointer e := by
 cases d <;> simp [okDesc] at h
 rw [h]
theorem vc_one {v : Value} (h : Value.isOne v = true) : vc v = [v] := by
 cases v <;> first | rfl | (simp [Value.isOne] at h)
theorem run_typeInfo' {P : Program} {t : TypeId} {i : TypeInfo} (h : P.info? t = some i) (w : World) : (typeInfo t).run P w = .ok i w := by simp [typeInfo, h]
theorem run_sizeOf' {P : Program} {t : TypeId} {i : TypeInfo} (h : P.info? t = some i) (w : World) : (Go.sizeOf t).run P w = .ok i.size w := by simp [Go.sizeOf, run_typeInfo' h]
theorem run_zeroValue' {P : Program} {t : TypeId} {i : TypeInfo} {z : Value} (h : P.info? t = some i) (hz : i.zero = some z) (w : World) : (zeroValue t).run P w = .ok z w := by simp [zeroValue, run_typeInfo' h, hz]
section
variable {C : Cx} {w0 w : World} {F0 X F : Nat → Prop} {S : Nat → Nat → Prop} {s s1 : St} {tm : Nat → Value} {av : AV}
def Good (C : Cx) (w0 : World) (F0 X : Nat → Prop) (tm : Nat → Value) (w : World) (m : Sem Value) (av : AV) (s1 : St) : Prop :=
 ∃ v w' F' S', m.run C.P w = .ok v w' ∧ RelX w0 F0 X F' S' s1 tm w' ∧ Val w0 X F' S' s1 tm w' av v
theorem Good.same (h : RelX w0 F0 X F S s tm w) {m : Sem Value} {v : Value} (hr : m.run C.P w = .ok v w) (hp : av.plain = true) (hv : SV w F s tm av v (fun _ => False)) : Good C w0 F0 X tm w m av s :=
 ⟨v, w, F, S, hr, h, .inl ⟨hp, hv⟩⟩
theorem loc_sv (_h : RelX w0 F0 X F S s tm w) {x : AV} {v : Value} (hv : SV w F s tm x v (fun _ => False)) {y : Nat} {q : List Nat} (hl : loc s x = some (y, q)) {d : AV} (hd : AV.sub q (s y) = some d) :
  AV.cross q (s y) = true ∧ ∃ dcs b o, v = .pointer (some ⟨b, o, none⟩) ∧ fol w q (s y) (vc (tm y)) none = some (d, dcs, some (b, o)) := by
 cases x with
 | h z q0 =>
   simp only [loc] at hl
   split at hl
   ·rename_i e he
    simp only [Option.some.injEq, Prod.mk.injEq] at hl
    obtain ⟨rfl, rfl⟩ := hl
    rw [SV] at hv
    obtain ⟨dcs, a, g1, g2, g3⟩ := hv _ he rfl
    have hd' : e = d := by
     rw [sub_append _ _ _ _ he] at hd
     simpa [AV.sub] using hd
    subst hd'
    refine ⟨by rw [cross_append _ _ _ _ he]; simp [AV.cross], ?_⟩
    have h1 : Value.isOne v = true := g3
    rw [vc_one h1] at g2
    subst g2
    have hfol := fol_append w q0 (s z) _ _ _ none a [0] g1
    -- the pointer's own form
    have hx := _h.sv z
    rw [SV.of_tree (tree_of_sub he (.inl rfl))] at hx
    obtain ⟨dcs', a', Sc, Sd, k0, k1, k2, k3, k4, k5⟩ := ctx q0 (s z) (vc (tm z)) (S z) none _ hx.2 he
    rw [k0] at g1
    simp only [Option.some.injEq, Prod.mk.injEq, true_and] at g1
    obtain ⟨rfl, rfl⟩ := g1
    rw [RV] at k4
    obtain ⟨b, cur, e2, fr, S2, e3, _⟩ := k4
    simp only [List.cons.injEq, and_true] at e3
    subst e3
    exact ⟨_, b, 0, rfl, by rw [hfol]; rfl⟩
   ·cases hl
 | hp z q0 =>
   simp only [loc] at hl
   split at hl
   ·rename_i hc
    simp only [Option.some.injEq, Prod.mk.injEq] at hl
    obtain ⟨rfl, rfl⟩ := hl
    rw [SV] at hv
    obtain ⟨dcs, b, o, g1, g2⟩ := hv _ hd hc
    exact ⟨hc, dcs, b, o, g2, g1⟩
   ·cases hl
 | _ => simp [loc] at hl
def fa (C : Cx) (s : St) (T : TypeId) (x : AV) (k : Nat) : Option AV :=
 match (C.T T).k with
 | .struct fs => match fs[k]? with
   | some (ft, off) => if (C.T ft).ok = true ∧ (C.T ft).sz ≠ 0 then
     match x with
     | .ref (.agg ds) => match ds[k]? with
       | some d => if AV.wds (ds.take k) = off then some (.ref d) else none
       | none => none
     | .hb y o => if (s y).plain then none else some (.hb y (o + off))
     | x => match loc s x with
       | some (y, q) => match AV.sub q (s y) with
         | some (.agg ds) => if k < ds.length ∧ AV.wds (ds.take k) = off then some (.hp y (q ++ [k])) else none
         | _ => none
       | none => none
     else none
   | none => none
 | _ => none
theorem Rd.seg {w : World} {b o : Nat} {c1 ck c2 : List Value} (h : Rd w b o (c1 ++ (ck ++ c2))) : Rd w b (o + c1.length) ck := by
 intro j c hj
 have hlt : j < ck.length := (List.getElem?_eq_some_iff.1 hj).1
 have := h (c1.length + j) c (by rw [List.getElem?_append_right (by omega), List.getElem?_append_left (by omega), ← hj]; congr 1; omega)
 rw [Nat.add_assoc]; exact this
theorem run_fieldAt (hC : C.Ok) {T ft : TypeId} {fs : List (TypeId × Nat)} {k off : Nat} (hk : (C.T T).k = .struct fs) (hf : fs[k]? = some (ft, off)) (h1 : (C.T ft).ok = true) (h2 : (C.T ft).sz ≠ 0) (b o : Nat) (w : World) :
  (Instr.fieldAt T (.pointer (some ⟨b, o, none⟩)) k).run C.P w = .ok (.pointer (some ⟨b, o + off, none⟩)) w := by
 obtain ⟨i, d, z, e1, e2, e3, e4, e5, e6, e7⟩ := hC.info (ok_of_k hk (by simp))
 rw [hk] at e7
 obtain ⟨gs, rfl, e8⟩ := desc_struct e7
 obtain ⟨i', d', z', f1, f2, f3, f4, f5, f6, f7⟩ := hC.info h1
 have hg : ∃ g, gs[k]? = some g ∧ g.type = ft ∧ g.offset = off := by
  rw [← e8, List.getElem?_map] at hf
  simp only [Option.map_eq_some_iff, Prod.mk.injEq] at hf
  obtain ⟨g, h1, h2, h3⟩ := hf
  exact ⟨g, by simpa using h1, h2, h3⟩
 obtain ⟨g, g1, rfl, rfl⟩ := hg
 simp [Instr.fieldAt, run_underlying e6, g1, Instr.sureAddr, fieldPlace, run_sizeOf' f1, f2, h2, Addr.add_lit]
theorem fa_good (hC : C.Ok) (h : RelX w0 F0 X F S s tm w) {T : TypeId} {x : AV} {v : Value} {k : Nat} (hx : x.plain = true) (hv : SV w F s tm x v (fun _ => False)) (he : fa C s T x k = some av) :
  Good C w0 F0 X tm w (Instr.fieldAt T v k) av s := by
 unfold fa at he
 split at he
 ·rename_i fs hk
  split at he
  ·rename_i ft off hf
   split at he
   ·rename_i hft
    split at he
    ·rename_i ds
     split at he
     ·rename_i d hd
      split at he
      ·rename_i hoff
       simp only [Option.some.injEq] at he; subst he
       have hv' := (SV.of_tree rfl).1 hv
       rw [RV] at hv'
       obtain ⟨hs, b, o, ecs, h1, h2, h3, h4⟩ := hv'
       rw [vc_one hs] at h1
       simp only [List.cons.injEq, and_true] at h1; subst h1
       rw [RV] at h4
       obtain ⟨c1, ck, c2, S1, Sk, rfl, p0, p1, p2, p3, p5, p6⟩ := RVs.pick ds _ _ k d h4 hd
       refine Good.same h (run_fieldAt hC hk hf hft.1 hft.2 b o w) rfl ((SV.of_tree rfl).2 ⟨rfl, ?_⟩)
       rw [RV]
       refine ⟨b, o + off, ck, rfl, h2, ?_, RV.mono (fun _ h => h) _ _ _ _ (fun b hb => p2 b hb) p5⟩
       rw [← hoff, ← p0]; exact h3.seg
      ·cases he
     ·cases he
    ·rename_i y o
     split at he
     ·cases he
     ·rename_i hp
      simp only [Option.some.injEq] at he; subst he
      rw [SV] at hv
      obtain ⟨b, cur, e, fr, rfl, h2, h3, h4⟩ := hv (by simpa using hp)
      refine Good.same h (run_fieldAt hC hk hf hft.1 hft.2 b o w) rfl ?_
      rw [SV]
      exact fun _ => ⟨b, cur, e, fr, rfl, h2, h3, h4⟩
    ·rename_i x _ _
     split at he
     ·rename_i y q hl
      split at he
      ·rename_i ds hd
       split at he
       ·rename_i hoff
        simp only [Option.some.injEq] at he; subst he
        obtain ⟨hc, dcs, b, o, rfl, hfol⟩ := loc_sv h hv hl hd
        refine Good.same h (run_fieldAt hC hk hf hft.1 hft.2 b o w) rfl ?_
        rw [SV]
        intro d2 hd2 hc2
        rw [fol_append w q _ _ _ _ _ _ [k] hfol]
        rw [sub_append _ _ _ _ hd] at hd2
        have hk2 : ∃ d3, ds[k]? = some d3 := ⟨_, List.getElem?_eq_getElem hoff.1⟩
        obtain ⟨d3, hk3⟩ := hk2
        simp only [AV.sub, hk3, Option.some.injEq] at hd2
        subst hd2
        simp only [fol, hk3]
        refine ⟨(dcs.drop off).take d3.wd, b, o + off, ?_, rfl⟩
        rw [hoff.2]; rfl
       ·cases he
      ·cases he
     ·cases he
   ·cases he
  ·cases he
 ·cases he
def ia (C : Cx) (s : St) (T : TypeId) (x i : AV) : Option AV :=
 match (C.T T).k, i with
 | .slice e, .int _ n => if 0 ≤ n ∧ (C.T e).ok = true then
   match x with
   | .slice xs => match xs[n.toNat]? with
     | some d => if d.wd = (C.T e).sz then some (.ref d) else none
     | none => none
   | .h y q => match AV.sub q (s y) with
     | some (.uslice sz xs) => if n.toNat < xs.length ∧ sz = (C.T e).sz then some (.hp y (q ++ [n.toNat])) else none
     | _ => none
   | _ => none
   else none
 | _, _ => none
theorem run_indexAt' (hC : C.Ok) {T e : TypeId} (hk : (C.T T).k = .slice e) (he : (C.T e).ok = true) (b o len cap : Nat) (k : IntKind) (n : Nat) (hn : n < len) (w : World) :
  (Instr.indexAt T (.slice (some ⟨b, o, none⟩) len cap) (.int k n)).run C.P w = .ok (.pointer (some ⟨b, o + n * (C.T e).sz, none⟩)) w := by
 obtain ⟨i, d, z, e1, e2, e3, e4, e5, e6, e7⟩ := hC.info (ok_of_k hk (by simp))
 rw [hk] at e7
 have := desc_slice e7; subst this
 obtain ⟨i', d', z', f1, f2, f3, f4, f5, f6, f7⟩ := hC.info he
 simp [Instr.indexAt, run_underlying e6, asIntOf, hn, run_sizeOf' f1, f2, Addr.add_lit]
theorem ia_good (hC : C.Ok) (h : RelX w0 F0 X F S s tm w) {T : TypeId} {x i : AV} {v vi : Value} (hv : SV w F s tm x v (fun _ => False)) (hvi : SV w F s tm i vi (fun _ => False))
  (he : ia C s T x i = some av) : Good C w0 F0 X tm w (Instr.indexAt T v vi) av s := by
 unfold ia at he
 split at he
 ·rename_i e k n hk
  have hvi' := (SV.of_tree rfl).1 hvi
  rw [RV, vc_one hvi'.1] at hvi'
  have : vi = .int k n := by simpa using hvi'.2
  subst this
  split at he
  ·rename_i hn
   obtain ⟨n, rfl⟩ := Int.eq_ofNat_of_zero_le hn.1
   simp only [Int.toNat_natCast] at he
   split at he
   ·rename_i xs
    split at he
    ·rename_i d hd
     split at he
     ·rename_i hw
      simp only [Option.some.injEq] at he; subst he
      have hv' := (SV.of_tree rfl).1 hv
      rw [RV, vc_one hv'.1] at hv'
      obtain ⟨hs, ⟨rfl, _⟩ | ⟨b, o, cap, ecs, sz, h1, h2, h3, h4, h5, h6, h7⟩⟩ := hv'
      ·simp at hd
      ·simp only [List.cons.injEq, and_true] at h1; subst h1
       have hlt : n < xs.length := (List.getElem?_eq_some_iff.1 hd).1
       obtain ⟨c1, ck, c2, S1, Sk, rfl, p0, p1, p2, p3, p5, p6⟩ := RVs.pick xs _ _ n d h7 hd
       refine Good.same h (run_indexAt' hC hk hn.2 b o _ _ k n hlt w) rfl ((SV.of_tree rfl).2 ⟨rfl, ?_⟩)
       rw [RV]
       refine ⟨b, _, ck, rfl, h2, ?_, RV.mono (fun _ h => h) _ _ _ _ (fun b hb => p2 b hb) p5⟩
       have hdsz := h5 d (List.mem_of_getElem? hd)
       have : n * (C.T e).sz = c1.length := by
        rw [p0, wds_uniform _ (fun d hd => h5 d (List.mem_of_mem_take hd)), List.length_take, Nat.min_eq_left (by omega), ← hw, hdsz]
       rw [this]; exact h6.seg
     ·cases he
    ·cases he
   ·rename_i y q
    split at he
    ·rename_i sz xs hd
     split at he
     ·rename_i hw
      simp only [Option.some.injEq] at he; subst he
      rw [SV] at hv
      obtain ⟨dcs, a, g1, g2, g3⟩ := hv _ hd rfl
      have hs : Value.isOne v = true := g3
      rw [vc_one hs] at g2; subst g2
      -- the slice's own form
      have hx := h.sv y
      rw [SV.of_tree (tree_of_sub hd (.inl rfl))] at hx
      obtain ⟨dcs', a', Sc, Sd, k0, k1, k2, k3, k4, k5⟩ := ctx q (s y) (vc (tm y)) (S y) none _ hx.2 hd
      rw [k0] at g1
      simp only [Option.some.injEq, Prod.mk.injEq, true_and] at g1
      obtain ⟨rfl, rfl⟩ := g1
      rw [RV] at k4
      rcases k4 with ⟨rfl, _⟩ | ⟨b, cap, cur, e2, fr, S2, e3, _⟩
      ·simp at hw
      ·simp only [List.cons.injEq, and_true] at e3; subst e3
       refine Good.same h (run_indexAt' hC hk hn.2 b 0 _ _ k n hw.1 w) rfl ?_
       rw [SV]
       intro d2 hd2 _
       rw [fol_append w q _ _ _ _ _ _ [n] k0]
       rw [sub_append _ _ _ _ hd] at hd2
       obtain ⟨d3, hk3⟩ : ∃ d3, xs[n]? = some d3 := ⟨_, List.getElem?_eq_getElem hw.1⟩
       simp only [AV.sub, hk3, Option.some.injEq] at hd2
       subst hd2
       simp only [fol, hk3]
       exact ⟨_, b, n * sz, rfl, by simp [hw.2]⟩
     ·cases he
    ·cases he
   ·cases he
  ·cases he
 ·cases he
end
section
variable {C : Cx} {w0 w : World} {F0 X F : Nat → Prop} {S : Nat → Nat → Prop} {s s1 : St} {tm : Nat → Value} {av : AV}
theorem isAgg_struct (hC : C.Ok) {T : TypeId} {fs : List (TypeId × Nat)} (hk : (C.T T).k = .struct fs) (w : World) : (isAgg T).run C.P w = .ok true w := by
 obtain ⟨i, d, z, e1, e2, e3, e4, e5, e6, e7⟩ := hC.info (ok_of_k hk (by simp))
 rw [hk] at e7
 obtain ⟨gs, rfl, _⟩ := desc_struct e7
 simp [isAgg, run_underlying e6]
def TI.flat (x : TI) : Bool := match x.k with
 | .other => false
 | .struct _ => false
 | _ => true
theorem ok_of_flat {x : TI} (h : x.flat = true) : x.ok = true := by
 unfold TI.flat at h; unfold TI.ok; revert h; cases x.k <;> simp
theorem isAgg_flat (hC : C.Ok) {T : TypeId} (hk : (C.T T).flat = true) (w : World) : (isAgg T).run C.P w = .ok false w := by
 obtain ⟨i, d, z, e1, e2, e3, e4, e5, e6, e7⟩ := hC.info (ok_of_flat hk)
 have hne : (∀ fs, d ≠ .struct fs) ∧ (∀ n e, d ≠ .array n e) := by
  clear e6
  unfold TI.flat at hk
  generalize (C.T T).k = kk at *
  cases kk <;> cases d <;> simp [okDesc] at e7 hk ⊢
 cases d <;> first | exact (hne.1 _ rfl).elim | exact (hne.2 _ _ rfl).elim | simp [isAgg, run_underlying e6]
theorem Rd.one {w : World} {b o : Nat} {v : Value} (h : Rd w b o [v]) : w.cell? ⟨b, o, none⟩ = some v := by simpa using h 0 v rfl
theorem run_loadCellsFrom' {P : Program} {b o : Nat} : ∀ (cs : List Value) (i : Nat) (acc : Array Value), Rd w b (o + i) cs → (loadCellsFrom ⟨b, o, none⟩ i cs.length acc).run P w = .ok (acc ++ cs.toArray) w
 | [], i, acc, _ => by simp [loadCellsFrom]
 | c :: cs, i, acc, h => by
   have h0 : w.cell? ⟨b, o + i, none⟩ = some c := by simpa using h 0 c rfl
   have h1 : Rd w b (o + (i + 1)) cs := by
    intro j x hj
    have := h (j + 1) x (by simpa using hj)
    rw [← this]; congr 2; omega
   have ih := run_loadCellsFrom' (P := P) cs (i + 1) (acc.push c) h1
   simp only [List.length_cons, loadCellsFrom, Sem.run_bind, Go.load, Sem.run, Addr.add_lit, h0, Result.andThen]
   rw [ih]; simp
theorem run_loadVar_struct (hC : C.Ok) {T : TypeId} {fs : List (TypeId × Nat)} (hk : (C.T T).k = .struct fs) {b o : Nat} {cs : List Value} (h : Rd w b o cs) (hl : cs.length = (C.T T).sz) :
  (loadVar T ⟨b, o, none⟩).run C.P w = .ok (.agg cs.toArray) w := by
 obtain ⟨i, d, z, e1, e2, e3, e4, e5, e6, e7⟩ := hC.info (ok_of_k hk (by simp))
 have := run_loadCellsFrom' (P := C.P) (b := b) (o := o) cs 0 #[] (by simpa using h)
 simp only [loadVar, Sem.run_bind, isAgg_struct hC hk, Result.andThen, if_true, run_sizeOf' e1, e2, ← hl, loadCells, this]
 simp
theorem run_loadVar_flat (hC : C.Ok) {T : TypeId} (hk : (C.T T).flat = true) {b o : Nat} {v : Value} (h : Rd w b o [v]) :
  (loadVar T ⟨b, o, none⟩).run C.P w = .ok v w := by
 simp [loadVar, isAgg_flat hC hk, Go.load, Sem.run, h.one]
def fits (C : Cx) (T : TypeId) (d : AV) : Bool := match (C.T T).k, d with
    | .struct _, .agg ds => AV.wds ds == (C.T T).sz
    | .struct _, _ => false
    | _, .agg _ => false
    | _, .tuple _ => false
    | _, _ => (C.T T).flat
def fldI : List AV → Nat → Nat → Option Nat
 | [], _, _ => none
 | d :: ds, i, k => if k = 0 then some i else if d.wd ≤ k then fldI ds (i + 1) (k - d.wd) else none
def ld (C : Cx) (s : St) (T : TypeId) (x : AV) : Option AV :=
 match x with
 | .ref d => if fits C T d = true then some d else none
 | .hb y k => match s y with
   | .agg ds => if AV.plains ds then none else match fldI ds 0 k with
     | some i => match ds[i]? with
       | some d => if AV.wds (ds.take i) = k ∧ fits C T d = true then some (if d.plain then d else .h y [i]) else none
       | none => none
     | none => none
   | _ => none
 | x => match loc s x with
   | some (y, q) => match AV.sub q (s y) with
     | some d => if fits C T d = true then some (if d.plain then d else .h y q) else none
     | none => none
   | none => none
theorem RV.one {F : Nat → Prop} {d : AV} {cs : List Value} {S : Nat → Prop} (h : RV w F d cs S) (h1 : ∀ fs, d ≠ .agg fs) (h2 : ∀ fs, d ≠ .tuple fs) : ∃ v, cs = [v] ∧ Value.isOne v = true := by
 cases d with
 | hole => rw [RV] at h; obtain ⟨v, h, rfl⟩ := h; exact ⟨v, rfl, h⟩
 | anyb => rw [RV] at h; obtain ⟨v, rfl⟩ := h; exact ⟨_, rfl, rfl⟩
 | slice xs => rw [RV] at h; rcases h with ⟨_, a, c, rfl, _⟩ | ⟨b, o, cap, ecs, sz, rfl, _⟩ <;> exact ⟨_, rfl, rfl⟩
 | uslice sz xs => rw [RV] at h; rcases h with ⟨_, _, rfl⟩ | ⟨b, cap, cur, e, fr, S0, rfl, _⟩ <;> exact ⟨_, rfl, rfl⟩
 | ref d => rw [RV] at h; obtain ⟨b, o, ecs, rfl, _⟩ := h; exact ⟨_, rfl, rfl⟩
 | ubox d => rw [RV] at h; obtain ⟨b, cur, e, fr, S0, rfl, _⟩ := h; exact ⟨_, rfl, rfl⟩
 | agg fs => exact (h1 _ rfl).elim
 | tuple fs => exact (h2 _ rfl).elim
 | fn _ _ => rw [RV] at h; exact h.elim
 | h _ _ => rw [RV] at h; exact h.elim
 | hp _ _ => rw [RV] at h; exact h.elim
 | hb _ _ => rw [RV] at h; exact h.elim
 | _ => rw [RV] at h; subst h; exact ⟨_, rfl, rfl⟩
theorem run_load_any (hC : C.Ok) {T : TypeId} {d : AV} {b o : Nat} {cs : List Value} {S : Nat → Prop} (h : Rd w b o cs) (hd : RV w F d cs S)
  (hfit : fits C T d = true) :
  ∃ v, (loadVar T ⟨b, o, none⟩).run C.P w = .ok v w ∧ vc v = cs ∧ shp d v := by
 unfold fits at hfit
 by_cases hs : ∃ fs, (C.T T).k = .struct fs
 ·obtain ⟨fs, hk⟩ := hs
  rw [hk] at hfit
  cases d with
  | agg ds =>
    simp only [beq_iff_eq] at hfit
    refine ⟨_, run_loadVar_struct hC hk h ((RV.length _ _ _ hd).trans hfit), rfl, ⟨_, rfl⟩⟩
  | _ => simp at hfit
 ·have hfl : (C.T T).flat = true ∧ (∀ fs, d ≠ .agg fs) ∧ (∀ fs, d ≠ .tuple fs) := by
   revert hfit hs
   cases hk : (C.T T).k <;> cases d <;> simp
  obtain ⟨v, rfl, h1⟩ := RV.one hd hfl.2.1 hfl.2.2
  refine ⟨v, run_loadVar_flat hC hfl.1 h, vc_one h1, ?_⟩
  cases d <;> first | exact h1 | exact (hfl.2.1 _ rfl).elim | exact (hfl.2.2 _ rfl).elim
theorem ld_good (hC : C.Ok) (h : RelX w0 F0 X F S s tm w) {T : TypeId} {x : AV} {v : Value} (hv : SV w F s tm x v (fun _ => False)) (he : ld C s T x = some av) :
  Good C w0 F0 X tm w (Instr.loadAt T v) av s := by
 unfold ld at he
 split at he
 ·rename_i d
  split at he
  ·rename_i hfit
   simp only [Option.some.injEq] at he; subst he
   have hv' := (SV.of_tree rfl).1 hv
   rw [RV, vc_one hv'.1] at hv'
   obtain ⟨hs, b, o, ecs, h1, h2, h3, h4⟩ := hv'
   simp only [List.cons.injEq, and_true] at h1; subst h1
   obtain ⟨v', hr, hc, hsh⟩ := run_load_any hC h3 h4 hfit
   have hr' : (Instr.loadAt T (.pointer (some ⟨b, o, none⟩))).run C.P w = .ok v' w := by simp [Instr.loadAt, Instr.sureAddr, hr]
   refine ⟨v', w, F, S, hr', h, ?_⟩
   by_cases ht : d.tree = true
   ·exact .inr ⟨ht, hsh, fun _ => False, by rw [hc]; exact h4, fun _ h => h.elim, fun _ h => h.elim, fun _ _ h => h.elim, fun _ h => h.elim⟩
   ·cases d <;> first | exact (ht rfl).elim | (rw [RV] at h4; exact h4.elim) | exact .inl ⟨rfl, by rw [SV]; trivial⟩
  ·cases he
 ·rename_i y k
  split at he
  ·rename_i ds hsy
   split at he
   ·cases he
   ·rename_i hnp
    split at he
    ·rename_i i hi
     split at he
     ·rename_i d hd
      split at he
      ·rename_i hfit
       simp only [Option.some.injEq] at he
       have hpl : (s y).plain = false := by rw [hsy]; simp only [AV.plain]; simpa using hnp
       rw [SV] at hv
       obtain ⟨b, cur, e, fr, rfl, h2, h3, h4⟩ := hv hpl
       have hy := h.sv y
       rw [hsy] at hy
       have hy2 := ((SV.of_tree rfl).1 hy).2
       rw [RV] at hy2
       obtain ⟨c1, ck, c2, S1, Sk, hcs, p0, p1, p2, p3, p5, p6⟩ := RVs.pick ds _ _ i d hy2 hd
       have hrd : Rd w b k ck := by
        intro j c hj
        have hlt : j < ck.length := (List.getElem?_eq_some_iff.1 hj).1
        have : cur.toList[k + j]? = some c := by
         rw [h4, hcs, List.getElem?_append_right (by omega), List.getElem?_append_left (by omega), ← hj]; congr 1; omega
        simp [World.cell?, h3]
        simpa using this
       obtain ⟨v', hr, hc, hsh⟩ := run_load_any hC hrd p5 hfit.2
       have hr' : (Instr.loadAt T (.pointer (some ⟨b, k, none⟩))).run C.P w = .ok v' w := by simp [Instr.loadAt, Instr.sureAddr, hr]
       refine ⟨v', w, F, S, hr', h, ?_⟩
       split at he
       ·rename_i hp
        subst he
        by_cases ht : d.tree = true
        ·exact .inl ⟨hp, (SV.of_tree ht).2 ⟨hsh, by rw [hc]; exact RV.plain _ _ _ _ hp p5⟩⟩
        ·cases d <;> first | exact (ht rfl).elim | (rw [RV] at p5; exact p5.elim) | exact .inl ⟨rfl, by rw [SV]; trivial⟩
       ·subst he
        refine .inl ⟨rfl, ?_⟩
        rw [SV]
        intro d2 hd2 _
        rw [hsy] at hd2 ⊢
        simp only [AV.sub, hd, Option.some.injEq] at hd2
        subst hd2
        refine ⟨ck, none, ?_, hc, hsh⟩
        simp only [fol, hd]
        rw [hcs, seg_eq c1 ck c2 _ _ p0 (RV.length _ _ _ p5)]
        rfl
      ·cases he
     ·cases he
    ·cases he
  ·cases he
 ·rename_i x _ _
  split at he
  ·rename_i y q hl
   split at he
   ·rename_i d hd
    split at he
    ·rename_i hfit
     simp only [Option.some.injEq] at he
     obtain ⟨hcr, dcs, b, o, rfl, hfol⟩ := loc_sv h hv hl hd
     have hy := h.sv y
     rw [SV.of_tree (tree_of_sub hd (.inr hcr))] at hy
     obtain ⟨dcs', a', Sc, Sd, k0, k1, k2, k3, k4, k5⟩ := ctx q (s y) (vc (tm y)) (S y) none _ hy.2 hd
     rw [k0] at hfol
     simp only [Option.some.injEq, Prod.mk.injEq, true_and] at hfol
     obtain ⟨rfl, rfl⟩ := hfol
     have hrd : Rd w b o dcs' := by
      rcases k5 with ⟨l, r, e1, e2, _⟩ | ⟨b', cur, e, fr, l, r, e1, e2, e3, e4, e5, _⟩
      ·simp at e2
      ·simp only [Option.some.injEq, Prod.mk.injEq] at e1
       obtain ⟨rfl, rfl⟩ := e1
       intro j c hj
       have hlt : j < dcs'.length := (List.getElem?_eq_some_iff.1 hj).1
       have : cur.toList[l.length + j]? = some c := by
        rw [e5, List.getElem?_append_right (by omega), List.getElem?_append_left (by omega), ← hj]; congr 1; omega
       simp [World.cell?, e3]
       simpa using this
     obtain ⟨v', hr, hc, hsh⟩ := run_load_any hC hrd k4 hfit
     have hr' : (Instr.loadAt T (.pointer (some ⟨b, o, none⟩))).run C.P w = .ok v' w := by simp [Instr.loadAt, Instr.sureAddr, hr]
     refine ⟨v', w, F, S, hr', h, ?_⟩
     split at he
     ·rename_i hp
      subst he
      by_cases ht : d.tree = true
      ·exact .inl ⟨hp, (SV.of_tree ht).2 ⟨hsh, by rw [hc]; exact RV.plain _ _ _ _ hp k4⟩⟩
      ·cases d <;> first | exact (ht rfl).elim | (rw [RV] at k4; exact k4.elim) | exact .inl ⟨rfl, by rw [SV]; trivial⟩
     ·subst he
      refine .inl ⟨rfl, ?_⟩
      rw [SV]
      intro d2 hd2 _
      rw [hd] at hd2
      simp only [Option.some.injEq] at hd2
      subst hd2
      exact ⟨_, _, k0, hc, hsh⟩
    ·cases he
   ·cases he
  ·cases he
mutual
theorem RV.ones {F : Nat → Prop} : ∀ (d : AV) (cs : List Value) (S : Nat → Prop), RV w F d cs S → ∀ c ∈ cs, Value.isOne c = true
 | .hole, cs, S, h => by rw [RV] at h; obtain ⟨v, h, rfl⟩ := h; simpa using h
 | .bool _, cs, S, h => by rw [RV] at h; subst h; simp [Value.isOne]
 | .anyb, cs, S, h => by rw [RV] at h; obtain ⟨b, rfl⟩ := h; simp [Value.isOne]
 | .int _ _, cs, S, h => by rw [RV] at h; subst h; simp [Value.isOne]
 | .str _, cs, S, h => by rw [RV] at h; subst h; simp [Value.isOne]
 | .nilp, cs, S, h => by rw [RV] at h; subst h; simp [Value.isOne]
 | .nils, cs, S, h => by rw [RV] at h; subst h; simp [Value.isOne]
 | .slice xs, cs, S, h => by
   rw [RV] at h
   rcases h with ⟨_, a, c, rfl, _⟩ | ⟨b, o, cap, ecs, sz, rfl, _⟩ <;> simp [Value.isOne]
 | .uslice sz xs, cs, S, h => by
   rw [RV] at h
   rcases h with ⟨_, _, rfl⟩ | ⟨b, cap, cur, e, fr, S', rfl, _⟩ <;> simp [Value.isOne]
 | .ref d, cs, S, h => by rw [RV] at h; obtain ⟨b, o, ecs, rfl, _⟩ := h; simp [Value.isOne]
 | .ubox d, cs, S, h => by rw [RV] at h; obtain ⟨b, o, ecs, _, _, rfl, _⟩ := h; simp [Value.isOne]
 | .agg fs, cs, S, h => by rw [RV] at h; exact RVs.ones fs _ _ h
 | .tuple fs, cs, S, h => by rw [RV] at h; exact RVs.ones fs _ _ h
 | .fn _ _, cs, S, h => by rw [RV] at h; exact h.elim
 | .h _ _, cs, S, h => by rw [RV] at h; exact h.elim
 | .hp _ _, cs, S, h => by rw [RV] at h; exact h.elim
 | .hb _ _, cs, S, h => by rw [RV] at h; exact h.elim
theorem RVs.ones {F : Nat → Prop} : ∀ (ds : List AV) (cs : List Value) (S : Nat → Prop), RVs w F ds cs S → ∀ c ∈ cs, Value.isOne c = true
 | [], cs, S, h => by rw [RVs] at h; subst h; simp
 | d :: ds, cs, S, h => by
   rw [RVs] at h
   obtain ⟨c1, c2, S1, S2, rfl, h2, h3, _⟩ := h
   intro c hc
   rcases List.mem_append.1 hc with hc | hc
   ·exact RV.ones d _ _ h2 c hc
   ·exact RVs.ones ds _ _ h3 c hc
end
theorem run_storeCells' {P : Program} {b o : Nat} {e : TypeId} {fr : Nat × Nat} : ∀ (vs : List Value) (i : Nat) (cur : Array Value) (w : World) (l m r : List Value), w.heap[b]? = some (.cells cur e fr) → nofrz fr cur.size →
  cur.toList = l ++ (m ++ r) → l.length = o + i → m.length = vs.length → (∀ v ∈ vs, Value.isOne v = true) →
  ∃ w', (storeCells ⟨b, o, none⟩ vs i).run P w = .ok () w' ∧ w'.heap[b]? = some (.cells (l ++ (vs ++ r)).toArray e fr) ∧ (∀ c, c ≠ b → w'.heap[c]? = w.heap[c]?) ∧ w'.heap.size = w.heap.size ∧ w'.os = w.os ∧ w'.tape = w.tape ∧ w'.output = w.output
 | [], i, cur, w, l, m, r, hb, hf, hc, hl, hm, _ => by
   refine ⟨w, rfl, ?_, fun _ _ => rfl, rfl, rfl, rfl, rfl⟩
   have : m = [] := by simpa using hm
   subst this
   rw [hb]
   have : cur = (l ++ ([] ++ r)).toArray := by rw [← hc]
   rw [← this]
 | v :: vs, i, cur, w, l, m, r, hb, hf, hc, hl, hm, hone => by
   obtain ⟨x, m, rfl⟩ : ∃ x m', m = x :: m' := by cases m with
    | nil => simp at hm
    | cons x m => exact ⟨x, m, rfl⟩
   have hlen : cur.size = (l ++ (x :: m ++ r)).length := by rw [← hc]; simp
   have hlt : o + i < cur.size := by rw [hlen]; simp; omega
   have hcell : w.cell? ⟨b, o + i, none⟩ = some cur[o + i] := by simp [World.cell?, hb, hlt]
   have hfro : w.frozen? ⟨b, o + i, none⟩ = false := by
    have := hf (o + i) hlt
    simp only [World.frozen?, hb]
    simp only [Bool.and_eq_false_iff, decide_eq_false_iff_not]
    by_cases h1 : fr.1 ≤ o + i
    ·right; exact fun h2 => this ⟨h1, h2⟩
    ·left; exact h1
   have hset : (w.setCell ⟨b, o + i, none⟩ v).heap[b]? = some (.cells ((l ++ [v]) ++ (m ++ r)).toArray e fr) := by
    simp only [World.setCell, Array.getElem?_modify, if_true, hb, Option.map_some, Option.isSome_none, Bool.false_eq_true, if_false]
    congr 2
    apply Array.ext'
    rw [Array.toList_setIfInBounds, hc, ← hl, List.set_append_right _ _ (Nat.le_refl _)]
    simp
   have hrun : (store ((⟨b, o, none⟩ : Addr).add i) v).run P w = .ok () (w.setCell ⟨b, o + i, none⟩ v) := by
    have h1 := hone v (by simp)
    rw [Addr.add_lit]
    cases v <;> first | (simp [Value.isOne] at h1; done) | simp [Go.store, Sem.run, hcell, hfro]
   obtain ⟨w', g1, g2, g3, g4, g5, g6, g7⟩ := run_storeCells' (P := P) (b := b) (o := o) vs (i + 1) _ (w.setCell ⟨b, o + i, none⟩ v) (l ++ [v]) m r hset (by
    have : (l ++ [v] ++ (m ++ r)).toArray.size = cur.size := by rw [hlen]; simp
    rw [this]; exact hf) (by simp) (by simp; omega) (by simpa using hm) (fun u hu => hone u (by simp [hu]))
   refine ⟨w', ?_, by simpa using g2, fun c hc => ?_, ?_, g5, g6, g7⟩
   ·simp only [storeCells, Sem.run_bind, hrun, Result.andThen]; exact g1
   ·rw [g3 c hc]
    simp only [World.setCell, Array.getElem?_modify]
    rw [if_neg (fun e => hc e.symm)]
   ·rw [g4]; simp [World.setCell]
theorem cells_vc {d : AV} {v : Value} (h : shp d v) (hd : ∀ fs, d ≠ .tuple fs) : v.cells = (vc v).toArray := by
 cases d with
 | tuple fs => exact (hd _ rfl).elim
 | agg fs => obtain ⟨arr, rfl⟩ := h; simp [Value.cells, vc, vc1]
 | _ =>
   have h1 : Value.isOne v = true := h
   rw [vc_one h1]
   cases v <;> first | rfl | (simp [Value.isOne] at h1)
def sto (C : Cx) (s : St) (T : TypeId) (x y : AV) : Option St :=
 match tk s y, loc s x with
 | some (d, s1), some (z, q) => match d with
   | .tuple _ => none
   | d => match AV.sub q (s z) with
     | some d0 => if d.wd = d0.wd ∧ d.wd = (C.T T).sz ∧ (C.T T).ok = true ∧ y.owner ≠ some z then some (upd (pkS z s1) z (AV.put q d (s z))) else none
     | none => none
 | _, _ => none
theorem tk_other {s s1 : St} {y d : AV} {z : Nat} (h : tk s y = some (d, s1)) (hz : (s z).tree = true) (hy : y.owner ≠ some z) : s1 z = s z := by
 cases y with
 | h x q =>
   simp only [tk] at h
   split at h
   ·split at h
    ·cases h
    ·simp only [Option.some.injEq, Prod.mk.injEq] at h
     obtain ⟨_, rfl⟩ := h
     rw [upd_ne _ _ (fun e => hy (by rw [AV.owner, e]))]
     exact pk_tree hz
   ·cases h
 | hp x q => simp [tk] at h
 | hb x q => simp [tk] at h
 | fn f c => simp [tk] at h
 | hole => simp [tk] at h
 | _ => simp only [tk, Option.some.injEq, Prod.mk.injEq] at h; rw [h.2]
theorem sto_good (hC : C.Ok) (h : RelX w0 F0 X F S s tm w) {T : TypeId} {x y : AV} {vx vy : Value} (hvx : SV w F s tm x vx (fun _ => False)) (hy : y.plain = true) (hvy : SV w F s tm y vy (fun _ => False))
  {s2 : St} (he : sto C s T x y = some s2) :
  ∃ w' S', (Instr.storeAt T vx vy).run C.P w = .ok () w' ∧ RelX w0 F0 X F S' s2 tm w' := by
 unfold sto at he
 split at he
 ·rename_i d s1 z q ht hl
  have key : ∀ d : AV, (∀ fs, d ≠ .tuple fs) → tk s y = some (d, s1) → (match AV.sub q (s z) with
   | some d0 => if d.wd = d0.wd ∧ d.wd = (C.T T).sz ∧ (C.T T).ok = true ∧ y.owner ≠ some z then some (upd (pkS z s1) z (AV.put q d (s z))) else none
   | none => none) = some s2 → ∃ w' S', (Instr.storeAt T vx vy).run C.P w = .ok () w' ∧ RelX w0 F0 X F S' s2 tm w' := by
   intro d htup ht he
   split at he
   ·rename_i d0 hd0
    split at he
    ·rename_i hcond
     obtain ⟨h1, h2, h3, h4⟩ := hcond
     simp only [Option.some.injEq] at he; subst he
     obtain ⟨hcr, dcs, b, o, rfl, hfol⟩ := loc_sv h hvx hl hd0
     obtain ⟨S1, g0, g1, g2, Sn, g3, g4, g5, g6, g7, g8⟩ := tk_sv h hy hvy ht
     have hsz : s1 z = s z := tk_other ht (tree_of_sub hd0 (.inr hcr)) h4
     rw [← hsz] at hd0 hcr hfol ⊢
     obtain ⟨dcs', b', l, r, cur, e, fr, k0, k1, k2, k3, k4⟩ := g0.store hd0 hcr g3 h1 g4 g5 g6 g7
     rw [hfol] at k0
     simp only [Option.some.injEq, Prod.mk.injEq, true_and] at k0
     obtain ⟨rfl, rfl, rfl⟩ := k0
     obtain ⟨i, d, z', e1, e2, e3, e4, e5, e6, e7⟩ := hC.info h3
     have hlen := RV.length _ _ _ g3
     have hm : dcs.length = (vc vy).length := by
      have hz0 := g0.sv z
      rw [SV.of_tree (tree_of_sub hd0 (.inr hcr))] at hz0
      obtain ⟨_, _, _, _, c0, _, _, _, c4, _⟩ := ctx q (s1 z) (vc (tm z)) (S1 z) none _ hz0.2 hd0
      rw [hfol] at c0
      simp only [Option.some.injEq, Prod.mk.injEq, true_and] at c0
      rw [c0.1, RV.length _ _ _ c4, hlen, h1]
     obtain ⟨w', m1, m2, m3, m4, m5, m6, m7⟩ := run_storeCells' (P := C.P) (b := b) (o := l.length) (e := e) (fr := fr) (vc vy) 0 cur w l dcs r k1 k3 k2 rfl hm (RV.ones _ _ _ g3)
     obtain ⟨S', k5⟩ := k4 w' m2 m3 m4 m5 m6 m7
     refine ⟨w', S', ?_, k5⟩
     have hcells := cells_vc g2 htup
     simp [Instr.storeAt, Instr.sureAddr, storeVar, run_sizeOf' e1, e2, hcells, hlen, h2, m1]
    ·cases he
   ·cases he
  split at he
  ·cases he
  ·rename_i htup
   exact key _ (fun fs e => htup fs e) ht he
 ·cases he
theorem RelX.alloc (h : RelX w0 F0 X F S s tm w) {d : AV} {cs : List Value} {Sn : Nat → Prop} (e : TypeId) (hv : RV w F d cs Sn)
  (hlt : ∀ b, Sn b → b < w.heap.size) (hF : ∀ b, Sn b → ¬ F b) (hS : ∀ u b, Sn b → ¬ S u b) (h0 : ∀ b, Sn b → X b ∨ w0.heap.size ≤ b) :
  RelX w0 F0 X F S s tm (w.alloc (.cells cs.toArray e)) ∧
   Val w0 X F S s tm (w.alloc (.cells cs.toArray e)) (.ubox d) (.pointer (some ⟨w.heap.size, 0, none⟩)) := by
 have hold : ∀ b, b < w.heap.size → (w.alloc (.cells cs.toArray e)).heap[b]? = w.heap[b]? := by
  intro b hb
  show (w.heap.push _)[b]? = _
  rw [Array.getElem?_push, if_neg (by omega)]
 refine ⟨h.grow hold (by simp) rfl rfl rfl, .inr ⟨rfl, rfl, fun b => b = w.heap.size ∨ Sn b, ?_, ?_, ?_, ?_, ?_⟩⟩
 ·rw [RV]
  refine ⟨w.heap.size, cs.toArray, e, (0, 0), Sn, rfl, .inl rfl, ?_, ?_, ?_, fun c hc => .inr hc, fun hc => Nat.lt_irrefl _ (hlt _ hc)⟩
  ·show (w.heap.push _)[_]? = _
   simp
  ·intro o _ ⟨_, h2⟩; exact absurd h2 (Nat.not_lt_zero _)
  ·exact RV.frame (fun b hb => hold b (h.Flt b hb)) _ _ _ (fun b hb => hold b (hlt b hb)) hv
 ·rintro b (rfl | hb)
  ·simp
  ·have := hlt b hb; simp; omega
 ·rintro b (rfl | hb) hF'
  ·exact Nat.lt_irrefl _ (h.Flt _ hF')
  ·exact hF b hb hF'
 ·rintro u b (rfl | hb) hu
  ·exact Nat.lt_irrefl _ (h.Slt _ _ hu)
  ·exact hS u b hb hu
 ·rintro b (rfl | hb)
  ·exact .inr h.size
  ·exact h0 b hb
def alc (C : Cx) (T : TypeId) : Option AV := if (C.T T).ok = true then (match flat (C.T T).zero with | some _ => some (.ubox (C.T T).zero) | none => none) else none
theorem alc_good (hC : C.Ok) (h : RelX w0 F0 X F S s tm w) {T : TypeId} (he : alc C T = some av) : Good C w0 F0 X tm w (Instr.alloc T true (.tuple #[])) av s := by
 unfold alc at he
 split at he
 ·rename_i hk
  split at he
  ·rename_i cs hcs
   simp only [Option.some.injEq] at he; subst he
   obtain ⟨i, d, z, e1, e2, e3, e4, e5, e6, e7⟩ := hC.info hk
   have hz := e5 cs hcs
   obtain ⟨r1, r2⟩ := h.alloc (d := (C.T T).zero) T ((RV.flat _).1 _ cs (fun _ => False) (Nat.le_refl _) hcs) (fun _ h => h.elim) (fun _ h => h.elim) (fun _ _ h => h.elim) (fun _ h => h.elim)
   refine ⟨_, _, F, S, ?_, r1, r2⟩
   simp [Instr.alloc, run_zeroValue' e1 e4, newVar, newRow, newObj, Sem.run, hz]
  ·cases he
 ·cases he
def bx (s : St) (x : AV) : Option (AV × St) := match tk s x with
 | some (.tuple _, _) => none
 | some (d, s1) => some (.ubox d, s1)
 | none => none
def bxs (s : St) (x : AV) : Option (AV × St) := match x with
 | .h y q => match q, s y with
   | [], .agg ds => if AV.plains ds then none else some (.hb y 0, s)
   | _, _ => none
 | _ => none
theorem bxs_good (h : RelX w0 F0 X F S s tm w) {T : TypeId} {x : AV} {v : Value} (hv : SV w F s tm x v (fun _ => False)) (he : bxs s x = some (av, s1)) :
  Good C w0 F0 X tm w (Instr.box T v) av s1 := by
 unfold bxs at he
 split at he
 ·rename_i y q
  split at he
  ·rename_i ds hsy
   split at he
   ·cases he
   ·rename_i hnp
    simp only [Option.some.injEq, Prod.mk.injEq] at he
    obtain ⟨rfl, rfl⟩ := he
    rw [SV] at hv
    obtain ⟨dcs, a, g1, g2, g3⟩ := hv (s y) (by simp only [AV.sub]) (by rw [hsy]; simp only [AV.plain]; simpa using hnp)
    simp only [fol, Option.some.injEq, Prod.mk.injEq, true_and] at g1
    rw [hsy] at g3
    have hcells := cells_vc g3 (fun fs e => by cases e)
    have hold : ∀ b, b < w.heap.size → (w.alloc (.cells (vc v).toArray T)).heap[b]? = w.heap[b]? := by
     intro b hb
     show (w.heap.push _)[b]? = _
     rw [Array.getElem?_push, if_neg (by omega)]
    refine ⟨.pointer (some ⟨w.heap.size, 0, none⟩), w.alloc (.cells (vc v).toArray T), fun b => F b ∨ b = w.heap.size, S, by simp [Instr.box, newVar, newRow, newObj, Sem.run, hcells], ?_, .inl ⟨rfl, ?_⟩⟩
    ·have h1 := h.grow hold (by simp) rfl rfl rfl
     exact {
      F0F := fun b hb => .inl (h1.F0F b hb)
      FF0 := fun b hb => by
       rcases hb with hb | rfl
       ·exact h1.FF0 b hb
       ·exact .inr (.inr h.size)
      Flt := fun b hb => by
       rcases hb with hb | rfl
       ·exact h1.Flt b hb
       ·simp
      Slt := h1.Slt
      SF := fun t b hb hf => by
       rcases hf with hf | rfl
       ·exact h1.SF t b hb hf
       ·exact absurd (h.Slt t _ hb) (Nat.lt_irrefl _)
      SS := h1.SS
      S0 := h1.S0
      sv := fun t => SV.frame (fun _ _ => rfl) (fun b hb => .inl hb) (fun _ _ _ => rfl) h1.sv _ _ _ (fun _ _ => rfl) (h1.sv t)
      old := h1.old
      size := h1.size
      os := h1.os
      tape := h1.tape
      output := h1.output }
    ·rw [SV]
     intro _
     refine ⟨w.heap.size, (vc v).toArray, T, (0, 0), rfl, .inr rfl, ?_, ?_⟩
     ·show (w.heap.push _)[_]? = _
      simp
     ·rw [g1.1, ← g2]
  ·cases he
 ·cases he
theorem bx_good (h : RelX w0 F0 X F S s tm w) {T : TypeId} {x : AV} {v : Value} (hx : x.plain = true) (hv : SV w F s tm x v (fun _ => False)) (he : bx s x = some (av, s1)) :
  Good C w0 F0 X tm w (Instr.box T v) av s1 := by
 unfold bx at he
 split at he
 ·cases he
 ·rename_i d s2 htup ht
  simp only [Option.some.injEq, Prod.mk.injEq] at he
  obtain ⟨rfl, rfl⟩ := he
  obtain ⟨S1, g0, g1, g2, Sn, g3, g4, g5, g6, g7, g8⟩ := tk_sv h hx hv ht
  obtain ⟨r1, r2⟩ := g0.alloc T g3 g4 g5 g6 g7
  refine ⟨_, _, F, S1, ?_, r1, r2⟩
  have hcells := cells_vc g2 (fun fs e => htup fs e)
  simp [Instr.box, newVar, newRow, newObj, Sem.run, hcells]
 ·cases he
end
end Go.Fw
