/- Part of a proof that a law returns true for every input. No condition. -/
import Derived.Test.YtncnipaofaeaiaaFw13
namespace Go.Fw

/-- The operations, slim. -/
inductive SO where
  | mv (x : SX)
  | asg (x : SX)
  | pick (c a b : SX)
  | alc (T : TypeId)
  | bx (T : TypeId) (x : SX)
  | bld (T : TypeId) (ps : List (Nat × SX))
  | bsl (T : TypeId) (n : Nat) (ps : List (Nat × SX))
  | ld (T : TypeId) (x : SX)
  | sto (T : TypeId) (x y : SX)
  | nilc (x : SX)
  | bn (op : BinOp) (T : TypeId) (x y : SX)
  | un (op : UnOp) (x : SX)
  | cvt (A B : TypeId) (x : SX)
  | mkf (f : FuncId) (cs : List SX)
  | mks (T : TypeId) (l c : SX)
  | slc (T : TypeId) (x : SX) (lo hi : Option SX)
  | fa (T : TypeId) (x : SX) (k : Nat)
  | ia (T : TypeId) (x i : SX)
  | idx (T : TypeId) (x i : SX)
  | ex (x : SX) (k : Nat)
  | call (f : SX) (args : List SX)
  | len (T : TypeId) (x : SX)
  | app (T U : TypeId) (x y : SX)

def slimXs : List Operand → Option (List SX)
  | [] => some []
  | o :: os => match slimX o, slimXs os with
    | some x, some xs => some (x :: xs)
    | _, _ => none

def slimPs : List (Nat × Operand) → Option (List (Nat × SX))
  | [] => some []
  | (k, o) :: os => match slimX o, slimPs os with
    | some x, some xs => some ((k, x) :: xs)
    | _, _ => none

def slimOpt : Option Operand → Option (Option SX)
  | none => some none
  | some o => (slimX o).map some

def slimO : Op → Option SO
  | .move x => (slimX x).map .mv
  | .assign x => (slimX x).map .asg
  | .pick c a b => match slimX c, slimX a, slimX b with
    | some c, some a, some b => some (.pick c a b)
    | _, _, _ => none
  | .alloc T => some (.alc T)
  | .box T x => (slimX x).map (.bx T)
  | .build T ps => (slimPs ps.toList).map (.bld T)
  | .buildSlice T n ps => (slimPs ps.toList).map (.bsl T n)
  | .load T x => (slimX x).map (.ld T)
  | .store T x y => match slimX x, slimX y with
    | some x, some y => some (.sto T x y)
    | _, _ => none
  | .nilCheck x => (slimX x).map .nilc
  | .binOp op T x y _ => match slimX x, slimX y with
    | some x, some y => some (.bn op T x y)
    | _, _ => none
  | .unOp op _ x => (slimX x).map (.un op)
  | .convert A B x => (slimX x).map (.cvt A B)
  | .makeFunc (.func f) first cs => if first.isEmpty then (slimXs cs.toList).map (.mkf f) else none
  | .makeSlice T l c => match slimX l, slimX c with
    | some l, some c => some (.mks T l c)
    | _, _ => none
  | .slice T x lo hi none => match slimX x, slimOpt lo, slimOpt hi with
    | some x, some lo, some hi => some (.slc T x lo hi)
    | _, _, _ => none
  | .fieldAddr T x k => (slimX x).map fun x => .fa T x k
  | .indexAddr T x i => match slimX x, slimX i with
    | some x, some i => some (.ia T x i)
    | _, _ => none
  | .index T x i => match slimX x, slimX i with
    | some x, some i => some (.idx T x i)
    | _, _ => none
  | .extract x k => (slimX x).map fun x => .ex x k
  | .call c => match c.callee with
    | .value f => match slimX f, slimXs c.args.toList with
      | some f, some xs => some (.call f xs)
      | _, _ => none
    | .builtin .len => match c.args.toList, c.argTypes.toList with
      | [x], [T] => (slimX x).map (.len T)
      | _, _ => none
    | .builtin .append => match c.args.toList, c.argTypes.toList with
      | [x, y], [T, U] => match slimX x, slimX y with
        | some x, some y => some (.app T U x y)
        | _, _ => none
      | _, _ => none
    | _ => none
  | _ => none

/-- What an operation that is no call does to the abstract state. -/
def eff (C : Cx) (s : St) : SO → Option (AV × St)
  | .mv x => some (ev s x, s)
  | .asg x => match ev s x with
    | .h y q => tk s (.h y q)
    | d => some (d, s)
  | .pick c a b => match ev s c with
    | .bool b' => some (if b' then ev s a else ev s b, s)
    | _ => none
  | .alc T => (alc C T).map fun d => (d, s)
  | .bx _ x => bx s (ev s x)
  | .bld T ps => bld C s T (ps.map fun p => (p.1, ev s p.2))
  | .bsl T n ps => bsl C s T n (ps.map fun p => (p.1, ev s p.2))
  | .ld T x => (ld C s T (ev s x)).map fun d => (d, s)
  | .sto T x y => (sto C s T (ev s x) (ev s y)).map fun s1 => (.hole, s1)
  | .nilc x => (nilc s (ev s x)).map fun d => (d, s)
  | .bn op T x y => (bn C s op T (ev s x) (ev s y)).map fun d => (d, s)
  | .un op x => (un op (ev s x)).map fun d => (d, s)
  | .cvt A B x => (cvt C s A B (ev s x)).map fun d => (d, s)
  | .mkf f cs => some (.fn f (cs.map (ev s)), s)
  | .mks T l c => (mks C T (ev s l) (ev s c)).map fun d => (d, s)
  | .slc T x lo hi => slc C s T (ev s x) (lo.map (ev s)) (hi.map (ev s))
  | .fa T x k => (fa C s T (ev s x) k).map fun d => (d, s)
  | .ia T x i => (ia C s T (ev s x) (ev s i)).map fun d => (d, s)
  | .idx T x i => (idx C T (ev s x) (ev s i)).map fun d => (d, s)
  | .ex x k => (ex s (ev s x) k).map fun d => (d, s)
  | .call _ _ => none
  | .len T x => (ln C s T (ev s x)).map fun d => (d, s)
  | .app T U x y => apd C s T U (ev s x) (ev s y)

section
variable {C : Cx} {w0 w : World} {F0 X F : Nat → Prop} {S : Nat → Nat → Prop} {s s1 : St} {a : Act} {av : AV}

theorem slimXs_map : ∀ {os : List Operand} {xs : List SX}, slimXs os = some xs → os.map slimX = xs.map some
  | [], xs, h => by simp [slimXs] at h; subst h; rfl
  | o :: os, xs, h => by
    simp only [slimXs] at h
    split at h
    · rename_i x xs' h1 h2
      simp at h; subst h
      simp [h1, slimXs_map h2]
    · cases h

theorem pairs_of {tm : Nat → Value} (h : RelX w0 F0 X F S s tm w) (htm : ∀ t, tm t = a.tmps.getD t undef) : ∀ {ps : List (Nat × Operand)} {xs : List (Nat × SX)}, slimPs ps = some xs →
    Pairs w F s tm (xs.map fun p => (p.1, ev s p.2)) (ps.map fun p => (p.1, a.eval p.2))
  | [], xs, h => by simp [slimPs] at h; subst h; trivial
  | (k, o) :: ps, xs, h' => by
    simp only [slimPs] at h'
    split at h'
    · rename_i x xs' h1 h2
      simp at h'; subst h'
      obtain ⟨g1, g2⟩ := ev_sv h htm h1
      exact ⟨rfl, g1, g2, pairs_of h htm h2⟩
    · cases h'

/-- What an operation's run leaves: the next state. -/
def Next (C : Cx) (w0 : World) (F0 X : Nat → Prop) (tm : Nat → Value) (w : World) (m : Sem Go.Next) (av : AV) (s1 : St) : Prop :=
  ∃ r w' v F' S', m.run C.P w = .ok r w' ∧ (r = .value v ∨ r = .skip ∧ v = undef) ∧ RelX w0 F0 X F' S' s1 tm w' ∧ Val w0 X F' S' s1 tm w' av v

theorem Good.next {tm : Nat → Value} {m : Sem Value} (h : Good C w0 F0 X tm w m av s1) : Next C w0 F0 X tm w (do pure (.value (← m))) av s1 := by
  obtain ⟨v, w', F', S', h1, h2, h3⟩ := h
  exact ⟨.value v, w', v, F', S', by simp [h1], .inl rfl, h2, h3⟩

theorem eff_sound (hC : C.Ok) {tm : Nat → Value} (h : RelX w0 F0 X F S s tm w) (htm : ∀ t, tm t = a.tmps.getD t undef) {o : Oper} {so : SO} (hs : slimO o.op = some so) (he : eff C s so = some (av, s1)) :
    Next C w0 F0 X tm w (execOp a.eval o) av s1 := by
  obtain ⟨dst, op, ty, pos, after, guard⟩ := o
  simp only at hs
  cases op with
  | move x =>
    simp only [slimO, Option.map_eq_some_iff] at hs
    obtain ⟨x', hx, rfl⟩ := hs
    obtain ⟨g1, g2⟩ := ev_sv h htm hx
    simp only [eff, Option.some.injEq, Prod.mk.injEq] at he
    obtain ⟨rfl, rfl⟩ := he
    exact ⟨_, w, _, F, S, rfl, .inl rfl, h, .inl ⟨g1, g2⟩⟩
  | assign x =>
    simp only [slimO, Option.map_eq_some_iff] at hs
    obtain ⟨x', hx, rfl⟩ := hs
    obtain ⟨g1, g2⟩ := ev_sv h htm hx
    simp only [eff] at he
    split at he
    · rename_i y q hy
      rw [hy] at g1 g2
      obtain ⟨S1, k0, k1, k2, Sn, k3, k4, k5, k6, k7, _⟩ := tk_sv h g1 g2 he
      exact ⟨_, w, _, F, S1, rfl, .inl rfl, k0, .inr ⟨k1, k2, Sn, k3, k4, k5, k6, k7⟩⟩
    · simp only [Option.some.injEq, Prod.mk.injEq] at he
      obtain ⟨rfl, rfl⟩ := he
      exact ⟨_, w, _, F, S, rfl, .inl rfl, h, .inl ⟨g1, g2⟩⟩
  | pick c x y =>
    simp only [slimO] at hs
    split at hs
    · rename_i c' x' y' hc hx hy
      simp only [Option.some.injEq] at hs; subst hs
      simp only [eff] at he
      split at he
      · rename_i b hb
        simp only [Option.some.injEq, Prod.mk.injEq] at he
        obtain ⟨rfl, rfl⟩ := he
        have hcv := (ev_sv h htm hc).2
        rw [hb] at hcv
        have hcv := sv_bool hcv
        obtain ⟨x1, x2⟩ := ev_sv h htm hx
        obtain ⟨y1, y2⟩ := ev_sv h htm hy
        refine ⟨.value (if b then a.eval x else a.eval y), w, _, F, S, ?_, .inl rfl, h, .inl ?_⟩
        · simp [execOp, hcv, asBool]
        · cases b
          · exact ⟨y1, y2⟩
          · exact ⟨x1, x2⟩
      · cases he
    · cases hs
  | alloc T =>
    simp only [slimO, Option.some.injEq] at hs; subst hs
    simp only [eff, Option.map_eq_some_iff, Prod.mk.injEq] at he
    obtain ⟨d, hd, rfl, rfl⟩ := he
    exact (alc_good hC h hd).next
  | box T x =>
    simp only [slimO, Option.map_eq_some_iff] at hs
    obtain ⟨x', hx, rfl⟩ := hs
    obtain ⟨g1, g2⟩ := ev_sv h htm hx
    exact (bx_good h g1 g2 he).next
  | build T ps =>
    simp only [slimO, Option.map_eq_some_iff] at hs
    obtain ⟨ps', hp, rfl⟩ := hs
    obtain ⟨ps⟩ := ps
    have := (bld_good hC h (pairs_of h htm hp) he).next
    simpa [execOp] using this
  | buildSlice T n ps =>
    simp only [slimO, Option.map_eq_some_iff] at hs
    obtain ⟨ps', hp, rfl⟩ := hs
    obtain ⟨ps⟩ := ps
    have := (bsl_good hC h (pairs_of h htm hp) he).next
    simpa [execOp] using this
  | load T x =>
    simp only [slimO, Option.map_eq_some_iff] at hs
    obtain ⟨x', hx, rfl⟩ := hs
    obtain ⟨g1, g2⟩ := ev_sv h htm hx
    simp only [eff, Option.map_eq_some_iff, Prod.mk.injEq] at he
    obtain ⟨d, hd, rfl, rfl⟩ := he
    exact (ld_good hC h g2 hd).next
  | store T x y =>
    simp only [slimO] at hs
    split at hs
    · rename_i x' y' hx hy
      simp only [Option.some.injEq] at hs; subst hs
      simp only [eff, Option.map_eq_some_iff, Prod.mk.injEq] at he
      obtain ⟨s2, hd, rfl, rfl⟩ := he
      obtain ⟨w', S', h1, h2⟩ := sto_good hC h (ev_sv h htm hx).2 (ev_sv h htm hy).1 (ev_sv h htm hy).2 hd
      exact ⟨.skip, w', undef, F, S', by simp [execOp, h1], .inr ⟨rfl, rfl⟩, h2, .inl ⟨rfl, by rw [SV]; trivial⟩⟩
    · cases hs
  | nilCheck x =>
    simp only [slimO, Option.map_eq_some_iff] at hs
    obtain ⟨x', hx, rfl⟩ := hs
    obtain ⟨g1, g2⟩ := ev_sv h htm hx
    simp only [eff, Option.map_eq_some_iff, Prod.mk.injEq] at he
    obtain ⟨d, hd, rfl, rfl⟩ := he
    obtain ⟨rfl, hp, hv⟩ := nilc_val h g2 hd
    refine ⟨.value (a.eval x), w, _, F, S, ?_, .inl rfl, h, .inl ⟨hp, g2⟩⟩
    rcases hv with ⟨b, hb⟩ | ⟨f, c, hb⟩ <;> simp [execOp, hb]
  | binOp op T x y yT =>
    simp only [slimO] at hs
    split at hs
    · rename_i x' y' hx hy
      simp only [Option.some.injEq] at hs; subst hs
      simp only [eff, Option.map_eq_some_iff, Prod.mk.injEq] at he
      obtain ⟨d, hd, rfl, rfl⟩ := he
      exact (bn_good hC h x y (ev_sv h htm hx).2 (ev_sv h htm hy).2 hd).next
    · cases hs
  | unOp op T x =>
    simp only [slimO, Option.map_eq_some_iff] at hs
    obtain ⟨x', hx, rfl⟩ := hs
    simp only [eff, Option.map_eq_some_iff, Prod.mk.injEq] at he
    obtain ⟨d, hd, rfl, rfl⟩ := he
    exact (un_good h (ev_sv h htm hx).2 hd).next
  | convert A B x =>
    simp only [slimO, Option.map_eq_some_iff] at hs
    obtain ⟨x', hx, rfl⟩ := hs
    simp only [eff, Option.map_eq_some_iff, Prod.mk.injEq] at he
    obtain ⟨d, hd, rfl, rfl⟩ := he
    exact (cvt_good hC h (ev_sv h htm hx).2 hd).next
  | makeFunc fn first cs =>
    cases fn with
    | func f =>
      simp only [slimO] at hs
      split at hs
      · rename_i hfi
        simp only [Option.map_eq_some_iff] at hs
        obtain ⟨cs', hcs, rfl⟩ := hs
        simp only [eff, Option.some.injEq, Prod.mk.injEq] at he
        obtain ⟨rfl, rfl⟩ := he
        have hf0 : first = #[] := by simpa using hfi
        subst hf0
        refine ⟨_, w, _, F, S, rfl, .inl rfl, h, .inl ⟨rfl, ?_⟩⟩
        rw [SV]
        refine ⟨cs.map a.eval, by simp, ?_⟩
        simpa using svs_map h htm _ _ (slimXs_map hcs)
      · cases hs
    | _ => simp [slimO] at hs
  | makeSlice T l c =>
    simp only [slimO] at hs
    split at hs
    · rename_i x' y' hx hy
      simp only [Option.some.injEq] at hs; subst hs
      simp only [eff, Option.map_eq_some_iff, Prod.mk.injEq] at he
      obtain ⟨d, hd, rfl, rfl⟩ := he
      exact (mks_good hC h (ev_sv h htm hx).2 (ev_sv h htm hy).2 hd).next
    · cases hs
  | slice T x lo hi mx =>
    cases mx with
    | some m => simp [slimO] at hs
    | none =>
      simp only [slimO] at hs
      split at hs
      · rename_i x' lo' hi' hx hlo hhi
        simp only [Option.some.injEq] at hs; subst hs
        obtain ⟨g1, g2⟩ := ev_sv h htm hx
        have opt : ∀ {o : Option Operand} {o' : Option SX}, slimOpt o = some o' → OptSV w F s tm (o'.map (ev s)) (o.map a.eval) := by
          intro o o' ho
          cases o with
          | none => simp [slimOpt] at ho; subst ho; trivial
          | some o =>
            simp only [slimOpt, Option.map_eq_some_iff] at ho
            obtain ⟨x, hx, rfl⟩ := ho
            exact (ev_sv h htm hx).2
        exact (slc_good hC h g1 g2 (opt hlo) (opt hhi) he).next
      · cases hs
  | fieldAddr T x k =>
    simp only [slimO, Option.map_eq_some_iff] at hs
    obtain ⟨x', hx, rfl⟩ := hs
    obtain ⟨g1, g2⟩ := ev_sv h htm hx
    simp only [eff, Option.map_eq_some_iff, Prod.mk.injEq] at he
    obtain ⟨d, hd, rfl, rfl⟩ := he
    exact (fa_good hC h g1 g2 hd).next
  | indexAddr T x i =>
    simp only [slimO] at hs
    split at hs
    · rename_i x' y' hx hy
      simp only [Option.some.injEq] at hs; subst hs
      simp only [eff, Option.map_eq_some_iff, Prod.mk.injEq] at he
      obtain ⟨d, hd, rfl, rfl⟩ := he
      exact (ia_good hC h (ev_sv h htm hx).2 (ev_sv h htm hy).2 hd).next
    · cases hs
  | index T x i =>
    simp only [slimO] at hs
    split at hs
    · rename_i x' y' hx hy
      simp only [Option.some.injEq] at hs; subst hs
      simp only [eff, Option.map_eq_some_iff, Prod.mk.injEq] at he
      obtain ⟨d, hd, rfl, rfl⟩ := he
      exact (idx_good hC h (ev_sv h htm hx).2 (ev_sv h htm hy).2 hd).next
    · cases hs
  | extract x k =>
    simp only [slimO, Option.map_eq_some_iff] at hs
    obtain ⟨x', hx, rfl⟩ := hs
    simp only [eff, Option.map_eq_some_iff, Prod.mk.injEq] at he
    obtain ⟨d, hd, rfl, rfl⟩ := he
    exact (ex_good h (ev_sv h htm hx).2 hd).next
  | call c =>
    obtain ⟨callee, args, argTypes⟩ := c
    simp only [slimO] at hs
    split at hs
    · split at hs
      · simp only [Option.some.injEq] at hs; subst hs
        simp [eff] at he
      · cases hs
    · split at hs
      · rename_i x T hargs htys
        simp only [Option.map_eq_some_iff] at hs
        obtain ⟨x', hx, rfl⟩ := hs
        simp only [eff, Option.map_eq_some_iff, Prod.mk.injEq] at he
        obtain ⟨d, hd, rfl, rfl⟩ := he
        have := (ln_good (ty := ty) hC h (ev_sv h htm hx).2 hd).next
        have e1 : args = #[x] := by apply Array.ext'; exact hargs
        have e2 : argTypes = #[T] := by apply Array.ext'; exact htys
        subst e1 e2
        simpa [execOp, resolve, invoke, builtin] using this
      · cases hs
    · split at hs
      · rename_i x y T U hargs htys
        split at hs
        · rename_i x' y' hx hy
          simp only [Option.some.injEq] at hs; subst hs
          have := (apd_good (ty := ty) hC h (ev_sv h htm hx).2 (ev_sv h htm hy).2 he).next
          have e1 : args = #[x, y] := by apply Array.ext'; exact hargs
          have e2 : argTypes = #[T, U] := by apply Array.ext'; exact htys
          subst e1 e2
          simpa [execOp, resolve, invoke, builtin] using this
        · cases hs
      · cases hs
    · cases hs
  | _ => simp [slimO] at hs

end
end Go.Fw
