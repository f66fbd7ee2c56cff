/- Part of a proof that a law returns true for every input. No condition. -/
import Derived.Test.YtncnipaofaeaiaaFw20
namespace Go.Fw

/-- An operation of a region, slim: where its result goes, what it does, and when. -/
structure RO where
  dst : Option Nat
  so : SO
  guard : Option (Nat × Bool)

def slimG (ops : Array Oper) : Option (Nat × Bool) → Option (Option (Nat × Bool))
  | none => some none
  | some (j, b) => match (ops[j]?).bind (·.dst) with
    | some t => some (some (t, b))
    | none => none

/-- The slots of a function: how many, and which are never written. -/
structure Fr where
  n : Nat
  fx : List Nat

def dstOk (n : Fr) : Option Nat → Bool
  | none => true
  | some t => decide (t < n.n) && !n.fx.contains t

def slimR (n : Fr) (ops : Array Oper) (o : Oper) : Option RO :=
  if dstOk n o.dst = true then match slimO o.op, slimG ops o.guard with
    | some so, some g => some ⟨o.dst, so, g⟩
    | _, _ => none
  else none

def slimRs (n : Fr) (ops : Array Oper) : List Oper → Option (List RO)
  | [] => some []
  | o :: os => match slimR n ops o, slimRs n ops os with
    | some r, some rs => some (r :: rs)
    | _, _ => none

/-- One operation. -/
def wpO (C : Cx) (s : St) (so : SO) (K : AV → St → Prop) : Prop :=
  match so with
  | .call f args => ∃ (g : FuncId) (caps : List AV) (ps : List PA) (r : AV), ev s f = .fn g caps ∧ AV.plains caps = true ∧ ps.map (·.a) = args.map (ev s) ++ caps ∧ (∀ p ∈ ps, p.ok s) ∧ apartPA ps = true ∧
      OkAt C g (ps.map (·.d)) r (ps.map (·.o)) ∧ r.res = true ∧ (lent ps = true → r.nosh = true ∧ ∀ p ∈ ps, p.o.nosh = true) ∧ K r (giveL (takeL s ps) ps)
  | so => ∃ av s1, eff C s so = some (av, s1) ∧ K av s1

theorem wpO_mono {C : Cx} {s : St} {so : SO} {K K' : AV → St → Prop} (h : wpO C s so K) (hk : ∀ av s, K av s → K' av s) : wpO C s so K' := by
  cases so with
  | call f args =>
    obtain ⟨g, caps, ps, r, h1, hcp, h2, h3, h4, h5, h6, h7, h8⟩ := h
    exact ⟨g, caps, ps, r, h1, hcp, h2, h3, h4, h5, h6, h7, hk _ _ h8⟩
  | _ =>
    obtain ⟨av, s1, h1, h2⟩ := h
    exact ⟨av, s1, h1, hk _ _ h2⟩

def wpR (C : Cx) (s : St) (o : RO) (K : St → Prop) : Prop :=
  match o.guard with
  | none => wpO C s o.so fun av s1 => K (fin s1 o.dst av)
  | some (t, b) => match s t with
    | .bool b' => if b' = b then wpO C s o.so (fun av s1 => K (fin s1 o.dst av)) else K (fin s o.dst (.tuple []))
    | .tuple [] => K (fin s o.dst (.tuple []))
    | _ => False

/-- Operations in the order of the text. -/
def wpRs (C : Cx) (s : St) : List RO → (St → Prop) → Prop
  | [], K => K s
  | o :: os, K => wpR C s o fun s1 => wpRs C s1 os K

/-- .. in a given order. -/
def wpI (C : Cx) (ros : List RO) (s : St) : List Nat → (St → Prop) → Prop
  | [], K => K s
  | i :: l, K => match ros[i]? with
    | none => wpI C ros s l K
    | some o => wpR C s o fun s1 => wpI C ros s1 l K

theorem wpI_range (C : Cx) (K : St → Prop) : ∀ (rs pre : List RO) (s : St), wpRs C s rs K → wpI C (pre ++ rs) s ((List.range rs.length).map (· + pre.length)) K := by
  intro rs
  induction rs with
  | nil => intro pre s h; exact h
  | cons r rs ih =>
    intro pre s h
    rw [List.length_cons, List.range_succ_eq_map, List.map_cons, List.map_map]
    simp only [wpI, Nat.zero_add]
    rw [List.getElem?_append_right (Nat.le_refl _)]
    simp only [Nat.sub_self, List.getElem?_cons_zero]
    have key : ∀ s1, wpRs C s1 rs K → wpI C (pre ++ r :: rs) s1 ((List.range rs.length).map ((fun x => x + pre.length) ∘ Nat.succ)) K := by
      intro s1 h1
      have := ih (pre ++ [r]) s1 h1
      simp only [List.append_assoc, List.singleton_append, List.length_append, List.length_singleton] at this
      have e : ((fun x => x + pre.length) ∘ Nat.succ) = fun x => x + (pre.length + 1) := by funext x; simp; omega
      rw [e]; exact this
    simp only [wpRs] at h
    unfold wpR at h ⊢
    split
    · rename_i hg; rw [hg] at h; exact wpO_mono h fun av s1 => key _
    · rename_i t b hg
      rw [hg] at h
      simp only at h
      split
      · rename_i b' hs
        rw [hs] at h
        simp only at h
        split
        · rename_i hb; rw [if_pos hb] at h; exact wpO_mono h fun av s1 => key _
        · rename_i hb; rw [if_neg hb] at h; exact key _ h
      · rename_i hs; rw [hs] at h; exact key _ h
      · rename_i h1 h2
        split at h
        · exact h1 _ (by assumption)
        · exact h2 (by assumption)
        · exact h

/-- An activation, and what is said of its slots. -/
structure Rel (w0 : World) (F0 X : Nat → Prop) (n : Fr) (ρ : Nat → Value) (s : St) (a : Act) (w : World) : Prop where
  defers : a.defers = []
  size : a.tmps.size = n.n
  fixed : ∀ i ∈ n.fx, a.tmps.getD i undef = ρ i
  rel : ∃ F S, RelX w0 F0 X F S s (fun t => a.tmps.getD t undef) w

section
variable {C : Cx} {w0 w : World} {F0 X : Nat → Prop} {n : Fr} {ρ : Nat → Value} {s s1 : St} {a : Act} {av : AV} {Q : Exit → Act → World → Prop}

theorem put_tm {dst : Option Nat} (v : Value) (hs : a.tmps.size = n.n) (hd : dstOk n dst = true) :
    (fun t => (a.put dst v).tmps.getD t undef) = finT (fun t => a.tmps.getD t undef) dst v ∧ (a.put dst v).tmps.size = n.n ∧ (a.put dst v).defers = a.defers := by
  cases dst with
  | none => exact ⟨rfl, hs, rfl⟩
  | some d =>
    simp only [dstOk, Bool.and_eq_true, decide_eq_true_eq] at hd
    refine ⟨?_, by simp [Act.put, hs], rfl⟩
    funext t
    simp only [Act.put, finT, upd, Array.getD_eq_getD_getElem?]
    by_cases h : t = d
    · subst h
      rw [if_pos rfl, Array.getElem?_setIfInBounds_self_of_lt (by omega)]; rfl
    · rw [if_neg h, Array.getElem?_setIfInBounds_ne (fun e => h e.symm)]

theorem Rel.put {F S} (hd : a.defers = []) (hs : a.tmps.size = n.n) (hf : ∀ i ∈ n.fx, a.tmps.getD i undef = ρ i) {w' : World} (hr : RelX w0 F0 X F S s (fun t => a.tmps.getD t undef) w') {v : Value} (hv : Val w0 X F S s (fun t => a.tmps.getD t undef) w' av v)
    {dst : Option Nat} (hok : dstOk n dst = true) : Rel w0 F0 X n ρ (fin s dst av) (a.put dst v) w' := by
  obtain ⟨e1, e2, e3⟩ := put_tm (n := n) (dst := dst) v hs hok
  obtain ⟨S', h'⟩ := hr.fin hv dst
  refine ⟨e3.trans hd, e2, fun i hi => ?_, F, S', by rw [e1]; exact h'⟩
  rw [congrFun e1 i]
  cases dst with
  | none => exact hf i hi
  | some d =>
    simp only [dstOk, Bool.and_eq_true, Bool.not_eq_true', List.contains_eq_mem, decide_eq_false_iff_not] at hok
    have hne : i ≠ d := fun e => hok.2 (by rw [← e]; exact hi)
    simp only [finT]
    rw [upd_ne _ _ hne]
    exact hf i hi

theorem Rel.skip (h : Rel w0 F0 X n ρ s a w) {dst : Option Nat} (hok : dstOk n dst = true) : Rel w0 F0 X n ρ (fin s dst (.tuple [])) (a.put dst undef) w := by
  obtain ⟨hd, hs, hf, F, S, hr⟩ := h
  refine Rel.put (av := .tuple []) hd hs hf hr (.inl ⟨rfl, (SV.of_tree (d := .tuple []) rfl).2 ⟨?_, ?_⟩⟩) hok
  · exact ⟨#[], rfl, rfl, fun k d x hk => by simp at hk⟩
  · rw [RV, RVs]; rfl

theorem svs_append {F : Nat → Prop} {tm : Nat → Value} {w : World} : ∀ {ds es : List AV} {vs us : List Value}, SVs w F s tm ds vs → SVs w F s tm es us → SVs w F s tm (ds ++ es) (vs ++ us) := by
  intro ds
  induction ds with
  | nil => intro es vs us h1 h2; rw [SVs] at h1; subst h1; exact h2
  | cons d ds ih =>
    intro es vs us h1 h2
    rw [SVs] at h1
    obtain ⟨v, vs', rfl, g1, g2⟩ := h1
    rw [List.cons_append, List.cons_append, SVs]
    exact ⟨v, _, rfl, g1, ih g2 h2⟩

theorem svs_get {F : Nat → Prop} {tm : Nat → Value} {w : World} : ∀ {ds : List AV} {vs : List Value}, SVs w F s tm ds vs → ds.length = vs.length ∧ ∀ (i : Nat) (d : AV) (v : Value), ds[i]? = some d → vs[i]? = some v → SV w F s tm d v (fun _ => False) := by
  intro ds
  induction ds with
  | nil => intro vs h; rw [SVs] at h; subst h; exact ⟨rfl, fun i d v h => by simp at h⟩
  | cons d ds ih =>
    intro vs h
    rw [SVs] at h
    obtain ⟨v, vs', rfl, g1, g2⟩ := h
    obtain ⟨k1, k2⟩ := ih g2
    refine ⟨by simp [k1], fun i d' v' hd hv => ?_⟩
    cases i with
    | zero => simp at hd hv; subst hd hv; exact g1
    | succ i => exact k2 i d' v' (by simpa using hd) (by simpa using hv)

/-- What a call's function value holds. -/
def capsPlain : List AV → Prop := fun l => ∀ d ∈ l, d.plain = true

theorem op_sound (hC : C.Ok) (h : Rel w0 F0 X n ρ s a w) {o : Oper} {so : SO} (hso : slimO o.op = some so) (hd : dstOk n o.dst = true) {K : St → Prop} {next : Act → World → Prop}
    (hw : wpO C s so fun av s1 => K (fin s1 o.dst av)) (hn : ∀ s' a' w', K s' → Rel w0 F0 X n ρ s' a' w' → next a' w') : o.wp C.P a w next Q := by
  have hrel := h
  obtain ⟨hde, hsz, hfx, F, S, hr⟩ := h
  have plain : ∀ av s1, eff C s so = some (av, s1) → K (fin s1 o.dst av) → o.wp C.P a w next Q := by
    intro av s1 he hk
    obtain ⟨r, w', v, F', S', h1, h2, h3, h4⟩ := eff_sound (a := a) hC hr (fun _ => rfl) hso he
    unfold Oper.wp
    rw [h1]
    rcases h2 with rfl | ⟨rfl, rfl⟩
    · exact hn _ _ _ hk (Rel.put hde hsz hfx h3 h4 hd)
    · exact hn _ _ _ hk (Rel.put hde hsz hfx h3 h4 hd)
  cases so with
  | call f args =>
    obtain ⟨g, caps, ps, r, h1, hcp, h2, h3, h4, h5, h6, h7, h8⟩ := hw
    obtain ⟨dst, op, ty, pos, after, guard⟩ := o
    simp only at hso hd h8
    cases op with
    | call c =>
      obtain ⟨callee, cargs, argTypes⟩ := c
      simp only [slimO] at hso
      split at hso
      · split at hso
        · rename_i fo _ _ f' xs hf hxs
          simp only [Option.some.injEq, SO.call.injEq] at hso
          obtain ⟨rfl, rfl⟩ := hso
          obtain ⟨f1, f2⟩ := ev_sv hr (fun _ => rfl) hf
          rw [h1, SV] at f2
          obtain ⟨arr, f3, f4⟩ := f2
          have hexec : execOp a.eval { dst, op := .call { callee := .value fo, args := cargs, argTypes }, type := ty, pos, after, guard } = callFunc g ((cargs.toList.map a.eval ++ arr.toList).toArray) := by
            have : a.eval fo = .func (.func g) #[] arr := f3
            simp only [execOp, resolve, this, Deferred.ofValue, pure_bind, invoke]
            congr 1
            apply Array.ext'; simp
          unfold Oper.wp
          rw [hexec]
          have hsvs : SVs w F s (fun t => a.tmps.getD t undef) (xs.map (ev s) ++ caps) (cargs.toList.map a.eval ++ arr.toList) := svs_append (svs_map hr (fun _ => rfl) _ _ (slimXs_map hxs)) f4
          rw [← h2] at hsvs
          obtain ⟨l1, l2⟩ := svs_get hsvs
          have hpl : ∀ d ∈ xs.map (ev s) ++ caps, d.plain = true := by
            intro d hd
            rcases List.mem_append.1 hd with hd | hd
            · obtain ⟨x, hx, rfl⟩ := List.mem_map.1 hd
              exact ev_plain s x fun av e => by
                subst e
                have hm := slimXs_map hxs
                have : some (SX.c av) ∈ xs.map some := List.mem_map.2 ⟨_, hx, rfl⟩
                rw [← hm] at this
                obtain ⟨o, _, ho⟩ := List.mem_map.1 this
                cases o with
                | const v => simp only [slimX, Option.map_eq_some_iff] at ho; obtain ⟨c, hc, e⟩ := ho; cases e; exact cav_plain hc
                | tmp n => simp [slimX] at ho
                | func g => simp [slimX] at ho
                | global g => simp [slimX] at ho
            · obtain ⟨k, hk⟩ := List.getElem?_of_mem hd
              exact plains_get hcp hk
          have hcall := call_sound (C := C) hr (ps := ps) (vs := cargs.toList.map a.eval ++ arr.toList) (f := g) (r := r) (by simpa using l1)
            (fun i p v hp hv => ⟨hpl p.a (by rw [← h2]; exact List.mem_map.2 ⟨p, List.mem_of_getElem? hp, rfl⟩), l2 i p.a v (by simp [hp]) hv⟩) h3 h4 h5 h6 h7
          rcases hcall with ⟨r1, r2⟩ | ⟨v, w', r1, F', S', r2, r3⟩
          · rw [r1, Oper.upon_enter]
            refine Calls.mono r2 ?_
            rintro e w' ⟨v, rfl, F', S', k1, k2⟩
            exact hn _ _ _ h8 (Rel.put hde hsz hfx k1 k2 hd)
          · rw [r1, Oper.upon_value]
            exact hn _ _ _ h8 (Rel.put hde hsz hfx r2 r3 hd)
        · cases hso
      · split at hso
        · simp only [Option.map_eq_some_iff] at hso; obtain ⟨_, _, hso⟩ := hso; cases hso
        · cases hso
      · split at hso
        · split at hso <;> cases hso
        · cases hso
      · cases hso
    | makeFunc fn first cs =>
      cases fn <;> simp only [slimO] at hso <;> first | (cases hso; done) | (split at hso <;> simp at hso)
    | slice T x lo hi mx =>
      cases mx <;> simp only [slimO] at hso <;> first | (cases hso; done) | (split at hso <;> simp at hso)
    | _ => simp only [slimO] at hso <;> first | (cases hso; done) | (simp at hso; done) | (split at hso <;> simp at hso)
  | _ =>
    obtain ⟨av, s1, he, hk⟩ := hw
    exact plain av s1 he hk

end
end Go.Fw
