/- Part of a proof that a law returns true for every input. No condition. -/
import Derived.Test.YtncnipaofaeaiaaFw19
namespace Go.Fw

def stL (l : List AV) : St := fun i => l.getD i .hole
def tmL (l : List Value) : Nat → Value := fun i => l.getD i undef

/-- A call of a function, with a body or without, gets a value. -/
def Gets (P : Program) (f : FuncId) (args : Array Value) (w : World) (R : Value → World → Prop) : Prop :=
  ((callFunc f args).run P w = .ok (.enter f args) w ∧ Calls P f args w (fun e w' => ∃ v, e = .returned v ∧ R v w')) ∨
  ∃ v w', (callFunc f args).run P w = .ok (.value v) w' ∧ R v w'

theorem Gets.mono {P : Program} {f : FuncId} {args : Array Value} {w : World} {R R' : Value → World → Prop} (h : Gets P f args w R) (hr : ∀ v w', R v w' → R' v w') : Gets P f args w R' := by
  rcases h with ⟨h1, h2⟩ | ⟨v, w', h1, h2⟩
  · exact .inl ⟨h1, Calls.mono h2 fun e w' ⟨v, e, h⟩ => ⟨v, e, hr v w' h⟩⟩
  · exact .inr ⟨v, w', h1, hr v w' h2⟩

/-- What a function does with the arguments `as`: it answers `r` and leaves `outs` of them. -/
def OkAt (C : Cx) (f : FuncId) (as : List AV) (r : AV) (outs : List AV) : Prop :=
  ∀ (w : World) (F X : Nat → Prop) (S : Nat → Nat → Prop) (vs : List Value), vs.length = as.length → RelX w F X F S (stL as) (tmL vs) w →
    Gets C.P f vs.toArray w fun v w' => ∃ F' S', RelX w F X F' S' (stL (r :: outs)) (tmL (v :: vs)) w'

def AV.res : AV → Bool
  | .h _ _ => false
  | .hp _ _ => false
  | .fn _ _ => false
  | _ => true

theorem tree_hs {d : AV} (h : d.tree = true) : d.hs = [] := by cases d <;> first | rfl | (simp [AV.tree] at h)

mutual
theorem view_keep {s s' : St} : ∀ (a : AV) (d : AV), (∀ u ∈ a.hs, (s u).tree = true → s' u = s u) → view s a = some d → view s' a = some d
  | .h x q, d, hu, h => by
    have ht : (s x).tree = true := by
      simp only [view] at h
      split at h
      · rename_i e hsub
        cases e <;> simp only at h <;> first
          | (cases h; done)
          | (split at h
             · cases h
             · rename_i hp
               exact tree_of_sub hsub (.inl (by simpa using hp)))
      · cases h
    simp only [view] at h ⊢
    rw [hu x (by simp [AV.hs]) ht]; exact h
  | .hp x q, d, hu, h => by
    have ht : (s x).tree = true := by
      simp only [view] at h
      split at h
      · rename_i hc
        split at h
        · rename_i e hsub; exact tree_of_sub hsub (.inr hc)
        · cases h
      · cases h
    simp only [view] at h ⊢
    rw [hu x (by simp [AV.hs]) ht]; exact h
  | .fn f cap, d, hu, h => by
    simp only [view, Option.map_eq_some_iff] at h ⊢
    obtain ⟨ds, h1, h2⟩ := h
    exact ⟨ds, views_keep cap ds (by simpa [AV.hs] using hu) h1, h2⟩
  | .hole, d, hu, h => h
  | .bool _, d, hu, h => h
  | .anyb, d, hu, h => h
  | .int _ _, d, hu, h => h
  | .str _, d, hu, h => h
  | .nilp, d, hu, h => h
  | .nils, d, hu, h => h
  | .slice _, d, hu, h => h
  | .uslice _ _, d, hu, h => h
  | .ref _, d, hu, h => h
  | .ubox _, d, hu, h => h
  | .agg _, d, hu, h => h
  | .tuple _, d, hu, h => h
theorem views_keep {s s' : St} : ∀ (as : List AV) (ds : List AV), (∀ u ∈ AV.hss as, (s u).tree = true → s' u = s u) → views s as = some ds → views s' as = some ds
  | [], ds, hu, h => h
  | a :: as, ds, hu, h => by
    simp only [AV.hss, List.mem_append] at hu
    simp only [views] at h ⊢
    split at h
    · rename_i x y h1 h2
      rw [view_keep a x (fun u hm => hu u (.inl hm)) h1, views_keep as y (fun u hm => hu u (.inr hm)) h2]; exact h
    · cases h
end

section
variable {C : Cx} {w0 w w' : World} {F0 X F Fc : Nat → Prop} {S : Nat → Nat → Prop} {s s' : St} {tm tm' : Nat → Value}

def Gv (w : World) (F : Nat → Prop) (s : St) (tm : Nat → Value) (p : PA) (v : Value) (So : Nat → Prop) : Prop :=
  p.g = true → p.o = .hole ∨ ∃ x q a0, p.a = .h x q ∧ AV.sub q (s x) = some .hole ∧ fol w q (s x) (vc (tm x)) none = some (.hole, vc v, a0) ∧ (s x).hs = [] ∧
    (q = [] → Value.isOne (tm x) = true) ∧ (q ≠ [] → (s x).tree = true) ∧ p.o.own = true ∧ RV w F p.o (vc v) So

theorem gives_ok : ∀ (ps : List PA) (vs : List Value) (s : St) (S So : Nat → Nat → Prop), RelX w0 F0 X F S s tm w → ps.length = vs.length →
    (∀ (i : Nat) (p : PA) (v : Value), ps[i]? = some p → vs[i]? = some v → Gv w F s tm p v (So i)) →
    (∀ i b, So i b → b < w.heap.size ∧ ¬ F b ∧ (X b ∨ w0.heap.size ≤ b) ∧ ∀ u, ¬ S u b) → (∀ i j b, i ≠ j → So i b → ¬ So j b) → apartPA ps = true →
    ∃ S2, RelX w0 F0 X F S2 (giveL s ps) tm w ∧ ∀ u b, S2 u b → S u b ∨ ∃ i, So i b := by
  intro ps
  induction ps with
  | nil => intro vs s S So h _ _ _ _ _; exact ⟨S, h, fun u b hb => .inl hb⟩
  | cons p ps ih =>
    intro vs s S So h hl hgv hb hd hap
    cases vs with
    | nil => simp at hl
    | cons v vs =>
      simp only [List.length_cons, Nat.add_right_cancel_iff] at hl
      simp only [apartPA, Bool.and_eq_true, List.all_eq_true, Bool.or_eq_true, Bool.not_eq_true'] at hap
      obtain ⟨hap1, hap2⟩ := hap
      have hap1' : ∀ p' ∈ ps, (p.g = true ∨ p'.g = true) → ∀ u ∈ p.a.hs, u ∉ p'.a.hs := by
        intro p' hp' hg u hu
        rcases hap1 p' hp' with e | e
        · rcases hg with hg | hg <;> simp [hg] at e
        · simpa using e u hu
      have skip : PA.give s p = s → ∃ S2, RelX w0 F0 X F S2 (giveL s (p :: ps)) tm w ∧ ∀ u b, S2 u b → S u b ∨ ∃ i, So i b := by
        intro e0
        obtain ⟨S2, g1, g2⟩ := ih vs s S (fun i => So (i + 1)) h hl (fun i p' v' hp hv => hgv (i + 1) p' v' (by simpa using hp) (by simpa using hv)) (fun i b h => hb (i + 1) b h)
          (fun i j b hne => hd (i + 1) (j + 1) b (by omega)) hap2
        refine ⟨S2, ?_, fun u b hu => (g2 u b hu).imp id fun ⟨i, hi⟩ => ⟨i + 1, hi⟩⟩
        show RelX _ _ _ _ _ (giveL (PA.give s p) ps) _ _
        rw [e0]; exact g1
      cases hg : p.g with
      | false => exact skip (by simp [PA.give, hg])
      | true =>
        rcases hgv 0 p v rfl rfl hg with ho | ⟨x, q, a0, ha, c1, c2, c3, c4, c5, c6, c7⟩
        · exact skip (by simp only [PA.give, hg, ho, if_true])
        · obtain ⟨o1, o2, o3, o4, o5, o6⟩ := own_spec c6
          have e0 : PA.give s p = upd (pgS x s) x (AV.put q p.o (s x)) := by
            simp only [PA.give, hg, if_true, ha]
            cases hpo : p.o <;> first | rfl | (rw [hpo] at c6; simp [AV.own] at c6)
          have step := h.give (x := x) (q := q) (d' := p.o) c1 c2 o4 (fun hq => ⟨o2, c4 hq⟩) (fun k r hq => ⟨c5 (by rw [hq]; simp), fun v hv => by
              cases hpo : p.o <;> first | exact hv | (rw [hpo] at c6; simp [AV.own] at c6)⟩) (by rw [o5]; rfl) c7
            (fun b h => (hb 0 b h).1) (fun b h => (hb 0 b h).2.1) (fun u b h => (hb 0 b h).2.2.2 u) (fun b h => (hb 0 b h).2.2.1)
          rw [← e0] at step
          obtain ⟨S2, g1, g2⟩ := ih vs (PA.give s p) _ (fun i => So (i + 1)) step hl (by
            intro i p' v' hp hv hg'
            have hm : p' ∈ ps := List.mem_of_getElem? hp
            rcases hgv (i + 1) p' v' (by simpa using hp) (by simpa using hv) hg' with ho | ⟨y, q', a1, k1, k2, k3, k4, k5, k6, k7, k8⟩
            · exact .inl ho
            · have hne : y ≠ x := fun e => hap1' p' hm (.inl hg) x (by rw [ha]; simp [AV.hs]) (by rw [k1, e]; simp [AV.hs])
              have hsy : PA.give s p y = s y := by
                rw [e0, upd_ne _ _ hne]
                exact pg_id _ (by rw [k4]; simp)
              exact .inr ⟨y, q', a1, k1, by rw [hsy]; exact k2, by rw [hsy]; exact k3, by rw [hsy]; exact k4, k5, by rw [hsy]; exact k6, k7, k8⟩)
            (by
              intro i b hi
              obtain ⟨b1, b2, b3, b4⟩ := hb (i + 1) b hi
              refine ⟨b1, b2, b3, fun u hu => ?_⟩
              simp only [updS] at hu
              split at hu
              · rcases hu with hu | hu
                · exact b4 _ hu
                · exact hd 0 (i + 1) b (by omega) hu hi
              · exact b4 _ hu)
            (fun i j b hne => hd (i + 1) (j + 1) b (by omega)) hap2
          refine ⟨S2, g1, fun u b hu => ?_⟩
          rcases g2 u b hu with hu | ⟨i, hi⟩
          · simp only [updS] at hu
            split at hu
            · rename_i e; subst e
              exact hu.imp id fun h => ⟨0, h⟩
            · exact .inl hu
          · exact .inr ⟨i + 1, hi⟩

def lent (ps : List PA) : Bool := ps.any fun p => !p.g && !p.a.hs.isEmpty

/-- A call: the arguments that are given are taken, the others lent; afterwards what is left of them is given back. -/
theorem call_sound (h : RelX w0 F0 X F S s tm w) {ps : List PA} {vs : List Value} {f : FuncId} {r : AV} (hl : ps.length = vs.length)
    (hsv : ∀ (i : Nat) (p : PA) (v : Value), ps[i]? = some p → vs[i]? = some v → p.a.plain = true ∧ SV w F s tm p.a v (fun _ => False))
    (hok : ∀ p ∈ ps, p.ok s) (hap : apartPA ps = true) (hf : OkAt C f (ps.map (·.d)) r (ps.map (·.o))) (hr : r.res = true)
    (hn : lent ps = true → r.nosh = true ∧ ∀ p ∈ ps, p.o.nosh = true) :
    Gets C.P f vs.toArray w fun v w' => ∃ F' S', RelX w0 F0 X F' S' (giveL (takeL s ps) ps) tm w' ∧ Val w0 X F' S' (giveL (takeL s ps) ps) tm w' r v := by
  obtain ⟨Sn, S1, g1, g2, g3, g4, g5, g6, g7, g8⟩ := takes_ok ps vs s S h hl (fun i p v hp hv => ⟨(hsv i p v hp hv).1, (hsv i p v hp hv).2, fun _ => hok p (List.mem_of_getElem? hp)⟩) hap
  have apart : ∀ (i j : Nat) (p p' : PA), ps[i]? = some p → ps[j]? = some p' → i ≠ j → (p.g = true ∨ p'.g = true) → ∀ u ∈ p.a.hs, u ∉ p'.a.hs := by
    clear hsv hok hf hn g1 g3 g4 g8 hl
    induction ps with
    | nil => intro i j p p' hp; simp at hp
    | cons p0 ps ih =>
      simp only [apartPA, Bool.and_eq_true, List.all_eq_true, Bool.or_eq_true, Bool.not_eq_true'] at hap
      obtain ⟨hap1, hap2⟩ := hap
      have hap1' : ∀ p' ∈ ps, (p0.g = true ∨ p'.g = true) → ∀ u ∈ p0.a.hs, u ∉ p'.a.hs := by
        intro p' hp' hg u hu
        rcases hap1 p' hp' with e | e
        · rcases hg with hg | hg <;> simp [hg] at e
        · simpa using e u hu
      intro i j p p' hp hp' hne hg u hu
      cases i with
      | zero =>
        simp at hp; subst hp
        cases j with
        | zero => exact (hne rfl).elim
        | succ j => exact hap1' p' (List.mem_of_getElem? (by simpa using hp')) hg u hu
      | succ i =>
        cases j with
        | zero =>
          simp at hp'; subst hp'
          exact fun hu' => hap1' p (List.mem_of_getElem? (by simpa using hp)) hg.symm u hu' hu
        | succ j => exact ih hap2 i j p p' (by simpa using hp) (by simpa using hp') (by omega) hg u hu
  let Fc : Nat → Prop := fun b => F b ∨ (lent ps = true ∧ ∃ u, S1 u b)
  let Xc : Nat → Prop := fun b => ∃ i, Sn i b
  have nX : ∀ b, F b → ¬ Xc b := fun b hF ⟨i, hi⟩ => by obtain ⟨u, hu⟩ := g5 i b hi; exact h.SF u b hu hF
  have nX1 : ∀ u b, S1 u b → ¬ Xc b := fun u b hu ⟨i, hi⟩ => g6 i u b hi hu
  have X0 : ∀ b, Xc b → (X b ∨ w0.heap.size ≤ b) ∧ b < w.heap.size := fun b ⟨i, hi⟩ => by obtain ⟨u, hu⟩ := g5 i b hi; exact ⟨h.S0 u b hu, h.Slt u b hu⟩
  have pre : RelX w Fc Xc Fc Sn (stL (ps.map (·.d))) (tmL vs) w := by
    refine ⟨fun _ h => h, fun _ h => .inl h, ?_, fun i b hi => (X0 b ⟨i, hi⟩).2, ?_, fun i j b hne => g7 i j b hne, fun i b hi => .inl ⟨i, hi⟩, ?_, fun _ _ _ => rfl, Nat.le_refl _, rfl, rfl, rfl⟩
    · rintro b (hb | ⟨_, u, hu⟩)
      · exact h.Flt b hb
      · exact g1.Slt u b hu
    · rintro i b hi (hb | ⟨_, u, hu⟩)
      · exact nX b hb ⟨i, hi⟩
      · exact g6 i u b hi hu
    · intro t
      cases hp : ps[t]? with
      | none =>
        have : stL (ps.map (·.d)) t = .hole := by simp [stL, List.getD, hp]
        rw [this, SV]; trivial
      | some p =>
        have hlt : t < vs.length := by rw [← hl]; exact (List.getElem?_eq_some_iff.1 hp).1
        have hv : vs[t]? = some vs[t] := List.getElem?_eq_getElem hlt
        have e1 : stL (ps.map (·.d)) t = p.d := by simp [stL, List.getD, hp]
        have e2 : tmL vs t = vs[t] := by simp [tmL, List.getD, hv]
        rw [e1, e2]
        have hm : p ∈ ps := List.mem_of_getElem? hp
        have hk := hok p hm
        cases hg : p.g with
        | true =>
          obtain ⟨x, q, a0, k1, k2, k3, k4, k5, k6, k7, k8⟩ := g3 t p _ hp hv hg
          simp only [PA.ok, hg, if_true, k1] at hk
          exact (SV.of_tree (own_spec hk.2.1).2.1).2 ⟨k7, RV.mono (fun b hb => .inl hb) _ _ _ _ (fun _ h => h) k8⟩
        | false =>
          simp only [PA.ok, hg] at hk
          obtain ⟨f1, f2⟩ := hsv t p _ hp hv
          have far : ∀ p' ∈ ps, p'.g = true → ∀ u ∈ p'.a.hs, u ∉ p.a.hs := by
            intro p' hp' hg' u hu
            obtain ⟨j, hj⟩ := List.getElem?_of_mem hp'
            refine apart j t p' p hj hp (fun e => ?_) (.inl hg') u hu
            subst e; rw [hp] at hj; simp only [Option.some.injEq] at hj; rw [hj, hg'] at hg; cases hg
          have f2' := g8 _ _ _ far f2
          have hk' : view (takeL s ps) p.a = some p.d := view_keep _ _ (fun u hu ht => takeL_keep (tree_hs ht) (fun p' hp' hg' hu' => far p' hp' hg' u hu' hu)) (by simpa using hk)
          refine SV.nothing (view_plain f1 hk') ((view_sv g1 (Fc := Fc) (fun b hb => .inl hb) (SizeOf.sizeOf p.a)).1 p.a _ p.d (Nat.le_refl _) ?_ hk' f2')
          intro u hu b hb
          refine .inr ⟨?_, u, hb⟩
          simp only [lent, List.any_eq_true]
          refine ⟨p, hm, ?_⟩
          cases hh : p.a.hs with
          | nil => rw [hh] at hu; cases hu
          | cons _ _ => simp [hg]
  refine Gets.mono (hf w Fc Xc Sn vs (by simp [hl]) pre) ?_
  rintro v w' ⟨F', S', hc⟩
  have keep : ∀ b, b < w.heap.size → ¬ Xc b → w'.heap[b]? = w.heap[b]? := hc.old
  let F'' : Nat → Prop := fun b => if lent ps = true then F b else F' b
  have FF : ∀ b, F b → F' b := fun b hb => hc.F0F b (.inl hb)
  have F1 : ∀ b, F b → F'' b := fun b hb => by
    simp only [F'']; split
    · exact hb
    · exact FF b hb
  have F2 : ∀ b, F'' b → F' b := fun b hb => by
    simp only [F''] at hb; split at hb
    · exact FF b hb
    · exact hb
  have F3 : ∀ b, F'' b → F b ∨ Xc b ∨ w.heap.size ≤ b := fun b hb => by
    simp only [F''] at hb; split at hb
    · exact .inl hb
    · rename_i hnl
      rcases hc.FF0 b hb with (hb | ⟨h1, _⟩) | hb | hb
      · exact .inl hb
      · exact (hnl h1).elim
      · exact .inr (.inl hb)
      · exact .inr (.inr hb)
  have mid : RelX w0 F0 X F'' S1 (takeL s ps) tm w' := by
    refine ⟨fun b hb => F1 b (g1.F0F b hb), ?_, fun b hb => hc.Flt b (F2 b hb), fun t b hb => Nat.lt_of_lt_of_le (g1.Slt t b hb) hc.size, ?_, g1.SS, g1.S0, ?_, ?_, Nat.le_trans g1.size hc.size, hc.os.trans g1.os, hc.tape.trans g1.tape, hc.output.trans g1.output⟩
    · intro b hb
      rcases F3 b hb with hb | hb | hb
      · exact g1.FF0 b hb
      · rcases (X0 b hb).1 with h | h
        · exact .inr (.inl h)
        · exact .inr (.inr h)
      · exact .inr (.inr (Nat.le_trans g1.size hb))
    · intro t b ht hb
      rcases F3 b hb with hb | hb | hb
      · exact g1.SF t b ht hb
      · exact nX1 t b ht hb
      · exact absurd (g1.Slt t b ht) (by omega)
    · intro t
      exact SV.frame (Sx := S1) (fun b hb => keep b (h.Flt b hb) (nX b hb)) F1 (fun x b hb => keep b (g1.Slt x b hb) (nX1 x b hb)) g1.sv _ _ _ (fun b hb => keep b (g1.Slt t b hb) (nX1 t b hb)) (g1.sv t)
    · intro b hb hX
      refine (keep b (Nat.lt_of_lt_of_le hb g1.size) fun hx => ?_).trans (g1.old b hb hX)
      rcases (X0 b hx).1 with h | h
      · exact hX h
      · omega
  have toF : ∀ (d : AV) (cs : List Value) (S0 : Nat → Prop), (lent ps = true → d.nosh = true) → RV w' F' d cs S0 → RV w' F'' d cs S0 := by
    intro d cs S0 hns hrv
    by_cases hle : lent ps = true
    · exact RV.nosh d cs S0 (hns hle) hrv
    · exact RV.mono (fun b hb => by simp only [F'']; rw [if_neg hle]; exact hb) _ _ _ _ (fun _ h => h) hrv
  have bound : ∀ i b, S' i b → b < w'.heap.size ∧ ¬ F'' b ∧ (X b ∨ w0.heap.size ≤ b) ∧ ∀ u, ¬ S1 u b := by
    intro i b hb
    refine ⟨hc.Slt i b hb, fun hF => hc.SF i b hb (F2 b hF), ?_, fun u hu => ?_⟩
    · rcases hc.S0 i b hb with hx | hx
      · exact (X0 b hx).1
      · exact .inr (Nat.le_trans g1.size hx)
    · rcases hc.S0 i b hb with hx | hx
      · exact nX1 u b hu hx
      · exact absurd (g1.Slt u b hu) (by omega)
  obtain ⟨S2, k1, k2⟩ := gives_ok ps vs (takeL s ps) S1 (fun i => S' (i + 1)) mid hl (by
    intro i p v' hp hv hg
    have hm : p ∈ ps := List.mem_of_getElem? hp
    have hk := hok p hm
    obtain ⟨x, q, a0, e1, e2, e3, e4, e5, e6, e7, e8⟩ := g3 i p v' hp hv hg
    simp only [PA.ok, hg, if_true, e1] at hk
    rcases hk.2.2 with ho | ho
    · exact .inl ho
    · refine .inr ⟨x, q, a0, e1, e2, ?_, e4, e5, e6, ho, ?_⟩
      · cases q with
        | nil => simpa only [fol] using e3
        | cons k q =>
          have ht := e6 (by simp)
          rw [fol_frame (k :: q) _ _ (S1 x) none _ ((SV.of_tree ht).1 (g1.sv x)).2 e2 (fun b hb => keep b (g1.Slt x b hb) (nX1 x b hb))]
          exact e3
      · have := hc.sv (i + 1)
        have e9 : stL (r :: ps.map (·.o)) (i + 1) = p.o := by simp [stL, List.getD, hp]
        have e10 : tmL (v :: vs) (i + 1) = v' := by simp [tmL, List.getD, hv]
        rw [e9, e10] at this
        exact toF _ _ _ (fun hle => (hn hle).2 p hm) ((SV.of_tree (own_spec ho).2.1).1 this).2)
    (fun i b hb => bound (i + 1) b hb) (fun i j b hne => hc.SS (i + 1) (j + 1) b (by omega)) hap
  refine ⟨F'', S2, k1, ?_⟩
  have h0 := hc.sv 0
  have e9 : stL (r :: ps.map (·.o)) 0 = r := rfl
  have e10 : tmL (v :: vs) 0 = v := rfl
  rw [e9, e10] at h0
  cases ht : r.tree with
  | false =>
    cases r <;> first
      | (simp [AV.tree] at ht; done)
      | (simp [AV.res] at hr; done)
      | exact .inl ⟨rfl, by rw [SV]; trivial⟩
  | true =>
    obtain ⟨s1, s2⟩ := (SV.of_tree ht).1 h0
    have s3 := toF _ _ _ (fun hle => (hn hle).1) s2
    refine .inr ⟨ht, s1, S' 0, s3, fun b hb => (bound 0 b hb).1, fun b hb => (bound 0 b hb).2.1, fun u b hb hu => ?_, fun b hb => (bound 0 b hb).2.2.1⟩
    rcases k2 u b hu with hu | ⟨i, hi⟩
    · exact (bound 0 b hb).2.2.2 u hu
    · exact hc.SS 0 (i + 1) b (by omega) hb hi

end
end Go.Fw
