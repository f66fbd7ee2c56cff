/- Part of a proof that a law returns true for every input. No condition. -/
import Derived.Test.YtncnipaofaeaiaaFw24
namespace Go.Fw

/-- Code, slim. -/
inductive SC where
  | skip
  | reg (ros : List RO) (keep : Option (List Nat))
  | drw (ros : List RO) (afters : List (List Nat)) (keep : Option (List Nat))
  | seq (a b : SC)
  | cond (c : SX) (a b : SC)
  | block (id : Nat) (b : SC)
  | loop (b : SC)
  | exit (id : Nat)
  | ret

def slimC (n : Fr) : Code → Option SC
  | .skip => some .skip
  | .region _ ops false => (slimRs n ops ops.toList).map fun r => .reg r none
  | .region _ ops true => if backB (aftersOf ops) = true then (slimRs n ops ops.toList).map fun r => .drw r (aftersOf ops) none else none
  | .seq a b => match slimC n a, slimC n b with
    | some a, some b => some (.seq a b)
    | _, _ => none
  | .cond c a b => match slimX c, slimC n a, slimC n b with
    | some c, some a, some b => some (.cond c a b)
    | _, _, _ => none
  | .block id b => (slimC n b).map (.block id)
  | .loop b => (slimC n b).map .loop
  | .exit id => some (.exit id)
  | .ret => some .ret
  | _ => none

/-- Without the lists of slots to keep. -/
def SC.strip : SC → SC
  | .reg ros _ => .reg ros none
  | .drw ros af _ => .drw ros af none
  | .seq a b => .seq a.strip b.strip
  | .cond c a b => .cond c a.strip b.strip
  | .block id b => .block id b.strip
  | .loop b => .loop b.strip
  | c => c

/-- What comes after a part: on, or what stands for the whole. -/
def andThen (K : St → Prop) (Q : Exit → St → Prop) : Exit → St → Prop
  | .normal, s => K s
  | e, s => Q e s

def inBlk (id : Nat) (Q : Exit → St → Prop) : Exit → St → Prop
  | .exit i, s => if i = id then Q .normal s else Q (.exit i) s
  | e, s => Q e s

/-- On, from this state or from one that says less. -/
def onW (K : St → Prop) (s : St) : Prop := K s ∨ ∃ l, WeakL s l ∧ K (stA l)

/-- On, with the slots that are kept; or with a weaker state. -/
def kp : Option (List Nat) → (St → Prop) → St → Prop
  | none, K, s => onW K s
  | some k, K, s => K (stA (k.map fun t => (t, s t)))

def wpC (C : Cx) : SC → (Exit → St → Prop) → St → Prop
  | .skip, Q, s => Q .normal s
  | .reg ros keep, Q, s => wpRs C s ros (kp keep (Q .normal))
  | .drw ros afters keep, Q, s => ∀ l, Lin afters l → wpI C ros s l (kp keep (Q .normal))
  | .seq a b, Q, s => wpC C a (andThen (onW (wpC C b Q)) Q) s
  | .cond c a b, Q, s => match ev s c with
    | .bool b' => if b' = true then wpC C a Q s else wpC C b Q s
    | .anyb => wpC C a Q s ∧ wpC C b Q s
    | _ => False
  | .block id b, Q, s => wpC C b (inBlk id Q) s
  | .loop b, Q, s => onW (fun s => ∀ Z : St → Prop, (∀ s', wpC C b (andThen (onW Z) Q) s' → Z s') → Z s) s
  | .exit id, Q, s => Q (.exit id) s
  | .ret, Q, s => Q .ret s

section
variable {C : Cx}

theorem wpR_mono {s : St} {o : RO} {K K' : St → Prop} (h : wpR C s o K) (hk : ∀ s, K s → K' s) : wpR C s o K' := by
  unfold wpR at h ⊢
  split
  · rename_i hg; rw [hg] at h; exact wpO_mono h fun av s1 => hk _
  · rename_i t b hg
    rw [hg] at h
    simp only at h
    split
    · rename_i b' hs
      rw [hs] at h
      simp only at h
      split
      · rename_i hb; rw [if_pos hb] at h; exact wpO_mono h fun av s1 => hk _
      · rename_i hb; rw [if_neg hb] at h; exact hk _ h
    · rename_i hs; rw [hs] at h; exact hk _ h
    · rename_i h1 h2
      split at h
      · exact h1 _ (by assumption)
      · exact h2 (by assumption)
      · exact h

theorem wpRs_mono {K K' : St → Prop} (hk : ∀ s, K s → K' s) : ∀ {ros : List RO} {s : St}, wpRs C s ros K → wpRs C s ros K' := by
  intro ros
  induction ros with
  | nil => intro s h; exact hk s h
  | cons o ros ih => intro s h; exact wpR_mono h fun s h => ih h

theorem wpI_mono {ros : List RO} {K K' : St → Prop} (hk : ∀ s, K s → K' s) : ∀ {l : List Nat} {s : St}, wpI C ros s l K → wpI C ros s l K' := by
  intro l
  induction l with
  | nil => intro s h; exact hk s h
  | cons i l ih =>
    intro s h
    simp only [wpI] at h ⊢
    split
    · rename_i ho; rw [ho] at h; exact ih h
    · rename_i o ho; rw [ho] at h; exact wpR_mono h fun s h => ih h

theorem onW_mono {K K' : St → Prop} (hk : ∀ s, K s → K' s) (s : St) (h : onW K s) : onW K' s :=
  h.imp (hk s) fun ⟨l, h1, h2⟩ => ⟨l, h1, hk _ h2⟩

theorem kp_mono {keep : Option (List Nat)} {K K' : St → Prop} (hk : ∀ s, K s → K' s) (s : St) (h : kp keep K s) : kp keep K' s := by
  cases keep with
  | none => exact onW_mono hk s h
  | some k => exact hk _ h

theorem kp_onW {keep : Option (List Nat)} {K : St → Prop} {s : St} (h : kp keep K s) : onW K s := by
  cases keep with
  | none => exact h
  | some k =>
    refine .inr ⟨_, ?_, h⟩
    intro p hp
    obtain ⟨t, _, rfl⟩ := List.mem_map.1 hp
    exact .inl rfl

theorem andThen_mono {K K' : St → Prop} {Q Q' : Exit → St → Prop} (hk : ∀ s, K s → K' s) (hq : ∀ e s, Q e s → Q' e s) : ∀ e s, andThen K Q e s → andThen K' Q' e s := by
  intro e s h
  cases e with
  | normal => exact hk s h
  | _ => exact hq _ s h

theorem wpC_mono : ∀ (c : SC) {Q Q' : Exit → St → Prop} {s : St}, (∀ e s, Q e s → Q' e s) → wpC C c Q s → wpC C c Q' s := by
  intro c
  induction c with
  | skip => intro Q Q' s hq h; exact hq _ _ h
  | reg ros keep => intro Q Q' s hq h; exact wpRs_mono (kp_mono (hq _)) h
  | drw ros afters keep => intro Q Q' s hq h l hl; exact wpI_mono (kp_mono (hq _)) (h l hl)
  | seq a b iha ihb =>
    intro Q Q' s hq h
    exact iha (andThen_mono (fun s h => onW_mono (fun _ h => ihb hq h) s h) hq) h
  | cond c a b iha ihb =>
    intro Q Q' s hq h
    simp only [wpC] at h ⊢
    split
    · rename_i b' hb
      rw [hb] at h
      simp only at h
      split
      · rename_i e; rw [if_pos e] at h; exact iha hq h
      · rename_i e; rw [if_neg e] at h; exact ihb hq h
    · rename_i hb; rw [hb] at h; exact ⟨iha hq h.1, ihb hq h.2⟩
    · rename_i h1 h2
      split at h
      · exact h1 _ (by assumption)
      · exact h2 (by assumption)
      · exact h
  | block id b ih =>
    intro Q Q' s hq h
    refine ih ?_ h
    intro e s h
    cases e with
    | exit i =>
      simp only [inBlk] at h ⊢
      split
      · rename_i e; rw [if_pos e] at h; exact hq _ _ h
      · rename_i e; rw [if_neg e] at h; exact hq _ _ h
    | _ => exact hq _ _ h
  | loop b ih =>
    intro Q Q' s hq h
    refine onW_mono (fun s h Z hZ => ?_) s h
    exact h Z fun s' hs' => hZ s' (ih (andThen_mono (fun _ h => h) hq) hs')
  | exit id => intro Q Q' s hq h; exact hq _ _ h
  | ret => intro Q Q' s hq h; exact hq _ _ h

/-- A loop is its body, and then the loop. -/
theorem wpC_loop {b : SC} {Q : Exit → St → Prop} {s : St} (h : wpC C b (andThen (wpC C (.loop b) Q) Q) s) : wpC C (.loop b) Q s := by
  refine .inl fun Z hZ => ?_
  exact hZ s (wpC_mono b (andThen_mono (fun s' h' => onW_mono (fun s h => h Z hZ) s' h') (fun _ _ h => h)) h)

/-- The same of a weaker state. -/
theorem wpC_loop_weak {b : SC} {Q : Exit → St → Prop} {s : St} (l : List (Nat × AV)) (hl : WeakL s l) (h : wpC C b (andThen (wpC C (.loop b) Q) Q) (stA l)) : wpC C (.loop b) Q s := by
  refine .inr ⟨l, hl, fun Z hZ => ?_⟩
  exact hZ _ (wpC_mono b (andThen_mono (fun s' h' => onW_mono (fun s h => h Z hZ) s' h') (fun _ _ h => h)) h)

theorem wpC_strip : ∀ (c : SC) {Q : Exit → St → Prop} {s : St}, wpC C c Q s → wpC C c.strip Q s := by
  intro c
  induction c with
  | reg ros keep => intro Q s h; exact wpRs_mono (fun s h => kp_onW h) h
  | drw ros af keep => intro Q s h l hl; exact wpI_mono (fun s h => kp_onW h) (h l hl)
  | seq a b iha ihb => intro Q s h; exact iha (wpC_mono a (andThen_mono (fun s h => onW_mono (fun _ h => ihb h) s h) (fun _ _ h => h)) h)
  | cond c a b iha ihb =>
    intro Q s h
    simp only [SC.strip, wpC] at h ⊢
    split
    · rename_i b' hb
      rw [hb] at h
      simp only at h
      split
      · rename_i e; rw [if_pos e] at h; exact iha h
      · rename_i e; rw [if_neg e] at h; exact ihb h
    · rename_i hb; rw [hb] at h; exact ⟨iha h.1, ihb h.2⟩
    · rename_i h1 h2
      split at h
      · exact h1 _ (by assumption)
      · exact h2 (by assumption)
      · exact h
  | block id b ih => intro Q s h; exact ih h
  | loop b ih =>
    intro Q s h
    refine onW_mono (fun s h Z hZ => ?_) s h
    exact h Z fun s' hs' => hZ s' (ih hs')
  | _ => intro Q s h; exact h

variable {w0 w : World} {F0 X : Nat → Prop} {n : Fr} {ρ : Nat → Value} {s : St} {a : Act}

/-- Where code arrives: a state that the abstract one describes. -/
def Arr (w0 : World) (F0 X : Nat → Prop) (n : Fr) (ρ : Nat → Value) (Q : Exit → St → Prop) : Exit → Act → World → Prop := fun e a w => ∃ s, Q e s ∧ Rel w0 F0 X n ρ s a w

theorem Rel.onW {K : St → Prop} {s : St} {a : Act} {w : World} (hr : Rel w0 F0 X n ρ s a w) (h : onW K s) : ∃ s', K s' ∧ Rel w0 F0 X n ρ s' a w := by
  rcases h with h | ⟨l, h1, h2⟩
  · exact ⟨s, h, hr⟩
  · obtain ⟨g1, g2, g3, F, S, g4⟩ := hr
    obtain ⟨F', S', g5⟩ := g4.weak h1
    exact ⟨stA l, h2, g1, g2, g3, F', S', g5⟩

theorem wpC_sound (hC : C.Ok) : ∀ (c : Code) {sc : SC} {Q : Exit → St → Prop} {s : St} {a : Act} {w : World}, slimC n c = some sc → wpC C sc Q s → Rel w0 F0 X n ρ s a w → c.wp C.P (Arr w0 F0 X n ρ Q) a w := by
  intro c
  induction c with
  | skip =>
    intro sc Q s a w hs h hr
    simp only [slimC, Option.some.injEq] at hs; subst hs
    exact wp_skip ⟨s, h, hr⟩
  | region id ops draw =>
    intro sc Q s a w hs h hr
    cases draw with
    | false =>
      simp only [slimC, Option.map_eq_some_iff] at hs
      obtain ⟨ros, hros, rfl⟩ := hs
      exact region_sound hC hros (fun s' a' w' hk hr' => hr'.onW hk) h hr
    | true =>
      simp only [slimC] at hs
      split at hs
      · rename_i hb
        simp only [Option.map_eq_some_iff] at hs
        obtain ⟨ros, hros, rfl⟩ := hs
        refine wp_region_draw fun t => ?_
        rw [show Region.schedule (C.P.follows .mixedOrders) ops t = Region.linearise .any ops t by simp [Region.schedule, hC.mixed]]
        exact ops_sound hC hros (fun s' a' w' hk hr' => hr'.onW hk) _ s a _ (h _ (lin_linearise hb t)) (hr.drawn _)
      · cases hs
  | seq x y ihx ihy =>
    intro sc Q s a w hs h hr
    simp only [slimC] at hs
    split at hs
    · rename_i sx sy hx hy
      simp only [Option.some.injEq] at hs; subst hs
      refine wp_seq (wp_mono (ihx hx h hr) ?_)
      rintro e a' w' ⟨s', h', hr'⟩
      cases e with
      | normal =>
        obtain ⟨s', h', hr'⟩ := hr'.onW h'
        exact ihy hy h' hr'
      | _ => exact ⟨s', h', hr'⟩
    · cases hs
  | cond x y z ihy ihz =>
    intro sc Q s a w hs h hr
    simp only [slimC] at hs
    split at hs
    · rename_i sx sy sz hx hy hz
      simp only [Option.some.injEq] at hs; subst hs
      have hr' := hr
      obtain ⟨hd, hsz, hf, F, S, hrel⟩ := hr'
      have hv := (ev_sv (a := a) hrel (fun _ => rfl) hx).2
      simp only [wpC] at h
      split at h
      · rename_i b' hb
        rw [hb] at hv
        have := sv_bool hv
        refine wp_cond this ?_
        split
        · rename_i e; rw [if_pos e] at h; exact ihy hy h hr
        · rename_i e; rw [if_neg e] at h; exact ihz hz h hr
      · rename_i hb
        rw [hb] at hv
        obtain ⟨b', hb'⟩ := sv_anyb hv
        refine wp_cond hb' ?_
        split
        · exact ihy hy h.1 hr
        · exact ihz hz h.2 hr
      · exact h.elim
    · cases hs
  | block id b ih =>
    intro sc Q s a w hs h hr
    simp only [slimC, Option.map_eq_some_iff] at hs
    obtain ⟨sb, hb, rfl⟩ := hs
    refine wp_block (wp_mono (ih hb h hr) ?_)
    rintro e a' w' ⟨s', h', hr'⟩
    cases e with
    | exit i =>
      simp only [inBlk] at h'
      simp only [Exit.inBlock]
      split
      · rename_i e; rw [if_pos e] at h'; exact ⟨s', h', hr'⟩
      · rename_i e; rw [if_neg e] at h'; exact ⟨s', h', hr'⟩
    | _ => exact ⟨s', h', hr'⟩
  | loop b ih =>
    intro sc Q s a w hs h hr
    simp only [slimC, Option.map_eq_some_iff] at hs
    obtain ⟨sb, hb, rfl⟩ := hs
    obtain ⟨s, h, hr⟩ := hr.onW h
    have key := h (fun s => ∀ a w, Rel w0 F0 X n ρ s a w → ∀ (f : Frame) (k : List Item) (cs : List Frame), ∃ e a' w', Arr w0 F0 X n ρ Q e a' w' ∧ Arrives C.P (lone (f.at a (.code b :: .inLoop b :: k)) cs w) f k cs e a' w') ?_
    · intro f k cs
      obtain ⟨e, a', w', hq, harr⟩ := key a w hr f k cs
      exact ⟨e, a', w', hq, .of_steps (.one step_loop) harr⟩
    · intro s' hs' a w hr f k cs
      obtain ⟨e, a₁, w₁, ⟨s1, hq, hr1⟩, harr⟩ := ih hb hs' hr f (.inLoop b :: k) cs
      cases e with
      | normal =>
        simp only [andThen] at hq
        obtain ⟨s1, hq, hr1⟩ := hr1.onW hq
        obtain ⟨e₂, a₂, w₂, hq₂, harr₂⟩ := hq a₁ w₁ hr1 f k cs
        exact ⟨e₂, a₂, w₂, hq₂, .of_steps (Steps.trans harr (.one step_inLoop)) harr₂⟩
      | exit id => exact ⟨_, a₁, w₁, ⟨s1, hq, hr1⟩, .pass (x := .inLoop b) rfl (fun _ _ => .inl (by simp)) harr⟩
      | goto l => exact ⟨_, a₁, w₁, ⟨s1, hq, hr1⟩, .pass (x := .inLoop b) rfl (fun _ _ => .inl (by simp)) harr⟩
      | ret => exact ⟨_, a₁, w₁, ⟨s1, hq, hr1⟩, .pass (x := .inLoop b) rfl (fun _ _ => .inl (by simp)) harr⟩
      | panic ch => exact ⟨_, a₁, w₁, ⟨s1, hq, hr1⟩, .pass (x := .inLoop b) rfl (fun _ _ => .inl (by simp)) harr⟩
      | outgrown => exact ⟨_, a₁, w₁, ⟨s1, hq, hr1⟩, .pass (x := .inLoop b) rfl (fun _ _ => .inl (by simp)) harr⟩
  | exit id =>
    intro sc Q s a w hs h hr
    simp only [slimC, Option.some.injEq] at hs; subst hs
    exact wp_exit ⟨s, h, hr⟩
  | ret =>
    intro sc Q s a w hs h hr
    simp only [slimC, Option.some.injEq] at hs; subst hs
    exact wp_ret ⟨s, h, hr⟩
  | _ => intro sc Q s a w hs; simp [slimC] at hs

end
end Go.Fw
