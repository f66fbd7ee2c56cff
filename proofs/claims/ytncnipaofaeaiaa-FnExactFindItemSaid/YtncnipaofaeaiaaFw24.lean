/- Part of a proof that a law returns true for every input. No condition. -/
import Derived.Test.YtncnipaofaeaiaaFw23
namespace Go.Fw

/-- A state as a list. -/
def stA : List (Nat × AV) → St
  | [], _ => .hole
  | (u, d) :: l, t => if t = u then d else stA l t

-- A wider description of the same cells.
mutual
inductive Wd : AV → AV → Prop
  | refl (d : AV) : Wd d d
  | nilsU (sz : Nat) : Wd .nils (.uslice sz [])
  | nilsS : Wd .nils (.slice [])
  | any (b : Bool) : Wd (.bool b) .anyb
  | share (d : AV) : d.tree = true → (∀ vs, d ≠ .tuple vs) → Wd d d.share
  | agg {ds es : List AV} : Wds ds es → Wd (.agg ds) (.agg es)
  | ubox {d e : AV} : Wd d e → Wd (.ubox d) (.ubox e)
  | uslice {sz : Nat} {ds es : List AV} : Wds ds es → Wd (.uslice sz ds) (.uslice sz es)
inductive Wds : List AV → List AV → Prop
  | nil : Wds [] []
  | cons {d e : AV} {ds es : List AV} : Wd d e → Wds ds es → Wds (d :: ds) (e :: es)
end

mutual
theorem Wd.wd : ∀ {d e : AV}, Wd d e → e.wd = d.wd
  | _, _, .refl _ => rfl
  | _, _, .nilsU _ => rfl
  | _, _, .nilsS => rfl
  | _, _, .any _ => rfl
  | _, _, .share d _ _ => AV.share_wd d
  | _, _, .agg h => by simp only [AV.wd]; exact Wds.wd h
  | _, _, .ubox _ => rfl
  | _, _, .uslice _ => rfl
theorem Wds.wd : ∀ {ds es : List AV}, Wds ds es → AV.wds es = AV.wds ds
  | _, _, .nil => rfl
  | _, _, .cons h hs => by simp only [AV.wds]; rw [Wd.wd h, Wds.wd hs]
end
theorem Wds.len {ds es : List AV} (h : Wds ds es) : es.length = ds.length := by
  induction ds generalizing es with
  | nil => cases h; rfl
  | cons d ds ih => cases h with | cons h hs => simp [ih hs]
theorem Wds.all {sz : Nat} {ds es : List AV} (h : Wds ds es) (hd : ∀ d ∈ ds, d.wd = sz) : ∀ d ∈ es, d.wd = sz := by
  induction ds generalizing es with
  | nil => cases h; intro d hd; cases hd
  | cons d ds ih =>
    cases h with
    | cons h hs =>
      intro x hx
      rcases List.mem_cons.1 hx with rfl | hx
      · rw [h.wd]; exact hd d (by simp)
      · exact ih hs (fun d hm => hd d (by simp [hm])) x hx

section
variable {w0 w : World} {F0 X F : Nat → Prop} {S : Nat → Nat → Prop} {s s' : St} {tm : Nat → Value}

def WdOk (w : World) (F : Nat → Prop) (_d e : AV) (cs : List Value) (S : Nat → Prop) : Prop :=
  ∃ Sf Sr : Nat → Prop, (∀ b, Sf b → S b) ∧ (∀ b, Sr b → S b) ∧ (∀ b, Sr b → ¬ Sf b) ∧ ∀ F', (∀ b, F b ∨ Sf b → F' b) → RV w F' e cs Sr

mutual
theorem RV.wider : ∀ {d e : AV}, Wd d e → ∀ {cs : List Value} {S : Nat → Prop}, RV w F d cs S → WdOk w F d e cs S
  | _, _, .refl _, cs, S, h => ⟨fun _ => False, S, fun _ h => h.elim, fun _ h => h, fun _ _ h => h, fun F' hF => RV.mono (fun b hb => hF b (.inl hb)) _ _ _ _ (fun _ h => h) h⟩
  | .nils, _, .nilsU sz, cs, S, h => ⟨fun _ => False, S, fun _ h => h.elim, fun _ h => h, fun _ _ h => h, fun F' hF => by simp only [RV] at h ⊢; exact .inl ⟨trivial, h⟩⟩
  | .nils, _, .nilsS, cs, S, h => ⟨fun _ => False, S, fun _ h => h.elim, fun _ h => h, fun _ _ h => h, fun F' hF => by simp only [RV] at h ⊢; exact .inl ⟨trivial, none, 0, h, Nat.zero_le _, fun _ => rfl⟩⟩
  | .bool _, _, .any b, cs, S, h => ⟨fun _ => False, S, fun _ h => h.elim, fun _ h => h, fun _ _ h => h, fun F' hF => by simp only [RV] at h ⊢; exact ⟨b, h⟩⟩
  | _, _, .share d _ _, cs, S, h => ⟨S, fun _ => False, fun _ h => h, fun _ h => h.elim, fun _ h => h.elim, fun F' hF => RV.shared (fun b hb => hF b (.inl hb)) d cs S (fun b hb => hF b (.inr hb)) h⟩
  | _, _, .agg hds, cs, S, h => by
    rw [RV] at h
    obtain ⟨Sf, Sr, h1, h2, h3, h4⟩ := RVs.wider hds h
    exact ⟨Sf, Sr, h1, h2, h3, fun F' hF => by rw [RV]; exact h4 F' hF⟩
  | _, _, .ubox hd, cs, S, h => by
    rw [RV] at h
    obtain ⟨b, cur, ty, fr, S', k1, k2, k3, k4, k5, k6, k7⟩ := h
    obtain ⟨Sf, Sr, h1, h2, h3, h4⟩ := RV.wider hd k5
    refine ⟨Sf, fun c => c = b ∨ Sr c, fun c hc => k6 c (h1 c hc), ?_, ?_, fun F' hF => ?_⟩
    · rintro c (rfl | hc)
      · exact k2
      · exact k6 c (h2 c hc)
    · rintro c (rfl | hc) hf
      · exact k7 (h1 _ hf)
      · exact h3 c hc hf
    · rw [RV]
      exact ⟨b, cur, ty, fr, Sr, k1, .inl rfl, k3, k4, h4 F' hF, fun c hc => .inr hc, fun hc => k7 (h2 _ hc)⟩
  | .uslice sz ds, .uslice _ es, .uslice hds, cs, S, h => by
    rw [RV] at h
    have hl := hds.len
    rcases h with ⟨h1, h2⟩ | ⟨b, cap, cur, ty, fr, S', k1, k2, k3, k4, k5, k6, k7, k8, k9, k10, k11⟩
    · refine ⟨fun _ => False, S, fun _ h => h.elim, fun _ h => h, fun _ _ h => h, fun F' _ => ?_⟩
      rw [RV]
      subst h1
      exact .inl ⟨List.length_eq_zero_iff.1 (by simpa using hl), h2⟩
    · obtain ⟨Sf, Sr, h1, h2, h3, h4⟩ := RVs.wider hds k9
      refine ⟨Sf, fun c => c = b ∨ Sr c, fun c hc => k10 c (h1 c hc), ?_, ?_, fun F' hF => ?_⟩
      · rintro c (rfl | hc)
        · exact k2
        · exact k10 c (h2 c hc)
      · rintro c (rfl | hc) hf
        · exact k11 (h1 _ hf)
        · exact h3 c hc hf
      · rw [RV]
        refine .inr ⟨b, cap, cur, ty, fr, Sr, by rw [hl]; exact k1, .inl rfl, k3, k4, by rw [hl]; exact k5, k6, k7, hds.all k8, by rw [hl]; exact h4 F' hF, fun c hc => .inr hc, fun hc => k11 (h2 _ hc)⟩
theorem RVs.wider : ∀ {ds es : List AV}, Wds ds es → ∀ {cs : List Value} {S : Nat → Prop}, RVs w F ds cs S →
    ∃ Sf Sr : Nat → Prop, (∀ b, Sf b → S b) ∧ (∀ b, Sr b → S b) ∧ (∀ b, Sr b → ¬ Sf b) ∧ ∀ F', (∀ b, F b ∨ Sf b → F' b) → RVs w F' es cs Sr
  | _, _, .nil, cs, S, h => ⟨fun _ => False, fun _ => False, fun _ h => h.elim, fun _ h => h.elim, fun _ h => h.elim, fun F' hF => by rw [RVs] at h ⊢; exact h⟩
  | _, _, .cons hd hds, cs, S, h => by
    rw [RVs] at h
    obtain ⟨c1, c2, S1, S2, rfl, g2, g3, g4, g5, g6⟩ := h
    obtain ⟨Sf1, Sr1, a1, a2, a3, a4⟩ := RV.wider hd g2
    obtain ⟨Sf2, Sr2, b1, b2, b3, b4⟩ := RVs.wider hds g3
    refine ⟨fun b => Sf1 b ∨ Sf2 b, fun b => Sr1 b ∨ Sr2 b, ?_, ?_, ?_, fun F' hF => ?_⟩
    · rintro b (h | h)
      · exact g4 b (a1 b h)
      · exact g5 b (b1 b h)
    · rintro b (h | h)
      · exact g4 b (a2 b h)
      · exact g5 b (b2 b h)
    · rintro b (h | h) (h' | h')
      · exact a3 b h h'
      · exact g6 b (a2 b h) (b1 b h')
      · exact g6 b (a1 b h') (b2 b h)
      · exact b3 b h h'
    · rw [RVs]
      refine ⟨c1, c2, Sr1, Sr2, rfl, a4 F' (fun b hb => hF b (hb.imp id .inl)), b4 F' (fun b hb => hF b (hb.imp id .inr)), fun b hb => .inl hb, fun b hb => .inr hb, fun b h1 h2 => g6 b (a2 b h1) (b2 b h2)⟩
end

theorem Wd.shp {d e : AV} {v : Value} (h : Wd d e) (hs : shp d v) : shp e v := by
  cases h with
  | refl => exact hs
  | nilsU => exact hs
  | nilsS => exact hs
  | any => exact hs
  | share _ _ hnt => exact shp_share hnt hs
  | agg => exact hs
  | ubox => exact hs
  | uslice => exact hs

theorem Wd.tree {d e : AV} (h : Wd d e) (hd : d.tree = true) : e.tree = true := by
  cases h with
  | refl => exact hd
  | share _ _ _ => cases d <;> first | exact hd | rfl
  | _ => rfl

/-- What keeps true when slots are dropped. -/
theorem SV.keep {F' : Nat → Prop} (hF : ∀ b, F b → F' b) : ∀ n, (∀ (d : AV) (v : Value) (S0 : Nat → Prop), SizeOf.sizeOf d ≤ n → (∀ x ∈ d.hs, s' x = s x ∨ s' x = .hole) → SV w F s tm d v S0 → SV w F' s' tm d v S0) ∧
    (∀ (ds : List AV) (vs : List Value), SizeOf.sizeOf ds ≤ n → (∀ x ∈ AV.hss ds, s' x = s x ∨ s' x = .hole) → SVs w F s tm ds vs → SVs w F' s' tm ds vs) := by
  intro n
  induction n with
  | zero =>
    refine ⟨fun d v S0 hz => ?_, fun ds vs hz => ?_⟩
    · cases d <;> simp at hz <;> omega
    · cases ds <;> simp at hz <;> omega
  | succ n ih =>
    refine ⟨fun d v S0 hz hk h => ?_, fun ds vs hz hk h => ?_⟩
    · cases d with
      | hole => rw [SV]; trivial
      | h x q =>
        rw [SV] at h ⊢
        intro e hsub hp
        rcases hk x (by simp [AV.hs]) with he | he
        · rw [he] at hsub ⊢; exact h e hsub hp
        · rw [he] at hsub
          cases q with
          | nil => simp only [AV.sub, Option.some.injEq] at hsub; subst hsub; simp [AV.plain] at hp
          | cons k q => simp [AV.sub] at hsub
      | hp x q =>
        rw [SV] at h ⊢
        intro e hsub hc
        rcases hk x (by simp [AV.hs]) with he | he
        · rw [he] at hsub hc ⊢; exact h e hsub hc
        · rw [he] at hc
          cases q <;> simp [AV.cross] at hc
      | fn f cap =>
        rw [SV] at h ⊢
        obtain ⟨arr, rfl, hc⟩ := h
        exact ⟨arr, rfl, ih.2 _ _ (by simp at hz; omega) (by simpa [AV.hs] using hk) hc⟩
      | _ =>
        have h' := (SV.of_tree rfl).1 h
        exact (SV.of_tree rfl).2 ⟨h'.1, RV.mono hF _ _ _ _ (fun _ h => h) h'.2⟩
    · cases ds with
      | nil => rw [SVs] at h ⊢; exact h
      | cons d ds =>
        rw [SVs] at h ⊢
        obtain ⟨v, vs', rfl, h1, h2⟩ := h
        simp at hz
        simp only [AV.hss, List.mem_append] at hk
        exact ⟨v, vs', rfl, ih.1 _ _ _ (by omega) (fun x hx => hk x (.inl hx)) h1, ih.2 _ _ (by omega) (fun x hx => hk x (.inr hx)) h2⟩

/-- A list that describes a state, maybe less of it. -/
def WeakL (s : St) (l : List (Nat × AV)) : Prop :=
  ∀ p ∈ l, p.2 = s p.1 ∨ ((s p.1).tree = true ∧ Wd (s p.1) p.2 ∧ ∀ p' ∈ l, p.1 ∉ p'.2.hs)

theorem stA_spec : ∀ (l : List (Nat × AV)) (t : Nat), stA l t = .hole ∨ ∃ p ∈ l, p.1 = t ∧ stA l t = p.2 := by
  intro l
  induction l with
  | nil => intro t; exact .inl rfl
  | cons p l ih =>
    intro t
    obtain ⟨u, d⟩ := p
    simp only [stA]
    split
    · rename_i e; exact .inr ⟨(u, d), by simp, e.symm, rfl⟩
    · rcases ih t with h | ⟨p, hp, h⟩
      · exact .inl h
      · exact .inr ⟨p, by simp [hp], h⟩

theorem RelX.weak (h : RelX w0 F0 X F S s tm w) {l : List (Nat × AV)} (hw : WeakL s l) : ∃ F' S', RelX w0 F0 X F' S' (stA l) tm w := by
  have each : ∀ t, ∃ Sf Sr : Nat → Prop, (∀ b, Sf b → S t b) ∧ (∀ b, Sr b → S t b) ∧ (∀ b, Sr b → ¬ Sf b) ∧ ∀ F', (∀ b, F b ∨ Sf b → F' b) → SV w F' (stA l) tm (stA l t) (tm t) Sr := by
    intro t
    rcases stA_spec l t with e | ⟨p, hp, rfl, e⟩
    · exact ⟨fun _ => False, fun _ => False, fun _ h => h.elim, fun _ h => h.elim, fun _ h => h.elim, fun F' _ => by rw [e, SV]; trivial⟩
    · rw [e]
      rcases hw p hp with hk | ⟨ht, hwd, _⟩
      · refine ⟨fun _ => False, S p.1, fun _ h => h.elim, fun _ h => h, fun _ _ h => h, fun F' hF => ?_⟩
        rw [hk]
        refine (SV.keep (fun b hb => hF b (.inl hb)) (SizeOf.sizeOf (s p.1))).1 _ _ _ (Nat.le_refl _) ?_ (h.sv p.1)
        intro x hx
        rcases stA_spec l x with e' | ⟨p', hp', rfl, e'⟩
        · exact .inr e'
        · rcases hw p' hp' with hk' | ⟨_, _, hno⟩
          · exact .inl (e'.trans hk')
          · exact (hno p hp (by rw [hk]; exact hx)).elim
      · obtain ⟨g1, g2⟩ := (SV.of_tree ht).1 (h.sv p.1)
        obtain ⟨Sf, Sr, k1, k2, k3, k4⟩ := RV.wider hwd g2
        exact ⟨Sf, Sr, k1, k2, k3, fun F' hF => (SV.of_tree (hwd.tree ht)).2 ⟨hwd.shp g1, k4 F' hF⟩⟩
  have c1 := fun t => (each t).choose_spec
  let Sf := fun t => (each t).choose
  have c2 := fun t => (c1 t).choose_spec
  let Sr := fun t => (c1 t).choose
  have q1 : ∀ t b, Sf t b → S t b := fun t => (c2 t).1
  have q2 : ∀ t b, Sr t b → S t b := fun t => (c2 t).2.1
  have q3 : ∀ t b, Sr t b → ¬ Sf t b := fun t => (c2 t).2.2.1
  have q4 := fun t => (c2 t).2.2.2
  refine ⟨fun b => F b ∨ ∃ t, Sf t b, Sr, fun b hb => .inl (h.F0F b hb), ?_, ?_, fun t b hb => h.Slt t b (q2 t b hb), ?_, fun t u b hne hb hu => h.SS t u b hne (q2 t b hb) (q2 u b hu), fun t b hb => h.S0 t b (q2 t b hb), ?_, h.old, h.size, h.os, h.tape, h.output⟩
  · rintro b (hb | ⟨t, hb⟩)
    · exact h.FF0 b hb
    · exact .inr (h.S0 t b (q1 t b hb))
  · rintro b (hb | ⟨t, hb⟩)
    · exact h.Flt b hb
    · exact h.Slt t b (q1 t b hb)
  · rintro t b hb (hf | ⟨u, hu⟩)
    · exact h.SF t b (q2 t b hb) hf
    · by_cases e : t = u
      · subst e; exact q3 t b hb hu
      · exact h.SS t u b e (q2 t b hb) (q1 u b hu)
  · intro t
    exact q4 t _ (fun b hb => hb.imp id fun h => ⟨t, h⟩)

end
end Go.Fw
