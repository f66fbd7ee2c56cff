/- Part of a proof that a law returns true for every input. No condition. -/
import Derived.Test.YtncnipaofaeaiaaFw21
import Derived.Orders
namespace Go.Fw

section
variable {C : Cx} {w0 w : World} {F0 X : Nat → Prop} {n : Fr} {ρ : Nat → Value} {s s1 : St} {a : Act} {av : AV} {Q : Exit → Act → World → Prop}

theorem slimRs_get {ops : Array Oper} : ∀ {os : List Oper} {rs : List RO}, slimRs n ops os = some rs → os.length = rs.length ∧ ∀ (i : Nat) (o : Oper), os[i]? = some o → ∃ r, rs[i]? = some r ∧ slimR n ops o = some r := by
  intro os
  induction os with
  | nil => intro rs h; simp only [slimRs, Option.some.injEq] at h; subst h; exact ⟨rfl, fun i o h => by simp at h⟩
  | cons o os ih =>
    intro rs h
    simp only [slimRs] at h
    split at h
    · rename_i r rs' h1 h2
      simp only [Option.some.injEq] at h; subst h
      obtain ⟨k1, k2⟩ := ih h2
      refine ⟨by simp [k1], fun i o' ho => ?_⟩
      cases i with
      | zero => simp at ho; subst ho; exact ⟨r, rfl, h1⟩
      | succ i => simpa using k2 i o' (by simpa using ho)
    · cases h

theorem wanted_none {o : Oper} {y : Nat → Option Bool} (h : o.guard = none) : Region.wanted o y = true := by simp [Region.wanted, h]

theorem yielded_slot (h : Rel w0 F0 X n ρ s a w) {ops : Array Oper} {j t : Nat} (hj : (ops[j]?).bind (·.dst) = some t) :
    (∀ b, s t = .bool b → yielded ops a.tmps j = some b) ∧ (s t = .tuple [] → yielded ops a.tmps j = none) := by
  obtain ⟨hd, hs, hf, F, S, hr⟩ := h
  have hsv := hr.sv t
  refine ⟨fun b hb => ?_, fun hb => ?_⟩
  · rw [hb] at hsv
    have hv := sv_bool hsv
    simp only [yielded, hj, Option.bind_some]
    rw [Array.getD_eq_getD_getElem?] at hv
    cases hg : a.tmps[t]? with
    | none => rw [hg] at hv; simp [undef] at hv
    | some v => rw [hg] at hv; simp at hv; subst hv; rfl
  · rw [hb] at hsv
    obtain ⟨⟨arr, h1, h2⟩, _⟩ := (SV.of_tree (d := .tuple []) rfl).1 hsv
    simp only [yielded, hj, Option.bind_some]
    rw [Array.getD_eq_getD_getElem?] at h1
    cases hg : a.tmps[t]? with
    | none => rfl
    | some v => rw [hg] at h1; simp at h1; subst h1; rfl

theorem ops_sound (hC : C.Ok) {ops : Array Oper} {ros : List RO} (hro : slimRs n ops ops.toList = some ros) {K : St → Prop} (hn : ∀ s' a' w', K s' → Rel w0 F0 X n ρ s' a' w' → Q .normal a' w') :
    ∀ (l : List Nat) (s : St) (a : Act) (w : World), wpI C ros s l K → Rel w0 F0 X n ρ s a w → wpOps C.P ops Q l a w := by
  obtain ⟨hl, hget⟩ := slimRs_get hro
  intro l
  induction l with
  | nil => intro s a w h hr; exact hn s a w h hr
  | cons i l ih =>
    intro s a w h hr
    simp only [wpOps]
    cases ho : ops[i]? with
    | none =>
      have : ros[i]? = none := by
        rw [List.getElem?_eq_none_iff, ← hl]
        have := Array.getElem?_eq_none_iff.1 ho
        simpa using this
      simp only [wpI, this] at h
      exact ih s a w h hr
    | some o =>
      obtain ⟨r, h1, h2⟩ := hget i o (by simpa using ho)
      simp only [wpI, h1] at h
      show (if Region.wanted o (yielded ops a.tmps) = true then o.wp C.P a w (wpOps C.P ops Q l) Q ∨ (o.asks C.P a w ∧ LetsOut Q) else wpOps C.P ops Q l (a.put o.dst undef) w)
      simp only [slimR] at h2
      split at h2
      · rename_i hdst
        split at h2
        · rename_i so g hso hg
          simp only [Option.some.injEq] at h2; subst h2
          simp only [wpR] at h
          have run : ∀ (K' : St → Prop), (∀ s', K' s' → wpI C ros s' l K) → wpO C s so (fun av s1 => K' (fin s1 o.dst av)) → o.wp C.P a w (wpOps C.P ops Q l) Q :=
            fun K' hK hw => op_sound hC hr hso hdst hw (fun s' a' w' hk hr' => ih s' a' w' (hK s' hk) hr')
          cases hog : o.guard with
          | none =>
            rw [hog] at hg
            simp only [slimG, Option.some.injEq] at hg; subst hg
            simp only at h
            rw [if_pos (wanted_none hog)]
            exact .inl (run _ (fun _ h => h) h)
          | some jb =>
            obtain ⟨j, b⟩ := jb
            rw [hog] at hg
            simp only [slimG] at hg
            split at hg
            · rename_i t ht
              simp only [Option.some.injEq] at hg; subst hg
              simp only at h
              obtain ⟨y1, y2⟩ := yielded_slot hr ht
              have hskip : ∀ (K' : wpI C ros (fin s o.dst (.tuple [])) l K), wpOps C.P ops Q l (a.put o.dst undef) w := fun K' => ih _ _ _ K' (Rel.skip hr hdst)
              split at h
              · rename_i b' hs
                have hy := y1 b' hs
                split at h
                · rename_i hb; subst hb
                  rw [if_pos (by simp [Region.wanted, hog, hy])]
                  exact .inl (run _ (fun _ h => h) h)
                · rename_i hb
                  rw [if_neg (by simp [Region.wanted, hog, hy, hb])]
                  exact hskip h
              · rename_i hs
                have hy := y2 hs
                rw [if_neg (by simp [Region.wanted, hog, hy])]
                exact hskip h
              · exact h.elim
            · cases hg
        · cases h2
      · cases h2

theorem Rel.drawn (h : Rel w0 F0 X n ρ s a w) (k : Nat) : Rel w0 F0 X n ρ s a { w with drawn := k } := by
  obtain ⟨h1, h2, hf, F, S, h3⟩ := h
  exact ⟨h1, h2, hf, F, S, h3.grow (fun _ _ => rfl) (Nat.le_refl _) rfl rfl rfl⟩

/-- A region in the order of the text. -/
theorem region_sound (hC : C.Ok) {id : Nat} {ops : Array Oper} {ros : List RO} (hro : slimRs n ops ops.toList = some ros) {K : St → Prop} (hn : ∀ s' a' w', K s' → Rel w0 F0 X n ρ s' a' w' → Q .normal a' w')
    (h : wpRs C s ros K) (hr : Rel w0 F0 X n ρ s a w) : (Code.region id ops false).wp C.P Q a w := by
  refine wp_region (ops_sound hC hro hn _ s a w ?_ hr)
  have := wpI_range C K ros [] s h
  have hl := (slimRs_get hro).1
  simp only [List.nil_append, List.length_nil, Nat.add_zero, List.map_id'] at this
  rw [← hl] at this
  simpa using this

end
end Go.Fw
