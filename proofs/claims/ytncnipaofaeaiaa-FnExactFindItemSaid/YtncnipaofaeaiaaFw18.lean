/- Part of a proof that a law returns true for every input. No condition. -/
import Derived.Test.YtncnipaofaeaiaaFw17
namespace Go.Fw

def AV.one : AV → Bool
  | .agg _ => false
  | .tuple _ => false
  | _ => true

-- What a callee sees of an argument that is lent.
mutual
def view (s : St) : AV → Option AV
  | .h x q => match AV.sub q (s x) with
    | some d => (match d with | .tuple _ => none | d => if d.plain then none else some d.share)
    | none => none
  | .hp x q => if AV.cross q (s x) then (match AV.sub q (s x) with
    | some d => (match d with | .tuple _ => none | d => some (.ref d.share))
    | none => none) else none
  | .fn f cap => (views s cap).map (.fn f)
  | .hole => none
  | d => some d
def views (s : St) : List AV → Option (List AV)
  | [] => some []
  | d :: ds => match view s d, views s ds with
    | some a, some b => some (a :: b)
    | _, _ => none
end

theorem vc_shp {d : AV} {v v' : Value} (h1 : ∀ vs, d ≠ .tuple vs) (h : shp d v) (h' : shp d v') (e : vc v = vc v') : v = v' := by
  have key : shp1 d v ∧ shp1 d v' := by
    cases d <;> first | exact ⟨h, h'⟩ | exact (h1 _ rfl).elim
  obtain ⟨h, h'⟩ := key
  by_cases ha : ∃ fs, d = .agg fs
  · obtain ⟨fs, rfl⟩ := ha
    obtain ⟨a, rfl⟩ := h
    obtain ⟨b, rfl⟩ := h'
    simp only [vc, vc1] at e
    have : a = b := by apply Array.ext'; exact e
    rw [this]
  · have : Value.isOne v = true ∧ Value.isOne v' = true := by
      cases d <;> first | exact ⟨h, h'⟩ | exact (ha ⟨_, rfl⟩).elim
    rw [vc_one this.1, vc_one this.2] at e
    simpa using e

mutual
theorem share_plain : ∀ d : AV, d.share.plain = true
  | .hole => rfl
  | .bool _ => rfl
  | .anyb => rfl
  | .int _ _ => rfl
  | .str _ => rfl
  | .nilp => rfl
  | .nils => rfl
  | .slice _ => rfl
  | .uslice _ _ => rfl
  | .ref _ => rfl
  | .ubox _ => rfl
  | .agg fs => by simp only [AV.share, AV.plain]; exact shares_plains fs
  | .tuple fs => by simp only [AV.share, AV.plain]; exact shares_plains fs
  | .fn _ _ => rfl
  | .h _ _ => rfl
  | .hp _ _ => rfl
theorem shares_plains : ∀ ds : List AV, AV.plains (AV.shares ds) = true
  | [] => rfl
  | d :: ds => by simp only [AV.shares, AV.plains]; rw [share_plain d, shares_plains ds]; rfl
end

theorem view_plain {s : St} {a d : AV} (h : a.plain = true) (he : view s a = some d) : d.plain = true := by
  cases a with
  | h x q =>
    simp only [view] at he
    split at he
    · rename_i e hsub
      cases e <;> simp only at he <;> first
        | (cases he; done)
        | (split at he
           · cases he
           · simp only [Option.some.injEq] at he
             subst he; exact share_plain _)
    · cases he
  | hp x q =>
    simp only [view] at he
    split at he
    · split at he
      · rename_i e hsub
        cases e <;> simp only at he <;> first
          | (cases he; done)
          | (simp only [Option.some.injEq] at he; subst he; rfl)
      · cases he
    · cases he
  | fn f cap =>
    simp only [view, Option.map_eq_some_iff] at he
    obtain ⟨ds, _, rfl⟩ := he
    rfl
  | hole => simp [view] at he
  | _ => simp only [view, Option.some.injEq] at he; subst he; exact h

theorem shp_share {d : AV} {v : Value} (h1 : ∀ vs, d ≠ .tuple vs) (h : shp d v) : shp d.share v := by
  cases d <;> first | exact h | exact (h1 _ rfl).elim

theorem fol_put (w : World) : ∀ (q : List Nat) (av d d' : AV) (cs dcs : List Value) (a a' : Option (Nat × Nat)), AV.sub q av = some d → d'.wd = d.wd → fol w q av cs a = some (d, dcs, a') →
    fol w q (AV.put q d' av) cs a = some (d', dcs, a') := by
  intro q
  induction q with
  | nil =>
    intro av d d' cs dcs a a' hd hw h
    simp only [fol, Option.some.injEq, Prod.mk.injEq] at h
    obtain ⟨rfl, rfl, rfl⟩ := h
    simp only [AV.put, fol]
  | cons k q ih =>
    intro av d d' cs dcs a a' hd hw h
    cases av with
    | agg fs =>
      simp only [AV.sub] at hd
      split at hd
      · rename_i x hx
        have hk : k < fs.length := (List.getElem?_eq_some_iff.1 hx).1
        simp only [fol, hx] at h
        simp only [AV.put, hx, fol]
        rw [List.getElem?_set_self hk]
        simp only [List.take_set_of_le (Nat.le_refl k), AV.put_wd q x d d' hd hw]
        exact ih _ _ _ _ _ _ _ hd hw h
      · cases hd
    | tuple fs =>
      simp only [AV.sub] at hd
      split at hd
      · rename_i x hx
        have hk : k < fs.length := (List.getElem?_eq_some_iff.1 hx).1
        simp only [fol, hx] at h
        simp only [AV.put, hx, fol]
        rw [List.getElem?_set_self hk]
        simp only [List.take_set_of_le (Nat.le_refl k), AV.put_wd q x d d' hd hw]
        exact ih _ _ _ _ _ _ _ hd hw h
      · cases hd
    | uslice sz fs =>
      simp only [AV.sub] at hd
      split at hd
      · rename_i x hx
        have hk : k < fs.length := (List.getElem?_eq_some_iff.1 hx).1
        have hk' : (fs.set k (AV.put q d' x))[k]? = some (AV.put q d' x) := List.getElem?_set_self hk
        simp only [AV.put, hx]
        rw [fol.eq_def] at h ⊢
        simp only [hx] at h
        simp only
        rw [hk']
        split at h
        · rename_i e1
          simp only [Option.some.injEq] at e1; subst e1
          exact ih _ _ _ _ _ _ _ hd hw h
        · cases h
      · cases hd
    | ubox x =>
      cases k with
      | zero =>
        simp only [AV.sub] at hd
        rw [fol.eq_def] at h ⊢
        simp only at h
        simp only [AV.put]
        split at h
        · rw [AV.put_wd q x d d' hd hw]
          exact ih _ _ _ _ _ _ _ hd hw h
        · cases h
      | succ k => simp [AV.sub] at hd
    | _ => simp [AV.sub] at hd

section
variable {w0 w w' : World} {F0 X F Fc : Nat → Prop} {S : Nat → Nat → Prop} {s s' : St} {tm tm' : Nat → Value}

theorem view_sv (h : RelX w0 F0 X F S s tm w) (hF : ∀ b, F b → Fc b) : ∀ n,
    (∀ (a : AV) (v : Value) (d : AV), SizeOf.sizeOf a ≤ n → (∀ t ∈ a.hs, ∀ b, S t b → Fc b) → view s a = some d → SV w F s tm a v (fun _ => False) → SV w Fc s' tm' d v (fun _ => False)) ∧
    (∀ (as : List AV) (vs : List Value) (ds : List AV), SizeOf.sizeOf as ≤ n → (∀ t ∈ AV.hss as, ∀ b, S t b → Fc b) → views s as = some ds → SVs w F s tm as vs → SVs w Fc s' tm' ds vs) := by
  intro n
  induction n with
  | zero => exact ⟨fun a _ _ hz => by cases a <;> simp at hz <;> omega, fun as _ _ hz => by cases as <;> simp at hz <;> omega⟩
  | succ n ih =>
    refine ⟨fun a v d hz hS he hv => ?_, fun as vs ds hz hS he hv => ?_⟩
    · cases a with
      | h x q =>
        simp only [view] at he
        split at he
        · rename_i e hsub
          have key : (∀ fs, e ≠ .tuple fs) ∧ e.plain = false ∧ d = e.share := by
            cases e <;> simp only at he <;> first
              | (cases he; done)
              | (split at he
                 · cases he
                 · rename_i hpl
                   simp only [Option.some.injEq] at he
                   exact ⟨(fun _ h => by cases h), by simpa using hpl, he.symm⟩)
          obtain ⟨hnt, hpl, rfl⟩ := key
          rw [SV] at hv
          obtain ⟨dcs, a', g1, g2, g3⟩ := hv e hsub hpl
          have ht := tree_of_sub hsub (.inl hpl)
          have hx := (SV.of_tree ht).1 (h.sv x)
          obtain ⟨dcs', a2, Sc, Sd, k0, k1, k2, k3, k4, k5⟩ := ctx q (s x) (vc (tm x)) (S x) none e hx.2 hsub
          rw [g1] at k0
          simp only [Option.some.injEq, Prod.mk.injEq, true_and] at k0
          obtain ⟨rfl, rfl⟩ := k0
          have hte : e.share.tree = true := by cases e <;> first | rfl | (simp [AV.plain] at hpl)
          have hr := RV.shared hF e dcs Sd (fun b hb => hS x (by simp [AV.hs]) b (k2 b hb)) k4
          exact (SV.of_tree hte).2 ⟨shp_share hnt g3, by rw [g2]; exact hr⟩
        · cases he
      | hp x q =>
        simp only [view] at he
        split at he
        · rename_i hcr
          split at he
          · rename_i e hsub
            have key : (∀ fs, e ≠ .tuple fs) ∧ d = .ref e.share := by
              cases e <;> simp only at he <;> first
                | (cases he; done)
                | (simp only [Option.some.injEq] at he; exact ⟨(fun _ h => by cases h), he.symm⟩)
            obtain ⟨hnt, rfl⟩ := key
            rw [SV] at hv
            obtain ⟨dcs, b, o, g1, rfl⟩ := hv e hsub hcr
            have ht := tree_of_sub hsub (.inr hcr)
            have hx := (SV.of_tree ht).1 (h.sv x)
            obtain ⟨dcs', a2, Sc, Sd, k0, k1, k2, k3, k4, k5⟩ := ctx q (s x) (vc (tm x)) (S x) none e hx.2 hsub
            rw [g1] at k0
            simp only [Option.some.injEq, Prod.mk.injEq, true_and] at k0
            obtain ⟨rfl, rfl⟩ := k0
            have hr := RV.shared hF e dcs Sd (fun b hb => hS x (by simp [AV.hs]) b (k2 b hb)) k4
            rcases k5 with ⟨l, r, _, e2, _⟩ | ⟨b', cur, ty, fr, l, r, e1, e2, e3, e4, e5, _⟩
            · simp at e2
            · simp only [Option.some.injEq, Prod.mk.injEq] at e1
              obtain ⟨rfl, rfl⟩ := e1
              refine (SV.of_tree rfl).2 ⟨rfl, ?_⟩
              rw [RV]
              refine ⟨b, l.length, dcs, rfl, hS x (by simp [AV.hs]) b (k1 b e2), ?_, hr⟩
              intro j c hj
              simp only [World.cell?, e3]
              have hc : cur[l.length + j]? = some c := by
                rw [← Array.getElem?_toList, e5, List.getElem?_append_right (by omega), List.getElem?_append_left (by
                  have := (List.getElem?_eq_some_iff.1 hj).1; omega)]
                rw [← hj]; congr 1; omega
              simpa using hc
          · cases he
        · cases he
      | fn f cap =>
        simp only [view, Option.map_eq_some_iff] at he
        obtain ⟨ds, hds, rfl⟩ := he
        rw [SV] at hv
        obtain ⟨arr, rfl, hc⟩ := hv
        rw [SV]
        exact ⟨arr, rfl, ih.2 cap _ _ (by simp at hz; omega) (by simpa [AV.hs] using hS) hds hc⟩
      | hole => simp [view] at he
      | _ =>
        simp only [view, Option.some.injEq] at he; subst he
        have hv' := (SV.of_tree rfl).1 hv
        exact (SV.of_tree rfl).2 ⟨hv'.1, RV.mono hF _ _ _ _ (fun _ h => h) hv'.2⟩
    · cases as with
      | nil =>
        simp only [views, Option.some.injEq] at he; subst he
        rw [SVs] at hv ⊢; exact hv
      | cons a as =>
        simp only [views] at he
        split at he
        · rename_i d ds h1 h2
          simp only [Option.some.injEq] at he; subst he
          rw [SVs] at hv ⊢
          obtain ⟨v, vs', rfl, g1, g2⟩ := hv
          simp at hz
          simp only [AV.hss, List.mem_append] at hS
          exact ⟨v, vs', rfl, ih.1 a v d (by omega) (fun t ht => hS t (.inl ht)) h1 g1, ih.2 as vs' ds (by omega) (fun t ht => hS t (.inr ht)) h2 g2⟩
        · cases he

/-- A hollow place gets back what was there, changed. -/
theorem RelX.give (h : RelX w0 F0 X F S s tm w) {x : Nat} {q : List Nat} {d0 d' : AV} {dcs : List Value} {a : Option (Nat × Nat)} {Sn : Nat → Prop}
    (hd : AV.sub q (s x) = some d0) (hf : fol w q (s x) (vc (tm x)) none = some (d0, dcs, a)) (h2 : d'.one = true) (ht : q = [] → d'.tree = true ∧ Value.isOne (tm x) = true)
    (h3 : ∀ k p, q = k :: p → (s x).tree = true ∧ (∀ v, shp1 d0 v → shp1 d' v)) (hw : d'.wd = d0.wd)
    (hv : RV w F d' dcs Sn) (hlt : ∀ b, Sn b → b < w.heap.size) (hF : ∀ b, Sn b → ¬ F b) (hS : ∀ u b, Sn b → ¬ S u b) (h0 : ∀ b, Sn b → X b ∨ w0.heap.size ≤ b) :
    RelX w0 F0 X F (updS S x (fun b => S x b ∨ Sn b)) (upd (pgS x s) x (AV.put q d' (s x))) tm w := by
  have htm : upd tm x (tm x) = tm := by funext u; simp only [upd]; split <;> simp_all
  have main : (AV.put q d' (s x)).tree = true ∧ shp (AV.put q d' (s x)) (tm x) ∧ RV w F (AV.put q d' (s x)) (vc (tm x)) (fun b => S x b ∨ Sn b) := by
    cases q with
    | nil =>
      simp only [fol, Option.some.injEq, Prod.mk.injEq] at hf
      obtain ⟨e1, e2, e3⟩ := hf
      obtain ⟨g1, g2⟩ := ht rfl
      simp only [AV.put]
      refine ⟨g1, ?_, ?_⟩
      · cases d' <;> first | exact g2 | (simp [AV.one] at h2)
      · rw [e2]; exact RV.mono (fun _ h => h) _ _ _ _ (fun b hb => .inr hb) hv
    | cons k p =>
      obtain ⟨g1, g2⟩ := h3 k p rfl
      have hx := (SV.of_tree g1).1 (h.sv x)
      obtain ⟨dcs', a2, Sc, Sd, k0, k1, k2, k3, k4, k5⟩ := ctx (k :: p) (s x) (vc (tm x)) (S x) none d0 hx.2 hd
      rw [hf] at k0
      simp only [Option.some.injEq, Prod.mk.injEq, true_and] at k0
      obtain ⟨rfl, rfl⟩ := k0
      refine ⟨?_, ?_, ?_⟩
      · rcases put_cons k p d' (s x) with ⟨fs, gs, e1, e⟩ | ⟨fs, gs, e1, e⟩ | ⟨sz, xs, ys, e1, e⟩ | ⟨y, z, e1, e⟩ | e <;> rw [e] <;> first | rfl | exact g1
      · refine shp_put hx.1 hd g2 (fun _ vs e => ?_) hw
        subst e; simp [AV.one] at h2
      · have mono : ∀ b, (Sc b ∨ Sn b) → (S x b ∨ Sn b) := fun b hb => hb.imp (k1 b) id
        rcases k5 with ⟨l, r, e1, e2, e3⟩ | ⟨b, cur, ty, fr, l, r, e1, e2, e3, e4, e5, e6⟩
        · rw [e1]
          exact RV.mono (fun _ h => h) _ _ _ _ mono (e3 w d' dcs Sn (fun _ _ => rfl) (fun _ _ => rfl) hw hv (fun b hb hc => hS x b hb (k1 b hc)))
        · refine RV.mono (fun _ h => h) _ _ _ _ mono (e6 w d' dcs Sn (fun _ _ => rfl) (fun _ _ _ => rfl) ?_ hw hv (fun b hb hc => hS x b hb (k1 b hc)))
          rw [e3, ← e5]
  have := h.setO (t := x) main.1 main.2.1 main.2.2 (by rintro b (hb | hb); exact h.Slt x b hb; exact hlt b hb) (by rintro b (hb | hb); exact h.SF x b hb; exact hF b hb)
    (by rintro u b hne (hb | hb); exact fun hu => h.SS u x b hne hu hb; exact hS u b hb) (by rintro b (hb | hb); exact h.S0 x b hb; exact h0 b hb)
  rwa [htm] at this

end
end Go.Fw
