/- Part of a proof that a law returns true for every input. No condition. -/
import Derived.Test.YtncnipaofaeaiaaFw3
namespace Go.Fw

def upd {α : Type} (f : Nat → α) (t : Nat) (v : α) : Nat → α := fun u => if u = t then v else f u
def pgS (t : Nat) (s : St) : St := fun u => pg t (s u)
def pkS (t : Nat) (s : St) : St := fun u => pk t (s u)

theorem upd_same {α : Type} (f : Nat → α) (t : Nat) (v : α) : upd f t v t = v := by simp [upd]
theorem upd_ne {α : Type} (f : Nat → α) {t u : Nat} (v : α) (h : u ≠ t) : upd f t v u = f u := by simp [upd, h]

theorem pg_tree {t : Nat} {d : AV} (h : d.tree = true) : pg t d = d := by cases d <;> first | rfl | (simp [AV.tree] at h)
theorem pk_tree {t : Nat} {d : AV} (h : d.tree = true) : pk t d = d := by cases d <;> first | rfl | (simp [AV.tree] at h)
theorem pg_tree_iff {t : Nat} {d : AV} (h : (pg t d).tree = true) : d.tree = true ∧ pg t d = d := by
  cases d <;> first | exact ⟨rfl, rfl⟩ | (simp only [pg] at h; first | (split at h <;> simp [AV.tree] at h) | simp [AV.tree] at h)
theorem pk_tree_iff {t : Nat} {d : AV} (h : (pk t d).tree = true) : d.tree = true ∧ pk t d = d := by
  cases d <;> first | exact ⟨rfl, rfl⟩ | (simp only [pk] at h; first | (split at h <;> (try split at h) <;> simp [AV.tree] at h) | simp [AV.tree] at h)

section
variable {w : World} {F : Nat → Prop} {s s' : St} {tm tm' : Nat → Value} {t : Nat}

/-- What a value is, seen by another state in which one slot has turned and nothing refers to it any more. -/
theorem SV.pg (hB : ∀ x, x ≠ t → (s' x).tree = true → s' x = s x ∧ tm' x = tm x) : ∀ (n : Nat),
    (∀ (d : AV) (v : Value) (S : Nat → Prop), SizeOf.sizeOf d ≤ n → SV w F s tm d v S → SV w F s' tm' (Fw.pg t d) v S) ∧
    (∀ (ds : List AV) (vs : List Value), SizeOf.sizeOf ds ≤ n → SVs w F s tm ds vs → SVs w F s' tm' (pgs t ds) vs) := by
  intro n
  induction n with
  | zero =>
    refine ⟨fun d v S hz => ?_, fun ds vs hz => ?_⟩
    · cases d <;> simp at hz <;> omega
    · cases ds <;> simp at hz <;> omega
  | succ n ih =>
    refine ⟨fun d v S hz h => ?_, fun ds vs hz h => ?_⟩
    · cases d with
      | hole => rw [Fw.pg.eq_def]; simp only; rw [SV]; trivial
      | h x q =>
        simp only [Fw.pg]
        split
        · rw [SV]; trivial
        · rename_i hx
          rw [SV] at h ⊢
          intro d hd hp
          obtain ⟨e1, e2⟩ := hB x hx (tree_of_sub hd (.inl hp))
          rw [e1, e2]; rw [e1] at hd
          exact h d hd hp
      | hp x q =>
        simp only [Fw.pg]
        split
        · rw [SV]; trivial
        · rename_i hx
          rw [SV] at h ⊢
          intro d hd hp
          obtain ⟨e1, e2⟩ := hB x hx (tree_of_sub hd (.inr hp))
          rw [e1, e2]; rw [e1] at hd hp
          exact h d hd hp
      | fn f cap =>
        simp only [Fw.pg]
        rw [SV] at h ⊢
        obtain ⟨arr, rfl, hc⟩ := h
        exact ⟨arr, rfl, ih.2 _ _ (by simp at hz; omega) hc⟩
      | _ =>
        rw [pg_tree (by rfl)]
        exact (SV.of_tree (by rfl)).2 ((SV.of_tree (by rfl)).1 h)
    · cases ds with
      | nil => rw [pgs, SVs]; rw [SVs] at h; exact h
      | cons d ds =>
        rw [pgs, SVs]; rw [SVs] at h
        obtain ⟨v, vs', rfl, h1, h2⟩ := h
        simp at hz
        exact ⟨v, vs', rfl, ih.1 _ _ _ (by omega) h1, ih.2 _ _ (by omega) h2⟩

/-- .. and in which aliases of the slot itself stay; the world may turn, too, outside what the others hold. -/
theorem SV.pk {w' : World} (hB : ∀ x, x ≠ t → (s' x).tree = true → s' x = s x ∧ tm' x = tm x) (hT : tm' t = tm t) (hR : (s' t).plain = false → (s t).plain = false ∧ ∀ v, shp (s t) v → shp (s' t) v)
    (hfol : ∀ x q d, x ≠ t → AV.sub q (s x) = some d → (d.plain = false ∨ AV.cross q (s x) = true) → fol w' q (s x) (vc (tm x)) none = fol w q (s x) (vc (tm x)) none)
    (hF : ∀ b, F b → w'.heap[b]? = w.heap[b]?) : ∀ (n : Nat),
    (∀ (d : AV) (v : Value) (S : Nat → Prop), SizeOf.sizeOf d ≤ n → (∀ b, S b → w'.heap[b]? = w.heap[b]?) → SV w F s tm d v S → SV w' F s' tm' (Fw.pk t d) v S) ∧
    (∀ (ds : List AV) (vs : List Value), SizeOf.sizeOf ds ≤ n → SVs w F s tm ds vs → SVs w' F s' tm' (pks t ds) vs) := by
  intro n
  induction n with
  | zero =>
    refine ⟨fun d v S hz => ?_, fun ds vs hz => ?_⟩
    · cases d <;> simp at hz <;> omega
    · cases ds <;> simp at hz <;> omega
  | succ n ih =>
    refine ⟨fun d v S hz hSS h => ?_, fun ds vs hz h => ?_⟩
    · cases d with
      | hole => rw [Fw.pk.eq_def]; simp only; rw [SV]; trivial
      | h x q =>
        simp only [Fw.pk]
        split
        · rename_i hx
          subst hx
          split
          · rename_i hq
            subst hq
            rw [SV] at h ⊢
            intro d hd hp
            simp only [AV.sub, Option.some.injEq] at hd
            subst hd
            obtain ⟨r1, r2⟩ := hR hp
            obtain ⟨dcs, a, g1, g2, g3⟩ := h (s x) rfl r1
            simp only [fol, Option.some.injEq, Prod.mk.injEq] at g1
            obtain ⟨-, g1, g1'⟩ := g1
            refine ⟨vc (tm' x), none, rfl, ?_, r2 _ g3⟩
            rw [hT, g2, ← g1]
          · rw [SV]; trivial
        · rename_i hx
          rw [SV] at h ⊢
          intro d hd hp
          obtain ⟨e1, e2⟩ := hB x hx (tree_of_sub hd (.inl hp))
          rw [e1, e2]; rw [e1] at hd
          rw [hfol x q d hx hd (.inl hp)]
          exact h d hd hp
      | hp x q =>
        simp only [Fw.pk]
        split
        · rw [SV]; trivial
        · rename_i hx
          rw [SV] at h ⊢
          intro d hd hp
          obtain ⟨e1, e2⟩ := hB x hx (tree_of_sub hd (.inr hp))
          rw [e1, e2]; rw [e1] at hd hp
          rw [hfol x q d hx hd (.inr hp)]
          exact h d hd hp
      | fn f cap =>
        simp only [Fw.pk]
        rw [SV] at h ⊢
        obtain ⟨arr, rfl, hc⟩ := h
        exact ⟨arr, rfl, ih.2 _ _ (by simp at hz; omega) hc⟩
      | _ =>
        rw [pk_tree (by rfl)]
        have h' := (SV.of_tree (by rfl)).1 h
        exact (SV.of_tree (by rfl)).2 ⟨h'.1, RV.frame hF _ _ _ hSS h'.2⟩
    · cases ds with
      | nil => rw [pks, SVs]; rw [SVs] at h; exact h
      | cons d ds =>
        rw [pks, SVs]; rw [SVs] at h
        obtain ⟨v, vs', rfl, h1, h2⟩ := h
        simp at hz
        exact ⟨v, vs', rfl, ih.1 _ _ _ (by omega) (fun _ h => h.elim) h1, ih.2 _ _ (by omega) h2⟩

/-- .. and where the slot holds nothing that is owned no handle to it says a thing. -/
theorem SV.void (hB : ∀ x, x ≠ t → (s' x).tree = true → s' x = s x ∧ tm' x = tm x) (hV : (s' t).plain = true) : ∀ (n : Nat),
    (∀ (d : AV) (v : Value) (S : Nat → Prop), SizeOf.sizeOf d ≤ n → SV w F s tm d v S → SV w F s' tm' d v S) ∧
    (∀ (ds : List AV) (vs : List Value), SizeOf.sizeOf ds ≤ n → SVs w F s tm ds vs → SVs w F s' tm' ds vs) := by
  intro n
  induction n with
  | zero =>
    refine ⟨fun d v S hz => ?_, fun ds vs hz => ?_⟩
    · cases d <;> simp at hz <;> omega
    · cases ds <;> simp at hz <;> omega
  | succ n ih =>
    refine ⟨fun d v S hz h => ?_, fun ds vs hz h => ?_⟩
    · cases d with
      | hole => rw [SV]; trivial
      | h x q =>
        rw [SV] at h ⊢
        intro d hd hp
        by_cases hx : x = t
        · subst hx
          rw [AV.sub_plain _ _ _ hV hd] at hp; cases hp
        · obtain ⟨e1, e2⟩ := hB x hx (tree_of_sub hd (.inl hp))
          rw [e1, e2]; rw [e1] at hd
          exact h d hd hp
      | hp x q =>
        rw [SV] at h ⊢
        intro d hd hp
        by_cases hx : x = t
        · subst hx
          rw [AV.cross_plain _ _ hV] at hp; cases hp
        · obtain ⟨e1, e2⟩ := hB x hx (tree_of_sub hd (.inr hp))
          rw [e1, e2]; rw [e1] at hd hp
          exact h d hd hp
      | fn f cap =>
        rw [SV] at h ⊢
        obtain ⟨arr, rfl, hc⟩ := h
        exact ⟨arr, rfl, ih.2 _ _ (by simp at hz; omega) hc⟩
      | _ => exact (SV.of_tree (by rfl)).2 ((SV.of_tree (by rfl)).1 h)
    · cases ds with
      | nil => rw [SVs]; rw [SVs] at h; exact h
      | cons d ds =>
        rw [SVs]; rw [SVs] at h
        obtain ⟨v, vs', rfl, h1, h2⟩ := h
        simp at hz
        exact ⟨v, vs', rfl, ih.1 _ _ _ (by omega) h1, ih.2 _ _ (by omega) h2⟩
end

/-- The abstract state s tells of the concrete one: 'F' is shared and stands still, 'S t' is owned by slot t; below the old heap nothing but X has turned. -/
structure RelX (w0 : World) (F0 X F : Nat → Prop) (S : Nat → Nat → Prop) (s : St) (tm : Nat → Value) (w : World) : Prop where
  F0F : ∀ b, F0 b → F b
  FF0 : ∀ b, F b → F0 b ∨ X b ∨ w0.heap.size ≤ b
  Flt : ∀ b, F b → b < w.heap.size
  Slt : ∀ t b, S t b → b < w.heap.size
  SF : ∀ t b, S t b → ¬ F b
  SS : ∀ t u b, t ≠ u → S t b → ¬ S u b
  S0 : ∀ t b, S t b → X b ∨ w0.heap.size ≤ b
  sv : ∀ t, SV w F s tm (s t) (tm t) (S t)
  old : ∀ b, b < w0.heap.size → ¬ X b → w.heap[b]? = w0.heap[b]?
  size : w0.heap.size ≤ w.heap.size
  os : w.os = w0.os
  tape : w.tape = w0.tape
  output : w.output = w0.output

section
variable {w0 w w' : World} {F0 X F : Nat → Prop} {S : Nat → Nat → Prop} {s : St} {tm : Nat → Value}

/-- The world grows. -/
theorem RelX.grow (h : RelX w0 F0 X F S s tm w) (hb : ∀ b, b < w.heap.size → w'.heap[b]? = w.heap[b]?) (hs : w.heap.size ≤ w'.heap.size)
    (h1 : w'.os = w.os) (h2 : w'.tape = w.tape) (h3 : w'.output = w.output) : RelX w0 F0 X F S s tm w' where
  F0F := h.F0F
  FF0 := h.FF0
  Flt := fun b hF => Nat.lt_of_lt_of_le (h.Flt b hF) hs
  Slt := fun t b hF => Nat.lt_of_lt_of_le (h.Slt t b hF) hs
  SF := h.SF
  SS := h.SS
  S0 := h.S0
  sv := fun t => SV.frame (Sx := S) (fun b hF => hb b (h.Flt b hF)) (fun _ h => h) (fun x b hS => hb b (h.Slt x b hS)) h.sv _ _ _ (fun b hS => hb b (h.Slt t b hS)) (h.sv t)
  old := fun b hlt hX => (hb b (Nat.lt_of_lt_of_le hlt h.size)).trans (h.old b hlt hX)
  size := Nat.le_trans h.size hs
  os := h1.trans h.os
  tape := h2.trans h.tape
  output := h3.trans h.output

def updS (S : Nat → Nat → Prop) (t : Nat) (Sn : Nat → Prop) : Nat → Nat → Prop := fun u b => if u = t then Sn b else S u b

theorem updS_same (S : Nat → Nat → Prop) (t : Nat) (Sn : Nat → Prop) : updS S t Sn t = Sn := by funext b; simp [updS]
theorem updS_ne (S : Nat → Nat → Prop) {t u : Nat} (Sn : Nat → Prop) (h : u ≠ t) : updS S t Sn u = S u := by funext b; simp [updS, h]

/-- A slot gets a value that owns nothing. -/
theorem RelX.setP (h : RelX w0 F0 X F S s tm w) {t : Nat} {d : AV} {v : Value} (hp : d.plain = true) (hd : SV w F s tm d v (fun _ => False)) :
    RelX w0 F0 X F (updS S t (fun _ => False)) (upd s t d) (upd tm t v) w where
  F0F := h.F0F
  FF0 := h.FF0
  Flt := h.Flt
  Slt := fun u b hb => by simp only [updS] at hb; split at hb; exact hb.elim; exact h.Slt u b hb
  SF := fun u b hb => by simp only [updS] at hb; split at hb; exact hb.elim; exact h.SF u b hb
  SS := fun u x b hne hb hx => by
    simp only [updS] at hb hx
    split at hb
    · exact hb.elim
    · split at hx
      · exact hx.elim
      · exact h.SS u x b hne hb hx
  S0 := fun u b hb => by simp only [updS] at hb; split at hb; exact hb.elim; exact h.S0 u b hb
  sv := fun u => by
    have hB : ∀ x, x ≠ t → (upd s t d x).tree = true → upd s t d x = s x ∧ upd tm t v x = tm x := fun x hx _ => ⟨upd_ne _ _ hx, upd_ne _ _ hx⟩
    have hV : (upd s t d t).plain = true := by rw [upd_same]; exact hp
    by_cases hu : u = t
    · subst hu
      rw [upd_same, upd_same, updS_same]
      exact (SV.void hB hV _).1 _ _ _ (Nat.le_refl _) hd
    · rw [upd_ne _ _ hu, upd_ne _ _ hu, updS_ne _ _ hu]
      exact (SV.void hB hV _).1 _ _ _ (Nat.le_refl _) (h.sv u)
  old := h.old
  size := h.size
  os := h.os
  tape := h.tape
  output := h.output

/-- A slot gets a tree with what it owns. -/
theorem RelX.setO (h : RelX w0 F0 X F S s tm w) {t : Nat} {d : AV} {v : Value} {Sn : Nat → Prop} (hd : d.tree = true) (hs : shp d v) (hv : RV w F d (vc v) Sn)
    (hlt : ∀ b, Sn b → b < w.heap.size) (hF : ∀ b, Sn b → ¬ F b) (hS : ∀ u b, u ≠ t → Sn b → ¬ S u b) (h0 : ∀ b, Sn b → X b ∨ w0.heap.size ≤ b) :
    RelX w0 F0 X F (updS S t Sn) (upd (pgS t s) t d) (upd tm t v) w where
  F0F := h.F0F
  FF0 := h.FF0
  Flt := h.Flt
  Slt := fun u b hb => by simp only [updS] at hb; split at hb; exact hlt b hb; exact h.Slt u b hb
  SF := fun u b hb => by simp only [updS] at hb; split at hb; exact hF b hb; exact h.SF u b hb
  SS := fun u x b hne hb hx => by
    simp only [updS] at hb hx
    split at hb
    · rename_i hu
      rw [if_neg (fun e => hne (hu.trans e.symm))] at hx
      exact hS x b (fun e => hne (hu.trans e.symm)) hb hx
    · rename_i hu
      split at hx
      · exact hS u b hu hx hb
      · exact h.SS u x b hne hb hx
  S0 := fun u b hb => by simp only [updS] at hb; split at hb; exact h0 b hb; exact h.S0 u b hb
  sv := fun u => by
    have hB : ∀ x, x ≠ t → (upd (pgS t s) t d x).tree = true → upd (pgS t s) t d x = s x ∧ upd tm t v x = tm x := fun x hx ht => by
      rw [upd_ne _ _ hx] at ht ⊢
      exact ⟨(pg_tree_iff ht).2, upd_ne _ _ hx⟩
    by_cases hu : u = t
    · subst hu
      rw [upd_same, upd_same, updS_same]
      exact (SV.of_tree hd).2 ⟨hs, hv⟩
    · rw [upd_ne _ _ hu, upd_ne _ _ hu, updS_ne _ _ hu]
      exact (SV.pg hB _).1 _ _ _ (Nat.le_refl _) (h.sv u)
  old := h.old
  size := h.size
  os := h.os
  tape := h.tape
  output := h.output

theorem put_cons (k : Nat) (q : List Nat) (d' x : AV) : (∃ fs gs, x = .agg fs ∧ AV.put (k :: q) d' x = .agg gs) ∨ (∃ fs gs, x = .tuple fs ∧ AV.put (k :: q) d' x = .tuple gs) ∨
    (∃ sz xs ys, x = .uslice sz xs ∧ AV.put (k :: q) d' x = .uslice sz ys) ∨ (∃ y z, x = .ubox y ∧ AV.put (k :: q) d' x = .ubox z) ∨ AV.put (k :: q) d' x = x := by
  cases x with
  | agg fs => simp only [AV.put]; split <;> exact .inl ⟨_, _, rfl, rfl⟩
  | tuple fs => simp only [AV.put]; split <;> exact .inr (.inl ⟨_, _, rfl, rfl⟩)
  | uslice sz fs => simp only [AV.put]; split <;> exact .inr (.inr (.inl ⟨_, _, _, rfl, rfl⟩))
  | ubox y => cases k <;> exact .inr (.inr (.inr (.inl ⟨_, _, rfl, rfl⟩)))
  | _ => exact .inr (.inr (.inr (.inr rfl)))

theorem shp1_put {k : Nat} {q : List Nat} {d' x : AV} {v : Value} (h : shp1 x v) : shp1 (AV.put (k :: q) d' x) v := by
  rcases put_cons k q d' x with ⟨fs, gs, rfl, e⟩ | ⟨fs, gs, rfl, e⟩ | ⟨sz, xs, ys, rfl, e⟩ | ⟨y, z, rfl, e⟩ | e <;> rw [e] <;> exact h

theorem ntuple_put {k : Nat} {q : List Nat} {d' x : AV} (h : ∀ vs, x ≠ .tuple vs) : ∀ vs, AV.put (k :: q) d' x ≠ .tuple vs := by
  rcases put_cons k q d' x with ⟨fs, gs, rfl, e⟩ | ⟨fs, gs, rfl, e⟩ | ⟨sz, xs, ys, rfl, e⟩ | ⟨y, z, rfl, e⟩ | e <;> rw [e] <;> first | exact h | (intro vs h'; cases h'; done) | exact (h _ rfl).elim

theorem shp_put {k : Nat} {q : List Nat} {d d' av : AV} {v : Value} (h : shp av v) (hd : AV.sub (k :: q) av = some d) (h1 : ∀ v, shp1 d v → shp1 d' v) (h2 : (∀ vs, d ≠ .tuple vs) → ∀ vs, d' ≠ .tuple vs) (h3 : d'.wd = d.wd) :
    shp (AV.put (k :: q) d' av) v := by
  cases av with
  | tuple fs =>
    simp only [AV.sub] at hd
    split at hd
    · rename_i x hx
      simp only [AV.put, hx]
      simp only [shp] at h ⊢
      obtain ⟨arr, rfl, hz, hall⟩ := h
      refine ⟨arr, rfl, by simpa using hz, fun j e y he hy => ?_⟩
      rw [List.getElem?_set] at he
      split at he
      · rename_i hjk
        subst hjk
        split at he
        · simp only [Option.some.injEq] at he
          subst he
          obtain ⟨g1, g2, g3⟩ := hall k x y hx hy
          refine ⟨?_, ?_, g3.trans (AV.put_wd q x d d' hd h3).symm⟩
          · cases q with
            | nil =>
              simp only [AV.sub, Option.some.injEq] at hd
              subst hd
              exact h1 _ g1
            | cons k2 q => exact shp1_put g1
          · cases q with
            | nil =>
              simp only [AV.sub, Option.some.injEq] at hd
              subst hd
              exact h2 g2
            | cons k2 q => exact ntuple_put g2
        · cases he
      · exact hall j e y he hy
    · cases hd
  | agg fs => simp only [AV.put]; split <;> exact h
  | uslice sz fs => simp only [AV.put]; split <;> exact h
  | ubox y => cases k <;> exact h
  | _ => exact h


theorem shp1_hollow {d : AV} {v : Value} (h : shp1 d v) : shp1 d.hollow v := by cases d <;> exact h

theorem takeRoot {s : St} {x : Nat} {q : List Nat} {d : AV} (hd : AV.sub q (s x) = some d) (hp : d.plain = false) :
    (upd (pkS x s) x (AV.put q d.hollow (s x)) x).plain = false → (s x).plain = false ∧ ∀ v, shp (s x) v → shp (upd (pkS x s) x (AV.put q d.hollow (s x)) x) v := by
    rw [upd_same]
    intro hpl
    cases q with
    | nil =>
      exfalso
      have : ∀ d : AV, d.hollow.plain = true := by
        intro d
        have key : ∀ n, (∀ d : AV, SizeOf.sizeOf d ≤ n → d.hollow.plain = true) ∧ (∀ ds : List AV, SizeOf.sizeOf ds ≤ n → AV.plains (AV.hollows ds) = true) := by
          intro n
          induction n with
          | zero => exact ⟨fun d hz => by cases d <;> simp at hz <;> omega, fun ds hz => by cases ds <;> simp at hz <;> omega⟩
          | succ n ih =>
            refine ⟨fun d hz => ?_, fun ds hz => ?_⟩
            · cases d with
              | agg fs => simp only [AV.hollow, AV.plain]; exact ih.2 _ (by simp at hz; omega)
              | tuple fs => simp only [AV.hollow, AV.plain]; exact ih.2 _ (by simp at hz; omega)
              | _ => rfl
            · cases ds with
              | nil => rfl
              | cons d ds =>
                simp at hz
                simp only [AV.hollows, AV.plains, Bool.and_eq_true]
                exact ⟨ih.1 _ (by omega), ih.2 _ (by omega)⟩
        exact (key _).1 d (Nat.le_refl _)
      simp only [AV.put] at hpl
      rw [this] at hpl
      cases hpl
    | cons k q =>
      refine ⟨?_, fun v hv => shp_put hv hd (fun v h => shp1_hollow h) (fun h vs e => ?_) (AV.hollow_wd d)⟩
      · cases hpx : (s x).plain with
        | false => rfl
        | true => rw [AV.sub_plain _ _ _ hpx hd] at hp; cases hp
      · cases d <;> first | (exact h _ rfl) | (simp [AV.hollow] at e)

/-- What a non-plain place holds is taken: the slot keeps it hollow. -/
theorem RelX.take (h : RelX w0 F0 X F S s tm w) {x : Nat} {q : List Nat} {d : AV} (hd : AV.sub q (s x) = some d) (hp : d.plain = false) :
    ∃ (Sn Sd : Nat → Prop) (dcs : List Value) (a : Option (Nat × Nat)), RelX w0 F0 X F (updS S x Sn) (upd (pkS x s) x (AV.put q d.hollow (s x))) tm w ∧
      fol w q (s x) (vc (tm x)) none = some (d, dcs, a) ∧ RV w F d dcs Sd ∧ (∀ b, Sd b → S x b) ∧ (∀ b, Sn b → S x b) ∧ (∀ b, Sd b → ¬ Sn b) ∧
      (∀ (d' : AV) (v : Value) (S' : Nat → Prop), SV w F s tm d' v S' → SV w F (upd (pkS x s) x (AV.put q d.hollow (s x))) tm (Fw.pk x d') v S') := by
  have ht := tree_of_sub hd (.inl hp)
  have hx := h.sv x
  rw [SV.of_tree ht] at hx
  obtain ⟨dcs, a, Sc, Sd, g0, g1, g2, g3, g4, g5⟩ := ctx q (s x) (vc (tm x)) (S x) none d hx.2 hd
  have hput : RV w F (AV.put q d.hollow (s x)) (vc (tm x)) Sc := by
    have hh : RV w F d.hollow dcs (fun _ => False) := RV.hollow _ _ _ _ g4
    have hsc : ∀ b, (Sc b ∨ False) → Sc b := fun b h => h.elim id False.elim
    rcases g5 with ⟨l, r, e1, e2, e3⟩ | ⟨b, cur, e, fr, l, r, e1, e2, e3, e4, e5, e6⟩
    · have := e3 w _ dcs _ (fun _ _ => rfl) (fun _ _ => rfl) (AV.hollow_wd d) hh (fun _ h => h.elim)
      rw [← e1] at this
      exact RV.mono (fun _ h => h) _ _ _ _ hsc this
    · have := e6 w _ dcs _ (fun _ _ => rfl) (fun _ _ _ => rfl) (by rw [e3, ← e5]) (AV.hollow_wd d) hh (fun _ h => h.elim)
      exact RV.mono (fun _ h => h) _ _ _ _ hsc this
  have hshp : shp (AV.put q d.hollow (s x)) (tm x) ∧ (AV.put q d.hollow (s x)).tree = true ∨ AV.put q d.hollow (s x) = .hole := by
    cases q with
    | nil =>
      simp only [AV.sub, Option.some.injEq] at hd
      subst hd
      simp only [AV.put]
      cases hs : s x with
      | uslice sz xs => right; rfl
      | ubox y => right; rfl
      | agg fs => left; rw [hs] at hx; exact ⟨hx.1, rfl⟩
      | tuple fs =>
        left
        rw [hs] at hx
        refine ⟨?_, rfl⟩
        simp only [shp, AV.hollow] at hx ⊢
        obtain ⟨arr, e, hz, hall⟩ := hx.1
        have hl : ∀ fs : List AV, AV.hollows fs = fs.map AV.hollow := by
          intro fs; induction fs with
          | nil => rfl
          | cons a fs ih => simp [AV.hollows, ih]
        refine ⟨arr, e, by rw [hl]; simpa using hz, fun k e' y he hy => ?_⟩
        rw [hl, List.getElem?_map] at he
        cases hk : fs[k]? with
        | none => rw [hk] at he; cases he
        | some z =>
          rw [hk] at he
          simp only [Option.map_some, Option.some.injEq] at he
          subst he
          obtain ⟨g1, g2, g3⟩ := hall k z y hk hy
          refine ⟨shp1_hollow g1, fun vs e => ?_, g3.trans (AV.hollow_wd z).symm⟩
          cases z <;> first | (exact g2 _ rfl) | (simp [AV.hollow] at e)
      | _ => rw [hs] at hp; simp [AV.plain] at hp
    | cons k q =>
      left
      refine ⟨shp_put hx.1 hd (fun v h => shp1_hollow h) (fun h vs e => ?_) (AV.hollow_wd d), ?_⟩
      · cases d <;> first | (exact h _ rfl) | (simp [AV.hollow] at e)
      · rcases put_cons k q d.hollow (s x) with ⟨fs, gs, e1, e⟩ | ⟨fs, gs, e1, e⟩ | ⟨sz, xs, ys, e1, e⟩ | ⟨y, z, e1, e⟩ | e <;> rw [e] <;> first | rfl | exact ht
  refine ⟨Sc, Sd, dcs, a, ?_, g0, g4, g2, g1, fun b h1 h2 => g3 b h2 h1, ?_⟩
  rotate_left
  · have hB : ∀ y, y ≠ x → (upd (pkS x s) x (AV.put q d.hollow (s x)) y).tree = true → upd (pkS x s) x (AV.put q d.hollow (s x)) y = s y ∧ tm y = tm y := fun y hy ht => by
      rw [upd_ne _ _ hy] at ht ⊢
      exact ⟨(pk_tree_iff ht).2, rfl⟩
    intro d' v S' hd'
    exact (SV.pk hB rfl (takeRoot hd hp) (fun _ _ _ _ _ _ => rfl) (fun _ _ => rfl) _).1 _ _ _ (Nat.le_refl _) (fun _ _ => rfl) hd'
  have hB : ∀ y, y ≠ x → (upd (pkS x s) x (AV.put q d.hollow (s x)) y).tree = true → upd (pkS x s) x (AV.put q d.hollow (s x)) y = s y ∧ tm y = tm y := fun y hy ht => by
    rw [upd_ne _ _ hy] at ht ⊢
    exact ⟨(pk_tree_iff ht).2, rfl⟩
  have hR := takeRoot (s := s) (x := x) hd hp
  constructor
  case F0F => exact h.F0F
  case FF0 => exact h.FF0
  case Flt => exact h.Flt
  case Slt => exact fun u b hb => by simp only [updS] at hb; split at hb; exact h.Slt x b (g1 b hb); exact h.Slt u b hb
  case SF => exact fun u b hb => by simp only [updS] at hb; split at hb; exact h.SF x b (g1 b hb); exact h.SF u b hb
  case SS =>
    intro u y b hne hb hy
    simp only [updS] at hb hy
    split at hb
    · rename_i hu
      rw [if_neg (fun e => hne (hu.trans e.symm))] at hy
      exact h.SS x y b (fun e => hne (hu.trans e)) (g1 b hb) hy
    · rename_i hu
      split at hy
      · exact h.SS u x b hu hb (g1 b hy)
      · exact h.SS u y b hne hb hy
  case S0 => exact fun u b hb => by simp only [updS] at hb; split at hb; exact h.S0 x b (g1 b hb); exact h.S0 u b hb
  case sv =>
    intro u
    by_cases hu : u = x
    · subst hu
      rw [upd_same, updS_same]
      rcases hshp with ⟨e1, e2⟩ | e
      · exact (SV.of_tree e2).2 ⟨e1, hput⟩
      · rw [e, SV]; trivial
    · rw [upd_ne _ _ hu, updS_ne _ _ hu]
      exact (SV.pk hB rfl hR (fun _ _ _ _ _ _ => rfl) (fun _ _ => rfl) _).1 _ _ _ (Nat.le_refl _) (fun _ _ => rfl) (h.sv u)
  case old => exact h.old
  case size => exact h.size
  case os => exact h.os
  case tape => exact h.tape
  case output => exact h.output

/-- The block of an address, with some of its cells exchanged. -/
def Wrote (w w' : World) (b : Nat) (l m m' r : List Value) : Prop :=
  ∃ cur e fr, w.heap[b]? = some (.cells cur e fr) ∧ cur.toList = l ++ (m ++ r) ∧ nofrz fr cur.size ∧ w'.heap[b]? = some (.cells (l ++ (m' ++ r)).toArray e fr) ∧ (∀ c, c ≠ b → w'.heap[c]? = w.heap[c]?) ∧
    w'.heap.size = w.heap.size ∧ w'.os = w.os ∧ w'.tape = w.tape ∧ w'.output = w.output

/-- A place in owned memory gets another tree. -/
theorem RelX.store (h : RelX w0 F0 X F S s tm w) {x : Nat} {q : List Nat} {d d' : AV} (hd : AV.sub q (s x) = some d) (hc : AV.cross q (s x) = true)
    {dcs' : List Value} {Sn : Nat → Prop} (hv : RV w F d' dcs' Sn) (hwd : d'.wd = d.wd)
    (hlt : ∀ b, Sn b → b < w.heap.size) (hF : ∀ b, Sn b → ¬ F b) (hS : ∀ u b, Sn b → ¬ S u b) (h0 : ∀ b, Sn b → X b ∨ w0.heap.size ≤ b) :
    ∃ (dcs : List Value) (b : Nat) (l r : List Value) (cur : Array Value) (e : TypeId) (fr : Nat × Nat), fol w q (s x) (vc (tm x)) none = some (d, dcs, some (b, l.length)) ∧
      w.heap[b]? = some (.cells cur e fr) ∧ cur.toList = l ++ (dcs ++ r) ∧ nofrz fr cur.size ∧
      ∀ w', w'.heap[b]? = some (.cells (l ++ (dcs' ++ r)).toArray e fr) → (∀ c, c ≠ b → w'.heap[c]? = w.heap[c]?) → w'.heap.size = w.heap.size → w'.os = w.os → w'.tape = w.tape → w'.output = w.output →
        ∃ S', RelX w0 F0 X F S' (upd (pkS x s) x (AV.put q d' (s x))) tm w' := by
  have ht := tree_of_sub hd (.inr hc)
  have hx := h.sv x
  rw [SV.of_tree ht] at hx
  obtain ⟨dcs, a, Sc, Sd, g0, g1, g2, g3, g4, g5⟩ := ctx q (s x) (vc (tm x)) (S x) none d hx.2 hd
  have hdeep : Deep w F q (s x) (vc (tm x)) d dcs a Sc := by
    rcases g5 with ⟨l, r, e1, e2, e3⟩ | g5
    · exfalso
      have hno : ∀ (q : List Nat) (av : AV) (cs : List Value) (a0 : Option (Nat × Nat)) (d : AV) (dcs : List Value), AV.cross q av = true → fol w q av cs a0 = some (d, dcs, none) → False := by
        intro q
        induction q with
        | nil => intro av cs a0 d dcs hc; simp [AV.cross] at hc
        | cons k q ih =>
          have hsome : ∀ (q : List Nat) (av : AV) (cs : List Value) (l : Nat × Nat) (d : AV) (dcs : List Value), fol w q av cs (some l) = some (d, dcs, none) → False := by
            intro q
            induction q with
            | nil => intro av cs l d dcs h; simp [fol] at h
            | cons k q ih2 =>
              intro av cs l d dcs h
              cases av with
              | agg fs => rw [fol] at h; split at h; exact ih2 _ _ _ _ _ h; cases h
              | tuple fs => rw [fol] at h; split at h; exact ih2 _ _ _ _ _ h; cases h
              | uslice sz xs => simp only [fol] at h; split at h; exact ih2 _ _ _ _ _ h; cases h
              | ubox y =>
                cases k with
                | zero => rw [fol.eq_def] at h; simp only at h; split at h; exact ih2 _ _ _ _ _ h; cases h
                | succ k => rw [show fol w ((k + 1) :: q) (.ubox y) cs (some l) = none from rfl] at h; cases h
              | _ => simp [fol] at h
          intro av cs a0 d dcs hc h
          cases av with
          | agg fs =>
            simp only [AV.cross] at hc
            split at hc
            · rename_i y hy
              simp only [fol, hy] at h
              exact ih _ _ _ _ _ hc h
            · cases hc
          | tuple fs =>
            simp only [AV.cross] at hc
            split at hc
            · rename_i y hy
              simp only [fol, hy] at h
              exact ih _ _ _ _ _ hc h
            · cases hc
          | uslice sz xs => simp only [fol] at h; split at h; exact hsome _ _ _ _ _ _ h; cases h
          | ubox y =>
            cases k with
            | zero => rw [fol.eq_def] at h; simp only at h; split at h; exact hsome _ _ _ _ _ _ h; cases h
            | succ k => rw [show fol w ((k + 1) :: q) (.ubox y) cs a0 = none from rfl] at h; cases h
          | _ => simp [AV.cross] at hc
      simp only [Option.map_none] at e2
      subst e2
      exact hno _ _ _ _ _ _ hc g0
    · exact g5
  obtain ⟨b, cur, e, fr, l, r, rfl, e2, e3, e4, e5, e6⟩ := hdeep
  refine ⟨dcs, b, l, r, cur, e, fr, g0, e3, e5, e4, ?_⟩
  intro w' hb' hoth hsz hos htape hout
  have hbS : S x b := g1 _ e2
  have hFb : ∀ c, F c → w'.heap[c]? = w.heap[c]? := fun c hc => hoth c (by rintro rfl; exact h.SF x _ hbS hc)
  have hdcs : dcs'.length = dcs.length := by rw [RV.length _ _ _ hv, RV.length _ _ _ g4, hwd]
  have hput := e6 w' d' dcs' Sn hFb (fun c _ hne => hoth c hne) hb' hwd
    (RV.frame hFb _ _ _ (fun c hc => hoth c (by rintro rfl; exact hS x _ hc hbS)) hv) (fun c hc hsc => hS x c hc (g1 _ hsc))
  obtain ⟨k, q', rfl⟩ : ∃ k q', q = k :: q' := by
    cases q with
    | nil => simp [AV.cross] at hc
    | cons k q => exact ⟨k, q, rfl⟩
  have htop : ∀ v, shp (s x) v → shp (AV.put (k :: q') d' (s x)) v := by
    intro v hv
    rcases put_cons k q' d' (s x) with ⟨fs, gs, e1, e⟩ | ⟨fs, gs, e1, e⟩ | ⟨sz, xs, ys, e1, e⟩ | ⟨y, z, e1, e⟩ | e
    · rw [e]; rw [e1] at hv; exact hv
    · -- a tuple: the path goes on below its component
      rw [e1] at hv hd hc ⊢
      simp only [AV.cross] at hc
      split at hc
      · rename_i y hy
        simp only [AV.put, hy]
        cases q' with
        | nil => simp [AV.cross] at hc
        | cons k2 q2 =>
          simp only [shp] at hv ⊢
          obtain ⟨arr, rfl, hz, hall⟩ := hv
          refine ⟨arr, rfl, by simpa using hz, fun j e y' he hy' => ?_⟩
          rw [List.getElem?_set] at he
          split at he
          · rename_i hjk
            subst hjk
            split at he
            · simp only [Option.some.injEq] at he
              subst he
              obtain ⟨g1, g2, g3⟩ := hall _ y y' hy hy'
              simp only [AV.sub, hy] at hd
              exact ⟨shp1_put g1, ntuple_put g2, g3.trans (AV.put_wd (k2 :: q2) y d d' hd hwd).symm⟩
            · cases he
          · exact hall j e y' he hy'
      · cases hc
    · rw [e]; rw [e1] at hv; exact hv
    · rw [e]; rw [e1] at hv; exact hv
    · rw [e]; exact hv
  have htree : (AV.put (k :: q') d' (s x)).tree = true := by
    rcases put_cons k q' d' (s x) with ⟨fs, gs, e1, e⟩ | ⟨fs, gs, e1, e⟩ | ⟨sz, xs, ys, e1, e⟩ | ⟨y, z, e1, e⟩ | e <;> rw [e] <;> first | rfl | exact ht
  let s' := upd (pkS x s) x (AV.put (k :: q') d' (s x))
  have hB : ∀ y, y ≠ x → (s' y).tree = true → s' y = s y ∧ tm y = tm y := fun y hy ht => by
    have e : s' y = pk x (s y) := upd_ne _ _ hy
    rw [e] at ht ⊢
    exact ⟨(pk_tree_iff ht).2, rfl⟩
  have hR : (s' x).plain = false → (s x).plain = false ∧ ∀ v, shp (s x) v → shp (s' x) v := by
    intro _
    refine ⟨?_, ?_⟩
    · cases hpx : (s x).plain with
      | false => rfl
      | true => rw [AV.cross_plain _ _ hpx] at hc; cases hc
    · simp only [s', upd_same]; exact htop
  -- first the world turns under the old state with slot x made void, then the slot gets its new tree
  refine ⟨updS S x (fun c => Sc c ∨ Sn c), ?_⟩
  constructor
  case F0F => exact h.F0F
  case FF0 => exact h.FF0
  case Flt => exact fun b hb => by rw [hsz]; exact h.Flt b hb
  case Slt =>
    intro u c hb
    rw [hsz]
    simp only [updS] at hb
    split at hb
    · rcases hb with hb | hb
      · exact h.Slt x c (g1 c hb)
      · exact hlt c hb
    · exact h.Slt u c hb
  case SF =>
    intro u c hb
    simp only [updS] at hb
    split at hb
    · rcases hb with hb | hb
      · exact h.SF x c (g1 c hb)
      · exact hF c hb
    · exact h.SF u c hb
  case SS =>
    intro u y c hne hb hy
    simp only [updS] at hb hy
    split at hb
    · rename_i hu
      rw [if_neg (fun e => hne (hu.trans e.symm))] at hy
      rcases hb with hb | hb
      · exact h.SS x y c (fun e => hne (hu.trans e)) (g1 c hb) hy
      · exact hS y c hb hy
    · rename_i hu
      split at hy
      · rcases hy with hy | hy
        · exact h.SS u x c hu hb (g1 c hy)
        · exact hS u c hy hb
      · exact h.SS u y c hne hb hy
  case S0 =>
    intro u c hb
    simp only [updS] at hb
    split at hb
    · rcases hb with hb | hb
      · exact h.S0 x c (g1 c hb)
      · exact h0 c hb
    · exact h.S0 u c hb
  case sv =>
    intro u
    by_cases hu : u = x
    · subst hu
      rw [upd_same, updS_same]
      exact (SV.of_tree htree).2 ⟨htop _ hx.1, hput⟩
    · rw [upd_ne _ _ hu, updS_ne _ _ hu]
      have hne : ∀ y c, y ≠ x → S y c → w'.heap[c]? = w.heap[c]? := fun y c hy hc => hoth c (by rintro rfl; exact h.SS y x c hy hc hbS)
      refine (SV.pk hB rfl hR (fun y q2 d2 hy hd2 hp2 => ?_) hFb _).1 _ _ _ (Nat.le_refl _) (fun c hc => hne u c hu hc) (h.sv u)
      have hyv := h.sv y
      rw [SV.of_tree (tree_of_sub hd2 hp2)] at hyv
      exact fol_frame q2 _ _ _ none d2 hyv.2 hd2 (fun c hc => hne y c hy hc)
  case old =>
    intro c hlt hX
    by_cases hcb : c = b
    · subst hcb
      exfalso
      rcases h.S0 x c hbS with hh | hh
      · exact hX hh
      · omega
    · exact (hoth c hcb).trans (h.old c hlt hX)
  case size => rw [hsz]; exact h.size
  case os => exact hos.trans h.os
  case tape => exact htape.trans h.tape
  case output => exact hout.trans h.output

end

end Go.Fw
