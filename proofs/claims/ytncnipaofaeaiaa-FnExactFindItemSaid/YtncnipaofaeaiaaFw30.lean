/- Part of a proof that a law returns true for every input. No condition. -/
import Derived.Test.YtncnipaofaeaiaaFw29
namespace Go.Fw

/-! Drawn regions: a run in the order of the text, and what it touched. -/

/-- What a step touched: the slots read, the slots that handles name, the slots changed; and whether all that it read was there. -/
structure FP where
  U : List Nat
  H : List Nat
  T : List Nat
  c : Bool

mutual
def AV.clean : AV → Bool
  | .hole => false
  | .fn _ cap => AV.cleans cap
  | _ => true
def AV.cleans : List AV → Bool
  | [] => true
  | d :: ds => d.clean && AV.cleans ds
end

mutual
theorem pk_clean {x : Nat} : ∀ a : AV, (pk x a).clean = true → pk x a = a
  | .h y q, h => by
    simp only [pk] at h ⊢
    split
    · rename_i e; rw [if_pos e] at h
      split
      · rfl
      · rename_i e'; rw [if_neg e'] at h; simp [AV.clean] at h
    · rfl
  | .hp y q, h => by
    simp only [pk] at h ⊢
    split
    · rename_i e; rw [if_pos e] at h; simp [AV.clean] at h
    · rfl
  | .fn f cap, h => by simp only [pk, AV.clean] at h ⊢; rw [pks_clean cap h]
  | .hole, _ => rfl
  | .bool _, _ => rfl
  | .anyb, _ => rfl
  | .int _ _, _ => rfl
  | .str _, _ => rfl
  | .nilp, _ => rfl
  | .nils, _ => rfl
  | .slice _, _ => rfl
  | .uslice _ _, _ => rfl
  | .ref _, _ => rfl
  | .ubox _, _ => rfl
  | .agg _, _ => rfl
  | .tuple _, _ => rfl
theorem pks_clean {x : Nat} : ∀ ds : List AV, AV.cleans (pks x ds) = true → pks x ds = ds
  | [], _ => rfl
  | d :: ds, h => by
    simp only [pks, AV.cleans, Bool.and_eq_true] at h ⊢
    rw [pk_clean d h.1, pks_clean ds h.2]
end

mutual
theorem pg_clean {x : Nat} : ∀ a : AV, (pg x a).clean = true → pg x a = a
  | .h y q, h => by
    simp only [pg] at h ⊢
    split
    · rename_i e; rw [if_pos e] at h; simp [AV.clean] at h
    · rfl
  | .hp y q, h => by
    simp only [pg] at h ⊢
    split
    · rename_i e; rw [if_pos e] at h; simp [AV.clean] at h
    · rfl
  | .fn f cap, h => by simp only [pg, AV.clean] at h ⊢; rw [pgs_clean cap h]
  | .hole, _ => rfl
  | .bool _, _ => rfl
  | .anyb, _ => rfl
  | .int _ _, _ => rfl
  | .str _, _ => rfl
  | .nilp, _ => rfl
  | .nils, _ => rfl
  | .slice _, _ => rfl
  | .uslice _ _, _ => rfl
  | .ref _, _ => rfl
  | .ubox _, _ => rfl
  | .agg _, _ => rfl
  | .tuple _, _ => rfl
theorem pgs_clean {x : Nat} : ∀ ds : List AV, AV.cleans (pgs x ds) = true → pgs x ds = ds
  | [], _ => rfl
  | d :: ds, h => by
    simp only [pgs, AV.cleans, Bool.and_eq_true] at h ⊢
    rw [pg_clean d h.1, pgs_clean ds h.2]
end

theorem app_clean {k : PK} {x : Nat} {a : AV} (h : (k.app x a).clean = true) : k.app x a = a := by
  cases k with
  | no => rfl
  | pk => exact pk_clean a h
  | pg => exact pg_clean a h

theorem chgAt_clean : ∀ (ms : List Md) (u : Nat) (a : AV), (∀ m ∈ ms, m.x ≠ u) → (chgAt ms u a).clean = true → chgAt ms u a = a := by
  intro ms
  induction ms with
  | nil => intros; rfl
  | cons m ms ih =>
    intro u a hx hc
    simp only [chgAt] at hc ⊢
    have e := ih u _ (fun m' hm' => hx m' (by simp [hm'])) hc
    have hm : m.at u a = m.k.app m.x a := by
      simp only [Md.at]; rw [if_neg (fun e => hx m (by simp) e.symm)]
    rw [e, hm]
    rw [e, hm] at hc
    exact app_clean hc

theorem chgAt_id : ∀ (ms : List Md) (u : Nat) (a : AV), (∀ m ∈ ms, m.x ≠ u ∧ m.x ∉ a.hs) → chgAt ms u a = a := by
  intro ms
  induction ms with
  | nil => intros; rfl
  | cons m ms ih =>
    intro u a hx
    simp only [chgAt]
    have hm : m.at u a = a := by
      simp only [Md.at]; rw [if_neg (fun e => (hx m (by simp)).1 e.symm)]
      exact app_id (.inr (hx m (by simp)).2)
    rw [hm]
    exact ih u a fun m' hm' => hx m' (by simp [hm'])

theorem chgAt_app (k : PK) (x : Nat) : ∀ (ms : List Md) (u : Nat) (a : AV), (∀ m ∈ ms, x ∉ m.d.hs) → chgAt ms u (k.app x a) = k.app x (chgAt ms u a) ∨ chgAt ms u (k.app x a) = chgAt ms u a := by
  intro ms
  induction ms with
  | nil => intros; exact .inl rfl
  | cons m ms ih =>
    intro u a hx
    simp only [chgAt, Md.at]
    split
    · exact .inr rfl
    · rw [app_app]
      exact ih u _ fun m' hm' => hx m' (by simp [hm'])

/-- Two lists of changes that do not meet. -/
theorem chg_one (m : Md) : ∀ (ms : List Md) (u : Nat) (a : AV), (∀ m' ∈ ms, m'.x ≠ m.x ∧ m'.x ∉ m.d.hs ∧ m.x ∉ m'.d.hs) → chgAt ms u (m.at u a) = m.at u (chgAt ms u a) := by
  intro ms
  induction ms with
  | nil => intros; rfl
  | cons n ms ih =>
    intro u a hx
    simp only [chgAt]
    have hn := hx n (by simp)
    have hc : n.at u (m.at u a) = m.at u (n.at u a) := by
      simp only [Md.at]
      by_cases e1 : u = n.x
      · subst e1
        rw [if_pos rfl, if_neg hn.1, if_pos rfl]
        exact (app_id (.inr hn.2.2)).symm
      · rw [if_neg e1]
        by_cases e2 : u = m.x
        · subst e2
          rw [if_pos rfl, if_pos rfl]
          exact app_id (.inr hn.2.1)
        · rw [if_neg e2, if_neg e1, if_neg e2]
          exact app_app _ _ _ _ _
    rw [hc]
    exact ih u _ fun m' hm' => hx m' (by simp [hm'])

theorem chg_comm : ∀ (ms ns : List Md) (s : St), (∀ m ∈ ms, ∀ n ∈ ns, n.x ≠ m.x ∧ n.x ∉ m.d.hs ∧ m.x ∉ n.d.hs) → chg ns (chg ms s) = chg ms (chg ns s) := by
  intro ms
  induction ms with
  | nil => intros; rfl
  | cons m ms ih =>
    intro ns s h
    have e : ∀ s, chg (m :: ms) s = chg ms (chg [m] s) := fun s => chg_append [m] ms s
    rw [e, e, ih ns _ (fun m' hm' => h m' (by simp [hm']))]
    congr 1
    funext u
    simp only [chg, chgAt]
    exact chg_one m ns u _ (h m (by simp))

/-- One operation, and what it may take. -/
def wpOT (C : Cx) (s : St) (so : SO) (K : List Nat → AV → St → Prop) : Prop :=
  match so with
  | .call f args => ∃ (g : FuncId) (caps : List AV) (ps : List PA) (r : AV), ev s f = .fn g caps ∧ AV.plains caps = true ∧ ps.map (·.a) = args.map (ev s) ++ caps ∧ (∀ p ∈ ps, p.ok s) ∧ apartPA ps = true ∧
      OkAt C g (ps.map (·.d)) r (ps.map (·.o)) ∧ r.res = true ∧ (lent ps = true → r.nosh = true ∧ ∀ p ∈ ps, p.o.nosh = true) ∧ K (AV.hss ((ps.filter (·.g)).map (·.a))) r (giveL (takeL s ps) ps)
  | so => ∃ av s1, eff C s so = some (av, s1) ∧ K (tks s so) av s1

def fpO (s : St) (U : List Nat) (dst : Option Nat) (tk : List Nat) (av : AV) : FP :=
  ⟨U, U.flatMap (fun u => (s u).hs) ++ av.hs, dst.toList ++ tk, U.all fun u => (s u).clean⟩

def wpRT (C : Cx) (s : St) (o : RO) (K : FP → St → Prop) : Prop :=
  match o.guard with
  | none => wpOT C s o.so fun tk av s1 => K (fpO s (use s o.so) o.dst tk av) (fin s1 o.dst av)
  | some (t, b) => match s t with
    | .bool b' => if b' = b then wpOT C s o.so (fun tk av s1 => K (fpO s (t :: use s o.so) o.dst tk av) (fin s1 o.dst av)) else K (fpO s [t] o.dst [] (.tuple [])) (fin s o.dst (.tuple []))
    | .tuple [] => K (fpO s [t] o.dst [] (.tuple [])) (fin s o.dst (.tuple []))
    | _ => False

def pushF : Option (List FP) → FP → Option (List FP)
  | none, _ => none
  | some l, f => some (f :: l)

def wpT (C : Cx) (s : St) : List RO → Option (List FP) → (Option (List FP) → St → Prop) → Prop
  | [], acc, K => K acc s
  | o :: os, acc, K => wpRT C s o fun f s1 => wpT C s1 os (pushF acc f) K

section
variable {C : Cx}

theorem wpOT_wpO {s : St} {so : SO} {K : List Nat → AV → St → Prop} {K' : AV → St → Prop} (hk : ∀ tk av s, K tk av s → K' av s) (h : wpOT C s so K) : wpO C s so K' := by
  cases so with
  | call f args =>
    obtain ⟨g, caps, ps, r, h1, hcp, h2, h3, h4, h5, h6, h7, h8⟩ := h
    exact ⟨g, caps, ps, r, h1, hcp, h2, h3, h4, h5, h6, h7, hk _ _ _ h8⟩
  | _ =>
    obtain ⟨av, s1, h1, h2⟩ := h
    exact ⟨av, s1, h1, hk _ _ _ h2⟩

theorem wpRT_wpR {s : St} {o : RO} {K : FP → St → Prop} {K' : St → Prop} (hk : ∀ f s, K f s → K' s) (h : wpRT C s o K) : wpR C s o K' := by
  unfold wpRT at h
  unfold wpR
  split
  · rename_i hg; rw [hg] at h; exact wpOT_wpO (fun _ _ _ => hk _ _) h
  · rename_i t b hg
    rw [hg] at h
    simp only at h
    split
    · rename_i b' hs
      rw [hs] at h
      simp only at h
      split
      · rename_i hb; rw [if_pos hb] at h; exact wpOT_wpO (fun _ _ _ => hk _ _) h
      · rename_i hb; rw [if_neg hb] at h; exact hk _ _ h
    · rename_i hs; rw [hs] at h; exact hk _ _ h
    · rename_i h1 h2
      split at h
      · exact h1 _ (by assumption)
      · exact h2 (by assumption)
      · exact h

/-- A region in the order of the text. -/
theorem wpRs_of_T {K : St → Prop} : ∀ {ros : List RO} {s : St} {acc : Option (List FP)} {K' : Option (List FP) → St → Prop}, (∀ a s, K' a s → K s) → wpT C s ros acc K' → wpRs C s ros K := by
  intro ros
  induction ros with
  | nil => intro s acc K' hk h; exact hk _ _ h
  | cons o ros ih => intro s acc K' hk h; exact wpRT_wpR (fun f s h => ih hk h) h

theorem sub_hs {q : List Nat} {a d : AV} (h : AV.sub q a = some d) (hq : q ≠ [] ∨ d.hs = []) : a.hs = [] := by
  cases q with
  | nil =>
    simp only [AV.sub, Option.some.injEq] at h; subst h
    exact hq.resolve_left (fun e => e rfl)
  | cons k q => cases a <;> first | rfl | (simp [AV.sub] at h)

def GivenAt (s : St) (p : PA) (e : AV → Prop) : Prop := p.g = true → ∃ x q d, p.a = .h x q ∧ AV.sub q (s x) = some d ∧ e d ∧ (p.o = .hole ∨ p.o.own = true)

theorem own_hs {d : AV} (h : d.own = true) : d.hs = [] := tree_hs (own_spec h).2.1

theorem apart_cons {p : PA} {ps : List PA} (h : apartPA (p :: ps) = true) : apartPA ps = true ∧ ∀ p' ∈ ps, (p.g = true ∨ p'.g = true) → ∀ u ∈ p.a.hs, u ∉ p'.a.hs := by
  simp only [apartPA, Bool.and_eq_true, List.all_eq_true, Bool.or_eq_true, Bool.not_eq_true'] at h
  refine ⟨h.2, fun p' hp' hg u hu => ?_⟩
  rcases h.1 p' hp' with e | e
  · rcases hg with hg | hg <;> simp [hg] at e
  · simpa using e u hu

def gh (ps : List PA) : List Nat := AV.hss ((ps.filter (·.g)).map (·.a))

theorem gh_cons (p : PA) (ps : List PA) : (∀ u ∈ gh ps, u ∈ gh (p :: ps)) ∧ (p.g = true → ∀ u ∈ p.a.hs, u ∈ gh (p :: ps)) := by
  unfold gh
  by_cases hg : p.g = true
  · simp only [List.filter_cons, hg, if_true, List.map_cons, AV.hss, List.mem_append]
    exact ⟨fun u h => .inr h, fun _ u h => .inl h⟩
  · simp only [List.filter_cons, hg]
    exact ⟨fun u h => h, fun h => by simp at h⟩

theorem hss_mem {p : PA} {ps : List PA} (h : p ∈ ps) : ∀ u ∈ p.a.hs, u ∈ AV.hss (ps.map (·.a)) := by
  induction ps with
  | nil => cases h
  | cons p' ps ih =>
    intro u hu
    simp only [List.map_cons, AV.hss, List.mem_append]
    rcases List.mem_cons.1 h with rfl | h
    · exact .inl hu
    · exact .inr (ih h u hu)

theorem takeL_local : ∀ (ps : List PA) (s : St), (∀ p ∈ ps, GivenAt s p (fun d => d.own = true)) → apartPA ps = true →
    (∃ ms : List Md, (∀ m ∈ ms, m.x ∈ gh ps ∧ m.d.hs = []) ∧ ∀ s', Agree (AV.hss (ps.map (·.a))) s' s → takeL s' ps = chg ms s') ∧ ∀ p ∈ ps, GivenAt (takeL s ps) p (fun d => d = .hole) := by
  intro ps
  induction ps with
  | nil => intro s _ _; exact ⟨⟨[], by simp, fun s' _ => rfl⟩, fun p hp => by cases hp⟩
  | cons p ps ih =>
    intro s hg hap
    obtain ⟨hap1, hap2⟩ := apart_cons hap
    by_cases hpg : p.g = true
    · obtain ⟨x, q, d, ha, hs, hd, ho⟩ := hg p (by simp) hpg
      have hput : (AV.put q .hole (s x)).hs = [] := put_hs q _ _ _ hs (.inl (own_spec hd).1) fun _ => rfl
      have htake : ∀ s' : St, s' x = s x → p.take s' = chg [⟨.pk, x, AV.put q .hole (s x)⟩] s' := by
        intro s' e
        simp only [PA.take, hpg, if_true, ha, e, upd_pkS]
      have hne : ∀ p' ∈ ps, ∀ x' q', p'.a = .h x' q' → x' ≠ x := by
        intro p' hp' x' q' e e'
        have := hap2 p' hp' (.inl hpg) x (by simp [ha, AV.hs])
        rw [e, e'] at this; simp [AV.hs] at this
      have hkeep : ∀ x', x' ≠ x → (s x').hs = [] → chg [⟨.pk, x, AV.put q .hole (s x)⟩] s x' = s x' := by
        intro x' hx' h0
        simp only [chg, chgAt, Md.at]
        rw [if_neg hx']
        exact app_id (.inr (by rw [h0]; simp))
      obtain ⟨⟨ms, m1, m2⟩, m3⟩ := ih (chg [⟨.pk, x, AV.put q .hole (s x)⟩] s) (fun p' hp' hp'g => by
        obtain ⟨x', q', d', ha', hs', hd', ho'⟩ := hg p' (by simp [hp']) hp'g
        refine ⟨x', q', d', ha', ?_, hd', ho'⟩
        rw [hkeep x' (hne p' hp' x' q' ha') (sub_hs hs' (.inr (own_hs hd')))]; exact hs') hap1
      refine ⟨⟨[⟨.pk, x, AV.put q .hole (s x)⟩] ++ ms, ?_, ?_⟩, ?_⟩
      · intro m hm
        rcases List.mem_append.1 hm with hm | hm
        · simp only [List.mem_singleton] at hm; subst hm
          exact ⟨(gh_cons p ps).2 hpg x (by simp [ha, AV.hs]), hput⟩
        · exact ⟨(gh_cons p ps).1 _ (m1 m hm).1, (m1 m hm).2⟩
      · intro s' hs'
        simp only [List.map_cons, AV.hss] at hs'
        have e : s' x = s x := hs' x (by simp [ha, AV.hs])
        rw [chg_append]
        show takeL (p.take s') ps = _
        rw [htake s' e]
        exact m2 _ (Agree.chg hs'.right _)
      · have e1 : takeL s (p :: ps) = takeL (chg [⟨.pk, x, AV.put q .hole (s x)⟩] s) ps := by
          show takeL (p.take s) ps = _
          rw [htake s rfl]
        rw [e1]
        intro p' hp'
        rcases List.mem_cons.1 hp' with rfl | hp'
        · intro _
          refine ⟨x, q, .hole, ha, ?_, rfl, ho⟩
          have hv : chg [⟨.pk, x, AV.put q .hole (s x)⟩] s x = AV.put q .hole (s x) := by
            simp only [chg, chgAt, Md.at, if_true]
          rw [takeL_keep (by rw [hv]; exact hput) (fun p'' hp'' hg'' => ?_), hv]
          · exact sub_put q _ _ _ hs
          · exact hap2 p'' hp'' (.inl hpg) x (by simp [ha, AV.hs])
        · exact m3 p' hp'
    · have htake : ∀ s' : St, p.take s' = s' := by intro s'; simp only [PA.take, hpg]; rfl
      obtain ⟨⟨ms, m1, m2⟩, m3⟩ := ih s (fun p' hp' => hg p' (by simp [hp'])) hap1
      refine ⟨⟨ms, fun m hm => ⟨(gh_cons p ps).1 _ (m1 m hm).1, (m1 m hm).2⟩, ?_⟩, ?_⟩
      · intro s' hs'
        simp only [List.map_cons, AV.hss] at hs'
        show takeL (p.take s') ps = _
        rw [htake]; exact m2 s' hs'.right
      · intro p' hp'
        have e1 : takeL s (p :: ps) = takeL s ps := by show takeL (p.take s) ps = _; rw [htake]
        rw [e1]
        rcases List.mem_cons.1 hp' with rfl | hp'
        · intro h; exact (hpg h).elim
        · exact m3 p' hp'

theorem giveL_local : ∀ (ps : List PA) (s : St), (∀ p ∈ ps, GivenAt s p (fun d => d = .hole)) → apartPA ps = true →
    (∃ ms : List Md, (∀ m ∈ ms, m.x ∈ gh ps ∧ m.d.hs = []) ∧ ∀ s', Agree (AV.hss (ps.map (·.a))) s' s → giveL s' ps = chg ms s') := by
  intro ps
  induction ps with
  | nil => intro s _ _; exact ⟨[], by simp, fun s' _ => rfl⟩
  | cons p ps ih =>
    intro s hg hap
    obtain ⟨hap1, hap2⟩ := apart_cons hap
    by_cases hpg : p.g = true ∧ p.o ≠ .hole
    · obtain ⟨hpg, hoh⟩ := hpg
      obtain ⟨x, q, d, ha, hs, hd, ho⟩ := hg p (by simp) hpg
      subst hd
      have ho : p.o.own = true := ho.resolve_left hoh
      have hput : (AV.put q p.o (s x)).hs = [] := by
        cases q with
        | nil => simp only [AV.put]; exact own_hs ho
        | cons k q => exact put_hs _ _ _ _ hs (.inr (by simp)) (by simp)
      have hgive : ∀ s' : St, s' x = s x → p.give s' = chg [⟨.pg, x, AV.put q p.o (s x)⟩] s' := by
        intro s' e
        simp only [PA.give, hpg, if_true, ha]
        rw [e, upd_pgS]
      have hne : ∀ p' ∈ ps, ∀ x' q', p'.a = .h x' q' → x' ≠ x := by
        intro p' hp' x' q' e e'
        have := hap2 p' hp' (.inl hpg) x (by simp [ha, AV.hs])
        rw [e, e'] at this; simp [AV.hs] at this
      obtain ⟨ms, m1, m2⟩ := ih (chg [⟨.pg, x, AV.put q p.o (s x)⟩] s) (fun p' hp' hp'g => by
        obtain ⟨x', q', d', ha', hs', hd', ho'⟩ := hg p' (by simp [hp']) hp'g
        refine ⟨x', q', d', ha', ?_, hd', ho'⟩
        subst hd'
        have h0 := sub_hs hs' (.inr rfl)
        have hkeep : chg [⟨.pg, x, AV.put q p.o (s x)⟩] s x' = s x' := by
          simp only [chg, chgAt, Md.at]
          rw [if_neg (hne p' hp' x' q' ha')]
          exact app_id (.inr (by rw [h0]; simp))
        rw [hkeep]; exact hs') hap1
      refine ⟨[⟨.pg, x, AV.put q p.o (s x)⟩] ++ ms, ?_, ?_⟩
      · intro m hm
        rcases List.mem_append.1 hm with hm | hm
        · simp only [List.mem_singleton] at hm; subst hm
          exact ⟨(gh_cons p ps).2 hpg x (by simp [ha, AV.hs]), hput⟩
        · exact ⟨(gh_cons p ps).1 _ (m1 m hm).1, (m1 m hm).2⟩
      · intro s' hs'
        simp only [List.map_cons, AV.hss] at hs'
        have e : s' x = s x := hs' x (by simp [ha, AV.hs])
        rw [chg_append]
        show giveL (p.give s') ps = _
        rw [hgive s' e]
        exact m2 _ (Agree.chg hs'.right _)
    · have hgive : ∀ s' : St, p.give s' = s' := by
        intro s'
        unfold PA.give
        split
        · rename_i hg'
          have : p.o = .hole := by
            by_cases h : p.o = .hole
            · exact h
            · exact (hpg ⟨hg', h⟩).elim
          rw [this]
        · rfl
      obtain ⟨ms, m1, m2⟩ := ih s (fun p' hp' => hg p' (by simp [hp'])) hap1
      refine ⟨ms, fun m hm => ⟨(gh_cons p ps).1 _ (m1 m hm).1, (m1 m hm).2⟩, ?_⟩
      intro s' hs'
      simp only [List.map_cons, AV.hss] at hs'
      show giveL (p.give s') ps = _
      rw [hgive]; exact m2 s' hs'.right

theorem view_agree {s s' : St} : ∀ (a : AV) (d : AV), Agree a.hs s' s → view s a = some d → view s' a = some d := by
  intro a d h
  have := view_keep (s := s) (s' := s') a d
  intro hv
  cases a with
  | h x q => simp only [view] at hv ⊢; rw [h x (by simp [AV.hs])]; exact hv
  | hp x q => simp only [view] at hv ⊢; rw [h x (by simp [AV.hs])]; exact hv
  | fn f cap =>
    refine this (fun u hu _ => h u hu) hv
  | _ => exact hv

theorem views_len {s : St} : ∀ {as ds : List AV}, views s as = some ds → as.length = ds.length := by
  intro as
  induction as with
  | nil => intro ds h; simp only [views, Option.some.injEq] at h; subst h; rfl
  | cons a as ih =>
    intro ds h
    simp only [views] at h
    split at h
    · rename_i d ds' h1 h2
      simp only [Option.some.injEq] at h; subst h
      simp [ih h2]
    · cases h

theorem pa_ok_agree {p : PA} {s s' : St} (h : Agree p.a.hs s' s) (hok : p.ok s) : p.ok s' := by
  unfold PA.ok at hok ⊢
  split
  · rename_i hg
    rw [if_pos hg] at hok
    cases ha : p.a with
    | h x q =>
      rw [ha] at hok
      simp only at hok ⊢
      rw [h x (by simp [ha, AV.hs])]; exact hok
    | _ => rw [ha] at hok; exact hok.elim
  · rename_i hg
    rw [if_neg hg] at hok
    exact view_agree _ _ h hok

/-- A step, where it may be done. -/
def Lc (C : Cx) (o : RO) (s : St) (fp : FP) (ms : List Md) : Prop :=
  (∀ s', Agree fp.U s' s → ∀ K : St → Prop, K (chg ms s') → wpR C s' o K) ∧ (∀ m ∈ ms, m.x ∈ fp.T ∧ ∀ u ∈ m.d.hs, u ∈ fp.H) ∧ (∀ u ∈ fp.U, ∀ x ∈ (s u).hs, x ∈ fp.H) ∧ (fp.c = true → ∀ u ∈ fp.U, (s u).clean = true)

theorem fin_chg (dst : Option Nat) (av : AV) : ∃ ms : List Md, (∀ m ∈ ms, m.x ∈ dst.toList ∧ m.d = av) ∧ ∀ s1 : St, fin s1 dst av = chg ms s1 := by
  cases dst with
  | none => exact ⟨[], by simp, fun s => rfl⟩
  | some t =>
    simp only [fin]
    by_cases h : av.plain = true
    · exact ⟨[⟨.no, t, av⟩], by simp, fun s => by rw [if_pos h, upd_no]⟩
    · exact ⟨[⟨.pg, t, av⟩], by simp, fun s => by rw [if_neg h, upd_pgS]⟩

theorem fpO_H {s : St} {U : List Nat} {dst : Option Nat} {tk : List Nat} {av : AV} : (∀ u ∈ (fpO s U dst tk av).U, ∀ x ∈ (s u).hs, x ∈ (fpO s U dst tk av).H) ∧ ((fpO s U dst tk av).c = true → ∀ u ∈ (fpO s U dst tk av).U, (s u).clean = true) := by
  refine ⟨fun u hu x hx => ?_, fun hc => ?_⟩
  · simp only [fpO, List.mem_append, List.mem_flatMap]; exact .inl ⟨u, hu, hx⟩
  · simp only [fpO, List.all_eq_true] at hc; exact hc

/-- The effect of an operation that goes on in any state that agrees. -/
theorem wpOT_local {s : St} {so : SO} {K : List Nat → AV → St → Prop} (h : wpOT C s so K) :
    ∃ tk av ms, K tk av (chg ms s) ∧ (∀ m ∈ ms, m.x ∈ tk ∧ m.d.hs = []) ∧ ∀ s', Agree (use s so) s' s → ∀ K' : AV → St → Prop, K' av (chg ms s') → wpO C s' so K' := by
  have plain : (∃ av s1, eff C s so = some (av, s1) ∧ K (tks s so) av s1) → (∀ s' (K' : AV → St → Prop) av s1, eff C s' so = some (av, s1) → K' av s1 → wpO C s' so K') →
      ∃ tk av ms, K tk av (chg ms s) ∧ (∀ m ∈ ms, m.x ∈ tk ∧ m.d.hs = []) ∧ ∀ s', Agree (use s so) s' s → ∀ K' : AV → St → Prop, K' av (chg ms s') → wpO C s' so K' := by
    rintro ⟨av, s1, h1, h2⟩ hw
    obtain ⟨ms, e1, e2, e3⟩ := eff_local h1
    subst e1
    exact ⟨_, av, ms, h2, e2, fun s' hs K' hk => hw s' K' av _ (e3 s' hs) hk⟩
  cases so with
  | call f args =>
    obtain ⟨g, caps, ps, r, h1, hcp, h2, h3, h4, h5, h6, h7, h8⟩ := h
    have hga : ∀ p ∈ ps, GivenAt s p (fun d => d.own = true) := by
      intro p hp hg
      have := h3 p hp
      simp only [PA.ok, hg, if_true] at this
      cases ha : p.a with
      | h x q => rw [ha] at this; exact ⟨x, q, p.d, rfl, this.1, this.2.1, this.2.2⟩
      | _ => rw [ha] at this; exact this.elim
    obtain ⟨⟨ms1, a1, a2⟩, a3⟩ := takeL_local ps s hga h4
    obtain ⟨ms2, b1, b2⟩ := giveL_local ps (takeL s ps) a3 h4
    have hU : ∀ u ∈ AV.hss (ps.map (·.a)), u ∈ use s (.call f args) := by
      rw [h2]
      intro u hu
      simp only [use, List.mem_append]
      have key : ∀ (l1 l2 : List AV), u ∈ AV.hss (l1 ++ l2) → u ∈ AV.hss l1 ∨ u ∈ AV.hss l2 := by
        intro l1
        induction l1 with
        | nil => intro l2 h; exact .inr h
        | cons a l1 ih =>
          intro l2 h
          simp only [List.cons_append, AV.hss, List.mem_append] at h ⊢
          rcases h with h | h
          · exact .inl (.inl h)
          · exact (ih l2 h).imp .inr id
      rcases key _ _ hu with hu | hu
      · exact .inr (SX.uses_evs u hu)
      · refine .inl (SX.use_ev u ?_)
        rw [h1]; exact hu
    have e0 : giveL (takeL s ps) ps = chg (ms1 ++ ms2) s := by
      rw [chg_append, ← a2 s (fun _ _ => rfl), b2 _ (fun _ _ => rfl)]
    refine ⟨gh ps, r, ms1 ++ ms2, by rw [← e0]; exact h8, ?_, ?_⟩
    · intro m hm
      rcases List.mem_append.1 hm with hm | hm
      · exact a1 m hm
      · exact b1 m hm
    · intro s' hs K' hk
      have hs1 : Agree (AV.hss (ps.map (·.a))) s' s := hs.sub hU
      have hf : Agree (f.use s) s' s := by simp only [use] at hs; exact hs.left
      have hx : Agree (SX.uses s args) s' s := by simp only [use] at hs; exact hs.right
      have e1 : giveL (takeL s' ps) ps = chg (ms1 ++ ms2) s' := by
        rw [chg_append, ← a2 s' hs1, b2]
        rw [a2 s' hs1, a2 s (fun _ _ => rfl)]
        exact Agree.chg hs1 _
      exact ⟨g, caps, ps, r, by rw [SX.ev_agree hf]; exact h1, hcp, by rw [SX.evs_agree hx]; exact h2, fun p hp => pa_ok_agree (hs1.sub (hss_mem hp)) (h3 p hp), h4, h5, h6, h7, by rw [e1]; exact hk⟩
  | _ => exact plain h (fun s' K' av s1 h1 h2 => ⟨av, s1, h1, h2⟩)

theorem wpRT_local {s : St} {o : RO} {K : FP → St → Prop} (h : wpRT C s o K) : ∃ fp ms, K fp (chg ms s) ∧ Lc C o s fp ms := by
  have op : ∀ (U : List Nat), (∀ u ∈ use s o.so, u ∈ U) → (∀ s', Agree U s' s → ∀ K' : St → Prop, wpO C s' o.so (fun av s1 => K' (fin s1 o.dst av)) → wpR C s' o K') →
      wpOT C s o.so (fun tk av s1 => K (fpO s U o.dst tk av) (fin s1 o.dst av)) → ∃ fp ms, K fp (chg ms s) ∧ Lc C o s fp ms := by
    intro U hU hR hw
    obtain ⟨tk, av, ms, h1, h2, h3⟩ := wpOT_local hw
    obtain ⟨ns, n1, n2⟩ := fin_chg o.dst av
    refine ⟨fpO s U o.dst tk av, ms ++ ns, ?_, ?_, ?_, fpO_H.1, fpO_H.2⟩
    · rw [chg_append, ← n2]; exact h1
    · intro s' hs K' hk
      refine hR s' hs K' (h3 s' (hs.sub hU) _ ?_)
      rw [n2, ← chg_append]; exact hk
    · intro m hm
      simp only [fpO, List.mem_append]
      rcases List.mem_append.1 hm with hm | hm
      · exact ⟨.inr (h2 m hm).1, fun u hu => by rw [(h2 m hm).2] at hu; cases hu⟩
      · exact ⟨.inl (n1 m hm).1, fun u hu => .inr (by rw [(n1 m hm).2] at hu; exact hu)⟩
  have skip : ∀ t, (∀ s', Agree [t] s' s → ∀ K' : St → Prop, K' (fin s' o.dst (.tuple [])) → wpR C s' o K') → K (fpO s [t] o.dst [] (.tuple [])) (fin s o.dst (.tuple [])) → ∃ fp ms, K fp (chg ms s) ∧ Lc C o s fp ms := by
    intro t hR hk
    obtain ⟨ns, n1, n2⟩ := fin_chg o.dst (.tuple [])
    refine ⟨_, ns, by rw [← n2]; exact hk, ?_, ?_, fpO_H.1, fpO_H.2⟩
    · intro s' hs K' hk'
      exact hR s' hs K' (by rw [n2]; exact hk')
    · intro m hm
      simp only [fpO, List.mem_append]
      exact ⟨.inl (n1 m hm).1, fun u hu => by rw [(n1 m hm).2] at hu; simp [AV.hs] at hu⟩
  unfold wpRT at h
  split at h
  · rename_i hg
    exact op _ (fun _ h => h) (fun s' _ K' hw => by unfold wpR; rw [hg]; exact hw) h
  · rename_i t b hg
    split at h
    · rename_i b' hb
      split at h
      · rename_i e
        refine op (t :: use s o.so) (fun u hu => by simp [hu]) (fun s' hs K' hw => ?_) h
        have : s' t = s t := hs t (by simp)
        unfold wpR
        rw [hg]
        simp only [this, hb, if_pos e]
        exact hw
      · rename_i e
        refine skip t (fun s' hs K' hk => ?_) h
        have : s' t = s t := hs t (by simp)
        unfold wpR
        rw [hg]
        simp only [this, hb, if_neg e]
        exact hk
    · rename_i hb
      refine skip t (fun s' hs K' hk => ?_) h
      have : s' t = s t := hs t (by simp)
      unfold wpR
      rw [hg]
      simp only [this, hb]
      exact hk
    · exact h.elim

/-- Steps one after another. -/
def Chain (C : Cx) (ros : List RO) : St → List (Nat × FP × List Md) → Prop
  | _, [] => True
  | s, e :: r => (∃ o, ros[e.1]? = some o ∧ Lc C o s e.2.1 e.2.2) ∧ Chain C ros (chg e.2.2 s) r

def fins (s : St) (r : List (Nat × FP × List Md)) : St := r.foldl (fun s e => chg e.2.2 s) s

def disj (a b : List Nat) : Bool := a.all fun x => !b.contains x

theorem disj_spec {a b : List Nat} (h : disj a b = true) : ∀ x ∈ a, x ∉ b := by
  intro x hx
  simp only [disj, List.all_eq_true] at h
  simpa using h x hx

/-- Two steps, the first one `a` in the text, that may be done in either order. -/
def indB (a b : FP) : Bool := disj b.T a.U && disj b.T a.H && disj b.T a.T && disj a.T b.U && disj a.T b.H && b.c

theorem chain_swap {ros : List RO} {s : St} {a b : Nat × FP × List Md} {r : List (Nat × FP × List Md)} (h : Chain C ros s (a :: b :: r)) (hi : indB a.2.1 b.2.1 = true) :
    Chain C ros s (b :: a :: r) ∧ fins s (b :: a :: r) = fins s (a :: b :: r) := by
  obtain ⟨⟨oa, ha, a1, a2, a3, a4⟩, ⟨ob, hb, b1, b2, b3, b4⟩, hr⟩ := h
  simp only [indB, Bool.and_eq_true] at hi
  obtain ⟨⟨⟨⟨⟨i1, i2⟩, i3⟩, i4⟩, i5⟩, i6⟩ := hi
  have hub : ∀ u ∈ b.2.1.U, chg a.2.2 s u = s u := by
    intro u hu
    refine chgAt_clean _ _ _ (fun m hm e => ?_) (b4 i6 u hu)
    exact disj_spec i4 m.x (a2 m hm).1 (e ▸ hu)
  have hua : ∀ u ∈ a.2.1.U, chg b.2.2 s u = s u := by
    intro u hu
    refine chgAt_id _ _ _ fun m hm => ⟨fun e => ?_, fun hx => ?_⟩
    · exact disj_spec i1 m.x (b2 m hm).1 (e ▸ hu)
    · exact disj_spec i2 m.x (b2 m hm).1 (a3 u hu _ hx)
  have hcomm : chg b.2.2 (chg a.2.2 s) = chg a.2.2 (chg b.2.2 s) := by
    refine chg_comm _ _ _ fun m hm n hn => ⟨fun e => ?_, fun h => ?_, fun h => ?_⟩
    · exact disj_spec i3 n.x (b2 n hn).1 (e ▸ (a2 m hm).1)
    · exact disj_spec i2 n.x (b2 n hn).1 ((a2 m hm).2 _ h)
    · exact disj_spec i5 m.x (a2 m hm).1 ((b2 n hn).2 _ h)
  refine ⟨⟨⟨ob, hb, ?_, b2, ?_, ?_⟩, ⟨oa, ha, ?_, a2, ?_, ?_⟩, ?_⟩, ?_⟩
  · intro s' hs K hk
    exact b1 s' (fun u hu => (hs u hu).trans (hub u hu).symm) K hk
  · intro u hu x hx
    exact b3 u hu x (by rw [hub u hu]; exact hx)
  · intro hc u hu
    have := b4 hc u hu
    rwa [hub u hu] at this
  · intro s' hs K hk
    exact a1 s' (fun u hu => (hs u hu).trans (hua u hu)) K hk
  · intro u hu x hx
    rw [hua u hu] at hx
    exact a3 u hu x hx
  · intro hc u hu
    rw [hua u hu]
    exact a4 hc u hu
  · rw [← hcomm]; exact hr
  · simp only [fins, List.foldl_cons]
    rw [hcomm]

theorem chain_front {ros : List RO} {e : Nat × FP × List Md} {post : List (Nat × FP × List Md)} : ∀ (pre : List (Nat × FP × List Md)) (s : St), Chain C ros s (pre ++ e :: post) → (∀ a ∈ pre, indB a.2.1 e.2.1 = true) →
    Chain C ros s (e :: (pre ++ post)) ∧ fins s (e :: (pre ++ post)) = fins s (pre ++ e :: post) := by
  intro pre
  induction pre with
  | nil => intro s h _; exact ⟨h, rfl⟩
  | cons a pre ih =>
    intro s h hi
    obtain ⟨h1, h2⟩ := h
    obtain ⟨g1, g2⟩ := ih _ h2 fun b hb => hi b (by simp [hb])
    have hc : Chain C ros s (a :: e :: (pre ++ post)) := ⟨h1, g1⟩
    obtain ⟨k1, k2⟩ := chain_swap hc (hi a (by simp))
    refine ⟨k1, k2.trans ?_⟩
    simp only [fins, List.foldl_cons, List.cons_append] at g2 ⊢
    exact g2

end
end Go.Fw
