/- Part of a proof that a law returns true for every input. No condition. -/
import Derived.Test.YtncnipaofaeaiaaFw16
namespace Go.Fw

/-- A step depends on the slots `U`, and changes slots of `Tk` only. -/
def Loc {α : Type} (U Tk : List Nat) (f : St → Option (α × St)) (s : St) (av : α) (s1 : St) : Prop :=
  ∃ ms, s1 = chg ms s ∧ (∀ m ∈ ms, m.x ∈ Tk ∧ m.d.hs = []) ∧ ∀ s', Agree U s' s → f s' = some (av, chg ms s')

theorem Loc.pure {α : Type} {U Tk : List Nat} {f : St → Option (α × St)} {s : St} {av : α} (h : ∀ s', Agree U s' s → f s' = some (av, s')) : Loc U Tk f s av s :=
  ⟨[], rfl, by simp, fun s' hs => h s' hs⟩

theorem Loc.mono {α : Type} {U Tk U' Tk' : List Nat} {f : St → Option (α × St)} {s s1 : St} {av : α} (h : Loc U Tk f s av s1) (hU : ∀ u ∈ U, u ∈ U') (hT : ∀ u ∈ Tk, u ∈ Tk') : Loc U' Tk' f s av s1 := by
  obtain ⟨ms, h1, h2, h3⟩ := h
  exact ⟨ms, h1, fun m hm => ⟨hT _ (h2 m hm).1, (h2 m hm).2⟩, fun s' hs => h3 s' (hs.sub hU)⟩

section
variable {C : Cx} {s s1 : St} {x y d : AV} {T A B : TypeId}

theorem tk_local (h : tk s x = some (d, s1)) : Loc x.hs x.hs (fun s => tk s x) s d s1 := by
  cases x with
  | h y q =>
    simp only [tk] at h
    split at h
    · rename_i e he
      split at h
      · cases h
      · rename_i hp
        simp only [Option.some.injEq, Prod.mk.injEq] at h
        obtain ⟨rfl, rfl⟩ := h
        have hp : e.plain = false := by simpa using hp
        refine ⟨[⟨.pk, y, AV.put q e.hollow (s y)⟩], upd_pkS _ _ _, ?_, ?_⟩
        · intro m hm
          simp only [List.mem_singleton] at hm; subst hm
          refine ⟨by simp [AV.hs], put_hs q _ _ _ he (.inl hp) fun hq => ?_⟩
          subst hq
          cases e <;> first | (simp [AV.plain] at hp; done) | rfl
        · intro s' hs
          have e1 : s' y = s y := hs y (by simp [AV.hs])
          simp only [tk, e1, he, hp]
          rw [← upd_pkS]; rfl
    · cases h
  | hp y q => simp [tk] at h
  | fn f c => simp [tk] at h
  | hole => simp [tk] at h
  | _ =>
    simp only [tk, Option.some.injEq, Prod.mk.injEq] at h
    obtain ⟨rfl, rfl⟩ := h
    exact .pure fun s' _ => rfl

mutual
theorem pk_hs (x : Nat) : ∀ a : AV, ∀ u ∈ (pk x a).hs, u ∈ a.hs
  | .h y q, u, h => by
    simp only [pk] at h
    split at h
    · split at h
      · exact h
      · simp [AV.hs] at h
    · exact h
  | .hp y q, u, h => by
    simp only [pk] at h
    split at h
    · simp [AV.hs] at h
    · exact h
  | .fn f cap, u, h => by simp only [pk, AV.hs] at h ⊢; exact pks_hs x cap u h
  | .hole, u, h => h
  | .bool _, u, h => h
  | .anyb, u, h => h
  | .int _ _, u, h => h
  | .str _, u, h => h
  | .nilp, u, h => h
  | .nils, u, h => h
  | .slice _, u, h => h
  | .uslice _ _, u, h => h
  | .ref _, u, h => h
  | .ubox _, u, h => h
  | .agg _, u, h => h
  | .tuple _, u, h => h
theorem pks_hs (x : Nat) : ∀ ds : List AV, ∀ u ∈ AV.hss (pks x ds), u ∈ AV.hss ds
  | [], u, h => h
  | d :: ds, u, h => by
    simp only [pks, AV.hss, List.mem_append] at h ⊢
    exact h.imp (pk_hs x d u) (pks_hs x ds u)
end

theorem pkO_hs (o : Option Nat) (a : AV) : ∀ u ∈ (pkO o a).hs, u ∈ a.hs := by
  intro u h
  cases o with
  | none => exact h
  | some x => exact pk_hs x a u h

theorem pkOs_hs : ∀ (os : List (Option Nat)) (a : AV), ∀ u ∈ (pkOs os a).hs, u ∈ a.hs := by
  intro os
  induction os with
  | nil => intro a u h; exact h
  | cons o os ih => intro a u h; exact pkO_hs o a u (ih (pkO o a) u h)

theorem flw_local {place : Nat → Option (Nat × Nat)} : ∀ {ps : List (Nat × AV)} {s s1 : St} {zs ds : List AV} {os : List (Option Nat)}, flw place s zs os ps = some (ds, s1) →
    Loc (AV.hss (ps.map (·.2))) (AV.hss (ps.map (·.2))) (fun s => flw place s zs os ps) s ds s1 := by
  intro ps
  induction ps with
  | nil =>
    intro s s1 zs ds os h
    simp only [flw, Option.some.injEq, Prod.mk.injEq] at h
    obtain ⟨rfl, rfl⟩ := h
    exact .pure fun s' _ => rfl
  | cons p ps ih =>
    intro s s1 zs ds os h
    obtain ⟨k, a⟩ := p
    simp only [flw] at h
    split at h
    · rename_i d s2 off n z ht hpl hz
      split at h
      · cases h
      · rename_i d' hnt
        split at h
        · rename_i hc
          obtain ⟨ms1, rfl, h2, h3⟩ := tk_local ht
          obtain ⟨ms2, rfl, h5, h6⟩ := ih h
          refine ⟨ms1 ++ ms2, (chg_append _ _ _).symm, ?_, ?_⟩
          · intro m hm
            simp only [List.map_cons, AV.hss, List.mem_append] at hm ⊢
            rcases hm with hm | hm
            · exact ⟨.inl (pkOs_hs _ _ _ (h2 m hm).1), (h2 m hm).2⟩
            · exact ⟨.inr (h5 m hm).1, (h5 m hm).2⟩
          · intro s' hs
            simp only [List.map_cons, AV.hss] at hs
            have e1 := h3 s' (hs.left.sub (pkOs_hs _ _))
            have e2 := h6 (chg ms1 s') (hs.right.chg ms1)
            simp only at e1 e2
            simp only [flw, e1, hpl, hz, chg_append]
            rw [if_pos hc]; exact e2
        · cases h
    · cases h

theorem bld_local {ps : List (Nat × AV)} {av : AV} (h : bld C s T ps = some (av, s1)) : Loc (AV.hss (ps.map (·.2))) (AV.hss (ps.map (·.2))) (fun s => bld C s T ps) s av s1 := by
  unfold bld at h
  split at h
  · rename_i fs zs hk hz
    split at h
    · rename_i hc
      split at h
      · rename_i ds s2 hf
        simp only [Option.some.injEq, Prod.mk.injEq] at h
        obtain ⟨rfl, rfl⟩ := h
        obtain ⟨ms, h1, h2, h3⟩ := flw_local hf
        refine ⟨ms, h1, h2, fun s' hs => ?_⟩
        have := h3 s' hs
        simp only at this
        simp only [bld, hk, hz, if_pos hc, this]
      · cases h
    · cases h
  · cases h

theorem bsl_local {n : Nat} {ps : List (Nat × AV)} {av : AV} (h : bsl C s T n ps = some (av, s1)) : Loc (AV.hss (ps.map (·.2))) (AV.hss (ps.map (·.2))) (fun s => bsl C s T n ps) s av s1 := by
  unfold bsl at h
  split at h
  · rename_i e hk
    split at h
    · rename_i hc
      split at h
      · rename_i ds s2 hf
        simp only [Option.some.injEq, Prod.mk.injEq] at h
        obtain ⟨rfl, rfl⟩ := h
        obtain ⟨ms, h1, h2, h3⟩ := flw_local hf
        refine ⟨ms, h1, h2, fun s' hs => ?_⟩
        have := h3 s' hs
        simp only at this
        simp only [bsl, hk, if_pos hc, this]
      · cases h
    · cases h
  · cases h

theorem bx_local {av : AV} (h : bx s x = some (av, s1)) : Loc x.hs x.hs (fun s => bx s x) s av s1 := by
  unfold bx at h
  split at h
  · cases h
  · rename_i d s2 hnt ht
    simp only [Option.some.injEq, Prod.mk.injEq] at h
    obtain ⟨rfl, rfl⟩ := h
    obtain ⟨ms, h1, h2, h3⟩ := tk_local ht
    refine ⟨ms, h1, h2, fun s' hs => ?_⟩
    have := h3 s' hs
    simp only at this
    simp only [bx, this]
  · cases h

theorem sto_local {s2 : St} (h : sto C s T x y = some s2) : Loc (x.hs ++ y.hs) (x.hs ++ y.hs) (fun s => (sto C s T x y).map fun s1 => (AV.hole, s1)) s .hole s2 := by
  unfold sto at h
  split at h
  · rename_i d s1 z q ht hl
    obtain ⟨ms, h1, h2, h3⟩ := tk_local ht
    have hz := loc_hs hl
    have hq : q ≠ [] := by
      cases x with
      | h y p =>
        simp only [loc] at hl
        split at hl
        · simp only [Option.some.injEq, Prod.mk.injEq] at hl; simp [← hl.2]
        · cases hl
      | hp y p =>
        simp only [loc] at hl
        split at hl
        · rename_i hcr
          simp only [Option.some.injEq, Prod.mk.injEq] at hl
          obtain ⟨rfl, rfl⟩ := hl
          intro e; subst e; simp [AV.cross] at hcr
        · cases hl
      | _ => simp [loc] at hl
    split at h
    · cases h
    · rename_i d' hnt
      split at h
      · rename_i d0 hd0
        split at h
        · rename_i hc
          simp only [Option.some.injEq] at h; subst h
          refine ⟨ms ++ [⟨.pk, z, AV.put q d (s z)⟩], ?_, ?_, ?_⟩
          · rw [chg_append, ← h1, upd_pkS]
          · intro m hm
            simp only [List.mem_append, List.mem_singleton] at hm ⊢
            rcases hm with hm | rfl
            · exact ⟨.inr (h2 m hm).1, (h2 m hm).2⟩
            · exact ⟨.inl hz, put_hs q _ _ _ hd0 (.inr hq) fun e => (hq e).elim⟩
          · intro s' hs
            have e1 := h3 s' hs.right
            simp only at e1
            simp only [sto, e1, loc_agree hs.left, hl, hs.left z hz, hd0]
            cases d <;> first | (simp only [if_pos hc, Option.map_some, chg_append, upd_pkS]; done) | exact (hnt _ rfl).elim
        · cases h
      · cases h
  · cases h

theorem slc_local {lo hi : Option AV} {av : AV} (h : slc C s T x lo hi = some (av, s1)) : Loc x.hs x.hs (fun s => slc C s T x lo hi) s av s1 := by
  cases x with
  | h y q =>
    unfold slc at h
    split at h <;> first | (cases h; done) | skip
    all_goals (rename_i hx; try cases hx)
    rename_i e hk
    split at h
    · rename_i sz xs hsub
      split at h
      · rename_i b hlo hhi
        split at h
        · rename_i hc
          split at h
          · rename_i d s2 ht
            simp only [Option.some.injEq, Prod.mk.injEq] at h
            obtain ⟨rfl, rfl⟩ := h
            obtain ⟨ms, h1, h2, h3⟩ := tk_local ht
            refine ⟨ms, h1, h2, fun s' hs => ?_⟩
            have := h3 s' hs
            simp only at this
            have e1 : s' y = s y := hs y (by simp [AV.hs])
            simp only [slc, hk, e1, hsub, hlo, hhi, if_pos hc, this]
          · cases h
        · cases h
      · cases h
    · cases h
  | _ =>
    have hs1 : s1 = s := by
      unfold slc at h
      repeat' split at h
      all_goals first | (cases h; done) | (simp only [Option.some.injEq, Prod.mk.injEq] at h; exact h.2.symm) | simp_all
    subst hs1
    refine .pure fun s' _ => ?_
    unfold slc at h ⊢
    repeat' split at h
    all_goals first
      | (cases h; done)
      | (simp only [Option.some.injEq, Prod.mk.injEq] at h
         obtain ⟨rfl, _⟩ := h
         simp_all)


def apx (C : Cx) (e : TypeId) (s : St) : AV → Option (AV × St)
  | .nils => some (AV.uslice (C.T e).sz [], s)
  | .h a q => tk s (.h a q)
  | _ => none

def apy (s1 : St) : AV → Option (List AV × St)
  | .nils => some ([], s1)
  | .slice ys => some (ys, s1)
  | .str l => some (l.map byteAV, s1)
  | .h a q => match tk s1 (.h a q) with
    | some (.uslice _ ys, s2) => some (ys, s2)
    | _ => none
  | _ => none

theorem apd_eq (C : Cx) (s : St) (T U : TypeId) (x y : AV) : apd C s T U x y = (match (C.T T).k with
  | .slice e => if (C.T e).ok = true ∧ (C.T e).zero.wd = (C.T e).sz ∧ (flat (C.T e).zero).isSome = true ∧ appOk C e U = true then
      match apx C e s x with
      | some (.uslice sz xs, s1) => if sz = (C.T e).sz then
          match apy s1 (pkO x.owner y) with
          | some (ys, s2) => if (∀ d ∈ ys, d.wd = (C.T e).sz) ∧ (xs.length + ys.length) * (C.T e).bytes ≤ 140737488355328 ∧ xs.length + ys.length ≤ 9223372036854775807 then some (.uslice sz (xs ++ ys), s2) else none
          | none => none
        else none
      | _ => none
    else none
  | _ => none) := by
  unfold apd
  generalize pkO x.owner y = y'
  cases (C.T T).k <;> first
    | rfl
    | (cases x <;> cases y' <;> rfl)

theorem apx_local {e : TypeId} {d : AV} (h1 : apx C e s x = some (d, s1)) : Loc x.hs x.hs (fun s => apx C e s x) s d s1 := by
  cases x with
  | nils =>
    simp only [apx, Option.some.injEq, Prod.mk.injEq] at h1
    obtain ⟨h1, rfl⟩ := h1
    exact .pure fun s' _ => by simp only [apx, h1]
  | h a q => exact tk_local h1
  | _ => simp [apx] at h1

theorem apy_local {ys : List AV} (h2 : apy s y = some (ys, s1)) : Loc y.hs y.hs (fun s => apy s y) s ys s1 := by
  cases y with
  | nils =>
    simp only [apy, Option.some.injEq, Prod.mk.injEq] at h2
    obtain ⟨rfl, rfl⟩ := h2
    exact .pure fun s' _ => rfl
  | slice ys =>
    simp only [apy, Option.some.injEq, Prod.mk.injEq] at h2
    obtain ⟨rfl, rfl⟩ := h2
    exact .pure fun s' _ => rfl
  | str l =>
    simp only [apy, Option.some.injEq, Prod.mk.injEq] at h2
    obtain ⟨rfl, rfl⟩ := h2
    exact .pure fun s' _ => rfl
  | h a q =>
    simp only [apy] at h2
    split at h2
    · rename_i sz' ys' s4 ht
      simp only [Option.some.injEq, Prod.mk.injEq] at h2
      obtain ⟨rfl, rfl⟩ := h2
      obtain ⟨ms, g1, g2, g3⟩ := tk_local ht
      refine ⟨ms, g1, g2, fun s' hs => ?_⟩
      have := g3 s' hs
      simp only at this
      simp only [apy, this]
    · cases h2
  | _ => simp [apy] at h2

theorem apd_local {av : AV} (h : apd C s T A x y = some (av, s1)) : Loc (x.hs ++ y.hs) (x.hs ++ y.hs) (fun s => apd C s T A x y) s av s1 := by
  rw [apd_eq] at h
  split at h
  · rename_i e hk
    split at h
    · rename_i hc
      split at h
      · rename_i sz xs s2 h1
        split at h
        · rename_i hsz
          split at h
          · rename_i ys s3 h2
            split at h
            · rename_i hc2
              simp only [Option.some.injEq, Prod.mk.injEq] at h
              obtain ⟨rfl, rfl⟩ := h
              obtain ⟨ms1, rfl, a2, a3⟩ := apx_local h1
              obtain ⟨ms2, rfl, b2, b3⟩ := (apy_local h2).mono (pkO_hs _ _) (pkO_hs _ _)
              refine ⟨ms1 ++ ms2, (chg_append _ _ _).symm, ?_, ?_⟩
              · intro m hm
                simp only [List.mem_append] at hm ⊢
                rcases hm with hm | hm
                · exact ⟨.inl (a2 m hm).1, (a2 m hm).2⟩
                · exact ⟨.inr (b2 m hm).1, (b2 m hm).2⟩
              · intro s' hs
                have e1 := a3 s' hs.left
                have e2 := b3 (chg ms1 s') (hs.right.chg ms1)
                simp only at e1 e2
                simp only [apd_eq, hk, if_pos hc, e1, if_pos hsz, e2, if_pos hc2, chg_append]
            · cases h
          · cases h
        · cases h
      · cases h
    · cases h
  · cases h

/-- An operation that is no call depends on what it uses, and takes from what it may take. -/
theorem eff_local {so : SO} {av : AV} (h : eff C s so = some (av, s1)) : Loc (use s so) (tks s so) (fun s => eff C s so) s av s1 := by
  cases so with
  | mv x =>
    simp only [eff, Option.some.injEq, Prod.mk.injEq] at h
    obtain ⟨rfl, rfl⟩ := h
    exact .pure fun s' hs => by simp only [eff, SX.ev_agree (x := x) hs]
  | asg x =>
    simp only [eff] at h
    split at h
    · rename_i y q hx
      obtain ⟨ms, h1, h2, h3⟩ := tk_local h
      refine ⟨ms, h1, by simpa only [tks, hx] using h2, fun s' hs => ?_⟩
      have e := SX.ev_agree (x := x) hs
      have e2 := h3 s' (by rw [← hx]; exact Agree.ev hs)
      simp only [eff, e, hx]
      exact e2
    · rename_i hnh
      simp only [Option.some.injEq, Prod.mk.injEq] at h
      obtain ⟨rfl, rfl⟩ := h
      refine .pure fun s' hs => ?_
      have e := SX.ev_agree (x := x) hs
      simp only [eff, e]
  | pick c a b =>
    simp only [eff] at h
    split at h
    · rename_i b' hb
      simp only [Option.some.injEq, Prod.mk.injEq] at h
      obtain ⟨rfl, rfl⟩ := h
      refine .pure fun s' hs => ?_
      simp only [use] at hs
      simp only [eff, SX.ev_agree (x := c) hs.left, SX.ev_agree (x := a) hs.right.left, SX.ev_agree (x := b) hs.right.right, hb]
    · cases h
  | alc T =>
    simp only [eff, Option.map_eq_some_iff, Prod.mk.injEq] at h
    obtain ⟨d, hd, rfl, rfl⟩ := h
    exact .pure fun s' hs => by simp only [eff, hd, Option.map_some]
  | bx T x =>
    obtain ⟨ms, h1, h2, h3⟩ := bx_local h
    refine ⟨ms, h1, h2, fun s' hs => ?_⟩
    simp only [eff, SX.ev_agree (x := x) hs]
    exact h3 s' (Agree.ev hs)
  | bld T ps =>
    obtain ⟨ms, h1, h2, h3⟩ := bld_local h
    simp only [List.map_map, Function.comp_def] at h2 h3
    refine ⟨ms, h1, h2, fun s' hs => ?_⟩
    simp only [eff, SX.evp_agree (ps := ps) hs]
    refine h3 s' (hs.sub fun u hu => ?_)
    simp only [use]
    exact SX.uses_evs u (by simpa [List.map_map, Function.comp_def] using hu)
  | bsl T n ps =>
    obtain ⟨ms, h1, h2, h3⟩ := bsl_local h
    simp only [List.map_map, Function.comp_def] at h2 h3
    refine ⟨ms, h1, h2, fun s' hs => ?_⟩
    simp only [eff, SX.evp_agree (ps := ps) hs]
    refine h3 s' (hs.sub fun u hu => ?_)
    simp only [use]
    exact SX.uses_evs u (by simpa [List.map_map, Function.comp_def] using hu)
  | ld T x =>
    simp only [eff, Option.map_eq_some_iff, Prod.mk.injEq] at h
    obtain ⟨d, hd, rfl, rfl⟩ := h
    exact .pure fun s' hs => by simp only [eff, SX.ev_agree (x := x) hs, ld_agree (Agree.ev hs), hd, Option.map_some]
  | sto T x y =>
    simp only [eff, Option.map_eq_some_iff, Prod.mk.injEq] at h
    obtain ⟨s2, hd, rfl, rfl⟩ := h
    obtain ⟨ms, h1, h2, h3⟩ := sto_local hd
    refine ⟨ms, h1, h2, fun s' hs => ?_⟩
    simp only [use] at hs
    simp only [eff, SX.ev_agree (x := x) hs.left, SX.ev_agree (x := y) hs.right]
    exact h3 s' (hs.sub fun u hu => by simp only [List.mem_append] at hu ⊢; exact hu.imp (SX.use_ev u) (SX.use_ev u))
  | nilc x =>
    simp only [eff, Option.map_eq_some_iff, Prod.mk.injEq] at h
    obtain ⟨d, hd, rfl, rfl⟩ := h
    exact .pure fun s' hs => by simp only [eff, SX.ev_agree (x := x) hs, nilc_agree (Agree.ev hs), hd, Option.map_some]
  | bn op T x y =>
    simp only [eff, Option.map_eq_some_iff, Prod.mk.injEq] at h
    obtain ⟨d, hd, rfl, rfl⟩ := h
    refine .pure fun s' hs => ?_
    simp only [use] at hs
    simp only [eff, SX.ev_agree (x := x) hs.left, SX.ev_agree (x := y) hs.right, bn_agree (Agree.ev hs.left), hd, Option.map_some]
  | un op x =>
    simp only [eff, Option.map_eq_some_iff, Prod.mk.injEq] at h
    obtain ⟨d, hd, rfl, rfl⟩ := h
    exact .pure fun s' hs => by simp only [eff, SX.ev_agree (x := x) hs, hd, Option.map_some]
  | cvt A B x =>
    simp only [eff, Option.map_eq_some_iff, Prod.mk.injEq] at h
    obtain ⟨d, hd, rfl, rfl⟩ := h
    exact .pure fun s' hs => by simp only [eff, SX.ev_agree (x := x) hs, cvt_agree (Agree.ev hs), hd, Option.map_some]
  | mkf f cs =>
    simp only [eff, Option.some.injEq, Prod.mk.injEq] at h
    obtain ⟨rfl, rfl⟩ := h
    exact .pure fun s' hs => by simp only [eff, SX.evs_agree (xs := cs) hs]
  | mks T l c =>
    simp only [eff, Option.map_eq_some_iff, Prod.mk.injEq] at h
    obtain ⟨d, hd, rfl, rfl⟩ := h
    refine .pure fun s' hs => ?_
    simp only [use] at hs
    simp only [eff, SX.ev_agree (x := l) hs.left, SX.ev_agree (x := c) hs.right, hd, Option.map_some]
  | slc T x lo hi =>
    simp only [eff] at h
    obtain ⟨ms, h1, h2, h3⟩ := slc_local h
    refine ⟨ms, h1, h2, fun s' hs => ?_⟩
    simp only [use] at hs
    simp only [eff, SX.ev_agree (x := x) hs.left, optEv_agree hs.right.left, optEv_agree hs.right.right]
    exact h3 s' (Agree.ev hs.left)
  | fa T x k =>
    simp only [eff, Option.map_eq_some_iff, Prod.mk.injEq] at h
    obtain ⟨d, hd, rfl, rfl⟩ := h
    exact .pure fun s' hs => by simp only [eff, SX.ev_agree (x := x) hs, fa_agree (Agree.ev hs), hd, Option.map_some]
  | ia T x i =>
    simp only [eff, Option.map_eq_some_iff, Prod.mk.injEq] at h
    obtain ⟨d, hd, rfl, rfl⟩ := h
    refine .pure fun s' hs => ?_
    simp only [use] at hs
    simp only [eff, SX.ev_agree (x := x) hs.left, SX.ev_agree (x := i) hs.right, ia_agree (Agree.ev hs.left), hd, Option.map_some]
  | idx T x i =>
    simp only [eff, Option.map_eq_some_iff, Prod.mk.injEq] at h
    obtain ⟨d, hd, rfl, rfl⟩ := h
    refine .pure fun s' hs => ?_
    simp only [use] at hs
    simp only [eff, SX.ev_agree (x := x) hs.left, SX.ev_agree (x := i) hs.right, hd, Option.map_some]
  | ex x k =>
    simp only [eff, Option.map_eq_some_iff, Prod.mk.injEq] at h
    obtain ⟨d, hd, rfl, rfl⟩ := h
    exact .pure fun s' hs => by simp only [eff, SX.ev_agree (x := x) hs, ex_agree (Agree.ev hs), hd, Option.map_some]
  | call f args => simp [eff] at h
  | len T x =>
    simp only [eff, Option.map_eq_some_iff, Prod.mk.injEq] at h
    obtain ⟨d, hd, rfl, rfl⟩ := h
    exact .pure fun s' hs => by simp only [eff, SX.ev_agree (x := x) hs, ln_agree (Agree.ev hs), hd, Option.map_some]
  | app T U x y =>
    obtain ⟨ms, h1, h2, h3⟩ := apd_local h
    refine ⟨ms, h1, h2, fun s' hs => ?_⟩
    simp only [use] at hs
    simp only [eff, SX.ev_agree (x := x) hs.left, SX.ev_agree (x := y) hs.right]
    exact h3 s' (hs.sub fun u hu => by simp only [List.mem_append] at hu ⊢; exact hu.imp (SX.use_ev u) (SX.use_ev u))

end
end Go.Fw
