/- Part of a proof that a law returns true for every input. No condition. -/
import Derived.Test.YtncnipaofaeaiaaFw15
namespace Go.Fw

/-- The slots that an operand reads. -/
def SX.use (s : St) : SX → List Nat
  | .t n => n :: (s n).hs
  | .c av => av.hs
  | .f _ => []

def SX.uses (s : St) : List SX → List Nat
  | [] => []
  | x :: xs => x.use s ++ SX.uses s xs

def optUse (s : St) : Option SX → List Nat
  | none => []
  | some x => x.use s

/-- The slots that an operation reads. -/
def use (s : St) : SO → List Nat
  | .mv x => x.use s
  | .asg x => x.use s
  | .pick c a b => c.use s ++ (a.use s ++ b.use s)
  | .alc _ => []
  | .bx _ x => x.use s
  | .bld _ ps => SX.uses s (ps.map (·.2))
  | .bsl _ _ ps => SX.uses s (ps.map (·.2))
  | .ld _ x => x.use s
  | .sto _ x y => x.use s ++ y.use s
  | .nilc x => x.use s
  | .bn _ _ x y => x.use s ++ y.use s
  | .un _ x => x.use s
  | .cvt _ _ x => x.use s
  | .mkf _ cs => SX.uses s cs
  | .mks _ l c => l.use s ++ c.use s
  | .slc _ x lo hi => x.use s ++ (optUse s lo ++ optUse s hi)
  | .fa _ x _ => x.use s
  | .ia _ x i => x.use s ++ i.use s
  | .idx _ x i => x.use s ++ i.use s
  | .ex x _ => x.use s
  | .call f args => f.use s ++ SX.uses s args
  | .len _ x => x.use s
  | .app _ _ x y => x.use s ++ y.use s

/-- The slots whose memory an operation may take or write. -/
def tks (s : St) : SO → List Nat
  | .asg x => (ev s x).hs
  | .bx _ x => (ev s x).hs
  | .bld _ ps => AV.hss (ps.map fun p => ev s p.2)
  | .bsl _ _ ps => AV.hss (ps.map fun p => ev s p.2)
  | .sto _ x y => (ev s x).hs ++ (ev s y).hs
  | .slc _ x _ _ => (ev s x).hs
  | .app _ _ x y => (ev s x).hs ++ (ev s y).hs
  | _ => []

def Agree (U : List Nat) (s' s : St) : Prop := ∀ u ∈ U, s' u = s u

theorem Agree.left {U V : List Nat} {s' s : St} (h : Agree (U ++ V) s' s) : Agree U s' s := fun u hu => h u (List.mem_append_left _ hu)
theorem Agree.right {U V : List Nat} {s' s : St} (h : Agree (U ++ V) s' s) : Agree V s' s := fun u hu => h u (List.mem_append_right _ hu)
theorem Agree.chg {U : List Nat} {s' s : St} (h : Agree U s' s) (ms : List Md) : Agree U (chg ms s') (chg ms s) := fun u hu => chg_agree (h u hu)
theorem Agree.sub {U V : List Nat} {s' s : St} (h : Agree U s' s) (hs : ∀ u ∈ V, u ∈ U) : Agree V s' s := fun u hu => h u (hs u hu)

theorem SX.use_ev {s : St} {x : SX} : ∀ u ∈ (ev s x).hs, u ∈ x.use s := by
  intro u hu
  cases x with
  | t n =>
    simp only [ev, al] at hu
    split at hu
    · simp [SX.use, hu]
    · simp only [AV.hs, List.mem_singleton] at hu; simp [SX.use, hu]
  | c av => exact hu
  | f g => simp [ev, AV.hs, AV.hss] at hu

theorem SX.ev_agree {s s' : St} {x : SX} (h : Agree (x.use s) s' s) : ev s' x = ev s x := by
  cases x with
  | t n => simp only [ev]; rw [h n (by simp [SX.use])]
  | c av => rfl
  | f g => rfl

theorem Agree.ev {s s' : St} {x : SX} (h : Agree (x.use s) s' s) : Agree (ev s x).hs s' s := h.sub SX.use_ev

theorem optEv_agree {s s' : St} {x : Option SX} (h : Agree (optUse s x) s' s) : x.map (ev s') = x.map (ev s) := by
  cases x with
  | none => rfl
  | some x => simp only [Option.map_some]; rw [SX.ev_agree h]

theorem SX.evs_agree {s s' : St} : ∀ {xs : List SX}, Agree (SX.uses s xs) s' s → xs.map (ev s') = xs.map (ev s)
  | [], _ => rfl
  | x :: xs, h => by
    simp only [List.map_cons]
    rw [SX.ev_agree (h.left), SX.evs_agree (h.right)]

theorem SX.evp_agree {s s' : St} : ∀ {ps : List (Nat × SX)}, Agree (SX.uses s (ps.map (·.2))) s' s → (ps.map fun p => (p.1, ev s' p.2)) = ps.map fun p => (p.1, ev s p.2)
  | [], _ => rfl
  | x :: xs, h => by
    simp only [List.map_cons] at h ⊢
    rw [SX.ev_agree (h.left), SX.evp_agree (h.right)]

theorem SX.uses_evs {s : St} : ∀ {xs : List SX}, ∀ u ∈ AV.hss (xs.map (ev s)), u ∈ SX.uses s xs
  | [], u, h => by simp [AV.hss] at h
  | x :: xs, u, h => by
    simp only [List.map_cons, AV.hss, List.mem_append] at h
    simp only [SX.uses, List.mem_append]
    exact h.imp (SX.use_ev u) (SX.uses_evs u)

section
variable {C : Cx} {s s' : St} {x y i : AV} {T A B : TypeId}

theorem loc_agree (h : Agree x.hs s' s) : loc s' x = loc s x := by
  cases x <;> first
    | rfl
    | (simp only [loc]; rw [h _ (by simp [AV.hs])])

theorem loc_hs {z : Nat} {q : List Nat} (h : loc s x = some (z, q)) : z ∈ x.hs := by
  cases x with
  | h y p =>
    simp only [loc] at h
    split at h
    · simp only [Option.some.injEq, Prod.mk.injEq] at h; simp [AV.hs, h.1]
    · cases h
  | hp y p =>
    simp only [loc] at h
    split at h
    · simp only [Option.some.injEq, Prod.mk.injEq] at h; simp [AV.hs, h.1]
    · cases h
  | _ => simp [loc] at h

theorem ld_agree (h : Agree x.hs s' s) : ld C s' T x = ld C s T x := by
  have hl := loc_agree h
  unfold ld
  split
  · rfl
  · rw [hl]
    split
    · rename_i e
      rw [h _ (loc_hs e)]
    · rfl

theorem fa_agree {k : Nat} (h : Agree x.hs s' s) : fa C s' T x k = fa C s T x k := by
  have hl := loc_agree h
  unfold fa
  split
  · split
    · split
      · split
        · rfl
        · rw [hl]
          split
          · rename_i e
            rw [h _ (loc_hs e)]
          · rfl
      · rfl
    · rfl
  · rfl

theorem ia_agree (h : Agree x.hs s' s) : ia C s' T x i = ia C s T x i := by
  cases x <;> first
    | rfl
    | (simp only [ia]; rw [h _ (by simp [AV.hs])])

theorem ln_agree (h : Agree x.hs s' s) : ln C s' T x = ln C s T x := by
  unfold ln
  cases (C.T T).k <;> cases x <;> first
    | rfl
    | (simp only; rw [h _ (by simp [AV.hs])])

theorem cvt_agree (h : Agree x.hs s' s) : cvt C s' A B x = cvt C s A B x := by
  unfold cvt
  cases (C.T B).k <;> cases x <;> first
    | rfl
    | (simp only; rw [h _ (by simp [AV.hs])])

theorem nilS_agree (h : Agree x.hs s' s) : nilS s' x = nilS s x := by
  cases x <;> first
    | rfl
    | (simp only [nilS]; rw [h _ (by simp [AV.hs])])

theorem nilP_agree (h : Agree x.hs s' s) : nilP s' x = nilP s x := by
  cases x <;> first
    | rfl
    | (simp only [nilP]; rw [h _ (by simp [AV.hs])])

theorem bn_agree {op : BinOp} (h : Agree x.hs s' s) : bn C s' op T x y = bn C s op T x y := by
  have h1 := nilS_agree h
  have h2 := nilP_agree h
  unfold bn
  split <;> first | rfl | simp only [h1, h2]

theorem nilc_agree (h : Agree x.hs s' s) : nilc s' x = nilc s x := by
  cases x <;> first
    | rfl
    | (simp only [nilc]; rw [h _ (by simp [AV.hs])])

theorem ex_agree {k : Nat} (h : Agree x.hs s' s) : ex s' x k = ex s x k := by
  cases x <;> first
    | rfl
    | (simp only [ex]; rw [h _ (by simp [AV.hs])])

/-- What a taking leaves owns no handle. -/
theorem put_hs : ∀ (q : List Nat) (a d e : AV), AV.sub q a = some d → (d.plain = false ∨ q ≠ []) → (q = [] → e.hs = []) → (AV.put q e a).hs = [] := by
  intro q a d e h hp he
  cases q with
  | nil => rw [AV.put]; exact he rfl
  | cons k q =>
    cases a <;> first
      | (simp [AV.sub] at h; done)
      | skip
    all_goals
      unfold AV.put
      repeat' split
      all_goals first | rfl | (simp_all; done)

end
end Go.Fw
