/- Part of a proof that a law returns true for every input. No condition. -/
import Derived.Test.YtncnipaofaeaiaaFw28
namespace Go.Fw

/-- A value that needs no taking. -/
def AV.easy : AV → Bool
  | .h _ _ => false
  | .hp _ _ => false
  | .fn _ _ => false
  | .hole => false
  | .tuple _ => false
  | .uslice _ _ => false
  | .ubox _ => false
  | _ => true

theorem easy_tk {d : AV} (h : d.easy = true) (s : St) (os : List (Option Nat)) : tk s (pkOs os d) = some (d, s) ∧ d.owner = none := by
  have e : pkOs os d = d := by
    induction os with
    | nil => rfl
    | cons o os ih =>
      show pkOs os (pkO o d) = d
      have : pkO o d = d := by
        cases o with
        | none => rfl
        | some x => exact pk_id d (by cases d <;> first | (simp [AV.easy] at h; done) | simp [AV.hs])
      rw [this]; exact ih
  rw [e]
  cases d <;> first | (simp [AV.easy] at h; done) | exact ⟨rfl, rfl⟩

def enum : Nat → List AV → List (Nat × AV)
  | _, [] => []
  | k, a :: as => (k, a) :: enum (k + 1) as

theorem flw_easy {sz : Nat} (s : St) : ∀ (ds zs pre : List AV) (os : List (Option Nat)), (∀ d ∈ ds, d.easy = true ∧ d.wd = sz) → (∀ d ∈ pre, d.wd = sz) → zs.length = ds.length → (∀ d ∈ zs, d.wd = sz) →
    flw (fun k => some (k * sz, sz)) s (pre ++ zs) os (enum pre.length ds) = some (pre ++ ds, s) := by
  intro ds
  induction ds with
  | nil =>
    intro zs pre os _ _ hl _
    have : zs = [] := List.length_eq_zero_iff.1 hl
    subst this
    simp [enum, flw]
  | cons d ds ih =>
    intro zs pre os hd hp hl hz
    cases zs with
    | nil => simp at hl
    | cons z zs =>
      obtain ⟨h1, h2⟩ := hd d (by simp)
      obtain ⟨e1, e2⟩ := easy_tk h1 s os
      have hsum : AV.wds ((pre ++ z :: zs).take pre.length) = pre.length * sz := by
        rw [List.take_left]; exact wds_uniform pre hp
      have hget : (pre ++ z :: zs)[pre.length]? = some z := by
        rw [List.getElem?_append_right (Nat.le_refl _)]; simp
      have hset : (pre ++ z :: zs).set pre.length d = (pre ++ [d]) ++ zs := by
        rw [List.set_append_right _ _ (Nat.le_refl _)]; simp
      have := ih zs (pre ++ [d]) (os ++ [(pkOs os d).owner]) (fun x hx => hd x (by simp [hx])) (by
        intro x hx
        rcases List.mem_append.1 hx with hx | hx
        · exact hp x hx
        · simp at hx; rw [hx]; exact h2) (by simpa using hl) (fun x hx => hz x (by simp [hx]))
      simp only [List.length_append, List.length_singleton] at this
      simp only [enum, flw, e1, hget]
      have hif : d.wd = sz ∧ z.wd = sz ∧ AV.wds ((pre ++ z :: zs).take pre.length) = pre.length * sz := ⟨h2, hz z (by simp), hsum⟩
      cases d <;> first
        | (simp [AV.easy] at h1; done)
        | (simp only; rw [if_pos hif, hset, this]; simp)

/-- A row of easy parts. -/
theorem bsl_easy {C : Cx} {s : St} {T e : TypeId} {ds : List AV} (hk : (C.T T).k = .slice e) (h1 : (C.T e).ok = true) (h2 : (C.T e).zero.wd = (C.T e).sz) (h3 : (flat (C.T e).zero).isSome = true) (h4 : (C.T e).sz ≠ 0)
    (h5 : ds.length * (C.T e).sz ≤ 16777216) (hd : (ds.all fun d => d.easy && d.wd == (C.T e).sz) = true) : bsl C s T ds.length (enum 0 ds) = some (.uslice (C.T e).sz ds, s) := by
  unfold bsl
  rw [hk]
  simp only
  rw [if_pos ⟨h1, h2, h3, h4, h5⟩]
  have hd' : ∀ d ∈ ds, d.easy = true ∧ d.wd = (C.T e).sz := by
    intro d hm
    have := List.all_eq_true.1 hd d hm
    simpa using this
  have := flw_easy (sz := (C.T e).sz) s ds (List.replicate ds.length (C.T e).zero) [] [] hd' (by simp) (by simp) (by intro d hd; rw [List.eq_of_mem_replicate hd]; exact h2)
  simp only [List.nil_append, List.length_nil] at this
  rw [this]

end Go.Fw
