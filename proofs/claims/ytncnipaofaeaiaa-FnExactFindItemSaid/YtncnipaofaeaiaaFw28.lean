/- Part of a proof that a law returns true for every input. No condition. -/
import Derived.Test.YtncnipaofaeaiaaFw27
namespace Go.Fw

section
variable {C : Cx} {l : List (Nat × AV)} {Q : Exit → St → Prop}

theorem OkAt.outs {f : FuncId} {as : List AV} {r : AV} {o1 o2 : List AV} (h : OkAt C f as r o1) (he : stL o1 = stL o2) : OkAt C f as r o2 := by
  intro w F X S vs hl hr
  refine Gets.mono (h w F X S vs hl hr) ?_
  rintro v w' ⟨F', S', h'⟩
  refine ⟨F', S', ?_⟩
  have : stL (r :: o2) = stL (r :: o1) := by
    funext t
    cases t with
    | zero => rfl
    | succ t => exact (congrFun he t).symm
  rw [this]; exact h'

def lend : List AV → List AV → List PA
  | a :: as, d :: ds => ⟨a, false, d, .hole⟩ :: lend as ds
  | _, _ => []

theorem lend_spec {s : St} : ∀ (as ds : List AV), views s as = some ds → (lend as ds).map (·.a) = as ∧ (lend as ds).map (·.d) = ds ∧ (∀ p ∈ lend as ds, p.ok s ∧ p.g = false ∧ p.o = .hole ∧ p.a ∈ as) ∧ apartPA (lend as ds) = true ∧
    stL ((lend as ds).map (·.o)) = stL [] ∧ (∀ s0, takeL s0 (lend as ds) = s0) ∧ (∀ s0, giveL s0 (lend as ds) = s0) := by
  intro as
  induction as with
  | nil =>
    intro ds h
    simp only [views, Option.some.injEq] at h; subst h
    exact ⟨rfl, rfl, (fun p hp => by cases hp), rfl, rfl, fun _ => rfl, fun _ => rfl⟩
  | cons a as ih =>
    intro ds h
    simp only [views] at h
    split at h
    · rename_i d ds' h1 h2
      simp only [Option.some.injEq] at h; subst h
      obtain ⟨e1, e2, e3, e4, e5, e6, e7⟩ := ih ds' h2
      refine ⟨by simp only [lend, List.map_cons, e1], by simp only [lend, List.map_cons, e2], ?_, ?_, ?_, ?_, ?_⟩
      · intro p hp
        simp only [lend, List.mem_cons] at hp
        rcases hp with rfl | hp
        · exact ⟨by simp only [PA.ok]; exact h1, rfl, rfl, by simp⟩
        · obtain ⟨g1, g2, g3, g4⟩ := e3 p hp
          exact ⟨g1, g2, g3, by simp [g4]⟩
      · simp only [lend, apartPA, e4, Bool.and_true, List.all_eq_true]
        intro p hp
        simp [(e3 p hp).2.1]
      · funext t
        cases t with
        | zero => rfl
        | succ t => exact (congrFun e5 t).trans (by simp [stL])
      · intro s0; exact e6 s0
      · intro s0; exact e7 s0
    · cases h

/-- A call whose arguments are all lent. -/
theorem wpRs_call0 {dst : Option Nat} {f : SX} {args : List SX} {os : List RO} {K : St → Prop} {g : FuncId} {caps : List AV} (ds : List AV) (r : AV)
    (h1 : ev (stA l) f = .fn g caps) (hcp : AV.plains caps = true) (hds : views (stA l) (args.map (ev (stA l)) ++ caps) = some ds)
    (h5 : OkAt C g ds r []) (h6 : r.res = true) (h7 : AV.hss (args.map (ev (stA l)) ++ caps) = [] ∨ r.nosh = true)
    (hK : wpRs C (fin (stA l) dst r) os K) : wpRs C (stA l) (⟨dst, .call f args, none⟩ :: os) K := by
  obtain ⟨e1, e2, e3, e4, e5, e6, e7⟩ := lend_spec _ _ hds
  refine wpRs_call (lend (args.map (ev (stA l)) ++ caps) ds) r h1 hcp e1 (fun p hp => (e3 p hp).1) e4 (by rw [e2]; exact h5.outs e5.symm) h6 ?_ (by rw [e6, e7]; exact hK)
  intro hl
  refine ⟨?_, fun p hp => by rw [(e3 p hp).2.2.1]; rfl⟩
  rcases h7 with h7 | h7
  · exfalso
    simp only [lent, List.any_eq_true] at hl
    obtain ⟨p, hp, hpl⟩ := hl
    have hm := (e3 p hp).2.2.2
    have : p.a.hs = [] := by
      have key : ∀ (as : List AV) (a : AV), a ∈ as → AV.hss as = [] → a.hs = [] := by
        intro as
        induction as with
        | nil => intro a h; cases h
        | cons b as ih =>
          intro a h he
          simp only [AV.hss, List.append_eq_nil_iff] at he
          rcases List.mem_cons.1 h with rfl | h
          · exact he.1
          · exact ih a h he.2
      exact key _ _ hm h7
    rw [this] at hpl; simp at hpl
  · exact h7

end
end Go.Fw
