/- Part of a proof that a law returns true for every input. No condition. -/
import Derived.Test.YtbemmmimelklkaaGreatUW2
import Derived.Test.YtbemmmimelklkaaGreatUY5
namespace Go.eR
open Go Go.c5
theorem Pz {e : List bg} {d : bg} : ∀ (n : Nat) (i : Nat) (r : Int × Int), d.Body.length ≤ 1048576 → pv e d n (i : Int) = some r → r.2 = 0 →
  ∀ j, i ≤ j → j < d.Body.length → ∃ x, qb e d (j : Int) = some x ∧ ¬ 0 < x
 | 0, i, r, _, h, _, _, _, _ => by cases h
 | n + 1, i, r, ad, h, bc, j, zq, b_ => by
   have ao : i < d.Body.length := by omega
   simp only [pv, vl] at h
   rw [fB ao, fA i _ ao (by omega)] at h
   simp only [cond_true] at h
   cases bb : qb e d (i : Int) with
   | none => rw [bb] at h; cases h
   | some x =>
     rw [bb] at h
     simp only [Option.bind_some] at h
     by_cases aq : 0 < x
     ·rw [decide_eq_true aq, cond_true] at h
      have := Option.some.inj h
      subst this
      simp only at bc
      omega
     ·rw [decide_eq_false aq, cond_false] at h
      by_cases Fb : j = i
      ·subst Fb; exact ⟨x, bb, aq⟩
      ·exact Pz n (i + 1) r ad h bc j (by omega) b_
theorem axd {e : List bg} {d : bg} (he : e.length ≤ 1048576) {j : Nat} (b_ : j < d.Body.length) {x : Int} (h : qb e d (j : Int) = some x) (aq : ¬ 0 < x) (aD : d.Body[j].Kind = 5) :
  0 ≤ d.Body[j].Number ∧ d.Body[j].Number < (e.length : Int) := by
 unfold qb at h
 rw [gx _ j b_] at h
 simp only [Option.bind_some, aD] at h
 cases PA : Bl d.Body[j] with
 | none => rw [PA] at h; cases h
 | some b =>
   rw [PA] at h
   simp only [Option.bind_some] at h
   cases b
   ·simp only [Bool.not_false, cond_true, Option.some.injEq] at h; omega
   ·have a1 : ((5 : Int) == 1) = false := rfl
    simp only [Bool.not_true, cond_false, a1] at h
    unfold x5 at h
    have c6 : ((5 : Int) == 4) = false := rfl
    have da : ((5 : Int) == 5) = true := rfl
    simp only [cond_false, aD, c6, da, cond_true, lz, Option.bind_some] at h
    rw [fU ((e.length : Int) - 1) (by omega)] at h
    by_cases HG : 0 ≤ d.Body[j].Number ∧ d.Body[j].Number ≤ (e.length : Int) - 1
    ·omega
    ·have ad : (decide (0 ≤ d.Body[j].Number) && decide (d.Body[j].Number ≤ (e.length : Int) - 1)) = false := by
      rw [Bool.eq_false_iff]; intro ay
      simp only [Bool.and_eq_true, decide_eq_true_eq] at ay
      exact HG ay
     rw [ad] at h
     simp only [Bool.not_false, rf, cond_true, Option.some.injEq] at h
     omega
theorem axe (s : dv) (h : rP s) (bJ : (o3 s == 0) = true) : HO s := by
 have ak := awU bJ
 obtain ⟨m0, dW, cg⟩ := awy h.1 ak
 have ay : rO s = true := by
  cases ay : rO s
  ·unfold o3 at bJ; rw [ak, ay] at bJ; simp at bJ
  ·rfl
 unfold rO at ay
 simp only [Bool.and_eq_true, decide_eq_true_eq] at ay
 refine ⟨dW, fun d axf => (h.1.2 d axf).2.1, ay.1.2, fun x aq => ?_, fun x aq y bD => ?_⟩
 ·obtain ⟨c, r8, rfl⟩ := List.mem_map.1 aq
  obtain ⟨i, ao, axg⟩ := List.mem_iff_getElem.1 r8
  have af := oT.1 ay.2 i ao
  have e : jA s.cn i = c := by unfold jA; rw [List.getD_eq_getElem?_getD, List.getElem?_eq_getElem ao, ← axg]; rfl
  rw [e] at af
  unfold rN at af
  cases bb : (decide (0 ≤ c.fe) && decide (c.fe ≤ (s.b3.length : Int) - 1))
  ·rw [bb] at af; cases af
  ·simp only [Bool.and_eq_true, decide_eq_true_eq] at bb; omega
 ·have hl : x.toNat < s.b3.length := by omega
  obtain ⟨_, ah, _, r, df, ea⟩ := cg x.toNat hl
  have ub := (h.1.2 _ (List.getElem_mem hl)).2.1
  have e : wy s.b3 x = s.b3[x.toNat].Body := by unfold wy; rw [List.getD_eq_getElem?_getD, List.getElem?_eq_getElem hl]; rfl
  unfold ix mO at bD
  rw [e] at bD
  obtain ⟨p, aA, rfl⟩ := List.mem_map.1 bD
  obtain ⟨axh, pZ⟩ := List.mem_filter.1 aA
  obtain ⟨j, b_, PB⟩ := List.mem_iff_getElem.1 axh
  have aD : p.Kind = 5 := by simpa using pZ
  unfold rh at df
  cases o5 : x0 s.b3[x.toNat].Body with
  | none => rw [o5] at df; cases df
  | some b =>
    rw [o5] at df
    simp only [Option.bind_some] at df
    cases b
    ·simp only [Bool.not_false, cond_true, Option.some.injEq] at df
     rw [← df] at ea; cases ea
    ·simp only [Bool.not_true, cond_false] at df
     obtain ⟨n, bl⟩ := dx df
     obtain ⟨z, sD, sE⟩ := Pz n 0 r ub bl ea j (Nat.zero_le _) b_
     have := axd (by omega) b_ sD sE (by rw [PB]; exact aD)
     rw [PB] at this
     exact this
theorem axi (s : dv) (h : rP s) : ∃ r : List Int × Int, BR s = some r ∧ yq s = some r ∧ r.1.length ≤ 4 := by
 unfold BR yq
 rw [awS _ h, awT _ h]
 simp only [Option.bind_some]
 cases bJ : (o3 s == 0)
 ·exact ⟨_, rfl, rfl, by simp⟩
 ·obtain ⟨r, df, ea, gU⟩ := axc (axe s h bJ)
  rw [df, ea]
  exact ⟨_, rfl, rfl, gU⟩
theorem auU (a : kn) (cz : xG a) : Gy a = some true := by
 unfold Gy
 obtain ⟨r, af, ai⟩ := awR a cz
 rw [af]
 simp only [Option.bind_some]
 cases bb : decide (r < 0)
 ·obtain ⟨aN, bk, cc, cF, ct⟩ := ai bb
  have ah : oY (pH a) ≤ 1048576 := by rw [OH]; omega
  rw [aN]
  simp only [cond_false, Option.bind_some]
  generalize pH a = e at bk cc ah
  obtain ⟨q, iN, bw, dP⟩ := axi e cc
  obtain ⟨fQ, fE, hb, kQ, oS, c, cH, fM⟩ := avO e 1 (by omega) (by omega)
  obtain ⟨jZ, d, d1, gN, hI⟩ := OL q.1 1 (by omega) (by omega)
  simp only [iN, bw, Option.bind_some, OI q.1 (by omega), bk, fM, gN, hI, Bool.not_true, bne_self_eq_false, Bool.or_self, cond_false, OA (k := 1 + (c : Int)) (by omega), OA (k := 1 + (d : Int)) (by omega)]
 ·rfl
end Go.eR
