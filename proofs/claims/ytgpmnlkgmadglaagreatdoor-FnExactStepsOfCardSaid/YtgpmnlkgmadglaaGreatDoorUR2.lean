/- Part of a proof that a law returns true for every input. No condition. -/
import Derived.Test.YtgpmnlkgmadglaaGreatDoorUR1
namespace Go.eR
open Go Go.cY
theorem rS {n : Int} {P : Prop} (h : some n = some (0 : Int)) (bc : n ≠ 0) : P := absurd (Option.some.inj h) bc
theorem ax8 {d : aS} {a2 : Int} {p : bs} {v : Bool} (h : pJ d a2 p v = some 0) :
  ∃ a6, rr d a2 = some a6 ∧ ((p.Kind == 4) && decide (6 ≤ a6)) = false ∧ c2 (fun n => ru p n a6 0) = some 0 := by
 unfold pJ at h
 rcases dU h with ⟨_, h⟩ | ⟨_, h⟩
 ·exact rS h (by decide)
 obtain ⟨a6, aT, h⟩ := aG h
 rcases dU h with ⟨_, h⟩ | ⟨a_, h⟩
 ·exact rS h (by decide)
 exact ⟨a6, aT, a_, h⟩
theorem EH {d : aS} {a2 : Int} {p : bs} (h : rv d a2 p = some 0) : ∃ v, pJ d a2 p v = some 0 := by
 unfold rv at h
 rcases dU h with ⟨_, h⟩ | ⟨_, h⟩
 ·rcases dU h with ⟨_, h⟩ | ⟨_, h⟩
  ·exact ⟨_, h⟩
  ·obtain ⟨bL, _, h⟩ := aG h
   exact ⟨_, h⟩
 ·exact ⟨_, h⟩
theorem EI {e : List aS} {d : aS} {a2 : Int} {p : bs} {v : Bool} (h : qF e d a2 p v = some 0) :
  v = false ∧ (p.Kind = 1 → p.bN.length ≤ 2 ∧ ((p.Name == ([116, 97, 117] : List UInt8)) = true → p.bN.length = 0)) ∧ (p.Kind = 3 → p.bN.length = 1) ∧
    (p.Kind = 5 → ∃ ch, bP e p.Number = some ch ∧ (p.bN.length : Int) = ch.c_) ∧ ∃ v, pJ d a2 p v = some 0 := by
 unfold qF at h
 rcases dU h with ⟨_, h⟩ | ⟨aK, h⟩
 ·exact rS h (by decide)
 refine ⟨aK, ?_⟩
 rcases dU h with ⟨k, h⟩ | ⟨k, h⟩
 ·have k := eq_of_beq k
  rcases dU h with ⟨_, h⟩ | ⟨g, h⟩
  ·exact rS h (by decide)
  rw [Bool.or_eq_false_iff, Bool.and_eq_false_iff, decide_eq_false_iff_not, decide_eq_false_iff_not] at g
  refine ⟨fun _ => ⟨by omega, fun a1 => ?_⟩, fun aF => by omega, fun bI => by omega, EH h⟩
  rcases g.2 with g | g
  ·omega
  ·rw [a1] at g; cases g
 have bt : p.Kind ≠ 1 := by simpa using k
 rcases dU h with ⟨k, h⟩ | ⟨k, h⟩
 ·have k := eq_of_beq k
  rcases dU h with ⟨_, h⟩ | ⟨g, h⟩
  ·exact rS h (by decide)
  have g : (p.bN.length : Int) = 1 := by simpa using g
  exact ⟨fun af => (bt af).elim, fun _ => by omega, fun bI => by omega, EH h⟩
 have dK : p.Kind ≠ 3 := by simpa using k
 rcases dU h with ⟨k, h⟩ | ⟨k, h⟩
 ·obtain ⟨ch, bO, h⟩ := aG h
  rcases dU h with ⟨_, h⟩ | ⟨g, h⟩
  ·exact rS h (by decide)
  have g : (p.bN.length : Int) = ch.c_ := by simpa using g
  exact ⟨fun af => (bt af).elim, fun aF => (dK aF).elim, fun _ => ⟨ch, bO, g⟩, EH h⟩
 ·have dI : p.Kind ≠ 5 := by simpa using k
  exact ⟨fun af => (bt af).elim, fun aF => (dK aF).elim, fun bI => (dI bI).elim, EH h⟩
theorem ax9 {e : List aS} {d : aS} {a2 : Int} (h : pK e d a2 = some 0) :
  ∃ p, bP d.Body a2 = some p ∧ (p.Kind = 1 → wL p.Name = some true ∧ p.bN.length ≤ 2 ∧ ((p.Name == ([116, 97, 117] : List UInt8)) = true → p.bN.length = 0)) ∧ (p.Kind = 3 → p.bN.length = 1) ∧
    (p.Kind = 4 → 1 ≤ p.Number ∧ p.Number ≤ 7) ∧ (p.Kind = 5 → ∃ ch, bP e p.Number = some ch ∧ (p.bN.length : Int) = ch.c_) ∧ ∃ v, pJ d a2 p v = some 0 := by
 unfold pK at h
 obtain ⟨p, aN, h⟩ := aG h
 obtain ⟨ak, _, h⟩ := aG h
 rcases dU h with ⟨_, h⟩ | ⟨_, h⟩
 ·exact rS h (by decide)
 have key : ∀ v, wO e d a2 p v = some 0 → v = false ∧ (p.Kind = 4 → 1 ≤ p.Number ∧ p.Number ≤ 7) ∧ qF e d a2 p false = some 0 := by
  intro v h
  unfold wO at h
  rcases dU h with ⟨_, h⟩ | ⟨aK, h⟩
  ·exact rS h (by decide)
  refine ⟨aK, ?_⟩
  rcases dU h with ⟨k, h⟩ | ⟨k, h⟩
  ·have k := eq_of_beq k
   obtain ⟨dv, fF, h⟩ := aG h
   rcases dU h with ⟨_, h⟩ | ⟨g, hq⟩
   ·exact absurd (EI h).1 (by simp)
   have g : dv = true := by simpa using g
   rw [g] at fF
   unfold lF at fF
   have fF := Option.some.inj fF
   rw [Bool.and_eq_true, decide_eq_true_eq, decide_eq_true_eq] at fF
   refine ⟨fun _ => fF, ?_⟩
   rcases dU hq with ⟨dI, _⟩ | ⟨_, hq⟩
   ·have := eq_of_beq dI; omega
   ·exact hq
  ·have de : p.Kind ≠ 4 := by simpa using k
   refine ⟨fun a_ => (de a_).elim, ?_⟩
   rcases dU h with ⟨k, h⟩ | ⟨k, h⟩
   ·obtain ⟨dt, _, h⟩ := aG h
    have g := (EI h).1
    rwa [g] at h
   ·exact h
 rcases dU h with ⟨k, h⟩ | ⟨k, h⟩
 ·obtain ⟨eW, kI, h⟩ := aG h
  obtain ⟨af, ag, aF⟩ := key _ h
  obtain ⟨_, g1, g2, g3, g4⟩ := EI aF
  have af : eW = true := by simpa using af
  subst af
  exact ⟨p, aN, fun ar => ⟨kI, g1 ar⟩, g2, ag, g3, g4⟩
 ·obtain ⟨af, ag, aF⟩ := key _ h
  obtain ⟨_, g1, g2, g3, g4⟩ := EI aF
  have bt : p.Kind ≠ 1 := by simpa using k
  exact ⟨p, aN, fun ar => (bt ar).elim, g2, ag, g3, g4⟩
theorem ax_ {e : List aS} {d : aS} {r : Int × Int} (hl : d.Body.length ≤ 1000) (aW : ∀ j, j < d.Body.length → ∃ v, pK e d (j : Int) = some v ∧ 0 ≤ v) (h : ry e d = some r) (bn : r.2 = 0) :
  ∀ j, j < d.Body.length → pK e d (j : Int) = some 0 := by
 unfold ry at h
 obtain ⟨ah, _, h⟩ := aG h
 rcases dU h with ⟨_, h⟩ | ⟨_, h⟩
 ·have := Option.some.inj h
  subst this
  exact absurd bn (by decide)
 obtain ⟨n, h⟩ := ed h
 have key : ∀ i, i ≤ d.Body.length → ∀ m, qG e d m (i : Int) = some r → ∀ j, i ≤ j → j < d.Body.length → pK e d (j : Int) = some 0 := by
  refine down d.Body.length ?_ ?_
  ·intro m _ j af ag; omega
  ·intro i an ih m hm j af ag
   cases m with
   | zero => cases hm
   | succ m =>
     simp only [qG, wP] at hm
     obtain ⟨v, aK, lp⟩ := aW i an
     rw [hx an, cond_true, aK] at hm
     simp only [Option.bind_some] at hm
     rcases dU hm with ⟨g, hm⟩ | ⟨g, hm⟩
     ·have := Option.some.inj hm
      subst this
      simp only [decide_eq_true_eq] at g
      simp only at bn; omega
     ·have g : v = 0 := by simp at g; omega
      subst g
      by_cases bw : j = i
      ·subst bw; exact aK
      ·rw [hg i _ an (by omega)] at hm
       exact ih m hm j (by omega) ag
 exact fun j bw => key 0 (by omega) n h j (by omega) bw
structure aya (e : List aS) (d : aS) (j : Nat) (p : bs) (dh : Int) : Prop where
 small : vf p
 ayb : 0 ≤ dh ∧ dh ≤ 29
 args : ∀ a ∈ p.bN, mY a dh 15 = true
 act : p.Kind = 1 → iS p.Name = true ∧ p.bN.length ≤ 2 ∧ ((p.Name == ([116, 97, 117] : List UInt8)) = true → p.bN.length = 0)
 ayc : p.Kind = 3 → p.bN.length = 1
 sum : p.Kind = 4 → 1 ≤ p.Number ∧ p.Number ≤ 7 ∧ dh ≤ 5
 call : p.Kind = 5 → ∃ ch, bP e p.Number = some ch ∧ (p.bN.length : Int) = ch.c_
theorem Rg {e : List aS} (h : o0 e) (aK : o2 e = true) {i : Nat} (an : i < e.length) {j : Nat} (bw : j < e[i].Body.length) : aya e e[i] j e[i].Body[j] (il e[i] j).scope := by
 obtain ⟨af, a_, ai⟩ := EB h aK
 obtain ⟨aw, ab, bc, r, dR, br⟩ := ai i an
 obtain ⟨s1, s2, fi⟩ := xD ab
 have Ji := h.2 _ (List.getElem_mem an)
 have aW : ∀ j, j < e[i].Body.length → ∃ v, pK e e[i] (j : Int) = some v ∧ 0 ≤ v := fun j bw => by
  obtain ⟨gC, f_, hO, hP, mh⟩ := Ez e[i] ab aw j bw
  obtain ⟨v, v1, _, v3⟩ := QX e a_ e[i] j bw fi (Ji.2.2 _ (List.getElem_mem bw)) (il e[i] j) gC ⟨f_, hO⟩ hP
  exact ⟨v, v1, v3⟩
 obtain ⟨p, aN, f1, f2, f3, f4, v, f5⟩ := ax9 (ax_ (by omega) aW dR br j bw)
 rw [fp _ j bw] at aN
 have aN := Option.some.inj aN
 subst aN
 obtain ⟨a6, g1, g2, g3⟩ := ax8 f5
 obtain ⟨gC, f_, hO, hP, mh⟩ := Ez e[i] ab aw j bw
 rw [gC] at g1
 have g1 := Option.some.inj g1
 subst g1
 have yT := Ji.2.2 _ (List.getElem_mem bw)
 rw [QV _ yT _ ⟨f_, hO⟩] at g3
 refine ⟨yT, ⟨f_, hO⟩, ?_, fun k => ?_, f2, fun k => ⟨(f3 k).1, (f3 k).2, ?_⟩, f4⟩
 ·cases bF : qW e[i].Body[j] (il e[i] j).scope
  ·rw [bF] at g3; exact rS g3 (by decide)
  ·intro a hm
   obtain ⟨k, ar, rfl⟩ := List.mem_iff_getElem.1 hm
   have := pW.1 bF k ar
   rwa [List.getD_eq_getElem?_getD, List.getElem?_eq_getElem ar] at this
 ·obtain ⟨R, a2, a3⟩ := f1 k
  rw [I9] at R
  exact ⟨Option.some.inj R, a2, a3⟩
 ·rw [k] at g2
  simp only [beq_self_eq_true, Bool.true_and, decide_eq_false_iff_not] at g2
  omega
end Go.eR
