/- Part of a proof that a law returns true for every input. No condition. -/
import Derived.Test.YtgpmnlkgmadglaaGreatDoorUD8
namespace Go.eV
open Go Go.c0
theorem Oo {e : List bm} (h : mW e) (aN : kS e = true) {i j : Nat} (al : i < e.length) (b3 : j < e[i].Body.length) :
  qM e[i] (j : Int) = some (mV e[i] j).scope ∧ ∃ ps, uL e[i] = some ps ∧ bH ps (j : Int) = some (mV e[i] j) := by
 obtain ⟨_, _, ai⟩ := GF h aN
 obtain ⟨ar, ad, _⟩ := ai i al
 obtain ⟨s1, s2, fb⟩ := Cg ad
 have ab := (h.2 _ (List.getElem_mem al)).2.1
 obtain ⟨gM, _, _, _, nb⟩ := GB e[i] ad ar j b3
 exact ⟨gM, _, Oa e[i] ab s1 ar.1 (by omega), by unfold bH; rw [if_pos (by omega)]; exact nb⟩
end Go.eV
