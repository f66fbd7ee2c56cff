/- Part of a proof that a law returns true for every input. No condition. -/
import Derived.Test.YtgpmnlkgmadglaaGreatDoorFwI
import Derived.Sort.Grow
import Derived.Lib.SlicesCompact
import Derived.Below
namespace Go.cY
open Go.Sort
section
variable {α : Type} {e : α → I} {enc : α → Value}
def One (e : α → I) (enc : α → Value) : Prop := (∀ x, (e x).wd = 1) ∧ ∀ (w : World) (F : Nat → Prop) (x : α) (cs : List Value) (S : Nat → Prop), ay w F (e x) cs S ↔ cs = [enc x]
theorem W1 (he : One e enc) {w : World} {F : Nat → Prop} : ∀ (xs : List α) (cs : List Value) (S : Nat → Prop), bf w F (xs.map e) cs S → cs = xs.map enc := by
 intro xs
 induction xs with
 | nil => intro cs S h; simpa [bf] using h
 | cons x xs ih =>
   intro cs S h
   simp only [List.map_cons, bf] at h
   obtain ⟨cv, cw, cc, dB, rfl, af, ag, _⟩ := h
   rw [(he.2 _ _ _ _ _).1 af, ih _ _ ag]; rfl
variable [Inhabited α]
end
theorem bm.strs {C : b4} {f : FuncId} {as : List I} {b : List UInt8} (W2 : ∀ args w, (callFunc f args).run C.P w = .ok (.enter f args) w)
  (h : ∀ (w : World) (F X : Nat → Prop) (S : Nat → Nat → Prop) (vs : List Value), vs.length = as.length → bM w F X F S (fO as) (hH vs) w → Calls C.P f vs.toArray w fun ex aL => ex = .returned (.string ⟨⟨b⟩⟩) ∧ RowKit.Below w.heap.size w aL) : bm C f as (.str b) [] := by
 intro w F X S vs hl aW
 refine .inl ⟨W2 _ _, (h w F X S vs hl aW).mono ?_⟩
 rintro ex aL ⟨rfl, aa⟩
 refine ⟨_, rfl, F, fun _ _ => False, ?_⟩
 exact {
  hs := fun _ h => h
  hG := fun _ bG => .inl bG
  fe := fun c ao => Nat.lt_of_lt_of_le (aW.fe c ao) aa.size
  eJ := fun _ _ h => h.elim
  fY := fun _ _ h => h.elim
  ff := fun _ _ _ _ h => h.elim
  dS := fun _ _ h => h.elim
  dp := fun u => by
   rcases u with _ | u
   ·exact oa b
   ·show aI _ _ _ _ .hole _ _
    rw [aI]; trivial
  old := fun c ao _ => aa.block c ao
  size := aa.size
  os := aa.os
  tape := aa.tape
  output := aa.output }
theorem W3 {w : World} {F X : Nat → Prop} {S : Nat → Nat → Prop} {s : al} {aB : Nat → Value} (h : bM w F X F S s aB w) {u : Nat} {xs : List (List UInt8)} {e : List UInt8 → I} (he : One e fun x => .string ⟨⟨x⟩⟩) (hu : s u = .slice (xs.map e)) :
  (xs = [] ∧ ∃ a c, aB u = .slice a 0 c) ∨ ∃ b o cap, aB u = .slice (some ⟨b, o, none⟩) xs.length cap ∧ b < w.heap.size ∧ xs.length ≤ cap ∧ ∀ (j : Nat) x, xs[j]? = some x → w.cell? ⟨b, o + j, none⟩ = some (.string ⟨⟨x⟩⟩) := by
 have ab := h.dp u
 rw [hu] at ab
 obtain ⟨af, ag⟩ := (aI.cJ rfl).1 ab
 have aK : cp (aB u) = [aB u] := by
  revert af
  cases aB u <;> intro af <;> first | rfl | (cases af)
 rw [aK, ay] at ag
 rcases ag with ⟨aF, a, c, a_, _⟩ | ⟨b, o, cap, eu, sz, aF, a_, bI, cK, cH, fC, hq⟩
 ·left; exact ⟨by simpa using aF, a, c, by simpa using a_⟩
 ·right
  refine ⟨b, o, cap, by simpa using aF, h.fe b a_, by simpa using bI, fun j x aq => ?_⟩
  have aN := W1 he _ _ _ hq
  refine fC j _ ?_
  rw [aN, List.getElem?_map, aq]; rfl
end Go.cY
