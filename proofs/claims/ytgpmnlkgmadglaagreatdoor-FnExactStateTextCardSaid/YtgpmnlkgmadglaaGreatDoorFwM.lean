/- Part of a proof that a law returns true for every input. No condition. -/
import Derived.Test.YtgpmnlkgmadglaaGreatDoorFwI
import Derived.Sort.Grow
import Derived.Lib.SlicesCompact
import Derived.Below
namespace Go.c0
open Go.Sort
section
variable {α : Type} {e : α → I} {enc : α → Value}
def One (e : α → I) (enc : α → Value) : Prop := (∀ x, (e x).wd = 1) ∧ ∀ (w : World) (F : Nat → Prop) (x : α) (cs : List Value) (S : Nat → Prop), au w F (e x) cs S ↔ cs = [enc x]
theorem TQ (he : One e enc) {w : World} {F : Nat → Prop} : ∀ (xs : List α) (cs : List Value) (S : Nat → Prop), a8 w F (xs.map e) cs S → cs = xs.map enc := by
 intro xs
 induction xs with
 | nil => intro cs S h; simpa [a8] using h
 | cons x xs ih =>
   intro cs S h
   simp only [List.map_cons, a8] at h
   obtain ⟨cy, cu, b5, dG, rfl, ag, ah, _⟩ := h
   rw [(he.2 _ _ _ _ _).1 ag, ih _ _ ah]; rfl
variable [Inhabited α]
end
theorem bh.strs {C : ck} {f : FuncId} {as : List I} {b : List UInt8} (TR : ∀ args w, (callFunc f args).run C.P w = .ok (.enter f args) w)
  (h : ∀ (w : World) (F X : Nat → Prop) (S : Nat → Nat → Prop) (vs : List Value), vs.length = as.length → bP w F X F S (gm as) (hE vs) w → Calls C.P f vs.toArray w fun ex aL => ex = .returned (.string ⟨⟨b⟩⟩) ∧ RowKit.Below w.heap.size w aL) : bh C f as (.str b) [] := by
 intro w F X S vs aR aV
 refine .inl ⟨TR _ _, (h w F X S vs aR aV).mono ?_⟩
 rintro ex aL ⟨rfl, ab⟩
 refine ⟨_, rfl, F, fun _ _ => False, ?_⟩
 exact {
  hq := fun _ h => h
  hM := fun _ bu => .inl bu
  fA := fun c aw => Nat.lt_of_lt_of_le (aV.fA c aw) ab.size
  e4 := fun _ _ h => h.elim
  gi := fun _ _ h => h.elim
  fK := fun _ _ _ _ h => h.elim
  eh := fun _ _ h => h.elim
  dC := fun u => by
   rcases u with _ | u
   ·exact mZ b
   ·show aG _ _ _ _ .hole _ _
    rw [aG]; trivial
  old := fun c aw _ => ab.block c aw
  size := ab.size
  os := ab.os
  tape := ab.tape
  output := ab.output }
theorem TS {w : World} {F X : Nat → Prop} {S : Nat → Nat → Prop} {s : ao} {aB : Nat → Value} (h : bP w F X F S s aB w) {u : Nat} {xs : List (List UInt8)} {e : List UInt8 → I} (he : One e fun x => .string ⟨⟨x⟩⟩) (hu : s u = .slice (xs.map e)) :
  (xs = [] ∧ ∃ a c, aB u = .slice a 0 c) ∨ ∃ b o cap, aB u = .slice (some ⟨b, o, none⟩) xs.length cap ∧ b < w.heap.size ∧ xs.length ≤ cap ∧ ∀ (j : Nat) x, xs[j]? = some x → w.cell? ⟨b, o + j, none⟩ = some (.string ⟨⟨x⟩⟩) := by
 have ad := h.dC u
 rw [hu] at ad
 obtain ⟨ag, ah⟩ := (aG.cJ rfl).1 ad
 have aN : cr (aB u) = [aB u] := by
  revert ag
  cases aB u <;> intro ag <;> first | rfl | (cases ag)
 rw [aN, au] at ah
 rcases ah with ⟨aI, a, c, a_, _⟩ | ⟨b, o, cap, ew, sz, aI, a_, bN, cQ, c5, fg, ie⟩
 ·left; exact ⟨by simpa using aI, a, c, by simpa using a_⟩
 ·right
  refine ⟨b, o, cap, by simpa using aI, h.fA b a_, by simpa using bN, fun j x aq => ?_⟩
  have aS := TQ he _ _ _ ie
  refine fg j _ ?_
  rw [aS, List.getElem?_map, aq]; rfl
end Go.c0
