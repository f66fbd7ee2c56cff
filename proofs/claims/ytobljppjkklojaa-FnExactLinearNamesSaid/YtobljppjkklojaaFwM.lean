/- Part of a proof that a law returns true for every input. No condition. -/
import Derived.Test.YtobljppjkklojaaFwI
import Derived.Sort.Grow
import Derived.Lib.SlicesCompact
namespace Go.cM
open Go.Sort
section
variable {α : Type} {e : α → j} {enc : α → Value}
def One (e : α → j) (enc : α → Value) : Prop := (∀ x, (e x).wd = 1) ∧ ∀ (w : World) (F : Nat → Prop) (x : α) (cs : List Value) (S : Nat → Prop), aq w F (e x) cs S ↔ cs = [enc x]
theorem Dq (he : One e enc) {w : World} {F : Nat → Prop} : ∀ (xs : List α) (cs : List Value) (S : Nat → Prop), aU w F (xs.map e) cs S → cs = xs.map enc := by
 intro xs
 induction xs with
 | nil => intro cs S h; simpa [aU] using h
 | cons x xs ih =>
   intro cs S h
   simp only [List.map_cons, aU] at h
   obtain ⟨bT, b4, bW, c6, rfl, aa, ab, _⟩ := h
   rw [(he.2 _ _ _ _ _).1 aa, ih _ _ ab]; rfl
theorem K3 (he : One e enc) {w : World} {F : Nat → Prop} : ∀ (xs : List α), aU w F (xs.map e) (xs.map enc) (fun _ => False) := by
 intro xs
 induction xs with
 | nil => simp [aU]
 | cons x xs ih =>
   simp only [List.map_cons, aU]
   exact ⟨[enc x], xs.map enc, _, _, rfl, (he.2 _ _ _ _ _).2 rfl, ih, fun _ h => h, fun _ h => h, fun _ h => h.elim⟩
theorem Dr (w : World) (os : Array Obj) {c : Nat} (h : c < w.heap.size) : (Sort.grow w os).heap[c]? = w.heap[c]? := by
 simp only [Sort.grow, Array.getElem?_append, h, if_true]
variable [Inhabited α]
theorem Ds (he : One e enc) {w : World} {F X : Nat → Prop} {S : Nat → Nat → Prop} {s : ag} {au : Nat → Value} (h : bB w F X F S s au w)
  {b cap : Nat} {cur : Array Value} {mf : TypeId} {fr : Nat × Nat} {xs bM zs : List α} (bE : S 0 b) (J : w.heap[b]? = some (.cells cur mf fr)) (nh : lR fr cur.size) (Ax : cur.size = cap) (l4 : xs.length ≤ cap) (hm : cap ≤ maxLen)
  (hl : (bM ++ zs).length = xs.length) {n : Nat} {os : Array Obj} {aB : World} (hw : aB = Sort.grow (putRow enc (Sort.ahead w n) b 0 (bM ++ zs).toArray) os) {ak : ag} {gy : Nat → Value} {t : Nat}
  (aP : ak t = .ay 1 (bM.map e)) (aG : gy t = .slice (some ⟨b, 0, none⟩) bM.length cap) (bP : ∀ u, u ≠ t → ak u = .hole ∨ (ak u = .tuple [] ∧ gy u = .tuple #[])) :
  bB w F X F (fun u c => u = t ∧ c = b) ak gy aB := by
 have K4 := h.dP 0 b bE
 have dI : (putRow enc (Sort.ahead w n) b 0 (bM ++ zs).toArray).heap.size = w.heap.size := size_putRow ..
 have Dt : w.heap.size ≤ aB.heap.size := by rw [hw, size_grow, dI]; omega
 have oq : ∀ c, c < w.heap.size → c ≠ b → aB.heap[c]? = w.heap[c]? := by
  intro c aj cZ
  rw [hw, Dr _ _ (by rw [dI]; exact aj)]
  simp only [putRow, mapBlock, Array.getElem?_modify, if_neg (Ne.symm cZ)]
  rfl
 have r5 : aB.heap[b]? = some (.cells (putCells enc 0 (bM ++ zs).toArray cur) mf fr) := by
  rw [hw, Dr _ _ (by rw [dI]; exact K4)]
  simp only [putRow, mapBlock, Array.getElem?_modify, if_true]
  rw [show (Sort.ahead w n).heap = w.heap from rfl, J]
  rfl
 have iq : (putCells enc 0 (bM ++ zs).toArray cur).toList.take bM.length = bM.map enc := by
  apply List.ext_getElem?
  intro k
  simp only [putCells, List.getElem?_take, Array.getElem?_toList, Array.getElem?_mapIdx, List.getElem?_map]
  have hlen : bM.length + zs.length = xs.length := by simpa using hl
  by_cases aw : k < bM.length
  ·rw [if_pos aw, Array.getElem?_eq_getElem (by omega), List.getElem?_eq_getElem aw]
   simp only [Option.map_some]
   rw [if_pos (by simp; omega)]
   simp only [Nat.sub_zero]
   rw [getElem!_pos _ k (by simp; omega)]
   simp [aw]
  ·rw [if_neg aw, List.getElem?_eq_none (by omega)]; rfl
 exact {
  gb := fun _ h => h
  gz := fun b bg => .inl bg
  e0 := fun c aj => Nat.lt_of_lt_of_le (h.e0 c aj) Dt
  dP := fun u c aj => by rw [aj.2]; omega
  e7 := fun u c aj bg => by rw [aj.2] at bg; exact h.e7 0 b bE bg
  eT := fun u x c cZ hu ai => cZ (hu.1.trans ai.1.symm)
  dd := fun u c aj => by rw [aj.2]; exact h.dd 0 b bE
  c7 := fun u => by
   by_cases hu : u = t
   ·subst hu
    rw [aP, aG]
    refine (aF.cr rfl).2 ⟨rfl, ?_⟩
    rw [aq]
    right
    refine ⟨b, cap, _, mf, fr, fun _ => False, ?_, ⟨rfl, rfl⟩, r5, ?_, ?_, hm, ?_, ?_, ?_, fun _ h => h.elim, fun h => h⟩
    ·simp [ch, gx]
    ·simpa [putCells] using nh
    ·simp at hl ⊢; omega
    ·simpa [putCells] using Ax
    ·intro d af
     obtain ⟨x, _, rfl⟩ := List.mem_map.1 af
     exact he.1 x
    ·rw [List.length_map, Nat.mul_one, iq]; exact K3 he bM
   ·rcases bP u hu with aa | ⟨aa, ab⟩
    ·rw [aa, aF]; trivial
    ·rw [aa, ab]
     refine (aF.cr rfl).2 ⟨⟨#[], rfl, rfl, fun k d x af => by simp at af⟩, ?_⟩
     rw [aq, aU]; rfl
  old := fun c aj iG => oq c aj (fun tI => by
   rcases h.dd 0 b bE with aa | aa
   ·exact iG (tI ▸ aa)
   ·omega)
  size := Dt
  os := by rw [hw]; rfl
  tape := by rw [hw]; rfl
  output := by rw [hw]; rfl }
theorem Du {w : World} {b : Nat} {cur : Array Value} {mf : TypeId} {fr : Nat × Nat} {xs : List α} (J : w.heap[b]? = some (.cells cur mf fr)) (nh : lR fr cur.size)
  (hl : xs.length ≤ cur.size) (aj : cur.toList.take xs.length = xs.map enc) : Holds enc w b 0 xs.toArray := by
 intro ar cc
 have Dv : ar < xs.length := by simpa using cc
 constructor
 ·have aa : (cur.toList.take xs.length)[ar]? = some (enc xs[ar]) := by rw [aj, List.getElem?_map, List.getElem?_eq_getElem Dv]; rfl
  rw [List.getElem?_take, if_pos Dv] at aa
  simp only [World.cell?, J, Nat.zero_add]
  rw [getElem!_pos _ ar cc]
  simpa using aa
 ·simp only [World.frozen?, J, Nat.zero_add]
  have := nh ar (by omega)
  simpa using this
theorem Dw {w : World} {F X : Nat → Prop} {S : Nat → Nat → Prop} {s : ag} {au : Nat → Value} (h : bB w F X F S s au w) {ak : ag} {gy : Nat → Value}
  (bP : ∀ u, ak u = .hole ∨ (ak u = .tuple [] ∧ gy u = .tuple #[]) ∨ (ak u = .ay 1 [] ∧ ∃ a, gy u = .slice a 0 0)) : bB w F X F (fun _ _ => False) ak gy w where
 gb := fun _ h => h
 gz := fun _ bg => .inl bg
 e0 := h.e0
 dP := fun _ _ h => h.elim
 e7 := fun _ _ h => h.elim
 eT := fun _ _ _ _ h => h.elim
 dd := fun _ _ h => h.elim
 c7 := fun u => by
  rcases bP u with aa | ⟨aa, ab⟩ | ⟨aa, a, ab⟩
  ·rw [aa, aF]; trivial
  ·rw [aa, ab]
   refine (aF.cr rfl).2 ⟨⟨#[], rfl, rfl, fun k d x af => by simp at af⟩, ?_⟩
   rw [aq, aU]; rfl
  ·rw [aa, ab]
   refine (aF.cr rfl).2 ⟨rfl, ?_⟩
   rw [aq]
   exact .inl ⟨rfl, a, by simp [ch, gx]⟩
 old := h.old
 size := h.size
 os := h.os
 tape := h.tape
 output := h.output
theorem Dx {w : World} {F : Nat → Prop} {s : ag} {au : Nat → Value} {xs : List j} {v : Value} {S : Nat → Prop} (h : aF w F s au (.ay 1 xs) v S) :
  (xs = [] ∧ ∃ a, v = .slice a 0 0) ∨ ∃ b cap cur mf fr aH, v = .slice (some ⟨b, 0, none⟩) xs.length cap ∧ S b ∧ w.heap[b]? = some (.cells cur mf fr) ∧ lR fr cur.size ∧
      xs.length ≤ cap ∧ cap ≤ maxLen ∧ cur.size = cap ∧ aU w F xs (cur.toList.take xs.length) aH := by
 obtain ⟨aa, ab⟩ := (aF.cr rfl).1 h
 have aG : ch v = [v] := by
  cases v <;> first | rfl | (cases aa)
 rw [aG, aq] at ab
 rcases ab with ⟨aE, a, aZ⟩ | ⟨b, cap, cur, mf, fr, aH, aE, aZ, bG, b7, b5, dG, gJ, fO, iS, _⟩
 ·left; exact ⟨aE, a, by simpa using aZ⟩
 ·right; exact ⟨b, cap, cur, mf, fr, aH, by simpa using aE, aZ, bG, b7, b5, dG, by simpa using gJ, by simpa using iS⟩
theorem aX.K5 {C : bN} {f : FuncId} (he : One e enc) (sA : ∀ args w, (callFunc f args).run C.P w = .ok (.enter f args) w) (xs bM : List α) (hl : bM.length = xs.length)
  (bp : ∀ a w, Calls C.P f #[.slice a 0 0] w fun ex aB => ex = .returned (.tuple #[]) ∧ aB = w)
  (aa : ∀ (w : World) (b cap : Nat), Holds enc w b 0 xs.toArray → b < w.heap.size → Calls C.P f #[.slice (some ⟨b, 0, none⟩) xs.length cap] w fun ex aB =>
   ex = .returned (.tuple #[]) ∧ ∃ n os, aB = Sort.grow (putRow enc (Sort.ahead w n) b 0 bM.toArray) os) :
  aX C f [.ay 1 (xs.map e)] (.tuple []) [.ay 1 (bM.map e)] := by
 intro w F X S vs mA aO
 obtain ⟨v, rfl⟩ : ∃ v, vs = [v] := by
  match vs, mA with
  | [v], _ => exact ⟨v, rfl⟩
 rcases Dx (aO.c7 0) with ⟨ai, a, aG⟩ | ⟨b, cap, cur, mf, fr, aH, aG, bE, J, nh, qP, hm, hF, gZ⟩
 ·have aG : v = .slice a 0 0 := aG
  have ai : xs = [] := by simpa using ai
  subst aG ai
  have bC : bM = [] := List.length_eq_zero_iff.1 hl
  subst bC
  refine .inl ⟨sA _ _, (bp a w).mono ?_⟩
  rintro ex aB ⟨rfl, rfl⟩
  refine ⟨_, rfl, F, _, Dw aO fun u => ?_⟩
  rcases u with _ | _ | u
  ·exact .inr (.inl ⟨rfl, rfl⟩)
  ·exact .inr (.inr ⟨rfl, a, rfl⟩)
  ·exact .inl rfl
 ·have aG : v = .slice (some ⟨b, 0, none⟩) xs.length cap := by rw [List.length_map] at aG; exact aG
  subst aG
  simp only [List.length_map] at qP gZ
  have ib := Du J nh (by omega) (Dq he _ _ _ gZ)
  refine .inl ⟨sA _ _, (aa w b cap ib (aO.dP 0 b bE)).mono ?_⟩
  rintro ex aB ⟨rfl, n, os, hw⟩
  refine ⟨_, rfl, F, _, Ds (zs := []) (t := 1) he aO bE J nh hF qP hm (by simpa using hl) (by simpa using hw) rfl (by show Value.slice _ _ _ = _; rw [hl]) ?_⟩
  intro u hu
  rcases u with _ | _ | u
  ·exact .inr ⟨rfl, rfl⟩
  ·exact (hu rfl).elim
  ·exact .inl rfl
theorem aX.K6 {C : bN} {f : FuncId} (he : One e enc) (sA : ∀ args w, (callFunc f args).run C.P w = .ok (.enter f args) w) (xs bM zs : List α) (hl : (bM ++ zs).length = xs.length)
  (bp : ∀ a w, Calls C.P f #[.slice a 0 0] w fun ex aB => ex = .returned (.slice a 0 0) ∧ aB = w)
  (aa : ∀ (w : World) (b cap : Nat), Holds enc w b 0 xs.toArray → b < w.heap.size → xs.length ≤ cap → cap ≤ maxLen → Calls C.P f #[.slice (some ⟨b, 0, none⟩) xs.length cap] w fun ex aB =>
   ex = .returned (.slice (some ⟨b, 0, none⟩) bM.length cap) ∧ ∃ n os, aB = Sort.grow (putRow enc (Sort.ahead w n) b 0 (bM ++ zs).toArray) os) :
  aX C f [.ay 1 (xs.map e)] (.ay 1 (bM.map e)) [.hole] := by
 intro w F X S vs mA aO
 obtain ⟨v, rfl⟩ : ∃ v, vs = [v] := by
  match vs, mA with
  | [v], _ => exact ⟨v, rfl⟩
 rcases Dx (aO.c7 0) with ⟨ai, a, aG⟩ | ⟨b, cap, cur, mf, fr, aH, aG, bE, J, nh, qP, hm, hF, gZ⟩
 ·have aG : v = .slice a 0 0 := aG
  have ai : xs = [] := by simpa using ai
  subst aG ai
  have bC : bM = [] := by
   have bw : bM ++ zs = [] := List.length_eq_zero_iff.1 hl
   exact (List.append_eq_nil_iff.1 bw).1
  subst bC
  refine .inl ⟨sA _ _, (bp a w).mono ?_⟩
  rintro ex aB ⟨rfl, rfl⟩
  refine ⟨_, rfl, F, _, Dw aO fun u => ?_⟩
  rcases u with _ | _ | u
  ·exact .inr (.inr ⟨rfl, a, rfl⟩)
  ·exact .inl rfl
  ·exact .inl rfl
 ·have aG : v = .slice (some ⟨b, 0, none⟩) xs.length cap := by rw [List.length_map] at aG; exact aG
  subst aG
  simp only [List.length_map] at qP gZ
  have ib := Du J nh (by omega) (Dq he _ _ _ gZ)
  refine .inl ⟨sA _ _, (aa w b cap ib (aO.dP 0 b bE) qP hm).mono ?_⟩
  rintro ex aB ⟨rfl, n, os, hw⟩
  refine ⟨_, rfl, F, _, Ds (t := 0) he aO bE J nh hF qP hm hl hw rfl rfl ?_⟩
  intro u hu
  rcases u with _ | _ | u
  ·exact (hu rfl).elim
  ·exact .inl rfl
  ·exact .inl rfl
end
theorem Dy {α : Type} [DecidableEq α] : ∀ (p : Option α) (l : List α), (i7 p l).length ≤ l.length
 | _, [] => Nat.le_refl _
 | p, x :: r => by
   have := Dy (some x) r
   simp only [i7]
   split <;> simp only [List.length_cons] <;> omega
theorem Dz {α : Type} [Inhabited α] [DecidableEq α] (zs : List α) : Lib.compact zs = i7 none zs := by
 have key : ∀ n i, i + n = zs.length → ((List.range' i n).filter (Lib.keeps zs.toArray)).map (zs.toArray[·]!) = i7 (if i = 0 then none else some zs.toArray[i - 1]!) (zs.drop i) := by
  intro n
  induction n with
  | zero =>
    intro i az
    rw [List.drop_of_length_le (by omega)]; rfl
  | succ n ih =>
    intro i az
    have dL : i < zs.length := by omega
    have ai : zs.toArray[i]! = zs[i] := by rw [getElem!_pos _ i (by simpa using dL)]; simp
    rw [List.range'_succ, List.drop_eq_getElem_cons dL, List.filter_cons]
    have oK := ih (i + 1) (by omega)
    rw [if_neg (by omega), Nat.add_sub_cancel, ai] at oK
    simp only [i7]
    by_cases bp : i = 0
    ·subst bp
     rw [if_pos (by simp [Lib.keeps]), List.map_cons, oK, ai]; simp
    ·rw [if_neg bp]
     by_cases he : zs.toArray[i - 1]! = zs[i]
     ·rw [if_neg (by simp [Lib.keeps, bp, ai, he]), oK, if_pos (by rw [he])]
     ·rw [if_pos (by simp only [Lib.keeps, ai]; simp only [decide_eq_true_eq]; exact .inr (fun e => he e.symm)), List.map_cons, oK, ai, if_neg (by simpa using he)]
 have := key zs.length 0 (by omega)
 rw [if_pos rfl, List.drop_zero] at this
 rw [← this, Lib.compact, Lib.compactUpTo, List.range_eq_range']
end Go.cM
