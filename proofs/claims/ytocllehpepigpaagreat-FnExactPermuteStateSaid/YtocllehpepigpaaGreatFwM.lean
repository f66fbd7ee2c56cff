/- Part of a proof that a law returns true for every input. No condition. -/
import Derived.Test.YtocllehpepigpaaGreatFwI
import Derived.Sort.Grow
import Derived.Lib.SlicesCompact
import Derived.Below
namespace Go.dg
open Go.Sort
section
variable {α : Type} {e : α → I} {enc : α → Value}
def One (e : α → I) (enc : α → Value) : Prop := (∀ x, (e x).wd = 1) ∧ ∀ (w : World) (F : Nat → Prop) (x : α) (cs : List Value) (S : Nat → Prop), aw w F (e x) cs S ↔ cs = [enc x]
theorem Mo (he : One e enc) {w : World} {F : Nat → Prop} : ∀ (xs : List α) (cs : List Value) (S : Nat → Prop), bg w F (xs.map e) cs S → cs = xs.map enc := by
 intro xs
 induction xs with
 | nil => intro cs S h; simpa [bg] using h
 | cons x xs ih =>
   intro cs S h
   simp only [List.map_cons, bg] at h
   obtain ⟨cD, cz, cu, ej, rfl, ae, ah, _⟩ := h
   rw [(he.2 _ _ _ _ _).1 ae, ih _ _ ah]; rfl
theorem VL (he : One e enc) {w : World} {F : Nat → Prop} : ∀ (xs : List α), bg w F (xs.map e) (xs.map enc) (fun _ => False) := by
 intro xs
 induction xs with
 | nil => simp [bg]
 | cons x xs ih =>
   simp only [List.map_cons, bg]
   exact ⟨[enc x], xs.map enc, _, _, rfl, (he.2 _ _ _ _ _).2 rfl, ih, fun _ h => h, fun _ h => h, fun _ h => h.elim⟩
theorem Mp (w : World) (os : Array Obj) {c : Nat} (h : c < w.heap.size) : (Sort.grow w os).heap[c]? = w.heap[c]? := by
 simp only [Sort.grow, Array.getElem?_append, h, if_true]
variable [Inhabited α]
theorem Mq (he : One e enc) {w : World} {F X : Nat → Prop} {S : Nat → Nat → Prop} {s : ar} {aC : Nat → Value} (h : b9 w F X F S s aC w)
  {b cap : Nat} {cur : Array Value} {o8 : TypeId} {fr : Nat × Nat} {xs cd zs : List α} (bZ : S 0 b) (ad : w.heap[b]? = some (.cells cur o8 fr)) (qB : oC fr cur.size) (Jj : cur.size = cap) (oU : xs.length ≤ cap) (hm : cap ≤ maxLen)
  (hl : (cd ++ zs).length = xs.length) {n : Nat} {os : Array Obj} {aO : World} (hw : aO = Sort.grow (putRow enc (Sort.ahead w n) b 0 (cd ++ zs).toArray) os) {aB : ar} {iL : Nat → Value} {t : Nat}
  (bo : aB t = .ao 1 (cd.map e)) (aQ : iL t = .slice (some ⟨b, 0, none⟩) cd.length cap) (b_ : ∀ u, u ≠ t → aB u = .hole ∨ (aB u = .tuple [] ∧ iL u = .tuple #[])) :
  b9 w F X F (fun u c => u = t ∧ c = b) aB iL aO := by
 have VM := h.fh 0 b bZ
 have eM : (putRow enc (Sort.ahead w n) b 0 (cd ++ zs).toArray).heap.size = w.heap.size := size_putRow ..
 have Mr : w.heap.size ≤ aO.heap.size := by rw [hw, size_grow, eM]; omega
 have si : ∀ c, c < w.heap.size → c ≠ b → aO.heap[c]? = w.heap[c]? := by
  intro c ax dL
  rw [hw, Mp _ _ (by rw [eM]; exact ax)]
  simp only [putRow, mapBlock, Array.getElem?_modify, if_neg (Ne.symm dL)]
  rfl
 have xw : aO.heap[b]? = some (.cells (putCells enc 0 (cd ++ zs).toArray cur) o8 fr) := by
  rw [hw, Mp _ _ (by rw [eM]; exact VM)]
  simp only [putRow, mapBlock, Array.getElem?_modify, if_true]
  rw [show (Sort.ahead w n).heap = w.heap from rfl, ad]
  rfl
 have kt : (putCells enc 0 (cd ++ zs).toArray cur).toList.take cd.length = cd.map enc := by
  apply List.ext_getElem?
  intro k
  simp only [putCells, List.getElem?_take, Array.getElem?_toList, Array.getElem?_mapIdx, List.getElem?_map]
  have hlen : cd.length + zs.length = xs.length := by simpa using hl
  by_cases aA : k < cd.length
  ·rw [if_pos aA, Array.getElem?_eq_getElem (by omega), List.getElem?_eq_getElem aA]
   simp only [Option.map_some]
   rw [if_pos (by simp; omega)]
   simp only [Nat.sub_zero]
   rw [getElem!_pos _ k (by simp; omega)]
   simp [aA]
  ·rw [if_neg aA, List.getElem?_eq_none (by omega)]; rfl
 exact {
  hL := fun _ h => h
  hZ := fun b bI => .inl bI
  ga := fun c ax => Nat.lt_of_lt_of_le (h.ga c ax) Mr
  fh := fun u c ax => by rw [ax.2]; omega
  gF := fun u c ax bI => by rw [ax.2] at bI; exact h.gF 0 b bZ bI
  gq := fun u x c dL hu aq => dL (hu.1.trans aq.1.symm)
  ez := fun u c ax => by rw [ax.2]; exact h.ez 0 b bZ
  eg := fun u => by
   by_cases hu : u = t
   ·subst hu
    rw [bo, aQ]
    refine (aM.c0 rfl).2 ⟨rfl, ?_⟩
    rw [aw]
    right
    refine ⟨b, cap, _, o8, fr, fun _ => False, ?_, ⟨rfl, rfl⟩, xw, ?_, ?_, hm, ?_, ?_, ?_, fun _ h => h.elim, fun h => h⟩
    ·simp [cL, il]
    ·simpa [putCells] using qB
    ·simp at hl ⊢; omega
    ·simpa [putCells] using Jj
    ·intro d aj
     obtain ⟨x, _, rfl⟩ := List.mem_map.1 aj
     exact he.1 x
    ·rw [List.length_map, Nat.mul_one, kt]; exact VL he cd
   ·rcases b_ u hu with ae | ⟨ae, ah⟩
    ·rw [ae, aM]; trivial
    ·rw [ae, ah]
     refine (aM.c0 rfl).2 ⟨⟨#[], rfl, rfl, fun k d x aj => by simp at aj⟩, ?_⟩
     rw [aw, bg]; rfl
  old := fun c ax kS => si c ax (fun z8 => by
   rcases h.ez 0 b bZ with ae | ae
   ·exact kS (z8 ▸ ae)
   ·omega)
  size := Mr
  os := by rw [hw]; rfl
  tape := by rw [hw]; rfl
  output := by rw [hw]; rfl }
theorem Ms {w : World} {b : Nat} {cur : Array Value} {o8 : TypeId} {fr : Nat × Nat} {xs : List α} (ad : w.heap[b]? = some (.cells cur o8 fr)) (qB : oC fr cur.size)
  (hl : xs.length ≤ cur.size) (ax : cur.toList.take xs.length = xs.map enc) : Holds enc w b 0 xs.toArray := by
 intro j cH
 have Mt : j < xs.length := by simpa using cH
 constructor
 ·have ae : (cur.toList.take xs.length)[j]? = some (enc xs[j]) := by rw [ax, List.getElem?_map, List.getElem?_eq_getElem Mt]; rfl
  rw [List.getElem?_take, if_pos Mt] at ae
  simp only [World.cell?, ad, Nat.zero_add]
  rw [getElem!_pos _ j cH]
  simpa using ae
 ·simp only [World.frozen?, ad, Nat.zero_add]
  have := qB j (by omega)
  simpa using this
theorem Mu {w : World} {F X : Nat → Prop} {S : Nat → Nat → Prop} {s : ar} {aC : Nat → Value} (h : b9 w F X F S s aC w) {aB : ar} {iL : Nat → Value}
  (b_ : ∀ u, aB u = .hole ∨ (aB u = .tuple [] ∧ iL u = .tuple #[]) ∨ (aB u = .ao 1 [] ∧ ∃ a, iL u = .slice a 0 0)) : b9 w F X F (fun _ _ => False) aB iL w where
 hL := fun _ h => h
 hZ := fun _ bI => .inl bI
 ga := h.ga
 fh := fun _ _ h => h.elim
 gF := fun _ _ h => h.elim
 gq := fun _ _ _ _ h => h.elim
 ez := fun _ _ h => h.elim
 eg := fun u => by
  rcases b_ u with ae | ⟨ae, ah⟩ | ⟨ae, a, ah⟩
  ·rw [ae, aM]; trivial
  ·rw [ae, ah]
   refine (aM.c0 rfl).2 ⟨⟨#[], rfl, rfl, fun k d x aj => by simp at aj⟩, ?_⟩
   rw [aw, bg]; rfl
  ·rw [ae, ah]
   refine (aM.c0 rfl).2 ⟨rfl, ?_⟩
   rw [aw]
   exact .inl ⟨rfl, a, by simp [cL, il]⟩
 old := h.old
 size := h.size
 os := h.os
 tape := h.tape
 output := h.output
theorem Mv {w : World} {F : Nat → Prop} {s : ar} {aC : Nat → Value} {xs : List I} {v : Value} {S : Nat → Prop} (h : aM w F s aC (.ao 1 xs) v S) :
  (xs = [] ∧ ∃ a, v = .slice a 0 0) ∨ ∃ b cap cur o8 fr aX, v = .slice (some ⟨b, 0, none⟩) xs.length cap ∧ S b ∧ w.heap[b]? = some (.cells cur o8 fr) ∧ oC fr cur.size ∧
      xs.length ≤ cap ∧ cap ≤ maxLen ∧ cur.size = cap ∧ bg w F xs (cur.toList.take xs.length) aX := by
 obtain ⟨ae, ah⟩ := (aM.c0 rfl).1 h
 have aQ : cL v = [v] := by
  cases v <;> first | rfl | (cases ae)
 rw [aQ, aw] at ah
 rcases ah with ⟨aH, a, a6⟩ | ⟨b, cap, cur, o8, fr, aX, aH, a6, bN, cW, cI, fM, hQ, h5, la, _⟩
 ·left; exact ⟨aH, a, by simpa using a6⟩
 ·right; exact ⟨b, cap, cur, o8, fr, aX, by simpa using aH, a6, bN, cW, cI, fM, by simpa using hQ, by simpa using la⟩
theorem bm.VN {C : cE} {f : FuncId} (he : One e enc) (x9 : ∀ args w, (callFunc f args).run C.P w = .ok (.enter f args) w) (xs cd : List α) (hl : cd.length = xs.length)
  (bf : ∀ a w, Calls C.P f #[.slice a 0 0] w fun ex aO => ex = .returned (.tuple #[]) ∧ aO = w)
  (ae : ∀ (w : World) (b cap : Nat), Holds enc w b 0 xs.toArray → b < w.heap.size → Calls C.P f #[.slice (some ⟨b, 0, none⟩) xs.length cap] w fun ex aO =>
   ex = .returned (.tuple #[]) ∧ ∃ n os, aO = Sort.grow (putRow enc (Sort.ahead w n) b 0 cd.toArray) os) :
  bm C f [.ao 1 (xs.map e)] (.tuple []) [.ao 1 (cd.map e)] := by
 intro w F X S vs uS aZ
 obtain ⟨v, rfl⟩ : ∃ v, vs = [v] := by
  match vs, uS with
  | [v], _ => exact ⟨v, rfl⟩
 rcases Mv (aZ.eg 0) with ⟨aq, a, aQ⟩ | ⟨b, cap, cur, o8, fr, aX, aQ, bZ, ad, qB, vH, hm, hh, gX⟩
 ·have aQ : v = .slice a 0 0 := aQ
  have aq : xs = [] := by simpa using aq
  subst aQ aq
  have bl : cd = [] := List.length_eq_zero_iff.1 hl
  subst bl
  refine .inl ⟨x9 _ _, (bf a w).mono ?_⟩
  rintro ex aO ⟨rfl, rfl⟩
  refine ⟨_, rfl, F, _, Mu aZ fun u => ?_⟩
  rcases u with _ | _ | u
  ·exact .inr (.inl ⟨rfl, rfl⟩)
  ·exact .inr (.inr ⟨rfl, a, rfl⟩)
  ·exact .inl rfl
 ·have aQ : v = .slice (some ⟨b, 0, none⟩) xs.length cap := by rw [List.length_map] at aQ; exact aQ
  subst aQ
  simp only [List.length_map] at vH gX
  have kj := Ms ad qB (by omega) (Mo he _ _ _ gX)
  refine .inl ⟨x9 _ _, (ae w b cap kj (aZ.fh 0 b bZ)).mono ?_⟩
  rintro ex aO ⟨rfl, n, os, hw⟩
  refine ⟨_, rfl, F, _, Mq (zs := []) (t := 1) he aZ bZ ad qB hh vH hm (by simpa using hl) (by simpa using hw) rfl (by show Value.slice _ _ _ = _; rw [hl]) ?_⟩
  intro u hu
  rcases u with _ | _ | u
  ·exact .inr ⟨rfl, rfl⟩
  ·exact (hu rfl).elim
  ·exact .inl rfl
theorem bm.VO {C : cE} {f : FuncId} (he : One e enc) (x9 : ∀ args w, (callFunc f args).run C.P w = .ok (.enter f args) w) (xs cd zs : List α) (hl : (cd ++ zs).length = xs.length)
  (bf : ∀ a w, Calls C.P f #[.slice a 0 0] w fun ex aO => ex = .returned (.slice a 0 0) ∧ aO = w)
  (ae : ∀ (w : World) (b cap : Nat), Holds enc w b 0 xs.toArray → b < w.heap.size → xs.length ≤ cap → cap ≤ maxLen → Calls C.P f #[.slice (some ⟨b, 0, none⟩) xs.length cap] w fun ex aO =>
   ex = .returned (.slice (some ⟨b, 0, none⟩) cd.length cap) ∧ ∃ n os, aO = Sort.grow (putRow enc (Sort.ahead w n) b 0 (cd ++ zs).toArray) os) :
  bm C f [.ao 1 (xs.map e)] (.ao 1 (cd.map e)) [.hole] := by
 intro w F X S vs uS aZ
 obtain ⟨v, rfl⟩ : ∃ v, vs = [v] := by
  match vs, uS with
  | [v], _ => exact ⟨v, rfl⟩
 rcases Mv (aZ.eg 0) with ⟨aq, a, aQ⟩ | ⟨b, cap, cur, o8, fr, aX, aQ, bZ, ad, qB, vH, hm, hh, gX⟩
 ·have aQ : v = .slice a 0 0 := aQ
  have aq : xs = [] := by simpa using aq
  subst aQ aq
  have bl : cd = [] := by
   have b8 : cd ++ zs = [] := List.length_eq_zero_iff.1 hl
   exact (List.append_eq_nil_iff.1 b8).1
  subst bl
  refine .inl ⟨x9 _ _, (bf a w).mono ?_⟩
  rintro ex aO ⟨rfl, rfl⟩
  refine ⟨_, rfl, F, _, Mu aZ fun u => ?_⟩
  rcases u with _ | _ | u
  ·exact .inr (.inr ⟨rfl, a, rfl⟩)
  ·exact .inl rfl
  ·exact .inl rfl
 ·have aQ : v = .slice (some ⟨b, 0, none⟩) xs.length cap := by rw [List.length_map] at aQ; exact aQ
  subst aQ
  simp only [List.length_map] at vH gX
  have kj := Ms ad qB (by omega) (Mo he _ _ _ gX)
  refine .inl ⟨x9 _ _, (ae w b cap kj (aZ.fh 0 b bZ) vH hm).mono ?_⟩
  rintro ex aO ⟨rfl, n, os, hw⟩
  refine ⟨_, rfl, F, _, Mq (t := 0) he aZ bZ ad qB hh vH hm hl hw rfl rfl ?_⟩
  intro u hu
  rcases u with _ | _ | u
  ·exact (hu rfl).elim
  ·exact .inl rfl
  ·exact .inl rfl
end
theorem Mw {α : Type} [DecidableEq α] : ∀ (p : Option α) (l : List α), (lC p l).length ≤ l.length
 | _, [] => Nat.le_refl _
 | p, x :: r => by
   have := Mw (some x) r
   simp only [lC]
   split <;> simp only [List.length_cons] <;> omega
theorem Mx {α : Type} [Inhabited α] [DecidableEq α] (zs : List α) : Lib.compact zs = lC none zs := by
 have key : ∀ n i, i + n = zs.length → ((List.range' i n).filter (Lib.keeps zs.toArray)).map (zs.toArray[·]!) = lC (if i = 0 then none else some zs.toArray[i - 1]!) (zs.drop i) := by
  intro n
  induction n with
  | zero =>
    intro i au
    rw [List.drop_of_length_le (by omega)]; rfl
  | succ n ih =>
    intro i au
    have e7 : i < zs.length := by omega
    have aq : zs.toArray[i]! = zs[i] := by rw [getElem!_pos _ i (by simpa using e7)]; simp
    rw [List.range'_succ, List.drop_eq_getElem_cons e7, List.filter_cons]
    have sE := ih (i + 1) (by omega)
    rw [if_neg (by omega), Nat.add_sub_cancel, aq] at sE
    simp only [lC]
    by_cases bf : i = 0
    ·subst bf
     rw [if_pos (by simp [Lib.keeps]), List.map_cons, sE, aq]; simp
    ·rw [if_neg bf]
     by_cases he : zs.toArray[i - 1]! = zs[i]
     ·rw [if_neg (by simp [Lib.keeps, bf, aq, he]), sE, if_pos (by rw [he])]
     ·rw [if_pos (by simp only [Lib.keeps, aq]; simp only [decide_eq_true_eq]; exact .inr (fun e => he e.symm)), List.map_cons, sE, aq, if_neg (by simpa using he)]
 have := key zs.length 0 (by omega)
 rw [if_pos rfl, List.drop_zero] at this
 rw [← this, Lib.compact, Lib.compactUpTo, List.range_eq_range']
end Go.dg
