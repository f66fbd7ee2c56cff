/- Part of a proof that a law returns true for every input. No condition. -/
import Derived.Test.YtbemmmimelklkaaGreatFwI
import Derived.Sort.Grow
import Derived.Lib.SlicesCompact
namespace Go.c5
open Go.Sort
section
variable {α : Type} {e : α → I} {enc : α → Value}
def One (e : α → I) (enc : α → Value) : Prop := (∀ x, (e x).wd = 1) ∧ ∀ (w : World) (F : Nat → Prop) (x : α) (cs : List Value) (S : Nat → Prop), aB w F (e x) cs S ↔ cs = [enc x]
theorem Lt (he : One e enc) {w : World} {F : Nat → Prop} : ∀ (xs : List α) (cs : List Value) (S : Nat → Prop), bm w F (xs.map e) cs S → cs = xs.map enc := by
 intro xs
 induction xs with
 | nil => intro cs S h; simpa [bm] using h
 | cons x xs ih =>
   intro cs S h
   simp only [List.map_cons, bm] at h
   obtain ⟨cH, cI, cy, et, rfl, af, ai, _⟩ := h
   rw [(he.2 _ _ _ _ _).1 af, ih _ _ ai]; rfl
theorem Ux (he : One e enc) {w : World} {F : Nat → Prop} : ∀ (xs : List α), bm w F (xs.map e) (xs.map enc) (fun _ => False) := by
 intro xs
 induction xs with
 | nil => simp [bm]
 | cons x xs ih =>
   simp only [List.map_cons, bm]
   exact ⟨[enc x], xs.map enc, _, _, rfl, (he.2 _ _ _ _ _).2 rfl, ih, fun _ h => h, fun _ h => h, fun _ h => h.elim⟩
theorem Lu (w : World) (os : Array Obj) {c : Nat} (h : c < w.heap.size) : (Sort.grow w os).heap[c]? = w.heap[c]? := by
 simp only [Sort.grow, Array.getElem?_append, h, if_true]
variable [Inhabited α]
theorem Lv (he : One e enc) {w : World} {F X : Nat → Prop} {S : Nat → Nat → Prop} {s : ax} {aF : Nat → Value} (h : bZ w F X F S s aF w)
  {b cap : Nat} {cur : Array Value} {oB : TypeId} {fr : Nat × Nat} {xs cp zs : List α} (bS : S 0 b) (ad : w.heap[b]? = some (.cells cur oB fr)) (p8 : n3 fr cur.size) (Ix : cur.size = cap) (oj : xs.length ≤ cap) (hm : cap ≤ maxLen)
  (hl : (cp ++ zs).length = xs.length) {n : Nat} {os : Array Obj} {aP : World} (hw : aP = Sort.grow (putRow enc (Sort.ahead w n) b 0 (cp ++ zs).toArray) os) {az : ax} {ia : Nat → Value} {t : Nat}
  (bs : az t = .ar 1 (cp.map e)) (aR : ia t = .slice (some ⟨b, 0, none⟩) cp.length cap) (cl : ∀ u, u ≠ t → az u = .hole ∨ (az u = .tuple [] ∧ ia u = .tuple #[])) :
  bZ w F X F (fun u c => u = t ∧ c = b) az ia aP := by
 have Uy := h.fc 0 b bS
 have eV : (putRow enc (Sort.ahead w n) b 0 (cp ++ zs).toArray).heap.size = w.heap.size := size_putRow ..
 have Lw : w.heap.size ≤ aP.heap.size := by rw [hw, size_grow, eV]; omega
 have rX : ∀ c, c < w.heap.size → c ≠ b → aP.heap[c]? = w.heap[c]? := by
  intro c ay dB
  rw [hw, Lu _ _ (by rw [eV]; exact ay)]
  simp only [putRow, mapBlock, Array.getElem?_modify, if_neg (Ne.symm dB)]
  rfl
 have w3 : aP.heap[b]? = some (.cells (putCells enc 0 (cp ++ zs).toArray cur) oB fr) := by
  rw [hw, Lu _ _ (by rw [eV]; exact Uy)]
  simp only [putRow, mapBlock, Array.getElem?_modify, if_true]
  rw [show (Sort.ahead w n).heap = w.heap from rfl, ad]
  rfl
 have jY : (putCells enc 0 (cp ++ zs).toArray cur).toList.take cp.length = cp.map enc := by
  apply List.ext_getElem?
  intro k
  simp only [putCells, List.getElem?_take, Array.getElem?_toList, Array.getElem?_mapIdx, List.getElem?_map]
  have hlen : cp.length + zs.length = xs.length := by simpa using hl
  by_cases aD : k < cp.length
  ·rw [if_pos aD, Array.getElem?_eq_getElem (by omega), List.getElem?_eq_getElem aD]
   simp only [Option.map_some]
   rw [if_pos (by simp; omega)]
   simp only [Nat.sub_zero]
   rw [getElem!_pos _ k (by simp; omega)]
   simp [aD]
  ·rw [if_neg aD, List.getElem?_eq_none (by omega)]; rfl
 exact {
  hv := fun _ h => h
  hQ := fun b bH => .inl bH
  gh := fun c ay => Nat.lt_of_lt_of_le (h.gh c ay) Lw
  fc := fun u c ay => by rw [ay.2]; omega
  gr := fun u c ay bH => by rw [ay.2] at bH; exact h.gr 0 b bS bH
  gi := fun u x c dB hu aq => dB (hu.1.trans aq.1.symm)
  ek := fun u c ay => by rw [ay.2]; exact h.ek 0 b bS
  ee := fun u => by
   by_cases hu : u = t
   ·subst hu
    rw [bs, aR]
    refine (aY.c9 rfl).2 ⟨rfl, ?_⟩
    rw [aB]
    right
    refine ⟨b, cap, _, oB, fr, fun _ => False, ?_, ⟨rfl, rfl⟩, w3, ?_, ?_, hm, ?_, ?_, ?_, fun _ h => h.elim, fun h => h⟩
    ·simp [c1, h_]
    ·simpa [putCells] using p8
    ·simp at hl ⊢; omega
    ·simpa [putCells] using Ix
    ·intro d ak
     obtain ⟨x, _, rfl⟩ := List.mem_map.1 ak
     exact he.1 x
    ·rw [List.length_map, Nat.mul_one, jY]; exact Ux he cp
   ·rcases cl u hu with af | ⟨af, ai⟩
    ·rw [af, aY]; trivial
    ·rw [af, ai]
     refine (aY.c9 rfl).2 ⟨⟨#[], rfl, rfl, fun k d x ak => by simp at ak⟩, ?_⟩
     rw [aB, bm]; rfl
  old := fun c ay ki => rX c ay (fun zH => by
   rcases h.ek 0 b bS with af | af
   ·exact ki (zH ▸ af)
   ·omega)
  size := Lw
  os := by rw [hw]; rfl
  tape := by rw [hw]; rfl
  output := by rw [hw]; rfl }
theorem Lx {w : World} {b : Nat} {cur : Array Value} {oB : TypeId} {fr : Nat × Nat} {xs : List α} (ad : w.heap[b]? = some (.cells cur oB fr)) (p8 : n3 fr cur.size)
  (hl : xs.length ≤ cur.size) (ay : cur.toList.take xs.length = xs.map enc) : Holds enc w b 0 xs.toArray := by
 intro j b_
 have Ly : j < xs.length := by simpa using b_
 constructor
 ·have af : (cur.toList.take xs.length)[j]? = some (enc xs[j]) := by rw [ay, List.getElem?_map, List.getElem?_eq_getElem Ly]; rfl
  rw [List.getElem?_take, if_pos Ly] at af
  simp only [World.cell?, ad, Nat.zero_add]
  rw [getElem!_pos _ j b_]
  simpa using af
 ·simp only [World.frozen?, ad, Nat.zero_add]
  have := p8 j (by omega)
  simpa using this
theorem Lz {w : World} {F X : Nat → Prop} {S : Nat → Nat → Prop} {s : ax} {aF : Nat → Value} (h : bZ w F X F S s aF w) {az : ax} {ia : Nat → Value}
  (cl : ∀ u, az u = .hole ∨ (az u = .tuple [] ∧ ia u = .tuple #[]) ∨ (az u = .ar 1 [] ∧ ∃ a, ia u = .slice a 0 0)) : bZ w F X F (fun _ _ => False) az ia w where
 hv := fun _ h => h
 hQ := fun _ bH => .inl bH
 gh := h.gh
 fc := fun _ _ h => h.elim
 gr := fun _ _ h => h.elim
 gi := fun _ _ _ _ h => h.elim
 ek := fun _ _ h => h.elim
 ee := fun u => by
  rcases cl u with af | ⟨af, ai⟩ | ⟨af, a, ai⟩
  ·rw [af, aY]; trivial
  ·rw [af, ai]
   refine (aY.c9 rfl).2 ⟨⟨#[], rfl, rfl, fun k d x ak => by simp at ak⟩, ?_⟩
   rw [aB, bm]; rfl
  ·rw [af, ai]
   refine (aY.c9 rfl).2 ⟨rfl, ?_⟩
   rw [aB]
   exact .inl ⟨rfl, a, by simp [c1, h_]⟩
 old := h.old
 size := h.size
 os := h.os
 tape := h.tape
 output := h.output
theorem LA {w : World} {F : Nat → Prop} {s : ax} {aF : Nat → Value} {xs : List I} {v : Value} {S : Nat → Prop} (h : aY w F s aF (.ar 1 xs) v S) :
  (xs = [] ∧ ∃ a, v = .slice a 0 0) ∨ ∃ b cap cur oB fr a7, v = .slice (some ⟨b, 0, none⟩) xs.length cap ∧ S b ∧ w.heap[b]? = some (.cells cur oB fr) ∧ n3 fr cur.size ∧
      xs.length ≤ cap ∧ cap ≤ maxLen ∧ cur.size = cap ∧ bm w F xs (cur.toList.take xs.length) a7 := by
 obtain ⟨af, ai⟩ := (aY.c9 rfl).1 h
 have aR : c1 v = [v] := by
  cases v <;> first | rfl | (cases af)
 rw [aR, aB] at ai
 rcases ai with ⟨aN, a, bk⟩ | ⟨b, cap, cur, oB, fr, a7, aN, bk, cc, cF, ct, fC, ir, hE, kA, _⟩
 ·left; exact ⟨aN, a, by simpa using bk⟩
 ·right; exact ⟨b, cap, cur, oB, fr, a7, by simpa using aN, bk, cc, cF, ct, fC, by simpa using ir, by simpa using kA⟩
theorem aQ.Uz {C : cw} {f : FuncId} (he : One e enc) (xA : ∀ args w, (callFunc f args).run C.P w = .ok (.enter f args) w) (xs cp : List α) (hl : cp.length = xs.length)
  (bc : ∀ a w, Calls C.P f #[.slice a 0 0] w fun ex aP => ex = .returned (.tuple #[]) ∧ aP = w)
  (af : ∀ (w : World) (b cap : Nat), Holds enc w b 0 xs.toArray → b < w.heap.size → Calls C.P f #[.slice (some ⟨b, 0, none⟩) xs.length cap] w fun ex aP =>
   ex = .returned (.tuple #[]) ∧ ∃ n os, aP = Sort.grow (putRow enc (Sort.ahead w n) b 0 cp.toArray) os) :
  aQ C f [.ar 1 (xs.map e)] (.tuple []) [.ar 1 (cp.map e)] := by
 intro w F X S vs p0 bb
 obtain ⟨v, rfl⟩ : ∃ v, vs = [v] := by
  match vs, p0 with
  | [v], _ => exact ⟨v, rfl⟩
 rcases LA (bb.ee 0) with ⟨aq, a, aR⟩ | ⟨b, cap, cur, oB, fr, a7, aR, bS, ad, p8, u6, hm, hH, ic⟩
 ·have aR : v = .slice a 0 0 := aR
  have aq : xs = [] := by simpa using aq
  subst aR aq
  have bD : cp = [] := List.length_eq_zero_iff.1 hl
  subst bD
  refine .inl ⟨xA _ _, (bc a w).mono ?_⟩
  rintro ex aP ⟨rfl, rfl⟩
  refine ⟨_, rfl, F, _, Lz bb fun u => ?_⟩
  rcases u with _ | _ | u
  ·exact .inr (.inl ⟨rfl, rfl⟩)
  ·exact .inr (.inr ⟨rfl, a, rfl⟩)
  ·exact .inl rfl
 ·have aR : v = .slice (some ⟨b, 0, none⟩) xs.length cap := by rw [List.length_map] at aR; exact aR
  subst aR
  simp only [List.length_map] at u6 ic
  have jQ := Lx ad p8 (by omega) (Lt he _ _ _ ic)
  refine .inl ⟨xA _ _, (af w b cap jQ (bb.fc 0 b bS)).mono ?_⟩
  rintro ex aP ⟨rfl, n, os, hw⟩
  refine ⟨_, rfl, F, _, Lv (zs := []) (t := 1) he bb bS ad p8 hH u6 hm (by simpa using hl) (by simpa using hw) rfl (by show Value.slice _ _ _ = _; rw [hl]) ?_⟩
  intro u hu
  rcases u with _ | _ | u
  ·exact .inr ⟨rfl, rfl⟩
  ·exact (hu rfl).elim
  ·exact .inl rfl
theorem aQ.UA {C : cw} {f : FuncId} (he : One e enc) (xA : ∀ args w, (callFunc f args).run C.P w = .ok (.enter f args) w) (xs cp zs : List α) (hl : (cp ++ zs).length = xs.length)
  (bc : ∀ a w, Calls C.P f #[.slice a 0 0] w fun ex aP => ex = .returned (.slice a 0 0) ∧ aP = w)
  (af : ∀ (w : World) (b cap : Nat), Holds enc w b 0 xs.toArray → b < w.heap.size → xs.length ≤ cap → cap ≤ maxLen → Calls C.P f #[.slice (some ⟨b, 0, none⟩) xs.length cap] w fun ex aP =>
   ex = .returned (.slice (some ⟨b, 0, none⟩) cp.length cap) ∧ ∃ n os, aP = Sort.grow (putRow enc (Sort.ahead w n) b 0 (cp ++ zs).toArray) os) :
  aQ C f [.ar 1 (xs.map e)] (.ar 1 (cp.map e)) [.hole] := by
 intro w F X S vs p0 bb
 obtain ⟨v, rfl⟩ : ∃ v, vs = [v] := by
  match vs, p0 with
  | [v], _ => exact ⟨v, rfl⟩
 rcases LA (bb.ee 0) with ⟨aq, a, aR⟩ | ⟨b, cap, cur, oB, fr, a7, aR, bS, ad, p8, u6, hm, hH, ic⟩
 ·have aR : v = .slice a 0 0 := aR
  have aq : xs = [] := by simpa using aq
  subst aR aq
  have bD : cp = [] := by
   have bY : cp ++ zs = [] := List.length_eq_zero_iff.1 hl
   exact (List.append_eq_nil_iff.1 bY).1
  subst bD
  refine .inl ⟨xA _ _, (bc a w).mono ?_⟩
  rintro ex aP ⟨rfl, rfl⟩
  refine ⟨_, rfl, F, _, Lz bb fun u => ?_⟩
  rcases u with _ | _ | u
  ·exact .inr (.inr ⟨rfl, a, rfl⟩)
  ·exact .inl rfl
  ·exact .inl rfl
 ·have aR : v = .slice (some ⟨b, 0, none⟩) xs.length cap := by rw [List.length_map] at aR; exact aR
  subst aR
  simp only [List.length_map] at u6 ic
  have jQ := Lx ad p8 (by omega) (Lt he _ _ _ ic)
  refine .inl ⟨xA _ _, (af w b cap jQ (bb.fc 0 b bS) u6 hm).mono ?_⟩
  rintro ex aP ⟨rfl, n, os, hw⟩
  refine ⟨_, rfl, F, _, Lv (t := 0) he bb bS ad p8 hH u6 hm hl hw rfl rfl ?_⟩
  intro u hu
  rcases u with _ | _ | u
  ·exact (hu rfl).elim
  ·exact .inl rfl
  ·exact .inl rfl
end
theorem LB {α : Type} [DecidableEq α] : ∀ (p : Option α) (l : List α), (kX p l).length ≤ l.length
 | _, [] => Nat.le_refl _
 | p, x :: r => by
   have := LB (some x) r
   simp only [kX]
   split <;> simp only [List.length_cons] <;> omega
theorem LC {α : Type} [Inhabited α] [DecidableEq α] (zs : List α) : Lib.compact zs = kX none zs := by
 have key : ∀ n i, i + n = zs.length → ((List.range' i n).filter (Lib.keeps zs.toArray)).map (zs.toArray[·]!) = kX (if i = 0 then none else some zs.toArray[i - 1]!) (zs.drop i) := by
  intro n
  induction n with
  | zero =>
    intro i ao
    rw [List.drop_of_length_le (by omega)]; rfl
  | succ n ih =>
    intro i ao
    have fi : i < zs.length := by omega
    have aq : zs.toArray[i]! = zs[i] := by rw [getElem!_pos _ i (by simpa using fi)]; simp
    rw [List.range'_succ, List.drop_eq_getElem_cons fi, List.filter_cons]
    have sc := ih (i + 1) (by omega)
    rw [if_neg (by omega), Nat.add_sub_cancel, aq] at sc
    simp only [kX]
    by_cases bc : i = 0
    ·subst bc
     rw [if_pos (by simp [Lib.keeps]), List.map_cons, sc, aq]; simp
    ·rw [if_neg bc]
     by_cases he : zs.toArray[i - 1]! = zs[i]
     ·rw [if_neg (by simp [Lib.keeps, bc, aq, he]), sc, if_pos (by rw [he])]
     ·rw [if_pos (by simp only [Lib.keeps, aq]; simp only [decide_eq_true_eq]; exact .inr (fun e => he e.symm)), List.map_cons, sc, aq, if_neg (by simpa using he)]
 have := key zs.length 0 (by omega)
 rw [if_pos rfl, List.drop_zero] at this
 rw [← this, Lib.compact, Lib.compactUpTo, List.range_eq_range']
end Go.c5
