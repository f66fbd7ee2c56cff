/- Part of a proof that a law returns true for every input. No condition. -/
import Derived.Test.YtbemmmimelklkaaFwI
import Derived.Sort.Grow
import Derived.Lib.SlicesCompact
namespace Go.cB
open Go.Sort
section
variable {α : Type} {e : α → I} {enc : α → Value}
def One (e : α → I) (enc : α → Value) : Prop := (∀ x, (e x).wd = 1) ∧ ∀ (w : World) (F : Nat → Prop) (x : α) (cs : List Value) (S : Nat → Prop), ax w F (e x) cs S ↔ cs = [enc x]
theorem Gu (he : One e enc) {w : World} {F : Nat → Prop} : ∀ (xs : List α) (cs : List Value) (S : Nat → Prop), a6 w F (xs.map e) cs S → cs = xs.map enc := by
 intro xs
 induction xs with
 | nil => intro cs S h; simpa [a6] using h
 | cons x xs ih =>
   intro cs S h
   simp only [List.map_cons, a6] at h
   obtain ⟨cr, cu, b1, dg, rfl, ab, af, _⟩ := h
   rw [(he.2 _ _ _ _ _).1 ab, ih _ _ af]; rfl
theorem Om (he : One e enc) {w : World} {F : Nat → Prop} : ∀ (xs : List α), a6 w F (xs.map e) (xs.map enc) (fun _ => False) := by
 intro xs
 induction xs with
 | nil => simp [a6]
 | cons x xs ih =>
   simp only [List.map_cons, a6]
   exact ⟨[enc x], xs.map enc, _, _, rfl, (he.2 _ _ _ _ _).2 rfl, ih, fun _ h => h, fun _ h => h, fun _ h => h.elim⟩
theorem Gv (w : World) (os : Array Obj) {c : Nat} (h : c < w.heap.size) : (Sort.grow w os).heap[c]? = w.heap[c]? := by
 simp only [Sort.grow, Array.getElem?_append, h, if_true]
variable [Inhabited α]
theorem Gw (he : One e enc) {w : World} {F X : Nat → Prop} {S : Nat → Nat → Prop} {s : aj} {az : Nat → Value} (h : bE w F X F S s az w)
  {b cap : Nat} {cur : Array Value} {mN : TypeId} {fr : Nat × Nat} {xs bT zs : List α} (bL : S 0 b) (U : w.heap[b]? = some (.cells cur mN fr)) (nZ : mh fr cur.size) (Du : cur.size = cap) (mC : xs.length ≤ cap) (hm : cap ≤ maxLen)
  (hl : (bT ++ zs).length = xs.length) {n : Nat} {os : Array Obj} {aD : World} (hw : aD = Sort.grow (putRow enc (Sort.ahead w n) b 0 (bT ++ zs).toArray) os) {ao : aj} {gS : Nat → Value} {t : Nat}
  (aZ : ao t = .aE 1 (bT.map e)) (aK : gS t = .slice (some ⟨b, 0, none⟩) bT.length cap) (bU : ∀ u, u ≠ t → ao u = .hole ∨ (ao u = .tuple [] ∧ gS u = .tuple #[])) :
  bE w F X F (fun u c => u = t ∧ c = b) ao gS aD := by
 have On := h.dM 0 b bL
 have dB : (putRow enc (Sort.ahead w n) b 0 (bT ++ zs).toArray).heap.size = w.heap.size := size_putRow ..
 have Gx : w.heap.size ≤ aD.heap.size := by rw [hw, size_grow, dB]; omega
 have pq : ∀ c, c < w.heap.size → c ≠ b → aD.heap[c]? = w.heap[c]? := by
  intro c al cV
  rw [hw, Gv _ _ (by rw [dB]; exact al)]
  simp only [putRow, mapBlock, Array.getElem?_modify, if_neg (Ne.symm cV)]
  rfl
 have tk : aD.heap[b]? = some (.cells (putCells enc 0 (bT ++ zs).toArray cur) mN fr) := by
  rw [hw, Gv _ _ (by rw [dB]; exact On)]
  simp only [putRow, mapBlock, Array.getElem?_modify, if_true]
  rw [show (Sort.ahead w n).heap = w.heap from rfl, U]
  rfl
 have iG : (putCells enc 0 (bT ++ zs).toArray cur).toList.take bT.length = bT.map enc := by
  apply List.ext_getElem?
  intro k
  simp only [putCells, List.getElem?_take, Array.getElem?_toList, Array.getElem?_mapIdx, List.getElem?_map]
  have hlen : bT.length + zs.length = xs.length := by simpa using hl
  by_cases ay : k < bT.length
  ·rw [if_pos ay, Array.getElem?_eq_getElem (by omega), List.getElem?_eq_getElem ay]
   simp only [Option.map_some]
   rw [if_pos (by simp; omega)]
   simp only [Nat.sub_zero]
   rw [getElem!_pos _ k (by simp; omega)]
   simp [ay]
  ·rw [if_neg ay, List.getElem?_eq_none (by omega)]; rfl
 exact {
  gk := fun _ h => h
  gC := fun b bo => .inl bo
  eT := fun c al => Nat.lt_of_lt_of_le (h.eT c al) Gx
  dM := fun u c al => by rw [al.2]; omega
  ff := fun u c al bo => by rw [al.2] at bo; exact h.ff 0 b bL bo
  eU := fun u x c cV hu au => cV (hu.1.trans au.1.symm)
  dh := fun u c al => by rw [al.2]; exact h.dh 0 b bL
  da := fun u => by
   by_cases hu : u = t
   ·subst hu
    rw [aZ, aK]
    refine (aH.cv rfl).2 ⟨rfl, ?_⟩
    rw [ax]
    right
    refine ⟨b, cap, _, mN, fr, fun _ => False, ?_, ⟨rfl, rfl⟩, tk, ?_, ?_, hm, ?_, ?_, ?_, fun _ h => h.elim, fun h => h⟩
    ·simp [cm, gJ]
    ·simpa [putCells] using nZ
    ·simp at hl ⊢; omega
    ·simpa [putCells] using Du
    ·intro d ah
     obtain ⟨x, _, rfl⟩ := List.mem_map.1 ah
     exact he.1 x
    ·rw [List.length_map, Nat.mul_one, iG]; exact Om he bT
   ·rcases bU u hu with ab | ⟨ab, af⟩
    ·rw [ab, aH]; trivial
    ·rw [ab, af]
     refine (aH.cv rfl).2 ⟨⟨#[], rfl, rfl, fun k d x ah => by simp at ah⟩, ?_⟩
     rw [ax, a6]; rfl
  old := fun c al iX => pq c al (fun vQ => by
   rcases h.dh 0 b bL with ab | ab
   ·exact iX (vQ ▸ ab)
   ·omega)
  size := Gx
  os := by rw [hw]; rfl
  tape := by rw [hw]; rfl
  output := by rw [hw]; rfl }
theorem Gy {w : World} {b : Nat} {cur : Array Value} {mN : TypeId} {fr : Nat × Nat} {xs : List α} (U : w.heap[b]? = some (.cells cur mN fr)) (nZ : mh fr cur.size)
  (hl : xs.length ≤ cur.size) (al : cur.toList.take xs.length = xs.map enc) : Holds enc w b 0 xs.toArray := by
 intro j bS
 have Gz : j < xs.length := by simpa using bS
 constructor
 ·have ab : (cur.toList.take xs.length)[j]? = some (enc xs[j]) := by rw [al, List.getElem?_map, List.getElem?_eq_getElem Gz]; rfl
  rw [List.getElem?_take, if_pos Gz] at ab
  simp only [World.cell?, U, Nat.zero_add]
  rw [getElem!_pos _ j bS]
  simpa using ab
 ·simp only [World.frozen?, U, Nat.zero_add]
  have := nZ j (by omega)
  simpa using this
theorem GA {w : World} {F X : Nat → Prop} {S : Nat → Nat → Prop} {s : aj} {az : Nat → Value} (h : bE w F X F S s az w) {ao : aj} {gS : Nat → Value}
  (bU : ∀ u, ao u = .hole ∨ (ao u = .tuple [] ∧ gS u = .tuple #[]) ∨ (ao u = .aE 1 [] ∧ ∃ a, gS u = .slice a 0 0)) : bE w F X F (fun _ _ => False) ao gS w where
 gk := fun _ h => h
 gC := fun _ bo => .inl bo
 eT := h.eT
 dM := fun _ _ h => h.elim
 ff := fun _ _ h => h.elim
 eU := fun _ _ _ _ h => h.elim
 dh := fun _ _ h => h.elim
 da := fun u => by
  rcases bU u with ab | ⟨ab, af⟩ | ⟨ab, a, af⟩
  ·rw [ab, aH]; trivial
  ·rw [ab, af]
   refine (aH.cv rfl).2 ⟨⟨#[], rfl, rfl, fun k d x ah => by simp at ah⟩, ?_⟩
   rw [ax, a6]; rfl
  ·rw [ab, af]
   refine (aH.cv rfl).2 ⟨rfl, ?_⟩
   rw [ax]
   exact .inl ⟨rfl, a, by simp [cm, gJ]⟩
 old := h.old
 size := h.size
 os := h.os
 tape := h.tape
 output := h.output
theorem GB {w : World} {F : Nat → Prop} {s : aj} {az : Nat → Value} {xs : List I} {v : Value} {S : Nat → Prop} (h : aH w F s az (.aE 1 xs) v S) :
  (xs = [] ∧ ∃ a, v = .slice a 0 0) ∨ ∃ b cap cur mN fr aL, v = .slice (some ⟨b, 0, none⟩) xs.length cap ∧ S b ∧ w.heap[b]? = some (.cells cur mN fr) ∧ mh fr cur.size ∧
      xs.length ≤ cap ∧ cap ≤ maxLen ∧ cur.size = cap ∧ a6 w F xs (cur.toList.take xs.length) aL := by
 obtain ⟨ab, af⟩ := (aH.cv rfl).1 h
 have aK : cm v = [v] := by
  cases v <;> first | rfl | (cases ab)
 rw [aK, ax] at af
 rcases af with ⟨aF, a, bb⟩ | ⟨b, cap, cur, mN, fr, aL, aF, bb, bV, cd, cf, er, g1, gp, jd, _⟩
 ·left; exact ⟨aF, a, by simpa using bb⟩
 ·right; exact ⟨b, cap, cur, mN, fr, aL, by simpa using aF, bb, bV, cd, cf, er, by simpa using g1, by simpa using jd⟩
theorem aU.Oo {C : bZ} {f : FuncId} (he : One e enc) (tU : ∀ args w, (callFunc f args).run C.P w = .ok (.enter f args) w) (xs bT : List α) (hl : bT.length = xs.length)
  (bh : ∀ a w, Calls C.P f #[.slice a 0 0] w fun ex aD => ex = .returned (.tuple #[]) ∧ aD = w)
  (ab : ∀ (w : World) (b cap : Nat), Holds enc w b 0 xs.toArray → b < w.heap.size → Calls C.P f #[.slice (some ⟨b, 0, none⟩) xs.length cap] w fun ex aD =>
   ex = .returned (.tuple #[]) ∧ ∃ n os, aD = Sort.grow (putRow enc (Sort.ahead w n) b 0 bT.toArray) os) :
  aU C f [.aE 1 (xs.map e)] (.tuple []) [.aE 1 (bT.map e)] := by
 intro w F X S vs nc aO
 obtain ⟨v, rfl⟩ : ∃ v, vs = [v] := by
  match vs, nc with
  | [v], _ => exact ⟨v, rfl⟩
 rcases GB (aO.da 0) with ⟨au, a, aK⟩ | ⟨b, cap, cur, mN, fr, aL, aK, bL, U, nZ, r8, hm, hr, gU⟩
 ·have aK : v = .slice a 0 0 := aK
  have au : xs = [] := by simpa using au
  subst aK au
  have bC : bT = [] := List.length_eq_zero_iff.1 hl
  subst bC
  refine .inl ⟨tU _ _, (bh a w).mono ?_⟩
  rintro ex aD ⟨rfl, rfl⟩
  refine ⟨_, rfl, F, _, GA aO fun u => ?_⟩
  rcases u with _ | _ | u
  ·exact .inr (.inl ⟨rfl, rfl⟩)
  ·exact .inr (.inr ⟨rfl, a, rfl⟩)
  ·exact .inl rfl
 ·have aK : v = .slice (some ⟨b, 0, none⟩) xs.length cap := by rw [List.length_map] at aK; exact aK
  subst aK
  simp only [List.length_map] at r8 gU
  have iw := Gy U nZ (by omega) (Gu he _ _ _ gU)
  refine .inl ⟨tU _ _, (ab w b cap iw (aO.dM 0 b bL)).mono ?_⟩
  rintro ex aD ⟨rfl, n, os, hw⟩
  refine ⟨_, rfl, F, _, Gw (zs := []) (t := 1) he aO bL U nZ hr r8 hm (by simpa using hl) (by simpa using hw) rfl (by show Value.slice _ _ _ = _; rw [hl]) ?_⟩
  intro u hu
  rcases u with _ | _ | u
  ·exact .inr ⟨rfl, rfl⟩
  ·exact (hu rfl).elim
  ·exact .inl rfl
theorem aU.Oq {C : bZ} {f : FuncId} (he : One e enc) (tU : ∀ args w, (callFunc f args).run C.P w = .ok (.enter f args) w) (xs bT zs : List α) (hl : (bT ++ zs).length = xs.length)
  (bh : ∀ a w, Calls C.P f #[.slice a 0 0] w fun ex aD => ex = .returned (.slice a 0 0) ∧ aD = w)
  (ab : ∀ (w : World) (b cap : Nat), Holds enc w b 0 xs.toArray → b < w.heap.size → xs.length ≤ cap → cap ≤ maxLen → Calls C.P f #[.slice (some ⟨b, 0, none⟩) xs.length cap] w fun ex aD =>
   ex = .returned (.slice (some ⟨b, 0, none⟩) bT.length cap) ∧ ∃ n os, aD = Sort.grow (putRow enc (Sort.ahead w n) b 0 (bT ++ zs).toArray) os) :
  aU C f [.aE 1 (xs.map e)] (.aE 1 (bT.map e)) [.hole] := by
 intro w F X S vs nc aO
 obtain ⟨v, rfl⟩ : ∃ v, vs = [v] := by
  match vs, nc with
  | [v], _ => exact ⟨v, rfl⟩
 rcases GB (aO.da 0) with ⟨au, a, aK⟩ | ⟨b, cap, cur, mN, fr, aL, aK, bL, U, nZ, r8, hm, hr, gU⟩
 ·have aK : v = .slice a 0 0 := aK
  have au : xs = [] := by simpa using au
  subst aK au
  have bC : bT = [] := by
   have bG : bT ++ zs = [] := List.length_eq_zero_iff.1 hl
   exact (List.append_eq_nil_iff.1 bG).1
  subst bC
  refine .inl ⟨tU _ _, (bh a w).mono ?_⟩
  rintro ex aD ⟨rfl, rfl⟩
  refine ⟨_, rfl, F, _, GA aO fun u => ?_⟩
  rcases u with _ | _ | u
  ·exact .inr (.inr ⟨rfl, a, rfl⟩)
  ·exact .inl rfl
  ·exact .inl rfl
 ·have aK : v = .slice (some ⟨b, 0, none⟩) xs.length cap := by rw [List.length_map] at aK; exact aK
  subst aK
  simp only [List.length_map] at r8 gU
  have iw := Gy U nZ (by omega) (Gu he _ _ _ gU)
  refine .inl ⟨tU _ _, (ab w b cap iw (aO.dM 0 b bL) r8 hm).mono ?_⟩
  rintro ex aD ⟨rfl, n, os, hw⟩
  refine ⟨_, rfl, F, _, Gw (t := 0) he aO bL U nZ hr r8 hm hl hw rfl rfl ?_⟩
  intro u hu
  rcases u with _ | _ | u
  ·exact (hu rfl).elim
  ·exact .inl rfl
  ·exact .inl rfl
end
theorem GC {α : Type} [DecidableEq α] : ∀ (p : Option α) (l : List α), (jv p l).length ≤ l.length
 | _, [] => Nat.le_refl _
 | p, x :: r => by
   have := GC (some x) r
   simp only [jv]
   split <;> simp only [List.length_cons] <;> omega
theorem GD {α : Type} [Inhabited α] [DecidableEq α] (zs : List α) : Lib.compact zs = jv none zs := by
 have key : ∀ n i, i + n = zs.length → ((List.range' i n).filter (Lib.keeps zs.toArray)).map (zs.toArray[·]!) = jv (if i = 0 then none else some zs.toArray[i - 1]!) (zs.drop i) := by
  intro n
  induction n with
  | zero =>
    intro i ak
    rw [List.drop_of_length_le (by omega)]; rfl
  | succ n ih =>
    intro i ak
    have dQ : i < zs.length := by omega
    have au : zs.toArray[i]! = zs[i] := by rw [getElem!_pos _ i (by simpa using dQ)]; simp
    rw [List.range'_succ, List.drop_eq_getElem_cons dQ, List.filter_cons]
    have pJ := ih (i + 1) (by omega)
    rw [if_neg (by omega), Nat.add_sub_cancel, au] at pJ
    simp only [jv]
    by_cases bh : i = 0
    ·subst bh
     rw [if_pos (by simp [Lib.keeps]), List.map_cons, pJ, au]; simp
    ·rw [if_neg bh]
     by_cases he : zs.toArray[i - 1]! = zs[i]
     ·rw [if_neg (by simp [Lib.keeps, bh, au, he]), pJ, if_pos (by rw [he])]
     ·rw [if_pos (by simp only [Lib.keeps, au]; simp only [decide_eq_true_eq]; exact .inr (fun e => he e.symm)), List.map_cons, pJ, au, if_neg (by simpa using he)]
 have := key zs.length 0 (by omega)
 rw [if_pos rfl, List.drop_zero] at this
 rw [← this, Lib.compact, Lib.compactUpTo, List.range_eq_range']
end Go.cB
