/- Part of a proof that a law returns true for every input. No condition. -/
import Derived.Test.YtobljppjkklojaaFwI
import Derived.Sort.Grow
import Derived.Lib.SlicesCompact
namespace Go.Fw
open Go.Sort
section
variable {α : Type} {e : α → AV} {enc : α → Value}
def One (e : α → AV) (enc : α → Value) : Prop := (∀ x, (e x).wd = 1) ∧ ∀ (w : World) (F : Nat → Prop) (x : α) (cs : List Value) (S : Nat → Prop), RV w F (e x) cs S ↔ cs = [enc x]
theorem one_rvs (he : One e enc) {w : World} {F : Nat → Prop} : ∀ (xs : List α) (cs : List Value) (S : Nat → Prop), RVs w F (xs.map e) cs S → cs = xs.map enc := by
 intro xs
 induction xs with
 | nil => intro cs S h; simpa [RVs] using h
 | cons x xs ih =>
   intro cs S h
   simp only [List.map_cons, RVs] at h
   obtain ⟨c1, c2, S1, S2, rfl, h1, h2, _⟩ := h
   rw [(he.2 _ _ _ _ _).1 h1, ih _ _ h2]; rfl
theorem rvs_one (he : One e enc) {w : World} {F : Nat → Prop} : ∀ (xs : List α), RVs w F (xs.map e) (xs.map enc) (fun _ => False) := by
 intro xs
 induction xs with
 | nil => simp [RVs]
 | cons x xs ih =>
   simp only [List.map_cons, RVs]
   exact ⟨[enc x], xs.map enc, _, _, rfl, (he.2 _ _ _ _ _).2 rfl, ih, fun _ h => h, fun _ h => h, fun _ h => h.elim⟩
theorem heap_grow (w : World) (os : Array Obj) {c : Nat} (h : c < w.heap.size) : (Sort.grow w os).heap[c]? = w.heap[c]? := by
 simp only [Sort.grow, Array.getElem?_append, h, if_true]
variable [Inhabited α]
theorem row_after (he : One e enc) {w : World} {F X : Nat → Prop} {S : Nat → Nat → Prop} {s : St} {tm : Nat → Value} (h : RelX w F X F S s tm w)
  {b cap : Nat} {cur : Array Value} {et : TypeId} {fr : Nat × Nat} {xs ys zs : List α} (hS : S 0 b) (hb : w.heap[b]? = some (.cells cur et fr)) (hfr : nofrz fr cur.size) (hcap : cur.size = cap) (hxs : xs.length ≤ cap) (hm : cap ≤ maxLen)
  (hl : (ys ++ zs).length = xs.length) {n : Nat} {os : Array Obj} {w' : World} (hw : w' = Sort.grow (putRow enc (Sort.ahead w n) b 0 (ys ++ zs).toArray) os) {s' : St} {tm' : Nat → Value} {t : Nat}
  (ht : s' t = .uslice 1 (ys.map e)) (hv : tm' t = .slice (some ⟨b, 0, none⟩) ys.length cap) (ho : ∀ u, u ≠ t → s' u = .hole ∨ (s' u = .tuple [] ∧ tm' u = .tuple #[])) :
  RelX w F X F (fun u c => u = t ∧ c = b) s' tm' w' := by
 have hblt := h.Slt 0 b hS
 have hsz : (putRow enc (Sort.ahead w n) b 0 (ys ++ zs).toArray).heap.size = w.heap.size := size_putRow ..
 have hsz' : w.heap.size ≤ w'.heap.size := by rw [hw, size_grow, hsz]; omega
 have hoth : ∀ c, c < w.heap.size → c ≠ b → w'.heap[c]? = w.heap[c]? := by
  intro c hc hne
  rw [hw, heap_grow _ _ (by rw [hsz]; exact hc)]
  simp only [putRow, mapBlock, Array.getElem?_modify, if_neg (Ne.symm hne)]
  rfl
 have hown : w'.heap[b]? = some (.cells (putCells enc 0 (ys ++ zs).toArray cur) et fr) := by
  rw [hw, heap_grow _ _ (by rw [hsz]; exact hblt)]
  simp only [putRow, mapBlock, Array.getElem?_modify, if_true]
  rw [show (Sort.ahead w n).heap = w.heap from rfl, hb]
  rfl
 have hput : (putCells enc 0 (ys ++ zs).toArray cur).toList.take ys.length = ys.map enc := by
  apply List.ext_getElem?
  intro k
  simp only [putCells, List.getElem?_take, Array.getElem?_toList, Array.getElem?_mapIdx, List.getElem?_map]
  have hlen : ys.length + zs.length = xs.length := by simpa using hl
  by_cases hk : k < ys.length
  ·rw [if_pos hk, Array.getElem?_eq_getElem (by omega), List.getElem?_eq_getElem hk]
   simp only [Option.map_some]
   rw [if_pos (by simp; omega)]
   simp only [Nat.sub_zero]
   rw [getElem!_pos _ k (by simp; omega)]
   simp [hk]
  ·rw [if_neg hk, List.getElem?_eq_none (by omega)]; rfl
 exact {
  F0F := fun _ h => h
  FF0 := fun b hF => .inl hF
  Flt := fun c hc => Nat.lt_of_lt_of_le (h.Flt c hc) hsz'
  Slt := fun u c hc => by rw [hc.2]; omega
  SF := fun u c hc hF => by rw [hc.2] at hF; exact h.SF 0 b hS hF
  SS := fun u x c hne hu hx => hne (hu.1.trans hx.1.symm)
  S0 := fun u c hc => by rw [hc.2]; exact h.S0 0 b hS
  sv := fun u => by
   by_cases hu : u = t
   ·subst hu
    rw [ht, hv]
    refine (SV.of_tree rfl).2 ⟨rfl, ?_⟩
    rw [RV]
    right
    refine ⟨b, cap, _, et, fr, fun _ => False, ?_, ⟨rfl, rfl⟩, hown, ?_, ?_, hm, ?_, ?_, ?_, fun _ h => h.elim, fun h => h⟩
    ·simp [vc, vc1]
    ·simpa [putCells] using hfr
    ·simp at hl ⊢; omega
    ·simpa [putCells] using hcap
    ·intro d hd
     obtain ⟨x, _, rfl⟩ := List.mem_map.1 hd
     exact he.1 x
    ·rw [List.length_map, Nat.mul_one, hput]; exact rvs_one he ys
   ·rcases ho u hu with h1 | ⟨h1, h2⟩
    ·rw [h1, SV]; trivial
    ·rw [h1, h2]
     refine (SV.of_tree rfl).2 ⟨⟨#[], rfl, rfl, fun k d x hd => by simp at hd⟩, ?_⟩
     rw [RV, RVs]; rfl
  old := fun c hc hX => hoth c hc (fun hcb => by
   rcases h.S0 0 b hS with h1 | h1
   ·exact hX (hcb ▸ h1)
   ·omega)
  size := hsz'
  os := by rw [hw]; rfl
  tape := by rw [hw]; rfl
  output := by rw [hw]; rfl }
theorem row_holds {w : World} {b : Nat} {cur : Array Value} {et : TypeId} {fr : Nat × Nat} {xs : List α} (hb : w.heap[b]? = some (.cells cur et fr)) (hfr : nofrz fr cur.size)
  (hl : xs.length ≤ cur.size) (hc : cur.toList.take xs.length = xs.map enc) : Holds enc w b 0 xs.toArray := by
 intro j hj
 have hj' : j < xs.length := by simpa using hj
 constructor
 ·have h1 : (cur.toList.take xs.length)[j]? = some (enc xs[j]) := by rw [hc, List.getElem?_map, List.getElem?_eq_getElem hj']; rfl
  rw [List.getElem?_take, if_pos hj'] at h1
  simp only [World.cell?, hb, Nat.zero_add]
  rw [getElem!_pos _ j hj]
  simpa using h1
 ·simp only [World.frozen?, hb, Nat.zero_add]
  have := hfr j (by omega)
  simpa using this
theorem none_after {w : World} {F X : Nat → Prop} {S : Nat → Nat → Prop} {s : St} {tm : Nat → Value} (h : RelX w F X F S s tm w) {s' : St} {tm' : Nat → Value}
  (ho : ∀ u, s' u = .hole ∨ (s' u = .tuple [] ∧ tm' u = .tuple #[]) ∨ (s' u = .uslice 1 [] ∧ ∃ a, tm' u = .slice a 0 0)) : RelX w F X F (fun _ _ => False) s' tm' w where
 F0F := fun _ h => h
 FF0 := fun _ hF => .inl hF
 Flt := h.Flt
 Slt := fun _ _ h => h.elim
 SF := fun _ _ h => h.elim
 SS := fun _ _ _ _ h => h.elim
 S0 := fun _ _ h => h.elim
 sv := fun u => by
  rcases ho u with h1 | ⟨h1, h2⟩ | ⟨h1, a, h2⟩
  ·rw [h1, SV]; trivial
  ·rw [h1, h2]
   refine (SV.of_tree rfl).2 ⟨⟨#[], rfl, rfl, fun k d x hd => by simp at hd⟩, ?_⟩
   rw [RV, RVs]; rfl
  ·rw [h1, h2]
   refine (SV.of_tree rfl).2 ⟨rfl, ?_⟩
   rw [RV]
   exact .inl ⟨rfl, a, by simp [vc, vc1]⟩
 old := h.old
 size := h.size
 os := h.os
 tape := h.tape
 output := h.output
theorem sv_uslice {w : World} {F : Nat → Prop} {s : St} {tm : Nat → Value} {xs : List AV} {v : Value} {S : Nat → Prop} (h : SV w F s tm (.uslice 1 xs) v S) :
  (xs = [] ∧ ∃ a, v = .slice a 0 0) ∨ ∃ b cap cur et fr S', v = .slice (some ⟨b, 0, none⟩) xs.length cap ∧ S b ∧ w.heap[b]? = some (.cells cur et fr) ∧ nofrz fr cur.size ∧
      xs.length ≤ cap ∧ cap ≤ maxLen ∧ cur.size = cap ∧ RVs w F xs (cur.toList.take xs.length) S' := by
 obtain ⟨h1, h2⟩ := (SV.of_tree rfl).1 h
 have hv : vc v = [v] := by
  cases v <;> first | rfl | (cases h1)
 rw [hv, RV] at h2
 rcases h2 with ⟨h3, a, h4⟩ | ⟨b, cap, cur, et, fr, S', h3, h4, h5, h6, h7, h8, h9, h10, h11, _⟩
 ·left; exact ⟨h3, a, by simpa using h4⟩
 ·right; exact ⟨b, cap, cur, et, fr, S', by simpa using h3, h4, h5, h6, h7, h8, by simpa using h9, by simpa using h11⟩
theorem OkAt.inplace {C : Cx} {f : FuncId} (he : One e enc) (hent : ∀ args w, (callFunc f args).run C.P w = .ok (.enter f args) w) (xs ys : List α) (hl : ys.length = xs.length)
  (h0 : ∀ a w, Calls C.P f #[.slice a 0 0] w fun ex w' => ex = .returned (.tuple #[]) ∧ w' = w)
  (h1 : ∀ (w : World) (b cap : Nat), Holds enc w b 0 xs.toArray → b < w.heap.size → Calls C.P f #[.slice (some ⟨b, 0, none⟩) xs.length cap] w fun ex w' =>
   ex = .returned (.tuple #[]) ∧ ∃ n os, w' = Sort.grow (putRow enc (Sort.ahead w n) b 0 ys.toArray) os) :
  OkAt C f [.uslice 1 (xs.map e)] (.tuple []) [.uslice 1 (ys.map e)] := by
 intro w F X S vs hvl hr
 obtain ⟨v, rfl⟩ : ∃ v, vs = [v] := by
  match vs, hvl with
  | [v], _ => exact ⟨v, rfl⟩
 rcases sv_uslice (hr.sv 0) with ⟨hx, a, hv⟩ | ⟨b, cap, cur, et, fr, S', hv, hS, hb, hfr, hxc, hm, hcs, hrv⟩
 ·have hv : v = .slice a 0 0 := hv
  have hx : xs = [] := by simpa using hx
  subst hv hx
  have hy : ys = [] := List.length_eq_zero_iff.1 hl
  subst hy
  refine .inl ⟨hent _ _, (h0 a w).mono ?_⟩
  rintro ex w' ⟨rfl, rfl⟩
  refine ⟨_, rfl, F, _, none_after hr fun u => ?_⟩
  rcases u with _ | _ | u
  ·exact .inr (.inl ⟨rfl, rfl⟩)
  ·exact .inr (.inr ⟨rfl, a, rfl⟩)
  ·exact .inl rfl
 ·have hv : v = .slice (some ⟨b, 0, none⟩) xs.length cap := by rw [List.length_map] at hv; exact hv
  subst hv
  simp only [List.length_map] at hxc hrv
  have hH := row_holds hb hfr (by omega) (one_rvs he _ _ _ hrv)
  refine .inl ⟨hent _ _, (h1 w b cap hH (hr.Slt 0 b hS)).mono ?_⟩
  rintro ex w' ⟨rfl, n, os, hw⟩
  refine ⟨_, rfl, F, _, row_after (zs := []) (t := 1) he hr hS hb hfr hcs hxc hm (by simpa using hl) (by simpa using hw) rfl (by show Value.slice _ _ _ = _; rw [hl]) ?_⟩
  intro u hu
  rcases u with _ | _ | u
  ·exact .inr ⟨rfl, rfl⟩
  ·exact (hu rfl).elim
  ·exact .inl rfl
theorem OkAt.shorter {C : Cx} {f : FuncId} (he : One e enc) (hent : ∀ args w, (callFunc f args).run C.P w = .ok (.enter f args) w) (xs ys zs : List α) (hl : (ys ++ zs).length = xs.length)
  (h0 : ∀ a w, Calls C.P f #[.slice a 0 0] w fun ex w' => ex = .returned (.slice a 0 0) ∧ w' = w)
  (h1 : ∀ (w : World) (b cap : Nat), Holds enc w b 0 xs.toArray → b < w.heap.size → xs.length ≤ cap → cap ≤ maxLen → Calls C.P f #[.slice (some ⟨b, 0, none⟩) xs.length cap] w fun ex w' =>
   ex = .returned (.slice (some ⟨b, 0, none⟩) ys.length cap) ∧ ∃ n os, w' = Sort.grow (putRow enc (Sort.ahead w n) b 0 (ys ++ zs).toArray) os) :
  OkAt C f [.uslice 1 (xs.map e)] (.uslice 1 (ys.map e)) [.hole] := by
 intro w F X S vs hvl hr
 obtain ⟨v, rfl⟩ : ∃ v, vs = [v] := by
  match vs, hvl with
  | [v], _ => exact ⟨v, rfl⟩
 rcases sv_uslice (hr.sv 0) with ⟨hx, a, hv⟩ | ⟨b, cap, cur, et, fr, S', hv, hS, hb, hfr, hxc, hm, hcs, hrv⟩
 ·have hv : v = .slice a 0 0 := hv
  have hx : xs = [] := by simpa using hx
  subst hv hx
  have hy : ys = [] := by
   have hz : ys ++ zs = [] := List.length_eq_zero_iff.1 hl
   exact (List.append_eq_nil_iff.1 hz).1
  subst hy
  refine .inl ⟨hent _ _, (h0 a w).mono ?_⟩
  rintro ex w' ⟨rfl, rfl⟩
  refine ⟨_, rfl, F, _, none_after hr fun u => ?_⟩
  rcases u with _ | _ | u
  ·exact .inr (.inr ⟨rfl, a, rfl⟩)
  ·exact .inl rfl
  ·exact .inl rfl
 ·have hv : v = .slice (some ⟨b, 0, none⟩) xs.length cap := by rw [List.length_map] at hv; exact hv
  subst hv
  simp only [List.length_map] at hxc hrv
  have hH := row_holds hb hfr (by omega) (one_rvs he _ _ _ hrv)
  refine .inl ⟨hent _ _, (h1 w b cap hH (hr.Slt 0 b hS) hxc hm).mono ?_⟩
  rintro ex w' ⟨rfl, n, os, hw⟩
  refine ⟨_, rfl, F, _, row_after (t := 0) he hr hS hb hfr hcs hxc hm hl hw rfl rfl ?_⟩
  intro u hu
  rcases u with _ | _ | u
  ·exact (hu rfl).elim
  ·exact .inl rfl
  ·exact .inl rfl
end
theorem cpt_len {α : Type} [DecidableEq α] : ∀ (p : Option α) (l : List α), (cpt p l).length ≤ l.length
 | _, [] => Nat.le_refl _
 | p, x :: r => by
   have := cpt_len (some x) r
   simp only [cpt]
   split <;> simp only [List.length_cons] <;> omega
theorem cpt_eq {α : Type} [Inhabited α] [DecidableEq α] (zs : List α) : Lib.compact zs = cpt none zs := by
 have key : ∀ n i, i + n = zs.length → ((List.range' i n).filter (Lib.keeps zs.toArray)).map (zs.toArray[·]!) = cpt (if i = 0 then none else some zs.toArray[i - 1]!) (zs.drop i) := by
  intro n
  induction n with
  | zero =>
    intro i hi
    rw [List.drop_of_length_le (by omega)]; rfl
  | succ n ih =>
    intro i hi
    have hlt : i < zs.length := by omega
    have hx : zs.toArray[i]! = zs[i] := by rw [getElem!_pos _ i (by simpa using hlt)]; simp
    rw [List.range'_succ, List.drop_eq_getElem_cons hlt, List.filter_cons]
    have hi' := ih (i + 1) (by omega)
    rw [if_neg (by omega), Nat.add_sub_cancel, hx] at hi'
    simp only [cpt]
    by_cases h0 : i = 0
    ·subst h0
     rw [if_pos (by simp [Lib.keeps]), List.map_cons, hi', hx]; simp
    ·rw [if_neg h0]
     by_cases he : zs.toArray[i - 1]! = zs[i]
     ·rw [if_neg (by simp [Lib.keeps, h0, hx, he]), hi', if_pos (by rw [he])]
     ·rw [if_pos (by simp only [Lib.keeps, hx]; simp only [decide_eq_true_eq]; exact .inr (fun e => he e.symm)), List.map_cons, hi', hx, if_neg (by simpa using he)]
 have := key zs.length 0 (by omega)
 rw [if_pos rfl, List.drop_zero] at this
 rw [← this, Lib.compact, Lib.compactUpTo, List.range_eq_range']
end Go.Fw
