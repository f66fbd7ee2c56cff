/- Part of a proof that a law returns true for every input. No condition. -/
import Derived.Test.YtbemmmimelklkaaUD2
namespace Go.Sh
open Go Go.Fw
theorem fill_spec (d : impl_Definition) (hd : d.Body.length ≤ 1048576) : ∀ (n at_ k : Nat) (s : impl_place) (out : List impl_place), out.length = d.Body.length → endI (d.Body.drop at_) 1 = some k → k ≤ n → 0 ≤ s.scope → s.scope + k ≤ 1000000 →
  impl_Definition_places_c1_r n (at_ : Int) s out d = some (((at_ + k : Nat) : Int), patch out at_ (placesS (d.Body.drop at_) [s]))
 | 0, at_, k, s, out, ho, he, hk, h0, h1 => by have := endI_le he; omega
 | n + 1, at_, k, s, out, ho, he, hk, h0, h1 => by
   have l := endI_le he
   rw [List.length_drop] at l
   have hi : at_ < d.Body.length := by omega
   rw [drop_cons _ at_ hi] at he ⊢
   obtain ⟨k', he', rfl⟩ := endI_cons.1 he
   simp only [Nat.zero_add] at he'
   have hf := flw_le d.Body[at_]
   have hch := fill_children (n := n) hd (fill_spec d hd n) (below d.Body[at_] s).scope d.Body[at_] (flw d.Body[at_]) hf (flw d.Body[at_]) 0 (at_ + 1) k' (patch out at_ [s])
   have hlen : (placesS (d.Body.drop (at_ + 1)) (List.replicate (flw d.Body[at_]) (below d.Body[at_] s) ++ [])).length = k' := by
    rw [List.append_nil]; exact placesS_len (by rw [List.length_replicate]; exact he')
   have hres : (at_ + 1 + k' : Nat) = at_ + (k' + 1) := by omega
   have hb : 0 ≤ (below d.Body[at_] s).scope ∧ (below d.Body[at_] s).scope + k' ≤ 1000000 := by
    unfold below; simp only; split <;> omega
   have key : (lim fun m => impl_Definition_places_c1_l20 (impl_Definition_places_c1_r n) d (below d.Body[at_] s).scope d.Body[at_] ((flw d.Body[at_] : Nat) : Int) m (List.set out (Int.toNat (at_ : Int)) s) (IntKind.i64.wrap ((at_ : Int) + 1)) 0) =
     some (((at_ + (k' + 1) : Nat) : Int), patch out at_ (placesS (d.Body[at_] :: d.Body.drop (at_ + 1)) [s])) := by
    refine lim_of (flw d.Body[at_] + 1) fun m hm => ?_
    rw [Int.toNat_natCast, patch_set (by omega), wsucc at_ _ hi (by omega)]
    have h := hch m (by omega) (by omega) (by rw [patch_len (by simp; omega), ho]) he' (by omega) hb.1 hb.2
    rw [show ((0 : Nat) : Int) = 0 from rfl] at h
    rw [h, hres]
    congr 2
    have hlX : (placesS (d.Body.drop (at_ + 1)) (List.replicate (flw d.Body[at_]) ⟨(below d.Body[at_] s).scope, d.Body[at_].Kind == 1⟩)).length = k' := placesS_len (by rw [List.length_replicate]; exact he')
    rw [patch_patch (i := at_) (a := [s]) (j := at_ + 1) rfl (by rw [hlX, List.length_singleton]; omega)]
    simp only [placesS, List.append_nil, List.singleton_append]
    rfl
   simp only [impl_Definition_places_c1_r, impl_Definition_places_c1_f]
   rw [getI_lt out at_ (by omega), getI_lt _ at_ hi]
   simp only [Option.bind_some, impl_Definition_places_c1_k14, impl_follow]
   by_cases h4 : d.Body[at_].Kind = 4
   ·have e : (d.Body[at_].Kind == 4) = true := by simpa using h4
    have e2 : (below d.Body[at_] s).scope = s.scope + 1 := by simp [below, h4]
    rw [e, cond_true, wsuccI s.scope h0 (by omega), ← e2]
    exact key
   ·have e : (d.Body[at_].Kind == 4) = false := by simpa using h4
    have e2 : (below d.Body[at_] s).scope = s.scope := by simp [below, h4]
    rw [e, cond_false]
    conv => lhs; rw [show s.scope = (below d.Body[at_] s).scope from e2.symm]
    exact key
theorem impl_places (d : impl_Definition) (hd : d.Body.length ≤ 1048576) (hs : endI d.Body 1 = some d.Body.length) (h0 : 0 ≤ d.Parameters) (h1 : d.Parameters + d.Body.length ≤ 1000000) :
  impl_Definition_places d = some (placesS d.Body [⟨d.Parameters, false⟩]) := by
 unfold impl_Definition_places
 rw [mkOk_small 16 hd (by decide)]
 simp only [Option.bind_some]
 have hlen : (placesS d.Body [⟨d.Parameters, false⟩]).length = d.Body.length := placesS_len (st := [_]) hs
 have : impl_Definition_places_c1 0 ⟨d.Parameters, false⟩ (List.replicate (Int.toNat (d.Body.length : Int)) ⟨0, false⟩) d = some ((d.Body.length : Int), placesS d.Body [⟨d.Parameters, false⟩]) := by
  unfold impl_Definition_places_c1
  refine lim_of d.Body.length fun m hm => ?_
  have := fill_spec d hd m 0 d.Body.length ⟨d.Parameters, false⟩ (List.replicate (Int.toNat (d.Body.length : Int)) ⟨0, false⟩) (by simp) (by simpa using hs) hm h0 h1
  rw [show ((0 : Nat) : Int) = 0 from rfl] at this
  rw [this, Nat.zero_add, List.drop_zero]
  congr 2
  unfold patch
  rw [Nat.zero_add, hlen, List.drop_of_length_le (by simp)]
  simp
 rw [this]; rfl
def overB (l : List impl_Part) (q : Nat) : Bool := match endI l 1 with
 | some e => decide (q < e)
 | none => false
def cntS : List impl_Part → Nat → Nat
 | [], _ => 0
 | _ :: _, 0 => 0
 | p :: r, q + 1 => (if p.Kind = 4 ∧ overB (p :: r) (q + 1) = true then 1 else 0) + cntS r q
theorem cntS_0 (l : List impl_Part) : cntS l 0 = 0 := by cases l <;> rfl
theorem cntS_le : ∀ (l : List impl_Part) (q : Nat), cntS l q ≤ q
 | [], q => by simp [cntS]
 | _ :: _, 0 => by simp [cntS]
 | p :: r, q + 1 => by
   have := cntS_le r q
   simp only [cntS]; split <;> omega
theorem spec_scope (d : impl_Definition) (hd : d.Body.length ≤ 1048576) (hs : endI d.Body 1 = some d.Body.length) (h0 : -1000000 ≤ d.Parameters ∧ d.Parameters ≤ 1000000) (q : Nat) (hq : q < d.Body.length) :
  spec_l05Scope d (q : Int) = some (d.Parameters + (cntS d.Body q : Nat)) := by
 unfold spec_l05Scope
 have key : ∀ i, i ≤ q → ∀ (c : Int) m, -1000000 ≤ c → c ≤ 1000000 + i → q - i < m → spec_l05Scope_l8 d (q : Int) m c (i : Int) = some (c + (cntS (d.Body.drop i) (q - i) : Nat)) := by
  refine down q ?_ ?_
  ·intro c m _ _ hm
   obtain ⟨m, rfl⟩ : ∃ j, m = j + 1 := ⟨m - 1, by omega⟩
   simp only [spec_l05Scope_l8, spec_l05Scope_b8]
   rw [ltF (Nat.le_refl _), Nat.sub_self, cntS_0]; simp
  ·intro i hi ih c m hc1 hc2 hm
   obtain ⟨m, rfl⟩ : ∃ j, m = j + 1 := ⟨m - 1, by omega⟩
   simp only [spec_l05Scope_l8, spec_l05Scope_b8]
   have hil : i < d.Body.length := by omega
   rw [ltT hi, getI_lt _ i hil]
   simp only [cond_true, Option.bind_some, spec_l05Scope_k22]
   obtain ⟨e, he1, he2, he3⟩ := endI_one hs hil
   rw [spec_end _ hd i e he1, wsucc i q hi (by omega)]
   simp only [Option.bind_some]
   have hcnt : cntS (d.Body.drop i) (q - i) = (if d.Body[i].Kind = 4 ∧ q < i + e then 1 else 0) + cntS (d.Body.drop (i + 1)) (q - (i + 1)) := by
    have he1' := he1
    rw [drop_cons _ i hil] at he1' ⊢
    rw [show q - i = (q - (i + 1)) + 1 by omega]
    simp only [cntS, overB, he1']
    congr 1
    by_cases hk : d.Body[i].Kind = 4
    ·by_cases hqe : q < i + e
     ·rw [if_pos ⟨hk, by simp; omega⟩, if_pos ⟨hk, hqe⟩]
     ·rw [if_neg (fun h => by simp at h; omega), if_neg (fun h => hqe h.2)]
    ·rw [if_neg (fun h => hk h.1), if_neg (fun h => hk h.1)]
   rw [hcnt]
   by_cases hk : d.Body[i].Kind = 4
   ·have ek : (d.Body[i].Kind == 4) = true := by simpa using hk
    rw [ek, cond_true]
    by_cases hqe : q < i + e
    ·rw [ltT hqe, cond_true, w64 (c + 1) (by omega), ih (c + 1) m (by omega) (by omega) (by omega), if_pos ⟨hk, hqe⟩]
     congr 1; omega
    ·rw [ltF (by omega), cond_false, ih c m hc1 (by omega) (by omega), if_neg (fun h => hqe h.2)]
     congr 1; omega
   ·have ek : (d.Body[i].Kind == 4) = false := by simpa using hk
    rw [ek, cond_false, ih c m hc1 (by omega) (by omega), if_neg (fun h => hk h.1)]
    congr 1; omega
 refine lim_of (q + 1) fun m hm => ?_
 have := key 0 (by omega) d.Parameters m (by omega) (by omega) (by omega)
 simpa using this
def treeOf : List impl_Part → List impl_place → Nat → Option impl_place
 | _, [], _ => none
 | l, s :: st, q => match endI l 1 with
   | none => none
   | some k => if q < k then some s else treeOf (l.drop k) st (q - k)
theorem treeOf_rep : ∀ (f : Nat) (r : List impl_Part) (b : impl_place) (st : List impl_place) (k q : Nat), endI r f = some k → treeOf r (List.replicate f b ++ st) q = if q < k then some b else treeOf (r.drop k) st (q - k)
 | 0, r, b, st, k, q, h => by rw [endI_0] at h; cases h; simp
 | f + 1, r, b, st, k, q, h => by
   rw [Nat.add_comm f 1] at h
   obtain ⟨k1, k2, h1, h2, rfl⟩ := endI_split h
   rw [List.replicate_succ, List.cons_append]
   simp only [treeOf, h1]
   by_cases hq : q < k1
   ·rw [if_pos hq, if_pos (by omega)]
   ·rw [if_neg hq, treeOf_rep f _ b st k2 (q - k1) h2]
    by_cases hq2 : q - k1 < k2
    ·rw [if_pos hq2, if_pos (by omega)]
    ·rw [if_neg hq2, if_neg (by omega), List.drop_drop, Nat.sub_sub]
theorem places_scope : ∀ (l : List impl_Part) (st : List impl_place) (k : Nat), endI l st.length = some k → ∀ q, q < k → ∃ s pl, treeOf l st q = some s ∧ (placesS l st)[q]? = some pl ∧ pl.scope = s.scope + (cntS l q : Nat)
 | [], [], k, h, q, hq => by simp only [List.length_nil, endI, Option.some.injEq] at h; omega
 | [], s :: st, k, h, q, hq => by simp [endI] at h
 | p :: r, [], k, h, q, hq => by simp only [List.length_nil, endI, Option.some.injEq] at h; omega
 | p :: r, s :: st, k, h, q, hq => by
   have h0 := h
   obtain ⟨k', h', rfl⟩ := endI_cons.1 h
   rw [List.length_cons, Nat.add_comm st.length 1] at h0
   obtain ⟨e, k2, he, hk2, hk⟩ := endI_split h0
   obtain ⟨e', he', rfl⟩ := endI_cons.1 he
   simp only [Nat.zero_add] at he'
   cases q with
   | zero =>
     refine ⟨s, s, ?_, rfl, ?_⟩
     ·simp only [treeOf, he]; rw [if_pos (by omega)]
     ·simp [cntS]
   | succ q =>
     have hl : endI r (List.replicate (flw p) (below p s) ++ st).length = some k' := by
      rw [List.length_append, List.length_replicate, Nat.add_comm]; exact h'
     obtain ⟨s', pl, h1, h2, h3⟩ := places_scope r _ k' hl q (by omega)
     rw [treeOf_rep _ _ _ _ e' q he'] at h1
     simp only [placesS, List.getElem?_cons_succ, treeOf, he, cntS, overB, decide_eq_true_eq]
     by_cases hqe : q < e'
     ·rw [if_pos hqe] at h1
      simp only [Option.some.injEq] at h1; subst h1
      refine ⟨s, pl, by rw [if_pos (by omega)], h2, ?_⟩
      rw [h3]
      by_cases hk4 : p.Kind = 4
      ·rw [if_pos ⟨hk4, by omega⟩]; simp only [below, if_pos hk4]; omega
      ·rw [if_neg (fun h => hk4 h.1)]; simp only [below, if_neg hk4]; omega
     ·rw [if_neg hqe] at h1
      refine ⟨s', pl, ?_, h2, ?_⟩
      ·rw [if_neg (by omega), List.drop_succ_cons, show q + 1 - (e' + 1) = q - e' by omega]; exact h1
      ·rw [h3, if_neg (fun h => by omega)]; omega
theorem flw_kind {p : impl_Part} (h : flw p = 0) : (p.Kind == 1) = false := by
 unfold flw at h
 split at h
 ·omega
 ·rename_i hn; simp only [beq_eq_false_iff_ne]; exact fun e => hn (.inl e)
theorem flw_kind2 {p : impl_Part} (h : flw p = 2) : (p.Kind == 1) = false := by
 unfold flw at h
 split at h
 ·omega
 ·rename_i hn; simp only [beq_eq_false_iff_ne]; exact fun e => hn (.inl e)
def behAt (b : List impl_Part) : Nat → Bool
 | 0 => false
 | q + 1 => match b[q]? with
   | some p => p.Kind == 1
   | none => false
theorem places_behind : ∀ (l : List impl_Part) (st : List impl_place), (∀ s ∈ st.tail, s.behind = false) → ∀ (q : Nat) (pl : impl_place), (placesS l st)[q]? = some pl →
  pl.behind = match q with
   | 0 => match st with
     | s :: _ => s.behind
     | [] => false
   | q + 1 => match l[q]? with
     | some p => p.Kind == 1
     | none => false
 | [], st, _, q, pl, h => by simp [placesS] at h
 | p :: r, [], _, q, pl, h => by simp [placesS] at h
 | p :: r, s :: st, hst, q, pl, h => by
   cases q with
   | zero => simp only [placesS, List.getElem?_cons_zero, Option.some.injEq] at h; subst h; rfl
   | succ q =>
     simp only [placesS, List.getElem?_cons_succ] at h
     have hst2 : ∀ s' ∈ (List.replicate (flw p) (below p s) ++ st).tail, s'.behind = false := by
      intro s' hs'
      have hf := flw_le p
      rcases (by omega : flw p = 0 ∨ flw p = 1 ∨ flw p = 2) with hf | hf | hf
      ·rw [hf] at hs'; simp only [List.replicate_zero, List.nil_append] at hs'
       exact hst s' (by simpa using List.mem_of_mem_tail hs')
      ·rw [hf] at hs'; simp only [List.replicate_succ, List.replicate_zero, List.cons_append, List.nil_append, List.tail_cons] at hs'
       exact hst s' (by simpa using hs')
      ·rw [hf] at hs'; simp only [List.replicate_succ, List.replicate_zero, List.cons_append, List.nil_append, List.tail_cons, List.mem_cons] at hs'
       rcases hs' with rfl | hs'
       ·exact flw_kind2 hf
       ·exact hst s' (by simpa using hs')
     have ih := places_behind r _ hst2 q pl h
     rw [ih]
     cases q with
     | succ q => rfl
     | zero =>
       simp only [List.getElem?_cons_zero]
       have hf := flw_le p
       rcases (by omega : flw p = 0 ∨ flw p = 1 ∨ flw p = 2) with hf | hf | hf
       ·rw [hf, flw_kind hf]
        simp only [List.replicate_zero, List.nil_append]
        cases st with
        | nil => rfl
        | cons s2 st => exact hst s2 (by simp)
       ·rw [hf]; rfl
       ·rw [hf]; rfl
theorem places_behind1 (l : List impl_Part) (s : impl_place) (hs : s.behind = false) (q : Nat) (pl : impl_place) (h : (placesS l [s])[q]? = some pl) : pl.behind = behAt l q := by
 rw [places_behind l [s] (fun s hs => by simp at hs) q pl h]
 cases q with
 | zero => exact hs
 | succ q => rfl
end Go.Sh
