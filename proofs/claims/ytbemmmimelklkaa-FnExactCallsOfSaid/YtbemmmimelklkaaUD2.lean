/- Part of a proof that a law returns true for every input. No condition. -/
import Derived.Test.YtbemmmimelklkaaUD1
namespace Go.Sh
open Go Go.Fw
def below (p : impl_Part) (s : impl_place) : impl_place := ⟨if p.Kind = 4 then s.scope + 1 else s.scope, p.Kind == 1⟩
def placesS : List impl_Part → List impl_place → List impl_place
 | [], _ => []
 | _ :: _, [] => []
 | p :: r, s :: st => s :: placesS r (List.replicate (flw p) (below p s) ++ st)
theorem placesS_nil (l : List impl_Part) : placesS l [] = [] := by cases l <;> rfl
theorem placesS_len : ∀ {l : List impl_Part} {st : List impl_place} {k : Nat}, endI l st.length = some k → (placesS l st).length = k
 | [], [], k, h => by simp only [List.length_nil, endI, Option.some.injEq] at h; subst h; rfl
 | [], s :: st, k, h => by simp [endI] at h
 | p :: r, [], k, h => by simp only [List.length_nil, endI, Option.some.injEq] at h; subst h; rfl
 | p :: r, s :: st, k, h => by
   obtain ⟨k', h', rfl⟩ := endI_cons.1 h
   simp only [placesS, List.length_cons]
   rw [placesS_len (k := k') (by rw [List.length_append, List.length_replicate, Nat.add_comm]; exact h')]
theorem placesS_append : ∀ {l : List impl_Part} {s1 s2 : List impl_place} {k : Nat}, endI l s1.length = some k → placesS l (s1 ++ s2) = placesS l s1 ++ placesS (l.drop k) s2
 | [], [], s2, k, h => by simp only [List.length_nil, endI, Option.some.injEq] at h; subst h; rfl
 | [], s :: st, s2, k, h => by simp [endI] at h
 | p :: r, [], s2, k, h => by simp only [List.length_nil, endI, Option.some.injEq] at h; subst h; simp [placesS]
 | p :: r, s :: st, s2, k, h => by
   obtain ⟨k', h', rfl⟩ := endI_cons.1 h
   simp only [placesS, List.cons_append, List.drop_succ_cons]
   rw [← List.append_assoc, placesS_append (k := k') (by rw [List.length_append, List.length_replicate, Nat.add_comm]; exact h')]
def patch (out : List impl_place) (i : Nat) (new : List impl_place) : List impl_place := out.take i ++ (new ++ out.drop (i + new.length))
theorem patch_nil (out : List impl_place) (i : Nat) : patch out i [] = out := by simp [patch]
theorem patch_len {out : List impl_place} {i : Nat} {new : List impl_place} (h : i + new.length ≤ out.length) : (patch out i new).length = out.length := by
 simp [patch]; omega
theorem patch_patch {out : List impl_place} {i j : Nat} {a b : List impl_place} (hj : j = i + a.length) (h : i + a.length + b.length ≤ out.length) : patch (patch out i a) j b = patch out i (a ++ b) := by
 subst hj
 unfold patch
 have e1 : (out.take i).length = i := by rw [List.length_take]; omega
 have t1 : (out.take i ++ (a ++ out.drop (i + a.length))).take (i + a.length) = out.take i ++ a := by
  rw [← List.append_assoc, List.take_left' (by rw [List.length_append, e1])]
 have t2 : (out.take i ++ (a ++ out.drop (i + a.length))).drop (i + a.length + b.length) = out.drop (i + a.length + b.length) := by
  rw [← List.append_assoc, ← List.drop_drop, List.drop_left' (by rw [List.length_append, e1]), List.drop_drop]
 rw [t1, t2]
 simp only [List.append_assoc, List.length_append, Nat.add_assoc]
theorem patch_set {out : List impl_place} {i : Nat} {s : impl_place} (h : i < out.length) : out.set i s = patch out i [s] := by
 unfold patch
 apply List.ext_getElem?
 intro j
 rw [List.getElem?_set]
 rcases Nat.lt_trichotomy i j with hij | hij | hij
 ·rw [if_neg (by omega), List.getElem?_append_right (by simp; omega)]
  have e1 : (out.take i).length = i := by simp; omega
  rw [e1]
  obtain ⟨d, rfl⟩ : ∃ d, j = i + (d + 1) := ⟨j - i - 1, by omega⟩
  rw [show i + (d + 1) - i = d + 1 by omega]
  simp only [List.singleton_append, List.getElem?_cons_succ, List.length_singleton, List.getElem?_drop]
  congr 1; omega
 ·subst hij
  rw [if_pos rfl, if_pos h, List.getElem?_append_right (by simp; omega)]
  have e1 : (out.take i).length = i := by simp; omega
  rw [e1]; simp
 ·rw [if_neg (by omega), List.getElem?_append_left (by simp; omega), List.getElem?_take, if_pos hij]
theorem wsuccI (n : Int) (h : 0 ≤ n) (h2 : n ≤ 1000000) : IntKind.i64.wrap (n + 1) = n + 1 := w64 _ (by omega)
theorem fill_children {rec : Int → impl_place → List impl_place → impl_Definition → Option (Int × List impl_place)} {d : impl_Definition} {n : Nat} (hd : d.Body.length ≤ 1048576)
  (hrec : ∀ (at_ k : Nat) (s : impl_place) (out : List impl_place), out.length = d.Body.length → endI (d.Body.drop at_) 1 = some k → k ≤ n → 0 ≤ s.scope → s.scope + k ≤ 1000000 →
   rec (at_ : Int) s out d = some (((at_ + k : Nat) : Int), patch out at_ (placesS (d.Body.drop at_) [s])))
  (sc : Int) (p : impl_Part) (f : Nat) (hf : f ≤ 2) : ∀ (c j at_ k : Nat) (out : List impl_place) (m : Nat), j + c = f → c < m → out.length = d.Body.length → endI (d.Body.drop at_) c = some k → k ≤ n → 0 ≤ sc → sc + k ≤ 1000000 →
   impl_Definition_places_c1_l20 rec d sc p (f : Int) m out (at_ : Int) (j : Int) = some (((at_ + k : Nat) : Int), patch out at_ (placesS (d.Body.drop at_) (List.replicate c ⟨sc, p.Kind == 1⟩)))
 | 0, j, at_, k, out, m, hj, hm, ho, he, hk, h0, h1 => by
   obtain ⟨m, rfl⟩ : ∃ i, m = i + 1 := ⟨m - 1, by omega⟩
   rw [endI_0] at he; cases he
   simp only [impl_Definition_places_c1_l20, impl_Definition_places_c1_b20]
   rw [ltF (by omega)]
   simp [placesS_nil, patch_nil]
 | c + 1, j, at_, k, out, m, hj, hm, ho, he, hk, h0, h1 => by
   obtain ⟨m, rfl⟩ : ∃ i, m = i + 1 := ⟨m - 1, by omega⟩
   rw [Nat.add_comm c 1] at he
   obtain ⟨k1, k2, e1, e2, rfl⟩ := endI_split he
   have l1 := endI_le e1
   have l2 := endI_le e2
   rw [List.length_drop] at l1
   rw [List.drop_drop, List.length_drop] at l2
   have hlen : (placesS (d.Body.drop at_) [⟨sc, p.Kind == 1⟩]).length = k1 := placesS_len (st := [_]) e1
   simp only [impl_Definition_places_c1_l20, impl_Definition_places_c1_b20]
   rw [ltT (by omega), hrec at_ k1 _ out ho e1 (by omega) h0 (by show sc + (k1 : Int) ≤ _; omega), wsucc j f (by omega) (by omega)]
   simp only [cond_true, Option.bind_some]
   have hpl : (patch out at_ (placesS (d.Body.drop at_) [⟨sc, p.Kind == 1⟩])).length = d.Body.length := by
    rw [patch_len (by rw [hlen]; omega), ho]
   rw [List.drop_drop] at e2
   rw [fill_children hd hrec sc p f hf c (j + 1) (at_ + k1) k2 _ m (by omega) (by omega) hpl e2 (by omega) h0 (by omega)]
   have hlen2 : (placesS (d.Body.drop (at_ + k1)) (List.replicate c ⟨sc, p.Kind == 1⟩)).length = k2 := placesS_len (by rw [List.length_replicate]; exact e2)
   have hcat : placesS (d.Body.drop at_) (List.replicate (c + 1) ⟨sc, p.Kind == 1⟩) = placesS (d.Body.drop at_) [⟨sc, p.Kind == 1⟩] ++ placesS (d.Body.drop (at_ + k1)) (List.replicate c ⟨sc, p.Kind == 1⟩) := by
    rw [List.replicate_succ, ← List.singleton_append, placesS_append (k := k1) (s1 := [_]) e1, List.drop_drop]
   rw [hcat, patch_patch (by rw [hlen]) (by rw [hlen, hlen2]; omega), Nat.add_assoc]
end Go.Sh
