/- Part of a proof that a law returns true for every input. No condition. -/
import Derived.Test.YtbemmmimelklkaaGreatUD1
namespace Go.fJ
open Go Go.dg
def below (p : bx) (s : cg) : cg := ⟨if p.Kind = 4 then s.scope + 1 else s.scope, p.Kind == 1⟩
def gb : List bx → List cg → List cg
 | [], _ => []
 | _ :: _, [] => []
 | p :: r, s :: st => s :: gb r (List.replicate (eE p) (below p s) ++ st)
theorem atw (l : List bx) : gb l [] = [] := by cases l <;> rfl
theorem s_ : ∀ {l : List bx} {st : List cg} {k : Nat}, eg l st.length = some k → (gb l st).length = k
 | [], [], k, h => by simp only [List.length_nil, eg, Option.some.injEq] at h; subst h; rfl
 | [], s :: st, k, h => by simp [eg] at h
 | p :: r, [], k, h => by simp only [List.length_nil, eg, Option.some.injEq] at h; subst h; rfl
 | p :: r, s :: st, k, h => by
   obtain ⟨dd, bB, rfl⟩ := oF.1 h
   simp only [gb, List.length_cons]
   rw [s_ (k := dd) (by rw [List.length_append, List.length_replicate, Nat.add_comm]; exact bB)]
theorem M6 : ∀ {l : List bx} {s1 s2 : List cg} {k : Nat}, eg l s1.length = some k → gb l (s1 ++ s2) = gb l s1 ++ gb (l.drop k) s2
 | [], [], s2, k, h => by simp only [List.length_nil, eg, Option.some.injEq] at h; subst h; rfl
 | [], s :: st, s2, k, h => by simp [eg] at h
 | p :: r, [], s2, k, h => by simp only [List.length_nil, eg, Option.some.injEq] at h; subst h; simp [gb]
 | p :: r, s :: st, s2, k, h => by
   obtain ⟨dd, bB, rfl⟩ := oF.1 h
   simp only [gb, List.cons_append, List.drop_succ_cons]
   rw [← List.append_assoc, M6 (k := dd) (by rw [List.length_append, List.length_replicate, Nat.add_comm]; exact bB)]
def patch (out : List cg) (i : Nat) (new : List cg) : List cg := out.take i ++ (new ++ out.drop (i + new.length))
theorem atx (out : List cg) (i : Nat) : patch out i [] = out := by simp [patch]
theorem M7 {out : List cg} {i : Nat} {new : List cg} (h : i + new.length ≤ out.length) : (patch out i new).length = out.length := by
 simp [patch]; omega
theorem M8 {out : List cg} {i j : Nat} {a b : List cg} (cx : j = i + a.length) (h : i + a.length + b.length ≤ out.length) : patch (patch out i a) j b = patch out i (a ++ b) := by
 subst cx
 unfold patch
 have a4 : (out.take i).length = i := by rw [List.length_take]; omega
 have t1 : (out.take i ++ (a ++ out.drop (i + a.length))).take (i + a.length) = out.take i ++ a := by
  rw [← List.append_assoc, List.take_left' (by rw [List.length_append, a4])]
 have t2 : (out.take i ++ (a ++ out.drop (i + a.length))).drop (i + a.length + b.length) = out.drop (i + a.length + b.length) := by
  rw [← List.append_assoc, ← List.drop_drop, List.drop_left' (by rw [List.length_append, a4]), List.drop_drop]
 rw [t1, t2]
 simp only [List.append_assoc, List.length_append, Nat.add_assoc]
theorem aty {out : List cg} {i : Nat} {s : cg} (h : i < out.length) : out.set i s = patch out i [s] := by
 unfold patch
 apply List.ext_getElem?
 intro j
 rw [List.getElem?_set]
 rcases Nat.lt_trichotomy i j with Co | Co | Co
 ·rw [if_neg (by omega), List.getElem?_append_right (by simp; omega)]
  have a4 : (out.take i).length = i := by simp; omega
  rw [a4]
  obtain ⟨d, rfl⟩ : ∃ d, j = i + (d + 1) := ⟨j - i - 1, by omega⟩
  rw [show i + (d + 1) - i = d + 1 by omega]
  simp only [List.singleton_append, List.getElem?_cons_succ, List.length_singleton, List.getElem?_drop]
  congr 1; omega
 ·subst Co
  rw [if_pos rfl, if_pos h, List.getElem?_append_right (by simp; omega)]
  have a4 : (out.take i).length = i := by simp; omega
  rw [a4]; simp
 ·rw [if_neg (by omega), List.getElem?_append_left (by simp; omega), List.getElem?_take, if_pos Co]
theorem atz (n : Int) (h : 0 ≤ n) (aj : n ≤ 1000000) : IntKind.i64.wrap (n + 1) = n + 1 := fY _ (by omega)
theorem M9 {rec : Int → cg → List cg → a9 → Option (Int × List cg)} {d : a9} {n : Nat} (al : d.Body.length ≤ 1048576)
  (M_ : ∀ (at_ k : Nat) (s : cg) (out : List cg), out.length = d.Body.length → eg (d.Body.drop at_) 1 = some k → k ≤ n → 0 ≤ s.scope → s.scope + k ≤ 1000000 →
   rec (at_ : Int) s out d = some (((at_ + k : Nat) : Int), patch out at_ (gb (d.Body.drop at_) [s])))
  (dE : Int) (p : bx) (f : Nat) (bF : f ≤ 2) : ∀ (c j at_ k : Nat) (out : List cg) (m : Nat), j + c = f → c < m → out.length = d.Body.length → eg (d.Body.drop at_) c = some k → k ≤ n → 0 ≤ dE → dE + k ≤ 1000000 →
   qP rec d dE p (f : Int) m out (at_ : Int) (j : Int) = some (((at_ + k : Nat) : Int), patch out at_ (gb (d.Body.drop at_) (List.replicate c ⟨dE, p.Kind == 1⟩)))
 | 0, j, at_, k, out, m, cx, hm, cm, he, aE, ba, ai => by
   obtain ⟨m, rfl⟩ : ∃ i, m = i + 1 := ⟨m - 1, by omega⟩
   rw [yA] at he; cases he
   simp only [qP, AY]
   rw [fw (by omega)]
   simp [atw, atx]
 | c + 1, j, at_, k, out, m, cx, hm, cm, he, aE, ba, ai => by
   obtain ⟨m, rfl⟩ : ∃ i, m = i + 1 := ⟨m - 1, by omega⟩
   rw [Nat.add_comm c 1] at he
   obtain ⟨b8, cu, a4, a_, rfl⟩ := yB he
   have hR := s9 a4
   have l2 := s9 a_
   rw [List.length_drop] at hR
   rw [List.drop_drop, List.length_drop] at l2
   have hlen : (gb (d.Body.drop at_) [⟨dE, p.Kind == 1⟩]).length = b8 := s_ (st := [_]) a4
   simp only [qP, AY]
   rw [gz (by omega), M_ at_ b8 _ out cm a4 (by omega) ba (by show dE + (b8 : Int) ≤ _; omega), gy j f (by omega) (by omega)]
   simp only [cond_true, Option.bind_some]
   have fV : (patch out at_ (gb (d.Body.drop at_) [⟨dE, p.Kind == 1⟩])).length = d.Body.length := by
    rw [M7 (by rw [hlen]; omega), cm]
   rw [List.drop_drop] at a_
   rw [M9 al M_ dE p f bF c (j + 1) (at_ + b8) cu _ m (by omega) (by omega) fV a_ (by omega) ba (by omega)]
   have atA : (gb (d.Body.drop (at_ + b8)) (List.replicate c ⟨dE, p.Kind == 1⟩)).length = cu := s_ (by rw [List.length_replicate]; exact a_)
   have atB : gb (d.Body.drop at_) (List.replicate (c + 1) ⟨dE, p.Kind == 1⟩) = gb (d.Body.drop at_) [⟨dE, p.Kind == 1⟩] ++ gb (d.Body.drop (at_ + b8)) (List.replicate c ⟨dE, p.Kind == 1⟩) := by
    rw [List.replicate_succ, ← List.singleton_append, M6 (k := b8) (s1 := [_]) a4, List.drop_drop]
   rw [atB, M8 (by rw [hlen]) (by rw [hlen, atA]; omega), Nat.add_assoc]
end Go.fJ
