/- Part of a proof that a law returns true for every input. No condition. -/
import Derived.Test.YtgpmnlkgmadglaaGreatDoorUD1
namespace Go.eR
open Go Go.cY
def below (p : bs) (s : cn) : cn := ⟨if p.Kind = 4 then s.scope + 1 else s.scope, p.Kind == 1⟩
def gl : List bs → List cn → List cn
 | [], _ => []
 | _ :: _, [] => []
 | p :: r, s :: st => s :: gl r (List.replicate (dF p) (below p s) ++ st)
theorem aw_ (l : List bs) : gl l [] = [] := by cases l <;> rfl
theorem ve : ∀ {l : List bs} {st : List cn} {k : Nat}, et l st.length = some k → (gl l st).length = k
 | [], [], k, h => by simp only [List.length_nil, et, Option.some.injEq] at h; subst h; rfl
 | [], s :: st, k, h => by simp [et] at h
 | p :: r, [], k, h => by simp only [List.length_nil, et, Option.some.injEq] at h; subst h; rfl
 | p :: r, s :: st, k, h => by
   obtain ⟨cL, bE, rfl⟩ := oZ.1 h
   simp only [gl, List.length_cons]
   rw [ve (k := cL) (by rw [List.length_append, List.length_replicate, Nat.add_comm]; exact bE)]
theorem Jb : ∀ {l : List bs} {s1 s2 : List cn} {k : Nat}, et l s1.length = some k → gl l (s1 ++ s2) = gl l s1 ++ gl (l.drop k) s2
 | [], [], s2, k, h => by simp only [List.length_nil, et, Option.some.injEq] at h; subst h; rfl
 | [], s :: st, s2, k, h => by simp [et] at h
 | p :: r, [], s2, k, h => by simp only [List.length_nil, et, Option.some.injEq] at h; subst h; simp [gl]
 | p :: r, s :: st, s2, k, h => by
   obtain ⟨cL, bE, rfl⟩ := oZ.1 h
   simp only [gl, List.cons_append, List.drop_succ_cons]
   rw [← List.append_assoc, Jb (k := cL) (by rw [List.length_append, List.length_replicate, Nat.add_comm]; exact bE)]
def patch (out : List cn) (i : Nat) (new : List cn) : List cn := out.take i ++ (new ++ out.drop (i + new.length))
theorem axa (out : List cn) (i : Nat) : patch out i [] = out := by simp [patch]
theorem QK {out : List cn} {i : Nat} {new : List cn} (h : i + new.length ≤ out.length) : (patch out i new).length = out.length := by
 simp [patch]; omega
theorem QL {out : List cn} {i j : Nat} {a b : List cn} (bw : j = i + a.length) (h : i + a.length + b.length ≤ out.length) : patch (patch out i a) j b = patch out i (a ++ b) := by
 subst bw
 unfold patch
 have aN : (out.take i).length = i := by rw [List.length_take]; omega
 have t1 : (out.take i ++ (a ++ out.drop (i + a.length))).take (i + a.length) = out.take i ++ a := by
  rw [← List.append_assoc, List.take_left' (by rw [List.length_append, aN])]
 have t2 : (out.take i ++ (a ++ out.drop (i + a.length))).drop (i + a.length + b.length) = out.drop (i + a.length + b.length) := by
  rw [← List.append_assoc, ← List.drop_drop, List.drop_left' (by rw [List.length_append, aN]), List.drop_drop]
 rw [t1, t2]
 simp only [List.append_assoc, List.length_append, Nat.add_assoc]
theorem axb {out : List cn} {i : Nat} {s : cn} (h : i < out.length) : out.set i s = patch out i [s] := by
 unfold patch
 apply List.ext_getElem?
 intro j
 rw [List.getElem?_set]
 rcases Nat.lt_trichotomy i j with Eu | Eu | Eu
 ·rw [if_neg (by omega), List.getElem?_append_right (by simp; omega)]
  have aN : (out.take i).length = i := by simp; omega
  rw [aN]
  obtain ⟨d, rfl⟩ : ∃ d, j = i + (d + 1) := ⟨j - i - 1, by omega⟩
  rw [show i + (d + 1) - i = d + 1 by omega]
  simp only [List.singleton_append, List.getElem?_cons_succ, List.length_singleton, List.getElem?_drop]
  congr 1; omega
 ·subst Eu
  rw [if_pos rfl, if_pos h, List.getElem?_append_right (by simp; omega)]
  have aN : (out.take i).length = i := by simp; omega
  rw [aN]; simp
 ·rw [if_neg (by omega), List.getElem?_append_left (by simp; omega), List.getElem?_take, if_pos Eu]
theorem axc (n : Int) (h : 0 ≤ n) (ag : n ≤ 1000000) : IntKind.i64.wrap (n + 1) = n + 1 := fW _ (by omega)
theorem QM {rec : Int → cn → List cn → aS → Option (Int × List cn)} {d : aS} {n : Nat} (ai : d.Body.length ≤ 1048576)
  (Ev : ∀ (at_ k : Nat) (s : cn) (out : List cn), out.length = d.Body.length → et (d.Body.drop at_) 1 = some k → k ≤ n → 0 ≤ s.scope → s.scope + k ≤ 1000000 →
   rec (at_ : Int) s out d = some (((at_ + k : Nat) : Int), patch out at_ (gl (d.Body.drop at_) [s])))
  (dh : Int) (p : bs) (f : Nat) (bz : f ≤ 2) : ∀ (c j at_ k : Nat) (out : List cn) (m : Nat), j + c = f → c < m → out.length = d.Body.length → et (d.Body.drop at_) c = some k → k ≤ n → 0 ≤ dh → dh + k ≤ 1000000 →
   sH rec d dh p (f : Int) m out (at_ : Int) (j : Int) = some (((at_ + k : Nat) : Int), patch out at_ (gl (d.Body.drop at_) (List.replicate c ⟨dh, p.Kind == 1⟩)))
 | 0, j, at_, k, out, m, bw, hm, bJ, he, ar, bn, af => by
   obtain ⟨m, rfl⟩ : ∃ i, m = i + 1 := ⟨m - 1, by omega⟩
   rw [vd] at he; cases he
   simp only [sH, C0]
   rw [gI (by omega)]
   simp [aw_, axa]
 | c + 1, j, at_, k, out, m, bw, hm, bJ, he, ar, bn, af => by
   obtain ⟨m, rfl⟩ : ∃ i, m = i + 1 := ⟨m - 1, by omega⟩
   rw [Nat.add_comm c 1] at he
   obtain ⟨bt, b0, aN, aZ, rfl⟩ := xB he
   have hk := qV aN
   have l2 := qV aZ
   rw [List.length_drop] at hk
   rw [List.drop_drop, List.length_drop] at l2
   have hlen : (gl (d.Body.drop at_) [⟨dh, p.Kind == 1⟩]).length = bt := ve (st := [_]) aN
   simp only [sH, C0]
   rw [hx (by omega), Ev at_ bt _ out bJ aN (by omega) bn (by show dh + (bt : Int) ≤ _; omega), hg j f (by omega) (by omega)]
   simp only [cond_true, Option.bind_some]
   have eK : (patch out at_ (gl (d.Body.drop at_) [⟨dh, p.Kind == 1⟩])).length = d.Body.length := by
    rw [QK (by rw [hlen]; omega), bJ]
   rw [List.drop_drop] at aZ
   rw [QM ai Ev dh p f bz c (j + 1) (at_ + bt) b0 _ m (by omega) (by omega) eK aZ (by omega) bn (by omega)]
   have axd : (gl (d.Body.drop (at_ + bt)) (List.replicate c ⟨dh, p.Kind == 1⟩)).length = b0 := ve (by rw [List.length_replicate]; exact aZ)
   have axe : gl (d.Body.drop at_) (List.replicate (c + 1) ⟨dh, p.Kind == 1⟩) = gl (d.Body.drop at_) [⟨dh, p.Kind == 1⟩] ++ gl (d.Body.drop (at_ + bt)) (List.replicate c ⟨dh, p.Kind == 1⟩) := by
    rw [List.replicate_succ, ← List.singleton_append, Jb (k := bt) (s1 := [_]) aN, List.drop_drop]
   rw [axe, QL (by rw [hlen]) (by rw [hlen, axd]; omega), Nat.add_assoc]
end Go.eR
