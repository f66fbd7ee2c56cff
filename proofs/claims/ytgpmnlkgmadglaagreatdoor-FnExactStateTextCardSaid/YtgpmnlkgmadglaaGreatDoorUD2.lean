/- Part of a proof that a law returns true for every input. No condition. -/
import Derived.Test.YtgpmnlkgmadglaaGreatDoorUD1
namespace Go.eV
open Go Go.c0
def below (p : b7) (s : cm) : cm := ⟨if p.Kind = 4 then s.scope + 1 else s.scope, p.Kind == 1⟩
def gO : List b7 → List cm → List cm
 | [], _ => []
 | _ :: _, [] => []
 | p :: r, s :: st => s :: gO r (List.replicate (eU p) (below p s) ++ st)
theorem avj (l : List b7) : gO l [] = [] := by cases l <;> rfl
theorem vg : ∀ {l : List b7} {st : List cm} {k : Nat}, ee l st.length = some k → (gO l st).length = k
 | [], [], k, h => by simp only [List.length_nil, ee, Option.some.injEq] at h; subst h; rfl
 | [], s :: st, k, h => by simp [ee] at h
 | p :: r, [], k, h => by simp only [List.length_nil, ee, Option.some.injEq] at h; subst h; rfl
 | p :: r, s :: st, k, h => by
   obtain ⟨db, bx, rfl⟩ := oK.1 h
   simp only [gO, List.length_cons]
   rw [vg (k := db) (by rw [List.length_append, List.length_replicate, Nat.add_comm]; exact bx)]
theorem N5 : ∀ {l : List b7} {s1 s2 : List cm} {k : Nat}, ee l s1.length = some k → gO l (s1 ++ s2) = gO l s1 ++ gO (l.drop k) s2
 | [], [], s2, k, h => by simp only [List.length_nil, ee, Option.some.injEq] at h; subst h; rfl
 | [], s :: st, s2, k, h => by simp [ee] at h
 | p :: r, [], s2, k, h => by simp only [List.length_nil, ee, Option.some.injEq] at h; subst h; simp [gO]
 | p :: r, s :: st, s2, k, h => by
   obtain ⟨db, bx, rfl⟩ := oK.1 h
   simp only [gO, List.cons_append, List.drop_succ_cons]
   rw [← List.append_assoc, N5 (k := db) (by rw [List.length_append, List.length_replicate, Nat.add_comm]; exact bx)]
def patch (out : List cm) (i : Nat) (new : List cm) : List cm := out.take i ++ (new ++ out.drop (i + new.length))
theorem avk (out : List cm) (i : Nat) : patch out i [] = out := by simp [patch]
theorem N6 {out : List cm} {i : Nat} {new : List cm} (h : i + new.length ≤ out.length) : (patch out i new).length = out.length := by
 simp [patch]; omega
theorem N7 {out : List cm} {i j : Nat} {a b : List cm} (b3 : j = i + a.length) (h : i + a.length + b.length ≤ out.length) : patch (patch out i a) j b = patch out i (a ++ b) := by
 subst b3
 unfold patch
 have aS : (out.take i).length = i := by rw [List.length_take]; omega
 have t1 : (out.take i ++ (a ++ out.drop (i + a.length))).take (i + a.length) = out.take i ++ a := by
  rw [← List.append_assoc, List.take_left' (by rw [List.length_append, aS])]
 have t2 : (out.take i ++ (a ++ out.drop (i + a.length))).drop (i + a.length + b.length) = out.drop (i + a.length + b.length) := by
  rw [← List.append_assoc, ← List.drop_drop, List.drop_left' (by rw [List.length_append, aS]), List.drop_drop]
 rw [t1, t2]
 simp only [List.append_assoc, List.length_append, Nat.add_assoc]
theorem avl {out : List cm} {i : Nat} {s : cm} (h : i < out.length) : out.set i s = patch out i [s] := by
 unfold patch
 apply List.ext_getElem?
 intro j
 rw [List.getElem?_set]
 rcases Nat.lt_trichotomy i j with Cb | Cb | Cb
 ·rw [if_neg (by omega), List.getElem?_append_right (by simp; omega)]
  have aS : (out.take i).length = i := by simp; omega
  rw [aS]
  obtain ⟨d, rfl⟩ : ∃ d, j = i + (d + 1) := ⟨j - i - 1, by omega⟩
  rw [show i + (d + 1) - i = d + 1 by omega]
  simp only [List.singleton_append, List.getElem?_cons_succ, List.length_singleton, List.getElem?_drop]
  congr 1; omega
 ·subst Cb
  rw [if_pos rfl, if_pos h, List.getElem?_append_right (by simp; omega)]
  have aS : (out.take i).length = i := by simp; omega
  rw [aS]; simp
 ·rw [if_neg (by omega), List.getElem?_append_left (by simp; omega), List.getElem?_take, if_pos Cb]
theorem avm (n : Int) (h : 0 ≤ n) (ah : n ≤ 1000000) : IntKind.i64.wrap (n + 1) = n + 1 := hg _ (by omega)
theorem N8 {rec : Int → cm → List cm → bm → Option (Int × List cm)} {d : bm} {n : Nat} (ai : d.Body.length ≤ 1048576)
  (N9 : ∀ (at_ k : Nat) (s : cm) (out : List cm), out.length = d.Body.length → ee (d.Body.drop at_) 1 = some k → k ≤ n → 0 ≤ s.scope → s.scope + k ≤ 1000000 →
   rec (at_ : Int) s out d = some (((at_ + k : Nat) : Int), patch out at_ (gO (d.Body.drop at_) [s])))
  (dq : Int) (p : b7) (f : Nat) (br : f ≤ 2) : ∀ (c j at_ k : Nat) (out : List cm) (m : Nat), j + c = f → c < m → out.length = d.Body.length → ee (d.Body.drop at_) c = some k → k ≤ n → 0 ≤ dq → dq + k ≤ 1000000 →
   qU rec d dq p (f : Int) m out (at_ : Int) (j : Int) = some (((at_ + k : Nat) : Int), patch out at_ (gO (d.Body.drop at_) (List.replicate c ⟨dq, p.Kind == 1⟩)))
 | 0, j, at_, k, out, m, b3, hm, cg, he, az, bc, ag => by
   obtain ⟨m, rfl⟩ : ∃ i, m = i + 1 := ⟨m - 1, by omega⟩
   rw [yk] at he; cases he
   simp only [qU, AL]
   rw [gr (by omega)]
   simp [avj, avk]
 | c + 1, j, at_, k, out, m, b3, hm, cg, he, az, bc, ag => by
   obtain ⟨m, rfl⟩ : ∃ i, m = i + 1 := ⟨m - 1, by omega⟩
   rw [Nat.add_comm c 1] at he
   obtain ⟨bU, cb, aS, aX, rfl⟩ := yl he
   have gQ := s4 aS
   have l2 := s4 aX
   rw [List.length_drop] at gQ
   rw [List.drop_drop, List.length_drop] at l2
   have hlen : (gO (d.Body.drop at_) [⟨dq, p.Kind == 1⟩]).length = bU := vg (st := [_]) aS
   simp only [qU, AL]
   rw [gb (by omega), N9 at_ bU _ out cg aS (by omega) bc (by show dq + (bU : Int) ≤ _; omega), ga j f (by omega) (by omega)]
   simp only [cond_true, Option.bind_some]
   have fT : (patch out at_ (gO (d.Body.drop at_) [⟨dq, p.Kind == 1⟩])).length = d.Body.length := by
    rw [N6 (by rw [hlen]; omega), cg]
   rw [List.drop_drop] at aX
   rw [N8 ai N9 dq p f br c (j + 1) (at_ + bU) cb _ m (by omega) (by omega) fT aX (by omega) bc (by omega)]
   have avn : (gO (d.Body.drop (at_ + bU)) (List.replicate c ⟨dq, p.Kind == 1⟩)).length = cb := vg (by rw [List.length_replicate]; exact aX)
   have avo : gO (d.Body.drop at_) (List.replicate (c + 1) ⟨dq, p.Kind == 1⟩) = gO (d.Body.drop at_) [⟨dq, p.Kind == 1⟩] ++ gO (d.Body.drop (at_ + bU)) (List.replicate c ⟨dq, p.Kind == 1⟩) := by
    rw [List.replicate_succ, ← List.singleton_append, N5 (k := bU) (s1 := [_]) aS, List.drop_drop]
   rw [avo, N7 (by rw [hlen]) (by rw [hlen, avn]; omega), Nat.add_assoc]
end Go.eV
