/- Part of a proof that a law returns true for every input. No condition. -/
import Derived.Test.YtbemmmimelklkaaGreatUD1
namespace Go.eR
open Go Go.c5
def below (p : bE) (s : cx) : cx := ⟨if p.Kind = 4 then s.scope + 1 else s.scope, p.Kind == 1⟩
def gQ : List bE → List cx → List cx
 | [], _ => []
 | _ :: _, [] => []
 | p :: r, s :: st => s :: gQ r (List.replicate (e5 p) (below p s) ++ st)
theorem av1 (l : List bE) : gQ l [] = [] := by cases l <;> rfl
theorem wu : ∀ {l : List bE} {st : List cx} {k : Nat}, ej l st.length = some k → (gQ l st).length = k
 | [], [], k, h => by simp only [List.length_nil, ej, Option.some.injEq] at h; subst h; rfl
 | [], s :: st, k, h => by simp [ej] at h
 | p :: r, [], k, h => by simp only [List.length_nil, ej, Option.some.injEq] at h; subst h; rfl
 | p :: r, s :: st, k, h => by
   obtain ⟨dm, bM, rfl⟩ := oZ.1 h
   simp only [gQ, List.length_cons]
   rw [wu (k := dm) (by rw [List.length_append, List.length_replicate, Nat.add_comm]; exact bM)]
theorem OV : ∀ {l : List bE} {s1 s2 : List cx} {k : Nat}, ej l s1.length = some k → gQ l (s1 ++ s2) = gQ l s1 ++ gQ (l.drop k) s2
 | [], [], s2, k, h => by simp only [List.length_nil, ej, Option.some.injEq] at h; subst h; rfl
 | [], s :: st, s2, k, h => by simp [ej] at h
 | p :: r, [], s2, k, h => by simp only [List.length_nil, ej, Option.some.injEq] at h; subst h; simp [gQ]
 | p :: r, s :: st, s2, k, h => by
   obtain ⟨dm, bM, rfl⟩ := oZ.1 h
   simp only [gQ, List.cons_append, List.drop_succ_cons]
   rw [← List.append_assoc, OV (k := dm) (by rw [List.length_append, List.length_replicate, Nat.add_comm]; exact bM)]
def patch (out : List cx) (i : Nat) (new : List cx) : List cx := out.take i ++ (new ++ out.drop (i + new.length))
theorem av2 (out : List cx) (i : Nat) : patch out i [] = out := by simp [patch]
theorem OW {out : List cx} {i : Nat} {new : List cx} (h : i + new.length ≤ out.length) : (patch out i new).length = out.length := by
 simp [patch]; omega
theorem OX {out : List cx} {i j : Nat} {a b : List cx} (b_ : j = i + a.length) (h : i + a.length + b.length ≤ out.length) : patch (patch out i a) j b = patch out i (a ++ b) := by
 subst b_
 unfold patch
 have a1 : (out.take i).length = i := by rw [List.length_take]; omega
 have t1 : (out.take i ++ (a ++ out.drop (i + a.length))).take (i + a.length) = out.take i ++ a := by
  rw [← List.append_assoc, List.take_left' (by rw [List.length_append, a1])]
 have t2 : (out.take i ++ (a ++ out.drop (i + a.length))).drop (i + a.length + b.length) = out.drop (i + a.length + b.length) := by
  rw [← List.append_assoc, ← List.drop_drop, List.drop_left' (by rw [List.length_append, a1]), List.drop_drop]
 rw [t1, t2]
 simp only [List.append_assoc, List.length_append, Nat.add_assoc]
theorem av3 {out : List cx} {i : Nat} {s : cx} (h : i < out.length) : out.set i s = patch out i [s] := by
 unfold patch
 apply List.ext_getElem?
 intro j
 rw [List.getElem?_set]
 rcases Nat.lt_trichotomy i j with zq | zq | zq
 ·rw [if_neg (by omega), List.getElem?_append_right (by simp; omega)]
  have a1 : (out.take i).length = i := by simp; omega
  rw [a1]
  obtain ⟨d, rfl⟩ : ∃ d, j = i + (d + 1) := ⟨j - i - 1, by omega⟩
  rw [show i + (d + 1) - i = d + 1 by omega]
  simp only [List.singleton_append, List.getElem?_cons_succ, List.length_singleton, List.getElem?_drop]
  congr 1; omega
 ·subst zq
  rw [if_pos rfl, if_pos h, List.getElem?_append_right (by simp; omega)]
  have a1 : (out.take i).length = i := by simp; omega
  rw [a1]; simp
 ·rw [if_neg (by omega), List.getElem?_append_left (by simp; omega), List.getElem?_take, if_pos zq]
theorem av4 (n : Int) (h : 0 ≤ n) (ai : n ≤ 1000000) : IntKind.i64.wrap (n + 1) = n + 1 := fU _ (by omega)
theorem OY {rec : Int → cx → List cx → bg → Option (Int × List cx)} {d : bg} {n : Nat} (ak : d.Body.length ≤ 1048576)
  (OZ : ∀ (at_ k : Nat) (s : cx) (out : List cx), out.length = d.Body.length → ej (d.Body.drop at_) 1 = some k → k ≤ n → 0 ≤ s.scope → s.scope + k ≤ 1000000 →
   rec (at_ : Int) s out d = some (((at_ + k : Nat) : Int), patch out at_ (gQ (d.Body.drop at_) [s])))
  (dK : Int) (p : bE) (f : Nat) (bJ : f ≤ 2) : ∀ (c j at_ k : Nat) (out : List cx) (m : Nat), j + c = f → c < m → out.length = d.Body.length → ej (d.Body.drop at_) c = some k → k ≤ n → 0 ≤ dK → dK + k ≤ 1000000 →
   rm rec d dK p (f : Int) m out (at_ : Int) (j : Int) = some (((at_ + k : Nat) : Int), patch out at_ (gQ (d.Body.drop at_) (List.replicate c ⟨dK, p.Kind == 1⟩)))
 | 0, j, at_, k, out, m, b_, hm, cl, he, aD, bc, af => by
   obtain ⟨m, rfl⟩ : ∃ i, m = i + 1 := ⟨m - 1, by omega⟩
   rw [zo] at he; cases he
   simp only [rm, BZ]
   rw [fa (by omega)]
   simp [av1, av2]
 | c + 1, j, at_, k, out, m, b_, hm, cl, he, aD, bc, af => by
   obtain ⟨m, rfl⟩ : ∃ i, m = i + 1 := ⟨m - 1, by omega⟩
   rw [Nat.add_comm c 1] at he
   obtain ⟨cf, cB, a1, bh, rfl⟩ := zp he
   have hS := tG a1
   have l2 := tG bh
   rw [List.length_drop] at hS
   rw [List.drop_drop, List.length_drop] at l2
   have hlen : (gQ (d.Body.drop at_) [⟨dK, p.Kind == 1⟩]).length = cf := wu (st := [_]) a1
   simp only [rm, BZ]
   rw [fB (by omega), OZ at_ cf _ out cl a1 (by omega) bc (by show dK + (cf : Int) ≤ _; omega), fA j f (by omega) (by omega)]
   simp only [cond_true, Option.bind_some]
   have gz : (patch out at_ (gQ (d.Body.drop at_) [⟨dK, p.Kind == 1⟩])).length = d.Body.length := by
    rw [OW (by rw [hlen]; omega), cl]
   rw [List.drop_drop] at bh
   rw [OY ak OZ dK p f bJ c (j + 1) (at_ + cf) cB _ m (by omega) (by omega) gz bh (by omega) bc (by omega)]
   have av5 : (gQ (d.Body.drop (at_ + cf)) (List.replicate c ⟨dK, p.Kind == 1⟩)).length = cB := wu (by rw [List.length_replicate]; exact bh)
   have av6 : gQ (d.Body.drop at_) (List.replicate (c + 1) ⟨dK, p.Kind == 1⟩) = gQ (d.Body.drop at_) [⟨dK, p.Kind == 1⟩] ++ gQ (d.Body.drop (at_ + cf)) (List.replicate c ⟨dK, p.Kind == 1⟩) := by
    rw [List.replicate_succ, ← List.singleton_append, OV (k := cf) (s1 := [_]) a1, List.drop_drop]
   rw [av6, OX (by rw [hlen]) (by rw [hlen, av5]; omega), Nat.add_assoc]
end Go.eR
