/- Part of a proof that a law returns true for every input. No condition. -/
import Derived.Test.YtbemmmimelklkaaUD1
namespace Go.eJ
open Go Go.cB
def below (p : bn) (s : b0) : b0 := ⟨if p.Kind = 4 then s.scope + 1 else s.scope, p.Kind == 1⟩
def fI : List bn → List b0 → List b0
 | [], _ => []
 | _ :: _, [] => []
 | p :: r, s :: st => s :: fI r (List.replicate (dI p) (below p s) ++ st)
theorem afX (l : List bn) : fI l [] = [] := by cases l <;> rfl
theorem sO : ∀ {l : List bn} {st : List b0} {k : Nat}, de l st.length = some k → (fI l st).length = k
 | [], [], k, h => by simp only [List.length_nil, de, Option.some.injEq] at h; subst h; rfl
 | [], s :: st, k, h => by simp [de] at h
 | p :: r, [], k, h => by simp only [List.length_nil, de, Option.some.injEq] at h; subst h; rfl
 | p :: r, s :: st, k, h => by
   obtain ⟨cE, bq, rfl⟩ := mZ.1 h
   simp only [fI, List.length_cons]
   rw [sO (k := cE) (by rw [List.length_append, List.length_replicate, Nat.add_comm]; exact bq)]
theorem IM : ∀ {l : List bn} {s1 s2 : List b0} {k : Nat}, de l s1.length = some k → fI l (s1 ++ s2) = fI l s1 ++ fI (l.drop k) s2
 | [], [], s2, k, h => by simp only [List.length_nil, de, Option.some.injEq] at h; subst h; rfl
 | [], s :: st, s2, k, h => by simp [de] at h
 | p :: r, [], s2, k, h => by simp only [List.length_nil, de, Option.some.injEq] at h; subst h; simp [fI]
 | p :: r, s :: st, s2, k, h => by
   obtain ⟨cE, bq, rfl⟩ := mZ.1 h
   simp only [fI, List.cons_append, List.drop_succ_cons]
   rw [← List.append_assoc, IM (k := cE) (by rw [List.length_append, List.length_replicate, Nat.add_comm]; exact bq)]
def patch (out : List b0) (i : Nat) (new : List b0) : List b0 := out.take i ++ (new ++ out.drop (i + new.length))
theorem afY (out : List b0) (i : Nat) : patch out i [] = out := by simp [patch]
theorem IP {out : List b0} {i : Nat} {new : List b0} (h : i + new.length ≤ out.length) : (patch out i new).length = out.length := by
 simp [patch]; omega
theorem IQ {out : List b0} {i j : Nat} {a b : List b0} (bS : j = i + a.length) (h : i + a.length + b.length ≤ out.length) : patch (patch out i a) j b = patch out i (a ++ b) := by
 subst bS
 unfold patch
 have aJ : (out.take i).length = i := by rw [List.length_take]; omega
 have t1 : (out.take i ++ (a ++ out.drop (i + a.length))).take (i + a.length) = out.take i ++ a := by
  rw [← List.append_assoc, List.take_left' (by rw [List.length_append, aJ])]
 have t2 : (out.take i ++ (a ++ out.drop (i + a.length))).drop (i + a.length + b.length) = out.drop (i + a.length + b.length) := by
  rw [← List.append_assoc, ← List.drop_drop, List.drop_left' (by rw [List.length_append, aJ]), List.drop_drop]
 rw [t1, t2]
 simp only [List.append_assoc, List.length_append, Nat.add_assoc]
theorem afZ {out : List b0} {i : Nat} {s : b0} (h : i < out.length) : out.set i s = patch out i [s] := by
 unfold patch
 apply List.ext_getElem?
 intro j
 rw [List.getElem?_set]
 rcases Nat.lt_trichotomy i j with yV | yV | yV
 ·rw [if_neg (by omega), List.getElem?_append_right (by simp; omega)]
  have aJ : (out.take i).length = i := by simp; omega
  rw [aJ]
  obtain ⟨d, rfl⟩ : ∃ d, j = i + (d + 1) := ⟨j - i - 1, by omega⟩
  rw [show i + (d + 1) - i = d + 1 by omega]
  simp only [List.singleton_append, List.getElem?_cons_succ, List.length_singleton, List.getElem?_drop]
  congr 1; omega
 ·subst yV
  rw [if_pos rfl, if_pos h, List.getElem?_append_right (by simp; omega)]
  have aJ : (out.take i).length = i := by simp; omega
  rw [aJ]; simp
 ·rw [if_neg (by omega), List.getElem?_append_left (by simp; omega), List.getElem?_take, if_pos yV]
theorem af0 (n : Int) (h : 0 ≤ n) (af : n ≤ 1000000) : IntKind.i64.wrap (n + 1) = n + 1 := gh _ (by omega)
theorem IU {rec : Int → b0 → List b0 → aV → Option (Int × List b0)} {d : aV} {n : Nat} (ah : d.Body.length ≤ 1048576)
  (IV : ∀ (at_ k : Nat) (s : b0) (out : List b0), out.length = d.Body.length → de (d.Body.drop at_) 1 = some k → k ≤ n → 0 ≤ s.scope → s.scope + k ≤ 1000000 →
   rec (at_ : Int) s out d = some (((at_ + k : Nat) : Int), patch out at_ (fI (d.Body.drop at_) [s])))
  (c2 : Int) (p : bn) (f : Nat) (bB : f ≤ 2) : ∀ (c j at_ k : Nat) (out : List b0) (m : Nat), j + c = f → c < m → out.length = d.Body.length → de (d.Body.drop at_) c = some k → k ≤ n → 0 ≤ c2 → c2 + k ≤ 1000000 →
   o4 rec d c2 p (f : Int) m out (at_ : Int) (j : Int) = some (((at_ + k : Nat) : Int), patch out at_ (fI (d.Body.drop at_) (List.replicate c ⟨c2, p.Kind == 1⟩)))
 | 0, j, at_, k, out, m, bS, hm, bU, he, ay, bh, ab => by
   obtain ⟨m, rfl⟩ : ∃ i, m = i + 1 := ⟨m - 1, by omega⟩
   rw [vD] at he; cases he
   simp only [o4, xR]
   rw [fQ (by omega)]
   simp [afX, afY]
 | c + 1, j, at_, k, out, m, bS, hm, bU, he, ay, bh, ab => by
   obtain ⟨m, rfl⟩ : ∃ i, m = i + 1 := ⟨m - 1, by omega⟩
   rw [Nat.add_comm c 1] at he
   obtain ⟨bN, b6, aJ, aP, rfl⟩ := vE he
   have gE := qV aJ
   have l2 := qV aP
   rw [List.length_drop] at gE
   rw [List.drop_drop, List.length_drop] at l2
   have hlen : (fI (d.Body.drop at_) [⟨c2, p.Kind == 1⟩]).length = bN := sO (st := [_]) aJ
   simp only [o4, xR]
   rw [gA (by omega), IV at_ bN _ out bU aJ (by omega) bh (by show c2 + (bN : Int) ≤ _; omega), gz j f (by omega) (by omega)]
   simp only [cond_true, Option.bind_some]
   have fj : (patch out at_ (fI (d.Body.drop at_) [⟨c2, p.Kind == 1⟩])).length = d.Body.length := by
    rw [IP (by rw [hlen]; omega), bU]
   rw [List.drop_drop] at aP
   rw [IU ah IV c2 p f bB c (j + 1) (at_ + bN) b6 _ m (by omega) (by omega) fj aP (by omega) bh (by omega)]
   have af1 : (fI (d.Body.drop (at_ + bN)) (List.replicate c ⟨c2, p.Kind == 1⟩)).length = b6 := sO (by rw [List.length_replicate]; exact aP)
   have af2 : fI (d.Body.drop at_) (List.replicate (c + 1) ⟨c2, p.Kind == 1⟩) = fI (d.Body.drop at_) [⟨c2, p.Kind == 1⟩] ++ fI (d.Body.drop (at_ + bN)) (List.replicate c ⟨c2, p.Kind == 1⟩) := by
    rw [List.replicate_succ, ← List.singleton_append, IM (k := bN) (s1 := [_]) aJ, List.drop_drop]
   rw [af2, IQ (by rw [hlen]) (by rw [hlen, af1]; omega), Nat.add_assoc]
end Go.eJ
