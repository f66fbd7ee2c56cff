/- Part of a proof that a law returns true for every input. No condition. -/
import Derived.Test.YtbemmmimelklkaaGreatUD1
namespace Go.f_
open Go Go.dk
def below (p : bz) (s : cn) : cn := ⟨if p.Kind = 4 then s.scope + 1 else s.scope, p.Kind == 1⟩
def gN : List bz → List cn → List cn
 | [], _ => []
 | _ :: _, [] => []
 | p :: r, s :: st => s :: gN r (List.replicate (ew p) (below p s) ++ st)
theorem att (l : List bz) : gN l [] = [] := by cases l <;> rfl
theorem u4 : ∀ {l : List bz} {st : List cn} {k : Nat}, en l st.length = some k → (gN l st).length = k
 | [], [], k, h => by simp only [List.length_nil, en, Option.some.injEq] at h; subst h; rfl
 | [], s :: st, k, h => by simp [en] at h
 | p :: r, [], k, h => by simp only [List.length_nil, en, Option.some.injEq] at h; subst h; rfl
 | p :: r, s :: st, k, h => by
   obtain ⟨df, bD, rfl⟩ := oq.1 h
   simp only [gN, List.length_cons]
   rw [u4 (k := df) (by rw [List.length_append, List.length_replicate, Nat.add_comm]; exact bD)]
theorem ME : ∀ {l : List bz} {s1 s2 : List cn} {k : Nat}, en l s1.length = some k → gN l (s1 ++ s2) = gN l s1 ++ gN (l.drop k) s2
 | [], [], s2, k, h => by simp only [List.length_nil, en, Option.some.injEq] at h; subst h; rfl
 | [], s :: st, s2, k, h => by simp [en] at h
 | p :: r, [], s2, k, h => by simp only [List.length_nil, en, Option.some.injEq] at h; subst h; simp [gN]
 | p :: r, s :: st, s2, k, h => by
   obtain ⟨df, bD, rfl⟩ := oq.1 h
   simp only [gN, List.cons_append, List.drop_succ_cons]
   rw [← List.append_assoc, ME (k := df) (by rw [List.length_append, List.length_replicate, Nat.add_comm]; exact bD)]
def patch (out : List cn) (i : Nat) (new : List cn) : List cn := out.take i ++ (new ++ out.drop (i + new.length))
theorem atu (out : List cn) (i : Nat) : patch out i [] = out := by simp [patch]
theorem MF {out : List cn} {i : Nat} {new : List cn} (h : i + new.length ≤ out.length) : (patch out i new).length = out.length := by
 simp [patch]; omega
theorem MG {out : List cn} {i j : Nat} {a b : List cn} (cJ : j = i + a.length) (h : i + a.length + b.length ≤ out.length) : patch (patch out i a) j b = patch out i (a ++ b) := by
 subst cJ
 unfold patch
 have a4 : (out.take i).length = i := by rw [List.length_take]; omega
 have t1 : (out.take i ++ (a ++ out.drop (i + a.length))).take (i + a.length) = out.take i ++ a := by
  rw [← List.append_assoc, List.take_left' (by rw [List.length_append, a4])]
 have t2 : (out.take i ++ (a ++ out.drop (i + a.length))).drop (i + a.length + b.length) = out.drop (i + a.length + b.length) := by
  rw [← List.append_assoc, ← List.drop_drop, List.drop_left' (by rw [List.length_append, a4]), List.drop_drop]
 rw [t1, t2]
 simp only [List.append_assoc, List.length_append, Nat.add_assoc]
theorem atv {out : List cn} {i : Nat} {s : cn} (h : i < out.length) : out.set i s = patch out i [s] := by
 unfold patch
 apply List.ext_getElem?
 intro j
 rw [List.getElem?_set]
 rcases Nat.lt_trichotomy i j with B1 | B1 | B1
 ·rw [if_neg (by omega), List.getElem?_append_right (by simp; omega)]
  have a4 : (out.take i).length = i := by simp; omega
  rw [a4]
  obtain ⟨d, rfl⟩ : ∃ d, j = i + (d + 1) := ⟨j - i - 1, by omega⟩
  rw [show i + (d + 1) - i = d + 1 by omega]
  simp only [List.singleton_append, List.getElem?_cons_succ, List.length_singleton, List.getElem?_drop]
  congr 1; omega
 ·subst B1
  rw [if_pos rfl, if_pos h, List.getElem?_append_right (by simp; omega)]
  have a4 : (out.take i).length = i := by simp; omega
  rw [a4]; simp
 ·rw [if_neg (by omega), List.getElem?_append_left (by simp; omega), List.getElem?_take, if_pos B1]
theorem atw (n : Int) (h : 0 ≤ n) (aj : n ≤ 1000000) : IntKind.i64.wrap (n + 1) = n + 1 := fQ _ (by omega)
theorem MH {rec : Int → cn → List cn → bb → Option (Int × List cn)} {d : bb} {n : Nat} (al : d.Body.length ≤ 1048576)
  (MI : ∀ (at_ k : Nat) (s : cn) (out : List cn), out.length = d.Body.length → en (d.Body.drop at_) 1 = some k → k ≤ n → 0 ≤ s.scope → s.scope + k ≤ 1000000 →
   rec (at_ : Int) s out d = some (((at_ + k : Nat) : Int), patch out at_ (gN (d.Body.drop at_) [s])))
  (dD : Int) (p : bz) (f : Nat) (bH : f ≤ 2) : ∀ (c j at_ k : Nat) (out : List cn) (m : Nat), j + c = f → c < m → out.length = d.Body.length → en (d.Body.drop at_) c = some k → k ≤ n → 0 ≤ dD → dD + k ≤ 1000000 →
   qw rec d dD p (f : Int) m out (at_ : Int) (j : Int) = some (((at_ + k : Nat) : Int), patch out at_ (gN (d.Body.drop at_) (List.replicate c ⟨dD, p.Kind == 1⟩)))
 | 0, j, at_, k, out, m, cJ, hm, cm, he, aE, a9, ai => by
   obtain ⟨m, rfl⟩ : ∃ i, m = i + 1 := ⟨m - 1, by omega⟩
   rw [x9] at he; cases he
   simp only [qw, At]
   rw [fH (by omega)]
   simp [att, atu]
 | c + 1, j, at_, k, out, m, cJ, hm, cm, he, aE, a9, ai => by
   obtain ⟨m, rfl⟩ : ∃ i, m = i + 1 := ⟨m - 1, by omega⟩
   rw [Nat.add_comm c 1] at he
   obtain ⟨b5, cu, a4, a_, rfl⟩ := x_ he
   have hP := sN a4
   have l2 := sN a_
   rw [List.length_drop] at hP
   rw [List.drop_drop, List.length_drop] at l2
   have hlen : (gN (d.Body.drop at_) [⟨dD, p.Kind == 1⟩]).length = b5 := u4 (st := [_]) a4
   simp only [qw, At]
   rw [gM (by omega), MI at_ b5 _ out cm a4 (by omega) a9 (by show dD + (b5 : Int) ≤ _; omega), gL j f (by omega) (by omega)]
   simp only [cond_true, Option.bind_some]
   have gq : (patch out at_ (gN (d.Body.drop at_) [⟨dD, p.Kind == 1⟩])).length = d.Body.length := by
    rw [MF (by rw [hlen]; omega), cm]
   rw [List.drop_drop] at a_
   rw [MH al MI dD p f bH c (j + 1) (at_ + b5) cu _ m (by omega) (by omega) gq a_ (by omega) a9 (by omega)]
   have atx : (gN (d.Body.drop (at_ + b5)) (List.replicate c ⟨dD, p.Kind == 1⟩)).length = cu := u4 (by rw [List.length_replicate]; exact a_)
   have aty : gN (d.Body.drop at_) (List.replicate (c + 1) ⟨dD, p.Kind == 1⟩) = gN (d.Body.drop at_) [⟨dD, p.Kind == 1⟩] ++ gN (d.Body.drop (at_ + b5)) (List.replicate c ⟨dD, p.Kind == 1⟩) := by
    rw [List.replicate_succ, ← List.singleton_append, ME (k := b5) (s1 := [_]) a4, List.drop_drop]
   rw [aty, MG (by rw [hlen]) (by rw [hlen, atx]; omega), Nat.add_assoc]
end Go.f_
