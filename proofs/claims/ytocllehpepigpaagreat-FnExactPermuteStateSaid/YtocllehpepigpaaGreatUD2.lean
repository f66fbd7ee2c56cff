/- Part of a proof that a law returns true for every input. No condition. -/
import Derived.Test.YtocllehpepigpaaGreatUD1
namespace Go.e1
open Go Go.dg
def below (p : bJ) (s : cM) : cM := ⟨if p.Kind = 4 then s.scope + 1 else s.scope, p.Kind == 1⟩
def hs : List bJ → List cM → List cM
 | [], _ => []
 | _ :: _, [] => []
 | p :: r, s :: st => s :: hs r (List.replicate (eR p) (below p s) ++ st)
theorem azM (l : List bJ) : hs l [] = [] := by cases l <;> rfl
theorem wQ : ∀ {l : List bJ} {st : List cM} {k : Nat}, eE l st.length = some k → (hs l st).length = k
 | [], [], k, h => by simp only [List.length_nil, eE, Option.some.injEq] at h; subst h; rfl
 | [], s :: st, k, h => by simp [eE] at h
 | p :: r, [], k, h => by simp only [List.length_nil, eE, Option.some.injEq] at h; subst h; rfl
 | p :: r, s :: st, k, h => by
   obtain ⟨dA, bP, rfl⟩ := py.1 h
   simp only [hs, List.length_cons]
   rw [wQ (k := dA) (by rw [List.length_append, List.length_replicate, Nat.add_comm]; exact bP)]
theorem PV : ∀ {l : List bJ} {s1 s2 : List cM} {k : Nat}, eE l s1.length = some k → hs l (s1 ++ s2) = hs l s1 ++ hs (l.drop k) s2
 | [], [], s2, k, h => by simp only [List.length_nil, eE, Option.some.injEq] at h; subst h; rfl
 | [], s :: st, s2, k, h => by simp [eE] at h
 | p :: r, [], s2, k, h => by simp only [List.length_nil, eE, Option.some.injEq] at h; subst h; simp [hs]
 | p :: r, s :: st, s2, k, h => by
   obtain ⟨dA, bP, rfl⟩ := py.1 h
   simp only [hs, List.cons_append, List.drop_succ_cons]
   rw [← List.append_assoc, PV (k := dA) (by rw [List.length_append, List.length_replicate, Nat.add_comm]; exact bP)]
def patch (out : List cM) (i : Nat) (new : List cM) : List cM := out.take i ++ (new ++ out.drop (i + new.length))
theorem azN (out : List cM) (i : Nat) : patch out i [] = out := by simp [patch]
theorem PW {out : List cM} {i : Nat} {new : List cM} (h : i + new.length ≤ out.length) : (patch out i new).length = out.length := by
 simp [patch]; omega
theorem PX {out : List cM} {i j : Nat} {a b : List cM} (cH : j = i + a.length) (h : i + a.length + b.length ≤ out.length) : patch (patch out i a) j b = patch out i (a ++ b) := by
 subst cH
 unfold patch
 have aU : (out.take i).length = i := by rw [List.length_take]; omega
 have t1 : (out.take i ++ (a ++ out.drop (i + a.length))).take (i + a.length) = out.take i ++ a := by
  rw [← List.append_assoc, List.take_left' (by rw [List.length_append, aU])]
 have t2 : (out.take i ++ (a ++ out.drop (i + a.length))).drop (i + a.length + b.length) = out.drop (i + a.length + b.length) := by
  rw [← List.append_assoc, ← List.drop_drop, List.drop_left' (by rw [List.length_append, aU]), List.drop_drop]
 rw [t1, t2]
 simp only [List.append_assoc, List.length_append, Nat.add_assoc]
theorem azO {out : List cM} {i : Nat} {s : cM} (h : i < out.length) : out.set i s = patch out i [s] := by
 unfold patch
 apply List.ext_getElem?
 intro j
 rw [List.getElem?_set]
 rcases Nat.lt_trichotomy i j with DW | DW | DW
 ·rw [if_neg (by omega), List.getElem?_append_right (by simp; omega)]
  have aU : (out.take i).length = i := by simp; omega
  rw [aU]
  obtain ⟨d, rfl⟩ : ∃ d, j = i + (d + 1) := ⟨j - i - 1, by omega⟩
  rw [show i + (d + 1) - i = d + 1 by omega]
  simp only [List.singleton_append, List.getElem?_cons_succ, List.length_singleton, List.getElem?_drop]
  congr 1; omega
 ·subst DW
  rw [if_pos rfl, if_pos h, List.getElem?_append_right (by simp; omega)]
  have aU : (out.take i).length = i := by simp; omega
  rw [aU]; simp
 ·rw [if_neg (by omega), List.getElem?_append_left (by simp; omega), List.getElem?_take, if_pos DW]
theorem azP (n : Int) (h : 0 ≤ n) (ah : n ≤ 1000000) : IntKind.i64.wrap (n + 1) = n + 1 := fK _ (by omega)
theorem PY {rec : Int → cM → List cM → bk → Option (Int × List cM)} {d : bk} {n : Nat} (aj : d.Body.length ≤ 1048576)
  (PZ : ∀ (at_ k : Nat) (s : cM) (out : List cM), out.length = d.Body.length → eE (d.Body.drop at_) 1 = some k → k ≤ n → 0 ≤ s.scope → s.scope + k ≤ 1000000 →
   rec (at_ : Int) s out d = some (((at_ + k : Nat) : Int), patch out at_ (hs (d.Body.drop at_) [s])))
  (dN : Int) (p : bJ) (f : Nat) (bF : f ≤ 2) : ∀ (c j at_ k : Nat) (out : List cM) (m : Nat), j + c = f → c < m → out.length = d.Body.length → eE (d.Body.drop at_) c = some k → k ≤ n → 0 ≤ dN → dN + k ≤ 1000000 →
   rR rec d dN p (f : Int) m out (at_ : Int) (j : Int) = some (((at_ + k : Nat) : Int), patch out at_ (hs (d.Body.drop at_) (List.replicate c ⟨dN, p.Kind == 1⟩)))
 | 0, j, at_, k, out, m, cH, hm, b_, he, aA, bf, ae => by
   obtain ⟨m, rfl⟩ : ∃ i, m = i + 1 := ⟨m - 1, by omega⟩
   rw [zO] at he; cases he
   simp only [rR, Ch]
   rw [fD (by omega)]
   simp [azM, azN]
 | c + 1, j, at_, k, out, m, cH, hm, b_, he, aA, bf, ae => by
   obtain ⟨m, rfl⟩ : ∃ i, m = i + 1 := ⟨m - 1, by omega⟩
   rw [Nat.add_comm c 1] at he
   obtain ⟨ca, cy, aU, ba, rfl⟩ := zP he
   have hx := uq aU
   have l2 := uq ba
   rw [List.length_drop] at hx
   rw [List.drop_drop, List.length_drop] at l2
   have hlen : (hs (d.Body.drop at_) [⟨dN, p.Kind == 1⟩]).length = ca := wQ (st := [_]) aU
   simp only [rR, Ch]
   rw [gT (by omega), PZ at_ ca _ out b_ aU (by omega) bf (by show dN + (ca : Int) ≤ _; omega), gS j f (by omega) (by omega)]
   simp only [cond_true, Option.bind_some]
   have gG : (patch out at_ (hs (d.Body.drop at_) [⟨dN, p.Kind == 1⟩])).length = d.Body.length := by
    rw [PW (by rw [hlen]; omega), b_]
   rw [List.drop_drop] at ba
   rw [PY aj PZ dN p f bF c (j + 1) (at_ + ca) cy _ m (by omega) (by omega) gG ba (by omega) bf (by omega)]
   have azQ : (hs (d.Body.drop (at_ + ca)) (List.replicate c ⟨dN, p.Kind == 1⟩)).length = cy := wQ (by rw [List.length_replicate]; exact ba)
   have azR : hs (d.Body.drop at_) (List.replicate (c + 1) ⟨dN, p.Kind == 1⟩) = hs (d.Body.drop at_) [⟨dN, p.Kind == 1⟩] ++ hs (d.Body.drop (at_ + ca)) (List.replicate c ⟨dN, p.Kind == 1⟩) := by
    rw [List.replicate_succ, ← List.singleton_append, PV (k := ca) (s1 := [_]) aU, List.drop_drop]
   rw [azR, PX (by rw [hlen]) (by rw [hlen, azQ]; omega), Nat.add_assoc]
end Go.e1
