/- Part of a proof that a law returns true for every input. No condition. -/
import Derived.Test.YtocllehpepigpaaGreatUD2
namespace Go.e1
open Go Go.dg
theorem P0 (d : bk) (aj : d.Body.length ≤ 1048576) : ∀ (n at_ k : Nat) (s : cM) (out : List cM), out.length = d.Body.length → eE (d.Body.drop at_) 1 = some k → k ≤ n → 0 ≤ s.scope → s.scope + k ≤ 1000000 →
  tj n (at_ : Int) s out d = some (((at_ + k : Nat) : Int), patch out at_ (hs (d.Body.drop at_) [s]))
 | 0, at_, k, s, out, b_, he, aA, bf, ae => by have := uq he; omega
 | n + 1, at_, k, s, out, b_, he, aA, bf, ae => by
   have l := uq he
   rw [List.length_drop] at l
   have au : at_ < d.Body.length := by omega
   rw [drop_cons _ at_ au] at he ⊢
   obtain ⟨dA, nt, rfl⟩ := py.1 he
   simp only [Nat.zero_add] at nt
   have bF := wP d.Body[at_]
   have azS := PY (n := n) aj (P0 d aj n) (below d.Body[at_] s).scope d.Body[at_] (eR d.Body[at_]) bF (eR d.Body[at_]) 0 (at_ + 1) dA (patch out at_ [s])
   have hlen : (hs (d.Body.drop (at_ + 1)) (List.replicate (eR d.Body[at_]) (below d.Body[at_] s) ++ [])).length = dA := by
    rw [List.append_nil]; exact wQ (by rw [List.length_replicate]; exact nt)
   have azT : (at_ + 1 + dA : Nat) = at_ + (dA + 1) := by omega
   have ad : 0 ≤ (below d.Body[at_] s).scope ∧ (below d.Body[at_] s).scope + dA ≤ 1000000 := by
    unfold below; simp only; split <;> omega
   have key : (lim fun m => rR (tj n) d (below d.Body[at_] s).scope d.Body[at_] ((eR d.Body[at_] : Nat) : Int) m (List.set out (Int.toNat (at_ : Int)) s) (IntKind.i64.wrap ((at_ : Int) + 1)) 0) =
     some (((at_ + (dA + 1) : Nat) : Int), patch out at_ (hs (d.Body[at_] :: d.Body.drop (at_ + 1)) [s])) := by
    refine i1 (eR d.Body[at_] + 1) fun m hm => ?_
    rw [Int.toNat_natCast, azO (by omega), gS at_ _ au (by omega)]
    have h := azS m (by omega) (by omega) (by rw [PW (by simp; omega), b_]) nt (by omega) ad.1 ad.2
    rw [show ((0 : Nat) : Int) = 0 from rfl] at h
    rw [h, azT]
    congr 2
    have azU : (hs (d.Body.drop (at_ + 1)) (List.replicate (eR d.Body[at_]) ⟨(below d.Body[at_] s).scope, d.Body[at_].Kind == 1⟩)).length = dA := wQ (by rw [List.length_replicate]; exact nt)
    rw [PX (i := at_) (a := [s]) (j := at_ + 1) rfl (by rw [azU, List.length_singleton]; omega)]
    simp only [hs, List.append_nil, List.singleton_append]
    rfl
   simp only [tj, GK]
   rw [hW out at_ (by omega), hW _ at_ au]
   simp only [Option.bind_some, Ci, PT]
   by_cases a6 : d.Body[at_].Kind = 4
   ·have e : (d.Body[at_].Kind == 4) = true := by simpa using a6
    have ba : (below d.Body[at_] s).scope = s.scope + 1 := by simp [below, a6]
    rw [e, cond_true, azP s.scope bf (by omega), ← ba]
    exact key
   ·have e : (d.Body[at_].Kind == 4) = false := by simpa using a6
    have ba : (below d.Body[at_] s).scope = s.scope := by simp [below, a6]
    rw [e, cond_false]
    conv => lhs; rw [show s.scope = (below d.Body[at_] s).scope from ba.symm]
    exact key
theorem P1 (d : bk) (aj : d.Body.length ≤ 1048576) (af : eE d.Body 1 = some d.Body.length) (bf : 0 ≤ d.dw) (ae : d.dw + d.Body.length ≤ 1000000) :
  v7 d = some (hs d.Body [⟨d.dw, false⟩]) := by
 unfold v7
 rw [pk 16 aj (by decide)]
 simp only [Option.bind_some]
 have hlen : (hs d.Body [⟨d.dw, false⟩]).length = d.Body.length := wQ (st := [_]) af
 have : Cj 0 ⟨d.dw, false⟩ (List.replicate (Int.toNat (d.Body.length : Int)) ⟨0, false⟩) d = some ((d.Body.length : Int), hs d.Body [⟨d.dw, false⟩]) := by
  unfold Cj
  refine i1 d.Body.length fun m hm => ?_
  have := P0 d aj m 0 d.Body.length ⟨d.dw, false⟩ (List.replicate (Int.toNat (d.Body.length : Int)) ⟨0, false⟩) (by simp) (by simpa using af) hm bf ae
  rw [show ((0 : Nat) : Int) = 0 from rfl] at this
  rw [this, Nat.zero_add, List.drop_zero]
  congr 2
  unfold patch
  rw [Nat.zero_add, hlen, List.drop_of_length_le (by simp)]
  simp
 rw [this]; rfl
def Ig (l : List bJ) (q : Nat) : Bool := match eE l 1 with
 | some e => decide (q < e)
 | none => false
def nd : List bJ → Nat → Nat
 | [], _ => 0
 | _ :: _, 0 => 0
 | p :: r, q + 1 => (if p.Kind = 4 ∧ Ig (p :: r) (q + 1) = true then 1 else 0) + nd r q
theorem azV (l : List bJ) : nd l 0 = 0 := by cases l <;> rfl
theorem P2 : ∀ (l : List bJ) (q : Nat), nd l q ≤ q
 | [], q => by simp [nd]
 | _ :: _, 0 => by simp [nd]
 | p :: r, q + 1 => by
   have := P2 r q
   simp only [nd]; split <;> omega
theorem azW (d : bk) (aj : d.Body.length ≤ 1048576) (af : eE d.Body 1 = some d.Body.length) (bf : -1000000 ≤ d.dw ∧ d.dw ≤ 1000000) (q : Nat) (c4 : q < d.Body.length) :
  rN d (q : Int) = some (d.dw + (nd d.Body q : Nat)) := by
 unfold rN
 have key : ∀ i, i ≤ q → ∀ (c : Int) m, -1000000 ≤ c → c ≤ 1000000 + i → q - i < m → rM d (q : Int) m c (i : Int) = some (c + (nd (d.Body.drop i) (q - i) : Nat)) := by
  refine down q ?_ ?_
  ·intro c m _ _ hm
   obtain ⟨m, rfl⟩ : ∃ j, m = j + 1 := ⟨m - 1, by omega⟩
   simp only [rM, BM]
   rw [fD (Nat.le_refl _), Nat.sub_self, azV]; simp
  ·intro i au ih c m nq mK hm
   obtain ⟨m, rfl⟩ : ∃ j, m = j + 1 := ⟨m - 1, by omega⟩
   simp only [rM, BM]
   have Ih : i < d.Body.length := by omega
   rw [gT au, hW _ i Ih]
   simp only [cond_true, Option.bind_some, yA]
   obtain ⟨e, xM, Kg, u0⟩ := azI af Ih
   rw [azL _ aj i e xM, gS i q au (by omega)]
   simp only [Option.bind_some]
   have azX : nd (d.Body.drop i) (q - i) = (if d.Body[i].Kind = 4 ∧ q < i + e then 1 else 0) + nd (d.Body.drop (i + 1)) (q - (i + 1)) := by
    have P3 := xM
    rw [drop_cons _ i Ih] at P3 ⊢
    rw [show q - i = (q - (i + 1)) + 1 by omega]
    simp only [nd, Ig, P3]
    congr 1
    by_cases aA : d.Body[i].Kind = 4
    ·by_cases q3 : q < i + e
     ·rw [if_pos ⟨aA, by simp; omega⟩, if_pos ⟨aA, q3⟩]
     ·rw [if_neg (fun h => by simp at h; omega), if_neg (fun h => q3 h.2)]
    ·rw [if_neg (fun h => aA h.1), if_neg (fun h => aA h.1)]
   rw [azX]
   by_cases aA : d.Body[i].Kind = 4
   ·have Ii : (d.Body[i].Kind == 4) = true := by simpa using aA
    rw [Ii, cond_true]
    by_cases q3 : q < i + e
    ·rw [gT q3, cond_true, fK (c + 1) (by omega), ih (c + 1) m (by omega) (by omega) (by omega), if_pos ⟨aA, q3⟩]
     congr 1; omega
    ·rw [fD (by omega), cond_false, ih c m nq (by omega) (by omega), if_neg (fun h => q3 h.2)]
     congr 1; omega
   ·have Ii : (d.Body[i].Kind == 4) = false := by simpa using aA
    rw [Ii, cond_false, ih c m nq (by omega) (by omega), if_neg (fun h => aA h.1)]
    congr 1; omega
 refine i1 (q + 1) fun m hm => ?_
 have := key 0 (by omega) d.dw m (by omega) (by omega) (by omega)
 simpa using this
def r7 : List bJ → List cM → Nat → Option cM
 | _, [], _ => none
 | l, s :: st, q => match eE l 1 with
   | none => none
   | some k => if q < k then some s else r7 (l.drop k) st (q - k)
theorem P4 : ∀ (f : Nat) (r : List bJ) (b : cM) (st : List cM) (k q : Nat), eE r f = some k → r7 r (List.replicate f b ++ st) q = if q < k then some b else r7 (r.drop k) st (q - k)
 | 0, r, b, st, k, q, h => by rw [zO] at h; cases h; simp
 | f + 1, r, b, st, k, q, h => by
   rw [Nat.add_comm f 1] at h
   obtain ⟨ca, cy, ae, ah, rfl⟩ := zP h
   rw [List.replicate_succ, List.cons_append]
   simp only [r7, ae]
   by_cases c4 : q < ca
   ·rw [if_pos c4, if_pos (by omega)]
   ·rw [if_neg c4, P4 f _ b st cy (q - ca) ah]
    by_cases P5 : q - ca < cy
    ·rw [if_pos P5, if_pos (by omega)]
    ·rw [if_neg P5, if_neg (by omega), List.drop_drop, Nat.sub_sub]
theorem P6 : ∀ (l : List bJ) (st : List cM) (k : Nat), eE l st.length = some k → ∀ q, q < k → ∃ s pl, r7 l st q = some s ∧ (hs l st)[q]? = some pl ∧ pl.scope = s.scope + (nd l q : Nat)
 | [], [], k, h, q, c4 => by simp only [List.length_nil, eE, Option.some.injEq] at h; omega
 | [], s :: st, k, h, q, c4 => by simp [eE] at h
 | p :: r, [], k, h, q, c4 => by simp only [List.length_nil, eE, Option.some.injEq] at h; omega
 | p :: r, s :: st, k, h, q, c4 => by
   have bf := h
   obtain ⟨dA, bP, rfl⟩ := py.1 h
   rw [List.length_cons, Nat.add_comm st.length 1] at bf
   obtain ⟨e, cy, he, oG, aA⟩ := zP bf
   obtain ⟨fQ, nt, rfl⟩ := py.1 he
   simp only [Nat.zero_add] at nt
   cases q with
   | zero =>
     refine ⟨s, s, ?_, rfl, ?_⟩
     ·simp only [r7, he]; rw [if_pos (by omega)]
     ·simp [nd]
   | succ q =>
     have hl : eE r (List.replicate (eR p) (below p s) ++ st).length = some dA := by
      rw [List.length_append, List.length_replicate, Nat.add_comm]; exact bP
     obtain ⟨aB, pl, ae, ah, aH⟩ := P6 r _ dA hl q (by omega)
     rw [P4 _ _ _ _ fQ q nt] at ae
     simp only [hs, List.getElem?_cons_succ, r7, he, nd, Ig, decide_eq_true_eq]
     by_cases q3 : q < fQ
     ·rw [if_pos q3] at ae
      simp only [Option.some.injEq] at ae; subst ae
      refine ⟨s, pl, by rw [if_pos (by omega)], ah, ?_⟩
      rw [aH]
      by_cases DX : p.Kind = 4
      ·rw [if_pos ⟨DX, by omega⟩]; simp only [below, if_pos DX]; omega
      ·rw [if_neg (fun h => DX h.1)]; simp only [below, if_neg DX]; omega
     ·rw [if_neg q3] at ae
      refine ⟨aB, pl, ?_, ah, ?_⟩
      ·rw [if_neg (by omega), List.drop_succ_cons, show q + 1 - (fQ + 1) = q - fQ by omega]; exact ae
      ·rw [aH, if_neg (fun h => by omega)]; omega
theorem azY {p : bJ} (h : eR p = 0) : (p.Kind == 1) = false := by
 unfold eR at h
 split at h
 ·omega
 ·rename_i a_; simp only [beq_eq_false_iff_ne]; exact fun e => a_ (.inl e)
theorem azZ {p : bJ} (h : eR p = 2) : (p.Kind == 1) = false := by
 unfold eR at h
 split at h
 ·omega
 ·rename_i a_; simp only [beq_eq_false_iff_ne]; exact fun e => a_ (.inl e)
def Ij (b : List bJ) : Nat → Bool
 | 0 => false
 | q + 1 => match b[q]? with
   | some p => p.Kind == 1
   | none => false
theorem P7 : ∀ (l : List bJ) (st : List cM), (∀ s ∈ st.tail, s.behind = false) → ∀ (q : Nat) (pl : cM), (hs l st)[q]? = some pl →
  pl.behind = match q with
   | 0 => match st with
     | s :: _ => s.behind
     | [] => false
   | q + 1 => match l[q]? with
     | some p => p.Kind == 1
     | none => false
 | [], st, _, q, pl, h => by simp [hs] at h
 | p :: r, [], _, q, pl, h => by simp [hs] at h
 | p :: r, s :: st, DY, q, pl, h => by
   cases q with
   | zero => simp only [hs, List.getElem?_cons_zero, Option.some.injEq] at h; subst h; rfl
   | succ q =>
     simp only [hs, List.getElem?_cons_succ] at h
     have az0 : ∀ aB ∈ (List.replicate (eR p) (below p s) ++ st).tail, aB.behind = false := by
      intro aB fO
      have bF := wP p
      rcases (by omega : eR p = 0 ∨ eR p = 1 ∨ eR p = 2) with bF | bF | bF
      ·rw [bF] at fO; simp only [List.replicate_zero, List.nil_append] at fO
       exact DY aB (by simpa using List.mem_of_mem_tail fO)
      ·rw [bF] at fO; simp only [List.replicate_succ, List.replicate_zero, List.cons_append, List.nil_append, List.tail_cons] at fO
       exact DY aB (by simpa using fO)
      ·rw [bF] at fO; simp only [List.replicate_succ, List.replicate_zero, List.cons_append, List.nil_append, List.tail_cons, List.mem_cons] at fO
       rcases fO with rfl | fO
       ·exact azZ bF
       ·exact DY aB (by simpa using fO)
     have ih := P7 r _ az0 q pl h
     rw [ih]
     cases q with
     | succ q => rfl
     | zero =>
       simp only [List.getElem?_cons_zero]
       have bF := wP p
       rcases (by omega : eR p = 0 ∨ eR p = 1 ∨ eR p = 2) with bF | bF | bF
       ·rw [bF, azY bF]
        simp only [List.replicate_zero, List.nil_append]
        cases st with
        | nil => rfl
        | cons s2 st => exact DY s2 (by simp)
       ·rw [bF]; rfl
       ·rw [bF]; rfl
theorem az1 (l : List bJ) (s : cM) (af : s.behind = false) (q : Nat) (pl : cM) (h : (hs l [s])[q]? = some pl) : pl.behind = Ij l q := by
 rw [P7 l [s] (fun s af => by simp at af) q pl h]
 cases q with
 | zero => exact af
 | succ q => rfl
end Go.e1
