/- Part of a proof that a law returns true for every input. No condition. -/
import Derived.Test.YtbemmmimelklkaaGreatUD2
namespace Go.fJ
open Go Go.dg
theorem Na (d : a9) (al : d.Body.length ≤ 1048576) : ∀ (n at_ k : Nat) (s : cg) (out : List cg), out.length = d.Body.length → eg (d.Body.drop at_) 1 = some k → k ≤ n → 0 ≤ s.scope → s.scope + k ≤ 1000000 →
  sj n (at_ : Int) s out d = some (((at_ + k : Nat) : Int), patch out at_ (gb (d.Body.drop at_) [s]))
 | 0, at_, k, s, out, cm, he, aE, ba, ai => by have := s9 he; omega
 | n + 1, at_, k, s, out, cm, he, aE, ba, ai => by
   have l := s9 he
   rw [List.length_drop] at l
   have ar : at_ < d.Body.length := by omega
   rw [drop_cons _ at_ ar] at he ⊢
   obtain ⟨dd, mG, rfl⟩ := oF.1 he
   simp only [Nat.zero_add] at mG
   have bF := vw d.Body[at_]
   have atC := M9 (n := n) al (Na d al n) (below d.Body[at_] s).scope d.Body[at_] (eE d.Body[at_]) bF (eE d.Body[at_]) 0 (at_ + 1) dd (patch out at_ [s])
   have hlen : (gb (d.Body.drop (at_ + 1)) (List.replicate (eE d.Body[at_]) (below d.Body[at_] s) ++ [])).length = dd := by
    rw [List.append_nil]; exact s_ (by rw [List.length_replicate]; exact mG)
   have atD : (at_ + 1 + dd : Nat) = at_ + (dd + 1) := by omega
   have ae : 0 ≤ (below d.Body[at_] s).scope ∧ (below d.Body[at_] s).scope + dd ≤ 1000000 := by
    unfold below; simp only; split <;> omega
   have key : (cO fun m => qP (sj n) d (below d.Body[at_] s).scope d.Body[at_] ((eE d.Body[at_] : Nat) : Int) m (List.set out (Int.toNat (at_ : Int)) s) (IntKind.i64.wrap ((at_ : Int) + 1)) 0) =
     some (((at_ + (dd + 1) : Nat) : Int), patch out at_ (gb (d.Body[at_] :: d.Body.drop (at_ + 1)) [s])) := by
    refine ir (eE d.Body[at_] + 1) fun m hm => ?_
    rw [Int.toNat_natCast, aty (by omega), gy at_ _ ar (by omega)]
    have h := atC m (by omega) (by omega) (by rw [M7 (by simp; omega), cm]) mG (by omega) ae.1 ae.2
    rw [show ((0 : Nat) : Int) = 0 from rfl] at h
    rw [h, atD]
    congr 2
    have atE : (gb (d.Body.drop (at_ + 1)) (List.replicate (eE d.Body[at_]) ⟨(below d.Body[at_] s).scope, d.Body[at_].Kind == 1⟩)).length = dd := s_ (by rw [List.length_replicate]; exact mG)
    rw [M8 (i := at_) (a := [s]) (j := at_ + 1) rfl (by rw [atE, List.length_singleton]; omega)]
    simp only [gb, List.append_nil, List.singleton_append]
    rfl
   simp only [sj, E3]
   rw [hD out at_ (by omega), hD _ at_ ar]
   simp only [Option.bind_some, AZ, M4]
   by_cases bb : d.Body[at_].Kind = 4
   ·have e : (d.Body[at_].Kind == 4) = true := by simpa using bb
    have a_ : (below d.Body[at_] s).scope = s.scope + 1 := by simp [below, bb]
    rw [e, cond_true, atz s.scope ba (by omega), ← a_]
    exact key
   ·have e : (d.Body[at_].Kind == 4) = false := by simpa using bb
    have a_ : (below d.Body[at_] s).scope = s.scope := by simp [below, bb]
    rw [e, cond_false]
    conv => lhs; rw [show s.scope = (below d.Body[at_] s).scope from a_.symm]
    exact key
theorem Nb (d : a9) (al : d.Body.length ≤ 1048576) (ah : eg d.Body 1 = some d.Body.length) (ba : 0 ≤ d.cZ) (ai : d.cZ + d.Body.length ≤ 1000000) :
  xr d = some (gb d.Body [⟨d.cZ, false⟩]) := by
 unfold xr
 rw [pX 16 al (by decide)]
 simp only [Option.bind_some]
 have hlen : (gb d.Body [⟨d.cZ, false⟩]).length = d.Body.length := s_ (st := [_]) ah
 have : A0 0 ⟨d.cZ, false⟩ (List.replicate (Int.toNat (d.Body.length : Int)) ⟨0, false⟩) d = some ((d.Body.length : Int), gb d.Body [⟨d.cZ, false⟩]) := by
  unfold A0
  refine ir d.Body.length fun m hm => ?_
  have := Na d al m 0 d.Body.length ⟨d.cZ, false⟩ (List.replicate (Int.toNat (d.Body.length : Int)) ⟨0, false⟩) (by simp) (by simpa using ah) hm ba ai
  rw [show ((0 : Nat) : Int) = 0 from rfl] at this
  rw [this, Nat.zero_add, List.drop_zero]
  congr 2
  unfold patch
  rw [Nat.zero_add, hlen, List.drop_of_length_le (by simp)]
  simp
 rw [this]; rfl
def Gd (l : List bx) (q : Nat) : Bool := match eg l 1 with
 | some e => decide (q < e)
 | none => false
def mu : List bx → Nat → Nat
 | [], _ => 0
 | _ :: _, 0 => 0
 | p :: r, q + 1 => (if p.Kind = 4 ∧ Gd (p :: r) (q + 1) = true then 1 else 0) + mu r q
theorem atF (l : List bx) : mu l 0 = 0 := by cases l <;> rfl
theorem Nc : ∀ (l : List bx) (q : Nat), mu l q ≤ q
 | [], q => by simp [mu]
 | _ :: _, 0 => by simp [mu]
 | p :: r, q + 1 => by
   have := Nc r q
   simp only [mu]; split <;> omega
theorem atG (d : a9) (al : d.Body.length ≤ 1048576) (ah : eg d.Body 1 = some d.Body.length) (ba : -1000000 ≤ d.cZ ∧ d.cZ ≤ 1000000) (q : Nat) (dc : q < d.Body.length) :
  uJ d (q : Int) = some (d.cZ + (mu d.Body q : Nat)) := by
 unfold uJ
 have key : ∀ i, i ≤ q → ∀ (c : Int) m, -1000000 ≤ c → c ≤ 1000000 + i → q - i < m → qL d (q : Int) m c (i : Int) = some (c + (mu (d.Body.drop i) (q - i) : Nat)) := by
  refine down q ?_ ?_
  ·intro c m _ _ hm
   obtain ⟨m, rfl⟩ : ∃ j, m = j + 1 := ⟨m - 1, by omega⟩
   simp only [qL, Ar]
   rw [fw (Nat.le_refl _), Nat.sub_self, atF]; simp
  ·intro i ar ih c m mD lY hm
   obtain ⟨m, rfl⟩ : ∃ j, m = j + 1 := ⟨m - 1, by omega⟩
   simp only [qL, Ar]
   have Ge : i < d.Body.length := by omega
   rw [gz ar, hD _ i Ge]
   simp only [cond_true, Option.bind_some, xc]
   obtain ⟨e, wq, HX, tJ⟩ := ats ah Ge
   rw [atv _ al i e wq, gy i q ar (by omega)]
   simp only [Option.bind_some]
   have atH : mu (d.Body.drop i) (q - i) = (if d.Body[i].Kind = 4 ∧ q < i + e then 1 else 0) + mu (d.Body.drop (i + 1)) (q - (i + 1)) := by
    have Nd := wq
    rw [drop_cons _ i Ge] at Nd ⊢
    rw [show q - i = (q - (i + 1)) + 1 by omega]
    simp only [mu, Gd, Nd]
    congr 1
    by_cases aE : d.Body[i].Kind = 4
    ·by_cases p1 : q < i + e
     ·rw [if_pos ⟨aE, by simp; omega⟩, if_pos ⟨aE, p1⟩]
     ·rw [if_neg (fun h => by simp at h; omega), if_neg (fun h => p1 h.2)]
    ·rw [if_neg (fun h => aE h.1), if_neg (fun h => aE h.1)]
   rw [atH]
   by_cases aE : d.Body[i].Kind = 4
   ·have Gf : (d.Body[i].Kind == 4) = true := by simpa using aE
    rw [Gf, cond_true]
    by_cases p1 : q < i + e
    ·rw [gz p1, cond_true, fY (c + 1) (by omega), ih (c + 1) m (by omega) (by omega) (by omega), if_pos ⟨aE, p1⟩]
     congr 1; omega
    ·rw [fw (by omega), cond_false, ih c m mD (by omega) (by omega), if_neg (fun h => p1 h.2)]
     congr 1; omega
   ·have Gf : (d.Body[i].Kind == 4) = false := by simpa using aE
    rw [Gf, cond_false, ih c m mD (by omega) (by omega), if_neg (fun h => aE h.1)]
    congr 1; omega
 refine ir (q + 1) fun m hm => ?_
 have := key 0 (by omega) d.cZ m (by omega) (by omega) (by omega)
 simpa using this
def q5 : List bx → List cg → Nat → Option cg
 | _, [], _ => none
 | l, s :: st, q => match eg l 1 with
   | none => none
   | some k => if q < k then some s else q5 (l.drop k) st (q - k)
theorem Nf : ∀ (f : Nat) (r : List bx) (b : cg) (st : List cg) (k q : Nat), eg r f = some k → q5 r (List.replicate f b ++ st) q = if q < k then some b else q5 (r.drop k) st (q - k)
 | 0, r, b, st, k, q, h => by rw [yA] at h; cases h; simp
 | f + 1, r, b, st, k, q, h => by
   rw [Nat.add_comm f 1] at h
   obtain ⟨b8, cu, ai, aj, rfl⟩ := yB h
   rw [List.replicate_succ, List.cons_append]
   simp only [q5, ai]
   by_cases dc : q < b8
   ·rw [if_pos dc, if_pos (by omega)]
   ·rw [if_neg dc, Nf f _ b st cu (q - b8) aj]
    by_cases Ng : q - b8 < cu
    ·rw [if_pos Ng, if_pos (by omega)]
    ·rw [if_neg Ng, if_neg (by omega), List.drop_drop, Nat.sub_sub]
theorem Nh : ∀ (l : List bx) (st : List cg) (k : Nat), eg l st.length = some k → ∀ q, q < k → ∃ s pl, q5 l st q = some s ∧ (gb l st)[q]? = some pl ∧ pl.scope = s.scope + (mu l q : Nat)
 | [], [], k, h, q, dc => by simp only [List.length_nil, eg, Option.some.injEq] at h; omega
 | [], s :: st, k, h, q, dc => by simp [eg] at h
 | p :: r, [], k, h, q, dc => by simp only [List.length_nil, eg, Option.some.injEq] at h; omega
 | p :: r, s :: st, k, h, q, dc => by
   have ba := h
   obtain ⟨dd, bB, rfl⟩ := oF.1 h
   rw [List.length_cons, Nat.add_comm st.length 1] at ba
   obtain ⟨e, cu, he, rh, aE⟩ := yB ba
   obtain ⟨gG, mG, rfl⟩ := oF.1 he
   simp only [Nat.zero_add] at mG
   cases q with
   | zero =>
     refine ⟨s, s, ?_, rfl, ?_⟩
     ·simp only [q5, he]; rw [if_pos (by omega)]
     ·simp [mu]
   | succ q =>
     have hl : eg r (List.replicate (eE p) (below p s) ++ st).length = some dd := by
      rw [List.length_append, List.length_replicate, Nat.add_comm]; exact bB
     obtain ⟨az, pl, ai, aj, aP⟩ := Nh r _ dd hl q (by omega)
     rw [Nf _ _ _ _ gG q mG] at ai
     simp only [gb, List.getElem?_cons_succ, q5, he, mu, Gd, decide_eq_true_eq]
     by_cases p1 : q < gG
     ·rw [if_pos p1] at ai
      simp only [Option.some.injEq] at ai; subst ai
      refine ⟨s, pl, by rw [if_pos (by omega)], aj, ?_⟩
      rw [aP]
      by_cases Cp : p.Kind = 4
      ·rw [if_pos ⟨Cp, by omega⟩]; simp only [below, if_pos Cp]; omega
      ·rw [if_neg (fun h => Cp h.1)]; simp only [below, if_neg Cp]; omega
     ·rw [if_neg p1] at ai
      refine ⟨az, pl, ?_, aj, ?_⟩
      ·rw [if_neg (by omega), List.drop_succ_cons, show q + 1 - (gG + 1) = q - gG by omega]; exact ai
      ·rw [aP, if_neg (fun h => by omega)]; omega
theorem atI {p : bx} (h : eE p = 0) : (p.Kind == 1) = false := by
 unfold eE at h
 split at h
 ·omega
 ·rename_i bd; simp only [beq_eq_false_iff_ne]; exact fun e => bd (.inl e)
theorem atJ {p : bx} (h : eE p = 2) : (p.Kind == 1) = false := by
 unfold eE at h
 split at h
 ·omega
 ·rename_i bd; simp only [beq_eq_false_iff_ne]; exact fun e => bd (.inl e)
def ta (b : List bx) : Nat → Bool
 | 0 => false
 | q + 1 => match b[q]? with
   | some p => p.Kind == 1
   | none => false
theorem Ni : ∀ (l : List bx) (st : List cg), (∀ s ∈ st.tail, s.behind = false) → ∀ (q : Nat) (pl : cg), (gb l st)[q]? = some pl →
  pl.behind = match q with
   | 0 => match st with
     | s :: _ => s.behind
     | [] => false
   | q + 1 => match l[q]? with
     | some p => p.Kind == 1
     | none => false
 | [], st, _, q, pl, h => by simp [gb] at h
 | p :: r, [], _, q, pl, h => by simp [gb] at h
 | p :: r, s :: st, Cq, q, pl, h => by
   cases q with
   | zero => simp only [gb, List.getElem?_cons_zero, Option.some.injEq] at h; subst h; rfl
   | succ q =>
     simp only [gb, List.getElem?_cons_succ] at h
     have atK : ∀ az ∈ (List.replicate (eE p) (below p s) ++ st).tail, az.behind = false := by
      intro az fq
      have bF := vw p
      rcases (by omega : eE p = 0 ∨ eE p = 1 ∨ eE p = 2) with bF | bF | bF
      ·rw [bF] at fq; simp only [List.replicate_zero, List.nil_append] at fq
       exact Cq az (by simpa using List.mem_of_mem_tail fq)
      ·rw [bF] at fq; simp only [List.replicate_succ, List.replicate_zero, List.cons_append, List.nil_append, List.tail_cons] at fq
       exact Cq az (by simpa using fq)
      ·rw [bF] at fq; simp only [List.replicate_succ, List.replicate_zero, List.cons_append, List.nil_append, List.tail_cons, List.mem_cons] at fq
       rcases fq with rfl | fq
       ·exact atJ bF
       ·exact Cq az (by simpa using fq)
     have ih := Ni r _ atK q pl h
     rw [ih]
     cases q with
     | succ q => rfl
     | zero =>
       simp only [List.getElem?_cons_zero]
       have bF := vw p
       rcases (by omega : eE p = 0 ∨ eE p = 1 ∨ eE p = 2) with bF | bF | bF
       ·rw [bF, atI bF]
        simp only [List.replicate_zero, List.nil_append]
        cases st with
        | nil => rfl
        | cons s2 st => exact Cq s2 (by simp)
       ·rw [bF]; rfl
       ·rw [bF]; rfl
theorem atL (l : List bx) (s : cg) (ah : s.behind = false) (q : Nat) (pl : cg) (h : (gb l [s])[q]? = some pl) : pl.behind = ta l q := by
 rw [Ni l [s] (fun s ah => by simp at ah) q pl h]
 cases q with
 | zero => exact ah
 | succ q => rfl
end Go.fJ
