/- Part of a proof that a law returns true for every input. No condition. -/
import Derived.Test.YtbemmmimelklkaaGreatUD2
namespace Go.eR
open Go Go.c5
theorem O0 (d : bg) (ak : d.Body.length ≤ 1048576) : ∀ (n at_ k : Nat) (s : cx) (out : List cx), out.length = d.Body.length → ej (d.Body.drop at_) 1 = some k → k ≤ n → 0 ≤ s.scope → s.scope + k ≤ 1000000 →
  sS n (at_ : Int) s out d = some (((at_ + k : Nat) : Int), patch out at_ (gQ (d.Body.drop at_) [s]))
 | 0, at_, k, s, out, cl, he, aD, bc, af => by have := tG he; omega
 | n + 1, at_, k, s, out, cl, he, aD, bc, af => by
   have l := tG he
   rw [List.length_drop] at l
   have ao : at_ < d.Body.length := by omega
   rw [drop_cons _ at_ ao] at he ⊢
   obtain ⟨dm, mY, rfl⟩ := oZ.1 he
   simp only [Nat.zero_add] at mY
   have bJ := wt d.Body[at_]
   have av7 := OY (n := n) ak (O0 d ak n) (below d.Body[at_] s).scope d.Body[at_] (e5 d.Body[at_]) bJ (e5 d.Body[at_]) 0 (at_ + 1) dm (patch out at_ [s])
   have hlen : (gQ (d.Body.drop (at_ + 1)) (List.replicate (e5 d.Body[at_]) (below d.Body[at_] s) ++ [])).length = dm := by
    rw [List.append_nil]; exact wu (by rw [List.length_replicate]; exact mY)
   have av8 : (at_ + 1 + dm : Nat) = at_ + (dm + 1) := by omega
   have ad : 0 ≤ (below d.Body[at_] s).scope ∧ (below d.Body[at_] s).scope + dm ≤ 1000000 := by
    unfold below; simp only; split <;> omega
   have key : (lim fun m => rm (sS n) d (below d.Body[at_] s).scope d.Body[at_] ((e5 d.Body[at_] : Nat) : Int) m (List.set out (Int.toNat (at_ : Int)) s) (IntKind.i64.wrap ((at_ : Int) + 1)) 0) =
     some (((at_ + (dm + 1) : Nat) : Int), patch out at_ (gQ (d.Body[at_] :: d.Body.drop (at_ + 1)) [s])) := by
    refine hP (e5 d.Body[at_] + 1) fun m hm => ?_
    rw [Int.toNat_natCast, av3 (by omega), fA at_ _ ao (by omega)]
    have h := av7 m (by omega) (by omega) (by rw [OW (by simp; omega), cl]) mY (by omega) ad.1 ad.2
    rw [show ((0 : Nat) : Int) = 0 from rfl] at h
    rw [h, av8]
    congr 2
    have av9 : (gQ (d.Body.drop (at_ + 1)) (List.replicate (e5 d.Body[at_]) ⟨(below d.Body[at_] s).scope, d.Body[at_].Kind == 1⟩)).length = dm := wu (by rw [List.length_replicate]; exact mY)
    rw [OX (i := at_) (a := [s]) (j := at_ + 1) rfl (by rw [av9, List.length_singleton]; omega)]
    simp only [gQ, List.append_nil, List.singleton_append]
    rfl
   simp only [sS, Gi]
   rw [gx out at_ (by omega), gx _ at_ ao]
   simp only [Option.bind_some, B0, OT]
   by_cases bk : d.Body[at_].Kind = 4
   ·have e : (d.Body[at_].Kind == 4) = true := by simpa using bk
    have bh : (below d.Body[at_] s).scope = s.scope + 1 := by simp [below, bk]
    rw [e, cond_true, av4 s.scope bc (by omega), ← bh]
    exact key
   ·have e : (d.Body[at_].Kind == 4) = false := by simpa using bk
    have bh : (below d.Body[at_] s).scope = s.scope := by simp [below, bk]
    rw [e, cond_false]
    conv => lhs; rw [show s.scope = (below d.Body[at_] s).scope from bh.symm]
    exact key
theorem av_ (d : bg) (ak : d.Body.length ≤ 1048576) (ah : ej d.Body 1 = some d.Body.length) (bc : 0 ≤ d.dj) (af : d.dj + d.Body.length ≤ 1000000) :
  B2 d = some (gQ d.Body [⟨d.dj, false⟩]) := by
 unfold B2
 rw [qt 16 ak (by decide)]
 simp only [Option.bind_some]
 have hlen : (gQ d.Body [⟨d.dj, false⟩]).length = d.Body.length := wu (st := [_]) ah
 have : B1 0 ⟨d.dj, false⟩ (List.replicate (Int.toNat (d.Body.length : Int)) ⟨0, false⟩) d = some ((d.Body.length : Int), gQ d.Body [⟨d.dj, false⟩]) := by
  unfold B1
  refine hP d.Body.length fun m hm => ?_
  have := O0 d ak m 0 d.Body.length ⟨d.dj, false⟩ (List.replicate (Int.toNat (d.Body.length : Int)) ⟨0, false⟩) (by simp) (by simpa using ah) hm bc af
  rw [show ((0 : Nat) : Int) = 0 from rfl] at this
  rw [this, Nat.zero_add, List.drop_zero]
  congr 2
  unfold patch
  rw [Nat.zero_add, hlen, List.drop_of_length_le (by simp)]
  simp
 rw [this]; rfl
def Hy (l : List bE) (q : Nat) : Bool := match ej l 1 with
 | some e => decide (q < e)
 | none => false
def mM : List bE → Nat → Nat
 | [], _ => 0
 | _ :: _, 0 => 0
 | p :: r, q + 1 => (if p.Kind = 4 ∧ Hy (p :: r) (q + 1) = true then 1 else 0) + mM r q
theorem awa (l : List bE) : mM l 0 = 0 := by cases l <;> rfl
theorem O1 : ∀ (l : List bE) (q : Nat), mM l q ≤ q
 | [], q => by simp [mM]
 | _ :: _, 0 => by simp [mM]
 | p :: r, q + 1 => by
   have := O1 r q
   simp only [mM]; split <;> omega
theorem awb (d : bg) (ak : d.Body.length ≤ 1048576) (ah : ej d.Body 1 = some d.Body.length) (bc : -1000000 ≤ d.dj ∧ d.dj ≤ 1000000) (q : Nat) (dk : q < d.Body.length) :
  vj d (q : Int) = some (d.dj + (mM d.Body q : Nat)) := by
 unfold vj
 have key : ∀ i, i ≤ q → ∀ (c : Int) m, -1000000 ≤ c → c ≤ 1000000 + i → q - i < m → rb d (q : Int) m c (i : Int) = some (c + (mM (d.Body.drop i) (q - i) : Nat)) := by
  refine down q ?_ ?_
  ·intro c m _ _ hm
   obtain ⟨m, rfl⟩ : ∃ j, m = j + 1 := ⟨m - 1, by omega⟩
   simp only [rb, Bo]
   rw [fa (Nat.le_refl _), Nat.sub_self, awa]; simp
  ·intro i ao ih c m mV me hm
   obtain ⟨m, rfl⟩ : ∃ j, m = j + 1 := ⟨m - 1, by omega⟩
   simp only [rb, Bo]
   have Hz : i < d.Body.length := by omega
   rw [fB ao, gx _ i Hz]
   simp only [cond_true, Option.bind_some, x2]
   obtain ⟨e, xk, Jx, uq⟩ := avX ah Hz
   rw [av0 _ ak i e xk, fA i q ao (by omega)]
   simp only [Option.bind_some]
   have awc : mM (d.Body.drop i) (q - i) = (if d.Body[i].Kind = 4 ∧ q < i + e then 1 else 0) + mM (d.Body.drop (i + 1)) (q - (i + 1)) := by
    have O2 := xk
    rw [drop_cons _ i Hz] at O2 ⊢
    rw [show q - i = (q - (i + 1)) + 1 by omega]
    simp only [mM, Hy, O2]
    congr 1
    by_cases aD : d.Body[i].Kind = 4
    ·by_cases qy : q < i + e
     ·rw [if_pos ⟨aD, by simp; omega⟩, if_pos ⟨aD, qy⟩]
     ·rw [if_neg (fun h => by simp at h; omega), if_neg (fun h => qy h.2)]
    ·rw [if_neg (fun h => aD h.1), if_neg (fun h => aD h.1)]
   rw [awc]
   by_cases aD : d.Body[i].Kind = 4
   ·have HA : (d.Body[i].Kind == 4) = true := by simpa using aD
    rw [HA, cond_true]
    by_cases qy : q < i + e
    ·rw [fB qy, cond_true, fU (c + 1) (by omega), ih (c + 1) m (by omega) (by omega) (by omega), if_pos ⟨aD, qy⟩]
     congr 1; omega
    ·rw [fa (by omega), cond_false, ih c m mV (by omega) (by omega), if_neg (fun h => qy h.2)]
     congr 1; omega
   ·have HA : (d.Body[i].Kind == 4) = false := by simpa using aD
    rw [HA, cond_false, ih c m mV (by omega) (by omega), if_neg (fun h => aD h.1)]
    congr 1; omega
 refine hP (q + 1) fun m hm => ?_
 have := key 0 (by omega) d.dj m (by omega) (by omega) (by omega)
 simpa using this
def rL : List bE → List cx → Nat → Option cx
 | _, [], _ => none
 | l, s :: st, q => match ej l 1 with
   | none => none
   | some k => if q < k then some s else rL (l.drop k) st (q - k)
theorem O3 : ∀ (f : Nat) (r : List bE) (b : cx) (st : List cx) (k q : Nat), ej r f = some k → rL r (List.replicate f b ++ st) q = if q < k then some b else rL (r.drop k) st (q - k)
 | 0, r, b, st, k, q, h => by rw [zo] at h; cases h; simp
 | f + 1, r, b, st, k, q, h => by
   rw [Nat.add_comm f 1] at h
   obtain ⟨cf, cB, af, ai, rfl⟩ := zp h
   rw [List.replicate_succ, List.cons_append]
   simp only [rL, af]
   by_cases dk : q < cf
   ·rw [if_pos dk, if_pos (by omega)]
   ·rw [if_neg dk, O3 f _ b st cB (q - cf) ai]
    by_cases O4 : q - cf < cB
    ·rw [if_pos O4, if_pos (by omega)]
    ·rw [if_neg O4, if_neg (by omega), List.drop_drop, Nat.sub_sub]
theorem O5 : ∀ (l : List bE) (st : List cx) (k : Nat), ej l st.length = some k → ∀ q, q < k → ∃ s pl, rL l st q = some s ∧ (gQ l st)[q]? = some pl ∧ pl.scope = s.scope + (mM l q : Nat)
 | [], [], k, h, q, dk => by simp only [List.length_nil, ej, Option.some.injEq] at h; omega
 | [], s :: st, k, h, q, dk => by simp [ej] at h
 | p :: r, [], k, h, q, dk => by simp only [List.length_nil, ej, Option.some.injEq] at h; omega
 | p :: r, s :: st, k, h, q, dk => by
   have bc := h
   obtain ⟨dm, bM, rfl⟩ := oZ.1 h
   rw [List.length_cons, Nat.add_comm st.length 1] at bc
   obtain ⟨e, cB, he, r0, aD⟩ := zp bc
   obtain ⟨fv, mY, rfl⟩ := oZ.1 he
   simp only [Nat.zero_add] at mY
   cases q with
   | zero =>
     refine ⟨s, s, ?_, rfl, ?_⟩
     ·simp only [rL, he]; rw [if_pos (by omega)]
     ·simp [mM]
   | succ q =>
     have hl : ej r (List.replicate (e5 p) (below p s) ++ st).length = some dm := by
      rw [List.length_append, List.length_replicate, Nat.add_comm]; exact bM
     obtain ⟨az, pl, af, ai, aN⟩ := O5 r _ dm hl q (by omega)
     rw [O3 _ _ _ _ fv q mY] at af
     simp only [gQ, List.getElem?_cons_succ, rL, he, mM, Hy, decide_eq_true_eq]
     by_cases qy : q < fv
     ·rw [if_pos qy] at af
      simp only [Option.some.injEq] at af; subst af
      refine ⟨s, pl, by rw [if_pos (by omega)], ai, ?_⟩
      rw [aN]
      by_cases DA : p.Kind = 4
      ·rw [if_pos ⟨DA, by omega⟩]; simp only [below, if_pos DA]; omega
      ·rw [if_neg (fun h => DA h.1)]; simp only [below, if_neg DA]; omega
     ·rw [if_neg qy] at af
      refine ⟨az, pl, ?_, ai, ?_⟩
      ·rw [if_neg (by omega), List.drop_succ_cons, show q + 1 - (fv + 1) = q - fv by omega]; exact af
      ·rw [aN, if_neg (fun h => by omega)]; omega
theorem awd {p : bE} (h : e5 p = 0) : (p.Kind == 1) = false := by
 unfold e5 at h
 split at h
 ·omega
 ·rename_i bl; simp only [beq_eq_false_iff_ne]; exact fun e => bl (.inl e)
theorem awe {p : bE} (h : e5 p = 2) : (p.Kind == 1) = false := by
 unfold e5 at h
 split at h
 ·omega
 ·rename_i bl; simp only [beq_eq_false_iff_ne]; exact fun e => bl (.inl e)
def HB (b : List bE) : Nat → Bool
 | 0 => false
 | q + 1 => match b[q]? with
   | some p => p.Kind == 1
   | none => false
theorem O6 : ∀ (l : List bE) (st : List cx), (∀ s ∈ st.tail, s.behind = false) → ∀ (q : Nat) (pl : cx), (gQ l st)[q]? = some pl →
  pl.behind = match q with
   | 0 => match st with
     | s :: _ => s.behind
     | [] => false
   | q + 1 => match l[q]? with
     | some p => p.Kind == 1
     | none => false
 | [], st, _, q, pl, h => by simp [gQ] at h
 | p :: r, [], _, q, pl, h => by simp [gQ] at h
 | p :: r, s :: st, DB, q, pl, h => by
   cases q with
   | zero => simp only [gQ, List.getElem?_cons_zero, Option.some.injEq] at h; subst h; rfl
   | succ q =>
     simp only [gQ, List.getElem?_cons_succ] at h
     have awf : ∀ az ∈ (List.replicate (e5 p) (below p s) ++ st).tail, az.behind = false := by
      intro az fs
      have bJ := wt p
      rcases (by omega : e5 p = 0 ∨ e5 p = 1 ∨ e5 p = 2) with bJ | bJ | bJ
      ·rw [bJ] at fs; simp only [List.replicate_zero, List.nil_append] at fs
       exact DB az (by simpa using List.mem_of_mem_tail fs)
      ·rw [bJ] at fs; simp only [List.replicate_succ, List.replicate_zero, List.cons_append, List.nil_append, List.tail_cons] at fs
       exact DB az (by simpa using fs)
      ·rw [bJ] at fs; simp only [List.replicate_succ, List.replicate_zero, List.cons_append, List.nil_append, List.tail_cons, List.mem_cons] at fs
       rcases fs with rfl | fs
       ·exact awe bJ
       ·exact DB az (by simpa using fs)
     have ih := O6 r _ awf q pl h
     rw [ih]
     cases q with
     | succ q => rfl
     | zero =>
       simp only [List.getElem?_cons_zero]
       have bJ := wt p
       rcases (by omega : e5 p = 0 ∨ e5 p = 1 ∨ e5 p = 2) with bJ | bJ | bJ
       ·rw [bJ, awd bJ]
        simp only [List.replicate_zero, List.nil_append]
        cases st with
        | nil => rfl
        | cons s2 st => exact DB s2 (by simp)
       ·rw [bJ]; rfl
       ·rw [bJ]; rfl
theorem awg (l : List bE) (s : cx) (ah : s.behind = false) (q : Nat) (pl : cx) (h : (gQ l [s])[q]? = some pl) : pl.behind = HB l q := by
 rw [O6 l [s] (fun s ah => by simp at ah) q pl h]
 cases q with
 | zero => exact ah
 | succ q => rfl
end Go.eR
