/- Part of a proof that a law returns true for every input. No condition. -/
import Derived.Test.YtgpmnlkgmadglaaGreatDoorUD2
namespace Go.eR
open Go Go.cY
theorem QN (d : aS) (ai : d.Body.length ≤ 1048576) : ∀ (n at_ k : Nat) (s : cn) (out : List cn), out.length = d.Body.length → et (d.Body.drop at_) 1 = some k → k ≤ n → 0 ≤ s.scope → s.scope + k ≤ 1000000 →
  ux n (at_ : Int) s out d = some (((at_ + k : Nat) : Int), patch out at_ (gl (d.Body.drop at_) [s]))
 | 0, at_, k, s, out, bJ, he, ar, bn, af => by have := qV he; omega
 | n + 1, at_, k, s, out, bJ, he, ar, bn, af => by
   have l := qV he
   rw [List.length_drop] at l
   have an : at_ < d.Body.length := by omega
   rw [drop_cons _ at_ an] at he ⊢
   obtain ⟨cL, nN, rfl⟩ := oZ.1 he
   simp only [Nat.zero_add] at nN
   have bz := xA d.Body[at_]
   have axf := QM (n := n) ai (QN d ai n) (below d.Body[at_] s).scope d.Body[at_] (dF d.Body[at_]) bz (dF d.Body[at_]) 0 (at_ + 1) cL (patch out at_ [s])
   have hlen : (gl (d.Body.drop (at_ + 1)) (List.replicate (dF d.Body[at_]) (below d.Body[at_] s) ++ [])).length = cL := by
    rw [List.append_nil]; exact ve (by rw [List.length_replicate]; exact nN)
   have axg : (at_ + 1 + cL : Nat) = at_ + (cL + 1) := by omega
   have aa : 0 ≤ (below d.Body[at_] s).scope ∧ (below d.Body[at_] s).scope + cL ≤ 1000000 := by
    unfold below; simp only; split <;> omega
   have key : (c2 fun m => sH (ux n) d (below d.Body[at_] s).scope d.Body[at_] ((dF d.Body[at_] : Nat) : Int) m (List.set out (Int.toNat (at_ : Int)) s) (IntKind.i64.wrap ((at_ : Int) + 1)) 0) =
     some (((at_ + (cL + 1) : Nat) : Int), patch out at_ (gl (d.Body[at_] :: d.Body.drop (at_ + 1)) [s])) := by
    refine hE (dF d.Body[at_] + 1) fun m hm => ?_
    rw [Int.toNat_natCast, axb (by omega), hg at_ _ an (by omega)]
    have h := axf m (by omega) (by omega) (by rw [QK (by simp; omega), bJ]) nN (by omega) aa.1 aa.2
    rw [show ((0 : Nat) : Int) = 0 from rfl] at h
    rw [h, axg]
    congr 2
    have axh : (gl (d.Body.drop (at_ + 1)) (List.replicate (dF d.Body[at_]) ⟨(below d.Body[at_] s).scope, d.Body[at_].Kind == 1⟩)).length = cL := ve (by rw [List.length_replicate]; exact nN)
    rw [QL (i := at_) (a := [s]) (j := at_ + 1) rfl (by rw [axh, List.length_singleton]; omega)]
    simp only [gl, List.append_nil, List.singleton_append]
    rfl
   simp only [ux, HC]
   rw [fp out at_ (by omega), fp _ at_ an]
   simp only [Option.bind_some, C1, QG]
   by_cases a_ : d.Body[at_].Kind = 4
   ·have e : (d.Body[at_].Kind == 4) = true := by simpa using a_
    have aZ : (below d.Body[at_] s).scope = s.scope + 1 := by simp [below, a_]
    rw [e, cond_true, axc s.scope bn (by omega), ← aZ]
    exact key
   ·have e : (d.Body[at_].Kind == 4) = false := by simpa using a_
    have aZ : (below d.Body[at_] s).scope = s.scope := by simp [below, a_]
    rw [e, cond_false]
    conv => lhs; rw [show s.scope = (below d.Body[at_] s).scope from aZ.symm]
    exact key
theorem QO (d : aS) (ai : d.Body.length ≤ 1048576) (ab : et d.Body 1 = some d.Body.length) (bn : 0 ≤ d.c_) (af : d.c_ + d.Body.length ≤ 1000000) :
  wV d = some (gl d.Body [⟨d.c_, false⟩]) := by
 unfold wV
 rw [vc 16 ai (by decide)]
 simp only [Option.bind_some]
 have hlen : (gl d.Body [⟨d.c_, false⟩]).length = d.Body.length := ve (st := [_]) ab
 have : C2 0 ⟨d.c_, false⟩ (List.replicate (Int.toNat (d.Body.length : Int)) ⟨0, false⟩) d = some ((d.Body.length : Int), gl d.Body [⟨d.c_, false⟩]) := by
  unfold C2
  refine hE d.Body.length fun m hm => ?_
  have := QN d ai m 0 d.Body.length ⟨d.c_, false⟩ (List.replicate (Int.toNat (d.Body.length : Int)) ⟨0, false⟩) (by simp) (by simpa using ab) hm bn af
  rw [show ((0 : Nat) : Int) = 0 from rfl] at this
  rw [this, Nat.zero_add, List.drop_zero]
  congr 2
  unfold patch
  rw [Nat.zero_add, hlen, List.drop_of_length_le (by simp)]
  simp
 rw [this]; rfl
def Jc (l : List bs) (q : Nat) : Bool := match et l 1 with
 | some e => decide (q < e)
 | none => false
def nA : List bs → Nat → Nat
 | [], _ => 0
 | _ :: _, 0 => 0
 | p :: r, q + 1 => (if p.Kind = 4 ∧ Jc (p :: r) (q + 1) = true then 1 else 0) + nA r q
theorem axi (l : List bs) : nA l 0 = 0 := by cases l <;> rfl
theorem QP : ∀ (l : List bs) (q : Nat), nA l q ≤ q
 | [], q => by simp [nA]
 | _ :: _, 0 => by simp [nA]
 | p :: r, q + 1 => by
   have := QP r q
   simp only [nA]; split <;> omega
theorem axj (d : aS) (ai : d.Body.length ≤ 1048576) (ab : et d.Body 1 = some d.Body.length) (bn : -1000000 ≤ d.c_ ∧ d.c_ ≤ 1000000) (q : Nat) (cG : q < d.Body.length) :
  rr d (q : Int) = some (d.c_ + (nA d.Body q : Nat)) := by
 unfold rr
 have key : ∀ i, i ≤ q → ∀ (c : Int) m, -1000000 ≤ c → c ≤ 1000000 + i → q - i < m → sB d (q : Int) m c (i : Int) = some (c + (nA (d.Body.drop i) (q - i) : Nat)) := by
  refine down q ?_ ?_
  ·intro c m _ _ hm
   obtain ⟨m, rfl⟩ : ∃ j, m = j + 1 := ⟨m - 1, by omega⟩
   simp only [sB, Cr]
   rw [gI (Nat.le_refl _), Nat.sub_self, axi]; simp
  ·intro i an ih c m mJ kb hm
   obtain ⟨m, rfl⟩ : ∃ j, m = j + 1 := ⟨m - 1, by omega⟩
   simp only [sB, Cr]
   have Jd : i < d.Body.length := by omega
   rw [hx an, fp _ i Jd]
   simp only [cond_true, Option.bind_some, zi]
   obtain ⟨e, yF, Lh, vM⟩ := aw8 ab Jd
   rw [QJ _ ai i e yF, hg i q an (by omega)]
   simp only [Option.bind_some]
   have axk : nA (d.Body.drop i) (q - i) = (if d.Body[i].Kind = 4 ∧ q < i + e then 1 else 0) + nA (d.Body.drop (i + 1)) (q - (i + 1)) := by
    have QQ := yF
    rw [drop_cons _ i Jd] at QQ ⊢
    rw [show q - i = (q - (i + 1)) + 1 by omega]
    simp only [nA, Jc, QQ]
    congr 1
    by_cases ar : d.Body[i].Kind = 4
    ·by_cases rO : q < i + e
     ·rw [if_pos ⟨ar, by simp; omega⟩, if_pos ⟨ar, rO⟩]
     ·rw [if_neg (fun h => by simp at h; omega), if_neg (fun h => rO h.2)]
    ·rw [if_neg (fun h => ar h.1), if_neg (fun h => ar h.1)]
   rw [axk]
   by_cases ar : d.Body[i].Kind = 4
   ·have AH : (d.Body[i].Kind == 4) = true := by simpa using ar
    rw [AH, cond_true]
    by_cases rO : q < i + e
    ·rw [hx rO, cond_true, fW (c + 1) (by omega), ih (c + 1) m (by omega) (by omega) (by omega), if_pos ⟨ar, rO⟩]
     congr 1; omega
    ·rw [gI (by omega), cond_false, ih c m mJ (by omega) (by omega), if_neg (fun h => rO h.2)]
     congr 1; omega
   ·have AH : (d.Body[i].Kind == 4) = false := by simpa using ar
    rw [AH, cond_false, ih c m mJ (by omega) (by omega), if_neg (fun h => ar h.1)]
    congr 1; omega
 refine hE (q + 1) fun m hm => ?_
 have := key 0 (by omega) d.c_ m (by omega) (by omega) (by omega)
 simpa using this
def s6 : List bs → List cn → Nat → Option cn
 | _, [], _ => none
 | l, s :: st, q => match et l 1 with
   | none => none
   | some k => if q < k then some s else s6 (l.drop k) st (q - k)
theorem QR : ∀ (f : Nat) (r : List bs) (b : cn) (st : List cn) (k q : Nat), et r f = some k → s6 r (List.replicate f b ++ st) q = if q < k then some b else s6 (r.drop k) st (q - k)
 | 0, r, b, st, k, q, h => by rw [vd] at h; cases h; simp
 | f + 1, r, b, st, k, q, h => by
   rw [Nat.add_comm f 1] at h
   obtain ⟨bt, b0, af, ag, rfl⟩ := xB h
   rw [List.replicate_succ, List.cons_append]
   simp only [s6, af]
   by_cases cG : q < bt
   ·rw [if_pos cG, if_pos (by omega)]
   ·rw [if_neg cG, QR f _ b st b0 (q - bt) ag]
    by_cases QS : q - bt < b0
    ·rw [if_pos QS, if_pos (by omega)]
    ·rw [if_neg QS, if_neg (by omega), List.drop_drop, Nat.sub_sub]
theorem QT : ∀ (l : List bs) (st : List cn) (k : Nat), et l st.length = some k → ∀ q, q < k → ∃ s pl, s6 l st q = some s ∧ (gl l st)[q]? = some pl ∧ pl.scope = s.scope + (nA l q : Nat)
 | [], [], k, h, q, cG => by simp only [List.length_nil, et, Option.some.injEq] at h; omega
 | [], s :: st, k, h, q, cG => by simp [et] at h
 | p :: r, [], k, h, q, cG => by simp only [List.length_nil, et, Option.some.injEq] at h; omega
 | p :: r, s :: st, k, h, q, cG => by
   have bn := h
   obtain ⟨cL, bE, rfl⟩ := oZ.1 h
   rw [List.length_cons, Nat.add_comm st.length 1] at bn
   obtain ⟨e, b0, he, pe, ar⟩ := xB bn
   obtain ⟨gA, nN, rfl⟩ := oZ.1 he
   simp only [Nat.zero_add] at nN
   cases q with
   | zero =>
     refine ⟨s, s, ?_, rfl, ?_⟩
     ·simp only [s6, he]; rw [if_pos (by omega)]
     ·simp [nA]
   | succ q =>
     have hl : et r (List.replicate (dF p) (below p s) ++ st).length = some cL := by
      rw [List.length_append, List.length_replicate, Nat.add_comm]; exact bE
     obtain ⟨az, pl, af, ag, aF⟩ := QT r _ cL hl q (by omega)
     rw [QR _ _ _ _ gA q nN] at af
     simp only [gl, List.getElem?_cons_succ, s6, he, nA, Jc, decide_eq_true_eq]
     by_cases rO : q < gA
     ·rw [if_pos rO] at af
      simp only [Option.some.injEq] at af; subst af
      refine ⟨s, pl, by rw [if_pos (by omega)], ag, ?_⟩
      rw [aF]
      by_cases Ew : p.Kind = 4
      ·rw [if_pos ⟨Ew, by omega⟩]; simp only [below, if_pos Ew]; omega
      ·rw [if_neg (fun h => Ew h.1)]; simp only [below, if_neg Ew]; omega
     ·rw [if_neg rO] at af
      refine ⟨az, pl, ?_, ag, ?_⟩
      ·rw [if_neg (by omega), List.drop_succ_cons, show q + 1 - (gA + 1) = q - gA by omega]; exact af
      ·rw [aF, if_neg (fun h => by omega)]; omega
theorem axl {p : bs} (h : dF p = 0) : (p.Kind == 1) = false := by
 unfold dF at h
 split at h
 ·omega
 ·rename_i bc; simp only [beq_eq_false_iff_ne]; exact fun e => bc (.inl e)
theorem axm {p : bs} (h : dF p = 2) : (p.Kind == 1) = false := by
 unfold dF at h
 split at h
 ·omega
 ·rename_i bc; simp only [beq_eq_false_iff_ne]; exact fun e => bc (.inl e)
def Je (b : List bs) : Nat → Bool
 | 0 => false
 | q + 1 => match b[q]? with
   | some p => p.Kind == 1
   | none => false
theorem QU : ∀ (l : List bs) (st : List cn), (∀ s ∈ st.tail, s.behind = false) → ∀ (q : Nat) (pl : cn), (gl l st)[q]? = some pl →
  pl.behind = match q with
   | 0 => match st with
     | s :: _ => s.behind
     | [] => false
   | q + 1 => match l[q]? with
     | some p => p.Kind == 1
     | none => false
 | [], st, _, q, pl, h => by simp [gl] at h
 | p :: r, [], _, q, pl, h => by simp [gl] at h
 | p :: r, s :: st, xC, q, pl, h => by
   cases q with
   | zero => simp only [gl, List.getElem?_cons_zero, Option.some.injEq] at h; subst h; rfl
   | succ q =>
     simp only [gl, List.getElem?_cons_succ] at h
     have axn : ∀ az ∈ (List.replicate (dF p) (below p s) ++ st).tail, az.behind = false := by
      intro az fj
      have bz := xA p
      rcases (by omega : dF p = 0 ∨ dF p = 1 ∨ dF p = 2) with bz | bz | bz
      ·rw [bz] at fj; simp only [List.replicate_zero, List.nil_append] at fj
       exact xC az (by simpa using List.mem_of_mem_tail fj)
      ·rw [bz] at fj; simp only [List.replicate_succ, List.replicate_zero, List.cons_append, List.nil_append, List.tail_cons] at fj
       exact xC az (by simpa using fj)
      ·rw [bz] at fj; simp only [List.replicate_succ, List.replicate_zero, List.cons_append, List.nil_append, List.tail_cons, List.mem_cons] at fj
       rcases fj with rfl | fj
       ·exact axm bz
       ·exact xC az (by simpa using fj)
     have ih := QU r _ axn q pl h
     rw [ih]
     cases q with
     | succ q => rfl
     | zero =>
       simp only [List.getElem?_cons_zero]
       have bz := xA p
       rcases (by omega : dF p = 0 ∨ dF p = 1 ∨ dF p = 2) with bz | bz | bz
       ·rw [bz, axl bz]
        simp only [List.replicate_zero, List.nil_append]
        cases st with
        | nil => rfl
        | cons s2 st => exact xC s2 (by simp)
       ·rw [bz]; rfl
       ·rw [bz]; rfl
theorem axo (l : List bs) (s : cn) (ab : s.behind = false) (q : Nat) (pl : cn) (h : (gl l [s])[q]? = some pl) : pl.behind = Je l q := by
 rw [QU l [s] (fun s ab => by simp at ab) q pl h]
 cases q with
 | zero => exact ab
 | succ q => rfl
end Go.eR
