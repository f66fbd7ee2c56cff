/- Part of a proof that a law returns true for every input. No condition. -/
import Derived.Test.YtgpmnlkgmadglaaGreatDoorUD2
namespace Go.eV
open Go Go.c0
theorem N_ (d : bm) (ai : d.Body.length ≤ 1048576) : ∀ (n at_ k : Nat) (s : cm) (out : List cm), out.length = d.Body.length → ee (d.Body.drop at_) 1 = some k → k ≤ n → 0 ≤ s.scope → s.scope + k ≤ 1000000 →
  sr n (at_ : Int) s out d = some (((at_ + k : Nat) : Int), patch out at_ (gO (d.Body.drop at_) [s]))
 | 0, at_, k, s, out, cg, he, az, bc, ag => by have := s4 he; omega
 | n + 1, at_, k, s, out, cg, he, az, bc, ag => by
   have l := s4 he
   rw [List.length_drop] at l
   have al : at_ < d.Body.length := by omega
   rw [drop_cons _ at_ al] at he ⊢
   obtain ⟨db, mH, rfl⟩ := oK.1 he
   simp only [Nat.zero_add] at mH
   have br := vf d.Body[at_]
   have avp := N8 (n := n) ai (N_ d ai n) (below d.Body[at_] s).scope d.Body[at_] (eU d.Body[at_]) br (eU d.Body[at_]) 0 (at_ + 1) db (patch out at_ [s])
   have hlen : (gO (d.Body.drop (at_ + 1)) (List.replicate (eU d.Body[at_]) (below d.Body[at_] s) ++ [])).length = db := by
    rw [List.append_nil]; exact vg (by rw [List.length_replicate]; exact mH)
   have avq : (at_ + 1 + db : Nat) = at_ + (db + 1) := by omega
   have ab : 0 ≤ (below d.Body[at_] s).scope ∧ (below d.Body[at_] s).scope + db ≤ 1000000 := by
    unfold below; simp only; split <;> omega
   have key : (cZ fun m => qU (sr n) d (below d.Body[at_] s).scope d.Body[at_] ((eU d.Body[at_] : Nat) : Int) m (List.set out (Int.toNat (at_ : Int)) s) (IntKind.i64.wrap ((at_ : Int) + 1)) 0) =
     some (((at_ + (db + 1) : Nat) : Int), patch out at_ (gO (d.Body[at_] :: d.Body.drop (at_ + 1)) [s])) := by
    refine iH (eU d.Body[at_] + 1) fun m hm => ?_
    rw [Int.toNat_natCast, avl (by omega), ga at_ _ al (by omega)]
    have h := avp m (by omega) (by omega) (by rw [N6 (by simp; omega), cg]) mH (by omega) ab.1 ab.2
    rw [show ((0 : Nat) : Int) = 0 from rfl] at h
    rw [h, avq]
    congr 2
    have avr : (gO (d.Body.drop (at_ + 1)) (List.replicate (eU d.Body[at_]) ⟨(below d.Body[at_] s).scope, d.Body[at_].Kind == 1⟩)).length = db := vg (by rw [List.length_replicate]; exact mH)
    rw [N7 (i := at_) (a := [s]) (j := at_ + 1) rfl (by rw [avr, List.length_singleton]; omega)]
    simp only [gO, List.append_nil, List.singleton_append]
    rfl
   simp only [sr, ES]
   rw [gG out at_ (by omega), gG _ at_ al]
   simp only [Option.bind_some, AM, N3]
   by_cases a_ : d.Body[at_].Kind = 4
   ·have e : (d.Body[at_].Kind == 4) = true := by simpa using a_
    have aX : (below d.Body[at_] s).scope = s.scope + 1 := by simp [below, a_]
    rw [e, cond_true, avm s.scope bc (by omega), ← aX]
    exact key
   ·have e : (d.Body[at_].Kind == 4) = false := by simpa using a_
    have aX : (below d.Body[at_] s).scope = s.scope := by simp [below, a_]
    rw [e, cond_false]
    conv => lhs; rw [show s.scope = (below d.Body[at_] s).scope from aX.symm]
    exact key
theorem Oa (d : bm) (ai : d.Body.length ≤ 1048576) (ad : ee d.Body 1 = some d.Body.length) (bc : 0 ≤ d.dL) (ag : d.dL + d.Body.length ≤ 1000000) :
  uL d = some (gO d.Body [⟨d.dL, false⟩]) := by
 unfold uL
 rw [oE 16 ai (by decide)]
 simp only [Option.bind_some]
 have hlen : (gO d.Body [⟨d.dL, false⟩]).length = d.Body.length := vg (st := [_]) ad
 have : AN 0 ⟨d.dL, false⟩ (List.replicate (Int.toNat (d.Body.length : Int)) ⟨0, false⟩) d = some ((d.Body.length : Int), gO d.Body [⟨d.dL, false⟩]) := by
  unfold AN
  refine iH d.Body.length fun m hm => ?_
  have := N_ d ai m 0 d.Body.length ⟨d.dL, false⟩ (List.replicate (Int.toNat (d.Body.length : Int)) ⟨0, false⟩) (by simp) (by simpa using ad) hm bc ag
  rw [show ((0 : Nat) : Int) = 0 from rfl] at this
  rw [this, Nat.zero_add, List.drop_zero]
  congr 2
  unfold patch
  rw [Nat.zero_add, hlen, List.drop_of_length_le (by simp)]
  simp
 rw [this]; rfl
def Gw (l : List b7) (q : Nat) : Bool := match ee l 1 with
 | some e => decide (q < e)
 | none => false
def mv : List b7 → Nat → Nat
 | [], _ => 0
 | _ :: _, 0 => 0
 | p :: r, q + 1 => (if p.Kind = 4 ∧ Gw (p :: r) (q + 1) = true then 1 else 0) + mv r q
theorem avs (l : List b7) : mv l 0 = 0 := by cases l <;> rfl
theorem Ob : ∀ (l : List b7) (q : Nat), mv l q ≤ q
 | [], q => by simp [mv]
 | _ :: _, 0 => by simp [mv]
 | p :: r, q + 1 => by
   have := Ob r q
   simp only [mv]; split <;> omega
theorem avt (d : bm) (ai : d.Body.length ≤ 1048576) (ad : ee d.Body 1 = some d.Body.length) (bc : -1000000 ≤ d.dL ∧ d.dL ≤ 1000000) (q : Nat) (cv : q < d.Body.length) :
  qM d (q : Int) = some (d.dL + (mv d.Body q : Nat)) := by
 unfold qM
 have key : ∀ i, i ≤ q → ∀ (c : Int) m, -1000000 ≤ c → c ≤ 1000000 + i → q - i < m → qL d (q : Int) m c (i : Int) = some (c + (mv (d.Body.drop i) (q - i) : Nat)) := by
  refine down q ?_ ?_
  ·intro c m _ _ hm
   obtain ⟨m, rfl⟩ : ∃ j, m = j + 1 := ⟨m - 1, by omega⟩
   simp only [qL, z8]
   rw [gr (Nat.le_refl _), Nat.sub_self, avs]; simp
  ·intro i al ih c m mD l9 hm
   obtain ⟨m, rfl⟩ : ∃ j, m = j + 1 := ⟨m - 1, by omega⟩
   simp only [qL, z8]
   have Gx : i < d.Body.length := by omega
   rw [gb al, gG _ i Gx]
   simp only [cond_true, Option.bind_some, xc]
   obtain ⟨e, wm, Ix, tA⟩ := avf ad Gx
   rw [avi _ ai i e wm, ga i q al (by omega)]
   simp only [Option.bind_some]
   have avu : mv (d.Body.drop i) (q - i) = (if d.Body[i].Kind = 4 ∧ q < i + e then 1 else 0) + mv (d.Body.drop (i + 1)) (q - (i + 1)) := by
    have Oc := wm
    rw [drop_cons _ i Gx] at Oc ⊢
    rw [show q - i = (q - (i + 1)) + 1 by omega]
    simp only [mv, Gw, Oc]
    congr 1
    by_cases az : d.Body[i].Kind = 4
    ·by_cases qc : q < i + e
     ·rw [if_pos ⟨az, by simp; omega⟩, if_pos ⟨az, qc⟩]
     ·rw [if_neg (fun h => by simp at h; omega), if_neg (fun h => qc h.2)]
    ·rw [if_neg (fun h => az h.1), if_neg (fun h => az h.1)]
   rw [avu]
   by_cases az : d.Body[i].Kind = 4
   ·have Gy : (d.Body[i].Kind == 4) = true := by simpa using az
    rw [Gy, cond_true]
    by_cases qc : q < i + e
    ·rw [gb qc, cond_true, hg (c + 1) (by omega), ih (c + 1) m (by omega) (by omega) (by omega), if_pos ⟨az, qc⟩]
     congr 1; omega
    ·rw [gr (by omega), cond_false, ih c m mD (by omega) (by omega), if_neg (fun h => qc h.2)]
     congr 1; omega
   ·have Gy : (d.Body[i].Kind == 4) = false := by simpa using az
    rw [Gy, cond_false, ih c m mD (by omega) (by omega), if_neg (fun h => az h.1)]
    congr 1; omega
 refine iH (q + 1) fun m hm => ?_
 have := key 0 (by omega) d.dL m (by omega) (by omega) (by omega)
 simpa using this
def rb : List b7 → List cm → Nat → Option cm
 | _, [], _ => none
 | l, s :: st, q => match ee l 1 with
   | none => none
   | some k => if q < k then some s else rb (l.drop k) st (q - k)
theorem Od : ∀ (f : Nat) (r : List b7) (b : cm) (st : List cm) (k q : Nat), ee r f = some k → rb r (List.replicate f b ++ st) q = if q < k then some b else rb (r.drop k) st (q - k)
 | 0, r, b, st, k, q, h => by rw [yk] at h; cases h; simp
 | f + 1, r, b, st, k, q, h => by
   rw [Nat.add_comm f 1] at h
   obtain ⟨bU, cb, ag, ah, rfl⟩ := yl h
   rw [List.replicate_succ, List.cons_append]
   simp only [rb, ag]
   by_cases cv : q < bU
   ·rw [if_pos cv, if_pos (by omega)]
   ·rw [if_neg cv, Od f _ b st cb (q - bU) ah]
    by_cases Oe : q - bU < cb
    ·rw [if_pos Oe, if_pos (by omega)]
    ·rw [if_neg Oe, if_neg (by omega), List.drop_drop, Nat.sub_sub]
theorem Of : ∀ (l : List b7) (st : List cm) (k : Nat), ee l st.length = some k → ∀ q, q < k → ∃ s pl, rb l st q = some s ∧ (gO l st)[q]? = some pl ∧ pl.scope = s.scope + (mv l q : Nat)
 | [], [], k, h, q, cv => by simp only [List.length_nil, ee, Option.some.injEq] at h; omega
 | [], s :: st, k, h, q, cv => by simp [ee] at h
 | p :: r, [], k, h, q, cv => by simp only [List.length_nil, ee, Option.some.injEq] at h; omega
 | p :: r, s :: st, k, h, q, cv => by
   have bc := h
   obtain ⟨db, bx, rfl⟩ := oK.1 h
   rw [List.length_cons, Nat.add_comm st.length 1] at bc
   obtain ⟨e, cb, he, nV, az⟩ := yl bc
   obtain ⟨gI, mH, rfl⟩ := oK.1 he
   simp only [Nat.zero_add] at mH
   cases q with
   | zero =>
     refine ⟨s, s, ?_, rfl, ?_⟩
     ·simp only [rb, he]; rw [if_pos (by omega)]
     ·simp [mv]
   | succ q =>
     have aR : ee r (List.replicate (eU p) (below p s) ++ st).length = some db := by
      rw [List.length_append, List.length_replicate, Nat.add_comm]; exact bx
     obtain ⟨aA, pl, ag, ah, aI⟩ := Of r _ db aR q (by omega)
     rw [Od _ _ _ _ gI q mH] at ag
     simp only [gO, List.getElem?_cons_succ, rb, he, mv, Gw, decide_eq_true_eq]
     by_cases qc : q < gI
     ·rw [if_pos qc] at ag
      simp only [Option.some.injEq] at ag; subst ag
      refine ⟨s, pl, by rw [if_pos (by omega)], ah, ?_⟩
      rw [aI]
      by_cases Cc : p.Kind = 4
      ·rw [if_pos ⟨Cc, by omega⟩]; simp only [below, if_pos Cc]; omega
      ·rw [if_neg (fun h => Cc h.1)]; simp only [below, if_neg Cc]; omega
     ·rw [if_neg qc] at ag
      refine ⟨aA, pl, ?_, ah, ?_⟩
      ·rw [if_neg (by omega), List.drop_succ_cons, show q + 1 - (gI + 1) = q - gI by omega]; exact ag
      ·rw [aI, if_neg (fun h => by omega)]; omega
theorem avv {p : b7} (h : eU p = 0) : (p.Kind == 1) = false := by
 unfold eU at h
 split at h
 ·omega
 ·rename_i aY; simp only [beq_eq_false_iff_ne]; exact fun e => aY (.inl e)
theorem avw {p : b7} (h : eU p = 2) : (p.Kind == 1) = false := by
 unfold eU at h
 split at h
 ·omega
 ·rename_i aY; simp only [beq_eq_false_iff_ne]; exact fun e => aY (.inl e)
def Gz (b : List b7) : Nat → Bool
 | 0 => false
 | q + 1 => match b[q]? with
   | some p => p.Kind == 1
   | none => false
theorem Og : ∀ (l : List b7) (st : List cm), (∀ s ∈ st.tail, s.behind = false) → ∀ (q : Nat) (pl : cm), (gO l st)[q]? = some pl →
  pl.behind = match q with
   | 0 => match st with
     | s :: _ => s.behind
     | [] => false
   | q + 1 => match l[q]? with
     | some p => p.Kind == 1
     | none => false
 | [], st, _, q, pl, h => by simp [gO] at h
 | p :: r, [], _, q, pl, h => by simp [gO] at h
 | p :: r, s :: st, Cd, q, pl, h => by
   cases q with
   | zero => simp only [gO, List.getElem?_cons_zero, Option.some.injEq] at h; subst h; rfl
   | succ q =>
     simp only [gO, List.getElem?_cons_succ] at h
     have avx : ∀ aA ∈ (List.replicate (eU p) (below p s) ++ st).tail, aA.behind = false := by
      intro aA fj
      have br := vf p
      rcases (by omega : eU p = 0 ∨ eU p = 1 ∨ eU p = 2) with br | br | br
      ·rw [br] at fj; simp only [List.replicate_zero, List.nil_append] at fj
       exact Cd aA (by simpa using List.mem_of_mem_tail fj)
      ·rw [br] at fj; simp only [List.replicate_succ, List.replicate_zero, List.cons_append, List.nil_append, List.tail_cons] at fj
       exact Cd aA (by simpa using fj)
      ·rw [br] at fj; simp only [List.replicate_succ, List.replicate_zero, List.cons_append, List.nil_append, List.tail_cons, List.mem_cons] at fj
       rcases fj with rfl | fj
       ·exact avw br
       ·exact Cd aA (by simpa using fj)
     have ih := Og r _ avx q pl h
     rw [ih]
     cases q with
     | succ q => rfl
     | zero =>
       simp only [List.getElem?_cons_zero]
       have br := vf p
       rcases (by omega : eU p = 0 ∨ eU p = 1 ∨ eU p = 2) with br | br | br
       ·rw [br, avv br]
        simp only [List.replicate_zero, List.nil_append]
        cases st with
        | nil => rfl
        | cons s2 st => exact Cd s2 (by simp)
       ·rw [br]; rfl
       ·rw [br]; rfl
theorem avy (l : List b7) (s : cm) (ad : s.behind = false) (q : Nat) (pl : cm) (h : (gO l [s])[q]? = some pl) : pl.behind = Gz l q := by
 rw [Og l [s] (fun s ad => by simp at ad) q pl h]
 cases q with
 | zero => exact ad
 | succ q => rfl
end Go.eV
