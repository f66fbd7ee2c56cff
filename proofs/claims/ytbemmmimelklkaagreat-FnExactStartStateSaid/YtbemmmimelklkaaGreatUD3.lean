/- Part of a proof that a law returns true for every input. No condition. -/
import Derived.Test.YtbemmmimelklkaaGreatUD2
namespace Go.f_
open Go Go.dk
theorem MJ (d : bb) (al : d.Body.length ≤ 1048576) : ∀ (n at_ k : Nat) (s : cn) (out : List cn), out.length = d.Body.length → en (d.Body.drop at_) 1 = some k → k ≤ n → 0 ≤ s.scope → s.scope + k ≤ 1000000 →
  r3 n (at_ : Int) s out d = some (((at_ + k : Nat) : Int), patch out at_ (gN (d.Body.drop at_) [s]))
 | 0, at_, k, s, out, cm, he, aE, a9, ai => by have := sN he; omega
 | n + 1, at_, k, s, out, cm, he, aE, a9, ai => by
   have l := sN he
   rw [List.length_drop] at l
   have au : at_ < d.Body.length := by omega
   rw [drop_cons _ at_ au] at he ⊢
   obtain ⟨df, mw, rfl⟩ := oq.1 he
   simp only [Nat.zero_add] at mw
   have bH := u3 d.Body[at_]
   have atz := MH (n := n) al (MJ d al n) (below d.Body[at_] s).scope d.Body[at_] (ew d.Body[at_]) bH (ew d.Body[at_]) 0 (at_ + 1) df (patch out at_ [s])
   have hlen : (gN (d.Body.drop (at_ + 1)) (List.replicate (ew d.Body[at_]) (below d.Body[at_] s) ++ [])).length = df := by
    rw [List.append_nil]; exact u4 (by rw [List.length_replicate]; exact mw)
   have atA : (at_ + 1 + df : Nat) = at_ + (df + 1) := by omega
   have ae : 0 ≤ (below d.Body[at_] s).scope ∧ (below d.Body[at_] s).scope + df ≤ 1000000 := by
    unfold below; simp only; split <;> omega
   have key : (cV fun m => qw (r3 n) d (below d.Body[at_] s).scope d.Body[at_] ((ew d.Body[at_] : Nat) : Int) m (List.set out (Int.toNat (at_ : Int)) s) (IntKind.i64.wrap ((at_ : Int) + 1)) 0) =
     some (((at_ + (df + 1) : Nat) : Int), patch out at_ (gN (d.Body[at_] :: d.Body.drop (at_ + 1)) [s])) := by
    refine iS (ew d.Body[at_] + 1) fun m hm => ?_
    rw [Int.toNat_natCast, atv (by omega), gL at_ _ au (by omega)]
    have h := atz m (by omega) (by omega) (by rw [MF (by simp; omega), cm]) mw (by omega) ae.1 ae.2
    rw [show ((0 : Nat) : Int) = 0 from rfl] at h
    rw [h, atA]
    congr 2
    have atB : (gN (d.Body.drop (at_ + 1)) (List.replicate (ew d.Body[at_]) ⟨(below d.Body[at_] s).scope, d.Body[at_].Kind == 1⟩)).length = df := u4 (by rw [List.length_replicate]; exact mw)
    rw [MG (i := at_) (a := [s]) (j := at_ + 1) rfl (by rw [atB, List.length_singleton]; omega)]
    simp only [gN, List.append_nil, List.singleton_append]
    rfl
   simp only [r3, EC]
   rw [h2 out at_ (by omega), h2 _ at_ au]
   simp only [Option.bind_some, Au, MC]
   by_cases bd : d.Body[at_].Kind = 4
   ·have e : (d.Body[at_].Kind == 4) = true := by simpa using bd
    have a_ : (below d.Body[at_] s).scope = s.scope + 1 := by simp [below, bd]
    rw [e, cond_true, atw s.scope a9 (by omega), ← a_]
    exact key
   ·have e : (d.Body[at_].Kind == 4) = false := by simpa using bd
    have a_ : (below d.Body[at_] s).scope = s.scope := by simp [below, bd]
    rw [e, cond_false]
    conv => lhs; rw [show s.scope = (below d.Body[at_] s).scope from a_.symm]
    exact key
theorem atC (d : bb) (al : d.Body.length ≤ 1048576) (ah : en d.Body 1 = some d.Body.length) (a9 : 0 ≤ d.dc) (ai : d.dc + d.Body.length ≤ 1000000) :
  Aw d = some (gN d.Body [⟨d.dc, false⟩]) := by
 unfold Aw
 rw [pH 16 al (by decide)]
 simp only [Option.bind_some]
 have hlen : (gN d.Body [⟨d.dc, false⟩]).length = d.Body.length := u4 (st := [_]) ah
 have : Av 0 ⟨d.dc, false⟩ (List.replicate (Int.toNat (d.Body.length : Int)) ⟨0, false⟩) d = some ((d.Body.length : Int), gN d.Body [⟨d.dc, false⟩]) := by
  unfold Av
  refine iS d.Body.length fun m hm => ?_
  have := MJ d al m 0 d.Body.length ⟨d.dc, false⟩ (List.replicate (Int.toNat (d.Body.length : Int)) ⟨0, false⟩) (by simp) (by simpa using ah) hm a9 ai
  rw [show ((0 : Nat) : Int) = 0 from rfl] at this
  rw [this, Nat.zero_add, List.drop_zero]
  congr 2
  unfold patch
  rw [Nat.zero_add, hlen, List.drop_of_length_le (by simp)]
  simp
 rw [this]; rfl
def FR (l : List bz) (q : Nat) : Bool := match en l 1 with
 | some e => decide (q < e)
 | none => false
def mh : List bz → Nat → Nat
 | [], _ => 0
 | _ :: _, 0 => 0
 | p :: r, q + 1 => (if p.Kind = 4 ∧ FR (p :: r) (q + 1) = true then 1 else 0) + mh r q
theorem atD (l : List bz) : mh l 0 = 0 := by cases l <;> rfl
theorem MK : ∀ (l : List bz) (q : Nat), mh l q ≤ q
 | [], q => by simp [mh]
 | _ :: _, 0 => by simp [mh]
 | p :: r, q + 1 => by
   have := MK r q
   simp only [mh]; split <;> omega
theorem atE (d : bb) (al : d.Body.length ≤ 1048576) (ah : en d.Body 1 = some d.Body.length) (a9 : -1000000 ≤ d.dc ∧ d.dc ≤ 1000000) (q : Nat) (dd : q < d.Body.length) :
  uo d (q : Int) = some (d.dc + (mh d.Body q : Nat)) := by
 unfold uo
 have key : ∀ i, i ≤ q → ∀ (c : Int) m, -1000000 ≤ c → c ≤ 1000000 + i → q - i < m → qs d (q : Int) m c (i : Int) = some (c + (mh (d.Body.drop i) (q - i) : Nat)) := by
  refine down q ?_ ?_
  ·intro c m _ _ hm
   obtain ⟨m, rfl⟩ : ∃ j, m = j + 1 := ⟨m - 1, by omega⟩
   simp only [qs, z0]
   rw [fH (Nat.le_refl _), Nat.sub_self, atD]; simp
  ·intro i au ih c m mr lQ hm
   obtain ⟨m, rfl⟩ : ∃ j, m = j + 1 := ⟨m - 1, by omega⟩
   simp only [qs, z0]
   have FT : i < d.Body.length := by omega
   rw [gM au, h2 _ i FT]
   simp only [cond_true, Option.bind_some, wK]
   obtain ⟨e, vP, HA, tm⟩ := atp ah FT
   rw [ats _ al i e vP, gL i q au (by omega)]
   simp only [Option.bind_some]
   have atF : mh (d.Body.drop i) (q - i) = (if d.Body[i].Kind = 4 ∧ q < i + e then 1 else 0) + mh (d.Body.drop (i + 1)) (q - (i + 1)) := by
    have ML := vP
    rw [drop_cons _ i FT] at ML ⊢
    rw [show q - i = (q - (i + 1)) + 1 by omega]
    simp only [mh, FR, ML]
    congr 1
    by_cases aE : d.Body[i].Kind = 4
    ·by_cases pL : q < i + e
     ·rw [if_pos ⟨aE, by simp; omega⟩, if_pos ⟨aE, pL⟩]
     ·rw [if_neg (fun h => by simp at h; omega), if_neg (fun h => pL h.2)]
    ·rw [if_neg (fun h => aE h.1), if_neg (fun h => aE h.1)]
   rw [atF]
   by_cases aE : d.Body[i].Kind = 4
   ·have FU : (d.Body[i].Kind == 4) = true := by simpa using aE
    rw [FU, cond_true]
    by_cases pL : q < i + e
    ·rw [gM pL, cond_true, fQ (c + 1) (by omega), ih (c + 1) m (by omega) (by omega) (by omega), if_pos ⟨aE, pL⟩]
     congr 1; omega
    ·rw [fH (by omega), cond_false, ih c m mr (by omega) (by omega), if_neg (fun h => pL h.2)]
     congr 1; omega
   ·have FU : (d.Body[i].Kind == 4) = false := by simpa using aE
    rw [FU, cond_false, ih c m mr (by omega) (by omega), if_neg (fun h => aE h.1)]
    congr 1; omega
 refine iS (q + 1) fun m hm => ?_
 have := key 0 (by omega) d.dc m (by omega) (by omega) (by omega)
 simpa using this
def qO : List bz → List cn → Nat → Option cn
 | _, [], _ => none
 | l, s :: st, q => match en l 1 with
   | none => none
   | some k => if q < k then some s else qO (l.drop k) st (q - k)
theorem MM : ∀ (f : Nat) (r : List bz) (b : cn) (st : List cn) (k q : Nat), en r f = some k → qO r (List.replicate f b ++ st) q = if q < k then some b else qO (r.drop k) st (q - k)
 | 0, r, b, st, k, q, h => by rw [x9] at h; cases h; simp
 | f + 1, r, b, st, k, q, h => by
   rw [Nat.add_comm f 1] at h
   obtain ⟨b5, cu, ai, aj, rfl⟩ := x_ h
   rw [List.replicate_succ, List.cons_append]
   simp only [qO, ai]
   by_cases dd : q < b5
   ·rw [if_pos dd, if_pos (by omega)]
   ·rw [if_neg dd, MM f _ b st cu (q - b5) aj]
    by_cases MN : q - b5 < cu
    ·rw [if_pos MN, if_pos (by omega)]
    ·rw [if_neg MN, if_neg (by omega), List.drop_drop, Nat.sub_sub]
theorem MO : ∀ (l : List bz) (st : List cn) (k : Nat), en l st.length = some k → ∀ q, q < k → ∃ s pl, qO l st q = some s ∧ (gN l st)[q]? = some pl ∧ pl.scope = s.scope + (mh l q : Nat)
 | [], [], k, h, q, dd => by simp only [List.length_nil, en, Option.some.injEq] at h; omega
 | [], s :: st, k, h, q, dd => by simp [en] at h
 | p :: r, [], k, h, q, dd => by simp only [List.length_nil, en, Option.some.injEq] at h; omega
 | p :: r, s :: st, k, h, q, dd => by
   have a9 := h
   obtain ⟨df, bD, rfl⟩ := oq.1 h
   rw [List.length_cons, Nat.add_comm st.length 1] at a9
   obtain ⟨e, cu, he, qW, aE⟩ := x_ a9
   obtain ⟨gE, mw, rfl⟩ := oq.1 he
   simp only [Nat.zero_add] at mw
   cases q with
   | zero =>
     refine ⟨s, s, ?_, rfl, ?_⟩
     ·simp only [qO, he]; rw [if_pos (by omega)]
     ·simp [mh]
   | succ q =>
     have hl : en r (List.replicate (ew p) (below p s) ++ st).length = some df := by
      rw [List.length_append, List.length_replicate, Nat.add_comm]; exact bD
     obtain ⟨aA, pl, ai, aj, aQ⟩ := MO r _ df hl q (by omega)
     rw [MM _ _ _ _ gE q mw] at ai
     simp only [gN, List.getElem?_cons_succ, qO, he, mh, FR, decide_eq_true_eq]
     by_cases pL : q < gE
     ·rw [if_pos pL] at ai
      simp only [Option.some.injEq] at ai; subst ai
      refine ⟨s, pl, by rw [if_pos (by omega)], aj, ?_⟩
      rw [aQ]
      by_cases B2 : p.Kind = 4
      ·rw [if_pos ⟨B2, by omega⟩]; simp only [below, if_pos B2]; omega
      ·rw [if_neg (fun h => B2 h.1)]; simp only [below, if_neg B2]; omega
     ·rw [if_neg pL] at ai
      refine ⟨aA, pl, ?_, aj, ?_⟩
      ·rw [if_neg (by omega), List.drop_succ_cons, show q + 1 - (gE + 1) = q - gE by omega]; exact ai
      ·rw [aQ, if_neg (fun h => by omega)]; omega
theorem atG {p : bz} (h : ew p = 0) : (p.Kind == 1) = false := by
 unfold ew at h
 split at h
 ·omega
 ·rename_i bg; simp only [beq_eq_false_iff_ne]; exact fun e => bg (.inl e)
theorem atH {p : bz} (h : ew p = 2) : (p.Kind == 1) = false := by
 unfold ew at h
 split at h
 ·omega
 ·rename_i bg; simp only [beq_eq_false_iff_ne]; exact fun e => bg (.inl e)
def FV (b : List bz) : Nat → Bool
 | 0 => false
 | q + 1 => match b[q]? with
   | some p => p.Kind == 1
   | none => false
theorem MP : ∀ (l : List bz) (st : List cn), (∀ s ∈ st.tail, s.behind = false) → ∀ (q : Nat) (pl : cn), (gN l st)[q]? = some pl →
  pl.behind = match q with
   | 0 => match st with
     | s :: _ => s.behind
     | [] => false
   | q + 1 => match l[q]? with
     | some p => p.Kind == 1
     | none => false
 | [], st, _, q, pl, h => by simp [gN] at h
 | p :: r, [], _, q, pl, h => by simp [gN] at h
 | p :: r, s :: st, B3, q, pl, h => by
   cases q with
   | zero => simp only [gN, List.getElem?_cons_zero, Option.some.injEq] at h; subst h; rfl
   | succ q =>
     simp only [gN, List.getElem?_cons_succ] at h
     have atI : ∀ aA ∈ (List.replicate (ew p) (below p s) ++ st).tail, aA.behind = false := by
      intro aA fs
      have bH := u3 p
      rcases (by omega : ew p = 0 ∨ ew p = 1 ∨ ew p = 2) with bH | bH | bH
      ·rw [bH] at fs; simp only [List.replicate_zero, List.nil_append] at fs
       exact B3 aA (by simpa using List.mem_of_mem_tail fs)
      ·rw [bH] at fs; simp only [List.replicate_succ, List.replicate_zero, List.cons_append, List.nil_append, List.tail_cons] at fs
       exact B3 aA (by simpa using fs)
      ·rw [bH] at fs; simp only [List.replicate_succ, List.replicate_zero, List.cons_append, List.nil_append, List.tail_cons, List.mem_cons] at fs
       rcases fs with rfl | fs
       ·exact atH bH
       ·exact B3 aA (by simpa using fs)
     have ih := MP r _ atI q pl h
     rw [ih]
     cases q with
     | succ q => rfl
     | zero =>
       simp only [List.getElem?_cons_zero]
       have bH := u3 p
       rcases (by omega : ew p = 0 ∨ ew p = 1 ∨ ew p = 2) with bH | bH | bH
       ·rw [bH, atG bH]
        simp only [List.replicate_zero, List.nil_append]
        cases st with
        | nil => rfl
        | cons s2 st => exact B3 s2 (by simp)
       ·rw [bH]; rfl
       ·rw [bH]; rfl
theorem atJ (l : List bz) (s : cn) (ah : s.behind = false) (q : Nat) (pl : cn) (h : (gN l [s])[q]? = some pl) : pl.behind = FV l q := by
 rw [MP l [s] (fun s ah => by simp at ah) q pl h]
 cases q with
 | zero => exact ah
 | succ q => rfl
end Go.f_
