/- Part of a proof that a law returns true for every input. No condition. -/
import Derived.Test.YtbemmmimelklkaaUD2
namespace Go.eJ
open Go Go.cB
theorem IW (d : aV) (ah : d.Body.length ≤ 1048576) : ∀ (n at_ k : Nat) (s : b0) (out : List b0), out.length = d.Body.length → de (d.Body.drop at_) 1 = some k → k ≤ n → 0 ≤ s.scope → s.scope + k ≤ 1000000 →
  qo n (at_ : Int) s out d = some (((at_ + k : Nat) : Int), patch out at_ (fI (d.Body.drop at_) [s]))
 | 0, at_, k, s, out, bU, he, ay, bh, ab => by have := qV he; omega
 | n + 1, at_, k, s, out, bU, he, ay, bh, ab => by
   have l := qV he
   rw [List.length_drop] at l
   have ak : at_ < d.Body.length := by omega
   rw [drop_cons _ at_ ak] at he ⊢
   obtain ⟨cE, lg, rfl⟩ := mZ.1 he
   simp only [Nat.zero_add] at lg
   have bB := sN d.Body[at_]
   have af3 := IU (n := n) ah (IW d ah n) (below d.Body[at_] s).scope d.Body[at_] (dI d.Body[at_]) bB (dI d.Body[at_]) 0 (at_ + 1) cE (patch out at_ [s])
   have hlen : (fI (d.Body.drop (at_ + 1)) (List.replicate (dI d.Body[at_]) (below d.Body[at_] s) ++ [])).length = cE := by
    rw [List.append_nil]; exact sO (by rw [List.length_replicate]; exact lg)
   have af4 : (at_ + 1 + cE : Nat) = at_ + (cE + 1) := by omega
   have U : 0 ≤ (below d.Body[at_] s).scope ∧ (below d.Body[at_] s).scope + cE ≤ 1000000 := by
    unfold below; simp only; split <;> omega
   have key : (lim fun m => o4 (qo n) d (below d.Body[at_] s).scope d.Body[at_] ((dI d.Body[at_] : Nat) : Int) m (List.set out (Int.toNat (at_ : Int)) s) (IntKind.i64.wrap ((at_ : Int) + 1)) 0) =
     some (((at_ + (cE + 1) : Nat) : Int), patch out at_ (fI (d.Body[at_] :: d.Body.drop (at_ + 1)) [s])) := by
    refine ho (dI d.Body[at_] + 1) fun m hm => ?_
    rw [Int.toNat_natCast, afZ (by omega), gz at_ _ ak (by omega)]
    have h := af3 m (by omega) (by omega) (by rw [IP (by simp; omega), bU]) lg (by omega) U.1 U.2
    rw [show ((0 : Nat) : Int) = 0 from rfl] at h
    rw [h, af4]
    congr 2
    have af5 : (fI (d.Body.drop (at_ + 1)) (List.replicate (dI d.Body[at_]) ⟨(below d.Body[at_] s).scope, d.Body[at_].Kind == 1⟩)).length = cE := sO (by rw [List.length_replicate]; exact lg)
    rw [IQ (i := at_) (a := [s]) (j := at_ + 1) rfl (by rw [af5, List.length_singleton]; omega)]
    simp only [fI, List.append_nil, List.singleton_append]
    rfl
   simp only [qo, BH]
   rw [fa out at_ (by omega), fa _ at_ ak]
   simp only [Option.bind_some, xS, IK]
   by_cases bb : d.Body[at_].Kind = 4
   ·have e : (d.Body[at_].Kind == 4) = true := by simpa using bb
    have aP : (below d.Body[at_] s).scope = s.scope + 1 := by simp [below, bb]
    rw [e, cond_true, af0 s.scope bh (by omega), ← aP]
    exact key
   ·have e : (d.Body[at_].Kind == 4) = false := by simpa using bb
    have aP : (below d.Body[at_] s).scope = s.scope := by simp [below, bb]
    rw [e, cond_false]
    conv => lhs; rw [show s.scope = (below d.Body[at_] s).scope from aP.symm]
    exact key
theorem af6 (d : aV) (ah : d.Body.length ≤ 1048576) (aa : de d.Body 1 = some d.Body.length) (bh : 0 ≤ d.cS) (ab : d.cS + d.Body.length ≤ 1000000) :
  xU d = some (fI d.Body [⟨d.cS, false⟩]) := by
 unfold xU
 rw [vy 16 ah (by decide)]
 simp only [Option.bind_some]
 have hlen : (fI d.Body [⟨d.cS, false⟩]).length = d.Body.length := sO (st := [_]) aa
 have : xT 0 ⟨d.cS, false⟩ (List.replicate (Int.toNat (d.Body.length : Int)) ⟨0, false⟩) d = some ((d.Body.length : Int), fI d.Body [⟨d.cS, false⟩]) := by
  unfold xT
  refine ho d.Body.length fun m hm => ?_
  have := IW d ah m 0 d.Body.length ⟨d.cS, false⟩ (List.replicate (Int.toNat (d.Body.length : Int)) ⟨0, false⟩) (by simp) (by simpa using aa) hm bh ab
  rw [show ((0 : Nat) : Int) = 0 from rfl] at this
  rw [this, Nat.zero_add, List.drop_zero]
  congr 2
  unfold patch
  rw [Nat.zero_add, hlen, List.drop_of_length_le (by simp)]
  simp
 rw [this]; rfl
def CF (l : List bn) (q : Nat) : Bool := match de l 1 with
 | some e => decide (q < e)
 | none => false
def k5 : List bn → Nat → Nat
 | [], _ => 0
 | _ :: _, 0 => 0
 | p :: r, q + 1 => (if p.Kind = 4 ∧ CF (p :: r) (q + 1) = true then 1 else 0) + k5 r q
theorem af7 (l : List bn) : k5 l 0 = 0 := by cases l <;> rfl
theorem IX : ∀ (l : List bn) (q : Nat), k5 l q ≤ q
 | [], q => by simp [k5]
 | _ :: _, 0 => by simp [k5]
 | p :: r, q + 1 => by
   have := IX r q
   simp only [k5]; split <;> omega
theorem af8 (d : aV) (ah : d.Body.length ≤ 1048576) (aa : de d.Body 1 = some d.Body.length) (bh : -1000000 ≤ d.cS ∧ d.cS ≤ 1000000) (q : Nat) (cC : q < d.Body.length) :
  sc d (q : Int) = some (d.cS + (k5 d.Body q : Nat)) := by
 unfold sc
 have key : ∀ i, i ≤ q → ∀ (c : Int) m, -1000000 ≤ c → c ≤ 1000000 + i → q - i < m → oZ d (q : Int) m c (i : Int) = some (c + (k5 (d.Body.drop i) (q - i) : Nat)) := by
  refine down q ?_ ?_
  ·intro c m _ _ hm
   obtain ⟨m, rfl⟩ : ∃ j, m = j + 1 := ⟨m - 1, by omega⟩
   simp only [oZ, xr]
   rw [fQ (Nat.le_refl _), Nat.sub_self, af7]; simp
  ·intro i ak ih c m mx lG hm
   obtain ⟨m, rfl⟩ : ∃ j, m = j + 1 := ⟨m - 1, by omega⟩
   simp only [oZ, xr]
   have CG : i < d.Body.length := by omega
   rw [gA ak, fa _ i CG]
   simp only [cond_true, Option.bind_some, uj]
   obtain ⟨e, tC, En, rn⟩ := afT aa CG
   rw [afW _ ah i e tC, gz i q ak (by omega)]
   simp only [Option.bind_some]
   have af9 : k5 (d.Body.drop i) (q - i) = (if d.Body[i].Kind = 4 ∧ q < i + e then 1 else 0) + k5 (d.Body.drop (i + 1)) (q - (i + 1)) := by
    have IY := tC
    rw [drop_cons _ i CG] at IY ⊢
    rw [show q - i = (q - (i + 1)) + 1 by omega]
    simp only [k5, CF, IY]
    congr 1
    by_cases ay : d.Body[i].Kind = 4
    ·by_cases n_ : q < i + e
     ·rw [if_pos ⟨ay, by simp; omega⟩, if_pos ⟨ay, n_⟩]
     ·rw [if_neg (fun h => by simp at h; omega), if_neg (fun h => n_ h.2)]
    ·rw [if_neg (fun h => ay h.1), if_neg (fun h => ay h.1)]
   rw [af9]
   by_cases ay : d.Body[i].Kind = 4
   ·have CH : (d.Body[i].Kind == 4) = true := by simpa using ay
    rw [CH, cond_true]
    by_cases n_ : q < i + e
    ·rw [gA n_, cond_true, gh (c + 1) (by omega), ih (c + 1) m (by omega) (by omega) (by omega), if_pos ⟨ay, n_⟩]
     congr 1; omega
    ·rw [fQ (by omega), cond_false, ih c m mx (by omega) (by omega), if_neg (fun h => n_ h.2)]
     congr 1; omega
   ·have CH : (d.Body[i].Kind == 4) = false := by simpa using ay
    rw [CH, cond_false, ih c m mx (by omega) (by omega), if_neg (fun h => ay h.1)]
    congr 1; omega
 refine ho (q + 1) fun m hm => ?_
 have := key 0 (by omega) d.cS m (by omega) (by omega) (by omega)
 simpa using this
def pa : List bn → List b0 → Nat → Option b0
 | _, [], _ => none
 | l, s :: st, q => match de l 1 with
   | none => none
   | some k => if q < k then some s else pa (l.drop k) st (q - k)
theorem IZ : ∀ (f : Nat) (r : List bn) (b : b0) (st : List b0) (k q : Nat), de r f = some k → pa r (List.replicate f b ++ st) q = if q < k then some b else pa (r.drop k) st (q - k)
 | 0, r, b, st, k, q, h => by rw [vD] at h; cases h; simp
 | f + 1, r, b, st, k, q, h => by
   rw [Nat.add_comm f 1] at h
   obtain ⟨bN, b6, ab, af, rfl⟩ := vE h
   rw [List.replicate_succ, List.cons_append]
   simp only [pa, ab]
   by_cases cC : q < bN
   ·rw [if_pos cC, if_pos (by omega)]
   ·rw [if_neg cC, IZ f _ b st b6 (q - bN) af]
    by_cases I0 : q - bN < b6
    ·rw [if_pos I0, if_pos (by omega)]
    ·rw [if_neg I0, if_neg (by omega), List.drop_drop, Nat.sub_sub]
theorem I1 : ∀ (l : List bn) (st : List b0) (k : Nat), de l st.length = some k → ∀ q, q < k → ∃ s pl, pa l st q = some s ∧ (fI l st)[q]? = some pl ∧ pl.scope = s.scope + (k5 l q : Nat)
 | [], [], k, h, q, cC => by simp only [List.length_nil, de, Option.some.injEq] at h; omega
 | [], s :: st, k, h, q, cC => by simp [de] at h
 | p :: r, [], k, h, q, cC => by simp only [List.length_nil, de, Option.some.injEq] at h; omega
 | p :: r, s :: st, k, h, q, cC => by
   have bh := h
   obtain ⟨cE, bq, rfl⟩ := mZ.1 h
   rw [List.length_cons, Nat.add_comm st.length 1] at bh
   obtain ⟨e, b6, he, pt, ay⟩ := vE bh
   obtain ⟨ei, lg, rfl⟩ := mZ.1 he
   simp only [Nat.zero_add] at lg
   cases q with
   | zero =>
     refine ⟨s, s, ?_, rfl, ?_⟩
     ·simp only [pa, he]; rw [if_pos (by omega)]
     ·simp [k5]
   | succ q =>
     have hl : de r (List.replicate (dI p) (below p s) ++ st).length = some cE := by
      rw [List.length_append, List.length_replicate, Nat.add_comm]; exact bq
     obtain ⟨ao, pl, ab, af, aF⟩ := I1 r _ cE hl q (by omega)
     rw [IZ _ _ _ _ ei q lg] at ab
     simp only [fI, List.getElem?_cons_succ, pa, he, k5, CF, decide_eq_true_eq]
     by_cases n_ : q < ei
     ·rw [if_pos n_] at ab
      simp only [Option.some.injEq] at ab; subst ab
      refine ⟨s, pl, by rw [if_pos (by omega)], af, ?_⟩
      rw [aF]
      by_cases yW : p.Kind = 4
      ·rw [if_pos ⟨yW, by omega⟩]; simp only [below, if_pos yW]; omega
      ·rw [if_neg (fun h => yW h.1)]; simp only [below, if_neg yW]; omega
     ·rw [if_neg n_] at ab
      refine ⟨ao, pl, ?_, af, ?_⟩
      ·rw [if_neg (by omega), List.drop_succ_cons, show q + 1 - (ei + 1) = q - ei by omega]; exact ab
      ·rw [aF, if_neg (fun h => by omega)]; omega
theorem af_ {p : bn} (h : dI p = 0) : (p.Kind == 1) = false := by
 unfold dI at h
 split at h
 ·omega
 ·rename_i bl; simp only [beq_eq_false_iff_ne]; exact fun e => bl (.inl e)
theorem aga {p : bn} (h : dI p = 2) : (p.Kind == 1) = false := by
 unfold dI at h
 split at h
 ·omega
 ·rename_i bl; simp only [beq_eq_false_iff_ne]; exact fun e => bl (.inl e)
def CI (b : List bn) : Nat → Bool
 | 0 => false
 | q + 1 => match b[q]? with
   | some p => p.Kind == 1
   | none => false
theorem I2 : ∀ (l : List bn) (st : List b0), (∀ s ∈ st.tail, s.behind = false) → ∀ (q : Nat) (pl : b0), (fI l st)[q]? = some pl →
  pl.behind = match q with
   | 0 => match st with
     | s :: _ => s.behind
     | [] => false
   | q + 1 => match l[q]? with
     | some p => p.Kind == 1
     | none => false
 | [], st, _, q, pl, h => by simp [fI] at h
 | p :: r, [], _, q, pl, h => by simp [fI] at h
 | p :: r, s :: st, yX, q, pl, h => by
   cases q with
   | zero => simp only [fI, List.getElem?_cons_zero, Option.some.injEq] at h; subst h; rfl
   | succ q =>
     simp only [fI, List.getElem?_cons_succ] at h
     have agb : ∀ ao ∈ (List.replicate (dI p) (below p s) ++ st).tail, ao.behind = false := by
      intro ao ef
      have bB := sN p
      rcases (by omega : dI p = 0 ∨ dI p = 1 ∨ dI p = 2) with bB | bB | bB
      ·rw [bB] at ef; simp only [List.replicate_zero, List.nil_append] at ef
       exact yX ao (by simpa using List.mem_of_mem_tail ef)
      ·rw [bB] at ef; simp only [List.replicate_succ, List.replicate_zero, List.cons_append, List.nil_append, List.tail_cons] at ef
       exact yX ao (by simpa using ef)
      ·rw [bB] at ef; simp only [List.replicate_succ, List.replicate_zero, List.cons_append, List.nil_append, List.tail_cons, List.mem_cons] at ef
       rcases ef with rfl | ef
       ·exact aga bB
       ·exact yX ao (by simpa using ef)
     have ih := I2 r _ agb q pl h
     rw [ih]
     cases q with
     | succ q => rfl
     | zero =>
       simp only [List.getElem?_cons_zero]
       have bB := sN p
       rcases (by omega : dI p = 0 ∨ dI p = 1 ∨ dI p = 2) with bB | bB | bB
       ·rw [bB, af_ bB]
        simp only [List.replicate_zero, List.nil_append]
        cases st with
        | nil => rfl
        | cons s2 st => exact yX s2 (by simp)
       ·rw [bB]; rfl
       ·rw [bB]; rfl
theorem agc (l : List bn) (s : b0) (aa : s.behind = false) (q : Nat) (pl : b0) (h : (fI l [s])[q]? = some pl) : pl.behind = CI l q := by
 rw [I2 l [s] (fun s aa => by simp at aa) q pl h]
 cases q with
 | zero => exact aa
 | succ q => rfl
end Go.eJ
