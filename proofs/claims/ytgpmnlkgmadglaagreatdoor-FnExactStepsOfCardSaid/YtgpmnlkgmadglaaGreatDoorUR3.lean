/- Part of a proof that a law returns true for every input. No condition. -/
import Derived.Test.YtgpmnlkgmadglaaGreatDoorUR2
namespace Go.eR
open Go Go.cY
theorem Rh : ∀ (j : Nat) (l : List bs) (st : List cn) (k : Nat), et l st.length = some k → j < k →
  ∃ s EJ, (gl l st).drop j = gl (l.drop j) (s :: EJ) ∧ et (l.drop j) (EJ.length + 1) = some (k - j)
 | 0, l, st, k, h, bw => by
   cases st with
   | nil => rw [List.length_nil, vd] at h; have := Option.some.inj h; omega
   | cons s EJ => exact ⟨s, EJ, rfl, h⟩
 | j + 1, [], st, k, h, bw => by have := (qV h).2; simp at this; omega
 | j + 1, p :: r, [], k, h, bw => by rw [List.length_nil, vd] at h; have := Option.some.inj h; omega
 | j + 1, p :: r, s :: st, k, h, bw => by
   obtain ⟨cL, bE, rfl⟩ := oZ.1 h
   obtain ⟨s2, ayd, aN, aZ⟩ := Rh j r (List.replicate (dF p) (below p s) ++ st) cL (by rw [List.length_append, List.length_replicate, Nat.add_comm]; exact bE) (by omega)
   exact ⟨s2, ayd, by simp only [gl, List.drop_succ_cons]; exact aN, by simp only [List.drop_succ_cons]; rw [aZ]; congr 1; omega⟩
theorem Js {α : Type} (l : List α) (i : Nat) (d : α) : l.getD i d = (l.drop i).headD d := by
 rw [List.getD_eq_getElem?_getD]
 cases h : l.drop i with
 | nil => rw [List.drop_eq_nil_iff] at h; rw [List.getElem?_eq_none h]; rfl
 | cons x r =>
   have : l[i]? = some x := by
    have := congrArg (fun z => z[0]?) h
    simpa using this
   rw [this]; rfl
theorem Ri {l : List bs} (s : cn) (st : List cn) (d : cn) (h : l ≠ []) : (gl l (s :: st)).headD d = s := by
 cases l with
 | nil => exact (h rfl).elim
 | cons p r => rfl
theorem aye (d : aS) (ab : et d.Body 1 = some d.Body.length) {j : Nat} (bw : j < d.Body.length) :
  (1 ≤ dF d.Body[j] → j + 1 < d.Body.length ∧ (il d (j + 1)).scope = (below d.Body[j] (il d j)).scope) ∧
  (dF d.Body[j] = 2 → ∃ n, et (d.Body.drop (j + 1)) 1 = some n ∧ j + 1 + n < d.Body.length ∧ (il d (j + 1 + n)).scope = (below d.Body[j] (il d j)).scope) := by
 obtain ⟨s, st, aN, aZ⟩ := Rh j d.Body [⟨d.c_, false⟩] d.Body.length ab bw
 have ai := drop_cons d.Body j bw
 rw [ai] at aN aZ
 obtain ⟨cL, bE, ar⟩ := oZ.1 aZ
 have aw : il d j = s := by
  unfold il
  rw [Js, aN]; rfl
 have aT : (gl d.Body [⟨d.c_, false⟩]).drop (j + 1) = gl (d.Body.drop (j + 1)) (List.replicate (dF d.Body[j]) (below d.Body[j] s) ++ st) := by
  rw [← List.drop_drop, aN]; rfl
 rw [aw]
 constructor
 ·intro bz
  have af := qV bE
  have hlen : j + 1 < d.Body.length := by omega
  refine ⟨hlen, ?_⟩
  obtain ⟨f, ayf⟩ : ∃ f, dF d.Body[j] = f + 1 := ⟨dF d.Body[j] - 1, by omega⟩
  unfold il
  rw [Js, aT, ayf, List.replicate_succ, List.cons_append, Ri _ _ _ (by intro h; rw [List.drop_eq_nil_iff] at h; omega)]
 ·intro bz
  rw [bz] at bE aT
  obtain ⟨n, b3, g1, g2, g3⟩ := xB (l := d.Body.drop (j + 1)) (a := 1) (b := st.length + 1) (k := cL) (by rw [← bE]; congr 1; omega)
  have ag := qV g2
  have hlen : j + 1 + n < d.Body.length := by omega
  refine ⟨n, g1, hlen, ?_⟩
  unfold il
  rw [Js, ← List.drop_drop, aT, show List.replicate 2 (below d.Body[j] s) ++ st = [below d.Body[j] s] ++ (below d.Body[j] s :: st) from rfl, Jb (s1 := [below d.Body[j] s]) g1]
  have hl := ve (l := d.Body.drop (j + 1)) (st := [below d.Body[j] s]) g1
  rw [← hl, List.drop_left, hl, List.drop_drop, Ri _ _ _ (by intro h; rw [List.drop_eq_nil_iff] at h; omega)]
noncomputable def mw (l : List (List ba)) (a : List Int) : List Int := l.map (o3 a)
def qY (n : List UInt8) (a : List Int) : List UInt8 := if a.length = 0 then n else ((n ++ [40]) ++ mv a) ++ [41]
def eC (d : aS) (j : Nat) : bs := d.Body.getD j ⟨0, 0, [], []⟩
def Jt (d : aS) (j : Nat) : Nat := j + (et (d.Body.drop j) 1).getD 0
noncomputable def rT (d : aS) (i j : Nat) (a : List Int) : bd :=
 ⟨qY (eC d j).Name (mw (eC d j).bN a), if (eC d (j + 1)).Kind = 5 then ⟨(eC d (j + 1)).Number, 0, mw (eC d (j + 1)).bN a⟩ else ⟨(i : Int), ((j + 1 : Nat) : Int), a⟩⟩
noncomputable def hU (d : aS) (i : Nat) : Nat → Nat → List Int → List bd
 | 0, _, _ => []
 | n + 1, j, a =>
   if (eC d j).Kind = 1 then [rT d i j a]
   else if (eC d j).Kind = 2 then hU d i n (j + 1) a ++ hU d i n (Jt d (j + 1)) a
   else if (eC d j).Kind = 3 then (if o3 a ((eC d j).bN.getD 0 []) ≠ 0 then hU d i n (j + 1) a else [])
   else if (eC d j).Kind = 4 then (List.range' 0 ((eC d j).Number.toNat + 1)).flatMap fun (v : Nat) => hU d i n (j + 1) (a ++ [((v : Nat) : Int)])
   else []
end Go.eR
