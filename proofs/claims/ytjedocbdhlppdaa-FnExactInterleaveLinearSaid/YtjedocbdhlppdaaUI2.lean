/- Part of a proof that a law returns true for every input. No condition. -/
import Derived.Test.YtjedocbdhlppdaaUI1
namespace Go.gV
open Go Go.dp
def r1 (n : Int) : List aA := [⟨1, n⟩]
def jD (f : Int) (n : Nat) : List (List aA) := (List.range n).map fun (i : Nat) => r1 (IntKind.i64.wrap (f + (i : Int)))
theorem pa (f : Int) (n : Nat) : (jD f n).length = n := by simp [jD]
theorem KC (f : Int) (n : Nat) : ∀ e ∈ jD f n, e.length = 1 := by
 intro e he
 simp only [jD, List.mem_map] at he
 obtain ⟨i, _, rfl⟩ := he
 rfl
def wN (f b : Int) (g : Int) (n : Nat) (x : aY) : aY := ⟨x.bo, hI f b x.Guard, x.Name, x.bH.map (hI f b), x.Next.map (hI f b) ++ jD g n⟩
def qt (f b : Int) (g : Int) (n : Nat) (x : aY) : aY := ⟨x.bo, hI f b x.Guard, x.Name, x.bH.map (hI f b), jD g n ++ x.Next.map (hI f b)⟩
def l8 (a b : bc) (n m : Nat) : bc := ⟨IntKind.i64.wrap ((n : Int) + (m : Int)), a.Start ++ b.Start, a.bG.map (wN n m n m) ++ b.bG.map (qt 0 n 0 n)⟩
theorem KD (f : Int) (n : Nat) (h : n ≤ 1048576) : vi f (n : Int) = some (jD f n) := by
 unfold vi
 have := l7 (L := rj f (n : Int)) (List.range n) (fun (i : Nat) => r1 (IntKind.i64.wrap (f + (i : Int)))) 0 some (fun m v aQ => ?_) (fun i au m v aQ => ?_) [] (by simp)
 ·simpa [jD] using this
 ·simp only [rj, yh, List.length_range]; rw [fe (Nat.le_refl _)]; rfl
 ·rw [List.length_range] at au
  simp only [rj, yh, Ck]
  rw [gj au, gi i _ au (by omega), iV (by omega) (by omega)]
  simp only [cond_true, Option.bind_some, r1, List.getElem_range]
theorem zU (f b : Int) (e : List (List aA)) (h : ou e) : ou (e.map (hI f b)) := by
 refine ⟨by rw [List.length_map]; exact h.1, fun t a3 => ?_⟩
 obtain ⟨u, hu, rfl⟩ := List.mem_map.1 a3
 rw [hI, List.length_map]; exact h.2 u hu
theorem aiQ (a b : bc) (n m : Nat) (bX : k5 a) (U : k5 b) (bh : a.aV = (n : Int)) (hm : b.aV = (m : Int)) (zV : n ≤ 1048576) (tH : m ≤ 1048576) : yk a b = some (l8 a b n m) := by
 obtain ⟨aa, a9, gz⟩ := bX
 obtain ⟨ja, hq, hM⟩ := U
 unfold yk
 rw [Kw _ aa]
 simp only [Option.bind_some]
 rw [iV (by omega) (by omega)]
 simp only [Option.bind_some]
 refine (l7 (L := rl a b a.Start) a.bG (wN n m n m) 0 (fun v => some ⟨IntKind.i64.wrap ((n : Int) + (m : Int)), a.Start ++ b.Start, v ++ b.bG.map (qt 0 n 0 n)⟩) (fun k v aQ => ?_) (fun i au k v aQ => ?_) [] (by simp)).trans (by simp [l8])
 ·simp only [rl, yj]
  rw [fe (Nat.le_refl _)]
  simp only [cond_false]
  refine l7 (L := rk a b a.Start) b.bG (qt 0 n 0 n) 1048576 (fun v => some ⟨IntKind.i64.wrap ((n : Int) + (m : Int)), a.Start ++ b.Start, v⟩) (fun k v aQ => ?_) (fun i au k v aQ => ?_) v (by omega)
  ·simp only [rk, yi, bh, hm]; rw [fe (Nat.le_refl _)]; rfl
  ·have aw := hM _ (List.getElem_mem au)
   have bI := aw.2.2.2.2.1
   simp only [rk, yi]
   rw [gj au, gE _ i au, gi i _ au (by omega)]
   simp only [cond_true, Option.bind_some, bh]
   rw [Ky _ _ _ aw, KD 0 n zV]
   simp only [Option.bind_some, i6]
   rw [iV (by simp only [List.length_map, pa]; omega) (by simp only [List.length_map, pa]; omega), iV (by omega) (by omega)]
   rfl
 ·have aw := gz _ (List.getElem_mem au)
  have bI := aw.2.2.2.2.1
  simp only [rl, yj]
  rw [gj au, gE _ i au, gi i _ au (by omega)]
  simp only [cond_true, Option.bind_some, bh, hm]
  rw [Ky _ _ _ aw, KD n m tH]
  simp only [Option.bind_some, i6]
  rw [iV (by simp only [List.length_map, pa]; omega) (by simp only [List.length_map, pa]; omega), iV (by omega) (by omega)]
  rfl
theorem aiR (n : Int) (bM : 0 ≤ n) (h : n ≤ 1099511627776) : yC n = some [] := by
 unfold yC Cz yB
 have gd : IntKind.i64.wrap 0 = 0 := hi 0 (by omega)
 have a1 : IntKind.i64.wrap (n - 0) = n := by rw [hi (n - 0) (by omega)]; omega
 have d : decide (n < 0) = false := by simp only [decide_eq_false_iff_not]; omega
 rw [d, gd, a1, show lG 8 n = some () by unfold lG; rw [if_pos ⟨by omega, by omega, by omega⟩]]
 cases decide (0 < n) <;> rfl
theorem aiS (ls : List (List Int)) (h : ls.length ≤ 1048576) (ab : iW ls ≤ 1099511627776) : vp ls = some ls.flatten := by
 have nD : cX (fun n => p1 ls n [] 0) = some ls.flatten := by
  have key : ∀ i, i ≤ ls.length → ∀ (v : List Int) m, v.length + iW (ls.drop i) ≤ 1099511627776 → ls.length - i < m → p1 ls m v (i : Int) = some (v ++ (ls.drop i).flatten) := by
   refine down ls.length ?_ ?_
   ·intro v m _ hm
    obtain ⟨m, rfl⟩ : ∃ aK, m = aK + 1 := ⟨m - 1, by omega⟩
    simp only [p1, yD]
    rw [fe (Nat.le_refl _), List.drop_of_length_le (Nat.le_refl _)]; simp
   ·intro i au ih v m aQ hm
    obtain ⟨m, rfl⟩ : ∃ aK, m = aK + 1 := ⟨m - 1, by omega⟩
    rw [drop_cons ls i au] at aQ ⊢
    simp only [iW, e4] at aQ
    simp only [p1, yD]
    rw [gj au, gE _ i au, gi i _ au (by omega)]
    simp only [cond_true, Option.bind_some]
    rw [iV (by omega) (by omega)]
    simp only [Option.bind_some]
    rw [ih _ m (by simp only [List.length_append, iW]; omega) (by omega)]
    simp only [List.flatten_cons, List.append_assoc]
  refine i7 (ls.length + 1) fun m hm => ?_
  have := key 0 (by omega) [] m (by simpa using ab) (by omega)
  simpa using this
 unfold vp
 have key : ∀ i, i ≤ ls.length → ∀ (v : Int) m, 0 ≤ v → v + iW (ls.drop i) ≤ 1099511627776 → ls.length - i < m → p2 ls m v (i : Int) = some ls.flatten := by
  refine down ls.length ?_ ?_
  ·intro v m bM aQ hm
   obtain ⟨m, rfl⟩ : ∃ aK, m = aK + 1 := ⟨m - 1, by omega⟩
   simp only [p2, yE]
   rw [fe (Nat.le_refl _), aiR v bM (by omega)]
   simp only [cond_false, Option.bind_some]
   exact nD
  ·intro i au ih v m bM aQ hm
   obtain ⟨m, rfl⟩ : ∃ aK, m = aK + 1 := ⟨m - 1, by omega⟩
   rw [drop_cons ls i au] at aQ
   simp only [iW, e4] at aQ
   simp only [p2, yE, CA]
   rw [gj au, gE _ i au, gi i _ au (by omega)]
   simp only [cond_true, Option.bind_some]
   have e : IntKind.i64.wrap (v + (ls[i].length : Int)) = v + (ls[i].length : Int) := hi (v + (ls[i].length : Int)) ⟨by omega, by omega⟩
   have d : decide (v + (ls[i].length : Int) < 0) = false := by simp only [decide_eq_false_iff_not]; omega
   rw [e, d, cond_false]
   exact ih _ m (by omega) (by simp only [iW]; omega) (by omega)
 refine i7 (ls.length + 1) fun m hm => ?_
 exact key 0 (by omega) 0 m (by omega) (by rw [List.drop_zero]; omega) (by omega)
theorem aiT (ls : List (List (List aA))) (h : ls.length ≤ 1048576) (ab : iW ls ≤ 1099511627776) : ts ls = some ls.flatten := by
 have nD : cX (fun n => p3 ls n (List.map (fun x => (false, x)) ls) [] 0) = some ls.flatten := by
  have key : ∀ i, i ≤ ls.length → ∀ (v : List (List aA)) m, v.length + iW (ls.drop i) ≤ 1099511627776 → ls.length - i < m → p3 ls m (m6 ls (i : Int)) v (i : Int) = some (v ++ (ls.drop i).flatten) := by
   refine down ls.length ?_ ?_
   ·intro v m _ hm
    obtain ⟨m, rfl⟩ : ∃ aK, m = aK + 1 := ⟨m - 1, by omega⟩
    simp only [p3, yK]
    rw [fe (Nat.le_refl _), List.drop_of_length_le (Nat.le_refl _)]; simp
   ·intro i au ih v m aQ hm
    obtain ⟨m, rfl⟩ : ∃ aK, m = aK + 1 := ⟨m - 1, by omega⟩
    rw [drop_cons ls i au] at aQ ⊢
    simp only [iW, e4] at aQ
    simp only [p3, yK]
    rw [gj au, Dw _ i au, gi i _ au (by omega)]
    simp only [cond_true, Option.bind_some, Bool.not_false, show pb true = some () from rfl, Dx ls i au]
    rw [iV (by omega) (by omega)]
    simp only [Option.bind_some]
    rw [ih _ m (by simp only [List.length_append, iW]; omega) (by omega)]
    simp only [List.flatten_cons, List.append_assoc]
  refine i7 (ls.length + 1) fun m hm => ?_
  have := key 0 (by omega) [] m (by simpa using ab) (by omega)
  rw [Dv]
  simpa using this
 unfold ts
 have key : ∀ i, i ≤ ls.length → ∀ (v : Int) m, 0 ≤ v → v + iW (ls.drop i) ≤ 1099511627776 → ls.length - i < m → p4 ls m v (i : Int) = some ls.flatten := by
  refine down ls.length ?_ ?_
  ·intro v m bM aQ hm
   obtain ⟨m, rfl⟩ : ∃ aK, m = aK + 1 := ⟨m - 1, by omega⟩
   simp only [p4, yL]
   rw [fe (Nat.le_refl _), Kt v bM (by omega)]
   simp only [cond_false, Option.bind_some]
   exact nD
  ·intro i au ih v m bM aQ hm
   obtain ⟨m, rfl⟩ : ∃ aK, m = aK + 1 := ⟨m - 1, by omega⟩
   rw [drop_cons ls i au] at aQ
   simp only [iW, e4] at aQ
   simp only [p4, yL, CD]
   rw [gj au, gE _ i au, gi i _ au (by omega)]
   simp only [cond_true, Option.bind_some]
   have e : IntKind.i64.wrap (v + (ls[i].length : Int)) = v + (ls[i].length : Int) := hi (v + (ls[i].length : Int)) ⟨by omega, by omega⟩
   have d : decide (v + (ls[i].length : Int) < 0) = false := by simp only [decide_eq_false_iff_not]; omega
   rw [e, d, cond_false]
   exact ih _ m (by omega) (by simp only [iW]; omega) (by omega)
 refine i7 (ls.length + 1) fun m hm => ?_
 exact key 0 (by omega) 0 m (by omega) (by rw [List.drop_zero]; omega) (by omega)
theorem aiU (a b : List Int) (bX : a.length ≤ 1048576) (U : b.length ≤ 1048576) : vp [a, b] = some (a ++ b) := by
 rw [aiS [a, b] (by simp) (by simp only [iW, e4]; omega)]; simp
theorem KE (a b : List (List aA)) (bX : a.length ≤ 1048576) (U : b.length ≤ 1048576) : ts [a, b] = some (a ++ b) := by
 rw [aiT [a, b] (by simp) (by simp only [iW, e4]; omega)]; simp
theorem aiV (n : Nat) (h : n ≤ 1048576) : IntKind.i64.wrap (0 + (n : Int)) = (n : Int) := by rw [hi _ (by omega)]; omega
theorem aiW (a b : bc) (n m : Nat) (bX : k5 a) (U : k5 b) (bh : a.aV = (n : Int)) (hm : b.aV = (m : Int)) (zV : n ≤ 1048576) (tH : m ≤ 1048576) : yT a b = some (l8 a b n m) := by
 have Ay := bX
 have g1 := U
 obtain ⟨aa, a9, gz⟩ := bX
 obtain ⟨ja, hq, hM⟩ := U
 have KF : ∀ (f : Int) (k : Nat), k ≤ 1048576 → ou (jD f k) := fun f k aB => ⟨by rw [pa]; exact aB, fun e he => by rw [KC f k e he]; omega⟩
 have uj : ∀ v : List aY, v.length ≤ 1048576 → cX (fun k => p5 a b (a.Start ++ b.Start) ⟨b.aV, b.Start, b.bG.map (i6 0 n)⟩ k v (jD 0 n) (List.map (fun x => (false, x)) (b.bG.map (i6 0 n))) 0) = some ⟨IntKind.i64.wrap ((n : Int) + (m : Int)), a.Start ++ b.Start, v ++ b.bG.map (qt 0 n 0 n)⟩ := by
  intro v aQ
  rw [Dv]
  have hl : (b.bG.map (i6 0 n)).length ≤ 1048576 := by rw [List.length_map]; exact hq
  refine (l7 (L := fun k v i => p5 a b (a.Start ++ b.Start) ⟨b.aV, b.Start, b.bG.map (i6 0 n)⟩ k v (jD 0 n) (m6 (b.bG.map (i6 0 n)) i) i) (b.bG.map (i6 0 n)) (fun y => ⟨y.bo, y.Guard, y.Name, y.bH, jD 0 n ++ y.Next⟩) 1048576 (fun v => some ⟨IntKind.i64.wrap ((n : Int) + (m : Int)), a.Start ++ b.Start, v⟩) (fun k v aQ => ?_) (fun i au k v aQ => ?_) v aQ).trans ?_
  ·simp only [p5, yP, bh, hm]; rw [fe (Nat.le_refl _)]; rfl
  ·have DA : (b.bG.map (i6 0 n))[i].Next.length ≤ 1048576 := by
    rw [List.getElem_map]
    simp only [i6, List.length_map]
    exact (hM _ (List.getElem_mem _)).2.2.2.2.1
   simp only [p5, yP]
   rw [gj au, Dw _ i au, gi i _ au (by omega)]
   simp only [cond_true, Option.bind_some, Bool.not_false, show pb true = some () from rfl, Dx _ i au]
   rw [Kz _ (KF 0 n zV)]
   simp only [Option.bind_some]
   rw [KE _ _ (by rw [pa]; exact zV) DA]
   simp only [Option.bind_some]
   rw [iV (by omega) (by omega)]
   rfl
  ·rw [List.map_map]; rfl
 have KG : cX (fun k => oV a b (a.Start ++ b.Start) ⟨a.aV, a.Start, a.bG.map (i6 n m)⟩ k [] (jD 0 n) (jD n m) (List.map (fun x => (false, x)) (a.bG.map (i6 n m))) 0) = some (l8 a b n m) := by
  rw [Dv]
  have hl : (a.bG.map (i6 n m)).length ≤ 1048576 := by rw [List.length_map]; exact a9
  refine (l7 (L := fun k v i => oV a b (a.Start ++ b.Start) ⟨a.aV, a.Start, a.bG.map (i6 n m)⟩ k v (jD 0 n) (jD n m) (m6 (a.bG.map (i6 n m)) i) i) (a.bG.map (i6 n m)) (fun y => ⟨y.bo, y.Guard, y.Name, y.bH, y.Next ++ jD n m⟩) 0 (fun v => some ⟨IntKind.i64.wrap ((n : Int) + (m : Int)), a.Start ++ b.Start, v ++ b.bG.map (qt 0 n 0 n)⟩) (fun k v aQ => ?_) (fun i au k v aQ => ?_) [] (by simp)).trans ?_
  ·simp only [oV, yQ]; rw [fe (Nat.le_refl _)]
   simp only [cond_false]
   rw [aiP b a g1, bh]
   simp only [Option.bind_some]
   exact uj v (by omega)
  ·have DA : (a.bG.map (i6 n m))[i].Next.length ≤ 1048576 := by
    rw [List.getElem_map]
    simp only [i6, List.length_map]
    exact (gz _ (List.getElem_mem _)).2.2.2.2.1
   simp only [oV, yQ]
   rw [gj au, Dw _ i au, gi i _ au (by omega)]
   simp only [cond_true, Option.bind_some, Bool.not_false, show pb true = some () from rfl, Dx _ i au]
   rw [Kz _ (KF n m tH)]
   simp only [Option.bind_some]
   rw [KE _ _ DA (by rw [pa]; exact tH)]
   simp only [Option.bind_some]
   rw [iV (by omega) (by omega)]
   rfl
  ·rw [List.map_map]; rfl
 have aiX : cX (fun k => oW a b (a.Start ++ b.Start) k (jD 0 n) [] 0) = some (l8 a b n m) := by
  refine (l7 (L := fun k v i => oW a b (a.Start ++ b.Start) k (jD 0 n) v i) (List.range m) (fun (i : Nat) => r1 (IntKind.i64.wrap ((n : Int) + (i : Int)))) 0 (fun v => (vv a a b).bind fun bn => cX fun k => oV a b (a.Start ++ b.Start) bn k [] (jD 0 n) v (List.map (fun x => (false, x)) bn.bG) 0) (fun k v aQ => ?_) (fun i au k v aQ => ?_) [] (by simp)).trans ?_
  ·rw [List.length_range]
   simp only [oW, yR, hm]; rw [fe (Nat.le_refl _)]; rfl
  ·rw [List.length_range] at au
   simp only [oW, yR, hm, bh, vq]
   rw [gj au, gi i _ au (by omega), iV (by omega) (by omega)]
   simp only [cond_true, Option.bind_some, r1, List.getElem_range]
  ·rw [aiO a a b Ay, bh, hm]
   simp only [Option.bind_some, List.nil_append]
   rw [bh] at KG
   exact KG
 unfold yT
 rw [aiU _ _ aa ja]
 simp only [Option.bind_some]
 refine (l7 (L := rA a b (a.Start ++ b.Start)) (List.range n) (fun (i : Nat) => r1 (IntKind.i64.wrap (0 + (i : Int)))) 0 (fun v => cX fun k => oW a b (a.Start ++ b.Start) k v [] 0) (fun k v aQ => ?_) (fun i au k v aQ => ?_) [] (by simp)).trans ?_
 ·rw [List.length_range]
  simp only [rA, yS, bh]; rw [fe (Nat.le_refl _)]; rfl
 ·rw [List.length_range] at au
  simp only [rA, yS, bh, vq]
  rw [gj au, gi i _ au (by omega), iV (by omega) (by omega)]
  simp only [cond_true, Option.bind_some, r1, List.getElem_range, aiV i (by omega)]
 ·exact aiX
theorem DB {x : aY} {p : Int} (h : mA x p = true) : (x.Next.length : Int) = p := by
 simp only [mA, Bool.and_eq_true, beq_iff_eq] at h; exact h.2.2.1
theorem r2 {l : bc} (h : jC l = true) : 0 ≤ l.aV ∧ l.aV ≤ 21 ∧ (l.Start.length : Int) = l.aV ∧ l.bG.length ≤ 60 ∧ ∀ x ∈ l.bG, mA x l.aV = true := by
 simp only [jC, qs, h7, Bool.and_eq_true, beq_iff_eq, decide_eq_true_eq, List.all_eq_true] at h
 exact ⟨h.1.1, h.1.2, h.2.1.1, h.2.2.1, h.2.2.2⟩
theorem KH (a b : bc) (n m : Nat) (bX : k5 a) (U : k5 b) (r3 : jC a = true) (r4 : jC b = true) (bh : a.aV = (n : Int)) (hm : b.aV = (m : Int)) : k5 (l8 a b n m) := by
 obtain ⟨aa, a9, gz⟩ := bX
 obtain ⟨ja, hq, hM⟩ := U
 obtain ⟨e5, fT, ho, tZ, e9⟩ := r2 r3
 obtain ⟨gm, bP, fw, cZ, el⟩ := r2 r4
 refine ⟨by simp only [l8, List.length_append]; omega, by simp only [l8, List.length_append, List.length_map]; omega, fun x aw => ?_⟩
 simp only [l8, List.mem_append, List.mem_map] at aw
 have aB : ∀ (f : Int) (k : Nat), ∀ e ∈ jD f k, e.length ≤ 1048576 := fun f k e he => by rw [KC f k e he]; omega
 rcases aw with ⟨y, bL, rfl⟩ | ⟨y, bL, rfl⟩
 ·obtain ⟨aj, aF, aW, bn, bu⟩ := gz y bL
  have KI := DB (e9 y bL)
  refine ⟨aj, by simp only [wN, hI, List.length_map]; exact aF, aW, zU _ _ _ bn, by simp only [wN, List.length_append, List.length_map, pa]; omega, fun t a3 => ?_⟩
  simp only [wN, List.mem_append] at a3
  rcases a3 with a3 | a3
  ·exact (zU _ _ _ bu).2 t a3
  ·exact aB _ _ t a3
 ·obtain ⟨aj, aF, aW, bn, bu⟩ := hM y bL
  have KI := DB (el y bL)
  refine ⟨aj, by simp only [qt, hI, List.length_map]; exact aF, aW, zU _ _ _ bn, by simp only [qt, List.length_append, List.length_map, pa]; omega, fun t a3 => ?_⟩
  simp only [qt, List.mem_append] at a3
  rcases a3 with a3 | a3
  ·exact aB _ _ t a3
  ·exact (zU _ _ _ bu).2 t a3
def r5 (a b : bc) : bc × Int :=
 cond (jC a && jC b) (cond (jC (l8 a b a.aV.toNat b.aV.toNat)) (l8 a b a.aV.toNat b.aV.toNat, 0) (⟨0, [], []⟩, 5)) (⟨0, [], []⟩, 1)
theorem aiY (a b : bc) (bX : k5 a) (U : k5 b) : yl a b = some (r5 a b) := by
 unfold yl r5
 rw [Dr a bX, Dr b U]
 simp only [Option.bind_some]
 cases r3 : jC a
 ·rfl
 cases r4 : jC b
 ·rfl
 obtain ⟨e5, fT, _⟩ := r2 r3
 obtain ⟨gm, bP, _⟩ := r2 r4
 have bh : a.aV = ((a.aV.toNat : Nat) : Int) := by omega
 have hm : b.aV = ((b.aV.toNat : Nat) : Int) := by omega
 simp only [Bool.not_true, cond_false, cond_true, Bool.and_self]
 rw [aiQ a b _ _ bX U bh hm (by omega) (by omega)]
 simp only [Option.bind_some]
 rw [Dr _ (KH a b _ _ bX U r3 r4 bh hm)]
 simp only [Option.bind_some]
 cases jC (l8 a b a.aV.toNat b.aV.toNat) <;> rfl
theorem aiZ (a b : bc) (bX : k5 a) (U : k5 b) : vz a b = some (r5 a b) := by
 unfold vz r5
 rw [Ds a bX, Ds b U]
 simp only [Option.bind_some]
 cases r3 : jC a
 ·rfl
 cases r4 : jC b
 ·rfl
 obtain ⟨e5, fT, _⟩ := r2 r3
 obtain ⟨gm, bP, _⟩ := r2 r4
 have bh : a.aV = ((a.aV.toNat : Nat) : Int) := by omega
 have hm : b.aV = ((b.aV.toNat : Nat) : Int) := by omega
 simp only [Bool.not_true, cond_false, cond_true, Bool.and_self]
 rw [aiW a b _ _ bX U bh hm (by omega) (by omega)]
 simp only [Option.bind_some]
 rw [Ds _ (KH a b _ _ bX U r3 r4 bh hm)]
 simp only [Option.bind_some]
 cases jC (l8 a b a.aV.toNat b.aV.toNat) <;> rfl
end Go.gV
