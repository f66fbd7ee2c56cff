/- Part of a proof that a law returns true for every input. No condition. -/
import Derived.Test.YtobljppjkklojaaUJ1
import Derived.Test.YtobljppjkklojaaUL2
import Derived.Test.YtobljppjkklojaaUL9
namespace Go.fH
open Go Go.cM
theorem F_ : ∀ l : List bu, c8 List.length (l.map (·.Name)) ≤ c8 ho l
 | [] => Nat.le_refl _
 | x :: l => by
   have ih := F_ l
   have aJ : c8 List.length (x.Name :: l.map (·.Name)) = x.Name.length + 1 + c8 List.length (l.map (·.Name)) := by simp only [c8, ef, List.length_cons]; omega
   have aT : c8 ho (x :: l) = ho x + 1 + c8 ho l := by simp only [c8, ef, List.length_cons]; omega
   have h : x.Name.length ≤ ho x := by unfold ho; omega
   rw [List.map_cons, aJ, aT]; omega
theorem ZQ (l : dM) (U : lN l ≤ 1048576) : ∃ r : List (List UInt8) × Int, vj l = some r ∧ sT l = some r ∧ c8 List.length r.1 ≤ 1048576 := by
 have bP := ZC l U
 unfold vj sT
 rw [Zu l bP, ZB l bP]
 simp only [Option.bind_some]
 cases aG : tw l
 ·exact ⟨_, rfl, rfl, by simp [c8, ef]⟩
 ·simp only [Bool.not_true, cond_false]
  have hl := bP.2.1
  have bh : c8 List.length (lP (l.cG.map (·.Name))) ≤ 1048576 := by
   have aa := ZO (l.cG.map (·.Name))
   have ab := F_ l.cG
   unfold lN at U
   omega
  refine ⟨(lP (l.cG.map (·.Name)), 0), ?_, ?_, bh⟩
  ·have key : ∀ i, i ≤ l.cG.length → ∀ (v : List (List UInt8)) m, v.length ≤ i → l.cG.length - i < m → pf l m v (i : Int) = some (lP (v ++ (l.cG.drop i).map (·.Name)), 0) := by
    refine down l.cG.length ?_ ?_
    ·intro v m mA hm
     obtain ⟨m, rfl⟩ : ∃ ar, m = ar + 1 := ⟨m - 1, by omega⟩
     simp only [pf, vi]
     rw [gI (Nat.le_refl _), List.drop_of_length_le (Nat.le_refl _), ZL v (by omega)]
     simp only [cond_false, Option.bind_some, List.map_nil, List.append_nil]
     have cc := ZP v
     rw [show i6 eG [] (v.filter kz) = lP v from rfl, cc]
     simp only [Option.bind_some]
     have aZ : (lP v).length ≤ v.length := by
      have bG := FW (lt := eG) (v.filter kz) []
      have b7 := List.length_filter_le kz v
      simp only [List.length_nil] at bG
      unfold lP; omega
     rw [rq (by omega) (by omega)]
     rfl
    ·intro i az ih v m mA hm
     obtain ⟨m, rfl⟩ : ∃ ar, m = ar + 1 := ⟨m - 1, by omega⟩
     simp only [pf, vi]
     rw [h0 az, gT _ i az, hZ i _ az (by omega), rq (by omega) (by omega)]
     simp only [cond_true, Option.bind_some]
     rw [ih _ m (by simp only [List.length_append, List.length_cons, List.length_nil]; omega) (by omega), drop_cons _ i az]
     simp only [List.map_cons, List.append_assoc, List.cons_append, List.nil_append]
   refine h1 (l.cG.length + 1) fun m hm => ?_
   have := key 0 (by omega) [] m (by simp) (by omega)
   simpa using this
  ·have key : ∀ i, i ≤ l.cG.length → ∀ (v : List (List UInt8)) m, v.length ≤ i → l.cG.length - i < m → nY l m v (i : Int) = some (i6 eG [] (v ++ ((l.cG.drop i).map (·.Name)).filter kz), 0) := by
    refine down l.cG.length ?_ ?_
    ·intro v m mA hm
     obtain ⟨m, rfl⟩ : ∃ ar, m = ar + 1 := ⟨m - 1, by omega⟩
     simp only [nY, vE, sS, vC]
     rw [gI (Nat.le_refl _), List.drop_of_length_le (Nat.le_refl _), if_pos (by omega)]
     simp only [cond_false, Option.bind_some]
     rw [ZF nt (fun a b => ZH a b)]
     simp
    ·intro i az ih v m mA hm
     obtain ⟨m, rfl⟩ : ∃ ar, m = ar + 1 := ⟨m - 1, by omega⟩
     simp only [nY, vE, vD]
     rw [h0 az, gT _ i az, hZ i _ az (by omega), rq (by omega) (by omega)]
     simp only [cond_true, Option.bind_some]
     rw [ih (v ++ [_]) m (by simp only [List.length_append, List.length_cons, List.length_nil]; omega) (by omega), ih v m (by omega) (by omega), drop_cons _ i az, List.map_cons, List.filter_cons]
     have e : kz l.cG[i].Name = !(l.cG[i].Name == ([116, 97, 117] : List UInt8)) := rfl
     rw [e]
     cases (l.cG[i].Name == ([116, 97, 117] : List UInt8)) <;> simp
   refine h1 (l.cG.length + 1) fun m hm => ?_
   have := key 0 (by omega) [] m (by simp) (by omega)
   simpa [lP] using this
theorem YH (a : i2) (b1 : uP a) : y_ a = some true := by
 unfold y_
 rw [YY a 1048576 b1 (by omega) (by omega)]
 simp only [Option.bind_some]
 by_cases h : n9 a ≤ 1048576
 ·rw [zD (by omega)]
  have : decide ((1048576 : Int) - ((n9 a : Nat) : Int) < 0) = false := by simp only [decide_eq_false_iff_not]; omega
  rw [this, cond_false, Y4 a h]
  simp only [Option.bind_some]
  have hl : lN (ts a) ≤ 1048576 := by rw [Y3]; exact h
  generalize ts a = e at hl
  obtain ⟨r, aa, ab, aE⟩ := ZQ e hl
  obtain ⟨gM, gk, hT, c, bT, en⟩ := Zb e 1 (by omega) (by omega)
  obtain ⟨iH, d, d1, fl, hb⟩ := Zc r.1 1 (by omega) (by omega)
  simp only [aa, ab, Option.bind_some, Y5 r.1 aE, Y9 e hl, en, fl, hb, Bool.not_true, bne_self_eq_false, Bool.or_self, cond_false, Fs (k := 1 + (c : Int)) (by omega), Fs (k := 1 + (d : Int)) (by omega)]
 ·rw [wu (by omega)]; rfl
end Go.fH
