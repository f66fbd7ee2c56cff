/- Part of a proof that a law returns true for every input. No condition. -/
import Derived.Test.YtgpmnlkgmadglaaGreatDoorUR6
import Derived.Test.YtgpmnlkgmadglaaGreatDoorUD16
import Derived.Test.YtgpmnlkgmadglaaGreatDoorUN
namespace Go.eR
open Go Go.cY
theorem ayz {e : List aS} (h : o0 e) (aK : o2 e = true) {p : dP} (aw : p.cD.length ≤ 1048576) (ab : wQ e p = some true) :
  ∃ (i : Nat) (an : i < e.length) (j : Nat), p.dO = (i : Int) ∧ p.Part = (j : Int) ∧ j < e[i].Body.length ∧ (il e[i] j).scope = (p.cD.length : Int) ∧ ∀ x ∈ p.cD, gS x := by
 unfold wQ lF at ab
 rw [fW ((e.length : Int) - 1) (by have := h.1; omega)] at ab
 simp only [Option.bind_some] at ab
 cases ar : (decide (0 ≤ p.dO) && decide (p.dO ≤ (e.length : Int) - 1))
 ·rw [ar] at ab; cases ab
 rw [ar] at ab
 simp only [Bool.and_eq_true, decide_eq_true_eq] at ar
 obtain ⟨i, xG⟩ : ∃ i : Nat, p.dO = i := ⟨p.dO.toNat, by omega⟩
 have an : i < e.length := by omega
 have aa := (h.2 _ (List.getElem_mem an)).2.1
 rw [xG, fp e i an] at ab
 simp only [Bool.not_true, cond_false, Option.bind_some] at ab
 rw [fW ((e[i].Body.length : Int) - 1) (by omega)] at ab
 cases cG : (decide (0 ≤ p.Part) && decide (p.Part ≤ (e[i].Body.length : Int) - 1))
 ·rw [cG] at ab; cases ab
 rw [cG] at ab
 simp only [Bool.and_eq_true, decide_eq_true_eq] at cG
 obtain ⟨j, qA⟩ : ∃ j : Nat, p.Part = j := ⟨p.Part.toNat, by omega⟩
 have bw : j < e[i].Body.length := by omega
 obtain ⟨gC, _⟩ := Q4 h aK an bw
 rw [qA, fp e[i].Body j bw] at ab
 simp only [Bool.not_true, cond_false, Option.bind_some, gC, Q2 _ aw] at ab
 cases RG : e[i].Body[j].Kind == 5
 ·rw [RG] at ab
  simp only [cond_false] at ab
  cases hl : ((p.cD.length : Int) == (il e[i] j).scope)
  ·rw [hl] at ab; cases ab
  ·rw [hl] at ab
   simp only [beq_iff_eq] at hl
   have RH : xF p.cD = true := Option.some.inj ab
   refine ⟨i, an, j, xG, qA, bw, hl.symm, fun x aq => ?_⟩
   simp only [xF, pW] at RH
   obtain ⟨k, ar, rfl⟩ := List.mem_iff_getElem.1 aq
   have := RH k ar
   simp only [oX, Bool.and_eq_true, decide_eq_true_eq, List.getD_eq_getElem?_getD, List.getElem?_eq_getElem ar, Option.getD_some] at this
   exact this
 ·rw [RG] at ab; cases ab
theorem RI : ∀ (l o : List bd), (∀ x ∈ l, iq x) → (∀ x ∈ o, iq x) → ∀ x ∈ l.foldl jQ o, iq x
 | [], o, _, bJ => bJ
 | s :: r, o, hl, bJ => RI r _ (fun x aq => hl x (List.mem_cons_of_mem _ aq)) (Rq bJ (hl s (by simp)))
theorem ayA (e : List aS) (h : o0 e) (p : dP) (aw : p.cD.length ≤ 1048576) :
  ∃ r : List bd × Int, CU e p = some r ∧ zI e p = some r ∧ r.1.length ≤ 200 ∧ ∀ x ∈ r.1, iq x := by
 unfold CU zI HK
 rw [axC e h, axE e h]
 simp only [Option.bind_some]
 cases aK : o2 e
 ·exact ⟨([], 1), rfl, rfl, by simp, fun x aq => by cases aq⟩
 obtain ⟨b, hN, gT⟩ := axG e h aK p aw
 simp only [cond_true, Bool.not_true, cond_false, hN, gT, Option.bind_some]
 cases b
 ·exact ⟨([], 1), rfl, rfl, by simp, fun x aq => by cases aq⟩
 simp only [Bool.not_true, cond_false]
 obtain ⟨i, an, j, xG, qA, bw, k3, qX⟩ := ayz h aK aw hN
 have aAJ : e[i].Body.length ≤ 20 := (xD ((EB h aK).2.2 i an).2.1).2.2
 have A := ayv h aK an 20 j p.cD bw k3 qX (by omega)
 have hlen : (hU e[i] i 20 j p.cD).length ≤ 549755813888 := by
  have af := A.len
  have ag : 2 ^ 20 * 8 ^ (6 - p.cD.length) ≤ 2 ^ 20 * 8 ^ 6 := Nat.mul_le_mul_left _ (Nat.pow_le_pow_right (by omega) (by omega))
  have aF : 2 ^ 20 * 8 ^ 6 = 274877906944 := by decide
  omega
 have bX : CT e (i : Int) (j : Int) p.cD [] = some ((hU e[i] i 20 j p.cD).foldl kA []) := by
  unfold CT
  exact hE 20 fun m hm => A.spec m hm [] (by simp) (fun x aq => by cases aq)
 have ayB : Dp e [] [] (i : Int) (j : Int) p.cD = some (e, ((hU e[i] i 20 j p.cD).foldl km ([], [])).1, ((hU e[i] i 20 j p.cD).foldl km ([], [])).2) := by
  unfold Dp
  exact hE 20 fun m hm => A.impl m hm ([], []) (by simpa using hlen)
 have Gj := JC (hU e[i] i 20 j p.cD) [] [] A.lM (fun x aq => by cases aq) (fun s _ => rfl)
 obtain ⟨cv, cw⟩ := Rs (hU e[i] i 20 j p.cD) []
 have AO := RI (hU e[i] i 20 j p.cD) [] A.lM (fun x aq => by cases aq)
 unfold Hv HT
 rw [xG, qA, bX, ayB, Gj]
 simp only [Option.bind_some]
 generalize (hU e[i] i 20 j p.cD).foldl jQ [] = ET at cv cw AO ⊢
 by_cases hl : ET.length ≤ 200
 ·rw [cv hl, show decide ((ET.length : Int) ≤ 200) = true from decide_eq_true (by omega)]
  exact ⟨(ET, 0), rfl, rfl, hl, AO⟩
 ·have := cw (by omega)
  generalize (hU e[i] i 20 j p.cD).foldl kA [] = mm at this ⊢
  rw [show decide ((ET.length : Int) ≤ 200) = false from decide_eq_false (by omega), show decide ((mm.length : Int) ≤ 200) = false from decide_eq_false (by omega)]
  exact ⟨([], 5), rfl, rfl, by simp, fun x aq => by cases aq⟩
theorem RJ {α : Type} {f : α → Nat} {B : Nat} : ∀ l : List α, (∀ x ∈ l, f x ≤ B) → hz f l ≤ B * l.length
 | [], _ => Nat.zero_le _
 | x :: r, h => by
   have af := h x (by simp)
   have ag := RJ r fun y hy => h y (List.mem_cons_of_mem _ hy)
   simp only [hz, List.length_cons, Nat.mul_add]; omega
theorem awa (a : List ic) (p : lE) (bF : a.length ≤ 9223372036854775807 ∧ ∀ y ∈ a, t_ y) (aw : B7 p) : HU a p = some true := by
 unfold HU
 obtain ⟨r, af, ag⟩ := axB a bF
 rw [af]
 simp only [Option.bind_some]
 cases aW : decide (r < 0)
 ·obtain ⟨aF, a_, bI, cK, cH⟩ := ag aW
  rw [awA p r aw cH (by omega)]
  simp only [cond_false, Option.bind_some]
  by_cases ab : (rN p : Int) ≤ r
  ·rw [Aw ab]
   have dZ : decide (r - (rN p : Int) < 0) = false := decide_eq_false (by omega)
   have qt : rN p ≤ 1048576 := by omega
   have yY : oW (xy p) ≤ 1048576 := by rw [awK]; exact qt
   have eK : (xy p).cD.length ≤ 1048576 := by
    have := yY
    unfold oW at this; omega
   have ai : fK lk (a.map oV) ≤ 1048576 := by
    rw [Ay]; simp only [Qw]; exact (show fK n7 a ≤ 1048576 by omega)
   rw [dZ, aF, awL p qt]
   simp only [cond_false, Option.bind_some]
   generalize a.map oV = e at a_ bI ai ⊢
   generalize xy p = q at yY eK ⊢
   obtain ⟨s, s1, s2, fi, ke⟩ := ayA e bI q eK
   have bS : fK mX s.1 ≤ 1048576 := by
    have := RJ (f := mX) (B := 1000) s.1 fun x aq => by
     have g := ke x aq
     have g1 := g.EM.1
     have g2 := g.xJ.1
     unfold mX oW
     omega
    unfold fK; omega
   obtain ⟨cA, c, cv, m1⟩ := aw0 e 1 (by omega) (by omega)
   obtain ⟨h2, fM, iT, cw, sd, m2⟩ := aw1 q (1 + (c : Int)) (by omega) (by omega)
   obtain ⟨kH, d, d1, m3, m4⟩ := aw2 s.1 1 (by omega) (by omega)
   simp only [s1, s2, Option.bind_some, awO s.1 bS, Qx q yY, a_, m1, m2, m3, m4, Bool.not_true, bne_self_eq_false, Bool.or_self, cond_false, I5 (k := 1 + (c : Int) + (cw : Int)) (by omega), I5 (k := 1 + (d : Int)) (by omega)]
  ·rw [Ax (by omega)]; rfl
 ·rfl
end Go.eR
