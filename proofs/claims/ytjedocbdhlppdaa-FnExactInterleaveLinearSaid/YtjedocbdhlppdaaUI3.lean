/- Part of a proof that a law returns true for every input. No condition. -/
import Derived.Test.YtjedocbdhlppdaaUI2
import Derived.Test.YtjedocbdhlppdaaUL9
namespace Go.gV
open Go Go.dp
theorem KJ {α : Type} {f : α → Nat} {c : Nat} : ∀ {l : List α}, (∀ x ∈ l, f x ≤ c) → e4 f l ≤ l.length * c
 | [], _ => by simp [e4]
 | x :: r, h => by
   have ag := h x (by simp)
   have ah := KJ (l := r) fun y bL => h y (by simp [bL])
   simp only [e4, List.length_cons, Nat.add_mul]; omega
theorem DC {α : Type} {f : α → Nat} {c k : Nat} {l : List α} (hl : l.length ≤ k) (h : ∀ x ∈ l, f x ≤ c) : gY f l ≤ k * (c + 1) := by
 have ag := KJ h
 have ah : l.length * c ≤ k * c := Nat.mul_le_mul_right c hl
 simp only [gY, Nat.mul_add, Nat.mul_one]; omega
theorem KK {es : List (List aA)} {v : Int} (h : l6 es v = true) : ∀ e ∈ es, e.length + 0 ≤ 60 := by
 intro e he
 simp only [l6, List.all_eq_true] at h
 have := h e he
 simp only [kH, Bool.and_eq_true, decide_eq_true_eq] at this
 omega
theorem ai0 {x : aY} {p : Int} (h : mA x p = true) (ay : p ≤ 21) : jl x ≤ 1600 := by
 have KI := DB h
 simp only [mA, Bool.and_eq_true] at h
 obtain ⟨ag, ah, _, bd, bI, cx⟩ := h
 simp only [nQ, Bool.and_eq_true, decide_eq_true_eq] at ag
 simp only [kH, Bool.and_eq_true, decide_eq_true_eq] at ah
 have lo : x.Name.length ≤ 10 ∧ x.bH.length ≤ 2 := by
  split at bd
  ·rename_i a3
   rw [a3]
   simp only [decide_eq_true_eq] at bd
   simp [o_, bd]
  ·simp only [qq, rZ, Bool.and_eq_true, decide_eq_true_eq] at bd
   omega
 have e6 := DC lo.2 (KK bI)
 have hy := DC (k := 21) (by omega) (KK cx)
 unfold jl
 omega
theorem ai1 {l : bc} (h : jC l = true) : kl l ≤ 1048576 := by
 obtain ⟨e5, fT, ho, tZ, e9⟩ := r2 h
 have := DC (f := jl) tZ (fun x aw => ai0 (e9 x aw) fT)
 unfold kl
 omega
theorem ai2 (a b : bc) : kl (r5 a b).1 ≤ 1048576 := by
 unfold r5
 cases jC a && jC b
 ·show kl ⟨0, [], []⟩ ≤ _
  simp [kl, gY, e4]
 ·cases h : jC (l8 a b a.aV.toNat b.aV.toNat)
  ·show kl ⟨0, [], []⟩ ≤ _
   simp [kl, gY, e4]
  ·exact ai1 h
theorem ahV (a b : jf) (bX : td a) (U : td b) : CE a b = some true := by
 unfold CE
 rw [J8 a 1048576 bX (by omega) (by omega)]
 simp only [Option.bind_some]
 rcases Nat.lt_or_ge 1048576 (mz a) with h | h
 ·rw [wF (by omega)]; rfl
 rw [zH (by omega)]
 have a1 : decide ((1048576 : Int) - ((mz a : Nat) : Int) < 0) = false := by simp only [decide_eq_false_iff_not]; omega
 rw [a1, cond_false, J8 b _ U (by omega) (by omega)]
 simp only [Option.bind_some]
 rcases Int.lt_or_le (1048576 - ((mz a : Nat) : Int)) ((mz b : Nat) : Int) with ah | ah
 ·rw [wF (by omega)]; rfl
 rw [zH (by omega)]
 have bg : decide ((1048576 : Int) - ((mz a : Nat) : Int) - ((mz b : Nat) : Int) < 0) = false := by simp only [decide_eq_false_iff_not]; omega
 have KL : mz b ≤ 1048576 := by omega
 rw [bg, cond_false, Kc a h, Kc b KL]
 simp only [Option.bind_some]
 have hl : kl (rW a) ≤ 1048576 := by rw [Kb]; exact h
 have aB : kl (rW b) ≤ 1048576 := by rw [Kb]; exact KL
 generalize rW a = x at hl
 generalize rW b = y at aB
 have aw := Kv x hl
 have bL := Kv y aB
 have a2 := ai2 x y
 obtain ⟨hP, fO, iZ, c, bT, fg, _⟩ := Dm x 1 (by omega) (by omega)
 obtain ⟨alo, Hb, Hc, d, d1, gy, _⟩ := Dm y (1 + (c : Int)) (by omega) (by omega)
 obtain ⟨q0, oI, pn, f, f1, iv, lb⟩ := Dm (r5 x y).1 1 (by omega) (by omega)
 simp only [aiY x y aw bL, aiZ x y aw bL, Option.bind_some, Dl _ a2, Dl x hl, Dl y aB, fg, gy, iv, lb, Bool.not_true, bne_self_eq_false, Bool.or_self, cond_false, o9 (k := 1 + (c : Int) + (d : Int)) (by omega), o9 (k := 1 + (f : Int)) (by omega)]
end Go.gV
