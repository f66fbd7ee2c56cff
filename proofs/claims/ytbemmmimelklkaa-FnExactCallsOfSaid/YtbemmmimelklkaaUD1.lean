/- Part of a proof that a law returns true for every input. No condition. -/
import Derived.Test.YtbemmmimelklkaaUA
import Derived.Test.YtbemmmimelklkaaUB
namespace Go.Sh
open Go Go.Fw
def flw (p : impl_Part) : Nat := if p.Kind = 1 ∨ p.Kind = 3 ∨ p.Kind = 4 then 1 else if p.Kind = 2 then 2 else 0
theorem flw_le (p : impl_Part) : flw p ≤ 2 := by unfold flw; split <;> (try split) <;> omega
theorem flw_val (p : impl_Part) (K : Bool → Option Int) (hK : ∀ b, K b = cond b (some 1) (cond (p.Kind == 2) (some 2) (some 0))) :
  cond (p.Kind == 1) (K true) (cond (p.Kind == 3) (K true) (K (p.Kind == 4))) = some (flw p : Int) := by
 simp only [hK, flw]
 by_cases h1 : p.Kind = 1
 ·simp [h1]
 ·by_cases h3 : p.Kind = 3
  ·simp [h3]
  ·by_cases h4 : p.Kind = 4
   ·simp [h4]
   ·by_cases h2 : p.Kind = 2
    ·simp [h2]
    ·have e1 : (p.Kind == 1) = false := by simpa using h1
     have e3 : (p.Kind == 3) = false := by simpa using h3
     have e4 : (p.Kind == 4) = false := by simpa using h4
     have e2 : (p.Kind == 2) = false := by simpa using h2
     simp [e1, e3, e4, e2, h1, h3, h4, h2]
theorem spec_follow (p : impl_Part) : spec_l05Follow p = some (flw p : Int) := by
 unfold spec_l05Follow
 exact flw_val p (spec_l05Follow_k16 p) fun _ => rfl
theorem impl_follow (p : impl_Part) : impl_Part_follow p = some (flw p : Int) := by
 unfold impl_Part_follow
 exact flw_val p (impl_Part_follow_k16 p) fun _ => rfl
def walkP : List impl_Part → Nat → Bool
 | [], k => k == 0
 | p :: r, k => !(k == 0) && walkP r (k + flw p - 1)
def endI : List impl_Part → Nat → Option Nat
 | [], 0 => some 0
 | [], _ + 1 => none
 | _ :: _, 0 => some 0
 | p :: r, k + 1 => (endI r (k + flw p)).map (· + 1)
theorem endI_0 (l : List impl_Part) : endI l 0 = some 0 := by cases l <;> rfl
theorem endI_cons {p : impl_Part} {r : List impl_Part} {a k : Nat} : endI (p :: r) (a + 1) = some k ↔ ∃ k', endI r (a + flw p) = some k' ∧ k = k' + 1 := by
 simp only [endI, Option.map_eq_some_iff]
 constructor
 ·rintro ⟨k', h, rfl⟩; exact ⟨k', h, rfl⟩
 ·rintro ⟨k', h, rfl⟩; exact ⟨k', h, rfl⟩
theorem endI_le : ∀ {l : List impl_Part} {a k : Nat}, endI l a = some k → a ≤ k ∧ k ≤ l.length
 | [], 0, k, h => by simp only [endI, Option.some.injEq] at h; subst h; simp
 | [], a + 1, k, h => by simp [endI] at h
 | _ :: _, 0, k, h => by simp only [endI, Option.some.injEq] at h; subst h; simp
 | p :: r, a + 1, k, h => by
   obtain ⟨k', h', rfl⟩ := endI_cons.1 h
   have := endI_le h'
   simp only [List.length_cons]; omega
theorem walkP_end : ∀ (l : List impl_Part) (k : Nat), walkP l k = (endI l k == some l.length)
 | [], 0 => rfl
 | [], k + 1 => rfl
 | p :: r, 0 => rfl
 | p :: r, k + 1 => by
   have e : k + 1 + flw p - 1 = k + flw p := by omega
   simp only [walkP, e, walkP_end r (k + flw p)]
   have e0 : (k + 1 == 0) = false := rfl
   rw [e0]
   simp only [Bool.not_false, Bool.true_and, endI]
   cases endI r (k + flw p) with
   | none => rfl
   | some n => simp
theorem endI_add : ∀ {l : List impl_Part} {a b k : Nat}, endI l a = some k → endI l (a + b) = (endI (l.drop k) b).map (k + ·)
 | [], 0, b, k, h => by
   simp only [endI, Option.some.injEq] at h; subst h
   rw [Nat.zero_add, List.drop_zero]; cases endI [] b <;> simp
 | [], a + 1, b, k, h => by simp [endI] at h
 | p :: r, 0, b, k, h => by
   simp only [endI, Option.some.injEq] at h; subst h
   rw [Nat.zero_add, List.drop_zero]; cases endI (p :: r) b <;> simp
 | p :: r, a + 1, b, k, h => by
   obtain ⟨k', h', rfl⟩ := endI_cons.1 h
   rw [show a + 1 + b = (a + b) + 1 by omega]
   simp only [endI, List.drop_succ_cons]
   rw [show a + b + flw p = (a + flw p) + b by omega, endI_add h']
   cases endI (r.drop k') b <;> simp; omega
theorem endI_split : ∀ {l : List impl_Part} {a b k : Nat}, endI l (a + b) = some k → ∃ k1 k2, endI l a = some k1 ∧ endI (l.drop k1) b = some k2 ∧ k = k1 + k2
 | l, 0, b, k, h => ⟨0, k, endI_0 l, by simpa using h, by omega⟩
 | [], a + 1, b, k, h => by rw [show a + 1 + b = (a + b) + 1 by omega] at h; simp [endI] at h
 | p :: r, a + 1, b, k, h => by
   rw [show a + 1 + b = (a + b) + 1 by omega] at h
   obtain ⟨k', h', rfl⟩ := endI_cons.1 h
   rw [show a + b + flw p = (a + flw p) + b by omega] at h'
   obtain ⟨k1, k2, h1, h2, rfl⟩ := endI_split h'
   exact ⟨k1 + 1, k2, endI_cons.2 ⟨k1, h1, rfl⟩, by simpa using h2, by omega⟩
theorem endI_in : ∀ {l : List impl_Part} {a k : Nat}, endI l a = some k → ∀ i, i < k → ∃ m, 1 ≤ m ∧ endI (l.drop i) m = some (k - i)
 | [], 0, k, h, i, hi => by simp only [endI, Option.some.injEq] at h; omega
 | [], a + 1, k, h, i, hi => by simp [endI] at h
 | _ :: _, 0, k, h, i, hi => by simp only [endI, Option.some.injEq] at h; omega
 | p :: r, a + 1, k, h, i, hi => by
   cases i with
   | zero => exact ⟨a + 1, by omega, by simpa using h⟩
   | succ i =>
     obtain ⟨k', h', rfl⟩ := endI_cons.1 h
     obtain ⟨m, h1, h2⟩ := endI_in h' i (by omega)
     exact ⟨m, h1, by simp only [List.drop_succ_cons]; rw [h2]; congr 1; omega⟩
theorem endI_one {l : List impl_Part} {a k i : Nat} (h : endI l a = some k) (hi : i < k) : ∃ e, endI (l.drop i) 1 = some e ∧ i + e ≤ k ∧ 1 ≤ e := by
 obtain ⟨m, h1, h2⟩ := endI_in h i hi
 obtain ⟨m, rfl⟩ : ∃ j, m = 1 + j := ⟨m - 1, by omega⟩
 obtain ⟨k1, k2, h3, h4, h5⟩ := endI_split h2
 have := endI_le h3
 exact ⟨k1, h3, by omega, by omega⟩
theorem w_needP {k a : Nat} (hk : 1 ≤ k) (hk2 : k ≤ 100000000) (ha : a ≤ 2) : IntKind.i64.wrap ((k : Int) + IntKind.i64.wrap ((a : Int) - 1)) = ((k + a - 1 : Nat) : Int) := by
 rw [w64 ((a : Int) - 1) (by omega), w64 _ (by omega)]; omega
theorem spec_shape (e : List impl_Part) (he : e.length ≤ 1048576) : spec_l05Shape e = some ((decide (1 ≤ e.length) && decide (e.length ≤ 20)) && walkP e 1) := by
 unfold spec_l05Shape
 by_cases hm : 1 ≤ e.length ∧ e.length ≤ 20
 ·have d1 : (((e.length : Int) == 0) || decide ((20 : Int) < (e.length : Int))) = false := by
   rw [Bool.or_eq_false_iff, beq_eq_false_iff_ne, decide_eq_false_iff_not]; omega
  have d2 : (decide (1 ≤ e.length) && decide (e.length ≤ 20)) = true := by simp; omega
  rw [d1, d2, cond_false, Bool.true_and]
  have key : ∀ i, i ≤ e.length → ∀ (k : Nat) m, k ≤ 1 + 2 * i → e.length - i < m → spec_l05Shape_l16 e m (k : Int) (i : Int) = some (walkP (e.drop i) k) := by
   refine down e.length ?_ ?_
   ·intro k m _ hm
    obtain ⟨m, rfl⟩ : ∃ j, m = j + 1 := ⟨m - 1, by omega⟩
    simp only [spec_l05Shape_l16, spec_l05Shape_b16]
    rw [ltF (Nat.le_refl _), List.drop_of_length_le (Nat.le_refl _), eq0]; rfl
   ·intro i hi ih k m hk hm
    obtain ⟨m, rfl⟩ : ∃ j, m = j + 1 := ⟨m - 1, by omega⟩
    simp only [spec_l05Shape_l16, spec_l05Shape_b16]
    rw [ltT hi, getI_lt _ i hi, wsucc i _ hi (by omega), drop_cons e i hi, eq0]
    simp only [cond_true, Option.bind_some, spec_follow, walkP]
    by_cases h0 : k = 0
    ·subst h0; rfl
    ·have hb : (k == 0) = false := by simpa using h0
     have ha := flw_le e[i]
     rw [hb, w_needP (by omega) (by omega) ha, ih _ m (by omega) (by omega)]
     simp only [cond_false, Bool.not_false, Bool.true_and]
  refine lim_of (e.length + 1) fun m hm => ?_
  have := key 0 (by omega) 1 m (by omega) (by omega)
  simpa using this
 ·have d1 : (((e.length : Int) == 0) || decide ((20 : Int) < (e.length : Int))) = true := by
   by_cases h : e.length = 0
   ·simp [h]
   ·have : decide ((20 : Int) < (e.length : Int)) = true := by simp; omega
    rw [this, Bool.or_true]
  have d2 : (decide (1 ≤ e.length) && decide (e.length ≤ 20)) = false := by
   rw [Bool.and_eq_false_iff, decide_eq_false_iff_not, decide_eq_false_iff_not]; omega
  rw [d1, d2]; rfl
def endV (i : Nat) : Option Nat → Int
 | none => -1
 | some n => ((i + n : Nat) : Int)
theorem impl_end (d : impl_Definition) (hd : d.Body.length ≤ 1048576) (i0 : Nat) (h0 : i0 ≤ d.Body.length) : impl_Definition_end d (i0 : Int) = some (endV i0 (endI (d.Body.drop i0) 1)) := by
 unfold impl_Definition_end
 have key : ∀ i, i ≤ d.Body.length → ∀ (k : Nat) m, k ≤ 1 + 2 * i → d.Body.length - i < m → impl_Definition_end_l6 d m (i : Int) (k : Int) = some (endV i (endI (d.Body.drop i) k)) := by
  refine down d.Body.length ?_ ?_
  ·intro k m _ hm
   obtain ⟨m, rfl⟩ : ∃ j, m = j + 1 := ⟨m - 1, by omega⟩
   simp only [impl_Definition_end_l6, impl_Definition_end_b6]
   rw [List.drop_of_length_le (Nat.le_refl _)]
   cases k with
   | zero => rw [lt0F]; simp [endI, endV]
   | succ k =>
     rw [lt0 (Nat.succ_pos k)]
     have : decide ((d.Body.length : Int) ≤ (d.Body.length : Int)) = true := by simp
     rw [this]; rfl
  ·intro i hi ih k m hk hm
   obtain ⟨m, rfl⟩ : ∃ j, m = j + 1 := ⟨m - 1, by omega⟩
   simp only [impl_Definition_end_l6, impl_Definition_end_b6]
   cases k with
   | zero => rw [lt0F, endI_0]; simp [endV]
   | succ k =>
     have d1 : decide ((d.Body.length : Int) ≤ (i : Int)) = false := by simp; omega
     rw [lt0 (Nat.succ_pos k), d1, getI_lt _ i hi, wsucc i _ hi (by omega), drop_cons _ i hi]
     simp only [cond_true, cond_false, Option.bind_some, impl_follow]
     have ha := flw_le d.Body[i]
     rw [w_needP (by omega) (by omega) ha, ih _ m (by omega) (by omega), show k + 1 + flw d.Body[i] - 1 = k + flw d.Body[i] by omega]
     simp only [endI]
     cases endI (d.Body.drop (i + 1)) (k + flw d.Body[i]) with
     | none => rfl
     | some n => simp only [Option.map_some, endV]; congr 2; omega
 refine lim_of (d.Body.length + 1) fun m hm => ?_
 refine down d.Body.length (P := fun _ => True) trivial (fun _ _ _ => trivial) 0 (Nat.zero_le _) |> fun _ => ?_
 have k1 := key i0 h0 1 m (by omega) (by omega)
 simpa using k1
theorem spec_end (b : List impl_Part) (hb : b.length ≤ 1048576) (i0 n : Nat) (h : endI (b.drop i0) 1 = some n) : spec_l05End b (i0 : Int) = some ((i0 + n : Nat) : Int) := by
 unfold spec_l05End
 have h0 : i0 < b.length := by
  have := endI_le h
  rw [List.length_drop] at this; omega
 have key : ∀ i, i ≤ b.length → ∀ (k n : Nat) m, k ≤ 1 + 2 * i → b.length - i < m → endI (b.drop i) k = some n → spec_l05End_l6 b m (i : Int) (k : Int) = some ((i + n : Nat) : Int) := by
  refine down b.length ?_ ?_
  ·intro k n m _ hm he
   obtain ⟨m, rfl⟩ : ∃ j, m = j + 1 := ⟨m - 1, by omega⟩
   simp only [spec_l05End_l6, spec_l05End_b6]
   rw [List.drop_of_length_le (Nat.le_refl _)] at he
   cases k with
   | zero => rw [lt0F]; simp only [endI, Option.some.injEq] at he; subst he; simp
   | succ k => simp [endI] at he
  ·intro i hi ih k n m hk hm he
   obtain ⟨m, rfl⟩ : ∃ j, m = j + 1 := ⟨m - 1, by omega⟩
   simp only [spec_l05End_l6, spec_l05End_b6]
   cases k with
   | zero => rw [endI_0] at he; cases he; rw [lt0F]; simp
   | succ k =>
     rw [drop_cons _ i hi] at he
     obtain ⟨n', he', rfl⟩ := endI_cons.1 he
     rw [lt0 (Nat.succ_pos k), getI_lt _ i hi, wsucc i _ hi (by omega)]
     simp only [cond_true, Option.bind_some, spec_follow]
     have ha := flw_le b[i]
     rw [w_needP (by omega) (by omega) ha, show k + 1 + flw b[i] - 1 = k + flw b[i] by omega, ih _ n' m (by omega) (by omega) he']
     congr 2; omega
 refine lim_of (b.length + 1) fun m hm => ?_
 have k1 := key i0 (by omega) 1 n m (by omega) (by omega) h
 simpa using k1
end Go.Sh
