/- Part of a proof that a law returns true for every input. No condition. -/
import Derived.Test.YtgpmnlkgmadglaaGreatDoorUA
import Derived.Test.YtgpmnlkgmadglaaGreatDoorUB
namespace Go.eV
open Go Go.c0
def eU (p : b7) : Nat := if p.Kind = 1 ∨ p.Kind = 3 ∨ p.Kind = 4 then 1 else if p.Kind = 2 then 2 else 0
theorem vf (p : b7) : eU p ≤ 2 := by unfold eU; split <;> (try split) <;> omega
theorem N1 (p : b7) (K : Bool → Option Int) (lP : ∀ b, K b = cond b (some 1) (cond (p.Kind == 2) (some 2) (some 0))) :
  cond (p.Kind == 1) (K true) (cond (p.Kind == 3) (K true) (K (p.Kind == 4))) = some (eU p : Int) := by
 simp only [lP, eU]
 by_cases ag : p.Kind = 1
 ·simp [ag]
 ·by_cases aI : p.Kind = 3
  ·simp [aI]
  ·by_cases a_ : p.Kind = 4
   ·simp [a_]
   ·by_cases ah : p.Kind = 2
    ·simp [ah]
    ·have aS : (p.Kind == 1) = false := by simpa using ag
     have aQ : (p.Kind == 3) = false := by simpa using aI
     have ca : (p.Kind == 4) = false := by simpa using a_
     have aX : (p.Kind == 2) = false := by simpa using ah
     simp [aS, aQ, ca, aX, ag, aI, a_, ah]
theorem N2 (p : b7) : xa p = some (eU p : Int) := by
 unfold xa
 exact N1 p (w_ p) fun _ => rfl
theorem N3 (p : b7) : xp p = some (eU p : Int) := by
 unfold xp
 exact N1 p (xo p) fun _ => rfl
def ra : List b7 → Nat → Bool
 | [], k => k == 0
 | p :: r, k => !(k == 0) && ra r (k + eU p - 1)
def ee : List b7 → Nat → Option Nat
 | [], 0 => some 0
 | [], _ + 1 => none
 | _ :: _, 0 => some 0
 | p :: r, k + 1 => (ee r (k + eU p)).map (· + 1)
theorem yk (l : List b7) : ee l 0 = some 0 := by cases l <;> rfl
theorem oK {p : b7} {r : List b7} {a k : Nat} : ee (p :: r) (a + 1) = some k ↔ ∃ db, ee r (a + eU p) = some db ∧ k = db + 1 := by
 simp only [ee, Option.map_eq_some_iff]
 constructor
 ·rintro ⟨db, h, rfl⟩; exact ⟨db, h, rfl⟩
 ·rintro ⟨db, h, rfl⟩; exact ⟨db, h, rfl⟩
theorem s4 : ∀ {l : List b7} {a k : Nat}, ee l a = some k → a ≤ k ∧ k ≤ l.length
 | [], 0, k, h => by simp only [ee, Option.some.injEq] at h; subst h; simp
 | [], a + 1, k, h => by simp [ee] at h
 | _ :: _, 0, k, h => by simp only [ee, Option.some.injEq] at h; subst h; simp
 | p :: r, a + 1, k, h => by
   obtain ⟨db, bx, rfl⟩ := oK.1 h
   have := s4 bx
   simp only [List.length_cons]; omega
theorem Gu : ∀ (l : List b7) (k : Nat), ra l k = (ee l k == some l.length)
 | [], 0 => rfl
 | [], k + 1 => rfl
 | p :: r, 0 => rfl
 | p :: r, k + 1 => by
   have e : k + 1 + eU p - 1 = k + eU p := by omega
   simp only [ra, e, Gu r (k + eU p)]
   have gv : (k + 1 == 0) = false := rfl
   rw [gv]
   simp only [Bool.not_false, Bool.true_and, ee]
   cases ee r (k + eU p) with
   | none => rfl
   | some n => simp
theorem ave : ∀ {l : List b7} {a b k : Nat}, ee l a = some k → ee l (a + b) = (ee (l.drop k) b).map (k + ·)
 | [], 0, b, k, h => by
   simp only [ee, Option.some.injEq] at h; subst h
   rw [Nat.zero_add, List.drop_zero]; cases ee [] b <;> simp
 | [], a + 1, b, k, h => by simp [ee] at h
 | p :: r, 0, b, k, h => by
   simp only [ee, Option.some.injEq] at h; subst h
   rw [Nat.zero_add, List.drop_zero]; cases ee (p :: r) b <;> simp
 | p :: r, a + 1, b, k, h => by
   obtain ⟨db, bx, rfl⟩ := oK.1 h
   rw [show a + 1 + b = (a + b) + 1 by omega]
   simp only [ee, List.drop_succ_cons]
   rw [show a + b + eU p = (a + eU p) + b by omega, ave bx]
   cases ee (r.drop db) b <;> simp; omega
theorem yl : ∀ {l : List b7} {a b k : Nat}, ee l (a + b) = some k → ∃ bU cb, ee l a = some bU ∧ ee (l.drop bU) b = some cb ∧ k = bU + cb
 | l, 0, b, k, h => ⟨0, k, yk l, by simpa using h, by omega⟩
 | [], a + 1, b, k, h => by rw [show a + 1 + b = (a + b) + 1 by omega] at h; simp [ee] at h
 | p :: r, a + 1, b, k, h => by
   rw [show a + 1 + b = (a + b) + 1 by omega] at h
   obtain ⟨db, bx, rfl⟩ := oK.1 h
   rw [show a + b + eU p = (a + eU p) + b by omega] at bx
   obtain ⟨bU, cb, ag, ah, rfl⟩ := yl bx
   exact ⟨bU + 1, cb, oK.2 ⟨bU, ag, rfl⟩, by simpa using ah, by omega⟩
theorem N4 : ∀ {l : List b7} {a k : Nat}, ee l a = some k → ∀ i, i < k → ∃ m, 1 ≤ m ∧ ee (l.drop i) m = some (k - i)
 | [], 0, k, h, i, al => by simp only [ee, Option.some.injEq] at h; omega
 | [], a + 1, k, h, i, al => by simp [ee] at h
 | _ :: _, 0, k, h, i, al => by simp only [ee, Option.some.injEq] at h; omega
 | p :: r, a + 1, k, h, i, al => by
   cases i with
   | zero => exact ⟨a + 1, by omega, by simpa using h⟩
   | succ i =>
     obtain ⟨db, bx, rfl⟩ := oK.1 h
     obtain ⟨m, ag, ah⟩ := N4 bx i (by omega)
     exact ⟨m, ag, by simp only [List.drop_succ_cons]; rw [ah]; congr 1; omega⟩
theorem avf {l : List b7} {a k i : Nat} (h : ee l a = some k) (al : i < k) : ∃ e, ee (l.drop i) 1 = some e ∧ i + e ≤ k ∧ 1 ≤ e := by
 obtain ⟨m, ag, ah⟩ := N4 h i al
 obtain ⟨m, rfl⟩ : ∃ j, m = 1 + j := ⟨m - 1, by omega⟩
 obtain ⟨bU, cb, aI, a_, bN⟩ := yl ah
 have := s4 aI
 exact ⟨bU, aI, by omega, by omega⟩
theorem Gv {k a : Nat} (az : 1 ≤ k) (nV : k ≤ 100000000) (b_ : a ≤ 2) : IntKind.i64.wrap ((k : Int) + IntKind.i64.wrap ((a : Int) - 1)) = ((k + a - 1 : Nat) : Int) := by
 rw [hg ((a : Int) - 1) (by omega), hg _ (by omega)]; omega
theorem avg (e : List b7) (he : e.length ≤ 1048576) : zZ e = some ((decide (1 ≤ e.length) && decide (e.length ≤ 20)) && ra e 1) := by
 unfold zZ
 by_cases hm : 1 ≤ e.length ∧ e.length ≤ 20
 ·have d1 : (((e.length : Int) == 0) || decide ((20 : Int) < (e.length : Int))) = false := by
   rw [Bool.or_eq_false_iff, beq_eq_false_iff_ne, decide_eq_false_iff_not]; omega
  have d2 : (decide (1 ≤ e.length) && decide (e.length ≤ 20)) = true := by simp; omega
  rw [d1, d2, cond_false, Bool.true_and]
  have key : ∀ i, i ≤ e.length → ∀ (k : Nat) m, k ≤ 1 + 2 * i → e.length - i < m → sa e m (k : Int) (i : Int) = some (ra (e.drop i) k) := by
   refine down e.length ?_ ?_
   ·intro k m _ hm
    obtain ⟨m, rfl⟩ : ∃ j, m = j + 1 := ⟨m - 1, by omega⟩
    simp only [sa, zY]
    rw [gr (Nat.le_refl _), List.drop_of_length_le (Nat.le_refl _), ve]; rfl
   ·intro i al ih k m az hm
    obtain ⟨m, rfl⟩ : ∃ j, m = j + 1 := ⟨m - 1, by omega⟩
    simp only [sa, zY]
    rw [gb al, gG _ i al, ga i _ al (by omega), drop_cons e i al, ve]
    simp only [cond_true, Option.bind_some, N2, ra]
    by_cases bc : k = 0
    ·subst bc; rfl
    ·have ab : (k == 0) = false := by simpa using bc
     have b_ := vf e[i]
     rw [ab, Gv (by omega) (by omega) b_, ih _ m (by omega) (by omega)]
     simp only [cond_false, Bool.not_false, Bool.true_and]
  refine iH (e.length + 1) fun m hm => ?_
  have := key 0 (by omega) 1 m (by omega) (by omega)
  simpa using this
 ·have d1 : (((e.length : Int) == 0) || decide ((20 : Int) < (e.length : Int))) = true := by
   by_cases h : e.length = 0
   ·simp [h]
   ·have : decide ((20 : Int) < (e.length : Int)) = true := by simp; omega
    rw [this, Bool.or_true]
  have d2 : (decide (1 ≤ e.length) && decide (e.length ≤ 20)) = false := by
   rw [Bool.and_eq_false_iff, decide_eq_false_iff_not, decide_eq_false_iff_not]; omega
  rw [d1, d2]; rfl
def pq (i : Nat) : Option Nat → Int
 | none => -1
 | some n => ((i + n : Nat) : Int)
theorem avh (d : bm) (ai : d.Body.length ≤ 1048576) (i0 : Nat) (bc : i0 ≤ d.Body.length) : AK d (i0 : Int) = some (pq i0 (ee (d.Body.drop i0) 1)) := by
 unfold AK
 have key : ∀ i, i ≤ d.Body.length → ∀ (k : Nat) m, k ≤ 1 + 2 * i → d.Body.length - i < m → sq d m (i : Int) (k : Int) = some (pq i (ee (d.Body.drop i) k)) := by
  refine down d.Body.length ?_ ?_
  ·intro k m _ hm
   obtain ⟨m, rfl⟩ : ∃ j, m = j + 1 := ⟨m - 1, by omega⟩
   simp only [sq, AJ]
   rw [List.drop_of_length_le (Nat.le_refl _)]
   cases k with
   | zero => rw [sX]; simp [ee, pq]
   | succ k =>
     rw [u7 (Nat.succ_pos k)]
     have : decide ((d.Body.length : Int) ≤ (d.Body.length : Int)) = true := by simp
     rw [this]; rfl
  ·intro i al ih k m az hm
   obtain ⟨m, rfl⟩ : ∃ j, m = j + 1 := ⟨m - 1, by omega⟩
   simp only [sq, AJ]
   cases k with
   | zero => rw [sX, yk]; simp [pq]
   | succ k =>
     have d1 : decide ((d.Body.length : Int) ≤ (i : Int)) = false := by simp; omega
     rw [u7 (Nat.succ_pos k), d1, gG _ i al, ga i _ al (by omega), drop_cons _ i al]
     simp only [cond_true, cond_false, Option.bind_some, N3]
     have b_ := vf d.Body[i]
     rw [Gv (by omega) (by omega) b_, ih _ m (by omega) (by omega), show k + 1 + eU d.Body[i] - 1 = k + eU d.Body[i] by omega]
     simp only [ee]
     cases ee (d.Body.drop (i + 1)) (k + eU d.Body[i]) with
     | none => rfl
     | some n => simp only [Option.map_some, pq]; congr 2; omega
 refine iH (d.Body.length + 1) fun m hm => ?_
 refine down d.Body.length (P := fun _ => True) trivial (fun _ _ _ => trivial) 0 (Nat.zero_le _) |> fun _ => ?_
 have bU := key i0 bc 1 m (by omega) (by omega)
 simpa using bU
theorem avi (b : List b7) (ab : b.length ≤ 1048576) (i0 n : Nat) (h : ee (b.drop i0) 1 = some n) : z7 b (i0 : Int) = some ((i0 + n : Nat) : Int) := by
 unfold z7
 have bc : i0 < b.length := by
  have := s4 h
  rw [List.length_drop] at this; omega
 have key : ∀ i, i ≤ b.length → ∀ (k n : Nat) m, k ≤ 1 + 2 * i → b.length - i < m → ee (b.drop i) k = some n → sb b m (i : Int) (k : Int) = some ((i + n : Nat) : Int) := by
  refine down b.length ?_ ?_
  ·intro k n m _ hm he
   obtain ⟨m, rfl⟩ : ∃ j, m = j + 1 := ⟨m - 1, by omega⟩
   simp only [sb, z6]
   rw [List.drop_of_length_le (Nat.le_refl _)] at he
   cases k with
   | zero => rw [sX]; simp only [ee, Option.some.injEq] at he; subst he; simp
   | succ k => simp [ee] at he
  ·intro i al ih k n m az hm he
   obtain ⟨m, rfl⟩ : ∃ j, m = j + 1 := ⟨m - 1, by omega⟩
   simp only [sb, z6]
   cases k with
   | zero => rw [yk] at he; cases he; rw [sX]; simp
   | succ k =>
     rw [drop_cons _ i al] at he
     obtain ⟨Dd, mH, rfl⟩ := oK.1 he
     rw [u7 (Nat.succ_pos k), gG _ i al, ga i _ al (by omega)]
     simp only [cond_true, Option.bind_some, N2]
     have b_ := vf b[i]
     rw [Gv (by omega) (by omega) b_, show k + 1 + eU b[i] - 1 = k + eU b[i] by omega, ih _ Dd m (by omega) (by omega) mH]
     congr 2; omega
 refine iH (b.length + 1) fun m hm => ?_
 have bU := key i0 (by omega) 1 n m (by omega) (by omega) h
 simpa using bU
end Go.eV
