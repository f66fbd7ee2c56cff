/- Part of a proof that a law returns true for every input. No condition. -/
import Derived.Test.YtgpmnlkgmadglaaGreatDoorUX1
namespace Go.eR
open Go Go.cY
mutual
def im : cq → List ba
 | .mk t a => t :: iE a
def iE : List cq → List ba
 | [] => []
 | x :: r => im x ++ iE r
end
mutual
def jA : cq → Nat
 | .mk _ a => 1 + kl a
def kl : List cq → Nat
 | [] => 0
 | x :: r => jA x + kl r
end
mutual
def p0 : cq → Prop
 | .mk t a => a.length = kZ t ∧ p1 a
def p1 : List cq → Prop
 | [] => True
 | x :: r => p0 x ∧ p1 r
end
theorem Q_ (x : cq) : cq.mk x.term x.args = x := by cases x; rfl
theorem axR (x : cq) : im x = x.term :: iE x.args := by cases x; simp [im, cq.term, cq.args]
mutual
theorem Jl : ∀ x, (im x).length = jA x
 | .mk t a => by simp only [im, jA, List.length_cons, AJ a]; omega
theorem AJ : ∀ a, (iE a).length = kl a
 | [] => by simp only [iE, kl, List.length_nil]
 | x :: r => by simp only [iE, kl, List.length_append, Jl x, AJ r]
end
theorem EF : ∀ a b, iE (a ++ b) = iE a ++ iE b
 | [], b => by simp only [iE, List.nil_append]
 | x :: r, b => by simp only [List.cons_append, iE, EF r b, List.append_assoc]
theorem Jm : ∀ a b, p1 (a ++ b) ↔ p1 a ∧ p1 b
 | [], b => by simp [p1]
 | x :: r, b => by simp only [List.cons_append, p1, Jm r b]; exact ⟨fun ⟨a, b, c⟩ => ⟨⟨a, b⟩, c⟩, fun ⟨⟨a, b⟩, c⟩ => ⟨a, b, c⟩⟩
theorem Jn : ∀ {a : List cq}, p1 a → ∀ x ∈ a, p0 x
 | y :: r, h, x, aq => by
   rcases List.mem_cons.1 aq with rfl | aq
   ·exact h.1
   ·exact Jn h.2 x aq
theorem Jo : ∀ {a : List cq}, ∀ x ∈ a, jA x ≤ kl a
 | y :: r, x, aq => by
   simp only [kl]
   rcases List.mem_cons.1 aq with rfl | aq
   ·omega
   ·have := Jo x aq; omega
theorem xH (x : cq) : 1 ≤ jA x := by cases x; simp only [jA]; omega
theorem axS (x : cq) : jA x = 1 + kl x.args := by cases x; simp [jA, cq.args]
theorem axT (x : cq) : p0 x ↔ x.args.length = kZ x.term ∧ p1 x.args := by cases x; simp [p0, cq.args, cq.term]
theorem Ra (v : Int) : ∀ (e : List ba) (k : Nat), oY v e k = true → ∃ xs : List cq, xs.length = k ∧ p1 xs ∧ iE xs = e
 | [], k, h => by
   simp only [oY, beq_iff_eq] at h
   subst h; exact ⟨[], rfl, trivial, by simp only [iE]⟩
 | t :: r, k, h => by
   simp only [oY, Bool.and_eq_true, Bool.not_eq_true', beq_eq_false_iff_ne] at h
   obtain ⟨ar, a1, aW⟩ := h
   obtain ⟨ck, af, ag, aF⟩ := Ra v r _ aW
   refine ⟨.mk t (ck.take (kZ t)) :: ck.drop (kZ t), ?_, ?_, ?_⟩
   ·simp; omega
   ·have ab := List.take_append_drop (kZ t) ck
    have hw := (Jm (ck.take (kZ t)) (ck.drop (kZ t))).1 (by rw [ab]; exact ag)
    exact ⟨⟨by simp; omega, hw.1⟩, hw.2⟩
   ·simp only [iE, im, List.cons_append]
    rw [← EF, List.take_append_drop, aF]
theorem axU {v most : Int} {e : List ba} (h : mY e v most = true) : ∃ x, p0 x ∧ im x = e := by
 simp only [mY, Bool.and_eq_true] at h
 obtain ⟨xs, af, ag, aF⟩ := Ra v e 1 h.2
 cases xs with
 | nil => simp at af
 | cons x r =>
   cases r with
   | nil => exact ⟨x, ag.1, by simpa [iE] using aF⟩
   | cons y r => simp at af
theorem axV (rec : List ba → Option (ba × List cq × List ba)) (t : ba) (a : List cq) (rest : List ba) (bF : a.length ≤ 1000)
  (Ev : ∀ x ∈ a, ∀ rest, rec (im x ++ rest) = some (x.term, x.args, rest)) : c2 (fun n => sJ rec t (a.length : Int) n [] (iE a ++ rest) 0) = some (t, a, rest) := by
 have key : ∀ i, i ≤ a.length → ∀ m, a.length - i < m → sJ rec t (a.length : Int) m (a.take i) (iE (a.drop i) ++ rest) (i : Int) = some (t, a, rest) := by
  refine down a.length ?_ ?_
  ·intro m hm
   obtain ⟨m, rfl⟩ : ∃ j, m = j + 1 := ⟨m - 1, by omega⟩
   simp only [sJ, Dc]
   rw [gI (Nat.le_refl _)]
   simp [iE]
  ·intro i an ih m hm
   obtain ⟨m, rfl⟩ : ∃ j, m = j + 1 := ⟨m - 1, by omega⟩
   simp only [sJ, Dc]
   rw [hx an, hg i _ an (by omega), drop_cons a i an]
   simp only [cond_true, iE, List.append_assoc]
   rw [Ev _ (List.getElem_mem an)]
   simp only [Option.bind_some]
   rw [qU (by simp; omega) (by simp; omega), Q_]
   simp only [Option.bind_some]
   have Rb := ih m (by omega)
   rw [List.take_succ_eq_append_getElem an] at Rb
   exact Rb
 refine hE (a.length + 1) fun m hm => ?_
 have := key 0 (by omega) m (by omega)
 simpa using this
theorem axW (n : Nat) : ∀ x, p0 x → jA x ≤ n → ∀ rest, wY n (im x ++ rest) = some (x.term, x.args, rest) := by
 induction n with
 | zero => intro x _ h; have := xH x; omega
 | succ n ih =>
   intro x hw ab rest
   obtain ⟨af, ag⟩ := (axT x).1 hw
   have d_ := axS x
   simp only [wY, HL, axR, List.cons_append, I3, Option.bind_some, aws, QC, ← af]
   refine axV _ _ _ _ (by have := Et x.term; omega) fun y hy rest => ih y (Jn ag y hy) ?_ rest
   have := Jo y hy
   omega
theorem axX (x : cq) (hw : p0 x) : Dd (im x) = some (x.term, x.args) := by
 unfold Dd HM
 rw [hE (x := some (x.term, x.args, [])) (jA x) fun n bc => by
  have := axW n x hw bc []
  simpa using this]
 rfl
def vh (op a b : Int) : Int :=
 cond (op == 0) (Int.tmod (IntKind.i64.wrap (a + b)) 64) (cond (op == 1) (Int.tmod (IntKind.i64.wrap ((IntKind.i64.wrap (a - b)) + 64)) 64) (cond (op == 2) (Int.tmod (IntKind.i64.wrap (a * b)) 64) (cond (op == 3) (rM (a == b)) (cond (op == 4) (rM (a != b)) (cond (op == 5) (rM (decide (a < b))) (cond (op == 6) (rM (decide (a ≤ b))) (cond (op == 7) (rM ((a != 0) && (b != 0))) (rM ((a != 0) || (b != 0))))))))))
theorem axY (op a b : Int) : De op a b = some (vh op a b) := by
 unfold De vh oO
 simp only [Er, Option.bind_some]
 cases op == 0 <;> cases op == 1 <;> cases op == 2 <;> cases op == 3 <;> cases op == 4 <;> cases op == 5 <;> cases op == 6 <;> cases op == 7 <;> cases a != 0 <;> cases b != 0 <;> rfl
theorem axZ (op a b : Int) : CF op a b = some (vh op a b) := by
 unfold CF vh oH
 simp only [Er, Option.bind_some]
 cases op == 0 <;> cases op == 1 <;> cases op == 2 <;> cases op == 3 <;> cases op == 4 <;> cases op == 5 <;> cases op == 6 <;> cases op == 7 <;> cases a != 0 <;> cases b != 0 <;> rfl
def vi (t : ba) (l : List Int) : Int := cond (t.Kind == 3) (rM (l.getD 0 0 == 0)) (vh t.Value (l.getD 0 0) (l.getD 1 0))
theorem Jp : ∀ a : List cq, a.length ≤ kl a
 | [] => Nat.zero_le _
 | x :: r => by have := Jp r; have := xH x; simp only [List.length_cons, kl]; omega
theorem ax0 (e : List ba) (he : e.length ≤ 1048576) (rest : List ba) : ∀ (n : Nat) (xs : List cq) (i : Nat), p1 xs → kl xs = n → n ≤ 1000000 → i ≤ e.length → e.drop i = iE xs ++ rest → ∀ m, n < m →
  ug e m (i : Int) (xs.length : Int) = some ((i + n : Nat) : Int) := by
 intro n
 induction n with
 | zero =>
   intro xs i _ ab _ _ _ m hm
   obtain ⟨m, rfl⟩ : ∃ j, m = j + 1 := ⟨m - 1, by omega⟩
   have : xs = [] := by
    cases xs with
    | nil => rfl
    | cons x r => simp only [kl] at ab; have := xH x; omega
   subst this
   simp only [ug, CD]
   have : decide ((0 : Int) < (([] : List cq).length : Int)) = false := by decide
   rw [this]; rfl
 | succ n ih =>
   intro xs i hw ab aq an ai m hm
   obtain ⟨m, rfl⟩ : ∃ j, m = j + 1 := ⟨m - 1, by omega⟩
   cases xs with
   | nil => simp [kl] at ab
   | cons x r =>
     obtain ⟨t, a⟩ := x
     have Rc := hw.1
     simp only [iE, im, List.cons_append, List.append_assoc] at ai
     have dZ : i < e.length := by
      rcases Nat.lt_or_ge i e.length with h | h
      ·exact h
      ·rw [List.drop_of_length_le h] at ai; cases ai
     rw [drop_cons e i dZ] at ai
     injection ai with af ag
     simp only [ug, CD]
     have d1 : decide ((0 : Int) < ((cq.mk t a :: r).length : Int)) = true := by simp
     have bF := Et t
     have sx : a.length = kZ t := Rc.1
     rw [d1, fp _ i dZ, af, hg i _ dZ (by omega)]
     simp only [cond_true, Option.bind_some, QB]
     rw [I8 (k := (cq.mk t a :: r).length) (by simp) (by have := Jp (cq.mk t a :: r); omega) bF]
     have hlen : (cq.mk t a :: r).length + kZ t - 1 = (a ++ r).length := by simp; omega
     have aAB := Jp (cq.mk t a :: r)
     rw [hlen, ih (a ++ r) (i + 1) ((Jm a r).2 ⟨Rc.2, hw.2⟩) (by
      have : ∀ a b, kl (a ++ b) = kl a + kl b := by
       intro a b
       rw [← AJ, ← AJ, ← AJ, EF, List.length_append]
      rw [this]; simp only [kl, jA] at ab; omega) (by omega) (by omega) (by rw [EF, List.append_assoc]; exact ag) m (by omega)]
     congr 1; omega
mutual
def ln (a : List Int) : cq → Int
 | .mk t xs => cond (t.Kind == 0) t.Value (cond (t.Kind == 1) (a.getD t.Value.toNat 0) (vi t (p2 a xs)))
def p2 (a : List Int) : List cq → List Int
 | [] => []
 | x :: r => ln a x :: p2 a r
end
theorem Rd (v : Int) : ∀ (e : List ba) (k : Nat), oY v e k = true → ∀ t ∈ e, mu t v = true
 | [], _, _, _, h => by cases h
 | t :: r, k, h, u, hu => by
   simp only [oY, Bool.and_eq_true] at h
   rcases List.mem_cons.1 hu with rfl | hu
   ·exact h.2.1
   ·exact Rd v r _ h.2.2 u hu
theorem Jq {t : ba} {v : Int} (h : mu t v = true) : (t.Kind = 0 ∧ 0 ≤ t.Value ∧ t.Value ≤ 63) ∨ (t.Kind = 1 ∧ 0 ≤ t.Value ∧ t.Value ≤ v - 1) ∨ (t.Kind = 2 ∧ kZ t = 2) ∨ (t.Kind = 3 ∧ kZ t = 1) := by
 unfold mu oX at h
 by_cases bn : t.Kind = 0
 ·simp only [bn, beq_self_eq_true, cond_true, Bool.and_eq_true, decide_eq_true_eq] at h; exact .inl ⟨bn, h⟩
 ·have gh : (t.Kind == 0) = false := by simpa using bn
  rw [gh, cond_false] at h
  by_cases af : t.Kind = 1
  ·simp only [af, beq_self_eq_true, cond_true, Bool.and_eq_true, decide_eq_true_eq] at h; exact .inr (.inl ⟨af, h⟩)
  ·have aN : (t.Kind == 1) = false := by simpa using af
   rw [aN, cond_false] at h
   by_cases ag : t.Kind = 2
   ·exact .inr (.inr (.inl ⟨ag, by simp [kZ, ag]⟩))
   ·have aZ : (t.Kind == 2) = false := by simpa using ag
    rw [aZ, cond_false] at h
    by_cases aF : t.Kind = 3
    ·exact .inr (.inr (.inr ⟨aF, by simp [kZ, aF]⟩))
    ·have aT : (t.Kind == 3) = false := by simpa using aF
     rw [aT, cond_false] at h; cases h
theorem Re {α : Type} {l : List α} (h : l.length = 1) : ∃ x, l = [x] := by
 match l, h with
 | [x], _ => exact ⟨x, rfl⟩
theorem Rf {α : Type} {l : List α} (h : l.length = 2) : ∃ x y, l = [x, y] := by
 match l, h with
 | [x, y], _ => exact ⟨x, y, rfl⟩
theorem ax1 (a : List Int) : ∀ (n : Nat) (x : cq), p0 x → jA x ≤ n → (∀ t ∈ im x, mu t a.length = true) → uC n x a = some (ln a x) := by
 intro n
 induction n with
 | zero => intro x _ h; have := xH x; omega
 | succ n ih =>
   rintro ⟨t, xs⟩ hw ab a1
   obtain ⟨af, ag⟩ := hw
   simp only [jA] at ab
   simp only [im, List.mem_cons] at a1
   have qX : ∀ y ∈ xs, uC n y a = some (ln a y) := fun y hy => by
    refine ih y (Jn ag y hy) (by have := Jo y hy; omega) fun u hu => a1 u (.inr ?_)
    have e6 : ∀ (l : List cq), y ∈ l → u ∈ iE l := by
     intro l
     induction l with
     | nil => intro h; cases h
     | cons z r Jr =>
       intro h
       simp only [iE, List.mem_append]
       rcases List.mem_cons.1 h with rfl | h
       ·exact .inl hu
       ·exact .inr (Jr h)
    exact e6 xs hy
   simp only [uC, HN, cq.term, cq.args]
   rcases Jq (a1 t (.inl rfl)) with ⟨k, bt, b0⟩ | ⟨k, bt, b0⟩ | ⟨k, bt⟩ | ⟨k, bt⟩
   ·simp only [ln, k, beq_self_eq_true, cond_true]
   ·obtain ⟨j, bw⟩ : ∃ j : Nat, t.Value = j := ⟨t.Value.toNat, by omega⟩
    have nM : j < a.length := by omega
    simp only [ln, k, bw, fp a j nM, Int.toNat_natCast, List.getD_eq_getElem?_getD, List.getElem?_eq_getElem nM, Option.getD_some, Option.bind_some, beq_self_eq_true, cond_true, show ((1 : Int) == 0) = false from rfl, cond_false]
   ·obtain ⟨y, z, rfl⟩ := Rf (af.trans bt)
    have aN : bP [y, z] 0 = some y := rfl
    have aZ : bP [y, z] 1 = some z := rfl
    simp only [ln, p2, vi, k, aN, aZ, qX y (by simp), qX z (by simp), axY, Option.bind_some, show ((2 : Int) == 0) = false from rfl, show ((2 : Int) == 1) = false from rfl, show ((2 : Int) == 3) = false from rfl, cond_false]
    rfl
   ·obtain ⟨y, rfl⟩ := Re (af.trans bt)
    have aN : bP [y] 0 = some y := rfl
    simp only [ln, p2, vi, k, aN, qX y (by simp), oO, Er, Option.bind_some, show ((3 : Int) == 0) = false from rfl, show ((3 : Int) == 1) = false from rfl, beq_self_eq_true, cond_true, cond_false]
    rfl
theorem ax2 (a : List Int) (x : cq) (hw : p0 x) (a1 : ∀ t ∈ im x, mu t a.length = true) : w1 (im x) a = some (ln a x) := by
 unfold w1
 rw [axX x hw]
 simp only [Option.bind_some, Q_]
 unfold HO
 rw [hE (x := some (ln a x)) (jA x) fun n bc => ax1 a n x hw bc a1]
 rfl
theorem ax3 (a : List Int) (e : List ba) (he : e.length ≤ 1000000) : ∀ (n : Nat) (x : cq) (i : Nat) (rest : List ba), p0 x → jA x ≤ n → (∀ t ∈ im x, mu t a.length = true) → e.drop i = im x ++ rest →
  uh n e a (i : Int) = some (ln a x) := by
 intro n
 induction n with
 | zero => intro x _ _ _ h; have := xH x; omega
 | succ n ih =>
   rintro ⟨t, xs⟩ i rest hw ab a1 ai
   obtain ⟨af, ag⟩ := hw
   simp only [jA] at ab
   simp only [im, List.mem_cons, List.cons_append] at a1 ai
   have dZ : i < e.length := by
    rcases Nat.lt_or_ge i e.length with h | h
    ·exact h
    ·rw [List.drop_of_length_le h] at ai; cases ai
   have gZ : e.drop (i + 1) = iE xs ++ rest := by
    rw [drop_cons e i dZ] at ai
    injection ai
   have bA : bP e (i : Int) = some t := by
    rw [fp e i dZ]
    rw [drop_cons e i dZ] at ai
    injection ai with h _
    rw [h]
   simp only [uh, Hs, bA, Option.bind_some]
   rw [hg i _ dZ (by omega)]
   rcases Jq (a1 t (.inl rfl)) with ⟨k, bt, b0⟩ | ⟨k, bt, b0⟩ | ⟨k, bt⟩ | ⟨k, bt⟩
   ·simp only [ln, k, beq_self_eq_true, cond_true]
   ·obtain ⟨j, bw⟩ : ∃ j : Nat, t.Value = j := ⟨t.Value.toNat, by omega⟩
    have nM : j < a.length := by omega
    simp only [ln, k, bw, fp a j nM, Int.toNat_natCast, List.getD_eq_getElem?_getD, List.getElem?_eq_getElem nM, Option.getD_some, Option.bind_some, beq_self_eq_true, cond_true, show ((1 : Int) == 0) = false from rfl, cond_false]
   ·obtain ⟨y, z, rfl⟩ := Rf (af.trans bt)
    simp only [iE, List.append_nil, List.append_assoc, List.mem_append] at a1 gZ
    simp only [kl] at ab
    have dR := ih y (i + 1) (im z ++ rest) ag.1 (by omega) (fun u hu => a1 u (.inr (.inl hu))) gZ
    have aAC : jA y ≤ e.length := by
     have := congrArg List.length gZ
     simp only [List.length_drop, List.length_append, Jl] at this; omega
    have br : CE e ((i + 1 : Nat) : Int) = some ((i + 1 + jA y : Nat) : Int) := by
     unfold CE
     refine hE (jA y + 1) fun m hm => ?_
     exact ax0 e (by omega) (im z ++ rest) (jA y) [y] (i + 1) ⟨ag.1, trivial⟩ (by simp [kl]) (by omega) (by omega) (by simpa [iE] using gZ) m (by omega)
    have ax4 : e.drop (i + 1 + jA y) = im z ++ rest := by
     rw [← List.drop_drop, gZ, ← Jl, List.drop_left]
    have dQ := ih z (i + 1 + jA y) rest ag.2.1 (by omega) (fun u hu => a1 u (.inr (.inr hu))) ax4
    simp only [ln, p2, vi, k, dR, br, dQ, axZ, Option.bind_some, show ((2 : Int) == 0) = false from rfl, show ((2 : Int) == 1) = false from rfl, show ((2 : Int) == 3) = false from rfl, cond_false]
    rfl
   ·obtain ⟨y, rfl⟩ := Re (af.trans bt)
    simp only [iE, List.append_nil, List.mem_append] at a1 gZ
    simp only [kl] at ab
    have dR := ih y (i + 1) rest ag.1 (by omega) (fun u hu => a1 u (.inr hu)) gZ
    simp only [ln, p2, vi, k, dR, oH, Er, Option.bind_some, show ((3 : Int) == 0) = false from rfl, show ((3 : Int) == 1) = false from rfl, beq_self_eq_true, cond_true, cond_false]
    rfl
theorem ax5 (a : List Int) (x : cq) (hw : p0 x) (hl : (im x).length ≤ 1000000) (a1 : ∀ t ∈ im x, mu t a.length = true) : ui (im x) a = some (ln a x) := by
 unfold ui Ht
 have gh := hE (f := fun n => uh n (im x) a 0) (x := some (ln a x)) (jA x) fun n bc => ax3 a (im x) hl n x 0 [] hw bc a1 (by simp)
 rw [gh]
 rfl
def gS (x : Int) : Prop := 0 ≤ x ∧ x ≤ 63
theorem xI (b : Bool) : gS (rM b) := by cases b <;> exact ⟨by decide, by decide⟩
theorem ax6 (op a b : Int) (bF : gS a) (aa : gS b) : gS (vh op a b) := by
 unfold gS at bF aa
 unfold vh
 cases op == 0
 ·cases op == 1
  ·cases op == 2
   ·cases op == 3 <;> (try exact xI _)
    cases op == 4 <;> (try exact xI _)
    cases op == 5 <;> (try exact xI _)
    cases op == 6 <;> (try exact xI _)
    cases op == 7 <;> exact xI _
   ·have af : 0 ≤ a * b := Int.mul_nonneg bF.1 aa.1
    have ag : a * b ≤ 63 * 63 := Int.mul_le_mul bF.2 aa.2 aa.1 (by decide)
    show gS (Int.tmod (IntKind.i64.wrap (a * b)) 64)
    rw [fW _ (by omega)]
    unfold gS
    rw [Int.tmod_eq_emod_of_nonneg af]; omega
  ·show gS (Int.tmod (IntKind.i64.wrap ((IntKind.i64.wrap (a - b)) + 64)) 64)
   rw [fW (a - b) (by omega), fW _ (by omega)]
   unfold gS
   rw [Int.tmod_eq_emod_of_nonneg (by omega)]; omega
 ·show gS (Int.tmod (IntKind.i64.wrap (a + b)) 64)
  rw [fW _ (by omega)]
  unfold gS
  rw [Int.tmod_eq_emod_of_nonneg (by omega)]; omega
theorem ax7 (a : List Int) (bF : ∀ x ∈ a, gS x) : ∀ (n : Nat) (x : cq), jA x ≤ n → (∀ t ∈ im x, mu t a.length = true) → gS (ln a x) := by
 intro n
 induction n with
 | zero => intro x h; have := xH x; omega
 | succ n ih =>
   rintro ⟨t, xs⟩ ab a1
   simp only [jA] at ab
   simp only [im, List.mem_cons] at a1
   have qX : ∀ i, gS ((p2 a xs).getD i 0) := by
    have key : ∀ l : List cq, kl l ≤ n → (∀ t ∈ iE l, mu t a.length = true) → ∀ i, gS ((p2 a l).getD i 0) := by
     intro l
     induction l with
     | nil => intro _ _ i; simp only [p2, List.getD_nil]; exact ⟨by decide, by decide⟩
     | cons y r Jr =>
       intro af ag i
       simp only [kl] at af
       simp only [iE, List.mem_append] at ag
       cases i with
       | zero => simp only [p2, List.getD_cons_zero]; exact ih y (by omega) fun u hu => ag u (.inl hu)
       | succ i => simp only [p2, List.getD_cons_succ]; exact Jr (by omega) (fun u hu => ag u (.inr hu)) i
    exact key xs (by omega) fun u hu => a1 u (.inr hu)
   simp only [ln]
   rcases Jq (a1 t (.inl rfl)) with ⟨k, bt, b0⟩ | ⟨k, bt, b0⟩ | ⟨k, bt⟩ | ⟨k, bt⟩
   ·simp only [k, beq_self_eq_true, cond_true]; exact ⟨bt, b0⟩
   ·have nM : t.Value.toNat < a.length := by omega
    simp only [k, show ((1 : Int) == 0) = false from rfl, beq_self_eq_true, cond_true, cond_false, List.getD_eq_getElem?_getD, List.getElem?_eq_getElem nM, Option.getD_some]
    exact bF _ (List.getElem_mem nM)
   ·simp only [k, show ((2 : Int) == 0) = false from rfl, show ((2 : Int) == 1) = false from rfl, show ((2 : Int) == 3) = false from rfl, cond_false, vi]
    exact ax6 _ _ _ (qX 0) (qX 1)
   ·simp only [k, show ((3 : Int) == 0) = false from rfl, show ((3 : Int) == 1) = false from rfl, beq_self_eq_true, cond_true, cond_false, vi]
    exact xI _
noncomputable def o3 (a : List Int) (e : List ba) : Int := (ui e a).getD 0
theorem EG {a : List Int} {e : List ba} {most : Int} (hm : most ≤ 1000) (h : mY e a.length most = true) : ui e a = some (o3 a e) ∧ w1 e a = some (o3 a e) ∧ ((∀ x ∈ a, gS x) → gS (o3 a e)) := by
 obtain ⟨x, hw, rfl⟩ := axU h
 simp only [mY, Bool.and_eq_true, decide_eq_true_eq] at h
 have a1 := Rd _ _ _ h.2
 have he : (im x).length ≤ 1000000 := by omega
 have aN := ax5 a x hw he a1
 have aZ : o3 a (im x) = ln a x := by unfold o3; rw [aN]; rfl
 rw [aZ]
 exact ⟨aN, ax2 a x hw a1, fun bF => ax7 a bF _ x (Nat.le_refl _) a1⟩
end Go.eR
