/- Part of a proof that a law returns true for every input. No condition. -/
import Derived.Test.YtbemmmimelklkaaGreatUW0
import Derived.Test.YtbemmmimelklkaaGreatUQ5
namespace Go.eR
open Go Go.c5
def wy (e : List bg) (x : Int) : List bE := (e.getD x.toNat ⟨[], 0, []⟩).Body
def ix (e : List bg) (x : Int) : List Int := mO (wy e x)
def i4 (s : dv) : List Int := s.cn.map (·.fe)
structure HO (s : dv) : Prop where
 dW : s.b3.length ≤ 4
 jn : ∀ d ∈ s.b3, d.Body.length ≤ 1048576
 kL : s.cn.length ≤ 3
 b : ∀ x ∈ i4 s, 0 ≤ x ∧ x < (s.b3.length : Int)
 c : ∀ x, 0 ≤ x ∧ x < (s.b3.length : Int) → ∀ y ∈ ix s.b3 x, 0 ≤ y ∧ y < (s.b3.length : Int)
def jl (n : Nat) (v : List Int) : Prop := kV hr v ∧ ∀ x ∈ v, 0 ≤ x ∧ x < (n : Int)
theorem jl.len {n : Nat} {v : List Int} (h : jl n v) : v.length ≤ n := HK n v (HL h.1) h.2
theorem jl.ins {n : Nat} {v : List Int} (h : jl n v) {x : Int} (aq : 0 ≤ x ∧ x < (n : Int)) : jl n (ins hr x v) :=
 ⟨HJ tM x v h.1, fun y bD => by
  rcases (DK x y v).1 bD with rfl | af
  ·exact aq
  ·exact h.2 y af⟩
theorem jl.all {n : Nat} {v l : List Int} (h : jl n v) (hl : ∀ x ∈ l, 0 ≤ x ∧ x < (n : Int)) : jl n (hX hr v l) :=
 ⟨DL tM l v h.1, fun y bD => by
  rcases (pL y l v).1 bD with af | af
  ·exact h.2 y af
  ·exact hl y af⟩
theorem HP : ∀ {l m : List Int}, l.Nodup → (∀ x ∈ l, x ∈ m) → l.length ≤ m.length
 | [], m, _, _ => Nat.zero_le _
 | x :: r, m, ak, h => by
   have aq := h x (by simp)
   have gR := List.nodup_cons.1 ak
   have af := HP (l := r) (m := m.erase x) gR.2 fun y bD => (List.mem_erase_of_ne (fun e : y = x => gR.1 (by rw [← e]; exact bD))).2 (h y (by simp [bD]))
   rw [List.length_erase_of_mem aq] at af
   have := List.length_pos_of_mem aq
   simp only [List.length_cons]; omega
theorem Pv {v w : List Int} (aR : kV hr v) (hw : kV hr w) (ah : ∀ x ∈ v, x ∈ w) (hl : w.length ≤ v.length) : w = v := by
 refine DJ tM hw aR fun x => ⟨fun aq => ?_, ah x⟩
 refine Classical.byContradiction fun bl => ?_
 have := HP (l := x :: v) (m := w) (List.nodup_cons.2 ⟨bl, HL aR⟩) (fun y bD => by
  rcases List.mem_cons.1 bD with rfl | h
  ·exact aq
  ·exact ah y h)
 simp only [List.length_cons] at this
 omega
def pN (e : List bg) (v : List Int) (d : Int) : List Int := hX hr v (hX hr [] (ix e d))
theorem wz (e : List bg) : ∀ (ds v : List Int) (x : Int), x ∈ ds.foldl (pN e) v ↔ x ∈ v ∨ ∃ d ∈ ds, x ∈ ix e d
 | [], v, x => by simp
 | d :: ds, v, x => by
   rw [List.foldl_cons, wz e ds]
   unfold pN
   rw [pL, pL]
   simp only [List.not_mem_nil, false_or, List.mem_cons]
   constructor
   ·rintro ((h | h) | ⟨bL, af, ai⟩)
    ·exact .inl h
    ·exact .inr ⟨d, .inl rfl, h⟩
    ·exact .inr ⟨bL, .inr af, ai⟩
   ·rintro (h | ⟨bL, rfl | af, ai⟩)
    ·exact .inl (.inl h)
    ·exact .inl (.inr ai)
    ·exact .inr ⟨bL, af, ai⟩
theorem Pw {s : dv} {x : Int} (aq : 0 ≤ x ∧ x < (s.b3.length : Int)) : ∃ d, bQ s.b3 x = some d ∧ d ∈ s.b3 ∧ d.Body = wy s.b3 x := by
 have hl : x.toNat < s.b3.length := by omega
 refine ⟨s.b3[x.toNat], DQ aq.1 hl, List.getElem_mem hl, ?_⟩
 unfold wy
 rw [List.getD_eq_getElem?_getD, List.getElem?_eq_getElem hl]; rfl
section
variable {s : dv} (ok : HO s)
include ok
omit ok in
theorem DN : jl s.b3.length [] := ⟨List.Pairwise.nil, fun x aq => by cases aq⟩
theorem aw0 (K : List Int → Option (List Int)) (DO : List Int → List Int → Int → Option (List Int)) (l v w : List Int) (i : Nat) (ao : i < 1000) (hl : jl s.b3.length l) (hw : jl s.b3.length w) :
  lim (fun m => rl K DO s l m v w (i : Int) 0) = DO v (hX hr w l) ((i + 1 : Nat) : Int) := by
 have bk := ok.dW
 refine DI (L := fun m w j => rl K DO s l m v w (i : Int) j) l (fun w x => ins hr x w) (jl s.b3.length) (fun w => DO v w ((i + 1 : Nat) : Int)) ?_ ?_ w hw
 ·intro m w hw
  simp only [rl, BO]
  rw [fa (Nat.le_refl _), fA i 1000 ao (by omega)]
  rfl
 ·intro j b_ m w hw
  have hlen := hw.len
  have Dz := hl.len
  refine ⟨hw.ins (hl.2 _ (List.getElem_mem b_)), ?_⟩
  simp only [rl, BO]
  rw [fB b_, gx _ j b_, fA j _ b_ (by omega)]
  simp only [cond_true, Option.bind_some]
  rw [HM w _ (by omega)]
  rfl
theorem zy (K : List Int → Option (List Int)) (v : List Int) (aR : jl s.b3.length v) :
  lim (fun m => oE K s m v v 0) = cond (((v.foldl (pN s.b3) v).length : Int) == (v.length : Int)) (some v) (K (v.foldl (pN s.b3) v)) ∧ jl s.b3.length (v.foldl (pN s.b3) v) := by
 have bk := ok.dW
 have p0 := aR.len
 have wA : ∀ d, 0 ≤ d ∧ d < (s.b3.length : Int) → jl s.b3.length (hX hr [] (ix s.b3 d)) := fun d ak => (DN).all (ok.c d ak)
 have inv : ∀ (ds w : List Int), (∀ d ∈ ds, 0 ≤ d ∧ d < (s.b3.length : Int)) → jl s.b3.length w → jl s.b3.length (ds.foldl (pN s.b3) w) := by
  intro ds
  induction ds with
  | nil => intro w _ h; exact h
  | cons d ds ih => intro w iC h; exact ih _ (fun x aq => iC x (by simp [aq])) (h.all (wA d (iC d (by simp))).2)
 refine ⟨?_, inv v v aR.2 aR⟩
 refine DI (L := fun m w j => oE K s m v w j) v (pN s.b3) (jl s.b3.length) (fun w => cond ((w.length : Int) == (v.length : Int)) (some v) (K w)) ?_ ?_ v aR
 ·intro m w hw
  simp only [oE, BP]
  rw [fa (Nat.le_refl _)]
  rfl
 ·intro i ao m w hw
  have aq := aR.2 _ (List.getElem_mem ao)
  obtain ⟨d, d1, d2, d3⟩ := Pw aq
  refine ⟨hw.all (wA _ aq).2, ?_⟩
  simp only [oE, BP]
  rw [fB ao, gx _ i ao]
  simp only [cond_true, Option.bind_some]
  rw [d1]
  simp only [Option.bind_some]
  rw [awY _ (ok.jn d d2), d3]
  simp only [Option.bind_some]
  exact aw0 ok _ _ _ v w i (by omega) (wA _ aq) hw
omit ok in
theorem HQ (v : List Int) (h : v.length ≤ 1048576) : BK v = some v := by unfold BK; rw [tA (by omega) (by omega)]; rfl
theorem aw1 : ∀ (d : Nat) (v : List Int), jl s.b3.length v → (∀ x ∈ v, pM (i4 s) (ix s.b3) x) → s.b3.length ≤ d + v.length →
  ∃ r, (∀ m, d < m → kr s m v = some r) ∧ jl s.b3.length r ∧ (∀ x ∈ v, x ∈ r) ∧ (∀ x ∈ r, pM (i4 s) (ix s.b3) x) ∧ ∀ x ∈ r, ∀ y ∈ ix s.b3 x, y ∈ r := by
 have bk := ok.dW
 intro d
 induction d with
 | zero =>
   intro v aR lp ak
   have p0 := aR.len
   obtain ⟨_, ai⟩ := zy ok (fun _ => none) v aR
   have azD := ai.len
   have e := Pv aR.1 ai.1 (fun x aq => (wz _ v v x).2 (.inl aq)) (by omega)
   refine ⟨v, fun m hm => ?_, aR, fun x aq => aq, lp, fun x aq y bD => ?_⟩
   ·obtain ⟨m, rfl⟩ : ∃ j, m = j + 1 := ⟨m - 1, by omega⟩
    simp only [kr, x_]
    rw [HQ v (by omega)]
    simp only [Option.bind_some]
    rw [(zy ok _ v aR).1, e]
    simp
   ·rw [← e]; exact (wz _ v v y).2 (.inr ⟨x, aq, bD⟩)
 | succ d ih =>
   intro v aR lp ak
   have p0 := aR.len
   obtain ⟨_, ai⟩ := zy ok (fun _ => none) v aR
   have fb : ∀ x ∈ v, x ∈ v.foldl (pN s.b3) v := fun x aq => (wz _ v v x).2 (.inl aq)
   have hle := HP (HL aR.1) fb
   by_cases ay : (v.foldl (pN s.b3) v).length = v.length
   ·have e := Pv aR.1 ai.1 fb (by omega)
    refine ⟨v, fun m hm => ?_, aR, fun x aq => aq, lp, fun x aq y bD => ?_⟩
    ·obtain ⟨m, rfl⟩ : ∃ j, m = j + 1 := ⟨m - 1, by omega⟩
     simp only [kr, x_]
     rw [HQ v (by omega)]
     simp only [Option.bind_some]
     rw [(zy ok _ v aR).1, e]
     simp
    ·rw [← e]; exact (wz _ v v y).2 (.inr ⟨x, aq, bD⟩)
   ·obtain ⟨r, df, ea, gU, i9, rY⟩ := ih _ ai (fun x aq => by
     rcases (wz _ v v x).1 aq with h | ⟨y, bD, HH⟩
     ·exact lp x h
     ·exact (DM _ _).2 y (lp y bD) x HH) (by omega)
    refine ⟨r, fun m hm => ?_, ea, fun x aq => gU x (fb x aq), i9, rY⟩
    obtain ⟨m, rfl⟩ : ∃ j, m = j + 1 := ⟨m - 1, by omega⟩
    simp only [kr, x_]
    rw [HQ v (by omega)]
    simp only [Option.bind_some]
    have dB : (((v.foldl (pN s.b3) v).length : Int) == (v.length : Int)) = false := by simp; omega
    rw [(zy ok _ v aR).1, dB, cond_false]
    exact df m (by omega)
theorem aw2 : ∃ r, ya s = some r ∧ jl s.b3.length r ∧ ∀ x, x ∈ r ↔ pM (i4 s) (ix s.b3) x := by
 have bk := ok.dW
 have aN := ok.kL
 have ad : jl s.b3.length (hX hr [] (i4 s)) := (DN).all ok.b
 obtain ⟨r, df, ea, gU, i9, rY⟩ := aw1 ok s.b3.length _ ad (fun x aq => by
  rcases (pL x (i4 s) []).1 aq with h | h
  ·cases h
  ·exact (DM _ _).1 x h) (by omega)
 refine ⟨r, ?_, ea, fun x => ⟨i9 x, fun aq => aq (· ∈ r) ⟨fun y bD => gU y ((pL y (i4 s) []).2 (.inr bD)), rY⟩⟩⟩
 have e : lim (fun m => kr s m (hX hr [] (i4 s))) = some r := hP (s.b3.length + 1) fun m hm => df m (by omega)
 rw [← e]
 unfold ya
 have bh : hX hr [] (i4 s) = s.cn.foldl (fun v c => ins hr c.fe v) [] := by
  unfold hX i4; rw [List.foldl_map]
 rw [bh]
 refine DI (L := fun m v j => sQ s m v j) s.cn (fun v c => ins hr c.fe v) (jl s.b3.length) (fun v => lim fun m => kr s m v) ?_ ?_ [] (DN)
 ·intro m v aR
  simp only [sQ, BQ]
  rw [fa (Nat.le_refl _)]; rfl
 ·intro i ao m v aR
  have hlen := aR.len
  refine ⟨aR.ins (ok.b _ (List.mem_map.2 ⟨_, List.getElem_mem ao, rfl⟩)), ?_⟩
  simp only [sQ, BQ]
  rw [fB ao, gx _ i ao, fA i _ ao (by omega)]
  simp only [cond_true, Option.bind_some]
  rw [HM v _ (by omega)]
  rfl
end
end Go.eR
