/- Part of a proof that a law returns true for every input. No condition. -/
import Derived.Test.YtgpmnlkgmadglaaGreatDoorUX1
namespace Go.eV
open Go Go.c0
theorem awm (e : List bm) (h : mW e) (aN : kS e = true) (p : c8) (ar : p.cX.length ≤ 1048576) (bb : nQ e p = true) :
  ∃ i : Nat, p.dT = (i : Int) ∧ i < e.length ∧ ∃ j : Nat, p.Part = (j : Int) ∧ j < 100 ∧ p.cX.length ≤ 29 ∧ ∀ x ∈ p.cX, 0 ≤ x ∧ x ≤ 63 := by
 have ad := (GI e h aN p ar).1
 rw [bb] at ad
 unfold sn ky at ad
 rw [hg ((e.length : Int) - 1) (by have := h.1; omega)] at ad
 simp only [Option.bind_some] at ad
 cases az : (decide (0 ≤ p.dT) && decide (p.dT ≤ (e.length : Int) - 1))
 ·rw [az] at ad; cases ad
 rw [az] at ad
 simp only [Bool.and_eq_true, decide_eq_true_eq] at az
 obtain ⟨i, Cj⟩ : ∃ i : Nat, p.dT = i := ⟨p.dT.toNat, by omega⟩
 have al : i < e.length := by omega
 have ab := (h.2 _ (List.getElem_mem al)).2.1
 rw [Cj, gG e i al] at ad
 simp only [Bool.not_true, cond_false, Option.bind_some] at ad
 rw [hg ((e[i].Body.length : Int) - 1) (by omega)] at ad
 cases cv : (decide (0 ≤ p.Part) && decide (p.Part ≤ (e[i].Body.length : Int) - 1))
 ·rw [cv] at ad; cases ad
 rw [cv] at ad
 simp only [Bool.and_eq_true, decide_eq_true_eq] at cv
 obtain ⟨j, Ck⟩ : ∃ j : Nat, p.Part = j := ⟨p.Part.toNat, by omega⟩
 have b3 : j < e[i].Body.length := by omega
 obtain ⟨gM, _⟩ := Oo h aN al b3
 obtain ⟨_, _, ai⟩ := GF h aN
 obtain ⟨awn, lH, _⟩ := ai i al
 obtain ⟨_, _, dN⟩ := Cg lH
 obtain ⟨_, o9, s1, _⟩ := GB e[i] lH awn j b3
 rw [Ck, gG e[i].Body j b3] at ad
 simp only [Bool.not_true, cond_false, Option.bind_some, gM, GG _ ar] at ad
 cases OE : e[i].Body[j].Kind == 5
 ·rw [OE] at ad
  simp only [cond_false] at ad
  cases aR : ((p.cX.length : Int) == (mV e[i] j).scope)
  ·rw [aR] at ad; cases ad
  ·rw [aR] at ad
   simp only [beq_iff_eq] at aR
   have OG : vi p.cX = true := Option.some.inj ad
   refine ⟨i, Cj, al, j, Ck, by omega, by omega, fun x aq => ?_⟩
   simp only [vi, nK] at OG
   obtain ⟨k, az, rfl⟩ := List.mem_iff_getElem.1 aq
   have := OG k az
   simp only [po, Bool.and_eq_true, decide_eq_true_eq, List.getD_eq_getElem?_getD, List.getElem?_eq_getElem az, Option.getD_some] at this
   exact this
 ·rw [OE] at ad; cases ad
def GL (e : List bm) (n : Int) : bm := e.getD n.toNat ⟨[], 0, []⟩
def l3 (e : List bm) (p : c8) : List UInt8 := (((GL e p.dT).Name ++ [58]) ++ l4 p.Part.toNat ++ [58]) ++ pv p.cX
theorem awo (s : dh) (h : rf s) (ai : kS s.df = true) (q : List c8) (cv : q.length ≤ 1048576) (aN : ∀ p ∈ q, p.cX.length ≤ 1048576) (bb : ∀ p ∈ q, nQ s.df p = true) :
  AB s q = some (jF (q.map (l3 s.df)) [32]) ∧ Bh s q = some (jF (q.map (l3 s.df)) [32]) := by
 have ok : ∀ n, n ≤ 1099511627776 → kE n = some () := fun n aY => by unfold kE; rw [if_pos (by omega)]
 have facts : ∀ p ∈ q, ∃ d : bm, bH s.df p.dT = some d ∧ GL s.df p.dT = d ∧ d.Name.length ≤ 10 ∧ ∃ j : Nat, p.Part = (j : Int) ∧ j < 100 ∧ p.cX.length ≤ 29 ∧ ∀ x ∈ p.cX, 0 ≤ x ∧ x ≤ 63 := by
  intro p ar
  obtain ⟨i, al, aR, j, b3, ag, ah, aI⟩ := awm s.df h.1 ai p (aN p ar) (bb p ar)
  refine ⟨s.df[i], by rw [al, gG _ i aR], by rw [GL, al, Int.toNat_natCast, List.getD_eq_getElem?_getD, List.getElem?_eq_getElem aR]; rfl, ?_, j, b3, ag, ah, aI⟩
  have := (GF h.1 ai).2.2 i aR
  have aY := this.2.2.1
  simp only [j7, Bool.and_eq_true, decide_eq_true_eq] at aY
  exact aY.1
 have hw : ∀ p ∈ q, (l3 s.df p).length ≤ 120 := by
  intro p ar
  obtain ⟨d, _, f2, f3, j, f4, f5, f6, f7⟩ := facts p ar
  have ag := GK p.cX
  have ah := Cn p.Part.toNat
  simp only [l3, List.length_append, List.length_cons, List.length_nil, f2]; omega
 constructor
 ·unfold AB
  refine Oz (L := qT s q) q (l3 s.df) 32 120 hw (fun m v => ?_) (fun i al m v aR => ?_)
  ·simp only [qT, AA]; rw [gr (Nat.le_refl _)]; rfl
  ·obtain ⟨d, f1, f2, f3, j, f4, f5, f6, f7⟩ := facts _ (List.getElem_mem al)
   have ag := GK q[i].cX
   have ah := Cn j
   have aI := hw _ (List.getElem_mem al)
   have aS : l3 s.df q[i] = (((d.Name ++ [58]) ++ l4 j ++ [58]) ++ pv q[i].cX) := by
    simp only [l3, f2, f4, Int.toNat_natCast]
   simp only [qT, AA, Az]
   rw [gb al, gG _ i al, ga i _ al (by omega), ok _ (by omega)]
   simp only [cond_true, Option.bind_some, f1]
   rw [ok _ (by omega), f4, OC j f5, awj _ (by omega) f7]
   simp only [Option.bind_some]
   rw [ok _ (by simp only [List.length_append, List.length_cons, List.length_nil]; omega), ok _ (by simp only [List.length_append, List.length_cons, List.length_nil]; omega), ok _ (by simp only [List.length_append, List.length_cons, List.length_nil]; omega)]
   simp only [Option.bind_some]
   rw [← aS]
   by_cases bc : i = 0
   ·subst bc
    rw [if_pos rfl, show decide ((0 : Int) < ((0 : Nat) : Int)) = false from by decide, cond_false, ok _ (by omega)]
    rfl
   ·rw [if_neg bc, show decide ((0 : Int) < (i : Int)) = true from by simp; omega, cond_true, ok _ (by simp only [List.length_append, List.length_cons, List.length_nil]; omega)]
    rfl
 ·unfold Bh
  have b3 : strings_Join (q.map (l3 s.df)) [32] = some (jF (q.map (l3 s.df)) [32]) := by
   unfold strings_Join
   have := yq 32 120 (q.map (l3 s.df)) fun x aq => by
    obtain ⟨y, bt, rfl⟩ := List.mem_map.1 aq
    exact hw y bt
   rw [List.length_map] at this
   rw [if_pos ⟨by rw [List.length_map]; omega, by omega⟩]
  have key : ∀ i, i ≤ q.length → ∀ (v : List (List UInt8)) m, v.length = i → q.length - i < m → sB s q m v (i : Int) = (strings_Join (v ++ (q.drop i).map (l3 s.df)) [32]).bind fun bW => some bW := by
   refine down q.length ?_ ?_
   ·intro v m pF hm
    obtain ⟨m, rfl⟩ : ∃ j, m = j + 1 := ⟨m - 1, by omega⟩
    simp only [sB, Bg]
    rw [gr (Nat.le_refl _), List.drop_of_length_le (Nat.le_refl _), List.map_nil, List.append_nil]; rfl
   ·intro i al ih v m pF hm
    obtain ⟨m, rfl⟩ : ∃ j, m = j + 1 := ⟨m - 1, by omega⟩
    obtain ⟨d, f1, f2, f3, j, f4, f5, f6, f7⟩ := facts _ (List.getElem_mem al)
    have ag := GK q[i].cX
    have ah := Cn j
    have aS : l3 s.df q[i] = (((d.Name ++ [58]) ++ l4 j ++ [58]) ++ pv q[i].cX) := by
     simp only [l3, f2, f4, Int.toNat_natCast]
    simp only [sB, Bg, Fe]
    rw [gb al, gG _ i al, ga i _ al (by omega)]
    simp only [cond_true, Option.bind_some, f1]
    rw [ok _ (by omega), f4, OD j f5, awl _ (by omega) f7]
    simp only [Option.bind_some]
    rw [ok _ (by omega), ok _ (by simp only [List.length_append, List.length_cons, List.length_nil]; omega)]
    simp only [Option.bind_some]
    rw [ok _ (by simp only [List.length_append, List.length_cons, List.length_nil]; omega), NL (by omega) (by omega)]
    simp only [Option.bind_some]
    have aX : (d.Name ++ [58]) ++ ((l4 j ++ [58]) ++ pv q[i].cX) = l3 s.df q[i] := by rw [aS]; simp only [List.append_assoc]
    rw [aX, ih (v ++ [_]) m (by simp [pF]) (by omega), drop_cons q i al, List.map_cons, List.append_assoc]; rfl
  refine iH (q.length + 1) fun m hm => ?_
  have := key 0 (by omega) [] m rfl (by omega)
  rw [List.drop_zero, List.nil_append, b3] at this
  exact this
theorem awp (s : dh) (h : rf s) (q : List c8) (cv : q.length ≤ 1048576) (aN : ∀ p ∈ q, p.cX.length ≤ 1048576) : ∃ r, AD s q = some r ∧ Bi s q = some r := by
 unfold AD Bi EK E8
 rw [av8 _ h, av9 _ h]
 simp only [Option.bind_some]
 cases br : (qj s == 0)
 ·exact ⟨[], rfl, rfl⟩
 ·have ai := av_ br
  rw [awa s h.1 ai q cv aN, awb s h.1 ai q cv aN]
  simp only [Option.bind_some, cond_true, Bool.not_true, cond_false, Bool.not_not]
  unfold GJ
  cases aR : ((q.length : Int) == (s.cY.length : Int))
  ·exact ⟨[], rfl, rfl⟩
  ·cases b_ : e9 (fun i => nQ s.df (nR q i)) q.length
   ·exact ⟨[], rfl, rfl⟩
   ·have bb : ∀ p ∈ q, nQ s.df p = true := by
     intro p ar
     obtain ⟨k, az, rfl⟩ := List.mem_iff_getElem.1 ar
     have := nK.1 b_ k az
     rwa [show nR q k = q[k] by simp [nR, List.getD, az]] at this
    obtain ⟨g1, g2⟩ := awo s h ai q cv aN bb
    refine ⟨jF (q.map (l3 s.df)) [32], ?_, ?_⟩
    ·simp only [Bool.and_self, Bool.not_true, cond_false, Option.bind_some, bne_self_eq_false, g1]
    ·simp only [Option.bind_some, cond_true, Bool.not_true, cond_false, g2]
theorem at7 (a : kx) (q : List iw) (b_ : wN a) (cv : q.length ≤ 9223372036854775807 ∧ ∀ y ∈ q, uB y) : Ff a q = some true := by
 unfold Ff
 obtain ⟨r, ag, ah⟩ := av7 a b_
 rw [ag]
 simp only [Option.bind_some]
 cases aV : decide (r < 0)
 ·obtain ⟨aI, a_, bN, cQ, c5⟩ := ah aV
  rw [auD q r cv c5 (by omega)]
  simp only [cond_false, Option.bind_some]
  by_cases ad : ((eQ mU q : Nat) : Int) ≤ r
  ·rw [sU ad]
   have fa : decide (r - ((eQ mU q : Nat) : Int) < 0) = false := decide_eq_false (by omega)
   have mJ : eQ mU q ≤ 1048576 := by omega
   have zr : eQ nO (q.map qb) ≤ 1048576 := by
    rw [q3]; simp only [auT]; exact mJ
   have aR : (q.map qb).length ≤ 1048576 := Nat.le_trans (jT nO _) zr
   have aN : ∀ p ∈ q.map qb, p.cX.length ≤ 1048576 := fun p ar => by
    have fg : nO p ≤ eQ nO (q.map qb) := kp ar
    have ie : nO p ≤ 1048576 := by omega
    clear fg
    unfold nO at ie; omega
   rw [fa, aI, auV q mJ]
   obtain ⟨b, k3, iS⟩ := awp _ bN _ aR aN
   simp only [cond_false, Option.bind_some, k3, iS, beq_self_eq_true, a_, Bool.not_true, au8 _ zr]
  ·rw [u9 (by omega)]; rfl
 ·rfl
end Go.eV
