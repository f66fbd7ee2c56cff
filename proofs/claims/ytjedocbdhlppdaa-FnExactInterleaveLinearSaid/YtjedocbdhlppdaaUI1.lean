/- Part of a proof that a law returns true for every input. No condition. -/
import Derived.Test.YtjedocbdhlppdaaUI0
import Derived.Test.YtjedocbdhlppdaaUL1
import Derived.Test.YtjedocbdhlppdaaUL2
namespace Go.gV
open Go Go.dp
def wM (f b : Int) (t : aA) : aA := cond ((t.Kind == 1) && decide (f ≤ t.Value)) ⟨t.Kind, IntKind.i64.wrap (t.Value + b)⟩ t
def hI (f b : Int) (e : List aA) : List aA := e.map (wM f b)
def i6 (f b : Int) (x : aY) : aY := ⟨x.bo, hI f b x.Guard, x.Name, x.bH.map (hI f b), x.Next.map (hI f b)⟩
theorem aiM {α : Type} (v : List α) (i : Nat) (x : α) (h : cw v (i : Int) = some x) : v.set i x = v := by
 unfold cw at h
 rw [if_pos (by omega), Int.toNat_natCast] at h
 obtain ⟨hl, h⟩ := List.getElem?_eq_some_iff.1 h
 rw [← h]; exact List.set_getElem_self hl
theorem aln {α : Type} (v : List α) (i : Nat) (h : i < v.length) : ∃ y, cw v (i : Int) = some y := ⟨_, gE v i h⟩
theorem Dy (e : List aA) (h : e.length ≤ 1048576) : tl e = some e := by
 unfold tl; rw [iV (by omega) (by omega)]; rfl
theorem Kw (e : List Int) (h : e.length ≤ 1048576) : vf e = some e := by
 unfold vf; rw [iV (by omega) (by omega)]; rfl
theorem Kx (es : List (List aA)) (h : ou es) : vg es = some es := by
 unfold vg
 have := l7 (L := rh es) es id 0 some (fun m v aQ => ?_) (fun i au m v aQ => ?_) [] (by simp)
 ·simpa using this
 ·simp only [rh, yc]; rw [fe (Nat.le_refl _)]; rfl
 ·have ag := h.1
  simp only [rh, yc]
  rw [gj au, gE _ i au, gi i _ au (by omega)]
  simp only [cond_true, Option.bind_some]
  rw [Dy _ (h.2 _ (List.getElem_mem au))]
  simp only [Option.bind_some]
  rw [iV (by omega) (by omega)]; rfl
theorem Dz (e : List aA) (f b : Int) (h : e.length ≤ 1048576) : tp e f b = some (hI f b e) := by
 unfold tp
 rw [Dy e h]
 simp only [Option.bind_some]
 refine Du (L := pX f b) e (wM f b) some (fun m v aQ => ?_) (fun i au m v aQ bQ => ?_)
 ·simp only [pX, ye]; rw [fe (by omega)]; rfl
 ·simp only [pX, ye, yd]
  rw [gj (by omega), bQ, gi i e.length au (by omega)]
  simp only [cond_true, Option.bind_some, wM, Int.toNat_natCast]
  cases ((e[i].Kind == 1) && decide (f ≤ e[i].Value))
  ·simp only [cond_false]; rw [aiM v i _ bQ]
  ·rfl
theorem zS (e : List aA) (f b : Int) (h : e.length ≤ 1048576) : vr e f b = some (hI f b e) := by
 unfold vr CC
 have := l7 (L := oh e f b) e (wM f b) 0 some (fun m v aQ => ?_) (fun i au m v aQ => ?_) [] (by simp)
 ·rw [this]; rfl
 ·simp only [oh, yF]; rw [fe (Nat.le_refl _)]; rfl
 ·simp only [oh, yF, oU, CB]
  rw [gj au, gE _ i au, gi i _ au (by omega)]
  simp only [cond_true, Option.bind_some, wM]
  have eE : ∀ x : aA, room 16 (v.length + [x].length) = some () := fun x => iV (by simp only [List.length_cons, List.length_nil]; omega) (by simp only [List.length_cons, List.length_nil]; omega)
  by_cases aB : e[i].Kind = 1
  ·by_cases aQ : f ≤ e[i].Value
   ·have d1 : decide (e[i].Value < f) = false := by simp; omega
    have d2 : decide (f ≤ e[i].Value) = true := by simp [aQ]
    simp only [aB, d1, d2, beq_self_eq_true, Bool.and_self, cond_true, cond_false, Option.bind_some, Option.elim, List.isEmpty_cons, eE]
   ·have d1 : decide (e[i].Value < f) = true := by simp; omega
    have d2 : decide (f ≤ e[i].Value) = false := by simp [aQ]
    simp only [aB, d1, d2, beq_self_eq_true, Bool.and_false, cond_true, cond_false, Option.bind_some, Option.elim, eE]
  ·have j8 : (e[i].Kind == 1) = false := by simpa using aB
   simp only [j8, Bool.false_and, cond_false, eE, Option.bind_some]
theorem Ky (x : aY) (f b : Int) (aw : wK x) : vh x f b = some (i6 f b x) := by
 obtain ⟨aj, aF, aW, bn, bu⟩ := aw
 unfold vh Ci
 rw [Kw _ aj, Dy _ aF, Kx _ bn, Kx _ bu]
 simp only [Option.bind_some]
 rw [Dz _ f b aF]
 simp only [Option.bind_some]
 have aa := bn.1
 have jU := bu.1
 have Cj : ∀ v : List (List aA), cX (fun n => pY x f b ⟨x.bo, x.Guard, x.Name, x.bH, x.Next⟩ (hI f b x.Guard) n v x.Next 0) = some ⟨x.bo, hI f b x.Guard, x.Name, v, x.Next.map (hI f b)⟩ := by
  intro w
  refine Du (L := fun m v i => pY x f b ⟨x.bo, x.Guard, x.Name, x.bH, x.Next⟩ (hI f b x.Guard) m w v i) x.Next (hI f b) (fun v => some ⟨x.bo, hI f b x.Guard, x.Name, w, v⟩) (fun m v aQ => ?_) (fun i au m v aQ bQ => ?_)
  ·simp only [pY, yf]; rw [fe (Nat.le_refl _)]; rfl
  ·simp only [pY, yf]
   rw [gj au, gE _ i au, gi i _ au (by omega)]
   simp only [cond_true, Option.bind_some]
   rw [Dz _ f b (bu.2 _ (List.getElem_mem au)), bQ]
   simp only [Option.bind_some, Int.toNat_natCast]
 refine Du (L := fun m v i => ri x f b ⟨x.bo, x.Guard, x.Name, x.bH, x.Next⟩ (hI f b x.Guard) m v i) x.bH (hI f b) (fun v => some ⟨x.bo, hI f b x.Guard, x.Name, v, x.Next.map (hI f b)⟩) (fun m v aQ => ?_) (fun i au m v aQ bQ => ?_)
 ·simp only [ri, yg]; rw [fe (Nat.le_refl _)]
  simp only [cond_false]
  exact Cj v
 ·simp only [ri, yg]
  rw [gj au, gE _ i au, gi i _ au (by omega)]
  simp only [cond_true, Option.bind_some]
  rw [Dz _ f b (bn.2 _ (List.getElem_mem au)), bQ]
  simp only [Option.bind_some, Int.toNat_natCast]
theorem zT (e : List Int) (h : e.length ≤ 1048576) : rq e = some e := by
 unfold rq
 rw [iV (by omega) (by omega)]
 cases e with
 | nil => simp [both]
 | cons x r => rfl
theorem aiN (e : List aA) (h : e.length ≤ 1048576) : yI e = some e := by
 unfold yI
 rw [iV (by omega) (by omega)]
 cases e with
 | nil => simp [both]
 | cons x r => rfl
theorem Kz (es : List (List aA)) (h : ou es) : vw es = some es := by
 unfold vw
 have := l7 (L := rv es) es id 0 some (fun m v aQ => ?_) (fun i au m v aQ => ?_) [] (by simp)
 ·simpa using this
 ·simp only [rv, yJ]; rw [fe (Nat.le_refl _)]; rfl
 ·have ag := h.1
  simp only [rv, yJ]
  rw [gj au, gE _ i au, gi i _ au (by omega)]
  simp only [cond_true, Option.bind_some]
  rw [aiN _ (h.2 _ (List.getElem_mem au))]
  simp only [Option.bind_some]
  rw [iV (by omega) (by omega)]; rfl
theorem KA (es : List (List aA)) (a b : bc) (x : aY) (h : ou es) : vu es a b x = some (es.map (hI a.aV b.aV)) := by
 unfold vu
 have := l7 (L := rr es x a b) es (hI a.aV b.aV) 0 some (fun m v aQ => ?_) (fun i au m v aQ => ?_) [] (by simp)
 ·simpa using this
 ·simp only [rr, yG]; rw [fe (Nat.le_refl _)]; rfl
 ·have ag := h.1
  simp only [rr, yG, vt]
  rw [gj au, gE _ i au, gi i _ au (by omega)]
  simp only [cond_true, Option.bind_some]
  rw [zS _ _ _ (h.2 _ (List.getElem_mem au))]
  simp only [Option.bind_some]
  rw [iV (by omega) (by omega)]; rfl
theorem KB (es : List (List aA)) (a : bc) (x : aY) (h : ou es) : vy es a x = some (es.map (hI 0 a.aV)) := by
 unfold vy
 have := l7 (L := ry es a x) es (hI 0 a.aV) 0 some (fun m v aQ => ?_) (fun i au m v aQ => ?_) [] (by simp)
 ·simpa using this
 ·simp only [ry, yM]; rw [fe (Nat.le_refl _)]; rfl
 ·have ag := h.1
  simp only [ry, yM, vx]
  rw [gj au, gE _ i au, gi i _ au (by omega)]
  simp only [cond_true, Option.bind_some]
  rw [zS _ _ _ (h.2 _ (List.getElem_mem au))]
  simp only [Option.bind_some]
  rw [iV (by omega) (by omega)]; rfl
theorem aiO (l a b : bc) (h : k5 l) : vv l a b = some ⟨l.aV, l.Start, l.bG.map (i6 a.aV b.aV)⟩ := by
 obtain ⟨ag, ah, aM⟩ := h
 unfold vv
 rw [zT _ ag]
 simp only [Option.bind_some]
 refine l7 (L := ru l a b l.Start) l.bG (i6 a.aV b.aV) 0 (fun v => some ⟨l.aV, l.Start, v⟩) (fun m v aQ => ?_) (fun i au m v aQ => ?_) [] (by simp)
 ·simp only [ru, yH]; rw [fe (Nat.le_refl _)]; rfl
 ·obtain ⟨aj, aF, aW, bn, bu⟩ := aM _ (List.getElem_mem au)
  simp only [ru, yH, vt]
  rw [gj au, gE _ i au, gi i _ au (by omega)]
  simp only [cond_true, Option.bind_some]
  rw [zT _ aj, zS _ _ _ aF, KA _ a b _ bn, KA _ a b _ bu]
  simp only [Option.bind_some]
  rw [iV (by omega) (by omega)]; rfl
theorem aiP (l a : bc) (h : k5 l) : yO l a = some ⟨l.aV, l.Start, l.bG.map (i6 0 a.aV)⟩ := by
 obtain ⟨ag, ah, aM⟩ := h
 unfold yO
 rw [zT _ ag]
 simp only [Option.bind_some]
 refine l7 (L := rz l a l.Start) l.bG (i6 0 a.aV) 0 (fun v => some ⟨l.aV, l.Start, v⟩) (fun m v aQ => ?_) (fun i au m v aQ => ?_) [] (by simp)
 ·simp only [rz, yN]; rw [fe (Nat.le_refl _)]; rfl
 ·obtain ⟨aj, aF, aW, bn, bu⟩ := aM _ (List.getElem_mem au)
  simp only [rz, yN, vx]
  rw [gj au, gE _ i au, gi i _ au (by omega)]
  simp only [cond_true, Option.bind_some]
  rw [zT _ aj, zS _ _ _ aF, KB _ a _ bn, KB _ a _ bu]
  simp only [Option.bind_some]
  rw [iV (by omega) (by omega)]; rfl
end Go.gV
