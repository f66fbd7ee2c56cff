/- Part of a proof that a law returns true for every input. No condition. -/
import Derived.Test.YtgpmnlkgmadglaaGreatDoorUR4
namespace Go.eR
open Go Go.cY
def o5 (x y : bd) : Bool := (x.Label == y.Label) && ((x.Next.dO == y.Next.dO) && ((x.Next.Part == y.Next.Part) && (x.Next.cD == y.Next.cD)))
def jQ (o : List bd) (s : bd) : List bd := if (o.any fun x => o5 x s) = true then o else o ++ [s]
def kA (o : List bd) (s : bd) : List bd := if 200 < o.length then o else jQ o s
theorem Jy {x y : bd} : o5 x y = true ↔ x = y := by
 cases x with
 | mk aAD ayl =>
   cases ayl
   cases y with
   | mk aAE aym =>
     cases aym
     simp [o5]
theorem ayn (a b : List Int) (h : a.length ≤ 1048576) : CP a b = some (a == b) := by
 unfold CP
 by_cases hl : a.length = b.length
 ·have e : ((a.length : Int) != (b.length : Int)) = false := by simp [hl]
  rw [e, cond_false]
  have := rL (n := a.length) (l := uk a b) (fun i => some (a.drop i == b.drop i)) (fun m => ?_) (fun i an m ih => ?_)
  ·simpa using this
  ·simp only [uk, CO]
   rw [gI (Nat.le_refl _), List.drop_of_length_le (Nat.le_refl _), List.drop_of_length_le (by omega)]; rfl
  ·simp only [uk, CO]
   rw [hx an, fp _ i an, fp _ i (by omega), hg i _ an (by omega), drop_cons a i an, drop_cons b i (by omega), List.cons_beq_cons]
   simp only [cond_true, Option.bind_some, ih, bne]
   cases a[i] == b[i]
   ·rfl
   ·simp
 ·have e : ((a.length : Int) != (b.length : Int)) = true := by simp; omega
  have aZ : (a == b) = false := by
   rw [beq_eq_false_iff_ne]; intro h; exact hl (by rw [h])
  rw [e, cond_true, aZ]
theorem ayo (o : List bd) (s : bd) (h : o.length ≤ 1048576) (bA : ∀ x ∈ o, iq x) : CR o s = some (jQ o s) := by
 have ec : jQ o s = cond (o.any fun x => o5 x s) o (o ++ [s]) := by
  unfold jQ
  cases o.any fun x => o5 x s <;> rfl
 unfold CR
 rw [ec, rL (n := o.length) (l := um o s) (fun i => some (cond ((o.drop i).any fun x => o5 x s) o (o ++ [s]))) (fun m => ?_) (fun i an m ih => ?_), List.drop_zero]
 ·simp only [um, CQ]
  rw [gI (Nat.le_refl _), qU (by omega) (by omega), List.drop_of_length_le (Nat.le_refl _)]; rfl
 ·simp only [um, CQ]
  rw [hx an, fp _ i an, hg i _ an (by omega), drop_cons o i an]
  simp only [cond_true, Option.bind_some, ih, List.any_cons]
  have aK := (bA _ (List.getElem_mem an)).xJ.1
  unfold Hu
  rw [ayn _ _ (by omega)]
  have e : o5 o[i] s = ((o[i].Label == s.Label) && ((o[i].Next.dO == s.Next.dO) && ((o[i].Next.Part == s.Next.Part) && (o[i].Next.cD == s.Next.cD)))) := rfl
  rw [e]
  cases o[i].Label == s.Label
  ·rfl
  ·cases o[i].Next.dO == s.Next.dO
   ·rfl
   ·cases o[i].Next.Part == s.Next.Part
    ·rfl
    ·cases o[i].Next.cD == s.Next.cD
     ·rfl
     ·rfl
theorem Rp (o : List bd) (s : bd) : o.length ≤ (jQ o s).length ∧ (jQ o s).length ≤ o.length + 1 := by
 unfold jQ; split
 ·omega
 ·simp
theorem Rq {o : List bd} {s : bd} (bA : ∀ x ∈ o, iq x) (ab : iq s) : ∀ x ∈ jQ o s, iq x := by
 intro x aq
 unfold jQ at aq
 split at aq
 ·exact bA x aq
 ·rcases List.mem_append.1 aq with aq | aq
  ·exact bA x aq
  ·rw [List.mem_singleton] at aq; rwa [aq]
theorem ayp {o : List bd} {s : bd} (bJ : o.length ≤ 201) (bA : ∀ x ∈ o, iq x) (ab : iq s) : (kA o s).length ≤ 201 ∧ ∀ x ∈ kA o s, iq x := by
 unfold kA
 split
 ·exact ⟨bJ, bA⟩
 ·have := Rp o s
  exact ⟨by omega, Rq bA ab⟩
theorem Jz : ∀ (l o : List bd), o.length ≤ 201 → (∀ x ∈ o, iq x) → (∀ x ∈ l, iq x) → (l.foldl kA o).length ≤ 201 ∧ ∀ x ∈ l.foldl kA o, iq x
 | [], o, bJ, bA, _ => ⟨bJ, bA⟩
 | s :: r, o, bJ, bA, hl => by
   obtain ⟨af, ag⟩ := ayp bJ bA (hl s (by simp))
   exact Jz r (kA o s) af ag fun x aq => hl x (List.mem_cons_of_mem _ aq)
theorem xK : ∀ (l o : List bd), 200 < o.length → l.foldl kA o = o
 | [], o, _ => rfl
 | s :: r, o, h => by rw [List.foldl_cons, show kA o s = o by unfold kA; rw [if_pos h], xK r o h]
theorem Rr : ∀ (l o : List bd), o.length ≤ (l.foldl jQ o).length
 | [], o => Nat.le_refl _
 | s :: r, o => Nat.le_trans (Rp o s).1 (Rr r _)
theorem Rs : ∀ (l o : List bd), ((l.foldl jQ o).length ≤ 200 → l.foldl kA o = l.foldl jQ o) ∧ (200 < (l.foldl jQ o).length → 200 < (l.foldl kA o).length)
 | [], o => ⟨fun _ => rfl, fun h => h⟩
 | s :: r, o => by
   by_cases h : 200 < o.length
   ·rw [xK _ _ h]
    have := Rr (s :: r) o
    exact ⟨fun ag => by omega, fun _ => h⟩
   ·rw [List.foldl_cons, List.foldl_cons, show kA o s = jQ o s by unfold kA; rw [if_neg h]]
    exact Rs r (jQ o s)
def o6 (s : bd) : List UInt8 := (s.Label ++ [32]) ++ ((jS s.Next.dO.toNat ++ [58]) ++ ((jS s.Next.Part.toNat ++ [58]) ++ mv s.Next.cD))
def km (p : List bd × List (List UInt8 × Bool)) (s : bd) : List bd × List (List UInt8 × Bool) :=
 if kC (o6 s) p.2 = true then p else (p.1 ++ [s], kD (o6 s) true p.2)
theorem ayq (e : List aS) (o : List bd) (m : List (List UInt8 × Bool)) (s : bd) (ab : iq s) (bJ : o.length ≤ 1099511627776) :
  Dl e o m s.Label s.Next.dO s.Next.Part s.Next.cD = some (e, (km (o, m) s).1, (km (o, m) s).2) := by
 obtain ⟨i, an, AK⟩ := ab.Jw
 obtain ⟨j, bw, AL⟩ := ab.Jx
 have af := Jk i
 have ag := Jk j
 have aF := EE s.Next.cD
 have a_ := ab.xJ.1
 have bI := ab.EM.1
 have ar : Dk ⟨s.Next.dO, s.Next.Part, s.Next.cD⟩ = some ((jS i ++ [58]) ++ ((jS j ++ [58]) ++ mv s.Next.cD)) := by
  unfold Dk HS
  simp only [AK, AL, Jj i an, Jj j bw, Option.bind_some, Q9 _ a_ ab.xJ.2]
  rw [o4 (by omega), o4 (by omega)]
  simp only [Option.bind_some]
  rw [o4 (by simp only [List.length_append, List.length_cons, List.length_nil]; omega)]
  simp only [Option.bind_some]
  rw [o4 (by simp only [List.length_append, List.length_cons, List.length_nil]; omega)]; rfl
 unfold Dl
 rw [o4 (by omega), ar]
 simp only [Option.bind_some]
 rw [o4 (by simp only [List.length_append, List.length_cons, List.length_nil]; omega)]
 simp only [Option.bind_some]
 have AH : o6 s = (s.Label ++ [32]) ++ ((jS i ++ [58]) ++ ((jS j ++ [58]) ++ mv s.Next.cD)) := by unfold o6; rw [AK, AL]; rfl
 rw [← AH]
 unfold km
 cases bA : kC (o6 s) m
 ·simp only [Bool.not_false, cond_true, bA]
  rw [qU (by omega) (by omega)]; rfl
 ·simp only [Bool.not_true, cond_false, bA]; rfl
theorem JA : ∀ (l : List bd) (p : List bd × List (List UInt8 × Bool)), (l.foldl km p).1.length ≤ p.1.length + l.length
 | [], p => Nat.le_refl _
 | s :: r, p => by
   have af := JA r (km p s)
   have ag : (km p s).1.length ≤ p.1.length + 1 := by
    unfold km; split
    ·omega
    ·simp
   rw [List.foldl_cons, List.length_cons]; omega
theorem Rt (k cL : List UInt8) (b : Bool) : ∀ m, kC k (kD cL b m) = if cL = k then b else kC k m
 | [] => by simp [kD, kC]
 | e :: m => by
   simp only [kD]
   by_cases h : e.1 = cL
   ·rw [if_pos h]
    simp only [kC]
    by_cases ag : cL = k
    ·rw [if_pos ag, if_pos ag]
    ·rw [if_neg ag, if_neg ag, if_neg (by rw [h]; exact ag)]
   ·rw [if_neg h]
    simp only [kC]
    by_cases ag : e.1 = k
    ·rw [if_pos ag, if_pos ag, if_neg (by intro aF; exact h (ag.trans aF.symm))]
    ·rw [if_neg ag, if_neg ag, Rt k cL b m]
theorem AM {c : UInt8} : ∀ {x y u v : List UInt8}, c ∉ x → c ∉ y → x ++ c :: u = y ++ c :: v → x = y ∧ u = v
 | [], [], u, v, _, _, h => ⟨rfl, (List.cons.inj h).2⟩
 | [], y :: ck, u, v, _, ag, h => (ag (by rw [List.nil_append, List.cons_append] at h; rw [(List.cons.inj h).1]; simp)).elim
 | x :: xs, [], u, v, af, _, h => (af (by rw [List.nil_append, List.cons_append] at h; rw [← (List.cons.inj h).1]; simp)).elim
 | x :: xs, y :: ck, u, v, af, ag, h => by
   rw [List.cons_append, List.cons_append] at h
   obtain ⟨aN, aZ⟩ := List.cons.inj h
   obtain ⟨aT, b2⟩ := AM (fun hm => af (List.mem_cons_of_mem _ hm)) (fun hm => ag (List.mem_cons_of_mem _ hm)) aZ
   exact ⟨by rw [aN, aT], b2⟩
theorem JB {m n : Nat} (hm : m < 100) (bc : n < 100) (h : jS m = jS n) : m = n := by
 have d : ∀ a b : Fin 10, UInt8.ofNat (48 + a) = UInt8.ofNat (48 + b) → a = b := by decide
 have d2 : ∀ a b : Nat, a < 10 → b < 10 → UInt8.ofNat (48 + a) = UInt8.ofNat (48 + b) → a = b := fun a b bF aa e => congrArg Fin.val (d ⟨a, bF⟩ ⟨b, aa⟩ e)
 unfold jS at h
 split at h <;> split at h
 ·exact d2 _ _ (by omega) (by omega) (List.cons.inj h).1
 ·cases (List.cons.inj h).2
 ·cases (List.cons.inj h).2
 ·have af := d2 _ _ (by omega) (by omega) (List.cons.inj h).1
  have ag := d2 _ _ (by omega) (by omega) (List.cons.inj (List.cons.inj h).2).1
  omega
theorem Ru : ∀ {a b : List (List UInt8)}, (∀ x ∈ a, (44 : UInt8) ∉ x) → (∀ x ∈ b, (44 : UInt8) ∉ x) → a ≠ [] → b ≠ [] → jR a [44] = jR b [44] → a = b
 | [], _, _, _, h, _, _ => (h rfl).elim
 | _ :: _, [], _, _, _, h, _ => (h rfl).elim
 | [x], [y], _, _, _, _, h => by rw [join_one, join_one] at h; rw [h]
 | [x], y :: z :: r, bF, _, _, _, h => by
   rw [join_one, join_cons] at h
   exact (bF x (by simp) (by rw [h]; simp)).elim
 | x :: z :: r, [y], _, aa, _, _, h => by
   rw [join_one, join_cons] at h
   exact (aa y (by simp) (by rw [← h]; simp)).elim
 | x :: ak :: r, y :: iT :: q, bF, aa, _, _, h => by
   rw [join_cons, join_cons] at h
   obtain ⟨aN, aZ⟩ := AM (bF x (by simp)) (aa y (by simp)) (by simpa using h)
   rw [aN, Ru (a := ak :: r) (b := iT :: q) (fun z bS => bF z (List.mem_cons_of_mem _ bS)) (fun z bS => aa z (List.mem_cons_of_mem _ bS)) (by simp) (by simp) aZ]
theorem val_inj {a b : List Int} (bF : ∀ x ∈ a, gS x) (aa : ∀ x ∈ b, gS x) (h : a.map ll = b.map ll) : a = b := by
 induction a generalizing b with
 | nil => cases b with
   | nil => rfl
   | cons y r => cases h
 | cons x r ih => cases b with
   | nil => cases h
   | cons y q =>
     rw [List.map_cons, List.map_cons] at h
     obtain ⟨aN, aZ⟩ := List.cons.inj h
     have aq := bF x (by simp)
     have hy := aa y (by simp)
     unfold gS at aq hy
     have := JB (m := x.toNat) (n := y.toNat) (by omega) (by omega) aN
     rw [ih (fun z bS => bF z (List.mem_cons_of_mem _ bS)) (fun z bS => aa z (List.mem_cons_of_mem _ bS)) aZ, show x = y by omega]
theorem Rv {a : List Int} (bF : ∀ x ∈ a, gS x) : ∀ x ∈ a.map ll, (44 : UInt8) ∉ x := by
 intro x aq hm
 obtain ⟨y, hy, rfl⟩ := List.mem_map.1 aq
 have af := bF y hy
 unfold gS at af
 have := (EN y.toNat (by omega) _ hm).1
 revert this; decide
theorem Rw {a : List Int} (bF : ∀ x ∈ a, gS x) (bc : a ≠ []) : jR (a.map ll) [44] ≠ [45] := by
 cases a with
 | nil => exact (bc rfl).elim
 | cons x r =>
   intro h
   have aq := bF x (by simp)
   unfold gS at aq
   have bn : ll x ≠ [] := by unfold ll jS; split <;> simp
   have ao : ∀ u, ll x ++ u = [45] → False := by
    intro u hu
    cases aK : ll x with
    | nil => exact bn aK
    | cons c w =>
      rw [aK, List.cons_append] at hu
      have := (EN x.toNat (by omega) c (by unfold ll at aK; rw [aK]; simp)).1
      rw [(List.cons.inj hu).1] at this
      revert this; decide
   cases r with
   | nil => rw [List.map_cons, List.map_nil, join_one] at h; exact ao [] (by simpa using h)
   | cons y q => rw [List.map_cons, List.map_cons, join_cons] at h; exact ao _ h
theorem ayr {a b : List Int} (bF : ∀ x ∈ a, gS x) (aa : ∀ x ∈ b, gS x) (h : mv a = mv b) : a = b := by
 unfold mv at h
 by_cases af : a = []
 ·by_cases ag : b = []
  ·rw [af, ag]
  ·rw [if_pos af, if_neg ag] at h
   exact (Rw aa ag h.symm).elim
 ·by_cases ag : b = []
  ·rw [if_neg af, if_pos ag] at h
   exact (Rw bF af h).elim
  ·rw [if_neg af, if_neg ag] at h
   exact val_inj bF aa (Ru (Rv bF) (Rv aa) (by simpa using af) (by simpa using ag) h)
theorem EO {n : Nat} (h : n < 100) : (58 : UInt8) ∉ jS n := by
 intro hm
 have := (EN n h _ hm).2
 revert this; decide
theorem key_inj {x y : bd} (aq : iq x) (hy : iq y) (h : o6 x = o6 y) : x = y := by
 obtain ⟨i, an, AK⟩ := aq.Jw
 obtain ⟨j, bw, AL⟩ := aq.Jx
 obtain ⟨i2, yC, Rx⟩ := hy.Jw
 obtain ⟨aAF, nM, Ry⟩ := hy.Jx
 unfold o6 at h
 rw [AK, AL, Rx, Ry] at h
 simp only [Int.toNat_natCast, List.append_assoc, List.singleton_append] at h
 obtain ⟨aN, h⟩ := AM aq.EM.2 hy.EM.2 h
 obtain ⟨aZ, h⟩ := AM (EO an) (EO yC) h
 obtain ⟨aT, h⟩ := AM (EO bw) (EO nM) h
 have b2 := ayr aq.xJ.2 hy.xJ.2 h
 have aZ := JB an yC aZ
 have aT := JB bw nM aT
 refine Jy.1 ?_
 simp only [o5, aN, b2, AK, Rx, aZ, AL, Ry, aT, beq_self_eq_true, Bool.and_self]
theorem JC : ∀ (l o : List bd) (m : List (List UInt8 × Bool)), (∀ x ∈ l, iq x) → (∀ x ∈ o, iq x) → (∀ s, iq s → kC (o6 s) m = o.any fun x => o5 x s) → (l.foldl km (o, m)).1 = l.foldl jQ o
 | [], o, m, _, _, _ => rfl
 | s :: r, o, m, hl, bJ, hm => by
   have ab := hl s (by simp)
   have aW : ∀ x ∈ r, iq x := fun x aq => hl x (List.mem_cons_of_mem _ aq)
   rw [List.foldl_cons, List.foldl_cons]
   by_cases h : (o.any fun x => o5 x s) = true
   ·rw [show km (o, m) s = (o, m) by unfold km; rw [if_pos ((hm s ab).trans h)], show jQ o s = o by unfold jQ; rw [if_pos h]]
    exact JC r o m aW bJ hm
   ·rw [show km (o, m) s = (o ++ [s], kD (o6 s) true m) by unfold km; rw [if_neg (by simp only [hm s ab]; exact h)], show jQ o s = o ++ [s] by unfold jQ; rw [if_neg h]]
    refine JC r _ _ aW (fun x aq => ?_) fun t a1 => ?_
    ·rcases List.mem_append.1 aq with aq | aq
     ·exact bJ x aq
     ·rw [List.mem_singleton] at aq; rwa [aq]
    ·rw [Rt, List.any_append, List.any_cons, List.any_nil, Bool.or_false]
     by_cases ar : o6 s = o6 t
     ·have := key_inj ab a1 ar
      rw [if_pos ar, Jy.2 this, Bool.or_true]
     ·rw [if_neg ar, hm t a1]
      have : o5 s t = false := by
       cases xC : o5 s t
       ·rfl
       ·exact (ar (by rw [Jy.1 xC])).elim
      rw [this, Bool.or_false]
end Go.eR
