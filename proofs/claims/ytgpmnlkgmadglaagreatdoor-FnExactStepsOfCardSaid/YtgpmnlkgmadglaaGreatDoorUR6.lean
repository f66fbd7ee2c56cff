/- Part of a proof that a law returns true for every input. No condition. -/
import Derived.Test.YtgpmnlkgmadglaaGreatDoorUR5
namespace Go.eR
open Go Go.cY
theorem EP {d : aS} {j : Nat} (bw : j < d.Body.length) : eC d j = d.Body[j] := by
 unfold eC; rw [List.getD_eq_getElem?_getD, List.getElem?_eq_getElem bw]; rfl
theorem JD {d : aS} {j : Nat} (bw : j < d.Body.length) : bP d.Body (j : Int) = some (eC d j) := by
 rw [fp _ j bw, EP bw]
theorem Rz {α : Type} {xs : List α} {n : Int} {x : α} (h : bP xs n = some x) : 0 ≤ n ∧ ∃ hl : n.toNat < xs.length, xs[n.toNat] = x := by
 have af := dd h
 have bn : 0 ≤ n := by
  unfold bP at h
  split at h
  ·omega
  ·cases h
 exact ⟨bn, List.getElem?_eq_some_iff.1 af⟩
theorem gO {j : Nat} (h : j ≤ 1048576) : IntKind.i64.wrap ((j : Int) + 1) = ((j + 1 : Nat) : Int) := by rw [fW _ (by omega)]; omega
structure qZ (e : List aS) (d : aS) (i n j : Nat) (a : List Int) : Prop where
 lM : ∀ s ∈ hU d i n j a, iq s
 len : (hU d i n j a).length ≤ 2 ^ n * 8 ^ (6 - a.length)
 spec : ∀ m, n ≤ m → ∀ out : List bd, out.length ≤ 201 → (∀ x ∈ out, iq x) → oK m e (i : Int) (j : Int) a out = some ((hU d i n j a).foldl kA out)
 impl : ∀ m, n ≤ m → ∀ p : List bd × List (List UInt8 × Bool), p.1.length + (hU d i n j a).length ≤ 549755813888 → oP m e p.1 p.2 (i : Int) (j : Int) a = some (e, ((hU d i n j a).foldl km p).1, ((hU d i n j a).foldl km p).2)
theorem qZ.of {e : List aS} {d : aS} {i n j : Nat} {a : List Int} {l : List bd} (c : hU d i n j a = l) (lM : ∀ s ∈ l, iq s)
  (len : l.length ≤ 2 ^ n * 8 ^ (6 - a.length))
  (spec : ∀ m, n ≤ m → ∀ out : List bd, out.length ≤ 201 → (∀ x ∈ out, iq x) → oK m e (i : Int) (j : Int) a out = some (l.foldl kA out))
  (impl : ∀ m, n ≤ m → ∀ p : List bd × List (List UInt8 × Bool), p.1.length + l.length ≤ 549755813888 → oP m e p.1 p.2 (i : Int) (j : Int) a = some (e, (l.foldl km p).1, (l.foldl km p).2)) : qZ e d i n j a := by
 subst c; exact ⟨lM, len, spec, impl⟩
theorem ays (s : bd) (out : List bd) (h : ¬ 200 < out.length) : [s].foldl kA out = jQ out s := by
 rw [List.foldl_cons, List.foldl_nil, kA, if_neg h]
theorem RA {f : Nat → List bd} {B : Nat} : ∀ (k s : Nat), (∀ v, s ≤ v → v < s + k → (f v).length ≤ B) → ((List.range' s k).flatMap f).length ≤ k * B
 | 0, s, _ => by simp
 | k + 1, s, h => by
   rw [List.range'_succ, List.flatMap_cons, List.length_append]
   have af := h s (by omega) (by omega)
   have ag := RA k (s + 1) fun v af ag => h v (by omega) (by omega)
   rw [Nat.add_mul]; omega
theorem RB {rec : List aS → Int → Int → List Int → List bd → Option (List bd)} {a : List Int} {out : List bd} {p : bs} {v w : Int} {x : List Int} (aw : vf p) (a1 : ∀ q ∈ p.bN, mY q a.length 15 = true)
  (bc : iS p.Name = true) (hl : p.bN.length ≤ 2) (bF : ∀ y ∈ a, gS y) (bJ : out.length ≤ 1048576) (bA : ∀ y ∈ out, iq y) :
  zp rec a out p v w x = some (jQ out ⟨qY p.Name (mw p.bN a), ⟨v, w, x⟩⟩) := by
 have Jv : p.Name.length ≤ 10 := by simp only [iS, Bool.and_eq_true, decide_eq_true_eq] at bc; exact bc.1
 unfold zp
 rw [(EK _ aw.2.1 a a1).1]
 simp only [Option.bind_some]
 rw [ayg _ _ Jv (by unfold mw; rw [List.length_map]; omega) (EL bF a1)]
 simp only [Option.bind_some, ayo _ _ bJ bA]
theorem RC {e : List aS} {i j : Nat} {a : List Int} {p : bs} {N : Nat} {f : Nat → List bd} {rec : List aS → Int → Int → List Int → List bd → Option (List bd)} (xL : p.Number = (N : Int) - 1) (vj : N ≤ 8) (bw : j ≤ 1048576) (sx : a.length ≤ 100)
  (bz : ∀ v, v < N → (∀ s ∈ f v, iq s) ∧ ∀ out : List bd, out.length ≤ 201 → (∀ x ∈ out, iq x) → rec e (i : Int) ((j + 1 : Nat) : Int) (a ++ [(v : Int)]) out = some ((f v).foldl kA out)) :
  ∀ (k s : Nat) (out : List bd) (m : Nat), s + k = N → k < m → out.length ≤ 201 → (∀ x ∈ out, iq x) → uv rec e (i : Int) (j : Int) a p m out (s : Int) = some (((List.range' s k).flatMap f).foldl kA out)
 | 0, s, out, m, ab, hm, bJ, bA => by
   obtain ⟨m, rfl⟩ : ∃ q, m = q + 1 := ⟨m - 1, by omega⟩
   simp only [uv, CS, uo]
   rw [show decide ((s : Int) ≤ p.Number) = false from decide_eq_false (by omega)]; rfl
 | k + 1, s, out, m, ab, hm, bJ, bA => by
   obtain ⟨m, rfl⟩ : ∃ q, m = q + 1 := ⟨m - 1, by omega⟩
   obtain ⟨af, ag⟩ := bz s (by omega)
   simp only [uv, CS]
   rw [show decide ((s : Int) ≤ p.Number) = true from decide_eq_true (by omega), cond_true, Rl a (by omega)]
   simp only [Option.bind_some]
   rw [qU (by omega) (by omega), gO bw, gO (by omega)]
   simp only [Option.bind_some, ag out bJ bA]
   obtain ⟨g1, g2⟩ := Jz (f s) out bJ bA af
   rw [RC xL vj bw sx bz k (s + 1) _ m (by omega) (by omega) g1 g2, List.range'_succ, List.flatMap_cons, List.foldl_append]
theorem RD {e : List aS} {i j : Nat} {a : List Int} {q : bs} {N : Nat} {f : Nat → List bd} {rec : List aS → List bd → List (List UInt8 × Bool) → Int → Int → List Int → Option (List aS × List bd × List (List UInt8 × Bool))} (xL : q.Number = (N : Int) - 1) (vj : N ≤ 8) (bw : j ≤ 1048576) (sx : a.length ≤ 100)
  (bz : ∀ v, v < N → ∀ p : List bd × List (List UInt8 × Bool), p.1.length + (f v).length ≤ 549755813888 → rec e p.1 p.2 (i : Int) ((j + 1 : Nat) : Int) (a ++ [(v : Int)]) = some (e, ((f v).foldl km p).1, ((f v).foldl km p).2)) :
  ∀ (k s : Nat) (p : List bd × List (List UInt8 × Bool)) (m : Nat), s + k = N → k < m → p.1.length + ((List.range' s k).flatMap f).length ≤ 549755813888 →
    uH rec (i : Int) (j : Int) a q m e p.1 p.2 (s : Int) = some (e, (((List.range' s k).flatMap f).foldl km p).1, (((List.range' s k).flatMap f).foldl km p).2)
 | 0, s, p, m, ab, hm, bJ => by
   obtain ⟨m, rfl⟩ : ∃ q, m = q + 1 := ⟨m - 1, by omega⟩
   simp only [uH, Dn]
   rw [fW (q.Number + 1) (by omega), show decide ((s : Int) < q.Number + 1) = false from decide_eq_false (by omega)]; rfl
 | k + 1, s, p, m, ab, hm, bJ => by
   obtain ⟨m, rfl⟩ : ∃ q, m = q + 1 := ⟨m - 1, by omega⟩
   rw [List.range'_succ, List.flatMap_cons, List.length_append] at bJ
   simp only [uH, Dn]
   rw [fW (q.Number + 1) (by omega), show decide ((s : Int) < q.Number + 1) = true from decide_eq_true (by omega), cond_true, Rk a (by omega)]
   simp only [Option.bind_some]
   rw [qU (by omega) (by omega), gO bw, gO (by omega)]
   simp only [Option.bind_some, bz s (by omega) p (by omega)]
   have ar := JA (f s) p
   rw [RD xL vj bw sx bz k (s + 1) _ m (by omega) (by omega) (by omega), List.range'_succ, List.flatMap_cons, List.foldl_append]
theorem JE (n B : Nat) : 2 ^ (n + 1) * B = 2 ^ n * B + 2 ^ n * B := by
 rw [Nat.pow_succ, Nat.mul_comm (2 ^ n) 2, Nat.mul_assoc, Nat.two_mul]
theorem ayt (n k : Nat) : 1 ≤ 2 ^ n * 8 ^ k := Nat.mul_pos (Nat.pow_pos (by omega)) (Nat.pow_pos (by omega))
theorem ayu {n k : Nat} (h : k ≤ 5) : 2 ^ n * 8 ^ (6 - k) = 8 * (2 ^ n * 8 ^ (6 - (k + 1))) := by
 rw [show 6 - k = (6 - (k + 1)) + 1 by omega, Nat.pow_succ, ← Nat.mul_assoc, Nat.mul_comm]
theorem ayv {e : List aS} (h : o0 e) (aK : o2 e = true) {i : Nat} (an : i < e.length) : ∀ (n j : Nat) (a : List Int), j < e[i].Body.length → (il e[i] j).scope = (a.length : Int) → (∀ x ∈ a, gS x) → e[i].Body.length - j ≤ n → qZ e e[i] i n j a := by
 obtain ⟨A6, aAG, ai⟩ := EB h aK
 obtain ⟨aAH, nb, _⟩ := ai i an
 obtain ⟨s1, s2, fi⟩ := xD nb
 intro n
 induction n with
 | zero => intro j a bw _ _ bc; omega
 | succ n ih =>
   intro j a bw k3 bF bc
   have P := Rg h aK an bw
   rw [k3, ← EP bw] at P
   have sx : a.length ≤ 29 := by have := P.ayb; omega
   obtain ⟨AN, RE⟩ := aye e[i] s1 bw
   rw [← EP bw] at AN RE
   have o7 := fp e i an
   have o8 := JD bw
   have ER : ∀ out : List bd, 200 < out.length → decide (200 < (out.length : Int)) = true := fun out bJ => decide_eq_true (by omega)
   have tF : ∀ out : List bd, ¬ 200 < out.length → decide (200 < (out.length : Int)) = false := fun out bJ => decide_eq_false (by omega)
   by_cases bt : (eC e[i] j).Kind = 1
   ·have iu : dF (eC e[i] j) = 1 := by unfold dF; rw [if_pos (.inl bt)]
    obtain ⟨ox, rU⟩ := AN (by omega)
    have rU : (il e[i] (j + 1)).scope = (a.length : Int) := by rw [rU]; unfold below; rw [if_neg (by omega)]; exact k3
    have s9 := Rg h aK an ox
    rw [rU, ← EP ox] at s9
    obtain ⟨lW, b3, hL⟩ := P.act bt
    have ayw := ayk (a := mw (eC e[i] j).bN a) lW (by unfold mw; rw [List.length_map]; omega) (EL bF P.args)
    have AO : iq (rT e[i] i j a) := by
     refine ⟨ayw, ?_, ?_, ?_⟩
     ·unfold rT
      by_cases dI : (eC e[i] (j + 1)).Kind = 5
      ·rw [if_pos dI]
       obtain ⟨ch, bO, _⟩ := s9.call dI
       obtain ⟨vp, RF, _⟩ := Rz bO
       exact ⟨(eC e[i] (j + 1)).Number.toNat, by omega, by simp only; omega⟩
      ·rw [if_neg dI]; exact ⟨i, by omega, rfl⟩
     ·unfold rT
      by_cases dI : (eC e[i] (j + 1)).Kind = 5
      ·rw [if_pos dI]; exact ⟨0, by omega, rfl⟩
      ·rw [if_neg dI]; exact ⟨j + 1, by omega, rfl⟩
     ·unfold rT
      by_cases dI : (eC e[i] (j + 1)).Kind = 5
      ·rw [if_pos dI]
       obtain ⟨ch, bO, fF⟩ := s9.call dI
       refine ⟨?_, EL bF s9.args⟩
       have aw : ch.c_ ≤ 3 := by
        obtain ⟨vp, RF, ayx⟩ := Rz bO
        have := (ai _ RF).1
        rw [ayx] at this
        exact this.2
       unfold mw; rw [List.length_map]; omega
      ·rw [if_neg dI]; exact ⟨by simp only; omega, bF⟩
    refine qZ.of (l := [rT e[i] i j a]) (by rw [hU, if_pos bt]) (fun s ab => by rw [List.mem_singleton] at ab; rw [ab]; exact AO) (ayt _ _) ?_ ?_
    ·intro m hm out bJ bA
     obtain ⟨m, rfl⟩ : ∃ q, m = q + 1 := ⟨m - 1, by omega⟩
     simp only [oK, sG]
     rw [o7]
     simp only [Option.bind_some]
     rw [o8]
     simp only [Option.bind_some]
     by_cases ab : 200 < out.length
     ·rw [ER out ab, xK _ _ ab]; rfl
     ·rw [tF out ab, bt, ays _ _ ab, Rl a (by omega), gO (by omega)]
      simp only [cond_false, beq_self_eq_true, cond_true, Option.bind_some]
      rw [JD ox]
      simp only [Option.bind_some]
      unfold rT
      by_cases dI : (eC e[i] (j + 1)).Kind = 5
      ·rw [if_pos dI, dI]
       simp only [beq_self_eq_true, cond_true]
       rw [(EK _ s9.small.2.1 a s9.args).1]
       simp only [Option.bind_some]
       exact RB P.small P.args lW b3 bF (by omega) bA
      ·rw [if_neg dI, show ((eC e[i] (j + 1)).Kind == 5) = false by simpa using dI, cond_false]
       exact RB P.small P.args lW b3 bF (by omega) bA
    ·intro m hm p eK
     obtain ⟨m, rfl⟩ : ∃ q, m = q + 1 := ⟨m - 1, by omega⟩
     obtain ⟨b, aa⟩ := ayi (eC e[i] j).Name (mw (eC e[i] j).bN a) lW (by unfold mw; rw [List.length_map]; omega) (fun a1 => by unfold mw; rw [List.length_map]; exact hL a1) (EL bF P.args)
     have rh := ayq e p.1 p.2 (rT e[i] i j a) AO (by omega)
     simp only [oP, sK]
     rw [o7]
     simp only [Option.bind_some]
     rw [o8]
     simp only [Option.bind_some]
     rw [bt, (EK _ P.small.2.1 a P.args).2]
     simp only [beq_self_eq_true, cond_true, Option.bind_some, aa, Rk a (show a.length ≤ 1048576 by omega)]
     rw [gO (by omega), JD ox]
     simp only [Option.bind_some, Dm, List.foldl_cons, List.foldl_nil]
     unfold rT at rh ⊢
     by_cases dI : (eC e[i] (j + 1)).Kind = 5
     ·rw [if_pos dI] at rh ⊢
      rw [dI]
      simp only [beq_self_eq_true, cond_true]
      rw [(EK _ s9.small.2.1 a s9.args).2]
      simp only [Option.bind_some]
      simp only at rh
      rw [rh]; rfl
     ·rw [if_neg dI] at rh ⊢
      rw [show ((eC e[i] (j + 1)).Kind == 5) = false by simpa using dI, cond_false]
      simp only at rh
      rw [rh]; rfl
   by_cases b0 : (eC e[i] j).Kind = 2
   ·have iu : dF (eC e[i] j) = 2 := by unfold dF; rw [if_neg (by omega), if_pos b0]
    have xM : (below (eC e[i] j) (il e[i] j)).scope = (a.length : Int) := by unfold below; rw [if_neg (by omega)]; exact k3
    obtain ⟨ox, rU⟩ := AN (by omega)
    obtain ⟨t, JF, Gd, ayy⟩ := RE iu
    have dC : Jt e[i] (j + 1) = j + 1 + t := by unfold Jt; rw [JF]; rfl
    have mD := ih (j + 1) a ox (rU.trans xM) bF (by omega)
    have vr := ih (j + 1 + t) a Gd (ayy.trans xM) bF (by omega)
    have c8 : ((2 : Int) == 1) = false := rfl
    refine qZ.of (l := hU e[i] i n (j + 1) a ++ hU e[i] i n (j + 1 + t) a) (by rw [hU, if_neg bt, if_pos b0, dC]) (fun s ab => (List.mem_append.1 ab).elim (mD.lM s) (vr.lM s)) ?_ ?_ ?_
    ·have af := mD.len
     have ag := vr.len
     rw [List.length_append, JE]; omega
    ·intro m hm out bJ bA
     obtain ⟨m, rfl⟩ : ∃ q, m = q + 1 := ⟨m - 1, by omega⟩
     simp only [oK, sG]
     rw [o7]
     simp only [Option.bind_some]
     rw [o8]
     simp only [Option.bind_some]
     by_cases ab : 200 < out.length
     ·rw [ER out ab, xK _ _ ab]; rfl
     ·obtain ⟨g1, g2⟩ := Jz _ out bJ bA mD.lM
      rw [tF out ab, b0, gO (by omega), mD.spec m (by omega) out bJ bA, List.foldl_append]
      simp only [cond_false, c8, beq_self_eq_true, cond_true, Option.bind_some]
      rw [QJ _ (by omega) (j + 1) t JF]
      simp only [Option.bind_some]
      rw [vr.spec m (by omega) _ g1 g2]; rfl
    ·intro m hm p eK
     obtain ⟨m, rfl⟩ : ∃ q, m = q + 1 := ⟨m - 1, by omega⟩
     rw [List.length_append] at eK
     have ar := JA (hU e[i] i n (j + 1) a) p
     simp only [oP, sK]
     rw [o7]
     simp only [Option.bind_some]
     rw [o8]
     simp only [Option.bind_some]
     rw [b0, gO (by omega), mD.impl m (by omega) p (by omega)]
     simp only [cond_false, c8, beq_self_eq_true, cond_true, Option.bind_some]
     rw [QI _ (by omega) (j + 1) (by omega), JF]
     simp only [Option.bind_some, pY]
     rw [vr.impl m (by omega) _ (by omega), List.foldl_append]; rfl
   by_cases dK : (eC e[i] j).Kind = 3
   ·have iu : dF (eC e[i] j) = 1 := by unfold dF; rw [if_pos (.inr (.inl dK))]
    obtain ⟨ox, rU⟩ := AN (by omega)
    have xM : (below (eC e[i] j) (il e[i] j)).scope = (a.length : Int) := by unfold below; rw [if_neg (by omega)]; exact k3
    have mD := ih (j + 1) a ox (rU.trans xM) bF (by omega)
    have aAI := P.ayc dK
    have cG : bP (eC e[i] j).bN 0 = some ((eC e[i] j).bN.getD 0 []) := by
     have := fp (eC e[i] j).bN 0 (by omega)
     rw [List.getD_eq_getElem?_getD, List.getElem?_eq_getElem (show 0 < (eC e[i] j).bN.length by omega)]
     exact this
    have xY := P.args ((eC e[i] j).bN.getD 0 []) (by
     rw [List.getD_eq_getElem?_getD, List.getElem?_eq_getElem (show 0 < (eC e[i] j).bN.length by omega)]
     exact List.getElem_mem _)
    obtain ⟨v1, v2, _⟩ := EG (by omega) xY
    have hN : ((3 : Int) == 1) = false := rfl
    have gT : ((3 : Int) == 2) = false := rfl
    by_cases bS : o3 a ((eC e[i] j).bN.getD 0 []) = 0
    ·have tl : (o3 a ((eC e[i] j).bN.getD 0 []) != 0) = false := by rw [bS]; rfl
     refine qZ.of (l := []) (by rw [hU, if_neg bt, if_neg b0, if_pos dK, if_neg (fun ao => ao bS)]) (fun s ab => by cases ab) (Nat.zero_le _) ?_ ?_
     ·intro m hm out bJ bA
      obtain ⟨m, rfl⟩ : ∃ q, m = q + 1 := ⟨m - 1, by omega⟩
      simp only [oK, sG, uo]
      rw [o7]
      simp only [Option.bind_some]
      rw [o8]
      simp only [Option.bind_some]
      rw [dK]
      simp only [hN, gT, beq_self_eq_true, cond_true, cond_false, cG, Option.bind_some, v1, tl, List.foldl_nil]
      cases decide (200 < (out.length : Int)) <;> rfl
     ·intro m hm p eK
      obtain ⟨m, rfl⟩ : ∃ q, m = q + 1 := ⟨m - 1, by omega⟩
      simp only [oP, sK]
      rw [o7]
      simp only [Option.bind_some]
      rw [o8]
      simp only [Option.bind_some]
      rw [dK]
      simp only [hN, gT, beq_self_eq_true, cond_true, cond_false, cG, Option.bind_some, v2, tl, List.foldl_nil]
    ·have tl : (o3 a ((eC e[i] j).bN.getD 0 []) != 0) = true := by simpa using bS
     refine qZ.of (l := hU e[i] i n (j + 1) a) (by rw [hU, if_neg bt, if_neg b0, if_pos dK, if_pos bS]) mD.lM ?_ ?_ ?_
     ·have af := mD.len
      rw [JE]; omega
     ·intro m hm out bJ bA
      obtain ⟨m, rfl⟩ : ∃ q, m = q + 1 := ⟨m - 1, by omega⟩
      simp only [oK, sG]
      rw [o7]
      simp only [Option.bind_some]
      rw [o8]
      simp only [Option.bind_some]
      by_cases ab : 200 < out.length
      ·rw [ER out ab, xK _ _ ab]; rfl
      ·rw [tF out ab, dK, gO (by omega)]
       simp only [hN, gT, beq_self_eq_true, cond_true, cond_false, cG, Option.bind_some, v1, tl]
       rw [mD.spec m (by omega) out bJ bA]; rfl
     ·intro m hm p eK
      obtain ⟨m, rfl⟩ : ∃ q, m = q + 1 := ⟨m - 1, by omega⟩
      simp only [oP, sK]
      rw [o7]
      simp only [Option.bind_some]
      rw [o8]
      simp only [Option.bind_some]
      rw [dK, gO (by omega)]
      simp only [hN, gT, beq_self_eq_true, cond_true, cond_false, cG, Option.bind_some, v2, tl]
      rw [mD.impl m (by omega) p eK]; rfl
   by_cases de : (eC e[i] j).Kind = 4
   ·have iu : dF (eC e[i] j) = 1 := by unfold dF; rw [if_pos (.inr (.inr de))]
    obtain ⟨ox, rU⟩ := AN (by omega)
    obtain ⟨m1, m7, m5⟩ := P.sum de
    have xM : ∀ v : Nat, (il e[i] (j + 1)).scope = ((a ++ [(v : Int)]).length : Int) := fun v => by
     rw [rU]; unfold below; rw [if_pos de, List.length_append]
     simp only [List.length_cons, List.length_nil]; omega
    have qX : ∀ v : Nat, v < 8 → ∀ x ∈ a ++ [(v : Int)], gS x := fun v ES x aq => by
     rcases List.mem_append.1 aq with aq | aq
     ·exact bF x aq
     ·rw [List.mem_singleton] at aq; subst aq; exact ⟨by omega, by omega⟩
    have A : ∀ v : Nat, v < 8 → qZ e e[i] i n (j + 1) (a ++ [(v : Int)]) := fun v ES => ih (j + 1) _ ox (xM v) (qX v ES) (by omega)
    have xL : (eC e[i] j).Number = (((eC e[i] j).Number.toNat + 1 : Nat) : Int) - 1 := by omega
    have vj : (eC e[i] j).Number.toNat + 1 ≤ 8 := by omega
    have hN : ((4 : Int) == 1) = false := rfl
    have gT : ((4 : Int) == 2) = false := rfl
    have hn : ((4 : Int) == 3) = false := rfl
    refine qZ.of (l := (List.range' 0 ((eC e[i] j).Number.toNat + 1)).flatMap fun (v : Nat) => hU e[i] i n (j + 1) (a ++ [((v : Nat) : Int)])) (by rw [hU, if_neg bt, if_neg b0, if_neg dK, if_pos de]) ?_ ?_ ?_ ?_
    ·intro s ab
     obtain ⟨v, yZ, vg⟩ := List.mem_flatMap.1 ab
     have := List.mem_range'_1.1 yZ
     exact (A v (by omega)).lM s vg
    ·have af := RA (f := fun (v : Nat) => hU e[i] i n (j + 1) (a ++ [((v : Nat) : Int)])) (B := 2 ^ n * 8 ^ (6 - (a.length + 1))) ((eC e[i] j).Number.toNat + 1) 0 (fun v _ vg => by
      have := (A v (by omega)).len
      rwa [List.length_append] at this)
     have ag : ((eC e[i] j).Number.toNat + 1) * (2 ^ n * 8 ^ (6 - (a.length + 1))) ≤ 8 * (2 ^ n * 8 ^ (6 - (a.length + 1))) := Nat.mul_le_mul_right _ vj
     have aF := ayu (n := n) (k := a.length) (by omega)
     rw [JE]
     omega
    ·intro m hm out bJ bA
     obtain ⟨m, rfl⟩ : ∃ q, m = q + 1 := ⟨m - 1, by omega⟩
     simp only [oK, sG]
     rw [o7]
     simp only [Option.bind_some]
     rw [o8]
     simp only [Option.bind_some]
     by_cases ab : 200 < out.length
     ·rw [ER out ab, xK _ _ ab]; rfl
     ·rw [tF out ab, de]
      simp only [hN, gT, hn, beq_self_eq_true, cond_true, cond_false]
      refine hE 9 fun q cG => ?_
      exact RC xL vj (by omega) (by omega) (fun v ES => ⟨(A v (by omega)).lM, fun out bJ bA => (A v (by omega)).spec m (by omega) out bJ bA⟩) _ 0 out q (by omega) (by omega) bJ bA
    ·intro m hm p eK
     obtain ⟨m, rfl⟩ : ∃ q, m = q + 1 := ⟨m - 1, by omega⟩
     simp only [oP, sK]
     rw [o7]
     simp only [Option.bind_some]
     rw [o8]
     simp only [Option.bind_some]
     rw [de]
     simp only [hN, gT, hn, beq_self_eq_true, cond_true, cond_false]
     refine hE 9 fun q cG => ?_
     exact RD xL vj (by omega) (by omega) (fun v ES p aw => (A v (by omega)).impl m (by omega) p aw) _ 0 p q (by omega) (by omega) eK
   ·refine qZ.of (l := []) (by rw [hU, if_neg bt, if_neg b0, if_neg dK, if_neg de]) (fun s ab => by cases ab) (Nat.zero_le _) ?_ ?_
    ·have hN : ((eC e[i] j).Kind == 1) = false := by simpa using bt
     have gT : ((eC e[i] j).Kind == 2) = false := by simpa using b0
     have hn : ((eC e[i] j).Kind == 3) = false := by simpa using dK
     have b8 : ((eC e[i] j).Kind == 4) = false := by simpa using de
     intro m hm out bJ bA
     obtain ⟨m, rfl⟩ : ∃ q, m = q + 1 := ⟨m - 1, by omega⟩
     simp only [oK, sG, uo]
     rw [o7]
     simp only [Option.bind_some]
     rw [o8]
     simp only [Option.bind_some, hN, gT, hn, b8, cond_false, List.foldl_nil]
     cases decide (200 < (out.length : Int)) <;> rfl
    ·have hN : ((eC e[i] j).Kind == 1) = false := by simpa using bt
     have gT : ((eC e[i] j).Kind == 2) = false := by simpa using b0
     have hn : ((eC e[i] j).Kind == 3) = false := by simpa using dK
     have b8 : ((eC e[i] j).Kind == 4) = false := by simpa using de
     intro m hm p eK
     obtain ⟨m, rfl⟩ : ∃ q, m = q + 1 := ⟨m - 1, by omega⟩
     simp only [oP, sK]
     rw [o7]
     simp only [Option.bind_some]
     rw [o8]
     simp only [Option.bind_some, hN, gT, hn, b8, cond_false, List.foldl_nil]
end Go.eR
