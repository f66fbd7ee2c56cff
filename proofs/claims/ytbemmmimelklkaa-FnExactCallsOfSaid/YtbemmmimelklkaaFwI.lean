/- Part of a proof that a law returns true for every input. No condition. -/
import Derived.Test.YtbemmmimelklkaaFwH
import Derived.Laws.Externs
import Derived.Lib.Bytealg
namespace Go.Fw
section
variable {C : Cx} {l : List (Nat × AV)} {os : List RO} {K : Option (List FP) → St → Prop} {dst : Option Nat}
def okPs (s : St) : List PA → Prop
 | [] => True
 | p :: ps => p.ok s ∧ okPs s ps
theorem okPs_all {s : St} : ∀ {ps : List PA}, okPs s ps → ∀ p ∈ ps, p.ok s
 | p :: ps, h, q, hq => by
   rcases List.mem_cons.1 hq with rfl | hq
   ·exact h.1
   ·exact okPs_all h.2 q hq
def nshPs : List PA → Bool
 | [] => true
 | p :: ps => p.o.nosh && nshPs ps
theorem nshPs_all : ∀ {ps : List PA}, nshPs ps = true → ∀ p ∈ ps, p.o.nosh = true
 | p :: ps, h, q, hq => by
   simp only [nshPs, Bool.and_eq_true] at h
   rcases List.mem_cons.1 hq with rfl | hq
   ·exact h.1
   ·exact nshPs_all h.2 q hq
theorem wpOT_callP {f : SX} {args : List SX} {g : FuncId} {caps : List AV} {K : List Nat → AV → St → Prop} (ps : List PA) (r : AV)
  (h1 : ev (stA l) f = .fn g caps) (hcp : AV.plains caps = true) (h2 : ps.map (·.a) = evs (stA l) args ++ caps) (h3 : okPs (stA l) ps) (h4 : apartPA ps = true)
  (h5 : OkAt C g (ps.map (·.d)) r (ps.map (·.o))) (h6 : r.res = true) (h7 : lent ps = false ∨ (r.nosh && nshPs ps) = true) (hK : K (gh ps) r (giveL (takeL (stA l) ps) ps)) : wpOT C (stA l) (.call f args) K := by
 refine ⟨g, caps, ps, r, h1, hcp, by rw [h2, evs_map], okPs_all h3, h4, h5, h6, ?_, hK⟩
 intro hl
 rcases h7 with h7 | h7
 ·rw [h7] at hl; cases hl
 ·rw [Bool.and_eq_true] at h7; exact ⟨h7.1, nshPs_all h7.2⟩
theorem w_callp0 {f : SX} {args : List SX} {g : FuncId} {caps : List AV} {r : AV} (ps : List PA) (h5 : OkAt C g (ps.map (·.d)) r (ps.map (·.o)))
  (h1 : ev (stA l) f = .fn g caps) (hcp : AV.plains caps = true) (h2 : ps.map (·.a) = evs (stA l) args ++ caps) (h3 : okPs (stA l) ps) (h4 : apartPA ps = true)
  (h6 : r.res = true) (h7 : lent ps = false ∨ (r.nosh && nshPs ps) = true)
  (hK : wpT C (fin (giveL (takeL (stA l) ps) ps) dst r) os none K) : wpT C (stA l) (⟨dst, .call f args, none⟩ :: os) none K := by
 simp only [wpT, wpRT, pushF]
 exact wpOT_callP ps r h1 hcp h2 h3 h4 h5 h6 h7 hK
theorem okp_s (s : St) : okPs s [] = True ∧ (∀ p ps, okPs s (p :: ps) = (p.ok s ∧ okPs s ps)) ∧ (∀ a d o, PA.ok s ⟨a, false, d, o⟩ = (view s a = some d)) ∧
  (∀ x q d o, PA.ok s ⟨.h x q, true, d, o⟩ = (AV.sub q (s x) = some d ∧ d.ow = true ∧ (o = .hole ∨ (o.ow = true ∧ likeA d o = true)))) := by
 refine ⟨rfl, fun _ _ => rfl, fun _ _ _ => ?_, fun _ _ _ _ => ?_⟩ <;> simp [PA.ok]
theorem own_r : (∀ d, AV.own (.ubox d) = true) ∧ (∀ n xs, AV.own (.uslice n xs) = true) ∧ (∀ d, AV.ow (.ubox d) = true) ∧ (∀ n xs, AV.ow (.uslice n xs) = true) ∧ (∀ fs, AV.ow (.agg fs) = !AV.plains fs) ∧
  (∀ d e, likeA (.ubox d) (.ubox e) = true) ∧ (∀ n xs m ys, likeA (.uslice n xs) (.uslice m ys) = true) ∧ (∀ a b, likeA (.agg a) (.agg b) = (AV.wds a == AV.wds b)) := ⟨fun _ => rfl, fun _ _ => rfl, fun _ => rfl, fun _ _ => rfl, fun _ => rfl, fun _ _ => rfl, fun _ _ _ _ => rfl, fun _ _ => rfl⟩
theorem gv_s (s : St) : takeL s [] = s ∧ giveL s [] = s ∧ (∀ p ps, takeL s (p :: ps) = takeL (PA.take s p) ps) ∧ (∀ p ps, giveL s (p :: ps) = giveL (PA.give s p) ps) ∧
  (∀ a d o, PA.take s ⟨a, false, d, o⟩ = s) ∧ (∀ a d o, PA.give s ⟨a, false, d, o⟩ = s) ∧ (∀ x q d o, PA.take s ⟨.h x q, true, d, o⟩ = upd (pkS x s) x (AV.put q d.hollow (s x))) ∧
  (∀ a d, PA.give s ⟨a, true, d, .hole⟩ = s) ∧ (∀ x q d e, PA.give s ⟨.h x q, true, d, .ubox e⟩ = upd (pgS x s) x (AV.put q (.ubox e) (s x))) ∧
  (∀ x q d n xs, PA.give s ⟨.h x q, true, d, .uslice n xs⟩ = upd (pgS x s) x (AV.put q (.uslice n xs) (s x))) ∧
  (∀ x q d fs, PA.give s ⟨.h x q, true, d, .agg fs⟩ = upd (pgS x s) x (AV.put q (.agg fs) (s x))) := by
 refine ⟨rfl, rfl, fun _ _ => rfl, fun _ _ => rfl, ?_, ?_, ?_, ?_, ?_, ?_, ?_⟩ <;> intros <;> simp [PA.take, PA.give]
def outsOk (s : St) (fx rs : List Nat) : Nat → List AV → Bool → Prop
 | _, [], _ => True
 | k, o :: r, b => (o = .hole ∨ (o = s k ∧ o.ow = true ∧ fx.contains k = true ∧ rs.contains k = false)) ∧ outsOk s fx rs (k + 1) r b
theorem outs_of {s : St} {fx : List Nat} {rv : List ResultVar} {outs : List AV} (h : outsOk s fx (rv.map rvSlot) 0 outs true) : ∀ (i : Nat) (o : AV), outs[i]? = some o → o = .hole ∨ (o = s i ∧ o.ow = true ∧ i ∈ fx ∧ i ∉ rv.map rvSlot) := by
 have key : ∀ (outs : List AV) (k : Nat), outsOk s fx (rv.map rvSlot) k outs true → ∀ (i : Nat) (o : AV), outs[i]? = some o → o = .hole ∨ (o = s (k + i) ∧ o.ow = true ∧ k + i ∈ fx ∧ k + i ∉ rv.map rvSlot) := by
  intro outs
  induction outs with
  | nil => intro k _ i o h; simp at h
  | cons a outs ih =>
    intro k h i o ho
    cases i with
    | zero =>
      simp at ho; subst ho
      rcases h.1 with h | ⟨h1, h2, h3, h4⟩
      ·exact .inl h
      ·exact .inr ⟨h1, h2, by simpa using h3, by simpa using h4⟩
    | succ i =>
      have := ih (k + 1) h.2 i o (by simpa using ho)
      rw [show k + (i + 1) = k + 1 + i by omega]; exact this
 intro i o ho
 have := key outs 0 h i o ho
 simpa using this
theorem out_no {s : St} {fx rs : List Nat} {k : Nat} {l : List AV} (h : outsOk s fx rs (k + 1) l true) : outsOk s fx rs k (.hole :: l) true := ⟨.inl rfl, h⟩
theorem out_is {s : St} {fx rs : List Nat} {k : Nat} {o : AV} {l : List AV} (h1 : o = s k) (h2 : o.ow = true) (h3 : fx.contains k = true) (h4 : rs.contains k = false) (h : outsOk s fx rs (k + 1) l true) : outsOk s fx rs k (o :: l) true := ⟨.inr ⟨h1, h2, h3, h4⟩, h⟩
theorem out_end {s : St} {fx rs : List Nat} {k : Nat} : outsOk s fx rs k [] true := trivial
theorem w_sregW {Q : Exit → St → Prop} {ros : List RO} {k : List Nat} {b : SC} (h : wpT C (stA l) ros none (fun _ s => onW (wpC C b Q) (stA (kpA k s)))) : wpC C (.seq (.reg ros (some k)) b) Q (stA l) := wpRs_of_T (fun _ _ h => h) h
theorem OkAt.nil {C : Cx} {f : FuncId} {args : List AV} {r : AV} {outs : List AV} (i : Nat) (h : OkAt C f (args.set i (.slice [])) r outs) (hi : args[i]? = some .nils) : OkAt C f args r outs := by
 intro w F X S vs hl hr
 have hsv := hr.sv i
 have hs : stL args i = .nils := by simp [stL, List.getD, hi]
 rw [hs] at hsv
 have hv : SV w F (stL args) (tmL vs) (.slice []) (tmL vs i) (fun _ => False) := by
  rw [SV.of_tree rfl] at hsv ⊢
  refine ⟨hsv.1, ?_⟩
  have h2 := hsv.2
  simp only [RV] at h2 ⊢
  exact .inl ⟨trivial, none, 0, h2, Nat.zero_le _, fun _ => rfl⟩
 have h2 := hr.setP (t := i) rfl hv
 have e1 : upd (stL args) i (.slice []) = stL (args.set i (.slice [])) := by
  funext t
  have hlt : i < args.length := (List.getElem?_eq_some_iff.1 hi).1
  by_cases ht : t = i
  ·subst ht; simp [upd, stL, List.getD, hlt]
  ·have : i ≠ t := fun e => ht e.symm
   simp [upd, ht, stL, List.getD, this]
 have e2 : upd (tmL vs) i (tmL vs i) = tmL vs := by
  funext t
  by_cases ht : t = i
  ·subst ht; simp [upd]
  ·simp [upd, ht]
 rw [e1, e2] at h2
 exact h w F X _ vs (by simpa using hl) h2
theorem get_set {α : Type} {l : List α} {i : Nat} {x : α} (h : l[i]? = some x) (u : α → AV) (a : AV) : ((l.map u).set i a)[i]? = some a := by
 have : i < l.length := (List.getElem?_eq_some_iff.1 h).1
 rw [List.getElem?_set_self (by simpa using this)]
theorem set_mset {α : Type} (l : List α) (u : α → AV) (i : Nat) (a b : AV) : ((l.map u).set i a).set i b = (l.map u).set i b := List.set_set ..
end
end Go.Fw
