/- Part of a proof that a law returns true for every input. No condition. -/
import Derived.Test.YtobljppjkklojaaFwH
import Derived.Laws.Externs
import Derived.Lib.Bytealg
namespace Go.Fw
section
variable {C : Cx} {l : List (Nat × AV)} {os : List RO} {K : Option (List FP) → St → Prop} {dst : Option Nat}
def okPs (s : St) : List PA → Prop
 | [] => True
 | p :: ps => p.ok s ∧ okPs s ps
theorem okPs_all {s : St} : ∀ {ps : List PA}, okPs s ps → ∀ p ∈ ps, p.ok s
 | p :: ps, h, q, hq => by
   rcases List.mem_cons.1 hq with rfl | hq
   ·exact h.1
   ·exact okPs_all h.2 q hq
def nshPs : List PA → Bool
 | [] => true
 | p :: ps => p.o.nosh && nshPs ps
theorem nshPs_all : ∀ {ps : List PA}, nshPs ps = true → ∀ p ∈ ps, p.o.nosh = true
 | p :: ps, h, q, hq => by
   simp only [nshPs, Bool.and_eq_true] at h
   rcases List.mem_cons.1 hq with rfl | hq
   ·exact h.1
   ·exact nshPs_all h.2 q hq
theorem wpOT_callP {f : SX} {args : List SX} {g : FuncId} {caps : List AV} {K : List Nat → AV → St → Prop} (ps : List PA) (r : AV)
  (h1 : ev (stA l) f = .fn g caps) (hcp : AV.plains caps = true) (h2 : ps.map (·.a) = evs (stA l) args ++ caps) (h3 : okPs (stA l) ps) (h4 : apartPA ps = true)
  (h5 : OkAt C g (ps.map (·.d)) r (ps.map (·.o))) (h6 : r.res = true) (h7 : lent ps = false ∨ (r.nosh && nshPs ps) = true) (hK : K (gh ps) r (giveL (takeL (stA l) ps) ps)) : wpOT C (stA l) (.call f args) K := by
 refine ⟨g, caps, ps, r, h1, hcp, by rw [h2, evs_map], okPs_all h3, h4, h5, h6, ?_, hK⟩
 intro hl
 rcases h7 with h7 | h7
 ·rw [h7] at hl; cases hl
 ·rw [Bool.and_eq_true] at h7; exact ⟨h7.1, nshPs_all h7.2⟩
theorem wpOT_callA {f : SX} {args : List SX} {g : FuncId} {caps : List AV} {K : List Nat → AV → St → Prop} {us : List Nat} (ps : List PA) (r : AV) (hx : kokL (stA l) (kaL (stA l) us) = true)
  (h1 : ev (stA l) f = .fn g caps) (hcp : AV.plains caps = true) (h2 : ps.map (·.a) = evs (stA l) args ++ caps) (h3 : okPs (stA l) ps) (h4 : apartPA ps = true)
  (h5 : OkAt C g (ps.map (·.d)) r (ps.map (·.o))) (h6 : r.res = true) (h7 : lent ps = false ∨ (r.nosh && nshPs ps) = true)
  (hK : kokL (giveL (takeL (stA l) ps) ps) (kaL (stA l) us) = true ∧ K (us ++ gh ps) r (putL (giveL (takeL (stA l) ps) ps) (kaL (stA l) us))) : wpOT C (stA l) (.ka f args us) K := by
 refine ⟨hx, g, caps, ps, r, h1, hcp, by rw [h2, evs_map], okPs_all h3, h4, h5, h6, ?_, hK⟩
 intro hl
 rcases h7 with h7 | h7
 ·rw [h7] at hl; cases hl
 ·rw [Bool.and_eq_true] at h7; exact ⟨h7.1, nshPs_all h7.2⟩
theorem w_calla0 {f : SX} {args : List SX} {g : FuncId} {caps : List AV} {r : AV} {us : List Nat} (ps : List PA) (h5 : OkAt C g (ps.map (·.d)) r (ps.map (·.o)))
  (h1 : ev (stA l) f = .fn g caps) (hcp : AV.plains caps = true) (h2 : ps.map (·.a) = evs (stA l) args ++ caps) (h3 : okPs (stA l) ps) (h4 : apartPA ps = true)
  (h6 : r.res = true) (h7 : lent ps = false ∨ (r.nosh && nshPs ps) = true) (hx : kokL (stA l) (kaL (stA l) us) = true)
  (hK : kokL (giveL (takeL (stA l) ps) ps) (kaL (stA l) us) = true ∧ wpT C (fin (putL (giveL (takeL (stA l) ps) ps) (kaL (stA l) us)) dst r) os none K) : wpT C (stA l) (⟨dst, .ka f args us, none⟩ :: os) none K := by
 simp only [wpT, wpRT, pushF]
 exact wpOT_callA ps r hx h1 hcp h2 h3 h4 h5 h6 h7 hK
theorem w_calla1 {a : List FP} {f : SX} {args : List SX} {g : FuncId} {caps : List AV} {r : AV} {us : List Nat} (ps : List PA) (h5 : OkAt C g (ps.map (·.d)) r (ps.map (·.o)))
  (h1 : ev (stA l) f = .fn g caps) (hcp : AV.plains caps = true) (h2 : ps.map (·.a) = evs (stA l) args ++ caps) (h3 : okPs (stA l) ps) (h4 : apartPA ps = true)
  (h6 : r.res = true) (h7 : lent ps = false ∨ (r.nosh && nshPs ps) = true) (hx : kokL (stA l) (kaL (stA l) us) = true)
  (hK : kokL (giveL (takeL (stA l) ps) ps) (kaL (stA l) us) = true ∧ wpT C (fin (putL (giveL (takeL (stA l) ps) ps) (kaL (stA l) us)) dst r) os (some (fpO (stA l) (use (stA l) (.ka f args us)) dst (us ++ gh ps) r :: a)) K) : wpT C (stA l) (⟨dst, .ka f args us, none⟩ :: os) (some a) K := by
 simp only [wpT, wpRT, pushF]
 exact wpOT_callA ps r hx h1 hcp h2 h3 h4 h5 h6 h7 hK
theorem ka_s (s : St) : kaL s [] = [] ∧ (∀ u us, kaL s (u :: us) = (u, s u) :: kaL s us) ∧ kokL s [] = true ∧ (∀ p L, kokL s (p :: L) = (p.2.kok s && kokL s L)) ∧ putL s [] = s ∧ (∀ p L, putL s (p :: L) = putL (upd s p.1 p.2) L) ∧
  (∀ x, AV.kok s (.h x []) = (s x).own) ∧ (∀ x k, AV.kok s (.hb x k) = !(s x).plain) ∧ (∀ f c, AV.kok s (.fn f c) = AV.koks s c) ∧ AV.koks s [] = true ∧ (∀ d ds, AV.koks s (d :: ds) = (d.kok s && AV.koks s ds)) ∧
  (∀ k n, AV.kok s (.int k n) = true) ∧ (∀ b, AV.kok s (.bool b) = true) ∧ (∀ x, AV.kok s (.str x) = true) ∧ (∀ x, AV.kok s (.slice x) = true) ∧ (∀ x, AV.kok s (.ref x) = true) ∧ AV.kok s .nils = true ∧ AV.kok s .nilp = true ∧ (∀ fs, AV.kok s (.agg fs) = AV.plains fs) :=
 ⟨rfl, fun _ _ => rfl, rfl, fun _ _ => rfl, rfl, fun _ _ => rfl, fun _ => rfl, fun _ _ => rfl, fun _ _ => rfl, rfl, fun _ _ => rfl, fun _ _ => rfl, fun _ => rfl, fun _ => rfl, fun _ => rfl, fun _ => rfl, rfl, rfl, fun _ => rfl⟩
theorem w_callp0 {f : SX} {args : List SX} {g : FuncId} {caps : List AV} {r : AV} (ps : List PA) (h5 : OkAt C g (ps.map (·.d)) r (ps.map (·.o)))
  (h1 : ev (stA l) f = .fn g caps) (hcp : AV.plains caps = true) (h2 : ps.map (·.a) = evs (stA l) args ++ caps) (h3 : okPs (stA l) ps) (h4 : apartPA ps = true)
  (h6 : r.res = true) (h7 : lent ps = false ∨ (r.nosh && nshPs ps) = true)
  (hK : wpT C (fin (giveL (takeL (stA l) ps) ps) dst r) os none K) : wpT C (stA l) (⟨dst, .call f args, none⟩ :: os) none K := by
 simp only [wpT, wpRT, pushF]
 exact wpOT_callP ps r h1 hcp h2 h3 h4 h5 h6 h7 hK
theorem okp_s (s : St) : okPs s [] = True ∧ (∀ p ps, okPs s (p :: ps) = (p.ok s ∧ okPs s ps)) ∧ (∀ a d o, PA.ok s ⟨a, false, d, o⟩ = (view s a = some d)) ∧
  (∀ x q d o, PA.ok s ⟨.h x q, true, d, o⟩ = (AV.sub q (s x) = some d ∧ d.ow = true ∧ (o = .hole ∨ (o.ow = true ∧ likeA d o = true)))) := by
 refine ⟨rfl, fun _ _ => rfl, fun _ _ _ => ?_, fun _ _ _ _ => ?_⟩ <;> simp [PA.ok]
theorem own_r : (∀ d, AV.own (.ubox d) = true) ∧ (∀ n xs, AV.own (.uslice n xs) = true) ∧ (∀ d, AV.ow (.ubox d) = true) ∧ (∀ n xs, AV.ow (.uslice n xs) = true) ∧ (∀ fs, AV.ow (.agg fs) = !AV.plains fs) ∧
  (∀ d e, likeA (.ubox d) (.ubox e) = true) ∧ (∀ n xs m ys, likeA (.uslice n xs) (.uslice m ys) = true) ∧ (∀ a b, likeA (.agg a) (.agg b) = (AV.wds a == AV.wds b)) := ⟨fun _ => rfl, fun _ _ => rfl, fun _ => rfl, fun _ _ => rfl, fun _ => rfl, fun _ _ => rfl, fun _ _ _ _ => rfl, fun _ _ => rfl⟩
theorem gv_s (s : St) : takeL s [] = s ∧ giveL s [] = s ∧ (∀ p ps, takeL s (p :: ps) = takeL (PA.take s p) ps) ∧ (∀ p ps, giveL s (p :: ps) = giveL (PA.give s p) ps) ∧
  (∀ a d o, PA.take s ⟨a, false, d, o⟩ = s) ∧ (∀ a d o, PA.give s ⟨a, false, d, o⟩ = s) ∧ (∀ x q d o, PA.take s ⟨.h x q, true, d, o⟩ = upd (pkS x s) x (AV.put q d.hollow (s x))) ∧
  (∀ a d, PA.give s ⟨a, true, d, .hole⟩ = s) ∧ (∀ x q d e, PA.give s ⟨.h x q, true, d, .ubox e⟩ = upd (pgS x s) x (AV.put q (.ubox e) (s x))) ∧
  (∀ x q d n xs, PA.give s ⟨.h x q, true, d, .uslice n xs⟩ = upd (pgS x s) x (AV.put q (.uslice n xs) (s x))) ∧
  (∀ x q d fs, PA.give s ⟨.h x q, true, d, .agg fs⟩ = upd (pgS x s) x (AV.put q (.agg fs) (s x))) := by
 refine ⟨rfl, rfl, fun _ _ => rfl, fun _ _ => rfl, ?_, ?_, ?_, ?_, ?_, ?_, ?_⟩ <;> intros <;> simp [PA.take, PA.give]
def outsOk (s : St) (fx rs : List Nat) : Nat → List AV → Bool → Prop
 | _, [], _ => True
 | k, o :: r, b => (o = .hole ∨ (o = s k ∧ o.ow = true ∧ fx.contains k = true ∧ rs.contains k = false)) ∧ outsOk s fx rs (k + 1) r b
theorem outs_of {s : St} {fx : List Nat} {rv : List ResultVar} {outs : List AV} (h : outsOk s fx (rv.map rvSlot) 0 outs true) : ∀ (i : Nat) (o : AV), outs[i]? = some o → o = .hole ∨ (o = s i ∧ o.ow = true ∧ i ∈ fx ∧ i ∉ rv.map rvSlot) := by
 have key : ∀ (outs : List AV) (k : Nat), outsOk s fx (rv.map rvSlot) k outs true → ∀ (i : Nat) (o : AV), outs[i]? = some o → o = .hole ∨ (o = s (k + i) ∧ o.ow = true ∧ k + i ∈ fx ∧ k + i ∉ rv.map rvSlot) := by
  intro outs
  induction outs with
  | nil => intro k _ i o h; simp at h
  | cons a outs ih =>
    intro k h i o ho
    cases i with
    | zero =>
      simp at ho; subst ho
      rcases h.1 with h | ⟨h1, h2, h3, h4⟩
      ·exact .inl h
      ·exact .inr ⟨h1, h2, by simpa using h3, by simpa using h4⟩
    | succ i =>
      have := ih (k + 1) h.2 i o (by simpa using ho)
      rw [show k + (i + 1) = k + 1 + i by omega]; exact this
 intro i o ho
 have := key outs 0 h i o ho
 simpa using this
theorem out_no {s : St} {fx rs : List Nat} {k : Nat} {l : List AV} (h : outsOk s fx rs (k + 1) l true) : outsOk s fx rs k (.hole :: l) true := ⟨.inl rfl, h⟩
theorem out_is {s : St} {fx rs : List Nat} {k : Nat} {o : AV} {l : List AV} (h1 : o = s k) (h2 : o.ow = true) (h3 : fx.contains k = true) (h4 : rs.contains k = false) (h : outsOk s fx rs (k + 1) l true) : outsOk s fx rs k (o :: l) true := ⟨.inr ⟨h1, h2, h3, h4⟩, h⟩
theorem out_end {s : St} {fx rs : List Nat} {k : Nat} : outsOk s fx rs k [] true := trivial
theorem OkAt.nil {C : Cx} {f : FuncId} {args : List AV} {r : AV} {outs : List AV} (i : Nat) (h : OkAt C f (args.set i (.slice [])) r outs) (hi : args[i]? = some .nils) : OkAt C f args r outs := by
 intro w F X S vs hl hr
 have hsv := hr.sv i
 have hs : stL args i = .nils := by simp [stL, List.getD, hi]
 rw [hs] at hsv
 have hv : SV w F (stL args) (tmL vs) (.slice []) (tmL vs i) (fun _ => False) := by
  rw [SV.of_tree rfl] at hsv ⊢
  refine ⟨hsv.1, ?_⟩
  have h2 := hsv.2
  simp only [RV] at h2 ⊢
  exact .inl ⟨trivial, none, 0, h2, Nat.zero_le _, fun _ => rfl⟩
 have h2 := hr.setP (t := i) rfl hv
 have e1 : upd (stL args) i (.slice []) = stL (args.set i (.slice [])) := by
  funext t
  have hlt : i < args.length := (List.getElem?_eq_some_iff.1 hi).1
  by_cases ht : t = i
  ·subst ht; simp [upd, stL, List.getD, hlt]
  ·have : i ≠ t := fun e => ht e.symm
   simp [upd, ht, stL, List.getD, this]
 have e2 : upd (tmL vs) i (tmL vs i) = tmL vs := by
  funext t
  by_cases ht : t = i
  ·subst ht; simp [upd]
  ·simp [upd, ht]
 rw [e1, e2] at h2
 exact h w F X _ vs (by simpa using hl) h2
def shrV : Option (AV × St) → Option (AV × St)
 | some (av, s) => if (av.tree && !av.isTup) = true then some (av.share, s) else none
 | none => none
theorem shrV_s (s : St) : (∀ n xs, shrV (some (.uslice n xs, s)) = some (.slice (AV.shares xs), s)) ∧ (∀ d, shrV (some (.ubox d, s)) = some (.ref d.share, s)) ∧ (∀ ds, shrV (some (.agg ds, s)) = some (.agg (AV.shares ds), s)) :=
 ⟨fun _ _ => rfl, fun _ => rfl, fun _ => rfl⟩
theorem wpOT_shr {s : St} {so : SO} {K : List Nat → AV → St → Prop} : wpOT C s (.shr so) K = (match shrV (eff C s so) with
  | some (av, s1) => K (tks s so) av s1
  | none => False) := by
 apply propext
 cases he : eff C s so with
 | none =>
   simp only [shrV]
   exact ⟨fun ⟨av, s1, h1, _⟩ => (by rw [he] at h1; cases h1), fun h => h.elim⟩
 | some p =>
   obtain ⟨av, s1⟩ := p
   simp only [shrV]
   by_cases ht : (av.tree && !av.isTup) = true
   ·rw [if_pos ht]
    simp only [Bool.and_eq_true, Bool.not_eq_true'] at ht
    constructor
    ·rintro ⟨av', s1', h1, h2, h3, h4⟩
     rw [he] at h1
     simp only [Option.some.injEq, Prod.mk.injEq] at h1
     obtain ⟨rfl, rfl⟩ := h1
     exact h4
    ·intro h
     exact ⟨av, s1, he, ht.1, fun vs e => by subst e; simp [AV.isTup] at ht, h⟩
   ·rw [if_neg ht]
    constructor
    ·rintro ⟨av', s1', h1, h2, h3, h4⟩
     rw [he] at h1
     simp only [Option.some.injEq, Prod.mk.injEq] at h1
     obtain ⟨rfl, rfl⟩ := h1
     refine ht ?_
     rw [h2]
     cases av <;> first | rfl | exact (h3 _ rfl).elim
    ·intro h; exact h.elim
theorem keepS_some (s : St) (d : AV) : keepS s (some d) = some (d, s) := rfl
theorem st_shr (so : SO) : (wpT C (stA l) (⟨dst, .shr so, none⟩ :: os) none K = go0 C dst os K (shrV (eff C (stA l) so))) ∧
  (∀ a, wpT C (stA l) (⟨dst, .shr so, none⟩ :: os) (some a) K = go1 C l (use (stA l) so) (tks (stA l) so) dst os a K (shrV (eff C (stA l) so))) ∧
  (∀ t b, gdT C l dst (.shr so) t b os none K (.bool b) = go0 C dst os K (shrV (eff C (stA l) so))) ∧
  (∀ a t b, gdT C l dst (.shr so) t b os (some a) K (.bool b) = go1 C l (t :: use (stA l) so) (tks (stA l) so) dst os a K (shrV (eff C (stA l) so))) := by
 refine ⟨?_, fun a => ?_, fun t b => ?_, fun a t b => ?_⟩
 ·simp only [wpT, wpRT, wpOT_shr]
  cases shrV (eff C (stA l) so) with
  | none => rfl
  | some p => rfl
 ·simp only [wpT, wpRT, wpOT_shr]
  cases shrV (eff C (stA l) so) with
  | none => rfl
  | some p => rfl
 ·simp only [gdT, if_true, wpOT_shr]
  cases shrV (eff C (stA l) so) with
  | none => rfl
  | some p => rfl
 ·simp only [gdT, if_true, wpOT_shr]
  cases shrV (eff C (stA l) so) with
  | none => rfl
  | some p => rfl
def slN (C : Cx) (s : St) : TK → Option (AV × St)
 | .slice e => if (C.T e).ok = true then some (.nils, s) else none
 | _ => none
def slH (C : Cx) (s : St) (y : Nat) (q : List Nat) (b : Int) : TK → Option AV → Option (AV × St)
 | .slice e, some (.uslice sz xs) => (match subL xs 0 b with
   | some t => if (C.T e).ok = true then (match tk s (.h y q) with | some (_, s1) => some (.uslice sz t, s1) | none => none) else none
   | none => none)
 | _, _ => none
theorem slc_h (C : Cx) (s : St) (T : TypeId) (y : Nat) (q : List Nat) : (∀ k b, slc C s T (.h y q) none (some (.int k b)) = slH C s y q b (C.T T).k (AV.sub q (s y))) ∧
  (∀ k b k', slc C s T (.h y q) (some (.int k' 0)) (some (.int k b)) = slH C s y q b (C.T T).k (AV.sub q (s y))) ∧
  (∀ e sz xs b t, subL xs 0 b = some t → slH C s y q b (.slice e) (some (.uslice sz xs)) = if (C.T e).ok = true then (match tk s (.h y q) with | some (_, s1) => some (.uslice sz t, s1) | none => none) else none) := by
 have key : ∀ (lo : Option AV) (k : IntKind) (b : Int), bd 0 lo = some 0 → slc C s T (.h y q) lo (some (.int k b)) = slH C s y q b (C.T T).k (AV.sub q (s y)) := by
  intro lo k b h0
  simp only [slc]
  generalize (C.T T).k = kk
  cases kk <;> first | rfl | skip
  rename_i e
  cases hs : AV.sub q (s y) with
  | none => simp only [hs]; rfl
  | some d =>
    cases d with
    | uslice sz xs =>
      have hb1 : bd xs.length (some (.int k b)) = if 0 ≤ b then some b.toNat else none := rfl
      simp only [hs, h0, hb1, slH, subL]
      by_cases hb : 0 ≤ b
      ·by_cases hc : b ≤ xs.length
       ·have h1 : b.toNat ≤ xs.length := by omega
        simp only [hb, hc, h1, if_true, true_and, Int.le_refl, and_self, Int.toNat_zero, List.drop_zero]
        rfl
       ·have h1 : ¬ b.toNat ≤ xs.length := by omega
        simp only [hb, hc, h1, if_true, if_false, and_false, false_and, Int.le_refl]
      ·simp only [hb, if_false, false_and, and_false]
    | _ => simp only [hs]; rfl
 refine ⟨fun k b => key _ _ _ rfl, fun k b k' => key _ _ _ (by simp [bd]), fun e sz xs b t h => ?_⟩
 simp only [slH, h]
def bxsR (s : St) (y : Nat) : AV → Option (AV × St)
 | .agg ds => if AV.plains ds then none else some (.hb y 0, s)
 | _ => none
theorem cap_s (C : Cx) (s : St) (T e : TypeId) (x : SX) (hk : (C.T T).k = .slice e) (hx : ev s x = .nils) : eff C s (.cap T x) = some (.int .i64 0, s) := by
 simp only [eff, hk, hx]
theorem st_cap (T : TypeId) (x : SX) : (wpT C (stA l) (⟨dst, .cap T x, none⟩ :: os) none K = go0 C dst os K (eff C (stA l) (.cap T x))) ∧
  (∀ a, wpT C (stA l) (⟨dst, .cap T x, none⟩ :: os) (some a) K = go1 C l (use (stA l) (.cap T x)) (tks (stA l) (.cap T x)) dst os a K (eff C (stA l) (.cap T x))) :=
 ⟨wpT_0 rfl, fun _ => wpT_1 rfl⟩
theorem slN_s (C : Cx) (s : St) (e : TypeId) : slN C s (.slice e) = if (C.T e).ok = true then some (.nils, s) else none := rfl
theorem hbld_s {C : Cx} {l : List (Nat × AV)} {os : List RO} {K : Option (List FP) → St → Prop} {dst : Option Nat} (T : TypeId) (x : SX) :
  wpT C (stA l) (⟨dst, .bxs T x, none⟩ :: os) none K = go0 C dst os K (bxs (stA l) (ev (stA l) x)) := wpT_0 rfl
theorem hbx_s : (∀ (t x k : Nat), al t (.hb x k) = .hb x k) ∧ (∀ (l : List (Nat × AV)) (t x k : Nat), fin (stA l) (some t) (.hb x k) = stA ((t, .hb x k) :: l)) ∧ (∀ x k : Nat, AV.plain (.hb x k) = true) ∧
  (∀ (s : St) (x k : Nat), asgV s (.hb x k) = some (.hb x k, s)) ∧ (∀ (t y k : Nat), pg t (.hb y k) = if y = t then .hole else .hb y k) ∧ (∀ (t y k : Nat), pk t (.hb y k) = .hb y k) ∧ (∀ x k : Nat, AV.wd (.hb x k) = 1) :=
 ⟨fun _ _ _ => rfl, fun l t x k => by simp only [fin, AV.plain, if_true, upd_stA], fun _ _ => rfl, fun _ _ _ => rfl, fun _ _ _ => by simp only [pg], fun _ _ _ => by simp only [pk], fun _ _ => rfl⟩
theorem hb_s : (∀ (s : St) y, bxs s (.h y []) = bxsR s y (s y)) ∧ (∀ (s : St) y fs, bxsR s y (.agg fs) = if AV.plains fs then none else some (.hb y 0, s)) ∧
  (∀ k i ds d, fldI (d :: ds) i k = if k = 0 then some i else if d.wd ≤ k then fldI ds (i + 1) (k - d.wd) else none) :=
 ⟨fun s y => by simp only [bxs, bxsR]; cases s y <;> rfl, fun _ _ _ => rfl, fun _ _ _ _ => rfl⟩
theorem slc_n (C : Cx) (s : St) (T : TypeId) : slc C s T .nils none none = slN C s (C.T T).k ∧ (∀ k, slc C s T .nils none (some (.int k 0)) = slN C s (C.T T).k) ∧ (∀ k, slc C s T .nils (some (.int k 0)) none = slN C s (C.T T).k) ∧
  (∀ k k', slc C s T .nils (some (.int k 0)) (some (.int k' 0)) = slN C s (C.T T).k) ∧ (∀ e, slN C s (.slice e) = if (C.T e).ok = true then some (.nils, s) else none) := by
 refine ⟨?_, fun k => ?_, fun k => ?_, fun k k' => ?_, fun _ => rfl⟩ <;> (simp only [slc]; generalize (C.T T).k = kk; cases kk <;> rfl)
theorem st_apz (T U : TypeId) (x y : SX) : (wpT C (stA l) (⟨dst, .apz T U x y, none⟩ :: os) none K = go0 C dst os K (keepS (stA l) (apz C T U (ev (stA l) x) (ev (stA l) y)))) ∧
  (∀ a, wpT C (stA l) (⟨dst, .apz T U x y, none⟩ :: os) (some a) K = go1 C l (use (stA l) (.apz T U x y)) (tks (stA l) (.apz T U x y)) dst os a K (keepS (stA l) (apz C T U (ev (stA l) x) (ev (stA l) y)))) := by
 have e : eff C (stA l) (.apz T U x y) = keepS (stA l) (apz C T U (ev (stA l) x) (ev (stA l) y)) := by simp only [eff, keepS_map]
 exact ⟨(wpT_0 rfl).trans (by rw [e]), fun a => (wpT_1 rfl).trans (by rw [e])⟩
theorem get_set {α : Type} {l : List α} {i : Nat} {x : α} (h : l[i]? = some x) (u : α → AV) (a : AV) : ((l.map u).set i a)[i]? = some a := by
 have : i < l.length := (List.getElem?_eq_some_iff.1 h).1
 rw [List.getElem?_set_self (by simpa using this)]
theorem set_mset {α : Type} (l : List α) (u : α → AV) (i : Nat) (a b : AV) : ((l.map u).set i a).set i b = (l.map u).set i b := List.set_set ..
theorem subL_zero {α : Type} (xs : List α) : subL xs 0 0 = some [] := by unfold subL; rw [if_pos ⟨Int.le_refl _, by omega⟩]; rfl
end
end Go.Fw
