/- Part of a proof that a law returns true for every input. No condition. -/
import Derived.Test.YtncnipaofaeaiaaFwH
import Derived.Laws.Externs
import Derived.Lib.Bytealg
namespace Go.Fw

/-! Functions of the library without a body. -/

theorem ext_cmp {C : Cx} {f : FuncId} {fn : Func} (hf : C.P.funcs[f]? = some fn) (hname : (fn.name == "runtime.NumGoroutine") = false) (hb : fn.body.isNone = true) (hn : Extern.findNext fn = none)
    (he : Extern.find fn = some Extern.BytealgCompare.compare) (a b : List UInt8) : OkAt C f [.str a, .str b] (.int .i64 (Lib.compareBytes a b)) [] := by
  intro w F X S vs hl hr
  have h0 := sv_str (hr.sv 0)
  have h1 := sv_str (hr.sv 1)
  have hvs : vs = [.string ⟨⟨a⟩⟩, .string ⟨⟨b⟩⟩] := by
    match vs, hl with
    | [x, y], _ =>
      have e0 : x = .string ⟨⟨a⟩⟩ := h0
      have e1 : y = .string ⟨⟨b⟩⟩ := h1
      rw [e0, e1]
  subst hvs
  refine .inr ⟨.int .i64 (Lib.compareBytes a b), w, ?_, F, S, ?_⟩
  · rw [run_callFunc_extern hf hname hb hn he, Lib.run_compareString]
    rfl
  · refine ⟨hr.F0F, hr.FF0, hr.Flt, hr.Slt, hr.SF, hr.SS, hr.S0, fun t => ?_, hr.old, hr.size, hr.os, hr.tape, hr.output⟩
    cases t with
    | zero => exact (SV.of_tree rfl).2 ⟨rfl, by simp only [vc, vc1, tmL]; rw [show stL (.int .i64 (Lib.compareBytes a b) :: []) 0 = .int .i64 (Lib.compareBytes a b) from rfl, RV]; rfl⟩
    | succ t =>
      show SV w F _ _ (stL [AV.int .i64 (Lib.compareBytes a b)] (t + 1)) _ _
      rw [show stL [AV.int .i64 (Lib.compareBytes a b)] (t + 1) = .hole from rfl, SV]; trivial


/-! Calls whose arguments are given or lent; results made wider. -/

theorem OkAt.wide {C : Cx} {f : FuncId} {as : List AV} {r r' : AV} {outs : List AV} (h : OkAt C f as r outs) (hw : Wd r r') (ht : r.tree = true) (ho : AV.hss outs = []) : OkAt C f as r' outs := by
  intro w F X S vs hl hr
  refine Gets.mono (h w F X S vs hl hr) ?_
  rintro v w' ⟨F', S', h'⟩
  have hnum : ∀ (k : Nat) (l : List AV), AV.hss ((num k l).map (·.2)) = AV.hss l := by
    intro k l
    induction l generalizing k with
    | nil => rfl
    | cons a l ih => simp only [num, List.map_cons, AV.hss, ih]
  have hmem : ∀ (k : Nat) (l : List AV) (p : Nat × AV), p ∈ num k l → ∃ i, l[i]? = some p.2 ∧ p.1 = k + i := by
    intro k l
    induction l generalizing k with
    | nil => intro p hp; cases hp
    | cons a l ih =>
      intro p hp
      rcases List.mem_cons.1 hp with rfl | hp
      · exact ⟨0, rfl, rfl⟩
      · obtain ⟨i, h1, h2⟩ := ih (k + 1) p hp
        exact ⟨i + 1, by simpa using h1, by omega⟩
  have hhs : AV.hss (r' :: outs) = [] := by
    have : r'.tree = true := hw.tree ht
    simp [AV.hss, tree_hs this, ho]
  have hwk : WeakL (stL (r :: outs)) (num 0 (r' :: outs)) := by
    intro p hp
    obtain ⟨i, h1, h2⟩ := hmem 0 _ p hp
    have hi : p.1 = i := by omega
    cases i with
    | zero =>
      simp at h1
      right
      rw [hi, ← h1]
      refine ⟨ht, hw, ?_⟩
      intro p' hp' hm
      have : p'.2.hs = [] := by
        have key : ∀ (as : List AV) (a : AV), a ∈ as → AV.hss as = [] → a.hs = [] := by
          intro as
          induction as with
          | nil => intro a h; cases h
          | cons b as ih =>
            intro a h he
            simp only [AV.hss, List.append_eq_nil_iff] at he
            rcases List.mem_cons.1 h with rfl | h
            · exact he.1
            · exact ih a h he.2
        obtain ⟨j, g1, _⟩ := hmem 0 _ p' hp'
        exact key _ _ (List.mem_of_getElem? g1) hhs
      rw [this] at hm; cases hm
    | succ i =>
      left
      rw [hi]
      simp only [stL, List.getD]
      simp at h1
      simp [h1]
  obtain ⟨F2, S2, h2⟩ := h'.weak hwk
  refine ⟨F2, S2, ?_⟩
  rw [stL_num]
  exact h2

section
variable {C : Cx} {l : List (Nat × AV)} {os : List RO} {K : Option (List FP) → St → Prop} {dst : Option Nat}

def okPs (s : St) : List PA → Prop
  | [] => True
  | p :: ps => p.ok s ∧ okPs s ps
theorem okPs_all {s : St} : ∀ {ps : List PA}, okPs s ps → ∀ p ∈ ps, p.ok s
  | p :: ps, h, q, hq => by
    rcases List.mem_cons.1 hq with rfl | hq
    · exact h.1
    · exact okPs_all h.2 q hq
def nshPs : List PA → Bool
  | [] => true
  | p :: ps => p.o.nosh && nshPs ps
theorem nshPs_all : ∀ {ps : List PA}, nshPs ps = true → ∀ p ∈ ps, p.o.nosh = true
  | p :: ps, h, q, hq => by
    simp only [nshPs, Bool.and_eq_true] at h
    rcases List.mem_cons.1 hq with rfl | hq
    · exact h.1
    · exact nshPs_all h.2 q hq

theorem wpOT_callP {f : SX} {args : List SX} {g : FuncId} {caps : List AV} {K : List Nat → AV → St → Prop} (ps : List PA) (r : AV)
    (h1 : ev (stA l) f = .fn g caps) (hcp : AV.plains caps = true) (h2 : ps.map (·.a) = evs (stA l) args ++ caps) (h3 : okPs (stA l) ps) (h4 : apartPA ps = true)
    (h5 : OkAt C g (ps.map (·.d)) r (ps.map (·.o))) (h6 : r.res = true) (h7 : lent ps = false ∨ (r.nosh && nshPs ps) = true) (hK : K (gh ps) r (giveL (takeL (stA l) ps) ps)) : wpOT C (stA l) (.call f args) K := by
  refine ⟨g, caps, ps, r, h1, hcp, by rw [h2, evs_map], okPs_all h3, h4, h5, h6, ?_, hK⟩
  intro hl
  rcases h7 with h7 | h7
  · rw [h7] at hl; cases hl
  · rw [Bool.and_eq_true] at h7; exact ⟨h7.1, nshPs_all h7.2⟩

theorem w_callp0 {f : SX} {args : List SX} {g : FuncId} {caps : List AV} {r : AV} (ps : List PA) (h5 : OkAt C g (ps.map (·.d)) r (ps.map (·.o)))
    (h1 : ev (stA l) f = .fn g caps) (hcp : AV.plains caps = true) (h2 : ps.map (·.a) = evs (stA l) args ++ caps) (h3 : okPs (stA l) ps) (h4 : apartPA ps = true)
    (h6 : r.res = true) (h7 : lent ps = false ∨ (r.nosh && nshPs ps) = true)
    (hK : wpT C (fin (giveL (takeL (stA l) ps) ps) dst r) os none K) : wpT C (stA l) (⟨dst, .call f args, none⟩ :: os) none K := by
  simp only [wpT, wpRT, pushF]
  exact wpOT_callP ps r h1 hcp h2 h3 h4 h5 h6 h7 hK
theorem w_callp1 {a : List FP} {f : SX} {args : List SX} {g : FuncId} {caps : List AV} {r : AV} (ps : List PA) (h5 : OkAt C g (ps.map (·.d)) r (ps.map (·.o)))
    (h1 : ev (stA l) f = .fn g caps) (hcp : AV.plains caps = true) (h2 : ps.map (·.a) = evs (stA l) args ++ caps) (h3 : okPs (stA l) ps) (h4 : apartPA ps = true)
    (h6 : r.res = true) (h7 : lent ps = false ∨ (r.nosh && nshPs ps) = true)
    (hK : wpT C (fin (giveL (takeL (stA l) ps) ps) dst r) os (some (fpO (stA l) (use (stA l) (.call f args)) dst (gh ps) r :: a)) K) : wpT C (stA l) (⟨dst, .call f args, none⟩ :: os) (some a) K := by
  simp only [wpT, wpRT, pushF]
  exact wpOT_callP ps r h1 hcp h2 h3 h4 h5 h6 h7 hK
theorem w_callpg0 {t : Nat} {b : Bool} {f : SX} {args : List SX} {g : FuncId} {caps : List AV} {r : AV} (ps : List PA) (h5 : OkAt C g (ps.map (·.d)) r (ps.map (·.o)))
    (h1 : ev (stA l) f = .fn g caps) (hcp : AV.plains caps = true) (h2 : ps.map (·.a) = evs (stA l) args ++ caps) (h3 : okPs (stA l) ps) (h4 : apartPA ps = true)
    (h6 : r.res = true) (h7 : lent ps = false ∨ (r.nosh && nshPs ps) = true)
    (hK : wpT C (fin (giveL (takeL (stA l) ps) ps) dst r) os none K) : gdT C l dst (.call f args) t b os none K (.bool b) := by
  simp only [gdT, if_true]
  exact wpOT_callP ps r h1 hcp h2 h3 h4 h5 h6 h7 hK
theorem w_callpg1 {a : List FP} {t : Nat} {b : Bool} {f : SX} {args : List SX} {g : FuncId} {caps : List AV} {r : AV} (ps : List PA) (h5 : OkAt C g (ps.map (·.d)) r (ps.map (·.o)))
    (h1 : ev (stA l) f = .fn g caps) (hcp : AV.plains caps = true) (h2 : ps.map (·.a) = evs (stA l) args ++ caps) (h3 : okPs (stA l) ps) (h4 : apartPA ps = true)
    (h6 : r.res = true) (h7 : lent ps = false ∨ (r.nosh && nshPs ps) = true)
    (hK : wpT C (fin (giveL (takeL (stA l) ps) ps) dst r) os (some (fpO (stA l) (t :: use (stA l) (.call f args)) dst (gh ps) r :: a)) K) : gdT C l dst (.call f args) t b os (some a) K (.bool b) := by
  simp only [gdT, if_true]
  exact wpOT_callP ps r h1 hcp h2 h3 h4 h5 h6 h7 hK

theorem mapA_s : (∀ p : PA, ([] : List PA).map (·.a) = []) ∧ (∀ (p : PA) ps, (p :: ps).map (·.a) = p.a :: ps.map (·.a)) := ⟨fun _ => rfl, fun _ _ => rfl⟩
/-- What is known of each argument. -/
theorem okp_s (s : St) : okPs s [] = True ∧ (∀ p ps, okPs s (p :: ps) = (p.ok s ∧ okPs s ps)) ∧ (∀ a d o, PA.ok s ⟨a, false, d, o⟩ = (view s a = some d)) ∧
    (∀ x q d o, PA.ok s ⟨.h x q, true, d, o⟩ = (AV.sub q (s x) = some d ∧ d.own = true ∧ (o = .hole ∨ o.own = true))) := by
  refine ⟨rfl, fun _ _ => rfl, fun _ _ _ => ?_, fun _ _ _ _ => ?_⟩ <;> simp [PA.ok]
theorem own_r : (∀ d, AV.own (.ubox d) = true) ∧ (∀ n xs, AV.own (.uslice n xs) = true) := ⟨fun _ => rfl, fun _ _ => rfl⟩
/-- Taking and giving. -/
theorem gv_s (s : St) : takeL s [] = s ∧ giveL s [] = s ∧ (∀ p ps, takeL s (p :: ps) = takeL (PA.take s p) ps) ∧ (∀ p ps, giveL s (p :: ps) = giveL (PA.give s p) ps) ∧
    (∀ a d o, PA.take s ⟨a, false, d, o⟩ = s) ∧ (∀ a d o, PA.give s ⟨a, false, d, o⟩ = s) ∧ (∀ x q d o, PA.take s ⟨.h x q, true, d, o⟩ = upd (pkS x s) x (AV.put q .hole (s x))) ∧
    (∀ a d, PA.give s ⟨a, true, d, .hole⟩ = s) ∧ (∀ x q d e, PA.give s ⟨.h x q, true, d, .ubox e⟩ = upd (pgS x s) x (AV.put q (.ubox e) (s x))) ∧
    (∀ x q d n xs, PA.give s ⟨.h x q, true, d, .uslice n xs⟩ = upd (pgS x s) x (AV.put q (.uslice n xs) (s x))) := by
  refine ⟨rfl, rfl, fun _ _ => rfl, fun _ _ => rfl, ?_, ?_, ?_, ?_, ?_, ?_⟩ <;> intros <;> simp [PA.take, PA.give]

/-- What is left of the arguments at the end. -/
def outsOk (s : St) (fx rs : List Nat) : Nat → List AV → Bool → Prop
  | _, [], _ => True
  | k, o :: r, b => (o = .hole ∨ (o = s k ∧ o.own = true ∧ fx.contains k = true ∧ rs.contains k = false)) ∧ outsOk s fx rs (k + 1) r b
theorem outs_of {s : St} {fx : List Nat} {rv : List ResultVar} {outs : List AV} (h : outsOk s fx (rv.map rvSlot) 0 outs true) : ∀ (i : Nat) (o : AV), outs[i]? = some o → o = .hole ∨ (o = s i ∧ o.own = true ∧ i ∈ fx ∧ i ∉ rv.map rvSlot) := by
  have key : ∀ (outs : List AV) (k : Nat), outsOk s fx (rv.map rvSlot) k outs true → ∀ (i : Nat) (o : AV), outs[i]? = some o → o = .hole ∨ (o = s (k + i) ∧ o.own = true ∧ k + i ∈ fx ∧ k + i ∉ rv.map rvSlot) := by
    intro outs
    induction outs with
    | nil => intro k _ i o h; simp at h
    | cons a outs ih =>
      intro k h i o ho
      cases i with
      | zero =>
        simp at ho; subst ho
        rcases h.1 with h | ⟨h1, h2, h3, h4⟩
        · exact .inl h
        · exact .inr ⟨h1, h2, by simpa using h3, by simpa using h4⟩
      | succ i =>
        have := ih (k + 1) h.2 i o (by simpa using ho)
        rw [show k + (i + 1) = k + 1 + i by omega]; exact this
  intro i o ho
  have := key outs 0 h i o ho
  simpa using this
theorem out_no {s : St} {fx rs : List Nat} {k : Nat} {l : List AV} (h : outsOk s fx rs (k + 1) l true) : outsOk s fx rs k (.hole :: l) true := ⟨.inl rfl, h⟩
theorem out_is {s : St} {fx rs : List Nat} {k : Nat} {o : AV} {l : List AV} (h1 : o = s k) (h2 : o.own = true) (h3 : fx.contains k = true) (h4 : rs.contains k = false) (h : outsOk s fx rs (k + 1) l true) : outsOk s fx rs k (o :: l) true := ⟨.inr ⟨h1, h2, h3, h4⟩, h⟩
theorem out_end {s : St} {fx rs : List Nat} {k : Nat} : outsOk s fx rs k [] true := trivial

/-- A region behind which the state is made weaker. -/
theorem w_sregW {Q : Exit → St → Prop} {ros : List RO} {k : List Nat} {b : SC} (h : wpT C (stA l) ros none (fun _ s => onW (wpC C b Q) (stA (kpA k s)))) : wpC C (.seq (.reg ros (some k)) b) Q (stA l) := wpRs_of_T (fun _ _ h => h) h
theorem w_sdrwW {Q : Exit → St → Prop} {ros : List RO} {af : List (List Nat)} {k : List Nat} {b : SC} (hlen : af.length = ros.length) (h : wpT C (stA l) ros (some []) (fun acc s => okP (clos af) 0 [] (acc.getD []).reverse = true ∧ onW (wpC C b Q) (stA (kpA k s)))) :
    wpC C (.seq (.drw ros af (some k)) b) Q (stA l) := drw_of_T (K := fun s => onW (wpC C b Q) (stA (kpA k s))) hlen h
theorem w_onW {K : St → Prop} {s : St} (l' : List (Nat × AV)) (h : WeakL s l') (hk : K (stA l')) : onW K s := .inr ⟨l', h, hk⟩

theorem wd_sh {d e : AV} (ht : d.tree = true) (hn : d.isTup = false) (h : d.share = e) : Wd d e := by
  subst h
  exact .share d ht (fun vs e => by subst e; cases hn)

/-- A value that may be nil. -/
def optP {α : Type} (f : α → AV) : Option α → AV
  | none => .nilp
  | some x => f x
def optN {α : Type} (f : α → AV) : Option α → AV
  | none => .nils
  | some x => f x
theorem optC_none {α β : Type} (a : β) (f : α → β) : Option.elim none a f = a := rfl
theorem optE {α β : Type} {o : Option α} {a : Option β} {f : α → Option β} {r : β} (h : Option.elim o a f = some r) : (o = none ∧ a = some r) ∨ ∃ y, o = some y ∧ f y = some r := by
  cases o with
  | none => exact .inl ⟨rfl, h⟩
  | some y => exact .inr ⟨y, rfl, h⟩

end
end Go.Fw
