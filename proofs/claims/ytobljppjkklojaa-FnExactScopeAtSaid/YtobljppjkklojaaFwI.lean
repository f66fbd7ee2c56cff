/- Part of a proof that a law returns true for every input. No condition. -/
import Derived.Test.YtobljppjkklojaaFwH
import Derived.Laws.Externs
import Derived.Lib.Bytealg
namespace Go.Fw

/-! Functions of the library without a body. -/

theorem ext_cmp {C : Cx} {f : FuncId} {fn : Func} (hf : C.P.funcs[f]? = some fn) (hname : (fn.name == "runtime.NumGoroutine") = false) (hb : fn.body.isNone = true) (hn : Extern.findNext fn = none)
    (he : Extern.find fn = some Extern.BytealgCompare.compare) (a b : List UInt8) : OkAt C f [.str a, .str b] (.int .i64 (Lib.compareBytes a b)) [] := by
  intro w F X S vs hl hr
  have h0 := sv_str (hr.sv 0)
  have h1 := sv_str (hr.sv 1)
  have hvs : vs = [.string ⟨⟨a⟩⟩, .string ⟨⟨b⟩⟩] := by
    match vs, hl with
    | [x, y], _ =>
      have e0 : x = .string ⟨⟨a⟩⟩ := h0
      have e1 : y = .string ⟨⟨b⟩⟩ := h1
      rw [e0, e1]
  subst hvs
  refine .inr ⟨.int .i64 (Lib.compareBytes a b), w, ?_, F, S, ?_⟩
  · rw [run_callFunc_extern hf hname hb hn he, Lib.run_compareString]
    rfl
  · refine ⟨hr.F0F, hr.FF0, hr.Flt, hr.Slt, hr.SF, hr.SS, hr.S0, fun t => ?_, hr.old, hr.size, hr.os, hr.tape, hr.output⟩
    cases t with
    | zero => exact (SV.of_tree rfl).2 ⟨rfl, by simp only [vc, vc1, tmL]; rw [show stL (.int .i64 (Lib.compareBytes a b) :: []) 0 = .int .i64 (Lib.compareBytes a b) from rfl, RV]; rfl⟩
    | succ t =>
      show SV w F _ _ (stL [AV.int .i64 (Lib.compareBytes a b)] (t + 1)) _ _
      rw [show stL [AV.int .i64 (Lib.compareBytes a b)] (t + 1) = .hole from rfl, SV]; trivial


/-! Calls whose arguments are given or lent; results made wider. -/

theorem OkAt.wide {C : Cx} {f : FuncId} {as : List AV} {r r' : AV} {outs : List AV} (h : OkAt C f as r outs) (hw : Wd r r') (ht : r.tree = true) (ho : AV.hss outs = []) : OkAt C f as r' outs := by
  intro w F X S vs hl hr
  refine Gets.mono (h w F X S vs hl hr) ?_
  rintro v w' ⟨F', S', h'⟩
  have hnum : ∀ (k : Nat) (l : List AV), AV.hss ((num k l).map (·.2)) = AV.hss l := by
    intro k l
    induction l generalizing k with
    | nil => rfl
    | cons a l ih => simp only [num, List.map_cons, AV.hss, ih]
  have hmem : ∀ (k : Nat) (l : List AV) (p : Nat × AV), p ∈ num k l → ∃ i, l[i]? = some p.2 ∧ p.1 = k + i := by
    intro k l
    induction l generalizing k with
    | nil => intro p hp; cases hp
    | cons a l ih =>
      intro p hp
      rcases List.mem_cons.1 hp with rfl | hp
      · exact ⟨0, rfl, rfl⟩
      · obtain ⟨i, h1, h2⟩ := ih (k + 1) p hp
        exact ⟨i + 1, by simpa using h1, by omega⟩
  have hhs : AV.hss (r' :: outs) = [] := by
    have : r'.tree = true := hw.tree ht
    simp [AV.hss, tree_hs this, ho]
  have hwk : WeakL (stL (r :: outs)) (num 0 (r' :: outs)) := by
    intro p hp
    obtain ⟨i, h1, h2⟩ := hmem 0 _ p hp
    have hi : p.1 = i := by omega
    cases i with
    | zero =>
      simp at h1
      right
      rw [hi, ← h1]
      refine ⟨ht, hw, ?_⟩
      intro p' hp' hm
      have : p'.2.hs = [] := by
        have key : ∀ (as : List AV) (a : AV), a ∈ as → AV.hss as = [] → a.hs = [] := by
          intro as
          induction as with
          | nil => intro a h; cases h
          | cons b as ih =>
            intro a h he
            simp only [AV.hss, List.append_eq_nil_iff] at he
            rcases List.mem_cons.1 h with rfl | h
            · exact he.1
            · exact ih a h he.2
        obtain ⟨j, g1, _⟩ := hmem 0 _ p' hp'
        exact key _ _ (List.mem_of_getElem? g1) hhs
      rw [this] at hm; cases hm
    | succ i =>
      left
      rw [hi]
      simp only [stL, List.getD]
      simp at h1
      simp [h1]
  obtain ⟨F2, S2, h2⟩ := h'.weak hwk
  refine ⟨F2, S2, ?_⟩
  rw [stL_num]
  exact h2

section
variable {C : Cx} {l : List (Nat × AV)} {os : List RO} {K : Option (List FP) → St → Prop} {dst : Option Nat}

def okPs (s : St) : List PA → Prop
  | [] => True
  | p :: ps => p.ok s ∧ okPs s ps
theorem okPs_all {s : St} : ∀ {ps : List PA}, okPs s ps → ∀ p ∈ ps, p.ok s
  | p :: ps, h, q, hq => by
    rcases List.mem_cons.1 hq with rfl | hq
    · exact h.1
    · exact okPs_all h.2 q hq
def nshPs : List PA → Bool
  | [] => true
  | p :: ps => p.o.nosh && nshPs ps
theorem nshPs_all : ∀ {ps : List PA}, nshPs ps = true → ∀ p ∈ ps, p.o.nosh = true
  | p :: ps, h, q, hq => by
    simp only [nshPs, Bool.and_eq_true] at h
    rcases List.mem_cons.1 hq with rfl | hq
    · exact h.1
    · exact nshPs_all h.2 q hq

theorem wpOT_callP {f : SX} {args : List SX} {g : FuncId} {caps : List AV} {K : List Nat → AV → St → Prop} (ps : List PA) (r : AV)
    (h1 : ev (stA l) f = .fn g caps) (hcp : AV.plains caps = true) (h2 : ps.map (·.a) = evs (stA l) args ++ caps) (h3 : okPs (stA l) ps) (h4 : apartPA ps = true)
    (h5 : OkAt C g (ps.map (·.d)) r (ps.map (·.o))) (h6 : r.res = true) (h7 : lent ps = false ∨ (r.nosh && nshPs ps) = true) (hK : K (gh ps) r (giveL (takeL (stA l) ps) ps)) : wpOT C (stA l) (.call f args) K := by
  refine ⟨g, caps, ps, r, h1, hcp, by rw [h2, evs_map], okPs_all h3, h4, h5, h6, ?_, hK⟩
  intro hl
  rcases h7 with h7 | h7
  · rw [h7] at hl; cases hl
  · rw [Bool.and_eq_true] at h7; exact ⟨h7.1, nshPs_all h7.2⟩

theorem wpOT_callK {f : SX} {args : List SX} {g : FuncId} {caps : List AV} {K : List Nat → AV → St → Prop} {u x : Nat} (ps : List PA) (r : AV) (hu : stA l u = .h x []) (hx : (stA l x).own = true)
    (h1 : ev (stA l) f = .fn g caps) (hcp : AV.plains caps = true) (h2 : ps.map (·.a) = evs (stA l) args ++ caps) (h3 : okPs (stA l) ps) (h4 : apartPA ps = true)
    (h5 : OkAt C g (ps.map (·.d)) r (ps.map (·.o))) (h6 : r.res = true) (h7 : lent ps = false ∨ (r.nosh && nshPs ps) = true)
    (hK : giveL (takeL (stA l) ps) ps u = .hole ∧ (giveL (takeL (stA l) ps) ps x).own = true ∧ K (u :: gh ps) r (upd (giveL (takeL (stA l) ps) ps) u (.h x []))) : wpOT C (stA l) (.kc f args u x) K := by
  refine ⟨hu, hx, g, caps, ps, r, h1, hcp, by rw [h2, evs_map], okPs_all h3, h4, h5, h6, ?_, hK⟩
  intro hl
  rcases h7 with h7 | h7
  · rw [h7] at hl; cases hl
  · rw [Bool.and_eq_true] at h7; exact ⟨h7.1, nshPs_all h7.2⟩
theorem w_callk0 {f : SX} {args : List SX} {g : FuncId} {caps : List AV} {r : AV} {u x : Nat} (ps : List PA) (h5 : OkAt C g (ps.map (·.d)) r (ps.map (·.o)))
    (h1 : ev (stA l) f = .fn g caps) (hcp : AV.plains caps = true) (h2 : ps.map (·.a) = evs (stA l) args ++ caps) (h3 : okPs (stA l) ps) (h4 : apartPA ps = true)
    (h6 : r.res = true) (h7 : lent ps = false ∨ (r.nosh && nshPs ps) = true) (hu : stA l u = .h x []) (hx : (stA l x).own = true)
    (hK : giveL (takeL (stA l) ps) ps u = .hole ∧ (giveL (takeL (stA l) ps) ps x).own = true ∧ wpT C (fin (upd (giveL (takeL (stA l) ps) ps) u (.h x [])) dst r) os none K) : wpT C (stA l) (⟨dst, .kc f args u x, none⟩ :: os) none K := by
  simp only [wpT, wpRT, pushF]
  exact wpOT_callK ps r hu hx h1 hcp h2 h3 h4 h5 h6 h7 hK
theorem w_callk1 {a : List FP} {f : SX} {args : List SX} {g : FuncId} {caps : List AV} {r : AV} {u x : Nat} (ps : List PA) (h5 : OkAt C g (ps.map (·.d)) r (ps.map (·.o)))
    (h1 : ev (stA l) f = .fn g caps) (hcp : AV.plains caps = true) (h2 : ps.map (·.a) = evs (stA l) args ++ caps) (h3 : okPs (stA l) ps) (h4 : apartPA ps = true)
    (h6 : r.res = true) (h7 : lent ps = false ∨ (r.nosh && nshPs ps) = true) (hu : stA l u = .h x []) (hx : (stA l x).own = true)
    (hK : giveL (takeL (stA l) ps) ps u = .hole ∧ (giveL (takeL (stA l) ps) ps x).own = true ∧ wpT C (fin (upd (giveL (takeL (stA l) ps) ps) u (.h x [])) dst r) os (some (fpO (stA l) (use (stA l) (.kc f args u x)) dst (u :: gh ps) r :: a)) K) : wpT C (stA l) (⟨dst, .kc f args u x, none⟩ :: os) (some a) K := by
  simp only [wpT, wpRT, pushF]
  exact wpOT_callK ps r hu hx h1 hcp h2 h3 h4 h5 h6 h7 hK
theorem w_callp0 {f : SX} {args : List SX} {g : FuncId} {caps : List AV} {r : AV} (ps : List PA) (h5 : OkAt C g (ps.map (·.d)) r (ps.map (·.o)))
    (h1 : ev (stA l) f = .fn g caps) (hcp : AV.plains caps = true) (h2 : ps.map (·.a) = evs (stA l) args ++ caps) (h3 : okPs (stA l) ps) (h4 : apartPA ps = true)
    (h6 : r.res = true) (h7 : lent ps = false ∨ (r.nosh && nshPs ps) = true)
    (hK : wpT C (fin (giveL (takeL (stA l) ps) ps) dst r) os none K) : wpT C (stA l) (⟨dst, .call f args, none⟩ :: os) none K := by
  simp only [wpT, wpRT, pushF]
  exact wpOT_callP ps r h1 hcp h2 h3 h4 h5 h6 h7 hK
theorem w_callp1 {a : List FP} {f : SX} {args : List SX} {g : FuncId} {caps : List AV} {r : AV} (ps : List PA) (h5 : OkAt C g (ps.map (·.d)) r (ps.map (·.o)))
    (h1 : ev (stA l) f = .fn g caps) (hcp : AV.plains caps = true) (h2 : ps.map (·.a) = evs (stA l) args ++ caps) (h3 : okPs (stA l) ps) (h4 : apartPA ps = true)
    (h6 : r.res = true) (h7 : lent ps = false ∨ (r.nosh && nshPs ps) = true)
    (hK : wpT C (fin (giveL (takeL (stA l) ps) ps) dst r) os (some (fpO (stA l) (use (stA l) (.call f args)) dst (gh ps) r :: a)) K) : wpT C (stA l) (⟨dst, .call f args, none⟩ :: os) (some a) K := by
  simp only [wpT, wpRT, pushF]
  exact wpOT_callP ps r h1 hcp h2 h3 h4 h5 h6 h7 hK
theorem w_callpg0 {t : Nat} {b : Bool} {f : SX} {args : List SX} {g : FuncId} {caps : List AV} {r : AV} (ps : List PA) (h5 : OkAt C g (ps.map (·.d)) r (ps.map (·.o)))
    (h1 : ev (stA l) f = .fn g caps) (hcp : AV.plains caps = true) (h2 : ps.map (·.a) = evs (stA l) args ++ caps) (h3 : okPs (stA l) ps) (h4 : apartPA ps = true)
    (h6 : r.res = true) (h7 : lent ps = false ∨ (r.nosh && nshPs ps) = true)
    (hK : wpT C (fin (giveL (takeL (stA l) ps) ps) dst r) os none K) : gdT C l dst (.call f args) t b os none K (.bool b) := by
  simp only [gdT, if_true]
  exact wpOT_callP ps r h1 hcp h2 h3 h4 h5 h6 h7 hK
theorem w_callpg1 {a : List FP} {t : Nat} {b : Bool} {f : SX} {args : List SX} {g : FuncId} {caps : List AV} {r : AV} (ps : List PA) (h5 : OkAt C g (ps.map (·.d)) r (ps.map (·.o)))
    (h1 : ev (stA l) f = .fn g caps) (hcp : AV.plains caps = true) (h2 : ps.map (·.a) = evs (stA l) args ++ caps) (h3 : okPs (stA l) ps) (h4 : apartPA ps = true)
    (h6 : r.res = true) (h7 : lent ps = false ∨ (r.nosh && nshPs ps) = true)
    (hK : wpT C (fin (giveL (takeL (stA l) ps) ps) dst r) os (some (fpO (stA l) (t :: use (stA l) (.call f args)) dst (gh ps) r :: a)) K) : gdT C l dst (.call f args) t b os (some a) K (.bool b) := by
  simp only [gdT, if_true]
  exact wpOT_callP ps r h1 hcp h2 h3 h4 h5 h6 h7 hK

/-- What is known of each argument. -/
theorem okp_s (s : St) : okPs s [] = True ∧ (∀ p ps, okPs s (p :: ps) = (p.ok s ∧ okPs s ps)) ∧ (∀ a d o, PA.ok s ⟨a, false, d, o⟩ = (view s a = some d)) ∧
    (∀ x q d o, PA.ok s ⟨.h x q, true, d, o⟩ = (AV.sub q (s x) = some d ∧ d.own = true ∧ (o = .hole ∨ o.own = true))) := by
  refine ⟨rfl, fun _ _ => rfl, fun _ _ _ => ?_, fun _ _ _ _ => ?_⟩ <;> simp [PA.ok]
theorem own_r : (∀ d, AV.own (.ubox d) = true) ∧ (∀ n xs, AV.own (.uslice n xs) = true) := ⟨fun _ => rfl, fun _ _ => rfl⟩
/-- Taking and giving. -/
theorem gv_s (s : St) : takeL s [] = s ∧ giveL s [] = s ∧ (∀ p ps, takeL s (p :: ps) = takeL (PA.take s p) ps) ∧ (∀ p ps, giveL s (p :: ps) = giveL (PA.give s p) ps) ∧
    (∀ a d o, PA.take s ⟨a, false, d, o⟩ = s) ∧ (∀ a d o, PA.give s ⟨a, false, d, o⟩ = s) ∧ (∀ x q d o, PA.take s ⟨.h x q, true, d, o⟩ = upd (pkS x s) x (AV.put q .hole (s x))) ∧
    (∀ a d, PA.give s ⟨a, true, d, .hole⟩ = s) ∧ (∀ x q d e, PA.give s ⟨.h x q, true, d, .ubox e⟩ = upd (pgS x s) x (AV.put q (.ubox e) (s x))) ∧
    (∀ x q d n xs, PA.give s ⟨.h x q, true, d, .uslice n xs⟩ = upd (pgS x s) x (AV.put q (.uslice n xs) (s x))) := by
  refine ⟨rfl, rfl, fun _ _ => rfl, fun _ _ => rfl, ?_, ?_, ?_, ?_, ?_, ?_⟩ <;> intros <;> simp [PA.take, PA.give]

/-- What is left of the arguments at the end. -/
def outsOk (s : St) (fx rs : List Nat) : Nat → List AV → Bool → Prop
  | _, [], _ => True
  | k, o :: r, b => (o = .hole ∨ (o = s k ∧ o.own = true ∧ fx.contains k = true ∧ rs.contains k = false)) ∧ outsOk s fx rs (k + 1) r b
theorem outs_of {s : St} {fx : List Nat} {rv : List ResultVar} {outs : List AV} (h : outsOk s fx (rv.map rvSlot) 0 outs true) : ∀ (i : Nat) (o : AV), outs[i]? = some o → o = .hole ∨ (o = s i ∧ o.own = true ∧ i ∈ fx ∧ i ∉ rv.map rvSlot) := by
  have key : ∀ (outs : List AV) (k : Nat), outsOk s fx (rv.map rvSlot) k outs true → ∀ (i : Nat) (o : AV), outs[i]? = some o → o = .hole ∨ (o = s (k + i) ∧ o.own = true ∧ k + i ∈ fx ∧ k + i ∉ rv.map rvSlot) := by
    intro outs
    induction outs with
    | nil => intro k _ i o h; simp at h
    | cons a outs ih =>
      intro k h i o ho
      cases i with
      | zero =>
        simp at ho; subst ho
        rcases h.1 with h | ⟨h1, h2, h3, h4⟩
        · exact .inl h
        · exact .inr ⟨h1, h2, by simpa using h3, by simpa using h4⟩
      | succ i =>
        have := ih (k + 1) h.2 i o (by simpa using ho)
        rw [show k + (i + 1) = k + 1 + i by omega]; exact this
  intro i o ho
  have := key outs 0 h i o ho
  simpa using this
theorem out_no {s : St} {fx rs : List Nat} {k : Nat} {l : List AV} (h : outsOk s fx rs (k + 1) l true) : outsOk s fx rs k (.hole :: l) true := ⟨.inl rfl, h⟩
theorem out_is {s : St} {fx rs : List Nat} {k : Nat} {o : AV} {l : List AV} (h1 : o = s k) (h2 : o.own = true) (h3 : fx.contains k = true) (h4 : rs.contains k = false) (h : outsOk s fx rs (k + 1) l true) : outsOk s fx rs k (o :: l) true := ⟨.inr ⟨h1, h2, h3, h4⟩, h⟩
theorem out_end {s : St} {fx rs : List Nat} {k : Nat} : outsOk s fx rs k [] true := trivial

/-- A region behind which the state is made weaker. -/
theorem w_sregW {Q : Exit → St → Prop} {ros : List RO} {k : List Nat} {b : SC} (h : wpT C (stA l) ros none (fun _ s => onW (wpC C b Q) (stA (kpA k s)))) : wpC C (.seq (.reg ros (some k)) b) Q (stA l) := wpRs_of_T (fun _ _ h => h) h
theorem w_sdrwW {Q : Exit → St → Prop} {ros : List RO} {af : List (List Nat)} {k : List Nat} {b : SC} (hlen : af.length = ros.length) (h : wpT C (stA l) ros (some []) (fun acc s => okP (clos af) 0 [] (acc.getD []).reverse = true ∧ onW (wpC C b Q) (stA (kpA k s)))) :
    wpC C (.seq (.drw ros af (some k)) b) Q (stA l) := drw_of_T (K := fun s => onW (wpC C b Q) (stA (kpA k s))) hlen h
theorem w_onW {K : St → Prop} {s : St} (l' : List (Nat × AV)) (h : WeakL s l') (hk : K (stA l')) : onW K s := .inr ⟨l', h, hk⟩

theorem wd_sh {d e : AV} (ht : d.tree = true) (hn : d.isTup = false) (h : d.share = e) : Wd d e := by
  subst h
  exact .share d ht (fun vs e => by subst e; cases hn)

/-- A value that may be nil. -/
def optP {α : Type} (f : α → AV) : Option α → AV
  | none => .nilp
  | some x => f x
def optN {α : Type} (f : α → AV) : Option α → AV
  | none => .nils
  | some x => f x
theorem optC_none {α β : Type} (a : β) (f : α → β) : Option.elim none a f = a := rfl
theorem optE {α β : Type} {o : Option α} {a : Option β} {f : α → Option β} {r : β} (h : Option.elim o a f = some r) : (o = none ∧ a = some r) ∨ ∃ y, o = some y ∧ f y = some r := by
  cases o with
  | none => exact .inl ⟨rfl, h⟩
  | some y => exact .inr ⟨y, rfl, h⟩

/-- Is a slice nil? -/
theorem nilE_s : (∀ neg e r, nilE neg (.slice e) (some r) = some (nilAV neg r)) ∧ (∀ neg, nilAV neg none = .anyb) ∧ nilAV false (some false) = .bool false ∧ nilAV true (some false) = .bool true ∧ nilAV false (some true) = .bool true ∧ nilAV true (some true) = .bool false ∧ (∀ s, nilS s .nils = some (some true)) :=
  ⟨fun _ _ _ => rfl, fun _ => rfl, rfl, rfl, rfl, rfl, fun _ => rfl⟩
theorem nilS_t {α : Type} {xs : List α} (h : xs.isEmpty = true) (e : α → AV) (s : St) : nilS s (.slice (xs.map e)) = some none := by
  have : xs = [] := List.isEmpty_iff.1 h
  subst this; rfl
theorem nilS_f {α : Type} {xs : List α} (h : xs.isEmpty = false) (e : α → AV) (s : St) : nilS s (.slice (xs.map e)) = some (some false) := by
  cases xs with
  | nil => cases h
  | cons x xs => rfl
def nilSU : Option AV → Option (Option Bool)
  | some (.uslice _ xs) => some (if xs = [] then none else some false)
  | _ => none
theorem nilS_h (s : St) (x : Nat) (q : List Nat) : nilS s (.h x q) = nilSU (AV.sub q (s x)) := by
  simp only [nilS]; rfl
theorem nilU_t {α : Type} {xs : List α} (h : xs.isEmpty = true) (e : α → AV) (n : Nat) : nilSU (some (.uslice n (xs.map e))) = some none := by
  have : xs = [] := List.isEmpty_iff.1 h
  subst this; rfl
theorem nilU_f {α : Type} {xs : List α} (h : xs.isEmpty = false) (e : α → AV) (n : Nat) : nilSU (some (.uslice n (xs.map e))) = some (some false) := by
  cases xs with
  | nil => cases h
  | cons x xs => rfl

/-- A nil slice handed in where any slice may be. -/
theorem OkAt.nil {C : Cx} {f : FuncId} {args : List AV} {r : AV} {outs : List AV} (i : Nat) (h : OkAt C f (args.set i (.slice [])) r outs) (hi : args[i]? = some .nils) : OkAt C f args r outs := by
  intro w F X S vs hl hr
  have hsv := hr.sv i
  have hs : stL args i = .nils := by simp [stL, List.getD, hi]
  rw [hs] at hsv
  have hv : SV w F (stL args) (tmL vs) (.slice []) (tmL vs i) (fun _ => False) := by
    rw [SV.of_tree rfl] at hsv ⊢
    refine ⟨hsv.1, ?_⟩
    have h2 := hsv.2
    simp only [RV] at h2 ⊢
    exact .inl ⟨trivial, none, 0, h2, Nat.zero_le _, fun _ => rfl⟩
  have h2 := hr.setP (t := i) rfl hv
  have e1 : upd (stL args) i (.slice []) = stL (args.set i (.slice [])) := by
    funext t
    have hlt : i < args.length := (List.getElem?_eq_some_iff.1 hi).1
    by_cases ht : t = i
    · subst ht; simp [upd, stL, List.getD, hlt]
    · have : i ≠ t := fun e => ht e.symm
      simp [upd, ht, stL, List.getD, this]
  have e2 : upd (tmL vs) i (tmL vs i) = tmL vs := by
    funext t
    by_cases ht : t = i
    · subst ht; simp [upd]
    · simp [upd, ht]
  rw [e1, e2] at h2
  exact h w F X _ vs (by simpa using hl) h2

/-! Results shared at once. -/
def shrV : Option (AV × St) → Option (AV × St)
  | some (av, s) => if (av.tree && !av.isTup) = true then some (av.share, s) else none
  | none => none
theorem shrV_s (s : St) : (∀ n xs, shrV (some (.uslice n xs, s)) = some (.slice (AV.shares xs), s)) ∧ (∀ d, shrV (some (.ubox d, s)) = some (.ref d.share, s)) ∧ (∀ ds, shrV (some (.agg ds, s)) = some (.agg (AV.shares ds), s)) :=
  ⟨fun _ _ => rfl, fun _ => rfl, fun _ => rfl⟩
theorem wpOT_shr {s : St} {so : SO} {K : List Nat → AV → St → Prop} : wpOT C s (.shr so) K = (match shrV (eff C s so) with
    | some (av, s1) => K (tks s so) av s1
    | none => False) := by
  apply propext
  cases he : eff C s so with
  | none =>
    simp only [shrV]
    exact ⟨fun ⟨av, s1, h1, _⟩ => (by rw [he] at h1; cases h1), fun h => h.elim⟩
  | some p =>
    obtain ⟨av, s1⟩ := p
    simp only [shrV]
    by_cases ht : (av.tree && !av.isTup) = true
    · rw [if_pos ht]
      simp only [Bool.and_eq_true, Bool.not_eq_true'] at ht
      constructor
      · rintro ⟨av', s1', h1, h2, h3, h4⟩
        rw [he] at h1
        simp only [Option.some.injEq, Prod.mk.injEq] at h1
        obtain ⟨rfl, rfl⟩ := h1
        exact h4
      · intro h
        exact ⟨av, s1, he, ht.1, fun vs e => by subst e; simp [AV.isTup] at ht, h⟩
    · rw [if_neg ht]
      constructor
      · rintro ⟨av', s1', h1, h2, h3, h4⟩
        rw [he] at h1
        simp only [Option.some.injEq, Prod.mk.injEq] at h1
        obtain ⟨rfl, rfl⟩ := h1
        refine ht ?_
        rw [h2]
        cases av <;> first | rfl | exact (h3 _ rfl).elim
      · intro h; exact h.elim
theorem st_shr {a : List FP} (so : SO) : (wpT C (stA l) (⟨dst, .shr so, none⟩ :: os) none K = go0 C dst os K (shrV (eff C (stA l) so))) ∧
    (wpT C (stA l) (⟨dst, .shr so, none⟩ :: os) (some a) K = go1 C l (use (stA l) so) (tks (stA l) so) dst os a K (shrV (eff C (stA l) so))) ∧
    (∀ t b, gdT C l dst (.shr so) t b os none K (.bool b) = go0 C dst os K (shrV (eff C (stA l) so))) ∧
    (∀ t b, gdT C l dst (.shr so) t b os (some a) K (.bool b) = go1 C l (t :: use (stA l) so) (tks (stA l) so) dst os a K (shrV (eff C (stA l) so))) := by
  refine ⟨?_, ?_, fun t b => ?_, fun t b => ?_⟩
  · simp only [wpT, wpRT, wpOT_shr]
    cases shrV (eff C (stA l) so) with
    | none => rfl
    | some p => rfl
  · simp only [wpT, wpRT, wpOT_shr]
    cases shrV (eff C (stA l) so) with
    | none => rfl
    | some p => rfl
  · simp only [gdT, if_true, wpOT_shr]
    cases shrV (eff C (stA l) so) with
    | none => rfl
    | some p => rfl
  · simp only [gdT, if_true, wpOT_shr]
    cases shrV (eff C (stA l) so) with
    | none => rfl
    | some p => rfl
theorem wds_map {α : Type} {u e : α → AV} (h : ∀ x, Wd (u x) (e x)) : ∀ xs : List α, Wds (xs.map u) (xs.map e)
  | [] => .nil
  | x :: xs => .cons (h x) (wds_map h xs)

def slN (C : Cx) (s : St) : TK → Option (AV × St)
  | .slice e => if (C.T e).ok = true then some (.nils, s) else none
  | _ => none
/-- The beginning of an owned row. -/
def slH (C : Cx) (s : St) (y : Nat) (q : List Nat) (b : Int) : TK → Option AV → Option (AV × St)
  | .slice e, some (.uslice sz xs) => (match subL xs 0 b with
    | some t => if (C.T e).ok = true then (match tk s (.h y q) with | some (_, s1) => some (.uslice sz t, s1) | none => none) else none
    | none => none)
  | _, _ => none
theorem slc_h (C : Cx) (s : St) (T : TypeId) (y : Nat) (q : List Nat) : (∀ k b, slc C s T (.h y q) none (some (.int k b)) = slH C s y q b (C.T T).k (AV.sub q (s y))) ∧
    (∀ k b k', slc C s T (.h y q) (some (.int k' 0)) (some (.int k b)) = slH C s y q b (C.T T).k (AV.sub q (s y))) ∧
    (∀ e sz xs b t, subL xs 0 b = some t → slH C s y q b (.slice e) (some (.uslice sz xs)) = if (C.T e).ok = true then (match tk s (.h y q) with | some (_, s1) => some (.uslice sz t, s1) | none => none) else none) := by
  have key : ∀ (lo : Option AV) (k : IntKind) (b : Int), bd 0 lo = some 0 → slc C s T (.h y q) lo (some (.int k b)) = slH C s y q b (C.T T).k (AV.sub q (s y)) := by
    intro lo k b h0
    simp only [slc]
    generalize (C.T T).k = kk
    cases kk <;> first | rfl | skip
    rename_i e
    cases hs : AV.sub q (s y) with
    | none => simp only [hs]; rfl
    | some d =>
      cases d with
      | uslice sz xs =>
        have hb1 : bd xs.length (some (.int k b)) = if 0 ≤ b then some b.toNat else none := rfl
        simp only [hs, h0, hb1, slH, subL]
        by_cases hb : 0 ≤ b
        · by_cases hc : b ≤ xs.length
          · have h1 : b.toNat ≤ xs.length := by omega
            simp only [hb, hc, h1, if_true, true_and, Int.le_refl, and_self, Int.toNat_zero, List.drop_zero]
            rfl
          · have h1 : ¬ b.toNat ≤ xs.length := by omega
            simp only [hb, hc, h1, if_true, if_false, and_false, false_and, Int.le_refl]
        · simp only [hb, if_false, false_and, and_false]
      | _ => simp only [hs]; rfl
  refine ⟨fun k b => key _ _ _ rfl, fun k b k' => key _ _ _ (by simp [bd]), fun e sz xs b t h => ?_⟩
  simp only [slH, h]
theorem cap_s (C : Cx) (s : St) (T e : TypeId) (x : SX) (hk : (C.T T).k = .slice e) (hx : ev s x = .nils) : eff C s (.cap T x) = some (.int .i64 0, s) := by
  simp only [eff, hk, hx]
theorem st_cap {a : List FP} (T : TypeId) (x : SX) : (wpT C (stA l) (⟨dst, .cap T x, none⟩ :: os) none K = go0 C dst os K (eff C (stA l) (.cap T x))) ∧
    (wpT C (stA l) (⟨dst, .cap T x, none⟩ :: os) (some a) K = go1 C l (use (stA l) (.cap T x)) (tks (stA l) (.cap T x)) dst os a K (eff C (stA l) (.cap T x))) :=
  ⟨wpT_0 rfl, wpT_1 rfl⟩

theorem slc_n (C : Cx) (s : St) (T : TypeId) : slc C s T .nils none none = slN C s (C.T T).k ∧ (∀ k, slc C s T .nils none (some (.int k 0)) = slN C s (C.T T).k) ∧ (∀ k, slc C s T .nils (some (.int k 0)) none = slN C s (C.T T).k) ∧
    (∀ k k', slc C s T .nils (some (.int k 0)) (some (.int k' 0)) = slN C s (C.T T).k) ∧ (∀ e, slN C s (.slice e) = if (C.T e).ok = true then some (.nils, s) else none) := by
  refine ⟨?_, fun k => ?_, fun k => ?_, fun k k' => ?_, fun _ => rfl⟩ <;> (simp only [slc]; generalize (C.T T).k = kk; cases kk <;> rfl)

theorem st_apz {a : List FP} (T U : TypeId) (x y : SX) : (wpT C (stA l) (⟨dst, .apz T U x y, none⟩ :: os) none K = go0 C dst os K (keepS (stA l) (apz C T U (ev (stA l) x) (ev (stA l) y)))) ∧
    (wpT C (stA l) (⟨dst, .apz T U x y, none⟩ :: os) (some a) K = go1 C l (use (stA l) (.apz T U x y)) (tks (stA l) (.apz T U x y)) dst os a K (keepS (stA l) (apz C T U (ev (stA l) x) (ev (stA l) y)))) := by
  have e : eff C (stA l) (.apz T U x y) = keepS (stA l) (apz C T U (ev (stA l) x) (ev (stA l) y)) := by simp only [eff, keepS_map]
  exact ⟨(wpT_0 rfl).trans (by rw [e]), (wpT_1 rfl).trans (by rw [e])⟩

theorem get_set {α : Type} {l : List α} {i : Nat} {x : α} (h : l[i]? = some x) (u : α → AV) (a : AV) : ((l.map u).set i a)[i]? = some a := by
  have : i < l.length := (List.getElem?_eq_some_iff.1 h).1
  rw [List.getElem?_set_self (by simpa using this)]
theorem set_mset {α : Type} (l : List α) (u : α → AV) (i : Nat) (a b : AV) : ((l.map u).set i a).set i b = (l.map u).set i b := List.set_set ..
theorem subL_zero {α : Type} (xs : List α) : subL xs 0 0 = some [] := by unfold subL; rw [if_pos ⟨Int.le_refl _, by omega⟩]; rfl

end
end Go.Fw
