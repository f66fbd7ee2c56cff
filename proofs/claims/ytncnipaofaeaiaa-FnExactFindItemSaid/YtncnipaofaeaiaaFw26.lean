/- Part of a proof that a law returns true for every input. No condition. -/
import Derived.Test.YtncnipaofaeaiaaFw25
namespace Go.Fw

def rvSlot : ResultVar → Nat
  | .tmp t => t
  | .cell a _ => a

/-- What a result variable answers. -/
def resAV (C : Cx) (s : St) : ResultVar → Option AV
  | .tmp t => if (s t).tree = true then (match s t with | .tuple _ => none | d => some d) else none
  | .cell a T => match s a with
    | .ubox d => if fits C T d = true ∧ d.tree = true then some d else none
    | _ => none

/-- How a body ends. -/
def Ends (C : Cx) (fx : List Nat) (rv : List ResultVar) (r : AV) (outs : List AV) (s : St) : Prop :=
  ∃ ds, rv.map (resAV C s) = ds.map some ∧ r = (match ds with | [d] => d | ds => .tuple ds) ∧ (rv.map rvSlot).Nodup ∧
    ∀ (i : Nat) (o : AV), outs[i]? = some o → o = .hole ∨ (o = s i ∧ o.own = true ∧ i ∈ fx ∧ i ∉ rv.map rvSlot)

section
variable {C : Cx} {w0 w : World} {F0 X F : Nat → Prop} {S : Nat → Nat → Prop} {s : St} {tmps : Array Value}

theorem vc_vc1 {d : AV} {x : Value} (hd : ∀ vs, d ≠ .tuple vs) (h : shp d x) : vc x = vc1 x ∧ shp1 d x := by
  have : shp1 d x := by cases d <;> first | exact h | exact (hd _ rfl).elim
  refine ⟨?_, this⟩
  cases d <;> first
    | (obtain ⟨a, rfl⟩ := this; rfl)
    | (simp only [shp1] at this
       rw [vc_one this]
       cases x <;> first | rfl | (simp [Value.isOne] at this))

def readRV (tmps : Array Value) : ResultVar → Sem Value
  | .tmp t => pure (tmps.getD t undef)
  | .cell a t => do loadVar t (← asAddr (tmps.getD a undef))

theorem res_one (hC : C.Ok) (h : RelX w0 F0 X F S s (fun t => tmps.getD t undef) w) {v : ResultVar} {d : AV} (hv : resAV C s v = some d) :
    ∃ x, (readRV tmps v).run C.P w = .ok x w ∧ d.tree = true ∧ (∀ vs, d ≠ .tuple vs) ∧ shp d x ∧ RV w F d (vc x) (S (rvSlot v)) := by
  cases v with
  | tmp t =>
    simp only [resAV] at hv
    split at hv
    · rename_i ht
      have hnt : (∀ vs, s t ≠ .tuple vs) ∧ d = s t := by
        cases hs : s t <;> rw [hs] at hv <;> simp only at hv <;> first
          | (cases hv; done)
          | (simp only [Option.some.injEq] at hv; exact ⟨(fun _ h => by cases h), hv.symm⟩)
      obtain ⟨hnt, rfl⟩ := hnt
      obtain ⟨g1, g2⟩ := (SV.of_tree ht).1 (h.sv t)
      exact ⟨_, by simp [readRV], ht, hnt, g1, g2⟩
    · cases hv
  | cell a T =>
    simp only [resAV] at hv
    split at hv
    · rename_i e hs
      split at hv
      · rename_i hfit'
        obtain ⟨hfit, htr⟩ := hfit'
        simp only [Option.some.injEq] at hv; subst hv
        have hsv := h.sv a
        rw [hs] at hsv
        obtain ⟨g1, g2⟩ := (SV.of_tree (d := .ubox e) rfl).1 hsv
        rw [vc_one g1, RV] at g2
        obtain ⟨b, cur, ty, fr, S', k1, k2, k3, k4, k5, k6, k7⟩ := g2
        simp only [List.cons.injEq, and_true] at k1
        have hrd : Rd w b 0 cur.toList := by
          have := rd_of_row k3 cur.size
          rwa [List.take_of_length_le (by simp)] at this
        obtain ⟨x, r1, r2, r3⟩ := run_load_any (C := C) hC hrd k5 hfit
        refine ⟨x, ?_, htr, ?_, r3, ?_⟩
        · simp only [readRV]
          rw [k1]
          simpa [asAddr] using r1
        · intro vs e'; subst e'
          unfold fits at hfit
          split at hfit <;> simp_all
        · rw [r2]; exact RV.mono (fun _ h => h) _ _ _ _ k6 k5
      · cases hv
    · cases hv

theorem res_all (hC : C.Ok) (h : RelX w0 F0 X F S s (fun t => tmps.getD t undef) w) : ∀ (rv : List ResultVar) (ds : List AV), rv.map (resAV C s) = ds.map some → (rv.map rvSlot).Nodup →
    ∃ xs, (rv.mapM (readRV tmps)).run C.P w = .ok xs w ∧ xs.length = ds.length ∧ RVs w F ds (xs.flatMap vc1) (fun b => ∃ t ∈ rv.map rvSlot, S t b) ∧
      ∀ (k : Nat) (d : AV) (x : Value), ds[k]? = some d → xs[k]? = some x → shp d x ∧ (∀ vs, d ≠ .tuple vs) ∧ (vc1 x).length = d.wd ∧ vc x = vc1 x ∧ d.tree = true := by
  intro rv
  induction rv with
  | nil =>
    intro ds he _
    have : ds = [] := by simpa using he.symm
    subst this
    exact ⟨[], by simp, rfl, by simp only [List.flatMap_nil]; rw [RVs], fun k d x hd => by simp at hd⟩
  | cons v rv ih =>
    intro ds he hnd
    cases ds with
    | nil => simp at he
    | cons d ds =>
      simp only [List.map_cons, List.cons.injEq] at he
      simp only [List.map_cons, List.nodup_cons] at hnd
      obtain ⟨x, r1, rt, r2, r3, r4⟩ := res_one hC h he.1
      obtain ⟨xs, q1, q2, q3, q4⟩ := ih ds he.2 hnd.2
      obtain ⟨e1, e2⟩ := vc_vc1 r2 r3
      refine ⟨x :: xs, by simp [List.mapM_cons, r1, q1], by simp [q2], ?_, ?_⟩
      · simp only [List.flatMap_cons]
        rw [RVs]
        rw [e1] at r4
        refine ⟨vc1 x, xs.flatMap vc1, S (rvSlot v), fun b => ∃ t ∈ rv.map rvSlot, S t b, rfl, r4, q3, fun b hb => ⟨rvSlot v, by simp, hb⟩, ?_, ?_⟩
        · rintro b ⟨t, ht, hb⟩; exact ⟨t, by simp [ht], hb⟩
        · rintro b hb ⟨t, ht, hb'⟩
          have : t ≠ rvSlot v := fun e => hnd.1 (e ▸ ht)
          exact h.SS t (rvSlot v) b this hb' hb
      · intro k d' x' hd hx
        cases k with
        | zero =>
          simp at hd hx; subst hd hx
          refine ⟨r3, r2, ?_, e1, rt⟩
          rw [← e1]; exact RV.length _ _ _ r4
        | succ k => exact q4 k d' x' (by simpa using hd) (by simpa using hx)

theorem OkAt.of_wp (hC : C.Ok) {f : FuncId} {fn : Func} {c : Code} {sc : SC} {fx : List Nat} {as outs : List AV} {r : AV} (hf : C.P.funcs[f]? = some fn) (hb : fn.body = some c)
    (hname : (fn.name == "runtime.NumGoroutine") = false) (hs : slimC ⟨fn.ntmps, fx⟩ c = some sc.strip) (hn : as.length ≤ fn.ntmps)
    (h : wpC C sc (fun e s => (e = .normal ∨ e = .ret) ∧ onW (Ends C fx fn.results.toList r outs) s) (stL as)) : OkAt C f as r outs := by
  intro w F X S vs hl hr
  have hargs : (vs.toArray ++ Array.replicate (fn.ntmps - vs.toArray.size) undef).size = fn.ntmps := by simp; omega
  have htm : (fun t => (vs.toArray ++ Array.replicate (fn.ntmps - vs.toArray.size) undef).getD t undef) = tmL vs := by
    funext t
    simp only [tmL, Array.getD_eq_getD_getElem?, List.getD_eq_getElem?_getD]
    by_cases ht : t < vs.length
    · rw [Array.getElem?_append_left (by simpa using ht)]; simp
    · rw [Array.getElem?_append_right (by simpa using ht)]
      rw [List.getElem?_eq_none (by omega)]
      simp only [Array.getElem?_replicate]
      split <;> rfl
  have hrel : Rel w F X ⟨fn.ntmps, fx⟩ (tmL vs) (stL as) { tmps := vs.toArray ++ Array.replicate (fn.ntmps - vs.toArray.size) undef, defers := [] } w :=
    ⟨rfl, hargs, fun i _ => congrFun htm i, F, S, by rw [htm]; exact hr⟩
  have hname' : fn.name ≠ "runtime.NumGoroutine" := by simpa using hname
  refine .inl ⟨by simp [callFunc, hf, hname', hb], calls_of_wp hf hb (wp_mono (wpC_sound hC c hs (wpC_strip sc h) hrel) ?_)⟩
  rintro e a' w' ⟨s', ⟨he, hends⟩, hrel'⟩
  obtain ⟨s', ⟨ds, hds, hre, hnd, hout⟩, hd, hsz, hfx, F', S', hr'⟩ := hrel'.onW hends
  obtain ⟨xs, q1, q2, q3, q4⟩ := res_all hC hr' _ ds hds hnd
  have hread : (results fn a'.tmps) = (do let vs ← fn.results.mapM (readRV a'.tmps); pure (if h : vs.size = 1 then vs[0] else .tuple vs)) := by
    unfold results
    congr 1
  have hrun : (results fn a'.tmps).run C.P w' = .ok (if h : xs.toArray.size = 1 then xs.toArray[0] else .tuple xs.toArray) w' := by
    rw [hread, Array.mapM_eq_mapM_toList]
    simp [q1]
  -- the value answered
  have hval : (r.tree = true ∧ shp r (if h : xs.toArray.size = 1 then xs.toArray[0] else .tuple xs.toArray) ∧
      RV w' F' r (vc (if h : xs.toArray.size = 1 then xs.toArray[0] else .tuple xs.toArray)) (fun b => ∃ t ∈ fn.results.toList.map rvSlot, S' t b)) := by
    by_cases h1 : ∃ d, ds = [d]
    · obtain ⟨d, rfl⟩ := h1
      obtain ⟨x, rfl⟩ : ∃ x, xs = [x] := by
        cases xs with
        | nil => simp at q2
        | cons x xs => cases xs with
          | nil => exact ⟨x, rfl⟩
          | cons y ys => simp at q2
      obtain ⟨k1, k2, k3, k4, k5⟩ := q4 0 d x rfl rfl
      have hre' : d = r := hre.symm
      subst hre'
      simp only [List.flatMap_cons, List.flatMap_nil, List.append_nil] at q3
      rw [RVs] at q3
      obtain ⟨c1, c2, S1, S2, e1, e2, e3, e4, e5, e6⟩ := q3
      rw [RVs] at e3; subst e3
      simp only [List.append_nil] at e1; subst e1
      have hx : (if h : ([x] : List Value).toArray.size = 1 then ([x] : List Value).toArray[0] else .tuple ([x] : List Value).toArray) = x := by simp
      rw [hx, k4]
      exact ⟨k5, k1, RV.mono (fun _ h => h) _ _ _ _ e4 e2⟩
    · have hr2 : r = .tuple ds := by
        rw [hre]
        cases ds with
        | nil => rfl
        | cons d ds => cases ds with
          | nil => exact (h1 ⟨d, rfl⟩).elim
          | cons e ds => rfl
      have hx : (if h : xs.toArray.size = 1 then xs.toArray[0] else Value.tuple xs.toArray) = .tuple xs.toArray := by
        rw [dif_neg]
        intro hsz
        have : ds.length = 1 := by rw [← q2]; simpa using hsz
        obtain ⟨d, hd⟩ := List.length_eq_one_iff.1 this
        exact h1 ⟨d, hd⟩
      rw [hx, hr2]
      refine ⟨rfl, ⟨xs.toArray, rfl, by simpa using q2, fun k d x hd hx => ?_⟩, ?_⟩
      · obtain ⟨k1, k2, k3, k4, _⟩ := q4 k d x hd (by simpa using hx)
        exact ⟨(vc_vc1 k2 k1).2, k2, k3⟩
      · rw [RV]
        simpa [vc] using q3
  have post : ∀ (v : Value), (r.tree = true ∧ shp r v ∧ RV w' F' r (vc v) (fun b => ∃ t ∈ fn.results.toList.map rvSlot, S' t b)) → ∃ F1 S1, RelX w F X F1 S1 (stL (r :: outs)) (tmL (v :: vs)) w' := by
    rintro v ⟨v1, v2, v3⟩
    have outAt : ∀ i, (outs.getD i .hole).own = true → outs.getD i .hole = s' i ∧ i ∈ fx ∧ i ∉ fn.results.toList.map rvSlot := by
      intro i hi
      cases ho : outs[i]? with
      | none => simp [List.getD, ho, AV.own] at hi
      | some o =>
        have e : outs.getD i .hole = o := by simp [List.getD, ho]
        rw [e] at hi ⊢
        rcases hout i o ho with h | h
        · subst h; simp [AV.own] at hi
        · exact ⟨h.1, h.2.2⟩
    refine ⟨F', fun t b => match t with | 0 => ∃ t ∈ fn.results.toList.map rvSlot, S' t b | i + 1 => (outs.getD i .hole).own = true ∧ S' i b, hr'.F0F, hr'.FF0, hr'.Flt, ?_, ?_, ?_, ?_, ?_, hr'.old, hr'.size, hr'.os, hr'.tape, hr'.output⟩
    · intro t b hb
      cases t with
      | zero => obtain ⟨t, _, hb⟩ := hb; exact hr'.Slt t b hb
      | succ i => exact hr'.Slt i b hb.2
    · intro t b hb
      cases t with
      | zero => obtain ⟨t, _, hb⟩ := hb; exact hr'.SF t b hb
      | succ i => exact hr'.SF i b hb.2
    · intro t u b hne hb hu
      cases t with
      | zero =>
        obtain ⟨t, ht, hb⟩ := hb
        cases u with
        | zero => exact hne rfl
        | succ j =>
          refine hr'.SS t j b (fun e => ?_) hb hu.2
          subst e; exact (outAt t hu.1).2.2 ht
      | succ i =>
        cases u with
        | zero =>
          obtain ⟨t, ht, hu⟩ := hu
          refine hr'.SS t i b (fun e => ?_) hu hb.2
          subst e; exact (outAt t hb.1).2.2 ht
        | succ j => exact hr'.SS i j b (by omega) hb.2 hu.2
    · intro t b hb
      cases t with
      | zero => obtain ⟨t, _, hb⟩ := hb; exact hr'.S0 t b hb
      | succ i => exact hr'.S0 i b hb.2
    · intro t
      cases t with
      | zero => exact (SV.of_tree v1).2 ⟨v2, v3⟩
      | succ i =>
        show SV w' F' (stL (r :: outs)) (tmL (v :: vs)) (outs.getD i .hole) (vs.getD i undef) (fun b => (outs.getD i .hole).own = true ∧ S' i b)
        cases hi : (outs.getD i .hole).own with
        | false =>
          have : outs.getD i .hole = .hole := by
            cases ho : outs[i]? with
            | none => simp [List.getD, ho]
            | some o =>
              have e : outs.getD i .hole = o := by simp [List.getD, ho]
              rw [e] at hi ⊢
              rcases hout i o ho with h | h
              · exact h
              · rw [h.2.1] at hi; cases hi
          rw [this, SV]; trivial
        | true =>
          obtain ⟨o1, o2, o3⟩ := outAt i hi
          have ht := (own_spec hi).2.1
          have hsv := hr'.sv i
          rw [← o1] at hsv
          obtain ⟨g1, g2⟩ := (SV.of_tree ht).1 hsv
          have hv : a'.tmps.getD i undef = vs.getD i undef := hfx i o2
          rw [hv] at g1 g2
          exact (SV.of_tree ht).2 ⟨g1, RV.mono (fun _ h => h) _ _ _ _ (fun b hb => ⟨rfl, hb⟩) g2⟩
  rcases he with rfl | rfl
  · exact ⟨hd, _, hrun, _, rfl, post _ hval⟩
  · exact ⟨hd, _, hrun, _, rfl, post _ hval⟩

end
end Go.Fw
