/- Part of a proof that a law returns true for every input. No condition. -/
import Derived.Test.YtocllehpepigpaaGreatFwE
import Derived.Orders
import Derived.KernelRfl
import Derived.Test.YtocllehpepigpaaGreatFwA
namespace Go.dg
section
variable {C : cE} {w0 w : World} {F0 X : Nat → Prop} {n : Fr} {ρ : Nat → Value} {s s1 : ar} {a : Act} {av : I} {Q : Exit → Act → World → Prop}
def cm.un (o : cm) : cm := ⟨o.dst, o.b1.base, o.guard⟩
theorem xH {ops : Array Oper} : ∀ {os : List Oper} {rs : List cm}, pS n ops os = some rs → os.length = rs.length ∧ ∀ (i : Nat) (o : Oper), os[i]? = some o → ∃ r, rs[i]? = some r ∧ pR n ops o = some r := by
 intro os
 induction os with
 | nil => intro rs h; simp only [pS, Option.some.injEq] at h; subst h; exact ⟨rfl, fun i o h => by simp at h⟩
 | cons o os ih =>
   intro rs h
   simp only [pS] at h
   split at h
   ·rename_i r aBn ae ah
    simp only [Option.some.injEq] at h; subst h
    obtain ⟨ca, cy⟩ := ih ah
    refine ⟨by simp [ca], fun i mN b_ => ?_⟩
    cases i with
    | zero => simp at b_; subst b_; exact ⟨r, rfl, ae⟩
    | succ i => simpa using cy i mN (by simpa using b_)
   ·cases h
theorem AE {o : Oper} {y : Nat → Option Bool} (h : o.guard = none) : Region.wanted o y = true := by simp [Region.wanted, h]
theorem S3 (h : Rel w0 F0 X n ρ s a w) {ops : Array Oper} {j t : Nat} (cH : (ops[j]?).bind (·.dst) = some t) :
  (∀ b, s t = .bool b → yielded ops a.tmps j = some b) ∧ (s t = .tuple [] → yielded ops a.tmps j = none) := by
 obtain ⟨aj, af, bF, F, S, aZ⟩ := h
 have jE := aZ.eg t
 refine ⟨fun b ad => ?_, fun ad => ?_⟩
 ·rw [ad] at jE
  have aQ := sr jE
  simp only [yielded, cH, Option.bind_some]
  rw [Array.getD_eq_getD_getElem?] at aQ
  cases cb : a.tmps[t]? with
  | none => rw [cb] at aQ; simp [undef] at aQ
  | some v => rw [cb] at aQ; simp at aQ; subst aQ; rfl
 ·rw [ad] at jE
  obtain ⟨⟨arr, ae, ah⟩, _⟩ := (aM.c0 (d := .tuple []) rfl).1 jE
  simp only [yielded, cH, Option.bind_some]
  rw [Array.getD_eq_getD_getElem?] at ae
  cases cb : a.tmps[t]? with
  | none => rfl
  | some v => rw [cb] at ae; simp at ae; subst ae; rfl
theorem Fu (bz : C.Ok) {ops : Array Oper} {ros : List cm} {l2 : List Nat} {K : ar → Prop} (a_ : ∀ aB da aO, K aB → Rel w0 F0 X n ρ aB da aO → wpOps C.P ops Q l2 da aO) :
  ∀ (l : List Nat), (∀ i ∈ l, (ops[i]? = none → ros[i]? = none) ∧ ∀ o, ops[i]? = some o → ∃ r, ros[i]? = some r ∧ pR n ops o = some r.un) →
  ∀ (s : ar) (a : Act) (w : World), kg C ros s l K → Rel w0 F0 X n ρ s a w → wpOps C.P ops Q (l ++ l2) a w := by
 intro l
 induction l with
 | nil => intro _ s a w h aZ; exact a_ s a w h aZ
 | cons i l ih =>
   intro pT s a w h aZ
   replace ih := ih fun i au => pT i (List.mem_cons_of_mem _ au)
   rw [List.cons_append]
   simp only [wpOps]
   cases b_ : ops[i]? with
   | none =>
     simp only [kg, (pT i (by simp)).1 b_] at h
     exact ih s a w h aZ
   | some o =>
     obtain ⟨r, ae, ah⟩ := (pT i (by simp)).2 o b_
     simp only [kg, ae] at h
     show (if Region.wanted o (yielded ops a.tmps) = true then o.wp C.P a w (wpOps C.P ops Q (l ++ l2)) Q ∨ (o.asks C.P a w ∧ LetsOut Q) else wpOps C.P ops Q (l ++ l2) (a.put o.dst undef) w)
     simp only [pR] at ah
     split at ah
     ·rename_i AF
      split at ah
      ·rename_i g cb
       obtain ⟨rd, b1, rg⟩ := r
       simp only [cm.un, Option.some.injEq, cm.mk.injEq] at ah
       obtain ⟨rfl, c6, rfl⟩ := ah
       simp only [l6] at h
       have run : ∀ (dS : ar → Prop), (∀ aB, dS aB → kg C ros aB l K) → n7 C s b1 (fun av s1 => dS (fin s1 o.dst av)) → o.wp C.P a w (wpOps C.P ops Q (l ++ l2)) Q :=
        fun dS jN hw => S0 bz aZ c6 AF hw (fun aB da aO aA e8 => ih aB da aO (jN aB aA) e8)
       cases uY : o.guard with
       | none =>
         rw [uY] at cb
         simp only [xB, Option.some.injEq] at cb; subst cb
         simp only at h
         rw [if_pos (AE uY)]
         exact .inl (run _ (fun _ h => h) h)
       | some Fv =>
         obtain ⟨j, b⟩ := Fv
         rw [uY] at cb
         simp only [xB] at cb
         split at cb
         ·rename_i t bo
          simp only [Option.some.injEq] at cb; subst cb
          simp only at h
          obtain ⟨e4, fT⟩ := S3 aZ bo
          have J8 : ∀ (dS : kg C ros (fin s o.dst (.tuple [])) l K), wpOps C.P ops Q (l ++ l2) (a.put o.dst undef) w := fun dS => ih _ _ _ dS (Rel.skip aZ AF)
          split at h
          ·rename_i gA af
           have bl := e4 gA af
           split at h
           ·rename_i ad; subst ad
            rw [if_pos (by simp [Region.wanted, uY, bl])]
            exact .inl (run _ (fun _ h => h) h)
           ·rename_i ad
            rw [if_neg (by simp [Region.wanted, uY, bl, ad])]
            exact J8 h
          ·rename_i af
           have bl := fT af
           rw [if_neg (by simp [Region.wanted, uY, bl])]
           exact J8 h
          ·exact h.elim
         ·cases cb
      ·cases ah
     ·cases ah
theorem J9 (bz : C.Ok) {ops : Array Oper} {ros : List cm} (rz : pS n ops ops.toList = some (ros.map cm.un)) {K : ar → Prop} (a_ : ∀ aB da aO, K aB → Rel w0 F0 X n ρ aB da aO → Q .normal da aO) :
  ∀ (l : List Nat) (s : ar) (a : Act) (w : World), kg C ros s l K → Rel w0 F0 X n ρ s a w → wpOps C.P ops Q l a w := by
 obtain ⟨hl, pT⟩ := xH rz
 intro l s a w h aZ
 have := Fu (Q := Q) bz (ros := ros) (ops := ops) (l2 := []) (K := K) (n := n) (ρ := ρ) (w0 := w0) (F0 := F0) (X := X) (fun aB da aO aA e8 => a_ aB da aO aA e8) l (fun i _ => ⟨fun b_ => by
   rw [List.getElem?_eq_none_iff, ← List.length_map (f := cm.un), ← hl]
   have := Array.getElem?_eq_none_iff.1 b_
   simpa using this, fun o b_ => by
   obtain ⟨an, h5, ah⟩ := pT i o (by simpa using b_)
   obtain ⟨r, ae, rfl⟩ : ∃ r, ros[i]? = some r ∧ r.un = an := by simpa using h5
   exact ⟨r, ae, ah⟩⟩) s a w h aZ
 rwa [List.append_nil] at this
theorem Rel.drawn (h : Rel w0 F0 X n ρ s a w) (k : Nat) : Rel w0 F0 X n ρ s a { w with drawn := k } := by
 obtain ⟨ae, ah, bF, F, S, aH⟩ := h
 exact ⟨ae, ah, bF, F, S, aH.grow (fun _ _ => rfl) (Nat.le_refl _) rfl rfl rfl⟩
theorem S4 (bz : C.Ok) {id : Nat} {ops : Array Oper} {ros : List cm} (rz : pS n ops ops.toList = some (ros.map cm.un)) {K : ar → Prop} (a_ : ∀ aB da aO, K aB → Rel w0 F0 X n ρ aB da aO → Q .normal da aO)
  (h : lN C s ros K) (aZ : Rel w0 F0 X n ρ s a w) : (Code.region id ops false).wp C.P Q a w := by
 refine wp_region (J9 bz rz a_ _ s a w ?_ aZ)
 have := SH C K ros [] s h
 have hl := (xH rz).1
 simp only [List.nil_append, List.length_nil, Nat.add_zero, List.map_id'] at this
 rw [List.length_map] at hl
 rw [← hl] at this
 simpa using this
end
def Fw (o0 : List (List Nat)) (l : List Nat) : Prop :=
 l.Nodup ∧ (∀ i, i ∈ l ↔ i < o0.length) ∧ ∀ u i v, l = u ++ i :: v → ∀ e ∈ (o0[i]?).getD [], e ∈ u
def n8 (ops : Array Oper) : List (List Nat) := ops.toList.map fun o => (o.after.toList.filter fun e => Region.binds .any e).map (·.on)
def xI (o0 : List (List Nat)) : Bool := o0.zipIdx.all fun p => p.1.all fun e => decide (e < p.2)
theorem S5 {o0 : List (List Nat)} (h : xI o0 = true) {i : Nat} {l : List Nat} (au : o0[i]? = some l) : ∀ e ∈ l, e < i := by
 intro e he
 simp only [xI, List.all_eq_true] at h
 have := h (l, i) (by rw [List.mem_zipIdx_iff_getElem?]; exact au) e he
 simpa using this
theorem S6 {ops : Array Oper} (ad : xI (n8 ops) = true) : ∀ (fuel t : Nat) (g7 : Array Bool), g7.size = ops.size → ((List.range ops.size).filter fun i => !g7.getD i true).length ≤ fuel →
  (Region.linearise.go .any ops fuel t g7 []).Nodup ∧ (∀ i, i ∈ Region.linearise.go .any ops fuel t g7 [] ↔ (i < ops.size ∧ g7.getD i true = false)) ∧
   ∀ u i v, Region.linearise.go .any ops fuel t g7 [] = u ++ i :: v → ∀ e ∈ ((n8 ops)[i]?).getD [], g7.getD e false = true ∨ e ∈ u := by
 intro fuel
 induction fuel with
 | zero =>
   intro t g7 af hl
   have xh : ((List.range ops.size).filter fun i => !g7.getD i true) = [] := List.length_eq_zero_iff.1 (Nat.le_zero.1 hl)
   refine ⟨by simp [Region.linearise.go], fun i => ?_, fun u i v h => by simp [Region.linearise.go] at h⟩
   simp only [Region.linearise.go, List.reverse_nil, List.not_mem_nil, false_iff, not_and]
   intro au bF
   have : i ∈ ((List.range ops.size).filter fun i => !g7.getD i true) := List.mem_filter.2 ⟨List.mem_range.2 au, by rw [bF]; rfl⟩
   rw [xh] at this; cases this
 | succ fuel ih =>
   intro t g7 af hl
   have J_ : ∀ i, i ∈ Region.ready .any ops g7 ↔ (i < ops.size ∧ g7.getD i true = false ∧ ∀ e ∈ ((n8 ops)[i]?).getD [], g7.getD e false = true) := by
    intro i
    simp only [Region.ready, List.mem_filter, List.mem_range, Bool.and_eq_true, Bool.not_eq_true']
    constructor
    ·rintro ⟨ae, ah, aH⟩
     refine ⟨ae, ah, ?_⟩
     rw [Array.getElem?_eq_getElem ae] at aH
     simp only [Option.map_some, Option.getD_some, Array.all_eq_true_iff_forall_mem] at aH
     simp only [n8, List.getElem?_map, Array.getElem?_toList, Array.getElem?_eq_getElem ae, Option.map_some, Option.getD_some, List.mem_map, List.mem_filter]
     rintro e ⟨x, ⟨aq, Fx⟩, rfl⟩
     have := aH x (by simpa using aq)
     simpa [Fx] using this
    ·rintro ⟨ae, ah, aH⟩
     refine ⟨ae, ah, ?_⟩
     rw [Array.getElem?_eq_getElem ae]
     simp only [Option.map_some, Option.getD_some, Array.all_eq_true_iff_forall_mem]
     simp only [n8, List.getElem?_map, Array.getElem?_toList, Array.getElem?_eq_getElem ae, Option.map_some, Option.getD_some, List.mem_map, List.mem_filter] at aH
     intro x aq
     cases Fx : Region.binds .any x with
     | false => simp
     | true => simpa using aH x.on ⟨x, ⟨by simpa using aq, Fx⟩, rfl⟩
   have hex : (∃ i, i < ops.size ∧ g7.getD i true = false) → Region.ready .any ops g7 ≠ [] := by
    rintro ⟨i, ae, ah⟩
    have : ∃ i, (i < ops.size ∧ g7.getD i true = false) ∧ ∀ j, j < i → ¬ (j < ops.size ∧ g7.getD j true = false) := by
     induction i using Nat.strongRecOn with
     | _ i S7 =>
       by_cases cH : ∃ j, j < i ∧ (j < ops.size ∧ g7.getD j true = false)
       ·obtain ⟨j, S8, S9, S_⟩ := cH
        exact S7 j S8 S9 S_
       ·exact ⟨i, ⟨ae, ah⟩, fun j Ta ax => cH ⟨j, Ta, ax⟩⟩
    obtain ⟨k, ⟨ca, cy⟩, fy⟩ := this
    have : k ∈ Region.ready .any ops g7 := (J_ k).2 ⟨ca, cy, fun e he => by
     cases cJ : (n8 ops)[k]? with
     | none => rw [cJ] at he; simp at he
     | some l =>
       rw [cJ] at he
       have e7 := S5 ad cJ e he
       have := fy e e7
       rw [not_and] at this
       have := this (by omega)
       have nt : e < g7.size := by omega
       simp only [Array.getD_eq_getD_getElem?, Array.getElem?_eq_getElem nt, Option.getD_some] at this ⊢
       simpa using this⟩
    intro e; rw [e] at this; cases this
   have Ka : Region.linearise.go .any ops (fuel + 1) t g7 [] = (match (Region.ready .any ops g7)[t % (Region.ready .any ops g7).length]? with
    | some i => Region.linearise.go .any ops fuel (t / (Region.ready .any ops g7).length) (g7.setIfInBounds i true) [i]
    | none => []) := rfl
   cases xJ : (Region.ready .any ops g7)[t % (Region.ready .any ops g7).length]? with
   | none =>
     have xh : Region.ready .any ops g7 = [] := by
      cases aZ : Region.ready .any ops g7 with
      | nil => rfl
      | cons a l =>
        rw [aZ] at xJ
        have := List.getElem?_eq_none_iff.1 xJ
        have ah := Nat.mod_lt t (show 0 < (a :: l).length by simp)
        omega
     rw [Ka, xJ]
     refine ⟨by simp, fun i => ?_, fun u i v h => by simp at h⟩
     simp only [List.not_mem_nil, false_iff]
     intro au
     exact hex ⟨i, au⟩ xh
   | some i =>
     have au := (J_ i).1 (List.mem_of_getElem? xJ)
     obtain ⟨Fy, Kb, Tb⟩ := au
     rw [Ka, xJ]
     simp only
     rw [linearise_go_acc]
     simp only [List.reverse_singleton, List.singleton_append]
     have rj : ∀ j d, (g7.setIfInBounds i true).getD j d = if j = i then true else g7.getD j d := by
      intro j d
      split
      ·rename_i e; subst e
       simp [Array.getD_eq_getD_getElem?, Array.getElem?_setIfInBounds_self_of_lt (show j < g7.size by omega)]
      ·rename_i e
       simp [Array.getD_eq_getD_getElem?, Array.getElem?_setIfInBounds_ne (fun h => e h.symm)]
     obtain ⟨bc, bA, cU⟩ := ih (t / (Region.ready .any ops g7).length) (g7.setIfInBounds i true) (by simpa using af) (by
      have fN : ((List.range ops.size).filter fun j => !(g7.setIfInBounds i true).getD j true) = ((List.range ops.size).filter fun i => !g7.getD i true).filter fun j => decide (j ≠ i) := by
       rw [List.filter_filter]
       apply List.filter_congr
       intro j _
       rw [rj]
       by_cases e : j = i <;> simp [e]
      rw [fN]
      have e7 : (((List.range ops.size).filter fun i => !g7.getD i true).filter fun j => decide (j ≠ i)).length < ((List.range ops.size).filter fun i => !g7.getD i true).length := by
       rw [List.length_filter_lt_length_iff_exists]
       exact ⟨i, List.mem_filter.2 ⟨List.mem_range.2 Fy, by rw [Kb]; rfl⟩, by simp⟩
      omega)
     refine ⟨?_, fun j => ?_, ?_⟩
     ·rw [List.nodup_cons]
      refine ⟨fun hm => ?_, bc⟩
      have := ((bA i).1 hm).2
      rw [rj, if_pos rfl] at this; cases this
     ·rw [List.mem_cons, bA, rj]
      by_cases e : j = i
      ·subst e; simp [Fy, Kb]
      ·simp [e]
     ·intro u j v h e he
      cases u with
      | nil =>
        simp only [List.nil_append, List.cons.injEq] at h
        obtain ⟨rfl, rfl⟩ := h
        exact .inl (Tb e he)
      | cons AG u =>
        simp only [List.cons_append, List.cons.injEq] at h
        obtain ⟨rfl, h⟩ := h
        rcases cU u j v h e he with bP | bP
        ·rw [rj] at bP
         split at bP
         ·rename_i fQ; subst fQ; exact .inr (by simp)
         ·exact .inl bP
        ·exact .inr (by simp [bP])
theorem Tc {ops : Array Oper} (ad : xI (n8 ops) = true) (t : Nat) : Fw (n8 ops) (Region.linearise .any ops t) := by
 have Kc : ∀ i d, i < ops.size → (Array.replicate ops.size false).getD i d = false := by
  intro i d au
  simp [Array.getD_eq_getD_getElem?, au]
 obtain ⟨bc, bA, cU⟩ := S6 ad ops.size t (Array.replicate ops.size false) (by simp) (by
  have := List.length_filter_le (fun i => !(Array.replicate ops.size false).getD i true) (List.range ops.size)
  simpa using this)
 have hlen : (n8 ops).length = ops.size := by simp [n8]
 refine ⟨bc, fun i => ?_, fun u i v h e he => ?_⟩
 ·rw [hlen]
  rw [show Region.linearise .any ops t = Region.linearise.go .any ops ops.size t (Array.replicate ops.size false) [] from rfl, bA]
  exact ⟨fun h => h.1, fun h => ⟨h, Kc i true h⟩⟩
 ·rcases cU u i v h e he with bP | bP
  ·exfalso
   by_cases Kd : e < ops.size
   ·rw [Kc e false Kd] at bP; cases bP
   ·simp [Array.getD_eq_getD_getElem?, Kd] at bP
  ·exact bP
def aa : List (Nat × I) → ar
 | [], _ => .hole
 | (u, d) :: l, t => if t = u then d else aa l t
mutual
inductive fU : I → I → Prop
 | refl (d : I) : fU d d
 | kY (sz : Nat) : fU .bp (.ao sz [])
 | uZ : fU .bp (.slice [])
 | any (b : Bool) : fU (.bool b) .fu
 | share (d : I) : d.tree = true → (∀ vs, d ≠ .tuple vs) → (∀ o, d ≠ .fg o) → fU d d.share
 | agg {ds es : List I} : kA ds es → fU (.agg ds) (.agg es)
 | bb {d e : I} : fU d e → fU (.bb d) (.bb e)
 | ao {sz : Nat} {ds es : List I} : kA ds es → fU (.ao sz ds) (.ao sz es)
 | tuple {ds es : List I} : kA ds es → fU (.tuple ds) (.tuple es)
 | ref {d e : I} : fU d e → fU (.ref d) (.ref e)
 | trans {d e f : I} : fU d e → fU e f → fU d f
inductive kA : List I → List I → Prop
 | nil : kA [] []
 | cons {d e : I} {ds es : List I} : fU d e → kA ds es → kA (d :: ds) (e :: es)
end
mutual
theorem fU.wd : ∀ {d e : I}, fU d e → e.wd = d.wd
 | _, _, .refl _ => rfl
 | _, _, .kY _ => rfl
 | _, _, .uZ => rfl
 | _, _, .any _ => rfl
 | _, _, .share d _ _ _ => I.zY d
 | _, _, .agg h => by simp only [I.wd]; exact kA.wd h
 | _, _, .bb _ => rfl
 | _, _, .ao _ => rfl
 | _, _, .tuple h => by simp only [I.wd]; exact kA.wd h
 | _, _, .ref _ => rfl
 | _, _, .trans h k => (fU.wd k).trans (fU.wd h)
theorem kA.wd : ∀ {ds es : List I}, kA ds es → I.eK es = I.eK ds
 | _, _, .nil => rfl
 | _, _, .cons h af => by simp only [I.eK]; rw [fU.wd h, kA.wd af]
end
theorem kA.len {ds es : List I} (h : kA ds es) : es.length = ds.length := by
 induction ds generalizing es with
 | nil => cases h; rfl
 | cons d ds ih => cases h with | cons h af => simp [ih af]
theorem kA.all {sz : Nat} {ds es : List I} (h : kA ds es) (aj : ∀ d ∈ ds, d.wd = sz) : ∀ d ∈ es, d.wd = sz := by
 induction ds generalizing es with
 | nil => cases h; intro d aj; cases aj
 | cons d ds ih =>
   cases h with
   | cons h af =>
     intro x aq
     rcases List.mem_cons.1 aq with rfl | aq
     ·rw [h.wd]; exact aj d (by simp)
     ·exact ih af (fun d hm => aj d (by simp [hm])) x aq
section
variable {w0 w : World} {F0 X F : Nat → Prop} {S : Nat → Nat → Prop} {s aB : ar} {aC : Nat → Value}
def Td (w : World) (F : Nat → Prop) (_d e : I) (cs : List Value) (S : Nat → Prop) : Prop :=
 ∃ iz iA : Nat → Prop, (∀ b, iz b → S b) ∧ (∀ b, iA b → S b) ∧ (∀ b, iA b → ¬ iz b) ∧ ∀ b7, (∀ b, F b ∨ iz b → b7 b) → aw w b7 e cs iA
mutual
theorem aw.wider : ∀ {d e : I}, fU d e → ∀ {F : Nat → Prop} {cs : List Value} {S : Nat → Prop}, aw w F d cs S → Td w F d e cs S
 | _, _, .refl _, F, cs, S, h => ⟨fun _ => False, S, fun _ h => h.elim, fun _ h => h, fun _ _ h => h, fun b7 bI => aw.mono (fun b ad => bI b (.inl ad)) _ _ _ _ (fun _ h => h) h⟩
 | .bp, _, .kY sz, F, cs, S, h => ⟨fun _ => False, S, fun _ h => h.elim, fun _ h => h, fun _ _ h => h, fun b7 bI => by simp only [aw] at h ⊢; exact .inl ⟨trivial, _, h⟩⟩
 | .bp, _, .uZ, F, cs, S, h => ⟨fun _ => False, S, fun _ h => h.elim, fun _ h => h, fun _ _ h => h, fun b7 bI => by simp only [aw] at h ⊢; exact .inl ⟨trivial, none, 0, h, Nat.zero_le _, fun _ => rfl⟩⟩
 | .bool _, _, .any b, F, cs, S, h => ⟨fun _ => False, S, fun _ h => h.elim, fun _ h => h, fun _ _ h => h, fun b7 bI => by simp only [aw] at h ⊢; exact ⟨b, h⟩⟩
 | _, _, .share d _ _ _, F, cs, S, h => ⟨S, fun _ => False, fun _ h => h, fun _ h => h.elim, fun _ h => h.elim, fun b7 bI => aw.shared (fun b ad => bI b (.inl ad)) d cs S (fun b ad => bI b (.inr ad)) h⟩
 | _, _, .agg jM, F, cs, S, h => by
   rw [aw] at h
   obtain ⟨iz, iA, ae, ah, aH, a6⟩ := bg.wider jM h
   exact ⟨iz, iA, ae, ah, aH, fun b7 bI => by rw [aw]; exact a6 b7 bI⟩
 | _, _, .bb aj, F, cs, S, h => by
   rw [aw] at h
   obtain ⟨b, cur, ty, fr, aX, ca, cy, fy, eB, gr, dH, jD⟩ := h
   obtain ⟨iz, iA, ae, ah, aH, a6⟩ := aw.wider aj gr
   refine ⟨iz, fun c => c = b ∨ iA c, fun c ax => dH c (ae c ax), ?_, ?_, fun b7 bI => ?_⟩
   ·rintro c (rfl | ax)
    ·exact cy
    ·exact dH c (ah c ax)
   ·rintro c (rfl | ax) bF
    ·exact jD (ae _ bF)
    ·exact aH c ax bF
   ·rw [aw]
    exact ⟨b, cur, ty, fr, iA, ca, .inl rfl, fy, eB, a6 b7 bI, fun c ax => .inr ax, fun ax => jD (ah _ ax)⟩
 | .ao sz ds, .ao _ es, .ao jM, F, cs, S, h => by
   rw [aw] at h
   have hl := jM.len
   rcases h with ⟨ae, ah⟩ | ⟨b, cap, cur, ty, fr, aX, ca, cy, fy, eB, gr, dH, jD, gi, mo, rl, Ke⟩
   ·refine ⟨fun _ => False, S, fun _ h => h.elim, fun _ h => h, fun _ _ h => h, fun b7 _ => ?_⟩
    rw [aw]
    subst ae
    exact .inl ⟨List.length_eq_zero_iff.1 (by simpa using hl), ah⟩
   ·obtain ⟨iz, iA, ae, ah, aH, a6⟩ := bg.wider jM mo
    refine ⟨iz, fun c => c = b ∨ iA c, fun c ax => rl c (ae c ax), ?_, ?_, fun b7 bI => ?_⟩
    ·rintro c (rfl | ax)
     ·exact cy
     ·exact rl c (ah c ax)
    ·rintro c (rfl | ax) bF
     ·exact Ke (ae _ bF)
     ·exact aH c ax bF
    ·rw [aw]
     refine .inr ⟨b, cap, cur, ty, fr, iA, by rw [hl]; exact ca, .inl rfl, fy, eB, by rw [hl]; exact gr, dH, jD, jM.all gi, by rw [hl]; exact a6 b7 bI, fun c ax => .inr ax, fun ax => Ke (ah _ ax)⟩
 | _, _, .tuple jM, F, cs, S, h => by
   rw [aw] at h
   obtain ⟨iz, iA, ae, ah, aH, a6⟩ := bg.wider jM h
   exact ⟨iz, iA, ae, ah, aH, fun b7 bI => by rw [aw]; exact a6 b7 bI⟩
 | _, _, .ref aj, F, cs, S, h => by
   rw [aw] at h
   obtain ⟨b, o, e3, ae, ah, aH, a6⟩ := h
   obtain ⟨iz, iA, ca, cy, fy, eB⟩ := aw.wider aj a6
   refine ⟨fun _ => False, S, fun _ h => h.elim, fun _ h => h, fun _ _ h => h, fun b7 bI => ?_⟩
   rw [aw]
   exact ⟨b, o, e3, ae, bI _ (.inl ah), aH, aw.mono (fun _ h => h) _ _ _ _ (fun b ad => cy b ad) (eB b7 fun b ad => bI b (ad.imp id fun h => (ca b h).elim))⟩
 | _, _, .trans aj he, F, cs, S, h => by
   obtain ⟨iz, iA, ae, ah, aH, a6⟩ := aw.wider aj h
   obtain ⟨Fz, AH, ca, cy, fy, eB⟩ := aw.wider he (F := fun b => F b ∨ iz b) (a6 _ fun _ h => h)
   refine ⟨fun b => iz b ∨ Fz b, AH, ?_, fun b ad => ah b (cy b ad), ?_, fun b7 bI => eB b7 fun b ad => ?_⟩
   ·rintro b (h | h)
    ·exact ae b h
    ·exact ah b (ca b h)
   ·rintro b ad (h | h)
    ·exact aH b (cy b ad) h
    ·exact fy b ad h
   ·rcases ad with (ad | ad) | ad
    ·exact bI b (.inl ad)
    ·exact bI b (.inr (.inl ad))
    ·exact bI b (.inr (.inr ad))
theorem bg.wider : ∀ {ds es : List I}, kA ds es → ∀ {F : Nat → Prop} {cs : List Value} {S : Nat → Prop}, bg w F ds cs S →
  ∃ iz iA : Nat → Prop, (∀ b, iz b → S b) ∧ (∀ b, iA b → S b) ∧ (∀ b, iA b → ¬ iz b) ∧ ∀ b7, (∀ b, F b ∨ iz b → b7 b) → bg w b7 es cs iA
 | _, _, .nil, F, cs, S, h => ⟨fun _ => False, fun _ => False, fun _ h => h.elim, fun _ h => h.elim, fun _ h => h.elim, fun b7 bI => by rw [bg] at h ⊢; exact h⟩
 | _, _, .cons aj jM, F, cs, S, h => by
   rw [bg] at h
   obtain ⟨cD, cz, cu, ej, rfl, bA, cU, eY, gg, iM⟩ := h
   obtain ⟨Te, Kf, U, a7, a3, a4⟩ := aw.wider aj bA
   obtain ⟨Fz, AH, kW, iN, lh, bt⟩ := bg.wider jM cU
   refine ⟨fun b => Te b ∨ Fz b, fun b => Kf b ∨ AH b, ?_, ?_, ?_, fun b7 bI => ?_⟩
   ·rintro b (h | h)
    ·exact eY b (U b h)
    ·exact gg b (kW b h)
   ·rintro b (h | h)
    ·exact eY b (a7 b h)
    ·exact gg b (iN b h)
   ·rintro b (h | h) (bP | bP)
    ·exact a3 b h bP
    ·exact iM b (a7 b h) (kW b bP)
    ·exact iM b (U b bP) (iN b h)
    ·exact lh b h bP
   ·rw [bg]
    refine ⟨cD, cz, Kf, AH, rfl, a4 b7 (fun b ad => bI b (ad.imp id .inl)), bt b7 (fun b ad => bI b (ad.imp id .inr)), fun b ad => .inl ad, fun b ad => .inr ad, fun b ae ah => iM b (a7 b ae) (iN b ah)⟩
end
theorem fU.AJ : ∀ {d e : I}, fU d e → (∀ vs, d ≠ .tuple vs) → ∀ vs, e ≠ .tuple vs
 | _, _, .refl _, h => h
 | _, _, .kY _, _ => fun _ h => by cases h
 | _, _, .uZ, _ => fun _ h => by cases h
 | _, _, .any _, _ => fun _ h => by cases h
 | _, _, .share d _ _ _, h => fun vs he => by cases d <;> first | (cases he; done) | exact h _ rfl
 | _, _, .agg _, _ => fun _ h => by cases h
 | _, _, .bb _, _ => fun _ h => by cases h
 | _, _, .ao _, _ => fun _ h => by cases h
 | _, _, .tuple _, h => fun _ _ => h _ rfl
 | _, _, .ref _, _ => fun _ h => by cases h
 | _, _, .trans h k, a_ => fU.AJ k (fU.AJ h a_)
theorem fU.i3 : ∀ {d e : I} {v : Value}, fU d e → (∀ vs, d ≠ .tuple vs) → dg.i3 d v → dg.i3 e v
 | _, _, _, .refl _, _, h => h
 | _, _, _, .kY _, _, h => h
 | _, _, _, .uZ, _, h => h
 | _, _, _, .any _, _, h => h
 | _, _, _, .share d _ a_ _, _, h => by cases d <;> first | exact h | exact (a_ _ rfl).elim
 | _, _, _, .agg _, _, h => h
 | _, _, _, .bb _, _, h => h
 | _, _, _, .ao _, _, h => h
 | _, _, _, .tuple _, a_, _ => (a_ _ rfl).elim
 | _, _, _, .ref _, _, h => h
 | _, _, _, .trans h k, a_, af => fU.i3 k (fU.AJ h a_) (fU.i3 h a_ af)
theorem kA.get : ∀ {ds es : List I}, kA ds es → ∀ (k : Nat) (e : I), es[k]? = some e → ∃ d, ds[k]? = some d ∧ fU d e
 | _, _, .nil, k, e, h => by simp at h
 | _, _, .cons aj af, 0, e, h => by simp at h; subst h; exact ⟨_, rfl, aj⟩
 | _, _, .cons aj af, k + 1, e, h => kA.get af k e (by simpa using h)
theorem fU.eN : ∀ {d e : I} {v : Value}, fU d e → dg.eN d v → dg.eN e v
 | _, _, _, .refl _, af => af
 | _, _, _, .kY _, af => af
 | _, _, _, .uZ, af => af
 | _, _, _, .any _, af => af
 | _, _, _, .share _ _ mP _, af => Fg mP af
 | _, _, _, .agg _, af => af
 | _, _, _, .bb _, af => af
 | _, _, _, .ao _, af => af
 | _, _, _, .ref _, af => af
 | _, _, _, .tuple aj, af => by
   obtain ⟨arr, ae, ah, aH⟩ := af
   refine ⟨arr, ae, ah.trans aj.len.symm, fun k e x he aq => ?_⟩
   obtain ⟨d, aA, hw⟩ := aj.get k e he
   obtain ⟨U, a7, a3⟩ := aH k d x aA aq
   exact ⟨hw.i3 a7 U, hw.AJ a7, a3.trans hw.wd.symm⟩
 | _, _, _, .trans h k, af => fU.eN k (fU.eN h af)
theorem fU.tree : ∀ {d e : I}, fU d e → d.tree = true → e.tree = true
 | _, _, .refl _, aj => aj
 | _, _, .kY _, _ => rfl
 | _, _, .uZ, _ => rfl
 | _, _, .any _, _ => rfl
 | _, _, .share d _ _ lZ, aj => by cases d <;> first | exact aj | rfl | exact (lZ _ rfl).elim
 | _, _, .agg _, _ => rfl
 | _, _, .bb _, _ => rfl
 | _, _, .ao _, _ => rfl
 | _, _, .tuple _, _ => rfl
 | _, _, .ref _, _ => rfl
 | _, _, .trans h k, aj => fU.tree k (fU.tree h aj)
mutual
def I.sM : I → List Nat
 | .h x q => if q.isEmpty then [] else [x]
 | .az x _ => [x]
 | .ad x _ => [x]
 | .fn _ cap => I.xK cap
 | _ => []
def I.xK : List I → List Nat
 | [] => []
 | d :: ds => d.sM ++ I.xK ds
end
def xL (s aB : ar) (x : Nat) (D : List Nat) : Prop := aB x = s x ∨ aB x = .hole ∨ ((s x).own = true ∧ (aB x).own = true ∧ x ∉ D)
theorem xL.less {s aB : ar} {x : Nat} {D E : List Nat} (h : xL s aB x D) (Tf : ∀ u ∈ E, u ∈ D) : xL s aB x E := by
 rcases h with h | h | ⟨ae, ah, aH⟩
 ·exact .inl h
 ·exact .inr (.inl h)
 ·exact .inr (.inr ⟨ae, ah, fun aq => aH (Tf x aq)⟩)
theorem aM.keep {b7 : Nat → Prop} (bI : ∀ b, F b → b7 b) : ∀ n, (∀ (d : I) (v : Value) (ez : Nat → Prop), SizeOf.sizeOf d ≤ n → (∀ x ∈ d.af, xL s aB x d.sM) → aM w F s aC d v ez → aM w b7 aB aC d v ez) ∧
  (∀ (ds : List I) (vs : List Value), SizeOf.sizeOf ds ≤ n → (∀ x ∈ I.e5 ds, xL s aB x (I.xK ds)) → eL w F s aC ds vs → eL w b7 aB aC ds vs) := by
 intro n
 induction n with
 | zero =>
   refine ⟨fun d v ez b8 => ?_, fun ds vs b8 => ?_⟩
   ·cases d <;> simp at b8 <;> omega
   ·cases ds <;> simp at b8 <;> omega
 | succ n ih =>
   refine ⟨fun d v ez b8 aA h => ?_, fun ds vs b8 aA h => ?_⟩
   ·cases d with
    | hole => rw [aM]; trivial
    | h x q =>
      rw [aM] at h ⊢
      intro e fN az
      rcases aA x (by simp [I.af]) with he | he | ⟨xM, Kg, u0⟩
      ·rw [he] at fN ⊢; exact h e fN az
      ·rw [he] at fN
       cases q with
       | nil => simp only [I.sub, Option.some.injEq] at fN; subst fN; simp [I.plain] at az
       | cons k q => simp [I.sub] at fN
      ·cases q with
       | nil =>
         simp only [I.sub, Option.some.injEq] at fN
         subst fN
         obtain ⟨dp, a0, f_, hk, ik⟩ := h (s x) (by simp only [I.sub]) (qt xM).1
         simp only [dJ, Option.some.injEq, Prod.mk.injEq, true_and] at f_
         exact ⟨cL (aC x), none, by simp only [dJ], by rw [hk, ← f_.1], ((qt Kg).2.2.2.2.2 _).2 (((qt xM).2.2.2.2.2 _).1 ik)⟩
       | cons k q => exact (u0 (by simp [I.sM])).elim
    | az x q =>
      rw [aM] at h ⊢
      intro e fN ax
      rcases aA x (by simp [I.af]) with he | he | ⟨_, _, u0⟩
      ·rw [he] at fN ax ⊢; exact h e fN ax
      ·rw [he] at ax
       cases q <;> simp [I.gh] at ax
      ·exact (u0 (by simp [I.sM])).elim
    | ad x k =>
      rw [aM] at h ⊢
      intro az
      rcases aA x (by simp [I.af]) with he | he | ⟨_, _, u0⟩
      rotate_left 2
      ·exact (u0 (by simp [I.sM])).elim
      ·rw [he] at az
       obtain ⟨b, cur, e, fr, ae, ah, aH, a6⟩ := h az
       exact ⟨b, cur, e, fr, ae, bI b ah, aH, a6⟩
      ·rw [he] at az; simp [I.plain] at az
    | fn f cap =>
      rw [aM] at h ⊢
      obtain ⟨arr, rfl, ax⟩ := h
      exact ⟨arr, rfl, ih.2 _ _ (by simp at b8; omega) (by simpa [I.af, I.sM] using aA) ax⟩
    | _ =>
      have bP := (aM.c0 rfl).1 h
      exact (aM.c0 rfl).2 ⟨bP.1, aw.mono bI _ _ _ _ (fun _ h => h) bP.2⟩
   ·cases ds with
    | nil => rw [eL] at h ⊢; exact h
    | cons d ds =>
      rw [eL] at h ⊢
      obtain ⟨v, jW, rfl, ae, ah⟩ := h
      simp at b8
      simp only [I.e5, List.mem_append] at aA
      exact ⟨v, jW, rfl, ih.1 _ _ _ (by omega) (fun x aq => (aA x (.inl aq)).less fun u hu => by simp [I.xK, hu]) ae, ih.2 _ _ (by omega) (fun x aq => (aA x (.inr aq)).less fun u hu => by simp [I.xK, hu]) ah⟩
def xN (s : ar) (l : List (Nat × I)) : Prop :=
 ∀ p ∈ l, p.2 = s p.1 ∨ ((s p.1).tree = true ∧ fU (s p.1) p.2 ∧ ∀ c2 ∈ l, p.1 ∉ c2.2.af ∨ ((s p.1).own = true ∧ p.2.own = true ∧ p.1 ∉ c2.2.sM))
theorem Kh : ∀ (l : List (Nat × I)) (t : Nat), aa l t = .hole ∨ ∃ p ∈ l, p.1 = t ∧ aa l t = p.2 := by
 intro l
 induction l with
 | nil => intro t; exact .inl rfl
 | cons p l ih =>
   intro t
   obtain ⟨u, d⟩ := p
   simp only [aa]
   split
   ·rename_i e; exact .inr ⟨(u, d), by simp, e.symm, rfl⟩
   ·rcases ih t with h | ⟨p, az, h⟩
    ·exact .inl h
    ·exact .inr ⟨p, by simp [az], h⟩
theorem b9.Tg (h : b9 w0 F0 X F S s aC w) {l : List (Nat × I)} (hw : xN s l) : ∃ b7 aX, b9 w0 F0 X b7 aX (aa l) aC w := by
 have each : ∀ t, ∃ iz iA : Nat → Prop, (∀ b, iz b → S t b) ∧ (∀ b, iA b → S t b) ∧ (∀ b, iA b → ¬ iz b) ∧ ∀ b7, (∀ b, F b ∨ iz b → b7 b) → aM w b7 (aa l) aC (aa l t) (aC t) iA := by
  intro t
  rcases Kh l t with e | ⟨p, az, rfl, e⟩
  ·exact ⟨fun _ => False, fun _ => False, fun _ h => h.elim, fun _ h => h.elim, fun _ h => h.elim, fun b7 _ => by rw [e, aM]; trivial⟩
  ·rw [e]
   rcases hw p az with aA | ⟨bo, mI, _⟩
   ·refine ⟨fun _ => False, S p.1, fun _ h => h.elim, fun _ h => h, fun _ _ h => h, fun b7 bI => ?_⟩
    rw [aA]
    refine (aM.keep (fun b ad => bI b (.inl ad)) (SizeOf.sizeOf (s p.1))).1 _ _ _ (Nat.le_refl _) ?_ (h.eg p.1)
    intro x aq
    rcases Kh l x with fQ | ⟨c2, fi, rfl, fQ⟩
    ·exact .inr (.inl fQ)
    ·rcases hw c2 fi with lg | ⟨_, _, lZ⟩
     ·exact .inl (fQ.trans lg)
     ·rcases lZ p az with lZ | ⟨nr, ln, oT⟩
      ·exact (lZ (by rw [aA]; exact aq)).elim
      ·exact .inr (.inr ⟨nr, by rw [fQ]; exact ln, by rw [aA] at oT; exact oT⟩)
   ·obtain ⟨bc, bA⟩ := (aM.c0 bo).1 (h.eg p.1)
    obtain ⟨iz, iA, ca, cy, fy, eB⟩ := aw.wider mI bA
    exact ⟨iz, iA, ca, cy, fy, fun b7 bI => (aM.c0 (mI.tree bo)).2 ⟨mI.eN bc, eB b7 bI⟩⟩
 have cD := fun t => (each t).choose_spec
 let iz := fun t => (each t).choose
 have cz := fun t => (cD t).choose_spec
 let iA := fun t => (cD t).choose
 have hG : ∀ t b, iz t b → S t b := fun t => (cz t).1
 have hg : ∀ t b, iA t b → S t b := fun t => (cz t).2.1
 have iw : ∀ t b, iA t b → ¬ iz t b := fun t => (cz t).2.2.1
 have ix := fun t => (cz t).2.2.2
 refine ⟨fun b => F b ∨ ∃ t, iz t b, iA, fun b ad => .inl (h.hL b ad), ?_, ?_, fun t b ad => h.fh t b (hg t b ad), ?_, fun t u b dL ad hu => h.gq t u b dL (hg t b ad) (hg u b hu), fun t b ad => h.ez t b (hg t b ad), ?_, h.old, h.size, h.os, h.tape, h.output⟩
 ·rintro b (ad | ⟨t, ad⟩)
  ·exact h.hZ b ad
  ·exact .inr (h.ez t b (hG t b ad))
 ·rintro b (ad | ⟨t, ad⟩)
  ·exact h.ga b ad
  ·exact h.fh t b (hG t b ad)
 ·rintro t b ad (bF | ⟨u, hu⟩)
  ·exact h.gF t b (hg t b ad) bF
  ·by_cases e : t = u
   ·subst e; exact iw t b ad hu
   ·exact h.gq t u b e (hg t b ad) (hG u b hu)
 ·intro t
  exact ix t _ (fun b ad => ad.imp id fun h => ⟨t, h⟩)
end
inductive J where
 | skip
 | R (ros : List cm) (keep : Option (List Nat))
 | gK (ros : List cm) (o0 : List (List Nat)) (keep : Option (List Nat))
 | seq (a b : J)
 | cond (c : aI) (a b : J)
 | block (id : Nat) (b : J)
 | loop (b : J)
 | exit (id : Nat)
 | ret
 | jn (T : (Exit → ar → Prop) → ar → Prop) (b : J)
def bq (n : Fr) : Code → Option J
 | .skip => some .skip
 | .region _ ops false => (pS n ops ops.toList).map fun r => .R r none
 | .region _ ops true => if xI (n8 ops) = true then (pS n ops ops.toList).map fun r => .gK r (n8 ops) none else none
 | .seq a b => match bq n a, bq n b with
   | some a, some b => some (.seq a b)
   | _, _ => none
 | .cond c a b => match ek c, bq n a, bq n b with
   | some c, some a, some b => some (.cond c a b)
   | _, _, _ => none
 | .block id b => (bq n b).map (.block id)
 | .loop b => (bq n b).map .loop
 | .exit id => some (.exit id)
 | .ret => some .ret
 | _ => none
def J.kZ : J → J
 | .R ros _ => .R ros none
 | .gK ros hi _ => .gK ros hi none
 | .seq a b => .seq a.kZ b.kZ
 | .cond c a b => .cond c a.kZ b.kZ
 | .block id b => .block id b.kZ
 | .loop b => .loop b.kZ
 | .jn T b => .jn T b.kZ
 | c => c
def J.strip : J → J
 | .R ros _ => .R (ros.map cm.un) none
 | .gK ros hi _ => .gK (ros.map cm.un) hi none
 | .seq a b => .seq a.strip b.strip
 | .cond c a b => .cond c a.strip b.strip
 | .block id b => .block id b.strip
 | .loop b => .loop b.strip
 | .jn _ b => b.strip
 | c => c
theorem J.FA : ∀ c : J, c.kZ.strip = c.strip := by
 intro c
 induction c with
 | seq a b kh ki => simp only [J.kZ, J.strip, kh, ki]
 | cond c a b kh ki => simp only [J.kZ, J.strip, kh, ki]
 | block id b ih => simp only [J.kZ, J.strip, ih]
 | loop b ih => simp only [J.kZ, J.strip, ih]
 | jn T b ih => simp only [J.kZ, J.strip, ih]
 | _ => rfl
def J.bare (H : ((Exit → ar → Prop) → ar → Prop) → J → Prop) : J → Prop
 | .R _ k => k = none
 | .gK _ _ k => k = none
 | .seq a b => a.bare H ∧ b.bare H
 | .cond _ a b => a.bare H ∧ b.bare H
 | .block _ b => b.bare H
 | .loop b => b.bare H
 | .jn T b => H T b
 | _ => True
def J.mT (H : ((Exit → ar → Prop) → ar → Prop) → J → Prop) : J → Prop
 | .seq a b => a.mT H ∧ b.mT H
 | .cond _ a b => a.mT H ∧ b.mT H
 | .block _ b => b.mT H
 | .loop b => b.mT H
 | .jn T b => H T b.kZ
 | _ => True
theorem J.AK {H : ((Exit → ar → Prop) → ar → Prop) → J → Prop} : ∀ c : J, c.mT H → c.kZ.bare H := by
 intro c
 induction c with
 | seq a b kh ki => intro h; exact ⟨kh h.1, ki h.2⟩
 | cond c a b kh ki => intro h; exact ⟨kh h.1, ki h.2⟩
 | block id b ih => intro h; exact ih h
 | loop b ih => intro h; exact ih h
 | R => intro _; rfl
 | gK => intro _; rfl
 | jn T b _ => intro h; exact h
 | _ => intro _; trivial
def J.plain : J → Bool
 | .seq a b => a.plain && b.plain
 | .cond _ a b => a.plain && b.plain
 | .block _ b => b.plain
 | .loop b => b.plain
 | .jn _ _ => false
 | _ => true
theorem J.Ki {H : ((Exit → ar → Prop) → ar → Prop) → J → Prop} : ∀ c : J, c.plain = true → c.mT H := by
 intro c
 induction c with
 | seq a b kh ki => intro h; simp only [J.plain, Bool.and_eq_true] at h; exact ⟨kh h.1, ki h.2⟩
 | cond c a b kh ki => intro h; simp only [J.plain, Bool.and_eq_true] at h; exact ⟨kh h.1, ki h.2⟩
 | block id b ih => intro h; exact ih h
 | loop b ih => intro h; exact ih h
 | jn T b _ => intro h; cases h
 | _ => intro _; trivial
def andThen (K : ar → Prop) (Q : Exit → ar → Prop) : Exit → ar → Prop
 | .normal, s => K s
 | e, s => Q e s
def u1 (id : Nat) (Q : Exit → ar → Prop) : Exit → ar → Prop
 | .exit i, s => if i = id then Q .normal s else Q (.exit i) s
 | e, s => Q e s
def eO (K : ar → Prop) (s : ar) : Prop := K s ∨ ∃ l, xN s l ∧ K (aa l)
def xO : Option (List Nat) → (ar → Prop) → ar → Prop
 | none, K, s => eO K s
 | some k, K, s => K (aa (k.map fun t => (t, s t)))
def df (C : cE) : J → (Exit → ar → Prop) → ar → Prop
 | .skip, Q, s => Q .normal s
 | .R ros keep, Q, s => lN C s ros (xO keep (Q .normal))
 | .gK ros o0 keep, Q, s => ∀ l, Fw o0 l → kg C ros s l (xO keep (Q .normal))
 | .seq a b, Q, s => df C a (andThen (eO (df C b Q)) Q) s
 | .cond c a b, Q, s => match aP s c with
   | .bool gA => if gA = true then df C a Q s else df C b Q s
   | .fu => df C a Q s ∧ df C b Q s
   | _ => False
 | .block id b, Q, s => df C b (u1 id Q) s
 | .loop b, Q, s => eO (fun s => ∀ Z : ar → Prop, (∀ aB, df C b (andThen (eO Z) Q) aB → Z aB) → Z s) s
 | .exit id, Q, s => Q (.exit id) s
 | .ret, Q, s => Q .ret s
 | .jn T _, Q, s => ∀ eZ : Exit → ar → Prop, (∀ e s, Q e s → eZ e s) → T eZ s
section
variable {C : cE}
theorem FB {s : ar} {o : cm} {K dS : ar → Prop} (h : l6 C s o K) (aA : ∀ s, K s → dS s) : l6 C s o dS := by
 unfold l6 at h ⊢
 split
 ·rename_i cb; rw [cb] at h; exact AD h fun av s1 => aA _
 ·rename_i t b cb
  rw [cb] at h
  simp only at h
  split
  ·rename_i gA af
   rw [af] at h
   simp only at h
   split
   ·rename_i ad; rw [if_pos ad] at h; exact AD h fun av s1 => aA _
   ·rename_i ad; rw [if_neg ad] at h; exact aA _ h
  ·rename_i af; rw [af] at h; exact aA _ h
  ·rename_i ae ah
   split at h
   ·exact ae _ (by assumption)
   ·exact ah (by assumption)
   ·exact h
theorem Kj {K dS : ar → Prop} (aA : ∀ s, K s → dS s) : ∀ {ros : List cm} {s : ar}, lN C s ros K → lN C s ros dS := by
 intro ros
 induction ros with
 | nil => intro s h; exact aA s h
 | cons o ros ih => intro s h; exact FB h fun s h => ih h
theorem Kk {ros : List cm} {K dS : ar → Prop} (aA : ∀ s, K s → dS s) : ∀ {l : List Nat} {s : ar}, kg C ros s l K → kg C ros s l dS := by
 intro l
 induction l with
 | nil => intro s h; exact aA s h
 | cons i l ih =>
   intro s h
   simp only [kg] at h ⊢
   split
   ·rename_i b_; rw [b_] at h; exact ih h
   ·rename_i o b_; rw [b_] at h; exact FB h fun s h => ih h
theorem u2 {K dS : ar → Prop} (aA : ∀ s, K s → dS s) (s : ar) (h : eO K s) : eO dS s :=
 h.imp (aA s) fun ⟨l, ae, ah⟩ => ⟨l, ae, aA _ ah⟩
theorem Kl {keep : Option (List Nat)} {K dS : ar → Prop} (aA : ∀ s, K s → dS s) (s : ar) (h : xO keep K s) : xO keep dS s := by
 cases keep with
 | none => exact u2 aA s h
 | some k => exact aA _ h
theorem Km {keep : Option (List Nat)} {K : ar → Prop} {s : ar} (h : xO keep K s) : eO K s := by
 cases keep with
 | none => exact h
 | some k =>
   refine .inr ⟨_, ?_, h⟩
   intro p az
   obtain ⟨t, _, rfl⟩ := List.mem_map.1 az
   exact .inl rfl
theorem FC {K dS : ar → Prop} {Q eZ : Exit → ar → Prop} (aA : ∀ s, K s → dS s) (c4 : ∀ e s, Q e s → eZ e s) : ∀ e s, andThen K Q e s → andThen dS eZ e s := by
 intro e s h
 cases e with
 | normal => exact aA s h
 | _ => exact c4 _ s h
theorem FD : ∀ (c : J) {Q eZ : Exit → ar → Prop} {s : ar}, (∀ e s, Q e s → eZ e s) → df C c Q s → df C c eZ s := by
 intro c
 induction c with
 | skip => intro Q eZ s c4 h; exact c4 _ _ h
 | R ros keep => intro Q eZ s c4 h; exact Kj (Kl (c4 _)) h
 | gK ros o0 keep => intro Q eZ s c4 h l hl; exact Kk (Kl (c4 _)) (h l hl)
 | seq a b kh ki =>
   intro Q eZ s c4 h
   exact kh (FC (fun s h => u2 (fun _ h => ki c4 h) s h) c4) h
 | cond c a b kh ki =>
   intro Q eZ s c4 h
   simp only [df] at h ⊢
   split
   ·rename_i gA ad
    rw [ad] at h
    simp only at h
    split
    ·rename_i e; rw [if_pos e] at h; exact kh c4 h
    ·rename_i e; rw [if_neg e] at h; exact ki c4 h
   ·rename_i ad; rw [ad] at h; exact ⟨kh c4 h.1, ki c4 h.2⟩
   ·rename_i ae ah
    split at h
    ·exact ae _ (by assumption)
    ·exact ah (by assumption)
    ·exact h
 | block id b ih =>
   intro Q eZ s c4 h
   refine ih ?_ h
   intro e s h
   cases e with
   | exit i =>
     simp only [u1] at h ⊢
     split
     ·rename_i e; rw [if_pos e] at h; exact c4 _ _ h
     ·rename_i e; rw [if_neg e] at h; exact c4 _ _ h
   | _ => exact c4 _ _ h
 | loop b ih =>
   intro Q eZ s c4 h
   refine u2 (fun s h Z u3 => ?_) s h
   exact h Z fun aB fO => u3 aB (ih (FC (fun _ h => h) c4) fO)
 | exit id => intro Q eZ s c4 h; exact c4 _ _ h
 | ret => intro Q eZ s c4 h; exact c4 _ _ h
 | jn T b _ => intro Q eZ s c4 h ef ah; exact h ef fun e s he => ah e s (c4 e s he)
theorem AL : ∀ (c : J) {Q : Exit → ar → Prop} {s : ar}, df C c Q s → df C c.kZ Q s := by
 intro c
 induction c with
 | R ros keep => intro Q s h; exact Kj (fun s h => Km h) h
 | gK ros hi keep => intro Q s h l hl; exact Kk (fun s h => Km h) (h l hl)
 | seq a b kh ki => intro Q s h; exact kh (FD a (FC (fun s h => u2 (fun _ h => ki h) s h) (fun _ _ h => h)) h)
 | cond c a b kh ki =>
   intro Q s h
   simp only [J.kZ, df] at h ⊢
   split
   ·rename_i gA ad
    rw [ad] at h
    simp only at h
    split
    ·rename_i e; rw [if_pos e] at h; exact kh h
    ·rename_i e; rw [if_neg e] at h; exact ki h
   ·rename_i ad; rw [ad] at h; exact ⟨kh h.1, ki h.2⟩
   ·rename_i ae ah
    split at h
    ·exact ae _ (by assumption)
    ·exact ah (by assumption)
    ·exact h
 | block id b ih => intro Q s h; exact ih h
 | loop b ih =>
   intro Q s h
   refine u2 (fun s h Z u3 => ?_) s h
   exact h Z fun aB fO => u3 aB (ih fO)
 | jn T b _ => intro Q s h; exact h
 | _ => intro Q s h; exact h
variable {w0 w : World} {F0 X : Nat → Prop} {n : Fr} {ρ : Nat → Value} {s : ar} {a : Act}
def sN (w0 : World) (F0 X : Nat → Prop) (n : Fr) (ρ : Nat → Value) (Q : Exit → ar → Prop) : Exit → Act → World → Prop := fun e a w => ∃ s, Q e s ∧ Rel w0 F0 X n ρ s a w
theorem Rel.eO {K : ar → Prop} {s : ar} {a : Act} {w : World} (aZ : Rel w0 F0 X n ρ s a w) (h : eO K s) : ∃ aB, K aB ∧ Rel w0 F0 X n ρ aB a w := by
 rcases h with h | ⟨l, ae, ah⟩
 ·exact ⟨s, h, aZ⟩
 ·obtain ⟨bc, bA, cU, F, S, eY⟩ := aZ
  obtain ⟨b7, aX, gg⟩ := eY.Tg ae
  exact ⟨aa l, ah, bc, bA, cU, b7, aX, gg⟩
theorem J.Th {c : J} (h : c.strip = .skip) : c = .skip ∨ ∃ T b, c = .jn T b := by cases c <;> first | exact .inl rfl | exact .inr ⟨_, _, rfl⟩ | cases h
theorem J.Ti {c : J} (h : c.strip = .ret) : c = .ret ∨ ∃ T b, c = .jn T b := by cases c <;> first | exact .inl rfl | exact .inr ⟨_, _, rfl⟩ | cases h
theorem J.Tj {c : J} {i : Nat} (h : c.strip = .exit i) : c = .exit i ∨ ∃ T b, c = .jn T b := by cases c <;> first | exact .inl h | exact .inr ⟨_, _, rfl⟩ | cases h
theorem J.Tk {c : J} {r : List cm} {k : Option (List Nat)} (h : c.strip = .R r k) : (∃ ros dA, c = .R ros dA ∧ ros.map cm.un = r) ∨ ∃ T b, c = .jn T b := by
 cases c <;> first | (cases h; exact .inl ⟨_, _, rfl, rfl⟩) | exact .inr ⟨_, _, rfl⟩ | cases h
theorem J.Tl {c : J} {r : List cm} {hi : List (List Nat)} {k : Option (List Nat)} (h : c.strip = .gK r hi k) : (∃ ros Kn dA, c = .gK ros Kn dA ∧ ros.map cm.un = r ∧ Kn = hi) ∨ ∃ T b, c = .jn T b := by
 cases c <;> first | (cases h; exact .inl ⟨_, _, _, rfl, rfl, rfl⟩) | exact .inr ⟨_, _, rfl⟩ | cases h
theorem J.Tm {c x y : J} (h : c.strip = .seq x y) : (∃ a b, c = .seq a b ∧ a.strip = x ∧ b.strip = y) ∨ ∃ T b, c = .jn T b := by
 cases c <;> first | (cases h; exact .inl ⟨_, _, rfl, rfl, rfl⟩) | exact .inr ⟨_, _, rfl⟩ | cases h
theorem J.Tn {c x y : J} {o : aI} (h : c.strip = .cond o x y) : (∃ mN a b, c = .cond mN a b ∧ mN = o ∧ a.strip = x ∧ b.strip = y) ∨ ∃ T b, c = .jn T b := by
 cases c <;> first | (cases h; exact .inl ⟨_, _, _, rfl, rfl, rfl, rfl⟩) | exact .inr ⟨_, _, rfl⟩ | cases h
theorem J.To {c x : J} {i : Nat} (h : c.strip = .block i x) : (∃ a, c = .block i a ∧ a.strip = x) ∨ ∃ T b, c = .jn T b := by
 cases c <;> first | (cases h; exact .inl ⟨_, rfl, rfl⟩) | exact .inr ⟨_, _, rfl⟩ | cases h
theorem J.Tp {c x : J} (h : c.strip = .loop x) : (∃ a, c = .loop a ∧ a.strip = x) ∨ ∃ T b, c = .jn T b := by
 cases c <;> first | (cases h; exact .inl ⟨_, rfl, rfl⟩) | exact .inr ⟨_, _, rfl⟩ | cases h
theorem FE (bz : C.Ok) {H : ((Exit → ar → Prop) → ar → Prop) → J → Prop}
  (kj : ∀ (c : Code) (T : (Exit → ar → Prop) → ar → Prop) (b : J) (Q : Exit → ar → Prop) (s : ar) (a : Act) (w : World), H T b → bq n c = some b.strip → T Q s → Rel w0 F0 X n ρ s a w → c.wp C.P (sN w0 F0 X n ρ Q) a w) :
  ∀ (c : Code) {dN : J} {Q : Exit → ar → Prop} {s : ar} {a : Act} {w : World}, bq n c = some dN.strip → dN.bare H → df C dN Q s → Rel w0 F0 X n ρ s a w → c.wp C.P (sN w0 F0 X n ρ Q) a w := by
 intro c
 induction c with
 | skip =>
   intro dN Q s a w af im h aZ
   have lo := af
   simp only [bq, Option.some.injEq] at af
   rcases J.Th af.symm with rfl | ⟨T, b, rfl⟩
   ·exact wp_skip ⟨s, h, aZ⟩
   ·exact kj _ T b Q s a w im (by simpa only [J.strip] using lo) (h Q fun _ _ h => h) aZ
 | region id ops draw =>
   intro dN Q s a w af im h aZ
   have lo := af
   cases draw with
   | false =>
     simp only [bq, Option.map_eq_some_iff] at af
     obtain ⟨Tq, xP, af⟩ := af
     rcases J.Tk af.symm with ⟨ros, k, rfl, rfl⟩ | ⟨T, b, rfl⟩
     rotate_left
     ·exact kj _ T b Q s a w im (by simpa only [J.strip] using lo) (h Q fun _ _ h => h) aZ
     cases im
     exact S4 bz xP (fun aB da aO aA e8 => e8.eO aA) h aZ
   | true =>
     simp only [bq] at af
     split at af
     ·rename_i ad
      simp only [Option.map_eq_some_iff] at af
      obtain ⟨Tq, xP, af⟩ := af
      rcases J.Tl af.symm with ⟨ros, hi, k, rfl, rfl, rfl⟩ | ⟨T, b, rfl⟩
      rotate_left
      ·exact kj _ T b Q s a w im (by simpa only [J.strip] using lo) (h Q fun _ _ h => h) aZ
      cases im
      refine wp_region_draw fun t => ?_
      rw [show Region.schedule (C.P.follows .mixedOrders) ops t = Region.linearise .any ops t by simp [Region.schedule, bz.mixed]]
      exact J9 bz xP (fun aB da aO aA e8 => e8.eO aA) _ s a _ (h _ (Tc ad t)) (aZ.drawn _)
     ·cases af
 | seq x y Tr AM =>
   intro dN Q s a w af im h aZ
   have lo := af
   simp only [bq] at af
   split at af
   ·rename_i uR Ko aq bl
    simp only [Option.some.injEq] at af
    rcases J.Tm af.symm with ⟨cA, kU, rfl, rfl, rfl⟩ | ⟨T, b, rfl⟩
    rotate_left
    ·exact kj _ T b Q s a w im (by simpa only [J.strip] using lo) (h Q fun _ _ h => h) aZ
    refine wp_seq (wp_mono (Tr aq im.1 h aZ) ?_)
    rintro e da aO ⟨aB, bP, e8⟩
    cases e with
    | normal =>
      obtain ⟨aB, bP, e8⟩ := e8.eO bP
      exact AM bl im.2 bP e8
    | _ => exact ⟨aB, bP, e8⟩
   ·cases af
 | cond x y z AM Kp =>
   intro dN Q s a w af im h aZ
   have lo := af
   simp only [bq] at af
   split at af
   ·rename_i uR Ko sz aq bl b8
    simp only [Option.some.injEq] at af
    rcases J.Tn af.symm with ⟨cA, kU, ri, rfl, rfl, rfl, rfl⟩ | ⟨T, b, rfl⟩
    rotate_left
    ·exact kj _ T b Q s a w im (by simpa only [J.strip] using lo) (h Q fun _ _ h => h) aZ
    have e8 := aZ
    obtain ⟨aj, eM, bF, F, S, oY⟩ := e8
    have aQ := (gB (a := a) oY (fun _ => rfl) aq).2
    simp only [df] at h
    split at h
    ·rename_i gA ad
     rw [ad] at aQ
     have := sr aQ
     refine wp_cond this ?_
     split
     ·rename_i e; rw [if_pos e] at h; exact AM bl im.1 h aZ
     ·rename_i e; rw [if_neg e] at h; exact Kp b8 im.2 h aZ
    ·rename_i ad
     rw [ad] at aQ
     obtain ⟨gA, mi⟩ := I1 aQ
     refine wp_cond mi ?_
     split
     ·exact AM bl im.1 h.1 aZ
     ·exact Kp b8 im.2 h.2 aZ
    ·exact h.elim
   ·cases af
 | block id b ih =>
   intro dN Q s a w af im h aZ
   have lo := af
   simp only [bq, Option.map_eq_some_iff] at af
   obtain ⟨xi, ad, af⟩ := af
   rcases J.To af.symm with ⟨gA, rfl, rfl⟩ | ⟨T, b, rfl⟩
   rotate_left
   ·exact kj _ T b Q s a w im (by simpa only [J.strip] using lo) (h Q fun _ _ h => h) aZ
   refine wp_block (wp_mono (ih ad im h aZ) ?_)
   rintro e da aO ⟨aB, bP, e8⟩
   cases e with
   | exit i =>
     simp only [u1] at bP
     simp only [Exit.inBlock]
     split
     ·rename_i e; rw [if_pos e] at bP; exact ⟨aB, bP, e8⟩
     ·rename_i e; rw [if_neg e] at bP; exact ⟨aB, bP, e8⟩
   | _ => exact ⟨aB, bP, e8⟩
 | loop b ih =>
   intro dN Q s a w af im h aZ
   have lo := af
   simp only [bq, Option.map_eq_some_iff] at af
   obtain ⟨xi, ad, af⟩ := af
   rcases J.Tp af.symm with ⟨gA, rfl, rfl⟩ | ⟨T, b, rfl⟩
   rotate_left
   ·exact kj _ T b Q s a w im (by simpa only [J.strip] using lo) (h Q fun _ _ h => h) aZ
   obtain ⟨s, h, aZ⟩ := aZ.eO h
   have key := h (fun s => ∀ a w, Rel w0 F0 X n ρ s a w → ∀ (f : Frame) (k : List Item) (cs : List Frame), ∃ e da aO, sN w0 F0 X n ρ Q e da aO ∧ Arrives C.P (lone (f.at a (.code b :: .inLoop b :: k)) cs w) f k cs e da aO) ?_
   ·intro f k cs
    obtain ⟨e, da, aO, c4, rA⟩ := key a w aZ f k cs
    exact ⟨e, da, aO, c4, .of_steps (.one step_loop) rA⟩
   ·intro aB fO a w aZ f k cs
    obtain ⟨e, a₁, w₁, ⟨s1, c4, rB⟩, rA⟩ := ih ad im fO aZ f (.inLoop b :: k) cs
    cases e with
    | normal =>
      simp only [andThen] at c4
      obtain ⟨s1, c4, rB⟩ := rB.eO c4
      obtain ⟨e₂, a₂, w₂, hq₂, harr₂⟩ := c4 a₁ w₁ rB f k cs
      exact ⟨e₂, a₂, w₂, hq₂, .of_steps (Steps.trans rA (.one step_inLoop)) harr₂⟩
    | exit id => exact ⟨_, a₁, w₁, ⟨s1, c4, rB⟩, .pass (x := .inLoop b) rfl (fun _ _ => .inl (by simp)) rA⟩
    | goto l => exact ⟨_, a₁, w₁, ⟨s1, c4, rB⟩, .pass (x := .inLoop b) rfl (fun _ _ => .inl (by simp)) rA⟩
    | ret => exact ⟨_, a₁, w₁, ⟨s1, c4, rB⟩, .pass (x := .inLoop b) rfl (fun _ _ => .inl (by simp)) rA⟩
    | panic aBo => exact ⟨_, a₁, w₁, ⟨s1, c4, rB⟩, .pass (x := .inLoop b) rfl (fun _ _ => .inl (by simp)) rA⟩
    | outgrown => exact ⟨_, a₁, w₁, ⟨s1, c4, rB⟩, .pass (x := .inLoop b) rfl (fun _ _ => .inl (by simp)) rA⟩
 | exit id =>
   intro dN Q s a w af im h aZ
   have lo := af
   simp only [bq, Option.some.injEq] at af
   rcases J.Tj af.symm with rfl | ⟨T, b, rfl⟩
   ·exact wp_exit ⟨s, h, aZ⟩
   ·exact kj _ T b Q s a w im (by simpa only [J.strip] using lo) (h Q fun _ _ h => h) aZ
 | ret =>
   intro dN Q s a w af im h aZ
   have lo := af
   simp only [bq, Option.some.injEq] at af
   rcases J.Ti af.symm with rfl | ⟨T, b, rfl⟩
   ·exact wp_ret ⟨s, h, aZ⟩
   ·exact kj _ T b Q s a w im (by simpa only [J.strip] using lo) (h Q fun _ _ h => h) aZ
 | _ => intro dN Q s a w af; simp [bq] at af
theorem Kq (bz : C.Ok) (c : Code) {dN : J} {Q : Exit → ar → Prop} {s : ar} {a : Act} {w : World} (af : bq n c = some dN.strip) (ad : dN.bare (fun _ _ => False)) (h : df C dN Q s) (aZ : Rel w0 F0 X n ρ s a w) : c.wp C.P (sN w0 F0 X n ρ Q) a w :=
 FE bz (fun _ _ _ _ _ _ _ bF => bF.elim) c af ad h aZ
end
def j1 : ResultVar → Nat
 | .tmp t => t
 | .cell a _ => a
def qv (C : cE) (s : ar) : ResultVar → Option I
 | .tmp t => if (s t).tree = true then (match s t with | .tuple _ => none | d => some d) else none
 | .cell a T => match s a with
   | .bb d => if fits C T d = true ∧ d.tree = true then some d else none
   | _ => none
def Ends (C : cE) (fx : List Nat) (gl : List ResultVar) (r : I) (outs : List I) (s : ar) : Prop :=
 ∃ ds, gl.map (qv C s) = ds.map some ∧ r = (match ds with | [d] => d | ds => .tuple ds) ∧ (gl.map j1).Nodup ∧
   ∀ (i : Nat) (o : I), outs[i]? = some o → o = .hole ∨ (o = s i ∧ o.g5 = true ∧ i ∈ fx ∧ i ∉ gl.map j1)
section
variable {C : cE} {w0 w : World} {F0 X F : Nat → Prop} {S : Nat → Nat → Prop} {s : ar} {tmps : Array Value}
theorem Kr {d : I} {x : Value} (aj : ∀ vs, d ≠ .tuple vs) (h : eN d x) : cL x = il x ∧ i3 d x := by
 have : i3 d x := by cases d <;> first | exact h | exact (aj _ rfl).elim
 refine ⟨?_, this⟩
 cases d <;> first
  | (obtain ⟨a, rfl⟩ := this; rfl)
  | (simp only [i3] at this
     rw [hF this]
     cases x <;> first | rfl | (simp [Value.hf] at this))
def xQ (tmps : Array Value) : ResultVar → Sem Value
 | .tmp t => pure (tmps.getD t undef)
 | .cell a t => do loadVar t (← asAddr (tmps.getD a undef))
theorem Ts (bz : C.Ok) (h : b9 w0 F0 X F S s (fun t => tmps.getD t undef) w) {v : ResultVar} {d : I} (aQ : qv C s v = some d) :
  ∃ x, (xQ tmps v).run C.P w = .ok x w ∧ d.tree = true ∧ (∀ vs, d ≠ .tuple vs) ∧ eN d x ∧ aw w F d (cL x) (S (j1 v)) := by
 cases v with
 | tmp t =>
   simp only [qv] at aQ
   split at aQ
   ·rename_i bo
    have mP : (∀ vs, s t ≠ .tuple vs) ∧ d = s t := by
     cases af : s t <;> rw [af] at aQ <;> simp only at aQ <;> first
      | (cases aQ; done)
      | (simp only [Option.some.injEq] at aQ; exact ⟨(fun _ h => by cases h), aQ.symm⟩)
    obtain ⟨mP, rfl⟩ := mP
    obtain ⟨bc, bA⟩ := (aM.c0 bo).1 (h.eg t)
    exact ⟨_, by simp [xQ], bo, mP, bc, bA⟩
   ·cases aQ
 | cell a T =>
   simp only [qv] at aQ
   split at aQ
   ·rename_i e af
    split at aQ
    ·rename_i Tt
     obtain ⟨iu, Tu⟩ := Tt
     simp only [Option.some.injEq] at aQ; subst aQ
     have jE := h.eg a
     rw [af] at jE
     obtain ⟨bc, bA⟩ := (aM.c0 (d := .bb e) rfl).1 jE
     rw [hF bc, aw] at bA
     obtain ⟨b, cur, ty, fr, aX, ca, cy, fy, eB, gr, dH, jD⟩ := bA
     simp only [List.cons.injEq, and_true] at ca
     have kb : Rd w b 0 cur.toList := by
      have := uB fy cur.size
      rwa [List.take_of_length_le (by simp)] at this
     obtain ⟨x, dK, bj, dD⟩ := Ae (C := C) bz kb gr iu
     refine ⟨x, ?_, Tu, ?_, dD, ?_⟩
     ·simp only [xQ]
      rw [ca]
      simpa [asAddr] using dK
     ·intro vs fQ; subst fQ
      unfold fits at iu
      split at iu <;> simp_all
     ·rw [bj]; exact aw.mono (fun _ h => h) _ _ _ _ dH gr
    ·cases aQ
   ·cases aQ
theorem Tv (bz : C.Ok) (h : b9 w0 F0 X F S s (fun t => tmps.getD t undef) w) : ∀ (gl : List ResultVar) (ds : List I), gl.map (qv C s) = ds.map some → (gl.map j1).Nodup →
  ∃ xs, (gl.mapM (xQ tmps)).run C.P w = .ok xs w ∧ xs.length = ds.length ∧ bg w F ds (xs.flatMap il) (fun b => ∃ t ∈ gl.map j1, S t b) ∧
    ∀ (k : Nat) (d : I) (x : Value), ds[k]? = some d → xs[k]? = some x → eN d x ∧ (∀ vs, d ≠ .tuple vs) ∧ (il x).length = d.wd ∧ cL x = il x ∧ d.tree = true := by
 intro gl
 induction gl with
 | nil =>
   intro ds he _
   have : ds = [] := by simpa using he.symm
   subst this
   exact ⟨[], by simp, rfl, by simp only [List.flatMap_nil]; rw [bg], fun k d x aj => by simp at aj⟩
 | cons v gl ih =>
   intro ds he u4
   cases ds with
   | nil => simp at he
   | cons d ds =>
     simp only [List.map_cons, List.cons.injEq] at he
     simp only [List.map_cons, List.nodup_cons] at u4
     obtain ⟨x, dK, rt, bj, dD, ch⟩ := Ts bz h he.1
     obtain ⟨xs, hG, hg, iw, ix⟩ := ih ds he.2 u4.2
     obtain ⟨aU, ba⟩ := Kr bj dD
     refine ⟨x :: xs, by simp [List.mapM_cons, dK, hG], by simp [hg], ?_, ?_⟩
     ·simp only [List.flatMap_cons]
      rw [bg]
      rw [aU] at ch
      refine ⟨il x, xs.flatMap il, S (j1 v), fun b => ∃ t ∈ gl.map j1, S t b, rfl, ch, iw, fun b ad => ⟨j1 v, by simp, ad⟩, ?_, ?_⟩
      ·rintro b ⟨t, bo, ad⟩; exact ⟨t, by simp [bo], ad⟩
      ·rintro b ad ⟨t, bo, mi⟩
       have : t ≠ j1 v := fun e => u4.1 (e ▸ bo)
       exact h.gq t (j1 v) b this mi ad
     ·intro k bQ cA aj aq
      cases k with
      | zero =>
        simp at aj aq; subst aj aq
        refine ⟨dD, bj, ?_, aU, rt⟩
        rw [← aU]; exact aw.length _ _ _ ch
      | succ k => exact ix k bQ cA (by simpa using aj) (by simpa using aq)
theorem FF (bz : C.Ok) {f : FuncId} {fn : Func} {c : Code} {fx : List Nat} {as outs : List I} {r : I} (bF : C.P.funcs[f]? = some fn) (ad : fn.body = some c)
  (k1 : (fn.name == "runtime.NumGoroutine") = false) (a_ : as.length ≤ fn.ntmps)
  {w : World} {F X : Nat → Prop} {S : Nat → Nat → Prop} {vs : List Value} (hl : vs.length = as.length) (aZ : b9 w F X F S (g6 as) (ib vs) w)
  (FG : ∀ a, Rel w F X ⟨fn.ntmps, fx⟩ (ib vs) (g6 as) a w → (∀ t, a.tmps.getD t undef = ib vs t) → c.wp C.P (sN w F X ⟨fn.ntmps, fx⟩ (ib vs) (fun e s => (e = .normal ∨ e = .ret) ∧ eO (Ends C fx fn.results.toList r outs) s)) a w) :
  oV C.P f vs.toArray w fun v aO => ∃ b7 aX, b9 w F X b7 aX (g6 (r :: outs)) (ib (v :: vs)) aO := by
 have mO : (vs.toArray ++ Array.replicate (fn.ntmps - vs.toArray.size) undef).size = fn.ntmps := by simp; omega
 have fb : (fun t => (vs.toArray ++ Array.replicate (fn.ntmps - vs.toArray.size) undef).getD t undef) = ib vs := by
  funext t
  simp only [ib, Array.getD_eq_getD_getElem?, List.getD_eq_getElem?_getD]
  by_cases bo : t < vs.length
  ·rw [Array.getElem?_append_left (by simpa using bo)]; simp
  ·rw [Array.getElem?_append_right (by simpa using bo)]
   rw [List.getElem?_eq_none (by omega)]
   simp only [Array.getElem?_replicate]
   split <;> rfl
 have oY : Rel w F X ⟨fn.ntmps, fx⟩ (ib vs) (g6 as) { tmps := vs.toArray ++ Array.replicate (fn.ntmps - vs.toArray.size) undef, defers := [] } w :=
  ⟨rfl, mO, fun i _ => congrFun fb i, F, S, by rw [fb]; exact aZ⟩
 have FH : fn.name ≠ "runtime.NumGoroutine" := by simpa using k1
 refine .inl ⟨by simp [callFunc, bF, FH, ad], calls_of_wp bF ad (wp_mono (FG _ oY (congrFun fb)) ?_)⟩
 rintro e da aO ⟨aB, ⟨he, Tw⟩, Tx⟩
 obtain ⟨aB, ⟨ds, jM, Ks, u4, wZ⟩, aj, eM, hU, b7, aX, e8⟩ := Tx.eO Tw
 obtain ⟨xs, hG, hg, iw, ix⟩ := Tv bz e8 _ ds jM u4
 have Ty : (results fn da.tmps) = (do let vs ← fn.results.mapM (xQ da.tmps); pure (if h : vs.size = 1 then vs[0] else .tuple vs)) := by
  unfold results
  congr 1
 have sn : (results fn da.tmps).run C.P aO = .ok (if h : xs.toArray.size = 1 then xs.toArray[0] else .tuple xs.toArray) aO := by
  rw [Ty, Array.mapM_eq_mapM_toList]
  simp [hG]
 have o1 : (r.tree = true ∧ eN r (if h : xs.toArray.size = 1 then xs.toArray[0] else .tuple xs.toArray) ∧
   aw aO b7 r (cL (if h : xs.toArray.size = 1 then xs.toArray[0] else .tuple xs.toArray)) (fun b => ∃ t ∈ fn.results.toList.map j1, aX t b)) := by
  by_cases ae : ∃ d, ds = [d]
  ·obtain ⟨d, rfl⟩ := ae
   obtain ⟨x, rfl⟩ : ∃ x, xs = [x] := by
    cases xs with
    | nil => simp at hg
    | cons x xs => cases xs with
      | nil => exact ⟨x, rfl⟩
      | cons y cd => simp at hg
   obtain ⟨ca, cy, fy, eB, gr⟩ := ix 0 d x rfl rfl
   have Tz : d = r := Ks.symm
   subst Tz
   simp only [List.flatMap_cons, List.flatMap_nil, List.append_nil] at iw
   rw [bg] at iw
   obtain ⟨cD, cz, cu, ej, aU, ba, aW, cS, cZ, cn⟩ := iw
   rw [bg] at aW; subst aW
   simp only [List.append_nil] at aU; subst aU
   have aq : (if h : ([x] : List Value).toArray.size = 1 then ([x] : List Value).toArray[0] else .tuple ([x] : List Value).toArray) = x := by simp
   rw [aq, eB]
   exact ⟨gr, ca, aw.mono (fun _ h => h) _ _ _ _ cS ba⟩
  ·have AN : r = .tuple ds := by
    rw [Ks]
    cases ds with
    | nil => rfl
    | cons d ds => cases ds with
      | nil => exact (ae ⟨d, rfl⟩).elim
      | cons e ds => rfl
   have aq : (if h : xs.toArray.size = 1 then xs.toArray[0] else Value.tuple xs.toArray) = .tuple xs.toArray := by
    rw [dif_neg]
    intro eM
    have : ds.length = 1 := by rw [← hg]; simpa using eM
    obtain ⟨d, aj⟩ := List.length_eq_one_iff.1 this
    exact ae ⟨d, aj⟩
   rw [aq, AN]
   refine ⟨rfl, ⟨xs.toArray, rfl, by simpa using hg, fun k d x aj aq => ?_⟩, ?_⟩
   ·obtain ⟨ca, cy, fy, eB, _⟩ := ix k d x aj (by simpa using aq)
    exact ⟨(Kr cy ca).2, cy, fy⟩
   ·rw [aw]
    simpa [cL] using iw
 have post : ∀ (v : Value), (r.tree = true ∧ eN r v ∧ aw aO b7 r (cL v) (fun b => ∃ t ∈ fn.results.toList.map j1, aX t b)) → ∃ uX cu, b9 w F X uX cu (g6 (r :: outs)) (ib (v :: vs)) aO := by
  rintro v ⟨v1, v2, v3⟩
  have FI : ∀ i, (outs.getD i .hole).g5 = true → outs.getD i .hole = aB i ∧ i ∈ fx ∧ i ∉ fn.results.toList.map j1 := by
   intro i au
   cases b_ : outs[i]? with
   | none => simp [List.getD, b_, I.g5] at au
   | some o =>
     have e : outs.getD i .hole = o := by simp [List.getD, b_]
     rw [e] at au ⊢
     rcases wZ i o b_ with h | h
     ·subst h; simp [I.g5] at au
     ·exact ⟨h.1, h.2.2⟩
  refine ⟨b7, fun t b => match t with | 0 => ∃ t ∈ fn.results.toList.map j1, aX t b | i + 1 => (outs.getD i .hole).g5 = true ∧ aX i b, e8.hL, e8.hZ, e8.ga, ?_, ?_, ?_, ?_, ?_, e8.old, e8.size, e8.os, e8.tape, e8.output⟩
  ·intro t b ad
   cases t with
   | zero => obtain ⟨t, _, ad⟩ := ad; exact e8.fh t b ad
   | succ i => exact e8.fh i b ad.2
  ·intro t b ad
   cases t with
   | zero => obtain ⟨t, _, ad⟩ := ad; exact e8.gF t b ad
   | succ i => exact e8.gF i b ad.2
  ·intro t u b dL ad hu
   cases t with
   | zero =>
     obtain ⟨t, bo, ad⟩ := ad
     cases u with
     | zero => exact dL rfl
     | succ j =>
       refine e8.gq t j b (fun e => ?_) ad hu.2
       subst e; exact (FI t hu.1).2.2 bo
   | succ i =>
     cases u with
     | zero =>
       obtain ⟨t, bo, hu⟩ := hu
       refine e8.gq t i b (fun e => ?_) hu ad.2
       subst e; exact (FI t ad.1).2.2 bo
     | succ j => exact e8.gq i j b (by omega) ad.2 hu.2
  ·intro t b ad
   cases t with
   | zero => obtain ⟨t, _, ad⟩ := ad; exact e8.ez t b ad
   | succ i => exact e8.ez i b ad.2
  ·intro t
   cases t with
   | zero => exact (aM.c0 v1).2 ⟨v2, v3⟩
   | succ i =>
     show aM aO b7 (g6 (r :: outs)) (ib (v :: vs)) (outs.getD i .hole) (vs.getD i undef) (fun b => (outs.getD i .hole).g5 = true ∧ aX i b)
     cases au : (outs.getD i .hole).g5 with
     | false =>
       have : outs.getD i .hole = .hole := by
        cases b_ : outs[i]? with
        | none => simp [List.getD, b_]
        | some o =>
          have e : outs.getD i .hole = o := by simp [List.getD, b_]
          rw [e] at au ⊢
          rcases wZ i o b_ with h | h
          ·exact h
          ·rw [h.2.1] at au; cases au
       rw [this, aM]; trivial
     | true =>
       obtain ⟨nr, ln, oT⟩ := FI i au
       have bo := (ru au).2.1
       have jE := e8.eg i
       rw [← nr] at jE
       obtain ⟨bc, bA⟩ := (aM.c0 bo).1 jE
       have aQ : da.tmps.getD i undef = vs.getD i undef := hU i ln
       rw [aQ] at bc bA
       exact (aM.c0 bo).2 ⟨bc, aw.mono (fun _ h => h) _ _ _ _ (fun b ad => ⟨rfl, ad⟩) bA⟩
 rcases he with rfl | rfl
 ·exact ⟨aj, _, sn, _, rfl, post _ o1⟩
 ·exact ⟨aj, _, sn, _, rfl, post _ o1⟩
theorem bm.of_wp (bz : C.Ok) {f : FuncId} {fn : Func} {c : Code} {dN : J} {fx : List Nat} {as outs : List I} {r : I} (bF : C.P.funcs[f]? = some fn) (ad : fn.body = some c)
  (k1 : (fn.name == "runtime.NumGoroutine") = false) (af : bq ⟨fn.ntmps, fx⟩ c = some dN.strip) (a_ : as.length ≤ fn.ntmps)
  (h : df C dN (fun e s => (e = .normal ∨ e = .ret) ∧ eO (Ends C fx fn.results.toList r outs) s) (g6 as)) (az : dN.plain = true := by kernel_rfl) : bm C f as r outs :=
 fun w F X S vs hl aZ => FF bz bF ad k1 a_ hl aZ fun a oY _ => Kq bz c (by rw [J.FA]; exact af) (J.AK dN (J.Ki dN az)) (AL dN h) oY
end
def num : Nat → List I → List (Nat × I)
 | _, [] => []
 | k, a :: as => (k, a) :: num (k + 1) as
theorem TA : ∀ (as : List I) (k t : Nat), aa (num k as) (k + t) = as.getD t .hole := by
 intro as
 induction as with
 | nil => intro k t; simp [num, aa]
 | cons a as ih =>
   intro k t
   cases t with
   | zero => simp [num, aa]
   | succ t =>
     have := ih (k + 1) t
     simp only [num, aa]
     rw [if_neg (by omega)]
     rw [show k + (t + 1) = k + 1 + t by omega, this]
     simp
theorem FJ (as : List I) : g6 as = aa (num 0 as) := by
 funext t
 have := TA as 0 t
 rw [Nat.zero_add] at this
 rw [this]; rfl
theorem k2 (l : List (Nat × I)) (t : Nat) (d : I) : dM (aa l) t d = aa ((t, d) :: l) := by
 funext u; simp only [dM, aa]
def n9 (t : Nat) : List (Nat × I) → List (Nat × I)
 | [] => []
 | (u, d) :: l => (u, c8 t d) :: n9 t l
def sO (t : Nat) : List (Nat × I) → List (Nat × I)
 | [] => []
 | (u, d) :: l => (u, cx t d) :: sO t l
theorem u5 (t : Nat) : ∀ l : List (Nat × I), lY t (aa l) = aa (n9 t l) := by
 intro l
 funext u
 induction l with
 | nil => rfl
 | cons p l ih =>
   obtain ⟨v, d⟩ := p
   simp only [lY, aa, n9] at ih ⊢
   split
   ·rfl
   ·exact ih
theorem TB (t : Nat) : ∀ l : List (Nat × I), ji t (aa l) = aa (sO t l) := by
 intro l
 funext u
 induction l with
 | nil => rfl
 | cons p l ih =>
   obtain ⟨v, d⟩ := p
   simp only [ji, aa, sO] at ih ⊢
   split
   ·rfl
   ·exact ih
def i9 (k : List Nat) (s : ar) : List (Nat × I) := k.map fun t => (t, s t)
section
variable {C : cE} {l : List (Nat × I)}
def gI.sP : gI → Bool
 | .call _ _ => true
 | .ct _ => false
 | .iO _ => false
 | .pick _ _ _ => false
 | .ho _ => false
 | .dh _ _ => false
 | .fw _ _ => false
 | .eW _ _ _ => false
 | .cl _ _ => false
 | .gC _ _ _ => false
 | .gu _ => false
 | .ck _ _ _ _ => false
 | .un _ _ => false
 | .gH _ _ _ => false
 | .iy _ _ => false
 | .eQ _ _ _ => false
 | .fS _ _ _ _ => false
 | .c1 _ _ _ => false
 | .fv _ _ _ => false
 | .idx _ _ _ => false
 | .ex _ _ => false
 | .mm _ _ _ => false
 | .len _ _ => false
 | .app _ _ _ _ => false
 | .shr _ => true
 | .n1 _ _ _ _ => false
 | .cap _ _ => false
 | .pN _ _ _ => false
 | .bad => false
 | .mM _ _ _ _ => true
 | .kz _ _ _ => true
 | .jZ _ _ => false
 | .rq _ => false
 | .qp _ => false
variable {Q : Exit → ar → Prop}
def I.Kt : I → Bool
 | .tuple _ => true
 | _ => false
theorem Ends.one {fx : List Nat} {t : Nat} {r : I} {s : ar} (ae : s t = r) (ah : (r.tree && !r.Kt) = true) : Ends C fx [.tmp t] r [] s := by
 simp only [Bool.and_eq_true, Bool.not_eq_true'] at ah
 obtain ⟨ah, AO⟩ := ah
 have aH : ∀ vs, r ≠ .tuple vs := fun vs e => by subst e; simp [I.Kt] at AO
 refine ⟨[r], ?_, rfl, by simp, fun i o h => by simp at h⟩
 have : qv C s (.tmp t) = some r := by
  simp only [qv, ae, ah, if_true]
  try (cases r <;> first | rfl | exact (aH _ rfl).elim)
 simp only [List.map_cons, List.map_nil, this]
end
section
variable {C : cE} {l : List (Nat × I)} {Q : Exit → ar → Prop}
theorem bm.outs {f : FuncId} {as : List I} {r : I} {nr ln : List I} (h : bm C f as r nr) (he : g6 nr = g6 ln) : bm C f as r ln := by
 intro w F X S vs hl aZ
 refine oV.mono (h w F X S vs hl aZ) ?_
 rintro v aO ⟨b7, aX, bP⟩
 refine ⟨b7, aX, ?_⟩
 have : g6 (r :: ln) = g6 (r :: nr) := by
  funext t
  cases t with
  | zero => rfl
  | succ t => exact (congrFun he t).symm
 rw [this]; exact bP
def mv : List I → List I → List c5
 | a :: as, d :: ds => ⟨a, false, d, .hole⟩ :: mv as ds
 | _, _ => []
theorem TC {s : ar} : ∀ (as ds : List I), views s as = some ds → (mv as ds).map (·.a) = as ∧ (mv as ds).map (·.d) = ds ∧ (∀ p ∈ mv as ds, p.ok s ∧ p.g = false ∧ p.o = .hole ∧ p.a ∈ as) ∧ iP (mv as ds) = true ∧
  g6 ((mv as ds).map (·.o)) = g6 [] ∧ (∀ qw, fB qw (mv as ds) = qw) ∧ (∀ qw, ia qw (mv as ds) = qw) := by
 intro as
 induction as with
 | nil =>
   intro ds h
   simp only [views, Option.some.injEq] at h; subst h
   exact ⟨rfl, rfl, (fun p az => by cases az), rfl, rfl, fun _ => rfl, fun _ => rfl⟩
 | cons a as ih =>
   intro ds h
   simp only [views] at h
   split at h
   ·rename_i d TD ae ah
    simp only [Option.some.injEq] at h; subst h
    obtain ⟨aU, ba, aW, cS, cZ, cn, bV⟩ := ih TD ah
    refine ⟨by simp only [mv, List.map_cons, aU], by simp only [mv, List.map_cons, ba], ?_, ?_, ?_, ?_, ?_⟩
    ·intro p az
     simp only [mv, List.mem_cons] at az
     rcases az with rfl | az
     ·exact ⟨by simp only [c5.ok]; exact ae, rfl, rfl, by simp⟩
     ·obtain ⟨bc, bA, cU, eY⟩ := aW p az
      exact ⟨bc, bA, cU, by simp [eY]⟩
    ·simp only [mv, iP, cS, Bool.and_true, List.all_eq_true]
     intro p az
     simp [(aW p az).2.1]
    ·funext t
     cases t with
     | zero => rfl
     | succ t => exact (congrFun cZ t).trans (by simp [g6])
    ·intro qw; exact cn qw
    ·intro qw; exact bV qw
   ·cases h
end
structure gb where
 b0 : List Nat
 H : List Nat
 T : List Nat
 c : Bool
mutual
def I.clean : I → Bool
 | .hole => false
 | .fn _ cap => I.u6 cap
 | _ => true
def I.u6 : List I → Bool
 | [] => true
 | d :: ds => d.clean && I.u6 ds
end
mutual
theorem Ku {x : Nat} : ∀ a : I, (cx x a).clean = true → cx x a = a
 | .h y q, h => by
   simp only [cx] at h ⊢
   split
   ·rename_i e; rw [if_pos e] at h
    split
    ·rfl
    ·rename_i fQ; rw [if_neg fQ] at h; simp [I.clean] at h
   ·rfl
 | .az y q, h => by
   simp only [cx] at h ⊢
   split
   ·rename_i e; rw [if_pos e] at h; simp [I.clean] at h
   ·rfl
 | .ad y q, h => rfl
 | .fn f cap, h => by simp only [cx, I.clean] at h ⊢; rw [Kv cap h]
 | .hole, _ => rfl
 | .bool _, _ => rfl
 | .fu, _ => rfl
 | .int _ _, _ => rfl
 | .str _, _ => rfl
 | .dI, _ => rfl
 | .bp, _ => rfl
 | .slice _, _ => rfl
 | .ao _ _, _ => rfl
 | .ref _, _ => rfl
 | .bb _, _ => rfl
 | .agg _, _ => rfl
 | .tuple _, _ => rfl
 | .fg _, _ => rfl
theorem Kv {x : Nat} : ∀ ds : List I, I.u6 (i4 x ds) = true → i4 x ds = ds
 | [], _ => rfl
 | d :: ds, h => by
   simp only [i4, I.u6, Bool.and_eq_true] at h ⊢
   rw [Ku d h.1, Kv ds h.2]
end
mutual
theorem Kw {x : Nat} : ∀ a : I, (c8 x a).clean = true → c8 x a = a
 | .h y q, h => by
   simp only [c8] at h ⊢
   split
   ·rename_i e; rw [if_pos e] at h; simp [I.clean] at h
   ·rfl
 | .az y q, h => by
   simp only [c8] at h ⊢
   split
   ·rename_i e; rw [if_pos e] at h; simp [I.clean] at h
   ·rfl
 | .ad y q, h => by
   simp only [c8] at h ⊢
   split
   ·rename_i e; rw [if_pos e] at h; simp [I.clean] at h
   ·rfl
 | .fn f cap, h => by simp only [c8, I.clean] at h ⊢; rw [Kx cap h]
 | .hole, _ => rfl
 | .bool _, _ => rfl
 | .fu, _ => rfl
 | .int _ _, _ => rfl
 | .str _, _ => rfl
 | .dI, _ => rfl
 | .bp, _ => rfl
 | .slice _, _ => rfl
 | .ao _ _, _ => rfl
 | .ref _, _ => rfl
 | .bb _, _ => rfl
 | .agg _, _ => rfl
 | .tuple _, _ => rfl
 | .fg _, _ => rfl
theorem Kx {x : Nat} : ∀ ds : List I, I.u6 (jA x ds) = true → jA x ds = ds
 | [], _ => rfl
 | d :: ds, h => by
   simp only [jA, I.u6, Bool.and_eq_true] at h ⊢
   rw [Kw d h.1, Kx ds h.2]
end
theorem TE {k : pP} {x : Nat} {a : I} (h : (k.app x a).clean = true) : k.app x a = a := by
 cases k with
 | no => rfl
 | cx => exact Ku a h
 | c8 => exact Kw a h
theorem TF : ∀ (ms : List hy) (u : Nat) (a : I), (∀ m ∈ ms, m.x ≠ u) → (kd ms u a).clean = true → kd ms u a = a := by
 intro ms
 induction ms with
 | nil => intros; rfl
 | cons m ms ih =>
   intro u a aq ax
   simp only [kd] at ax ⊢
   have e := ih u _ (fun iv o2 => aq iv (by simp [o2])) ax
   have hm : m.at u a = m.k.app m.x a := by
    simp only [hy.at]; rw [if_neg (fun e => aq m (by simp) e.symm)]
   rw [e, hm]
   rw [e, hm] at ax
   exact TE ax
theorem TG : ∀ (ms : List hy) (u : Nat) (a : I), (∀ m ∈ ms, m.x ≠ u ∧ m.x ∉ a.af) → kd ms u a = a := by
 intro ms
 induction ms with
 | nil => intros; rfl
 | cons m ms ih =>
   intro u a aq
   simp only [kd]
   have hm : m.at u a = a := by
    simp only [hy.at]; rw [if_neg (fun e => (aq m (by simp)).1 e.symm)]
    exact xu (.inr (aq m (by simp)).2)
   rw [hm]
   exact ih u a fun iv o2 => aq iv (by simp [o2])
theorem TH (m : hy) : ∀ (ms : List hy) (u : Nat) (a : I), (∀ iv ∈ ms, iv.x ≠ m.x ∧ iv.x ∉ m.d.af ∧ m.x ∉ iv.d.af) → kd ms u (m.at u a) = m.at u (kd ms u a) := by
 intro ms
 induction ms with
 | nil => intros; rfl
 | cons n ms ih =>
   intro u a aq
   simp only [kd]
   have a_ := aq n (by simp)
   have ax : n.at u (m.at u a) = m.at u (n.at u a) := by
    simp only [hy.at]
    by_cases aU : u = n.x
    ·subst aU
     rw [if_pos rfl, if_neg a_.1, if_pos rfl]
     exact (xu (.inr a_.2.2)).symm
    ·rw [if_neg aU]
     by_cases ba : u = m.x
     ·subst ba
      rw [if_pos rfl, if_pos rfl]
      exact xu (.inr a_.2.1)
     ·rw [if_neg ba, if_neg aU, if_neg ba]
      exact R6 _ _ _ _ _
   rw [ax]
   exact ih u _ fun iv o2 => aq iv (by simp [o2])
theorem TI : ∀ (ms ll : List hy) (s : ar), (∀ m ∈ ms, ∀ n ∈ ll, n.x ≠ m.x ∧ n.x ∉ m.d.af ∧ m.x ∉ n.d.af) → dU ll (dU ms s) = dU ms (dU ll s) := by
 intro ms
 induction ms with
 | nil => intros; rfl
 | cons m ms ih =>
   intro ll s h
   have e : ∀ s, dU (m :: ms) s = dU ms (dU [m] s) := fun s => l5 [m] ms s
   rw [e, e, ih ll _ (fun iv o2 => h iv (by simp [o2]))]
   congr 1
   funext u
   simp only [dU, kd]
   exact TH m ll u _ (h m (by simp))
def FK (C : cE) (s : ar) (f : aI) (args : List aI) (K : List Nat → I → ar → Prop) : Prop :=
 ∃ (g : FuncId) (caps : List I) (ps : List c5) (r : I), aP s f = .fn g caps ∧ I.ed caps = true ∧ ps.map (·.a) = args.map (aP s) ++ caps ∧ (∀ p ∈ ps, p.ok s) ∧ iP ps = true ∧
   bm C g (ps.map (·.d)) r (ps.map (·.o)) ∧ r.res = true ∧ (kf ps = true → r.de = true ∧ ∀ p ∈ ps, p.o.de = true) ∧ K (I.e5 ((ps.filter (·.g)).map (·.a))) r (ia (fB s ps) ps)
def n_ (C : cE) (s : ar) (b1 : gI) (K : List Nat → I → ar → Prop) : Prop :=
 match b1 with
 | .call f args => ∃ (g : FuncId) (caps : List I) (ps : List c5) (r : I), aP s f = .fn g caps ∧ I.ed caps = true ∧ ps.map (·.a) = args.map (aP s) ++ caps ∧ (∀ p ∈ ps, p.ok s) ∧ iP ps = true ∧
   bm C g (ps.map (·.d)) r (ps.map (·.o)) ∧ r.res = true ∧ (kf ps = true → r.de = true ∧ ∀ p ∈ ps, p.o.de = true) ∧ K (I.e5 ((ps.filter (·.g)).map (·.a))) r (ia (fB s ps) ps)
 | .shr b1 => ∃ av s1, b3 C s b1 = some (av, s1) ∧ av.tree = true ∧ (∀ vs, av ≠ .tuple vs) ∧ K (dR s b1) av.share s1
 | .mM f args u x => s u = .h x [] ∧ (s x).own = true ∧ FK C s f args fun db av s1 => s1 u = .hole ∧ (s1 x).own = true ∧ K (u :: db) av (dM s1 u (.h x []))
 | .kz f args us => lM s (jF s us) = true ∧ FK C s f args fun db av s1 => lM s1 (jF s us) = true ∧ K (us ++ db) av (mR s1 (jF s us))
 | b1 => ∃ av s1, b3 C s b1 = some (av, s1) ∧ K (dR s b1) av s1
def jo (s : ar) (b0 : List Nat) (dst : Option Nat) (db : List Nat) (av : I) : gb :=
 ⟨b0, b0.flatMap (fun u => (s u).af) ++ av.af, dst.toList ++ db, b0.all fun u => (s u).clean⟩
def nu (C : cE) (s : ar) (o : cm) (K : gb → ar → Prop) : Prop :=
 match o.guard with
 | none => n_ C s o.b1 fun db av s1 => K (jo s (use s o.b1) o.dst db av) (fin s1 o.dst av)
 | some (t, b) => match s t with
   | .bool gA => if gA = b then n_ C s o.b1 (fun db av s1 => K (jo s (t :: use s o.b1) o.dst db av) (fin s1 o.dst av)) else K (jo s [t] o.dst [] (.tuple [])) (fin s o.dst (.tuple []))
   | .tuple [] => K (jo s [t] o.dst [] (.tuple [])) (fin s o.dst (.tuple []))
   | _ => False
def pU : Option (List gb) → gb → Option (List gb)
 | none, _ => none
 | some l, f => some (f :: l)
def cT (C : cE) (s : ar) : List cm → Option (List gb) → (Option (List gb) → ar → Prop) → Prop
 | [], acc, K => K acc s
 | o :: os, acc, K => nu C s o fun f s1 => cT C s1 os (pU acc f) K
section
variable {C : cE}
theorem Ky {s : ar} {b1 : gI} {K : List Nat → I → ar → Prop} {dS : I → ar → Prop} (aA : ∀ db av s, K db av s → dS av s) (h : n_ C s b1 K) : n7 C s b1 dS := by
 cases b1 with
 | call f args =>
   obtain ⟨g, caps, ps, r, ae, gQ, ah, aH, a6, bN, cW, cI, fM⟩ := h
   exact ⟨g, caps, ps, r, ae, gQ, ah, aH, a6, bN, cW, cI, aA _ _ _ fM⟩
 | mM f args u x =>
   obtain ⟨ca, cy, g, caps, ps, r, ae, gQ, ah, aH, a6, bN, cW, cI, fM, hQ, h5⟩ := h
   exact ⟨ca, cy, g, caps, ps, r, ae, gQ, ah, aH, a6, bN, cW, cI, fM, hQ, aA _ _ _ h5⟩
 | kz f args us =>
   obtain ⟨cy, g, caps, ps, r, ae, gQ, ah, aH, a6, bN, cW, cI, fM, hQ⟩ := h
   exact ⟨cy, g, caps, ps, r, ae, gQ, ah, aH, a6, bN, cW, cI, fM, aA _ _ _ hQ⟩
 | shr b1 =>
   obtain ⟨av, s1, ae, ah, aH, a6⟩ := h
   exact ⟨av, s1, ae, ah, aH, aA _ _ _ a6⟩
 | _ =>
   obtain ⟨av, s1, ae, ah⟩ := h
   exact ⟨av, s1, ae, aA _ _ _ ah⟩
theorem TJ {s : ar} {o : cm} {K : gb → ar → Prop} {dS : ar → Prop} (aA : ∀ f s, K f s → dS s) (h : nu C s o K) : l6 C s o dS := by
 unfold nu at h
 unfold l6
 split
 ·rename_i cb; rw [cb] at h; exact Ky (fun _ _ _ => aA _ _) h
 ·rename_i t b cb
  rw [cb] at h
  simp only at h
  split
  ·rename_i gA af
   rw [af] at h
   simp only at h
   split
   ·rename_i ad; rw [if_pos ad] at h; exact Ky (fun _ _ _ => aA _ _) h
   ·rename_i ad; rw [if_neg ad] at h; exact aA _ _ h
  ·rename_i af; rw [af] at h; exact aA _ _ h
  ·rename_i ae ah
   split at h
   ·exact ae _ (by assumption)
   ·exact ah (by assumption)
   ·exact h
theorem sQ {K : ar → Prop} : ∀ {ros : List cm} {s : ar} {acc : Option (List gb)} {dS : Option (List gb) → ar → Prop}, (∀ a s, dS a s → K s) → cT C s ros acc dS → lN C s ros K := by
 intro ros
 induction ros with
 | nil => intro s acc dS aA h; exact aA _ _ h
 | cons o ros ih => intro s acc dS aA h; exact TJ (fun f s h => ih aA h) h
theorem Kz {q : List Nat} {a d : I} (h : I.sub q a = some d) (c4 : q ≠ [] ∨ d.af = []) : a.af = [] := by
 cases q with
 | nil =>
   simp only [I.sub, Option.some.injEq] at h; subst h
   exact c4.resolve_left (fun e => e rfl)
 | cons k q => cases a <;> first | rfl | (simp [I.sub] at h)
def AP (s : ar) (p : c5) (e : I → Prop) : Prop := p.g = true → ∃ x q d, p.a = .h x q ∧ I.sub q (s x) = some d ∧ e d ∧ (p.o = .hole ∨ p.o.g5 = true)
theorem KA {d : I} (h : d.g5 = true) : d.af = [] := JZ (ru h).2.1
theorem KB {d : I} (h : d.g5 = true) : d.du.af = [] := by cases d <;> first | rfl | (simp [I.g5] at h)
theorem KC {p : c5} {ps : List c5} (h : iP (p :: ps) = true) : iP ps = true ∧ ∀ c2 ∈ ps, (p.g = true ∨ c2.g = true) → ∀ u ∈ p.a.af, u ∉ c2.a.af := by
 simp only [iP, Bool.and_eq_true, List.all_eq_true, Bool.or_eq_true, Bool.not_eq_true'] at h
 refine ⟨h.2, fun c2 fi cb u hu => ?_⟩
 rcases h.1 c2 fi with e | e
 ·rcases cb with cb | cb <;> simp [cb] at e
 ·simpa using e u hu
def qx (ps : List c5) : List Nat := I.e5 ((ps.filter (·.g)).map (·.a))
theorem u7 (p : c5) (ps : List c5) : (∀ u ∈ qx ps, u ∈ qx (p :: ps)) ∧ (p.g = true → ∀ u ∈ p.a.af, u ∈ qx (p :: ps)) := by
 unfold qx
 by_cases cb : p.g = true
 ·simp only [List.filter_cons, cb, if_true, List.map_cons, I.e5, List.mem_append]
  exact ⟨fun u h => .inr h, fun _ u h => .inl h⟩
 ·simp only [List.filter_cons, cb]
  exact ⟨fun u h => h, fun h => by simp at h⟩
theorem TK {p : c5} {ps : List c5} (h : p ∈ ps) : ∀ u ∈ p.a.af, u ∈ I.e5 (ps.map (·.a)) := by
 induction ps with
 | nil => cases h
 | cons c2 ps ih =>
   intro u hu
   simp only [List.map_cons, I.e5, List.mem_append]
   rcases List.mem_cons.1 h with rfl | h
   ·exact .inl hu
   ·exact .inr (ih h u hu)
theorem TL : ∀ (ps : List c5) (s : ar), (∀ p ∈ ps, AP s p (fun d => d = p.d ∧ p.d.g5 = true)) → iP ps = true →
  (∃ ms : List hy, (∀ m ∈ ms, m.x ∈ qx ps ∧ m.d.af = []) ∧ ∀ aB, el (I.e5 (ps.map (·.a))) aB s → fB aB ps = dU ms aB) ∧ ∀ p ∈ ps, AP (fB s ps) p (fun d => d = p.d.du ∧ p.d.g5 = true) := by
 intro ps
 induction ps with
 | nil => intro s _ _; exact ⟨⟨[], by simp, fun aB _ => rfl⟩, fun p az => by cases az⟩
 | cons p ps ih =>
   intro s cb lk
   obtain ⟨oS, n5⟩ := KC lk
   by_cases mw : p.g = true
   ·obtain ⟨x, q, d, cJ, af, ⟨rfl, aj⟩, b_⟩ := cb p (by simp) mw
    have kt : (I.put q p.d.du (s x)).af = [] := xv q _ _ _ af (.inl (ru aj).1) fun _ => KB aj
    have xR : ∀ aB : ar, aB x = s x → p.take aB = dU [⟨.cx, x, I.put q p.d.du (s x)⟩] aB := by
     intro aB e
     simp only [c5.take, mw, if_true, cJ, e, xr]
    have dL : ∀ c2 ∈ ps, ∀ cA jL, c2.a = .h cA jL → cA ≠ x := by
     intro c2 fi cA jL e fQ
     have := n5 c2 fi (.inl mw) x (by simp [cJ, I.af])
     rw [e, fQ] at this; simp [I.af] at this
    have rv : ∀ cA, cA ≠ x → (s cA).af = [] → dU [⟨.cx, x, I.put q p.d.du (s x)⟩] s cA = s cA := by
     intro cA uJ bf
     simp only [dU, kd, hy.at]
     rw [if_neg uJ]
     exact xu (.inr (by rw [bf]; simp))
    obtain ⟨⟨ms, fR, gW⟩, hS⟩ := ih (dU [⟨.cx, x, I.put q p.d.du (s x)⟩] s) (fun c2 fi FL => by
     obtain ⟨cA, jL, bQ, sI, fO, hR, xS⟩ := cb c2 (by simp [fi]) FL
     refine ⟨cA, jL, bQ, sI, ?_, hR, xS⟩
     rw [rv cA (dL c2 fi cA jL sI) (Kz fO (.inr (by rw [hR.1]; exact KA hR.2)))]; exact fO) oS
    refine ⟨⟨[⟨.cx, x, I.put q p.d.du (s x)⟩] ++ ms, ?_, ?_⟩, ?_⟩
    ·intro m hm
     rcases List.mem_append.1 hm with hm | hm
     ·simp only [List.mem_singleton] at hm; subst hm
      exact ⟨(u7 p ps).2 mw x (by simp [cJ, I.af]), kt⟩
     ·exact ⟨(u7 p ps).1 _ (fR m hm).1, (fR m hm).2⟩
    ·intro aB fO
     simp only [List.map_cons, I.e5] at fO
     have e : aB x = s x := fO x (by simp [cJ, I.af])
     rw [l5]
     show fB (p.take aB) ps = _
     rw [xR aB e]
     exact gW _ (el.dU fO.right _)
    ·have aU : fB s (p :: ps) = fB (dU [⟨.cx, x, I.put q p.d.du (s x)⟩] s) ps := by
      show fB (p.take s) ps = _
      rw [xR s rfl]
     rw [aU]
     intro c2 fi
     rcases List.mem_cons.1 fi with rfl | fi
     ·intro _
      refine ⟨x, q, c2.d.du, cJ, ?_, ⟨rfl, aj⟩, b_⟩
      have aQ : dU [⟨.cx, x, I.put q c2.d.du (s x)⟩] s x = I.put q c2.d.du (s x) := by
       simp only [dU, kd, hy.at, if_true]
      rw [Fh (by rw [aQ]; exact kt) (fun TM TN aBp => ?_), aQ]
      ·exact JW q _ _ _ af
      ·exact n5 TM TN (.inl mw) x (by simp [cJ, I.af])
     ·exact hS c2 fi
   ·have xR : ∀ aB : ar, p.take aB = aB := by intro aB; simp only [c5.take, mw]; rfl
    obtain ⟨⟨ms, fR, gW⟩, hS⟩ := ih s (fun c2 fi => cb c2 (by simp [fi])) oS
    refine ⟨⟨ms, fun m hm => ⟨(u7 p ps).1 _ (fR m hm).1, (fR m hm).2⟩, ?_⟩, ?_⟩
    ·intro aB fO
     simp only [List.map_cons, I.e5] at fO
     show fB (p.take aB) ps = _
     rw [xR]; exact gW aB fO.right
    ·intro c2 fi
     have aU : fB s (p :: ps) = fB s ps := by show fB (p.take s) ps = _; rw [xR]
     rw [aU]
     rcases List.mem_cons.1 fi with rfl | fi
     ·intro h; exact (mw h).elim
     ·exact hS c2 fi
theorem TO : ∀ (ps : List c5) (s : ar), (∀ p ∈ ps, AP s p (fun d => d = p.d.du ∧ p.d.g5 = true)) → iP ps = true →
  (∃ ms : List hy, (∀ m ∈ ms, m.x ∈ qx ps ∧ m.d.af = []) ∧ ∀ aB, el (I.e5 (ps.map (·.a))) aB s → ia aB ps = dU ms aB) := by
 intro ps
 induction ps with
 | nil => intro s _ _; exact ⟨[], by simp, fun aB _ => rfl⟩
 | cons p ps ih =>
   intro s cb lk
   obtain ⟨oS, n5⟩ := KC lk
   by_cases mw : p.g = true ∧ p.o ≠ .hole
   ·obtain ⟨mw, TP⟩ := mw
    obtain ⟨x, q, d, cJ, af, ⟨rfl, aj⟩, b_⟩ := cb p (by simp) mw
    have b_ : p.o.g5 = true := b_.resolve_left TP
    have kt : (I.put q p.o (s x)).af = [] := by
     cases q with
     | nil => simp only [I.put]; exact KA b_
     | cons k q => exact xv _ _ _ _ af (.inr (by simp)) (by simp)
    have FM : ∀ aB : ar, aB x = s x → p.i7 aB = dU [⟨.c8, x, I.put q p.o (s x)⟩] aB := by
     intro aB e
     simp only [c5.i7, mw, if_true, cJ]
     rw [e, JF]
    have dL : ∀ c2 ∈ ps, ∀ cA jL, c2.a = .h cA jL → cA ≠ x := by
     intro c2 fi cA jL e fQ
     have := n5 c2 fi (.inl mw) x (by simp [cJ, I.af])
     rw [e, fQ] at this; simp [I.af] at this
    obtain ⟨ms, fR, gW⟩ := ih (dU [⟨.c8, x, I.put q p.o (s x)⟩] s) (fun c2 fi FL => by
     obtain ⟨cA, jL, bQ, sI, fO, hR, xS⟩ := cb c2 (by simp [fi]) FL
     refine ⟨cA, jL, bQ, sI, ?_, hR, xS⟩
     have bf := Kz fO (.inr (by rw [hR.1]; exact KB hR.2))
     have rv : dU [⟨.c8, x, I.put q p.o (s x)⟩] s cA = s cA := by
      simp only [dU, kd, hy.at]
      rw [if_neg (dL c2 fi cA jL sI)]
      exact xu (.inr (by rw [bf]; simp))
     rw [rv]; exact fO) oS
    refine ⟨[⟨.c8, x, I.put q p.o (s x)⟩] ++ ms, ?_, ?_⟩
    ·intro m hm
     rcases List.mem_append.1 hm with hm | hm
     ·simp only [List.mem_singleton] at hm; subst hm
      exact ⟨(u7 p ps).2 mw x (by simp [cJ, I.af]), kt⟩
     ·exact ⟨(u7 p ps).1 _ (fR m hm).1, (fR m hm).2⟩
    ·intro aB fO
     simp only [List.map_cons, I.e5] at fO
     have e : aB x = s x := fO x (by simp [cJ, I.af])
     rw [l5]
     show ia (p.i7 aB) ps = _
     rw [FM aB e]
     exact gW _ (el.dU fO.right _)
   ·have FM : ∀ aB : ar, p.i7 aB = aB := by
     intro aB
     unfold c5.i7
     split
     ·rename_i h_
      have : p.o = .hole := by
       by_cases h : p.o = .hole
       ·exact h
       ·exact (mw ⟨h_, h⟩).elim
      rw [this]
     ·rfl
    obtain ⟨ms, fR, gW⟩ := ih s (fun c2 fi => cb c2 (by simp [fi])) oS
    refine ⟨ms, fun m hm => ⟨(u7 p ps).1 _ (fR m hm).1, (fR m hm).2⟩, ?_⟩
    intro aB fO
    simp only [List.map_cons, I.e5] at fO
    show ia (p.i7 aB) ps = _
    rw [FM]; exact gW aB fO.right
theorem TQ {s aB : ar} : ∀ (a : I) (d : I), el a.af aB s → view s a = some d → view aB a = some d := by
 intro a d h
 have := Fj (s := s) (aB := aB) a d
 intro aQ
 cases a with
 | h x q => simp only [view] at aQ ⊢; rw [h x (by simp [I.af])]; exact aQ
 | az x q => simp only [view] at aQ ⊢; rw [h x (by simp [I.af])]; exact aQ
 | fn f cap =>
   refine this (fun u hu _ => h u hu) aQ
 | _ => exact aQ
theorem TR {p : c5} {s aB : ar} (h : el p.a.af aB s) (gj : p.ok s) : p.ok aB := by
 unfold c5.ok at gj ⊢
 split
 ·rename_i cb
  rw [if_pos cb] at gj
  cases cJ : p.a with
  | h x q =>
    rw [cJ] at gj
    simp only at gj ⊢
    rw [h x (by simp [cJ, I.af])]; exact gj
  | _ => rw [cJ] at gj; exact gj.elim
 ·rename_i cb
  rw [if_neg cb] at gj
  exact TQ _ _ h gj
def AQ (C : cE) (o : cm) (s : ar) (k3 : gb) (ms : List hy) : Prop :=
 (∀ aB, el k3.b0 aB s → ∀ K : ar → Prop, K (dU ms aB) → l6 C aB o K) ∧ (∀ m ∈ ms, m.x ∈ k3.T ∧ ∀ u ∈ m.d.af, u ∈ k3.H) ∧ (∀ u ∈ k3.b0, ∀ x ∈ (s u).af, x ∈ k3.H) ∧ (k3.c = true → ∀ u ∈ k3.b0, (s u).clean = true)
theorem KD (dst : Option Nat) (av : I) : ∃ ms : List hy, (∀ m ∈ ms, m.x ∈ dst.toList ∧ m.d = av) ∧ ∀ s1 : ar, fin s1 dst av = dU ms s1 := by
 cases dst with
 | none => exact ⟨[], by simp, fun s => rfl⟩
 | some t =>
   simp only [fin]
   by_cases h : av.plain = true
   ·exact ⟨[⟨.no, t, av⟩], by simp, fun s => by rw [if_pos h, E3]⟩
   ·exact ⟨[⟨.c8, t, av⟩], by simp, fun s => by rw [if_neg h, JF]⟩
theorem AR {s : ar} {b0 : List Nat} {dst : Option Nat} {db : List Nat} {av : I} : (∀ u ∈ (jo s b0 dst db av).b0, ∀ x ∈ (s u).af, x ∈ (jo s b0 dst db av).H) ∧ ((jo s b0 dst db av).c = true → ∀ u ∈ (jo s b0 dst db av).b0, (s u).clean = true) := by
 refine ⟨fun u hu x aq => ?_, fun ax => ?_⟩
 ·simp only [jo, List.mem_append, List.mem_flatMap]; exact .inl ⟨u, hu, aq⟩
 ·simp only [jo, List.all_eq_true] at ax; exact ax
theorem FN {s : ar} {f : aI} {args : List aI} {K : List Nat → I → ar → Prop} (h : FK C s f args K) :
  ∃ db av ms, K db av (dU ms s) ∧ (∀ m ∈ ms, m.x ∈ db ∧ m.d.af = []) ∧ ∀ aB, el (use s (.call f args)) aB s → ∀ dS : I → ar → Prop, dS av (dU ms aB) → AB C aB f args dS := by
 obtain ⟨g, caps, ps, r, ae, gQ, ah, aH, a6, bN, cW, cI, fM⟩ := h
 have TS : ∀ p ∈ ps, AP s p (fun d => d = p.d ∧ p.d.g5 = true) := by
  intro p az cb
  have := aH p az
  simp only [c5.ok, cb, if_true] at this
  cases cJ : p.a with
  | h x q => rw [cJ] at this; exact ⟨x, q, p.d, rfl, this.1, ⟨rfl, this.2.1⟩, this.2.2.imp id fun h => h.1⟩
  | _ => rw [cJ] at this; exact this.elim
 obtain ⟨⟨oR, U, a7⟩, a3⟩ := TL ps s TS a6
 obtain ⟨sH, kW, iN⟩ := TO ps (fB s ps) a3 a6
 have pL : ∀ u ∈ I.e5 (ps.map (·.a)), u ∈ use s (.call f args) := by
  rw [ah]
  intro u hu
  simp only [use, List.mem_append]
  have key : ∀ (hx l2 : List I), u ∈ I.e5 (hx ++ l2) → u ∈ I.e5 hx ∨ u ∈ I.e5 l2 := by
   intro hx
   induction hx with
   | nil => intro l2 h; exact .inr h
   | cons a hx ih =>
     intro l2 h
     simp only [List.cons_append, I.e5, List.mem_append] at h ⊢
     rcases h with h | h
     ·exact .inl (.inl h)
     ·exact (ih l2 h).imp .inr id
  rcases key _ _ hu with hu | hu
  ·exact .inr (aI.Ax u hu)
  ·refine .inl (aI.sG u ?_)
   rw [ae]; exact hu
 have g4 : ia (fB s ps) ps = dU (oR ++ sH) s := by
  rw [l5, ← a7 s (fun _ _ => rfl), iN _ (fun _ _ => rfl)]
 refine ⟨qx ps, r, oR ++ sH, by rw [← g4]; exact fM, ?_, ?_⟩
 ·intro m hm
  rcases List.mem_append.1 hm with hm | hm
  ·exact U m hm
  ·exact kW m hm
 ·intro aB af dS aA
  have qs : el (I.e5 (ps.map (·.a))) aB s := af.sub pL
  have bF : el (f.use s) aB s := by simp only [use] at af; exact af.left
  have aq : el (aI.n4 s args) aB s := by simp only [use] at af; exact af.right
  have aU : ia (fB aB ps) ps = dU (oR ++ sH) aB := by
   rw [l5, ← a7 aB qs, iN]
   rw [a7 aB qs, a7 s (fun _ _ => rfl)]
   exact el.dU qs _
  exact ⟨g, caps, ps, r, by rw [aI.gJ bF]; exact ae, gQ, by rw [aI.E7 aq]; exact ah, fun p az => TR (qs.sub (TK az)) (aH p az), a6, bN, cW, cI, by rw [aU]; exact aA⟩
mutual
theorem KE {s aB : ar} : ∀ (d : I), el d.af aB s → d.gk aB = d.gk s
 | .h x q, h => by simp only [I.gk]; rw [h x (by simp [I.af])]
 | .ad x q, h => by simp only [I.gk]; rw [h x (by simp [I.af])]
 | .fn f cap, h => by simp only [I.gk]; exact KF cap (by simpa only [I.af] using h)
 | .az _ _, _ => by simp only [I.gk]
 | .hole, _ => by simp only [I.gk]
 | .bool _, _ => by simp only [I.gk]
 | .fu, _ => by simp only [I.gk]
 | .int _ _, _ => by simp only [I.gk]
 | .str _, _ => by simp only [I.gk]
 | .dI, _ => by simp only [I.gk]
 | .bp, _ => by simp only [I.gk]
 | .slice _, _ => by simp only [I.gk]
 | .ao _ _, _ => by simp only [I.gk]
 | .ref _, _ => by simp only [I.gk]
 | .bb _, _ => by simp only [I.gk]
 | .agg _, _ => by simp only [I.gk]
 | .tuple _, _ => by simp only [I.gk]
 | .fg _, _ => by simp only [I.gk]
theorem KF {s aB : ar} : ∀ (ds : List I), el (I.e5 ds) aB s → I.n6 aB ds = I.n6 s ds
 | [], _ => rfl
 | d :: ds, h => by
   simp only [I.e5] at h
   simp only [I.n6]; rw [KE d h.left, KF ds h.right]
end
theorem FO {s aB : ar} {us : List Nat} (h : el (us.flatMap fun u => u :: (s u).af) aB s) : jF aB us = jF s us := by
 unfold jF
 refine List.map_congr_left fun u hu => ?_
 rw [h u (List.mem_flatMap.2 ⟨u, hu, by simp⟩)]
theorem FP {s aB : ar} : ∀ (L : List (Nat × I)), (∀ p ∈ L, el p.2.af aB s) → lM aB L = lM s L
 | [], _ => rfl
 | p :: L, h => by
   simp only [lM]; rw [KE p.2 (h p (by simp)), FP L (fun q c4 => h q (by simp [c4]))]
theorem KG : ∀ (L : List (Nat × I)) (s : ar), mR s L = dU (L.map fun p => ⟨.no, p.1, p.2⟩) s
 | [], s => rfl
 | p :: L, s => by
   simp only [mR, List.map_cons]
   rw [KG L, E3]
   exact (l5 [⟨.no, p.1, p.2⟩] _ s).symm
theorem TT {s : ar} {b1 : gI} {K : List Nat → I → ar → Prop} (h : n_ C s b1 K) :
  ∃ db av ms, K db av (dU ms s) ∧ (∀ m ∈ ms, m.x ∈ db ∧ ∀ v ∈ m.d.af, ∃ u ∈ use s b1, v ∈ (s u).af) ∧ ∀ aB, el (use s b1) aB s → ∀ dS : I → ar → Prop, dS av (dU ms aB) → n7 C aB b1 dS := by
 have plain : (∃ av s1, b3 C s b1 = some (av, s1) ∧ K (dR s b1) av s1) → (∀ aB (dS : I → ar → Prop) av s1, b3 C aB b1 = some (av, s1) → dS av s1 → n7 C aB b1 dS) →
   ∃ db av ms, K db av (dU ms s) ∧ (∀ m ∈ ms, m.x ∈ db ∧ ∀ v ∈ m.d.af, ∃ u ∈ use s b1, v ∈ (s u).af) ∧ ∀ aB, el (use s b1) aB s → ∀ dS : I → ar → Prop, dS av (dU ms aB) → n7 C aB b1 dS := by
  rintro ⟨av, s1, ae, ah⟩ hw
  obtain ⟨ms, aU, ba, aW⟩ := JU ae
  subst aU
  exact ⟨_, av, ms, ah, fun m hm => ⟨(ba m hm).1, fun v aQ => by rw [(ba m hm).2] at aQ; cases aQ⟩, fun aB af dS aA => hw aB dS av _ (aW aB af) aA⟩
 cases b1 with
 | call f args =>
   obtain ⟨db, av, ms, U, a7, a3⟩ := FN h
   exact ⟨db, av, ms, U, fun m hm => ⟨(a7 m hm).1, fun v aQ => by rw [(a7 m hm).2] at aQ; cases aQ⟩, fun aB af dS aA => a3 aB af dS aA⟩
 | mM f args u x =>
   obtain ⟨ca, cy, ax⟩ := h
   obtain ⟨db, av, ms, ⟨U, FQ, TU⟩, a7, a3⟩ := FN ax
   have e : ∀ s : ar, dM (dU ms s) u (.h x []) = dU (ms ++ [⟨.no, u, .h x []⟩]) s := fun s => by rw [l5, ← E3]
   refine ⟨u :: db, av, ms ++ [⟨.no, u, .h x []⟩], by rw [← e]; exact TU, ?_, ?_⟩
   ·intro m hm
    rcases List.mem_append.1 hm with hm | hm
    ·exact ⟨by simp [(a7 m hm).1], fun v aQ => by rw [(a7 m hm).2] at aQ; cases aQ⟩
    ·simp only [List.mem_singleton] at hm; subst hm
     refine ⟨by simp, fun v aQ => ⟨u, by simp [use], ?_⟩⟩
     rw [ca]; exact aQ
   ·intro aB af dS aA
    have KH : aB u = s u := af u (by simp [use])
    have ex : aB x = s x := af x (by simp [use])
    refine ⟨by rw [KH]; exact ca, by rw [ex]; exact cy, a3 aB (fun y bl => af y (by simp only [use, List.mem_cons] at bl ⊢; exact .inr (.inr bl))) _ ⟨?_, ?_, ?_⟩⟩
    ·have := U; simp only [dU] at this ⊢; rw [KH]; exact this
    ·have := FQ; simp only [dU] at this ⊢; rw [ex]; exact this
    ·rw [e]; exact aA
 | kz f args us =>
   obtain ⟨cy, ax⟩ := h
   obtain ⟨db, av, ms, ⟨U, FQ⟩, a7, a3⟩ := FN ax
   have e : ∀ aB : ar, mR (dU ms aB) (jF s us) = dU (ms ++ (jF s us).map fun p => ⟨.no, p.1, p.2⟩) aB := fun aB => by rw [l5, KG]
   have kT : ∀ {aB : ar}, el (us.flatMap fun u => u :: (s u).af) aB s → ∀ p ∈ jF s us, el p.2.af aB s := fun {aB} af p az v aQ => by
    obtain ⟨u, hu, rfl⟩ := List.mem_map.1 az
    exact af v (List.mem_flatMap.2 ⟨u, hu, by simp [aQ]⟩)
   refine ⟨us ++ db, av, ms ++ (jF s us).map fun p => ⟨.no, p.1, p.2⟩, by rw [← e]; exact FQ, ?_, ?_⟩
   ·intro m hm
    rcases List.mem_append.1 hm with hm | hm
    ·exact ⟨by simp [(a7 m hm).1], fun v aQ => by rw [(a7 m hm).2] at aQ; cases aQ⟩
    ·obtain ⟨p, az, rfl⟩ := List.mem_map.1 hm
     obtain ⟨u, hu, rfl⟩ := List.mem_map.1 az
     exact ⟨List.mem_append_left _ hu, fun v aQ => ⟨u, by simp only [use, List.mem_append, List.mem_flatMap]; exact .inl ⟨u, hu, by simp⟩, aQ⟩⟩
   ·intro aB af dS aA
    simp only [use] at af
    refine ⟨by rw [FO af.left, FP _ (kT af.left)]; exact cy, a3 aB af.right _ ⟨?_, ?_⟩⟩
    ·rw [FO af.left, FP _ (fun p az => (kT af.left p az).dU ms)]; exact U
    ·rw [FO af.left, e]; exact aA
 | shr b1 =>
   obtain ⟨av, s1, ae, ah, aH, a6⟩ := h
   obtain ⟨ms, aU, ba, aW⟩ := JU ae
   subst aU
   exact ⟨_, av.share, ms, a6, fun m hm => ⟨(ba m hm).1, fun v aQ => by rw [(ba m hm).2] at aQ; cases aQ⟩, fun aB af dS aA => ⟨av, _, aW aB af, ah, aH, aA⟩⟩
 | _ => exact plain h (fun aB dS av s1 ae ah => ⟨av, s1, ae, ah⟩)
theorem TV {s : ar} {o : cm} {K : gb → ar → Prop} (h : nu C s o K) : ∃ k3 ms, K k3 (dU ms s) ∧ AQ C o s k3 ms := by
 have op : ∀ (b0 : List Nat), (∀ u ∈ use s o.b1, u ∈ b0) → (∀ aB, el b0 aB s → ∀ dS : ar → Prop, n7 C aB o.b1 (fun av s1 => dS (fin s1 o.dst av)) → l6 C aB o dS) →
   n_ C s o.b1 (fun db av s1 => K (jo s b0 o.dst db av) (fin s1 o.dst av)) → ∃ k3 ms, K k3 (dU ms s) ∧ AQ C o s k3 ms := by
  intro b0 pL ni hw
  obtain ⟨db, av, ms, ae, ah, aH⟩ := TT hw
  obtain ⟨ll, oa, bU⟩ := KD o.dst av
  refine ⟨jo s b0 o.dst db av, ms ++ ll, ?_, ?_, ?_, AR.1, AR.2⟩
  ·rw [l5, ← bU]; exact ae
  ·intro aB af dS aA
   refine ni aB af dS (aH aB (af.sub pL) _ ?_)
   rw [bU, ← l5]; exact aA
  ·intro m hm
   simp only [jo, List.mem_append]
   rcases List.mem_append.1 hm with hm | hm
   ·refine ⟨.inr (ah m hm).1, fun v aQ => .inl ?_⟩
    obtain ⟨u, hu, mj⟩ := (ah m hm).2 v aQ
    exact List.mem_flatMap.2 ⟨u, pL u hu, mj⟩
   ·exact ⟨.inl (oa m hm).1, fun u hu => .inr (by rw [(oa m hm).2] at hu; exact hu)⟩
 have skip : ∀ t, (∀ aB, el [t] aB s → ∀ dS : ar → Prop, dS (fin aB o.dst (.tuple [])) → l6 C aB o dS) → K (jo s [t] o.dst [] (.tuple [])) (fin s o.dst (.tuple [])) → ∃ k3 ms, K k3 (dU ms s) ∧ AQ C o s k3 ms := by
  intro t ni aA
  obtain ⟨ll, oa, bU⟩ := KD o.dst (.tuple [])
  refine ⟨_, ll, by rw [← bU]; exact aA, ?_, ?_, AR.1, AR.2⟩
  ·intro aB af dS lg
   exact ni aB af dS (by rw [bU]; exact lg)
  ·intro m hm
   simp only [jo, List.mem_append]
   exact ⟨.inl (oa m hm).1, fun u hu => by rw [(oa m hm).2] at hu; simp [I.af] at hu⟩
 unfold nu at h
 split at h
 ·rename_i cb
  exact op _ (fun _ h => h) (fun aB _ dS hw => by unfold l6; rw [cb]; exact hw) h
 ·rename_i t b cb
  split at h
  ·rename_i gA ad
   split at h
   ·rename_i e
    refine op (t :: use s o.b1) (fun u hu => by simp [hu]) (fun aB af dS hw => ?_) h
    have : aB t = s t := af t (by simp)
    unfold l6
    rw [cb]
    simp only [this, ad, if_pos e]
    exact hw
   ·rename_i e
    refine skip t (fun aB af dS aA => ?_) h
    have : aB t = s t := af t (by simp)
    unfold l6
    rw [cb]
    simp only [this, ad, if_neg e]
    exact aA
  ·rename_i ad
   refine skip t (fun aB af dS aA => ?_) h
   have : aB t = s t := af t (by simp)
   unfold l6
   rw [cb]
   simp only [this, ad]
   exact aA
  ·exact h.elim
def rC (C : cE) (ros : List cm) : ar → List (Nat × gb × List hy) → Prop
 | _, [] => True
 | s, e :: r => (∃ o, ros[e.1]? = some o ∧ AQ C o s e.2.1 e.2.2) ∧ rC C ros (dU e.2.2 s) r
def o3 (s : ar) (r : List (Nat × gb × List hy)) : ar := r.foldl (fun s e => dU e.2.2 s) s
def n0 (a b : List Nat) : Bool := a.all fun x => !b.contains x
theorem u9 {a b : List Nat} (h : n0 a b = true) : ∀ x ∈ a, x ∉ b := by
 intro x aq
 simp only [n0, List.all_eq_true] at h
 simpa using h x aq
def sR (a b : gb) : Bool := n0 b.T a.b0 && n0 b.T a.H && n0 b.T a.T && n0 a.T b.b0 && n0 a.T b.H && b.c
theorem TW {ros : List cm} {s : ar} {a b : Nat × gb × List hy} {r : List (Nat × gb × List hy)} (h : rC C ros s (a :: b :: r)) (au : sR a.2.1 b.2.1 = true) :
  rC C ros s (b :: a :: r) ∧ o3 s (b :: a :: r) = o3 s (a :: b :: r) := by
 obtain ⟨⟨TX, cJ, U, a7, a3, a4⟩, ⟨fg, ad, kW, iN, lh, bt⟩, aZ⟩ := h
 simp only [sR, Bool.and_eq_true] at au
 obtain ⟨⟨⟨⟨⟨mg, kQ⟩, r_⟩, D9⟩, wV⟩, Ea⟩ := au
 have FR : ∀ u ∈ b.2.1.b0, dU a.2.2 s u = s u := by
  intro u hu
  refine TF _ _ _ (fun m hm e => ?_) (bt Ea u hu)
  exact u9 D9 m.x (a7 m hm).1 (e ▸ hu)
 have FT : ∀ u ∈ a.2.1.b0, dU b.2.2 s u = s u := by
  intro u hu
  refine TG _ _ _ fun m hm => ⟨fun e => ?_, fun aq => ?_⟩
  ·exact u9 mg m.x (iN m hm).1 (e ▸ hu)
  ·exact u9 kQ m.x (iN m hm).1 (a3 u hu _ aq)
 have KI : dU b.2.2 (dU a.2.2 s) = dU a.2.2 (dU b.2.2 s) := by
  refine TI _ _ _ fun m hm n a_ => ⟨fun e => ?_, fun h => ?_, fun h => ?_⟩
  ·exact u9 r_ n.x (iN n a_).1 (e ▸ (a7 m hm).1)
  ·exact u9 kQ n.x (iN n a_).1 ((a7 m hm).2 _ h)
  ·exact u9 wV m.x (a7 m hm).1 ((iN n a_).2 _ h)
 refine ⟨⟨⟨fg, ad, ?_, iN, ?_, ?_⟩, ⟨TX, cJ, ?_, a7, ?_, ?_⟩, ?_⟩, ?_⟩
 ·intro aB af K aA
  exact kW aB (fun u hu => (af u hu).trans (FR u hu).symm) K aA
 ·intro u hu x aq
  exact lh u hu x (by rw [FR u hu]; exact aq)
 ·intro ax u hu
  have := bt ax u hu
  rwa [FR u hu] at this
 ·intro aB af K aA
  exact U aB (fun u hu => (af u hu).trans (FT u hu)) K aA
 ·intro u hu x aq
  rw [FT u hu] at aq
  exact a3 u hu x aq
 ·intro ax u hu
  rw [FT u hu]
  exact a4 ax u hu
 ·rw [← KI]; exact aZ
 ·simp only [o3, List.foldl_cons]
  rw [KI]
theorem TY {ros : List cm} {e : Nat × gb × List hy} {post : List (Nat × gb × List hy)} : ∀ (pre : List (Nat × gb × List hy)) (s : ar), rC C ros s (pre ++ e :: post) → (∀ a ∈ pre, sR a.2.1 e.2.1 = true) →
  rC C ros s (e :: (pre ++ post)) ∧ o3 s (e :: (pre ++ post)) = o3 s (pre ++ e :: post) := by
 intro pre
 induction pre with
 | nil => intro s h _; exact ⟨h, rfl⟩
 | cons a pre ih =>
   intro s h au
   obtain ⟨ae, ah⟩ := h
   obtain ⟨bc, bA⟩ := ih _ ah fun b ad => au b (by simp [ad])
   have ax : rC C ros s (a :: e :: (pre ++ post)) := ⟨ae, bc⟩
   obtain ⟨ca, cy⟩ := TW ax (au a (by simp))
   refine ⟨ca, cy.trans ?_⟩
   simp only [o3, List.foldl_cons, List.cons_append] at bA ⊢
   exact bA
end
def xT : List (List Nat) → List (List Nat) → List (List Nat)
 | done, [] => done
 | done, a :: r => xT (done ++ [a ++ a.flatMap fun e => (done[e]?).getD []]) r
def sS (hi : List (List Nat)) : List (List Nat) := xT [] hi
theorem TZ {hi : List (List Nat)} {l : List Nat} (hl : ∀ u i v, l = u ++ i :: v → ∀ e ∈ (hi[i]?).getD [], e ∈ u) : ∀ (rest pre done : List (List Nat)), hi = pre ++ rest → done.length = pre.length →
  (∀ u i v, l = u ++ i :: v → ∀ e ∈ (done[i]?).getD [], e ∈ u) → ∀ u i v, l = u ++ i :: v → ∀ e ∈ ((xT done rest)[i]?).getD [], e ∈ u := by
 intro rest
 induction rest with
 | nil => intro pre done _ _ h; exact h
 | cons a rest ih =>
   intro pre done KJ hlen h
   simp only [xT]
   refine ih (pre ++ [a]) _ (by simp [KJ]) (by simp [hlen]) ?_
   intro u i v hu e he
   by_cases au : i < done.length
   ·rw [List.getElem?_append_left au] at he
    exact h u i v hu e he
   ·rw [List.getElem?_append_right (by omega)] at he
    by_cases sE : i - done.length = 0
    ·rw [sE] at he
     simp only [List.getElem?_cons_zero, Option.getD_some, List.mem_append, List.mem_flatMap] at he
     have AS : (hi[i]?).getD [] = a := by
      have : i = pre.length := by omega
      rw [KJ, this, List.getElem?_append_right (Nat.le_refl _)]; simp
     rcases he with he | ⟨fQ, nt, he⟩
     ·exact hl u i v hu e (by rw [AS]; exact he)
     ·have xx := hl u i v hu fQ (by rw [AS]; exact nt)
      obtain ⟨rp, sC, rfl⟩ := List.append_of_mem xx
      have := h rp fQ (sC ++ i :: v) (by rw [hu]; simp) e he
      simp [this]
    ·rw [List.getElem?_eq_none (by simp; omega)] at he
     simp at he
theorem T0 {hi : List (List Nat)} {l : List Nat} (hl : ∀ u i v, l = u ++ i :: v → ∀ e ∈ (hi[i]?).getD [], e ∈ u) : ∀ u i v, l = u ++ i :: v → ∀ e ∈ ((sS hi)[i]?).getD [], e ∈ u :=
 TZ hl hi [] [] rfl rfl fun u i v _ e he => by simp at he
def mx (mU : List (List Nat)) : Nat → List (Nat × gb) → List gb → Bool
 | _, _, [] => true
 | j, es, f :: ay => (es.all fun e => ((mU[j]?).getD []).contains e.1 || sR e.2 f) && mx mU (j + 1) ((j, f) :: es) ay
def FU (mU : List (List Nat)) (a b : Nat × gb × List hy) : Prop := a.1 ∈ (mU[b.1]?).getD [] ∨ sR a.2.1 b.2.1 = true
theorem T1 {mU : List (List Nat)} : ∀ (hV : List (Nat × gb × List hy)) (j : Nat) (es : List (Nat × gb)), hV.map (·.1) = (List.range hV.length).map (· + j) → mx mU j es (hV.map (·.2.1)) = true →
  hV.Pairwise (FU mU) ∧ ∀ e ∈ es, ∀ b ∈ hV, e.1 ∈ (mU[b.1]?).getD [] ∨ sR e.2 b.2.1 = true := by
 intro hV
 induction hV with
 | nil => intro j es _ _; exact ⟨.nil, fun e _ b ad => by cases ad⟩
 | cons a hV ih =>
   intro j es sT gj
   rw [List.length_cons, List.range_succ_eq_map, List.map_cons, List.map_cons, List.map_map] at sT
   simp only [List.cons.injEq, Nat.zero_add] at sT
   obtain ⟨cH, sT⟩ := sT
   simp only [List.map_cons, mx, Bool.and_eq_true, List.all_eq_true, Bool.or_eq_true] at gj
   obtain ⟨ae, ah⟩ := gj
   obtain ⟨bc, bA⟩ := ih (j + 1) _ (by rw [sT]; congr 1; funext x; simp; omega) ah
   refine ⟨.cons (fun b ad => ?_) bc, fun e he b ad => ?_⟩
   ·have := bA (j, a.2.1) (by simp) b ad
    simp only [FU, cH]; exact this
   ·rcases List.mem_cons.1 ad with rfl | ad
    ·rw [cH]
     exact (ae e he).imp (fun h => by simpa using h) id
    ·exact bA e (by simp [he]) b ad
section
variable {C : cE}
theorem T2 {K : Option (List gb) → ar → Prop} : ∀ (os pre : List cm) (s : ar) (acc : List gb), cT C s os (some acc) K →
  ∃ hV, rC C (pre ++ os) s hV ∧ hV.map (·.1) = (List.range os.length).map (· + pre.length) ∧ K (some ((hV.map (·.2.1)).reverse ++ acc)) (o3 s hV) := by
 intro os
 induction os with
 | nil => intro pre s acc h; exact ⟨[], trivial, rfl, h⟩
 | cons o os ih =>
   intro pre s acc h
   obtain ⟨k3, ms, ae, ah⟩ := TV h
   obtain ⟨hV, bc, bA, cU⟩ := ih (pre ++ [o]) _ (k3 :: acc) ae
   refine ⟨(pre.length, k3, ms) :: hV, ⟨⟨o, ?_, ah⟩, ?_⟩, ?_, ?_⟩
   ·rw [List.getElem?_append_right (Nat.le_refl _)]; simp
   ·simpa using bc
   ·rw [List.length_cons, List.range_succ_eq_map, List.map_cons, List.map_cons, List.map_map, bA]
    simp only [List.cons.injEq, Nat.zero_add, true_and]
    congr 1; funext x; simp; omega
   ·simpa [o3] using cU
theorem T3 {ros : List cm} {mU : List (List Nat)} {K : ar → Prop} : ∀ (l : List Nat) (hV : List (Nat × gb × List hy)) (s : ar), rC C ros s hV → hV.Pairwise (FU mU) → l.Nodup → (hV.map (·.1)).Nodup →
  (∀ i, i ∈ l ↔ i ∈ hV.map (·.1)) → (∀ u i v, l = u ++ i :: v → ∀ e ∈ (mU[i]?).getD [], e ∈ hV.map (·.1) → e ∈ u) → K (o3 s hV) → kg C ros s l K := by
 intro l
 induction l with
 | nil =>
   intro hV s _ _ _ _ hm _ aA
   cases hV with
   | nil => exact aA
   | cons e hV => have := (hm e.1).2 (by simp); cases this
 | cons i l ih =>
   intro hV s ax az a_ xo hm b_ aA
   obtain ⟨e, he, au⟩ := List.mem_map.1 ((hm i).1 (by simp))
   obtain ⟨pre, post, rfl⟩ := List.append_of_mem he
   have T4 : ∀ a ∈ pre, sR a.2.1 e.2.1 = true := by
    intro a cJ
    have aZ := (List.pairwise_append.1 az).2.2 a cJ e (by simp)
    rcases aZ with aZ | aZ
    ·rw [au] at aZ
     have := b_ [] i l rfl a.1 aZ (by simp only [List.map_append, List.mem_append, List.mem_map]; exact .inl ⟨a, cJ, rfl⟩)
     cases this
    ·exact aZ
   obtain ⟨bc, bA⟩ := TY pre s ax T4
   obtain ⟨⟨o, T5, AU⟩, cU⟩ := bc
   have KK : i ∉ (pre ++ post).map (·.1) := by
    have : (pre.map (·.1) ++ e.1 :: post.map (·.1)).Nodup := by simpa using xo
    have bP := (List.perm_middle.nodup_iff.1 this)
    rw [List.nodup_cons] at bP
    rw [← au]; simpa using bP.1
   simp only [kg]
   rw [← au, T5]
   refine AU.1 s (fun _ _ => rfl) _ ?_
   rw [List.nodup_cons] at a_
   refine ih (pre ++ post) _ cU ?_ a_.2 ?_ ?_ ?_ ?_
   ·exact az.sublist ((List.Sublist.refl pre).append (List.sublist_cons_self e post))
   ·have : (pre.map (·.1) ++ e.1 :: post.map (·.1)).Nodup := by simpa using xo
    have bP := (List.perm_middle.nodup_iff.1 this)
    rw [List.nodup_cons] at bP
    simpa using bP.2
   ·intro j
    constructor
    ·intro cH
     have ae := (hm j).1 (by simp [cH])
     simp only [List.map_append, List.map_cons, List.mem_append, List.mem_cons] at ae ⊢
     rcases ae with ae | rfl | ae
     ·exact .inl ae
     ·exact (a_.1 (au ▸ cH)).elim
     ·exact .inr ae
    ·intro cH
     have ae := (hm j).2 (by
      simp only [List.map_append, List.map_cons, List.mem_append, List.mem_cons] at cH ⊢
      exact cH.imp id .inr)
     rcases List.mem_cons.1 ae with rfl | ae
     ·exact (KK cH).elim
     ·exact ae
   ·intro u j v hu x aq FV
    have ae := b_ (i :: u) j v (by rw [hu]; rfl) x aq (by
     simp only [List.map_append, List.map_cons, List.mem_append, List.mem_cons] at FV ⊢
     exact FV.imp id .inr)
    rcases List.mem_cons.1 ae with rfl | ae
    ·exact (KK FV).elim
    ·exact ae
   ·have : o3 s (e :: (pre ++ post)) = o3 (dU e.2.2 s) (pre ++ post) := rfl
    rw [← this, bA]; exact aA
theorem KL {ros : List cm} {hi : List (List Nat)} {s : ar} {K : ar → Prop} (hlen : hi.length = ros.length)
  (h : cT C s ros (some []) (fun acc s => mx (sS hi) 0 [] (acc.getD []).reverse = true ∧ K s)) : ∀ l, Fw hi l → kg C ros s l K := by
 intro l ⟨hx, l2, xA⟩
 obtain ⟨hV, bc, bA, cU, eY⟩ := T2 ros [] s [] h
 simp only [List.nil_append, List.append_nil, List.length_nil, Option.getD_some, List.reverse_reverse] at bc bA cU
 have hl : hV.length = ros.length := by have := congrArg List.length bA; simpa using this
 have sT : hV.map (·.1) = (List.range hV.length).map (· + 0) := by rw [bA, hl]
 have aZ : hV.map (·.1) = List.range ros.length := by rw [bA]; simp
 obtain ⟨f_, _⟩ := T1 hV 0 [] sT cU
 refine T3 l hV s bc f_ hx (by rw [aZ]; exact List.nodup_range) (fun i => ?_) (fun u i v hu e he _ => T0 xA u i v hu e he) eY
 rw [aZ, l2, hlen, List.mem_range]
end
def et (C : cE) (dst : Option Nat) (os : List cm) (K : Option (List gb) → ar → Prop) : Option (I × ar) → Prop
 | some (av, s1) => cT C (fin s1 dst av) os none K
 | none => False
def eu (C : cE) (l : List (Nat × I)) (b0 db : List Nat) (dst : Option Nat) (os : List cm) (a : List gb) (K : Option (List gb) → ar → Prop) : Option (I × ar) → Prop
 | some (av, s1) => cT C (fin s1 dst av) os (some (jo (aa l) b0 dst db av :: a)) K
 | none => False
def cY (C : cE) (l : List (Nat × I)) (dst : Option Nat) (b1 : gI) (t : Nat) (b : Bool) (os : List cm) (acc : Option (List gb)) (K : Option (List gb) → ar → Prop) : I → Prop
 | .bool gA => if gA = b then n_ C (aa l) b1 (fun db av s1 => cT C (fin s1 dst av) os (pU acc (jo (aa l) (t :: use (aa l) b1) dst db av)) K) else cT C (fin (aa l) dst (.tuple [])) os (pU acc (jo (aa l) [t] dst [] (.tuple []))) K
 | .tuple [] => cT C (fin (aa l) dst (.tuple [])) os (pU acc (jo (aa l) [t] dst [] (.tuple []))) K
 | _ => False
section
variable {C : cE} {l : List (Nat × I)} {os : List cm} {K : Option (List gb) → ar → Prop} {dst : Option Nat} {a : List gb} {acc : Option (List gb)}
theorem AV {s : ar} {b1 : gI} {K : List Nat → I → ar → Prop} (a_ : b1.sP = false) : n_ C s b1 K = (match b3 C s b1 with
  | some (av, s1) => K (dR s b1) av s1
  | none => False) := by
 apply propext
 constructor
 ·intro h
  cases b1 <;> first
   | (simp [gI.sP] at a_; done)
   | (obtain ⟨av, s1, ae, ah⟩ := h; rw [ae]; exact ah)
 ·intro h
  split at h
  ·rename_i av s1 he
   cases b1 <;> first
    | (simp [gI.sP] at a_; done)
    | exact ⟨av, s1, he, h⟩
  ·exact h.elim
theorem KM : cT C (aa l) [] acc K = K acc (aa l) := rfl
theorem jO {b1 : gI} (a_ : b1.sP = false) : cT C (aa l) (⟨dst, b1, none⟩ :: os) none K = et C dst os K (b3 C (aa l) b1) := by
 simp only [cT, nu, pU]
 rw [AV a_]
 cases b3 C (aa l) b1 with
 | none => rfl
 | some p => rfl
theorem j2 {b1 : gI} (a_ : b1.sP = false) : cT C (aa l) (⟨dst, b1, none⟩ :: os) (some a) K = eu C l (use (aa l) b1) (dR (aa l) b1) dst os a K (b3 C (aa l) b1) := by
 simp only [cT, nu, pU]
 rw [AV a_]
 cases b3 C (aa l) b1 with
 | none => rfl
 | some p => rfl
theorem KN {b1 : gI} {t : Nat} {b : Bool} : cT C (aa l) (⟨dst, b1, some (t, b)⟩ :: os) acc K = cY C l dst b1 t b os acc K (aa l t) := by
 simp only [cT, nu]
 generalize aa l t = v
 cases v <;> first | rfl | (rename_i vs; cases vs <;> rfl)
theorem gv {b1 : gI} {t : Nat} {b : Bool} (a_ : b1.sP = false) : cY C l dst b1 t b os none K (.bool b) = et C dst os K (b3 C (aa l) b1) := by
 simp only [cY, if_true]
 rw [AV a_]
 cases b3 C (aa l) b1 with
 | none => rfl
 | some p => rfl
theorem gw {b1 : gI} {t : Nat} {b : Bool} (a_ : b1.sP = false) : cY C l dst b1 t b os (some a) K (.bool b) = eu C l (t :: use (aa l) b1) (dR (aa l) b1) dst os a K (b3 C (aa l) b1) := by
 simp only [cY, if_true]
 rw [AV a_]
 cases b3 C (aa l) b1 with
 | none => rfl
 | some p => rfl
theorem T6 {b1 : gI} {t : Nat} : cY C l dst b1 t true os none K (.bool false) = cT C (fin (aa l) dst (.tuple [])) os none K ∧ cY C l dst b1 t false os none K (.bool true) = cT C (fin (aa l) dst (.tuple [])) os none K ∧
  (∀ b, cY C l dst b1 t b os none K (.tuple []) = cT C (fin (aa l) dst (.tuple [])) os none K) := ⟨rfl, rfl, fun _ => rfl⟩
theorem T7 {b1 : gI} {t : Nat} : cY C l dst b1 t true os (some a) K (.bool false) = cT C (fin (aa l) dst (.tuple [])) os (some (jo (aa l) [t] dst [] (.tuple []) :: a)) K ∧
  cY C l dst b1 t false os (some a) K (.bool true) = cT C (fin (aa l) dst (.tuple [])) os (some (jo (aa l) [t] dst [] (.tuple []) :: a)) K ∧
  (∀ b, cY C l dst b1 t b os (some a) K (.tuple []) = cT C (fin (aa l) dst (.tuple [])) os (some (jo (aa l) [t] dst [] (.tuple []) :: a)) K) := ⟨rfl, rfl, fun _ => rfl⟩
theorem T8 (av : I) (s1 : ar) : et C dst os K (some (av, s1)) = cT C (fin s1 dst av) os none K := rfl
theorem T9 (b0 db : List Nat) (av : I) (s1 : ar) : eu C l b0 db dst os a K (some (av, s1)) = cT C (fin s1 dst av) os (some (jo (aa l) b0 dst db av :: a)) K := rfl
def jG (s : ar) : I → Option (I × ar)
 | .h y q => db s (.h y q)
 | d => some (d, s)
def rD (s : ar) : I → I → I → Option (I × ar)
 | .bool gA, x, y => some (if gA then x else y, s)
 | _, _, _ => none
def dt (s : ar) : Option I → Option (I × ar)
 | some d => some (d, s)
 | none => none
def dZ : Option ar → Option (I × ar)
 | some s1 => some (.hole, s1)
 | none => none
def iB (s : ar) : List aI → List I
 | [] => []
 | x :: xs => aP s x :: iB s xs
def kB (s : ar) : List (Nat × aI) → List (Nat × I)
 | [] => []
 | (k, x) :: xs => (k, aP s x) :: kB s xs
def lO (s : ar) : Option aI → Option I
 | none => none
 | some x => some (aP s x)
theorem ob (s : ar) (x : Option I) : (x.map fun d => (d, s)) = dt s x := by cases x <;> rfl
theorem T_ (x : Option ar) : (x.map fun s1 => (I.hole, s1)) = dZ x := by cases x <;> rfl
theorem u_ (s : ar) : ∀ xs : List aI, xs.map (aP s) = iB s xs
 | [] => rfl
 | x :: xs => by simp only [List.map_cons, iB, u_ s xs]
theorem FW (s : ar) : ∀ xs : List (Nat × aI), (xs.map fun p => (p.1, aP s p.2)) = kB s xs
 | [] => rfl
 | (k, x) :: xs => by simp only [List.map_cons, kB, FW s xs]
theorem Ua (s : ar) (x : Option aI) : x.map (aP s) = lO s x := by cases x <;> rfl
theorem va (x : aI) : b3 C (aa l) (.ct x) = some (aP (aa l) x, aa l) := by
 rfl
theorem vb (x : aI) : b3 C (aa l) (.iO x) = jG (aa l) (aP (aa l) x) := by
 simp only [b3]; cases aP (aa l) x <;> rfl
theorem vc (c x y : aI) : b3 C (aa l) (.pick c x y) = rD (aa l) (aP (aa l) c) (aP (aa l) x) (aP (aa l) y) := by
 simp only [b3]; cases aP (aa l) c <;> first | rfl | (rename_i b; cases b <;> rfl)
theorem vd (T : TypeId) : b3 C (aa l) (.ho T) = dt (aa l) (ho C T) := by
 simp only [b3, ob]
theorem ve (T : TypeId) (x : aI) : b3 C (aa l) (.dh T x) = dh (aa l) (aP (aa l) x) := by
 rfl
theorem vf (T : TypeId) (ps : List (Nat × aI)) : b3 C (aa l) (.fw T ps) = fw C (aa l) T (kB (aa l) ps) := by
 simp only [b3, FW]
theorem vg (T : TypeId) (n : Nat) (ps : List (Nat × aI)) : b3 C (aa l) (.eW T n ps) = eW C (aa l) T n (kB (aa l) ps) := by
 simp only [b3, FW]
theorem vh (T : TypeId) (x : aI) : b3 C (aa l) (.cl T x) = dt (aa l) (cl C (aa l) T (aP (aa l) x)) := by
 simp only [b3, ob]
theorem vi (T : TypeId) (x y : aI) : b3 C (aa l) (.gC T x y) = dZ (gC C (aa l) T (aP (aa l) x) (aP (aa l) y)) := by
 simp only [b3, T_]
theorem vj (x : aI) : b3 C (aa l) (.gu x) = dt (aa l) (gu (aa l) (aP (aa l) x)) := by
 simp only [b3, ob]
theorem vk (op : BinOp) (T : TypeId) (x y : aI) : b3 C (aa l) (.ck op T x y) = dt (aa l) (ck C (aa l) op T (aP (aa l) x) (aP (aa l) y)) := by
 simp only [b3, ob]
theorem vl (op : UnOp) (x : aI) : b3 C (aa l) (.un op x) = dt (aa l) (un op (aP (aa l) x)) := by
 simp only [b3, ob]
theorem vm (A B : TypeId) (x : aI) : b3 C (aa l) (.gH A B x) = dt (aa l) (gH C (aa l) A B (aP (aa l) x)) := by
 simp only [b3, ob]
theorem vn (f : FuncId) (cs : List aI) : b3 C (aa l) (.iy f cs) = some (.fn f (iB (aa l) cs), aa l) := by
 simp only [b3, u_]
theorem vo (T : TypeId) (x y : aI) : b3 C (aa l) (.eQ T x y) = dt (aa l) (eQ C T (aP (aa l) x) (aP (aa l) y)) := by
 simp only [b3, ob]
theorem vp (T : TypeId) (x : aI) (dB au : Option aI) : b3 C (aa l) (.fS T x dB au) = fS C (aa l) T (aP (aa l) x) (lO (aa l) dB) (lO (aa l) au) := by
 simp only [b3, Ua]
theorem vq (T : TypeId) (x : aI) (k : Nat) : b3 C (aa l) (.c1 T x k) = dt (aa l) (c1 C (aa l) T (aP (aa l) x) k) := by
 simp only [b3, ob]
theorem vr (T : TypeId) (x y : aI) : b3 C (aa l) (.fv T x y) = dt (aa l) (fv C (aa l) T (aP (aa l) x) (aP (aa l) y)) := by
 simp only [b3, ob]
theorem vt (T : TypeId) (x y : aI) : b3 C (aa l) (.idx T x y) = dt (aa l) (idx C T (aP (aa l) x) (aP (aa l) y)) := by
 simp only [b3, ob]
theorem vu (x : aI) (k : Nat) : b3 C (aa l) (.ex x k) = dt (aa l) (ex (aa l) (aP (aa l) x) k) := by
 simp only [b3, ob]
theorem vv (T : TypeId) (x : aI) : b3 C (aa l) (.len T x) = dt (aa l) (mn C (aa l) T (aP (aa l) x)) := by
 simp only [b3, ob]
theorem vw (T b0 : TypeId) (x y : aI) : b3 C (aa l) (.app T b0 x y) = mq C (aa l) T b0 (aP (aa l) x) (aP (aa l) y) := by
 rfl
theorem Ub :
  (∀ (x : aI) , cT C (aa l) (⟨dst, .ct x, none⟩ :: os) none K = et C dst os K (some (aP (aa l) x, aa l))) ∧
  (∀ (x : aI) , cT C (aa l) (⟨dst, .iO x, none⟩ :: os) none K = et C dst os K (jG (aa l) (aP (aa l) x))) ∧
  (∀ (c x y : aI) , cT C (aa l) (⟨dst, .pick c x y, none⟩ :: os) none K = et C dst os K (rD (aa l) (aP (aa l) c) (aP (aa l) x) (aP (aa l) y))) ∧
  (∀ (T : TypeId) , cT C (aa l) (⟨dst, .ho T, none⟩ :: os) none K = et C dst os K (dt (aa l) (ho C T))) ∧
  (∀ (T : TypeId) (x : aI) , cT C (aa l) (⟨dst, .dh T x, none⟩ :: os) none K = et C dst os K (dh (aa l) (aP (aa l) x))) ∧
  (∀ (T : TypeId) (ps : List (Nat × aI)) , cT C (aa l) (⟨dst, .fw T ps, none⟩ :: os) none K = et C dst os K (fw C (aa l) T (kB (aa l) ps))) ∧
  (∀ (T : TypeId) (n : Nat) (ps : List (Nat × aI)) , cT C (aa l) (⟨dst, .eW T n ps, none⟩ :: os) none K = et C dst os K (eW C (aa l) T n (kB (aa l) ps))) ∧
  (∀ (T : TypeId) (x : aI) , cT C (aa l) (⟨dst, .cl T x, none⟩ :: os) none K = et C dst os K (dt (aa l) (cl C (aa l) T (aP (aa l) x)))) ∧
  (∀ (T : TypeId) (x y : aI) , cT C (aa l) (⟨dst, .gC T x y, none⟩ :: os) none K = et C dst os K (dZ (gC C (aa l) T (aP (aa l) x) (aP (aa l) y)))) ∧
  (∀ (x : aI) , cT C (aa l) (⟨dst, .gu x, none⟩ :: os) none K = et C dst os K (dt (aa l) (gu (aa l) (aP (aa l) x)))) ∧
  (∀ (op : BinOp) (T : TypeId) (x y : aI) , cT C (aa l) (⟨dst, .ck op T x y, none⟩ :: os) none K = et C dst os K (dt (aa l) (ck C (aa l) op T (aP (aa l) x) (aP (aa l) y)))) ∧
  (∀ (op : UnOp) (x : aI) , cT C (aa l) (⟨dst, .un op x, none⟩ :: os) none K = et C dst os K (dt (aa l) (un op (aP (aa l) x)))) ∧
  (∀ (A B : TypeId) (x : aI) , cT C (aa l) (⟨dst, .gH A B x, none⟩ :: os) none K = et C dst os K (dt (aa l) (gH C (aa l) A B (aP (aa l) x)))) ∧
  (∀ (f : FuncId) (cs : List aI) , cT C (aa l) (⟨dst, .iy f cs, none⟩ :: os) none K = et C dst os K (some (.fn f (iB (aa l) cs), aa l))) ∧
  (∀ (T : TypeId) (x y : aI) , cT C (aa l) (⟨dst, .eQ T x y, none⟩ :: os) none K = et C dst os K (dt (aa l) (eQ C T (aP (aa l) x) (aP (aa l) y)))) ∧
  (∀ (T : TypeId) (x : aI) (dB au : Option aI) , cT C (aa l) (⟨dst, .fS T x dB au, none⟩ :: os) none K = et C dst os K (fS C (aa l) T (aP (aa l) x) (lO (aa l) dB) (lO (aa l) au))) ∧
  (∀ (T : TypeId) (x : aI) (k : Nat) , cT C (aa l) (⟨dst, .c1 T x k, none⟩ :: os) none K = et C dst os K (dt (aa l) (c1 C (aa l) T (aP (aa l) x) k))) ∧
  (∀ (T : TypeId) (x y : aI) , cT C (aa l) (⟨dst, .fv T x y, none⟩ :: os) none K = et C dst os K (dt (aa l) (fv C (aa l) T (aP (aa l) x) (aP (aa l) y)))) ∧
  (∀ (T : TypeId) (x y : aI) , cT C (aa l) (⟨dst, .idx T x y, none⟩ :: os) none K = et C dst os K (dt (aa l) (idx C T (aP (aa l) x) (aP (aa l) y)))) ∧
  (∀ (x : aI) (k : Nat) , cT C (aa l) (⟨dst, .ex x k, none⟩ :: os) none K = et C dst os K (dt (aa l) (ex (aa l) (aP (aa l) x) k))) ∧
  (∀ (T : TypeId) (x : aI) , cT C (aa l) (⟨dst, .len T x, none⟩ :: os) none K = et C dst os K (dt (aa l) (mn C (aa l) T (aP (aa l) x)))) ∧
  (∀ (T b0 : TypeId) (x y : aI) , cT C (aa l) (⟨dst, .app T b0 x y, none⟩ :: os) none K = et C dst os K (mq C (aa l) T b0 (aP (aa l) x) (aP (aa l) y))) :=
 ⟨fun x => (jO rfl).trans (congrArg _ (va x)), fun x => (jO rfl).trans (congrArg _ (vb x)), fun c x y => (jO rfl).trans (congrArg _ (vc c x y)), fun T => (jO rfl).trans (congrArg _ (vd T)), fun T x => (jO rfl).trans (congrArg _ (ve T x)), fun T ps => (jO rfl).trans (congrArg _ (vf T ps)), fun T n ps => (jO rfl).trans (congrArg _ (vg T n ps)), fun T x => (jO rfl).trans (congrArg _ (vh T x)), fun T x y => (jO rfl).trans (congrArg _ (vi T x y)), fun x => (jO rfl).trans (congrArg _ (vj x)), fun op T x y => (jO rfl).trans (congrArg _ (vk op T x y)), fun op x => (jO rfl).trans (congrArg _ (vl op x)), fun A B x => (jO rfl).trans (congrArg _ (vm A B x)), fun f cs => (jO rfl).trans (congrArg _ (vn f cs)), fun T x y => (jO rfl).trans (congrArg _ (vo T x y)), fun T x dB au => (jO rfl).trans (congrArg _ (vp T x dB au)), fun T x k => (jO rfl).trans (congrArg _ (vq T x k)), fun T x y => (jO rfl).trans (congrArg _ (vr T x y)), fun T x y => (jO rfl).trans (congrArg _ (vt T x y)), fun x k => (jO rfl).trans (congrArg _ (vu x k)), fun T x => (jO rfl).trans (congrArg _ (vv T x)), fun T b0 x y => (jO rfl).trans (congrArg _ (vw T b0 x y))⟩
theorem Uc :
  (∀ (x : aI) , cT C (aa l) (⟨dst, .ct x, none⟩ :: os) (some a) K = eu C l (use (aa l) (.ct x)) (dR (aa l) (.ct x)) dst os a K (some (aP (aa l) x, aa l))) ∧
  (∀ (x : aI) , cT C (aa l) (⟨dst, .iO x, none⟩ :: os) (some a) K = eu C l (use (aa l) (.iO x)) (dR (aa l) (.iO x)) dst os a K (jG (aa l) (aP (aa l) x))) ∧
  (∀ (c x y : aI) , cT C (aa l) (⟨dst, .pick c x y, none⟩ :: os) (some a) K = eu C l (use (aa l) (.pick c x y)) (dR (aa l) (.pick c x y)) dst os a K (rD (aa l) (aP (aa l) c) (aP (aa l) x) (aP (aa l) y))) ∧
  (∀ (T : TypeId) , cT C (aa l) (⟨dst, .ho T, none⟩ :: os) (some a) K = eu C l (use (aa l) (.ho T)) (dR (aa l) (.ho T)) dst os a K (dt (aa l) (ho C T))) ∧
  (∀ (T : TypeId) (x : aI) , cT C (aa l) (⟨dst, .dh T x, none⟩ :: os) (some a) K = eu C l (use (aa l) (.dh T x)) (dR (aa l) (.dh T x)) dst os a K (dh (aa l) (aP (aa l) x))) ∧
  (∀ (T : TypeId) (ps : List (Nat × aI)) , cT C (aa l) (⟨dst, .fw T ps, none⟩ :: os) (some a) K = eu C l (use (aa l) (.fw T ps)) (dR (aa l) (.fw T ps)) dst os a K (fw C (aa l) T (kB (aa l) ps))) ∧
  (∀ (T : TypeId) (n : Nat) (ps : List (Nat × aI)) , cT C (aa l) (⟨dst, .eW T n ps, none⟩ :: os) (some a) K = eu C l (use (aa l) (.eW T n ps)) (dR (aa l) (.eW T n ps)) dst os a K (eW C (aa l) T n (kB (aa l) ps))) ∧
  (∀ (T : TypeId) (x : aI) , cT C (aa l) (⟨dst, .cl T x, none⟩ :: os) (some a) K = eu C l (use (aa l) (.cl T x)) (dR (aa l) (.cl T x)) dst os a K (dt (aa l) (cl C (aa l) T (aP (aa l) x)))) ∧
  (∀ (T : TypeId) (x y : aI) , cT C (aa l) (⟨dst, .gC T x y, none⟩ :: os) (some a) K = eu C l (use (aa l) (.gC T x y)) (dR (aa l) (.gC T x y)) dst os a K (dZ (gC C (aa l) T (aP (aa l) x) (aP (aa l) y)))) ∧
  (∀ (x : aI) , cT C (aa l) (⟨dst, .gu x, none⟩ :: os) (some a) K = eu C l (use (aa l) (.gu x)) (dR (aa l) (.gu x)) dst os a K (dt (aa l) (gu (aa l) (aP (aa l) x)))) ∧
  (∀ (op : BinOp) (T : TypeId) (x y : aI) , cT C (aa l) (⟨dst, .ck op T x y, none⟩ :: os) (some a) K = eu C l (use (aa l) (.ck op T x y)) (dR (aa l) (.ck op T x y)) dst os a K (dt (aa l) (ck C (aa l) op T (aP (aa l) x) (aP (aa l) y)))) ∧
  (∀ (op : UnOp) (x : aI) , cT C (aa l) (⟨dst, .un op x, none⟩ :: os) (some a) K = eu C l (use (aa l) (.un op x)) (dR (aa l) (.un op x)) dst os a K (dt (aa l) (un op (aP (aa l) x)))) ∧
  (∀ (A B : TypeId) (x : aI) , cT C (aa l) (⟨dst, .gH A B x, none⟩ :: os) (some a) K = eu C l (use (aa l) (.gH A B x)) (dR (aa l) (.gH A B x)) dst os a K (dt (aa l) (gH C (aa l) A B (aP (aa l) x)))) ∧
  (∀ (f : FuncId) (cs : List aI) , cT C (aa l) (⟨dst, .iy f cs, none⟩ :: os) (some a) K = eu C l (use (aa l) (.iy f cs)) (dR (aa l) (.iy f cs)) dst os a K (some (.fn f (iB (aa l) cs), aa l))) ∧
  (∀ (T : TypeId) (x y : aI) , cT C (aa l) (⟨dst, .eQ T x y, none⟩ :: os) (some a) K = eu C l (use (aa l) (.eQ T x y)) (dR (aa l) (.eQ T x y)) dst os a K (dt (aa l) (eQ C T (aP (aa l) x) (aP (aa l) y)))) ∧
  (∀ (T : TypeId) (x : aI) (dB au : Option aI) , cT C (aa l) (⟨dst, .fS T x dB au, none⟩ :: os) (some a) K = eu C l (use (aa l) (.fS T x dB au)) (dR (aa l) (.fS T x dB au)) dst os a K (fS C (aa l) T (aP (aa l) x) (lO (aa l) dB) (lO (aa l) au))) ∧
  (∀ (T : TypeId) (x : aI) (k : Nat) , cT C (aa l) (⟨dst, .c1 T x k, none⟩ :: os) (some a) K = eu C l (use (aa l) (.c1 T x k)) (dR (aa l) (.c1 T x k)) dst os a K (dt (aa l) (c1 C (aa l) T (aP (aa l) x) k))) ∧
  (∀ (T : TypeId) (x y : aI) , cT C (aa l) (⟨dst, .fv T x y, none⟩ :: os) (some a) K = eu C l (use (aa l) (.fv T x y)) (dR (aa l) (.fv T x y)) dst os a K (dt (aa l) (fv C (aa l) T (aP (aa l) x) (aP (aa l) y)))) ∧
  (∀ (T : TypeId) (x y : aI) , cT C (aa l) (⟨dst, .idx T x y, none⟩ :: os) (some a) K = eu C l (use (aa l) (.idx T x y)) (dR (aa l) (.idx T x y)) dst os a K (dt (aa l) (idx C T (aP (aa l) x) (aP (aa l) y)))) ∧
  (∀ (x : aI) (k : Nat) , cT C (aa l) (⟨dst, .ex x k, none⟩ :: os) (some a) K = eu C l (use (aa l) (.ex x k)) (dR (aa l) (.ex x k)) dst os a K (dt (aa l) (ex (aa l) (aP (aa l) x) k))) ∧
  (∀ (T : TypeId) (x : aI) , cT C (aa l) (⟨dst, .len T x, none⟩ :: os) (some a) K = eu C l (use (aa l) (.len T x)) (dR (aa l) (.len T x)) dst os a K (dt (aa l) (mn C (aa l) T (aP (aa l) x)))) ∧
  (∀ (T b0 : TypeId) (x y : aI) , cT C (aa l) (⟨dst, .app T b0 x y, none⟩ :: os) (some a) K = eu C l (use (aa l) (.app T b0 x y)) (dR (aa l) (.app T b0 x y)) dst os a K (mq C (aa l) T b0 (aP (aa l) x) (aP (aa l) y))) :=
 ⟨fun x => (j2 rfl).trans (congrArg _ (va x)), fun x => (j2 rfl).trans (congrArg _ (vb x)), fun c x y => (j2 rfl).trans (congrArg _ (vc c x y)), fun T => (j2 rfl).trans (congrArg _ (vd T)), fun T x => (j2 rfl).trans (congrArg _ (ve T x)), fun T ps => (j2 rfl).trans (congrArg _ (vf T ps)), fun T n ps => (j2 rfl).trans (congrArg _ (vg T n ps)), fun T x => (j2 rfl).trans (congrArg _ (vh T x)), fun T x y => (j2 rfl).trans (congrArg _ (vi T x y)), fun x => (j2 rfl).trans (congrArg _ (vj x)), fun op T x y => (j2 rfl).trans (congrArg _ (vk op T x y)), fun op x => (j2 rfl).trans (congrArg _ (vl op x)), fun A B x => (j2 rfl).trans (congrArg _ (vm A B x)), fun f cs => (j2 rfl).trans (congrArg _ (vn f cs)), fun T x y => (j2 rfl).trans (congrArg _ (vo T x y)), fun T x dB au => (j2 rfl).trans (congrArg _ (vp T x dB au)), fun T x k => (j2 rfl).trans (congrArg _ (vq T x k)), fun T x y => (j2 rfl).trans (congrArg _ (vr T x y)), fun T x y => (j2 rfl).trans (congrArg _ (vt T x y)), fun x k => (j2 rfl).trans (congrArg _ (vu x k)), fun T x => (j2 rfl).trans (congrArg _ (vv T x)), fun T b0 x y => (j2 rfl).trans (congrArg _ (vw T b0 x y))⟩
theorem Ud :
  (∀ (x : aI) (t : Nat), cY C l dst (.ct x) t true os none K (.bool true) = et C dst os K (some (aP (aa l) x, aa l))) ∧
  (∀ (x : aI) (t : Nat), cY C l dst (.ct x) t false os none K (.bool false) = et C dst os K (some (aP (aa l) x, aa l))) ∧
  (∀ (x : aI) (t : Nat), cY C l dst (.iO x) t true os none K (.bool true) = et C dst os K (jG (aa l) (aP (aa l) x))) ∧
  (∀ (x : aI) (t : Nat), cY C l dst (.iO x) t false os none K (.bool false) = et C dst os K (jG (aa l) (aP (aa l) x))) ∧
  (∀ (c x y : aI) (t : Nat), cY C l dst (.pick c x y) t true os none K (.bool true) = et C dst os K (rD (aa l) (aP (aa l) c) (aP (aa l) x) (aP (aa l) y))) ∧
  (∀ (c x y : aI) (t : Nat), cY C l dst (.pick c x y) t false os none K (.bool false) = et C dst os K (rD (aa l) (aP (aa l) c) (aP (aa l) x) (aP (aa l) y))) ∧
  (∀ (T : TypeId) (t : Nat), cY C l dst (.ho T) t true os none K (.bool true) = et C dst os K (dt (aa l) (ho C T))) ∧
  (∀ (T : TypeId) (t : Nat), cY C l dst (.ho T) t false os none K (.bool false) = et C dst os K (dt (aa l) (ho C T))) ∧
  (∀ (T : TypeId) (x : aI) (t : Nat), cY C l dst (.dh T x) t true os none K (.bool true) = et C dst os K (dh (aa l) (aP (aa l) x))) ∧
  (∀ (T : TypeId) (x : aI) (t : Nat), cY C l dst (.dh T x) t false os none K (.bool false) = et C dst os K (dh (aa l) (aP (aa l) x))) ∧
  (∀ (T : TypeId) (ps : List (Nat × aI)) (t : Nat), cY C l dst (.fw T ps) t true os none K (.bool true) = et C dst os K (fw C (aa l) T (kB (aa l) ps))) ∧
  (∀ (T : TypeId) (ps : List (Nat × aI)) (t : Nat), cY C l dst (.fw T ps) t false os none K (.bool false) = et C dst os K (fw C (aa l) T (kB (aa l) ps))) ∧
  (∀ (T : TypeId) (n : Nat) (ps : List (Nat × aI)) (t : Nat), cY C l dst (.eW T n ps) t true os none K (.bool true) = et C dst os K (eW C (aa l) T n (kB (aa l) ps))) ∧
  (∀ (T : TypeId) (n : Nat) (ps : List (Nat × aI)) (t : Nat), cY C l dst (.eW T n ps) t false os none K (.bool false) = et C dst os K (eW C (aa l) T n (kB (aa l) ps))) ∧
  (∀ (T : TypeId) (x : aI) (t : Nat), cY C l dst (.cl T x) t true os none K (.bool true) = et C dst os K (dt (aa l) (cl C (aa l) T (aP (aa l) x)))) ∧
  (∀ (T : TypeId) (x : aI) (t : Nat), cY C l dst (.cl T x) t false os none K (.bool false) = et C dst os K (dt (aa l) (cl C (aa l) T (aP (aa l) x)))) ∧
  (∀ (T : TypeId) (x y : aI) (t : Nat), cY C l dst (.gC T x y) t true os none K (.bool true) = et C dst os K (dZ (gC C (aa l) T (aP (aa l) x) (aP (aa l) y)))) ∧
  (∀ (T : TypeId) (x y : aI) (t : Nat), cY C l dst (.gC T x y) t false os none K (.bool false) = et C dst os K (dZ (gC C (aa l) T (aP (aa l) x) (aP (aa l) y)))) ∧
  (∀ (x : aI) (t : Nat), cY C l dst (.gu x) t true os none K (.bool true) = et C dst os K (dt (aa l) (gu (aa l) (aP (aa l) x)))) ∧
  (∀ (x : aI) (t : Nat), cY C l dst (.gu x) t false os none K (.bool false) = et C dst os K (dt (aa l) (gu (aa l) (aP (aa l) x)))) ∧
  (∀ (op : BinOp) (T : TypeId) (x y : aI) (t : Nat), cY C l dst (.ck op T x y) t true os none K (.bool true) = et C dst os K (dt (aa l) (ck C (aa l) op T (aP (aa l) x) (aP (aa l) y)))) ∧
  (∀ (op : BinOp) (T : TypeId) (x y : aI) (t : Nat), cY C l dst (.ck op T x y) t false os none K (.bool false) = et C dst os K (dt (aa l) (ck C (aa l) op T (aP (aa l) x) (aP (aa l) y)))) ∧
  (∀ (op : UnOp) (x : aI) (t : Nat), cY C l dst (.un op x) t true os none K (.bool true) = et C dst os K (dt (aa l) (un op (aP (aa l) x)))) ∧
  (∀ (op : UnOp) (x : aI) (t : Nat), cY C l dst (.un op x) t false os none K (.bool false) = et C dst os K (dt (aa l) (un op (aP (aa l) x)))) ∧
  (∀ (A B : TypeId) (x : aI) (t : Nat), cY C l dst (.gH A B x) t true os none K (.bool true) = et C dst os K (dt (aa l) (gH C (aa l) A B (aP (aa l) x)))) ∧
  (∀ (A B : TypeId) (x : aI) (t : Nat), cY C l dst (.gH A B x) t false os none K (.bool false) = et C dst os K (dt (aa l) (gH C (aa l) A B (aP (aa l) x)))) ∧
  (∀ (f : FuncId) (cs : List aI) (t : Nat), cY C l dst (.iy f cs) t true os none K (.bool true) = et C dst os K (some (.fn f (iB (aa l) cs), aa l))) ∧
  (∀ (f : FuncId) (cs : List aI) (t : Nat), cY C l dst (.iy f cs) t false os none K (.bool false) = et C dst os K (some (.fn f (iB (aa l) cs), aa l))) ∧
  (∀ (T : TypeId) (x y : aI) (t : Nat), cY C l dst (.eQ T x y) t true os none K (.bool true) = et C dst os K (dt (aa l) (eQ C T (aP (aa l) x) (aP (aa l) y)))) ∧
  (∀ (T : TypeId) (x y : aI) (t : Nat), cY C l dst (.eQ T x y) t false os none K (.bool false) = et C dst os K (dt (aa l) (eQ C T (aP (aa l) x) (aP (aa l) y)))) ∧
  (∀ (T : TypeId) (x : aI) (dB au : Option aI) (t : Nat), cY C l dst (.fS T x dB au) t true os none K (.bool true) = et C dst os K (fS C (aa l) T (aP (aa l) x) (lO (aa l) dB) (lO (aa l) au))) ∧
  (∀ (T : TypeId) (x : aI) (dB au : Option aI) (t : Nat), cY C l dst (.fS T x dB au) t false os none K (.bool false) = et C dst os K (fS C (aa l) T (aP (aa l) x) (lO (aa l) dB) (lO (aa l) au))) ∧
  (∀ (T : TypeId) (x : aI) (k : Nat) (t : Nat), cY C l dst (.c1 T x k) t true os none K (.bool true) = et C dst os K (dt (aa l) (c1 C (aa l) T (aP (aa l) x) k))) ∧
  (∀ (T : TypeId) (x : aI) (k : Nat) (t : Nat), cY C l dst (.c1 T x k) t false os none K (.bool false) = et C dst os K (dt (aa l) (c1 C (aa l) T (aP (aa l) x) k))) ∧
  (∀ (T : TypeId) (x y : aI) (t : Nat), cY C l dst (.fv T x y) t true os none K (.bool true) = et C dst os K (dt (aa l) (fv C (aa l) T (aP (aa l) x) (aP (aa l) y)))) ∧
  (∀ (T : TypeId) (x y : aI) (t : Nat), cY C l dst (.fv T x y) t false os none K (.bool false) = et C dst os K (dt (aa l) (fv C (aa l) T (aP (aa l) x) (aP (aa l) y)))) ∧
  (∀ (T : TypeId) (x y : aI) (t : Nat), cY C l dst (.idx T x y) t true os none K (.bool true) = et C dst os K (dt (aa l) (idx C T (aP (aa l) x) (aP (aa l) y)))) ∧
  (∀ (T : TypeId) (x y : aI) (t : Nat), cY C l dst (.idx T x y) t false os none K (.bool false) = et C dst os K (dt (aa l) (idx C T (aP (aa l) x) (aP (aa l) y)))) ∧
  (∀ (x : aI) (k : Nat) (t : Nat), cY C l dst (.ex x k) t true os none K (.bool true) = et C dst os K (dt (aa l) (ex (aa l) (aP (aa l) x) k))) ∧
  (∀ (x : aI) (k : Nat) (t : Nat), cY C l dst (.ex x k) t false os none K (.bool false) = et C dst os K (dt (aa l) (ex (aa l) (aP (aa l) x) k))) ∧
  (∀ (T : TypeId) (x : aI) (t : Nat), cY C l dst (.len T x) t true os none K (.bool true) = et C dst os K (dt (aa l) (mn C (aa l) T (aP (aa l) x)))) ∧
  (∀ (T : TypeId) (x : aI) (t : Nat), cY C l dst (.len T x) t false os none K (.bool false) = et C dst os K (dt (aa l) (mn C (aa l) T (aP (aa l) x)))) ∧
  (∀ (T b0 : TypeId) (x y : aI) (t : Nat), cY C l dst (.app T b0 x y) t true os none K (.bool true) = et C dst os K (mq C (aa l) T b0 (aP (aa l) x) (aP (aa l) y))) ∧
  (∀ (T b0 : TypeId) (x y : aI) (t : Nat), cY C l dst (.app T b0 x y) t false os none K (.bool false) = et C dst os K (mq C (aa l) T b0 (aP (aa l) x) (aP (aa l) y))) :=
 ⟨fun x _ => (gv rfl).trans (congrArg _ (va x)), fun x _ => (gv rfl).trans (congrArg _ (va x)), fun x _ => (gv rfl).trans (congrArg _ (vb x)), fun x _ => (gv rfl).trans (congrArg _ (vb x)), fun c x y _ => (gv rfl).trans (congrArg _ (vc c x y)), fun c x y _ => (gv rfl).trans (congrArg _ (vc c x y)), fun T _ => (gv rfl).trans (congrArg _ (vd T)), fun T _ => (gv rfl).trans (congrArg _ (vd T)), fun T x _ => (gv rfl).trans (congrArg _ (ve T x)), fun T x _ => (gv rfl).trans (congrArg _ (ve T x)), fun T ps _ => (gv rfl).trans (congrArg _ (vf T ps)), fun T ps _ => (gv rfl).trans (congrArg _ (vf T ps)), fun T n ps _ => (gv rfl).trans (congrArg _ (vg T n ps)), fun T n ps _ => (gv rfl).trans (congrArg _ (vg T n ps)), fun T x _ => (gv rfl).trans (congrArg _ (vh T x)), fun T x _ => (gv rfl).trans (congrArg _ (vh T x)), fun T x y _ => (gv rfl).trans (congrArg _ (vi T x y)), fun T x y _ => (gv rfl).trans (congrArg _ (vi T x y)), fun x _ => (gv rfl).trans (congrArg _ (vj x)), fun x _ => (gv rfl).trans (congrArg _ (vj x)), fun op T x y _ => (gv rfl).trans (congrArg _ (vk op T x y)), fun op T x y _ => (gv rfl).trans (congrArg _ (vk op T x y)), fun op x _ => (gv rfl).trans (congrArg _ (vl op x)), fun op x _ => (gv rfl).trans (congrArg _ (vl op x)), fun A B x _ => (gv rfl).trans (congrArg _ (vm A B x)), fun A B x _ => (gv rfl).trans (congrArg _ (vm A B x)), fun f cs _ => (gv rfl).trans (congrArg _ (vn f cs)), fun f cs _ => (gv rfl).trans (congrArg _ (vn f cs)), fun T x y _ => (gv rfl).trans (congrArg _ (vo T x y)), fun T x y _ => (gv rfl).trans (congrArg _ (vo T x y)), fun T x dB au _ => (gv rfl).trans (congrArg _ (vp T x dB au)), fun T x dB au _ => (gv rfl).trans (congrArg _ (vp T x dB au)), fun T x k _ => (gv rfl).trans (congrArg _ (vq T x k)), fun T x k _ => (gv rfl).trans (congrArg _ (vq T x k)), fun T x y _ => (gv rfl).trans (congrArg _ (vr T x y)), fun T x y _ => (gv rfl).trans (congrArg _ (vr T x y)), fun T x y _ => (gv rfl).trans (congrArg _ (vt T x y)), fun T x y _ => (gv rfl).trans (congrArg _ (vt T x y)), fun x k _ => (gv rfl).trans (congrArg _ (vu x k)), fun x k _ => (gv rfl).trans (congrArg _ (vu x k)), fun T x _ => (gv rfl).trans (congrArg _ (vv T x)), fun T x _ => (gv rfl).trans (congrArg _ (vv T x)), fun T b0 x y _ => (gv rfl).trans (congrArg _ (vw T b0 x y)), fun T b0 x y _ => (gv rfl).trans (congrArg _ (vw T b0 x y))⟩
theorem Ue :
  (∀ (x : aI) (t : Nat), cY C l dst (.ct x) t true os (some a) K (.bool true) = eu C l (t :: use (aa l) (.ct x)) (dR (aa l) (.ct x)) dst os a K (some (aP (aa l) x, aa l))) ∧
  (∀ (x : aI) (t : Nat), cY C l dst (.ct x) t false os (some a) K (.bool false) = eu C l (t :: use (aa l) (.ct x)) (dR (aa l) (.ct x)) dst os a K (some (aP (aa l) x, aa l))) ∧
  (∀ (x : aI) (t : Nat), cY C l dst (.iO x) t true os (some a) K (.bool true) = eu C l (t :: use (aa l) (.iO x)) (dR (aa l) (.iO x)) dst os a K (jG (aa l) (aP (aa l) x))) ∧
  (∀ (x : aI) (t : Nat), cY C l dst (.iO x) t false os (some a) K (.bool false) = eu C l (t :: use (aa l) (.iO x)) (dR (aa l) (.iO x)) dst os a K (jG (aa l) (aP (aa l) x))) ∧
  (∀ (c x y : aI) (t : Nat), cY C l dst (.pick c x y) t true os (some a) K (.bool true) = eu C l (t :: use (aa l) (.pick c x y)) (dR (aa l) (.pick c x y)) dst os a K (rD (aa l) (aP (aa l) c) (aP (aa l) x) (aP (aa l) y))) ∧
  (∀ (c x y : aI) (t : Nat), cY C l dst (.pick c x y) t false os (some a) K (.bool false) = eu C l (t :: use (aa l) (.pick c x y)) (dR (aa l) (.pick c x y)) dst os a K (rD (aa l) (aP (aa l) c) (aP (aa l) x) (aP (aa l) y))) ∧
  (∀ (T : TypeId) (t : Nat), cY C l dst (.ho T) t true os (some a) K (.bool true) = eu C l (t :: use (aa l) (.ho T)) (dR (aa l) (.ho T)) dst os a K (dt (aa l) (ho C T))) ∧
  (∀ (T : TypeId) (t : Nat), cY C l dst (.ho T) t false os (some a) K (.bool false) = eu C l (t :: use (aa l) (.ho T)) (dR (aa l) (.ho T)) dst os a K (dt (aa l) (ho C T))) ∧
  (∀ (T : TypeId) (x : aI) (t : Nat), cY C l dst (.dh T x) t true os (some a) K (.bool true) = eu C l (t :: use (aa l) (.dh T x)) (dR (aa l) (.dh T x)) dst os a K (dh (aa l) (aP (aa l) x))) ∧
  (∀ (T : TypeId) (x : aI) (t : Nat), cY C l dst (.dh T x) t false os (some a) K (.bool false) = eu C l (t :: use (aa l) (.dh T x)) (dR (aa l) (.dh T x)) dst os a K (dh (aa l) (aP (aa l) x))) ∧
  (∀ (T : TypeId) (ps : List (Nat × aI)) (t : Nat), cY C l dst (.fw T ps) t true os (some a) K (.bool true) = eu C l (t :: use (aa l) (.fw T ps)) (dR (aa l) (.fw T ps)) dst os a K (fw C (aa l) T (kB (aa l) ps))) ∧
  (∀ (T : TypeId) (ps : List (Nat × aI)) (t : Nat), cY C l dst (.fw T ps) t false os (some a) K (.bool false) = eu C l (t :: use (aa l) (.fw T ps)) (dR (aa l) (.fw T ps)) dst os a K (fw C (aa l) T (kB (aa l) ps))) ∧
  (∀ (T : TypeId) (n : Nat) (ps : List (Nat × aI)) (t : Nat), cY C l dst (.eW T n ps) t true os (some a) K (.bool true) = eu C l (t :: use (aa l) (.eW T n ps)) (dR (aa l) (.eW T n ps)) dst os a K (eW C (aa l) T n (kB (aa l) ps))) ∧
  (∀ (T : TypeId) (n : Nat) (ps : List (Nat × aI)) (t : Nat), cY C l dst (.eW T n ps) t false os (some a) K (.bool false) = eu C l (t :: use (aa l) (.eW T n ps)) (dR (aa l) (.eW T n ps)) dst os a K (eW C (aa l) T n (kB (aa l) ps))) ∧
  (∀ (T : TypeId) (x : aI) (t : Nat), cY C l dst (.cl T x) t true os (some a) K (.bool true) = eu C l (t :: use (aa l) (.cl T x)) (dR (aa l) (.cl T x)) dst os a K (dt (aa l) (cl C (aa l) T (aP (aa l) x)))) ∧
  (∀ (T : TypeId) (x : aI) (t : Nat), cY C l dst (.cl T x) t false os (some a) K (.bool false) = eu C l (t :: use (aa l) (.cl T x)) (dR (aa l) (.cl T x)) dst os a K (dt (aa l) (cl C (aa l) T (aP (aa l) x)))) ∧
  (∀ (T : TypeId) (x y : aI) (t : Nat), cY C l dst (.gC T x y) t true os (some a) K (.bool true) = eu C l (t :: use (aa l) (.gC T x y)) (dR (aa l) (.gC T x y)) dst os a K (dZ (gC C (aa l) T (aP (aa l) x) (aP (aa l) y)))) ∧
  (∀ (T : TypeId) (x y : aI) (t : Nat), cY C l dst (.gC T x y) t false os (some a) K (.bool false) = eu C l (t :: use (aa l) (.gC T x y)) (dR (aa l) (.gC T x y)) dst os a K (dZ (gC C (aa l) T (aP (aa l) x) (aP (aa l) y)))) ∧
  (∀ (x : aI) (t : Nat), cY C l dst (.gu x) t true os (some a) K (.bool true) = eu C l (t :: use (aa l) (.gu x)) (dR (aa l) (.gu x)) dst os a K (dt (aa l) (gu (aa l) (aP (aa l) x)))) ∧
  (∀ (x : aI) (t : Nat), cY C l dst (.gu x) t false os (some a) K (.bool false) = eu C l (t :: use (aa l) (.gu x)) (dR (aa l) (.gu x)) dst os a K (dt (aa l) (gu (aa l) (aP (aa l) x)))) ∧
  (∀ (op : BinOp) (T : TypeId) (x y : aI) (t : Nat), cY C l dst (.ck op T x y) t true os (some a) K (.bool true) = eu C l (t :: use (aa l) (.ck op T x y)) (dR (aa l) (.ck op T x y)) dst os a K (dt (aa l) (ck C (aa l) op T (aP (aa l) x) (aP (aa l) y)))) ∧
  (∀ (op : BinOp) (T : TypeId) (x y : aI) (t : Nat), cY C l dst (.ck op T x y) t false os (some a) K (.bool false) = eu C l (t :: use (aa l) (.ck op T x y)) (dR (aa l) (.ck op T x y)) dst os a K (dt (aa l) (ck C (aa l) op T (aP (aa l) x) (aP (aa l) y)))) ∧
  (∀ (op : UnOp) (x : aI) (t : Nat), cY C l dst (.un op x) t true os (some a) K (.bool true) = eu C l (t :: use (aa l) (.un op x)) (dR (aa l) (.un op x)) dst os a K (dt (aa l) (un op (aP (aa l) x)))) ∧
  (∀ (op : UnOp) (x : aI) (t : Nat), cY C l dst (.un op x) t false os (some a) K (.bool false) = eu C l (t :: use (aa l) (.un op x)) (dR (aa l) (.un op x)) dst os a K (dt (aa l) (un op (aP (aa l) x)))) ∧
  (∀ (A B : TypeId) (x : aI) (t : Nat), cY C l dst (.gH A B x) t true os (some a) K (.bool true) = eu C l (t :: use (aa l) (.gH A B x)) (dR (aa l) (.gH A B x)) dst os a K (dt (aa l) (gH C (aa l) A B (aP (aa l) x)))) ∧
  (∀ (A B : TypeId) (x : aI) (t : Nat), cY C l dst (.gH A B x) t false os (some a) K (.bool false) = eu C l (t :: use (aa l) (.gH A B x)) (dR (aa l) (.gH A B x)) dst os a K (dt (aa l) (gH C (aa l) A B (aP (aa l) x)))) ∧
  (∀ (f : FuncId) (cs : List aI) (t : Nat), cY C l dst (.iy f cs) t true os (some a) K (.bool true) = eu C l (t :: use (aa l) (.iy f cs)) (dR (aa l) (.iy f cs)) dst os a K (some (.fn f (iB (aa l) cs), aa l))) ∧
  (∀ (f : FuncId) (cs : List aI) (t : Nat), cY C l dst (.iy f cs) t false os (some a) K (.bool false) = eu C l (t :: use (aa l) (.iy f cs)) (dR (aa l) (.iy f cs)) dst os a K (some (.fn f (iB (aa l) cs), aa l))) ∧
  (∀ (T : TypeId) (x y : aI) (t : Nat), cY C l dst (.eQ T x y) t true os (some a) K (.bool true) = eu C l (t :: use (aa l) (.eQ T x y)) (dR (aa l) (.eQ T x y)) dst os a K (dt (aa l) (eQ C T (aP (aa l) x) (aP (aa l) y)))) ∧
  (∀ (T : TypeId) (x y : aI) (t : Nat), cY C l dst (.eQ T x y) t false os (some a) K (.bool false) = eu C l (t :: use (aa l) (.eQ T x y)) (dR (aa l) (.eQ T x y)) dst os a K (dt (aa l) (eQ C T (aP (aa l) x) (aP (aa l) y)))) ∧
  (∀ (T : TypeId) (x : aI) (dB au : Option aI) (t : Nat), cY C l dst (.fS T x dB au) t true os (some a) K (.bool true) = eu C l (t :: use (aa l) (.fS T x dB au)) (dR (aa l) (.fS T x dB au)) dst os a K (fS C (aa l) T (aP (aa l) x) (lO (aa l) dB) (lO (aa l) au))) ∧
  (∀ (T : TypeId) (x : aI) (dB au : Option aI) (t : Nat), cY C l dst (.fS T x dB au) t false os (some a) K (.bool false) = eu C l (t :: use (aa l) (.fS T x dB au)) (dR (aa l) (.fS T x dB au)) dst os a K (fS C (aa l) T (aP (aa l) x) (lO (aa l) dB) (lO (aa l) au))) ∧
  (∀ (T : TypeId) (x : aI) (k : Nat) (t : Nat), cY C l dst (.c1 T x k) t true os (some a) K (.bool true) = eu C l (t :: use (aa l) (.c1 T x k)) (dR (aa l) (.c1 T x k)) dst os a K (dt (aa l) (c1 C (aa l) T (aP (aa l) x) k))) ∧
  (∀ (T : TypeId) (x : aI) (k : Nat) (t : Nat), cY C l dst (.c1 T x k) t false os (some a) K (.bool false) = eu C l (t :: use (aa l) (.c1 T x k)) (dR (aa l) (.c1 T x k)) dst os a K (dt (aa l) (c1 C (aa l) T (aP (aa l) x) k))) ∧
  (∀ (T : TypeId) (x y : aI) (t : Nat), cY C l dst (.fv T x y) t true os (some a) K (.bool true) = eu C l (t :: use (aa l) (.fv T x y)) (dR (aa l) (.fv T x y)) dst os a K (dt (aa l) (fv C (aa l) T (aP (aa l) x) (aP (aa l) y)))) ∧
  (∀ (T : TypeId) (x y : aI) (t : Nat), cY C l dst (.fv T x y) t false os (some a) K (.bool false) = eu C l (t :: use (aa l) (.fv T x y)) (dR (aa l) (.fv T x y)) dst os a K (dt (aa l) (fv C (aa l) T (aP (aa l) x) (aP (aa l) y)))) ∧
  (∀ (T : TypeId) (x y : aI) (t : Nat), cY C l dst (.idx T x y) t true os (some a) K (.bool true) = eu C l (t :: use (aa l) (.idx T x y)) (dR (aa l) (.idx T x y)) dst os a K (dt (aa l) (idx C T (aP (aa l) x) (aP (aa l) y)))) ∧
  (∀ (T : TypeId) (x y : aI) (t : Nat), cY C l dst (.idx T x y) t false os (some a) K (.bool false) = eu C l (t :: use (aa l) (.idx T x y)) (dR (aa l) (.idx T x y)) dst os a K (dt (aa l) (idx C T (aP (aa l) x) (aP (aa l) y)))) ∧
  (∀ (x : aI) (k : Nat) (t : Nat), cY C l dst (.ex x k) t true os (some a) K (.bool true) = eu C l (t :: use (aa l) (.ex x k)) (dR (aa l) (.ex x k)) dst os a K (dt (aa l) (ex (aa l) (aP (aa l) x) k))) ∧
  (∀ (x : aI) (k : Nat) (t : Nat), cY C l dst (.ex x k) t false os (some a) K (.bool false) = eu C l (t :: use (aa l) (.ex x k)) (dR (aa l) (.ex x k)) dst os a K (dt (aa l) (ex (aa l) (aP (aa l) x) k))) ∧
  (∀ (T : TypeId) (x : aI) (t : Nat), cY C l dst (.len T x) t true os (some a) K (.bool true) = eu C l (t :: use (aa l) (.len T x)) (dR (aa l) (.len T x)) dst os a K (dt (aa l) (mn C (aa l) T (aP (aa l) x)))) ∧
  (∀ (T : TypeId) (x : aI) (t : Nat), cY C l dst (.len T x) t false os (some a) K (.bool false) = eu C l (t :: use (aa l) (.len T x)) (dR (aa l) (.len T x)) dst os a K (dt (aa l) (mn C (aa l) T (aP (aa l) x)))) ∧
  (∀ (T b0 : TypeId) (x y : aI) (t : Nat), cY C l dst (.app T b0 x y) t true os (some a) K (.bool true) = eu C l (t :: use (aa l) (.app T b0 x y)) (dR (aa l) (.app T b0 x y)) dst os a K (mq C (aa l) T b0 (aP (aa l) x) (aP (aa l) y))) ∧
  (∀ (T b0 : TypeId) (x y : aI) (t : Nat), cY C l dst (.app T b0 x y) t false os (some a) K (.bool false) = eu C l (t :: use (aa l) (.app T b0 x y)) (dR (aa l) (.app T b0 x y)) dst os a K (mq C (aa l) T b0 (aP (aa l) x) (aP (aa l) y))) :=
 ⟨fun x _ => (gw rfl).trans (congrArg _ (va x)), fun x _ => (gw rfl).trans (congrArg _ (va x)), fun x _ => (gw rfl).trans (congrArg _ (vb x)), fun x _ => (gw rfl).trans (congrArg _ (vb x)), fun c x y _ => (gw rfl).trans (congrArg _ (vc c x y)), fun c x y _ => (gw rfl).trans (congrArg _ (vc c x y)), fun T _ => (gw rfl).trans (congrArg _ (vd T)), fun T _ => (gw rfl).trans (congrArg _ (vd T)), fun T x _ => (gw rfl).trans (congrArg _ (ve T x)), fun T x _ => (gw rfl).trans (congrArg _ (ve T x)), fun T ps _ => (gw rfl).trans (congrArg _ (vf T ps)), fun T ps _ => (gw rfl).trans (congrArg _ (vf T ps)), fun T n ps _ => (gw rfl).trans (congrArg _ (vg T n ps)), fun T n ps _ => (gw rfl).trans (congrArg _ (vg T n ps)), fun T x _ => (gw rfl).trans (congrArg _ (vh T x)), fun T x _ => (gw rfl).trans (congrArg _ (vh T x)), fun T x y _ => (gw rfl).trans (congrArg _ (vi T x y)), fun T x y _ => (gw rfl).trans (congrArg _ (vi T x y)), fun x _ => (gw rfl).trans (congrArg _ (vj x)), fun x _ => (gw rfl).trans (congrArg _ (vj x)), fun op T x y _ => (gw rfl).trans (congrArg _ (vk op T x y)), fun op T x y _ => (gw rfl).trans (congrArg _ (vk op T x y)), fun op x _ => (gw rfl).trans (congrArg _ (vl op x)), fun op x _ => (gw rfl).trans (congrArg _ (vl op x)), fun A B x _ => (gw rfl).trans (congrArg _ (vm A B x)), fun A B x _ => (gw rfl).trans (congrArg _ (vm A B x)), fun f cs _ => (gw rfl).trans (congrArg _ (vn f cs)), fun f cs _ => (gw rfl).trans (congrArg _ (vn f cs)), fun T x y _ => (gw rfl).trans (congrArg _ (vo T x y)), fun T x y _ => (gw rfl).trans (congrArg _ (vo T x y)), fun T x dB au _ => (gw rfl).trans (congrArg _ (vp T x dB au)), fun T x dB au _ => (gw rfl).trans (congrArg _ (vp T x dB au)), fun T x k _ => (gw rfl).trans (congrArg _ (vq T x k)), fun T x k _ => (gw rfl).trans (congrArg _ (vq T x k)), fun T x y _ => (gw rfl).trans (congrArg _ (vr T x y)), fun T x y _ => (gw rfl).trans (congrArg _ (vr T x y)), fun T x y _ => (gw rfl).trans (congrArg _ (vt T x y)), fun T x y _ => (gw rfl).trans (congrArg _ (vt T x y)), fun x k _ => (gw rfl).trans (congrArg _ (vu x k)), fun x k _ => (gw rfl).trans (congrArg _ (vu x k)), fun T x _ => (gw rfl).trans (congrArg _ (vv T x)), fun T x _ => (gw rfl).trans (congrArg _ (vv T x)), fun T b0 x y _ => (gw rfl).trans (congrArg _ (vw T b0 x y)), fun T b0 x y _ => (gw rfl).trans (congrArg _ (vw T b0 x y))⟩
end
theorem KO :
  (∀ (t : Nat) (k : IntKind) (n : Int), jj t (.int k n) = (.int k n)) ∧
  (∀ (t : Nat) (b : Bool), jj t (.bool b) = (.bool b)) ∧
  (∀ (t : Nat) (x : List UInt8), jj t (.str x) = (.str x)) ∧
  (∀ (t : Nat) (xs : List I), jj t (.slice xs) = (.slice xs)) ∧
  (∀ (t : Nat) (d : I), jj t (.ref d) = (.ref d)) ∧
  (∀ (t : Nat) (f : FuncId) (cap : List I), jj t (.fn f cap) = (.fn f cap)) ∧
  (∀ (t : Nat) (x : Nat) (q : List Nat), jj t (.h x q) = (.h x q)) ∧
  (∀ (t : Nat) (x : Nat) (q : List Nat), jj t (.az x q) = (.az x q)) ∧
  (∀ (t : Nat) , jj t .dI = .dI) ∧
  (∀ (t : Nat) , jj t .bp = .bp) ∧
  (∀ (t : Nat) , jj t .fu = .fu) ∧
  (∀ (t : Nat) , jj t .hole = .hole) ∧
  (∀ (t : Nat) (sz : Nat) (xs : List I), jj t (.ao sz xs) = .h t []) ∧
  (∀ (t : Nat) (d : I), jj t (.bb d) = .h t []) ∧
  (∀ (t : Nat) (ay : List I), jj t (.agg ay) = if I.ed ay = true then (.agg ay) else .h t []) ∧
  (∀ (t : Nat) (ay : List I), jj t (.tuple ay) = if I.ed ay = true then (.tuple ay) else .h t []) :=
 ⟨fun _ _ _ => rfl, fun _ _ => rfl, fun _ _ => rfl, fun _ _ => rfl, fun _ _ => rfl, fun _ _ _ => rfl, fun _ _ _ => rfl, fun _ _ _ => rfl, fun _  => rfl, fun _  => rfl, fun _  => rfl, fun _  => rfl, fun _ _ _ => rfl, fun _ _ => rfl, fun _ _ => rfl, fun _ _ => rfl⟩
theorem KP :
  (∀ (l : List (Nat × I)) (av : I), fin (aa l) none av = aa l) ∧
  (∀ (l : List (Nat × I)) (t : Nat) (k : IntKind) (n : Int), fin (aa l) (some t) (.int k n) = aa ((t, (.int k n)) :: l)) ∧
  (∀ (l : List (Nat × I)) (t : Nat) (b : Bool), fin (aa l) (some t) (.bool b) = aa ((t, (.bool b)) :: l)) ∧
  (∀ (l : List (Nat × I)) (t : Nat) (x : List UInt8), fin (aa l) (some t) (.str x) = aa ((t, (.str x)) :: l)) ∧
  (∀ (l : List (Nat × I)) (t : Nat) (xs : List I), fin (aa l) (some t) (.slice xs) = aa ((t, (.slice xs)) :: l)) ∧
  (∀ (l : List (Nat × I)) (t : Nat) (d : I), fin (aa l) (some t) (.ref d) = aa ((t, (.ref d)) :: l)) ∧
  (∀ (l : List (Nat × I)) (t : Nat) (f : FuncId) (cap : List I), fin (aa l) (some t) (.fn f cap) = aa ((t, (.fn f cap)) :: l)) ∧
  (∀ (l : List (Nat × I)) (t : Nat) (x : Nat) (q : List Nat), fin (aa l) (some t) (.h x q) = aa ((t, (.h x q)) :: l)) ∧
  (∀ (l : List (Nat × I)) (t : Nat) (x : Nat) (q : List Nat), fin (aa l) (some t) (.az x q) = aa ((t, (.az x q)) :: l)) ∧
  (∀ (l : List (Nat × I)) (t : Nat) , fin (aa l) (some t) .dI = aa ((t, .dI) :: l)) ∧
  (∀ (l : List (Nat × I)) (t : Nat) , fin (aa l) (some t) .bp = aa ((t, .bp) :: l)) ∧
  (∀ (l : List (Nat × I)) (t : Nat) , fin (aa l) (some t) .fu = aa ((t, .fu) :: l)) ∧
  (∀ (l : List (Nat × I)) (t : Nat) , fin (aa l) (some t) .hole = aa ((t, .hole) :: l)) ∧
  (∀ (l : List (Nat × I)) (t : Nat) (sz : Nat) (xs : List I), fin (aa l) (some t) (.ao sz xs) = aa ((t, (.ao sz xs)) :: n9 t l)) ∧
  (∀ (l : List (Nat × I)) (t : Nat) (d : I), fin (aa l) (some t) (.bb d) = aa ((t, (.bb d)) :: n9 t l)) ∧
  (∀ (l : List (Nat × I)) (t : Nat) (ay : List I), fin (aa l) (some t) (.agg ay) = aa ((t, (.agg ay)) :: if I.ed ay = true then l else n9 t l)) ∧
  (∀ (l : List (Nat × I)) (t : Nat) (ay : List I), fin (aa l) (some t) (.tuple ay) = aa ((t, (.tuple ay)) :: if I.ed ay = true then l else n9 t l)) :=
 ⟨fun _ _ => rfl, fun l t _ _ => by simp only [fin, I.plain, if_true, k2], fun l t _ => by simp only [fin, I.plain, if_true, k2], fun l t _ => by simp only [fin, I.plain, if_true, k2], fun l t _ => by simp only [fin, I.plain, if_true, k2], fun l t _ => by simp only [fin, I.plain, if_true, k2], fun l t _ _ => by simp only [fin, I.plain, if_true, k2], fun l t _ _ => by simp only [fin, I.plain, if_true, k2], fun l t _ _ => by simp only [fin, I.plain, if_true, k2], fun l t  => by simp only [fin, I.plain, if_true, k2], fun l t  => by simp only [fin, I.plain, if_true, k2], fun l t  => by simp only [fin, I.plain, if_true, k2], fun l t  => by simp only [fin, I.plain, if_true, k2], fun l t _ _ => by simp only [fin, I.plain, Bool.false_eq_true, if_false, u5, k2], fun l t _ => by simp only [fin, I.plain, Bool.false_eq_true, if_false, u5, k2], fun l t _ => by simp only [fin, I.plain, u5, k2]; split <;> rfl, fun l t _ => by simp only [fin, I.plain, u5, k2]; split <;> rfl⟩
theorem vx :
  (∀ (k : IntKind) (n : Int), I.plain (.int k n) = true) ∧
  (∀ (b : Bool), I.plain (.bool b) = true) ∧
  (∀ (x : List UInt8), I.plain (.str x) = true) ∧
  (∀ (xs : List I), I.plain (.slice xs) = true) ∧
  (∀ (d : I), I.plain (.ref d) = true) ∧
  (∀ (f : FuncId) (cap : List I), I.plain (.fn f cap) = true) ∧
  (∀ (x : Nat) (q : List Nat), I.plain (.h x q) = true) ∧
  (∀ (x : Nat) (q : List Nat), I.plain (.az x q) = true) ∧
  (I.plain .dI = true) ∧
  (I.plain .bp = true) ∧
  (I.plain .fu = true) ∧
  (I.plain .hole = true) ∧
  (∀ (sz : Nat) (xs : List I), I.plain (.ao sz xs) = false) ∧
  (∀ (d : I), I.plain (.bb d) = false) ∧
  (∀ (ay : List I), I.plain (.agg ay) = I.ed ay) ∧
  (∀ (ay : List I), I.plain (.tuple ay) = I.ed ay) ∧
  (I.ed [] = true) ∧
  (∀ d ds, I.ed (d :: ds) = (d.plain && I.ed ds)) :=
 ⟨fun _ _ => rfl, fun _ => rfl, fun _ => rfl, fun _ => rfl, fun _ => rfl, fun _ _ => rfl, fun _ _ => rfl, fun _ _ => rfl, rfl, rfl, rfl, rfl, fun _ _ => rfl, fun _ => rfl, fun _ => rfl, fun _ => rfl, rfl, fun _ _ => rfl⟩
theorem KQ :
  (∀ (s : ar) (k : IntKind) (n : Int), jG s (.int k n) = some ((.int k n), s)) ∧
  (∀ (s : ar) (b : Bool), jG s (.bool b) = some ((.bool b), s)) ∧
  (∀ (s : ar) (x : List UInt8), jG s (.str x) = some ((.str x), s)) ∧
  (∀ (s : ar) (xs : List I), jG s (.slice xs) = some ((.slice xs), s)) ∧
  (∀ (s : ar) (d : I), jG s (.ref d) = some ((.ref d), s)) ∧
  (∀ (s : ar) (f : FuncId) (cap : List I), jG s (.fn f cap) = some ((.fn f cap), s)) ∧
  (∀ (s : ar) (x : Nat) (q : List Nat), jG s (.az x q) = some ((.az x q), s)) ∧
  (∀ (s : ar) , jG s .dI = some (.dI, s)) ∧
  (∀ (s : ar) , jG s .bp = some (.bp, s)) ∧
  (∀ (s : ar) , jG s .fu = some (.fu, s)) ∧
  (∀ (s : ar) , jG s .hole = some (.hole, s)) ∧
  (∀ (s : ar) (sz : Nat) (xs : List I), jG s (.ao sz xs) = some ((.ao sz xs), s)) ∧
  (∀ (s : ar) (d : I), jG s (.bb d) = some ((.bb d), s)) ∧
  (∀ (s : ar) (ay : List I), jG s (.agg ay) = some ((.agg ay), s)) ∧
  (∀ (s : ar) (ay : List I), jG s (.tuple ay) = some ((.tuple ay), s)) ∧
  (∀ (s : ar) y q, jG s (.h y q) = db s (.h y q)) :=
 ⟨fun _ _ _ => rfl, fun _ _ => rfl, fun _ _ => rfl, fun _ _ => rfl, fun _ _ => rfl, fun _ _ _ => rfl, fun _ _ _ => rfl, fun _  => rfl, fun _  => rfl, fun _  => rfl, fun _  => rfl, fun _ _ _ => rfl, fun _ _ => rfl, fun _ _ => rfl, fun _ _ => rfl, fun _ _ _ => rfl⟩
theorem KR :
  (∀ (t : Nat) (k : IntKind) (n : Int), c8 t (.int k n) = (.int k n)) ∧
  (∀ (t : Nat) (b : Bool), c8 t (.bool b) = (.bool b)) ∧
  (∀ (t : Nat) (x : List UInt8), c8 t (.str x) = (.str x)) ∧
  (∀ (t : Nat) (xs : List I), c8 t (.slice xs) = (.slice xs)) ∧
  (∀ (t : Nat) (d : I), c8 t (.ref d) = (.ref d)) ∧
  (∀ (t : Nat) , c8 t .dI = .dI) ∧
  (∀ (t : Nat) , c8 t .bp = .bp) ∧
  (∀ (t : Nat) , c8 t .fu = .fu) ∧
  (∀ (t : Nat) , c8 t .hole = .hole) ∧
  (∀ (t : Nat) (sz : Nat) (xs : List I), c8 t (.ao sz xs) = (.ao sz xs)) ∧
  (∀ (t : Nat) (d : I), c8 t (.bb d) = (.bb d)) ∧
  (∀ (t : Nat) (ay : List I), c8 t (.agg ay) = (.agg ay)) ∧
  (∀ (t : Nat) (ay : List I), c8 t (.tuple ay) = (.tuple ay)) ∧
  (∀ (t y : Nat) q, c8 t (.h y q) = if y = t then .hole else .h y q) ∧
  (∀ (t y : Nat) q, c8 t (.az y q) = if y = t then .hole else .az y q) ∧
  (∀ (t : Nat) f c, c8 t (.fn f c) = .fn f (jA t c)) ∧
  (∀ t, jA t [] = []) ∧
  (∀ t d ds, jA t (d :: ds) = c8 t d :: jA t ds) ∧
  (∀ t, n9 t [] = []) ∧
  (∀ t u d l, n9 t ((u, d) :: l) = (u, c8 t d) :: n9 t l) ∧
  (∀ t l, lY t (aa l) = aa (n9 t l)) :=
 ⟨fun _ _ _ => by unfold c8; rfl, fun _ _ => by unfold c8; rfl, fun _ _ => by unfold c8; rfl, fun _ _ => by unfold c8; rfl, fun _ _ => by unfold c8; rfl, fun _  => by unfold c8; rfl, fun _  => by unfold c8; rfl, fun _  => by unfold c8; rfl, fun _  => by unfold c8; rfl, fun _ _ _ => by unfold c8; rfl, fun _ _ => by unfold c8; rfl, fun _ _ => by unfold c8; rfl, fun _ _ => by unfold c8; rfl, fun _ _ _ => by unfold c8; rfl, fun _ _ _ => by unfold c8; rfl, fun _ _ _ => by simp only [c8], fun _ => by simp only [jA], fun _ _ _ => by simp only [jA], fun _ => rfl, fun _ _ _ _ => rfl, fun t l => u5 t l⟩
theorem KS :
  (∀ (t : Nat) (k : IntKind) (n : Int), cx t (.int k n) = (.int k n)) ∧
  (∀ (t : Nat) (b : Bool), cx t (.bool b) = (.bool b)) ∧
  (∀ (t : Nat) (x : List UInt8), cx t (.str x) = (.str x)) ∧
  (∀ (t : Nat) (xs : List I), cx t (.slice xs) = (.slice xs)) ∧
  (∀ (t : Nat) (d : I), cx t (.ref d) = (.ref d)) ∧
  (∀ (t : Nat) , cx t .dI = .dI) ∧
  (∀ (t : Nat) , cx t .bp = .bp) ∧
  (∀ (t : Nat) , cx t .fu = .fu) ∧
  (∀ (t : Nat) , cx t .hole = .hole) ∧
  (∀ (t : Nat) (sz : Nat) (xs : List I), cx t (.ao sz xs) = (.ao sz xs)) ∧
  (∀ (t : Nat) (d : I), cx t (.bb d) = (.bb d)) ∧
  (∀ (t : Nat) (ay : List I), cx t (.agg ay) = (.agg ay)) ∧
  (∀ (t : Nat) (ay : List I), cx t (.tuple ay) = (.tuple ay)) ∧
  (∀ (t y : Nat), cx t (.h y []) = .h y []) ∧
  (∀ (t y k : Nat) q, cx t (.h y (k :: q)) = if y = t then .hole else .h y (k :: q)) ∧
  (∀ (t y : Nat) q, cx t (.az y q) = if y = t then .hole else .az y q) ∧
  (∀ (t : Nat) f c, cx t (.fn f c) = .fn f (i4 t c)) ∧
  (∀ t, i4 t [] = []) ∧
  (∀ t d ds, i4 t (d :: ds) = cx t d :: i4 t ds) ∧
  (∀ t, sO t [] = []) ∧
  (∀ t u d l, sO t ((u, d) :: l) = (u, cx t d) :: sO t l) ∧
  (∀ t l, ji t (aa l) = aa (sO t l)) :=
 ⟨fun _ _ _ => by unfold cx; rfl, fun _ _ => by unfold cx; rfl, fun _ _ => by unfold cx; rfl, fun _ _ => by unfold cx; rfl, fun _ _ => by unfold cx; rfl, fun _  => by unfold cx; rfl, fun _  => by unfold cx; rfl, fun _  => by unfold cx; rfl, fun _  => by unfold cx; rfl, fun _ _ _ => by unfold cx; rfl, fun _ _ => by unfold cx; rfl, fun _ _ => by unfold cx; rfl, fun _ _ => by unfold cx; rfl, fun _ _ => by simp [cx], fun _ _ _ _ => by simp [cx], fun _ _ _ => by unfold cx; rfl, fun _ _ _ => by simp only [cx], fun _ => by simp only [i4], fun _ _ _ => by simp only [i4], fun _ => rfl, fun _ _ _ _ => rfl, fun t l => TB t l⟩
def FX : nR → Bool → Option I
 | .bool, b => some (.bool b)
 | _, _ => none
def rE (neg : Bool) : nR → Option (Option Bool) → Option I
 | .slice _, some r => some (oM neg r)
 | _, _ => none
def sU (neg : Bool) : nR → Option Bool → Option I
 | .ptr _, some b => some (.bool (b != neg))
 | _, _ => none
theorem KT (C : cE) (s : ar) (T : TypeId) :
  (∀ op k a dA b, ck C s op T (.int k a) (.int dA b) = jl op k a dA b) ∧
  (∀ op a b, ck C s op T (.str a) (.str b) = nk op a b) ∧
  (∀ a b, ck C s .eql T (.bool a) (.bool b) = FX (C.T T).k (a == b)) ∧
  (∀ a b, ck C s .neq T (.bool a) (.bool b) = FX (C.T T).k (!(a == b))) ∧
  (∀ xs, ck C s .eql T (.slice xs) .bp = rE false (C.T T).k (j0 s (.slice xs))) ∧
  (∀ xs, ck C s .neq T (.slice xs) .bp = rE true (C.T T).k (j0 s (.slice xs))) ∧
  (ck C s .eql T .bp .bp = rE false (C.T T).k (j0 s .bp)) ∧
  (ck C s .neq T .bp .bp = rE true (C.T T).k (j0 s .bp)) ∧
  (∀ x q, ck C s .eql T (.h x q) .bp = rE false (C.T T).k (j0 s (.h x q))) ∧
  (∀ x q, ck C s .neq T (.h x q) .bp = rE true (C.T T).k (j0 s (.h x q))) ∧
  (∀ x q, ck C s .eql T (.h x q) .dI = sU false (C.T T).k (lI s (.h x q))) ∧
  (∀ x q, ck C s .neq T (.h x q) .dI = sU true (C.T T).k (lI s (.h x q))) ∧
  (∀ d, ck C s .eql T (.ref d) .dI = sU false (C.T T).k (lI s (.ref d))) ∧
  (∀ d, ck C s .neq T (.ref d) .dI = sU true (C.T T).k (lI s (.ref d))) ∧
  (ck C s .eql T .dI .dI = sU false (C.T T).k (lI s .dI)) ∧
  (ck C s .neq T .dI .dI = sU true (C.T T).k (lI s .dI)) := by
 refine ⟨?_, ?_, ?_, ?_, ?_, ?_, ?_, ?_, ?_, ?_, ?_, ?_, ?_, ?_, ?_, ?_⟩ <;> intros <;> first
  | rfl
  | (simp only [ck]
     generalize (C.T T).k = ml
     cases ml <;> first | rfl | (simp only [rE]; generalize j0 s _ = v; cases v <;> rfl) | (simp only [sU]; generalize lI s _ = v; cases v <;> (try (rename_i b; cases b)) <;> rfl))
theorem KU (k : IntKind) (a b : Int) :
  jl .add k a k b = some (.int k (k.wrap (a + b))) ∧ jl .sub k a k b = some (.int k (k.wrap (a - b))) ∧ jl .mul k a k b = some (.int k (k.wrap (a * b))) ∧
  jl .eql k a k b = some (.bool (a == b)) ∧ jl .neq k a k b = some (.bool (a != b)) ∧ jl .lss k a k b = some (.bool (decide (a < b))) ∧ jl .leq k a k b = some (.bool (decide (a ≤ b))) ∧
  jl .gtr k a k b = some (.bool (decide (b < a))) ∧ jl .geq k a k b = some (.bool (decide (b ≤ a))) ∧
  jl .and k a k b = some (.int k (bitsOf .and k a b)) ∧ jl .or k a k b = some (.int k (bitsOf .or k a b)) ∧ jl .xor k a k b = some (.int k (bitsOf .xor k a b)) ∧ jl .andNot k a k b = some (.int k (bitsOf .andNot k a b)) := by
 simp [jl]
theorem Uf {k : IntKind} {a b : Int} (h : b ≠ 0) : jl .quo k a k b = some (.int k (k.wrap (a.tdiv b))) := by simp [jl, h]
theorem Ug {k : IntKind} {a b : Int} (h : b ≠ 0) : jl .rem k a k b = some (.int k (a.tmod b)) := by simp [jl, h]
theorem KV (a b : List UInt8) :
  nk .eql a b = some (.bool (a == b)) ∧ nk .neq a b = some (.bool !(a == b)) ∧ nk .lss a b = some (.bool (Op.bytesLess a b)) ∧
  nk .leq a b = some (.bool (Op.bytesLess a b || a == b)) ∧ nk .gtr a b = some (.bool !(Op.bytesLess a b || a == b)) ∧ nk .geq a b = some (.bool !(Op.bytesLess a b)) := by
 refine ⟨rfl, rfl, rfl, rfl, rfl, rfl⟩
theorem KW : (∀ b, un .not (.bool b) = some (.bool !b)) ∧ (un .not .fu = some .fu) ∧ (∀ k n, un .neg (.int k n) = some (.int k (k.wrap (0 - n)))) := ⟨fun _ => rfl, rfl, fun _ _ => rfl⟩
def FY : nR → Option UInt8 → Option I
 | .str, some c => some (.int .u8 c.toNat)
 | _, _ => none
theorem KX (C : cE) (T : TypeId) (l : List UInt8) (k : IntKind) (n : Int) : idx C T (.str l) (.int k n) = FY (C.T T).k (bK l n) := by
 simp only [idx, bK]
 generalize (C.T T).k = ml
 cases ml <;> first | rfl | (simp only [FY]; split <;> first | rfl | (cases l[n.toNat]? <;> rfl))
def FZ (C : cE) : nR → Option I → Option I
 | .slice e, some d => if (C.T e).ok = true ∧ d.wd = (C.T e).sz then some (.ref d) else none
 | _, _ => none
theorem KY (C : cE) (s : ar) (T : TypeId) (xs : List I) (k : IntKind) (n : Int) : fv C s T (.slice xs) (.int k n) = FZ C (C.T T).k (bK xs n) := by
 simp only [fv, bK]
 generalize (C.T T).k = ml
 cases ml <;> first | rfl | skip
 simp only [FZ]
 by_cases bf : 0 ≤ n
 ·simp only [bf, true_and, if_true]
  split
  ·cases xs[n.toNat]? <;> simp [*]
  ·cases xs[n.toNat]? <;> simp [*]
 ·simp only [bf, false_and, if_false]
def xU (C : cE) (y : Nat) (q : List Nat) (n : Int) : nR → Option I → Option I
 | .slice e, some (.ao sz xs) => if (bK xs n).isSome = true ∧ (C.T e).ok = true ∧ sz = (C.T e).sz then some (.az y (q ++ [n.toNat])) else none
 | _, _ => none
theorem KZ (C : cE) (s : ar) (T : TypeId) (y : Nat) (q : List Nat) (k : IntKind) (n : Int) : fv C s T (.h y q) (.int k n) = xU C y q n (C.T T).k (I.sub q (s y)) := by
 simp only [fv]
 generalize (C.T T).k = ml
 cases ml <;> first | rfl | skip
 rename_i e
 cases af : I.sub q (s y) with
 | none => simp [xU]
 | some d =>
   cases d <;> first
    | (simp [xU]; done)
    | skip
   rename_i sz xs
   have cb : (bK xs n).isSome = true ↔ 0 ≤ n ∧ n.toNat < xs.length := by
    unfold bK; split <;> simp_all <;> omega
   simp only [xU, cb]
   by_cases bf : 0 ≤ n <;> by_cases ae : (C.T e).ok = true <;> simp [bf, ae]
def vy : nR → ar → Option (List UInt8) → Option (I × ar)
 | .str, s, some t => some (.str t, s)
 | _, _, _ => none
def vz (C : cE) : nR → ar → List I → Option (List I) → Option (I × ar)
 | .slice e, s, xs, some t => if (C.T e).ok = true ∧ ∀ d ∈ xs, d.wd = (C.T e).sz then some (.slice t, s) else none
 | _, _, _, _ => none
theorem K0 (C : cE) (s : ar) (T : TypeId) (l : List UInt8) :
  (∀ k a dA b, fS C s T (.str l) (some (.int k a)) (some (.int dA b)) = vy (C.T T).k s (ka l a b)) ∧
  (∀ dA b, fS C s T (.str l) none (some (.int dA b)) = vy (C.T T).k s (ka l 0 b)) ∧
  (∀ k a, fS C s T (.str l) (some (.int k a)) none = vy (C.T T).k s (ka l a l.length)) := by
 have e : ∀ (dB au : Option I) (a b : Int), (i2 0 dB = if 0 ≤ a then some a.toNat else none) → (i2 l.length au = if 0 ≤ b then some b.toNat else none) → fS C s T (.str l) dB au = vy (C.T T).k s (ka l a b) := by
  intro dB au a b ae ah
  simp only [fS]
  generalize (C.T T).k = ml
  cases ml <;> first | rfl | skip
  simp only [ae, ah, ka]
  by_cases cJ : 0 ≤ a <;> by_cases ad : 0 ≤ b <;> simp only [cJ, ad, if_true, if_false, vy, true_and, false_and]
  ·by_cases ax : a ≤ b ∧ b ≤ l.length
   ·rw [if_pos ⟨by omega, by omega⟩, if_pos ax]
   ·rw [if_neg (fun h => ax ⟨by omega, by omega⟩), if_neg ax]
  ·rw [if_neg (by omega)]
 exact ⟨fun k a dA b => e _ _ a b rfl rfl, fun dA b => e _ _ 0 b rfl rfl, fun k a => e _ _ a l.length rfl (by simp [i2])⟩
theorem K1 (C : cE) (s : ar) (T : TypeId) (xs : List I) :
  (∀ k a dA b, fS C s T (.slice xs) (some (.int k a)) (some (.int dA b)) = vz C (C.T T).k s xs (ka xs a b)) ∧
  (∀ dA b, fS C s T (.slice xs) none (some (.int dA b)) = vz C (C.T T).k s xs (ka xs 0 b)) ∧
  (∀ k a, fS C s T (.slice xs) (some (.int k a)) none = vz C (C.T T).k s xs (ka xs a xs.length)) := by
 have e : ∀ (dB au : Option I) (a b : Int), (i2 0 dB = if 0 ≤ a then some a.toNat else none) → (i2 xs.length au = if 0 ≤ b then some b.toNat else none) → fS C s T (.slice xs) dB au = vz C (C.T T).k s xs (ka xs a b) := by
  intro dB au a b ae ah
  simp only [fS]
  generalize (C.T T).k = ml
  cases ml <;> first | rfl | skip
  simp only [ae, ah, ka]
  by_cases cJ : 0 ≤ a <;> by_cases ad : 0 ≤ b <;> simp only [cJ, ad, if_true, if_false, vz, true_and, false_and]
  ·by_cases ax : a ≤ b ∧ b ≤ xs.length
   ·rw [if_pos ax]
    have ae : a.toNat ≤ b.toNat := by omega
    have ah : b.toNat ≤ xs.length := by omega
    simp only [ae, ah, true_and]
   ·rw [if_neg (fun h => ax ⟨by omega, by omega⟩), if_neg ax]
  ·rw [if_neg (by omega)]
 exact ⟨fun k a dA b => e _ _ a b rfl rfl, fun dA b => e _ _ 0 b rfl rfl, fun k a => e _ _ a xs.length rfl (by simp [i2])⟩
def xV (q : List Nat) : Option I → Option I
 | some d => I.sub q d
 | none => none
theorem K2 : (∀ d, I.sub [] d = some d) ∧ (∀ k q ay, I.sub (k :: q) (.agg ay) = xV q ay[k]?) ∧ (∀ k q ay, I.sub (k :: q) (.tuple ay) = xV q ay[k]?) ∧ (∀ k q sz xs, I.sub (k :: q) (.ao sz xs) = xV q xs[k]?) ∧
  (∀ q d, I.sub (0 :: q) (.bb d) = I.sub q d) ∧ (∀ q d, xV q (some d) = I.sub q d) ∧
  (∀ k q a b, I.sub (k :: q) (.int a b) = none) := by
 refine ⟨fun d => by simp [I.sub], ?_, ?_, ?_, fun q d => by simp [I.sub], fun _ _ => rfl, fun _ _ _ _ => by simp [I.sub]⟩
 ·intro k q ay; simp only [I.sub]; cases ay[k]? <;> rfl
 ·intro k q ay; simp only [I.sub]; cases ay[k]? <;> rfl
 ·intro k q sz ay; simp only [I.sub]; cases ay[k]? <;> rfl
def K3 (k : Nat) (q : List Nat) (n : I) (ay : List I) : Option I → I
 | some d => .agg (ay.set k (I.put q n d))
 | none => .agg ay
def K4 (k : Nat) (q : List Nat) (n : I) (ay : List I) : Option I → I
 | some d => .tuple (ay.set k (I.put q n d))
 | none => .tuple ay
def K5 (k : Nat) (q : List Nat) (n : I) (sz : Nat) (xs : List I) : Option I → I
 | some d => .ao sz (xs.set k (I.put q n d))
 | none => .ao sz xs
theorem K6 : (∀ n d, I.put [] n d = n) ∧ (∀ k q n ay, I.put (k :: q) n (.agg ay) = K3 k q n ay ay[k]?) ∧ (∀ k q n ay, I.put (k :: q) n (.tuple ay) = K4 k q n ay ay[k]?) ∧
  (∀ k q n sz xs, I.put (k :: q) n (.ao sz xs) = K5 k q n sz xs xs[k]?) ∧ (∀ q n d, I.put (0 :: q) n (.bb d) = .bb (I.put q n d)) ∧
  (∀ k q n ay d, K3 k q n ay (some d) = .agg (ay.set k (I.put q n d))) ∧ (∀ k q n ay d, K4 k q n ay (some d) = .tuple (ay.set k (I.put q n d))) ∧
  (∀ k q n sz xs d, K5 k q n sz xs (some d) = .ao sz (xs.set k (I.put q n d))) := by
 refine ⟨fun n d => by simp [I.put], ?_, ?_, ?_, fun q n d => by simp [I.put], fun _ _ _ _ _ => rfl, fun _ _ _ _ _ => rfl, fun _ _ _ _ _ _ => rfl⟩
 ·intro k q n ay; simp only [I.put]; cases ay[k]? <;> rfl
 ·intro k q n ay; simp only [I.put]; cases ay[k]? <;> rfl
 ·intro k q n sz ay; simp only [I.put]; cases ay[k]? <;> rfl
theorem F1 : (∀ k n, I.wd (.int k n) = 1) ∧ (∀ b, I.wd (.bool b) = 1) ∧ (∀ x, I.wd (.str x) = 1) ∧ (∀ x, I.wd (.slice x) = 1) ∧ (∀ n x, I.wd (.ao n x) = 1) ∧ (∀ x, I.wd (.ref x) = 1) ∧ (∀ x, I.wd (.bb x) = 1) ∧
  I.wd .bp = 1 ∧ I.wd .dI = 1 ∧ I.wd .hole = 1 ∧ I.wd .fu = 1 ∧ (∀ x y, I.wd (.h x y) = 1) ∧ (∀ x y, I.wd (.az x y) = 1) ∧ (∀ x y, I.wd (.fn x y) = 1) ∧ (∀ ay, I.wd (.agg ay) = I.eK ay) ∧ (∀ ay, I.wd (.tuple ay) = I.eK ay) ∧ I.eK [] = 0 ∧ (∀ d ds, I.eK (d :: ds) = d.wd + I.eK ds) := by
 simp [I.wd, I.eK]
theorem Uh {α : Type} {e : α → I} {n : Nat} (h : ∀ x, (e x).wd = n) (xs : List α) : (∀ d ∈ xs.map e, d.wd = n) = True := by
 simp only [List.mem_map, eq_iff_iff, iff_true]
 rintro d ⟨x, _, rfl⟩; exact h x
theorem Ui (C : cE) (s : ar) (A B : TypeId) (k dA : IntKind) (n : Int) (jm : (C.T A).ok = true) (hY : (C.T B).k = .int dA) : gH C s A B (.int k n) = some (.int dA (dA.wrap n)) := by
 simp only [gH, jm, hY, if_true]
theorem K7 (m : Int) : kX (qe m) = .int .u8 (IntKind.u8.wrap m) := by
 have h : 0 ≤ IntKind.u8.wrap m ∧ IntKind.u8.wrap m < 256 := by rw [IntKind.wrap_u8]; omega
 simp only [kX, qe, UInt8.toNat_ofNat']
 congr 1
 omega
theorem F2 (m : Int) : ((qe m).toNat : Int) = IntKind.u8.wrap m := by
 have h := K7 m
 simpa [kX] using h
section
variable {C : cE} {l : List (Nat × I)} {Q : Exit → ar → Prop} {s : ar}
theorem kk {ros : List cm} {k : List Nat} (h : cT C (aa l) ros none (fun _ s => Q .normal (aa (i9 k s)))) : df C (.R ros (some k)) Q (aa l) := sQ (fun _ _ h => h) h
theorem Uj {ros : List cm} {hi : List (List Nat)} {k : List Nat} (hlen : hi.length = ros.length) (h : cT C (aa l) ros (some []) (fun acc s => mx (sS hi) 0 [] (acc.getD []).reverse = true ∧ Q .normal (aa (i9 k s)))) :
  df C (.gK ros hi (some k)) Q (aa l) := KL hlen h
theorem Uk {a b : J} (h : ∀ eZ : Exit → ar → Prop, (∀ s, eO (df C b Q) s → eZ .normal s) → (∀ s, Q .ret s → eZ .ret s) → (∀ i s, Q (.exit i) s → eZ (.exit i) s) → df C a eZ s) : df C (.seq a b) Q s :=
 h _ (fun _ h => h) (fun _ h => h) (fun _ _ h => h)
theorem cN {ros : List cm} {k : List Nat} {b : J} (h : cT C (aa l) ros none (fun _ s => df C b Q (aa (i9 k s)))) : df C (.seq (.R ros (some k)) b) Q (aa l) := sQ (fun _ _ h => .inl h) h
theorem gx {ros : List cm} {hi : List (List Nat)} {k : List Nat} {b : J} (hlen : hi.length = ros.length) (h : cT C (aa l) ros (some []) (fun acc s => mx (sS hi) 0 [] (acc.getD []).reverse = true ∧ df C b Q (aa (i9 k s)))) :
  df C (.seq (.gK ros hi (some k)) b) Q (aa l) := KL (K := fun s => eO (df C b Q) (aa (i9 k s))) hlen (by
   have key : ∀ (os : List cm) (s : ar) (acc : Option (List gb)), cT C s os acc (fun acc s => mx (sS hi) 0 [] (acc.getD []).reverse = true ∧ df C b Q (aa (i9 k s))) →
     cT C s os acc (fun acc s => mx (sS hi) 0 [] (acc.getD []).reverse = true ∧ eO (df C b Q) (aa (i9 k s))) := by
    intro os
    induction os with
    | nil => intro s acc h; exact ⟨h.1, .inl h.2⟩
    | cons o os ih =>
      intro s acc h
      have mono : ∀ {s : ar} {b1 : gI} {K dS : List Nat → I → ar → Prop}, (∀ a b c, K a b c → dS a b c) → n_ C s b1 K → n_ C s b1 dS := by
       intro s b1 K dS aA h
       cases b1 with
       | call f args =>
         obtain ⟨g, caps, ps, r, ae, gQ, ah, aH, a6, bN, cW, cI, fM⟩ := h
         exact ⟨g, caps, ps, r, ae, gQ, ah, aH, a6, bN, cW, cI, aA _ _ _ fM⟩
       | shr b1 => obtain ⟨av, s1, ae, ah, aH, a6⟩ := h; exact ⟨av, s1, ae, ah, aH, aA _ _ _ a6⟩
       | mM f args u x =>
         obtain ⟨ca, cy, g, caps, ps, r, ae, gQ, ah, aH, a6, bN, cW, cI, fM, hQ, h5⟩ := h
         exact ⟨ca, cy, g, caps, ps, r, ae, gQ, ah, aH, a6, bN, cW, cI, fM, hQ, aA _ _ _ h5⟩
       | kz f args us =>
         obtain ⟨cy, g, caps, ps, r, ae, gQ, ah, aH, a6, bN, cW, cI, fM, hQ⟩ := h
         exact ⟨cy, g, caps, ps, r, ae, gQ, ah, aH, a6, bN, cW, cI, fM, aA _ _ _ hQ⟩
       | _ => obtain ⟨av, s1, ae, ah⟩ := h; exact ⟨av, s1, ae, aA _ _ _ ah⟩
      simp only [cT, nu] at h ⊢
      split
      ·rename_i cb; rw [cb] at h; exact mono (fun _ _ _ => ih _ _) h
      ·rename_i t gA cb
       rw [cb] at h
       simp only at h
       split
       ·rename_i aBq af
        rw [af] at h
        simp only at h
        split
        ·rename_i ad; rw [if_pos ad] at h; exact mono (fun _ _ _ => ih _ _) h
        ·rename_i ad; rw [if_neg ad] at h; exact ih _ _ h
       ·rename_i af; rw [af] at h; exact ih _ _ h
       ·rename_i ae ah
        split at h
        ·exact ae _ (by assumption)
        ·exact ah (by assumption)
        ·exact h
   exact key _ _ _ h)
theorem iZ {c : aI} {a b : J} (ax : aP s c = .bool true) (h : df C a Q s) : df C (.cond c a b) Q s := by simp only [df, ax, if_true]; exact h
theorem rF {c : aI} {a b : J} (ax : aP s c = .bool false) (h : df C b Q s) : df C (.cond c a b) Q s := by simp only [df, ax]; exact h
theorem Ul {c : aI} {a b : J} (ax : aP s c = .fu) (ae : df C a Q s) (ah : df C b Q s) : df C (.cond c a b) Q s := by simp only [df, ax]; exact ⟨ae, ah⟩
theorem Um {id : Nat} {b : J} (h : ∀ eZ : Exit → ar → Prop, (∀ s, Q .normal s → eZ .normal s) → (∀ s, Q .ret s → eZ .ret s) → (∀ s, Q .normal s → eZ (.exit id) s) → (∀ i s, i ≠ id → Q (.exit i) s → eZ (.exit i) s) → df C b eZ s) : df C (.block id b) Q s :=
 h (u1 id Q) (fun _ h => h) (fun _ h => h) (fun s h => by simp only [u1, if_true]; exact h) (fun i s au h => by simp only [u1, if_neg au]; exact h)
theorem dV {id : Nat} (h : Q (.exit id) s) : df C (.exit id) Q s := h
theorem aE (h : Q .ret s) : df C .ret Q s := h
theorem aY (h : Q .normal s) : df C .skip Q s := h
def dE (C : cE) (b : J) (Q : Exit → ar → Prop) (s : ar) : Prop := ∀ Z : ar → Prop, (∀ aB, df C b (andThen (eO Z) Q) aB → Z aB) → Z s
theorem dW {b : J} (h : eO (dE C b Q) s) : df C (.loop b) Q s := h
theorem Un {b : J} (h : ∀ eZ : Exit → ar → Prop, (∀ s, eO (dE C b Q) s → eZ .normal s) → (∀ s, Q .ret s → eZ .ret s) → (∀ i s, Q (.exit i) s → eZ (.exit i) s) → df C b eZ s) : dE C b Q s := by
 intro Z u3
 refine u3 s (FD b ?_ (h (andThen (eO (dE C b Q)) Q) (fun _ h => h) (fun _ h => h) (fun _ _ h => h)))
 intro e aB bP
 cases e with
 | normal => exact u2 (fun s h => h Z u3) aB bP
 | _ => exact bP
theorem bu {eP : List (Nat × I)} (h : eP.map (·.2) = eP.map fun p => s p.1) : xN s eP := by
 intro p az
 left
 induction eP with
 | nil => cases az
 | cons a eP ih =>
   simp only [List.map_cons, List.cons.injEq] at h
   rcases List.mem_cons.1 az with rfl | az
   ·exact h.1
   ·exact ih h.2 az
end
section
variable {C : cE} {l : List (Nat × I)} {Q : Exit → ar → Prop} {s : ar} {os ros : List cm} {K : Option (List gb) → ar → Prop} {dst : Option Nat}
theorem K8 (l : List (Nat × I)) : (∀ n, aP (aa l) (.t n) = jj n (aa l n)) ∧ (∀ av, aP (aa l) (.c av) = av) ∧ (∀ g, aP (aa l) (.f g) = .fn g []) := ⟨fun _ => rfl, fun _ => rfl, fun _ => rfl⟩
theorem K9 : (∀ t, aa [] t = .hole) ∧ (∀ u d (l : List (Nat × I)) t, aa ((u, d) :: l) t = if t = u then d else aa l t) := ⟨fun _ => rfl, fun _ _ _ _ => rfl⟩
theorem K_ (s : ar) : i9 [] s = [] ∧ (∀ t k, i9 (t :: k) s = (t, s t) :: i9 k s) := ⟨rfl, fun _ _ => rfl⟩
theorem La (s : ar) : (∀ d, dt s (some d) = some (d, s)) ∧ (∀ s1, dZ (some s1) = some (.hole, s1)) ∧ iB s [] = [] ∧ (∀ x xs, iB s (x :: xs) = aP s x :: iB s xs) ∧ kB s [] = [] ∧ (∀ k x xs, kB s ((k, x) :: xs) = (k, aP s x) :: kB s xs) ∧
  lO s none = none ∧ (∀ x, lO s (some x) = some (aP s x)) ∧ (∀ b x y, rD s (.bool b) x y = some (if b = true then x else y, s)) :=
 ⟨fun _ => rfl, fun _ => rfl, rfl, fun _ _ => rfl, rfl, fun _ _ _ => rfl, rfl, fun _ => rfl, fun b _ _ => by cases b <;> rfl⟩
theorem Lb (C : cE) : (∀ e d, FZ C (.slice e) (some d) = if (C.T e).ok = true ∧ d.wd = (C.T e).sz then some (.ref d) else none) ∧
  (∀ y q n e sz xs, xU C y q n (.slice e) (some (.ao sz xs)) = if (bK xs n).isSome = true ∧ (C.T e).ok = true ∧ sz = (C.T e).sz then some (.az y (q ++ [n.toNat])) else none) ∧
  (∀ e s xs t, vz C (.slice e) s xs (some t) = if (C.T e).ok = true ∧ ∀ d ∈ xs, d.wd = (C.T e).sz then some (.slice t, s) else none) :=
 ⟨fun _ _ => rfl, fun _ _ _ _ _ _ => rfl, fun _ _ _ _ => rfl⟩
theorem Lc : (∀ b, FX .bool b = some (.bool b)) ∧ (∀ c, FY .str (some c) = some (.int .u8 c.toNat)) ∧ (∀ s t, vy .str s (some t) = some (.str t, s)) ∧ (∀ q d, xV q (some d) = I.sub q d) :=
 ⟨fun _ => rfl, fun _ => rfl, fun _ _ => rfl, fun _ _ => rfl⟩
theorem Ld (sz bytes : Nat) (z : I) : (∀ k, hn.ok ⟨.int k, sz, bytes, z⟩ = true) ∧ hn.ok ⟨.bool, sz, bytes, z⟩ = true ∧ hn.ok ⟨.str, sz, bytes, z⟩ = true ∧ (∀ e, hn.ok ⟨.ptr e, sz, bytes, z⟩ = true) ∧ (∀ e, hn.ok ⟨.slice e, sz, bytes, z⟩ = true) ∧ (∀ e, hn.ok ⟨.struct e, sz, bytes, z⟩ = true) ∧ hn.ok ⟨.fn, sz, bytes, z⟩ = true := by
 simp [hn.ok]
theorem Le (sz bytes : Nat) (z : I) : (∀ k, hn.flat ⟨.int k, sz, bytes, z⟩ = true) ∧ hn.flat ⟨.bool, sz, bytes, z⟩ = true ∧ hn.flat ⟨.str, sz, bytes, z⟩ = true ∧ (∀ e, hn.flat ⟨.ptr e, sz, bytes, z⟩ = true) ∧ (∀ e, hn.flat ⟨.slice e, sz, bytes, z⟩ = true) ∧ (∀ e, hn.flat ⟨.struct e, sz, bytes, z⟩ = false) ∧ hn.flat ⟨.fn, sz, bytes, z⟩ = true := by
 simp [hn.flat]
theorem xW (c : UInt8) (k : IntKind) (aA : k ≠ .i8) : k.wrap (c.toNat : Int) = (c.toNat : Int) := by
 have := c.toNat_lt
 cases k <;> first | (exact (aA rfl).elim) | (simp [IntKind.wrap, IntKind.bits, IntKind.signed]; try omega)
theorem F3 (c : UInt8) : IntKind.i64.wrap (c.toNat : Int) = (c.toNat : Int) ∧ IntKind.u64.wrap (c.toNat : Int) = (c.toNat : Int) ∧ IntKind.u8.wrap (c.toNat : Int) = (c.toNat : Int) ∧ IntKind.i32.wrap (c.toNat : Int) = (c.toNat : Int) ∧ IntKind.u32.wrap (c.toNat : Int) = (c.toNat : Int) :=
 ⟨xW c _ (by simp), xW c _ (by simp), xW c _ (by simp), xW c _ (by simp), xW c _ (by simp)⟩
theorem bY {k : List Nat} {K : ar → Prop} (eP : List (Nat × I)) (h : ∀ P : List (Nat × I) → Prop, P eP → cT C (aa l) ros none (fun _ s => P (i9 k s))) (aA : K (aa eP)) : cT C (aa l) ros none (fun _ s => K (aa (i9 k s))) :=
 h (fun l => K (aa l)) aA
theorem gm {k : List Nat} {mU : List (List Nat)} {K : ar → Prop} (eP : List (Nat × I)) (h : ∀ P : List (Nat × I) → Prop, P eP → cT C (aa l) ros (some []) (fun acc s => mx mU 0 [] (acc.getD []).reverse = true ∧ P (i9 k s))) (aA : K (aa eP)) :
  cT C (aa l) ros (some []) (fun acc s => mx mU 0 [] (acc.getD []).reverse = true ∧ K (aa (i9 k s))) :=
 h (fun l => K (aa l)) aA
theorem bm.Uo (bz : C.Ok) {f : FuncId} {fn : Func} {c : Code} {dN : J} {fx : List Nat} {as outs : List I} {r : I} (bF : C.P.funcs[f]? = some fn) (ad : fn.body = some c)
  (k1 : (fn.name == "runtime.NumGoroutine") = false) (af : bq ⟨fn.ntmps, fx⟩ c = some dN.strip) (a_ : as.length ≤ fn.ntmps)
  (h : ∀ Q : Exit → ar → Prop, (∀ s, eO (Ends C fx fn.results.toList r outs) s → Q .ret s) → (∀ s, eO (Ends C fx fn.results.toList r outs) s → Q .normal s) → df C dN Q (aa (num 0 as))) (az : dN.plain = true := by kernel_rfl) : bm C f as r outs := by
 refine bm.of_wp bz bF ad k1 af a_ ?_ az
 rw [FJ]
 exact h _ (fun s h => ⟨.inr rfl, h⟩) (fun s h => ⟨.inl rfl, h⟩)
def Lf : List I → I
 | [d] => d
 | ds => .tuple ds
theorem oc {fx : List Nat} {gl : List ResultVar} {r : I} {outs : List I} (ds : List I) (ae : gl.map (qv C s) = ds.map some) (ah : r = Lf ds) (aH : (gl.map j1).Nodup)
  (a6 : ∀ (i : Nat) (o : I), outs[i]? = some o → o = .hole ∨ (o = s i ∧ o.g5 = true ∧ i ∈ fx ∧ i ∉ gl.map j1)) : Ends C fx gl r outs s := ⟨ds, ae, by subst ah; cases ds with | nil => rfl | cons a t => cases t <;> rfl, aH, a6⟩
theorem Up {fx : List Nat} {gl : List ResultVar} : ∀ (i : Nat) (o : I), ([] : List I)[i]? = some o → o = .hole ∨ (o = s i ∧ o.g5 = true ∧ i ∈ fx ∧ i ∉ gl.map j1) := fun i o h => by simp at h
theorem Lg : ∀ (as ds : List I), (mv as ds).filter (·.g) = []
 | [], _ => rfl
 | _ :: _, [] => rfl
 | a :: as, d :: ds => by simp only [mv, List.filter_cons]; exact Lg as ds
theorem AW {f : aI} {args : List aI} {g : FuncId} {caps : List I} {K : List Nat → I → ar → Prop} (ds : List I) (r : I)
  (ae : aP (aa l) f = .fn g caps) (gQ : I.ed caps = true) (jM : views (aa l) (iB (aa l) args ++ caps) = some ds)
  (bN : bm C g ds r []) (cW : r.res = true) (cI : I.e5 (iB (aa l) args ++ caps) = [] ∨ r.de = true) (jN : K [] r (aa l)) : n_ C (aa l) (.call f args) K := by
 obtain ⟨aU, ba, aW, cS, cZ, cn, bV⟩ := TC _ _ jM
 refine ⟨g, caps, mv (iB (aa l) args ++ caps) ds, r, ae, gQ, by rw [aU, u_], fun p az => (aW p az).1, cS, by rw [ba]; exact bN.outs cZ.symm, cW, ?_, by rw [cn, bV, Lg]; exact jN⟩
 intro hl
 refine ⟨?_, fun p az => by rw [(aW p az).2.2.1]; rfl⟩
 rcases cI with cI | cI
 ·exfalso
  simp only [kf, List.any_eq_true] at hl
  obtain ⟨p, az, gG⟩ := hl
  have hm := (aW p az).2.2.2
  have : p.a.af = [] := by
   have key : ∀ (as : List I) (a : I), a ∈ as → I.e5 as = [] → a.af = [] := by
    intro as
    induction as with
    | nil => intro a h; cases h
    | cons b as ih =>
      intro a h he
      simp only [I.e5, List.append_eq_nil_iff] at he
      rcases List.mem_cons.1 h with rfl | h
      ·exact he.1
      ·exact ih a h he.2
   exact key _ _ hm cI
  rw [this] at gG; simp at gG
 ·exact cI
theorem eC {f : aI} {args : List aI} {g : FuncId} {caps : List I} {ds : List I} {r : I} (bN : bm C g ds r [])
  (ae : aP (aa l) f = .fn g caps) (gQ : I.ed caps = true) (jM : views (aa l) (iB (aa l) args ++ caps) = some ds)
  (cW : r.res = true) (cI : I.e5 (iB (aa l) args ++ caps) = [] ∨ r.de = true)
  (jN : cT C (fin (aa l) dst r) os none K) : cT C (aa l) (⟨dst, .call f args, none⟩ :: os) none K := by
 simp only [cT, nu, pU]
 exact AW ds r ae gQ jM bN cW cI jN
theorem h0 {a : List gb} {f : aI} {args : List aI} {g : FuncId} {caps : List I} {ds : List I} {r : I} (bN : bm C g ds r [])
  (ae : aP (aa l) f = .fn g caps) (gQ : I.ed caps = true) (jM : views (aa l) (iB (aa l) args ++ caps) = some ds)
  (cW : r.res = true) (cI : I.e5 (iB (aa l) args ++ caps) = [] ∨ r.de = true)
  (jN : cT C (fin (aa l) dst r) os (some (jo (aa l) (use (aa l) (.call f args)) dst [] r :: a)) K) : cT C (aa l) (⟨dst, .call f args, none⟩ :: os) (some a) K := by
 simp only [cT, nu, pU]
 exact AW ds r ae gQ jM bN cW cI jN
theorem hN {t : Nat} {b : Bool} {f : aI} {args : List aI} {g : FuncId} {caps : List I} {ds : List I} {r : I} (bN : bm C g ds r [])
  (ae : aP (aa l) f = .fn g caps) (gQ : I.ed caps = true) (jM : views (aa l) (iB (aa l) args ++ caps) = some ds)
  (cW : r.res = true) (cI : I.e5 (iB (aa l) args ++ caps) = [] ∨ r.de = true)
  (jN : cT C (fin (aa l) dst r) os none K) : cY C l dst (.call f args) t b os none K (.bool b) := by
 simp only [cY, if_true]
 exact AW ds r ae gQ jM bN cW cI jN
theorem k4 {a : List gb} {t : Nat} {b : Bool} {f : aI} {args : List aI} {g : FuncId} {caps : List I} {ds : List I} {r : I} (bN : bm C g ds r [])
  (ae : aP (aa l) f = .fn g caps) (gQ : I.ed caps = true) (jM : views (aa l) (iB (aa l) args ++ caps) = some ds)
  (cW : r.res = true) (cI : I.e5 (iB (aa l) args ++ caps) = [] ∨ r.de = true)
  (jN : cT C (fin (aa l) dst r) os (some (jo (aa l) (t :: use (aa l) (.call f args)) dst [] r :: a)) K) : cY C l dst (.call f args) t b os (some a) K (.bool b) := by
 simp only [cY, if_true]
 exact AW ds r ae gQ jM bN cW cI jN
theorem fV (s : ar) : views s [] = some [] ∧ (∀ d ds, views s (d :: ds) = (match view s d, views s ds with | some a, some b => some (a :: b) | _, _ => none)) ∧
  (∀ k n, view s (.int k n) = some (.int k n)) ∧ (∀ b, view s (.bool b) = some (.bool b)) ∧ (∀ x, view s (.str x) = some (.str x)) ∧ (∀ x, view s (.slice x) = some (.slice x)) ∧ (∀ x, view s (.ref x) = some (.ref x)) ∧
  view s .bp = some .bp ∧ view s .dI = some .dI ∧ (∀ ay, view s (.agg ay) = some (.agg ay)) ∧ (∀ f cap, view s (.fn f cap) = (views s cap).map (.fn f)) := by
 refine ⟨rfl, fun d ds => ?_, fun _ _ => rfl, fun _ => rfl, fun _ => rfl, fun _ => rfl, fun _ => rfl, rfl, rfl, fun _ => rfl, fun _ _ => by simp only [view]⟩
 simp only [views]; rfl
theorem bR {α : Type} {u e : α → I} (h : ∀ x, (u x).share = e x) (xs : List α) : I.shares (xs.map u) = xs.map e := by
 rw [I.sa]; simp [h]
theorem kC {α : Type} {u : α → I} (h : ∀ x, (u x).de = true) (xs : List α) : I.hT (xs.map u) = true := by
 induction xs with
 | nil => rfl
 | cons x xs ih => simp only [List.map_cons, I.hT, h, ih, Bool.and_self]
def rG (s : ar) (H : List Nat) : List (Nat × I) → Prop
 | [] => True
 | p :: l => (p.2 = s p.1 ∨ ((s p.1).tree = true ∧ fU (s p.1) p.2 ∧ p.1 ∉ H)) ∧ rG s H l
theorem nv {eP : List (Nat × I)} (H : List Nat) (kj : I.e5 (eP.map (·.2)) = H) (h : rG s H eP) : xN s eP := by
 have key : ∀ (hx : List (Nat × I)), rG s H hx → ∀ p ∈ hx, p.2 = s p.1 ∨ ((s p.1).tree = true ∧ fU (s p.1) p.2 ∧ p.1 ∉ H) := by
  intro hx
  induction hx with
  | nil => intro _ p az; cases az
  | cons a hx ih =>
    intro h p az
    rcases List.mem_cons.1 az with rfl | az
    ·exact h.1
    ·exact ih h.2 p az
 have af : ∀ (hx : List (Nat × I)), ∀ c2 ∈ hx, ∀ u ∈ c2.2.af, u ∈ I.e5 (hx.map (·.2)) := by
  intro hx
  induction hx with
  | nil => intro p az; cases az
  | cons a hx ih =>
    intro p az u hu
    simp only [List.map_cons, I.e5, List.mem_append]
    rcases List.mem_cons.1 az with rfl | az
    ·exact .inl hu
    ·exact .inr (ih p az u hu)
 intro p az
 rcases key _ h p az with ae | ⟨ae, ah, aH⟩
 ·exact .inl ae
 ·refine .inr ⟨ae, ah, fun c2 fi => .inl fun hm => aH ?_⟩
  rw [← kj]; exact af eP c2 fi _ hm
theorem nw {H : List Nat} : rG s H [] := trivial
theorem kl {H : List Nat} {t : Nat} {d : I} {eP : List (Nat × I)} (h : d = s t) (hl : rG s H eP) : rG s H ((t, d) :: eP) := ⟨.inl h, hl⟩
theorem nx {H : List Nat} {t : Nat} {d bQ : I} {eP : List (Nat × I)} (e : s t = d) (bo : d.tree = true) (aj : fU d bQ) (kj : t ∉ H) (hl : rG s H eP) : rG s H ((t, bQ) :: eP) := ⟨.inr ⟨by rw [e]; exact bo, by rw [e]; exact aj, kj⟩, hl⟩
theorem Lh {a b : I} (h : fU a b) : ∀ n, kA (List.replicate n a) (List.replicate n b)
 | 0 => .nil
 | n + 1 => by simp only [List.replicate_succ]; exact .cons h (Lh h n)
theorem xX {α : Type} {sz : Nat} {u : α → I} {z : α} {a : I} (h : fU a (u z)) (n : Nat) : fU (.ao sz (List.replicate n a)) (.ao sz ((List.replicate n z).map u)) := by
 rw [List.map_replicate]; exact .ao (Lh h n)
end
theorem Li {C : cE} {A B : TypeId} {dA : IntKind} (jm : (C.T A).ok = true) (hY : (C.T B).k = .int dA) : ∀ s k n, gH C s A B (.int k n) = some (.int dA (dA.wrap n)) := fun s k n => Ui C s A B k dA n jm hY
def Lj : Option I → Option I
 | some (.ao 1 xs) => (bytesOf xs).map .str
 | _ => none
theorem Lk {C : cE} {A B e : TypeId} (jm : (C.T A).k = .slice e) (hY : (C.T B).k = .str) (he : (C.T e).k = .int .u8) :
  (∀ s xs, gH C s A B (.slice xs) = (bytesOf xs).map .str) ∧ (∀ s, gH C s A B .bp = some (.str [])) ∧ (∀ s x q, gH C s A B (.h x q) = Lj (I.sub q (s x))) := by
 have xn : (C.T A).ok = true := by simp [hn.ok, jm]
 refine ⟨fun s xs => ?_, fun s => ?_, fun s x q => ?_⟩
 ·simp only [gH, xn, jm, hY, he, if_true]
 ·simp only [gH, xn, jm, hY, he, if_true]
 ·simp only [gH, xn, jm, hY, he, if_true]
  rfl
theorem Ll (xs : List I) : Lj (some (.ao 1 xs)) = (bytesOf xs).map .str := rfl
theorem Lm (c : UInt8) (r : List I) : bytesOf (kX c :: r) = (bytesOf r).map (c :: ·) := by
 have := c.toNat_lt
 simp only [kX, bytesOf]
 rw [if_pos (by omega)]
 simp
theorem Ln : bytesOf [] = some [] ∧ (∀ l : List UInt8, bytesOf (l.map kX) = some l) ∧ (∀ (c : UInt8) r, bytesOf (.int .u8 (c.toNat : Int) :: r) = (bytesOf r).map (c :: ·)) ∧
  (∀ m r, bytesOf (.int .u8 (IntKind.u8.wrap m) :: r) = (bytesOf r).map (qe m :: ·)) :=
 ⟨rfl, Rq, fun c r => Lm c r, fun m r => by rw [← K7]; exact Lm _ r⟩
theorem Uq {k : IntKind} {b : Int} (h : b ≠ 0) : ∀ a, jl .quo k a k b = some (.int k (k.wrap (a.tdiv b))) := fun _ => Uf h
theorem Lo {k : IntKind} {b : Int} (h : b ≠ 0) : ∀ a, jl .rem k a k b = some (.int k (a.tmod b)) := fun _ => Ug h
theorem lp {α : Type} {e : α → I} {n : Nat} (h : ∀ x, (e x).wd = n) : ∀ xs : List α, (∀ d ∈ xs.map e, d.wd = n) = True := Uh h
theorem all_cons {P : I → Prop} (d : I) (ds : List I) : (∀ x ∈ d :: ds, P x) = (P d ∧ ∀ x ∈ ds, P x) := by simp
theorem all_nil {P : I → Prop} : (∀ x ∈ ([] : List I), P x) = True := by simp
def Lp (a b : List UInt8) : Option Unit → Option I
 | some _ => some (.str (a ++ b))
 | none => none
theorem AX (a b : List UInt8) : nk .add a b = Lp a b (pC (a.length + b.length)) := by
 simp only [nk, pC]; split <;> rfl
theorem AY (a b : List UInt8) (u : Unit) : Lp a b (some u) = some (.str (a ++ b)) := rfl
theorem Lq : (∀ l : List Nat, [] ++ l = l) ∧ (∀ a (l m : List Nat), (a :: l) ++ m = a :: (l ++ m)) := ⟨fun _ => rfl, fun _ _ _ => rfl⟩
def Lr (C : cE) (e b0 : TypeId) : Bool := (C.T e).ok && ((C.T e).zero.wd == (C.T e).sz) && (flat (C.T e).zero).isSome && An C e b0
def AZ (C : cE) (e : TypeId) (xs : List I) : Option (List I × ar) → Option (I × ar)
 | some (cd, s2) => if (∀ d ∈ cd, d.wd = (C.T e).sz) ∧ (room (C.T e).bytes (xs.length + cd.length)).isSome = true then some (.ao (C.T e).sz (xs ++ cd), s2) else none
 | none => none
def F4 (C : cE) (e : TypeId) (y : I) (o : Option Nat) : Option (I × ar) → Option (I × ar)
 | some (.ao sz xs, s1) => if sz = (C.T e).sz then AZ C e xs (lK s1 (kV o y)) else none
 | _ => none
theorem Ur (b n : Nat) : (room b n).isSome = true ↔ n * b ≤ 140737488355328 ∧ n ≤ 9223372036854775807 := by unfold room; split <;> simp_all
theorem mV {C : cE} {T b0 e : TypeId} (ld : (C.T T).k = .slice e) (gj : Lr C e b0 = true) : ∀ s x y, mq C s T b0 x y = F4 C e y x.owner (pQ C e s x) := by
 intro s x y
 simp only [Lr, Bool.and_eq_true, beq_iff_eq] at gj
 rw [Fb, ld]
 simp only
 rw [if_pos ⟨gj.1.1.1, gj.1.1.2, gj.1.2, gj.2⟩]
 generalize x.owner = o
 cases pQ C e s x with
 | none => rfl
 | some p =>
   obtain ⟨d, s1⟩ := p
   cases d <;> first
    | rfl
    | (simp only [F4]
       split
       ·rename_i h; subst h
        generalize lK s1 (kV o y) = z
        cases z with
        | none => rfl
        | some p => simp only [AZ, Ur]
       ·rfl)
def Ls : Option (I × ar) → Option (List I × ar)
 | some (.ao _ cd, s2) => some (cd, s2)
 | _ => none
theorem mW (s : ar) : lK s .bp = some ([], s) ∧ (∀ cd, lK s (.slice cd) = some (cd, s)) ∧ (∀ l, lK s (.str l) = some (l.map kX, s)) ∧
  (∀ a q, lK s (.h a q) = Ls (db s (.h a q))) ∧ (∀ n cd, Ls (some (.ao n cd, s)) = some (cd, s)) :=
 ⟨rfl, fun _ => rfl, fun _ => rfl, fun _ _ => by simp only [lK]; rfl, fun _ _ => rfl⟩
theorem mX (C : cE) (e : TypeId) : (∀ s, pQ C e s .bp = some (.ao (C.T e).sz [], s)) ∧ (∀ s a q, pQ C e s (.h a q) = db s (.h a q)) ∧
  (∀ y o sz xs s1, F4 C e y o (some (.ao sz xs, s1)) = if sz = (C.T e).sz then AZ C e xs (lK s1 (kV o y)) else none) ∧
  (∀ xs cd s2, AZ C e xs (some (cd, s2)) = if (∀ d ∈ cd, d.wd = (C.T e).sz) ∧ (room (C.T e).bytes (xs.length + cd.length)).isSome = true then some (.ao (C.T e).sz (xs ++ cd), s2) else none) :=
 ⟨fun _ => rfl, fun _ _ _ => rfl, fun _ _ _ _ _ => rfl, fun _ _ _ => rfl⟩
theorem mY : (∀ d, kV none d = d) ∧ (∀ x d, kV (some x) d = cx x d) ∧ (∀ x q, I.owner (.h x q) = some x) ∧ I.owner .bp = none :=
 ⟨fun _ => rfl, fun _ _ => rfl, fun _ _ => rfl, rfl⟩
def Lt (s : ar) (x : Nat) (q : List Nat) : Option I → Option (I × ar)
 | some d => if d.plain = true then none else some (d, dM (ji x s) x (I.put q d.du (s x)))
 | none => none
theorem Lu (s : ar) (x : Nat) (q : List Nat) : db s (.h x q) = Lt s x q (I.sub q (s x)) := by
 simp only [db]; cases I.sub q (s x) <;> rfl
theorem Lv (s : ar) : (∀ x q d, Lt s x q (some d) = if d.plain = true then none else some (d, dM (ji x s) x (I.put q d.du (s x)))) ∧ (∀ k n, db s (.int k n) = some (.int k n, s)) ∧ (∀ b, db s (.bool b) = some (.bool b, s)) ∧ (∀ x, db s (.str x) = some (.str x, s)) ∧
  (∀ x, db s (.slice x) = some (.slice x, s)) ∧ (∀ x, db s (.ref x) = some (.ref x, s)) ∧ (∀ x, db s (.agg x) = some (.agg x, s)) ∧ db s .bp = some (.bp, s) ∧ db s .dI = some (.dI, s) :=
 ⟨fun _ _ _ => rfl, fun _ _ => rfl, fun _ => rfl, fun _ => rfl, fun _ => rfl, fun _ => rfl, fun _ => rfl, rfl, rfl⟩
theorem Lw (l : List (Nat × I)) (t : Nat) (d : I) : dM (aa l) t d = aa ((t, d) :: l) := k2 l t d
theorem Lx : (∀ n x, I.du (.ao n x) = .hole) ∧ (∀ x, I.du (.bb x) = .hole) ∧ (∀ ay, I.du (.agg ay) = .agg (I.lE ay)) ∧ (∀ ay, I.du (.tuple ay) = .tuple (I.lE ay)) ∧ I.lE [] = [] ∧ (∀ d ds, I.lE (d :: ds) = d.du :: I.lE ds) ∧
  (∀ k n, I.du (.int k n) = .int k n) ∧ (∀ b, I.du (.bool b) = .bool b) ∧ (∀ x, I.du (.str x) = .str x) ∧ (∀ x, I.du (.slice x) = .slice x) ∧ (∀ x, I.du (.ref x) = .ref x) ∧ I.du .bp = .bp ∧ I.du .dI = .dI ∧ I.du .hole = .hole := by
 simp [I.du, I.lE]
def sV : Option I → Option I
 | some d => (match d with | .tuple _ => none | .fg _ => none | d => if d.plain = true then none else some d.share)
 | none => none
def sW : Option I → Option I
 | some d => (match d with | .tuple _ => none | d => some (.ref d.share))
 | none => none
theorem fW (s : ar) (x : Nat) (q : List Nat) : view s (.h x q) = sV (I.sub q (s x)) ∧ view s (.az x q) = (if I.gh q (s x) = true then sW (I.sub q (s x)) else none) := by
 constructor
 ·simp only [view]; rfl
 ·simp only [view]; rfl
theorem fX : (∀ n xs, sV (some (.ao n xs)) = some (.slice (I.shares xs))) ∧ (∀ d, sV (some (.bb d)) = some (.ref d.share)) ∧ (∀ ay, sV (some (.agg ay)) = if I.ed ay = true then none else some (.agg (I.shares ay))) ∧
  (∀ ay, sW (some (.agg ay)) = some (.ref (.agg (I.shares ay)))) ∧ (∀ k n, sW (some (.int k n)) = some (.ref (.int k n))) ∧ (∀ x, sW (some (.str x)) = some (.ref (.str x))) :=
 ⟨fun _ _ => by simp [sV, I.plain, I.share], fun _ => by simp [sV, I.plain, I.share], fun ay => by cases h : I.ed ay <;> simp [sV, I.plain, I.share, h], fun _ => by simp [sW, I.share], fun _ _ => by simp [sW, I.share], fun _ => by simp [sW, I.share]⟩
theorem dj : (∀ n xs, I.share (.ao n xs) = .slice (I.shares xs)) ∧ (∀ d, I.share (.bb d) = .ref d.share) ∧ (∀ xs, I.share (.slice xs) = .slice (I.shares xs)) ∧ (∀ d, I.share (.ref d) = .ref d.share) ∧ (∀ ay, I.share (.agg ay) = .agg (I.shares ay)) ∧ (∀ ay, I.share (.tuple ay) = .tuple (I.shares ay)) ∧
  (∀ k n, I.share (.int k n) = .int k n) ∧ (∀ b, I.share (.bool b) = .bool b) ∧ (∀ x, I.share (.str x) = .str x) ∧ I.share .bp = .bp ∧ I.share .dI = .dI ∧ I.shares [] = [] ∧ (∀ d ds, I.shares (d :: ds) = d.share :: I.shares ds) := by
 simp [I.share, I.shares]
def sX (sz : Nat) : Option (List I × ar) → Option (I × ar)
 | some (ds, s1) => some (.ao sz ds, s1)
 | none => none
def A0 : Option (List I × ar) → Option (I × ar)
 | some (ds, s1) => some (.agg ds, s1)
 | none => none
theorem vA {C : cE} {T e n sz : Nat} {zs : List I} (ld : (C.T T).k = .slice e) (eM : (C.T e).sz = sz) (b8 : List.replicate n (C.T e).zero = zs)
  (gj : ((C.T e).ok && ((C.T e).zero.wd == sz) && (flat (C.T e).zero).isSome && (sz != 0) && decide (n * sz ≤ 16777216)) = true) : ∀ s ps, eW C s T n ps = sX sz (eR (fun k => some (k * sz, sz)) s zs [] ps) := by
 intro s ps
 subst eM
 simp only [Bool.and_eq_true, beq_iff_eq, bne_iff_ne, decide_eq_true_eq] at gj
 obtain ⟨⟨⟨⟨ae, ah⟩, aH⟩, a6⟩, bN⟩ := gj
 unfold eW
 rw [ld]
 simp only
 rw [if_pos ⟨ae, ah, aH, a6, bN⟩, b8]
 cases eR (fun k => some (k * (C.T e).sz, (C.T e).sz)) s zs [] ps <;> rfl
theorem F5 {C : cE} {T : Nat} {ay : List (TypeId × Nat)} {zs : List I} (ld : (C.T T).k = .struct ay) (b8 : (C.T T).zero = .agg zs)
  (gj : ((flat (.agg zs)).isSome && ay.all fun f => (C.T f.1).ok) = true) : ∀ s ps, fw C s T ps = A0 (eR (fun k => (ay[k]?).map fun f => (f.2, (C.T f.1).sz)) s zs [] ps) := by
 intro s ps
 simp only [Bool.and_eq_true, List.all_eq_true] at gj
 unfold fw
 rw [ld, b8]
 simp only
 rw [if_pos ⟨gj.1, gj.2⟩]
 cases eR (fun k => (ay[k]?).map fun f => (f.2, (C.T f.1).sz)) s zs [] ps <;> rfl
def sY (place : Nat → Option (Nat × Nat)) (k : Nat) (zs : List I) (os : List (Option Nat)) (r : List (Nat × I)) (o : Option Nat) : Option (Nat × Nat) → Option I → Option (I × ar) → Option (List I × ar)
 | some (off, n), some z, some (d, s1) => (match d with
   | .tuple _ => none
   | d => if d.wd = n ∧ z.wd = n ∧ I.eK (zs.take k) = off then eR place s1 (zs.set k d) (os ++ [o]) r else none)
 | _, _, _ => none
theorem vB (place : Nat → Option (Nat × Nat)) (s : ar) (zs : List I) (os : List (Option Nat)) : eR place s zs os [] = some (zs, s) ∧
  (∀ k a r, eR place s zs os ((k, a) :: r) = sY place k zs os r (lj os a).owner (place k) zs[k]? (db s (lj os a))) := by
 refine ⟨rfl, fun k a r => ?_⟩
 simp only [eR]
 cases db s (lj os a) with
 | none => cases place k <;> cases zs[k]? <;> rfl
 | some p =>
   obtain ⟨d, s1⟩ := p
   cases place k with
   | none => cases zs[k]? <;> rfl
   | some q => cases zs[k]? <;> (cases d <;> rfl)
theorem vC : (∀ a, lj [] a = a) ∧ (∀ o os a, lj (o :: os) a = lj os (kV o a)) := ⟨fun _ => rfl, fun _ _ _ => rfl⟩
theorem en : (∀ k n, I.owner (.int k n) = none) ∧ (∀ b, I.owner (.bool b) = none) ∧ (∀ x, I.owner (.str x) = none) ∧ (∀ x, I.owner (.slice x) = none) ∧ (∀ x, I.owner (.ref x) = none) ∧ (∀ x, I.owner (.agg x) = none) ∧ I.owner .dI = none ∧ I.owner .bp = none ∧ (∀ x q, I.owner (.h x q) = some x) :=
 ⟨fun _ _ => rfl, fun _ => rfl, fun _ => rfl, fun _ => rfl, fun _ => rfl, fun _ => rfl, rfl, rfl, fun _ _ => rfl⟩
end Go.dg
