/- Part of a proof that a law returns true for every input. No condition. -/
import Derived.Test.YtbemmmimelklkaaGreatFwE
import Derived.Orders
import Derived.KernelRfl
import Derived.Test.YtbemmmimelklkaaGreatFwA
namespace Go.c5
section
variable {C : cw} {w0 w : World} {F0 X : Nat → Prop} {n : Fr} {ρ : Nat → Value} {s s1 : ax} {a : Act} {av : I} {Q : Exit → Act → World → Prop}
def cO.un (o : cO) : cO := ⟨o.dst, o.bT.base, o.guard⟩
theorem xf {ops : Array Oper} : ∀ {os : List Oper} {rs : List cO}, pg n ops os = some rs → os.length = rs.length ∧ ∀ (i : Nat) (o : Oper), os[i]? = some o → ∃ r, rs[i]? = some r ∧ pf n ops o = some r := by
 intro os
 induction os with
 | nil => intro rs h; simp only [pg, Option.some.injEq] at h; subst h; exact ⟨rfl, fun i o h => by simp at h⟩
 | cons o os ih =>
   intro rs h
   simp only [pg] at h
   split at h
   ·rename_i r axE af ai
    simp only [Option.some.injEq] at h; subst h
    obtain ⟨cf, cB⟩ := ih ai
    refine ⟨by simp [cf], fun i mW cl => ?_⟩
    cases i with
    | zero => simp at cl; subst cl; exact ⟨r, rfl, af⟩
    | succ i => simpa using cB i mW (by simpa using cl)
   ·cases h
theorem Ai {o : Oper} {y : Nat → Option Bool} (h : o.guard = none) : Region.wanted o y = true := by simp [Region.wanted, h]
theorem RM (h : Rel w0 F0 X n ρ s a w) {ops : Array Oper} {j t : Nat} (b_ : (ops[j]?).bind (·.dst) = some t) :
  (∀ b, s t = .bool b → yielded ops a.tmps j = some b) ∧ (s t = .tuple [] → yielded ops a.tmps j = none) := by
 obtain ⟨ak, ah, bJ, F, S, bb⟩ := h
 have jb := bb.ee t
 refine ⟨fun b ad => ?_, fun ad => ?_⟩
 ·rw [ad] at jb
  have aR := r4 jb
  simp only [yielded, b_, Option.bind_some]
  rw [Array.getD_eq_getD_getElem?] at aR
  cases cg : a.tmps[t]? with
  | none => rw [cg] at aR; simp [undef] at aR
  | some v => rw [cg] at aR; simp at aR; subst aR; rfl
 ·rw [ad] at jb
  obtain ⟨⟨arr, af, ai⟩, _⟩ := (aY.c9 (d := .tuple []) rfl).1 jb
  simp only [yielded, b_, Option.bind_some]
  rw [Array.getD_eq_getD_getElem?] at af
  cases cg : a.tmps[t]? with
  | none => rfl
  | some v => rw [cg] at af; simp at af; subst af; rfl
theorem E8 (bI : C.Ok) {ops : Array Oper} {ros : List cO} {l2 : List Nat} {K : ax → Prop} (bl : ∀ az cY aP, K az → Rel w0 F0 X n ρ az cY aP → wpOps C.P ops Q l2 cY aP) :
  ∀ (l : List Nat), (∀ i ∈ l, (ops[i]? = none → ros[i]? = none) ∧ ∀ o, ops[i]? = some o → ∃ r, ros[i]? = some r ∧ pf n ops o = some r.un) →
  ∀ (s : ax) (a : Act) (w : World), jM C ros s l K → Rel w0 F0 X n ρ s a w → wpOps C.P ops Q (l ++ l2) a w := by
 intro l
 induction l with
 | nil => intro _ s a w h bb; exact bl s a w h bb
 | cons i l ih =>
   intro ph s a w h bb
   replace ih := ih fun i ao => ph i (List.mem_cons_of_mem _ ao)
   rw [List.cons_append]
   simp only [wpOps]
   cases cl : ops[i]? with
   | none =>
     simp only [jM, (ph i (by simp)).1 cl] at h
     exact ih s a w h bb
   | some o =>
     obtain ⟨r, af, ai⟩ := (ph i (by simp)).2 o cl
     simp only [jM, af] at h
     show (if Region.wanted o (yielded ops a.tmps) = true then o.wp C.P a w (wpOps C.P ops Q (l ++ l2)) Q ∨ (o.asks C.P a w ∧ LetsOut Q) else wpOps C.P ops Q (l ++ l2) (a.put o.dst undef) w)
     simp only [pf] at ai
     split at ai
     ·rename_i Aj
      split at ai
      ·rename_i g cg
       obtain ⟨rd, bT, rg⟩ := r
       simp only [cO.un, Option.some.injEq, cO.mk.injEq] at ai
       obtain ⟨rfl, cX, rfl⟩ := ai
       simp only [ly] at h
       have run : ∀ (dA : ax → Prop), (∀ az, dA az → jM C ros az l K) → nJ C s bT (fun av s1 => dA (fin s1 o.dst av)) → o.wp C.P a w (wpOps C.P ops Q (l ++ l2)) Q :=
        fun dA jq hw => RK bI bb cX Aj hw (fun az cY aP aD fj => ih az cY aP (jq az aD) fj)
       cases um : o.guard with
       | none =>
         rw [um] at cg
         simp only [w_, Option.some.injEq] at cg; subst cg
         simp only at h
         rw [if_pos (Ai um)]
         exact .inl (run _ (fun _ h => h) h)
       | some E9 =>
         obtain ⟨j, b⟩ := E9
         rw [um] at cg
         simp only [w_] at cg
         split at cg
         ·rename_i t bs
          simp only [Option.some.injEq] at cg; subst cg
          simp only at h
          obtain ⟨fE, hb⟩ := RM bb bs
          have Jo : ∀ (dA : jM C ros (fin s o.dst (.tuple [])) l K), wpOps C.P ops Q (l ++ l2) (a.put o.dst undef) w := fun dA => ih _ _ _ dA (Rel.skip bb Aj)
          split at h
          ·rename_i fV ah
           have bD := fE fV ah
           split at h
           ·rename_i ad; subst ad
            rw [if_pos (by simp [Region.wanted, um, bD])]
            exact .inl (run _ (fun _ h => h) h)
           ·rename_i ad
            rw [if_neg (by simp [Region.wanted, um, bD, ad])]
            exact Jo h
          ·rename_i ah
           have bD := hb ah
           rw [if_neg (by simp [Region.wanted, um, bD])]
           exact Jo h
          ·exact h.elim
         ·cases cg
      ·cases ai
     ·cases ai
theorem Jp (bI : C.Ok) {ops : Array Oper} {ros : List cO} (qU : pg n ops ops.toList = some (ros.map cO.un)) {K : ax → Prop} (bl : ∀ az cY aP, K az → Rel w0 F0 X n ρ az cY aP → Q .normal cY aP) :
  ∀ (l : List Nat) (s : ax) (a : Act) (w : World), jM C ros s l K → Rel w0 F0 X n ρ s a w → wpOps C.P ops Q l a w := by
 obtain ⟨hl, ph⟩ := xf qU
 intro l s a w h bb
 have := E8 (Q := Q) bI (ros := ros) (ops := ops) (l2 := []) (K := K) (n := n) (ρ := ρ) (w0 := w0) (F0 := F0) (X := X) (fun az cY aP aD fj => bl az cY aP aD fj) l (fun i _ => ⟨fun cl => by
   rw [List.getElem?_eq_none_iff, ← List.length_map (f := cO.un), ← hl]
   have := Array.getElem?_eq_none_iff.1 cl
   simpa using this, fun o cl => by
   obtain ⟨an, hE, ai⟩ := ph i o (by simpa using cl)
   obtain ⟨r, af, rfl⟩ : ∃ r, ros[i]? = some r ∧ r.un = an := by simpa using hE
   exact ⟨r, af, ai⟩⟩) s a w h bb
 rwa [List.append_nil] at this
theorem Rel.drawn (h : Rel w0 F0 X n ρ s a w) (k : Nat) : Rel w0 F0 X n ρ s a { w with drawn := k } := by
 obtain ⟨af, ai, bJ, F, S, aN⟩ := h
 exact ⟨af, ai, bJ, F, S, aN.grow (fun _ _ => rfl) (Nat.le_refl _) rfl rfl rfl⟩
theorem RN (bI : C.Ok) {id : Nat} {ops : Array Oper} {ros : List cO} (qU : pg n ops ops.toList = some (ros.map cO.un)) {K : ax → Prop} (bl : ∀ az cY aP, K az → Rel w0 F0 X n ρ az cY aP → Q .normal cY aP)
  (h : la C s ros K) (bb : Rel w0 F0 X n ρ s a w) : (Code.region id ops false).wp C.P Q a w := by
 refine wp_region (Jp bI qU bl _ s a w ?_ bb)
 have := Rw C K ros [] s h
 have hl := (xf qU).1
 simp only [List.nil_append, List.length_nil, Nat.add_zero, List.map_id'] at this
 rw [List.length_map] at hl
 rw [← hl] at this
 simpa using this
end
def E_ (ov : List (List Nat)) (l : List Nat) : Prop :=
 l.Nodup ∧ (∀ i, i ∈ l ↔ i < ov.length) ∧ ∀ u i v, l = u ++ i :: v → ∀ e ∈ (ov[i]?).getD [], e ∈ u
def nK (ops : Array Oper) : List (List Nat) := ops.toList.map fun o => (o.after.toList.filter fun e => Region.binds .any e).map (·.on)
def xg (ov : List (List Nat)) : Bool := ov.zipIdx.all fun p => p.1.all fun e => decide (e < p.2)
theorem RO {ov : List (List Nat)} (h : xg ov = true) {i : Nat} {l : List Nat} (ao : ov[i]? = some l) : ∀ e ∈ l, e < i := by
 intro e he
 simp only [xg, List.all_eq_true] at h
 have := h (l, i) (by rw [List.mem_zipIdx_iff_getElem?]; exact ao) e he
 simpa using this
theorem RP {ops : Array Oper} (ad : xg (nK ops) = true) : ∀ (fuel t : Nat) (gD : Array Bool), gD.size = ops.size → ((List.range ops.size).filter fun i => !gD.getD i true).length ≤ fuel →
  (Region.linearise.go .any ops fuel t gD []).Nodup ∧ (∀ i, i ∈ Region.linearise.go .any ops fuel t gD [] ↔ (i < ops.size ∧ gD.getD i true = false)) ∧
   ∀ u i v, Region.linearise.go .any ops fuel t gD [] = u ++ i :: v → ∀ e ∈ ((nK ops)[i]?).getD [], gD.getD e false = true ∨ e ∈ u := by
 intro fuel
 induction fuel with
 | zero =>
   intro t gD ah hl
   have wO : ((List.range ops.size).filter fun i => !gD.getD i true) = [] := List.length_eq_zero_iff.1 (Nat.le_zero.1 hl)
   refine ⟨by simp [Region.linearise.go], fun i => ?_, fun u i v h => by simp [Region.linearise.go] at h⟩
   simp only [Region.linearise.go, List.reverse_nil, List.not_mem_nil, false_iff, not_and]
   intro ao bJ
   have : i ∈ ((List.range ops.size).filter fun i => !gD.getD i true) := List.mem_filter.2 ⟨List.mem_range.2 ao, by rw [bJ]; rfl⟩
   rw [wO] at this; cases this
 | succ fuel ih =>
   intro t gD ah hl
   have Jq : ∀ i, i ∈ Region.ready .any ops gD ↔ (i < ops.size ∧ gD.getD i true = false ∧ ∀ e ∈ ((nK ops)[i]?).getD [], gD.getD e false = true) := by
    intro i
    simp only [Region.ready, List.mem_filter, List.mem_range, Bool.and_eq_true, Bool.not_eq_true']
    constructor
    ·rintro ⟨af, ai, aN⟩
     refine ⟨af, ai, ?_⟩
     rw [Array.getElem?_eq_getElem af] at aN
     simp only [Option.map_some, Option.getD_some, Array.all_eq_true_iff_forall_mem] at aN
     simp only [nK, List.getElem?_map, Array.getElem?_toList, Array.getElem?_eq_getElem af, Option.map_some, Option.getD_some, List.mem_map, List.mem_filter]
     rintro e ⟨x, ⟨aq, Fa⟩, rfl⟩
     have := aN x (by simpa using aq)
     simpa [Fa] using this
    ·rintro ⟨af, ai, aN⟩
     refine ⟨af, ai, ?_⟩
     rw [Array.getElem?_eq_getElem af]
     simp only [Option.map_some, Option.getD_some, Array.all_eq_true_iff_forall_mem]
     simp only [nK, List.getElem?_map, Array.getElem?_toList, Array.getElem?_eq_getElem af, Option.map_some, Option.getD_some, List.mem_map, List.mem_filter] at aN
     intro x aq
     cases Fa : Region.binds .any x with
     | false => simp
     | true => simpa using aN x.on ⟨x, ⟨by simpa using aq, Fa⟩, rfl⟩
   have hex : (∃ i, i < ops.size ∧ gD.getD i true = false) → Region.ready .any ops gD ≠ [] := by
    rintro ⟨i, af, ai⟩
    have : ∃ i, (i < ops.size ∧ gD.getD i true = false) ∧ ∀ j, j < i → ¬ (j < ops.size ∧ gD.getD j true = false) := by
     induction i using Nat.strongRecOn with
     | _ i RQ =>
       by_cases b_ : ∃ j, j < i ∧ (j < ops.size ∧ gD.getD j true = false)
       ·obtain ⟨j, RR, RS, RT⟩ := b_
        exact RQ j RR RS RT
       ·exact ⟨i, ⟨af, ai⟩, fun j Fb ay => b_ ⟨j, Fb, ay⟩⟩
    obtain ⟨k, ⟨cf, cB⟩, fD⟩ := this
    have : k ∈ Region.ready .any ops gD := (Jq k).2 ⟨cf, cB, fun e he => by
     cases cz : (nK ops)[k]? with
     | none => rw [cz] at he; simp at he
     | some l =>
       rw [cz] at he
       have fi := RO ad cz e he
       have := fD e fi
       rw [not_and] at this
       have := this (by omega)
       have mY : e < gD.size := by omega
       simp only [Array.getD_eq_getD_getElem?, Array.getElem?_eq_getElem mY, Option.getD_some] at this ⊢
       simpa using this⟩
    intro e; rw [e] at this; cases this
   have Jr : Region.linearise.go .any ops (fuel + 1) t gD [] = (match (Region.ready .any ops gD)[t % (Region.ready .any ops gD).length]? with
    | some i => Region.linearise.go .any ops fuel (t / (Region.ready .any ops gD).length) (gD.setIfInBounds i true) [i]
    | none => []) := rfl
   cases xh : (Region.ready .any ops gD)[t % (Region.ready .any ops gD).length]? with
   | none =>
     have wO : Region.ready .any ops gD = [] := by
      cases bb : Region.ready .any ops gD with
      | nil => rfl
      | cons a l =>
        rw [bb] at xh
        have := List.getElem?_eq_none_iff.1 xh
        have ai := Nat.mod_lt t (show 0 < (a :: l).length by simp)
        omega
     rw [Jr, xh]
     refine ⟨by simp, fun i => ?_, fun u i v h => by simp at h⟩
     simp only [List.not_mem_nil, false_iff]
     intro ao
     exact hex ⟨i, ao⟩ wO
   | some i =>
     have ao := (Jq i).1 (List.mem_of_getElem? xh)
     obtain ⟨Fe, Js, RU⟩ := ao
     rw [Jr, xh]
     simp only
     rw [linearise_go_acc]
     simp only [List.reverse_singleton, List.singleton_append]
     have qO : ∀ j d, (gD.setIfInBounds i true).getD j d = if j = i then true else gD.getD j d := by
      intro j d
      split
      ·rename_i e; subst e
       simp [Array.getD_eq_getD_getElem?, Array.getElem?_setIfInBounds_self_of_lt (show j < gD.size by omega)]
      ·rename_i e
       simp [Array.getD_eq_getD_getElem?, Array.getElem?_setIfInBounds_ne (fun h => e h.symm)]
     obtain ⟨bo, bR, cJ⟩ := ih (t / (Region.ready .any ops gD).length) (gD.setIfInBounds i true) (by simpa using ah) (by
      have fb : ((List.range ops.size).filter fun j => !(gD.setIfInBounds i true).getD j true) = ((List.range ops.size).filter fun i => !gD.getD i true).filter fun j => decide (j ≠ i) := by
       rw [List.filter_filter]
       apply List.filter_congr
       intro j _
       rw [qO]
       by_cases e : j = i <;> simp [e]
      rw [fb]
      have fi : (((List.range ops.size).filter fun i => !gD.getD i true).filter fun j => decide (j ≠ i)).length < ((List.range ops.size).filter fun i => !gD.getD i true).length := by
       rw [List.length_filter_lt_length_iff_exists]
       exact ⟨i, List.mem_filter.2 ⟨List.mem_range.2 Fe, by rw [Js]; rfl⟩, by simp⟩
      omega)
     refine ⟨?_, fun j => ?_, ?_⟩
     ·rw [List.nodup_cons]
      refine ⟨fun hm => ?_, bo⟩
      have := ((bR i).1 hm).2
      rw [qO, if_pos rfl] at this; cases this
     ·rw [List.mem_cons, bR, qO]
      by_cases e : j = i
      ·subst e; simp [Fe, Js]
      ·simp [e]
     ·intro u j v h e he
      cases u with
      | nil =>
        simp only [List.nil_append, List.cons.injEq] at h
        obtain ⟨rfl, rfl⟩ := h
        exact .inl (RU e he)
      | cons Ak u =>
        simp only [List.cons_append, List.cons.injEq] at h
        obtain ⟨rfl, h⟩ := h
        rcases cJ u j v h e he with bM | bM
        ·rw [qO] at bM
         split at bM
         ·rename_i fv; subst fv; exact .inr (by simp)
         ·exact .inl bM
        ·exact .inr (by simp [bM])
theorem RV {ops : Array Oper} (ad : xg (nK ops) = true) (t : Nat) : E_ (nK ops) (Region.linearise .any ops t) := by
 have Jt : ∀ i d, i < ops.size → (Array.replicate ops.size false).getD i d = false := by
  intro i d ao
  simp [Array.getD_eq_getD_getElem?, ao]
 obtain ⟨bo, bR, cJ⟩ := RP ad ops.size t (Array.replicate ops.size false) (by simp) (by
  have := List.length_filter_le (fun i => !(Array.replicate ops.size false).getD i true) (List.range ops.size)
  simpa using this)
 have hlen : (nK ops).length = ops.size := by simp [nK]
 refine ⟨bo, fun i => ?_, fun u i v h e he => ?_⟩
 ·rw [hlen]
  rw [show Region.linearise .any ops t = Region.linearise.go .any ops ops.size t (Array.replicate ops.size false) [] from rfl, bR]
  exact ⟨fun h => h.1, fun h => ⟨h, Jt i true h⟩⟩
 ·rcases cJ u i v h e he with bM | bM
  ·exfalso
   by_cases Ju : e < ops.size
   ·rw [Jt e false Ju] at bM; cases bM
   ·simp [Array.getD_eq_getD_getElem?, Ju] at bM
  ·exact bM
def aa : List (Nat × I) → ax
 | [], _ => .hole
 | (u, d) :: l, t => if t = u then d else aa l t
mutual
inductive fy : I → I → Prop
 | refl (d : I) : fy d d
 | mo (sz : Nat) : fy .bu (.ar sz [])
 | uo : fy .bu (.slice [])
 | any (b : Bool) : fy (.bool b) .fo
 | share (d : I) : d.tree = true → (∀ vs, d ≠ .tuple vs) → fy d d.share
 | agg {ds es : List I} : j7 ds es → fy (.agg ds) (.agg es)
 | bd {d e : I} : fy d e → fy (.bd d) (.bd e)
 | ar {sz : Nat} {ds es : List I} : j7 ds es → fy (.ar sz ds) (.ar sz es)
 | tuple {ds es : List I} : j7 ds es → fy (.tuple ds) (.tuple es)
 | ref {d e : I} : fy d e → fy (.ref d) (.ref e)
 | trans {d e f : I} : fy d e → fy e f → fy d f
inductive j7 : List I → List I → Prop
 | nil : j7 [] []
 | cons {d e : I} {ds es : List I} : fy d e → j7 ds es → j7 (d :: ds) (e :: es)
end
mutual
theorem fy.wd : ∀ {d e : I}, fy d e → e.wd = d.wd
 | _, _, .refl _ => rfl
 | _, _, .mo _ => rfl
 | _, _, .uo => rfl
 | _, _, .any _ => rfl
 | _, _, .share d _ _ => I.zA d
 | _, _, .agg h => by simp only [I.wd]; exact j7.wd h
 | _, _, .bd _ => rfl
 | _, _, .ar _ => rfl
 | _, _, .tuple h => by simp only [I.wd]; exact j7.wd h
 | _, _, .ref _ => rfl
 | _, _, .trans h k => (fy.wd k).trans (fy.wd h)
theorem j7.wd : ∀ {ds es : List I}, j7 ds es → I.eD es = I.eD ds
 | _, _, .nil => rfl
 | _, _, .cons h ah => by simp only [I.eD]; rw [fy.wd h, j7.wd ah]
end
theorem j7.len {ds es : List I} (h : j7 ds es) : es.length = ds.length := by
 induction ds generalizing es with
 | nil => cases h; rfl
 | cons d ds ih => cases h with | cons h ah => simp [ih ah]
theorem j7.all {sz : Nat} {ds es : List I} (h : j7 ds es) (ak : ∀ d ∈ ds, d.wd = sz) : ∀ d ∈ es, d.wd = sz := by
 induction ds generalizing es with
 | nil => cases h; intro d ak; cases ak
 | cons d ds ih =>
   cases h with
   | cons h ah =>
     intro x aq
     rcases List.mem_cons.1 aq with rfl | aq
     ·rw [h.wd]; exact ak d (by simp)
     ·exact ih ah (fun d hm => ak d (by simp [hm])) x aq
section
variable {w0 w : World} {F0 X F : Nat → Prop} {S : Nat → Nat → Prop} {s az : ax} {aF : Nat → Value}
def RW (w : World) (F : Nat → Prop) (_d e : I) (cs : List Value) (S : Nat → Prop) : Prop :=
 ∃ hZ h0 : Nat → Prop, (∀ b, hZ b → S b) ∧ (∀ b, h0 b → S b) ∧ (∀ b, h0 b → ¬ hZ b) ∧ ∀ b9, (∀ b, F b ∨ hZ b → b9 b) → aB w b9 e cs h0
mutual
theorem aB.wider : ∀ {d e : I}, fy d e → ∀ {F : Nat → Prop} {cs : List Value} {S : Nat → Prop}, aB w F d cs S → RW w F d e cs S
 | _, _, .refl _, F, cs, S, h => ⟨fun _ => False, S, fun _ h => h.elim, fun _ h => h, fun _ _ h => h, fun b9 bH => aB.mono (fun b ad => bH b (.inl ad)) _ _ _ _ (fun _ h => h) h⟩
 | .bu, _, .mo sz, F, cs, S, h => ⟨fun _ => False, S, fun _ h => h.elim, fun _ h => h, fun _ _ h => h, fun b9 bH => by simp only [aB] at h ⊢; exact .inl ⟨trivial, _, h⟩⟩
 | .bu, _, .uo, F, cs, S, h => ⟨fun _ => False, S, fun _ h => h.elim, fun _ h => h, fun _ _ h => h, fun b9 bH => by simp only [aB] at h ⊢; exact .inl ⟨trivial, none, 0, h, Nat.zero_le _, fun _ => rfl⟩⟩
 | .bool _, _, .any b, F, cs, S, h => ⟨fun _ => False, S, fun _ h => h.elim, fun _ h => h, fun _ _ h => h, fun b9 bH => by simp only [aB] at h ⊢; exact ⟨b, h⟩⟩
 | _, _, .share d _ _, F, cs, S, h => ⟨S, fun _ => False, fun _ h => h, fun _ h => h.elim, fun _ h => h.elim, fun b9 bH => aB.shared (fun b ad => bH b (.inl ad)) d cs S (fun b ad => bH b (.inr ad)) h⟩
 | _, _, .agg iC, F, cs, S, h => by
   rw [aB] at h
   obtain ⟨hZ, h0, af, ai, aN, bk⟩ := bm.wider iC h
   exact ⟨hZ, h0, af, ai, aN, fun b9 bH => by rw [aB]; exact bk b9 bH⟩
 | _, _, .bd ak, F, cs, S, h => by
   rw [aB] at h
   obtain ⟨b, cur, ty, fr, a7, cf, cB, fD, eQ, gA, dU, j4⟩ := h
   obtain ⟨hZ, h0, af, ai, aN, bk⟩ := aB.wider ak gA
   refine ⟨hZ, fun c => c = b ∨ h0 c, fun c ay => dU c (af c ay), ?_, ?_, fun b9 bH => ?_⟩
   ·rintro c (rfl | ay)
    ·exact cB
    ·exact dU c (ai c ay)
   ·rintro c (rfl | ay) bJ
    ·exact j4 (af _ bJ)
    ·exact aN c ay bJ
   ·rw [aB]
    exact ⟨b, cur, ty, fr, h0, cf, .inl rfl, fD, eQ, bk b9 bH, fun c ay => .inr ay, fun ay => j4 (ai _ ay)⟩
 | .ar sz ds, .ar _ es, .ar iC, F, cs, S, h => by
   rw [aB] at h
   have hl := iC.len
   rcases h with ⟨af, ai⟩ | ⟨b, cap, cur, ty, fr, a7, cf, cB, fD, eQ, gA, dU, j4, fg, lO, lP, Jv⟩
   ·refine ⟨fun _ => False, S, fun _ h => h.elim, fun _ h => h, fun _ _ h => h, fun b9 _ => ?_⟩
    rw [aB]
    subst af
    exact .inl ⟨List.length_eq_zero_iff.1 (by simpa using hl), ai⟩
   ·obtain ⟨hZ, h0, af, ai, aN, bk⟩ := bm.wider iC lO
    refine ⟨hZ, fun c => c = b ∨ h0 c, fun c ay => lP c (af c ay), ?_, ?_, fun b9 bH => ?_⟩
    ·rintro c (rfl | ay)
     ·exact cB
     ·exact lP c (ai c ay)
    ·rintro c (rfl | ay) bJ
     ·exact Jv (af _ bJ)
     ·exact aN c ay bJ
    ·rw [aB]
     refine .inr ⟨b, cap, cur, ty, fr, h0, by rw [hl]; exact cf, .inl rfl, fD, eQ, by rw [hl]; exact gA, dU, j4, iC.all fg, by rw [hl]; exact bk b9 bH, fun c ay => .inr ay, fun ay => Jv (ai _ ay)⟩
 | _, _, .tuple iC, F, cs, S, h => by
   rw [aB] at h
   obtain ⟨hZ, h0, af, ai, aN, bk⟩ := bm.wider iC h
   exact ⟨hZ, h0, af, ai, aN, fun b9 bH => by rw [aB]; exact bk b9 bH⟩
 | _, _, .ref ak, F, cs, S, h => by
   rw [aB] at h
   obtain ⟨b, o, eH, af, ai, aN, bk⟩ := h
   obtain ⟨hZ, h0, cf, cB, fD, eQ⟩ := aB.wider ak bk
   refine ⟨fun _ => False, S, fun _ h => h.elim, fun _ h => h, fun _ _ h => h, fun b9 bH => ?_⟩
   rw [aB]
   exact ⟨b, o, eH, af, bH _ (.inl ai), aN, aB.mono (fun _ h => h) _ _ _ _ (fun b ad => cB b ad) (eQ b9 fun b ad => bH b (ad.imp id fun h => (cf b h).elim))⟩
 | _, _, .trans ak he, F, cs, S, h => by
   obtain ⟨hZ, h0, af, ai, aN, bk⟩ := aB.wider ak h
   obtain ⟨Ff, Al, cf, cB, fD, eQ⟩ := aB.wider he (F := fun b => F b ∨ hZ b) (bk _ fun _ h => h)
   refine ⟨fun b => hZ b ∨ Ff b, Al, ?_, fun b ad => ai b (cB b ad), ?_, fun b9 bH => eQ b9 fun b ad => ?_⟩
   ·rintro b (h | h)
    ·exact af b h
    ·exact ai b (cf b h)
   ·rintro b ad (h | h)
    ·exact aN b (cB b ad) h
    ·exact fD b ad h
   ·rcases ad with (ad | ad) | ad
    ·exact bH b (.inl ad)
    ·exact bH b (.inr (.inl ad))
    ·exact bH b (.inr (.inr ad))
theorem bm.wider : ∀ {ds es : List I}, j7 ds es → ∀ {F : Nat → Prop} {cs : List Value} {S : Nat → Prop}, bm w F ds cs S →
  ∃ hZ h0 : Nat → Prop, (∀ b, hZ b → S b) ∧ (∀ b, h0 b → S b) ∧ (∀ b, h0 b → ¬ hZ b) ∧ ∀ b9, (∀ b, F b ∨ hZ b → b9 b) → bm w b9 es cs h0
 | _, _, .nil, F, cs, S, h => ⟨fun _ => False, fun _ => False, fun _ h => h.elim, fun _ h => h.elim, fun _ h => h.elim, fun b9 bH => by rw [bm] at h ⊢; exact h⟩
 | _, _, .cons ak iC, F, cs, S, h => by
   rw [bm] at h
   obtain ⟨cH, cI, cy, et, rfl, bR, cJ, eE, fK, ib⟩ := h
   obtain ⟨RX, Jw, U, bq, a3, a4⟩ := aB.wider ak bR
   obtain ⟨Ff, Al, lR, i_, mh, bz⟩ := bm.wider iC cJ
   refine ⟨fun b => RX b ∨ Ff b, fun b => Jw b ∨ Al b, ?_, ?_, ?_, fun b9 bH => ?_⟩
   ·rintro b (h | h)
    ·exact eE b (U b h)
    ·exact fK b (lR b h)
   ·rintro b (h | h)
    ·exact eE b (bq b h)
    ·exact fK b (i_ b h)
   ·rintro b (h | h) (bM | bM)
    ·exact a3 b h bM
    ·exact ib b (bq b h) (lR b bM)
    ·exact ib b (U b bM) (i_ b h)
    ·exact mh b h bM
   ·rw [bm]
    refine ⟨cH, cI, Jw, Al, rfl, a4 b9 (fun b ad => bH b (ad.imp id .inl)), bz b9 (fun b ad => bH b (ad.imp id .inr)), fun b ad => .inl ad, fun b ad => .inr ad, fun b af ai => ib b (bq b af) (i_ b ai)⟩
end
theorem fy.Am : ∀ {d e : I}, fy d e → (∀ vs, d ≠ .tuple vs) → ∀ vs, e ≠ .tuple vs
 | _, _, .refl _, h => h
 | _, _, .mo _, _ => fun _ h => by cases h
 | _, _, .uo, _ => fun _ h => by cases h
 | _, _, .any _, _ => fun _ h => by cases h
 | _, _, .share d _ _, h => fun vs he => by cases d <;> first | (cases he; done) | exact h _ rfl
 | _, _, .agg _, _ => fun _ h => by cases h
 | _, _, .bd _, _ => fun _ h => by cases h
 | _, _, .ar _, _ => fun _ h => by cases h
 | _, _, .tuple _, h => fun _ _ => h _ rfl
 | _, _, .ref _, _ => fun _ h => by cases h
 | _, _, .trans h k, bl => fy.Am k (fy.Am h bl)
theorem fy.iy : ∀ {d e : I} {v : Value}, fy d e → (∀ vs, d ≠ .tuple vs) → c5.iy d v → c5.iy e v
 | _, _, _, .refl _, _, h => h
 | _, _, _, .mo _, _, h => h
 | _, _, _, .uo, _, h => h
 | _, _, _, .any _, _, h => h
 | _, _, _, .share d _ bl, _, h => by cases d <;> first | exact h | exact (bl _ rfl).elim
 | _, _, _, .agg _, _, h => h
 | _, _, _, .bd _, _, h => h
 | _, _, _, .ar _, _, h => h
 | _, _, _, .tuple _, bl, _ => (bl _ rfl).elim
 | _, _, _, .ref _, _, h => h
 | _, _, _, .trans h k, bl, ah => fy.iy k (fy.Am h bl) (fy.iy h bl ah)
theorem j7.get : ∀ {ds es : List I}, j7 ds es → ∀ (k : Nat) (e : I), es[k]? = some e → ∃ d, ds[k]? = some d ∧ fy d e
 | _, _, .nil, k, e, h => by simp at h
 | _, _, .cons ak ah, 0, e, h => by simp at h; subst h; exact ⟨_, rfl, ak⟩
 | _, _, .cons ak ah, k + 1, e, h => j7.get ah k e (by simpa using h)
theorem fy.eI : ∀ {d e : I} {v : Value}, fy d e → c5.eI d v → c5.eI e v
 | _, _, _, .refl _, ah => ah
 | _, _, _, .mo _, ah => ah
 | _, _, _, .uo, ah => ah
 | _, _, _, .any _, ah => ah
 | _, _, _, .share _ _ ml, ah => EX ml ah
 | _, _, _, .agg _, ah => ah
 | _, _, _, .bd _, ah => ah
 | _, _, _, .ar _, ah => ah
 | _, _, _, .ref _, ah => ah
 | _, _, _, .tuple ak, ah => by
   obtain ⟨arr, af, ai, aN⟩ := ah
   refine ⟨arr, af, ai.trans ak.len.symm, fun k e x he aq => ?_⟩
   obtain ⟨d, aD, hw⟩ := ak.get k e he
   obtain ⟨U, bq, a3⟩ := aN k d x aD aq
   exact ⟨hw.iy bq U, hw.Am bq, a3.trans hw.wd.symm⟩
 | _, _, _, .trans h k, ah => fy.eI k (fy.eI h ah)
theorem fy.tree : ∀ {d e : I}, fy d e → d.tree = true → e.tree = true
 | _, _, .refl _, ak => ak
 | _, _, .mo _, _ => rfl
 | _, _, .uo, _ => rfl
 | _, _, .any _, _ => rfl
 | _, _, .share d _ _, ak => by cases d <;> first | exact ak | rfl
 | _, _, .agg _, _ => rfl
 | _, _, .bd _, _ => rfl
 | _, _, .ar _, _ => rfl
 | _, _, .tuple _, _ => rfl
 | _, _, .ref _, _ => rfl
 | _, _, .trans h k, ak => fy.tree k (fy.tree h ak)
mutual
def I.sn : I → List Nat
 | .h x q => if q.isEmpty then [] else [x]
 | .aA x _ => [x]
 | .ad x _ => [x]
 | .fn _ cap => I.xi cap
 | _ => []
def I.xi : List I → List Nat
 | [] => []
 | d :: ds => d.sn ++ I.xi ds
end
def xj (s az : ax) (x : Nat) (D : List Nat) : Prop := az x = s x ∨ az x = .hole ∨ ((s x).own = true ∧ (az x).own = true ∧ x ∉ D)
theorem xj.less {s az : ax} {x : Nat} {D E : List Nat} (h : xj s az x D) (RY : ∀ u ∈ E, u ∈ D) : xj s az x E := by
 rcases h with h | h | ⟨af, ai, aN⟩
 ·exact .inl h
 ·exact .inr (.inl h)
 ·exact .inr (.inr ⟨af, ai, fun aq => aN (RY x aq)⟩)
theorem aY.keep {b9 : Nat → Prop} (bH : ∀ b, F b → b9 b) : ∀ n, (∀ (d : I) (v : Value) (ek : Nat → Prop), SizeOf.sizeOf d ≤ n → (∀ x ∈ d.ah, xj s az x d.sn) → aY w F s aF d v ek → aY w b9 az aF d v ek) ∧
  (∀ (ds : List I) (vs : List Value), SizeOf.sizeOf ds ≤ n → (∀ x ∈ I.eL ds, xj s az x (I.xi ds)) → e2 w F s aF ds vs → e2 w b9 az aF ds vs) := by
 intro n
 induction n with
 | zero =>
   refine ⟨fun d v ek bY => ?_, fun ds vs bY => ?_⟩
   ·cases d <;> simp at bY <;> omega
   ·cases ds <;> simp at bY <;> omega
 | succ n ih =>
   refine ⟨fun d v ek bY aD h => ?_, fun ds vs bY aD h => ?_⟩
   ·cases d with
    | hole => rw [aY]; trivial
    | h x q =>
      rw [aY] at h ⊢
      intro e fb aA
      rcases aD x (by simp [I.ah]) with he | he | ⟨xk, Jx, uq⟩
      ·rw [he] at fb ⊢; exact h e fb aA
      ·rw [he] at fb
       cases q with
       | nil => simp only [I.sub, Option.some.injEq] at fb; subst fb; simp [I.plain] at aA
       | cons k q => simp [I.sub] at fb
      ·cases q with
       | nil =>
         simp only [I.sub, Option.some.injEq] at fb
         subst fb
         obtain ⟨c_, a0, gT, hs, h9⟩ := h (s x) (by simp only [I.sub]) (p3 xk).1
         simp only [dy, Option.some.injEq, Prod.mk.injEq, true_and] at gT
         exact ⟨c1 (aF x), none, by simp only [dy], by rw [hs, ← gT.1], ((p3 Jx).2.2.2.2.2 _).2 (((p3 xk).2.2.2.2.2 _).1 h9)⟩
       | cons k q => exact (uq (by simp [I.sn])).elim
    | aA x q =>
      rw [aY] at h ⊢
      intro e fb ay
      rcases aD x (by simp [I.ah]) with he | he | ⟨_, _, uq⟩
      ·rw [he] at fb ay ⊢; exact h e fb ay
      ·rw [he] at ay
       cases q <;> simp [I.fL] at ay
      ·exact (uq (by simp [I.sn])).elim
    | ad x k =>
      rw [aY] at h ⊢
      intro aA
      rcases aD x (by simp [I.ah]) with he | he | ⟨_, _, uq⟩
      rotate_left 2
      ·exact (uq (by simp [I.sn])).elim
      ·rw [he] at aA
       obtain ⟨b, cur, e, fr, af, ai, aN, bk⟩ := h aA
       exact ⟨b, cur, e, fr, af, bH b ai, aN, bk⟩
      ·rw [he] at aA; simp [I.plain] at aA
    | fn f cap =>
      rw [aY] at h ⊢
      obtain ⟨arr, rfl, ay⟩ := h
      exact ⟨arr, rfl, ih.2 _ _ (by simp at bY; omega) (by simpa [I.ah, I.sn] using aD) ay⟩
    | _ =>
      have bM := (aY.c9 rfl).1 h
      exact (aY.c9 rfl).2 ⟨bM.1, aB.mono bH _ _ _ _ (fun _ h => h) bM.2⟩
   ·cases ds with
    | nil => rw [e2] at h ⊢; exact h
    | cons d ds =>
      rw [e2] at h ⊢
      obtain ⟨v, kh, rfl, af, ai⟩ := h
      simp at bY
      simp only [I.eL, List.mem_append] at aD
      exact ⟨v, kh, rfl, ih.1 _ _ _ (by omega) (fun x aq => (aD x (.inl aq)).less fun u hu => by simp [I.xi, hu]) af, ih.2 _ _ (by omega) (fun x aq => (aD x (.inr aq)).less fun u hu => by simp [I.xi, hu]) ai⟩
def xl (s : ax) (l : List (Nat × I)) : Prop :=
 ∀ p ∈ l, p.2 = s p.1 ∨ ((s p.1).tree = true ∧ fy (s p.1) p.2 ∧ ∀ cN ∈ l, p.1 ∉ cN.2.ah ∨ ((s p.1).own = true ∧ p.2.own = true ∧ p.1 ∉ cN.2.sn))
theorem Jy : ∀ (l : List (Nat × I)) (t : Nat), aa l t = .hole ∨ ∃ p ∈ l, p.1 = t ∧ aa l t = p.2 := by
 intro l
 induction l with
 | nil => intro t; exact .inl rfl
 | cons p l ih =>
   intro t
   obtain ⟨u, d⟩ := p
   simp only [aa]
   split
   ·rename_i e; exact .inr ⟨(u, d), by simp, e.symm, rfl⟩
   ·rcases ih t with h | ⟨p, aA, h⟩
    ·exact .inl h
    ·exact .inr ⟨p, by simp [aA], h⟩
theorem bZ.RZ (h : bZ w0 F0 X F S s aF w) {l : List (Nat × I)} (hw : xl s l) : ∃ b9 a7, bZ w0 F0 X b9 a7 (aa l) aF w := by
 have each : ∀ t, ∃ hZ h0 : Nat → Prop, (∀ b, hZ b → S t b) ∧ (∀ b, h0 b → S t b) ∧ (∀ b, h0 b → ¬ hZ b) ∧ ∀ b9, (∀ b, F b ∨ hZ b → b9 b) → aY w b9 (aa l) aF (aa l t) (aF t) h0 := by
  intro t
  rcases Jy l t with e | ⟨p, aA, rfl, e⟩
  ·exact ⟨fun _ => False, fun _ => False, fun _ h => h.elim, fun _ h => h.elim, fun _ h => h.elim, fun b9 _ => by rw [e, aY]; trivial⟩
  ·rw [e]
   rcases hw p aA with aD | ⟨bs, mb, _⟩
   ·refine ⟨fun _ => False, S p.1, fun _ h => h.elim, fun _ h => h, fun _ _ h => h, fun b9 bH => ?_⟩
    rw [aD]
    refine (aY.keep (fun b ad => bH b (.inl ad)) (SizeOf.sizeOf (s p.1))).1 _ _ _ (Nat.le_refl _) ?_ (h.ee p.1)
    intro x aq
    rcases Jy l x with fv | ⟨cN, eY, rfl, fv⟩
    ·exact .inr (.inl fv)
    ·rcases hw cN eY with jo | ⟨_, _, nv⟩
     ·exact .inl (fv.trans jo)
     ·rcases nv p aA with nv | ⟨mX, kK, oi⟩
      ·exact (nv (by rw [aD]; exact aq)).elim
      ·exact .inr (.inr ⟨mX, by rw [fv]; exact kK, by rw [aD] at oi; exact oi⟩)
   ·obtain ⟨bo, bR⟩ := (aY.c9 bs).1 (h.ee p.1)
    obtain ⟨hZ, h0, cf, cB, fD, eQ⟩ := aB.wider mb bR
    exact ⟨hZ, h0, cf, cB, fD, fun b9 bH => (aY.c9 (mb.tree bs)).2 ⟨mb.eI bo, eQ b9 bH⟩⟩
 have cH := fun t => (each t).choose_spec
 let hZ := fun t => (each t).choose
 have cI := fun t => (cH t).choose_spec
 let h0 := fun t => (cH t).choose
 have iN : ∀ t b, hZ t b → S t b := fun t => (cI t).1
 have bw : ∀ t b, h0 t b → S t b := fun t => (cI t).2.1
 have dP : ∀ t b, h0 t b → ¬ hZ t b := fun t => (cI t).2.2.1
 have cj := fun t => (cI t).2.2.2
 refine ⟨fun b => F b ∨ ∃ t, hZ t b, h0, fun b ad => .inl (h.hv b ad), ?_, ?_, fun t b ad => h.fc t b (bw t b ad), ?_, fun t u b dB ad hu => h.gi t u b dB (bw t b ad) (bw u b hu), fun t b ad => h.ek t b (bw t b ad), ?_, h.old, h.size, h.os, h.tape, h.output⟩
 ·rintro b (ad | ⟨t, ad⟩)
  ·exact h.hQ b ad
  ·exact .inr (h.ek t b (iN t b ad))
 ·rintro b (ad | ⟨t, ad⟩)
  ·exact h.gh b ad
  ·exact h.fc t b (iN t b ad)
 ·rintro t b ad (bJ | ⟨u, hu⟩)
  ·exact h.gr t b (bw t b ad) bJ
  ·by_cases e : t = u
   ·subst e; exact dP t b ad hu
   ·exact h.gi t u b e (bw t b ad) (iN u b hu)
 ·intro t
  exact cj t _ (fun b ad => ad.imp id fun h => ⟨t, h⟩)
end
inductive J where
 | skip
 | R (ros : List cO) (keep : Option (List Nat))
 | g6 (ros : List cO) (ov : List (List Nat)) (keep : Option (List Nat))
 | seq (a b : J)
 | cond (c : aH) (a b : J)
 | block (id : Nat) (b : J)
 | loop (b : J)
 | exit (id : Nat)
 | ret
 | iO (T : (Exit → ax → Prop) → ax → Prop) (b : J)
def bG (n : Fr) : Code → Option J
 | .skip => some .skip
 | .region _ ops false => (pg n ops ops.toList).map fun r => .R r none
 | .region _ ops true => if xg (nK ops) = true then (pg n ops ops.toList).map fun r => .g6 r (nK ops) none else none
 | .seq a b => match bG n a, bG n b with
   | some a, some b => some (.seq a b)
   | _, _ => none
 | .cond c a b => match ef c, bG n a, bG n b with
   | some c, some a, some b => some (.cond c a b)
   | _, _, _ => none
 | .block id b => (bG n b).map (.block id)
 | .loop b => (bG n b).map .loop
 | .exit id => some (.exit id)
 | .ret => some .ret
 | _ => none
def J.kk : J → J
 | .R ros _ => .R ros none
 | .g6 ros hd _ => .g6 ros hd none
 | .seq a b => .seq a.kk b.kk
 | .cond c a b => .cond c a.kk b.kk
 | .block id b => .block id b.kk
 | .loop b => .loop b.kk
 | .iO T b => .iO T b.kk
 | c => c
def J.strip : J → J
 | .R ros _ => .R (ros.map cO.un) none
 | .g6 ros hd _ => .g6 (ros.map cO.un) hd none
 | .seq a b => .seq a.strip b.strip
 | .cond c a b => .cond c a.strip b.strip
 | .block id b => .block id b.strip
 | .loop b => .loop b.strip
 | .iO _ b => b.strip
 | c => c
theorem J.Fg : ∀ c : J, c.kk.strip = c.strip := by
 intro c
 induction c with
 | seq a b jO jP => simp only [J.kk, J.strip, jO, jP]
 | cond c a b jO jP => simp only [J.kk, J.strip, jO, jP]
 | block id b ih => simp only [J.kk, J.strip, ih]
 | loop b ih => simp only [J.kk, J.strip, ih]
 | iO T b ih => simp only [J.kk, J.strip, ih]
 | _ => rfl
def J.bare (H : ((Exit → ax → Prop) → ax → Prop) → J → Prop) : J → Prop
 | .R _ k => k = none
 | .g6 _ _ k => k = none
 | .seq a b => a.bare H ∧ b.bare H
 | .cond _ a b => a.bare H ∧ b.bare H
 | .block _ b => b.bare H
 | .loop b => b.bare H
 | .iO T b => H T b
 | _ => True
def J.mq (H : ((Exit → ax → Prop) → ax → Prop) → J → Prop) : J → Prop
 | .seq a b => a.mq H ∧ b.mq H
 | .cond _ a b => a.mq H ∧ b.mq H
 | .block _ b => b.mq H
 | .loop b => b.mq H
 | .iO T b => H T b.kk
 | _ => True
theorem J.An {H : ((Exit → ax → Prop) → ax → Prop) → J → Prop} : ∀ c : J, c.mq H → c.kk.bare H := by
 intro c
 induction c with
 | seq a b jO jP => intro h; exact ⟨jO h.1, jP h.2⟩
 | cond c a b jO jP => intro h; exact ⟨jO h.1, jP h.2⟩
 | block id b ih => intro h; exact ih h
 | loop b ih => intro h; exact ih h
 | R => intro _; rfl
 | g6 => intro _; rfl
 | iO T b _ => intro h; exact h
 | _ => intro _; trivial
def J.plain : J → Bool
 | .seq a b => a.plain && b.plain
 | .cond _ a b => a.plain && b.plain
 | .block _ b => b.plain
 | .loop b => b.plain
 | .iO _ _ => false
 | _ => true
theorem J.Jz {H : ((Exit → ax → Prop) → ax → Prop) → J → Prop} : ∀ c : J, c.plain = true → c.mq H := by
 intro c
 induction c with
 | seq a b jO jP => intro h; simp only [J.plain, Bool.and_eq_true] at h; exact ⟨jO h.1, jP h.2⟩
 | cond c a b jO jP => intro h; simp only [J.plain, Bool.and_eq_true] at h; exact ⟨jO h.1, jP h.2⟩
 | block id b ih => intro h; exact ih h
 | loop b ih => intro h; exact ih h
 | iO T b _ => intro h; cases h
 | _ => intro _; trivial
def andThen (K : ax → Prop) (Q : Exit → ax → Prop) : Exit → ax → Prop
 | .normal, s => K s
 | e, s => Q e s
def ur (id : Nat) (Q : Exit → ax → Prop) : Exit → ax → Prop
 | .exit i, s => if i = id then Q .normal s else Q (.exit i) s
 | e, s => Q e s
def eN (K : ax → Prop) (s : ax) : Prop := K s ∨ ∃ l, xl s l ∧ K (aa l)
def xm : Option (List Nat) → (ax → Prop) → ax → Prop
 | none, K, s => eN K s
 | some k, K, s => K (aa (k.map fun t => (t, s t)))
def dh (C : cw) : J → (Exit → ax → Prop) → ax → Prop
 | .skip, Q, s => Q .normal s
 | .R ros keep, Q, s => la C s ros (xm keep (Q .normal))
 | .g6 ros ov keep, Q, s => ∀ l, E_ ov l → jM C ros s l (xm keep (Q .normal))
 | .seq a b, Q, s => dh C a (andThen (eN (dh C b Q)) Q) s
 | .cond c a b, Q, s => match aV s c with
   | .bool fV => if fV = true then dh C a Q s else dh C b Q s
   | .fo => dh C a Q s ∧ dh C b Q s
   | _ => False
 | .block id b, Q, s => dh C b (ur id Q) s
 | .loop b, Q, s => eN (fun s => ∀ Z : ax → Prop, (∀ az, dh C b (andThen (eN Z) Q) az → Z az) → Z s) s
 | .exit id, Q, s => Q (.exit id) s
 | .ret, Q, s => Q .ret s
 | .iO T _, Q, s => ∀ gK : Exit → ax → Prop, (∀ e s, Q e s → gK e s) → T gK s
section
variable {C : cw}
theorem Fh {s : ax} {o : cO} {K dA : ax → Prop} (h : ly C s o K) (aD : ∀ s, K s → dA s) : ly C s o dA := by
 unfold ly at h ⊢
 split
 ·rename_i cg; rw [cg] at h; exact Ah h fun av s1 => aD _
 ·rename_i t b cg
  rw [cg] at h
  simp only at h
  split
  ·rename_i fV ah
   rw [ah] at h
   simp only at h
   split
   ·rename_i ad; rw [if_pos ad] at h; exact Ah h fun av s1 => aD _
   ·rename_i ad; rw [if_neg ad] at h; exact aD _ h
  ·rename_i ah; rw [ah] at h; exact aD _ h
  ·rename_i af ai
   split at h
   ·exact af _ (by assumption)
   ·exact ai (by assumption)
   ·exact h
theorem JA {K dA : ax → Prop} (aD : ∀ s, K s → dA s) : ∀ {ros : List cO} {s : ax}, la C s ros K → la C s ros dA := by
 intro ros
 induction ros with
 | nil => intro s h; exact aD s h
 | cons o ros ih => intro s h; exact Fh h fun s h => ih h
theorem JB {ros : List cO} {K dA : ax → Prop} (aD : ∀ s, K s → dA s) : ∀ {l : List Nat} {s : ax}, jM C ros s l K → jM C ros s l dA := by
 intro l
 induction l with
 | nil => intro s h; exact aD s h
 | cons i l ih =>
   intro s h
   simp only [jM] at h ⊢
   split
   ·rename_i cl; rw [cl] at h; exact ih h
   ·rename_i o cl; rw [cl] at h; exact Fh h fun s h => ih h
theorem uu {K dA : ax → Prop} (aD : ∀ s, K s → dA s) (s : ax) (h : eN K s) : eN dA s :=
 h.imp (aD s) fun ⟨l, af, ai⟩ => ⟨l, af, aD _ ai⟩
theorem JC {keep : Option (List Nat)} {K dA : ax → Prop} (aD : ∀ s, K s → dA s) (s : ax) (h : xm keep K s) : xm keep dA s := by
 cases keep with
 | none => exact uu aD s h
 | some k => exact aD _ h
theorem JD {keep : Option (List Nat)} {K : ax → Prop} {s : ax} (h : xm keep K s) : eN K s := by
 cases keep with
 | none => exact h
 | some k =>
   refine .inr ⟨_, ?_, h⟩
   intro p aA
   obtain ⟨t, _, rfl⟩ := List.mem_map.1 aA
   exact .inl rfl
theorem Fi {K dA : ax → Prop} {Q gK : Exit → ax → Prop} (aD : ∀ s, K s → dA s) (dk : ∀ e s, Q e s → gK e s) : ∀ e s, andThen K Q e s → andThen dA gK e s := by
 intro e s h
 cases e with
 | normal => exact aD s h
 | _ => exact dk _ s h
theorem Fj : ∀ (c : J) {Q gK : Exit → ax → Prop} {s : ax}, (∀ e s, Q e s → gK e s) → dh C c Q s → dh C c gK s := by
 intro c
 induction c with
 | skip => intro Q gK s dk h; exact dk _ _ h
 | R ros keep => intro Q gK s dk h; exact JA (JC (dk _)) h
 | g6 ros ov keep => intro Q gK s dk h l hl; exact JB (JC (dk _)) (h l hl)
 | seq a b jO jP =>
   intro Q gK s dk h
   exact jO (Fi (fun s h => uu (fun _ h => jP dk h) s h) dk) h
 | cond c a b jO jP =>
   intro Q gK s dk h
   simp only [dh] at h ⊢
   split
   ·rename_i fV ad
    rw [ad] at h
    simp only at h
    split
    ·rename_i e; rw [if_pos e] at h; exact jO dk h
    ·rename_i e; rw [if_neg e] at h; exact jP dk h
   ·rename_i ad; rw [ad] at h; exact ⟨jO dk h.1, jP dk h.2⟩
   ·rename_i af ai
    split at h
    ·exact af _ (by assumption)
    ·exact ai (by assumption)
    ·exact h
 | block id b ih =>
   intro Q gK s dk h
   refine ih ?_ h
   intro e s h
   cases e with
   | exit i =>
     simp only [ur] at h ⊢
     split
     ·rename_i e; rw [if_pos e] at h; exact dk _ _ h
     ·rename_i e; rw [if_neg e] at h; exact dk _ _ h
   | _ => exact dk _ _ h
 | loop b ih =>
   intro Q gK s dk h
   refine uu (fun s h Z uv => ?_) s h
   exact h Z fun az fs => uv az (ih (Fi (fun _ h => h) dk) fs)
 | exit id => intro Q gK s dk h; exact dk _ _ h
 | ret => intro Q gK s dk h; exact dk _ _ h
 | iO T b _ => intro Q gK s dk h ew ai; exact h ew fun e s he => ai e s (dk e s he)
theorem Ao : ∀ (c : J) {Q : Exit → ax → Prop} {s : ax}, dh C c Q s → dh C c.kk Q s := by
 intro c
 induction c with
 | R ros keep => intro Q s h; exact JA (fun s h => JD h) h
 | g6 ros hd keep => intro Q s h l hl; exact JB (fun s h => JD h) (h l hl)
 | seq a b jO jP => intro Q s h; exact jO (Fj a (Fi (fun s h => uu (fun _ h => jP h) s h) (fun _ _ h => h)) h)
 | cond c a b jO jP =>
   intro Q s h
   simp only [J.kk, dh] at h ⊢
   split
   ·rename_i fV ad
    rw [ad] at h
    simp only at h
    split
    ·rename_i e; rw [if_pos e] at h; exact jO h
    ·rename_i e; rw [if_neg e] at h; exact jP h
   ·rename_i ad; rw [ad] at h; exact ⟨jO h.1, jP h.2⟩
   ·rename_i af ai
    split at h
    ·exact af _ (by assumption)
    ·exact ai (by assumption)
    ·exact h
 | block id b ih => intro Q s h; exact ih h
 | loop b ih =>
   intro Q s h
   refine uu (fun s h Z uv => ?_) s h
   exact h Z fun az fs => uv az (ih fs)
 | iO T b _ => intro Q s h; exact h
 | _ => intro Q s h; exact h
variable {w0 w : World} {F0 X : Nat → Prop} {n : Fr} {ρ : Nat → Value} {s : ax} {a : Act}
def so (w0 : World) (F0 X : Nat → Prop) (n : Fr) (ρ : Nat → Value) (Q : Exit → ax → Prop) : Exit → Act → World → Prop := fun e a w => ∃ s, Q e s ∧ Rel w0 F0 X n ρ s a w
theorem Rel.eN {K : ax → Prop} {s : ax} {a : Act} {w : World} (bb : Rel w0 F0 X n ρ s a w) (h : eN K s) : ∃ az, K az ∧ Rel w0 F0 X n ρ az a w := by
 rcases h with h | ⟨l, af, ai⟩
 ·exact ⟨s, h, bb⟩
 ·obtain ⟨bo, bR, cJ, F, S, eE⟩ := bb
  obtain ⟨b9, a7, fK⟩ := eE.RZ af
  exact ⟨aa l, ai, bo, bR, cJ, b9, a7, fK⟩
theorem J.R0 {c : J} (h : c.strip = .skip) : c = .skip ∨ ∃ T b, c = .iO T b := by cases c <;> first | exact .inl rfl | exact .inr ⟨_, _, rfl⟩ | cases h
theorem J.R1 {c : J} (h : c.strip = .ret) : c = .ret ∨ ∃ T b, c = .iO T b := by cases c <;> first | exact .inl rfl | exact .inr ⟨_, _, rfl⟩ | cases h
theorem J.R2 {c : J} {i : Nat} (h : c.strip = .exit i) : c = .exit i ∨ ∃ T b, c = .iO T b := by cases c <;> first | exact .inl h | exact .inr ⟨_, _, rfl⟩ | cases h
theorem J.R3 {c : J} {r : List cO} {k : Option (List Nat)} (h : c.strip = .R r k) : (∃ ros dm, c = .R ros dm ∧ ros.map cO.un = r) ∨ ∃ T b, c = .iO T b := by
 cases c <;> first | (cases h; exact .inl ⟨_, _, rfl, rfl⟩) | exact .inr ⟨_, _, rfl⟩ | cases h
theorem J.R4 {c : J} {r : List cO} {hd : List (List Nat)} {k : Option (List Nat)} (h : c.strip = .g6 r hd k) : (∃ ros JE dm, c = .g6 ros JE dm ∧ ros.map cO.un = r ∧ JE = hd) ∨ ∃ T b, c = .iO T b := by
 cases c <;> first | (cases h; exact .inl ⟨_, _, _, rfl, rfl, rfl⟩) | exact .inr ⟨_, _, rfl⟩ | cases h
theorem J.R5 {c x y : J} (h : c.strip = .seq x y) : (∃ a b, c = .seq a b ∧ a.strip = x ∧ b.strip = y) ∨ ∃ T b, c = .iO T b := by
 cases c <;> first | (cases h; exact .inl ⟨_, _, rfl, rfl, rfl⟩) | exact .inr ⟨_, _, rfl⟩ | cases h
theorem J.R6 {c x y : J} {o : aH} (h : c.strip = .cond o x y) : (∃ mW a b, c = .cond mW a b ∧ mW = o ∧ a.strip = x ∧ b.strip = y) ∨ ∃ T b, c = .iO T b := by
 cases c <;> first | (cases h; exact .inl ⟨_, _, _, rfl, rfl, rfl, rfl⟩) | exact .inr ⟨_, _, rfl⟩ | cases h
theorem J.R7 {c x : J} {i : Nat} (h : c.strip = .block i x) : (∃ a, c = .block i a ∧ a.strip = x) ∨ ∃ T b, c = .iO T b := by
 cases c <;> first | (cases h; exact .inl ⟨_, rfl, rfl⟩) | exact .inr ⟨_, _, rfl⟩ | cases h
theorem J.R8 {c x : J} (h : c.strip = .loop x) : (∃ a, c = .loop a ∧ a.strip = x) ∨ ∃ T b, c = .iO T b := by
 cases c <;> first | (cases h; exact .inl ⟨_, rfl, rfl⟩) | exact .inr ⟨_, _, rfl⟩ | cases h
theorem Fk (bI : C.Ok) {H : ((Exit → ax → Prop) → ax → Prop) → J → Prop}
  (jQ : ∀ (c : Code) (T : (Exit → ax → Prop) → ax → Prop) (b : J) (Q : Exit → ax → Prop) (s : ax) (a : Act) (w : World), H T b → bG n c = some b.strip → T Q s → Rel w0 F0 X n ρ s a w → c.wp C.P (so w0 F0 X n ρ Q) a w) :
  ∀ (c : Code) {dK : J} {Q : Exit → ax → Prop} {s : ax} {a : Act} {w : World}, bG n c = some dK.strip → dK.bare H → dh C dK Q s → Rel w0 F0 X n ρ s a w → c.wp C.P (so w0 F0 X n ρ Q) a w := by
 intro c
 induction c with
 | skip =>
   intro dK Q s a w ah hR h bb
   have kM := ah
   simp only [bG, Option.some.injEq] at ah
   rcases J.R0 ah.symm with rfl | ⟨T, b, rfl⟩
   ·exact wp_skip ⟨s, h, bb⟩
   ·exact jQ _ T b Q s a w hR (by simpa only [J.strip] using kM) (h Q fun _ _ h => h) bb
 | region id ops draw =>
   intro dK Q s a w ah hR h bb
   have kM := ah
   cases draw with
   | false =>
     simp only [bG, Option.map_eq_some_iff] at ah
     obtain ⟨R9, xn, ah⟩ := ah
     rcases J.R3 ah.symm with ⟨ros, k, rfl, rfl⟩ | ⟨T, b, rfl⟩
     rotate_left
     ·exact jQ _ T b Q s a w hR (by simpa only [J.strip] using kM) (h Q fun _ _ h => h) bb
     cases hR
     exact RN bI xn (fun az cY aP aD fj => fj.eN aD) h bb
   | true =>
     simp only [bG] at ah
     split at ah
     ·rename_i ad
      simp only [Option.map_eq_some_iff] at ah
      obtain ⟨R9, xn, ah⟩ := ah
      rcases J.R4 ah.symm with ⟨ros, hd, k, rfl, rfl, rfl⟩ | ⟨T, b, rfl⟩
      rotate_left
      ·exact jQ _ T b Q s a w hR (by simpa only [J.strip] using kM) (h Q fun _ _ h => h) bb
      cases hR
      refine wp_region_draw fun t => ?_
      rw [show Region.schedule (C.P.follows .mixedOrders) ops t = Region.linearise .any ops t by simp [Region.schedule, bI.mixed]]
      exact Jp bI xn (fun az cY aP aD fj => fj.eN aD) _ s a _ (h _ (RV ad t)) (bb.drawn _)
     ·cases ah
 | seq x y R_ Ap =>
   intro dK Q s a w ah hR h bb
   have kM := ah
   simp only [bG] at ah
   split at ah
   ·rename_i uf JF aq bD
    simp only [Option.some.injEq] at ah
    rcases J.R5 ah.symm with ⟨cQ, jZ, rfl, rfl, rfl⟩ | ⟨T, b, rfl⟩
    rotate_left
    ·exact jQ _ T b Q s a w hR (by simpa only [J.strip] using kM) (h Q fun _ _ h => h) bb
    refine wp_seq (wp_mono (R_ aq hR.1 h bb) ?_)
    rintro e cY aP ⟨az, bM, fj⟩
    cases e with
    | normal =>
      obtain ⟨az, bM, fj⟩ := fj.eN bM
      exact Ap bD hR.2 bM fj
    | _ => exact ⟨az, bM, fj⟩
   ·cases ah
 | cond x y z Ap JG =>
   intro dK Q s a w ah hR h bb
   have kM := ah
   simp only [bG] at ah
   split at ah
   ·rename_i uf JF sz aq bD bY
    simp only [Option.some.injEq] at ah
    rcases J.R6 ah.symm with ⟨cQ, jZ, qN, rfl, rfl, rfl, rfl⟩ | ⟨T, b, rfl⟩
    rotate_left
    ·exact jQ _ T b Q s a w hR (by simpa only [J.strip] using kM) (h Q fun _ _ h => h) bb
    have fj := bb
    obtain ⟨ak, eV, bJ, F, S, ou⟩ := fj
    have aR := (gu (a := a) ou (fun _ => rfl) aq).2
    simp only [dh] at h
    split at h
    ·rename_i fV ad
     rw [ad] at aR
     have := r4 aR
     refine wp_cond this ?_
     split
     ·rename_i e; rw [if_pos e] at h; exact Ap bD hR.1 h bb
     ·rename_i e; rw [if_neg e] at h; exact JG bY hR.2 h bb
    ·rename_i ad
     rw [ad] at aR
     obtain ⟨fV, lJ⟩ := Ii aR
     refine wp_cond lJ ?_
     split
     ·exact Ap bD hR.1 h.1 bb
     ·exact JG bY hR.2 h.2 bb
    ·exact h.elim
   ·cases ah
 | block id b ih =>
   intro dK Q s a w ah hR h bb
   have kM := ah
   simp only [bG, Option.map_eq_some_iff] at ah
   obtain ⟨wP, ad, ah⟩ := ah
   rcases J.R7 ah.symm with ⟨fV, rfl, rfl⟩ | ⟨T, b, rfl⟩
   rotate_left
   ·exact jQ _ T b Q s a w hR (by simpa only [J.strip] using kM) (h Q fun _ _ h => h) bb
   refine wp_block (wp_mono (ih ad hR h bb) ?_)
   rintro e cY aP ⟨az, bM, fj⟩
   cases e with
   | exit i =>
     simp only [ur] at bM
     simp only [Exit.inBlock]
     split
     ·rename_i e; rw [if_pos e] at bM; exact ⟨az, bM, fj⟩
     ·rename_i e; rw [if_neg e] at bM; exact ⟨az, bM, fj⟩
   | _ => exact ⟨az, bM, fj⟩
 | loop b ih =>
   intro dK Q s a w ah hR h bb
   have kM := ah
   simp only [bG, Option.map_eq_some_iff] at ah
   obtain ⟨wP, ad, ah⟩ := ah
   rcases J.R8 ah.symm with ⟨fV, rfl, rfl⟩ | ⟨T, b, rfl⟩
   rotate_left
   ·exact jQ _ T b Q s a w hR (by simpa only [J.strip] using kM) (h Q fun _ _ h => h) bb
   obtain ⟨s, h, bb⟩ := bb.eN h
   have key := h (fun s => ∀ a w, Rel w0 F0 X n ρ s a w → ∀ (f : Frame) (k : List Item) (cs : List Frame), ∃ e cY aP, so w0 F0 X n ρ Q e cY aP ∧ Arrives C.P (lone (f.at a (.code b :: .inLoop b :: k)) cs w) f k cs e cY aP) ?_
   ·intro f k cs
    obtain ⟨e, cY, aP, dk, qV⟩ := key a w bb f k cs
    exact ⟨e, cY, aP, dk, .of_steps (.one step_loop) qV⟩
   ·intro az fs a w bb f k cs
    obtain ⟨e, a₁, w₁, ⟨s1, dk, qW⟩, qV⟩ := ih ad hR fs bb f (.inLoop b :: k) cs
    cases e with
    | normal =>
      simp only [andThen] at dk
      obtain ⟨s1, dk, qW⟩ := qW.eN dk
      obtain ⟨e₂, a₂, w₂, hq₂, harr₂⟩ := dk a₁ w₁ qW f k cs
      exact ⟨e₂, a₂, w₂, hq₂, .of_steps (Steps.trans qV (.one step_inLoop)) harr₂⟩
    | exit id => exact ⟨_, a₁, w₁, ⟨s1, dk, qW⟩, .pass (x := .inLoop b) rfl (fun _ _ => .inl (by simp)) qV⟩
    | goto l => exact ⟨_, a₁, w₁, ⟨s1, dk, qW⟩, .pass (x := .inLoop b) rfl (fun _ _ => .inl (by simp)) qV⟩
    | ret => exact ⟨_, a₁, w₁, ⟨s1, dk, qW⟩, .pass (x := .inLoop b) rfl (fun _ _ => .inl (by simp)) qV⟩
    | panic axF => exact ⟨_, a₁, w₁, ⟨s1, dk, qW⟩, .pass (x := .inLoop b) rfl (fun _ _ => .inl (by simp)) qV⟩
    | outgrown => exact ⟨_, a₁, w₁, ⟨s1, dk, qW⟩, .pass (x := .inLoop b) rfl (fun _ _ => .inl (by simp)) qV⟩
 | exit id =>
   intro dK Q s a w ah hR h bb
   have kM := ah
   simp only [bG, Option.some.injEq] at ah
   rcases J.R2 ah.symm with rfl | ⟨T, b, rfl⟩
   ·exact wp_exit ⟨s, h, bb⟩
   ·exact jQ _ T b Q s a w hR (by simpa only [J.strip] using kM) (h Q fun _ _ h => h) bb
 | ret =>
   intro dK Q s a w ah hR h bb
   have kM := ah
   simp only [bG, Option.some.injEq] at ah
   rcases J.R1 ah.symm with rfl | ⟨T, b, rfl⟩
   ·exact wp_ret ⟨s, h, bb⟩
   ·exact jQ _ T b Q s a w hR (by simpa only [J.strip] using kM) (h Q fun _ _ h => h) bb
 | _ => intro dK Q s a w ah; simp [bG] at ah
theorem JH (bI : C.Ok) (c : Code) {dK : J} {Q : Exit → ax → Prop} {s : ax} {a : Act} {w : World} (ah : bG n c = some dK.strip) (ad : dK.bare (fun _ _ => False)) (h : dh C dK Q s) (bb : Rel w0 F0 X n ρ s a w) : c.wp C.P (so w0 F0 X n ρ Q) a w :=
 Fk bI (fun _ _ _ _ _ _ _ bJ => bJ.elim) c ah ad h bb
end
def jR : ResultVar → Nat
 | .tmp t => t
 | .cell a _ => a
def qX (C : cw) (s : ax) : ResultVar → Option I
 | .tmp t => if (s t).tree = true then (match s t with | .tuple _ => none | d => some d) else none
 | .cell a T => match s a with
   | .bd d => if fits C T d = true ∧ d.tree = true then some d else none
   | _ => none
def Ends (C : cw) (fx : List Nat) (gW : List ResultVar) (r : I) (outs : List I) (s : ax) : Prop :=
 ∃ ds, gW.map (qX C s) = ds.map some ∧ r = (match ds with | [d] => d | ds => .tuple ds) ∧ (gW.map jR).Nodup ∧
   ∀ (i : Nat) (o : I), outs[i]? = some o → o = .hole ∨ (o = s i ∧ o.gI = true ∧ i ∈ fx ∧ i ∉ gW.map jR)
section
variable {C : cw} {w0 w : World} {F0 X F : Nat → Prop} {S : Nat → Nat → Prop} {s : ax} {tmps : Array Value}
theorem JI {d : I} {x : Value} (ak : ∀ vs, d ≠ .tuple vs) (h : eI d x) : c1 x = h_ x ∧ iy d x := by
 have : iy d x := by cases d <;> first | exact h | exact (ak _ rfl).elim
 refine ⟨?_, this⟩
 cases d <;> first
  | (obtain ⟨a, rfl⟩ := this; rfl)
  | (simp only [iy] at this
     rw [iI this]
     cases x <;> first | rfl | (simp [Value.g5] at this))
def xo (tmps : Array Value) : ResultVar → Sem Value
 | .tmp t => pure (tmps.getD t undef)
 | .cell a t => do loadVar t (← asAddr (tmps.getD a undef))
theorem Sa (bI : C.Ok) (h : bZ w0 F0 X F S s (fun t => tmps.getD t undef) w) {v : ResultVar} {d : I} (aR : qX C s v = some d) :
  ∃ x, (xo tmps v).run C.P w = .ok x w ∧ d.tree = true ∧ (∀ vs, d ≠ .tuple vs) ∧ eI d x ∧ aB w F d (c1 x) (S (jR v)) := by
 cases v with
 | tmp t =>
   simp only [qX] at aR
   split at aR
   ·rename_i bs
    have ml : (∀ vs, s t ≠ .tuple vs) ∧ d = s t := by
     cases ah : s t <;> rw [ah] at aR <;> simp only at aR <;> first
      | (cases aR; done)
      | (simp only [Option.some.injEq] at aR; exact ⟨(fun _ h => by cases h), aR.symm⟩)
    obtain ⟨ml, rfl⟩ := ml
    obtain ⟨bo, bR⟩ := (aY.c9 bs).1 (h.ee t)
    exact ⟨_, by simp [xo], bs, ml, bo, bR⟩
   ·cases aR
 | cell a T =>
   simp only [qX] at aR
   split at aR
   ·rename_i e ah
    split at aR
    ·rename_i Sb
     obtain ⟨j1, Sc⟩ := Sb
     simp only [Option.some.injEq] at aR; subst aR
     have jb := h.ee a
     rw [ah] at jb
     obtain ⟨bo, bR⟩ := (aY.c9 (d := .bd e) rfl).1 jb
     rw [iI bo, aB] at bR
     obtain ⟨b, cur, ty, fr, a7, cf, cB, fD, eQ, gA, dU, j4⟩ := bR
     simp only [List.cons.injEq, and_true] at cf
     have jI : Rd w b 0 cur.toList := by
      have := tO fD cur.size
      rwa [List.take_of_length_le (by simp)] at this
     obtain ⟨x, df, ea, gU⟩ := zQ (C := C) bI jI gA j1
     refine ⟨x, ?_, Sc, ?_, gU, ?_⟩
     ·simp only [xo]
      rw [cf]
      simpa [asAddr] using df
     ·intro vs fv; subst fv
      unfold fits at j1
      split at j1 <;> simp_all
     ·rw [ea]; exact aB.mono (fun _ h => h) _ _ _ _ dU gA
    ·cases aR
   ·cases aR
theorem Sd (bI : C.Ok) (h : bZ w0 F0 X F S s (fun t => tmps.getD t undef) w) : ∀ (gW : List ResultVar) (ds : List I), gW.map (qX C s) = ds.map some → (gW.map jR).Nodup →
  ∃ xs, (gW.mapM (xo tmps)).run C.P w = .ok xs w ∧ xs.length = ds.length ∧ bm w F ds (xs.flatMap h_) (fun b => ∃ t ∈ gW.map jR, S t b) ∧
    ∀ (k : Nat) (d : I) (x : Value), ds[k]? = some d → xs[k]? = some x → eI d x ∧ (∀ vs, d ≠ .tuple vs) ∧ (h_ x).length = d.wd ∧ c1 x = h_ x ∧ d.tree = true := by
 intro gW
 induction gW with
 | nil =>
   intro ds he _
   have : ds = [] := by simpa using he.symm
   subst this
   exact ⟨[], by simp, rfl, by simp only [List.flatMap_nil]; rw [bm], fun k d x ak => by simp at ak⟩
 | cons v gW ih =>
   intro ds he uw
   cases ds with
   | nil => simp at he
   | cons d ds =>
     simp only [List.map_cons, List.cons.injEq] at he
     simp only [List.map_cons, List.nodup_cons] at uw
     obtain ⟨x, df, rt, ea, gU, i9⟩ := Sa bI h he.1
     obtain ⟨xs, iN, bw, dP, cj⟩ := ih ds he.2 uw.2
     obtain ⟨a1, bh⟩ := JI ea gU
     refine ⟨x :: xs, by simp [List.mapM_cons, df, iN], by simp [bw], ?_, ?_⟩
     ·simp only [List.flatMap_cons]
      rw [bm]
      rw [a1] at i9
      refine ⟨h_ x, xs.flatMap h_, S (jR v), fun b => ∃ t ∈ gW.map jR, S t b, rfl, i9, dP, fun b ad => ⟨jR v, by simp, ad⟩, ?_, ?_⟩
      ·rintro b ⟨t, bs, ad⟩; exact ⟨t, by simp [bs], ad⟩
      ·rintro b ad ⟨t, bs, lJ⟩
       have : t ≠ jR v := fun e => uw.1 (e ▸ bs)
       exact h.gi t (jR v) b this lJ ad
     ·intro k bL cQ ak aq
      cases k with
      | zero =>
        simp at ak aq; subst ak aq
        refine ⟨gU, ea, ?_, a1, rt⟩
        rw [← a1]; exact aB.length _ _ _ i9
      | succ k => exact cj k bL cQ (by simpa using ak) (by simpa using aq)
theorem Fl (bI : C.Ok) {f : FuncId} {fn : Func} {c : Code} {fx : List Nat} {as outs : List I} {r : I} (bJ : C.P.funcs[f]? = some fn) (ad : fn.body = some c)
  (lb : (fn.name == "runtime.NumGoroutine") = false) (bl : as.length ≤ fn.ntmps)
  {w : World} {F X : Nat → Prop} {S : Nat → Nat → Prop} {vs : List Value} (hl : vs.length = as.length) (bb : bZ w F X F S (gC as) (hL vs) w)
  (Se : ∀ a, Rel w F X ⟨fn.ntmps, fx⟩ (hL vs) (gC as) a w → (∀ t, a.tmps.getD t undef = hL vs t) → c.wp C.P (so w F X ⟨fn.ntmps, fx⟩ (hL vs) (fun e s => (e = .normal ∨ e = .ret) ∧ eN (Ends C fx fn.results.toList r outs) s)) a w) :
  om C.P f vs.toArray w fun v aP => ∃ b9 a7, bZ w F X b9 a7 (gC (r :: outs)) (hL (v :: vs)) aP := by
 have mj : (vs.toArray ++ Array.replicate (fn.ntmps - vs.toArray.size) undef).size = fn.ntmps := by simp; omega
 have eW : (fun t => (vs.toArray ++ Array.replicate (fn.ntmps - vs.toArray.size) undef).getD t undef) = hL vs := by
  funext t
  simp only [hL, Array.getD_eq_getD_getElem?, List.getD_eq_getElem?_getD]
  by_cases bs : t < vs.length
  ·rw [Array.getElem?_append_left (by simpa using bs)]; simp
  ·rw [Array.getElem?_append_right (by simpa using bs)]
   rw [List.getElem?_eq_none (by omega)]
   simp only [Array.getElem?_replicate]
   split <;> rfl
 have ou : Rel w F X ⟨fn.ntmps, fx⟩ (hL vs) (gC as) { tmps := vs.toArray ++ Array.replicate (fn.ntmps - vs.toArray.size) undef, defers := [] } w :=
  ⟨rfl, mj, fun i _ => congrFun eW i, F, S, by rw [eW]; exact bb⟩
 have Fm : fn.name ≠ "runtime.NumGoroutine" := by simpa using lb
 refine .inl ⟨by simp [callFunc, bJ, Fm, ad], calls_of_wp bJ ad (wp_mono (Se _ ou (congrFun eW)) ?_)⟩
 rintro e cY aP ⟨az, ⟨he, Sf⟩, Sg⟩
 obtain ⟨az, ⟨ds, iC, JJ, uw, wF⟩, ak, eV, iu, b9, a7, fj⟩ := Sg.eN Sf
 obtain ⟨xs, iN, bw, dP, cj⟩ := Sd bI fj _ ds iC uw
 have Sh : (results fn cY.tmps) = (do let vs ← fn.results.mapM (xo cY.tmps); pure (if h : vs.size = 1 then vs[0] else .tuple vs)) := by
  unfold results
  congr 1
 have r2 : (results fn cY.tmps).run C.P aP = .ok (if h : xs.toArray.size = 1 then xs.toArray[0] else .tuple xs.toArray) aP := by
  rw [Sh, Array.mapM_eq_mapM_toList]
  simp [iN]
 have sq : (r.tree = true ∧ eI r (if h : xs.toArray.size = 1 then xs.toArray[0] else .tuple xs.toArray) ∧
   aB aP b9 r (c1 (if h : xs.toArray.size = 1 then xs.toArray[0] else .tuple xs.toArray)) (fun b => ∃ t ∈ fn.results.toList.map jR, a7 t b)) := by
  by_cases af : ∃ d, ds = [d]
  ·obtain ⟨d, rfl⟩ := af
   obtain ⟨x, rfl⟩ : ∃ x, xs = [x] := by
    cases xs with
    | nil => simp at bw
    | cons x xs => cases xs with
      | nil => exact ⟨x, rfl⟩
      | cons y cp => simp at bw
   obtain ⟨cf, cB, fD, eQ, gA⟩ := cj 0 d x rfl rfl
   have Si : d = r := JJ.symm
   subst Si
   simp only [List.flatMap_cons, List.flatMap_nil, List.append_nil] at dP
   rw [bm] at dP
   obtain ⟨cH, cI, cy, et, a1, bh, a8, c6, da, cv⟩ := dP
   rw [bm] at a8; subst a8
   simp only [List.append_nil] at a1; subst a1
   have aq : (if h : ([x] : List Value).toArray.size = 1 then ([x] : List Value).toArray[0] else .tuple ([x] : List Value).toArray) = x := by simp
   rw [aq, eQ]
   exact ⟨gA, cf, aB.mono (fun _ h => h) _ _ _ _ c6 bh⟩
  ·have Aq : r = .tuple ds := by
    rw [JJ]
    cases ds with
    | nil => rfl
    | cons d ds => cases ds with
      | nil => exact (af ⟨d, rfl⟩).elim
      | cons e ds => rfl
   have aq : (if h : xs.toArray.size = 1 then xs.toArray[0] else Value.tuple xs.toArray) = .tuple xs.toArray := by
    rw [dif_neg]
    intro eV
    have : ds.length = 1 := by rw [← bw]; simpa using eV
    obtain ⟨d, ak⟩ := List.length_eq_one_iff.1 this
    exact af ⟨d, ak⟩
   rw [aq, Aq]
   refine ⟨rfl, ⟨xs.toArray, rfl, by simpa using bw, fun k d x ak aq => ?_⟩, ?_⟩
   ·obtain ⟨cf, cB, fD, eQ, _⟩ := cj k d x ak (by simpa using aq)
    exact ⟨(JI cB cf).2, cB, fD⟩
   ·rw [aB]
    simpa [c1] using dP
 have post : ∀ (v : Value), (r.tree = true ∧ eI r v ∧ aB aP b9 r (c1 v) (fun b => ∃ t ∈ fn.results.toList.map jR, a7 t b)) → ∃ uk cy, bZ w F X uk cy (gC (r :: outs)) (hL (v :: vs)) aP := by
  rintro v ⟨v1, v2, v3⟩
  have Fo : ∀ i, (outs.getD i .hole).gI = true → outs.getD i .hole = az i ∧ i ∈ fx ∧ i ∉ fn.results.toList.map jR := by
   intro i ao
   cases cl : outs[i]? with
   | none => simp [List.getD, cl, I.gI] at ao
   | some o =>
     have e : outs.getD i .hole = o := by simp [List.getD, cl]
     rw [e] at ao ⊢
     rcases wF i o cl with h | h
     ·subst h; simp [I.gI] at ao
     ·exact ⟨h.1, h.2.2⟩
  refine ⟨b9, fun t b => match t with | 0 => ∃ t ∈ fn.results.toList.map jR, a7 t b | i + 1 => (outs.getD i .hole).gI = true ∧ a7 i b, fj.hv, fj.hQ, fj.gh, ?_, ?_, ?_, ?_, ?_, fj.old, fj.size, fj.os, fj.tape, fj.output⟩
  ·intro t b ad
   cases t with
   | zero => obtain ⟨t, _, ad⟩ := ad; exact fj.fc t b ad
   | succ i => exact fj.fc i b ad.2
  ·intro t b ad
   cases t with
   | zero => obtain ⟨t, _, ad⟩ := ad; exact fj.gr t b ad
   | succ i => exact fj.gr i b ad.2
  ·intro t u b dB ad hu
   cases t with
   | zero =>
     obtain ⟨t, bs, ad⟩ := ad
     cases u with
     | zero => exact dB rfl
     | succ j =>
       refine fj.gi t j b (fun e => ?_) ad hu.2
       subst e; exact (Fo t hu.1).2.2 bs
   | succ i =>
     cases u with
     | zero =>
       obtain ⟨t, bs, hu⟩ := hu
       refine fj.gi t i b (fun e => ?_) hu ad.2
       subst e; exact (Fo t ad.1).2.2 bs
     | succ j => exact fj.gi i j b (by omega) ad.2 hu.2
  ·intro t b ad
   cases t with
   | zero => obtain ⟨t, _, ad⟩ := ad; exact fj.ek t b ad
   | succ i => exact fj.ek i b ad.2
  ·intro t
   cases t with
   | zero => exact (aY.c9 v1).2 ⟨v2, v3⟩
   | succ i =>
     show aY aP b9 (gC (r :: outs)) (hL (v :: vs)) (outs.getD i .hole) (vs.getD i undef) (fun b => (outs.getD i .hole).gI = true ∧ a7 i b)
     cases ao : (outs.getD i .hole).gI with
     | false =>
       have : outs.getD i .hole = .hole := by
        cases cl : outs[i]? with
        | none => simp [List.getD, cl]
        | some o =>
          have e : outs.getD i .hole = o := by simp [List.getD, cl]
          rw [e] at ao ⊢
          rcases wF i o cl with h | h
          ·exact h
          ·rw [h.2.1] at ao; cases ao
       rw [this, aY]; trivial
     | true =>
       obtain ⟨mX, kK, oi⟩ := Fo i ao
       have bs := (qR ao).2.1
       have jb := fj.ee i
       rw [← mX] at jb
       obtain ⟨bo, bR⟩ := (aY.c9 bs).1 jb
       have aR : cY.tmps.getD i undef = vs.getD i undef := iu i kK
       rw [aR] at bo bR
       exact (aY.c9 bs).2 ⟨bo, aB.mono (fun _ h => h) _ _ _ _ (fun b ad => ⟨rfl, ad⟩) bR⟩
 rcases he with rfl | rfl
 ·exact ⟨ak, _, r2, _, rfl, post _ sq⟩
 ·exact ⟨ak, _, r2, _, rfl, post _ sq⟩
theorem aQ.of_wp (bI : C.Ok) {f : FuncId} {fn : Func} {c : Code} {dK : J} {fx : List Nat} {as outs : List I} {r : I} (bJ : C.P.funcs[f]? = some fn) (ad : fn.body = some c)
  (lb : (fn.name == "runtime.NumGoroutine") = false) (ah : bG ⟨fn.ntmps, fx⟩ c = some dK.strip) (bl : as.length ≤ fn.ntmps)
  (h : dh C dK (fun e s => (e = .normal ∨ e = .ret) ∧ eN (Ends C fx fn.results.toList r outs) s) (gC as)) (aA : dK.plain = true := by kernel_rfl) : aQ C f as r outs :=
 fun w F X S vs hl bb => Fl bI bJ ad lb bl hl bb fun a ou _ => JH bI c (by rw [J.Fg]; exact ah) (J.An dK (J.Jz dK aA)) (Ao dK h) ou
end
def num : Nat → List I → List (Nat × I)
 | _, [] => []
 | k, a :: as => (k, a) :: num (k + 1) as
theorem Sj : ∀ (as : List I) (k t : Nat), aa (num k as) (k + t) = as.getD t .hole := by
 intro as
 induction as with
 | nil => intro k t; simp [num, aa]
 | cons a as ih =>
   intro k t
   cases t with
   | zero => simp [num, aa]
   | succ t =>
     have := ih (k + 1) t
     simp only [num, aa]
     rw [if_neg (by omega)]
     rw [show k + (t + 1) = k + 1 + t by omega, this]
     simp
theorem Fp (as : List I) : gC as = aa (num 0 as) := by
 funext t
 have := Sj as 0 t
 rw [Nat.zero_add] at this
 rw [this]; rfl
theorem kN (l : List (Nat × I)) (t : Nat) (d : I) : dz (aa l) t d = aa ((t, d) :: l) := by
 funext u; simp only [dz, aa]
def ow (t : Nat) : List (Nat × I) → List (Nat × I)
 | [] => []
 | (u, d) :: l => (u, cW t d) :: ow t l
def sr (t : Nat) : List (Nat × I) → List (Nat × I)
 | [] => []
 | (u, d) :: l => (u, cm t d) :: sr t l
theorem xp (t : Nat) : ∀ l : List (Nat × I), lK t (aa l) = aa (ow t l) := by
 intro l
 funext u
 induction l with
 | nil => rfl
 | cons p l ih =>
   obtain ⟨v, d⟩ := p
   simp only [lK, aa, ow] at ih ⊢
   split
   ·rfl
   ·exact ih
theorem Sk (t : Nat) : ∀ l : List (Nat × I), iH t (aa l) = aa (sr t l) := by
 intro l
 funext u
 induction l with
 | nil => rfl
 | cons p l ih =>
   obtain ⟨v, d⟩ := p
   simp only [iH, aa, sr] at ih ⊢
   split
   ·rfl
   ·exact ih
def iP (k : List Nat) (s : ax) : List (Nat × I) := k.map fun t => (t, s t)
section
variable {C : cw} {l : List (Nat × I)}
def gj.ss : gj → Bool
 | .call _ _ => true
 | .ab _ => false
 | .ae _ => false
 | .pick _ _ _ => false
 | .eA _ => false
 | .dd _ _ => false
 | .fX _ _ => false
 | .dJ _ _ _ => false
 | .aE _ _ => false
 | .cK _ _ _ => false
 | .dT _ => false
 | .aw _ _ _ _ => false
 | .un _ _ => false
 | .fW _ _ _ => false
 | .ie _ _ => false
 | .eX _ _ _ => false
 | .fw _ _ _ _ => false
 | .aW _ _ _ => false
 | .bP _ _ _ => false
 | .idx _ _ _ => false
 | .ex _ _ => false
 | .len _ _ => false
 | .app _ _ _ _ => false
 | .shr _ => true
 | .nC _ _ _ _ => false
 | .cap _ _ => false
 | .pc _ _ _ => false
 | .bad => false
 | .mi _ _ _ _ => true
 | .j6 _ _ _ => true
 | .jJ _ _ => false
variable {Q : Exit → ax → Prop}
def I.JK : I → Bool
 | .tuple _ => true
 | _ => false
theorem Ends.one {fx : List Nat} {t : Nat} {r : I} {s : ax} (af : s t = r) (ai : (r.tree && !r.JK) = true) : Ends C fx [.tmp t] r [] s := by
 simp only [Bool.and_eq_true, Bool.not_eq_true'] at ai
 obtain ⟨ai, Ar⟩ := ai
 have aN : ∀ vs, r ≠ .tuple vs := fun vs e => by subst e; simp [I.JK] at Ar
 refine ⟨[r], ?_, rfl, by simp, fun i o h => by simp at h⟩
 have : qX C s (.tmp t) = some r := by
  simp only [qX, af, ai, if_true]
  try (cases r <;> first | rfl | exact (aN _ rfl).elim)
 simp only [List.map_cons, List.map_nil, this]
end
section
variable {C : cw} {l : List (Nat × I)} {Q : Exit → ax → Prop}
theorem aQ.outs {f : FuncId} {as : List I} {r : I} {mX kK : List I} (h : aQ C f as r mX) (he : gC mX = gC kK) : aQ C f as r kK := by
 intro w F X S vs hl bb
 refine om.mono (h w F X S vs hl bb) ?_
 rintro v aP ⟨b9, a7, bM⟩
 refine ⟨b9, a7, ?_⟩
 have : gC (r :: kK) = gC (r :: mX) := by
  funext t
  cases t with
  | zero => rfl
  | succ t => exact (congrFun he t).symm
 rw [this]; exact bM
def lU : List I → List I → List cR
 | a :: as, d :: ds => ⟨a, false, d, .hole⟩ :: lU as ds
 | _, _ => []
theorem Sl {s : ax} : ∀ (as ds : List I), views s as = some ds → (lU as ds).map (·.a) = as ∧ (lU as ds).map (·.d) = ds ∧ (∀ p ∈ lU as ds, p.ok s ∧ p.g = false ∧ p.o = .hole ∧ p.a ∈ as) ∧ ig (lU as ds) = true ∧
  gC ((lU as ds).map (·.o)) = gC [] ∧ (∀ p4, fk p4 (lU as ds) = p4) ∧ (∀ p4, hK p4 (lU as ds) = p4) := by
 intro as
 induction as with
 | nil =>
   intro ds h
   simp only [views, Option.some.injEq] at h; subst h
   exact ⟨rfl, rfl, (fun p aA => by cases aA), rfl, rfl, fun _ => rfl, fun _ => rfl⟩
 | cons a as ih =>
   intro ds h
   simp only [views] at h
   split at h
   ·rename_i d Sm af ai
    simp only [Option.some.injEq] at h; subst h
    obtain ⟨a1, bh, a8, c6, da, cv, cr⟩ := ih Sm ai
    refine ⟨by simp only [lU, List.map_cons, a1], by simp only [lU, List.map_cons, bh], ?_, ?_, ?_, ?_, ?_⟩
    ·intro p aA
     simp only [lU, List.mem_cons] at aA
     rcases aA with rfl | aA
     ·exact ⟨by simp only [cR.ok]; exact af, rfl, rfl, by simp⟩
     ·obtain ⟨bo, bR, cJ, eE⟩ := a8 p aA
      exact ⟨bo, bR, cJ, by simp [eE]⟩
    ·simp only [lU, ig, c6, Bool.and_true, List.all_eq_true]
     intro p aA
     simp [(a8 p aA).2.1]
    ·funext t
     cases t with
     | zero => rfl
     | succ t => exact (congrFun da t).trans (by simp [gC])
    ·intro p4; exact cv p4
    ·intro p4; exact cr p4
   ·cases h
end
structure fF where
 bV : List Nat
 H : List Nat
 T : List Nat
 c : Bool
mutual
def I.clean : I → Bool
 | .hole => false
 | .fn _ cap => I.ux cap
 | _ => true
def I.ux : List I → Bool
 | [] => true
 | d :: ds => d.clean && I.ux ds
end
mutual
theorem JL {x : Nat} : ∀ a : I, (cm x a).clean = true → cm x a = a
 | .h y q, h => by
   simp only [cm] at h ⊢
   split
   ·rename_i e; rw [if_pos e] at h
    split
    ·rfl
    ·rename_i fv; rw [if_neg fv] at h; simp [I.clean] at h
   ·rfl
 | .aA y q, h => by
   simp only [cm] at h ⊢
   split
   ·rename_i e; rw [if_pos e] at h; simp [I.clean] at h
   ·rfl
 | .ad y q, h => rfl
 | .fn f cap, h => by simp only [cm, I.clean] at h ⊢; rw [JM cap h]
 | .hole, _ => rfl
 | .bool _, _ => rfl
 | .fo, _ => rfl
 | .int _ _, _ => rfl
 | .str _, _ => rfl
 | .dI, _ => rfl
 | .bu, _ => rfl
 | .slice _, _ => rfl
 | .ar _ _, _ => rfl
 | .ref _, _ => rfl
 | .bd _, _ => rfl
 | .agg _, _ => rfl
 | .tuple _, _ => rfl
theorem JM {x : Nat} : ∀ ds : List I, I.ux (iA x ds) = true → iA x ds = ds
 | [], _ => rfl
 | d :: ds, h => by
   simp only [iA, I.ux, Bool.and_eq_true] at h ⊢
   rw [JL d h.1, JM ds h.2]
end
mutual
theorem JN {x : Nat} : ∀ a : I, (cW x a).clean = true → cW x a = a
 | .h y q, h => by
   simp only [cW] at h ⊢
   split
   ·rename_i e; rw [if_pos e] at h; simp [I.clean] at h
   ·rfl
 | .aA y q, h => by
   simp only [cW] at h ⊢
   split
   ·rename_i e; rw [if_pos e] at h; simp [I.clean] at h
   ·rfl
 | .ad y q, h => by
   simp only [cW] at h ⊢
   split
   ·rename_i e; rw [if_pos e] at h; simp [I.clean] at h
   ·rfl
 | .fn f cap, h => by simp only [cW, I.clean] at h ⊢; rw [JO cap h]
 | .hole, _ => rfl
 | .bool _, _ => rfl
 | .fo, _ => rfl
 | .int _ _, _ => rfl
 | .str _, _ => rfl
 | .dI, _ => rfl
 | .bu, _ => rfl
 | .slice _, _ => rfl
 | .ar _ _, _ => rfl
 | .ref _, _ => rfl
 | .bd _, _ => rfl
 | .agg _, _ => rfl
 | .tuple _, _ => rfl
theorem JO {x : Nat} : ∀ ds : List I, I.ux (i6 x ds) = true → i6 x ds = ds
 | [], _ => rfl
 | d :: ds, h => by
   simp only [i6, I.ux, Bool.and_eq_true] at h ⊢
   rw [JN d h.1, JO ds h.2]
end
theorem Sp {k : pd} {x : Nat} {a : I} (h : (k.app x a).clean = true) : k.app x a = a := by
 cases k with
 | no => rfl
 | cm => exact JL a h
 | cW => exact JN a h
theorem Sq : ∀ (ms : List gV) (u : Nat) (a : I), (∀ m ∈ ms, m.x ≠ u) → (jK ms u a).clean = true → jK ms u a = a := by
 intro ms
 induction ms with
 | nil => intros; rfl
 | cons m ms ih =>
   intro u a aq ay
   simp only [jK] at ay ⊢
   have e := ih u _ (fun hY ox => aq hY (by simp [ox])) ay
   have hm : m.at u a = m.k.app m.x a := by
    simp only [gV.at]; rw [if_neg (fun e => aq m (by simp) e.symm)]
   rw [e, hm]
   rw [e, hm] at ay
   exact Sp ay
theorem Sr : ∀ (ms : List gV) (u : Nat) (a : I), (∀ m ∈ ms, m.x ≠ u ∧ m.x ∉ a.ah) → jK ms u a = a := by
 intro ms
 induction ms with
 | nil => intros; rfl
 | cons m ms ih =>
   intro u a aq
   simp only [jK]
   have hm : m.at u a = a := by
    simp only [gV.at]; rw [if_neg (fun e => (aq m (by simp)).1 e.symm)]
    exact w1 (.inr (aq m (by simp)).2)
   rw [hm]
   exact ih u a fun hY ox => aq hY (by simp [ox])
theorem Ss (m : gV) : ∀ (ms : List gV) (u : Nat) (a : I), (∀ hY ∈ ms, hY.x ≠ m.x ∧ hY.x ∉ m.d.ah ∧ m.x ∉ hY.d.ah) → jK ms u (m.at u a) = m.at u (jK ms u a) := by
 intro ms
 induction ms with
 | nil => intros; rfl
 | cons n ms ih =>
   intro u a aq
   simp only [jK]
   have bl := aq n (by simp)
   have ay : n.at u (m.at u a) = m.at u (n.at u a) := by
    simp only [gV.at]
    by_cases a1 : u = n.x
    ·subst a1
     rw [if_pos rfl, if_neg bl.1, if_pos rfl]
     exact (w1 (.inr bl.2.2)).symm
    ·rw [if_neg a1]
     by_cases bh : u = m.x
     ·subst bh
      rw [if_pos rfl, if_pos rfl]
      exact w1 (.inr bl.2.1)
     ·rw [if_neg bh, if_neg a1, if_neg bh]
      exact QY _ _ _ _ _
   rw [ay]
   exact ih u _ fun hY ox => aq hY (by simp [ox])
theorem St : ∀ (ms kJ : List gV) (s : ax), (∀ m ∈ ms, ∀ n ∈ kJ, n.x ≠ m.x ∧ n.x ∉ m.d.ah ∧ m.x ∉ n.d.ah) → dC kJ (dC ms s) = dC ms (dC kJ s) := by
 intro ms
 induction ms with
 | nil => intros; rfl
 | cons m ms ih =>
   intro kJ s h
   have e : ∀ s, dC (m :: ms) s = dC ms (dC [m] s) := fun s => lx [m] ms s
   rw [e, e, ih kJ _ (fun hY ox => h hY (by simp [ox]))]
   congr 1
   funext u
   simp only [dC, jK]
   exact Ss m kJ u _ (h m (by simp))
def Fq (C : cw) (s : ax) (f : aH) (args : List aH) (K : List Nat → I → ax → Prop) : Prop :=
 ∃ (g : FuncId) (caps : List I) (ps : List cR) (r : I), aV s f = .fn g caps ∧ I.dO caps = true ∧ ps.map (·.a) = args.map (aV s) ++ caps ∧ (∀ p ∈ ps, p.ok s) ∧ ig ps = true ∧
   aQ C g (ps.map (·.d)) r (ps.map (·.o)) ∧ r.res = true ∧ (jL ps = true → r.c4 = true ∧ ∀ p ∈ ps, p.o.c4 = true) ∧ K (I.eL ((ps.filter (·.g)).map (·.a))) r (hK (fk s ps) ps)
def nL (C : cw) (s : ax) (bT : gj) (K : List Nat → I → ax → Prop) : Prop :=
 match bT with
 | .call f args => ∃ (g : FuncId) (caps : List I) (ps : List cR) (r : I), aV s f = .fn g caps ∧ I.dO caps = true ∧ ps.map (·.a) = args.map (aV s) ++ caps ∧ (∀ p ∈ ps, p.ok s) ∧ ig ps = true ∧
   aQ C g (ps.map (·.d)) r (ps.map (·.o)) ∧ r.res = true ∧ (jL ps = true → r.c4 = true ∧ ∀ p ∈ ps, p.o.c4 = true) ∧ K (I.eL ((ps.filter (·.g)).map (·.a))) r (hK (fk s ps) ps)
 | .shr bT => ∃ av s1, b6 C s bT = some (av, s1) ∧ av.tree = true ∧ (∀ vs, av ≠ .tuple vs) ∧ K (dF s bT) av.share s1
 | .mi f args u x => s u = .h x [] ∧ (s x).own = true ∧ Fq C s f args fun c2 av s1 => s1 u = .hole ∧ (s1 x).own = true ∧ K (u :: c2) av (dz s1 u (.h x []))
 | .j6 f args us => k_ s (jc s us) = true ∧ Fq C s f args fun c2 av s1 => k_ s1 (jc s us) = true ∧ K (us ++ c2) av (mm s1 (jc s us))
 | bT => ∃ av s1, b6 C s bT = some (av, s1) ∧ K (dF s bT) av s1
def iQ (s : ax) (bV : List Nat) (dst : Option Nat) (c2 : List Nat) (av : I) : fF :=
 ⟨bV, bV.flatMap (fun u => (s u).ah) ++ av.ah, dst.toList ++ c2, bV.all fun u => (s u).clean⟩
def mZ (C : cw) (s : ax) (o : cO) (K : fF → ax → Prop) : Prop :=
 match o.guard with
 | none => nL C s o.bT fun c2 av s1 => K (iQ s (use s o.bT) o.dst c2 av) (fin s1 o.dst av)
 | some (t, b) => match s t with
   | .bool fV => if fV = b then nL C s o.bT (fun c2 av s1 => K (iQ s (t :: use s o.bT) o.dst c2 av) (fin s1 o.dst av)) else K (iQ s [t] o.dst [] (.tuple [])) (fin s o.dst (.tuple []))
   | .tuple [] => K (iQ s [t] o.dst [] (.tuple [])) (fin s o.dst (.tuple []))
   | _ => False
def pj : Option (List fF) → fF → Option (List fF)
 | none, _ => none
 | some l, f => some (f :: l)
def cE (C : cw) (s : ax) : List cO → Option (List fF) → (Option (List fF) → ax → Prop) → Prop
 | [], acc, K => K acc s
 | o :: os, acc, K => mZ C s o fun f s1 => cE C s1 os (pj acc f) K
section
variable {C : cw}
theorem JP {s : ax} {bT : gj} {K : List Nat → I → ax → Prop} {dA : I → ax → Prop} (aD : ∀ c2 av s, K c2 av s → dA av s) (h : nL C s bT K) : nJ C s bT dA := by
 cases bT with
 | call f args =>
   obtain ⟨g, caps, ps, r, af, gm, ai, aN, bk, cc, cF, ct, fC⟩ := h
   exact ⟨g, caps, ps, r, af, gm, ai, aN, bk, cc, cF, ct, aD _ _ _ fC⟩
 | mi f args u x =>
   obtain ⟨cf, cB, g, caps, ps, r, af, gm, ai, aN, bk, cc, cF, ct, fC, ir, hE⟩ := h
   exact ⟨cf, cB, g, caps, ps, r, af, gm, ai, aN, bk, cc, cF, ct, fC, ir, aD _ _ _ hE⟩
 | j6 f args us =>
   obtain ⟨cB, g, caps, ps, r, af, gm, ai, aN, bk, cc, cF, ct, fC, ir⟩ := h
   exact ⟨cB, g, caps, ps, r, af, gm, ai, aN, bk, cc, cF, ct, fC, aD _ _ _ ir⟩
 | shr bT =>
   obtain ⟨av, s1, af, ai, aN, bk⟩ := h
   exact ⟨av, s1, af, ai, aN, aD _ _ _ bk⟩
 | _ =>
   obtain ⟨av, s1, af, ai⟩ := h
   exact ⟨av, s1, af, aD _ _ _ ai⟩
theorem Su {s : ax} {o : cO} {K : fF → ax → Prop} {dA : ax → Prop} (aD : ∀ f s, K f s → dA s) (h : mZ C s o K) : ly C s o dA := by
 unfold mZ at h
 unfold ly
 split
 ·rename_i cg; rw [cg] at h; exact JP (fun _ _ _ => aD _ _) h
 ·rename_i t b cg
  rw [cg] at h
  simp only at h
  split
  ·rename_i fV ah
   rw [ah] at h
   simp only at h
   split
   ·rename_i ad; rw [if_pos ad] at h; exact JP (fun _ _ _ => aD _ _) h
   ·rename_i ad; rw [if_neg ad] at h; exact aD _ _ h
  ·rename_i ah; rw [ah] at h; exact aD _ _ h
  ·rename_i af ai
   split at h
   ·exact af _ (by assumption)
   ·exact ai (by assumption)
   ·exact h
theorem su {K : ax → Prop} : ∀ {ros : List cO} {s : ax} {acc : Option (List fF)} {dA : Option (List fF) → ax → Prop}, (∀ a s, dA a s → K s) → cE C s ros acc dA → la C s ros K := by
 intro ros
 induction ros with
 | nil => intro s acc dA aD h; exact aD _ _ h
 | cons o ros ih => intro s acc dA aD h; exact Su (fun f s h => ih aD h) h
theorem JQ {q : List Nat} {a d : I} (h : I.sub q a = some d) (dk : q ≠ [] ∨ d.ah = []) : a.ah = [] := by
 cases q with
 | nil =>
   simp only [I.sub, Option.some.injEq] at h; subst h
   exact dk.resolve_left (fun e => e rfl)
 | cons k q => cases a <;> first | rfl | (simp [I.sub] at h)
def As (s : ax) (p : cR) (e : I → Prop) : Prop := p.g = true → ∃ x q d, p.a = .h x q ∧ I.sub q (s x) = some d ∧ e d ∧ (p.o = .hole ∨ p.o.gI = true)
theorem JR {d : I} (h : d.gI = true) : d.ah = [] := Jf (qR h).2.1
theorem JS {d : I} (h : d.gI = true) : d.dq.ah = [] := by cases d <;> first | rfl | (simp [I.gI] at h)
theorem JT {p : cR} {ps : List cR} (h : ig (p :: ps) = true) : ig ps = true ∧ ∀ cN ∈ ps, (p.g = true ∨ cN.g = true) → ∀ u ∈ p.a.ah, u ∉ cN.a.ah := by
 simp only [ig, Bool.and_eq_true, List.all_eq_true, Bool.or_eq_true, Bool.not_eq_true'] at h
 refine ⟨h.2, fun cN eY cg u hu => ?_⟩
 rcases h.1 cN eY with e | e
 ·rcases cg with cg | cg <;> simp [cg] at e
 ·simpa using e u hu
def p5 (ps : List cR) : List Nat := I.eL ((ps.filter (·.g)).map (·.a))
theorem uy (p : cR) (ps : List cR) : (∀ u ∈ p5 ps, u ∈ p5 (p :: ps)) ∧ (p.g = true → ∀ u ∈ p.a.ah, u ∈ p5 (p :: ps)) := by
 unfold p5
 by_cases cg : p.g = true
 ·simp only [List.filter_cons, cg, if_true, List.map_cons, I.eL, List.mem_append]
  exact ⟨fun u h => .inr h, fun _ u h => .inl h⟩
 ·simp only [List.filter_cons, cg]
  exact ⟨fun u h => h, fun h => by simp at h⟩
theorem Sv {p : cR} {ps : List cR} (h : p ∈ ps) : ∀ u ∈ p.a.ah, u ∈ I.eL (ps.map (·.a)) := by
 induction ps with
 | nil => cases h
 | cons cN ps ih =>
   intro u hu
   simp only [List.map_cons, I.eL, List.mem_append]
   rcases List.mem_cons.1 h with rfl | h
   ·exact .inl hu
   ·exact .inr (ih h u hu)
theorem Sw : ∀ (ps : List cR) (s : ax), (∀ p ∈ ps, As s p (fun d => d = p.d ∧ p.d.gI = true)) → ig ps = true →
  (∃ ms : List gV, (∀ m ∈ ms, m.x ∈ p5 ps ∧ m.d.ah = []) ∧ ∀ az, eh (I.eL (ps.map (·.a))) az s → fk az ps = dC ms az) ∧ ∀ p ∈ ps, As (fk s ps) p (fun d => d = p.d.dq ∧ p.d.gI = true) := by
 intro ps
 induction ps with
 | nil => intro s _ _; exact ⟨⟨[], by simp, fun az _ => rfl⟩, fun p aA => by cases aA⟩
 | cons p ps ih =>
   intro s cg kI
   obtain ⟨oh, nH⟩ := JT kI
   by_cases lV : p.g = true
   ·obtain ⟨x, q, d, cz, ah, ⟨rfl, ak⟩, cl⟩ := cg p (by simp) lV
    have jY : (I.put q p.d.dq (s x)).ah = [] := w2 q _ _ _ ah (.inl (qR ak).1) fun _ => JS ak
    have xq : ∀ az : ax, az x = s x → p.take az = dC [⟨.cm, x, I.put q p.d.dq (s x)⟩] az := by
     intro az e
     simp only [cR.take, lV, if_true, cz, e, wY]
    have dB : ∀ cN ∈ ps, ∀ cQ jm, cN.a = .h cQ jm → cQ ≠ x := by
     intro cN eY cQ jm e fv
     have := nH cN eY (.inl lV) x (by simp [cz, I.ah])
     rw [e, fv] at this; simp [I.ah] at this
    have qS : ∀ cQ, cQ ≠ x → (s cQ).ah = [] → dC [⟨.cm, x, I.put q p.d.dq (s x)⟩] s cQ = s cQ := by
     intro cQ Ez bc
     simp only [dC, jK, gV.at]
     rw [if_neg Ez]
     exact w1 (.inr (by rw [bc]; simp))
    obtain ⟨⟨ms, fM, gN⟩, hI⟩ := ih (dC [⟨.cm, x, I.put q p.d.dq (s x)⟩] s) (fun cN eY Fs => by
     obtain ⟨cQ, jm, bL, sj, fs, gR, xr⟩ := cg cN (by simp [eY]) Fs
     refine ⟨cQ, jm, bL, sj, ?_, gR, xr⟩
     rw [qS cQ (dB cN eY cQ jm sj) (JQ fs (.inr (by rw [gR.1]; exact JR gR.2)))]; exact fs) oh
    refine ⟨⟨[⟨.cm, x, I.put q p.d.dq (s x)⟩] ++ ms, ?_, ?_⟩, ?_⟩
    ·intro m hm
     rcases List.mem_append.1 hm with hm | hm
     ·simp only [List.mem_singleton] at hm; subst hm
      exact ⟨(uy p ps).2 lV x (by simp [cz, I.ah]), jY⟩
     ·exact ⟨(uy p ps).1 _ (fM m hm).1, (fM m hm).2⟩
    ·intro az fs
     simp only [List.map_cons, I.eL] at fs
     have e : az x = s x := fs x (by simp [cz, I.ah])
     rw [lx]
     show fk (p.take az) ps = _
     rw [xq az e]
     exact gN _ (eh.dC fs.right _)
    ·have a1 : fk s (p :: ps) = fk (dC [⟨.cm, x, I.put q p.d.dq (s x)⟩] s) ps := by
      show fk (p.take s) ps = _
      rw [xq s rfl]
     rw [a1]
     intro cN eY
     rcases List.mem_cons.1 eY with rfl | eY
     ·intro _
      refine ⟨x, q, cN.d.dq, cz, ?_, ⟨rfl, ak⟩, cl⟩
      have aR : dC [⟨.cm, x, I.put q cN.d.dq (s x)⟩] s x = I.put q cN.d.dq (s x) := by
       simp only [dC, jK, gV.at, if_true]
      rw [EY (by rw [aR]; exact jY) (fun Sy Sz axG => ?_), aR]
      ·exact Jc q _ _ _ ah
      ·exact nH Sy Sz (.inl lV) x (by simp [cz, I.ah])
     ·exact hI cN eY
   ·have xq : ∀ az : ax, p.take az = az := by intro az; simp only [cR.take, lV]; rfl
    obtain ⟨⟨ms, fM, gN⟩, hI⟩ := ih s (fun cN eY => cg cN (by simp [eY])) oh
    refine ⟨⟨ms, fun m hm => ⟨(uy p ps).1 _ (fM m hm).1, (fM m hm).2⟩, ?_⟩, ?_⟩
    ·intro az fs
     simp only [List.map_cons, I.eL] at fs
     show fk (p.take az) ps = _
     rw [xq]; exact gN az fs.right
    ·intro cN eY
     have a1 : fk s (p :: ps) = fk s ps := by show fk (p.take s) ps = _; rw [xq]
     rw [a1]
     rcases List.mem_cons.1 eY with rfl | eY
     ·intro h; exact (lV h).elim
     ·exact hI cN eY
theorem SA : ∀ (ps : List cR) (s : ax), (∀ p ∈ ps, As s p (fun d => d = p.d.dq ∧ p.d.gI = true)) → ig ps = true →
  (∃ ms : List gV, (∀ m ∈ ms, m.x ∈ p5 ps ∧ m.d.ah = []) ∧ ∀ az, eh (I.eL (ps.map (·.a))) az s → hK az ps = dC ms az) := by
 intro ps
 induction ps with
 | nil => intro s _ _; exact ⟨[], by simp, fun az _ => rfl⟩
 | cons p ps ih =>
   intro s cg kI
   obtain ⟨oh, nH⟩ := JT kI
   by_cases lV : p.g = true ∧ p.o ≠ .hole
   ·obtain ⟨lV, SB⟩ := lV
    obtain ⟨x, q, d, cz, ah, ⟨rfl, ak⟩, cl⟩ := cg p (by simp) lV
    have cl : p.o.gI = true := cl.resolve_left SB
    have jY : (I.put q p.o (s x)).ah = [] := by
     cases q with
     | nil => simp only [I.put]; exact JR cl
     | cons k q => exact w2 _ _ _ _ ah (.inr (by simp)) (by simp)
    have Ft : ∀ az : ax, az x = s x → p.ja az = dC [⟨.cW, x, I.put q p.o (s x)⟩] az := by
     intro az e
     simp only [cR.ja, lV, if_true, cz]
     rw [e, IY]
    have dB : ∀ cN ∈ ps, ∀ cQ jm, cN.a = .h cQ jm → cQ ≠ x := by
     intro cN eY cQ jm e fv
     have := nH cN eY (.inl lV) x (by simp [cz, I.ah])
     rw [e, fv] at this; simp [I.ah] at this
    obtain ⟨ms, fM, gN⟩ := ih (dC [⟨.cW, x, I.put q p.o (s x)⟩] s) (fun cN eY Fs => by
     obtain ⟨cQ, jm, bL, sj, fs, gR, xr⟩ := cg cN (by simp [eY]) Fs
     refine ⟨cQ, jm, bL, sj, ?_, gR, xr⟩
     have bc := JQ fs (.inr (by rw [gR.1]; exact JS gR.2))
     have qS : dC [⟨.cW, x, I.put q p.o (s x)⟩] s cQ = s cQ := by
      simp only [dC, jK, gV.at]
      rw [if_neg (dB cN eY cQ jm sj)]
      exact w1 (.inr (by rw [bc]; simp))
     rw [qS]; exact fs) oh
    refine ⟨[⟨.cW, x, I.put q p.o (s x)⟩] ++ ms, ?_, ?_⟩
    ·intro m hm
     rcases List.mem_append.1 hm with hm | hm
     ·simp only [List.mem_singleton] at hm; subst hm
      exact ⟨(uy p ps).2 lV x (by simp [cz, I.ah]), jY⟩
     ·exact ⟨(uy p ps).1 _ (fM m hm).1, (fM m hm).2⟩
    ·intro az fs
     simp only [List.map_cons, I.eL] at fs
     have e : az x = s x := fs x (by simp [cz, I.ah])
     rw [lx]
     show hK (p.ja az) ps = _
     rw [Ft az e]
     exact gN _ (eh.dC fs.right _)
   ·have Ft : ∀ az : ax, p.ja az = az := by
     intro az
     unfold cR.ja
     split
     ·rename_i hJ
      have : p.o = .hole := by
       by_cases h : p.o = .hole
       ·exact h
       ·exact (lV ⟨hJ, h⟩).elim
      rw [this]
     ·rfl
    obtain ⟨ms, fM, gN⟩ := ih s (fun cN eY => cg cN (by simp [eY])) oh
    refine ⟨ms, fun m hm => ⟨(uy p ps).1 _ (fM m hm).1, (fM m hm).2⟩, ?_⟩
    intro az fs
    simp only [List.map_cons, I.eL] at fs
    show hK (p.ja az) ps = _
    rw [Ft]; exact gN az fs.right
theorem SC {s az : ax} : ∀ (a : I) (d : I), eh a.ah az s → view s a = some d → view az a = some d := by
 intro a d h
 have := E0 (s := s) (az := az) a d
 intro aR
 cases a with
 | h x q => simp only [view] at aR ⊢; rw [h x (by simp [I.ah])]; exact aR
 | aA x q => simp only [view] at aR ⊢; rw [h x (by simp [I.ah])]; exact aR
 | fn f cap =>
   refine this (fun u hu _ => h u hu) aR
 | _ => exact aR
theorem SD {p : cR} {s az : ax} (h : eh p.a.ah az s) (gJ : p.ok s) : p.ok az := by
 unfold cR.ok at gJ ⊢
 split
 ·rename_i cg
  rw [if_pos cg] at gJ
  cases cz : p.a with
  | h x q =>
    rw [cz] at gJ
    simp only at gJ ⊢
    rw [h x (by simp [cz, I.ah])]; exact gJ
  | _ => rw [cz] at gJ; exact gJ.elim
 ·rename_i cg
  rw [if_neg cg] at gJ
  exact SC _ _ h gJ
def Au (C : cw) (o : cO) (s : ax) (kl : fF) (ms : List gV) : Prop :=
 (∀ az, eh kl.bV az s → ∀ K : ax → Prop, K (dC ms az) → ly C az o K) ∧ (∀ m ∈ ms, m.x ∈ kl.T ∧ ∀ u ∈ m.d.ah, u ∈ kl.H) ∧ (∀ u ∈ kl.bV, ∀ x ∈ (s u).ah, x ∈ kl.H) ∧ (kl.c = true → ∀ u ∈ kl.bV, (s u).clean = true)
theorem JU (dst : Option Nat) (av : I) : ∃ ms : List gV, (∀ m ∈ ms, m.x ∈ dst.toList ∧ m.d = av) ∧ ∀ s1 : ax, fin s1 dst av = dC ms s1 := by
 cases dst with
 | none => exact ⟨[], by simp, fun s => rfl⟩
 | some t =>
   simp only [fin]
   by_cases h : av.plain = true
   ·exact ⟨[⟨.no, t, av⟩], by simp, fun s => by rw [if_pos h, EK]⟩
   ·exact ⟨[⟨.cW, t, av⟩], by simp, fun s => by rw [if_neg h, IY]⟩
theorem Av {s : ax} {bV : List Nat} {dst : Option Nat} {c2 : List Nat} {av : I} : (∀ u ∈ (iQ s bV dst c2 av).bV, ∀ x ∈ (s u).ah, x ∈ (iQ s bV dst c2 av).H) ∧ ((iQ s bV dst c2 av).c = true → ∀ u ∈ (iQ s bV dst c2 av).bV, (s u).clean = true) := by
 refine ⟨fun u hu x aq => ?_, fun ay => ?_⟩
 ·simp only [iQ, List.mem_append, List.mem_flatMap]; exact .inl ⟨u, hu, aq⟩
 ·simp only [iQ, List.all_eq_true] at ay; exact ay
theorem Fu {s : ax} {f : aH} {args : List aH} {K : List Nat → I → ax → Prop} (h : Fq C s f args K) :
  ∃ c2 av ms, K c2 av (dC ms s) ∧ (∀ m ∈ ms, m.x ∈ c2 ∧ m.d.ah = []) ∧ ∀ az, eh (use s (.call f args)) az s → ∀ dA : I → ax → Prop, dA av (dC ms az) → Ag C az f args dA := by
 obtain ⟨g, caps, ps, r, af, gm, ai, aN, bk, cc, cF, ct, fC⟩ := h
 have SE : ∀ p ∈ ps, As s p (fun d => d = p.d ∧ p.d.gI = true) := by
  intro p aA cg
  have := aN p aA
  simp only [cR.ok, cg, if_true] at this
  cases cz : p.a with
  | h x q => rw [cz] at this; exact ⟨x, q, p.d, rfl, this.1, ⟨rfl, this.2.1⟩, this.2.2.imp id fun h => h.1⟩
  | _ => rw [cz] at this; exact this.elim
 obtain ⟨⟨og, U, bq⟩, a3⟩ := Sw ps s SE bk
 obtain ⟨sg, lR, i_⟩ := SA ps (fk s ps) a3 bk
 have pa : ∀ u ∈ I.eL (ps.map (·.a)), u ∈ use s (.call f args) := by
  rw [ai]
  intro u hu
  simp only [use, List.mem_append]
  have key : ∀ (hS l2 : List I), u ∈ I.eL (hS ++ l2) → u ∈ I.eL hS ∨ u ∈ I.eL l2 := by
   intro hS
   induction hS with
   | nil => intro l2 h; exact .inr h
   | cons a hS ih =>
     intro l2 h
     simp only [List.cons_append, I.eL, List.mem_append] at h ⊢
     rcases h with h | h
     ·exact .inl (.inl h)
     ·exact (ih l2 h).imp .inr id
  rcases key _ _ hu with hu | hu
  ·exact .inr (aH.Ac u hu)
  ·refine .inl (aH.se u ?_)
   rw [af]; exact hu
 have gB : hK (fk s ps) ps = dC (og ++ sg) s := by
  rw [lx, ← bq s (fun _ _ => rfl), i_ _ (fun _ _ => rfl)]
 refine ⟨p5 ps, r, og ++ sg, by rw [← gB]; exact fC, ?_, ?_⟩
 ·intro m hm
  rcases List.mem_append.1 hm with hm | hm
  ·exact U m hm
  ·exact lR m hm
 ·intro az ah dA aD
  have p2 : eh (I.eL (ps.map (·.a))) az s := ah.sub pa
  have bJ : eh (f.use s) az s := by simp only [use] at ah; exact ah.left
  have aq : eh (aH.nG s args) az s := by simp only [use] at ah; exact ah.right
  have a1 : hK (fk az ps) ps = dC (og ++ sg) az := by
   rw [lx, ← bq az p2, i_]
   rw [bq az p2, bq s (fun _ _ => rfl)]
   exact eh.dC p2 _
  exact ⟨g, caps, ps, r, by rw [aH.gO bJ]; exact af, gm, by rw [aH.EO aq]; exact ai, fun p aA => SD (p2.sub (Sv aA)) (aN p aA), bk, cc, cF, ct, by rw [a1]; exact aD⟩
mutual
theorem JV {s az : ax} : ∀ (d : I), eh d.ah az s → d.fN az = d.fN s
 | .h x q, h => by simp only [I.fN]; rw [h x (by simp [I.ah])]
 | .ad x q, h => by simp only [I.fN]; rw [h x (by simp [I.ah])]
 | .fn f cap, h => by simp only [I.fN]; exact JW cap (by simpa only [I.ah] using h)
 | .aA _ _, _ => by simp only [I.fN]
 | .hole, _ => by simp only [I.fN]
 | .bool _, _ => by simp only [I.fN]
 | .fo, _ => by simp only [I.fN]
 | .int _ _, _ => by simp only [I.fN]
 | .str _, _ => by simp only [I.fN]
 | .dI, _ => by simp only [I.fN]
 | .bu, _ => by simp only [I.fN]
 | .slice _, _ => by simp only [I.fN]
 | .ar _ _, _ => by simp only [I.fN]
 | .ref _, _ => by simp only [I.fN]
 | .bd _, _ => by simp only [I.fN]
 | .agg _, _ => by simp only [I.fN]
 | .tuple _, _ => by simp only [I.fN]
theorem JW {s az : ax} : ∀ (ds : List I), eh (I.eL ds) az s → I.nI az ds = I.nI s ds
 | [], _ => rfl
 | d :: ds, h => by
   simp only [I.eL] at h
   simp only [I.nI]; rw [JV d h.left, JW ds h.right]
end
theorem Fv {s az : ax} {us : List Nat} (h : eh (us.flatMap fun u => u :: (s u).ah) az s) : jc az us = jc s us := by
 unfold jc
 refine List.map_congr_left fun u hu => ?_
 rw [h u (List.mem_flatMap.2 ⟨u, hu, by simp⟩)]
theorem Fw {s az : ax} : ∀ (L : List (Nat × I)), (∀ p ∈ L, eh p.2.ah az s) → k_ az L = k_ s L
 | [], _ => rfl
 | p :: L, h => by
   simp only [k_]; rw [JV p.2 (h p (by simp)), Fw L (fun q dk => h q (by simp [dk]))]
theorem JX : ∀ (L : List (Nat × I)) (s : ax), mm s L = dC (L.map fun p => ⟨.no, p.1, p.2⟩) s
 | [], s => rfl
 | p :: L, s => by
   simp only [mm, List.map_cons]
   rw [JX L, EK]
   exact (lx [⟨.no, p.1, p.2⟩] _ s).symm
theorem SF {s : ax} {bT : gj} {K : List Nat → I → ax → Prop} (h : nL C s bT K) :
  ∃ c2 av ms, K c2 av (dC ms s) ∧ (∀ m ∈ ms, m.x ∈ c2 ∧ ∀ v ∈ m.d.ah, ∃ u ∈ use s bT, v ∈ (s u).ah) ∧ ∀ az, eh (use s bT) az s → ∀ dA : I → ax → Prop, dA av (dC ms az) → nJ C az bT dA := by
 have plain : (∃ av s1, b6 C s bT = some (av, s1) ∧ K (dF s bT) av s1) → (∀ az (dA : I → ax → Prop) av s1, b6 C az bT = some (av, s1) → dA av s1 → nJ C az bT dA) →
   ∃ c2 av ms, K c2 av (dC ms s) ∧ (∀ m ∈ ms, m.x ∈ c2 ∧ ∀ v ∈ m.d.ah, ∃ u ∈ use s bT, v ∈ (s u).ah) ∧ ∀ az, eh (use s bT) az s → ∀ dA : I → ax → Prop, dA av (dC ms az) → nJ C az bT dA := by
  rintro ⟨av, s1, af, ai⟩ hw
  obtain ⟨ms, a1, bh, a8⟩ := Jb af
  subst a1
  exact ⟨_, av, ms, ai, fun m hm => ⟨(bh m hm).1, fun v aR => by rw [(bh m hm).2] at aR; cases aR⟩, fun az ah dA aD => hw az dA av _ (a8 az ah) aD⟩
 cases bT with
 | call f args =>
   obtain ⟨c2, av, ms, U, bq, a3⟩ := Fu h
   exact ⟨c2, av, ms, U, fun m hm => ⟨(bq m hm).1, fun v aR => by rw [(bq m hm).2] at aR; cases aR⟩, fun az ah dA aD => a3 az ah dA aD⟩
 | mi f args u x =>
   obtain ⟨cf, cB, ay⟩ := h
   obtain ⟨c2, av, ms, ⟨U, Fx, SG⟩, bq, a3⟩ := Fu ay
   have e : ∀ s : ax, dz (dC ms s) u (.h x []) = dC (ms ++ [⟨.no, u, .h x []⟩]) s := fun s => by rw [lx, ← EK]
   refine ⟨u :: c2, av, ms ++ [⟨.no, u, .h x []⟩], by rw [← e]; exact SG, ?_, ?_⟩
   ·intro m hm
    rcases List.mem_append.1 hm with hm | hm
    ·exact ⟨by simp [(bq m hm).1], fun v aR => by rw [(bq m hm).2] at aR; cases aR⟩
    ·simp only [List.mem_singleton] at hm; subst hm
     refine ⟨by simp, fun v aR => ⟨u, by simp [use], ?_⟩⟩
     rw [cf]; exact aR
   ·intro az ah dA aD
    have JY : az u = s u := ah u (by simp [use])
    have ex : az x = s x := ah x (by simp [use])
    refine ⟨by rw [JY]; exact cf, by rw [ex]; exact cB, a3 az (fun y bD => ah y (by simp only [use, List.mem_cons] at bD ⊢; exact .inr (.inr bD))) _ ⟨?_, ?_, ?_⟩⟩
    ·have := U; simp only [dC] at this ⊢; rw [JY]; exact this
    ·have := Fx; simp only [dC] at this ⊢; rw [ex]; exact this
    ·rw [e]; exact aD
 | j6 f args us =>
   obtain ⟨cB, ay⟩ := h
   obtain ⟨c2, av, ms, ⟨U, Fx⟩, bq, a3⟩ := Fu ay
   have e : ∀ az : ax, mm (dC ms az) (jc s us) = dC (ms ++ (jc s us).map fun p => ⟨.no, p.1, p.2⟩) az := fun az => by rw [lx, JX]
   have k2 : ∀ {az : ax}, eh (us.flatMap fun u => u :: (s u).ah) az s → ∀ p ∈ jc s us, eh p.2.ah az s := fun {az} ah p aA v aR => by
    obtain ⟨u, hu, rfl⟩ := List.mem_map.1 aA
    exact ah v (List.mem_flatMap.2 ⟨u, hu, by simp [aR]⟩)
   refine ⟨us ++ c2, av, ms ++ (jc s us).map fun p => ⟨.no, p.1, p.2⟩, by rw [← e]; exact Fx, ?_, ?_⟩
   ·intro m hm
    rcases List.mem_append.1 hm with hm | hm
    ·exact ⟨by simp [(bq m hm).1], fun v aR => by rw [(bq m hm).2] at aR; cases aR⟩
    ·obtain ⟨p, aA, rfl⟩ := List.mem_map.1 hm
     obtain ⟨u, hu, rfl⟩ := List.mem_map.1 aA
     exact ⟨List.mem_append_left _ hu, fun v aR => ⟨u, by simp only [use, List.mem_append, List.mem_flatMap]; exact .inl ⟨u, hu, by simp⟩, aR⟩⟩
   ·intro az ah dA aD
    simp only [use] at ah
    refine ⟨by rw [Fv ah.left, Fw _ (k2 ah.left)]; exact cB, a3 az ah.right _ ⟨?_, ?_⟩⟩
    ·rw [Fv ah.left, Fw _ (fun p aA => (k2 ah.left p aA).dC ms)]; exact U
    ·rw [Fv ah.left, e]; exact aD
 | shr bT =>
   obtain ⟨av, s1, af, ai, aN, bk⟩ := h
   obtain ⟨ms, a1, bh, a8⟩ := Jb af
   subst a1
   exact ⟨_, av.share, ms, bk, fun m hm => ⟨(bh m hm).1, fun v aR => by rw [(bh m hm).2] at aR; cases aR⟩, fun az ah dA aD => ⟨av, _, a8 az ah, ai, aN, aD⟩⟩
 | _ => exact plain h (fun az dA av s1 af ai => ⟨av, s1, af, ai⟩)
theorem SH {s : ax} {o : cO} {K : fF → ax → Prop} (h : mZ C s o K) : ∃ kl ms, K kl (dC ms s) ∧ Au C o s kl ms := by
 have op : ∀ (bV : List Nat), (∀ u ∈ use s o.bT, u ∈ bV) → (∀ az, eh bV az s → ∀ dA : ax → Prop, nJ C az o.bT (fun av s1 => dA (fin s1 o.dst av)) → ly C az o dA) →
   nL C s o.bT (fun c2 av s1 => K (iQ s bV o.dst c2 av) (fin s1 o.dst av)) → ∃ kl ms, K kl (dC ms s) ∧ Au C o s kl ms := by
  intro bV pa lp hw
  obtain ⟨c2, av, ms, af, ai, aN⟩ := SF hw
  obtain ⟨kJ, m0, ca⟩ := JU o.dst av
  refine ⟨iQ s bV o.dst c2 av, ms ++ kJ, ?_, ?_, ?_, Av.1, Av.2⟩
  ·rw [lx, ← ca]; exact af
  ·intro az ah dA aD
   refine lp az ah dA (aN az (ah.sub pa) _ ?_)
   rw [ca, ← lx]; exact aD
  ·intro m hm
   simp only [iQ, List.mem_append]
   rcases List.mem_append.1 hm with hm | hm
   ·refine ⟨.inr (ai m hm).1, fun v aR => .inl ?_⟩
    obtain ⟨u, hu, lL⟩ := (ai m hm).2 v aR
    exact List.mem_flatMap.2 ⟨u, pa u hu, lL⟩
   ·exact ⟨.inl (m0 m hm).1, fun u hu => .inr (by rw [(m0 m hm).2] at hu; exact hu)⟩
 have skip : ∀ t, (∀ az, eh [t] az s → ∀ dA : ax → Prop, dA (fin az o.dst (.tuple [])) → ly C az o dA) → K (iQ s [t] o.dst [] (.tuple [])) (fin s o.dst (.tuple [])) → ∃ kl ms, K kl (dC ms s) ∧ Au C o s kl ms := by
  intro t lp aD
  obtain ⟨kJ, m0, ca⟩ := JU o.dst (.tuple [])
  refine ⟨_, kJ, by rw [← ca]; exact aD, ?_, ?_, Av.1, Av.2⟩
  ·intro az ah dA jo
   exact lp az ah dA (by rw [ca]; exact jo)
  ·intro m hm
   simp only [iQ, List.mem_append]
   exact ⟨.inl (m0 m hm).1, fun u hu => by rw [(m0 m hm).2] at hu; simp [I.ah] at hu⟩
 unfold mZ at h
 split at h
 ·rename_i cg
  exact op _ (fun _ h => h) (fun az _ dA hw => by unfold ly; rw [cg]; exact hw) h
 ·rename_i t b cg
  split at h
  ·rename_i fV ad
   split at h
   ·rename_i e
    refine op (t :: use s o.bT) (fun u hu => by simp [hu]) (fun az ah dA hw => ?_) h
    have : az t = s t := ah t (by simp)
    unfold ly
    rw [cg]
    simp only [this, ad, if_pos e]
    exact hw
   ·rename_i e
    refine skip t (fun az ah dA aD => ?_) h
    have : az t = s t := ah t (by simp)
    unfold ly
    rw [cg]
    simp only [this, ad, if_neg e]
    exact aD
  ·rename_i ad
   refine skip t (fun az ah dA aD => ?_) h
   have : az t = s t := ah t (by simp)
   unfold ly
   rw [cg]
   simp only [this, ad]
   exact aD
  ·exact h.elim
def qY (C : cw) (ros : List cO) : ax → List (Nat × fF × List gV) → Prop
 | _, [] => True
 | s, e :: r => (∃ o, ros[e.1]? = some o ∧ Au C o s e.2.1 e.2.2) ∧ qY C ros (dC e.2.2 s) r
def oy (s : ax) (r : List (Nat × fF × List gV)) : ax := r.foldl (fun s e => dC e.2.2 s) s
def nB (a b : List Nat) : Bool := a.all fun x => !b.contains x
theorem uz {a b : List Nat} (h : nB a b = true) : ∀ x ∈ a, x ∉ b := by
 intro x aq
 simp only [nB, List.all_eq_true] at h
 simpa using h x aq
def sv (a b : fF) : Bool := nB b.T a.bV && nB b.T a.H && nB b.T a.T && nB a.T b.bV && nB a.T b.H && b.c
theorem SI {ros : List cO} {s : ax} {a b : Nat × fF × List gV} {r : List (Nat × fF × List gV)} (h : qY C ros s (a :: b :: r)) (ao : sv a.2.1 b.2.1 = true) :
  qY C ros s (b :: a :: r) ∧ oy s (b :: a :: r) = oy s (a :: b :: r) := by
 obtain ⟨⟨SJ, cz, U, bq, a3, a4⟩, ⟨SK, ad, lR, i_, mh, bz⟩, bb⟩ := h
 simp only [sv, Bool.and_eq_true] at ao
 obtain ⟨⟨⟨⟨⟨n4, l_⟩, DS⟩, SL⟩, DT⟩, DU⟩ := ao
 have Fy : ∀ u ∈ b.2.1.bV, dC a.2.2 s u = s u := by
  intro u hu
  refine Sq _ _ _ (fun m hm e => ?_) (bz DU u hu)
  exact uz SL m.x (bq m hm).1 (e ▸ hu)
 have Fz : ∀ u ∈ a.2.1.bV, dC b.2.2 s u = s u := by
  intro u hu
  refine Sr _ _ _ fun m hm => ⟨fun e => ?_, fun aq => ?_⟩
  ·exact uz n4 m.x (i_ m hm).1 (e ▸ hu)
  ·exact uz l_ m.x (i_ m hm).1 (a3 u hu _ aq)
 have JZ : dC b.2.2 (dC a.2.2 s) = dC a.2.2 (dC b.2.2 s) := by
  refine St _ _ _ fun m hm n bl => ⟨fun e => ?_, fun h => ?_, fun h => ?_⟩
  ·exact uz DS n.x (i_ n bl).1 (e ▸ (bq m hm).1)
  ·exact uz l_ n.x (i_ n bl).1 ((bq m hm).2 _ h)
  ·exact uz DT m.x (bq m hm).1 ((i_ n bl).2 _ h)
 refine ⟨⟨⟨SK, ad, ?_, i_, ?_, ?_⟩, ⟨SJ, cz, ?_, bq, ?_, ?_⟩, ?_⟩, ?_⟩
 ·intro az ah K aD
  exact lR az (fun u hu => (ah u hu).trans (Fy u hu).symm) K aD
 ·intro u hu x aq
  exact mh u hu x (by rw [Fy u hu]; exact aq)
 ·intro ay u hu
  have := bz ay u hu
  rwa [Fy u hu] at this
 ·intro az ah K aD
  exact U az (fun u hu => (ah u hu).trans (Fz u hu)) K aD
 ·intro u hu x aq
  rw [Fz u hu] at aq
  exact a3 u hu x aq
 ·intro ay u hu
  rw [Fz u hu]
  exact a4 ay u hu
 ·rw [← JZ]; exact bb
 ·simp only [oy, List.foldl_cons]
  rw [JZ]
theorem SM {ros : List cO} {e : Nat × fF × List gV} {post : List (Nat × fF × List gV)} : ∀ (pre : List (Nat × fF × List gV)) (s : ax), qY C ros s (pre ++ e :: post) → (∀ a ∈ pre, sv a.2.1 e.2.1 = true) →
  qY C ros s (e :: (pre ++ post)) ∧ oy s (e :: (pre ++ post)) = oy s (pre ++ e :: post) := by
 intro pre
 induction pre with
 | nil => intro s h _; exact ⟨h, rfl⟩
 | cons a pre ih =>
   intro s h ao
   obtain ⟨af, ai⟩ := h
   obtain ⟨bo, bR⟩ := ih _ ai fun b ad => ao b (by simp [ad])
   have ay : qY C ros s (a :: e :: (pre ++ post)) := ⟨af, bo⟩
   obtain ⟨cf, cB⟩ := SI ay (ao a (by simp))
   refine ⟨cf, cB.trans ?_⟩
   simp only [oy, List.foldl_cons, List.cons_append] at bR ⊢
   exact bR
end
def xt : List (List Nat) → List (List Nat) → List (List Nat)
 | done, [] => done
 | done, a :: r => xt (done ++ [a ++ a.flatMap fun e => (done[e]?).getD []]) r
def uA (hd : List (List Nat)) : List (List Nat) := xt [] hd
theorem SN {hd : List (List Nat)} {l : List Nat} (hl : ∀ u i v, l = u ++ i :: v → ∀ e ∈ (hd[i]?).getD [], e ∈ u) : ∀ (rest pre done : List (List Nat)), hd = pre ++ rest → done.length = pre.length →
  (∀ u i v, l = u ++ i :: v → ∀ e ∈ (done[i]?).getD [], e ∈ u) → ∀ u i v, l = u ++ i :: v → ∀ e ∈ ((xt done rest)[i]?).getD [], e ∈ u := by
 intro rest
 induction rest with
 | nil => intro pre done _ _ h; exact h
 | cons a rest ih =>
   intro pre done J0 hlen h
   simp only [xt]
   refine ih (pre ++ [a]) _ (by simp [J0]) (by simp [hlen]) ?_
   intro u i v hu e he
   by_cases ao : i < done.length
   ·rw [List.getElem?_append_left ao] at he
    exact h u i v hu e he
   ·rw [List.getElem?_append_right (by omega)] at he
    by_cases sc : i - done.length = 0
    ·rw [sc] at he
     simp only [List.getElem?_cons_zero, Option.getD_some, List.mem_append, List.mem_flatMap] at he
     have Aw : (hd[i]?).getD [] = a := by
      have : i = pre.length := by omega
      rw [J0, this, List.getElem?_append_right (Nat.le_refl _)]; simp
     rcases he with he | ⟨fv, mY, he⟩
     ·exact hl u i v hu e (by rw [Aw]; exact he)
     ·have w6 := hl u i v hu fv (by rw [Aw]; exact mY)
      obtain ⟨z8, z_, rfl⟩ := List.append_of_mem w6
      have := h z8 fv (z_ ++ i :: v) (by rw [hu]; simp) e he
      simp [this]
    ·rw [List.getElem?_eq_none (by simp; omega)] at he
     simp at he
theorem SO {hd : List (List Nat)} {l : List Nat} (hl : ∀ u i v, l = u ++ i :: v → ∀ e ∈ (hd[i]?).getD [], e ∈ u) : ∀ u i v, l = u ++ i :: v → ∀ e ∈ ((uA hd)[i]?).getD [], e ∈ u :=
 SN hl hd [] [] rfl rfl fun u i v _ e he => by simp at he
def mr (mu : List (List Nat)) : Nat → List (Nat × fF) → List fF → Bool
 | _, _, [] => true
 | j, es, f :: aC => (es.all fun e => ((mu[j]?).getD []).contains e.1 || sv e.2 f) && mr mu (j + 1) ((j, f) :: es) aC
def FA (mu : List (List Nat)) (a b : Nat × fF × List gV) : Prop := a.1 ∈ (mu[b.1]?).getD [] ∨ sv a.2.1 b.2.1 = true
theorem SP {mu : List (List Nat)} : ∀ (hn : List (Nat × fF × List gV)) (j : Nat) (es : List (Nat × fF)), hn.map (·.1) = (List.range hn.length).map (· + j) → mr mu j es (hn.map (·.2.1)) = true →
  hn.Pairwise (FA mu) ∧ ∀ e ∈ es, ∀ b ∈ hn, e.1 ∈ (mu[b.1]?).getD [] ∨ sv e.2 b.2.1 = true := by
 intro hn
 induction hn with
 | nil => intro j es _ _; exact ⟨.nil, fun e _ b ad => by cases ad⟩
 | cons a hn ih =>
   intro j es sw gJ
   rw [List.length_cons, List.range_succ_eq_map, List.map_cons, List.map_cons, List.map_map] at sw
   simp only [List.cons.injEq, Nat.zero_add] at sw
   obtain ⟨b_, sw⟩ := sw
   simp only [List.map_cons, mr, Bool.and_eq_true, List.all_eq_true, Bool.or_eq_true] at gJ
   obtain ⟨af, ai⟩ := gJ
   obtain ⟨bo, bR⟩ := ih (j + 1) _ (by rw [sw]; congr 1; funext x; simp; omega) ai
   refine ⟨.cons (fun b ad => ?_) bo, fun e he b ad => ?_⟩
   ·have := bR (j, a.2.1) (by simp) b ad
    simp only [FA, b_]; exact this
   ·rcases List.mem_cons.1 ad with rfl | ad
    ·rw [b_]
     exact (af e he).imp (fun h => by simpa using h) id
    ·exact bR e (by simp [he]) b ad
section
variable {C : cw}
theorem SQ {K : Option (List fF) → ax → Prop} : ∀ (os pre : List cO) (s : ax) (acc : List fF), cE C s os (some acc) K →
  ∃ hn, qY C (pre ++ os) s hn ∧ hn.map (·.1) = (List.range os.length).map (· + pre.length) ∧ K (some ((hn.map (·.2.1)).reverse ++ acc)) (oy s hn) := by
 intro os
 induction os with
 | nil => intro pre s acc h; exact ⟨[], trivial, rfl, h⟩
 | cons o os ih =>
   intro pre s acc h
   obtain ⟨kl, ms, af, ai⟩ := SH h
   obtain ⟨hn, bo, bR, cJ⟩ := ih (pre ++ [o]) _ (kl :: acc) af
   refine ⟨(pre.length, kl, ms) :: hn, ⟨⟨o, ?_, ai⟩, ?_⟩, ?_, ?_⟩
   ·rw [List.getElem?_append_right (Nat.le_refl _)]; simp
   ·simpa using bo
   ·rw [List.length_cons, List.range_succ_eq_map, List.map_cons, List.map_cons, List.map_map, bR]
    simp only [List.cons.injEq, Nat.zero_add, true_and]
    congr 1; funext x; simp; omega
   ·simpa [oy] using cJ
theorem SR {ros : List cO} {mu : List (List Nat)} {K : ax → Prop} : ∀ (l : List Nat) (hn : List (Nat × fF × List gV)) (s : ax), qY C ros s hn → hn.Pairwise (FA mu) → l.Nodup → (hn.map (·.1)).Nodup →
  (∀ i, i ∈ l ↔ i ∈ hn.map (·.1)) → (∀ u i v, l = u ++ i :: v → ∀ e ∈ (mu[i]?).getD [], e ∈ hn.map (·.1) → e ∈ u) → K (oy s hn) → jM C ros s l K := by
 intro l
 induction l with
 | nil =>
   intro hn s _ _ _ _ hm _ aD
   cases hn with
   | nil => exact aD
   | cons e hn => have := (hm e.1).2 (by simp); cases this
 | cons i l ih =>
   intro hn s ay aA bl wV hm cl aD
   obtain ⟨e, he, ao⟩ := List.mem_map.1 ((hm i).1 (by simp))
   obtain ⟨pre, post, rfl⟩ := List.append_of_mem he
   have SS : ∀ a ∈ pre, sv a.2.1 e.2.1 = true := by
    intro a cz
    have bb := (List.pairwise_append.1 aA).2.2 a cz e (by simp)
    rcases bb with bb | bb
    ·rw [ao] at bb
     have := cl [] i l rfl a.1 bb (by simp only [List.map_append, List.mem_append, List.mem_map]; exact .inl ⟨a, cz, rfl⟩)
     cases this
    ·exact bb
   obtain ⟨bo, bR⟩ := SM pre s ay SS
   obtain ⟨⟨o, SU, Ax⟩, cJ⟩ := bo
   have J1 : i ∉ (pre ++ post).map (·.1) := by
    have : (pre.map (·.1) ++ e.1 :: post.map (·.1)).Nodup := by simpa using wV
    have bM := (List.perm_middle.nodup_iff.1 this)
    rw [List.nodup_cons] at bM
    rw [← ao]; simpa using bM.1
   simp only [jM]
   rw [← ao, SU]
   refine Ax.1 s (fun _ _ => rfl) _ ?_
   rw [List.nodup_cons] at bl
   refine ih (pre ++ post) _ cJ ?_ bl.2 ?_ ?_ ?_ ?_
   ·exact aA.sublist ((List.Sublist.refl pre).append (List.sublist_cons_self e post))
   ·have : (pre.map (·.1) ++ e.1 :: post.map (·.1)).Nodup := by simpa using wV
    have bM := (List.perm_middle.nodup_iff.1 this)
    rw [List.nodup_cons] at bM
    simpa using bM.2
   ·intro j
    constructor
    ·intro b_
     have af := (hm j).1 (by simp [b_])
     simp only [List.map_append, List.map_cons, List.mem_append, List.mem_cons] at af ⊢
     rcases af with af | rfl | af
     ·exact .inl af
     ·exact (bl.1 (ao ▸ b_)).elim
     ·exact .inr af
    ·intro b_
     have af := (hm j).2 (by
      simp only [List.map_append, List.map_cons, List.mem_append, List.mem_cons] at b_ ⊢
      exact b_.imp id .inr)
     rcases List.mem_cons.1 af with rfl | af
     ·exact (J1 b_).elim
     ·exact af
   ·intro u j v hu x aq FB
    have af := cl (i :: u) j v (by rw [hu]; rfl) x aq (by
     simp only [List.map_append, List.map_cons, List.mem_append, List.mem_cons] at FB ⊢
     exact FB.imp id .inr)
    rcases List.mem_cons.1 af with rfl | af
    ·exact (J1 FB).elim
    ·exact af
   ·have : oy s (e :: (pre ++ post)) = oy (dC e.2.2 s) (pre ++ post) := rfl
    rw [← this, bR]; exact aD
theorem SV {ros : List cO} {hd : List (List Nat)} {s : ax} {K : ax → Prop} (hlen : hd.length = ros.length)
  (h : cE C s ros (some []) (fun acc s => mr (uA hd) 0 [] (acc.getD []).reverse = true ∧ K s)) : ∀ l, E_ hd l → jM C ros s l K := by
 intro l ⟨hS, l2, w9⟩
 obtain ⟨hn, bo, bR, cJ, eE⟩ := SQ ros [] s [] h
 simp only [List.nil_append, List.append_nil, List.length_nil, Option.getD_some, List.reverse_reverse] at bo bR cJ
 have hl : hn.length = ros.length := by have := congrArg List.length bR; simpa using this
 have sw : hn.map (·.1) = (List.range hn.length).map (· + 0) := by rw [bR, hl]
 have bb : hn.map (·.1) = List.range ros.length := by rw [bR]; simp
 obtain ⟨gT, _⟩ := SP hn 0 [] sw cJ
 refine SR l hn s bo gT hS (by rw [bb]; exact List.nodup_range) (fun i => ?_) (fun u i v hu e he _ => SO w9 u i v hu e he) eE
 rw [bb, l2, hlen, List.mem_range]
end
def dY (C : cw) (dst : Option Nat) (os : List cO) (K : Option (List fF) → ax → Prop) : Option (I × ax) → Prop
 | some (av, s1) => cE C (fin s1 dst av) os none K
 | none => False
def eb (C : cw) (l : List (Nat × I)) (bV c2 : List Nat) (dst : Option Nat) (os : List cO) (a : List fF) (K : Option (List fF) → ax → Prop) : Option (I × ax) → Prop
 | some (av, s1) => cE C (fin s1 dst av) os (some (iQ (aa l) bV dst c2 av :: a)) K
 | none => False
def cL (C : cw) (l : List (Nat × I)) (dst : Option Nat) (bT : gj) (t : Nat) (b : Bool) (os : List cO) (acc : Option (List fF)) (K : Option (List fF) → ax → Prop) : I → Prop
 | .bool fV => if fV = b then nL C (aa l) bT (fun c2 av s1 => cE C (fin s1 dst av) os (pj acc (iQ (aa l) (t :: use (aa l) bT) dst c2 av)) K) else cE C (fin (aa l) dst (.tuple [])) os (pj acc (iQ (aa l) [t] dst [] (.tuple []))) K
 | .tuple [] => cE C (fin (aa l) dst (.tuple [])) os (pj acc (iQ (aa l) [t] dst [] (.tuple []))) K
 | _ => False
section
variable {C : cw} {l : List (Nat × I)} {os : List cO} {K : Option (List fF) → ax → Prop} {dst : Option Nat} {a : List fF} {acc : Option (List fF)}
theorem Ay {s : ax} {bT : gj} {K : List Nat → I → ax → Prop} (bl : bT.ss = false) : nL C s bT K = (match b6 C s bT with
  | some (av, s1) => K (dF s bT) av s1
  | none => False) := by
 apply propext
 constructor
 ·intro h
  cases bT <;> first
   | (simp [gj.ss] at bl; done)
   | (obtain ⟨av, s1, af, ai⟩ := h; rw [af]; exact ai)
 ·intro h
  split at h
  ·rename_i av s1 he
   cases bT <;> first
    | (simp [gj.ss] at bl; done)
    | exact ⟨av, s1, he, h⟩
  ·exact h.elim
theorem J2 : cE C (aa l) [] acc K = K acc (aa l) := rfl
theorem jr {bT : gj} (bl : bT.ss = false) : cE C (aa l) (⟨dst, bT, none⟩ :: os) none K = dY C dst os K (b6 C (aa l) bT) := by
 simp only [cE, mZ, pj]
 rw [Ay bl]
 cases b6 C (aa l) bT with
 | none => rfl
 | some p => rfl
theorem jE {bT : gj} (bl : bT.ss = false) : cE C (aa l) (⟨dst, bT, none⟩ :: os) (some a) K = eb C l (use (aa l) bT) (dF (aa l) bT) dst os a K (b6 C (aa l) bT) := by
 simp only [cE, mZ, pj]
 rw [Ay bl]
 cases b6 C (aa l) bT with
 | none => rfl
 | some p => rfl
theorem J3 {bT : gj} {t : Nat} {b : Bool} : cE C (aa l) (⟨dst, bT, some (t, b)⟩ :: os) acc K = cL C l dst bT t b os acc K (aa l t) := by
 simp only [cE, mZ]
 generalize aa l t = v
 cases v <;> first | rfl | (rename_i vs; cases vs <;> rfl)
theorem fO {bT : gj} {t : Nat} {b : Bool} (bl : bT.ss = false) : cL C l dst bT t b os none K (.bool b) = dY C dst os K (b6 C (aa l) bT) := by
 simp only [cL, if_true]
 rw [Ay bl]
 cases b6 C (aa l) bT with
 | none => rfl
 | some p => rfl
theorem fP {bT : gj} {t : Nat} {b : Bool} (bl : bT.ss = false) : cL C l dst bT t b os (some a) K (.bool b) = eb C l (t :: use (aa l) bT) (dF (aa l) bT) dst os a K (b6 C (aa l) bT) := by
 simp only [cL, if_true]
 rw [Ay bl]
 cases b6 C (aa l) bT with
 | none => rfl
 | some p => rfl
theorem SW {bT : gj} {t : Nat} : cL C l dst bT t true os none K (.bool false) = cE C (fin (aa l) dst (.tuple [])) os none K ∧ cL C l dst bT t false os none K (.bool true) = cE C (fin (aa l) dst (.tuple [])) os none K ∧
  (∀ b, cL C l dst bT t b os none K (.tuple []) = cE C (fin (aa l) dst (.tuple [])) os none K) := ⟨rfl, rfl, fun _ => rfl⟩
theorem SX {bT : gj} {t : Nat} : cL C l dst bT t true os (some a) K (.bool false) = cE C (fin (aa l) dst (.tuple [])) os (some (iQ (aa l) [t] dst [] (.tuple []) :: a)) K ∧
  cL C l dst bT t false os (some a) K (.bool true) = cE C (fin (aa l) dst (.tuple [])) os (some (iQ (aa l) [t] dst [] (.tuple []) :: a)) K ∧
  (∀ b, cL C l dst bT t b os (some a) K (.tuple []) = cE C (fin (aa l) dst (.tuple [])) os (some (iQ (aa l) [t] dst [] (.tuple []) :: a)) K) := ⟨rfl, rfl, fun _ => rfl⟩
theorem SY (av : I) (s1 : ax) : dY C dst os K (some (av, s1)) = cE C (fin s1 dst av) os none K := rfl
theorem SZ (bV c2 : List Nat) (av : I) (s1 : ax) : eb C l bV c2 dst os a K (some (av, s1)) = cE C (fin s1 dst av) os (some (iQ (aa l) bV dst c2 av :: a)) K := rfl
def jd (s : ax) : I → Option (I × ax)
 | .h y q => c2 s (.h y q)
 | d => some (d, s)
def qZ (s : ax) : I → I → I → Option (I × ax)
 | .bool fV, x, y => some (if fV then x else y, s)
 | _, _, _ => none
def dg (s : ax) : Option I → Option (I × ax)
 | some d => some (d, s)
 | none => none
def el : Option ax → Option (I × ax)
 | some s1 => some (.hole, s1)
 | none => none
def h1 (s : ax) : List aH → List I
 | [] => []
 | x :: xs => aV s x :: h1 s xs
def j8 (s : ax) : List (Nat × aH) → List (Nat × I)
 | [] => []
 | (k, x) :: xs => (k, aV s x) :: j8 s xs
def ld (s : ax) : Option aH → Option I
 | none => none
 | some x => some (aV s x)
theorem nM (s : ax) (x : Option I) : (x.map fun d => (d, s)) = dg s x := by cases x <;> rfl
theorem S0 (x : Option ax) : (x.map fun s1 => (I.hole, s1)) = el x := by cases x <;> rfl
theorem uB (s : ax) : ∀ xs : List aH, xs.map (aV s) = h1 s xs
 | [] => rfl
 | x :: xs => by simp only [List.map_cons, h1, uB s xs]
theorem FC (s : ax) : ∀ xs : List (Nat × aH), (xs.map fun p => (p.1, aV s p.2)) = j8 s xs
 | [] => rfl
 | (k, x) :: xs => by simp only [List.map_cons, j8, FC s xs]
theorem S1 (s : ax) (x : Option aH) : x.map (aV s) = ld s x := by cases x <;> rfl
theorem uC (x : aH) : b6 C (aa l) (.ab x) = some (aV (aa l) x, aa l) := by
 rfl
theorem uD (x : aH) : b6 C (aa l) (.ae x) = jd (aa l) (aV (aa l) x) := by
 simp only [b6]; cases aV (aa l) x <;> rfl
theorem uE (c x y : aH) : b6 C (aa l) (.pick c x y) = qZ (aa l) (aV (aa l) c) (aV (aa l) x) (aV (aa l) y) := by
 simp only [b6]; cases aV (aa l) c <;> first | rfl | (rename_i b; cases b <;> rfl)
theorem uF (T : TypeId) : b6 C (aa l) (.eA T) = dg (aa l) (eA C T) := by
 simp only [b6, nM]
theorem uG (T : TypeId) (x : aH) : b6 C (aa l) (.dd T x) = dd (aa l) (aV (aa l) x) := by
 rfl
theorem uH (T : TypeId) (ps : List (Nat × aH)) : b6 C (aa l) (.fX T ps) = fX C (aa l) T (j8 (aa l) ps) := by
 simp only [b6, FC]
theorem uI (T : TypeId) (n : Nat) (ps : List (Nat × aH)) : b6 C (aa l) (.dJ T n ps) = dJ C (aa l) T n (j8 (aa l) ps) := by
 simp only [b6, FC]
theorem uJ (T : TypeId) (x : aH) : b6 C (aa l) (.aE T x) = dg (aa l) (aE C (aa l) T (aV (aa l) x)) := by
 simp only [b6, nM]
theorem uK (T : TypeId) (x y : aH) : b6 C (aa l) (.cK T x y) = el (cK C (aa l) T (aV (aa l) x) (aV (aa l) y)) := by
 simp only [b6, S0]
theorem uL (x : aH) : b6 C (aa l) (.dT x) = dg (aa l) (dT (aa l) (aV (aa l) x)) := by
 simp only [b6, nM]
theorem uM (op : BinOp) (T : TypeId) (x y : aH) : b6 C (aa l) (.aw op T x y) = dg (aa l) (aw C (aa l) op T (aV (aa l) x) (aV (aa l) y)) := by
 simp only [b6, nM]
theorem uN (op : UnOp) (x : aH) : b6 C (aa l) (.un op x) = dg (aa l) (un op (aV (aa l) x)) := by
 simp only [b6, nM]
theorem uO (A B : TypeId) (x : aH) : b6 C (aa l) (.fW A B x) = dg (aa l) (fW C (aa l) A B (aV (aa l) x)) := by
 simp only [b6, nM]
theorem uP (f : FuncId) (cs : List aH) : b6 C (aa l) (.ie f cs) = some (.fn f (h1 (aa l) cs), aa l) := by
 simp only [b6, uB]
theorem uQ (T : TypeId) (x y : aH) : b6 C (aa l) (.eX T x y) = dg (aa l) (eX C T (aV (aa l) x) (aV (aa l) y)) := by
 simp only [b6, nM]
theorem uR (T : TypeId) (x : aH) (dn ao : Option aH) : b6 C (aa l) (.fw T x dn ao) = fw C (aa l) T (aV (aa l) x) (ld (aa l) dn) (ld (aa l) ao) := by
 simp only [b6, S1]
theorem uS (T : TypeId) (x : aH) (k : Nat) : b6 C (aa l) (.aW T x k) = dg (aa l) (aW C (aa l) T (aV (aa l) x) k) := by
 simp only [b6, nM]
theorem uT (T : TypeId) (x y : aH) : b6 C (aa l) (.bP T x y) = dg (aa l) (bP C (aa l) T (aV (aa l) x) (aV (aa l) y)) := by
 simp only [b6, nM]
theorem uU (T : TypeId) (x y : aH) : b6 C (aa l) (.idx T x y) = dg (aa l) (idx C T (aV (aa l) x) (aV (aa l) y)) := by
 simp only [b6, nM]
theorem uV (x : aH) (k : Nat) : b6 C (aa l) (.ex x k) = dg (aa l) (ex (aa l) (aV (aa l) x) k) := by
 simp only [b6, nM]
theorem uW (T : TypeId) (x : aH) : b6 C (aa l) (.len T x) = dg (aa l) (lN C (aa l) T (aV (aa l) x)) := by
 simp only [b6, nM]
theorem uX (T bV : TypeId) (x y : aH) : b6 C (aa l) (.app T bV x y) = lQ C (aa l) T bV (aV (aa l) x) (aV (aa l) y) := by
 rfl
theorem S2 :
  (∀ (x : aH) , cE C (aa l) (⟨dst, .ab x, none⟩ :: os) none K = dY C dst os K (some (aV (aa l) x, aa l))) ∧
  (∀ (x : aH) , cE C (aa l) (⟨dst, .ae x, none⟩ :: os) none K = dY C dst os K (jd (aa l) (aV (aa l) x))) ∧
  (∀ (c x y : aH) , cE C (aa l) (⟨dst, .pick c x y, none⟩ :: os) none K = dY C dst os K (qZ (aa l) (aV (aa l) c) (aV (aa l) x) (aV (aa l) y))) ∧
  (∀ (T : TypeId) , cE C (aa l) (⟨dst, .eA T, none⟩ :: os) none K = dY C dst os K (dg (aa l) (eA C T))) ∧
  (∀ (T : TypeId) (x : aH) , cE C (aa l) (⟨dst, .dd T x, none⟩ :: os) none K = dY C dst os K (dd (aa l) (aV (aa l) x))) ∧
  (∀ (T : TypeId) (ps : List (Nat × aH)) , cE C (aa l) (⟨dst, .fX T ps, none⟩ :: os) none K = dY C dst os K (fX C (aa l) T (j8 (aa l) ps))) ∧
  (∀ (T : TypeId) (n : Nat) (ps : List (Nat × aH)) , cE C (aa l) (⟨dst, .dJ T n ps, none⟩ :: os) none K = dY C dst os K (dJ C (aa l) T n (j8 (aa l) ps))) ∧
  (∀ (T : TypeId) (x : aH) , cE C (aa l) (⟨dst, .aE T x, none⟩ :: os) none K = dY C dst os K (dg (aa l) (aE C (aa l) T (aV (aa l) x)))) ∧
  (∀ (T : TypeId) (x y : aH) , cE C (aa l) (⟨dst, .cK T x y, none⟩ :: os) none K = dY C dst os K (el (cK C (aa l) T (aV (aa l) x) (aV (aa l) y)))) ∧
  (∀ (x : aH) , cE C (aa l) (⟨dst, .dT x, none⟩ :: os) none K = dY C dst os K (dg (aa l) (dT (aa l) (aV (aa l) x)))) ∧
  (∀ (op : BinOp) (T : TypeId) (x y : aH) , cE C (aa l) (⟨dst, .aw op T x y, none⟩ :: os) none K = dY C dst os K (dg (aa l) (aw C (aa l) op T (aV (aa l) x) (aV (aa l) y)))) ∧
  (∀ (op : UnOp) (x : aH) , cE C (aa l) (⟨dst, .un op x, none⟩ :: os) none K = dY C dst os K (dg (aa l) (un op (aV (aa l) x)))) ∧
  (∀ (A B : TypeId) (x : aH) , cE C (aa l) (⟨dst, .fW A B x, none⟩ :: os) none K = dY C dst os K (dg (aa l) (fW C (aa l) A B (aV (aa l) x)))) ∧
  (∀ (f : FuncId) (cs : List aH) , cE C (aa l) (⟨dst, .ie f cs, none⟩ :: os) none K = dY C dst os K (some (.fn f (h1 (aa l) cs), aa l))) ∧
  (∀ (T : TypeId) (x y : aH) , cE C (aa l) (⟨dst, .eX T x y, none⟩ :: os) none K = dY C dst os K (dg (aa l) (eX C T (aV (aa l) x) (aV (aa l) y)))) ∧
  (∀ (T : TypeId) (x : aH) (dn ao : Option aH) , cE C (aa l) (⟨dst, .fw T x dn ao, none⟩ :: os) none K = dY C dst os K (fw C (aa l) T (aV (aa l) x) (ld (aa l) dn) (ld (aa l) ao))) ∧
  (∀ (T : TypeId) (x : aH) (k : Nat) , cE C (aa l) (⟨dst, .aW T x k, none⟩ :: os) none K = dY C dst os K (dg (aa l) (aW C (aa l) T (aV (aa l) x) k))) ∧
  (∀ (T : TypeId) (x y : aH) , cE C (aa l) (⟨dst, .bP T x y, none⟩ :: os) none K = dY C dst os K (dg (aa l) (bP C (aa l) T (aV (aa l) x) (aV (aa l) y)))) ∧
  (∀ (T : TypeId) (x y : aH) , cE C (aa l) (⟨dst, .idx T x y, none⟩ :: os) none K = dY C dst os K (dg (aa l) (idx C T (aV (aa l) x) (aV (aa l) y)))) ∧
  (∀ (x : aH) (k : Nat) , cE C (aa l) (⟨dst, .ex x k, none⟩ :: os) none K = dY C dst os K (dg (aa l) (ex (aa l) (aV (aa l) x) k))) ∧
  (∀ (T : TypeId) (x : aH) , cE C (aa l) (⟨dst, .len T x, none⟩ :: os) none K = dY C dst os K (dg (aa l) (lN C (aa l) T (aV (aa l) x)))) ∧
  (∀ (T bV : TypeId) (x y : aH) , cE C (aa l) (⟨dst, .app T bV x y, none⟩ :: os) none K = dY C dst os K (lQ C (aa l) T bV (aV (aa l) x) (aV (aa l) y))) :=
 ⟨fun x => (jr rfl).trans (congrArg _ (uC x)), fun x => (jr rfl).trans (congrArg _ (uD x)), fun c x y => (jr rfl).trans (congrArg _ (uE c x y)), fun T => (jr rfl).trans (congrArg _ (uF T)), fun T x => (jr rfl).trans (congrArg _ (uG T x)), fun T ps => (jr rfl).trans (congrArg _ (uH T ps)), fun T n ps => (jr rfl).trans (congrArg _ (uI T n ps)), fun T x => (jr rfl).trans (congrArg _ (uJ T x)), fun T x y => (jr rfl).trans (congrArg _ (uK T x y)), fun x => (jr rfl).trans (congrArg _ (uL x)), fun op T x y => (jr rfl).trans (congrArg _ (uM op T x y)), fun op x => (jr rfl).trans (congrArg _ (uN op x)), fun A B x => (jr rfl).trans (congrArg _ (uO A B x)), fun f cs => (jr rfl).trans (congrArg _ (uP f cs)), fun T x y => (jr rfl).trans (congrArg _ (uQ T x y)), fun T x dn ao => (jr rfl).trans (congrArg _ (uR T x dn ao)), fun T x k => (jr rfl).trans (congrArg _ (uS T x k)), fun T x y => (jr rfl).trans (congrArg _ (uT T x y)), fun T x y => (jr rfl).trans (congrArg _ (uU T x y)), fun x k => (jr rfl).trans (congrArg _ (uV x k)), fun T x => (jr rfl).trans (congrArg _ (uW T x)), fun T bV x y => (jr rfl).trans (congrArg _ (uX T bV x y))⟩
theorem S3 :
  (∀ (x : aH) , cE C (aa l) (⟨dst, .ab x, none⟩ :: os) (some a) K = eb C l (use (aa l) (.ab x)) (dF (aa l) (.ab x)) dst os a K (some (aV (aa l) x, aa l))) ∧
  (∀ (x : aH) , cE C (aa l) (⟨dst, .ae x, none⟩ :: os) (some a) K = eb C l (use (aa l) (.ae x)) (dF (aa l) (.ae x)) dst os a K (jd (aa l) (aV (aa l) x))) ∧
  (∀ (c x y : aH) , cE C (aa l) (⟨dst, .pick c x y, none⟩ :: os) (some a) K = eb C l (use (aa l) (.pick c x y)) (dF (aa l) (.pick c x y)) dst os a K (qZ (aa l) (aV (aa l) c) (aV (aa l) x) (aV (aa l) y))) ∧
  (∀ (T : TypeId) , cE C (aa l) (⟨dst, .eA T, none⟩ :: os) (some a) K = eb C l (use (aa l) (.eA T)) (dF (aa l) (.eA T)) dst os a K (dg (aa l) (eA C T))) ∧
  (∀ (T : TypeId) (x : aH) , cE C (aa l) (⟨dst, .dd T x, none⟩ :: os) (some a) K = eb C l (use (aa l) (.dd T x)) (dF (aa l) (.dd T x)) dst os a K (dd (aa l) (aV (aa l) x))) ∧
  (∀ (T : TypeId) (ps : List (Nat × aH)) , cE C (aa l) (⟨dst, .fX T ps, none⟩ :: os) (some a) K = eb C l (use (aa l) (.fX T ps)) (dF (aa l) (.fX T ps)) dst os a K (fX C (aa l) T (j8 (aa l) ps))) ∧
  (∀ (T : TypeId) (n : Nat) (ps : List (Nat × aH)) , cE C (aa l) (⟨dst, .dJ T n ps, none⟩ :: os) (some a) K = eb C l (use (aa l) (.dJ T n ps)) (dF (aa l) (.dJ T n ps)) dst os a K (dJ C (aa l) T n (j8 (aa l) ps))) ∧
  (∀ (T : TypeId) (x : aH) , cE C (aa l) (⟨dst, .aE T x, none⟩ :: os) (some a) K = eb C l (use (aa l) (.aE T x)) (dF (aa l) (.aE T x)) dst os a K (dg (aa l) (aE C (aa l) T (aV (aa l) x)))) ∧
  (∀ (T : TypeId) (x y : aH) , cE C (aa l) (⟨dst, .cK T x y, none⟩ :: os) (some a) K = eb C l (use (aa l) (.cK T x y)) (dF (aa l) (.cK T x y)) dst os a K (el (cK C (aa l) T (aV (aa l) x) (aV (aa l) y)))) ∧
  (∀ (x : aH) , cE C (aa l) (⟨dst, .dT x, none⟩ :: os) (some a) K = eb C l (use (aa l) (.dT x)) (dF (aa l) (.dT x)) dst os a K (dg (aa l) (dT (aa l) (aV (aa l) x)))) ∧
  (∀ (op : BinOp) (T : TypeId) (x y : aH) , cE C (aa l) (⟨dst, .aw op T x y, none⟩ :: os) (some a) K = eb C l (use (aa l) (.aw op T x y)) (dF (aa l) (.aw op T x y)) dst os a K (dg (aa l) (aw C (aa l) op T (aV (aa l) x) (aV (aa l) y)))) ∧
  (∀ (op : UnOp) (x : aH) , cE C (aa l) (⟨dst, .un op x, none⟩ :: os) (some a) K = eb C l (use (aa l) (.un op x)) (dF (aa l) (.un op x)) dst os a K (dg (aa l) (un op (aV (aa l) x)))) ∧
  (∀ (A B : TypeId) (x : aH) , cE C (aa l) (⟨dst, .fW A B x, none⟩ :: os) (some a) K = eb C l (use (aa l) (.fW A B x)) (dF (aa l) (.fW A B x)) dst os a K (dg (aa l) (fW C (aa l) A B (aV (aa l) x)))) ∧
  (∀ (f : FuncId) (cs : List aH) , cE C (aa l) (⟨dst, .ie f cs, none⟩ :: os) (some a) K = eb C l (use (aa l) (.ie f cs)) (dF (aa l) (.ie f cs)) dst os a K (some (.fn f (h1 (aa l) cs), aa l))) ∧
  (∀ (T : TypeId) (x y : aH) , cE C (aa l) (⟨dst, .eX T x y, none⟩ :: os) (some a) K = eb C l (use (aa l) (.eX T x y)) (dF (aa l) (.eX T x y)) dst os a K (dg (aa l) (eX C T (aV (aa l) x) (aV (aa l) y)))) ∧
  (∀ (T : TypeId) (x : aH) (dn ao : Option aH) , cE C (aa l) (⟨dst, .fw T x dn ao, none⟩ :: os) (some a) K = eb C l (use (aa l) (.fw T x dn ao)) (dF (aa l) (.fw T x dn ao)) dst os a K (fw C (aa l) T (aV (aa l) x) (ld (aa l) dn) (ld (aa l) ao))) ∧
  (∀ (T : TypeId) (x : aH) (k : Nat) , cE C (aa l) (⟨dst, .aW T x k, none⟩ :: os) (some a) K = eb C l (use (aa l) (.aW T x k)) (dF (aa l) (.aW T x k)) dst os a K (dg (aa l) (aW C (aa l) T (aV (aa l) x) k))) ∧
  (∀ (T : TypeId) (x y : aH) , cE C (aa l) (⟨dst, .bP T x y, none⟩ :: os) (some a) K = eb C l (use (aa l) (.bP T x y)) (dF (aa l) (.bP T x y)) dst os a K (dg (aa l) (bP C (aa l) T (aV (aa l) x) (aV (aa l) y)))) ∧
  (∀ (T : TypeId) (x y : aH) , cE C (aa l) (⟨dst, .idx T x y, none⟩ :: os) (some a) K = eb C l (use (aa l) (.idx T x y)) (dF (aa l) (.idx T x y)) dst os a K (dg (aa l) (idx C T (aV (aa l) x) (aV (aa l) y)))) ∧
  (∀ (x : aH) (k : Nat) , cE C (aa l) (⟨dst, .ex x k, none⟩ :: os) (some a) K = eb C l (use (aa l) (.ex x k)) (dF (aa l) (.ex x k)) dst os a K (dg (aa l) (ex (aa l) (aV (aa l) x) k))) ∧
  (∀ (T : TypeId) (x : aH) , cE C (aa l) (⟨dst, .len T x, none⟩ :: os) (some a) K = eb C l (use (aa l) (.len T x)) (dF (aa l) (.len T x)) dst os a K (dg (aa l) (lN C (aa l) T (aV (aa l) x)))) ∧
  (∀ (T bV : TypeId) (x y : aH) , cE C (aa l) (⟨dst, .app T bV x y, none⟩ :: os) (some a) K = eb C l (use (aa l) (.app T bV x y)) (dF (aa l) (.app T bV x y)) dst os a K (lQ C (aa l) T bV (aV (aa l) x) (aV (aa l) y))) :=
 ⟨fun x => (jE rfl).trans (congrArg _ (uC x)), fun x => (jE rfl).trans (congrArg _ (uD x)), fun c x y => (jE rfl).trans (congrArg _ (uE c x y)), fun T => (jE rfl).trans (congrArg _ (uF T)), fun T x => (jE rfl).trans (congrArg _ (uG T x)), fun T ps => (jE rfl).trans (congrArg _ (uH T ps)), fun T n ps => (jE rfl).trans (congrArg _ (uI T n ps)), fun T x => (jE rfl).trans (congrArg _ (uJ T x)), fun T x y => (jE rfl).trans (congrArg _ (uK T x y)), fun x => (jE rfl).trans (congrArg _ (uL x)), fun op T x y => (jE rfl).trans (congrArg _ (uM op T x y)), fun op x => (jE rfl).trans (congrArg _ (uN op x)), fun A B x => (jE rfl).trans (congrArg _ (uO A B x)), fun f cs => (jE rfl).trans (congrArg _ (uP f cs)), fun T x y => (jE rfl).trans (congrArg _ (uQ T x y)), fun T x dn ao => (jE rfl).trans (congrArg _ (uR T x dn ao)), fun T x k => (jE rfl).trans (congrArg _ (uS T x k)), fun T x y => (jE rfl).trans (congrArg _ (uT T x y)), fun T x y => (jE rfl).trans (congrArg _ (uU T x y)), fun x k => (jE rfl).trans (congrArg _ (uV x k)), fun T x => (jE rfl).trans (congrArg _ (uW T x)), fun T bV x y => (jE rfl).trans (congrArg _ (uX T bV x y))⟩
theorem S4 :
  (∀ (x : aH) (t : Nat), cL C l dst (.ab x) t true os none K (.bool true) = dY C dst os K (some (aV (aa l) x, aa l))) ∧
  (∀ (x : aH) (t : Nat), cL C l dst (.ab x) t false os none K (.bool false) = dY C dst os K (some (aV (aa l) x, aa l))) ∧
  (∀ (x : aH) (t : Nat), cL C l dst (.ae x) t true os none K (.bool true) = dY C dst os K (jd (aa l) (aV (aa l) x))) ∧
  (∀ (x : aH) (t : Nat), cL C l dst (.ae x) t false os none K (.bool false) = dY C dst os K (jd (aa l) (aV (aa l) x))) ∧
  (∀ (c x y : aH) (t : Nat), cL C l dst (.pick c x y) t true os none K (.bool true) = dY C dst os K (qZ (aa l) (aV (aa l) c) (aV (aa l) x) (aV (aa l) y))) ∧
  (∀ (c x y : aH) (t : Nat), cL C l dst (.pick c x y) t false os none K (.bool false) = dY C dst os K (qZ (aa l) (aV (aa l) c) (aV (aa l) x) (aV (aa l) y))) ∧
  (∀ (T : TypeId) (t : Nat), cL C l dst (.eA T) t true os none K (.bool true) = dY C dst os K (dg (aa l) (eA C T))) ∧
  (∀ (T : TypeId) (t : Nat), cL C l dst (.eA T) t false os none K (.bool false) = dY C dst os K (dg (aa l) (eA C T))) ∧
  (∀ (T : TypeId) (x : aH) (t : Nat), cL C l dst (.dd T x) t true os none K (.bool true) = dY C dst os K (dd (aa l) (aV (aa l) x))) ∧
  (∀ (T : TypeId) (x : aH) (t : Nat), cL C l dst (.dd T x) t false os none K (.bool false) = dY C dst os K (dd (aa l) (aV (aa l) x))) ∧
  (∀ (T : TypeId) (ps : List (Nat × aH)) (t : Nat), cL C l dst (.fX T ps) t true os none K (.bool true) = dY C dst os K (fX C (aa l) T (j8 (aa l) ps))) ∧
  (∀ (T : TypeId) (ps : List (Nat × aH)) (t : Nat), cL C l dst (.fX T ps) t false os none K (.bool false) = dY C dst os K (fX C (aa l) T (j8 (aa l) ps))) ∧
  (∀ (T : TypeId) (n : Nat) (ps : List (Nat × aH)) (t : Nat), cL C l dst (.dJ T n ps) t true os none K (.bool true) = dY C dst os K (dJ C (aa l) T n (j8 (aa l) ps))) ∧
  (∀ (T : TypeId) (n : Nat) (ps : List (Nat × aH)) (t : Nat), cL C l dst (.dJ T n ps) t false os none K (.bool false) = dY C dst os K (dJ C (aa l) T n (j8 (aa l) ps))) ∧
  (∀ (T : TypeId) (x : aH) (t : Nat), cL C l dst (.aE T x) t true os none K (.bool true) = dY C dst os K (dg (aa l) (aE C (aa l) T (aV (aa l) x)))) ∧
  (∀ (T : TypeId) (x : aH) (t : Nat), cL C l dst (.aE T x) t false os none K (.bool false) = dY C dst os K (dg (aa l) (aE C (aa l) T (aV (aa l) x)))) ∧
  (∀ (T : TypeId) (x y : aH) (t : Nat), cL C l dst (.cK T x y) t true os none K (.bool true) = dY C dst os K (el (cK C (aa l) T (aV (aa l) x) (aV (aa l) y)))) ∧
  (∀ (T : TypeId) (x y : aH) (t : Nat), cL C l dst (.cK T x y) t false os none K (.bool false) = dY C dst os K (el (cK C (aa l) T (aV (aa l) x) (aV (aa l) y)))) ∧
  (∀ (x : aH) (t : Nat), cL C l dst (.dT x) t true os none K (.bool true) = dY C dst os K (dg (aa l) (dT (aa l) (aV (aa l) x)))) ∧
  (∀ (x : aH) (t : Nat), cL C l dst (.dT x) t false os none K (.bool false) = dY C dst os K (dg (aa l) (dT (aa l) (aV (aa l) x)))) ∧
  (∀ (op : BinOp) (T : TypeId) (x y : aH) (t : Nat), cL C l dst (.aw op T x y) t true os none K (.bool true) = dY C dst os K (dg (aa l) (aw C (aa l) op T (aV (aa l) x) (aV (aa l) y)))) ∧
  (∀ (op : BinOp) (T : TypeId) (x y : aH) (t : Nat), cL C l dst (.aw op T x y) t false os none K (.bool false) = dY C dst os K (dg (aa l) (aw C (aa l) op T (aV (aa l) x) (aV (aa l) y)))) ∧
  (∀ (op : UnOp) (x : aH) (t : Nat), cL C l dst (.un op x) t true os none K (.bool true) = dY C dst os K (dg (aa l) (un op (aV (aa l) x)))) ∧
  (∀ (op : UnOp) (x : aH) (t : Nat), cL C l dst (.un op x) t false os none K (.bool false) = dY C dst os K (dg (aa l) (un op (aV (aa l) x)))) ∧
  (∀ (A B : TypeId) (x : aH) (t : Nat), cL C l dst (.fW A B x) t true os none K (.bool true) = dY C dst os K (dg (aa l) (fW C (aa l) A B (aV (aa l) x)))) ∧
  (∀ (A B : TypeId) (x : aH) (t : Nat), cL C l dst (.fW A B x) t false os none K (.bool false) = dY C dst os K (dg (aa l) (fW C (aa l) A B (aV (aa l) x)))) ∧
  (∀ (f : FuncId) (cs : List aH) (t : Nat), cL C l dst (.ie f cs) t true os none K (.bool true) = dY C dst os K (some (.fn f (h1 (aa l) cs), aa l))) ∧
  (∀ (f : FuncId) (cs : List aH) (t : Nat), cL C l dst (.ie f cs) t false os none K (.bool false) = dY C dst os K (some (.fn f (h1 (aa l) cs), aa l))) ∧
  (∀ (T : TypeId) (x y : aH) (t : Nat), cL C l dst (.eX T x y) t true os none K (.bool true) = dY C dst os K (dg (aa l) (eX C T (aV (aa l) x) (aV (aa l) y)))) ∧
  (∀ (T : TypeId) (x y : aH) (t : Nat), cL C l dst (.eX T x y) t false os none K (.bool false) = dY C dst os K (dg (aa l) (eX C T (aV (aa l) x) (aV (aa l) y)))) ∧
  (∀ (T : TypeId) (x : aH) (dn ao : Option aH) (t : Nat), cL C l dst (.fw T x dn ao) t true os none K (.bool true) = dY C dst os K (fw C (aa l) T (aV (aa l) x) (ld (aa l) dn) (ld (aa l) ao))) ∧
  (∀ (T : TypeId) (x : aH) (dn ao : Option aH) (t : Nat), cL C l dst (.fw T x dn ao) t false os none K (.bool false) = dY C dst os K (fw C (aa l) T (aV (aa l) x) (ld (aa l) dn) (ld (aa l) ao))) ∧
  (∀ (T : TypeId) (x : aH) (k : Nat) (t : Nat), cL C l dst (.aW T x k) t true os none K (.bool true) = dY C dst os K (dg (aa l) (aW C (aa l) T (aV (aa l) x) k))) ∧
  (∀ (T : TypeId) (x : aH) (k : Nat) (t : Nat), cL C l dst (.aW T x k) t false os none K (.bool false) = dY C dst os K (dg (aa l) (aW C (aa l) T (aV (aa l) x) k))) ∧
  (∀ (T : TypeId) (x y : aH) (t : Nat), cL C l dst (.bP T x y) t true os none K (.bool true) = dY C dst os K (dg (aa l) (bP C (aa l) T (aV (aa l) x) (aV (aa l) y)))) ∧
  (∀ (T : TypeId) (x y : aH) (t : Nat), cL C l dst (.bP T x y) t false os none K (.bool false) = dY C dst os K (dg (aa l) (bP C (aa l) T (aV (aa l) x) (aV (aa l) y)))) ∧
  (∀ (T : TypeId) (x y : aH) (t : Nat), cL C l dst (.idx T x y) t true os none K (.bool true) = dY C dst os K (dg (aa l) (idx C T (aV (aa l) x) (aV (aa l) y)))) ∧
  (∀ (T : TypeId) (x y : aH) (t : Nat), cL C l dst (.idx T x y) t false os none K (.bool false) = dY C dst os K (dg (aa l) (idx C T (aV (aa l) x) (aV (aa l) y)))) ∧
  (∀ (x : aH) (k : Nat) (t : Nat), cL C l dst (.ex x k) t true os none K (.bool true) = dY C dst os K (dg (aa l) (ex (aa l) (aV (aa l) x) k))) ∧
  (∀ (x : aH) (k : Nat) (t : Nat), cL C l dst (.ex x k) t false os none K (.bool false) = dY C dst os K (dg (aa l) (ex (aa l) (aV (aa l) x) k))) ∧
  (∀ (T : TypeId) (x : aH) (t : Nat), cL C l dst (.len T x) t true os none K (.bool true) = dY C dst os K (dg (aa l) (lN C (aa l) T (aV (aa l) x)))) ∧
  (∀ (T : TypeId) (x : aH) (t : Nat), cL C l dst (.len T x) t false os none K (.bool false) = dY C dst os K (dg (aa l) (lN C (aa l) T (aV (aa l) x)))) ∧
  (∀ (T bV : TypeId) (x y : aH) (t : Nat), cL C l dst (.app T bV x y) t true os none K (.bool true) = dY C dst os K (lQ C (aa l) T bV (aV (aa l) x) (aV (aa l) y))) ∧
  (∀ (T bV : TypeId) (x y : aH) (t : Nat), cL C l dst (.app T bV x y) t false os none K (.bool false) = dY C dst os K (lQ C (aa l) T bV (aV (aa l) x) (aV (aa l) y))) :=
 ⟨fun x _ => (fO rfl).trans (congrArg _ (uC x)), fun x _ => (fO rfl).trans (congrArg _ (uC x)), fun x _ => (fO rfl).trans (congrArg _ (uD x)), fun x _ => (fO rfl).trans (congrArg _ (uD x)), fun c x y _ => (fO rfl).trans (congrArg _ (uE c x y)), fun c x y _ => (fO rfl).trans (congrArg _ (uE c x y)), fun T _ => (fO rfl).trans (congrArg _ (uF T)), fun T _ => (fO rfl).trans (congrArg _ (uF T)), fun T x _ => (fO rfl).trans (congrArg _ (uG T x)), fun T x _ => (fO rfl).trans (congrArg _ (uG T x)), fun T ps _ => (fO rfl).trans (congrArg _ (uH T ps)), fun T ps _ => (fO rfl).trans (congrArg _ (uH T ps)), fun T n ps _ => (fO rfl).trans (congrArg _ (uI T n ps)), fun T n ps _ => (fO rfl).trans (congrArg _ (uI T n ps)), fun T x _ => (fO rfl).trans (congrArg _ (uJ T x)), fun T x _ => (fO rfl).trans (congrArg _ (uJ T x)), fun T x y _ => (fO rfl).trans (congrArg _ (uK T x y)), fun T x y _ => (fO rfl).trans (congrArg _ (uK T x y)), fun x _ => (fO rfl).trans (congrArg _ (uL x)), fun x _ => (fO rfl).trans (congrArg _ (uL x)), fun op T x y _ => (fO rfl).trans (congrArg _ (uM op T x y)), fun op T x y _ => (fO rfl).trans (congrArg _ (uM op T x y)), fun op x _ => (fO rfl).trans (congrArg _ (uN op x)), fun op x _ => (fO rfl).trans (congrArg _ (uN op x)), fun A B x _ => (fO rfl).trans (congrArg _ (uO A B x)), fun A B x _ => (fO rfl).trans (congrArg _ (uO A B x)), fun f cs _ => (fO rfl).trans (congrArg _ (uP f cs)), fun f cs _ => (fO rfl).trans (congrArg _ (uP f cs)), fun T x y _ => (fO rfl).trans (congrArg _ (uQ T x y)), fun T x y _ => (fO rfl).trans (congrArg _ (uQ T x y)), fun T x dn ao _ => (fO rfl).trans (congrArg _ (uR T x dn ao)), fun T x dn ao _ => (fO rfl).trans (congrArg _ (uR T x dn ao)), fun T x k _ => (fO rfl).trans (congrArg _ (uS T x k)), fun T x k _ => (fO rfl).trans (congrArg _ (uS T x k)), fun T x y _ => (fO rfl).trans (congrArg _ (uT T x y)), fun T x y _ => (fO rfl).trans (congrArg _ (uT T x y)), fun T x y _ => (fO rfl).trans (congrArg _ (uU T x y)), fun T x y _ => (fO rfl).trans (congrArg _ (uU T x y)), fun x k _ => (fO rfl).trans (congrArg _ (uV x k)), fun x k _ => (fO rfl).trans (congrArg _ (uV x k)), fun T x _ => (fO rfl).trans (congrArg _ (uW T x)), fun T x _ => (fO rfl).trans (congrArg _ (uW T x)), fun T bV x y _ => (fO rfl).trans (congrArg _ (uX T bV x y)), fun T bV x y _ => (fO rfl).trans (congrArg _ (uX T bV x y))⟩
theorem S5 :
  (∀ (x : aH) (t : Nat), cL C l dst (.ab x) t true os (some a) K (.bool true) = eb C l (t :: use (aa l) (.ab x)) (dF (aa l) (.ab x)) dst os a K (some (aV (aa l) x, aa l))) ∧
  (∀ (x : aH) (t : Nat), cL C l dst (.ab x) t false os (some a) K (.bool false) = eb C l (t :: use (aa l) (.ab x)) (dF (aa l) (.ab x)) dst os a K (some (aV (aa l) x, aa l))) ∧
  (∀ (x : aH) (t : Nat), cL C l dst (.ae x) t true os (some a) K (.bool true) = eb C l (t :: use (aa l) (.ae x)) (dF (aa l) (.ae x)) dst os a K (jd (aa l) (aV (aa l) x))) ∧
  (∀ (x : aH) (t : Nat), cL C l dst (.ae x) t false os (some a) K (.bool false) = eb C l (t :: use (aa l) (.ae x)) (dF (aa l) (.ae x)) dst os a K (jd (aa l) (aV (aa l) x))) ∧
  (∀ (c x y : aH) (t : Nat), cL C l dst (.pick c x y) t true os (some a) K (.bool true) = eb C l (t :: use (aa l) (.pick c x y)) (dF (aa l) (.pick c x y)) dst os a K (qZ (aa l) (aV (aa l) c) (aV (aa l) x) (aV (aa l) y))) ∧
  (∀ (c x y : aH) (t : Nat), cL C l dst (.pick c x y) t false os (some a) K (.bool false) = eb C l (t :: use (aa l) (.pick c x y)) (dF (aa l) (.pick c x y)) dst os a K (qZ (aa l) (aV (aa l) c) (aV (aa l) x) (aV (aa l) y))) ∧
  (∀ (T : TypeId) (t : Nat), cL C l dst (.eA T) t true os (some a) K (.bool true) = eb C l (t :: use (aa l) (.eA T)) (dF (aa l) (.eA T)) dst os a K (dg (aa l) (eA C T))) ∧
  (∀ (T : TypeId) (t : Nat), cL C l dst (.eA T) t false os (some a) K (.bool false) = eb C l (t :: use (aa l) (.eA T)) (dF (aa l) (.eA T)) dst os a K (dg (aa l) (eA C T))) ∧
  (∀ (T : TypeId) (x : aH) (t : Nat), cL C l dst (.dd T x) t true os (some a) K (.bool true) = eb C l (t :: use (aa l) (.dd T x)) (dF (aa l) (.dd T x)) dst os a K (dd (aa l) (aV (aa l) x))) ∧
  (∀ (T : TypeId) (x : aH) (t : Nat), cL C l dst (.dd T x) t false os (some a) K (.bool false) = eb C l (t :: use (aa l) (.dd T x)) (dF (aa l) (.dd T x)) dst os a K (dd (aa l) (aV (aa l) x))) ∧
  (∀ (T : TypeId) (ps : List (Nat × aH)) (t : Nat), cL C l dst (.fX T ps) t true os (some a) K (.bool true) = eb C l (t :: use (aa l) (.fX T ps)) (dF (aa l) (.fX T ps)) dst os a K (fX C (aa l) T (j8 (aa l) ps))) ∧
  (∀ (T : TypeId) (ps : List (Nat × aH)) (t : Nat), cL C l dst (.fX T ps) t false os (some a) K (.bool false) = eb C l (t :: use (aa l) (.fX T ps)) (dF (aa l) (.fX T ps)) dst os a K (fX C (aa l) T (j8 (aa l) ps))) ∧
  (∀ (T : TypeId) (n : Nat) (ps : List (Nat × aH)) (t : Nat), cL C l dst (.dJ T n ps) t true os (some a) K (.bool true) = eb C l (t :: use (aa l) (.dJ T n ps)) (dF (aa l) (.dJ T n ps)) dst os a K (dJ C (aa l) T n (j8 (aa l) ps))) ∧
  (∀ (T : TypeId) (n : Nat) (ps : List (Nat × aH)) (t : Nat), cL C l dst (.dJ T n ps) t false os (some a) K (.bool false) = eb C l (t :: use (aa l) (.dJ T n ps)) (dF (aa l) (.dJ T n ps)) dst os a K (dJ C (aa l) T n (j8 (aa l) ps))) ∧
  (∀ (T : TypeId) (x : aH) (t : Nat), cL C l dst (.aE T x) t true os (some a) K (.bool true) = eb C l (t :: use (aa l) (.aE T x)) (dF (aa l) (.aE T x)) dst os a K (dg (aa l) (aE C (aa l) T (aV (aa l) x)))) ∧
  (∀ (T : TypeId) (x : aH) (t : Nat), cL C l dst (.aE T x) t false os (some a) K (.bool false) = eb C l (t :: use (aa l) (.aE T x)) (dF (aa l) (.aE T x)) dst os a K (dg (aa l) (aE C (aa l) T (aV (aa l) x)))) ∧
  (∀ (T : TypeId) (x y : aH) (t : Nat), cL C l dst (.cK T x y) t true os (some a) K (.bool true) = eb C l (t :: use (aa l) (.cK T x y)) (dF (aa l) (.cK T x y)) dst os a K (el (cK C (aa l) T (aV (aa l) x) (aV (aa l) y)))) ∧
  (∀ (T : TypeId) (x y : aH) (t : Nat), cL C l dst (.cK T x y) t false os (some a) K (.bool false) = eb C l (t :: use (aa l) (.cK T x y)) (dF (aa l) (.cK T x y)) dst os a K (el (cK C (aa l) T (aV (aa l) x) (aV (aa l) y)))) ∧
  (∀ (x : aH) (t : Nat), cL C l dst (.dT x) t true os (some a) K (.bool true) = eb C l (t :: use (aa l) (.dT x)) (dF (aa l) (.dT x)) dst os a K (dg (aa l) (dT (aa l) (aV (aa l) x)))) ∧
  (∀ (x : aH) (t : Nat), cL C l dst (.dT x) t false os (some a) K (.bool false) = eb C l (t :: use (aa l) (.dT x)) (dF (aa l) (.dT x)) dst os a K (dg (aa l) (dT (aa l) (aV (aa l) x)))) ∧
  (∀ (op : BinOp) (T : TypeId) (x y : aH) (t : Nat), cL C l dst (.aw op T x y) t true os (some a) K (.bool true) = eb C l (t :: use (aa l) (.aw op T x y)) (dF (aa l) (.aw op T x y)) dst os a K (dg (aa l) (aw C (aa l) op T (aV (aa l) x) (aV (aa l) y)))) ∧
  (∀ (op : BinOp) (T : TypeId) (x y : aH) (t : Nat), cL C l dst (.aw op T x y) t false os (some a) K (.bool false) = eb C l (t :: use (aa l) (.aw op T x y)) (dF (aa l) (.aw op T x y)) dst os a K (dg (aa l) (aw C (aa l) op T (aV (aa l) x) (aV (aa l) y)))) ∧
  (∀ (op : UnOp) (x : aH) (t : Nat), cL C l dst (.un op x) t true os (some a) K (.bool true) = eb C l (t :: use (aa l) (.un op x)) (dF (aa l) (.un op x)) dst os a K (dg (aa l) (un op (aV (aa l) x)))) ∧
  (∀ (op : UnOp) (x : aH) (t : Nat), cL C l dst (.un op x) t false os (some a) K (.bool false) = eb C l (t :: use (aa l) (.un op x)) (dF (aa l) (.un op x)) dst os a K (dg (aa l) (un op (aV (aa l) x)))) ∧
  (∀ (A B : TypeId) (x : aH) (t : Nat), cL C l dst (.fW A B x) t true os (some a) K (.bool true) = eb C l (t :: use (aa l) (.fW A B x)) (dF (aa l) (.fW A B x)) dst os a K (dg (aa l) (fW C (aa l) A B (aV (aa l) x)))) ∧
  (∀ (A B : TypeId) (x : aH) (t : Nat), cL C l dst (.fW A B x) t false os (some a) K (.bool false) = eb C l (t :: use (aa l) (.fW A B x)) (dF (aa l) (.fW A B x)) dst os a K (dg (aa l) (fW C (aa l) A B (aV (aa l) x)))) ∧
  (∀ (f : FuncId) (cs : List aH) (t : Nat), cL C l dst (.ie f cs) t true os (some a) K (.bool true) = eb C l (t :: use (aa l) (.ie f cs)) (dF (aa l) (.ie f cs)) dst os a K (some (.fn f (h1 (aa l) cs), aa l))) ∧
  (∀ (f : FuncId) (cs : List aH) (t : Nat), cL C l dst (.ie f cs) t false os (some a) K (.bool false) = eb C l (t :: use (aa l) (.ie f cs)) (dF (aa l) (.ie f cs)) dst os a K (some (.fn f (h1 (aa l) cs), aa l))) ∧
  (∀ (T : TypeId) (x y : aH) (t : Nat), cL C l dst (.eX T x y) t true os (some a) K (.bool true) = eb C l (t :: use (aa l) (.eX T x y)) (dF (aa l) (.eX T x y)) dst os a K (dg (aa l) (eX C T (aV (aa l) x) (aV (aa l) y)))) ∧
  (∀ (T : TypeId) (x y : aH) (t : Nat), cL C l dst (.eX T x y) t false os (some a) K (.bool false) = eb C l (t :: use (aa l) (.eX T x y)) (dF (aa l) (.eX T x y)) dst os a K (dg (aa l) (eX C T (aV (aa l) x) (aV (aa l) y)))) ∧
  (∀ (T : TypeId) (x : aH) (dn ao : Option aH) (t : Nat), cL C l dst (.fw T x dn ao) t true os (some a) K (.bool true) = eb C l (t :: use (aa l) (.fw T x dn ao)) (dF (aa l) (.fw T x dn ao)) dst os a K (fw C (aa l) T (aV (aa l) x) (ld (aa l) dn) (ld (aa l) ao))) ∧
  (∀ (T : TypeId) (x : aH) (dn ao : Option aH) (t : Nat), cL C l dst (.fw T x dn ao) t false os (some a) K (.bool false) = eb C l (t :: use (aa l) (.fw T x dn ao)) (dF (aa l) (.fw T x dn ao)) dst os a K (fw C (aa l) T (aV (aa l) x) (ld (aa l) dn) (ld (aa l) ao))) ∧
  (∀ (T : TypeId) (x : aH) (k : Nat) (t : Nat), cL C l dst (.aW T x k) t true os (some a) K (.bool true) = eb C l (t :: use (aa l) (.aW T x k)) (dF (aa l) (.aW T x k)) dst os a K (dg (aa l) (aW C (aa l) T (aV (aa l) x) k))) ∧
  (∀ (T : TypeId) (x : aH) (k : Nat) (t : Nat), cL C l dst (.aW T x k) t false os (some a) K (.bool false) = eb C l (t :: use (aa l) (.aW T x k)) (dF (aa l) (.aW T x k)) dst os a K (dg (aa l) (aW C (aa l) T (aV (aa l) x) k))) ∧
  (∀ (T : TypeId) (x y : aH) (t : Nat), cL C l dst (.bP T x y) t true os (some a) K (.bool true) = eb C l (t :: use (aa l) (.bP T x y)) (dF (aa l) (.bP T x y)) dst os a K (dg (aa l) (bP C (aa l) T (aV (aa l) x) (aV (aa l) y)))) ∧
  (∀ (T : TypeId) (x y : aH) (t : Nat), cL C l dst (.bP T x y) t false os (some a) K (.bool false) = eb C l (t :: use (aa l) (.bP T x y)) (dF (aa l) (.bP T x y)) dst os a K (dg (aa l) (bP C (aa l) T (aV (aa l) x) (aV (aa l) y)))) ∧
  (∀ (T : TypeId) (x y : aH) (t : Nat), cL C l dst (.idx T x y) t true os (some a) K (.bool true) = eb C l (t :: use (aa l) (.idx T x y)) (dF (aa l) (.idx T x y)) dst os a K (dg (aa l) (idx C T (aV (aa l) x) (aV (aa l) y)))) ∧
  (∀ (T : TypeId) (x y : aH) (t : Nat), cL C l dst (.idx T x y) t false os (some a) K (.bool false) = eb C l (t :: use (aa l) (.idx T x y)) (dF (aa l) (.idx T x y)) dst os a K (dg (aa l) (idx C T (aV (aa l) x) (aV (aa l) y)))) ∧
  (∀ (x : aH) (k : Nat) (t : Nat), cL C l dst (.ex x k) t true os (some a) K (.bool true) = eb C l (t :: use (aa l) (.ex x k)) (dF (aa l) (.ex x k)) dst os a K (dg (aa l) (ex (aa l) (aV (aa l) x) k))) ∧
  (∀ (x : aH) (k : Nat) (t : Nat), cL C l dst (.ex x k) t false os (some a) K (.bool false) = eb C l (t :: use (aa l) (.ex x k)) (dF (aa l) (.ex x k)) dst os a K (dg (aa l) (ex (aa l) (aV (aa l) x) k))) ∧
  (∀ (T : TypeId) (x : aH) (t : Nat), cL C l dst (.len T x) t true os (some a) K (.bool true) = eb C l (t :: use (aa l) (.len T x)) (dF (aa l) (.len T x)) dst os a K (dg (aa l) (lN C (aa l) T (aV (aa l) x)))) ∧
  (∀ (T : TypeId) (x : aH) (t : Nat), cL C l dst (.len T x) t false os (some a) K (.bool false) = eb C l (t :: use (aa l) (.len T x)) (dF (aa l) (.len T x)) dst os a K (dg (aa l) (lN C (aa l) T (aV (aa l) x)))) ∧
  (∀ (T bV : TypeId) (x y : aH) (t : Nat), cL C l dst (.app T bV x y) t true os (some a) K (.bool true) = eb C l (t :: use (aa l) (.app T bV x y)) (dF (aa l) (.app T bV x y)) dst os a K (lQ C (aa l) T bV (aV (aa l) x) (aV (aa l) y))) ∧
  (∀ (T bV : TypeId) (x y : aH) (t : Nat), cL C l dst (.app T bV x y) t false os (some a) K (.bool false) = eb C l (t :: use (aa l) (.app T bV x y)) (dF (aa l) (.app T bV x y)) dst os a K (lQ C (aa l) T bV (aV (aa l) x) (aV (aa l) y))) :=
 ⟨fun x _ => (fP rfl).trans (congrArg _ (uC x)), fun x _ => (fP rfl).trans (congrArg _ (uC x)), fun x _ => (fP rfl).trans (congrArg _ (uD x)), fun x _ => (fP rfl).trans (congrArg _ (uD x)), fun c x y _ => (fP rfl).trans (congrArg _ (uE c x y)), fun c x y _ => (fP rfl).trans (congrArg _ (uE c x y)), fun T _ => (fP rfl).trans (congrArg _ (uF T)), fun T _ => (fP rfl).trans (congrArg _ (uF T)), fun T x _ => (fP rfl).trans (congrArg _ (uG T x)), fun T x _ => (fP rfl).trans (congrArg _ (uG T x)), fun T ps _ => (fP rfl).trans (congrArg _ (uH T ps)), fun T ps _ => (fP rfl).trans (congrArg _ (uH T ps)), fun T n ps _ => (fP rfl).trans (congrArg _ (uI T n ps)), fun T n ps _ => (fP rfl).trans (congrArg _ (uI T n ps)), fun T x _ => (fP rfl).trans (congrArg _ (uJ T x)), fun T x _ => (fP rfl).trans (congrArg _ (uJ T x)), fun T x y _ => (fP rfl).trans (congrArg _ (uK T x y)), fun T x y _ => (fP rfl).trans (congrArg _ (uK T x y)), fun x _ => (fP rfl).trans (congrArg _ (uL x)), fun x _ => (fP rfl).trans (congrArg _ (uL x)), fun op T x y _ => (fP rfl).trans (congrArg _ (uM op T x y)), fun op T x y _ => (fP rfl).trans (congrArg _ (uM op T x y)), fun op x _ => (fP rfl).trans (congrArg _ (uN op x)), fun op x _ => (fP rfl).trans (congrArg _ (uN op x)), fun A B x _ => (fP rfl).trans (congrArg _ (uO A B x)), fun A B x _ => (fP rfl).trans (congrArg _ (uO A B x)), fun f cs _ => (fP rfl).trans (congrArg _ (uP f cs)), fun f cs _ => (fP rfl).trans (congrArg _ (uP f cs)), fun T x y _ => (fP rfl).trans (congrArg _ (uQ T x y)), fun T x y _ => (fP rfl).trans (congrArg _ (uQ T x y)), fun T x dn ao _ => (fP rfl).trans (congrArg _ (uR T x dn ao)), fun T x dn ao _ => (fP rfl).trans (congrArg _ (uR T x dn ao)), fun T x k _ => (fP rfl).trans (congrArg _ (uS T x k)), fun T x k _ => (fP rfl).trans (congrArg _ (uS T x k)), fun T x y _ => (fP rfl).trans (congrArg _ (uT T x y)), fun T x y _ => (fP rfl).trans (congrArg _ (uT T x y)), fun T x y _ => (fP rfl).trans (congrArg _ (uU T x y)), fun T x y _ => (fP rfl).trans (congrArg _ (uU T x y)), fun x k _ => (fP rfl).trans (congrArg _ (uV x k)), fun x k _ => (fP rfl).trans (congrArg _ (uV x k)), fun T x _ => (fP rfl).trans (congrArg _ (uW T x)), fun T x _ => (fP rfl).trans (congrArg _ (uW T x)), fun T bV x y _ => (fP rfl).trans (congrArg _ (uX T bV x y)), fun T bV x y _ => (fP rfl).trans (congrArg _ (uX T bV x y))⟩
end
theorem J4 :
  (∀ (t : Nat) (k : IntKind) (n : Int), i7 t (.int k n) = (.int k n)) ∧
  (∀ (t : Nat) (b : Bool), i7 t (.bool b) = (.bool b)) ∧
  (∀ (t : Nat) (x : List UInt8), i7 t (.str x) = (.str x)) ∧
  (∀ (t : Nat) (xs : List I), i7 t (.slice xs) = (.slice xs)) ∧
  (∀ (t : Nat) (d : I), i7 t (.ref d) = (.ref d)) ∧
  (∀ (t : Nat) (f : FuncId) (cap : List I), i7 t (.fn f cap) = (.fn f cap)) ∧
  (∀ (t : Nat) (x : Nat) (q : List Nat), i7 t (.h x q) = (.h x q)) ∧
  (∀ (t : Nat) (x : Nat) (q : List Nat), i7 t (.aA x q) = (.aA x q)) ∧
  (∀ (t : Nat) , i7 t .dI = .dI) ∧
  (∀ (t : Nat) , i7 t .bu = .bu) ∧
  (∀ (t : Nat) , i7 t .fo = .fo) ∧
  (∀ (t : Nat) , i7 t .hole = .hole) ∧
  (∀ (t : Nat) (sz : Nat) (xs : List I), i7 t (.ar sz xs) = .h t []) ∧
  (∀ (t : Nat) (d : I), i7 t (.bd d) = .h t []) ∧
  (∀ (t : Nat) (aC : List I), i7 t (.agg aC) = if I.dO aC = true then (.agg aC) else .h t []) ∧
  (∀ (t : Nat) (aC : List I), i7 t (.tuple aC) = if I.dO aC = true then (.tuple aC) else .h t []) :=
 ⟨fun _ _ _ => rfl, fun _ _ => rfl, fun _ _ => rfl, fun _ _ => rfl, fun _ _ => rfl, fun _ _ _ => rfl, fun _ _ _ => rfl, fun _ _ _ => rfl, fun _  => rfl, fun _  => rfl, fun _  => rfl, fun _  => rfl, fun _ _ _ => rfl, fun _ _ => rfl, fun _ _ => rfl, fun _ _ => rfl⟩
theorem J5 :
  (∀ (l : List (Nat × I)) (av : I), fin (aa l) none av = aa l) ∧
  (∀ (l : List (Nat × I)) (t : Nat) (k : IntKind) (n : Int), fin (aa l) (some t) (.int k n) = aa ((t, (.int k n)) :: l)) ∧
  (∀ (l : List (Nat × I)) (t : Nat) (b : Bool), fin (aa l) (some t) (.bool b) = aa ((t, (.bool b)) :: l)) ∧
  (∀ (l : List (Nat × I)) (t : Nat) (x : List UInt8), fin (aa l) (some t) (.str x) = aa ((t, (.str x)) :: l)) ∧
  (∀ (l : List (Nat × I)) (t : Nat) (xs : List I), fin (aa l) (some t) (.slice xs) = aa ((t, (.slice xs)) :: l)) ∧
  (∀ (l : List (Nat × I)) (t : Nat) (d : I), fin (aa l) (some t) (.ref d) = aa ((t, (.ref d)) :: l)) ∧
  (∀ (l : List (Nat × I)) (t : Nat) (f : FuncId) (cap : List I), fin (aa l) (some t) (.fn f cap) = aa ((t, (.fn f cap)) :: l)) ∧
  (∀ (l : List (Nat × I)) (t : Nat) (x : Nat) (q : List Nat), fin (aa l) (some t) (.h x q) = aa ((t, (.h x q)) :: l)) ∧
  (∀ (l : List (Nat × I)) (t : Nat) (x : Nat) (q : List Nat), fin (aa l) (some t) (.aA x q) = aa ((t, (.aA x q)) :: l)) ∧
  (∀ (l : List (Nat × I)) (t : Nat) , fin (aa l) (some t) .dI = aa ((t, .dI) :: l)) ∧
  (∀ (l : List (Nat × I)) (t : Nat) , fin (aa l) (some t) .bu = aa ((t, .bu) :: l)) ∧
  (∀ (l : List (Nat × I)) (t : Nat) , fin (aa l) (some t) .fo = aa ((t, .fo) :: l)) ∧
  (∀ (l : List (Nat × I)) (t : Nat) , fin (aa l) (some t) .hole = aa ((t, .hole) :: l)) ∧
  (∀ (l : List (Nat × I)) (t : Nat) (sz : Nat) (xs : List I), fin (aa l) (some t) (.ar sz xs) = aa ((t, (.ar sz xs)) :: ow t l)) ∧
  (∀ (l : List (Nat × I)) (t : Nat) (d : I), fin (aa l) (some t) (.bd d) = aa ((t, (.bd d)) :: ow t l)) ∧
  (∀ (l : List (Nat × I)) (t : Nat) (aC : List I), fin (aa l) (some t) (.agg aC) = aa ((t, (.agg aC)) :: if I.dO aC = true then l else ow t l)) ∧
  (∀ (l : List (Nat × I)) (t : Nat) (aC : List I), fin (aa l) (some t) (.tuple aC) = aa ((t, (.tuple aC)) :: if I.dO aC = true then l else ow t l)) :=
 ⟨fun _ _ => rfl, fun l t _ _ => by simp only [fin, I.plain, if_true, kN], fun l t _ => by simp only [fin, I.plain, if_true, kN], fun l t _ => by simp only [fin, I.plain, if_true, kN], fun l t _ => by simp only [fin, I.plain, if_true, kN], fun l t _ => by simp only [fin, I.plain, if_true, kN], fun l t _ _ => by simp only [fin, I.plain, if_true, kN], fun l t _ _ => by simp only [fin, I.plain, if_true, kN], fun l t _ _ => by simp only [fin, I.plain, if_true, kN], fun l t  => by simp only [fin, I.plain, if_true, kN], fun l t  => by simp only [fin, I.plain, if_true, kN], fun l t  => by simp only [fin, I.plain, if_true, kN], fun l t  => by simp only [fin, I.plain, if_true, kN], fun l t _ _ => by simp only [fin, I.plain, Bool.false_eq_true, if_false, xp, kN], fun l t _ => by simp only [fin, I.plain, Bool.false_eq_true, if_false, xp, kN], fun l t _ => by simp only [fin, I.plain, xp, kN]; split <;> rfl, fun l t _ => by simp only [fin, I.plain, xp, kN]; split <;> rfl⟩
theorem uY :
  (∀ (k : IntKind) (n : Int), I.plain (.int k n) = true) ∧
  (∀ (b : Bool), I.plain (.bool b) = true) ∧
  (∀ (x : List UInt8), I.plain (.str x) = true) ∧
  (∀ (xs : List I), I.plain (.slice xs) = true) ∧
  (∀ (d : I), I.plain (.ref d) = true) ∧
  (∀ (f : FuncId) (cap : List I), I.plain (.fn f cap) = true) ∧
  (∀ (x : Nat) (q : List Nat), I.plain (.h x q) = true) ∧
  (∀ (x : Nat) (q : List Nat), I.plain (.aA x q) = true) ∧
  (I.plain .dI = true) ∧
  (I.plain .bu = true) ∧
  (I.plain .fo = true) ∧
  (I.plain .hole = true) ∧
  (∀ (sz : Nat) (xs : List I), I.plain (.ar sz xs) = false) ∧
  (∀ (d : I), I.plain (.bd d) = false) ∧
  (∀ (aC : List I), I.plain (.agg aC) = I.dO aC) ∧
  (∀ (aC : List I), I.plain (.tuple aC) = I.dO aC) ∧
  (I.dO [] = true) ∧
  (∀ d ds, I.dO (d :: ds) = (d.plain && I.dO ds)) :=
 ⟨fun _ _ => rfl, fun _ => rfl, fun _ => rfl, fun _ => rfl, fun _ => rfl, fun _ _ => rfl, fun _ _ => rfl, fun _ _ => rfl, rfl, rfl, rfl, rfl, fun _ _ => rfl, fun _ => rfl, fun _ => rfl, fun _ => rfl, rfl, fun _ _ => rfl⟩
theorem J6 :
  (∀ (s : ax) (k : IntKind) (n : Int), jd s (.int k n) = some ((.int k n), s)) ∧
  (∀ (s : ax) (b : Bool), jd s (.bool b) = some ((.bool b), s)) ∧
  (∀ (s : ax) (x : List UInt8), jd s (.str x) = some ((.str x), s)) ∧
  (∀ (s : ax) (xs : List I), jd s (.slice xs) = some ((.slice xs), s)) ∧
  (∀ (s : ax) (d : I), jd s (.ref d) = some ((.ref d), s)) ∧
  (∀ (s : ax) (f : FuncId) (cap : List I), jd s (.fn f cap) = some ((.fn f cap), s)) ∧
  (∀ (s : ax) (x : Nat) (q : List Nat), jd s (.aA x q) = some ((.aA x q), s)) ∧
  (∀ (s : ax) , jd s .dI = some (.dI, s)) ∧
  (∀ (s : ax) , jd s .bu = some (.bu, s)) ∧
  (∀ (s : ax) , jd s .fo = some (.fo, s)) ∧
  (∀ (s : ax) , jd s .hole = some (.hole, s)) ∧
  (∀ (s : ax) (sz : Nat) (xs : List I), jd s (.ar sz xs) = some ((.ar sz xs), s)) ∧
  (∀ (s : ax) (d : I), jd s (.bd d) = some ((.bd d), s)) ∧
  (∀ (s : ax) (aC : List I), jd s (.agg aC) = some ((.agg aC), s)) ∧
  (∀ (s : ax) (aC : List I), jd s (.tuple aC) = some ((.tuple aC), s)) ∧
  (∀ (s : ax) y q, jd s (.h y q) = c2 s (.h y q)) :=
 ⟨fun _ _ _ => rfl, fun _ _ => rfl, fun _ _ => rfl, fun _ _ => rfl, fun _ _ => rfl, fun _ _ _ => rfl, fun _ _ _ => rfl, fun _  => rfl, fun _  => rfl, fun _  => rfl, fun _  => rfl, fun _ _ _ => rfl, fun _ _ => rfl, fun _ _ => rfl, fun _ _ => rfl, fun _ _ _ => rfl⟩
theorem J7 :
  (∀ (t : Nat) (k : IntKind) (n : Int), cW t (.int k n) = (.int k n)) ∧
  (∀ (t : Nat) (b : Bool), cW t (.bool b) = (.bool b)) ∧
  (∀ (t : Nat) (x : List UInt8), cW t (.str x) = (.str x)) ∧
  (∀ (t : Nat) (xs : List I), cW t (.slice xs) = (.slice xs)) ∧
  (∀ (t : Nat) (d : I), cW t (.ref d) = (.ref d)) ∧
  (∀ (t : Nat) , cW t .dI = .dI) ∧
  (∀ (t : Nat) , cW t .bu = .bu) ∧
  (∀ (t : Nat) , cW t .fo = .fo) ∧
  (∀ (t : Nat) , cW t .hole = .hole) ∧
  (∀ (t : Nat) (sz : Nat) (xs : List I), cW t (.ar sz xs) = (.ar sz xs)) ∧
  (∀ (t : Nat) (d : I), cW t (.bd d) = (.bd d)) ∧
  (∀ (t : Nat) (aC : List I), cW t (.agg aC) = (.agg aC)) ∧
  (∀ (t : Nat) (aC : List I), cW t (.tuple aC) = (.tuple aC)) ∧
  (∀ (t y : Nat) q, cW t (.h y q) = if y = t then .hole else .h y q) ∧
  (∀ (t y : Nat) q, cW t (.aA y q) = if y = t then .hole else .aA y q) ∧
  (∀ (t : Nat) f c, cW t (.fn f c) = .fn f (i6 t c)) ∧
  (∀ t, i6 t [] = []) ∧
  (∀ t d ds, i6 t (d :: ds) = cW t d :: i6 t ds) ∧
  (∀ t, ow t [] = []) ∧
  (∀ t u d l, ow t ((u, d) :: l) = (u, cW t d) :: ow t l) ∧
  (∀ t l, lK t (aa l) = aa (ow t l)) :=
 ⟨fun _ _ _ => by unfold cW; rfl, fun _ _ => by unfold cW; rfl, fun _ _ => by unfold cW; rfl, fun _ _ => by unfold cW; rfl, fun _ _ => by unfold cW; rfl, fun _  => by unfold cW; rfl, fun _  => by unfold cW; rfl, fun _  => by unfold cW; rfl, fun _  => by unfold cW; rfl, fun _ _ _ => by unfold cW; rfl, fun _ _ => by unfold cW; rfl, fun _ _ => by unfold cW; rfl, fun _ _ => by unfold cW; rfl, fun _ _ _ => by unfold cW; rfl, fun _ _ _ => by unfold cW; rfl, fun _ _ _ => by simp only [cW], fun _ => by simp only [i6], fun _ _ _ => by simp only [i6], fun _ => rfl, fun _ _ _ _ => rfl, fun t l => xp t l⟩
theorem J8 :
  (∀ (t : Nat) (k : IntKind) (n : Int), cm t (.int k n) = (.int k n)) ∧
  (∀ (t : Nat) (b : Bool), cm t (.bool b) = (.bool b)) ∧
  (∀ (t : Nat) (x : List UInt8), cm t (.str x) = (.str x)) ∧
  (∀ (t : Nat) (xs : List I), cm t (.slice xs) = (.slice xs)) ∧
  (∀ (t : Nat) (d : I), cm t (.ref d) = (.ref d)) ∧
  (∀ (t : Nat) , cm t .dI = .dI) ∧
  (∀ (t : Nat) , cm t .bu = .bu) ∧
  (∀ (t : Nat) , cm t .fo = .fo) ∧
  (∀ (t : Nat) , cm t .hole = .hole) ∧
  (∀ (t : Nat) (sz : Nat) (xs : List I), cm t (.ar sz xs) = (.ar sz xs)) ∧
  (∀ (t : Nat) (d : I), cm t (.bd d) = (.bd d)) ∧
  (∀ (t : Nat) (aC : List I), cm t (.agg aC) = (.agg aC)) ∧
  (∀ (t : Nat) (aC : List I), cm t (.tuple aC) = (.tuple aC)) ∧
  (∀ (t y : Nat), cm t (.h y []) = .h y []) ∧
  (∀ (t y k : Nat) q, cm t (.h y (k :: q)) = if y = t then .hole else .h y (k :: q)) ∧
  (∀ (t y : Nat) q, cm t (.aA y q) = if y = t then .hole else .aA y q) ∧
  (∀ (t : Nat) f c, cm t (.fn f c) = .fn f (iA t c)) ∧
  (∀ t, iA t [] = []) ∧
  (∀ t d ds, iA t (d :: ds) = cm t d :: iA t ds) ∧
  (∀ t, sr t [] = []) ∧
  (∀ t u d l, sr t ((u, d) :: l) = (u, cm t d) :: sr t l) ∧
  (∀ t l, iH t (aa l) = aa (sr t l)) :=
 ⟨fun _ _ _ => by unfold cm; rfl, fun _ _ => by unfold cm; rfl, fun _ _ => by unfold cm; rfl, fun _ _ => by unfold cm; rfl, fun _ _ => by unfold cm; rfl, fun _  => by unfold cm; rfl, fun _  => by unfold cm; rfl, fun _  => by unfold cm; rfl, fun _  => by unfold cm; rfl, fun _ _ _ => by unfold cm; rfl, fun _ _ => by unfold cm; rfl, fun _ _ => by unfold cm; rfl, fun _ _ => by unfold cm; rfl, fun _ _ => by simp [cm], fun _ _ _ _ => by simp [cm], fun _ _ _ => by unfold cm; rfl, fun _ _ _ => by simp only [cm], fun _ => by simp only [iA], fun _ _ _ => by simp only [iA], fun _ => rfl, fun _ _ _ _ => rfl, fun t l => Sk t l⟩
def FD : nw → Bool → Option I
 | .bool, b => some (.bool b)
 | _, _ => none
def sx (neg : Bool) : nw → Option (Option Bool) → Option I
 | .slice _, some r => some (wJ neg r)
 | _, _ => none
def sy (neg : Bool) : nw → Option Bool → Option I
 | .ptr _, some b => some (.bool (b != neg))
 | _, _ => none
theorem J9 (C : cw) (s : ax) (T : TypeId) :
  (∀ op k a dm b, aw C s op T (.int k a) (.int dm b) = iK op k a dm b) ∧
  (∀ op a b, aw C s op T (.str a) (.str b) = mT op a b) ∧
  (∀ a b, aw C s .eql T (.bool a) (.bool b) = FD (C.T T).k (a == b)) ∧
  (∀ a b, aw C s .neq T (.bool a) (.bool b) = FD (C.T T).k (!(a == b))) ∧
  (∀ xs, aw C s .eql T (.slice xs) .bu = sx false (C.T T).k (k5 s (.slice xs))) ∧
  (∀ xs, aw C s .neq T (.slice xs) .bu = sx true (C.T T).k (k5 s (.slice xs))) ∧
  (aw C s .eql T .bu .bu = sx false (C.T T).k (k5 s .bu)) ∧
  (aw C s .neq T .bu .bu = sx true (C.T T).k (k5 s .bu)) ∧
  (∀ x q, aw C s .eql T (.h x q) .bu = sx false (C.T T).k (k5 s (.h x q))) ∧
  (∀ x q, aw C s .neq T (.h x q) .bu = sx true (C.T T).k (k5 s (.h x q))) ∧
  (∀ x q, aw C s .eql T (.h x q) .dI = sy false (C.T T).k (k6 s (.h x q))) ∧
  (∀ x q, aw C s .neq T (.h x q) .dI = sy true (C.T T).k (k6 s (.h x q))) ∧
  (∀ d, aw C s .eql T (.ref d) .dI = sy false (C.T T).k (k6 s (.ref d))) ∧
  (∀ d, aw C s .neq T (.ref d) .dI = sy true (C.T T).k (k6 s (.ref d))) ∧
  (aw C s .eql T .dI .dI = sy false (C.T T).k (k6 s .dI)) ∧
  (aw C s .neq T .dI .dI = sy true (C.T T).k (k6 s .dI)) := by
 refine ⟨?_, ?_, ?_, ?_, ?_, ?_, ?_, ?_, ?_, ?_, ?_, ?_, ?_, ?_, ?_, ?_⟩ <;> intros <;> first
  | rfl
  | (simp only [aw]
     generalize (C.T T).k = lM
     cases lM <;> first | rfl | (simp only [sx]; generalize k5 s _ = v; cases v <;> rfl) | (simp only [sy]; generalize k6 s _ = v; cases v <;> (try (rename_i b; cases b)) <;> rfl))
theorem J_ (k : IntKind) (a b : Int) :
  iK .add k a k b = some (.int k (k.wrap (a + b))) ∧ iK .sub k a k b = some (.int k (k.wrap (a - b))) ∧ iK .mul k a k b = some (.int k (k.wrap (a * b))) ∧
  iK .eql k a k b = some (.bool (a == b)) ∧ iK .neq k a k b = some (.bool (a != b)) ∧ iK .lss k a k b = some (.bool (decide (a < b))) ∧ iK .leq k a k b = some (.bool (decide (a ≤ b))) ∧
  iK .gtr k a k b = some (.bool (decide (b < a))) ∧ iK .geq k a k b = some (.bool (decide (b ≤ a))) ∧
  iK .and k a k b = some (.int k (bitsOf .and k a b)) ∧ iK .or k a k b = some (.int k (bitsOf .or k a b)) ∧ iK .xor k a k b = some (.int k (bitsOf .xor k a b)) ∧ iK .andNot k a k b = some (.int k (bitsOf .andNot k a b)) := by
 simp [iK]
theorem S6 {k : IntKind} {a b : Int} (h : b ≠ 0) : iK .quo k a k b = some (.int k (k.wrap (a.tdiv b))) := by simp [iK, h]
theorem S7 {k : IntKind} {a b : Int} (h : b ≠ 0) : iK .rem k a k b = some (.int k (a.tmod b)) := by simp [iK, h]
theorem Ka (a b : List UInt8) :
  mT .eql a b = some (.bool (a == b)) ∧ mT .neq a b = some (.bool !(a == b)) ∧ mT .lss a b = some (.bool (Op.bytesLess a b)) ∧
  mT .leq a b = some (.bool (Op.bytesLess a b || a == b)) ∧ mT .gtr a b = some (.bool !(Op.bytesLess a b || a == b)) ∧ mT .geq a b = some (.bool !(Op.bytesLess a b)) := by
 refine ⟨rfl, rfl, rfl, rfl, rfl, rfl⟩
theorem Kb : (∀ b, un .not (.bool b) = some (.bool !b)) ∧ (un .not .fo = some .fo) ∧ (∀ k n, un .neg (.int k n) = some (.int k (k.wrap (0 - n)))) := ⟨fun _ => rfl, rfl, fun _ _ => rfl⟩
def FE : nw → Option UInt8 → Option I
 | .str, some c => some (.int .u8 c.toNat)
 | _, _ => none
theorem Kc (C : cw) (T : TypeId) (l : List UInt8) (k : IntKind) (n : Int) : idx C T (.str l) (.int k n) = FE (C.T T).k (bQ l n) := by
 simp only [idx, bQ]
 generalize (C.T T).k = lM
 cases lM <;> first | rfl | (simp only [FE]; split <;> first | rfl | (cases l[n.toNat]? <;> rfl))
def FF (C : cw) : nw → Option I → Option I
 | .slice e, some d => if (C.T e).ok = true ∧ d.wd = (C.T e).sz then some (.ref d) else none
 | _, _ => none
theorem Kd (C : cw) (s : ax) (T : TypeId) (xs : List I) (k : IntKind) (n : Int) : bP C s T (.slice xs) (.int k n) = FF C (C.T T).k (bQ xs n) := by
 simp only [bP, bQ]
 generalize (C.T T).k = lM
 cases lM <;> first | rfl | skip
 simp only [FF]
 by_cases bc : 0 ≤ n
 ·simp only [bc, true_and, if_true]
  split
  ·cases xs[n.toNat]? <;> simp [*]
  ·cases xs[n.toNat]? <;> simp [*]
 ·simp only [bc, false_and, if_false]
def xu (C : cw) (y : Nat) (q : List Nat) (n : Int) : nw → Option I → Option I
 | .slice e, some (.ar sz xs) => if (bQ xs n).isSome = true ∧ (C.T e).ok = true ∧ sz = (C.T e).sz then some (.aA y (q ++ [n.toNat])) else none
 | _, _ => none
theorem Ke (C : cw) (s : ax) (T : TypeId) (y : Nat) (q : List Nat) (k : IntKind) (n : Int) : bP C s T (.h y q) (.int k n) = xu C y q n (C.T T).k (I.sub q (s y)) := by
 simp only [bP]
 generalize (C.T T).k = lM
 cases lM <;> first | rfl | skip
 rename_i e
 cases ah : I.sub q (s y) with
 | none => simp [xu]
 | some d =>
   cases d <;> first
    | (simp [xu]; done)
    | skip
   rename_i sz xs
   have cg : (bQ xs n).isSome = true ↔ 0 ≤ n ∧ n.toNat < xs.length := by
    unfold bQ; split <;> simp_all <;> omega
   simp only [xu, cg]
   by_cases bc : 0 ≤ n <;> by_cases af : (C.T e).ok = true <;> simp [bc, af]
def uZ : nw → ax → Option (List UInt8) → Option (I × ax)
 | .str, s, some t => some (.str t, s)
 | _, _, _ => none
def u0 (C : cw) : nw → ax → List I → Option (List I) → Option (I × ax)
 | .slice e, s, xs, some t => if (C.T e).ok = true ∧ ∀ d ∈ xs, d.wd = (C.T e).sz then some (.slice t, s) else none
 | _, _, _, _ => none
theorem Kf (C : cw) (s : ax) (T : TypeId) (l : List UInt8) :
  (∀ k a dm b, fw C s T (.str l) (some (.int k a)) (some (.int dm b)) = uZ (C.T T).k s (jH l a b)) ∧
  (∀ dm b, fw C s T (.str l) none (some (.int dm b)) = uZ (C.T T).k s (jH l 0 b)) ∧
  (∀ k a, fw C s T (.str l) (some (.int k a)) none = uZ (C.T T).k s (jH l a l.length)) := by
 have e : ∀ (dn ao : Option I) (a b : Int), (jn 0 dn = if 0 ≤ a then some a.toNat else none) → (jn l.length ao = if 0 ≤ b then some b.toNat else none) → fw C s T (.str l) dn ao = uZ (C.T T).k s (jH l a b) := by
  intro dn ao a b af ai
  simp only [fw]
  generalize (C.T T).k = lM
  cases lM <;> first | rfl | skip
  simp only [af, ai, jH]
  by_cases cz : 0 ≤ a <;> by_cases ad : 0 ≤ b <;> simp only [cz, ad, if_true, if_false, uZ, true_and, false_and]
  ·by_cases ay : a ≤ b ∧ b ≤ l.length
   ·rw [if_pos ⟨by omega, by omega⟩, if_pos ay]
   ·rw [if_neg (fun h => ay ⟨by omega, by omega⟩), if_neg ay]
  ·rw [if_neg (by omega)]
 exact ⟨fun k a dm b => e _ _ a b rfl rfl, fun dm b => e _ _ 0 b rfl rfl, fun k a => e _ _ a l.length rfl (by simp [jn])⟩
theorem Kg (C : cw) (s : ax) (T : TypeId) (xs : List I) :
  (∀ k a dm b, fw C s T (.slice xs) (some (.int k a)) (some (.int dm b)) = u0 C (C.T T).k s xs (jH xs a b)) ∧
  (∀ dm b, fw C s T (.slice xs) none (some (.int dm b)) = u0 C (C.T T).k s xs (jH xs 0 b)) ∧
  (∀ k a, fw C s T (.slice xs) (some (.int k a)) none = u0 C (C.T T).k s xs (jH xs a xs.length)) := by
 have e : ∀ (dn ao : Option I) (a b : Int), (jn 0 dn = if 0 ≤ a then some a.toNat else none) → (jn xs.length ao = if 0 ≤ b then some b.toNat else none) → fw C s T (.slice xs) dn ao = u0 C (C.T T).k s xs (jH xs a b) := by
  intro dn ao a b af ai
  simp only [fw]
  generalize (C.T T).k = lM
  cases lM <;> first | rfl | skip
  simp only [af, ai, jH]
  by_cases cz : 0 ≤ a <;> by_cases ad : 0 ≤ b <;> simp only [cz, ad, if_true, if_false, u0, true_and, false_and]
  ·by_cases ay : a ≤ b ∧ b ≤ xs.length
   ·rw [if_pos ay]
    have af : a.toNat ≤ b.toNat := by omega
    have ai : b.toNat ≤ xs.length := by omega
    simp only [af, ai, true_and]
   ·rw [if_neg (fun h => ay ⟨by omega, by omega⟩), if_neg ay]
  ·rw [if_neg (by omega)]
 exact ⟨fun k a dm b => e _ _ a b rfl rfl, fun dm b => e _ _ 0 b rfl rfl, fun k a => e _ _ a xs.length rfl (by simp [jn])⟩
def xv (q : List Nat) : Option I → Option I
 | some d => I.sub q d
 | none => none
theorem Kh : (∀ d, I.sub [] d = some d) ∧ (∀ k q aC, I.sub (k :: q) (.agg aC) = xv q aC[k]?) ∧ (∀ k q aC, I.sub (k :: q) (.tuple aC) = xv q aC[k]?) ∧ (∀ k q sz xs, I.sub (k :: q) (.ar sz xs) = xv q xs[k]?) ∧
  (∀ q d, I.sub (0 :: q) (.bd d) = I.sub q d) ∧ (∀ q d, xv q (some d) = I.sub q d) ∧
  (∀ k q a b, I.sub (k :: q) (.int a b) = none) := by
 refine ⟨fun d => by simp [I.sub], ?_, ?_, ?_, fun q d => by simp [I.sub], fun _ _ => rfl, fun _ _ _ _ => by simp [I.sub]⟩
 ·intro k q aC; simp only [I.sub]; cases aC[k]? <;> rfl
 ·intro k q aC; simp only [I.sub]; cases aC[k]? <;> rfl
 ·intro k q sz aC; simp only [I.sub]; cases aC[k]? <;> rfl
def Ki (k : Nat) (q : List Nat) (n : I) (aC : List I) : Option I → I
 | some d => .agg (aC.set k (I.put q n d))
 | none => .agg aC
def Kj (k : Nat) (q : List Nat) (n : I) (aC : List I) : Option I → I
 | some d => .tuple (aC.set k (I.put q n d))
 | none => .tuple aC
def Kk (k : Nat) (q : List Nat) (n : I) (sz : Nat) (xs : List I) : Option I → I
 | some d => .ar sz (xs.set k (I.put q n d))
 | none => .ar sz xs
theorem Kl : (∀ n d, I.put [] n d = n) ∧ (∀ k q n aC, I.put (k :: q) n (.agg aC) = Ki k q n aC aC[k]?) ∧ (∀ k q n aC, I.put (k :: q) n (.tuple aC) = Kj k q n aC aC[k]?) ∧
  (∀ k q n sz xs, I.put (k :: q) n (.ar sz xs) = Kk k q n sz xs xs[k]?) ∧ (∀ q n d, I.put (0 :: q) n (.bd d) = .bd (I.put q n d)) ∧
  (∀ k q n aC d, Ki k q n aC (some d) = .agg (aC.set k (I.put q n d))) ∧ (∀ k q n aC d, Kj k q n aC (some d) = .tuple (aC.set k (I.put q n d))) ∧
  (∀ k q n sz xs d, Kk k q n sz xs (some d) = .ar sz (xs.set k (I.put q n d))) := by
 refine ⟨fun n d => by simp [I.put], ?_, ?_, ?_, fun q n d => by simp [I.put], fun _ _ _ _ _ => rfl, fun _ _ _ _ _ => rfl, fun _ _ _ _ _ _ => rfl⟩
 ·intro k q n aC; simp only [I.put]; cases aC[k]? <;> rfl
 ·intro k q n aC; simp only [I.put]; cases aC[k]? <;> rfl
 ·intro k q n sz aC; simp only [I.put]; cases aC[k]? <;> rfl
theorem FG : (∀ k n, I.wd (.int k n) = 1) ∧ (∀ b, I.wd (.bool b) = 1) ∧ (∀ x, I.wd (.str x) = 1) ∧ (∀ x, I.wd (.slice x) = 1) ∧ (∀ n x, I.wd (.ar n x) = 1) ∧ (∀ x, I.wd (.ref x) = 1) ∧ (∀ x, I.wd (.bd x) = 1) ∧
  I.wd .bu = 1 ∧ I.wd .dI = 1 ∧ I.wd .hole = 1 ∧ I.wd .fo = 1 ∧ (∀ x y, I.wd (.h x y) = 1) ∧ (∀ x y, I.wd (.aA x y) = 1) ∧ (∀ x y, I.wd (.fn x y) = 1) ∧ (∀ aC, I.wd (.agg aC) = I.eD aC) ∧ (∀ aC, I.wd (.tuple aC) = I.eD aC) ∧ I.eD [] = 0 ∧ (∀ d ds, I.eD (d :: ds) = d.wd + I.eD ds) := by
 simp [I.wd, I.eD]
theorem S8 {α : Type} {e : α → I} {n : Nat} (h : ∀ x, (e x).wd = n) (xs : List α) : (∀ d ∈ xs.map e, d.wd = n) = True := by
 simp only [List.mem_map, eq_iff_iff, iff_true]
 rintro d ⟨x, _, rfl⟩; exact h x
theorem S9 (C : cw) (s : ax) (A B : TypeId) (k dm : IntKind) (n : Int) (iL : (C.T A).ok = true) (ht : (C.T B).k = .int dm) : fW C s A B (.int k n) = some (.int dm (dm.wrap n)) := by
 simp only [fW, iL, ht, if_true]
theorem Km (m : Int) : kj (pO m) = .int .u8 (IntKind.u8.wrap m) := by
 have h : 0 ≤ IntKind.u8.wrap m ∧ IntKind.u8.wrap m < 256 := by rw [IntKind.wrap_u8]; omega
 simp only [kj, pO, UInt8.toNat_ofNat']
 congr 1
 omega
theorem FH (m : Int) : ((pO m).toNat : Int) = IntKind.u8.wrap m := by
 have h := Km m
 simpa [kj] using h
section
variable {C : cw} {l : List (Nat × I)} {Q : Exit → ax → Prop} {s : ax}
theorem iR {ros : List cO} {k : List Nat} (h : cE C (aa l) ros none (fun _ s => Q .normal (aa (iP k s)))) : dh C (.R ros (some k)) Q (aa l) := su (fun _ _ h => h) h
theorem aM {a b : J} (h : ∀ gK : Exit → ax → Prop, (∀ s, eN (dh C b Q) s → gK .normal s) → (∀ s, Q .ret s → gK .ret s) → (∀ i s, Q (.exit i) s → gK (.exit i) s) → dh C a gK s) : dh C (.seq a b) Q s :=
 h _ (fun _ h => h) (fun _ h => h) (fun _ _ h => h)
theorem cU {ros : List cO} {k : List Nat} {b : J} (h : cE C (aa l) ros none (fun _ s => dh C b Q (aa (iP k s)))) : dh C (.seq (.R ros (some k)) b) Q (aa l) := su (fun _ _ h => .inl h) h
theorem hf {ros : List cO} {hd : List (List Nat)} {k : List Nat} {b : J} (hlen : hd.length = ros.length) (h : cE C (aa l) ros (some []) (fun acc s => mr (uA hd) 0 [] (acc.getD []).reverse = true ∧ dh C b Q (aa (iP k s)))) :
  dh C (.seq (.g6 ros hd (some k)) b) Q (aa l) := SV (K := fun s => eN (dh C b Q) (aa (iP k s))) hlen (by
   have key : ∀ (os : List cO) (s : ax) (acc : Option (List fF)), cE C s os acc (fun acc s => mr (uA hd) 0 [] (acc.getD []).reverse = true ∧ dh C b Q (aa (iP k s))) →
     cE C s os acc (fun acc s => mr (uA hd) 0 [] (acc.getD []).reverse = true ∧ eN (dh C b Q) (aa (iP k s))) := by
    intro os
    induction os with
    | nil => intro s acc h; exact ⟨h.1, .inl h.2⟩
    | cons o os ih =>
      intro s acc h
      have mono : ∀ {s : ax} {bT : gj} {K dA : List Nat → I → ax → Prop}, (∀ a b c, K a b c → dA a b c) → nL C s bT K → nL C s bT dA := by
       intro s bT K dA aD h
       cases bT with
       | call f args =>
         obtain ⟨g, caps, ps, r, af, gm, ai, aN, bk, cc, cF, ct, fC⟩ := h
         exact ⟨g, caps, ps, r, af, gm, ai, aN, bk, cc, cF, ct, aD _ _ _ fC⟩
       | shr bT => obtain ⟨av, s1, af, ai, aN, bk⟩ := h; exact ⟨av, s1, af, ai, aN, aD _ _ _ bk⟩
       | mi f args u x =>
         obtain ⟨cf, cB, g, caps, ps, r, af, gm, ai, aN, bk, cc, cF, ct, fC, ir, hE⟩ := h
         exact ⟨cf, cB, g, caps, ps, r, af, gm, ai, aN, bk, cc, cF, ct, fC, ir, aD _ _ _ hE⟩
       | j6 f args us =>
         obtain ⟨cB, g, caps, ps, r, af, gm, ai, aN, bk, cc, cF, ct, fC, ir⟩ := h
         exact ⟨cB, g, caps, ps, r, af, gm, ai, aN, bk, cc, cF, ct, fC, aD _ _ _ ir⟩
       | _ => obtain ⟨av, s1, af, ai⟩ := h; exact ⟨av, s1, af, aD _ _ _ ai⟩
      simp only [cE, mZ] at h ⊢
      split
      ·rename_i cg; rw [cg] at h; exact mono (fun _ _ _ => ih _ _) h
      ·rename_i t fV cg
       rw [cg] at h
       simp only at h
       split
       ·rename_i axH ah
        rw [ah] at h
        simp only at h
        split
        ·rename_i ad; rw [if_pos ad] at h; exact mono (fun _ _ _ => ih _ _) h
        ·rename_i ad; rw [if_neg ad] at h; exact ih _ _ h
       ·rename_i ah; rw [ah] at h; exact ih _ _ h
       ·rename_i af ai
        split at h
        ·exact af _ (by assumption)
        ·exact ai (by assumption)
        ·exact h
   exact key _ _ _ h)
theorem aZ {c : aH} {a b : J} (ay : aV s c = .bool true) (h : dh C a Q s) : dh C (.cond c a b) Q s := by simp only [dh, ay, if_true]; exact h
theorem a6 {c : aH} {a b : J} (ay : aV s c = .bool false) (h : dh C b Q s) : dh C (.cond c a b) Q s := by simp only [dh, ay]; exact h
theorem bK {id : Nat} {b : J} (h : ∀ gK : Exit → ax → Prop, (∀ s, Q .normal s → gK .normal s) → (∀ s, Q .ret s → gK .ret s) → (∀ s, Q .normal s → gK (.exit id) s) → (∀ i s, i ≠ id → Q (.exit i) s → gK (.exit i) s) → dh C b gK s) : dh C (.block id b) Q s :=
 h (ur id Q) (fun _ h => h) (fun _ h => h) (fun s h => by simp only [ur, if_true]; exact h) (fun i s ao h => by simp only [ur, if_neg ao]; exact h)
theorem dL {id : Nat} (h : Q (.exit id) s) : dh C (.exit id) Q s := h
theorem aJ (h : Q .ret s) : dh C .ret Q s := h
theorem a_ (h : Q .normal s) : dh C .skip Q s := h
def du (C : cw) (b : J) (Q : Exit → ax → Prop) (s : ax) : Prop := ∀ Z : ax → Prop, (∀ az, dh C b (andThen (eN Z) Q) az → Z az) → Z s
theorem dG {b : J} (h : eN (du C b Q) s) : dh C (.loop b) Q s := h
theorem dH {b : J} (h : ∀ gK : Exit → ax → Prop, (∀ s, eN (du C b Q) s → gK .normal s) → (∀ s, Q .ret s → gK .ret s) → (∀ i s, Q (.exit i) s → gK (.exit i) s) → dh C b gK s) : du C b Q s := by
 intro Z uv
 refine uv s (Fj b ?_ (h (andThen (eN (du C b Q)) Q) (fun _ h => h) (fun _ h => h) (fun _ _ h => h)))
 intro e az bM
 cases e with
 | normal => exact uu (fun s h => h Z uv) az bM
 | _ => exact bM
theorem br {ev : List (Nat × I)} (h : ev.map (·.2) = ev.map fun p => s p.1) : xl s ev := by
 intro p aA
 left
 induction ev with
 | nil => cases aA
 | cons a ev ih =>
   simp only [List.map_cons, List.cons.injEq] at h
   rcases List.mem_cons.1 aA with rfl | aA
   ·exact h.1
   ·exact ih h.2 aA
end
section
variable {C : cw} {l : List (Nat × I)} {Q : Exit → ax → Prop} {s : ax} {os ros : List cO} {K : Option (List fF) → ax → Prop} {dst : Option Nat}
theorem Kn (l : List (Nat × I)) : (∀ n, aV (aa l) (.t n) = i7 n (aa l n)) ∧ (∀ av, aV (aa l) (.c av) = av) ∧ (∀ g, aV (aa l) (.f g) = .fn g []) := ⟨fun _ => rfl, fun _ => rfl, fun _ => rfl⟩
theorem Ko : (∀ t, aa [] t = .hole) ∧ (∀ u d (l : List (Nat × I)) t, aa ((u, d) :: l) t = if t = u then d else aa l t) := ⟨fun _ => rfl, fun _ _ _ _ => rfl⟩
theorem Kp (s : ax) : iP [] s = [] ∧ (∀ t k, iP (t :: k) s = (t, s t) :: iP k s) := ⟨rfl, fun _ _ => rfl⟩
theorem Kq (s : ax) : (∀ d, dg s (some d) = some (d, s)) ∧ (∀ s1, el (some s1) = some (.hole, s1)) ∧ h1 s [] = [] ∧ (∀ x xs, h1 s (x :: xs) = aV s x :: h1 s xs) ∧ j8 s [] = [] ∧ (∀ k x xs, j8 s ((k, x) :: xs) = (k, aV s x) :: j8 s xs) ∧
  ld s none = none ∧ (∀ x, ld s (some x) = some (aV s x)) ∧ (∀ b x y, qZ s (.bool b) x y = some (if b = true then x else y, s)) :=
 ⟨fun _ => rfl, fun _ => rfl, rfl, fun _ _ => rfl, rfl, fun _ _ _ => rfl, rfl, fun _ => rfl, fun b _ _ => by cases b <;> rfl⟩
theorem Kr (C : cw) : (∀ e d, FF C (.slice e) (some d) = if (C.T e).ok = true ∧ d.wd = (C.T e).sz then some (.ref d) else none) ∧
  (∀ y q n e sz xs, xu C y q n (.slice e) (some (.ar sz xs)) = if (bQ xs n).isSome = true ∧ (C.T e).ok = true ∧ sz = (C.T e).sz then some (.aA y (q ++ [n.toNat])) else none) ∧
  (∀ e s xs t, u0 C (.slice e) s xs (some t) = if (C.T e).ok = true ∧ ∀ d ∈ xs, d.wd = (C.T e).sz then some (.slice t, s) else none) :=
 ⟨fun _ _ => rfl, fun _ _ _ _ _ _ => rfl, fun _ _ _ _ => rfl⟩
theorem Ks : (∀ b, FD .bool b = some (.bool b)) ∧ (∀ c, FE .str (some c) = some (.int .u8 c.toNat)) ∧ (∀ s t, uZ .str s (some t) = some (.str t, s)) ∧ (∀ q d, xv q (some d) = I.sub q d) :=
 ⟨fun _ => rfl, fun _ => rfl, fun _ _ => rfl, fun _ _ => rfl⟩
theorem Kt (sz bytes : Nat) (z : I) : (∀ k, g_.ok ⟨.int k, sz, bytes, z⟩ = true) ∧ g_.ok ⟨.bool, sz, bytes, z⟩ = true ∧ g_.ok ⟨.str, sz, bytes, z⟩ = true ∧ (∀ e, g_.ok ⟨.ptr e, sz, bytes, z⟩ = true) ∧ (∀ e, g_.ok ⟨.slice e, sz, bytes, z⟩ = true) ∧ (∀ e, g_.ok ⟨.struct e, sz, bytes, z⟩ = true) ∧ g_.ok ⟨.fn, sz, bytes, z⟩ = true := by
 simp [g_.ok]
theorem Ku (sz bytes : Nat) (z : I) : (∀ k, g_.flat ⟨.int k, sz, bytes, z⟩ = true) ∧ g_.flat ⟨.bool, sz, bytes, z⟩ = true ∧ g_.flat ⟨.str, sz, bytes, z⟩ = true ∧ (∀ e, g_.flat ⟨.ptr e, sz, bytes, z⟩ = true) ∧ (∀ e, g_.flat ⟨.slice e, sz, bytes, z⟩ = true) ∧ (∀ e, g_.flat ⟨.struct e, sz, bytes, z⟩ = false) ∧ g_.flat ⟨.fn, sz, bytes, z⟩ = true := by
 simp [g_.flat]
theorem xw (c : UInt8) (k : IntKind) (aD : k ≠ .i8) : k.wrap (c.toNat : Int) = (c.toNat : Int) := by
 have := c.toNat_lt
 cases k <;> first | (exact (aD rfl).elim) | (simp [IntKind.wrap, IntKind.bits, IntKind.signed]; try omega)
theorem FI (c : UInt8) : IntKind.i64.wrap (c.toNat : Int) = (c.toNat : Int) ∧ IntKind.u64.wrap (c.toNat : Int) = (c.toNat : Int) ∧ IntKind.u8.wrap (c.toNat : Int) = (c.toNat : Int) ∧ IntKind.i32.wrap (c.toNat : Int) = (c.toNat : Int) ∧ IntKind.u32.wrap (c.toNat : Int) = (c.toNat : Int) :=
 ⟨xw c _ (by simp), xw c _ (by simp), xw c _ (by simp), xw c _ (by simp), xw c _ (by simp)⟩
theorem bX {k : List Nat} {K : ax → Prop} (ev : List (Nat × I)) (h : ∀ P : List (Nat × I) → Prop, P ev → cE C (aa l) ros none (fun _ s => P (iP k s))) (aD : K (aa ev)) : cE C (aa l) ros none (fun _ s => K (aa (iP k s))) :=
 h (fun l => K (aa l)) aD
theorem hg {k : List Nat} {mu : List (List Nat)} {K : ax → Prop} (ev : List (Nat × I)) (h : ∀ P : List (Nat × I) → Prop, P ev → cE C (aa l) ros (some []) (fun acc s => mr mu 0 [] (acc.getD []).reverse = true ∧ P (iP k s))) (aD : K (aa ev)) :
  cE C (aa l) ros (some []) (fun acc s => mr mu 0 [] (acc.getD []).reverse = true ∧ K (aa (iP k s))) :=
 h (fun l => K (aa l)) aD
theorem aQ.S_ (bI : C.Ok) {f : FuncId} {fn : Func} {c : Code} {dK : J} {fx : List Nat} {as outs : List I} {r : I} (bJ : C.P.funcs[f]? = some fn) (ad : fn.body = some c)
  (lb : (fn.name == "runtime.NumGoroutine") = false) (ah : bG ⟨fn.ntmps, fx⟩ c = some dK.strip) (bl : as.length ≤ fn.ntmps)
  (h : ∀ Q : Exit → ax → Prop, (∀ s, eN (Ends C fx fn.results.toList r outs) s → Q .ret s) → (∀ s, eN (Ends C fx fn.results.toList r outs) s → Q .normal s) → dh C dK Q (aa (num 0 as))) (aA : dK.plain = true := by kernel_rfl) : aQ C f as r outs := by
 refine aQ.of_wp bI bJ ad lb ah bl ?_ aA
 rw [Fp]
 exact h _ (fun s h => ⟨.inr rfl, h⟩) (fun s h => ⟨.inl rfl, h⟩)
def Ta : List I → I
 | [d] => d
 | ds => .tuple ds
theorem aK {fx : List Nat} {gW : List ResultVar} {r : I} {outs : List I} (ds : List I) (af : gW.map (qX C s) = ds.map some) (ai : r = Ta ds) (aN : (gW.map jR).Nodup)
  (bk : ∀ (i : Nat) (o : I), outs[i]? = some o → o = .hole ∨ (o = s i ∧ o.gI = true ∧ i ∈ fx ∧ i ∉ gW.map jR)) : Ends C fx gW r outs s := ⟨ds, af, by subst ai; cases ds with | nil => rfl | cons a t => cases t <;> rfl, aN, bk⟩
theorem aO {fx : List Nat} {gW : List ResultVar} : ∀ (i : Nat) (o : I), ([] : List I)[i]? = some o → o = .hole ∨ (o = s i ∧ o.gI = true ∧ i ∈ fx ∧ i ∉ gW.map jR) := fun i o h => by simp at h
theorem Kv : ∀ (as ds : List I), (lU as ds).filter (·.g) = []
 | [], _ => rfl
 | _ :: _, [] => rfl
 | a :: as, d :: ds => by simp only [lU, List.filter_cons]; exact Kv as ds
theorem Az {f : aH} {args : List aH} {g : FuncId} {caps : List I} {K : List Nat → I → ax → Prop} (ds : List I) (r : I)
  (af : aV (aa l) f = .fn g caps) (gm : I.dO caps = true) (iC : views (aa l) (h1 (aa l) args ++ caps) = some ds)
  (cc : aQ C g ds r []) (cF : r.res = true) (ct : I.eL (h1 (aa l) args ++ caps) = [] ∨ r.c4 = true) (jq : K [] r (aa l)) : nL C (aa l) (.call f args) K := by
 obtain ⟨a1, bh, a8, c6, da, cv, cr⟩ := Sl _ _ iC
 refine ⟨g, caps, lU (h1 (aa l) args ++ caps) ds, r, af, gm, by rw [a1, uB], fun p aA => (a8 p aA).1, c6, by rw [bh]; exact cc.outs da.symm, cF, ?_, by rw [cv, cr, Kv]; exact jq⟩
 intro hl
 refine ⟨?_, fun p aA => by rw [(a8 p aA).2.2.1]; rfl⟩
 rcases ct with ct | ct
 ·exfalso
  simp only [jL, List.any_eq_true] at hl
  obtain ⟨p, aA, gz⟩ := hl
  have hm := (a8 p aA).2.2.2
  have : p.a.ah = [] := by
   have key : ∀ (as : List I) (a : I), a ∈ as → I.eL as = [] → a.ah = [] := by
    intro as
    induction as with
    | nil => intro a h; cases h
    | cons b as ih =>
      intro a h he
      simp only [I.eL, List.append_eq_nil_iff] at he
      rcases List.mem_cons.1 h with rfl | h
      ·exact he.1
      ·exact ih a h he.2
   exact key _ _ hm ct
  rw [this] at gz; simp at gz
 ·exact ct
theorem e6 {f : aH} {args : List aH} {g : FuncId} {caps : List I} {ds : List I} {r : I} (cc : aQ C g ds r [])
  (af : aV (aa l) f = .fn g caps) (gm : I.dO caps = true) (iC : views (aa l) (h1 (aa l) args ++ caps) = some ds)
  (cF : r.res = true) (ct : I.eL (h1 (aa l) args ++ caps) = [] ∨ r.c4 = true)
  (jq : cE C (fin (aa l) dst r) os none K) : cE C (aa l) (⟨dst, .call f args, none⟩ :: os) none K := by
 simp only [cE, mZ, pj]
 exact Az ds r af gm iC cc cF ct jq
theorem iS {a : List fF} {f : aH} {args : List aH} {g : FuncId} {caps : List I} {ds : List I} {r : I} (cc : aQ C g ds r [])
  (af : aV (aa l) f = .fn g caps) (gm : I.dO caps = true) (iC : views (aa l) (h1 (aa l) args ++ caps) = some ds)
  (cF : r.res = true) (ct : I.eL (h1 (aa l) args ++ caps) = [] ∨ r.c4 = true)
  (jq : cE C (fin (aa l) dst r) os (some (iQ (aa l) (use (aa l) (.call f args)) dst [] r :: a)) K) : cE C (aa l) (⟨dst, .call f args, none⟩ :: os) (some a) K := by
 simp only [cE, mZ, pj]
 exact Az ds r af gm iC cc cF ct jq
theorem hy {t : Nat} {b : Bool} {f : aH} {args : List aH} {g : FuncId} {caps : List I} {ds : List I} {r : I} (cc : aQ C g ds r [])
  (af : aV (aa l) f = .fn g caps) (gm : I.dO caps = true) (iC : views (aa l) (h1 (aa l) args ++ caps) = some ds)
  (cF : r.res = true) (ct : I.eL (h1 (aa l) args ++ caps) = [] ∨ r.c4 = true)
  (jq : cE C (fin (aa l) dst r) os none K) : cL C l dst (.call f args) t b os none K (.bool b) := by
 simp only [cL, if_true]
 exact Az ds r af gm iC cc cF ct jq
theorem mv {a : List fF} {t : Nat} {b : Bool} {f : aH} {args : List aH} {g : FuncId} {caps : List I} {ds : List I} {r : I} (cc : aQ C g ds r [])
  (af : aV (aa l) f = .fn g caps) (gm : I.dO caps = true) (iC : views (aa l) (h1 (aa l) args ++ caps) = some ds)
  (cF : r.res = true) (ct : I.eL (h1 (aa l) args ++ caps) = [] ∨ r.c4 = true)
  (jq : cE C (fin (aa l) dst r) os (some (iQ (aa l) (t :: use (aa l) (.call f args)) dst [] r :: a)) K) : cL C l dst (.call f args) t b os (some a) K (.bool b) := by
 simp only [cL, if_true]
 exact Az ds r af gm iC cc cF ct jq
theorem fY (s : ax) : views s [] = some [] ∧ (∀ d ds, views s (d :: ds) = (match view s d, views s ds with | some a, some b => some (a :: b) | _, _ => none)) ∧
  (∀ k n, view s (.int k n) = some (.int k n)) ∧ (∀ b, view s (.bool b) = some (.bool b)) ∧ (∀ x, view s (.str x) = some (.str x)) ∧ (∀ x, view s (.slice x) = some (.slice x)) ∧ (∀ x, view s (.ref x) = some (.ref x)) ∧
  view s .bu = some .bu ∧ view s .dI = some .dI ∧ (∀ aC, view s (.agg aC) = some (.agg aC)) ∧ (∀ f cap, view s (.fn f cap) = (views s cap).map (.fn f)) := by
 refine ⟨rfl, fun d ds => ?_, fun _ _ => rfl, fun _ => rfl, fun _ => rfl, fun _ => rfl, fun _ => rfl, rfl, rfl, fun _ => rfl, fun _ _ => by simp only [view]⟩
 simp only [views]; rfl
theorem cb {α : Type} {u e : α → I} (h : ∀ x, (u x).share = e x) (xs : List α) : I.shares (xs.map u) = xs.map e := by
 rw [I.rR]; simp [h]
theorem je {α : Type} {u : α → I} (h : ∀ x, (u x).c4 = true) (xs : List α) : I.hx (xs.map u) = true := by
 induction xs with
 | nil => rfl
 | cons x xs ih => simp only [List.map_cons, I.hx, h, ih, Bool.and_self]
def q0 (s : ax) (H : List Nat) : List (Nat × I) → Prop
 | [] => True
 | p :: l => (p.2 = s p.1 ∨ ((s p.1).tree = true ∧ fy (s p.1) p.2 ∧ p.1 ∉ H)) ∧ q0 s H l
theorem q1 {ev : List (Nat × I)} (H : List Nat) (jQ : I.eL (ev.map (·.2)) = H) (h : q0 s H ev) : xl s ev := by
 have key : ∀ (hS : List (Nat × I)), q0 s H hS → ∀ p ∈ hS, p.2 = s p.1 ∨ ((s p.1).tree = true ∧ fy (s p.1) p.2 ∧ p.1 ∉ H) := by
  intro hS
  induction hS with
  | nil => intro _ p aA; cases aA
  | cons a hS ih =>
    intro h p aA
    rcases List.mem_cons.1 aA with rfl | aA
    ·exact h.1
    ·exact ih h.2 p aA
 have ah : ∀ (hS : List (Nat × I)), ∀ cN ∈ hS, ∀ u ∈ cN.2.ah, u ∈ I.eL (hS.map (·.2)) := by
  intro hS
  induction hS with
  | nil => intro p aA; cases aA
  | cons a hS ih =>
    intro p aA u hu
    simp only [List.map_cons, I.eL, List.mem_append]
    rcases List.mem_cons.1 aA with rfl | aA
    ·exact .inl hu
    ·exact .inr (ih p aA u hu)
 intro p aA
 rcases key _ h p aA with af | ⟨af, ai, aN⟩
 ·exact .inl af
 ·refine .inr ⟨af, ai, fun cN eY => .inl fun hm => aN ?_⟩
  rw [← jQ]; exact ah ev cN eY _ hm
theorem q2 {H : List Nat} : q0 s H [] := trivial
theorem lf {H : List Nat} {t : Nat} {d : I} {ev : List (Nat × I)} (h : d = s t) (hl : q0 s H ev) : q0 s H ((t, d) :: ev) := ⟨.inl h, hl⟩
theorem q3 {H : List Nat} {t : Nat} {d bL : I} {ev : List (Nat × I)} (e : s t = d) (bs : d.tree = true) (ak : fy d bL) (jQ : t ∉ H) (hl : q0 s H ev) : q0 s H ((t, bL) :: ev) := ⟨.inr ⟨by rw [e]; exact bs, by rw [e]; exact ak, jQ⟩, hl⟩
theorem Kw {a b : I} (h : fy a b) : ∀ n, j7 (List.replicate n a) (List.replicate n b)
 | 0 => .nil
 | n + 1 => by simp only [List.replicate_succ]; exact .cons h (Kw h n)
theorem AA {α : Type} {sz : Nat} {u : α → I} {z : α} {a : I} (h : fy a (u z)) (n : Nat) : fy (.ar sz (List.replicate n a)) (.ar sz ((List.replicate n z).map u)) := by
 rw [List.map_replicate]; exact .ar (Kw h n)
end
theorem Kx {C : cw} {A B : TypeId} {dm : IntKind} (iL : (C.T A).ok = true) (ht : (C.T B).k = .int dm) : ∀ s k n, fW C s A B (.int k n) = some (.int dm (dm.wrap n)) := fun s k n => S9 C s A B k dm n iL ht
def Ky : Option I → Option I
 | some (.ar 1 xs) => (bytesOf xs).map .str
 | _ => none
theorem Kz {C : cw} {A B e : TypeId} (iL : (C.T A).k = .slice e) (ht : (C.T B).k = .str) (he : (C.T e).k = .int .u8) :
  (∀ s xs, fW C s A B (.slice xs) = (bytesOf xs).map .str) ∧ (∀ s, fW C s A B .bu = some (.str [])) ∧ (∀ s x q, fW C s A B (.h x q) = Ky (I.sub q (s x))) := by
 have wU : (C.T A).ok = true := by simp [g_.ok, iL]
 refine ⟨fun s xs => ?_, fun s => ?_, fun s x q => ?_⟩
 ·simp only [fW, wU, iL, ht, he, if_true]
 ·simp only [fW, wU, iL, ht, he, if_true]
 ·simp only [fW, wU, iL, ht, he, if_true]
  rfl
theorem KA (xs : List I) : Ky (some (.ar 1 xs)) = (bytesOf xs).map .str := rfl
theorem KB (c : UInt8) (r : List I) : bytesOf (kj c :: r) = (bytesOf r).map (c :: ·) := by
 have := c.toNat_lt
 simp only [kj, bytesOf]
 rw [if_pos (by omega)]
 simp
theorem KC : bytesOf [] = some [] ∧ (∀ l : List UInt8, bytesOf (l.map kj) = some l) ∧ (∀ (c : UInt8) r, bytesOf (.int .u8 (c.toNat : Int) :: r) = (bytesOf r).map (c :: ·)) ∧
  (∀ m r, bytesOf (.int .u8 (IntKind.u8.wrap m) :: r) = (bytesOf r).map (pO m :: ·)) :=
 ⟨rfl, Qh, fun c r => KB c r, fun m r => by rw [← Km]; exact KB _ r⟩
theorem Tb {k : IntKind} {b : Int} (h : b ≠ 0) : ∀ a, iK .quo k a k b = some (.int k (k.wrap (a.tdiv b))) := fun _ => S6 h
theorem KD {k : IntKind} {b : Int} (h : b ≠ 0) : ∀ a, iK .rem k a k b = some (.int k (a.tmod b)) := fun _ => S7 h
theorem kO {α : Type} {e : α → I} {n : Nat} (h : ∀ x, (e x).wd = n) : ∀ xs : List α, (∀ d ∈ xs.map e, d.wd = n) = True := S8 h
theorem all_cons {P : I → Prop} (d : I) (ds : List I) : (∀ x ∈ d :: ds, P x) = (P d ∧ ∀ x ∈ ds, P x) := by simp
theorem all_nil {P : I → Prop} : (∀ x ∈ ([] : List I), P x) = True := by simp
def KE (a b : List UInt8) : Option Unit → Option I
 | some _ => some (.str (a ++ b))
 | none => none
theorem AB (a b : List UInt8) : mT .add a b = KE a b (o4 (a.length + b.length)) := by
 simp only [mT, o4]; split <;> rfl
theorem AD (a b : List UInt8) (u : Unit) : KE a b (some u) = some (.str (a ++ b)) := rfl
theorem KF : (∀ l : List Nat, [] ++ l = l) ∧ (∀ a (l m : List Nat), (a :: l) ++ m = a :: (l ++ m)) := ⟨fun _ => rfl, fun _ _ _ => rfl⟩
def KG (C : cw) (e bV : TypeId) : Bool := (C.T e).ok && ((C.T e).zero.wd == (C.T e).sz) && (flat (C.T e).zero).isSome && zY C e bV
def AE (C : cw) (e : TypeId) (xs : List I) : Option (List I × ax) → Option (I × ax)
 | some (cp, s2) => if (∀ d ∈ cp, d.wd = (C.T e).sz) ∧ (room (C.T e).bytes (xs.length + cp.length)).isSome = true then some (.ar (C.T e).sz (xs ++ cp), s2) else none
 | none => none
def FJ (C : cw) (e : TypeId) (y : I) (o : Option Nat) : Option (I × ax) → Option (I × ax)
 | some (.ar sz xs, s1) => if sz = (C.T e).sz then AE C e xs (k8 s1 (kD o y)) else none
 | _ => none
theorem Tc (b n : Nat) : (room b n).isSome = true ↔ n * b ≤ 140737488355328 ∧ n ≤ 9223372036854775807 := by unfold room; split <;> simp_all
theorem mw {C : cw} {T bV e : TypeId} (kC : (C.T T).k = .slice e) (gJ : KG C e bV = true) : ∀ s x y, lQ C s T bV x y = FJ C e y x.owner (pe C e s x) := by
 intro s x y
 simp only [KG, Bool.and_eq_true, beq_iff_eq] at gJ
 rw [EU, kC]
 simp only
 rw [if_pos ⟨gJ.1.1.1, gJ.1.1.2, gJ.1.2, gJ.2⟩]
 generalize x.owner = o
 cases pe C e s x with
 | none => rfl
 | some p =>
   obtain ⟨d, s1⟩ := p
   cases d <;> first
    | rfl
    | (simp only [FJ]
       split
       ·rename_i h; subst h
        generalize k8 s1 (kD o y) = z
        cases z with
        | none => rfl
        | some p => simp only [AE, Tc]
       ·rfl)
def KH : Option (I × ax) → Option (List I × ax)
 | some (.ar _ cp, s2) => some (cp, s2)
 | _ => none
theorem mx (s : ax) : k8 s .bu = some ([], s) ∧ (∀ cp, k8 s (.slice cp) = some (cp, s)) ∧ (∀ l, k8 s (.str l) = some (l.map kj, s)) ∧
  (∀ a q, k8 s (.h a q) = KH (c2 s (.h a q))) ∧ (∀ n cp, KH (some (.ar n cp, s)) = some (cp, s)) :=
 ⟨rfl, fun _ => rfl, fun _ => rfl, fun _ _ => by simp only [k8]; rfl, fun _ _ => rfl⟩
theorem my (C : cw) (e : TypeId) : (∀ s, pe C e s .bu = some (.ar (C.T e).sz [], s)) ∧ (∀ s a q, pe C e s (.h a q) = c2 s (.h a q)) ∧
  (∀ y o sz xs s1, FJ C e y o (some (.ar sz xs, s1)) = if sz = (C.T e).sz then AE C e xs (k8 s1 (kD o y)) else none) ∧
  (∀ xs cp s2, AE C e xs (some (cp, s2)) = if (∀ d ∈ cp, d.wd = (C.T e).sz) ∧ (room (C.T e).bytes (xs.length + cp.length)).isSome = true then some (.ar (C.T e).sz (xs ++ cp), s2) else none) :=
 ⟨fun _ => rfl, fun _ _ _ => rfl, fun _ _ _ _ _ => rfl, fun _ _ _ => rfl⟩
theorem mz : (∀ d, kD none d = d) ∧ (∀ x d, kD (some x) d = cm x d) ∧ (∀ x q, I.owner (.h x q) = some x) ∧ I.owner .bu = none :=
 ⟨fun _ => rfl, fun _ _ => rfl, fun _ _ => rfl, rfl⟩
def KI (s : ax) (x : Nat) (q : List Nat) : Option I → Option (I × ax)
 | some d => if d.plain = true then none else some (d, dz (iH x s) x (I.put q d.dq (s x)))
 | none => none
theorem KJ (s : ax) (x : Nat) (q : List Nat) : c2 s (.h x q) = KI s x q (I.sub q (s x)) := by
 simp only [c2]; cases I.sub q (s x) <;> rfl
theorem KK (s : ax) : (∀ x q d, KI s x q (some d) = if d.plain = true then none else some (d, dz (iH x s) x (I.put q d.dq (s x)))) ∧ (∀ k n, c2 s (.int k n) = some (.int k n, s)) ∧ (∀ b, c2 s (.bool b) = some (.bool b, s)) ∧ (∀ x, c2 s (.str x) = some (.str x, s)) ∧
  (∀ x, c2 s (.slice x) = some (.slice x, s)) ∧ (∀ x, c2 s (.ref x) = some (.ref x, s)) ∧ (∀ x, c2 s (.agg x) = some (.agg x, s)) ∧ c2 s .bu = some (.bu, s) ∧ c2 s .dI = some (.dI, s) :=
 ⟨fun _ _ _ => rfl, fun _ _ => rfl, fun _ => rfl, fun _ => rfl, fun _ => rfl, fun _ => rfl, fun _ => rfl, rfl, rfl⟩
theorem KL (l : List (Nat × I)) (t : Nat) (d : I) : dz (aa l) t d = aa ((t, d) :: l) := kN l t d
theorem KM : (∀ n x, I.dq (.ar n x) = .hole) ∧ (∀ x, I.dq (.bd x) = .hole) ∧ (∀ aC, I.dq (.agg aC) = .agg (I.kZ aC)) ∧ (∀ aC, I.dq (.tuple aC) = .tuple (I.kZ aC)) ∧ I.kZ [] = [] ∧ (∀ d ds, I.kZ (d :: ds) = d.dq :: I.kZ ds) ∧
  (∀ k n, I.dq (.int k n) = .int k n) ∧ (∀ b, I.dq (.bool b) = .bool b) ∧ (∀ x, I.dq (.str x) = .str x) ∧ (∀ x, I.dq (.slice x) = .slice x) ∧ (∀ x, I.dq (.ref x) = .ref x) ∧ I.dq .bu = .bu ∧ I.dq .dI = .dI ∧ I.dq .hole = .hole := by
 simp [I.dq, I.kZ]
def sA : Option I → Option I
 | some d => (match d with | .tuple _ => none | d => if d.plain = true then none else some d.share)
 | none => none
def sB : Option I → Option I
 | some d => (match d with | .tuple _ => none | d => some (.ref d.share))
 | none => none
theorem fZ (s : ax) (x : Nat) (q : List Nat) : view s (.h x q) = sA (I.sub q (s x)) ∧ view s (.aA x q) = (if I.fL q (s x) = true then sB (I.sub q (s x)) else none) := by
 constructor
 ·simp only [view]; rfl
 ·simp only [view]; rfl
theorem f_ : (∀ n xs, sA (some (.ar n xs)) = some (.slice (I.shares xs))) ∧ (∀ d, sA (some (.bd d)) = some (.ref d.share)) ∧ (∀ aC, sA (some (.agg aC)) = if I.dO aC = true then none else some (.agg (I.shares aC))) ∧
  (∀ aC, sB (some (.agg aC)) = some (.ref (.agg (I.shares aC)))) ∧ (∀ k n, sB (some (.int k n)) = some (.ref (.int k n))) ∧ (∀ x, sB (some (.str x)) = some (.ref (.str x))) :=
 ⟨fun _ _ => by simp [sA, I.plain, I.share], fun _ => by simp [sA, I.plain, I.share], fun aC => by cases h : I.dO aC <;> simp [sA, I.plain, I.share, h], fun _ => by simp [sB, I.share], fun _ _ => by simp [sB, I.share], fun _ => by simp [sB, I.share]⟩
theorem di : (∀ n xs, I.share (.ar n xs) = .slice (I.shares xs)) ∧ (∀ d, I.share (.bd d) = .ref d.share) ∧ (∀ xs, I.share (.slice xs) = .slice (I.shares xs)) ∧ (∀ d, I.share (.ref d) = .ref d.share) ∧ (∀ aC, I.share (.agg aC) = .agg (I.shares aC)) ∧ (∀ aC, I.share (.tuple aC) = .tuple (I.shares aC)) ∧
  (∀ k n, I.share (.int k n) = .int k n) ∧ (∀ b, I.share (.bool b) = .bool b) ∧ (∀ x, I.share (.str x) = .str x) ∧ I.share .bu = .bu ∧ I.share .dI = .dI ∧ I.shares [] = [] ∧ (∀ d ds, I.shares (d :: ds) = d.share :: I.shares ds) := by
 simp [I.share, I.shares]
theorem eZ : (∀ k n, I.owner (.int k n) = none) ∧ (∀ b, I.owner (.bool b) = none) ∧ (∀ x, I.owner (.str x) = none) ∧ (∀ x, I.owner (.slice x) = none) ∧ (∀ x, I.owner (.ref x) = none) ∧ (∀ x, I.owner (.agg x) = none) ∧ I.owner .dI = none ∧ I.owner .bu = none ∧ (∀ x q, I.owner (.h x q) = some x) :=
 ⟨fun _ _ => rfl, fun _ => rfl, fun _ => rfl, fun _ => rfl, fun _ => rfl, fun _ => rfl, rfl, rfl, fun _ _ => rfl⟩
end Go.c5
