/- Part of a proof that a law returns true for every input. No condition. -/
import Derived.Test.YtbemmmimelklkaaGreatFwE
import Derived.Orders
import Derived.KernelRfl
import Derived.Test.YtbemmmimelklkaaGreatFwA
namespace Go.dk
section
variable {C : ck} {w0 w : World} {F0 X : Nat → Prop} {n : Fr} {ρ : Nat → Value} {s s1 : ar} {a : Act} {av : I} {Q : Exit → Act → World → Prop}
def cK.un (o : cK) : cK := ⟨o.dst, o.bN.base, o.guard⟩
theorem vK {ops : Array Oper} : ∀ {os : List Oper} {rs : List cK}, oK n ops os = some rs → os.length = rs.length ∧ ∀ (i : Nat) (o : Oper), os[i]? = some o → ∃ r, rs[i]? = some r ∧ oJ n ops o = some r := by
 intro os
 induction os with
 | nil => intro rs h; simp only [oK, Option.some.injEq] at h; subst h; exact ⟨rfl, fun i o h => by simp at h⟩
 | cons o os ih =>
   intro rs h
   simp only [oK] at h
   split at h
   ·rename_i r auS ai aj
    simp only [Option.some.injEq] at h; subst h
    obtain ⟨b5, cu⟩ := ih aj
    refine ⟨by simp [b5], fun i mu cm => ?_⟩
    cases i with
    | zero => simp at cm; subst cm; exact ⟨r, rfl, ai⟩
    | succ i => simpa using cu i mu (by simpa using cm)
   ·cases h
theorem yW {o : Oper} {y : Nat → Option Bool} (h : o.guard = none) : Region.wanted o y = true := by simp [Region.wanted, h]
theorem Pn (h : Rel w0 F0 X n ρ s a w) {ops : Array Oper} {j t : Nat} (cJ : (ops[j]?).bind (·.dst) = some t) :
  (∀ b, s t = .bool b → yielded ops a.tmps j = some b) ∧ (s t = .tuple [] → yielded ops a.tmps j = none) := by
 obtain ⟨al, ah, bH, F, S, a7⟩ := h
 have iY := a7.eu t
 refine ⟨fun b ae => ?_, fun ae => ?_⟩
 ·rw [ae] at iY
  have a3 := q1 iY
  simp only [yielded, cJ, Option.bind_some]
  rw [Array.getD_eq_getD_getElem?] at a3
  cases b8 : a.tmps[t]? with
  | none => rw [b8] at a3; simp [undef] at a3
  | some v => rw [b8] at a3; simp at a3; subst a3; rfl
 ·rw [ae] at iY
  obtain ⟨⟨arr, ai, aj⟩, _⟩ := (aW.da (d := .tuple []) rfl).1 iY
  simp only [yielded, cJ, Option.bind_some]
  rw [Array.getD_eq_getD_getElem?] at ai
  cases b8 : a.tmps[t]? with
  | none => rfl
  | some v => rw [b8] at ai; simp at ai; subst ai; rfl
theorem Dw (bB : C.fq) {ops : Array Oper} {ros : List cK} {l2 : List Nat} {K : ar → Prop} (bg : ∀ aA cR aU, K aA → Rel w0 F0 X n ρ aA cR aU → wpOps C.P ops Q l2 cR aU) :
  ∀ (l : List Nat), (∀ i ∈ l, (ops[i]? = none → ros[i]? = none) ∧ ∀ o, ops[i]? = some o → ∃ r, ros[i]? = some r ∧ oJ n ops o = some r.un) →
  ∀ (s : ar) (a : Act) (w : World), jy C ros s l K → Rel w0 F0 X n ρ s a w → wpOps C.P ops Q (l ++ l2) a w := by
 intro l
 induction l with
 | nil => intro _ s a w h a7; exact bg s a w h a7
 | cons i l ih =>
   intro oL s a w h a7
   replace ih := ih fun i au => oL i (List.mem_cons_of_mem _ au)
   rw [List.cons_append]
   simp only [wpOps]
   cases cm : ops[i]? with
   | none =>
     simp only [jy, (oL i (by simp)).1 cm] at h
     exact ih s a w h a7
   | some o =>
     obtain ⟨r, ai, aj⟩ := (oL i (by simp)).2 o cm
     simp only [jy, ai] at h
     show (if Region.wanted o (yielded ops a.tmps) = true then o.wp C.P a w (wpOps C.P ops Q (l ++ l2)) Q ∨ (o.asks C.P a w ∧ LetsOut Q) else wpOps C.P ops Q (l ++ l2) (a.put o.dst undef) w)
     simp only [oJ] at aj
     split at aj
     ·rename_i yX
      split at aj
      ·rename_i g b8
       obtain ⟨rd, bN, rg⟩ := r
       simp only [cK.un, Option.some.injEq, cK.mk.injEq] at aj
       obtain ⟨rfl, cP, rfl⟩ := aj
       simp only [k9] at h
       have run : ∀ (du : ar → Prop), (∀ aA, du aA → jy C ros aA l K) → m7 C s bN (fun av s1 => du (fin s1 o.dst av)) → o.wp C.P a w (wpOps C.P ops Q (l ++ l2)) Q :=
        fun du i_ hw => Pl bB a7 cP yX hw (fun aA cR aU aE ff => ih aA cR aU (i_ aA aE) ff)
       cases tk : o.guard with
       | none =>
         rw [tk] at b8
         simp only [vE, Option.some.injEq] at b8; subst b8
         simp only at h
         rw [if_pos (yW tk)]
         exact .inl (run _ (fun _ h => h) h)
       | some Dx =>
         obtain ⟨j, b⟩ := Dx
         rw [tk] at b8
         simp only [vE] at b8
         split at b8
         ·rename_i t bh
          simp only [Option.some.injEq] at b8; subst b8
          simp only at h
          obtain ⟨fE, g_⟩ := Pn a7 bh
          have Hr : ∀ (du : jy C ros (fin s o.dst (.tuple [])) l K), wpOps C.P ops Q (l ++ l2) (a.put o.dst undef) w := fun du => ih _ _ _ du (Rel.skip a7 yX)
          split at h
          ·rename_i fY ah
           have bL := fE fY ah
           split at h
           ·rename_i ae; subst ae
            rw [if_pos (by simp [Region.wanted, tk, bL])]
            exact .inl (run _ (fun _ h => h) h)
           ·rename_i ae
            rw [if_neg (by simp [Region.wanted, tk, bL, ae])]
            exact Hr h
          ·rename_i ah
           have bL := g_ ah
           rw [if_neg (by simp [Region.wanted, tk, bL])]
           exact Hr h
          ·exact h.elim
         ·cases b8
      ·cases aj
     ·cases aj
theorem Hs (bB : C.fq) {ops : Array Oper} {ros : List cK} (p9 : oK n ops ops.toList = some (ros.map cK.un)) {K : ar → Prop} (bg : ∀ aA cR aU, K aA → Rel w0 F0 X n ρ aA cR aU → Q .normal cR aU) :
  ∀ (l : List Nat) (s : ar) (a : Act) (w : World), jy C ros s l K → Rel w0 F0 X n ρ s a w → wpOps C.P ops Q l a w := by
 obtain ⟨hl, oL⟩ := vK p9
 intro l s a w h a7
 have := Dw (Q := Q) bB (ros := ros) (ops := ops) (l2 := []) (K := K) (n := n) (ρ := ρ) (w0 := w0) (F0 := F0) (X := X) (fun aA cR aU aE ff => bg aA cR aU aE ff) l (fun i _ => ⟨fun cm => by
   rw [List.getElem?_eq_none_iff, ← List.length_map (f := cK.un), ← hl]
   have := Array.getElem?_eq_none_iff.1 cm
   simpa using this, fun o cm => by
   obtain ⟨an, hL, aj⟩ := oL i o (by simpa using cm)
   obtain ⟨r, ai, rfl⟩ : ∃ r, ros[i]? = some r ∧ r.un = an := by simpa using hL
   exact ⟨r, ai, aj⟩⟩) s a w h a7
 rwa [List.append_nil] at this
theorem Rel.drawn (h : Rel w0 F0 X n ρ s a w) (k : Nat) : Rel w0 F0 X n ρ s a { w with drawn := k } := by
 obtain ⟨ai, aj, bH, F, S, aQ⟩ := h
 exact ⟨ai, aj, bH, F, S, aQ.grow (fun _ _ => rfl) (Nat.le_refl _) rfl rfl rfl⟩
theorem Po (bB : C.fq) {id : Nat} {ops : Array Oper} {ros : List cK} (p9 : oK n ops ops.toList = some (ros.map cK.un)) {K : ar → Prop} (bg : ∀ aA cR aU, K aA → Rel w0 F0 X n ρ aA cR aU → Q .normal cR aU)
  (h : kT C s ros K) (a7 : Rel w0 F0 X n ρ s a w) : (Code.region id ops false).wp C.P Q a w := by
 refine wp_region (Hs bB p9 bg _ s a w ?_ a7)
 have := O7 C K ros [] s h
 have hl := (vK p9).1
 simp only [List.nil_append, List.length_nil, Nat.add_zero, List.map_id'] at this
 rw [List.length_map] at hl
 rw [← hl] at this
 simpa using this
end
def Dy (nQ : List (List Nat)) (l : List Nat) : Prop :=
 l.Nodup ∧ (∀ i, i ∈ l ↔ i < nQ.length) ∧ ∀ u i v, l = u ++ i :: v → ∀ e ∈ (nQ[i]?).getD [], e ∈ u
def m8 (ops : Array Oper) : List (List Nat) := ops.toList.map fun o => (o.after.toList.filter fun e => Region.binds .any e).map (·.on)
def vL (nQ : List (List Nat)) : Bool := nQ.zipIdx.all fun p => p.1.all fun e => decide (e < p.2)
theorem Pp {nQ : List (List Nat)} (h : vL nQ = true) {i : Nat} {l : List Nat} (au : nQ[i]? = some l) : ∀ e ∈ l, e < i := by
 intro e he
 simp only [vL, List.all_eq_true] at h
 have := h (l, i) (by rw [List.mem_zipIdx_iff_getElem?]; exact au) e he
 simpa using this
theorem Pq {ops : Array Oper} (ae : vL (m8 ops) = true) : ∀ (fuel t : Nat) (gv : Array Bool), gv.size = ops.size → ((List.range ops.size).filter fun i => !gv.getD i true).length ≤ fuel →
  (Region.linearise.go .any ops fuel t gv []).Nodup ∧ (∀ i, i ∈ Region.linearise.go .any ops fuel t gv [] ↔ (i < ops.size ∧ gv.getD i true = false)) ∧
   ∀ u i v, Region.linearise.go .any ops fuel t gv [] = u ++ i :: v → ∀ e ∈ ((m8 ops)[i]?).getD [], gv.getD e false = true ∨ e ∈ u := by
 intro fuel
 induction fuel with
 | zero =>
   intro t gv ah hl
   have vl : ((List.range ops.size).filter fun i => !gv.getD i true) = [] := List.length_eq_zero_iff.1 (Nat.le_zero.1 hl)
   refine ⟨by simp [Region.linearise.go], fun i => ?_, fun u i v h => by simp [Region.linearise.go] at h⟩
   simp only [Region.linearise.go, List.reverse_nil, List.not_mem_nil, false_iff, not_and]
   intro au bH
   have : i ∈ ((List.range ops.size).filter fun i => !gv.getD i true) := List.mem_filter.2 ⟨List.mem_range.2 au, by rw [bH]; rfl⟩
   rw [vl] at this; cases this
 | succ fuel ih =>
   intro t gv ah hl
   have Ht : ∀ i, i ∈ Region.ready .any ops gv ↔ (i < ops.size ∧ gv.getD i true = false ∧ ∀ e ∈ ((m8 ops)[i]?).getD [], gv.getD e false = true) := by
    intro i
    simp only [Region.ready, List.mem_filter, List.mem_range, Bool.and_eq_true, Bool.not_eq_true']
    constructor
    ·rintro ⟨ai, aj, aQ⟩
     refine ⟨ai, aj, ?_⟩
     rw [Array.getElem?_eq_getElem ai] at aQ
     simp only [Option.map_some, Option.getD_some, Array.all_eq_true_iff_forall_mem] at aQ
     simp only [m8, List.getElem?_map, Array.getElem?_toList, Array.getElem?_eq_getElem ai, Option.map_some, Option.getD_some, List.mem_map, List.mem_filter]
     rintro e ⟨x, ⟨aC, Dz⟩, rfl⟩
     have := aQ x (by simpa using aC)
     simpa [Dz] using this
    ·rintro ⟨ai, aj, aQ⟩
     refine ⟨ai, aj, ?_⟩
     rw [Array.getElem?_eq_getElem ai]
     simp only [Option.map_some, Option.getD_some, Array.all_eq_true_iff_forall_mem]
     simp only [m8, List.getElem?_map, Array.getElem?_toList, Array.getElem?_eq_getElem ai, Option.map_some, Option.getD_some, List.mem_map, List.mem_filter] at aQ
     intro x aC
     cases Dz : Region.binds .any x with
     | false => simp
     | true => simpa using aQ x.on ⟨x, ⟨by simpa using aC, Dz⟩, rfl⟩
   have hex : (∃ i, i < ops.size ∧ gv.getD i true = false) → Region.ready .any ops gv ≠ [] := by
    rintro ⟨i, ai, aj⟩
    have : ∃ i, (i < ops.size ∧ gv.getD i true = false) ∧ ∀ j, j < i → ¬ (j < ops.size ∧ gv.getD j true = false) := by
     induction i using Nat.strongRecOn with
     | _ i Pr =>
       by_cases cJ : ∃ j, j < i ∧ (j < ops.size ∧ gv.getD j true = false)
       ·obtain ⟨j, Ps, Pt, Pu⟩ := cJ
        exact Pr j Ps Pt Pu
       ·exact ⟨i, ⟨ai, aj⟩, fun j Pv ay => cJ ⟨j, Pv, ay⟩⟩
    obtain ⟨k, ⟨b5, cu⟩, fD⟩ := this
    have : k ∈ Region.ready .any ops gv := (Ht k).2 ⟨b5, cu, fun e he => by
     cases cw : (m8 ops)[k]? with
     | none => rw [cw] at he; simp at he
     | some l =>
       rw [cw] at he
       have fz := Pp ae cw e he
       have := fD e fz
       rw [not_and] at this
       have := this (by omega)
       have mw : e < gv.size := by omega
       simp only [Array.getD_eq_getD_getElem?, Array.getElem?_eq_getElem mw, Option.getD_some] at this ⊢
       simpa using this⟩
    intro e; rw [e] at this; cases this
   have Hu : Region.linearise.go .any ops (fuel + 1) t gv [] = (match (Region.ready .any ops gv)[t % (Region.ready .any ops gv).length]? with
    | some i => Region.linearise.go .any ops fuel (t / (Region.ready .any ops gv).length) (gv.setIfInBounds i true) [i]
    | none => []) := rfl
   cases vM : (Region.ready .any ops gv)[t % (Region.ready .any ops gv).length]? with
   | none =>
     have vl : Region.ready .any ops gv = [] := by
      cases a7 : Region.ready .any ops gv with
      | nil => rfl
      | cons a l =>
        rw [a7] at vM
        have := List.getElem?_eq_none_iff.1 vM
        have aj := Nat.mod_lt t (show 0 < (a :: l).length by simp)
        omega
     rw [Hu, vM]
     refine ⟨by simp, fun i => ?_, fun u i v h => by simp at h⟩
     simp only [List.not_mem_nil, false_iff]
     intro au
     exact hex ⟨i, au⟩ vl
   | some i =>
     have au := (Ht i).1 (List.mem_of_getElem? vM)
     obtain ⟨DA, Hv, Pw⟩ := au
     rw [Hu, vM]
     simp only
     rw [linearise_go_acc]
     simp only [List.reverse_singleton, List.singleton_append]
     have p2 : ∀ j d, (gv.setIfInBounds i true).getD j d = if j = i then true else gv.getD j d := by
      intro j d
      split
      ·rename_i e; subst e
       simp [Array.getD_eq_getD_getElem?, Array.getElem?_setIfInBounds_self_of_lt (show j < gv.size by omega)]
      ·rename_i e
       simp [Array.getD_eq_getD_getElem?, Array.getElem?_setIfInBounds_ne (fun h => e h.symm)]
     obtain ⟨bf, bG, cC⟩ := ih (t / (Region.ready .any ops gv).length) (gv.setIfInBounds i true) (by simpa using ah) (by
      have fp : ((List.range ops.size).filter fun j => !(gv.setIfInBounds i true).getD j true) = ((List.range ops.size).filter fun i => !gv.getD i true).filter fun j => decide (j ≠ i) := by
       rw [List.filter_filter]
       apply List.filter_congr
       intro j _
       rw [p2]
       by_cases e : j = i <;> simp [e]
      rw [fp]
      have fz : (((List.range ops.size).filter fun i => !gv.getD i true).filter fun j => decide (j ≠ i)).length < ((List.range ops.size).filter fun i => !gv.getD i true).length := by
       rw [List.length_filter_lt_length_iff_exists]
       exact ⟨i, List.mem_filter.2 ⟨List.mem_range.2 DA, by rw [Hv]; rfl⟩, by simp⟩
      omega)
     refine ⟨?_, fun j => ?_, ?_⟩
     ·rw [List.nodup_cons]
      refine ⟨fun hm => ?_, bf⟩
      have := ((bG i).1 hm).2
      rw [p2, if_pos rfl] at this; cases this
     ·rw [List.mem_cons, bG, p2]
      by_cases e : j = i
      ·subst e; simp [DA, Hv]
      ·simp [e]
     ·intro u j v h e he
      cases u with
      | nil =>
        simp only [List.nil_append, List.cons.injEq] at h
        obtain ⟨rfl, rfl⟩ := h
        exact .inl (Pw e he)
      | cons yY u =>
        simp only [List.cons_append, List.cons.injEq] at h
        obtain ⟨rfl, h⟩ := h
        rcases cC u j v h e he with bD | bD
        ·rw [p2] at bD
         split at bD
         ·rename_i gE; subst gE; exact .inr (by simp)
         ·exact .inl bD
        ·exact .inr (by simp [bD])
theorem Px {ops : Array Oper} (ae : vL (m8 ops) = true) (t : Nat) : Dy (m8 ops) (Region.linearise .any ops t) := by
 have Hw : ∀ i d, i < ops.size → (Array.replicate ops.size false).getD i d = false := by
  intro i d au
  simp [Array.getD_eq_getD_getElem?, au]
 obtain ⟨bf, bG, cC⟩ := Pq ae ops.size t (Array.replicate ops.size false) (by simp) (by
  have := List.length_filter_le (fun i => !(Array.replicate ops.size false).getD i true) (List.range ops.size)
  simpa using this)
 have hlen : (m8 ops).length = ops.size := by simp [m8]
 refine ⟨bf, fun i => ?_, fun u i v h e he => ?_⟩
 ·rw [hlen]
  rw [show Region.linearise .any ops t = Region.linearise.go .any ops ops.size t (Array.replicate ops.size false) [] from rfl, bG]
  exact ⟨fun h => h.1, fun h => ⟨h, Hw i true h⟩⟩
 ·rcases cC u i v h e he with bD | bD
  ·exfalso
   by_cases Hx : e < ops.size
   ·rw [Hw e false Hx] at bD; cases bD
   ·simp [Array.getD_eq_getD_getElem?, Hx] at bD
  ·exact bD
def aa : List (Nat × I) → ar
 | [], _ => .hole
 | (u, d) :: l, t => if t = u then d else aa l t
mutual
inductive fi : I → I → Prop
 | refl (d : I) : fi d d
 | lY (sz : Nat) : fi .bc (.aw sz [])
 | tl : fi .bc (.slice [])
 | any (b : Bool) : fi (.bool b) .e7
 | share (d : I) : d.tree = true → (∀ vs, d ≠ .tuple vs) → fi d d.share
 | agg {ds es : List I} : jA ds es → fi (.agg ds) (.agg es)
 | a8 {d e : I} : fi d e → fi (.a8 d) (.a8 e)
 | aw {sz : Nat} {ds es : List I} : jA ds es → fi (.aw sz ds) (.aw sz es)
 | tuple {ds es : List I} : jA ds es → fi (.tuple ds) (.tuple es)
 | ref {d e : I} : fi d e → fi (.ref d) (.ref e)
 | trans {d e f : I} : fi d e → fi e f → fi d f
inductive jA : List I → List I → Prop
 | nil : jA [] []
 | cons {d e : I} {ds es : List I} : fi d e → jA ds es → jA (d :: ds) (e :: es)
end
mutual
theorem fi.wd : ∀ {d e : I}, fi d e → e.wd = d.wd
 | _, _, .refl _ => rfl
 | _, _, .lY _ => rfl
 | _, _, .tl => rfl
 | _, _, .any _ => rfl
 | _, _, .share d _ _ => I.yf d
 | _, _, .agg h => by simp only [I.wd]; exact jA.wd h
 | _, _, .a8 _ => rfl
 | _, _, .aw _ => rfl
 | _, _, .tuple h => by simp only [I.wd]; exact jA.wd h
 | _, _, .ref _ => rfl
 | _, _, .trans h k => (fi.wd k).trans (fi.wd h)
theorem jA.wd : ∀ {ds es : List I}, jA ds es → I.ez es = I.ez ds
 | _, _, .nil => rfl
 | _, _, .cons h ah => by simp only [I.ez]; rw [fi.wd h, jA.wd ah]
end
theorem jA.len {ds es : List I} (h : jA ds es) : es.length = ds.length := by
 induction ds generalizing es with
 | nil => cases h; rfl
 | cons d ds ih => cases h with | cons h ah => simp [ih ah]
theorem jA.all {sz : Nat} {ds es : List I} (h : jA ds es) (al : ∀ d ∈ ds, d.wd = sz) : ∀ d ∈ es, d.wd = sz := by
 induction ds generalizing es with
 | nil => cases h; intro d al; cases al
 | cons d ds ih =>
   cases h with
   | cons h ah =>
     intro x aC
     rcases List.mem_cons.1 aC with rfl | aC
     ·rw [h.wd]; exact al d (by simp)
     ·exact ih ah (fun d hm => al d (by simp [hm])) x aC
section
variable {w0 w : World} {F0 X F : Nat → Prop} {S : Nat → Nat → Prop} {s aA : ar} {aF : Nat → Value}
def Py (w : World) (F : Nat → Prop) (_d e : I) (cs : List Value) (S : Nat → Prop) : Prop :=
 ∃ hV hW : Nat → Prop, (∀ b, hV b → S b) ∧ (∀ b, hW b → S b) ∧ (∀ b, hW b → ¬ hV b) ∧ ∀ b0, (∀ b, F b ∨ hV b → b0 b) → aB w b0 e cs hW
mutual
theorem aB.nR : ∀ {d e : I}, fi d e → ∀ {F : Nat → Prop} {cs : List Value} {S : Nat → Prop}, aB w F d cs S → Py w F d e cs S
 | _, _, .refl _, F, cs, S, h => ⟨fun _ => False, S, fun _ h => h.elim, fun _ h => h, fun _ _ h => h, fun b0 bE => aB.mono (fun b ae => bE b (.inl ae)) _ _ _ _ (fun _ h => h) h⟩
 | .bc, _, .lY sz, F, cs, S, h => ⟨fun _ => False, S, fun _ h => h.elim, fun _ h => h, fun _ _ h => h, fun b0 bE => by simp only [aB] at h ⊢; exact .inl ⟨trivial, _, h⟩⟩
 | .bc, _, .tl, F, cs, S, h => ⟨fun _ => False, S, fun _ h => h.elim, fun _ h => h, fun _ _ h => h, fun b0 bE => by simp only [aB] at h ⊢; exact .inl ⟨trivial, none, 0, h, Nat.zero_le _, fun _ => rfl⟩⟩
 | .bool _, _, .any b, F, cs, S, h => ⟨fun _ => False, S, fun _ h => h.elim, fun _ h => h, fun _ _ h => h, fun b0 bE => by simp only [aB] at h ⊢; exact ⟨b, h⟩⟩
 | _, _, .share d _ _, F, cs, S, h => ⟨S, fun _ => False, fun _ h => h, fun _ h => h.elim, fun _ h => h.elim, fun b0 bE => aB.shared (fun b ae => bE b (.inl ae)) d cs S (fun b ae => bE b (.inr ae)) h⟩
 | _, _, .agg i7, F, cs, S, h => by
   rw [aB] at h
   obtain ⟨hV, hW, ai, aj, aQ, bd⟩ := bm.nR i7 h
   exact ⟨hV, hW, ai, aj, aQ, fun b0 bE => by rw [aB]; exact bd b0 bE⟩
 | _, _, .a8 al, F, cs, S, h => by
   rw [aB] at h
   obtain ⟨b, cur, ty, fr, a1, b5, cu, fD, eO, gr, dE, jW⟩ := h
   obtain ⟨hV, hW, ai, aj, aQ, bd⟩ := aB.nR al gr
   refine ⟨hV, fun c => c = b ∨ hW c, fun c ay => dE c (ai c ay), ?_, ?_, fun b0 bE => ?_⟩
   ·rintro c (rfl | ay)
    ·exact cu
    ·exact dE c (aj c ay)
   ·rintro c (rfl | ay) bH
    ·exact jW (ai _ bH)
    ·exact aQ c ay bH
   ·rw [aB]
    exact ⟨b, cur, ty, fr, hW, b5, .inl rfl, fD, eO, bd b0 bE, fun c ay => .inr ay, fun ay => jW (aj _ ay)⟩
 | .aw sz ds, .aw _ es, .aw i7, F, cs, S, h => by
   rw [aB] at h
   have hl := i7.len
   rcases h with ⟨ai, aj⟩ | ⟨b, cap, cur, ty, fr, a1, b5, cu, fD, eO, gr, dE, jW, gb, lv, p3, Hy⟩
   ·refine ⟨fun _ => False, S, fun _ h => h.elim, fun _ h => h, fun _ _ h => h, fun b0 _ => ?_⟩
    rw [aB]
    subst ai
    exact .inl ⟨List.length_eq_zero_iff.1 (by simpa using hl), aj⟩
   ·obtain ⟨hV, hW, ai, aj, aQ, bd⟩ := bm.nR i7 lv
    refine ⟨hV, fun c => c = b ∨ hW c, fun c ay => p3 c (ai c ay), ?_, ?_, fun b0 bE => ?_⟩
    ·rintro c (rfl | ay)
     ·exact cu
     ·exact p3 c (aj c ay)
    ·rintro c (rfl | ay) bH
     ·exact Hy (ai _ bH)
     ·exact aQ c ay bH
    ·rw [aB]
     refine .inr ⟨b, cap, cur, ty, fr, hW, by rw [hl]; exact b5, .inl rfl, fD, eO, by rw [hl]; exact gr, dE, jW, i7.all gb, by rw [hl]; exact bd b0 bE, fun c ay => .inr ay, fun ay => Hy (aj _ ay)⟩
 | _, _, .tuple i7, F, cs, S, h => by
   rw [aB] at h
   obtain ⟨hV, hW, ai, aj, aQ, bd⟩ := bm.nR i7 h
   exact ⟨hV, hW, ai, aj, aQ, fun b0 bE => by rw [aB]; exact bd b0 bE⟩
 | _, _, .ref al, F, cs, S, h => by
   rw [aB] at h
   obtain ⟨b, o, eM, ai, aj, aQ, bd⟩ := h
   obtain ⟨hV, hW, b5, cu, fD, eO⟩ := aB.nR al bd
   refine ⟨fun _ => False, S, fun _ h => h.elim, fun _ h => h, fun _ _ h => h, fun b0 bE => ?_⟩
   rw [aB]
   exact ⟨b, o, eM, ai, bE _ (.inl aj), aQ, aB.mono (fun _ h => h) _ _ _ _ (fun b ae => cu b ae) (eO b0 fun b ae => bE b (ae.imp id fun h => (b5 b h).elim))⟩
 | _, _, .trans al he, F, cs, S, h => by
   obtain ⟨hV, hW, ai, aj, aQ, bd⟩ := aB.nR al h
   obtain ⟨DB, yZ, b5, cu, fD, eO⟩ := aB.nR he (F := fun b => F b ∨ hV b) (bd _ fun _ h => h)
   refine ⟨fun b => hV b ∨ DB b, yZ, ?_, fun b ae => aj b (cu b ae), ?_, fun b0 bE => eO b0 fun b ae => ?_⟩
   ·rintro b (h | h)
    ·exact ai b h
    ·exact aj b (b5 b h)
   ·rintro b ae (h | h)
    ·exact aQ b (cu b ae) h
    ·exact fD b ae h
   ·rcases ae with (ae | ae) | ae
    ·exact bE b (.inl ae)
    ·exact bE b (.inr (.inl ae))
    ·exact bE b (.inr (.inr ae))
theorem bm.nR : ∀ {ds es : List I}, jA ds es → ∀ {F : Nat → Prop} {cs : List Value} {S : Nat → Prop}, bm w F ds cs S →
  ∃ hV hW : Nat → Prop, (∀ b, hV b → S b) ∧ (∀ b, hW b → S b) ∧ (∀ b, hW b → ¬ hV b) ∧ ∀ b0, (∀ b, F b ∨ hV b → b0 b) → bm w b0 es cs hW
 | _, _, .nil, F, cs, S, h => ⟨fun _ => False, fun _ => False, fun _ h => h.elim, fun _ h => h.elim, fun _ h => h.elim, fun b0 bE => by rw [bm] at h ⊢; exact h⟩
 | _, _, .cons al i7, F, cs, S, h => by
   rw [bm] at h
   obtain ⟨cE, cF, ct, et, rfl, bG, cC, eH, fJ, h7⟩ := h
   obtain ⟨Pz, Hz, ab, bk, dz, q3⟩ := aB.nR al bG
   obtain ⟨DB, yZ, ly, iW, lz, ba⟩ := bm.nR i7 cC
   refine ⟨fun b => Pz b ∨ DB b, fun b => Hz b ∨ yZ b, ?_, ?_, ?_, fun b0 bE => ?_⟩
   ·rintro b (h | h)
    ·exact eH b (ab b h)
    ·exact fJ b (ly b h)
   ·rintro b (h | h)
    ·exact eH b (bk b h)
    ·exact fJ b (iW b h)
   ·rintro b (h | h) (bD | bD)
    ·exact dz b h bD
    ·exact h7 b (bk b h) (ly b bD)
    ·exact h7 b (ab b bD) (iW b h)
    ·exact lz b h bD
   ·rw [bm]
    refine ⟨cE, cF, Hz, yZ, rfl, q3 b0 (fun b ae => bE b (ae.imp id .inl)), ba b0 (fun b ae => bE b (ae.imp id .inr)), fun b ae => .inl ae, fun b ae => .inr ae, fun b ai aj => h7 b (bk b ai) (iW b aj)⟩
end
theorem fi.y0 : ∀ {d e : I}, fi d e → (∀ vs, d ≠ .tuple vs) → ∀ vs, e ≠ .tuple vs
 | _, _, .refl _, h => h
 | _, _, .lY _, _ => fun _ h => by cases h
 | _, _, .tl, _ => fun _ h => by cases h
 | _, _, .any _, _ => fun _ h => by cases h
 | _, _, .share d _ _, h => fun vs he => by cases d <;> first | (cases he; done) | exact h _ rfl
 | _, _, .agg _, _ => fun _ h => by cases h
 | _, _, .a8 _, _ => fun _ h => by cases h
 | _, _, .aw _, _ => fun _ h => by cases h
 | _, _, .tuple _, h => fun _ _ => h _ rfl
 | _, _, .ref _, _ => fun _ h => by cases h
 | _, _, .trans h k, bg => fi.y0 k (fi.y0 h bg)
theorem fi.im : ∀ {d e : I} {v : Value}, fi d e → (∀ vs, d ≠ .tuple vs) → dk.im d v → dk.im e v
 | _, _, _, .refl _, _, h => h
 | _, _, _, .lY _, _, h => h
 | _, _, _, .tl, _, h => h
 | _, _, _, .any _, _, h => h
 | _, _, _, .share d _ bg, _, h => by cases d <;> first | exact h | exact (bg _ rfl).elim
 | _, _, _, .agg _, _, h => h
 | _, _, _, .a8 _, _, h => h
 | _, _, _, .aw _, _, h => h
 | _, _, _, .tuple _, bg, _ => (bg _ rfl).elim
 | _, _, _, .ref _, _, h => h
 | _, _, _, .trans h k, bg, ah => fi.im k (fi.y0 h bg) (fi.im h bg ah)
theorem jA.get : ∀ {ds es : List I}, jA ds es → ∀ (k : Nat) (e : I), es[k]? = some e → ∃ d, ds[k]? = some d ∧ fi d e
 | _, _, .nil, k, e, h => by simp at h
 | _, _, .cons al ah, 0, e, h => by simp at h; subst h; exact ⟨_, rfl, al⟩
 | _, _, .cons al ah, k + 1, e, h => jA.get ah k e (by simpa using h)
theorem fi.eN : ∀ {d e : I} {v : Value}, fi d e → dk.eN d v → dk.eN e v
 | _, _, _, .refl _, ah => ah
 | _, _, _, .lY _, ah => ah
 | _, _, _, .tl, ah => ah
 | _, _, _, .any _, ah => ah
 | _, _, _, .share _ _ lV, ah => Dh lV ah
 | _, _, _, .agg _, ah => ah
 | _, _, _, .a8 _, ah => ah
 | _, _, _, .aw _, ah => ah
 | _, _, _, .ref _, ah => ah
 | _, _, _, .tuple al, ah => by
   obtain ⟨arr, ai, aj, aQ⟩ := ah
   refine ⟨arr, ai, aj.trans al.len.symm, fun k e x he aC => ?_⟩
   obtain ⟨d, aE, hw⟩ := al.get k e he
   obtain ⟨ab, bk, dz⟩ := aQ k d x aE aC
   exact ⟨hw.im bk ab, hw.y0 bk, dz.trans hw.wd.symm⟩
 | _, _, _, .trans h k, ah => fi.eN k (fi.eN h ah)
theorem fi.tree : ∀ {d e : I}, fi d e → d.tree = true → e.tree = true
 | _, _, .refl _, al => al
 | _, _, .lY _, _ => rfl
 | _, _, .tl, _ => rfl
 | _, _, .any _, _ => rfl
 | _, _, .share d _ _, al => by cases d <;> first | exact al | rfl
 | _, _, .agg _, _ => rfl
 | _, _, .a8 _, _ => rfl
 | _, _, .aw _, _ => rfl
 | _, _, .tuple _, _ => rfl
 | _, _, .ref _, _ => rfl
 | _, _, .trans h k, al => fi.tree k (fi.tree h al)
mutual
def I.rm : I → List Nat
 | .h x q => if q.isEmpty then [] else [x]
 | .ax x _ => [x]
 | .ae x _ => [x]
 | .fn _ cap => I.vN cap
 | _ => []
def I.vN : List I → List Nat
 | [] => []
 | d :: ds => d.rm ++ I.vN ds
end
def vO (s aA : ar) (x : Nat) (D : List Nat) : Prop := aA x = s x ∨ aA x = .hole ∨ ((s x).own = true ∧ (aA x).own = true ∧ x ∉ D)
theorem vO.less {s aA : ar} {x : Nat} {D E : List Nat} (h : vO s aA x D) (PA : ∀ u ∈ E, u ∈ D) : vO s aA x E := by
 rcases h with h | h | ⟨ai, aj, aQ⟩
 ·exact .inl h
 ·exact .inr (.inl h)
 ·exact .inr (.inr ⟨ai, aj, fun aC => aQ (PA x aC)⟩)
theorem aW.fh {b0 : Nat → Prop} (bE : ∀ b, F b → b0 b) : ∀ n, (∀ (d : I) (v : Value) (eA : Nat → Prop), SizeOf.sizeOf d ≤ n → (∀ x ∈ d.ah, vO s aA x d.rm) → aW w F s aF d v eA → aW w b0 aA aF d v eA) ∧
  (∀ (ds : List I) (vs : List Value), SizeOf.sizeOf ds ≤ n → (∀ x ∈ I.ea ds, vO s aA x (I.vN ds)) → eY w F s aF ds vs → eY w b0 aA aF ds vs) := by
 intro n
 induction n with
 | zero =>
   refine ⟨fun d v eA b7 => ?_, fun ds vs b7 => ?_⟩
   ·cases d <;> simp at b7 <;> omega
   ·cases ds <;> simp at b7 <;> omega
 | succ n ih =>
   refine ⟨fun d v eA b7 aE h => ?_, fun ds vs b7 aE h => ?_⟩
   ·cases d with
    | hole => rw [aW]; trivial
    | h x q =>
      rw [aW] at h ⊢
      intro e fp ax
      rcases aE x (by simp [I.ah]) with he | he | ⟨vP, HA, tm⟩
      ·rw [he] at fp ⊢; exact h e fp ax
      ·rw [he] at fp
       cases q with
       | nil => simp only [I.sub, Option.some.injEq] at fp; subst fp; simp [I.plain] at ax
       | cons k q => simp [I.sub] at fp
      ·cases q with
       | nil =>
         simp only [I.sub, Option.some.injEq] at fp
         subst fp
         obtain ⟨c0, J, gP, ht, h4⟩ := h (s x) (by simp only [I.sub]) (po vP).1
         simp only [dr, Option.some.injEq, Prod.mk.injEq, true_and] at gP
         exact ⟨cY (aF x), none, by simp only [dr], by rw [ht, ← gP.1], ((po HA).2.2.2.2.2 _).2 (((po vP).2.2.2.2.2 _).1 h4)⟩
       | cons k q => exact (tm (by simp [I.rm])).elim
    | ax x q =>
      rw [aW] at h ⊢
      intro e fp ay
      rcases aE x (by simp [I.ah]) with he | he | ⟨_, _, tm⟩
      ·rw [he] at fp ay ⊢; exact h e fp ay
      ·rw [he] at ay
       cases q <;> simp [I.fK] at ay
      ·exact (tm (by simp [I.rm])).elim
    | ae x k =>
      rw [aW] at h ⊢
      intro ax
      rcases aE x (by simp [I.ah]) with he | he | ⟨_, _, tm⟩
      rotate_left 2
      ·exact (tm (by simp [I.rm])).elim
      ·rw [he] at ax
       obtain ⟨b, cur, e, fr, ai, aj, aQ, bd⟩ := h ax
       exact ⟨b, cur, e, fr, ai, bE b aj, aQ, bd⟩
      ·rw [he] at ax; simp [I.plain] at ax
    | fn f cap =>
      rw [aW] at h ⊢
      obtain ⟨arr, rfl, ay⟩ := h
      exact ⟨arr, rfl, ih.2 _ _ (by simp at b7; omega) (by simpa [I.ah, I.rm] using aE) ay⟩
    | _ =>
      have bD := (aW.da rfl).1 h
      exact (aW.da rfl).2 ⟨bD.1, aB.mono bE _ _ _ _ (fun _ h => h) bD.2⟩
   ·cases ds with
    | nil => rw [eY] at h ⊢; exact h
    | cons d ds =>
      rw [eY] at h ⊢
      obtain ⟨v, j9, rfl, ai, aj⟩ := h
      simp at b7
      simp only [I.ea, List.mem_append] at aE
      exact ⟨v, j9, rfl, ih.1 _ _ _ (by omega) (fun x aC => (aE x (.inl aC)).less fun u hu => by simp [I.vN, hu]) ai, ih.2 _ _ (by omega) (fun x aC => (aE x (.inr aC)).less fun u hu => by simp [I.vN, hu]) aj⟩
def rn (s : ar) (l : List (Nat × I)) : Prop :=
 ∀ p ∈ l, p.2 = s p.1 ∨ ((s p.1).tree = true ∧ fi (s p.1) p.2 ∧ ∀ cz ∈ l, p.1 ∉ cz.2.ah ∨ ((s p.1).own = true ∧ p.2.own = true ∧ p.1 ∉ cz.2.rm))
theorem HB : ∀ (l : List (Nat × I)) (t : Nat), aa l t = .hole ∨ ∃ p ∈ l, p.1 = t ∧ aa l t = p.2 := by
 intro l
 induction l with
 | nil => intro t; exact .inl rfl
 | cons p l ih =>
   intro t
   obtain ⟨u, d⟩ := p
   simp only [aa]
   split
   ·rename_i e; exact .inr ⟨(u, d), by simp, e.symm, rfl⟩
   ·rcases ih t with h | ⟨p, ax, h⟩
    ·exact .inl h
    ·exact .inr ⟨p, by simp [ax], h⟩
theorem bW.HC (h : bW w0 F0 X F S s aF w) {l : List (Nat × I)} (hw : rn s l) : ∃ b0 a1, bW w0 F0 X b0 a1 (aa l) aF w := by
 have each : ∀ t, ∃ hV hW : Nat → Prop, (∀ b, hV b → S t b) ∧ (∀ b, hW b → S t b) ∧ (∀ b, hW b → ¬ hV b) ∧ ∀ b0, (∀ b, F b ∨ hV b → b0 b) → aW w b0 (aa l) aF (aa l t) (aF t) hW := by
  intro t
  rcases HB l t with e | ⟨p, ax, rfl, e⟩
  ·exact ⟨fun _ => False, fun _ => False, fun _ h => h.elim, fun _ h => h.elim, fun _ h => h.elim, fun b0 _ => by rw [e, aW]; trivial⟩
  ·rw [e]
   rcases hw p ax with aE | ⟨bh, lO, _⟩
   ·refine ⟨fun _ => False, S p.1, fun _ h => h.elim, fun _ h => h, fun _ _ h => h, fun b0 bE => ?_⟩
    rw [aE]
    refine (aW.fh (fun b ae => bE b (.inl ae)) (SizeOf.sizeOf (s p.1))).1 _ _ _ (Nat.le_refl _) ?_ (h.eu p.1)
    intro x aC
    rcases HB l x with gE | ⟨cz, eP, rfl, gE⟩
    ·exact .inr (.inl gE)
    ·rcases hw cz eP with kx | ⟨_, _, mS⟩
     ·exact .inl (gE.trans kx)
     ·rcases mS p ax with mS | ⟨mv, kB, nL⟩
      ·exact (mS (by rw [aE]; exact aC)).elim
      ·exact .inr (.inr ⟨mv, by rw [gE]; exact kB, by rw [aE] at nL; exact nL⟩)
   ·obtain ⟨bf, bG⟩ := (aW.da bh).1 (h.eu p.1)
    obtain ⟨hV, hW, b5, cu, fD, eO⟩ := aB.nR lO bG
    exact ⟨hV, hW, b5, cu, fD, fun b0 bE => (aW.da (lO.tree bh)).2 ⟨lO.eN bf, eO b0 bE⟩⟩
 have cE := fun t => (each t).choose_spec
 let hV := fun t => (each t).choose
 have cF := fun t => (cE t).choose_spec
 let hW := fun t => (cE t).choose
 have i9 : ∀ t b, hV t b → S t b := fun t => (cF t).1
 have bj : ∀ t b, hW t b → S t b := fun t => (cF t).2.1
 have dO : ∀ t b, hW t b → ¬ hV t b := fun t => (cF t).2.2.1
 have b9 := fun t => (cF t).2.2.2
 refine ⟨fun b => F b ∨ ∃ t, hV t b, hW, fun b ae => .inl (h.hM b ae), ?_, ?_, fun t b ae => h.fA t b (bj t b ae), ?_, fun t u b eg ae hu => h.gl t u b eg (bj t b ae) (bj u b hu), fun t b ae => h.eA t b (bj t b ae), ?_, h.old, h.size, h.os, h.tape, h.output⟩
 ·rintro b (ae | ⟨t, ae⟩)
  ·exact h.h5 b ae
  ·exact .inr (h.eA t b (i9 t b ae))
 ·rintro b (ae | ⟨t, ae⟩)
  ·exact h.gy b ae
  ·exact h.fA t b (i9 t b ae)
 ·rintro t b ae (bH | ⟨u, hu⟩)
  ·exact h.gF t b (bj t b ae) bH
  ·by_cases e : t = u
   ·subst e; exact dO t b ae hu
   ·exact h.gl t u b e (bj t b ae) (i9 u b hu)
 ·intro t
  exact b9 t _ (fun b ae => ae.imp id fun h => ⟨t, h⟩)
end
inductive R where
 | skip
 | U (ros : List cK) (fh : Option (List Nat))
 | gI (ros : List cK) (nQ : List (List Nat)) (fh : Option (List Nat))
 | seq (a b : R)
 | cond (c : aI) (a b : R)
 | block (id : Nat) (b : R)
 | loop (b : R)
 | exit (id : Nat)
 | ret
 | iM (T : (Exit → ar → Prop) → ar → Prop) (b : R)
def bt (n : Fr) : Code → Option R
 | .skip => some .skip
 | .region _ ops false => (oK n ops ops.toList).map fun r => .U r none
 | .region _ ops true => if vL (m8 ops) = true then (oK n ops ops.toList).map fun r => .gI r (m8 ops) none else none
 | .seq a b => match bt n a, bt n b with
   | some a, some b => some (.seq a b)
   | _, _ => none
 | .cond c a b => match dY c, bt n a, bt n b with
   | some c, some a, some b => some (.cond c a b)
   | _, _, _ => none
 | .block id b => (bt n b).map (.block id)
 | .loop b => (bt n b).map .loop
 | .exit id => some (.exit id)
 | .ret => some .ret
 | _ => none
def R.kb : R → R
 | .U ros _ => .U ros none
 | .gI ros gB _ => .gI ros gB none
 | .seq a b => .seq a.kb b.kb
 | .cond c a b => .cond c a.kb b.kb
 | .block id b => .block id b.kb
 | .loop b => .loop b.kb
 | .iM T b => .iM T b.kb
 | c => c
def R.strip : R → R
 | .U ros _ => .U (ros.map cK.un) none
 | .gI ros gB _ => .gI (ros.map cK.un) gB none
 | .seq a b => .seq a.strip b.strip
 | .cond c a b => .cond c a.strip b.strip
 | .block id b => .block id b.strip
 | .loop b => .loop b.strip
 | .iM _ b => b.strip
 | c => c
theorem R.DC : ∀ c : R, c.kb.strip = c.strip := by
 intro c
 induction c with
 | seq a b jB jC => simp only [R.kb, R.strip, jB, jC]
 | cond c a b jB jC => simp only [R.kb, R.strip, jB, jC]
 | block id b ih => simp only [R.kb, R.strip, ih]
 | loop b ih => simp only [R.kb, R.strip, ih]
 | iM T b ih => simp only [R.kb, R.strip, ih]
 | _ => rfl
def R.bare (H : ((Exit → ar → Prop) → ar → Prop) → R → Prop) : R → Prop
 | .U _ k => k = none
 | .gI _ _ k => k = none
 | .seq a b => a.bare H ∧ b.bare H
 | .cond _ a b => a.bare H ∧ b.bare H
 | .block _ b => b.bare H
 | .loop b => b.bare H
 | .iM T b => H T b
 | _ => True
def R.lZ (H : ((Exit → ar → Prop) → ar → Prop) → R → Prop) : R → Prop
 | .seq a b => a.lZ H ∧ b.lZ H
 | .cond _ a b => a.lZ H ∧ b.lZ H
 | .block _ b => b.lZ H
 | .loop b => b.lZ H
 | .iM T b => H T b.kb
 | _ => True
theorem R.y1 {H : ((Exit → ar → Prop) → ar → Prop) → R → Prop} : ∀ c : R, c.lZ H → c.kb.bare H := by
 intro c
 induction c with
 | seq a b jB jC => intro h; exact ⟨jB h.1, jC h.2⟩
 | cond c a b jB jC => intro h; exact ⟨jB h.1, jC h.2⟩
 | block id b ih => intro h; exact ih h
 | loop b ih => intro h; exact ih h
 | U => intro _; rfl
 | gI => intro _; rfl
 | iM T b _ => intro h; exact h
 | _ => intro _; trivial
def R.plain : R → Bool
 | .seq a b => a.plain && b.plain
 | .cond _ a b => a.plain && b.plain
 | .block _ b => b.plain
 | .loop b => b.plain
 | .iM _ _ => false
 | _ => true
theorem R.HD {H : ((Exit → ar → Prop) → ar → Prop) → R → Prop} : ∀ c : R, c.plain = true → c.lZ H := by
 intro c
 induction c with
 | seq a b jB jC => intro h; simp only [R.plain, Bool.and_eq_true] at h; exact ⟨jB h.1, jC h.2⟩
 | cond c a b jB jC => intro h; simp only [R.plain, Bool.and_eq_true] at h; exact ⟨jB h.1, jC h.2⟩
 | block id b ih => intro h; exact ih h
 | loop b ih => intro h; exact ih h
 | iM T b _ => intro h; cases h
 | _ => intro _; trivial
def andThen (K : ar → Prop) (Q : Exit → ar → Prop) : Exit → ar → Prop
 | .normal, s => K s
 | e, s => Q e s
def tn (id : Nat) (Q : Exit → ar → Prop) : Exit → ar → Prop
 | .exit i, s => if i = id then Q .normal s else Q (.exit i) s
 | e, s => Q e s
def eE (K : ar → Prop) (s : ar) : Prop := K s ∨ ∃ l, rn s l ∧ K (aa l)
def vQ : Option (List Nat) → (ar → Prop) → ar → Prop
 | none, K, s => eE K s
 | some k, K, s => K (aa (k.map fun t => (t, s t)))
def db (C : ck) : R → (Exit → ar → Prop) → ar → Prop
 | .skip, Q, s => Q .normal s
 | .U ros fh, Q, s => kT C s ros (vQ fh (Q .normal))
 | .gI ros nQ fh, Q, s => ∀ l, Dy nQ l → jy C ros s l (vQ fh (Q .normal))
 | .seq a b, Q, s => db C a (andThen (eE (db C b Q)) Q) s
 | .cond c a b, Q, s => match aS s c with
   | .bool fY => if fY = true then db C a Q s else db C b Q s
   | .e7 => db C a Q s ∧ db C b Q s
   | _ => False
 | .block id b, Q, s => db C b (tn id Q) s
 | .loop b, Q, s => eE (fun s => ∀ Z : ar → Prop, (∀ aA, db C b (andThen (eE Z) Q) aA → Z aA) → Z s) s
 | .exit id, Q, s => Q (.exit id) s
 | .ret, Q, s => Q .ret s
 | .iM T _, Q, s => ∀ gC : Exit → ar → Prop, (∀ e s, Q e s → gC e s) → T gC s
section
variable {C : ck}
theorem DD {s : ar} {o : cK} {K du : ar → Prop} (h : k9 C s o K) (aE : ∀ s, K s → du s) : k9 C s o du := by
 unfold k9 at h ⊢
 split
 ·rename_i b8; rw [b8] at h; exact yV h fun av s1 => aE _
 ·rename_i t b b8
  rw [b8] at h
  simp only at h
  split
  ·rename_i fY ah
   rw [ah] at h
   simp only at h
   split
   ·rename_i ae; rw [if_pos ae] at h; exact yV h fun av s1 => aE _
   ·rename_i ae; rw [if_neg ae] at h; exact aE _ h
  ·rename_i ah; rw [ah] at h; exact aE _ h
  ·rename_i ai aj
   split at h
   ·exact ai _ (by assumption)
   ·exact aj (by assumption)
   ·exact h
theorem HE {K du : ar → Prop} (aE : ∀ s, K s → du s) : ∀ {ros : List cK} {s : ar}, kT C s ros K → kT C s ros du := by
 intro ros
 induction ros with
 | nil => intro s h; exact aE s h
 | cons o ros ih => intro s h; exact DD h fun s h => ih h
theorem HF {ros : List cK} {K du : ar → Prop} (aE : ∀ s, K s → du s) : ∀ {l : List Nat} {s : ar}, jy C ros s l K → jy C ros s l du := by
 intro l
 induction l with
 | nil => intro s h; exact aE s h
 | cons i l ih =>
   intro s h
   simp only [jy] at h ⊢
   split
   ·rename_i cm; rw [cm] at h; exact ih h
   ·rename_i o cm; rw [cm] at h; exact DD h fun s h => ih h
theorem tp {K du : ar → Prop} (aE : ∀ s, K s → du s) (s : ar) (h : eE K s) : eE du s :=
 h.imp (aE s) fun ⟨l, ai, aj⟩ => ⟨l, ai, aE _ aj⟩
theorem HG {fh : Option (List Nat)} {K du : ar → Prop} (aE : ∀ s, K s → du s) (s : ar) (h : vQ fh K s) : vQ fh du s := by
 cases fh with
 | none => exact tp aE s h
 | some k => exact aE _ h
theorem HH {fh : Option (List Nat)} {K : ar → Prop} {s : ar} (h : vQ fh K s) : eE K s := by
 cases fh with
 | none => exact h
 | some k =>
   refine .inr ⟨_, ?_, h⟩
   intro p ax
   obtain ⟨t, _, rfl⟩ := List.mem_map.1 ax
   exact .inl rfl
theorem DE {K du : ar → Prop} {Q gC : Exit → ar → Prop} (aE : ∀ s, K s → du s) (dd : ∀ e s, Q e s → gC e s) : ∀ e s, andThen K Q e s → andThen du gC e s := by
 intro e s h
 cases e with
 | normal => exact aE s h
 | _ => exact dd _ s h
theorem DF : ∀ (c : R) {Q gC : Exit → ar → Prop} {s : ar}, (∀ e s, Q e s → gC e s) → db C c Q s → db C c gC s := by
 intro c
 induction c with
 | skip => intro Q gC s dd h; exact dd _ _ h
 | U ros fh => intro Q gC s dd h; exact HE (HG (dd _)) h
 | gI ros nQ fh => intro Q gC s dd h l hl; exact HF (HG (dd _)) (h l hl)
 | seq a b jB jC =>
   intro Q gC s dd h
   exact jB (DE (fun s h => tp (fun _ h => jC dd h) s h) dd) h
 | cond c a b jB jC =>
   intro Q gC s dd h
   simp only [db] at h ⊢
   split
   ·rename_i fY ae
    rw [ae] at h
    simp only at h
    split
    ·rename_i e; rw [if_pos e] at h; exact jB dd h
    ·rename_i e; rw [if_neg e] at h; exact jC dd h
   ·rename_i ae; rw [ae] at h; exact ⟨jB dd h.1, jC dd h.2⟩
   ·rename_i ai aj
    split at h
    ·exact ai _ (by assumption)
    ·exact aj (by assumption)
    ·exact h
 | block id b ih =>
   intro Q gC s dd h
   refine ih ?_ h
   intro e s h
   cases e with
   | exit i =>
     simp only [tn] at h ⊢
     split
     ·rename_i e; rw [if_pos e] at h; exact dd _ _ h
     ·rename_i e; rw [if_neg e] at h; exact dd _ _ h
   | _ => exact dd _ _ h
 | loop b ih =>
   intro Q gC s dd h
   refine tp (fun s h Z tq => ?_) s h
   exact h Z fun aA fs => tq aA (ih (DE (fun _ h => h) dd) fs)
 | exit id => intro Q gC s dd h; exact dd _ _ h
 | ret => intro Q gC s dd h; exact dd _ _ h
 | iM T b _ => intro Q gC s dd h ek aj; exact h ek fun e s he => aj e s (dd e s he)
theorem y2 : ∀ (c : R) {Q : Exit → ar → Prop} {s : ar}, db C c Q s → db C c.kb Q s := by
 intro c
 induction c with
 | U ros fh => intro Q s h; exact HE (fun s h => HH h) h
 | gI ros gB fh => intro Q s h l hl; exact HF (fun s h => HH h) (h l hl)
 | seq a b jB jC => intro Q s h; exact jB (DF a (DE (fun s h => tp (fun _ h => jC h) s h) (fun _ _ h => h)) h)
 | cond c a b jB jC =>
   intro Q s h
   simp only [R.kb, db] at h ⊢
   split
   ·rename_i fY ae
    rw [ae] at h
    simp only at h
    split
    ·rename_i e; rw [if_pos e] at h; exact jB h
    ·rename_i e; rw [if_neg e] at h; exact jC h
   ·rename_i ae; rw [ae] at h; exact ⟨jB h.1, jC h.2⟩
   ·rename_i ai aj
    split at h
    ·exact ai _ (by assumption)
    ·exact aj (by assumption)
    ·exact h
 | block id b ih => intro Q s h; exact ih h
 | loop b ih =>
   intro Q s h
   refine tp (fun s h Z tq => ?_) s h
   exact h Z fun aA fs => tq aA (ih fs)
 | iM T b _ => intro Q s h; exact h
 | _ => intro Q s h; exact h
variable {w0 w : World} {F0 X : Nat → Prop} {n : Fr} {ρ : Nat → Value} {s : ar} {a : Act}
def rp (w0 : World) (F0 X : Nat → Prop) (n : Fr) (ρ : Nat → Value) (Q : Exit → ar → Prop) : Exit → Act → World → Prop := fun e a w => ∃ s, Q e s ∧ Rel w0 F0 X n ρ s a w
theorem Rel.eE {K : ar → Prop} {s : ar} {a : Act} {w : World} (a7 : Rel w0 F0 X n ρ s a w) (h : eE K s) : ∃ aA, K aA ∧ Rel w0 F0 X n ρ aA a w := by
 rcases h with h | ⟨l, ai, aj⟩
 ·exact ⟨s, h, a7⟩
 ·obtain ⟨bf, bG, cC, F, S, eH⟩ := a7
  obtain ⟨b0, a1, fJ⟩ := eH.HC ai
  exact ⟨aa l, aj, bf, bG, cC, b0, a1, fJ⟩
theorem R.PB {c : R} (h : c.strip = .skip) : c = .skip ∨ ∃ T b, c = .iM T b := by cases c <;> first | exact .inl rfl | exact .inr ⟨_, _, rfl⟩ | cases h
theorem R.PC {c : R} (h : c.strip = .ret) : c = .ret ∨ ∃ T b, c = .iM T b := by cases c <;> first | exact .inl rfl | exact .inr ⟨_, _, rfl⟩ | cases h
theorem R.PD {c : R} {i : Nat} (h : c.strip = .exit i) : c = .exit i ∨ ∃ T b, c = .iM T b := by cases c <;> first | exact .inl h | exact .inr ⟨_, _, rfl⟩ | cases h
theorem R.PE {c : R} {r : List cK} {k : Option (List Nat)} (h : c.strip = .U r k) : (∃ ros df, c = .U ros df ∧ ros.map cK.un = r) ∨ ∃ T b, c = .iM T b := by
 cases c <;> first | (cases h; exact .inl ⟨_, _, rfl, rfl⟩) | exact .inr ⟨_, _, rfl⟩ | cases h
theorem R.PF {c : R} {r : List cK} {gB : List (List Nat)} {k : Option (List Nat)} (h : c.strip = .gI r gB k) : (∃ ros HI df, c = .gI ros HI df ∧ ros.map cK.un = r ∧ HI = gB) ∨ ∃ T b, c = .iM T b := by
 cases c <;> first | (cases h; exact .inl ⟨_, _, _, rfl, rfl, rfl⟩) | exact .inr ⟨_, _, rfl⟩ | cases h
theorem R.PG {c x y : R} (h : c.strip = .seq x y) : (∃ a b, c = .seq a b ∧ a.strip = x ∧ b.strip = y) ∨ ∃ T b, c = .iM T b := by
 cases c <;> first | (cases h; exact .inl ⟨_, _, rfl, rfl, rfl⟩) | exact .inr ⟨_, _, rfl⟩ | cases h
theorem R.PH {c x y : R} {o : aI} (h : c.strip = .cond o x y) : (∃ mu a b, c = .cond mu a b ∧ mu = o ∧ a.strip = x ∧ b.strip = y) ∨ ∃ T b, c = .iM T b := by
 cases c <;> first | (cases h; exact .inl ⟨_, _, _, rfl, rfl, rfl, rfl⟩) | exact .inr ⟨_, _, rfl⟩ | cases h
theorem R.PI {c x : R} {i : Nat} (h : c.strip = .block i x) : (∃ a, c = .block i a ∧ a.strip = x) ∨ ∃ T b, c = .iM T b := by
 cases c <;> first | (cases h; exact .inl ⟨_, rfl, rfl⟩) | exact .inr ⟨_, _, rfl⟩ | cases h
theorem R.PJ {c x : R} (h : c.strip = .loop x) : (∃ a, c = .loop a ∧ a.strip = x) ∨ ∃ T b, c = .iM T b := by
 cases c <;> first | (cases h; exact .inl ⟨_, rfl, rfl⟩) | exact .inr ⟨_, _, rfl⟩ | cases h
theorem DG (bB : C.fq) {H : ((Exit → ar → Prop) → ar → Prop) → R → Prop}
  (mx : ∀ (c : Code) (T : (Exit → ar → Prop) → ar → Prop) (b : R) (Q : Exit → ar → Prop) (s : ar) (a : Act) (w : World), H T b → bt n c = some b.strip → T Q s → Rel w0 F0 X n ρ s a w → c.wp C.P (rp w0 F0 X n ρ Q) a w) :
  ∀ (c : Code) {dD : R} {Q : Exit → ar → Prop} {s : ar} {a : Act} {w : World}, bt n c = some dD.strip → dD.bare H → db C dD Q s → Rel w0 F0 X n ρ s a w → c.wp C.P (rp w0 F0 X n ρ Q) a w := by
 intro c
 induction c with
 | skip =>
   intro dD Q s a w ah hO h a7
   have kC := ah
   simp only [bt, Option.some.injEq] at ah
   rcases R.PB ah.symm with rfl | ⟨T, b, rfl⟩
   ·exact wp_skip ⟨s, h, a7⟩
   ·exact mx _ T b Q s a w hO (by simpa only [R.strip] using kC) (h Q fun _ _ h => h) a7
 | region id ops draw =>
   intro dD Q s a w ah hO h a7
   have kC := ah
   cases draw with
   | false =>
     simp only [bt, Option.map_eq_some_iff] at ah
     obtain ⟨PK, vR, ah⟩ := ah
     rcases R.PE ah.symm with ⟨ros, k, rfl, rfl⟩ | ⟨T, b, rfl⟩
     rotate_left
     ·exact mx _ T b Q s a w hO (by simpa only [R.strip] using kC) (h Q fun _ _ h => h) a7
     cases hO
     exact Po bB vR (fun aA cR aU aE ff => ff.eE aE) h a7
   | true =>
     simp only [bt] at ah
     split at ah
     ·rename_i ae
      simp only [Option.map_eq_some_iff] at ah
      obtain ⟨PK, vR, ah⟩ := ah
      rcases R.PF ah.symm with ⟨ros, gB, k, rfl, rfl, rfl⟩ | ⟨T, b, rfl⟩
      rotate_left
      ·exact mx _ T b Q s a w hO (by simpa only [R.strip] using kC) (h Q fun _ _ h => h) a7
      cases hO
      refine wp_region_draw fun t => ?_
      rw [show Region.schedule (C.P.follows .mixedOrders) ops t = Region.linearise .any ops t by simp [Region.schedule, bB.mixed]]
      exact Hs bB vR (fun aA cR aU aE ff => ff.eE aE) _ s a _ (h _ (Px ae t)) (a7.drawn _)
     ·cases ah
 | seq x y PL y3 =>
   intro dD Q s a w ah hO h a7
   have kC := ah
   simp only [bt] at ah
   split at ah
   ·rename_i td HJ aC bL
    simp only [Option.some.injEq] at ah
    rcases R.PG ah.symm with ⟨cy, jP, rfl, rfl, rfl⟩ | ⟨T, b, rfl⟩
    rotate_left
    ·exact mx _ T b Q s a w hO (by simpa only [R.strip] using kC) (h Q fun _ _ h => h) a7
    refine wp_seq (wp_mono (PL aC hO.1 h a7) ?_)
    rintro e cR aU ⟨aA, bD, ff⟩
    cases e with
    | normal =>
      obtain ⟨aA, bD, ff⟩ := ff.eE bD
      exact y3 bL hO.2 bD ff
    | _ => exact ⟨aA, bD, ff⟩
   ·cases ah
 | cond x y z y3 HK =>
   intro dD Q s a w ah hO h a7
   have kC := ah
   simp only [bt] at ah
   split at ah
   ·rename_i td HJ sz aC bL b7
    simp only [Option.some.injEq] at ah
    rcases R.PH ah.symm with ⟨cy, jP, p1, rfl, rfl, rfl, rfl⟩ | ⟨T, b, rfl⟩
    rotate_left
    ·exact mx _ T b Q s a w hO (by simpa only [R.strip] using kC) (h Q fun _ _ h => h) a7
    have ff := a7
    obtain ⟨al, e4, bH, F, S, nP⟩ := ff
    have a3 := (gm (a := a) nP (fun _ => rfl) aC).2
    simp only [db] at h
    split at h
    ·rename_i fY ae
     rw [ae] at a3
     have := q1 a3
     refine wp_cond this ?_
     split
     ·rename_i e; rw [if_pos e] at h; exact y3 bL hO.1 h a7
     ·rename_i e; rw [if_neg e] at h; exact HK b7 hO.2 h a7
    ·rename_i ae
     rw [ae] at a3
     obtain ⟨fY, ln⟩ := Gr a3
     refine wp_cond ln ?_
     split
     ·exact y3 bL hO.1 h.1 a7
     ·exact HK b7 hO.2 h.2 a7
    ·exact h.elim
   ·cases ah
 | block id b ih =>
   intro dD Q s a w ah hO h a7
   have kC := ah
   simp only [bt, Option.map_eq_some_iff] at ah
   obtain ⟨vm, ae, ah⟩ := ah
   rcases R.PI ah.symm with ⟨fY, rfl, rfl⟩ | ⟨T, b, rfl⟩
   rotate_left
   ·exact mx _ T b Q s a w hO (by simpa only [R.strip] using kC) (h Q fun _ _ h => h) a7
   refine wp_block (wp_mono (ih ae hO h a7) ?_)
   rintro e cR aU ⟨aA, bD, ff⟩
   cases e with
   | exit i =>
     simp only [tn] at bD
     simp only [Exit.inBlock]
     split
     ·rename_i e; rw [if_pos e] at bD; exact ⟨aA, bD, ff⟩
     ·rename_i e; rw [if_neg e] at bD; exact ⟨aA, bD, ff⟩
   | _ => exact ⟨aA, bD, ff⟩
 | loop b ih =>
   intro dD Q s a w ah hO h a7
   have kC := ah
   simp only [bt, Option.map_eq_some_iff] at ah
   obtain ⟨vm, ae, ah⟩ := ah
   rcases R.PJ ah.symm with ⟨fY, rfl, rfl⟩ | ⟨T, b, rfl⟩
   rotate_left
   ·exact mx _ T b Q s a w hO (by simpa only [R.strip] using kC) (h Q fun _ _ h => h) a7
   obtain ⟨s, h, a7⟩ := a7.eE h
   have key := h (fun s => ∀ a w, Rel w0 F0 X n ρ s a w → ∀ (f : Frame) (k : List Item) (cs : List Frame), ∃ e cR aU, rp w0 F0 X n ρ Q e cR aU ∧ Arrives C.P (lone (f.at a (.code b :: .inLoop b :: k)) cs w) f k cs e cR aU) ?_
   ·intro f k cs
    obtain ⟨e, cR, aU, dd, p_⟩ := key a w a7 f k cs
    exact ⟨e, cR, aU, dd, .of_steps (.one step_loop) p_⟩
   ·intro aA fs a w a7 f k cs
    obtain ⟨e, a₁, w₁, ⟨s1, dd, qa⟩, p_⟩ := ih ae hO fs a7 f (.inLoop b :: k) cs
    cases e with
    | normal =>
      simp only [andThen] at dd
      obtain ⟨s1, dd, qa⟩ := qa.eE dd
      obtain ⟨e₂, a₂, w₂, hq₂, harr₂⟩ := dd a₁ w₁ qa f k cs
      exact ⟨e₂, a₂, w₂, hq₂, .of_steps (Steps.trans p_ (.one step_inLoop)) harr₂⟩
    | exit id => exact ⟨_, a₁, w₁, ⟨s1, dd, qa⟩, .pass (x := .inLoop b) rfl (fun _ _ => .inl (by simp)) p_⟩
    | goto l => exact ⟨_, a₁, w₁, ⟨s1, dd, qa⟩, .pass (x := .inLoop b) rfl (fun _ _ => .inl (by simp)) p_⟩
    | ret => exact ⟨_, a₁, w₁, ⟨s1, dd, qa⟩, .pass (x := .inLoop b) rfl (fun _ _ => .inl (by simp)) p_⟩
    | panic auT => exact ⟨_, a₁, w₁, ⟨s1, dd, qa⟩, .pass (x := .inLoop b) rfl (fun _ _ => .inl (by simp)) p_⟩
    | outgrown => exact ⟨_, a₁, w₁, ⟨s1, dd, qa⟩, .pass (x := .inLoop b) rfl (fun _ _ => .inl (by simp)) p_⟩
 | exit id =>
   intro dD Q s a w ah hO h a7
   have kC := ah
   simp only [bt, Option.some.injEq] at ah
   rcases R.PD ah.symm with rfl | ⟨T, b, rfl⟩
   ·exact wp_exit ⟨s, h, a7⟩
   ·exact mx _ T b Q s a w hO (by simpa only [R.strip] using kC) (h Q fun _ _ h => h) a7
 | ret =>
   intro dD Q s a w ah hO h a7
   have kC := ah
   simp only [bt, Option.some.injEq] at ah
   rcases R.PC ah.symm with rfl | ⟨T, b, rfl⟩
   ·exact wp_ret ⟨s, h, a7⟩
   ·exact mx _ T b Q s a w hO (by simpa only [R.strip] using kC) (h Q fun _ _ h => h) a7
 | _ => intro dD Q s a w ah; simp [bt] at ah
theorem HL (bB : C.fq) (c : Code) {dD : R} {Q : Exit → ar → Prop} {s : ar} {a : Act} {w : World} (ah : bt n c = some dD.strip) (ae : dD.bare (fun _ _ => False)) (h : db C dD Q s) (a7 : Rel w0 F0 X n ρ s a w) : c.wp C.P (rp w0 F0 X n ρ Q) a w :=
 DG bB (fun _ _ _ _ _ _ _ bH => bH.elim) c ah ae h a7
end
def jD : ResultVar → Nat
 | .tmp t => t
 | .cell a _ => a
def qb (C : ck) (s : ar) : ResultVar → Option I
 | .tmp t => if (s t).tree = true then (match s t with | .tuple _ => none | d => some d) else none
 | .cell a T => match s a with
   | .a8 d => if fits C T d = true ∧ d.tree = true then some d else none
   | _ => none
def Ends (C : ck) (fx : List Nat) (gR : List ResultVar) (r : I) (outs : List I) (s : ar) : Prop :=
 ∃ ds, gR.map (qb C s) = ds.map some ∧ r = (match ds with | [d] => d | ds => .tuple ds) ∧ (gR.map jD).Nodup ∧
   ∀ (i : Nat) (o : I), outs[i]? = some o → o = .hole ∨ (o = s i ∧ o.gA = true ∧ i ∈ fx ∧ i ∉ gR.map jD)
section
variable {C : ck} {w0 w : World} {F0 X F : Nat → Prop} {S : Nat → Nat → Prop} {s : ar} {tmps : Array Value}
theorem HM {d : I} {x : Value} (al : ∀ vs, d ≠ .tuple vs) (h : eN d x) : cY x = il x ∧ im d x := by
 have : im d x := by cases d <;> first | exact h | exact (al _ rfl).elim
 refine ⟨?_, this⟩
 cases d <;> first
  | (obtain ⟨a, rfl⟩ := this; rfl)
  | (simp only [im] at this
     rw [iH this]
     cases x <;> first | rfl | (simp [Value.gX] at this))
def vS (tmps : Array Value) : ResultVar → Sem Value
 | .tmp t => pure (tmps.getD t undef)
 | .cell a t => do loadVar t (← asAddr (tmps.getD a undef))
theorem PM (bB : C.fq) (h : bW w0 F0 X F S s (fun t => tmps.getD t undef) w) {v : ResultVar} {d : I} (a3 : qb C s v = some d) :
  ∃ x, (vS tmps v).run C.P w = .ok x w ∧ d.tree = true ∧ (∀ vs, d ≠ .tuple vs) ∧ eN d x ∧ aB w F d (cY x) (S (jD v)) := by
 cases v with
 | tmp t =>
   simp only [qb] at a3
   split at a3
   ·rename_i bh
    have lV : (∀ vs, s t ≠ .tuple vs) ∧ d = s t := by
     cases ah : s t <;> rw [ah] at a3 <;> simp only at a3 <;> first
      | (cases a3; done)
      | (simp only [Option.some.injEq] at a3; exact ⟨(fun _ h => by cases h), a3.symm⟩)
    obtain ⟨lV, rfl⟩ := lV
    obtain ⟨bf, bG⟩ := (aW.da bh).1 (h.eu t)
    exact ⟨_, by simp [vS], bh, lV, bf, bG⟩
   ·cases a3
 | cell a T =>
   simp only [qb] at a3
   split at a3
   ·rename_i e ah
    split at a3
    ·rename_i PN
     obtain ⟨jS, PO⟩ := PN
     simp only [Option.some.injEq] at a3; subst a3
     have iY := h.eu a
     rw [ah] at iY
     obtain ⟨bf, bG⟩ := (aW.da (d := .a8 e) rfl).1 iY
     rw [iH bf, aB] at bG
     obtain ⟨b, cur, ty, fr, a1, b5, cu, fD, eO, gr, dE, jW⟩ := bG
     simp only [List.cons.injEq, and_true] at b5
     have jt : hK w b 0 cur.toList := by
      have := sV fD cur.size
      rwa [List.take_of_length_le (by simp)] at this
     obtain ⟨x, dX, eS, h6⟩ := yv (C := C) bB jt gr jS
     refine ⟨x, ?_, PO, ?_, h6, ?_⟩
     ·simp only [vS]
      rw [b5]
      simpa [asAddr] using dX
     ·intro vs gE; subst gE
      unfold fits at jS
      split at jS <;> simp_all
     ·rw [eS]; exact aB.mono (fun _ h => h) _ _ _ _ dE gr
    ·cases a3
   ·cases a3
theorem PQ (bB : C.fq) (h : bW w0 F0 X F S s (fun t => tmps.getD t undef) w) : ∀ (gR : List ResultVar) (ds : List I), gR.map (qb C s) = ds.map some → (gR.map jD).Nodup →
  ∃ xs, (gR.mapM (vS tmps)).run C.P w = .ok xs w ∧ xs.length = ds.length ∧ bm w F ds (xs.flatMap il) (fun b => ∃ t ∈ gR.map jD, S t b) ∧
    ∀ (k : Nat) (d : I) (x : Value), ds[k]? = some d → xs[k]? = some x → eN d x ∧ (∀ vs, d ≠ .tuple vs) ∧ (il x).length = d.wd ∧ cY x = il x ∧ d.tree = true := by
 intro gR
 induction gR with
 | nil =>
   intro ds he _
   have : ds = [] := by simpa using he.symm
   subst this
   exact ⟨[], by simp, rfl, by simp only [List.flatMap_nil]; rw [bm], fun k d x al => by simp at al⟩
 | cons v gR ih =>
   intro ds he tr
   cases ds with
   | nil => simp at he
   | cons d ds =>
     simp only [List.map_cons, List.cons.injEq] at he
     simp only [List.map_cons, List.nodup_cons] at tr
     obtain ⟨x, dX, rt, eS, h6, jQ⟩ := PM bB h he.1
     obtain ⟨xs, i9, bj, dO, b9⟩ := ih ds he.2 tr.2
     obtain ⟨a4, a_⟩ := HM eS h6
     refine ⟨x :: xs, by simp [List.mapM_cons, dX, i9], by simp [bj], ?_, ?_⟩
     ·simp only [List.flatMap_cons]
      rw [bm]
      rw [a4] at jQ
      refine ⟨il x, xs.flatMap il, S (jD v), fun b => ∃ t ∈ gR.map jD, S t b, rfl, jQ, dO, fun b ae => ⟨jD v, by simp, ae⟩, ?_, ?_⟩
      ·rintro b ⟨t, bh, ae⟩; exact ⟨t, by simp [bh], ae⟩
      ·rintro b ae ⟨t, bh, ln⟩
       have : t ≠ jD v := fun e => tr.1 (e ▸ bh)
       exact h.gl t (jD v) b this ln ae
     ·intro k bF cy al aC
      cases k with
      | zero =>
        simp at al aC; subst al aC
        refine ⟨h6, eS, ?_, a4, rt⟩
        rw [← a4]; exact aB.length _ _ _ jQ
      | succ k => exact b9 k bF cy (by simpa using al) (by simpa using aC)
theorem DH (bB : C.fq) {f : FuncId} {fn : Func} {c : Code} {fx : List Nat} {as outs : List I} {r : I} (bH : C.P.funcs[f]? = some fn) (ae : fn.body = some c)
  (kU : (fn.name == "runtime.NumGoroutine") = false) (bg : as.length ≤ fn.ntmps)
  {w : World} {F X : Nat → Prop} {S : Nat → Nat → Prop} {vs : List Value} (hl : vs.length = as.length) (a7 : bW w F X F S (gd as) (hI vs) w)
  (PR : ∀ a, Rel w F X ⟨fn.ntmps, fx⟩ (hI vs) (gd as) a w → (∀ t, a.tmps.getD t undef = hI vs t) → c.wp C.P (rp w F X ⟨fn.ntmps, fx⟩ (hI vs) (fun e s => (e = .normal ∨ e = .ret) ∧ eE (Ends C fx fn.results.toList r outs) s)) a w) :
  m4 C.P f vs.toArray w fun v aU => ∃ b0 a1, bW w F X b0 a1 (gd (r :: outs)) (hI (v :: vs)) aU := by
 have lU : (vs.toArray ++ Array.replicate (fn.ntmps - vs.toArray.size) undef).size = fn.ntmps := by simp; omega
 have eT : (fun t => (vs.toArray ++ Array.replicate (fn.ntmps - vs.toArray.size) undef).getD t undef) = hI vs := by
  funext t
  simp only [hI, Array.getD_eq_getD_getElem?, List.getD_eq_getElem?_getD]
  by_cases bh : t < vs.length
  ·rw [Array.getElem?_append_left (by simpa using bh)]; simp
  ·rw [Array.getElem?_append_right (by simpa using bh)]
   rw [List.getElem?_eq_none (by omega)]
   simp only [Array.getElem?_replicate]
   split <;> rfl
 have nP : Rel w F X ⟨fn.ntmps, fx⟩ (hI vs) (gd as) { tmps := vs.toArray ++ Array.replicate (fn.ntmps - vs.toArray.size) undef, defers := [] } w :=
  ⟨rfl, lU, fun i _ => congrFun eT i, F, S, by rw [eT]; exact a7⟩
 have DI : fn.name ≠ "runtime.NumGoroutine" := by simpa using kU
 refine .inl ⟨by simp [callFunc, bH, DI, ae], calls_of_wp bH ae (wp_mono (PR _ nP (congrFun eT)) ?_)⟩
 rintro e cR aU ⟨aA, ⟨he, PS⟩, PT⟩
 obtain ⟨aA, ⟨ds, i7, HN, tr, vb⟩, al, e4, ie, b0, a1, ff⟩ := PT.eE PS
 obtain ⟨xs, i9, bj, dO, b9⟩ := PQ bB ff _ ds i7 tr
 have PU : (results fn cR.tmps) = (do let vs ← fn.results.mapM (vS cR.tmps); pure (if h : vs.size = 1 then vs[0] else .tuple vs)) := by
  unfold results
  congr 1
 have qZ : (results fn cR.tmps).run C.P aU = .ok (if h : xs.toArray.size = 1 then xs.toArray[0] else .tuple xs.toArray) aU := by
  rw [PU, Array.mapM_eq_mapM_toList]
  simp [i9]
 have rq : (r.tree = true ∧ eN r (if h : xs.toArray.size = 1 then xs.toArray[0] else .tuple xs.toArray) ∧
   aB aU b0 r (cY (if h : xs.toArray.size = 1 then xs.toArray[0] else .tuple xs.toArray)) (fun b => ∃ t ∈ fn.results.toList.map jD, a1 t b)) := by
  by_cases ai : ∃ d, ds = [d]
  ·obtain ⟨d, rfl⟩ := ai
   obtain ⟨x, rfl⟩ : ∃ x, xs = [x] := by
    cases xs with
    | nil => simp at bj
    | cons x xs => cases xs with
      | nil => exact ⟨x, rfl⟩
      | cons y c7 => simp at bj
   obtain ⟨b5, cu, fD, eO, gr⟩ := b9 0 d x rfl rfl
   have PV : d = r := HN.symm
   subst PV
   simp only [List.flatMap_cons, List.flatMap_nil, List.append_nil] at dO
   rw [bm] at dO
   obtain ⟨cE, cF, ct, et, a4, a_, a2, c1, c9, cl⟩ := dO
   rw [bm] at a2; subst a2
   simp only [List.append_nil] at a4; subst a4
   have aC : (if h : ([x] : List Value).toArray.size = 1 then ([x] : List Value).toArray[0] else .tuple ([x] : List Value).toArray) = x := by simp
   rw [aC, eO]
   exact ⟨gr, b5, aB.mono (fun _ h => h) _ _ _ _ c1 a_⟩
  ·have y4 : r = .tuple ds := by
    rw [HN]
    cases ds with
    | nil => rfl
    | cons d ds => cases ds with
      | nil => exact (ai ⟨d, rfl⟩).elim
      | cons e ds => rfl
   have aC : (if h : xs.toArray.size = 1 then xs.toArray[0] else Value.tuple xs.toArray) = .tuple xs.toArray := by
    rw [dif_neg]
    intro e4
    have : ds.length = 1 := by rw [← bj]; simpa using e4
    obtain ⟨d, al⟩ := List.length_eq_one_iff.1 this
    exact ai ⟨d, al⟩
   rw [aC, y4]
   refine ⟨rfl, ⟨xs.toArray, rfl, by simpa using bj, fun k d x al aC => ?_⟩, ?_⟩
   ·obtain ⟨b5, cu, fD, eO, _⟩ := b9 k d x al (by simpa using aC)
    exact ⟨(HM cu b5).2, cu, fD⟩
   ·rw [aB]
    simpa [cY] using dO
 have post : ∀ (v : Value), (r.tree = true ∧ eN r v ∧ aB aU b0 r (cY v) (fun b => ∃ t ∈ fn.results.toList.map jD, a1 t b)) → ∃ tj ct, bW w F X tj ct (gd (r :: outs)) (hI (v :: vs)) aU := by
  rintro v ⟨v1, v2, ts⟩
  have DJ : ∀ i, (outs.getD i .hole).gA = true → outs.getD i .hole = aA i ∧ i ∈ fx ∧ i ∉ fn.results.toList.map jD := by
   intro i au
   cases cm : outs[i]? with
   | none => simp [List.getD, cm, I.gA] at au
   | some o =>
     have e : outs.getD i .hole = o := by simp [List.getD, cm]
     rw [e] at au ⊢
     rcases vb i o cm with h | h
     ·subst h; simp [I.gA] at au
     ·exact ⟨h.1, h.2.2⟩
  refine ⟨b0, fun t b => match t with | 0 => ∃ t ∈ fn.results.toList.map jD, a1 t b | i + 1 => (outs.getD i .hole).gA = true ∧ a1 i b, ff.hM, ff.h5, ff.gy, ?_, ?_, ?_, ?_, ?_, ff.old, ff.size, ff.os, ff.tape, ff.output⟩
  ·intro t b ae
   cases t with
   | zero => obtain ⟨t, _, ae⟩ := ae; exact ff.fA t b ae
   | succ i => exact ff.fA i b ae.2
  ·intro t b ae
   cases t with
   | zero => obtain ⟨t, _, ae⟩ := ae; exact ff.gF t b ae
   | succ i => exact ff.gF i b ae.2
  ·intro t u b eg ae hu
   cases t with
   | zero =>
     obtain ⟨t, bh, ae⟩ := ae
     cases u with
     | zero => exact eg rfl
     | succ j =>
       refine ff.gl t j b (fun e => ?_) ae hu.2
       subst e; exact (DJ t hu.1).2.2 bh
   | succ i =>
     cases u with
     | zero =>
       obtain ⟨t, bh, hu⟩ := hu
       refine ff.gl t i b (fun e => ?_) hu ae.2
       subst e; exact (DJ t ae.1).2.2 bh
     | succ j => exact ff.gl i j b (by omega) ae.2 hu.2
  ·intro t b ae
   cases t with
   | zero => obtain ⟨t, _, ae⟩ := ae; exact ff.eA t b ae
   | succ i => exact ff.eA i b ae.2
  ·intro t
   cases t with
   | zero => exact (aW.da v1).2 ⟨v2, ts⟩
   | succ i =>
     show aW aU b0 (gd (r :: outs)) (hI (v :: vs)) (outs.getD i .hole) (vs.getD i undef) (fun b => (outs.getD i .hole).gA = true ∧ a1 i b)
     cases au : (outs.getD i .hole).gA with
     | false =>
       have : outs.getD i .hole = .hole := by
        cases cm : outs[i]? with
        | none => simp [List.getD, cm]
        | some o =>
          have e : outs.getD i .hole = o := by simp [List.getD, cm]
          rw [e] at au ⊢
          rcases vb i o cm with h | h
          ·exact h
          ·rw [h.2.1] at au; cases au
       rw [this, aW]; trivial
     | true =>
       obtain ⟨mv, kB, nL⟩ := DJ i au
       have bh := (p6 au).2.1
       have iY := ff.eu i
       rw [← mv] at iY
       obtain ⟨bf, bG⟩ := (aW.da bh).1 iY
       have a3 : cR.tmps.getD i undef = vs.getD i undef := ie i kB
       rw [a3] at bf bG
       exact (aW.da bh).2 ⟨bf, aB.mono (fun _ h => h) _ _ _ _ (fun b ae => ⟨rfl, ae⟩) bG⟩
 rcases he with rfl | rfl
 ·exact ⟨al, _, qZ, _, rfl, post _ rq⟩
 ·exact ⟨al, _, qZ, _, rfl, post _ rq⟩
theorem aR.of_wp (bB : C.fq) {f : FuncId} {fn : Func} {c : Code} {dD : R} {fx : List Nat} {as outs : List I} {r : I} (bH : C.P.funcs[f]? = some fn) (ae : fn.body = some c)
  (kU : (fn.name == "runtime.NumGoroutine") = false) (ah : bt ⟨fn.ntmps, fx⟩ c = some dD.strip) (bg : as.length ≤ fn.ntmps)
  (h : db C dD (fun e s => (e = .normal ∨ e = .ret) ∧ eE (Ends C fx fn.results.toList r outs) s) (gd as)) (ax : dD.plain = true := by kernel_rfl) : aR C f as r outs :=
 fun w F X S vs hl a7 => DH bB bH ae kU bg hl a7 fun a nP _ => HL bB c (by rw [R.DC]; exact ah) (R.y1 dD (R.HD dD ax)) (y2 dD h) nP
end
def num : Nat → List I → List (Nat × I)
 | _, [] => []
 | k, a :: as => (k, a) :: num (k + 1) as
theorem PW : ∀ (as : List I) (k t : Nat), aa (num k as) (k + t) = as.getD t .hole := by
 intro as
 induction as with
 | nil => intro k t; simp [num, aa]
 | cons a as ih =>
   intro k t
   cases t with
   | zero => simp [num, aa]
   | succ t =>
     have := ih (k + 1) t
     simp only [num, aa]
     rw [if_neg (by omega)]
     rw [show k + (t + 1) = k + 1 + t by omega, this]
     simp
theorem y5 (as : List I) : gd as = aa (num 0 as) := by
 funext t
 have := PW as 0 t
 rw [Nat.zero_add] at this
 rw [this]; rfl
theorem kD (l : List (Nat × I)) (t : Nat) (d : I) : dt (aa l) t d = aa ((t, d) :: l) := by
 funext u; simp only [dt, aa]
def nS (t : Nat) : List (Nat × I) → List (Nat × I)
 | [] => []
 | (u, d) :: l => (u, cO t d) :: nS t l
def rr (t : Nat) : List (Nat × I) → List (Nat × I)
 | [] => []
 | (u, d) :: l => (u, cc t d) :: rr t l
theorem vT (t : Nat) : ∀ l : List (Nat × I), lo t (aa l) = aa (nS t l) := by
 intro l
 funext u
 induction l with
 | nil => rfl
 | cons p l ih =>
   obtain ⟨v, d⟩ := p
   simp only [lo, aa, nS] at ih ⊢
   split
   ·rfl
   ·exact ih
theorem PX (t : Nat) : ∀ l : List (Nat × I), iG t (aa l) = aa (rr t l) := by
 intro l
 funext u
 induction l with
 | nil => rfl
 | cons p l ih =>
   obtain ⟨v, d⟩ := p
   simp only [iG, aa, rr] at ih ⊢
   split
   ·rfl
   ·exact ih
def iv (k : List Nat) (s : ar) : List (Nat × I) := k.map fun t => (t, s t)
section
variable {C : ck} {l : List (Nat × I)}
def ga.ru : ga → Bool
 | .call _ _ => true
 | .ad _ => false
 | .af _ => false
 | .pick _ _ _ => false
 | .eB _ => false
 | .c2 _ _ => false
 | .fC _ _ => false
 | .eD _ _ _ => false
 | .aD _ _ => false
 | .cx _ _ _ => false
 | .dN _ => false
 | .aq _ _ _ _ => false
 | .un _ _ => false
 | .fZ _ _ _ => false
 | .h8 _ _ => false
 | .eV _ _ _ => false
 | .fB _ _ _ _ => false
 | .aP _ _ _ => false
 | .bJ _ _ _ => false
 | .idx _ _ _ => false
 | .ex _ _ => false
 | .len _ _ => false
 | .app _ _ _ _ => false
 | .shr _ => true
 | .mZ _ _ _ _ => false
 | .cap _ _ => false
 | .oF _ _ _ => false
 | .bad => false
 | .lT _ _ _ _ => true
 | .jX _ _ _ => true
 | .ju _ _ => false
variable {Q : Exit → ar → Prop}
def I.DK : I → Bool
 | .tuple _ => true
 | _ => false
theorem Ends.one {fx : List Nat} {t : Nat} {r : I} {s : ar} (ai : s t = r) (aj : (r.tree && !r.DK) = true) : Ends C fx [.tmp t] r [] s := by
 simp only [Bool.and_eq_true, Bool.not_eq_true'] at aj
 obtain ⟨aj, y6⟩ := aj
 have aQ : ∀ vs, r ≠ .tuple vs := fun vs e => by subst e; simp [I.DK] at y6
 refine ⟨[r], ?_, rfl, by simp, fun i o h => by simp at h⟩
 have : qb C s (.tmp t) = some r := by
  simp only [qb, ai, aj, if_true]
  try (cases r <;> first | rfl | exact (aQ _ rfl).elim)
 simp only [List.map_cons, List.map_nil, this]
end
section
variable {C : ck} {l : List (Nat × I)} {Q : Exit → ar → Prop}
theorem aR.outs {f : FuncId} {as : List I} {r : I} {mv kB : List I} (h : aR C f as r mv) (he : gd mv = gd kB) : aR C f as r kB := by
 intro w F X S vs hl a7
 refine m4.mono (h w F X S vs hl a7) ?_
 rintro v aU ⟨b0, a1, bD⟩
 refine ⟨b0, a1, ?_⟩
 have : gd (r :: kB) = gd (r :: mv) := by
  funext t
  cases t with
  | zero => rfl
  | succ t => exact (congrFun he t).symm
 rw [this]; exact bD
def lC : List I → List I → List cM
 | a :: as, d :: ds => ⟨a, false, d, .hole⟩ :: lC as ds
 | _, _ => []
theorem PY {s : ar} : ∀ (as ds : List I), views s as = some ds → (lC as ds).map (·.a) = as ∧ (lC as ds).map (·.d) = ds ∧ (∀ p ∈ lC as ds, p.ok s ∧ p.g = false ∧ p.o = .hole ∧ p.a ∈ as) ∧ h9 (lC as ds) = true ∧
  gd ((lC as ds).map (·.o)) = gd [] ∧ (∀ pr, fg pr (lC as ds) = pr) ∧ (∀ pr, hH pr (lC as ds) = pr) := by
 intro as
 induction as with
 | nil =>
   intro ds h
   simp only [views, Option.some.injEq] at h; subst h
   exact ⟨rfl, rfl, (fun p ax => by cases ax), rfl, rfl, fun _ => rfl, fun _ => rfl⟩
 | cons a as ih =>
   intro ds h
   simp only [views] at h
   split at h
   ·rename_i d PZ ai aj
    simp only [Option.some.injEq] at h; subst h
    obtain ⟨a4, a_, a2, c1, c9, cl, cf⟩ := ih PZ aj
    refine ⟨by simp only [lC, List.map_cons, a4], by simp only [lC, List.map_cons, a_], ?_, ?_, ?_, ?_, ?_⟩
    ·intro p ax
     simp only [lC, List.mem_cons] at ax
     rcases ax with rfl | ax
     ·exact ⟨by simp only [cM.ok]; exact ai, rfl, rfl, by simp⟩
     ·obtain ⟨bf, bG, cC, eH⟩ := a2 p ax
      exact ⟨bf, bG, cC, by simp [eH]⟩
    ·simp only [lC, h9, c1, Bool.and_true, List.all_eq_true]
     intro p ax
     simp [(a2 p ax).2.1]
    ·funext t
     cases t with
     | zero => rfl
     | succ t => exact (congrFun c9 t).trans (by simp [gd])
    ·intro pr; exact cl pr
    ·intro pr; exact cf pr
   ·cases h
end
structure fF where
 bO : List Nat
 H : List Nat
 T : List Nat
 c : Bool
mutual
def I.clean : I → Bool
 | .hole => false
 | .fn _ cap => I.tt cap
 | _ => true
def I.tt : List I → Bool
 | [] => true
 | d :: ds => d.clean && I.tt ds
end
mutual
theorem HO {x : Nat} : ∀ a : I, (cc x a).clean = true → cc x a = a
 | .h y q, h => by
   simp only [cc] at h ⊢
   split
   ·rename_i e; rw [if_pos e] at h
    split
    ·rfl
    ·rename_i gE; rw [if_neg gE] at h; simp [I.clean] at h
   ·rfl
 | .ax y q, h => by
   simp only [cc] at h ⊢
   split
   ·rename_i e; rw [if_pos e] at h; simp [I.clean] at h
   ·rfl
 | .ae y q, h => rfl
 | .fn f cap, h => by simp only [cc, I.clean] at h ⊢; rw [HP cap h]
 | .hole, _ => rfl
 | .bool _, _ => rfl
 | .e7, _ => rfl
 | .int _ _, _ => rfl
 | .str _, _ => rfl
 | .dC, _ => rfl
 | .bc, _ => rfl
 | .slice _, _ => rfl
 | .aw _ _, _ => rfl
 | .ref _, _ => rfl
 | .a8 _, _ => rfl
 | .agg _, _ => rfl
 | .tuple _, _ => rfl
theorem HP {x : Nat} : ∀ ds : List I, I.tt (ir x ds) = true → ir x ds = ds
 | [], _ => rfl
 | d :: ds, h => by
   simp only [ir, I.tt, Bool.and_eq_true] at h ⊢
   rw [HO d h.1, HP ds h.2]
end
mutual
theorem HQ {x : Nat} : ∀ a : I, (cO x a).clean = true → cO x a = a
 | .h y q, h => by
   simp only [cO] at h ⊢
   split
   ·rename_i e; rw [if_pos e] at h; simp [I.clean] at h
   ·rfl
 | .ax y q, h => by
   simp only [cO] at h ⊢
   split
   ·rename_i e; rw [if_pos e] at h; simp [I.clean] at h
   ·rfl
 | .ae y q, h => by
   simp only [cO] at h ⊢
   split
   ·rename_i e; rw [if_pos e] at h; simp [I.clean] at h
   ·rfl
 | .fn f cap, h => by simp only [cO, I.clean] at h ⊢; rw [HR cap h]
 | .hole, _ => rfl
 | .bool _, _ => rfl
 | .e7, _ => rfl
 | .int _ _, _ => rfl
 | .str _, _ => rfl
 | .dC, _ => rfl
 | .bc, _ => rfl
 | .slice _, _ => rfl
 | .aw _ _, _ => rfl
 | .ref _, _ => rfl
 | .a8 _, _ => rfl
 | .agg _, _ => rfl
 | .tuple _, _ => rfl
theorem HR {x : Nat} : ∀ ds : List I, I.tt (iU x ds) = true → iU x ds = ds
 | [], _ => rfl
 | d :: ds, h => by
   simp only [iU, I.tt, Bool.and_eq_true] at h ⊢
   rw [HQ d h.1, HR ds h.2]
end
theorem P0 {k : oG} {x : Nat} {a : I} (h : (k.app x a).clean = true) : k.app x a = a := by
 cases k with
 | no => rfl
 | cc => exact HO a h
 | cO => exact HQ a h
theorem P1 : ∀ (ms : List gQ) (u : Nat) (a : I), (∀ m ∈ ms, m.x ≠ u) → (jv ms u a).clean = true → jv ms u a = a := by
 intro ms
 induction ms with
 | nil => intros; rfl
 | cons m ms ih =>
   intro u a aC ay
   simp only [jv] at ay ⊢
   have e := ih u _ (fun hU rv => aC hU (by simp [rv])) ay
   have hm : m.at u a = m.k.app m.x a := by
    simp only [gQ.at]; rw [if_neg (fun e => aC m (by simp) e.symm)]
   rw [e, hm]
   rw [e, hm] at ay
   exact P0 ay
theorem P2 : ∀ (ms : List gQ) (u : Nat) (a : I), (∀ m ∈ ms, m.x ≠ u ∧ m.x ∉ a.ah) → jv ms u a = a := by
 intro ms
 induction ms with
 | nil => intros; rfl
 | cons m ms ih =>
   intro u a aC
   simp only [jv]
   have hm : m.at u a = a := by
    simp only [gQ.at]; rw [if_neg (fun e => (aC m (by simp)).1 e.symm)]
    exact vy (.inr (aC m (by simp)).2)
   rw [hm]
   exact ih u a fun hU rv => aC hU (by simp [rv])
theorem P3 (m : gQ) : ∀ (ms : List gQ) (u : Nat) (a : I), (∀ hU ∈ ms, hU.x ≠ m.x ∧ hU.x ∉ m.d.ah ∧ m.x ∉ hU.d.ah) → jv ms u (m.at u a) = m.at u (jv ms u a) := by
 intro ms
 induction ms with
 | nil => intros; rfl
 | cons n ms ih =>
   intro u a aC
   simp only [jv]
   have bg := aC n (by simp)
   have ay : n.at u (m.at u a) = m.at u (n.at u a) := by
    simp only [gQ.at]
    by_cases a4 : u = n.x
    ·subst a4
     rw [if_pos rfl, if_neg bg.1, if_pos rfl]
     exact (vy (.inr bg.2.2)).symm
    ·rw [if_neg a4]
     by_cases a_ : u = m.x
     ·subst a_
      rw [if_pos rfl, if_pos rfl]
      exact vy (.inr bg.2.1)
     ·rw [if_neg a_, if_neg a4, if_neg a_]
      exact Oy _ _ _ _ _
   rw [ay]
   exact ih u _ fun hU rv => aC hU (by simp [rv])
theorem P4 : ∀ (ms kA : List gQ) (s : ar), (∀ m ∈ ms, ∀ n ∈ kA, n.x ≠ m.x ∧ n.x ∉ m.d.ah ∧ m.x ∉ n.d.ah) → dw kA (dw ms s) = dw ms (dw kA s) := by
 intro ms
 induction ms with
 | nil => intros; rfl
 | cons m ms ih =>
   intro kA s h
   have e : ∀ s, dw (m :: ms) s = dw ms (dw [m] s) := fun s => k8 [m] ms s
   rw [e, e, ih kA _ (fun hU rv => h hU (by simp [rv]))]
   congr 1
   funext u
   simp only [dw, jv]
   exact P3 m kA u _ (h m (by simp))
def DL (C : ck) (s : ar) (f : aI) (args : List aI) (K : List Nat → I → ar → Prop) : Prop :=
 ∃ (g : FuncId) (caps : List I) (ps : List cM) (r : I), aS s f = .fn g caps ∧ I.dI caps = true ∧ ps.map (·.a) = args.map (aS s) ++ caps ∧ (∀ p ∈ ps, p.ok s) ∧ h9 ps = true ∧
   aR C g (ps.map (·.d)) r (ps.map (·.o)) ∧ r.res = true ∧ (jx ps = true → r.cW = true ∧ ∀ p ∈ ps, p.o.cW = true) ∧ K (I.ea ((ps.filter (·.g)).map (·.a))) r (hH (fg s ps) ps)
def m9 (C : ck) (s : ar) (bN : ga) (K : List Nat → I → ar → Prop) : Prop :=
 match bN with
 | .call f args => ∃ (g : FuncId) (caps : List I) (ps : List cM) (r : I), aS s f = .fn g caps ∧ I.dI caps = true ∧ ps.map (·.a) = args.map (aS s) ++ caps ∧ (∀ p ∈ ps, p.ok s) ∧ h9 ps = true ∧
   aR C g (ps.map (·.d)) r (ps.map (·.o)) ∧ r.res = true ∧ (jx ps = true → r.cW = true ∧ ∀ p ∈ ps, p.o.cW = true) ∧ K (I.ea ((ps.filter (·.g)).map (·.a))) r (hH (fg s ps) ps)
 | .shr bN => ∃ av s1, bX C s bN = some (av, s1) ∧ av.tree = true ∧ (∀ vs, av ≠ .tuple vs) ∧ K (dA s bN) av.share s1
 | .lT f args u x => s u = .h x [] ∧ (s x).own = true ∧ DL C s f args fun cS av s1 => s1 u = .hole ∧ (s1 x).own = true ∧ K (u :: cS) av (dt s1 u (.h x []))
 | .jX f args us => kS s (iZ s us) = true ∧ DL C s f args fun cS av s1 => kS s1 (iZ s us) = true ∧ K (us ++ cS) av (lW s1 (iZ s us))
 | bN => ∃ av s1, bX C s bN = some (av, s1) ∧ K (dA s bN) av s1
def iN (s : ar) (bO : List Nat) (dst : Option Nat) (cS : List Nat) (av : I) : fF :=
 ⟨bO, bO.flatMap (fun u => (s u).ah) ++ av.ah, dst.toList ++ cS, bO.all fun u => (s u).clean⟩
def my (C : ck) (s : ar) (o : cK) (K : fF → ar → Prop) : Prop :=
 match o.guard with
 | none => m9 C s o.bN fun cS av s1 => K (iN s (use s o.bN) o.dst cS av) (fin s1 o.dst av)
 | some (t, b) => match s t with
   | .bool fY => if fY = b then m9 C s o.bN (fun cS av s1 => K (iN s (t :: use s o.bN) o.dst cS av) (fin s1 o.dst av)) else K (iN s [t] o.dst [] (.tuple [])) (fin s o.dst (.tuple []))
   | .tuple [] => K (iN s [t] o.dst [] (.tuple [])) (fin s o.dst (.tuple []))
   | _ => False
def oM : Option (List fF) → fF → Option (List fF)
 | none, _ => none
 | some l, f => some (f :: l)
def cv (C : ck) (s : ar) : List cK → Option (List fF) → (Option (List fF) → ar → Prop) → Prop
 | [], acc, K => K acc s
 | o :: os, acc, K => my C s o fun f s1 => cv C s1 os (oM acc f) K
section
variable {C : ck}
theorem HS {s : ar} {bN : ga} {K : List Nat → I → ar → Prop} {du : I → ar → Prop} (aE : ∀ cS av s, K cS av s → du av s) (h : m9 C s bN K) : m7 C s bN du := by
 cases bN with
 | call f args =>
   obtain ⟨g, caps, ps, r, ai, gf, aj, aQ, bd, b3, cG, cp, fR⟩ := h
   exact ⟨g, caps, ps, r, ai, gf, aj, aQ, bd, b3, cG, cp, aE _ _ _ fR⟩
 | lT f args u x =>
   obtain ⟨b5, cu, g, caps, ps, r, ai, gf, aj, aQ, bd, b3, cG, cp, fR, iF, hL⟩ := h
   exact ⟨b5, cu, g, caps, ps, r, ai, gf, aj, aQ, bd, b3, cG, cp, fR, iF, aE _ _ _ hL⟩
 | jX f args us =>
   obtain ⟨cu, g, caps, ps, r, ai, gf, aj, aQ, bd, b3, cG, cp, fR, iF⟩ := h
   exact ⟨cu, g, caps, ps, r, ai, gf, aj, aQ, bd, b3, cG, cp, fR, aE _ _ _ iF⟩
 | shr bN =>
   obtain ⟨av, s1, ai, aj, aQ, bd⟩ := h
   exact ⟨av, s1, ai, aj, aQ, aE _ _ _ bd⟩
 | _ =>
   obtain ⟨av, s1, ai, aj⟩ := h
   exact ⟨av, s1, ai, aE _ _ _ aj⟩
theorem P5 {s : ar} {o : cK} {K : fF → ar → Prop} {du : ar → Prop} (aE : ∀ f s, K f s → du s) (h : my C s o K) : k9 C s o du := by
 unfold my at h
 unfold k9
 split
 ·rename_i b8; rw [b8] at h; exact HS (fun _ _ _ => aE _ _) h
 ·rename_i t b b8
  rw [b8] at h
  simp only at h
  split
  ·rename_i fY ah
   rw [ah] at h
   simp only at h
   split
   ·rename_i ae; rw [if_pos ae] at h; exact HS (fun _ _ _ => aE _ _) h
   ·rename_i ae; rw [if_neg ae] at h; exact aE _ _ h
  ·rename_i ah; rw [ah] at h; exact aE _ _ h
  ·rename_i ai aj
   split at h
   ·exact ai _ (by assumption)
   ·exact aj (by assumption)
   ·exact h
theorem ry {K : ar → Prop} : ∀ {ros : List cK} {s : ar} {acc : Option (List fF)} {du : Option (List fF) → ar → Prop}, (∀ a s, du a s → K s) → cv C s ros acc du → kT C s ros K := by
 intro ros
 induction ros with
 | nil => intro s acc du aE h; exact aE _ _ h
 | cons o ros ih => intro s acc du aE h; exact P5 (fun f s h => ih aE h) h
theorem HT {q : List Nat} {a d : I} (h : I.sub q a = some d) (dd : q ≠ [] ∨ d.ah = []) : a.ah = [] := by
 cases q with
 | nil =>
   simp only [I.sub, Option.some.injEq] at h; subst h
   exact dd.resolve_left (fun e => e rfl)
 | cons k q => cases a <;> first | rfl | (simp [I.sub] at h)
def y7 (s : ar) (p : cM) (e : I → Prop) : Prop := p.g = true → ∃ x q d, p.a = .h x q ∧ I.sub q (s x) = some d ∧ e d ∧ (p.o = .hole ∨ p.o.gA = true)
theorem HU {d : I} (h : d.gA = true) : d.ah = [] := Dl (p6 h).2.1
theorem HV {d : I} (h : d.gA = true) : d.di.ah = [] := by cases d <;> first | rfl | (simp [I.gA] at h)
theorem HW {p : cM} {ps : List cM} (h : h9 (p :: ps) = true) : h9 ps = true ∧ ∀ cz ∈ ps, (p.g = true ∨ cz.g = true) → ∀ u ∈ p.a.ah, u ∉ cz.a.ah := by
 simp only [h9, Bool.and_eq_true, List.all_eq_true, Bool.or_eq_true, Bool.not_eq_true'] at h
 refine ⟨h.2, fun cz eP b8 u hu => ?_⟩
 rcases h.1 cz eP with e | e
 ·rcases b8 with b8 | b8 <;> simp [b8] at e
 ·simpa using e u hu
def pt (ps : List cM) : List Nat := I.ea ((ps.filter (·.g)).map (·.a))
theorem tu (p : cM) (ps : List cM) : (∀ u ∈ pt ps, u ∈ pt (p :: ps)) ∧ (p.g = true → ∀ u ∈ p.a.ah, u ∈ pt (p :: ps)) := by
 unfold pt
 by_cases b8 : p.g = true
 ·simp only [List.filter_cons, b8, if_true, List.map_cons, I.ea, List.mem_append]
  exact ⟨fun u h => .inr h, fun _ u h => .inl h⟩
 ·simp only [List.filter_cons, b8]
  exact ⟨fun u h => h, fun h => by simp at h⟩
theorem P6 {p : cM} {ps : List cM} (h : p ∈ ps) : ∀ u ∈ p.a.ah, u ∈ I.ea (ps.map (·.a)) := by
 induction ps with
 | nil => cases h
 | cons cz ps ih =>
   intro u hu
   simp only [List.map_cons, I.ea, List.mem_append]
   rcases List.mem_cons.1 h with rfl | h
   ·exact .inl hu
   ·exact .inr (ih h u hu)
theorem P7 : ∀ (ps : List cM) (s : ar), (∀ p ∈ ps, y7 s p (fun d => d = p.d ∧ p.d.gA = true)) → h9 ps = true →
  (∃ ms : List gQ, (∀ m ∈ ms, m.x ∈ pt ps ∧ m.d.ah = []) ∧ ∀ aA, ej (I.ea (ps.map (·.a))) aA s → fg aA ps = dw ms aA) ∧ ∀ p ∈ ps, y7 (fg s ps) p (fun d => d = p.d.di ∧ p.d.gA = true) := by
 intro ps
 induction ps with
 | nil => intro s _ _; exact ⟨⟨[], by simp, fun aA _ => rfl⟩, fun p ax => by cases ax⟩
 | cons p ps ih =>
   intro s b8 kz
   obtain ⟨nK, m3⟩ := HW kz
   by_cases lD : p.g = true
   ·obtain ⟨x, q, d, cw, ah, ⟨rfl, al⟩, cm⟩ := b8 p (by simp) lD
    have kq : (I.put q p.d.di (s x)).ah = [] := vz q _ _ _ ah (.inl (p6 al).1) fun _ => HV al
    have vU : ∀ aA : ar, aA x = s x → p.take aA = dw [⟨.cc, x, I.put q p.d.di (s x)⟩] aA := by
     intro aA e
     simp only [cM.take, lD, if_true, cw, e, vw]
    have eg : ∀ cz ∈ ps, ∀ cy i6, cz.a = .h cy i6 → cy ≠ x := by
     intro cz eP cy i6 e gE
     have := m3 cz eP (.inl lD) x (by simp [cw, I.ah])
     rw [e, gE] at this; simp [I.ah] at this
    have p7 : ∀ cy, cy ≠ x → (s cy).ah = [] → dw [⟨.cc, x, I.put q p.d.di (s x)⟩] s cy = s cy := by
     intro cy CV a9
     simp only [dw, jv, gQ.at]
     rw [if_neg CV]
     exact vy (.inr (by rw [a9]; simp))
    obtain ⟨⟨ms, fS, gG⟩, hg⟩ := ih (dw [⟨.cc, x, I.put q p.d.di (s x)⟩] s) (fun cz eP DM => by
     obtain ⟨cy, i6, bF, ri, fs, hc, vV⟩ := b8 cz (by simp [eP]) DM
     refine ⟨cy, i6, bF, ri, ?_, hc, vV⟩
     rw [p7 cy (eg cz eP cy i6 ri) (HT fs (.inr (by rw [hc.1]; exact HU hc.2)))]; exact fs) nK
    refine ⟨⟨[⟨.cc, x, I.put q p.d.di (s x)⟩] ++ ms, ?_, ?_⟩, ?_⟩
    ·intro m hm
     rcases List.mem_append.1 hm with hm | hm
     ·simp only [List.mem_singleton] at hm; subst hm
      exact ⟨(tu p ps).2 lD x (by simp [cw, I.ah]), kq⟩
     ·exact ⟨(tu p ps).1 _ (fS m hm).1, (fS m hm).2⟩
    ·intro aA fs
     simp only [List.map_cons, I.ea] at fs
     have e : aA x = s x := fs x (by simp [cw, I.ah])
     rw [k8]
     show fg (p.take aA) ps = _
     rw [vU aA e]
     exact gG _ (ej.dw fs.right _)
    ·have a4 : fg s (p :: ps) = fg (dw [⟨.cc, x, I.put q p.d.di (s x)⟩] s) ps := by
      show fg (p.take s) ps = _
      rw [vU s rfl]
     rw [a4]
     intro cz eP
     rcases List.mem_cons.1 eP with rfl | eP
     ·intro _
      refine ⟨x, q, cz.d.di, cw, ?_, ⟨rfl, al⟩, cm⟩
      have a3 : dw [⟨.cc, x, I.put q cz.d.di (s x)⟩] s x = I.put q cz.d.di (s x) := by
       simp only [dw, jv, gQ.at, if_true]
      rw [Di (by rw [a3]; exact kq) (fun P8 P9 auU => ?_), a3]
      ·exact Hh q _ _ _ ah
      ·exact m3 P8 P9 (.inl lD) x (by simp [cw, I.ah])
     ·exact hg cz eP
   ·have vU : ∀ aA : ar, p.take aA = aA := by intro aA; simp only [cM.take, lD]; rfl
    obtain ⟨⟨ms, fS, gG⟩, hg⟩ := ih s (fun cz eP => b8 cz (by simp [eP])) nK
    refine ⟨⟨ms, fun m hm => ⟨(tu p ps).1 _ (fS m hm).1, (fS m hm).2⟩, ?_⟩, ?_⟩
    ·intro aA fs
     simp only [List.map_cons, I.ea] at fs
     show fg (p.take aA) ps = _
     rw [vU]; exact gG aA fs.right
    ·intro cz eP
     have a4 : fg s (p :: ps) = fg s ps := by show fg (p.take s) ps = _; rw [vU]
     rw [a4]
     rcases List.mem_cons.1 eP with rfl | eP
     ·intro h; exact (lD h).elim
     ·exact hg cz eP
theorem P_ : ∀ (ps : List cM) (s : ar), (∀ p ∈ ps, y7 s p (fun d => d = p.d.di ∧ p.d.gA = true)) → h9 ps = true →
  (∃ ms : List gQ, (∀ m ∈ ms, m.x ∈ pt ps ∧ m.d.ah = []) ∧ ∀ aA, ej (I.ea (ps.map (·.a))) aA s → hH aA ps = dw ms aA) := by
 intro ps
 induction ps with
 | nil => intro s _ _; exact ⟨[], by simp, fun aA _ => rfl⟩
 | cons p ps ih =>
   intro s b8 kz
   obtain ⟨nK, m3⟩ := HW kz
   by_cases lD : p.g = true ∧ p.o ≠ .hole
   ·obtain ⟨lD, Qa⟩ := lD
    obtain ⟨x, q, d, cw, ah, ⟨rfl, al⟩, cm⟩ := b8 p (by simp) lD
    have cm : p.o.gA = true := cm.resolve_left Qa
    have kq : (I.put q p.o (s x)).ah = [] := by
     cases q with
     | nil => simp only [I.put]; exact HU cm
     | cons k q => exact vz _ _ _ _ ah (.inr (by simp)) (by simp)
    have DN : ∀ aA : ar, aA x = s x → p.iX aA = dw [⟨.cO, x, I.put q p.o (s x)⟩] aA := by
     intro aA e
     simp only [cM.iX, lD, if_true, cw]
     rw [e, G3]
    have eg : ∀ cz ∈ ps, ∀ cy i6, cz.a = .h cy i6 → cy ≠ x := by
     intro cz eP cy i6 e gE
     have := m3 cz eP (.inl lD) x (by simp [cw, I.ah])
     rw [e, gE] at this; simp [I.ah] at this
    obtain ⟨ms, fS, gG⟩ := ih (dw [⟨.cO, x, I.put q p.o (s x)⟩] s) (fun cz eP DM => by
     obtain ⟨cy, i6, bF, ri, fs, hc, vV⟩ := b8 cz (by simp [eP]) DM
     refine ⟨cy, i6, bF, ri, ?_, hc, vV⟩
     have a9 := HT fs (.inr (by rw [hc.1]; exact HV hc.2))
     have p7 : dw [⟨.cO, x, I.put q p.o (s x)⟩] s cy = s cy := by
      simp only [dw, jv, gQ.at]
      rw [if_neg (eg cz eP cy i6 ri)]
      exact vy (.inr (by rw [a9]; simp))
     rw [p7]; exact fs) nK
    refine ⟨[⟨.cO, x, I.put q p.o (s x)⟩] ++ ms, ?_, ?_⟩
    ·intro m hm
     rcases List.mem_append.1 hm with hm | hm
     ·simp only [List.mem_singleton] at hm; subst hm
      exact ⟨(tu p ps).2 lD x (by simp [cw, I.ah]), kq⟩
     ·exact ⟨(tu p ps).1 _ (fS m hm).1, (fS m hm).2⟩
    ·intro aA fs
     simp only [List.map_cons, I.ea] at fs
     have e : aA x = s x := fs x (by simp [cw, I.ah])
     rw [k8]
     show hH (p.iX aA) ps = _
     rw [DN aA e]
     exact gG _ (ej.dw fs.right _)
   ·have DN : ∀ aA : ar, p.iX aA = aA := by
     intro aA
     unfold cM.iX
     split
     ·rename_i hG
      have : p.o = .hole := by
       by_cases h : p.o = .hole
       ·exact h
       ·exact (lD ⟨hG, h⟩).elim
      rw [this]
     ·rfl
    obtain ⟨ms, fS, gG⟩ := ih s (fun cz eP => b8 cz (by simp [eP])) nK
    refine ⟨ms, fun m hm => ⟨(tu p ps).1 _ (fS m hm).1, (fS m hm).2⟩, ?_⟩
    intro aA fs
    simp only [List.map_cons, I.ea] at fs
    show hH (p.iX aA) ps = _
    rw [DN]; exact gG aA fs.right
theorem Qb {s aA : ar} : ∀ (a : I) (d : I), ej a.ah aA s → view s a = some d → view aA a = some d := by
 intro a d h
 have := Dm (s := s) (aA := aA) a d
 intro a3
 cases a with
 | h x q => simp only [view] at a3 ⊢; rw [h x (by simp [I.ah])]; exact a3
 | ax x q => simp only [view] at a3 ⊢; rw [h x (by simp [I.ah])]; exact a3
 | fn f cap =>
   refine this (fun u hu _ => h u hu) a3
 | _ => exact a3
theorem Qc {p : cM} {s aA : ar} (h : ej p.a.ah aA s) (fL : p.ok s) : p.ok aA := by
 unfold cM.ok at fL ⊢
 split
 ·rename_i b8
  rw [if_pos b8] at fL
  cases cw : p.a with
  | h x q =>
    rw [cw] at fL
    simp only at fL ⊢
    rw [h x (by simp [cw, I.ah])]; exact fL
  | _ => rw [cw] at fL; exact fL.elim
 ·rename_i b8
  rw [if_neg b8] at fL
  exact Qb _ _ h fL
def y8 (C : ck) (o : cK) (s : ar) (kc : fF) (ms : List gQ) : Prop :=
 (∀ aA, ej kc.bO aA s → ∀ K : ar → Prop, K (dw ms aA) → k9 C aA o K) ∧ (∀ m ∈ ms, m.x ∈ kc.T ∧ ∀ u ∈ m.d.ah, u ∈ kc.H) ∧ (∀ u ∈ kc.bO, ∀ x ∈ (s u).ah, x ∈ kc.H) ∧ (kc.c = true → ∀ u ∈ kc.bO, (s u).clean = true)
theorem HX (dst : Option Nat) (av : I) : ∃ ms : List gQ, (∀ m ∈ ms, m.x ∈ dst.toList ∧ m.d = av) ∧ ∀ s1 : ar, fin s1 dst av = dw ms s1 := by
 cases dst with
 | none => exact ⟨[], by simp, fun s => rfl⟩
 | some t =>
   simp only [fin]
   by_cases h : av.plain = true
   ·exact ⟨[⟨.no, t, av⟩], by simp, fun s => by rw [if_pos h, C6]⟩
   ·exact ⟨[⟨.cO, t, av⟩], by simp, fun s => by rw [if_neg h, G3]⟩
theorem y9 {s : ar} {bO : List Nat} {dst : Option Nat} {cS : List Nat} {av : I} : (∀ u ∈ (iN s bO dst cS av).bO, ∀ x ∈ (s u).ah, x ∈ (iN s bO dst cS av).H) ∧ ((iN s bO dst cS av).c = true → ∀ u ∈ (iN s bO dst cS av).bO, (s u).clean = true) := by
 refine ⟨fun u hu x aC => ?_, fun ay => ?_⟩
 ·simp only [iN, List.mem_append, List.mem_flatMap]; exact .inl ⟨u, hu, aC⟩
 ·simp only [iN, List.all_eq_true] at ay; exact ay
theorem DO {s : ar} {f : aI} {args : List aI} {K : List Nat → I → ar → Prop} (h : DL C s f args K) :
  ∃ cS av ms, K cS av (dw ms s) ∧ (∀ m ∈ ms, m.x ∈ cS ∧ m.d.ah = []) ∧ ∀ aA, ej (use s (.call f args)) aA s → ∀ du : I → ar → Prop, du av (dw ms aA) → yU C aA f args du := by
 obtain ⟨g, caps, ps, r, ai, gf, aj, aQ, bd, b3, cG, cp, fR⟩ := h
 have Qd : ∀ p ∈ ps, y7 s p (fun d => d = p.d ∧ p.d.gA = true) := by
  intro p ax b8
  have := aQ p ax
  simp only [cM.ok, b8, if_true] at this
  cases cw : p.a with
  | h x q => rw [cw] at this; exact ⟨x, q, p.d, rfl, this.1, ⟨rfl, this.2.1⟩, this.2.2.imp id fun h => h.1⟩
  | _ => rw [cw] at this; exact this.elim
 obtain ⟨⟨nJ, ab, bk⟩, dz⟩ := P7 ps s Qd bd
 obtain ⟨rf, ly, iW⟩ := P_ ps (fg s ps) dz bd
 have oD : ∀ u ∈ I.ea (ps.map (·.a)), u ∈ use s (.call f args) := by
  rw [aj]
  intro u hu
  simp only [use, List.mem_append]
  have key : ∀ (hP l2 : List I), u ∈ I.ea (hP ++ l2) → u ∈ I.ea hP ∨ u ∈ I.ea l2 := by
   intro hP
   induction hP with
   | nil => intro l2 h; exact .inr h
   | cons a hP ih =>
     intro l2 h
     simp only [List.cons_append, I.ea, List.mem_append] at h ⊢
     rcases h with h | h
     ·exact .inl (.inl h)
     ·exact (ih l2 h).imp .inr id
  rcases key _ _ hu with hu | hu
  ·exact .inr (aI.yP u hu)
  ·refine .inl (aI.rb u ?_)
   rw [ai]; exact hu
 have gu : hH (fg s ps) ps = dw (nJ ++ rf) s := by
  rw [k8, ← bk s (fun _ _ => rfl), iW _ (fun _ _ => rfl)]
 refine ⟨pt ps, r, nJ ++ rf, by rw [← gu]; exact fR, ?_, ?_⟩
 ·intro m hm
  rcases List.mem_append.1 hm with hm | hm
  ·exact ab m hm
  ·exact ly m hm
 ·intro aA ah du aE
  have pn : ej (I.ea (ps.map (·.a))) aA s := ah.sub oD
  have bH : ej (f.use s) aA s := by simp only [use] at ah; exact ah.left
  have aC : ej (aI.m2 s args) aA s := by simp only [use] at ah; exact ah.right
  have a4 : hH (fg aA ps) ps = dw (nJ ++ rf) aA := by
   rw [k8, ← bk aA pn, iW]
   rw [bk aA pn, bk s (fun _ _ => rfl)]
   exact ej.dw pn _
  exact ⟨g, caps, ps, r, by rw [aI.gH bH]; exact ai, gf, by rw [aI.C_ aC]; exact aj, fun p ax => Qc (pn.sub (P6 ax)) (aQ p ax), bd, b3, cG, cp, by rw [a4]; exact aE⟩
mutual
theorem HY {s aA : ar} : ∀ (d : I), ej d.ah aA s → d.fT aA = d.fT s
 | .h x q, h => by simp only [I.fT]; rw [h x (by simp [I.ah])]
 | .ae x q, h => by simp only [I.fT]; rw [h x (by simp [I.ah])]
 | .fn f cap, h => by simp only [I.fT]; exact HZ cap (by simpa only [I.ah] using h)
 | .ax _ _, _ => by simp only [I.fT]
 | .hole, _ => by simp only [I.fT]
 | .bool _, _ => by simp only [I.fT]
 | .e7, _ => by simp only [I.fT]
 | .int _ _, _ => by simp only [I.fT]
 | .str _, _ => by simp only [I.fT]
 | .dC, _ => by simp only [I.fT]
 | .bc, _ => by simp only [I.fT]
 | .slice _, _ => by simp only [I.fT]
 | .aw _ _, _ => by simp only [I.fT]
 | .ref _, _ => by simp only [I.fT]
 | .a8 _, _ => by simp only [I.fT]
 | .agg _, _ => by simp only [I.fT]
 | .tuple _, _ => by simp only [I.fT]
theorem HZ {s aA : ar} : ∀ (ds : List I), ej (I.ea ds) aA s → I.m6 aA ds = I.m6 s ds
 | [], _ => rfl
 | d :: ds, h => by
   simp only [I.ea] at h
   simp only [I.m6]; rw [HY d h.left, HZ ds h.right]
end
theorem DP {s aA : ar} {us : List Nat} (h : ej (us.flatMap fun u => u :: (s u).ah) aA s) : iZ aA us = iZ s us := by
 unfold iZ
 refine List.map_congr_left fun u hu => ?_
 rw [h u (List.mem_flatMap.2 ⟨u, hu, by simp⟩)]
theorem DQ {s aA : ar} : ∀ (L : List (Nat × I)), (∀ p ∈ L, ej p.2.ah aA s) → kS aA L = kS s L
 | [], _ => rfl
 | p :: L, h => by
   simp only [kS]; rw [HY p.2 (h p (by simp)), DQ L (fun q dd => h q (by simp [dd]))]
theorem H0 : ∀ (L : List (Nat × I)) (s : ar), lW s L = dw (L.map fun p => ⟨.no, p.1, p.2⟩) s
 | [], s => rfl
 | p :: L, s => by
   simp only [lW, List.map_cons]
   rw [H0 L, C6]
   exact (k8 [⟨.no, p.1, p.2⟩] _ s).symm
theorem Qe {s : ar} {bN : ga} {K : List Nat → I → ar → Prop} (h : m9 C s bN K) :
  ∃ cS av ms, K cS av (dw ms s) ∧ (∀ m ∈ ms, m.x ∈ cS ∧ ∀ v ∈ m.d.ah, ∃ u ∈ use s bN, v ∈ (s u).ah) ∧ ∀ aA, ej (use s bN) aA s → ∀ du : I → ar → Prop, du av (dw ms aA) → m7 C aA bN du := by
 have plain : (∃ av s1, bX C s bN = some (av, s1) ∧ K (dA s bN) av s1) → (∀ aA (du : I → ar → Prop) av s1, bX C aA bN = some (av, s1) → du av s1 → m7 C aA bN du) →
   ∃ cS av ms, K cS av (dw ms s) ∧ (∀ m ∈ ms, m.x ∈ cS ∧ ∀ v ∈ m.d.ah, ∃ u ∈ use s bN, v ∈ (s u).ah) ∧ ∀ aA, ej (use s bN) aA s → ∀ du : I → ar → Prop, du av (dw ms aA) → m7 C aA bN du := by
  rintro ⟨av, s1, ai, aj⟩ hw
  obtain ⟨ms, a4, a_, a2⟩ := Hg ai
  subst a4
  exact ⟨_, av, ms, aj, fun m hm => ⟨(a_ m hm).1, fun v a3 => by rw [(a_ m hm).2] at a3; cases a3⟩, fun aA ah du aE => hw aA du av _ (a2 aA ah) aE⟩
 cases bN with
 | call f args =>
   obtain ⟨cS, av, ms, ab, bk, dz⟩ := DO h
   exact ⟨cS, av, ms, ab, fun m hm => ⟨(bk m hm).1, fun v a3 => by rw [(bk m hm).2] at a3; cases a3⟩, fun aA ah du aE => dz aA ah du aE⟩
 | lT f args u x =>
   obtain ⟨b5, cu, ay⟩ := h
   obtain ⟨cS, av, ms, ⟨ab, DR, Qf⟩, bk, dz⟩ := DO ay
   have e : ∀ s : ar, dt (dw ms s) u (.h x []) = dw (ms ++ [⟨.no, u, .h x []⟩]) s := fun s => by rw [k8, ← C6]
   refine ⟨u :: cS, av, ms ++ [⟨.no, u, .h x []⟩], by rw [← e]; exact Qf, ?_, ?_⟩
   ·intro m hm
    rcases List.mem_append.1 hm with hm | hm
    ·exact ⟨by simp [(bk m hm).1], fun v a3 => by rw [(bk m hm).2] at a3; cases a3⟩
    ·simp only [List.mem_singleton] at hm; subst hm
     refine ⟨by simp, fun v a3 => ⟨u, by simp [use], ?_⟩⟩
     rw [b5]; exact a3
   ·intro aA ah du aE
    have H2 : aA u = s u := ah u (by simp [use])
    have ex : aA x = s x := ah x (by simp [use])
    refine ⟨by rw [H2]; exact b5, by rw [ex]; exact cu, dz aA (fun y bL => ah y (by simp only [use, List.mem_cons] at bL ⊢; exact .inr (.inr bL))) _ ⟨?_, ?_, ?_⟩⟩
    ·have := ab; simp only [dw] at this ⊢; rw [H2]; exact this
    ·have := DR; simp only [dw] at this ⊢; rw [ex]; exact this
    ·rw [e]; exact aE
 | jX f args us =>
   obtain ⟨cu, ay⟩ := h
   obtain ⟨cS, av, ms, ⟨ab, DR⟩, bk, dz⟩ := DO ay
   have e : ∀ aA : ar, lW (dw ms aA) (iZ s us) = dw (ms ++ (iZ s us).map fun p => ⟨.no, p.1, p.2⟩) aA := fun aA => by rw [k8, H0]
   have kL : ∀ {aA : ar}, ej (us.flatMap fun u => u :: (s u).ah) aA s → ∀ p ∈ iZ s us, ej p.2.ah aA s := fun {aA} ah p ax v a3 => by
    obtain ⟨u, hu, rfl⟩ := List.mem_map.1 ax
    exact ah v (List.mem_flatMap.2 ⟨u, hu, by simp [a3]⟩)
   refine ⟨us ++ cS, av, ms ++ (iZ s us).map fun p => ⟨.no, p.1, p.2⟩, by rw [← e]; exact DR, ?_, ?_⟩
   ·intro m hm
    rcases List.mem_append.1 hm with hm | hm
    ·exact ⟨by simp [(bk m hm).1], fun v a3 => by rw [(bk m hm).2] at a3; cases a3⟩
    ·obtain ⟨p, ax, rfl⟩ := List.mem_map.1 hm
     obtain ⟨u, hu, rfl⟩ := List.mem_map.1 ax
     exact ⟨List.mem_append_left _ hu, fun v a3 => ⟨u, by simp only [use, List.mem_append, List.mem_flatMap]; exact .inl ⟨u, hu, by simp⟩, a3⟩⟩
   ·intro aA ah du aE
    simp only [use] at ah
    refine ⟨by rw [DP ah.left, DQ _ (kL ah.left)]; exact cu, dz aA ah.right _ ⟨?_, ?_⟩⟩
    ·rw [DP ah.left, DQ _ (fun p ax => (kL ah.left p ax).dw ms)]; exact ab
    ·rw [DP ah.left, e]; exact aE
 | shr bN =>
   obtain ⟨av, s1, ai, aj, aQ, bd⟩ := h
   obtain ⟨ms, a4, a_, a2⟩ := Hg ai
   subst a4
   exact ⟨_, av.share, ms, bd, fun m hm => ⟨(a_ m hm).1, fun v a3 => by rw [(a_ m hm).2] at a3; cases a3⟩, fun aA ah du aE => ⟨av, _, a2 aA ah, aj, aQ, aE⟩⟩
 | _ => exact plain h (fun aA du av s1 ai aj => ⟨av, s1, ai, aj⟩)
theorem Qg {s : ar} {o : cK} {K : fF → ar → Prop} (h : my C s o K) : ∃ kc ms, K kc (dw ms s) ∧ y8 C o s kc ms := by
 have op : ∀ (bO : List Nat), (∀ u ∈ use s o.bN, u ∈ bO) → (∀ aA, ej bO aA s → ∀ du : ar → Prop, m7 C aA o.bN (fun av s1 => du (fin s1 o.dst av)) → k9 C aA o du) →
   m9 C s o.bN (fun cS av s1 => K (iN s bO o.dst cS av) (fin s1 o.dst av)) → ∃ kc ms, K kc (dw ms s) ∧ y8 C o s kc ms := by
  intro bO oD ox hw
  obtain ⟨cS, av, ms, ai, aj, aQ⟩ := Qe hw
  obtain ⟨kA, na, bR⟩ := HX o.dst av
  refine ⟨iN s bO o.dst cS av, ms ++ kA, ?_, ?_, ?_, y9.1, y9.2⟩
  ·rw [k8, ← bR]; exact ai
  ·intro aA ah du aE
   refine ox aA ah du (aQ aA (ah.sub oD) _ ?_)
   rw [bR, ← k8]; exact aE
  ·intro m hm
   simp only [iN, List.mem_append]
   rcases List.mem_append.1 hm with hm | hm
   ·refine ⟨.inr (aj m hm).1, fun v a3 => .inl ?_⟩
    obtain ⟨u, hu, lp⟩ := (aj m hm).2 v a3
    exact List.mem_flatMap.2 ⟨u, oD u hu, lp⟩
   ·exact ⟨.inl (na m hm).1, fun u hu => .inr (by rw [(na m hm).2] at hu; exact hu)⟩
 have skip : ∀ t, (∀ aA, ej [t] aA s → ∀ du : ar → Prop, du (fin aA o.dst (.tuple [])) → k9 C aA o du) → K (iN s [t] o.dst [] (.tuple [])) (fin s o.dst (.tuple [])) → ∃ kc ms, K kc (dw ms s) ∧ y8 C o s kc ms := by
  intro t ox aE
  obtain ⟨kA, na, bR⟩ := HX o.dst (.tuple [])
  refine ⟨_, kA, by rw [← bR]; exact aE, ?_, ?_, y9.1, y9.2⟩
  ·intro aA ah du kx
   exact ox aA ah du (by rw [bR]; exact kx)
  ·intro m hm
   simp only [iN, List.mem_append]
   exact ⟨.inl (na m hm).1, fun u hu => by rw [(na m hm).2] at hu; simp [I.ah] at hu⟩
 unfold my at h
 split at h
 ·rename_i b8
  exact op _ (fun _ h => h) (fun aA _ du hw => by unfold k9; rw [b8]; exact hw) h
 ·rename_i t b b8
  split at h
  ·rename_i fY ae
   split at h
   ·rename_i e
    refine op (t :: use s o.bN) (fun u hu => by simp [hu]) (fun aA ah du hw => ?_) h
    have : aA t = s t := ah t (by simp)
    unfold k9
    rw [b8]
    simp only [this, ae, if_pos e]
    exact hw
   ·rename_i e
    refine skip t (fun aA ah du aE => ?_) h
    have : aA t = s t := ah t (by simp)
    unfold k9
    rw [b8]
    simp only [this, ae, if_neg e]
    exact aE
  ·rename_i ae
   refine skip t (fun aA ah du aE => ?_) h
   have : aA t = s t := ah t (by simp)
   unfold k9
   rw [b8]
   simp only [this, ae]
   exact aE
  ·exact h.elim
def qc (C : ck) (ros : List cK) : ar → List (Nat × fF × List gQ) → Prop
 | _, [] => True
 | s, e :: r => (∃ o, ros[e.1]? = some o ∧ y8 C o s e.2.1 e.2.2) ∧ qc C ros (dw e.2.2 s) r
def nT (s : ar) (r : List (Nat × fF × List gQ)) : ar := r.foldl (fun s e => dw e.2.2 s) s
def mY (a b : List Nat) : Bool := a.all fun x => !b.contains x
theorem tv {a b : List Nat} (h : mY a b = true) : ∀ x ∈ a, x ∉ b := by
 intro x aC
 simp only [mY, List.all_eq_true] at h
 simpa using h x aC
def rz (a b : fF) : Bool := mY b.T a.bO && mY b.T a.H && mY b.T a.T && mY a.T b.bO && mY a.T b.H && b.c
theorem Qh {ros : List cK} {s : ar} {a b : Nat × fF × List gQ} {r : List (Nat × fF × List gQ)} (h : qc C ros s (a :: b :: r)) (au : rz a.2.1 b.2.1 = true) :
  qc C ros s (b :: a :: r) ∧ nT s (b :: a :: r) = nT s (a :: b :: r) := by
 obtain ⟨⟨Qi, cw, ab, bk, dz, q3⟩, ⟨Qj, ae, ly, iW, lz, ba⟩, a7⟩ := h
 simp only [rz, Bool.and_eq_true] at au
 obtain ⟨⟨⟨⟨⟨yg, u6⟩, Cb⟩, Qk⟩, Cc⟩, Cd⟩ := au
 have DS : ∀ u ∈ b.2.1.bO, dw a.2.2 s u = s u := by
  intro u hu
  refine P1 _ _ _ (fun m hm e => ?_) (ba Cd u hu)
  exact tv Qk m.x (bk m hm).1 (e ▸ hu)
 have DT : ∀ u ∈ a.2.1.bO, dw b.2.2 s u = s u := by
  intro u hu
  refine P2 _ _ _ fun m hm => ⟨fun e => ?_, fun aC => ?_⟩
  ·exact tv yg m.x (iW m hm).1 (e ▸ hu)
  ·exact tv u6 m.x (iW m hm).1 (dz u hu _ aC)
 have H3 : dw b.2.2 (dw a.2.2 s) = dw a.2.2 (dw b.2.2 s) := by
  refine P4 _ _ _ fun m hm n bg => ⟨fun e => ?_, fun h => ?_, fun h => ?_⟩
  ·exact tv Cb n.x (iW n bg).1 (e ▸ (bk m hm).1)
  ·exact tv u6 n.x (iW n bg).1 ((bk m hm).2 _ h)
  ·exact tv Cc m.x (bk m hm).1 ((iW n bg).2 _ h)
 refine ⟨⟨⟨Qj, ae, ?_, iW, ?_, ?_⟩, ⟨Qi, cw, ?_, bk, ?_, ?_⟩, ?_⟩, ?_⟩
 ·intro aA ah K aE
  exact ly aA (fun u hu => (ah u hu).trans (DS u hu).symm) K aE
 ·intro u hu x aC
  exact lz u hu x (by rw [DS u hu]; exact aC)
 ·intro ay u hu
  have := ba ay u hu
  rwa [DS u hu] at this
 ·intro aA ah K aE
  exact ab aA (fun u hu => (ah u hu).trans (DT u hu)) K aE
 ·intro u hu x aC
  rw [DT u hu] at aC
  exact dz u hu x aC
 ·intro ay u hu
  rw [DT u hu]
  exact q3 ay u hu
 ·rw [← H3]; exact a7
 ·simp only [nT, List.foldl_cons]
  rw [H3]
theorem Ql {ros : List cK} {e : Nat × fF × List gQ} {post : List (Nat × fF × List gQ)} : ∀ (pre : List (Nat × fF × List gQ)) (s : ar), qc C ros s (pre ++ e :: post) → (∀ a ∈ pre, rz a.2.1 e.2.1 = true) →
  qc C ros s (e :: (pre ++ post)) ∧ nT s (e :: (pre ++ post)) = nT s (pre ++ e :: post) := by
 intro pre
 induction pre with
 | nil => intro s h _; exact ⟨h, rfl⟩
 | cons a pre ih =>
   intro s h au
   obtain ⟨ai, aj⟩ := h
   obtain ⟨bf, bG⟩ := ih _ aj fun b ae => au b (by simp [ae])
   have ay : qc C ros s (a :: e :: (pre ++ post)) := ⟨ai, bf⟩
   obtain ⟨b5, cu⟩ := Qh ay (au a (by simp))
   refine ⟨b5, cu.trans ?_⟩
   simp only [nT, List.foldl_cons, List.cons_append] at bG ⊢
   exact bG
end
def vW : List (List Nat) → List (List Nat) → List (List Nat)
 | done, [] => done
 | done, a :: r => vW (done ++ [a ++ a.flatMap fun e => (done[e]?).getD []]) r
def rA (gB : List (List Nat)) : List (List Nat) := vW [] gB
theorem Qm {gB : List (List Nat)} {l : List Nat} (hl : ∀ u i v, l = u ++ i :: v → ∀ e ∈ (gB[i]?).getD [], e ∈ u) : ∀ (rest pre done : List (List Nat)), gB = pre ++ rest → done.length = pre.length →
  (∀ u i v, l = u ++ i :: v → ∀ e ∈ (done[i]?).getD [], e ∈ u) → ∀ u i v, l = u ++ i :: v → ∀ e ∈ ((vW done rest)[i]?).getD [], e ∈ u := by
 intro rest
 induction rest with
 | nil => intro pre done _ _ h; exact h
 | cons a rest ih =>
   intro pre done H4 hlen h
   simp only [vW]
   refine ih (pre ++ [a]) _ (by simp [H4]) (by simp [hlen]) ?_
   intro u i v hu e he
   by_cases au : i < done.length
   ·rw [List.getElem?_append_left au] at he
    exact h u i v hu e he
   ·rw [List.getElem?_append_right (by omega)] at he
    by_cases G1 : i - done.length = 0
    ·rw [G1] at he
     simp only [List.getElem?_cons_zero, Option.getD_some, List.mem_append, List.mem_flatMap] at he
     have y_ : (gB[i]?).getD [] = a := by
      have : i = pre.length := by omega
      rw [H4, this, List.getElem?_append_right (Nat.le_refl _)]; simp
     rcases he with he | ⟨gE, mw, he⟩
     ·exact hl u i v hu e (by rw [y_]; exact he)
     ·have vB := hl u i v hu gE (by rw [y_]; exact mw)
      obtain ⟨yK, yL, rfl⟩ := List.append_of_mem vB
      have := h yK gE (yL ++ i :: v) (by rw [hu]; simp) e he
      simp [this]
    ·rw [List.getElem?_eq_none (by simp; omega)] at he
     simp at he
theorem Qn {gB : List (List Nat)} {l : List Nat} (hl : ∀ u i v, l = u ++ i :: v → ∀ e ∈ (gB[i]?).getD [], e ∈ u) : ∀ u i v, l = u ++ i :: v → ∀ e ∈ ((rA gB)[i]?).getD [], e ∈ u :=
 Qm hl gB [] [] rfl rfl fun u i v _ e he => by simp at he
def lE (l0 : List (List Nat)) : Nat → List (Nat × fF) → List fF → Bool
 | _, _, [] => true
 | j, es, f :: az => (es.all fun e => ((l0[j]?).getD []).contains e.1 || rz e.2 f) && lE l0 (j + 1) ((j, f) :: es) az
def DU (l0 : List (List Nat)) (a b : Nat × fF × List gQ) : Prop := a.1 ∈ (l0[b.1]?).getD [] ∨ rz a.2.1 b.2.1 = true
theorem Qo {l0 : List (List Nat)} : ∀ (hh : List (Nat × fF × List gQ)) (j : Nat) (es : List (Nat × fF)), hh.map (·.1) = (List.range hh.length).map (· + j) → lE l0 j es (hh.map (·.2.1)) = true →
  hh.Pairwise (DU l0) ∧ ∀ e ∈ es, ∀ b ∈ hh, e.1 ∈ (l0[b.1]?).getD [] ∨ rz e.2 b.2.1 = true := by
 intro hh
 induction hh with
 | nil => intro j es _ _; exact ⟨.nil, fun e _ b ae => by cases ae⟩
 | cons a hh ih =>
   intro j es rB fL
   rw [List.length_cons, List.range_succ_eq_map, List.map_cons, List.map_cons, List.map_map] at rB
   simp only [List.cons.injEq, Nat.zero_add] at rB
   obtain ⟨cJ, rB⟩ := rB
   simp only [List.map_cons, lE, Bool.and_eq_true, List.all_eq_true, Bool.or_eq_true] at fL
   obtain ⟨ai, aj⟩ := fL
   obtain ⟨bf, bG⟩ := ih (j + 1) _ (by rw [rB]; congr 1; funext x; simp; omega) aj
   refine ⟨.cons (fun b ae => ?_) bf, fun e he b ae => ?_⟩
   ·have := bG (j, a.2.1) (by simp) b ae
    simp only [DU, cJ]; exact this
   ·rcases List.mem_cons.1 ae with rfl | ae
    ·rw [cJ]
     exact (ai e he).imp (fun h => by simpa using h) id
    ·exact bG e (by simp [he]) b ae
section
variable {C : ck}
theorem Qp {K : Option (List fF) → ar → Prop} : ∀ (os pre : List cK) (s : ar) (acc : List fF), cv C s os (some acc) K →
  ∃ hh, qc C (pre ++ os) s hh ∧ hh.map (·.1) = (List.range os.length).map (· + pre.length) ∧ K (some ((hh.map (·.2.1)).reverse ++ acc)) (nT s hh) := by
 intro os
 induction os with
 | nil => intro pre s acc h; exact ⟨[], trivial, rfl, h⟩
 | cons o os ih =>
   intro pre s acc h
   obtain ⟨kc, ms, ai, aj⟩ := Qg h
   obtain ⟨hh, bf, bG, cC⟩ := ih (pre ++ [o]) _ (kc :: acc) ai
   refine ⟨(pre.length, kc, ms) :: hh, ⟨⟨o, ?_, aj⟩, ?_⟩, ?_, ?_⟩
   ·rw [List.getElem?_append_right (Nat.le_refl _)]; simp
   ·simpa using bf
   ·rw [List.length_cons, List.range_succ_eq_map, List.map_cons, List.map_cons, List.map_map, bG]
    simp only [List.cons.injEq, Nat.zero_add, true_and]
    congr 1; funext x; simp; omega
   ·simpa [nT] using cC
theorem Qq {ros : List cK} {l0 : List (List Nat)} {K : ar → Prop} : ∀ (l : List Nat) (hh : List (Nat × fF × List gQ)) (s : ar), qc C ros s hh → hh.Pairwise (DU l0) → l.Nodup → (hh.map (·.1)).Nodup →
  (∀ i, i ∈ l ↔ i ∈ hh.map (·.1)) → (∀ u i v, l = u ++ i :: v → ∀ e ∈ (l0[i]?).getD [], e ∈ hh.map (·.1) → e ∈ u) → K (nT s hh) → jy C ros s l K := by
 intro l
 induction l with
 | nil =>
   intro hh s _ _ _ _ hm _ aE
   cases hh with
   | nil => exact aE
   | cons e hh => have := (hm e.1).2 (by simp); cases this
 | cons i l ih =>
   intro hh s ay ax bg vt hm cm aE
   obtain ⟨e, he, au⟩ := List.mem_map.1 ((hm i).1 (by simp))
   obtain ⟨pre, post, rfl⟩ := List.append_of_mem he
   have Qr : ∀ a ∈ pre, rz a.2.1 e.2.1 = true := by
    intro a cw
    have a7 := (List.pairwise_append.1 ax).2.2 a cw e (by simp)
    rcases a7 with a7 | a7
    ·rw [au] at a7
     have := cm [] i l rfl a.1 a7 (by simp only [List.map_append, List.mem_append, List.mem_map]; exact .inl ⟨a, cw, rfl⟩)
     cases this
    ·exact a7
   obtain ⟨bf, bG⟩ := Ql pre s ay Qr
   obtain ⟨⟨o, Qs, za⟩, cC⟩ := bf
   have H5 : i ∉ (pre ++ post).map (·.1) := by
    have : (pre.map (·.1) ++ e.1 :: post.map (·.1)).Nodup := by simpa using vt
    have bD := (List.perm_middle.nodup_iff.1 this)
    rw [List.nodup_cons] at bD
    rw [← au]; simpa using bD.1
   simp only [jy]
   rw [← au, Qs]
   refine za.1 s (fun _ _ => rfl) _ ?_
   rw [List.nodup_cons] at bg
   refine ih (pre ++ post) _ cC ?_ bg.2 ?_ ?_ ?_ ?_
   ·exact ax.sublist ((List.Sublist.refl pre).append (List.sublist_cons_self e post))
   ·have : (pre.map (·.1) ++ e.1 :: post.map (·.1)).Nodup := by simpa using vt
    have bD := (List.perm_middle.nodup_iff.1 this)
    rw [List.nodup_cons] at bD
    simpa using bD.2
   ·intro j
    constructor
    ·intro cJ
     have ai := (hm j).1 (by simp [cJ])
     simp only [List.map_append, List.map_cons, List.mem_append, List.mem_cons] at ai ⊢
     rcases ai with ai | rfl | ai
     ·exact .inl ai
     ·exact (bg.1 (au ▸ cJ)).elim
     ·exact .inr ai
    ·intro cJ
     have ai := (hm j).2 (by
      simp only [List.map_append, List.map_cons, List.mem_append, List.mem_cons] at cJ ⊢
      exact cJ.imp id .inr)
     rcases List.mem_cons.1 ai with rfl | ai
     ·exact (H5 cJ).elim
     ·exact ai
   ·intro u j v hu x aC DV
    have ai := cm (i :: u) j v (by rw [hu]; rfl) x aC (by
     simp only [List.map_append, List.map_cons, List.mem_append, List.mem_cons] at DV ⊢
     exact DV.imp id .inr)
    rcases List.mem_cons.1 ai with rfl | ai
    ·exact (H5 DV).elim
    ·exact ai
   ·have : nT s (e :: (pre ++ post)) = nT (dw e.2.2 s) (pre ++ post) := rfl
    rw [← this, bG]; exact aE
theorem H6 {ros : List cK} {gB : List (List Nat)} {s : ar} {K : ar → Prop} (hlen : gB.length = ros.length)
  (h : cv C s ros (some []) (fun acc s => lE (rA gB) 0 [] (acc.getD []).reverse = true ∧ K s)) : ∀ l, Dy gB l → jy C ros s l K := by
 intro l ⟨hP, l2, vD⟩
 obtain ⟨hh, bf, bG, cC, eH⟩ := Qp ros [] s [] h
 simp only [List.nil_append, List.append_nil, List.length_nil, Option.getD_some, List.reverse_reverse] at bf bG cC
 have hl : hh.length = ros.length := by have := congrArg List.length bG; simpa using this
 have rB : hh.map (·.1) = (List.range hh.length).map (· + 0) := by rw [bG, hl]
 have a7 : hh.map (·.1) = List.range ros.length := by rw [bG]; simp
 obtain ⟨gP, _⟩ := Qo hh 0 [] rB cC
 refine Qq l hh s bf gP hP (by rw [a7]; exact List.nodup_range) (fun i => ?_) (fun u i v hu e he _ => Qn vD u i v hu e he) eH
 rw [a7, l2, hlen, List.mem_range]
end
def dP (C : ck) (dst : Option Nat) (os : List cK) (K : Option (List fF) → ar → Prop) : Option (I × ar) → Prop
 | some (av, s1) => cv C (fin s1 dst av) os none K
 | none => False
def dS (C : ck) (l : List (Nat × I)) (bO cS : List Nat) (dst : Option Nat) (os : List cK) (a : List fF) (K : Option (List fF) → ar → Prop) : Option (I × ar) → Prop
 | some (av, s1) => cv C (fin s1 dst av) os (some (iN (aa l) bO dst cS av :: a)) K
 | none => False
def cD (C : ck) (l : List (Nat × I)) (dst : Option Nat) (bN : ga) (t : Nat) (b : Bool) (os : List cK) (acc : Option (List fF)) (K : Option (List fF) → ar → Prop) : I → Prop
 | .bool fY => if fY = b then m9 C (aa l) bN (fun cS av s1 => cv C (fin s1 dst av) os (oM acc (iN (aa l) (t :: use (aa l) bN) dst cS av)) K) else cv C (fin (aa l) dst (.tuple [])) os (oM acc (iN (aa l) [t] dst [] (.tuple []))) K
 | .tuple [] => cv C (fin (aa l) dst (.tuple [])) os (oM acc (iN (aa l) [t] dst [] (.tuple []))) K
 | _ => False
section
variable {C : ck} {l : List (Nat × I)} {os : List cK} {K : Option (List fF) → ar → Prop} {dst : Option Nat} {a : List fF} {acc : Option (List fF)}
theorem zb {s : ar} {bN : ga} {K : List Nat → I → ar → Prop} (bg : bN.ru = false) : m9 C s bN K = (match bX C s bN with
  | some (av, s1) => K (dA s bN) av s1
  | none => False) := by
 apply propext
 constructor
 ·intro h
  cases bN <;> first
   | (simp [ga.ru] at bg; done)
   | (obtain ⟨av, s1, ai, aj⟩ := h; rw [ai]; exact aj)
 ·intro h
  split at h
  ·rename_i av s1 he
   cases bN <;> first
    | (simp [ga.ru] at bg; done)
    | exact ⟨av, s1, he, h⟩
  ·exact h.elim
theorem H7 : cv C (aa l) [] acc K = K acc (aa l) := rfl
theorem ja {bN : ga} (bg : bN.ru = false) : cv C (aa l) (⟨dst, bN, none⟩ :: os) none K = dP C dst os K (bX C (aa l) bN) := by
 simp only [cv, my, oM]
 rw [zb bg]
 cases bX C (aa l) bN with
 | none => rfl
 | some p => rfl
theorem jn {bN : ga} (bg : bN.ru = false) : cv C (aa l) (⟨dst, bN, none⟩ :: os) (some a) K = dS C l (use (aa l) bN) (dA (aa l) bN) dst os a K (bX C (aa l) bN) := by
 simp only [cv, my, oM]
 rw [zb bg]
 cases bX C (aa l) bN with
 | none => rfl
 | some p => rfl
theorem H8 {bN : ga} {t : Nat} {b : Bool} : cv C (aa l) (⟨dst, bN, some (t, b)⟩ :: os) acc K = cD C l dst bN t b os acc K (aa l t) := by
 simp only [cv, my]
 generalize aa l t = v
 cases v <;> first | rfl | (rename_i vs; cases vs <;> rfl)
theorem fU {bN : ga} {t : Nat} {b : Bool} (bg : bN.ru = false) : cD C l dst bN t b os none K (.bool b) = dP C dst os K (bX C (aa l) bN) := by
 simp only [cD, if_true]
 rw [zb bg]
 cases bX C (aa l) bN with
 | none => rfl
 | some p => rfl
theorem fV {bN : ga} {t : Nat} {b : Bool} (bg : bN.ru = false) : cD C l dst bN t b os (some a) K (.bool b) = dS C l (t :: use (aa l) bN) (dA (aa l) bN) dst os a K (bX C (aa l) bN) := by
 simp only [cD, if_true]
 rw [zb bg]
 cases bX C (aa l) bN with
 | none => rfl
 | some p => rfl
theorem Qt {bN : ga} {t : Nat} : cD C l dst bN t true os none K (.bool false) = cv C (fin (aa l) dst (.tuple [])) os none K ∧ cD C l dst bN t false os none K (.bool true) = cv C (fin (aa l) dst (.tuple [])) os none K ∧
  (∀ b, cD C l dst bN t b os none K (.tuple []) = cv C (fin (aa l) dst (.tuple [])) os none K) := ⟨rfl, rfl, fun _ => rfl⟩
theorem Qu {bN : ga} {t : Nat} : cD C l dst bN t true os (some a) K (.bool false) = cv C (fin (aa l) dst (.tuple [])) os (some (iN (aa l) [t] dst [] (.tuple []) :: a)) K ∧
  cD C l dst bN t false os (some a) K (.bool true) = cv C (fin (aa l) dst (.tuple [])) os (some (iN (aa l) [t] dst [] (.tuple []) :: a)) K ∧
  (∀ b, cD C l dst bN t b os (some a) K (.tuple []) = cv C (fin (aa l) dst (.tuple [])) os (some (iN (aa l) [t] dst [] (.tuple []) :: a)) K) := ⟨rfl, rfl, fun _ => rfl⟩
theorem Qv (av : I) (s1 : ar) : dP C dst os K (some (av, s1)) = cv C (fin s1 dst av) os none K := rfl
theorem Qw (bO cS : List Nat) (av : I) (s1 : ar) : dS C l bO cS dst os a K (some (av, s1)) = cv C (fin s1 dst av) os (some (iN (aa l) bO dst cS av :: a)) K := rfl
def i0 (s : ar) : I → Option (I × ar)
 | .h y q => cS s (.h y q)
 | d => some (d, s)
def qd (s : ar) : I → I → I → Option (I × ar)
 | .bool fY, x, y => some (if fY then x else y, s)
 | _, _, _ => none
def c_ (s : ar) : Option I → Option (I × ar)
 | some d => some (d, s)
 | none => none
def dT : Option ar → Option (I × ar)
 | some s1 => some (.hole, s1)
 | none => none
def hX (s : ar) : List aI → List I
 | [] => []
 | x :: xs => aS s x :: hX s xs
def jY (s : ar) : List (Nat × aI) → List (Nat × I)
 | [] => []
 | (k, x) :: xs => (k, aS s x) :: jY s xs
def kV (s : ar) : Option aI → Option I
 | none => none
 | some x => some (aS s x)
theorem nb (s : ar) (x : Option I) : (x.map fun d => (d, s)) = c_ s x := by cases x <;> rfl
theorem Qx (x : Option ar) : (x.map fun s1 => (I.hole, s1)) = dT x := by cases x <;> rfl
theorem tw (s : ar) : ∀ xs : List aI, xs.map (aS s) = hX s xs
 | [] => rfl
 | x :: xs => by simp only [List.map_cons, hX, tw s xs]
theorem DW (s : ar) : ∀ xs : List (Nat × aI), (xs.map fun p => (p.1, aS s p.2)) = jY s xs
 | [] => rfl
 | (k, x) :: xs => by simp only [List.map_cons, jY, DW s xs]
theorem Qy (s : ar) (x : Option aI) : x.map (aS s) = kV s x := by cases x <;> rfl
theorem tx (x : aI) : bX C (aa l) (.ad x) = some (aS (aa l) x, aa l) := by
 rfl
theorem tz (x : aI) : bX C (aa l) (.af x) = i0 (aa l) (aS (aa l) x) := by
 simp only [bX]; cases aS (aa l) x <;> rfl
theorem tA (c x y : aI) : bX C (aa l) (.pick c x y) = qd (aa l) (aS (aa l) c) (aS (aa l) x) (aS (aa l) y) := by
 simp only [bX]; cases aS (aa l) c <;> first | rfl | (rename_i b; cases b <;> rfl)
theorem tB (T : TypeId) : bX C (aa l) (.eB T) = c_ (aa l) (eB C T) := by
 simp only [bX, nb]
theorem tC (T : TypeId) (x : aI) : bX C (aa l) (.c2 T x) = c2 (aa l) (aS (aa l) x) := by
 rfl
theorem tD (T : TypeId) (ps : List (Nat × aI)) : bX C (aa l) (.fC T ps) = fC C (aa l) T (jY (aa l) ps) := by
 simp only [bX, DW]
theorem tE (T : TypeId) (n : Nat) (ps : List (Nat × aI)) : bX C (aa l) (.eD T n ps) = eD C (aa l) T n (jY (aa l) ps) := by
 simp only [bX, DW]
theorem tF (T : TypeId) (x : aI) : bX C (aa l) (.aD T x) = c_ (aa l) (aD C (aa l) T (aS (aa l) x)) := by
 simp only [bX, nb]
theorem tG (T : TypeId) (x y : aI) : bX C (aa l) (.cx T x y) = dT (cx C (aa l) T (aS (aa l) x) (aS (aa l) y)) := by
 simp only [bX, Qx]
theorem tH (x : aI) : bX C (aa l) (.dN x) = c_ (aa l) (dN (aa l) (aS (aa l) x)) := by
 simp only [bX, nb]
theorem tI (op : BinOp) (T : TypeId) (x y : aI) : bX C (aa l) (.aq op T x y) = c_ (aa l) (aq C (aa l) op T (aS (aa l) x) (aS (aa l) y)) := by
 simp only [bX, nb]
theorem tJ (op : UnOp) (x : aI) : bX C (aa l) (.un op x) = c_ (aa l) (un op (aS (aa l) x)) := by
 simp only [bX, nb]
theorem tK (A B : TypeId) (x : aI) : bX C (aa l) (.fZ A B x) = c_ (aa l) (fZ C (aa l) A B (aS (aa l) x)) := by
 simp only [bX, nb]
theorem tL (f : FuncId) (cs : List aI) : bX C (aa l) (.h8 f cs) = some (.fn f (hX (aa l) cs), aa l) := by
 simp only [bX, tw]
theorem tM (T : TypeId) (x y : aI) : bX C (aa l) (.eV T x y) = c_ (aa l) (eV C T (aS (aa l) x) (aS (aa l) y)) := by
 simp only [bX, nb]
theorem tN (T : TypeId) (x : aI) (dg au : Option aI) : bX C (aa l) (.fB T x dg au) = fB C (aa l) T (aS (aa l) x) (kV (aa l) dg) (kV (aa l) au) := by
 simp only [bX, Qy]
theorem tO (T : TypeId) (x : aI) (k : Nat) : bX C (aa l) (.aP T x k) = c_ (aa l) (aP C (aa l) T (aS (aa l) x) k) := by
 simp only [bX, nb]
theorem tP (T : TypeId) (x y : aI) : bX C (aa l) (.bJ T x y) = c_ (aa l) (bJ C (aa l) T (aS (aa l) x) (aS (aa l) y)) := by
 simp only [bX, nb]
theorem tQ (T : TypeId) (x y : aI) : bX C (aa l) (.idx T x y) = c_ (aa l) (idx C T (aS (aa l) x) (aS (aa l) y)) := by
 simp only [bX, nb]
theorem tR (x : aI) (k : Nat) : bX C (aa l) (.ex x k) = c_ (aa l) (ex (aa l) (aS (aa l) x) k) := by
 simp only [bX, nb]
theorem tS (T : TypeId) (x : aI) : bX C (aa l) (.len T x) = c_ (aa l) (lu C (aa l) T (aS (aa l) x)) := by
 simp only [bX, nb]
theorem tT (T bO : TypeId) (x y : aI) : bX C (aa l) (.app T bO x y) = lx C (aa l) T bO (aS (aa l) x) (aS (aa l) y) := by
 rfl
theorem Qz :
  (∀ (x : aI) , cv C (aa l) (⟨dst, .ad x, none⟩ :: os) none K = dP C dst os K (some (aS (aa l) x, aa l))) ∧
  (∀ (x : aI) , cv C (aa l) (⟨dst, .af x, none⟩ :: os) none K = dP C dst os K (i0 (aa l) (aS (aa l) x))) ∧
  (∀ (c x y : aI) , cv C (aa l) (⟨dst, .pick c x y, none⟩ :: os) none K = dP C dst os K (qd (aa l) (aS (aa l) c) (aS (aa l) x) (aS (aa l) y))) ∧
  (∀ (T : TypeId) , cv C (aa l) (⟨dst, .eB T, none⟩ :: os) none K = dP C dst os K (c_ (aa l) (eB C T))) ∧
  (∀ (T : TypeId) (x : aI) , cv C (aa l) (⟨dst, .c2 T x, none⟩ :: os) none K = dP C dst os K (c2 (aa l) (aS (aa l) x))) ∧
  (∀ (T : TypeId) (ps : List (Nat × aI)) , cv C (aa l) (⟨dst, .fC T ps, none⟩ :: os) none K = dP C dst os K (fC C (aa l) T (jY (aa l) ps))) ∧
  (∀ (T : TypeId) (n : Nat) (ps : List (Nat × aI)) , cv C (aa l) (⟨dst, .eD T n ps, none⟩ :: os) none K = dP C dst os K (eD C (aa l) T n (jY (aa l) ps))) ∧
  (∀ (T : TypeId) (x : aI) , cv C (aa l) (⟨dst, .aD T x, none⟩ :: os) none K = dP C dst os K (c_ (aa l) (aD C (aa l) T (aS (aa l) x)))) ∧
  (∀ (T : TypeId) (x y : aI) , cv C (aa l) (⟨dst, .cx T x y, none⟩ :: os) none K = dP C dst os K (dT (cx C (aa l) T (aS (aa l) x) (aS (aa l) y)))) ∧
  (∀ (x : aI) , cv C (aa l) (⟨dst, .dN x, none⟩ :: os) none K = dP C dst os K (c_ (aa l) (dN (aa l) (aS (aa l) x)))) ∧
  (∀ (op : BinOp) (T : TypeId) (x y : aI) , cv C (aa l) (⟨dst, .aq op T x y, none⟩ :: os) none K = dP C dst os K (c_ (aa l) (aq C (aa l) op T (aS (aa l) x) (aS (aa l) y)))) ∧
  (∀ (op : UnOp) (x : aI) , cv C (aa l) (⟨dst, .un op x, none⟩ :: os) none K = dP C dst os K (c_ (aa l) (un op (aS (aa l) x)))) ∧
  (∀ (A B : TypeId) (x : aI) , cv C (aa l) (⟨dst, .fZ A B x, none⟩ :: os) none K = dP C dst os K (c_ (aa l) (fZ C (aa l) A B (aS (aa l) x)))) ∧
  (∀ (f : FuncId) (cs : List aI) , cv C (aa l) (⟨dst, .h8 f cs, none⟩ :: os) none K = dP C dst os K (some (.fn f (hX (aa l) cs), aa l))) ∧
  (∀ (T : TypeId) (x y : aI) , cv C (aa l) (⟨dst, .eV T x y, none⟩ :: os) none K = dP C dst os K (c_ (aa l) (eV C T (aS (aa l) x) (aS (aa l) y)))) ∧
  (∀ (T : TypeId) (x : aI) (dg au : Option aI) , cv C (aa l) (⟨dst, .fB T x dg au, none⟩ :: os) none K = dP C dst os K (fB C (aa l) T (aS (aa l) x) (kV (aa l) dg) (kV (aa l) au))) ∧
  (∀ (T : TypeId) (x : aI) (k : Nat) , cv C (aa l) (⟨dst, .aP T x k, none⟩ :: os) none K = dP C dst os K (c_ (aa l) (aP C (aa l) T (aS (aa l) x) k))) ∧
  (∀ (T : TypeId) (x y : aI) , cv C (aa l) (⟨dst, .bJ T x y, none⟩ :: os) none K = dP C dst os K (c_ (aa l) (bJ C (aa l) T (aS (aa l) x) (aS (aa l) y)))) ∧
  (∀ (T : TypeId) (x y : aI) , cv C (aa l) (⟨dst, .idx T x y, none⟩ :: os) none K = dP C dst os K (c_ (aa l) (idx C T (aS (aa l) x) (aS (aa l) y)))) ∧
  (∀ (x : aI) (k : Nat) , cv C (aa l) (⟨dst, .ex x k, none⟩ :: os) none K = dP C dst os K (c_ (aa l) (ex (aa l) (aS (aa l) x) k))) ∧
  (∀ (T : TypeId) (x : aI) , cv C (aa l) (⟨dst, .len T x, none⟩ :: os) none K = dP C dst os K (c_ (aa l) (lu C (aa l) T (aS (aa l) x)))) ∧
  (∀ (T bO : TypeId) (x y : aI) , cv C (aa l) (⟨dst, .app T bO x y, none⟩ :: os) none K = dP C dst os K (lx C (aa l) T bO (aS (aa l) x) (aS (aa l) y))) :=
 ⟨fun x => (ja rfl).trans (congrArg _ (tx x)), fun x => (ja rfl).trans (congrArg _ (tz x)), fun c x y => (ja rfl).trans (congrArg _ (tA c x y)), fun T => (ja rfl).trans (congrArg _ (tB T)), fun T x => (ja rfl).trans (congrArg _ (tC T x)), fun T ps => (ja rfl).trans (congrArg _ (tD T ps)), fun T n ps => (ja rfl).trans (congrArg _ (tE T n ps)), fun T x => (ja rfl).trans (congrArg _ (tF T x)), fun T x y => (ja rfl).trans (congrArg _ (tG T x y)), fun x => (ja rfl).trans (congrArg _ (tH x)), fun op T x y => (ja rfl).trans (congrArg _ (tI op T x y)), fun op x => (ja rfl).trans (congrArg _ (tJ op x)), fun A B x => (ja rfl).trans (congrArg _ (tK A B x)), fun f cs => (ja rfl).trans (congrArg _ (tL f cs)), fun T x y => (ja rfl).trans (congrArg _ (tM T x y)), fun T x dg au => (ja rfl).trans (congrArg _ (tN T x dg au)), fun T x k => (ja rfl).trans (congrArg _ (tO T x k)), fun T x y => (ja rfl).trans (congrArg _ (tP T x y)), fun T x y => (ja rfl).trans (congrArg _ (tQ T x y)), fun x k => (ja rfl).trans (congrArg _ (tR x k)), fun T x => (ja rfl).trans (congrArg _ (tS T x)), fun T bO x y => (ja rfl).trans (congrArg _ (tT T bO x y))⟩
theorem QA :
  (∀ (x : aI) , cv C (aa l) (⟨dst, .ad x, none⟩ :: os) (some a) K = dS C l (use (aa l) (.ad x)) (dA (aa l) (.ad x)) dst os a K (some (aS (aa l) x, aa l))) ∧
  (∀ (x : aI) , cv C (aa l) (⟨dst, .af x, none⟩ :: os) (some a) K = dS C l (use (aa l) (.af x)) (dA (aa l) (.af x)) dst os a K (i0 (aa l) (aS (aa l) x))) ∧
  (∀ (c x y : aI) , cv C (aa l) (⟨dst, .pick c x y, none⟩ :: os) (some a) K = dS C l (use (aa l) (.pick c x y)) (dA (aa l) (.pick c x y)) dst os a K (qd (aa l) (aS (aa l) c) (aS (aa l) x) (aS (aa l) y))) ∧
  (∀ (T : TypeId) , cv C (aa l) (⟨dst, .eB T, none⟩ :: os) (some a) K = dS C l (use (aa l) (.eB T)) (dA (aa l) (.eB T)) dst os a K (c_ (aa l) (eB C T))) ∧
  (∀ (T : TypeId) (x : aI) , cv C (aa l) (⟨dst, .c2 T x, none⟩ :: os) (some a) K = dS C l (use (aa l) (.c2 T x)) (dA (aa l) (.c2 T x)) dst os a K (c2 (aa l) (aS (aa l) x))) ∧
  (∀ (T : TypeId) (ps : List (Nat × aI)) , cv C (aa l) (⟨dst, .fC T ps, none⟩ :: os) (some a) K = dS C l (use (aa l) (.fC T ps)) (dA (aa l) (.fC T ps)) dst os a K (fC C (aa l) T (jY (aa l) ps))) ∧
  (∀ (T : TypeId) (n : Nat) (ps : List (Nat × aI)) , cv C (aa l) (⟨dst, .eD T n ps, none⟩ :: os) (some a) K = dS C l (use (aa l) (.eD T n ps)) (dA (aa l) (.eD T n ps)) dst os a K (eD C (aa l) T n (jY (aa l) ps))) ∧
  (∀ (T : TypeId) (x : aI) , cv C (aa l) (⟨dst, .aD T x, none⟩ :: os) (some a) K = dS C l (use (aa l) (.aD T x)) (dA (aa l) (.aD T x)) dst os a K (c_ (aa l) (aD C (aa l) T (aS (aa l) x)))) ∧
  (∀ (T : TypeId) (x y : aI) , cv C (aa l) (⟨dst, .cx T x y, none⟩ :: os) (some a) K = dS C l (use (aa l) (.cx T x y)) (dA (aa l) (.cx T x y)) dst os a K (dT (cx C (aa l) T (aS (aa l) x) (aS (aa l) y)))) ∧
  (∀ (x : aI) , cv C (aa l) (⟨dst, .dN x, none⟩ :: os) (some a) K = dS C l (use (aa l) (.dN x)) (dA (aa l) (.dN x)) dst os a K (c_ (aa l) (dN (aa l) (aS (aa l) x)))) ∧
  (∀ (op : BinOp) (T : TypeId) (x y : aI) , cv C (aa l) (⟨dst, .aq op T x y, none⟩ :: os) (some a) K = dS C l (use (aa l) (.aq op T x y)) (dA (aa l) (.aq op T x y)) dst os a K (c_ (aa l) (aq C (aa l) op T (aS (aa l) x) (aS (aa l) y)))) ∧
  (∀ (op : UnOp) (x : aI) , cv C (aa l) (⟨dst, .un op x, none⟩ :: os) (some a) K = dS C l (use (aa l) (.un op x)) (dA (aa l) (.un op x)) dst os a K (c_ (aa l) (un op (aS (aa l) x)))) ∧
  (∀ (A B : TypeId) (x : aI) , cv C (aa l) (⟨dst, .fZ A B x, none⟩ :: os) (some a) K = dS C l (use (aa l) (.fZ A B x)) (dA (aa l) (.fZ A B x)) dst os a K (c_ (aa l) (fZ C (aa l) A B (aS (aa l) x)))) ∧
  (∀ (f : FuncId) (cs : List aI) , cv C (aa l) (⟨dst, .h8 f cs, none⟩ :: os) (some a) K = dS C l (use (aa l) (.h8 f cs)) (dA (aa l) (.h8 f cs)) dst os a K (some (.fn f (hX (aa l) cs), aa l))) ∧
  (∀ (T : TypeId) (x y : aI) , cv C (aa l) (⟨dst, .eV T x y, none⟩ :: os) (some a) K = dS C l (use (aa l) (.eV T x y)) (dA (aa l) (.eV T x y)) dst os a K (c_ (aa l) (eV C T (aS (aa l) x) (aS (aa l) y)))) ∧
  (∀ (T : TypeId) (x : aI) (dg au : Option aI) , cv C (aa l) (⟨dst, .fB T x dg au, none⟩ :: os) (some a) K = dS C l (use (aa l) (.fB T x dg au)) (dA (aa l) (.fB T x dg au)) dst os a K (fB C (aa l) T (aS (aa l) x) (kV (aa l) dg) (kV (aa l) au))) ∧
  (∀ (T : TypeId) (x : aI) (k : Nat) , cv C (aa l) (⟨dst, .aP T x k, none⟩ :: os) (some a) K = dS C l (use (aa l) (.aP T x k)) (dA (aa l) (.aP T x k)) dst os a K (c_ (aa l) (aP C (aa l) T (aS (aa l) x) k))) ∧
  (∀ (T : TypeId) (x y : aI) , cv C (aa l) (⟨dst, .bJ T x y, none⟩ :: os) (some a) K = dS C l (use (aa l) (.bJ T x y)) (dA (aa l) (.bJ T x y)) dst os a K (c_ (aa l) (bJ C (aa l) T (aS (aa l) x) (aS (aa l) y)))) ∧
  (∀ (T : TypeId) (x y : aI) , cv C (aa l) (⟨dst, .idx T x y, none⟩ :: os) (some a) K = dS C l (use (aa l) (.idx T x y)) (dA (aa l) (.idx T x y)) dst os a K (c_ (aa l) (idx C T (aS (aa l) x) (aS (aa l) y)))) ∧
  (∀ (x : aI) (k : Nat) , cv C (aa l) (⟨dst, .ex x k, none⟩ :: os) (some a) K = dS C l (use (aa l) (.ex x k)) (dA (aa l) (.ex x k)) dst os a K (c_ (aa l) (ex (aa l) (aS (aa l) x) k))) ∧
  (∀ (T : TypeId) (x : aI) , cv C (aa l) (⟨dst, .len T x, none⟩ :: os) (some a) K = dS C l (use (aa l) (.len T x)) (dA (aa l) (.len T x)) dst os a K (c_ (aa l) (lu C (aa l) T (aS (aa l) x)))) ∧
  (∀ (T bO : TypeId) (x y : aI) , cv C (aa l) (⟨dst, .app T bO x y, none⟩ :: os) (some a) K = dS C l (use (aa l) (.app T bO x y)) (dA (aa l) (.app T bO x y)) dst os a K (lx C (aa l) T bO (aS (aa l) x) (aS (aa l) y))) :=
 ⟨fun x => (jn rfl).trans (congrArg _ (tx x)), fun x => (jn rfl).trans (congrArg _ (tz x)), fun c x y => (jn rfl).trans (congrArg _ (tA c x y)), fun T => (jn rfl).trans (congrArg _ (tB T)), fun T x => (jn rfl).trans (congrArg _ (tC T x)), fun T ps => (jn rfl).trans (congrArg _ (tD T ps)), fun T n ps => (jn rfl).trans (congrArg _ (tE T n ps)), fun T x => (jn rfl).trans (congrArg _ (tF T x)), fun T x y => (jn rfl).trans (congrArg _ (tG T x y)), fun x => (jn rfl).trans (congrArg _ (tH x)), fun op T x y => (jn rfl).trans (congrArg _ (tI op T x y)), fun op x => (jn rfl).trans (congrArg _ (tJ op x)), fun A B x => (jn rfl).trans (congrArg _ (tK A B x)), fun f cs => (jn rfl).trans (congrArg _ (tL f cs)), fun T x y => (jn rfl).trans (congrArg _ (tM T x y)), fun T x dg au => (jn rfl).trans (congrArg _ (tN T x dg au)), fun T x k => (jn rfl).trans (congrArg _ (tO T x k)), fun T x y => (jn rfl).trans (congrArg _ (tP T x y)), fun T x y => (jn rfl).trans (congrArg _ (tQ T x y)), fun x k => (jn rfl).trans (congrArg _ (tR x k)), fun T x => (jn rfl).trans (congrArg _ (tS T x)), fun T bO x y => (jn rfl).trans (congrArg _ (tT T bO x y))⟩
theorem QB :
  (∀ (x : aI) (t : Nat), cD C l dst (.ad x) t true os none K (.bool true) = dP C dst os K (some (aS (aa l) x, aa l))) ∧
  (∀ (x : aI) (t : Nat), cD C l dst (.ad x) t false os none K (.bool false) = dP C dst os K (some (aS (aa l) x, aa l))) ∧
  (∀ (x : aI) (t : Nat), cD C l dst (.af x) t true os none K (.bool true) = dP C dst os K (i0 (aa l) (aS (aa l) x))) ∧
  (∀ (x : aI) (t : Nat), cD C l dst (.af x) t false os none K (.bool false) = dP C dst os K (i0 (aa l) (aS (aa l) x))) ∧
  (∀ (c x y : aI) (t : Nat), cD C l dst (.pick c x y) t true os none K (.bool true) = dP C dst os K (qd (aa l) (aS (aa l) c) (aS (aa l) x) (aS (aa l) y))) ∧
  (∀ (c x y : aI) (t : Nat), cD C l dst (.pick c x y) t false os none K (.bool false) = dP C dst os K (qd (aa l) (aS (aa l) c) (aS (aa l) x) (aS (aa l) y))) ∧
  (∀ (T : TypeId) (t : Nat), cD C l dst (.eB T) t true os none K (.bool true) = dP C dst os K (c_ (aa l) (eB C T))) ∧
  (∀ (T : TypeId) (t : Nat), cD C l dst (.eB T) t false os none K (.bool false) = dP C dst os K (c_ (aa l) (eB C T))) ∧
  (∀ (T : TypeId) (x : aI) (t : Nat), cD C l dst (.c2 T x) t true os none K (.bool true) = dP C dst os K (c2 (aa l) (aS (aa l) x))) ∧
  (∀ (T : TypeId) (x : aI) (t : Nat), cD C l dst (.c2 T x) t false os none K (.bool false) = dP C dst os K (c2 (aa l) (aS (aa l) x))) ∧
  (∀ (T : TypeId) (ps : List (Nat × aI)) (t : Nat), cD C l dst (.fC T ps) t true os none K (.bool true) = dP C dst os K (fC C (aa l) T (jY (aa l) ps))) ∧
  (∀ (T : TypeId) (ps : List (Nat × aI)) (t : Nat), cD C l dst (.fC T ps) t false os none K (.bool false) = dP C dst os K (fC C (aa l) T (jY (aa l) ps))) ∧
  (∀ (T : TypeId) (n : Nat) (ps : List (Nat × aI)) (t : Nat), cD C l dst (.eD T n ps) t true os none K (.bool true) = dP C dst os K (eD C (aa l) T n (jY (aa l) ps))) ∧
  (∀ (T : TypeId) (n : Nat) (ps : List (Nat × aI)) (t : Nat), cD C l dst (.eD T n ps) t false os none K (.bool false) = dP C dst os K (eD C (aa l) T n (jY (aa l) ps))) ∧
  (∀ (T : TypeId) (x : aI) (t : Nat), cD C l dst (.aD T x) t true os none K (.bool true) = dP C dst os K (c_ (aa l) (aD C (aa l) T (aS (aa l) x)))) ∧
  (∀ (T : TypeId) (x : aI) (t : Nat), cD C l dst (.aD T x) t false os none K (.bool false) = dP C dst os K (c_ (aa l) (aD C (aa l) T (aS (aa l) x)))) ∧
  (∀ (T : TypeId) (x y : aI) (t : Nat), cD C l dst (.cx T x y) t true os none K (.bool true) = dP C dst os K (dT (cx C (aa l) T (aS (aa l) x) (aS (aa l) y)))) ∧
  (∀ (T : TypeId) (x y : aI) (t : Nat), cD C l dst (.cx T x y) t false os none K (.bool false) = dP C dst os K (dT (cx C (aa l) T (aS (aa l) x) (aS (aa l) y)))) ∧
  (∀ (x : aI) (t : Nat), cD C l dst (.dN x) t true os none K (.bool true) = dP C dst os K (c_ (aa l) (dN (aa l) (aS (aa l) x)))) ∧
  (∀ (x : aI) (t : Nat), cD C l dst (.dN x) t false os none K (.bool false) = dP C dst os K (c_ (aa l) (dN (aa l) (aS (aa l) x)))) ∧
  (∀ (op : BinOp) (T : TypeId) (x y : aI) (t : Nat), cD C l dst (.aq op T x y) t true os none K (.bool true) = dP C dst os K (c_ (aa l) (aq C (aa l) op T (aS (aa l) x) (aS (aa l) y)))) ∧
  (∀ (op : BinOp) (T : TypeId) (x y : aI) (t : Nat), cD C l dst (.aq op T x y) t false os none K (.bool false) = dP C dst os K (c_ (aa l) (aq C (aa l) op T (aS (aa l) x) (aS (aa l) y)))) ∧
  (∀ (op : UnOp) (x : aI) (t : Nat), cD C l dst (.un op x) t true os none K (.bool true) = dP C dst os K (c_ (aa l) (un op (aS (aa l) x)))) ∧
  (∀ (op : UnOp) (x : aI) (t : Nat), cD C l dst (.un op x) t false os none K (.bool false) = dP C dst os K (c_ (aa l) (un op (aS (aa l) x)))) ∧
  (∀ (A B : TypeId) (x : aI) (t : Nat), cD C l dst (.fZ A B x) t true os none K (.bool true) = dP C dst os K (c_ (aa l) (fZ C (aa l) A B (aS (aa l) x)))) ∧
  (∀ (A B : TypeId) (x : aI) (t : Nat), cD C l dst (.fZ A B x) t false os none K (.bool false) = dP C dst os K (c_ (aa l) (fZ C (aa l) A B (aS (aa l) x)))) ∧
  (∀ (f : FuncId) (cs : List aI) (t : Nat), cD C l dst (.h8 f cs) t true os none K (.bool true) = dP C dst os K (some (.fn f (hX (aa l) cs), aa l))) ∧
  (∀ (f : FuncId) (cs : List aI) (t : Nat), cD C l dst (.h8 f cs) t false os none K (.bool false) = dP C dst os K (some (.fn f (hX (aa l) cs), aa l))) ∧
  (∀ (T : TypeId) (x y : aI) (t : Nat), cD C l dst (.eV T x y) t true os none K (.bool true) = dP C dst os K (c_ (aa l) (eV C T (aS (aa l) x) (aS (aa l) y)))) ∧
  (∀ (T : TypeId) (x y : aI) (t : Nat), cD C l dst (.eV T x y) t false os none K (.bool false) = dP C dst os K (c_ (aa l) (eV C T (aS (aa l) x) (aS (aa l) y)))) ∧
  (∀ (T : TypeId) (x : aI) (dg au : Option aI) (t : Nat), cD C l dst (.fB T x dg au) t true os none K (.bool true) = dP C dst os K (fB C (aa l) T (aS (aa l) x) (kV (aa l) dg) (kV (aa l) au))) ∧
  (∀ (T : TypeId) (x : aI) (dg au : Option aI) (t : Nat), cD C l dst (.fB T x dg au) t false os none K (.bool false) = dP C dst os K (fB C (aa l) T (aS (aa l) x) (kV (aa l) dg) (kV (aa l) au))) ∧
  (∀ (T : TypeId) (x : aI) (k : Nat) (t : Nat), cD C l dst (.aP T x k) t true os none K (.bool true) = dP C dst os K (c_ (aa l) (aP C (aa l) T (aS (aa l) x) k))) ∧
  (∀ (T : TypeId) (x : aI) (k : Nat) (t : Nat), cD C l dst (.aP T x k) t false os none K (.bool false) = dP C dst os K (c_ (aa l) (aP C (aa l) T (aS (aa l) x) k))) ∧
  (∀ (T : TypeId) (x y : aI) (t : Nat), cD C l dst (.bJ T x y) t true os none K (.bool true) = dP C dst os K (c_ (aa l) (bJ C (aa l) T (aS (aa l) x) (aS (aa l) y)))) ∧
  (∀ (T : TypeId) (x y : aI) (t : Nat), cD C l dst (.bJ T x y) t false os none K (.bool false) = dP C dst os K (c_ (aa l) (bJ C (aa l) T (aS (aa l) x) (aS (aa l) y)))) ∧
  (∀ (T : TypeId) (x y : aI) (t : Nat), cD C l dst (.idx T x y) t true os none K (.bool true) = dP C dst os K (c_ (aa l) (idx C T (aS (aa l) x) (aS (aa l) y)))) ∧
  (∀ (T : TypeId) (x y : aI) (t : Nat), cD C l dst (.idx T x y) t false os none K (.bool false) = dP C dst os K (c_ (aa l) (idx C T (aS (aa l) x) (aS (aa l) y)))) ∧
  (∀ (x : aI) (k : Nat) (t : Nat), cD C l dst (.ex x k) t true os none K (.bool true) = dP C dst os K (c_ (aa l) (ex (aa l) (aS (aa l) x) k))) ∧
  (∀ (x : aI) (k : Nat) (t : Nat), cD C l dst (.ex x k) t false os none K (.bool false) = dP C dst os K (c_ (aa l) (ex (aa l) (aS (aa l) x) k))) ∧
  (∀ (T : TypeId) (x : aI) (t : Nat), cD C l dst (.len T x) t true os none K (.bool true) = dP C dst os K (c_ (aa l) (lu C (aa l) T (aS (aa l) x)))) ∧
  (∀ (T : TypeId) (x : aI) (t : Nat), cD C l dst (.len T x) t false os none K (.bool false) = dP C dst os K (c_ (aa l) (lu C (aa l) T (aS (aa l) x)))) ∧
  (∀ (T bO : TypeId) (x y : aI) (t : Nat), cD C l dst (.app T bO x y) t true os none K (.bool true) = dP C dst os K (lx C (aa l) T bO (aS (aa l) x) (aS (aa l) y))) ∧
  (∀ (T bO : TypeId) (x y : aI) (t : Nat), cD C l dst (.app T bO x y) t false os none K (.bool false) = dP C dst os K (lx C (aa l) T bO (aS (aa l) x) (aS (aa l) y))) :=
 ⟨fun x _ => (fU rfl).trans (congrArg _ (tx x)), fun x _ => (fU rfl).trans (congrArg _ (tx x)), fun x _ => (fU rfl).trans (congrArg _ (tz x)), fun x _ => (fU rfl).trans (congrArg _ (tz x)), fun c x y _ => (fU rfl).trans (congrArg _ (tA c x y)), fun c x y _ => (fU rfl).trans (congrArg _ (tA c x y)), fun T _ => (fU rfl).trans (congrArg _ (tB T)), fun T _ => (fU rfl).trans (congrArg _ (tB T)), fun T x _ => (fU rfl).trans (congrArg _ (tC T x)), fun T x _ => (fU rfl).trans (congrArg _ (tC T x)), fun T ps _ => (fU rfl).trans (congrArg _ (tD T ps)), fun T ps _ => (fU rfl).trans (congrArg _ (tD T ps)), fun T n ps _ => (fU rfl).trans (congrArg _ (tE T n ps)), fun T n ps _ => (fU rfl).trans (congrArg _ (tE T n ps)), fun T x _ => (fU rfl).trans (congrArg _ (tF T x)), fun T x _ => (fU rfl).trans (congrArg _ (tF T x)), fun T x y _ => (fU rfl).trans (congrArg _ (tG T x y)), fun T x y _ => (fU rfl).trans (congrArg _ (tG T x y)), fun x _ => (fU rfl).trans (congrArg _ (tH x)), fun x _ => (fU rfl).trans (congrArg _ (tH x)), fun op T x y _ => (fU rfl).trans (congrArg _ (tI op T x y)), fun op T x y _ => (fU rfl).trans (congrArg _ (tI op T x y)), fun op x _ => (fU rfl).trans (congrArg _ (tJ op x)), fun op x _ => (fU rfl).trans (congrArg _ (tJ op x)), fun A B x _ => (fU rfl).trans (congrArg _ (tK A B x)), fun A B x _ => (fU rfl).trans (congrArg _ (tK A B x)), fun f cs _ => (fU rfl).trans (congrArg _ (tL f cs)), fun f cs _ => (fU rfl).trans (congrArg _ (tL f cs)), fun T x y _ => (fU rfl).trans (congrArg _ (tM T x y)), fun T x y _ => (fU rfl).trans (congrArg _ (tM T x y)), fun T x dg au _ => (fU rfl).trans (congrArg _ (tN T x dg au)), fun T x dg au _ => (fU rfl).trans (congrArg _ (tN T x dg au)), fun T x k _ => (fU rfl).trans (congrArg _ (tO T x k)), fun T x k _ => (fU rfl).trans (congrArg _ (tO T x k)), fun T x y _ => (fU rfl).trans (congrArg _ (tP T x y)), fun T x y _ => (fU rfl).trans (congrArg _ (tP T x y)), fun T x y _ => (fU rfl).trans (congrArg _ (tQ T x y)), fun T x y _ => (fU rfl).trans (congrArg _ (tQ T x y)), fun x k _ => (fU rfl).trans (congrArg _ (tR x k)), fun x k _ => (fU rfl).trans (congrArg _ (tR x k)), fun T x _ => (fU rfl).trans (congrArg _ (tS T x)), fun T x _ => (fU rfl).trans (congrArg _ (tS T x)), fun T bO x y _ => (fU rfl).trans (congrArg _ (tT T bO x y)), fun T bO x y _ => (fU rfl).trans (congrArg _ (tT T bO x y))⟩
theorem QC :
  (∀ (x : aI) (t : Nat), cD C l dst (.ad x) t true os (some a) K (.bool true) = dS C l (t :: use (aa l) (.ad x)) (dA (aa l) (.ad x)) dst os a K (some (aS (aa l) x, aa l))) ∧
  (∀ (x : aI) (t : Nat), cD C l dst (.ad x) t false os (some a) K (.bool false) = dS C l (t :: use (aa l) (.ad x)) (dA (aa l) (.ad x)) dst os a K (some (aS (aa l) x, aa l))) ∧
  (∀ (x : aI) (t : Nat), cD C l dst (.af x) t true os (some a) K (.bool true) = dS C l (t :: use (aa l) (.af x)) (dA (aa l) (.af x)) dst os a K (i0 (aa l) (aS (aa l) x))) ∧
  (∀ (x : aI) (t : Nat), cD C l dst (.af x) t false os (some a) K (.bool false) = dS C l (t :: use (aa l) (.af x)) (dA (aa l) (.af x)) dst os a K (i0 (aa l) (aS (aa l) x))) ∧
  (∀ (c x y : aI) (t : Nat), cD C l dst (.pick c x y) t true os (some a) K (.bool true) = dS C l (t :: use (aa l) (.pick c x y)) (dA (aa l) (.pick c x y)) dst os a K (qd (aa l) (aS (aa l) c) (aS (aa l) x) (aS (aa l) y))) ∧
  (∀ (c x y : aI) (t : Nat), cD C l dst (.pick c x y) t false os (some a) K (.bool false) = dS C l (t :: use (aa l) (.pick c x y)) (dA (aa l) (.pick c x y)) dst os a K (qd (aa l) (aS (aa l) c) (aS (aa l) x) (aS (aa l) y))) ∧
  (∀ (T : TypeId) (t : Nat), cD C l dst (.eB T) t true os (some a) K (.bool true) = dS C l (t :: use (aa l) (.eB T)) (dA (aa l) (.eB T)) dst os a K (c_ (aa l) (eB C T))) ∧
  (∀ (T : TypeId) (t : Nat), cD C l dst (.eB T) t false os (some a) K (.bool false) = dS C l (t :: use (aa l) (.eB T)) (dA (aa l) (.eB T)) dst os a K (c_ (aa l) (eB C T))) ∧
  (∀ (T : TypeId) (x : aI) (t : Nat), cD C l dst (.c2 T x) t true os (some a) K (.bool true) = dS C l (t :: use (aa l) (.c2 T x)) (dA (aa l) (.c2 T x)) dst os a K (c2 (aa l) (aS (aa l) x))) ∧
  (∀ (T : TypeId) (x : aI) (t : Nat), cD C l dst (.c2 T x) t false os (some a) K (.bool false) = dS C l (t :: use (aa l) (.c2 T x)) (dA (aa l) (.c2 T x)) dst os a K (c2 (aa l) (aS (aa l) x))) ∧
  (∀ (T : TypeId) (ps : List (Nat × aI)) (t : Nat), cD C l dst (.fC T ps) t true os (some a) K (.bool true) = dS C l (t :: use (aa l) (.fC T ps)) (dA (aa l) (.fC T ps)) dst os a K (fC C (aa l) T (jY (aa l) ps))) ∧
  (∀ (T : TypeId) (ps : List (Nat × aI)) (t : Nat), cD C l dst (.fC T ps) t false os (some a) K (.bool false) = dS C l (t :: use (aa l) (.fC T ps)) (dA (aa l) (.fC T ps)) dst os a K (fC C (aa l) T (jY (aa l) ps))) ∧
  (∀ (T : TypeId) (n : Nat) (ps : List (Nat × aI)) (t : Nat), cD C l dst (.eD T n ps) t true os (some a) K (.bool true) = dS C l (t :: use (aa l) (.eD T n ps)) (dA (aa l) (.eD T n ps)) dst os a K (eD C (aa l) T n (jY (aa l) ps))) ∧
  (∀ (T : TypeId) (n : Nat) (ps : List (Nat × aI)) (t : Nat), cD C l dst (.eD T n ps) t false os (some a) K (.bool false) = dS C l (t :: use (aa l) (.eD T n ps)) (dA (aa l) (.eD T n ps)) dst os a K (eD C (aa l) T n (jY (aa l) ps))) ∧
  (∀ (T : TypeId) (x : aI) (t : Nat), cD C l dst (.aD T x) t true os (some a) K (.bool true) = dS C l (t :: use (aa l) (.aD T x)) (dA (aa l) (.aD T x)) dst os a K (c_ (aa l) (aD C (aa l) T (aS (aa l) x)))) ∧
  (∀ (T : TypeId) (x : aI) (t : Nat), cD C l dst (.aD T x) t false os (some a) K (.bool false) = dS C l (t :: use (aa l) (.aD T x)) (dA (aa l) (.aD T x)) dst os a K (c_ (aa l) (aD C (aa l) T (aS (aa l) x)))) ∧
  (∀ (T : TypeId) (x y : aI) (t : Nat), cD C l dst (.cx T x y) t true os (some a) K (.bool true) = dS C l (t :: use (aa l) (.cx T x y)) (dA (aa l) (.cx T x y)) dst os a K (dT (cx C (aa l) T (aS (aa l) x) (aS (aa l) y)))) ∧
  (∀ (T : TypeId) (x y : aI) (t : Nat), cD C l dst (.cx T x y) t false os (some a) K (.bool false) = dS C l (t :: use (aa l) (.cx T x y)) (dA (aa l) (.cx T x y)) dst os a K (dT (cx C (aa l) T (aS (aa l) x) (aS (aa l) y)))) ∧
  (∀ (x : aI) (t : Nat), cD C l dst (.dN x) t true os (some a) K (.bool true) = dS C l (t :: use (aa l) (.dN x)) (dA (aa l) (.dN x)) dst os a K (c_ (aa l) (dN (aa l) (aS (aa l) x)))) ∧
  (∀ (x : aI) (t : Nat), cD C l dst (.dN x) t false os (some a) K (.bool false) = dS C l (t :: use (aa l) (.dN x)) (dA (aa l) (.dN x)) dst os a K (c_ (aa l) (dN (aa l) (aS (aa l) x)))) ∧
  (∀ (op : BinOp) (T : TypeId) (x y : aI) (t : Nat), cD C l dst (.aq op T x y) t true os (some a) K (.bool true) = dS C l (t :: use (aa l) (.aq op T x y)) (dA (aa l) (.aq op T x y)) dst os a K (c_ (aa l) (aq C (aa l) op T (aS (aa l) x) (aS (aa l) y)))) ∧
  (∀ (op : BinOp) (T : TypeId) (x y : aI) (t : Nat), cD C l dst (.aq op T x y) t false os (some a) K (.bool false) = dS C l (t :: use (aa l) (.aq op T x y)) (dA (aa l) (.aq op T x y)) dst os a K (c_ (aa l) (aq C (aa l) op T (aS (aa l) x) (aS (aa l) y)))) ∧
  (∀ (op : UnOp) (x : aI) (t : Nat), cD C l dst (.un op x) t true os (some a) K (.bool true) = dS C l (t :: use (aa l) (.un op x)) (dA (aa l) (.un op x)) dst os a K (c_ (aa l) (un op (aS (aa l) x)))) ∧
  (∀ (op : UnOp) (x : aI) (t : Nat), cD C l dst (.un op x) t false os (some a) K (.bool false) = dS C l (t :: use (aa l) (.un op x)) (dA (aa l) (.un op x)) dst os a K (c_ (aa l) (un op (aS (aa l) x)))) ∧
  (∀ (A B : TypeId) (x : aI) (t : Nat), cD C l dst (.fZ A B x) t true os (some a) K (.bool true) = dS C l (t :: use (aa l) (.fZ A B x)) (dA (aa l) (.fZ A B x)) dst os a K (c_ (aa l) (fZ C (aa l) A B (aS (aa l) x)))) ∧
  (∀ (A B : TypeId) (x : aI) (t : Nat), cD C l dst (.fZ A B x) t false os (some a) K (.bool false) = dS C l (t :: use (aa l) (.fZ A B x)) (dA (aa l) (.fZ A B x)) dst os a K (c_ (aa l) (fZ C (aa l) A B (aS (aa l) x)))) ∧
  (∀ (f : FuncId) (cs : List aI) (t : Nat), cD C l dst (.h8 f cs) t true os (some a) K (.bool true) = dS C l (t :: use (aa l) (.h8 f cs)) (dA (aa l) (.h8 f cs)) dst os a K (some (.fn f (hX (aa l) cs), aa l))) ∧
  (∀ (f : FuncId) (cs : List aI) (t : Nat), cD C l dst (.h8 f cs) t false os (some a) K (.bool false) = dS C l (t :: use (aa l) (.h8 f cs)) (dA (aa l) (.h8 f cs)) dst os a K (some (.fn f (hX (aa l) cs), aa l))) ∧
  (∀ (T : TypeId) (x y : aI) (t : Nat), cD C l dst (.eV T x y) t true os (some a) K (.bool true) = dS C l (t :: use (aa l) (.eV T x y)) (dA (aa l) (.eV T x y)) dst os a K (c_ (aa l) (eV C T (aS (aa l) x) (aS (aa l) y)))) ∧
  (∀ (T : TypeId) (x y : aI) (t : Nat), cD C l dst (.eV T x y) t false os (some a) K (.bool false) = dS C l (t :: use (aa l) (.eV T x y)) (dA (aa l) (.eV T x y)) dst os a K (c_ (aa l) (eV C T (aS (aa l) x) (aS (aa l) y)))) ∧
  (∀ (T : TypeId) (x : aI) (dg au : Option aI) (t : Nat), cD C l dst (.fB T x dg au) t true os (some a) K (.bool true) = dS C l (t :: use (aa l) (.fB T x dg au)) (dA (aa l) (.fB T x dg au)) dst os a K (fB C (aa l) T (aS (aa l) x) (kV (aa l) dg) (kV (aa l) au))) ∧
  (∀ (T : TypeId) (x : aI) (dg au : Option aI) (t : Nat), cD C l dst (.fB T x dg au) t false os (some a) K (.bool false) = dS C l (t :: use (aa l) (.fB T x dg au)) (dA (aa l) (.fB T x dg au)) dst os a K (fB C (aa l) T (aS (aa l) x) (kV (aa l) dg) (kV (aa l) au))) ∧
  (∀ (T : TypeId) (x : aI) (k : Nat) (t : Nat), cD C l dst (.aP T x k) t true os (some a) K (.bool true) = dS C l (t :: use (aa l) (.aP T x k)) (dA (aa l) (.aP T x k)) dst os a K (c_ (aa l) (aP C (aa l) T (aS (aa l) x) k))) ∧
  (∀ (T : TypeId) (x : aI) (k : Nat) (t : Nat), cD C l dst (.aP T x k) t false os (some a) K (.bool false) = dS C l (t :: use (aa l) (.aP T x k)) (dA (aa l) (.aP T x k)) dst os a K (c_ (aa l) (aP C (aa l) T (aS (aa l) x) k))) ∧
  (∀ (T : TypeId) (x y : aI) (t : Nat), cD C l dst (.bJ T x y) t true os (some a) K (.bool true) = dS C l (t :: use (aa l) (.bJ T x y)) (dA (aa l) (.bJ T x y)) dst os a K (c_ (aa l) (bJ C (aa l) T (aS (aa l) x) (aS (aa l) y)))) ∧
  (∀ (T : TypeId) (x y : aI) (t : Nat), cD C l dst (.bJ T x y) t false os (some a) K (.bool false) = dS C l (t :: use (aa l) (.bJ T x y)) (dA (aa l) (.bJ T x y)) dst os a K (c_ (aa l) (bJ C (aa l) T (aS (aa l) x) (aS (aa l) y)))) ∧
  (∀ (T : TypeId) (x y : aI) (t : Nat), cD C l dst (.idx T x y) t true os (some a) K (.bool true) = dS C l (t :: use (aa l) (.idx T x y)) (dA (aa l) (.idx T x y)) dst os a K (c_ (aa l) (idx C T (aS (aa l) x) (aS (aa l) y)))) ∧
  (∀ (T : TypeId) (x y : aI) (t : Nat), cD C l dst (.idx T x y) t false os (some a) K (.bool false) = dS C l (t :: use (aa l) (.idx T x y)) (dA (aa l) (.idx T x y)) dst os a K (c_ (aa l) (idx C T (aS (aa l) x) (aS (aa l) y)))) ∧
  (∀ (x : aI) (k : Nat) (t : Nat), cD C l dst (.ex x k) t true os (some a) K (.bool true) = dS C l (t :: use (aa l) (.ex x k)) (dA (aa l) (.ex x k)) dst os a K (c_ (aa l) (ex (aa l) (aS (aa l) x) k))) ∧
  (∀ (x : aI) (k : Nat) (t : Nat), cD C l dst (.ex x k) t false os (some a) K (.bool false) = dS C l (t :: use (aa l) (.ex x k)) (dA (aa l) (.ex x k)) dst os a K (c_ (aa l) (ex (aa l) (aS (aa l) x) k))) ∧
  (∀ (T : TypeId) (x : aI) (t : Nat), cD C l dst (.len T x) t true os (some a) K (.bool true) = dS C l (t :: use (aa l) (.len T x)) (dA (aa l) (.len T x)) dst os a K (c_ (aa l) (lu C (aa l) T (aS (aa l) x)))) ∧
  (∀ (T : TypeId) (x : aI) (t : Nat), cD C l dst (.len T x) t false os (some a) K (.bool false) = dS C l (t :: use (aa l) (.len T x)) (dA (aa l) (.len T x)) dst os a K (c_ (aa l) (lu C (aa l) T (aS (aa l) x)))) ∧
  (∀ (T bO : TypeId) (x y : aI) (t : Nat), cD C l dst (.app T bO x y) t true os (some a) K (.bool true) = dS C l (t :: use (aa l) (.app T bO x y)) (dA (aa l) (.app T bO x y)) dst os a K (lx C (aa l) T bO (aS (aa l) x) (aS (aa l) y))) ∧
  (∀ (T bO : TypeId) (x y : aI) (t : Nat), cD C l dst (.app T bO x y) t false os (some a) K (.bool false) = dS C l (t :: use (aa l) (.app T bO x y)) (dA (aa l) (.app T bO x y)) dst os a K (lx C (aa l) T bO (aS (aa l) x) (aS (aa l) y))) :=
 ⟨fun x _ => (fV rfl).trans (congrArg _ (tx x)), fun x _ => (fV rfl).trans (congrArg _ (tx x)), fun x _ => (fV rfl).trans (congrArg _ (tz x)), fun x _ => (fV rfl).trans (congrArg _ (tz x)), fun c x y _ => (fV rfl).trans (congrArg _ (tA c x y)), fun c x y _ => (fV rfl).trans (congrArg _ (tA c x y)), fun T _ => (fV rfl).trans (congrArg _ (tB T)), fun T _ => (fV rfl).trans (congrArg _ (tB T)), fun T x _ => (fV rfl).trans (congrArg _ (tC T x)), fun T x _ => (fV rfl).trans (congrArg _ (tC T x)), fun T ps _ => (fV rfl).trans (congrArg _ (tD T ps)), fun T ps _ => (fV rfl).trans (congrArg _ (tD T ps)), fun T n ps _ => (fV rfl).trans (congrArg _ (tE T n ps)), fun T n ps _ => (fV rfl).trans (congrArg _ (tE T n ps)), fun T x _ => (fV rfl).trans (congrArg _ (tF T x)), fun T x _ => (fV rfl).trans (congrArg _ (tF T x)), fun T x y _ => (fV rfl).trans (congrArg _ (tG T x y)), fun T x y _ => (fV rfl).trans (congrArg _ (tG T x y)), fun x _ => (fV rfl).trans (congrArg _ (tH x)), fun x _ => (fV rfl).trans (congrArg _ (tH x)), fun op T x y _ => (fV rfl).trans (congrArg _ (tI op T x y)), fun op T x y _ => (fV rfl).trans (congrArg _ (tI op T x y)), fun op x _ => (fV rfl).trans (congrArg _ (tJ op x)), fun op x _ => (fV rfl).trans (congrArg _ (tJ op x)), fun A B x _ => (fV rfl).trans (congrArg _ (tK A B x)), fun A B x _ => (fV rfl).trans (congrArg _ (tK A B x)), fun f cs _ => (fV rfl).trans (congrArg _ (tL f cs)), fun f cs _ => (fV rfl).trans (congrArg _ (tL f cs)), fun T x y _ => (fV rfl).trans (congrArg _ (tM T x y)), fun T x y _ => (fV rfl).trans (congrArg _ (tM T x y)), fun T x dg au _ => (fV rfl).trans (congrArg _ (tN T x dg au)), fun T x dg au _ => (fV rfl).trans (congrArg _ (tN T x dg au)), fun T x k _ => (fV rfl).trans (congrArg _ (tO T x k)), fun T x k _ => (fV rfl).trans (congrArg _ (tO T x k)), fun T x y _ => (fV rfl).trans (congrArg _ (tP T x y)), fun T x y _ => (fV rfl).trans (congrArg _ (tP T x y)), fun T x y _ => (fV rfl).trans (congrArg _ (tQ T x y)), fun T x y _ => (fV rfl).trans (congrArg _ (tQ T x y)), fun x k _ => (fV rfl).trans (congrArg _ (tR x k)), fun x k _ => (fV rfl).trans (congrArg _ (tR x k)), fun T x _ => (fV rfl).trans (congrArg _ (tS T x)), fun T x _ => (fV rfl).trans (congrArg _ (tS T x)), fun T bO x y _ => (fV rfl).trans (congrArg _ (tT T bO x y)), fun T bO x y _ => (fV rfl).trans (congrArg _ (tT T bO x y))⟩
end
theorem H9 :
  (∀ (t : Nat) (k : IntKind) (n : Int), iV t (.int k n) = (.int k n)) ∧
  (∀ (t : Nat) (b : Bool), iV t (.bool b) = (.bool b)) ∧
  (∀ (t : Nat) (x : List UInt8), iV t (.str x) = (.str x)) ∧
  (∀ (t : Nat) (xs : List I), iV t (.slice xs) = (.slice xs)) ∧
  (∀ (t : Nat) (d : I), iV t (.ref d) = (.ref d)) ∧
  (∀ (t : Nat) (f : FuncId) (cap : List I), iV t (.fn f cap) = (.fn f cap)) ∧
  (∀ (t : Nat) (x : Nat) (q : List Nat), iV t (.h x q) = (.h x q)) ∧
  (∀ (t : Nat) (x : Nat) (q : List Nat), iV t (.ax x q) = (.ax x q)) ∧
  (∀ (t : Nat) , iV t .dC = .dC) ∧
  (∀ (t : Nat) , iV t .bc = .bc) ∧
  (∀ (t : Nat) , iV t .e7 = .e7) ∧
  (∀ (t : Nat) , iV t .hole = .hole) ∧
  (∀ (t : Nat) (sz : Nat) (xs : List I), iV t (.aw sz xs) = .h t []) ∧
  (∀ (t : Nat) (d : I), iV t (.a8 d) = .h t []) ∧
  (∀ (t : Nat) (az : List I), iV t (.agg az) = if I.dI az = true then (.agg az) else .h t []) ∧
  (∀ (t : Nat) (az : List I), iV t (.tuple az) = if I.dI az = true then (.tuple az) else .h t []) :=
 ⟨fun _ _ _ => rfl, fun _ _ => rfl, fun _ _ => rfl, fun _ _ => rfl, fun _ _ => rfl, fun _ _ _ => rfl, fun _ _ _ => rfl, fun _ _ _ => rfl, fun _  => rfl, fun _  => rfl, fun _  => rfl, fun _  => rfl, fun _ _ _ => rfl, fun _ _ => rfl, fun _ _ => rfl, fun _ _ => rfl⟩
theorem H_ :
  (∀ (l : List (Nat × I)) (av : I), fin (aa l) none av = aa l) ∧
  (∀ (l : List (Nat × I)) (t : Nat) (k : IntKind) (n : Int), fin (aa l) (some t) (.int k n) = aa ((t, (.int k n)) :: l)) ∧
  (∀ (l : List (Nat × I)) (t : Nat) (b : Bool), fin (aa l) (some t) (.bool b) = aa ((t, (.bool b)) :: l)) ∧
  (∀ (l : List (Nat × I)) (t : Nat) (x : List UInt8), fin (aa l) (some t) (.str x) = aa ((t, (.str x)) :: l)) ∧
  (∀ (l : List (Nat × I)) (t : Nat) (xs : List I), fin (aa l) (some t) (.slice xs) = aa ((t, (.slice xs)) :: l)) ∧
  (∀ (l : List (Nat × I)) (t : Nat) (d : I), fin (aa l) (some t) (.ref d) = aa ((t, (.ref d)) :: l)) ∧
  (∀ (l : List (Nat × I)) (t : Nat) (f : FuncId) (cap : List I), fin (aa l) (some t) (.fn f cap) = aa ((t, (.fn f cap)) :: l)) ∧
  (∀ (l : List (Nat × I)) (t : Nat) (x : Nat) (q : List Nat), fin (aa l) (some t) (.h x q) = aa ((t, (.h x q)) :: l)) ∧
  (∀ (l : List (Nat × I)) (t : Nat) (x : Nat) (q : List Nat), fin (aa l) (some t) (.ax x q) = aa ((t, (.ax x q)) :: l)) ∧
  (∀ (l : List (Nat × I)) (t : Nat) , fin (aa l) (some t) .dC = aa ((t, .dC) :: l)) ∧
  (∀ (l : List (Nat × I)) (t : Nat) , fin (aa l) (some t) .bc = aa ((t, .bc) :: l)) ∧
  (∀ (l : List (Nat × I)) (t : Nat) , fin (aa l) (some t) .e7 = aa ((t, .e7) :: l)) ∧
  (∀ (l : List (Nat × I)) (t : Nat) , fin (aa l) (some t) .hole = aa ((t, .hole) :: l)) ∧
  (∀ (l : List (Nat × I)) (t : Nat) (sz : Nat) (xs : List I), fin (aa l) (some t) (.aw sz xs) = aa ((t, (.aw sz xs)) :: nS t l)) ∧
  (∀ (l : List (Nat × I)) (t : Nat) (d : I), fin (aa l) (some t) (.a8 d) = aa ((t, (.a8 d)) :: nS t l)) ∧
  (∀ (l : List (Nat × I)) (t : Nat) (az : List I), fin (aa l) (some t) (.agg az) = aa ((t, (.agg az)) :: if I.dI az = true then l else nS t l)) ∧
  (∀ (l : List (Nat × I)) (t : Nat) (az : List I), fin (aa l) (some t) (.tuple az) = aa ((t, (.tuple az)) :: if I.dI az = true then l else nS t l)) :=
 ⟨fun _ _ => rfl, fun l t _ _ => by simp only [fin, I.plain, if_true, kD], fun l t _ => by simp only [fin, I.plain, if_true, kD], fun l t _ => by simp only [fin, I.plain, if_true, kD], fun l t _ => by simp only [fin, I.plain, if_true, kD], fun l t _ => by simp only [fin, I.plain, if_true, kD], fun l t _ _ => by simp only [fin, I.plain, if_true, kD], fun l t _ _ => by simp only [fin, I.plain, if_true, kD], fun l t _ _ => by simp only [fin, I.plain, if_true, kD], fun l t  => by simp only [fin, I.plain, if_true, kD], fun l t  => by simp only [fin, I.plain, if_true, kD], fun l t  => by simp only [fin, I.plain, if_true, kD], fun l t  => by simp only [fin, I.plain, if_true, kD], fun l t _ _ => by simp only [fin, I.plain, Bool.false_eq_true, if_false, vT, kD], fun l t _ => by simp only [fin, I.plain, Bool.false_eq_true, if_false, vT, kD], fun l t _ => by simp only [fin, I.plain, vT, kD]; split <;> rfl, fun l t _ => by simp only [fin, I.plain, vT, kD]; split <;> rfl⟩
theorem tU :
  (∀ (k : IntKind) (n : Int), I.plain (.int k n) = true) ∧
  (∀ (b : Bool), I.plain (.bool b) = true) ∧
  (∀ (x : List UInt8), I.plain (.str x) = true) ∧
  (∀ (xs : List I), I.plain (.slice xs) = true) ∧
  (∀ (d : I), I.plain (.ref d) = true) ∧
  (∀ (f : FuncId) (cap : List I), I.plain (.fn f cap) = true) ∧
  (∀ (x : Nat) (q : List Nat), I.plain (.h x q) = true) ∧
  (∀ (x : Nat) (q : List Nat), I.plain (.ax x q) = true) ∧
  (I.plain .dC = true) ∧
  (I.plain .bc = true) ∧
  (I.plain .e7 = true) ∧
  (I.plain .hole = true) ∧
  (∀ (sz : Nat) (xs : List I), I.plain (.aw sz xs) = false) ∧
  (∀ (d : I), I.plain (.a8 d) = false) ∧
  (∀ (az : List I), I.plain (.agg az) = I.dI az) ∧
  (∀ (az : List I), I.plain (.tuple az) = I.dI az) ∧
  (I.dI [] = true) ∧
  (∀ d ds, I.dI (d :: ds) = (d.plain && I.dI ds)) :=
 ⟨fun _ _ => rfl, fun _ => rfl, fun _ => rfl, fun _ => rfl, fun _ => rfl, fun _ _ => rfl, fun _ _ => rfl, fun _ _ => rfl, rfl, rfl, rfl, rfl, fun _ _ => rfl, fun _ => rfl, fun _ => rfl, fun _ => rfl, rfl, fun _ _ => rfl⟩
theorem Ia :
  (∀ (s : ar) (k : IntKind) (n : Int), i0 s (.int k n) = some ((.int k n), s)) ∧
  (∀ (s : ar) (b : Bool), i0 s (.bool b) = some ((.bool b), s)) ∧
  (∀ (s : ar) (x : List UInt8), i0 s (.str x) = some ((.str x), s)) ∧
  (∀ (s : ar) (xs : List I), i0 s (.slice xs) = some ((.slice xs), s)) ∧
  (∀ (s : ar) (d : I), i0 s (.ref d) = some ((.ref d), s)) ∧
  (∀ (s : ar) (f : FuncId) (cap : List I), i0 s (.fn f cap) = some ((.fn f cap), s)) ∧
  (∀ (s : ar) (x : Nat) (q : List Nat), i0 s (.ax x q) = some ((.ax x q), s)) ∧
  (∀ (s : ar) , i0 s .dC = some (.dC, s)) ∧
  (∀ (s : ar) , i0 s .bc = some (.bc, s)) ∧
  (∀ (s : ar) , i0 s .e7 = some (.e7, s)) ∧
  (∀ (s : ar) , i0 s .hole = some (.hole, s)) ∧
  (∀ (s : ar) (sz : Nat) (xs : List I), i0 s (.aw sz xs) = some ((.aw sz xs), s)) ∧
  (∀ (s : ar) (d : I), i0 s (.a8 d) = some ((.a8 d), s)) ∧
  (∀ (s : ar) (az : List I), i0 s (.agg az) = some ((.agg az), s)) ∧
  (∀ (s : ar) (az : List I), i0 s (.tuple az) = some ((.tuple az), s)) ∧
  (∀ (s : ar) y q, i0 s (.h y q) = cS s (.h y q)) :=
 ⟨fun _ _ _ => rfl, fun _ _ => rfl, fun _ _ => rfl, fun _ _ => rfl, fun _ _ => rfl, fun _ _ _ => rfl, fun _ _ _ => rfl, fun _  => rfl, fun _  => rfl, fun _  => rfl, fun _  => rfl, fun _ _ _ => rfl, fun _ _ => rfl, fun _ _ => rfl, fun _ _ => rfl, fun _ _ _ => rfl⟩
theorem Ib :
  (∀ (t : Nat) (k : IntKind) (n : Int), cO t (.int k n) = (.int k n)) ∧
  (∀ (t : Nat) (b : Bool), cO t (.bool b) = (.bool b)) ∧
  (∀ (t : Nat) (x : List UInt8), cO t (.str x) = (.str x)) ∧
  (∀ (t : Nat) (xs : List I), cO t (.slice xs) = (.slice xs)) ∧
  (∀ (t : Nat) (d : I), cO t (.ref d) = (.ref d)) ∧
  (∀ (t : Nat) , cO t .dC = .dC) ∧
  (∀ (t : Nat) , cO t .bc = .bc) ∧
  (∀ (t : Nat) , cO t .e7 = .e7) ∧
  (∀ (t : Nat) , cO t .hole = .hole) ∧
  (∀ (t : Nat) (sz : Nat) (xs : List I), cO t (.aw sz xs) = (.aw sz xs)) ∧
  (∀ (t : Nat) (d : I), cO t (.a8 d) = (.a8 d)) ∧
  (∀ (t : Nat) (az : List I), cO t (.agg az) = (.agg az)) ∧
  (∀ (t : Nat) (az : List I), cO t (.tuple az) = (.tuple az)) ∧
  (∀ (t y : Nat) q, cO t (.h y q) = if y = t then .hole else .h y q) ∧
  (∀ (t y : Nat) q, cO t (.ax y q) = if y = t then .hole else .ax y q) ∧
  (∀ (t : Nat) f c, cO t (.fn f c) = .fn f (iU t c)) ∧
  (∀ t, iU t [] = []) ∧
  (∀ t d ds, iU t (d :: ds) = cO t d :: iU t ds) ∧
  (∀ t, nS t [] = []) ∧
  (∀ t u d l, nS t ((u, d) :: l) = (u, cO t d) :: nS t l) ∧
  (∀ t l, lo t (aa l) = aa (nS t l)) :=
 ⟨fun _ _ _ => by unfold cO; rfl, fun _ _ => by unfold cO; rfl, fun _ _ => by unfold cO; rfl, fun _ _ => by unfold cO; rfl, fun _ _ => by unfold cO; rfl, fun _  => by unfold cO; rfl, fun _  => by unfold cO; rfl, fun _  => by unfold cO; rfl, fun _  => by unfold cO; rfl, fun _ _ _ => by unfold cO; rfl, fun _ _ => by unfold cO; rfl, fun _ _ => by unfold cO; rfl, fun _ _ => by unfold cO; rfl, fun _ _ _ => by unfold cO; rfl, fun _ _ _ => by unfold cO; rfl, fun _ _ _ => by simp only [cO], fun _ => by simp only [iU], fun _ _ _ => by simp only [iU], fun _ => rfl, fun _ _ _ _ => rfl, fun t l => vT t l⟩
theorem Ic :
  (∀ (t : Nat) (k : IntKind) (n : Int), cc t (.int k n) = (.int k n)) ∧
  (∀ (t : Nat) (b : Bool), cc t (.bool b) = (.bool b)) ∧
  (∀ (t : Nat) (x : List UInt8), cc t (.str x) = (.str x)) ∧
  (∀ (t : Nat) (xs : List I), cc t (.slice xs) = (.slice xs)) ∧
  (∀ (t : Nat) (d : I), cc t (.ref d) = (.ref d)) ∧
  (∀ (t : Nat) , cc t .dC = .dC) ∧
  (∀ (t : Nat) , cc t .bc = .bc) ∧
  (∀ (t : Nat) , cc t .e7 = .e7) ∧
  (∀ (t : Nat) , cc t .hole = .hole) ∧
  (∀ (t : Nat) (sz : Nat) (xs : List I), cc t (.aw sz xs) = (.aw sz xs)) ∧
  (∀ (t : Nat) (d : I), cc t (.a8 d) = (.a8 d)) ∧
  (∀ (t : Nat) (az : List I), cc t (.agg az) = (.agg az)) ∧
  (∀ (t : Nat) (az : List I), cc t (.tuple az) = (.tuple az)) ∧
  (∀ (t y : Nat), cc t (.h y []) = .h y []) ∧
  (∀ (t y k : Nat) q, cc t (.h y (k :: q)) = if y = t then .hole else .h y (k :: q)) ∧
  (∀ (t y : Nat) q, cc t (.ax y q) = if y = t then .hole else .ax y q) ∧
  (∀ (t : Nat) f c, cc t (.fn f c) = .fn f (ir t c)) ∧
  (∀ t, ir t [] = []) ∧
  (∀ t d ds, ir t (d :: ds) = cc t d :: ir t ds) ∧
  (∀ t, rr t [] = []) ∧
  (∀ t u d l, rr t ((u, d) :: l) = (u, cc t d) :: rr t l) ∧
  (∀ t l, iG t (aa l) = aa (rr t l)) :=
 ⟨fun _ _ _ => by unfold cc; rfl, fun _ _ => by unfold cc; rfl, fun _ _ => by unfold cc; rfl, fun _ _ => by unfold cc; rfl, fun _ _ => by unfold cc; rfl, fun _  => by unfold cc; rfl, fun _  => by unfold cc; rfl, fun _  => by unfold cc; rfl, fun _  => by unfold cc; rfl, fun _ _ _ => by unfold cc; rfl, fun _ _ => by unfold cc; rfl, fun _ _ => by unfold cc; rfl, fun _ _ => by unfold cc; rfl, fun _ _ => by simp [cc], fun _ _ _ _ => by simp [cc], fun _ _ _ => by unfold cc; rfl, fun _ _ _ => by simp only [cc], fun _ => by simp only [ir], fun _ _ _ => by simp only [ir], fun _ => rfl, fun _ _ _ _ => rfl, fun t l => PX t l⟩
def DX : mT → Bool → Option I
 | .bool, b => some (.bool b)
 | _, _ => none
def qe (neg : Bool) : mT → Option (Option Bool) → Option I
 | .slice _, some r => some (nD neg r)
 | _, _ => none
def rC (neg : Bool) : mT → Option Bool → Option I
 | .ptr _, some b => some (.bool (b != neg))
 | _, _ => none
theorem Ie (C : ck) (s : ar) (T : TypeId) :
  (∀ op k a df b, aq C s op T (.int k a) (.int df b) = iJ op k a df b) ∧
  (∀ op a b, aq C s op T (.str a) (.str b) = mo op a b) ∧
  (∀ a b, aq C s .eql T (.bool a) (.bool b) = DX (C.T T).k (a == b)) ∧
  (∀ a b, aq C s .neq T (.bool a) (.bool b) = DX (C.T T).k (!(a == b))) ∧
  (∀ xs, aq C s .eql T (.slice xs) .bc = qe false (C.T T).k (jl s (.slice xs))) ∧
  (∀ xs, aq C s .neq T (.slice xs) .bc = qe true (C.T T).k (jl s (.slice xs))) ∧
  (aq C s .eql T .bc .bc = qe false (C.T T).k (jl s .bc)) ∧
  (aq C s .neq T .bc .bc = qe true (C.T T).k (jl s .bc)) ∧
  (∀ x q, aq C s .eql T (.h x q) .bc = qe false (C.T T).k (jl s (.h x q))) ∧
  (∀ x q, aq C s .neq T (.h x q) .bc = qe true (C.T T).k (jl s (.h x q))) ∧
  (∀ x q, aq C s .eql T (.h x q) .dC = rC false (C.T T).k (kO s (.h x q))) ∧
  (∀ x q, aq C s .neq T (.h x q) .dC = rC true (C.T T).k (kO s (.h x q))) ∧
  (∀ d, aq C s .eql T (.ref d) .dC = rC false (C.T T).k (kO s (.ref d))) ∧
  (∀ d, aq C s .neq T (.ref d) .dC = rC true (C.T T).k (kO s (.ref d))) ∧
  (aq C s .eql T .dC .dC = rC false (C.T T).k (kO s .dC)) ∧
  (aq C s .neq T .dC .dC = rC true (C.T T).k (kO s .dC)) := by
 refine ⟨?_, ?_, ?_, ?_, ?_, ?_, ?_, ?_, ?_, ?_, ?_, ?_, ?_, ?_, ?_, ?_⟩ <;> intros <;> first
  | rfl
  | (simp only [aq]
     generalize (C.T T).k = lq
     cases lq <;> first | rfl | (simp only [qe]; generalize jl s _ = v; cases v <;> rfl) | (simp only [rC]; generalize kO s _ = v; cases v <;> (try (rename_i b; cases b)) <;> rfl))
theorem Ig (k : IntKind) (a b : Int) :
  iJ .add k a k b = some (.int k (k.wrap (a + b))) ∧ iJ .sub k a k b = some (.int k (k.wrap (a - b))) ∧ iJ .mul k a k b = some (.int k (k.wrap (a * b))) ∧
  iJ .eql k a k b = some (.bool (a == b)) ∧ iJ .neq k a k b = some (.bool (a != b)) ∧ iJ .lss k a k b = some (.bool (decide (a < b))) ∧ iJ .leq k a k b = some (.bool (decide (a ≤ b))) ∧
  iJ .gtr k a k b = some (.bool (decide (b < a))) ∧ iJ .geq k a k b = some (.bool (decide (b ≤ a))) ∧
  iJ .and k a k b = some (.int k (bitsOf .and k a b)) ∧ iJ .or k a k b = some (.int k (bitsOf .or k a b)) ∧ iJ .xor k a k b = some (.int k (bitsOf .xor k a b)) ∧ iJ .andNot k a k b = some (.int k (bitsOf .andNot k a b)) := by
 simp [iJ]
theorem QD {k : IntKind} {a b : Int} (h : b ≠ 0) : iJ .quo k a k b = some (.int k (k.wrap (a.tdiv b))) := by simp [iJ, h]
theorem QE {k : IntKind} {a b : Int} (h : b ≠ 0) : iJ .rem k a k b = some (.int k (a.tmod b)) := by simp [iJ, h]
theorem Ih (a b : List UInt8) :
  mo .eql a b = some (.bool (a == b)) ∧ mo .neq a b = some (.bool !(a == b)) ∧ mo .lss a b = some (.bool (Op.bytesLess a b)) ∧
  mo .leq a b = some (.bool (Op.bytesLess a b || a == b)) ∧ mo .gtr a b = some (.bool !(Op.bytesLess a b || a == b)) ∧ mo .geq a b = some (.bool !(Op.bytesLess a b)) := by
 refine ⟨rfl, rfl, rfl, rfl, rfl, rfl⟩
theorem Ii : (∀ b, un .not (.bool b) = some (.bool !b)) ∧ (un .not .e7 = some .e7) ∧ (∀ k n, un .neg (.int k n) = some (.int k (k.wrap (0 - n)))) := ⟨fun _ => rfl, rfl, fun _ _ => rfl⟩
def DY : mT → Option UInt8 → Option I
 | .str, some c => some (.int .u8 c.toNat)
 | _, _ => none
theorem Ij (C : ck) (T : TypeId) (l : List UInt8) (k : IntKind) (n : Int) : idx C T (.str l) (.int k n) = DY (C.T T).k (bM l n) := by
 simp only [idx, bM]
 generalize (C.T T).k = lq
 cases lq <;> first | rfl | (simp only [DY]; split <;> first | rfl | (cases l[n.toNat]? <;> rfl))
def DZ (C : ck) : mT → Option I → Option I
 | .slice e, some d => if (C.T e).ok = true ∧ d.wd = (C.T e).sz then some (.ref d) else none
 | _, _ => none
theorem Ik (C : ck) (s : ar) (T : TypeId) (xs : List I) (k : IntKind) (n : Int) : bJ C s T (.slice xs) (.int k n) = DZ C (C.T T).k (bM xs n) := by
 simp only [bJ, bM]
 generalize (C.T T).k = lq
 cases lq <;> first | rfl | skip
 simp only [DZ]
 by_cases a9 : 0 ≤ n
 ·simp only [a9, true_and, if_true]
  split
  ·cases xs[n.toNat]? <;> simp [*]
  ·cases xs[n.toNat]? <;> simp [*]
 ·simp only [a9, false_and, if_false]
def vX (C : ck) (y : Nat) (q : List Nat) (n : Int) : mT → Option I → Option I
 | .slice e, some (.aw sz xs) => if (bM xs n).isSome = true ∧ (C.T e).ok = true ∧ sz = (C.T e).sz then some (.ax y (q ++ [n.toNat])) else none
 | _, _ => none
theorem Il (C : ck) (s : ar) (T : TypeId) (y : Nat) (q : List Nat) (k : IntKind) (n : Int) : bJ C s T (.h y q) (.int k n) = vX C y q n (C.T T).k (I.sub q (s y)) := by
 simp only [bJ]
 generalize (C.T T).k = lq
 cases lq <;> first | rfl | skip
 rename_i e
 cases ah : I.sub q (s y) with
 | none => simp [vX]
 | some d =>
   cases d <;> first
    | (simp [vX]; done)
    | skip
   rename_i sz xs
   have b8 : (bM xs n).isSome = true ↔ 0 ≤ n ∧ n.toNat < xs.length := by
    unfold bM; split <;> simp_all <;> omega
   simp only [vX, b8]
   by_cases a9 : 0 ≤ n <;> by_cases ai : (C.T e).ok = true <;> simp [a9, ai]
def tV : mT → ar → Option (List UInt8) → Option (I × ar)
 | .str, s, some t => some (.str t, s)
 | _, _, _ => none
def tW (C : ck) : mT → ar → List I → Option (List I) → Option (I × ar)
 | .slice e, s, xs, some t => if (C.T e).ok = true ∧ ∀ d ∈ xs, d.wd = (C.T e).sz then some (.slice t, s) else none
 | _, _, _, _ => none
theorem Im (C : ck) (s : ar) (T : TypeId) (l : List UInt8) :
  (∀ k a df b, fB C s T (.str l) (some (.int k a)) (some (.int df b)) = tV (C.T T).k s (js l a b)) ∧
  (∀ df b, fB C s T (.str l) none (some (.int df b)) = tV (C.T T).k s (js l 0 b)) ∧
  (∀ k a, fB C s T (.str l) (some (.int k a)) none = tV (C.T T).k s (js l a l.length)) := by
 have e : ∀ (dg au : Option I) (a b : Int), (jV 0 dg = if 0 ≤ a then some a.toNat else none) → (jV l.length au = if 0 ≤ b then some b.toNat else none) → fB C s T (.str l) dg au = tV (C.T T).k s (js l a b) := by
  intro dg au a b ai aj
  simp only [fB]
  generalize (C.T T).k = lq
  cases lq <;> first | rfl | skip
  simp only [ai, aj, js]
  by_cases cw : 0 ≤ a <;> by_cases ae : 0 ≤ b <;> simp only [cw, ae, if_true, if_false, tV, true_and, false_and]
  ·by_cases ay : a ≤ b ∧ b ≤ l.length
   ·rw [if_pos ⟨by omega, by omega⟩, if_pos ay]
   ·rw [if_neg (fun h => ay ⟨by omega, by omega⟩), if_neg ay]
  ·rw [if_neg (by omega)]
 exact ⟨fun k a df b => e _ _ a b rfl rfl, fun df b => e _ _ 0 b rfl rfl, fun k a => e _ _ a l.length rfl (by simp [jV])⟩
theorem Io (C : ck) (s : ar) (T : TypeId) (xs : List I) :
  (∀ k a df b, fB C s T (.slice xs) (some (.int k a)) (some (.int df b)) = tW C (C.T T).k s xs (js xs a b)) ∧
  (∀ df b, fB C s T (.slice xs) none (some (.int df b)) = tW C (C.T T).k s xs (js xs 0 b)) ∧
  (∀ k a, fB C s T (.slice xs) (some (.int k a)) none = tW C (C.T T).k s xs (js xs a xs.length)) := by
 have e : ∀ (dg au : Option I) (a b : Int), (jV 0 dg = if 0 ≤ a then some a.toNat else none) → (jV xs.length au = if 0 ≤ b then some b.toNat else none) → fB C s T (.slice xs) dg au = tW C (C.T T).k s xs (js xs a b) := by
  intro dg au a b ai aj
  simp only [fB]
  generalize (C.T T).k = lq
  cases lq <;> first | rfl | skip
  simp only [ai, aj, js]
  by_cases cw : 0 ≤ a <;> by_cases ae : 0 ≤ b <;> simp only [cw, ae, if_true, if_false, tW, true_and, false_and]
  ·by_cases ay : a ≤ b ∧ b ≤ xs.length
   ·rw [if_pos ay]
    have ai : a.toNat ≤ b.toNat := by omega
    have aj : b.toNat ≤ xs.length := by omega
    simp only [ai, aj, true_and]
   ·rw [if_neg (fun h => ay ⟨by omega, by omega⟩), if_neg ay]
  ·rw [if_neg (by omega)]
 exact ⟨fun k a df b => e _ _ a b rfl rfl, fun df b => e _ _ 0 b rfl rfl, fun k a => e _ _ a xs.length rfl (by simp [jV])⟩
def vY (q : List Nat) : Option I → Option I
 | some d => I.sub q d
 | none => none
theorem Ip : (∀ d, I.sub [] d = some d) ∧ (∀ k q az, I.sub (k :: q) (.agg az) = vY q az[k]?) ∧ (∀ k q az, I.sub (k :: q) (.tuple az) = vY q az[k]?) ∧ (∀ k q sz xs, I.sub (k :: q) (.aw sz xs) = vY q xs[k]?) ∧
  (∀ q d, I.sub (0 :: q) (.a8 d) = I.sub q d) ∧ (∀ q d, vY q (some d) = I.sub q d) ∧
  (∀ k q a b, I.sub (k :: q) (.int a b) = none) := by
 refine ⟨fun d => by simp [I.sub], ?_, ?_, ?_, fun q d => by simp [I.sub], fun _ _ => rfl, fun _ _ _ _ => by simp [I.sub]⟩
 ·intro k q az; simp only [I.sub]; cases az[k]? <;> rfl
 ·intro k q az; simp only [I.sub]; cases az[k]? <;> rfl
 ·intro k q sz az; simp only [I.sub]; cases az[k]? <;> rfl
def Iq (k : Nat) (q : List Nat) (n : I) (az : List I) : Option I → I
 | some d => .agg (az.set k (I.put q n d))
 | none => .agg az
def Ir (k : Nat) (q : List Nat) (n : I) (az : List I) : Option I → I
 | some d => .tuple (az.set k (I.put q n d))
 | none => .tuple az
def Is (k : Nat) (q : List Nat) (n : I) (sz : Nat) (xs : List I) : Option I → I
 | some d => .aw sz (xs.set k (I.put q n d))
 | none => .aw sz xs
theorem It : (∀ n d, I.put [] n d = n) ∧ (∀ k q n az, I.put (k :: q) n (.agg az) = Iq k q n az az[k]?) ∧ (∀ k q n az, I.put (k :: q) n (.tuple az) = Ir k q n az az[k]?) ∧
  (∀ k q n sz xs, I.put (k :: q) n (.aw sz xs) = Is k q n sz xs xs[k]?) ∧ (∀ q n d, I.put (0 :: q) n (.a8 d) = .a8 (I.put q n d)) ∧
  (∀ k q n az d, Iq k q n az (some d) = .agg (az.set k (I.put q n d))) ∧ (∀ k q n az d, Ir k q n az (some d) = .tuple (az.set k (I.put q n d))) ∧
  (∀ k q n sz xs d, Is k q n sz xs (some d) = .aw sz (xs.set k (I.put q n d))) := by
 refine ⟨fun n d => by simp [I.put], ?_, ?_, ?_, fun q n d => by simp [I.put], fun _ _ _ _ _ => rfl, fun _ _ _ _ _ => rfl, fun _ _ _ _ _ _ => rfl⟩
 ·intro k q n az; simp only [I.put]; cases az[k]? <;> rfl
 ·intro k q n az; simp only [I.put]; cases az[k]? <;> rfl
 ·intro k q n sz az; simp only [I.put]; cases az[k]? <;> rfl
theorem D0 : (∀ k n, I.wd (.int k n) = 1) ∧ (∀ b, I.wd (.bool b) = 1) ∧ (∀ x, I.wd (.str x) = 1) ∧ (∀ x, I.wd (.slice x) = 1) ∧ (∀ n x, I.wd (.aw n x) = 1) ∧ (∀ x, I.wd (.ref x) = 1) ∧ (∀ x, I.wd (.a8 x) = 1) ∧
  I.wd .bc = 1 ∧ I.wd .dC = 1 ∧ I.wd .hole = 1 ∧ I.wd .e7 = 1 ∧ (∀ x y, I.wd (.h x y) = 1) ∧ (∀ x y, I.wd (.ax x y) = 1) ∧ (∀ x y, I.wd (.fn x y) = 1) ∧ (∀ az, I.wd (.agg az) = I.ez az) ∧ (∀ az, I.wd (.tuple az) = I.ez az) ∧ I.ez [] = 0 ∧ (∀ d ds, I.ez (d :: ds) = d.wd + I.ez ds) := by
 simp [I.wd, I.ez]
theorem QF {α : Type} {e : α → I} {n : Nat} (h : ∀ x, (e x).wd = n) (xs : List α) : (∀ d ∈ xs.map e, d.wd = n) = True := by
 simp only [List.mem_map, eq_iff_iff, iff_true]
 rintro d ⟨x, _, rfl⟩; exact h x
theorem QG (C : ck) (s : ar) (A B : TypeId) (k df : IntKind) (n : Int) (iK : (C.T A).ok = true) (hv : (C.T B).k = .int df) : fZ C s A B (.int k n) = some (.int df (df.wrap n)) := by
 simp only [fZ, iK, hv, if_true]
theorem Iu (m : Int) : ka (o_ m) = .int .u8 (IntKind.u8.wrap m) := by
 have h : 0 ≤ IntKind.u8.wrap m ∧ IntKind.u8.wrap m < 256 := by rw [IntKind.wrap_u8]; omega
 simp only [ka, o_, UInt8.toNat_ofNat']
 congr 1
 omega
theorem D1 (m : Int) : ((o_ m).toNat : Int) = IntKind.u8.wrap m := by
 have h := Iu m
 simpa [ka] using h
section
variable {C : ck} {l : List (Nat × I)} {Q : Exit → ar → Prop} {s : ar}
theorem kW {ros : List cK} {k : List Nat} (h : cv C (aa l) ros none (fun _ s => Q .normal (aa (iv k s)))) : db C (.U ros (some k)) Q (aa l) := ry (fun _ _ h => h) h
theorem Iv {ros : List cK} {gB : List (List Nat)} {k : List Nat} (hlen : gB.length = ros.length) (h : cv C (aa l) ros (some []) (fun acc s => lE (rA gB) 0 [] (acc.getD []).reverse = true ∧ Q .normal (aa (iv k s)))) :
  db C (.gI ros gB (some k)) Q (aa l) := H6 hlen h
theorem aN {a b : R} (h : ∀ gC : Exit → ar → Prop, (∀ s, eE (db C b Q) s → gC .normal s) → (∀ s, Q .ret s → gC .ret s) → (∀ i s, Q (.exit i) s → gC (.exit i) s) → db C a gC s) : db C (.seq a b) Q s :=
 h _ (fun _ h => h) (fun _ h => h) (fun _ _ h => h)
theorem cT {ros : List cK} {k : List Nat} {b : R} (h : cv C (aa l) ros none (fun _ s => db C b Q (aa (iv k s)))) : db C (.seq (.U ros (some k)) b) Q (aa l) := ry (fun _ _ h => .inl h) h
theorem hi {ros : List cK} {gB : List (List Nat)} {k : List Nat} {b : R} (hlen : gB.length = ros.length) (h : cv C (aa l) ros (some []) (fun acc s => lE (rA gB) 0 [] (acc.getD []).reverse = true ∧ db C b Q (aa (iv k s)))) :
  db C (.seq (.gI ros gB (some k)) b) Q (aa l) := H6 (K := fun s => eE (db C b Q) (aa (iv k s))) hlen (by
   have key : ∀ (os : List cK) (s : ar) (acc : Option (List fF)), cv C s os acc (fun acc s => lE (rA gB) 0 [] (acc.getD []).reverse = true ∧ db C b Q (aa (iv k s))) →
     cv C s os acc (fun acc s => lE (rA gB) 0 [] (acc.getD []).reverse = true ∧ eE (db C b Q) (aa (iv k s))) := by
    intro os
    induction os with
    | nil => intro s acc h; exact ⟨h.1, .inl h.2⟩
    | cons o os ih =>
      intro s acc h
      have mono : ∀ {s : ar} {bN : ga} {K du : List Nat → I → ar → Prop}, (∀ a b c, K a b c → du a b c) → m9 C s bN K → m9 C s bN du := by
       intro s bN K du aE h
       cases bN with
       | call f args =>
         obtain ⟨g, caps, ps, r, ai, gf, aj, aQ, bd, b3, cG, cp, fR⟩ := h
         exact ⟨g, caps, ps, r, ai, gf, aj, aQ, bd, b3, cG, cp, aE _ _ _ fR⟩
       | shr bN => obtain ⟨av, s1, ai, aj, aQ, bd⟩ := h; exact ⟨av, s1, ai, aj, aQ, aE _ _ _ bd⟩
       | lT f args u x =>
         obtain ⟨b5, cu, g, caps, ps, r, ai, gf, aj, aQ, bd, b3, cG, cp, fR, iF, hL⟩ := h
         exact ⟨b5, cu, g, caps, ps, r, ai, gf, aj, aQ, bd, b3, cG, cp, fR, iF, aE _ _ _ hL⟩
       | jX f args us =>
         obtain ⟨cu, g, caps, ps, r, ai, gf, aj, aQ, bd, b3, cG, cp, fR, iF⟩ := h
         exact ⟨cu, g, caps, ps, r, ai, gf, aj, aQ, bd, b3, cG, cp, fR, aE _ _ _ iF⟩
       | _ => obtain ⟨av, s1, ai, aj⟩ := h; exact ⟨av, s1, ai, aE _ _ _ aj⟩
      simp only [cv, my] at h ⊢
      split
      ·rename_i b8; rw [b8] at h; exact mono (fun _ _ _ => ih _ _) h
      ·rename_i t fY b8
       rw [b8] at h
       simp only at h
       split
       ·rename_i auV ah
        rw [ah] at h
        simp only at h
        split
        ·rename_i ae; rw [if_pos ae] at h; exact mono (fun _ _ _ => ih _ _) h
        ·rename_i ae; rw [if_neg ae] at h; exact ih _ _ h
       ·rename_i ah; rw [ah] at h; exact ih _ _ h
       ·rename_i ai aj
        split at h
        ·exact ai _ (by assumption)
        ·exact aj (by assumption)
        ·exact h
   exact key _ _ _ h)
theorem aX {c : aI} {a b : R} (ay : aS s c = .bool true) (h : db C a Q s) : db C (.cond c a b) Q s := by simp only [db, ay, if_true]; exact h
theorem a0 {c : aI} {a b : R} (ay : aS s c = .bool false) (h : db C b Q s) : db C (.cond c a b) Q s := by simp only [db, ay]; exact h
theorem QH {c : aI} {a b : R} (ay : aS s c = .e7) (ai : db C a Q s) (aj : db C b Q s) : db C (.cond c a b) Q s := by simp only [db, ay]; exact ⟨ai, aj⟩
theorem bK {id : Nat} {b : R} (h : ∀ gC : Exit → ar → Prop, (∀ s, Q .normal s → gC .normal s) → (∀ s, Q .ret s → gC .ret s) → (∀ s, Q .normal s → gC (.exit id) s) → (∀ i s, i ≠ id → Q (.exit i) s → gC (.exit i) s) → db C b gC s) : db C (.block id b) Q s :=
 h (tn id Q) (fun _ h => h) (fun _ h => h) (fun s h => by simp only [tn, if_true]; exact h) (fun i s au h => by simp only [tn, if_neg au]; exact h)
theorem dU {id : Nat} (h : Q (.exit id) s) : db C (.exit id) Q s := h
theorem aK (h : Q .ret s) : db C .ret Q s := h
theorem a5 (h : Q .normal s) : db C .skip Q s := h
def dG (C : ck) (b : R) (Q : Exit → ar → Prop) (s : ar) : Prop := ∀ Z : ar → Prop, (∀ aA, db C b (andThen (eE Z) Q) aA → Z aA) → Z s
theorem dV {b : R} (h : eE (dG C b Q) s) : db C (.loop b) Q s := h
theorem dW {b : R} (h : ∀ gC : Exit → ar → Prop, (∀ s, eE (dG C b Q) s → gC .normal s) → (∀ s, Q .ret s → gC .ret s) → (∀ i s, Q (.exit i) s → gC (.exit i) s) → db C b gC s) : dG C b Q s := by
 intro Z tq
 refine tq s (DF b ?_ (h (andThen (eE (dG C b Q)) Q) (fun _ h => h) (fun _ h => h) (fun _ _ h => h)))
 intro e aA bD
 cases e with
 | normal => exact tp (fun s h => h Z tq) aA bD
 | _ => exact bD
theorem bx {ei : List (Nat × I)} (h : ei.map (·.2) = ei.map fun p => s p.1) : rn s ei := by
 intro p ax
 left
 induction ei with
 | nil => cases ax
 | cons a ei ih =>
   simp only [List.map_cons, List.cons.injEq] at h
   rcases List.mem_cons.1 ax with rfl | ax
   ·exact h.1
   ·exact ih h.2 ax
end
section
variable {C : ck} {l : List (Nat × I)} {Q : Exit → ar → Prop} {s : ar} {os ros : List cK} {K : Option (List fF) → ar → Prop} {dst : Option Nat}
theorem Iw (l : List (Nat × I)) : (∀ n, aS (aa l) (.t n) = iV n (aa l n)) ∧ (∀ av, aS (aa l) (.c av) = av) ∧ (∀ g, aS (aa l) (.f g) = .fn g []) := ⟨fun _ => rfl, fun _ => rfl, fun _ => rfl⟩
theorem Ix : (∀ t, aa [] t = .hole) ∧ (∀ u d (l : List (Nat × I)) t, aa ((u, d) :: l) t = if t = u then d else aa l t) := ⟨fun _ => rfl, fun _ _ _ _ => rfl⟩
theorem Iy (s : ar) : iv [] s = [] ∧ (∀ t k, iv (t :: k) s = (t, s t) :: iv k s) := ⟨rfl, fun _ _ => rfl⟩
theorem Iz (s : ar) : (∀ d, c_ s (some d) = some (d, s)) ∧ (∀ s1, dT (some s1) = some (.hole, s1)) ∧ hX s [] = [] ∧ (∀ x xs, hX s (x :: xs) = aS s x :: hX s xs) ∧ jY s [] = [] ∧ (∀ k x xs, jY s ((k, x) :: xs) = (k, aS s x) :: jY s xs) ∧
  kV s none = none ∧ (∀ x, kV s (some x) = some (aS s x)) ∧ (∀ b x y, qd s (.bool b) x y = some (if b = true then x else y, s)) :=
 ⟨fun _ => rfl, fun _ => rfl, rfl, fun _ _ => rfl, rfl, fun _ _ _ => rfl, rfl, fun _ => rfl, fun b _ _ => by cases b <;> rfl⟩
theorem IA (C : ck) : (∀ e d, DZ C (.slice e) (some d) = if (C.T e).ok = true ∧ d.wd = (C.T e).sz then some (.ref d) else none) ∧
  (∀ y q n e sz xs, vX C y q n (.slice e) (some (.aw sz xs)) = if (bM xs n).isSome = true ∧ (C.T e).ok = true ∧ sz = (C.T e).sz then some (.ax y (q ++ [n.toNat])) else none) ∧
  (∀ e s xs t, tW C (.slice e) s xs (some t) = if (C.T e).ok = true ∧ ∀ d ∈ xs, d.wd = (C.T e).sz then some (.slice t, s) else none) :=
 ⟨fun _ _ => rfl, fun _ _ _ _ _ _ => rfl, fun _ _ _ _ => rfl⟩
theorem IB : (∀ b, DX .bool b = some (.bool b)) ∧ (∀ c, DY .str (some c) = some (.int .u8 c.toNat)) ∧ (∀ s t, tV .str s (some t) = some (.str t, s)) ∧ (∀ q d, vY q (some d) = I.sub q d) :=
 ⟨fun _ => rfl, fun _ => rfl, fun _ _ => rfl, fun _ _ => rfl⟩
theorem IC (sz bytes : Nat) (z : I) : (∀ k, g8.ok ⟨.int k, sz, bytes, z⟩ = true) ∧ g8.ok ⟨.bool, sz, bytes, z⟩ = true ∧ g8.ok ⟨.str, sz, bytes, z⟩ = true ∧ (∀ e, g8.ok ⟨.ptr e, sz, bytes, z⟩ = true) ∧ (∀ e, g8.ok ⟨.slice e, sz, bytes, z⟩ = true) ∧ (∀ e, g8.ok ⟨.struct e, sz, bytes, z⟩ = true) ∧ g8.ok ⟨.fn, sz, bytes, z⟩ = true := by
 simp [g8.ok]
theorem ID (sz bytes : Nat) (z : I) : (∀ k, g8.flat ⟨.int k, sz, bytes, z⟩ = true) ∧ g8.flat ⟨.bool, sz, bytes, z⟩ = true ∧ g8.flat ⟨.str, sz, bytes, z⟩ = true ∧ (∀ e, g8.flat ⟨.ptr e, sz, bytes, z⟩ = true) ∧ (∀ e, g8.flat ⟨.slice e, sz, bytes, z⟩ = true) ∧ (∀ e, g8.flat ⟨.struct e, sz, bytes, z⟩ = false) ∧ g8.flat ⟨.fn, sz, bytes, z⟩ = true := by
 simp [g8.flat]
theorem vZ (c : UInt8) (k : IntKind) (aE : k ≠ .i8) : k.wrap (c.toNat : Int) = (c.toNat : Int) := by
 have := c.toNat_lt
 cases k <;> first | (exact (aE rfl).elim) | (simp [IntKind.wrap, IntKind.bits, IntKind.signed]; try omega)
theorem D2 (c : UInt8) : IntKind.i64.wrap (c.toNat : Int) = (c.toNat : Int) ∧ IntKind.u64.wrap (c.toNat : Int) = (c.toNat : Int) ∧ IntKind.u8.wrap (c.toNat : Int) = (c.toNat : Int) ∧ IntKind.i32.wrap (c.toNat : Int) = (c.toNat : Int) ∧ IntKind.u32.wrap (c.toNat : Int) = (c.toNat : Int) :=
 ⟨vZ c _ (by simp), vZ c _ (by simp), vZ c _ (by simp), vZ c _ (by simp), vZ c _ (by simp)⟩
theorem b1 {k : List Nat} {K : ar → Prop} (ei : List (Nat × I)) (h : ∀ P : List (Nat × I) → Prop, P ei → cv C (aa l) ros none (fun _ s => P (iv k s))) (aE : K (aa ei)) : cv C (aa l) ros none (fun _ s => K (aa (iv k s))) :=
 h (fun l => K (aa l)) aE
theorem gY {k : List Nat} {l0 : List (List Nat)} {K : ar → Prop} (ei : List (Nat × I)) (h : ∀ P : List (Nat × I) → Prop, P ei → cv C (aa l) ros (some []) (fun acc s => lE l0 0 [] (acc.getD []).reverse = true ∧ P (iv k s))) (aE : K (aa ei)) :
  cv C (aa l) ros (some []) (fun acc s => lE l0 0 [] (acc.getD []).reverse = true ∧ K (aa (iv k s))) :=
 h (fun l => K (aa l)) aE
theorem aR.QI (bB : C.fq) {f : FuncId} {fn : Func} {c : Code} {dD : R} {fx : List Nat} {as outs : List I} {r : I} (bH : C.P.funcs[f]? = some fn) (ae : fn.body = some c)
  (kU : (fn.name == "runtime.NumGoroutine") = false) (ah : bt ⟨fn.ntmps, fx⟩ c = some dD.strip) (bg : as.length ≤ fn.ntmps)
  (h : ∀ Q : Exit → ar → Prop, (∀ s, eE (Ends C fx fn.results.toList r outs) s → Q .ret s) → (∀ s, eE (Ends C fx fn.results.toList r outs) s → Q .normal s) → db C dD Q (aa (num 0 as))) (ax : dD.plain = true := by kernel_rfl) : aR C f as r outs := by
 refine aR.of_wp bB bH ae kU ah bg ?_ ax
 rw [y5]
 exact h _ (fun s h => ⟨.inr rfl, h⟩) (fun s h => ⟨.inl rfl, h⟩)
def QJ : List I → I
 | [d] => d
 | ds => .tuple ds
theorem aL {fx : List Nat} {gR : List ResultVar} {r : I} {outs : List I} (ds : List I) (ai : gR.map (qb C s) = ds.map some) (aj : r = QJ ds) (aQ : (gR.map jD).Nodup)
  (bd : ∀ (i : Nat) (o : I), outs[i]? = some o → o = .hole ∨ (o = s i ∧ o.gA = true ∧ i ∈ fx ∧ i ∉ gR.map jD)) : Ends C fx gR r outs s := ⟨ds, ai, by subst aj; cases ds with | nil => rfl | cons a t => cases t <;> rfl, aQ, bd⟩
theorem aM {fx : List Nat} {gR : List ResultVar} : ∀ (i : Nat) (o : I), ([] : List I)[i]? = some o → o = .hole ∨ (o = s i ∧ o.gA = true ∧ i ∈ fx ∧ i ∉ gR.map jD) := fun i o h => by simp at h
theorem IE : ∀ (as ds : List I), (lC as ds).filter (·.g) = []
 | [], _ => rfl
 | _ :: _, [] => rfl
 | a :: as, d :: ds => by simp only [lC, List.filter_cons]; exact IE as ds
theorem zc {f : aI} {args : List aI} {g : FuncId} {caps : List I} {K : List Nat → I → ar → Prop} (ds : List I) (r : I)
  (ai : aS (aa l) f = .fn g caps) (gf : I.dI caps = true) (i7 : views (aa l) (hX (aa l) args ++ caps) = some ds)
  (b3 : aR C g ds r []) (cG : r.res = true) (cp : I.ea (hX (aa l) args ++ caps) = [] ∨ r.cW = true) (i_ : K [] r (aa l)) : m9 C (aa l) (.call f args) K := by
 obtain ⟨a4, a_, a2, c1, c9, cl, cf⟩ := PY _ _ i7
 refine ⟨g, caps, lC (hX (aa l) args ++ caps) ds, r, ai, gf, by rw [a4, tw], fun p ax => (a2 p ax).1, c1, by rw [a_]; exact b3.outs c9.symm, cG, ?_, by rw [cl, cf, IE]; exact i_⟩
 intro hl
 refine ⟨?_, fun p ax => by rw [(a2 p ax).2.2.1]; rfl⟩
 rcases cp with cp | cp
 ·exfalso
  simp only [jx, List.any_eq_true] at hl
  obtain ⟨p, ax, gq⟩ := hl
  have hm := (a2 p ax).2.2.2
  have : p.a.ah = [] := by
   have key : ∀ (as : List I) (a : I), a ∈ as → I.ea as = [] → a.ah = [] := by
    intro as
    induction as with
    | nil => intro a h; cases h
    | cons b as ih =>
      intro a h he
      simp only [I.ea, List.append_eq_nil_iff] at he
      rcases List.mem_cons.1 h with rfl | h
      ·exact he.1
      ·exact ih a h he.2
   exact key _ _ hm cp
  rw [this] at gq; simp at gq
 ·exact cp
theorem ft {f : aI} {args : List aI} {g : FuncId} {caps : List I} {ds : List I} {r : I} (b3 : aR C g ds r [])
  (ai : aS (aa l) f = .fn g caps) (gf : I.dI caps = true) (i7 : views (aa l) (hX (aa l) args ++ caps) = some ds)
  (cG : r.res = true) (cp : I.ea (hX (aa l) args ++ caps) = [] ∨ r.cW = true)
  (i_ : cv C (fin (aa l) dst r) os none K) : cv C (aa l) (⟨dst, .call f args, none⟩ :: os) none K := by
 simp only [cv, my, oM]
 exact zc ds r ai gf i7 b3 cG cp i_
theorem iw {a : List fF} {f : aI} {args : List aI} {g : FuncId} {caps : List I} {ds : List I} {r : I} (b3 : aR C g ds r [])
  (ai : aS (aa l) f = .fn g caps) (gf : I.dI caps = true) (i7 : views (aa l) (hX (aa l) args ++ caps) = some ds)
  (cG : r.res = true) (cp : I.ea (hX (aa l) args ++ caps) = [] ∨ r.cW = true)
  (i_ : cv C (fin (aa l) dst r) os (some (iN (aa l) (use (aa l) (.call f args)) dst [] r :: a)) K) : cv C (aa l) (⟨dst, .call f args, none⟩ :: os) (some a) K := by
 simp only [cv, my, oM]
 exact zc ds r ai gf i7 b3 cG cp i_
theorem hy {t : Nat} {b : Bool} {f : aI} {args : List aI} {g : FuncId} {caps : List I} {ds : List I} {r : I} (b3 : aR C g ds r [])
  (ai : aS (aa l) f = .fn g caps) (gf : I.dI caps = true) (i7 : views (aa l) (hX (aa l) args ++ caps) = some ds)
  (cG : r.res = true) (cp : I.ea (hX (aa l) args ++ caps) = [] ∨ r.cW = true)
  (i_ : cv C (fin (aa l) dst r) os none K) : cD C l dst (.call f args) t b os none K (.bool b) := by
 simp only [cD, if_true]
 exact zc ds r ai gf i7 b3 cG cp i_
theorem l1 {a : List fF} {t : Nat} {b : Bool} {f : aI} {args : List aI} {g : FuncId} {caps : List I} {ds : List I} {r : I} (b3 : aR C g ds r [])
  (ai : aS (aa l) f = .fn g caps) (gf : I.dI caps = true) (i7 : views (aa l) (hX (aa l) args ++ caps) = some ds)
  (cG : r.res = true) (cp : I.ea (hX (aa l) args ++ caps) = [] ∨ r.cW = true)
  (i_ : cv C (fin (aa l) dst r) os (some (iN (aa l) (t :: use (aa l) (.call f args)) dst [] r :: a)) K) : cD C l dst (.call f args) t b os (some a) K (.bool b) := by
 simp only [cD, if_true]
 exact zc ds r ai gf i7 b3 cG cp i_
theorem hj (s : ar) : views s [] = some [] ∧ (∀ d ds, views s (d :: ds) = (match view s d, views s ds with | some a, some b => some (a :: b) | _, _ => none)) ∧
  (∀ k n, view s (.int k n) = some (.int k n)) ∧ (∀ b, view s (.bool b) = some (.bool b)) ∧ (∀ x, view s (.str x) = some (.str x)) ∧ (∀ x, view s (.slice x) = some (.slice x)) ∧ (∀ x, view s (.ref x) = some (.ref x)) ∧
  view s .bc = some .bc ∧ view s .dC = some .dC ∧ (∀ az, view s (.agg az) = some (.agg az)) ∧ (∀ f cap, view s (.fn f cap) = (views s cap).map (.fn f)) := by
 refine ⟨rfl, fun d ds => ?_, fun _ _ => rfl, fun _ => rfl, fun _ => rfl, fun _ => rfl, fun _ => rfl, rfl, rfl, fun _ => rfl, fun _ _ => by simp only [view]⟩
 simp only [views]; rfl
theorem cj {α : Type} {u e : α → I} (h : ∀ x, (u x).share = e x) (xs : List α) : I.shares (xs.map u) = xs.map e := by
 rw [I.qQ]; simp [h]
theorem kd {α : Type} {u : α → I} (h : ∀ x, (u x).cW = true) (xs : List α) : I.hx (xs.map u) = true := by
 induction xs with
 | nil => rfl
 | cons x xs ih => simp only [List.map_cons, I.hx, h, ih, Bool.and_self]
def qf (s : ar) (H : List Nat) : List (Nat × I) → Prop
 | [] => True
 | p :: l => (p.2 = s p.1 ∨ ((s p.1).tree = true ∧ fi (s p.1) p.2 ∧ p.1 ∉ H)) ∧ qf s H l
theorem oN {ei : List (Nat × I)} (H : List Nat) (mx : I.ea (ei.map (·.2)) = H) (h : qf s H ei) : rn s ei := by
 have key : ∀ (hP : List (Nat × I)), qf s H hP → ∀ p ∈ hP, p.2 = s p.1 ∨ ((s p.1).tree = true ∧ fi (s p.1) p.2 ∧ p.1 ∉ H) := by
  intro hP
  induction hP with
  | nil => intro _ p ax; cases ax
  | cons a hP ih =>
    intro h p ax
    rcases List.mem_cons.1 ax with rfl | ax
    ·exact h.1
    ·exact ih h.2 p ax
 have ah : ∀ (hP : List (Nat × I)), ∀ cz ∈ hP, ∀ u ∈ cz.2.ah, u ∈ I.ea (hP.map (·.2)) := by
  intro hP
  induction hP with
  | nil => intro p ax; cases ax
  | cons a hP ih =>
    intro p ax u hu
    simp only [List.map_cons, I.ea, List.mem_append]
    rcases List.mem_cons.1 ax with rfl | ax
    ·exact .inl hu
    ·exact .inr (ih p ax u hu)
 intro p ax
 rcases key _ h p ax with ai | ⟨ai, aj, aQ⟩
 ·exact .inl ai
 ·refine .inr ⟨ai, aj, fun cz eP => .inl fun hm => aQ ?_⟩
  rw [← mx]; exact ah ei cz eP _ hm
theorem oO {H : List Nat} : qf s H [] := trivial
theorem l3 {H : List Nat} {t : Nat} {d : I} {ei : List (Nat × I)} (h : d = s t) (hl : qf s H ei) : qf s H ((t, d) :: ei) := ⟨.inl h, hl⟩
theorem oP {H : List Nat} {t : Nat} {d bF : I} {ei : List (Nat × I)} (e : s t = d) (bh : d.tree = true) (al : fi d bF) (mx : t ∉ H) (hl : qf s H ei) : qf s H ((t, bF) :: ei) := ⟨.inr ⟨by rw [e]; exact bh, by rw [e]; exact al, mx⟩, hl⟩
theorem IF {a b : I} (h : fi a b) : ∀ n, jA (List.replicate n a) (List.replicate n b)
 | 0 => .nil
 | n + 1 => by simp only [List.replicate_succ]; exact .cons h (IF h n)
theorem zd {α : Type} {sz : Nat} {u : α → I} {z : α} {a : I} (h : fi a (u z)) (n : Nat) : fi (.aw sz (List.replicate n a)) (.aw sz ((List.replicate n z).map u)) := by
 rw [List.map_replicate]; exact .aw (IF h n)
end
theorem IG {C : ck} {A B : TypeId} {df : IntKind} (iK : (C.T A).ok = true) (hv : (C.T B).k = .int df) : ∀ s k n, fZ C s A B (.int k n) = some (.int df (df.wrap n)) := fun s k n => QG C s A B k df n iK hv
def IH : Option I → Option I
 | some (.aw 1 xs) => (bytesOf xs).map .str
 | _ => none
theorem II {C : ck} {A B e : TypeId} (iK : (C.T A).k = .slice e) (hv : (C.T B).k = .str) (he : (C.T e).k = .int .u8) :
  (∀ s xs, fZ C s A B (.slice xs) = (bytesOf xs).map .str) ∧ (∀ s, fZ C s A B .bc = some (.str [])) ∧ (∀ s x q, fZ C s A B (.h x q) = IH (I.sub q (s x))) := by
 have vr : (C.T A).ok = true := by simp [g8.ok, iK]
 refine ⟨fun s xs => ?_, fun s => ?_, fun s x q => ?_⟩
 ·simp only [fZ, vr, iK, hv, he, if_true]
 ·simp only [fZ, vr, iK, hv, he, if_true]
 ·simp only [fZ, vr, iK, hv, he, if_true]
  rfl
theorem IJ (xs : List I) : IH (some (.aw 1 xs)) = (bytesOf xs).map .str := rfl
theorem IK (c : UInt8) (r : List I) : bytesOf (ka c :: r) = (bytesOf r).map (c :: ·) := by
 have := c.toNat_lt
 simp only [ka, bytesOf]
 rw [if_pos (by omega)]
 simp
theorem IL : bytesOf [] = some [] ∧ (∀ l : List UInt8, bytesOf (l.map ka) = some l) ∧ (∀ (c : UInt8) r, bytesOf (.int .u8 (c.toNat : Int) :: r) = (bytesOf r).map (c :: ·)) ∧
  (∀ m r, bytesOf (.int .u8 (IntKind.u8.wrap m) :: r) = (bytesOf r).map (o_ m :: ·)) :=
 ⟨rfl, NP, fun c r => IK c r, fun m r => by rw [← Iu]; exact IK _ r⟩
theorem QK {k : IntKind} {b : Int} (h : b ≠ 0) : ∀ a, iJ .quo k a k b = some (.int k (k.wrap (a.tdiv b))) := fun _ => QD h
theorem IM {k : IntKind} {b : Int} (h : b ≠ 0) : ∀ a, iJ .rem k a k b = some (.int k (a.tmod b)) := fun _ => QE h
theorem k_ {α : Type} {e : α → I} {n : Nat} (h : ∀ x, (e x).wd = n) : ∀ xs : List α, (∀ d ∈ xs.map e, d.wd = n) = True := QF h
theorem all_cons {P : I → Prop} (d : I) (ds : List I) : (∀ x ∈ d :: ds, P x) = (P d ∧ ∀ x ∈ ds, P x) := by simp
theorem all_nil {P : I → Prop} : (∀ x ∈ ([] : List I), P x) = True := by simp
def IP (a b : List UInt8) : Option Unit → Option I
 | some _ => some (.str (a ++ b))
 | none => none
theorem ze (a b : List UInt8) : mo .add a b = IP a b (ow (a.length + b.length)) := by
 simp only [mo, ow]; split <;> rfl
theorem zf (a b : List UInt8) (u : Unit) : IP a b (some u) = some (.str (a ++ b)) := rfl
theorem IQ : (∀ l : List Nat, [] ++ l = l) ∧ (∀ a (l m : List Nat), (a :: l) ++ m = a :: (l ++ m)) := ⟨fun _ => rfl, fun _ _ _ => rfl⟩
def IU (C : ck) (e bO : TypeId) : Bool := (C.T e).ok && ((C.T e).zero.wd == (C.T e).sz) && (flat (C.T e).zero).isSome && yE C e bO
def zg (C : ck) (e : TypeId) (xs : List I) : Option (List I × ar) → Option (I × ar)
 | some (c7, s2) => if (∀ d ∈ c7, d.wd = (C.T e).sz) ∧ (room (C.T e).bytes (xs.length + c7.length)).isSome = true then some (.aw (C.T e).sz (xs ++ c7), s2) else none
 | none => none
def D3 (C : ck) (e : TypeId) (y : I) (o : Option Nat) : Option (I × ar) → Option (I × ar)
 | some (.aw sz xs, s1) => if sz = (C.T e).sz then zg C e xs (kQ s1 (j_ o y)) else none
 | _ => none
theorem QL (b n : Nat) : (room b n).isSome = true ↔ n * b ≤ 140737488355328 ∧ n ≤ 9223372036854775807 := by unfold room; split <;> simp_all
theorem nc {C : ck} {T bO e : TypeId} (kr : (C.T T).k = .slice e) (fL : IU C e bO = true) : ∀ s x y, lx C s T bO x y = D3 C e y x.owner (oH C e s x) := by
 intro s x y
 simp only [IU, Bool.and_eq_true, beq_iff_eq] at fL
 rw [De, kr]
 simp only
 rw [if_pos ⟨fL.1.1.1, fL.1.1.2, fL.1.2, fL.2⟩]
 generalize x.owner = o
 cases oH C e s x with
 | none => rfl
 | some p =>
   obtain ⟨d, s1⟩ := p
   cases d <;> first
    | rfl
    | (simp only [D3]
       split
       ·rename_i h; subst h
        generalize kQ s1 (j_ o y) = z
        cases z with
        | none => rfl
        | some p => simp only [zg, QL]
       ·rfl)
def IV : Option (I × ar) → Option (List I × ar)
 | some (.aw _ c7, s2) => some (c7, s2)
 | _ => none
theorem nd (s : ar) : kQ s .bc = some ([], s) ∧ (∀ c7, kQ s (.slice c7) = some (c7, s)) ∧ (∀ l, kQ s (.str l) = some (l.map ka, s)) ∧
  (∀ a q, kQ s (.h a q) = IV (cS s (.h a q))) ∧ (∀ n c7, IV (some (.aw n c7, s)) = some (c7, s)) :=
 ⟨rfl, fun _ => rfl, fun _ => rfl, fun _ _ => by simp only [kQ]; rfl, fun _ _ => rfl⟩
theorem nf (C : ck) (e : TypeId) : (∀ s, oH C e s .bc = some (.aw (C.T e).sz [], s)) ∧ (∀ s a q, oH C e s (.h a q) = cS s (.h a q)) ∧
  (∀ y o sz xs s1, D3 C e y o (some (.aw sz xs, s1)) = if sz = (C.T e).sz then zg C e xs (kQ s1 (j_ o y)) else none) ∧
  (∀ xs c7 s2, zg C e xs (some (c7, s2)) = if (∀ d ∈ c7, d.wd = (C.T e).sz) ∧ (room (C.T e).bytes (xs.length + c7.length)).isSome = true then some (.aw (C.T e).sz (xs ++ c7), s2) else none) :=
 ⟨fun _ => rfl, fun _ _ _ => rfl, fun _ _ _ _ _ => rfl, fun _ _ _ => rfl⟩
theorem ng : (∀ d, j_ none d = d) ∧ (∀ x d, j_ (some x) d = cc x d) ∧ (∀ x q, I.owner (.h x q) = some x) ∧ I.owner .bc = none :=
 ⟨fun _ => rfl, fun _ _ => rfl, fun _ _ => rfl, rfl⟩
def IW (s : ar) (x : Nat) (q : List Nat) : Option I → Option (I × ar)
 | some d => if d.plain = true then none else some (d, dt (iG x s) x (I.put q d.di (s x)))
 | none => none
theorem IX (s : ar) (x : Nat) (q : List Nat) : cS s (.h x q) = IW s x q (I.sub q (s x)) := by
 simp only [cS]; cases I.sub q (s x) <;> rfl
theorem IY (s : ar) : (∀ x q d, IW s x q (some d) = if d.plain = true then none else some (d, dt (iG x s) x (I.put q d.di (s x)))) ∧ (∀ k n, cS s (.int k n) = some (.int k n, s)) ∧ (∀ b, cS s (.bool b) = some (.bool b, s)) ∧ (∀ x, cS s (.str x) = some (.str x, s)) ∧
  (∀ x, cS s (.slice x) = some (.slice x, s)) ∧ (∀ x, cS s (.ref x) = some (.ref x, s)) ∧ (∀ x, cS s (.agg x) = some (.agg x, s)) ∧ cS s .bc = some (.bc, s) ∧ cS s .dC = some (.dC, s) :=
 ⟨fun _ _ _ => rfl, fun _ _ => rfl, fun _ => rfl, fun _ => rfl, fun _ => rfl, fun _ => rfl, fun _ => rfl, rfl, rfl⟩
theorem IZ (l : List (Nat × I)) (t : Nat) (d : I) : dt (aa l) t d = aa ((t, d) :: l) := kD l t d
theorem I0 : (∀ n x, I.di (.aw n x) = .hole) ∧ (∀ x, I.di (.a8 x) = .hole) ∧ (∀ az, I.di (.agg az) = .agg (I.kI az)) ∧ (∀ az, I.di (.tuple az) = .tuple (I.kI az)) ∧ I.kI [] = [] ∧ (∀ d ds, I.kI (d :: ds) = d.di :: I.kI ds) ∧
  (∀ k n, I.di (.int k n) = .int k n) ∧ (∀ b, I.di (.bool b) = .bool b) ∧ (∀ x, I.di (.str x) = .str x) ∧ (∀ x, I.di (.slice x) = .slice x) ∧ (∀ x, I.di (.ref x) = .ref x) ∧ I.di .bc = .bc ∧ I.di .dC = .dC ∧ I.di .hole = .hole := by
 simp [I.di, I.kI]
def rD : Option I → Option I
 | some d => (match d with | .tuple _ => none | d => if d.plain = true then none else some d.share)
 | none => none
def rE : Option I → Option I
 | some d => (match d with | .tuple _ => none | d => some (.ref d.share))
 | none => none
theorem hk (s : ar) (x : Nat) (q : List Nat) : view s (.h x q) = rD (I.sub q (s x)) ∧ view s (.ax x q) = (if I.fK q (s x) = true then rE (I.sub q (s x)) else none) := by
 constructor
 ·simp only [view]; rfl
 ·simp only [view]; rfl
theorem hn : (∀ n xs, rD (some (.aw n xs)) = some (.slice (I.shares xs))) ∧ (∀ d, rD (some (.a8 d)) = some (.ref d.share)) ∧ (∀ az, rD (some (.agg az)) = if I.dI az = true then none else some (.agg (I.shares az))) ∧
  (∀ az, rE (some (.agg az)) = some (.ref (.agg (I.shares az)))) ∧ (∀ k n, rE (some (.int k n)) = some (.ref (.int k n))) ∧ (∀ x, rE (some (.str x)) = some (.ref (.str x))) :=
 ⟨fun _ _ => by simp [rD, I.plain, I.share], fun _ => by simp [rD, I.plain, I.share], fun az => by cases h : I.dI az <;> simp [rD, I.plain, I.share, h], fun _ => by simp [rE, I.share], fun _ _ => by simp [rE, I.share], fun _ => by simp [rE, I.share]⟩
theorem dn : (∀ n xs, I.share (.aw n xs) = .slice (I.shares xs)) ∧ (∀ d, I.share (.a8 d) = .ref d.share) ∧ (∀ xs, I.share (.slice xs) = .slice (I.shares xs)) ∧ (∀ d, I.share (.ref d) = .ref d.share) ∧ (∀ az, I.share (.agg az) = .agg (I.shares az)) ∧ (∀ az, I.share (.tuple az) = .tuple (I.shares az)) ∧
  (∀ k n, I.share (.int k n) = .int k n) ∧ (∀ b, I.share (.bool b) = .bool b) ∧ (∀ x, I.share (.str x) = .str x) ∧ I.share .bc = .bc ∧ I.share .dC = .dC ∧ I.shares [] = [] ∧ (∀ d ds, I.shares (d :: ds) = d.share :: I.shares ds) := by
 simp [I.share, I.shares]
def rF (sz : Nat) : Option (List I × ar) → Option (I × ar)
 | some (ds, s1) => some (.aw sz ds, s1)
 | none => none
def rG : Option (List I × ar) → Option (I × ar)
 | some (ds, s1) => some (.agg ds, s1)
 | none => none
theorem tX {C : ck} {T e n sz : Nat} {eU : List I} (kr : (C.T T).k = .slice e) (e4 : (C.T e).sz = sz) (b7 : List.replicate n (C.T e).zero = eU)
  (fL : ((C.T e).ok && ((C.T e).zero.wd == sz) && (flat (C.T e).zero).isSome && (sz != 0) && decide (n * sz ≤ 16777216)) = true) : ∀ s ps, eD C s T n ps = rF sz (ew (fun k => some (k * sz, sz)) s eU [] ps) := by
 intro s ps
 subst e4
 simp only [Bool.and_eq_true, beq_iff_eq, bne_iff_ne, decide_eq_true_eq] at fL
 obtain ⟨⟨⟨⟨ai, aj⟩, aQ⟩, bd⟩, b3⟩ := fL
 unfold eD
 rw [kr]
 simp only
 rw [if_pos ⟨ai, aj, aQ, bd, b3⟩, b7]
 cases ew (fun k => some (k * (C.T e).sz, (C.T e).sz)) s eU [] ps <;> rfl
theorem tY {C : ck} {T : Nat} {az : List (TypeId × Nat)} {eU : List I} (kr : (C.T T).k = .struct az) (b7 : (C.T T).zero = .agg eU)
  (fL : ((flat (.agg eU)).isSome && az.all fun f => (C.T f.1).ok) = true) : ∀ s ps, fC C s T ps = rG (ew (fun k => (az[k]?).map fun f => (f.2, (C.T f.1).sz)) s eU [] ps) := by
 intro s ps
 simp only [Bool.and_eq_true, List.all_eq_true] at fL
 unfold fC
 rw [kr, b7]
 simp only
 rw [if_pos ⟨fL.1, fL.2⟩]
 cases ew (fun k => (az[k]?).map fun f => (f.2, (C.T f.1).sz)) s eU [] ps <;> rfl
def rH (place : Nat → Option (Nat × Nat)) (k : Nat) (eU : List I) (os : List (Option Nat)) (r : List (Nat × I)) (o : Option Nat) : Option (Nat × Nat) → Option I → Option (I × ar) → Option (List I × ar)
 | some (off, n), some z, some (d, s1) => (match d with
   | .tuple _ => none
   | d => if d.wd = n ∧ z.wd = n ∧ I.ez (eU.take k) = off then ew place s1 (eU.set k d) (os ++ [o]) r else none)
 | _, _, _ => none
theorem tZ (place : Nat → Option (Nat × Nat)) (s : ar) (eU : List I) (os : List (Option Nat)) : ew place s eU os [] = some (eU, s) ∧
  (∀ k a r, ew place s eU os ((k, a) :: r) = rH place k eU os r (ky os a).owner (place k) eU[k]? (cS s (ky os a))) := by
 refine ⟨rfl, fun k a r => ?_⟩
 simp only [ew]
 cases cS s (ky os a) with
 | none => cases place k <;> cases eU[k]? <;> rfl
 | some p =>
   obtain ⟨d, s1⟩ := p
   cases place k with
   | none => cases eU[k]? <;> rfl
   | some q => cases eU[k]? <;> (cases d <;> rfl)
theorem t_ : (∀ a, ky [] a = a) ∧ (∀ o os a, ky (o :: os) a = ky os (j_ o a)) := ⟨fun _ => rfl, fun _ _ _ => rfl⟩
theorem el : (∀ k n, I.owner (.int k n) = none) ∧ (∀ b, I.owner (.bool b) = none) ∧ (∀ x, I.owner (.str x) = none) ∧ (∀ x, I.owner (.slice x) = none) ∧ (∀ x, I.owner (.ref x) = none) ∧ (∀ x, I.owner (.agg x) = none) ∧ I.owner .dC = none ∧ I.owner .bc = none ∧ (∀ x q, I.owner (.h x q) = some x) :=
 ⟨fun _ _ => rfl, fun _ => rfl, fun _ => rfl, fun _ => rfl, fun _ => rfl, fun _ => rfl, rfl, rfl, fun _ _ => rfl⟩
end Go.dk
