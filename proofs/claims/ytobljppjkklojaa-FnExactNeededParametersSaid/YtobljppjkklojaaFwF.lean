/- Part of a proof that a law returns true for every input. No condition. -/
import Derived.Test.YtobljppjkklojaaFwE
import Derived.Orders
import Derived.KernelRfl
import Derived.Test.YtobljppjkklojaaFwA
namespace Go.Fw
section
variable {C : Cx} {w0 w : World} {F0 X : Nat → Prop} {n : Fr} {ρ : Nat → Value} {s s1 : St} {a : Act} {av : AV} {Q : Exit → Act → World → Prop}
def RO.un (o : RO) : RO := ⟨o.dst, o.so.base, o.guard⟩
theorem slimRs_get {ops : Array Oper} : ∀ {os : List Oper} {rs : List RO}, slimRs n ops os = some rs → os.length = rs.length ∧ ∀ (i : Nat) (o : Oper), os[i]? = some o → ∃ r, rs[i]? = some r ∧ slimR n ops o = some r := by
 intro os
 induction os with
 | nil => intro rs h; simp only [slimRs, Option.some.injEq] at h; subst h; exact ⟨rfl, fun i o h => by simp at h⟩
 | cons o os ih =>
   intro rs h
   simp only [slimRs] at h
   split at h
   ·rename_i r rs' h1 h2
    simp only [Option.some.injEq] at h; subst h
    obtain ⟨k1, k2⟩ := ih h2
    refine ⟨by simp [k1], fun i o' ho => ?_⟩
    cases i with
    | zero => simp at ho; subst ho; exact ⟨r, rfl, h1⟩
    | succ i => simpa using k2 i o' (by simpa using ho)
   ·cases h
theorem wanted_none {o : Oper} {y : Nat → Option Bool} (h : o.guard = none) : Region.wanted o y = true := by simp [Region.wanted, h]
theorem yielded_slot (h : Rel w0 F0 X n ρ s a w) {ops : Array Oper} {j t : Nat} (hj : (ops[j]?).bind (·.dst) = some t) :
  (∀ b, s t = .bool b → yielded ops a.tmps j = some b) ∧ (s t = .tuple [] → yielded ops a.tmps j = none) := by
 obtain ⟨hd, hs, hf, F, S, hr⟩ := h
 have hsv := hr.sv t
 refine ⟨fun b hb => ?_, fun hb => ?_⟩
 ·rw [hb] at hsv
  have hv := sv_bool hsv
  simp only [yielded, hj, Option.bind_some]
  rw [Array.getD_eq_getD_getElem?] at hv
  cases hg : a.tmps[t]? with
  | none => rw [hg] at hv; simp [undef] at hv
  | some v => rw [hg] at hv; simp at hv; subst hv; rfl
 ·rw [hb] at hsv
  obtain ⟨⟨arr, h1, h2⟩, _⟩ := (SV.of_tree (d := .tuple []) rfl).1 hsv
  simp only [yielded, hj, Option.bind_some]
  rw [Array.getD_eq_getD_getElem?] at h1
  cases hg : a.tmps[t]? with
  | none => rfl
  | some v => rw [hg] at h1; simp at h1; subst h1; rfl
theorem ops_soundG (hC : C.Ok) {ops : Array Oper} {ros : List RO} {l2 : List Nat} {K : St → Prop} (hn : ∀ s' a' w', K s' → Rel w0 F0 X n ρ s' a' w' → wpOps C.P ops Q l2 a' w') :
  ∀ (l : List Nat), (∀ i ∈ l, (ops[i]? = none → ros[i]? = none) ∧ ∀ o, ops[i]? = some o → ∃ r, ros[i]? = some r ∧ slimR n ops o = some r.un) →
  ∀ (s : St) (a : Act) (w : World), wpI C ros s l K → Rel w0 F0 X n ρ s a w → wpOps C.P ops Q (l ++ l2) a w := by
 intro l
 induction l with
 | nil => intro _ s a w h hr; exact hn s a w h hr
 | cons i l ih =>
   intro hget s a w h hr
   replace ih := ih fun i hi => hget i (List.mem_cons_of_mem _ hi)
   rw [List.cons_append]
   simp only [wpOps]
   cases ho : ops[i]? with
   | none =>
     simp only [wpI, (hget i (by simp)).1 ho] at h
     exact ih s a w h hr
   | some o =>
     obtain ⟨r, h1, h2⟩ := (hget i (by simp)).2 o ho
     simp only [wpI, h1] at h
     show (if Region.wanted o (yielded ops a.tmps) = true then o.wp C.P a w (wpOps C.P ops Q (l ++ l2)) Q ∨ (o.asks C.P a w ∧ LetsOut Q) else wpOps C.P ops Q (l ++ l2) (a.put o.dst undef) w)
     simp only [slimR] at h2
     split at h2
     ·rename_i hdst
      split at h2
      ·rename_i g hg
       obtain ⟨rd, so, rg⟩ := r
       simp only [RO.un, Option.some.injEq, RO.mk.injEq] at h2
       obtain ⟨rfl, hso, rfl⟩ := h2
       simp only [wpR] at h
       have run : ∀ (K' : St → Prop), (∀ s', K' s' → wpI C ros s' l K) → wpO C s so (fun av s1 => K' (fin s1 o.dst av)) → o.wp C.P a w (wpOps C.P ops Q (l ++ l2)) Q :=
        fun K' hK hw => op_sound hC hr hso hdst hw (fun s' a' w' hk hr' => ih s' a' w' (hK s' hk) hr')
       cases hog : o.guard with
       | none =>
         rw [hog] at hg
         simp only [slimG, Option.some.injEq] at hg; subst hg
         simp only at h
         rw [if_pos (wanted_none hog)]
         exact .inl (run _ (fun _ h => h) h)
       | some jb =>
         obtain ⟨j, b⟩ := jb
         rw [hog] at hg
         simp only [slimG] at hg
         split at hg
         ·rename_i t ht
          simp only [Option.some.injEq] at hg; subst hg
          simp only at h
          obtain ⟨y1, y2⟩ := yielded_slot hr ht
          have hskip : ∀ (K' : wpI C ros (fin s o.dst (.tuple [])) l K), wpOps C.P ops Q (l ++ l2) (a.put o.dst undef) w := fun K' => ih _ _ _ K' (Rel.skip hr hdst)
          split at h
          ·rename_i b' hs
           have hy := y1 b' hs
           split at h
           ·rename_i hb; subst hb
            rw [if_pos (by simp [Region.wanted, hog, hy])]
            exact .inl (run _ (fun _ h => h) h)
           ·rename_i hb
            rw [if_neg (by simp [Region.wanted, hog, hy, hb])]
            exact hskip h
          ·rename_i hs
           have hy := y2 hs
           rw [if_neg (by simp [Region.wanted, hog, hy])]
           exact hskip h
          ·exact h.elim
         ·cases hg
      ·cases h2
     ·cases h2
theorem ops_sound (hC : C.Ok) {ops : Array Oper} {ros : List RO} (hro : slimRs n ops ops.toList = some (ros.map RO.un)) {K : St → Prop} (hn : ∀ s' a' w', K s' → Rel w0 F0 X n ρ s' a' w' → Q .normal a' w') :
  ∀ (l : List Nat) (s : St) (a : Act) (w : World), wpI C ros s l K → Rel w0 F0 X n ρ s a w → wpOps C.P ops Q l a w := by
 obtain ⟨hl, hget⟩ := slimRs_get hro
 intro l s a w h hr
 have := ops_soundG (Q := Q) hC (ros := ros) (ops := ops) (l2 := []) (K := K) (n := n) (ρ := ρ) (w0 := w0) (F0 := F0) (X := X) (fun s' a' w' hk hr' => hn s' a' w' hk hr') l (fun i _ => ⟨fun ho => by
   rw [List.getElem?_eq_none_iff, ← List.length_map (f := RO.un), ← hl]
   have := Array.getElem?_eq_none_iff.1 ho
   simpa using this, fun o ho => by
   obtain ⟨r0, h10, h2⟩ := hget i o (by simpa using ho)
   obtain ⟨r, h1, rfl⟩ : ∃ r, ros[i]? = some r ∧ r.un = r0 := by simpa using h10
   exact ⟨r, h1, h2⟩⟩) s a w h hr
 rwa [List.append_nil] at this
theorem Rel.drawn (h : Rel w0 F0 X n ρ s a w) (k : Nat) : Rel w0 F0 X n ρ s a { w with drawn := k } := by
 obtain ⟨h1, h2, hf, F, S, h3⟩ := h
 exact ⟨h1, h2, hf, F, S, h3.grow (fun _ _ => rfl) (Nat.le_refl _) rfl rfl rfl⟩
theorem region_sound (hC : C.Ok) {id : Nat} {ops : Array Oper} {ros : List RO} (hro : slimRs n ops ops.toList = some (ros.map RO.un)) {K : St → Prop} (hn : ∀ s' a' w', K s' → Rel w0 F0 X n ρ s' a' w' → Q .normal a' w')
  (h : wpRs C s ros K) (hr : Rel w0 F0 X n ρ s a w) : (Code.region id ops false).wp C.P Q a w := by
 refine wp_region (ops_sound hC hro hn _ s a w ?_ hr)
 have := wpI_range C K ros [] s h
 have hl := (slimRs_get hro).1
 simp only [List.nil_append, List.length_nil, Nat.add_zero, List.map_id'] at this
 rw [List.length_map] at hl
 rw [← hl] at this
 simpa using this
end
def Lin (afters : List (List Nat)) (l : List Nat) : Prop :=
 l.Nodup ∧ (∀ i, i ∈ l ↔ i < afters.length) ∧ ∀ u i v, l = u ++ i :: v → ∀ e ∈ (afters[i]?).getD [], e ∈ u
def aftersOf (ops : Array Oper) : List (List Nat) := ops.toList.map fun o => (o.after.toList.filter fun e => Region.binds .any e).map (·.on)
def backB (afters : List (List Nat)) : Bool := afters.zipIdx.all fun p => p.1.all fun e => decide (e < p.2)
theorem backB_spec {afters : List (List Nat)} (h : backB afters = true) {i : Nat} {l : List Nat} (hi : afters[i]? = some l) : ∀ e ∈ l, e < i := by
 intro e he
 simp only [backB, List.all_eq_true] at h
 have := h (l, i) (by rw [List.mem_zipIdx_iff_getElem?]; exact hi) e he
 simpa using this
theorem lin_go {ops : Array Oper} (hb : backB (aftersOf ops) = true) : ∀ (fuel t : Nat) (listed : Array Bool), listed.size = ops.size → ((List.range ops.size).filter fun i => !listed.getD i true).length ≤ fuel →
  (Region.linearise.go .any ops fuel t listed []).Nodup ∧ (∀ i, i ∈ Region.linearise.go .any ops fuel t listed [] ↔ (i < ops.size ∧ listed.getD i true = false)) ∧
   ∀ u i v, Region.linearise.go .any ops fuel t listed [] = u ++ i :: v → ∀ e ∈ ((aftersOf ops)[i]?).getD [], listed.getD e false = true ∨ e ∈ u := by
 intro fuel
 induction fuel with
 | zero =>
   intro t listed hs hl
   have hnil : ((List.range ops.size).filter fun i => !listed.getD i true) = [] := List.length_eq_zero_iff.1 (Nat.le_zero.1 hl)
   refine ⟨by simp [Region.linearise.go], fun i => ?_, fun u i v h => by simp [Region.linearise.go] at h⟩
   simp only [Region.linearise.go, List.reverse_nil, List.not_mem_nil, false_iff, not_and]
   intro hi hf
   have : i ∈ ((List.range ops.size).filter fun i => !listed.getD i true) := List.mem_filter.2 ⟨List.mem_range.2 hi, by rw [hf]; rfl⟩
   rw [hnil] at this; cases this
 | succ fuel ih =>
   intro t listed hs hl
   have hready : ∀ i, i ∈ Region.ready .any ops listed ↔ (i < ops.size ∧ listed.getD i true = false ∧ ∀ e ∈ ((aftersOf ops)[i]?).getD [], listed.getD e false = true) := by
    intro i
    simp only [Region.ready, List.mem_filter, List.mem_range, Bool.and_eq_true, Bool.not_eq_true']
    constructor
    ·rintro ⟨h1, h2, h3⟩
     refine ⟨h1, h2, ?_⟩
     rw [Array.getElem?_eq_getElem h1] at h3
     simp only [Option.map_some, Option.getD_some, Array.all_eq_true_iff_forall_mem] at h3
     simp only [aftersOf, List.getElem?_map, Array.getElem?_toList, Array.getElem?_eq_getElem h1, Option.map_some, Option.getD_some, List.mem_map, List.mem_filter]
     rintro e ⟨x, ⟨hx, hbx⟩, rfl⟩
     have := h3 x (by simpa using hx)
     simpa [hbx] using this
    ·rintro ⟨h1, h2, h3⟩
     refine ⟨h1, h2, ?_⟩
     rw [Array.getElem?_eq_getElem h1]
     simp only [Option.map_some, Option.getD_some, Array.all_eq_true_iff_forall_mem]
     simp only [aftersOf, List.getElem?_map, Array.getElem?_toList, Array.getElem?_eq_getElem h1, Option.map_some, Option.getD_some, List.mem_map, List.mem_filter] at h3
     intro x hx
     cases hbx : Region.binds .any x with
     | false => simp
     | true => simpa using h3 x.on ⟨x, ⟨by simpa using hx, hbx⟩, rfl⟩
   have hex : (∃ i, i < ops.size ∧ listed.getD i true = false) → Region.ready .any ops listed ≠ [] := by
    rintro ⟨i, h1, h2⟩
    -- the least one not listed is ready
    have : ∃ i, (i < ops.size ∧ listed.getD i true = false) ∧ ∀ j, j < i → ¬ (j < ops.size ∧ listed.getD j true = false) := by
     induction i using Nat.strongRecOn with
     | _ i ihi =>
       by_cases hj : ∃ j, j < i ∧ (j < ops.size ∧ listed.getD j true = false)
       ·obtain ⟨j, hj1, hj2, hj3⟩ := hj
        exact ihi j hj1 hj2 hj3
       ·exact ⟨i, ⟨h1, h2⟩, fun j hji hc => hj ⟨j, hji, hc⟩⟩
    obtain ⟨k, ⟨k1, k2⟩, k3⟩ := this
    have : k ∈ Region.ready .any ops listed := (hready k).2 ⟨k1, k2, fun e he => by
     cases ha : (aftersOf ops)[k]? with
     | none => rw [ha] at he; simp at he
     | some l =>
       rw [ha] at he
       have hlt := backB_spec hb ha e he
       have := k3 e hlt
       rw [not_and] at this
       have := this (by omega)
       have he' : e < listed.size := by omega
       simp only [Array.getD_eq_getD_getElem?, Array.getElem?_eq_getElem he', Option.getD_some] at this ⊢
       simpa using this⟩
    intro e; rw [e] at this; cases this
   have hgo : Region.linearise.go .any ops (fuel + 1) t listed [] = (match (Region.ready .any ops listed)[t % (Region.ready .any ops listed).length]? with
    | some i => Region.linearise.go .any ops fuel (t / (Region.ready .any ops listed).length) (listed.setIfInBounds i true) [i]
    | none => []) := rfl
   cases hpick : (Region.ready .any ops listed)[t % (Region.ready .any ops listed).length]? with
   | none =>
     have hnil : Region.ready .any ops listed = [] := by
      cases hr : Region.ready .any ops listed with
      | nil => rfl
      | cons a l =>
        rw [hr] at hpick
        have := List.getElem?_eq_none_iff.1 hpick
        have h2 := Nat.mod_lt t (show 0 < (a :: l).length by simp)
        omega
     rw [hgo, hpick]
     refine ⟨by simp, fun i => ?_, fun u i v h => by simp at h⟩
     simp only [List.not_mem_nil, false_iff]
     intro hi
     exact hex ⟨i, hi⟩ hnil
   | some i =>
     have hi := (hready i).1 (List.mem_of_getElem? hpick)
     obtain ⟨hi1, hi2, hi3⟩ := hi
     rw [hgo, hpick]
     simp only
     rw [linearise_go_acc]
     simp only [List.reverse_singleton, List.singleton_append]
     have hset : ∀ j d, (listed.setIfInBounds i true).getD j d = if j = i then true else listed.getD j d := by
      intro j d
      split
      ·rename_i e; subst e
       simp [Array.getD_eq_getD_getElem?, Array.getElem?_setIfInBounds_self_of_lt (show j < listed.size by omega)]
      ·rename_i e
       simp [Array.getD_eq_getD_getElem?, Array.getElem?_setIfInBounds_ne (fun h => e h.symm)]
     obtain ⟨g1, g2, g3⟩ := ih (t / (Region.ready .any ops listed).length) (listed.setIfInBounds i true) (by simpa using hs) (by
      have hsub : ((List.range ops.size).filter fun j => !(listed.setIfInBounds i true).getD j true) = ((List.range ops.size).filter fun i => !listed.getD i true).filter fun j => decide (j ≠ i) := by
       rw [List.filter_filter]
       apply List.filter_congr
       intro j _
       rw [hset]
       by_cases e : j = i <;> simp [e]
      rw [hsub]
      have hlt : (((List.range ops.size).filter fun i => !listed.getD i true).filter fun j => decide (j ≠ i)).length < ((List.range ops.size).filter fun i => !listed.getD i true).length := by
       rw [List.length_filter_lt_length_iff_exists]
       exact ⟨i, List.mem_filter.2 ⟨List.mem_range.2 hi1, by rw [hi2]; rfl⟩, by simp⟩
      omega)
     refine ⟨?_, fun j => ?_, ?_⟩
     ·rw [List.nodup_cons]
      refine ⟨fun hm => ?_, g1⟩
      have := ((g2 i).1 hm).2
      rw [hset, if_pos rfl] at this; cases this
     ·rw [List.mem_cons, g2, hset]
      by_cases e : j = i
      ·subst e; simp [hi1, hi2]
      ·simp [e]
     ·intro u j v h e he
      cases u with
      | nil =>
        simp only [List.nil_append, List.cons.injEq] at h
        obtain ⟨rfl, rfl⟩ := h
        exact .inl (hi3 e he)
      | cons u0 u =>
        simp only [List.cons_append, List.cons.injEq] at h
        obtain ⟨rfl, h⟩ := h
        rcases g3 u j v h e he with h' | h'
        ·rw [hset] at h'
         split at h'
         ·rename_i e'; subst e'; exact .inr (by simp)
         ·exact .inl h'
        ·exact .inr (by simp [h'])
theorem lin_linearise {ops : Array Oper} (hb : backB (aftersOf ops) = true) (t : Nat) : Lin (aftersOf ops) (Region.linearise .any ops t) := by
 have hrep : ∀ i d, i < ops.size → (Array.replicate ops.size false).getD i d = false := by
  intro i d hi
  simp [Array.getD_eq_getD_getElem?, hi]
 obtain ⟨g1, g2, g3⟩ := lin_go hb ops.size t (Array.replicate ops.size false) (by simp) (by
  have := List.length_filter_le (fun i => !(Array.replicate ops.size false).getD i true) (List.range ops.size)
  simpa using this)
 have hlen : (aftersOf ops).length = ops.size := by simp [aftersOf]
 refine ⟨g1, fun i => ?_, fun u i v h e he => ?_⟩
 ·rw [hlen]
  rw [show Region.linearise .any ops t = Region.linearise.go .any ops ops.size t (Array.replicate ops.size false) [] from rfl, g2]
  exact ⟨fun h => h.1, fun h => ⟨h, hrep i true h⟩⟩
 ·rcases g3 u i v h e he with h' | h'
  ·exfalso
   by_cases hes : e < ops.size
   ·rw [hrep e false hes] at h'; cases h'
   ·simp [Array.getD_eq_getD_getElem?, hes] at h'
  ·exact h'
def stA : List (Nat × AV) → St
 | [], _ => .hole
 | (u, d) :: l, t => if t = u then d else stA l t
-- A wider description of the same cells.
mutual
inductive Wd : AV → AV → Prop
 | refl (d : AV) : Wd d d
 | nilsU (sz : Nat) : Wd .nils (.uslice sz [])
 | nilsS : Wd .nils (.slice [])
 | any (b : Bool) : Wd (.bool b) .anyb
 | share (d : AV) : d.tree = true → (∀ vs, d ≠ .tuple vs) → Wd d d.share
 | agg {ds es : List AV} : Wds ds es → Wd (.agg ds) (.agg es)
 | ubox {d e : AV} : Wd d e → Wd (.ubox d) (.ubox e)
 | uslice {sz : Nat} {ds es : List AV} : Wds ds es → Wd (.uslice sz ds) (.uslice sz es)
 | tuple {ds es : List AV} : Wds ds es → Wd (.tuple ds) (.tuple es)
 | ref {d e : AV} : Wd d e → Wd (.ref d) (.ref e)
 | trans {d e f : AV} : Wd d e → Wd e f → Wd d f
inductive Wds : List AV → List AV → Prop
 | nil : Wds [] []
 | cons {d e : AV} {ds es : List AV} : Wd d e → Wds ds es → Wds (d :: ds) (e :: es)
end
mutual
theorem Wd.wd : ∀ {d e : AV}, Wd d e → e.wd = d.wd
 | _, _, .refl _ => rfl
 | _, _, .nilsU _ => rfl
 | _, _, .nilsS => rfl
 | _, _, .any _ => rfl
 | _, _, .share d _ _ => AV.share_wd d
 | _, _, .agg h => by simp only [AV.wd]; exact Wds.wd h
 | _, _, .ubox _ => rfl
 | _, _, .uslice _ => rfl
 | _, _, .tuple h => by simp only [AV.wd]; exact Wds.wd h
 | _, _, .ref _ => rfl
 | _, _, .trans h k => (Wd.wd k).trans (Wd.wd h)
theorem Wds.wd : ∀ {ds es : List AV}, Wds ds es → AV.wds es = AV.wds ds
 | _, _, .nil => rfl
 | _, _, .cons h hs => by simp only [AV.wds]; rw [Wd.wd h, Wds.wd hs]
end
theorem Wds.len {ds es : List AV} (h : Wds ds es) : es.length = ds.length := by
 induction ds generalizing es with
 | nil => cases h; rfl
 | cons d ds ih => cases h with | cons h hs => simp [ih hs]
theorem Wds.all {sz : Nat} {ds es : List AV} (h : Wds ds es) (hd : ∀ d ∈ ds, d.wd = sz) : ∀ d ∈ es, d.wd = sz := by
 induction ds generalizing es with
 | nil => cases h; intro d hd; cases hd
 | cons d ds ih =>
   cases h with
   | cons h hs =>
     intro x hx
     rcases List.mem_cons.1 hx with rfl | hx
     ·rw [h.wd]; exact hd d (by simp)
     ·exact ih hs (fun d hm => hd d (by simp [hm])) x hx
section
variable {w0 w : World} {F0 X F : Nat → Prop} {S : Nat → Nat → Prop} {s s' : St} {tm : Nat → Value}
def WdOk (w : World) (F : Nat → Prop) (_d e : AV) (cs : List Value) (S : Nat → Prop) : Prop :=
 ∃ Sf Sr : Nat → Prop, (∀ b, Sf b → S b) ∧ (∀ b, Sr b → S b) ∧ (∀ b, Sr b → ¬ Sf b) ∧ ∀ F', (∀ b, F b ∨ Sf b → F' b) → RV w F' e cs Sr
mutual
theorem RV.wider : ∀ {d e : AV}, Wd d e → ∀ {F : Nat → Prop} {cs : List Value} {S : Nat → Prop}, RV w F d cs S → WdOk w F d e cs S
 | _, _, .refl _, F, cs, S, h => ⟨fun _ => False, S, fun _ h => h.elim, fun _ h => h, fun _ _ h => h, fun F' hF => RV.mono (fun b hb => hF b (.inl hb)) _ _ _ _ (fun _ h => h) h⟩
 | .nils, _, .nilsU sz, F, cs, S, h => ⟨fun _ => False, S, fun _ h => h.elim, fun _ h => h, fun _ _ h => h, fun F' hF => by simp only [RV] at h ⊢; exact .inl ⟨trivial, _, h⟩⟩
 | .nils, _, .nilsS, F, cs, S, h => ⟨fun _ => False, S, fun _ h => h.elim, fun _ h => h, fun _ _ h => h, fun F' hF => by simp only [RV] at h ⊢; exact .inl ⟨trivial, none, 0, h, Nat.zero_le _, fun _ => rfl⟩⟩
 | .bool _, _, .any b, F, cs, S, h => ⟨fun _ => False, S, fun _ h => h.elim, fun _ h => h, fun _ _ h => h, fun F' hF => by simp only [RV] at h ⊢; exact ⟨b, h⟩⟩
 | _, _, .share d _ _, F, cs, S, h => ⟨S, fun _ => False, fun _ h => h, fun _ h => h.elim, fun _ h => h.elim, fun F' hF => RV.shared (fun b hb => hF b (.inl hb)) d cs S (fun b hb => hF b (.inr hb)) h⟩
 | _, _, .agg hds, F, cs, S, h => by
   rw [RV] at h
   obtain ⟨Sf, Sr, h1, h2, h3, h4⟩ := RVs.wider hds h
   exact ⟨Sf, Sr, h1, h2, h3, fun F' hF => by rw [RV]; exact h4 F' hF⟩
 | _, _, .ubox hd, F, cs, S, h => by
   rw [RV] at h
   obtain ⟨b, cur, ty, fr, S', k1, k2, k3, k4, k5, k6, k7⟩ := h
   obtain ⟨Sf, Sr, h1, h2, h3, h4⟩ := RV.wider hd k5
   refine ⟨Sf, fun c => c = b ∨ Sr c, fun c hc => k6 c (h1 c hc), ?_, ?_, fun F' hF => ?_⟩
   ·rintro c (rfl | hc)
    ·exact k2
    ·exact k6 c (h2 c hc)
   ·rintro c (rfl | hc) hf
    ·exact k7 (h1 _ hf)
    ·exact h3 c hc hf
   ·rw [RV]
    exact ⟨b, cur, ty, fr, Sr, k1, .inl rfl, k3, k4, h4 F' hF, fun c hc => .inr hc, fun hc => k7 (h2 _ hc)⟩
 | .uslice sz ds, .uslice _ es, .uslice hds, F, cs, S, h => by
   rw [RV] at h
   have hl := hds.len
   rcases h with ⟨h1, h2⟩ | ⟨b, cap, cur, ty, fr, S', k1, k2, k3, k4, k5, k6, k7, k8, k9, k10, k11⟩
   ·refine ⟨fun _ => False, S, fun _ h => h.elim, fun _ h => h, fun _ _ h => h, fun F' _ => ?_⟩
    rw [RV]
    subst h1
    exact .inl ⟨List.length_eq_zero_iff.1 (by simpa using hl), h2⟩
   ·obtain ⟨Sf, Sr, h1, h2, h3, h4⟩ := RVs.wider hds k9
    refine ⟨Sf, fun c => c = b ∨ Sr c, fun c hc => k10 c (h1 c hc), ?_, ?_, fun F' hF => ?_⟩
    ·rintro c (rfl | hc)
     ·exact k2
     ·exact k10 c (h2 c hc)
    ·rintro c (rfl | hc) hf
     ·exact k11 (h1 _ hf)
     ·exact h3 c hc hf
    ·rw [RV]
     refine .inr ⟨b, cap, cur, ty, fr, Sr, by rw [hl]; exact k1, .inl rfl, k3, k4, by rw [hl]; exact k5, k6, k7, hds.all k8, by rw [hl]; exact h4 F' hF, fun c hc => .inr hc, fun hc => k11 (h2 _ hc)⟩
 | _, _, .tuple hds, F, cs, S, h => by
   rw [RV] at h
   obtain ⟨Sf, Sr, h1, h2, h3, h4⟩ := RVs.wider hds h
   exact ⟨Sf, Sr, h1, h2, h3, fun F' hF => by rw [RV]; exact h4 F' hF⟩
 | _, _, .ref hd, F, cs, S, h => by
   rw [RV] at h
   obtain ⟨b, o, ecs, h1, h2, h3, h4⟩ := h
   obtain ⟨Sf, Sr, k1, k2, k3, k4⟩ := RV.wider hd h4
   refine ⟨fun _ => False, S, fun _ h => h.elim, fun _ h => h, fun _ _ h => h, fun F' hF => ?_⟩
   rw [RV]
   exact ⟨b, o, ecs, h1, hF _ (.inl h2), h3, RV.mono (fun _ h => h) _ _ _ _ (fun b hb => k2 b hb) (k4 F' fun b hb => hF b (hb.imp id fun h => (k1 b h).elim))⟩
 | _, _, .trans hd he, F, cs, S, h => by
   obtain ⟨Sf, Sr, h1, h2, h3, h4⟩ := RV.wider hd h
   obtain ⟨Sf2, Sr2, k1, k2, k3, k4⟩ := RV.wider he (F := fun b => F b ∨ Sf b) (h4 _ fun _ h => h)
   refine ⟨fun b => Sf b ∨ Sf2 b, Sr2, ?_, fun b hb => h2 b (k2 b hb), ?_, fun F' hF => k4 F' fun b hb => ?_⟩
   ·rintro b (h | h)
    ·exact h1 b h
    ·exact h2 b (k1 b h)
   ·rintro b hb (h | h)
    ·exact h3 b (k2 b hb) h
    ·exact k3 b hb h
   ·rcases hb with (hb | hb) | hb
    ·exact hF b (.inl hb)
    ·exact hF b (.inr (.inl hb))
    ·exact hF b (.inr (.inr hb))
theorem RVs.wider : ∀ {ds es : List AV}, Wds ds es → ∀ {F : Nat → Prop} {cs : List Value} {S : Nat → Prop}, RVs w F ds cs S →
  ∃ Sf Sr : Nat → Prop, (∀ b, Sf b → S b) ∧ (∀ b, Sr b → S b) ∧ (∀ b, Sr b → ¬ Sf b) ∧ ∀ F', (∀ b, F b ∨ Sf b → F' b) → RVs w F' es cs Sr
 | _, _, .nil, F, cs, S, h => ⟨fun _ => False, fun _ => False, fun _ h => h.elim, fun _ h => h.elim, fun _ h => h.elim, fun F' hF => by rw [RVs] at h ⊢; exact h⟩
 | _, _, .cons hd hds, F, cs, S, h => by
   rw [RVs] at h
   obtain ⟨c1, c2, S1, S2, rfl, g2, g3, g4, g5, g6⟩ := h
   obtain ⟨Sf1, Sr1, a1, a2, a3, a4⟩ := RV.wider hd g2
   obtain ⟨Sf2, Sr2, b1, b2, b3, b4⟩ := RVs.wider hds g3
   refine ⟨fun b => Sf1 b ∨ Sf2 b, fun b => Sr1 b ∨ Sr2 b, ?_, ?_, ?_, fun F' hF => ?_⟩
   ·rintro b (h | h)
    ·exact g4 b (a1 b h)
    ·exact g5 b (b1 b h)
   ·rintro b (h | h)
    ·exact g4 b (a2 b h)
    ·exact g5 b (b2 b h)
   ·rintro b (h | h) (h' | h')
    ·exact a3 b h h'
    ·exact g6 b (a2 b h) (b1 b h')
    ·exact g6 b (a1 b h') (b2 b h)
    ·exact b3 b h h'
   ·rw [RVs]
    refine ⟨c1, c2, Sr1, Sr2, rfl, a4 F' (fun b hb => hF b (hb.imp id .inl)), b4 F' (fun b hb => hF b (hb.imp id .inr)), fun b hb => .inl hb, fun b hb => .inr hb, fun b h1 h2 => g6 b (a2 b h1) (b2 b h2)⟩
end
theorem Wd.nt : ∀ {d e : AV}, Wd d e → (∀ vs, d ≠ .tuple vs) → ∀ vs, e ≠ .tuple vs
 | _, _, .refl _, h => h
 | _, _, .nilsU _, _ => fun _ h => by cases h
 | _, _, .nilsS, _ => fun _ h => by cases h
 | _, _, .any _, _ => fun _ h => by cases h
 | _, _, .share d _ _, h => fun vs he => by cases d <;> first | (cases he; done) | exact h _ rfl
 | _, _, .agg _, _ => fun _ h => by cases h
 | _, _, .ubox _, _ => fun _ h => by cases h
 | _, _, .uslice _, _ => fun _ h => by cases h
 | _, _, .tuple _, h => fun _ _ => h _ rfl
 | _, _, .ref _, _ => fun _ h => by cases h
 | _, _, .trans h k, hn => Wd.nt k (Wd.nt h hn)
theorem Wd.shp1 : ∀ {d e : AV} {v : Value}, Wd d e → (∀ vs, d ≠ .tuple vs) → Fw.shp1 d v → Fw.shp1 e v
 | _, _, _, .refl _, _, h => h
 | _, _, _, .nilsU _, _, h => h
 | _, _, _, .nilsS, _, h => h
 | _, _, _, .any _, _, h => h
 | _, _, _, .share d _ hn, _, h => by cases d <;> first | exact h | exact (hn _ rfl).elim
 | _, _, _, .agg _, _, h => h
 | _, _, _, .ubox _, _, h => h
 | _, _, _, .uslice _, _, h => h
 | _, _, _, .tuple _, hn, _ => (hn _ rfl).elim
 | _, _, _, .ref _, _, h => h
 | _, _, _, .trans h k, hn, hs => Wd.shp1 k (Wd.nt h hn) (Wd.shp1 h hn hs)
theorem Wds.get : ∀ {ds es : List AV}, Wds ds es → ∀ (k : Nat) (e : AV), es[k]? = some e → ∃ d, ds[k]? = some d ∧ Wd d e
 | _, _, .nil, k, e, h => by simp at h
 | _, _, .cons hd hs, 0, e, h => by simp at h; subst h; exact ⟨_, rfl, hd⟩
 | _, _, .cons hd hs, k + 1, e, h => Wds.get hs k e (by simpa using h)
theorem Wd.shp : ∀ {d e : AV} {v : Value}, Wd d e → Fw.shp d v → Fw.shp e v
 | _, _, _, .refl _, hs => hs
 | _, _, _, .nilsU _, hs => hs
 | _, _, _, .nilsS, hs => hs
 | _, _, _, .any _, hs => hs
 | _, _, _, .share _ _ hnt, hs => shp_share hnt hs
 | _, _, _, .agg _, hs => hs
 | _, _, _, .ubox _, hs => hs
 | _, _, _, .uslice _, hs => hs
 | _, _, _, .ref _, hs => hs
 | _, _, _, .tuple hd, hs => by
   obtain ⟨arr, h1, h2, h3⟩ := hs
   refine ⟨arr, h1, h2.trans hd.len.symm, fun k e x he hx => ?_⟩
   obtain ⟨d, hk, hw⟩ := hd.get k e he
   obtain ⟨a1, a2, a3⟩ := h3 k d x hk hx
   exact ⟨hw.shp1 a2 a1, hw.nt a2, a3.trans hw.wd.symm⟩
 | _, _, _, .trans h k, hs => Wd.shp k (Wd.shp h hs)
theorem Wd.tree : ∀ {d e : AV}, Wd d e → d.tree = true → e.tree = true
 | _, _, .refl _, hd => hd
 | _, _, .nilsU _, _ => rfl
 | _, _, .nilsS, _ => rfl
 | _, _, .any _, _ => rfl
 | _, _, .share d _ _, hd => by cases d <;> first | exact hd | rfl
 | _, _, .agg _, _ => rfl
 | _, _, .ubox _, _ => rfl
 | _, _, .uslice _, _ => rfl
 | _, _, .tuple _, _ => rfl
 | _, _, .ref _, _ => rfl
 | _, _, .trans h k, hd => Wd.tree k (Wd.tree h hd)
-- The slots that are named by more than the slot alone.
mutual
def AV.dhs : AV → List Nat
 | .h x q => if q.isEmpty then [] else [x]
 | .hp x _ => [x]
 | .hb x _ => [x]
 | .fn _ cap => AV.dhss cap
 | _ => []
def AV.dhss : List AV → List Nat
 | [] => []
 | d :: ds => d.dhs ++ AV.dhss ds
end
def Stays (s s' : St) (x : Nat) (D : List Nat) : Prop := s' x = s x ∨ s' x = .hole ∨ ((s x).own = true ∧ (s' x).own = true ∧ x ∉ D)
theorem Stays.less {s s' : St} {x : Nat} {D E : List Nat} (h : Stays s s' x D) (hE : ∀ u ∈ E, u ∈ D) : Stays s s' x E := by
 rcases h with h | h | ⟨h1, h2, h3⟩
 ·exact .inl h
 ·exact .inr (.inl h)
 ·exact .inr (.inr ⟨h1, h2, fun hx => h3 (hE x hx)⟩)
theorem SV.keep {F' : Nat → Prop} (hF : ∀ b, F b → F' b) : ∀ n, (∀ (d : AV) (v : Value) (S0 : Nat → Prop), SizeOf.sizeOf d ≤ n → (∀ x ∈ d.hs, Stays s s' x d.dhs) → SV w F s tm d v S0 → SV w F' s' tm d v S0) ∧
  (∀ (ds : List AV) (vs : List Value), SizeOf.sizeOf ds ≤ n → (∀ x ∈ AV.hss ds, Stays s s' x (AV.dhss ds)) → SVs w F s tm ds vs → SVs w F' s' tm ds vs) := by
 intro n
 induction n with
 | zero =>
   refine ⟨fun d v S0 hz => ?_, fun ds vs hz => ?_⟩
   ·cases d <;> simp at hz <;> omega
   ·cases ds <;> simp at hz <;> omega
 | succ n ih =>
   refine ⟨fun d v S0 hz hk h => ?_, fun ds vs hz hk h => ?_⟩
   ·cases d with
    | hole => rw [SV]; trivial
    | h x q =>
      rw [SV] at h ⊢
      intro e hsub hp
      rcases hk x (by simp [AV.hs]) with he | he | ⟨he1, he2, he3⟩
      ·rw [he] at hsub ⊢; exact h e hsub hp
      ·rw [he] at hsub
       cases q with
       | nil => simp only [AV.sub, Option.some.injEq] at hsub; subst hsub; simp [AV.plain] at hp
       | cons k q => simp [AV.sub] at hsub
      ·cases q with
       | nil =>
         simp only [AV.sub, Option.some.injEq] at hsub
         subst hsub
         obtain ⟨dcs, a0, p1, p2, p3⟩ := h (s x) (by simp only [AV.sub]) (own_spec he1).1
         simp only [fol, Option.some.injEq, Prod.mk.injEq, true_and] at p1
         exact ⟨vc (tm x), none, by simp only [fol], by rw [p2, ← p1.1], ((own_spec he2).2.2.2.2.2 _).2 (((own_spec he1).2.2.2.2.2 _).1 p3)⟩
       | cons k q => exact (he3 (by simp [AV.dhs])).elim
    | hp x q =>
      rw [SV] at h ⊢
      intro e hsub hc
      rcases hk x (by simp [AV.hs]) with he | he | ⟨_, _, he3⟩
      ·rw [he] at hsub hc ⊢; exact h e hsub hc
      ·rw [he] at hc
       cases q <;> simp [AV.cross] at hc
      ·exact (he3 (by simp [AV.dhs])).elim
    | hb x k =>
      rw [SV] at h ⊢
      intro hp
      rcases hk x (by simp [AV.hs]) with he | he | ⟨_, _, he3⟩
      rotate_left 2
      ·exact (he3 (by simp [AV.dhs])).elim
      ·rw [he] at hp
       obtain ⟨b, cur, e, fr, h1, h2, h3, h4⟩ := h hp
       exact ⟨b, cur, e, fr, h1, hF b h2, h3, h4⟩
      ·rw [he] at hp; simp [AV.plain] at hp
    | fn f cap =>
      rw [SV] at h ⊢
      obtain ⟨arr, rfl, hc⟩ := h
      exact ⟨arr, rfl, ih.2 _ _ (by simp at hz; omega) (by simpa [AV.hs, AV.dhs] using hk) hc⟩
    | _ =>
      have h' := (SV.of_tree rfl).1 h
      exact (SV.of_tree rfl).2 ⟨h'.1, RV.mono hF _ _ _ _ (fun _ h => h) h'.2⟩
   ·cases ds with
    | nil => rw [SVs] at h ⊢; exact h
    | cons d ds =>
      rw [SVs] at h ⊢
      obtain ⟨v, vs', rfl, h1, h2⟩ := h
      simp at hz
      simp only [AV.hss, List.mem_append] at hk
      exact ⟨v, vs', rfl, ih.1 _ _ _ (by omega) (fun x hx => (hk x (.inl hx)).less fun u hu => by simp [AV.dhss, hu]) h1, ih.2 _ _ (by omega) (fun x hx => (hk x (.inr hx)).less fun u hu => by simp [AV.dhss, hu]) h2⟩
def WeakL (s : St) (l : List (Nat × AV)) : Prop :=
 ∀ p ∈ l, p.2 = s p.1 ∨ ((s p.1).tree = true ∧ Wd (s p.1) p.2 ∧ ∀ p' ∈ l, p.1 ∉ p'.2.hs ∨ ((s p.1).own = true ∧ p.2.own = true ∧ p.1 ∉ p'.2.dhs))
theorem stA_spec : ∀ (l : List (Nat × AV)) (t : Nat), stA l t = .hole ∨ ∃ p ∈ l, p.1 = t ∧ stA l t = p.2 := by
 intro l
 induction l with
 | nil => intro t; exact .inl rfl
 | cons p l ih =>
   intro t
   obtain ⟨u, d⟩ := p
   simp only [stA]
   split
   ·rename_i e; exact .inr ⟨(u, d), by simp, e.symm, rfl⟩
   ·rcases ih t with h | ⟨p, hp, h⟩
    ·exact .inl h
    ·exact .inr ⟨p, by simp [hp], h⟩
theorem RelX.weak (h : RelX w0 F0 X F S s tm w) {l : List (Nat × AV)} (hw : WeakL s l) : ∃ F' S', RelX w0 F0 X F' S' (stA l) tm w := by
 have each : ∀ t, ∃ Sf Sr : Nat → Prop, (∀ b, Sf b → S t b) ∧ (∀ b, Sr b → S t b) ∧ (∀ b, Sr b → ¬ Sf b) ∧ ∀ F', (∀ b, F b ∨ Sf b → F' b) → SV w F' (stA l) tm (stA l t) (tm t) Sr := by
  intro t
  rcases stA_spec l t with e | ⟨p, hp, rfl, e⟩
  ·exact ⟨fun _ => False, fun _ => False, fun _ h => h.elim, fun _ h => h.elim, fun _ h => h.elim, fun F' _ => by rw [e, SV]; trivial⟩
  ·rw [e]
   rcases hw p hp with hk | ⟨ht, hwd, _⟩
   ·refine ⟨fun _ => False, S p.1, fun _ h => h.elim, fun _ h => h, fun _ _ h => h, fun F' hF => ?_⟩
    rw [hk]
    refine (SV.keep (fun b hb => hF b (.inl hb)) (SizeOf.sizeOf (s p.1))).1 _ _ _ (Nat.le_refl _) ?_ (h.sv p.1)
    intro x hx
    rcases stA_spec l x with e' | ⟨p', hp', rfl, e'⟩
    ·exact .inr (.inl e')
    ·rcases hw p' hp' with hk' | ⟨_, _, hno⟩
     ·exact .inl (e'.trans hk')
     ·rcases hno p hp with hno | ⟨o1, o2, o3⟩
      ·exact (hno (by rw [hk]; exact hx)).elim
      ·exact .inr (.inr ⟨o1, by rw [e']; exact o2, by rw [hk] at o3; exact o3⟩)
   ·obtain ⟨g1, g2⟩ := (SV.of_tree ht).1 (h.sv p.1)
    obtain ⟨Sf, Sr, k1, k2, k3, k4⟩ := RV.wider hwd g2
    exact ⟨Sf, Sr, k1, k2, k3, fun F' hF => (SV.of_tree (hwd.tree ht)).2 ⟨hwd.shp g1, k4 F' hF⟩⟩
 have c1 := fun t => (each t).choose_spec
 let Sf := fun t => (each t).choose
 have c2 := fun t => (c1 t).choose_spec
 let Sr := fun t => (c1 t).choose
 have q1 : ∀ t b, Sf t b → S t b := fun t => (c2 t).1
 have q2 : ∀ t b, Sr t b → S t b := fun t => (c2 t).2.1
 have q3 : ∀ t b, Sr t b → ¬ Sf t b := fun t => (c2 t).2.2.1
 have q4 := fun t => (c2 t).2.2.2
 refine ⟨fun b => F b ∨ ∃ t, Sf t b, Sr, fun b hb => .inl (h.F0F b hb), ?_, ?_, fun t b hb => h.Slt t b (q2 t b hb), ?_, fun t u b hne hb hu => h.SS t u b hne (q2 t b hb) (q2 u b hu), fun t b hb => h.S0 t b (q2 t b hb), ?_, h.old, h.size, h.os, h.tape, h.output⟩
 ·rintro b (hb | ⟨t, hb⟩)
  ·exact h.FF0 b hb
  ·exact .inr (h.S0 t b (q1 t b hb))
 ·rintro b (hb | ⟨t, hb⟩)
  ·exact h.Flt b hb
  ·exact h.Slt t b (q1 t b hb)
 ·rintro t b hb (hf | ⟨u, hu⟩)
  ·exact h.SF t b (q2 t b hb) hf
  ·by_cases e : t = u
   ·subst e; exact q3 t b hb hu
   ·exact h.SS t u b e (q2 t b hb) (q1 u b hu)
 ·intro t
  exact q4 t _ (fun b hb => hb.imp id fun h => ⟨t, h⟩)
end
inductive SC where
 | skip
 | reg (ros : List RO) (keep : Option (List Nat))
 | drw (ros : List RO) (afters : List (List Nat)) (keep : Option (List Nat))
 | seq (a b : SC)
 | cond (c : SX) (a b : SC)
 | block (id : Nat) (b : SC)
 | loop (b : SC)
 | exit (id : Nat)
 | ret
 | cus (T : (Exit → St → Prop) → St → Prop) (b : SC)
def slimC (n : Fr) : Code → Option SC
 | .skip => some .skip
 | .region _ ops false => (slimRs n ops ops.toList).map fun r => .reg r none
 | .region _ ops true => if backB (aftersOf ops) = true then (slimRs n ops ops.toList).map fun r => .drw r (aftersOf ops) none else none
 | .seq a b => match slimC n a, slimC n b with
   | some a, some b => some (.seq a b)
   | _, _ => none
 | .cond c a b => match slimX c, slimC n a, slimC n b with
   | some c, some a, some b => some (.cond c a b)
   | _, _, _ => none
 | .block id b => (slimC n b).map (.block id)
 | .loop b => (slimC n b).map .loop
 | .exit id => some (.exit id)
 | .ret => some .ret
 | _ => none
def SC.unkeep : SC → SC
 | .reg ros _ => .reg ros none
 | .drw ros af _ => .drw ros af none
 | .seq a b => .seq a.unkeep b.unkeep
 | .cond c a b => .cond c a.unkeep b.unkeep
 | .block id b => .block id b.unkeep
 | .loop b => .loop b.unkeep
 | .cus T b => .cus T b.unkeep
 | c => c
def SC.strip : SC → SC
 | .reg ros _ => .reg (ros.map RO.un) none
 | .drw ros af _ => .drw (ros.map RO.un) af none
 | .seq a b => .seq a.strip b.strip
 | .cond c a b => .cond c a.strip b.strip
 | .block id b => .block id b.strip
 | .loop b => .loop b.strip
 | .cus _ b => b.strip
 | c => c
theorem SC.strip_unkeep : ∀ c : SC, c.unkeep.strip = c.strip := by
 intro c
 induction c with
 | seq a b iha ihb => simp only [SC.unkeep, SC.strip, iha, ihb]
 | cond c a b iha ihb => simp only [SC.unkeep, SC.strip, iha, ihb]
 | block id b ih => simp only [SC.unkeep, SC.strip, ih]
 | loop b ih => simp only [SC.unkeep, SC.strip, ih]
 | cus T b ih => simp only [SC.unkeep, SC.strip, ih]
 | _ => rfl
def SC.bare (H : ((Exit → St → Prop) → St → Prop) → SC → Prop) : SC → Prop
 | .reg _ k => k = none
 | .drw _ _ k => k = none
 | .seq a b => a.bare H ∧ b.bare H
 | .cond _ a b => a.bare H ∧ b.bare H
 | .block _ b => b.bare H
 | .loop b => b.bare H
 | .cus T b => H T b
 | _ => True
def SC.hook (H : ((Exit → St → Prop) → St → Prop) → SC → Prop) : SC → Prop
 | .seq a b => a.hook H ∧ b.hook H
 | .cond _ a b => a.hook H ∧ b.hook H
 | .block _ b => b.hook H
 | .loop b => b.hook H
 | .cus T b => H T b.unkeep
 | _ => True
theorem SC.bare_unkeep {H : ((Exit → St → Prop) → St → Prop) → SC → Prop} : ∀ c : SC, c.hook H → c.unkeep.bare H := by
 intro c
 induction c with
 | seq a b iha ihb => intro h; exact ⟨iha h.1, ihb h.2⟩
 | cond c a b iha ihb => intro h; exact ⟨iha h.1, ihb h.2⟩
 | block id b ih => intro h; exact ih h
 | loop b ih => intro h; exact ih h
 | reg => intro _; rfl
 | drw => intro _; rfl
 | cus T b _ => intro h; exact h
 | _ => intro _; trivial
def SC.plain : SC → Bool
 | .seq a b => a.plain && b.plain
 | .cond _ a b => a.plain && b.plain
 | .block _ b => b.plain
 | .loop b => b.plain
 | .cus _ _ => false
 | _ => true
theorem SC.plain_hook {H : ((Exit → St → Prop) → St → Prop) → SC → Prop} : ∀ c : SC, c.plain = true → c.hook H := by
 intro c
 induction c with
 | seq a b iha ihb => intro h; simp only [SC.plain, Bool.and_eq_true] at h; exact ⟨iha h.1, ihb h.2⟩
 | cond c a b iha ihb => intro h; simp only [SC.plain, Bool.and_eq_true] at h; exact ⟨iha h.1, ihb h.2⟩
 | block id b ih => intro h; exact ih h
 | loop b ih => intro h; exact ih h
 | cus T b _ => intro h; cases h
 | _ => intro _; trivial
def andThen (K : St → Prop) (Q : Exit → St → Prop) : Exit → St → Prop
 | .normal, s => K s
 | e, s => Q e s
def inBlk (id : Nat) (Q : Exit → St → Prop) : Exit → St → Prop
 | .exit i, s => if i = id then Q .normal s else Q (.exit i) s
 | e, s => Q e s
def onW (K : St → Prop) (s : St) : Prop := K s ∨ ∃ l, WeakL s l ∧ K (stA l)
def kp : Option (List Nat) → (St → Prop) → St → Prop
 | none, K, s => onW K s
 | some k, K, s => K (stA (k.map fun t => (t, s t)))
def wpC (C : Cx) : SC → (Exit → St → Prop) → St → Prop
 | .skip, Q, s => Q .normal s
 | .reg ros keep, Q, s => wpRs C s ros (kp keep (Q .normal))
 | .drw ros afters keep, Q, s => ∀ l, Lin afters l → wpI C ros s l (kp keep (Q .normal))
 | .seq a b, Q, s => wpC C a (andThen (onW (wpC C b Q)) Q) s
 | .cond c a b, Q, s => match ev s c with
   | .bool b' => if b' = true then wpC C a Q s else wpC C b Q s
   | .anyb => wpC C a Q s ∧ wpC C b Q s
   | _ => False
 | .block id b, Q, s => wpC C b (inBlk id Q) s
 | .loop b, Q, s => onW (fun s => ∀ Z : St → Prop, (∀ s', wpC C b (andThen (onW Z) Q) s' → Z s') → Z s) s
 | .exit id, Q, s => Q (.exit id) s
 | .ret, Q, s => Q .ret s
 | .cus T _, Q, s => ∀ Q' : Exit → St → Prop, (∀ e s, Q e s → Q' e s) → T Q' s
section
variable {C : Cx}
theorem wpR_mono {s : St} {o : RO} {K K' : St → Prop} (h : wpR C s o K) (hk : ∀ s, K s → K' s) : wpR C s o K' := by
 unfold wpR at h ⊢
 split
 ·rename_i hg; rw [hg] at h; exact wpO_mono h fun av s1 => hk _
 ·rename_i t b hg
  rw [hg] at h
  simp only at h
  split
  ·rename_i b' hs
   rw [hs] at h
   simp only at h
   split
   ·rename_i hb; rw [if_pos hb] at h; exact wpO_mono h fun av s1 => hk _
   ·rename_i hb; rw [if_neg hb] at h; exact hk _ h
  ·rename_i hs; rw [hs] at h; exact hk _ h
  ·rename_i h1 h2
   split at h
   ·exact h1 _ (by assumption)
   ·exact h2 (by assumption)
   ·exact h
theorem wpRs_mono {K K' : St → Prop} (hk : ∀ s, K s → K' s) : ∀ {ros : List RO} {s : St}, wpRs C s ros K → wpRs C s ros K' := by
 intro ros
 induction ros with
 | nil => intro s h; exact hk s h
 | cons o ros ih => intro s h; exact wpR_mono h fun s h => ih h
theorem wpI_mono {ros : List RO} {K K' : St → Prop} (hk : ∀ s, K s → K' s) : ∀ {l : List Nat} {s : St}, wpI C ros s l K → wpI C ros s l K' := by
 intro l
 induction l with
 | nil => intro s h; exact hk s h
 | cons i l ih =>
   intro s h
   simp only [wpI] at h ⊢
   split
   ·rename_i ho; rw [ho] at h; exact ih h
   ·rename_i o ho; rw [ho] at h; exact wpR_mono h fun s h => ih h
theorem onW_mono {K K' : St → Prop} (hk : ∀ s, K s → K' s) (s : St) (h : onW K s) : onW K' s :=
 h.imp (hk s) fun ⟨l, h1, h2⟩ => ⟨l, h1, hk _ h2⟩
theorem kp_mono {keep : Option (List Nat)} {K K' : St → Prop} (hk : ∀ s, K s → K' s) (s : St) (h : kp keep K s) : kp keep K' s := by
 cases keep with
 | none => exact onW_mono hk s h
 | some k => exact hk _ h
theorem kp_onW {keep : Option (List Nat)} {K : St → Prop} {s : St} (h : kp keep K s) : onW K s := by
 cases keep with
 | none => exact h
 | some k =>
   refine .inr ⟨_, ?_, h⟩
   intro p hp
   obtain ⟨t, _, rfl⟩ := List.mem_map.1 hp
   exact .inl rfl
theorem andThen_mono {K K' : St → Prop} {Q Q' : Exit → St → Prop} (hk : ∀ s, K s → K' s) (hq : ∀ e s, Q e s → Q' e s) : ∀ e s, andThen K Q e s → andThen K' Q' e s := by
 intro e s h
 cases e with
 | normal => exact hk s h
 | _ => exact hq _ s h
theorem wpC_mono : ∀ (c : SC) {Q Q' : Exit → St → Prop} {s : St}, (∀ e s, Q e s → Q' e s) → wpC C c Q s → wpC C c Q' s := by
 intro c
 induction c with
 | skip => intro Q Q' s hq h; exact hq _ _ h
 | reg ros keep => intro Q Q' s hq h; exact wpRs_mono (kp_mono (hq _)) h
 | drw ros afters keep => intro Q Q' s hq h l hl; exact wpI_mono (kp_mono (hq _)) (h l hl)
 | seq a b iha ihb =>
   intro Q Q' s hq h
   exact iha (andThen_mono (fun s h => onW_mono (fun _ h => ihb hq h) s h) hq) h
 | cond c a b iha ihb =>
   intro Q Q' s hq h
   simp only [wpC] at h ⊢
   split
   ·rename_i b' hb
    rw [hb] at h
    simp only at h
    split
    ·rename_i e; rw [if_pos e] at h; exact iha hq h
    ·rename_i e; rw [if_neg e] at h; exact ihb hq h
   ·rename_i hb; rw [hb] at h; exact ⟨iha hq h.1, ihb hq h.2⟩
   ·rename_i h1 h2
    split at h
    ·exact h1 _ (by assumption)
    ·exact h2 (by assumption)
    ·exact h
 | block id b ih =>
   intro Q Q' s hq h
   refine ih ?_ h
   intro e s h
   cases e with
   | exit i =>
     simp only [inBlk] at h ⊢
     split
     ·rename_i e; rw [if_pos e] at h; exact hq _ _ h
     ·rename_i e; rw [if_neg e] at h; exact hq _ _ h
   | _ => exact hq _ _ h
 | loop b ih =>
   intro Q Q' s hq h
   refine onW_mono (fun s h Z hZ => ?_) s h
   exact h Z fun s' hs' => hZ s' (ih (andThen_mono (fun _ h => h) hq) hs')
 | exit id => intro Q Q' s hq h; exact hq _ _ h
 | ret => intro Q Q' s hq h; exact hq _ _ h
 | cus T b _ => intro Q Q' s hq h Q2 h2; exact h Q2 fun e s he => h2 e s (hq e s he)
theorem wpC_strip : ∀ (c : SC) {Q : Exit → St → Prop} {s : St}, wpC C c Q s → wpC C c.unkeep Q s := by
 intro c
 induction c with
 | reg ros keep => intro Q s h; exact wpRs_mono (fun s h => kp_onW h) h
 | drw ros af keep => intro Q s h l hl; exact wpI_mono (fun s h => kp_onW h) (h l hl)
 | seq a b iha ihb => intro Q s h; exact iha (wpC_mono a (andThen_mono (fun s h => onW_mono (fun _ h => ihb h) s h) (fun _ _ h => h)) h)
 | cond c a b iha ihb =>
   intro Q s h
   simp only [SC.unkeep, wpC] at h ⊢
   split
   ·rename_i b' hb
    rw [hb] at h
    simp only at h
    split
    ·rename_i e; rw [if_pos e] at h; exact iha h
    ·rename_i e; rw [if_neg e] at h; exact ihb h
   ·rename_i hb; rw [hb] at h; exact ⟨iha h.1, ihb h.2⟩
   ·rename_i h1 h2
    split at h
    ·exact h1 _ (by assumption)
    ·exact h2 (by assumption)
    ·exact h
 | block id b ih => intro Q s h; exact ih h
 | loop b ih =>
   intro Q s h
   refine onW_mono (fun s h Z hZ => ?_) s h
   exact h Z fun s' hs' => hZ s' (ih hs')
 | cus T b _ => intro Q s h; exact h
 | _ => intro Q s h; exact h
variable {w0 w : World} {F0 X : Nat → Prop} {n : Fr} {ρ : Nat → Value} {s : St} {a : Act}
def Arr (w0 : World) (F0 X : Nat → Prop) (n : Fr) (ρ : Nat → Value) (Q : Exit → St → Prop) : Exit → Act → World → Prop := fun e a w => ∃ s, Q e s ∧ Rel w0 F0 X n ρ s a w
theorem Rel.onW {K : St → Prop} {s : St} {a : Act} {w : World} (hr : Rel w0 F0 X n ρ s a w) (h : onW K s) : ∃ s', K s' ∧ Rel w0 F0 X n ρ s' a w := by
 rcases h with h | ⟨l, h1, h2⟩
 ·exact ⟨s, h, hr⟩
 ·obtain ⟨g1, g2, g3, F, S, g4⟩ := hr
  obtain ⟨F', S', g5⟩ := g4.weak h1
  exact ⟨stA l, h2, g1, g2, g3, F', S', g5⟩
theorem SC.strip_skip {c : SC} (h : c.strip = .skip) : c = .skip ∨ ∃ T b, c = .cus T b := by cases c <;> first | exact .inl rfl | exact .inr ⟨_, _, rfl⟩ | cases h
theorem SC.strip_ret {c : SC} (h : c.strip = .ret) : c = .ret ∨ ∃ T b, c = .cus T b := by cases c <;> first | exact .inl rfl | exact .inr ⟨_, _, rfl⟩ | cases h
theorem SC.strip_exit {c : SC} {i : Nat} (h : c.strip = .exit i) : c = .exit i ∨ ∃ T b, c = .cus T b := by cases c <;> first | exact .inl h | exact .inr ⟨_, _, rfl⟩ | cases h
theorem SC.strip_reg {c : SC} {r : List RO} {k : Option (List Nat)} (h : c.strip = .reg r k) : (∃ ros k', c = .reg ros k' ∧ ros.map RO.un = r) ∨ ∃ T b, c = .cus T b := by
 cases c <;> first | (cases h; exact .inl ⟨_, _, rfl, rfl⟩) | exact .inr ⟨_, _, rfl⟩ | cases h
theorem SC.strip_drw {c : SC} {r : List RO} {af : List (List Nat)} {k : Option (List Nat)} (h : c.strip = .drw r af k) : (∃ ros af' k', c = .drw ros af' k' ∧ ros.map RO.un = r ∧ af' = af) ∨ ∃ T b, c = .cus T b := by
 cases c <;> first | (cases h; exact .inl ⟨_, _, _, rfl, rfl, rfl⟩) | exact .inr ⟨_, _, rfl⟩ | cases h
theorem SC.strip_seq {c x y : SC} (h : c.strip = .seq x y) : (∃ a b, c = .seq a b ∧ a.strip = x ∧ b.strip = y) ∨ ∃ T b, c = .cus T b := by
 cases c <;> first | (cases h; exact .inl ⟨_, _, rfl, rfl, rfl⟩) | exact .inr ⟨_, _, rfl⟩ | cases h
theorem SC.strip_cond {c x y : SC} {o : SX} (h : c.strip = .cond o x y) : (∃ o' a b, c = .cond o' a b ∧ o' = o ∧ a.strip = x ∧ b.strip = y) ∨ ∃ T b, c = .cus T b := by
 cases c <;> first | (cases h; exact .inl ⟨_, _, _, rfl, rfl, rfl, rfl⟩) | exact .inr ⟨_, _, rfl⟩ | cases h
theorem SC.strip_block {c x : SC} {i : Nat} (h : c.strip = .block i x) : (∃ a, c = .block i a ∧ a.strip = x) ∨ ∃ T b, c = .cus T b := by
 cases c <;> first | (cases h; exact .inl ⟨_, rfl, rfl⟩) | exact .inr ⟨_, _, rfl⟩ | cases h
theorem SC.strip_loop {c x : SC} (h : c.strip = .loop x) : (∃ a, c = .loop a ∧ a.strip = x) ∨ ∃ T b, c = .cus T b := by
 cases c <;> first | (cases h; exact .inl ⟨_, rfl, rfl⟩) | exact .inr ⟨_, _, rfl⟩ | cases h
theorem wpC_soundH (hC : C.Ok) {H : ((Exit → St → Prop) → St → Prop) → SC → Prop}
  (hH : ∀ (c : Code) (T : (Exit → St → Prop) → St → Prop) (b : SC) (Q : Exit → St → Prop) (s : St) (a : Act) (w : World), H T b → slimC n c = some b.strip → T Q s → Rel w0 F0 X n ρ s a w → c.wp C.P (Arr w0 F0 X n ρ Q) a w) :
  ∀ (c : Code) {sc : SC} {Q : Exit → St → Prop} {s : St} {a : Act} {w : World}, slimC n c = some sc.strip → sc.bare H → wpC C sc Q s → Rel w0 F0 X n ρ s a w → c.wp C.P (Arr w0 F0 X n ρ Q) a w := by
 intro c
 induction c with
 | skip =>
   intro sc Q s a w hs hb0 h hr
   have hs0 := hs
   simp only [slimC, Option.some.injEq] at hs
   rcases SC.strip_skip hs.symm with rfl | ⟨T, b, rfl⟩
   ·exact wp_skip ⟨s, h, hr⟩
   ·exact hH _ T b Q s a w hb0 (by simpa only [SC.strip] using hs0) (h Q fun _ _ h => h) hr
 | region id ops draw =>
   intro sc Q s a w hs hb0 h hr
   have hs0 := hs
   cases draw with
   | false =>
     simp only [slimC, Option.map_eq_some_iff] at hs
     obtain ⟨ros0, hros, hs⟩ := hs
     rcases SC.strip_reg hs.symm with ⟨ros, k, rfl, rfl⟩ | ⟨T, b, rfl⟩
     rotate_left
     ·exact hH _ T b Q s a w hb0 (by simpa only [SC.strip] using hs0) (h Q fun _ _ h => h) hr
     cases hb0
     exact region_sound hC hros (fun s' a' w' hk hr' => hr'.onW hk) h hr
   | true =>
     simp only [slimC] at hs
     split at hs
     ·rename_i hb
      simp only [Option.map_eq_some_iff] at hs
      obtain ⟨ros0, hros, hs⟩ := hs
      rcases SC.strip_drw hs.symm with ⟨ros, af, k, rfl, rfl, rfl⟩ | ⟨T, b, rfl⟩
      rotate_left
      ·exact hH _ T b Q s a w hb0 (by simpa only [SC.strip] using hs0) (h Q fun _ _ h => h) hr
      cases hb0
      refine wp_region_draw fun t => ?_
      rw [show Region.schedule (C.P.follows .mixedOrders) ops t = Region.linearise .any ops t by simp [Region.schedule, hC.mixed]]
      exact ops_sound hC hros (fun s' a' w' hk hr' => hr'.onW hk) _ s a _ (h _ (lin_linearise hb t)) (hr.drawn _)
     ·cases hs
 | seq x y ihx ihy =>
   intro sc Q s a w hs hb0 h hr
   have hs0 := hs
   simp only [slimC] at hs
   split at hs
   ·rename_i sx sy hx hy
    simp only [Option.some.injEq] at hs
    rcases SC.strip_seq hs.symm with ⟨x', y', rfl, rfl, rfl⟩ | ⟨T, b, rfl⟩
    rotate_left
    ·exact hH _ T b Q s a w hb0 (by simpa only [SC.strip] using hs0) (h Q fun _ _ h => h) hr
    refine wp_seq (wp_mono (ihx hx hb0.1 h hr) ?_)
    rintro e a' w' ⟨s', h', hr'⟩
    cases e with
    | normal =>
      obtain ⟨s', h', hr'⟩ := hr'.onW h'
      exact ihy hy hb0.2 h' hr'
    | _ => exact ⟨s', h', hr'⟩
   ·cases hs
 | cond x y z ihy ihz =>
   intro sc Q s a w hs hb0 h hr
   have hs0 := hs
   simp only [slimC] at hs
   split at hs
   ·rename_i sx sy sz hx hy hz
    simp only [Option.some.injEq] at hs
    rcases SC.strip_cond hs.symm with ⟨x', y', z', rfl, rfl, rfl, rfl⟩ | ⟨T, b, rfl⟩
    rotate_left
    ·exact hH _ T b Q s a w hb0 (by simpa only [SC.strip] using hs0) (h Q fun _ _ h => h) hr
    have hr' := hr
    obtain ⟨hd, hsz, hf, F, S, hrel⟩ := hr'
    have hv := (ev_sv (a := a) hrel (fun _ => rfl) hx).2
    simp only [wpC] at h
    split at h
    ·rename_i b' hb
     rw [hb] at hv
     have := sv_bool hv
     refine wp_cond this ?_
     split
     ·rename_i e; rw [if_pos e] at h; exact ihy hy hb0.1 h hr
     ·rename_i e; rw [if_neg e] at h; exact ihz hz hb0.2 h hr
    ·rename_i hb
     rw [hb] at hv
     obtain ⟨b', hb'⟩ := sv_anyb hv
     refine wp_cond hb' ?_
     split
     ·exact ihy hy hb0.1 h.1 hr
     ·exact ihz hz hb0.2 h.2 hr
    ·exact h.elim
   ·cases hs
 | block id b ih =>
   intro sc Q s a w hs hb0 h hr
   have hs0 := hs
   simp only [slimC, Option.map_eq_some_iff] at hs
   obtain ⟨sb, hb, hs⟩ := hs
   rcases SC.strip_block hs.symm with ⟨b', rfl, rfl⟩ | ⟨T, b, rfl⟩
   rotate_left
   ·exact hH _ T b Q s a w hb0 (by simpa only [SC.strip] using hs0) (h Q fun _ _ h => h) hr
   refine wp_block (wp_mono (ih hb hb0 h hr) ?_)
   rintro e a' w' ⟨s', h', hr'⟩
   cases e with
   | exit i =>
     simp only [inBlk] at h'
     simp only [Exit.inBlock]
     split
     ·rename_i e; rw [if_pos e] at h'; exact ⟨s', h', hr'⟩
     ·rename_i e; rw [if_neg e] at h'; exact ⟨s', h', hr'⟩
   | _ => exact ⟨s', h', hr'⟩
 | loop b ih =>
   intro sc Q s a w hs hb0 h hr
   have hs0 := hs
   simp only [slimC, Option.map_eq_some_iff] at hs
   obtain ⟨sb, hb, hs⟩ := hs
   rcases SC.strip_loop hs.symm with ⟨b', rfl, rfl⟩ | ⟨T, b, rfl⟩
   rotate_left
   ·exact hH _ T b Q s a w hb0 (by simpa only [SC.strip] using hs0) (h Q fun _ _ h => h) hr
   obtain ⟨s, h, hr⟩ := hr.onW h
   have key := h (fun s => ∀ a w, Rel w0 F0 X n ρ s a w → ∀ (f : Frame) (k : List Item) (cs : List Frame), ∃ e a' w', Arr w0 F0 X n ρ Q e a' w' ∧ Arrives C.P (lone (f.at a (.code b :: .inLoop b :: k)) cs w) f k cs e a' w') ?_
   ·intro f k cs
    obtain ⟨e, a', w', hq, harr⟩ := key a w hr f k cs
    exact ⟨e, a', w', hq, .of_steps (.one step_loop) harr⟩
   ·intro s' hs' a w hr f k cs
    obtain ⟨e, a₁, w₁, ⟨s1, hq, hr1⟩, harr⟩ := ih hb hb0 hs' hr f (.inLoop b :: k) cs
    cases e with
    | normal =>
      simp only [andThen] at hq
      obtain ⟨s1, hq, hr1⟩ := hr1.onW hq
      obtain ⟨e₂, a₂, w₂, hq₂, harr₂⟩ := hq a₁ w₁ hr1 f k cs
      exact ⟨e₂, a₂, w₂, hq₂, .of_steps (Steps.trans harr (.one step_inLoop)) harr₂⟩
    | exit id => exact ⟨_, a₁, w₁, ⟨s1, hq, hr1⟩, .pass (x := .inLoop b) rfl (fun _ _ => .inl (by simp)) harr⟩
    | goto l => exact ⟨_, a₁, w₁, ⟨s1, hq, hr1⟩, .pass (x := .inLoop b) rfl (fun _ _ => .inl (by simp)) harr⟩
    | ret => exact ⟨_, a₁, w₁, ⟨s1, hq, hr1⟩, .pass (x := .inLoop b) rfl (fun _ _ => .inl (by simp)) harr⟩
    | panic ch => exact ⟨_, a₁, w₁, ⟨s1, hq, hr1⟩, .pass (x := .inLoop b) rfl (fun _ _ => .inl (by simp)) harr⟩
    | outgrown => exact ⟨_, a₁, w₁, ⟨s1, hq, hr1⟩, .pass (x := .inLoop b) rfl (fun _ _ => .inl (by simp)) harr⟩
 | exit id =>
   intro sc Q s a w hs hb0 h hr
   have hs0 := hs
   simp only [slimC, Option.some.injEq] at hs
   rcases SC.strip_exit hs.symm with rfl | ⟨T, b, rfl⟩
   ·exact wp_exit ⟨s, h, hr⟩
   ·exact hH _ T b Q s a w hb0 (by simpa only [SC.strip] using hs0) (h Q fun _ _ h => h) hr
 | ret =>
   intro sc Q s a w hs hb0 h hr
   have hs0 := hs
   simp only [slimC, Option.some.injEq] at hs
   rcases SC.strip_ret hs.symm with rfl | ⟨T, b, rfl⟩
   ·exact wp_ret ⟨s, h, hr⟩
   ·exact hH _ T b Q s a w hb0 (by simpa only [SC.strip] using hs0) (h Q fun _ _ h => h) hr
 | _ => intro sc Q s a w hs; simp [slimC] at hs
theorem wpC_sound (hC : C.Ok) (c : Code) {sc : SC} {Q : Exit → St → Prop} {s : St} {a : Act} {w : World} (hs : slimC n c = some sc.strip) (hb : sc.bare (fun _ _ => False)) (h : wpC C sc Q s) (hr : Rel w0 F0 X n ρ s a w) : c.wp C.P (Arr w0 F0 X n ρ Q) a w :=
 wpC_soundH hC (fun _ _ _ _ _ _ _ hf => hf.elim) c hs hb h hr
end
def rvSlot : ResultVar → Nat
 | .tmp t => t
 | .cell a _ => a
def resAV (C : Cx) (s : St) : ResultVar → Option AV
 | .tmp t => if (s t).tree = true then (match s t with | .tuple _ => none | d => some d) else none
 | .cell a T => match s a with
   | .ubox d => if fits C T d = true ∧ d.tree = true then some d else none
   | _ => none
def Ends (C : Cx) (fx : List Nat) (rv : List ResultVar) (r : AV) (outs : List AV) (s : St) : Prop :=
 ∃ ds, rv.map (resAV C s) = ds.map some ∧ r = (match ds with | [d] => d | ds => .tuple ds) ∧ (rv.map rvSlot).Nodup ∧
   ∀ (i : Nat) (o : AV), outs[i]? = some o → o = .hole ∨ (o = s i ∧ o.ow = true ∧ i ∈ fx ∧ i ∉ rv.map rvSlot)
section
variable {C : Cx} {w0 w : World} {F0 X F : Nat → Prop} {S : Nat → Nat → Prop} {s : St} {tmps : Array Value}
theorem vc_vc1 {d : AV} {x : Value} (hd : ∀ vs, d ≠ .tuple vs) (h : shp d x) : vc x = vc1 x ∧ shp1 d x := by
 have : shp1 d x := by cases d <;> first | exact h | exact (hd _ rfl).elim
 refine ⟨?_, this⟩
 cases d <;> first
  | (obtain ⟨a, rfl⟩ := this; rfl)
  | (simp only [shp1] at this
     rw [vc_one this]
     cases x <;> first | rfl | (simp [Value.isOne] at this))
def readRV (tmps : Array Value) : ResultVar → Sem Value
 | .tmp t => pure (tmps.getD t undef)
 | .cell a t => do loadVar t (← asAddr (tmps.getD a undef))
theorem res_one (hC : C.Ok) (h : RelX w0 F0 X F S s (fun t => tmps.getD t undef) w) {v : ResultVar} {d : AV} (hv : resAV C s v = some d) :
  ∃ x, (readRV tmps v).run C.P w = .ok x w ∧ d.tree = true ∧ (∀ vs, d ≠ .tuple vs) ∧ shp d x ∧ RV w F d (vc x) (S (rvSlot v)) := by
 cases v with
 | tmp t =>
   simp only [resAV] at hv
   split at hv
   ·rename_i ht
    have hnt : (∀ vs, s t ≠ .tuple vs) ∧ d = s t := by
     cases hs : s t <;> rw [hs] at hv <;> simp only at hv <;> first
      | (cases hv; done)
      | (simp only [Option.some.injEq] at hv; exact ⟨(fun _ h => by cases h), hv.symm⟩)
    obtain ⟨hnt, rfl⟩ := hnt
    obtain ⟨g1, g2⟩ := (SV.of_tree ht).1 (h.sv t)
    exact ⟨_, by simp [readRV], ht, hnt, g1, g2⟩
   ·cases hv
 | cell a T =>
   simp only [resAV] at hv
   split at hv
   ·rename_i e hs
    split at hv
    ·rename_i hfit'
     obtain ⟨hfit, htr⟩ := hfit'
     simp only [Option.some.injEq] at hv; subst hv
     have hsv := h.sv a
     rw [hs] at hsv
     obtain ⟨g1, g2⟩ := (SV.of_tree (d := .ubox e) rfl).1 hsv
     rw [vc_one g1, RV] at g2
     obtain ⟨b, cur, ty, fr, S', k1, k2, k3, k4, k5, k6, k7⟩ := g2
     simp only [List.cons.injEq, and_true] at k1
     have hrd : Rd w b 0 cur.toList := by
      have := rd_of_row k3 cur.size
      rwa [List.take_of_length_le (by simp)] at this
     obtain ⟨x, r1, r2, r3⟩ := run_load_any (C := C) hC hrd k5 hfit
     refine ⟨x, ?_, htr, ?_, r3, ?_⟩
     ·simp only [readRV]
      rw [k1]
      simpa [asAddr] using r1
     ·intro vs e'; subst e'
      unfold fits at hfit
      split at hfit <;> simp_all
     ·rw [r2]; exact RV.mono (fun _ h => h) _ _ _ _ k6 k5
    ·cases hv
   ·cases hv
theorem res_all (hC : C.Ok) (h : RelX w0 F0 X F S s (fun t => tmps.getD t undef) w) : ∀ (rv : List ResultVar) (ds : List AV), rv.map (resAV C s) = ds.map some → (rv.map rvSlot).Nodup →
  ∃ xs, (rv.mapM (readRV tmps)).run C.P w = .ok xs w ∧ xs.length = ds.length ∧ RVs w F ds (xs.flatMap vc1) (fun b => ∃ t ∈ rv.map rvSlot, S t b) ∧
    ∀ (k : Nat) (d : AV) (x : Value), ds[k]? = some d → xs[k]? = some x → shp d x ∧ (∀ vs, d ≠ .tuple vs) ∧ (vc1 x).length = d.wd ∧ vc x = vc1 x ∧ d.tree = true := by
 intro rv
 induction rv with
 | nil =>
   intro ds he _
   have : ds = [] := by simpa using he.symm
   subst this
   exact ⟨[], by simp, rfl, by simp only [List.flatMap_nil]; rw [RVs], fun k d x hd => by simp at hd⟩
 | cons v rv ih =>
   intro ds he hnd
   cases ds with
   | nil => simp at he
   | cons d ds =>
     simp only [List.map_cons, List.cons.injEq] at he
     simp only [List.map_cons, List.nodup_cons] at hnd
     obtain ⟨x, r1, rt, r2, r3, r4⟩ := res_one hC h he.1
     obtain ⟨xs, q1, q2, q3, q4⟩ := ih ds he.2 hnd.2
     obtain ⟨e1, e2⟩ := vc_vc1 r2 r3
     refine ⟨x :: xs, by simp [List.mapM_cons, r1, q1], by simp [q2], ?_, ?_⟩
     ·simp only [List.flatMap_cons]
      rw [RVs]
      rw [e1] at r4
      refine ⟨vc1 x, xs.flatMap vc1, S (rvSlot v), fun b => ∃ t ∈ rv.map rvSlot, S t b, rfl, r4, q3, fun b hb => ⟨rvSlot v, by simp, hb⟩, ?_, ?_⟩
      ·rintro b ⟨t, ht, hb⟩; exact ⟨t, by simp [ht], hb⟩
      ·rintro b hb ⟨t, ht, hb'⟩
       have : t ≠ rvSlot v := fun e => hnd.1 (e ▸ ht)
       exact h.SS t (rvSlot v) b this hb' hb
     ·intro k d' x' hd hx
      cases k with
      | zero =>
        simp at hd hx; subst hd hx
        refine ⟨r3, r2, ?_, e1, rt⟩
        rw [← e1]; exact RV.length _ _ _ r4
      | succ k => exact q4 k d' x' (by simpa using hd) (by simpa using hx)
theorem gets_of_code (hC : C.Ok) {f : FuncId} {fn : Func} {c : Code} {fx : List Nat} {as outs : List AV} {r : AV} (hf : C.P.funcs[f]? = some fn) (hb : fn.body = some c)
  (hname : (fn.name == "runtime.NumGoroutine") = false) (hn : as.length ≤ fn.ntmps)
  {w : World} {F X : Nat → Prop} {S : Nat → Nat → Prop} {vs : List Value} (hl : vs.length = as.length) (hr : RelX w F X F S (stL as) (tmL vs) w)
  (hwp : ∀ a, Rel w F X ⟨fn.ntmps, fx⟩ (tmL vs) (stL as) a w → (∀ t, a.tmps.getD t undef = tmL vs t) → c.wp C.P (Arr w F X ⟨fn.ntmps, fx⟩ (tmL vs) (fun e s => (e = .normal ∨ e = .ret) ∧ onW (Ends C fx fn.results.toList r outs) s)) a w) :
  Gets C.P f vs.toArray w fun v w' => ∃ F' S', RelX w F X F' S' (stL (r :: outs)) (tmL (v :: vs)) w' := by
 have hargs : (vs.toArray ++ Array.replicate (fn.ntmps - vs.toArray.size) undef).size = fn.ntmps := by simp; omega
 have htm : (fun t => (vs.toArray ++ Array.replicate (fn.ntmps - vs.toArray.size) undef).getD t undef) = tmL vs := by
  funext t
  simp only [tmL, Array.getD_eq_getD_getElem?, List.getD_eq_getElem?_getD]
  by_cases ht : t < vs.length
  ·rw [Array.getElem?_append_left (by simpa using ht)]; simp
  ·rw [Array.getElem?_append_right (by simpa using ht)]
   rw [List.getElem?_eq_none (by omega)]
   simp only [Array.getElem?_replicate]
   split <;> rfl
 have hrel : Rel w F X ⟨fn.ntmps, fx⟩ (tmL vs) (stL as) { tmps := vs.toArray ++ Array.replicate (fn.ntmps - vs.toArray.size) undef, defers := [] } w :=
  ⟨rfl, hargs, fun i _ => congrFun htm i, F, S, by rw [htm]; exact hr⟩
 have hname' : fn.name ≠ "runtime.NumGoroutine" := by simpa using hname
 refine .inl ⟨by simp [callFunc, hf, hname', hb], calls_of_wp hf hb (wp_mono (hwp _ hrel (congrFun htm)) ?_)⟩
 rintro e a' w' ⟨s', ⟨he, hends⟩, hrel'⟩
 obtain ⟨s', ⟨ds, hds, hre, hnd, hout⟩, hd, hsz, hfx, F', S', hr'⟩ := hrel'.onW hends
 obtain ⟨xs, q1, q2, q3, q4⟩ := res_all hC hr' _ ds hds hnd
 have hread : (results fn a'.tmps) = (do let vs ← fn.results.mapM (readRV a'.tmps); pure (if h : vs.size = 1 then vs[0] else .tuple vs)) := by
  unfold results
  congr 1
 have hrun : (results fn a'.tmps).run C.P w' = .ok (if h : xs.toArray.size = 1 then xs.toArray[0] else .tuple xs.toArray) w' := by
  rw [hread, Array.mapM_eq_mapM_toList]
  simp [q1]
 -- the value answered
 have hval : (r.tree = true ∧ shp r (if h : xs.toArray.size = 1 then xs.toArray[0] else .tuple xs.toArray) ∧
   RV w' F' r (vc (if h : xs.toArray.size = 1 then xs.toArray[0] else .tuple xs.toArray)) (fun b => ∃ t ∈ fn.results.toList.map rvSlot, S' t b)) := by
  by_cases h1 : ∃ d, ds = [d]
  ·obtain ⟨d, rfl⟩ := h1
   obtain ⟨x, rfl⟩ : ∃ x, xs = [x] := by
    cases xs with
    | nil => simp at q2
    | cons x xs => cases xs with
      | nil => exact ⟨x, rfl⟩
      | cons y ys => simp at q2
   obtain ⟨k1, k2, k3, k4, k5⟩ := q4 0 d x rfl rfl
   have hre' : d = r := hre.symm
   subst hre'
   simp only [List.flatMap_cons, List.flatMap_nil, List.append_nil] at q3
   rw [RVs] at q3
   obtain ⟨c1, c2, S1, S2, e1, e2, e3, e4, e5, e6⟩ := q3
   rw [RVs] at e3; subst e3
   simp only [List.append_nil] at e1; subst e1
   have hx : (if h : ([x] : List Value).toArray.size = 1 then ([x] : List Value).toArray[0] else .tuple ([x] : List Value).toArray) = x := by simp
   rw [hx, k4]
   exact ⟨k5, k1, RV.mono (fun _ h => h) _ _ _ _ e4 e2⟩
  ·have hr2 : r = .tuple ds := by
    rw [hre]
    cases ds with
    | nil => rfl
    | cons d ds => cases ds with
      | nil => exact (h1 ⟨d, rfl⟩).elim
      | cons e ds => rfl
   have hx : (if h : xs.toArray.size = 1 then xs.toArray[0] else Value.tuple xs.toArray) = .tuple xs.toArray := by
    rw [dif_neg]
    intro hsz
    have : ds.length = 1 := by rw [← q2]; simpa using hsz
    obtain ⟨d, hd⟩ := List.length_eq_one_iff.1 this
    exact h1 ⟨d, hd⟩
   rw [hx, hr2]
   refine ⟨rfl, ⟨xs.toArray, rfl, by simpa using q2, fun k d x hd hx => ?_⟩, ?_⟩
   ·obtain ⟨k1, k2, k3, k4, _⟩ := q4 k d x hd (by simpa using hx)
    exact ⟨(vc_vc1 k2 k1).2, k2, k3⟩
   ·rw [RV]
    simpa [vc] using q3
 have post : ∀ (v : Value), (r.tree = true ∧ shp r v ∧ RV w' F' r (vc v) (fun b => ∃ t ∈ fn.results.toList.map rvSlot, S' t b)) → ∃ F1 S1, RelX w F X F1 S1 (stL (r :: outs)) (tmL (v :: vs)) w' := by
  rintro v ⟨v1, v2, v3⟩
  have outAt : ∀ i, (outs.getD i .hole).ow = true → outs.getD i .hole = s' i ∧ i ∈ fx ∧ i ∉ fn.results.toList.map rvSlot := by
   intro i hi
   cases ho : outs[i]? with
   | none => simp [List.getD, ho, AV.ow] at hi
   | some o =>
     have e : outs.getD i .hole = o := by simp [List.getD, ho]
     rw [e] at hi ⊢
     rcases hout i o ho with h | h
     ·subst h; simp [AV.ow] at hi
     ·exact ⟨h.1, h.2.2⟩
  refine ⟨F', fun t b => match t with | 0 => ∃ t ∈ fn.results.toList.map rvSlot, S' t b | i + 1 => (outs.getD i .hole).ow = true ∧ S' i b, hr'.F0F, hr'.FF0, hr'.Flt, ?_, ?_, ?_, ?_, ?_, hr'.old, hr'.size, hr'.os, hr'.tape, hr'.output⟩
  ·intro t b hb
   cases t with
   | zero => obtain ⟨t, _, hb⟩ := hb; exact hr'.Slt t b hb
   | succ i => exact hr'.Slt i b hb.2
  ·intro t b hb
   cases t with
   | zero => obtain ⟨t, _, hb⟩ := hb; exact hr'.SF t b hb
   | succ i => exact hr'.SF i b hb.2
  ·intro t u b hne hb hu
   cases t with
   | zero =>
     obtain ⟨t, ht, hb⟩ := hb
     cases u with
     | zero => exact hne rfl
     | succ j =>
       refine hr'.SS t j b (fun e => ?_) hb hu.2
       subst e; exact (outAt t hu.1).2.2 ht
   | succ i =>
     cases u with
     | zero =>
       obtain ⟨t, ht, hu⟩ := hu
       refine hr'.SS t i b (fun e => ?_) hu hb.2
       subst e; exact (outAt t hb.1).2.2 ht
     | succ j => exact hr'.SS i j b (by omega) hb.2 hu.2
  ·intro t b hb
   cases t with
   | zero => obtain ⟨t, _, hb⟩ := hb; exact hr'.S0 t b hb
   | succ i => exact hr'.S0 i b hb.2
  ·intro t
   cases t with
   | zero => exact (SV.of_tree v1).2 ⟨v2, v3⟩
   | succ i =>
     show SV w' F' (stL (r :: outs)) (tmL (v :: vs)) (outs.getD i .hole) (vs.getD i undef) (fun b => (outs.getD i .hole).ow = true ∧ S' i b)
     cases hi : (outs.getD i .hole).ow with
     | false =>
       have : outs.getD i .hole = .hole := by
        cases ho : outs[i]? with
        | none => simp [List.getD, ho]
        | some o =>
          have e : outs.getD i .hole = o := by simp [List.getD, ho]
          rw [e] at hi ⊢
          rcases hout i o ho with h | h
          ·exact h
          ·rw [h.2.1] at hi; cases hi
       rw [this, SV]; trivial
     | true =>
       obtain ⟨o1, o2, o3⟩ := outAt i hi
       have ht := (ow_spec hi).2.1
       have hsv := hr'.sv i
       rw [← o1] at hsv
       obtain ⟨g1, g2⟩ := (SV.of_tree ht).1 hsv
       have hv : a'.tmps.getD i undef = vs.getD i undef := hfx i o2
       rw [hv] at g1 g2
       exact (SV.of_tree ht).2 ⟨g1, RV.mono (fun _ h => h) _ _ _ _ (fun b hb => ⟨rfl, hb⟩) g2⟩
 rcases he with rfl | rfl
 ·exact ⟨hd, _, hrun, _, rfl, post _ hval⟩
 ·exact ⟨hd, _, hrun, _, rfl, post _ hval⟩
theorem OkAt.of_wp (hC : C.Ok) {f : FuncId} {fn : Func} {c : Code} {sc : SC} {fx : List Nat} {as outs : List AV} {r : AV} (hf : C.P.funcs[f]? = some fn) (hb : fn.body = some c)
  (hname : (fn.name == "runtime.NumGoroutine") = false) (hs : slimC ⟨fn.ntmps, fx⟩ c = some sc.strip) (hn : as.length ≤ fn.ntmps)
  (h : wpC C sc (fun e s => (e = .normal ∨ e = .ret) ∧ onW (Ends C fx fn.results.toList r outs) s) (stL as)) (hp : sc.plain = true := by kernel_rfl) : OkAt C f as r outs :=
 fun w F X S vs hl hr => gets_of_code hC hf hb hname hn hl hr fun a hrel _ => wpC_sound hC c (by rw [SC.strip_unkeep]; exact hs) (SC.bare_unkeep sc (SC.plain_hook sc hp)) (wpC_strip sc h) hrel
end
def num : Nat → List AV → List (Nat × AV)
 | _, [] => []
 | k, a :: as => (k, a) :: num (k + 1) as
theorem stA_num : ∀ (as : List AV) (k t : Nat), stA (num k as) (k + t) = as.getD t .hole := by
 intro as
 induction as with
 | nil => intro k t; simp [num, stA]
 | cons a as ih =>
   intro k t
   cases t with
   | zero => simp [num, stA]
   | succ t =>
     have := ih (k + 1) t
     simp only [num, stA]
     rw [if_neg (by omega)]
     rw [show k + (t + 1) = k + 1 + t by omega, this]
     simp
theorem stL_num (as : List AV) : stL as = stA (num 0 as) := by
 funext t
 have := stA_num as 0 t
 rw [Nat.zero_add] at this
 rw [this]; rfl
theorem upd_stA (l : List (Nat × AV)) (t : Nat) (d : AV) : upd (stA l) t d = stA ((t, d) :: l) := by
 funext u; simp only [upd, stA]
def pgA (t : Nat) : List (Nat × AV) → List (Nat × AV)
 | [] => []
 | (u, d) :: l => (u, pg t d) :: pgA t l
def pkA (t : Nat) : List (Nat × AV) → List (Nat × AV)
 | [] => []
 | (u, d) :: l => (u, pk t d) :: pkA t l
theorem pgS_stA (t : Nat) : ∀ l : List (Nat × AV), pgS t (stA l) = stA (pgA t l) := by
 intro l
 funext u
 induction l with
 | nil => rfl
 | cons p l ih =>
   obtain ⟨v, d⟩ := p
   simp only [pgS, stA, pgA] at ih ⊢
   split
   ·rfl
   ·exact ih
theorem pkS_stA (t : Nat) : ∀ l : List (Nat × AV), pkS t (stA l) = stA (pkA t l) := by
 intro l
 funext u
 induction l with
 | nil => rfl
 | cons p l ih =>
   obtain ⟨v, d⟩ := p
   simp only [pkS, stA, pkA] at ih ⊢
   split
   ·rfl
   ·exact ih
def kpA (k : List Nat) (s : St) : List (Nat × AV) := k.map fun t => (t, s t)
section
variable {C : Cx} {l : List (Nat × AV)}
def SO.isCall : SO → Bool
 | .call _ _ => true
 | .mv _ => false
 | .asg _ => false
 | .pick _ _ _ => false
 | .alc _ => false
 | .bx _ _ => false
 | .bld _ _ => false
 | .bsl _ _ _ => false
 | .ld _ _ => false
 | .sto _ _ _ => false
 | .nilc _ => false
 | .bn _ _ _ _ => false
 | .un _ _ => false
 | .cvt _ _ _ => false
 | .mkf _ _ => false
 | .mks _ _ _ => false
 | .slc _ _ _ _ => false
 | .fa _ _ _ => false
 | .ia _ _ _ => false
 | .idx _ _ _ => false
 | .ex _ _ => false
 | .len _ _ => false
 | .app _ _ _ _ => false
 | .shr _ => true
 | .apz _ _ _ _ => false
 | .cap _ _ => false
 | .mn _ _ _ => false
 | .bad => false
 | .kc _ _ _ _ => true
 | .ka _ _ _ => true
 | .bxs _ _ => false
variable {Q : Exit → St → Prop}
def AV.isTup : AV → Bool
 | .tuple _ => true
 | _ => false
theorem Ends.one {fx : List Nat} {t : Nat} {r : AV} {s : St} (h1 : s t = r) (h2 : (r.tree && !r.isTup) = true) : Ends C fx [.tmp t] r [] s := by
 simp only [Bool.and_eq_true, Bool.not_eq_true'] at h2
 obtain ⟨h2, h3'⟩ := h2
 have h3 : ∀ vs, r ≠ .tuple vs := fun vs e => by subst e; simp [AV.isTup] at h3'
 refine ⟨[r], ?_, rfl, by simp, fun i o h => by simp at h⟩
 have : resAV C s (.tmp t) = some r := by
  simp only [resAV, h1, h2, if_true]
  try (cases r <;> first | rfl | exact (h3 _ rfl).elim)
 simp only [List.map_cons, List.map_nil, this]
end
section
variable {C : Cx} {l : List (Nat × AV)} {Q : Exit → St → Prop}
theorem OkAt.outs {f : FuncId} {as : List AV} {r : AV} {o1 o2 : List AV} (h : OkAt C f as r o1) (he : stL o1 = stL o2) : OkAt C f as r o2 := by
 intro w F X S vs hl hr
 refine Gets.mono (h w F X S vs hl hr) ?_
 rintro v w' ⟨F', S', h'⟩
 refine ⟨F', S', ?_⟩
 have : stL (r :: o2) = stL (r :: o1) := by
  funext t
  cases t with
  | zero => rfl
  | succ t => exact (congrFun he t).symm
 rw [this]; exact h'
def lend : List AV → List AV → List PA
 | a :: as, d :: ds => ⟨a, false, d, .hole⟩ :: lend as ds
 | _, _ => []
theorem lend_spec {s : St} : ∀ (as ds : List AV), views s as = some ds → (lend as ds).map (·.a) = as ∧ (lend as ds).map (·.d) = ds ∧ (∀ p ∈ lend as ds, p.ok s ∧ p.g = false ∧ p.o = .hole ∧ p.a ∈ as) ∧ apartPA (lend as ds) = true ∧
  stL ((lend as ds).map (·.o)) = stL [] ∧ (∀ s0, takeL s0 (lend as ds) = s0) ∧ (∀ s0, giveL s0 (lend as ds) = s0) := by
 intro as
 induction as with
 | nil =>
   intro ds h
   simp only [views, Option.some.injEq] at h; subst h
   exact ⟨rfl, rfl, (fun p hp => by cases hp), rfl, rfl, fun _ => rfl, fun _ => rfl⟩
 | cons a as ih =>
   intro ds h
   simp only [views] at h
   split at h
   ·rename_i d ds' h1 h2
    simp only [Option.some.injEq] at h; subst h
    obtain ⟨e1, e2, e3, e4, e5, e6, e7⟩ := ih ds' h2
    refine ⟨by simp only [lend, List.map_cons, e1], by simp only [lend, List.map_cons, e2], ?_, ?_, ?_, ?_, ?_⟩
    ·intro p hp
     simp only [lend, List.mem_cons] at hp
     rcases hp with rfl | hp
     ·exact ⟨by simp only [PA.ok]; exact h1, rfl, rfl, by simp⟩
     ·obtain ⟨g1, g2, g3, g4⟩ := e3 p hp
      exact ⟨g1, g2, g3, by simp [g4]⟩
    ·simp only [lend, apartPA, e4, Bool.and_true, List.all_eq_true]
     intro p hp
     simp [(e3 p hp).2.1]
    ·funext t
     cases t with
     | zero => rfl
     | succ t => exact (congrFun e5 t).trans (by simp [stL])
    ·intro s0; exact e6 s0
    ·intro s0; exact e7 s0
   ·cases h
end
structure FP where
 U : List Nat
 H : List Nat
 T : List Nat
 c : Bool
mutual
def AV.clean : AV → Bool
 | .hole => false
 | .fn _ cap => AV.cleans cap
 | _ => true
def AV.cleans : List AV → Bool
 | [] => true
 | d :: ds => d.clean && AV.cleans ds
end
mutual
theorem pk_clean {x : Nat} : ∀ a : AV, (pk x a).clean = true → pk x a = a
 | .h y q, h => by
   simp only [pk] at h ⊢
   split
   ·rename_i e; rw [if_pos e] at h
    split
    ·rfl
    ·rename_i e'; rw [if_neg e'] at h; simp [AV.clean] at h
   ·rfl
 | .hp y q, h => by
   simp only [pk] at h ⊢
   split
   ·rename_i e; rw [if_pos e] at h; simp [AV.clean] at h
   ·rfl
 | .hb y q, h => rfl
 | .fn f cap, h => by simp only [pk, AV.clean] at h ⊢; rw [pks_clean cap h]
 | .hole, _ => rfl
 | .bool _, _ => rfl
 | .anyb, _ => rfl
 | .int _ _, _ => rfl
 | .str _, _ => rfl
 | .nilp, _ => rfl
 | .nils, _ => rfl
 | .slice _, _ => rfl
 | .uslice _ _, _ => rfl
 | .ref _, _ => rfl
 | .ubox _, _ => rfl
 | .agg _, _ => rfl
 | .tuple _, _ => rfl
theorem pks_clean {x : Nat} : ∀ ds : List AV, AV.cleans (pks x ds) = true → pks x ds = ds
 | [], _ => rfl
 | d :: ds, h => by
   simp only [pks, AV.cleans, Bool.and_eq_true] at h ⊢
   rw [pk_clean d h.1, pks_clean ds h.2]
end
mutual
theorem pg_clean {x : Nat} : ∀ a : AV, (pg x a).clean = true → pg x a = a
 | .h y q, h => by
   simp only [pg] at h ⊢
   split
   ·rename_i e; rw [if_pos e] at h; simp [AV.clean] at h
   ·rfl
 | .hp y q, h => by
   simp only [pg] at h ⊢
   split
   ·rename_i e; rw [if_pos e] at h; simp [AV.clean] at h
   ·rfl
 | .hb y q, h => by
   simp only [pg] at h ⊢
   split
   ·rename_i e; rw [if_pos e] at h; simp [AV.clean] at h
   ·rfl
 | .fn f cap, h => by simp only [pg, AV.clean] at h ⊢; rw [pgs_clean cap h]
 | .hole, _ => rfl
 | .bool _, _ => rfl
 | .anyb, _ => rfl
 | .int _ _, _ => rfl
 | .str _, _ => rfl
 | .nilp, _ => rfl
 | .nils, _ => rfl
 | .slice _, _ => rfl
 | .uslice _ _, _ => rfl
 | .ref _, _ => rfl
 | .ubox _, _ => rfl
 | .agg _, _ => rfl
 | .tuple _, _ => rfl
theorem pgs_clean {x : Nat} : ∀ ds : List AV, AV.cleans (pgs x ds) = true → pgs x ds = ds
 | [], _ => rfl
 | d :: ds, h => by
   simp only [pgs, AV.cleans, Bool.and_eq_true] at h ⊢
   rw [pg_clean d h.1, pgs_clean ds h.2]
end
theorem app_clean {k : PK} {x : Nat} {a : AV} (h : (k.app x a).clean = true) : k.app x a = a := by
 cases k with
 | no => rfl
 | pk => exact pk_clean a h
 | pg => exact pg_clean a h
theorem chgAt_clean : ∀ (ms : List Md) (u : Nat) (a : AV), (∀ m ∈ ms, m.x ≠ u) → (chgAt ms u a).clean = true → chgAt ms u a = a := by
 intro ms
 induction ms with
 | nil => intros; rfl
 | cons m ms ih =>
   intro u a hx hc
   simp only [chgAt] at hc ⊢
   have e := ih u _ (fun m' hm' => hx m' (by simp [hm'])) hc
   have hm : m.at u a = m.k.app m.x a := by
    simp only [Md.at]; rw [if_neg (fun e => hx m (by simp) e.symm)]
   rw [e, hm]
   rw [e, hm] at hc
   exact app_clean hc
theorem chgAt_id : ∀ (ms : List Md) (u : Nat) (a : AV), (∀ m ∈ ms, m.x ≠ u ∧ m.x ∉ a.hs) → chgAt ms u a = a := by
 intro ms
 induction ms with
 | nil => intros; rfl
 | cons m ms ih =>
   intro u a hx
   simp only [chgAt]
   have hm : m.at u a = a := by
    simp only [Md.at]; rw [if_neg (fun e => (hx m (by simp)).1 e.symm)]
    exact app_id (.inr (hx m (by simp)).2)
   rw [hm]
   exact ih u a fun m' hm' => hx m' (by simp [hm'])
theorem chg_one (m : Md) : ∀ (ms : List Md) (u : Nat) (a : AV), (∀ m' ∈ ms, m'.x ≠ m.x ∧ m'.x ∉ m.d.hs ∧ m.x ∉ m'.d.hs) → chgAt ms u (m.at u a) = m.at u (chgAt ms u a) := by
 intro ms
 induction ms with
 | nil => intros; rfl
 | cons n ms ih =>
   intro u a hx
   simp only [chgAt]
   have hn := hx n (by simp)
   have hc : n.at u (m.at u a) = m.at u (n.at u a) := by
    simp only [Md.at]
    by_cases e1 : u = n.x
    ·subst e1
     rw [if_pos rfl, if_neg hn.1, if_pos rfl]
     exact (app_id (.inr hn.2.2)).symm
    ·rw [if_neg e1]
     by_cases e2 : u = m.x
     ·subst e2
      rw [if_pos rfl, if_pos rfl]
      exact app_id (.inr hn.2.1)
     ·rw [if_neg e2, if_neg e1, if_neg e2]
      exact app_app _ _ _ _ _
   rw [hc]
   exact ih u _ fun m' hm' => hx m' (by simp [hm'])
theorem chg_comm : ∀ (ms ns : List Md) (s : St), (∀ m ∈ ms, ∀ n ∈ ns, n.x ≠ m.x ∧ n.x ∉ m.d.hs ∧ m.x ∉ n.d.hs) → chg ns (chg ms s) = chg ms (chg ns s) := by
 intro ms
 induction ms with
 | nil => intros; rfl
 | cons m ms ih =>
   intro ns s h
   have e : ∀ s, chg (m :: ms) s = chg ms (chg [m] s) := fun s => chg_append [m] ms s
   rw [e, e, ih ns _ (fun m' hm' => h m' (by simp [hm']))]
   congr 1
   funext u
   simp only [chg, chgAt]
   exact chg_one m ns u _ (h m (by simp))
def wpCallT (C : Cx) (s : St) (f : SX) (args : List SX) (K : List Nat → AV → St → Prop) : Prop :=
 ∃ (g : FuncId) (caps : List AV) (ps : List PA) (r : AV), ev s f = .fn g caps ∧ AV.plains caps = true ∧ ps.map (·.a) = args.map (ev s) ++ caps ∧ (∀ p ∈ ps, p.ok s) ∧ apartPA ps = true ∧
   OkAt C g (ps.map (·.d)) r (ps.map (·.o)) ∧ r.res = true ∧ (lent ps = true → r.nosh = true ∧ ∀ p ∈ ps, p.o.nosh = true) ∧ K (AV.hss ((ps.filter (·.g)).map (·.a))) r (giveL (takeL s ps) ps)
def wpOT (C : Cx) (s : St) (so : SO) (K : List Nat → AV → St → Prop) : Prop :=
 match so with
 | .call f args => ∃ (g : FuncId) (caps : List AV) (ps : List PA) (r : AV), ev s f = .fn g caps ∧ AV.plains caps = true ∧ ps.map (·.a) = args.map (ev s) ++ caps ∧ (∀ p ∈ ps, p.ok s) ∧ apartPA ps = true ∧
   OkAt C g (ps.map (·.d)) r (ps.map (·.o)) ∧ r.res = true ∧ (lent ps = true → r.nosh = true ∧ ∀ p ∈ ps, p.o.nosh = true) ∧ K (AV.hss ((ps.filter (·.g)).map (·.a))) r (giveL (takeL s ps) ps)
 | .shr so => ∃ av s1, eff C s so = some (av, s1) ∧ av.tree = true ∧ (∀ vs, av ≠ .tuple vs) ∧ K (tks s so) av.share s1
 | .kc f args u x => s u = .h x [] ∧ (s x).own = true ∧ wpCallT C s f args fun tk av s1 => s1 u = .hole ∧ (s1 x).own = true ∧ K (u :: tk) av (upd s1 u (.h x []))
 | .ka f args us => kokL s (kaL s us) = true ∧ wpCallT C s f args fun tk av s1 => kokL s1 (kaL s us) = true ∧ K (us ++ tk) av (putL s1 (kaL s us))
 | so => ∃ av s1, eff C s so = some (av, s1) ∧ K (tks s so) av s1
def fpO (s : St) (U : List Nat) (dst : Option Nat) (tk : List Nat) (av : AV) : FP :=
 ⟨U, U.flatMap (fun u => (s u).hs) ++ av.hs, dst.toList ++ tk, U.all fun u => (s u).clean⟩
def wpRT (C : Cx) (s : St) (o : RO) (K : FP → St → Prop) : Prop :=
 match o.guard with
 | none => wpOT C s o.so fun tk av s1 => K (fpO s (use s o.so) o.dst tk av) (fin s1 o.dst av)
 | some (t, b) => match s t with
   | .bool b' => if b' = b then wpOT C s o.so (fun tk av s1 => K (fpO s (t :: use s o.so) o.dst tk av) (fin s1 o.dst av)) else K (fpO s [t] o.dst [] (.tuple [])) (fin s o.dst (.tuple []))
   | .tuple [] => K (fpO s [t] o.dst [] (.tuple [])) (fin s o.dst (.tuple []))
   | _ => False
def pushF : Option (List FP) → FP → Option (List FP)
 | none, _ => none
 | some l, f => some (f :: l)
def wpT (C : Cx) (s : St) : List RO → Option (List FP) → (Option (List FP) → St → Prop) → Prop
 | [], acc, K => K acc s
 | o :: os, acc, K => wpRT C s o fun f s1 => wpT C s1 os (pushF acc f) K
section
variable {C : Cx}
theorem wpOT_wpO {s : St} {so : SO} {K : List Nat → AV → St → Prop} {K' : AV → St → Prop} (hk : ∀ tk av s, K tk av s → K' av s) (h : wpOT C s so K) : wpO C s so K' := by
 cases so with
 | call f args =>
   obtain ⟨g, caps, ps, r, h1, hcp, h2, h3, h4, h5, h6, h7, h8⟩ := h
   exact ⟨g, caps, ps, r, h1, hcp, h2, h3, h4, h5, h6, h7, hk _ _ _ h8⟩
 | kc f args u x =>
   obtain ⟨k1, k2, g, caps, ps, r, h1, hcp, h2, h3, h4, h5, h6, h7, h8, h9, h10⟩ := h
   exact ⟨k1, k2, g, caps, ps, r, h1, hcp, h2, h3, h4, h5, h6, h7, h8, h9, hk _ _ _ h10⟩
 | ka f args us =>
   obtain ⟨k2, g, caps, ps, r, h1, hcp, h2, h3, h4, h5, h6, h7, h8, h9⟩ := h
   exact ⟨k2, g, caps, ps, r, h1, hcp, h2, h3, h4, h5, h6, h7, h8, hk _ _ _ h9⟩
 | shr so =>
   obtain ⟨av, s1, h1, h2, h3, h4⟩ := h
   exact ⟨av, s1, h1, h2, h3, hk _ _ _ h4⟩
 | _ =>
   obtain ⟨av, s1, h1, h2⟩ := h
   exact ⟨av, s1, h1, hk _ _ _ h2⟩
theorem wpRT_wpR {s : St} {o : RO} {K : FP → St → Prop} {K' : St → Prop} (hk : ∀ f s, K f s → K' s) (h : wpRT C s o K) : wpR C s o K' := by
 unfold wpRT at h
 unfold wpR
 split
 ·rename_i hg; rw [hg] at h; exact wpOT_wpO (fun _ _ _ => hk _ _) h
 ·rename_i t b hg
  rw [hg] at h
  simp only at h
  split
  ·rename_i b' hs
   rw [hs] at h
   simp only at h
   split
   ·rename_i hb; rw [if_pos hb] at h; exact wpOT_wpO (fun _ _ _ => hk _ _) h
   ·rename_i hb; rw [if_neg hb] at h; exact hk _ _ h
  ·rename_i hs; rw [hs] at h; exact hk _ _ h
  ·rename_i h1 h2
   split at h
   ·exact h1 _ (by assumption)
   ·exact h2 (by assumption)
   ·exact h
theorem wpRs_of_T {K : St → Prop} : ∀ {ros : List RO} {s : St} {acc : Option (List FP)} {K' : Option (List FP) → St → Prop}, (∀ a s, K' a s → K s) → wpT C s ros acc K' → wpRs C s ros K := by
 intro ros
 induction ros with
 | nil => intro s acc K' hk h; exact hk _ _ h
 | cons o ros ih => intro s acc K' hk h; exact wpRT_wpR (fun f s h => ih hk h) h
theorem sub_hs {q : List Nat} {a d : AV} (h : AV.sub q a = some d) (hq : q ≠ [] ∨ d.hs = []) : a.hs = [] := by
 cases q with
 | nil =>
   simp only [AV.sub, Option.some.injEq] at h; subst h
   exact hq.resolve_left (fun e => e rfl)
 | cons k q => cases a <;> first | rfl | (simp [AV.sub] at h)
def GivenAt (s : St) (p : PA) (e : AV → Prop) : Prop := p.g = true → ∃ x q d, p.a = .h x q ∧ AV.sub q (s x) = some d ∧ e d ∧ (p.o = .hole ∨ p.o.ow = true)
theorem own_hs {d : AV} (h : d.ow = true) : d.hs = [] := tree_hs (ow_spec h).2.1
theorem hollow_hs {d : AV} (h : d.ow = true) : d.hollow.hs = [] := by cases d <;> first | rfl | (simp [AV.ow] at h)
theorem apart_cons {p : PA} {ps : List PA} (h : apartPA (p :: ps) = true) : apartPA ps = true ∧ ∀ p' ∈ ps, (p.g = true ∨ p'.g = true) → ∀ u ∈ p.a.hs, u ∉ p'.a.hs := by
 simp only [apartPA, Bool.and_eq_true, List.all_eq_true, Bool.or_eq_true, Bool.not_eq_true'] at h
 refine ⟨h.2, fun p' hp' hg u hu => ?_⟩
 rcases h.1 p' hp' with e | e
 ·rcases hg with hg | hg <;> simp [hg] at e
 ·simpa using e u hu
def gh (ps : List PA) : List Nat := AV.hss ((ps.filter (·.g)).map (·.a))
theorem gh_cons (p : PA) (ps : List PA) : (∀ u ∈ gh ps, u ∈ gh (p :: ps)) ∧ (p.g = true → ∀ u ∈ p.a.hs, u ∈ gh (p :: ps)) := by
 unfold gh
 by_cases hg : p.g = true
 ·simp only [List.filter_cons, hg, if_true, List.map_cons, AV.hss, List.mem_append]
  exact ⟨fun u h => .inr h, fun _ u h => .inl h⟩
 ·simp only [List.filter_cons, hg]
  exact ⟨fun u h => h, fun h => by simp at h⟩
theorem hss_mem {p : PA} {ps : List PA} (h : p ∈ ps) : ∀ u ∈ p.a.hs, u ∈ AV.hss (ps.map (·.a)) := by
 induction ps with
 | nil => cases h
 | cons p' ps ih =>
   intro u hu
   simp only [List.map_cons, AV.hss, List.mem_append]
   rcases List.mem_cons.1 h with rfl | h
   ·exact .inl hu
   ·exact .inr (ih h u hu)
theorem takeL_local : ∀ (ps : List PA) (s : St), (∀ p ∈ ps, GivenAt s p (fun d => d = p.d ∧ p.d.ow = true)) → apartPA ps = true →
  (∃ ms : List Md, (∀ m ∈ ms, m.x ∈ gh ps ∧ m.d.hs = []) ∧ ∀ s', Agree (AV.hss (ps.map (·.a))) s' s → takeL s' ps = chg ms s') ∧ ∀ p ∈ ps, GivenAt (takeL s ps) p (fun d => d = p.d.hollow ∧ p.d.ow = true) := by
 intro ps
 induction ps with
 | nil => intro s _ _; exact ⟨⟨[], by simp, fun s' _ => rfl⟩, fun p hp => by cases hp⟩
 | cons p ps ih =>
   intro s hg hap
   obtain ⟨hap1, hap2⟩ := apart_cons hap
   by_cases hpg : p.g = true
   ·obtain ⟨x, q, d, ha, hs, ⟨rfl, hd⟩, ho⟩ := hg p (by simp) hpg
    have hput : (AV.put q p.d.hollow (s x)).hs = [] := put_hs q _ _ _ hs (.inl (ow_spec hd).1) fun _ => hollow_hs hd
    have htake : ∀ s' : St, s' x = s x → p.take s' = chg [⟨.pk, x, AV.put q p.d.hollow (s x)⟩] s' := by
     intro s' e
     simp only [PA.take, hpg, if_true, ha, e, upd_pkS]
    have hne : ∀ p' ∈ ps, ∀ x' q', p'.a = .h x' q' → x' ≠ x := by
     intro p' hp' x' q' e e'
     have := hap2 p' hp' (.inl hpg) x (by simp [ha, AV.hs])
     rw [e, e'] at this; simp [AV.hs] at this
    have hkeep : ∀ x', x' ≠ x → (s x').hs = [] → chg [⟨.pk, x, AV.put q p.d.hollow (s x)⟩] s x' = s x' := by
     intro x' hx' h0
     simp only [chg, chgAt, Md.at]
     rw [if_neg hx']
     exact app_id (.inr (by rw [h0]; simp))
    obtain ⟨⟨ms, m1, m2⟩, m3⟩ := ih (chg [⟨.pk, x, AV.put q p.d.hollow (s x)⟩] s) (fun p' hp' hp'g => by
     obtain ⟨x', q', d', ha', hs', hd', ho'⟩ := hg p' (by simp [hp']) hp'g
     refine ⟨x', q', d', ha', ?_, hd', ho'⟩
     rw [hkeep x' (hne p' hp' x' q' ha') (sub_hs hs' (.inr (by rw [hd'.1]; exact own_hs hd'.2)))]; exact hs') hap1
    refine ⟨⟨[⟨.pk, x, AV.put q p.d.hollow (s x)⟩] ++ ms, ?_, ?_⟩, ?_⟩
    ·intro m hm
     rcases List.mem_append.1 hm with hm | hm
     ·simp only [List.mem_singleton] at hm; subst hm
      exact ⟨(gh_cons p ps).2 hpg x (by simp [ha, AV.hs]), hput⟩
     ·exact ⟨(gh_cons p ps).1 _ (m1 m hm).1, (m1 m hm).2⟩
    ·intro s' hs'
     simp only [List.map_cons, AV.hss] at hs'
     have e : s' x = s x := hs' x (by simp [ha, AV.hs])
     rw [chg_append]
     show takeL (p.take s') ps = _
     rw [htake s' e]
     exact m2 _ (Agree.chg hs'.right _)
    ·have e1 : takeL s (p :: ps) = takeL (chg [⟨.pk, x, AV.put q p.d.hollow (s x)⟩] s) ps := by
      show takeL (p.take s) ps = _
      rw [htake s rfl]
     rw [e1]
     intro p' hp'
     rcases List.mem_cons.1 hp' with rfl | hp'
     ·intro _
      refine ⟨x, q, p'.d.hollow, ha, ?_, ⟨rfl, hd⟩, ho⟩
      have hv : chg [⟨.pk, x, AV.put q p'.d.hollow (s x)⟩] s x = AV.put q p'.d.hollow (s x) := by
       simp only [chg, chgAt, Md.at, if_true]
      rw [takeL_keep (by rw [hv]; exact hput) (fun p'' hp'' hg'' => ?_), hv]
      ·exact sub_put q _ _ _ hs
      ·exact hap2 p'' hp'' (.inl hpg) x (by simp [ha, AV.hs])
     ·exact m3 p' hp'
   ·have htake : ∀ s' : St, p.take s' = s' := by intro s'; simp only [PA.take, hpg]; rfl
    obtain ⟨⟨ms, m1, m2⟩, m3⟩ := ih s (fun p' hp' => hg p' (by simp [hp'])) hap1
    refine ⟨⟨ms, fun m hm => ⟨(gh_cons p ps).1 _ (m1 m hm).1, (m1 m hm).2⟩, ?_⟩, ?_⟩
    ·intro s' hs'
     simp only [List.map_cons, AV.hss] at hs'
     show takeL (p.take s') ps = _
     rw [htake]; exact m2 s' hs'.right
    ·intro p' hp'
     have e1 : takeL s (p :: ps) = takeL s ps := by show takeL (p.take s) ps = _; rw [htake]
     rw [e1]
     rcases List.mem_cons.1 hp' with rfl | hp'
     ·intro h; exact (hpg h).elim
     ·exact m3 p' hp'
theorem giveL_local : ∀ (ps : List PA) (s : St), (∀ p ∈ ps, GivenAt s p (fun d => d = p.d.hollow ∧ p.d.ow = true)) → apartPA ps = true →
  (∃ ms : List Md, (∀ m ∈ ms, m.x ∈ gh ps ∧ m.d.hs = []) ∧ ∀ s', Agree (AV.hss (ps.map (·.a))) s' s → giveL s' ps = chg ms s') := by
 intro ps
 induction ps with
 | nil => intro s _ _; exact ⟨[], by simp, fun s' _ => rfl⟩
 | cons p ps ih =>
   intro s hg hap
   obtain ⟨hap1, hap2⟩ := apart_cons hap
   by_cases hpg : p.g = true ∧ p.o ≠ .hole
   ·obtain ⟨hpg, hoh⟩ := hpg
    obtain ⟨x, q, d, ha, hs, ⟨rfl, hd⟩, ho⟩ := hg p (by simp) hpg
    have ho : p.o.ow = true := ho.resolve_left hoh
    have hput : (AV.put q p.o (s x)).hs = [] := by
     cases q with
     | nil => simp only [AV.put]; exact own_hs ho
     | cons k q => exact put_hs _ _ _ _ hs (.inr (by simp)) (by simp)
    have hgive : ∀ s' : St, s' x = s x → p.give s' = chg [⟨.pg, x, AV.put q p.o (s x)⟩] s' := by
     intro s' e
     simp only [PA.give, hpg, if_true, ha]
     rw [e, upd_pgS]
    have hne : ∀ p' ∈ ps, ∀ x' q', p'.a = .h x' q' → x' ≠ x := by
     intro p' hp' x' q' e e'
     have := hap2 p' hp' (.inl hpg) x (by simp [ha, AV.hs])
     rw [e, e'] at this; simp [AV.hs] at this
    obtain ⟨ms, m1, m2⟩ := ih (chg [⟨.pg, x, AV.put q p.o (s x)⟩] s) (fun p' hp' hp'g => by
     obtain ⟨x', q', d', ha', hs', hd', ho'⟩ := hg p' (by simp [hp']) hp'g
     refine ⟨x', q', d', ha', ?_, hd', ho'⟩
     have h0 := sub_hs hs' (.inr (by rw [hd'.1]; exact hollow_hs hd'.2))
     have hkeep : chg [⟨.pg, x, AV.put q p.o (s x)⟩] s x' = s x' := by
      simp only [chg, chgAt, Md.at]
      rw [if_neg (hne p' hp' x' q' ha')]
      exact app_id (.inr (by rw [h0]; simp))
     rw [hkeep]; exact hs') hap1
    refine ⟨[⟨.pg, x, AV.put q p.o (s x)⟩] ++ ms, ?_, ?_⟩
    ·intro m hm
     rcases List.mem_append.1 hm with hm | hm
     ·simp only [List.mem_singleton] at hm; subst hm
      exact ⟨(gh_cons p ps).2 hpg x (by simp [ha, AV.hs]), hput⟩
     ·exact ⟨(gh_cons p ps).1 _ (m1 m hm).1, (m1 m hm).2⟩
    ·intro s' hs'
     simp only [List.map_cons, AV.hss] at hs'
     have e : s' x = s x := hs' x (by simp [ha, AV.hs])
     rw [chg_append]
     show giveL (p.give s') ps = _
     rw [hgive s' e]
     exact m2 _ (Agree.chg hs'.right _)
   ·have hgive : ∀ s' : St, p.give s' = s' := by
     intro s'
     unfold PA.give
     split
     ·rename_i hg'
      have : p.o = .hole := by
       by_cases h : p.o = .hole
       ·exact h
       ·exact (hpg ⟨hg', h⟩).elim
      rw [this]
     ·rfl
    obtain ⟨ms, m1, m2⟩ := ih s (fun p' hp' => hg p' (by simp [hp'])) hap1
    refine ⟨ms, fun m hm => ⟨(gh_cons p ps).1 _ (m1 m hm).1, (m1 m hm).2⟩, ?_⟩
    intro s' hs'
    simp only [List.map_cons, AV.hss] at hs'
    show giveL (p.give s') ps = _
    rw [hgive]; exact m2 s' hs'.right
theorem view_agree {s s' : St} : ∀ (a : AV) (d : AV), Agree a.hs s' s → view s a = some d → view s' a = some d := by
 intro a d h
 have := view_keep (s := s) (s' := s') a d
 intro hv
 cases a with
 | h x q => simp only [view] at hv ⊢; rw [h x (by simp [AV.hs])]; exact hv
 | hp x q => simp only [view] at hv ⊢; rw [h x (by simp [AV.hs])]; exact hv
 | fn f cap =>
   refine this (fun u hu _ => h u hu) hv
 | _ => exact hv
theorem pa_ok_agree {p : PA} {s s' : St} (h : Agree p.a.hs s' s) (hok : p.ok s) : p.ok s' := by
 unfold PA.ok at hok ⊢
 split
 ·rename_i hg
  rw [if_pos hg] at hok
  cases ha : p.a with
  | h x q =>
    rw [ha] at hok
    simp only at hok ⊢
    rw [h x (by simp [ha, AV.hs])]; exact hok
  | _ => rw [ha] at hok; exact hok.elim
 ·rename_i hg
  rw [if_neg hg] at hok
  exact view_agree _ _ h hok
def Lc (C : Cx) (o : RO) (s : St) (fp : FP) (ms : List Md) : Prop :=
 (∀ s', Agree fp.U s' s → ∀ K : St → Prop, K (chg ms s') → wpR C s' o K) ∧ (∀ m ∈ ms, m.x ∈ fp.T ∧ ∀ u ∈ m.d.hs, u ∈ fp.H) ∧ (∀ u ∈ fp.U, ∀ x ∈ (s u).hs, x ∈ fp.H) ∧ (fp.c = true → ∀ u ∈ fp.U, (s u).clean = true)
theorem fin_chg (dst : Option Nat) (av : AV) : ∃ ms : List Md, (∀ m ∈ ms, m.x ∈ dst.toList ∧ m.d = av) ∧ ∀ s1 : St, fin s1 dst av = chg ms s1 := by
 cases dst with
 | none => exact ⟨[], by simp, fun s => rfl⟩
 | some t =>
   simp only [fin]
   by_cases h : av.plain = true
   ·exact ⟨[⟨.no, t, av⟩], by simp, fun s => by rw [if_pos h, upd_no]⟩
   ·exact ⟨[⟨.pg, t, av⟩], by simp, fun s => by rw [if_neg h, upd_pgS]⟩
theorem fpO_H {s : St} {U : List Nat} {dst : Option Nat} {tk : List Nat} {av : AV} : (∀ u ∈ (fpO s U dst tk av).U, ∀ x ∈ (s u).hs, x ∈ (fpO s U dst tk av).H) ∧ ((fpO s U dst tk av).c = true → ∀ u ∈ (fpO s U dst tk av).U, (s u).clean = true) := by
 refine ⟨fun u hu x hx => ?_, fun hc => ?_⟩
 ·simp only [fpO, List.mem_append, List.mem_flatMap]; exact .inl ⟨u, hu, hx⟩
 ·simp only [fpO, List.all_eq_true] at hc; exact hc
theorem call_local {s : St} {f : SX} {args : List SX} {K : List Nat → AV → St → Prop} (h : wpCallT C s f args K) :
  ∃ tk av ms, K tk av (chg ms s) ∧ (∀ m ∈ ms, m.x ∈ tk ∧ m.d.hs = []) ∧ ∀ s', Agree (use s (.call f args)) s' s → ∀ K' : AV → St → Prop, K' av (chg ms s') → wpCall C s' f args K' := by
 obtain ⟨g, caps, ps, r, h1, hcp, h2, h3, h4, h5, h6, h7, h8⟩ := h
 have hga : ∀ p ∈ ps, GivenAt s p (fun d => d = p.d ∧ p.d.ow = true) := by
  intro p hp hg
  have := h3 p hp
  simp only [PA.ok, hg, if_true] at this
  cases ha : p.a with
  | h x q => rw [ha] at this; exact ⟨x, q, p.d, rfl, this.1, ⟨rfl, this.2.1⟩, this.2.2.imp id fun h => h.1⟩
  | _ => rw [ha] at this; exact this.elim
 obtain ⟨⟨ms1, a1, a2⟩, a3⟩ := takeL_local ps s hga h4
 obtain ⟨ms2, b1, b2⟩ := giveL_local ps (takeL s ps) a3 h4
 have hU : ∀ u ∈ AV.hss (ps.map (·.a)), u ∈ use s (.call f args) := by
  rw [h2]
  intro u hu
  simp only [use, List.mem_append]
  have key : ∀ (l1 l2 : List AV), u ∈ AV.hss (l1 ++ l2) → u ∈ AV.hss l1 ∨ u ∈ AV.hss l2 := by
   intro l1
   induction l1 with
   | nil => intro l2 h; exact .inr h
   | cons a l1 ih =>
     intro l2 h
     simp only [List.cons_append, AV.hss, List.mem_append] at h ⊢
     rcases h with h | h
     ·exact .inl (.inl h)
     ·exact (ih l2 h).imp .inr id
  rcases key _ _ hu with hu | hu
  ·exact .inr (SX.uses_evs u hu)
  ·refine .inl (SX.use_ev u ?_)
   rw [h1]; exact hu
 have e0 : giveL (takeL s ps) ps = chg (ms1 ++ ms2) s := by
  rw [chg_append, ← a2 s (fun _ _ => rfl), b2 _ (fun _ _ => rfl)]
 refine ⟨gh ps, r, ms1 ++ ms2, by rw [← e0]; exact h8, ?_, ?_⟩
 ·intro m hm
  rcases List.mem_append.1 hm with hm | hm
  ·exact a1 m hm
  ·exact b1 m hm
 ·intro s' hs K' hk
  have hs1 : Agree (AV.hss (ps.map (·.a))) s' s := hs.sub hU
  have hf : Agree (f.use s) s' s := by simp only [use] at hs; exact hs.left
  have hx : Agree (SX.uses s args) s' s := by simp only [use] at hs; exact hs.right
  have e1 : giveL (takeL s' ps) ps = chg (ms1 ++ ms2) s' := by
   rw [chg_append, ← a2 s' hs1, b2]
   rw [a2 s' hs1, a2 s (fun _ _ => rfl)]
   exact Agree.chg hs1 _
  exact ⟨g, caps, ps, r, by rw [SX.ev_agree hf]; exact h1, hcp, by rw [SX.evs_agree hx]; exact h2, fun p hp => pa_ok_agree (hs1.sub (hss_mem hp)) (h3 p hp), h4, h5, h6, h7, by rw [e1]; exact hk⟩
mutual
theorem kok_agree {s s' : St} : ∀ (d : AV), Agree d.hs s' s → d.kok s' = d.kok s
 | .h x q, h => by simp only [AV.kok]; rw [h x (by simp [AV.hs])]
 | .hb x q, h => by simp only [AV.kok]; rw [h x (by simp [AV.hs])]
 | .fn f cap, h => by simp only [AV.kok]; exact koks_agree cap (by simpa only [AV.hs] using h)
 | .hp _ _, _ => by simp only [AV.kok]
 | .hole, _ => by simp only [AV.kok]
 | .bool _, _ => by simp only [AV.kok]
 | .anyb, _ => by simp only [AV.kok]
 | .int _ _, _ => by simp only [AV.kok]
 | .str _, _ => by simp only [AV.kok]
 | .nilp, _ => by simp only [AV.kok]
 | .nils, _ => by simp only [AV.kok]
 | .slice _, _ => by simp only [AV.kok]
 | .uslice _ _, _ => by simp only [AV.kok]
 | .ref _, _ => by simp only [AV.kok]
 | .ubox _, _ => by simp only [AV.kok]
 | .agg _, _ => by simp only [AV.kok]
 | .tuple _, _ => by simp only [AV.kok]
theorem koks_agree {s s' : St} : ∀ (ds : List AV), Agree (AV.hss ds) s' s → AV.koks s' ds = AV.koks s ds
 | [], _ => rfl
 | d :: ds, h => by
   simp only [AV.hss] at h
   simp only [AV.koks]; rw [kok_agree d h.left, koks_agree ds h.right]
end
theorem kaL_agree {s s' : St} {us : List Nat} (h : Agree (us.flatMap fun u => u :: (s u).hs) s' s) : kaL s' us = kaL s us := by
 unfold kaL
 refine List.map_congr_left fun u hu => ?_
 rw [h u (List.mem_flatMap.2 ⟨u, hu, by simp⟩)]
theorem kokL_agree {s s' : St} : ∀ (L : List (Nat × AV)), (∀ p ∈ L, Agree p.2.hs s' s) → kokL s' L = kokL s L
 | [], _ => rfl
 | p :: L, h => by
   simp only [kokL]; rw [kok_agree p.2 (h p (by simp)), kokL_agree L (fun q hq => h q (by simp [hq]))]
theorem putL_chg : ∀ (L : List (Nat × AV)) (s : St), putL s L = chg (L.map fun p => ⟨.no, p.1, p.2⟩) s
 | [], s => rfl
 | p :: L, s => by
   simp only [putL, List.map_cons]
   rw [putL_chg L, upd_no]
   exact (chg_append [⟨.no, p.1, p.2⟩] _ s).symm
theorem wpOT_local {s : St} {so : SO} {K : List Nat → AV → St → Prop} (h : wpOT C s so K) :
  ∃ tk av ms, K tk av (chg ms s) ∧ (∀ m ∈ ms, m.x ∈ tk ∧ ∀ v ∈ m.d.hs, ∃ u ∈ use s so, v ∈ (s u).hs) ∧ ∀ s', Agree (use s so) s' s → ∀ K' : AV → St → Prop, K' av (chg ms s') → wpO C s' so K' := by
 have plain : (∃ av s1, eff C s so = some (av, s1) ∧ K (tks s so) av s1) → (∀ s' (K' : AV → St → Prop) av s1, eff C s' so = some (av, s1) → K' av s1 → wpO C s' so K') →
   ∃ tk av ms, K tk av (chg ms s) ∧ (∀ m ∈ ms, m.x ∈ tk ∧ ∀ v ∈ m.d.hs, ∃ u ∈ use s so, v ∈ (s u).hs) ∧ ∀ s', Agree (use s so) s' s → ∀ K' : AV → St → Prop, K' av (chg ms s') → wpO C s' so K' := by
  rintro ⟨av, s1, h1, h2⟩ hw
  obtain ⟨ms, e1, e2, e3⟩ := eff_local h1
  subst e1
  exact ⟨_, av, ms, h2, fun m hm => ⟨(e2 m hm).1, fun v hv => by rw [(e2 m hm).2] at hv; cases hv⟩, fun s' hs K' hk => hw s' K' av _ (e3 s' hs) hk⟩
 cases so with
 | call f args =>
   obtain ⟨tk, av, ms, a1, a2, a3⟩ := call_local h
   exact ⟨tk, av, ms, a1, fun m hm => ⟨(a2 m hm).1, fun v hv => by rw [(a2 m hm).2] at hv; cases hv⟩, fun s' hs K' hk => a3 s' hs K' hk⟩
 | kc f args u x =>
   obtain ⟨k1, k2, hc⟩ := h
   obtain ⟨tk, av, ms, ⟨a1, a1', a1''⟩, a2, a3⟩ := call_local hc
   have e : ∀ s : St, upd (chg ms s) u (.h x []) = chg (ms ++ [⟨.no, u, .h x []⟩]) s := fun s => by rw [chg_append, ← upd_no]
   refine ⟨u :: tk, av, ms ++ [⟨.no, u, .h x []⟩], by rw [← e]; exact a1'', ?_, ?_⟩
   ·intro m hm
    rcases List.mem_append.1 hm with hm | hm
    ·exact ⟨by simp [(a2 m hm).1], fun v hv => by rw [(a2 m hm).2] at hv; cases hv⟩
    ·simp only [List.mem_singleton] at hm; subst hm
     refine ⟨by simp, fun v hv => ⟨u, by simp [use], ?_⟩⟩
     rw [k1]; exact hv
   ·intro s' hs K' hk
    have eu : s' u = s u := hs u (by simp [use])
    have ex : s' x = s x := hs x (by simp [use])
    refine ⟨by rw [eu]; exact k1, by rw [ex]; exact k2, a3 s' (fun y hy => hs y (by simp only [use, List.mem_cons] at hy ⊢; exact .inr (.inr hy))) _ ⟨?_, ?_, ?_⟩⟩
    ·have := a1; simp only [chg] at this ⊢; rw [eu]; exact this
    ·have := a1'; simp only [chg] at this ⊢; rw [ex]; exact this
    ·rw [e]; exact hk
 | ka f args us =>
   obtain ⟨k2, hc⟩ := h
   obtain ⟨tk, av, ms, ⟨a1, a1'⟩, a2, a3⟩ := call_local hc
   have e : ∀ s' : St, putL (chg ms s') (kaL s us) = chg (ms ++ (kaL s us).map fun p => ⟨.no, p.1, p.2⟩) s' := fun s' => by rw [chg_append, putL_chg]
   have hh : ∀ {s' : St}, Agree (us.flatMap fun u => u :: (s u).hs) s' s → ∀ p ∈ kaL s us, Agree p.2.hs s' s := fun {s'} hs p hp v hv => by
    obtain ⟨u, hu, rfl⟩ := List.mem_map.1 hp
    exact hs v (List.mem_flatMap.2 ⟨u, hu, by simp [hv]⟩)
   refine ⟨us ++ tk, av, ms ++ (kaL s us).map fun p => ⟨.no, p.1, p.2⟩, by rw [← e]; exact a1', ?_, ?_⟩
   ·intro m hm
    rcases List.mem_append.1 hm with hm | hm
    ·exact ⟨by simp [(a2 m hm).1], fun v hv => by rw [(a2 m hm).2] at hv; cases hv⟩
    ·obtain ⟨p, hp, rfl⟩ := List.mem_map.1 hm
     obtain ⟨u, hu, rfl⟩ := List.mem_map.1 hp
     exact ⟨List.mem_append_left _ hu, fun v hv => ⟨u, by simp only [use, List.mem_append, List.mem_flatMap]; exact .inl ⟨u, hu, by simp⟩, hv⟩⟩
   ·intro s' hs K' hk
    simp only [use] at hs
    refine ⟨by rw [kaL_agree hs.left, kokL_agree _ (hh hs.left)]; exact k2, a3 s' hs.right _ ⟨?_, ?_⟩⟩
    ·rw [kaL_agree hs.left, kokL_agree _ (fun p hp => (hh hs.left p hp).chg ms)]; exact a1
    ·rw [kaL_agree hs.left, e]; exact hk
 | shr so =>
   obtain ⟨av, s1, h1, h2, h3, h4⟩ := h
   obtain ⟨ms, e1, e2, e3⟩ := eff_local h1
   subst e1
   exact ⟨_, av.share, ms, h4, fun m hm => ⟨(e2 m hm).1, fun v hv => by rw [(e2 m hm).2] at hv; cases hv⟩, fun s' hs K' hk => ⟨av, _, e3 s' hs, h2, h3, hk⟩⟩
 | _ => exact plain h (fun s' K' av s1 h1 h2 => ⟨av, s1, h1, h2⟩)
theorem wpRT_local {s : St} {o : RO} {K : FP → St → Prop} (h : wpRT C s o K) : ∃ fp ms, K fp (chg ms s) ∧ Lc C o s fp ms := by
 have op : ∀ (U : List Nat), (∀ u ∈ use s o.so, u ∈ U) → (∀ s', Agree U s' s → ∀ K' : St → Prop, wpO C s' o.so (fun av s1 => K' (fin s1 o.dst av)) → wpR C s' o K') →
   wpOT C s o.so (fun tk av s1 => K (fpO s U o.dst tk av) (fin s1 o.dst av)) → ∃ fp ms, K fp (chg ms s) ∧ Lc C o s fp ms := by
  intro U hU hR hw
  obtain ⟨tk, av, ms, h1, h2, h3⟩ := wpOT_local hw
  obtain ⟨ns, n1, n2⟩ := fin_chg o.dst av
  refine ⟨fpO s U o.dst tk av, ms ++ ns, ?_, ?_, ?_, fpO_H.1, fpO_H.2⟩
  ·rw [chg_append, ← n2]; exact h1
  ·intro s' hs K' hk
   refine hR s' hs K' (h3 s' (hs.sub hU) _ ?_)
   rw [n2, ← chg_append]; exact hk
  ·intro m hm
   simp only [fpO, List.mem_append]
   rcases List.mem_append.1 hm with hm | hm
   ·refine ⟨.inr (h2 m hm).1, fun v hv => .inl ?_⟩
    obtain ⟨u, hu, hv'⟩ := (h2 m hm).2 v hv
    exact List.mem_flatMap.2 ⟨u, hU u hu, hv'⟩
   ·exact ⟨.inl (n1 m hm).1, fun u hu => .inr (by rw [(n1 m hm).2] at hu; exact hu)⟩
 have skip : ∀ t, (∀ s', Agree [t] s' s → ∀ K' : St → Prop, K' (fin s' o.dst (.tuple [])) → wpR C s' o K') → K (fpO s [t] o.dst [] (.tuple [])) (fin s o.dst (.tuple [])) → ∃ fp ms, K fp (chg ms s) ∧ Lc C o s fp ms := by
  intro t hR hk
  obtain ⟨ns, n1, n2⟩ := fin_chg o.dst (.tuple [])
  refine ⟨_, ns, by rw [← n2]; exact hk, ?_, ?_, fpO_H.1, fpO_H.2⟩
  ·intro s' hs K' hk'
   exact hR s' hs K' (by rw [n2]; exact hk')
  ·intro m hm
   simp only [fpO, List.mem_append]
   exact ⟨.inl (n1 m hm).1, fun u hu => by rw [(n1 m hm).2] at hu; simp [AV.hs] at hu⟩
 unfold wpRT at h
 split at h
 ·rename_i hg
  exact op _ (fun _ h => h) (fun s' _ K' hw => by unfold wpR; rw [hg]; exact hw) h
 ·rename_i t b hg
  split at h
  ·rename_i b' hb
   split at h
   ·rename_i e
    refine op (t :: use s o.so) (fun u hu => by simp [hu]) (fun s' hs K' hw => ?_) h
    have : s' t = s t := hs t (by simp)
    unfold wpR
    rw [hg]
    simp only [this, hb, if_pos e]
    exact hw
   ·rename_i e
    refine skip t (fun s' hs K' hk => ?_) h
    have : s' t = s t := hs t (by simp)
    unfold wpR
    rw [hg]
    simp only [this, hb, if_neg e]
    exact hk
  ·rename_i hb
   refine skip t (fun s' hs K' hk => ?_) h
   have : s' t = s t := hs t (by simp)
   unfold wpR
   rw [hg]
   simp only [this, hb]
   exact hk
  ·exact h.elim
def Chain (C : Cx) (ros : List RO) : St → List (Nat × FP × List Md) → Prop
 | _, [] => True
 | s, e :: r => (∃ o, ros[e.1]? = some o ∧ Lc C o s e.2.1 e.2.2) ∧ Chain C ros (chg e.2.2 s) r
def fins (s : St) (r : List (Nat × FP × List Md)) : St := r.foldl (fun s e => chg e.2.2 s) s
def disj (a b : List Nat) : Bool := a.all fun x => !b.contains x
theorem disj_spec {a b : List Nat} (h : disj a b = true) : ∀ x ∈ a, x ∉ b := by
 intro x hx
 simp only [disj, List.all_eq_true] at h
 simpa using h x hx
def indB (a b : FP) : Bool := disj b.T a.U && disj b.T a.H && disj b.T a.T && disj a.T b.U && disj a.T b.H && b.c
theorem chain_swap {ros : List RO} {s : St} {a b : Nat × FP × List Md} {r : List (Nat × FP × List Md)} (h : Chain C ros s (a :: b :: r)) (hi : indB a.2.1 b.2.1 = true) :
  Chain C ros s (b :: a :: r) ∧ fins s (b :: a :: r) = fins s (a :: b :: r) := by
 obtain ⟨⟨oa, ha, a1, a2, a3, a4⟩, ⟨ob, hb, b1, b2, b3, b4⟩, hr⟩ := h
 simp only [indB, Bool.and_eq_true] at hi
 obtain ⟨⟨⟨⟨⟨i1, i2⟩, i3⟩, i4⟩, i5⟩, i6⟩ := hi
 have hub : ∀ u ∈ b.2.1.U, chg a.2.2 s u = s u := by
  intro u hu
  refine chgAt_clean _ _ _ (fun m hm e => ?_) (b4 i6 u hu)
  exact disj_spec i4 m.x (a2 m hm).1 (e ▸ hu)
 have hua : ∀ u ∈ a.2.1.U, chg b.2.2 s u = s u := by
  intro u hu
  refine chgAt_id _ _ _ fun m hm => ⟨fun e => ?_, fun hx => ?_⟩
  ·exact disj_spec i1 m.x (b2 m hm).1 (e ▸ hu)
  ·exact disj_spec i2 m.x (b2 m hm).1 (a3 u hu _ hx)
 have hcomm : chg b.2.2 (chg a.2.2 s) = chg a.2.2 (chg b.2.2 s) := by
  refine chg_comm _ _ _ fun m hm n hn => ⟨fun e => ?_, fun h => ?_, fun h => ?_⟩
  ·exact disj_spec i3 n.x (b2 n hn).1 (e ▸ (a2 m hm).1)
  ·exact disj_spec i2 n.x (b2 n hn).1 ((a2 m hm).2 _ h)
  ·exact disj_spec i5 m.x (a2 m hm).1 ((b2 n hn).2 _ h)
 refine ⟨⟨⟨ob, hb, ?_, b2, ?_, ?_⟩, ⟨oa, ha, ?_, a2, ?_, ?_⟩, ?_⟩, ?_⟩
 ·intro s' hs K hk
  exact b1 s' (fun u hu => (hs u hu).trans (hub u hu).symm) K hk
 ·intro u hu x hx
  exact b3 u hu x (by rw [hub u hu]; exact hx)
 ·intro hc u hu
  have := b4 hc u hu
  rwa [hub u hu] at this
 ·intro s' hs K hk
  exact a1 s' (fun u hu => (hs u hu).trans (hua u hu)) K hk
 ·intro u hu x hx
  rw [hua u hu] at hx
  exact a3 u hu x hx
 ·intro hc u hu
  rw [hua u hu]
  exact a4 hc u hu
 ·rw [← hcomm]; exact hr
 ·simp only [fins, List.foldl_cons]
  rw [hcomm]
theorem chain_front {ros : List RO} {e : Nat × FP × List Md} {post : List (Nat × FP × List Md)} : ∀ (pre : List (Nat × FP × List Md)) (s : St), Chain C ros s (pre ++ e :: post) → (∀ a ∈ pre, indB a.2.1 e.2.1 = true) →
  Chain C ros s (e :: (pre ++ post)) ∧ fins s (e :: (pre ++ post)) = fins s (pre ++ e :: post) := by
 intro pre
 induction pre with
 | nil => intro s h _; exact ⟨h, rfl⟩
 | cons a pre ih =>
   intro s h hi
   obtain ⟨h1, h2⟩ := h
   obtain ⟨g1, g2⟩ := ih _ h2 fun b hb => hi b (by simp [hb])
   have hc : Chain C ros s (a :: e :: (pre ++ post)) := ⟨h1, g1⟩
   obtain ⟨k1, k2⟩ := chain_swap hc (hi a (by simp))
   refine ⟨k1, k2.trans ?_⟩
   simp only [fins, List.foldl_cons, List.cons_append] at g2 ⊢
   exact g2
end
def closGo : List (List Nat) → List (List Nat) → List (List Nat)
 | done, [] => done
 | done, a :: r => closGo (done ++ [a ++ a.flatMap fun e => (done[e]?).getD []]) r
def clos (af : List (List Nat)) : List (List Nat) := closGo [] af
theorem closGo_spec {af : List (List Nat)} {l : List Nat} (hl : ∀ u i v, l = u ++ i :: v → ∀ e ∈ (af[i]?).getD [], e ∈ u) : ∀ (rest pre done : List (List Nat)), af = pre ++ rest → done.length = pre.length →
  (∀ u i v, l = u ++ i :: v → ∀ e ∈ (done[i]?).getD [], e ∈ u) → ∀ u i v, l = u ++ i :: v → ∀ e ∈ ((closGo done rest)[i]?).getD [], e ∈ u := by
 intro rest
 induction rest with
 | nil => intro pre done _ _ h; exact h
 | cons a rest ih =>
   intro pre done haf hlen h
   simp only [closGo]
   refine ih (pre ++ [a]) _ (by simp [haf]) (by simp [hlen]) ?_
   intro u i v hu e he
   by_cases hi : i < done.length
   ·rw [List.getElem?_append_left hi] at he
    exact h u i v hu e he
   ·rw [List.getElem?_append_right (by omega)] at he
    by_cases hi' : i - done.length = 0
    ·rw [hi'] at he
     simp only [List.getElem?_cons_zero, Option.getD_some, List.mem_append, List.mem_flatMap] at he
     have hia : (af[i]?).getD [] = a := by
      have : i = pre.length := by omega
      rw [haf, this, List.getElem?_append_right (Nat.le_refl _)]; simp
     rcases he with he | ⟨e', he', he⟩
     ·exact hl u i v hu e (by rw [hia]; exact he)
     ·have hu' := hl u i v hu e' (by rw [hia]; exact he')
      obtain ⟨u1, u2, rfl⟩ := List.append_of_mem hu'
      have := h u1 e' (u2 ++ i :: v) (by rw [hu]; simp) e he
      simp [this]
    ·rw [List.getElem?_eq_none (by simp; omega)] at he
     simp at he
theorem clos_spec {af : List (List Nat)} {l : List Nat} (hl : ∀ u i v, l = u ++ i :: v → ∀ e ∈ (af[i]?).getD [], e ∈ u) : ∀ u i v, l = u ++ i :: v → ∀ e ∈ ((clos af)[i]?).getD [], e ∈ u :=
 closGo_spec hl af [] [] rfl rfl fun u i v _ e he => by simp at he
def okP (cl : List (List Nat)) : Nat → List (Nat × FP) → List FP → Bool
 | _, _, [] => true
 | j, es, f :: fs => (es.all fun e => ((cl[j]?).getD []).contains e.1 || indB e.2 f) && okP cl (j + 1) ((j, f) :: es) fs
def Rl (cl : List (List Nat)) (a b : Nat × FP × List Md) : Prop := a.1 ∈ (cl[b.1]?).getD [] ∨ indB a.2.1 b.2.1 = true
theorem okP_spec {cl : List (List Nat)} : ∀ (its : List (Nat × FP × List Md)) (j : Nat) (es : List (Nat × FP)), its.map (·.1) = (List.range its.length).map (· + j) → okP cl j es (its.map (·.2.1)) = true →
  its.Pairwise (Rl cl) ∧ ∀ e ∈ es, ∀ b ∈ its, e.1 ∈ (cl[b.1]?).getD [] ∨ indB e.2 b.2.1 = true := by
 intro its
 induction its with
 | nil => intro j es _ _; exact ⟨.nil, fun e _ b hb => by cases hb⟩
 | cons a its ih =>
   intro j es hidx hok
   rw [List.length_cons, List.range_succ_eq_map, List.map_cons, List.map_cons, List.map_map] at hidx
   simp only [List.cons.injEq, Nat.zero_add] at hidx
   obtain ⟨hj, hidx⟩ := hidx
   simp only [List.map_cons, okP, Bool.and_eq_true, List.all_eq_true, Bool.or_eq_true] at hok
   obtain ⟨h1, h2⟩ := hok
   obtain ⟨g1, g2⟩ := ih (j + 1) _ (by rw [hidx]; congr 1; funext x; simp; omega) h2
   refine ⟨.cons (fun b hb => ?_) g1, fun e he b hb => ?_⟩
   ·have := g2 (j, a.2.1) (by simp) b hb
    simp only [Rl, hj]; exact this
   ·rcases List.mem_cons.1 hb with rfl | hb
    ·rw [hj]
     exact (h1 e he).imp (fun h => by simpa using h) id
    ·exact g2 e (by simp [he]) b hb
section
variable {C : Cx}
theorem wpT_chain {K : Option (List FP) → St → Prop} : ∀ (os pre : List RO) (s : St) (acc : List FP), wpT C s os (some acc) K →
  ∃ its, Chain C (pre ++ os) s its ∧ its.map (·.1) = (List.range os.length).map (· + pre.length) ∧ K (some ((its.map (·.2.1)).reverse ++ acc)) (fins s its) := by
 intro os
 induction os with
 | nil => intro pre s acc h; exact ⟨[], trivial, rfl, h⟩
 | cons o os ih =>
   intro pre s acc h
   obtain ⟨fp, ms, h1, h2⟩ := wpRT_local h
   obtain ⟨its, g1, g2, g3⟩ := ih (pre ++ [o]) _ (fp :: acc) h1
   refine ⟨(pre.length, fp, ms) :: its, ⟨⟨o, ?_, h2⟩, ?_⟩, ?_, ?_⟩
   ·rw [List.getElem?_append_right (Nat.le_refl _)]; simp
   ·simpa using g1
   ·rw [List.length_cons, List.range_succ_eq_map, List.map_cons, List.map_cons, List.map_map, g2]
    simp only [List.cons.injEq, Nat.zero_add, true_and]
    congr 1; funext x; simp; omega
   ·simpa [fins] using g3
theorem lin_run {ros : List RO} {cl : List (List Nat)} {K : St → Prop} : ∀ (l : List Nat) (its : List (Nat × FP × List Md)) (s : St), Chain C ros s its → its.Pairwise (Rl cl) → l.Nodup → (its.map (·.1)).Nodup →
  (∀ i, i ∈ l ↔ i ∈ its.map (·.1)) → (∀ u i v, l = u ++ i :: v → ∀ e ∈ (cl[i]?).getD [], e ∈ its.map (·.1) → e ∈ u) → K (fins s its) → wpI C ros s l K := by
 intro l
 induction l with
 | nil =>
   intro its s _ _ _ _ hm _ hk
   cases its with
   | nil => exact hk
   | cons e its => have := (hm e.1).2 (by simp); cases this
 | cons i l ih =>
   intro its s hc hp hn hn' hm ho hk
   obtain ⟨e, he, hi⟩ := List.mem_map.1 ((hm i).1 (by simp))
   obtain ⟨pre, post, rfl⟩ := List.append_of_mem he
   have hind : ∀ a ∈ pre, indB a.2.1 e.2.1 = true := by
    intro a ha
    have hr := (List.pairwise_append.1 hp).2.2 a ha e (by simp)
    rcases hr with hr | hr
    ·rw [hi] at hr
     have := ho [] i l rfl a.1 hr (by simp only [List.map_append, List.mem_append, List.mem_map]; exact .inl ⟨a, ha, rfl⟩)
     cases this
    ·exact hr
   obtain ⟨g1, g2⟩ := chain_front pre s hc hind
   obtain ⟨⟨o, ho1, ho2⟩, g3⟩ := g1
   have hni : i ∉ (pre ++ post).map (·.1) := by
    have : (pre.map (·.1) ++ e.1 :: post.map (·.1)).Nodup := by simpa using hn'
    have h' := (List.perm_middle.nodup_iff.1 this)
    rw [List.nodup_cons] at h'
    rw [← hi]; simpa using h'.1
   simp only [wpI]
   rw [← hi, ho1]
   refine ho2.1 s (fun _ _ => rfl) _ ?_
   rw [List.nodup_cons] at hn
   refine ih (pre ++ post) _ g3 ?_ hn.2 ?_ ?_ ?_ ?_
   ·exact hp.sublist ((List.Sublist.refl pre).append (List.sublist_cons_self e post))
   ·have : (pre.map (·.1) ++ e.1 :: post.map (·.1)).Nodup := by simpa using hn'
    have h' := (List.perm_middle.nodup_iff.1 this)
    rw [List.nodup_cons] at h'
    simpa using h'.2
   ·intro j
    constructor
    ·intro hj
     have h1 := (hm j).1 (by simp [hj])
     simp only [List.map_append, List.map_cons, List.mem_append, List.mem_cons] at h1 ⊢
     rcases h1 with h1 | rfl | h1
     ·exact .inl h1
     ·exact (hn.1 (hi ▸ hj)).elim
     ·exact .inr h1
    ·intro hj
     have h1 := (hm j).2 (by
      simp only [List.map_append, List.map_cons, List.mem_append, List.mem_cons] at hj ⊢
      exact hj.imp id .inr)
     rcases List.mem_cons.1 h1 with rfl | h1
     ·exact (hni hj).elim
     ·exact h1
   ·intro u j v hu x hx hxi
    have h1 := ho (i :: u) j v (by rw [hu]; rfl) x hx (by
     simp only [List.map_append, List.map_cons, List.mem_append, List.mem_cons] at hxi ⊢
     exact hxi.imp id .inr)
    rcases List.mem_cons.1 h1 with rfl | h1
    ·exact (hni hxi).elim
    ·exact h1
   ·have : fins s (e :: (pre ++ post)) = fins (chg e.2.2 s) (pre ++ post) := rfl
    rw [← this, g2]; exact hk
theorem drw_of_T {ros : List RO} {af : List (List Nat)} {s : St} {K : St → Prop} (hlen : af.length = ros.length)
  (h : wpT C s ros (some []) (fun acc s => okP (clos af) 0 [] (acc.getD []).reverse = true ∧ K s)) : ∀ l, Lin af l → wpI C ros s l K := by
 intro l ⟨l1, l2, l3⟩
 obtain ⟨its, g1, g2, g3, g4⟩ := wpT_chain ros [] s [] h
 simp only [List.nil_append, List.append_nil, List.length_nil, Option.getD_some, List.reverse_reverse] at g1 g2 g3
 have hl : its.length = ros.length := by have := congrArg List.length g2; simpa using this
 have hidx : its.map (·.1) = (List.range its.length).map (· + 0) := by rw [g2, hl]
 have hr : its.map (·.1) = List.range ros.length := by rw [g2]; simp
 obtain ⟨p1, _⟩ := okP_spec its 0 [] hidx g3
 refine lin_run l its s g1 p1 l1 (by rw [hr]; exact List.nodup_range) (fun i => ?_) (fun u i v hu e he _ => clos_spec l3 u i v hu e he) g4
 rw [hr, l2, hlen, List.mem_range]
end
def go0 (C : Cx) (dst : Option Nat) (os : List RO) (K : Option (List FP) → St → Prop) : Option (AV × St) → Prop
 | some (av, s1) => wpT C (fin s1 dst av) os none K
 | none => False
def go1 (C : Cx) (l : List (Nat × AV)) (U tk : List Nat) (dst : Option Nat) (os : List RO) (a : List FP) (K : Option (List FP) → St → Prop) : Option (AV × St) → Prop
 | some (av, s1) => wpT C (fin s1 dst av) os (some (fpO (stA l) U dst tk av :: a)) K
 | none => False
def gdT (C : Cx) (l : List (Nat × AV)) (dst : Option Nat) (so : SO) (t : Nat) (b : Bool) (os : List RO) (acc : Option (List FP)) (K : Option (List FP) → St → Prop) : AV → Prop
 | .bool b' => if b' = b then wpOT C (stA l) so (fun tk av s1 => wpT C (fin s1 dst av) os (pushF acc (fpO (stA l) (t :: use (stA l) so) dst tk av)) K) else wpT C (fin (stA l) dst (.tuple [])) os (pushF acc (fpO (stA l) [t] dst [] (.tuple []))) K
 | .tuple [] => wpT C (fin (stA l) dst (.tuple [])) os (pushF acc (fpO (stA l) [t] dst [] (.tuple []))) K
 | _ => False
section
variable {C : Cx} {l : List (Nat × AV)} {os : List RO} {K : Option (List FP) → St → Prop} {dst : Option Nat} {a : List FP} {acc : Option (List FP)}
theorem wpOT_eff {s : St} {so : SO} {K : List Nat → AV → St → Prop} (hn : so.isCall = false) : wpOT C s so K = (match eff C s so with
  | some (av, s1) => K (tks s so) av s1
  | none => False) := by
 apply propext
 constructor
 ·intro h
  cases so <;> first
   | (simp [SO.isCall] at hn; done)
   | (obtain ⟨av, s1, h1, h2⟩ := h; rw [h1]; exact h2)
 ·intro h
  split at h
  ·rename_i av s1 he
   cases so <;> first
    | (simp [SO.isCall] at hn; done)
    | exact ⟨av, s1, he, h⟩
  ·exact h.elim
theorem wpT_nil : wpT C (stA l) [] acc K = K acc (stA l) := rfl
theorem wpT_0 {so : SO} (hn : so.isCall = false) : wpT C (stA l) (⟨dst, so, none⟩ :: os) none K = go0 C dst os K (eff C (stA l) so) := by
 simp only [wpT, wpRT, pushF]
 rw [wpOT_eff hn]
 cases eff C (stA l) so with
 | none => rfl
 | some p => rfl
theorem wpT_1 {so : SO} (hn : so.isCall = false) : wpT C (stA l) (⟨dst, so, none⟩ :: os) (some a) K = go1 C l (use (stA l) so) (tks (stA l) so) dst os a K (eff C (stA l) so) := by
 simp only [wpT, wpRT, pushF]
 rw [wpOT_eff hn]
 cases eff C (stA l) so with
 | none => rfl
 | some p => rfl
theorem wpT_g {so : SO} {t : Nat} {b : Bool} : wpT C (stA l) (⟨dst, so, some (t, b)⟩ :: os) acc K = gdT C l dst so t b os acc K (stA l t) := by
 simp only [wpT, wpRT]
 generalize stA l t = v
 cases v <;> first | rfl | (rename_i vs; cases vs <;> rfl)
theorem gdT_0 {so : SO} {t : Nat} {b : Bool} (hn : so.isCall = false) : gdT C l dst so t b os none K (.bool b) = go0 C dst os K (eff C (stA l) so) := by
 simp only [gdT, if_true]
 rw [wpOT_eff hn]
 cases eff C (stA l) so with
 | none => rfl
 | some p => rfl
theorem gdT_1 {so : SO} {t : Nat} {b : Bool} (hn : so.isCall = false) : gdT C l dst so t b os (some a) K (.bool b) = go1 C l (t :: use (stA l) so) (tks (stA l) so) dst os a K (eff C (stA l) so) := by
 simp only [gdT, if_true]
 rw [wpOT_eff hn]
 cases eff C (stA l) so with
 | none => rfl
 | some p => rfl
theorem gdT_no0 {so : SO} {t : Nat} : gdT C l dst so t true os none K (.bool false) = wpT C (fin (stA l) dst (.tuple [])) os none K ∧ gdT C l dst so t false os none K (.bool true) = wpT C (fin (stA l) dst (.tuple [])) os none K ∧
  (∀ b, gdT C l dst so t b os none K (.tuple []) = wpT C (fin (stA l) dst (.tuple [])) os none K) := ⟨rfl, rfl, fun _ => rfl⟩
theorem gdT_no1 {so : SO} {t : Nat} : gdT C l dst so t true os (some a) K (.bool false) = wpT C (fin (stA l) dst (.tuple [])) os (some (fpO (stA l) [t] dst [] (.tuple []) :: a)) K ∧
  gdT C l dst so t false os (some a) K (.bool true) = wpT C (fin (stA l) dst (.tuple [])) os (some (fpO (stA l) [t] dst [] (.tuple []) :: a)) K ∧
  (∀ b, gdT C l dst so t b os (some a) K (.tuple []) = wpT C (fin (stA l) dst (.tuple [])) os (some (fpO (stA l) [t] dst [] (.tuple []) :: a)) K) := ⟨rfl, rfl, fun _ => rfl⟩
theorem go0_some (av : AV) (s1 : St) : go0 C dst os K (some (av, s1)) = wpT C (fin s1 dst av) os none K := rfl
theorem go1_some (U tk : List Nat) (av : AV) (s1 : St) : go1 C l U tk dst os a K (some (av, s1)) = wpT C (fin s1 dst av) os (some (fpO (stA l) U dst tk av :: a)) K := rfl
def asgV (s : St) : AV → Option (AV × St)
 | .h y q => tk s (.h y q)
 | d => some (d, s)
def pickV (s : St) : AV → AV → AV → Option (AV × St)
 | .bool b', x, y => some (if b' then x else y, s)
 | _, _, _ => none
def keepS (s : St) : Option AV → Option (AV × St)
 | some d => some (d, s)
 | none => none
def stoS : Option St → Option (AV × St)
 | some s1 => some (.hole, s1)
 | none => none
def evs (s : St) : List SX → List AV
 | [] => []
 | x :: xs => ev s x :: evs s xs
def evPs (s : St) : List (Nat × SX) → List (Nat × AV)
 | [] => []
 | (k, x) :: xs => (k, ev s x) :: evPs s xs
def evO (s : St) : Option SX → Option AV
 | none => none
 | some x => some (ev s x)
theorem keepS_map (s : St) (x : Option AV) : (x.map fun d => (d, s)) = keepS s x := by cases x <;> rfl
theorem stoS_map (x : Option St) : (x.map fun s1 => (AV.hole, s1)) = stoS x := by cases x <;> rfl
theorem evs_map (s : St) : ∀ xs : List SX, xs.map (ev s) = evs s xs
 | [] => rfl
 | x :: xs => by simp only [List.map_cons, evs, evs_map s xs]
theorem evPs_map (s : St) : ∀ xs : List (Nat × SX), (xs.map fun p => (p.1, ev s p.2)) = evPs s xs
 | [] => rfl
 | (k, x) :: xs => by simp only [List.map_cons, evPs, evPs_map s xs]
theorem evO_map (s : St) (x : Option SX) : x.map (ev s) = evO s x := by cases x <;> rfl
theorem eff_mv (x : SX) : eff C (stA l) (.mv x) = some (ev (stA l) x, stA l) := by
 rfl
theorem eff_asg (x : SX) : eff C (stA l) (.asg x) = asgV (stA l) (ev (stA l) x) := by
 simp only [eff]; cases ev (stA l) x <;> rfl
theorem eff_pick (c x y : SX) : eff C (stA l) (.pick c x y) = pickV (stA l) (ev (stA l) c) (ev (stA l) x) (ev (stA l) y) := by
 simp only [eff]; cases ev (stA l) c <;> first | rfl | (rename_i b; cases b <;> rfl)
theorem eff_alc (T : TypeId) : eff C (stA l) (.alc T) = keepS (stA l) (alc C T) := by
 simp only [eff, keepS_map]
theorem eff_bx (T : TypeId) (x : SX) : eff C (stA l) (.bx T x) = bx (stA l) (ev (stA l) x) := by
 rfl
theorem eff_bld (T : TypeId) (ps : List (Nat × SX)) : eff C (stA l) (.bld T ps) = bld C (stA l) T (evPs (stA l) ps) := by
 simp only [eff, evPs_map]
theorem eff_bsl (T : TypeId) (n : Nat) (ps : List (Nat × SX)) : eff C (stA l) (.bsl T n ps) = bsl C (stA l) T n (evPs (stA l) ps) := by
 simp only [eff, evPs_map]
theorem eff_ld (T : TypeId) (x : SX) : eff C (stA l) (.ld T x) = keepS (stA l) (ld C (stA l) T (ev (stA l) x)) := by
 simp only [eff, keepS_map]
theorem eff_sto (T : TypeId) (x y : SX) : eff C (stA l) (.sto T x y) = stoS (sto C (stA l) T (ev (stA l) x) (ev (stA l) y)) := by
 simp only [eff, stoS_map]
theorem eff_nilc (x : SX) : eff C (stA l) (.nilc x) = keepS (stA l) (nilc (stA l) (ev (stA l) x)) := by
 simp only [eff, keepS_map]
theorem eff_bn (op : BinOp) (T : TypeId) (x y : SX) : eff C (stA l) (.bn op T x y) = keepS (stA l) (bn C (stA l) op T (ev (stA l) x) (ev (stA l) y)) := by
 simp only [eff, keepS_map]
theorem eff_un (op : UnOp) (x : SX) : eff C (stA l) (.un op x) = keepS (stA l) (un op (ev (stA l) x)) := by
 simp only [eff, keepS_map]
theorem eff_cvt (A B : TypeId) (x : SX) : eff C (stA l) (.cvt A B x) = keepS (stA l) (cvt C (stA l) A B (ev (stA l) x)) := by
 simp only [eff, keepS_map]
theorem eff_mkf (f : FuncId) (cs : List SX) : eff C (stA l) (.mkf f cs) = some (.fn f (evs (stA l) cs), stA l) := by
 simp only [eff, evs_map]
theorem eff_mks (T : TypeId) (x y : SX) : eff C (stA l) (.mks T x y) = keepS (stA l) (mks C T (ev (stA l) x) (ev (stA l) y)) := by
 simp only [eff, keepS_map]
theorem eff_slc (T : TypeId) (x : SX) (lo hi : Option SX) : eff C (stA l) (.slc T x lo hi) = slc C (stA l) T (ev (stA l) x) (evO (stA l) lo) (evO (stA l) hi) := by
 simp only [eff, evO_map]
theorem eff_fa (T : TypeId) (x : SX) (k : Nat) : eff C (stA l) (.fa T x k) = keepS (stA l) (fa C (stA l) T (ev (stA l) x) k) := by
 simp only [eff, keepS_map]
theorem eff_ia (T : TypeId) (x y : SX) : eff C (stA l) (.ia T x y) = keepS (stA l) (ia C (stA l) T (ev (stA l) x) (ev (stA l) y)) := by
 simp only [eff, keepS_map]
theorem eff_idx (T : TypeId) (x y : SX) : eff C (stA l) (.idx T x y) = keepS (stA l) (idx C T (ev (stA l) x) (ev (stA l) y)) := by
 simp only [eff, keepS_map]
theorem eff_ex (x : SX) (k : Nat) : eff C (stA l) (.ex x k) = keepS (stA l) (ex (stA l) (ev (stA l) x) k) := by
 simp only [eff, keepS_map]
theorem eff_len (T : TypeId) (x : SX) : eff C (stA l) (.len T x) = keepS (stA l) (ln C (stA l) T (ev (stA l) x)) := by
 simp only [eff, keepS_map]
theorem eff_app (T U : TypeId) (x y : SX) : eff C (stA l) (.app T U x y) = apd C (stA l) T U (ev (stA l) x) (ev (stA l) y) := by
 rfl
theorem stp0 :
  (∀ (x : SX) , wpT C (stA l) (⟨dst, .mv x, none⟩ :: os) none K = go0 C dst os K (some (ev (stA l) x, stA l))) ∧
  (∀ (x : SX) , wpT C (stA l) (⟨dst, .asg x, none⟩ :: os) none K = go0 C dst os K (asgV (stA l) (ev (stA l) x))) ∧
  (∀ (c x y : SX) , wpT C (stA l) (⟨dst, .pick c x y, none⟩ :: os) none K = go0 C dst os K (pickV (stA l) (ev (stA l) c) (ev (stA l) x) (ev (stA l) y))) ∧
  (∀ (T : TypeId) , wpT C (stA l) (⟨dst, .alc T, none⟩ :: os) none K = go0 C dst os K (keepS (stA l) (alc C T))) ∧
  (∀ (T : TypeId) (x : SX) , wpT C (stA l) (⟨dst, .bx T x, none⟩ :: os) none K = go0 C dst os K (bx (stA l) (ev (stA l) x))) ∧
  (∀ (T : TypeId) (ps : List (Nat × SX)) , wpT C (stA l) (⟨dst, .bld T ps, none⟩ :: os) none K = go0 C dst os K (bld C (stA l) T (evPs (stA l) ps))) ∧
  (∀ (T : TypeId) (n : Nat) (ps : List (Nat × SX)) , wpT C (stA l) (⟨dst, .bsl T n ps, none⟩ :: os) none K = go0 C dst os K (bsl C (stA l) T n (evPs (stA l) ps))) ∧
  (∀ (T : TypeId) (x : SX) , wpT C (stA l) (⟨dst, .ld T x, none⟩ :: os) none K = go0 C dst os K (keepS (stA l) (ld C (stA l) T (ev (stA l) x)))) ∧
  (∀ (T : TypeId) (x y : SX) , wpT C (stA l) (⟨dst, .sto T x y, none⟩ :: os) none K = go0 C dst os K (stoS (sto C (stA l) T (ev (stA l) x) (ev (stA l) y)))) ∧
  (∀ (x : SX) , wpT C (stA l) (⟨dst, .nilc x, none⟩ :: os) none K = go0 C dst os K (keepS (stA l) (nilc (stA l) (ev (stA l) x)))) ∧
  (∀ (op : BinOp) (T : TypeId) (x y : SX) , wpT C (stA l) (⟨dst, .bn op T x y, none⟩ :: os) none K = go0 C dst os K (keepS (stA l) (bn C (stA l) op T (ev (stA l) x) (ev (stA l) y)))) ∧
  (∀ (op : UnOp) (x : SX) , wpT C (stA l) (⟨dst, .un op x, none⟩ :: os) none K = go0 C dst os K (keepS (stA l) (un op (ev (stA l) x)))) ∧
  (∀ (A B : TypeId) (x : SX) , wpT C (stA l) (⟨dst, .cvt A B x, none⟩ :: os) none K = go0 C dst os K (keepS (stA l) (cvt C (stA l) A B (ev (stA l) x)))) ∧
  (∀ (f : FuncId) (cs : List SX) , wpT C (stA l) (⟨dst, .mkf f cs, none⟩ :: os) none K = go0 C dst os K (some (.fn f (evs (stA l) cs), stA l))) ∧
  (∀ (T : TypeId) (x y : SX) , wpT C (stA l) (⟨dst, .mks T x y, none⟩ :: os) none K = go0 C dst os K (keepS (stA l) (mks C T (ev (stA l) x) (ev (stA l) y)))) ∧
  (∀ (T : TypeId) (x : SX) (lo hi : Option SX) , wpT C (stA l) (⟨dst, .slc T x lo hi, none⟩ :: os) none K = go0 C dst os K (slc C (stA l) T (ev (stA l) x) (evO (stA l) lo) (evO (stA l) hi))) ∧
  (∀ (T : TypeId) (x : SX) (k : Nat) , wpT C (stA l) (⟨dst, .fa T x k, none⟩ :: os) none K = go0 C dst os K (keepS (stA l) (fa C (stA l) T (ev (stA l) x) k))) ∧
  (∀ (T : TypeId) (x y : SX) , wpT C (stA l) (⟨dst, .ia T x y, none⟩ :: os) none K = go0 C dst os K (keepS (stA l) (ia C (stA l) T (ev (stA l) x) (ev (stA l) y)))) ∧
  (∀ (T : TypeId) (x y : SX) , wpT C (stA l) (⟨dst, .idx T x y, none⟩ :: os) none K = go0 C dst os K (keepS (stA l) (idx C T (ev (stA l) x) (ev (stA l) y)))) ∧
  (∀ (x : SX) (k : Nat) , wpT C (stA l) (⟨dst, .ex x k, none⟩ :: os) none K = go0 C dst os K (keepS (stA l) (ex (stA l) (ev (stA l) x) k))) ∧
  (∀ (T : TypeId) (x : SX) , wpT C (stA l) (⟨dst, .len T x, none⟩ :: os) none K = go0 C dst os K (keepS (stA l) (ln C (stA l) T (ev (stA l) x)))) ∧
  (∀ (T U : TypeId) (x y : SX) , wpT C (stA l) (⟨dst, .app T U x y, none⟩ :: os) none K = go0 C dst os K (apd C (stA l) T U (ev (stA l) x) (ev (stA l) y))) :=
 ⟨fun x => (wpT_0 rfl).trans (congrArg _ (eff_mv x)), fun x => (wpT_0 rfl).trans (congrArg _ (eff_asg x)), fun c x y => (wpT_0 rfl).trans (congrArg _ (eff_pick c x y)), fun T => (wpT_0 rfl).trans (congrArg _ (eff_alc T)), fun T x => (wpT_0 rfl).trans (congrArg _ (eff_bx T x)), fun T ps => (wpT_0 rfl).trans (congrArg _ (eff_bld T ps)), fun T n ps => (wpT_0 rfl).trans (congrArg _ (eff_bsl T n ps)), fun T x => (wpT_0 rfl).trans (congrArg _ (eff_ld T x)), fun T x y => (wpT_0 rfl).trans (congrArg _ (eff_sto T x y)), fun x => (wpT_0 rfl).trans (congrArg _ (eff_nilc x)), fun op T x y => (wpT_0 rfl).trans (congrArg _ (eff_bn op T x y)), fun op x => (wpT_0 rfl).trans (congrArg _ (eff_un op x)), fun A B x => (wpT_0 rfl).trans (congrArg _ (eff_cvt A B x)), fun f cs => (wpT_0 rfl).trans (congrArg _ (eff_mkf f cs)), fun T x y => (wpT_0 rfl).trans (congrArg _ (eff_mks T x y)), fun T x lo hi => (wpT_0 rfl).trans (congrArg _ (eff_slc T x lo hi)), fun T x k => (wpT_0 rfl).trans (congrArg _ (eff_fa T x k)), fun T x y => (wpT_0 rfl).trans (congrArg _ (eff_ia T x y)), fun T x y => (wpT_0 rfl).trans (congrArg _ (eff_idx T x y)), fun x k => (wpT_0 rfl).trans (congrArg _ (eff_ex x k)), fun T x => (wpT_0 rfl).trans (congrArg _ (eff_len T x)), fun T U x y => (wpT_0 rfl).trans (congrArg _ (eff_app T U x y))⟩
theorem stp1 :
  (∀ (x : SX) , wpT C (stA l) (⟨dst, .mv x, none⟩ :: os) (some a) K = go1 C l (use (stA l) (.mv x)) (tks (stA l) (.mv x)) dst os a K (some (ev (stA l) x, stA l))) ∧
  (∀ (x : SX) , wpT C (stA l) (⟨dst, .asg x, none⟩ :: os) (some a) K = go1 C l (use (stA l) (.asg x)) (tks (stA l) (.asg x)) dst os a K (asgV (stA l) (ev (stA l) x))) ∧
  (∀ (c x y : SX) , wpT C (stA l) (⟨dst, .pick c x y, none⟩ :: os) (some a) K = go1 C l (use (stA l) (.pick c x y)) (tks (stA l) (.pick c x y)) dst os a K (pickV (stA l) (ev (stA l) c) (ev (stA l) x) (ev (stA l) y))) ∧
  (∀ (T : TypeId) , wpT C (stA l) (⟨dst, .alc T, none⟩ :: os) (some a) K = go1 C l (use (stA l) (.alc T)) (tks (stA l) (.alc T)) dst os a K (keepS (stA l) (alc C T))) ∧
  (∀ (T : TypeId) (x : SX) , wpT C (stA l) (⟨dst, .bx T x, none⟩ :: os) (some a) K = go1 C l (use (stA l) (.bx T x)) (tks (stA l) (.bx T x)) dst os a K (bx (stA l) (ev (stA l) x))) ∧
  (∀ (T : TypeId) (ps : List (Nat × SX)) , wpT C (stA l) (⟨dst, .bld T ps, none⟩ :: os) (some a) K = go1 C l (use (stA l) (.bld T ps)) (tks (stA l) (.bld T ps)) dst os a K (bld C (stA l) T (evPs (stA l) ps))) ∧
  (∀ (T : TypeId) (n : Nat) (ps : List (Nat × SX)) , wpT C (stA l) (⟨dst, .bsl T n ps, none⟩ :: os) (some a) K = go1 C l (use (stA l) (.bsl T n ps)) (tks (stA l) (.bsl T n ps)) dst os a K (bsl C (stA l) T n (evPs (stA l) ps))) ∧
  (∀ (T : TypeId) (x : SX) , wpT C (stA l) (⟨dst, .ld T x, none⟩ :: os) (some a) K = go1 C l (use (stA l) (.ld T x)) (tks (stA l) (.ld T x)) dst os a K (keepS (stA l) (ld C (stA l) T (ev (stA l) x)))) ∧
  (∀ (T : TypeId) (x y : SX) , wpT C (stA l) (⟨dst, .sto T x y, none⟩ :: os) (some a) K = go1 C l (use (stA l) (.sto T x y)) (tks (stA l) (.sto T x y)) dst os a K (stoS (sto C (stA l) T (ev (stA l) x) (ev (stA l) y)))) ∧
  (∀ (x : SX) , wpT C (stA l) (⟨dst, .nilc x, none⟩ :: os) (some a) K = go1 C l (use (stA l) (.nilc x)) (tks (stA l) (.nilc x)) dst os a K (keepS (stA l) (nilc (stA l) (ev (stA l) x)))) ∧
  (∀ (op : BinOp) (T : TypeId) (x y : SX) , wpT C (stA l) (⟨dst, .bn op T x y, none⟩ :: os) (some a) K = go1 C l (use (stA l) (.bn op T x y)) (tks (stA l) (.bn op T x y)) dst os a K (keepS (stA l) (bn C (stA l) op T (ev (stA l) x) (ev (stA l) y)))) ∧
  (∀ (op : UnOp) (x : SX) , wpT C (stA l) (⟨dst, .un op x, none⟩ :: os) (some a) K = go1 C l (use (stA l) (.un op x)) (tks (stA l) (.un op x)) dst os a K (keepS (stA l) (un op (ev (stA l) x)))) ∧
  (∀ (A B : TypeId) (x : SX) , wpT C (stA l) (⟨dst, .cvt A B x, none⟩ :: os) (some a) K = go1 C l (use (stA l) (.cvt A B x)) (tks (stA l) (.cvt A B x)) dst os a K (keepS (stA l) (cvt C (stA l) A B (ev (stA l) x)))) ∧
  (∀ (f : FuncId) (cs : List SX) , wpT C (stA l) (⟨dst, .mkf f cs, none⟩ :: os) (some a) K = go1 C l (use (stA l) (.mkf f cs)) (tks (stA l) (.mkf f cs)) dst os a K (some (.fn f (evs (stA l) cs), stA l))) ∧
  (∀ (T : TypeId) (x y : SX) , wpT C (stA l) (⟨dst, .mks T x y, none⟩ :: os) (some a) K = go1 C l (use (stA l) (.mks T x y)) (tks (stA l) (.mks T x y)) dst os a K (keepS (stA l) (mks C T (ev (stA l) x) (ev (stA l) y)))) ∧
  (∀ (T : TypeId) (x : SX) (lo hi : Option SX) , wpT C (stA l) (⟨dst, .slc T x lo hi, none⟩ :: os) (some a) K = go1 C l (use (stA l) (.slc T x lo hi)) (tks (stA l) (.slc T x lo hi)) dst os a K (slc C (stA l) T (ev (stA l) x) (evO (stA l) lo) (evO (stA l) hi))) ∧
  (∀ (T : TypeId) (x : SX) (k : Nat) , wpT C (stA l) (⟨dst, .fa T x k, none⟩ :: os) (some a) K = go1 C l (use (stA l) (.fa T x k)) (tks (stA l) (.fa T x k)) dst os a K (keepS (stA l) (fa C (stA l) T (ev (stA l) x) k))) ∧
  (∀ (T : TypeId) (x y : SX) , wpT C (stA l) (⟨dst, .ia T x y, none⟩ :: os) (some a) K = go1 C l (use (stA l) (.ia T x y)) (tks (stA l) (.ia T x y)) dst os a K (keepS (stA l) (ia C (stA l) T (ev (stA l) x) (ev (stA l) y)))) ∧
  (∀ (T : TypeId) (x y : SX) , wpT C (stA l) (⟨dst, .idx T x y, none⟩ :: os) (some a) K = go1 C l (use (stA l) (.idx T x y)) (tks (stA l) (.idx T x y)) dst os a K (keepS (stA l) (idx C T (ev (stA l) x) (ev (stA l) y)))) ∧
  (∀ (x : SX) (k : Nat) , wpT C (stA l) (⟨dst, .ex x k, none⟩ :: os) (some a) K = go1 C l (use (stA l) (.ex x k)) (tks (stA l) (.ex x k)) dst os a K (keepS (stA l) (ex (stA l) (ev (stA l) x) k))) ∧
  (∀ (T : TypeId) (x : SX) , wpT C (stA l) (⟨dst, .len T x, none⟩ :: os) (some a) K = go1 C l (use (stA l) (.len T x)) (tks (stA l) (.len T x)) dst os a K (keepS (stA l) (ln C (stA l) T (ev (stA l) x)))) ∧
  (∀ (T U : TypeId) (x y : SX) , wpT C (stA l) (⟨dst, .app T U x y, none⟩ :: os) (some a) K = go1 C l (use (stA l) (.app T U x y)) (tks (stA l) (.app T U x y)) dst os a K (apd C (stA l) T U (ev (stA l) x) (ev (stA l) y))) :=
 ⟨fun x => (wpT_1 rfl).trans (congrArg _ (eff_mv x)), fun x => (wpT_1 rfl).trans (congrArg _ (eff_asg x)), fun c x y => (wpT_1 rfl).trans (congrArg _ (eff_pick c x y)), fun T => (wpT_1 rfl).trans (congrArg _ (eff_alc T)), fun T x => (wpT_1 rfl).trans (congrArg _ (eff_bx T x)), fun T ps => (wpT_1 rfl).trans (congrArg _ (eff_bld T ps)), fun T n ps => (wpT_1 rfl).trans (congrArg _ (eff_bsl T n ps)), fun T x => (wpT_1 rfl).trans (congrArg _ (eff_ld T x)), fun T x y => (wpT_1 rfl).trans (congrArg _ (eff_sto T x y)), fun x => (wpT_1 rfl).trans (congrArg _ (eff_nilc x)), fun op T x y => (wpT_1 rfl).trans (congrArg _ (eff_bn op T x y)), fun op x => (wpT_1 rfl).trans (congrArg _ (eff_un op x)), fun A B x => (wpT_1 rfl).trans (congrArg _ (eff_cvt A B x)), fun f cs => (wpT_1 rfl).trans (congrArg _ (eff_mkf f cs)), fun T x y => (wpT_1 rfl).trans (congrArg _ (eff_mks T x y)), fun T x lo hi => (wpT_1 rfl).trans (congrArg _ (eff_slc T x lo hi)), fun T x k => (wpT_1 rfl).trans (congrArg _ (eff_fa T x k)), fun T x y => (wpT_1 rfl).trans (congrArg _ (eff_ia T x y)), fun T x y => (wpT_1 rfl).trans (congrArg _ (eff_idx T x y)), fun x k => (wpT_1 rfl).trans (congrArg _ (eff_ex x k)), fun T x => (wpT_1 rfl).trans (congrArg _ (eff_len T x)), fun T U x y => (wpT_1 rfl).trans (congrArg _ (eff_app T U x y))⟩
theorem gds0 :
  (∀ (x : SX) (t : Nat), gdT C l dst (.mv x) t true os none K (.bool true) = go0 C dst os K (some (ev (stA l) x, stA l))) ∧
  (∀ (x : SX) (t : Nat), gdT C l dst (.mv x) t false os none K (.bool false) = go0 C dst os K (some (ev (stA l) x, stA l))) ∧
  (∀ (x : SX) (t : Nat), gdT C l dst (.asg x) t true os none K (.bool true) = go0 C dst os K (asgV (stA l) (ev (stA l) x))) ∧
  (∀ (x : SX) (t : Nat), gdT C l dst (.asg x) t false os none K (.bool false) = go0 C dst os K (asgV (stA l) (ev (stA l) x))) ∧
  (∀ (c x y : SX) (t : Nat), gdT C l dst (.pick c x y) t true os none K (.bool true) = go0 C dst os K (pickV (stA l) (ev (stA l) c) (ev (stA l) x) (ev (stA l) y))) ∧
  (∀ (c x y : SX) (t : Nat), gdT C l dst (.pick c x y) t false os none K (.bool false) = go0 C dst os K (pickV (stA l) (ev (stA l) c) (ev (stA l) x) (ev (stA l) y))) ∧
  (∀ (T : TypeId) (t : Nat), gdT C l dst (.alc T) t true os none K (.bool true) = go0 C dst os K (keepS (stA l) (alc C T))) ∧
  (∀ (T : TypeId) (t : Nat), gdT C l dst (.alc T) t false os none K (.bool false) = go0 C dst os K (keepS (stA l) (alc C T))) ∧
  (∀ (T : TypeId) (x : SX) (t : Nat), gdT C l dst (.bx T x) t true os none K (.bool true) = go0 C dst os K (bx (stA l) (ev (stA l) x))) ∧
  (∀ (T : TypeId) (x : SX) (t : Nat), gdT C l dst (.bx T x) t false os none K (.bool false) = go0 C dst os K (bx (stA l) (ev (stA l) x))) ∧
  (∀ (T : TypeId) (ps : List (Nat × SX)) (t : Nat), gdT C l dst (.bld T ps) t true os none K (.bool true) = go0 C dst os K (bld C (stA l) T (evPs (stA l) ps))) ∧
  (∀ (T : TypeId) (ps : List (Nat × SX)) (t : Nat), gdT C l dst (.bld T ps) t false os none K (.bool false) = go0 C dst os K (bld C (stA l) T (evPs (stA l) ps))) ∧
  (∀ (T : TypeId) (n : Nat) (ps : List (Nat × SX)) (t : Nat), gdT C l dst (.bsl T n ps) t true os none K (.bool true) = go0 C dst os K (bsl C (stA l) T n (evPs (stA l) ps))) ∧
  (∀ (T : TypeId) (n : Nat) (ps : List (Nat × SX)) (t : Nat), gdT C l dst (.bsl T n ps) t false os none K (.bool false) = go0 C dst os K (bsl C (stA l) T n (evPs (stA l) ps))) ∧
  (∀ (T : TypeId) (x : SX) (t : Nat), gdT C l dst (.ld T x) t true os none K (.bool true) = go0 C dst os K (keepS (stA l) (ld C (stA l) T (ev (stA l) x)))) ∧
  (∀ (T : TypeId) (x : SX) (t : Nat), gdT C l dst (.ld T x) t false os none K (.bool false) = go0 C dst os K (keepS (stA l) (ld C (stA l) T (ev (stA l) x)))) ∧
  (∀ (T : TypeId) (x y : SX) (t : Nat), gdT C l dst (.sto T x y) t true os none K (.bool true) = go0 C dst os K (stoS (sto C (stA l) T (ev (stA l) x) (ev (stA l) y)))) ∧
  (∀ (T : TypeId) (x y : SX) (t : Nat), gdT C l dst (.sto T x y) t false os none K (.bool false) = go0 C dst os K (stoS (sto C (stA l) T (ev (stA l) x) (ev (stA l) y)))) ∧
  (∀ (x : SX) (t : Nat), gdT C l dst (.nilc x) t true os none K (.bool true) = go0 C dst os K (keepS (stA l) (nilc (stA l) (ev (stA l) x)))) ∧
  (∀ (x : SX) (t : Nat), gdT C l dst (.nilc x) t false os none K (.bool false) = go0 C dst os K (keepS (stA l) (nilc (stA l) (ev (stA l) x)))) ∧
  (∀ (op : BinOp) (T : TypeId) (x y : SX) (t : Nat), gdT C l dst (.bn op T x y) t true os none K (.bool true) = go0 C dst os K (keepS (stA l) (bn C (stA l) op T (ev (stA l) x) (ev (stA l) y)))) ∧
  (∀ (op : BinOp) (T : TypeId) (x y : SX) (t : Nat), gdT C l dst (.bn op T x y) t false os none K (.bool false) = go0 C dst os K (keepS (stA l) (bn C (stA l) op T (ev (stA l) x) (ev (stA l) y)))) ∧
  (∀ (op : UnOp) (x : SX) (t : Nat), gdT C l dst (.un op x) t true os none K (.bool true) = go0 C dst os K (keepS (stA l) (un op (ev (stA l) x)))) ∧
  (∀ (op : UnOp) (x : SX) (t : Nat), gdT C l dst (.un op x) t false os none K (.bool false) = go0 C dst os K (keepS (stA l) (un op (ev (stA l) x)))) ∧
  (∀ (A B : TypeId) (x : SX) (t : Nat), gdT C l dst (.cvt A B x) t true os none K (.bool true) = go0 C dst os K (keepS (stA l) (cvt C (stA l) A B (ev (stA l) x)))) ∧
  (∀ (A B : TypeId) (x : SX) (t : Nat), gdT C l dst (.cvt A B x) t false os none K (.bool false) = go0 C dst os K (keepS (stA l) (cvt C (stA l) A B (ev (stA l) x)))) ∧
  (∀ (f : FuncId) (cs : List SX) (t : Nat), gdT C l dst (.mkf f cs) t true os none K (.bool true) = go0 C dst os K (some (.fn f (evs (stA l) cs), stA l))) ∧
  (∀ (f : FuncId) (cs : List SX) (t : Nat), gdT C l dst (.mkf f cs) t false os none K (.bool false) = go0 C dst os K (some (.fn f (evs (stA l) cs), stA l))) ∧
  (∀ (T : TypeId) (x y : SX) (t : Nat), gdT C l dst (.mks T x y) t true os none K (.bool true) = go0 C dst os K (keepS (stA l) (mks C T (ev (stA l) x) (ev (stA l) y)))) ∧
  (∀ (T : TypeId) (x y : SX) (t : Nat), gdT C l dst (.mks T x y) t false os none K (.bool false) = go0 C dst os K (keepS (stA l) (mks C T (ev (stA l) x) (ev (stA l) y)))) ∧
  (∀ (T : TypeId) (x : SX) (lo hi : Option SX) (t : Nat), gdT C l dst (.slc T x lo hi) t true os none K (.bool true) = go0 C dst os K (slc C (stA l) T (ev (stA l) x) (evO (stA l) lo) (evO (stA l) hi))) ∧
  (∀ (T : TypeId) (x : SX) (lo hi : Option SX) (t : Nat), gdT C l dst (.slc T x lo hi) t false os none K (.bool false) = go0 C dst os K (slc C (stA l) T (ev (stA l) x) (evO (stA l) lo) (evO (stA l) hi))) ∧
  (∀ (T : TypeId) (x : SX) (k : Nat) (t : Nat), gdT C l dst (.fa T x k) t true os none K (.bool true) = go0 C dst os K (keepS (stA l) (fa C (stA l) T (ev (stA l) x) k))) ∧
  (∀ (T : TypeId) (x : SX) (k : Nat) (t : Nat), gdT C l dst (.fa T x k) t false os none K (.bool false) = go0 C dst os K (keepS (stA l) (fa C (stA l) T (ev (stA l) x) k))) ∧
  (∀ (T : TypeId) (x y : SX) (t : Nat), gdT C l dst (.ia T x y) t true os none K (.bool true) = go0 C dst os K (keepS (stA l) (ia C (stA l) T (ev (stA l) x) (ev (stA l) y)))) ∧
  (∀ (T : TypeId) (x y : SX) (t : Nat), gdT C l dst (.ia T x y) t false os none K (.bool false) = go0 C dst os K (keepS (stA l) (ia C (stA l) T (ev (stA l) x) (ev (stA l) y)))) ∧
  (∀ (T : TypeId) (x y : SX) (t : Nat), gdT C l dst (.idx T x y) t true os none K (.bool true) = go0 C dst os K (keepS (stA l) (idx C T (ev (stA l) x) (ev (stA l) y)))) ∧
  (∀ (T : TypeId) (x y : SX) (t : Nat), gdT C l dst (.idx T x y) t false os none K (.bool false) = go0 C dst os K (keepS (stA l) (idx C T (ev (stA l) x) (ev (stA l) y)))) ∧
  (∀ (x : SX) (k : Nat) (t : Nat), gdT C l dst (.ex x k) t true os none K (.bool true) = go0 C dst os K (keepS (stA l) (ex (stA l) (ev (stA l) x) k))) ∧
  (∀ (x : SX) (k : Nat) (t : Nat), gdT C l dst (.ex x k) t false os none K (.bool false) = go0 C dst os K (keepS (stA l) (ex (stA l) (ev (stA l) x) k))) ∧
  (∀ (T : TypeId) (x : SX) (t : Nat), gdT C l dst (.len T x) t true os none K (.bool true) = go0 C dst os K (keepS (stA l) (ln C (stA l) T (ev (stA l) x)))) ∧
  (∀ (T : TypeId) (x : SX) (t : Nat), gdT C l dst (.len T x) t false os none K (.bool false) = go0 C dst os K (keepS (stA l) (ln C (stA l) T (ev (stA l) x)))) ∧
  (∀ (T U : TypeId) (x y : SX) (t : Nat), gdT C l dst (.app T U x y) t true os none K (.bool true) = go0 C dst os K (apd C (stA l) T U (ev (stA l) x) (ev (stA l) y))) ∧
  (∀ (T U : TypeId) (x y : SX) (t : Nat), gdT C l dst (.app T U x y) t false os none K (.bool false) = go0 C dst os K (apd C (stA l) T U (ev (stA l) x) (ev (stA l) y))) :=
 ⟨fun x _ => (gdT_0 rfl).trans (congrArg _ (eff_mv x)), fun x _ => (gdT_0 rfl).trans (congrArg _ (eff_mv x)), fun x _ => (gdT_0 rfl).trans (congrArg _ (eff_asg x)), fun x _ => (gdT_0 rfl).trans (congrArg _ (eff_asg x)), fun c x y _ => (gdT_0 rfl).trans (congrArg _ (eff_pick c x y)), fun c x y _ => (gdT_0 rfl).trans (congrArg _ (eff_pick c x y)), fun T _ => (gdT_0 rfl).trans (congrArg _ (eff_alc T)), fun T _ => (gdT_0 rfl).trans (congrArg _ (eff_alc T)), fun T x _ => (gdT_0 rfl).trans (congrArg _ (eff_bx T x)), fun T x _ => (gdT_0 rfl).trans (congrArg _ (eff_bx T x)), fun T ps _ => (gdT_0 rfl).trans (congrArg _ (eff_bld T ps)), fun T ps _ => (gdT_0 rfl).trans (congrArg _ (eff_bld T ps)), fun T n ps _ => (gdT_0 rfl).trans (congrArg _ (eff_bsl T n ps)), fun T n ps _ => (gdT_0 rfl).trans (congrArg _ (eff_bsl T n ps)), fun T x _ => (gdT_0 rfl).trans (congrArg _ (eff_ld T x)), fun T x _ => (gdT_0 rfl).trans (congrArg _ (eff_ld T x)), fun T x y _ => (gdT_0 rfl).trans (congrArg _ (eff_sto T x y)), fun T x y _ => (gdT_0 rfl).trans (congrArg _ (eff_sto T x y)), fun x _ => (gdT_0 rfl).trans (congrArg _ (eff_nilc x)), fun x _ => (gdT_0 rfl).trans (congrArg _ (eff_nilc x)), fun op T x y _ => (gdT_0 rfl).trans (congrArg _ (eff_bn op T x y)), fun op T x y _ => (gdT_0 rfl).trans (congrArg _ (eff_bn op T x y)), fun op x _ => (gdT_0 rfl).trans (congrArg _ (eff_un op x)), fun op x _ => (gdT_0 rfl).trans (congrArg _ (eff_un op x)), fun A B x _ => (gdT_0 rfl).trans (congrArg _ (eff_cvt A B x)), fun A B x _ => (gdT_0 rfl).trans (congrArg _ (eff_cvt A B x)), fun f cs _ => (gdT_0 rfl).trans (congrArg _ (eff_mkf f cs)), fun f cs _ => (gdT_0 rfl).trans (congrArg _ (eff_mkf f cs)), fun T x y _ => (gdT_0 rfl).trans (congrArg _ (eff_mks T x y)), fun T x y _ => (gdT_0 rfl).trans (congrArg _ (eff_mks T x y)), fun T x lo hi _ => (gdT_0 rfl).trans (congrArg _ (eff_slc T x lo hi)), fun T x lo hi _ => (gdT_0 rfl).trans (congrArg _ (eff_slc T x lo hi)), fun T x k _ => (gdT_0 rfl).trans (congrArg _ (eff_fa T x k)), fun T x k _ => (gdT_0 rfl).trans (congrArg _ (eff_fa T x k)), fun T x y _ => (gdT_0 rfl).trans (congrArg _ (eff_ia T x y)), fun T x y _ => (gdT_0 rfl).trans (congrArg _ (eff_ia T x y)), fun T x y _ => (gdT_0 rfl).trans (congrArg _ (eff_idx T x y)), fun T x y _ => (gdT_0 rfl).trans (congrArg _ (eff_idx T x y)), fun x k _ => (gdT_0 rfl).trans (congrArg _ (eff_ex x k)), fun x k _ => (gdT_0 rfl).trans (congrArg _ (eff_ex x k)), fun T x _ => (gdT_0 rfl).trans (congrArg _ (eff_len T x)), fun T x _ => (gdT_0 rfl).trans (congrArg _ (eff_len T x)), fun T U x y _ => (gdT_0 rfl).trans (congrArg _ (eff_app T U x y)), fun T U x y _ => (gdT_0 rfl).trans (congrArg _ (eff_app T U x y))⟩
theorem gds1 :
  (∀ (x : SX) (t : Nat), gdT C l dst (.mv x) t true os (some a) K (.bool true) = go1 C l (t :: use (stA l) (.mv x)) (tks (stA l) (.mv x)) dst os a K (some (ev (stA l) x, stA l))) ∧
  (∀ (x : SX) (t : Nat), gdT C l dst (.mv x) t false os (some a) K (.bool false) = go1 C l (t :: use (stA l) (.mv x)) (tks (stA l) (.mv x)) dst os a K (some (ev (stA l) x, stA l))) ∧
  (∀ (x : SX) (t : Nat), gdT C l dst (.asg x) t true os (some a) K (.bool true) = go1 C l (t :: use (stA l) (.asg x)) (tks (stA l) (.asg x)) dst os a K (asgV (stA l) (ev (stA l) x))) ∧
  (∀ (x : SX) (t : Nat), gdT C l dst (.asg x) t false os (some a) K (.bool false) = go1 C l (t :: use (stA l) (.asg x)) (tks (stA l) (.asg x)) dst os a K (asgV (stA l) (ev (stA l) x))) ∧
  (∀ (c x y : SX) (t : Nat), gdT C l dst (.pick c x y) t true os (some a) K (.bool true) = go1 C l (t :: use (stA l) (.pick c x y)) (tks (stA l) (.pick c x y)) dst os a K (pickV (stA l) (ev (stA l) c) (ev (stA l) x) (ev (stA l) y))) ∧
  (∀ (c x y : SX) (t : Nat), gdT C l dst (.pick c x y) t false os (some a) K (.bool false) = go1 C l (t :: use (stA l) (.pick c x y)) (tks (stA l) (.pick c x y)) dst os a K (pickV (stA l) (ev (stA l) c) (ev (stA l) x) (ev (stA l) y))) ∧
  (∀ (T : TypeId) (t : Nat), gdT C l dst (.alc T) t true os (some a) K (.bool true) = go1 C l (t :: use (stA l) (.alc T)) (tks (stA l) (.alc T)) dst os a K (keepS (stA l) (alc C T))) ∧
  (∀ (T : TypeId) (t : Nat), gdT C l dst (.alc T) t false os (some a) K (.bool false) = go1 C l (t :: use (stA l) (.alc T)) (tks (stA l) (.alc T)) dst os a K (keepS (stA l) (alc C T))) ∧
  (∀ (T : TypeId) (x : SX) (t : Nat), gdT C l dst (.bx T x) t true os (some a) K (.bool true) = go1 C l (t :: use (stA l) (.bx T x)) (tks (stA l) (.bx T x)) dst os a K (bx (stA l) (ev (stA l) x))) ∧
  (∀ (T : TypeId) (x : SX) (t : Nat), gdT C l dst (.bx T x) t false os (some a) K (.bool false) = go1 C l (t :: use (stA l) (.bx T x)) (tks (stA l) (.bx T x)) dst os a K (bx (stA l) (ev (stA l) x))) ∧
  (∀ (T : TypeId) (ps : List (Nat × SX)) (t : Nat), gdT C l dst (.bld T ps) t true os (some a) K (.bool true) = go1 C l (t :: use (stA l) (.bld T ps)) (tks (stA l) (.bld T ps)) dst os a K (bld C (stA l) T (evPs (stA l) ps))) ∧
  (∀ (T : TypeId) (ps : List (Nat × SX)) (t : Nat), gdT C l dst (.bld T ps) t false os (some a) K (.bool false) = go1 C l (t :: use (stA l) (.bld T ps)) (tks (stA l) (.bld T ps)) dst os a K (bld C (stA l) T (evPs (stA l) ps))) ∧
  (∀ (T : TypeId) (n : Nat) (ps : List (Nat × SX)) (t : Nat), gdT C l dst (.bsl T n ps) t true os (some a) K (.bool true) = go1 C l (t :: use (stA l) (.bsl T n ps)) (tks (stA l) (.bsl T n ps)) dst os a K (bsl C (stA l) T n (evPs (stA l) ps))) ∧
  (∀ (T : TypeId) (n : Nat) (ps : List (Nat × SX)) (t : Nat), gdT C l dst (.bsl T n ps) t false os (some a) K (.bool false) = go1 C l (t :: use (stA l) (.bsl T n ps)) (tks (stA l) (.bsl T n ps)) dst os a K (bsl C (stA l) T n (evPs (stA l) ps))) ∧
  (∀ (T : TypeId) (x : SX) (t : Nat), gdT C l dst (.ld T x) t true os (some a) K (.bool true) = go1 C l (t :: use (stA l) (.ld T x)) (tks (stA l) (.ld T x)) dst os a K (keepS (stA l) (ld C (stA l) T (ev (stA l) x)))) ∧
  (∀ (T : TypeId) (x : SX) (t : Nat), gdT C l dst (.ld T x) t false os (some a) K (.bool false) = go1 C l (t :: use (stA l) (.ld T x)) (tks (stA l) (.ld T x)) dst os a K (keepS (stA l) (ld C (stA l) T (ev (stA l) x)))) ∧
  (∀ (T : TypeId) (x y : SX) (t : Nat), gdT C l dst (.sto T x y) t true os (some a) K (.bool true) = go1 C l (t :: use (stA l) (.sto T x y)) (tks (stA l) (.sto T x y)) dst os a K (stoS (sto C (stA l) T (ev (stA l) x) (ev (stA l) y)))) ∧
  (∀ (T : TypeId) (x y : SX) (t : Nat), gdT C l dst (.sto T x y) t false os (some a) K (.bool false) = go1 C l (t :: use (stA l) (.sto T x y)) (tks (stA l) (.sto T x y)) dst os a K (stoS (sto C (stA l) T (ev (stA l) x) (ev (stA l) y)))) ∧
  (∀ (x : SX) (t : Nat), gdT C l dst (.nilc x) t true os (some a) K (.bool true) = go1 C l (t :: use (stA l) (.nilc x)) (tks (stA l) (.nilc x)) dst os a K (keepS (stA l) (nilc (stA l) (ev (stA l) x)))) ∧
  (∀ (x : SX) (t : Nat), gdT C l dst (.nilc x) t false os (some a) K (.bool false) = go1 C l (t :: use (stA l) (.nilc x)) (tks (stA l) (.nilc x)) dst os a K (keepS (stA l) (nilc (stA l) (ev (stA l) x)))) ∧
  (∀ (op : BinOp) (T : TypeId) (x y : SX) (t : Nat), gdT C l dst (.bn op T x y) t true os (some a) K (.bool true) = go1 C l (t :: use (stA l) (.bn op T x y)) (tks (stA l) (.bn op T x y)) dst os a K (keepS (stA l) (bn C (stA l) op T (ev (stA l) x) (ev (stA l) y)))) ∧
  (∀ (op : BinOp) (T : TypeId) (x y : SX) (t : Nat), gdT C l dst (.bn op T x y) t false os (some a) K (.bool false) = go1 C l (t :: use (stA l) (.bn op T x y)) (tks (stA l) (.bn op T x y)) dst os a K (keepS (stA l) (bn C (stA l) op T (ev (stA l) x) (ev (stA l) y)))) ∧
  (∀ (op : UnOp) (x : SX) (t : Nat), gdT C l dst (.un op x) t true os (some a) K (.bool true) = go1 C l (t :: use (stA l) (.un op x)) (tks (stA l) (.un op x)) dst os a K (keepS (stA l) (un op (ev (stA l) x)))) ∧
  (∀ (op : UnOp) (x : SX) (t : Nat), gdT C l dst (.un op x) t false os (some a) K (.bool false) = go1 C l (t :: use (stA l) (.un op x)) (tks (stA l) (.un op x)) dst os a K (keepS (stA l) (un op (ev (stA l) x)))) ∧
  (∀ (A B : TypeId) (x : SX) (t : Nat), gdT C l dst (.cvt A B x) t true os (some a) K (.bool true) = go1 C l (t :: use (stA l) (.cvt A B x)) (tks (stA l) (.cvt A B x)) dst os a K (keepS (stA l) (cvt C (stA l) A B (ev (stA l) x)))) ∧
  (∀ (A B : TypeId) (x : SX) (t : Nat), gdT C l dst (.cvt A B x) t false os (some a) K (.bool false) = go1 C l (t :: use (stA l) (.cvt A B x)) (tks (stA l) (.cvt A B x)) dst os a K (keepS (stA l) (cvt C (stA l) A B (ev (stA l) x)))) ∧
  (∀ (f : FuncId) (cs : List SX) (t : Nat), gdT C l dst (.mkf f cs) t true os (some a) K (.bool true) = go1 C l (t :: use (stA l) (.mkf f cs)) (tks (stA l) (.mkf f cs)) dst os a K (some (.fn f (evs (stA l) cs), stA l))) ∧
  (∀ (f : FuncId) (cs : List SX) (t : Nat), gdT C l dst (.mkf f cs) t false os (some a) K (.bool false) = go1 C l (t :: use (stA l) (.mkf f cs)) (tks (stA l) (.mkf f cs)) dst os a K (some (.fn f (evs (stA l) cs), stA l))) ∧
  (∀ (T : TypeId) (x y : SX) (t : Nat), gdT C l dst (.mks T x y) t true os (some a) K (.bool true) = go1 C l (t :: use (stA l) (.mks T x y)) (tks (stA l) (.mks T x y)) dst os a K (keepS (stA l) (mks C T (ev (stA l) x) (ev (stA l) y)))) ∧
  (∀ (T : TypeId) (x y : SX) (t : Nat), gdT C l dst (.mks T x y) t false os (some a) K (.bool false) = go1 C l (t :: use (stA l) (.mks T x y)) (tks (stA l) (.mks T x y)) dst os a K (keepS (stA l) (mks C T (ev (stA l) x) (ev (stA l) y)))) ∧
  (∀ (T : TypeId) (x : SX) (lo hi : Option SX) (t : Nat), gdT C l dst (.slc T x lo hi) t true os (some a) K (.bool true) = go1 C l (t :: use (stA l) (.slc T x lo hi)) (tks (stA l) (.slc T x lo hi)) dst os a K (slc C (stA l) T (ev (stA l) x) (evO (stA l) lo) (evO (stA l) hi))) ∧
  (∀ (T : TypeId) (x : SX) (lo hi : Option SX) (t : Nat), gdT C l dst (.slc T x lo hi) t false os (some a) K (.bool false) = go1 C l (t :: use (stA l) (.slc T x lo hi)) (tks (stA l) (.slc T x lo hi)) dst os a K (slc C (stA l) T (ev (stA l) x) (evO (stA l) lo) (evO (stA l) hi))) ∧
  (∀ (T : TypeId) (x : SX) (k : Nat) (t : Nat), gdT C l dst (.fa T x k) t true os (some a) K (.bool true) = go1 C l (t :: use (stA l) (.fa T x k)) (tks (stA l) (.fa T x k)) dst os a K (keepS (stA l) (fa C (stA l) T (ev (stA l) x) k))) ∧
  (∀ (T : TypeId) (x : SX) (k : Nat) (t : Nat), gdT C l dst (.fa T x k) t false os (some a) K (.bool false) = go1 C l (t :: use (stA l) (.fa T x k)) (tks (stA l) (.fa T x k)) dst os a K (keepS (stA l) (fa C (stA l) T (ev (stA l) x) k))) ∧
  (∀ (T : TypeId) (x y : SX) (t : Nat), gdT C l dst (.ia T x y) t true os (some a) K (.bool true) = go1 C l (t :: use (stA l) (.ia T x y)) (tks (stA l) (.ia T x y)) dst os a K (keepS (stA l) (ia C (stA l) T (ev (stA l) x) (ev (stA l) y)))) ∧
  (∀ (T : TypeId) (x y : SX) (t : Nat), gdT C l dst (.ia T x y) t false os (some a) K (.bool false) = go1 C l (t :: use (stA l) (.ia T x y)) (tks (stA l) (.ia T x y)) dst os a K (keepS (stA l) (ia C (stA l) T (ev (stA l) x) (ev (stA l) y)))) ∧
  (∀ (T : TypeId) (x y : SX) (t : Nat), gdT C l dst (.idx T x y) t true os (some a) K (.bool true) = go1 C l (t :: use (stA l) (.idx T x y)) (tks (stA l) (.idx T x y)) dst os a K (keepS (stA l) (idx C T (ev (stA l) x) (ev (stA l) y)))) ∧
  (∀ (T : TypeId) (x y : SX) (t : Nat), gdT C l dst (.idx T x y) t false os (some a) K (.bool false) = go1 C l (t :: use (stA l) (.idx T x y)) (tks (stA l) (.idx T x y)) dst os a K (keepS (stA l) (idx C T (ev (stA l) x) (ev (stA l) y)))) ∧
  (∀ (x : SX) (k : Nat) (t : Nat), gdT C l dst (.ex x k) t true os (some a) K (.bool true) = go1 C l (t :: use (stA l) (.ex x k)) (tks (stA l) (.ex x k)) dst os a K (keepS (stA l) (ex (stA l) (ev (stA l) x) k))) ∧
  (∀ (x : SX) (k : Nat) (t : Nat), gdT C l dst (.ex x k) t false os (some a) K (.bool false) = go1 C l (t :: use (stA l) (.ex x k)) (tks (stA l) (.ex x k)) dst os a K (keepS (stA l) (ex (stA l) (ev (stA l) x) k))) ∧
  (∀ (T : TypeId) (x : SX) (t : Nat), gdT C l dst (.len T x) t true os (some a) K (.bool true) = go1 C l (t :: use (stA l) (.len T x)) (tks (stA l) (.len T x)) dst os a K (keepS (stA l) (ln C (stA l) T (ev (stA l) x)))) ∧
  (∀ (T : TypeId) (x : SX) (t : Nat), gdT C l dst (.len T x) t false os (some a) K (.bool false) = go1 C l (t :: use (stA l) (.len T x)) (tks (stA l) (.len T x)) dst os a K (keepS (stA l) (ln C (stA l) T (ev (stA l) x)))) ∧
  (∀ (T U : TypeId) (x y : SX) (t : Nat), gdT C l dst (.app T U x y) t true os (some a) K (.bool true) = go1 C l (t :: use (stA l) (.app T U x y)) (tks (stA l) (.app T U x y)) dst os a K (apd C (stA l) T U (ev (stA l) x) (ev (stA l) y))) ∧
  (∀ (T U : TypeId) (x y : SX) (t : Nat), gdT C l dst (.app T U x y) t false os (some a) K (.bool false) = go1 C l (t :: use (stA l) (.app T U x y)) (tks (stA l) (.app T U x y)) dst os a K (apd C (stA l) T U (ev (stA l) x) (ev (stA l) y))) :=
 ⟨fun x _ => (gdT_1 rfl).trans (congrArg _ (eff_mv x)), fun x _ => (gdT_1 rfl).trans (congrArg _ (eff_mv x)), fun x _ => (gdT_1 rfl).trans (congrArg _ (eff_asg x)), fun x _ => (gdT_1 rfl).trans (congrArg _ (eff_asg x)), fun c x y _ => (gdT_1 rfl).trans (congrArg _ (eff_pick c x y)), fun c x y _ => (gdT_1 rfl).trans (congrArg _ (eff_pick c x y)), fun T _ => (gdT_1 rfl).trans (congrArg _ (eff_alc T)), fun T _ => (gdT_1 rfl).trans (congrArg _ (eff_alc T)), fun T x _ => (gdT_1 rfl).trans (congrArg _ (eff_bx T x)), fun T x _ => (gdT_1 rfl).trans (congrArg _ (eff_bx T x)), fun T ps _ => (gdT_1 rfl).trans (congrArg _ (eff_bld T ps)), fun T ps _ => (gdT_1 rfl).trans (congrArg _ (eff_bld T ps)), fun T n ps _ => (gdT_1 rfl).trans (congrArg _ (eff_bsl T n ps)), fun T n ps _ => (gdT_1 rfl).trans (congrArg _ (eff_bsl T n ps)), fun T x _ => (gdT_1 rfl).trans (congrArg _ (eff_ld T x)), fun T x _ => (gdT_1 rfl).trans (congrArg _ (eff_ld T x)), fun T x y _ => (gdT_1 rfl).trans (congrArg _ (eff_sto T x y)), fun T x y _ => (gdT_1 rfl).trans (congrArg _ (eff_sto T x y)), fun x _ => (gdT_1 rfl).trans (congrArg _ (eff_nilc x)), fun x _ => (gdT_1 rfl).trans (congrArg _ (eff_nilc x)), fun op T x y _ => (gdT_1 rfl).trans (congrArg _ (eff_bn op T x y)), fun op T x y _ => (gdT_1 rfl).trans (congrArg _ (eff_bn op T x y)), fun op x _ => (gdT_1 rfl).trans (congrArg _ (eff_un op x)), fun op x _ => (gdT_1 rfl).trans (congrArg _ (eff_un op x)), fun A B x _ => (gdT_1 rfl).trans (congrArg _ (eff_cvt A B x)), fun A B x _ => (gdT_1 rfl).trans (congrArg _ (eff_cvt A B x)), fun f cs _ => (gdT_1 rfl).trans (congrArg _ (eff_mkf f cs)), fun f cs _ => (gdT_1 rfl).trans (congrArg _ (eff_mkf f cs)), fun T x y _ => (gdT_1 rfl).trans (congrArg _ (eff_mks T x y)), fun T x y _ => (gdT_1 rfl).trans (congrArg _ (eff_mks T x y)), fun T x lo hi _ => (gdT_1 rfl).trans (congrArg _ (eff_slc T x lo hi)), fun T x lo hi _ => (gdT_1 rfl).trans (congrArg _ (eff_slc T x lo hi)), fun T x k _ => (gdT_1 rfl).trans (congrArg _ (eff_fa T x k)), fun T x k _ => (gdT_1 rfl).trans (congrArg _ (eff_fa T x k)), fun T x y _ => (gdT_1 rfl).trans (congrArg _ (eff_ia T x y)), fun T x y _ => (gdT_1 rfl).trans (congrArg _ (eff_ia T x y)), fun T x y _ => (gdT_1 rfl).trans (congrArg _ (eff_idx T x y)), fun T x y _ => (gdT_1 rfl).trans (congrArg _ (eff_idx T x y)), fun x k _ => (gdT_1 rfl).trans (congrArg _ (eff_ex x k)), fun x k _ => (gdT_1 rfl).trans (congrArg _ (eff_ex x k)), fun T x _ => (gdT_1 rfl).trans (congrArg _ (eff_len T x)), fun T x _ => (gdT_1 rfl).trans (congrArg _ (eff_len T x)), fun T U x y _ => (gdT_1 rfl).trans (congrArg _ (eff_app T U x y)), fun T U x y _ => (gdT_1 rfl).trans (congrArg _ (eff_app T U x y))⟩
end
theorem al_s :
  (∀ (t : Nat) (k : IntKind) (n : Int), al t (.int k n) = (.int k n)) ∧
  (∀ (t : Nat) (b : Bool), al t (.bool b) = (.bool b)) ∧
  (∀ (t : Nat) (x : List UInt8), al t (.str x) = (.str x)) ∧
  (∀ (t : Nat) (xs : List AV), al t (.slice xs) = (.slice xs)) ∧
  (∀ (t : Nat) (d : AV), al t (.ref d) = (.ref d)) ∧
  (∀ (t : Nat) (f : FuncId) (cap : List AV), al t (.fn f cap) = (.fn f cap)) ∧
  (∀ (t : Nat) (x : Nat) (q : List Nat), al t (.h x q) = (.h x q)) ∧
  (∀ (t : Nat) (x : Nat) (q : List Nat), al t (.hp x q) = (.hp x q)) ∧
  (∀ (t : Nat) , al t .nilp = .nilp) ∧
  (∀ (t : Nat) , al t .nils = .nils) ∧
  (∀ (t : Nat) , al t .anyb = .anyb) ∧
  (∀ (t : Nat) , al t .hole = .hole) ∧
  (∀ (t : Nat) (sz : Nat) (xs : List AV), al t (.uslice sz xs) = .h t []) ∧
  (∀ (t : Nat) (d : AV), al t (.ubox d) = .h t []) ∧
  (∀ (t : Nat) (fs : List AV), al t (.agg fs) = if AV.plains fs = true then (.agg fs) else .h t []) ∧
  (∀ (t : Nat) (fs : List AV), al t (.tuple fs) = if AV.plains fs = true then (.tuple fs) else .h t []) :=
 ⟨fun _ _ _ => rfl, fun _ _ => rfl, fun _ _ => rfl, fun _ _ => rfl, fun _ _ => rfl, fun _ _ _ => rfl, fun _ _ _ => rfl, fun _ _ _ => rfl, fun _  => rfl, fun _  => rfl, fun _  => rfl, fun _  => rfl, fun _ _ _ => rfl, fun _ _ => rfl, fun _ _ => rfl, fun _ _ => rfl⟩
theorem fin_s :
  (∀ (l : List (Nat × AV)) (av : AV), fin (stA l) none av = stA l) ∧
  (∀ (l : List (Nat × AV)) (t : Nat) (k : IntKind) (n : Int), fin (stA l) (some t) (.int k n) = stA ((t, (.int k n)) :: l)) ∧
  (∀ (l : List (Nat × AV)) (t : Nat) (b : Bool), fin (stA l) (some t) (.bool b) = stA ((t, (.bool b)) :: l)) ∧
  (∀ (l : List (Nat × AV)) (t : Nat) (x : List UInt8), fin (stA l) (some t) (.str x) = stA ((t, (.str x)) :: l)) ∧
  (∀ (l : List (Nat × AV)) (t : Nat) (xs : List AV), fin (stA l) (some t) (.slice xs) = stA ((t, (.slice xs)) :: l)) ∧
  (∀ (l : List (Nat × AV)) (t : Nat) (d : AV), fin (stA l) (some t) (.ref d) = stA ((t, (.ref d)) :: l)) ∧
  (∀ (l : List (Nat × AV)) (t : Nat) (f : FuncId) (cap : List AV), fin (stA l) (some t) (.fn f cap) = stA ((t, (.fn f cap)) :: l)) ∧
  (∀ (l : List (Nat × AV)) (t : Nat) (x : Nat) (q : List Nat), fin (stA l) (some t) (.h x q) = stA ((t, (.h x q)) :: l)) ∧
  (∀ (l : List (Nat × AV)) (t : Nat) (x : Nat) (q : List Nat), fin (stA l) (some t) (.hp x q) = stA ((t, (.hp x q)) :: l)) ∧
  (∀ (l : List (Nat × AV)) (t : Nat) , fin (stA l) (some t) .nilp = stA ((t, .nilp) :: l)) ∧
  (∀ (l : List (Nat × AV)) (t : Nat) , fin (stA l) (some t) .nils = stA ((t, .nils) :: l)) ∧
  (∀ (l : List (Nat × AV)) (t : Nat) , fin (stA l) (some t) .anyb = stA ((t, .anyb) :: l)) ∧
  (∀ (l : List (Nat × AV)) (t : Nat) , fin (stA l) (some t) .hole = stA ((t, .hole) :: l)) ∧
  (∀ (l : List (Nat × AV)) (t : Nat) (sz : Nat) (xs : List AV), fin (stA l) (some t) (.uslice sz xs) = stA ((t, (.uslice sz xs)) :: pgA t l)) ∧
  (∀ (l : List (Nat × AV)) (t : Nat) (d : AV), fin (stA l) (some t) (.ubox d) = stA ((t, (.ubox d)) :: pgA t l)) ∧
  (∀ (l : List (Nat × AV)) (t : Nat) (fs : List AV), fin (stA l) (some t) (.agg fs) = stA ((t, (.agg fs)) :: if AV.plains fs = true then l else pgA t l)) ∧
  (∀ (l : List (Nat × AV)) (t : Nat) (fs : List AV), fin (stA l) (some t) (.tuple fs) = stA ((t, (.tuple fs)) :: if AV.plains fs = true then l else pgA t l)) :=
 ⟨fun _ _ => rfl, fun l t _ _ => by simp only [fin, AV.plain, if_true, upd_stA], fun l t _ => by simp only [fin, AV.plain, if_true, upd_stA], fun l t _ => by simp only [fin, AV.plain, if_true, upd_stA], fun l t _ => by simp only [fin, AV.plain, if_true, upd_stA], fun l t _ => by simp only [fin, AV.plain, if_true, upd_stA], fun l t _ _ => by simp only [fin, AV.plain, if_true, upd_stA], fun l t _ _ => by simp only [fin, AV.plain, if_true, upd_stA], fun l t _ _ => by simp only [fin, AV.plain, if_true, upd_stA], fun l t  => by simp only [fin, AV.plain, if_true, upd_stA], fun l t  => by simp only [fin, AV.plain, if_true, upd_stA], fun l t  => by simp only [fin, AV.plain, if_true, upd_stA], fun l t  => by simp only [fin, AV.plain, if_true, upd_stA], fun l t _ _ => by simp only [fin, AV.plain, Bool.false_eq_true, if_false, pgS_stA, upd_stA], fun l t _ => by simp only [fin, AV.plain, Bool.false_eq_true, if_false, pgS_stA, upd_stA], fun l t _ => by simp only [fin, AV.plain, pgS_stA, upd_stA]; split <;> rfl, fun l t _ => by simp only [fin, AV.plain, pgS_stA, upd_stA]; split <;> rfl⟩
theorem plain_s :
  (∀ (k : IntKind) (n : Int), AV.plain (.int k n) = true) ∧
  (∀ (b : Bool), AV.plain (.bool b) = true) ∧
  (∀ (x : List UInt8), AV.plain (.str x) = true) ∧
  (∀ (xs : List AV), AV.plain (.slice xs) = true) ∧
  (∀ (d : AV), AV.plain (.ref d) = true) ∧
  (∀ (f : FuncId) (cap : List AV), AV.plain (.fn f cap) = true) ∧
  (∀ (x : Nat) (q : List Nat), AV.plain (.h x q) = true) ∧
  (∀ (x : Nat) (q : List Nat), AV.plain (.hp x q) = true) ∧
  (AV.plain .nilp = true) ∧
  (AV.plain .nils = true) ∧
  (AV.plain .anyb = true) ∧
  (AV.plain .hole = true) ∧
  (∀ (sz : Nat) (xs : List AV), AV.plain (.uslice sz xs) = false) ∧
  (∀ (d : AV), AV.plain (.ubox d) = false) ∧
  (∀ (fs : List AV), AV.plain (.agg fs) = AV.plains fs) ∧
  (∀ (fs : List AV), AV.plain (.tuple fs) = AV.plains fs) ∧
  (AV.plains [] = true) ∧
  (∀ d ds, AV.plains (d :: ds) = (d.plain && AV.plains ds)) :=
 ⟨fun _ _ => rfl, fun _ => rfl, fun _ => rfl, fun _ => rfl, fun _ => rfl, fun _ _ => rfl, fun _ _ => rfl, fun _ _ => rfl, rfl, rfl, rfl, rfl, fun _ _ => rfl, fun _ => rfl, fun _ => rfl, fun _ => rfl, rfl, fun _ _ => rfl⟩
theorem asg_s :
  (∀ (s : St) (k : IntKind) (n : Int), asgV s (.int k n) = some ((.int k n), s)) ∧
  (∀ (s : St) (b : Bool), asgV s (.bool b) = some ((.bool b), s)) ∧
  (∀ (s : St) (x : List UInt8), asgV s (.str x) = some ((.str x), s)) ∧
  (∀ (s : St) (xs : List AV), asgV s (.slice xs) = some ((.slice xs), s)) ∧
  (∀ (s : St) (d : AV), asgV s (.ref d) = some ((.ref d), s)) ∧
  (∀ (s : St) (f : FuncId) (cap : List AV), asgV s (.fn f cap) = some ((.fn f cap), s)) ∧
  (∀ (s : St) (x : Nat) (q : List Nat), asgV s (.hp x q) = some ((.hp x q), s)) ∧
  (∀ (s : St) , asgV s .nilp = some (.nilp, s)) ∧
  (∀ (s : St) , asgV s .nils = some (.nils, s)) ∧
  (∀ (s : St) , asgV s .anyb = some (.anyb, s)) ∧
  (∀ (s : St) , asgV s .hole = some (.hole, s)) ∧
  (∀ (s : St) (sz : Nat) (xs : List AV), asgV s (.uslice sz xs) = some ((.uslice sz xs), s)) ∧
  (∀ (s : St) (d : AV), asgV s (.ubox d) = some ((.ubox d), s)) ∧
  (∀ (s : St) (fs : List AV), asgV s (.agg fs) = some ((.agg fs), s)) ∧
  (∀ (s : St) (fs : List AV), asgV s (.tuple fs) = some ((.tuple fs), s)) ∧
  (∀ (s : St) y q, asgV s (.h y q) = tk s (.h y q)) :=
 ⟨fun _ _ _ => rfl, fun _ _ => rfl, fun _ _ => rfl, fun _ _ => rfl, fun _ _ => rfl, fun _ _ _ => rfl, fun _ _ _ => rfl, fun _  => rfl, fun _  => rfl, fun _  => rfl, fun _  => rfl, fun _ _ _ => rfl, fun _ _ => rfl, fun _ _ => rfl, fun _ _ => rfl, fun _ _ _ => rfl⟩
theorem pg_s :
  (∀ (t : Nat) (k : IntKind) (n : Int), pg t (.int k n) = (.int k n)) ∧
  (∀ (t : Nat) (b : Bool), pg t (.bool b) = (.bool b)) ∧
  (∀ (t : Nat) (x : List UInt8), pg t (.str x) = (.str x)) ∧
  (∀ (t : Nat) (xs : List AV), pg t (.slice xs) = (.slice xs)) ∧
  (∀ (t : Nat) (d : AV), pg t (.ref d) = (.ref d)) ∧
  (∀ (t : Nat) , pg t .nilp = .nilp) ∧
  (∀ (t : Nat) , pg t .nils = .nils) ∧
  (∀ (t : Nat) , pg t .anyb = .anyb) ∧
  (∀ (t : Nat) , pg t .hole = .hole) ∧
  (∀ (t : Nat) (sz : Nat) (xs : List AV), pg t (.uslice sz xs) = (.uslice sz xs)) ∧
  (∀ (t : Nat) (d : AV), pg t (.ubox d) = (.ubox d)) ∧
  (∀ (t : Nat) (fs : List AV), pg t (.agg fs) = (.agg fs)) ∧
  (∀ (t : Nat) (fs : List AV), pg t (.tuple fs) = (.tuple fs)) ∧
  (∀ (t y : Nat) q, pg t (.h y q) = if y = t then .hole else .h y q) ∧
  (∀ (t y : Nat) q, pg t (.hp y q) = if y = t then .hole else .hp y q) ∧
  (∀ (t : Nat) f c, pg t (.fn f c) = .fn f (pgs t c)) ∧
  (∀ t, pgs t [] = []) ∧
  (∀ t d ds, pgs t (d :: ds) = pg t d :: pgs t ds) ∧
  (∀ t, pgA t [] = []) ∧
  (∀ t u d l, pgA t ((u, d) :: l) = (u, pg t d) :: pgA t l) ∧
  (∀ t l, pgS t (stA l) = stA (pgA t l)) :=
 ⟨fun _ _ _ => by unfold pg; rfl, fun _ _ => by unfold pg; rfl, fun _ _ => by unfold pg; rfl, fun _ _ => by unfold pg; rfl, fun _ _ => by unfold pg; rfl, fun _  => by unfold pg; rfl, fun _  => by unfold pg; rfl, fun _  => by unfold pg; rfl, fun _  => by unfold pg; rfl, fun _ _ _ => by unfold pg; rfl, fun _ _ => by unfold pg; rfl, fun _ _ => by unfold pg; rfl, fun _ _ => by unfold pg; rfl, fun _ _ _ => by unfold pg; rfl, fun _ _ _ => by unfold pg; rfl, fun _ _ _ => by simp only [pg], fun _ => by simp only [pgs], fun _ _ _ => by simp only [pgs], fun _ => rfl, fun _ _ _ _ => rfl, fun t l => pgS_stA t l⟩
theorem pk_s :
  (∀ (t : Nat) (k : IntKind) (n : Int), pk t (.int k n) = (.int k n)) ∧
  (∀ (t : Nat) (b : Bool), pk t (.bool b) = (.bool b)) ∧
  (∀ (t : Nat) (x : List UInt8), pk t (.str x) = (.str x)) ∧
  (∀ (t : Nat) (xs : List AV), pk t (.slice xs) = (.slice xs)) ∧
  (∀ (t : Nat) (d : AV), pk t (.ref d) = (.ref d)) ∧
  (∀ (t : Nat) , pk t .nilp = .nilp) ∧
  (∀ (t : Nat) , pk t .nils = .nils) ∧
  (∀ (t : Nat) , pk t .anyb = .anyb) ∧
  (∀ (t : Nat) , pk t .hole = .hole) ∧
  (∀ (t : Nat) (sz : Nat) (xs : List AV), pk t (.uslice sz xs) = (.uslice sz xs)) ∧
  (∀ (t : Nat) (d : AV), pk t (.ubox d) = (.ubox d)) ∧
  (∀ (t : Nat) (fs : List AV), pk t (.agg fs) = (.agg fs)) ∧
  (∀ (t : Nat) (fs : List AV), pk t (.tuple fs) = (.tuple fs)) ∧
  (∀ (t y : Nat), pk t (.h y []) = .h y []) ∧
  (∀ (t y k : Nat) q, pk t (.h y (k :: q)) = if y = t then .hole else .h y (k :: q)) ∧
  (∀ (t y : Nat) q, pk t (.hp y q) = if y = t then .hole else .hp y q) ∧
  (∀ (t : Nat) f c, pk t (.fn f c) = .fn f (pks t c)) ∧
  (∀ t, pks t [] = []) ∧
  (∀ t d ds, pks t (d :: ds) = pk t d :: pks t ds) ∧
  (∀ t, pkA t [] = []) ∧
  (∀ t u d l, pkA t ((u, d) :: l) = (u, pk t d) :: pkA t l) ∧
  (∀ t l, pkS t (stA l) = stA (pkA t l)) :=
 ⟨fun _ _ _ => by unfold pk; rfl, fun _ _ => by unfold pk; rfl, fun _ _ => by unfold pk; rfl, fun _ _ => by unfold pk; rfl, fun _ _ => by unfold pk; rfl, fun _  => by unfold pk; rfl, fun _  => by unfold pk; rfl, fun _  => by unfold pk; rfl, fun _  => by unfold pk; rfl, fun _ _ _ => by unfold pk; rfl, fun _ _ => by unfold pk; rfl, fun _ _ => by unfold pk; rfl, fun _ _ => by unfold pk; rfl, fun _ _ => by simp [pk], fun _ _ _ _ => by simp [pk], fun _ _ _ => by unfold pk; rfl, fun _ _ _ => by simp only [pk], fun _ => by simp only [pks], fun _ _ _ => by simp only [pks], fun _ => rfl, fun _ _ _ _ => rfl, fun t l => pkS_stA t l⟩
def bnB : TK → Bool → Option AV
 | .bool, b => some (.bool b)
 | _, _ => none
def nilE (neg : Bool) : TK → Option (Option Bool) → Option AV
 | .slice _, some r => some (nilAV neg r)
 | _, _ => none
def nilQ (neg : Bool) : TK → Option Bool → Option AV
 | .ptr _, some b => some (.bool (b != neg))
 | _, _ => none
theorem bn_s (C : Cx) (s : St) (T : TypeId) :
  (∀ op k a k' b, bn C s op T (.int k a) (.int k' b) = bnI op k a k' b) ∧
  (∀ op a b, bn C s op T (.str a) (.str b) = bnS op a b) ∧
  (∀ a b, bn C s .eql T (.bool a) (.bool b) = bnB (C.T T).k (a == b)) ∧
  (∀ a b, bn C s .neq T (.bool a) (.bool b) = bnB (C.T T).k (!(a == b))) ∧
  (∀ xs, bn C s .eql T (.slice xs) .nils = nilE false (C.T T).k (nilS s (.slice xs))) ∧
  (∀ xs, bn C s .neq T (.slice xs) .nils = nilE true (C.T T).k (nilS s (.slice xs))) ∧
  (bn C s .eql T .nils .nils = nilE false (C.T T).k (nilS s .nils)) ∧
  (bn C s .neq T .nils .nils = nilE true (C.T T).k (nilS s .nils)) ∧
  (∀ x q, bn C s .eql T (.h x q) .nils = nilE false (C.T T).k (nilS s (.h x q))) ∧
  (∀ x q, bn C s .neq T (.h x q) .nils = nilE true (C.T T).k (nilS s (.h x q))) ∧
  (∀ x q, bn C s .eql T (.h x q) .nilp = nilQ false (C.T T).k (nilP s (.h x q))) ∧
  (∀ x q, bn C s .neq T (.h x q) .nilp = nilQ true (C.T T).k (nilP s (.h x q))) ∧
  (∀ d, bn C s .eql T (.ref d) .nilp = nilQ false (C.T T).k (nilP s (.ref d))) ∧
  (∀ d, bn C s .neq T (.ref d) .nilp = nilQ true (C.T T).k (nilP s (.ref d))) ∧
  (bn C s .eql T .nilp .nilp = nilQ false (C.T T).k (nilP s .nilp)) ∧
  (bn C s .neq T .nilp .nilp = nilQ true (C.T T).k (nilP s .nilp)) := by
 refine ⟨?_, ?_, ?_, ?_, ?_, ?_, ?_, ?_, ?_, ?_, ?_, ?_, ?_, ?_, ?_, ?_⟩ <;> intros <;> first
  | rfl
  | (simp only [bn]
     generalize (C.T T).k = kk
     cases kk <;> first | rfl | (simp only [nilE]; generalize nilS s _ = v; cases v <;> rfl) | (simp only [nilQ]; generalize nilP s _ = v; cases v <;> (try (rename_i b; cases b)) <;> rfl))
theorem bnI_s (k : IntKind) (a b : Int) :
  bnI .add k a k b = some (.int k (k.wrap (a + b))) ∧ bnI .sub k a k b = some (.int k (k.wrap (a - b))) ∧ bnI .mul k a k b = some (.int k (k.wrap (a * b))) ∧
  bnI .eql k a k b = some (.bool (a == b)) ∧ bnI .neq k a k b = some (.bool (a != b)) ∧ bnI .lss k a k b = some (.bool (decide (a < b))) ∧ bnI .leq k a k b = some (.bool (decide (a ≤ b))) ∧
  bnI .gtr k a k b = some (.bool (decide (b < a))) ∧ bnI .geq k a k b = some (.bool (decide (b ≤ a))) ∧
  bnI .and k a k b = some (.int k (bitsOf .and k a b)) ∧ bnI .or k a k b = some (.int k (bitsOf .or k a b)) ∧ bnI .xor k a k b = some (.int k (bitsOf .xor k a b)) ∧ bnI .andNot k a k b = some (.int k (bitsOf .andNot k a b)) := by
 simp [bnI]
theorem bnI_quo {k : IntKind} {a b : Int} (h : b ≠ 0) : bnI .quo k a k b = some (.int k (k.wrap (a.tdiv b))) := by simp [bnI, h]
theorem bnI_rem {k : IntKind} {a b : Int} (h : b ≠ 0) : bnI .rem k a k b = some (.int k (a.tmod b)) := by simp [bnI, h]
theorem bnS_s (a b : List UInt8) :
  bnS .eql a b = some (.bool (a == b)) ∧ bnS .neq a b = some (.bool !(a == b)) ∧ bnS .lss a b = some (.bool (Op.bytesLess a b)) ∧
  bnS .leq a b = some (.bool (Op.bytesLess a b || a == b)) ∧ bnS .gtr a b = some (.bool !(Op.bytesLess a b || a == b)) ∧ bnS .geq a b = some (.bool !(Op.bytesLess a b)) := by
 refine ⟨rfl, rfl, rfl, rfl, rfl, rfl⟩
theorem un_s : (∀ b, un .not (.bool b) = some (.bool !b)) ∧ (un .not .anyb = some .anyb) ∧ (∀ k n, un .neg (.int k n) = some (.int k (k.wrap (0 - n)))) := ⟨fun _ => rfl, rfl, fun _ _ => rfl⟩
def idxS : TK → Option UInt8 → Option AV
 | .str, some c => some (.int .u8 c.toNat)
 | _, _ => none
theorem idx_s (C : Cx) (T : TypeId) (l : List UInt8) (k : IntKind) (n : Int) : idx C T (.str l) (.int k n) = idxS (C.T T).k (getI l n) := by
 simp only [idx, getI]
 generalize (C.T T).k = kk
 cases kk <;> first | rfl | (simp only [idxS]; split <;> first | rfl | (cases l[n.toNat]? <;> rfl))
def iaS (C : Cx) : TK → Option AV → Option AV
 | .slice e, some d => if (C.T e).ok = true ∧ d.wd = (C.T e).sz then some (.ref d) else none
 | _, _ => none
theorem ia_s (C : Cx) (s : St) (T : TypeId) (xs : List AV) (k : IntKind) (n : Int) : ia C s T (.slice xs) (.int k n) = iaS C (C.T T).k (getI xs n) := by
 simp only [ia, getI]
 generalize (C.T T).k = kk
 cases kk <;> first | rfl | skip
 simp only [iaS]
 by_cases h0 : 0 ≤ n
 ·simp only [h0, true_and, if_true]
  split
  ·cases xs[n.toNat]? <;> simp [*]
  ·cases xs[n.toNat]? <;> simp [*]
 ·simp only [h0, false_and, if_false]
def iaH (C : Cx) (y : Nat) (q : List Nat) (n : Int) : TK → Option AV → Option AV
 | .slice e, some (.uslice sz xs) => if (getI xs n).isSome = true ∧ (C.T e).ok = true ∧ sz = (C.T e).sz then some (.hp y (q ++ [n.toNat])) else none
 | _, _ => none
theorem ia_h (C : Cx) (s : St) (T : TypeId) (y : Nat) (q : List Nat) (k : IntKind) (n : Int) : ia C s T (.h y q) (.int k n) = iaH C y q n (C.T T).k (AV.sub q (s y)) := by
 simp only [ia]
 generalize (C.T T).k = kk
 cases kk <;> first | rfl | skip
 rename_i e
 cases hs : AV.sub q (s y) with
 | none => simp [iaH]
 | some d =>
   cases d <;> first
    | (simp [iaH]; done)
    | skip
   rename_i sz xs
   have hg : (getI xs n).isSome = true ↔ 0 ≤ n ∧ n.toNat < xs.length := by
    unfold getI; split <;> simp_all <;> omega
   simp only [iaH, hg]
   by_cases h0 : 0 ≤ n <;> by_cases h1 : (C.T e).ok = true <;> simp [h0, h1]
def slS : TK → St → Option (List UInt8) → Option (AV × St)
 | .str, s, some t => some (.str t, s)
 | _, _, _ => none
def slL (C : Cx) : TK → St → List AV → Option (List AV) → Option (AV × St)
 | .slice e, s, xs, some t => if (C.T e).ok = true ∧ ∀ d ∈ xs, d.wd = (C.T e).sz then some (.slice t, s) else none
 | _, _, _, _ => none
theorem slc_str (C : Cx) (s : St) (T : TypeId) (l : List UInt8) :
  (∀ k a k' b, slc C s T (.str l) (some (.int k a)) (some (.int k' b)) = slS (C.T T).k s (subL l a b)) ∧
  (∀ k' b, slc C s T (.str l) none (some (.int k' b)) = slS (C.T T).k s (subL l 0 b)) ∧
  (∀ k a, slc C s T (.str l) (some (.int k a)) none = slS (C.T T).k s (subL l a l.length)) := by
 have e : ∀ (lo hi : Option AV) (a b : Int), (bd 0 lo = if 0 ≤ a then some a.toNat else none) → (bd l.length hi = if 0 ≤ b then some b.toNat else none) → slc C s T (.str l) lo hi = slS (C.T T).k s (subL l a b) := by
  intro lo hi a b h1 h2
  simp only [slc]
  generalize (C.T T).k = kk
  cases kk <;> first | rfl | skip
  simp only [h1, h2, subL]
  by_cases ha : 0 ≤ a <;> by_cases hb : 0 ≤ b <;> simp only [ha, hb, if_true, if_false, slS, true_and, false_and]
  ·by_cases hc : a ≤ b ∧ b ≤ l.length
   ·rw [if_pos ⟨by omega, by omega⟩, if_pos hc]
   ·rw [if_neg (fun h => hc ⟨by omega, by omega⟩), if_neg hc]
  ·rw [if_neg (by omega)]
 exact ⟨fun k a k' b => e _ _ a b rfl rfl, fun k' b => e _ _ 0 b rfl rfl, fun k a => e _ _ a l.length rfl (by simp [bd])⟩
theorem slc_sl (C : Cx) (s : St) (T : TypeId) (xs : List AV) :
  (∀ k a k' b, slc C s T (.slice xs) (some (.int k a)) (some (.int k' b)) = slL C (C.T T).k s xs (subL xs a b)) ∧
  (∀ k' b, slc C s T (.slice xs) none (some (.int k' b)) = slL C (C.T T).k s xs (subL xs 0 b)) ∧
  (∀ k a, slc C s T (.slice xs) (some (.int k a)) none = slL C (C.T T).k s xs (subL xs a xs.length)) := by
 have e : ∀ (lo hi : Option AV) (a b : Int), (bd 0 lo = if 0 ≤ a then some a.toNat else none) → (bd xs.length hi = if 0 ≤ b then some b.toNat else none) → slc C s T (.slice xs) lo hi = slL C (C.T T).k s xs (subL xs a b) := by
  intro lo hi a b h1 h2
  simp only [slc]
  generalize (C.T T).k = kk
  cases kk <;> first | rfl | skip
  simp only [h1, h2, subL]
  by_cases ha : 0 ≤ a <;> by_cases hb : 0 ≤ b <;> simp only [ha, hb, if_true, if_false, slL, true_and, false_and]
  ·by_cases hc : a ≤ b ∧ b ≤ xs.length
   ·rw [if_pos hc]
    have h1 : a.toNat ≤ b.toNat := by omega
    have h2 : b.toNat ≤ xs.length := by omega
    simp only [h1, h2, true_and]
   ·rw [if_neg (fun h => hc ⟨by omega, by omega⟩), if_neg hc]
  ·rw [if_neg (by omega)]
 exact ⟨fun k a k' b => e _ _ a b rfl rfl, fun k' b => e _ _ 0 b rfl rfl, fun k a => e _ _ a xs.length rfl (by simp [bd])⟩
def subO (q : List Nat) : Option AV → Option AV
 | some d => AV.sub q d
 | none => none
theorem sub_s : (∀ d, AV.sub [] d = some d) ∧ (∀ k q fs, AV.sub (k :: q) (.agg fs) = subO q fs[k]?) ∧ (∀ k q fs, AV.sub (k :: q) (.tuple fs) = subO q fs[k]?) ∧ (∀ k q sz xs, AV.sub (k :: q) (.uslice sz xs) = subO q xs[k]?) ∧
  (∀ q d, AV.sub (0 :: q) (.ubox d) = AV.sub q d) ∧ (∀ q d, subO q (some d) = AV.sub q d) ∧
  (∀ k q a b, AV.sub (k :: q) (.int a b) = none) := by
 refine ⟨fun d => by simp [AV.sub], ?_, ?_, ?_, fun q d => by simp [AV.sub], fun _ _ => rfl, fun _ _ _ _ => by simp [AV.sub]⟩
 ·intro k q fs; simp only [AV.sub]; cases fs[k]? <;> rfl
 ·intro k q fs; simp only [AV.sub]; cases fs[k]? <;> rfl
 ·intro k q sz fs; simp only [AV.sub]; cases fs[k]? <;> rfl
def putA (k : Nat) (q : List Nat) (n : AV) (fs : List AV) : Option AV → AV
 | some d => .agg (fs.set k (AV.put q n d))
 | none => .agg fs
def putT (k : Nat) (q : List Nat) (n : AV) (fs : List AV) : Option AV → AV
 | some d => .tuple (fs.set k (AV.put q n d))
 | none => .tuple fs
def putU (k : Nat) (q : List Nat) (n : AV) (sz : Nat) (xs : List AV) : Option AV → AV
 | some d => .uslice sz (xs.set k (AV.put q n d))
 | none => .uslice sz xs
theorem put_s : (∀ n d, AV.put [] n d = n) ∧ (∀ k q n fs, AV.put (k :: q) n (.agg fs) = putA k q n fs fs[k]?) ∧ (∀ k q n fs, AV.put (k :: q) n (.tuple fs) = putT k q n fs fs[k]?) ∧
  (∀ k q n sz xs, AV.put (k :: q) n (.uslice sz xs) = putU k q n sz xs xs[k]?) ∧ (∀ q n d, AV.put (0 :: q) n (.ubox d) = .ubox (AV.put q n d)) ∧
  (∀ k q n fs d, putA k q n fs (some d) = .agg (fs.set k (AV.put q n d))) ∧ (∀ k q n fs d, putT k q n fs (some d) = .tuple (fs.set k (AV.put q n d))) ∧
  (∀ k q n sz xs d, putU k q n sz xs (some d) = .uslice sz (xs.set k (AV.put q n d))) := by
 refine ⟨fun n d => by simp [AV.put], ?_, ?_, ?_, fun q n d => by simp [AV.put], fun _ _ _ _ _ => rfl, fun _ _ _ _ _ => rfl, fun _ _ _ _ _ _ => rfl⟩
 ·intro k q n fs; simp only [AV.put]; cases fs[k]? <;> rfl
 ·intro k q n fs; simp only [AV.put]; cases fs[k]? <;> rfl
 ·intro k q n sz fs; simp only [AV.put]; cases fs[k]? <;> rfl
theorem wd_s : (∀ k n, AV.wd (.int k n) = 1) ∧ (∀ b, AV.wd (.bool b) = 1) ∧ (∀ x, AV.wd (.str x) = 1) ∧ (∀ x, AV.wd (.slice x) = 1) ∧ (∀ n x, AV.wd (.uslice n x) = 1) ∧ (∀ x, AV.wd (.ref x) = 1) ∧ (∀ x, AV.wd (.ubox x) = 1) ∧
  AV.wd .nils = 1 ∧ AV.wd .nilp = 1 ∧ AV.wd .hole = 1 ∧ AV.wd .anyb = 1 ∧ (∀ x y, AV.wd (.h x y) = 1) ∧ (∀ x y, AV.wd (.hp x y) = 1) ∧ (∀ x y, AV.wd (.fn x y) = 1) ∧ (∀ fs, AV.wd (.agg fs) = AV.wds fs) ∧ (∀ fs, AV.wd (.tuple fs) = AV.wds fs) ∧ AV.wds [] = 0 ∧ (∀ d ds, AV.wds (d :: ds) = d.wd + AV.wds ds) := by
 simp [AV.wd, AV.wds]
theorem all_wd {α : Type} {e : α → AV} {n : Nat} (h : ∀ x, (e x).wd = n) (xs : List α) : (∀ d ∈ xs.map e, d.wd = n) = True := by
 simp only [List.mem_map, eq_iff_iff, iff_true]
 rintro d ⟨x, _, rfl⟩; exact h x
theorem cvt_i (C : Cx) (s : St) (A B : TypeId) (k k' : IntKind) (n : Int) (hA : (C.T A).ok = true) (hB : (C.T B).k = .int k') : cvt C s A B (.int k n) = some (.int k' (k'.wrap n)) := by
 simp only [cvt, hA, hB, if_true]
theorem byte_toB (m : Int) : byteAV (toB m) = .int .u8 (IntKind.u8.wrap m) := by
 have h : 0 ≤ IntKind.u8.wrap m ∧ IntKind.u8.wrap m < 256 := by rw [IntKind.wrap_u8]; omega
 simp only [byteAV, toB, UInt8.toNat_ofNat']
 congr 1
 omega
theorem toB_nat (m : Int) : ((toB m).toNat : Int) = IntKind.u8.wrap m := by
 have h := byte_toB m
 simpa [byteAV] using h
section
variable {C : Cx} {l : List (Nat × AV)} {Q : Exit → St → Prop} {s : St}
theorem w_reg {ros : List RO} {k : List Nat} (h : wpT C (stA l) ros none (fun _ s => Q .normal (stA (kpA k s)))) : wpC C (.reg ros (some k)) Q (stA l) := wpRs_of_T (fun _ _ h => h) h
theorem w_drw {ros : List RO} {af : List (List Nat)} {k : List Nat} (hlen : af.length = ros.length) (h : wpT C (stA l) ros (some []) (fun acc s => okP (clos af) 0 [] (acc.getD []).reverse = true ∧ Q .normal (stA (kpA k s)))) :
  wpC C (.drw ros af (some k)) Q (stA l) := drw_of_T hlen h
theorem w_seq {a b : SC} (h : ∀ Q' : Exit → St → Prop, (∀ s, onW (wpC C b Q) s → Q' .normal s) → (∀ s, Q .ret s → Q' .ret s) → (∀ i s, Q (.exit i) s → Q' (.exit i) s) → wpC C a Q' s) : wpC C (.seq a b) Q s :=
 h _ (fun _ h => h) (fun _ h => h) (fun _ _ h => h)
theorem w_sreg {ros : List RO} {k : List Nat} {b : SC} (h : wpT C (stA l) ros none (fun _ s => wpC C b Q (stA (kpA k s)))) : wpC C (.seq (.reg ros (some k)) b) Q (stA l) := wpRs_of_T (fun _ _ h => .inl h) h
theorem w_sdrw {ros : List RO} {af : List (List Nat)} {k : List Nat} {b : SC} (hlen : af.length = ros.length) (h : wpT C (stA l) ros (some []) (fun acc s => okP (clos af) 0 [] (acc.getD []).reverse = true ∧ wpC C b Q (stA (kpA k s)))) :
  wpC C (.seq (.drw ros af (some k)) b) Q (stA l) := drw_of_T (K := fun s => onW (wpC C b Q) (stA (kpA k s))) hlen (by
   have key : ∀ (os : List RO) (s : St) (acc : Option (List FP)), wpT C s os acc (fun acc s => okP (clos af) 0 [] (acc.getD []).reverse = true ∧ wpC C b Q (stA (kpA k s))) →
     wpT C s os acc (fun acc s => okP (clos af) 0 [] (acc.getD []).reverse = true ∧ onW (wpC C b Q) (stA (kpA k s))) := by
    intro os
    induction os with
    | nil => intro s acc h; exact ⟨h.1, .inl h.2⟩
    | cons o os ih =>
      intro s acc h
      have mono : ∀ {s : St} {so : SO} {K K' : List Nat → AV → St → Prop}, (∀ a b c, K a b c → K' a b c) → wpOT C s so K → wpOT C s so K' := by
       intro s so K K' hk h
       cases so with
       | call f args =>
         obtain ⟨g, caps, ps, r, h1, hcp, h2, h3, h4, h5, h6, h7, h8⟩ := h
         exact ⟨g, caps, ps, r, h1, hcp, h2, h3, h4, h5, h6, h7, hk _ _ _ h8⟩
       | shr so => obtain ⟨av, s1, h1, h2, h3, h4⟩ := h; exact ⟨av, s1, h1, h2, h3, hk _ _ _ h4⟩
       | kc f args u x =>
         obtain ⟨k1, k2, g, caps, ps, r, h1, hcp, h2, h3, h4, h5, h6, h7, h8, h9, h10⟩ := h
         exact ⟨k1, k2, g, caps, ps, r, h1, hcp, h2, h3, h4, h5, h6, h7, h8, h9, hk _ _ _ h10⟩
       | ka f args us =>
         obtain ⟨k2, g, caps, ps, r, h1, hcp, h2, h3, h4, h5, h6, h7, h8, h9⟩ := h
         exact ⟨k2, g, caps, ps, r, h1, hcp, h2, h3, h4, h5, h6, h7, h8, hk _ _ _ h9⟩
       | _ => obtain ⟨av, s1, h1, h2⟩ := h; exact ⟨av, s1, h1, hk _ _ _ h2⟩
      simp only [wpT, wpRT] at h ⊢
      split
      ·rename_i hg; rw [hg] at h; exact mono (fun _ _ _ => ih _ _) h
      ·rename_i t b' hg
       rw [hg] at h
       simp only at h
       split
       ·rename_i bb hs
        rw [hs] at h
        simp only at h
        split
        ·rename_i hb; rw [if_pos hb] at h; exact mono (fun _ _ _ => ih _ _) h
        ·rename_i hb; rw [if_neg hb] at h; exact ih _ _ h
       ·rename_i hs; rw [hs] at h; exact ih _ _ h
       ·rename_i h1 h2
        split at h
        ·exact h1 _ (by assumption)
        ·exact h2 (by assumption)
        ·exact h
   exact key _ _ _ h)
theorem w_ct {c : SX} {a b : SC} (hc : ev s c = .bool true) (h : wpC C a Q s) : wpC C (.cond c a b) Q s := by simp only [wpC, hc, if_true]; exact h
theorem w_cf {c : SX} {a b : SC} (hc : ev s c = .bool false) (h : wpC C b Q s) : wpC C (.cond c a b) Q s := by simp only [wpC, hc]; exact h
theorem w_blk {id : Nat} {b : SC} (h : ∀ Q' : Exit → St → Prop, (∀ s, Q .normal s → Q' .normal s) → (∀ s, Q .ret s → Q' .ret s) → (∀ s, Q .normal s → Q' (.exit id) s) → (∀ i s, i ≠ id → Q (.exit i) s → Q' (.exit i) s) → wpC C b Q' s) : wpC C (.block id b) Q s :=
 h (inBlk id Q) (fun _ h => h) (fun _ h => h) (fun s h => by simp only [inBlk, if_true]; exact h) (fun i s hi h => by simp only [inBlk, if_neg hi]; exact h)
theorem w_ex {id : Nat} (h : Q (.exit id) s) : wpC C (.exit id) Q s := h
theorem w_ret (h : Q .ret s) : wpC C .ret Q s := h
theorem w_skip (h : Q .normal s) : wpC C .skip Q s := h
def lpC (C : Cx) (b : SC) (Q : Exit → St → Prop) (s : St) : Prop := ∀ Z : St → Prop, (∀ s', wpC C b (andThen (onW Z) Q) s' → Z s') → Z s
theorem w_loop {b : SC} (h : onW (lpC C b Q) s) : wpC C (.loop b) Q s := h
theorem lpC_step {b : SC} (h : ∀ Q' : Exit → St → Prop, (∀ s, onW (lpC C b Q) s → Q' .normal s) → (∀ s, Q .ret s → Q' .ret s) → (∀ i s, Q (.exit i) s → Q' (.exit i) s) → wpC C b Q' s) : lpC C b Q s := by
 intro Z hZ
 refine hZ s (wpC_mono b ?_ (h (andThen (onW (lpC C b Q)) Q) (fun _ h => h) (fun _ h => h) (fun _ _ h => h)))
 intro e s' h'
 cases e with
 | normal => exact onW_mono (fun s h => h Z hZ) s' h'
 | _ => exact h'
theorem weak_eq {l' : List (Nat × AV)} (h : l'.map (·.2) = l'.map fun p => s p.1) : WeakL s l' := by
 intro p hp
 left
 induction l' with
 | nil => cases hp
 | cons a l' ih =>
   simp only [List.map_cons, List.cons.injEq] at h
   rcases List.mem_cons.1 hp with rfl | hp
   ·exact h.1
   ·exact ih h.2 hp
end
section
variable {C : Cx} {l : List (Nat × AV)} {Q : Exit → St → Prop} {s : St} {os ros : List RO} {K : Option (List FP) → St → Prop} {dst : Option Nat}
theorem ev_s (l : List (Nat × AV)) : (∀ n, ev (stA l) (.t n) = al n (stA l n)) ∧ (∀ av, ev (stA l) (.c av) = av) ∧ (∀ g, ev (stA l) (.f g) = .fn g []) := ⟨fun _ => rfl, fun _ => rfl, fun _ => rfl⟩
theorem st_s : (∀ t, stA [] t = .hole) ∧ (∀ u d (l : List (Nat × AV)) t, stA ((u, d) :: l) t = if t = u then d else stA l t) := ⟨fun _ => rfl, fun _ _ _ _ => rfl⟩
theorem kp_s (s : St) : kpA [] s = [] ∧ (∀ t k, kpA (t :: k) s = (t, s t) :: kpA k s) := ⟨rfl, fun _ _ => rfl⟩
theorem mis_s (s : St) : (∀ d, keepS s (some d) = some (d, s)) ∧ (∀ s1, stoS (some s1) = some (.hole, s1)) ∧ evs s [] = [] ∧ (∀ x xs, evs s (x :: xs) = ev s x :: evs s xs) ∧ evPs s [] = [] ∧ (∀ k x xs, evPs s ((k, x) :: xs) = (k, ev s x) :: evPs s xs) ∧
  evO s none = none ∧ (∀ x, evO s (some x) = some (ev s x)) ∧ (∀ b x y, pickV s (.bool b) x y = some (if b = true then x else y, s)) :=
 ⟨fun _ => rfl, fun _ => rfl, rfl, fun _ _ => rfl, rfl, fun _ _ _ => rfl, rfl, fun _ => rfl, fun b _ _ => by cases b <;> rfl⟩
theorem kind_s (C : Cx) : (∀ e d, iaS C (.slice e) (some d) = if (C.T e).ok = true ∧ d.wd = (C.T e).sz then some (.ref d) else none) ∧
  (∀ y q n e sz xs, iaH C y q n (.slice e) (some (.uslice sz xs)) = if (getI xs n).isSome = true ∧ (C.T e).ok = true ∧ sz = (C.T e).sz then some (.hp y (q ++ [n.toNat])) else none) ∧
  (∀ e s xs t, slL C (.slice e) s xs (some t) = if (C.T e).ok = true ∧ ∀ d ∈ xs, d.wd = (C.T e).sz then some (.slice t, s) else none) :=
 ⟨fun _ _ => rfl, fun _ _ _ _ _ _ => rfl, fun _ _ _ _ => rfl⟩
theorem kin2_s : (∀ b, bnB .bool b = some (.bool b)) ∧ (∀ c, idxS .str (some c) = some (.int .u8 c.toNat)) ∧ (∀ s t, slS .str s (some t) = some (.str t, s)) ∧ (∀ q d, subO q (some d) = AV.sub q d) :=
 ⟨fun _ => rfl, fun _ => rfl, fun _ _ => rfl, fun _ _ => rfl⟩
theorem ok_s (sz bytes : Nat) (z : AV) : (∀ k, TI.ok ⟨.int k, sz, bytes, z⟩ = true) ∧ TI.ok ⟨.bool, sz, bytes, z⟩ = true ∧ TI.ok ⟨.str, sz, bytes, z⟩ = true ∧ (∀ e, TI.ok ⟨.ptr e, sz, bytes, z⟩ = true) ∧ (∀ e, TI.ok ⟨.slice e, sz, bytes, z⟩ = true) ∧ (∀ e, TI.ok ⟨.struct e, sz, bytes, z⟩ = true) ∧ TI.ok ⟨.fn, sz, bytes, z⟩ = true := by
 simp [TI.ok]
theorem flat_s (sz bytes : Nat) (z : AV) : (∀ k, TI.flat ⟨.int k, sz, bytes, z⟩ = true) ∧ TI.flat ⟨.bool, sz, bytes, z⟩ = true ∧ TI.flat ⟨.str, sz, bytes, z⟩ = true ∧ (∀ e, TI.flat ⟨.ptr e, sz, bytes, z⟩ = true) ∧ (∀ e, TI.flat ⟨.slice e, sz, bytes, z⟩ = true) ∧ (∀ e, TI.flat ⟨.struct e, sz, bytes, z⟩ = false) ∧ TI.flat ⟨.fn, sz, bytes, z⟩ = true := by
 simp [TI.flat]
theorem wrap_byte (c : UInt8) (k : IntKind) (hk : k ≠ .i8) : k.wrap (c.toNat : Int) = (c.toNat : Int) := by
 have := c.toNat_lt
 cases k <;> first | (exact (hk rfl).elim) | (simp [IntKind.wrap, IntKind.bits, IntKind.signed]; try omega)
theorem wrapb_s (c : UInt8) : IntKind.i64.wrap (c.toNat : Int) = (c.toNat : Int) ∧ IntKind.u64.wrap (c.toNat : Int) = (c.toNat : Int) ∧ IntKind.u8.wrap (c.toNat : Int) = (c.toNat : Int) ∧ IntKind.i32.wrap (c.toNat : Int) = (c.toNat : Int) ∧ IntKind.u32.wrap (c.toNat : Int) = (c.toNat : Int) :=
 ⟨wrap_byte c _ (by simp), wrap_byte c _ (by simp), wrap_byte c _ (by simp), wrap_byte c _ (by simp), wrap_byte c _ (by simp)⟩
theorem w_abs {k : List Nat} {K : St → Prop} (l' : List (Nat × AV)) (h : ∀ P : List (Nat × AV) → Prop, P l' → wpT C (stA l) ros none (fun _ s => P (kpA k s))) (hk : K (stA l')) : wpT C (stA l) ros none (fun _ s => K (stA (kpA k s))) :=
 h (fun l => K (stA l)) hk
theorem w_absd {k : List Nat} {cl : List (List Nat)} {K : St → Prop} (l' : List (Nat × AV)) (h : ∀ P : List (Nat × AV) → Prop, P l' → wpT C (stA l) ros (some []) (fun acc s => okP cl 0 [] (acc.getD []).reverse = true ∧ P (kpA k s))) (hk : K (stA l')) :
  wpT C (stA l) ros (some []) (fun acc s => okP cl 0 [] (acc.getD []).reverse = true ∧ K (stA (kpA k s))) :=
 h (fun l => K (stA l)) hk
theorem OkAt.of_wpQ (hC : C.Ok) {f : FuncId} {fn : Func} {c : Code} {sc : SC} {fx : List Nat} {as outs : List AV} {r : AV} (hf : C.P.funcs[f]? = some fn) (hb : fn.body = some c)
  (hname : (fn.name == "runtime.NumGoroutine") = false) (hs : slimC ⟨fn.ntmps, fx⟩ c = some sc.strip) (hn : as.length ≤ fn.ntmps)
  (h : ∀ Q : Exit → St → Prop, (∀ s, onW (Ends C fx fn.results.toList r outs) s → Q .ret s) → (∀ s, onW (Ends C fx fn.results.toList r outs) s → Q .normal s) → wpC C sc Q (stA (num 0 as))) (hp : sc.plain = true := by kernel_rfl) : OkAt C f as r outs := by
 refine OkAt.of_wp hC hf hb hname hs hn ?_ hp
 rw [stL_num]
 exact h _ (fun s h => ⟨.inr rfl, h⟩) (fun s h => ⟨.inl rfl, h⟩)
def packR : List AV → AV
 | [d] => d
 | ds => .tuple ds
theorem w_fin {fx : List Nat} {rv : List ResultVar} {r : AV} {outs : List AV} (ds : List AV) (h1 : rv.map (resAV C s) = ds.map some) (h2 : r = packR ds) (h3 : (rv.map rvSlot).Nodup)
  (h4 : ∀ (i : Nat) (o : AV), outs[i]? = some o → o = .hole ∨ (o = s i ∧ o.ow = true ∧ i ∈ fx ∧ i ∉ rv.map rvSlot)) : Ends C fx rv r outs s := ⟨ds, h1, by subst h2; cases ds with | nil => rfl | cons a t => cases t <;> rfl, h3, h4⟩
theorem outs_nil {fx : List Nat} {rv : List ResultVar} : ∀ (i : Nat) (o : AV), ([] : List AV)[i]? = some o → o = .hole ∨ (o = s i ∧ o.ow = true ∧ i ∈ fx ∧ i ∉ rv.map rvSlot) := fun i o h => by simp at h
theorem lend_filter : ∀ (as ds : List AV), (lend as ds).filter (·.g) = []
 | [], _ => rfl
 | _ :: _, [] => rfl
 | a :: as, d :: ds => by simp only [lend, List.filter_cons]; exact lend_filter as ds
theorem wpOT_call0 {f : SX} {args : List SX} {g : FuncId} {caps : List AV} {K : List Nat → AV → St → Prop} (ds : List AV) (r : AV)
  (h1 : ev (stA l) f = .fn g caps) (hcp : AV.plains caps = true) (hds : views (stA l) (evs (stA l) args ++ caps) = some ds)
  (h5 : OkAt C g ds r []) (h6 : r.res = true) (h7 : AV.hss (evs (stA l) args ++ caps) = [] ∨ r.nosh = true) (hK : K [] r (stA l)) : wpOT C (stA l) (.call f args) K := by
 obtain ⟨e1, e2, e3, e4, e5, e6, e7⟩ := lend_spec _ _ hds
 refine ⟨g, caps, lend (evs (stA l) args ++ caps) ds, r, h1, hcp, by rw [e1, evs_map], fun p hp => (e3 p hp).1, e4, by rw [e2]; exact h5.outs e5.symm, h6, ?_, by rw [e6, e7, lend_filter]; exact hK⟩
 intro hl
 refine ⟨?_, fun p hp => by rw [(e3 p hp).2.2.1]; rfl⟩
 rcases h7 with h7 | h7
 ·exfalso
  simp only [lent, List.any_eq_true] at hl
  obtain ⟨p, hp, hpl⟩ := hl
  have hm := (e3 p hp).2.2.2
  have : p.a.hs = [] := by
   have key : ∀ (as : List AV) (a : AV), a ∈ as → AV.hss as = [] → a.hs = [] := by
    intro as
    induction as with
    | nil => intro a h; cases h
    | cons b as ih =>
      intro a h he
      simp only [AV.hss, List.append_eq_nil_iff] at he
      rcases List.mem_cons.1 h with rfl | h
      ·exact he.1
      ·exact ih a h he.2
   exact key _ _ hm h7
  rw [this] at hpl; simp at hpl
 ·exact h7
theorem w_call0 {f : SX} {args : List SX} {g : FuncId} {caps : List AV} {ds : List AV} {r : AV} (h5 : OkAt C g ds r [])
  (h1 : ev (stA l) f = .fn g caps) (hcp : AV.plains caps = true) (hds : views (stA l) (evs (stA l) args ++ caps) = some ds)
  (h6 : r.res = true) (h7 : AV.hss (evs (stA l) args ++ caps) = [] ∨ r.nosh = true)
  (hK : wpT C (fin (stA l) dst r) os none K) : wpT C (stA l) (⟨dst, .call f args, none⟩ :: os) none K := by
 simp only [wpT, wpRT, pushF]
 exact wpOT_call0 ds r h1 hcp hds h5 h6 h7 hK
theorem w_call1 {a : List FP} {f : SX} {args : List SX} {g : FuncId} {caps : List AV} {ds : List AV} {r : AV} (h5 : OkAt C g ds r [])
  (h1 : ev (stA l) f = .fn g caps) (hcp : AV.plains caps = true) (hds : views (stA l) (evs (stA l) args ++ caps) = some ds)
  (h6 : r.res = true) (h7 : AV.hss (evs (stA l) args ++ caps) = [] ∨ r.nosh = true)
  (hK : wpT C (fin (stA l) dst r) os (some (fpO (stA l) (use (stA l) (.call f args)) dst [] r :: a)) K) : wpT C (stA l) (⟨dst, .call f args, none⟩ :: os) (some a) K := by
 simp only [wpT, wpRT, pushF]
 exact wpOT_call0 ds r h1 hcp hds h5 h6 h7 hK
theorem w_callg0 {t : Nat} {b : Bool} {f : SX} {args : List SX} {g : FuncId} {caps : List AV} {ds : List AV} {r : AV} (h5 : OkAt C g ds r [])
  (h1 : ev (stA l) f = .fn g caps) (hcp : AV.plains caps = true) (hds : views (stA l) (evs (stA l) args ++ caps) = some ds)
  (h6 : r.res = true) (h7 : AV.hss (evs (stA l) args ++ caps) = [] ∨ r.nosh = true)
  (hK : wpT C (fin (stA l) dst r) os none K) : gdT C l dst (.call f args) t b os none K (.bool b) := by
 simp only [gdT, if_true]
 exact wpOT_call0 ds r h1 hcp hds h5 h6 h7 hK
theorem w_callg1 {a : List FP} {t : Nat} {b : Bool} {f : SX} {args : List SX} {g : FuncId} {caps : List AV} {ds : List AV} {r : AV} (h5 : OkAt C g ds r [])
  (h1 : ev (stA l) f = .fn g caps) (hcp : AV.plains caps = true) (hds : views (stA l) (evs (stA l) args ++ caps) = some ds)
  (h6 : r.res = true) (h7 : AV.hss (evs (stA l) args ++ caps) = [] ∨ r.nosh = true)
  (hK : wpT C (fin (stA l) dst r) os (some (fpO (stA l) (t :: use (stA l) (.call f args)) dst [] r :: a)) K) : gdT C l dst (.call f args) t b os (some a) K (.bool b) := by
 simp only [gdT, if_true]
 exact wpOT_call0 ds r h1 hcp hds h5 h6 h7 hK
theorem view_s (s : St) : views s [] = some [] ∧ (∀ d ds, views s (d :: ds) = (match view s d, views s ds with | some a, some b => some (a :: b) | _, _ => none)) ∧
  (∀ k n, view s (.int k n) = some (.int k n)) ∧ (∀ b, view s (.bool b) = some (.bool b)) ∧ (∀ x, view s (.str x) = some (.str x)) ∧ (∀ x, view s (.slice x) = some (.slice x)) ∧ (∀ x, view s (.ref x) = some (.ref x)) ∧
  view s .nils = some .nils ∧ view s .nilp = some .nilp ∧ (∀ fs, view s (.agg fs) = some (.agg fs)) ∧ (∀ f cap, view s (.fn f cap) = (views s cap).map (.fn f)) := by
 refine ⟨rfl, fun d ds => ?_, fun _ _ => rfl, fun _ => rfl, fun _ => rfl, fun _ => rfl, fun _ => rfl, rfl, rfl, fun _ => rfl, fun _ _ => by simp only [view]⟩
 simp only [views]; rfl
theorem shares_map {α : Type} {u e : α → AV} (h : ∀ x, (u x).share = e x) (xs : List α) : AV.shares (xs.map u) = xs.map e := by
 rw [AV.shares_eq]; simp [h]
theorem noshs_map {α : Type} {u : α → AV} (h : ∀ x, (u x).nosh = true) (xs : List α) : AV.noshs (xs.map u) = true := by
 induction xs with
 | nil => rfl
 | cons x xs ih => simp only [List.map_cons, AV.noshs, h, ih, Bool.and_self]
def WeakP (s : St) (H : List Nat) : List (Nat × AV) → Prop
 | [] => True
 | p :: l => (p.2 = s p.1 ∨ ((s p.1).tree = true ∧ Wd (s p.1) p.2 ∧ p.1 ∉ H)) ∧ WeakP s H l
theorem weak_mix {l' : List (Nat × AV)} (H : List Nat) (hH : AV.hss (l'.map (·.2)) = H) (h : WeakP s H l') : WeakL s l' := by
 have key : ∀ (l1 : List (Nat × AV)), WeakP s H l1 → ∀ p ∈ l1, p.2 = s p.1 ∨ ((s p.1).tree = true ∧ Wd (s p.1) p.2 ∧ p.1 ∉ H) := by
  intro l1
  induction l1 with
  | nil => intro _ p hp; cases hp
  | cons a l1 ih =>
    intro h p hp
    rcases List.mem_cons.1 hp with rfl | hp
    ·exact h.1
    ·exact ih h.2 p hp
 have hs : ∀ (l1 : List (Nat × AV)), ∀ p' ∈ l1, ∀ u ∈ p'.2.hs, u ∈ AV.hss (l1.map (·.2)) := by
  intro l1
  induction l1 with
  | nil => intro p hp; cases hp
  | cons a l1 ih =>
    intro p hp u hu
    simp only [List.map_cons, AV.hss, List.mem_append]
    rcases List.mem_cons.1 hp with rfl | hp
    ·exact .inl hu
    ·exact .inr (ih p hp u hu)
 intro p hp
 rcases key _ h p hp with h1 | ⟨h1, h2, h3⟩
 ·exact .inl h1
 ·refine .inr ⟨h1, h2, fun p' hp' => .inl fun hm => h3 ?_⟩
  rw [← hH]; exact hs l' p' hp' _ hm
def WeakQ (s : St) (H D : List Nat) : List (Nat × AV) → Prop
 | [] => True
 | p :: l => (p.2 = s p.1 ∨ ((s p.1).tree = true ∧ Wd (s p.1) p.2 ∧ (p.1 ∉ H ∨ ((s p.1).own = true ∧ p.2.own = true ∧ p.1 ∉ D)))) ∧ WeakQ s H D l
theorem weak_mixD {l' : List (Nat × AV)} (H D : List Nat) (hH : AV.hss (l'.map (·.2)) = H) (hD : AV.dhss (l'.map (·.2)) = D) (h : WeakQ s H D l') : WeakL s l' := by
 have key : ∀ (l1 : List (Nat × AV)), WeakQ s H D l1 → ∀ p ∈ l1, p.2 = s p.1 ∨ ((s p.1).tree = true ∧ Wd (s p.1) p.2 ∧ (p.1 ∉ H ∨ ((s p.1).own = true ∧ p.2.own = true ∧ p.1 ∉ D))) := by
  intro l1
  induction l1 with
  | nil => intro _ p hp; cases hp
  | cons a l1 ih =>
    intro h p hp
    rcases List.mem_cons.1 hp with rfl | hp
    ·exact h.1
    ·exact ih h.2 p hp
 have hs : ∀ (l1 : List (Nat × AV)), ∀ p' ∈ l1, (∀ u ∈ p'.2.hs, u ∈ AV.hss (l1.map (·.2))) ∧ ∀ u ∈ p'.2.dhs, u ∈ AV.dhss (l1.map (·.2)) := by
  intro l1
  induction l1 with
  | nil => intro p hp; cases hp
  | cons a l1 ih =>
    intro p hp
    simp only [List.map_cons, AV.hss, AV.dhss, List.mem_append]
    rcases List.mem_cons.1 hp with rfl | hp
    ·exact ⟨fun u hu => .inl hu, fun u hu => .inl hu⟩
    ·exact ⟨fun u hu => .inr ((ih p hp).1 u hu), fun u hu => .inr ((ih p hp).2 u hu)⟩
 intro p hp
 rcases key _ h p hp with h1 | ⟨h1, h2, h3⟩
 ·exact .inl h1
 ·refine .inr ⟨h1, h2, fun p' hp' => ?_⟩
  rcases h3 with h3 | ⟨o1, o2, o3⟩
  ·exact .inl fun hm => h3 (by rw [← hH]; exact (hs l' p' hp').1 _ hm)
  ·exact .inr ⟨o1, o2, fun hm => o3 (by rw [← hD]; exact (hs l' p' hp').2 _ hm)⟩
theorem wq_nil {H D : List Nat} : WeakQ s H D [] := trivial
theorem wq_eq {H D : List Nat} {t : Nat} {d : AV} {l' : List (Nat × AV)} (h : d = s t) (hl : WeakQ s H D l') : WeakQ s H D ((t, d) :: l') := ⟨.inl h, hl⟩
theorem wq_ow {H D : List Nat} {t : Nat} {d d' : AV} {l' : List (Nat × AV)} (e : s t = d) (ht : d.tree = true) (hd : Wd d d') (h1 : d.own = true) (h2 : d'.own = true) (hD : t ∉ D) (hl : WeakQ s H D l') : WeakQ s H D ((t, d') :: l') :=
 ⟨.inr ⟨by rw [e]; exact ht, by rw [e]; exact hd, .inr ⟨by rw [e]; exact h1, h2, hD⟩⟩, hl⟩
theorem wk_nil {H : List Nat} : WeakP s H [] := trivial
theorem wk_eq {H : List Nat} {t : Nat} {d : AV} {l' : List (Nat × AV)} (h : d = s t) (hl : WeakP s H l') : WeakP s H ((t, d) :: l') := ⟨.inl h, hl⟩
theorem wk_wd {H : List Nat} {t : Nat} {d d' : AV} {l' : List (Nat × AV)} (e : s t = d) (ht : d.tree = true) (hd : Wd d d') (hH : t ∉ H) (hl : WeakP s H l') : WeakP s H ((t, d') :: l') := ⟨.inr ⟨by rw [e]; exact ht, by rw [e]; exact hd, hH⟩, hl⟩
theorem wds_rep {a b : AV} (h : Wd a b) : ∀ n, Wds (List.replicate n a) (List.replicate n b)
 | 0 => .nil
 | n + 1 => by simp only [List.replicate_succ]; exact .cons h (wds_rep h n)
theorem wd_rep {α : Type} {sz : Nat} {u : α → AV} {z : α} {a : AV} (h : Wd a (u z)) (n : Nat) : Wd (.uslice sz (List.replicate n a)) (.uslice sz ((List.replicate n z).map u)) := by
 rw [List.map_replicate]; exact .uslice (wds_rep h n)
end
theorem cvt_i' {C : Cx} {A B : TypeId} {k' : IntKind} (hA : (C.T A).ok = true) (hB : (C.T B).k = .int k') : ∀ s k n, cvt C s A B (.int k n) = some (.int k' (k'.wrap n)) := fun s k n => cvt_i C s A B k k' n hA hB
def strU : Option AV → Option AV
 | some (.uslice 1 xs) => (bytesOf xs).map .str
 | _ => none
theorem cvt_bs' {C : Cx} {A B e : TypeId} (hA : (C.T A).k = .slice e) (hB : (C.T B).k = .str) (he : (C.T e).k = .int .u8) :
  (∀ s xs, cvt C s A B (.slice xs) = (bytesOf xs).map .str) ∧ (∀ s, cvt C s A B .nils = some (.str [])) ∧ (∀ s x q, cvt C s A B (.h x q) = strU (AV.sub q (s x))) := by
 have hA' : (C.T A).ok = true := by simp [TI.ok, hA]
 refine ⟨fun s xs => ?_, fun s => ?_, fun s x q => ?_⟩
 ·simp only [cvt, hA', hA, hB, he, if_true]
 ·simp only [cvt, hA', hA, hB, he, if_true]
 ·simp only [cvt, hA', hA, hB, he, if_true]
  rfl
theorem strU_s (xs : List AV) : strU (some (.uslice 1 xs)) = (bytesOf xs).map .str := rfl
theorem bytesOf_cons (c : UInt8) (r : List AV) : bytesOf (byteAV c :: r) = (bytesOf r).map (c :: ·) := by
 have := c.toNat_lt
 simp only [byteAV, bytesOf]
 rw [if_pos (by omega)]
 simp
theorem bytesOf_s : bytesOf [] = some [] ∧ (∀ l : List UInt8, bytesOf (l.map byteAV) = some l) ∧ (∀ (c : UInt8) r, bytesOf (.int .u8 (c.toNat : Int) :: r) = (bytesOf r).map (c :: ·)) ∧
  (∀ m r, bytesOf (.int .u8 (IntKind.u8.wrap m) :: r) = (bytesOf r).map (toB m :: ·)) :=
 ⟨rfl, bytesOf_map, fun c r => bytesOf_cons c r, fun m r => by rw [← byte_toB]; exact bytesOf_cons _ r⟩
theorem bnI_quo' {k : IntKind} {b : Int} (h : b ≠ 0) : ∀ a, bnI .quo k a k b = some (.int k (k.wrap (a.tdiv b))) := fun _ => bnI_quo h
theorem bnI_rem' {k : IntKind} {b : Int} (h : b ≠ 0) : ∀ a, bnI .rem k a k b = some (.int k (a.tmod b)) := fun _ => bnI_rem h
theorem all_wd' {α : Type} {e : α → AV} {n : Nat} (h : ∀ x, (e x).wd = n) : ∀ xs : List α, (∀ d ∈ xs.map e, d.wd = n) = True := all_wd h
theorem all_cons {P : AV → Prop} (d : AV) (ds : List AV) : (∀ x ∈ d :: ds, P x) = (P d ∧ ∀ x ∈ ds, P x) := by simp
theorem all_nil {P : AV → Prop} : (∀ x ∈ ([] : List AV), P x) = True := by simp
def addR (a b : List UInt8) : Option Unit → Option AV
 | some _ => some (.str (a ++ b))
 | none => none
theorem bnS_cat (a b : List UInt8) : bnS .add a b = addR a b (okLen (a.length + b.length)) := by
 simp only [bnS, okLen]; split <;> rfl
theorem addR_s (a b : List UInt8) (u : Unit) : addR a b (some u) = some (.str (a ++ b)) := rfl
theorem pth_s : (∀ l : List Nat, [] ++ l = l) ∧ (∀ a (l m : List Nat), (a :: l) ++ m = a :: (l ++ m)) := ⟨fun _ => rfl, fun _ _ _ => rfl⟩
def appB (C : Cx) (e U : TypeId) : Bool := (C.T e).ok && ((C.T e).zero.wd == (C.T e).sz) && (flat (C.T e).zero).isSome && appOk C e U
def apR (C : Cx) (e : TypeId) (xs : List AV) : Option (List AV × St) → Option (AV × St)
 | some (ys, s2) => if (∀ d ∈ ys, d.wd = (C.T e).sz) ∧ (room (C.T e).bytes (xs.length + ys.length)).isSome = true then some (.uslice (C.T e).sz (xs ++ ys), s2) else none
 | none => none
def apS (C : Cx) (e : TypeId) (y : AV) (o : Option Nat) : Option (AV × St) → Option (AV × St)
 | some (.uslice sz xs, s1) => if sz = (C.T e).sz then apR C e xs (apy s1 (pkO o y)) else none
 | _ => none
theorem room_iff (b n : Nat) : (room b n).isSome = true ↔ n * b ≤ 140737488355328 ∧ n ≤ 9223372036854775807 := by unfold room; split <;> simp_all
theorem apd_s {C : Cx} {T U e : TypeId} (hT : (C.T T).k = .slice e) (hok : appB C e U = true) : ∀ s x y, apd C s T U x y = apS C e y x.owner (apx C e s x) := by
 intro s x y
 simp only [appB, Bool.and_eq_true, beq_iff_eq] at hok
 rw [apd_eq, hT]
 simp only
 rw [if_pos ⟨hok.1.1.1, hok.1.1.2, hok.1.2, hok.2⟩]
 generalize x.owner = o
 cases apx C e s x with
 | none => rfl
 | some p =>
   obtain ⟨d, s1⟩ := p
   cases d <;> first
    | rfl
    | (simp only [apS]
       split
       ·rename_i h; subst h
        generalize apy s1 (pkO o y) = z
        cases z with
        | none => rfl
        | some p => simp only [apR, room_iff]
       ·rfl)
def apyU : Option (AV × St) → Option (List AV × St)
 | some (.uslice _ ys, s2) => some (ys, s2)
 | _ => none
theorem ap_s (s : St) : apy s .nils = some ([], s) ∧ (∀ ys, apy s (.slice ys) = some (ys, s)) ∧ (∀ l, apy s (.str l) = some (l.map byteAV, s)) ∧
  (∀ a q, apy s (.h a q) = apyU (tk s (.h a q))) ∧ (∀ n ys, apyU (some (.uslice n ys, s)) = some (ys, s)) :=
 ⟨rfl, fun _ => rfl, fun _ => rfl, fun _ _ => by simp only [apy]; rfl, fun _ _ => rfl⟩
theorem ap2_s (C : Cx) (e : TypeId) : (∀ s, apx C e s .nils = some (.uslice (C.T e).sz [], s)) ∧ (∀ s a q, apx C e s (.h a q) = tk s (.h a q)) ∧
  (∀ y o sz xs s1, apS C e y o (some (.uslice sz xs, s1)) = if sz = (C.T e).sz then apR C e xs (apy s1 (pkO o y)) else none) ∧
  (∀ xs ys s2, apR C e xs (some (ys, s2)) = if (∀ d ∈ ys, d.wd = (C.T e).sz) ∧ (room (C.T e).bytes (xs.length + ys.length)).isSome = true then some (.uslice (C.T e).sz (xs ++ ys), s2) else none) :=
 ⟨fun _ => rfl, fun _ _ _ => rfl, fun _ _ _ _ _ => rfl, fun _ _ _ => rfl⟩
theorem ap3_s : (∀ d, pkO none d = d) ∧ (∀ x d, pkO (some x) d = pk x d) ∧ (∀ x q, AV.owner (.h x q) = some x) ∧ AV.owner .nils = none :=
 ⟨fun _ => rfl, fun _ _ => rfl, fun _ _ => rfl, rfl⟩
def tkO (s : St) (x : Nat) (q : List Nat) : Option AV → Option (AV × St)
 | some d => if d.plain = true then none else some (d, upd (pkS x s) x (AV.put q d.hollow (s x)))
 | none => none
theorem tk_h (s : St) (x : Nat) (q : List Nat) : tk s (.h x q) = tkO s x q (AV.sub q (s x)) := by
 simp only [tk]; cases AV.sub q (s x) <;> rfl
theorem tk_s (s : St) : (∀ x q d, tkO s x q (some d) = if d.plain = true then none else some (d, upd (pkS x s) x (AV.put q d.hollow (s x)))) ∧ (∀ k n, tk s (.int k n) = some (.int k n, s)) ∧ (∀ b, tk s (.bool b) = some (.bool b, s)) ∧ (∀ x, tk s (.str x) = some (.str x, s)) ∧
  (∀ x, tk s (.slice x) = some (.slice x, s)) ∧ (∀ x, tk s (.ref x) = some (.ref x, s)) ∧ (∀ x, tk s (.agg x) = some (.agg x, s)) ∧ tk s .nils = some (.nils, s) ∧ tk s .nilp = some (.nilp, s) :=
 ⟨fun _ _ _ => rfl, fun _ _ => rfl, fun _ => rfl, fun _ => rfl, fun _ => rfl, fun _ => rfl, fun _ => rfl, rfl, rfl⟩
theorem upd_l (l : List (Nat × AV)) (t : Nat) (d : AV) : upd (stA l) t d = stA ((t, d) :: l) := upd_stA l t d
theorem hol_s : (∀ n x, AV.hollow (.uslice n x) = .hole) ∧ (∀ x, AV.hollow (.ubox x) = .hole) ∧ (∀ fs, AV.hollow (.agg fs) = .agg (AV.hollows fs)) ∧ (∀ fs, AV.hollow (.tuple fs) = .tuple (AV.hollows fs)) ∧ AV.hollows [] = [] ∧ (∀ d ds, AV.hollows (d :: ds) = d.hollow :: AV.hollows ds) ∧
  (∀ k n, AV.hollow (.int k n) = .int k n) ∧ (∀ b, AV.hollow (.bool b) = .bool b) ∧ (∀ x, AV.hollow (.str x) = .str x) ∧ (∀ x, AV.hollow (.slice x) = .slice x) ∧ (∀ x, AV.hollow (.ref x) = .ref x) ∧ AV.hollow .nils = .nils ∧ AV.hollow .nilp = .nilp ∧ AV.hollow .hole = .hole := by
 simp [AV.hollow, AV.hollows]
def viewH : Option AV → Option AV
 | some d => (match d with | .tuple _ => none | d => if d.plain = true then none else some d.share)
 | none => none
def viewP : Option AV → Option AV
 | some d => (match d with | .tuple _ => none | d => some (.ref d.share))
 | none => none
theorem view_h (s : St) (x : Nat) (q : List Nat) : view s (.h x q) = viewH (AV.sub q (s x)) ∧ view s (.hp x q) = (if AV.cross q (s x) = true then viewP (AV.sub q (s x)) else none) := by
 constructor
 ·simp only [view]; rfl
 ·simp only [view]; rfl
theorem viewH_s : (∀ n xs, viewH (some (.uslice n xs)) = some (.slice (AV.shares xs))) ∧ (∀ d, viewH (some (.ubox d)) = some (.ref d.share)) ∧ (∀ fs, viewH (some (.agg fs)) = if AV.plains fs = true then none else some (.agg (AV.shares fs))) ∧
  (∀ fs, viewP (some (.agg fs)) = some (.ref (.agg (AV.shares fs)))) ∧ (∀ k n, viewP (some (.int k n)) = some (.ref (.int k n))) ∧ (∀ x, viewP (some (.str x)) = some (.ref (.str x))) :=
 ⟨fun _ _ => by simp [viewH, AV.plain, AV.share], fun _ => by simp [viewH, AV.plain, AV.share], fun fs => by cases h : AV.plains fs <;> simp [viewH, AV.plain, AV.share, h], fun _ => by simp [viewP, AV.share], fun _ _ => by simp [viewP, AV.share], fun _ => by simp [viewP, AV.share]⟩
theorem share_s : (∀ n xs, AV.share (.uslice n xs) = .slice (AV.shares xs)) ∧ (∀ d, AV.share (.ubox d) = .ref d.share) ∧ (∀ xs, AV.share (.slice xs) = .slice (AV.shares xs)) ∧ (∀ d, AV.share (.ref d) = .ref d.share) ∧ (∀ fs, AV.share (.agg fs) = .agg (AV.shares fs)) ∧ (∀ fs, AV.share (.tuple fs) = .tuple (AV.shares fs)) ∧
  (∀ k n, AV.share (.int k n) = .int k n) ∧ (∀ b, AV.share (.bool b) = .bool b) ∧ (∀ x, AV.share (.str x) = .str x) ∧ AV.share .nils = .nils ∧ AV.share .nilp = .nilp ∧ AV.shares [] = [] ∧ (∀ d ds, AV.shares (d :: ds) = d.share :: AV.shares ds) := by
 simp [AV.share, AV.shares]
theorem own_s : (∀ k n, AV.owner (.int k n) = none) ∧ (∀ b, AV.owner (.bool b) = none) ∧ (∀ x, AV.owner (.str x) = none) ∧ (∀ x, AV.owner (.slice x) = none) ∧ (∀ x, AV.owner (.ref x) = none) ∧ (∀ x, AV.owner (.agg x) = none) ∧ AV.owner .nilp = none ∧ AV.owner .nils = none ∧ (∀ x q, AV.owner (.h x q) = some x) :=
 ⟨fun _ _ => rfl, fun _ => rfl, fun _ => rfl, fun _ => rfl, fun _ => rfl, fun _ => rfl, rfl, rfl, fun _ _ => rfl⟩
end Go.Fw
