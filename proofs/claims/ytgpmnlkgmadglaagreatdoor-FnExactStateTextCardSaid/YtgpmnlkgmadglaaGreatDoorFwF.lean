/- Part of a proof that a law returns true for every input. No condition. -/
import Derived.Test.YtgpmnlkgmadglaaGreatDoorFwE
import Derived.Orders
import Derived.KernelRfl
import Derived.Test.YtgpmnlkgmadglaaGreatDoorFwA
namespace Go.c0
section
variable {C : ck} {w0 w : World} {F0 X : Nat → Prop} {n : Fr} {ρ : Nat → Value} {s s1 : ao} {a : Act} {av : I} {Q : Exit → Act → World → Prop}
def b2.un (o : b2) : b2 := ⟨o.dst, o.bG.base, o.guard⟩
theorem wg {ops : Array Oper} : ∀ {os : List Oper} {rs : List b2}, o5 n ops os = some rs → os.length = rs.length ∧ ∀ (i : Nat) (o : Oper), os[i]? = some o → ∃ r, rs[i]? = some r ∧ o4 n ops o = some r := by
 intro os
 induction os with
 | nil => intro rs h; simp only [o5, Option.some.injEq] at h; subst h; exact ⟨rfl, fun i o h => by simp at h⟩
 | cons o os ih =>
   intro rs h
   simp only [o5] at h
   split at h
   ·rename_i r awM ag ah
    simp only [Option.some.injEq] at h; subst h
    obtain ⟨bU, cb⟩ := ih ah
    refine ⟨by simp [bU], fun i mE cg => ?_⟩
    cases i with
    | zero => simp at cg; subst cg; exact ⟨r, rfl, ag⟩
    | succ i => simpa using cb i mE (by simpa using cg)
   ·cases h
theorem y0 {o : Oper} {y : Nat → Option Bool} (h : o.guard = none) : Region.wanted o y = true := by simp [Region.wanted, h]
theorem Q5 (h : Rel w0 F0 X n ρ s a w) {ops : Array Oper} {j t : Nat} (b3 : (ops[j]?).bind (·.dst) = some t) :
  (∀ b, s t = .bool b → yielded ops a.tmps j = some b) ∧ (s t = .tuple [] → yielded ops a.tmps j = none) := by
 obtain ⟨ai, ad, br, F, S, aV⟩ := h
 have jt := aV.dC t
 refine ⟨fun b ab => ?_, fun ab => ?_⟩
 ·rw [ab] at jt
  have aN := rv jt
  simp only [yielded, b3, Option.bind_some]
  rw [Array.getD_eq_getD_getElem?] at aN
  cases bT : a.tmps[t]? with
  | none => rw [bT] at aN; simp [undef] at aN
  | some v => rw [bT] at aN; simp at aN; subst aN; rfl
 ·rw [ab] at jt
  obtain ⟨⟨arr, ag, ah⟩, _⟩ := (aG.cJ (d := .tuple []) rfl).1 jt
  simp only [yielded, b3, Option.bind_some]
  rw [Array.getD_eq_getD_getElem?] at ag
  cases bT : a.tmps[t]? with
  | none => rfl
  | some v => rw [bT] at ag; simp at ag; subst ag; rfl
theorem DG (bl : C.e0) {ops : Array Oper} {ros : List b2} {l2 : List Nat} {K : ao → Prop} (aY : ∀ aA cK aL, K aA → Rel w0 F0 X n ρ aA cK aL → wpOps C.P ops Q l2 cK aL) :
  ∀ (l : List Nat), (∀ i ∈ l, (ops[i]? = none → ros[i]? = none) ∧ ∀ o, ops[i]? = some o → ∃ r, ros[i]? = some r ∧ o4 n ops o = some r.un) →
  ∀ (s : ao) (a : Act) (w : World), jZ C ros s l K → Rel w0 F0 X n ρ s a w → wpOps C.P ops Q (l ++ l2) a w := by
 intro l
 induction l with
 | nil => intro _ s a w h aV; exact aY s a w h aV
 | cons i l ih =>
   intro o7 s a w h aV
   replace ih := ih fun i al => o7 i (List.mem_cons_of_mem _ al)
   rw [List.cons_append]
   simp only [wpOps]
   cases cg : ops[i]? with
   | none =>
     simp only [jZ, (o7 i (by simp)).1 cg] at h
     exact ih s a w h aV
   | some o =>
     obtain ⟨r, ag, ah⟩ := (o7 i (by simp)).2 o cg
     simp only [jZ, ag] at h
     show (if Region.wanted o (yielded ops a.tmps) = true then o.wp C.P a w (wpOps C.P ops Q (l ++ l2)) Q ∨ (o.asks C.P a w ∧ LetsOut Q) else wpOps C.P ops Q (l ++ l2) (a.put o.dst undef) w)
     simp only [o4] at ah
     split at ah
     ·rename_i y1
      split at ah
      ·rename_i g bT
       obtain ⟨rd, bG, rg⟩ := r
       simp only [b2.un, Option.some.injEq, b2.mk.injEq] at ah
       obtain ⟨rfl, cD, rfl⟩ := ah
       simp only [lq] at h
       have run : ∀ (du : ao → Prop), (∀ aA, du aA → jZ C ros aA l K) → nr C s bG (fun av s1 => du (fin s1 o.dst av)) → o.wp C.P a w (wpOps C.P ops Q (l ++ l2)) Q :=
        fun du lP hw => Q2 bl aV cD y1 hw (fun aA cK aL az eI => ih aA cK aL (lP aA az) eI)
       cases tx : o.guard with
       | none =>
         rw [tx] at bT
         simp only [v8, Option.some.injEq] at bT; subst bT
         simp only at h
         rw [if_pos (y0 tx)]
         exact .inl (run _ (fun _ h => h) h)
       | some DH =>
         obtain ⟨j, b⟩ := DH
         rw [tx] at bT
         simp only [v8] at bT
         split at bT
         ·rename_i t bb
          simp only [Option.some.injEq] at bT; subst bT
          simp only at h
          obtain ⟨e1, hD⟩ := Q5 aV bb
          have Io : ∀ (du : jZ C ros (fin s o.dst (.tuple [])) l K), wpOps C.P ops Q (l ++ l2) (a.put o.dst undef) w := fun du => ih _ _ _ du (Rel.skip aV y1)
          split at h
          ·rename_i fJ ad
           have bt := e1 fJ ad
           split at h
           ·rename_i ab; subst ab
            rw [if_pos (by simp [Region.wanted, tx, bt])]
            exact .inl (run _ (fun _ h => h) h)
           ·rename_i ab
            rw [if_neg (by simp [Region.wanted, tx, bt, ab])]
            exact Io h
          ·rename_i ad
           have bt := hD ad
           rw [if_neg (by simp [Region.wanted, tx, bt])]
           exact Io h
          ·exact h.elim
         ·cases bT
      ·cases ah
     ·cases ah
theorem Ip (bl : C.e0) {ops : Array Oper} {ros : List b2} (qB : o5 n ops ops.toList = some (ros.map b2.un)) {K : ao → Prop} (aY : ∀ aA cK aL, K aA → Rel w0 F0 X n ρ aA cK aL → Q .normal cK aL) :
  ∀ (l : List Nat) (s : ao) (a : Act) (w : World), jZ C ros s l K → Rel w0 F0 X n ρ s a w → wpOps C.P ops Q l a w := by
 obtain ⟨aR, o7⟩ := wg qB
 intro l s a w h aV
 have := DG (Q := Q) bl (ros := ros) (ops := ops) (l2 := []) (K := K) (n := n) (ρ := ρ) (w0 := w0) (F0 := F0) (X := X) (fun aA cK aL az eI => aY aA cK aL az eI) l (fun i _ => ⟨fun cg => by
   rw [List.getElem?_eq_none_iff, ← List.length_map (f := b2.un), ← aR]
   have := Array.getElem?_eq_none_iff.1 cg
   simpa using this, fun o cg => by
   obtain ⟨an, h1, ah⟩ := o7 i o (by simpa using cg)
   obtain ⟨r, ag, rfl⟩ : ∃ r, ros[i]? = some r ∧ r.un = an := by simpa using h1
   exact ⟨r, ag, ah⟩⟩) s a w h aV
 rwa [List.append_nil] at this
theorem Rel.drawn (h : Rel w0 F0 X n ρ s a w) (k : Nat) : Rel w0 F0 X n ρ s a { w with drawn := k } := by
 obtain ⟨ag, ah, br, F, S, aI⟩ := h
 exact ⟨ag, ah, br, F, S, aI.grow (fun _ _ => rfl) (Nat.le_refl _) rfl rfl rfl⟩
theorem Q6 (bl : C.e0) {id : Nat} {ops : Array Oper} {ros : List b2} (qB : o5 n ops ops.toList = some (ros.map b2.un)) {K : ao → Prop} (aY : ∀ aA cK aL, K aA → Rel w0 F0 X n ρ aA cK aL → Q .normal cK aL)
  (h : k9 C s ros K) (aV : Rel w0 F0 X n ρ s a w) : (Code.region id ops false).wp C.P Q a w := by
 refine wp_region (Ip bl qB aY _ s a w ?_ aV)
 have := QK C K ros [] s h
 have aR := (wg qB).1
 simp only [List.nil_append, List.length_nil, Nat.add_zero, List.map_id'] at this
 rw [List.length_map] at aR
 rw [← aR] at this
 simpa using this
end
def DI (oc : List (List Nat)) (l : List Nat) : Prop :=
 l.Nodup ∧ (∀ i, i ∈ l ↔ i < oc.length) ∧ ∀ u i v, l = u ++ i :: v → ∀ e ∈ (oc[i]?).getD [], e ∈ u
def ns (ops : Array Oper) : List (List Nat) := ops.toList.map fun o => (o.after.toList.filter fun e => Region.binds .any e).map (·.on)
def wh (oc : List (List Nat)) : Bool := oc.zipIdx.all fun p => p.1.all fun e => decide (e < p.2)
theorem Q7 {oc : List (List Nat)} (h : wh oc = true) {i : Nat} {l : List Nat} (al : oc[i]? = some l) : ∀ e ∈ l, e < i := by
 intro e he
 simp only [wh, List.all_eq_true] at h
 have := h (l, i) (by rw [List.mem_zipIdx_iff_getElem?]; exact al) e he
 simpa using this
theorem Q8 {ops : Array Oper} (ab : wh (ns ops) = true) : ∀ (fuel t : Nat) (listed : Array Bool), listed.size = ops.size → ((List.range ops.size).filter fun i => !listed.getD i true).length ≤ fuel →
  (Region.linearise.go .any ops fuel t listed []).Nodup ∧ (∀ i, i ∈ Region.linearise.go .any ops fuel t listed [] ↔ (i < ops.size ∧ listed.getD i true = false)) ∧
   ∀ u i v, Region.linearise.go .any ops fuel t listed [] = u ++ i :: v → ∀ e ∈ ((ns ops)[i]?).getD [], listed.getD e false = true ∨ e ∈ u := by
 intro fuel
 induction fuel with
 | zero =>
   intro t listed ad aR
   have vJ : ((List.range ops.size).filter fun i => !listed.getD i true) = [] := List.length_eq_zero_iff.1 (Nat.le_zero.1 aR)
   refine ⟨by simp [Region.linearise.go], fun i => ?_, fun u i v h => by simp [Region.linearise.go] at h⟩
   simp only [Region.linearise.go, List.reverse_nil, List.not_mem_nil, false_iff, not_and]
   intro al br
   have : i ∈ ((List.range ops.size).filter fun i => !listed.getD i true) := List.mem_filter.2 ⟨List.mem_range.2 al, by rw [br]; rfl⟩
   rw [vJ] at this; cases this
 | succ fuel ih =>
   intro t listed ad aR
   have Iq : ∀ i, i ∈ Region.ready .any ops listed ↔ (i < ops.size ∧ listed.getD i true = false ∧ ∀ e ∈ ((ns ops)[i]?).getD [], listed.getD e false = true) := by
    intro i
    simp only [Region.ready, List.mem_filter, List.mem_range, Bool.and_eq_true, Bool.not_eq_true']
    constructor
    ·rintro ⟨ag, ah, aI⟩
     refine ⟨ag, ah, ?_⟩
     rw [Array.getElem?_eq_getElem ag] at aI
     simp only [Option.map_some, Option.getD_some, Array.all_eq_true_iff_forall_mem] at aI
     simp only [ns, List.getElem?_map, Array.getElem?_toList, Array.getElem?_eq_getElem ag, Option.map_some, Option.getD_some, List.mem_map, List.mem_filter]
     rintro e ⟨x, ⟨aq, DJ⟩, rfl⟩
     have := aI x (by simpa using aq)
     simpa [DJ] using this
    ·rintro ⟨ag, ah, aI⟩
     refine ⟨ag, ah, ?_⟩
     rw [Array.getElem?_eq_getElem ag]
     simp only [Option.map_some, Option.getD_some, Array.all_eq_true_iff_forall_mem]
     simp only [ns, List.getElem?_map, Array.getElem?_toList, Array.getElem?_eq_getElem ag, Option.map_some, Option.getD_some, List.mem_map, List.mem_filter] at aI
     intro x aq
     cases DJ : Region.binds .any x with
     | false => simp
     | true => simpa using aI x.on ⟨x, ⟨by simpa using aq, DJ⟩, rfl⟩
   have hex : (∃ i, i < ops.size ∧ listed.getD i true = false) → Region.ready .any ops listed ≠ [] := by
    rintro ⟨i, ag, ah⟩
    have : ∃ i, (i < ops.size ∧ listed.getD i true = false) ∧ ∀ j, j < i → ¬ (j < ops.size ∧ listed.getD j true = false) := by
     induction i using Nat.strongRecOn with
     | _ i Q9 =>
       by_cases b3 : ∃ j, j < i ∧ (j < ops.size ∧ listed.getD j true = false)
       ·obtain ⟨j, Q_, Ra, Rb⟩ := b3
        exact Q9 j Q_ Ra Rb
       ·exact ⟨i, ⟨ag, ah⟩, fun j Rc aw => b3 ⟨j, Rc, aw⟩⟩
    obtain ⟨k, ⟨bU, cb⟩, e5⟩ := this
    have : k ∈ Region.ready .any ops listed := (Iq k).2 ⟨bU, cb, fun e he => by
     cases b_ : (ns ops)[k]? with
     | none => rw [b_] at he; simp at he
     | some l =>
       rw [b_] at he
       have fa := Q7 ab b_ e he
       have := e5 e fa
       rw [not_and] at this
       have := this (by omega)
       have mH : e < listed.size := by omega
       simp only [Array.getD_eq_getD_getElem?, Array.getElem?_eq_getElem mH, Option.getD_some] at this ⊢
       simpa using this⟩
    intro e; rw [e] at this; cases this
   have Ir : Region.linearise.go .any ops (fuel + 1) t listed [] = (match (Region.ready .any ops listed)[t % (Region.ready .any ops listed).length]? with
    | some i => Region.linearise.go .any ops fuel (t / (Region.ready .any ops listed).length) (listed.setIfInBounds i true) [i]
    | none => []) := rfl
   cases wi : (Region.ready .any ops listed)[t % (Region.ready .any ops listed).length]? with
   | none =>
     have vJ : Region.ready .any ops listed = [] := by
      cases aV : Region.ready .any ops listed with
      | nil => rfl
      | cons a l =>
        rw [aV] at wi
        have := List.getElem?_eq_none_iff.1 wi
        have ah := Nat.mod_lt t (show 0 < (a :: l).length by simp)
        omega
     rw [Ir, wi]
     refine ⟨by simp, fun i => ?_, fun u i v h => by simp at h⟩
     simp only [List.not_mem_nil, false_iff]
     intro al
     exact hex ⟨i, al⟩ vJ
   | some i =>
     have al := (Iq i).1 (List.mem_of_getElem? wi)
     obtain ⟨DK, Is, Rd⟩ := al
     rw [Ir, wi]
     simp only
     rw [linearise_go_acc]
     simp only [List.reverse_singleton, List.singleton_append]
     have qo : ∀ j d, (listed.setIfInBounds i true).getD j d = if j = i then true else listed.getD j d := by
      intro j d
      split
      ·rename_i e; subst e
       simp [Array.getD_eq_getD_getElem?, Array.getElem?_setIfInBounds_self_of_lt (show j < listed.size by omega)]
      ·rename_i e
       simp [Array.getD_eq_getD_getElem?, Array.getElem?_setIfInBounds_ne (fun h => e h.symm)]
     obtain ⟨g1, g2, g3⟩ := ih (t / (Region.ready .any ops listed).length) (listed.setIfInBounds i true) (by simpa using ad) (by
      have fh : ((List.range ops.size).filter fun j => !(listed.setIfInBounds i true).getD j true) = ((List.range ops.size).filter fun i => !listed.getD i true).filter fun j => decide (j ≠ i) := by
       rw [List.filter_filter]
       apply List.filter_congr
       intro j _
       rw [qo]
       by_cases e : j = i <;> simp [e]
      rw [fh]
      have fa : (((List.range ops.size).filter fun i => !listed.getD i true).filter fun j => decide (j ≠ i)).length < ((List.range ops.size).filter fun i => !listed.getD i true).length := by
       rw [List.length_filter_lt_length_iff_exists]
       exact ⟨i, List.mem_filter.2 ⟨List.mem_range.2 DK, by rw [Is]; rfl⟩, by simp⟩
      omega)
     refine ⟨?_, fun j => ?_, ?_⟩
     ·rw [List.nodup_cons]
      refine ⟨fun hm => ?_, g1⟩
      have := ((g2 i).1 hm).2
      rw [qo, if_pos rfl] at this; cases this
     ·rw [List.mem_cons, g2, qo]
      by_cases e : j = i
      ·subst e; simp [DK, Is]
      ·simp [e]
     ·intro u j v h e he
      cases u with
      | nil =>
        simp only [List.nil_append, List.cons.injEq] at h
        obtain ⟨rfl, rfl⟩ := h
        exact .inl (Rd e he)
      | cons y2 u =>
        simp only [List.cons_append, List.cons.injEq] at h
        obtain ⟨rfl, h⟩ := h
        rcases g3 u j v h e he with bx | bx
        ·rw [qo] at bx
         split at bx
         ·rename_i gI; subst gI; exact .inr (by simp)
         ·exact .inl bx
        ·exact .inr (by simp [bx])
theorem Re {ops : Array Oper} (ab : wh (ns ops) = true) (t : Nat) : DI (ns ops) (Region.linearise .any ops t) := by
 have It : ∀ i d, i < ops.size → (Array.replicate ops.size false).getD i d = false := by
  intro i d al
  simp [Array.getD_eq_getD_getElem?, al]
 obtain ⟨g1, g2, g3⟩ := Q8 ab ops.size t (Array.replicate ops.size false) (by simp) (by
  have := List.length_filter_le (fun i => !(Array.replicate ops.size false).getD i true) (List.range ops.size)
  simpa using this)
 have hlen : (ns ops).length = ops.size := by simp [ns]
 refine ⟨g1, fun i => ?_, fun u i v h e he => ?_⟩
 ·rw [hlen]
  rw [show Region.linearise .any ops t = Region.linearise.go .any ops ops.size t (Array.replicate ops.size false) [] from rfl, g2]
  exact ⟨fun h => h.1, fun h => ⟨h, It i true h⟩⟩
 ·rcases g3 u i v h e he with bx | bx
  ·exfalso
   by_cases Iu : e < ops.size
   ·rw [It e false Iu] at bx; cases bx
   ·simp [Array.getD_eq_getD_getElem?, Iu] at bx
  ·exact bx
def aa : List (Nat × I) → ao
 | [], _ => .hole
 | (u, d) :: l, t => if t = u then d else aa l t
mutual
inductive fm : I → I → Prop
 | refl (d : I) : fm d d
 | nt (sz : Nat) : fm .bp (.aP sz [])
 | tz : fm .bp (.slice [])
 | any (b : Bool) : fm (.bool b) .e_
 | share (d : I) : d.tree = true → (∀ vs, d ≠ .tuple vs) → fm d d.share
 | agg {ds es : List I} : kd ds es → fm (.agg ds) (.agg es)
 | a7 {d e : I} : fm d e → fm (.a7 d) (.a7 e)
 | aP {sz : Nat} {ds es : List I} : kd ds es → fm (.aP sz ds) (.aP sz es)
 | tuple {ds es : List I} : kd ds es → fm (.tuple ds) (.tuple es)
 | ref {d e : I} : fm d e → fm (.ref d) (.ref e)
 | trans {d e f : I} : fm d e → fm e f → fm d f
inductive kd : List I → List I → Prop
 | nil : kd [] []
 | cons {d e : I} {ds es : List I} : fm d e → kd ds es → kd (d :: ds) (e :: es)
end
mutual
theorem fm.wd : ∀ {d e : I}, fm d e → e.wd = d.wd
 | _, _, .refl _ => rfl
 | _, _, .nt _ => rfl
 | _, _, .tz => rfl
 | _, _, .any _ => rfl
 | _, _, .share d _ _ => I.ys d
 | _, _, .agg h => by simp only [I.wd]; exact kd.wd h
 | _, _, .a7 _ => rfl
 | _, _, .aP _ => rfl
 | _, _, .tuple h => by simp only [I.wd]; exact kd.wd h
 | _, _, .ref _ => rfl
 | _, _, .trans h k => (fm.wd k).trans (fm.wd h)
theorem kd.wd : ∀ {ds es : List I}, kd ds es → I.ek es = I.ek ds
 | _, _, .nil => rfl
 | _, _, .cons h ad => by simp only [I.ek]; rw [fm.wd h, kd.wd ad]
end
theorem kd.len {ds es : List I} (h : kd ds es) : es.length = ds.length := by
 induction ds generalizing es with
 | nil => cases h; rfl
 | cons d ds ih => cases h with | cons h ad => simp [ih ad]
theorem kd.all {sz : Nat} {ds es : List I} (h : kd ds es) (ai : ∀ d ∈ ds, d.wd = sz) : ∀ d ∈ es, d.wd = sz := by
 induction ds generalizing es with
 | nil => cases h; intro d ai; cases ai
 | cons d ds ih =>
   cases h with
   | cons h ad =>
     intro x aq
     rcases List.mem_cons.1 aq with rfl | aq
     ·rw [h.wd]; exact ai d (by simp)
     ·exact ih ad (fun d hm => ai d (by simp [hm])) x aq
section
variable {w0 w : World} {F0 X F : Nat → Prop} {S : Nat → Nat → Prop} {s aA : ao} {aB : Nat → Value}
def Rf (w : World) (F : Nat → Prop) (_d e : I) (cs : List Value) (S : Nat → Prop) : Prop :=
 ∃ im iq : Nat → Prop, (∀ b, im b → S b) ∧ (∀ b, iq b → S b) ∧ (∀ b, iq b → ¬ im b) ∧ ∀ bL, (∀ b, F b ∨ im b → bL b) → au w bL e cs iq
mutual
theorem au.wider : ∀ {d e : I}, fm d e → ∀ {F : Nat → Prop} {cs : List Value} {S : Nat → Prop}, au w F d cs S → Rf w F d e cs S
 | _, _, .refl _, F, cs, S, h => ⟨fun _ => False, S, fun _ h => h.elim, fun _ h => h, fun _ _ h => h, fun bL bu => au.mono (fun b ab => bu b (.inl ab)) _ _ _ _ (fun _ h => h) h⟩
 | .bp, _, .nt sz, F, cs, S, h => ⟨fun _ => False, S, fun _ h => h.elim, fun _ h => h, fun _ _ h => h, fun bL bu => by simp only [au] at h ⊢; exact .inl ⟨trivial, _, h⟩⟩
 | .bp, _, .tz, F, cs, S, h => ⟨fun _ => False, S, fun _ h => h.elim, fun _ h => h, fun _ _ h => h, fun bL bu => by simp only [au] at h ⊢; exact .inl ⟨trivial, none, 0, h, Nat.zero_le _, fun _ => rfl⟩⟩
 | .bool _, _, .any b, F, cs, S, h => ⟨fun _ => False, S, fun _ h => h.elim, fun _ h => h, fun _ _ h => h, fun bL bu => by simp only [au] at h ⊢; exact ⟨b, h⟩⟩
 | _, _, .share d _ _, F, cs, S, h => ⟨S, fun _ => False, fun _ h => h, fun _ h => h.elim, fun _ h => h.elim, fun bL bu => au.shared (fun b ab => bu b (.inl ab)) d cs S (fun b ab => bu b (.inr ab)) h⟩
 | _, _, .agg jz, F, cs, S, h => by
   rw [au] at h
   obtain ⟨im, iq, ag, ah, aI, a_⟩ := a8.wider jz h
   exact ⟨im, iq, ag, ah, aI, fun bL bu => by rw [au]; exact a_ bL bu⟩
 | _, _, .a7 ai, F, cs, S, h => by
   rw [au] at h
   obtain ⟨b, cur, ty, fr, aT, bU, cb, e5, dX, fB, eC, jq⟩ := h
   obtain ⟨im, iq, ag, ah, aI, a_⟩ := au.wider ai fB
   refine ⟨im, fun c => c = b ∨ iq c, fun c aw => eC c (ag c aw), ?_, ?_, fun bL bu => ?_⟩
   ·rintro c (rfl | aw)
    ·exact cb
    ·exact eC c (ah c aw)
   ·rintro c (rfl | aw) br
    ·exact jq (ag _ br)
    ·exact aI c aw br
   ·rw [au]
    exact ⟨b, cur, ty, fr, iq, bU, .inl rfl, e5, dX, a_ bL bu, fun c aw => .inr aw, fun aw => jq (ah _ aw)⟩
 | .aP sz ds, .aP _ es, .aP jz, F, cs, S, h => by
   rw [au] at h
   have aR := jz.len
   rcases h with ⟨ag, ah⟩ | ⟨b, cap, cur, ty, fr, aT, bU, cb, e5, dX, fB, eC, jq, fi, lK, qq, Iv⟩
   ·refine ⟨fun _ => False, S, fun _ h => h.elim, fun _ h => h, fun _ _ h => h, fun bL _ => ?_⟩
    rw [au]
    subst ag
    exact .inl ⟨List.length_eq_zero_iff.1 (by simpa using aR), ah⟩
   ·obtain ⟨im, iq, ag, ah, aI, a_⟩ := a8.wider jz lK
    refine ⟨im, fun c => c = b ∨ iq c, fun c aw => qq c (ag c aw), ?_, ?_, fun bL bu => ?_⟩
    ·rintro c (rfl | aw)
     ·exact cb
     ·exact qq c (ah c aw)
    ·rintro c (rfl | aw) br
     ·exact Iv (ag _ br)
     ·exact aI c aw br
    ·rw [au]
     refine .inr ⟨b, cap, cur, ty, fr, iq, by rw [aR]; exact bU, .inl rfl, e5, dX, by rw [aR]; exact fB, eC, jq, jz.all fi, by rw [aR]; exact a_ bL bu, fun c aw => .inr aw, fun aw => Iv (ah _ aw)⟩
 | _, _, .tuple jz, F, cs, S, h => by
   rw [au] at h
   obtain ⟨im, iq, ag, ah, aI, a_⟩ := a8.wider jz h
   exact ⟨im, iq, ag, ah, aI, fun bL bu => by rw [au]; exact a_ bL bu⟩
 | _, _, .ref ai, F, cs, S, h => by
   rw [au] at h
   obtain ⟨b, o, ew, ag, ah, aI, a_⟩ := h
   obtain ⟨im, iq, bU, cb, e5, dX⟩ := au.wider ai a_
   refine ⟨fun _ => False, S, fun _ h => h.elim, fun _ h => h, fun _ _ h => h, fun bL bu => ?_⟩
   rw [au]
   exact ⟨b, o, ew, ag, bu _ (.inl ah), aI, au.mono (fun _ h => h) _ _ _ _ (fun b ab => cb b ab) (dX bL fun b ab => bu b (ab.imp id fun h => (bU b h).elim))⟩
 | _, _, .trans ai he, F, cs, S, h => by
   obtain ⟨im, iq, ag, ah, aI, a_⟩ := au.wider ai h
   obtain ⟨DL, y3, bU, cb, e5, dX⟩ := au.wider he (F := fun b => F b ∨ im b) (a_ _ fun _ h => h)
   refine ⟨fun b => im b ∨ DL b, y3, ?_, fun b ab => ah b (cb b ab), ?_, fun bL bu => dX bL fun b ab => ?_⟩
   ·rintro b (h | h)
    ·exact ag b h
    ·exact ah b (bU b h)
   ·rintro b ab (h | h)
    ·exact aI b (cb b ab) h
    ·exact e5 b ab h
   ·rcases ab with (ab | ab) | ab
    ·exact bu b (.inl ab)
    ·exact bu b (.inr (.inl ab))
    ·exact bu b (.inr (.inr ab))
theorem a8.wider : ∀ {ds es : List I}, kd ds es → ∀ {F : Nat → Prop} {cs : List Value} {S : Nat → Prop}, a8 w F ds cs S →
  ∃ im iq : Nat → Prop, (∀ b, im b → S b) ∧ (∀ b, iq b → S b) ∧ (∀ b, iq b → ¬ im b) ∧ ∀ bL, (∀ b, F b ∨ im b → bL b) → a8 w bL es cs iq
 | _, _, .nil, F, cs, S, h => ⟨fun _ => False, fun _ => False, fun _ h => h.elim, fun _ h => h.elim, fun _ h => h.elim, fun bL bu => by rw [a8] at h ⊢; exact h⟩
 | _, _, .cons ai jz, F, cs, S, h => by
   rw [a8] at h
   obtain ⟨cy, cu, b5, dG, rfl, g2, g3, g4, g5, g6⟩ := h
   obtain ⟨Rg, Iw, U, a2, a3, a4⟩ := au.wider ai g2
   obtain ⟨DL, y3, k3, iS, kr, bA⟩ := a8.wider jz g3
   refine ⟨fun b => Rg b ∨ DL b, fun b => Iw b ∨ y3 b, ?_, ?_, ?_, fun bL bu => ?_⟩
   ·rintro b (h | h)
    ·exact g4 b (U b h)
    ·exact g5 b (k3 b h)
   ·rintro b (h | h)
    ·exact g4 b (a2 b h)
    ·exact g5 b (iS b h)
   ·rintro b (h | h) (bx | bx)
    ·exact a3 b h bx
    ·exact g6 b (a2 b h) (k3 b bx)
    ·exact g6 b (U b bx) (iS b h)
    ·exact kr b h bx
   ·rw [a8]
    refine ⟨cy, cu, Iw, y3, rfl, a4 bL (fun b ab => bu b (ab.imp id .inl)), bA bL (fun b ab => bu b (ab.imp id .inr)), fun b ab => .inl ab, fun b ab => .inr ab, fun b ag ah => g6 b (a2 b ag) (iS b ah)⟩
end
theorem fm.y4 : ∀ {d e : I}, fm d e → (∀ vs, d ≠ .tuple vs) → ∀ vs, e ≠ .tuple vs
 | _, _, .refl _, h => h
 | _, _, .nt _, _ => fun _ h => by cases h
 | _, _, .tz, _ => fun _ h => by cases h
 | _, _, .any _, _ => fun _ h => by cases h
 | _, _, .share d _ _, h => fun vs he => by cases d <;> first | (cases he; done) | exact h _ rfl
 | _, _, .agg _, _ => fun _ h => by cases h
 | _, _, .a7 _, _ => fun _ h => by cases h
 | _, _, .aP _, _ => fun _ h => by cases h
 | _, _, .tuple _, h => fun _ _ => h _ rfl
 | _, _, .ref _, _ => fun _ h => by cases h
 | _, _, .trans h k, aY => fm.y4 k (fm.y4 h aY)
theorem fm.iO : ∀ {d e : I} {v : Value}, fm d e → (∀ vs, d ≠ .tuple vs) → c0.iO d v → c0.iO e v
 | _, _, _, .refl _, _, h => h
 | _, _, _, .nt _, _, h => h
 | _, _, _, .tz, _, h => h
 | _, _, _, .any _, _, h => h
 | _, _, _, .share d _ aY, _, h => by cases d <;> first | exact h | exact (aY _ rfl).elim
 | _, _, _, .agg _, _, h => h
 | _, _, _, .a7 _, _, h => h
 | _, _, _, .aP _, _, h => h
 | _, _, _, .tuple _, aY, _ => (aY _ rfl).elim
 | _, _, _, .ref _, _, h => h
 | _, _, _, .trans h k, aY, ad => fm.iO k (fm.y4 h aY) (fm.iO h aY ad)
theorem kd.get : ∀ {ds es : List I}, kd ds es → ∀ (k : Nat) (e : I), es[k]? = some e → ∃ d, ds[k]? = some d ∧ fm d e
 | _, _, .nil, k, e, h => by simp at h
 | _, _, .cons ai ad, 0, e, h => by simp at h; subst h; exact ⟨_, rfl, ai⟩
 | _, _, .cons ai ad, k + 1, e, h => kd.get ad k e (by simpa using h)
theorem fm.eo : ∀ {d e : I} {v : Value}, fm d e → c0.eo d v → c0.eo e v
 | _, _, _, .refl _, ad => ad
 | _, _, _, .nt _, ad => ad
 | _, _, _, .tz, ad => ad
 | _, _, _, .any _, ad => ad
 | _, _, _, .share _ _ mc, ad => Du mc ad
 | _, _, _, .agg _, ad => ad
 | _, _, _, .a7 _, ad => ad
 | _, _, _, .aP _, ad => ad
 | _, _, _, .ref _, ad => ad
 | _, _, _, .tuple ai, ad => by
   obtain ⟨arr, ag, ah, aI⟩ := ad
   refine ⟨arr, ag, ah.trans ai.len.symm, fun k e x he aq => ?_⟩
   obtain ⟨d, az, hw⟩ := ai.get k e he
   obtain ⟨U, a2, a3⟩ := aI k d x az aq
   exact ⟨hw.iO a2 U, hw.y4 a2, a3.trans hw.wd.symm⟩
 | _, _, _, .trans h k, ad => fm.eo k (fm.eo h ad)
theorem fm.tree : ∀ {d e : I}, fm d e → d.tree = true → e.tree = true
 | _, _, .refl _, ai => ai
 | _, _, .nt _, _ => rfl
 | _, _, .tz, _ => rfl
 | _, _, .any _, _ => rfl
 | _, _, .share d _ _, ai => by cases d <;> first | exact ai | rfl
 | _, _, .agg _, _ => rfl
 | _, _, .a7 _, _ => rfl
 | _, _, .aP _, _ => rfl
 | _, _, .tuple _, _ => rfl
 | _, _, .ref _, _ => rfl
 | _, _, .trans h k, ai => fm.tree k (fm.tree h ai)
mutual
def I.rO : I → List Nat
 | .h x q => if q.isEmpty then [] else [x]
 | .ar x _ => [x]
 | .ab x _ => [x]
 | .fn _ cap => I.wj cap
 | _ => []
def I.wj : List I → List Nat
 | [] => []
 | d :: ds => d.rO ++ I.wj ds
end
def wk (s aA : ao) (x : Nat) (D : List Nat) : Prop := aA x = s x ∨ aA x = .hole ∨ ((s x).own = true ∧ (aA x).own = true ∧ x ∉ D)
theorem wk.less {s aA : ao} {x : Nat} {D E : List Nat} (h : wk s aA x D) (Rh : ∀ u ∈ E, u ∈ D) : wk s aA x E := by
 rcases h with h | h | ⟨ag, ah, aI⟩
 ·exact .inl h
 ·exact .inr (.inl h)
 ·exact .inr (.inr ⟨ag, ah, fun aq => aI (Rh x aq)⟩)
theorem aG.keep {bL : Nat → Prop} (bu : ∀ b, F b → bL b) : ∀ n, (∀ (d : I) (v : Value) (eh : Nat → Prop), SizeOf.sizeOf d ≤ n → (∀ x ∈ d.ad, wk s aA x d.rO) → aG w F s aB d v eh → aG w bL aA aB d v eh) ∧
  (∀ (ds : List I) (vs : List Value), SizeOf.sizeOf ds ≤ n → (∀ x ∈ I.eE ds, wk s aA x (I.wj ds)) → ei w F s aB ds vs → ei w bL aA aB ds vs) := by
 intro n
 induction n with
 | zero =>
   refine ⟨fun d v eh b6 => ?_, fun ds vs b6 => ?_⟩
   ·cases d <;> simp at b6 <;> omega
   ·cases ds <;> simp at b6 <;> omega
 | succ n ih =>
   refine ⟨fun d v eh b6 az h => ?_, fun ds vs b6 az h => ?_⟩
   ·cases d with
    | hole => rw [aG]; trivial
    | h x q =>
      rw [aG] at h ⊢
      intro e fh ar
      rcases az x (by simp [I.ad]) with he | he | ⟨wm, Ix, tA⟩
      ·rw [he] at fh ⊢; exact h e fh ar
      ·rw [he] at fh
       cases q with
       | nil => simp only [I.sub, Option.some.injEq] at fh; subst fh; simp [I.plain] at ar
       | cons k q => simp [I.sub] at fh
      ·cases q with
       | nil =>
         simp only [I.sub, Option.some.injEq] at fh
         subst fh
         obtain ⟨c6, a0, fp, gW, h3⟩ := h (s x) (by simp only [I.sub]) (pJ wm).1
         simp only [dp, Option.some.injEq, Prod.mk.injEq, true_and] at fp
         exact ⟨cr (aB x), none, by simp only [dp], by rw [gW, ← fp.1], ((pJ Ix).2.2.2.2.2 _).2 (((pJ wm).2.2.2.2.2 _).1 h3)⟩
       | cons k q => exact (tA (by simp [I.rO])).elim
    | ar x q =>
      rw [aG] at h ⊢
      intro e fh aw
      rcases az x (by simp [I.ad]) with he | he | ⟨_, _, tA⟩
      ·rw [he] at fh aw ⊢; exact h e fh aw
      ·rw [he] at aw
       cases q <;> simp [I.ft] at aw
      ·exact (tA (by simp [I.rO])).elim
    | ab x k =>
      rw [aG] at h ⊢
      intro ar
      rcases az x (by simp [I.ad]) with he | he | ⟨_, _, tA⟩
      rotate_left 2
      ·exact (tA (by simp [I.rO])).elim
      ·rw [he] at ar
       obtain ⟨b, cur, e, fr, ag, ah, aI, a_⟩ := h ar
       exact ⟨b, cur, e, fr, ag, bu b ah, aI, a_⟩
      ·rw [he] at ar; simp [I.plain] at ar
    | fn f cap =>
      rw [aG] at h ⊢
      obtain ⟨arr, rfl, aw⟩ := h
      exact ⟨arr, rfl, ih.2 _ _ (by simp at b6; omega) (by simpa [I.ad, I.rO] using az) aw⟩
    | _ =>
      have bx := (aG.cJ rfl).1 h
      exact (aG.cJ rfl).2 ⟨bx.1, au.mono bu _ _ _ _ (fun _ h => h) bx.2⟩
   ·cases ds with
    | nil => rw [ei] at h ⊢; exact h
    | cons d ds =>
      rw [ei] at h ⊢
      obtain ⟨v, jG, rfl, ag, ah⟩ := h
      simp at b6
      simp only [I.eE, List.mem_append] at az
      exact ⟨v, jG, rfl, ih.1 _ _ _ (by omega) (fun x aq => (az x (.inl aq)).less fun u hu => by simp [I.wj, hu]) ag, ih.2 _ _ (by omega) (fun x aq => (az x (.inr aq)).less fun u hu => by simp [I.wj, hu]) ah⟩
def wo (s : ao) (l : List (Nat × I)) : Prop :=
 ∀ p ∈ l, p.2 = s p.1 ∨ ((s p.1).tree = true ∧ fm (s p.1) p.2 ∧ ∀ cC ∈ l, p.1 ∉ cC.2.ad ∨ ((s p.1).own = true ∧ p.2.own = true ∧ p.1 ∉ cC.2.rO))
theorem Iy : ∀ (l : List (Nat × I)) (t : Nat), aa l t = .hole ∨ ∃ p ∈ l, p.1 = t ∧ aa l t = p.2 := by
 intro l
 induction l with
 | nil => intro t; exact .inl rfl
 | cons p l ih =>
   intro t
   obtain ⟨u, d⟩ := p
   simp only [aa]
   split
   ·rename_i e; exact .inr ⟨(u, d), by simp, e.symm, rfl⟩
   ·rcases ih t with h | ⟨p, ar, h⟩
    ·exact .inl h
    ·exact .inr ⟨p, by simp [ar], h⟩
theorem bP.Ri (h : bP w0 F0 X F S s aB w) {l : List (Nat × I)} (hw : wo s l) : ∃ bL aT, bP w0 F0 X bL aT (aa l) aB w := by
 have each : ∀ t, ∃ im iq : Nat → Prop, (∀ b, im b → S t b) ∧ (∀ b, iq b → S t b) ∧ (∀ b, iq b → ¬ im b) ∧ ∀ bL, (∀ b, F b ∨ im b → bL b) → aG w bL (aa l) aB (aa l t) (aB t) iq := by
  intro t
  rcases Iy l t with e | ⟨p, ar, rfl, e⟩
  ·exact ⟨fun _ => False, fun _ => False, fun _ h => h.elim, fun _ h => h.elim, fun _ h => h.elim, fun bL _ => by rw [e, aG]; trivial⟩
  ·rw [e]
   rcases hw p ar with az | ⟨bb, l5, _⟩
   ·refine ⟨fun _ => False, S p.1, fun _ h => h.elim, fun _ h => h, fun _ _ h => h, fun bL bu => ?_⟩
    rw [az]
    refine (aG.keep (fun b ab => bu b (.inl ab)) (SizeOf.sizeOf (s p.1))).1 _ _ _ (Nat.le_refl _) ?_ (h.dC p.1)
    intro x aq
    rcases Iy l x with gI | ⟨cC, eM, rfl, gI⟩
    ·exact .inr (.inl gI)
    ·rcases hw cC eM with kI | ⟨_, _, mX⟩
     ·exact .inl (gI.trans kI)
     ·rcases mX p ar with mX | ⟨mF, kL, n7⟩
      ·exact (mX (by rw [az]; exact aq)).elim
      ·exact .inr (.inr ⟨mF, by rw [gI]; exact kL, by rw [az] at n7; exact n7⟩)
   ·obtain ⟨g1, g2⟩ := (aG.cJ bb).1 (h.dC p.1)
    obtain ⟨im, iq, bU, cb, e5, dX⟩ := au.wider l5 g2
    exact ⟨im, iq, bU, cb, e5, fun bL bu => (aG.cJ (l5.tree bb)).2 ⟨l5.eo g1, dX bL bu⟩⟩
 have cy := fun t => (each t).choose_spec
 let im := fun t => (each t).choose
 have cu := fun t => (cy t).choose_spec
 let iq := fun t => (cy t).choose
 have gM : ∀ t b, im t b → S t b := fun t => (cu t).1
 have gJ : ∀ t b, iq t b → S t b := fun t => (cu t).2.1
 have iK : ∀ t b, iq t b → ¬ im t b := fun t => (cu t).2.2.1
 have ik := fun t => (cu t).2.2.2
 refine ⟨fun b => F b ∨ ∃ t, im t b, iq, fun b ab => .inl (h.hq b ab), ?_, ?_, fun t b ab => h.e4 t b (gJ t b ab), ?_, fun t u b dQ ab hu => h.fK t u b dQ (gJ t b ab) (gJ u b hu), fun t b ab => h.eh t b (gJ t b ab), ?_, h.old, h.size, h.os, h.tape, h.output⟩
 ·rintro b (ab | ⟨t, ab⟩)
  ·exact h.hM b ab
  ·exact .inr (h.eh t b (gM t b ab))
 ·rintro b (ab | ⟨t, ab⟩)
  ·exact h.fA b ab
  ·exact h.e4 t b (gM t b ab)
 ·rintro t b ab (br | ⟨u, hu⟩)
  ·exact h.gi t b (gJ t b ab) br
  ·by_cases e : t = u
   ·subst e; exact iK t b ab hu
   ·exact h.fK t u b e (gJ t b ab) (gM u b hu)
 ·intro t
  exact ik t _ (fun b ab => ab.imp id fun h => ⟨t, h⟩)
end
inductive J where
 | skip
 | R (ros : List b2) (keep : Option (List Nat))
 | fO (ros : List b2) (oc : List (List Nat)) (keep : Option (List Nat))
 | seq (a b : J)
 | cond (c : aF) (a b : J)
 | block (id : Nat) (b : J)
 | loop (b : J)
 | exit (id : Nat)
 | ret
 | i_ (T : (Exit → ao → Prop) → ao → Prop) (b : J)
def bj (n : Fr) : Code → Option J
 | .skip => some .skip
 | .region _ ops false => (o5 n ops ops.toList).map fun r => .R r none
 | .region _ ops true => if wh (ns ops) = true then (o5 n ops ops.toList).map fun r => .fO r (ns ops) none else none
 | .seq a b => match bj n a, bj n b with
   | some a, some b => some (.seq a b)
   | _, _ => none
 | .cond c a b => match dH c, bj n a, bj n b with
   | some c, some a, some b => some (.cond c a b)
   | _, _, _ => none
 | .block id b => (bj n b).map (.block id)
 | .loop b => (bj n b).map .loop
 | .exit id => some (.exit id)
 | .ret => some .ret
 | _ => none
def J.ks : J → J
 | .R ros _ => .R ros none
 | .fO ros gB _ => .fO ros gB none
 | .seq a b => .seq a.ks b.ks
 | .cond c a b => .cond c a.ks b.ks
 | .block id b => .block id b.ks
 | .loop b => .loop b.ks
 | .i_ T b => .i_ T b.ks
 | c => c
def J.strip : J → J
 | .R ros _ => .R (ros.map b2.un) none
 | .fO ros gB _ => .fO (ros.map b2.un) gB none
 | .seq a b => .seq a.strip b.strip
 | .cond c a b => .cond c a.strip b.strip
 | .block id b => .block id b.strip
 | .loop b => .loop b.strip
 | .i_ _ b => b.strip
 | c => c
theorem J.DM : ∀ c : J, c.ks.strip = c.strip := by
 intro c
 induction c with
 | seq a b j0 j1 => simp only [J.ks, J.strip, j0, j1]
 | cond c a b j0 j1 => simp only [J.ks, J.strip, j0, j1]
 | block id b ih => simp only [J.ks, J.strip, ih]
 | loop b ih => simp only [J.ks, J.strip, ih]
 | i_ T b ih => simp only [J.ks, J.strip, ih]
 | _ => rfl
def J.bare (H : ((Exit → ao → Prop) → ao → Prop) → J → Prop) : J → Prop
 | .R _ k => k = none
 | .fO _ _ k => k = none
 | .seq a b => a.bare H ∧ b.bare H
 | .cond _ a b => a.bare H ∧ b.bare H
 | .block _ b => b.bare H
 | .loop b => b.bare H
 | .i_ T b => H T b
 | _ => True
def J.mg (H : ((Exit → ao → Prop) → ao → Prop) → J → Prop) : J → Prop
 | .seq a b => a.mg H ∧ b.mg H
 | .cond _ a b => a.mg H ∧ b.mg H
 | .block _ b => b.mg H
 | .loop b => b.mg H
 | .i_ T b => H T b.ks
 | _ => True
theorem J.y5 {H : ((Exit → ao → Prop) → ao → Prop) → J → Prop} : ∀ c : J, c.mg H → c.ks.bare H := by
 intro c
 induction c with
 | seq a b j0 j1 => intro h; exact ⟨j0 h.1, j1 h.2⟩
 | cond c a b j0 j1 => intro h; exact ⟨j0 h.1, j1 h.2⟩
 | block id b ih => intro h; exact ih h
 | loop b ih => intro h; exact ih h
 | R => intro _; rfl
 | fO => intro _; rfl
 | i_ T b _ => intro h; exact h
 | _ => intro _; trivial
def J.plain : J → Bool
 | .seq a b => a.plain && b.plain
 | .cond _ a b => a.plain && b.plain
 | .block _ b => b.plain
 | .loop b => b.plain
 | .i_ _ _ => false
 | _ => true
theorem J.Iz {H : ((Exit → ao → Prop) → ao → Prop) → J → Prop} : ∀ c : J, c.plain = true → c.mg H := by
 intro c
 induction c with
 | seq a b j0 j1 => intro h; simp only [J.plain, Bool.and_eq_true] at h; exact ⟨j0 h.1, j1 h.2⟩
 | cond c a b j0 j1 => intro h; simp only [J.plain, Bool.and_eq_true] at h; exact ⟨j0 h.1, j1 h.2⟩
 | block id b ih => intro h; exact ih h
 | loop b ih => intro h; exact ih h
 | i_ T b _ => intro h; cases h
 | _ => intro _; trivial
def andThen (K : ao → Prop) (Q : Exit → ao → Prop) : Exit → ao → Prop
 | .normal, s => K s
 | e, s => Q e s
def tB (id : Nat) (Q : Exit → ao → Prop) : Exit → ao → Prop
 | .exit i, s => if i = id then Q .normal s else Q (.exit i) s
 | e, s => Q e s
def el (K : ao → Prop) (s : ao) : Prop := K s ∨ ∃ l, wo s l ∧ K (aa l)
def wq : Option (List Nat) → (ao → Prop) → ao → Prop
 | none, K, s => el K s
 | some k, K, s => K (aa (k.map fun t => (t, s t)))
def cW (C : ck) : J → (Exit → ao → Prop) → ao → Prop
 | .skip, Q, s => Q .normal s
 | .R ros keep, Q, s => k9 C s ros (wq keep (Q .normal))
 | .fO ros oc keep, Q, s => ∀ l, DI oc l → jZ C ros s l (wq keep (Q .normal))
 | .seq a b, Q, s => cW C a (andThen (el (cW C b Q)) Q) s
 | .cond c a b, Q, s => match aK s c with
   | .bool fJ => if fJ = true then cW C a Q s else cW C b Q s
   | .e_ => cW C a Q s ∧ cW C b Q s
   | _ => False
 | .block id b, Q, s => cW C b (tB id Q) s
 | .loop b, Q, s => el (fun s => ∀ Z : ao → Prop, (∀ aA, cW C b (andThen (el Z) Q) aA → Z aA) → Z s) s
 | .exit id, Q, s => Q (.exit id) s
 | .ret, Q, s => Q .ret s
 | .i_ T _, Q, s => ∀ ey : Exit → ao → Prop, (∀ e s, Q e s → ey e s) → T ey s
section
variable {C : ck}
theorem DN {s : ao} {o : b2} {K du : ao → Prop} (h : lq C s o K) (az : ∀ s, K s → du s) : lq C s o du := by
 unfold lq at h ⊢
 split
 ·rename_i bT; rw [bT] at h; exact yZ h fun av s1 => az _
 ·rename_i t b bT
  rw [bT] at h
  simp only at h
  split
  ·rename_i fJ ad
   rw [ad] at h
   simp only at h
   split
   ·rename_i ab; rw [if_pos ab] at h; exact yZ h fun av s1 => az _
   ·rename_i ab; rw [if_neg ab] at h; exact az _ h
  ·rename_i ad; rw [ad] at h; exact az _ h
  ·rename_i ag ah
   split at h
   ·exact ag _ (by assumption)
   ·exact ah (by assumption)
   ·exact h
theorem IA {K du : ao → Prop} (az : ∀ s, K s → du s) : ∀ {ros : List b2} {s : ao}, k9 C s ros K → k9 C s ros du := by
 intro ros
 induction ros with
 | nil => intro s h; exact az s h
 | cons o ros ih => intro s h; exact DN h fun s h => ih h
theorem IB {ros : List b2} {K du : ao → Prop} (az : ∀ s, K s → du s) : ∀ {l : List Nat} {s : ao}, jZ C ros s l K → jZ C ros s l du := by
 intro l
 induction l with
 | nil => intro s h; exact az s h
 | cons i l ih =>
   intro s h
   simp only [jZ] at h ⊢
   split
   ·rename_i cg; rw [cg] at h; exact ih h
   ·rename_i o cg; rw [cg] at h; exact DN h fun s h => ih h
theorem tC {K du : ao → Prop} (az : ∀ s, K s → du s) (s : ao) (h : el K s) : el du s :=
 h.imp (az s) fun ⟨l, ag, ah⟩ => ⟨l, ag, az _ ah⟩
theorem IC {keep : Option (List Nat)} {K du : ao → Prop} (az : ∀ s, K s → du s) (s : ao) (h : wq keep K s) : wq keep du s := by
 cases keep with
 | none => exact tC az s h
 | some k => exact az _ h
theorem ID {keep : Option (List Nat)} {K : ao → Prop} {s : ao} (h : wq keep K s) : el K s := by
 cases keep with
 | none => exact h
 | some k =>
   refine .inr ⟨_, ?_, h⟩
   intro p ar
   obtain ⟨t, _, rfl⟩ := List.mem_map.1 ar
   exact .inl rfl
theorem DO {K du : ao → Prop} {Q ey : Exit → ao → Prop} (az : ∀ s, K s → du s) (cv : ∀ e s, Q e s → ey e s) : ∀ e s, andThen K Q e s → andThen du ey e s := by
 intro e s h
 cases e with
 | normal => exact az s h
 | _ => exact cv _ s h
theorem DP : ∀ (c : J) {Q ey : Exit → ao → Prop} {s : ao}, (∀ e s, Q e s → ey e s) → cW C c Q s → cW C c ey s := by
 intro c
 induction c with
 | skip => intro Q ey s cv h; exact cv _ _ h
 | R ros keep => intro Q ey s cv h; exact IA (IC (cv _)) h
 | fO ros oc keep => intro Q ey s cv h l aR; exact IB (IC (cv _)) (h l aR)
 | seq a b j0 j1 =>
   intro Q ey s cv h
   exact j0 (DO (fun s h => tC (fun _ h => j1 cv h) s h) cv) h
 | cond c a b j0 j1 =>
   intro Q ey s cv h
   simp only [cW] at h ⊢
   split
   ·rename_i fJ ab
    rw [ab] at h
    simp only at h
    split
    ·rename_i e; rw [if_pos e] at h; exact j0 cv h
    ·rename_i e; rw [if_neg e] at h; exact j1 cv h
   ·rename_i ab; rw [ab] at h; exact ⟨j0 cv h.1, j1 cv h.2⟩
   ·rename_i ag ah
    split at h
    ·exact ag _ (by assumption)
    ·exact ah (by assumption)
    ·exact h
 | block id b ih =>
   intro Q ey s cv h
   refine ih ?_ h
   intro e s h
   cases e with
   | exit i =>
     simp only [tB] at h ⊢
     split
     ·rename_i e; rw [if_pos e] at h; exact cv _ _ h
     ·rename_i e; rw [if_neg e] at h; exact cv _ _ h
   | _ => exact cv _ _ h
 | loop b ih =>
   intro Q ey s cv h
   refine tC (fun s h Z tD => ?_) s h
   exact h Z fun aA fj => tD aA (ih (DO (fun _ h => h) cv) fj)
 | exit id => intro Q ey s cv h; exact cv _ _ h
 | ret => intro Q ey s cv h; exact cv _ _ h
 | i_ T b _ => intro Q ey s cv h et ah; exact h et fun e s he => ah e s (cv e s he)
theorem y6 : ∀ (c : J) {Q : Exit → ao → Prop} {s : ao}, cW C c Q s → cW C c.ks Q s := by
 intro c
 induction c with
 | R ros keep => intro Q s h; exact IA (fun s h => ID h) h
 | fO ros gB keep => intro Q s h l aR; exact IB (fun s h => ID h) (h l aR)
 | seq a b j0 j1 => intro Q s h; exact j0 (DP a (DO (fun s h => tC (fun _ h => j1 h) s h) (fun _ _ h => h)) h)
 | cond c a b j0 j1 =>
   intro Q s h
   simp only [J.ks, cW] at h ⊢
   split
   ·rename_i fJ ab
    rw [ab] at h
    simp only at h
    split
    ·rename_i e; rw [if_pos e] at h; exact j0 h
    ·rename_i e; rw [if_neg e] at h; exact j1 h
   ·rename_i ab; rw [ab] at h; exact ⟨j0 h.1, j1 h.2⟩
   ·rename_i ag ah
    split at h
    ·exact ag _ (by assumption)
    ·exact ah (by assumption)
    ·exact h
 | block id b ih => intro Q s h; exact ih h
 | loop b ih =>
   intro Q s h
   refine tC (fun s h Z tD => ?_) s h
   exact h Z fun aA fj => tD aA (ih fj)
 | i_ T b _ => intro Q s h; exact h
 | _ => intro Q s h; exact h
variable {w0 w : World} {F0 X : Nat → Prop} {n : Fr} {ρ : Nat → Value} {s : ao} {a : Act}
def rP (w0 : World) (F0 X : Nat → Prop) (n : Fr) (ρ : Nat → Value) (Q : Exit → ao → Prop) : Exit → Act → World → Prop := fun e a w => ∃ s, Q e s ∧ Rel w0 F0 X n ρ s a w
theorem Rel.el {K : ao → Prop} {s : ao} {a : Act} {w : World} (aV : Rel w0 F0 X n ρ s a w) (h : el K s) : ∃ aA, K aA ∧ Rel w0 F0 X n ρ aA a w := by
 rcases h with h | ⟨l, ag, ah⟩
 ·exact ⟨s, h, aV⟩
 ·obtain ⟨g1, g2, g3, F, S, g4⟩ := aV
  obtain ⟨bL, aT, g5⟩ := g4.Ri ag
  exact ⟨aa l, ah, g1, g2, g3, bL, aT, g5⟩
theorem J.Rj {c : J} (h : c.strip = .skip) : c = .skip ∨ ∃ T b, c = .i_ T b := by cases c <;> first | exact .inl rfl | exact .inr ⟨_, _, rfl⟩ | cases h
theorem J.Rk {c : J} (h : c.strip = .ret) : c = .ret ∨ ∃ T b, c = .i_ T b := by cases c <;> first | exact .inl rfl | exact .inr ⟨_, _, rfl⟩ | cases h
theorem J.Rl {c : J} {i : Nat} (h : c.strip = .exit i) : c = .exit i ∨ ∃ T b, c = .i_ T b := by cases c <;> first | exact .inl h | exact .inr ⟨_, _, rfl⟩ | cases h
theorem J.Rm {c : J} {r : List b2} {k : Option (List Nat)} (h : c.strip = .R r k) : (∃ ros db, c = .R ros db ∧ ros.map b2.un = r) ∨ ∃ T b, c = .i_ T b := by
 cases c <;> first | (cases h; exact .inl ⟨_, _, rfl, rfl⟩) | exact .inr ⟨_, _, rfl⟩ | cases h
theorem J.Rn {c : J} {r : List b2} {gB : List (List Nat)} {k : Option (List Nat)} (h : c.strip = .fO r gB k) : (∃ ros IE db, c = .fO ros IE db ∧ ros.map b2.un = r ∧ IE = gB) ∨ ∃ T b, c = .i_ T b := by
 cases c <;> first | (cases h; exact .inl ⟨_, _, _, rfl, rfl, rfl⟩) | exact .inr ⟨_, _, rfl⟩ | cases h
theorem J.Ro {c x y : J} (h : c.strip = .seq x y) : (∃ a b, c = .seq a b ∧ a.strip = x ∧ b.strip = y) ∨ ∃ T b, c = .i_ T b := by
 cases c <;> first | (cases h; exact .inl ⟨_, _, rfl, rfl, rfl⟩) | exact .inr ⟨_, _, rfl⟩ | cases h
theorem J.Rp {c x y : J} {o : aF} (h : c.strip = .cond o x y) : (∃ mE a b, c = .cond mE a b ∧ mE = o ∧ a.strip = x ∧ b.strip = y) ∨ ∃ T b, c = .i_ T b := by
 cases c <;> first | (cases h; exact .inl ⟨_, _, _, rfl, rfl, rfl, rfl⟩) | exact .inr ⟨_, _, rfl⟩ | cases h
theorem J.Rq {c x : J} {i : Nat} (h : c.strip = .block i x) : (∃ a, c = .block i a ∧ a.strip = x) ∨ ∃ T b, c = .i_ T b := by
 cases c <;> first | (cases h; exact .inl ⟨_, rfl, rfl⟩) | exact .inr ⟨_, _, rfl⟩ | cases h
theorem J.Rr {c x : J} (h : c.strip = .loop x) : (∃ a, c = .loop a ∧ a.strip = x) ∨ ∃ T b, c = .i_ T b := by
 cases c <;> first | (cases h; exact .inl ⟨_, rfl, rfl⟩) | exact .inr ⟨_, _, rfl⟩ | cases h
theorem DQ (bl : C.e0) {H : ((Exit → ao → Prop) → ao → Prop) → J → Prop}
  (mI : ∀ (c : Code) (T : (Exit → ao → Prop) → ao → Prop) (b : J) (Q : Exit → ao → Prop) (s : ao) (a : Act) (w : World), H T b → bj n c = some b.strip → T Q s → Rel w0 F0 X n ρ s a w → c.wp C.P (rP w0 F0 X n ρ Q) a w) :
  ∀ (c : Code) {dq : J} {Q : Exit → ao → Prop} {s : ao} {a : Act} {w : World}, bj n c = some dq.strip → dq.bare H → cW C dq Q s → Rel w0 F0 X n ρ s a w → c.wp C.P (rP w0 F0 X n ρ Q) a w := by
 intro c
 induction c with
 | skip =>
   intro dq Q s a w ad h4 h aV
   have kM := ad
   simp only [bj, Option.some.injEq] at ad
   rcases J.Rj ad.symm with rfl | ⟨T, b, rfl⟩
   ·exact wp_skip ⟨s, h, aV⟩
   ·exact mI _ T b Q s a w h4 (by simpa only [J.strip] using kM) (h Q fun _ _ h => h) aV
 | region id ops draw =>
   intro dq Q s a w ad h4 h aV
   have kM := ad
   cases draw with
   | false =>
     simp only [bj, Option.map_eq_some_iff] at ad
     obtain ⟨Rs, wt, ad⟩ := ad
     rcases J.Rm ad.symm with ⟨ros, k, rfl, rfl⟩ | ⟨T, b, rfl⟩
     rotate_left
     ·exact mI _ T b Q s a w h4 (by simpa only [J.strip] using kM) (h Q fun _ _ h => h) aV
     cases h4
     exact Q6 bl wt (fun aA cK aL az eI => eI.el az) h aV
   | true =>
     simp only [bj] at ad
     split at ad
     ·rename_i ab
      simp only [Option.map_eq_some_iff] at ad
      obtain ⟨Rs, wt, ad⟩ := ad
      rcases J.Rn ad.symm with ⟨ros, gB, k, rfl, rfl, rfl⟩ | ⟨T, b, rfl⟩
      rotate_left
      ·exact mI _ T b Q s a w h4 (by simpa only [J.strip] using kM) (h Q fun _ _ h => h) aV
      cases h4
      refine wp_region_draw fun t => ?_
      rw [show Region.schedule (C.P.follows .mixedOrders) ops t = Region.linearise .any ops t by simp [Region.schedule, bl.mixed]]
      exact Ip bl wt (fun aA cK aL az eI => eI.el az) _ s a _ (h _ (Re ab t)) (aV.drawn _)
     ·cases ad
 | seq x y Rt y7 =>
   intro dq Q s a w ad h4 h aV
   have kM := ad
   simp only [bj] at ad
   split at ad
   ·rename_i tr IF aq bt
    simp only [Option.some.injEq] at ad
    rcases J.Ro ad.symm with ⟨dr, kq, rfl, rfl, rfl⟩ | ⟨T, b, rfl⟩
    rotate_left
    ·exact mI _ T b Q s a w h4 (by simpa only [J.strip] using kM) (h Q fun _ _ h => h) aV
    refine wp_seq (wp_mono (Rt aq h4.1 h aV) ?_)
    rintro e cK aL ⟨aA, bx, eI⟩
    cases e with
    | normal =>
      obtain ⟨aA, bx, eI⟩ := eI.el bx
      exact y7 bt h4.2 bx eI
    | _ => exact ⟨aA, bx, eI⟩
   ·cases ad
 | cond x y z y7 IG =>
   intro dq Q s a w ad h4 h aV
   have kM := ad
   simp only [bj] at ad
   split at ad
   ·rename_i tr IF sz aq bt b6
    simp only [Option.some.injEq] at ad
    rcases J.Rp ad.symm with ⟨dr, kq, qn, rfl, rfl, rfl, rfl⟩ | ⟨T, b, rfl⟩
    rotate_left
    ·exact mI _ T b Q s a w h4 (by simpa only [J.strip] using kM) (h Q fun _ _ h => h) aV
    have eI := aV
    obtain ⟨ai, eH, br, F, S, oa⟩ := eI
    have aN := (fL (a := a) oa (fun _ => rfl) aq).2
    simp only [cW] at h
    split at h
    ·rename_i fJ ab
     rw [ab] at aN
     have := rv aN
     refine wp_cond this ?_
     split
     ·rename_i e; rw [if_pos e] at h; exact y7 bt h4.1 h aV
     ·rename_i e; rw [if_neg e] at h; exact IG b6 h4.2 h aV
    ·rename_i ab
     rw [ab] at aN
     obtain ⟨fJ, lD⟩ := Hd aN
     refine wp_cond lD ?_
     split
     ·exact y7 bt h4.1 h.1 aV
     ·exact IG b6 h4.2 h.2 aV
    ·exact h.elim
   ·cases ad
 | block id b ih =>
   intro dq Q s a w ad h4 h aV
   have kM := ad
   simp only [bj, Option.map_eq_some_iff] at ad
   obtain ⟨vK, ab, ad⟩ := ad
   rcases J.Rq ad.symm with ⟨fJ, rfl, rfl⟩ | ⟨T, b, rfl⟩
   rotate_left
   ·exact mI _ T b Q s a w h4 (by simpa only [J.strip] using kM) (h Q fun _ _ h => h) aV
   refine wp_block (wp_mono (ih ab h4 h aV) ?_)
   rintro e cK aL ⟨aA, bx, eI⟩
   cases e with
   | exit i =>
     simp only [tB] at bx
     simp only [Exit.inBlock]
     split
     ·rename_i e; rw [if_pos e] at bx; exact ⟨aA, bx, eI⟩
     ·rename_i e; rw [if_neg e] at bx; exact ⟨aA, bx, eI⟩
   | _ => exact ⟨aA, bx, eI⟩
 | loop b ih =>
   intro dq Q s a w ad h4 h aV
   have kM := ad
   simp only [bj, Option.map_eq_some_iff] at ad
   obtain ⟨vK, ab, ad⟩ := ad
   rcases J.Rr ad.symm with ⟨fJ, rfl, rfl⟩ | ⟨T, b, rfl⟩
   rotate_left
   ·exact mI _ T b Q s a w h4 (by simpa only [J.strip] using kM) (h Q fun _ _ h => h) aV
   obtain ⟨s, h, aV⟩ := aV.el h
   have key := h (fun s => ∀ a w, Rel w0 F0 X n ρ s a w → ∀ (f : Frame) (k : List Item) (cs : List Frame), ∃ e cK aL, rP w0 F0 X n ρ Q e cK aL ∧ Arrives C.P (lone (f.at a (.code b :: .inLoop b :: k)) cs w) f k cs e cK aL) ?_
   ·intro f k cs
    obtain ⟨e, cK, aL, cv, qC⟩ := key a w aV f k cs
    exact ⟨e, cK, aL, cv, .of_steps (.one step_loop) qC⟩
   ·intro aA fj a w aV f k cs
    obtain ⟨e, a₁, w₁, ⟨s1, cv, qD⟩, qC⟩ := ih ab h4 fj aV f (.inLoop b :: k) cs
    cases e with
    | normal =>
      simp only [andThen] at cv
      obtain ⟨s1, cv, qD⟩ := qD.el cv
      obtain ⟨e₂, a₂, w₂, hq₂, harr₂⟩ := cv a₁ w₁ qD f k cs
      exact ⟨e₂, a₂, w₂, hq₂, .of_steps (Steps.trans qC (.one step_inLoop)) harr₂⟩
    | exit id => exact ⟨_, a₁, w₁, ⟨s1, cv, qD⟩, .pass (x := .inLoop b) rfl (fun _ _ => .inl (by simp)) qC⟩
    | goto l => exact ⟨_, a₁, w₁, ⟨s1, cv, qD⟩, .pass (x := .inLoop b) rfl (fun _ _ => .inl (by simp)) qC⟩
    | ret => exact ⟨_, a₁, w₁, ⟨s1, cv, qD⟩, .pass (x := .inLoop b) rfl (fun _ _ => .inl (by simp)) qC⟩
    | panic awN => exact ⟨_, a₁, w₁, ⟨s1, cv, qD⟩, .pass (x := .inLoop b) rfl (fun _ _ => .inl (by simp)) qC⟩
    | outgrown => exact ⟨_, a₁, w₁, ⟨s1, cv, qD⟩, .pass (x := .inLoop b) rfl (fun _ _ => .inl (by simp)) qC⟩
 | exit id =>
   intro dq Q s a w ad h4 h aV
   have kM := ad
   simp only [bj, Option.some.injEq] at ad
   rcases J.Rl ad.symm with rfl | ⟨T, b, rfl⟩
   ·exact wp_exit ⟨s, h, aV⟩
   ·exact mI _ T b Q s a w h4 (by simpa only [J.strip] using kM) (h Q fun _ _ h => h) aV
 | ret =>
   intro dq Q s a w ad h4 h aV
   have kM := ad
   simp only [bj, Option.some.injEq] at ad
   rcases J.Rk ad.symm with rfl | ⟨T, b, rfl⟩
   ·exact wp_ret ⟨s, h, aV⟩
   ·exact mI _ T b Q s a w h4 (by simpa only [J.strip] using kM) (h Q fun _ _ h => h) aV
 | _ => intro dq Q s a w ad; simp [bj] at ad
theorem IH (bl : C.e0) (c : Code) {dq : J} {Q : Exit → ao → Prop} {s : ao} {a : Act} {w : World} (ad : bj n c = some dq.strip) (ab : dq.bare (fun _ _ => False)) (h : cW C dq Q s) (aV : Rel w0 F0 X n ρ s a w) : c.wp C.P (rP w0 F0 X n ρ Q) a w :=
 DQ bl (fun _ _ _ _ _ _ _ br => br.elim) c ad ab h aV
end
def jJ : ResultVar → Nat
 | .tmp t => t
 | .cell a _ => a
def pL (C : ck) (s : ao) : ResultVar → Option I
 | .tmp t => if (s t).tree = true then (match s t with | .tuple _ => none | d => some d) else none
 | .cell a T => match s a with
   | .a7 d => if fits C T d = true ∧ d.tree = true then some d else none
   | _ => none
def Ends (C : ck) (fx : List Nat) (fu : List ResultVar) (r : I) (outs : List I) (s : ao) : Prop :=
 ∃ ds, fu.map (pL C s) = ds.map some ∧ r = (match ds with | [d] => d | ds => .tuple ds) ∧ (fu.map jJ).Nodup ∧
   ∀ (i : Nat) (o : I), outs[i]? = some o → o = .hole ∨ (o = s i ∧ o.gz = true ∧ i ∈ fx ∧ i ∉ fu.map jJ)
section
variable {C : ck} {w0 w : World} {F0 X F : Nat → Prop} {S : Nat → Nat → Prop} {s : ao} {tmps : Array Value}
theorem II {d : I} {x : Value} (ai : ∀ vs, d ≠ .tuple vs) (h : eo d x) : cr x = iy x ∧ iO d x := by
 have : iO d x := by cases d <;> first | exact h | exact (ai _ rfl).elim
 refine ⟨?_, this⟩
 cases d <;> first
  | (obtain ⟨a, rfl⟩ := this; rfl)
  | (simp only [iO] at this
     rw [gX this]
     cases x <;> first | rfl | (simp [Value.gH] at this))
def wu (tmps : Array Value) : ResultVar → Sem Value
 | .tmp t => pure (tmps.getD t undef)
 | .cell a t => do loadVar t (← asAddr (tmps.getD a undef))
theorem Ru (bl : C.e0) (h : bP w0 F0 X F S s (fun t => tmps.getD t undef) w) {v : ResultVar} {d : I} (aN : pL C s v = some d) :
  ∃ x, (wu tmps v).run C.P w = .ok x w ∧ d.tree = true ∧ (∀ vs, d ≠ .tuple vs) ∧ eo d x ∧ au w F d (cr x) (S (jJ v)) := by
 cases v with
 | tmp t =>
   simp only [pL] at aN
   split at aN
   ·rename_i bb
    have mc : (∀ vs, s t ≠ .tuple vs) ∧ d = s t := by
     cases ad : s t <;> rw [ad] at aN <;> simp only at aN <;> first
      | (cases aN; done)
      | (simp only [Option.some.injEq] at aN; exact ⟨(fun _ h => by cases h), aN.symm⟩)
    obtain ⟨mc, rfl⟩ := mc
    obtain ⟨g1, g2⟩ := (aG.cJ bb).1 (h.dC t)
    exact ⟨_, by simp [wu], bb, mc, g1, g2⟩
   ·cases aN
 | cell a T =>
   simp only [pL] at aN
   split at aN
   ·rename_i e ad
    split at aN
    ·rename_i Rv
     obtain ⟨ig, Rw⟩ := Rv
     simp only [Option.some.injEq] at aN; subst aN
     have jt := h.dC a
     rw [ad] at jt
     obtain ⟨g1, g2⟩ := (aG.cJ (d := .a7 e) rfl).1 jt
     rw [gX g1, au] at g2
     obtain ⟨b, cur, ty, fr, aT, bU, cb, e5, dX, fB, eC, jq⟩ := g2
     simp only [List.cons.injEq, and_true] at bU
     have jV : h0 w b 0 cur.toList := by
      have := s_ e5 cur.size
      rwa [List.take_of_length_le (by simp)] at this
     obtain ⟨x, dB, bg, dm⟩ := yD (C := C) bl jV fB ig
     refine ⟨x, ?_, Rw, ?_, dm, ?_⟩
     ·simp only [wu]
      rw [bU]
      simpa [asAddr] using dB
     ·intro vs gI; subst gI
      unfold fits at ig
      split at ig <;> simp_all
     ·rw [bg]; exact au.mono (fun _ h => h) _ _ _ _ eC fB
    ·cases aN
   ·cases aN
theorem Rx (bl : C.e0) (h : bP w0 F0 X F S s (fun t => tmps.getD t undef) w) : ∀ (fu : List ResultVar) (ds : List I), fu.map (pL C s) = ds.map some → (fu.map jJ).Nodup →
  ∃ xs, (fu.mapM (wu tmps)).run C.P w = .ok xs w ∧ xs.length = ds.length ∧ a8 w F ds (xs.flatMap iy) (fun b => ∃ t ∈ fu.map jJ, S t b) ∧
    ∀ (k : Nat) (d : I) (x : Value), ds[k]? = some d → xs[k]? = some x → eo d x ∧ (∀ vs, d ≠ .tuple vs) ∧ (iy x).length = d.wd ∧ cr x = iy x ∧ d.tree = true := by
 intro fu
 induction fu with
 | nil =>
   intro ds he _
   have : ds = [] := by simpa using he.symm
   subst this
   exact ⟨[], by simp, rfl, by simp only [List.flatMap_nil]; rw [a8], fun k d x ai => by simp at ai⟩
 | cons v fu ih =>
   intro ds he tE
   cases ds with
   | nil => simp at he
   | cons d ds =>
     simp only [List.map_cons, List.cons.injEq] at he
     simp only [List.map_cons, List.nodup_cons] at tE
     obtain ⟨x, dB, rt, bg, dm, ch⟩ := Ru bl h he.1
     obtain ⟨xs, gM, gJ, iK, ik⟩ := ih ds he.2 tE.2
     obtain ⟨aS, aX⟩ := II bg dm
     refine ⟨x :: xs, by simp [List.mapM_cons, dB, gM], by simp [gJ], ?_, ?_⟩
     ·simp only [List.flatMap_cons]
      rw [a8]
      rw [aS] at ch
      refine ⟨iy x, xs.flatMap iy, S (jJ v), fun b => ∃ t ∈ fu.map jJ, S t b, rfl, ch, iK, fun b ab => ⟨jJ v, by simp, ab⟩, ?_, ?_⟩
      ·rintro b ⟨t, bb, ab⟩; exact ⟨t, by simp [bb], ab⟩
      ·rintro b ab ⟨t, bb, lD⟩
       have : t ≠ jJ v := fun e => tE.1 (e ▸ bb)
       exact h.fK t (jJ v) b this lD ab
     ·intro k bz dr ai aq
      cases k with
      | zero =>
        simp at ai aq; subst ai aq
        refine ⟨dm, bg, ?_, aS, rt⟩
        rw [← aS]; exact au.length _ _ _ ch
      | succ k => exact ik k bz dr (by simpa using ai) (by simpa using aq)
theorem DR (bl : C.e0) {f : FuncId} {fn : Func} {c : Code} {fx : List Nat} {as outs : List I} {r : I} (br : C.P.funcs[f]? = some fn) (ab : fn.body = some c)
  (kt : (fn.name == "runtime.NumGoroutine") = false) (aY : as.length ≤ fn.ntmps)
  {w : World} {F X : Nat → Prop} {S : Nat → Nat → Prop} {vs : List Value} (aR : vs.length = as.length) (aV : bP w F X F S (gm as) (hE vs) w)
  (DS : ∀ a, Rel w F X ⟨fn.ntmps, fx⟩ (hE vs) (gm as) a w → (∀ t, a.tmps.getD t undef = hE vs t) → c.wp C.P (rP w F X ⟨fn.ntmps, fx⟩ (hE vs) (fun e s => (e = .normal ∨ e = .ret) ∧ el (Ends C fx fn.results.toList r outs) s)) a w) :
  n8 C.P f vs.toArray w fun v aL => ∃ bL aT, bP w F X bL aT (gm (r :: outs)) (hE (v :: vs)) aL := by
 have mb : (vs.toArray ++ Array.replicate (fn.ntmps - vs.toArray.size) undef).size = fn.ntmps := by simp; omega
 have eJ : (fun t => (vs.toArray ++ Array.replicate (fn.ntmps - vs.toArray.size) undef).getD t undef) = hE vs := by
  funext t
  simp only [hE, Array.getD_eq_getD_getElem?, List.getD_eq_getElem?_getD]
  by_cases bb : t < vs.length
  ·rw [Array.getElem?_append_left (by simpa using bb)]; simp
  ·rw [Array.getElem?_append_right (by simpa using bb)]
   rw [List.getElem?_eq_none (by omega)]
   simp only [Array.getElem?_replicate]
   split <;> rfl
 have oa : Rel w F X ⟨fn.ntmps, fx⟩ (hE vs) (gm as) { tmps := vs.toArray ++ Array.replicate (fn.ntmps - vs.toArray.size) undef, defers := [] } w :=
  ⟨rfl, mb, fun i _ => congrFun eJ i, F, S, by rw [eJ]; exact aV⟩
 have DT : fn.name ≠ "runtime.NumGoroutine" := by simpa using kt
 refine .inl ⟨by simp [callFunc, br, DT, ab], calls_of_wp br ab (wp_mono (DS _ oa (congrFun eJ)) ?_)⟩
 rintro e cK aL ⟨aA, ⟨he, Ry⟩, Rz⟩
 obtain ⟨aA, ⟨ds, jz, IJ, tE, vn⟩, ai, eH, hs, bL, aT, eI⟩ := Rz.el Ry
 obtain ⟨xs, gM, gJ, iK, ik⟩ := Rx bl eI _ ds jz tE
 have RA : (results fn cK.tmps) = (do let vs ← fn.results.mapM (wu cK.tmps); pure (if h : vs.size = 1 then vs[0] else .tuple vs)) := by
  unfold results
  congr 1
 have rr : (results fn cK.tmps).run C.P aL = .ok (if h : xs.toArray.size = 1 then xs.toArray[0] else .tuple xs.toArray) aL := by
  rw [RA, Array.mapM_eq_mapM_toList]
  simp [gM]
 have o8 : (r.tree = true ∧ eo r (if h : xs.toArray.size = 1 then xs.toArray[0] else .tuple xs.toArray) ∧
   au aL bL r (cr (if h : xs.toArray.size = 1 then xs.toArray[0] else .tuple xs.toArray)) (fun b => ∃ t ∈ fn.results.toList.map jJ, aT t b)) := by
  by_cases ag : ∃ d, ds = [d]
  ·obtain ⟨d, rfl⟩ := ag
   obtain ⟨x, rfl⟩ : ∃ x, xs = [x] := by
    cases xs with
    | nil => simp at gJ
    | cons x xs => cases xs with
      | nil => exact ⟨x, rfl⟩
      | cons y cn => simp at gJ
   obtain ⟨bU, cb, e5, dX, fB⟩ := ik 0 d x rfl rfl
   have RB : d = r := IJ.symm
   subst RB
   simp only [List.flatMap_cons, List.flatMap_nil, List.append_nil] at iK
   rw [a8] at iK
   obtain ⟨cy, cu, b5, dG, aS, aX, aQ, ca, cR, bZ⟩ := iK
   rw [a8] at aQ; subst aQ
   simp only [List.append_nil] at aS; subst aS
   have aq : (if h : ([x] : List Value).toArray.size = 1 then ([x] : List Value).toArray[0] else .tuple ([x] : List Value).toArray) = x := by simp
   rw [aq, dX]
   exact ⟨fB, bU, au.mono (fun _ h => h) _ _ _ _ ca aX⟩
  ·have y8 : r = .tuple ds := by
    rw [IJ]
    cases ds with
    | nil => rfl
    | cons d ds => cases ds with
      | nil => exact (ag ⟨d, rfl⟩).elim
      | cons e ds => rfl
   have aq : (if h : xs.toArray.size = 1 then xs.toArray[0] else Value.tuple xs.toArray) = .tuple xs.toArray := by
    rw [dif_neg]
    intro eH
    have : ds.length = 1 := by rw [← gJ]; simpa using eH
    obtain ⟨d, ai⟩ := List.length_eq_one_iff.1 this
    exact ag ⟨d, ai⟩
   rw [aq, y8]
   refine ⟨rfl, ⟨xs.toArray, rfl, by simpa using gJ, fun k d x ai aq => ?_⟩, ?_⟩
   ·obtain ⟨bU, cb, e5, dX, _⟩ := ik k d x ai (by simpa using aq)
    exact ⟨(II cb bU).2, cb, e5⟩
   ·rw [au]
    simpa [cr] using iK
 have post : ∀ (v : Value), (r.tree = true ∧ eo r v ∧ au aL bL r (cr v) (fun b => ∃ t ∈ fn.results.toList.map jJ, aT t b)) → ∃ tw b5, bP w F X tw b5 (gm (r :: outs)) (hE (v :: vs)) aL := by
  rintro v ⟨v1, v2, v3⟩
  have DU : ∀ i, (outs.getD i .hole).gz = true → outs.getD i .hole = aA i ∧ i ∈ fx ∧ i ∉ fn.results.toList.map jJ := by
   intro i al
   cases cg : outs[i]? with
   | none => simp [List.getD, cg, I.gz] at al
   | some o =>
     have e : outs.getD i .hole = o := by simp [List.getD, cg]
     rw [e] at al ⊢
     rcases vn i o cg with h | h
     ·subst h; simp [I.gz] at al
     ·exact ⟨h.1, h.2.2⟩
  refine ⟨bL, fun t b => match t with | 0 => ∃ t ∈ fn.results.toList.map jJ, aT t b | i + 1 => (outs.getD i .hole).gz = true ∧ aT i b, eI.hq, eI.hM, eI.fA, ?_, ?_, ?_, ?_, ?_, eI.old, eI.size, eI.os, eI.tape, eI.output⟩
  ·intro t b ab
   cases t with
   | zero => obtain ⟨t, _, ab⟩ := ab; exact eI.e4 t b ab
   | succ i => exact eI.e4 i b ab.2
  ·intro t b ab
   cases t with
   | zero => obtain ⟨t, _, ab⟩ := ab; exact eI.gi t b ab
   | succ i => exact eI.gi i b ab.2
  ·intro t u b dQ ab hu
   cases t with
   | zero =>
     obtain ⟨t, bb, ab⟩ := ab
     cases u with
     | zero => exact dQ rfl
     | succ j =>
       refine eI.fK t j b (fun e => ?_) ab hu.2
       subst e; exact (DU t hu.1).2.2 bb
   | succ i =>
     cases u with
     | zero =>
       obtain ⟨t, bb, hu⟩ := hu
       refine eI.fK t i b (fun e => ?_) hu ab.2
       subst e; exact (DU t ab.1).2.2 bb
     | succ j => exact eI.fK i j b (by omega) ab.2 hu.2
  ·intro t b ab
   cases t with
   | zero => obtain ⟨t, _, ab⟩ := ab; exact eI.eh t b ab
   | succ i => exact eI.eh i b ab.2
  ·intro t
   cases t with
   | zero => exact (aG.cJ v1).2 ⟨v2, v3⟩
   | succ i =>
     show aG aL bL (gm (r :: outs)) (hE (v :: vs)) (outs.getD i .hole) (vs.getD i undef) (fun b => (outs.getD i .hole).gz = true ∧ aT i b)
     cases al : (outs.getD i .hole).gz with
     | false =>
       have : outs.getD i .hole = .hole := by
        cases cg : outs[i]? with
        | none => simp [List.getD, cg]
        | some o =>
          have e : outs.getD i .hole = o := by simp [List.getD, cg]
          rw [e] at al ⊢
          rcases vn i o cg with h | h
          ·exact h
          ·rw [h.2.1] at al; cases al
       rw [this, aG]; trivial
     | true =>
       obtain ⟨mF, kL, n7⟩ := DU i al
       have bb := (qw al).2.1
       have jt := eI.dC i
       rw [← mF] at jt
       obtain ⟨g1, g2⟩ := (aG.cJ bb).1 jt
       have aN : cK.tmps.getD i undef = vs.getD i undef := hs i kL
       rw [aN] at g1 g2
       exact (aG.cJ bb).2 ⟨g1, au.mono (fun _ h => h) _ _ _ _ (fun b ab => ⟨rfl, ab⟩) g2⟩
 rcases he with rfl | rfl
 ·exact ⟨ai, _, rr, _, rfl, post _ o8⟩
 ·exact ⟨ai, _, rr, _, rfl, post _ o8⟩
theorem bh.of_wp (bl : C.e0) {f : FuncId} {fn : Func} {c : Code} {dq : J} {fx : List Nat} {as outs : List I} {r : I} (br : C.P.funcs[f]? = some fn) (ab : fn.body = some c)
  (kt : (fn.name == "runtime.NumGoroutine") = false) (ad : bj ⟨fn.ntmps, fx⟩ c = some dq.strip) (aY : as.length ≤ fn.ntmps)
  (h : cW C dq (fun e s => (e = .normal ∨ e = .ret) ∧ el (Ends C fx fn.results.toList r outs) s) (gm as)) (ar : dq.plain = true := by kernel_rfl) : bh C f as r outs :=
 fun w F X S vs aR aV => DR bl br ab kt aY aR aV fun a oa _ => IH bl c (by rw [J.DM]; exact ad) (J.y5 dq (J.Iz dq ar)) (y6 dq h) oa
end
def num : Nat → List I → List (Nat × I)
 | _, [] => []
 | k, a :: as => (k, a) :: num (k + 1) as
theorem RC : ∀ (as : List I) (k t : Nat), aa (num k as) (k + t) = as.getD t .hole := by
 intro as
 induction as with
 | nil => intro k t; simp [num, aa]
 | cons a as ih =>
   intro k t
   cases t with
   | zero => simp [num, aa]
   | succ t =>
     have := ih (k + 1) t
     simp only [num, aa]
     rw [if_neg (by omega)]
     rw [show k + (t + 1) = k + 1 + t by omega, this]
     simp
theorem DV (as : List I) : gm as = aa (num 0 as) := by
 funext t
 have := RC as 0 t
 rw [Nat.zero_add] at this
 rw [this]; rfl
theorem k_ (l : List (Nat × I)) (t : Nat) (d : I) : dw (aa l) t d = aa ((t, d) :: l) := by
 funext u; simp only [dw, aa]
def od (t : Nat) : List (Nat × I) → List (Nat × I)
 | [] => []
 | (u, d) :: l => (u, cS t d) :: od t l
def rQ (t : Nat) : List (Nat × I) → List (Nat × I)
 | [] => []
 | (u, d) :: l => (u, cd t d) :: rQ t l
theorem wv (t : Nat) : ∀ l : List (Nat × I), lE t (aa l) = aa (od t l) := by
 intro l
 funext u
 induction l with
 | nil => rfl
 | cons p l ih =>
   obtain ⟨v, d⟩ := p
   simp only [lE, aa, od] at ih ⊢
   split
   ·rfl
   ·exact ih
theorem RD (t : Nat) : ∀ l : List (Nat × I), iZ t (aa l) = aa (rQ t l) := by
 intro l
 funext u
 induction l with
 | nil => rfl
 | cons p l ih =>
   obtain ⟨v, d⟩ := p
   simp only [iZ, aa, rQ] at ih ⊢
   split
   ·rfl
   ·exact ih
def iT (k : List Nat) (s : ao) : List (Nat × I) := k.map fun t => (t, s t)
section
variable {C : ck} {l : List (Nat × I)}
def fX.rR : fX → Bool
 | .call _ _ => true
 | .cj _ => false
 | .fN _ => false
 | .pick _ _ _ => false
 | .gL _ => false
 | .cU _ _ => false
 | .fM _ _ => false
 | .eD _ _ _ => false
 | .b4 _ _ => false
 | .fU _ _ _ => false
 | .fC _ => false
 | .b1 _ _ _ _ => false
 | .un _ _ => false
 | .fW _ _ _ => false
 | .il _ _ => false
 | .er _ _ _ => false
 | .fl _ _ _ _ => false
 | .cB _ _ _ => false
 | .e6 _ _ _ => false
 | .idx _ _ _ => false
 | .ex _ _ => false
 | .lI _ _ _ => false
 | .len _ _ => false
 | .app _ _ _ _ => false
 | .shr _ => true
 | .ni _ _ _ _ => false
 | .cap _ _ => false
 | .oZ _ _ _ => false
 | .bad => false
 | .l_ _ _ _ _ => true
 | .ma _ _ _ => true
 | .kZ _ _ => false
 | .qv _ => false
 | .pG _ => false
variable {Q : Exit → ao → Prop}
def I.IK : I → Bool
 | .tuple _ => true
 | _ => false
theorem Ends.one {fx : List Nat} {t : Nat} {r : I} {s : ao} (ag : s t = r) (ah : (r.tree && !r.IK) = true) : Ends C fx [.tmp t] r [] s := by
 simp only [Bool.and_eq_true, Bool.not_eq_true'] at ah
 obtain ⟨ah, y9⟩ := ah
 have aI : ∀ vs, r ≠ .tuple vs := fun vs e => by subst e; simp [I.IK] at y9
 refine ⟨[r], ?_, rfl, by simp, fun i o h => by simp at h⟩
 have : pL C s (.tmp t) = some r := by
  simp only [pL, ag, ah, if_true]
  try (cases r <;> first | rfl | exact (aI _ rfl).elim)
 simp only [List.map_cons, List.map_nil, this]
end
section
variable {C : ck} {l : List (Nat × I)} {Q : Exit → ao → Prop}
theorem bh.outs {f : FuncId} {as : List I} {r : I} {mF kL : List I} (h : bh C f as r mF) (he : gm mF = gm kL) : bh C f as r kL := by
 intro w F X S vs aR aV
 refine n8.mono (h w F X S vs aR aV) ?_
 rintro v aL ⟨bL, aT, bx⟩
 refine ⟨bL, aT, ?_⟩
 have : gm (r :: kL) = gm (r :: mF) := by
  funext t
  cases t with
  | zero => rfl
  | succ t => exact (congrFun he t).symm
 rw [this]; exact bx
def lQ : List I → List I → List cV
 | a :: as, d :: ds => ⟨a, false, d, .hole⟩ :: lQ as ds
 | _, _ => []
theorem RE {s : ao} : ∀ (as ds : List I), views s as = some ds → (lQ as ds).map (·.a) = as ∧ (lQ as ds).map (·.d) = ds ∧ (∀ p ∈ lQ as ds, p.ok s ∧ p.g = false ∧ p.o = .hole ∧ p.a ∈ as) ∧ js (lQ as ds) = true ∧
  gm ((lQ as ds).map (·.o)) = gm [] ∧ (∀ o9, fD o9 (lQ as ds) = o9) ∧ (∀ o9, i7 o9 (lQ as ds) = o9) := by
 intro as
 induction as with
 | nil =>
   intro ds h
   simp only [views, Option.some.injEq] at h; subst h
   exact ⟨rfl, rfl, (fun p ar => by cases ar), rfl, rfl, fun _ => rfl, fun _ => rfl⟩
 | cons a as ih =>
   intro ds h
   simp only [views] at h
   split at h
   ·rename_i d RF ag ah
    simp only [Option.some.injEq] at h; subst h
    obtain ⟨aS, aX, aQ, ca, cR, bZ, bS⟩ := ih RF ah
    refine ⟨by simp only [lQ, List.map_cons, aS], by simp only [lQ, List.map_cons, aX], ?_, ?_, ?_, ?_, ?_⟩
    ·intro p ar
     simp only [lQ, List.mem_cons] at ar
     rcases ar with rfl | ar
     ·exact ⟨by simp only [cV.ok]; exact ag, rfl, rfl, by simp⟩
     ·obtain ⟨g1, g2, g3, g4⟩ := aQ p ar
      exact ⟨g1, g2, g3, by simp [g4]⟩
    ·simp only [lQ, js, ca, Bool.and_true, List.all_eq_true]
     intro p ar
     simp [(aQ p ar).2.1]
    ·funext t
     cases t with
     | zero => rfl
     | succ t => exact (congrFun cR t).trans (by simp [gm])
    ·intro o9; exact bZ o9
    ·intro o9; exact bS o9
   ·cases h
end
structure fv where
 bF : List Nat
 H : List Nat
 T : List Nat
 c : Bool
mutual
def I.clean : I → Bool
 | .hole => false
 | .fn _ cap => I.tF cap
 | _ => true
def I.tF : List I → Bool
 | [] => true
 | d :: ds => d.clean && I.tF ds
end
mutual
theorem IL {x : Nat} : ∀ a : I, (cd x a).clean = true → cd x a = a
 | .h y q, h => by
   simp only [cd] at h ⊢
   split
   ·rename_i e; rw [if_pos e] at h
    split
    ·rfl
    ·rename_i gI; rw [if_neg gI] at h; simp [I.clean] at h
   ·rfl
 | .ar y q, h => by
   simp only [cd] at h ⊢
   split
   ·rename_i e; rw [if_pos e] at h; simp [I.clean] at h
   ·rfl
 | .ab y q, h => rfl
 | .fn f cap, h => by simp only [cd, I.clean] at h ⊢; rw [IM cap h]
 | .hole, _ => rfl
 | .bool _, _ => rfl
 | .e_, _ => rfl
 | .int _ _, _ => rfl
 | .str _, _ => rfl
 | .dv, _ => rfl
 | .bp, _ => rfl
 | .slice _, _ => rfl
 | .aP _ _, _ => rfl
 | .ref _, _ => rfl
 | .a7 _, _ => rfl
 | .agg _, _ => rfl
 | .tuple _, _ => rfl
theorem IM {x : Nat} : ∀ ds : List I, I.tF (iP x ds) = true → iP x ds = ds
 | [], _ => rfl
 | d :: ds, h => by
   simp only [iP, I.tF, Bool.and_eq_true] at h ⊢
   rw [IL d h.1, IM ds h.2]
end
mutual
theorem IP {x : Nat} : ∀ a : I, (cS x a).clean = true → cS x a = a
 | .h y q, h => by
   simp only [cS] at h ⊢
   split
   ·rename_i e; rw [if_pos e] at h; simp [I.clean] at h
   ·rfl
 | .ar y q, h => by
   simp only [cS] at h ⊢
   split
   ·rename_i e; rw [if_pos e] at h; simp [I.clean] at h
   ·rfl
 | .ab y q, h => by
   simp only [cS] at h ⊢
   split
   ·rename_i e; rw [if_pos e] at h; simp [I.clean] at h
   ·rfl
 | .fn f cap, h => by simp only [cS, I.clean] at h ⊢; rw [IQ cap h]
 | .hole, _ => rfl
 | .bool _, _ => rfl
 | .e_, _ => rfl
 | .int _ _, _ => rfl
 | .str _, _ => rfl
 | .dv, _ => rfl
 | .bp, _ => rfl
 | .slice _, _ => rfl
 | .aP _ _, _ => rfl
 | .ref _, _ => rfl
 | .a7 _, _ => rfl
 | .agg _, _ => rfl
 | .tuple _, _ => rfl
theorem IQ {x : Nat} : ∀ ds : List I, I.tF (jm x ds) = true → jm x ds = ds
 | [], _ => rfl
 | d :: ds, h => by
   simp only [jm, I.tF, Bool.and_eq_true] at h ⊢
   rw [IP d h.1, IQ ds h.2]
end
theorem RG {k : o1} {x : Nat} {a : I} (h : (k.app x a).clean = true) : k.app x a = a := by
 cases k with
 | no => rfl
 | cd => exact IL a h
 | cS => exact IP a h
theorem RH : ∀ (ms : List gR) (u : Nat) (a : I), (∀ m ∈ ms, m.x ≠ u) → (jY ms u a).clean = true → jY ms u a = a := by
 intro ms
 induction ms with
 | nil => intros; rfl
 | cons m ms ih =>
   intro u a aq aw
   simp only [jY] at aw ⊢
   have e := ih u _ (fun ij rS => aq ij (by simp [rS])) aw
   have hm : m.at u a = m.k.app m.x a := by
    simp only [gR.at]; rw [if_neg (fun e => aq m (by simp) e.symm)]
   rw [e, hm]
   rw [e, hm] at aw
   exact RG aw
theorem RI : ∀ (ms : List gR) (u : Nat) (a : I), (∀ m ∈ ms, m.x ≠ u ∧ m.x ∉ a.ad) → jY ms u a = a := by
 intro ms
 induction ms with
 | nil => intros; rfl
 | cons m ms ih =>
   intro u a aq
   simp only [jY]
   have hm : m.at u a = a := by
    simp only [gR.at]; rw [if_neg (fun e => (aq m (by simp)).1 e.symm)]
    exact vV (.inr (aq m (by simp)).2)
   rw [hm]
   exact ih u a fun ij rS => aq ij (by simp [rS])
theorem RJ (m : gR) : ∀ (ms : List gR) (u : Nat) (a : I), (∀ ij ∈ ms, ij.x ≠ m.x ∧ ij.x ∉ m.d.ad ∧ m.x ∉ ij.d.ad) → jY ms u (m.at u a) = m.at u (jY ms u a) := by
 intro ms
 induction ms with
 | nil => intros; rfl
 | cons n ms ih =>
   intro u a aq
   simp only [jY]
   have aY := aq n (by simp)
   have aw : n.at u (m.at u a) = m.at u (n.at u a) := by
    simp only [gR.at]
    by_cases aS : u = n.x
    ·subst aS
     rw [if_pos rfl, if_neg aY.1, if_pos rfl]
     exact (vV (.inr aY.2.2)).symm
    ·rw [if_neg aS]
     by_cases aX : u = m.x
     ·subst aX
      rw [if_pos rfl, if_pos rfl]
      exact vV (.inr aY.2.1)
     ·rw [if_neg aX, if_neg aS, if_neg aX]
      exact P_ _ _ _ _ _
   rw [aw]
   exact ih u _ fun ij rS => aq ij (by simp [rS])
theorem RK : ∀ (ms kK : List gR) (s : ao), (∀ m ∈ ms, ∀ n ∈ kK, n.x ≠ m.x ∧ n.x ∉ m.d.ad ∧ m.x ∉ n.d.ad) → dy kK (dy ms s) = dy ms (dy kK s) := by
 intro ms
 induction ms with
 | nil => intros; rfl
 | cons m ms ih =>
   intro kK s h
   have e : ∀ s, dy (m :: ms) s = dy ms (dy [m] s) := fun s => lp [m] ms s
   rw [e, e, ih kK _ (fun ij rS => h ij (by simp [rS]))]
   congr 1
   funext u
   simp only [dy, jY]
   exact RJ m kK u _ (h m (by simp))
def DW (C : ck) (s : ao) (f : aF) (args : List aF) (K : List Nat → I → ao → Prop) : Prop :=
 ∃ (g : FuncId) (caps : List I) (ps : List cV) (r : I), aK s f = .fn g caps ∧ I.gh caps = true ∧ ps.map (·.a) = args.map (aK s) ++ caps ∧ (∀ p ∈ ps, p.ok s) ∧ js ps = true ∧
   bh C g (ps.map (·.d)) r (ps.map (·.o)) ∧ r.res = true ∧ (k7 ps = true → r.c7 = true ∧ ∀ p ∈ ps, p.o.c7 = true) ∧ K (I.eE ((ps.filter (·.g)).map (·.a))) r (i7 (fD s ps) ps)
def o_ (C : ck) (s : ao) (bG : fX) (K : List Nat → I → ao → Prop) : Prop :=
 match bG with
 | .call f args => ∃ (g : FuncId) (caps : List I) (ps : List cV) (r : I), aK s f = .fn g caps ∧ I.gh caps = true ∧ ps.map (·.a) = args.map (aK s) ++ caps ∧ (∀ p ∈ ps, p.ok s) ∧ js ps = true ∧
   bh C g (ps.map (·.d)) r (ps.map (·.o)) ∧ r.res = true ∧ (k7 ps = true → r.c7 = true ∧ ∀ p ∈ ps, p.o.c7 = true) ∧ K (I.eE ((ps.filter (·.g)).map (·.a))) r (i7 (fD s ps) ps)
 | .shr bG => ∃ av s1, bI C s bG = some (av, s1) ∧ av.tree = true ∧ (∀ vs, av ≠ .tuple vs) ∧ K (dt s bG) av.share s1
 | .l_ f args u x => s u = .h x [] ∧ (s x).own = true ∧ DW C s f args fun cT av s1 => s1 u = .hole ∧ (s1 x).own = true ∧ K (u :: cT) av (dw s1 u (.h x []))
 | .ma f args us => o6 s (lO s us) = true ∧ DW C s f args fun cT av s1 => o6 s1 (lO s us) = true ∧ K (us ++ cT) av (pK s1 (lO s us))
 | bG => ∃ av s1, bI C s bG = some (av, s1) ∧ K (dt s bG) av s1
def ja (s : ao) (bF : List Nat) (dst : Option Nat) (cT : List Nat) (av : I) : fv :=
 ⟨bF, bF.flatMap (fun u => (s u).ad) ++ av.ad, dst.toList ++ cT, bF.all fun u => (s u).clean⟩
def oe (C : ck) (s : ao) (o : b2) (K : fv → ao → Prop) : Prop :=
 match o.guard with
 | none => o_ C s o.bG fun cT av s1 => K (ja s (use s o.bG) o.dst cT av) (fin s1 o.dst av)
 | some (t, b) => match s t with
   | .bool fJ => if fJ = b then o_ C s o.bG (fun cT av s1 => K (ja s (t :: use s o.bG) o.dst cT av) (fin s1 o.dst av)) else K (ja s [t] o.dst [] (.tuple [])) (fin s o.dst (.tuple []))
   | .tuple [] => K (ja s [t] o.dst [] (.tuple [])) (fin s o.dst (.tuple []))
   | _ => False
def qE : Option (List fv) → fv → Option (List fv)
 | none, _ => none
 | some l, f => some (f :: l)
def cI (C : ck) (s : ao) : List b2 → Option (List fv) → (Option (List fv) → ao → Prop) → Prop
 | [], acc, K => K acc s
 | o :: os, acc, K => oe C s o fun f s1 => cI C s1 os (qE acc f) K
section
variable {C : ck}
theorem IU {s : ao} {bG : fX} {K : List Nat → I → ao → Prop} {du : I → ao → Prop} (az : ∀ cT av s, K cT av s → du av s) (h : o_ C s bG K) : nr C s bG du := by
 cases bG with
 | call f args =>
   obtain ⟨g, caps, ps, r, ag, hr, ah, aI, a_, bN, cQ, c5, fg⟩ := h
   exact ⟨g, caps, ps, r, ag, hr, ah, aI, a_, bN, cQ, c5, az _ _ _ fg⟩
 | l_ f args u x =>
   obtain ⟨bU, cb, g, caps, ps, r, ag, hr, ah, aI, a_, bN, cQ, c5, fg, ie, h1⟩ := h
   exact ⟨bU, cb, g, caps, ps, r, ag, hr, ah, aI, a_, bN, cQ, c5, fg, ie, az _ _ _ h1⟩
 | ma f args us =>
   obtain ⟨cb, g, caps, ps, r, ag, hr, ah, aI, a_, bN, cQ, c5, fg, ie⟩ := h
   exact ⟨cb, g, caps, ps, r, ag, hr, ah, aI, a_, bN, cQ, c5, fg, az _ _ _ ie⟩
 | shr bG =>
   obtain ⟨av, s1, ag, ah, aI, a_⟩ := h
   exact ⟨av, s1, ag, ah, aI, az _ _ _ a_⟩
 | _ =>
   obtain ⟨av, s1, ag, ah⟩ := h
   exact ⟨av, s1, ag, az _ _ _ ah⟩
theorem RL {s : ao} {o : b2} {K : fv → ao → Prop} {du : ao → Prop} (az : ∀ f s, K f s → du s) (h : oe C s o K) : lq C s o du := by
 unfold oe at h
 unfold lq
 split
 ·rename_i bT; rw [bT] at h; exact IU (fun _ _ _ => az _ _) h
 ·rename_i t b bT
  rw [bT] at h
  simp only at h
  split
  ·rename_i fJ ad
   rw [ad] at h
   simp only at h
   split
   ·rename_i ab; rw [if_pos ab] at h; exact IU (fun _ _ _ => az _ _) h
   ·rename_i ab; rw [if_neg ab] at h; exact az _ _ h
  ·rename_i ad; rw [ad] at h; exact az _ _ h
  ·rename_i ag ah
   split at h
   ·exact ag _ (by assumption)
   ·exact ah (by assumption)
   ·exact h
theorem rT {K : ao → Prop} : ∀ {ros : List b2} {s : ao} {acc : Option (List fv)} {du : Option (List fv) → ao → Prop}, (∀ a s, du a s → K s) → cI C s ros acc du → k9 C s ros K := by
 intro ros
 induction ros with
 | nil => intro s acc du az h; exact az _ _ h
 | cons o ros ih => intro s acc du az h; exact RL (fun f s h => ih az h) h
theorem IV {q : List Nat} {a d : I} (h : I.sub q a = some d) (cv : q ≠ [] ∨ d.ad = []) : a.ad = [] := by
 cases q with
 | nil =>
   simp only [I.sub, Option.some.injEq] at h; subst h
   exact cv.resolve_left (fun e => e rfl)
 | cons k q => cases a <;> first | rfl | (simp [I.sub] at h)
def y_ (s : ao) (p : cV) (e : I → Prop) : Prop := p.g = true → ∃ x q d, p.a = .h x q ∧ I.sub q (s x) = some d ∧ e d ∧ (p.o = .hole ∨ p.o.gz = true)
theorem IW {d : I} (h : d.gz = true) : d.ad = [] := Ic (qw h).2.1
theorem IX {d : I} (h : d.gz = true) : d.de.ad = [] := by cases d <;> first | rfl | (simp [I.gz] at h)
theorem IY {p : cV} {ps : List cV} (h : js (p :: ps) = true) : js ps = true ∧ ∀ cC ∈ ps, (p.g = true ∨ cC.g = true) → ∀ u ∈ p.a.ad, u ∉ cC.a.ad := by
 simp only [js, Bool.and_eq_true, List.all_eq_true, Bool.or_eq_true, Bool.not_eq_true'] at h
 refine ⟨h.2, fun cC eM bT u hu => ?_⟩
 rcases h.1 cC eM with e | e
 ·rcases bT with bT | bT <;> simp [bT] at e
 ·simpa using e u hu
def rU (ps : List cV) : List Nat := I.eE ((ps.filter (·.g)).map (·.a))
theorem tG (p : cV) (ps : List cV) : (∀ u ∈ rU ps, u ∈ rU (p :: ps)) ∧ (p.g = true → ∀ u ∈ p.a.ad, u ∈ rU (p :: ps)) := by
 unfold rU
 by_cases bT : p.g = true
 ·simp only [List.filter_cons, bT, if_true, List.map_cons, I.eE, List.mem_append]
  exact ⟨fun u h => .inr h, fun _ u h => .inl h⟩
 ·simp only [List.filter_cons, bT]
  exact ⟨fun u h => h, fun h => by simp at h⟩
theorem RM {p : cV} {ps : List cV} (h : p ∈ ps) : ∀ u ∈ p.a.ad, u ∈ I.eE (ps.map (·.a)) := by
 induction ps with
 | nil => cases h
 | cons cC ps ih =>
   intro u hu
   simp only [List.map_cons, I.eE, List.mem_append]
   rcases List.mem_cons.1 h with rfl | h
   ·exact .inl hu
   ·exact .inr (ih h u hu)
theorem RN : ∀ (ps : List cV) (s : ao), (∀ p ∈ ps, y_ s p (fun d => d = p.d ∧ p.d.gz = true)) → js ps = true →
  (∃ ms : List gR, (∀ m ∈ ms, m.x ∈ rU ps ∧ m.d.ad = []) ∧ ∀ aA, dJ (I.eE (ps.map (·.a))) aA s → fD aA ps = dy ms aA) ∧ ∀ p ∈ ps, y_ (fD s ps) p (fun d => d = p.d.de ∧ p.d.gz = true) := by
 intro ps
 induction ps with
 | nil => intro s _ _; exact ⟨⟨[], by simp, fun aA _ => rfl⟩, fun p ar => by cases ar⟩
 | cons p ps ih =>
   intro s bT kJ
   obtain ⟨n6, np⟩ := IY kJ
   by_cases lR : p.g = true
   ·obtain ⟨x, q, d, b_, ad, ⟨rfl, ai⟩, cg⟩ := bT p (by simp) lR
    have kF : (I.put q p.d.de (s x)).ad = [] := vW q _ _ _ ad (.inl (qw ai).1) fun _ => IX ai
    have wx : ∀ aA : ao, aA x = s x → p.take aA = dy [⟨.cd, x, I.put q p.d.de (s x)⟩] aA := by
     intro aA e
     simp only [cV.take, lR, if_true, b_, e, vT]
    have dQ : ∀ cC ∈ ps, ∀ dr jx, cC.a = .h dr jx → dr ≠ x := by
     intro cC eM dr jx e gI
     have := np cC eM (.inl lR) x (by simp [b_, I.ad])
     rw [e, gI] at this; simp [I.ad] at this
    have qx : ∀ dr, dr ≠ x → (s dr).ad = [] → dy [⟨.cd, x, I.put q p.d.de (s x)⟩] s dr = s dr := by
     intro dr ti bc
     simp only [dy, jY, gR.at]
     rw [if_neg ti]
     exact vV (.inr (by rw [bc]; simp))
    obtain ⟨⟨ms, m1, m2⟩, m3⟩ := ih (dy [⟨.cd, x, I.put q p.d.de (s x)⟩] s) (fun cC eM DX => by
     obtain ⟨dr, jx, bz, rL, fj, hp, wy⟩ := bT cC (by simp [eM]) DX
     refine ⟨dr, jx, bz, rL, ?_, hp, wy⟩
     rw [qx dr (dQ cC eM dr jx rL) (IV fj (.inr (by rw [hp.1]; exact IW hp.2)))]; exact fj) n6
    refine ⟨⟨[⟨.cd, x, I.put q p.d.de (s x)⟩] ++ ms, ?_, ?_⟩, ?_⟩
    ·intro m hm
     rcases List.mem_append.1 hm with hm | hm
     ·simp only [List.mem_singleton] at hm; subst hm
      exact ⟨(tG p ps).2 lR x (by simp [b_, I.ad]), kF⟩
     ·exact ⟨(tG p ps).1 _ (m1 m hm).1, (m1 m hm).2⟩
    ·intro aA fj
     simp only [List.map_cons, I.eE] at fj
     have e : aA x = s x := fj x (by simp [b_, I.ad])
     rw [lp]
     show fD (p.take aA) ps = _
     rw [wx aA e]
     exact m2 _ (dJ.dy fj.right _)
    ·have aS : fD s (p :: ps) = fD (dy [⟨.cd, x, I.put q p.d.de (s x)⟩] s) ps := by
      show fD (p.take s) ps = _
      rw [wx s rfl]
     rw [aS]
     intro cC eM
     rcases List.mem_cons.1 eM with rfl | eM
     ·intro _
      refine ⟨x, q, cC.d.de, b_, ?_, ⟨rfl, ai⟩, cg⟩
      have aN : dy [⟨.cd, x, I.put q cC.d.de (s x)⟩] s x = I.put q cC.d.de (s x) := by
       simp only [dy, jY, gR.at, if_true]
      rw [Dv (by rw [aN]; exact kF) (fun RO RP awO => ?_), aN]
      ·exact H_ q _ _ _ ad
      ·exact np RO RP (.inl lR) x (by simp [b_, I.ad])
     ·exact m3 cC eM
   ·have wx : ∀ aA : ao, p.take aA = aA := by intro aA; simp only [cV.take, lR]; rfl
    obtain ⟨⟨ms, m1, m2⟩, m3⟩ := ih s (fun cC eM => bT cC (by simp [eM])) n6
    refine ⟨⟨ms, fun m hm => ⟨(tG p ps).1 _ (m1 m hm).1, (m1 m hm).2⟩, ?_⟩, ?_⟩
    ·intro aA fj
     simp only [List.map_cons, I.eE] at fj
     show fD (p.take aA) ps = _
     rw [wx]; exact m2 aA fj.right
    ·intro cC eM
     have aS : fD s (p :: ps) = fD s ps := by show fD (p.take s) ps = _; rw [wx]
     rw [aS]
     rcases List.mem_cons.1 eM with rfl | eM
     ·intro h; exact (lR h).elim
     ·exact m3 cC eM
theorem RQ : ∀ (ps : List cV) (s : ao), (∀ p ∈ ps, y_ s p (fun d => d = p.d.de ∧ p.d.gz = true)) → js ps = true →
  (∃ ms : List gR, (∀ m ∈ ms, m.x ∈ rU ps ∧ m.d.ad = []) ∧ ∀ aA, dJ (I.eE (ps.map (·.a))) aA s → i7 aA ps = dy ms aA) := by
 intro ps
 induction ps with
 | nil => intro s _ _; exact ⟨[], by simp, fun aA _ => rfl⟩
 | cons p ps ih =>
   intro s bT kJ
   obtain ⟨n6, np⟩ := IY kJ
   by_cases lR : p.g = true ∧ p.o ≠ .hole
   ·obtain ⟨lR, RR⟩ := lR
    obtain ⟨x, q, d, b_, ad, ⟨rfl, ai⟩, cg⟩ := bT p (by simp) lR
    have cg : p.o.gz = true := cg.resolve_left RR
    have kF : (I.put q p.o (s x)).ad = [] := by
     cases q with
     | nil => simp only [I.put]; exact IW cg
     | cons k q => exact vW _ _ _ _ ad (.inr (by simp)) (by simp)
    have DY : ∀ aA : ao, aA x = s x → p.jr aA = dy [⟨.cS, x, I.put q p.o (s x)⟩] aA := by
     intro aA e
     simp only [cV.jr, lR, if_true, b_]
     rw [e, HS]
    have dQ : ∀ cC ∈ ps, ∀ dr jx, cC.a = .h dr jx → dr ≠ x := by
     intro cC eM dr jx e gI
     have := np cC eM (.inl lR) x (by simp [b_, I.ad])
     rw [e, gI] at this; simp [I.ad] at this
    obtain ⟨ms, m1, m2⟩ := ih (dy [⟨.cS, x, I.put q p.o (s x)⟩] s) (fun cC eM DX => by
     obtain ⟨dr, jx, bz, rL, fj, hp, wy⟩ := bT cC (by simp [eM]) DX
     refine ⟨dr, jx, bz, rL, ?_, hp, wy⟩
     have bc := IV fj (.inr (by rw [hp.1]; exact IX hp.2))
     have qx : dy [⟨.cS, x, I.put q p.o (s x)⟩] s dr = s dr := by
      simp only [dy, jY, gR.at]
      rw [if_neg (dQ cC eM dr jx rL)]
      exact vV (.inr (by rw [bc]; simp))
     rw [qx]; exact fj) n6
    refine ⟨[⟨.cS, x, I.put q p.o (s x)⟩] ++ ms, ?_, ?_⟩
    ·intro m hm
     rcases List.mem_append.1 hm with hm | hm
     ·simp only [List.mem_singleton] at hm; subst hm
      exact ⟨(tG p ps).2 lR x (by simp [b_, I.ad]), kF⟩
     ·exact ⟨(tG p ps).1 _ (m1 m hm).1, (m1 m hm).2⟩
    ·intro aA fj
     simp only [List.map_cons, I.eE] at fj
     have e : aA x = s x := fj x (by simp [b_, I.ad])
     rw [lp]
     show i7 (p.jr aA) ps = _
     rw [DY aA e]
     exact m2 _ (dJ.dy fj.right _)
   ·have DY : ∀ aA : ao, p.jr aA = aA := by
     intro aA
     unfold cV.jr
     split
     ·rename_i hO
      have : p.o = .hole := by
       by_cases h : p.o = .hole
       ·exact h
       ·exact (lR ⟨hO, h⟩).elim
      rw [this]
     ·rfl
    obtain ⟨ms, m1, m2⟩ := ih s (fun cC eM => bT cC (by simp [eM])) n6
    refine ⟨ms, fun m hm => ⟨(tG p ps).1 _ (m1 m hm).1, (m1 m hm).2⟩, ?_⟩
    intro aA fj
    simp only [List.map_cons, I.eE] at fj
    show i7 (p.jr aA) ps = _
    rw [DY]; exact m2 aA fj.right
theorem RS {s aA : ao} : ∀ (a : I) (d : I), dJ a.ad aA s → view s a = some d → view aA a = some d := by
 intro a d h
 have := Dy (s := s) (aA := aA) a d
 intro aN
 cases a with
 | h x q => simp only [view] at aN ⊢; rw [h x (by simp [I.ad])]; exact aN
 | ar x q => simp only [view] at aN ⊢; rw [h x (by simp [I.ad])]; exact aN
 | fn f cap =>
   refine this (fun u hu _ => h u hu) aN
 | _ => exact aN
theorem RT {p : cV} {s aA : ao} (h : dJ p.a.ad aA s) (gA : p.ok s) : p.ok aA := by
 unfold cV.ok at gA ⊢
 split
 ·rename_i bT
  rw [if_pos bT] at gA
  cases b_ : p.a with
  | h x q =>
    rw [b_] at gA
    simp only at gA ⊢
    rw [h x (by simp [b_, I.ad])]; exact gA
  | _ => rw [b_] at gA; exact gA.elim
 ·rename_i bT
  rw [if_neg bT] at gA
  exact RS _ _ h gA
def za (C : ck) (o : b2) (s : ao) (ku : fv) (ms : List gR) : Prop :=
 (∀ aA, dJ ku.bF aA s → ∀ K : ao → Prop, K (dy ms aA) → lq C aA o K) ∧ (∀ m ∈ ms, m.x ∈ ku.T ∧ ∀ u ∈ m.d.ad, u ∈ ku.H) ∧ (∀ u ∈ ku.bF, ∀ x ∈ (s u).ad, x ∈ ku.H) ∧ (ku.c = true → ∀ u ∈ ku.bF, (s u).clean = true)
theorem IZ (dst : Option Nat) (av : I) : ∃ ms : List gR, (∀ m ∈ ms, m.x ∈ dst.toList ∧ m.d = av) ∧ ∀ s1 : ao, fin s1 dst av = dy ms s1 := by
 cases dst with
 | none => exact ⟨[], by simp, fun s => rfl⟩
 | some t =>
   simp only [fin]
   by_cases h : av.plain = true
   ·exact ⟨[⟨.no, t, av⟩], by simp, fun s => by rw [if_pos h, Dh]⟩
   ·exact ⟨[⟨.cS, t, av⟩], by simp, fun s => by rw [if_neg h, HS]⟩
theorem zb {s : ao} {bF : List Nat} {dst : Option Nat} {cT : List Nat} {av : I} : (∀ u ∈ (ja s bF dst cT av).bF, ∀ x ∈ (s u).ad, x ∈ (ja s bF dst cT av).H) ∧ ((ja s bF dst cT av).c = true → ∀ u ∈ (ja s bF dst cT av).bF, (s u).clean = true) := by
 refine ⟨fun u hu x aq => ?_, fun aw => ?_⟩
 ·simp only [ja, List.mem_append, List.mem_flatMap]; exact .inl ⟨u, hu, aq⟩
 ·simp only [ja, List.all_eq_true] at aw; exact aw
theorem DZ {s : ao} {f : aF} {args : List aF} {K : List Nat → I → ao → Prop} (h : DW C s f args K) :
  ∃ cT av ms, K cT av (dy ms s) ∧ (∀ m ∈ ms, m.x ∈ cT ∧ m.d.ad = []) ∧ ∀ aA, dJ (use s (.call f args)) aA s → ∀ du : I → ao → Prop, du av (dy ms aA) → yY C aA f args du := by
 obtain ⟨g, caps, ps, r, ag, hr, ah, aI, a_, bN, cQ, c5, fg⟩ := h
 have RU : ∀ p ∈ ps, y_ s p (fun d => d = p.d ∧ p.d.gz = true) := by
  intro p ar bT
  have := aI p ar
  simp only [cV.ok, bT, if_true] at this
  cases b_ : p.a with
  | h x q => rw [b_] at this; exact ⟨x, q, p.d, rfl, this.1, ⟨rfl, this.2.1⟩, this.2.2.imp id fun h => h.1⟩
  | _ => rw [b_] at this; exact this.elim
 obtain ⟨⟨n5, U, a2⟩, a3⟩ := RN ps s RU a_
 obtain ⟨rJ, k3, iS⟩ := RQ ps (fD s ps) a3 a_
 have oX : ∀ u ∈ I.eE (ps.map (·.a)), u ∈ use s (.call f args) := by
  rw [ah]
  intro u hu
  simp only [use, List.mem_append]
  have key : ∀ (gQ l2 : List I), u ∈ I.eE (gQ ++ l2) → u ∈ I.eE gQ ∨ u ∈ I.eE l2 := by
   intro gQ
   induction gQ with
   | nil => intro l2 h; exact .inr h
   | cons a gQ ih =>
     intro l2 h
     simp only [List.cons_append, I.eE, List.mem_append] at h ⊢
     rcases h with h | h
     ·exact .inl (.inl h)
     ·exact (ih l2 h).imp .inr id
  rcases key _ _ hu with hu | hu
  ·exact .inr (aF.yT u hu)
  ·refine .inl (aF.rI u ?_)
   rw [ag]; exact hu
 have gv : i7 (fD s ps) ps = dy (n5 ++ rJ) s := by
  rw [lp, ← a2 s (fun _ _ => rfl), iS _ (fun _ _ => rfl)]
 refine ⟨rU ps, r, n5 ++ rJ, by rw [← gv]; exact fg, ?_, ?_⟩
 ·intro m hm
  rcases List.mem_append.1 hm with hm | hm
  ·exact U m hm
  ·exact k3 m hm
 ·intro aA ad du az
  have pI : dJ (I.eE (ps.map (·.a))) aA s := ad.sub oX
  have br : dJ (f.use s) aA s := by simp only [use] at ad; exact ad.left
  have aq : dJ (aF.nn s args) aA s := by simp only [use] at ad; exact ad.right
  have aS : i7 (fD aA ps) ps = dy (n5 ++ rJ) aA := by
   rw [lp, ← a2 aA pI, iS]
   rw [a2 aA pI, a2 s (fun _ _ => rfl)]
   exact dJ.dy pI _
  exact ⟨g, caps, ps, r, by rw [aF.fY br]; exact ag, hr, by rw [aF.Dl aq]; exact ah, fun p ar => RT (pI.sub (RM ar)) (aI p ar), a_, bN, cQ, c5, by rw [aS]; exact az⟩
mutual
theorem I0 {s aA : ao} : ∀ (d : I), dJ d.ad aA s → d.hP aA = d.hP s
 | .h x q, h => by simp only [I.hP]; rw [h x (by simp [I.ad])]
 | .ab x q, h => by simp only [I.hP]; rw [h x (by simp [I.ad])]
 | .fn f cap, h => by simp only [I.hP]; exact I1 cap (by simpa only [I.ad] using h)
 | .ar _ _, _ => by simp only [I.hP]
 | .hole, _ => by simp only [I.hP]
 | .bool _, _ => by simp only [I.hP]
 | .e_, _ => by simp only [I.hP]
 | .int _ _, _ => by simp only [I.hP]
 | .str _, _ => by simp only [I.hP]
 | .dv, _ => by simp only [I.hP]
 | .bp, _ => by simp only [I.hP]
 | .slice _, _ => by simp only [I.hP]
 | .aP _ _, _ => by simp only [I.hP]
 | .ref _, _ => by simp only [I.hP]
 | .a7 _, _ => by simp only [I.hP]
 | .agg _, _ => by simp only [I.hP]
 | .tuple _, _ => by simp only [I.hP]
theorem I1 {s aA : ao} : ∀ (ds : List I), dJ (I.eE ds) aA s → I.qz aA ds = I.qz s ds
 | [], _ => rfl
 | d :: ds, h => by
   simp only [I.eE] at h
   simp only [I.qz]; rw [I0 d h.left, I1 ds h.right]
end
theorem D0 {s aA : ao} {us : List Nat} (h : dJ (us.flatMap fun u => u :: (s u).ad) aA s) : lO aA us = lO s us := by
 unfold lO
 refine List.map_congr_left fun u hu => ?_
 rw [h u (List.mem_flatMap.2 ⟨u, hu, by simp⟩)]
theorem D1 {s aA : ao} : ∀ (L : List (Nat × I)), (∀ p ∈ L, dJ p.2.ad aA s) → o6 aA L = o6 s L
 | [], _ => rfl
 | p :: L, h => by
   simp only [o6]; rw [I0 p.2 (h p (by simp)), D1 L (fun q cv => h q (by simp [cv]))]
theorem I2 : ∀ (L : List (Nat × I)) (s : ao), pK s L = dy (L.map fun p => ⟨.no, p.1, p.2⟩) s
 | [], s => rfl
 | p :: L, s => by
   simp only [pK, List.map_cons]
   rw [I2 L, Dh]
   exact (lp [⟨.no, p.1, p.2⟩] _ s).symm
theorem RV {s : ao} {bG : fX} {K : List Nat → I → ao → Prop} (h : o_ C s bG K) :
  ∃ cT av ms, K cT av (dy ms s) ∧ (∀ m ∈ ms, m.x ∈ cT ∧ ∀ v ∈ m.d.ad, ∃ u ∈ use s bG, v ∈ (s u).ad) ∧ ∀ aA, dJ (use s bG) aA s → ∀ du : I → ao → Prop, du av (dy ms aA) → nr C aA bG du := by
 have plain : (∃ av s1, bI C s bG = some (av, s1) ∧ K (dt s bG) av s1) → (∀ aA (du : I → ao → Prop) av s1, bI C aA bG = some (av, s1) → du av s1 → nr C aA bG du) →
   ∃ cT av ms, K cT av (dy ms s) ∧ (∀ m ∈ ms, m.x ∈ cT ∧ ∀ v ∈ m.d.ad, ∃ u ∈ use s bG, v ∈ (s u).ad) ∧ ∀ aA, dJ (use s bG) aA s → ∀ du : I → ao → Prop, du av (dy ms aA) → nr C aA bG du := by
  rintro ⟨av, s1, ag, ah⟩ hw
  obtain ⟨ms, aS, aX, aQ⟩ := H8 ag
  subst aS
  exact ⟨_, av, ms, ah, fun m hm => ⟨(aX m hm).1, fun v aN => by rw [(aX m hm).2] at aN; cases aN⟩, fun aA ad du az => hw aA du av _ (aQ aA ad) az⟩
 cases bG with
 | call f args =>
   obtain ⟨cT, av, ms, U, a2, a3⟩ := DZ h
   exact ⟨cT, av, ms, U, fun m hm => ⟨(a2 m hm).1, fun v aN => by rw [(a2 m hm).2] at aN; cases aN⟩, fun aA ad du az => a3 aA ad du az⟩
 | l_ f args u x =>
   obtain ⟨bU, cb, aw⟩ := h
   obtain ⟨cT, av, ms, ⟨U, D2, RW⟩, a2, a3⟩ := DZ aw
   have e : ∀ s : ao, dw (dy ms s) u (.h x []) = dy (ms ++ [⟨.no, u, .h x []⟩]) s := fun s => by rw [lp, ← Dh]
   refine ⟨u :: cT, av, ms ++ [⟨.no, u, .h x []⟩], by rw [← e]; exact RW, ?_, ?_⟩
   ·intro m hm
    rcases List.mem_append.1 hm with hm | hm
    ·exact ⟨by simp [(a2 m hm).1], fun v aN => by rw [(a2 m hm).2] at aN; cases aN⟩
    ·simp only [List.mem_singleton] at hm; subst hm
     refine ⟨by simp, fun v aN => ⟨u, by simp [use], ?_⟩⟩
     rw [bU]; exact aN
   ·intro aA ad du az
    have I3 : aA u = s u := ad u (by simp [use])
    have ex : aA x = s x := ad x (by simp [use])
    refine ⟨by rw [I3]; exact bU, by rw [ex]; exact cb, a3 aA (fun y bt => ad y (by simp only [use, List.mem_cons] at bt ⊢; exact .inr (.inr bt))) _ ⟨?_, ?_, ?_⟩⟩
    ·have := U; simp only [dy] at this ⊢; rw [I3]; exact this
    ·have := D2; simp only [dy] at this ⊢; rw [ex]; exact this
    ·rw [e]; exact az
 | ma f args us =>
   obtain ⟨cb, aw⟩ := h
   obtain ⟨cT, av, ms, ⟨U, D2⟩, a2, a3⟩ := DZ aw
   have e : ∀ aA : ao, pK (dy ms aA) (lO s us) = dy (ms ++ (lO s us).map fun p => ⟨.no, p.1, p.2⟩) aA := fun aA => by rw [lp, I2]
   have jW : ∀ {aA : ao}, dJ (us.flatMap fun u => u :: (s u).ad) aA s → ∀ p ∈ lO s us, dJ p.2.ad aA s := fun {aA} ad p ar v aN => by
    obtain ⟨u, hu, rfl⟩ := List.mem_map.1 ar
    exact ad v (List.mem_flatMap.2 ⟨u, hu, by simp [aN]⟩)
   refine ⟨us ++ cT, av, ms ++ (lO s us).map fun p => ⟨.no, p.1, p.2⟩, by rw [← e]; exact D2, ?_, ?_⟩
   ·intro m hm
    rcases List.mem_append.1 hm with hm | hm
    ·exact ⟨by simp [(a2 m hm).1], fun v aN => by rw [(a2 m hm).2] at aN; cases aN⟩
    ·obtain ⟨p, ar, rfl⟩ := List.mem_map.1 hm
     obtain ⟨u, hu, rfl⟩ := List.mem_map.1 ar
     exact ⟨List.mem_append_left _ hu, fun v aN => ⟨u, by simp only [use, List.mem_append, List.mem_flatMap]; exact .inl ⟨u, hu, by simp⟩, aN⟩⟩
   ·intro aA ad du az
    simp only [use] at ad
    refine ⟨by rw [D0 ad.left, D1 _ (jW ad.left)]; exact cb, a3 aA ad.right _ ⟨?_, ?_⟩⟩
    ·rw [D0 ad.left, D1 _ (fun p ar => (jW ad.left p ar).dy ms)]; exact U
    ·rw [D0 ad.left, e]; exact az
 | shr bG =>
   obtain ⟨av, s1, ag, ah, aI, a_⟩ := h
   obtain ⟨ms, aS, aX, aQ⟩ := H8 ag
   subst aS
   exact ⟨_, av.share, ms, a_, fun m hm => ⟨(aX m hm).1, fun v aN => by rw [(aX m hm).2] at aN; cases aN⟩, fun aA ad du az => ⟨av, _, aQ aA ad, ah, aI, az⟩⟩
 | _ => exact plain h (fun aA du av s1 ag ah => ⟨av, s1, ag, ah⟩)
theorem RX {s : ao} {o : b2} {K : fv → ao → Prop} (h : oe C s o K) : ∃ ku ms, K ku (dy ms s) ∧ za C o s ku ms := by
 have op : ∀ (bF : List Nat), (∀ u ∈ use s o.bG, u ∈ bF) → (∀ aA, dJ bF aA s → ∀ du : ao → Prop, nr C aA o.bG (fun av s1 => du (fin s1 o.dst av)) → lq C aA o du) →
   o_ C s o.bG (fun cT av s1 => K (ja s bF o.dst cT av) (fin s1 o.dst av)) → ∃ ku ms, K ku (dy ms s) ∧ za C o s ku ms := by
  intro bF oX mz hw
  obtain ⟨cT, av, ms, ag, ah, aI⟩ := RV hw
  obtain ⟨kK, nu, b0⟩ := IZ o.dst av
  refine ⟨ja s bF o.dst cT av, ms ++ kK, ?_, ?_, ?_, zb.1, zb.2⟩
  ·rw [lp, ← b0]; exact ag
  ·intro aA ad du az
   refine mz aA ad du (aI aA (ad.sub oX) _ ?_)
   rw [b0, ← lp]; exact az
  ·intro m hm
   simp only [ja, List.mem_append]
   rcases List.mem_append.1 hm with hm | hm
   ·refine ⟨.inr (ah m hm).1, fun v aN => .inl ?_⟩
    obtain ⟨u, hu, lF⟩ := (ah m hm).2 v aN
    exact List.mem_flatMap.2 ⟨u, oX u hu, lF⟩
   ·exact ⟨.inl (nu m hm).1, fun u hu => .inr (by rw [(nu m hm).2] at hu; exact hu)⟩
 have skip : ∀ t, (∀ aA, dJ [t] aA s → ∀ du : ao → Prop, du (fin aA o.dst (.tuple [])) → lq C aA o du) → K (ja s [t] o.dst [] (.tuple [])) (fin s o.dst (.tuple [])) → ∃ ku ms, K ku (dy ms s) ∧ za C o s ku ms := by
  intro t mz az
  obtain ⟨kK, nu, b0⟩ := IZ o.dst (.tuple [])
  refine ⟨_, kK, by rw [← b0]; exact az, ?_, ?_, zb.1, zb.2⟩
  ·intro aA ad du kI
   exact mz aA ad du (by rw [b0]; exact kI)
  ·intro m hm
   simp only [ja, List.mem_append]
   exact ⟨.inl (nu m hm).1, fun u hu => by rw [(nu m hm).2] at hu; simp [I.ad] at hu⟩
 unfold oe at h
 split at h
 ·rename_i bT
  exact op _ (fun _ h => h) (fun aA _ du hw => by unfold lq; rw [bT]; exact hw) h
 ·rename_i t b bT
  split at h
  ·rename_i fJ ab
   split at h
   ·rename_i e
    refine op (t :: use s o.bG) (fun u hu => by simp [hu]) (fun aA ad du hw => ?_) h
    have : aA t = s t := ad t (by simp)
    unfold lq
    rw [bT]
    simp only [this, ab, if_pos e]
    exact hw
   ·rename_i e
    refine skip t (fun aA ad du az => ?_) h
    have : aA t = s t := ad t (by simp)
    unfold lq
    rw [bT]
    simp only [this, ab, if_neg e]
    exact az
  ·rename_i ab
   refine skip t (fun aA ad du az => ?_) h
   have : aA t = s t := ad t (by simp)
   unfold lq
   rw [bT]
   simp only [this, ab]
   exact az
  ·exact h.elim
def qF (C : ck) (ros : List b2) : ao → List (Nat × fv × List gR) → Prop
 | _, [] => True
 | s, e :: r => (∃ o, ros[e.1]? = some o ∧ za C o s e.2.1 e.2.2) ∧ qF C ros (dy e.2.2 s) r
def og (s : ao) (r : List (Nat × fv × List gR)) : ao := r.foldl (fun s e => dy e.2.2 s) s
def nh (a b : List Nat) : Bool := a.all fun x => !b.contains x
theorem tH {a b : List Nat} (h : nh a b = true) : ∀ x ∈ a, x ∉ b := by
 intro x aq
 simp only [nh, List.all_eq_true] at h
 simpa using h x aq
def rV (a b : fv) : Bool := nh b.T a.bF && nh b.T a.H && nh b.T a.T && nh a.T b.bF && nh a.T b.H && b.c
theorem RY {ros : List b2} {s : ao} {a b : Nat × fv × List gR} {r : List (Nat × fv × List gR)} (h : qF C ros s (a :: b :: r)) (al : rV a.2.1 b.2.1 = true) :
  qF C ros s (b :: a :: r) ∧ og s (b :: a :: r) = og s (a :: b :: r) := by
 obtain ⟨⟨RZ, b_, U, a2, a3, a4⟩, ⟨R0, ab, k3, iS, kr, bA⟩, aV⟩ := h
 simp only [rV, Bool.and_eq_true] at al
 obtain ⟨⟨⟨⟨⟨yt, i2⟩, i3⟩, i4⟩, i5⟩, Cs⟩ := al
 have D3 : ∀ u ∈ b.2.1.bF, dy a.2.2 s u = s u := by
  intro u hu
  refine RH _ _ _ (fun m hm e => ?_) (bA Cs u hu)
  exact tH i4 m.x (a2 m hm).1 (e ▸ hu)
 have D4 : ∀ u ∈ a.2.1.bF, dy b.2.2 s u = s u := by
  intro u hu
  refine RI _ _ _ fun m hm => ⟨fun e => ?_, fun aq => ?_⟩
  ·exact tH yt m.x (iS m hm).1 (e ▸ hu)
  ·exact tH i2 m.x (iS m hm).1 (a3 u hu _ aq)
 have I4 : dy b.2.2 (dy a.2.2 s) = dy a.2.2 (dy b.2.2 s) := by
  refine RK _ _ _ fun m hm n aY => ⟨fun e => ?_, fun h => ?_, fun h => ?_⟩
  ·exact tH i3 n.x (iS n aY).1 (e ▸ (a2 m hm).1)
  ·exact tH i2 n.x (iS n aY).1 ((a2 m hm).2 _ h)
  ·exact tH i5 m.x (a2 m hm).1 ((iS n aY).2 _ h)
 refine ⟨⟨⟨R0, ab, ?_, iS, ?_, ?_⟩, ⟨RZ, b_, ?_, a2, ?_, ?_⟩, ?_⟩, ?_⟩
 ·intro aA ad K az
  exact k3 aA (fun u hu => (ad u hu).trans (D3 u hu).symm) K az
 ·intro u hu x aq
  exact kr u hu x (by rw [D3 u hu]; exact aq)
 ·intro aw u hu
  have := bA aw u hu
  rwa [D3 u hu] at this
 ·intro aA ad K az
  exact U aA (fun u hu => (ad u hu).trans (D4 u hu)) K az
 ·intro u hu x aq
  rw [D4 u hu] at aq
  exact a3 u hu x aq
 ·intro aw u hu
  rw [D4 u hu]
  exact a4 aw u hu
 ·rw [← I4]; exact aV
 ·simp only [og, List.foldl_cons]
  rw [I4]
theorem R1 {ros : List b2} {e : Nat × fv × List gR} {post : List (Nat × fv × List gR)} : ∀ (pre : List (Nat × fv × List gR)) (s : ao), qF C ros s (pre ++ e :: post) → (∀ a ∈ pre, rV a.2.1 e.2.1 = true) →
  qF C ros s (e :: (pre ++ post)) ∧ og s (e :: (pre ++ post)) = og s (pre ++ e :: post) := by
 intro pre
 induction pre with
 | nil => intro s h _; exact ⟨h, rfl⟩
 | cons a pre ih =>
   intro s h al
   obtain ⟨ag, ah⟩ := h
   obtain ⟨g1, g2⟩ := ih _ ah fun b ab => al b (by simp [ab])
   have aw : qF C ros s (a :: e :: (pre ++ post)) := ⟨ag, g1⟩
   obtain ⟨bU, cb⟩ := RY aw (al a (by simp))
   refine ⟨bU, cb.trans ?_⟩
   simp only [og, List.foldl_cons, List.cons_append] at g2 ⊢
   exact g2
end
def wz : List (List Nat) → List (List Nat) → List (List Nat)
 | done, [] => done
 | done, a :: r => wz (done ++ [a ++ a.flatMap fun e => (done[e]?).getD []]) r
def rW (gB : List (List Nat)) : List (List Nat) := wz [] gB
theorem R2 {gB : List (List Nat)} {l : List Nat} (aR : ∀ u i v, l = u ++ i :: v → ∀ e ∈ (gB[i]?).getD [], e ∈ u) : ∀ (rest pre done : List (List Nat)), gB = pre ++ rest → done.length = pre.length →
  (∀ u i v, l = u ++ i :: v → ∀ e ∈ (done[i]?).getD [], e ∈ u) → ∀ u i v, l = u ++ i :: v → ∀ e ∈ ((wz done rest)[i]?).getD [], e ∈ u := by
 intro rest
 induction rest with
 | nil => intro pre done _ _ h; exact h
 | cons a rest ih =>
   intro pre done I5 hlen h
   simp only [wz]
   refine ih (pre ++ [a]) _ (by simp [I5]) (by simp [hlen]) ?_
   intro u i v hu e he
   by_cases al : i < done.length
   ·rw [List.getElem?_append_left al] at he
    exact h u i v hu e he
   ·rw [List.getElem?_append_right (by omega)] at he
    by_cases HQ : i - done.length = 0
    ·rw [HQ] at he
     simp only [List.getElem?_cons_zero, Option.getD_some, List.mem_append, List.mem_flatMap] at he
     have zc : (gB[i]?).getD [] = a := by
      have : i = pre.length := by omega
      rw [I5, this, List.getElem?_append_right (Nat.le_refl _)]; simp
     rcases he with he | ⟨gI, mH, he⟩
     ·exact aR u i v hu e (by rw [zc]; exact he)
     ·have vX := aR u i v hu gI (by rw [zc]; exact mH)
      obtain ⟨qu, yR, rfl⟩ := List.append_of_mem vX
      have := h qu gI (yR ++ i :: v) (by rw [hu]; simp) e he
      simp [this]
    ·rw [List.getElem?_eq_none (by simp; omega)] at he
     simp at he
theorem R3 {gB : List (List Nat)} {l : List Nat} (aR : ∀ u i v, l = u ++ i :: v → ∀ e ∈ (gB[i]?).getD [], e ∈ u) : ∀ u i v, l = u ++ i :: v → ∀ e ∈ ((rW gB)[i]?).getD [], e ∈ u :=
 R2 aR gB [] [] rfl rfl fun u i v _ e he => by simp at he
def lS (mh : List (List Nat)) : Nat → List (Nat × fv) → List fv → Bool
 | _, _, [] => true
 | j, es, f :: ax => (es.all fun e => ((mh[j]?).getD []).contains e.1 || rV e.2 f) && lS mh (j + 1) ((j, f) :: es) ax
def D5 (mh : List (List Nat)) (a b : Nat × fv × List gR) : Prop := a.1 ∈ (mh[b.1]?).getD [] ∨ rV a.2.1 b.2.1 = true
theorem R4 {mh : List (List Nat)} : ∀ (ht : List (Nat × fv × List gR)) (j : Nat) (es : List (Nat × fv)), ht.map (·.1) = (List.range ht.length).map (· + j) → lS mh j es (ht.map (·.2.1)) = true →
  ht.Pairwise (D5 mh) ∧ ∀ e ∈ es, ∀ b ∈ ht, e.1 ∈ (mh[b.1]?).getD [] ∨ rV e.2 b.2.1 = true := by
 intro ht
 induction ht with
 | nil => intro j es _ _; exact ⟨.nil, fun e _ b ab => by cases ab⟩
 | cons a ht ih =>
   intro j es rX gA
   rw [List.length_cons, List.range_succ_eq_map, List.map_cons, List.map_cons, List.map_map] at rX
   simp only [List.cons.injEq, Nat.zero_add] at rX
   obtain ⟨b3, rX⟩ := rX
   simp only [List.map_cons, lS, Bool.and_eq_true, List.all_eq_true, Bool.or_eq_true] at gA
   obtain ⟨ag, ah⟩ := gA
   obtain ⟨g1, g2⟩ := ih (j + 1) _ (by rw [rX]; congr 1; funext x; simp; omega) ah
   refine ⟨.cons (fun b ab => ?_) g1, fun e he b ab => ?_⟩
   ·have := g2 (j, a.2.1) (by simp) b ab
    simp only [D5, b3]; exact this
   ·rcases List.mem_cons.1 ab with rfl | ab
    ·rw [b3]
     exact (ag e he).imp (fun h => by simpa using h) id
    ·exact g2 e (by simp [he]) b ab
section
variable {C : ck}
theorem R5 {K : Option (List fv) → ao → Prop} : ∀ (os pre : List b2) (s : ao) (acc : List fv), cI C s os (some acc) K →
  ∃ ht, qF C (pre ++ os) s ht ∧ ht.map (·.1) = (List.range os.length).map (· + pre.length) ∧ K (some ((ht.map (·.2.1)).reverse ++ acc)) (og s ht) := by
 intro os
 induction os with
 | nil => intro pre s acc h; exact ⟨[], trivial, rfl, h⟩
 | cons o os ih =>
   intro pre s acc h
   obtain ⟨ku, ms, ag, ah⟩ := RX h
   obtain ⟨ht, g1, g2, g3⟩ := ih (pre ++ [o]) _ (ku :: acc) ag
   refine ⟨(pre.length, ku, ms) :: ht, ⟨⟨o, ?_, ah⟩, ?_⟩, ?_, ?_⟩
   ·rw [List.getElem?_append_right (Nat.le_refl _)]; simp
   ·simpa using g1
   ·rw [List.length_cons, List.range_succ_eq_map, List.map_cons, List.map_cons, List.map_map, g2]
    simp only [List.cons.injEq, Nat.zero_add, true_and]
    congr 1; funext x; simp; omega
   ·simpa [og] using g3
theorem R6 {ros : List b2} {mh : List (List Nat)} {K : ao → Prop} : ∀ (l : List Nat) (ht : List (Nat × fv × List gR)) (s : ao), qF C ros s ht → ht.Pairwise (D5 mh) → l.Nodup → (ht.map (·.1)).Nodup →
  (∀ i, i ∈ l ↔ i ∈ ht.map (·.1)) → (∀ u i v, l = u ++ i :: v → ∀ e ∈ (mh[i]?).getD [], e ∈ ht.map (·.1) → e ∈ u) → K (og s ht) → jZ C ros s l K := by
 intro l
 induction l with
 | nil =>
   intro ht s _ _ _ _ hm _ az
   cases ht with
   | nil => exact az
   | cons e ht => have := (hm e.1).2 (by simp); cases this
 | cons i l ih =>
   intro ht s aw ar aY vQ hm cg az
   obtain ⟨e, he, al⟩ := List.mem_map.1 ((hm i).1 (by simp))
   obtain ⟨pre, post, rfl⟩ := List.append_of_mem he
   have R7 : ∀ a ∈ pre, rV a.2.1 e.2.1 = true := by
    intro a b_
    have aV := (List.pairwise_append.1 ar).2.2 a b_ e (by simp)
    rcases aV with aV | aV
    ·rw [al] at aV
     have := cg [] i l rfl a.1 aV (by simp only [List.map_append, List.mem_append, List.mem_map]; exact .inl ⟨a, b_, rfl⟩)
     cases this
    ·exact aV
   obtain ⟨g1, g2⟩ := R1 pre s aw R7
   obtain ⟨⟨o, R8, zd⟩, g3⟩ := g1
   have I6 : i ∉ (pre ++ post).map (·.1) := by
    have : (pre.map (·.1) ++ e.1 :: post.map (·.1)).Nodup := by simpa using vQ
    have bx := (List.perm_middle.nodup_iff.1 this)
    rw [List.nodup_cons] at bx
    rw [← al]; simpa using bx.1
   simp only [jZ]
   rw [← al, R8]
   refine zd.1 s (fun _ _ => rfl) _ ?_
   rw [List.nodup_cons] at aY
   refine ih (pre ++ post) _ g3 ?_ aY.2 ?_ ?_ ?_ ?_
   ·exact ar.sublist ((List.Sublist.refl pre).append (List.sublist_cons_self e post))
   ·have : (pre.map (·.1) ++ e.1 :: post.map (·.1)).Nodup := by simpa using vQ
    have bx := (List.perm_middle.nodup_iff.1 this)
    rw [List.nodup_cons] at bx
    simpa using bx.2
   ·intro j
    constructor
    ·intro b3
     have ag := (hm j).1 (by simp [b3])
     simp only [List.map_append, List.map_cons, List.mem_append, List.mem_cons] at ag ⊢
     rcases ag with ag | rfl | ag
     ·exact .inl ag
     ·exact (aY.1 (al ▸ b3)).elim
     ·exact .inr ag
    ·intro b3
     have ag := (hm j).2 (by
      simp only [List.map_append, List.map_cons, List.mem_append, List.mem_cons] at b3 ⊢
      exact b3.imp id .inr)
     rcases List.mem_cons.1 ag with rfl | ag
     ·exact (I6 b3).elim
     ·exact ag
   ·intro u j v hu x aq D6
    have ag := cg (i :: u) j v (by rw [hu]; rfl) x aq (by
     simp only [List.map_append, List.map_cons, List.mem_append, List.mem_cons] at D6 ⊢
     exact D6.imp id .inr)
    rcases List.mem_cons.1 ag with rfl | ag
    ·exact (I6 D6).elim
    ·exact ag
   ·have : og s (e :: (pre ++ post)) = og (dy e.2.2 s) (pre ++ post) := rfl
    rw [← this, g2]; exact az
theorem I7 {ros : List b2} {gB : List (List Nat)} {s : ao} {K : ao → Prop} (hlen : gB.length = ros.length)
  (h : cI C s ros (some []) (fun acc s => lS (rW gB) 0 [] (acc.getD []).reverse = true ∧ K s)) : ∀ l, DI gB l → jZ C ros s l K := by
 intro l ⟨gQ, l2, v7⟩
 obtain ⟨ht, g1, g2, g3, g4⟩ := R5 ros [] s [] h
 simp only [List.nil_append, List.append_nil, List.length_nil, Option.getD_some, List.reverse_reverse] at g1 g2 g3
 have aR : ht.length = ros.length := by have := congrArg List.length g2; simpa using this
 have rX : ht.map (·.1) = (List.range ht.length).map (· + 0) := by rw [g2, aR]
 have aV : ht.map (·.1) = List.range ros.length := by rw [g2]; simp
 obtain ⟨fp, _⟩ := R4 ht 0 [] rX g3
 refine R6 l ht s g1 fp gQ (by rw [aV]; exact List.nodup_range) (fun i => ?_) (fun u i v hu e he _ => R3 v7 u i v hu e he) g4
 rw [aV, l2, hlen, List.mem_range]
end
def dO (C : ck) (dst : Option Nat) (os : List b2) (K : Option (List fv) → ao → Prop) : Option (I × ao) → Prop
 | some (av, s1) => cI C (fin s1 dst av) os none K
 | none => False
def dP (C : ck) (l : List (Nat × I)) (bF cT : List Nat) (dst : Option Nat) (os : List b2) (a : List fv) (K : Option (List fv) → ao → Prop) : Option (I × ao) → Prop
 | some (av, s1) => cI C (fin s1 dst av) os (some (ja (aa l) bF dst cT av :: a)) K
 | none => False
def cz (C : ck) (l : List (Nat × I)) (dst : Option Nat) (bG : fX) (t : Nat) (b : Bool) (os : List b2) (acc : Option (List fv)) (K : Option (List fv) → ao → Prop) : I → Prop
 | .bool fJ => if fJ = b then o_ C (aa l) bG (fun cT av s1 => cI C (fin s1 dst av) os (qE acc (ja (aa l) (t :: use (aa l) bG) dst cT av)) K) else cI C (fin (aa l) dst (.tuple [])) os (qE acc (ja (aa l) [t] dst [] (.tuple []))) K
 | .tuple [] => cI C (fin (aa l) dst (.tuple [])) os (qE acc (ja (aa l) [t] dst [] (.tuple []))) K
 | _ => False
section
variable {C : ck} {l : List (Nat × I)} {os : List b2} {K : Option (List fv) → ao → Prop} {dst : Option Nat} {a : List fv} {acc : Option (List fv)}
theorem ze {s : ao} {bG : fX} {K : List Nat → I → ao → Prop} (aY : bG.rR = false) : o_ C s bG K = (match bI C s bG with
  | some (av, s1) => K (dt s bG) av s1
  | none => False) := by
 apply propext
 constructor
 ·intro h
  cases bG <;> first
   | (simp [fX.rR] at aY; done)
   | (obtain ⟨av, s1, ag, ah⟩ := h; rw [ag]; exact ah)
 ·intro h
  split at h
  ·rename_i av s1 he
   cases bG <;> first
    | (simp [fX.rR] at aY; done)
    | exact ⟨av, s1, he, h⟩
  ·exact h.elim
theorem I8 : cI C (aa l) [] acc K = K acc (aa l) := rfl
theorem jK {bG : fX} (aY : bG.rR = false) : cI C (aa l) (⟨dst, bG, none⟩ :: os) none K = dO C dst os K (bI C (aa l) bG) := by
 simp only [cI, oe, qE]
 rw [ze aY]
 cases bI C (aa l) bG with
 | none => rfl
 | some p => rfl
theorem jL {bG : fX} (aY : bG.rR = false) : cI C (aa l) (⟨dst, bG, none⟩ :: os) (some a) K = dP C l (use (aa l) bG) (dt (aa l) bG) dst os a K (bI C (aa l) bG) := by
 simp only [cI, oe, qE]
 rw [ze aY]
 cases bI C (aa l) bG with
 | none => rfl
 | some p => rfl
theorem I9 {bG : fX} {t : Nat} {b : Bool} : cI C (aa l) (⟨dst, bG, some (t, b)⟩ :: os) acc K = cz C l dst bG t b os acc K (aa l t) := by
 simp only [cI, oe]
 generalize aa l t = v
 cases v <;> first | rfl | (rename_i vs; cases vs <;> rfl)
theorem fE {bG : fX} {t : Nat} {b : Bool} (aY : bG.rR = false) : cz C l dst bG t b os none K (.bool b) = dO C dst os K (bI C (aa l) bG) := by
 simp only [cz, if_true]
 rw [ze aY]
 cases bI C (aa l) bG with
 | none => rfl
 | some p => rfl
theorem fF {bG : fX} {t : Nat} {b : Bool} (aY : bG.rR = false) : cz C l dst bG t b os (some a) K (.bool b) = dP C l (t :: use (aa l) bG) (dt (aa l) bG) dst os a K (bI C (aa l) bG) := by
 simp only [cz, if_true]
 rw [ze aY]
 cases bI C (aa l) bG with
 | none => rfl
 | some p => rfl
theorem R9 {bG : fX} {t : Nat} : cz C l dst bG t true os none K (.bool false) = cI C (fin (aa l) dst (.tuple [])) os none K ∧ cz C l dst bG t false os none K (.bool true) = cI C (fin (aa l) dst (.tuple [])) os none K ∧
  (∀ b, cz C l dst bG t b os none K (.tuple []) = cI C (fin (aa l) dst (.tuple [])) os none K) := ⟨rfl, rfl, fun _ => rfl⟩
theorem R_ {bG : fX} {t : Nat} : cz C l dst bG t true os (some a) K (.bool false) = cI C (fin (aa l) dst (.tuple [])) os (some (ja (aa l) [t] dst [] (.tuple []) :: a)) K ∧
  cz C l dst bG t false os (some a) K (.bool true) = cI C (fin (aa l) dst (.tuple [])) os (some (ja (aa l) [t] dst [] (.tuple []) :: a)) K ∧
  (∀ b, cz C l dst bG t b os (some a) K (.tuple []) = cI C (fin (aa l) dst (.tuple [])) os (some (ja (aa l) [t] dst [] (.tuple []) :: a)) K) := ⟨rfl, rfl, fun _ => rfl⟩
theorem Sa (av : I) (s1 : ao) : dO C dst os K (some (av, s1)) = cI C (fin s1 dst av) os none K := rfl
theorem Sb (bF cT : List Nat) (av : I) (s1 : ao) : dP C l bF cT dst os a K (some (av, s1)) = cI C (fin s1 dst av) os (some (ja (aa l) bF dst cT av :: a)) K := rfl
def jA (s : ao) : I → Option (I × ao)
 | .h y q => cT s (.h y q)
 | d => some (d, s)
def qG (s : ao) : I → I → I → Option (I × ao)
 | .bool fJ, x, y => some (if fJ then x else y, s)
 | _, _, _ => none
def c9 (s : ao) : Option I → Option (I × ao)
 | some d => some (d, s)
 | none => none
def gn : Option ao → Option (I × ao)
 | some s1 => some (.hole, s1)
 | none => none
def jb (s : ao) : List aF → List I
 | [] => []
 | x :: xs => aK s x :: jb s xs
def ke (s : ao) : List (Nat × aF) → List (Nat × I)
 | [] => []
 | (k, x) :: xs => (k, aK s x) :: ke s xs
def la (s : ao) : Option aF → Option I
 | none => none
 | some x => some (aK s x)
theorem nv (s : ao) (x : Option I) : (x.map fun d => (d, s)) = c9 s x := by cases x <;> rfl
theorem Sc (x : Option ao) : (x.map fun s1 => (I.hole, s1)) = gn x := by cases x <;> rfl
theorem zf (s : ao) : ∀ xs : List aF, xs.map (aK s) = jb s xs
 | [] => rfl
 | x :: xs => by simp only [List.map_cons, jb, zf s xs]
theorem D7 (s : ao) : ∀ xs : List (Nat × aF), (xs.map fun p => (p.1, aK s p.2)) = ke s xs
 | [] => rfl
 | (k, x) :: xs => by simp only [List.map_cons, ke, D7 s xs]
theorem Sd (s : ao) (x : Option aF) : x.map (aK s) = la s x := by cases x <;> rfl
theorem tI (x : aF) : bI C (aa l) (.cj x) = some (aK (aa l) x, aa l) := by
 rfl
theorem tJ (x : aF) : bI C (aa l) (.fN x) = jA (aa l) (aK (aa l) x) := by
 simp only [bI]; cases aK (aa l) x <;> rfl
theorem tK (c x y : aF) : bI C (aa l) (.pick c x y) = qG (aa l) (aK (aa l) c) (aK (aa l) x) (aK (aa l) y) := by
 simp only [bI]; cases aK (aa l) c <;> first | rfl | (rename_i b; cases b <;> rfl)
theorem tL (T : TypeId) : bI C (aa l) (.gL T) = c9 (aa l) (gL C T) := by
 simp only [bI, nv]
theorem tM (T : TypeId) (x : aF) : bI C (aa l) (.cU T x) = cU (aa l) (aK (aa l) x) := by
 rfl
theorem tN (T : TypeId) (ps : List (Nat × aF)) : bI C (aa l) (.fM T ps) = fM C (aa l) T (ke (aa l) ps) := by
 simp only [bI, D7]
theorem tO (T : TypeId) (n : Nat) (ps : List (Nat × aF)) : bI C (aa l) (.eD T n ps) = eD C (aa l) T n (ke (aa l) ps) := by
 simp only [bI, D7]
theorem tP (T : TypeId) (x : aF) : bI C (aa l) (.b4 T x) = c9 (aa l) (b4 C (aa l) T (aK (aa l) x)) := by
 simp only [bI, nv]
theorem tQ (T : TypeId) (x y : aF) : bI C (aa l) (.fU T x y) = gn (fU C (aa l) T (aK (aa l) x) (aK (aa l) y)) := by
 simp only [bI, Sc]
theorem tR (x : aF) : bI C (aa l) (.fC x) = c9 (aa l) (fC (aa l) (aK (aa l) x)) := by
 simp only [bI, nv]
theorem tS (op : BinOp) (T : TypeId) (x y : aF) : bI C (aa l) (.b1 op T x y) = c9 (aa l) (b1 C (aa l) op T (aK (aa l) x) (aK (aa l) y)) := by
 simp only [bI, nv]
theorem tT (op : UnOp) (x : aF) : bI C (aa l) (.un op x) = c9 (aa l) (un op (aK (aa l) x)) := by
 simp only [bI, nv]
theorem tU (A B : TypeId) (x : aF) : bI C (aa l) (.fW A B x) = c9 (aa l) (fW C (aa l) A B (aK (aa l) x)) := by
 simp only [bI, nv]
theorem tV (f : FuncId) (cs : List aF) : bI C (aa l) (.il f cs) = some (.fn f (jb (aa l) cs), aa l) := by
 simp only [bI, zf]
theorem tW (T : TypeId) (x y : aF) : bI C (aa l) (.er T x y) = c9 (aa l) (er C T (aK (aa l) x) (aK (aa l) y)) := by
 simp only [bI, nv]
theorem tX (T : TypeId) (x : aF) (dc al : Option aF) : bI C (aa l) (.fl T x dc al) = fl C (aa l) T (aK (aa l) x) (la (aa l) dc) (la (aa l) al) := by
 simp only [bI, Sd]
theorem tY (T : TypeId) (x : aF) (k : Nat) : bI C (aa l) (.cB T x k) = c9 (aa l) (cB C (aa l) T (aK (aa l) x) k) := by
 simp only [bI, nv]
theorem tZ (T : TypeId) (x y : aF) : bI C (aa l) (.e6 T x y) = c9 (aa l) (e6 C (aa l) T (aK (aa l) x) (aK (aa l) y)) := by
 simp only [bI, nv]
theorem t_ (T : TypeId) (x y : aF) : bI C (aa l) (.idx T x y) = c9 (aa l) (idx C T (aK (aa l) x) (aK (aa l) y)) := by
 simp only [bI, nv]
theorem ua (x : aF) (k : Nat) : bI C (aa l) (.ex x k) = c9 (aa l) (ex (aa l) (aK (aa l) x) k) := by
 simp only [bI, nv]
theorem ub (T : TypeId) (x : aF) : bI C (aa l) (.len T x) = c9 (aa l) (lJ C (aa l) T (aK (aa l) x)) := by
 simp only [bI, nv]
theorem uc (T bF : TypeId) (x y : aF) : bI C (aa l) (.app T bF x y) = lL C (aa l) T bF (aK (aa l) x) (aK (aa l) y) := by
 rfl
theorem Se :
  (∀ (x : aF) , cI C (aa l) (⟨dst, .cj x, none⟩ :: os) none K = dO C dst os K (some (aK (aa l) x, aa l))) ∧
  (∀ (x : aF) , cI C (aa l) (⟨dst, .fN x, none⟩ :: os) none K = dO C dst os K (jA (aa l) (aK (aa l) x))) ∧
  (∀ (c x y : aF) , cI C (aa l) (⟨dst, .pick c x y, none⟩ :: os) none K = dO C dst os K (qG (aa l) (aK (aa l) c) (aK (aa l) x) (aK (aa l) y))) ∧
  (∀ (T : TypeId) , cI C (aa l) (⟨dst, .gL T, none⟩ :: os) none K = dO C dst os K (c9 (aa l) (gL C T))) ∧
  (∀ (T : TypeId) (x : aF) , cI C (aa l) (⟨dst, .cU T x, none⟩ :: os) none K = dO C dst os K (cU (aa l) (aK (aa l) x))) ∧
  (∀ (T : TypeId) (ps : List (Nat × aF)) , cI C (aa l) (⟨dst, .fM T ps, none⟩ :: os) none K = dO C dst os K (fM C (aa l) T (ke (aa l) ps))) ∧
  (∀ (T : TypeId) (n : Nat) (ps : List (Nat × aF)) , cI C (aa l) (⟨dst, .eD T n ps, none⟩ :: os) none K = dO C dst os K (eD C (aa l) T n (ke (aa l) ps))) ∧
  (∀ (T : TypeId) (x : aF) , cI C (aa l) (⟨dst, .b4 T x, none⟩ :: os) none K = dO C dst os K (c9 (aa l) (b4 C (aa l) T (aK (aa l) x)))) ∧
  (∀ (T : TypeId) (x y : aF) , cI C (aa l) (⟨dst, .fU T x y, none⟩ :: os) none K = dO C dst os K (gn (fU C (aa l) T (aK (aa l) x) (aK (aa l) y)))) ∧
  (∀ (x : aF) , cI C (aa l) (⟨dst, .fC x, none⟩ :: os) none K = dO C dst os K (c9 (aa l) (fC (aa l) (aK (aa l) x)))) ∧
  (∀ (op : BinOp) (T : TypeId) (x y : aF) , cI C (aa l) (⟨dst, .b1 op T x y, none⟩ :: os) none K = dO C dst os K (c9 (aa l) (b1 C (aa l) op T (aK (aa l) x) (aK (aa l) y)))) ∧
  (∀ (op : UnOp) (x : aF) , cI C (aa l) (⟨dst, .un op x, none⟩ :: os) none K = dO C dst os K (c9 (aa l) (un op (aK (aa l) x)))) ∧
  (∀ (A B : TypeId) (x : aF) , cI C (aa l) (⟨dst, .fW A B x, none⟩ :: os) none K = dO C dst os K (c9 (aa l) (fW C (aa l) A B (aK (aa l) x)))) ∧
  (∀ (f : FuncId) (cs : List aF) , cI C (aa l) (⟨dst, .il f cs, none⟩ :: os) none K = dO C dst os K (some (.fn f (jb (aa l) cs), aa l))) ∧
  (∀ (T : TypeId) (x y : aF) , cI C (aa l) (⟨dst, .er T x y, none⟩ :: os) none K = dO C dst os K (c9 (aa l) (er C T (aK (aa l) x) (aK (aa l) y)))) ∧
  (∀ (T : TypeId) (x : aF) (dc al : Option aF) , cI C (aa l) (⟨dst, .fl T x dc al, none⟩ :: os) none K = dO C dst os K (fl C (aa l) T (aK (aa l) x) (la (aa l) dc) (la (aa l) al))) ∧
  (∀ (T : TypeId) (x : aF) (k : Nat) , cI C (aa l) (⟨dst, .cB T x k, none⟩ :: os) none K = dO C dst os K (c9 (aa l) (cB C (aa l) T (aK (aa l) x) k))) ∧
  (∀ (T : TypeId) (x y : aF) , cI C (aa l) (⟨dst, .e6 T x y, none⟩ :: os) none K = dO C dst os K (c9 (aa l) (e6 C (aa l) T (aK (aa l) x) (aK (aa l) y)))) ∧
  (∀ (T : TypeId) (x y : aF) , cI C (aa l) (⟨dst, .idx T x y, none⟩ :: os) none K = dO C dst os K (c9 (aa l) (idx C T (aK (aa l) x) (aK (aa l) y)))) ∧
  (∀ (x : aF) (k : Nat) , cI C (aa l) (⟨dst, .ex x k, none⟩ :: os) none K = dO C dst os K (c9 (aa l) (ex (aa l) (aK (aa l) x) k))) ∧
  (∀ (T : TypeId) (x : aF) , cI C (aa l) (⟨dst, .len T x, none⟩ :: os) none K = dO C dst os K (c9 (aa l) (lJ C (aa l) T (aK (aa l) x)))) ∧
  (∀ (T bF : TypeId) (x y : aF) , cI C (aa l) (⟨dst, .app T bF x y, none⟩ :: os) none K = dO C dst os K (lL C (aa l) T bF (aK (aa l) x) (aK (aa l) y))) :=
 ⟨fun x => (jK rfl).trans (congrArg _ (tI x)), fun x => (jK rfl).trans (congrArg _ (tJ x)), fun c x y => (jK rfl).trans (congrArg _ (tK c x y)), fun T => (jK rfl).trans (congrArg _ (tL T)), fun T x => (jK rfl).trans (congrArg _ (tM T x)), fun T ps => (jK rfl).trans (congrArg _ (tN T ps)), fun T n ps => (jK rfl).trans (congrArg _ (tO T n ps)), fun T x => (jK rfl).trans (congrArg _ (tP T x)), fun T x y => (jK rfl).trans (congrArg _ (tQ T x y)), fun x => (jK rfl).trans (congrArg _ (tR x)), fun op T x y => (jK rfl).trans (congrArg _ (tS op T x y)), fun op x => (jK rfl).trans (congrArg _ (tT op x)), fun A B x => (jK rfl).trans (congrArg _ (tU A B x)), fun f cs => (jK rfl).trans (congrArg _ (tV f cs)), fun T x y => (jK rfl).trans (congrArg _ (tW T x y)), fun T x dc al => (jK rfl).trans (congrArg _ (tX T x dc al)), fun T x k => (jK rfl).trans (congrArg _ (tY T x k)), fun T x y => (jK rfl).trans (congrArg _ (tZ T x y)), fun T x y => (jK rfl).trans (congrArg _ (t_ T x y)), fun x k => (jK rfl).trans (congrArg _ (ua x k)), fun T x => (jK rfl).trans (congrArg _ (ub T x)), fun T bF x y => (jK rfl).trans (congrArg _ (uc T bF x y))⟩
theorem Sf :
  (∀ (x : aF) , cI C (aa l) (⟨dst, .cj x, none⟩ :: os) (some a) K = dP C l (use (aa l) (.cj x)) (dt (aa l) (.cj x)) dst os a K (some (aK (aa l) x, aa l))) ∧
  (∀ (x : aF) , cI C (aa l) (⟨dst, .fN x, none⟩ :: os) (some a) K = dP C l (use (aa l) (.fN x)) (dt (aa l) (.fN x)) dst os a K (jA (aa l) (aK (aa l) x))) ∧
  (∀ (c x y : aF) , cI C (aa l) (⟨dst, .pick c x y, none⟩ :: os) (some a) K = dP C l (use (aa l) (.pick c x y)) (dt (aa l) (.pick c x y)) dst os a K (qG (aa l) (aK (aa l) c) (aK (aa l) x) (aK (aa l) y))) ∧
  (∀ (T : TypeId) , cI C (aa l) (⟨dst, .gL T, none⟩ :: os) (some a) K = dP C l (use (aa l) (.gL T)) (dt (aa l) (.gL T)) dst os a K (c9 (aa l) (gL C T))) ∧
  (∀ (T : TypeId) (x : aF) , cI C (aa l) (⟨dst, .cU T x, none⟩ :: os) (some a) K = dP C l (use (aa l) (.cU T x)) (dt (aa l) (.cU T x)) dst os a K (cU (aa l) (aK (aa l) x))) ∧
  (∀ (T : TypeId) (ps : List (Nat × aF)) , cI C (aa l) (⟨dst, .fM T ps, none⟩ :: os) (some a) K = dP C l (use (aa l) (.fM T ps)) (dt (aa l) (.fM T ps)) dst os a K (fM C (aa l) T (ke (aa l) ps))) ∧
  (∀ (T : TypeId) (n : Nat) (ps : List (Nat × aF)) , cI C (aa l) (⟨dst, .eD T n ps, none⟩ :: os) (some a) K = dP C l (use (aa l) (.eD T n ps)) (dt (aa l) (.eD T n ps)) dst os a K (eD C (aa l) T n (ke (aa l) ps))) ∧
  (∀ (T : TypeId) (x : aF) , cI C (aa l) (⟨dst, .b4 T x, none⟩ :: os) (some a) K = dP C l (use (aa l) (.b4 T x)) (dt (aa l) (.b4 T x)) dst os a K (c9 (aa l) (b4 C (aa l) T (aK (aa l) x)))) ∧
  (∀ (T : TypeId) (x y : aF) , cI C (aa l) (⟨dst, .fU T x y, none⟩ :: os) (some a) K = dP C l (use (aa l) (.fU T x y)) (dt (aa l) (.fU T x y)) dst os a K (gn (fU C (aa l) T (aK (aa l) x) (aK (aa l) y)))) ∧
  (∀ (x : aF) , cI C (aa l) (⟨dst, .fC x, none⟩ :: os) (some a) K = dP C l (use (aa l) (.fC x)) (dt (aa l) (.fC x)) dst os a K (c9 (aa l) (fC (aa l) (aK (aa l) x)))) ∧
  (∀ (op : BinOp) (T : TypeId) (x y : aF) , cI C (aa l) (⟨dst, .b1 op T x y, none⟩ :: os) (some a) K = dP C l (use (aa l) (.b1 op T x y)) (dt (aa l) (.b1 op T x y)) dst os a K (c9 (aa l) (b1 C (aa l) op T (aK (aa l) x) (aK (aa l) y)))) ∧
  (∀ (op : UnOp) (x : aF) , cI C (aa l) (⟨dst, .un op x, none⟩ :: os) (some a) K = dP C l (use (aa l) (.un op x)) (dt (aa l) (.un op x)) dst os a K (c9 (aa l) (un op (aK (aa l) x)))) ∧
  (∀ (A B : TypeId) (x : aF) , cI C (aa l) (⟨dst, .fW A B x, none⟩ :: os) (some a) K = dP C l (use (aa l) (.fW A B x)) (dt (aa l) (.fW A B x)) dst os a K (c9 (aa l) (fW C (aa l) A B (aK (aa l) x)))) ∧
  (∀ (f : FuncId) (cs : List aF) , cI C (aa l) (⟨dst, .il f cs, none⟩ :: os) (some a) K = dP C l (use (aa l) (.il f cs)) (dt (aa l) (.il f cs)) dst os a K (some (.fn f (jb (aa l) cs), aa l))) ∧
  (∀ (T : TypeId) (x y : aF) , cI C (aa l) (⟨dst, .er T x y, none⟩ :: os) (some a) K = dP C l (use (aa l) (.er T x y)) (dt (aa l) (.er T x y)) dst os a K (c9 (aa l) (er C T (aK (aa l) x) (aK (aa l) y)))) ∧
  (∀ (T : TypeId) (x : aF) (dc al : Option aF) , cI C (aa l) (⟨dst, .fl T x dc al, none⟩ :: os) (some a) K = dP C l (use (aa l) (.fl T x dc al)) (dt (aa l) (.fl T x dc al)) dst os a K (fl C (aa l) T (aK (aa l) x) (la (aa l) dc) (la (aa l) al))) ∧
  (∀ (T : TypeId) (x : aF) (k : Nat) , cI C (aa l) (⟨dst, .cB T x k, none⟩ :: os) (some a) K = dP C l (use (aa l) (.cB T x k)) (dt (aa l) (.cB T x k)) dst os a K (c9 (aa l) (cB C (aa l) T (aK (aa l) x) k))) ∧
  (∀ (T : TypeId) (x y : aF) , cI C (aa l) (⟨dst, .e6 T x y, none⟩ :: os) (some a) K = dP C l (use (aa l) (.e6 T x y)) (dt (aa l) (.e6 T x y)) dst os a K (c9 (aa l) (e6 C (aa l) T (aK (aa l) x) (aK (aa l) y)))) ∧
  (∀ (T : TypeId) (x y : aF) , cI C (aa l) (⟨dst, .idx T x y, none⟩ :: os) (some a) K = dP C l (use (aa l) (.idx T x y)) (dt (aa l) (.idx T x y)) dst os a K (c9 (aa l) (idx C T (aK (aa l) x) (aK (aa l) y)))) ∧
  (∀ (x : aF) (k : Nat) , cI C (aa l) (⟨dst, .ex x k, none⟩ :: os) (some a) K = dP C l (use (aa l) (.ex x k)) (dt (aa l) (.ex x k)) dst os a K (c9 (aa l) (ex (aa l) (aK (aa l) x) k))) ∧
  (∀ (T : TypeId) (x : aF) , cI C (aa l) (⟨dst, .len T x, none⟩ :: os) (some a) K = dP C l (use (aa l) (.len T x)) (dt (aa l) (.len T x)) dst os a K (c9 (aa l) (lJ C (aa l) T (aK (aa l) x)))) ∧
  (∀ (T bF : TypeId) (x y : aF) , cI C (aa l) (⟨dst, .app T bF x y, none⟩ :: os) (some a) K = dP C l (use (aa l) (.app T bF x y)) (dt (aa l) (.app T bF x y)) dst os a K (lL C (aa l) T bF (aK (aa l) x) (aK (aa l) y))) :=
 ⟨fun x => (jL rfl).trans (congrArg _ (tI x)), fun x => (jL rfl).trans (congrArg _ (tJ x)), fun c x y => (jL rfl).trans (congrArg _ (tK c x y)), fun T => (jL rfl).trans (congrArg _ (tL T)), fun T x => (jL rfl).trans (congrArg _ (tM T x)), fun T ps => (jL rfl).trans (congrArg _ (tN T ps)), fun T n ps => (jL rfl).trans (congrArg _ (tO T n ps)), fun T x => (jL rfl).trans (congrArg _ (tP T x)), fun T x y => (jL rfl).trans (congrArg _ (tQ T x y)), fun x => (jL rfl).trans (congrArg _ (tR x)), fun op T x y => (jL rfl).trans (congrArg _ (tS op T x y)), fun op x => (jL rfl).trans (congrArg _ (tT op x)), fun A B x => (jL rfl).trans (congrArg _ (tU A B x)), fun f cs => (jL rfl).trans (congrArg _ (tV f cs)), fun T x y => (jL rfl).trans (congrArg _ (tW T x y)), fun T x dc al => (jL rfl).trans (congrArg _ (tX T x dc al)), fun T x k => (jL rfl).trans (congrArg _ (tY T x k)), fun T x y => (jL rfl).trans (congrArg _ (tZ T x y)), fun T x y => (jL rfl).trans (congrArg _ (t_ T x y)), fun x k => (jL rfl).trans (congrArg _ (ua x k)), fun T x => (jL rfl).trans (congrArg _ (ub T x)), fun T bF x y => (jL rfl).trans (congrArg _ (uc T bF x y))⟩
theorem Sg :
  (∀ (x : aF) (t : Nat), cz C l dst (.cj x) t true os none K (.bool true) = dO C dst os K (some (aK (aa l) x, aa l))) ∧
  (∀ (x : aF) (t : Nat), cz C l dst (.cj x) t false os none K (.bool false) = dO C dst os K (some (aK (aa l) x, aa l))) ∧
  (∀ (x : aF) (t : Nat), cz C l dst (.fN x) t true os none K (.bool true) = dO C dst os K (jA (aa l) (aK (aa l) x))) ∧
  (∀ (x : aF) (t : Nat), cz C l dst (.fN x) t false os none K (.bool false) = dO C dst os K (jA (aa l) (aK (aa l) x))) ∧
  (∀ (c x y : aF) (t : Nat), cz C l dst (.pick c x y) t true os none K (.bool true) = dO C dst os K (qG (aa l) (aK (aa l) c) (aK (aa l) x) (aK (aa l) y))) ∧
  (∀ (c x y : aF) (t : Nat), cz C l dst (.pick c x y) t false os none K (.bool false) = dO C dst os K (qG (aa l) (aK (aa l) c) (aK (aa l) x) (aK (aa l) y))) ∧
  (∀ (T : TypeId) (t : Nat), cz C l dst (.gL T) t true os none K (.bool true) = dO C dst os K (c9 (aa l) (gL C T))) ∧
  (∀ (T : TypeId) (t : Nat), cz C l dst (.gL T) t false os none K (.bool false) = dO C dst os K (c9 (aa l) (gL C T))) ∧
  (∀ (T : TypeId) (x : aF) (t : Nat), cz C l dst (.cU T x) t true os none K (.bool true) = dO C dst os K (cU (aa l) (aK (aa l) x))) ∧
  (∀ (T : TypeId) (x : aF) (t : Nat), cz C l dst (.cU T x) t false os none K (.bool false) = dO C dst os K (cU (aa l) (aK (aa l) x))) ∧
  (∀ (T : TypeId) (ps : List (Nat × aF)) (t : Nat), cz C l dst (.fM T ps) t true os none K (.bool true) = dO C dst os K (fM C (aa l) T (ke (aa l) ps))) ∧
  (∀ (T : TypeId) (ps : List (Nat × aF)) (t : Nat), cz C l dst (.fM T ps) t false os none K (.bool false) = dO C dst os K (fM C (aa l) T (ke (aa l) ps))) ∧
  (∀ (T : TypeId) (n : Nat) (ps : List (Nat × aF)) (t : Nat), cz C l dst (.eD T n ps) t true os none K (.bool true) = dO C dst os K (eD C (aa l) T n (ke (aa l) ps))) ∧
  (∀ (T : TypeId) (n : Nat) (ps : List (Nat × aF)) (t : Nat), cz C l dst (.eD T n ps) t false os none K (.bool false) = dO C dst os K (eD C (aa l) T n (ke (aa l) ps))) ∧
  (∀ (T : TypeId) (x : aF) (t : Nat), cz C l dst (.b4 T x) t true os none K (.bool true) = dO C dst os K (c9 (aa l) (b4 C (aa l) T (aK (aa l) x)))) ∧
  (∀ (T : TypeId) (x : aF) (t : Nat), cz C l dst (.b4 T x) t false os none K (.bool false) = dO C dst os K (c9 (aa l) (b4 C (aa l) T (aK (aa l) x)))) ∧
  (∀ (T : TypeId) (x y : aF) (t : Nat), cz C l dst (.fU T x y) t true os none K (.bool true) = dO C dst os K (gn (fU C (aa l) T (aK (aa l) x) (aK (aa l) y)))) ∧
  (∀ (T : TypeId) (x y : aF) (t : Nat), cz C l dst (.fU T x y) t false os none K (.bool false) = dO C dst os K (gn (fU C (aa l) T (aK (aa l) x) (aK (aa l) y)))) ∧
  (∀ (x : aF) (t : Nat), cz C l dst (.fC x) t true os none K (.bool true) = dO C dst os K (c9 (aa l) (fC (aa l) (aK (aa l) x)))) ∧
  (∀ (x : aF) (t : Nat), cz C l dst (.fC x) t false os none K (.bool false) = dO C dst os K (c9 (aa l) (fC (aa l) (aK (aa l) x)))) ∧
  (∀ (op : BinOp) (T : TypeId) (x y : aF) (t : Nat), cz C l dst (.b1 op T x y) t true os none K (.bool true) = dO C dst os K (c9 (aa l) (b1 C (aa l) op T (aK (aa l) x) (aK (aa l) y)))) ∧
  (∀ (op : BinOp) (T : TypeId) (x y : aF) (t : Nat), cz C l dst (.b1 op T x y) t false os none K (.bool false) = dO C dst os K (c9 (aa l) (b1 C (aa l) op T (aK (aa l) x) (aK (aa l) y)))) ∧
  (∀ (op : UnOp) (x : aF) (t : Nat), cz C l dst (.un op x) t true os none K (.bool true) = dO C dst os K (c9 (aa l) (un op (aK (aa l) x)))) ∧
  (∀ (op : UnOp) (x : aF) (t : Nat), cz C l dst (.un op x) t false os none K (.bool false) = dO C dst os K (c9 (aa l) (un op (aK (aa l) x)))) ∧
  (∀ (A B : TypeId) (x : aF) (t : Nat), cz C l dst (.fW A B x) t true os none K (.bool true) = dO C dst os K (c9 (aa l) (fW C (aa l) A B (aK (aa l) x)))) ∧
  (∀ (A B : TypeId) (x : aF) (t : Nat), cz C l dst (.fW A B x) t false os none K (.bool false) = dO C dst os K (c9 (aa l) (fW C (aa l) A B (aK (aa l) x)))) ∧
  (∀ (f : FuncId) (cs : List aF) (t : Nat), cz C l dst (.il f cs) t true os none K (.bool true) = dO C dst os K (some (.fn f (jb (aa l) cs), aa l))) ∧
  (∀ (f : FuncId) (cs : List aF) (t : Nat), cz C l dst (.il f cs) t false os none K (.bool false) = dO C dst os K (some (.fn f (jb (aa l) cs), aa l))) ∧
  (∀ (T : TypeId) (x y : aF) (t : Nat), cz C l dst (.er T x y) t true os none K (.bool true) = dO C dst os K (c9 (aa l) (er C T (aK (aa l) x) (aK (aa l) y)))) ∧
  (∀ (T : TypeId) (x y : aF) (t : Nat), cz C l dst (.er T x y) t false os none K (.bool false) = dO C dst os K (c9 (aa l) (er C T (aK (aa l) x) (aK (aa l) y)))) ∧
  (∀ (T : TypeId) (x : aF) (dc al : Option aF) (t : Nat), cz C l dst (.fl T x dc al) t true os none K (.bool true) = dO C dst os K (fl C (aa l) T (aK (aa l) x) (la (aa l) dc) (la (aa l) al))) ∧
  (∀ (T : TypeId) (x : aF) (dc al : Option aF) (t : Nat), cz C l dst (.fl T x dc al) t false os none K (.bool false) = dO C dst os K (fl C (aa l) T (aK (aa l) x) (la (aa l) dc) (la (aa l) al))) ∧
  (∀ (T : TypeId) (x : aF) (k : Nat) (t : Nat), cz C l dst (.cB T x k) t true os none K (.bool true) = dO C dst os K (c9 (aa l) (cB C (aa l) T (aK (aa l) x) k))) ∧
  (∀ (T : TypeId) (x : aF) (k : Nat) (t : Nat), cz C l dst (.cB T x k) t false os none K (.bool false) = dO C dst os K (c9 (aa l) (cB C (aa l) T (aK (aa l) x) k))) ∧
  (∀ (T : TypeId) (x y : aF) (t : Nat), cz C l dst (.e6 T x y) t true os none K (.bool true) = dO C dst os K (c9 (aa l) (e6 C (aa l) T (aK (aa l) x) (aK (aa l) y)))) ∧
  (∀ (T : TypeId) (x y : aF) (t : Nat), cz C l dst (.e6 T x y) t false os none K (.bool false) = dO C dst os K (c9 (aa l) (e6 C (aa l) T (aK (aa l) x) (aK (aa l) y)))) ∧
  (∀ (T : TypeId) (x y : aF) (t : Nat), cz C l dst (.idx T x y) t true os none K (.bool true) = dO C dst os K (c9 (aa l) (idx C T (aK (aa l) x) (aK (aa l) y)))) ∧
  (∀ (T : TypeId) (x y : aF) (t : Nat), cz C l dst (.idx T x y) t false os none K (.bool false) = dO C dst os K (c9 (aa l) (idx C T (aK (aa l) x) (aK (aa l) y)))) ∧
  (∀ (x : aF) (k : Nat) (t : Nat), cz C l dst (.ex x k) t true os none K (.bool true) = dO C dst os K (c9 (aa l) (ex (aa l) (aK (aa l) x) k))) ∧
  (∀ (x : aF) (k : Nat) (t : Nat), cz C l dst (.ex x k) t false os none K (.bool false) = dO C dst os K (c9 (aa l) (ex (aa l) (aK (aa l) x) k))) ∧
  (∀ (T : TypeId) (x : aF) (t : Nat), cz C l dst (.len T x) t true os none K (.bool true) = dO C dst os K (c9 (aa l) (lJ C (aa l) T (aK (aa l) x)))) ∧
  (∀ (T : TypeId) (x : aF) (t : Nat), cz C l dst (.len T x) t false os none K (.bool false) = dO C dst os K (c9 (aa l) (lJ C (aa l) T (aK (aa l) x)))) ∧
  (∀ (T bF : TypeId) (x y : aF) (t : Nat), cz C l dst (.app T bF x y) t true os none K (.bool true) = dO C dst os K (lL C (aa l) T bF (aK (aa l) x) (aK (aa l) y))) ∧
  (∀ (T bF : TypeId) (x y : aF) (t : Nat), cz C l dst (.app T bF x y) t false os none K (.bool false) = dO C dst os K (lL C (aa l) T bF (aK (aa l) x) (aK (aa l) y))) :=
 ⟨fun x _ => (fE rfl).trans (congrArg _ (tI x)), fun x _ => (fE rfl).trans (congrArg _ (tI x)), fun x _ => (fE rfl).trans (congrArg _ (tJ x)), fun x _ => (fE rfl).trans (congrArg _ (tJ x)), fun c x y _ => (fE rfl).trans (congrArg _ (tK c x y)), fun c x y _ => (fE rfl).trans (congrArg _ (tK c x y)), fun T _ => (fE rfl).trans (congrArg _ (tL T)), fun T _ => (fE rfl).trans (congrArg _ (tL T)), fun T x _ => (fE rfl).trans (congrArg _ (tM T x)), fun T x _ => (fE rfl).trans (congrArg _ (tM T x)), fun T ps _ => (fE rfl).trans (congrArg _ (tN T ps)), fun T ps _ => (fE rfl).trans (congrArg _ (tN T ps)), fun T n ps _ => (fE rfl).trans (congrArg _ (tO T n ps)), fun T n ps _ => (fE rfl).trans (congrArg _ (tO T n ps)), fun T x _ => (fE rfl).trans (congrArg _ (tP T x)), fun T x _ => (fE rfl).trans (congrArg _ (tP T x)), fun T x y _ => (fE rfl).trans (congrArg _ (tQ T x y)), fun T x y _ => (fE rfl).trans (congrArg _ (tQ T x y)), fun x _ => (fE rfl).trans (congrArg _ (tR x)), fun x _ => (fE rfl).trans (congrArg _ (tR x)), fun op T x y _ => (fE rfl).trans (congrArg _ (tS op T x y)), fun op T x y _ => (fE rfl).trans (congrArg _ (tS op T x y)), fun op x _ => (fE rfl).trans (congrArg _ (tT op x)), fun op x _ => (fE rfl).trans (congrArg _ (tT op x)), fun A B x _ => (fE rfl).trans (congrArg _ (tU A B x)), fun A B x _ => (fE rfl).trans (congrArg _ (tU A B x)), fun f cs _ => (fE rfl).trans (congrArg _ (tV f cs)), fun f cs _ => (fE rfl).trans (congrArg _ (tV f cs)), fun T x y _ => (fE rfl).trans (congrArg _ (tW T x y)), fun T x y _ => (fE rfl).trans (congrArg _ (tW T x y)), fun T x dc al _ => (fE rfl).trans (congrArg _ (tX T x dc al)), fun T x dc al _ => (fE rfl).trans (congrArg _ (tX T x dc al)), fun T x k _ => (fE rfl).trans (congrArg _ (tY T x k)), fun T x k _ => (fE rfl).trans (congrArg _ (tY T x k)), fun T x y _ => (fE rfl).trans (congrArg _ (tZ T x y)), fun T x y _ => (fE rfl).trans (congrArg _ (tZ T x y)), fun T x y _ => (fE rfl).trans (congrArg _ (t_ T x y)), fun T x y _ => (fE rfl).trans (congrArg _ (t_ T x y)), fun x k _ => (fE rfl).trans (congrArg _ (ua x k)), fun x k _ => (fE rfl).trans (congrArg _ (ua x k)), fun T x _ => (fE rfl).trans (congrArg _ (ub T x)), fun T x _ => (fE rfl).trans (congrArg _ (ub T x)), fun T bF x y _ => (fE rfl).trans (congrArg _ (uc T bF x y)), fun T bF x y _ => (fE rfl).trans (congrArg _ (uc T bF x y))⟩
theorem Sh :
  (∀ (x : aF) (t : Nat), cz C l dst (.cj x) t true os (some a) K (.bool true) = dP C l (t :: use (aa l) (.cj x)) (dt (aa l) (.cj x)) dst os a K (some (aK (aa l) x, aa l))) ∧
  (∀ (x : aF) (t : Nat), cz C l dst (.cj x) t false os (some a) K (.bool false) = dP C l (t :: use (aa l) (.cj x)) (dt (aa l) (.cj x)) dst os a K (some (aK (aa l) x, aa l))) ∧
  (∀ (x : aF) (t : Nat), cz C l dst (.fN x) t true os (some a) K (.bool true) = dP C l (t :: use (aa l) (.fN x)) (dt (aa l) (.fN x)) dst os a K (jA (aa l) (aK (aa l) x))) ∧
  (∀ (x : aF) (t : Nat), cz C l dst (.fN x) t false os (some a) K (.bool false) = dP C l (t :: use (aa l) (.fN x)) (dt (aa l) (.fN x)) dst os a K (jA (aa l) (aK (aa l) x))) ∧
  (∀ (c x y : aF) (t : Nat), cz C l dst (.pick c x y) t true os (some a) K (.bool true) = dP C l (t :: use (aa l) (.pick c x y)) (dt (aa l) (.pick c x y)) dst os a K (qG (aa l) (aK (aa l) c) (aK (aa l) x) (aK (aa l) y))) ∧
  (∀ (c x y : aF) (t : Nat), cz C l dst (.pick c x y) t false os (some a) K (.bool false) = dP C l (t :: use (aa l) (.pick c x y)) (dt (aa l) (.pick c x y)) dst os a K (qG (aa l) (aK (aa l) c) (aK (aa l) x) (aK (aa l) y))) ∧
  (∀ (T : TypeId) (t : Nat), cz C l dst (.gL T) t true os (some a) K (.bool true) = dP C l (t :: use (aa l) (.gL T)) (dt (aa l) (.gL T)) dst os a K (c9 (aa l) (gL C T))) ∧
  (∀ (T : TypeId) (t : Nat), cz C l dst (.gL T) t false os (some a) K (.bool false) = dP C l (t :: use (aa l) (.gL T)) (dt (aa l) (.gL T)) dst os a K (c9 (aa l) (gL C T))) ∧
  (∀ (T : TypeId) (x : aF) (t : Nat), cz C l dst (.cU T x) t true os (some a) K (.bool true) = dP C l (t :: use (aa l) (.cU T x)) (dt (aa l) (.cU T x)) dst os a K (cU (aa l) (aK (aa l) x))) ∧
  (∀ (T : TypeId) (x : aF) (t : Nat), cz C l dst (.cU T x) t false os (some a) K (.bool false) = dP C l (t :: use (aa l) (.cU T x)) (dt (aa l) (.cU T x)) dst os a K (cU (aa l) (aK (aa l) x))) ∧
  (∀ (T : TypeId) (ps : List (Nat × aF)) (t : Nat), cz C l dst (.fM T ps) t true os (some a) K (.bool true) = dP C l (t :: use (aa l) (.fM T ps)) (dt (aa l) (.fM T ps)) dst os a K (fM C (aa l) T (ke (aa l) ps))) ∧
  (∀ (T : TypeId) (ps : List (Nat × aF)) (t : Nat), cz C l dst (.fM T ps) t false os (some a) K (.bool false) = dP C l (t :: use (aa l) (.fM T ps)) (dt (aa l) (.fM T ps)) dst os a K (fM C (aa l) T (ke (aa l) ps))) ∧
  (∀ (T : TypeId) (n : Nat) (ps : List (Nat × aF)) (t : Nat), cz C l dst (.eD T n ps) t true os (some a) K (.bool true) = dP C l (t :: use (aa l) (.eD T n ps)) (dt (aa l) (.eD T n ps)) dst os a K (eD C (aa l) T n (ke (aa l) ps))) ∧
  (∀ (T : TypeId) (n : Nat) (ps : List (Nat × aF)) (t : Nat), cz C l dst (.eD T n ps) t false os (some a) K (.bool false) = dP C l (t :: use (aa l) (.eD T n ps)) (dt (aa l) (.eD T n ps)) dst os a K (eD C (aa l) T n (ke (aa l) ps))) ∧
  (∀ (T : TypeId) (x : aF) (t : Nat), cz C l dst (.b4 T x) t true os (some a) K (.bool true) = dP C l (t :: use (aa l) (.b4 T x)) (dt (aa l) (.b4 T x)) dst os a K (c9 (aa l) (b4 C (aa l) T (aK (aa l) x)))) ∧
  (∀ (T : TypeId) (x : aF) (t : Nat), cz C l dst (.b4 T x) t false os (some a) K (.bool false) = dP C l (t :: use (aa l) (.b4 T x)) (dt (aa l) (.b4 T x)) dst os a K (c9 (aa l) (b4 C (aa l) T (aK (aa l) x)))) ∧
  (∀ (T : TypeId) (x y : aF) (t : Nat), cz C l dst (.fU T x y) t true os (some a) K (.bool true) = dP C l (t :: use (aa l) (.fU T x y)) (dt (aa l) (.fU T x y)) dst os a K (gn (fU C (aa l) T (aK (aa l) x) (aK (aa l) y)))) ∧
  (∀ (T : TypeId) (x y : aF) (t : Nat), cz C l dst (.fU T x y) t false os (some a) K (.bool false) = dP C l (t :: use (aa l) (.fU T x y)) (dt (aa l) (.fU T x y)) dst os a K (gn (fU C (aa l) T (aK (aa l) x) (aK (aa l) y)))) ∧
  (∀ (x : aF) (t : Nat), cz C l dst (.fC x) t true os (some a) K (.bool true) = dP C l (t :: use (aa l) (.fC x)) (dt (aa l) (.fC x)) dst os a K (c9 (aa l) (fC (aa l) (aK (aa l) x)))) ∧
  (∀ (x : aF) (t : Nat), cz C l dst (.fC x) t false os (some a) K (.bool false) = dP C l (t :: use (aa l) (.fC x)) (dt (aa l) (.fC x)) dst os a K (c9 (aa l) (fC (aa l) (aK (aa l) x)))) ∧
  (∀ (op : BinOp) (T : TypeId) (x y : aF) (t : Nat), cz C l dst (.b1 op T x y) t true os (some a) K (.bool true) = dP C l (t :: use (aa l) (.b1 op T x y)) (dt (aa l) (.b1 op T x y)) dst os a K (c9 (aa l) (b1 C (aa l) op T (aK (aa l) x) (aK (aa l) y)))) ∧
  (∀ (op : BinOp) (T : TypeId) (x y : aF) (t : Nat), cz C l dst (.b1 op T x y) t false os (some a) K (.bool false) = dP C l (t :: use (aa l) (.b1 op T x y)) (dt (aa l) (.b1 op T x y)) dst os a K (c9 (aa l) (b1 C (aa l) op T (aK (aa l) x) (aK (aa l) y)))) ∧
  (∀ (op : UnOp) (x : aF) (t : Nat), cz C l dst (.un op x) t true os (some a) K (.bool true) = dP C l (t :: use (aa l) (.un op x)) (dt (aa l) (.un op x)) dst os a K (c9 (aa l) (un op (aK (aa l) x)))) ∧
  (∀ (op : UnOp) (x : aF) (t : Nat), cz C l dst (.un op x) t false os (some a) K (.bool false) = dP C l (t :: use (aa l) (.un op x)) (dt (aa l) (.un op x)) dst os a K (c9 (aa l) (un op (aK (aa l) x)))) ∧
  (∀ (A B : TypeId) (x : aF) (t : Nat), cz C l dst (.fW A B x) t true os (some a) K (.bool true) = dP C l (t :: use (aa l) (.fW A B x)) (dt (aa l) (.fW A B x)) dst os a K (c9 (aa l) (fW C (aa l) A B (aK (aa l) x)))) ∧
  (∀ (A B : TypeId) (x : aF) (t : Nat), cz C l dst (.fW A B x) t false os (some a) K (.bool false) = dP C l (t :: use (aa l) (.fW A B x)) (dt (aa l) (.fW A B x)) dst os a K (c9 (aa l) (fW C (aa l) A B (aK (aa l) x)))) ∧
  (∀ (f : FuncId) (cs : List aF) (t : Nat), cz C l dst (.il f cs) t true os (some a) K (.bool true) = dP C l (t :: use (aa l) (.il f cs)) (dt (aa l) (.il f cs)) dst os a K (some (.fn f (jb (aa l) cs), aa l))) ∧
  (∀ (f : FuncId) (cs : List aF) (t : Nat), cz C l dst (.il f cs) t false os (some a) K (.bool false) = dP C l (t :: use (aa l) (.il f cs)) (dt (aa l) (.il f cs)) dst os a K (some (.fn f (jb (aa l) cs), aa l))) ∧
  (∀ (T : TypeId) (x y : aF) (t : Nat), cz C l dst (.er T x y) t true os (some a) K (.bool true) = dP C l (t :: use (aa l) (.er T x y)) (dt (aa l) (.er T x y)) dst os a K (c9 (aa l) (er C T (aK (aa l) x) (aK (aa l) y)))) ∧
  (∀ (T : TypeId) (x y : aF) (t : Nat), cz C l dst (.er T x y) t false os (some a) K (.bool false) = dP C l (t :: use (aa l) (.er T x y)) (dt (aa l) (.er T x y)) dst os a K (c9 (aa l) (er C T (aK (aa l) x) (aK (aa l) y)))) ∧
  (∀ (T : TypeId) (x : aF) (dc al : Option aF) (t : Nat), cz C l dst (.fl T x dc al) t true os (some a) K (.bool true) = dP C l (t :: use (aa l) (.fl T x dc al)) (dt (aa l) (.fl T x dc al)) dst os a K (fl C (aa l) T (aK (aa l) x) (la (aa l) dc) (la (aa l) al))) ∧
  (∀ (T : TypeId) (x : aF) (dc al : Option aF) (t : Nat), cz C l dst (.fl T x dc al) t false os (some a) K (.bool false) = dP C l (t :: use (aa l) (.fl T x dc al)) (dt (aa l) (.fl T x dc al)) dst os a K (fl C (aa l) T (aK (aa l) x) (la (aa l) dc) (la (aa l) al))) ∧
  (∀ (T : TypeId) (x : aF) (k : Nat) (t : Nat), cz C l dst (.cB T x k) t true os (some a) K (.bool true) = dP C l (t :: use (aa l) (.cB T x k)) (dt (aa l) (.cB T x k)) dst os a K (c9 (aa l) (cB C (aa l) T (aK (aa l) x) k))) ∧
  (∀ (T : TypeId) (x : aF) (k : Nat) (t : Nat), cz C l dst (.cB T x k) t false os (some a) K (.bool false) = dP C l (t :: use (aa l) (.cB T x k)) (dt (aa l) (.cB T x k)) dst os a K (c9 (aa l) (cB C (aa l) T (aK (aa l) x) k))) ∧
  (∀ (T : TypeId) (x y : aF) (t : Nat), cz C l dst (.e6 T x y) t true os (some a) K (.bool true) = dP C l (t :: use (aa l) (.e6 T x y)) (dt (aa l) (.e6 T x y)) dst os a K (c9 (aa l) (e6 C (aa l) T (aK (aa l) x) (aK (aa l) y)))) ∧
  (∀ (T : TypeId) (x y : aF) (t : Nat), cz C l dst (.e6 T x y) t false os (some a) K (.bool false) = dP C l (t :: use (aa l) (.e6 T x y)) (dt (aa l) (.e6 T x y)) dst os a K (c9 (aa l) (e6 C (aa l) T (aK (aa l) x) (aK (aa l) y)))) ∧
  (∀ (T : TypeId) (x y : aF) (t : Nat), cz C l dst (.idx T x y) t true os (some a) K (.bool true) = dP C l (t :: use (aa l) (.idx T x y)) (dt (aa l) (.idx T x y)) dst os a K (c9 (aa l) (idx C T (aK (aa l) x) (aK (aa l) y)))) ∧
  (∀ (T : TypeId) (x y : aF) (t : Nat), cz C l dst (.idx T x y) t false os (some a) K (.bool false) = dP C l (t :: use (aa l) (.idx T x y)) (dt (aa l) (.idx T x y)) dst os a K (c9 (aa l) (idx C T (aK (aa l) x) (aK (aa l) y)))) ∧
  (∀ (x : aF) (k : Nat) (t : Nat), cz C l dst (.ex x k) t true os (some a) K (.bool true) = dP C l (t :: use (aa l) (.ex x k)) (dt (aa l) (.ex x k)) dst os a K (c9 (aa l) (ex (aa l) (aK (aa l) x) k))) ∧
  (∀ (x : aF) (k : Nat) (t : Nat), cz C l dst (.ex x k) t false os (some a) K (.bool false) = dP C l (t :: use (aa l) (.ex x k)) (dt (aa l) (.ex x k)) dst os a K (c9 (aa l) (ex (aa l) (aK (aa l) x) k))) ∧
  (∀ (T : TypeId) (x : aF) (t : Nat), cz C l dst (.len T x) t true os (some a) K (.bool true) = dP C l (t :: use (aa l) (.len T x)) (dt (aa l) (.len T x)) dst os a K (c9 (aa l) (lJ C (aa l) T (aK (aa l) x)))) ∧
  (∀ (T : TypeId) (x : aF) (t : Nat), cz C l dst (.len T x) t false os (some a) K (.bool false) = dP C l (t :: use (aa l) (.len T x)) (dt (aa l) (.len T x)) dst os a K (c9 (aa l) (lJ C (aa l) T (aK (aa l) x)))) ∧
  (∀ (T bF : TypeId) (x y : aF) (t : Nat), cz C l dst (.app T bF x y) t true os (some a) K (.bool true) = dP C l (t :: use (aa l) (.app T bF x y)) (dt (aa l) (.app T bF x y)) dst os a K (lL C (aa l) T bF (aK (aa l) x) (aK (aa l) y))) ∧
  (∀ (T bF : TypeId) (x y : aF) (t : Nat), cz C l dst (.app T bF x y) t false os (some a) K (.bool false) = dP C l (t :: use (aa l) (.app T bF x y)) (dt (aa l) (.app T bF x y)) dst os a K (lL C (aa l) T bF (aK (aa l) x) (aK (aa l) y))) :=
 ⟨fun x _ => (fF rfl).trans (congrArg _ (tI x)), fun x _ => (fF rfl).trans (congrArg _ (tI x)), fun x _ => (fF rfl).trans (congrArg _ (tJ x)), fun x _ => (fF rfl).trans (congrArg _ (tJ x)), fun c x y _ => (fF rfl).trans (congrArg _ (tK c x y)), fun c x y _ => (fF rfl).trans (congrArg _ (tK c x y)), fun T _ => (fF rfl).trans (congrArg _ (tL T)), fun T _ => (fF rfl).trans (congrArg _ (tL T)), fun T x _ => (fF rfl).trans (congrArg _ (tM T x)), fun T x _ => (fF rfl).trans (congrArg _ (tM T x)), fun T ps _ => (fF rfl).trans (congrArg _ (tN T ps)), fun T ps _ => (fF rfl).trans (congrArg _ (tN T ps)), fun T n ps _ => (fF rfl).trans (congrArg _ (tO T n ps)), fun T n ps _ => (fF rfl).trans (congrArg _ (tO T n ps)), fun T x _ => (fF rfl).trans (congrArg _ (tP T x)), fun T x _ => (fF rfl).trans (congrArg _ (tP T x)), fun T x y _ => (fF rfl).trans (congrArg _ (tQ T x y)), fun T x y _ => (fF rfl).trans (congrArg _ (tQ T x y)), fun x _ => (fF rfl).trans (congrArg _ (tR x)), fun x _ => (fF rfl).trans (congrArg _ (tR x)), fun op T x y _ => (fF rfl).trans (congrArg _ (tS op T x y)), fun op T x y _ => (fF rfl).trans (congrArg _ (tS op T x y)), fun op x _ => (fF rfl).trans (congrArg _ (tT op x)), fun op x _ => (fF rfl).trans (congrArg _ (tT op x)), fun A B x _ => (fF rfl).trans (congrArg _ (tU A B x)), fun A B x _ => (fF rfl).trans (congrArg _ (tU A B x)), fun f cs _ => (fF rfl).trans (congrArg _ (tV f cs)), fun f cs _ => (fF rfl).trans (congrArg _ (tV f cs)), fun T x y _ => (fF rfl).trans (congrArg _ (tW T x y)), fun T x y _ => (fF rfl).trans (congrArg _ (tW T x y)), fun T x dc al _ => (fF rfl).trans (congrArg _ (tX T x dc al)), fun T x dc al _ => (fF rfl).trans (congrArg _ (tX T x dc al)), fun T x k _ => (fF rfl).trans (congrArg _ (tY T x k)), fun T x k _ => (fF rfl).trans (congrArg _ (tY T x k)), fun T x y _ => (fF rfl).trans (congrArg _ (tZ T x y)), fun T x y _ => (fF rfl).trans (congrArg _ (tZ T x y)), fun T x y _ => (fF rfl).trans (congrArg _ (t_ T x y)), fun T x y _ => (fF rfl).trans (congrArg _ (t_ T x y)), fun x k _ => (fF rfl).trans (congrArg _ (ua x k)), fun x k _ => (fF rfl).trans (congrArg _ (ua x k)), fun T x _ => (fF rfl).trans (congrArg _ (ub T x)), fun T x _ => (fF rfl).trans (congrArg _ (ub T x)), fun T bF x y _ => (fF rfl).trans (congrArg _ (uc T bF x y)), fun T bF x y _ => (fF rfl).trans (congrArg _ (uc T bF x y))⟩
end
theorem I_ :
  (∀ (t : Nat) (k : IntKind) (n : Int), jy t (.int k n) = (.int k n)) ∧
  (∀ (t : Nat) (b : Bool), jy t (.bool b) = (.bool b)) ∧
  (∀ (t : Nat) (x : List UInt8), jy t (.str x) = (.str x)) ∧
  (∀ (t : Nat) (xs : List I), jy t (.slice xs) = (.slice xs)) ∧
  (∀ (t : Nat) (d : I), jy t (.ref d) = (.ref d)) ∧
  (∀ (t : Nat) (f : FuncId) (cap : List I), jy t (.fn f cap) = (.fn f cap)) ∧
  (∀ (t : Nat) (x : Nat) (q : List Nat), jy t (.h x q) = (.h x q)) ∧
  (∀ (t : Nat) (x : Nat) (q : List Nat), jy t (.ar x q) = (.ar x q)) ∧
  (∀ (t : Nat) , jy t .dv = .dv) ∧
  (∀ (t : Nat) , jy t .bp = .bp) ∧
  (∀ (t : Nat) , jy t .e_ = .e_) ∧
  (∀ (t : Nat) , jy t .hole = .hole) ∧
  (∀ (t : Nat) (sz : Nat) (xs : List I), jy t (.aP sz xs) = .h t []) ∧
  (∀ (t : Nat) (d : I), jy t (.a7 d) = .h t []) ∧
  (∀ (t : Nat) (ax : List I), jy t (.agg ax) = if I.gh ax = true then (.agg ax) else .h t []) ∧
  (∀ (t : Nat) (ax : List I), jy t (.tuple ax) = if I.gh ax = true then (.tuple ax) else .h t []) :=
 ⟨fun _ _ _ => rfl, fun _ _ => rfl, fun _ _ => rfl, fun _ _ => rfl, fun _ _ => rfl, fun _ _ _ => rfl, fun _ _ _ => rfl, fun _ _ _ => rfl, fun _  => rfl, fun _  => rfl, fun _  => rfl, fun _  => rfl, fun _ _ _ => rfl, fun _ _ => rfl, fun _ _ => rfl, fun _ _ => rfl⟩
theorem Ja :
  (∀ (l : List (Nat × I)) (av : I), fin (aa l) none av = aa l) ∧
  (∀ (l : List (Nat × I)) (t : Nat) (k : IntKind) (n : Int), fin (aa l) (some t) (.int k n) = aa ((t, (.int k n)) :: l)) ∧
  (∀ (l : List (Nat × I)) (t : Nat) (b : Bool), fin (aa l) (some t) (.bool b) = aa ((t, (.bool b)) :: l)) ∧
  (∀ (l : List (Nat × I)) (t : Nat) (x : List UInt8), fin (aa l) (some t) (.str x) = aa ((t, (.str x)) :: l)) ∧
  (∀ (l : List (Nat × I)) (t : Nat) (xs : List I), fin (aa l) (some t) (.slice xs) = aa ((t, (.slice xs)) :: l)) ∧
  (∀ (l : List (Nat × I)) (t : Nat) (d : I), fin (aa l) (some t) (.ref d) = aa ((t, (.ref d)) :: l)) ∧
  (∀ (l : List (Nat × I)) (t : Nat) (f : FuncId) (cap : List I), fin (aa l) (some t) (.fn f cap) = aa ((t, (.fn f cap)) :: l)) ∧
  (∀ (l : List (Nat × I)) (t : Nat) (x : Nat) (q : List Nat), fin (aa l) (some t) (.h x q) = aa ((t, (.h x q)) :: l)) ∧
  (∀ (l : List (Nat × I)) (t : Nat) (x : Nat) (q : List Nat), fin (aa l) (some t) (.ar x q) = aa ((t, (.ar x q)) :: l)) ∧
  (∀ (l : List (Nat × I)) (t : Nat) , fin (aa l) (some t) .dv = aa ((t, .dv) :: l)) ∧
  (∀ (l : List (Nat × I)) (t : Nat) , fin (aa l) (some t) .bp = aa ((t, .bp) :: l)) ∧
  (∀ (l : List (Nat × I)) (t : Nat) , fin (aa l) (some t) .e_ = aa ((t, .e_) :: l)) ∧
  (∀ (l : List (Nat × I)) (t : Nat) , fin (aa l) (some t) .hole = aa ((t, .hole) :: l)) ∧
  (∀ (l : List (Nat × I)) (t : Nat) (sz : Nat) (xs : List I), fin (aa l) (some t) (.aP sz xs) = aa ((t, (.aP sz xs)) :: od t l)) ∧
  (∀ (l : List (Nat × I)) (t : Nat) (d : I), fin (aa l) (some t) (.a7 d) = aa ((t, (.a7 d)) :: od t l)) ∧
  (∀ (l : List (Nat × I)) (t : Nat) (ax : List I), fin (aa l) (some t) (.agg ax) = aa ((t, (.agg ax)) :: if I.gh ax = true then l else od t l)) ∧
  (∀ (l : List (Nat × I)) (t : Nat) (ax : List I), fin (aa l) (some t) (.tuple ax) = aa ((t, (.tuple ax)) :: if I.gh ax = true then l else od t l)) :=
 ⟨fun _ _ => rfl, fun l t _ _ => by simp only [fin, I.plain, if_true, k_], fun l t _ => by simp only [fin, I.plain, if_true, k_], fun l t _ => by simp only [fin, I.plain, if_true, k_], fun l t _ => by simp only [fin, I.plain, if_true, k_], fun l t _ => by simp only [fin, I.plain, if_true, k_], fun l t _ _ => by simp only [fin, I.plain, if_true, k_], fun l t _ _ => by simp only [fin, I.plain, if_true, k_], fun l t _ _ => by simp only [fin, I.plain, if_true, k_], fun l t  => by simp only [fin, I.plain, if_true, k_], fun l t  => by simp only [fin, I.plain, if_true, k_], fun l t  => by simp only [fin, I.plain, if_true, k_], fun l t  => by simp only [fin, I.plain, if_true, k_], fun l t _ _ => by simp only [fin, I.plain, Bool.false_eq_true, if_false, wv, k_], fun l t _ => by simp only [fin, I.plain, Bool.false_eq_true, if_false, wv, k_], fun l t _ => by simp only [fin, I.plain, wv, k_]; split <;> rfl, fun l t _ => by simp only [fin, I.plain, wv, k_]; split <;> rfl⟩
theorem Jb :
  (∀ (k : IntKind) (n : Int), I.plain (.int k n) = true) ∧
  (∀ (b : Bool), I.plain (.bool b) = true) ∧
  (∀ (x : List UInt8), I.plain (.str x) = true) ∧
  (∀ (xs : List I), I.plain (.slice xs) = true) ∧
  (∀ (d : I), I.plain (.ref d) = true) ∧
  (∀ (f : FuncId) (cap : List I), I.plain (.fn f cap) = true) ∧
  (∀ (x : Nat) (q : List Nat), I.plain (.h x q) = true) ∧
  (∀ (x : Nat) (q : List Nat), I.plain (.ar x q) = true) ∧
  (I.plain .dv = true) ∧
  (I.plain .bp = true) ∧
  (I.plain .e_ = true) ∧
  (I.plain .hole = true) ∧
  (∀ (sz : Nat) (xs : List I), I.plain (.aP sz xs) = false) ∧
  (∀ (d : I), I.plain (.a7 d) = false) ∧
  (∀ (ax : List I), I.plain (.agg ax) = I.gh ax) ∧
  (∀ (ax : List I), I.plain (.tuple ax) = I.gh ax) ∧
  (I.gh [] = true) ∧
  (∀ d ds, I.gh (d :: ds) = (d.plain && I.gh ds)) :=
 ⟨fun _ _ => rfl, fun _ => rfl, fun _ => rfl, fun _ => rfl, fun _ => rfl, fun _ _ => rfl, fun _ _ => rfl, fun _ _ => rfl, rfl, rfl, rfl, rfl, fun _ _ => rfl, fun _ => rfl, fun _ => rfl, fun _ => rfl, rfl, fun _ _ => rfl⟩
theorem Jc :
  (∀ (s : ao) (k : IntKind) (n : Int), jA s (.int k n) = some ((.int k n), s)) ∧
  (∀ (s : ao) (b : Bool), jA s (.bool b) = some ((.bool b), s)) ∧
  (∀ (s : ao) (x : List UInt8), jA s (.str x) = some ((.str x), s)) ∧
  (∀ (s : ao) (xs : List I), jA s (.slice xs) = some ((.slice xs), s)) ∧
  (∀ (s : ao) (d : I), jA s (.ref d) = some ((.ref d), s)) ∧
  (∀ (s : ao) (f : FuncId) (cap : List I), jA s (.fn f cap) = some ((.fn f cap), s)) ∧
  (∀ (s : ao) (x : Nat) (q : List Nat), jA s (.ar x q) = some ((.ar x q), s)) ∧
  (∀ (s : ao) , jA s .dv = some (.dv, s)) ∧
  (∀ (s : ao) , jA s .bp = some (.bp, s)) ∧
  (∀ (s : ao) , jA s .e_ = some (.e_, s)) ∧
  (∀ (s : ao) , jA s .hole = some (.hole, s)) ∧
  (∀ (s : ao) (sz : Nat) (xs : List I), jA s (.aP sz xs) = some ((.aP sz xs), s)) ∧
  (∀ (s : ao) (d : I), jA s (.a7 d) = some ((.a7 d), s)) ∧
  (∀ (s : ao) (ax : List I), jA s (.agg ax) = some ((.agg ax), s)) ∧
  (∀ (s : ao) (ax : List I), jA s (.tuple ax) = some ((.tuple ax), s)) ∧
  (∀ (s : ao) y q, jA s (.h y q) = cT s (.h y q)) :=
 ⟨fun _ _ _ => rfl, fun _ _ => rfl, fun _ _ => rfl, fun _ _ => rfl, fun _ _ => rfl, fun _ _ _ => rfl, fun _ _ _ => rfl, fun _  => rfl, fun _  => rfl, fun _  => rfl, fun _  => rfl, fun _ _ _ => rfl, fun _ _ => rfl, fun _ _ => rfl, fun _ _ => rfl, fun _ _ _ => rfl⟩
theorem Jd :
  (∀ (t : Nat) (k : IntKind) (n : Int), cS t (.int k n) = (.int k n)) ∧
  (∀ (t : Nat) (b : Bool), cS t (.bool b) = (.bool b)) ∧
  (∀ (t : Nat) (x : List UInt8), cS t (.str x) = (.str x)) ∧
  (∀ (t : Nat) (xs : List I), cS t (.slice xs) = (.slice xs)) ∧
  (∀ (t : Nat) (d : I), cS t (.ref d) = (.ref d)) ∧
  (∀ (t : Nat) , cS t .dv = .dv) ∧
  (∀ (t : Nat) , cS t .bp = .bp) ∧
  (∀ (t : Nat) , cS t .e_ = .e_) ∧
  (∀ (t : Nat) , cS t .hole = .hole) ∧
  (∀ (t : Nat) (sz : Nat) (xs : List I), cS t (.aP sz xs) = (.aP sz xs)) ∧
  (∀ (t : Nat) (d : I), cS t (.a7 d) = (.a7 d)) ∧
  (∀ (t : Nat) (ax : List I), cS t (.agg ax) = (.agg ax)) ∧
  (∀ (t : Nat) (ax : List I), cS t (.tuple ax) = (.tuple ax)) ∧
  (∀ (t y : Nat) q, cS t (.h y q) = if y = t then .hole else .h y q) ∧
  (∀ (t y : Nat) q, cS t (.ar y q) = if y = t then .hole else .ar y q) ∧
  (∀ (t : Nat) f c, cS t (.fn f c) = .fn f (jm t c)) ∧
  (∀ t, jm t [] = []) ∧
  (∀ t d ds, jm t (d :: ds) = cS t d :: jm t ds) ∧
  (∀ t, od t [] = []) ∧
  (∀ t u d l, od t ((u, d) :: l) = (u, cS t d) :: od t l) ∧
  (∀ t l, lE t (aa l) = aa (od t l)) :=
 ⟨fun _ _ _ => by unfold cS; rfl, fun _ _ => by unfold cS; rfl, fun _ _ => by unfold cS; rfl, fun _ _ => by unfold cS; rfl, fun _ _ => by unfold cS; rfl, fun _  => by unfold cS; rfl, fun _  => by unfold cS; rfl, fun _  => by unfold cS; rfl, fun _  => by unfold cS; rfl, fun _ _ _ => by unfold cS; rfl, fun _ _ => by unfold cS; rfl, fun _ _ => by unfold cS; rfl, fun _ _ => by unfold cS; rfl, fun _ _ _ => by unfold cS; rfl, fun _ _ _ => by unfold cS; rfl, fun _ _ _ => by simp only [cS], fun _ => by simp only [jm], fun _ _ _ => by simp only [jm], fun _ => rfl, fun _ _ _ _ => rfl, fun t l => wv t l⟩
theorem Je :
  (∀ (t : Nat) (k : IntKind) (n : Int), cd t (.int k n) = (.int k n)) ∧
  (∀ (t : Nat) (b : Bool), cd t (.bool b) = (.bool b)) ∧
  (∀ (t : Nat) (x : List UInt8), cd t (.str x) = (.str x)) ∧
  (∀ (t : Nat) (xs : List I), cd t (.slice xs) = (.slice xs)) ∧
  (∀ (t : Nat) (d : I), cd t (.ref d) = (.ref d)) ∧
  (∀ (t : Nat) , cd t .dv = .dv) ∧
  (∀ (t : Nat) , cd t .bp = .bp) ∧
  (∀ (t : Nat) , cd t .e_ = .e_) ∧
  (∀ (t : Nat) , cd t .hole = .hole) ∧
  (∀ (t : Nat) (sz : Nat) (xs : List I), cd t (.aP sz xs) = (.aP sz xs)) ∧
  (∀ (t : Nat) (d : I), cd t (.a7 d) = (.a7 d)) ∧
  (∀ (t : Nat) (ax : List I), cd t (.agg ax) = (.agg ax)) ∧
  (∀ (t : Nat) (ax : List I), cd t (.tuple ax) = (.tuple ax)) ∧
  (∀ (t y : Nat), cd t (.h y []) = .h y []) ∧
  (∀ (t y k : Nat) q, cd t (.h y (k :: q)) = if y = t then .hole else .h y (k :: q)) ∧
  (∀ (t y : Nat) q, cd t (.ar y q) = if y = t then .hole else .ar y q) ∧
  (∀ (t : Nat) f c, cd t (.fn f c) = .fn f (iP t c)) ∧
  (∀ t, iP t [] = []) ∧
  (∀ t d ds, iP t (d :: ds) = cd t d :: iP t ds) ∧
  (∀ t, rQ t [] = []) ∧
  (∀ t u d l, rQ t ((u, d) :: l) = (u, cd t d) :: rQ t l) ∧
  (∀ t l, iZ t (aa l) = aa (rQ t l)) :=
 ⟨fun _ _ _ => by unfold cd; rfl, fun _ _ => by unfold cd; rfl, fun _ _ => by unfold cd; rfl, fun _ _ => by unfold cd; rfl, fun _ _ => by unfold cd; rfl, fun _  => by unfold cd; rfl, fun _  => by unfold cd; rfl, fun _  => by unfold cd; rfl, fun _  => by unfold cd; rfl, fun _ _ _ => by unfold cd; rfl, fun _ _ => by unfold cd; rfl, fun _ _ => by unfold cd; rfl, fun _ _ => by unfold cd; rfl, fun _ _ => by simp [cd], fun _ _ _ _ => by simp [cd], fun _ _ _ => by unfold cd; rfl, fun _ _ _ => by simp only [cd], fun _ => by simp only [iP], fun _ _ _ => by simp only [iP], fun _ => rfl, fun _ _ _ _ => rfl, fun t l => RD t l⟩
def D8 : mY → Bool → Option I
 | .bool, b => some (.bool b)
 | _, _ => none
def rY (neg : Bool) : mY → Option (Option Bool) → Option I
 | .slice _, some r => some (vy neg r)
 | _, _ => none
def rZ (neg : Bool) : mY → Option Bool → Option I
 | .ptr _, some b => some (.bool (b != neg))
 | _, _ => none
theorem Jf (C : ck) (s : ao) (T : TypeId) :
  (∀ op k a db b, b1 C s op T (.int k a) (.int db b) = i1 op k a db b) ∧
  (∀ op a b, b1 C s op T (.str a) (.str b) = mB op a b) ∧
  (∀ a b, b1 C s .eql T (.bool a) (.bool b) = D8 (C.T T).k (a == b)) ∧
  (∀ a b, b1 C s .neq T (.bool a) (.bool b) = D8 (C.T T).k (!(a == b))) ∧
  (∀ xs, b1 C s .eql T (.slice xs) .bp = rY false (C.T T).k (k1 s (.slice xs))) ∧
  (∀ xs, b1 C s .neq T (.slice xs) .bp = rY true (C.T T).k (k1 s (.slice xs))) ∧
  (b1 C s .eql T .bp .bp = rY false (C.T T).k (k1 s .bp)) ∧
  (b1 C s .neq T .bp .bp = rY true (C.T T).k (k1 s .bp)) ∧
  (∀ x q, b1 C s .eql T (.h x q) .bp = rY false (C.T T).k (k1 s (.h x q))) ∧
  (∀ x q, b1 C s .neq T (.h x q) .bp = rY true (C.T T).k (k1 s (.h x q))) ∧
  (∀ x q, b1 C s .eql T (.h x q) .dv = rZ false (C.T T).k (k2 s (.h x q))) ∧
  (∀ x q, b1 C s .neq T (.h x q) .dv = rZ true (C.T T).k (k2 s (.h x q))) ∧
  (∀ d, b1 C s .eql T (.ref d) .dv = rZ false (C.T T).k (k2 s (.ref d))) ∧
  (∀ d, b1 C s .neq T (.ref d) .dv = rZ true (C.T T).k (k2 s (.ref d))) ∧
  (b1 C s .eql T .dv .dv = rZ false (C.T T).k (k2 s .dv)) ∧
  (b1 C s .neq T .dv .dv = rZ true (C.T T).k (k2 s .dv)) := by
 refine ⟨?_, ?_, ?_, ?_, ?_, ?_, ?_, ?_, ?_, ?_, ?_, ?_, ?_, ?_, ?_, ?_⟩ <;> intros <;> first
  | rfl
  | (simp only [b1]
     generalize (C.T T).k = lG
     cases lG <;> first | rfl | (simp only [rY]; generalize k1 s _ = v; cases v <;> rfl) | (simp only [rZ]; generalize k2 s _ = v; cases v <;> (try (rename_i b; cases b)) <;> rfl))
theorem Jg (k : IntKind) (a b : Int) :
  i1 .add k a k b = some (.int k (k.wrap (a + b))) ∧ i1 .sub k a k b = some (.int k (k.wrap (a - b))) ∧ i1 .mul k a k b = some (.int k (k.wrap (a * b))) ∧
  i1 .eql k a k b = some (.bool (a == b)) ∧ i1 .neq k a k b = some (.bool (a != b)) ∧ i1 .lss k a k b = some (.bool (decide (a < b))) ∧ i1 .leq k a k b = some (.bool (decide (a ≤ b))) ∧
  i1 .gtr k a k b = some (.bool (decide (b < a))) ∧ i1 .geq k a k b = some (.bool (decide (b ≤ a))) ∧
  i1 .and k a k b = some (.int k (bitsOf .and k a b)) ∧ i1 .or k a k b = some (.int k (bitsOf .or k a b)) ∧ i1 .xor k a k b = some (.int k (bitsOf .xor k a b)) ∧ i1 .andNot k a k b = some (.int k (bitsOf .andNot k a b)) := by
 simp [i1]
theorem Si {k : IntKind} {a b : Int} (h : b ≠ 0) : i1 .quo k a k b = some (.int k (k.wrap (a.tdiv b))) := by simp [i1, h]
theorem Sj {k : IntKind} {a b : Int} (h : b ≠ 0) : i1 .rem k a k b = some (.int k (a.tmod b)) := by simp [i1, h]
theorem Jh (a b : List UInt8) :
  mB .eql a b = some (.bool (a == b)) ∧ mB .neq a b = some (.bool !(a == b)) ∧ mB .lss a b = some (.bool (Op.bytesLess a b)) ∧
  mB .leq a b = some (.bool (Op.bytesLess a b || a == b)) ∧ mB .gtr a b = some (.bool !(Op.bytesLess a b || a == b)) ∧ mB .geq a b = some (.bool !(Op.bytesLess a b)) := by
 refine ⟨rfl, rfl, rfl, rfl, rfl, rfl⟩
theorem Ji : (∀ b, un .not (.bool b) = some (.bool !b)) ∧ (un .not .e_ = some .e_) ∧ (∀ k n, un .neg (.int k n) = some (.int k (k.wrap (0 - n)))) := ⟨fun _ => rfl, rfl, fun _ _ => rfl⟩
def D9 : mY → Option UInt8 → Option I
 | .str, some c => some (.int .u8 c.toNat)
 | _, _ => none
theorem Jj (C : ck) (T : TypeId) (l : List UInt8) (k : IntKind) (n : Int) : idx C T (.str l) (.int k n) = D9 (C.T T).k (bH l n) := by
 simp only [idx, bH]
 generalize (C.T T).k = lG
 cases lG <;> first | rfl | (simp only [D9]; split <;> first | rfl | (cases l[n.toNat]? <;> rfl))
def D_ (C : ck) : mY → Option I → Option I
 | .slice e, some d => if (C.T e).ok = true ∧ d.wd = (C.T e).sz then some (.ref d) else none
 | _, _ => none
theorem Jk (C : ck) (s : ao) (T : TypeId) (xs : List I) (k : IntKind) (n : Int) : e6 C s T (.slice xs) (.int k n) = D_ C (C.T T).k (bH xs n) := by
 simp only [e6, bH]
 generalize (C.T T).k = lG
 cases lG <;> first | rfl | skip
 simp only [D_]
 by_cases bc : 0 ≤ n
 ·simp only [bc, true_and, if_true]
  split
  ·cases xs[n.toNat]? <;> simp [*]
  ·cases xs[n.toNat]? <;> simp [*]
 ·simp only [bc, false_and, if_false]
def wA (C : ck) (y : Nat) (q : List Nat) (n : Int) : mY → Option I → Option I
 | .slice e, some (.aP sz xs) => if (bH xs n).isSome = true ∧ (C.T e).ok = true ∧ sz = (C.T e).sz then some (.ar y (q ++ [n.toNat])) else none
 | _, _ => none
theorem Jl (C : ck) (s : ao) (T : TypeId) (y : Nat) (q : List Nat) (k : IntKind) (n : Int) : e6 C s T (.h y q) (.int k n) = wA C y q n (C.T T).k (I.sub q (s y)) := by
 simp only [e6]
 generalize (C.T T).k = lG
 cases lG <;> first | rfl | skip
 rename_i e
 cases ad : I.sub q (s y) with
 | none => simp [wA]
 | some d =>
   cases d <;> first
    | (simp [wA]; done)
    | skip
   rename_i sz xs
   have bT : (bH xs n).isSome = true ↔ 0 ≤ n ∧ n.toNat < xs.length := by
    unfold bH; split <;> simp_all <;> omega
   simp only [wA, bT]
   by_cases bc : 0 ≤ n <;> by_cases ag : (C.T e).ok = true <;> simp [bc, ag]
def ud : mY → ao → Option (List UInt8) → Option (I × ao)
 | .str, s, some t => some (.str t, s)
 | _, _, _ => none
def ue (C : ck) : mY → ao → List I → Option (List I) → Option (I × ao)
 | .slice e, s, xs, some t => if (C.T e).ok = true ∧ ∀ d ∈ xs, d.wd = (C.T e).sz then some (.slice t, s) else none
 | _, _, _, _ => none
theorem Jm (C : ck) (s : ao) (T : TypeId) (l : List UInt8) :
  (∀ k a db b, fl C s T (.str l) (some (.int k a)) (some (.int db b)) = ud (C.T T).k s (jU l a b)) ∧
  (∀ db b, fl C s T (.str l) none (some (.int db b)) = ud (C.T T).k s (jU l 0 b)) ∧
  (∀ k a, fl C s T (.str l) (some (.int k a)) none = ud (C.T T).k s (jU l a l.length)) := by
 have e : ∀ (dc al : Option I) (a b : Int), (kb 0 dc = if 0 ≤ a then some a.toNat else none) → (kb l.length al = if 0 ≤ b then some b.toNat else none) → fl C s T (.str l) dc al = ud (C.T T).k s (jU l a b) := by
  intro dc al a b ag ah
  simp only [fl]
  generalize (C.T T).k = lG
  cases lG <;> first | rfl | skip
  simp only [ag, ah, jU]
  by_cases b_ : 0 ≤ a <;> by_cases ab : 0 ≤ b <;> simp only [b_, ab, if_true, if_false, ud, true_and, false_and]
  ·by_cases aw : a ≤ b ∧ b ≤ l.length
   ·rw [if_pos ⟨by omega, by omega⟩, if_pos aw]
   ·rw [if_neg (fun h => aw ⟨by omega, by omega⟩), if_neg aw]
  ·rw [if_neg (by omega)]
 exact ⟨fun k a db b => e _ _ a b rfl rfl, fun db b => e _ _ 0 b rfl rfl, fun k a => e _ _ a l.length rfl (by simp [kb])⟩
theorem Jn (C : ck) (s : ao) (T : TypeId) (xs : List I) :
  (∀ k a db b, fl C s T (.slice xs) (some (.int k a)) (some (.int db b)) = ue C (C.T T).k s xs (jU xs a b)) ∧
  (∀ db b, fl C s T (.slice xs) none (some (.int db b)) = ue C (C.T T).k s xs (jU xs 0 b)) ∧
  (∀ k a, fl C s T (.slice xs) (some (.int k a)) none = ue C (C.T T).k s xs (jU xs a xs.length)) := by
 have e : ∀ (dc al : Option I) (a b : Int), (kb 0 dc = if 0 ≤ a then some a.toNat else none) → (kb xs.length al = if 0 ≤ b then some b.toNat else none) → fl C s T (.slice xs) dc al = ue C (C.T T).k s xs (jU xs a b) := by
  intro dc al a b ag ah
  simp only [fl]
  generalize (C.T T).k = lG
  cases lG <;> first | rfl | skip
  simp only [ag, ah, jU]
  by_cases b_ : 0 ≤ a <;> by_cases ab : 0 ≤ b <;> simp only [b_, ab, if_true, if_false, ue, true_and, false_and]
  ·by_cases aw : a ≤ b ∧ b ≤ xs.length
   ·rw [if_pos aw]
    have ag : a.toNat ≤ b.toNat := by omega
    have ah : b.toNat ≤ xs.length := by omega
    simp only [ag, ah, true_and]
   ·rw [if_neg (fun h => aw ⟨by omega, by omega⟩), if_neg aw]
  ·rw [if_neg (by omega)]
 exact ⟨fun k a db b => e _ _ a b rfl rfl, fun db b => e _ _ 0 b rfl rfl, fun k a => e _ _ a xs.length rfl (by simp [kb])⟩
def wB (q : List Nat) : Option I → Option I
 | some d => I.sub q d
 | none => none
theorem Jo : (∀ d, I.sub [] d = some d) ∧ (∀ k q ax, I.sub (k :: q) (.agg ax) = wB q ax[k]?) ∧ (∀ k q ax, I.sub (k :: q) (.tuple ax) = wB q ax[k]?) ∧ (∀ k q sz xs, I.sub (k :: q) (.aP sz xs) = wB q xs[k]?) ∧
  (∀ q d, I.sub (0 :: q) (.a7 d) = I.sub q d) ∧ (∀ q d, wB q (some d) = I.sub q d) ∧
  (∀ k q a b, I.sub (k :: q) (.int a b) = none) := by
 refine ⟨fun d => by simp [I.sub], ?_, ?_, ?_, fun q d => by simp [I.sub], fun _ _ => rfl, fun _ _ _ _ => by simp [I.sub]⟩
 ·intro k q ax; simp only [I.sub]; cases ax[k]? <;> rfl
 ·intro k q ax; simp only [I.sub]; cases ax[k]? <;> rfl
 ·intro k q sz ax; simp only [I.sub]; cases ax[k]? <;> rfl
def Jp (k : Nat) (q : List Nat) (n : I) (ax : List I) : Option I → I
 | some d => .agg (ax.set k (I.put q n d))
 | none => .agg ax
def Jq (k : Nat) (q : List Nat) (n : I) (ax : List I) : Option I → I
 | some d => .tuple (ax.set k (I.put q n d))
 | none => .tuple ax
def Jr (k : Nat) (q : List Nat) (n : I) (sz : Nat) (xs : List I) : Option I → I
 | some d => .aP sz (xs.set k (I.put q n d))
 | none => .aP sz xs
theorem Js : (∀ n d, I.put [] n d = n) ∧ (∀ k q n ax, I.put (k :: q) n (.agg ax) = Jp k q n ax ax[k]?) ∧ (∀ k q n ax, I.put (k :: q) n (.tuple ax) = Jq k q n ax ax[k]?) ∧
  (∀ k q n sz xs, I.put (k :: q) n (.aP sz xs) = Jr k q n sz xs xs[k]?) ∧ (∀ q n d, I.put (0 :: q) n (.a7 d) = .a7 (I.put q n d)) ∧
  (∀ k q n ax d, Jp k q n ax (some d) = .agg (ax.set k (I.put q n d))) ∧ (∀ k q n ax d, Jq k q n ax (some d) = .tuple (ax.set k (I.put q n d))) ∧
  (∀ k q n sz xs d, Jr k q n sz xs (some d) = .aP sz (xs.set k (I.put q n d))) := by
 refine ⟨fun n d => by simp [I.put], ?_, ?_, ?_, fun q n d => by simp [I.put], fun _ _ _ _ _ => rfl, fun _ _ _ _ _ => rfl, fun _ _ _ _ _ _ => rfl⟩
 ·intro k q n ax; simp only [I.put]; cases ax[k]? <;> rfl
 ·intro k q n ax; simp only [I.put]; cases ax[k]? <;> rfl
 ·intro k q n sz ax; simp only [I.put]; cases ax[k]? <;> rfl
theorem Ea : (∀ k n, I.wd (.int k n) = 1) ∧ (∀ b, I.wd (.bool b) = 1) ∧ (∀ x, I.wd (.str x) = 1) ∧ (∀ x, I.wd (.slice x) = 1) ∧ (∀ n x, I.wd (.aP n x) = 1) ∧ (∀ x, I.wd (.ref x) = 1) ∧ (∀ x, I.wd (.a7 x) = 1) ∧
  I.wd .bp = 1 ∧ I.wd .dv = 1 ∧ I.wd .hole = 1 ∧ I.wd .e_ = 1 ∧ (∀ x y, I.wd (.h x y) = 1) ∧ (∀ x y, I.wd (.ar x y) = 1) ∧ (∀ x y, I.wd (.fn x y) = 1) ∧ (∀ ax, I.wd (.agg ax) = I.ek ax) ∧ (∀ ax, I.wd (.tuple ax) = I.ek ax) ∧ I.ek [] = 0 ∧ (∀ d ds, I.ek (d :: ds) = d.wd + I.ek ds) := by
 simp [I.wd, I.ek]
theorem uf (l : List UInt8) : (∀ d ∈ l.map gl, d.wd = 1) = True := by simp [gl, I.wd]
theorem Sk {α : Type} {e : α → I} {n : Nat} (h : ∀ x, (e x).wd = n) (xs : List α) : (∀ d ∈ xs.map e, d.wd = n) = True := by
 simp only [List.mem_map, eq_iff_iff, iff_true]
 rintro d ⟨x, _, rfl⟩; exact h x
theorem Sl (C : ck) (s : ao) (A B : TypeId) (k db : IntKind) (n : Int) (i6 : (C.T A).ok = true) (hC : (C.T B).k = .int db) : fW C s A B (.int k n) = some (.int db (db.wrap n)) := by
 simp only [fW, i6, hC, if_true]
theorem Jt (m : Int) : gl (oN m) = .int .u8 (IntKind.u8.wrap m) := by
 have h : 0 ≤ IntKind.u8.wrap m ∧ IntKind.u8.wrap m < 256 := by rw [IntKind.wrap_u8]; omega
 simp only [gl, oN, UInt8.toNat_ofNat']
 congr 1
 omega
theorem Eb (m : Int) : ((oN m).toNat : Int) = IntKind.u8.wrap m := by
 have h := Jt m
 simpa [gl] using h
section
variable {C : ck} {l : List (Nat × I)} {Q : Exit → ao → Prop} {s : ao}
theorem kf {ros : List b2} {k : List Nat} (h : cI C (aa l) ros none (fun _ s => Q .normal (aa (iT k s)))) : cW C (.R ros (some k)) Q (aa l) := rT (fun _ _ h => h) h
theorem Ju {ros : List b2} {gB : List (List Nat)} {k : List Nat} (hlen : gB.length = ros.length) (h : cI C (aa l) ros (some []) (fun acc s => lS (rW gB) 0 [] (acc.getD []).reverse = true ∧ Q .normal (aa (iT k s)))) :
  cW C (.fO ros gB (some k)) Q (aa l) := I7 hlen h
theorem Sm {a b : J} (h : ∀ ey : Exit → ao → Prop, (∀ s, el (cW C b Q) s → ey .normal s) → (∀ s, Q .ret s → ey .ret s) → (∀ i s, Q (.exit i) s → ey (.exit i) s) → cW C a ey s) : cW C (.seq a b) Q s :=
 h _ (fun _ h => h) (fun _ h => h) (fun _ _ h => h)
theorem dK {ros : List b2} {k : List Nat} {b : J} (h : cI C (aa l) ros none (fun _ s => cW C b Q (aa (iT k s)))) : cW C (.seq (.R ros (some k)) b) Q (aa l) := rT (fun _ _ h => .inl h) h
theorem fG {ros : List b2} {gB : List (List Nat)} {k : List Nat} {b : J} (hlen : gB.length = ros.length) (h : cI C (aa l) ros (some []) (fun acc s => lS (rW gB) 0 [] (acc.getD []).reverse = true ∧ cW C b Q (aa (iT k s)))) :
  cW C (.seq (.fO ros gB (some k)) b) Q (aa l) := I7 (K := fun s => el (cW C b Q) (aa (iT k s))) hlen (by
   have key : ∀ (os : List b2) (s : ao) (acc : Option (List fv)), cI C s os acc (fun acc s => lS (rW gB) 0 [] (acc.getD []).reverse = true ∧ cW C b Q (aa (iT k s))) →
     cI C s os acc (fun acc s => lS (rW gB) 0 [] (acc.getD []).reverse = true ∧ el (cW C b Q) (aa (iT k s))) := by
    intro os
    induction os with
    | nil => intro s acc h; exact ⟨h.1, .inl h.2⟩
    | cons o os ih =>
      intro s acc h
      have mono : ∀ {s : ao} {bG : fX} {K du : List Nat → I → ao → Prop}, (∀ a b c, K a b c → du a b c) → o_ C s bG K → o_ C s bG du := by
       intro s bG K du az h
       cases bG with
       | call f args =>
         obtain ⟨g, caps, ps, r, ag, hr, ah, aI, a_, bN, cQ, c5, fg⟩ := h
         exact ⟨g, caps, ps, r, ag, hr, ah, aI, a_, bN, cQ, c5, az _ _ _ fg⟩
       | shr bG => obtain ⟨av, s1, ag, ah, aI, a_⟩ := h; exact ⟨av, s1, ag, ah, aI, az _ _ _ a_⟩
       | l_ f args u x =>
         obtain ⟨bU, cb, g, caps, ps, r, ag, hr, ah, aI, a_, bN, cQ, c5, fg, ie, h1⟩ := h
         exact ⟨bU, cb, g, caps, ps, r, ag, hr, ah, aI, a_, bN, cQ, c5, fg, ie, az _ _ _ h1⟩
       | ma f args us =>
         obtain ⟨cb, g, caps, ps, r, ag, hr, ah, aI, a_, bN, cQ, c5, fg, ie⟩ := h
         exact ⟨cb, g, caps, ps, r, ag, hr, ah, aI, a_, bN, cQ, c5, fg, az _ _ _ ie⟩
       | _ => obtain ⟨av, s1, ag, ah⟩ := h; exact ⟨av, s1, ag, az _ _ _ ah⟩
      simp only [cI, oe] at h ⊢
      split
      ·rename_i bT; rw [bT] at h; exact mono (fun _ _ _ => ih _ _) h
      ·rename_i t fJ bT
       rw [bT] at h
       simp only at h
       split
       ·rename_i awP ad
        rw [ad] at h
        simp only at h
        split
        ·rename_i ab; rw [if_pos ab] at h; exact mono (fun _ _ _ => ih _ _) h
        ·rename_i ab; rw [if_neg ab] at h; exact ih _ _ h
       ·rename_i ad; rw [ad] at h; exact ih _ _ h
       ·rename_i ag ah
        split at h
        ·exact ag _ (by assumption)
        ·exact ah (by assumption)
        ·exact h
   exact key _ _ _ h)
theorem jc {c : aF} {a b : J} (aw : aK s c = .bool true) (h : cW C a Q s) : cW C (.cond c a b) Q s := by simp only [cW, aw, if_true]; exact h
theorem r0 {c : aF} {a b : J} (aw : aK s c = .bool false) (h : cW C b Q s) : cW C (.cond c a b) Q s := by simp only [cW, aw]; exact h
theorem So {id : Nat} {b : J} (h : ∀ ey : Exit → ao → Prop, (∀ s, Q .normal s → ey .normal s) → (∀ s, Q .ret s → ey .ret s) → (∀ s, Q .normal s → ey (.exit id) s) → (∀ i s, i ≠ id → Q (.exit i) s → ey (.exit i) s) → cW C b ey s) : cW C (.block id b) Q s :=
 h (tB id Q) (fun _ h => h) (fun _ h => h) (fun s h => by simp only [tB, if_true]; exact h) (fun i s al h => by simp only [tB, if_neg al]; exact h)
theorem dY {id : Nat} (h : Q (.exit id) s) : cW C (.exit id) Q s := h
theorem aC (h : Q .ret s) : cW C .ret Q s := h
theorem aW (h : Q .normal s) : cW C .skip Q s := h
def dE (C : ck) (b : J) (Q : Exit → ao → Prop) (s : ao) : Prop := ∀ Z : ao → Prop, (∀ aA, cW C b (andThen (el Z) Q) aA → Z aA) → Z s
theorem dZ {b : J} (h : el (dE C b Q) s) : cW C (.loop b) Q s := h
theorem Sp {b : J} (h : ∀ ey : Exit → ao → Prop, (∀ s, el (dE C b Q) s → ey .normal s) → (∀ s, Q .ret s → ey .ret s) → (∀ i s, Q (.exit i) s → ey (.exit i) s) → cW C b ey s) : dE C b Q s := by
 intro Z tD
 refine tD s (DP b ?_ (h (andThen (el (dE C b Q)) Q) (fun _ h => h) (fun _ h => h) (fun _ _ h => h)))
 intro e aA bx
 cases e with
 | normal => exact tC (fun s h => h Z tD) aA bx
 | _ => exact bx
theorem bs {ep : List (Nat × I)} (h : ep.map (·.2) = ep.map fun p => s p.1) : wo s ep := by
 intro p ar
 left
 induction ep with
 | nil => cases ar
 | cons a ep ih =>
   simp only [List.map_cons, List.cons.injEq] at h
   rcases List.mem_cons.1 ar with rfl | ar
   ·exact h.1
   ·exact ih h.2 ar
end
section
variable {C : ck} {l : List (Nat × I)} {Q : Exit → ao → Prop} {s : ao} {os ros : List b2} {K : Option (List fv) → ao → Prop} {dst : Option Nat}
theorem Jv (l : List (Nat × I)) : (∀ n, aK (aa l) (.t n) = jy n (aa l n)) ∧ (∀ av, aK (aa l) (.c av) = av) ∧ (∀ g, aK (aa l) (.f g) = .fn g []) := ⟨fun _ => rfl, fun _ => rfl, fun _ => rfl⟩
theorem Jw : (∀ t, aa [] t = .hole) ∧ (∀ u d (l : List (Nat × I)) t, aa ((u, d) :: l) t = if t = u then d else aa l t) := ⟨fun _ => rfl, fun _ _ _ _ => rfl⟩
theorem Jx (s : ao) : iT [] s = [] ∧ (∀ t k, iT (t :: k) s = (t, s t) :: iT k s) := ⟨rfl, fun _ _ => rfl⟩
theorem Jy (s : ao) : (∀ d, c9 s (some d) = some (d, s)) ∧ (∀ s1, gn (some s1) = some (.hole, s1)) ∧ jb s [] = [] ∧ (∀ x xs, jb s (x :: xs) = aK s x :: jb s xs) ∧ ke s [] = [] ∧ (∀ k x xs, ke s ((k, x) :: xs) = (k, aK s x) :: ke s xs) ∧
  la s none = none ∧ (∀ x, la s (some x) = some (aK s x)) ∧ (∀ b x y, qG s (.bool b) x y = some (if b = true then x else y, s)) :=
 ⟨fun _ => rfl, fun _ => rfl, rfl, fun _ _ => rfl, rfl, fun _ _ _ => rfl, rfl, fun _ => rfl, fun b _ _ => by cases b <;> rfl⟩
theorem Jz (C : ck) : (∀ e d, D_ C (.slice e) (some d) = if (C.T e).ok = true ∧ d.wd = (C.T e).sz then some (.ref d) else none) ∧
  (∀ y q n e sz xs, wA C y q n (.slice e) (some (.aP sz xs)) = if (bH xs n).isSome = true ∧ (C.T e).ok = true ∧ sz = (C.T e).sz then some (.ar y (q ++ [n.toNat])) else none) ∧
  (∀ e s xs t, ue C (.slice e) s xs (some t) = if (C.T e).ok = true ∧ ∀ d ∈ xs, d.wd = (C.T e).sz then some (.slice t, s) else none) :=
 ⟨fun _ _ => rfl, fun _ _ _ _ _ _ => rfl, fun _ _ _ _ => rfl⟩
theorem JA : (∀ b, D8 .bool b = some (.bool b)) ∧ (∀ c, D9 .str (some c) = some (.int .u8 c.toNat)) ∧ (∀ s t, ud .str s (some t) = some (.str t, s)) ∧ (∀ q d, wB q (some d) = I.sub q d) :=
 ⟨fun _ => rfl, fun _ => rfl, fun _ _ => rfl, fun _ _ => rfl⟩
theorem JB (sz bytes : Nat) (z : I) : (∀ k, gK.ok ⟨.int k, sz, bytes, z⟩ = true) ∧ gK.ok ⟨.bool, sz, bytes, z⟩ = true ∧ gK.ok ⟨.str, sz, bytes, z⟩ = true ∧ (∀ e, gK.ok ⟨.ptr e, sz, bytes, z⟩ = true) ∧ (∀ e, gK.ok ⟨.slice e, sz, bytes, z⟩ = true) ∧ (∀ e, gK.ok ⟨.struct e, sz, bytes, z⟩ = true) ∧ gK.ok ⟨.fn, sz, bytes, z⟩ = true := by
 simp [gK.ok]
theorem JC (sz bytes : Nat) (z : I) : (∀ k, gK.flat ⟨.int k, sz, bytes, z⟩ = true) ∧ gK.flat ⟨.bool, sz, bytes, z⟩ = true ∧ gK.flat ⟨.str, sz, bytes, z⟩ = true ∧ (∀ e, gK.flat ⟨.ptr e, sz, bytes, z⟩ = true) ∧ (∀ e, gK.flat ⟨.slice e, sz, bytes, z⟩ = true) ∧ (∀ e, gK.flat ⟨.struct e, sz, bytes, z⟩ = false) ∧ gK.flat ⟨.fn, sz, bytes, z⟩ = true := by
 simp [gK.flat]
theorem wC (c : UInt8) (k : IntKind) (az : k ≠ .i8) : k.wrap (c.toNat : Int) = (c.toNat : Int) := by
 have := c.toNat_lt
 cases k <;> first | (exact (az rfl).elim) | (simp [IntKind.wrap, IntKind.bits, IntKind.signed]; try omega)
theorem Ec (c : UInt8) : IntKind.i64.wrap (c.toNat : Int) = (c.toNat : Int) ∧ IntKind.u64.wrap (c.toNat : Int) = (c.toNat : Int) ∧ IntKind.u8.wrap (c.toNat : Int) = (c.toNat : Int) ∧ IntKind.i32.wrap (c.toNat : Int) = (c.toNat : Int) ∧ IntKind.u32.wrap (c.toNat : Int) = (c.toNat : Int) :=
 ⟨wC c _ (by simp), wC c _ (by simp), wC c _ (by simp), wC c _ (by simp), wC c _ (by simp)⟩
theorem cl {k : List Nat} {K : ao → Prop} (ep : List (Nat × I)) (h : ∀ P : List (Nat × I) → Prop, P ep → cI C (aa l) ros none (fun _ s => P (iT k s))) (az : K (aa ep)) : cI C (aa l) ros none (fun _ s => K (aa (iT k s))) :=
 h (fun l => K (aa l)) az
theorem fq {k : List Nat} {mh : List (List Nat)} {K : ao → Prop} (ep : List (Nat × I)) (h : ∀ P : List (Nat × I) → Prop, P ep → cI C (aa l) ros (some []) (fun acc s => lS mh 0 [] (acc.getD []).reverse = true ∧ P (iT k s))) (az : K (aa ep)) :
  cI C (aa l) ros (some []) (fun acc s => lS mh 0 [] (acc.getD []).reverse = true ∧ K (aa (iT k s))) :=
 h (fun l => K (aa l)) az
theorem bh.Sq (bl : C.e0) {f : FuncId} {fn : Func} {c : Code} {dq : J} {fx : List Nat} {as outs : List I} {r : I} (br : C.P.funcs[f]? = some fn) (ab : fn.body = some c)
  (kt : (fn.name == "runtime.NumGoroutine") = false) (ad : bj ⟨fn.ntmps, fx⟩ c = some dq.strip) (aY : as.length ≤ fn.ntmps)
  (h : ∀ Q : Exit → ao → Prop, (∀ s, el (Ends C fx fn.results.toList r outs) s → Q .ret s) → (∀ s, el (Ends C fx fn.results.toList r outs) s → Q .normal s) → cW C dq Q (aa (num 0 as))) (ar : dq.plain = true := by kernel_rfl) : bh C f as r outs := by
 refine bh.of_wp bl br ab kt ad aY ?_ ar
 rw [DV]
 exact h _ (fun s h => ⟨.inr rfl, h⟩) (fun s h => ⟨.inl rfl, h⟩)
def JD : List I → I
 | [d] => d
 | ds => .tuple ds
theorem JE {fx : List Nat} {fu : List ResultVar} {r : I} {outs : List I} (ds : List I) (ag : fu.map (pL C s) = ds.map some) (ah : r = JD ds) (aI : (fu.map jJ).Nodup)
  (a_ : ∀ (i : Nat) (o : I), outs[i]? = some o → o = .hole ∨ (o = s i ∧ o.gz = true ∧ i ∈ fx ∧ i ∉ fu.map jJ)) : Ends C fx fu r outs s := ⟨ds, ag, by subst ah; cases ds with | nil => rfl | cons a t => cases t <;> rfl, aI, a_⟩
theorem Sr {fx : List Nat} {fu : List ResultVar} : ∀ (i : Nat) (o : I), ([] : List I)[i]? = some o → o = .hole ∨ (o = s i ∧ o.gz = true ∧ i ∈ fx ∧ i ∉ fu.map jJ) := fun i o h => by simp at h
theorem JF : ∀ (as ds : List I), (lQ as ds).filter (·.g) = []
 | [], _ => rfl
 | _ :: _, [] => rfl
 | a :: as, d :: ds => by simp only [lQ, List.filter_cons]; exact JF as ds
theorem zg {f : aF} {args : List aF} {g : FuncId} {caps : List I} {K : List Nat → I → ao → Prop} (ds : List I) (r : I)
  (ag : aK (aa l) f = .fn g caps) (hr : I.gh caps = true) (jz : views (aa l) (jb (aa l) args ++ caps) = some ds)
  (bN : bh C g ds r []) (cQ : r.res = true) (c5 : I.eE (jb (aa l) args ++ caps) = [] ∨ r.c7 = true) (lP : K [] r (aa l)) : o_ C (aa l) (.call f args) K := by
 obtain ⟨aS, aX, aQ, ca, cR, bZ, bS⟩ := RE _ _ jz
 refine ⟨g, caps, lQ (jb (aa l) args ++ caps) ds, r, ag, hr, by rw [aS, zf], fun p ar => (aQ p ar).1, ca, by rw [aX]; exact bN.outs cR.symm, cQ, ?_, by rw [bZ, bS, JF]; exact lP⟩
 intro aR
 refine ⟨?_, fun p ar => by rw [(aQ p ar).2.2.1]; rfl⟩
 rcases c5 with c5 | c5
 ·exfalso
  simp only [k7, List.any_eq_true] at aR
  obtain ⟨p, ar, fT⟩ := aR
  have hm := (aQ p ar).2.2.2
  have : p.a.ad = [] := by
   have key : ∀ (as : List I) (a : I), a ∈ as → I.eE as = [] → a.ad = [] := by
    intro as
    induction as with
    | nil => intro a h; cases h
    | cons b as ih =>
      intro a h he
      simp only [I.eE, List.append_eq_nil_iff] at he
      rcases List.mem_cons.1 h with rfl | h
      ·exact he.1
      ·exact ih a h he.2
   exact key _ _ hm c5
  rw [this] at fT; simp at fT
 ·exact c5
theorem fw {f : aF} {args : List aF} {g : FuncId} {caps : List I} {ds : List I} {r : I} (bN : bh C g ds r [])
  (ag : aK (aa l) f = .fn g caps) (hr : I.gh caps = true) (jz : views (aa l) (jb (aa l) args ++ caps) = some ds)
  (cQ : r.res = true) (c5 : I.eE (jb (aa l) args ++ caps) = [] ∨ r.c7 = true)
  (lP : cI C (fin (aa l) dst r) os none K) : cI C (aa l) (⟨dst, .call f args, none⟩ :: os) none K := by
 simp only [cI, oe, qE]
 exact zg ds r ag hr jz bN cQ c5 lP
theorem gS {a : List fv} {f : aF} {args : List aF} {g : FuncId} {caps : List I} {ds : List I} {r : I} (bN : bh C g ds r [])
  (ag : aK (aa l) f = .fn g caps) (hr : I.gh caps = true) (jz : views (aa l) (jb (aa l) args ++ caps) = some ds)
  (cQ : r.res = true) (c5 : I.eE (jb (aa l) args ++ caps) = [] ∨ r.c7 = true)
  (lP : cI C (fin (aa l) dst r) os (some (ja (aa l) (use (aa l) (.call f args)) dst [] r :: a)) K) : cI C (aa l) (⟨dst, .call f args, none⟩ :: os) (some a) K := by
 simp only [cI, oe, qE]
 exact zg ds r ag hr jz bN cQ c5 lP
theorem hv {t : Nat} {b : Bool} {f : aF} {args : List aF} {g : FuncId} {caps : List I} {ds : List I} {r : I} (bN : bh C g ds r [])
  (ag : aK (aa l) f = .fn g caps) (hr : I.gh caps = true) (jz : views (aa l) (jb (aa l) args ++ caps) = some ds)
  (cQ : r.res = true) (c5 : I.eE (jb (aa l) args ++ caps) = [] ∨ r.c7 = true)
  (lP : cI C (fin (aa l) dst r) os none K) : cz C l dst (.call f args) t b os none K (.bool b) := by
 simp only [cz, if_true]
 exact zg ds r ag hr jz bN cQ c5 lP
theorem kv {a : List fv} {t : Nat} {b : Bool} {f : aF} {args : List aF} {g : FuncId} {caps : List I} {ds : List I} {r : I} (bN : bh C g ds r [])
  (ag : aK (aa l) f = .fn g caps) (hr : I.gh caps = true) (jz : views (aa l) (jb (aa l) args ++ caps) = some ds)
  (cQ : r.res = true) (c5 : I.eE (jb (aa l) args ++ caps) = [] ∨ r.c7 = true)
  (lP : cI C (fin (aa l) dst r) os (some (ja (aa l) (t :: use (aa l) (.call f args)) dst [] r :: a)) K) : cz C l dst (.call f args) t b os (some a) K (.bool b) := by
 simp only [cz, if_true]
 exact zg ds r ag hr jz bN cQ c5 lP
theorem kg (s : ao) : views s [] = some [] ∧ (∀ d ds, views s (d :: ds) = (match view s d, views s ds with | some a, some b => some (a :: b) | _, _ => none)) ∧
  (∀ k n, view s (.int k n) = some (.int k n)) ∧ (∀ b, view s (.bool b) = some (.bool b)) ∧ (∀ x, view s (.str x) = some (.str x)) ∧ (∀ x, view s (.slice x) = some (.slice x)) ∧ (∀ x, view s (.ref x) = some (.ref x)) ∧
  view s .bp = some .bp ∧ view s .dv = some .dv ∧ (∀ ax, view s (.agg ax) = some (.agg ax)) ∧ (∀ f cap, view s (.fn f cap) = (views s cap).map (.fn f)) := by
 refine ⟨rfl, fun d ds => ?_, fun _ _ => rfl, fun _ => rfl, fun _ => rfl, fun _ => rfl, fun _ => rfl, rfl, rfl, fun _ => rfl, fun _ _ => by simp only [view]⟩
 simp only [views]; rfl
theorem cF {α : Type} {u e : α → I} (h : ∀ x, (u x).share = e x) (xs : List α) : I.shares (xs.map u) = xs.map e := by
 rw [I.rh]; simp [h]
theorem lb {α : Type} {u : α → I} (h : ∀ x, (u x).c7 = true) (xs : List α) : I.h5 (xs.map u) = true := by
 induction xs with
 | nil => rfl
 | cons x xs ih => simp only [List.map_cons, I.h5, h, ih, Bool.and_self]
def qH (s : ao) (H : List Nat) : List (Nat × I) → Prop
 | [] => True
 | p :: l => (p.2 = s p.1 ∨ ((s p.1).tree = true ∧ fm (s p.1) p.2 ∧ p.1 ∉ H)) ∧ qH s H l
theorem ug {ep : List (Nat × I)} (H : List Nat) (mI : I.eE (ep.map (·.2)) = H) (h : qH s H ep) : wo s ep := by
 have key : ∀ (gQ : List (Nat × I)), qH s H gQ → ∀ p ∈ gQ, p.2 = s p.1 ∨ ((s p.1).tree = true ∧ fm (s p.1) p.2 ∧ p.1 ∉ H) := by
  intro gQ
  induction gQ with
  | nil => intro _ p ar; cases ar
  | cons a gQ ih =>
    intro h p ar
    rcases List.mem_cons.1 ar with rfl | ar
    ·exact h.1
    ·exact ih h.2 p ar
 have ad : ∀ (gQ : List (Nat × I)), ∀ cC ∈ gQ, ∀ u ∈ cC.2.ad, u ∈ I.eE (gQ.map (·.2)) := by
  intro gQ
  induction gQ with
  | nil => intro p ar; cases ar
  | cons a gQ ih =>
    intro p ar u hu
    simp only [List.map_cons, I.eE, List.mem_append]
    rcases List.mem_cons.1 ar with rfl | ar
    ·exact .inl hu
    ·exact .inr (ih p ar u hu)
 intro p ar
 rcases key _ h p ar with ag | ⟨ag, ah, aI⟩
 ·exact .inl ag
 ·refine .inr ⟨ag, ah, fun cC eM => .inl fun hm => aI ?_⟩
  rw [← mI]; exact ad ep cC eM _ hm
theorem uh {H : List Nat} : qH s H [] := trivial
theorem mi {H : List Nat} {t : Nat} {d : I} {ep : List (Nat × I)} (h : d = s t) (aR : qH s H ep) : qH s H ((t, d) :: ep) := ⟨.inl h, aR⟩
theorem ui {H : List Nat} {t : Nat} {d bz : I} {ep : List (Nat × I)} (e : s t = d) (bb : d.tree = true) (ai : fm d bz) (mI : t ∉ H) (aR : qH s H ep) : qH s H ((t, bz) :: ep) := ⟨.inr ⟨by rw [e]; exact bb, by rw [e]; exact ai, mI⟩, aR⟩
theorem JG {a b : I} (h : fm a b) : ∀ n, kd (List.replicate n a) (List.replicate n b)
 | 0 => .nil
 | n + 1 => by simp only [List.replicate_succ]; exact .cons h (JG h n)
theorem wD {α : Type} {sz : Nat} {u : α → I} {z : α} {a : I} (h : fm a (u z)) (n : Nat) : fm (.aP sz (List.replicate n a)) (.aP sz ((List.replicate n z).map u)) := by
 rw [List.map_replicate]; exact .aP (JG h n)
end
theorem JH {C : ck} {A B : TypeId} {db : IntKind} (i6 : (C.T A).ok = true) (hC : (C.T B).k = .int db) : ∀ s k n, fW C s A B (.int k n) = some (.int db (db.wrap n)) := fun s k n => Sl C s A B k db n i6 hC
def JI : Option I → Option I
 | some (.aP 1 xs) => (bytesOf xs).map .str
 | _ => none
theorem JJ {C : ck} {A B e : TypeId} (i6 : (C.T A).k = .slice e) (hC : (C.T B).k = .str) (he : (C.T e).k = .int .u8) :
  (∀ s xs, fW C s A B (.slice xs) = (bytesOf xs).map .str) ∧ (∀ s, fW C s A B .bp = some (.str [])) ∧ (∀ s x q, fW C s A B (.h x q) = JI (I.sub q (s x))) := by
 have vP : (C.T A).ok = true := by simp [gK.ok, i6]
 refine ⟨fun s xs => ?_, fun s => ?_, fun s x q => ?_⟩
 ·simp only [fW, vP, i6, hC, he, if_true]
 ·simp only [fW, vP, i6, hC, he, if_true]
 ·simp only [fW, vP, i6, hC, he, if_true]
  rfl
theorem JK (xs : List I) : JI (some (.aP 1 xs)) = (bytesOf xs).map .str := rfl
theorem JL (c : UInt8) (r : List I) : bytesOf (gl c :: r) = (bytesOf r).map (c :: ·) := by
 have := c.toNat_lt
 simp only [gl, bytesOf]
 rw [if_pos (by omega)]
 simp
theorem JM : bytesOf [] = some [] ∧ (∀ l : List UInt8, bytesOf (l.map gl) = some l) ∧ (∀ (c : UInt8) r, bytesOf (.int .u8 (c.toNat : Int) :: r) = (bytesOf r).map (c :: ·)) ∧
  (∀ m r, bytesOf (.int .u8 (IntKind.u8.wrap m) :: r) = (bytesOf r).map (oN m :: ·)) :=
 ⟨rfl, Pt, fun c r => JL c r, fun m r => by rw [← Jt]; exact JL _ r⟩
theorem Ss {k : IntKind} {b : Int} (h : b ≠ 0) : ∀ a, i1 .quo k a k b = some (.int k (k.wrap (a.tdiv b))) := fun _ => Si h
theorem St {k : IntKind} {b : Int} (h : b ≠ 0) : ∀ a, i1 .rem k a k b = some (.int k (a.tmod b)) := fun _ => Sj h
theorem r1 {α : Type} {e : α → I} {n : Nat} (h : ∀ x, (e x).wd = n) : ∀ xs : List α, (∀ d ∈ xs.map e, d.wd = n) = True := Sk h
theorem all_cons {P : I → Prop} (d : I) (ds : List I) : (∀ x ∈ d :: ds, P x) = (P d ∧ ∀ x ∈ ds, P x) := by simp
theorem all_nil {P : I → Prop} : (∀ x ∈ ([] : List I), P x) = True := by simp
def JN (a b : List UInt8) : Option Unit → Option I
 | some _ => some (.str (a ++ b))
 | none => none
theorem kN (a b : List UInt8) : mB .add a b = JN a b (kE (a.length + b.length)) := by
 simp only [mB, kE]; split <;> rfl
theorem kO (a b : List UInt8) (u : Unit) : JN a b (some u) = some (.str (a ++ b)) := rfl
theorem JO : (∀ l : List Nat, [] ++ l = l) ∧ (∀ a (l m : List Nat), (a :: l) ++ m = a :: (l ++ m)) := ⟨fun _ => rfl, fun _ _ _ => rfl⟩
def JP (C : ck) (e bF : TypeId) : Bool := (C.T e).ok && ((C.T e).zero.wd == (C.T e).sz) && (flat (C.T e).zero).isSome && yM C e bF
def zh (C : ck) (e : TypeId) (xs : List I) : Option (List I × ao) → Option (I × ao)
 | some (cn, s2) => if (∀ d ∈ cn, d.wd = (C.T e).sz) ∧ (room (C.T e).bytes (xs.length + cn.length)).isSome = true then some (.aP (C.T e).sz (xs ++ cn), s2) else none
 | none => none
def Ed (C : ck) (e : TypeId) (y : I) (o : Option Nat) : Option (I × ao) → Option (I × ao)
 | some (.aP sz xs, s1) => if sz = (C.T e).sz then zh C e xs (k6 s1 (kG o y)) else none
 | _ => none
theorem Su (b n : Nat) : (room b n).isSome = true ↔ n * b ≤ 140737488355328 ∧ n ≤ 9223372036854775807 := by unfold room; split <;> simp_all
theorem pM {C : ck} {T bF e : TypeId} (l8 : (C.T T).k = .slice e) (gA : JP C e bF = true) : ∀ s x y, lL C s T bF x y = Ed C e y x.owner (o2 C e s x) := by
 intro s x y
 simp only [JP, Bool.and_eq_true, beq_iff_eq] at gA
 rw [Dr, l8]
 simp only
 rw [if_pos ⟨gA.1.1.1, gA.1.1.2, gA.1.2, gA.2⟩]
 generalize x.owner = o
 cases o2 C e s x with
 | none => rfl
 | some p =>
   obtain ⟨d, s1⟩ := p
   cases d <;> first
    | rfl
    | (simp only [Ed]
       split
       ·rename_i h; subst h
        generalize k6 s1 (kG o y) = z
        cases z with
        | none => rfl
        | some p => simp only [zh, Su]
       ·rfl)
def JQ : Option (I × ao) → Option (List I × ao)
 | some (.aP _ cn, s2) => some (cn, s2)
 | _ => none
theorem pN (s : ao) : k6 s .bp = some ([], s) ∧ (∀ cn, k6 s (.slice cn) = some (cn, s)) ∧ (∀ l, k6 s (.str l) = some (l.map gl, s)) ∧
  (∀ a q, k6 s (.h a q) = JQ (cT s (.h a q))) ∧ (∀ n cn, JQ (some (.aP n cn, s)) = some (cn, s)) :=
 ⟨rfl, fun _ => rfl, fun _ => rfl, fun _ _ => by simp only [k6]; rfl, fun _ _ => rfl⟩
theorem pO (C : ck) (e : TypeId) : (∀ s, o2 C e s .bp = some (.aP (C.T e).sz [], s)) ∧ (∀ s a q, o2 C e s (.h a q) = cT s (.h a q)) ∧
  (∀ y o sz xs s1, Ed C e y o (some (.aP sz xs, s1)) = if sz = (C.T e).sz then zh C e xs (k6 s1 (kG o y)) else none) ∧
  (∀ xs cn s2, zh C e xs (some (cn, s2)) = if (∀ d ∈ cn, d.wd = (C.T e).sz) ∧ (room (C.T e).bytes (xs.length + cn.length)).isSome = true then some (.aP (C.T e).sz (xs ++ cn), s2) else none) :=
 ⟨fun _ => rfl, fun _ _ _ => rfl, fun _ _ _ _ _ => rfl, fun _ _ _ => rfl⟩
theorem pP : (∀ d, kG none d = d) ∧ (∀ x d, kG (some x) d = cd x d) ∧ (∀ x q, I.owner (.h x q) = some x) ∧ I.owner .bp = none :=
 ⟨fun _ => rfl, fun _ _ => rfl, fun _ _ => rfl, rfl⟩
def JR (s : ao) (x : Nat) (q : List Nat) : Option I → Option (I × ao)
 | some d => if d.plain = true then none else some (d, dw (iZ x s) x (I.put q d.de (s x)))
 | none => none
theorem JS (s : ao) (x : Nat) (q : List Nat) : cT s (.h x q) = JR s x q (I.sub q (s x)) := by
 simp only [cT]; cases I.sub q (s x) <;> rfl
theorem JT (s : ao) : (∀ x q d, JR s x q (some d) = if d.plain = true then none else some (d, dw (iZ x s) x (I.put q d.de (s x)))) ∧ (∀ k n, cT s (.int k n) = some (.int k n, s)) ∧ (∀ b, cT s (.bool b) = some (.bool b, s)) ∧ (∀ x, cT s (.str x) = some (.str x, s)) ∧
  (∀ x, cT s (.slice x) = some (.slice x, s)) ∧ (∀ x, cT s (.ref x) = some (.ref x, s)) ∧ (∀ x, cT s (.agg x) = some (.agg x, s)) ∧ cT s .bp = some (.bp, s) ∧ cT s .dv = some (.dv, s) :=
 ⟨fun _ _ _ => rfl, fun _ _ => rfl, fun _ => rfl, fun _ => rfl, fun _ => rfl, fun _ => rfl, fun _ => rfl, rfl, rfl⟩
theorem JU (l : List (Nat × I)) (t : Nat) (d : I) : dw (aa l) t d = aa ((t, d) :: l) := k_ l t d
theorem JV : (∀ n x, I.de (.aP n x) = .hole) ∧ (∀ x, I.de (.a7 x) = .hole) ∧ (∀ ax, I.de (.agg ax) = .agg (I.kU ax)) ∧ (∀ ax, I.de (.tuple ax) = .tuple (I.kU ax)) ∧ I.kU [] = [] ∧ (∀ d ds, I.kU (d :: ds) = d.de :: I.kU ds) ∧
  (∀ k n, I.de (.int k n) = .int k n) ∧ (∀ b, I.de (.bool b) = .bool b) ∧ (∀ x, I.de (.str x) = .str x) ∧ (∀ x, I.de (.slice x) = .slice x) ∧ (∀ x, I.de (.ref x) = .ref x) ∧ I.de .bp = .bp ∧ I.de .dv = .dv ∧ I.de .hole = .hole := by
 simp [I.de, I.kU]
def r2 : Option I → Option I
 | some d => (match d with | .tuple _ => none | d => if d.plain = true then none else some d.share)
 | none => none
def r3 : Option I → Option I
 | some d => (match d with | .tuple _ => none | d => some (.ref d.share))
 | none => none
theorem kh (s : ao) (x : Nat) (q : List Nat) : view s (.h x q) = r2 (I.sub q (s x)) ∧ view s (.ar x q) = (if I.ft q (s x) = true then r3 (I.sub q (s x)) else none) := by
 constructor
 ·simp only [view]; rfl
 ·simp only [view]; rfl
theorem ki : (∀ n xs, r2 (some (.aP n xs)) = some (.slice (I.shares xs))) ∧ (∀ d, r2 (some (.a7 d)) = some (.ref d.share)) ∧ (∀ ax, r2 (some (.agg ax)) = if I.gh ax = true then none else some (.agg (I.shares ax))) ∧
  (∀ ax, r3 (some (.agg ax)) = some (.ref (.agg (I.shares ax)))) ∧ (∀ k n, r3 (some (.int k n)) = some (.ref (.int k n))) ∧ (∀ x, r3 (some (.str x)) = some (.ref (.str x))) :=
 ⟨fun _ _ => by simp [r2, I.plain, I.share], fun _ => by simp [r2, I.plain, I.share], fun ax => by cases h : I.gh ax <;> simp [r2, I.plain, I.share, h], fun _ => by simp [r3, I.share], fun _ _ => by simp [r3, I.share], fun _ => by simp [r3, I.share]⟩
theorem ef : (∀ n xs, I.share (.aP n xs) = .slice (I.shares xs)) ∧ (∀ d, I.share (.a7 d) = .ref d.share) ∧ (∀ xs, I.share (.slice xs) = .slice (I.shares xs)) ∧ (∀ d, I.share (.ref d) = .ref d.share) ∧ (∀ ax, I.share (.agg ax) = .agg (I.shares ax)) ∧ (∀ ax, I.share (.tuple ax) = .tuple (I.shares ax)) ∧
  (∀ k n, I.share (.int k n) = .int k n) ∧ (∀ b, I.share (.bool b) = .bool b) ∧ (∀ x, I.share (.str x) = .str x) ∧ I.share .bp = .bp ∧ I.share .dv = .dv ∧ I.shares [] = [] ∧ (∀ d ds, I.shares (d :: ds) = d.share :: I.shares ds) := by
 simp [I.share, I.shares]
theorem h6 : (∀ k n, I.owner (.int k n) = none) ∧ (∀ b, I.owner (.bool b) = none) ∧ (∀ x, I.owner (.str x) = none) ∧ (∀ x, I.owner (.slice x) = none) ∧ (∀ x, I.owner (.ref x) = none) ∧ (∀ x, I.owner (.agg x) = none) ∧ I.owner .dv = none ∧ I.owner .bp = none ∧ (∀ x q, I.owner (.h x q) = some x) :=
 ⟨fun _ _ => rfl, fun _ => rfl, fun _ => rfl, fun _ => rfl, fun _ => rfl, fun _ => rfl, rfl, rfl, fun _ _ => rfl⟩
end Go.c0
