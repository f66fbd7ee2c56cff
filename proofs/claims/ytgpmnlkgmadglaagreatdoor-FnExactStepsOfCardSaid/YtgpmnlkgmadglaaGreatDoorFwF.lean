/- Part of a proof that a law returns true for every input. No condition. -/
import Derived.Test.YtgpmnlkgmadglaaGreatDoorFwE
import Derived.Orders
import Derived.KernelRfl
import Derived.Test.YtgpmnlkgmadglaaGreatDoorFwA
namespace Go.cY
section
variable {C : b4} {w0 w : World} {F0 X : Nat → Prop} {n : Fr} {ρ : Nat → Value} {s s1 : al} {a : Act} {av : I} {Q : Exit → Act → World → Prop}
def bU.un (o : bU) : bU := ⟨o.dst, o.bD.base, o.guard⟩
theorem yz {ops : Array Oper} : ∀ {os : List Oper} {rs : List bU}, qm n ops os = some rs → os.length = rs.length ∧ ∀ (i : Nat) (o : Oper), os[i]? = some o → ∃ r, rs[i]? = some r ∧ ql n ops o = some r := by
 intro os
 induction os with
 | nil => intro rs h; simp only [qm, Option.some.injEq] at h; subst h; exact ⟨rfl, fun i o h => by simp at h⟩
 | cons o os ih =>
   intro rs h
   simp only [qm] at h
   split at h
   ·rename_i r ay1 af ag
    simp only [Option.some.injEq] at h; subst h
    obtain ⟨bt, b0⟩ := ih ag
    refine ⟨by simp [bt], fun i nJ bJ => ?_⟩
    cases i with
    | zero => simp at bJ; subst bJ; exact ⟨r, rfl, af⟩
    | succ i => simpa using b0 i nJ (by simpa using bJ)
   ·cases h
theorem Bo {o : Oper} {y : Nat → Option Bool} (h : o.guard = none) : Region.wanted o y = true := by simp [Region.wanted, h]
theorem Ub (h : Rel w0 F0 X n ρ s a w) {ops : Array Oper} {j t : Nat} (bw : (ops[j]?).bind (·.dst) = some t) :
  (∀ b, s t = .bool b → yielded ops a.tmps j = some b) ∧ (s t = .tuple [] → yielded ops a.tmps j = none) := by
 obtain ⟨ai, ab, bz, F, S, aW⟩ := h
 have jG := aW.dp t
 refine ⟨fun b aa => ?_, fun aa => ?_⟩
 ·rw [aa] at jG
  have aK := r3 jG
  simp only [yielded, bw, Option.bind_some]
  rw [Array.getD_eq_getD_getElem?] at aK
  cases bA : a.tmps[t]? with
  | none => rw [bA] at aK; simp [undef] at aK
  | some v => rw [bA] at aK; simp at aK; subst aK; rfl
 ·rw [aa] at jG
  obtain ⟨⟨arr, af, ag⟩, _⟩ := (aI.cJ (d := .tuple []) rfl).1 jG
  simp only [yielded, bw, Option.bind_some]
  rw [Array.getD_eq_getD_getElem?] at af
  cases bA : a.tmps[t]? with
  | none => rfl
  | some v => rw [bA] at af; simp at af; subst af; rfl
theorem Gf (bp : C.eP) {ops : Array Oper} {ros : List bU} {l2 : List Nat} {K : al → Prop} (bc : ∀ az cN aL, K az → Rel w0 F0 X n ρ az cN aL → wpOps C.P ops Q l2 cN aL) :
  ∀ (l : List Nat), (∀ i ∈ l, (ops[i]? = none → ros[i]? = none) ∧ ∀ o, ops[i]? = some o → ∃ r, ros[i]? = some r ∧ ql n ops o = some r.un) →
  ∀ (s : al) (a : Act) (w : World), jk C ros s l K → Rel w0 F0 X n ρ s a w → wpOps C.P ops Q (l ++ l2) a w := by
 intro l
 induction l with
 | nil => intro _ s a w h aW; exact bc s a w h aW
 | cons i l ih =>
   intro qo s a w h aW
   replace ih := ih fun i an => qo i (List.mem_cons_of_mem _ an)
   rw [List.cons_append]
   simp only [wpOps]
   cases bJ : ops[i]? with
   | none =>
     simp only [jk, (qo i (by simp)).1 bJ] at h
     exact ih s a w h aW
   | some o =>
     obtain ⟨r, af, ag⟩ := (qo i (by simp)).2 o bJ
     simp only [jk, af] at h
     show (if Region.wanted o (yielded ops a.tmps) = true then o.wp C.P a w (wpOps C.P ops Q (l ++ l2)) Q ∨ (o.asks C.P a w ∧ LetsOut Q) else wpOps C.P ops Q (l ++ l2) (a.put o.dst undef) w)
     simp only [ql] at ag
     split at ag
     ·rename_i Bp
      split at ag
      ·rename_i g bA
       obtain ⟨rd, bD, rg⟩ := r
       simp only [bU.un, Option.some.injEq, bU.mk.injEq] at ag
       obtain ⟨rfl, cm, rfl⟩ := ag
       simp only [mn] at h
       have run : ∀ (dx : al → Prop), (∀ az, dx az → jk C ros az l K) → ov C s bD (fun av s1 => dx (fin s1 o.dst av)) → o.wp C.P a w (wpOps C.P ops Q (l ++ l2)) Q :=
        fun dx kr hw => T9 bp aW cm Bp hw (fun az cN aL ar ez => ih az cN aL (kr az ar) ez)
       cases vJ : o.guard with
       | none =>
         rw [vJ] at bA
         simp only [yt, Option.some.injEq] at bA; subst bA
         simp only at h
         rw [if_pos (Bo vJ)]
         exact .inl (run _ (fun _ h => h) h)
       | some Gg =>
         obtain ⟨j, b⟩ := Gg
         rw [vJ] at bA
         simp only [yt] at bA
         split at bA
         ·rename_i t a1
          simp only [Option.some.injEq] at bA; subst bA
          simp only at h
          obtain ⟨fM, iT⟩ := Ub aW a1
          have La : ∀ (dx : jk C ros (fin s o.dst (.tuple [])) l K), wpOps C.P ops Q (l ++ l2) (a.put o.dst undef) w := fun dx => ih _ _ _ dx (Rel.skip aW Bp)
          split at h
          ·rename_i fX ab
           have hy := fM fX ab
           split at h
           ·rename_i aa; subst aa
            rw [if_pos (by simp [Region.wanted, vJ, hy])]
            exact .inl (run _ (fun _ h => h) h)
           ·rename_i aa
            rw [if_neg (by simp [Region.wanted, vJ, hy, aa])]
            exact La h
          ·rename_i ab
           have hy := iT ab
           rw [if_neg (by simp [Region.wanted, vJ, hy])]
           exact La h
          ·exact h.elim
         ·cases bA
      ·cases ag
     ·cases ag
theorem Lb (bp : C.eP) {ops : Array Oper} {ros : List bU} (si : qm n ops ops.toList = some (ros.map bU.un)) {K : al → Prop} (bc : ∀ az cN aL, K az → Rel w0 F0 X n ρ az cN aL → Q .normal cN aL) :
  ∀ (l : List Nat) (s : al) (a : Act) (w : World), jk C ros s l K → Rel w0 F0 X n ρ s a w → wpOps C.P ops Q l a w := by
 obtain ⟨hl, qo⟩ := yz si
 intro l s a w h aW
 have := Gf (Q := Q) bp (ros := ros) (ops := ops) (l2 := []) (K := K) (n := n) (ρ := ρ) (w0 := w0) (F0 := F0) (X := X) (fun az cN aL ar ez => bc az cN aL ar ez) l (fun i _ => ⟨fun bJ => by
   rw [List.getElem?_eq_none_iff, ← List.length_map (f := bU.un), ← hl]
   have := Array.getElem?_eq_none_iff.1 bJ
   simpa using this, fun o bJ => by
   obtain ⟨aC, h6, ag⟩ := qo i o (by simpa using bJ)
   obtain ⟨r, af, rfl⟩ : ∃ r, ros[i]? = some r ∧ r.un = aC := by simpa using h6
   exact ⟨r, af, ag⟩⟩) s a w h aW
 rwa [List.append_nil] at this
theorem Rel.drawn (h : Rel w0 F0 X n ρ s a w) (k : Nat) : Rel w0 F0 X n ρ s a { w with drawn := k } := by
 obtain ⟨af, ag, bz, F, S, aF⟩ := h
 exact ⟨af, ag, bz, F, S, aF.grow (fun _ _ => rfl) (Nat.le_refl _) rfl rfl rfl⟩
theorem Uc (bp : C.eP) {id : Nat} {ops : Array Oper} {ros : List bU} (si : qm n ops ops.toList = some (ros.map bU.un)) {K : al → Prop} (bc : ∀ az cN aL, K az → Rel w0 F0 X n ρ az cN aL → Q .normal cN aL)
  (h : lV C s ros K) (aW : Rel w0 F0 X n ρ s a w) : (Code.region id ops false).wp C.P Q a w := by
 refine wp_region (Lb bp si bc _ s a w ?_ aW)
 have := TS C K ros [] s h
 have hl := (yz si).1
 simp only [List.nil_append, List.length_nil, Nat.add_zero, List.map_id'] at this
 rw [List.length_map] at hl
 rw [← hl] at this
 simpa using this
end
def pC (pD : List (List Nat)) (l : List Nat) : Prop :=
 l.Nodup ∧ (∀ i, i ∈ l ↔ i < pD.length) ∧ ∀ u i v, l = u ++ i :: v → ∀ e ∈ (pD[i]?).getD [], e ∈ u
def ow (ops : Array Oper) : List (List Nat) := ops.toList.map fun o => (o.after.toList.filter fun e => Region.binds .any e).map (·.on)
def yA (pD : List (List Nat)) : Bool := pD.zipIdx.all fun p => p.1.all fun e => decide (e < p.2)
theorem Ud {pD : List (List Nat)} (h : yA pD = true) {i : Nat} {l : List Nat} (an : pD[i]? = some l) : ∀ e ∈ l, e < i := by
 intro e he
 simp only [yA, List.all_eq_true] at h
 have := h (l, i) (by rw [List.mem_zipIdx_iff_getElem?]; exact an) e he
 simpa using this
theorem Ue {ops : Array Oper} (aa : yA (ow ops) = true) : ∀ (fuel t : Nat) (listed : Array Bool), listed.size = ops.size → ((List.range ops.size).filter fun i => !listed.getD i true).length ≤ fuel →
  (Region.linearise.go .any ops fuel t listed []).Nodup ∧ (∀ i, i ∈ Region.linearise.go .any ops fuel t listed [] ↔ (i < ops.size ∧ listed.getD i true = false)) ∧
   ∀ u i v, Region.linearise.go .any ops fuel t listed [] = u ++ i :: v → ∀ e ∈ ((ow ops)[i]?).getD [], listed.getD e false = true ∨ e ∈ u := by
 intro fuel
 induction fuel with
 | zero =>
   intro t listed ab hl
   have yf : ((List.range ops.size).filter fun i => !listed.getD i true) = [] := List.length_eq_zero_iff.1 (Nat.le_zero.1 hl)
   refine ⟨by simp [Region.linearise.go], fun i => ?_, fun u i v h => by simp [Region.linearise.go] at h⟩
   simp only [Region.linearise.go, List.reverse_nil, List.not_mem_nil, false_iff, not_and]
   intro an bz
   have : i ∈ ((List.range ops.size).filter fun i => !listed.getD i true) := List.mem_filter.2 ⟨List.mem_range.2 an, by rw [bz]; rfl⟩
   rw [yf] at this; cases this
 | succ fuel ih =>
   intro t listed ab hl
   have Lc : ∀ i, i ∈ Region.ready .any ops listed ↔ (i < ops.size ∧ listed.getD i true = false ∧ ∀ e ∈ ((ow ops)[i]?).getD [], listed.getD e false = true) := by
    intro i
    simp only [Region.ready, List.mem_filter, List.mem_range, Bool.and_eq_true, Bool.not_eq_true']
    constructor
    ·rintro ⟨af, ag, aF⟩
     refine ⟨af, ag, ?_⟩
     rw [Array.getElem?_eq_getElem af] at aF
     simp only [Option.map_some, Option.getD_some, Array.all_eq_true_iff_forall_mem] at aF
     simp only [ow, List.getElem?_map, Array.getElem?_toList, Array.getElem?_eq_getElem af, Option.map_some, Option.getD_some, List.mem_map, List.mem_filter]
     rintro e ⟨x, ⟨aq, tu⟩, rfl⟩
     have := aF x (by simpa using aq)
     simpa [tu] using this
    ·rintro ⟨af, ag, aF⟩
     refine ⟨af, ag, ?_⟩
     rw [Array.getElem?_eq_getElem af]
     simp only [Option.map_some, Option.getD_some, Array.all_eq_true_iff_forall_mem]
     simp only [ow, List.getElem?_map, Array.getElem?_toList, Array.getElem?_eq_getElem af, Option.map_some, Option.getD_some, List.mem_map, List.mem_filter] at aF
     intro x aq
     cases tu : Region.binds .any x with
     | false => simp
     | true => simpa using aF x.on ⟨x, ⟨by simpa using aq, tu⟩, rfl⟩
   have hex : (∃ i, i < ops.size ∧ listed.getD i true = false) → Region.ready .any ops listed ≠ [] := by
    rintro ⟨i, af, ag⟩
    have : ∃ i, (i < ops.size ∧ listed.getD i true = false) ∧ ∀ j, j < i → ¬ (j < ops.size ∧ listed.getD j true = false) := by
     induction i using Nat.strongRecOn with
     | _ i Uf =>
       by_cases bw : ∃ j, j < i ∧ (j < ops.size ∧ listed.getD j true = false)
       ·obtain ⟨j, ox, nM, Ug⟩ := bw
        exact Uf j ox nM Ug
       ·exact ⟨i, ⟨af, ag⟩, fun j Uh ao => bw ⟨j, Uh, ao⟩⟩
    obtain ⟨k, ⟨bt, b0⟩, dK⟩ := this
    have : k ∈ Region.ready .any ops listed := (Lc k).2 ⟨bt, b0, fun e he => by
     cases bF : (ow ops)[k]? with
     | none => rw [bF] at he; simp at he
     | some l =>
       rw [bF] at he
       have dZ := Ud aa bF e he
       have := dK e dZ
       rw [not_and] at this
       have := this (by omega)
       have nN : e < listed.size := by omega
       simp only [Array.getD_eq_getD_getElem?, Array.getElem?_eq_getElem nN, Option.getD_some] at this ⊢
       simpa using this⟩
    intro e; rw [e] at this; cases this
   have tF : Region.linearise.go .any ops (fuel + 1) t listed [] = (match (Region.ready .any ops listed)[t % (Region.ready .any ops listed).length]? with
    | some i => Region.linearise.go .any ops fuel (t / (Region.ready .any ops listed).length) (listed.setIfInBounds i true) [i]
    | none => []) := rfl
   cases yB : (Region.ready .any ops listed)[t % (Region.ready .any ops listed).length]? with
   | none =>
     have yf : Region.ready .any ops listed = [] := by
      cases aW : Region.ready .any ops listed with
      | nil => rfl
      | cons a l =>
        rw [aW] at yB
        have := List.getElem?_eq_none_iff.1 yB
        have ag := Nat.mod_lt t (show 0 < (a :: l).length by simp)
        omega
     rw [tF, yB]
     refine ⟨by simp, fun i => ?_, fun u i v h => by simp at h⟩
     simp only [List.not_mem_nil, false_iff]
     intro an
     exact hex ⟨i, an⟩ yf
   | some i =>
     have an := (Lc i).1 (List.mem_of_getElem? yB)
     obtain ⟨Gh, yC, Ui⟩ := an
     rw [tF, yB]
     simp only
     rw [linearise_go_acc]
     simp only [List.reverse_singleton, List.singleton_append]
     have r1 : ∀ j d, (listed.setIfInBounds i true).getD j d = if j = i then true else listed.getD j d := by
      intro j d
      split
      ·rename_i e; subst e
       simp [Array.getD_eq_getD_getElem?, Array.getElem?_setIfInBounds_self_of_lt (show j < listed.size by omega)]
      ·rename_i e
       simp [Array.getD_eq_getD_getElem?, Array.getElem?_setIfInBounds_ne (fun h => e h.symm)]
     obtain ⟨g1, g2, g3⟩ := ih (t / (Region.ready .any ops listed).length) (listed.setIfInBounds i true) (by simpa using ab) (by
      have e6 : ((List.range ops.size).filter fun j => !(listed.setIfInBounds i true).getD j true) = ((List.range ops.size).filter fun i => !listed.getD i true).filter fun j => decide (j ≠ i) := by
       rw [List.filter_filter]
       apply List.filter_congr
       intro j _
       rw [r1]
       by_cases e : j = i <;> simp [e]
      rw [e6]
      have dZ : (((List.range ops.size).filter fun i => !listed.getD i true).filter fun j => decide (j ≠ i)).length < ((List.range ops.size).filter fun i => !listed.getD i true).length := by
       rw [List.length_filter_lt_length_iff_exists]
       exact ⟨i, List.mem_filter.2 ⟨List.mem_range.2 Gh, by rw [yC]; rfl⟩, by simp⟩
      omega)
     refine ⟨?_, fun j => ?_, ?_⟩
     ·rw [List.nodup_cons]
      refine ⟨fun hm => ?_, g1⟩
      have := ((g2 i).1 hm).2
      rw [r1, if_pos rfl] at this; cases this
     ·rw [List.mem_cons, g2, r1]
      by_cases e : j = i
      ·subst e; simp [Gh, yC]
      ·simp [e]
     ·intro u j v h e he
      cases u with
      | nil =>
        simp only [List.nil_append, List.cons.injEq] at h
        obtain ⟨rfl, rfl⟩ := h
        exact .inl (Ui e he)
      | cons vK u =>
        simp only [List.cons_append, List.cons.injEq] at h
        obtain ⟨rfl, h⟩ := h
        rcases g3 u j v h e he with bE | bE
        ·rw [r1] at bE
         split at bE
         ·rename_i gA; subst gA; exact .inr (by simp)
         ·exact .inl bE
        ·exact .inr (by simp [bE])
theorem Uj {ops : Array Oper} (aa : yA (ow ops) = true) (t : Nat) : pC (ow ops) (Region.linearise .any ops t) := by
 have Ld : ∀ i d, i < ops.size → (Array.replicate ops.size false).getD i d = false := by
  intro i d an
  simp [Array.getD_eq_getD_getElem?, an]
 obtain ⟨g1, g2, g3⟩ := Ue aa ops.size t (Array.replicate ops.size false) (by simp) (by
  have := List.length_filter_le (fun i => !(Array.replicate ops.size false).getD i true) (List.range ops.size)
  simpa using this)
 have hlen : (ow ops).length = ops.size := by simp [ow]
 refine ⟨g1, fun i => ?_, fun u i v h e he => ?_⟩
 ·rw [hlen]
  rw [show Region.linearise .any ops t = Region.linearise.go .any ops ops.size t (Array.replicate ops.size false) [] from rfl, g2]
  exact ⟨fun h => h.1, fun h => ⟨h, Ld i true h⟩⟩
 ·rcases g3 u i v h e he with bE | bE
  ·exfalso
   by_cases Le : e < ops.size
   ·rw [Ld e false Le] at bE; cases bE
   ·simp [Array.getD_eq_getD_getElem?, Le] at bE
  ·exact bE
def U : List (Nat × I) → al
 | [], _ => .hole
 | (u, d) :: l, t => if t = u then d else U l t
mutual
inductive e2 : I → I → Prop
 | refl (d : I) : e2 d d
 | ly (sz : Nat) : e2 .bo (.au sz [])
 | vL : e2 .bo (.slice [])
 | any (b : Bool) : e2 (.bool b) .eT
 | share (d : I) : d.tree = true → (∀ vs, d ≠ .tuple vs) → (∀ o, d ≠ .ct o) → e2 d d.share
 | agg {ds es : List I} : kL ds es → e2 (.agg ds) (.agg es)
 | aU {d e : I} : e2 d e → e2 (.aU d) (.aU e)
 | au {sz : Nat} {ds es : List I} : kL ds es → e2 (.au sz ds) (.au sz es)
 | tuple {ds es : List I} : kL ds es → e2 (.tuple ds) (.tuple es)
 | ref {d e : I} : e2 d e → e2 (.ref d) (.ref e)
 | trans {d e f : I} : e2 d e → e2 e f → e2 d f
inductive kL : List I → List I → Prop
 | nil : kL [] []
 | cons {d e : I} {ds es : List I} : e2 d e → kL ds es → kL (d :: ds) (e :: es)
end
mutual
theorem e2.wd : ∀ {d e : I}, e2 d e → e.wd = d.wd
 | _, _, .refl _ => rfl
 | _, _, .ly _ => rfl
 | _, _, .vL => rfl
 | _, _, .any _ => rfl
 | _, _, .share d _ _ _ => I.AQ d
 | _, _, .agg h => by simp only [I.wd]; exact kL.wd h
 | _, _, .aU _ => rfl
 | _, _, .au _ => rfl
 | _, _, .tuple h => by simp only [I.wd]; exact kL.wd h
 | _, _, .ref _ => rfl
 | _, _, .trans h k => (e2.wd k).trans (e2.wd h)
theorem kL.wd : ∀ {ds es : List I}, kL ds es → I.ee es = I.ee ds
 | _, _, .nil => rfl
 | _, _, .cons h ab => by simp only [I.ee]; rw [e2.wd h, kL.wd ab]
end
theorem kL.len {ds es : List I} (h : kL ds es) : es.length = ds.length := by
 induction ds generalizing es with
 | nil => cases h; rfl
 | cons d ds ih => cases h with | cons h ab => simp [ih ab]
theorem kL.all {sz : Nat} {ds es : List I} (h : kL ds es) (ai : ∀ d ∈ ds, d.wd = sz) : ∀ d ∈ es, d.wd = sz := by
 induction ds generalizing es with
 | nil => cases h; intro d ai; cases ai
 | cons d ds ih =>
   cases h with
   | cons h ab =>
     intro x aq
     rcases List.mem_cons.1 aq with rfl | aq
     ·rw [h.wd]; exact ai d (by simp)
     ·exact ih ab (fun d hm => ai d (by simp [hm])) x aq
section
variable {w0 w : World} {F0 X F : Nat → Prop} {S : Nat → Nat → Prop} {s az : al} {aB : Nat → Value}
def Uk (w : World) (F : Nat → Prop) (_d e : I) (cs : List Value) (S : Nat → Prop) : Prop :=
 ∃ iv iw : Nat → Prop, (∀ b, iv b → S b) ∧ (∀ b, iw b → S b) ∧ (∀ b, iw b → ¬ iv b) ∧ ∀ bQ, (∀ b, F b ∨ iv b → bQ b) → ay w bQ e cs iw
mutual
theorem ay.wider : ∀ {d e : I}, e2 d e → ∀ {F : Nat → Prop} {cs : List Value} {S : Nat → Prop}, ay w F d cs S → Uk w F d e cs S
 | _, _, .refl _, F, cs, S, h => ⟨fun _ => False, S, fun _ h => h.elim, fun _ h => h, fun _ _ h => h, fun bQ bG => ay.mono (fun b aa => bG b (.inl aa)) _ _ _ _ (fun _ h => h) h⟩
 | .bo, _, .ly sz, F, cs, S, h => ⟨fun _ => False, S, fun _ h => h.elim, fun _ h => h, fun _ _ h => h, fun bQ bG => by simp only [ay] at h ⊢; exact .inl ⟨trivial, _, h⟩⟩
 | .bo, _, .vL, F, cs, S, h => ⟨fun _ => False, S, fun _ h => h.elim, fun _ h => h, fun _ _ h => h, fun bQ bG => by simp only [ay] at h ⊢; exact .inl ⟨trivial, none, 0, h, Nat.zero_le _, fun _ => rfl⟩⟩
 | .bool _, _, .any b, F, cs, S, h => ⟨fun _ => False, S, fun _ h => h.elim, fun _ h => h, fun _ _ h => h, fun bQ bG => by simp only [ay] at h ⊢; exact ⟨b, h⟩⟩
 | _, _, .share d _ _ _, F, cs, S, h => ⟨S, fun _ => False, fun _ h => h, fun _ h => h.elim, fun _ h => h.elim, fun bQ bG => ay.shared (fun b aa => bG b (.inl aa)) d cs S (fun b aa => bG b (.inr aa)) h⟩
 | _, _, .agg jV, F, cs, S, h => by
   rw [ay] at h
   obtain ⟨iv, iw, af, ag, aF, a_⟩ := bf.wider jV h
   exact ⟨iv, iw, af, ag, aF, fun bQ bG => by rw [ay]; exact a_ bQ bG⟩
 | _, _, .aU ai, F, cs, S, h => by
   rw [ay] at h
   obtain ⟨b, cur, ty, fr, aR, bt, b0, dK, de, dI, dX, jh⟩ := h
   obtain ⟨iv, iw, af, ag, aF, a_⟩ := ay.wider ai dI
   refine ⟨iv, fun c => c = b ∨ iw c, fun c ao => dX c (af c ao), ?_, ?_, fun bQ bG => ?_⟩
   ·rintro c (rfl | ao)
    ·exact b0
    ·exact dX c (ag c ao)
   ·rintro c (rfl | ao) bz
    ·exact jh (af _ bz)
    ·exact aF c ao bz
   ·rw [ay]
    exact ⟨b, cur, ty, fr, iw, bt, .inl rfl, dK, de, a_ bQ bG, fun c ao => .inr ao, fun ao => jh (ag _ ao)⟩
 | .au sz ds, .au _ es, .au jV, F, cs, S, h => by
   rw [ay] at h
   have hl := jV.len
   rcases h with ⟨af, ag⟩ | ⟨b, cap, cur, ty, fr, aR, bt, b0, dK, de, dI, dX, jh, hb, mG, p9, Lf⟩
   ·refine ⟨fun _ => False, S, fun _ h => h.elim, fun _ h => h, fun _ _ h => h, fun bQ _ => ?_⟩
    rw [ay]
    subst af
    exact .inl ⟨List.length_eq_zero_iff.1 (by simpa using hl), ag⟩
   ·obtain ⟨iv, iw, af, ag, aF, a_⟩ := bf.wider jV mG
    refine ⟨iv, fun c => c = b ∨ iw c, fun c ao => p9 c (af c ao), ?_, ?_, fun bQ bG => ?_⟩
    ·rintro c (rfl | ao)
     ·exact b0
     ·exact p9 c (ag c ao)
    ·rintro c (rfl | ao) bz
     ·exact Lf (af _ bz)
     ·exact aF c ao bz
    ·rw [ay]
     refine .inr ⟨b, cap, cur, ty, fr, iw, by rw [hl]; exact bt, .inl rfl, dK, de, by rw [hl]; exact dI, dX, jh, jV.all hb, by rw [hl]; exact a_ bQ bG, fun c ao => .inr ao, fun ao => Lf (ag _ ao)⟩
 | _, _, .tuple jV, F, cs, S, h => by
   rw [ay] at h
   obtain ⟨iv, iw, af, ag, aF, a_⟩ := bf.wider jV h
   exact ⟨iv, iw, af, ag, aF, fun bQ bG => by rw [ay]; exact a_ bQ bG⟩
 | _, _, .ref ai, F, cs, S, h => by
   rw [ay] at h
   obtain ⟨b, o, eu, af, ag, aF, a_⟩ := h
   obtain ⟨iv, iw, bt, b0, dK, de⟩ := ay.wider ai a_
   refine ⟨fun _ => False, S, fun _ h => h.elim, fun _ h => h, fun _ _ h => h, fun bQ bG => ?_⟩
   rw [ay]
   exact ⟨b, o, eu, af, bG _ (.inl ag), aF, ay.mono (fun _ h => h) _ _ _ _ (fun b aa => b0 b aa) (de bQ fun b aa => bG b (aa.imp id fun h => (bt b h).elim))⟩
 | _, _, .trans ai he, F, cs, S, h => by
   obtain ⟨iv, iw, af, ag, aF, a_⟩ := ay.wider ai h
   obtain ⟨Gi, Bq, bt, b0, dK, de⟩ := ay.wider he (F := fun b => F b ∨ iv b) (a_ _ fun _ h => h)
   refine ⟨fun b => iv b ∨ Gi b, Bq, ?_, fun b aa => ag b (b0 b aa), ?_, fun bQ bG => de bQ fun b aa => ?_⟩
   ·rintro b (h | h)
    ·exact af b h
    ·exact ag b (bt b h)
   ·rintro b aa (h | h)
    ·exact aF b (b0 b aa) h
    ·exact dK b aa h
   ·rcases aa with (aa | aa) | aa
    ·exact bG b (.inl aa)
    ·exact bG b (.inr (.inl aa))
    ·exact bG b (.inr (.inr aa))
theorem bf.wider : ∀ {ds es : List I}, kL ds es → ∀ {F : Nat → Prop} {cs : List Value} {S : Nat → Prop}, bf w F ds cs S →
  ∃ iv iw : Nat → Prop, (∀ b, iv b → S b) ∧ (∀ b, iw b → S b) ∧ (∀ b, iw b → ¬ iv b) ∧ ∀ bQ, (∀ b, F b ∨ iv b → bQ b) → bf w bQ es cs iw
 | _, _, .nil, F, cs, S, h => ⟨fun _ => False, fun _ => False, fun _ h => h.elim, fun _ h => h.elim, fun _ h => h.elim, fun bQ bG => by rw [bf] at h ⊢; exact h⟩
 | _, _, .cons ai jV, F, cs, S, h => by
   rw [bf] at h
   obtain ⟨cv, cw, cc, dB, rfl, g2, g3, g4, g5, g6⟩ := h
   obtain ⟨Ul, Lg, R, a2, a3, a4⟩ := ay.wider ai g2
   obtain ⟨Gi, Bq, hN, gT, hn, b8⟩ := bf.wider jV g3
   refine ⟨fun b => Ul b ∨ Gi b, fun b => Lg b ∨ Bq b, ?_, ?_, ?_, fun bQ bG => ?_⟩
   ·rintro b (h | h)
    ·exact g4 b (R b h)
    ·exact g5 b (hN b h)
   ·rintro b (h | h)
    ·exact g4 b (a2 b h)
    ·exact g5 b (gT b h)
   ·rintro b (h | h) (bE | bE)
    ·exact a3 b h bE
    ·exact g6 b (a2 b h) (hN b bE)
    ·exact g6 b (R b bE) (gT b h)
    ·exact hn b h bE
   ·rw [bf]
    refine ⟨cv, cw, Lg, Bq, rfl, a4 bQ (fun b aa => bG b (aa.imp id .inl)), b8 bQ (fun b aa => bG b (aa.imp id .inr)), fun b aa => .inl aa, fun b aa => .inr aa, fun b af ag => g6 b (a2 b af) (gT b ag)⟩
end
theorem e2.Br : ∀ {d e : I}, e2 d e → (∀ vs, d ≠ .tuple vs) → ∀ vs, e ≠ .tuple vs
 | _, _, .refl _, h => h
 | _, _, .ly _, _ => fun _ h => by cases h
 | _, _, .vL, _ => fun _ h => by cases h
 | _, _, .any _, _ => fun _ h => by cases h
 | _, _, .share d _ _ _, h => fun vs he => by cases d <;> first | (cases he; done) | exact h _ rfl
 | _, _, .agg _, _ => fun _ h => by cases h
 | _, _, .aU _, _ => fun _ h => by cases h
 | _, _, .au _, _ => fun _ h => by cases h
 | _, _, .tuple _, h => fun _ _ => h _ rfl
 | _, _, .ref _, _ => fun _ h => by cases h
 | _, _, .trans h k, bc => e2.Br k (e2.Br h bc)
theorem e2.iH : ∀ {d e : I} {v : Value}, e2 d e → (∀ vs, d ≠ .tuple vs) → cY.iH d v → cY.iH e v
 | _, _, _, .refl _, _, h => h
 | _, _, _, .ly _, _, h => h
 | _, _, _, .vL, _, h => h
 | _, _, _, .any _, _, h => h
 | _, _, _, .share d _ bc _, _, h => by cases d <;> first | exact h | exact (bc _ rfl).elim
 | _, _, _, .agg _, _, h => h
 | _, _, _, .aU _, _, h => h
 | _, _, _, .au _, _, h => h
 | _, _, _, .tuple _, bc, _ => (bc _ rfl).elim
 | _, _, _, .ref _, _, h => h
 | _, _, _, .trans h k, bc, ab => e2.iH k (e2.Br h bc) (e2.iH h bc ab)
theorem kL.get : ∀ {ds es : List I}, kL ds es → ∀ (k : Nat) (e : I), es[k]? = some e → ∃ d, ds[k]? = some d ∧ e2 d e
 | _, _, .nil, k, e, h => by simp at h
 | _, _, .cons ai ab, 0, e, h => by simp at h; subst h; exact ⟨_, rfl, ai⟩
 | _, _, .cons ai ab, k + 1, e, h => kL.get ab k e (by simpa using h)
theorem e2.dT : ∀ {d e : I} {v : Value}, e2 d e → cY.dT d v → cY.dT e v
 | _, _, _, .refl _, ab => ab
 | _, _, _, .ly _, ab => ab
 | _, _, _, .vL, ab => ab
 | _, _, _, .any _, ab => ab
 | _, _, _, .share _ _ ng _, ab => F2 ng ab
 | _, _, _, .agg _, ab => ab
 | _, _, _, .aU _, ab => ab
 | _, _, _, .au _, ab => ab
 | _, _, _, .ref _, ab => ab
 | _, _, _, .tuple ai, ab => by
   obtain ⟨arr, af, ag, aF⟩ := ab
   refine ⟨arr, af, ag.trans ai.len.symm, fun k e x he aq => ?_⟩
   obtain ⟨d, ar, hw⟩ := ai.get k e he
   obtain ⟨R, a2, a3⟩ := aF k d x ar aq
   exact ⟨hw.iH a2 R, hw.Br a2, a3.trans hw.wd.symm⟩
 | _, _, _, .trans h k, ab => e2.dT k (e2.dT h ab)
theorem e2.tree : ∀ {d e : I}, e2 d e → d.tree = true → e.tree = true
 | _, _, .refl _, ai => ai
 | _, _, .ly _, _ => rfl
 | _, _, .vL, _ => rfl
 | _, _, .any _, _ => rfl
 | _, _, .share d _ _ mf, ai => by cases d <;> first | exact ai | rfl | exact (mf _ rfl).elim
 | _, _, .agg _, _ => rfl
 | _, _, .aU _, _ => rfl
 | _, _, .au _, _ => rfl
 | _, _, .tuple _, _ => rfl
 | _, _, .ref _, _ => rfl
 | _, _, .trans h k, ai => e2.tree k (e2.tree h ai)
mutual
def I.tG : I → List Nat
 | .h x q => if q.isEmpty then [] else [x]
 | .aw x _ => [x]
 | .aa x _ => [x]
 | .fn _ cap => I.yD cap
 | _ => []
def I.yD : List I → List Nat
 | [] => []
 | d :: ds => d.tG ++ I.yD ds
end
def yE (s az : al) (x : Nat) (D : List Nat) : Prop := az x = s x ∨ az x = .hole ∨ ((s x).own = true ∧ (az x).own = true ∧ x ∉ D)
theorem yE.less {s az : al} {x : Nat} {D E : List Nat} (h : yE s az x D) (Gj : ∀ u ∈ E, u ∈ D) : yE s az x E := by
 rcases h with h | h | ⟨af, ag, aF⟩
 ·exact .inl h
 ·exact .inr (.inl h)
 ·exact .inr (.inr ⟨af, ag, fun aq => aF (Gj x aq)⟩)
theorem aI.keep {bQ : Nat → Prop} (bG : ∀ b, F b → bQ b) : ∀ n, (∀ (d : I) (v : Value) (dS : Nat → Prop), SizeOf.sizeOf d ≤ n → (∀ x ∈ d.ab, yE s az x d.tG) → aI w F s aB d v dS → aI w bQ az aB d v dS) ∧
  (∀ (ds : List I) (vs : List Value), SizeOf.sizeOf ds ≤ n → (∀ x ∈ I.dV ds, yE s az x (I.yD ds)) → ef w F s aB ds vs → ef w bQ az aB ds vs) := by
 intro n
 induction n with
 | zero =>
   refine ⟨fun d v dS bS => ?_, fun ds vs bS => ?_⟩
   ·cases d <;> simp at bS <;> omega
   ·cases ds <;> simp at bS <;> omega
 | succ n ih =>
   refine ⟨fun d v dS bS ar h => ?_, fun ds vs bS ar h => ?_⟩
   ·cases d with
    | hole => rw [aI]; trivial
    | h x q =>
      rw [aI] at h ⊢
      intro e e6 aw
      rcases ar x (by simp [I.ab]) with he | he | ⟨yF, Lh, vM⟩
      ·rw [he] at e6 ⊢; exact h e e6 aw
      ·rw [he] at e6
       cases q with
       | nil => simp only [I.sub, Option.some.injEq] at e6; subst e6; simp [I.plain] at aw
       | cons k q => simp [I.sub] at e6
      ·cases q with
       | nil =>
         simp only [I.sub, Option.some.injEq] at e6
         subst e6
         obtain ⟨cM, a0, fD, hr, h8⟩ := h (s x) (by simp only [I.sub]) (rf yF).1
         simp only [dn, Option.some.injEq, Prod.mk.injEq, true_and] at fD
         exact ⟨cp (aB x), none, by simp only [dn], by rw [hr, ← fD.1], ((rf Lh).2.2.2.2.2 _).2 (((rf yF).2.2.2.2.2 _).1 h8)⟩
       | cons k q => exact (vM (by simp [I.tG])).elim
    | aw x q =>
      rw [aI] at h ⊢
      intro e e6 ao
      rcases ar x (by simp [I.ab]) with he | he | ⟨_, _, vM⟩
      ·rw [he] at e6 ao ⊢; exact h e e6 ao
      ·rw [he] at ao
       cases q <;> simp [I.fL] at ao
      ·exact (vM (by simp [I.tG])).elim
    | aa x k =>
      rw [aI] at h ⊢
      intro aw
      rcases ar x (by simp [I.ab]) with he | he | ⟨_, _, vM⟩
      rotate_left 2
      ·exact (vM (by simp [I.tG])).elim
      ·rw [he] at aw
       obtain ⟨b, cur, e, fr, af, ag, aF, a_⟩ := h aw
       exact ⟨b, cur, e, fr, af, bG b ag, aF, a_⟩
      ·rw [he] at aw; simp [I.plain] at aw
    | fn f cap =>
      rw [aI] at h ⊢
      obtain ⟨arr, rfl, ao⟩ := h
      exact ⟨arr, rfl, ih.2 _ _ (by simp at bS; omega) (by simpa [I.ab, I.tG] using ar) ao⟩
    | _ =>
      have bE := (aI.cJ rfl).1 h
      exact (aI.cJ rfl).2 ⟨bE.1, ay.mono bG _ _ _ _ (fun _ h => h) bE.2⟩
   ·cases ds with
    | nil => rw [ef] at h ⊢; exact h
    | cons d ds =>
      rw [ef] at h ⊢
      obtain ⟨v, j_, rfl, af, ag⟩ := h
      simp at bS
      simp only [I.dV, List.mem_append] at ar
      exact ⟨v, j_, rfl, ih.1 _ _ _ (by omega) (fun x aq => (ar x (.inl aq)).less fun u hu => by simp [I.yD, hu]) af, ih.2 _ _ (by omega) (fun x aq => (ar x (.inr aq)).less fun u hu => by simp [I.yD, hu]) ag⟩
def tH (s : al) (l : List (Nat × I)) : Prop :=
 ∀ p ∈ l, p.2 = s p.1 ∨ ((s p.1).tree = true ∧ e2 (s p.1) p.2 ∧ ∀ cB ∈ l, p.1 ∉ cB.2.ab ∨ ((s p.1).own = true ∧ p.2.own = true ∧ p.1 ∉ cB.2.tG))
theorem Li : ∀ (l : List (Nat × I)) (t : Nat), U l t = .hole ∨ ∃ p ∈ l, p.1 = t ∧ U l t = p.2 := by
 intro l
 induction l with
 | nil => intro t; exact .inl rfl
 | cons p l ih =>
   intro t
   obtain ⟨u, d⟩ := p
   simp only [U]
   split
   ·rename_i e; exact .inr ⟨(u, d), by simp, e.symm, rfl⟩
   ·rcases ih t with h | ⟨p, aw, h⟩
    ·exact .inl h
    ·exact .inr ⟨p, by simp [aw], h⟩
theorem bM.Gk (h : bM w0 F0 X F S s aB w) {l : List (Nat × I)} (hw : tH s l) : ∃ bQ aR, bM w0 F0 X bQ aR (U l) aB w := by
 have each : ∀ t, ∃ iv iw : Nat → Prop, (∀ b, iv b → S t b) ∧ (∀ b, iw b → S t b) ∧ (∀ b, iw b → ¬ iv b) ∧ ∀ bQ, (∀ b, F b ∨ iv b → bQ b) → aI w bQ (U l) aB (U l t) (aB t) iw := by
  intro t
  rcases Li l t with e | ⟨p, aw, rfl, e⟩
  ·exact ⟨fun _ => False, fun _ => False, fun _ h => h.elim, fun _ h => h.elim, fun _ h => h.elim, fun bQ _ => by rw [e, aI]; trivial⟩
  ·rw [e]
   rcases hw p aw with ar | ⟨a1, k1, _⟩
   ·refine ⟨fun _ => False, S p.1, fun _ h => h.elim, fun _ h => h, fun _ _ h => h, fun bQ bG => ?_⟩
    rw [ar]
    refine (aI.keep (fun b aa => bG b (.inl aa)) (SizeOf.sizeOf (s p.1))).1 _ _ _ (Nat.le_refl _) ?_ (h.dp p.1)
    intro x aq
    rcases Li l x with gA | ⟨cB, ew, rfl, gA⟩
    ·exact .inr (.inl gA)
    ·rcases hw cB ew with lq | ⟨_, _, mf⟩
     ·exact .inl (gA.trans lq)
     ·rcases mf p aw with mf | ⟨nK, lx, px⟩
      ·exact (mf (by rw [ar]; exact aq)).elim
      ·exact .inr (.inr ⟨nK, by rw [gA]; exact lx, by rw [ar] at px; exact px⟩)
   ·obtain ⟨g1, g2⟩ := (aI.cJ a1).1 (h.dp p.1)
    obtain ⟨iv, iw, bt, b0, dK, de⟩ := ay.wider k1 g2
    exact ⟨iv, iw, bt, b0, dK, fun bQ bG => (aI.cJ (k1.tree a1)).2 ⟨k1.dT g1, de bQ bG⟩⟩
 have cv := fun t => (each t).choose_spec
 let iv := fun t => (each t).choose
 have cw := fun t => (cv t).choose_spec
 let iw := fun t => (cv t).choose
 have gC : ∀ t b, iv t b → S t b := fun t => (cw t).1
 have f_ : ∀ t b, iw t b → S t b := fun t => (cw t).2.1
 have hO : ∀ t b, iw t b → ¬ iv t b := fun t => (cw t).2.2.1
 have hP := fun t => (cw t).2.2.2
 refine ⟨fun b => F b ∨ ∃ t, iv t b, iw, fun b aa => .inl (h.hs b aa), ?_, ?_, fun t b aa => h.eJ t b (f_ t b aa), ?_, fun t u b dC aa hu => h.ff t u b dC (f_ t b aa) (f_ u b hu), fun t b aa => h.dS t b (f_ t b aa), ?_, h.old, h.size, h.os, h.tape, h.output⟩
 ·rintro b (aa | ⟨t, aa⟩)
  ·exact h.hG b aa
  ·exact .inr (h.dS t b (gC t b aa))
 ·rintro b (aa | ⟨t, aa⟩)
  ·exact h.fe b aa
  ·exact h.eJ t b (gC t b aa)
 ·rintro t b aa (bz | ⟨u, hu⟩)
  ·exact h.fY t b (f_ t b aa) bz
  ·by_cases e : t = u
   ·subst e; exact hO t b aa hu
   ·exact h.ff t u b e (f_ t b aa) (gC u b hu)
 ·intro t
  exact hP t _ (fun b aa => aa.imp id fun h => ⟨t, h⟩)
end
inductive J where
 | skip
 | cd (ros : List bU) (keep : Option (List Nat))
 | kM (ros : List bU) (pD : List (List Nat)) (keep : Option (List Nat))
 | seq (a b : J)
 | cond (c : aH) (a b : J)
 | block (id : Nat) (b : J)
 | loop (b : J)
 | exit (id : Nat)
 | ret
 | jv (T : (Exit → al → Prop) → al → Prop) (b : J)
def bu (n : Fr) : Code → Option J
 | .skip => some .skip
 | .region _ ops false => (qm n ops ops.toList).map fun r => .cd r none
 | .region _ ops true => if yA (ow ops) = true then (qm n ops ops.toList).map fun r => .kM r (ow ops) none else none
 | .seq a b => match bu n a, bu n b with
   | some a, some b => some (.seq a b)
   | _, _ => none
 | .cond c a b => match dz c, bu n a, bu n b with
   | some c, some a, some b => some (.cond c a b)
   | _, _, _ => none
 | .block id b => (bu n b).map (.block id)
 | .loop b => (bu n b).map .loop
 | .exit id => some (.exit id)
 | .ret => some .ret
 | _ => none
def J.k5 : J → J
 | .cd ros _ => .cd ros none
 | .kM ros c4 _ => .kM ros c4 none
 | .seq a b => .seq a.k5 b.k5
 | .cond c a b => .cond c a.k5 b.k5
 | .block id b => .block id b.k5
 | .loop b => .loop b.k5
 | .jv T b => .jv T b.k5
 | c => c
def J.strip : J → J
 | .cd ros _ => .cd (ros.map bU.un) none
 | .kM ros c4 _ => .kM (ros.map bU.un) c4 none
 | .seq a b => .seq a.strip b.strip
 | .cond c a b => .cond c a.strip b.strip
 | .block id b => .block id b.strip
 | .loop b => .loop b.strip
 | .jv _ b => b.strip
 | c => c
theorem J.Gl : ∀ c : J, c.k5.strip = c.strip := by
 intro c
 induction c with
 | seq a b ks kt => simp only [J.k5, J.strip, ks, kt]
 | cond c a b ks kt => simp only [J.k5, J.strip, ks, kt]
 | block id b ih => simp only [J.k5, J.strip, ih]
 | loop b ih => simp only [J.k5, J.strip, ih]
 | jv T b ih => simp only [J.k5, J.strip, ih]
 | _ => rfl
def J.bare (H : ((Exit → al → Prop) → al → Prop) → J → Prop) : J → Prop
 | .cd _ k => k = none
 | .kM _ _ k => k = none
 | .seq a b => a.bare H ∧ b.bare H
 | .cond _ a b => a.bare H ∧ b.bare H
 | .block _ b => b.bare H
 | .loop b => b.bare H
 | .jv T b => H T b
 | _ => True
def J.ni (H : ((Exit → al → Prop) → al → Prop) → J → Prop) : J → Prop
 | .seq a b => a.ni H ∧ b.ni H
 | .cond _ a b => a.ni H ∧ b.ni H
 | .block _ b => b.ni H
 | .loop b => b.ni H
 | .jv T b => H T b.k5
 | _ => True
theorem J.Bs {H : ((Exit → al → Prop) → al → Prop) → J → Prop} : ∀ c : J, c.ni H → c.k5.bare H := by
 intro c
 induction c with
 | seq a b ks kt => intro h; exact ⟨ks h.1, kt h.2⟩
 | cond c a b ks kt => intro h; exact ⟨ks h.1, kt h.2⟩
 | block id b ih => intro h; exact ih h
 | loop b ih => intro h; exact ih h
 | cd => intro _; rfl
 | kM => intro _; rfl
 | jv T b _ => intro h; exact h
 | _ => intro _; trivial
def J.plain : J → Bool
 | .seq a b => a.plain && b.plain
 | .cond _ a b => a.plain && b.plain
 | .block _ b => b.plain
 | .loop b => b.plain
 | .jv _ _ => false
 | _ => true
theorem J.Lj {H : ((Exit → al → Prop) → al → Prop) → J → Prop} : ∀ c : J, c.plain = true → c.ni H := by
 intro c
 induction c with
 | seq a b ks kt => intro h; simp only [J.plain, Bool.and_eq_true] at h; exact ⟨ks h.1, kt h.2⟩
 | cond c a b ks kt => intro h; simp only [J.plain, Bool.and_eq_true] at h; exact ⟨ks h.1, kt h.2⟩
 | block id b ih => intro h; exact ih h
 | loop b ih => intro h; exact ih h
 | jv T b _ => intro h; cases h
 | _ => intro _; trivial
def andThen (K : al → Prop) (Q : Exit → al → Prop) : Exit → al → Prop
 | .normal, s => K s
 | e, s => Q e s
def vN (id : Nat) (Q : Exit → al → Prop) : Exit → al → Prop
 | .exit i, s => if i = id then Q .normal s else Q (.exit i) s
 | e, s => Q e s
def dY (K : al → Prop) (s : al) : Prop := K s ∨ ∃ l, tH s l ∧ K (U l)
def yG : Option (List Nat) → (al → Prop) → al → Prop
 | none, K, s => dY K s
 | some k, K, s => K (U (k.map fun t => (t, s t)))
def cy (C : b4) : J → (Exit → al → Prop) → al → Prop
 | .skip, Q, s => Q .normal s
 | .cd ros keep, Q, s => lV C s ros (yG keep (Q .normal))
 | .kM ros pD keep, Q, s => ∀ l, pC pD l → jk C ros s l (yG keep (Q .normal))
 | .seq a b, Q, s => cy C a (andThen (dY (cy C b Q)) Q) s
 | .cond c a b, Q, s => match aJ s c with
   | .bool fX => if fX = true then cy C a Q s else cy C b Q s
   | .eT => cy C a Q s ∧ cy C b Q s
   | _ => False
 | .block id b, Q, s => cy C b (vN id Q) s
 | .loop b, Q, s => dY (fun s => ∀ Z : al → Prop, (∀ az, cy C b (andThen (dY Z) Q) az → Z az) → Z s) s
 | .exit id, Q, s => Q (.exit id) s
 | .ret, Q, s => Q .ret s
 | .jv T _, Q, s => ∀ ey : Exit → al → Prop, (∀ e s, Q e s → ey e s) → T ey s
section
variable {C : b4}
theorem Bt {s : al} {o : bU} {K dx : al → Prop} (h : mn C s o K) (ar : ∀ s, K s → dx s) : mn C s o dx := by
 unfold mn at h ⊢
 split
 ·rename_i bA; rw [bA] at h; exact Bn h fun av s1 => ar _
 ·rename_i t b bA
  rw [bA] at h
  simp only at h
  split
  ·rename_i fX ab
   rw [ab] at h
   simp only at h
   split
   ·rename_i aa; rw [if_pos aa] at h; exact Bn h fun av s1 => ar _
   ·rename_i aa; rw [if_neg aa] at h; exact ar _ h
  ·rename_i ab; rw [ab] at h; exact ar _ h
  ·rename_i af ag
   split at h
   ·exact af _ (by assumption)
   ·exact ag (by assumption)
   ·exact h
theorem Lk {K dx : al → Prop} (ar : ∀ s, K s → dx s) : ∀ {ros : List bU} {s : al}, lV C s ros K → lV C s ros dx := by
 intro ros
 induction ros with
 | nil => intro s h; exact ar s h
 | cons o ros ih => intro s h; exact Bt h fun s h => ih h
theorem Ll {ros : List bU} {K dx : al → Prop} (ar : ∀ s, K s → dx s) : ∀ {l : List Nat} {s : al}, jk C ros s l K → jk C ros s l dx := by
 intro l
 induction l with
 | nil => intro s h; exact ar s h
 | cons i l ih =>
   intro s h
   simp only [jk] at h ⊢
   split
   ·rename_i bJ; rw [bJ] at h; exact ih h
   ·rename_i o bJ; rw [bJ] at h; exact Bt h fun s h => ih h
theorem vO {K dx : al → Prop} (ar : ∀ s, K s → dx s) (s : al) (h : dY K s) : dY dx s :=
 h.imp (ar s) fun ⟨l, af, ag⟩ => ⟨l, af, ar _ ag⟩
theorem Lm {keep : Option (List Nat)} {K dx : al → Prop} (ar : ∀ s, K s → dx s) (s : al) (h : yG keep K s) : yG keep dx s := by
 cases keep with
 | none => exact vO ar s h
 | some k => exact ar _ h
theorem Ln {keep : Option (List Nat)} {K : al → Prop} {s : al} (h : yG keep K s) : dY K s := by
 cases keep with
 | none => exact h
 | some k =>
   refine .inr ⟨_, ?_, h⟩
   intro p aw
   obtain ⟨t, _, rfl⟩ := List.mem_map.1 aw
   exact .inl rfl
theorem Gm {K dx : al → Prop} {Q ey : Exit → al → Prop} (ar : ∀ s, K s → dx s) (cG : ∀ e s, Q e s → ey e s) : ∀ e s, andThen K Q e s → andThen dx ey e s := by
 intro e s h
 cases e with
 | normal => exact ar s h
 | _ => exact cG _ s h
theorem Gn : ∀ (c : J) {Q ey : Exit → al → Prop} {s : al}, (∀ e s, Q e s → ey e s) → cy C c Q s → cy C c ey s := by
 intro c
 induction c with
 | skip => intro Q ey s cG h; exact cG _ _ h
 | cd ros keep => intro Q ey s cG h; exact Lk (Lm (cG _)) h
 | kM ros pD keep => intro Q ey s cG h l hl; exact Ll (Lm (cG _)) (h l hl)
 | seq a b ks kt =>
   intro Q ey s cG h
   exact ks (Gm (fun s h => vO (fun _ h => kt cG h) s h) cG) h
 | cond c a b ks kt =>
   intro Q ey s cG h
   simp only [cy] at h ⊢
   split
   ·rename_i fX aa
    rw [aa] at h
    simp only at h
    split
    ·rename_i e; rw [if_pos e] at h; exact ks cG h
    ·rename_i e; rw [if_neg e] at h; exact kt cG h
   ·rename_i aa; rw [aa] at h; exact ⟨ks cG h.1, kt cG h.2⟩
   ·rename_i af ag
    split at h
    ·exact af _ (by assumption)
    ·exact ag (by assumption)
    ·exact h
 | block id b ih =>
   intro Q ey s cG h
   refine ih ?_ h
   intro e s h
   cases e with
   | exit i =>
     simp only [vN] at h ⊢
     split
     ·rename_i e; rw [if_pos e] at h; exact cG _ _ h
     ·rename_i e; rw [if_neg e] at h; exact cG _ _ h
   | _ => exact cG _ _ h
 | loop b ih =>
   intro Q ey s cG h
   refine vO (fun s h Z vP => ?_) s h
   exact h Z fun az fj => vP az (ih (Gm (fun _ h => h) cG) fj)
 | exit id => intro Q ey s cG h; exact cG _ _ h
 | ret => intro Q ey s cG h; exact cG _ _ h
 | jv T b _ => intro Q ey s cG h eh ag; exact h eh fun e s he => ag e s (cG e s he)
theorem Bu : ∀ (c : J) {Q : Exit → al → Prop} {s : al}, cy C c Q s → cy C c.k5 Q s := by
 intro c
 induction c with
 | cd ros keep => intro Q s h; exact Lk (fun s h => Ln h) h
 | kM ros c4 keep => intro Q s h l hl; exact Ll (fun s h => Ln h) (h l hl)
 | seq a b ks kt => intro Q s h; exact ks (Gn a (Gm (fun s h => vO (fun _ h => kt h) s h) (fun _ _ h => h)) h)
 | cond c a b ks kt =>
   intro Q s h
   simp only [J.k5, cy] at h ⊢
   split
   ·rename_i fX aa
    rw [aa] at h
    simp only at h
    split
    ·rename_i e; rw [if_pos e] at h; exact ks h
    ·rename_i e; rw [if_neg e] at h; exact kt h
   ·rename_i aa; rw [aa] at h; exact ⟨ks h.1, kt h.2⟩
   ·rename_i af ag
    split at h
    ·exact af _ (by assumption)
    ·exact ag (by assumption)
    ·exact h
 | block id b ih => intro Q s h; exact ih h
 | loop b ih =>
   intro Q s h
   refine vO (fun s h Z vP => ?_) s h
   exact h Z fun az fj => vP az (ih fj)
 | jv T b _ => intro Q s h; exact h
 | _ => intro Q s h; exact h
variable {w0 w : World} {F0 X : Nat → Prop} {n : Fr} {ρ : Nat → Value} {s : al} {a : Act}
def tI (w0 : World) (F0 X : Nat → Prop) (n : Fr) (ρ : Nat → Value) (Q : Exit → al → Prop) : Exit → Act → World → Prop := fun e a w => ∃ s, Q e s ∧ Rel w0 F0 X n ρ s a w
theorem Rel.dY {K : al → Prop} {s : al} {a : Act} {w : World} (aW : Rel w0 F0 X n ρ s a w) (h : dY K s) : ∃ az, K az ∧ Rel w0 F0 X n ρ az a w := by
 rcases h with h | ⟨l, af, ag⟩
 ·exact ⟨s, h, aW⟩
 ·obtain ⟨g1, g2, g3, F, S, g4⟩ := aW
  obtain ⟨bQ, aR, g5⟩ := g4.Gk af
  exact ⟨U l, ag, g1, g2, g3, bQ, aR, g5⟩
theorem J.Um {c : J} (h : c.strip = .skip) : c = .skip ∨ ∃ T b, c = .jv T b := by cases c <;> first | exact .inl rfl | exact .inr ⟨_, _, rfl⟩ | cases h
theorem J.Un {c : J} (h : c.strip = .ret) : c = .ret ∨ ∃ T b, c = .jv T b := by cases c <;> first | exact .inl rfl | exact .inr ⟨_, _, rfl⟩ | cases h
theorem J.Uo {c : J} {i : Nat} (h : c.strip = .exit i) : c = .exit i ∨ ∃ T b, c = .jv T b := by cases c <;> first | exact .inl h | exact .inr ⟨_, _, rfl⟩ | cases h
theorem J.Up {c : J} {r : List bU} {k : Option (List Nat)} (h : c.strip = .cd r k) : (∃ ros cL, c = .cd ros cL ∧ ros.map bU.un = r) ∨ ∃ T b, c = .jv T b := by
 cases c <;> first | (cases h; exact .inl ⟨_, _, rfl, rfl⟩) | exact .inr ⟨_, _, rfl⟩ | cases h
theorem J.Uq {c : J} {r : List bU} {c4 : List (List Nat)} {k : Option (List Nat)} (h : c.strip = .kM r c4 k) : (∃ ros Lo cL, c = .kM ros Lo cL ∧ ros.map bU.un = r ∧ Lo = c4) ∨ ∃ T b, c = .jv T b := by
 cases c <;> first | (cases h; exact .inl ⟨_, _, _, rfl, rfl, rfl⟩) | exact .inr ⟨_, _, rfl⟩ | cases h
theorem J.Ur {c x y : J} (h : c.strip = .seq x y) : (∃ a b, c = .seq a b ∧ a.strip = x ∧ b.strip = y) ∨ ∃ T b, c = .jv T b := by
 cases c <;> first | (cases h; exact .inl ⟨_, _, rfl, rfl, rfl⟩) | exact .inr ⟨_, _, rfl⟩ | cases h
theorem J.Us {c x y : J} {o : aH} (h : c.strip = .cond o x y) : (∃ nJ a b, c = .cond nJ a b ∧ nJ = o ∧ a.strip = x ∧ b.strip = y) ∨ ∃ T b, c = .jv T b := by
 cases c <;> first | (cases h; exact .inl ⟨_, _, _, rfl, rfl, rfl, rfl⟩) | exact .inr ⟨_, _, rfl⟩ | cases h
theorem J.Ut {c x : J} {i : Nat} (h : c.strip = .block i x) : (∃ a, c = .block i a ∧ a.strip = x) ∨ ∃ T b, c = .jv T b := by
 cases c <;> first | (cases h; exact .inl ⟨_, rfl, rfl⟩) | exact .inr ⟨_, _, rfl⟩ | cases h
theorem J.Uu {c x : J} (h : c.strip = .loop x) : (∃ a, c = .loop a ∧ a.strip = x) ∨ ∃ T b, c = .jv T b := by
 cases c <;> first | (cases h; exact .inl ⟨_, rfl, rfl⟩) | exact .inr ⟨_, _, rfl⟩ | cases h
theorem Gp (bp : C.eP) {H : ((Exit → al → Prop) → al → Prop) → J → Prop}
  (nO : ∀ (c : Code) (T : (Exit → al → Prop) → al → Prop) (b : J) (Q : Exit → al → Prop) (s : al) (a : Act) (w : World), H T b → bu n c = some b.strip → T Q s → Rel w0 F0 X n ρ s a w → c.wp C.P (tI w0 F0 X n ρ Q) a w) :
  ∀ (c : Code) {dh : J} {Q : Exit → al → Prop} {s : al} {a : Act} {w : World}, bu n c = some dh.strip → dh.bare H → cy C dh Q s → Rel w0 F0 X n ρ s a w → c.wp C.P (tI w0 F0 X n ρ Q) a w := by
 intro c
 induction c with
 | skip =>
   intro dh Q s a w ab ia h aW
   have lz := ab
   simp only [bu, Option.some.injEq] at ab
   rcases J.Um ab.symm with rfl | ⟨T, b, rfl⟩
   ·exact wp_skip ⟨s, h, aW⟩
   ·exact nO _ T b Q s a w ia (by simpa only [J.strip] using lz) (h Q fun _ _ h => h) aW
 | region id ops draw =>
   intro dh Q s a w ab ia h aW
   have lz := ab
   cases draw with
   | false =>
     simp only [bu, Option.map_eq_some_iff] at ab
     obtain ⟨Uv, yH, ab⟩ := ab
     rcases J.Up ab.symm with ⟨ros, k, rfl, rfl⟩ | ⟨T, b, rfl⟩
     rotate_left
     ·exact nO _ T b Q s a w ia (by simpa only [J.strip] using lz) (h Q fun _ _ h => h) aW
     cases ia
     exact Uc bp yH (fun az cN aL ar ez => ez.dY ar) h aW
   | true =>
     simp only [bu] at ab
     split at ab
     ·rename_i aa
      simp only [Option.map_eq_some_iff] at ab
      obtain ⟨Uv, yH, ab⟩ := ab
      rcases J.Uq ab.symm with ⟨ros, c4, k, rfl, rfl, rfl⟩ | ⟨T, b, rfl⟩
      rotate_left
      ·exact nO _ T b Q s a w ia (by simpa only [J.strip] using lz) (h Q fun _ _ h => h) aW
      cases ia
      refine wp_region_draw fun t => ?_
      rw [show Region.schedule (C.P.follows .mixedOrders) ops t = Region.linearise .any ops t by simp [Region.schedule, bp.mixed]]
      exact Lb bp yH (fun az cN aL ar ez => ez.dY ar) _ s a _ (h _ (Uj aa t)) (aW.drawn _)
     ·cases ab
 | seq x y Uw Bv =>
   intro dh Q s a w ab ia h aW
   have lz := ab
   simp only [bu] at ab
   split at ab
   ·rename_i vB Lp aq hy
    simp only [Option.some.injEq] at ab
    rcases J.Ur ab.symm with ⟨cA, kH, rfl, rfl, rfl⟩ | ⟨T, b, rfl⟩
    rotate_left
    ·exact nO _ T b Q s a w ia (by simpa only [J.strip] using lz) (h Q fun _ _ h => h) aW
    refine wp_seq (wp_mono (Uw aq ia.1 h aW) ?_)
    rintro e cN aL ⟨az, bE, ez⟩
    cases e with
    | normal =>
      obtain ⟨az, bE, ez⟩ := ez.dY bE
      exact Bv hy ia.2 bE ez
    | _ => exact ⟨az, bE, ez⟩
   ·cases ab
 | cond x y z Bv Lq =>
   intro dh Q s a w ab ia h aW
   have lz := ab
   simp only [bu] at ab
   split at ab
   ·rename_i vB Lp sz aq hy bS
    simp only [Option.some.injEq] at ab
    rcases J.Us ab.symm with ⟨cA, kH, q3, rfl, rfl, rfl, rfl⟩ | ⟨T, b, rfl⟩
    rotate_left
    ·exact nO _ T b Q s a w ia (by simpa only [J.strip] using lz) (h Q fun _ _ h => h) aW
    have ez := aW
    obtain ⟨ai, d_, bz, F, S, pA⟩ := ez
    have aK := (fg (a := a) pA (fun _ => rfl) aq).2
    simp only [cy] at h
    split at h
    ·rename_i fX aa
     rw [aa] at aK
     have := r3 aK
     refine wp_cond this ?_
     split
     ·rename_i e; rw [if_pos e] at h; exact Bv hy ia.1 h aW
     ·rename_i e; rw [if_neg e] at h; exact Lq bS ia.2 h aW
    ·rename_i aa
     rw [aa] at aK
     obtain ⟨fX, mz⟩ := J2 aK
     refine wp_cond mz ?_
     split
     ·exact Bv hy ia.1 h.1 aW
     ·exact Lq bS ia.2 h.2 aW
    ·exact h.elim
   ·cases ab
 | block id b ih =>
   intro dh Q s a w ab ia h aW
   have lz := ab
   simp only [bu, Option.map_eq_some_iff] at ab
   obtain ⟨yg, aa, ab⟩ := ab
   rcases J.Ut ab.symm with ⟨fX, rfl, rfl⟩ | ⟨T, b, rfl⟩
   rotate_left
   ·exact nO _ T b Q s a w ia (by simpa only [J.strip] using lz) (h Q fun _ _ h => h) aW
   refine wp_block (wp_mono (ih aa ia h aW) ?_)
   rintro e cN aL ⟨az, bE, ez⟩
   cases e with
   | exit i =>
     simp only [vN] at bE
     simp only [Exit.inBlock]
     split
     ·rename_i e; rw [if_pos e] at bE; exact ⟨az, bE, ez⟩
     ·rename_i e; rw [if_neg e] at bE; exact ⟨az, bE, ez⟩
   | _ => exact ⟨az, bE, ez⟩
 | loop b ih =>
   intro dh Q s a w ab ia h aW
   have lz := ab
   simp only [bu, Option.map_eq_some_iff] at ab
   obtain ⟨yg, aa, ab⟩ := ab
   rcases J.Uu ab.symm with ⟨fX, rfl, rfl⟩ | ⟨T, b, rfl⟩
   rotate_left
   ·exact nO _ T b Q s a w ia (by simpa only [J.strip] using lz) (h Q fun _ _ h => h) aW
   obtain ⟨s, h, aW⟩ := aW.dY h
   have key := h (fun s => ∀ a w, Rel w0 F0 X n ρ s a w → ∀ (f : Frame) (k : List Item) (cs : List Frame), ∃ e cN aL, tI w0 F0 X n ρ Q e cN aL ∧ Arrives C.P (lone (f.at a (.code b :: .inLoop b :: k)) cs w) f k cs e cN aL) ?_
   ·intro f k cs
    obtain ⟨e, cN, aL, cG, sj⟩ := key a w aW f k cs
    exact ⟨e, cN, aL, cG, .of_steps (.one step_loop) sj⟩
   ·intro az fj a w aW f k cs
    obtain ⟨e, a₁, w₁, ⟨s1, cG, sk⟩, sj⟩ := ih aa ia fj aW f (.inLoop b :: k) cs
    cases e with
    | normal =>
      simp only [andThen] at cG
      obtain ⟨s1, cG, sk⟩ := sk.dY cG
      obtain ⟨e₂, a₂, w₂, hq₂, harr₂⟩ := cG a₁ w₁ sk f k cs
      exact ⟨e₂, a₂, w₂, hq₂, .of_steps (Steps.trans sj (.one step_inLoop)) harr₂⟩
    | exit id => exact ⟨_, a₁, w₁, ⟨s1, cG, sk⟩, .pass (x := .inLoop b) rfl (fun _ _ => .inl (by simp)) sj⟩
    | goto l => exact ⟨_, a₁, w₁, ⟨s1, cG, sk⟩, .pass (x := .inLoop b) rfl (fun _ _ => .inl (by simp)) sj⟩
    | ret => exact ⟨_, a₁, w₁, ⟨s1, cG, sk⟩, .pass (x := .inLoop b) rfl (fun _ _ => .inl (by simp)) sj⟩
    | panic ay2 => exact ⟨_, a₁, w₁, ⟨s1, cG, sk⟩, .pass (x := .inLoop b) rfl (fun _ _ => .inl (by simp)) sj⟩
    | outgrown => exact ⟨_, a₁, w₁, ⟨s1, cG, sk⟩, .pass (x := .inLoop b) rfl (fun _ _ => .inl (by simp)) sj⟩
 | exit id =>
   intro dh Q s a w ab ia h aW
   have lz := ab
   simp only [bu, Option.some.injEq] at ab
   rcases J.Uo ab.symm with rfl | ⟨T, b, rfl⟩
   ·exact wp_exit ⟨s, h, aW⟩
   ·exact nO _ T b Q s a w ia (by simpa only [J.strip] using lz) (h Q fun _ _ h => h) aW
 | ret =>
   intro dh Q s a w ab ia h aW
   have lz := ab
   simp only [bu, Option.some.injEq] at ab
   rcases J.Un ab.symm with rfl | ⟨T, b, rfl⟩
   ·exact wp_ret ⟨s, h, aW⟩
   ·exact nO _ T b Q s a w ia (by simpa only [J.strip] using lz) (h Q fun _ _ h => h) aW
 | _ => intro dh Q s a w ab; simp [bu] at ab
theorem Lr (bp : C.eP) (c : Code) {dh : J} {Q : Exit → al → Prop} {s : al} {a : Act} {w : World} (ab : bu n c = some dh.strip) (aa : dh.bare (fun _ _ => False)) (h : cy C dh Q s) (aW : Rel w0 F0 X n ρ s a w) : c.wp C.P (tI w0 F0 X n ρ Q) a w :=
 Gp bp (fun _ _ _ _ _ _ _ bz => bz.elim) c ab aa h aW
end
def jW : ResultVar → Nat
 | .tmp t => t
 | .cell a _ => a
def qp (C : b4) (s : al) : ResultVar → Option I
 | .tmp t => if (s t).tree = true then (match s t with | .tuple _ => none | d => some d) else none
 | .cell a T => match s a with
   | .aU d => if fits C T d = true ∧ d.tree = true then some d else none
   | _ => none
def Gq (C : b4) (fx : List Nat) (eY : List ResultVar) (r : I) (outs : List I) (s : al) : Prop :=
 ∃ ds, eY.map (qp C s) = ds.map some ∧ r = (match ds with | [d] => d | ds => .tuple ds) ∧ (eY.map jW).Nodup ∧
   ∀ (i : Nat) (o : I), outs[i]? = some o → o = .hole ∨ (o = s i ∧ o.gL = true ∧ i ∈ fx ∧ i ∉ eY.map jW)
def Ends (C : b4) (fx : List Nat) (eY : List ResultVar) (r : I) (outs : List I) (s : al) : Prop :=
 Gq C fx eY r outs s ∨ ∃ t y q d s1, s t = .h y q ∧ cO s (.h y q) = some (d, s1) ∧ Gq C fx eY r outs (fin s1 (some t) d)
theorem bM.takes {w0 w : World} {F0 X F : Nat → Prop} {S : Nat → Nat → Prop} {s s1 : al} {aB : Nat → Value} {t y : Nat} {q : List Nat} {d : I} (aW : bM w0 F0 X F S s aB w) (af : s t = .h y q) (ag : cO s (.h y q) = some (d, s1)) :
  ∃ aR, bM w0 F0 X F aR (cY.fin s1 (some t) d) aB w := by
 have ab := aW.dp t
 rw [af, aI] at ab
 obtain ⟨cc, k0, bt, b0, Sn, dK, de, dI, dX, jh, _⟩ := pd aW (av := .h y q) (v := aB t) rfl (by rw [aI]; exact ab) ag
 obtain ⟨aR, bE⟩ := k0.fin (.inr ⟨bt, b0, Sn, dK, de, dI, dX, jh⟩) (some t)
 refine ⟨aR, ?_⟩
 have e : nC aB (some t) (aB t) = aB := by
  funext u
  simp only [nC, db]
  split
  ·rename_i h; rw [h]
  ·rfl
 rwa [e] at bE
section
variable {C : b4} {w0 w : World} {F0 X F : Nat → Prop} {S : Nat → Nat → Prop} {s : al} {tmps : Array Value}
theorem Ls {d : I} {x : Value} (ai : ∀ vs, d ≠ .tuple vs) (h : dT d x) : cp x = iG x ∧ iH d x := by
 have : iH d x := by cases d <;> first | exact h | exact (ai _ rfl).elim
 refine ⟨?_, this⟩
 cases d <;> first
  | (obtain ⟨a, rfl⟩ := this; rfl)
  | (simp only [iH] at this
     rw [hj this]
     cases x <;> first | rfl | (simp [Value.gJ] at this))
def yI (tmps : Array Value) : ResultVar → Sem Value
 | .tmp t => pure (tmps.getD t undef)
 | .cell a t => do loadVar t (← asAddr (tmps.getD a undef))
theorem Ux (bp : C.eP) (h : bM w0 F0 X F S s (fun t => tmps.getD t undef) w) {v : ResultVar} {d : I} (aK : qp C s v = some d) :
  ∃ x, (yI tmps v).run C.P w = .ok x w ∧ d.tree = true ∧ (∀ vs, d ≠ .tuple vs) ∧ dT d x ∧ ay w F d (cp x) (S (jW v)) := by
 cases v with
 | tmp t =>
   simp only [qp] at aK
   split at aK
   ·rename_i a1
    have ng : (∀ vs, s t ≠ .tuple vs) ∧ d = s t := by
     cases ab : s t <;> rw [ab] at aK <;> simp only at aK <;> first
      | (cases aK; done)
      | (simp only [Option.some.injEq] at aK; exact ⟨(fun _ h => by cases h), aK.symm⟩)
    obtain ⟨ng, rfl⟩ := ng
    obtain ⟨g1, g2⟩ := (aI.cJ a1).1 (h.dp t)
    exact ⟨_, by simp [yI], a1, ng, g1, g2⟩
   ·cases aK
 | cell a T =>
   simp only [qp] at aK
   split at aK
   ·rename_i e ab
    split at aK
    ·rename_i Uy
     obtain ⟨ir, Uz⟩ := Uy
     simp only [Option.some.injEq] at aK; subst aK
     have jG := h.dp a
     rw [ab] at jG
     obtain ⟨g1, g2⟩ := (aI.cJ (d := .aU e) rfl).1 jG
     rw [hj g1, ay] at g2
     obtain ⟨b, cur, ty, fr, aR, bt, b0, dK, de, dI, dX, jh⟩ := g2
     simp only [List.cons.injEq, and_true] at bt
     have kn : h5 w b 0 cur.toList := by
      have := vk dK cur.size
      rwa [List.take_of_length_le (by simp)] at this
     obtain ⟨x, dR, br, dQ⟩ := A1 (C := C) bp kn dI ir
     refine ⟨x, ?_, Uz, ?_, dQ, ?_⟩
     ·simp only [yI]
      rw [bt]
      simpa [asAddr] using dR
     ·intro vs gA; subst gA
      unfold fits at ir
      split at ir <;> simp_all
     ·rw [br]; exact ay.mono (fun _ h => h) _ _ _ _ dX dI
    ·cases aK
   ·cases aK
theorem UA (bp : C.eP) (h : bM w0 F0 X F S s (fun t => tmps.getD t undef) w) : ∀ (eY : List ResultVar) (ds : List I), eY.map (qp C s) = ds.map some → (eY.map jW).Nodup →
  ∃ xs, (eY.mapM (yI tmps)).run C.P w = .ok xs w ∧ xs.length = ds.length ∧ bf w F ds (xs.flatMap iG) (fun b => ∃ t ∈ eY.map jW, S t b) ∧
    ∀ (k : Nat) (d : I) (x : Value), ds[k]? = some d → xs[k]? = some x → dT d x ∧ (∀ vs, d ≠ .tuple vs) ∧ (iG x).length = d.wd ∧ cp x = iG x ∧ d.tree = true := by
 intro eY
 induction eY with
 | nil =>
   intro ds he _
   have : ds = [] := by simpa using he.symm
   subst this
   exact ⟨[], by simp, rfl, by simp only [List.flatMap_nil]; rw [bf], fun k d x ai => by simp at ai⟩
 | cons v eY ih =>
   intro ds he vQ
   cases ds with
   | nil => simp at he
   | cons d ds =>
     simp only [List.map_cons, List.cons.injEq] at he
     simp only [List.map_cons, List.nodup_cons] at vQ
     obtain ⟨x, dR, rt, br, dQ, ca⟩ := Ux bp h he.1
     obtain ⟨xs, gC, f_, hO, hP⟩ := ih ds he.2 vQ.2
     obtain ⟨aN, aZ⟩ := Ls br dQ
     refine ⟨x :: xs, by simp [List.mapM_cons, dR, gC], by simp [f_], ?_, ?_⟩
     ·simp only [List.flatMap_cons]
      rw [bf]
      rw [aN] at ca
      refine ⟨iG x, xs.flatMap iG, S (jW v), fun b => ∃ t ∈ eY.map jW, S t b, rfl, ca, hO, fun b aa => ⟨jW v, by simp, aa⟩, ?_, ?_⟩
      ·rintro b ⟨t, a1, aa⟩; exact ⟨t, by simp [a1], aa⟩
      ·rintro b aa ⟨t, a1, mz⟩
       have : t ≠ jW v := fun e => vQ.1 (e ▸ a1)
       exact h.ff t (jW v) b this mz aa
     ·intro k bx cA ai aq
      cases k with
      | zero =>
        simp at ai aq; subst ai aq
        refine ⟨dQ, br, ?_, aN, rt⟩
        rw [← aN]; exact ay.length _ _ _ ca
      | succ k => exact hP k bx cA (by simpa using ai) (by simpa using aq)
theorem Gr (bp : C.eP) {f : FuncId} {fn : Func} {c : Code} {fx : List Nat} {as outs : List I} {r : I} (bz : C.P.funcs[f]? = some fn) (aa : fn.body = some c)
  (k6 : (fn.name == "runtime.NumGoroutine") = false) (bc : as.length ≤ fn.ntmps)
  {w : World} {F X : Nat → Prop} {S : Nat → Nat → Prop} {vs : List Value} (hl : vs.length = as.length) (aW : bM w F X F S (fO as) (hH vs) w)
  (Gs : ∀ a, Rel w F X ⟨fn.ntmps, fx⟩ (hH vs) (fO as) a w → (∀ t, a.tmps.getD t undef = hH vs t) → c.wp C.P (tI w F X ⟨fn.ntmps, fx⟩ (hH vs) (fun e s => (e = .normal ∨ e = .ret) ∧ dY (Ends C fx fn.results.toList r outs) s)) a w) :
  ot C.P f vs.toArray w fun v aL => ∃ bQ aR, bM w F X bQ aR (fO (r :: outs)) (hH (v :: vs)) aL := by
 have nf : (vs.toArray ++ Array.replicate (fn.ntmps - vs.toArray.size) undef).size = fn.ntmps := by simp; omega
 have ek : (fun t => (vs.toArray ++ Array.replicate (fn.ntmps - vs.toArray.size) undef).getD t undef) = hH vs := by
  funext t
  simp only [hH, Array.getD_eq_getD_getElem?, List.getD_eq_getElem?_getD]
  by_cases a1 : t < vs.length
  ·rw [Array.getElem?_append_left (by simpa using a1)]; simp
  ·rw [Array.getElem?_append_right (by simpa using a1)]
   rw [List.getElem?_eq_none (by omega)]
   simp only [Array.getElem?_replicate]
   split <;> rfl
 have pA : Rel w F X ⟨fn.ntmps, fx⟩ (hH vs) (fO as) { tmps := vs.toArray ++ Array.replicate (fn.ntmps - vs.toArray.size) undef, defers := [] } w :=
  ⟨rfl, nf, fun i _ => congrFun ek i, F, S, by rw [ek]; exact aW⟩
 have Gt : fn.name ≠ "runtime.NumGoroutine" := by simpa using k6
 refine .inl ⟨by simp [callFunc, bz, Gt, aa], calls_of_wp bz aa (wp_mono (Gs _ pA (congrFun ek)) ?_)⟩
 rintro e cN aL ⟨az, ⟨he, UB⟩, UC⟩
 obtain ⟨az, ⟨ds, jV, Lt, vQ, te⟩, ai, d_, hI, bQ, aR, ez⟩ : ∃ az, Gq C fx fn.results.toList r outs az ∧ Rel w F X ⟨fn.ntmps, fx⟩ (hH vs) az cN aL := by
  obtain ⟨az, he, Lu⟩ := UC.dY UB
  rcases he with he | ⟨t, y, q, d, s1, af, ag, he⟩
  ·exact ⟨az, he, Lu⟩
  ·obtain ⟨g1, g2, g3, F, S, g4⟩ := Lu
   obtain ⟨aR, g5⟩ := g4.takes af ag
   exact ⟨_, he, g1, g2, g3, F, aR, g5⟩
 obtain ⟨xs, gC, f_, hO, hP⟩ := UA bp ez _ ds jV vQ
 have UD : (results fn cN.tmps) = (do let vs ← fn.results.mapM (yI cN.tmps); pure (if h : vs.size = 1 then vs[0] else .tuple vs)) := by
  unfold results
  congr 1
 have tj : (results fn cN.tmps).run C.P aL = .ok (if h : xs.toArray.size = 1 then xs.toArray[0] else .tuple xs.toArray) aL := by
  rw [UD, Array.mapM_eq_mapM_toList]
  simp [gC]
 have qq : (r.tree = true ∧ dT r (if h : xs.toArray.size = 1 then xs.toArray[0] else .tuple xs.toArray) ∧
   ay aL bQ r (cp (if h : xs.toArray.size = 1 then xs.toArray[0] else .tuple xs.toArray)) (fun b => ∃ t ∈ fn.results.toList.map jW, aR t b)) := by
  by_cases af : ∃ d, ds = [d]
  ·obtain ⟨d, rfl⟩ := af
   obtain ⟨x, rfl⟩ : ∃ x, xs = [x] := by
    cases xs with
    | nil => simp at f_
    | cons x xs => cases xs with
      | nil => exact ⟨x, rfl⟩
      | cons y ck => simp at f_
   obtain ⟨bt, b0, dK, de, dI⟩ := hP 0 d x rfl rfl
   have UE : d = r := Lt.symm
   subst UE
   simp only [List.flatMap_cons, List.flatMap_nil, List.append_nil] at hO
   rw [bf] at hO
   obtain ⟨cv, cw, cc, dB, aN, aZ, aT, b2, cI, bZ⟩ := hO
   rw [bf] at aT; subst aT
   simp only [List.append_nil] at aN; subst aN
   have aq : (if h : ([x] : List Value).toArray.size = 1 then ([x] : List Value).toArray[0] else .tuple ([x] : List Value).toArray) = x := by simp
   rw [aq, de]
   exact ⟨dI, bt, ay.mono (fun _ h => h) _ _ _ _ b2 aZ⟩
  ·have Bw : r = .tuple ds := by
    rw [Lt]
    cases ds with
    | nil => rfl
    | cons d ds => cases ds with
      | nil => exact (af ⟨d, rfl⟩).elim
      | cons e ds => rfl
   have aq : (if h : xs.toArray.size = 1 then xs.toArray[0] else Value.tuple xs.toArray) = .tuple xs.toArray := by
    rw [dif_neg]
    intro d_
    have : ds.length = 1 := by rw [← f_]; simpa using d_
    obtain ⟨d, ai⟩ := List.length_eq_one_iff.1 this
    exact af ⟨d, ai⟩
   rw [aq, Bw]
   refine ⟨rfl, ⟨xs.toArray, rfl, by simpa using f_, fun k d x ai aq => ?_⟩, ?_⟩
   ·obtain ⟨bt, b0, dK, de, _⟩ := hP k d x ai (by simpa using aq)
    exact ⟨(Ls b0 bt).2, b0, dK⟩
   ·rw [ay]
    simpa [cp] using hO
 have post : ∀ (v : Value), (r.tree = true ∧ dT r v ∧ ay aL bQ r (cp v) (fun b => ∃ t ∈ fn.results.toList.map jW, aR t b)) → ∃ vI cc, bM w F X vI cc (fO (r :: outs)) (hH (v :: vs)) aL := by
  rintro v ⟨v1, v2, v3⟩
  have Gu : ∀ i, (outs.getD i .hole).gL = true → outs.getD i .hole = az i ∧ i ∈ fx ∧ i ∉ fn.results.toList.map jW := by
   intro i an
   cases bJ : outs[i]? with
   | none => simp [List.getD, bJ, I.gL] at an
   | some o =>
     have e : outs.getD i .hole = o := by simp [List.getD, bJ]
     rw [e] at an ⊢
     rcases te i o bJ with h | h
     ·subst h; simp [I.gL] at an
     ·exact ⟨h.1, h.2.2⟩
  refine ⟨bQ, fun t b => match t with | 0 => ∃ t ∈ fn.results.toList.map jW, aR t b | i + 1 => (outs.getD i .hole).gL = true ∧ aR i b, ez.hs, ez.hG, ez.fe, ?_, ?_, ?_, ?_, ?_, ez.old, ez.size, ez.os, ez.tape, ez.output⟩
  ·intro t b aa
   cases t with
   | zero => obtain ⟨t, _, aa⟩ := aa; exact ez.eJ t b aa
   | succ i => exact ez.eJ i b aa.2
  ·intro t b aa
   cases t with
   | zero => obtain ⟨t, _, aa⟩ := aa; exact ez.fY t b aa
   | succ i => exact ez.fY i b aa.2
  ·intro t u b dC aa hu
   cases t with
   | zero =>
     obtain ⟨t, a1, aa⟩ := aa
     cases u with
     | zero => exact dC rfl
     | succ j =>
       refine ez.ff t j b (fun e => ?_) aa hu.2
       subst e; exact (Gu t hu.1).2.2 a1
   | succ i =>
     cases u with
     | zero =>
       obtain ⟨t, a1, hu⟩ := hu
       refine ez.ff t i b (fun e => ?_) hu aa.2
       subst e; exact (Gu t aa.1).2.2 a1
     | succ j => exact ez.ff i j b (by omega) aa.2 hu.2
  ·intro t b aa
   cases t with
   | zero => obtain ⟨t, _, aa⟩ := aa; exact ez.dS t b aa
   | succ i => exact ez.dS i b aa.2
  ·intro t
   cases t with
   | zero => exact (aI.cJ v1).2 ⟨v2, v3⟩
   | succ i =>
     show aI aL bQ (fO (r :: outs)) (hH (v :: vs)) (outs.getD i .hole) (vs.getD i undef) (fun b => (outs.getD i .hole).gL = true ∧ aR i b)
     cases an : (outs.getD i .hole).gL with
     | false =>
       have : outs.getD i .hole = .hole := by
        cases bJ : outs[i]? with
        | none => simp [List.getD, bJ]
        | some o =>
          have e : outs.getD i .hole = o := by simp [List.getD, bJ]
          rw [e] at an ⊢
          rcases te i o bJ with h | h
          ·exact h
          ·rw [h.2.1] at an; cases an
       rw [this, aI]; trivial
     | true =>
       obtain ⟨nK, lx, px⟩ := Gu i an
       have a1 := (sb an).2.1
       have jG := ez.dp i
       rw [← nK] at jG
       obtain ⟨g1, g2⟩ := (aI.cJ a1).1 jG
       have aK : cN.tmps.getD i undef = vs.getD i undef := hI i lx
       rw [aK] at g1 g2
       exact (aI.cJ a1).2 ⟨g1, ay.mono (fun _ h => h) _ _ _ _ (fun b aa => ⟨rfl, aa⟩) g2⟩
 rcases he with rfl | rfl
 ·exact ⟨ai, _, tj, _, rfl, post _ qq⟩
 ·exact ⟨ai, _, tj, _, rfl, post _ qq⟩
theorem bm.of_wp (bp : C.eP) {f : FuncId} {fn : Func} {c : Code} {dh : J} {fx : List Nat} {as outs : List I} {r : I} (bz : C.P.funcs[f]? = some fn) (aa : fn.body = some c)
  (k6 : (fn.name == "runtime.NumGoroutine") = false) (ab : bu ⟨fn.ntmps, fx⟩ c = some dh.strip) (bc : as.length ≤ fn.ntmps)
  (h : cy C dh (fun e s => (e = .normal ∨ e = .ret) ∧ dY (Ends C fx fn.results.toList r outs) s) (fO as)) (aw : dh.plain = true := by kernel_rfl) : bm C f as r outs :=
 fun w F X S vs hl aW => Gr bp bz aa k6 bc hl aW fun a pA _ => Lr bp c (by rw [J.Gl]; exact ab) (J.Bs dh (J.Lj dh aw)) (Bu dh h) pA
end
def num : Nat → List I → List (Nat × I)
 | _, [] => []
 | k, a :: as => (k, a) :: num (k + 1) as
theorem UF : ∀ (as : List I) (k t : Nat), U (num k as) (k + t) = as.getD t .hole := by
 intro as
 induction as with
 | nil => intro k t; simp [num, U]
 | cons a as ih =>
   intro k t
   cases t with
   | zero => simp [num, U]
   | succ t =>
     have := ih (k + 1) t
     simp only [num, U]
     rw [if_neg (by omega)]
     rw [show k + (t + 1) = k + 1 + t by omega, this]
     simp
theorem yJ (as : List I) : fO as = U (num 0 as) := by
 funext t
 have := UF as 0 t
 rw [Nat.zero_add] at this
 rw [this]; rfl
theorem k7 (l : List (Nat × I)) (t : Nat) (d : I) : db (U l) t d = U ((t, d) :: l) := by
 funext u; simp only [db, U]
def oy (t : Nat) : List (Nat × I) → List (Nat × I)
 | [] => []
 | (u, d) :: l => (u, cR t d) :: oy t l
def tJ (t : Nat) : List (Nat × I) → List (Nat × I)
 | [] => []
 | (u, d) :: l => (u, cj t d) :: tJ t l
theorem vR (t : Nat) : ∀ l : List (Nat × I), mc t (U l) = U (oy t l) := by
 intro l
 funext u
 induction l with
 | nil => rfl
 | cons p l ih =>
   obtain ⟨v, d⟩ := p
   simp only [mc, U, oy] at ih ⊢
   split
   ·rfl
   ·exact ih
theorem UG (t : Nat) : ∀ l : List (Nat × I), hX t (U l) = U (tJ t l) := by
 intro l
 funext u
 induction l with
 | nil => rfl
 | cons p l ih =>
   obtain ⟨v, d⟩ := p
   simp only [hX, U, tJ] at ih ⊢
   split
   ·rfl
   ·exact ih
def hR (k : List Nat) (s : al) : List (Nat × I) := k.map fun t => (t, s t)
section
variable {C : b4} {l : List (Nat × I)}
def fG.tK : fG → Bool
 | .call _ _ => true
 | .cz _ => false
 | .fu _ => false
 | .pick _ _ _ => false
 | .g_ _ => false
 | .dj _ _ => false
 | .ev _ _ => false
 | .c9 _ _ _ => false
 | .cS _ _ => false
 | .gr _ _ _ => false
 | .fs _ => false
 | .cf _ _ _ _ => false
 | .un _ _ => false
 | .gv _ _ _ => false
 | .ji _ _ => false
 | .e7 _ _ _ => false
 | .fh _ _ _ _ => false
 | .di _ _ _ => false
 | .eX _ _ _ => false
 | .idx _ _ _ => false
 | .ex _ _ => false
 | .mE _ _ _ => false
 | .len _ _ => false
 | .app _ _ _ _ => false
 | .shr _ => true
 | .oi _ _ _ _ => false
 | .cap _ _ => false
 | .qe _ _ _ => false
 | .bad => false
 | .nc _ _ _ _ => true
 | .nd _ _ _ => true
 | .kc _ _ => false
 | .nI _ => false
 | .mj _ => false
 | .qf => false
 | .iJ _ _ _ => false
 | .jF _ _ _ _ => false
variable {Q : Exit → al → Prop}
def I.yK : I → Bool
 | .tuple _ => true
 | _ => false
theorem Ends.one {fx : List Nat} {t : Nat} {r : I} {s : al} (af : s t = r) (ag : (r.tree && !r.yK) = true) : Ends C fx [.tmp t] r [] s := by
 simp only [Bool.and_eq_true, Bool.not_eq_true'] at ag
 obtain ⟨ag, Bx⟩ := ag
 have aF : ∀ vs, r ≠ .tuple vs := fun vs e => by subst e; simp [I.yK] at Bx
 refine .inl ⟨[r], ?_, rfl, by simp, fun i o h => by simp at h⟩
 have : qp C s (.tmp t) = some r := by
  simp only [qp, af, ag, if_true]
  try (cases r <;> first | rfl | exact (aF _ rfl).elim)
 simp only [List.map_cons, List.map_nil, this]
end
section
variable {C : b4} {l : List (Nat × I)} {Q : Exit → al → Prop}
theorem bm.outs {f : FuncId} {as : List I} {r : I} {nK lx : List I} (h : bm C f as r nK) (he : fO nK = fO lx) : bm C f as r lx := by
 intro w F X S vs hl aW
 refine ot.mono (h w F X S vs hl aW) ?_
 rintro v aL ⟨bQ, aR, bE⟩
 refine ⟨bQ, aR, ?_⟩
 have : fO (r :: lx) = fO (r :: nK) := by
  funext t
  cases t with
  | zero => rfl
  | succ t => exact (congrFun he t).symm
 rw [this]; exact bE
def mM : List I → List I → List cP
 | a :: as, d :: ds => ⟨a, false, d, .hole⟩ :: mM as ds
 | _, _ => []
theorem UH {s : al} : ∀ (as ds : List I), views s as = some ds → (mM as ds).map (·.a) = as ∧ (mM as ds).map (·.d) = ds ∧ (∀ p ∈ mM as ds, p.ok s ∧ p.g = false ∧ p.o = .hole ∧ p.a ∈ as) ∧ iU (mM as ds) = true ∧
  fO ((mM as ds).map (·.o)) = fO [] ∧ (∀ rk, fw rk (mM as ds) = rk) ∧ (∀ rk, iK rk (mM as ds) = rk) := by
 intro as
 induction as with
 | nil =>
   intro ds h
   simp only [views, Option.some.injEq] at h; subst h
   exact ⟨rfl, rfl, (fun p aw => by cases aw), rfl, rfl, fun _ => rfl, fun _ => rfl⟩
 | cons a as ih =>
   intro ds h
   simp only [views] at h
   split at h
   ·rename_i d UI af ag
    simp only [Option.some.injEq] at h; subst h
    obtain ⟨aN, aZ, aT, b2, cI, bZ, bO⟩ := ih UI ag
    refine ⟨by simp only [mM, List.map_cons, aN], by simp only [mM, List.map_cons, aZ], ?_, ?_, ?_, ?_, ?_⟩
    ·intro p aw
     simp only [mM, List.mem_cons] at aw
     rcases aw with rfl | aw
     ·exact ⟨by simp only [cP.ok]; exact af, rfl, rfl, by simp⟩
     ·obtain ⟨g1, g2, g3, g4⟩ := aT p aw
      exact ⟨g1, g2, g3, by simp [g4]⟩
    ·simp only [mM, iU, b2, Bool.and_true, List.all_eq_true]
     intro p aw
     simp [(aT p aw).2.1]
    ·funext t
     cases t with
     | zero => rfl
     | succ t => exact (congrFun cI t).trans (by simp [fO])
    ·intro rk; exact bZ rk
    ·intro rk; exact bO rk
   ·cases h
end
structure eZ where
 bR : List Nat
 H : List Nat
 T : List Nat
 c : Bool
mutual
def I.clean : I → Bool
 | .hole => false
 | .fn _ cap => I.vS cap
 | _ => true
def I.vS : List I → Bool
 | [] => true
 | d :: ds => d.clean && I.vS ds
end
mutual
theorem Lv {x : Nat} : ∀ a : I, (cj x a).clean = true → cj x a = a
 | .h y q, h => by
   simp only [cj] at h ⊢
   split
   ·rename_i e; rw [if_pos e] at h
    split
    ·rfl
    ·rename_i gA; rw [if_neg gA] at h; simp [I.clean] at h
   ·rfl
 | .aw y q, h => by
   simp only [cj] at h ⊢
   split
   ·rename_i e; rw [if_pos e] at h; simp [I.clean] at h
   ·rfl
 | .aa y q, h => rfl
 | .fn f cap, h => by simp only [cj, I.clean] at h ⊢; rw [Lw cap h]
 | .hole, _ => rfl
 | .bool _, _ => rfl
 | .eT, _ => rfl
 | .int _ _, _ => rfl
 | .str _, _ => rfl
 | .da, _ => rfl
 | .bo, _ => rfl
 | .slice _, _ => rfl
 | .au _ _, _ => rfl
 | .ref _, _ => rfl
 | .aU _, _ => rfl
 | .agg _, _ => rfl
 | .tuple _, _ => rfl
 | .ct _, _ => rfl
theorem Lw {x : Nat} : ∀ ds : List I, I.vS (je x ds) = true → je x ds = ds
 | [], _ => rfl
 | d :: ds, h => by
   simp only [je, I.vS, Bool.and_eq_true] at h ⊢
   rw [Lv d h.1, Lw ds h.2]
end
mutual
theorem Lx {x : Nat} : ∀ a : I, (cR x a).clean = true → cR x a = a
 | .h y q, h => by
   simp only [cR] at h ⊢
   split
   ·rename_i e; rw [if_pos e] at h; simp [I.clean] at h
   ·rfl
 | .aw y q, h => by
   simp only [cR] at h ⊢
   split
   ·rename_i e; rw [if_pos e] at h; simp [I.clean] at h
   ·rfl
 | .aa y q, h => by
   simp only [cR] at h ⊢
   split
   ·rename_i e; rw [if_pos e] at h; simp [I.clean] at h
   ·rfl
 | .fn f cap, h => by simp only [cR, I.clean] at h ⊢; rw [Ly cap h]
 | .hole, _ => rfl
 | .bool _, _ => rfl
 | .eT, _ => rfl
 | .int _ _, _ => rfl
 | .str _, _ => rfl
 | .da, _ => rfl
 | .bo, _ => rfl
 | .slice _, _ => rfl
 | .au _ _, _ => rfl
 | .ref _, _ => rfl
 | .aU _, _ => rfl
 | .agg _, _ => rfl
 | .tuple _, _ => rfl
 | .ct _, _ => rfl
theorem Ly {x : Nat} : ∀ ds : List I, I.vS (jC x ds) = true → jC x ds = ds
 | [], _ => rfl
 | d :: ds, h => by
   simp only [jC, I.vS, Bool.and_eq_true] at h ⊢
   rw [Lx d h.1, Ly ds h.2]
end
theorem UJ {k : qh} {x : Nat} {a : I} (h : (k.app x a).clean = true) : k.app x a = a := by
 cases k with
 | no => rfl
 | cj => exact Lv a h
 | cR => exact Lx a h
theorem UK : ∀ (ms : List ho) (u : Nat) (a : I), (∀ m ∈ ms, m.x ≠ u) → (kq ms u a).clean = true → kq ms u a = a := by
 intro ms
 induction ms with
 | nil => intros; rfl
 | cons m ms ih =>
   intro u a aq ao
   simp only [kq] at ao ⊢
   have e := ih u _ (fun js tL => aq js (by simp [tL])) ao
   have hm : m.at u a = m.k.app m.x a := by
    simp only [ho.at]; rw [if_neg (fun e => aq m (by simp) e.symm)]
   rw [e, hm]
   rw [e, hm] at ao
   exact UJ ao
theorem UL : ∀ (ms : List ho) (u : Nat) (a : I), (∀ m ∈ ms, m.x ≠ u ∧ m.x ∉ a.ab) → kq ms u a = a := by
 intro ms
 induction ms with
 | nil => intros; rfl
 | cons m ms ih =>
   intro u a aq
   simp only [kq]
   have hm : m.at u a = a := by
    simp only [ho.at]; rw [if_neg (fun e => (aq m (by simp)).1 e.symm)]
    exact yp (.inr (aq m (by simp)).2)
   rw [hm]
   exact ih u a fun js tL => aq js (by simp [tL])
theorem UM (m : ho) : ∀ (ms : List ho) (u : Nat) (a : I), (∀ js ∈ ms, js.x ≠ m.x ∧ js.x ∉ m.d.ab ∧ m.x ∉ js.d.ab) → kq ms u (m.at u a) = m.at u (kq ms u a) := by
 intro ms
 induction ms with
 | nil => intros; rfl
 | cons n ms ih =>
   intro u a aq
   simp only [kq]
   have bc := aq n (by simp)
   have ao : n.at u (m.at u a) = m.at u (n.at u a) := by
    simp only [ho.at]
    by_cases aN : u = n.x
    ·subst aN
     rw [if_pos rfl, if_neg bc.1, if_pos rfl]
     exact (yp (.inr bc.2.2)).symm
    ·rw [if_neg aN]
     by_cases aZ : u = m.x
     ·subst aZ
      rw [if_pos rfl, if_pos rfl]
      exact yp (.inr bc.2.1)
     ·rw [if_neg aZ, if_neg aN, if_neg aZ]
      exact Th _ _ _ _ _
   rw [ao]
   exact ih u _ fun js tL => aq js (by simp [tL])
theorem UN : ∀ (ms lv : List ho) (s : al), (∀ m ∈ ms, ∀ n ∈ lv, n.x ≠ m.x ∧ n.x ∉ m.d.ab ∧ m.x ∉ n.d.ab) → dA lv (dA ms s) = dA ms (dA lv s) := by
 intro ms
 induction ms with
 | nil => intros; rfl
 | cons m ms ih =>
   intro lv s h
   have e : ∀ s, dA (m :: ms) s = dA ms (dA [m] s) := fun s => ml [m] ms s
   rw [e, e, ih lv _ (fun js tL => h js (by simp [tL]))]
   congr 1
   funext u
   simp only [dA, kq]
   exact UM m lv u _ (h m (by simp))
def Gv (C : b4) (s : al) (f : aH) (args : List aH) (K : List Nat → I → al → Prop) : Prop :=
 ∃ (g : FuncId) (caps : List I) (ps : List cP) (r : I), aJ s f = .fn g caps ∧ I.e1 caps = true ∧ ps.map (·.a) = args.map (aJ s) ++ caps ∧ (∀ p ∈ ps, p.ok s) ∧ iU ps = true ∧
   bm C g (ps.map (·.d)) r (ps.map (·.o)) ∧ r.res = true ∧ (kK ps = true → r.c3 = true ∧ ∀ p ∈ ps, p.o.c3 = true) ∧ K (I.dV ((ps.filter (·.g)).map (·.a))) r (iK (fw s ps) ps)
def oz (C : b4) (s : al) (bD : fG) (K : List Nat → I → al → Prop) : Prop :=
 match bD with
 | .call f args => ∃ (g : FuncId) (caps : List I) (ps : List cP) (r : I), aJ s f = .fn g caps ∧ I.e1 caps = true ∧ ps.map (·.a) = args.map (aJ s) ++ caps ∧ (∀ p ∈ ps, p.ok s) ∧ iU ps = true ∧
   bm C g (ps.map (·.d)) r (ps.map (·.o)) ∧ r.res = true ∧ (kK ps = true → r.c3 = true ∧ ∀ p ∈ ps, p.o.c3 = true) ∧ K (I.dV ((ps.filter (·.g)).map (·.a))) r (iK (fw s ps) ps)
 | .shr bD => ∃ av s1, bB C s bD = some (av, s1) ∧ av.tree = true ∧ (∀ vs, av ≠ .tuple vs) ∧ K (c6 s bD) av.share s1
 | .nc f args u x => s u = .h x [] ∧ (s x).own = true ∧ Gv C s f args fun cO av s1 => s1 u = .hole ∧ (s1 x).own = true ∧ K (u :: cO) av (db s1 u (.h x []))
 | .nd f args us => qn s (mL s us) = true ∧ Gv C s f args fun cO av s1 => qn s1 (mL s us) = true ∧ K (us ++ cO) av (rj s1 (mL s us))
 | bD => ∃ av s1, bB C s bD = some (av, s1) ∧ K (c6 s bD) av s1
def jl (s : al) (bR : List Nat) (dst : Option Nat) (cO : List Nat) (av : I) : eZ :=
 ⟨bR, bR.flatMap (fun u => (s u).ab) ++ av.ab, dst.toList ++ cO, bR.all fun u => (s u).clean⟩
def mN (C : b4) (s : al) (o : bU) (K : eZ → al → Prop) : Prop :=
 match o.guard with
 | none => oz C s o.bD fun cO av s1 => K (jl s (use s o.bD) o.dst cO av) (fin s1 o.dst av)
 | some (t, b) => match s t with
   | .bool fX => if fX = b then oz C s o.bD (fun cO av s1 => K (jl s (t :: use s o.bD) o.dst cO av) (fin s1 o.dst av)) else K (jl s [t] o.dst [] (.tuple [])) (fin s o.dst (.tuple []))
   | .tuple [] => K (jl s [t] o.dst [] (.tuple [])) (fin s o.dst (.tuple []))
   | _ => False
def qs : Option (List eZ) → eZ → Option (List eZ)
 | none, _ => none
 | some l, f => some (f :: l)
def b9 (C : b4) (s : al) : List bU → Option (List eZ) → (Option (List eZ) → al → Prop) → Prop
 | [], acc, K => K acc s
 | o :: os, acc, K => mN C s o fun f s1 => b9 C s1 os (qs acc f) K
section
variable {C : b4}
theorem Lz {s : al} {bD : fG} {K : List Nat → I → al → Prop} {dx : I → al → Prop} (ar : ∀ cO av s, K cO av s → dx av s) (h : oz C s bD K) : ov C s bD dx := by
 cases bD with
 | call f args =>
   obtain ⟨g, caps, ps, r, af, gM, ag, aF, a_, bI, cK, cH, fC⟩ := h
   exact ⟨g, caps, ps, r, af, gM, ag, aF, a_, bI, cK, cH, ar _ _ _ fC⟩
 | nc f args u x =>
   obtain ⟨bt, b0, g, caps, ps, r, af, gM, ag, aF, a_, bI, cK, cH, fC, hq, h6⟩ := h
   exact ⟨bt, b0, g, caps, ps, r, af, gM, ag, aF, a_, bI, cK, cH, fC, hq, ar _ _ _ h6⟩
 | nd f args us =>
   obtain ⟨b0, g, caps, ps, r, af, gM, ag, aF, a_, bI, cK, cH, fC, hq⟩ := h
   exact ⟨b0, g, caps, ps, r, af, gM, ag, aF, a_, bI, cK, cH, fC, ar _ _ _ hq⟩
 | shr bD =>
   obtain ⟨av, s1, af, ag, aF, a_⟩ := h
   exact ⟨av, s1, af, ag, aF, ar _ _ _ a_⟩
 | _ =>
   obtain ⟨av, s1, af, ag⟩ := h
   exact ⟨av, s1, af, ar _ _ _ ag⟩
theorem UO {s : al} {o : bU} {K : eZ → al → Prop} {dx : al → Prop} (ar : ∀ f s, K f s → dx s) (h : mN C s o K) : mn C s o dx := by
 unfold mN at h
 unfold mn
 split
 ·rename_i bA; rw [bA] at h; exact Lz (fun _ _ _ => ar _ _) h
 ·rename_i t b bA
  rw [bA] at h
  simp only at h
  split
  ·rename_i fX ab
   rw [ab] at h
   simp only at h
   split
   ·rename_i aa; rw [if_pos aa] at h; exact Lz (fun _ _ _ => ar _ _) h
   ·rename_i aa; rw [if_neg aa] at h; exact ar _ _ h
  ·rename_i ab; rw [ab] at h; exact ar _ _ h
  ·rename_i af ag
   split at h
   ·exact af _ (by assumption)
   ·exact ag (by assumption)
   ·exact h
theorem tM {K : al → Prop} : ∀ {ros : List bU} {s : al} {acc : Option (List eZ)} {dx : Option (List eZ) → al → Prop}, (∀ a s, dx a s → K s) → b9 C s ros acc dx → lV C s ros K := by
 intro ros
 induction ros with
 | nil => intro s acc dx ar h; exact ar _ _ h
 | cons o ros ih => intro s acc dx ar h; exact UO (fun f s h => ih ar h) h
theorem LA {q : List Nat} {a d : I} (h : I.sub q a = some d) (cG : q ≠ [] ∨ d.ab = []) : a.ab = [] := by
 cases q with
 | nil =>
   simp only [I.sub, Option.some.injEq] at h; subst h
   exact cG.resolve_left (fun e => e rfl)
 | cons k q => cases a <;> first | rfl | (simp [I.sub] at h)
def Bz (s : al) (p : cP) (e : I → Prop) : Prop := p.g = true → ∃ x q d, p.a = .h x q ∧ I.sub q (s x) = some d ∧ e d ∧ (p.o = .hole ∨ p.o.gL = true)
theorem LB {d : I} (h : d.gL = true) : d.ab = [] := F6 (sb h).2.1
theorem LC {d : I} (h : d.gL = true) : d.c7.ab = [] := by cases d <;> first | rfl | (simp [I.gL] at h)
theorem LD {p : cP} {ps : List cP} (h : iU (p :: ps) = true) : iU ps = true ∧ ∀ cB ∈ ps, (p.g = true ∨ cB.g = true) → ∀ u ∈ p.a.ab, u ∉ cB.a.ab := by
 simp only [iU, Bool.and_eq_true, List.all_eq_true, Bool.or_eq_true, Bool.not_eq_true'] at h
 refine ⟨h.2, fun cB ew bA u hu => ?_⟩
 rcases h.1 cB ew with e | e
 ·rcases bA with bA | bA <;> simp [bA] at e
 ·simpa using e u hu
def rl (ps : List cP) : List Nat := I.dV ((ps.filter (·.g)).map (·.a))
theorem vT (p : cP) (ps : List cP) : (∀ u ∈ rl ps, u ∈ rl (p :: ps)) ∧ (p.g = true → ∀ u ∈ p.a.ab, u ∈ rl (p :: ps)) := by
 unfold rl
 by_cases bA : p.g = true
 ·simp only [List.filter_cons, bA, if_true, List.map_cons, I.dV, List.mem_append]
  exact ⟨fun u h => .inr h, fun _ u h => .inl h⟩
 ·simp only [List.filter_cons, bA]
  exact ⟨fun u h => h, fun h => by simp at h⟩
theorem UP {p : cP} {ps : List cP} (h : p ∈ ps) : ∀ u ∈ p.a.ab, u ∈ I.dV (ps.map (·.a)) := by
 induction ps with
 | nil => cases h
 | cons cB ps ih =>
   intro u hu
   simp only [List.map_cons, I.dV, List.mem_append]
   rcases List.mem_cons.1 h with rfl | h
   ·exact .inl hu
   ·exact .inr (ih h u hu)
theorem UQ : ∀ (ps : List cP) (s : al), (∀ p ∈ ps, Bz s p (fun d => d = p.d ∧ p.d.gL = true)) → iU ps = true →
  (∃ ms : List ho, (∀ m ∈ ms, m.x ∈ rl ps ∧ m.d.ab = []) ∧ ∀ az, dG (I.dV (ps.map (·.a))) az s → fw az ps = dA ms az) ∧ ∀ p ∈ ps, Bz (fw s ps) p (fun d => d = p.d.c7 ∧ p.d.gL = true) := by
 intro ps
 induction ps with
 | nil => intro s _ _; exact ⟨⟨[], by simp, fun az _ => rfl⟩, fun p aw => by cases aw⟩
 | cons p ps ih =>
   intro s bA lu
   obtain ⟨pw, oq⟩ := LD lu
   by_cases mO : p.g = true
   ·obtain ⟨x, q, d, bF, ab, ⟨rfl, ai⟩, bJ⟩ := bA p (by simp) mO
    have kE : (I.put q p.d.c7 (s x)).ab = [] := vF q _ _ _ ab (.inl (sb ai).1) fun _ => LC ai
    have yL : ∀ az : al, az x = s x → p.take az = dA [⟨.cj, x, I.put q p.d.c7 (s x)⟩] az := by
     intro az e
     simp only [cP.take, mO, if_true, bF, e, tA]
    have dC : ∀ cB ∈ ps, ∀ cA jT, cB.a = .h cA jT → cA ≠ x := by
     intro cB ew cA jT e gA
     have := oq cB ew (.inl mO) x (by simp [bF, I.ab])
     rw [e, gA] at this; simp [I.ab] at this
    have sc : ∀ cA, cA ≠ x → (s cA).ab = [] → dA [⟨.cj, x, I.put q p.d.c7 (s x)⟩] s cA = s cA := by
     intro cA vt bn
     simp only [dA, kq, ho.at]
     rw [if_neg vt]
     exact yp (.inr (by rw [bn]; simp))
    obtain ⟨⟨ms, m1, m2⟩, m3⟩ := ih (dA [⟨.cj, x, I.put q p.d.c7 (s x)⟩] s) (fun cB ew Gw => by
     obtain ⟨cA, jT, bx, tC, fj, hF, yM⟩ := bA cB (by simp [ew]) Gw
     refine ⟨cA, jT, bx, tC, ?_, hF, yM⟩
     rw [sc cA (dC cB ew cA jT tC) (LA fj (.inr (by rw [hF.1]; exact LB hF.2)))]; exact fj) pw
    refine ⟨⟨[⟨.cj, x, I.put q p.d.c7 (s x)⟩] ++ ms, ?_, ?_⟩, ?_⟩
    ·intro m hm
     rcases List.mem_append.1 hm with hm | hm
     ·simp only [List.mem_singleton] at hm; subst hm
      exact ⟨(vT p ps).2 mO x (by simp [bF, I.ab]), kE⟩
     ·exact ⟨(vT p ps).1 _ (m1 m hm).1, (m1 m hm).2⟩
    ·intro az fj
     simp only [List.map_cons, I.dV] at fj
     have e : az x = s x := fj x (by simp [bF, I.ab])
     rw [ml]
     show fw (p.take az) ps = _
     rw [yL az e]
     exact m2 _ (dG.dA fj.right _)
    ·have aN : fw s (p :: ps) = fw (dA [⟨.cj, x, I.put q p.d.c7 (s x)⟩] s) ps := by
      show fw (p.take s) ps = _
      rw [yL s rfl]
     rw [aN]
     intro cB ew
     rcases List.mem_cons.1 ew with rfl | ew
     ·intro _
      refine ⟨x, q, cB.d.c7, bF, ?_, ⟨rfl, ai⟩, bJ⟩
      have aK : dA [⟨.cj, x, I.put q cB.d.c7 (s x)⟩] s x = I.put q cB.d.c7 (s x) := by
       simp only [dA, kq, ho.at, if_true]
      rw [F3 (by rw [aK]; exact kE) (fun UR US ay3 => ?_), aK]
      ·exact K1 q _ _ _ ab
      ·exact oq UR US (.inl mO) x (by simp [bF, I.ab])
     ·exact m3 cB ew
   ·have yL : ∀ az : al, p.take az = az := by intro az; simp only [cP.take, mO]; rfl
    obtain ⟨⟨ms, m1, m2⟩, m3⟩ := ih s (fun cB ew => bA cB (by simp [ew])) pw
    refine ⟨⟨ms, fun m hm => ⟨(vT p ps).1 _ (m1 m hm).1, (m1 m hm).2⟩, ?_⟩, ?_⟩
    ·intro az fj
     simp only [List.map_cons, I.dV] at fj
     show fw (p.take az) ps = _
     rw [yL]; exact m2 az fj.right
    ·intro cB ew
     have aN : fw s (p :: ps) = fw s ps := by show fw (p.take s) ps = _; rw [yL]
     rw [aN]
     rcases List.mem_cons.1 ew with rfl | ew
     ·intro h; exact (mO h).elim
     ·exact m3 cB ew
theorem UT : ∀ (ps : List cP) (s : al), (∀ p ∈ ps, Bz s p (fun d => d = p.d.c7 ∧ p.d.gL = true)) → iU ps = true →
  (∃ ms : List ho, (∀ m ∈ ms, m.x ∈ rl ps ∧ m.d.ab = []) ∧ ∀ az, dG (I.dV (ps.map (·.a))) az s → iK az ps = dA ms az) := by
 intro ps
 induction ps with
 | nil => intro s _ _; exact ⟨[], by simp, fun az _ => rfl⟩
 | cons p ps ih =>
   intro s bA lu
   obtain ⟨pw, oq⟩ := LD lu
   by_cases mO : p.g = true ∧ p.o ≠ .hole
   ·obtain ⟨mO, UU⟩ := mO
    obtain ⟨x, q, d, bF, ab, ⟨rfl, ai⟩, bJ⟩ := bA p (by simp) mO
    have bJ : p.o.gL = true := bJ.resolve_left UU
    have kE : (I.put q p.o (s x)).ab = [] := by
     cases q with
     | nil => simp only [I.put]; exact LB bJ
     | cons k q => exact vF _ _ _ _ ab (.inr (by simp)) (by simp)
    have Gx : ∀ az : al, az x = s x → p.jj az = dA [⟨.cR, x, I.put q p.o (s x)⟩] az := by
     intro az e
     simp only [cP.jj, mO, if_true, bF]
     rw [e, KK]
    have dC : ∀ cB ∈ ps, ∀ cA jT, cB.a = .h cA jT → cA ≠ x := by
     intro cB ew cA jT e gA
     have := oq cB ew (.inl mO) x (by simp [bF, I.ab])
     rw [e, gA] at this; simp [I.ab] at this
    obtain ⟨ms, m1, m2⟩ := ih (dA [⟨.cR, x, I.put q p.o (s x)⟩] s) (fun cB ew Gw => by
     obtain ⟨cA, jT, bx, tC, fj, hF, yM⟩ := bA cB (by simp [ew]) Gw
     refine ⟨cA, jT, bx, tC, ?_, hF, yM⟩
     have bn := LA fj (.inr (by rw [hF.1]; exact LC hF.2))
     have sc : dA [⟨.cR, x, I.put q p.o (s x)⟩] s cA = s cA := by
      simp only [dA, kq, ho.at]
      rw [if_neg (dC cB ew cA jT tC)]
      exact yp (.inr (by rw [bn]; simp))
     rw [sc]; exact fj) pw
    refine ⟨[⟨.cR, x, I.put q p.o (s x)⟩] ++ ms, ?_, ?_⟩
    ·intro m hm
     rcases List.mem_append.1 hm with hm | hm
     ·simp only [List.mem_singleton] at hm; subst hm
      exact ⟨(vT p ps).2 mO x (by simp [bF, I.ab]), kE⟩
     ·exact ⟨(vT p ps).1 _ (m1 m hm).1, (m1 m hm).2⟩
    ·intro az fj
     simp only [List.map_cons, I.dV] at fj
     have e : az x = s x := fj x (by simp [bF, I.ab])
     rw [ml]
     show iK (p.jj az) ps = _
     rw [Gx az e]
     exact m2 _ (dG.dA fj.right _)
   ·have Gx : ∀ az : al, p.jj az = az := by
     intro az
     unfold cP.jj
     split
     ·rename_i hY
      have : p.o = .hole := by
       by_cases h : p.o = .hole
       ·exact h
       ·exact (mO ⟨hY, h⟩).elim
      rw [this]
     ·rfl
    obtain ⟨ms, m1, m2⟩ := ih s (fun cB ew => bA cB (by simp [ew])) pw
    refine ⟨ms, fun m hm => ⟨(vT p ps).1 _ (m1 m hm).1, (m1 m hm).2⟩, ?_⟩
    intro az fj
    simp only [List.map_cons, I.dV] at fj
    show iK (p.jj az) ps = _
    rw [Gx]; exact m2 az fj.right
theorem UW {s az : al} : ∀ (a : I) (d : I), dG a.ab az s → view s a = some d → view az a = some d := by
 intro a d h
 have := F7 (s := s) (az := az) a d
 intro aK
 cases a with
 | h x q => simp only [view] at aK ⊢; rw [h x (by simp [I.ab])]; exact aK
 | aw x q => simp only [view] at aK ⊢; rw [h x (by simp [I.ab])]; exact aK
 | fn f cap =>
   refine this (fun u hu _ => h u hu) aK
 | _ => exact aK
theorem UX {p : cP} {s az : al} (h : dG p.a.ab az s) (fN : p.ok s) : p.ok az := by
 unfold cP.ok at fN ⊢
 split
 ·rename_i bA
  rw [if_pos bA] at fN
  cases bF : p.a with
  | h x q =>
    rw [bF] at fN
    simp only at fN ⊢
    rw [h x (by simp [bF, I.ab])]; exact fN
  | _ => rw [bF] at fN; exact fN.elim
 ·rename_i bA
  rw [if_neg bA] at fN
  exact UW _ _ h fN
def BA (C : b4) (o : bU) (s : al) (k8 : eZ) (ms : List ho) : Prop :=
 (∀ az, dG k8.bR az s → ∀ K : al → Prop, K (dA ms az) → mn C az o K) ∧ (∀ m ∈ ms, m.x ∈ k8.T ∧ ∀ u ∈ m.d.ab, u ∈ k8.H) ∧ (∀ u ∈ k8.bR, ∀ x ∈ (s u).ab, x ∈ k8.H) ∧ (k8.c = true → ∀ u ∈ k8.bR, (s u).clean = true)
theorem LF (dst : Option Nat) (av : I) : ∃ ms : List ho, (∀ m ∈ ms, m.x ∈ dst.toList ∧ m.d = av) ∧ ∀ s1 : al, fin s1 dst av = dA ms s1 := by
 cases dst with
 | none => exact ⟨[], by simp, fun s => rfl⟩
 | some t =>
   simp only [fin]
   by_cases h : av.plain = true
   ·exact ⟨[⟨.no, t, av⟩], by simp, fun s => by rw [if_pos h, FO]⟩
   ·exact ⟨[⟨.cR, t, av⟩], by simp, fun s => by rw [if_neg h, KK]⟩
theorem BB {s : al} {bR : List Nat} {dst : Option Nat} {cO : List Nat} {av : I} : (∀ u ∈ (jl s bR dst cO av).bR, ∀ x ∈ (s u).ab, x ∈ (jl s bR dst cO av).H) ∧ ((jl s bR dst cO av).c = true → ∀ u ∈ (jl s bR dst cO av).bR, (s u).clean = true) := by
 refine ⟨fun u hu x aq => ?_, fun ao => ?_⟩
 ·simp only [jl, List.mem_append, List.mem_flatMap]; exact .inl ⟨u, hu, aq⟩
 ·simp only [jl, List.all_eq_true] at ao; exact ao
theorem Gy {s : al} {f : aH} {args : List aH} {K : List Nat → I → al → Prop} (h : Gv C s f args K) :
  ∃ cO av ms, K cO av (dA ms s) ∧ (∀ m ∈ ms, m.x ∈ cO ∧ m.d.ab = []) ∧ ∀ az, dG (use s (.call f args)) az s → ∀ dx : I → al → Prop, dx av (dA ms az) → Bm C az f args dx := by
 obtain ⟨g, caps, ps, r, af, gM, ag, aF, a_, bI, cK, cH, fC⟩ := h
 have UY : ∀ p ∈ ps, Bz s p (fun d => d = p.d ∧ p.d.gL = true) := by
  intro p aw bA
  have := aF p aw
  simp only [cP.ok, bA, if_true] at this
  cases bF : p.a with
  | h x q => rw [bF] at this; exact ⟨x, q, p.d, rfl, this.1, ⟨rfl, this.2.1⟩, this.2.2.imp id fun h => h.1⟩
  | _ => rw [bF] at this; exact this.elim
 obtain ⟨⟨pv, R, a2⟩, a3⟩ := UQ ps s UY a_
 obtain ⟨r_, hN, gT⟩ := UT ps (fw s ps) a3 a_
 have qb : ∀ u ∈ I.dV (ps.map (·.a)), u ∈ use s (.call f args) := by
  rw [ag]
  intro u hu
  simp only [use, List.mem_append]
  have key : ∀ (hk l2 : List I), u ∈ I.dV (hk ++ l2) → u ∈ I.dV hk ∨ u ∈ I.dV l2 := by
   intro hk
   induction hk with
   | nil => intro l2 h; exact .inr h
   | cons a hk ih =>
     intro l2 h
     simp only [List.cons_append, I.dV, List.mem_append] at h ⊢
     rcases h with h | h
     ·exact .inl (.inl h)
     ·exact (ih l2 h).imp .inr id
  rcases key _ _ hu with hu | hu
  ·exact .inr (aH.Bh u hu)
  ·refine .inl (aH.tB u ?_)
   rw [af]; exact hu
 have gh : iK (fw s ps) ps = dA (pv ++ r_) s := by
  rw [ml, ← a2 s (fun _ _ => rfl), gT _ (fun _ _ => rfl)]
 refine ⟨rl ps, r, pv ++ r_, by rw [← gh]; exact fC, ?_, ?_⟩
 ·intro m hm
  rcases List.mem_append.1 hm with hm | hm
  ·exact R m hm
  ·exact hN m hm
 ·intro az ab dx ar
  have re : dG (I.dV (ps.map (·.a))) az s := ab.sub qb
  have bz : dG (f.use s) az s := by simp only [use] at ab; exact ab.left
  have aq : dG (aH.oo s args) az s := by simp only [use] at ab; exact ab.right
  have aN : iK (fw az ps) ps = dA (pv ++ r_) az := by
   rw [ml, ← a2 az re, gT]
   rw [a2 az re, a2 s (fun _ _ => rfl)]
   exact dG.dA re _
  exact ⟨g, caps, ps, r, by rw [aH.fv bz]; exact af, gM, by rw [aH.FT aq]; exact ag, fun p aw => UX (re.sub (UP aw)) (aF p aw), a_, bI, cK, cH, by rw [aN]; exact ar⟩
mutual
theorem LG {s az : al} : ∀ (d : I), dG d.ab az s → d.hQ az = d.hQ s
 | .h x q, h => by simp only [I.hQ]; rw [h x (by simp [I.ab])]
 | .aa x q, h => by simp only [I.hQ]; rw [h x (by simp [I.ab])]
 | .fn f cap, h => by simp only [I.hQ]; exact LH cap (by simpa only [I.ab] using h)
 | .aw _ _, _ => by simp only [I.hQ]
 | .hole, _ => by simp only [I.hQ]
 | .bool _, _ => by simp only [I.hQ]
 | .eT, _ => by simp only [I.hQ]
 | .int _ _, _ => by simp only [I.hQ]
 | .str _, _ => by simp only [I.hQ]
 | .da, _ => by simp only [I.hQ]
 | .bo, _ => by simp only [I.hQ]
 | .slice _, _ => by simp only [I.hQ]
 | .au _ _, _ => by simp only [I.hQ]
 | .ref _, _ => by simp only [I.hQ]
 | .aU _, _ => by simp only [I.hQ]
 | .agg _, _ => by simp only [I.hQ]
 | .tuple _, _ => by simp only [I.hQ]
 | .ct _, _ => by simp only [I.hQ]
theorem LH {s az : al} : ∀ (ds : List I), dG (I.dV ds) az s → I.sf az ds = I.sf s ds
 | [], _ => rfl
 | d :: ds, h => by
   simp only [I.dV] at h
   simp only [I.sf]; rw [LG d h.left, LH ds h.right]
end
theorem Gz {s az : al} {us : List Nat} (h : dG (us.flatMap fun u => u :: (s u).ab) az s) : mL az us = mL s us := by
 unfold mL
 refine List.map_congr_left fun u hu => ?_
 rw [h u (List.mem_flatMap.2 ⟨u, hu, by simp⟩)]
theorem GA {s az : al} : ∀ (L : List (Nat × I)), (∀ p ∈ L, dG p.2.ab az s) → qn az L = qn s L
 | [], _ => rfl
 | p :: L, h => by
   simp only [qn]; rw [LG p.2 (h p (by simp)), GA L (fun q cG => h q (by simp [cG]))]
theorem LI : ∀ (L : List (Nat × I)) (s : al), rj s L = dA (L.map fun p => ⟨.no, p.1, p.2⟩) s
 | [], s => rfl
 | p :: L, s => by
   simp only [rj, List.map_cons]
   rw [LI L, FO]
   exact (ml [⟨.no, p.1, p.2⟩] _ s).symm
theorem UZ {s : al} {bD : fG} {K : List Nat → I → al → Prop} (h : oz C s bD K) :
  ∃ cO av ms, K cO av (dA ms s) ∧ (∀ m ∈ ms, m.x ∈ cO ∧ ∀ v ∈ m.d.ab, ∃ u ∈ use s bD, v ∈ (s u).ab) ∧ ∀ az, dG (use s bD) az s → ∀ dx : I → al → Prop, dx av (dA ms az) → ov C az bD dx := by
 have plain : (∃ av s1, bB C s bD = some (av, s1) ∧ K (c6 s bD) av s1) → (∀ az (dx : I → al → Prop) av s1, bB C az bD = some (av, s1) → dx av s1 → ov C az bD dx) →
   ∃ cO av ms, K cO av (dA ms s) ∧ (∀ m ∈ ms, m.x ∈ cO ∧ ∀ v ∈ m.d.ab, ∃ u ∈ use s bD, v ∈ (s u).ab) ∧ ∀ az, dG (use s bD) az s → ∀ dx : I → al → Prop, dx av (dA ms az) → ov C az bD dx := by
  rintro ⟨av, s1, af, ag⟩ hw
  obtain ⟨ms, aN, aZ, aT⟩ := KZ af
  subst aN
  exact ⟨_, av, ms, ag, fun m hm => ⟨(aZ m hm).1, fun v aK => by rw [(aZ m hm).2] at aK; cases aK⟩, fun az ab dx ar => hw az dx av _ (aT az ab) ar⟩
 cases bD with
 | call f args =>
   obtain ⟨cO, av, ms, R, a2, a3⟩ := Gy h
   exact ⟨cO, av, ms, R, fun m hm => ⟨(a2 m hm).1, fun v aK => by rw [(a2 m hm).2] at aK; cases aK⟩, fun az ab dx ar => a3 az ab dx ar⟩
 | nc f args u x =>
   obtain ⟨bt, b0, ao⟩ := h
   obtain ⟨cO, av, ms, ⟨R, GB, U0⟩, a2, a3⟩ := Gy ao
   have e : ∀ s : al, db (dA ms s) u (.h x []) = dA (ms ++ [⟨.no, u, .h x []⟩]) s := fun s => by rw [ml, ← FO]
   refine ⟨u :: cO, av, ms ++ [⟨.no, u, .h x []⟩], by rw [← e]; exact U0, ?_, ?_⟩
   ·intro m hm
    rcases List.mem_append.1 hm with hm | hm
    ·exact ⟨by simp [(a2 m hm).1], fun v aK => by rw [(a2 m hm).2] at aK; cases aK⟩
    ·simp only [List.mem_singleton] at hm; subst hm
     refine ⟨by simp, fun v aK => ⟨u, by simp [use], ?_⟩⟩
     rw [bt]; exact aK
   ·intro az ab dx ar
    have LJ : az u = s u := ab u (by simp [use])
    have ex : az x = s x := ab x (by simp [use])
    refine ⟨by rw [LJ]; exact bt, by rw [ex]; exact b0, a3 az (fun y hy => ab y (by simp only [use, List.mem_cons] at hy ⊢; exact .inr (.inr hy))) _ ⟨?_, ?_, ?_⟩⟩
    ·have := R; simp only [dA] at this ⊢; rw [LJ]; exact this
    ·have := GB; simp only [dA] at this ⊢; rw [ex]; exact this
    ·rw [e]; exact ar
 | nd f args us =>
   obtain ⟨b0, ao⟩ := h
   obtain ⟨cO, av, ms, ⟨R, GB⟩, a2, a3⟩ := Gy ao
   have e : ∀ az : al, rj (dA ms az) (mL s us) = dA (ms ++ (mL s us).map fun p => ⟨.no, p.1, p.2⟩) az := fun az => by rw [ml, LI]
   have ko : ∀ {az : al}, dG (us.flatMap fun u => u :: (s u).ab) az s → ∀ p ∈ mL s us, dG p.2.ab az s := fun {az} ab p aw v aK => by
    obtain ⟨u, hu, rfl⟩ := List.mem_map.1 aw
    exact ab v (List.mem_flatMap.2 ⟨u, hu, by simp [aK]⟩)
   refine ⟨us ++ cO, av, ms ++ (mL s us).map fun p => ⟨.no, p.1, p.2⟩, by rw [← e]; exact GB, ?_, ?_⟩
   ·intro m hm
    rcases List.mem_append.1 hm with hm | hm
    ·exact ⟨by simp [(a2 m hm).1], fun v aK => by rw [(a2 m hm).2] at aK; cases aK⟩
    ·obtain ⟨p, aw, rfl⟩ := List.mem_map.1 hm
     obtain ⟨u, hu, rfl⟩ := List.mem_map.1 aw
     exact ⟨List.mem_append_left _ hu, fun v aK => ⟨u, by simp only [use, List.mem_append, List.mem_flatMap]; exact .inl ⟨u, hu, by simp⟩, aK⟩⟩
   ·intro az ab dx ar
    simp only [use] at ab
    refine ⟨by rw [Gz ab.left, GA _ (ko ab.left)]; exact b0, a3 az ab.right _ ⟨?_, ?_⟩⟩
    ·rw [Gz ab.left, GA _ (fun p aw => (ko ab.left p aw).dA ms)]; exact R
    ·rw [Gz ab.left, e]; exact ar
 | shr bD =>
   obtain ⟨av, s1, af, ag, aF, a_⟩ := h
   obtain ⟨ms, aN, aZ, aT⟩ := KZ af
   subst aN
   exact ⟨_, av.share, ms, a_, fun m hm => ⟨(aZ m hm).1, fun v aK => by rw [(aZ m hm).2] at aK; cases aK⟩, fun az ab dx ar => ⟨av, _, aT az ab, ag, aF, ar⟩⟩
 | _ => exact plain h (fun az dx av s1 af ag => ⟨av, s1, af, ag⟩)
theorem U1 {s : al} {o : bU} {K : eZ → al → Prop} (h : mN C s o K) : ∃ k8 ms, K k8 (dA ms s) ∧ BA C o s k8 ms := by
 have op : ∀ (bR : List Nat), (∀ u ∈ use s o.bD, u ∈ bR) → (∀ az, dG bR az s → ∀ dx : al → Prop, ov C az o.bD (fun av s1 => dx (fin s1 o.dst av)) → mn C az o dx) →
   oz C s o.bD (fun cO av s1 => K (jl s bR o.dst cO av) (fin s1 o.dst av)) → ∃ k8 ms, K k8 (dA ms s) ∧ BA C o s k8 ms := by
  intro bR qb mA hw
  obtain ⟨cO, av, ms, af, ag, aF⟩ := UZ hw
  obtain ⟨lv, lW, b3⟩ := LF o.dst av
  refine ⟨jl s bR o.dst cO av, ms ++ lv, ?_, ?_, ?_, BB.1, BB.2⟩
  ·rw [ml, ← b3]; exact af
  ·intro az ab dx ar
   refine mA az ab dx (aF az (ab.sub qb) _ ?_)
   rw [b3, ← ml]; exact ar
  ·intro m hm
   simp only [jl, List.mem_append]
   rcases List.mem_append.1 hm with hm | hm
   ·refine ⟨.inr (ag m hm).1, fun v aK => .inl ?_⟩
    obtain ⟨u, hu, mB⟩ := (ag m hm).2 v aK
    exact List.mem_flatMap.2 ⟨u, qb u hu, mB⟩
   ·exact ⟨.inl (lW m hm).1, fun u hu => .inr (by rw [(lW m hm).2] at hu; exact hu)⟩
 have skip : ∀ t, (∀ az, dG [t] az s → ∀ dx : al → Prop, dx (fin az o.dst (.tuple [])) → mn C az o dx) → K (jl s [t] o.dst [] (.tuple [])) (fin s o.dst (.tuple [])) → ∃ k8 ms, K k8 (dA ms s) ∧ BA C o s k8 ms := by
  intro t mA ar
  obtain ⟨lv, lW, b3⟩ := LF o.dst (.tuple [])
  refine ⟨_, lv, by rw [← b3]; exact ar, ?_, ?_, BB.1, BB.2⟩
  ·intro az ab dx lq
   exact mA az ab dx (by rw [b3]; exact lq)
  ·intro m hm
   simp only [jl, List.mem_append]
   exact ⟨.inl (lW m hm).1, fun u hu => by rw [(lW m hm).2] at hu; simp [I.ab] at hu⟩
 unfold mN at h
 split at h
 ·rename_i bA
  exact op _ (fun _ h => h) (fun az _ dx hw => by unfold mn; rw [bA]; exact hw) h
 ·rename_i t b bA
  split at h
  ·rename_i fX aa
   split at h
   ·rename_i e
    refine op (t :: use s o.bD) (fun u hu => by simp [hu]) (fun az ab dx hw => ?_) h
    have : az t = s t := ab t (by simp)
    unfold mn
    rw [bA]
    simp only [this, aa, if_pos e]
    exact hw
   ·rename_i e
    refine skip t (fun az ab dx ar => ?_) h
    have : az t = s t := ab t (by simp)
    unfold mn
    rw [bA]
    simp only [this, aa, if_neg e]
    exact ar
  ·rename_i aa
   refine skip t (fun az ab dx ar => ?_) h
   have : az t = s t := ab t (by simp)
   unfold mn
   rw [bA]
   simp only [this, aa]
   exact ar
  ·exact h.elim
def sl (C : b4) (ros : List bU) : al → List (Nat × eZ × List ho) → Prop
 | _, [] => True
 | s, e :: r => (∃ o, ros[e.1]? = some o ∧ BA C o s e.2.1 e.2.2) ∧ sl C ros (dA e.2.2 s) r
def pE (s : al) (r : List (Nat × eZ × List ho)) : al := r.foldl (fun s e => dA e.2.2 s) s
def oh (a b : List Nat) : Bool := a.all fun x => !b.contains x
theorem vU {a b : List Nat} (h : oh a b = true) : ∀ x ∈ a, x ∉ b := by
 intro x aq
 simp only [oh, List.all_eq_true] at h
 simpa using h x aq
def tN (a b : eZ) : Bool := oh b.T a.bR && oh b.T a.H && oh b.T a.T && oh a.T b.bR && oh a.T b.H && b.c
theorem U2 {ros : List bU} {s : al} {a b : Nat × eZ × List ho} {r : List (Nat × eZ × List ho)} (h : sl C ros s (a :: b :: r)) (an : tN a.2.1 b.2.1 = true) :
  sl C ros s (b :: a :: r) ∧ pE s (b :: a :: r) = pE s (a :: b :: r) := by
 obtain ⟨⟨U3, bF, R, a2, a3, a4⟩, ⟨ct, aa, hN, gT, hn, b8⟩, aW⟩ := h
 simp only [tN, Bool.and_eq_true] at an
 obtain ⟨⟨⟨⟨⟨rW, i2⟩, i3⟩, i4⟩, i5⟩, EX⟩ := an
 have GC : ∀ u ∈ b.2.1.bR, dA a.2.2 s u = s u := by
  intro u hu
  refine UK _ _ _ (fun m hm e => ?_) (b8 EX u hu)
  exact vU i4 m.x (a2 m hm).1 (e ▸ hu)
 have GD : ∀ u ∈ a.2.1.bR, dA b.2.2 s u = s u := by
  intro u hu
  refine UL _ _ _ fun m hm => ⟨fun e => ?_, fun aq => ?_⟩
  ·exact vU rW m.x (gT m hm).1 (e ▸ hu)
  ·exact vU i2 m.x (gT m hm).1 (a3 u hu _ aq)
 have LK : dA b.2.2 (dA a.2.2 s) = dA a.2.2 (dA b.2.2 s) := by
  refine UN _ _ _ fun m hm n bc => ⟨fun e => ?_, fun h => ?_, fun h => ?_⟩
  ·exact vU i3 n.x (gT n bc).1 (e ▸ (a2 m hm).1)
  ·exact vU i2 n.x (gT n bc).1 ((a2 m hm).2 _ h)
  ·exact vU i5 m.x (a2 m hm).1 ((gT n bc).2 _ h)
 refine ⟨⟨⟨ct, aa, ?_, gT, ?_, ?_⟩, ⟨U3, bF, ?_, a2, ?_, ?_⟩, ?_⟩, ?_⟩
 ·intro az ab K ar
  exact hN az (fun u hu => (ab u hu).trans (GC u hu).symm) K ar
 ·intro u hu x aq
  exact hn u hu x (by rw [GC u hu]; exact aq)
 ·intro ao u hu
  have := b8 ao u hu
  rwa [GC u hu] at this
 ·intro az ab K ar
  exact R az (fun u hu => (ab u hu).trans (GD u hu)) K ar
 ·intro u hu x aq
  rw [GD u hu] at aq
  exact a3 u hu x aq
 ·intro ao u hu
  rw [GD u hu]
  exact a4 ao u hu
 ·rw [← LK]; exact aW
 ·simp only [pE, List.foldl_cons]
  rw [LK]
theorem U4 {ros : List bU} {e : Nat × eZ × List ho} {post : List (Nat × eZ × List ho)} : ∀ (pre : List (Nat × eZ × List ho)) (s : al), sl C ros s (pre ++ e :: post) → (∀ a ∈ pre, tN a.2.1 e.2.1 = true) →
  sl C ros s (e :: (pre ++ post)) ∧ pE s (e :: (pre ++ post)) = pE s (pre ++ e :: post) := by
 intro pre
 induction pre with
 | nil => intro s h _; exact ⟨h, rfl⟩
 | cons a pre ih =>
   intro s h an
   obtain ⟨af, ag⟩ := h
   obtain ⟨g1, g2⟩ := ih _ ag fun b aa => an b (by simp [aa])
   have ao : sl C ros s (a :: e :: (pre ++ post)) := ⟨af, g1⟩
   obtain ⟨bt, b0⟩ := U2 ao (an a (by simp))
   refine ⟨bt, b0.trans ?_⟩
   simp only [pE, List.foldl_cons, List.cons_append] at g2 ⊢
   exact g2
end
def yN : List (List Nat) → List (List Nat) → List (List Nat)
 | done, [] => done
 | done, a :: r => yN (done ++ [a ++ a.flatMap fun e => (done[e]?).getD []]) r
def nP (c4 : List (List Nat)) : List (List Nat) := yN [] c4
theorem U5 {c4 : List (List Nat)} {l : List Nat} (hl : ∀ u i v, l = u ++ i :: v → ∀ e ∈ (c4[i]?).getD [], e ∈ u) : ∀ (rest pre done : List (List Nat)), c4 = pre ++ rest → done.length = pre.length →
  (∀ u i v, l = u ++ i :: v → ∀ e ∈ (done[i]?).getD [], e ∈ u) → ∀ u i v, l = u ++ i :: v → ∀ e ∈ ((yN done rest)[i]?).getD [], e ∈ u := by
 intro rest
 induction rest with
 | nil => intro pre done _ _ h; exact h
 | cons a rest ih =>
   intro pre done LL hlen h
   simp only [yN]
   refine ih (pre ++ [a]) _ (by simp [LL]) (by simp [hlen]) ?_
   intro u i v hu e he
   by_cases an : i < done.length
   ·rw [List.getElem?_append_left an] at he
    exact h u i v hu e he
   ·rw [List.getElem?_append_right (by omega)] at he
    by_cases KI : i - done.length = 0
    ·rw [KI] at he
     simp only [List.getElem?_cons_zero, Option.getD_some, List.mem_append, List.mem_flatMap] at he
     have BC : (c4[i]?).getD [] = a := by
      have : i = pre.length := by omega
      rw [LL, this, List.getElem?_append_right (Nat.le_refl _)]; simp
     rcases he with he | ⟨gA, nN, he⟩
     ·exact hl u i v hu e (by rw [BC]; exact he)
     ·have yq := hl u i v hu gA (by rw [BC]; exact nN)
      obtain ⟨qd, ra, rfl⟩ := List.append_of_mem yq
      have := h qd gA (ra ++ i :: v) (by rw [hu]; simp) e he
      simp [this]
    ·rw [List.getElem?_eq_none (by simp; omega)] at he
     simp at he
theorem U6 {c4 : List (List Nat)} {l : List Nat} (hl : ∀ u i v, l = u ++ i :: v → ∀ e ∈ (c4[i]?).getD [], e ∈ u) : ∀ u i v, l = u ++ i :: v → ∀ e ∈ ((nP c4)[i]?).getD [], e ∈ u :=
 U5 hl c4 [] [] rfl rfl fun u i v _ e he => by simp at he
def ku (nj : List (List Nat)) : Nat → List (Nat × eZ) → List eZ → Bool
 | _, _, [] => true
 | j, es, f :: ax => (es.all fun e => ((nj[j]?).getD []).contains e.1 || tN e.2 f) && ku nj (j + 1) ((j, f) :: es) ax
def GF (nj : List (List Nat)) (a b : Nat × eZ × List ho) : Prop := a.1 ∈ (nj[b.1]?).getD [] ∨ tN a.2.1 b.2.1 = true
theorem U7 {nj : List (List Nat)} : ∀ (hJ : List (Nat × eZ × List ho)) (j : Nat) (es : List (Nat × eZ)), hJ.map (·.1) = (List.range hJ.length).map (· + j) → ku nj j es (hJ.map (·.2.1)) = true →
  hJ.Pairwise (GF nj) ∧ ∀ e ∈ es, ∀ b ∈ hJ, e.1 ∈ (nj[b.1]?).getD [] ∨ tN e.2 b.2.1 = true := by
 intro hJ
 induction hJ with
 | nil => intro j es _ _; exact ⟨.nil, fun e _ b aa => by cases aa⟩
 | cons a hJ ih =>
   intro j es tO fN
   rw [List.length_cons, List.range_succ_eq_map, List.map_cons, List.map_cons, List.map_map] at tO
   simp only [List.cons.injEq, Nat.zero_add] at tO
   obtain ⟨bw, tO⟩ := tO
   simp only [List.map_cons, ku, Bool.and_eq_true, List.all_eq_true, Bool.or_eq_true] at fN
   obtain ⟨af, ag⟩ := fN
   obtain ⟨g1, g2⟩ := ih (j + 1) _ (by rw [tO]; congr 1; funext x; simp; omega) ag
   refine ⟨.cons (fun b aa => ?_) g1, fun e he b aa => ?_⟩
   ·have := g2 (j, a.2.1) (by simp) b aa
    simp only [GF, bw]; exact this
   ·rcases List.mem_cons.1 aa with rfl | aa
    ·rw [bw]
     exact (af e he).imp (fun h => by simpa using h) id
    ·exact g2 e (by simp [he]) b aa
section
variable {C : b4}
theorem U8 {K : Option (List eZ) → al → Prop} : ∀ (os pre : List bU) (s : al) (acc : List eZ), b9 C s os (some acc) K →
  ∃ hJ, sl C (pre ++ os) s hJ ∧ hJ.map (·.1) = (List.range os.length).map (· + pre.length) ∧ K (some ((hJ.map (·.2.1)).reverse ++ acc)) (pE s hJ) := by
 intro os
 induction os with
 | nil => intro pre s acc h; exact ⟨[], trivial, rfl, h⟩
 | cons o os ih =>
   intro pre s acc h
   obtain ⟨k8, ms, af, ag⟩ := U1 h
   obtain ⟨hJ, g1, g2, g3⟩ := ih (pre ++ [o]) _ (k8 :: acc) af
   refine ⟨(pre.length, k8, ms) :: hJ, ⟨⟨o, ?_, ag⟩, ?_⟩, ?_, ?_⟩
   ·rw [List.getElem?_append_right (Nat.le_refl _)]; simp
   ·simpa using g1
   ·rw [List.length_cons, List.range_succ_eq_map, List.map_cons, List.map_cons, List.map_map, g2]
    simp only [List.cons.injEq, Nat.zero_add, true_and]
    congr 1; funext x; simp; omega
   ·simpa [pE] using g3
theorem U9 {ros : List bU} {nj : List (List Nat)} {K : al → Prop} : ∀ (l : List Nat) (hJ : List (Nat × eZ × List ho)) (s : al), sl C ros s hJ → hJ.Pairwise (GF nj) → l.Nodup → (hJ.map (·.1)).Nodup →
  (∀ i, i ∈ l ↔ i ∈ hJ.map (·.1)) → (∀ u i v, l = u ++ i :: v → ∀ e ∈ (nj[i]?).getD [], e ∈ hJ.map (·.1) → e ∈ u) → K (pE s hJ) → jk C ros s l K := by
 intro l
 induction l with
 | nil =>
   intro hJ s _ _ _ _ hm _ ar
   cases hJ with
   | nil => exact ar
   | cons e hJ => have := (hm e.1).2 (by simp); cases this
 | cons i l ih =>
   intro hJ s ao aw bc yl hm bJ ar
   obtain ⟨e, he, an⟩ := List.mem_map.1 ((hm i).1 (by simp))
   obtain ⟨pre, post, rfl⟩ := List.append_of_mem he
   have U_ : ∀ a ∈ pre, tN a.2.1 e.2.1 = true := by
    intro a bF
    have aW := (List.pairwise_append.1 aw).2.2 a bF e (by simp)
    rcases aW with aW | aW
    ·rw [an] at aW
     have := bJ [] i l rfl a.1 aW (by simp only [List.map_append, List.mem_append, List.mem_map]; exact .inl ⟨a, bF, rfl⟩)
     cases this
    ·exact aW
   obtain ⟨g1, g2⟩ := U4 pre s ao U_
   obtain ⟨⟨o, Va, BD⟩, g3⟩ := g1
   have LM : i ∉ (pre ++ post).map (·.1) := by
    have : (pre.map (·.1) ++ e.1 :: post.map (·.1)).Nodup := by simpa using yl
    have bE := (List.perm_middle.nodup_iff.1 this)
    rw [List.nodup_cons] at bE
    rw [← an]; simpa using bE.1
   simp only [jk]
   rw [← an, Va]
   refine BD.1 s (fun _ _ => rfl) _ ?_
   rw [List.nodup_cons] at bc
   refine ih (pre ++ post) _ g3 ?_ bc.2 ?_ ?_ ?_ ?_
   ·exact aw.sublist ((List.Sublist.refl pre).append (List.sublist_cons_self e post))
   ·have : (pre.map (·.1) ++ e.1 :: post.map (·.1)).Nodup := by simpa using yl
    have bE := (List.perm_middle.nodup_iff.1 this)
    rw [List.nodup_cons] at bE
    simpa using bE.2
   ·intro j
    constructor
    ·intro bw
     have af := (hm j).1 (by simp [bw])
     simp only [List.map_append, List.map_cons, List.mem_append, List.mem_cons] at af ⊢
     rcases af with af | rfl | af
     ·exact .inl af
     ·exact (bc.1 (an ▸ bw)).elim
     ·exact .inr af
    ·intro bw
     have af := (hm j).2 (by
      simp only [List.map_append, List.map_cons, List.mem_append, List.mem_cons] at bw ⊢
      exact bw.imp id .inr)
     rcases List.mem_cons.1 af with rfl | af
     ·exact (LM bw).elim
     ·exact af
   ·intro u j v hu x aq GG
    have af := bJ (i :: u) j v (by rw [hu]; rfl) x aq (by
     simp only [List.map_append, List.map_cons, List.mem_append, List.mem_cons] at GG ⊢
     exact GG.imp id .inr)
    rcases List.mem_cons.1 af with rfl | af
    ·exact (LM GG).elim
    ·exact af
   ·have : pE s (e :: (pre ++ post)) = pE (dA e.2.2 s) (pre ++ post) := rfl
    rw [← this, g2]; exact ar
theorem BE {ros : List bU} {c4 : List (List Nat)} {s : al} {K : al → Prop} (hlen : c4.length = ros.length)
  (h : b9 C s ros (some []) (fun acc s => ku (nP c4) 0 [] (acc.getD []).reverse = true ∧ K s)) : ∀ l, pC c4 l → jk C ros s l K := by
 intro l ⟨hk, l2, ys⟩
 obtain ⟨hJ, g1, g2, g3, g4⟩ := U8 ros [] s [] h
 simp only [List.nil_append, List.append_nil, List.length_nil, Option.getD_some, List.reverse_reverse] at g1 g2 g3
 have hl : hJ.length = ros.length := by have := congrArg List.length g2; simpa using this
 have tO : hJ.map (·.1) = (List.range hJ.length).map (· + 0) := by rw [g2, hl]
 have aW : hJ.map (·.1) = List.range ros.length := by rw [g2]; simp
 obtain ⟨fD, _⟩ := U7 hJ 0 [] tO g3
 refine U9 l hJ s g1 fD hk (by rw [aW]; exact List.nodup_range) (fun i => ?_) (fun u i v hu e he _ => U6 ys u i v hu e he) g4
 rw [aW, l2, hlen, List.mem_range]
end
def du (C : b4) (dst : Option Nat) (os : List bU) (K : Option (List eZ) → al → Prop) : Option (I × al) → Prop
 | some (av, s1) => b9 C (fin s1 dst av) os none K
 | none => False
def dy (C : b4) (l : List (Nat × I)) (bR cO : List Nat) (dst : Option Nat) (os : List bU) (a : List eZ) (K : Option (List eZ) → al → Prop) : Option (I × al) → Prop
 | some (av, s1) => b9 C (fin s1 dst av) os (some (jl (U l) bR dst cO av :: a)) K
 | none => False
def cu (C : b4) (l : List (Nat × I)) (dst : Option Nat) (bD : fG) (t : Nat) (b : Bool) (os : List bU) (acc : Option (List eZ)) (K : Option (List eZ) → al → Prop) : I → Prop
 | .bool fX => if fX = b then oz C (U l) bD (fun cO av s1 => b9 C (fin s1 dst av) os (qs acc (jl (U l) (t :: use (U l) bD) dst cO av)) K) else b9 C (fin (U l) dst (.tuple [])) os (qs acc (jl (U l) [t] dst [] (.tuple []))) K
 | .tuple [] => b9 C (fin (U l) dst (.tuple [])) os (qs acc (jl (U l) [t] dst [] (.tuple []))) K
 | _ => False
section
variable {C : b4} {l : List (Nat × I)} {os : List bU} {K : Option (List eZ) → al → Prop} {dst : Option Nat} {a : List eZ} {acc : Option (List eZ)}
theorem BF {s : al} {bD : fG} {K : List Nat → I → al → Prop} (bc : bD.tK = false) : oz C s bD K = (match bB C s bD with
  | some (av, s1) => K (c6 s bD) av s1
  | none => False) := by
 apply propext
 constructor
 ·intro h
  cases bD <;> first
   | (simp [fG.tK] at bc; done)
   | (obtain ⟨av, s1, af, ag⟩ := h; rw [af]; exact ag)
 ·intro h
  split at h
  ·rename_i av s1 he
   cases bD <;> first
    | (simp [fG.tK] at bc; done)
    | exact ⟨av, s1, he, h⟩
  ·exact h.elim
theorem LN : b9 C (U l) [] acc K = K acc (U l) := rfl
theorem iL {bD : fG} (bc : bD.tK = false) : b9 C (U l) (⟨dst, bD, none⟩ :: os) none K = du C dst os K (bB C (U l) bD) := by
 simp only [b9, mN, qs]
 rw [BF bc]
 cases bB C (U l) bD with
 | none => rfl
 | some p => rfl
theorem iW {bD : fG} (bc : bD.tK = false) : b9 C (U l) (⟨dst, bD, none⟩ :: os) (some a) K = dy C l (use (U l) bD) (c6 (U l) bD) dst os a K (bB C (U l) bD) := by
 simp only [b9, mN, qs]
 rw [BF bc]
 cases bB C (U l) bD with
 | none => rfl
 | some p => rfl
theorem LO {bD : fG} {t : Nat} {b : Bool} : b9 C (U l) (⟨dst, bD, some (t, b)⟩ :: os) acc K = cu C l dst bD t b os acc K (U l t) := by
 simp only [b9, mN]
 generalize U l t = v
 cases v <;> first | rfl | (rename_i vs; cases vs <;> rfl)
theorem fP {bD : fG} {t : Nat} {b : Bool} (bc : bD.tK = false) : cu C l dst bD t b os none K (.bool b) = du C dst os K (bB C (U l) bD) := by
 simp only [cu, if_true]
 rw [BF bc]
 cases bB C (U l) bD with
 | none => rfl
 | some p => rfl
theorem fQ {bD : fG} {t : Nat} {b : Bool} (bc : bD.tK = false) : cu C l dst bD t b os (some a) K (.bool b) = dy C l (t :: use (U l) bD) (c6 (U l) bD) dst os a K (bB C (U l) bD) := by
 simp only [cu, if_true]
 rw [BF bc]
 cases bB C (U l) bD with
 | none => rfl
 | some p => rfl
theorem Vb {bD : fG} {t : Nat} : cu C l dst bD t true os none K (.bool false) = b9 C (fin (U l) dst (.tuple [])) os none K ∧ cu C l dst bD t false os none K (.bool true) = b9 C (fin (U l) dst (.tuple [])) os none K ∧
  (∀ b, cu C l dst bD t b os none K (.tuple []) = b9 C (fin (U l) dst (.tuple [])) os none K) := ⟨rfl, rfl, fun _ => rfl⟩
theorem Vc {bD : fG} {t : Nat} : cu C l dst bD t true os (some a) K (.bool false) = b9 C (fin (U l) dst (.tuple [])) os (some (jl (U l) [t] dst [] (.tuple []) :: a)) K ∧
  cu C l dst bD t false os (some a) K (.bool true) = b9 C (fin (U l) dst (.tuple [])) os (some (jl (U l) [t] dst [] (.tuple []) :: a)) K ∧
  (∀ b, cu C l dst bD t b os (some a) K (.tuple []) = b9 C (fin (U l) dst (.tuple [])) os (some (jl (U l) [t] dst [] (.tuple []) :: a)) K) := ⟨rfl, rfl, fun _ => rfl⟩
theorem Vd (av : I) (s1 : al) : du C dst os K (some (av, s1)) = b9 C (fin s1 dst av) os none K := rfl
theorem Ve (bR cO : List Nat) (av : I) (s1 : al) : dy C l bR cO dst os a K (some (av, s1)) = b9 C (fin s1 dst av) os (some (jl (U l) bR dst cO av :: a)) K := rfl
def iX (s : al) : I → Option (I × al)
 | .h y q => cO s (.h y q)
 | d => some (d, s)
def sn (s : al) : I → I → I → Option (I × al)
 | .bool fX, x, y => some (if fX then x else y, s)
 | _, _, _ => none
def cZ (s : al) : Option I → Option (I × al)
 | some d => some (d, s)
 | none => none
def eD : Option al → Option (I × al)
 | some s1 => some (.hole, s1)
 | none => none
def iM (s : al) : List aH → List I
 | [] => []
 | x :: xs => aJ s x :: iM s xs
def kN (s : al) : List (Nat × aH) → List (Nat × I)
 | [] => []
 | (k, x) :: xs => (k, aJ s x) :: kN s xs
def lX (s : al) : Option aH → Option I
 | none => none
 | some x => some (aJ s x)
theorem nQ (s : al) (x : Option I) : (x.map fun d => (d, s)) = cZ s x := by cases x <;> rfl
theorem LP (x : Option al) : (x.map fun s1 => (I.hole, s1)) = eD x := by cases x <;> rfl
theorem yO (s : al) : ∀ xs : List aH, xs.map (aJ s) = iM s xs
 | [] => rfl
 | x :: xs => by simp only [List.map_cons, iM, yO s xs]
theorem GH (s : al) : ∀ xs : List (Nat × aH), (xs.map fun p => (p.1, aJ s p.2)) = kN s xs
 | [] => rfl
 | (k, x) :: xs => by simp only [List.map_cons, kN, GH s xs]
theorem Vf (s : al) (x : Option aH) : x.map (aJ s) = lX s x := by cases x <;> rfl
theorem vV (x : aH) : bB C (U l) (.cz x) = some (aJ (U l) x, U l) := by
 rfl
theorem vW (x : aH) : bB C (U l) (.fu x) = iX (U l) (aJ (U l) x) := by
 simp only [bB]; cases aJ (U l) x <;> rfl
theorem vX (c x y : aH) : bB C (U l) (.pick c x y) = sn (U l) (aJ (U l) c) (aJ (U l) x) (aJ (U l) y) := by
 simp only [bB]; cases aJ (U l) c <;> first | rfl | (rename_i b; cases b <;> rfl)
theorem vY (T : TypeId) : bB C (U l) (.g_ T) = cZ (U l) (g_ C T) := by
 simp only [bB, nQ]
theorem vZ (T : TypeId) (x : aH) : bB C (U l) (.dj T x) = dj (U l) (aJ (U l) x) := by
 rfl
theorem nR (T : TypeId) (ps : List (Nat × aH)) : bB C (U l) (.ev T ps) = ev C (U l) T (kN (U l) ps) := by
 simp only [bB, GH]
theorem v7 (T : TypeId) (n : Nat) (ps : List (Nat × aH)) : bB C (U l) (.c9 T n ps) = c9 C (U l) T n (kN (U l) ps) := by
 simp only [bB, GH]
theorem v8 (T : TypeId) (x : aH) : bB C (U l) (.cS T x) = cZ (U l) (cS C (U l) T (aJ (U l) x)) := by
 simp only [bB, nQ]
theorem v_ (T : TypeId) (x y : aH) : bB C (U l) (.gr T x y) = eD (gr C (U l) T (aJ (U l) x) (aJ (U l) y)) := by
 simp only [bB, LP]
theorem wa (x : aH) : bB C (U l) (.fs x) = cZ (U l) (fs (U l) (aJ (U l) x)) := by
 simp only [bB, nQ]
theorem wb (op : BinOp) (T : TypeId) (x y : aH) : bB C (U l) (.cf op T x y) = cZ (U l) (cf C (U l) op T (aJ (U l) x) (aJ (U l) y)) := by
 simp only [bB, nQ]
theorem wc (op : UnOp) (x : aH) : bB C (U l) (.un op x) = cZ (U l) (un op (aJ (U l) x)) := by
 simp only [bB, nQ]
theorem we (A B : TypeId) (x : aH) : bB C (U l) (.gv A B x) = cZ (U l) (gv C (U l) A B (aJ (U l) x)) := by
 simp only [bB, nQ]
theorem wg (f : FuncId) (cs : List aH) : bB C (U l) (.ji f cs) = some (.fn f (iM (U l) cs), U l) := by
 simp only [bB, yO]
theorem wh (T : TypeId) (x y : aH) : bB C (U l) (.e7 T x y) = cZ (U l) (e7 C T (aJ (U l) x) (aJ (U l) y)) := by
 simp only [bB, nQ]
theorem wi (T : TypeId) (x : aH) (df an : Option aH) : bB C (U l) (.fh T x df an) = fh C (U l) T (aJ (U l) x) (lX (U l) df) (lX (U l) an) := by
 simp only [bB, Vf]
theorem wj (T : TypeId) (x : aH) (k : Nat) : bB C (U l) (.di T x k) = cZ (U l) (di C (U l) T (aJ (U l) x) k) := by
 simp only [bB, nQ]
theorem wk (T : TypeId) (x y : aH) : bB C (U l) (.eX T x y) = cZ (U l) (eX C (U l) T (aJ (U l) x) (aJ (U l) y)) := by
 simp only [bB, nQ]
theorem wm (T : TypeId) (x y : aH) : bB C (U l) (.idx T x y) = cZ (U l) (idx C T (aJ (U l) x) (aJ (U l) y)) := by
 simp only [bB, nQ]
theorem wo (x : aH) (k : Nat) : bB C (U l) (.ex x k) = cZ (U l) (ex (U l) (aJ (U l) x) k) := by
 simp only [bB, nQ]
theorem wq (T : TypeId) (x : aH) : bB C (U l) (.len T x) = cZ (U l) (mF C (U l) T (aJ (U l) x)) := by
 simp only [bB, nQ]
theorem lA (T bR : TypeId) (x y : aH) : bB C (U l) (.app T bR x y) = mH C (U l) T bR (aJ (U l) x) (aJ (U l) y) := by
 rfl
theorem Vg :
  (∀ (x : aH) , b9 C (U l) (⟨dst, .cz x, none⟩ :: os) none K = du C dst os K (some (aJ (U l) x, U l))) ∧
  (∀ (x : aH) , b9 C (U l) (⟨dst, .fu x, none⟩ :: os) none K = du C dst os K (iX (U l) (aJ (U l) x))) ∧
  (∀ (c x y : aH) , b9 C (U l) (⟨dst, .pick c x y, none⟩ :: os) none K = du C dst os K (sn (U l) (aJ (U l) c) (aJ (U l) x) (aJ (U l) y))) ∧
  (∀ (T : TypeId) , b9 C (U l) (⟨dst, .g_ T, none⟩ :: os) none K = du C dst os K (cZ (U l) (g_ C T))) ∧
  (∀ (T : TypeId) (x : aH) , b9 C (U l) (⟨dst, .dj T x, none⟩ :: os) none K = du C dst os K (dj (U l) (aJ (U l) x))) ∧
  (∀ (T : TypeId) (ps : List (Nat × aH)) , b9 C (U l) (⟨dst, .ev T ps, none⟩ :: os) none K = du C dst os K (ev C (U l) T (kN (U l) ps))) ∧
  (∀ (T : TypeId) (n : Nat) (ps : List (Nat × aH)) , b9 C (U l) (⟨dst, .c9 T n ps, none⟩ :: os) none K = du C dst os K (c9 C (U l) T n (kN (U l) ps))) ∧
  (∀ (T : TypeId) (x : aH) , b9 C (U l) (⟨dst, .cS T x, none⟩ :: os) none K = du C dst os K (cZ (U l) (cS C (U l) T (aJ (U l) x)))) ∧
  (∀ (T : TypeId) (x y : aH) , b9 C (U l) (⟨dst, .gr T x y, none⟩ :: os) none K = du C dst os K (eD (gr C (U l) T (aJ (U l) x) (aJ (U l) y)))) ∧
  (∀ (x : aH) , b9 C (U l) (⟨dst, .fs x, none⟩ :: os) none K = du C dst os K (cZ (U l) (fs (U l) (aJ (U l) x)))) ∧
  (∀ (op : BinOp) (T : TypeId) (x y : aH) , b9 C (U l) (⟨dst, .cf op T x y, none⟩ :: os) none K = du C dst os K (cZ (U l) (cf C (U l) op T (aJ (U l) x) (aJ (U l) y)))) ∧
  (∀ (op : UnOp) (x : aH) , b9 C (U l) (⟨dst, .un op x, none⟩ :: os) none K = du C dst os K (cZ (U l) (un op (aJ (U l) x)))) ∧
  (∀ (A B : TypeId) (x : aH) , b9 C (U l) (⟨dst, .gv A B x, none⟩ :: os) none K = du C dst os K (cZ (U l) (gv C (U l) A B (aJ (U l) x)))) ∧
  (∀ (f : FuncId) (cs : List aH) , b9 C (U l) (⟨dst, .ji f cs, none⟩ :: os) none K = du C dst os K (some (.fn f (iM (U l) cs), U l))) ∧
  (∀ (T : TypeId) (x y : aH) , b9 C (U l) (⟨dst, .e7 T x y, none⟩ :: os) none K = du C dst os K (cZ (U l) (e7 C T (aJ (U l) x) (aJ (U l) y)))) ∧
  (∀ (T : TypeId) (x : aH) (df an : Option aH) , b9 C (U l) (⟨dst, .fh T x df an, none⟩ :: os) none K = du C dst os K (fh C (U l) T (aJ (U l) x) (lX (U l) df) (lX (U l) an))) ∧
  (∀ (T : TypeId) (x : aH) (k : Nat) , b9 C (U l) (⟨dst, .di T x k, none⟩ :: os) none K = du C dst os K (cZ (U l) (di C (U l) T (aJ (U l) x) k))) ∧
  (∀ (T : TypeId) (x y : aH) , b9 C (U l) (⟨dst, .eX T x y, none⟩ :: os) none K = du C dst os K (cZ (U l) (eX C (U l) T (aJ (U l) x) (aJ (U l) y)))) ∧
  (∀ (T : TypeId) (x y : aH) , b9 C (U l) (⟨dst, .idx T x y, none⟩ :: os) none K = du C dst os K (cZ (U l) (idx C T (aJ (U l) x) (aJ (U l) y)))) ∧
  (∀ (x : aH) (k : Nat) , b9 C (U l) (⟨dst, .ex x k, none⟩ :: os) none K = du C dst os K (cZ (U l) (ex (U l) (aJ (U l) x) k))) ∧
  (∀ (T : TypeId) (x : aH) , b9 C (U l) (⟨dst, .len T x, none⟩ :: os) none K = du C dst os K (cZ (U l) (mF C (U l) T (aJ (U l) x)))) ∧
  (∀ (T bR : TypeId) (x y : aH) , b9 C (U l) (⟨dst, .app T bR x y, none⟩ :: os) none K = du C dst os K (mH C (U l) T bR (aJ (U l) x) (aJ (U l) y))) :=
 ⟨fun x => (iL rfl).trans (congrArg _ (vV x)), fun x => (iL rfl).trans (congrArg _ (vW x)), fun c x y => (iL rfl).trans (congrArg _ (vX c x y)), fun T => (iL rfl).trans (congrArg _ (vY T)), fun T x => (iL rfl).trans (congrArg _ (vZ T x)), fun T ps => (iL rfl).trans (congrArg _ (nR T ps)), fun T n ps => (iL rfl).trans (congrArg _ (v7 T n ps)), fun T x => (iL rfl).trans (congrArg _ (v8 T x)), fun T x y => (iL rfl).trans (congrArg _ (v_ T x y)), fun x => (iL rfl).trans (congrArg _ (wa x)), fun op T x y => (iL rfl).trans (congrArg _ (wb op T x y)), fun op x => (iL rfl).trans (congrArg _ (wc op x)), fun A B x => (iL rfl).trans (congrArg _ (we A B x)), fun f cs => (iL rfl).trans (congrArg _ (wg f cs)), fun T x y => (iL rfl).trans (congrArg _ (wh T x y)), fun T x df an => (iL rfl).trans (congrArg _ (wi T x df an)), fun T x k => (iL rfl).trans (congrArg _ (wj T x k)), fun T x y => (iL rfl).trans (congrArg _ (wk T x y)), fun T x y => (iL rfl).trans (congrArg _ (wm T x y)), fun x k => (iL rfl).trans (congrArg _ (wo x k)), fun T x => (iL rfl).trans (congrArg _ (wq T x)), fun T bR x y => (iL rfl).trans (congrArg _ (lA T bR x y))⟩
theorem Vh :
  (∀ (x : aH) , b9 C (U l) (⟨dst, .cz x, none⟩ :: os) (some a) K = dy C l (use (U l) (.cz x)) (c6 (U l) (.cz x)) dst os a K (some (aJ (U l) x, U l))) ∧
  (∀ (x : aH) , b9 C (U l) (⟨dst, .fu x, none⟩ :: os) (some a) K = dy C l (use (U l) (.fu x)) (c6 (U l) (.fu x)) dst os a K (iX (U l) (aJ (U l) x))) ∧
  (∀ (c x y : aH) , b9 C (U l) (⟨dst, .pick c x y, none⟩ :: os) (some a) K = dy C l (use (U l) (.pick c x y)) (c6 (U l) (.pick c x y)) dst os a K (sn (U l) (aJ (U l) c) (aJ (U l) x) (aJ (U l) y))) ∧
  (∀ (T : TypeId) , b9 C (U l) (⟨dst, .g_ T, none⟩ :: os) (some a) K = dy C l (use (U l) (.g_ T)) (c6 (U l) (.g_ T)) dst os a K (cZ (U l) (g_ C T))) ∧
  (∀ (T : TypeId) (x : aH) , b9 C (U l) (⟨dst, .dj T x, none⟩ :: os) (some a) K = dy C l (use (U l) (.dj T x)) (c6 (U l) (.dj T x)) dst os a K (dj (U l) (aJ (U l) x))) ∧
  (∀ (T : TypeId) (ps : List (Nat × aH)) , b9 C (U l) (⟨dst, .ev T ps, none⟩ :: os) (some a) K = dy C l (use (U l) (.ev T ps)) (c6 (U l) (.ev T ps)) dst os a K (ev C (U l) T (kN (U l) ps))) ∧
  (∀ (T : TypeId) (n : Nat) (ps : List (Nat × aH)) , b9 C (U l) (⟨dst, .c9 T n ps, none⟩ :: os) (some a) K = dy C l (use (U l) (.c9 T n ps)) (c6 (U l) (.c9 T n ps)) dst os a K (c9 C (U l) T n (kN (U l) ps))) ∧
  (∀ (T : TypeId) (x : aH) , b9 C (U l) (⟨dst, .cS T x, none⟩ :: os) (some a) K = dy C l (use (U l) (.cS T x)) (c6 (U l) (.cS T x)) dst os a K (cZ (U l) (cS C (U l) T (aJ (U l) x)))) ∧
  (∀ (T : TypeId) (x y : aH) , b9 C (U l) (⟨dst, .gr T x y, none⟩ :: os) (some a) K = dy C l (use (U l) (.gr T x y)) (c6 (U l) (.gr T x y)) dst os a K (eD (gr C (U l) T (aJ (U l) x) (aJ (U l) y)))) ∧
  (∀ (x : aH) , b9 C (U l) (⟨dst, .fs x, none⟩ :: os) (some a) K = dy C l (use (U l) (.fs x)) (c6 (U l) (.fs x)) dst os a K (cZ (U l) (fs (U l) (aJ (U l) x)))) ∧
  (∀ (op : BinOp) (T : TypeId) (x y : aH) , b9 C (U l) (⟨dst, .cf op T x y, none⟩ :: os) (some a) K = dy C l (use (U l) (.cf op T x y)) (c6 (U l) (.cf op T x y)) dst os a K (cZ (U l) (cf C (U l) op T (aJ (U l) x) (aJ (U l) y)))) ∧
  (∀ (op : UnOp) (x : aH) , b9 C (U l) (⟨dst, .un op x, none⟩ :: os) (some a) K = dy C l (use (U l) (.un op x)) (c6 (U l) (.un op x)) dst os a K (cZ (U l) (un op (aJ (U l) x)))) ∧
  (∀ (A B : TypeId) (x : aH) , b9 C (U l) (⟨dst, .gv A B x, none⟩ :: os) (some a) K = dy C l (use (U l) (.gv A B x)) (c6 (U l) (.gv A B x)) dst os a K (cZ (U l) (gv C (U l) A B (aJ (U l) x)))) ∧
  (∀ (f : FuncId) (cs : List aH) , b9 C (U l) (⟨dst, .ji f cs, none⟩ :: os) (some a) K = dy C l (use (U l) (.ji f cs)) (c6 (U l) (.ji f cs)) dst os a K (some (.fn f (iM (U l) cs), U l))) ∧
  (∀ (T : TypeId) (x y : aH) , b9 C (U l) (⟨dst, .e7 T x y, none⟩ :: os) (some a) K = dy C l (use (U l) (.e7 T x y)) (c6 (U l) (.e7 T x y)) dst os a K (cZ (U l) (e7 C T (aJ (U l) x) (aJ (U l) y)))) ∧
  (∀ (T : TypeId) (x : aH) (df an : Option aH) , b9 C (U l) (⟨dst, .fh T x df an, none⟩ :: os) (some a) K = dy C l (use (U l) (.fh T x df an)) (c6 (U l) (.fh T x df an)) dst os a K (fh C (U l) T (aJ (U l) x) (lX (U l) df) (lX (U l) an))) ∧
  (∀ (T : TypeId) (x : aH) (k : Nat) , b9 C (U l) (⟨dst, .di T x k, none⟩ :: os) (some a) K = dy C l (use (U l) (.di T x k)) (c6 (U l) (.di T x k)) dst os a K (cZ (U l) (di C (U l) T (aJ (U l) x) k))) ∧
  (∀ (T : TypeId) (x y : aH) , b9 C (U l) (⟨dst, .eX T x y, none⟩ :: os) (some a) K = dy C l (use (U l) (.eX T x y)) (c6 (U l) (.eX T x y)) dst os a K (cZ (U l) (eX C (U l) T (aJ (U l) x) (aJ (U l) y)))) ∧
  (∀ (T : TypeId) (x y : aH) , b9 C (U l) (⟨dst, .idx T x y, none⟩ :: os) (some a) K = dy C l (use (U l) (.idx T x y)) (c6 (U l) (.idx T x y)) dst os a K (cZ (U l) (idx C T (aJ (U l) x) (aJ (U l) y)))) ∧
  (∀ (x : aH) (k : Nat) , b9 C (U l) (⟨dst, .ex x k, none⟩ :: os) (some a) K = dy C l (use (U l) (.ex x k)) (c6 (U l) (.ex x k)) dst os a K (cZ (U l) (ex (U l) (aJ (U l) x) k))) ∧
  (∀ (T : TypeId) (x : aH) , b9 C (U l) (⟨dst, .len T x, none⟩ :: os) (some a) K = dy C l (use (U l) (.len T x)) (c6 (U l) (.len T x)) dst os a K (cZ (U l) (mF C (U l) T (aJ (U l) x)))) ∧
  (∀ (T bR : TypeId) (x y : aH) , b9 C (U l) (⟨dst, .app T bR x y, none⟩ :: os) (some a) K = dy C l (use (U l) (.app T bR x y)) (c6 (U l) (.app T bR x y)) dst os a K (mH C (U l) T bR (aJ (U l) x) (aJ (U l) y))) :=
 ⟨fun x => (iW rfl).trans (congrArg _ (vV x)), fun x => (iW rfl).trans (congrArg _ (vW x)), fun c x y => (iW rfl).trans (congrArg _ (vX c x y)), fun T => (iW rfl).trans (congrArg _ (vY T)), fun T x => (iW rfl).trans (congrArg _ (vZ T x)), fun T ps => (iW rfl).trans (congrArg _ (nR T ps)), fun T n ps => (iW rfl).trans (congrArg _ (v7 T n ps)), fun T x => (iW rfl).trans (congrArg _ (v8 T x)), fun T x y => (iW rfl).trans (congrArg _ (v_ T x y)), fun x => (iW rfl).trans (congrArg _ (wa x)), fun op T x y => (iW rfl).trans (congrArg _ (wb op T x y)), fun op x => (iW rfl).trans (congrArg _ (wc op x)), fun A B x => (iW rfl).trans (congrArg _ (we A B x)), fun f cs => (iW rfl).trans (congrArg _ (wg f cs)), fun T x y => (iW rfl).trans (congrArg _ (wh T x y)), fun T x df an => (iW rfl).trans (congrArg _ (wi T x df an)), fun T x k => (iW rfl).trans (congrArg _ (wj T x k)), fun T x y => (iW rfl).trans (congrArg _ (wk T x y)), fun T x y => (iW rfl).trans (congrArg _ (wm T x y)), fun x k => (iW rfl).trans (congrArg _ (wo x k)), fun T x => (iW rfl).trans (congrArg _ (wq T x)), fun T bR x y => (iW rfl).trans (congrArg _ (lA T bR x y))⟩
theorem Vi :
  (∀ (x : aH) (t : Nat), cu C l dst (.cz x) t true os none K (.bool true) = du C dst os K (some (aJ (U l) x, U l))) ∧
  (∀ (x : aH) (t : Nat), cu C l dst (.cz x) t false os none K (.bool false) = du C dst os K (some (aJ (U l) x, U l))) ∧
  (∀ (x : aH) (t : Nat), cu C l dst (.fu x) t true os none K (.bool true) = du C dst os K (iX (U l) (aJ (U l) x))) ∧
  (∀ (x : aH) (t : Nat), cu C l dst (.fu x) t false os none K (.bool false) = du C dst os K (iX (U l) (aJ (U l) x))) ∧
  (∀ (c x y : aH) (t : Nat), cu C l dst (.pick c x y) t true os none K (.bool true) = du C dst os K (sn (U l) (aJ (U l) c) (aJ (U l) x) (aJ (U l) y))) ∧
  (∀ (c x y : aH) (t : Nat), cu C l dst (.pick c x y) t false os none K (.bool false) = du C dst os K (sn (U l) (aJ (U l) c) (aJ (U l) x) (aJ (U l) y))) ∧
  (∀ (T : TypeId) (t : Nat), cu C l dst (.g_ T) t true os none K (.bool true) = du C dst os K (cZ (U l) (g_ C T))) ∧
  (∀ (T : TypeId) (t : Nat), cu C l dst (.g_ T) t false os none K (.bool false) = du C dst os K (cZ (U l) (g_ C T))) ∧
  (∀ (T : TypeId) (x : aH) (t : Nat), cu C l dst (.dj T x) t true os none K (.bool true) = du C dst os K (dj (U l) (aJ (U l) x))) ∧
  (∀ (T : TypeId) (x : aH) (t : Nat), cu C l dst (.dj T x) t false os none K (.bool false) = du C dst os K (dj (U l) (aJ (U l) x))) ∧
  (∀ (T : TypeId) (ps : List (Nat × aH)) (t : Nat), cu C l dst (.ev T ps) t true os none K (.bool true) = du C dst os K (ev C (U l) T (kN (U l) ps))) ∧
  (∀ (T : TypeId) (ps : List (Nat × aH)) (t : Nat), cu C l dst (.ev T ps) t false os none K (.bool false) = du C dst os K (ev C (U l) T (kN (U l) ps))) ∧
  (∀ (T : TypeId) (n : Nat) (ps : List (Nat × aH)) (t : Nat), cu C l dst (.c9 T n ps) t true os none K (.bool true) = du C dst os K (c9 C (U l) T n (kN (U l) ps))) ∧
  (∀ (T : TypeId) (n : Nat) (ps : List (Nat × aH)) (t : Nat), cu C l dst (.c9 T n ps) t false os none K (.bool false) = du C dst os K (c9 C (U l) T n (kN (U l) ps))) ∧
  (∀ (T : TypeId) (x : aH) (t : Nat), cu C l dst (.cS T x) t true os none K (.bool true) = du C dst os K (cZ (U l) (cS C (U l) T (aJ (U l) x)))) ∧
  (∀ (T : TypeId) (x : aH) (t : Nat), cu C l dst (.cS T x) t false os none K (.bool false) = du C dst os K (cZ (U l) (cS C (U l) T (aJ (U l) x)))) ∧
  (∀ (T : TypeId) (x y : aH) (t : Nat), cu C l dst (.gr T x y) t true os none K (.bool true) = du C dst os K (eD (gr C (U l) T (aJ (U l) x) (aJ (U l) y)))) ∧
  (∀ (T : TypeId) (x y : aH) (t : Nat), cu C l dst (.gr T x y) t false os none K (.bool false) = du C dst os K (eD (gr C (U l) T (aJ (U l) x) (aJ (U l) y)))) ∧
  (∀ (x : aH) (t : Nat), cu C l dst (.fs x) t true os none K (.bool true) = du C dst os K (cZ (U l) (fs (U l) (aJ (U l) x)))) ∧
  (∀ (x : aH) (t : Nat), cu C l dst (.fs x) t false os none K (.bool false) = du C dst os K (cZ (U l) (fs (U l) (aJ (U l) x)))) ∧
  (∀ (op : BinOp) (T : TypeId) (x y : aH) (t : Nat), cu C l dst (.cf op T x y) t true os none K (.bool true) = du C dst os K (cZ (U l) (cf C (U l) op T (aJ (U l) x) (aJ (U l) y)))) ∧
  (∀ (op : BinOp) (T : TypeId) (x y : aH) (t : Nat), cu C l dst (.cf op T x y) t false os none K (.bool false) = du C dst os K (cZ (U l) (cf C (U l) op T (aJ (U l) x) (aJ (U l) y)))) ∧
  (∀ (op : UnOp) (x : aH) (t : Nat), cu C l dst (.un op x) t true os none K (.bool true) = du C dst os K (cZ (U l) (un op (aJ (U l) x)))) ∧
  (∀ (op : UnOp) (x : aH) (t : Nat), cu C l dst (.un op x) t false os none K (.bool false) = du C dst os K (cZ (U l) (un op (aJ (U l) x)))) ∧
  (∀ (A B : TypeId) (x : aH) (t : Nat), cu C l dst (.gv A B x) t true os none K (.bool true) = du C dst os K (cZ (U l) (gv C (U l) A B (aJ (U l) x)))) ∧
  (∀ (A B : TypeId) (x : aH) (t : Nat), cu C l dst (.gv A B x) t false os none K (.bool false) = du C dst os K (cZ (U l) (gv C (U l) A B (aJ (U l) x)))) ∧
  (∀ (f : FuncId) (cs : List aH) (t : Nat), cu C l dst (.ji f cs) t true os none K (.bool true) = du C dst os K (some (.fn f (iM (U l) cs), U l))) ∧
  (∀ (f : FuncId) (cs : List aH) (t : Nat), cu C l dst (.ji f cs) t false os none K (.bool false) = du C dst os K (some (.fn f (iM (U l) cs), U l))) ∧
  (∀ (T : TypeId) (x y : aH) (t : Nat), cu C l dst (.e7 T x y) t true os none K (.bool true) = du C dst os K (cZ (U l) (e7 C T (aJ (U l) x) (aJ (U l) y)))) ∧
  (∀ (T : TypeId) (x y : aH) (t : Nat), cu C l dst (.e7 T x y) t false os none K (.bool false) = du C dst os K (cZ (U l) (e7 C T (aJ (U l) x) (aJ (U l) y)))) ∧
  (∀ (T : TypeId) (x : aH) (df an : Option aH) (t : Nat), cu C l dst (.fh T x df an) t true os none K (.bool true) = du C dst os K (fh C (U l) T (aJ (U l) x) (lX (U l) df) (lX (U l) an))) ∧
  (∀ (T : TypeId) (x : aH) (df an : Option aH) (t : Nat), cu C l dst (.fh T x df an) t false os none K (.bool false) = du C dst os K (fh C (U l) T (aJ (U l) x) (lX (U l) df) (lX (U l) an))) ∧
  (∀ (T : TypeId) (x : aH) (k : Nat) (t : Nat), cu C l dst (.di T x k) t true os none K (.bool true) = du C dst os K (cZ (U l) (di C (U l) T (aJ (U l) x) k))) ∧
  (∀ (T : TypeId) (x : aH) (k : Nat) (t : Nat), cu C l dst (.di T x k) t false os none K (.bool false) = du C dst os K (cZ (U l) (di C (U l) T (aJ (U l) x) k))) ∧
  (∀ (T : TypeId) (x y : aH) (t : Nat), cu C l dst (.eX T x y) t true os none K (.bool true) = du C dst os K (cZ (U l) (eX C (U l) T (aJ (U l) x) (aJ (U l) y)))) ∧
  (∀ (T : TypeId) (x y : aH) (t : Nat), cu C l dst (.eX T x y) t false os none K (.bool false) = du C dst os K (cZ (U l) (eX C (U l) T (aJ (U l) x) (aJ (U l) y)))) ∧
  (∀ (T : TypeId) (x y : aH) (t : Nat), cu C l dst (.idx T x y) t true os none K (.bool true) = du C dst os K (cZ (U l) (idx C T (aJ (U l) x) (aJ (U l) y)))) ∧
  (∀ (T : TypeId) (x y : aH) (t : Nat), cu C l dst (.idx T x y) t false os none K (.bool false) = du C dst os K (cZ (U l) (idx C T (aJ (U l) x) (aJ (U l) y)))) ∧
  (∀ (x : aH) (k : Nat) (t : Nat), cu C l dst (.ex x k) t true os none K (.bool true) = du C dst os K (cZ (U l) (ex (U l) (aJ (U l) x) k))) ∧
  (∀ (x : aH) (k : Nat) (t : Nat), cu C l dst (.ex x k) t false os none K (.bool false) = du C dst os K (cZ (U l) (ex (U l) (aJ (U l) x) k))) ∧
  (∀ (T : TypeId) (x : aH) (t : Nat), cu C l dst (.len T x) t true os none K (.bool true) = du C dst os K (cZ (U l) (mF C (U l) T (aJ (U l) x)))) ∧
  (∀ (T : TypeId) (x : aH) (t : Nat), cu C l dst (.len T x) t false os none K (.bool false) = du C dst os K (cZ (U l) (mF C (U l) T (aJ (U l) x)))) ∧
  (∀ (T bR : TypeId) (x y : aH) (t : Nat), cu C l dst (.app T bR x y) t true os none K (.bool true) = du C dst os K (mH C (U l) T bR (aJ (U l) x) (aJ (U l) y))) ∧
  (∀ (T bR : TypeId) (x y : aH) (t : Nat), cu C l dst (.app T bR x y) t false os none K (.bool false) = du C dst os K (mH C (U l) T bR (aJ (U l) x) (aJ (U l) y))) :=
 ⟨fun x _ => (fP rfl).trans (congrArg _ (vV x)), fun x _ => (fP rfl).trans (congrArg _ (vV x)), fun x _ => (fP rfl).trans (congrArg _ (vW x)), fun x _ => (fP rfl).trans (congrArg _ (vW x)), fun c x y _ => (fP rfl).trans (congrArg _ (vX c x y)), fun c x y _ => (fP rfl).trans (congrArg _ (vX c x y)), fun T _ => (fP rfl).trans (congrArg _ (vY T)), fun T _ => (fP rfl).trans (congrArg _ (vY T)), fun T x _ => (fP rfl).trans (congrArg _ (vZ T x)), fun T x _ => (fP rfl).trans (congrArg _ (vZ T x)), fun T ps _ => (fP rfl).trans (congrArg _ (nR T ps)), fun T ps _ => (fP rfl).trans (congrArg _ (nR T ps)), fun T n ps _ => (fP rfl).trans (congrArg _ (v7 T n ps)), fun T n ps _ => (fP rfl).trans (congrArg _ (v7 T n ps)), fun T x _ => (fP rfl).trans (congrArg _ (v8 T x)), fun T x _ => (fP rfl).trans (congrArg _ (v8 T x)), fun T x y _ => (fP rfl).trans (congrArg _ (v_ T x y)), fun T x y _ => (fP rfl).trans (congrArg _ (v_ T x y)), fun x _ => (fP rfl).trans (congrArg _ (wa x)), fun x _ => (fP rfl).trans (congrArg _ (wa x)), fun op T x y _ => (fP rfl).trans (congrArg _ (wb op T x y)), fun op T x y _ => (fP rfl).trans (congrArg _ (wb op T x y)), fun op x _ => (fP rfl).trans (congrArg _ (wc op x)), fun op x _ => (fP rfl).trans (congrArg _ (wc op x)), fun A B x _ => (fP rfl).trans (congrArg _ (we A B x)), fun A B x _ => (fP rfl).trans (congrArg _ (we A B x)), fun f cs _ => (fP rfl).trans (congrArg _ (wg f cs)), fun f cs _ => (fP rfl).trans (congrArg _ (wg f cs)), fun T x y _ => (fP rfl).trans (congrArg _ (wh T x y)), fun T x y _ => (fP rfl).trans (congrArg _ (wh T x y)), fun T x df an _ => (fP rfl).trans (congrArg _ (wi T x df an)), fun T x df an _ => (fP rfl).trans (congrArg _ (wi T x df an)), fun T x k _ => (fP rfl).trans (congrArg _ (wj T x k)), fun T x k _ => (fP rfl).trans (congrArg _ (wj T x k)), fun T x y _ => (fP rfl).trans (congrArg _ (wk T x y)), fun T x y _ => (fP rfl).trans (congrArg _ (wk T x y)), fun T x y _ => (fP rfl).trans (congrArg _ (wm T x y)), fun T x y _ => (fP rfl).trans (congrArg _ (wm T x y)), fun x k _ => (fP rfl).trans (congrArg _ (wo x k)), fun x k _ => (fP rfl).trans (congrArg _ (wo x k)), fun T x _ => (fP rfl).trans (congrArg _ (wq T x)), fun T x _ => (fP rfl).trans (congrArg _ (wq T x)), fun T bR x y _ => (fP rfl).trans (congrArg _ (lA T bR x y)), fun T bR x y _ => (fP rfl).trans (congrArg _ (lA T bR x y))⟩
theorem Vj :
  (∀ (x : aH) (t : Nat), cu C l dst (.cz x) t true os (some a) K (.bool true) = dy C l (t :: use (U l) (.cz x)) (c6 (U l) (.cz x)) dst os a K (some (aJ (U l) x, U l))) ∧
  (∀ (x : aH) (t : Nat), cu C l dst (.cz x) t false os (some a) K (.bool false) = dy C l (t :: use (U l) (.cz x)) (c6 (U l) (.cz x)) dst os a K (some (aJ (U l) x, U l))) ∧
  (∀ (x : aH) (t : Nat), cu C l dst (.fu x) t true os (some a) K (.bool true) = dy C l (t :: use (U l) (.fu x)) (c6 (U l) (.fu x)) dst os a K (iX (U l) (aJ (U l) x))) ∧
  (∀ (x : aH) (t : Nat), cu C l dst (.fu x) t false os (some a) K (.bool false) = dy C l (t :: use (U l) (.fu x)) (c6 (U l) (.fu x)) dst os a K (iX (U l) (aJ (U l) x))) ∧
  (∀ (c x y : aH) (t : Nat), cu C l dst (.pick c x y) t true os (some a) K (.bool true) = dy C l (t :: use (U l) (.pick c x y)) (c6 (U l) (.pick c x y)) dst os a K (sn (U l) (aJ (U l) c) (aJ (U l) x) (aJ (U l) y))) ∧
  (∀ (c x y : aH) (t : Nat), cu C l dst (.pick c x y) t false os (some a) K (.bool false) = dy C l (t :: use (U l) (.pick c x y)) (c6 (U l) (.pick c x y)) dst os a K (sn (U l) (aJ (U l) c) (aJ (U l) x) (aJ (U l) y))) ∧
  (∀ (T : TypeId) (t : Nat), cu C l dst (.g_ T) t true os (some a) K (.bool true) = dy C l (t :: use (U l) (.g_ T)) (c6 (U l) (.g_ T)) dst os a K (cZ (U l) (g_ C T))) ∧
  (∀ (T : TypeId) (t : Nat), cu C l dst (.g_ T) t false os (some a) K (.bool false) = dy C l (t :: use (U l) (.g_ T)) (c6 (U l) (.g_ T)) dst os a K (cZ (U l) (g_ C T))) ∧
  (∀ (T : TypeId) (x : aH) (t : Nat), cu C l dst (.dj T x) t true os (some a) K (.bool true) = dy C l (t :: use (U l) (.dj T x)) (c6 (U l) (.dj T x)) dst os a K (dj (U l) (aJ (U l) x))) ∧
  (∀ (T : TypeId) (x : aH) (t : Nat), cu C l dst (.dj T x) t false os (some a) K (.bool false) = dy C l (t :: use (U l) (.dj T x)) (c6 (U l) (.dj T x)) dst os a K (dj (U l) (aJ (U l) x))) ∧
  (∀ (T : TypeId) (ps : List (Nat × aH)) (t : Nat), cu C l dst (.ev T ps) t true os (some a) K (.bool true) = dy C l (t :: use (U l) (.ev T ps)) (c6 (U l) (.ev T ps)) dst os a K (ev C (U l) T (kN (U l) ps))) ∧
  (∀ (T : TypeId) (ps : List (Nat × aH)) (t : Nat), cu C l dst (.ev T ps) t false os (some a) K (.bool false) = dy C l (t :: use (U l) (.ev T ps)) (c6 (U l) (.ev T ps)) dst os a K (ev C (U l) T (kN (U l) ps))) ∧
  (∀ (T : TypeId) (n : Nat) (ps : List (Nat × aH)) (t : Nat), cu C l dst (.c9 T n ps) t true os (some a) K (.bool true) = dy C l (t :: use (U l) (.c9 T n ps)) (c6 (U l) (.c9 T n ps)) dst os a K (c9 C (U l) T n (kN (U l) ps))) ∧
  (∀ (T : TypeId) (n : Nat) (ps : List (Nat × aH)) (t : Nat), cu C l dst (.c9 T n ps) t false os (some a) K (.bool false) = dy C l (t :: use (U l) (.c9 T n ps)) (c6 (U l) (.c9 T n ps)) dst os a K (c9 C (U l) T n (kN (U l) ps))) ∧
  (∀ (T : TypeId) (x : aH) (t : Nat), cu C l dst (.cS T x) t true os (some a) K (.bool true) = dy C l (t :: use (U l) (.cS T x)) (c6 (U l) (.cS T x)) dst os a K (cZ (U l) (cS C (U l) T (aJ (U l) x)))) ∧
  (∀ (T : TypeId) (x : aH) (t : Nat), cu C l dst (.cS T x) t false os (some a) K (.bool false) = dy C l (t :: use (U l) (.cS T x)) (c6 (U l) (.cS T x)) dst os a K (cZ (U l) (cS C (U l) T (aJ (U l) x)))) ∧
  (∀ (T : TypeId) (x y : aH) (t : Nat), cu C l dst (.gr T x y) t true os (some a) K (.bool true) = dy C l (t :: use (U l) (.gr T x y)) (c6 (U l) (.gr T x y)) dst os a K (eD (gr C (U l) T (aJ (U l) x) (aJ (U l) y)))) ∧
  (∀ (T : TypeId) (x y : aH) (t : Nat), cu C l dst (.gr T x y) t false os (some a) K (.bool false) = dy C l (t :: use (U l) (.gr T x y)) (c6 (U l) (.gr T x y)) dst os a K (eD (gr C (U l) T (aJ (U l) x) (aJ (U l) y)))) ∧
  (∀ (x : aH) (t : Nat), cu C l dst (.fs x) t true os (some a) K (.bool true) = dy C l (t :: use (U l) (.fs x)) (c6 (U l) (.fs x)) dst os a K (cZ (U l) (fs (U l) (aJ (U l) x)))) ∧
  (∀ (x : aH) (t : Nat), cu C l dst (.fs x) t false os (some a) K (.bool false) = dy C l (t :: use (U l) (.fs x)) (c6 (U l) (.fs x)) dst os a K (cZ (U l) (fs (U l) (aJ (U l) x)))) ∧
  (∀ (op : BinOp) (T : TypeId) (x y : aH) (t : Nat), cu C l dst (.cf op T x y) t true os (some a) K (.bool true) = dy C l (t :: use (U l) (.cf op T x y)) (c6 (U l) (.cf op T x y)) dst os a K (cZ (U l) (cf C (U l) op T (aJ (U l) x) (aJ (U l) y)))) ∧
  (∀ (op : BinOp) (T : TypeId) (x y : aH) (t : Nat), cu C l dst (.cf op T x y) t false os (some a) K (.bool false) = dy C l (t :: use (U l) (.cf op T x y)) (c6 (U l) (.cf op T x y)) dst os a K (cZ (U l) (cf C (U l) op T (aJ (U l) x) (aJ (U l) y)))) ∧
  (∀ (op : UnOp) (x : aH) (t : Nat), cu C l dst (.un op x) t true os (some a) K (.bool true) = dy C l (t :: use (U l) (.un op x)) (c6 (U l) (.un op x)) dst os a K (cZ (U l) (un op (aJ (U l) x)))) ∧
  (∀ (op : UnOp) (x : aH) (t : Nat), cu C l dst (.un op x) t false os (some a) K (.bool false) = dy C l (t :: use (U l) (.un op x)) (c6 (U l) (.un op x)) dst os a K (cZ (U l) (un op (aJ (U l) x)))) ∧
  (∀ (A B : TypeId) (x : aH) (t : Nat), cu C l dst (.gv A B x) t true os (some a) K (.bool true) = dy C l (t :: use (U l) (.gv A B x)) (c6 (U l) (.gv A B x)) dst os a K (cZ (U l) (gv C (U l) A B (aJ (U l) x)))) ∧
  (∀ (A B : TypeId) (x : aH) (t : Nat), cu C l dst (.gv A B x) t false os (some a) K (.bool false) = dy C l (t :: use (U l) (.gv A B x)) (c6 (U l) (.gv A B x)) dst os a K (cZ (U l) (gv C (U l) A B (aJ (U l) x)))) ∧
  (∀ (f : FuncId) (cs : List aH) (t : Nat), cu C l dst (.ji f cs) t true os (some a) K (.bool true) = dy C l (t :: use (U l) (.ji f cs)) (c6 (U l) (.ji f cs)) dst os a K (some (.fn f (iM (U l) cs), U l))) ∧
  (∀ (f : FuncId) (cs : List aH) (t : Nat), cu C l dst (.ji f cs) t false os (some a) K (.bool false) = dy C l (t :: use (U l) (.ji f cs)) (c6 (U l) (.ji f cs)) dst os a K (some (.fn f (iM (U l) cs), U l))) ∧
  (∀ (T : TypeId) (x y : aH) (t : Nat), cu C l dst (.e7 T x y) t true os (some a) K (.bool true) = dy C l (t :: use (U l) (.e7 T x y)) (c6 (U l) (.e7 T x y)) dst os a K (cZ (U l) (e7 C T (aJ (U l) x) (aJ (U l) y)))) ∧
  (∀ (T : TypeId) (x y : aH) (t : Nat), cu C l dst (.e7 T x y) t false os (some a) K (.bool false) = dy C l (t :: use (U l) (.e7 T x y)) (c6 (U l) (.e7 T x y)) dst os a K (cZ (U l) (e7 C T (aJ (U l) x) (aJ (U l) y)))) ∧
  (∀ (T : TypeId) (x : aH) (df an : Option aH) (t : Nat), cu C l dst (.fh T x df an) t true os (some a) K (.bool true) = dy C l (t :: use (U l) (.fh T x df an)) (c6 (U l) (.fh T x df an)) dst os a K (fh C (U l) T (aJ (U l) x) (lX (U l) df) (lX (U l) an))) ∧
  (∀ (T : TypeId) (x : aH) (df an : Option aH) (t : Nat), cu C l dst (.fh T x df an) t false os (some a) K (.bool false) = dy C l (t :: use (U l) (.fh T x df an)) (c6 (U l) (.fh T x df an)) dst os a K (fh C (U l) T (aJ (U l) x) (lX (U l) df) (lX (U l) an))) ∧
  (∀ (T : TypeId) (x : aH) (k : Nat) (t : Nat), cu C l dst (.di T x k) t true os (some a) K (.bool true) = dy C l (t :: use (U l) (.di T x k)) (c6 (U l) (.di T x k)) dst os a K (cZ (U l) (di C (U l) T (aJ (U l) x) k))) ∧
  (∀ (T : TypeId) (x : aH) (k : Nat) (t : Nat), cu C l dst (.di T x k) t false os (some a) K (.bool false) = dy C l (t :: use (U l) (.di T x k)) (c6 (U l) (.di T x k)) dst os a K (cZ (U l) (di C (U l) T (aJ (U l) x) k))) ∧
  (∀ (T : TypeId) (x y : aH) (t : Nat), cu C l dst (.eX T x y) t true os (some a) K (.bool true) = dy C l (t :: use (U l) (.eX T x y)) (c6 (U l) (.eX T x y)) dst os a K (cZ (U l) (eX C (U l) T (aJ (U l) x) (aJ (U l) y)))) ∧
  (∀ (T : TypeId) (x y : aH) (t : Nat), cu C l dst (.eX T x y) t false os (some a) K (.bool false) = dy C l (t :: use (U l) (.eX T x y)) (c6 (U l) (.eX T x y)) dst os a K (cZ (U l) (eX C (U l) T (aJ (U l) x) (aJ (U l) y)))) ∧
  (∀ (T : TypeId) (x y : aH) (t : Nat), cu C l dst (.idx T x y) t true os (some a) K (.bool true) = dy C l (t :: use (U l) (.idx T x y)) (c6 (U l) (.idx T x y)) dst os a K (cZ (U l) (idx C T (aJ (U l) x) (aJ (U l) y)))) ∧
  (∀ (T : TypeId) (x y : aH) (t : Nat), cu C l dst (.idx T x y) t false os (some a) K (.bool false) = dy C l (t :: use (U l) (.idx T x y)) (c6 (U l) (.idx T x y)) dst os a K (cZ (U l) (idx C T (aJ (U l) x) (aJ (U l) y)))) ∧
  (∀ (x : aH) (k : Nat) (t : Nat), cu C l dst (.ex x k) t true os (some a) K (.bool true) = dy C l (t :: use (U l) (.ex x k)) (c6 (U l) (.ex x k)) dst os a K (cZ (U l) (ex (U l) (aJ (U l) x) k))) ∧
  (∀ (x : aH) (k : Nat) (t : Nat), cu C l dst (.ex x k) t false os (some a) K (.bool false) = dy C l (t :: use (U l) (.ex x k)) (c6 (U l) (.ex x k)) dst os a K (cZ (U l) (ex (U l) (aJ (U l) x) k))) ∧
  (∀ (T : TypeId) (x : aH) (t : Nat), cu C l dst (.len T x) t true os (some a) K (.bool true) = dy C l (t :: use (U l) (.len T x)) (c6 (U l) (.len T x)) dst os a K (cZ (U l) (mF C (U l) T (aJ (U l) x)))) ∧
  (∀ (T : TypeId) (x : aH) (t : Nat), cu C l dst (.len T x) t false os (some a) K (.bool false) = dy C l (t :: use (U l) (.len T x)) (c6 (U l) (.len T x)) dst os a K (cZ (U l) (mF C (U l) T (aJ (U l) x)))) ∧
  (∀ (T bR : TypeId) (x y : aH) (t : Nat), cu C l dst (.app T bR x y) t true os (some a) K (.bool true) = dy C l (t :: use (U l) (.app T bR x y)) (c6 (U l) (.app T bR x y)) dst os a K (mH C (U l) T bR (aJ (U l) x) (aJ (U l) y))) ∧
  (∀ (T bR : TypeId) (x y : aH) (t : Nat), cu C l dst (.app T bR x y) t false os (some a) K (.bool false) = dy C l (t :: use (U l) (.app T bR x y)) (c6 (U l) (.app T bR x y)) dst os a K (mH C (U l) T bR (aJ (U l) x) (aJ (U l) y))) :=
 ⟨fun x _ => (fQ rfl).trans (congrArg _ (vV x)), fun x _ => (fQ rfl).trans (congrArg _ (vV x)), fun x _ => (fQ rfl).trans (congrArg _ (vW x)), fun x _ => (fQ rfl).trans (congrArg _ (vW x)), fun c x y _ => (fQ rfl).trans (congrArg _ (vX c x y)), fun c x y _ => (fQ rfl).trans (congrArg _ (vX c x y)), fun T _ => (fQ rfl).trans (congrArg _ (vY T)), fun T _ => (fQ rfl).trans (congrArg _ (vY T)), fun T x _ => (fQ rfl).trans (congrArg _ (vZ T x)), fun T x _ => (fQ rfl).trans (congrArg _ (vZ T x)), fun T ps _ => (fQ rfl).trans (congrArg _ (nR T ps)), fun T ps _ => (fQ rfl).trans (congrArg _ (nR T ps)), fun T n ps _ => (fQ rfl).trans (congrArg _ (v7 T n ps)), fun T n ps _ => (fQ rfl).trans (congrArg _ (v7 T n ps)), fun T x _ => (fQ rfl).trans (congrArg _ (v8 T x)), fun T x _ => (fQ rfl).trans (congrArg _ (v8 T x)), fun T x y _ => (fQ rfl).trans (congrArg _ (v_ T x y)), fun T x y _ => (fQ rfl).trans (congrArg _ (v_ T x y)), fun x _ => (fQ rfl).trans (congrArg _ (wa x)), fun x _ => (fQ rfl).trans (congrArg _ (wa x)), fun op T x y _ => (fQ rfl).trans (congrArg _ (wb op T x y)), fun op T x y _ => (fQ rfl).trans (congrArg _ (wb op T x y)), fun op x _ => (fQ rfl).trans (congrArg _ (wc op x)), fun op x _ => (fQ rfl).trans (congrArg _ (wc op x)), fun A B x _ => (fQ rfl).trans (congrArg _ (we A B x)), fun A B x _ => (fQ rfl).trans (congrArg _ (we A B x)), fun f cs _ => (fQ rfl).trans (congrArg _ (wg f cs)), fun f cs _ => (fQ rfl).trans (congrArg _ (wg f cs)), fun T x y _ => (fQ rfl).trans (congrArg _ (wh T x y)), fun T x y _ => (fQ rfl).trans (congrArg _ (wh T x y)), fun T x df an _ => (fQ rfl).trans (congrArg _ (wi T x df an)), fun T x df an _ => (fQ rfl).trans (congrArg _ (wi T x df an)), fun T x k _ => (fQ rfl).trans (congrArg _ (wj T x k)), fun T x k _ => (fQ rfl).trans (congrArg _ (wj T x k)), fun T x y _ => (fQ rfl).trans (congrArg _ (wk T x y)), fun T x y _ => (fQ rfl).trans (congrArg _ (wk T x y)), fun T x y _ => (fQ rfl).trans (congrArg _ (wm T x y)), fun T x y _ => (fQ rfl).trans (congrArg _ (wm T x y)), fun x k _ => (fQ rfl).trans (congrArg _ (wo x k)), fun x k _ => (fQ rfl).trans (congrArg _ (wo x k)), fun T x _ => (fQ rfl).trans (congrArg _ (wq T x)), fun T x _ => (fQ rfl).trans (congrArg _ (wq T x)), fun T bR x y _ => (fQ rfl).trans (congrArg _ (lA T bR x y)), fun T bR x y _ => (fQ rfl).trans (congrArg _ (lA T bR x y))⟩
end
theorem LQ :
  (∀ (t : Nat) (k : IntKind) (n : Int), jr t (.int k n) = (.int k n)) ∧
  (∀ (t : Nat) (b : Bool), jr t (.bool b) = (.bool b)) ∧
  (∀ (t : Nat) (x : List UInt8), jr t (.str x) = (.str x)) ∧
  (∀ (t : Nat) (xs : List I), jr t (.slice xs) = (.slice xs)) ∧
  (∀ (t : Nat) (d : I), jr t (.ref d) = (.ref d)) ∧
  (∀ (t : Nat) (f : FuncId) (cap : List I), jr t (.fn f cap) = (.fn f cap)) ∧
  (∀ (t : Nat) (x : Nat) (q : List Nat), jr t (.h x q) = (.h x q)) ∧
  (∀ (t : Nat) (x : Nat) (q : List Nat), jr t (.aw x q) = (.aw x q)) ∧
  (∀ (t : Nat) , jr t .da = .da) ∧
  (∀ (t : Nat) , jr t .bo = .bo) ∧
  (∀ (t : Nat) , jr t .eT = .eT) ∧
  (∀ (t : Nat) , jr t .hole = .hole) ∧
  (∀ (t : Nat) (sz : Nat) (xs : List I), jr t (.au sz xs) = .h t []) ∧
  (∀ (t : Nat) (d : I), jr t (.aU d) = .h t []) ∧
  (∀ (t : Nat) (ax : List I), jr t (.agg ax) = if I.e1 ax = true then (.agg ax) else .h t []) ∧
  (∀ (t : Nat) (ax : List I), jr t (.tuple ax) = if I.e1 ax = true then (.tuple ax) else .h t []) :=
 ⟨fun _ _ _ => rfl, fun _ _ => rfl, fun _ _ => rfl, fun _ _ => rfl, fun _ _ => rfl, fun _ _ _ => rfl, fun _ _ _ => rfl, fun _ _ _ => rfl, fun _  => rfl, fun _  => rfl, fun _  => rfl, fun _  => rfl, fun _ _ _ => rfl, fun _ _ => rfl, fun _ _ => rfl, fun _ _ => rfl⟩
theorem LR :
  (∀ (l : List (Nat × I)) (av : I), fin (U l) none av = U l) ∧
  (∀ (l : List (Nat × I)) (t : Nat) (k : IntKind) (n : Int), fin (U l) (some t) (.int k n) = U ((t, (.int k n)) :: l)) ∧
  (∀ (l : List (Nat × I)) (t : Nat) (b : Bool), fin (U l) (some t) (.bool b) = U ((t, (.bool b)) :: l)) ∧
  (∀ (l : List (Nat × I)) (t : Nat) (x : List UInt8), fin (U l) (some t) (.str x) = U ((t, (.str x)) :: l)) ∧
  (∀ (l : List (Nat × I)) (t : Nat) (xs : List I), fin (U l) (some t) (.slice xs) = U ((t, (.slice xs)) :: l)) ∧
  (∀ (l : List (Nat × I)) (t : Nat) (d : I), fin (U l) (some t) (.ref d) = U ((t, (.ref d)) :: l)) ∧
  (∀ (l : List (Nat × I)) (t : Nat) (f : FuncId) (cap : List I), fin (U l) (some t) (.fn f cap) = U ((t, (.fn f cap)) :: l)) ∧
  (∀ (l : List (Nat × I)) (t : Nat) (x : Nat) (q : List Nat), fin (U l) (some t) (.h x q) = U ((t, (.h x q)) :: l)) ∧
  (∀ (l : List (Nat × I)) (t : Nat) (x : Nat) (q : List Nat), fin (U l) (some t) (.aw x q) = U ((t, (.aw x q)) :: l)) ∧
  (∀ (l : List (Nat × I)) (t : Nat) , fin (U l) (some t) .da = U ((t, .da) :: l)) ∧
  (∀ (l : List (Nat × I)) (t : Nat) , fin (U l) (some t) .bo = U ((t, .bo) :: l)) ∧
  (∀ (l : List (Nat × I)) (t : Nat) , fin (U l) (some t) .eT = U ((t, .eT) :: l)) ∧
  (∀ (l : List (Nat × I)) (t : Nat) , fin (U l) (some t) .hole = U ((t, .hole) :: l)) ∧
  (∀ (l : List (Nat × I)) (t : Nat) (sz : Nat) (xs : List I), fin (U l) (some t) (.au sz xs) = U ((t, (.au sz xs)) :: oy t l)) ∧
  (∀ (l : List (Nat × I)) (t : Nat) (d : I), fin (U l) (some t) (.aU d) = U ((t, (.aU d)) :: oy t l)) ∧
  (∀ (l : List (Nat × I)) (t : Nat) (ax : List I), fin (U l) (some t) (.agg ax) = U ((t, (.agg ax)) :: if I.e1 ax = true then l else oy t l)) ∧
  (∀ (l : List (Nat × I)) (t : Nat) (ax : List I), fin (U l) (some t) (.tuple ax) = U ((t, (.tuple ax)) :: if I.e1 ax = true then l else oy t l)) :=
 ⟨fun _ _ => rfl, fun l t _ _ => by simp only [fin, I.plain, if_true, k7], fun l t _ => by simp only [fin, I.plain, if_true, k7], fun l t _ => by simp only [fin, I.plain, if_true, k7], fun l t _ => by simp only [fin, I.plain, if_true, k7], fun l t _ => by simp only [fin, I.plain, if_true, k7], fun l t _ _ => by simp only [fin, I.plain, if_true, k7], fun l t _ _ => by simp only [fin, I.plain, if_true, k7], fun l t _ _ => by simp only [fin, I.plain, if_true, k7], fun l t  => by simp only [fin, I.plain, if_true, k7], fun l t  => by simp only [fin, I.plain, if_true, k7], fun l t  => by simp only [fin, I.plain, if_true, k7], fun l t  => by simp only [fin, I.plain, if_true, k7], fun l t _ _ => by simp only [fin, I.plain, Bool.false_eq_true, if_false, vR, k7], fun l t _ => by simp only [fin, I.plain, Bool.false_eq_true, if_false, vR, k7], fun l t _ => by simp only [fin, I.plain, vR, k7]; split <;> rfl, fun l t _ => by simp only [fin, I.plain, vR, k7]; split <;> rfl⟩
theorem LS :
  (∀ (k : IntKind) (n : Int), I.plain (.int k n) = true) ∧
  (∀ (b : Bool), I.plain (.bool b) = true) ∧
  (∀ (x : List UInt8), I.plain (.str x) = true) ∧
  (∀ (xs : List I), I.plain (.slice xs) = true) ∧
  (∀ (d : I), I.plain (.ref d) = true) ∧
  (∀ (f : FuncId) (cap : List I), I.plain (.fn f cap) = true) ∧
  (∀ (x : Nat) (q : List Nat), I.plain (.h x q) = true) ∧
  (∀ (x : Nat) (q : List Nat), I.plain (.aw x q) = true) ∧
  (I.plain .da = true) ∧
  (I.plain .bo = true) ∧
  (I.plain .eT = true) ∧
  (I.plain .hole = true) ∧
  (∀ (sz : Nat) (xs : List I), I.plain (.au sz xs) = false) ∧
  (∀ (d : I), I.plain (.aU d) = false) ∧
  (∀ (ax : List I), I.plain (.agg ax) = I.e1 ax) ∧
  (∀ (ax : List I), I.plain (.tuple ax) = I.e1 ax) ∧
  (I.e1 [] = true) ∧
  (∀ d ds, I.e1 (d :: ds) = (d.plain && I.e1 ds)) :=
 ⟨fun _ _ => rfl, fun _ => rfl, fun _ => rfl, fun _ => rfl, fun _ => rfl, fun _ _ => rfl, fun _ _ => rfl, fun _ _ => rfl, rfl, rfl, rfl, rfl, fun _ _ => rfl, fun _ => rfl, fun _ => rfl, fun _ => rfl, rfl, fun _ _ => rfl⟩
theorem LU :
  (∀ (s : al) (k : IntKind) (n : Int), iX s (.int k n) = some ((.int k n), s)) ∧
  (∀ (s : al) (b : Bool), iX s (.bool b) = some ((.bool b), s)) ∧
  (∀ (s : al) (x : List UInt8), iX s (.str x) = some ((.str x), s)) ∧
  (∀ (s : al) (xs : List I), iX s (.slice xs) = some ((.slice xs), s)) ∧
  (∀ (s : al) (d : I), iX s (.ref d) = some ((.ref d), s)) ∧
  (∀ (s : al) (f : FuncId) (cap : List I), iX s (.fn f cap) = some ((.fn f cap), s)) ∧
  (∀ (s : al) (x : Nat) (q : List Nat), iX s (.aw x q) = some ((.aw x q), s)) ∧
  (∀ (s : al) , iX s .da = some (.da, s)) ∧
  (∀ (s : al) , iX s .bo = some (.bo, s)) ∧
  (∀ (s : al) , iX s .eT = some (.eT, s)) ∧
  (∀ (s : al) , iX s .hole = some (.hole, s)) ∧
  (∀ (s : al) (sz : Nat) (xs : List I), iX s (.au sz xs) = some ((.au sz xs), s)) ∧
  (∀ (s : al) (d : I), iX s (.aU d) = some ((.aU d), s)) ∧
  (∀ (s : al) (ax : List I), iX s (.agg ax) = some ((.agg ax), s)) ∧
  (∀ (s : al) (ax : List I), iX s (.tuple ax) = some ((.tuple ax), s)) ∧
  (∀ (s : al) y q, iX s (.h y q) = cO s (.h y q)) :=
 ⟨fun _ _ _ => rfl, fun _ _ => rfl, fun _ _ => rfl, fun _ _ => rfl, fun _ _ => rfl, fun _ _ _ => rfl, fun _ _ _ => rfl, fun _  => rfl, fun _  => rfl, fun _  => rfl, fun _  => rfl, fun _ _ _ => rfl, fun _ _ => rfl, fun _ _ => rfl, fun _ _ => rfl, fun _ _ _ => rfl⟩
theorem LV :
  (∀ (t : Nat) (k : IntKind) (n : Int), cR t (.int k n) = (.int k n)) ∧
  (∀ (t : Nat) (b : Bool), cR t (.bool b) = (.bool b)) ∧
  (∀ (t : Nat) (x : List UInt8), cR t (.str x) = (.str x)) ∧
  (∀ (t : Nat) (xs : List I), cR t (.slice xs) = (.slice xs)) ∧
  (∀ (t : Nat) (d : I), cR t (.ref d) = (.ref d)) ∧
  (∀ (t : Nat) , cR t .da = .da) ∧
  (∀ (t : Nat) , cR t .bo = .bo) ∧
  (∀ (t : Nat) , cR t .eT = .eT) ∧
  (∀ (t : Nat) , cR t .hole = .hole) ∧
  (∀ (t : Nat) (sz : Nat) (xs : List I), cR t (.au sz xs) = (.au sz xs)) ∧
  (∀ (t : Nat) (d : I), cR t (.aU d) = (.aU d)) ∧
  (∀ (t : Nat) (ax : List I), cR t (.agg ax) = (.agg ax)) ∧
  (∀ (t : Nat) (ax : List I), cR t (.tuple ax) = (.tuple ax)) ∧
  (∀ (t y : Nat) q, cR t (.h y q) = if y = t then .hole else .h y q) ∧
  (∀ (t y : Nat) q, cR t (.aw y q) = if y = t then .hole else .aw y q) ∧
  (∀ (t : Nat) f c, cR t (.fn f c) = .fn f (jC t c)) ∧
  (∀ t, jC t [] = []) ∧
  (∀ t d ds, jC t (d :: ds) = cR t d :: jC t ds) ∧
  (∀ t, oy t [] = []) ∧
  (∀ t u d l, oy t ((u, d) :: l) = (u, cR t d) :: oy t l) ∧
  (∀ t l, mc t (U l) = U (oy t l)) :=
 ⟨fun _ _ _ => by unfold cR; rfl, fun _ _ => by unfold cR; rfl, fun _ _ => by unfold cR; rfl, fun _ _ => by unfold cR; rfl, fun _ _ => by unfold cR; rfl, fun _  => by unfold cR; rfl, fun _  => by unfold cR; rfl, fun _  => by unfold cR; rfl, fun _  => by unfold cR; rfl, fun _ _ _ => by unfold cR; rfl, fun _ _ => by unfold cR; rfl, fun _ _ => by unfold cR; rfl, fun _ _ => by unfold cR; rfl, fun _ _ _ => by unfold cR; rfl, fun _ _ _ => by unfold cR; rfl, fun _ _ _ => by simp only [cR], fun _ => by simp only [jC], fun _ _ _ => by simp only [jC], fun _ => rfl, fun _ _ _ _ => rfl, fun t l => vR t l⟩
theorem LW :
  (∀ (t : Nat) (k : IntKind) (n : Int), cj t (.int k n) = (.int k n)) ∧
  (∀ (t : Nat) (b : Bool), cj t (.bool b) = (.bool b)) ∧
  (∀ (t : Nat) (x : List UInt8), cj t (.str x) = (.str x)) ∧
  (∀ (t : Nat) (xs : List I), cj t (.slice xs) = (.slice xs)) ∧
  (∀ (t : Nat) (d : I), cj t (.ref d) = (.ref d)) ∧
  (∀ (t : Nat) , cj t .da = .da) ∧
  (∀ (t : Nat) , cj t .bo = .bo) ∧
  (∀ (t : Nat) , cj t .eT = .eT) ∧
  (∀ (t : Nat) , cj t .hole = .hole) ∧
  (∀ (t : Nat) (sz : Nat) (xs : List I), cj t (.au sz xs) = (.au sz xs)) ∧
  (∀ (t : Nat) (d : I), cj t (.aU d) = (.aU d)) ∧
  (∀ (t : Nat) (ax : List I), cj t (.agg ax) = (.agg ax)) ∧
  (∀ (t : Nat) (ax : List I), cj t (.tuple ax) = (.tuple ax)) ∧
  (∀ (t y : Nat), cj t (.h y []) = .h y []) ∧
  (∀ (t y k : Nat) q, cj t (.h y (k :: q)) = if y = t then .hole else .h y (k :: q)) ∧
  (∀ (t y : Nat) q, cj t (.aw y q) = if y = t then .hole else .aw y q) ∧
  (∀ (t : Nat) f c, cj t (.fn f c) = .fn f (je t c)) ∧
  (∀ t, je t [] = []) ∧
  (∀ t d ds, je t (d :: ds) = cj t d :: je t ds) ∧
  (∀ t, tJ t [] = []) ∧
  (∀ t u d l, tJ t ((u, d) :: l) = (u, cj t d) :: tJ t l) ∧
  (∀ t l, hX t (U l) = U (tJ t l)) :=
 ⟨fun _ _ _ => by unfold cj; rfl, fun _ _ => by unfold cj; rfl, fun _ _ => by unfold cj; rfl, fun _ _ => by unfold cj; rfl, fun _ _ => by unfold cj; rfl, fun _  => by unfold cj; rfl, fun _  => by unfold cj; rfl, fun _  => by unfold cj; rfl, fun _  => by unfold cj; rfl, fun _ _ _ => by unfold cj; rfl, fun _ _ => by unfold cj; rfl, fun _ _ => by unfold cj; rfl, fun _ _ => by unfold cj; rfl, fun _ _ => by simp [cj], fun _ _ _ _ => by simp [cj], fun _ _ _ => by unfold cj; rfl, fun _ _ _ => by simp only [cj], fun _ => by simp only [je], fun _ _ _ => by simp only [je], fun _ => rfl, fun _ _ _ _ => rfl, fun t l => UG t l⟩
def GI : n9 → Bool → Option I
 | .bool, b => some (.bool b)
 | _, _ => none
def so (neg : Bool) : n9 → Option (Option Bool) → Option I
 | .slice _, some r => some (pj neg r)
 | _, _ => none
def tP (neg : Bool) : n9 → Option Bool → Option I
 | .ptr _, some b => some (.bool (b != neg))
 | _, _ => none
theorem LX (C : b4) (s : al) (T : TypeId) :
  (∀ op k a cL b, cf C s op T (.int k a) (.int cL b) = jt op k a cL b) ∧
  (∀ op a b, cf C s op T (.str a) (.str b) = nG op a b) ∧
  (∀ a b, cf C s .eql T (.bool a) (.bool b) = GI (C.T T).k (a == b)) ∧
  (∀ a b, cf C s .neq T (.bool a) (.bool b) = GI (C.T T).k (!(a == b))) ∧
  (∀ xs, cf C s .eql T (.slice xs) .bo = so false (C.T T).k (kd s (.slice xs))) ∧
  (∀ xs, cf C s .neq T (.slice xs) .bo = so true (C.T T).k (kd s (.slice xs))) ∧
  (cf C s .eql T .bo .bo = so false (C.T T).k (kd s .bo)) ∧
  (cf C s .neq T .bo .bo = so true (C.T T).k (kd s .bo)) ∧
  (∀ x q, cf C s .eql T (.h x q) .bo = so false (C.T T).k (kd s (.h x q))) ∧
  (∀ x q, cf C s .neq T (.h x q) .bo = so true (C.T T).k (kd s (.h x q))) ∧
  (∀ x q, cf C s .eql T (.h x q) .da = tP false (C.T T).k (lS s (.h x q))) ∧
  (∀ x q, cf C s .neq T (.h x q) .da = tP true (C.T T).k (lS s (.h x q))) ∧
  (∀ d, cf C s .eql T (.ref d) .da = tP false (C.T T).k (lS s (.ref d))) ∧
  (∀ d, cf C s .neq T (.ref d) .da = tP true (C.T T).k (lS s (.ref d))) ∧
  (cf C s .eql T .da .da = tP false (C.T T).k (lS s .da)) ∧
  (cf C s .neq T .da .da = tP true (C.T T).k (lS s .da)) := by
 refine ⟨?_, ?_, ?_, ?_, ?_, ?_, ?_, ?_, ?_, ?_, ?_, ?_, ?_, ?_, ?_, ?_⟩ <;> intros <;> first
  | rfl
  | (simp only [cf]
     generalize (C.T T).k = mC
     cases mC <;> first | rfl | (simp only [so]; generalize kd s _ = v; cases v <;> rfl) | (simp only [tP]; generalize lS s _ = v; cases v <;> (try (rename_i b; cases b)) <;> rfl))
theorem LY (k : IntKind) (a b : Int) :
  jt .add k a k b = some (.int k (k.wrap (a + b))) ∧ jt .sub k a k b = some (.int k (k.wrap (a - b))) ∧ jt .mul k a k b = some (.int k (k.wrap (a * b))) ∧
  jt .eql k a k b = some (.bool (a == b)) ∧ jt .neq k a k b = some (.bool (a != b)) ∧ jt .lss k a k b = some (.bool (decide (a < b))) ∧ jt .leq k a k b = some (.bool (decide (a ≤ b))) ∧
  jt .gtr k a k b = some (.bool (decide (b < a))) ∧ jt .geq k a k b = some (.bool (decide (b ≤ a))) ∧
  jt .and k a k b = some (.int k (bitsOf .and k a b)) ∧ jt .or k a k b = some (.int k (bitsOf .or k a b)) ∧ jt .xor k a k b = some (.int k (bitsOf .xor k a b)) ∧ jt .andNot k a k b = some (.int k (bitsOf .andNot k a b)) := by
 simp [jt]
theorem Vk {k : IntKind} {a b : Int} (h : b ≠ 0) : jt .quo k a k b = some (.int k (k.wrap (a.tdiv b))) := by simp [jt, h]
theorem Vl {k : IntKind} {a b : Int} (h : b ≠ 0) : jt .rem k a k b = some (.int k (a.tmod b)) := by simp [jt, h]
theorem LZ (a b : List UInt8) :
  nG .eql a b = some (.bool (a == b)) ∧ nG .neq a b = some (.bool !(a == b)) ∧ nG .lss a b = some (.bool (Op.bytesLess a b)) ∧
  nG .leq a b = some (.bool (Op.bytesLess a b || a == b)) ∧ nG .gtr a b = some (.bool !(Op.bytesLess a b || a == b)) ∧ nG .geq a b = some (.bool !(Op.bytesLess a b)) := by
 refine ⟨rfl, rfl, rfl, rfl, rfl, rfl⟩
theorem L0 : (∀ b, un .not (.bool b) = some (.bool !b)) ∧ (un .not .eT = some .eT) ∧ (∀ k n, un .neg (.int k n) = some (.int k (k.wrap (0 - n)))) := ⟨fun _ => rfl, rfl, fun _ _ => rfl⟩
def GJ : n9 → Option UInt8 → Option I
 | .str, some c => some (.int .u8 c.toNat)
 | _, _ => none
theorem L1 (C : b4) (T : TypeId) (l : List UInt8) (k : IntKind) (n : Int) : idx C T (.str l) (.int k n) = GJ (C.T T).k (bP l n) := by
 simp only [idx, bP]
 generalize (C.T T).k = mC
 cases mC <;> first | rfl | (simp only [GJ]; split <;> first | rfl | (cases l[n.toNat]? <;> rfl))
def GK (C : b4) : n9 → Option I → Option I
 | .slice e, some d => if (C.T e).ok = true ∧ d.wd = (C.T e).sz then some (.ref d) else none
 | _, _ => none
theorem L2 (C : b4) (s : al) (T : TypeId) (xs : List I) (k : IntKind) (n : Int) : eX C s T (.slice xs) (.int k n) = GK C (C.T T).k (bP xs n) := by
 simp only [eX, bP]
 generalize (C.T T).k = mC
 cases mC <;> first | rfl | skip
 simp only [GK]
 by_cases bn : 0 ≤ n
 ·simp only [bn, true_and, if_true]
  split
  ·cases xs[n.toNat]? <;> simp [*]
  ·cases xs[n.toNat]? <;> simp [*]
 ·simp only [bn, false_and, if_false]
def yP (C : b4) (y : Nat) (q : List Nat) (n : Int) : n9 → Option I → Option I
 | .slice e, some (.au sz xs) => if (bP xs n).isSome = true ∧ (C.T e).ok = true ∧ sz = (C.T e).sz then some (.aw y (q ++ [n.toNat])) else none
 | _, _ => none
theorem L3 (C : b4) (s : al) (T : TypeId) (y : Nat) (q : List Nat) (k : IntKind) (n : Int) : eX C s T (.h y q) (.int k n) = yP C y q n (C.T T).k (I.sub q (s y)) := by
 simp only [eX]
 generalize (C.T T).k = mC
 cases mC <;> first | rfl | skip
 rename_i e
 cases ab : I.sub q (s y) with
 | none => simp [yP]
 | some d =>
   cases d <;> first
    | (simp [yP]; done)
    | skip
   rename_i sz xs
   have bA : (bP xs n).isSome = true ↔ 0 ≤ n ∧ n.toNat < xs.length := by
    unfold bP; split <;> simp_all <;> omega
   simp only [yP, bA]
   by_cases bn : 0 ≤ n <;> by_cases af : (C.T e).ok = true <;> simp [bn, af]
def wt : n9 → al → Option (List UInt8) → Option (I × al)
 | .str, s, some t => some (.str t, s)
 | _, _, _ => none
def wu (C : b4) : n9 → al → List I → Option (List I) → Option (I × al)
 | .slice e, s, xs, some t => if (C.T e).ok = true ∧ ∀ d ∈ xs, d.wd = (C.T e).sz then some (.slice t, s) else none
 | _, _, _, _ => none
theorem L4 (C : b4) (s : al) (T : TypeId) (l : List UInt8) :
  (∀ k a cL b, fh C s T (.str l) (some (.int k a)) (some (.int cL b)) = wt (C.T T).k s (kB l a b)) ∧
  (∀ cL b, fh C s T (.str l) none (some (.int cL b)) = wt (C.T T).k s (kB l 0 b)) ∧
  (∀ k a, fh C s T (.str l) (some (.int k a)) none = wt (C.T T).k s (kB l a l.length)) := by
 have e : ∀ (df an : Option I) (a b : Int), (jc 0 df = if 0 ≤ a then some a.toNat else none) → (jc l.length an = if 0 ≤ b then some b.toNat else none) → fh C s T (.str l) df an = wt (C.T T).k s (kB l a b) := by
  intro df an a b af ag
  simp only [fh]
  generalize (C.T T).k = mC
  cases mC <;> first | rfl | skip
  simp only [af, ag, kB]
  by_cases bF : 0 ≤ a <;> by_cases aa : 0 ≤ b <;> simp only [bF, aa, if_true, if_false, wt, true_and, false_and]
  ·by_cases ao : a ≤ b ∧ b ≤ l.length
   ·rw [if_pos ⟨by omega, by omega⟩, if_pos ao]
   ·rw [if_neg (fun h => ao ⟨by omega, by omega⟩), if_neg ao]
  ·rw [if_neg (by omega)]
 exact ⟨fun k a cL b => e _ _ a b rfl rfl, fun cL b => e _ _ 0 b rfl rfl, fun k a => e _ _ a l.length rfl (by simp [jc])⟩
theorem L5 (C : b4) (s : al) (T : TypeId) (xs : List I) :
  (∀ k a cL b, fh C s T (.slice xs) (some (.int k a)) (some (.int cL b)) = wu C (C.T T).k s xs (kB xs a b)) ∧
  (∀ cL b, fh C s T (.slice xs) none (some (.int cL b)) = wu C (C.T T).k s xs (kB xs 0 b)) ∧
  (∀ k a, fh C s T (.slice xs) (some (.int k a)) none = wu C (C.T T).k s xs (kB xs a xs.length)) := by
 have e : ∀ (df an : Option I) (a b : Int), (jc 0 df = if 0 ≤ a then some a.toNat else none) → (jc xs.length an = if 0 ≤ b then some b.toNat else none) → fh C s T (.slice xs) df an = wu C (C.T T).k s xs (kB xs a b) := by
  intro df an a b af ag
  simp only [fh]
  generalize (C.T T).k = mC
  cases mC <;> first | rfl | skip
  simp only [af, ag, kB]
  by_cases bF : 0 ≤ a <;> by_cases aa : 0 ≤ b <;> simp only [bF, aa, if_true, if_false, wu, true_and, false_and]
  ·by_cases ao : a ≤ b ∧ b ≤ xs.length
   ·rw [if_pos ao]
    have af : a.toNat ≤ b.toNat := by omega
    have ag : b.toNat ≤ xs.length := by omega
    simp only [af, ag, true_and]
   ·rw [if_neg (fun h => ao ⟨by omega, by omega⟩), if_neg ao]
  ·rw [if_neg (by omega)]
 exact ⟨fun k a cL b => e _ _ a b rfl rfl, fun cL b => e _ _ 0 b rfl rfl, fun k a => e _ _ a xs.length rfl (by simp [jc])⟩
def yQ (q : List Nat) : Option I → Option I
 | some d => I.sub q d
 | none => none
theorem L6 : (∀ d, I.sub [] d = some d) ∧ (∀ k q ax, I.sub (k :: q) (.agg ax) = yQ q ax[k]?) ∧ (∀ k q ax, I.sub (k :: q) (.tuple ax) = yQ q ax[k]?) ∧ (∀ k q sz xs, I.sub (k :: q) (.au sz xs) = yQ q xs[k]?) ∧
  (∀ q d, I.sub (0 :: q) (.aU d) = I.sub q d) ∧ (∀ q d, yQ q (some d) = I.sub q d) ∧
  (∀ k q a b, I.sub (k :: q) (.int a b) = none) := by
 refine ⟨fun d => by simp [I.sub], ?_, ?_, ?_, fun q d => by simp [I.sub], fun _ _ => rfl, fun _ _ _ _ => by simp [I.sub]⟩
 ·intro k q ax; simp only [I.sub]; cases ax[k]? <;> rfl
 ·intro k q ax; simp only [I.sub]; cases ax[k]? <;> rfl
 ·intro k q sz ax; simp only [I.sub]; cases ax[k]? <;> rfl
def L7 (k : Nat) (q : List Nat) (n : I) (ax : List I) : Option I → I
 | some d => .agg (ax.set k (I.put q n d))
 | none => .agg ax
def L8 (k : Nat) (q : List Nat) (n : I) (ax : List I) : Option I → I
 | some d => .tuple (ax.set k (I.put q n d))
 | none => .tuple ax
def L9 (k : Nat) (q : List Nat) (n : I) (sz : Nat) (xs : List I) : Option I → I
 | some d => .au sz (xs.set k (I.put q n d))
 | none => .au sz xs
theorem L_ : (∀ n d, I.put [] n d = n) ∧ (∀ k q n ax, I.put (k :: q) n (.agg ax) = L7 k q n ax ax[k]?) ∧ (∀ k q n ax, I.put (k :: q) n (.tuple ax) = L8 k q n ax ax[k]?) ∧
  (∀ k q n sz xs, I.put (k :: q) n (.au sz xs) = L9 k q n sz xs xs[k]?) ∧ (∀ q n d, I.put (0 :: q) n (.aU d) = .aU (I.put q n d)) ∧
  (∀ k q n ax d, L7 k q n ax (some d) = .agg (ax.set k (I.put q n d))) ∧ (∀ k q n ax d, L8 k q n ax (some d) = .tuple (ax.set k (I.put q n d))) ∧
  (∀ k q n sz xs d, L9 k q n sz xs (some d) = .au sz (xs.set k (I.put q n d))) := by
 refine ⟨fun n d => by simp [I.put], ?_, ?_, ?_, fun q n d => by simp [I.put], fun _ _ _ _ _ => rfl, fun _ _ _ _ _ => rfl, fun _ _ _ _ _ _ => rfl⟩
 ·intro k q n ax; simp only [I.put]; cases ax[k]? <;> rfl
 ·intro k q n ax; simp only [I.put]; cases ax[k]? <;> rfl
 ·intro k q n sz ax; simp only [I.put]; cases ax[k]? <;> rfl
theorem GL : (∀ k n, I.wd (.int k n) = 1) ∧ (∀ b, I.wd (.bool b) = 1) ∧ (∀ x, I.wd (.str x) = 1) ∧ (∀ x, I.wd (.slice x) = 1) ∧ (∀ n x, I.wd (.au n x) = 1) ∧ (∀ x, I.wd (.ref x) = 1) ∧ (∀ x, I.wd (.aU x) = 1) ∧
  I.wd .bo = 1 ∧ I.wd .da = 1 ∧ I.wd .hole = 1 ∧ I.wd .eT = 1 ∧ (∀ x y, I.wd (.h x y) = 1) ∧ (∀ x y, I.wd (.aw x y) = 1) ∧ (∀ x y, I.wd (.fn x y) = 1) ∧ (∀ ax, I.wd (.agg ax) = I.ee ax) ∧ (∀ ax, I.wd (.tuple ax) = I.ee ax) ∧ I.ee [] = 0 ∧ (∀ d ds, I.ee (d :: ds) = d.wd + I.ee ds) := by
 simp [I.wd, I.ee]
theorem wv (l : List UInt8) : (∀ d ∈ l.map gu, d.wd = 1) = True := by simp [gu, I.wd]
theorem Vm {α : Type} {e : α → I} {n : Nat} (h : ∀ x, (e x).wd = n) (xs : List α) : (∀ d ∈ xs.map e, d.wd = n) = True := by
 simp only [List.mem_map, eq_iff_iff, iff_true]
 rintro d ⟨x, _, rfl⟩; exact h x
theorem Vn (C : b4) (s : al) (A B : TypeId) (k cL : IntKind) (n : Int) (ju : (C.T A).ok = true) (hA : (C.T B).k = .int cL) : gv C s A B (.int k n) = some (.int cL (cL.wrap n)) := by
 simp only [gv, ju, hA, if_true]
theorem Ma (m : Int) : gu (mx m) = .int .u8 (IntKind.u8.wrap m) := by
 have h : 0 ≤ IntKind.u8.wrap m ∧ IntKind.u8.wrap m < 256 := by rw [IntKind.wrap_u8]; omega
 simp only [gu, mx, UInt8.toNat_ofNat']
 congr 1
 omega
theorem GM (m : Int) : ((mx m).toNat : Int) = IntKind.u8.wrap m := by
 have h := Ma m
 simpa [gu] using h
section
variable {C : b4} {l : List (Nat × I)} {Q : Exit → al → Prop} {s : al}
theorem iY {ros : List bU} {k : List Nat} (h : b9 C (U l) ros none (fun _ s => Q .normal (U (hR k s)))) : cy C (.cd ros (some k)) Q (U l) := tM (fun _ _ h => h) h
theorem Mb {ros : List bU} {c4 : List (List Nat)} {k : List Nat} (hlen : c4.length = ros.length) (h : b9 C (U l) ros (some []) (fun acc s => ku (nP c4) 0 [] (acc.getD []).reverse = true ∧ Q .normal (U (hR k s)))) :
  cy C (.kM ros c4 (some k)) Q (U l) := BE hlen h
theorem Vo {a b : J} (h : ∀ ey : Exit → al → Prop, (∀ s, dY (cy C b Q) s → ey .normal s) → (∀ s, Q .ret s → ey .ret s) → (∀ i s, Q (.exit i) s → ey (.exit i) s) → cy C a ey s) : cy C (.seq a b) Q s :=
 h _ (fun _ h => h) (fun _ h => h) (fun _ _ h => h)
theorem cU {ros : List bU} {k : List Nat} {b : J} (h : b9 C (U l) ros none (fun _ s => cy C b Q (U (hR k s)))) : cy C (.seq (.cd ros (some k)) b) Q (U l) := tM (fun _ _ h => .inl h) h
theorem hc {ros : List bU} {c4 : List (List Nat)} {k : List Nat} {b : J} (hlen : c4.length = ros.length) (h : b9 C (U l) ros (some []) (fun acc s => ku (nP c4) 0 [] (acc.getD []).reverse = true ∧ cy C b Q (U (hR k s)))) :
  cy C (.seq (.kM ros c4 (some k)) b) Q (U l) := BE (K := fun s => dY (cy C b Q) (U (hR k s))) hlen (by
   have key : ∀ (os : List bU) (s : al) (acc : Option (List eZ)), b9 C s os acc (fun acc s => ku (nP c4) 0 [] (acc.getD []).reverse = true ∧ cy C b Q (U (hR k s))) →
     b9 C s os acc (fun acc s => ku (nP c4) 0 [] (acc.getD []).reverse = true ∧ dY (cy C b Q) (U (hR k s))) := by
    intro os
    induction os with
    | nil => intro s acc h; exact ⟨h.1, .inl h.2⟩
    | cons o os ih =>
      intro s acc h
      have mono : ∀ {s : al} {bD : fG} {K dx : List Nat → I → al → Prop}, (∀ a b c, K a b c → dx a b c) → oz C s bD K → oz C s bD dx := by
       intro s bD K dx ar h
       cases bD with
       | call f args =>
         obtain ⟨g, caps, ps, r, af, gM, ag, aF, a_, bI, cK, cH, fC⟩ := h
         exact ⟨g, caps, ps, r, af, gM, ag, aF, a_, bI, cK, cH, ar _ _ _ fC⟩
       | shr bD => obtain ⟨av, s1, af, ag, aF, a_⟩ := h; exact ⟨av, s1, af, ag, aF, ar _ _ _ a_⟩
       | nc f args u x =>
         obtain ⟨bt, b0, g, caps, ps, r, af, gM, ag, aF, a_, bI, cK, cH, fC, hq, h6⟩ := h
         exact ⟨bt, b0, g, caps, ps, r, af, gM, ag, aF, a_, bI, cK, cH, fC, hq, ar _ _ _ h6⟩
       | nd f args us =>
         obtain ⟨b0, g, caps, ps, r, af, gM, ag, aF, a_, bI, cK, cH, fC, hq⟩ := h
         exact ⟨b0, g, caps, ps, r, af, gM, ag, aF, a_, bI, cK, cH, fC, ar _ _ _ hq⟩
       | _ => obtain ⟨av, s1, af, ag⟩ := h; exact ⟨av, s1, af, ar _ _ _ ag⟩
      simp only [b9, mN] at h ⊢
      split
      ·rename_i bA; rw [bA] at h; exact mono (fun _ _ _ => ih _ _) h
      ·rename_i t fX bA
       rw [bA] at h
       simp only at h
       split
       ·rename_i ay4 ab
        rw [ab] at h
        simp only at h
        split
        ·rename_i aa; rw [if_pos aa] at h; exact mono (fun _ _ _ => ih _ _) h
        ·rename_i aa; rw [if_neg aa] at h; exact ih _ _ h
       ·rename_i ab; rw [ab] at h; exact ih _ _ h
       ·rename_i af ag
        split at h
        ·exact af _ (by assumption)
        ·exact ag (by assumption)
        ·exact h
   exact key _ _ _ h)
theorem lB {c : aH} {a b : J} (ao : aJ s c = .bool true) (h : cy C a Q s) : cy C (.cond c a b) Q s := by simp only [cy, ao, if_true]; exact h
theorem wx {c : aH} {a b : J} (ao : aJ s c = .bool false) (h : cy C b Q s) : cy C (.cond c a b) Q s := by simp only [cy, ao]; exact h
theorem Vp {c : aH} {a b : J} (ao : aJ s c = .eT) (af : cy C a Q s) (ag : cy C b Q s) : cy C (.cond c a b) Q s := by simp only [cy, ao]; exact ⟨af, ag⟩
theorem Vq {id : Nat} {b : J} (h : ∀ ey : Exit → al → Prop, (∀ s, Q .normal s → ey .normal s) → (∀ s, Q .ret s → ey .ret s) → (∀ s, Q .normal s → ey (.exit id) s) → (∀ i s, i ≠ id → Q (.exit i) s → ey (.exit i) s) → cy C b ey s) : cy C (.block id b) Q s :=
 h (vN id Q) (fun _ h => h) (fun _ h => h) (fun s h => by simp only [vN, if_true]; exact h) (fun i s an h => by simp only [vN, if_neg an]; exact h)
theorem eE {id : Nat} (h : Q (.exit id) s) : cy C (.exit id) Q s := h
theorem aM (h : Q .ret s) : cy C .ret Q s := h
theorem bk (h : Q .normal s) : cy C .skip Q s := h
def ei (C : b4) (b : J) (Q : Exit → al → Prop) (s : al) : Prop := ∀ Z : al → Prop, (∀ az, cy C b (andThen (dY Z) Q) az → Z az) → Z s
theorem eF {b : J} (h : dY (ei C b Q) s) : cy C (.loop b) Q s := h
theorem Vr {b : J} (h : ∀ ey : Exit → al → Prop, (∀ s, dY (ei C b Q) s → ey .normal s) → (∀ s, Q .ret s → ey .ret s) → (∀ i s, Q (.exit i) s → ey (.exit i) s) → cy C b ey s) : ei C b Q s := by
 intro Z vP
 refine vP s (Gn b ?_ (h (andThen (dY (ei C b Q)) Q) (fun _ h => h) (fun _ h => h) (fun _ _ h => h)))
 intro e az bE
 cases e with
 | normal => exact vO (fun s h => h Z vP) az bE
 | _ => exact bE
theorem bH {dL : List (Nat × I)} (h : dL.map (·.2) = dL.map fun p => s p.1) : tH s dL := by
 intro p aw
 left
 induction dL with
 | nil => cases aw
 | cons a dL ih =>
   simp only [List.map_cons, List.cons.injEq] at h
   rcases List.mem_cons.1 aw with rfl | aw
   ·exact h.1
   ·exact ih h.2 aw
end
section
variable {C : b4} {l : List (Nat × I)} {Q : Exit → al → Prop} {s : al} {os ros : List bU} {K : Option (List eZ) → al → Prop} {dst : Option Nat}
theorem Mc (l : List (Nat × I)) : (∀ n, aJ (U l) (.t n) = jr n (U l n)) ∧ (∀ av, aJ (U l) (.c av) = av) ∧ (∀ g, aJ (U l) (.f g) = .fn g []) := ⟨fun _ => rfl, fun _ => rfl, fun _ => rfl⟩
theorem Md : (∀ t, U [] t = .hole) ∧ (∀ u d (l : List (Nat × I)) t, U ((u, d) :: l) t = if t = u then d else U l t) := ⟨fun _ => rfl, fun _ _ _ _ => rfl⟩
theorem Me (s : al) : hR [] s = [] ∧ (∀ t k, hR (t :: k) s = (t, s t) :: hR k s) := ⟨rfl, fun _ _ => rfl⟩
theorem Mf (s : al) : (∀ d, cZ s (some d) = some (d, s)) ∧ (∀ s1, eD (some s1) = some (.hole, s1)) ∧ iM s [] = [] ∧ (∀ x xs, iM s (x :: xs) = aJ s x :: iM s xs) ∧ kN s [] = [] ∧ (∀ k x xs, kN s ((k, x) :: xs) = (k, aJ s x) :: kN s xs) ∧
  lX s none = none ∧ (∀ x, lX s (some x) = some (aJ s x)) ∧ (∀ b x y, sn s (.bool b) x y = some (if b = true then x else y, s)) :=
 ⟨fun _ => rfl, fun _ => rfl, rfl, fun _ _ => rfl, rfl, fun _ _ _ => rfl, rfl, fun _ => rfl, fun b _ _ => by cases b <;> rfl⟩
theorem Mg (C : b4) : (∀ e d, GK C (.slice e) (some d) = if (C.T e).ok = true ∧ d.wd = (C.T e).sz then some (.ref d) else none) ∧
  (∀ y q n e sz xs, yP C y q n (.slice e) (some (.au sz xs)) = if (bP xs n).isSome = true ∧ (C.T e).ok = true ∧ sz = (C.T e).sz then some (.aw y (q ++ [n.toNat])) else none) ∧
  (∀ e s xs t, wu C (.slice e) s xs (some t) = if (C.T e).ok = true ∧ ∀ d ∈ xs, d.wd = (C.T e).sz then some (.slice t, s) else none) :=
 ⟨fun _ _ => rfl, fun _ _ _ _ _ _ => rfl, fun _ _ _ _ => rfl⟩
theorem Mh : (∀ b, GI .bool b = some (.bool b)) ∧ (∀ c, GJ .str (some c) = some (.int .u8 c.toNat)) ∧ (∀ s t, wt .str s (some t) = some (.str t, s)) ∧ (∀ q d, yQ q (some d) = I.sub q d) :=
 ⟨fun _ => rfl, fun _ => rfl, fun _ _ => rfl, fun _ _ => rfl⟩
theorem Mi (sz bytes : Nat) (z : I) : (∀ k, gK.ok ⟨.int k, sz, bytes, z⟩ = true) ∧ gK.ok ⟨.bool, sz, bytes, z⟩ = true ∧ gK.ok ⟨.str, sz, bytes, z⟩ = true ∧ (∀ e, gK.ok ⟨.ptr e, sz, bytes, z⟩ = true) ∧ (∀ e, gK.ok ⟨.slice e, sz, bytes, z⟩ = true) ∧ (∀ e, gK.ok ⟨.struct e, sz, bytes, z⟩ = true) ∧ gK.ok ⟨.fn, sz, bytes, z⟩ = true := by
 simp [gK.ok]
theorem Mj (sz bytes : Nat) (z : I) : (∀ k, gK.flat ⟨.int k, sz, bytes, z⟩ = true) ∧ gK.flat ⟨.bool, sz, bytes, z⟩ = true ∧ gK.flat ⟨.str, sz, bytes, z⟩ = true ∧ (∀ e, gK.flat ⟨.ptr e, sz, bytes, z⟩ = true) ∧ (∀ e, gK.flat ⟨.slice e, sz, bytes, z⟩ = true) ∧ (∀ e, gK.flat ⟨.struct e, sz, bytes, z⟩ = false) ∧ gK.flat ⟨.fn, sz, bytes, z⟩ = true := by
 simp [gK.flat]
theorem yR (c : UInt8) (k : IntKind) (ar : k ≠ .i8) : k.wrap (c.toNat : Int) = (c.toNat : Int) := by
 have := c.toNat_lt
 cases k <;> first | (exact (ar rfl).elim) | (simp [IntKind.wrap, IntKind.bits, IntKind.signed]; try omega)
theorem GN (c : UInt8) : IntKind.i64.wrap (c.toNat : Int) = (c.toNat : Int) ∧ IntKind.u64.wrap (c.toNat : Int) = (c.toNat : Int) ∧ IntKind.u8.wrap (c.toNat : Int) = (c.toNat : Int) ∧ IntKind.i32.wrap (c.toNat : Int) = (c.toNat : Int) ∧ IntKind.u32.wrap (c.toNat : Int) = (c.toNat : Int) :=
 ⟨yR c _ (by simp), yR c _ (by simp), yR c _ (by simp), yR c _ (by simp), yR c _ (by simp)⟩
theorem bT {k : List Nat} {K : al → Prop} (dL : List (Nat × I)) (h : ∀ P : List (Nat × I) → Prop, P dL → b9 C (U l) ros none (fun _ s => P (hR k s))) (ar : K (U dL)) : b9 C (U l) ros none (fun _ s => K (U (hR k s))) :=
 h (fun l => K (U l)) ar
theorem gN {k : List Nat} {nj : List (List Nat)} {K : al → Prop} (dL : List (Nat × I)) (h : ∀ P : List (Nat × I) → Prop, P dL → b9 C (U l) ros (some []) (fun acc s => ku nj 0 [] (acc.getD []).reverse = true ∧ P (hR k s))) (ar : K (U dL)) :
  b9 C (U l) ros (some []) (fun acc s => ku nj 0 [] (acc.getD []).reverse = true ∧ K (U (hR k s))) :=
 h (fun l => K (U l)) ar
theorem bm.Vs (bp : C.eP) {f : FuncId} {fn : Func} {c : Code} {dh : J} {fx : List Nat} {as outs : List I} {r : I} (bz : C.P.funcs[f]? = some fn) (aa : fn.body = some c)
  (k6 : (fn.name == "runtime.NumGoroutine") = false) (ab : bu ⟨fn.ntmps, fx⟩ c = some dh.strip) (bc : as.length ≤ fn.ntmps)
  (h : ∀ Q : Exit → al → Prop, (∀ s, dY (Ends C fx fn.results.toList r outs) s → Q .ret s) → (∀ s, dY (Ends C fx fn.results.toList r outs) s → Q .normal s) → cy C dh Q (U (num 0 as))) (aw : dh.plain = true := by kernel_rfl) : bm C f as r outs := by
 refine bm.of_wp bp bz aa k6 ab bc ?_ aw
 rw [yJ]
 exact h _ (fun s h => ⟨.inr rfl, h⟩) (fun s h => ⟨.inl rfl, h⟩)
def GO : List I → I
 | [d] => d
 | ds => .tuple ds
theorem jw {fx : List Nat} {eY : List ResultVar} {r : I} {outs : List I} (ds : List I) (af : eY.map (qp C s) = ds.map some) (ag : r = GO ds) (aF : (eY.map jW).Nodup)
  (a_ : ∀ (i : Nat) (o : I), outs[i]? = some o → o = .hole ∨ (o = s i ∧ o.gL = true ∧ i ∈ fx ∧ i ∉ eY.map jW)) : Ends C fx eY r outs s := .inl ⟨ds, af, by subst ag; cases ds with | nil => rfl | cons a t => cases t <;> rfl, aF, a_⟩
theorem Vt {fx : List Nat} {eY : List ResultVar} {r : I} (t : Nat) (ds : List I) {y : Nat} {q : List Nat} {d : I} {s1 : al} (ag : r = GO ds := by cases gg (by assumption); rfl) (bn : s t = .h y q := by rfl) (ar : cO s (.h y q) = some (d, s1) := by rfl) (af : eY.map (qp C (fin s1 (some t) d)) = ds.map some := by rfl) (aF : (eY.map jW).Nodup := by decide) : Ends C fx eY r [] s :=
 .inr ⟨t, y, q, d, s1, bn, ar, ds, af, by subst ag; cases ds with | nil => rfl | cons a t => cases t <;> rfl, aF, fun i o h => by simp at h⟩
theorem Vu {fx : List Nat} {eY : List ResultVar} : ∀ (i : Nat) (o : I), ([] : List I)[i]? = some o → o = .hole ∨ (o = s i ∧ o.gL = true ∧ i ∈ fx ∧ i ∉ eY.map jW) := fun i o h => by simp at h
theorem Mk : ∀ (as ds : List I), (mM as ds).filter (·.g) = []
 | [], _ => rfl
 | _ :: _, [] => rfl
 | a :: as, d :: ds => by simp only [mM, List.filter_cons]; exact Mk as ds
theorem BG {f : aH} {args : List aH} {g : FuncId} {caps : List I} {K : List Nat → I → al → Prop} (ds : List I) (r : I)
  (af : aJ (U l) f = .fn g caps) (gM : I.e1 caps = true) (jV : views (U l) (iM (U l) args ++ caps) = some ds)
  (bI : bm C g ds r []) (cK : r.res = true) (cH : I.dV (iM (U l) args ++ caps) = [] ∨ r.c3 = true) (kr : K [] r (U l)) : oz C (U l) (.call f args) K := by
 obtain ⟨aN, aZ, aT, b2, cI, bZ, bO⟩ := UH _ _ jV
 refine ⟨g, caps, mM (iM (U l) args ++ caps) ds, r, af, gM, by rw [aN, yO], fun p aw => (aT p aw).1, b2, by rw [aZ]; exact bI.outs cI.symm, cK, ?_, by rw [bZ, bO, Mk]; exact kr⟩
 intro hl
 refine ⟨?_, fun p aw => by rw [(aT p aw).2.2.1]; rfl⟩
 rcases cH with cH | cH
 ·exfalso
  simp only [kK, List.any_eq_true] at hl
  obtain ⟨p, aw, eK⟩ := hl
  have hm := (aT p aw).2.2.2
  have : p.a.ab = [] := by
   have key : ∀ (as : List I) (a : I), a ∈ as → I.dV as = [] → a.ab = [] := by
    intro as
    induction as with
    | nil => intro a h; cases h
    | cons b as ih =>
      intro a h he
      simp only [I.dV, List.append_eq_nil_iff] at he
      rcases List.mem_cons.1 h with rfl | h
      ·exact he.1
      ·exact ih a h he.2
   exact key _ _ hm cH
  rw [this] at eK; simp at eK
 ·exact cH
theorem eQ {f : aH} {args : List aH} {g : FuncId} {caps : List I} {ds : List I} {r : I} (bI : bm C g ds r [])
  (af : aJ (U l) f = .fn g caps) (gM : I.e1 caps = true) (jV : views (U l) (iM (U l) args ++ caps) = some ds)
  (cK : r.res = true) (cH : I.dV (iM (U l) args ++ caps) = [] ∨ r.c3 = true)
  (kr : b9 C (fin (U l) dst r) os none K) : b9 C (U l) (⟨dst, .call f args, none⟩ :: os) none K := by
 simp only [b9, mN, qs]
 exact BG ds r af gM jV bI cK cH kr
theorem fR {a : List eZ} {f : aH} {args : List aH} {g : FuncId} {caps : List I} {ds : List I} {r : I} (bI : bm C g ds r [])
  (af : aJ (U l) f = .fn g caps) (gM : I.e1 caps = true) (jV : views (U l) (iM (U l) args ++ caps) = some ds)
  (cK : r.res = true) (cH : I.dV (iM (U l) args ++ caps) = [] ∨ r.c3 = true)
  (kr : b9 C (fin (U l) dst r) os (some (jl (U l) (use (U l) (.call f args)) dst [] r :: a)) K) : b9 C (U l) (⟨dst, .call f args, none⟩ :: os) (some a) K := by
 simp only [b9, mN, qs]
 exact BG ds r af gM jV bI cK cH kr
theorem ix {t : Nat} {b : Bool} {f : aH} {args : List aH} {g : FuncId} {caps : List I} {ds : List I} {r : I} (bI : bm C g ds r [])
  (af : aJ (U l) f = .fn g caps) (gM : I.e1 caps = true) (jV : views (U l) (iM (U l) args ++ caps) = some ds)
  (cK : r.res = true) (cH : I.dV (iM (U l) args ++ caps) = [] ∨ r.c3 = true)
  (kr : b9 C (fin (U l) dst r) os none K) : cu C l dst (.call f args) t b os none K (.bool b) := by
 simp only [cu, if_true]
 exact BG ds r af gM jV bI cK cH kr
theorem rm {a : List eZ} {t : Nat} {b : Bool} {f : aH} {args : List aH} {g : FuncId} {caps : List I} {ds : List I} {r : I} (bI : bm C g ds r [])
  (af : aJ (U l) f = .fn g caps) (gM : I.e1 caps = true) (jV : views (U l) (iM (U l) args ++ caps) = some ds)
  (cK : r.res = true) (cH : I.dV (iM (U l) args ++ caps) = [] ∨ r.c3 = true)
  (kr : b9 C (fin (U l) dst r) os (some (jl (U l) (t :: use (U l) (.call f args)) dst [] r :: a)) K) : cu C l dst (.call f args) t b os (some a) K (.bool b) := by
 simp only [cu, if_true]
 exact BG ds r af gM jV bI cK cH kr
theorem e3 (s : al) : views s [] = some [] ∧ (∀ d ds, views s (d :: ds) = (match view s d, views s ds with | some a, some b => some (a :: b) | _, _ => none)) ∧
  (∀ k n, view s (.int k n) = some (.int k n)) ∧ (∀ b, view s (.bool b) = some (.bool b)) ∧ (∀ x, view s (.str x) = some (.str x)) ∧ (∀ x, view s (.slice x) = some (.slice x)) ∧ (∀ x, view s (.ref x) = some (.ref x)) ∧
  view s .bo = some .bo ∧ view s .da = some .da ∧ (∀ ax, view s (.agg ax) = some (.agg ax)) ∧ (∀ f cap, view s (.fn f cap) = (views s cap).map (.fn f)) := by
 refine ⟨rfl, fun d ds => ?_, fun _ _ => rfl, fun _ => rfl, fun _ => rfl, fun _ => rfl, fun _ => rfl, rfl, rfl, fun _ => rfl, fun _ _ => by simp only [view]⟩
 simp only [views]; rfl
theorem cx {α : Type} {u e : α → I} (h : ∀ x, (u x).share = e x) (xs : List α) : I.shares (xs.map u) = xs.map e := by
 rw [I.rX]; simp [h]
theorem oA {α : Type} {u : α → I} (h : ∀ x, (u x).c3 = true) (xs : List α) : I.hZ (xs.map u) = true := by
 induction xs with
 | nil => rfl
 | cons x xs ih => simp only [List.map_cons, I.hZ, h, ih, Bool.and_self]
def sq (s : al) (H : List Nat) : List (Nat × I) → Prop
 | [] => True
 | p :: l => (p.2 = s p.1 ∨ ((s p.1).tree = true ∧ e2 (s p.1) p.2 ∧ p.1 ∉ H)) ∧ sq s H l
theorem pF {dL : List (Nat × I)} (H : List Nat) (nO : I.dV (dL.map (·.2)) = H) (h : sq s H dL) : tH s dL := by
 have key : ∀ (hk : List (Nat × I)), sq s H hk → ∀ p ∈ hk, p.2 = s p.1 ∨ ((s p.1).tree = true ∧ e2 (s p.1) p.2 ∧ p.1 ∉ H) := by
  intro hk
  induction hk with
  | nil => intro _ p aw; cases aw
  | cons a hk ih =>
    intro h p aw
    rcases List.mem_cons.1 aw with rfl | aw
    ·exact h.1
    ·exact ih h.2 p aw
 have ab : ∀ (hk : List (Nat × I)), ∀ cB ∈ hk, ∀ u ∈ cB.2.ab, u ∈ I.dV (hk.map (·.2)) := by
  intro hk
  induction hk with
  | nil => intro p aw; cases aw
  | cons a hk ih =>
    intro p aw u hu
    simp only [List.map_cons, I.dV, List.mem_append]
    rcases List.mem_cons.1 aw with rfl | aw
    ·exact .inl hu
    ·exact .inr (ih p aw u hu)
 intro p aw
 rcases key _ h p aw with af | ⟨af, ag, aF⟩
 ·exact .inl af
 ·refine .inr ⟨af, ag, fun cB ew => .inl fun hm => aF ?_⟩
  rw [← nO]; exact ab dL cB ew _ hm
theorem pG {H : List Nat} : sq s H [] := trivial
theorem lC {H : List Nat} {t : Nat} {d : I} {dL : List (Nat × I)} (h : d = s t) (hl : sq s H dL) : sq s H ((t, d) :: dL) := ⟨.inl h, hl⟩
theorem pH {H : List Nat} {t : Nat} {d bx : I} {dL : List (Nat × I)} (e : s t = d) (a1 : d.tree = true) (ai : e2 d bx) (nO : t ∉ H) (hl : sq s H dL) : sq s H ((t, bx) :: dL) := ⟨.inr ⟨by rw [e]; exact a1, by rw [e]; exact ai, nO⟩, hl⟩
theorem Ml {a b : I} (h : e2 a b) : ∀ n, kL (List.replicate n a) (List.replicate n b)
 | 0 => .nil
 | n + 1 => by simp only [List.replicate_succ]; exact .cons h (Ml h n)
theorem GP {α : Type} {sz : Nat} {u : α → I} {z : α} {a : I} (h : e2 a (u z)) (n : Nat) : e2 (.au sz (List.replicate n a)) (.au sz ((List.replicate n z).map u)) := by
 rw [List.map_replicate]; exact .au (Ml h n)
end
theorem BH {C : b4} {A B : TypeId} {cL : IntKind} (ju : (C.T A).ok = true) (hA : (C.T B).k = .int cL) : ∀ s k n, gv C s A B (.int k n) = some (.int cL (cL.wrap n)) := fun s k n => Vn C s A B k cL n ju hA
def Mm : Option I → Option I
 | some (.au 1 xs) => (bytesOf xs).map .str
 | _ => none
theorem BI {C : b4} {A B e : TypeId} (ju : (C.T A).k = .slice e) (hA : (C.T B).k = .str) (he : (C.T e).k = .int .u8) :
  (∀ s xs, gv C s A B (.slice xs) = (bytesOf xs).map .str) ∧ (∀ s, gv C s A B .bo = some (.str [])) ∧ (∀ s x q, gv C s A B (.h x q) = Mm (I.sub q (s x))) := by
 have yk : (C.T A).ok = true := by simp [gK.ok, ju]
 refine ⟨fun s xs => ?_, fun s => ?_, fun s x q => ?_⟩
 ·simp only [gv, yk, ju, hA, he, if_true]
 ·simp only [gv, yk, ju, hA, he, if_true]
 ·simp only [gv, yk, ju, hA, he, if_true]
  rfl
theorem BJ (xs : List I) : Mm (some (.au 1 xs)) = (bytesOf xs).map .str := rfl
theorem Mn (c : UInt8) (r : List I) : bytesOf (gu c :: r) = (bytesOf r).map (c :: ·) := by
 have := c.toNat_lt
 simp only [gu, bytesOf]
 rw [if_pos (by omega)]
 simp
theorem BK : bytesOf [] = some [] ∧ (∀ l : List UInt8, bytesOf (l.map gu) = some l) ∧ (∀ (c : UInt8) r, bytesOf (.int .u8 (c.toNat : Int) :: r) = (bytesOf r).map (c :: ·)) ∧
  (∀ m r, bytesOf (.int .u8 (IntKind.u8.wrap m) :: r) = (bytesOf r).map (mx m :: ·)) :=
 ⟨rfl, Su, fun c r => Mn c r, fun m r => by rw [← Ma]; exact Mn _ r⟩
theorem Mo {k : IntKind} {b : Int} (h : b ≠ 0) : ∀ a, jt .quo k a k b = some (.int k (k.wrap (a.tdiv b))) := fun _ => Vk h
theorem rn {k : IntKind} {b : Int} (h : b ≠ 0) : ∀ a, jt .rem k a k b = some (.int k (a.tmod b)) := fun _ => Vl h
theorem hd {α : Type} {e : α → I} {n : Nat} (h : ∀ x, (e x).wd = n) : ∀ xs : List α, (∀ d ∈ xs.map e, d.wd = n) = True := Vm h
theorem all_cons {P : I → Prop} (d : I) (ds : List I) : (∀ x ∈ d :: ds, P x) = (P d ∧ ∀ x ∈ ds, P x) := by simp
theorem all_nil {P : I → Prop} : (∀ x ∈ ([] : List I), P x) = True := by simp
def Mp (a b : List UInt8) : Option Unit → Option I
 | some _ => some (.str (a ++ b))
 | none => none
theorem iZ (a b : List UInt8) : nG .add a b = Mp a b (iF (a.length + b.length)) := by
 simp only [nG, iF]; split <;> rfl
theorem i1 (a b : List UInt8) (u : Unit) : Mp a b (some u) = some (.str (a ++ b)) := rfl
theorem Mq : (∀ l : List Nat, [] ++ l = l) ∧ (∀ a (l m : List Nat), (a :: l) ++ m = a :: (l ++ m)) := ⟨fun _ => rfl, fun _ _ _ => rfl⟩
def Mr (C : b4) (e bR : TypeId) : Bool := (C.T e).ok && ((C.T e).zero.wd == (C.T e).sz) && (flat (C.T e).zero).isSome && A9 C e bR
def BL (C : b4) (e : TypeId) (xs : List I) : Option (List I × al) → Option (I × al)
 | some (ck, s2) => if (∀ d ∈ ck, d.wd = (C.T e).sz) ∧ (room (C.T e).bytes (xs.length + ck.length)).isSome = true then some (.au (C.T e).sz (xs ++ ck), s2) else none
 | none => none
def GQ (C : b4) (e : TypeId) (y : I) (o : Option Nat) : Option (I × al) → Option (I × al)
 | some (.au sz xs, s1) => if sz = (C.T e).sz then BL C e xs (lT s1 (k4 o y)) else none
 | _ => none
theorem Vv (b n : Nat) : (room b n).isSome = true ↔ n * b ≤ 140737488355328 ∧ n ≤ 9223372036854775807 := by unfold room; split <;> simp_all
theorem gV {C : b4} {T bR e : TypeId} (jE : (C.T T).k = .slice e) (fN : Mr C e bR = true) : ∀ s x y, mH C s T bR x y = GQ C e y x.owner (qi C e s x) := by
 intro s x y
 simp only [Mr, Bool.and_eq_true, beq_iff_eq] at fN
 rw [FY, jE]
 simp only
 rw [if_pos ⟨fN.1.1.1, fN.1.1.2, fN.1.2, fN.2⟩]
 generalize x.owner = o
 cases qi C e s x with
 | none => rfl
 | some p =>
   obtain ⟨d, s1⟩ := p
   cases d <;> first
    | rfl
    | (simp only [GQ]
       split
       ·rename_i h; subst h
        generalize lT s1 (k4 o y) = z
        cases z with
        | none => rfl
        | some p => simp only [BL, Vv]
       ·rfl)
def Ms : Option (I × al) → Option (List I × al)
 | some (.au _ ck, s2) => some (ck, s2)
 | _ => none
theorem gW (s : al) : lT s .bo = some ([], s) ∧ (∀ ck, lT s (.slice ck) = some (ck, s)) ∧ (∀ l, lT s (.str l) = some (l.map gu, s)) ∧
  (∀ a q, lT s (.h a q) = Ms (cO s (.h a q))) ∧ (∀ n ck, Ms (some (.au n ck, s)) = some (ck, s)) :=
 ⟨rfl, fun _ => rfl, fun _ => rfl, fun _ _ => by simp only [lT]; rfl, fun _ _ => rfl⟩
theorem gX (C : b4) (e : TypeId) : (∀ s, qi C e s .bo = some (.au (C.T e).sz [], s)) ∧ (∀ s a q, qi C e s (.h a q) = cO s (.h a q)) ∧
  (∀ y o sz xs s1, GQ C e y o (some (.au sz xs, s1)) = if sz = (C.T e).sz then BL C e xs (lT s1 (k4 o y)) else none) ∧
  (∀ xs ck s2, BL C e xs (some (ck, s2)) = if (∀ d ∈ ck, d.wd = (C.T e).sz) ∧ (room (C.T e).bytes (xs.length + ck.length)).isSome = true then some (.au (C.T e).sz (xs ++ ck), s2) else none) :=
 ⟨fun _ => rfl, fun _ _ _ => rfl, fun _ _ _ _ _ => rfl, fun _ _ _ => rfl⟩
theorem ej : (∀ d, k4 none d = d) ∧ (∀ x d, k4 (some x) d = cj x d) ∧ (∀ x q, I.owner (.h x q) = some x) ∧ I.owner .bo = none :=
 ⟨fun _ => rfl, fun _ _ => rfl, fun _ _ => rfl, rfl⟩
def Mt (s : al) (x : Nat) (q : List Nat) : Option I → Option (I × al)
 | some d => if d.plain = true then none else some (d, db (hX x s) x (I.put q d.c7 (s x)))
 | none => none
theorem Mu (s : al) (x : Nat) (q : List Nat) : cO s (.h x q) = Mt s x q (I.sub q (s x)) := by
 simp only [cO]; cases I.sub q (s x) <;> rfl
theorem Mv (s : al) : (∀ x q d, Mt s x q (some d) = if d.plain = true then none else some (d, db (hX x s) x (I.put q d.c7 (s x)))) ∧ (∀ k n, cO s (.int k n) = some (.int k n, s)) ∧ (∀ b, cO s (.bool b) = some (.bool b, s)) ∧ (∀ x, cO s (.str x) = some (.str x, s)) ∧
  (∀ x, cO s (.slice x) = some (.slice x, s)) ∧ (∀ x, cO s (.ref x) = some (.ref x, s)) ∧ (∀ x, cO s (.agg x) = some (.agg x, s)) ∧ cO s .bo = some (.bo, s) ∧ cO s .da = some (.da, s) :=
 ⟨fun _ _ _ => rfl, fun _ _ => rfl, fun _ => rfl, fun _ => rfl, fun _ => rfl, fun _ => rfl, fun _ => rfl, rfl, rfl⟩
theorem Mw (l : List (Nat × I)) (t : Nat) (d : I) : db (U l) t d = U ((t, d) :: l) := k7 l t d
theorem Mx : (∀ n x, I.c7 (.au n x) = .hole) ∧ (∀ x, I.c7 (.aU x) = .hole) ∧ (∀ ax, I.c7 (.agg ax) = .agg (I.lO ax)) ∧ (∀ ax, I.c7 (.tuple ax) = .tuple (I.lO ax)) ∧ I.lO [] = [] ∧ (∀ d ds, I.lO (d :: ds) = d.c7 :: I.lO ds) ∧
  (∀ k n, I.c7 (.int k n) = .int k n) ∧ (∀ b, I.c7 (.bool b) = .bool b) ∧ (∀ x, I.c7 (.str x) = .str x) ∧ (∀ x, I.c7 (.slice x) = .slice x) ∧ (∀ x, I.c7 (.ref x) = .ref x) ∧ I.c7 .bo = .bo ∧ I.c7 .da = .da ∧ I.c7 .hole = .hole := by
 simp [I.c7, I.lO]
def tQ : Option I → Option I
 | some d => (match d with | .tuple _ => none | .ct _ => none | d => if d.plain = true then none else some d.share)
 | none => none
def tR : Option I → Option I
 | some d => (match d with | .tuple _ => none | d => some (.ref d.share))
 | none => none
theorem e4 (s : al) (x : Nat) (q : List Nat) : view s (.h x q) = tQ (I.sub q (s x)) ∧ view s (.aw x q) = (if I.fL q (s x) = true then tR (I.sub q (s x)) else none) := by
 constructor
 ·simp only [view]; rfl
 ·simp only [view]; rfl
theorem e5 : (∀ n xs, tQ (some (.au n xs)) = some (.slice (I.shares xs))) ∧ (∀ d, tQ (some (.aU d)) = some (.ref d.share)) ∧ (∀ ax, tQ (some (.agg ax)) = if I.e1 ax = true then none else some (.agg (I.shares ax))) ∧
  (∀ ax, tR (some (.agg ax)) = some (.ref (.agg (I.shares ax)))) ∧ (∀ k n, tR (some (.int k n)) = some (.ref (.int k n))) ∧ (∀ x, tR (some (.str x)) = some (.ref (.str x))) :=
 ⟨fun _ _ => by simp [tQ, I.plain, I.share], fun _ => by simp [tQ, I.plain, I.share], fun ax => by cases h : I.e1 ax <;> simp [tQ, I.plain, I.share, h], fun _ => by simp [tR, I.share], fun _ _ => by simp [tR, I.share], fun _ => by simp [tR, I.share]⟩
theorem cC : (∀ n xs, I.share (.au n xs) = .slice (I.shares xs)) ∧ (∀ d, I.share (.aU d) = .ref d.share) ∧ (∀ xs, I.share (.slice xs) = .slice (I.shares xs)) ∧ (∀ d, I.share (.ref d) = .ref d.share) ∧ (∀ ax, I.share (.agg ax) = .agg (I.shares ax)) ∧ (∀ ax, I.share (.tuple ax) = .tuple (I.shares ax)) ∧
  (∀ k n, I.share (.int k n) = .int k n) ∧ (∀ b, I.share (.bool b) = .bool b) ∧ (∀ x, I.share (.str x) = .str x) ∧ I.share .bo = .bo ∧ I.share .da = .da ∧ I.shares [] = [] ∧ (∀ d ds, I.shares (d :: ds) = d.share :: I.shares ds) := by
 simp [I.share, I.shares]
def tS (sz : Nat) : Option (List I × al) → Option (I × al)
 | some (ds, s1) => some (.au sz ds, s1)
 | none => none
def jm : Option (List I × al) → Option (I × al)
 | some (ds, s1) => some (.agg ds, s1)
 | none => none
theorem wy {C : b4} {T e n sz : Nat} {eL : List I} (jE : (C.T T).k = .slice e) (d_ : (C.T e).sz = sz) (bS : List.replicate n (C.T e).zero = eL)
  (fN : ((C.T e).ok && ((C.T e).zero.wd == sz) && (flat (C.T e).zero).isSome && (sz != 0) && decide (n * sz ≤ 16777216)) = true) : ∀ s ps, c9 C s T n ps = tS sz (dF (fun k => some (k * sz, sz)) s eL [] ps) := by
 intro s ps
 subst d_
 simp only [Bool.and_eq_true, beq_iff_eq, bne_iff_ne, decide_eq_true_eq] at fN
 obtain ⟨⟨⟨⟨af, ag⟩, aF⟩, a_⟩, bI⟩ := fN
 unfold c9
 rw [jE]
 simp only
 rw [if_pos ⟨af, ag, aF, a_, bI⟩, bS]
 cases dF (fun k => some (k * (C.T e).sz, (C.T e).sz)) s eL [] ps <;> rfl
theorem jx {C : b4} {T : Nat} {ax : List (TypeId × Nat)} {eL : List I} (jE : (C.T T).k = .struct ax) (bS : (C.T T).zero = .agg eL)
  (fN : ((flat (.agg eL)).isSome && ax.all fun f => (C.T f.1).ok) = true) : ∀ s ps, ev C s T ps = jm (dF (fun k => (ax[k]?).map fun f => (f.2, (C.T f.1).sz)) s eL [] ps) := by
 intro s ps
 simp only [Bool.and_eq_true, List.all_eq_true] at fN
 unfold ev
 rw [jE, bS]
 simp only
 rw [if_pos ⟨fN.1, fN.2⟩]
 cases dF (fun k => (ax[k]?).map fun f => (f.2, (C.T f.1).sz)) s eL [] ps <;> rfl
def hS (place : Nat → Option (Nat × Nat)) (k : Nat) (eL : List I) (os : List (Option Nat)) (r : List (Nat × I)) (o : Option Nat) : Option (Nat × Nat) → Option I → Option (I × al) → Option (List I × al)
 | some (off, n), some z, some (d, s1) => (match d with
   | .tuple _ => none
   | d => if d.wd = n ∧ z.wd = n ∧ I.ee (eL.take k) = off then dF place s1 (eL.set k d) (os ++ [o]) r else none)
 | _, _, _ => none
theorem h0 (place : Nat → Option (Nat × Nat)) (s : al) (eL : List I) (os : List (Option Nat)) : dF place s eL os [] = some (eL, s) ∧
  (∀ k a r, dF place s eL os ((k, a) :: r) = hS place k eL os r (lr os a).owner (place k) eL[k]? (cO s (lr os a))) := by
 refine ⟨rfl, fun k a r => ?_⟩
 simp only [dF]
 cases cO s (lr os a) with
 | none => cases place k <;> cases eL[k]? <;> rfl
 | some p =>
   obtain ⟨d, s1⟩ := p
   cases place k with
   | none => cases eL[k]? <;> rfl
   | some q => cases eL[k]? <;> (cases d <;> rfl)
theorem h1 : (∀ a, lr [] a = a) ∧ (∀ o os a, lr (o :: os) a = lr os (k4 o a)) := ⟨fun _ => rfl, fun _ _ _ => rfl⟩
theorem dD : (∀ k n, I.owner (.int k n) = none) ∧ (∀ b, I.owner (.bool b) = none) ∧ (∀ x, I.owner (.str x) = none) ∧ (∀ x, I.owner (.slice x) = none) ∧ (∀ x, I.owner (.ref x) = none) ∧ (∀ x, I.owner (.agg x) = none) ∧ I.owner .da = none ∧ I.owner .bo = none ∧ (∀ x q, I.owner (.h x q) = some x) :=
 ⟨fun _ _ => rfl, fun _ => rfl, fun _ => rfl, fun _ => rfl, fun _ => rfl, fun _ => rfl, rfl, rfl, fun _ _ => rfl⟩
end Go.cY
